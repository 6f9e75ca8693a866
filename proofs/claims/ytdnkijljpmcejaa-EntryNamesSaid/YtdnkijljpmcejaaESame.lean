/-
  slices.Equal, slices.EqualFunc, entry.lists, entry.Same: whether two entries are the same.
-/
import Derived.Test.YtdnkijljpmcejaaERSame
namespace Go.Proofs.Ytdnkijljpmcejaa
open Go.RowKit

set_option maxRecDepth 100000 in
set_option maxHeartbeats 400000 in
theorem equal_u64 (a a' : Option Addr) (c c' : Nat) (xs ys : List Int) (w : World) (ha : Nums .u64 w w.heap.size a xs) (ha' : Nums .u64 w w.heap.size a' ys) (hx : xs.length ≤ 9223372036854775807) (_hy : ys.length ≤ 9223372036854775807) :
    Calls Try.prog 120 #[.slice a xs.length c, .slice a' ys.length c'] w (BoolPost (xs == ys) w) := by
  by_cases hl : xs.length = ys.length
  · have hd : ((xs.length : Int) != (ys.length : Int)) = false := by simp; omega
    have HL := Lib.hid hl
    clear hl
    go_enter Try.func120, Try.ntmps120
    go_wp2_with fail
    go_loopw [13] (fun v wr => ∃ j : Nat, j ≤ xs.length ∧ v = .int .i64 j ∧ (xs.take j == ys.take j) = true ∧ Below w.heap.size w wr) (fun v _ => xs.length - (intOf v).toNat)
    case atStart => exact ⟨0, Nat.zero_le _, rfl, by simp, Below.refl _ _⟩
    case round =>
      obtain ⟨j, hj, rfl, he, hB⟩ := hrel
      by_cases hlt : j < xs.length
      · have hlt2 : j < ys.length := by rw [← HL.out]; exact hlt
        obtain ⟨p, hp⟩ : ∃ p, xs[j]? = some p := ⟨_, List.getElem?_eq_getElem hlt⟩
        obtain ⟨q, hq⟩ : ∃ q, ys[j]? = some q := ⟨_, List.getElem?_eq_getElem hlt2⟩
        rcases ha.kept hB (Nat.le_refl _) with h0 | ⟨b1, o1, rfl, hb1, hc1⟩
        · rw [h0] at hlt; simp at hlt
        rcases ha'.kept hB (Nat.le_refl _) with h0 | ⟨b2, o2, rfl, hb2, hc2⟩
        · rw [h0] at hlt2; simp at hlt2
        have e1 := hc1 j p hp
        have e2 := hc2 j q hq
        have h2I : (j : Int) < (ys.length : Int) := by omega
        have h1I : (j : Int) < (xs.length : Int) := by omega
        have HP := Lib.hid (And.intro hp (And.intro hq he))
        clear hp hq hc1 hc2 he
        by_cases hpq : p = q
        · subst hpq
          go_wp2_with fail
          go_quiet (fail)
          go_wp2_with fail
          go_roundw
          case rel => exact ⟨j + 1, by omega, by go_num, take_all HP.out.1 HP.out.2.1 HP.out.2.2 rfl, below_drewN hB _⟩
          case measure => simp [intOf]; omega
        · have hd2 : (p != q) = true := by simpa using hpq
          go_wp2_with fail
          go_quiet (fail)
          go_wp2_with fail
          go_ret
          exact ⟨ret_bool (not_all HP.out.1 HP.out.2.1 hpq).symm, below_drewN hB _⟩
      · have hje : j = xs.length := by omega
        have HE := Lib.hid (at_end HL.out (by rw [← hje]; exact he))
        subst hje
        clear he
        go_wp2_with fail
        go_ret
        exact ⟨ret_bool HE.out.symm, hB⟩
  · have hd : ((xs.length : Int) != (ys.length : Int)) = true := by simp; omega
    rw [len_no hl]
    go_enter Try.func120, Try.ntmps120
    go_wp2_with fail
    go_ret
    exact ⟨rfl, Below.refl _ _⟩

set_option maxRecDepth 100000 in
set_option maxHeartbeats 400000 in
theorem equal_i64 (a a' : Option Addr) (c c' : Nat) (xs ys : List Int) (w : World) (ha : Nums .i64 w w.heap.size a xs) (ha' : Nums .i64 w w.heap.size a' ys) (hx : xs.length ≤ 9223372036854775807) (_hy : ys.length ≤ 9223372036854775807) :
    Calls Try.prog 87 #[.slice a xs.length c, .slice a' ys.length c'] w (BoolPost (xs == ys) w) := by
  by_cases hl : xs.length = ys.length
  · have hd : ((xs.length : Int) != (ys.length : Int)) = false := by simp; omega
    have HL := Lib.hid hl
    clear hl
    go_enter Try.func87, Try.ntmps87
    go_wp2_with fail
    go_loopw [13] (fun v wr => ∃ j : Nat, j ≤ xs.length ∧ v = .int .i64 j ∧ (xs.take j == ys.take j) = true ∧ Below w.heap.size w wr) (fun v _ => xs.length - (intOf v).toNat)
    case atStart => exact ⟨0, Nat.zero_le _, rfl, by simp, Below.refl _ _⟩
    case round =>
      obtain ⟨j, hj, rfl, he, hB⟩ := hrel
      by_cases hlt : j < xs.length
      · have hlt2 : j < ys.length := by rw [← HL.out]; exact hlt
        obtain ⟨p, hp⟩ : ∃ p, xs[j]? = some p := ⟨_, List.getElem?_eq_getElem hlt⟩
        obtain ⟨q, hq⟩ : ∃ q, ys[j]? = some q := ⟨_, List.getElem?_eq_getElem hlt2⟩
        rcases ha.kept hB (Nat.le_refl _) with h0 | ⟨b1, o1, rfl, hb1, hc1⟩
        · rw [h0] at hlt; simp at hlt
        rcases ha'.kept hB (Nat.le_refl _) with h0 | ⟨b2, o2, rfl, hb2, hc2⟩
        · rw [h0] at hlt2; simp at hlt2
        have e1 := hc1 j p hp
        have e2 := hc2 j q hq
        have h2I : (j : Int) < (ys.length : Int) := by omega
        have h1I : (j : Int) < (xs.length : Int) := by omega
        have HP := Lib.hid (And.intro hp (And.intro hq he))
        clear hp hq hc1 hc2 he
        by_cases hpq : p = q
        · subst hpq
          go_wp2_with fail
          go_quiet (fail)
          go_wp2_with fail
          go_roundw
          case rel => exact ⟨j + 1, by omega, by go_num, take_all HP.out.1 HP.out.2.1 HP.out.2.2 rfl, below_drewN hB _⟩
          case measure => simp [intOf]; omega
        · have hd2 : (p != q) = true := by simpa using hpq
          go_wp2_with fail
          go_quiet (fail)
          go_wp2_with fail
          go_ret
          exact ⟨ret_bool (not_all HP.out.1 HP.out.2.1 hpq).symm, below_drewN hB _⟩
      · have hje : j = xs.length := by omega
        have HE := Lib.hid (at_end HL.out (by rw [← hje]; exact he))
        subst hje
        clear he
        go_wp2_with fail
        go_ret
        exact ⟨ret_bool HE.out.symm, hB⟩
  · have hd : ((xs.length : Int) != (ys.length : Int)) = true := by simp; omega
    rw [len_no hl]
    go_enter Try.func87, Try.ntmps87
    go_wp2_with fail
    go_ret
    exact ⟨rfl, Below.refl _ _⟩

set_option maxRecDepth 100000 in
set_option maxHeartbeats 400000 in
theorem equal_int (a a' : Option Addr) (c c' : Nat) (xs ys : List Int) (w : World) (ha : Nums .i64 w w.heap.size a xs) (ha' : Nums .i64 w w.heap.size a' ys) (hx : xs.length ≤ 9223372036854775807) (_hy : ys.length ≤ 9223372036854775807) :
    Calls Try.prog 89 #[.slice a xs.length c, .slice a' ys.length c'] w (BoolPost (xs == ys) w) := by
  by_cases hl : xs.length = ys.length
  · have hd : ((xs.length : Int) != (ys.length : Int)) = false := by simp; omega
    have HL := Lib.hid hl
    clear hl
    go_enter Try.func89, Try.ntmps89
    go_wp2_with fail
    go_loopw [13] (fun v wr => ∃ j : Nat, j ≤ xs.length ∧ v = .int .i64 j ∧ (xs.take j == ys.take j) = true ∧ Below w.heap.size w wr) (fun v _ => xs.length - (intOf v).toNat)
    case atStart => exact ⟨0, Nat.zero_le _, rfl, by simp, Below.refl _ _⟩
    case round =>
      obtain ⟨j, hj, rfl, he, hB⟩ := hrel
      by_cases hlt : j < xs.length
      · have hlt2 : j < ys.length := by rw [← HL.out]; exact hlt
        obtain ⟨p, hp⟩ : ∃ p, xs[j]? = some p := ⟨_, List.getElem?_eq_getElem hlt⟩
        obtain ⟨q, hq⟩ : ∃ q, ys[j]? = some q := ⟨_, List.getElem?_eq_getElem hlt2⟩
        rcases ha.kept hB (Nat.le_refl _) with h0 | ⟨b1, o1, rfl, hb1, hc1⟩
        · rw [h0] at hlt; simp at hlt
        rcases ha'.kept hB (Nat.le_refl _) with h0 | ⟨b2, o2, rfl, hb2, hc2⟩
        · rw [h0] at hlt2; simp at hlt2
        have e1 := hc1 j p hp
        have e2 := hc2 j q hq
        have h2I : (j : Int) < (ys.length : Int) := by omega
        have h1I : (j : Int) < (xs.length : Int) := by omega
        have HP := Lib.hid (And.intro hp (And.intro hq he))
        clear hp hq hc1 hc2 he
        by_cases hpq : p = q
        · subst hpq
          go_wp2_with fail
          go_quiet (fail)
          go_wp2_with fail
          go_roundw
          case rel => exact ⟨j + 1, by omega, by go_num, take_all HP.out.1 HP.out.2.1 HP.out.2.2 rfl, below_drewN hB _⟩
          case measure => simp [intOf]; omega
        · have hd2 : (p != q) = true := by simpa using hpq
          go_wp2_with fail
          go_quiet (fail)
          go_wp2_with fail
          go_ret
          exact ⟨ret_bool (not_all HP.out.1 HP.out.2.1 hpq).symm, below_drewN hB _⟩
      · have hje : j = xs.length := by omega
        have HE := Lib.hid (at_end HL.out (by rw [← hje]; exact he))
        subst hje
        clear he
        go_wp2_with fail
        go_ret
        exact ⟨ret_bool HE.out.symm, hB⟩
  · have hd : ((xs.length : Int) != (ys.length : Int)) = true := by simp; omega
    rw [len_no hl]
    go_enter Try.func89, Try.ntmps89
    go_wp2_with fail
    go_ret
    exact ⟨rfl, Below.refl _ _⟩

set_option maxRecDepth 100000 in
set_option maxHeartbeats 1000000 in
theorem eqlists_any (a a' : Option Addr) (c c' : Nat) (xs ys : List (List Int)) (w : World) (ha : NLst w w.heap.size a xs) (ha' : NLst w w.heap.size a' ys) (hx : xs.length ≤ 9223372036854775807) (hxs : ∀ l ∈ xs, l.length ≤ 9223372036854775807) (hys : ∀ l ∈ ys, l.length ≤ 9223372036854775807) :
    Calls Try.prog 119 #[.slice a xs.length c, .slice a' ys.length c', .func (.func 120) #[] #[]] w (BoolPost (xs == ys) w) := by
  by_cases hl : xs.length = ys.length
  · have hd : ((xs.length : Int) != (ys.length : Int)) = false := by simp; omega
    have HL := Lib.hid hl
    have HS := Lib.hid (And.intro hxs hys)
    clear hxs hys
    clear hl
    go_enter Try.func119, Try.ntmps119
    go_wp2_with fail
    go_loopw [17] (fun v wr => ∃ j : Nat, j ≤ xs.length ∧ v = .int .i64 j ∧ (xs.take j == ys.take j) = true ∧ Below w.heap.size w wr) (fun v _ => xs.length - (intOf v).toNat)
    case atStart => exact ⟨0, Nat.zero_le _, rfl, by simp, Below.refl _ _⟩
    case round =>
      obtain ⟨j, hj, rfl, he, hB⟩ := hrel
      by_cases hlt : j < xs.length
      · have hlt2 : j < ys.length := by rw [← HL.out]; exact hlt
        obtain ⟨p, hp⟩ : ∃ p, xs[j]? = some p := ⟨_, List.getElem?_eq_getElem hlt⟩
        obtain ⟨q, hq⟩ : ∃ q, ys[j]? = some q := ⟨_, List.getElem?_eq_getElem hlt2⟩
        rcases (ha.step hB) with h0 | ⟨b1, o1, rfl, hb1, hc1⟩
        · rw [h0] at hlt; simp at hlt
        rcases (ha'.step hB) with h0 | ⟨b2, o2, rfl, hb2, hc2⟩
        · rw [h0] at hlt2; simp at hlt2
        have h2I : (j : Int) < (ys.length : Int) := by omega
        have h1I : (j : Int) < (xs.length : Int) := by omega
        have HP := Lib.hid (And.intro hp (And.intro hq he))
        obtain ⟨a1, c1, e1, n1⟩ := hc1 j p hp
        obtain ⟨a2, c2, e2, n2⟩ := hc2 j q hq
        have HN := Lib.hid (equal_u64 a1 a2 c1 c2 p q wr n1 n2 (HS.out.1 p (List.mem_of_getElem? hp)) (HS.out.2 q (List.mem_of_getElem? hq)))
        clear hp hq hc1 hc2 he n1 n2
        go_wp2_with fail
        refine (Calls.mono HN.out ?_)
        rintro e3 w3 ⟨rfl, b3⟩
        by_cases hpq : p = q
        · have hb : (p == q) = true := by simpa using hpq
          rw [hb]
          clear hb
          go_wp2_with fail
          go_roundw
          case rel => exact ⟨j + 1, by omega, by go_num, take_all HP.out.1 HP.out.2.1 HP.out.2.2 hpq, step_below hB b3⟩
          case measure => simp [intOf]; omega
        · have hb : (p == q) = false := by simpa using hpq
          rw [hb]
          clear hb
          go_wp2_with fail
          go_ret
          exact ⟨ret_bool (not_all HP.out.1 HP.out.2.1 hpq).symm, step_below hB b3⟩
      · have hje : j = xs.length := by omega
        have HE := Lib.hid (at_end HL.out (by rw [← hje]; exact he))
        subst hje
        clear he
        go_wp2_with fail
        go_ret
        exact ⟨ret_bool HE.out.symm, hB⟩
  · have hd : ((xs.length : Int) != (ys.length : Int)) = true := by simp; omega
    rw [len_no hl]
    go_enter Try.func119, Try.ntmps119
    go_wp2_with fail
    go_ret
    exact ⟨rfl, Below.refl _ _⟩

set_option maxHeartbeats 400000 in
theorem lists_any (a a' : Option Addr) (c c' : Nat) (xs ys : List (List Int)) (w : World) (ha : NLst w w.heap.size a xs) (ha' : NLst w w.heap.size a' ys) (hx : xs.length ≤ 9223372036854775807) (hxs : ∀ l ∈ xs, l.length ≤ 9223372036854775807) (hys : ∀ l ∈ ys, l.length ≤ 9223372036854775807) :
    Calls Try.prog 88 #[.slice a xs.length c, .slice a' ys.length c'] w (BoolPost (xs == ys) w) := by
  have HC := Lib.hid (eqlists_any a a' c c' xs ys w ha ha' hx hxs hys)
  clear ha ha' hx hxs hys
  go_enter Try.func88, Try.ntmps88
  go_wp2_with fail
  refine (Calls.mono HC.out ?_)
  rintro e w1 ⟨rfl, b1⟩
  go_wp2_with fail
  go_ret
  exact ⟨rfl, b1⟩

def boxd (w : World) (a b : Array Value) : World := (w.alloc (.cells a 58)).alloc (.cells b 58)
theorem boxd_below (w : World) (a b : Array Value) : Below w.heap.size w (boxd w a b) := ((Below.refl _ w).alloc (Nat.le_refl _) _).alloc (by simp) _
theorem boxd_1 (w : World) (a b : Array Value) : Blk (boxd w a b) w.heap.size 58 a := (Blk.new w 58 a).alloc _
theorem boxd_2 (w : World) (a b : Array Value) : Blk (boxd w a b) (w.heap.size + 1) 58 b := by
  have h := Blk.new (w.alloc (.cells a 58)) 58 b
  simp only [asz] at h
  exact h
theorem dl_beq {p q : Dl} (h : p.1 = q.1) : (p == q) = (p.2 == q.2) := by
  obtain ⟨p1, p2⟩ := p
  obtain ⟨q1, q2⟩ := q
  dsimp only at h
  subst h
  rw [Bool.eq_iff_iff]
  simp
theorem dl_bne {p q : Dl} (h : p.1 ≠ q.1) : (p == q) = false := by
  rw [beq_eq_false_iff_ne]
  rintro rfl
  exact h rfl
set_option maxRecDepth 100000 in
set_option maxHeartbeats 400000 in
theorem same1_any (p q : Dl) (a a' : Option Addr) (c c' : Nat) (w : World) (ha : NLst w w.heap.size a p.2) (ha' : NLst w w.heap.size a' q.2) (hx : p.2.length ≤ 9223372036854775807) (hxs : ∀ l ∈ p.2, l.length ≤ 9223372036854775807) (hys : ∀ l ∈ q.2, l.length ≤ 9223372036854775807) :
    Calls Try.prog 91 #[.agg #[.int .i64 p.1, .slice a p.2.length c], .agg #[.int .i64 q.1, .slice a' q.2.length c']] w (BoolPost (p == q) w) := by
  have B0 := boxd_below w #[.int .i64 p.1, .slice a p.2.length c] #[.int .i64 q.1, .slice a' q.2.length c']
  have KA := boxd_1 w #[.int .i64 p.1, .slice a p.2.length c] #[.int .i64 q.1, .slice a' q.2.length c']
  have KB := boxd_2 w #[.int .i64 p.1, .slice a p.2.length c] #[.int .i64 q.1, .slice a' q.2.length c']
  have HC := Lib.hid (lists_any a a' c c' p.2 q.2 (boxd w #[.int .i64 p.1, .slice a p.2.length c] #[.int .i64 q.1, .slice a' q.2.length c']) (ha.step B0) (ha'.step B0) hx hxs hys)
  obtain ⟨w0, hw0⟩ : ∃ w0, w0 = boxd w #[.int .i64 p.1, .slice a p.2.length c] #[.int .i64 q.1, .slice a' q.2.length c'] := ⟨_, rfl⟩
  rw [← hw0] at B0 KA KB HC
  unfold boxd at hw0
  have HW := Lib.hid hw0
  have HB := Lib.hid B0
  have f0 : w0.cell? ⟨w.heap.size, 0, none⟩ = some (.int .i64 p.1) := KA.cell 0
  have f1 : w0.cell? ⟨w.heap.size, 1, none⟩ = some (.slice a p.2.length c) := KA.cell 1
  have g0 : w0.cell? ⟨w.heap.size + 1, 0, none⟩ = some (.int .i64 q.1) := KB.cell 0
  have g1 : w0.cell? ⟨w.heap.size + 1, 1, none⟩ = some (.slice a' q.2.length c') := KB.cell 1
  clear hw0 KA KB B0 ha ha' hx hxs hys
  by_cases h1 : p.1 = q.1
  · have hq : (p.1 == q.1) = true := by simpa using h1
    rw [dl_beq h1]
    clear h1
    go_enter Try.func91, Try.ntmps91
    go_upto_region 1 with fail
    rw [← HW.out]
    clear HW
    go_wp2_with fail
    refine (Calls.mono HC.out ?_)
    rintro e w1 ⟨rfl, b1⟩
    go_wp2_with fail
    go_ret
    exact ⟨rfl, step_below HB.out b1⟩
  · have hq : (p.1 == q.1) = false := by simpa using h1
    rw [dl_bne h1]
    clear h1
    go_enter Try.func91, Try.ntmps91
    go_upto_region 1 with fail
    rw [← HW.out]
    clear HW
    go_wp2_with fail
    go_ret
    exact ⟨rfl, HB.out⟩

set_option maxRecDepth 100000 in
set_option maxHeartbeats 1000000 in
theorem eqdeals_any (a a' : Option Addr) (c c' : Nat) (xs ys : List Dl) (w : World) (ha : NDls w w.heap.size a xs) (ha' : NDls w w.heap.size a' ys) (hx : xs.length ≤ 9223372036854775807) (hxs : ∀ d ∈ xs, d.2.length ≤ 9223372036854775807 ∧ ∀ l ∈ d.2, l.length ≤ 9223372036854775807) (hys : ∀ d ∈ ys, ∀ l ∈ d.2, l.length ≤ 9223372036854775807) :
    Calls Try.prog 90 #[.slice a xs.length c, .slice a' ys.length c', .func (.func 91) #[] #[]] w (BoolPost (xs == ys) w) := by
  by_cases hl : xs.length = ys.length
  · have hd : ((xs.length : Int) != (ys.length : Int)) = false := by simp; omega
    have HL := Lib.hid hl
    have HS := Lib.hid (And.intro hxs hys)
    clear hxs hys
    clear hl
    go_enter Try.func90, Try.ntmps90
    go_wp2_with fail
    go_loopw [17] (fun v wr => ∃ j : Nat, j ≤ xs.length ∧ v = .int .i64 j ∧ (xs.take j == ys.take j) = true ∧ Below w.heap.size w wr) (fun v _ => xs.length - (intOf v).toNat)
    case atStart => exact ⟨0, Nat.zero_le _, rfl, by simp, Below.refl _ _⟩
    case round =>
      obtain ⟨j, hj, rfl, he, hB⟩ := hrel
      by_cases hlt : j < xs.length
      · have hlt2 : j < ys.length := by rw [← HL.out]; exact hlt
        obtain ⟨p, hp⟩ : ∃ p, xs[j]? = some p := ⟨_, List.getElem?_eq_getElem hlt⟩
        obtain ⟨q, hq⟩ : ∃ q, ys[j]? = some q := ⟨_, List.getElem?_eq_getElem hlt2⟩
        rcases (ha.step hB) with h0 | ⟨b1, o1, rfl, hb1, hc1⟩
        · rw [h0] at hlt; simp at hlt
        rcases (ha'.step hB) with h0 | ⟨b2, o2, rfl, hb2, hc2⟩
        · rw [h0] at hlt2; simp at hlt2
        have h2I : (j : Int) < (ys.length : Int) := by omega
        have h1I : (j : Int) < (xs.length : Int) := by omega
        have HP := Lib.hid (And.intro hp (And.intro hq he))
        obtain ⟨a1, c1, e1, k1, n1⟩ := hc1 j p hp
        obtain ⟨a2, c2, e2, k2, n2⟩ := hc2 j q hq
        have HB2 := Lib.hid (((Below.refl _ wr).alloc (Nat.le_refl _) (.cells #[.int .i64 p.1, .slice a1 p.2.length c1] 58)).alloc (by simp) (.cells #[.int .i64 q.1, .slice a2 q.2.length c2] 58))
        have HN := Lib.hid (same1_any p q a1 a2 c1 c2 ((wr.alloc (.cells #[.int .i64 p.1, .slice a1 p.2.length c1] 58)).alloc (.cells #[.int .i64 q.1, .slice a2 q.2.length c2] 58)) (n1.step HB2.out) (n2.step HB2.out) (HS.out.1 p (List.mem_of_getElem? hp)).1 (HS.out.1 p (List.mem_of_getElem? hp)).2 (HS.out.2 q (List.mem_of_getElem? hq)))
        clear hp hq hc1 hc2 he n1 n2
        go_wp2_with fail
        refine (Calls.mono HN.out ?_)
        rintro e3 w3 ⟨rfl, b3⟩
        by_cases hpq : p = q
        · have hb : (p == q) = true := by simpa using hpq
          rw [hb]
          clear hb
          go_wp2_with fail
          go_roundw
          case rel => exact ⟨j + 1, by omega, by go_num, take_all HP.out.1 HP.out.2.1 HP.out.2.2 hpq, step_below hB (step_below HB2.out b3)⟩
          case measure => simp [intOf]; omega
        · have hb : (p == q) = false := by simpa using hpq
          rw [hb]
          clear hb
          go_wp2_with fail
          go_ret
          exact ⟨ret_bool (not_all HP.out.1 HP.out.2.1 hpq).symm, step_below hB (step_below HB2.out b3)⟩
      · have hje : j = xs.length := by omega
        have HE := Lib.hid (at_end HL.out (by rw [← hje]; exact he))
        subst hje
        clear he
        go_wp2_with fail
        go_ret
        exact ⟨ret_bool HE.out.symm, hB⟩
  · have hd : ((xs.length : Int) != (ys.length : Int)) = true := by simp; omega
    rw [len_no hl]
    go_enter Try.func90, Try.ntmps90
    go_wp2_with fail
    go_ret
    exact ⟨rfl, Below.refl _ _⟩

set_option maxRecDepth 100000 in
set_option maxHeartbeats 400000 in
theorem esame_k (a b : En) (p q : Ad) (w : World) (ha : NEn w w.heap.size a p) (hb : NEn w w.heap.size b q)  (hk : a.k ≠ b.k) :
    Calls Try.prog 39 #[.agg #[.int .u8 a.k, .int .i64 a.id, .int .i64 a.ep, .slice p.a1 a.x.length p.c1, .slice p.a2 a.coms.length p.c2, .slice p.a3 a.next.length p.c3, .slice p.a4 a.deals.length p.c4], .agg #[.int .u8 b.k, .int .i64 b.id, .int .i64 b.ep, .slice q.a1 b.x.length q.c1, .slice q.a2 b.coms.length q.c2, .slice q.a3 b.next.length q.c3, .slice q.a4 b.deals.length q.c4]] w (BoolPost false w) := by

  have tk : (a.k == b.k) = false := by simpa using hk
  clear hk
  have B0 := box2_below w #[.int .u8 a.k, .int .i64 a.id, .int .i64 a.ep, .slice p.a1 a.x.length p.c1, .slice p.a2 a.coms.length p.c2, .slice p.a3 a.next.length p.c3, .slice p.a4 a.deals.length p.c4] #[.int .u8 b.k, .int .i64 b.id, .int .i64 b.ep, .slice q.a1 b.x.length q.c1, .slice q.a2 b.coms.length q.c2, .slice q.a3 b.next.length q.c3, .slice q.a4 b.deals.length q.c4]
  have KA := box2_1 w #[.int .u8 a.k, .int .i64 a.id, .int .i64 a.ep, .slice p.a1 a.x.length p.c1, .slice p.a2 a.coms.length p.c2, .slice p.a3 a.next.length p.c3, .slice p.a4 a.deals.length p.c4] #[.int .u8 b.k, .int .i64 b.id, .int .i64 b.ep, .slice q.a1 b.x.length q.c1, .slice q.a2 b.coms.length q.c2, .slice q.a3 b.next.length q.c3, .slice q.a4 b.deals.length q.c4]
  have KB := box2_2 w #[.int .u8 a.k, .int .i64 a.id, .int .i64 a.ep, .slice p.a1 a.x.length p.c1, .slice p.a2 a.coms.length p.c2, .slice p.a3 a.next.length p.c3, .slice p.a4 a.deals.length p.c4] #[.int .u8 b.k, .int .i64 b.id, .int .i64 b.ep, .slice q.a1 b.x.length q.c1, .slice q.a2 b.coms.length q.c2, .slice q.a3 b.next.length q.c3, .slice q.a4 b.deals.length q.c4]
  obtain ⟨w0, hw0⟩ : ∃ w0, w0 = box2 w #[.int .u8 a.k, .int .i64 a.id, .int .i64 a.ep, .slice p.a1 a.x.length p.c1, .slice p.a2 a.coms.length p.c2, .slice p.a3 a.next.length p.c3, .slice p.a4 a.deals.length p.c4] #[.int .u8 b.k, .int .i64 b.id, .int .i64 b.ep, .slice q.a1 b.x.length q.c1, .slice q.a2 b.coms.length q.c2, .slice q.a3 b.next.length q.c3, .slice q.a4 b.deals.length q.c4] := ⟨_, rfl⟩
  rw [← hw0] at B0 KA KB
  unfold box2 at hw0
  have HW := Lib.hid hw0
  have H0 := Lib.hid (And.intro KA (And.intro KB (And.intro B0 (And.intro (ha.step B0) (hb.step B0)))))
  obtain ⟨f0, f1, f2, f3, f4, f5, f6⟩ := KA.entry
  obtain ⟨g0, g1, g2, g3, g4, g5, g6⟩ := KB.entry
  clear hw0 ha hb KA KB B0
  go_enter Try.func39, Try.ntmps39
  go_upto_region 1 with fail
  rw [← HW.out]
  clear HW
  generalize hGG : w.heap.size = G at f0 f1 f2 f3 f4 f5 f6 g0 g1 g2 g3 g4 g5 g6 ⊢
  have HG := Lib.hid hGG
  clear hGG
  go_wp2_with fail
  go_ret
  exact ⟨rfl, H0.out.2.2.1⟩

set_option maxRecDepth 100000 in
set_option maxHeartbeats 400000 in
theorem esame_i (a b : En) (p q : Ad) (w : World) (ha : NEn w w.heap.size a p) (hb : NEn w w.heap.size b q) (hk : a.k = b.k) (hi : a.id ≠ b.id) :
    Calls Try.prog 39 #[.agg #[.int .u8 a.k, .int .i64 a.id, .int .i64 a.ep, .slice p.a1 a.x.length p.c1, .slice p.a2 a.coms.length p.c2, .slice p.a3 a.next.length p.c3, .slice p.a4 a.deals.length p.c4], .agg #[.int .u8 b.k, .int .i64 b.id, .int .i64 b.ep, .slice q.a1 b.x.length q.c1, .slice q.a2 b.coms.length q.c2, .slice q.a3 b.next.length q.c3, .slice q.a4 b.deals.length q.c4]] w (BoolPost false w) := by
  have tk : (a.k == b.k) = true := by simpa using hk
  have ti : (a.id == b.id) = false := by simpa using hi
  clear hk hi
  have B0 := box2_below w #[.int .u8 a.k, .int .i64 a.id, .int .i64 a.ep, .slice p.a1 a.x.length p.c1, .slice p.a2 a.coms.length p.c2, .slice p.a3 a.next.length p.c3, .slice p.a4 a.deals.length p.c4] #[.int .u8 b.k, .int .i64 b.id, .int .i64 b.ep, .slice q.a1 b.x.length q.c1, .slice q.a2 b.coms.length q.c2, .slice q.a3 b.next.length q.c3, .slice q.a4 b.deals.length q.c4]
  have KA := box2_1 w #[.int .u8 a.k, .int .i64 a.id, .int .i64 a.ep, .slice p.a1 a.x.length p.c1, .slice p.a2 a.coms.length p.c2, .slice p.a3 a.next.length p.c3, .slice p.a4 a.deals.length p.c4] #[.int .u8 b.k, .int .i64 b.id, .int .i64 b.ep, .slice q.a1 b.x.length q.c1, .slice q.a2 b.coms.length q.c2, .slice q.a3 b.next.length q.c3, .slice q.a4 b.deals.length q.c4]
  have KB := box2_2 w #[.int .u8 a.k, .int .i64 a.id, .int .i64 a.ep, .slice p.a1 a.x.length p.c1, .slice p.a2 a.coms.length p.c2, .slice p.a3 a.next.length p.c3, .slice p.a4 a.deals.length p.c4] #[.int .u8 b.k, .int .i64 b.id, .int .i64 b.ep, .slice q.a1 b.x.length q.c1, .slice q.a2 b.coms.length q.c2, .slice q.a3 b.next.length q.c3, .slice q.a4 b.deals.length q.c4]
  obtain ⟨w0, hw0⟩ : ∃ w0, w0 = box2 w #[.int .u8 a.k, .int .i64 a.id, .int .i64 a.ep, .slice p.a1 a.x.length p.c1, .slice p.a2 a.coms.length p.c2, .slice p.a3 a.next.length p.c3, .slice p.a4 a.deals.length p.c4] #[.int .u8 b.k, .int .i64 b.id, .int .i64 b.ep, .slice q.a1 b.x.length q.c1, .slice q.a2 b.coms.length q.c2, .slice q.a3 b.next.length q.c3, .slice q.a4 b.deals.length q.c4] := ⟨_, rfl⟩
  rw [← hw0] at B0 KA KB
  unfold box2 at hw0
  have HW := Lib.hid hw0
  have H0 := Lib.hid (And.intro KA (And.intro KB (And.intro B0 (And.intro (ha.step B0) (hb.step B0)))))
  obtain ⟨f0, f1, f2, f3, f4, f5, f6⟩ := KA.entry
  obtain ⟨g0, g1, g2, g3, g4, g5, g6⟩ := KB.entry
  clear hw0 ha hb KA KB B0
  go_enter Try.func39, Try.ntmps39
  go_upto_region 1 with fail
  rw [← HW.out]
  clear HW
  generalize hGG : w.heap.size = G at f0 f1 f2 f3 f4 f5 f6 g0 g1 g2 g3 g4 g5 g6 ⊢
  have HG := Lib.hid hGG
  clear hGG
  go_wp2_with fail
  go_ret
  exact ⟨rfl, H0.out.2.2.1⟩

set_option maxRecDepth 100000 in
set_option maxHeartbeats 400000 in
theorem esame_e (a b : En) (p q : Ad) (w : World) (ha : NEn w w.heap.size a p) (hb : NEn w w.heap.size b q) (hk : a.k = b.k) (hi : a.id = b.id) (he : a.ep ≠ b.ep) :
    Calls Try.prog 39 #[.agg #[.int .u8 a.k, .int .i64 a.id, .int .i64 a.ep, .slice p.a1 a.x.length p.c1, .slice p.a2 a.coms.length p.c2, .slice p.a3 a.next.length p.c3, .slice p.a4 a.deals.length p.c4], .agg #[.int .u8 b.k, .int .i64 b.id, .int .i64 b.ep, .slice q.a1 b.x.length q.c1, .slice q.a2 b.coms.length q.c2, .slice q.a3 b.next.length q.c3, .slice q.a4 b.deals.length q.c4]] w (BoolPost false w) := by
  have tk : (a.k == b.k) = true := by simpa using hk
  have ti : (a.id == b.id) = true := by simpa using hi
  have te : (a.ep == b.ep) = false := by simpa using he
  clear hk hi he
  have B0 := box2_below w #[.int .u8 a.k, .int .i64 a.id, .int .i64 a.ep, .slice p.a1 a.x.length p.c1, .slice p.a2 a.coms.length p.c2, .slice p.a3 a.next.length p.c3, .slice p.a4 a.deals.length p.c4] #[.int .u8 b.k, .int .i64 b.id, .int .i64 b.ep, .slice q.a1 b.x.length q.c1, .slice q.a2 b.coms.length q.c2, .slice q.a3 b.next.length q.c3, .slice q.a4 b.deals.length q.c4]
  have KA := box2_1 w #[.int .u8 a.k, .int .i64 a.id, .int .i64 a.ep, .slice p.a1 a.x.length p.c1, .slice p.a2 a.coms.length p.c2, .slice p.a3 a.next.length p.c3, .slice p.a4 a.deals.length p.c4] #[.int .u8 b.k, .int .i64 b.id, .int .i64 b.ep, .slice q.a1 b.x.length q.c1, .slice q.a2 b.coms.length q.c2, .slice q.a3 b.next.length q.c3, .slice q.a4 b.deals.length q.c4]
  have KB := box2_2 w #[.int .u8 a.k, .int .i64 a.id, .int .i64 a.ep, .slice p.a1 a.x.length p.c1, .slice p.a2 a.coms.length p.c2, .slice p.a3 a.next.length p.c3, .slice p.a4 a.deals.length p.c4] #[.int .u8 b.k, .int .i64 b.id, .int .i64 b.ep, .slice q.a1 b.x.length q.c1, .slice q.a2 b.coms.length q.c2, .slice q.a3 b.next.length q.c3, .slice q.a4 b.deals.length q.c4]
  obtain ⟨w0, hw0⟩ : ∃ w0, w0 = box2 w #[.int .u8 a.k, .int .i64 a.id, .int .i64 a.ep, .slice p.a1 a.x.length p.c1, .slice p.a2 a.coms.length p.c2, .slice p.a3 a.next.length p.c3, .slice p.a4 a.deals.length p.c4] #[.int .u8 b.k, .int .i64 b.id, .int .i64 b.ep, .slice q.a1 b.x.length q.c1, .slice q.a2 b.coms.length q.c2, .slice q.a3 b.next.length q.c3, .slice q.a4 b.deals.length q.c4] := ⟨_, rfl⟩
  rw [← hw0] at B0 KA KB
  unfold box2 at hw0
  have HW := Lib.hid hw0
  have H0 := Lib.hid (And.intro KA (And.intro KB (And.intro B0 (And.intro (ha.step B0) (hb.step B0)))))
  obtain ⟨f0, f1, f2, f3, f4, f5, f6⟩ := KA.entry
  obtain ⟨g0, g1, g2, g3, g4, g5, g6⟩ := KB.entry
  clear hw0 ha hb KA KB B0
  go_enter Try.func39, Try.ntmps39
  go_upto_region 1 with fail
  rw [← HW.out]
  clear HW
  generalize hGG : w.heap.size = G at f0 f1 f2 f3 f4 f5 f6 g0 g1 g2 g3 g4 g5 g6 ⊢
  have HG := Lib.hid hGG
  clear hGG
  go_wp2_with fail
  go_ret
  exact ⟨rfl, H0.out.2.2.1⟩

set_option maxRecDepth 100000 in
set_option maxHeartbeats 2000000 in
theorem esame_rest (a b : En) (p q : Ad) (w : World) (ha : NEn w w.heap.size a p) (hb : NEn w w.heap.size b q) (ca : a.Cnt) (cb : b.Cnt) (hk : a.k = b.k) (hi : a.id = b.id) (he : a.ep = b.ep) :
    Calls Try.prog 39 #[.agg #[.int .u8 a.k, .int .i64 a.id, .int .i64 a.ep, .slice p.a1 a.x.length p.c1, .slice p.a2 a.coms.length p.c2, .slice p.a3 a.next.length p.c3, .slice p.a4 a.deals.length p.c4], .agg #[.int .u8 b.k, .int .i64 b.id, .int .i64 b.ep, .slice q.a1 b.x.length q.c1, .slice q.a2 b.coms.length q.c2, .slice q.a3 b.next.length q.c3, .slice q.a4 b.deals.length q.c4]] w (BoolPost (a.same b) w) := by
  have HC := Lib.hid (And.intro ca cb)
  have HQ := Lib.hid (And.intro hk (And.intro hi he))
  have tk : (a.k == b.k) = true := by simpa using hk
  have ti : (a.id == b.id) = true := by simpa using hi
  have te : (a.ep == b.ep) = true := by simpa using he
  clear hk hi he ca cb
  have B0 := box2_below w #[.int .u8 a.k, .int .i64 a.id, .int .i64 a.ep, .slice p.a1 a.x.length p.c1, .slice p.a2 a.coms.length p.c2, .slice p.a3 a.next.length p.c3, .slice p.a4 a.deals.length p.c4] #[.int .u8 b.k, .int .i64 b.id, .int .i64 b.ep, .slice q.a1 b.x.length q.c1, .slice q.a2 b.coms.length q.c2, .slice q.a3 b.next.length q.c3, .slice q.a4 b.deals.length q.c4]
  have KA := box2_1 w #[.int .u8 a.k, .int .i64 a.id, .int .i64 a.ep, .slice p.a1 a.x.length p.c1, .slice p.a2 a.coms.length p.c2, .slice p.a3 a.next.length p.c3, .slice p.a4 a.deals.length p.c4] #[.int .u8 b.k, .int .i64 b.id, .int .i64 b.ep, .slice q.a1 b.x.length q.c1, .slice q.a2 b.coms.length q.c2, .slice q.a3 b.next.length q.c3, .slice q.a4 b.deals.length q.c4]
  have KB := box2_2 w #[.int .u8 a.k, .int .i64 a.id, .int .i64 a.ep, .slice p.a1 a.x.length p.c1, .slice p.a2 a.coms.length p.c2, .slice p.a3 a.next.length p.c3, .slice p.a4 a.deals.length p.c4] #[.int .u8 b.k, .int .i64 b.id, .int .i64 b.ep, .slice q.a1 b.x.length q.c1, .slice q.a2 b.coms.length q.c2, .slice q.a3 b.next.length q.c3, .slice q.a4 b.deals.length q.c4]
  obtain ⟨w0, hw0⟩ : ∃ w0, w0 = box2 w #[.int .u8 a.k, .int .i64 a.id, .int .i64 a.ep, .slice p.a1 a.x.length p.c1, .slice p.a2 a.coms.length p.c2, .slice p.a3 a.next.length p.c3, .slice p.a4 a.deals.length p.c4] #[.int .u8 b.k, .int .i64 b.id, .int .i64 b.ep, .slice q.a1 b.x.length q.c1, .slice q.a2 b.coms.length q.c2, .slice q.a3 b.next.length q.c3, .slice q.a4 b.deals.length q.c4] := ⟨_, rfl⟩
  rw [← hw0] at B0 KA KB
  unfold box2 at hw0
  have HW := Lib.hid hw0
  have H0 := Lib.hid (And.intro KA (And.intro KB (And.intro B0 (And.intro (ha.step B0) (hb.step B0)))))
  obtain ⟨f0, f1, f2, f3, f4, f5, f6⟩ := KA.entry
  obtain ⟨g0, g1, g2, g3, g4, g5, g6⟩ := KB.entry
  clear hw0 ha hb KA KB B0
  go_enter Try.func39, Try.ntmps39
  go_upto_region 1 with fail
  rw [← HW.out]
  clear HW
  generalize hGG : w.heap.size = G at f0 f1 f2 f3 f4 f5 f6 g0 g1 g2 g3 g4 g5 g6 ⊢
  have HG := Lib.hid hGG
  clear hGG
  go_wp2_with fail
  refine (equal_i64 p.a1 q.a1 p.c1 q.c1 a.x b.x w0 H0.out.2.2.2.1.x H0.out.2.2.2.2.x HC.out.1.x HC.out.2.x).mono ?_
  rintro e2 w1 ⟨rfl, b1⟩
  have KA := H0.out.1.kept b1
  have KB := H0.out.2.1.kept b1
  have H1 := Lib.hid (And.intro KA (And.intro KB (And.intro (step_below H0.out.2.2.1 b1) (And.intro (H0.out.2.2.2.1.step b1) (H0.out.2.2.2.2.step b1)))))
  rw [HG.out] at KA KB
  obtain ⟨f0, f1, f2, f3, f4, f5, f6⟩ := KA.entry
  obtain ⟨g0, g1, g2, g3, g4, g5, g6⟩ := KB.entry
  clear KA KB H0 b1
  by_cases hx : a.x = b.x
  case neg =>
    have hb : (a.x == b.x) = false := by simpa using hx
    rw [hb]
    clear hb
    go_wp2_with fail
    go_ret
    exact ⟨ret_bool (same_no (fun e => hx (by rw [e]))).symm, H1.out.2.2.1⟩
  have Ex := Lib.hid hx
  have hb : (a.x == b.x) = true := by simpa using hx
  rw [hb]
  clear hb hx
  go_wp2_with fail
  refine (lists_any p.a2 q.a2 p.c2 q.c2 a.coms b.coms w1 H1.out.2.2.2.1.coms H1.out.2.2.2.2.coms HC.out.1.coms HC.out.1.com HC.out.2.com).mono ?_
  rintro e2 w2 ⟨rfl, b2⟩
  have KA := H1.out.1.kept b2
  have KB := H1.out.2.1.kept b2
  have H2 := Lib.hid (And.intro KA (And.intro KB (And.intro (step_below H1.out.2.2.1 b2) (And.intro (H1.out.2.2.2.1.step b2) (H1.out.2.2.2.2.step b2)))))
  rw [HG.out] at KA KB
  obtain ⟨f0, f1, f2, f3, f4, f5, f6⟩ := KA.entry
  obtain ⟨g0, g1, g2, g3, g4, g5, g6⟩ := KB.entry
  clear KA KB H1 b2
  by_cases hcoms : a.coms = b.coms
  case neg =>
    have hb : (a.coms == b.coms) = false := by simpa using hcoms
    rw [hb]
    clear hb
    go_wp2_with fail
    go_ret
    exact ⟨ret_bool (same_no (fun e => hcoms (by rw [e]))).symm, H2.out.2.2.1⟩
  have Ecoms := Lib.hid hcoms
  have hb : (a.coms == b.coms) = true := by simpa using hcoms
  rw [hb]
  clear hb hcoms
  go_wp2_with fail
  refine (equal_int p.a3 q.a3 p.c3 q.c3 a.next b.next w2 H2.out.2.2.2.1.next H2.out.2.2.2.2.next HC.out.1.next HC.out.2.next).mono ?_
  rintro e2 w3 ⟨rfl, b3⟩
  have KA := H2.out.1.kept b3
  have KB := H2.out.2.1.kept b3
  have H3 := Lib.hid (And.intro KA (And.intro KB (And.intro (step_below H2.out.2.2.1 b3) (And.intro (H2.out.2.2.2.1.step b3) (H2.out.2.2.2.2.step b3)))))
  rw [HG.out] at KA KB
  obtain ⟨f0, f1, f2, f3, f4, f5, f6⟩ := KA.entry
  obtain ⟨g0, g1, g2, g3, g4, g5, g6⟩ := KB.entry
  clear KA KB H2 b3
  by_cases hnext : a.next = b.next
  case neg =>
    have hb : (a.next == b.next) = false := by simpa using hnext
    rw [hb]
    clear hb
    go_wp2_with fail
    go_ret
    exact ⟨ret_bool (same_no (fun e => hnext (by rw [e]))).symm, H3.out.2.2.1⟩
  have Enext := Lib.hid hnext
  have hb : (a.next == b.next) = true := by simpa using hnext
  rw [hb]
  clear hb hnext
  go_wp2_with fail
  refine (eqdeals_any p.a4 q.a4 p.c4 q.c4 a.deals b.deals w3 H3.out.2.2.2.1.deals H3.out.2.2.2.2.deals HC.out.1.deals (fun d hd => ⟨HC.out.1.col d hd, HC.out.1.cols d hd⟩) HC.out.2.cols).mono ?_
  rintro e2 w4 ⟨rfl, b4⟩
  have KA := H3.out.1.kept b4
  have KB := H3.out.2.1.kept b4
  have H4 := Lib.hid (And.intro KA (And.intro KB (And.intro (step_below H3.out.2.2.1 b4) (And.intro (H3.out.2.2.2.1.step b4) (H3.out.2.2.2.2.step b4)))))
  rw [HG.out] at KA KB
  obtain ⟨f0, f1, f2, f3, f4, f5, f6⟩ := KA.entry
  obtain ⟨g0, g1, g2, g3, g4, g5, g6⟩ := KB.entry
  clear KA KB H3 b4
  go_wp2_with fail
  go_ret
  refine ⟨ret_bool ?_, H4.out.2.2.1⟩
  rw [Bool.eq_iff_iff, beq_iff_eq, En.same_iff]
  exact ⟨fun h => en_ext HQ.out.1 HQ.out.2.1 HQ.out.2.2 Ex.out Ecoms.out Enext.out h, fun h => by rw [h]⟩

theorem esame_any (a b : En) (p q : Ad) (w : World) (ha : NEn w w.heap.size a p) (hb : NEn w w.heap.size b q) (ca : a.Cnt) (cb : b.Cnt) :
    Calls Try.prog 39 #[.agg #[.int .u8 a.k, .int .i64 a.id, .int .i64 a.ep, .slice p.a1 a.x.length p.c1, .slice p.a2 a.coms.length p.c2, .slice p.a3 a.next.length p.c3, .slice p.a4 a.deals.length p.c4], .agg #[.int .u8 b.k, .int .i64 b.id, .int .i64 b.ep, .slice q.a1 b.x.length q.c1, .slice q.a2 b.coms.length q.c2, .slice q.a3 b.next.length q.c3, .slice q.a4 b.deals.length q.c4]] w (BoolPost (a.same b) w) := by
  by_cases hk : a.k = b.k
  case neg => rw [same_no (fun h => hk (by rw [h]))]; exact esame_k a b p q w ha hb hk
  by_cases hi : a.id = b.id
  case neg => rw [same_no (fun h => hi (by rw [h]))]; exact esame_i a b p q w ha hb hk hi
  by_cases he : a.ep = b.ep
  case neg => rw [same_no (fun h => he (by rw [h]))]; exact esame_e a b p q w ha hb hk hi he
  exact esame_rest a b p q w ha hb ca cb hk hi he
theorem esame_is {a b : En} {r : Bool} (p q : Ad) (w : World) (ha : NEn w w.heap.size a p) (hb : NEn w w.heap.size b q) (ca : a.Cnt) (cb : b.Cnt) (h : a.same b = r) :
    Calls Try.prog 39 #[.agg #[.int .u8 a.k, .int .i64 a.id, .int .i64 a.ep, .slice p.a1 a.x.length p.c1, .slice p.a2 a.coms.length p.c2, .slice p.a3 a.next.length p.c3, .slice p.a4 a.deals.length p.c4], .agg #[.int .u8 b.k, .int .i64 b.id, .int .i64 b.ep, .slice q.a1 b.x.length q.c1, .slice q.a2 b.coms.length q.c2, .slice q.a3 b.next.length q.c3, .slice q.a4 b.deals.length q.c4]] w (BoolPost r w) := by
  rw [← h]
  exact esame_any a b p q w ha hb ca cb
end Go.Proofs.Ytdnkijljpmcejaa
