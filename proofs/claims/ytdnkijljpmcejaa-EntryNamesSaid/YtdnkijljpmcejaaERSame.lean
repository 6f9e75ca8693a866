/-
  consistoryref03.Numbers, consistoryref13.Lists, Same: whether two entries are the same.
-/
import Derived.Test.YtdnkijljpmcejaaEEnc
namespace Go.Proofs.Ytdnkijljpmcejaa
open Go.RowKit

theorem take_all {α : Type} [BEq α] {a b : List α} {j : Nat} {p q : α} (hp : a[j]? = some p) (hq : b[j]? = some q) (h : (a.take j == b.take j) = true) (e : p = q) [LawfulBEq α] : (a.take (j + 1) == b.take (j + 1)) = true := by
  subst e
  rw [List.take_add_one, List.take_add_one, hp, hq]
  have := eq_of_beq h
  rw [this]
  simp
theorem not_all {α : Type} [BEq α] [LawfulBEq α] {a b : List α} {j : Nat} {p q : α} (hp : a[j]? = some p) (hq : b[j]? = some q) (e : p ≠ q) : (a == b) = false := by
  rw [beq_eq_false_iff_ne]
  rintro rfl
  exact e (Option.some.inj (hp.symm.trans hq))
theorem at_end {α : Type} [BEq α] {a b : List α} (hl : a.length = b.length) (h : (a.take a.length == b.take a.length) = true) : (a == b) = true := by
  rw [List.take_length, List.take_of_length_le (by rw [hl]; exact Nat.le_refl _)] at h
  exact h
theorem len_no {α : Type} [BEq α] [LawfulBEq α] {a b : List α} (hl : a.length ≠ b.length) : (a == b) = false := by
  rw [beq_eq_false_iff_ne]
  rintro rfl
  exact hl rfl

set_option maxRecDepth 100000 in
set_option maxHeartbeats 400000 in
theorem numbers_any (a a' : Option Addr) (c c' : Nat) (xs ys : List Int) (w : World) (ha : Nums .u64 w w.heap.size a xs) (ha' : Nums .u64 w w.heap.size a' ys) (hx : xs.length ≤ 9223372036854775807) (_hy : ys.length ≤ 9223372036854775807) :
    Calls Try.prog 53 #[.slice a xs.length c, .slice a' ys.length c'] w (BoolPost (xs == ys) w) := by
  by_cases hl : xs.length = ys.length
  · have hd : ((xs.length : Int) != (ys.length : Int)) = false := by simp; omega
    have HL := Lib.hid hl
    clear hl
    go_enter Try.func53, Try.ntmps53
    go_wp2_with fail
    go_loopw [5] (fun v wr => ∃ j : Nat, j ≤ xs.length ∧ v = .int .i64 j ∧ (xs.take j == ys.take j) = true ∧ Below w.heap.size w wr) (fun v _ => xs.length - (intOf v).toNat)
    case atStart => exact ⟨0, Nat.zero_le _, rfl, by simp, Below.refl _ _⟩
    case round =>
      obtain ⟨j, hj, rfl, he, hB⟩ := hrel
      by_cases hlt : j < xs.length
      · have hlt2 : j < ys.length := by rw [← HL.out]; exact hlt
        obtain ⟨p, hp⟩ : ∃ p, xs[j]? = some p := ⟨_, List.getElem?_eq_getElem hlt⟩
        obtain ⟨q, hq⟩ : ∃ q, ys[j]? = some q := ⟨_, List.getElem?_eq_getElem hlt2⟩
        rcases ha.kept hB (Nat.le_refl _) with h0 | ⟨b1, o1, rfl, hb1, hc1⟩
        · rw [h0] at hlt; simp at hlt
        rcases ha'.kept hB (Nat.le_refl _) with h0 | ⟨b2, o2, rfl, hb2, hc2⟩
        · rw [h0] at hlt2; simp at hlt2
        have e1 := hc1 j p hp
        have e2 := hc2 j q hq
        have h2I : (j : Int) < (ys.length : Int) := by omega
        have h1I : (j : Int) < (xs.length : Int) := by omega
        have HP := Lib.hid (And.intro hp (And.intro hq he))
        clear hp hq hc1 hc2 he
        by_cases hpq : p = q
        · subst hpq
          go_wp2_with fail
          go_quiet (fail)
          go_wp2_with fail
          go_roundw
          case rel => exact ⟨j + 1, by omega, by go_num, take_all HP.out.1 HP.out.2.1 HP.out.2.2 rfl, below_drewN hB _⟩
          case measure => simp [intOf]; omega
        · have hd2 : (p != q) = true := by simpa using hpq
          go_wp2_with fail
          go_quiet (fail)
          go_wp2_with fail
          go_ret
          exact ⟨ret_bool (not_all HP.out.1 HP.out.2.1 hpq).symm, below_drewN hB _⟩
      · have hje : j = xs.length := by omega
        have HE := Lib.hid (at_end HL.out (by rw [← hje]; exact he))
        subst hje
        clear he
        go_wp2_with fail
        go_ret
        exact ⟨ret_bool HE.out.symm, hB⟩
  · have hd : ((xs.length : Int) != (ys.length : Int)) = true := by simp; omega
    rw [len_no hl]
    go_enter Try.func53, Try.ntmps53
    go_wp2_with fail
    go_ret
    exact ⟨rfl, Below.refl _ _⟩

set_option maxRecDepth 100000 in
set_option maxHeartbeats 1000000 in
theorem rlists_any (a a' : Option Addr) (c c' : Nat) (xs ys : List (List Int)) (w : World) (ha : NLst w w.heap.size a xs) (ha' : NLst w w.heap.size a' ys) (hx : xs.length ≤ 9223372036854775807) (_hy : ys.length ≤ 9223372036854775807) (hxs : ∀ l ∈ xs, l.length ≤ 9223372036854775807) (hys : ∀ l ∈ ys, l.length ≤ 9223372036854775807) :
    Calls Try.prog 66 #[.slice a xs.length c, .slice a' ys.length c'] w (BoolPost (xs == ys) w) := by
  by_cases hl : xs.length = ys.length
  · have hd : ((xs.length : Int) != (ys.length : Int)) = false := by simp; omega
    have HL := Lib.hid hl
    have HS := Lib.hid (And.intro hxs hys)
    clear hl hxs hys
    go_enter Try.func66, Try.ntmps66
    go_wp2_with fail
    go_loopw [5] (fun v wr => ∃ j : Nat, j ≤ xs.length ∧ v = .int .i64 j ∧ (xs.take j == ys.take j) = true ∧ Below w.heap.size w wr) (fun v _ => xs.length - (intOf v).toNat)
    case atStart => exact ⟨0, Nat.zero_le _, rfl, by simp, Below.refl _ _⟩
    case round =>
      obtain ⟨j, hj, rfl, he, hB⟩ := hrel
      by_cases hlt : j < xs.length
      · have hlt2 : j < ys.length := by rw [← HL.out]; exact hlt
        obtain ⟨p, hp⟩ : ∃ p, xs[j]? = some p := ⟨_, List.getElem?_eq_getElem hlt⟩
        obtain ⟨q, hq⟩ : ∃ q, ys[j]? = some q := ⟨_, List.getElem?_eq_getElem hlt2⟩
        rcases (ha.step hB) with h0 | ⟨b1, o1, rfl, hb1, hc1⟩
        · rw [h0] at hlt; simp at hlt
        rcases (ha'.step hB) with h0 | ⟨b2, o2, rfl, hb2, hc2⟩
        · rw [h0] at hlt2; simp at hlt2
        obtain ⟨a1, c1, e1, n1⟩ := hc1 j p hp
        obtain ⟨a2, c2, e2, n2⟩ := hc2 j q hq
        have h2I : (j : Int) < (ys.length : Int) := by omega
        have h1I : (j : Int) < (xs.length : Int) := by omega
        have HP := Lib.hid (And.intro hp (And.intro hq he))
        have HN := Lib.hid (numbers_any a1 a2 c1 c2 p q wr.drew (n1.step (Below.refl _ wr).drew) (n2.step (Below.refl _ wr).drew) (HS.out.1 p (List.mem_of_getElem? hp)) (HS.out.2 q (List.mem_of_getElem? hq)))
        have y1 : wr.drew.cell? ⟨b1, o1 + j, none⟩ = some (.slice a1 p.length c1) := e1
        have y2 : wr.drew.cell? ⟨b2, o2 + j, none⟩ = some (.slice a2 q.length c2) := e2
        clear hp hq hc1 hc2 he n1 n2 e1 e2
        go_upto_region 6 with fail
        go_region_held3 (fun w' => w'.cell? ⟨b1, o1 + j, none⟩ = some (.slice a1 p.length c1) ∧ w'.cell? ⟨b2, o2 + j, none⟩ = some (.slice a2 q.length c2)) (first | (with_reducible exact ⟨y1, y2⟩) | (with_reducible exact ⟨z1, z2⟩))
          ((go_at_call 53; (with_reducible refine Calls.mono HN.out ?_); rintro e3 w3 ⟨rfl, b3⟩; have z1 := cell_keep y1 b3; have z2 := cell_keep y2 b3))
        have B3 := Lib.hid (step_below hB (below_dr b3))
        clear b3 z1 z2 y1 y2 HN
        by_cases hpq : p = q
        · have hb : (p == q) = true := by simpa using hpq
          rw [hb]
          clear hb
          go_wp2_with fail
          go_roundw
          case rel => exact ⟨j + 1, by omega, by go_num, take_all HP.out.1 HP.out.2.1 HP.out.2.2 hpq, B3.out⟩
          case measure => simp [intOf]; omega
        · have hb : (p == q) = false := by simpa using hpq
          rw [hb]
          clear hb
          go_wp2_with fail
          go_ret
          exact ⟨ret_bool (not_all HP.out.1 HP.out.2.1 hpq).symm, B3.out⟩
      · have hje : j = xs.length := by omega
        have HE := Lib.hid (at_end HL.out (by rw [← hje]; exact he))
        subst hje
        clear he
        go_wp2_with fail
        go_ret
        exact ⟨ret_bool HE.out.symm, hB⟩
  · have hd : ((xs.length : Int) != (ys.length : Int)) = true := by simp; omega
    rw [len_no hl]
    go_enter Try.func66, Try.ntmps66
    go_wp2_with fail
    go_ret
    exact ⟨rfl, Below.refl _ _⟩

theorem same_no {a b : En} (h : a ≠ b) : a.same b = false := by
  rw [Bool.eq_false_iff]
  exact fun h2 => h (En.same_iff.1 h2)
theorem en_ext {a b : En} (h1 : a.k = b.k) (h2 : a.id = b.id) (h3 : a.ep = b.ep) (h4 : a.x = b.x) (h5 : a.coms = b.coms) (h6 : a.next = b.next) (h7 : a.deals = b.deals) : a = b := by
  cases a
  cases b
  simp_all
theorem bne_t {a b : Int} (h : a ≠ b) : (a != b) = true := by simpa using h
theorem bne_f {a b : Int} (h : a = b) : (a != b) = false := by simpa using h
theorem lne_t {m n : Nat} (h : m ≠ n) : ((m : Int) != (n : Int)) = true := by simp; omega
theorem lne_f {m n : Nat} (h : m = n) : ((m : Int) != (n : Int)) = false := by simp; omega
/-- Lengths that the machine can count. -/
structure En.Cnt (e : En) : Prop where
  x : e.x.length ≤ 9223372036854775807
  coms : e.coms.length ≤ 9223372036854775807
  next : e.next.length ≤ 9223372036854775807
  deals : e.deals.length ≤ 9223372036854775807
  com : ∀ l ∈ e.coms, l.length ≤ 9223372036854775807
  col : ∀ d ∈ e.deals, d.2.length ≤ 9223372036854775807
  cols : ∀ d ∈ e.deals, ∀ l ∈ d.2, l.length ≤ 9223372036854775807
theorem En.Lim.cnt {e : En} (h : e.Lim) : e.Cnt :=
  ⟨by have := h.x; omega, by have := h.coms; omega, by have := h.next; omega, by have := h.deals; omega, fun l hl => by have := h.com l hl; omega, fun d hd => by have := h.col d hd; omega, fun d hd l hl => by have := h.cols d hd l hl; omega⟩
theorem cnt_zero : En.zero.Cnt := ⟨by simp [En.zero], by simp [En.zero], by simp [En.zero], by simp [En.zero], by simp [En.zero], by simp [En.zero], by simp [En.zero]⟩
def box2 (w : World) (a b : Array Value) : World := (w.alloc (.cells a 55)).alloc (.cells b 55)
theorem box2_below (w : World) (a b : Array Value) : Below w.heap.size w (box2 w a b) := ((Below.refl _ w).alloc (Nat.le_refl _) _).alloc (by simp) _
theorem box2_1 (w : World) (a b : Array Value) : Blk (box2 w a b) w.heap.size 55 a := (Blk.new w 55 a).alloc _
theorem box2_2 (w : World) (a b : Array Value) : Blk (box2 w a b) (w.heap.size + 1) 55 b := by
  have h := Blk.new (w.alloc (.cells a 55)) 55 b
  simp only [asz] at h
  exact h

set_option maxRecDepth 100000 in
set_option maxHeartbeats 400000 in
theorem rsame_k (a b : En) (p q : Ad) (w : World) (ha : NEn w w.heap.size a p) (hb : NEn w w.heap.size b q)  (hk : a.k ≠ b.k) :
    Calls Try.prog 34 #[.agg #[.int .u8 a.k, .int .i64 a.id, .int .i64 a.ep, .slice p.a1 a.x.length p.c1, .slice p.a2 a.coms.length p.c2, .slice p.a3 a.next.length p.c3, .slice p.a4 a.deals.length p.c4], .agg #[.int .u8 b.k, .int .i64 b.id, .int .i64 b.ep, .slice q.a1 b.x.length q.c1, .slice q.a2 b.coms.length q.c2, .slice q.a3 b.next.length q.c3, .slice q.a4 b.deals.length q.c4]] w (BoolPost false w) := by

  have tk := bne_t hk
  clear hk
  have B0 := box2_below w #[.int .u8 a.k, .int .i64 a.id, .int .i64 a.ep, .slice p.a1 a.x.length p.c1, .slice p.a2 a.coms.length p.c2, .slice p.a3 a.next.length p.c3, .slice p.a4 a.deals.length p.c4] #[.int .u8 b.k, .int .i64 b.id, .int .i64 b.ep, .slice q.a1 b.x.length q.c1, .slice q.a2 b.coms.length q.c2, .slice q.a3 b.next.length q.c3, .slice q.a4 b.deals.length q.c4]
  have KA := box2_1 w #[.int .u8 a.k, .int .i64 a.id, .int .i64 a.ep, .slice p.a1 a.x.length p.c1, .slice p.a2 a.coms.length p.c2, .slice p.a3 a.next.length p.c3, .slice p.a4 a.deals.length p.c4] #[.int .u8 b.k, .int .i64 b.id, .int .i64 b.ep, .slice q.a1 b.x.length q.c1, .slice q.a2 b.coms.length q.c2, .slice q.a3 b.next.length q.c3, .slice q.a4 b.deals.length q.c4]
  have KB := box2_2 w #[.int .u8 a.k, .int .i64 a.id, .int .i64 a.ep, .slice p.a1 a.x.length p.c1, .slice p.a2 a.coms.length p.c2, .slice p.a3 a.next.length p.c3, .slice p.a4 a.deals.length p.c4] #[.int .u8 b.k, .int .i64 b.id, .int .i64 b.ep, .slice q.a1 b.x.length q.c1, .slice q.a2 b.coms.length q.c2, .slice q.a3 b.next.length q.c3, .slice q.a4 b.deals.length q.c4]
  obtain ⟨w0, hw0⟩ : ∃ w0, w0 = box2 w #[.int .u8 a.k, .int .i64 a.id, .int .i64 a.ep, .slice p.a1 a.x.length p.c1, .slice p.a2 a.coms.length p.c2, .slice p.a3 a.next.length p.c3, .slice p.a4 a.deals.length p.c4] #[.int .u8 b.k, .int .i64 b.id, .int .i64 b.ep, .slice q.a1 b.x.length q.c1, .slice q.a2 b.coms.length q.c2, .slice q.a3 b.next.length q.c3, .slice q.a4 b.deals.length q.c4] := ⟨_, rfl⟩
  rw [← hw0] at B0 KA KB
  unfold box2 at hw0
  have HW := Lib.hid hw0
  have H0 := Lib.hid (And.intro B0 (And.intro (ha.step B0) (hb.step B0)))
  obtain ⟨f0, f1, f2, f3, f4, f5, f6⟩ := KA.entry
  obtain ⟨g0, g1, g2, g3, g4, g5, g6⟩ := KB.entry
  clear hw0 ha hb KA KB B0
  go_enter Try.func34, Try.ntmps34
  go_upto_region 1 with fail
  rw [← HW.out]
  clear HW
  generalize hGG : w.heap.size = G at f0 f1 f2 f3 f4 f5 f6 g0 g1 g2 g3 g4 g5 g6 ⊢
  have HG := Lib.hid hGG
  clear hGG
  go_wp2_with fail
  go_ret
  exact ⟨rfl, H0.out.1⟩

set_option maxRecDepth 100000 in
set_option maxHeartbeats 400000 in
theorem rsame_i (a b : En) (p q : Ad) (w : World) (ha : NEn w w.heap.size a p) (hb : NEn w w.heap.size b q) (hk : a.k = b.k) (hi : a.id ≠ b.id) :
    Calls Try.prog 34 #[.agg #[.int .u8 a.k, .int .i64 a.id, .int .i64 a.ep, .slice p.a1 a.x.length p.c1, .slice p.a2 a.coms.length p.c2, .slice p.a3 a.next.length p.c3, .slice p.a4 a.deals.length p.c4], .agg #[.int .u8 b.k, .int .i64 b.id, .int .i64 b.ep, .slice q.a1 b.x.length q.c1, .slice q.a2 b.coms.length q.c2, .slice q.a3 b.next.length q.c3, .slice q.a4 b.deals.length q.c4]] w (BoolPost false w) := by
  have tk := bne_f hk
  have ti := bne_t hi
  clear hk hi
  have B0 := box2_below w #[.int .u8 a.k, .int .i64 a.id, .int .i64 a.ep, .slice p.a1 a.x.length p.c1, .slice p.a2 a.coms.length p.c2, .slice p.a3 a.next.length p.c3, .slice p.a4 a.deals.length p.c4] #[.int .u8 b.k, .int .i64 b.id, .int .i64 b.ep, .slice q.a1 b.x.length q.c1, .slice q.a2 b.coms.length q.c2, .slice q.a3 b.next.length q.c3, .slice q.a4 b.deals.length q.c4]
  have KA := box2_1 w #[.int .u8 a.k, .int .i64 a.id, .int .i64 a.ep, .slice p.a1 a.x.length p.c1, .slice p.a2 a.coms.length p.c2, .slice p.a3 a.next.length p.c3, .slice p.a4 a.deals.length p.c4] #[.int .u8 b.k, .int .i64 b.id, .int .i64 b.ep, .slice q.a1 b.x.length q.c1, .slice q.a2 b.coms.length q.c2, .slice q.a3 b.next.length q.c3, .slice q.a4 b.deals.length q.c4]
  have KB := box2_2 w #[.int .u8 a.k, .int .i64 a.id, .int .i64 a.ep, .slice p.a1 a.x.length p.c1, .slice p.a2 a.coms.length p.c2, .slice p.a3 a.next.length p.c3, .slice p.a4 a.deals.length p.c4] #[.int .u8 b.k, .int .i64 b.id, .int .i64 b.ep, .slice q.a1 b.x.length q.c1, .slice q.a2 b.coms.length q.c2, .slice q.a3 b.next.length q.c3, .slice q.a4 b.deals.length q.c4]
  obtain ⟨w0, hw0⟩ : ∃ w0, w0 = box2 w #[.int .u8 a.k, .int .i64 a.id, .int .i64 a.ep, .slice p.a1 a.x.length p.c1, .slice p.a2 a.coms.length p.c2, .slice p.a3 a.next.length p.c3, .slice p.a4 a.deals.length p.c4] #[.int .u8 b.k, .int .i64 b.id, .int .i64 b.ep, .slice q.a1 b.x.length q.c1, .slice q.a2 b.coms.length q.c2, .slice q.a3 b.next.length q.c3, .slice q.a4 b.deals.length q.c4] := ⟨_, rfl⟩
  rw [← hw0] at B0 KA KB
  unfold box2 at hw0
  have HW := Lib.hid hw0
  have H0 := Lib.hid (And.intro B0 (And.intro (ha.step B0) (hb.step B0)))
  obtain ⟨f0, f1, f2, f3, f4, f5, f6⟩ := KA.entry
  obtain ⟨g0, g1, g2, g3, g4, g5, g6⟩ := KB.entry
  clear hw0 ha hb KA KB B0
  go_enter Try.func34, Try.ntmps34
  go_upto_region 1 with fail
  rw [← HW.out]
  clear HW
  generalize hGG : w.heap.size = G at f0 f1 f2 f3 f4 f5 f6 g0 g1 g2 g3 g4 g5 g6 ⊢
  have HG := Lib.hid hGG
  clear hGG
  go_wp2_with fail
  go_ret
  exact ⟨rfl, H0.out.1⟩

set_option maxRecDepth 100000 in
set_option maxHeartbeats 400000 in
theorem rsame_e (a b : En) (p q : Ad) (w : World) (ha : NEn w w.heap.size a p) (hb : NEn w w.heap.size b q) (hk : a.k = b.k) (hi : a.id = b.id) (he : a.ep ≠ b.ep) :
    Calls Try.prog 34 #[.agg #[.int .u8 a.k, .int .i64 a.id, .int .i64 a.ep, .slice p.a1 a.x.length p.c1, .slice p.a2 a.coms.length p.c2, .slice p.a3 a.next.length p.c3, .slice p.a4 a.deals.length p.c4], .agg #[.int .u8 b.k, .int .i64 b.id, .int .i64 b.ep, .slice q.a1 b.x.length q.c1, .slice q.a2 b.coms.length q.c2, .slice q.a3 b.next.length q.c3, .slice q.a4 b.deals.length q.c4]] w (BoolPost false w) := by
  have tk := bne_f hk
  have ti := bne_f hi
  have te := bne_t he
  clear hk hi he
  have B0 := box2_below w #[.int .u8 a.k, .int .i64 a.id, .int .i64 a.ep, .slice p.a1 a.x.length p.c1, .slice p.a2 a.coms.length p.c2, .slice p.a3 a.next.length p.c3, .slice p.a4 a.deals.length p.c4] #[.int .u8 b.k, .int .i64 b.id, .int .i64 b.ep, .slice q.a1 b.x.length q.c1, .slice q.a2 b.coms.length q.c2, .slice q.a3 b.next.length q.c3, .slice q.a4 b.deals.length q.c4]
  have KA := box2_1 w #[.int .u8 a.k, .int .i64 a.id, .int .i64 a.ep, .slice p.a1 a.x.length p.c1, .slice p.a2 a.coms.length p.c2, .slice p.a3 a.next.length p.c3, .slice p.a4 a.deals.length p.c4] #[.int .u8 b.k, .int .i64 b.id, .int .i64 b.ep, .slice q.a1 b.x.length q.c1, .slice q.a2 b.coms.length q.c2, .slice q.a3 b.next.length q.c3, .slice q.a4 b.deals.length q.c4]
  have KB := box2_2 w #[.int .u8 a.k, .int .i64 a.id, .int .i64 a.ep, .slice p.a1 a.x.length p.c1, .slice p.a2 a.coms.length p.c2, .slice p.a3 a.next.length p.c3, .slice p.a4 a.deals.length p.c4] #[.int .u8 b.k, .int .i64 b.id, .int .i64 b.ep, .slice q.a1 b.x.length q.c1, .slice q.a2 b.coms.length q.c2, .slice q.a3 b.next.length q.c3, .slice q.a4 b.deals.length q.c4]
  obtain ⟨w0, hw0⟩ : ∃ w0, w0 = box2 w #[.int .u8 a.k, .int .i64 a.id, .int .i64 a.ep, .slice p.a1 a.x.length p.c1, .slice p.a2 a.coms.length p.c2, .slice p.a3 a.next.length p.c3, .slice p.a4 a.deals.length p.c4] #[.int .u8 b.k, .int .i64 b.id, .int .i64 b.ep, .slice q.a1 b.x.length q.c1, .slice q.a2 b.coms.length q.c2, .slice q.a3 b.next.length q.c3, .slice q.a4 b.deals.length q.c4] := ⟨_, rfl⟩
  rw [← hw0] at B0 KA KB
  unfold box2 at hw0
  have HW := Lib.hid hw0
  have H0 := Lib.hid (And.intro B0 (And.intro (ha.step B0) (hb.step B0)))
  obtain ⟨f0, f1, f2, f3, f4, f5, f6⟩ := KA.entry
  obtain ⟨g0, g1, g2, g3, g4, g5, g6⟩ := KB.entry
  clear hw0 ha hb KA KB B0
  go_enter Try.func34, Try.ntmps34
  go_upto_region 1 with fail
  rw [← HW.out]
  clear HW
  generalize hGG : w.heap.size = G at f0 f1 f2 f3 f4 f5 f6 g0 g1 g2 g3 g4 g5 g6 ⊢
  have HG := Lib.hid hGG
  clear hGG
  go_wp2_with fail
  go_ret
  exact ⟨rfl, H0.out.1⟩

set_option maxRecDepth 100000 in
set_option maxHeartbeats 400000 in
theorem rsame_x (a b : En) (p q : Ad) (w : World) (ha : NEn w w.heap.size a p) (hb : NEn w w.heap.size b q) (hk : a.k = b.k) (hi : a.id = b.id) (he : a.ep = b.ep) (hx : a.x.length ≠ b.x.length) :
    Calls Try.prog 34 #[.agg #[.int .u8 a.k, .int .i64 a.id, .int .i64 a.ep, .slice p.a1 a.x.length p.c1, .slice p.a2 a.coms.length p.c2, .slice p.a3 a.next.length p.c3, .slice p.a4 a.deals.length p.c4], .agg #[.int .u8 b.k, .int .i64 b.id, .int .i64 b.ep, .slice q.a1 b.x.length q.c1, .slice q.a2 b.coms.length q.c2, .slice q.a3 b.next.length q.c3, .slice q.a4 b.deals.length q.c4]] w (BoolPost false w) := by
  have tk := bne_f hk
  have ti := bne_f hi
  have te := bne_f he
  have tx := lne_t hx
  clear hk hi he hx
  have B0 := box2_below w #[.int .u8 a.k, .int .i64 a.id, .int .i64 a.ep, .slice p.a1 a.x.length p.c1, .slice p.a2 a.coms.length p.c2, .slice p.a3 a.next.length p.c3, .slice p.a4 a.deals.length p.c4] #[.int .u8 b.k, .int .i64 b.id, .int .i64 b.ep, .slice q.a1 b.x.length q.c1, .slice q.a2 b.coms.length q.c2, .slice q.a3 b.next.length q.c3, .slice q.a4 b.deals.length q.c4]
  have KA := box2_1 w #[.int .u8 a.k, .int .i64 a.id, .int .i64 a.ep, .slice p.a1 a.x.length p.c1, .slice p.a2 a.coms.length p.c2, .slice p.a3 a.next.length p.c3, .slice p.a4 a.deals.length p.c4] #[.int .u8 b.k, .int .i64 b.id, .int .i64 b.ep, .slice q.a1 b.x.length q.c1, .slice q.a2 b.coms.length q.c2, .slice q.a3 b.next.length q.c3, .slice q.a4 b.deals.length q.c4]
  have KB := box2_2 w #[.int .u8 a.k, .int .i64 a.id, .int .i64 a.ep, .slice p.a1 a.x.length p.c1, .slice p.a2 a.coms.length p.c2, .slice p.a3 a.next.length p.c3, .slice p.a4 a.deals.length p.c4] #[.int .u8 b.k, .int .i64 b.id, .int .i64 b.ep, .slice q.a1 b.x.length q.c1, .slice q.a2 b.coms.length q.c2, .slice q.a3 b.next.length q.c3, .slice q.a4 b.deals.length q.c4]
  obtain ⟨w0, hw0⟩ : ∃ w0, w0 = box2 w #[.int .u8 a.k, .int .i64 a.id, .int .i64 a.ep, .slice p.a1 a.x.length p.c1, .slice p.a2 a.coms.length p.c2, .slice p.a3 a.next.length p.c3, .slice p.a4 a.deals.length p.c4] #[.int .u8 b.k, .int .i64 b.id, .int .i64 b.ep, .slice q.a1 b.x.length q.c1, .slice q.a2 b.coms.length q.c2, .slice q.a3 b.next.length q.c3, .slice q.a4 b.deals.length q.c4] := ⟨_, rfl⟩
  rw [← hw0] at B0 KA KB
  unfold box2 at hw0
  have HW := Lib.hid hw0
  have H0 := Lib.hid (And.intro B0 (And.intro (ha.step B0) (hb.step B0)))
  obtain ⟨f0, f1, f2, f3, f4, f5, f6⟩ := KA.entry
  obtain ⟨g0, g1, g2, g3, g4, g5, g6⟩ := KB.entry
  clear hw0 ha hb KA KB B0
  go_enter Try.func34, Try.ntmps34
  go_upto_region 1 with fail
  rw [← HW.out]
  clear HW
  generalize hGG : w.heap.size = G at f0 f1 f2 f3 f4 f5 f6 g0 g1 g2 g3 g4 g5 g6 ⊢
  have HG := Lib.hid hGG
  clear hGG
  go_wp2_with fail
  go_ret
  exact ⟨rfl, H0.out.1⟩

set_option maxRecDepth 100000 in
set_option maxHeartbeats 400000 in
theorem rsame_n (a b : En) (p q : Ad) (w : World) (ha : NEn w w.heap.size a p) (hb : NEn w w.heap.size b q) (hk : a.k = b.k) (hi : a.id = b.id) (he : a.ep = b.ep) (hx : a.x.length = b.x.length) (hn : a.next.length ≠ b.next.length) :
    Calls Try.prog 34 #[.agg #[.int .u8 a.k, .int .i64 a.id, .int .i64 a.ep, .slice p.a1 a.x.length p.c1, .slice p.a2 a.coms.length p.c2, .slice p.a3 a.next.length p.c3, .slice p.a4 a.deals.length p.c4], .agg #[.int .u8 b.k, .int .i64 b.id, .int .i64 b.ep, .slice q.a1 b.x.length q.c1, .slice q.a2 b.coms.length q.c2, .slice q.a3 b.next.length q.c3, .slice q.a4 b.deals.length q.c4]] w (BoolPost false w) := by
  have tk := bne_f hk
  have ti := bne_f hi
  have te := bne_f he
  have tx := lne_f hx
  have tn := lne_t hn
  clear hk hi he hx hn
  have B0 := box2_below w #[.int .u8 a.k, .int .i64 a.id, .int .i64 a.ep, .slice p.a1 a.x.length p.c1, .slice p.a2 a.coms.length p.c2, .slice p.a3 a.next.length p.c3, .slice p.a4 a.deals.length p.c4] #[.int .u8 b.k, .int .i64 b.id, .int .i64 b.ep, .slice q.a1 b.x.length q.c1, .slice q.a2 b.coms.length q.c2, .slice q.a3 b.next.length q.c3, .slice q.a4 b.deals.length q.c4]
  have KA := box2_1 w #[.int .u8 a.k, .int .i64 a.id, .int .i64 a.ep, .slice p.a1 a.x.length p.c1, .slice p.a2 a.coms.length p.c2, .slice p.a3 a.next.length p.c3, .slice p.a4 a.deals.length p.c4] #[.int .u8 b.k, .int .i64 b.id, .int .i64 b.ep, .slice q.a1 b.x.length q.c1, .slice q.a2 b.coms.length q.c2, .slice q.a3 b.next.length q.c3, .slice q.a4 b.deals.length q.c4]
  have KB := box2_2 w #[.int .u8 a.k, .int .i64 a.id, .int .i64 a.ep, .slice p.a1 a.x.length p.c1, .slice p.a2 a.coms.length p.c2, .slice p.a3 a.next.length p.c3, .slice p.a4 a.deals.length p.c4] #[.int .u8 b.k, .int .i64 b.id, .int .i64 b.ep, .slice q.a1 b.x.length q.c1, .slice q.a2 b.coms.length q.c2, .slice q.a3 b.next.length q.c3, .slice q.a4 b.deals.length q.c4]
  obtain ⟨w0, hw0⟩ : ∃ w0, w0 = box2 w #[.int .u8 a.k, .int .i64 a.id, .int .i64 a.ep, .slice p.a1 a.x.length p.c1, .slice p.a2 a.coms.length p.c2, .slice p.a3 a.next.length p.c3, .slice p.a4 a.deals.length p.c4] #[.int .u8 b.k, .int .i64 b.id, .int .i64 b.ep, .slice q.a1 b.x.length q.c1, .slice q.a2 b.coms.length q.c2, .slice q.a3 b.next.length q.c3, .slice q.a4 b.deals.length q.c4] := ⟨_, rfl⟩
  rw [← hw0] at B0 KA KB
  unfold box2 at hw0
  have HW := Lib.hid hw0
  have H0 := Lib.hid (And.intro B0 (And.intro (ha.step B0) (hb.step B0)))
  obtain ⟨f0, f1, f2, f3, f4, f5, f6⟩ := KA.entry
  obtain ⟨g0, g1, g2, g3, g4, g5, g6⟩ := KB.entry
  clear hw0 ha hb KA KB B0
  go_enter Try.func34, Try.ntmps34
  go_upto_region 1 with fail
  rw [← HW.out]
  clear HW
  generalize hGG : w.heap.size = G at f0 f1 f2 f3 f4 f5 f6 g0 g1 g2 g3 g4 g5 g6 ⊢
  have HG := Lib.hid hGG
  clear hGG
  go_wp2_with fail
  go_ret
  exact ⟨rfl, H0.out.1⟩

set_option maxRecDepth 100000 in
set_option maxHeartbeats 400000 in
theorem rsame_d (a b : En) (p q : Ad) (w : World) (ha : NEn w w.heap.size a p) (hb : NEn w w.heap.size b q) (hk : a.k = b.k) (hi : a.id = b.id) (he : a.ep = b.ep) (hx : a.x.length = b.x.length) (hn : a.next.length = b.next.length) (hd : a.deals.length ≠ b.deals.length) :
    Calls Try.prog 34 #[.agg #[.int .u8 a.k, .int .i64 a.id, .int .i64 a.ep, .slice p.a1 a.x.length p.c1, .slice p.a2 a.coms.length p.c2, .slice p.a3 a.next.length p.c3, .slice p.a4 a.deals.length p.c4], .agg #[.int .u8 b.k, .int .i64 b.id, .int .i64 b.ep, .slice q.a1 b.x.length q.c1, .slice q.a2 b.coms.length q.c2, .slice q.a3 b.next.length q.c3, .slice q.a4 b.deals.length q.c4]] w (BoolPost false w) := by
  have tk := bne_f hk
  have ti := bne_f hi
  have te := bne_f he
  have tx := lne_f hx
  have tn := lne_f hn
  have td := lne_t hd
  clear hk hi he hx hn hd
  have B0 := box2_below w #[.int .u8 a.k, .int .i64 a.id, .int .i64 a.ep, .slice p.a1 a.x.length p.c1, .slice p.a2 a.coms.length p.c2, .slice p.a3 a.next.length p.c3, .slice p.a4 a.deals.length p.c4] #[.int .u8 b.k, .int .i64 b.id, .int .i64 b.ep, .slice q.a1 b.x.length q.c1, .slice q.a2 b.coms.length q.c2, .slice q.a3 b.next.length q.c3, .slice q.a4 b.deals.length q.c4]
  have KA := box2_1 w #[.int .u8 a.k, .int .i64 a.id, .int .i64 a.ep, .slice p.a1 a.x.length p.c1, .slice p.a2 a.coms.length p.c2, .slice p.a3 a.next.length p.c3, .slice p.a4 a.deals.length p.c4] #[.int .u8 b.k, .int .i64 b.id, .int .i64 b.ep, .slice q.a1 b.x.length q.c1, .slice q.a2 b.coms.length q.c2, .slice q.a3 b.next.length q.c3, .slice q.a4 b.deals.length q.c4]
  have KB := box2_2 w #[.int .u8 a.k, .int .i64 a.id, .int .i64 a.ep, .slice p.a1 a.x.length p.c1, .slice p.a2 a.coms.length p.c2, .slice p.a3 a.next.length p.c3, .slice p.a4 a.deals.length p.c4] #[.int .u8 b.k, .int .i64 b.id, .int .i64 b.ep, .slice q.a1 b.x.length q.c1, .slice q.a2 b.coms.length q.c2, .slice q.a3 b.next.length q.c3, .slice q.a4 b.deals.length q.c4]
  obtain ⟨w0, hw0⟩ : ∃ w0, w0 = box2 w #[.int .u8 a.k, .int .i64 a.id, .int .i64 a.ep, .slice p.a1 a.x.length p.c1, .slice p.a2 a.coms.length p.c2, .slice p.a3 a.next.length p.c3, .slice p.a4 a.deals.length p.c4] #[.int .u8 b.k, .int .i64 b.id, .int .i64 b.ep, .slice q.a1 b.x.length q.c1, .slice q.a2 b.coms.length q.c2, .slice q.a3 b.next.length q.c3, .slice q.a4 b.deals.length q.c4] := ⟨_, rfl⟩
  rw [← hw0] at B0 KA KB
  unfold box2 at hw0
  have HW := Lib.hid hw0
  have H0 := Lib.hid (And.intro B0 (And.intro (ha.step B0) (hb.step B0)))
  obtain ⟨f0, f1, f2, f3, f4, f5, f6⟩ := KA.entry
  obtain ⟨g0, g1, g2, g3, g4, g5, g6⟩ := KB.entry
  clear hw0 ha hb KA KB B0
  go_enter Try.func34, Try.ntmps34
  go_upto_region 1 with fail
  rw [← HW.out]
  clear HW
  generalize hGG : w.heap.size = G at f0 f1 f2 f3 f4 f5 f6 g0 g1 g2 g3 g4 g5 g6 ⊢
  have HG := Lib.hid hGG
  clear hGG
  go_wp2_with fail
  go_ret
  exact ⟨rfl, H0.out.1⟩

set_option maxRecDepth 100000 in
set_option maxHeartbeats 400000 in
theorem rsame_c (a b : En) (p q : Ad) (w : World) (ha : NEn w w.heap.size a p) (hb : NEn w w.heap.size b q) (ca : a.Cnt) (cb : b.Cnt) (hk : a.k = b.k) (hi : a.id = b.id) (he : a.ep = b.ep) (hx : a.x.length = b.x.length) (hn : a.next.length = b.next.length) (hd : a.deals.length = b.deals.length) (hc : a.coms ≠ b.coms) :
    Calls Try.prog 34 #[.agg #[.int .u8 a.k, .int .i64 a.id, .int .i64 a.ep, .slice p.a1 a.x.length p.c1, .slice p.a2 a.coms.length p.c2, .slice p.a3 a.next.length p.c3, .slice p.a4 a.deals.length p.c4], .agg #[.int .u8 b.k, .int .i64 b.id, .int .i64 b.ep, .slice q.a1 b.x.length q.c1, .slice q.a2 b.coms.length q.c2, .slice q.a3 b.next.length q.c3, .slice q.a4 b.deals.length q.c4]] w (BoolPost false w) := by
  have HC := Lib.hid (And.intro ca cb)
  have hc : (a.coms == b.coms) = false := by simpa using hc
  have HQ := Lib.hid hc
  have tk := bne_f hk
  have ti := bne_f hi
  have te := bne_f he
  have tx := lne_f hx
  have tn := lne_f hn
  have td := lne_f hd
  clear hk hi he hx hn hd ca cb hc
  have B0 := box2_below w #[.int .u8 a.k, .int .i64 a.id, .int .i64 a.ep, .slice p.a1 a.x.length p.c1, .slice p.a2 a.coms.length p.c2, .slice p.a3 a.next.length p.c3, .slice p.a4 a.deals.length p.c4] #[.int .u8 b.k, .int .i64 b.id, .int .i64 b.ep, .slice q.a1 b.x.length q.c1, .slice q.a2 b.coms.length q.c2, .slice q.a3 b.next.length q.c3, .slice q.a4 b.deals.length q.c4]
  have KA := box2_1 w #[.int .u8 a.k, .int .i64 a.id, .int .i64 a.ep, .slice p.a1 a.x.length p.c1, .slice p.a2 a.coms.length p.c2, .slice p.a3 a.next.length p.c3, .slice p.a4 a.deals.length p.c4] #[.int .u8 b.k, .int .i64 b.id, .int .i64 b.ep, .slice q.a1 b.x.length q.c1, .slice q.a2 b.coms.length q.c2, .slice q.a3 b.next.length q.c3, .slice q.a4 b.deals.length q.c4]
  have KB := box2_2 w #[.int .u8 a.k, .int .i64 a.id, .int .i64 a.ep, .slice p.a1 a.x.length p.c1, .slice p.a2 a.coms.length p.c2, .slice p.a3 a.next.length p.c3, .slice p.a4 a.deals.length p.c4] #[.int .u8 b.k, .int .i64 b.id, .int .i64 b.ep, .slice q.a1 b.x.length q.c1, .slice q.a2 b.coms.length q.c2, .slice q.a3 b.next.length q.c3, .slice q.a4 b.deals.length q.c4]
  obtain ⟨w0, hw0⟩ : ∃ w0, w0 = box2 w #[.int .u8 a.k, .int .i64 a.id, .int .i64 a.ep, .slice p.a1 a.x.length p.c1, .slice p.a2 a.coms.length p.c2, .slice p.a3 a.next.length p.c3, .slice p.a4 a.deals.length p.c4] #[.int .u8 b.k, .int .i64 b.id, .int .i64 b.ep, .slice q.a1 b.x.length q.c1, .slice q.a2 b.coms.length q.c2, .slice q.a3 b.next.length q.c3, .slice q.a4 b.deals.length q.c4] := ⟨_, rfl⟩
  rw [← hw0] at B0 KA KB
  unfold box2 at hw0
  have HW := Lib.hid hw0
  have H0 := Lib.hid (And.intro B0 (And.intro (ha.step B0) (hb.step B0)))
  obtain ⟨f0, f1, f2, f3, f4, f5, f6⟩ := KA.entry
  obtain ⟨g0, g1, g2, g3, g4, g5, g6⟩ := KB.entry
  clear hw0 ha hb KA KB B0
  go_enter Try.func34, Try.ntmps34
  go_upto_region 1 with fail
  rw [← HW.out]
  clear HW
  generalize hGG : w.heap.size = G at f0 f1 f2 f3 f4 f5 f6 g0 g1 g2 g3 g4 g5 g6 ⊢
  have HG := Lib.hid hGG
  clear hGG
  go_wp2_with fail
  refine (rlists_any p.a2 q.a2 p.c2 q.c2 a.coms b.coms w0 H0.out.2.1.coms H0.out.2.2.coms HC.out.1.coms HC.out.2.coms HC.out.1.com HC.out.2.com).mono ?_
  rintro e2 w1 ⟨rfl, b1⟩
  rw [HQ.out]
  go_wp2_with fail
  go_ret
  exact ⟨rfl, step_below H0.out.1 b1⟩

end Go.Proofs.Ytdnkijljpmcejaa
