/-
  consistoryref14.Same.
-/
import Derived.Test.YtbibbndjnlnbiaaEq
namespace Go.Proofs.Ytbibbndjnlnbiaa
open Go.RowKit

/-- Two messages in two new blocks. -/
def twoMsgs (w : World) (m o : Mg) (a a' : Option Addr) (c c' : Nat) : World := (w.alloc (.cells (m.cells a c) 32)).alloc (.cells (o.cells a' c') 32)
theorem twoMsgs_1 (w : World) (m o : Mg) (a a' : Option Addr) (c c' : Nat) : Blk (twoMsgs w m o a a' c c') w.heap.size 32 (m.cells a c) := (Blk.new w 32 (m.cells a c)).alloc _
theorem twoMsgs_2 (w : World) (m o : Mg) (a a' : Option Addr) (c c' : Nat) : Blk (twoMsgs w m o a a' c c') (w.heap.size + 1) 32 (o.cells a' c') := by
  have h := Blk.new (w.alloc (.cells (m.cells a c) 32)) 32 (o.cells a' c')
  simp only [asz] at h
  exact h
theorem twoMsgs_below (w : World) (m o : Mg) (a a' : Option Addr) (c c' : Nat) : Below w.heap.size w (twoMsgs w m o a a' c c') := ((Below.refl _ w).alloc (Nat.le_refl _) _).alloc (by simp) _

set_option maxRecDepth 100000 in
set_option maxHeartbeats 1000000 in
theorem rsame_no0 (k fr tt ht rd vl ep dl id k' fr' tt' ht' rd' vl' ep' dl' id' : Int) (s s' : List UInt8) (l l' : List Int) (a a' : Option Addr) (c c' : Nat) (w : World) (h : ¬ k = k') :
    Calls Try.prog 21 #[Mg.val ⟨k, fr, tt, ht, rd, vl, ep, dl, id, s, l⟩ a c, Mg.val ⟨k', fr', tt', ht', rd', vl', ep', dl', id', s', l'⟩ a' c'] w (BoolPost (Mg.same ⟨k, fr, tt, ht, rd, vl, ep, dl, id, s, l⟩ ⟨k', fr', tt', ht', rd', vl', ep', dl', id', s', l'⟩) w) := by
  unfold Mg.val
  dsimp only
  have e : (k != k') = true := by simpa using h
  have hs : Mg.same ⟨k, fr, tt, ht, rd, vl, ep, dl, id, s, l⟩ ⟨k', fr', tt', ht', rd', vl', ep', dl', id', s', l'⟩ = false := by simp [Mg.same, h]
  rw [hs]
  clear hs h
  go_enter Try.func21, Try.ntmps21
  go_wp2_with fail
  go_ret
  exact ⟨rfl, ((Below.refl _ w).alloc (Nat.le_refl _) _).alloc (by simp) _⟩
set_option maxRecDepth 100000 in
set_option maxHeartbeats 1000000 in
theorem rsame_no1 (k fr tt ht rd vl ep dl id fr' tt' ht' rd' vl' ep' dl' id' : Int) (s s' : List UInt8) (l l' : List Int) (a a' : Option Addr) (c c' : Nat) (w : World) (h : ¬ fr = fr') :
    Calls Try.prog 21 #[Mg.val ⟨k, fr, tt, ht, rd, vl, ep, dl, id, s, l⟩ a c, Mg.val ⟨k, fr', tt', ht', rd', vl', ep', dl', id', s', l'⟩ a' c'] w (BoolPost (Mg.same ⟨k, fr, tt, ht, rd, vl, ep, dl, id, s, l⟩ ⟨k, fr', tt', ht', rd', vl', ep', dl', id', s', l'⟩) w) := by
  unfold Mg.val
  dsimp only
  have e : (fr != fr') = true := by simpa using h
  have hs : Mg.same ⟨k, fr, tt, ht, rd, vl, ep, dl, id, s, l⟩ ⟨k, fr', tt', ht', rd', vl', ep', dl', id', s', l'⟩ = false := by simp [Mg.same, h]
  rw [hs]
  clear hs h
  go_enter Try.func21, Try.ntmps21
  go_wp2_with fail
  go_ret
  exact ⟨rfl, ((Below.refl _ w).alloc (Nat.le_refl _) _).alloc (by simp) _⟩
set_option maxRecDepth 100000 in
set_option maxHeartbeats 1000000 in
theorem rsame_no2 (k fr tt ht rd vl ep dl id tt' ht' rd' vl' ep' dl' id' : Int) (s s' : List UInt8) (l l' : List Int) (a a' : Option Addr) (c c' : Nat) (w : World) (h : ¬ tt = tt') :
    Calls Try.prog 21 #[Mg.val ⟨k, fr, tt, ht, rd, vl, ep, dl, id, s, l⟩ a c, Mg.val ⟨k, fr, tt', ht', rd', vl', ep', dl', id', s', l'⟩ a' c'] w (BoolPost (Mg.same ⟨k, fr, tt, ht, rd, vl, ep, dl, id, s, l⟩ ⟨k, fr, tt', ht', rd', vl', ep', dl', id', s', l'⟩) w) := by
  unfold Mg.val
  dsimp only
  have e : (tt != tt') = true := by simpa using h
  have hs : Mg.same ⟨k, fr, tt, ht, rd, vl, ep, dl, id, s, l⟩ ⟨k, fr, tt', ht', rd', vl', ep', dl', id', s', l'⟩ = false := by simp [Mg.same, h]
  rw [hs]
  clear hs h
  go_enter Try.func21, Try.ntmps21
  go_wp2_with fail
  go_ret
  exact ⟨rfl, ((Below.refl _ w).alloc (Nat.le_refl _) _).alloc (by simp) _⟩
set_option maxRecDepth 100000 in
set_option maxHeartbeats 1000000 in
theorem rsame_no3 (k fr tt ht rd vl ep dl id ht' rd' vl' ep' dl' id' : Int) (s s' : List UInt8) (l l' : List Int) (a a' : Option Addr) (c c' : Nat) (w : World) (h : ¬ ht = ht') :
    Calls Try.prog 21 #[Mg.val ⟨k, fr, tt, ht, rd, vl, ep, dl, id, s, l⟩ a c, Mg.val ⟨k, fr, tt, ht', rd', vl', ep', dl', id', s', l'⟩ a' c'] w (BoolPost (Mg.same ⟨k, fr, tt, ht, rd, vl, ep, dl, id, s, l⟩ ⟨k, fr, tt, ht', rd', vl', ep', dl', id', s', l'⟩) w) := by
  unfold Mg.val
  dsimp only
  have e : (ht != ht') = true := by simpa using h
  have hs : Mg.same ⟨k, fr, tt, ht, rd, vl, ep, dl, id, s, l⟩ ⟨k, fr, tt, ht', rd', vl', ep', dl', id', s', l'⟩ = false := by simp [Mg.same, h]
  rw [hs]
  clear hs h
  go_enter Try.func21, Try.ntmps21
  go_wp2_with fail
  go_ret
  exact ⟨rfl, ((Below.refl _ w).alloc (Nat.le_refl _) _).alloc (by simp) _⟩
set_option maxRecDepth 100000 in
set_option maxHeartbeats 1000000 in
theorem rsame_no4 (k fr tt ht rd vl ep dl id rd' vl' ep' dl' id' : Int) (s s' : List UInt8) (l l' : List Int) (a a' : Option Addr) (c c' : Nat) (w : World) (h : ¬ rd = rd') :
    Calls Try.prog 21 #[Mg.val ⟨k, fr, tt, ht, rd, vl, ep, dl, id, s, l⟩ a c, Mg.val ⟨k, fr, tt, ht, rd', vl', ep', dl', id', s', l'⟩ a' c'] w (BoolPost (Mg.same ⟨k, fr, tt, ht, rd, vl, ep, dl, id, s, l⟩ ⟨k, fr, tt, ht, rd', vl', ep', dl', id', s', l'⟩) w) := by
  unfold Mg.val
  dsimp only
  have e : (rd != rd') = true := by simpa using h
  have hs : Mg.same ⟨k, fr, tt, ht, rd, vl, ep, dl, id, s, l⟩ ⟨k, fr, tt, ht, rd', vl', ep', dl', id', s', l'⟩ = false := by simp [Mg.same, h]
  rw [hs]
  clear hs h
  go_enter Try.func21, Try.ntmps21
  go_wp2_with fail
  go_ret
  exact ⟨rfl, ((Below.refl _ w).alloc (Nat.le_refl _) _).alloc (by simp) _⟩
set_option maxRecDepth 100000 in
set_option maxHeartbeats 1000000 in
theorem rsame_no5 (k fr tt ht rd vl ep dl id vl' ep' dl' id' : Int) (s s' : List UInt8) (l l' : List Int) (a a' : Option Addr) (c c' : Nat) (w : World) (h : ¬ vl = vl') :
    Calls Try.prog 21 #[Mg.val ⟨k, fr, tt, ht, rd, vl, ep, dl, id, s, l⟩ a c, Mg.val ⟨k, fr, tt, ht, rd, vl', ep', dl', id', s', l'⟩ a' c'] w (BoolPost (Mg.same ⟨k, fr, tt, ht, rd, vl, ep, dl, id, s, l⟩ ⟨k, fr, tt, ht, rd, vl', ep', dl', id', s', l'⟩) w) := by
  unfold Mg.val
  dsimp only
  have e : (vl != vl') = true := by simpa using h
  have hs : Mg.same ⟨k, fr, tt, ht, rd, vl, ep, dl, id, s, l⟩ ⟨k, fr, tt, ht, rd, vl', ep', dl', id', s', l'⟩ = false := by simp [Mg.same, h]
  rw [hs]
  clear hs h
  go_enter Try.func21, Try.ntmps21
  go_wp2_with fail
  go_ret
  exact ⟨rfl, ((Below.refl _ w).alloc (Nat.le_refl _) _).alloc (by simp) _⟩
set_option maxRecDepth 100000 in
set_option maxHeartbeats 1000000 in
theorem rsame_no6 (k fr tt ht rd vl ep dl id ep' dl' id' : Int) (s s' : List UInt8) (l l' : List Int) (a a' : Option Addr) (c c' : Nat) (w : World) (h : ¬ ep = ep') :
    Calls Try.prog 21 #[Mg.val ⟨k, fr, tt, ht, rd, vl, ep, dl, id, s, l⟩ a c, Mg.val ⟨k, fr, tt, ht, rd, vl, ep', dl', id', s', l'⟩ a' c'] w (BoolPost (Mg.same ⟨k, fr, tt, ht, rd, vl, ep, dl, id, s, l⟩ ⟨k, fr, tt, ht, rd, vl, ep', dl', id', s', l'⟩) w) := by
  unfold Mg.val
  dsimp only
  have e : (ep != ep') = true := by simpa using h
  have hs : Mg.same ⟨k, fr, tt, ht, rd, vl, ep, dl, id, s, l⟩ ⟨k, fr, tt, ht, rd, vl, ep', dl', id', s', l'⟩ = false := by simp [Mg.same, h]
  rw [hs]
  clear hs h
  go_enter Try.func21, Try.ntmps21
  go_wp2_with fail
  go_ret
  exact ⟨rfl, ((Below.refl _ w).alloc (Nat.le_refl _) _).alloc (by simp) _⟩
set_option maxRecDepth 100000 in
set_option maxHeartbeats 1000000 in
theorem rsame_no7 (k fr tt ht rd vl ep dl id dl' id' : Int) (s s' : List UInt8) (l l' : List Int) (a a' : Option Addr) (c c' : Nat) (w : World) (h : ¬ dl = dl') :
    Calls Try.prog 21 #[Mg.val ⟨k, fr, tt, ht, rd, vl, ep, dl, id, s, l⟩ a c, Mg.val ⟨k, fr, tt, ht, rd, vl, ep, dl', id', s', l'⟩ a' c'] w (BoolPost (Mg.same ⟨k, fr, tt, ht, rd, vl, ep, dl, id, s, l⟩ ⟨k, fr, tt, ht, rd, vl, ep, dl', id', s', l'⟩) w) := by
  unfold Mg.val
  dsimp only
  have e : (dl != dl') = true := by simpa using h
  have hs : Mg.same ⟨k, fr, tt, ht, rd, vl, ep, dl, id, s, l⟩ ⟨k, fr, tt, ht, rd, vl, ep, dl', id', s', l'⟩ = false := by simp [Mg.same, h]
  rw [hs]
  clear hs h
  go_enter Try.func21, Try.ntmps21
  go_wp2_with fail
  go_ret
  exact ⟨rfl, ((Below.refl _ w).alloc (Nat.le_refl _) _).alloc (by simp) _⟩
set_option maxRecDepth 100000 in
set_option maxHeartbeats 1000000 in
theorem rsame_no8 (k fr tt ht rd vl ep dl id id' : Int) (s s' : List UInt8) (l l' : List Int) (a a' : Option Addr) (c c' : Nat) (w : World) (h : ¬ id = id') :
    Calls Try.prog 21 #[Mg.val ⟨k, fr, tt, ht, rd, vl, ep, dl, id, s, l⟩ a c, Mg.val ⟨k, fr, tt, ht, rd, vl, ep, dl, id', s', l'⟩ a' c'] w (BoolPost (Mg.same ⟨k, fr, tt, ht, rd, vl, ep, dl, id, s, l⟩ ⟨k, fr, tt, ht, rd, vl, ep, dl, id', s', l'⟩) w) := by
  unfold Mg.val
  dsimp only
  have e : (id != id') = true := by simpa using h
  have hs : Mg.same ⟨k, fr, tt, ht, rd, vl, ep, dl, id, s, l⟩ ⟨k, fr, tt, ht, rd, vl, ep, dl, id', s', l'⟩ = false := by simp [Mg.same, h]
  rw [hs]
  clear hs h
  go_enter Try.func21, Try.ntmps21
  go_wp2_with fail
  go_ret
  exact ⟨rfl, ((Below.refl _ w).alloc (Nat.le_refl _) _).alloc (by simp) _⟩
set_option maxRecDepth 100000 in
set_option maxHeartbeats 1000000 in
theorem rsame_no9 (k fr tt ht rd vl ep dl id : Int) (s s' : List UInt8) (l l' : List Int) (a a' : Option Addr) (c c' : Nat) (w : World) (h : ¬ s = s') :
    Calls Try.prog 21 #[Mg.val ⟨k, fr, tt, ht, rd, vl, ep, dl, id, s, l⟩ a c, Mg.val ⟨k, fr, tt, ht, rd, vl, ep, dl, id, s', l'⟩ a' c'] w (BoolPost (Mg.same ⟨k, fr, tt, ht, rd, vl, ep, dl, id, s, l⟩ ⟨k, fr, tt, ht, rd, vl, ep, dl, id, s', l'⟩) w) := by
  unfold Mg.val
  dsimp only
  have hs : Mg.same ⟨k, fr, tt, ht, rd, vl, ep, dl, id, s, l⟩ ⟨k, fr, tt, ht, rd, vl, ep, dl, id, s', l'⟩ = false := by simp [Mg.same, h]
  rw [hs]
  clear hs
  go_enter Try.func21, Try.ntmps21
  go_wp2_with fail
  go_ret
  exact ⟨rfl, ((Below.refl _ w).alloc (Nat.le_refl _) _).alloc (by simp) _⟩
set_option maxRecDepth 100000 in
set_option maxHeartbeats 1000000 in
theorem rsame_no10 (k fr tt ht rd vl ep dl id : Int) (s : List UInt8) (l l' : List Int) (a a' : Option Addr) (c c' : Nat) (w : World) (h : ¬ l.length = l'.length) :
    Calls Try.prog 21 #[Mg.val ⟨k, fr, tt, ht, rd, vl, ep, dl, id, s, l⟩ a c, Mg.val ⟨k, fr, tt, ht, rd, vl, ep, dl, id, s, l'⟩ a' c'] w (BoolPost (Mg.same ⟨k, fr, tt, ht, rd, vl, ep, dl, id, s, l⟩ ⟨k, fr, tt, ht, rd, vl, ep, dl, id, s, l'⟩) w) := by
  unfold Mg.val
  dsimp only
  have e : ((l.length : Int) != (l'.length : Int)) = true := by simp; omega
  have hs : Mg.same ⟨k, fr, tt, ht, rd, vl, ep, dl, id, s, l⟩ ⟨k, fr, tt, ht, rd, vl, ep, dl, id, s, l'⟩ = false := by
    have : l ≠ l' := fun h2 => h (by rw [h2])
    simp [Mg.same, this]
  rw [hs]
  clear hs h
  go_enter Try.func21, Try.ntmps21
  go_wp2_with fail
  go_ret
  exact ⟨rfl, ((Below.refl _ w).alloc (Nat.le_refl _) _).alloc (by simp) _⟩

theorem rsame_no (k fr tt ht rd vl ep dl id k' fr' tt' ht' rd' vl' ep' dl' id' : Int) (s s' : List UInt8) (l l' : List Int) (a a' : Option Addr) (c c' : Nat) (w : World) (hne : ¬ (k = k' ∧ fr = fr' ∧ tt = tt' ∧ ht = ht' ∧ rd = rd' ∧ vl = vl' ∧ ep = ep' ∧ dl = dl' ∧ id = id' ∧ s = s' ∧ l.length = l'.length)) :
    Calls Try.prog 21 #[Mg.val ⟨k, fr, tt, ht, rd, vl, ep, dl, id, s, l⟩ a c, Mg.val ⟨k', fr', tt', ht', rd', vl', ep', dl', id', s', l'⟩ a' c'] w (BoolPost (Mg.same ⟨k, fr, tt, ht, rd, vl, ep, dl, id, s, l⟩ ⟨k', fr', tt', ht', rd', vl', ep', dl', id', s', l'⟩) w) := by
  by_cases h0 : k = k'
  case neg => exact rsame_no0 _ _ _ _ _ _ _ _ _ _ _ _ _ _ _ _ _ _ _ _ _ _ _ _ _ _ _ h0
  subst h0
  by_cases h1 : fr = fr'
  case neg => exact rsame_no1 _ _ _ _ _ _ _ _ _ _ _ _ _ _ _ _ _ _ _ _ _ _ _ _ _ _ h1
  subst h1
  by_cases h2 : tt = tt'
  case neg => exact rsame_no2 _ _ _ _ _ _ _ _ _ _ _ _ _ _ _ _ _ _ _ _ _ _ _ _ _ h2
  subst h2
  by_cases h3 : ht = ht'
  case neg => exact rsame_no3 _ _ _ _ _ _ _ _ _ _ _ _ _ _ _ _ _ _ _ _ _ _ _ _ h3
  subst h3
  by_cases h4 : rd = rd'
  case neg => exact rsame_no4 _ _ _ _ _ _ _ _ _ _ _ _ _ _ _ _ _ _ _ _ _ _ _ h4
  subst h4
  by_cases h5 : vl = vl'
  case neg => exact rsame_no5 _ _ _ _ _ _ _ _ _ _ _ _ _ _ _ _ _ _ _ _ _ _ h5
  subst h5
  by_cases h6 : ep = ep'
  case neg => exact rsame_no6 _ _ _ _ _ _ _ _ _ _ _ _ _ _ _ _ _ _ _ _ _ h6
  subst h6
  by_cases h7 : dl = dl'
  case neg => exact rsame_no7 _ _ _ _ _ _ _ _ _ _ _ _ _ _ _ _ _ _ _ _ h7
  subst h7
  by_cases h8 : id = id'
  case neg => exact rsame_no8 _ _ _ _ _ _ _ _ _ _ _ _ _ _ _ _ _ _ _ h8
  subst h8
  by_cases h9 : s = s'
  case neg => exact rsame_no9 _ _ _ _ _ _ _ _ _ _ _ _ _ _ _ _ _ _ h9
  subst h9
  by_cases h10 : l.length = l'.length
  case neg => exact rsame_no10 _ _ _ _ _ _ _ _ _ _ _ _ _ _ _ _ _ h10
  exact absurd ⟨rfl, rfl, rfl, rfl, rfl, rfl, rfl, rfl, rfl, rfl, h10⟩ hne

set_option maxRecDepth 100000 in
set_option maxHeartbeats 2000000 in
theorem rsame_yes (k fr tt ht rd vl ep dl id : Int) (s : List UInt8) (l l' : List Int) (a a' : Option Addr) (c c' : Nat) (w : World) (hl : l.length = l'.length) (ha : Nums .u64 w w.heap.size a l) (ha' : Nums .u64 w w.heap.size a' l') (hl9 : l.length ≤ 9223372036854775807) :
    Calls Try.prog 21 #[Mg.val ⟨k, fr, tt, ht, rd, vl, ep, dl, id, s, l⟩ a c, Mg.val ⟨k, fr, tt, ht, rd, vl, ep, dl, id, s, l'⟩ a' c'] w (BoolPost (l == l') w) := by
  have hd : ((l.length : Int) != (l'.length : Int)) = false := by simp; omega
  have B1 := twoMsgs_1 w ⟨k, fr, tt, ht, rd, vl, ep, dl, id, s, l⟩ ⟨k, fr, tt, ht, rd, vl, ep, dl, id, s, l'⟩ a a' c c'
  have B2 := twoMsgs_2 w ⟨k, fr, tt, ht, rd, vl, ep, dl, id, s, l⟩ ⟨k, fr, tt, ht, rd, vl, ep, dl, id, s, l'⟩ a a' c c'
  have B0 := twoMsgs_below w ⟨k, fr, tt, ht, rd, vl, ep, dl, id, s, l⟩ ⟨k, fr, tt, ht, rd, vl, ep, dl, id, s, l'⟩ a a' c c'
  obtain ⟨W, hW⟩ : ∃ W, W = twoMsgs w ⟨k, fr, tt, ht, rd, vl, ep, dl, id, s, l⟩ ⟨k, fr, tt, ht, rd, vl, ep, dl, id, s, l'⟩ a a' c c' := ⟨_, rfl⟩
  rw [← hW] at B1 B2 B0
  unfold twoMsgs Mg.cells at hW
  unfold Mg.cells at B1 B2
  dsimp only at hW B1 B2
  have HL := Lib.hid hl
  clear hl
  have HW := Lib.hid hW
  clear hW
  unfold Mg.val
  dsimp only
  have HB1 := Lib.hid B1
  have HB2 := Lib.hid B2
  clear B1 B2
  go_enter Try.func21, Try.ntmps21
  go_wp2_with fail
  rw [← HW.out]
  go_loopw [5] (fun v wr => ∃ j : Nat, j ≤ l.length ∧ v = .int .i64 j ∧ (l.take j == l'.take j) = true ∧ Below W.heap.size W wr) (fun v _ => l.length - (intOf v).toNat)
  case atStart => exact ⟨0, Nat.zero_le _, rfl, by simp, Below.refl _ _⟩
  case round =>
    obtain ⟨j, hj, rfl, he, hB⟩ := hrel
    have hBw := B0.trans (hB.mono B0.size)
    have x10 : wr.cell? ⟨w.heap.size, 10, none⟩ = some (.slice a l.length c) := (HB1.out.kept hB).cell 10
    have y10 : wr.cell? ⟨w.heap.size + 1, 10, none⟩ = some (.slice a' l'.length c') := (HB2.out.kept hB).cell 10
    by_cases hlt : j < l.length
    · have hlt2 : j < l'.length := by rw [← HL.out]; exact hlt
      obtain ⟨p, hp⟩ : ∃ p, l[j]? = some p := ⟨_, List.getElem?_eq_getElem hlt⟩
      obtain ⟨q, hq⟩ : ∃ q, l'[j]? = some q := ⟨_, List.getElem?_eq_getElem hlt2⟩
      have hnext := take_beq' hp hq
      rw [he] at hnext
      rcases ha.kept hBw (Nat.le_refl _) with h0 | ⟨b1, o1, rfl, hb1, hc1⟩
      · rw [h0] at hlt; simp at hlt
      rcases ha'.kept hBw (Nat.le_refl _) with h0 | ⟨b2, o2, rfl, hb2, hc2⟩
      · rw [h0] at hlt2; simp at hlt2
      have e1 := hc1 j p hp
      have e2 := hc2 j q hq
      have h2I : (j : Int) < (l'.length : Int) := by omega
      have HN := Lib.hid hnext
      have HE := Lib.hid he
      have HP := Lib.hid hp
      have HQ := Lib.hid hq
      clear hnext hp hq hc1 hc2 he
      by_cases hpq : p = q
      · subst hpq
        go_wp2_with fail
        go_quiet (fail)
        go_wp2_with fail
        go_roundw
        case rel => exact ⟨j + 1, by omega, by go_num, by rw [HN.out]; simp, below_drewN hB _⟩
        case measure => simp [intOf]; omega
      · have hd2 : (p != q) = true := by simpa using hpq
        go_wp2_with fail
        go_quiet (fail)
        go_wp2_with fail
        go_ret
        refine ⟨ret_bool ?_, below_drewN hBw _⟩
        symm
        rw [beq_eq_false_iff_ne]
        rintro rfl
        have := HP.out.symm.trans HQ.out
        injection this with this
        exact hpq this
    · have hje : j = l.length := by omega
      subst hje
      have e3 : (l == l') = true := by rw [List.take_length, List.take_of_length_le (by rw [HL.out]; exact Nat.le_refl _)] at he; exact he
      have H3 := Lib.hid e3
      clear e3 he
      go_wp2_with fail
      go_ret
      exact ⟨ret_bool H3.out.symm, hBw⟩

/-- consistoryref14.Same, at any two messages. -/
theorem rsame_any (m o : Mg) (a a' : Option Addr) (c c' : Nat) (w : World) (ha : Nums .u64 w w.heap.size a m.l) (ha' : Nums .u64 w w.heap.size a' o.l) (hl9 : m.l.length ≤ 9223372036854775807) :
    Calls Try.prog 21 #[m.val a c, o.val a' c'] w (BoolPost (m.same o) w) := by
  obtain ⟨k, fr, tt, ht, rd, vl, ep, dl, id, s, l⟩ := m
  obtain ⟨k', fr', tt', ht', rd', vl', ep', dl', id', s', l'⟩ := o
  by_cases h : k = k' ∧ fr = fr' ∧ tt = tt' ∧ ht = ht' ∧ rd = rd' ∧ vl = vl' ∧ ep = ep' ∧ dl = dl' ∧ id = id' ∧ s = s' ∧ l.length = l'.length
  · obtain ⟨rfl, rfl, rfl, rfl, rfl, rfl, rfl, rfl, rfl, rfl, hl⟩ := h
    have e : Mg.same ⟨k, fr, tt, ht, rd, vl, ep, dl, id, s, l⟩ ⟨k, fr, tt, ht, rd, vl, ep, dl, id, s, l'⟩ = (l == l') := by simp [Mg.same]
    rw [e]
    exact rsame_yes k fr tt ht rd vl ep dl id s l l' a a' c c' w hl ha ha' hl9
  · exact rsame_no _ _ _ _ _ _ _ _ _ _ _ _ _ _ _ _ _ _ _ _ _ _ _ _ _ _ _ h
end Go.Proofs.Ytbibbndjnlnbiaa
