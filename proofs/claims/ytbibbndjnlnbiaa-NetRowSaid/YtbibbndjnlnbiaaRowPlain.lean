/-
  The row of what is sent to a node, plain.
-/
import Derived.Test.YtbibbndjnlnbiaaWorks28
namespace Go.Proofs.Ytbibbndjnlnbiaa

/-- The i-th message that is sent to a node. -/
def rowM (d : Int) (i : Nat) : Mg := ⟨3, 1, d, 1 + ((i % 64 : Nat) : Int), ((i / 64 % 100 : Nat) : Int), 0, 0, 0, 0, [], []⟩
theorem rowM_may {d : Int} {i : Nat} (h1 : 1 ≤ d) (h2 : d ≤ 3) : (rowM d i).may = true := by
  have a1 : i % 64 < 64 := Nat.mod_lt _ (by decide)
  have a2 : i / 64 % 100 < 100 := Nat.mod_lt _ (by decide)
  simp [rowM, Mg.may, win, fClient, fVote, fDealt, fText, fSome, fNums]
  refine ⟨⟨⟨?_, decide_eq_true ?_⟩, decide_eq_true ?_, decide_eq_true ?_⟩, decide_eq_true ?_, decide_eq_true ?_⟩ <;> omega
theorem rowM_ok {d : Int} {i : Nat} (h1 : 1 ≤ d) (h2 : d ≤ 3) : (rowM d i).Ok := by
  have a1 : i % 64 < 64 := Nat.mod_lt _ (by decide)
  have a2 : i / 64 % 100 < 100 := Nat.mod_lt _ (by decide)
  exact ok_ints (by decide) (by unfold I64; decide) (by unfold I64; omega) (by unfold I64; omega) (by unfold I64; omega) (by unfold I64; decide) (by unfold I64; decide) (by unfold I64; decide) (by unfold I64; decide)
/-- What of these is to a node. -/
def flt (l : List Mg) (d : Int) : List Mg := l.filter fun m => decide (m.to = d)
def seg (d : Int) (last next : Nat) : List Mg := (List.range (next - last)).map fun x => rowM d (last + x)
theorem seg_nil (d : Int) (a : Nat) : seg d a a = [] := by simp [seg]
theorem seg_snoc {d : Int} {last next : Nat} (h : last ≤ next) : seg d last (next + 1) = seg d last next ++ [rowM d next] := by
  unfold seg
  have e : next + 1 - last = (next - last) + 1 := by omega
  rw [e, List.range_succ, List.map_append]
  simp only [List.map_cons, List.map_nil]
  rw [show last + (next - last) = next by omega]
theorem seg_cons {d : Int} {last next : Nat} (h : last < next) : seg d last next = rowM d last :: seg d (last + 1) next := by
  unfold seg
  have e : next - last = (next - (last + 1)) + 1 := by omega
  rw [e, List.range_succ_eq_map, List.map_cons, List.map_map, Nat.add_zero]
  congr 1
  apply List.map_congr_left
  intro x _
  show rowM d (last + (x + 1)) = rowM d (last + 1 + x)
  congr 1
  omega
theorem seg_length (d : Int) (last next : Nat) : (seg d last next).length = next - last := by simp [seg]
theorem flt_append (l : List Mg) (m : Mg) (d : Int) : flt (l ++ [m]) d = flt l d ++ if m.to = d then [m] else [] := by
  unfold flt
  rw [List.filter_append]
  by_cases h : m.to = d <;> simp [h]
theorem tos_flt : ∀ (l : List Mg) (i : Nat) (d : Int), (tos l i d).length = (flt l d).length
  | [], _, _ => rfl
  | m :: l, i, d => by
    simp only [tos, flt, List.filter_cons]
    have ih := tos_flt l (i + 1) d
    unfold flt at ih
    by_cases h : m.to = d <;> simp [h, ih]
/-- The first one to a node: where it is, and what is left behind it. -/
theorem tos_first : ∀ {l : List Mg} {i : Nat} {d k : Int} {r : List Int}, tos l i d = k :: r → ∃ (j : Nat) (m : Mg) (tl : List Mg), k = ((i + j : Nat) : Int) ∧ l[j]? = some m ∧ m.to = d ∧ flt l d = m :: tl ∧ flt (l.eraseIdx j) d = tl ∧ ∀ e, e ≠ d → flt (l.eraseIdx j) e = flt l e
  | m :: l, i, d, k, r, h => by
    by_cases hm : m.to = d
    · simp only [tos, hm, if_true, List.cons.injEq] at h
      refine ⟨0, m, flt l d, by simpa using h.1.symm, rfl, hm, by simp [flt, hm], rfl, fun e hne => ?_⟩
      have : ¬ m.to = e := fun e => hne (e.symm.trans hm)
      simp [flt, this]
    · simp only [tos, hm, if_false] at h
      obtain ⟨j, m', tl, e1, e2, e3, e4, e5, e6⟩ := tos_first h
      refine ⟨j + 1, m', tl, by rw [e1]; congr 1; omega, by simpa using e2, e3, ?_, ?_, fun e hne => ?_⟩
      · have : flt (m :: l) d = flt l d := by simp [flt, hm]
        rw [this, e4]
      · have : flt (m :: l.eraseIdx j) d = flt (l.eraseIdx j) d := by simp [flt, hm]
        rw [List.eraseIdx_cons_succ, this, e5]
      · have h1 := e6 e hne
        rw [List.eraseIdx_cons_succ]
        unfold flt at h1 ⊢
        rw [List.filter_cons, List.filter_cons, h1]
/-- What NetRow keeps: of each node what was sent to it and has not been given, in its row. -/
structure RowI (n : Nt) (nx lt : Int → Nat) (cap : Nat) : Prop where
  seg : ∀ d, 1 ≤ d → d ≤ 3 → flt n.l d = seg d (lt d) (nx d)
  le : ∀ d, lt d ≤ nx d
  len : n.l.length ≤ cap
  hi : ∀ d, nx d ≤ cap
  most : n.most = 4096
  out : n.out = 0
def bump (f : Int → Nat) (d : Int) : Int → Nat := fun x => if x = d then f x + 1 else f x
theorem RowI.new : RowI (Nt.new 4096) (fun _ => 0) (fun _ => 0) 0 := ⟨fun d _ _ => by rw [seg_nil]; rfl, fun _ => Nat.le_refl _, Nat.le_refl _, fun _ => Nat.le_refl _, rfl, rfl⟩
theorem RowI.send {n : Nt} {nx lt : Int → Nat} {cap : Nat} {d : Int} (h : RowI n nx lt cap) (hc : cap < 4096) (h1 : 1 ≤ d) (h2 : d ≤ 3) : n.sent (rowM d (nx d)) = true ∧ RowI (n.send (rowM d (nx d))) (bump nx d) lt (cap + 1) := by
  have hm := rowM_may (i := nx d) h1 h2
  have hl := h.len
  have hmost := h.most
  have hr : (n.l.length : Int) < n.most := by omega
  have he : n.send (rowM d (nx d)) = ⟨n.most, n.next + 1, n.l ++ [rowM d (nx d)], n.out⟩ := by
    unfold Nt.send
    rw [if_pos hm, if_pos hr]
  refine ⟨by simp [Nt.sent, hm, hr], ?_⟩
  rw [he]
  refine ⟨fun x hx1 hx2 => ?_, fun x => ?_, by simp; omega, fun x => ?_, hmost, h.out⟩
  · rw [flt_append, h.seg x hx1 hx2]
    unfold bump
    by_cases hx : x = d
    · subst hx
      have e9 : (rowM x (nx x)).to = x := rfl
      rw [if_pos rfl, if_pos e9, seg_snoc (h.le x)]
    · have e9 : ¬ (rowM d (nx d)).to = x := fun e => hx e.symm
      rw [if_neg hx, if_neg e9, List.append_nil]
  · have := h.le x
    unfold bump
    split <;> omega
  · have := h.hi x
    unfold bump
    split <;> omega
theorem RowI.first {n : Nt} {nx lt : Int → Nat} {cap : Nat} {d : Int} (h : RowI n nx lt cap) (h1 : 1 ≤ d) (h2 : d ≤ 3) : (n.to d).length = nx d - lt d ∧
    ∀ k r, n.to d = k :: r → n.is k = true ∧ n.msg k = rowM d (lt d) ∧ lt d < nx d ∧ RowI (n.lose k) nx (bump lt d) cap := by
  have hl : (n.to d).length = nx d - lt d := by
    unfold Nt.to
    rw [tos_flt, h.seg d h1 h2, seg_length]
  refine ⟨hl, fun k r hk => ?_⟩
  have hlt : lt d < nx d := by
    rw [hk] at hl
    simp at hl
    omega
  obtain ⟨j, m, tl, e1, e2, e3, e4, e5, e6⟩ := tos_first (l := n.l) (i := 0) hk
  rw [Nat.zero_add] at e1
  subst e1
  have hj := (List.getElem?_eq_some_iff.1 e2).1
  have his : n.is (j : Int) = true := Nt.is_iff.2 ⟨by omega, by omega⟩
  have hmsg : n.msg (j : Int) = m := by
    have := Nt.msg_at his
    rw [Int.toNat_natCast, e2] at this
    exact (Option.some.inj this).symm
  have hs := h.seg d h1 h2
  rw [e4, seg_cons hlt] at hs
  injection hs with hm htl
  refine ⟨his, by rw [hmsg, hm], hlt, ?_⟩
  have he : n.lose (j : Int) = ⟨n.most, n.next, n.l.eraseIdx j, n.out⟩ := by simp [Nt.lose, his]
  rw [he]
  refine ⟨fun x hx1 hx2 => ?_, fun x => ?_, ?_, h.hi, h.most, h.out⟩
  · unfold bump
    by_cases hx : x = d
    · subst hx
      rw [if_pos rfl]
      exact e5.trans htl
    · rw [if_neg hx]
      exact (e6 x hx).trans (h.seg x hx1 hx2)
  · have := h.le x
    unfold bump
    split
    · rename_i hx
      subst hx
      omega
    · exact this
  · have := h.len
    rw [List.length_eraseIdx_of_lt hj]
    omega
end Go.Proofs.Ytbibbndjnlnbiaa
