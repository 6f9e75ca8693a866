/-
  consistorylaw28.NetRow: the walk.
-/
import Derived.Test.YtbibbndjnlnbiaaRowPlain
import Derived.Deep.CutBlock
namespace Go.Proofs.Ytbibbndjnlnbiaa
open Go.RowKit Go.Maps

/-- Nine numbers of the law's own. -/
def Arr (w : World) (q : Nat) (f : Int → Nat) : Prop := ∃ cs : Array Value, Blk w q 3 cs ∧ cs.size = 9 ∧ ∀ i : Nat, i < 9 → cs[i]? = some (.int .i64 (f (i : Int)))
theorem Arr.cell {w : World} {q i : Nat} {f : Int → Nat} (h : Arr w q f) (hi : i < 9) : w.cell? ⟨q, i, none⟩ = some (.int .i64 (f (i : Int))) := by
  obtain ⟨cs, hb, _, hc⟩ := h
  rw [hb.cell i]
  exact hc i hi
theorem Arr.block {w w' : World} {q : Nat} {f : Int → Nat} (h : Arr w q f) (hb : w'.heap[q]? = w.heap[q]?) : Arr w' q f := by
  obtain ⟨cs, h1, h2, h3⟩ := h
  exact ⟨cs, hb.trans h1, h2, h3⟩
theorem Arr.lt {w : World} {q : Nat} {f : Int → Nat} (h : Arr w q f) : q < w.heap.size := h.elim fun _ x => x.1.lt
theorem Arr.kept {w w' : World} {q : Nat} {f : Int → Nat} (h : Arr w q f) (b : Below w.heap.size w w') : Arr w' q f := h.block (b.block q h.lt)
theorem Arr.bump {w : World} {q d : Nat} {f : Int → Nat} (h : Arr w q f) : Arr (w.setCell ⟨q, d, none⟩ (.int .i64 ((f d : Nat) + 1 : Int))) q (bump f d) := by
  obtain ⟨cs, h1, h2, h3⟩ := h
  refine ⟨_, h1.set_ d _, by simp [h2], fun i hi => ?_⟩
  rw [Array.getElem?_setIfInBounds]
  unfold Go.Proofs.Ytbibbndjnlnbiaa.bump
  by_cases he : d = i
  · subst he
    rw [if_pos rfl, if_pos rfl, if_pos (by omega)]
    simp
  · rw [if_neg he, if_neg (by omega)]
    exact h3 i hi
theorem Arr.far {w : World} {q p i : Nat} {f : Int → Nat} (h : Arr w q f) (hne : q ≠ p) (u : Value) : Arr (w.setCell ⟨p, i, none⟩ u) q f := by
  obtain ⟨cs, h1, h2, h3⟩ := h
  exact ⟨cs, h1.farc hne u, h2, h3⟩
theorem Arr.new (w : World) : Arr (w.alloc (.cells #[.int .i64 0, .int .i64 0, .int .i64 0, .int .i64 0, .int .i64 0, .int .i64 0, .int .i64 0, .int .i64 0, .int .i64 0] 3)) w.heap.size (fun _ => 0) := by
  refine ⟨_, Blk.new w 3 _, rfl, fun i hi => ?_⟩
  match i, hi with
  | 0, _ => rfl
  | 1, _ => rfl
  | 2, _ => rfl
  | 3, _ => rfl
  | 4, _ => rfl
  | 5, _ => rfl
  | 6, _ => rfl
  | 7, _ => rfl
  | 8, _ => rfl
theorem mk9 (w : World) : (Instr.makeSlice 46 (.int .i64 9) (.int .i64 9)).run Try.prog w = .ok (.slice (some ⟨w.heap.size, 0, none⟩) 9 9) (w.alloc (.cells #[.int .i64 0, .int .i64 0, .int .i64 0, .int .i64 0, .int .i64 0, .int .i64 0, .int .i64 0, .int .i64 0, .int .i64 0] 3)) := by kernel_rfl
/-- The law's two rows. -/
def X2 (p q : Nat) : Nat → Prop := fun k => k = p ∨ k = q
/-- What NetRow keeps. -/
structure RSt (B : Nat) (w0 : World) (g mb p q K : Nat) (n : Nt) (nx lt : Int → Nat) (w : World) : Prop where
  ri : RowI n nx lt K
  ok : n.Ok K
  held : Held (X2 p q) B w0 g mb n w
  ne : p ≠ q
  bp : B ≤ p
  bq : B ≤ q
  ap : Arr w p nx
  aq : Arr w q lt
section
variable {B g mb p q K : Nat} {w0 w w1 : World} {n n' : Nt} {nx lt : Int → Nat}
theorem Arr.fr {X : Nat → Prop} {r : Nat} {f : Int → Nat} (h : Arr w r f) (k : Fr X B w w1) (hx : X r) : Arr w1 r f := h.block (k.x r hx)
theorem RSt.kept (h : RSt B w0 g mb p q K n nx lt w) (b : Below w.heap.size w w1) : RSt B w0 g mb p q K n nx lt w1 :=
  ⟨h.ri, h.ok, h.held.kept b, h.ne, h.bp, h.bq, h.ap.kept b, h.aq.kept b⟩
theorem RSt.more {K' : Nat} (h : RSt B w0 g mb p q K n nx lt w) (hK : K ≤ K') : RSt B w0 g mb p q K' n nx lt w :=
  ⟨⟨h.ri.seg, h.ri.le, Nat.le_trans h.ri.len hK, fun x => Nat.le_trans (h.ri.hi x) hK, h.ri.most, h.ri.out⟩, h.ok.more hK, h.held, h.ne, h.bp, h.bq, h.ap, h.aq⟩
theorem RSt.send {d : Nat} (h : RSt B w0 g mb p q K n nx lt w) (h1 : 1 ≤ d) (h2 : d ≤ 3) (hK : K < 4096) (hh : Held (X2 p q) B w0 g mb (n.send (rowM d (nx d))) w1) (f : Fr (X2 p q) B w w1) :
    RSt B w0 g mb p q (K + 1) (n.send (rowM d (nx d))) (bump nx d) lt (w1.setCell ⟨p, d, none⟩ (.int .i64 ((nx d : Nat) + 1 : Int))) := by
  obtain ⟨cs, hb, _, _⟩ := h.ap.fr f (.inl rfl)
  exact ⟨(h.ri.send hK (by omega) (by omega)).2, Nt.send_ok h.ok (rowM_ok (by omega) (by omega)), hh.poke (.inl rfl) hb h.bp d _, h.ne, h.bp, h.bq, (h.ap.fr f (.inl rfl)).bump, (h.aq.fr f (.inr rfl)).far (Ne.symm h.ne) _⟩
theorem RSt.give {d : Nat} {k : Int} {r : List Int} (h : RSt B w0 g mb p q K n nx lt w) (h1 : 1 ≤ d) (h2 : d ≤ 3) (hk : n.to d = k :: r) (hh : Held (X2 p q) B w0 g mb (n.lose k) w1) (f : Fr (X2 p q) B w w1) :
    RSt B w0 g mb p q K (n.lose k) nx (bump lt d) (w1.setCell ⟨q, d, none⟩ (.int .i64 ((lt d : Nat) + 1 : Int))) := by
  obtain ⟨cs, hb, _, _⟩ := h.aq.fr f (.inr rfl)
  exact ⟨((h.ri.first (by omega) (by omega)).2 k r hk).2.2.2, Nt.lose_ok h.ok, hh.poke (.inr rfl) hb h.bq d _, h.ne, h.bp, h.bq, (h.ap.fr f (.inl rfl)).far h.ne _, (h.aq.fr f (.inr rfl)).bump⟩
end
end Go.Proofs.Ytbibbndjnlnbiaa
