/-
  Numbers that may be written over: a row of the call's own.
-/
import Derived.Test.YtbibbndjnlnbiaaBase
namespace Go.Proofs.Ytbibbndjnlnbiaa
open Go.RowKit

/-- n numbers of a block of their own, from base on; they may be written over. -/
def Wr (base : Nat) (a : Option Addr) (n : Nat) (w : World) : Prop := n = 0 ∨ ∃ q cur, a = some ⟨q, 0, none⟩ ∧ base ≤ q ∧ Blk w q 56 cur ∧ n ≤ cur.size
theorem Wr.of_own {w : World} {base n c m : Nat} {a : Option Addr} {xs : List Value} (h : w.ownsRow base 56 1 (.slice a n c) m xs) (hm : m = n) : Wr base a n w := by
  subst hm
  rcases h.2 with ⟨_, e2⟩ | ⟨g, cap, cur, e1, h1, h2, h3, h4, h5, h6⟩
  · exact .inl e2
  · injection e1 with ea en ec
    exact .inr ⟨g, cur, ea, h1, h2, by omega⟩
theorem Wr.kept {w w' : World} {base n : Nat} {a : Option Addr} (h : Wr base a n w) (b : Below w.heap.size w w') : Wr base a n w' := by
  rcases h with h | ⟨q, cur, ha, h1, h2, h3⟩
  · exact .inl h
  · exact .inr ⟨q, cur, ha, h1, h2.kept b, h3⟩
theorem Wr.mono {w : World} {base base' n : Nat} {a : Option Addr} (h : Wr base a n w) (hb : base' ≤ base) : Wr base' a n w := by
  rcases h with h | ⟨q, cur, ha, h1, h2, h3⟩
  · exact .inl h
  · exact .inr ⟨q, cur, ha, by omega, h2, h3⟩
theorem Wr.alloc {w : World} {base n : Nat} {a : Option Addr} (h : Wr base a n w) (o : Obj) : Wr base a n (w.alloc o) := h.kept ((Below.refl _ w).alloc (Nat.le_refl _) _)
theorem Nums.news {k : IntKind} {w : World} {B : Nat} {a : Option Addr} {xs : List Int} (h : Nums k w B a xs) : xs.map (Value.int k) = [] ∨ ∃ p, a = some p ∧ ∀ j u, (xs.map (Value.int k))[j]? = some u → w.cell? (p.add j) = some u := by
  rcases h with h | ⟨b, o, ha, _, hc⟩
  · exact .inl (by rw [h]; rfl)
  · refine .inr ⟨⟨b, o, none⟩, ha, fun j u hu => ?_⟩
    rw [List.getElem?_map] at hu
    cases hx : xs[j]? with
    | none => rw [hx] at hu; simp at hu
    | some x =>
      rw [hx] at hu
      simp only [Option.map_some, Option.some.injEq] at hu
      subst hu
      rw [Addr.add_lit]
      exact hc j x hx
theorem infoU64 : (Try.prog.info? 56).map (fun i => (i.zero, i.size, i.bytes)) = some (some (.int .u64 0), 1, 8) := by kernel_rfl
end Go.Proofs.Ytbibbndjnlnbiaa
