/-
  For every input, without a condition, consistorylaw14.MsgNames returns true, and each argument reads afterwards as it read before.
-/
import Derived.Test.YtbibbndjnlnbiaaLift
import Derived.Test.YtbibbndjnlnbiaaMNames
namespace Go.Proofs.Ytbibbndjnlnbiaa.msgNames
open Go.ChangeShapes Go.WideShapes Go.ChangeAt Go.RowKit

set_option maxRecDepth 100000 in
theorem lifted (os : Os) (started : os.Started) (H : Type) (enc : TypeId × Value → H) :
    ReturnsInHanded {} Try.checked os 8 .any (Rows.msgNamesSpec.pre6 enc Try.prog Try.f8 Rows.msgNamesRow.domain false) (Rows.msgNamesSpec.post enc Try.prog Try.f8 false true false false) := by
  refine row_true os started (by kernel_rfl) Try.func8 rfl Try.underlying4 rfl (fun ds h => ?_) ?_
    (ChangeSpec.witness6 (enc := enc) (C := Try.checked) false ⟨#[], #[], []⟩ 8 (by kernel_rfl) (by kernel_rfl) (by kernel_rfl) (by kernel_rfl)) ?_
  · have h : ds.length = 0 := h
    match ds, h with
    | [], _ => exact ⟨rfl, rfl, rfl⟩
  · rw [Try.params8]
    intro t ht
    simp at ht
  · intro W base args ds ps hval hA hft
    rw [Try.params8] at hA
    obtain ⟨hargs, rfl, rfl⟩ := trodAll_nil hA
    obtain rfl : args = #[] := by cases args; simp_all
    exact mnames_any W

theorem over : Rows.msgNamesRow.holds Try.pinned (OpenSpec.ofChange Rows.msgNamesSpec) :=
  OpenClaim.holds_of_wide 8 Try.f8 rfl rfl rfl rfl rfl rfl rfl ⟨rfl, rfl, rfl, rfl, rfl⟩ rfl rfl rfl rfl rfl (by kernel_rfl) Try.func8 (by kernel_rfl)
    (of_decide_eq_true (by kernel_rfl)) (by unfold Func.isWrapper; first | (rw [if_pos (by decide +kernel)]; kernel_rfl) | (rw [if_neg (by decide +kernel)]; exact ⟨rfl, rfl⟩))
    (fun os started H enc _ => lifted os started H enc)

theorem proved : Rows.MsgNamesSaid := over
#print axioms proved
end Go.Proofs.Ytbibbndjnlnbiaa.msgNames
