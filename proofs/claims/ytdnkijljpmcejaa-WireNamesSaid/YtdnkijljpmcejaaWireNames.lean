/-
  Without a condition, consistorylaw09.WireNames returns true.
-/
import Derived.Test.YtdnkijljpmcejaaLift
import Derived.Test.YtdnkijljpmcejaaNames
namespace Go.Proofs.Ytdnkijljpmcejaa.wireNames
open Go.ChangeShapes Go.WideShapes Go.ChangeAt Go.RowKit

set_option maxRecDepth 100000 in
theorem lifted (os : Os) (started : os.Started) (H : Type) (enc : TypeId × Value → H) :
    ReturnsInHanded {} Try.checked os 7 .any (Rows.wireNamesSpec.pre6 enc Try.prog Try.f7 Rows.wireNamesRow.domain false) (Rows.wireNamesSpec.post enc Try.prog Try.f7 false true false false) := by
  refine row_true os started (by kernel_rfl) Try.func7 rfl Try.underlying4 rfl (fun ds h => ?_) ?_
    (ChangeSpec.witness6 (enc := enc) (C := Try.checked) false ⟨#[], #[], []⟩ 8 (by kernel_rfl) (by kernel_rfl) (by kernel_rfl) (by kernel_rfl)) ?_
  · have h : ds.length = 0 := h
    match ds, h with
    | [], _ => exact ⟨rfl, rfl, rfl⟩
  · rw [Try.params7]
    intro t ht
    simp at ht
  · intro W base args ds ps hval hA hft
    rw [Try.params7] at hA
    obtain ⟨hargs, rfl, rfl⟩ := trodAll_nil hA
    obtain rfl : args = #[] := by cases args; simp_all
    exact names_any W

theorem over : Rows.wireNamesRow.holds Try.pinned (OpenSpec.ofChange Rows.wireNamesSpec) :=
  OpenClaim.holds_of_wide 7 Try.f7 rfl rfl rfl rfl rfl rfl rfl ⟨rfl, rfl, rfl, rfl, rfl⟩ rfl rfl rfl rfl rfl (by kernel_rfl) Try.func7 (by kernel_rfl)
    (of_decide_eq_true (by kernel_rfl)) (by unfold Func.isWrapper; first | (rw [if_pos (by decide +kernel)]; kernel_rfl) | (rw [if_neg (by decide +kernel)]; exact ⟨rfl, rfl⟩))
    (fun os started H enc _ => lifted os started H enc)

theorem proved : Rows.WireNamesSaid := over
#print axioms proved
end Go.Proofs.Ytdnkijljpmcejaa.wireNames
