/-
  For every input, without a condition, consistorylaw13.EntryNames returns true, and each argument reads afterwards as it read before.
-/
import Derived.Test.YtdnkijljpmcejaaLift
import Derived.Test.YtdnkijljpmcejaaNENames
namespace Go.Proofs.Ytdnkijljpmcejaa.entryNames
open Go.ChangeShapes Go.WideShapes Go.ChangeAt Go.RowKit

set_option maxRecDepth 100000 in
theorem lifted (os : Os) (started : os.Started) (H : Type) (enc : TypeId × Value → H) :
    ReturnsInHanded {} Try.checked os 6 .any (Rows.entryNamesSpec.pre6 enc Try.prog Try.f6 Rows.entryNamesRow.domain false) (Rows.entryNamesSpec.post enc Try.prog Try.f6 false true false false) := by
  refine row_true os started (by kernel_rfl) Try.func6 rfl Try.underlying4 rfl (fun ds h => ?_) ?_
    (ChangeSpec.witness6 (enc := enc) (C := Try.checked) false ⟨#[], #[], []⟩ 8 (by kernel_rfl) (by kernel_rfl) (by kernel_rfl) (by kernel_rfl)) ?_
  · have h : ds.length = 0 := h
    match ds, h with
    | [], _ => exact ⟨rfl, rfl, rfl⟩
  · rw [Try.params6]
    intro t ht
    simp at ht
  · intro W base args ds ps hval hA hft
    rw [Try.params6] at hA
    obtain ⟨hargs, rfl, rfl⟩ := trodAll_nil hA
    obtain rfl : args = #[] := by cases args; simp_all
    exact nenames_any W

theorem over : Rows.entryNamesRow.holds Try.pinned (OpenSpec.ofChange Rows.entryNamesSpec) :=
  OpenClaim.holds_of_wide 6 Try.f6 rfl rfl rfl rfl rfl rfl rfl ⟨rfl, rfl, rfl, rfl, rfl⟩ rfl rfl rfl rfl rfl (by kernel_rfl) Try.func6 (by kernel_rfl)
    (of_decide_eq_true (by kernel_rfl)) (by unfold Func.isWrapper; first | (rw [if_pos (by decide +kernel)]; kernel_rfl) | (rw [if_neg (by decide +kernel)]; exact ⟨rfl, rfl⟩))
    (fun os started H enc _ => lifted os started H enc)

theorem proved : Rows.EntryNamesSaid := over
#print axioms proved
end Go.Proofs.Ytdnkijljpmcejaa.entryNames
