/-
  For every input, without a condition, consistorylaw28.NetRow returns true, and each argument reads afterwards as it read before.
-/
import Derived.Test.YtbibbndjnlnbiaaLift
import Derived.Test.YtbibbndjnlnbiaaNRow
namespace Go.Proofs.Ytbibbndjnlnbiaa.netRow
open Go.ChangeShapes Go.WideShapes Go.ChangeAt Go.RowKit

set_option maxRecDepth 100000 in
theorem lifted (os : Os) (started : os.Started) (H : Type) (enc : TypeId × Value → H) :
    ReturnsInHanded {} Try.checked os 4 .any (Rows.netRowSpec.pre6 enc Try.prog Try.f4 Rows.netRowRow.domain false) (Rows.netRowSpec.post enc Try.prog Try.f4 false true false false) := by
  refine row_true os started (by kernel_rfl) Try.func4 rfl Try.underlying4 rfl (fun ds h => ?_) ?_
    (ChangeSpec.witness6 (enc := enc) (C := Try.checked) false ⟨#[], #[.slice none 0 0], []⟩ 8 (by kernel_rfl) (by kernel_rfl) (by kernel_rfl) (by kernel_rfl)) ?_
  · have h : ds.length = 1 := h
    match ds, h with
    | [d0], _ => exact ⟨rfl, rfl, rfl⟩
  · rw [Try.params4]
    intro t ht
    simp only [List.mem_cons, List.not_mem_nil, or_false] at ht
    subst ht
    exact ⟨by kernel_rfl, of_decide_eq_true (by kernel_rfl)⟩
  · intro W base args ds ps hval hA hft
    rw [Try.params4] at hval hA hft
    obtain ⟨v0, vs0, d0, ds0, p0, q0, hargs, rfl, rfl, h0, r0⟩ := trodAll_cons hA
    obtain ⟨rfl, rfl, rfl⟩ := trodAll_nil r0
    obtain rfl : args = #[v0] := by cases args; simp_all
    obtain ⟨a0, n0, c0, rfl⟩ := okWide_slice Try.underlying45 (hval 0 _ v0 rfl rfl)
    obtain ⟨b0, c0, l0, e0, hn0, hw0, hl0⟩ := rd_nums Try.underlying45 Try.underlying5 (by kernel_rfl) (rd_of rfl h0) (hft 0 _ d0 rfl rfl)
    have x0 : Try.prog.bytesOf 5 = 1 := by kernel_rfl
    rw [x0] at hl0
    have hl09 : l0.length ≤ 9223372036854775807 := by omega
    rw [e0]
    exact nrow_any b0 c0 l0 W hl09 (fun x hx => wf_u8 (hw0 x hx)) hn0

theorem over : Rows.netRowRow.holds Try.pinned (OpenSpec.ofChange Rows.netRowSpec) :=
  OpenClaim.holds_of_wide 4 Try.f4 rfl rfl rfl rfl rfl rfl rfl ⟨rfl, rfl, rfl, rfl, rfl⟩ rfl rfl rfl rfl rfl (by kernel_rfl) Try.func4 (by kernel_rfl)
    (of_decide_eq_true (by kernel_rfl)) (by unfold Func.isWrapper; first | (rw [if_pos (by decide +kernel)]; kernel_rfl) | (rw [if_neg (by decide +kernel)]; exact ⟨rfl, rfl⟩))
    (fun os started H enc _ => lifted os started H enc)

theorem proved : Rows.NetRowSaid := over
#print axioms proved
end Go.Proofs.Ytbibbndjnlnbiaa.netRow
