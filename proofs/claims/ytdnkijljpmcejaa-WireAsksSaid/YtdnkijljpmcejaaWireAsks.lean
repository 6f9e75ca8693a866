/-
  For every input, without a condition, consistorylaw09.WireAsks returns true, and each argument reads afterwards as it read before.
-/
import Derived.Test.YtdnkijljpmcejaaLift
import Derived.Test.YtdnkijljpmcejaaAsks
namespace Go.Proofs.Ytdnkijljpmcejaa.wireAsks
open Go.ChangeShapes Go.WideShapes Go.ChangeAt Go.RowKit

set_option maxRecDepth 100000 in
theorem lifted (os : Os) (started : os.Started) (H : Type) (enc : TypeId × Value → H) :
    ReturnsInHanded {} Try.checked os 8 .any (Rows.wireAsksSpec.pre6 enc Try.prog Try.f8 Rows.wireAsksRow.domain false) (Rows.wireAsksSpec.post enc Try.prog Try.f8 false true false false) := by
  refine row_true os started (by kernel_rfl) Try.func8 rfl Try.underlying4 rfl (fun ds h => ?_) ?_
    (ChangeSpec.witness6 (enc := enc) (C := Try.checked) false ⟨#[], #[.string ByteArray.empty, .slice none 0 0], []⟩ 8 (by kernel_rfl) (by kernel_rfl) (by kernel_rfl) (by kernel_rfl)) ?_
  · have h : ds.length = 2 := h
    match ds, h with
    | [d0, d1], _ => exact ⟨rfl, rfl, rfl⟩
  · rw [Try.params8]
    intro t ht
    simp only [List.mem_cons, List.not_mem_nil, or_false] at ht
    rcases ht with rfl | rfl <;> exact ⟨by kernel_rfl, of_decide_eq_true (by kernel_rfl)⟩
  · intro W base args ds ps hval hA hft
    rw [Try.params8] at hval hA hft
    obtain ⟨v0, vs0, d0, ds0, p0, q0, hargs, rfl, rfl, h0, r0⟩ := trodAll_cons hA
    obtain ⟨v1, vs1, d1, ds1, p1, q1, rfl, rfl, rfl, h1, r1⟩ := trodAll_cons r0
    obtain ⟨rfl, rfl, rfl⟩ := trodAll_nil r1
    obtain rfl : args = #[v0, v1] := by cases args; simp_all
    obtain ⟨s0, rfl⟩ := okWide_string Try.underlying9 (hval 0 _ v0 rfl rfl)
    obtain ⟨l0, e0, hl0⟩ := rd_str Try.underlying9 (rd_of rfl h0) (hft 0 _ d0 rfl rfl)
    obtain ⟨a1, n1, c1, rfl⟩ := okWide_slice Try.underlying36 (hval 1 _ v1 rfl rfl)
    obtain ⟨b1, c1, ts1, e1, hl1, hf1, hT1⟩ := rd_things (rd_of rfl h1) (hft 1 _ d1 rfl rfl)
    rw [e0, e1]
    exact asks_any l0 b1 c1 ts1 W hT1 hf1 hl1 (by omega)

theorem over : Rows.wireAsksRow.holds Try.pinned (OpenSpec.ofChange Rows.wireAsksSpec) :=
  OpenClaim.holds_of_wide 8 Try.f8 rfl rfl rfl rfl rfl rfl rfl ⟨rfl, rfl, rfl, rfl, rfl⟩ rfl rfl rfl rfl rfl (by kernel_rfl) Try.func8 (by kernel_rfl)
    (of_decide_eq_true (by kernel_rfl)) (by unfold Func.isWrapper; first | (rw [if_pos (by decide +kernel)]; kernel_rfl) | (rw [if_neg (by decide +kernel)]; exact ⟨rfl, rfl⟩))
    (fun os started H enc _ => lifted os started H enc)

theorem proved : Rows.WireAsksSaid := over
#print axioms proved
end Go.Proofs.Ytdnkijljpmcejaa.wireAsks
