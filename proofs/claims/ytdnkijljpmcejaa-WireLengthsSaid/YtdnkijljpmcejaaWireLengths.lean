/-
  For every input, without a condition, consistorylaw09.WireLengths returns true, and each argument reads afterwards as it read before.
-/
import Derived.Test.YtdnkijljpmcejaaLift
import Derived.Test.YtdnkijljpmcejaaLensA
namespace Go.Proofs.Ytdnkijljpmcejaa.wireLengths
open Go.ChangeShapes Go.WideShapes Go.ChangeAt Go.RowKit

set_option maxRecDepth 100000 in
theorem lifted (os : Os) (started : os.Started) (H : Type) (enc : TypeId × Value → H) :
    ReturnsInHanded {} Try.checked os 4 .any (Rows.wireLengthsSpec.pre6 enc Try.prog Try.f4 Rows.wireLengthsRow.domain false) (Rows.wireLengthsSpec.post enc Try.prog Try.f4 false true false false) := by
  refine row_true os started (by kernel_rfl) Try.func4 rfl Try.underlying4 rfl (fun ds h => ?_) ?_
    (ChangeSpec.witness6 (enc := enc) (C := Try.checked) false ⟨#[], #[.agg #[.int .u8 0, .int .u64 0, .string ByteArray.empty, .slice none 0 0, .int .i64 0], .agg #[.int .u8 0, .int .u64 0, .string ByteArray.empty, .slice none 0 0, .int .i64 0]], []⟩ 8 (by kernel_rfl) (by kernel_rfl) (by kernel_rfl) (by kernel_rfl)) ?_
  · have h : ds.length = 2 := h
    match ds, h with
    | [d0, d1], _ => exact ⟨rfl, rfl, rfl⟩
  · rw [Try.params4]
    intro t ht
    simp only [List.mem_cons, List.not_mem_nil, or_false] at ht
    rcases ht with rfl | rfl <;> exact ⟨by kernel_rfl, of_decide_eq_true (by kernel_rfl)⟩
  · intro W base args ds ps hval hA hft
    rw [Try.params4] at hval hA hft
    obtain ⟨v0, vs0, d0, ds0, p0, q0, hargs, rfl, rfl, h0, r0⟩ := trodAll_cons hA
    obtain ⟨v1, vs1, d1, ds1, p1, q1, rfl, rfl, rfl, h1, r1⟩ := trodAll_cons r0
    obtain ⟨rfl, rfl, rfl⟩ := trodAll_nil r1
    obtain rfl : args = #[v0, v1] := by cases args; simp_all
    obtain ⟨cs0, rfl, _⟩ := okWide_struct Try.underlying34 (hval 0 _ v0 rfl rfl)
    obtain ⟨m0, hm0⟩ := h0
    obtain ⟨t0, a0, c0, e0, hf0, hn0⟩ := rd_thing hm0 (hft 0 _ d0 rfl rfl)
    have g0 : Value.agg cs0 = t0.val a0 c0 := by
      obtain ⟨lst⟩ := cs0
      have e : lst = [.int .u8 t0.k, .int .u64 t0.n, .string ⟨t0.s.toArray⟩, .slice a0 t0.l.length c0, .int .i64 t0.most] := e0
      rw [e]; rfl
    obtain ⟨cs1, rfl, _⟩ := okWide_struct Try.underlying34 (hval 1 _ v1 rfl rfl)
    obtain ⟨m1, hm1⟩ := h1
    obtain ⟨t1, a1, c1, e1, hf1, hn1⟩ := rd_thing hm1 (hft 1 _ d1 rfl rfl)
    have g1 : Value.agg cs1 = t1.val a1 c1 := by
      obtain ⟨lst⟩ := cs1
      have e : lst = [.int .u8 t1.k, .int .u64 t1.n, .string ⟨t1.s.toArray⟩, .slice a1 t1.l.length c1, .int .i64 t1.most] := e1
      rw [e]; rfl
    rw [g0, g1]
    exact lens_any t0 t1 a0 a1 c0 c1 W hf0 hf1 hn0 hn1

theorem over : Rows.wireLengthsRow.holds Try.pinned (OpenSpec.ofChange Rows.wireLengthsSpec) :=
  OpenClaim.holds_of_wide 4 Try.f4 rfl rfl rfl rfl rfl rfl rfl ⟨rfl, rfl, rfl, rfl, rfl⟩ rfl rfl rfl rfl rfl (by kernel_rfl) Try.func4 (by kernel_rfl)
    (of_decide_eq_true (by kernel_rfl)) (by unfold Func.isWrapper; first | (rw [if_pos (by decide +kernel)]; kernel_rfl) | (rw [if_neg (by decide +kernel)]; exact ⟨rfl, rfl⟩))
    (fun os started H enc _ => lifted os started H enc)

theorem proved : Rows.WireLengthsSaid := over
#print axioms proved
end Go.Proofs.Ytdnkijljpmcejaa.wireLengths
