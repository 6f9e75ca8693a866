/-
  For every input, without a condition, consistorylaw28.NetAlone returns true, and each argument reads afterwards as it read before.
-/
import Derived.Test.YtbibbndjnlnbiaaLift
import Derived.Test.YtbibbndjnlnbiaaAlone
namespace Go.Proofs.Ytbibbndjnlnbiaa.netAlone
open Go.ChangeShapes Go.WideShapes Go.ChangeAt Go.RowKit

set_option maxRecDepth 100000 in
theorem lifted (os : Os) (started : os.Started) (H : Type) (enc : TypeId × Value → H) :
    ReturnsInHanded {} Try.checked os 5 .any (Rows.netAloneSpec.pre6 enc Try.prog Try.f5 Rows.netAloneRow.domain false) (Rows.netAloneSpec.post enc Try.prog Try.f5 false true false false) := by
  refine row_true os started (by kernel_rfl) Try.func5 rfl Try.underlying4 rfl (fun ds h => ?_) ?_
    (ChangeSpec.witness6 (enc := enc) (C := Try.checked) false ⟨#[], #[.int .i64 0, .slice none 0 0, .agg #[.int .u8 0, .int .u8 0, .int .i64 0, .int .i64 0, .int .i64 0, .int .i64 0, .int .i64 0, .int .i64 0, .int .i64 0, .int .i64 0, .string ByteArray.empty, .slice none 0 0, .int .i64 0]], []⟩ 8 (by kernel_rfl) (by kernel_rfl) (by kernel_rfl) (by kernel_rfl)) ?_
  · have h : ds.length = 3 := h
    match ds, h with
    | [d0, d1, d2], _ => exact ⟨rfl, rfl, rfl⟩
  · rw [Try.params5]
    intro t ht
    simp only [List.mem_cons, List.not_mem_nil, or_false] at ht
    rcases ht with rfl | rfl | rfl <;> exact ⟨by kernel_rfl, of_decide_eq_true (by kernel_rfl)⟩
  · intro W base args ds ps hval hA hft
    rw [Try.params5] at hval hA hft
    obtain ⟨v0, vs0, d0, ds0, p0, q0, hargs, rfl, rfl, h0, r0⟩ := trodAll_cons hA
    obtain ⟨v1, vs1, d1, ds1, p1, q1, rfl, rfl, rfl, h1, r1⟩ := trodAll_cons r0
    obtain ⟨v2, vs2, d2, ds2, p2, q2, rfl, rfl, rfl, h2, r2⟩ := trodAll_cons r1
    obtain ⟨rfl, rfl, rfl⟩ := trodAll_nil r2
    obtain rfl : args = #[v0, v1, v2] := by cases args; simp_all
    obtain ⟨x0, rfl⟩ := okWide_int Try.underlying3 (hval 0 _ v0 rfl rfl)
    obtain ⟨n0, e0, hw0⟩ := rd_int Try.underlying3 (rd_of rfl h0)
    obtain ⟨a1, n1, c1, rfl⟩ := okWide_slice Try.underlying22 (hval 1 _ v1 rfl rfl)
    obtain ⟨b1, c1, l1, e1, hl1, hf1, hS1⟩ := rd_steps (rd_of rfl h1) (hft 1 _ d1 rfl rfl)
    obtain ⟨cs2, rfl, _⟩ := okWide_struct Try.underlying36 (hval 2 _ v2 rfl rfl)
    obtain ⟨z2, hz2⟩ := h2
    obtain ⟨s2, a2, c2, e2, hf2, hn2⟩ := rd_step0 hz2 (hft 2 _ d2 rfl rfl)
    have g2 : Value.agg cs2 = s2.val a2 c2 := by
      obtain ⟨lst⟩ := cs2
      have e : lst = [.int .u8 s2.kind, .int .u8 s2.m.k, .int .i64 s2.m.fr, .int .i64 s2.m.to, .int .i64 s2.m.ht, .int .i64 s2.m.rd, .int .i64 s2.m.vl, .int .i64 s2.m.ep, .int .i64 s2.m.dl, .int .i64 s2.m.id, .string ⟨s2.m.s.toArray⟩, .slice a2 s2.m.l.length c2, .int .i64 s2.pl] := e2
      rw [e]; rfl
    rw [e0, e1, g2]
    exact alone_any n0 b1 c1 l1 s2 a2 c2 W (by have := hl1; omega) hf1 hf2 hS1 hn2

theorem over : Rows.netAloneRow.holds Try.pinned (OpenSpec.ofChange Rows.netAloneSpec) :=
  OpenClaim.holds_of_wide 5 Try.f5 rfl rfl rfl rfl rfl rfl rfl ⟨rfl, rfl, rfl, rfl, rfl⟩ rfl rfl rfl rfl rfl (by kernel_rfl) Try.func5 (by kernel_rfl)
    (of_decide_eq_true (by kernel_rfl)) (by unfold Func.isWrapper; first | (rw [if_pos (by decide +kernel)]; kernel_rfl) | (rw [if_neg (by decide +kernel)]; exact ⟨rfl, rfl⟩))
    (fun os started H enc _ => lifted os started H enc)

theorem proved : Rows.NetAloneSaid := over
#print axioms proved
end Go.Proofs.Ytbibbndjnlnbiaa.netAlone
