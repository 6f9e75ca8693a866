/-
  For every input, without a condition, consistorylaw14.MsgTells returns true, and each argument reads afterwards as it read before.
-/
import Derived.Test.YtbibbndjnlnbiaaLift
import Derived.Test.YtbibbndjnlnbiaaTells
namespace Go.Proofs.Ytbibbndjnlnbiaa.msgTells
open Go.ChangeShapes Go.WideShapes Go.ChangeAt Go.RowKit

set_option maxRecDepth 100000 in
theorem lifted (os : Os) (started : os.Started) (H : Type) (enc : TypeId × Value → H) :
    ReturnsInHanded {} Try.checked os 12 .any (Rows.msgTellsSpec.pre6 enc Try.prog Try.f12 Rows.msgTellsRow.domain false) (Rows.msgTellsSpec.post enc Try.prog Try.f12 false true false false) := by
  refine row_true os started (by kernel_rfl) Try.func12 rfl Try.underlying4 rfl (fun ds h => ?_) ?_
    (ChangeSpec.witness6 (enc := enc) (C := Try.checked) false ⟨#[], #[.agg #[.int .u8 0, .int .i64 0, .int .i64 0, .int .i64 0, .int .i64 0, .int .i64 0, .int .i64 0, .int .i64 0, .int .i64 0, .string ByteArray.empty, .slice none 0 0], .agg #[.int .u8 0, .int .i64 0, .int .i64 0, .int .i64 0, .int .i64 0, .int .i64 0, .int .i64 0, .int .i64 0, .int .i64 0, .string ByteArray.empty, .slice none 0 0], .string ByteArray.empty], []⟩ 8 (by kernel_rfl) (by kernel_rfl) (by kernel_rfl) (by kernel_rfl)) ?_
  · have h : ds.length = 3 := h
    match ds, h with
    | [d0, d1, d2], _ => exact ⟨rfl, rfl, rfl⟩
  · rw [Try.params12]
    intro t ht
    simp only [List.mem_cons, List.not_mem_nil, or_false] at ht
    rcases ht with rfl | rfl | rfl <;> exact ⟨by kernel_rfl, of_decide_eq_true (by kernel_rfl)⟩
  · intro W base args ds ps hval hA hft
    rw [Try.params12] at hval hA hft
    obtain ⟨v0, vs0, d0, ds0, p0, q0, hargs, rfl, rfl, h0, r0⟩ := trodAll_cons hA
    obtain ⟨v1, vs1, d1, ds1, p1, q1, rfl, rfl, rfl, h1, r1⟩ := trodAll_cons r0
    obtain ⟨v2, vs2, d2, ds2, p2, q2, rfl, rfl, rfl, h2, r2⟩ := trodAll_cons r1
    obtain ⟨rfl, rfl, rfl⟩ := trodAll_nil r2
    obtain rfl : args = #[v0, v1, v2] := by cases args; simp_all
    obtain ⟨cs0, rfl, _⟩ := okWide_struct Try.underlying32 (hval 0 _ v0 rfl rfl)
    obtain ⟨z0, hz0⟩ := h0
    obtain ⟨m0, a0, c0, e0, hf0, hn0⟩ := rd_msg hz0 (hft 0 _ d0 rfl rfl)
    have g0 : Value.agg cs0 = m0.val a0 c0 := by
      obtain ⟨lst⟩ := cs0
      have e : lst = [.int .u8 m0.k, .int .i64 m0.fr, .int .i64 m0.to, .int .i64 m0.ht, .int .i64 m0.rd, .int .i64 m0.vl, .int .i64 m0.ep, .int .i64 m0.dl, .int .i64 m0.id, .string ⟨m0.s.toArray⟩, .slice a0 m0.l.length c0] := e0
      rw [e]; rfl
    obtain ⟨cs1, rfl, _⟩ := okWide_struct Try.underlying32 (hval 1 _ v1 rfl rfl)
    obtain ⟨z1, hz1⟩ := h1
    obtain ⟨m1, a1, c1, e1, hf1, hn1⟩ := rd_msg hz1 (hft 1 _ d1 rfl rfl)
    have g1 : Value.agg cs1 = m1.val a1 c1 := by
      obtain ⟨lst⟩ := cs1
      have e : lst = [.int .u8 m1.k, .int .i64 m1.fr, .int .i64 m1.to, .int .i64 m1.ht, .int .i64 m1.rd, .int .i64 m1.vl, .int .i64 m1.ep, .int .i64 m1.dl, .int .i64 m1.id, .string ⟨m1.s.toArray⟩, .slice a1 m1.l.length c1] := e1
      rw [e]; rfl
    obtain ⟨s2, rfl⟩ := okWide_string Try.underlying9 (hval 2 _ v2 rfl rfl)
    obtain ⟨l2, e2, hl2⟩ := rd_str Try.underlying9 (rd_of rfl h2) (hft 2 _ d2 rfl rfl)
    rw [g0, g1, e2]
    exact tells_any m0 m1 a0 a1 c0 c1 l2 W hf0 hn0 hf1 hn1 hl2

theorem over : Rows.msgTellsRow.holds Try.pinned (OpenSpec.ofChange Rows.msgTellsSpec) :=
  OpenClaim.holds_of_wide 12 Try.f12 rfl rfl rfl rfl rfl rfl rfl ⟨rfl, rfl, rfl, rfl, rfl⟩ rfl rfl rfl rfl rfl (by kernel_rfl) Try.func12 (by kernel_rfl)
    (of_decide_eq_true (by kernel_rfl)) (by unfold Func.isWrapper; first | (rw [if_pos (by decide +kernel)]; kernel_rfl) | (rw [if_neg (by decide +kernel)]; exact ⟨rfl, rfl⟩))
    (fun os started H enc _ => lifted os started H enc)

theorem proved : Rows.MsgTellsSaid := over
#print axioms proved
end Go.Proofs.Ytbibbndjnlnbiaa.msgTells
