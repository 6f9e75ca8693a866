/-
  For every input, without a condition, consistorylaw14.MsgNamed returns true, and each argument reads afterwards as it read before.
-/
import Derived.Test.YtbibbndjnlnbiaaLift
import Derived.Test.YtbibbndjnlnbiaaNamed
namespace Go.Proofs.Ytbibbndjnlnbiaa.msgNamed
open Go.ChangeShapes Go.WideShapes Go.ChangeAt Go.RowKit

set_option maxRecDepth 100000 in
theorem lifted (os : Os) (started : os.Started) (H : Type) (enc : TypeId × Value → H) :
    ReturnsInHanded {} Try.checked os 11 .any (Rows.msgNamedSpec.pre6 enc Try.prog Try.f11 Rows.msgNamedRow.domain false) (Rows.msgNamedSpec.post enc Try.prog Try.f11 false true false false) := by
  refine row_true os started (by kernel_rfl) Try.func11 rfl Try.underlying4 rfl (fun ds h => ?_) ?_
    (ChangeSpec.witness6 (enc := enc) (C := Try.checked) false ⟨#[], #[.agg #[.int .u8 0, .int .i64 0, .int .i64 0, .int .i64 0, .int .i64 0, .int .i64 0, .int .i64 0, .int .i64 0, .int .i64 0, .string ByteArray.empty, .slice none 0 0], .int .i64 0], []⟩ 8 (by kernel_rfl) (by kernel_rfl) (by kernel_rfl) (by kernel_rfl)) ?_
  · have h : ds.length = 2 := h
    match ds, h with
    | [d0, d1], _ => exact ⟨rfl, rfl, rfl⟩
  · rw [Try.params11]
    intro t ht
    simp only [List.mem_cons, List.not_mem_nil, or_false] at ht
    rcases ht with rfl | rfl <;> exact ⟨by kernel_rfl, of_decide_eq_true (by kernel_rfl)⟩
  · intro W base args ds ps hval hA hft
    rw [Try.params11] at hval hA hft
    obtain ⟨v0, vs0, d0, ds0, p0, q0, hargs, rfl, rfl, h0, r0⟩ := trodAll_cons hA
    obtain ⟨v1, vs1, d1, ds1, p1, q1, rfl, rfl, rfl, h1, r1⟩ := trodAll_cons r0
    obtain ⟨rfl, rfl, rfl⟩ := trodAll_nil r1
    obtain rfl : args = #[v0, v1] := by cases args; simp_all
    obtain ⟨cs0, rfl, _⟩ := okWide_struct Try.underlying32 (hval 0 _ v0 rfl rfl)
    obtain ⟨z0, hz0⟩ := h0
    obtain ⟨m0, a0, c0, e0, hf0, hn0⟩ := rd_msg hz0 (hft 0 _ d0 rfl rfl)
    have g0 : Value.agg cs0 = m0.val a0 c0 := by
      obtain ⟨lst⟩ := cs0
      have e : lst = [.int .u8 m0.k, .int .i64 m0.fr, .int .i64 m0.to, .int .i64 m0.ht, .int .i64 m0.rd, .int .i64 m0.vl, .int .i64 m0.ep, .int .i64 m0.dl, .int .i64 m0.id, .string ⟨m0.s.toArray⟩, .slice a0 m0.l.length c0] := e0
      rw [e]; rfl
    obtain ⟨x1, rfl⟩ := okWide_int Try.underlying3 (hval 1 _ v1 rfl rfl)
    obtain ⟨n1, e1, hw1⟩ := rd_int Try.underlying3 (rd_of rfl h1)
    rw [g0, e1]
    exact mnamed_any m0 a0 c0 n1 W hf0

theorem over : Rows.msgNamedRow.holds Try.pinned (OpenSpec.ofChange Rows.msgNamedSpec) :=
  OpenClaim.holds_of_wide 11 Try.f11 rfl rfl rfl rfl rfl rfl rfl ⟨rfl, rfl, rfl, rfl, rfl⟩ rfl rfl rfl rfl rfl (by kernel_rfl) Try.func11 (by kernel_rfl)
    (of_decide_eq_true (by kernel_rfl)) (by unfold Func.isWrapper; first | (rw [if_pos (by decide +kernel)]; kernel_rfl) | (rw [if_neg (by decide +kernel)]; exact ⟨rfl, rfl⟩))
    (fun os started H enc _ => lifted os started H enc)

theorem proved : Rows.MsgNamedSaid := over
#print axioms proved
end Go.Proofs.Ytbibbndjnlnbiaa.msgNamed
