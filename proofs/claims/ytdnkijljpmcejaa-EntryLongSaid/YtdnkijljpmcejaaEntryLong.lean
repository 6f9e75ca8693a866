/-
  For every input, without a condition, consistorylaw13.EntryLong returns true, and each argument reads afterwards as it read before.
-/
import Derived.Test.YtdnkijljpmcejaaLift
import Derived.Test.YtdnkijljpmcejaaELong
import Derived.Test.YtdnkijljpmcejaaEnRow
namespace Go.Proofs.Ytdnkijljpmcejaa.entryLong
open Go.ChangeShapes Go.WideShapes Go.ChangeAt Go.RowKit

set_option maxRecDepth 100000 in
theorem lifted (os : Os) (started : os.Started) (H : Type) (enc : TypeId × Value → H) :
    ReturnsInHanded {} Try.checked os 12 .any (Rows.entryLongSpec.pre6 enc Try.prog Try.f12 Rows.entryLongRow.domain false) (Rows.entryLongSpec.post enc Try.prog Try.f12 false true false false) := by
  refine row_true os started (by kernel_rfl) Try.func12 rfl Try.underlying4 rfl (fun ds h => ?_) ?_
    (ChangeSpec.witness6 (enc := enc) (C := Try.checked) false ⟨#[], #[.agg #[.int .u8 0, .int .i64 0, .int .i64 0, .slice none 0 0, .slice none 0 0, .slice none 0 0, .slice none 0 0], .int .u64 0], []⟩ 8 (by kernel_rfl) (by kernel_rfl) (by kernel_rfl) (by kernel_rfl)) ?_
  · have h : ds.length = 2 := h
    match ds, h with
    | [d0, d1], _ => exact ⟨rfl, rfl, rfl⟩
  · rw [Try.params12]
    intro t ht
    simp only [List.mem_cons, List.not_mem_nil, or_false] at ht
    rcases ht with rfl | rfl <;> exact ⟨by kernel_rfl, of_decide_eq_true (by kernel_rfl)⟩
  · intro W base args ds ps hval hA hft
    rw [Try.params12] at hval hA hft
    obtain ⟨v0, vs0, d0, ds0, p0, q0, hargs, rfl, rfl, h0, r0⟩ := trodAll_cons hA
    obtain ⟨v1, vs1, d1, ds1, p1, q1, rfl, rfl, rfl, h1, r1⟩ := trodAll_cons r0
    obtain ⟨rfl, rfl, rfl⟩ := trodAll_nil r1
    obtain rfl : args = #[v0, v1] := by cases args; simp_all
    obtain ⟨cs0, rfl, _⟩ := okWide_struct Try.underlying55 (hval 0 _ v0 rfl rfl)
    obtain ⟨z0, hz0⟩ := h0
    obtain ⟨en0, ad0, e0, ok0, rc0, hn0⟩ := rd_entry hz0 (hft 0 _ d0 rfl rfl)
    have g0 : Value.agg cs0 = .agg #[.int .u8 en0.k, .int .i64 en0.id, .int .i64 en0.ep, .slice ad0.a1 en0.x.length ad0.c1, .slice ad0.a2 en0.coms.length ad0.c2, .slice ad0.a3 en0.next.length ad0.c3, .slice ad0.a4 en0.deals.length ad0.c4] := by
      obtain ⟨lst⟩ := cs0
      have e : lst = [.int .u8 en0.k, .int .i64 en0.id, .int .i64 en0.ep, .slice ad0.a1 en0.x.length ad0.c1, .slice ad0.a2 en0.coms.length ad0.c2, .slice ad0.a3 en0.next.length ad0.c3, .slice ad0.a4 en0.deals.length ad0.c4] := e0
      rw [e]
    obtain ⟨x1, rfl⟩ := okWide_int Try.underlying22 (hval 1 _ v1 rfl rfl)
    obtain ⟨n1, e1, hw1⟩ := rd_int Try.underlying22 (rd_of rfl h1)
    rw [g0, e1]
    exact elong_any en0 ad0 n1 W ok0 rc0 hn0 (wf_u64 hw1)

theorem over : Rows.entryLongRow.holds Try.pinned (OpenSpec.ofChange Rows.entryLongSpec) :=
  OpenClaim.holds_of_wide 12 Try.f12 rfl rfl rfl rfl rfl rfl rfl ⟨rfl, rfl, rfl, rfl, rfl⟩ rfl rfl rfl rfl rfl (by kernel_rfl) Try.func12 (by kernel_rfl)
    (of_decide_eq_true (by kernel_rfl)) (by unfold Func.isWrapper; first | (rw [if_pos (by decide +kernel)]; kernel_rfl) | (rw [if_neg (by decide +kernel)]; exact ⟨rfl, rfl⟩))
    (fun os started H enc _ => lifted os started H enc)

theorem proved : Rows.EntryLongSaid := over
#print axioms proved
end Go.Proofs.Ytdnkijljpmcejaa.entryLong
