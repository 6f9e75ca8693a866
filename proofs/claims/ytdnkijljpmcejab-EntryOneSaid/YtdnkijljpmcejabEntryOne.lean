/-
  For every input, without a condition, consistorylaw13.EntryOne returns true, and each argument reads afterwards as it read before.
-/
import Derived.Test.YtdnkijljpmcejabLift
import Derived.Test.YtdnkijljpmcejabEOne
import Derived.Test.YtdnkijljpmcejabEnRow
namespace Go.Proofs.Ytdnkijljpmcejab.entryOne
open Go.ChangeShapes Go.WideShapes Go.ChangeAt Go.RowKit

set_option maxRecDepth 100000 in
theorem lifted (os : Os) (started : os.Started) (H : Type) (enc : TypeId × Value → H) :
    ReturnsInHanded {} Try.checked os 3 .any (Rows.entryOneSpec.pre6 enc Try.prog Try.f3 Rows.entryOneRow.domain false) (Rows.entryOneSpec.post enc Try.prog Try.f3 false true false false) := by
  refine row_true os started (by kernel_rfl) Try.func3 rfl Try.underlying4 rfl (fun ds h => ?_) ?_
    (ChangeSpec.witness6 (enc := enc) (C := Try.checked) false ⟨#[], #[.agg #[.int .u8 0, .int .i64 0, .int .i64 0, .slice none 0 0, .slice none 0 0, .slice none 0 0, .slice none 0 0], .agg #[.int .u8 0, .int .i64 0, .int .i64 0, .slice none 0 0, .slice none 0 0, .slice none 0 0, .slice none 0 0]], []⟩ 8 (by kernel_rfl) (by kernel_rfl) (by kernel_rfl) (by kernel_rfl)) ?_
  · have h : ds.length = 2 := h
    match ds, h with
    | [d0, d1], _ => exact ⟨rfl, rfl, rfl⟩
  · rw [Try.params3]
    intro t ht
    simp only [List.mem_cons, List.not_mem_nil, or_false] at ht
    rcases ht with rfl | rfl <;> exact ⟨by kernel_rfl, of_decide_eq_true (by kernel_rfl)⟩
  · intro W base args ds ps hval hA hft
    rw [Try.params3] at hval hA hft
    obtain ⟨v0, vs0, d0, ds0, p0, q0, hargs, rfl, rfl, h0, r0⟩ := trodAll_cons hA
    obtain ⟨v1, vs1, d1, ds1, p1, q1, rfl, rfl, rfl, h1, r1⟩ := trodAll_cons r0
    obtain ⟨rfl, rfl, rfl⟩ := trodAll_nil r1
    obtain rfl : args = #[v0, v1] := by cases args; simp_all
    obtain ⟨cs0, rfl, _⟩ := okWide_struct Try.underlying27 (hval 0 _ v0 rfl rfl)
    obtain ⟨z0, hz0⟩ := h0
    obtain ⟨en0, ad0, e0, ok0, rc0, hn0⟩ := rd_entry hz0 (hft 0 _ d0 rfl rfl)
    have g0 : Value.agg cs0 = .agg #[.int .u8 en0.k, .int .i64 en0.id, .int .i64 en0.ep, .slice ad0.a1 en0.x.length ad0.c1, .slice ad0.a2 en0.coms.length ad0.c2, .slice ad0.a3 en0.next.length ad0.c3, .slice ad0.a4 en0.deals.length ad0.c4] := by
      obtain ⟨lst⟩ := cs0
      have e : lst = [.int .u8 en0.k, .int .i64 en0.id, .int .i64 en0.ep, .slice ad0.a1 en0.x.length ad0.c1, .slice ad0.a2 en0.coms.length ad0.c2, .slice ad0.a3 en0.next.length ad0.c3, .slice ad0.a4 en0.deals.length ad0.c4] := e0
      rw [e]
    obtain ⟨cs1, rfl, _⟩ := okWide_struct Try.underlying27 (hval 1 _ v1 rfl rfl)
    obtain ⟨z1, hz1⟩ := h1
    obtain ⟨en1, ad1, e1, ok1, rc1, hn1⟩ := rd_entry hz1 (hft 1 _ d1 rfl rfl)
    have g1 : Value.agg cs1 = .agg #[.int .u8 en1.k, .int .i64 en1.id, .int .i64 en1.ep, .slice ad1.a1 en1.x.length ad1.c1, .slice ad1.a2 en1.coms.length ad1.c2, .slice ad1.a3 en1.next.length ad1.c3, .slice ad1.a4 en1.deals.length ad1.c4] := by
      obtain ⟨lst⟩ := cs1
      have e : lst = [.int .u8 en1.k, .int .i64 en1.id, .int .i64 en1.ep, .slice ad1.a1 en1.x.length ad1.c1, .slice ad1.a2 en1.coms.length ad1.c2, .slice ad1.a3 en1.next.length ad1.c3, .slice ad1.a4 en1.deals.length ad1.c4] := e1
      rw [e]
    rw [g0, g1]
    exact eone_any en0 en1 ad0 ad1 W ok0 rc0 hn0 ok1 rc1 hn1

theorem over : Rows.entryOneRow.holds Try.pinned (OpenSpec.ofChange Rows.entryOneSpec) :=
  OpenClaim.holds_of_wide 3 Try.f3 rfl rfl rfl rfl rfl rfl rfl ⟨rfl, rfl, rfl, rfl, rfl⟩ rfl rfl rfl rfl rfl (by kernel_rfl) Try.func3 (by kernel_rfl)
    (of_decide_eq_true (by kernel_rfl)) (by unfold Func.isWrapper; first | (rw [if_pos (by decide +kernel)]; kernel_rfl) | (rw [if_neg (by decide +kernel)]; exact ⟨rfl, rfl⟩))
    (fun os started H enc _ => lifted os started H enc)

theorem proved : Rows.EntryOneSaid := over
#print axioms proved
end Go.Proofs.Ytdnkijljpmcejab.entryOne
