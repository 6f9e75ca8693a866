/-
  For every input, without a condition, consistorylaw13.EntryTells returns true, and each argument reads afterwards as it read before.
-/
import Derived.Test.YtdnkijljpmcejaaGreatLift
import Derived.Test.YtdnkijljpmcejaaGreatETells
import Derived.Test.YtdnkijljpmcejaaGreatEnRow
namespace Go.Proofs.YtdnkijljpmcejaaGreat.entryTells
open Go.ChangeShapes Go.WideShapes Go.ChangeAt Go.RowKit

set_option maxRecDepth 100000 in
theorem lifted (os : Os) (started : os.Started) (H : Type) (enc : TypeId × Value → H) :
    ReturnsInHanded {} Tryz.checked os 3 .any (Rows.entryTellsSpec.pre6 enc Tryz.prog Tryz.f3 Rows.entryTellsRow.domain false) (Rows.entryTellsSpec.post enc Tryz.prog Tryz.f3 false true false false) := by
  refine row_true os started (by kernel_rfl) Tryz.func3 rfl Tryz.underlying4 rfl (fun ds h => ?_) ?_
    (ChangeSpec.witness6 (enc := enc) (C := Tryz.checked) false ⟨#[], #[.agg #[.int .u8 0, .int .i64 0, .int .i64 0, .slice none 0 0, .slice none 0 0, .slice none 0 0, .slice none 0 0], .agg #[.int .u8 0, .int .i64 0, .int .i64 0, .slice none 0 0, .slice none 0 0, .slice none 0 0, .slice none 0 0], .string ByteArray.empty], []⟩ 8 (by kernel_rfl) (by kernel_rfl) (by kernel_rfl) (by kernel_rfl)) ?_
  · have h : ds.length = 3 := h
    match ds, h with
    | [d0, d1, d2], _ => exact ⟨rfl, rfl, rfl⟩
  · rw [Tryz.params3]
    intro t ht
    simp only [List.mem_cons, List.not_mem_nil, or_false] at ht
    rcases ht with rfl | rfl | rfl <;> exact ⟨by kernel_rfl, of_decide_eq_true (by kernel_rfl)⟩
  · intro W base args ds ps hval hA hft
    rw [Tryz.params3] at hval hA hft
    obtain ⟨v0, vs0, d0, ds0, p0, q0, hargs, rfl, rfl, h0, r0⟩ := trodAll_cons hA
    obtain ⟨v1, vs1, d1, ds1, p1, q1, rfl, rfl, rfl, h1, r1⟩ := trodAll_cons r0
    obtain ⟨v2, vs2, d2, ds2, p2, q2, rfl, rfl, rfl, h2, r2⟩ := trodAll_cons r1
    obtain ⟨rfl, rfl, rfl⟩ := trodAll_nil r2
    obtain rfl : args = #[v0, v1, v2] := by cases args; simp_all
    obtain ⟨cs0, rfl, _⟩ := okWide_struct Tryz.underlying27 (hval 0 _ v0 rfl rfl)
    obtain ⟨z0, hz0⟩ := h0
    obtain ⟨en0, ad0, e0, ok0, rc0, hn0⟩ := rd_entry hz0 (hft 0 _ d0 rfl rfl)
    have g0 : Value.agg cs0 = .agg #[.int .u8 en0.k, .int .i64 en0.id, .int .i64 en0.ep, .slice ad0.a1 en0.x.length ad0.c1, .slice ad0.a2 en0.coms.length ad0.c2, .slice ad0.a3 en0.next.length ad0.c3, .slice ad0.a4 en0.deals.length ad0.c4] := by
      obtain ⟨lst⟩ := cs0
      have e : lst = [.int .u8 en0.k, .int .i64 en0.id, .int .i64 en0.ep, .slice ad0.a1 en0.x.length ad0.c1, .slice ad0.a2 en0.coms.length ad0.c2, .slice ad0.a3 en0.next.length ad0.c3, .slice ad0.a4 en0.deals.length ad0.c4] := e0
      rw [e]
    obtain ⟨cs1, rfl, _⟩ := okWide_struct Tryz.underlying27 (hval 1 _ v1 rfl rfl)
    obtain ⟨z1, hz1⟩ := h1
    obtain ⟨en1, ad1, e1, ok1, rc1, hn1⟩ := rd_entry hz1 (hft 1 _ d1 rfl rfl)
    have g1 : Value.agg cs1 = .agg #[.int .u8 en1.k, .int .i64 en1.id, .int .i64 en1.ep, .slice ad1.a1 en1.x.length ad1.c1, .slice ad1.a2 en1.coms.length ad1.c2, .slice ad1.a3 en1.next.length ad1.c3, .slice ad1.a4 en1.deals.length ad1.c4] := by
      obtain ⟨lst⟩ := cs1
      have e : lst = [.int .u8 en1.k, .int .i64 en1.id, .int .i64 en1.ep, .slice ad1.a1 en1.x.length ad1.c1, .slice ad1.a2 en1.coms.length ad1.c2, .slice ad1.a3 en1.next.length ad1.c3, .slice ad1.a4 en1.deals.length ad1.c4] := e1
      rw [e]
    obtain ⟨s2, rfl⟩ := okWide_string Tryz.underlying9 (hval 2 _ v2 rfl rfl)
    obtain ⟨l2, e2, hl2⟩ := rd_str Tryz.underlying9 (rd_of rfl h2) (hft 2 _ d2 rfl rfl)
    rw [g0, g1, e2]
    exact etells_any en0 en1 ad0 ad1 l2 W ok0 rc0 hn0 rc1 hn1 hl2

theorem over : Rows.entryTellsRow.holds Tryz.pinned (OpenSpec.ofChange Rows.entryTellsSpec) :=
  OpenClaim.holds_of_wide 3 Tryz.f3 rfl rfl rfl rfl rfl rfl rfl ⟨rfl, rfl, rfl, rfl, rfl⟩ rfl rfl rfl rfl rfl (by kernel_rfl) Tryz.func3 (by kernel_rfl)
    (of_decide_eq_true (by kernel_rfl)) (by unfold Func.isWrapper; first | (rw [if_pos (by decide +kernel)]; kernel_rfl) | (rw [if_neg (by decide +kernel)]; exact ⟨rfl, rfl⟩))
    (fun os started H enc _ => lifted os started H enc)

theorem proved : Rows.EntryTellsSaid := over
#print axioms proved
end Go.Proofs.YtdnkijljpmcejaaGreat.entryTells
