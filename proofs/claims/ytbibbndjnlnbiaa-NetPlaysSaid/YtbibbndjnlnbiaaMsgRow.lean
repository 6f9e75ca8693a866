/-
  A message that came in: its cells.
-/
import Derived.Test.YtbibbndjnlnbiaaLift
import Derived.Test.YtbibbndjnlnbiaaMsgMay3
namespace Go.Proofs.Ytbibbndjnlnbiaa
open Go.ChangeShapes Go.WideShapes Go.ChangeAt Go.RowKit Go.Deep

/-- What of a message a walk needs: what it holds; how long its text and its list are. -/
structure MFit (m : Mg) : Prop where
  ok : m.Ok
  s : m.s.length ≤ 140737488351232
  l : m.l.length ≤ 17592186043904

theorem cells_msg : Try.prog.cellsOf 32 = 11 := by kernel_rfl
theorem bytes_u64 : Try.prog.bytesOf 56 = 8 := by kernel_rfl
theorem one_msg {fs : Array Field} (h : Try.prog.underlying 32 = some (.struct fs)) : oneCellFields Try.prog fs = true := by
  rw [Try.underlying32] at h
  injection h with h
  injection h with h
  subst h
  kernel_rfl

section
variable {H : Type} {enc : TypeId × Value → H} {w : World}
theorem rd_msg {cs : List Value} {y : DataW H} {n : Nat} {ps : List MemPlace} (h : DataW.trod enc Try.prog w 0 (fun _ => true) true n 32 cs = some (y, ps)) (hf : Fits 32 y) :
    ∃ m a c, cs = [.int .u8 (Mg.k m), .int .i64 m.fr, .int .i64 m.to, .int .i64 m.ht, .int .i64 m.rd, .int .i64 m.vl, .int .i64 m.ep, .int .i64 m.dl, .int .i64 m.id, .string ⟨m.s.toArray⟩, .slice a m.l.length c] ∧ MFit m ∧ Nums .u64 w w.heap.size a m.l := by
  obtain ⟨hl, hg⟩ := rd_struct Try.underlying32 (one_msg Try.underlying32) h hf
  rw [cells_msg] at hl
  obtain ⟨v0, v1, v2, v3, v4, v5, v6, v7, v8, v9, v10, rfl⟩ : ∃ v0 v1 v2 v3 v4 v5 v6 v7 v8 v9 v10, cs = [v0, v1, v2, v3, v4, v5, v6, v7, v8, v9, v10] := by
    match cs, hl with
    | [v0, v1, v2, v3, v4, v5, v6, v7, v8, v9, v10], _ => exact ⟨_, _, _, _, _, _, _, _, _, _, _, rfl⟩
  obtain ⟨d0, r0, f0⟩ := hg 0 _ v0 rfl rfl
  obtain ⟨d1, r1, f1⟩ := hg 1 _ v1 rfl rfl
  obtain ⟨d2, r2, f2⟩ := hg 2 _ v2 rfl rfl
  obtain ⟨d3, r3, f3⟩ := hg 3 _ v3 rfl rfl
  obtain ⟨d4, r4, f4⟩ := hg 4 _ v4 rfl rfl
  obtain ⟨d5, r5, f5⟩ := hg 5 _ v5 rfl rfl
  obtain ⟨d6, r6, f6⟩ := hg 6 _ v6 rfl rfl
  obtain ⟨d7, r7, f7⟩ := hg 7 _ v7 rfl rfl
  obtain ⟨d8, r8, f8⟩ := hg 8 _ v8 rfl rfl
  obtain ⟨d9, r9, f9⟩ := hg 9 _ v9 rfl rfl
  obtain ⟨d10, r10, f10⟩ := hg 10 _ v10 rfl rfl
  obtain ⟨k, rfl, hk⟩ := rd_int Try.underlying5 r0
  obtain ⟨n1, rfl, h1⟩ := rd_int Try.underlying3 r1
  obtain ⟨n2, rfl, h2⟩ := rd_int Try.underlying3 r2
  obtain ⟨n3, rfl, h3⟩ := rd_int Try.underlying3 r3
  obtain ⟨n4, rfl, h4⟩ := rd_int Try.underlying3 r4
  obtain ⟨n5, rfl, h5⟩ := rd_int Try.underlying3 r5
  obtain ⟨n6, rfl, h6⟩ := rd_int Try.underlying3 r6
  obtain ⟨n7, rfl, h7⟩ := rd_int Try.underlying3 r7
  obtain ⟨n8, rfl, h8⟩ := rd_int Try.underlying3 r8
  obtain ⟨s, rfl, hs⟩ := rd_str Try.underlying9 r9 f9
  obtain ⟨a, c, xs, rfl, hn, hw, hx⟩ := rd_nums Try.underlying30 Try.underlying56 (by kernel_rfl) r10 f10
  rw [bytes_u64] at hx
  exact ⟨⟨k, n1, n2, n3, n4, n5, n6, n7, n8, s, xs⟩, a, c, rfl, ⟨⟨wf_u8 hk, wf_i64 h1, wf_i64 h2, wf_i64 h3, wf_i64 h4, wf_i64 h5, wf_i64 h6, wf_i64 h7, wf_i64 h8, fun x h => wf_u64 (hw x h)⟩, hs, by dsimp only; omega⟩, hn⟩
end
end Go.Proofs.Ytbibbndjnlnbiaa
