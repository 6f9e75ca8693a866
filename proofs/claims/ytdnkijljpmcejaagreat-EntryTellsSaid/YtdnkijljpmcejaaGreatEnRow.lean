/-
  An entry that came in: its cells, its lists, what was dealt.
-/
import Derived.Test.YtdnkijljpmcejaaGreatLift
import Derived.Test.YtdnkijljpmcejaaGreatELaw
namespace Go.Proofs.YtdnkijljpmcejaaGreat
open Go.ChangeShapes Go.WideShapes Go.ChangeAt Go.RowKit Go.Deep

theorem cells_en : Tryz.prog.cellsOf 27 = 7 := by kernel_rfl
theorem cells_dl : Tryz.prog.cellsOf 41 = 2 := by kernel_rfl
theorem cells_ls : Tryz.prog.cellsOf 45 = 1 := by kernel_rfl
theorem bytes_u64 : Tryz.prog.bytesOf 56 = 8 := by kernel_rfl
theorem bytes_i64 : Tryz.prog.bytesOf 2 = 8 := by kernel_rfl
theorem bytes_int : Tryz.prog.bytesOf 3 = 8 := by kernel_rfl
theorem bytes_ls : Tryz.prog.bytesOf 45 = 24 := by kernel_rfl
theorem bytes_dl : Tryz.prog.bytesOf 41 = 32 := by kernel_rfl
theorem one_en {fs : Array Field} (h : Tryz.prog.underlying 27 = some (.struct fs)) : oneCellFields Tryz.prog fs = true := by
  rw [Tryz.underlying27] at h
  injection h with h
  injection h with h
  subst h
  kernel_rfl
theorem one_dl {fs : Array Field} (h : Tryz.prog.underlying 41 = some (.struct fs)) : oneCellFields Tryz.prog fs = true := by
  rw [Tryz.underlying41] at h
  injection h with h
  injection h with h
  subst h
  kernel_rfl

section
variable {H : Type} {enc : TypeId × Value → H} {w : World}
theorem rd_lists {v : Value} {y : DataW H} (h : Rd enc w 23 v y) (hf : Fits 23 y) :
    ∃ a c ls, v = .slice a (ls : List (List Int)).length c ∧ NLst w w.heap.size a ls ∧ Us ls ∧ RLs ls := by
  obtain ⟨a, n, c, rfl, hn, hb, hx⟩ := rd_slice Tryz.underlying23 h hf
  rw [bytes_ls] at hb
  rcases hx with rfl | ⟨x, rfl, hi⟩
  · exact ⟨a, c, [], rfl, .inl rfl, by simp [Us], ⟨by simp, by simp⟩⟩
  · obtain ⟨ls, hl, hQ⟩ := list_of (Q := fun i l => ∃ a' c', w.cell? (x.add i) = some (.slice a' (l : List Int).length c') ∧ Nums .u64 w w.heap.size a' l ∧ (∀ z ∈ l, U64 z) ∧ l.length ≤ 140737488351232) n fun i hi' => by
      obtain ⟨cs, d, m, ps, hcl, hc, ht, hfd⟩ := hi i hi'
      rw [cells_ls] at hcl hc
      obtain ⟨v, rfl⟩ : ∃ v, cs = [v] := by
        match cs, hcl with
        | [v], _ => exact ⟨v, rfl⟩
      obtain ⟨a', c', l, rfl, hnum, hw, hlen⟩ := rd_nums Tryz.underlying45 Tryz.underlying56 (by kernel_rfl) ⟨m, ps, ht⟩ hfd
      rw [bytes_u64] at hlen
      have := hc 0 (by simp)
      rw [Nat.mul_one, Nat.add_zero] at this
      exact ⟨l, a', c', by simpa using this, hnum, fun z hz => wf_u64 (hw z hz), by omega⟩
    subst hl
    refine ⟨some x, c, ls, rfl, ?_, fun l hl => ?_, by omega, fun l hl => ?_⟩
    · by_cases h0 : ls = []
      · exact .inl h0
      · obtain ⟨l, hl⟩ : ∃ l, ls[0]? = some l := ⟨_, List.getElem?_eq_getElem (List.length_pos_iff.2 h0)⟩
        obtain ⟨a0, c0, hc0, _⟩ := hQ 0 l hl
        obtain ⟨b, off, spot⟩ := x
        have hspot : spot = none := by simpa [Addr.add] using World.cell?_spot hc0
        subst hspot
        have hbl := World.block_lt_of_cell? w _ hc0
        refine .inr ⟨b, off, rfl, by simpa [Addr.add] using hbl, fun i l hl => ?_⟩
        obtain ⟨a', c', h1, h2, _⟩ := hQ i l hl
        rw [Addr.add_lit] at h1
        exact ⟨a', c', h1, h2⟩
    · obtain ⟨i, hi'⟩ := List.mem_iff_getElem?.1 hl
      obtain ⟨a', c', _, _, h3, _⟩ := hQ i l hi'
      exact h3
    · obtain ⟨i, hi'⟩ := List.mem_iff_getElem?.1 hl
      obtain ⟨a', c', _, _, _, h4⟩ := hQ i l hi'
      exact h4
theorem rd_dealt {cs : List Value} {y : DataW H} {n : Nat} {ps : List MemPlace} (h : DataW.trod enc Tryz.prog w 0 (fun _ => true) true n 41 cs = some (y, ps)) (hf : Fits 41 y) :
    ∃ (d : Dl) (a : Option Addr) (c : Nat), cs = [.int .i64 d.1, .slice a d.2.length c] ∧ DlOk d ∧ NLst w w.heap.size a d.2 ∧ RLs d.2 := by
  obtain ⟨hl, hg⟩ := rd_struct Tryz.underlying41 (one_dl Tryz.underlying41) h hf
  rw [cells_dl] at hl
  obtain ⟨v0, v1, rfl⟩ : ∃ v0 v1, cs = [v0, v1] := by
    match cs, hl with
    | [v0, v1], _ => exact ⟨_, _, rfl⟩
  obtain ⟨d0, r0, f0⟩ := hg 0 _ v0 rfl rfl
  obtain ⟨d1, r1, f1⟩ := hg 1 _ v1 rfl rfl
  obtain ⟨k, rfl, hk⟩ := rd_int Tryz.underlying3 r0
  obtain ⟨a, c, ls, rfl, hn, hu, hr⟩ := rd_lists r1 f1
  exact ⟨(k, ls), a, c, rfl, ⟨wf_i64 hk, hu⟩, hn, hr⟩
theorem rd_deals {v : Value} {y : DataW H} (h : Rd enc w 25 v y) (hf : Fits 25 y) :
    ∃ a c ds, v = .slice a (ds : List Dl).length c ∧ NDls w w.heap.size a ds ∧ (∀ d ∈ ds, DlOk d) ∧ ds.length ≤ 140737488351232 ∧ ∀ d ∈ ds, RLs d.2 := by
  obtain ⟨a, n, c, rfl, hn, hb, hx⟩ := rd_slice Tryz.underlying25 h hf
  rw [bytes_dl] at hb
  rcases hx with rfl | ⟨x, rfl, hi⟩
  · exact ⟨a, c, [], rfl, .inl rfl, by simp, by simp, by simp⟩
  · obtain ⟨ls, hl, hQ⟩ := list_of (Q := fun i (d : Dl) => ∃ a' c', w.cell? (x.add (i * 2)) = some (.int .i64 d.1) ∧ w.cell? (x.add (i * 2 + 1)) = some (.slice a' d.2.length c') ∧ NLst w w.heap.size a' d.2 ∧ DlOk d ∧ RLs d.2) n fun i hi' => by
      obtain ⟨cs, d, m, ps, hcl, hc, ht, hfd⟩ := hi i hi'
      rw [cells_dl] at hc
      obtain ⟨e, a', c', rfl, ho, hnl, hr⟩ := rd_dealt ht hfd
      have h0 := hc 0 (by simp)
      have h1 := hc 1 (by simp)
      exact ⟨e, a', c', by simpa using h0, by simpa using h1, hnl, ho, hr⟩
    subst hl
    refine ⟨some x, c, ls, rfl, ?_, fun l hl => ?_, by omega, fun l hl => ?_⟩
    · by_cases h0 : ls = []
      · exact .inl h0
      · obtain ⟨l, hl⟩ : ∃ l, ls[0]? = some l := ⟨_, List.getElem?_eq_getElem (List.length_pos_iff.2 h0)⟩
        obtain ⟨a0, c0, hc0, _⟩ := hQ 0 l hl
        obtain ⟨b, off, spot⟩ := x
        have hspot : spot = none := by simpa [Addr.add] using World.cell?_spot hc0
        subst hspot
        have hbl := World.block_lt_of_cell? w _ hc0
        refine .inr ⟨b, off, rfl, by simpa [Addr.add] using hbl, fun i d hd => ?_⟩
        obtain ⟨a', c', h1, h2, h3, _⟩ := hQ i d hd
        rw [Addr.add_lit] at h1 h2
        exact ⟨a', c', h1, h2, h3⟩
    · obtain ⟨i, hi'⟩ := List.mem_iff_getElem?.1 hl
      obtain ⟨a', c', _, _, _, h4, _⟩ := hQ i l hi'
      exact h4
    · obtain ⟨i, hi'⟩ := List.mem_iff_getElem?.1 hl
      obtain ⟨a', c', _, _, _, _, h5⟩ := hQ i l hi'
      exact h5
theorem rd_entry {cs : List Value} {y : DataW H} {n : Nat} {ps : List MemPlace} (h : DataW.trod enc Tryz.prog w 0 (fun _ => true) true n 27 cs = some (y, ps)) (hf : Fits 27 y) :
    ∃ (e : En) (p : Ad), cs = [.int .u8 e.k, .int .i64 e.id, .int .i64 e.ep, .slice p.a1 e.x.length p.c1, .slice p.a2 e.coms.length p.c2, .slice p.a3 e.next.length p.c3, .slice p.a4 e.deals.length p.c4] ∧ e.Ok ∧ e.Rch ∧ NEn w w.heap.size e p := by
  obtain ⟨hl, hg⟩ := rd_struct Tryz.underlying27 (one_en Tryz.underlying27) h hf
  rw [cells_en] at hl
  obtain ⟨v0, v1, v2, v3, v4, v5, v6, rfl⟩ : ∃ v0 v1 v2 v3 v4 v5 v6, cs = [v0, v1, v2, v3, v4, v5, v6] := by
    match cs, hl with
    | [v0, v1, v2, v3, v4, v5, v6], _ => exact ⟨_, _, _, _, _, _, _, rfl⟩
  obtain ⟨d0, r0, f0⟩ := hg 0 _ v0 rfl rfl
  obtain ⟨d1, r1, f1⟩ := hg 1 _ v1 rfl rfl
  obtain ⟨d2, r2, f2⟩ := hg 2 _ v2 rfl rfl
  obtain ⟨d3, r3, f3⟩ := hg 3 _ v3 rfl rfl
  obtain ⟨d4, r4, f4⟩ := hg 4 _ v4 rfl rfl
  obtain ⟨d5, r5, f5⟩ := hg 5 _ v5 rfl rfl
  obtain ⟨d6, r6, f6⟩ := hg 6 _ v6 rfl rfl
  obtain ⟨k, rfl, hk⟩ := rd_int Tryz.underlying5 r0
  obtain ⟨i, rfl, h1⟩ := rd_int Tryz.underlying3 r1
  obtain ⟨ep, rfl, h2⟩ := rd_int Tryz.underlying3 r2
  obtain ⟨a1, c1, x, rfl, n1, w1, l1⟩ := rd_nums Tryz.underlying22 Tryz.underlying2 (by kernel_rfl) r3 f3
  obtain ⟨a2, c2, cs, rfl, n2, u2, g2⟩ := rd_lists r4 f4
  obtain ⟨a3, c3, nx, rfl, n3, w3, l3⟩ := rd_nums Tryz.underlying24 Tryz.underlying3 (by kernel_rfl) r5 f5
  obtain ⟨a4, c4, ds, rfl, n4, o4, l4, g4⟩ := rd_deals r6 f6
  rw [bytes_i64] at l1
  rw [bytes_int] at l3
  have hk' := wf_u8 hk
  exact ⟨⟨k, i, ep, x, cs, nx, ds⟩, ⟨a1, c1, a2, c2, a3, c3, a4, c4⟩, rfl, ⟨hk'.1, hk'.2, wf_i64 h1, wf_i64 h2, fun n hn => wf_i64 (w1 n hn), u2, fun n hn => wf_i64 (w3 n hn), o4⟩, ⟨by dsimp only; omega, g2, by dsimp only; omega, l4, g4⟩, ⟨n1, n2, n3, n4⟩⟩
end
end Go.Proofs.YtdnkijljpmcejaaGreat
