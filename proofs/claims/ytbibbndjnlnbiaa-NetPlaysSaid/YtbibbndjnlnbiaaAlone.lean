/-
  Steps that came in: a kind, a message, a place; consistorylaw28.long.
  consistorylaw28.NetAlone: the walk.
-/
import Derived.Test.YtbibbndjnlnbiaaLift
import Derived.Test.YtbibbndjnlnbiaaMsgRow
import Derived.Test.YtbibbndjnlnbiaaWorks28
import Derived.Deep.CutBlock
namespace Go.Proofs.Ytbibbndjnlnbiaa
open Go.ChangeShapes Go.WideShapes Go.ChangeAt Go.RowKit Go.Deep

structure Stp where
  kind : Int
  m : Mg
  pl : Int
structure SFit (s : Stp) : Prop where
  kind : Byte s.kind
  m : MFit s.m
  pl : I64 s.pl
/-- A step's cells, from place o of block b on. -/
def StAt (w : World) (B b o : Nat) (s : Stp) : Prop :=
  ∃ a c, Nums .u64 w B a s.m.l ∧ w.cell? ⟨b, o, none⟩ = some (.int .u8 s.kind) ∧ w.cell? ⟨b, o + 1, none⟩ = some (.int .u8 s.m.k) ∧ w.cell? ⟨b, o + 2, none⟩ = some (.int .i64 s.m.fr) ∧ w.cell? ⟨b, o + 3, none⟩ = some (.int .i64 s.m.to) ∧ w.cell? ⟨b, o + 4, none⟩ = some (.int .i64 s.m.ht) ∧ w.cell? ⟨b, o + 5, none⟩ = some (.int .i64 s.m.rd) ∧ w.cell? ⟨b, o + 6, none⟩ = some (.int .i64 s.m.vl) ∧ w.cell? ⟨b, o + 7, none⟩ = some (.int .i64 s.m.ep) ∧ w.cell? ⟨b, o + 8, none⟩ = some (.int .i64 s.m.dl) ∧ w.cell? ⟨b, o + 9, none⟩ = some (.int .i64 s.m.id) ∧ w.cell? ⟨b, o + 10, none⟩ = some (.string ⟨s.m.s.toArray⟩) ∧ w.cell? ⟨b, o + 11, none⟩ = some (.slice a s.m.l.length c) ∧ w.cell? ⟨b, o + 12, none⟩ = some (.int .i64 s.pl)
def Steps (w : World) (B : Nat) (a : Option Addr) (l : List Stp) : Prop :=
  l = [] ∨ ∃ b o, a = some ⟨b, o, none⟩ ∧ b < B ∧ ∀ i s, l[i]? = some s → StAt w B b (o + i * 13) s
theorem StAt.kept {w w' : World} {B C b o : Nat} {s : Stp} (h : StAt w B b o s) (hb : b < B) (k : Below C w w') (hC : B ≤ C) : StAt w' B b o s := by
  obtain ⟨a, c, hn, h0, h1, h2, h3, h4, h5, h6, h7, h8, h9, h10, h11, h12⟩ := h
  have e : ∀ i, w'.cell? ⟨b, i, none⟩ = w.cell? ⟨b, i, none⟩ := fun i => k.cell (p := ⟨b, i, none⟩) (by show b < C; omega)
  exact ⟨a, c, hn.kept k hC, by rw [e]; exact h0, by rw [e]; exact h1, by rw [e]; exact h2, by rw [e]; exact h3, by rw [e]; exact h4, by rw [e]; exact h5, by rw [e]; exact h6, by rw [e]; exact h7, by rw [e]; exact h8, by rw [e]; exact h9, by rw [e]; exact h10, by rw [e]; exact h11, by rw [e]; exact h12⟩
theorem Steps.kept {w w' : World} {B C : Nat} {a : Option Addr} {l : List Stp} (h : Steps w B a l) (k : Below C w w') (hC : B ≤ C) : Steps w' B a l := by
  rcases h with h | ⟨b, o, rfl, hb, h⟩
  · exact .inl h
  · exact .inr ⟨b, o, rfl, hb, fun i s hs => (h i s hs).kept hb k hC⟩

theorem cells_step : Try.prog.cellsOf 36 = 13 := by kernel_rfl
theorem cells_u8 : Try.prog.cellsOf 5 = 1 := by kernel_rfl
theorem cells_int : Try.prog.cellsOf 3 = 1 := by kernel_rfl

section
variable {H : Type} {enc : TypeId × Value → H} {w : World}
theorem rd_field {fs : Array Field} (step_struct : Try.prog.underlying 36 = some (.struct fs)) {cs : List Value} {y : DataW H} {n : Nat} {ps : List MemPlace} (h : DataW.trod enc Try.prog w 0 (fun _ => true) true n 36 cs = some (y, ps)) (hf : Fits 36 y) {j : Nat} {t : TypeId} {off : Nat} (hj : (fs[j]?).map (fun f => (f.type, f.offset)) = some (t, off)) :
    ∃ d m qs, DataW.trod enc Try.prog w 0 (fun _ => true) true m t ((cs.drop off).take (Try.prog.cellsOf t)) = some (d, qs) ∧ Fits t d := by
  obtain ⟨xs, m, _, hx, hcl, hlen, hg⟩ := DataW.trod_struct step_struct h
  cases hfj : fs[j]? with
  | none => rw [hfj] at hj; simp at hj
  | some f =>
    rw [hfj] at hj
    simp only [Option.map_some, Option.some.injEq, Prod.mk.injEq] at hj
    obtain ⟨e1, e2⟩ := hj
    subst e1 e2
    have hgj := hg j f hfj
    have hjl : j < xs.length := by rw [hlen]; exact (Array.getElem?_eq_some_iff.1 hfj).1
    rw [List.getElem?_eq_getElem hjl] at hgj
    injection hx with hx _
    subst hx
    exact ⟨xs[j].1, m, xs[j].2, hgj, fits_part step_struct hf hfj (by simp [hjl])⟩
theorem rd_step {cs : List Value} {y : DataW H} {n : Nat} {ps : List MemPlace} (hl : cs.length = 13) (h : DataW.trod enc Try.prog w 0 (fun _ => true) true n 36 cs = some (y, ps)) (hf : Fits 36 y) :
    ∃ s a c, cs = [.int .u8 (Stp.kind s), .int .u8 s.m.k, .int .i64 s.m.fr, .int .i64 s.m.to, .int .i64 s.m.ht, .int .i64 s.m.rd, .int .i64 s.m.vl, .int .i64 s.m.ep, .int .i64 s.m.dl, .int .i64 s.m.id, .string ⟨s.m.s.toArray⟩, .slice a s.m.l.length c, .int .i64 s.pl] ∧ SFit s ∧ Nums .u64 w w.heap.size a s.m.l := by
  obtain ⟨v0, v1, v2, v3, v4, v5, v6, v7, v8, v9, v10, v11, v12, rfl⟩ : ∃ v0 v1 v2 v3 v4 v5 v6 v7 v8 v9 v10 v11 v12, cs = [v0, v1, v2, v3, v4, v5, v6, v7, v8, v9, v10, v11, v12] := by
    match cs, hl with
    | [v0, v1, v2, v3, v4, v5, v6, v7, v8, v9, v10, v11, v12], _ => exact ⟨_, _, _, _, _, _, _, _, _, _, _, _, _, rfl⟩
  obtain ⟨d0, m0, q0, r0, f0⟩ := rd_field Try.underlying36 h hf (j := 0) (t := 5) (off := 0) (by kernel_rfl)
  obtain ⟨d1, m1, q1, r1, f1⟩ := rd_field Try.underlying36 h hf (j := 1) (t := 32) (off := 1) (by kernel_rfl)
  obtain ⟨d2, m2, q2, r2, f2⟩ := rd_field Try.underlying36 h hf (j := 2) (t := 3) (off := 12) (by kernel_rfl)
  rw [cells_u8] at r0
  rw [cells_msg] at r1
  rw [cells_int] at r2
  obtain ⟨k, rfl, hk⟩ := rd_int (w := w) (v := v0) Try.underlying5 ⟨m0, q0, r0⟩
  obtain ⟨p, rfl, hp⟩ := rd_int (w := w) (v := v12) Try.underlying3 ⟨m2, q2, r2⟩
  obtain ⟨m, a, c, e, hm, hn⟩ := rd_msg (cs := [v1, v2, v3, v4, v5, v6, v7, v8, v9, v10, v11]) r1 f1
  refine ⟨⟨k, m, p⟩, a, c, ?_, ⟨wf_u8 hk, hm, wf_i64 hp⟩, hn⟩
  simp only [List.cons.injEq, and_true] at e
  obtain ⟨rfl, rfl, rfl, rfl, rfl, rfl, rfl, rfl, rfl, rfl, rfl⟩ := e
  rfl

theorem rd_step0 {cs : List Value} {y : DataW H} {n : Nat} {ps : List MemPlace} (h : DataW.trod enc Try.prog w 0 (fun _ => true) true n 36 cs = some (y, ps)) (hf : Fits 36 y) :
    ∃ s a c, cs = [.int .u8 (Stp.kind s), .int .u8 s.m.k, .int .i64 s.m.fr, .int .i64 s.m.to, .int .i64 s.m.ht, .int .i64 s.m.rd, .int .i64 s.m.vl, .int .i64 s.m.ep, .int .i64 s.m.dl, .int .i64 s.m.id, .string ⟨s.m.s.toArray⟩, .slice a s.m.l.length c, .int .i64 s.pl] ∧ SFit s ∧ Nums .u64 w w.heap.size a s.m.l := by
  obtain ⟨_, _, _, _, hcl, _⟩ := DataW.trod_struct Try.underlying36 h
  rw [cells_step] at hcl
  exact rd_step hcl h hf

/-- A slice of steps that came in. -/
theorem rd_steps {v : Value} {y : DataW H} (h : Rd enc w 22 v y) (hf : Fits 22 y) :
    ∃ a c l, v = .slice a (l : List Stp).length c ∧ l.length ≤ 9223372036854775807 ∧ (∀ s ∈ l, SFit s) ∧ Steps w w.heap.size a l := by
  obtain ⟨a, n, c, rfl, hn, _, h0 | ⟨x, rfl, hx⟩⟩ := rd_slice Try.underlying22 h hf
  · subst h0
    exact ⟨a, c, [], rfl, by simp, by simp, .inl rfl⟩
  · rw [cells_step] at hx
    have hx' : ∀ i, i < n → ∃ s : Stp, SFit s ∧ (∃ a c, Nums .u64 w w.heap.size a s.m.l ∧ w.cell? (x.add (i * 13 + 0)) = some (.int .u8 s.kind) ∧ w.cell? (x.add (i * 13 + 1)) = some (.int .u8 s.m.k) ∧ w.cell? (x.add (i * 13 + 2)) = some (.int .i64 s.m.fr) ∧ w.cell? (x.add (i * 13 + 3)) = some (.int .i64 s.m.to) ∧ w.cell? (x.add (i * 13 + 4)) = some (.int .i64 s.m.ht) ∧ w.cell? (x.add (i * 13 + 5)) = some (.int .i64 s.m.rd) ∧ w.cell? (x.add (i * 13 + 6)) = some (.int .i64 s.m.vl) ∧ w.cell? (x.add (i * 13 + 7)) = some (.int .i64 s.m.ep) ∧ w.cell? (x.add (i * 13 + 8)) = some (.int .i64 s.m.dl) ∧ w.cell? (x.add (i * 13 + 9)) = some (.int .i64 s.m.id) ∧ w.cell? (x.add (i * 13 + 10)) = some (.string ⟨s.m.s.toArray⟩) ∧ w.cell? (x.add (i * 13 + 11)) = some (.slice a s.m.l.length c) ∧ w.cell? (x.add (i * 13 + 12)) = some (.int .i64 s.pl)) := by
      intro i hi
      obtain ⟨cs, d, m, ps, hl, hc, ht, hfd⟩ := hx i hi
      obtain ⟨s, a, c, rfl, hfit, hnums⟩ := rd_step hl ht hfd
      exact ⟨s, hfit, a, c, hnums, hc 0 (by simp), hc 1 (by simp), hc 2 (by simp), hc 3 (by simp), hc 4 (by simp), hc 5 (by simp), hc 6 (by simp), hc 7 (by simp), hc 8 (by simp), hc 9 (by simp), hc 10 (by simp), hc 11 (by simp), hc 12 (by simp)⟩
    obtain ⟨l, hl, ht⟩ := list_of n hx'
    subst hl
    refine ⟨some x, c, l, rfl, hn, fun s hm => ?_, ?_⟩
    · obtain ⟨i, hi⟩ := List.getElem?_of_mem hm
      exact (ht i s hi).1
    · by_cases h0 : l = []
      · exact .inl h0
      obtain ⟨b, off, spot⟩ := x
      have h0' : l[0]? = some (l[0]'(List.length_pos_iff.2 h0)) := List.getElem?_eq_getElem _
      obtain ⟨_, a, c, _, c0, _⟩ := ht 0 _ h0'
      have hspot : spot = none := by simpa [Addr.add] using World.cell?_spot c0
      subst hspot
      have hb := World.block_lt_of_cell? w _ c0
      refine .inr ⟨b, off, rfl, by simpa [Addr.add] using hb, fun i s hi => ?_⟩
      obtain ⟨_, a, c, hn, h0, h1, h2, h3, h4, h5, h6, h7, h8, h9, h10, h11, h12⟩ := ht i s hi
      rw [Addr.add_lit] at h0 h1 h2 h3 h4 h5 h6 h7 h8 h9 h10 h11 h12
      exact ⟨a, c, hn, h0, h1, h2, h3, h4, h5, h6, h7, h8, h9, h10, h11, h12⟩
end

/-- What consistorylaw28.long counts. -/
def tot28 : List Stp → Nat
  | [] => 0
  | s :: l => 30 + s.m.s.length + s.m.l.length + tot28 l
theorem tot28_append : ∀ a b : List Stp, tot28 (a ++ b) = tot28 a + tot28 b
  | [], _ => by simp [tot28]
  | t :: a, b => by simp [tot28, tot28_append a b]; omega
theorem tot28_le : ∀ l : List Stp, 30 * l.length ≤ tot28 l
  | [] => by simp [tot28]
  | t :: l => by
    have := tot28_le l
    simp [tot28]
    omega
theorem tot28_mem : ∀ {l : List Stp} {s : Stp}, s ∈ l → s.m.l.length ≤ tot28 l
  | t :: l, s, h => by
    rcases List.mem_cons.1 h with rfl | h
    · simp [tot28]; omega
    · have := tot28_mem h
      simp [tot28]
      omega
def Long28 (l : List Stp) (w : World) (e : Ending) (w' : World) : Prop := ∃ x, e = .returned (.bool x) ∧ (x = false → tot28 l < 9000) ∧ Below w.heap.size w w'
set_option maxRecDepth 100000 in
set_option maxHeartbeats 1000000 in
theorem long28_any (a : Option Addr) (c : Nat) (l : List Stp) (w : World) (h : Steps w w.heap.size a l) (hf : ∀ s ∈ l, SFit s) (hl : l.length ≤ 9223372036854775807) :
    Calls Try.prog 15 #[.slice a l.length c] w (Long28 l w) := by
  go_enter Try.func15, Try.ntmps15
  go_wp2_with fail
  go_loopw [3, 4] (fun u v wr => ∃ j n : Nat, j ≤ l.length ∧ v = .int .i64 j ∧ u = .int .i64 n ∧ n = tot28 (l.take j) ∧ n ≤ 281474976710656 ∧ Below w.heap.size w wr) (fun _ v _ => l.length - (intOf v).toNat)
  case atStart =>
    exact ⟨0, 0, Nat.zero_le _, rfl, rfl, by simp [tot28], by omega, Below.refl _ _⟩
  case round =>
    obtain ⟨j, n, hj, rfl, rfl, hn, hle, hB⟩ := hrel
    have HN := Lib.hid hn
    clear hn
    by_cases hlt : j < l.length
    · by_cases h9 : n < 9000
      · obtain ⟨s, htj⟩ : ∃ s, l[j]? = some s := ⟨_, List.getElem?_eq_getElem hlt⟩
        obtain ⟨_, ⟨_, hts, htl⟩, _⟩ := hf s (List.mem_of_getElem? htj)
        rcases h.kept hB (Nat.le_refl _) with h0 | ⟨b, o, rfl, hbl, hc⟩
        · rw [h0] at hlt; simp at hlt
        obtain ⟨la, lc, hnums, h0, h1, h2, h3, h4, h5, h6, h7, h8, h9, h10, h11, h12⟩ := hc j s htj
        have HX := Lib.hid htj
        clear htj hc h0 h1 h2 h3 h4 h5 h6 h7 h8 h9 h12
        go_wp2_with fail
        go_quiet (fail)
        go_wp2_with fail
        go_roundw
        case rel =>
          refine ⟨j + 1, n + 30 + s.m.s.length + s.m.l.length, by omega, by go_num, by go_num, ?_, by omega, below_drewN hB _⟩
          rw [List.take_add_one, HX.out, tot28_append, ← HN.out]
          simp [tot28]
          omega
        case measure => simp [intOf]; omega
      · have h9' : decide (n < 9000) = false := by simpa using h9
        go_wp2_with fail
        go_ret
        exact ⟨true, rfl, by simp, hB⟩
    · have hje : j = l.length := by omega
      subst hje
      go_wp2_with fail
      go_ret
      refine ⟨decide (9000 ≤ n), by go_num, fun hx => ?_, hB⟩
      have hN := HN.out
      rw [List.take_length] at hN
      have := of_decide_eq_false hx
      omega
end Go.Proofs.Ytbibbndjnlnbiaa
namespace Go.Proofs.Ytbibbndjnlnbiaa
open Go.RowKit Go.Maps

/-- A step's cells in a box. -/
def Stp.cells (s : Stp) (a : Option Addr) (c : Nat) : Array Value := #[.int .u8 s.kind, .int .u8 s.m.k, .int .i64 s.m.fr, .int .i64 s.m.to, .int .i64 s.m.ht, .int .i64 s.m.rd, .int .i64 s.m.vl, .int .i64 s.m.ep, .int .i64 s.m.dl, .int .i64 s.m.id, .string ⟨s.m.s.toArray⟩, .slice a s.m.l.length c, .int .i64 s.pl]
def Stp.val (s : Stp) (a : Option Addr) (c : Nat) : Value := .agg #[.int .u8 s.kind, .int .u8 s.m.k, .int .i64 s.m.fr, .int .i64 s.m.to, .int .i64 s.m.ht, .int .i64 s.m.rd, .int .i64 s.m.vl, .int .i64 s.m.ep, .int .i64 s.m.dl, .int .i64 s.m.id, .string ⟨s.m.s.toArray⟩, .slice a s.m.l.length c, .int .i64 s.pl]
theorem steps_more {w : World} {B B' : Nat} {a : Option Addr} {l : List Stp} (h : Steps w B a l) (hB : B ≤ B') : Steps w B' a l := by
  rcases h with h | ⟨b, o, ha, hb, h⟩
  · exact .inl h
  · exact .inr ⟨b, o, ha, by omega, fun i s hs => by
      obtain ⟨x, y, hn, r⟩ := h i s hs
      exact ⟨x, y, hn.more hB, r⟩⟩
theorem one_step {w : World} {G : Nat} {s : Stp} {a : Option Addr} {c : Nat} (hb : Blk w G 36 (s.cells a c)) (hn : Nums .u64 w w.heap.size a s.m.l) : Steps w w.heap.size (some ⟨G, 0, none⟩) [s] := by
  refine .inr ⟨G, 0, rfl, hb.lt, fun i x hx => ?_⟩
  have hi : i = 0 := by
    have := (List.getElem?_eq_some_iff.1 hx).1
    simp at this
    omega
  subst hi
  have : x = s := by simpa using hx.symm
  subst this
  exact ⟨a, c, hn, hb.cell 0, hb.cell 1, hb.cell 2, hb.cell 3, hb.cell 4, hb.cell 5, hb.cell 6, hb.cell 7, hb.cell 8, hb.cell 9, hb.cell 10, hb.cell 11, hb.cell 12⟩
theorem Blk.step {w : World} {G : Nat} {s : Stp} {a : Option Addr} {c : Nat} (hb : Blk w G 36 (s.cells a c)) : w.cell? ⟨G, 0, none⟩ = some (.int .u8 s.kind) ∧ w.cell? ⟨G, 1, none⟩ = some (.int .u8 s.m.k) ∧ w.cell? ⟨G, 2, none⟩ = some (.int .i64 s.m.fr) ∧ w.cell? ⟨G, 3, none⟩ = some (.int .i64 s.m.to) ∧ w.cell? ⟨G, 4, none⟩ = some (.int .i64 s.m.ht) ∧ w.cell? ⟨G, 5, none⟩ = some (.int .i64 s.m.rd) ∧ w.cell? ⟨G, 6, none⟩ = some (.int .i64 s.m.vl) ∧ w.cell? ⟨G, 7, none⟩ = some (.int .i64 s.m.ep) ∧ w.cell? ⟨G, 8, none⟩ = some (.int .i64 s.m.dl) ∧ w.cell? ⟨G, 9, none⟩ = some (.int .i64 s.m.id) ∧ w.cell? ⟨G, 10, none⟩ = some (.string ⟨s.m.s.toArray⟩) ∧ w.cell? ⟨G, 11, none⟩ = some (.slice a s.m.l.length c) ∧ w.cell? ⟨G, 12, none⟩ = some (.int .i64 s.pl) := ⟨hb.cell 0, hb.cell 1, hb.cell 2, hb.cell 3, hb.cell 4, hb.cell 5, hb.cell 6, hb.cell 7, hb.cell 8, hb.cell 9, hb.cell 10, hb.cell 11, hb.cell 12⟩

/-- Where what was at place k stands, when what was at 'gone' has gone. -/
def plc (k : Nat) (gone : Int) : Nat := if 0 ≤ gone ∧ gone < (k : Int) then k - 1 else k
theorem plc_gt {k j : Nat} (h : j < k) : plc k j = k - 1 := by
  unfold plc
  rw [if_pos ⟨by omega, by omega⟩]
theorem plc_le {k j : Nat} (h : ¬ j < k) : plc k j = k := by
  unfold plc
  rw [if_neg (by omega)]
structure AR (n n2 : Nt) (gone : Int) : Prop where
  get : ∀ k, k < n.l.length → (k : Int) ≠ gone → n2.l[plc k gone]? = n.l[k]?
  len : (n2.l.length : Int) - (plc n.l.length gone : Int) ≤ 1
  low : -1 ≤ gone
  high : gone < n.l.length
theorem ar_more {n n2 : Nt} (h : n2.l = n.l ∨ ∃ m, n2.l = n.l ++ [m]) : AR n n2 (-1) := by
  have e : ∀ k, plc k (-1) = k := fun k => by unfold plc; rw [if_neg (by omega)]
  refine ⟨fun k hk _ => ?_, ?_, by omega, by omega⟩
  · rw [e]
    rcases h with h | ⟨m, h⟩
    · rw [h]
    · rw [h, List.getElem?_append_left hk]
  · rw [e]
    rcases h with h | ⟨m, h⟩
    · rw [h]; omega
    · rw [h, List.length_append, List.length_cons, List.length_nil]; omega
theorem ar_less {n n2 : Nt} {j : Nat} (hj : j < n.l.length) (h : n2.l = n.l.eraseIdx j) : AR n n2 j := by
  refine ⟨fun k hk hne => ?_, ?_, by omega, by omega⟩
  · rw [h, List.getElem?_eraseIdx]
    by_cases hkj : j < k
    · rw [plc_gt hkj, if_neg (by omega)]
      congr 1
      omega
    · rw [plc_le hkj, if_pos (by omega)]
  · rw [h, List.length_eraseIdx_of_lt hj, plc_gt hj]
    omega
theorem plc_0 (gone : Int) : plc 0 gone = 0 := by
  unfold plc
  split <;> rfl
theorem plc_low (k : Nat) (gone : Int) : plc k gone ≤ k := by
  unfold plc
  split <;> omega
theorem plc_eq {k : Nat} {gone : Int} (h : (k : Int) = gone) : plc (k + 1) gone = plc k gone := by
  unfold plc
  rw [if_pos (by omega), if_neg (by omega)]
  omega
theorem plc_ne {k : Nat} {gone : Int} (h : ¬ (k : Int) = gone) : plc (k + 1) gone = plc k gone + 1 := by
  unfold plc
  by_cases h1 : 0 ≤ gone ∧ gone < (k : Int)
  · rw [if_pos (by omega), if_pos h1]
    omega
  · rw [if_neg (by omega), if_neg h1]
theorem nt_at {n : Nt} {k : Nat} {m : Mg} (h : n.l[k]? = some m) : n.is (k : Int) = true ∧ n.msg (k : Int) = m := by
  have hk := (List.getElem?_eq_some_iff.1 h).1
  have his : n.is (k : Int) = true := Nt.is_iff.2 ⟨by omega, by omega⟩
  have := Nt.msg_at his
  rw [Int.toNat_natCast, h] at this
  exact ⟨his, (Option.some.inj this).symm⟩
theorem ar_lose {n : Nt} {k : Int} (h : n.is k = true) : AR n (n.lose k) k := by
  obtain ⟨h0, h1⟩ := Nt.is_iff.1 h
  obtain ⟨j, rfl⟩ := Int.eq_ofNat_of_zero_le h0
  exact ar_less (by omega) (by simp [Nt.lose, h])
theorem ar_stay {n : Nt} {k : Int} (h : n.is k = false) : AR n (n.lose k) (-1) := ar_more (.inl (by simp [Nt.lose, h]))
theorem at_e {B S g mb K : Nat} {rs : Option Nat} {n : Nt} {w : World} {k : Int} {m : Mg} {b : Bool} (h : NetAt B S g mb rs n w) (ok : n.Ok K) (hK : K ≤ 1000000) (hm : n.msg k = m) (hb : n.is k = b) :
    Calls Try.prog 17 #[.pointer (some ⟨g, 0, none⟩), .int .i64 k] w fun e w' => ∃ a c, e = .returned (.tuple #[.agg #[.int .u8 m.k, .int .i64 m.fr, .int .i64 m.to, .int .i64 m.ht, .int .i64 m.rd, .int .i64 m.vl, .int .i64 m.ep, .int .i64 m.dl, .int .i64 m.id, .string ⟨m.s.toArray⟩, .slice a m.l.length c], .bool b]) ∧ w'.ownsRow w.heap.size 56 1 (.slice a m.l.length c) m.l.length (m.l.map (.int .u64)) ∧ Below w.heap.size w w' := by
  subst hm hb
  exact at_any k w h ok hK
theorem send_l (n : Nt) (m : Mg) : (n.send m).l = n.l ∨ ∃ m', (n.send m).l = n.l ++ [m'] := by
  unfold Nt.send
  split
  · split
    · exact .inr ⟨m, rfl⟩
    · exact .inl rfl
  · exact .inl rfl
theorem twice_l (n : Nt) (k : Int) : (n.twice k).l = n.l ∨ ∃ m', (n.twice k).l = n.l ++ [m'] := by
  unfold Nt.twice
  split
  · exact send_l n _
  · exact .inl rfl
/-- The net that was copied stands, whatever is done to the other one. -/
theorem NetAt.other {B S S2 g mb C mc : Nat} {n0 n : Nt} {w w' : World} (h : NetAt B S C mc none n0 w) (h2 : NetAt B S2 g mb none n w) (T : Turn g mb none w w') (hC : C ≠ g) (hm : mc ≠ mb) : NetAt B S C mc none n0 w' := by
  obtain ⟨v, ts, D, h⟩ := h
  obtain ⟨v2, ts2, D2, h2⟩ := h2
  have hb : ∀ {q : Nat} {t : TypeId} {cs : Array Value}, Blk w q t cs → q ≠ g → Blk w' q t cs := fun hq hne => (T.block _ hq.lt hne (map_ne h2.map hq) (by simp)).trans hq
  refine ⟨v, ts, D, h.keptBy T.size ?_ ?_ (fun q cur _ hq => hb hq (Blk.ne_ hq h2.blk (by decide))) (fun q cur _ hq => hb hq (Blk.ne_ hq h2.blk (by decide)))⟩
  · exact T.block C h.blk.lt hC (map_ne h2.map h.blk) (by simp)
  · exact T.block mc h.map.lt (Ne.symm (map_ne h.map h2.blk)) hm (by simp)
/-- Behind the one step more. -/
def AloneMid (w : World) (g mb C mc : Nat) (n : Nt) (L S6 : Nat) (gone : Int) (wx : World) : Prop := ∃ n2 rs2, AR n n2 gone ∧ n2.Ok (L + 1) ∧ NetAt w.heap.size wx.heap.size g mb rs2 n2 wx ∧ NetAt w.heap.size S6 C mc none n wx ∧ Below w.heap.size w wx
theorem alone_mid {w w6 w7 : World} {g mb C mc L S : Nat} {n n2 : Nt} {gone : Int} (N6 : NetAt w.heap.size S g mb none n w6) (C6 : NetAt w.heap.size w6.heap.size C mc none n w6) (B6 : Below w.heap.size w w6) (hC : C ≠ g) (hm : mc ≠ mb) (T : NetTo w.heap.size g mb none n2 w6 w7) (ar : AR n n2 gone) (ok : n2.Ok (L + 1)) : AloneMid w g mb C mc n L w6.heap.size gone w7 := by
  obtain ⟨rs', N7, T7, _⟩ := T
  exact ⟨n2, rs', ar, ok, N7, C6.other N6 T7 hC hm, T7.below B6 B6.size N6.g1 N6.mb1 N6.rs1⟩
theorem long28_lit {w : World} {G : Nat} {s : Stp} {a : Option Addr} {c : Nat} (hf : SFit s) (hb : Blk w G 36 (s.cells a c)) (hn : Nums .u64 w w.heap.size a s.m.l) :
    Calls Try.prog 15 #[.slice (some ⟨G, 0, none⟩) 1 1] w (Long28 [s] w) :=
  long28_any (some ⟨G, 0, none⟩) 1 [s] w (one_step hb hn) (fun x hx => by
    have : x = s := by simpa using hx
    subst this
    exact hf) (by simp)

set_option maxRecDepth 100000 in
set_option maxHeartbeats 8000000 in
theorem alone_any (most : Int) (a : Option Addr) (c : Nat) (l : List Stp) (s : Stp) (sa : Option Addr) (sc : Nat) (w : World) (hl9 : l.length ≤ 9223372036854775807) (hf : ∀ s ∈ l, SFit s) (hsf : SFit s) (hS : Steps w w.heap.size a l) (hn : Nums .u64 w w.heap.size sa s.m.l) :
    Calls Try.prog 5 #[.int .i64 most, .slice a l.length c, s.val sa sc] w (TruePost w) := by
  have G0 := Blk.new w 36 (s.cells sa sc)
  have B0 : Below w.heap.size w (w.alloc (.cells (s.cells sa sc) 36)) := (Below.refl _ w).alloc (Nat.le_refl _) _
  obtain ⟨W, hW⟩ : ∃ W, W = w.alloc (.cells (s.cells sa sc) 36) := ⟨_, rfl⟩
  rw [← hW] at G0 B0
  unfold Stp.cells at hW
  have HW := Lib.hid hW
  clear hW
  unfold Stp.val
  go_enter Try.func5, Try.ntmps5
  go_wp2_with fail
  rw [← HW.out]
  clear HW
  refine (works28_any W).mono ?_
  rintro e w1 ⟨rfl, b1⟩
  have B1 := step_below B0 b1
  have G1 := G0.kept b1
  clear b1 B0 G0
  go_wp2_with fail
  refine (long28_any a c l w1 (steps_more (hS.kept B1 (Nat.le_refl _)) B1.size) hf hl9).mono ?_
  rintro e w2 ⟨x, rfl, hx, b2⟩
  have B2 := step_below B1 b2
  have G2 := G1.kept b2
  clear b2 B1 G1
  cases x with
  | true =>
    clear hx
    go_wp2_with fail
    refine (works28_any w2).mono ?_
    rintro e w3 ⟨rfl, b3⟩
    go_wp2_with fail
    go_ret
    exact ⟨rfl, step_below B2 b3⟩
  | false =>
    have htot := hx rfl
    clear hx
    obtain ⟨t0, t1, t2, t3, t4, t5, t6, t7, t8, t9, t10, t11, t12⟩ := G2.step
    have G3 := Blk.new w2 36 (s.cells sa sc)
    have B3 : Below w.heap.size w (w2.alloc (.cells (s.cells sa sc) 36)) := B2.alloc B2.size _
    have G4 := G2.alloc (.cells (s.cells sa sc) 36)
    have hn3 := nums_step hn B3
    obtain ⟨w3, hw3⟩ : ∃ w3, w3 = w2.alloc (.cells (s.cells sa sc) 36) := ⟨_, rfl⟩
    rw [← hw3] at G3 B3 G4 hn3
    unfold Stp.cells at hw3
    have HW := Lib.hid hw3
    clear hw3 B2 G2
    go_wp2_with fail
    rw [← HW.out]
    clear HW
    refine (long28_lit hsf G3 hn3).mono ?_
    rintro e w4 ⟨x, rfl, hx, b4⟩
    have B4 := step_below B3 b4
    have G5 := G4.kept b4
    clear b4 B3 G4 G3 hn3 t0 t1 t2 t3 t4 t5 t6 t7 t8 t9 t10 t11 t12
    cases x with
    | true =>
      clear hx
      go_wp2_with fail
      refine (works28_any w4).mono ?_
      rintro e w5 ⟨rfl, b5⟩
      go_wp2_with fail
      go_ret
      exact ⟨rfl, step_below B4 b5⟩
    | false =>
      have htot1 := hx rfl
      clear hx
      go_wp2_with fail
      by_cases hm : 1 ≤ most ∧ most ≤ 4096
      · refine (new_h (w0 := w) hm.1 hm.2 B4).mono ?_
        rintro e w5 ⟨g, mb, rfl, H5, b5⟩
        have G6 := G5.kept b5
        have hll : 30 * l.length ≤ 9000 := by have := tot28_le l; omega
        have HO := Lib.hid (Nt.new_ok hm.1 hm.2)
        clear b5 B4 G5
        go_wp2_with fail
        go_loopw [9] (fun v wr => ∃ (j : Nat) (n : Nt), j ≤ l.length ∧ v = .int .i64 j ∧ n.Ok j ∧ Held (fun _ => False) w.heap.size w g mb n wr ∧ Blk wr w.heap.size 36 (s.cells sa sc)) (fun v _ => l.length - (intOf v).toNat)
        case atStart => exact ⟨0, Nt.new most, Nat.zero_le _, rfl, HO.out, H5, G6⟩
        case round =>
          obtain ⟨j, n, hj, rfl, ok, hh, hG⟩ := hrel
          clear H5 G6
          by_cases hlt : j < l.length
          · obtain ⟨p, hp⟩ : ∃ p, l[j]? = some p := ⟨_, List.getElem?_eq_getElem hlt⟩
            rcases hS.kept hh.below (Nat.le_refl _) with h0 | ⟨b, o, rfl, hb, hc⟩
            · rw [h0] at hlt; simp at hlt
            obtain ⟨la, lc, hnums, u0, u1, u2, u3, u4, u5, u6, u7, u8, u9, u10, u11, u12⟩ := hc j p hp
            have hpf := hf p (List.mem_of_getElem? hp)
            have hjI : (j : Int) < (l.length : Int) := by omega
            have hK : j ≤ 1000000 := by omega
            have HH := Lib.hid (And.intro hh (And.intro ok (And.intro hnums hpf)))
            have hpm := hpf.m.ok
            clear hc hnums hp hpf hh ok
            by_cases k0 : p.kind = 0
            · have e0 : (p.kind == 0) = true := by simpa using k0
              clear k0
              go_wp2_with fail
              refine (send_h (m := p.m) (a := la) (c := lc) HH.out.1 HH.out.2.1 hK hpm (.inr HH.out.2.2.1) rfl rfl).mono ?_
              rintro e w6 ⟨rfl, H6, f6⟩
              have HE := Lib.hid (And.intro H6 f6)
              clear H6 f6
              go_wp2_with fail
              go_roundw
              case rel => exact ⟨j + 1, _, by omega, by go_num, Nt.send_ok HH.out.2.1 hpm, HE.out.1, HE.out.2.blk hG (by decide) (by decide)⟩
              case measure => simp [intOf]; omega
            · have e0 : (p.kind == 0) = false := by simpa using k0
              by_cases k1 : p.kind = 1
              · have e1 : (p.kind == 1) = true := by simpa using k1
                clear k0 k1
                go_wp2_with fail
                refine (give_h (k := p.pl) HH.out.1 HH.out.2.1 hK rfl rfl rfl).mono ?_
                rintro e w6 ⟨ga, gc, rfl, -, H6, f6⟩
                have HE := Lib.hid (And.intro H6 f6)
                clear H6 f6
                go_wp2_with fail
                go_roundw
                case rel => exact ⟨j + 1, _, by omega, by go_num, (Nt.lose_ok HH.out.2.1).more (by omega), HE.out.1, HE.out.2.blk hG (by decide) (by decide)⟩
                case measure => simp [intOf]; omega
              · have e1 : (p.kind == 1) = false := by simpa using k1
                by_cases k2 : p.kind = 2
                · have e2 : (p.kind == 2) = true := by simpa using k2
                  clear k0 k1 k2
                  go_wp2_with fail
                  refine (lose_h (k := p.pl) HH.out.1 HH.out.2.1 hK rfl rfl).mono ?_
                  rintro e w6 ⟨rfl, H6, f6⟩
                  have HE := Lib.hid (And.intro H6 f6)
                  clear H6 f6
                  go_wp2_with fail
                  go_roundw
                  case rel => exact ⟨j + 1, _, by omega, by go_num, (Nt.lose_ok HH.out.2.1).more (by omega), HE.out.1, HE.out.2.blk hG (by decide) (by decide)⟩
                  case measure => simp [intOf]; omega
                · have e2 : (p.kind == 2) = false := by simpa using k2
                  clear k0 k1 k2
                  go_wp2_with fail
                  refine (twice_h (k := p.pl) HH.out.1 HH.out.2.1 hK rfl rfl).mono ?_
                  rintro e w6 ⟨rfl, H6, f6⟩
                  have HE := Lib.hid (And.intro H6 f6)
                  clear H6 f6
                  go_wp2_with fail
                  go_roundw
                  case rel => exact ⟨j + 1, _, by omega, by go_num, Nt.twice_ok HH.out.2.1, HE.out.1, HE.out.2.blk hG (by decide) (by decide)⟩
                  case measure => simp [intOf]; omega
          · have hje : j = l.length := by omega
            subst hje
            obtain ⟨rs, hN, hB, -⟩ := hh
            have hK : l.length ≤ 1000000 := by omega
            have hgl : g < wr.heap.size := by obtain ⟨v, ts, D, h⟩ := hN; exact h.blk.lt
            have hml : mb < wr.heap.size := by obtain ⟨v, ts, D, h⟩ := hN; exact h.map.lt
            have HN := Lib.hid (And.intro hN (And.intro ok hK))
            go_wp2_with fail
            refine (copy_any wr hN ok).mono ?_
            rintro e w6 ⟨C, mc, rfl, N6, C6, hC, hmc, T6⟩
            have G6 := T6.blk hN hG (by decide) (by decide)
            have B6 : Below w.heap.size w w6 := T6.below hB hB.size hN.g1 hN.mb1 hN.rs1
            have n6 := nums_step hn B6
            have hCg : C ≠ g := by omega
            have hmm : mc ≠ mb := by omega
            have HP := Lib.hid (And.intro N6 (And.intro C6 (And.intro B6 (And.intro n6 (And.intro hCg (And.intro hmm (And.intro T6.size (And.intro hgl hml))))))))
            clear hN ok hK hB hG N6 C6 B6 n6 T6 hCg hmm hC hmc hgl hml
            obtain ⟨t0, t1, t2, t3, t4, t5, t6, t7, t8, t9, t10, t11, t12⟩ := G6.step
            go_upto_block 3 with fail
            go_cut [11, 12] from 87 to 118 (fun v f wx => ∃ gone, v = .int .i64 gone ∧ AloneMid w g mb C mc n l.length w6.heap.size gone wx)
            case first =>
              by_cases k0 : s.kind = 0
              · have e0 : (s.kind == 0) = true := by simpa using k0
                clear k0
                go_wp2_with fail
                refine (send_any s.m sa sc w6 HP.out.1 HN.out.2.1 HN.out.2.2 hsf.m.ok (.inr (hn.kept HP.out.2.2.1 (Nat.le_refl _)))).mono ?_
                rintro e w7 ⟨rfl, T7⟩
                have HT := Lib.hid T7
                clear T7
                go_wp2_with fail
                go_meet
                exact ⟨-1, rfl, alone_mid HP.out.1 HP.out.2.1 HP.out.2.2.1 HP.out.2.2.2.2.1 HP.out.2.2.2.2.2.1 HT.out (ar_more (send_l n s.m)) (Nt.send_ok HN.out.2.1 hsf.m.ok)⟩
              · have e0 : (s.kind == 0) = false := by simpa using k0
                by_cases k1 : s.kind = 1
                · have e1 : (s.kind == 1) = true := by simpa using k1
                  clear k0 k1
                  go_wp2_with fail
                  refine (give_any s.pl w6 HP.out.1 HN.out.2.1 HN.out.2.2).mono ?_
                  rintro e w7 ⟨ga, gc, rfl, -, T7⟩
                  have x12 : w7.cell? ⟨w.heap.size, 12, none⟩ = some (.int .i64 s.pl) := (T7.elim fun _ x => x.2.1.blk HP.out.1 G6 (by decide) (by decide)).cell 12
                  have HT := Lib.hid T7
                  clear T7
                  cases hk : n.is s.pl with
                  | true =>
                    have hl : n.lost s.pl = 0 := by simp [Nt.lost, hk]
                    rw [hl]
                    have HK := Lib.hid hk
                    clear hl hk
                    go_wp2_with fail
                    go_meet
                    exact ⟨s.pl, rfl, alone_mid HP.out.1 HP.out.2.1 HP.out.2.2.1 HP.out.2.2.2.2.1 HP.out.2.2.2.2.2.1 HT.out (ar_lose HK.out) ((Nt.lose_ok HN.out.2.1).more (by omega))⟩
                  | false =>
                    have hl : n.lost s.pl = 5 := by simp [Nt.lost, hk]
                    rw [hl]
                    have HK := Lib.hid hk
                    clear hl hk
                    go_wp2_with fail
                    go_meet
                    exact ⟨-1, rfl, alone_mid HP.out.1 HP.out.2.1 HP.out.2.2.1 HP.out.2.2.2.2.1 HP.out.2.2.2.2.2.1 HT.out (ar_stay HK.out) ((Nt.lose_ok HN.out.2.1).more (by omega))⟩
                · have e1 : (s.kind == 1) = false := by simpa using k1
                  by_cases k2 : s.kind = 2
                  · have e2 : (s.kind == 2) = true := by simpa using k2
                    clear k0 k1 k2
                    go_wp2_with fail
                    refine (lose_any s.pl w6 HP.out.1 HN.out.2.1 HN.out.2.2).mono ?_
                    rintro e w7 ⟨rfl, T7⟩
                    have x12 : w7.cell? ⟨w.heap.size, 12, none⟩ = some (.int .i64 s.pl) := (T7.elim fun _ x => x.2.1.blk HP.out.1 G6 (by decide) (by decide)).cell 12
                    have HT := Lib.hid T7
                    clear T7
                    cases hk : n.is s.pl with
                    | true =>
                      have hl : n.lost s.pl = 0 := by simp [Nt.lost, hk]
                      rw [hl]
                      have HK := Lib.hid hk
                      clear hl hk
                      go_wp2_with fail
                      go_meet
                      exact ⟨s.pl, rfl, alone_mid HP.out.1 HP.out.2.1 HP.out.2.2.1 HP.out.2.2.2.2.1 HP.out.2.2.2.2.2.1 HT.out (ar_lose HK.out) ((Nt.lose_ok HN.out.2.1).more (by omega))⟩
                    | false =>
                      have hl : n.lost s.pl = 5 := by simp [Nt.lost, hk]
                      rw [hl]
                      have HK := Lib.hid hk
                      clear hl hk
                      go_wp2_with fail
                      go_meet
                      exact ⟨-1, rfl, alone_mid HP.out.1 HP.out.2.1 HP.out.2.2.1 HP.out.2.2.2.2.1 HP.out.2.2.2.2.2.1 HT.out (ar_stay HK.out) ((Nt.lose_ok HN.out.2.1).more (by omega))⟩
                  · have e2 : (s.kind == 2) = false := by simpa using k2
                    clear k0 k1 k2
                    go_wp2_with fail
                    refine (twice_any s.pl w6 HP.out.1 HN.out.2.1 HN.out.2.2).mono ?_
                    rintro e w7 ⟨rfl, T7⟩
                    have HT := Lib.hid T7
                    clear T7
                    go_wp2_with fail
                    go_meet
                    exact ⟨-1, rfl, alone_mid HP.out.1 HP.out.2.1 HP.out.2.2.1 HP.out.2.2.2.2.1 HP.out.2.2.2.2.2.1 HT.out (ar_more (twice_l n s.pl)) (Nt.twice_ok HN.out.2.1)⟩
            case rest =>
              obtain ⟨gone, rfl, n2, rs2, ar, ok2, N7, C7, B7⟩ := hcut
              have hK2 : l.length + 1 ≤ 1000000 := by omega
              have hL : n.l.length ≤ 4096 := by
                have := HN.out.2.1.len
                have := HN.out.2.1.most2
                omega
              have hL2 : n2.l.length ≤ 4096 := by
                have := ok2.len
                have := ok2.most2
                omega
              have HR := Lib.hid (And.intro ar (And.intro ok2 (And.intro N7 (And.intro C7 B7))))
              have hg1 := ar.low
              have hg2 := ar.high
              clear ar ok2 N7 C7 B7 HP G6 t0 t1 t2 t3 t4 t5 t6 t7 t8 t9 t10 t11 t12 hsf
              go_wp2_with fail
              go_loopw [13, 14] (fun p v wr => ∃ k : Nat, k ≤ n.l.length ∧ v = .int .i64 k ∧ p = .int .i64 (plc k gone) ∧ Below wc.heap.size wc wr) (fun _ v _ => n.l.length - (intOf v).toNat)
              case atStart => exact ⟨0, Nat.zero_le _, rfl, by rw [plc_0]; rfl, Below.refl _ _⟩
              case round =>
                obtain ⟨k, hk, rfl, rfl, hB⟩ := hrel
                have HL := Lib.hid (len_any wr (HR.out.2.2.2.1.kept hB) HN.out.2.1)
                have hpk : plc k gone ≤ k := plc_low k gone
                go_wp2_with fail
                refine (Calls.mono HL.out ?_)
                rintro e w8 ⟨rfl, rfl⟩
                clear HL
                by_cases hlt : k < n.l.length
                · have hkI : (k : Int) < (n.l.length : Int) := by omega
                  by_cases hkg : (k : Int) = gone
                  · have hb : ((k : Int) == gone) = true := by simpa using hkg
                    have HP1 := Lib.hid (plc_eq hkg)
                    clear hkg
                    go_wp2_with fail
                    go_roundw
                    case rel => exact ⟨k + 1, by omega, by go_num, by rw [HP1.out], hB⟩
                    case measure => simp [intOf]; omega
                  · have hb : ((k : Int) == gone) = false := by simpa using hkg
                    have HP1 := Lib.hid (plc_ne hkg)
                    obtain ⟨m, hm⟩ : ∃ m, n.l[k]? = some m := ⟨_, List.getElem?_eq_getElem hlt⟩
                    have hm2 : n2.l[plc k gone]? = some m := (HR.out.1.get k hlt hkg).trans hm
                    obtain ⟨q1, q2⟩ := nt_at hm
                    obtain ⟨q3, q4⟩ := nt_at hm2
                    have hml : m.l.length ≤ 9223372036854775807 := by
                      have := (Mg.may_len (HN.out.2.1.ok m (List.mem_of_getElem? hm)).2).2
                      omega
                    have HA := Lib.hid (at_e (HR.out.2.2.2.1.kept hB) HN.out.2.1 HN.out.2.2 q2 q1)
                    have HQ := Lib.hid (And.intro q3 q4)
                    clear hkg hm hm2 q1 q2 q3 q4
                    go_wp2_with fail
                    refine (Calls.mono HA.out ?_)
                    rintro e v5 ⟨a5, c5, rfl, own5, b5⟩
                    have B5 := boxed_below (step_below hB b5) (step_below hB b5).size m a5 c5
                    have K5 := boxed_blk v5 m a5 c5
                    have L5 := boxed_nums (own_nums own5) m a5 c5
                    obtain ⟨w5', hw5⟩ : ∃ w5', w5' = boxed v5 m a5 c5 := ⟨_, rfl⟩
                    rw [← hw5] at B5 K5 L5
                    unfold boxed at hw5
                    have HW := Lib.hid hw5
                    clear hw5 hB b5 own5 HA
                    go_wp2_with fail
                    rw [← HW.out]
                    clear HW
                    generalize v5.heap.size = G5 at *
                    refine (at_e (HR.out.2.2.1.kept B5) HR.out.2.1 hK2 HQ.out.2 HQ.out.1).mono ?_
                    rintro e v6 ⟨a6, c6, rfl, own6, b6⟩
                    have B6 := boxed_below (step_below B5 b6) (step_below B5 b6).size m a6 c6
                    have K6 := boxed_kept (K5.kept b6) m a6 c6
                    have M6 := boxed_blk v6 m a6 c6
                    have L6 := boxed_nums (nums_step L5 b6) m a6 c6
                    have N6 := boxed_nums (own_nums own6) m a6 c6
                    obtain ⟨w6', hw6⟩ : ∃ w6', w6' = boxed v6 m a6 c6 := ⟨_, rfl⟩
                    rw [← hw6] at B6 K6 M6 L6 N6
                    unfold boxed at hw6
                    have HW := Lib.hid hw6
                    clear hw6 B5 K5 L5 b6 own6
                    go_upto_region 38 with fail
                    rw [← HW.out]
                    clear HW
                    generalize v6.heap.size = G7 at *
                    obtain ⟨f0, f1, f2, f3, f4, f5, f6, f7, f8, f9, f10⟩ := K6.msg
                    obtain ⟨g0, g1, g2, g3, g4, g5, g6, g7, g8, g9, g10⟩ := M6.msg
                    go_wp2_with fail
                    refine (rsame_agg m m a5 a6 c5 c6 w6' L6 N6 hml true (same_refl _)).mono ?_
                    rintro e w7' ⟨rfl, b7⟩
                    have B7 := step_below B6 b7
                    clear f0 f1 f2 f3 f4 f5 f6 f7 f8 f9 f10 g0 g1 g2 g3 g4 g5 g6 g7 g8 g9 g10 B6 K6 M6 L6 N6 b7
                    go_wp2_with fail
                    go_roundw
                    case rel => exact ⟨k + 1, by omega, by go_num, by rw [HP1.out]; go_num, B7⟩
                    case measure => simp [intOf]; omega
                · have hke : k = n.l.length := by omega
                  subst hke
                  have hd : decide ((n2.l.length : Int) - (plc n.l.length gone : Int) ≤ 1) = true := decide_eq_true HR.out.1.len
                  have h1 : (0 : Int) ≤ (plc n.l.length gone : Int) := by omega
                  have h2 : (plc n.l.length gone : Int) ≤ 4096 := by omega
                  have HL := Lib.hid (len_any wr (HR.out.2.2.1.kept hB) HR.out.2.1)
                  go_wp2_with fail
                  refine (Calls.mono HL.out ?_)
                  rintro e w8 ⟨rfl, rfl⟩
                  go_wp2_with fail
                  go_ret
                  exact ⟨rfl, HR.out.2.2.2.2.trans (hB.mono HR.out.2.2.2.2.size)⟩
      · have HM := Lib.hid (show most < 1 ∨ 4096 < most by omega)
        clear hm
        refine (new_no most w4 HM.out).mono ?_
        rintro e w5 ⟨rfl, rfl⟩
        go_wp2_with fail
        go_ret
        exact ⟨rfl, B4⟩
end Go.Proofs.Ytbibbndjnlnbiaa
