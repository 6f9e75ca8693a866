/-
  Steps that came in: a kind, a message, a place; consistorylaw28.long.
-/
import Derived.Test.YtbibbndjnlnbiaaLift
import Derived.Test.YtbibbndjnlnbiaaMsgRow
namespace Go.Proofs.Ytbibbndjnlnbiaa
open Go.ChangeShapes Go.WideShapes Go.ChangeAt Go.RowKit Go.Deep

structure Stp where
  kind : Int
  m : Mg
  pl : Int
structure SFit (s : Stp) : Prop where
  kind : Byte s.kind
  m : MFit s.m
  pl : I64 s.pl
/-- A step's cells, from place o of block b on. -/
def StAt (w : World) (B b o : Nat) (s : Stp) : Prop :=
  ∃ a c, Nums .u64 w B a s.m.l ∧ w.cell? ⟨b, o, none⟩ = some (.int .u8 s.kind) ∧ w.cell? ⟨b, o + 1, none⟩ = some (.int .u8 s.m.k) ∧ w.cell? ⟨b, o + 2, none⟩ = some (.int .i64 s.m.fr) ∧ w.cell? ⟨b, o + 3, none⟩ = some (.int .i64 s.m.to) ∧ w.cell? ⟨b, o + 4, none⟩ = some (.int .i64 s.m.ht) ∧ w.cell? ⟨b, o + 5, none⟩ = some (.int .i64 s.m.rd) ∧ w.cell? ⟨b, o + 6, none⟩ = some (.int .i64 s.m.vl) ∧ w.cell? ⟨b, o + 7, none⟩ = some (.int .i64 s.m.ep) ∧ w.cell? ⟨b, o + 8, none⟩ = some (.int .i64 s.m.dl) ∧ w.cell? ⟨b, o + 9, none⟩ = some (.int .i64 s.m.id) ∧ w.cell? ⟨b, o + 10, none⟩ = some (.string ⟨s.m.s.toArray⟩) ∧ w.cell? ⟨b, o + 11, none⟩ = some (.slice a s.m.l.length c) ∧ w.cell? ⟨b, o + 12, none⟩ = some (.int .i64 s.pl)
def Steps (w : World) (B : Nat) (a : Option Addr) (l : List Stp) : Prop :=
  l = [] ∨ ∃ b o, a = some ⟨b, o, none⟩ ∧ b < B ∧ ∀ i s, l[i]? = some s → StAt w B b (o + i * 13) s
theorem StAt.kept {w w' : World} {B C b o : Nat} {s : Stp} (h : StAt w B b o s) (hb : b < B) (k : Below C w w') (hC : B ≤ C) : StAt w' B b o s := by
  obtain ⟨a, c, hn, h0, h1, h2, h3, h4, h5, h6, h7, h8, h9, h10, h11, h12⟩ := h
  have e : ∀ i, w'.cell? ⟨b, i, none⟩ = w.cell? ⟨b, i, none⟩ := fun i => k.cell (p := ⟨b, i, none⟩) (by show b < C; omega)
  exact ⟨a, c, hn.kept k hC, by rw [e]; exact h0, by rw [e]; exact h1, by rw [e]; exact h2, by rw [e]; exact h3, by rw [e]; exact h4, by rw [e]; exact h5, by rw [e]; exact h6, by rw [e]; exact h7, by rw [e]; exact h8, by rw [e]; exact h9, by rw [e]; exact h10, by rw [e]; exact h11, by rw [e]; exact h12⟩
theorem Steps.kept {w w' : World} {B C : Nat} {a : Option Addr} {l : List Stp} (h : Steps w B a l) (k : Below C w w') (hC : B ≤ C) : Steps w' B a l := by
  rcases h with h | ⟨b, o, rfl, hb, h⟩
  · exact .inl h
  · exact .inr ⟨b, o, rfl, hb, fun i s hs => (h i s hs).kept hb k hC⟩

theorem cells_step : Try.prog.cellsOf 36 = 13 := by kernel_rfl
theorem cells_u8 : Try.prog.cellsOf 5 = 1 := by kernel_rfl
theorem cells_int : Try.prog.cellsOf 3 = 1 := by kernel_rfl

section
variable {H : Type} {enc : TypeId × Value → H} {w : World}
theorem rd_field {fs : Array Field} (step_struct : Try.prog.underlying 36 = some (.struct fs)) {cs : List Value} {y : DataW H} {n : Nat} {ps : List MemPlace} (h : DataW.trod enc Try.prog w 0 (fun _ => true) true n 36 cs = some (y, ps)) (hf : Fits 36 y) {j : Nat} {t : TypeId} {off : Nat} (hj : (fs[j]?).map (fun f => (f.type, f.offset)) = some (t, off)) :
    ∃ d m qs, DataW.trod enc Try.prog w 0 (fun _ => true) true m t ((cs.drop off).take (Try.prog.cellsOf t)) = some (d, qs) ∧ Fits t d := by
  obtain ⟨xs, m, _, hx, hcl, hlen, hg⟩ := DataW.trod_struct step_struct h
  cases hfj : fs[j]? with
  | none => rw [hfj] at hj; simp at hj
  | some f =>
    rw [hfj] at hj
    simp only [Option.map_some, Option.some.injEq, Prod.mk.injEq] at hj
    obtain ⟨e1, e2⟩ := hj
    subst e1 e2
    have hgj := hg j f hfj
    have hjl : j < xs.length := by rw [hlen]; exact (Array.getElem?_eq_some_iff.1 hfj).1
    rw [List.getElem?_eq_getElem hjl] at hgj
    injection hx with hx _
    subst hx
    exact ⟨xs[j].1, m, xs[j].2, hgj, fits_part step_struct hf hfj (by simp [hjl])⟩
theorem rd_step {cs : List Value} {y : DataW H} {n : Nat} {ps : List MemPlace} (hl : cs.length = 13) (h : DataW.trod enc Try.prog w 0 (fun _ => true) true n 36 cs = some (y, ps)) (hf : Fits 36 y) :
    ∃ s a c, cs = [.int .u8 (Stp.kind s), .int .u8 s.m.k, .int .i64 s.m.fr, .int .i64 s.m.to, .int .i64 s.m.ht, .int .i64 s.m.rd, .int .i64 s.m.vl, .int .i64 s.m.ep, .int .i64 s.m.dl, .int .i64 s.m.id, .string ⟨s.m.s.toArray⟩, .slice a s.m.l.length c, .int .i64 s.pl] ∧ SFit s ∧ Nums .u64 w w.heap.size a s.m.l := by
  obtain ⟨v0, v1, v2, v3, v4, v5, v6, v7, v8, v9, v10, v11, v12, rfl⟩ : ∃ v0 v1 v2 v3 v4 v5 v6 v7 v8 v9 v10 v11 v12, cs = [v0, v1, v2, v3, v4, v5, v6, v7, v8, v9, v10, v11, v12] := by
    match cs, hl with
    | [v0, v1, v2, v3, v4, v5, v6, v7, v8, v9, v10, v11, v12], _ => exact ⟨_, _, _, _, _, _, _, _, _, _, _, _, _, rfl⟩
  obtain ⟨d0, m0, q0, r0, f0⟩ := rd_field Try.underlying36 h hf (j := 0) (t := 5) (off := 0) (by kernel_rfl)
  obtain ⟨d1, m1, q1, r1, f1⟩ := rd_field Try.underlying36 h hf (j := 1) (t := 32) (off := 1) (by kernel_rfl)
  obtain ⟨d2, m2, q2, r2, f2⟩ := rd_field Try.underlying36 h hf (j := 2) (t := 3) (off := 12) (by kernel_rfl)
  rw [cells_u8] at r0
  rw [cells_msg] at r1
  rw [cells_int] at r2
  obtain ⟨k, rfl, hk⟩ := rd_int (w := w) (v := v0) Try.underlying5 ⟨m0, q0, r0⟩
  obtain ⟨p, rfl, hp⟩ := rd_int (w := w) (v := v12) Try.underlying3 ⟨m2, q2, r2⟩
  obtain ⟨m, a, c, e, hm, hn⟩ := rd_msg (cs := [v1, v2, v3, v4, v5, v6, v7, v8, v9, v10, v11]) r1 f1
  refine ⟨⟨k, m, p⟩, a, c, ?_, ⟨wf_u8 hk, hm, wf_i64 hp⟩, hn⟩
  simp only [List.cons.injEq, and_true] at e
  obtain ⟨rfl, rfl, rfl, rfl, rfl, rfl, rfl, rfl, rfl, rfl, rfl⟩ := e
  rfl

theorem rd_step0 {cs : List Value} {y : DataW H} {n : Nat} {ps : List MemPlace} (h : DataW.trod enc Try.prog w 0 (fun _ => true) true n 36 cs = some (y, ps)) (hf : Fits 36 y) :
    ∃ s a c, cs = [.int .u8 (Stp.kind s), .int .u8 s.m.k, .int .i64 s.m.fr, .int .i64 s.m.to, .int .i64 s.m.ht, .int .i64 s.m.rd, .int .i64 s.m.vl, .int .i64 s.m.ep, .int .i64 s.m.dl, .int .i64 s.m.id, .string ⟨s.m.s.toArray⟩, .slice a s.m.l.length c, .int .i64 s.pl] ∧ SFit s ∧ Nums .u64 w w.heap.size a s.m.l := by
  obtain ⟨_, _, _, _, hcl, _⟩ := DataW.trod_struct Try.underlying36 h
  rw [cells_step] at hcl
  exact rd_step hcl h hf

/-- A slice of steps that came in. -/
theorem rd_steps {v : Value} {y : DataW H} (h : Rd enc w 22 v y) (hf : Fits 22 y) :
    ∃ a c l, v = .slice a (l : List Stp).length c ∧ l.length ≤ 9223372036854775807 ∧ (∀ s ∈ l, SFit s) ∧ Steps w w.heap.size a l := by
  obtain ⟨a, n, c, rfl, hn, _, h0 | ⟨x, rfl, hx⟩⟩ := rd_slice Try.underlying22 h hf
  · subst h0
    exact ⟨a, c, [], rfl, by simp, by simp, .inl rfl⟩
  · rw [cells_step] at hx
    have hx' : ∀ i, i < n → ∃ s : Stp, SFit s ∧ (∃ a c, Nums .u64 w w.heap.size a s.m.l ∧ w.cell? (x.add (i * 13 + 0)) = some (.int .u8 s.kind) ∧ w.cell? (x.add (i * 13 + 1)) = some (.int .u8 s.m.k) ∧ w.cell? (x.add (i * 13 + 2)) = some (.int .i64 s.m.fr) ∧ w.cell? (x.add (i * 13 + 3)) = some (.int .i64 s.m.to) ∧ w.cell? (x.add (i * 13 + 4)) = some (.int .i64 s.m.ht) ∧ w.cell? (x.add (i * 13 + 5)) = some (.int .i64 s.m.rd) ∧ w.cell? (x.add (i * 13 + 6)) = some (.int .i64 s.m.vl) ∧ w.cell? (x.add (i * 13 + 7)) = some (.int .i64 s.m.ep) ∧ w.cell? (x.add (i * 13 + 8)) = some (.int .i64 s.m.dl) ∧ w.cell? (x.add (i * 13 + 9)) = some (.int .i64 s.m.id) ∧ w.cell? (x.add (i * 13 + 10)) = some (.string ⟨s.m.s.toArray⟩) ∧ w.cell? (x.add (i * 13 + 11)) = some (.slice a s.m.l.length c) ∧ w.cell? (x.add (i * 13 + 12)) = some (.int .i64 s.pl)) := by
      intro i hi
      obtain ⟨cs, d, m, ps, hl, hc, ht, hfd⟩ := hx i hi
      obtain ⟨s, a, c, rfl, hfit, hnums⟩ := rd_step hl ht hfd
      exact ⟨s, hfit, a, c, hnums, hc 0 (by simp), hc 1 (by simp), hc 2 (by simp), hc 3 (by simp), hc 4 (by simp), hc 5 (by simp), hc 6 (by simp), hc 7 (by simp), hc 8 (by simp), hc 9 (by simp), hc 10 (by simp), hc 11 (by simp), hc 12 (by simp)⟩
    obtain ⟨l, hl, ht⟩ := list_of n hx'
    subst hl
    refine ⟨some x, c, l, rfl, hn, fun s hm => ?_, ?_⟩
    · obtain ⟨i, hi⟩ := List.getElem?_of_mem hm
      exact (ht i s hi).1
    · by_cases h0 : l = []
      · exact .inl h0
      obtain ⟨b, off, spot⟩ := x
      have h0' : l[0]? = some (l[0]'(List.length_pos_iff.2 h0)) := List.getElem?_eq_getElem _
      obtain ⟨_, a, c, _, c0, _⟩ := ht 0 _ h0'
      have hspot : spot = none := by simpa [Addr.add] using World.cell?_spot c0
      subst hspot
      have hb := World.block_lt_of_cell? w _ c0
      refine .inr ⟨b, off, rfl, by simpa [Addr.add] using hb, fun i s hi => ?_⟩
      obtain ⟨_, a, c, hn, h0, h1, h2, h3, h4, h5, h6, h7, h8, h9, h10, h11, h12⟩ := ht i s hi
      rw [Addr.add_lit] at h0 h1 h2 h3 h4 h5 h6 h7 h8 h9 h10 h11 h12
      exact ⟨a, c, hn, h0, h1, h2, h3, h4, h5, h6, h7, h8, h9, h10, h11, h12⟩
end

/-- What consistorylaw28.long counts. -/
def tot28 : List Stp → Nat
  | [] => 0
  | s :: l => 30 + s.m.s.length + s.m.l.length + tot28 l
theorem tot28_append : ∀ a b : List Stp, tot28 (a ++ b) = tot28 a + tot28 b
  | [], _ => by simp [tot28]
  | t :: a, b => by simp [tot28, tot28_append a b]; omega
theorem tot28_le : ∀ l : List Stp, 30 * l.length ≤ tot28 l
  | [] => by simp [tot28]
  | t :: l => by
    have := tot28_le l
    simp [tot28]
    omega
theorem tot28_mem : ∀ {l : List Stp} {s : Stp}, s ∈ l → s.m.l.length ≤ tot28 l
  | t :: l, s, h => by
    rcases List.mem_cons.1 h with rfl | h
    · simp [tot28]; omega
    · have := tot28_mem h
      simp [tot28]
      omega
def Long28 (l : List Stp) (w : World) (e : Ending) (w' : World) : Prop := ∃ x, e = .returned (.bool x) ∧ (x = false → tot28 l < 9000) ∧ Below w.heap.size w w'
set_option maxRecDepth 100000 in
set_option maxHeartbeats 1000000 in
theorem long28_any (a : Option Addr) (c : Nat) (l : List Stp) (w : World) (h : Steps w w.heap.size a l) (hf : ∀ s ∈ l, SFit s) (hl : l.length ≤ 9223372036854775807) :
    Calls Try.prog 15 #[.slice a l.length c] w (Long28 l w) := by
  go_enter Try.func15, Try.ntmps15
  go_wp2_with fail
  go_loopw [3, 4] (fun u v wr => ∃ j n : Nat, j ≤ l.length ∧ v = .int .i64 j ∧ u = .int .i64 n ∧ n = tot28 (l.take j) ∧ n ≤ 281474976710656 ∧ Below w.heap.size w wr) (fun _ v _ => l.length - (intOf v).toNat)
  case atStart =>
    exact ⟨0, 0, Nat.zero_le _, rfl, rfl, by simp [tot28], by omega, Below.refl _ _⟩
  case round =>
    obtain ⟨j, n, hj, rfl, rfl, hn, hle, hB⟩ := hrel
    have HN := Lib.hid hn
    clear hn
    by_cases hlt : j < l.length
    · by_cases h9 : n < 9000
      · obtain ⟨s, htj⟩ : ∃ s, l[j]? = some s := ⟨_, List.getElem?_eq_getElem hlt⟩
        obtain ⟨_, ⟨_, hts, htl⟩, _⟩ := hf s (List.mem_of_getElem? htj)
        rcases h.kept hB (Nat.le_refl _) with h0 | ⟨b, o, rfl, hbl, hc⟩
        · rw [h0] at hlt; simp at hlt
        obtain ⟨la, lc, hnums, h0, h1, h2, h3, h4, h5, h6, h7, h8, h9, h10, h11, h12⟩ := hc j s htj
        have HX := Lib.hid htj
        clear htj hc h0 h1 h2 h3 h4 h5 h6 h7 h8 h9 h12
        go_wp2_with fail
        go_quiet (fail)
        go_wp2_with fail
        go_roundw
        case rel =>
          refine ⟨j + 1, n + 30 + s.m.s.length + s.m.l.length, by omega, by go_num, by go_num, ?_, by omega, below_drewN hB _⟩
          rw [List.take_add_one, HX.out, tot28_append, ← HN.out]
          simp [tot28]
          omega
        case measure => simp [intOf]; omega
      · have h9' : decide (n < 9000) = false := by simpa using h9
        go_wp2_with fail
        go_ret
        exact ⟨true, rfl, by simp, hB⟩
    · have hje : j = l.length := by omega
      subst hje
      go_wp2_with fail
      go_ret
      refine ⟨decide (9000 ≤ n), by go_num, fun hx => ?_, hB⟩
      have hN := HN.out
      rw [List.take_length] at hN
      have := of_decide_eq_false hx
      omega
end Go.Proofs.Ytbibbndjnlnbiaa
