/-
  Things that lie in a row of memory; consistorylaw09.long.
-/
import Derived.Test.YtdnkijljpmcejaaOpen
namespace Go.Proofs.Ytdnkijljpmcejaa
open Go.ChangeShapes Go.WideShapes Go.ChangeAt Go.RowKit Go.Deep

/-- A thing's cells, from place o of block b on. -/
def ThAt (w : World) (B b o : Nat) (t : Th) : Prop :=
  ∃ a c, Nums .u64 w B a t.l ∧ w.cell? ⟨b, o, none⟩ = some (.int .u8 t.k) ∧ w.cell? ⟨b, o + 1, none⟩ = some (.int .u64 t.n) ∧ w.cell? ⟨b, o + 2, none⟩ = some (.string ⟨t.s.toArray⟩) ∧
    w.cell? ⟨b, o + 3, none⟩ = some (.slice a t.l.length c) ∧ w.cell? ⟨b, o + 4, none⟩ = some (.int .i64 t.most)
def Things (w : World) (B : Nat) (a : Option Addr) (ts : List Th) : Prop :=
  ts = [] ∨ ∃ b o, a = some ⟨b, o, none⟩ ∧ b < B ∧ ∀ i t, ts[i]? = some t → ThAt w B b (o + i * 5) t
theorem ThAt.kept {w w' : World} {B C b o : Nat} {t : Th} (h : ThAt w B b o t) (hb : b < B) (k : Below C w w') (hC : B ≤ C) : ThAt w' B b o t := by
  obtain ⟨a, c, hn, h0, h1, h2, h3, h4⟩ := h
  have e : ∀ i, w'.cell? ⟨b, i, none⟩ = w.cell? ⟨b, i, none⟩ := fun i => k.cell (p := ⟨b, i, none⟩) (by show b < C; omega)
  exact ⟨a, c, hn.kept k hC, by rw [e]; exact h0, by rw [e]; exact h1, by rw [e]; exact h2, by rw [e]; exact h3, by rw [e]; exact h4⟩
theorem Things.kept {w w' : World} {B C : Nat} {a : Option Addr} {ts : List Th} (h : Things w B a ts) (k : Below C w w') (hC : B ≤ C) : Things w' B a ts := by
  rcases h with h | ⟨b, o, rfl, hb, h⟩
  · exact .inl h
  · exact .inr ⟨b, o, rfl, hb, fun i t ht => (h i t ht).kept hb k hC⟩

/-- What of them a walk needs: what they hold; how long their texts and lists are. -/
structure Fit (t : Th) : Prop where
  ok : t.Ok
  s : t.s.length ≤ 140737488351232
  l : t.l.length ≤ 17592186043904

theorem cells_th : Try.prog.cellsOf 34 = 5 := by kernel_rfl
theorem bytes_th : Try.prog.bytesOf 22 = 8 := by kernel_rfl
theorem one_th {fs : Array Field} (h : Try.prog.underlying 34 = some (.struct fs)) : oneCellFields Try.prog fs = true := by
  rw [Try.underlying34] at h
  injection h with h
  injection h with h
  subst h
  kernel_rfl

section
variable {H : Type} {enc : TypeId × Value → H} {w : World}
/-- The cells of a thing that came in. -/
theorem rd_thing {cs : List Value} {y : DataW H} {n : Nat} {ps : List MemPlace} (h : DataW.trod enc Try.prog w 0 (fun _ => true) true n 34 cs = some (y, ps)) (hf : Fits 34 y) :
    ∃ t a c, cs = [.int .u8 (Th.k t), .int .u64 t.n, .string ⟨t.s.toArray⟩, .slice a t.l.length c, .int .i64 t.most] ∧ Fit t ∧ Nums .u64 w w.heap.size a t.l := by
  obtain ⟨hl, hg⟩ := rd_struct Try.underlying34 (one_th Try.underlying34) h hf
  rw [cells_th] at hl
  obtain ⟨v0, v1, v2, v3, v4, rfl⟩ : ∃ v0 v1 v2 v3 v4, cs = [v0, v1, v2, v3, v4] := by
    match cs, hl with
    | [v0, v1, v2, v3, v4], _ => exact ⟨_, _, _, _, _, rfl⟩
  obtain ⟨d0, r0, _⟩ := hg 0 _ v0 rfl rfl
  obtain ⟨d1, r1, _⟩ := hg 1 _ v1 rfl rfl
  obtain ⟨d2, r2, f2⟩ := hg 2 _ v2 rfl rfl
  obtain ⟨d3, r3, f3⟩ := hg 3 _ v3 rfl rfl
  obtain ⟨d4, r4, _⟩ := hg 4 _ v4 rfl rfl
  obtain ⟨k, rfl, hk⟩ := rd_int Try.underlying5 r0
  obtain ⟨m, rfl, hm⟩ := rd_int Try.underlying22 r1
  obtain ⟨s, rfl, hs⟩ := rd_str Try.underlying9 r2 f2
  obtain ⟨a, c, xs, rfl, hn, hw, hx⟩ := rd_nums Try.underlying23 Try.underlying22 (by kernel_rfl) r3 f3
  obtain ⟨q, rfl, hq⟩ := rd_int Try.underlying3 r4
  rw [bytes_th] at hx
  exact ⟨⟨k, m, s, xs, q⟩, a, c, rfl, ⟨⟨wf_u8 hk, wf_u64 hm, fun x h => wf_u64 (hw x h), wf_i64 hq⟩, hs, by dsimp only; omega⟩, hn⟩

/-- A slice of things that came in. -/
theorem rd_things {v : Value} {y : DataW H} (h : Rd enc w 36 v y) (hf : Fits 36 y) :
    ∃ a c ts, v = .slice a (ts : List Th).length c ∧ ts.length ≤ 9223372036854775807 ∧ (∀ t ∈ ts, Fit t) ∧ Things w w.heap.size a ts := by
  obtain ⟨a, n, c, rfl, hn, _, h0 | ⟨x, rfl, hx⟩⟩ := rd_slice Try.underlying36 h hf
  · subst h0
    exact ⟨a, c, [], rfl, by simp, by simp, .inl rfl⟩
  · rw [cells_th] at hx
    have hx' : ∀ i, i < n → ∃ t : Th, Fit t ∧ (∃ a c, Nums .u64 w w.heap.size a t.l ∧ w.cell? (x.add (i * 5 + 0)) = some (.int .u8 t.k) ∧ w.cell? (x.add (i * 5 + 1)) = some (.int .u64 t.n) ∧ w.cell? (x.add (i * 5 + 2)) = some (.string ⟨t.s.toArray⟩) ∧
        w.cell? (x.add (i * 5 + 3)) = some (.slice a t.l.length c) ∧ w.cell? (x.add (i * 5 + 4)) = some (.int .i64 t.most)) := by
      intro i hi
      obtain ⟨cs, d, m, ps, hl, hc, ht, hfd⟩ := hx i hi
      obtain ⟨t, a, c, rfl, hfit, hnums⟩ := rd_thing ht hfd
      exact ⟨t, hfit, a, c, hnums, hc 0 (by simp), hc 1 (by simp), hc 2 (by simp), hc 3 (by simp), hc 4 (by simp)⟩
    obtain ⟨ts, hl, ht⟩ := list_of n hx'
    subst hl
    refine ⟨some x, c, ts, rfl, hn, fun t hm => ?_, ?_⟩
    · obtain ⟨i, hi⟩ := List.getElem?_of_mem hm
      exact (ht i t hi).1
    · by_cases h0 : ts = []
      · exact .inl h0
      obtain ⟨b, off, spot⟩ := x
      have h0' : ts[0]? = some (ts[0]'(List.length_pos_iff.2 h0)) := List.getElem?_eq_getElem _
      obtain ⟨_, a, c, _, c0, _⟩ := ht 0 _ h0'
      have hspot : spot = none := by simpa [Addr.add] using World.cell?_spot c0
      subst hspot
      have hb := World.block_lt_of_cell? w _ c0
      refine .inr ⟨b, off, rfl, by simpa [Addr.add] using hb, fun i t hi => ?_⟩
      obtain ⟨_, a, c, hn, c0, c1, c2, c3, c4⟩ := ht i t hi
      rw [Addr.add_lit] at c0 c1 c2 c3 c4
      exact ⟨a, c, hn, c0, c1, c2, c3, c4⟩
end

/-- What consistorylaw09.long counts. -/
def tot : List Th → Nat
  | [] => 0
  | t :: ts => 20 + t.s.length + 4 * t.l.length + tot ts
theorem tot_append : ∀ a b : List Th, tot (a ++ b) = tot a + tot b
  | [], _ => by simp [tot]
  | t :: a, b => by simp [tot, tot_append a b]; omega

def LongPost (ts : List Th) (w : World) (e : Ending) (w' : World) : Prop := ∃ x, e = .returned (.bool x) ∧ (x = false → tot ts < 9000) ∧ Below w.heap.size w w'

set_option maxRecDepth 100000 in
set_option maxHeartbeats 400000 in
theorem long_any (a : Option Addr) (c : Nat) (ts : List Th) (w : World) (h : Things w w.heap.size a ts) (hf : ∀ t ∈ ts, Fit t) (hl : ts.length ≤ 9223372036854775807) :
    Calls Try.prog 25 #[.slice a ts.length c] w (LongPost ts w) := by
  go_enter Try.func25, Try.ntmps25
  go_wp2_with fail
  go_loopw [3, 4] (fun u v wr => ∃ j n : Nat, j ≤ ts.length ∧ v = .int .i64 j ∧ u = .int .i64 n ∧ n = tot (ts.take j) ∧ n ≤ 211106232545848 ∧ Below w.heap.size w wr) (fun _ v _ => ts.length - (intOf v).toNat)
  case atStart =>
    exact ⟨0, 0, Nat.zero_le _, rfl, rfl, by simp [tot], by omega, Below.refl _ _⟩
  case round =>
    obtain ⟨j, n, hj, rfl, rfl, hn, hle, hB⟩ := hrel
    have HN := Lib.hid hn
    clear hn
    by_cases hlt : j < ts.length
    · by_cases h9 : n < 9000
      · obtain ⟨t, htj⟩ : ∃ t, ts[j]? = some t := ⟨_, List.getElem?_eq_getElem hlt⟩
        obtain ⟨_, hts, htl⟩ := hf t (List.mem_of_getElem? htj)
        rcases h.kept hB (Nat.le_refl _) with h0 | ⟨b, o, rfl, hbl, hc⟩
        · rw [h0] at hlt; simp at hlt
        obtain ⟨la, lc, hnums, c0, c1, c2, c3, c4⟩ := hc j t htj
        have HX := Lib.hid htj
        clear htj hc
        go_wp2_with fail
        go_quiet (fail)
        go_wp2_with fail
        go_roundw
        case rel =>
          refine ⟨j + 1, n + 20 + t.s.length + 4 * t.l.length, by omega, by go_num, by go_num, ?_, by omega, below_drewN hB _⟩
          rw [List.take_add_one, HX.out, tot_append, ← HN.out]
          simp [tot]
          omega
        case measure => simp [intOf]; omega
      · have h9' : decide (n < 9000) = false := by simpa using h9
        go_wp2_with fail
        go_ret
        exact ⟨true, rfl, by simp, hB⟩
    · have hje : j = ts.length := by omega
      subst hje
      go_wp2_with fail
      go_ret
      refine ⟨decide (9000 ≤ n), by go_num, fun hx => ?_, hB⟩
      have hN := HN.out
      rw [List.take_length] at hN
      have := of_decide_eq_false hx
      omega
end Go.Proofs.Ytdnkijljpmcejaa
