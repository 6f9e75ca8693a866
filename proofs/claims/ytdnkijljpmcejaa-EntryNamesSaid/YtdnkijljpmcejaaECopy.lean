/-
  entry.Copy: the same entry in new memory.
-/
import Derived.Test.YtdnkijljpmcejaaEEach2
namespace Go.Proofs.Ytdnkijljpmcejaa
open Go.RowKit

/-- In its first region. -/
structure KG (w0 : World) (e : En) (p : Ad) (L : Nat → Bool) (w : World) : Prop where
  box : ∃ v3 v5, Blk w w0.heap.size 55 #[.int .u8 e.k, .int .i64 e.id, .int .i64 e.ep, v3, .slice p.a2 e.coms.length p.c2, v5, .slice p.a4 e.deals.length p.c4] ∧ (L 7 = false → v3 = .slice p.a1 e.x.length p.c1) ∧ (L 9 = false → v5 = .slice p.a3 e.next.length p.c3)
  res : Blk w (w0.heap.size + 1) 55 zero7
  bel : Below w0.heap.size w0 w
  n : NEn w w0.heap.size e p
  c7 : L 7 = true → L 1 = true ∧ L 4 = true
  c9 : L 9 = true → L 7 = true
def KT (G lo : Nat) (e : En) (p : Ad) (i : Nat) (v : Value) (w : World) : Prop :=
  match i with
  | 0 => v = .pointer (some ⟨G, 3, none⟩)
  | 1 => v = .slice p.a1 e.x.length p.c1
  | 2 => ∃ a c, v = .slice a e.x.length c ∧ Row .i64 2 lo w.heap.size w a e.x
  | 3 => v = .pointer (some ⟨G, 5, none⟩)
  | 4 => v = .slice p.a3 e.next.length p.c3
  | 5 => ∃ a c, v = .slice a e.next.length c ∧ Row .i64 3 lo w.heap.size w a e.next
  | 6 => v = .pointer (some ⟨G, 3, none⟩)
  | 7 => ∃ a c, w.cell? ⟨G, 3, none⟩ = some (.slice a e.x.length c) ∧ Row .i64 2 lo w.heap.size w a e.x
  | 8 => v = .pointer (some ⟨G, 5, none⟩)
  | 9 => ∃ a c, w.cell? ⟨G, 5, none⟩ = some (.slice a e.next.length c) ∧ Row .i64 3 lo w.heap.size w a e.next
  | _ => True
def KR (G : Nat) (i : Nat) (w w' : World) : Prop := Below w.heap.size w w' ∨ (i = 7 ∧ ∃ u, w' = w.setCell ⟨G, 3, none⟩ u) ∨ (i = 9 ∧ ∃ u, w' = w.setCell ⟨G, 5, none⟩ u)
section
variable {w0 w w' : World} {e : En} {p : Ad} {L L' : Nat → Bool} {G lo : Nat} {v : Value}
theorem KG.kept (h : KG w0 e p L w) (b : Below w.heap.size w w') (h7 : L' 7 = L 7) (h9 : L' 9 = L 9) (h1 : L 1 = true → L' 1 = true) (h4 : L 4 = true → L' 4 = true) : KG w0 e p L' w' :=
  ⟨h.box.elim fun v3 h => h.elim fun v5 h => ⟨v3, v5, h.1.kept b, by rw [h7]; exact h.2.1, by rw [h9]; exact h.2.2⟩, h.res.kept b, step_below h.bel b, h.n.kept (b.mono h.bel.size) (Nat.le_refl _), by rw [h7]; exact fun x => ⟨h1 (h.c7 x).1, h4 (h.c7 x).2⟩, by rw [h7, h9]; exact h.c9⟩
theorem KT.below {i : Nat} (h : KT G lo e p i v w) (b : Below w.heap.size w w') : KT G lo e p i v w' := by
  unfold KT at h ⊢
  split at h
  · exact h
  · exact h
  · exact h.elim fun a h => h.elim fun c ⟨h1, h2⟩ => ⟨a, c, h1, h2.fresh b⟩
  · exact h
  · exact h
  · exact h.elim fun a h => h.elim fun c ⟨h1, h2⟩ => ⟨a, c, h1, h2.fresh b⟩
  · exact h
  · exact h.elim fun a h => h.elim fun c ⟨h1, h2⟩ => ⟨a, c, cell_keep h1 b, h2.fresh b⟩
  · exact h
  · exact h.elim fun a h => h.elim fun c ⟨h1, h2⟩ => ⟨a, c, cell_keep h1 b, h2.fresh b⟩
  · trivial
theorem KG.poke3 {v3 v5 : Value} {a : Option Addr} {c : Nat} (h : KG w0 e p L w) (hb : Blk w w0.heap.size 55 #[.int .u8 e.k, .int .i64 e.id, .int .i64 e.ep, v3, .slice p.a2 e.coms.length p.c2, v5, .slice p.a4 e.deals.length p.c4]) (h5 : L 9 = false → v5 = .slice p.a3 e.next.length p.c3) {lo : Nat} (_ : Row .i64 2 lo w.heap.size w a e.x) (_ : L 7 = false) (k7 : L' 7 = true) (k9 : L' 9 = L 9) (l1 : L 1 = true) (l4 : L 4 = true) (k1 : L' 1 = L 1) (k4 : L' 4 = L 4) : KG w0 e p L' (w.setCell ⟨w0.heap.size, 3, none⟩ (.slice a e.x.length c)) :=
  ⟨⟨_, v5, hb.set_ 3 _, (fun x => by rw [k7] at x; cases x), by rw [k9]; exact h5⟩, h.res.farc (by omega) _, h.bel.setCell (p := ⟨w0.heap.size, 3, none⟩) (Nat.le_refl _) _, h.n.kept ((Below.mono (Below.refl _ w) h.bel.size).setCell (p := ⟨w0.heap.size, 3, none⟩) (Nat.le_refl _) _) (Nat.le_refl _), fun _ => ⟨k1.trans l1, k4.trans l4⟩, by rw [k7]; exact fun _ => rfl⟩
theorem KG.poke5 {v3 v5 : Value} {a : Option Addr} {c : Nat} (h : KG w0 e p L w) (hb : Blk w w0.heap.size 55 #[.int .u8 e.k, .int .i64 e.id, .int .i64 e.ep, v3, .slice p.a2 e.coms.length p.c2, v5, .slice p.a4 e.deals.length p.c4]) (h3 : L 7 = false → v3 = .slice p.a1 e.x.length p.c1) (k9 : L' 9 = true) (k7 : L' 7 = L 7) (l7 : L 7 = true) (k1 : L' 1 = L 1) (k4 : L' 4 = L 4) : KG w0 e p L' (w.setCell ⟨w0.heap.size, 5, none⟩ (.slice a e.next.length c)) :=
  ⟨⟨v3, _, hb.set_ 5 _, by rw [k7]; exact h3, (fun x => by rw [k9] at x; cases x)⟩, h.res.farc (by omega) _, h.bel.setCell (p := ⟨w0.heap.size, 5, none⟩) (Nat.le_refl _) _, h.n.kept ((Below.mono (Below.refl _ w) h.bel.size).setCell (p := ⟨w0.heap.size, 5, none⟩) (Nat.le_refl _) _) (Nat.le_refl _), by rw [k7, k1, k4]; exact h.c7, fun _ => k7.trans l7⟩
end
theorem set_other {w : World} {G i j : Nat} {t : TypeId} {cs : Array Value} {x u : Value} (hb : Blk w G t cs) (hij : i ≠ j) (h : w.cell? ⟨G, i, none⟩ = some x) : (w.setCell ⟨G, j, none⟩ u).cell? ⟨G, i, none⟩ = some x := by
  rw [(hb.set_ j u).cell, Array.getElem?_setIfInBounds_ne (Ne.symm hij), ← hb.cell]
  exact h
set_option maxRecDepth 100000 in
set_option maxHeartbeats 2000000 in
theorem copy_any (e : En) (p : Ad) (w : World) (hL : e.Lim) (hN : NEn w w.heap.size e p) :
    Calls Try.prog 35 #[.agg #[.int .u8 e.k, .int .i64 e.id, .int .i64 e.ep, .slice p.a1 e.x.length p.c1, .slice p.a2 e.coms.length p.c2, .slice p.a3 e.next.length p.c3, .slice p.a4 e.deals.length p.c4]] w (CopyPost e w) := by
  obtain ⟨wA, hwA⟩ : ∃ wA, wA = (w.alloc (.cells #[.int .u8 e.k, .int .i64 e.id, .int .i64 e.ep, .slice p.a1 e.x.length p.c1, .slice p.a2 e.coms.length p.c2, .slice p.a3 e.next.length p.c3, .slice p.a4 e.deals.length p.c4] 55)).alloc (.cells zero7 55) := ⟨_, rfl⟩
  have K0 : KG w e p (fun _ => false) wA := by
    have bA : Below w.heap.size w wA := by rw [hwA]; exact ((Below.refl _ w).alloc (Nat.le_refl _) _).alloc (by simp) _
    refine ⟨⟨_, _, ?_, fun _ => rfl, fun _ => rfl⟩, ?_, bA, hN.kept bA (Nat.le_refl _), by simp, by simp⟩
    · rw [hwA]; exact (Blk.new w _ _).alloc _
    · rw [hwA]
      have := Blk.new (w.alloc (.cells #[.int .u8 e.k, .int .i64 e.id, .int .i64 e.ep, .slice p.a1 e.x.length p.c1, .slice p.a2 e.coms.length p.c2, .slice p.a3 e.next.length p.c3, .slice p.a4 e.deals.length p.c4] 55)) 55 zero7
      simp only [asz] at this
      exact this
  have HL := Lib.hid hL
  have hx5 := hL.x
  have hn5 := hL.next
  clear hL hN
  go_enter Try.func35, Try.ntmps35
  go_upto_region 1 with fail
  have hz : (#[.int .u8 0, .int .i64 0, .int .i64 0, .slice none 0 0, .slice none 0 0, .slice none 0 0, .slice none 0 0] : Array Value) = zero7 := rfl
  rw [hz, ← hwA]
  clear hwA hz
  refine' wp_region_invB _ (KT w.heap.size w.heap.size e p) (KG w e p) (KR w.heap.size) ?hA (by kernel_rfl) (by kernel_rfl) (by kernel_rfl) (K0.kept (Below.refl _ wA).drew rfl rfl (by simp) (by simp)) ?mono ?step ?fin
  case hA =>
    intro vs
    conv => lhs; simp only [fillL, Act.put, List.setIfInBounds_toArray, List.set_cons_zero, List.set_cons_succ, Nat.reduceAdd]
    try exact rfl
  case mono =>
    intro i j L v wr w' hne hLi hLj hg hT hr
    obtain ⟨v3, v5, hb, -, -⟩ := hg.box
    rcases hr with b | ⟨rfl, u, rfl⟩ | ⟨rfl, u, rfl⟩
    · exact hT.below b
    · have h9 : j ≠ 9 ∧ j ≠ 7 := ⟨(fun x => by subst x; rw [hg.c9 hLj] at hLi; cases hLi), hne⟩
      unfold KT at hT ⊢
      split at hT
      · exact hT
      · exact hT
      · exact hT.elim fun a h => h.elim fun c ⟨h1, h2⟩ => ⟨a, c, h1, h2.poke hb (by decide) 3 u⟩
      · exact hT
      · exact hT
      · exact hT.elim fun a h => h.elim fun c ⟨h1, h2⟩ => ⟨a, c, h1, h2.poke hb (by decide) 3 u⟩
      · exact hT
      · exact absurd rfl h9.2
      · exact hT
      · exact absurd rfl h9.1
      · trivial
    · unfold KT at hT ⊢
      split at hT
      · exact hT
      · exact hT
      · exact hT.elim fun a h => h.elim fun c ⟨h1, h2⟩ => ⟨a, c, h1, h2.poke hb (by decide) 5 u⟩
      · exact hT
      · exact hT
      · exact hT.elim fun a h => h.elim fun c ⟨h1, h2⟩ => ⟨a, c, h1, h2.poke hb (by decide) 5 u⟩
      · exact hT
      · exact hT.elim fun a h => h.elim fun c ⟨h1, h2⟩ => ⟨a, c, set_other hb (by decide) h1, h2.poke hb (by decide) 5 u⟩
      · exact hT
      · exact absurd rfl hne
      · trivial
  case step =>
    refine StepsA.cons (fun L vs wr hl hdl hg hd => ?_) ?_
    · refine opTo_of (by kernel_rfl) (fun K hK => ?_)
      go_simp
      exact hK.out (.pointer (some ⟨w.heap.size, 3, none⟩)) _ _ (by kernel_rfl) ⟨hg.kept (Below.refl _ _) rfl rfl (by simp) (by simp), .inl (Below.refl _ _), rfl⟩
    refine StepsA.cons (fun L vs wr hl hdl hg hd => ?_) ?_
    · have e1 : vs 0 = .pointer (some ⟨w.heap.size, 3, none⟩) := hd 0 (by decide)
      obtain ⟨v3, v5, hb, h3, h5⟩ := hg.box
      have f3 : wr.cell? ⟨w.heap.size, 3, none⟩ = some (.slice p.a1 e.x.length p.c1) := by
        have h7 : L 7 = false := by
          cases h : L 7 with
          | false => rfl
          | true => rw [(hg.c7 h).1] at hl; cases hl
        rw [h3 h7] at hb
        exact hb.cell 3
      refine opTo_of (by kernel_rfl) (fun K hK => ?_)
      go_simp
      exact hK.out (.slice p.a1 e.x.length p.c1) _ _ (by simp only [e1]; kernel_rfl) ⟨hg.kept (Below.refl _ _) rfl rfl (by simp) (by simp), .inl (Below.refl _ _), rfl⟩
    refine StepsA.cons (fun L vs wr hl hdl hg hd => ?_) ?_
    · have e1 : vs 1 = .slice p.a1 e.x.length p.c1 := hd 1 (by decide)
      have HC := Lib.hid (clone_i64 p.a1 p.c1 e.x wr (hg.n.x.more hg.bel.size) hx5)
      refine opTo_of (by kernel_rfl) (fun K hK => ?_)
      go_simp
      refine Calls.mono HC.out ?_
      rintro r w' ⟨a, c, rfl, hrow, b⟩
      exact hK.out (.slice a e.x.length c) _ _ (by simp only [e1]; kernel_rfl) ⟨hg.kept b rfl rfl (by simp) (by simp), .inl b, ⟨a, c, rfl, hrow.more hg.bel.size (Nat.le_refl _)⟩⟩
    refine StepsA.cons (fun L vs wr hl hdl hg hd => ?_) ?_
    · refine opTo_of (by kernel_rfl) (fun K hK => ?_)
      go_simp
      exact hK.out (.pointer (some ⟨w.heap.size, 5, none⟩)) _ _ (by kernel_rfl) ⟨hg.kept (Below.refl _ _) rfl rfl (by simp) (by simp), .inl (Below.refl _ _), rfl⟩
    refine StepsA.cons (fun L vs wr hl hdl hg hd => ?_) ?_
    · have e1 : vs 3 = .pointer (some ⟨w.heap.size, 5, none⟩) := hd 3 (by decide)
      obtain ⟨v3, v5, hb, h3, h5⟩ := hg.box
      have f3 : wr.cell? ⟨w.heap.size, 5, none⟩ = some (.slice p.a3 e.next.length p.c3) := by
        have h9 : L 9 = false := by
          cases h : L 9 with
          | false => rfl
          | true => rw [(hg.c7 (hg.c9 h)).2] at hl; cases hl
        rw [h5 h9] at hb
        exact hb.cell 5
      refine opTo_of (by kernel_rfl) (fun K hK => ?_)
      go_simp
      exact hK.out (.slice p.a3 e.next.length p.c3) _ _ (by simp only [e1]; kernel_rfl) ⟨hg.kept (Below.refl _ _) rfl rfl (by simp) (by simp), .inl (Below.refl _ _), rfl⟩
    refine StepsA.cons (fun L vs wr hl hdl hg hd => ?_) ?_
    · have e1 : vs 4 = .slice p.a3 e.next.length p.c3 := hd 4 (by decide)
      have HC := Lib.hid (clone_int p.a3 p.c3 e.next wr (hg.n.next.more hg.bel.size) hn5)
      refine opTo_of (by kernel_rfl) (fun K hK => ?_)
      go_simp
      refine Calls.mono HC.out ?_
      rintro r w' ⟨a, c, rfl, hrow, b⟩
      exact hK.out (.slice a e.next.length c) _ _ (by simp only [e1]; kernel_rfl) ⟨hg.kept b rfl rfl (by simp) (by simp), .inl b, ⟨a, c, rfl, hrow.more hg.bel.size (Nat.le_refl _)⟩⟩
    refine StepsA.cons (fun L vs wr hl hdl hg hd => ?_) ?_
    · refine opTo_of (by kernel_rfl) (fun K hK => ?_)
      go_simp
      exact hK.out (.pointer (some ⟨w.heap.size, 3, none⟩)) _ _ (by kernel_rfl) ⟨hg.kept (Below.refl _ _) rfl rfl (by simp) (by simp), .inl (Below.refl _ _), rfl⟩
    refine StepsA.cons (fun L vs wr hl hdl hg hd => ?_) ?_
    · have e1 : vs 6 = .pointer (some ⟨w.heap.size, 3, none⟩) := hd 6 (by decide)
      obtain ⟨a, c, e2, hrow⟩ := hd 2 (by decide)
      have e2 : vs 2 = .slice a e.x.length c := e2
      obtain ⟨v3, v5, hb, h3, h5⟩ := hg.box
      have f3 : wr.cell? ⟨w.heap.size, 3, none⟩ = some v3 := hb.cell 3
      have y3 := hb.frozen 3
      refine opTo_of (by kernel_rfl) (fun K hK => ?_)
      go_simp
      exact hK.out undef _ _ (by simp only [e1, e2]; kernel_rfl) ⟨hg.poke3 hb h5 hrow hl (by simp) (by simp) (hdl 1 (by decide)) (hdl 4 (by decide)) (by simp) (by simp), .inr (.inl ⟨rfl, _, rfl⟩), ⟨a, c, (hb.set_ 3 _).cell 3, hrow.poke hb (by decide) 3 _⟩⟩
    refine StepsA.cons (fun L vs wr hl hdl hg hd => ?_) ?_
    · refine opTo_of (by kernel_rfl) (fun K hK => ?_)
      go_simp
      exact hK.out (.pointer (some ⟨w.heap.size, 5, none⟩)) _ _ (by kernel_rfl) ⟨hg.kept (Below.refl _ _) rfl rfl (by simp) (by simp), .inl (Below.refl _ _), rfl⟩
    refine StepsA.cons (fun L vs wr hl hdl hg hd => ?_) ?_
    · have e1 : vs 8 = .pointer (some ⟨w.heap.size, 5, none⟩) := hd 8 (by decide)
      obtain ⟨a, c, e2, hrow⟩ := hd 5 (by decide)
      have e2 : vs 5 = .slice a e.next.length c := e2
      obtain ⟨v3, v5, hb, h3, h5⟩ := hg.box
      have f3 : wr.cell? ⟨w.heap.size, 5, none⟩ = some v5 := hb.cell 5
      have y3 := hb.frozen 5
      refine opTo_of (by kernel_rfl) (fun K hK => ?_)
      go_simp
      exact hK.out undef _ _ (by simp only [e1, e2]; kernel_rfl) ⟨hg.poke5 hb h3 (by simp) (by simp) (hdl 7 (by decide)) (by simp) (by simp), .inr (.inr ⟨rfl, _, rfl⟩), ⟨a, c, (hb.set_ 5 _).cell 5, hrow.poke hb (by decide) 5 _⟩⟩
    exact StepsA.nil
  case fin =>
    intro L vs wr _ hg hT
    obtain ⟨a1, c1, x3, r1⟩ := hT 7 (by decide)
    obtain ⟨a3, c3, x5, r3⟩ := hT 9 (by decide)
    obtain ⟨v3, v5, hb, -, -⟩ := hg.box
    obtain rfl : v3 = .slice a1 e.x.length c1 := Option.some.inj ((hb.cell 3).symm.trans x3)
    obtain rfl : v5 = .slice a3 e.next.length c3 := Option.some.inj ((hb.cell 5).symm.trans x5)
    have f4 : wr.cell? ⟨w.heap.size, 4, none⟩ = some (.slice p.a2 e.coms.length p.c2) := hb.cell 4
    have HC := Lib.hid (eachl_any p.a2 p.c2 e.coms wr (hg.n.coms.more hg.bel.size) HL.out.coms HL.out.com)
    have HR := Lib.hid (And.intro r1 r3)
    have HG := Lib.hid hg
    have HB := Lib.hid hb
    clear r1 r3 x3 x5 hT hg hb
    go_wp2_with fail
    refine Calls.mono HC.out ?_
    rintro r w2 ⟨a2, c2, rfl, hls, b2⟩
    have K2 := HB.out.kept b2
    have y4 := K2.frozen 4
    have g4 : w2.cell? ⟨w.heap.size, 4, none⟩ = some (.slice p.a2 e.coms.length p.c2) := K2.cell 4
    have g6 : w2.cell? ⟨w.heap.size, 6, none⟩ = some (.slice p.a4 e.deals.length p.c4) := K2.cell 6
    have b3 : Below w.heap.size wr (w2.setCell ⟨w.heap.size, 4, none⟩ (.slice a2 e.coms.length c2)) := (b2.mono HG.out.bel.size).setCell (p := ⟨w.heap.size, 4, none⟩) (Nat.le_refl _) _
    have hs3 : (w2.setCell ⟨w.heap.size, 4, none⟩ (.slice a2 e.coms.length c2)).heap.size = w2.heap.size := by simp [World.setCell]
    have HC2 := Lib.hid (eachd_any p.a4 p.c4 e.deals (w2.setCell ⟨w.heap.size, 4, none⟩ (.slice a2 e.coms.length c2)) ((HG.out.n.kept b3 (Nat.le_refl _)).deals.more (by rw [hs3]; exact Nat.le_trans HG.out.bel.size b2.size)) HL.out.deals HL.out.col HL.out.cols)
    have H2 := Lib.hid (And.intro hls (And.intro b2 (And.intro K2 b3)))
    clear hls b2 K2 b3 f4 HC
    go_wp2_with fail
    refine Calls.mono HC2.out ?_
    rintro r w4 ⟨a4, c4, rfl, hds, b4⟩
    have K4 : Blk w4 w.heap.size 55 #[.int .u8 e.k, .int .i64 e.id, .int .i64 e.ep, .slice a1 e.x.length c1, .slice a2 e.coms.length c2, .slice a3 e.next.length c3, .slice p.a4 e.deals.length p.c4] := (H2.out.2.2.1.set_ 4 _).kept b4
    have R4 : Blk w4 (w.heap.size + 1) 55 zero7 := ((HG.out.res.kept H2.out.2.1).farc (by omega) _).kept b4
    obtain ⟨u0, u1, u2, u3, u4, u5, u6⟩ := K4.seven
    have z6 := K4.frozen 6
    obtain ⟨r0, r1, r2, r3, r4, r5, r6⟩ := R4.seven
    obtain ⟨y0, y1, y2, y3, y4', y5, y6⟩ := R4.seven_f
    have H4 := Lib.hid (And.intro hds (And.intro b4 (And.intro K4 R4)))
    clear hds b4 K4 R4 g4 g6 y4 HC2
    go_wp2_with fail
    refine bodyPost_ret (v := .agg #[.int .u8 e.k, .int .i64 e.id, .int .i64 e.ep, .slice a1 e.x.length c1, .slice a2 e.coms.length c2, .slice a3 e.next.length c3, .slice a4 e.deals.length c4]) (by simp [results, Try.results35, go_sem, r0, r1, r2, r3, r4, r5, r6]) rfl ?_
    have hl := HG.out.bel.size
    have hl2 := H2.out.2.1.size
    have hl4 := H4.out.2.1.size
    have bw : Below w.heap.size w (w4.setCell ⟨w.heap.size, 6, none⟩ (.slice a4 e.deals.length c4)) := ((HG.out.bel.trans H2.out.2.2.2).trans (H4.out.2.1.mono (by rw [hs3]; omega))).setCell (p := ⟨w.heap.size, 6, none⟩) (Nat.le_refl _) _
    have ho : OEn w.heap.size (w4.setCell ⟨w.heap.size, 6, none⟩ (.slice a4 e.deals.length c4)).heap.size (w4.setCell ⟨w.heap.size, 6, none⟩ (.slice a4 e.deals.length c4)) e ⟨a1, c1, a2, c2, a3, c3, a4, c4⟩ :=
      ⟨(((HR.out.1.fresh H2.out.2.1).poke H2.out.2.2.1 (by decide) 4 _).fresh H4.out.2.1).poke H4.out.2.2.1 (by decide) 6 _,
       ((((OLst.more (lo' := w.heap.size) H2.out.1 hl (Nat.le_refl _))).poke H2.out.2.2.1 4 _).fresh H4.out.2.1).poke H4.out.2.2.1 6 _,
       (((HR.out.2.fresh H2.out.2.1).poke H2.out.2.2.1 (by decide) 4 _).fresh H4.out.2.1).poke H4.out.2.2.1 (by decide) 6 _,
       (ODls.more (lo' := w.heap.size) (hi' := (w4.setCell ⟨w.heap.size, 6, none⟩ (.slice a4 e.deals.length c4)).heap.size) H4.out.1 (by rw [hs3]; omega) (by simp [World.setCell])).kept (Kp.of_only ((Only.refl w4 w.heap.size).setc (.inl rfl) _) H4.out.2.2.1 not_five_en)⟩
    exact ⟨⟨a1, c1, a2, c2, a3, c3, a4, c4⟩, rfl, set7_oen ho (H4.out.2.2.2.farc (by omega) _) _ _ _ _ _ _ _, set7_below bw (by omega) _ _ _ _ _ _ _⟩
end Go.Proofs.Ytdnkijljpmcejaa
