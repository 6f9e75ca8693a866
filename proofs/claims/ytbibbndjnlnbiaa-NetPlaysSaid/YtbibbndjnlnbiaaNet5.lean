/-
  net.Give, net.Twice.
-/
import Derived.Test.YtbibbndjnlnbiaaNet4
namespace Go.Proofs.Ytbibbndjnlnbiaa
open Go.RowKit Go.Maps

theorem set11_only (w : World) (R : Nat) (v0 v1 v2 v3 v4 v5 v6 v7 v8 v9 v10 : Value) : Only w (set11 w R v0 v1 v2 v3 v4 v5 v6 v7 v8 v9 v10) R :=
  ((((((((((((Only.refl w R).setc (.inl rfl) v0).setc (.inl rfl) v1).setc (.inl rfl) v2).setc (.inl rfl) v3).setc (.inl rfl) v4).setc (.inl rfl) v5).setc (.inl rfl) v6).setc (.inl rfl) v7).setc (.inl rfl) v8).setc (.inl rfl) v9).setc (.inl rfl) v10)
theorem set11_far {w : World} {R k : Nat} {t : TypeId} {cs : Array Value} (h : Blk w k t cs) (hk : R ≠ k) (v0 v1 v2 v3 v4 v5 v6 v7 v8 v9 v10 : Value) : Blk (set11 w R v0 v1 v2 v3 v4 v5 v6 v7 v8 v9 v10) k t cs := h.grown (set11_only w R v0 v1 v2 v3 v4 v5 v6 v7 v8 v9 v10) (some_ne (Ne.symm hk))
theorem NetTo.blk {B S g mb : Nat} {rs : Option Nat} {n n' : Nt} {w w1 : World} {q : Nat} {cs : Array Value} (t : NetTo B g mb rs n' w w1) (h : NetAt B S g mb rs n w) (hq : Blk w q 32 cs) : Blk w1 q 32 cs := by
  obtain ⟨_, _, T, _⟩ := t
  exact T.blk h hq (by decide) (by decide)
section
variable {B S g mb : Nat} {rs : Option Nat} {n n' : Nt} {K : Nat} {w w1 w2 : World}
theorem NetTo.pre (b : Below w.heap.size w w1) (t : NetTo B g mb rs n w1 w2) : NetTo B g mb rs n w w2 := by
  obtain ⟨rs', h, T, hr⟩ := t
  refine ⟨rs', h, (Turn.of_below b).trans T (fun q e => .inl e), fun q e => ?_, fun e hg q hq => ?_⟩
  · rcases hr.1 q e with h' | h'
    · exact .inl h'
    · exact .inr (Nat.le_trans b.size h')
  · rcases hr.2 e (Nat.lt_of_lt_of_le hg b.size) q hq with h' | h'
    · exact .inl (h'.of_block (b.block g hg))
    · exact .inr (Nat.le_trans b.size h')
theorem NetTo.fresh {x : Nat} {cs : Array Value} (t : NetTo B g mb rs n w w1) (o : Only w1 w2 x) (hx : Blk w1 x 32 cs) (hxw : w.heap.size ≤ x) : NetTo B g mb rs n w w2 := by
  obtain ⟨rs', h, T, hr⟩ := t
  refine ⟨rs', (h.only o hx (by decide) (by decide) (by decide)).top, ⟨o.os.trans T.os, o.tape.trans T.tape, o.output.trans T.output, Nat.le_trans T.size o.size, fun k hk h1 h2 h3 => ?_⟩, hr.1, fun e hg q hq => hr.2 e hg q (hq.of_block (o.block g (by have := T.size; omega) (some_ne (by omega))))⟩
  have := T.size
  rw [o.block k (by omega) (some_ne (by omega)), T.block k hk h1 h2 h3]
theorem NetTo.drew (t : NetTo B g mb rs n w.drew w1) : NetTo B g mb rs n w w1 := NetTo.pre ((Below.refl _ w).drew) t
theorem NetAt.drew (h : NetAt B S g mb rs n w) : NetAt B S g mb rs n w.drew := h.kept ((Below.refl _ w).drew)
/-- What Give comes to. -/
def GivePost (B g mb : Nat) (rs : Option Nat) (n : Nt) (k : Int) (w : World) (e : Ending) (w' : World) : Prop :=
  ∃ a' c', e = .returned (.tuple #[(n.msg k).val a' c', .int .i64 (n.lost k)]) ∧ Row .u64 56 w.heap.size w'.heap.size w' a' (n.msg k).l ∧ NetTo B g mb rs (n.lose k) w w'

set_option maxRecDepth 100000 in
set_option maxHeartbeats 2000000 in
theorem give_any (k : Int) (w : World) (h : NetAt B S g mb rs n w) (ok : n.Ok K) (hK : K ≤ 1000000) :
    Calls Try.prog 20 #[.pointer (some ⟨g, 0, none⟩), .int .i64 k] w (GivePost B g mb rs n k w) := by
  have R0 := Blk.new w 32 zeroCells
  have B0 : Below w.heap.size w (w.alloc (.cells zeroCells 32)) := (Below.refl _ w).alloc (Nat.le_refl _) _
  unfold zeroCells at R0 B0
  obtain ⟨W, hW⟩ : ∃ W, W = w.alloc (.cells #[.int .u8 0, .int .i64 0, .int .i64 0, .int .i64 0, .int .i64 0, .int .i64 0, .int .i64 0, .int .i64 0, .int .i64 0, .string ⟨#[]⟩, .slice none 0 0] 32) := ⟨_, rfl⟩
  rw [← hW] at R0 B0
  have HW := Lib.hid hW
  have HA := Lib.hid (at_any k W (h.kept B0) ok hK)
  have HN := Lib.hid (And.intro h ok)
  clear hW h ok
  unfold GivePost
  generalize n.msg k = m at *
  go_enter Try.func20, Try.ntmps20
  go_wp2_with fail
  rw [← HW.out]
  clear HW
  refine (Calls.mono HA.out ?_)
  rintro e w1 ⟨a1, c1, rfl, own1, b1⟩
  unfold Mg.val
  have R1 := boxed_kept (R0.kept b1) m a1 c1
  have M1 := boxed_blk w1 m a1 c1
  have B1 := boxed_below (step_below B0 b1) (step_below B0 b1).size m a1 c1
  have O1 : Row .u64 56 w.heap.size w1.heap.size w1 a1 m.l := (Row.of_own own1).more B0.size (Nat.le_refl _)
  have O2 : Row .u64 56 w.heap.size w1.heap.size (boxed w1 m a1 c1) a1 m.l := O1.below ((Below.refl _ w1).alloc (Nat.le_refl _) _)
  obtain ⟨w2, hw2⟩ : ∃ w2, w2 = boxed w1 m a1 c1 := ⟨_, rfl⟩
  rw [← hw2] at R1 M1 B1 O2
  have hs2 : w1.heap.size ≤ w2.heap.size := by rw [hw2]; unfold boxed; simp
  unfold boxed at hw2
  have HW := Lib.hid hw2
  have hGw : w.heap.size ≠ w1.heap.size := by have := (R0.kept b1).lt; omega
  have hGl : w.heap.size ≤ w1.heap.size := (step_below B0 b1).size
  clear hw2 HA own1 O1 b1 R0 B0
  go_wp2_with fail
  rw [← HW.out]
  clear HW
  generalize w1.heap.size = G at *
  have HNd : NetAt B S g mb rs n w2.drew := (HN.out.1.kept B1).drew
  have x0 : w2.drew.cell? ⟨G, 0, none⟩ = some (.int .u8 m.k) := M1.cell 0
  have x1 : w2.drew.cell? ⟨G, 1, none⟩ = some (.int .i64 m.fr) := M1.cell 1
  have x2 : w2.drew.cell? ⟨G, 2, none⟩ = some (.int .i64 m.to) := M1.cell 2
  have x3 : w2.drew.cell? ⟨G, 3, none⟩ = some (.int .i64 m.ht) := M1.cell 3
  have x4 : w2.drew.cell? ⟨G, 4, none⟩ = some (.int .i64 m.rd) := M1.cell 4
  have x5 : w2.drew.cell? ⟨G, 5, none⟩ = some (.int .i64 m.vl) := M1.cell 5
  have x6 : w2.drew.cell? ⟨G, 6, none⟩ = some (.int .i64 m.ep) := M1.cell 6
  have x7 : w2.drew.cell? ⟨G, 7, none⟩ = some (.int .i64 m.dl) := M1.cell 7
  have x8 : w2.drew.cell? ⟨G, 8, none⟩ = some (.int .i64 m.id) := M1.cell 8
  have x9 : w2.drew.cell? ⟨G, 9, none⟩ = some (.string ⟨m.s.toArray⟩) := M1.cell 9
  have x10 : w2.drew.cell? ⟨G, 10, none⟩ = some (.slice a1 m.l.length c1) := M1.cell 10
  have HL := Lib.hid (lose_any k w2.drew HNd HN.out.2 hK)
  have HP := Lib.hid (And.intro HNd (And.intro B1 (And.intro O2 (And.intro R1 (And.intro M1 hs2)))))
  clear HNd HN O2 B1 R1 M1 hs2
  go_region_held3 (fun w' => w'.cell? ⟨G, 0, none⟩ = some (.int .u8 m.k) ∧ w'.cell? ⟨G, 1, none⟩ = some (.int .i64 m.fr) ∧ w'.cell? ⟨G, 2, none⟩ = some (.int .i64 m.to) ∧ w'.cell? ⟨G, 3, none⟩ = some (.int .i64 m.ht) ∧ w'.cell? ⟨G, 4, none⟩ = some (.int .i64 m.rd) ∧ w'.cell? ⟨G, 5, none⟩ = some (.int .i64 m.vl) ∧ w'.cell? ⟨G, 6, none⟩ = some (.int .i64 m.ep) ∧ w'.cell? ⟨G, 7, none⟩ = some (.int .i64 m.dl) ∧ w'.cell? ⟨G, 8, none⟩ = some (.int .i64 m.id) ∧ w'.cell? ⟨G, 9, none⟩ = some (.string ⟨m.s.toArray⟩) ∧ w'.cell? ⟨G, 10, none⟩ = some (.slice a1 m.l.length c1)) (first | (with_reducible exact ⟨x0, x1, x2, x3, x4, x5, x6, x7, x8, x9, x10⟩) | (with_reducible exact ⟨y0, y1, y2, y3, y4, y5, y6, y7, y8, y9, y10⟩) | exact Blk.msg (set11_far SFAR.out hGw _ _ _ _ _ _ _ _ _ _ _))
    ((go_at_call 22; (with_reducible refine (Calls.mono HL.out ?_)); rintro e3 w3 ⟨rfl, T3⟩; have SFAR := Lib.hid (NetTo.blk T3 HP.out.1 (Blk.drew HP.out.2.2.2.2.1)); have RR := NetTo.blk T3 HP.out.1 (Blk.drew HP.out.2.2.2.1); have y0 : w3.cell? ⟨G, 0, none⟩ = some (.int .u8 m.k) := SFAR.out.cell 0; have y1 : w3.cell? ⟨G, 1, none⟩ = some (.int .i64 m.fr) := SFAR.out.cell 1; have y2 : w3.cell? ⟨G, 2, none⟩ = some (.int .i64 m.to) := SFAR.out.cell 2; have y3 : w3.cell? ⟨G, 3, none⟩ = some (.int .i64 m.ht) := SFAR.out.cell 3; have y4 : w3.cell? ⟨G, 4, none⟩ = some (.int .i64 m.rd) := SFAR.out.cell 4; have y5 : w3.cell? ⟨G, 5, none⟩ = some (.int .i64 m.vl) := SFAR.out.cell 5; have y6 : w3.cell? ⟨G, 6, none⟩ = some (.int .i64 m.ep) := SFAR.out.cell 6; have y7 : w3.cell? ⟨G, 7, none⟩ = some (.int .i64 m.dl) := SFAR.out.cell 7; have y8 : w3.cell? ⟨G, 8, none⟩ = some (.int .i64 m.id) := SFAR.out.cell 8; have y9 : w3.cell? ⟨G, 9, none⟩ = some (.string ⟨m.s.toArray⟩) := SFAR.out.cell 9; have y10 : w3.cell? ⟨G, 10, none⟩ = some (.slice a1 m.l.length c1) := SFAR.out.cell 10; have rc0 : w3.cell? ⟨w.heap.size, 0, none⟩ = some (.int .u8 0) := RR.cell 0; have rf0 : w3.frozen? ⟨w.heap.size, 0, none⟩ = false := RR.frozen 0; have rc1 : w3.cell? ⟨w.heap.size, 1, none⟩ = some (.int .i64 0) := RR.cell 1; have rf1 : w3.frozen? ⟨w.heap.size, 1, none⟩ = false := RR.frozen 1; have rc2 : w3.cell? ⟨w.heap.size, 2, none⟩ = some (.int .i64 0) := RR.cell 2; have rf2 : w3.frozen? ⟨w.heap.size, 2, none⟩ = false := RR.frozen 2; have rc3 : w3.cell? ⟨w.heap.size, 3, none⟩ = some (.int .i64 0) := RR.cell 3; have rf3 : w3.frozen? ⟨w.heap.size, 3, none⟩ = false := RR.frozen 3; have rc4 : w3.cell? ⟨w.heap.size, 4, none⟩ = some (.int .i64 0) := RR.cell 4; have rf4 : w3.frozen? ⟨w.heap.size, 4, none⟩ = false := RR.frozen 4; have rc5 : w3.cell? ⟨w.heap.size, 5, none⟩ = some (.int .i64 0) := RR.cell 5; have rf5 : w3.frozen? ⟨w.heap.size, 5, none⟩ = false := RR.frozen 5; have rc6 : w3.cell? ⟨w.heap.size, 6, none⟩ = some (.int .i64 0) := RR.cell 6; have rf6 : w3.frozen? ⟨w.heap.size, 6, none⟩ = false := RR.frozen 6; have rc7 : w3.cell? ⟨w.heap.size, 7, none⟩ = some (.int .i64 0) := RR.cell 7; have rf7 : w3.frozen? ⟨w.heap.size, 7, none⟩ = false := RR.frozen 7; have rc8 : w3.cell? ⟨w.heap.size, 8, none⟩ = some (.int .i64 0) := RR.cell 8; have rf8 : w3.frozen? ⟨w.heap.size, 8, none⟩ = false := RR.frozen 8; have rc9 : w3.cell? ⟨w.heap.size, 9, none⟩ = some (.string ⟨#[]⟩) := RR.cell 9; have rf9 : w3.frozen? ⟨w.heap.size, 9, none⟩ = false := RR.frozen 9; have rc10 : w3.cell? ⟨w.heap.size, 10, none⟩ = some (.slice none 0 0) := RR.cell 10; have rf10 : w3.frozen? ⟨w.heap.size, 10, none⟩ = false := RR.frozen 10; have RH := Lib.hid (And.intro RR T3); clear RR T3))
  go_wp2_with fail
  refine bodyPost_ret (v := .tuple #[.agg #[.int .u8 m.k, .int .i64 m.fr, .int .i64 m.to, .int .i64 m.ht, .int .i64 m.rd, .int .i64 m.vl, .int .i64 m.ep, .int .i64 m.dl, .int .i64 m.id, .string ⟨m.s.toArray⟩, .slice a1 m.l.length c1], .int .i64 (n.lost k)]) (by simp [results, Try.results20, go_sem, rc0, rc1, rc2, rc3, rc4, rc5, rc6, rc7, rc8, rc9, rc10]) rfl ?_
  obtain ⟨HNd, B1, O2, R1, M1, hs2⟩ := HP.out
  obtain ⟨RR, T3⟩ := RH.out
  have o := set11_only w3 w.heap.size (.int .u8 m.k) (.int .i64 m.fr) (.int .i64 m.to) (.int .i64 m.ht) (.int .i64 m.rd) (.int .i64 m.vl) (.int .i64 m.ep) (.int .i64 m.dl) (.int .i64 m.id) (.string ⟨m.s.toArray⟩) (.slice a1 m.l.length c1)
  refine ⟨a1, c1, rfl, ?_, (NetTo.pre B1.drew T3).fresh o RR (Nat.le_refl _)⟩
  obtain ⟨rs', -, T, -⟩ := T3
  have r3 := T.row HNd (O2.kept (w' := w2.drew) fun _ _ _ _ hb => hb)
  have hs := T.size
  have hso := o.size
  refine (r3.kept fun q cur _ _ hb => hb.grown o ?_).more (Nat.le_refl _) ?_
  · exact some_ne (Blk.ne_ hb RR (by decide))
  · have e : w2.drew.heap.size = w2.heap.size := rfl
    exact Nat.le_trans hs2 (Nat.le_trans (e ▸ hs) hso)
end
end Go.Proofs.Ytbibbndjnlnbiaa
