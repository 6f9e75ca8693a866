/-
  consistorylaw13.EntryOne: the walk.
-/
import Derived.Test.YtdnkijljpmcejabELaw
import Derived.Test.YtdnkijljpmcejabESame
import Derived.Test.YtdnkijljpmcejabERSame2
import Derived.Test.YtdnkijljpmcejabEnLen
namespace Go.Proofs.Ytdnkijljpmcejab
open Go.RowKit

theorem eenc_two {e : En} (ok : e.Ok) : (∃ x, eenc e = ([], x) ∧ (x != 0) = true) ∨ (e.May ∧ eenc e = (e.bytes, 0)) := by
  by_cases h : (eenc e).2 = 0
  · obtain ⟨h1, h2⟩ := eenc_ok.1 h
    have hm : e.May := ⟨ok, h1, h2⟩
    exact .inr ⟨hm, eenc_may hm⟩
  · exact .inl ⟨(eenc e).2, by rw [← eenc_no h], by simpa using h⟩
theorem bytes_same {a b : En} (ha : a.May) (hb : b.May) : (a.bytes == b.bytes) = a.same b := by
  rw [Bool.eq_iff_iff, beq_iff_eq, En.same_iff]
  constructor
  · intro h
    exact bytes_inj ha hb h
  · rintro rfl
    rfl

set_option maxRecDepth 100000 in
set_option maxHeartbeats 4000000 in
theorem eone_any (a b : En) (p q : Ad) (w : World) (oa : a.Ok) (ra : a.Rch) (ha : NEn w w.heap.size a p) (ob : b.Ok) (rb : b.Rch) (hb : NEn w w.heap.size b q) :
    Calls Try.prog 3 #[.agg #[.int .u8 a.k, .int .i64 a.id, .int .i64 a.ep, .slice p.a1 a.x.length p.c1, .slice p.a2 a.coms.length p.c2, .slice p.a3 a.next.length p.c3, .slice p.a4 a.deals.length p.c4], .agg #[.int .u8 b.k, .int .i64 b.id, .int .i64 b.ep, .slice q.a1 b.x.length q.c1, .slice q.a2 b.coms.length q.c2, .slice q.a3 b.next.length q.c3, .slice q.a4 b.deals.length q.c4]] w (TruePost w) := by
  have B0 := box2_below w #[.int .u8 a.k, .int .i64 a.id, .int .i64 a.ep, .slice p.a1 a.x.length p.c1, .slice p.a2 a.coms.length p.c2, .slice p.a3 a.next.length p.c3, .slice p.a4 a.deals.length p.c4] #[.int .u8 b.k, .int .i64 b.id, .int .i64 b.ep, .slice q.a1 b.x.length q.c1, .slice q.a2 b.coms.length q.c2, .slice q.a3 b.next.length q.c3, .slice q.a4 b.deals.length q.c4]
  have KA := box2_1 w #[.int .u8 a.k, .int .i64 a.id, .int .i64 a.ep, .slice p.a1 a.x.length p.c1, .slice p.a2 a.coms.length p.c2, .slice p.a3 a.next.length p.c3, .slice p.a4 a.deals.length p.c4] #[.int .u8 b.k, .int .i64 b.id, .int .i64 b.ep, .slice q.a1 b.x.length q.c1, .slice q.a2 b.coms.length q.c2, .slice q.a3 b.next.length q.c3, .slice q.a4 b.deals.length q.c4]
  have KB := box2_2 w #[.int .u8 a.k, .int .i64 a.id, .int .i64 a.ep, .slice p.a1 a.x.length p.c1, .slice p.a2 a.coms.length p.c2, .slice p.a3 a.next.length p.c3, .slice p.a4 a.deals.length p.c4] #[.int .u8 b.k, .int .i64 b.id, .int .i64 b.ep, .slice q.a1 b.x.length q.c1, .slice q.a2 b.coms.length q.c2, .slice q.a3 b.next.length q.c3, .slice q.a4 b.deals.length q.c4]
  obtain ⟨w0, hw0⟩ : ∃ w0, w0 = box2 w #[.int .u8 a.k, .int .i64 a.id, .int .i64 a.ep, .slice p.a1 a.x.length p.c1, .slice p.a2 a.coms.length p.c2, .slice p.a3 a.next.length p.c3, .slice p.a4 a.deals.length p.c4] #[.int .u8 b.k, .int .i64 b.id, .int .i64 b.ep, .slice q.a1 b.x.length q.c1, .slice q.a2 b.coms.length q.c2, .slice q.a3 b.next.length q.c3, .slice q.a4 b.deals.length q.c4] := ⟨_, rfl⟩
  rw [← hw0] at B0 KA KB
  unfold box2 at hw0
  have HW := Lib.hid hw0
  have H0 := Lib.hid (And.intro KA (And.intro KB (And.intro B0 (And.intro (ha.step B0) (hb.step B0)))))
  obtain ⟨f0, f1, f2, f3, f4, f5, f6⟩ := KA.entry
  obtain ⟨g0, g1, g2, g3, g4, g5, g6⟩ := KB.entry
  clear hw0 ha hb KA KB B0
  go_enter Try.func3, Try.ntmps3
  go_upto_region 1 with fail
  rw [← HW.out]
  clear HW
  generalize hGG : w.heap.size = G at f0 f1 f2 f3 f4 f5 f6 g0 g1 g2 g3 g4 g5 g6 ⊢
  have HG := Lib.hid hGG
  clear hGG
  go_wp2_with fail
  refine (large_any a p w0 H0.out.2.2.2.1 ra).mono ?_
  rintro e2 w1 ⟨rfl, b1⟩
  have KA := H0.out.1.kept b1
  have KB := H0.out.2.1.kept b1
  have H1 := Lib.hid (And.intro KA (And.intro KB (And.intro (step_below H0.out.2.2.1 b1) (And.intro (H0.out.2.2.2.1.step b1) (H0.out.2.2.2.2.step b1)))))
  rw [HG.out] at KA KB
  obtain ⟨f0, f1, f2, f3, f4, f5, f6⟩ := KA.entry
  obtain ⟨g0, g1, g2, g3, g4, g5, g6⟩ := KB.entry
  clear KA KB H0 b1
  cases hL : a.large with
  | true =>
    go_wp2_with fail
    refine (awake_any w1).mono ?_
    rintro e2 w9 ⟨rfl, b9⟩
    go_wp2_with fail
    go_ret
    exact ⟨rfl, step_below H1.out.2.2.1 b9⟩
  | false =>
    have LA := Lib.hid (large_lim hL)
    clear hL
    go_wp2_with fail
    refine (large_any b q w1 H1.out.2.2.2.2 rb).mono ?_
    rintro e2 w2 ⟨rfl, b2⟩
    have KA := H1.out.1.kept b2
    have KB := H1.out.2.1.kept b2
    have H2 := Lib.hid (And.intro KA (And.intro KB (And.intro (step_below H1.out.2.2.1 b2) (And.intro (H1.out.2.2.2.1.step b2) (H1.out.2.2.2.2.step b2)))))
    rw [HG.out] at KA KB
    obtain ⟨f0, f1, f2, f3, f4, f5, f6⟩ := KA.entry
    obtain ⟨g0, g1, g2, g3, g4, g5, g6⟩ := KB.entry
    clear KA KB H1 b2
    cases hL : b.large with
    | true =>
      go_wp2_with fail
      refine (awake_any w2).mono ?_
      rintro e2 w9 ⟨rfl, b9⟩
      go_wp2_with fail
      go_ret
      exact ⟨rfl, step_below H2.out.2.2.1 b9⟩
    | false =>
      have LB := Lib.hid (large_lim hL)
      clear hL
      go_wp2_with fail
      refine (awake_any w2).mono ?_
      rintro e2 w3 ⟨rfl, b3⟩
      have KA := H2.out.1.kept b3
      have KB := H2.out.2.1.kept b3
      have H3 := Lib.hid (And.intro KA (And.intro KB (And.intro (step_below H2.out.2.2.1 b3) (And.intro (H2.out.2.2.2.1.step b3) (H2.out.2.2.2.2.step b3)))))
      rw [HG.out] at KA KB
      obtain ⟨f0, f1, f2, f3, f4, f5, f6⟩ := KA.entry
      obtain ⟨g0, g1, g2, g3, g4, g5, g6⟩ := KB.entry
      clear KA KB H2 b3
      go_wp2_with fail
      rcases eenc_two oa with ⟨x, hx1, hx2⟩ | ⟨hm, hx⟩
      · refine (enc_of p w3 oa LA.out H3.out.2.2.2.1 hx1).mono ?_
        rintro e2 w4 ⟨rfl, b4⟩
        have KA := H3.out.1.kept b4
        have KB := H3.out.2.1.kept b4
        have H4 := Lib.hid (And.intro KA (And.intro KB (And.intro (step_below H3.out.2.2.1 b4) (And.intro (H3.out.2.2.2.1.step b4) (H3.out.2.2.2.2.step b4)))))
        rw [HG.out] at KA KB
        obtain ⟨f0, f1, f2, f3, f4, f5, f6⟩ := KA.entry
        obtain ⟨g0, g1, g2, g3, g4, g5, g6⟩ := KB.entry
        clear KA KB H3 b4
        clear hx1
        go_wp2_with fail
        refine (enc_any b q w4 ob LB.out H4.out.2.2.2.2).mono ?_
        rintro e2 w5 ⟨rfl, b5⟩
        go_wp2_with fail
        go_ret
        exact ⟨rfl, step_below H4.out.2.2.1 b5⟩
      · have MA := Lib.hid hm
        refine (enc_of p w3 oa LA.out H3.out.2.2.2.1 hx).mono ?_
        rintro e2 w4 ⟨rfl, b4⟩
        have KA := H3.out.1.kept b4
        have KB := H3.out.2.1.kept b4
        have H4 := Lib.hid (And.intro KA (And.intro KB (And.intro (step_below H3.out.2.2.1 b4) (And.intro (H3.out.2.2.2.1.step b4) (H3.out.2.2.2.2.step b4)))))
        rw [HG.out] at KA KB
        obtain ⟨f0, f1, f2, f3, f4, f5, f6⟩ := KA.entry
        obtain ⟨g0, g1, g2, g3, g4, g5, g6⟩ := KB.entry
        clear KA KB H3 b4
        clear hx hm
        go_wp2_with fail
        rcases eenc_two ob with ⟨x, hx1, hx2⟩ | ⟨hm, hx⟩
        · refine (enc_of q w4 ob LB.out H4.out.2.2.2.2 hx1).mono ?_
          rintro e2 w5 ⟨rfl, b5⟩
          clear hx1
          go_wp2_with fail
          go_ret
          exact ⟨rfl, step_below H4.out.2.2.1 b5⟩
        · have hS := bytes_same MA.out hm
          obtain ⟨r, hr⟩ : ∃ r, a.same b = r := ⟨_, rfl⟩
          rw [hr] at hS
          refine (enc_of q w4 ob LB.out H4.out.2.2.2.2 hx).mono ?_
          rintro e2 w5 ⟨rfl, b5⟩
          have KA := H4.out.1.kept b5
          have KB := H4.out.2.1.kept b5
          have H5 := Lib.hid (And.intro KA (And.intro KB (And.intro (step_below H4.out.2.2.1 b5) (And.intro (H4.out.2.2.2.1.step b5) (H4.out.2.2.2.2.step b5)))))
          rw [HG.out] at KA KB
          obtain ⟨f0, f1, f2, f3, f4, f5, f6⟩ := KA.entry
          obtain ⟨g0, g1, g2, g3, g4, g5, g6⟩ := KB.entry
          clear KA KB H4 b5
          clear hx hm
          have HR := Lib.hid hr
          have C1 := Lib.hid (esame_is p q w5.drew (H5.out.2.2.2.1.step (Below.refl _ w5).drew) (H5.out.2.2.2.2.step (Below.refl _ w5).drew) LA.out.cnt LB.out.cnt hr)
          have y0 : w5.drew.cell? ⟨G, 0, none⟩ = some (.int .u8 a.k) := f0
          have y1 : w5.drew.cell? ⟨G, 1, none⟩ = some (.int .i64 a.id) := f1
          have y2 : w5.drew.cell? ⟨G, 2, none⟩ = some (.int .i64 a.ep) := f2
          have y3 : w5.drew.cell? ⟨G, 3, none⟩ = some (.slice p.a1 a.x.length p.c1) := f3
          have y4 : w5.drew.cell? ⟨G, 4, none⟩ = some (.slice p.a2 a.coms.length p.c2) := f4
          have y5 : w5.drew.cell? ⟨G, 5, none⟩ = some (.slice p.a3 a.next.length p.c3) := f5
          have y6 : w5.drew.cell? ⟨G, 6, none⟩ = some (.slice p.a4 a.deals.length p.c4) := f6
          have y7 : w5.drew.cell? ⟨G + 1, 0, none⟩ = some (.int .u8 b.k) := g0
          have y8 : w5.drew.cell? ⟨G + 1, 1, none⟩ = some (.int .i64 b.id) := g1
          have y9 : w5.drew.cell? ⟨G + 1, 2, none⟩ = some (.int .i64 b.ep) := g2
          have y10 : w5.drew.cell? ⟨G + 1, 3, none⟩ = some (.slice q.a1 b.x.length q.c1) := g3
          have y11 : w5.drew.cell? ⟨G + 1, 4, none⟩ = some (.slice q.a2 b.coms.length q.c2) := g4
          have y12 : w5.drew.cell? ⟨G + 1, 5, none⟩ = some (.slice q.a3 b.next.length q.c3) := g5
          have y13 : w5.drew.cell? ⟨G + 1, 6, none⟩ = some (.slice q.a4 b.deals.length q.c4) := g6
          clear hr
          go_upto_region 7 with fail
          clear f0 f1 f2 f3 f4 f5 f6 g0 g1 g2 g3 g4 g5 g6
          generalize a.bytes = SA at *
          generalize b.bytes = SB at *
          go_region_held3 (fun w' => w'.cell? ⟨G, 0, none⟩ = some (.int .u8 a.k) ∧ w'.cell? ⟨G, 1, none⟩ = some (.int .i64 a.id) ∧ w'.cell? ⟨G, 2, none⟩ = some (.int .i64 a.ep) ∧ w'.cell? ⟨G, 3, none⟩ = some (.slice p.a1 a.x.length p.c1) ∧ w'.cell? ⟨G, 4, none⟩ = some (.slice p.a2 a.coms.length p.c2) ∧ w'.cell? ⟨G, 5, none⟩ = some (.slice p.a3 a.next.length p.c3) ∧ w'.cell? ⟨G, 6, none⟩ = some (.slice p.a4 a.deals.length p.c4) ∧ w'.cell? ⟨G + 1, 0, none⟩ = some (.int .u8 b.k) ∧ w'.cell? ⟨G + 1, 1, none⟩ = some (.int .i64 b.id) ∧ w'.cell? ⟨G + 1, 2, none⟩ = some (.int .i64 b.ep) ∧ w'.cell? ⟨G + 1, 3, none⟩ = some (.slice q.a1 b.x.length q.c1) ∧ w'.cell? ⟨G + 1, 4, none⟩ = some (.slice q.a2 b.coms.length q.c2) ∧ w'.cell? ⟨G + 1, 5, none⟩ = some (.slice q.a3 b.next.length q.c3) ∧ w'.cell? ⟨G + 1, 6, none⟩ = some (.slice q.a4 b.deals.length q.c4)) (first | (with_reducible exact ⟨y0, y1, y2, y3, y4, y5, y6, y7, y8, y9, y10, y11, y12, y13⟩) | (with_reducible exact ⟨z0, z1, z2, z3, z4, z5, z6, z7, z8, z9, z10, z11, z12, z13⟩) | (with_reducible exact ⟨u0, u1, u2, u3, u4, u5, u6, u7, u8, u9, u10, u11, u12, u13⟩) | (with_reducible exact ⟨v0, v1, v2, v3, v4, v5, v6, v7, v8, v9, v10, v11, v12, v13⟩))
            (first
            | (go_at_call 7; (with_reducible refine Calls.mono C1.out ?_); rintro e6 w6 ⟨rfl, b6⟩; have z0 := cell_keep y0 b6; have z1 := cell_keep y1 b6; have z2 := cell_keep y2 b6; have z3 := cell_keep y3 b6; have z4 := cell_keep y4 b6; have z5 := cell_keep y5 b6; have z6 := cell_keep y6 b6; have z7 := cell_keep y7 b6; have z8 := cell_keep y8 b6; have z9 := cell_keep y9 b6; have z10 := cell_keep y10 b6; have z11 := cell_keep y11 b6; have z12 := cell_keep y12 b6; have z13 := cell_keep y13 b6; have C2 := Lib.hid (esame_is p q w6 (H5.out.2.2.2.1.step (below_dr b6)) (H5.out.2.2.2.2.step (below_dr b6)) LA.out.cnt LB.out.cnt HR.out))
            | (go_at_call 7; (with_reducible refine Calls.mono C2.out ?_); rintro e7 w7 ⟨rfl, b7⟩; have u0 := cell_keep z0 b7; have u1 := cell_keep z1 b7; have u2 := cell_keep z2 b7; have u3 := cell_keep z3 b7; have u4 := cell_keep z4 b7; have u5 := cell_keep z5 b7; have u6 := cell_keep z6 b7; have u7 := cell_keep z7 b7; have u8 := cell_keep z8 b7; have u9 := cell_keep z9 b7; have u10 := cell_keep z10 b7; have u11 := cell_keep z11 b7; have u12 := cell_keep z12 b7; have u13 := cell_keep z13 b7; have C3 := Lib.hid (rsame_is p q w7 ((H5.out.2.2.2.1.step (below_dr b6)).step b7) ((H5.out.2.2.2.2.step (below_dr b6)).step b7) LA.out.cnt LB.out.cnt HR.out))
            | (go_at_call 8; (with_reducible refine Calls.mono C3.out ?_); rintro e8 w8 ⟨rfl, b8⟩; have v0 := cell_keep u0 b8; have v1 := cell_keep u1 b8; have v2 := cell_keep u2 b8; have v3 := cell_keep u3 b8; have v4 := cell_keep u4 b8; have v5 := cell_keep u5 b8; have v6 := cell_keep u6 b8; have v7 := cell_keep u7 b8; have v8 := cell_keep u8 b8; have v9 := cell_keep u9 b8; have v10 := cell_keep u10 b8; have v11 := cell_keep u11 b8; have v12 := cell_keep u12 b8; have v13 := cell_keep u13 b8))
          have B8 := Lib.hid (step_below H5.out.2.2.1 (step_below (step_below (below_dr b6) b7) b8))
          clear b6 b7 b8 C1 C2 C3 y0 y1 y2 y3 y4 y5 y6 y7 y8 y9 y10 y11 y12 y13 z0 z1 z2 z3 z4 z5 z6 z7 z8 z9 z10 z11 z12 z13 u0 u1 u2 u3 u4 u5 u6 u7 u8 u9 u10 u11 u12 u13 v0 v1 v2 v3 v4 v5 v6 v7 v8 v9 v10 v11 v12 v13
          go_wp2_with fail
          go_ret
          exact ⟨rfl, B8.out⟩
end Go.Proofs.Ytdnkijljpmcejab
