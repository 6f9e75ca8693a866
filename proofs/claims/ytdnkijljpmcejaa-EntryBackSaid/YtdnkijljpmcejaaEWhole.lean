/-
  consistorylaw13.EntryWhole: the walk.
-/
import Derived.Test.YtdnkijljpmcejaaELaw
namespace Go.Proofs.Ytdnkijljpmcejaa
open Go.RowKit

theorem rem_at (k : Int) (n : Nat) (h0 : 0 < n) (hn : n ≤ 20000) : ∃ j : Nat, wrap64 ((IntKind.u64.wrap k).tmod (n : Int)) = (j : Int) ∧ j < n := by
  have h1 : 0 ≤ IntKind.u64.wrap k := by rw [IntKind.wrap_u64]; exact (toU_u64 k).1
  generalize IntKind.u64.wrap k = u at h1
  have h2 : 0 ≤ u.tmod (n : Int) := Int.tmod_nonneg _ h1
  have h3 : u.tmod (n : Int) < n := Int.tmod_lt_of_pos _ (by omega)
  refine ⟨(u.tmod (n : Int)).toNat, ?_, by omega⟩
  rw [IntWalk.wrap64_in _ (by omega)]
  omega
theorem eenc_cases {e : En} (ok : e.Ok) : (∃ x, eenc e = ([], x) ∧ (x != 0) = true) ∨ (e.May ∧ eenc e = (e.bytes, 0)) := by
  by_cases h : (eenc e).2 = 0
  · obtain ⟨h1, h2⟩ := eenc_ok.1 h
    have hm : e.May := ⟨ok, h1, h2⟩
    exact .inr ⟨hm, eenc_may hm⟩
  · exact .inl ⟨(eenc e).2, by rw [← eenc_no h], by simpa using h⟩
set_option maxRecDepth 100000 in
set_option maxHeartbeats 2000000 in
theorem ewhole_any (e : En) (p : Ad) (k : Int) (more : List UInt8) (w : World) (ok : e.Ok) (hr : e.Rch) (hN : NEn w w.heap.size e p) (hml : more.length ≤ 140737488351232) :
    Calls Try.prog 11 #[.agg #[.int .u8 e.k, .int .i64 e.id, .int .i64 e.ep, .slice p.a1 e.x.length p.c1, .slice p.a2 e.coms.length p.c2, .slice p.a3 e.next.length p.c3, .slice p.a4 e.deals.length p.c4], .int .i64 k, .string ⟨more.toArray⟩] w (TruePost w) := by
  obtain ⟨w0, hw0⟩ : ∃ w0, w0 = w.alloc (.cells #[.int .u8 e.k, .int .i64 e.id, .int .i64 e.ep, .slice p.a1 e.x.length p.c1, .slice p.a2 e.coms.length p.c2, .slice p.a3 e.next.length p.c3, .slice p.a4 e.deals.length p.c4] 55) := ⟨_, rfl⟩
  have B0 : Below w.heap.size w w0 := by rw [hw0]; exact (Below.refl _ w).alloc (Nat.le_refl _) _
  have K0 : Blk w0 w.heap.size 55 #[.int .u8 e.k, .int .i64 e.id, .int .i64 e.ep, .slice p.a1 e.x.length p.c1, .slice p.a2 e.coms.length p.c2, .slice p.a3 e.next.length p.c3, .slice p.a4 e.deals.length p.c4] := by rw [hw0]; exact Blk.new w _ _
  have HW := Lib.hid hw0
  have H0 := Lib.hid (And.intro K0 (And.intro B0 (hN.step B0)))
  obtain ⟨f0, f1, f2, f3, f4, f5, f6⟩ := K0.entry
  clear hw0 hN K0 B0
  go_enter Try.func11, Try.ntmps11
  go_upto_region 1 with fail
  rw [← HW.out]
  clear HW
  generalize hGG : w.heap.size = G at f0 f1 f2 f3 f4 f5 f6 ⊢
  have HG := Lib.hid hGG
  clear hGG
  go_wp2_with fail
  refine (large_any e p w0 H0.out.2.2 hr).mono ?_
  rintro e2 w1 ⟨rfl, b1⟩
  have K1 := H0.out.1.kept b1
  have H1 := Lib.hid (And.intro K1 (And.intro (step_below H0.out.2.1 b1) (H0.out.2.2.step b1)))
  rw [HG.out] at K1
  obtain ⟨f0, f1, f2, f3, f4, f5, f6⟩ := K1.entry
  clear K1 H0 b1
  cases hL : e.large with
  | true =>
    go_wp2_with fail
    refine (awake_any w1).mono ?_
    rintro e2 w2 ⟨rfl, b2⟩
    go_wp2_with fail
    go_ret
    exact ⟨rfl, step_below H1.out.2.1 b2⟩
  | false =>
    have HL := Lib.hid (large_lim hL)
    clear hL
    by_cases h3 : 3000 < more.length
    · have h3' : decide ((3000 : Int) < more.length) = true := decide_eq_true (by omega)
      go_wp2_with fail
      refine (awake_any w1).mono ?_
      rintro e2 w2 ⟨rfl, b2⟩
      go_wp2_with fail
      go_ret
      exact ⟨rfl, step_below H1.out.2.1 b2⟩
    · have h3' : decide ((3000 : Int) < more.length) = false := decide_eq_false (by omega)
      go_wp2_with fail
      refine (awake_any w1).mono ?_
      rintro e2 w2 ⟨rfl, b2⟩
      have K2 := H1.out.1.kept b2
      have H2 := Lib.hid (And.intro K2 (And.intro (step_below H1.out.2.1 b2) (H1.out.2.2.step b2)))
      rw [HG.out] at K2
      obtain ⟨f0, f1, f2, f3, f4, f5, f6⟩ := K2.entry
      clear K2 H1 b2
      go_wp2_with fail
      rcases eenc_cases ok with ⟨x, hx1, hx2⟩ | ⟨hm, hx⟩
      · have HE := Lib.hid (enc_of p w2 ok HL.out H2.out.2.2 hx1)
        clear hx1
        refine (Calls.mono HE.out ?_)
        rintro e2 w3 ⟨rfl, b3⟩
        go_wp2_with fail
        go_ret
        exact ⟨rfl, step_below H2.out.2.1 b3⟩
      · have HE := Lib.hid (enc_of p w2 ok HL.out H2.out.2.2 hx)
        have hbs := hm.len
        have hbp := bytes_pos e
        obtain ⟨j, hj, hjl⟩ := rem_at k e.bytes.length hbp (by omega)
        have HC := Lib.hid (edec_cut hm hjl)
        have HB := Lib.hid (@edec_more e hm more)
        have HM := Lib.hid hm
        clear hx
        refine (Calls.mono HE.out ?_)
        rintro e2 w3 ⟨rfl, b3⟩
        have B3 := Lib.hid (step_below H2.out.2.1 b3)
        clear HE b3 H2 f0 f1 f2 f3 f4 f5 f6 hm
        generalize e.bytes = S at *
        go_wp2_with fail
        refine (dec_of w3 (by rw [List.length_take]; omega) HC.out).mono ?_
        rintro e2 w4 ⟨p4, rfl, -, b4⟩
        have B4 := Lib.hid (step_below B3.out b4)
        clear B3 b4 HC
        obtain ⟨x, hx⟩ : ∃ x, (edec (S ++ more)).2 = x := ⟨_, rfl⟩
        obtain ⟨y, hy⟩ : ∃ y, (edec (S ++ more)).1 = y := ⟨_, rfl⟩
        have HD := Lib.hid (show edec (S ++ more) = (y, x) by rw [← hx, ← hy])
        have hxm : (x = 0 ↔ more = []) := by rw [← hx]; exact HB.out
        clear hx hy
        have HX := Lib.hid hxm
        clear hxm
        go_wp2_with fail
        refine (dec_of _ (by rw [List.length_append]; omega) HD.out).mono ?_
        rintro e2 w5 ⟨p5, rfl, -, b5⟩
        have B5 := Lib.hid ((step_below B4.out (step_below ((Below.refl _ w4).alloc (Nat.le_refl _) _) b5)).alloc (step_below B4.out (step_below ((Below.refl _ w4).alloc (Nat.le_refl _) _) b5)).size (.cells #[.int .u8 y.k, .int .i64 y.id, .int .i64 y.ep, .slice p5.a1 y.x.length p5.c1, .slice p5.a2 y.coms.length p5.c2, .slice p5.a3 y.next.length p5.c3, .slice p5.a4 y.deals.length p5.c4] 55))
        clear b5
        by_cases hbe : more = []
        · have hx0 : (x != 0) = false := by rw [HX.out.2 hbe]; rfl
          have h1 : more.isEmpty = true := by rw [hbe]; rfl
          clear hbe
          go_wp2_with fail
          go_ret
          exact ⟨rfl, B5.out⟩
        · have hx0 : (x != 0) = true := by simpa using fun h => hbe (HX.out.1 h)
          have h1 : more.isEmpty = false := by simpa using hbe
          clear hbe
          go_wp2_with fail
          go_ret
          exact ⟨rfl, B5.out⟩
end Go.Proofs.Ytdnkijljpmcejaa
