/-
  consistorylaw13.EntryLong: the walk.
-/
import Derived.Test.YtdnkijljpmcejaaELaw
import Derived.Test.YtdnkijljpmcejaaEFilled
namespace Go.Proofs.Ytdnkijljpmcejaa
open Go.RowKit

theorem eenc_four {e : En} {S : List UInt8} {x : Int} (h : eenc e = (S, x)) : (x == 4) = true ∧ S = [] ∨ (x == 4) = false := by
  by_cases h4 : x = 4
  · subst h4
    have h1 := eenc_no (e := e) (by rw [h]; simp)
    rw [h] at h1
    exact .inl ⟨rfl, h1⟩
  · exact .inr (by simpa using h4)
theorem fil_enc {e f : En} (h : Fil e f) {S : List UInt8} {x : Int} (hx : eenc e = (S, x)) : ∃ T y, eenc f = (T, y) ∧ ((x == 4) = false → (x == y) = true ∧ ((S.length : Int) == (T.length : Int)) = true) := by
  obtain ⟨T, y, hy⟩ : ∃ T y, eenc f = (T, y) := ⟨(eenc f).1, (eenc f).2, rfl⟩
  refine ⟨T, y, hy, fun h4 => ?_⟩
  have h5 : (eenc e).2 ≠ 4 := by rw [hx]; simpa using h4
  obtain ⟨h1, h2⟩ := fil_law h h5
  rw [hx, hy] at h1 h2
  dsimp only at h1 h2
  exact ⟨by rw [h1]; simp, by rw [h2]; simp⟩
set_option maxRecDepth 100000 in
set_option maxHeartbeats 2000000 in
theorem elong_any (e : En) (p : Ad) (n : Int) (w : World) (ok : e.Ok) (hr : e.Rch) (hN : NEn w w.heap.size e p) (hn : U64 n) :
    Calls Try.prog 12 #[.agg #[.int .u8 e.k, .int .i64 e.id, .int .i64 e.ep, .slice p.a1 e.x.length p.c1, .slice p.a2 e.coms.length p.c2, .slice p.a3 e.next.length p.c3, .slice p.a4 e.deals.length p.c4], .int .u64 n] w (TruePost w) := by
  obtain ⟨w0, hw0⟩ : ∃ w0, w0 = w.alloc (.cells #[.int .u8 e.k, .int .i64 e.id, .int .i64 e.ep, .slice p.a1 e.x.length p.c1, .slice p.a2 e.coms.length p.c2, .slice p.a3 e.next.length p.c3, .slice p.a4 e.deals.length p.c4] 55) := ⟨_, rfl⟩
  have B0 : Below w.heap.size w w0 := by rw [hw0]; exact (Below.refl _ w).alloc (Nat.le_refl _) _
  have K0 : Blk w0 w.heap.size 55 #[.int .u8 e.k, .int .i64 e.id, .int .i64 e.ep, .slice p.a1 e.x.length p.c1, .slice p.a2 e.coms.length p.c2, .slice p.a3 e.next.length p.c3, .slice p.a4 e.deals.length p.c4] := by rw [hw0]; exact Blk.new w _ _
  have HW := Lib.hid hw0
  have H0 := Lib.hid (And.intro K0 (And.intro B0 (hN.step B0)))
  obtain ⟨f0, f1, f2, f3, f4, f5, f6⟩ := K0.entry
  clear hw0 hN K0 B0
  go_enter Try.func12, Try.ntmps12
  go_upto_region 1 with fail
  rw [← HW.out]
  clear HW
  generalize hGG : w.heap.size = G at f0 f1 f2 f3 f4 f5 f6 ⊢
  have HG := Lib.hid hGG
  clear hGG
  go_wp2_with fail
  refine (large_any e p w0 H0.out.2.2 hr).mono ?_
  rintro e2 w1 ⟨rfl, b1⟩
  have K1 := H0.out.1.kept b1
  have H1 := Lib.hid (And.intro K1 (And.intro (step_below H0.out.2.1 b1) (H0.out.2.2.step b1)))
  rw [HG.out] at K1
  obtain ⟨f0, f1, f2, f3, f4, f5, f6⟩ := K1.entry
  clear K1 H0 b1
  cases hL : e.large with
  | true =>
    go_wp2_with fail
    refine (awake_any w1).mono ?_
    rintro e2 w2 ⟨rfl, b2⟩
    go_wp2_with fail
    go_ret
    exact ⟨rfl, step_below H1.out.2.1 b2⟩
  | false =>
    have HL := Lib.hid (large_lim hL)
    clear hL
    go_wp2_with fail
    refine (awake_any w1).mono ?_
    rintro e2 w2 ⟨rfl, b2⟩
    have K2 := H1.out.1.kept b2
    have H2 := Lib.hid (And.intro K2 (And.intro (step_below H1.out.2.1 b2) (H1.out.2.2.step b2)))
    rw [HG.out] at K2
    obtain ⟨f0, f1, f2, f3, f4, f5, f6⟩ := K2.entry
    clear K2 H1 b2
    obtain ⟨S, x, hx⟩ : ∃ S x, eenc e = (S, x) := ⟨_, _, rfl⟩
    have HX := Lib.hid hx
    have HE := Lib.hid (enc_of p w2 ok HL.out H2.out.2.2 hx)
    have HN := Lib.hid (And.intro ok hn)
    clear hx ok hr hn
    go_wp2_with fail
    refine (Calls.mono HE.out ?_)
    rintro e2 w3 ⟨rfl, b3⟩
    have K3 := H2.out.1.kept b3
    have H3 := Lib.hid (And.intro K3 (And.intro (step_below H2.out.2.1 b3) (H2.out.2.2.step b3)))
    rw [HG.out] at K3
    obtain ⟨f0, f1, f2, f3, f4, f5, f6⟩ := K3.entry
    clear K3 H2 b3
    go_wp2_with fail
    refine (filled_any e p n w3 H3.out.2.2 HL.out HN.out.1 HN.out.2).mono ?_
    rintro e2 w4 ⟨f, p2, hfil, okf, limf, rfl, hNf, b4⟩
    have B4 := Lib.hid (step_below H3.out.2.1 b4)
    obtain ⟨T, y, hy, hxy⟩ := fil_enc hfil HX.out
    have HE2 := Lib.hid (enc_of p2 w4 okf limf hNf hy)
    have HC := Lib.hid (And.intro (eenc_four HX.out) hxy)
    clear hfil okf limf hNf b4 hy hxy HE H3 f0 f1 f2 f3 f4 f5 f6
    go_wp2_with fail
    refine (Calls.mono HE2.out ?_)
    rintro e2 w5 ⟨rfl, b5⟩
    have B5 := Lib.hid (step_below B4.out b5)
    clear b5
    rcases HC.out.1 with ⟨h4, rfl⟩ | h4
    · go_wp2_with fail
      go_ret
      exact ⟨rfl, B5.out⟩
    · obtain ⟨g1, g2⟩ := HC.out.2 h4
      clear HC
      go_wp2_with fail
      go_ret
      exact ⟨rfl, B5.out⟩
end Go.Proofs.Ytdnkijljpmcejaa
