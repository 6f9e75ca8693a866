/-
  consistorylaw13.filled: the walk.
-/
import Derived.Test.YtdnkijljpmcejaaEFill2
namespace Go.Proofs.Ytdnkijljpmcejaa
open Go.RowKit

set_option maxRecDepth 100000 in
set_option maxHeartbeats 8000000 in
theorem filled_any (e : En) (p : Ad) (n : Int) (w : World) (hN : NEn w w.heap.size e p) (hL : e.Lim) (ok : e.Ok) (hn : U64 n) :
    Calls Try.prog 57 #[.agg #[.int .u8 e.k, .int .i64 e.id, .int .i64 e.ep, .slice p.a1 e.x.length p.c1, .slice p.a2 e.coms.length p.c2, .slice p.a3 e.next.length p.c3, .slice p.a4 e.deals.length p.c4], .int .u64 n] w (FilPost e w) := by
  obtain ⟨wA, hwA⟩ : ∃ wA, wA = (w.alloc (.cells #[.int .u8 e.k, .int .i64 e.id, .int .i64 e.ep, .slice p.a1 e.x.length p.c1, .slice p.a2 e.coms.length p.c2, .slice p.a3 e.next.length p.c3, .slice p.a4 e.deals.length p.c4] 55)).alloc (.cells #[.int .u8 0, .int .i64 0, .int .i64 0, .slice none 0 0, .slice none 0 0, .slice none 0 0, .slice none 0 0] 55) := ⟨_, rfl⟩
  have hsA : wA.heap.size = w.heap.size + 2 := by rw [hwA]; simp
  have bA : Below w.heap.size w wA := by rw [hwA]; exact ((Below.refl _ w).alloc (Nat.le_refl _) _).alloc (by simp) _
  have B0 : Blk wA w.heap.size 55 #[.int .u8 e.k, .int .i64 e.id, .int .i64 e.ep, .slice p.a1 e.x.length p.c1, .slice p.a2 e.coms.length p.c2, .slice p.a3 e.next.length p.c3, .slice p.a4 e.deals.length p.c4] := by rw [hwA]; exact (Blk.new w _ _).alloc _
  have G0 : Blk wA (w.heap.size + 1) 55 zero7 := by
    rw [hwA]
    have := Blk.new (w.alloc (.cells #[.int .u8 e.k, .int .i64 e.id, .int .i64 e.ep, .slice p.a1 e.x.length p.c1, .slice p.a2 e.coms.length p.c2, .slice p.a3 e.next.length p.c3, .slice p.a4 e.deals.length p.c4] 55)) 55 zero7
    simp only [asz] at this
    exact this
  have HC := Lib.hid (rcopy_any e p wA hL ((hN.step bA)))
  have HA := Lib.hid (And.intro hsA (And.intro bA G0))
  have HN := Lib.hid (And.intro hL (And.intro ok hn))
  obtain ⟨f0, f1, f2, f3, f4, f5, f6⟩ := B0.entry
  clear hN hsA bA G0 hL ok hn B0
  go_enter Try.func57, Try.ntmps57
  go_upto_region 1 with fail
  rw [← hwA]
  clear hwA
  go_wp2_with fail
  refine Calls.mono HC.out ?_
  rintro r w1 ⟨p1, rfl, hO, b1⟩
  have H1 := Lib.hid (And.intro hO b1)
  clear hO b1 HC f0 f1 f2 f3 f4 f5 f6
  have hsC := H1.out.2.size
  obtain ⟨w2, hw2⟩ : ∃ w2, w2 = w1.alloc (.cells #[.int .u8 e.k, .int .i64 e.id, .int .i64 e.ep, .slice p1.a1 e.x.length p1.c1, .slice p1.a2 e.coms.length p1.c2, .slice p1.a3 e.next.length p1.c3, .slice p1.a4 e.deals.length p1.c4] 55) := ⟨_, rfl⟩
  go_wp2_with fail
  rw [← hw2]
  have hs2 : w2.heap.size = w1.heap.size + 1 := by rw [hw2]; simp
  have hOS : OEn wA.heap.size w2.heap.size w2 e p1 := by
    rw [hw2]
    exact (H1.out.1.kept (Kp.of_below ((Below.refl w1.heap.size w1).alloc (Nat.le_refl _) _) (Nat.le_refl _))).more (Nat.le_refl _) (by simp)
  have hC2 : Blk w2 w1.heap.size 55 #[.int .u8 e.k, .int .i64 e.id, .int .i64 e.ep, .slice p1.a1 e.x.length p1.c1, .slice p1.a2 e.coms.length p1.c2, .slice p1.a3 e.next.length p1.c3, .slice p1.a4 e.deals.length p1.c4] := by rw [hw2]; exact Blk.new w1 _ _
  have hZ2 : Blk w2 (w.heap.size + 1) 55 zero7 := by rw [hw2]; exact ((HA.out.2.2.below H1.out.2 (by rw [HA.out.1]; omega))).alloc _
  have hb2 : Below w.heap.size w w2 := by rw [hw2]; exact (HA.out.2.1.trans (H1.out.2.mono (by rw [HA.out.1]; omega))).alloc (by have := HA.out.1; omega) _
  have hzA := HA.out.1
  have HS := Lib.hid (spoil_any e p1 wA.heap.size w2 (by omega) hOS HN.out.1)
  have H2 := Lib.hid (And.intro hOS (And.intro hC2 (And.intro hZ2 hb2)))
  clear hw2 hOS hC2 hZ2 hb2 H1
  refine Calls.mono HS.out ?_
  rintro r w3 ⟨rfl, hsim⟩
  obtain ⟨e', hsh, ok', hO3⟩ := hsim.oen H2.out.1 HN.out.2.1
  have B3 := hsim.oth _ _ (by omega) H2.out.2.1
  have Z3 := hsim.oth _ _ (by omega) H2.out.2.2.1
  have H3 := Lib.hid (show PL w wA.heap.size w2.heap.size w1.heap.size e e' p1 e.id e.ep w3 from ⟨hsh, ok', hO3, B3, Z3, H2.out.2.2.2.trans (hsim.bel.mono (by omega)), by omega, by omega, by omega, hsim.bel.size⟩)
  obtain ⟨f0, f1, f2, f3, f4, f5, f6⟩ := B3.entry
  obtain ⟨y0, y1, y2, y3, y4, y5, y6⟩ := B3.seven_f
  have hlx := HN.out.1.next
  have hld := HN.out.1.deals
  clear hsim hsh ok' hO3 B3 Z3 HS H2 hsC
  by_cases h2 : e.k = 2
  · have hk2 : (e.k == 2) = true := by rw [h2]; rfl
    have hk3 : (e.k == 3) = false := by rw [h2]; rfl
    have hk4 : (e.k == 4) = false := by rw [h2]; rfl
    have h2' := Lib.hid h2
    clear h2
    have W5 := Lib.hid (((H3.out.id_ 0).ep_ 0).id_ (wrap64 (n.tmod 1099511627776)))
    have C5 := Lib.hid (show numB (wrap64 (n.tmod 1099511627776)) = true ∧ (e.k ≠ 2 → ((wrap64 (n.tmod 1099511627776)) : Int) = 0) ∧ numB 0 = true ∧ (e.k ≠ 3 → e.k ≠ 4 → (0 : Int) = 0) from And.intro (wm_numB (m := 1099511627776) HN.out.2.2 (by decide) (by decide)) (And.intro (fun x => absurd h2'.out x) (And.intro (by decide) (fun _ _ => rfl))))
    go_wp2_with fail
    obtain ⟨w5, hw5⟩ : ∃ w5, w5 = ((w3.setCell ⟨w1.heap.size, 1, none⟩ (.int .i64 0)).setCell ⟨w1.heap.size, 2, none⟩ (.int .i64 0)).setCell ⟨w1.heap.size, 1, none⟩ (.int .i64 (wrap64 (n.tmod 1099511627776))) := ⟨_, rfl⟩
    rw [← hw5]
    rw [← hw5] at W5
    have HF := Lib.hid (FL.start (n := n) W5.out)
    clear hw5 W5 H3 f0 f1 f2 f3 f4 f5 f6 y0 y1 y2 y3 y4 y5 y6
    go_loopw [6] (fun v wr => ∃ j : Nat, j ≤ e.next.length ∧ v = .int .i64 j ∧ FL w wA.heap.size w2.heap.size w1.heap.size e e' p1 (wrap64 (n.tmod 1099511627776)) 0 n w5 j 0 wr) (fun v _ => e.next.length - (intOf v).toNat)
    case atStart => exact ⟨0, Nat.zero_le _, rfl, HF.out⟩
    case round =>
      clear HF
      obtain ⟨j, hj, rfl, K1⟩ := hrel
      have f : wr.cell? ⟨w1.heap.size, 5, none⟩ = some (.slice p1.a3 e.next.length p1.c3) := K1.box.cell 5
      have hbx := K1.box.lt
      by_cases hlt : j < e.next.length
      · have hjI : (j : Int) < (e.next.length : Int) := by omega
        obtain ⟨q, cur, y, hpa, h1, _, hb, hc⟩ := K1.numN hlt
        have hcell : wr.cell? ⟨q, j, none⟩ = some (.int .i64 y) := (hb.cell j).trans hc
        have hfr := hb.frozen j
        have HK1 := Lib.hid (K1.nextN HN.out.2.2 hpa h1 hb hc)
        rw [hpa] at f
        clear hpa hb hc K1
        go_wp2_with fail
        go_roundw
        case rel => exact ⟨j + 1, by omega, by go_num, HK1.out⟩
        case measure => simp [intOf]; omega
      · have hnI : decide ((j : Int) < (e.next.length : Int)) = false := decide_eq_false (by omega)
        obtain rfl : j = e.next.length := by omega
        have HK := Lib.hid K1
        clear K1
        go_wp2_with fail
        clear hnI f
        go_loopw [7] (fun v wr => ∃ i : Nat, i ≤ e.deals.length ∧ v = .int .i64 i ∧ FL w wA.heap.size w2.heap.size w1.heap.size e e' p1 (wrap64 (n.tmod 1099511627776)) 0 n w5 e.next.length i wr) (fun v _ => e.deals.length - (intOf v).toNat)
        case atStart => exact ⟨0, Nat.zero_le _, rfl, HK.out⟩
        case round =>
          clear HK
          obtain ⟨i, hi, rfl, K1⟩ := hrel
          by_cases hlt2 : i < e.deals.length
          · have f : wr.cell? ⟨w1.heap.size, 6, none⟩ = some (.slice p1.a4 e.deals.length p1.c4) := K1.box.cell 6
            have hiI : (i : Int) < (e.deals.length : Int) := by omega
            obtain ⟨q, cur, y, hpa, h1, _, hb, hc⟩ := K1.numD hlt2
            have hcell : wr.cell? ⟨q, i * 2, none⟩ = some (.int .i64 y) := (hb.cell _).trans hc
            have hfr := hb.frozen (i * 2)
            have HK1 := Lib.hid (K1.nextD HN.out.2.2 hpa h1 hb hc)
            rw [hpa] at f
            clear hpa hb hc K1
            go_wp2_with fail
            go_roundw
            case rel => exact ⟨i + 1, by omega, by go_num, HK1.out⟩
            case measure => simp [intOf]; omega
          · have hnI : decide ((i : Int) < (e.deals.length : Int)) = false := decide_eq_false (by omega)
            obtain rfl : i = e.deals.length := by omega
            obtain ⟨u0, u1, u2, u3, u4, u5, u6⟩ := K1.box.seven
            obtain ⟨r0, r1, r2, r3, r4, r5, r6⟩ := K1.res.seven
            obtain ⟨y0, y1, y2, y3, y4, y5, y6⟩ := K1.res.seven_f
            have HK := Lib.hid K1
            clear K1
            go_wp2_with fail
            refine bodyPost_ret (v := .agg #[.int .u8 e.k, .int .i64 (wrap64 (n.tmod 1099511627776)), .int .i64 0, .slice p1.a1 e.x.length p1.c1, .slice p1.a2 e.coms.length p1.c2, .slice p1.a3 e.next.length p1.c3, .slice p1.a4 e.deals.length p1.c4]) (by simp [results, Try.results57, go_sem, r0, r1, r2, r3, r4, r5, r6]) rfl ?_
            exact fil_end HK.out HN.out.2.2 HN.out.1 C5.out.1 (by intros; first | rfl | exact C5.out.2.1 ‹_›) C5.out.2.2.1 (by intros; first | rfl | exact C5.out.2.2.2 ‹_› ‹_›)
  · by_cases h34 : e.k = 3 ∨ e.k = 4
    · have hk2 : (e.k == 2) = false := by simpa using h2
      have hk34 : (e.k == 3) = true ∨ ((e.k == 3) = false ∧ (e.k == 4) = true) := by
        rcases h34 with h | h
        · exact .inl (by rw [h]; rfl)
        · exact .inr ⟨by rw [h]; rfl, by rw [h]; rfl⟩
      have h2' := Lib.hid h34
      clear h2 h34
      rcases hk34 with hk3 | ⟨hk3, hk4⟩
      · skip
        have W5 := Lib.hid (((H3.out.id_ 0).ep_ 0).ep_ (wrap64 (n.tmod 1099511627776)))
        have C5 := Lib.hid (show numB 0 = true ∧ (e.k ≠ 2 → (0 : Int) = 0) ∧ numB (wrap64 (n.tmod 1099511627776)) = true ∧ (e.k ≠ 3 → e.k ≠ 4 → ((wrap64 (n.tmod 1099511627776)) : Int) = 0) from And.intro (by decide) (And.intro (fun _ => rfl) (And.intro (wm_numB (m := 1099511627776) HN.out.2.2 (by decide) (by decide)) (fun x y => absurd h2'.out (fun h => h.elim x y)))))
        go_wp2_with fail
        obtain ⟨w5, hw5⟩ : ∃ w5, w5 = ((w3.setCell ⟨w1.heap.size, 1, none⟩ (.int .i64 0)).setCell ⟨w1.heap.size, 2, none⟩ (.int .i64 0)).setCell ⟨w1.heap.size, 2, none⟩ (.int .i64 (wrap64 (n.tmod 1099511627776))) := ⟨_, rfl⟩
        rw [← hw5]
        rw [← hw5] at W5
        have HF := Lib.hid (FL.start (n := n) W5.out)
        clear hw5 W5 H3 f0 f1 f2 f3 f4 f5 f6 y0 y1 y2 y3 y4 y5 y6
        go_loopw [6] (fun v wr => ∃ j : Nat, j ≤ e.next.length ∧ v = .int .i64 j ∧ FL w wA.heap.size w2.heap.size w1.heap.size e e' p1 0 (wrap64 (n.tmod 1099511627776)) n w5 j 0 wr) (fun v _ => e.next.length - (intOf v).toNat)
        case atStart => exact ⟨0, Nat.zero_le _, rfl, HF.out⟩
        case round =>
          clear HF
          obtain ⟨j, hj, rfl, K1⟩ := hrel
          have f : wr.cell? ⟨w1.heap.size, 5, none⟩ = some (.slice p1.a3 e.next.length p1.c3) := K1.box.cell 5
          have hbx := K1.box.lt
          by_cases hlt : j < e.next.length
          · have hjI : (j : Int) < (e.next.length : Int) := by omega
            obtain ⟨q, cur, y, hpa, h1, _, hb, hc⟩ := K1.numN hlt
            have hcell : wr.cell? ⟨q, j, none⟩ = some (.int .i64 y) := (hb.cell j).trans hc
            have hfr := hb.frozen j
            have HK1 := Lib.hid (K1.nextN HN.out.2.2 hpa h1 hb hc)
            rw [hpa] at f
            clear hpa hb hc K1
            go_wp2_with fail
            go_roundw
            case rel => exact ⟨j + 1, by omega, by go_num, HK1.out⟩
            case measure => simp [intOf]; omega
          · have hnI : decide ((j : Int) < (e.next.length : Int)) = false := decide_eq_false (by omega)
            obtain rfl : j = e.next.length := by omega
            have HK := Lib.hid K1
            clear K1
            go_wp2_with fail
            clear hnI f
            go_loopw [7] (fun v wr => ∃ i : Nat, i ≤ e.deals.length ∧ v = .int .i64 i ∧ FL w wA.heap.size w2.heap.size w1.heap.size e e' p1 0 (wrap64 (n.tmod 1099511627776)) n w5 e.next.length i wr) (fun v _ => e.deals.length - (intOf v).toNat)
            case atStart => exact ⟨0, Nat.zero_le _, rfl, HK.out⟩
            case round =>
              clear HK
              obtain ⟨i, hi, rfl, K1⟩ := hrel
              by_cases hlt2 : i < e.deals.length
              · have f : wr.cell? ⟨w1.heap.size, 6, none⟩ = some (.slice p1.a4 e.deals.length p1.c4) := K1.box.cell 6
                have hiI : (i : Int) < (e.deals.length : Int) := by omega
                obtain ⟨q, cur, y, hpa, h1, _, hb, hc⟩ := K1.numD hlt2
                have hcell : wr.cell? ⟨q, i * 2, none⟩ = some (.int .i64 y) := (hb.cell _).trans hc
                have hfr := hb.frozen (i * 2)
                have HK1 := Lib.hid (K1.nextD HN.out.2.2 hpa h1 hb hc)
                rw [hpa] at f
                clear hpa hb hc K1
                go_wp2_with fail
                go_roundw
                case rel => exact ⟨i + 1, by omega, by go_num, HK1.out⟩
                case measure => simp [intOf]; omega
              · have hnI : decide ((i : Int) < (e.deals.length : Int)) = false := decide_eq_false (by omega)
                obtain rfl : i = e.deals.length := by omega
                obtain ⟨u0, u1, u2, u3, u4, u5, u6⟩ := K1.box.seven
                obtain ⟨r0, r1, r2, r3, r4, r5, r6⟩ := K1.res.seven
                obtain ⟨y0, y1, y2, y3, y4, y5, y6⟩ := K1.res.seven_f
                have HK := Lib.hid K1
                clear K1
                go_wp2_with fail
                refine bodyPost_ret (v := .agg #[.int .u8 e.k, .int .i64 0, .int .i64 (wrap64 (n.tmod 1099511627776)), .slice p1.a1 e.x.length p1.c1, .slice p1.a2 e.coms.length p1.c2, .slice p1.a3 e.next.length p1.c3, .slice p1.a4 e.deals.length p1.c4]) (by simp [results, Try.results57, go_sem, r0, r1, r2, r3, r4, r5, r6]) rfl ?_
                exact fil_end HK.out HN.out.2.2 HN.out.1 C5.out.1 (by intros; first | rfl | exact C5.out.2.1 ‹_›) C5.out.2.2.1 (by intros; first | rfl | exact C5.out.2.2.2 ‹_› ‹_›)
      · skip
        have W5 := Lib.hid (((H3.out.id_ 0).ep_ 0).ep_ (wrap64 (n.tmod 1099511627776)))
        have C5 := Lib.hid (show numB 0 = true ∧ (e.k ≠ 2 → (0 : Int) = 0) ∧ numB (wrap64 (n.tmod 1099511627776)) = true ∧ (e.k ≠ 3 → e.k ≠ 4 → ((wrap64 (n.tmod 1099511627776)) : Int) = 0) from And.intro (by decide) (And.intro (fun _ => rfl) (And.intro (wm_numB (m := 1099511627776) HN.out.2.2 (by decide) (by decide)) (fun x y => absurd h2'.out (fun h => h.elim x y)))))
        go_wp2_with fail
        obtain ⟨w5, hw5⟩ : ∃ w5, w5 = ((w3.setCell ⟨w1.heap.size, 1, none⟩ (.int .i64 0)).setCell ⟨w1.heap.size, 2, none⟩ (.int .i64 0)).setCell ⟨w1.heap.size, 2, none⟩ (.int .i64 (wrap64 (n.tmod 1099511627776))) := ⟨_, rfl⟩
        rw [← hw5]
        rw [← hw5] at W5
        have HF := Lib.hid (FL.start (n := n) W5.out)
        clear hw5 W5 H3 f0 f1 f2 f3 f4 f5 f6 y0 y1 y2 y3 y4 y5 y6
        go_loopw [6] (fun v wr => ∃ j : Nat, j ≤ e.next.length ∧ v = .int .i64 j ∧ FL w wA.heap.size w2.heap.size w1.heap.size e e' p1 0 (wrap64 (n.tmod 1099511627776)) n w5 j 0 wr) (fun v _ => e.next.length - (intOf v).toNat)
        case atStart => exact ⟨0, Nat.zero_le _, rfl, HF.out⟩
        case round =>
          clear HF
          obtain ⟨j, hj, rfl, K1⟩ := hrel
          have f : wr.cell? ⟨w1.heap.size, 5, none⟩ = some (.slice p1.a3 e.next.length p1.c3) := K1.box.cell 5
          have hbx := K1.box.lt
          by_cases hlt : j < e.next.length
          · have hjI : (j : Int) < (e.next.length : Int) := by omega
            obtain ⟨q, cur, y, hpa, h1, _, hb, hc⟩ := K1.numN hlt
            have hcell : wr.cell? ⟨q, j, none⟩ = some (.int .i64 y) := (hb.cell j).trans hc
            have hfr := hb.frozen j
            have HK1 := Lib.hid (K1.nextN HN.out.2.2 hpa h1 hb hc)
            rw [hpa] at f
            clear hpa hb hc K1
            go_wp2_with fail
            go_roundw
            case rel => exact ⟨j + 1, by omega, by go_num, HK1.out⟩
            case measure => simp [intOf]; omega
          · have hnI : decide ((j : Int) < (e.next.length : Int)) = false := decide_eq_false (by omega)
            obtain rfl : j = e.next.length := by omega
            have HK := Lib.hid K1
            clear K1
            go_wp2_with fail
            clear hnI f
            go_loopw [7] (fun v wr => ∃ i : Nat, i ≤ e.deals.length ∧ v = .int .i64 i ∧ FL w wA.heap.size w2.heap.size w1.heap.size e e' p1 0 (wrap64 (n.tmod 1099511627776)) n w5 e.next.length i wr) (fun v _ => e.deals.length - (intOf v).toNat)
            case atStart => exact ⟨0, Nat.zero_le _, rfl, HK.out⟩
            case round =>
              clear HK
              obtain ⟨i, hi, rfl, K1⟩ := hrel
              by_cases hlt2 : i < e.deals.length
              · have f : wr.cell? ⟨w1.heap.size, 6, none⟩ = some (.slice p1.a4 e.deals.length p1.c4) := K1.box.cell 6
                have hiI : (i : Int) < (e.deals.length : Int) := by omega
                obtain ⟨q, cur, y, hpa, h1, _, hb, hc⟩ := K1.numD hlt2
                have hcell : wr.cell? ⟨q, i * 2, none⟩ = some (.int .i64 y) := (hb.cell _).trans hc
                have hfr := hb.frozen (i * 2)
                have HK1 := Lib.hid (K1.nextD HN.out.2.2 hpa h1 hb hc)
                rw [hpa] at f
                clear hpa hb hc K1
                go_wp2_with fail
                go_roundw
                case rel => exact ⟨i + 1, by omega, by go_num, HK1.out⟩
                case measure => simp [intOf]; omega
              · have hnI : decide ((i : Int) < (e.deals.length : Int)) = false := decide_eq_false (by omega)
                obtain rfl : i = e.deals.length := by omega
                obtain ⟨u0, u1, u2, u3, u4, u5, u6⟩ := K1.box.seven
                obtain ⟨r0, r1, r2, r3, r4, r5, r6⟩ := K1.res.seven
                obtain ⟨y0, y1, y2, y3, y4, y5, y6⟩ := K1.res.seven_f
                have HK := Lib.hid K1
                clear K1
                go_wp2_with fail
                refine bodyPost_ret (v := .agg #[.int .u8 e.k, .int .i64 0, .int .i64 (wrap64 (n.tmod 1099511627776)), .slice p1.a1 e.x.length p1.c1, .slice p1.a2 e.coms.length p1.c2, .slice p1.a3 e.next.length p1.c3, .slice p1.a4 e.deals.length p1.c4]) (by simp [results, Try.results57, go_sem, r0, r1, r2, r3, r4, r5, r6]) rfl ?_
                exact fil_end HK.out HN.out.2.2 HN.out.1 C5.out.1 (by intros; first | rfl | exact C5.out.2.1 ‹_›) C5.out.2.2.1 (by intros; first | rfl | exact C5.out.2.2.2 ‹_› ‹_›)
    · have hk2 : (e.k == 2) = false := by simpa using h2
      have hk3 : (e.k == 3) = false := by simpa using fun h => h34 (.inl h)
      have hk4 : (e.k == 4) = false := by simpa using fun h => h34 (.inr h)
      clear h2 h34
      have W5 := Lib.hid ((H3.out.id_ 0).ep_ 0)
      have C5 := Lib.hid (show numB 0 = true ∧ (e.k ≠ 2 → (0 : Int) = 0) ∧ numB 0 = true ∧ (e.k ≠ 3 → e.k ≠ 4 → (0 : Int) = 0) from And.intro (by decide) (And.intro (fun _ => rfl) (And.intro (show numB 0 = true by decide) (fun _ _ => rfl))))
      go_wp2_with fail
      obtain ⟨w5, hw5⟩ : ∃ w5, w5 = ((w3.setCell ⟨w1.heap.size, 1, none⟩ (.int .i64 0)).setCell ⟨w1.heap.size, 2, none⟩ (.int .i64 0)) := ⟨_, rfl⟩
      rw [← hw5]
      rw [← hw5] at W5
      have HF := Lib.hid (FL.start (n := n) W5.out)
      clear hw5 W5 H3 f0 f1 f2 f3 f4 f5 f6 y0 y1 y2 y3 y4 y5 y6
      go_loopw [6] (fun v wr => ∃ j : Nat, j ≤ e.next.length ∧ v = .int .i64 j ∧ FL w wA.heap.size w2.heap.size w1.heap.size e e' p1 0 0 n w5 j 0 wr) (fun v _ => e.next.length - (intOf v).toNat)
      case atStart => exact ⟨0, Nat.zero_le _, rfl, HF.out⟩
      case round =>
        clear HF
        obtain ⟨j, hj, rfl, K1⟩ := hrel
        have f : wr.cell? ⟨w1.heap.size, 5, none⟩ = some (.slice p1.a3 e.next.length p1.c3) := K1.box.cell 5
        have hbx := K1.box.lt
        by_cases hlt : j < e.next.length
        · have hjI : (j : Int) < (e.next.length : Int) := by omega
          obtain ⟨q, cur, y, hpa, h1, _, hb, hc⟩ := K1.numN hlt
          have hcell : wr.cell? ⟨q, j, none⟩ = some (.int .i64 y) := (hb.cell j).trans hc
          have hfr := hb.frozen j
          have HK1 := Lib.hid (K1.nextN HN.out.2.2 hpa h1 hb hc)
          rw [hpa] at f
          clear hpa hb hc K1
          go_wp2_with fail
          go_roundw
          case rel => exact ⟨j + 1, by omega, by go_num, HK1.out⟩
          case measure => simp [intOf]; omega
        · have hnI : decide ((j : Int) < (e.next.length : Int)) = false := decide_eq_false (by omega)
          obtain rfl : j = e.next.length := by omega
          have HK := Lib.hid K1
          clear K1
          go_wp2_with fail
          clear hnI f
          go_loopw [7] (fun v wr => ∃ i : Nat, i ≤ e.deals.length ∧ v = .int .i64 i ∧ FL w wA.heap.size w2.heap.size w1.heap.size e e' p1 0 0 n w5 e.next.length i wr) (fun v _ => e.deals.length - (intOf v).toNat)
          case atStart => exact ⟨0, Nat.zero_le _, rfl, HK.out⟩
          case round =>
            clear HK
            obtain ⟨i, hi, rfl, K1⟩ := hrel
            by_cases hlt2 : i < e.deals.length
            · have f : wr.cell? ⟨w1.heap.size, 6, none⟩ = some (.slice p1.a4 e.deals.length p1.c4) := K1.box.cell 6
              have hiI : (i : Int) < (e.deals.length : Int) := by omega
              obtain ⟨q, cur, y, hpa, h1, _, hb, hc⟩ := K1.numD hlt2
              have hcell : wr.cell? ⟨q, i * 2, none⟩ = some (.int .i64 y) := (hb.cell _).trans hc
              have hfr := hb.frozen (i * 2)
              have HK1 := Lib.hid (K1.nextD HN.out.2.2 hpa h1 hb hc)
              rw [hpa] at f
              clear hpa hb hc K1
              go_wp2_with fail
              go_roundw
              case rel => exact ⟨i + 1, by omega, by go_num, HK1.out⟩
              case measure => simp [intOf]; omega
            · have hnI : decide ((i : Int) < (e.deals.length : Int)) = false := decide_eq_false (by omega)
              obtain rfl : i = e.deals.length := by omega
              obtain ⟨u0, u1, u2, u3, u4, u5, u6⟩ := K1.box.seven
              obtain ⟨r0, r1, r2, r3, r4, r5, r6⟩ := K1.res.seven
              obtain ⟨y0, y1, y2, y3, y4, y5, y6⟩ := K1.res.seven_f
              have HK := Lib.hid K1
              clear K1
              go_wp2_with fail
              refine bodyPost_ret (v := .agg #[.int .u8 e.k, .int .i64 0, .int .i64 0, .slice p1.a1 e.x.length p1.c1, .slice p1.a2 e.coms.length p1.c2, .slice p1.a3 e.next.length p1.c3, .slice p1.a4 e.deals.length p1.c4]) (by simp [results, Try.results57, go_sem, r0, r1, r2, r3, r4, r5, r6]) rfl ?_
              exact fil_end HK.out HN.out.2.2 HN.out.1 C5.out.1 (by intros; first | rfl | exact C5.out.2.1 ‹_›) C5.out.2.2.1 (by intros; first | rfl | exact C5.out.2.2.2 ‹_› ‹_›)
end Go.Proofs.Ytdnkijljpmcejaa
