/-
  consistoryref13.number, formed: has an entry its form?
-/
import Derived.Test.YtdnkijljpmcejaaGreatEForm2
namespace Go.Proofs.YtdnkijljpmcejaaGreat
open Go.RowKit

set_option maxHeartbeats 400000 in
theorem rnumber_any (n : Int) (w : World) : Calls Tryz.prog 72 #[.int .i64 n] w (Bl (numB n) w) := by
  by_cases h0 : 0 ≤ n
  · by_cases h1 : n ≤ 1099511627776
    · have e : numB n = true := numB_iff.2 ⟨h0, h1⟩
      rw [e]
      clear e
      go_enter Tryz.func72, Tryz.ntmps72
      go_wp2_with fail
      go_ret
      exact ⟨rfl, rfl⟩
    · have e : numB n = false := by rw [Bool.eq_false_iff]; exact fun h => h1 (numB_iff.1 h).2
      have h2 : decide (n ≤ 1099511627776) = false := by simpa using h1
      rw [e]
      clear e h1
      go_enter Tryz.func72, Tryz.ntmps72
      go_wp2_with fail
      go_ret
      exact ⟨rfl, rfl⟩
  · have e : numB n = false := by rw [Bool.eq_false_iff]; exact fun h => h0 (numB_iff.1 h).1
    have h2 : decide (0 ≤ n) = false := by simpa using h0
    rw [e]
    clear e h0
    go_enter Tryz.func72, Tryz.ntmps72
    go_wp2_with fail
    go_ret
    exact ⟨rfl, rfl⟩

set_option maxRecDepth 100000 in
set_option maxHeartbeats 4000000 in
theorem rformed_1 (e : En) (p : Ad) (w : World) (hL : e.Lim) (hN : NEn w w.heap.size e p) (hk : e.k = 1) :
    Calls Tryz.prog 29 #[.agg #[.int .u8 e.k, .int .i64 e.id, .int .i64 e.ep, .slice p.a1 e.x.length p.c1, .slice p.a2 e.coms.length p.c2, .slice p.a3 e.next.length p.c3, .slice p.a4 e.deals.length p.c4]] w (BoolPost e.form w) := by
  obtain ⟨w0, hw0⟩ : ∃ w0, w0 = w.alloc (.cells #[.int .u8 e.k, .int .i64 e.id, .int .i64 e.ep, .slice p.a1 e.x.length p.c1, .slice p.a2 e.coms.length p.c2, .slice p.a3 e.next.length p.c3, .slice p.a4 e.deals.length p.c4] 27) := ⟨_, rfl⟩
  have B0 : Below w.heap.size w w0 := by rw [hw0]; exact (Below.refl _ w).alloc (Nat.le_refl _) _
  have K0 : Blk w0 w.heap.size 27 #[.int .u8 e.k, .int .i64 e.id, .int .i64 e.ep, .slice p.a1 e.x.length p.c1, .slice p.a2 e.coms.length p.c2, .slice p.a3 e.next.length p.c3, .slice p.a4 e.deals.length p.c4] := by rw [hw0]; exact Blk.new w _ _
  have HW := Lib.hid hw0
  have HB := Lib.hid (And.intro K0 (And.intro B0 (hN.step B0)))
  have HC := Lib.hid hL.col
  obtain ⟨l1, l2, l3, l4, -, -, -⟩ := hL
  obtain ⟨f0, f1, f2, f3, f4, f5, f6⟩ := K0.entry
  have HK := Lib.hid hk
  have hk1 : (e.k == 1) = true := by rw [hk]; rfl
  have hk2 : (e.k == 2) = false := by rw [hk]; rfl
  have hk3 : (e.k == 3) = false := by rw [hk]; rfl
  have hk4 : (e.k == 4) = false := by rw [hk]; rfl
  clear hw0 hN B0 K0 hk
  go_enter Tryz.func29, Tryz.ntmps29
  go_upto_region 1 with fail
  rw [← HW.out]
  clear HW
  go_quiet (fail)
  by_cases h_id : e.id = 0
  case neg =>
    have b_id : (e.id != 0) = true := by simp [h_id]
    have HX := Lib.hid (show e.form = false by rw [Bool.eq_false_iff]; intro hc; simp only [En.form, En.none, Bool.and_eq_true, Bool.or_eq_true, beq_iff_eq, decide_eq_true_eq] at hc; have hk := HK.out; omega)
    clear h_id
    go_wp2_with fail
    go_ret
    exact ⟨ret_bool HX.out.symm, below_drewN HB.out.2.1 _⟩
  have b_id : (e.id != 0) = false := by simp [h_id]
  by_cases h_x : e.x.length = 0
  case neg =>
    have b_x : ((e.x.length : Int) != 0) = true := by rw [bne_iff_ne]; omega
    have HX := Lib.hid (show e.form = false by rw [Bool.eq_false_iff]; intro hc; simp only [En.form, En.none, Bool.and_eq_true, Bool.or_eq_true, beq_iff_eq, decide_eq_true_eq] at hc; have hk := HK.out; omega)
    clear h_x
    go_wp2_with fail
    go_ret
    exact ⟨ret_bool HX.out.symm, below_drewN HB.out.2.1 _⟩
  have b_x : ((e.x.length : Int) != 0) = false := by rw [h_x]; rfl
  by_cases h_next : e.next.length = 0
  case neg =>
    have b_next : ((e.next.length : Int) != 0) = true := by rw [bne_iff_ne]; omega
    have HX := Lib.hid (show e.form = false by rw [Bool.eq_false_iff]; intro hc; simp only [En.form, En.none, Bool.and_eq_true, Bool.or_eq_true, beq_iff_eq, decide_eq_true_eq] at hc; have hk := HK.out; omega)
    clear h_next
    go_wp2_with fail
    go_ret
    exact ⟨ret_bool HX.out.symm, below_drewN HB.out.2.1 _⟩
  have b_next : ((e.next.length : Int) != 0) = false := by rw [h_next]; rfl
  by_cases h_deals : e.deals.length = 0
  case neg =>
    have b_deals : ((e.deals.length : Int) != 0) = true := by rw [bne_iff_ne]; omega
    have HX := Lib.hid (show e.form = false by rw [Bool.eq_false_iff]; intro hc; simp only [En.form, En.none, Bool.and_eq_true, Bool.or_eq_true, beq_iff_eq, decide_eq_true_eq] at hc; have hk := HK.out; omega)
    clear h_deals
    go_wp2_with fail
    go_ret
    exact ⟨ret_bool HX.out.symm, below_drewN HB.out.2.1 _⟩
  have b_deals : ((e.deals.length : Int) != 0) = false := by rw [h_deals]; rfl
  by_cases h_ep : e.ep = 0
  case neg =>
    have b_ep : (e.ep != 0) = true := by simp [h_ep]
    have HX := Lib.hid (show e.form = false by rw [Bool.eq_false_iff]; intro hc; simp only [En.form, En.none, Bool.and_eq_true, Bool.or_eq_true, beq_iff_eq, decide_eq_true_eq] at hc; have hk := HK.out; omega)
    clear h_ep
    go_wp2_with fail
    go_ret
    exact ⟨ret_bool HX.out.symm, below_drewN HB.out.2.1 _⟩
  have b_ep : (e.ep != 0) = false := by simp [h_ep]
  have HN := Lib.hid (show e.none = true ∧ (1 ≤ e.k) ∧ (e.k ≤ 4) from ⟨by simp [En.none, HK.out, h_id, h_x, h_next, h_deals, h_ep] <;> omega, by have := HK.out; omega, by have := HK.out; omega⟩)
  clear h_id h_x h_next h_deals h_ep
  by_cases q_id : numB e.id = true
  case neg =>
    have q_id : numB e.id = false := by simpa using q_id
    have HX := Lib.hid (show e.form = false by simp [En.form, q_id])
    clear HN
    go_wp2_with fail
    refine (rnumber_any e.id _).mono ?_
    rintro e2 w' ⟨rfl, rfl⟩
    rw [q_id]
    clear q_id
    go_wp2_with fail
    go_ret
    exact ⟨ret_bool HX.out.symm, below_drewN HB.out.2.1 _⟩
  by_cases q_ep : numB e.ep = true
  case neg =>
    have q_ep : numB e.ep = false := by simpa using q_ep
    have HX := Lib.hid (show e.form = false by simp [En.form, q_ep])
    clear HN
    go_wp2_with fail
    refine (rnumber_any e.id _).mono ?_
    rintro e2 w' ⟨rfl, rfl⟩
    rw [q_id]
    clear q_id
    go_wp2_with fail
    refine (rnumber_any e.ep _).mono ?_
    rintro e2 w' ⟨rfl, rfl⟩
    rw [q_ep]
    clear q_ep
    go_wp2_with fail
    go_ret
    exact ⟨ret_bool HX.out.symm, below_drewN HB.out.2.1 _⟩
  by_cases m_x : e.x.length ≤ 255
  case neg =>
    have HX := Lib.hid (show e.form = false by rw [Bool.eq_false_iff]; intro hc; simp only [En.form, Bool.and_eq_true, decide_eq_true_eq] at hc; omega)
    have d_x : decide (255 < (e.x.length : Int)) = true := decide_eq_true (by omega)
    clear HN
    go_wp2_with fail
    refine (rnumber_any e.id _).mono ?_
    rintro e2 w' ⟨rfl, rfl⟩
    rw [q_id]
    clear q_id
    go_wp2_with fail
    refine (rnumber_any e.ep _).mono ?_
    rintro e2 w' ⟨rfl, rfl⟩
    rw [q_ep]
    clear q_ep
    go_wp2_with fail
    go_ret
    exact ⟨ret_bool HX.out.symm, below_drewN HB.out.2.1 _⟩
  have d_x : decide (255 < (e.x.length : Int)) = false := decide_eq_false (by omega)
  by_cases m_coms : e.coms.length ≤ 255
  case neg =>
    have HX := Lib.hid (show e.form = false by rw [Bool.eq_false_iff]; intro hc; simp only [En.form, Bool.and_eq_true, decide_eq_true_eq] at hc; omega)
    have d_coms : decide (255 < (e.coms.length : Int)) = true := decide_eq_true (by omega)
    clear HN
    go_wp2_with fail
    refine (rnumber_any e.id _).mono ?_
    rintro e2 w' ⟨rfl, rfl⟩
    rw [q_id]
    clear q_id
    go_wp2_with fail
    refine (rnumber_any e.ep _).mono ?_
    rintro e2 w' ⟨rfl, rfl⟩
    rw [q_ep]
    clear q_ep
    go_wp2_with fail
    go_ret
    exact ⟨ret_bool HX.out.symm, below_drewN HB.out.2.1 _⟩
  have d_coms : decide (255 < (e.coms.length : Int)) = false := decide_eq_false (by omega)
  by_cases m_next : e.next.length ≤ 255
  case neg =>
    have HX := Lib.hid (show e.form = false by rw [Bool.eq_false_iff]; intro hc; simp only [En.form, Bool.and_eq_true, decide_eq_true_eq] at hc; omega)
    have d_next : decide (255 < (e.next.length : Int)) = true := decide_eq_true (by omega)
    clear HN
    go_wp2_with fail
    refine (rnumber_any e.id _).mono ?_
    rintro e2 w' ⟨rfl, rfl⟩
    rw [q_id]
    clear q_id
    go_wp2_with fail
    refine (rnumber_any e.ep _).mono ?_
    rintro e2 w' ⟨rfl, rfl⟩
    rw [q_ep]
    clear q_ep
    go_wp2_with fail
    go_ret
    exact ⟨ret_bool HX.out.symm, below_drewN HB.out.2.1 _⟩
  have d_next : decide (255 < (e.next.length : Int)) = false := decide_eq_false (by omega)
  by_cases m_deals : e.deals.length ≤ 255
  case neg =>
    have HX := Lib.hid (show e.form = false by rw [Bool.eq_false_iff]; intro hc; simp only [En.form, Bool.and_eq_true, decide_eq_true_eq] at hc; omega)
    have d_deals : decide (255 < (e.deals.length : Int)) = true := decide_eq_true (by omega)
    clear HN
    go_wp2_with fail
    refine (rnumber_any e.id _).mono ?_
    rintro e2 w' ⟨rfl, rfl⟩
    rw [q_id]
    clear q_id
    go_wp2_with fail
    refine (rnumber_any e.ep _).mono ?_
    rintro e2 w' ⟨rfl, rfl⟩
    rw [q_ep]
    clear q_ep
    go_wp2_with fail
    go_ret
    exact ⟨ret_bool HX.out.symm, below_drewN HB.out.2.1 _⟩
  have d_deals : decide (255 < (e.deals.length : Int)) = false := decide_eq_false (by omega)
  have HX := Lib.hid (show e.form = (e.next.all numB && e.deals.all dlB) by simp [En.form, HN.out.1, HN.out.2.1, HN.out.2.2, q_id, q_ep, m_x, m_coms, m_next, m_deals, Bool.and_comm])
  clear HN
  go_wp2_with fail
  refine (rnumber_any e.id _).mono ?_
  rintro e2 w' ⟨rfl, rfl⟩
  rw [q_id]
  clear q_id
  go_wp2_with fail
  refine (rnumber_any e.ep _).mono ?_
  rintro e2 w' ⟨rfl, rfl⟩
  rw [q_ep]
  clear q_ep
  go_wp2_with fail
  clear d_x d_coms d_next d_deals
  go_loopw [7] (fun v wr => ∃ j : Nat, j ≤ e.next.length ∧ v = .int .i64 j ∧ (e.next.take j).all numB = true ∧ ∃ nd, w0.drewN nd = wr) (fun v _ => e.next.length - (intOf v).toNat)
  case atStart => exact ⟨0, Nat.zero_le _, rfl, rfl, _, rfl⟩
  case round =>
    obtain ⟨j, hj, rfl, ha, nd, rfl⟩ := hrel
    by_cases hlt : j < e.next.length
    · obtain ⟨x, hx⟩ : ∃ x, e.next[j]? = some x := ⟨_, List.getElem?_eq_getElem hlt⟩
      have hjI : (j : Int) < (e.next.length : Int) := by omega
      obtain ⟨b, o, hb, hc0⟩ : ∃ b o, p.a3 = some ⟨b, o, none⟩ ∧ w0.cell? ⟨b, o + j, none⟩ = some (.int .i64 x) := by
        rcases HB.out.2.2.next with h0 | ⟨b, o, hb, hbl, hc⟩
        · rw [h0] at hlt; simp at hlt
        · exact ⟨b, o, hb, hc j x hx⟩
      have HD := Lib.hid (And.intro hx ha)
      rw [hb] at f5
      clear hx ha hb
      cases hq : numB x with
      | true =>
        have HQ := Lib.hid hq
        go_wp2_with fail
        refine (rnumber_any x _).mono ?_
        rintro e2 w' ⟨rfl, rfl⟩
        rw [hq]
        clear hq
        go_wp2_with fail
        go_roundw
        case rel => exact ⟨j + 1, by omega, by go_num, by rw [all_take HD.out.1, HD.out.2, HQ.out]; rfl, _, rfl⟩
        case measure => simp [intOf]; omega
      | false =>
        have HQ := Lib.hid hq
        go_wp2_with fail
        refine (rnumber_any x _).mono ?_
        rintro e2 w' ⟨rfl, rfl⟩
        rw [hq]
        clear hq
        go_wp2_with fail
        go_ret
        exact ⟨ret_bool (by rw [HX.out, all_not HD.out.1 HQ.out]; rfl), below_drewN HB.out.2.1 _⟩
    · have hnI : decide ((j : Int) < (e.next.length : Int)) = false := decide_eq_false (by omega)
      obtain rfl : j = e.next.length := by omega
      rw [List.take_length] at ha
      have HA := Lib.hid ha
      clear ha
      go_wp2_with fail
      clear hnI
      go_loopw [8] (fun v wr => ∃ j : Nat, j ≤ e.deals.length ∧ v = .int .i64 j ∧ (e.deals.take j).all dlB = true ∧ ∃ nd, w0.drewN nd = wr) (fun v _ => e.deals.length - (intOf v).toNat)
      case atStart => exact ⟨0, Nat.zero_le _, rfl, rfl, _, rfl⟩
      case round =>
        obtain ⟨j, hj, rfl, ha, nd, rfl⟩ := hrel
        by_cases hlt : j < e.deals.length
        · obtain ⟨d, hd⟩ : ∃ d, e.deals[j]? = some d := ⟨_, List.getElem?_eq_getElem hlt⟩
          have hjI : (j : Int) < (e.deals.length : Int) := by omega
          obtain ⟨b, o, hb, a', c', hc0, hc1⟩ : ∃ b o, p.a4 = some ⟨b, o, none⟩ ∧ ∃ a' c', w0.cell? ⟨b, o + j * 2, none⟩ = some (.int .i64 d.1) ∧ w0.cell? ⟨b, o + j * 2 + 1, none⟩ = some (.slice a' d.2.length c') := by
            rcases HB.out.2.2.deals with h0 | ⟨b, o, ha, hbl, hc⟩
            · rw [h0] at hlt; simp at hlt
            · obtain ⟨a', c', x0, x1, x2⟩ := hc j d hd
              exact ⟨b, o, ha, a', c', x0, x1⟩
          have hcl := HC.out d (List.mem_of_getElem? hd)
          have HD := Lib.hid (And.intro hd ha)
          rw [hb] at f6
          clear hd ha hb
          cases hq : numB d.1 with
          | true =>
            by_cases hm : d.2.length ≤ 255
            · have hgd : decide (255 < (d.2.length : Int)) = false := decide_eq_false (by omega)
              have HQ := Lib.hid (show dlB d = true by simp [dlB, hq, hm])
              go_wp2_with fail
              refine (rnumber_any d.1 _).mono ?_
              rintro e2 w' ⟨rfl, rfl⟩
              rw [hq]
              clear hq
              go_wp2_with fail
              go_roundw
              case rel => exact ⟨j + 1, by omega, by go_num, by rw [all_take HD.out.1, HD.out.2, HQ.out]; rfl, _, rfl⟩
              case measure => simp [intOf]; omega
            · have hgd : decide (255 < (d.2.length : Int)) = true := decide_eq_true (by omega)
              have HQ := Lib.hid (show dlB d = false by simp [dlB, hm])
              go_wp2_with fail
              refine (rnumber_any d.1 _).mono ?_
              rintro e2 w' ⟨rfl, rfl⟩
              rw [hq]
              clear hq
              go_wp2_with fail
              go_ret
              exact ⟨ret_bool (by rw [HX.out, HA.out, all_not HD.out.1 HQ.out]; rfl), below_drewN HB.out.2.1 _⟩
          | false =>
            have HQ := Lib.hid (show dlB d = false by simp [dlB, hq])
            go_wp2_with fail
            refine (rnumber_any d.1 _).mono ?_
            rintro e2 w' ⟨rfl, rfl⟩
            rw [hq]
            clear hq
            go_wp2_with fail
            go_ret
            exact ⟨ret_bool (by rw [HX.out, HA.out, all_not HD.out.1 HQ.out]; rfl), below_drewN HB.out.2.1 _⟩
        · have hnI : decide ((j : Int) < (e.deals.length : Int)) = false := decide_eq_false (by omega)
          obtain rfl : j = e.deals.length := by omega
          rw [List.take_length] at ha
          have HA2 := Lib.hid ha
          clear ha
          go_wp2_with fail
          go_ret
          exact ⟨ret_bool (by rw [HX.out, HA.out, HA2.out]; rfl), below_drewN HB.out.2.1 _⟩
set_option maxRecDepth 100000 in
set_option maxHeartbeats 4000000 in
theorem rformed_2 (e : En) (p : Ad) (w : World) (hL : e.Lim) (hN : NEn w w.heap.size e p) (hk : e.k = 2) :
    Calls Tryz.prog 29 #[.agg #[.int .u8 e.k, .int .i64 e.id, .int .i64 e.ep, .slice p.a1 e.x.length p.c1, .slice p.a2 e.coms.length p.c2, .slice p.a3 e.next.length p.c3, .slice p.a4 e.deals.length p.c4]] w (BoolPost e.form w) := by
  obtain ⟨w0, hw0⟩ : ∃ w0, w0 = w.alloc (.cells #[.int .u8 e.k, .int .i64 e.id, .int .i64 e.ep, .slice p.a1 e.x.length p.c1, .slice p.a2 e.coms.length p.c2, .slice p.a3 e.next.length p.c3, .slice p.a4 e.deals.length p.c4] 27) := ⟨_, rfl⟩
  have B0 : Below w.heap.size w w0 := by rw [hw0]; exact (Below.refl _ w).alloc (Nat.le_refl _) _
  have K0 : Blk w0 w.heap.size 27 #[.int .u8 e.k, .int .i64 e.id, .int .i64 e.ep, .slice p.a1 e.x.length p.c1, .slice p.a2 e.coms.length p.c2, .slice p.a3 e.next.length p.c3, .slice p.a4 e.deals.length p.c4] := by rw [hw0]; exact Blk.new w _ _
  have HW := Lib.hid hw0
  have HB := Lib.hid (And.intro K0 (And.intro B0 (hN.step B0)))
  have HC := Lib.hid hL.col
  obtain ⟨l1, l2, l3, l4, -, -, -⟩ := hL
  obtain ⟨f0, f1, f2, f3, f4, f5, f6⟩ := K0.entry
  have HK := Lib.hid hk
  have hk1 : (e.k == 1) = false := by rw [hk]; rfl
  have hk2 : (e.k == 2) = true := by rw [hk]; rfl
  have hk3 : (e.k == 3) = false := by rw [hk]; rfl
  have hk4 : (e.k == 4) = false := by rw [hk]; rfl
  clear hw0 hN B0 K0 hk
  go_enter Tryz.func29, Tryz.ntmps29
  go_upto_region 1 with fail
  rw [← HW.out]
  clear HW
  go_quiet (fail)
  by_cases h_coms : e.coms.length = 0
  case neg =>
    have b_coms : ((e.coms.length : Int) != 0) = true := by rw [bne_iff_ne]; omega
    have HX := Lib.hid (show e.form = false by rw [Bool.eq_false_iff]; intro hc; simp only [En.form, En.none, Bool.and_eq_true, Bool.or_eq_true, beq_iff_eq, decide_eq_true_eq] at hc; have hk := HK.out; omega)
    clear h_coms
    go_wp2_with fail
    go_ret
    exact ⟨ret_bool HX.out.symm, below_drewN HB.out.2.1 _⟩
  have b_coms : ((e.coms.length : Int) != 0) = false := by rw [h_coms]; rfl
  by_cases h_next : e.next.length = 0
  case neg =>
    have b_next : ((e.next.length : Int) != 0) = true := by rw [bne_iff_ne]; omega
    have HX := Lib.hid (show e.form = false by rw [Bool.eq_false_iff]; intro hc; simp only [En.form, En.none, Bool.and_eq_true, Bool.or_eq_true, beq_iff_eq, decide_eq_true_eq] at hc; have hk := HK.out; omega)
    clear h_next
    go_wp2_with fail
    go_ret
    exact ⟨ret_bool HX.out.symm, below_drewN HB.out.2.1 _⟩
  have b_next : ((e.next.length : Int) != 0) = false := by rw [h_next]; rfl
  by_cases h_deals : e.deals.length = 0
  case neg =>
    have b_deals : ((e.deals.length : Int) != 0) = true := by rw [bne_iff_ne]; omega
    have HX := Lib.hid (show e.form = false by rw [Bool.eq_false_iff]; intro hc; simp only [En.form, En.none, Bool.and_eq_true, Bool.or_eq_true, beq_iff_eq, decide_eq_true_eq] at hc; have hk := HK.out; omega)
    clear h_deals
    go_wp2_with fail
    go_ret
    exact ⟨ret_bool HX.out.symm, below_drewN HB.out.2.1 _⟩
  have b_deals : ((e.deals.length : Int) != 0) = false := by rw [h_deals]; rfl
  by_cases h_ep : e.ep = 0
  case neg =>
    have b_ep : (e.ep != 0) = true := by simp [h_ep]
    have HX := Lib.hid (show e.form = false by rw [Bool.eq_false_iff]; intro hc; simp only [En.form, En.none, Bool.and_eq_true, Bool.or_eq_true, beq_iff_eq, decide_eq_true_eq] at hc; have hk := HK.out; omega)
    clear h_ep
    go_wp2_with fail
    go_ret
    exact ⟨ret_bool HX.out.symm, below_drewN HB.out.2.1 _⟩
  have b_ep : (e.ep != 0) = false := by simp [h_ep]
  have HN := Lib.hid (show e.none = true ∧ (1 ≤ e.k) ∧ (e.k ≤ 4) from ⟨by simp [En.none, HK.out, h_coms, h_next, h_deals, h_ep] <;> omega, by have := HK.out; omega, by have := HK.out; omega⟩)
  clear h_coms h_next h_deals h_ep
  by_cases q_id : numB e.id = true
  case neg =>
    have q_id : numB e.id = false := by simpa using q_id
    have HX := Lib.hid (show e.form = false by simp [En.form, q_id])
    clear HN
    go_wp2_with fail
    refine (rnumber_any e.id _).mono ?_
    rintro e2 w' ⟨rfl, rfl⟩
    rw [q_id]
    clear q_id
    go_wp2_with fail
    go_ret
    exact ⟨ret_bool HX.out.symm, below_drewN HB.out.2.1 _⟩
  by_cases q_ep : numB e.ep = true
  case neg =>
    have q_ep : numB e.ep = false := by simpa using q_ep
    have HX := Lib.hid (show e.form = false by simp [En.form, q_ep])
    clear HN
    go_wp2_with fail
    refine (rnumber_any e.id _).mono ?_
    rintro e2 w' ⟨rfl, rfl⟩
    rw [q_id]
    clear q_id
    go_wp2_with fail
    refine (rnumber_any e.ep _).mono ?_
    rintro e2 w' ⟨rfl, rfl⟩
    rw [q_ep]
    clear q_ep
    go_wp2_with fail
    go_ret
    exact ⟨ret_bool HX.out.symm, below_drewN HB.out.2.1 _⟩
  by_cases m_x : e.x.length ≤ 255
  case neg =>
    have HX := Lib.hid (show e.form = false by rw [Bool.eq_false_iff]; intro hc; simp only [En.form, Bool.and_eq_true, decide_eq_true_eq] at hc; omega)
    have d_x : decide (255 < (e.x.length : Int)) = true := decide_eq_true (by omega)
    clear HN
    go_wp2_with fail
    refine (rnumber_any e.id _).mono ?_
    rintro e2 w' ⟨rfl, rfl⟩
    rw [q_id]
    clear q_id
    go_wp2_with fail
    refine (rnumber_any e.ep _).mono ?_
    rintro e2 w' ⟨rfl, rfl⟩
    rw [q_ep]
    clear q_ep
    go_wp2_with fail
    go_ret
    exact ⟨ret_bool HX.out.symm, below_drewN HB.out.2.1 _⟩
  have d_x : decide (255 < (e.x.length : Int)) = false := decide_eq_false (by omega)
  by_cases m_coms : e.coms.length ≤ 255
  case neg =>
    have HX := Lib.hid (show e.form = false by rw [Bool.eq_false_iff]; intro hc; simp only [En.form, Bool.and_eq_true, decide_eq_true_eq] at hc; omega)
    have d_coms : decide (255 < (e.coms.length : Int)) = true := decide_eq_true (by omega)
    clear HN
    go_wp2_with fail
    refine (rnumber_any e.id _).mono ?_
    rintro e2 w' ⟨rfl, rfl⟩
    rw [q_id]
    clear q_id
    go_wp2_with fail
    refine (rnumber_any e.ep _).mono ?_
    rintro e2 w' ⟨rfl, rfl⟩
    rw [q_ep]
    clear q_ep
    go_wp2_with fail
    go_ret
    exact ⟨ret_bool HX.out.symm, below_drewN HB.out.2.1 _⟩
  have d_coms : decide (255 < (e.coms.length : Int)) = false := decide_eq_false (by omega)
  by_cases m_next : e.next.length ≤ 255
  case neg =>
    have HX := Lib.hid (show e.form = false by rw [Bool.eq_false_iff]; intro hc; simp only [En.form, Bool.and_eq_true, decide_eq_true_eq] at hc; omega)
    have d_next : decide (255 < (e.next.length : Int)) = true := decide_eq_true (by omega)
    clear HN
    go_wp2_with fail
    refine (rnumber_any e.id _).mono ?_
    rintro e2 w' ⟨rfl, rfl⟩
    rw [q_id]
    clear q_id
    go_wp2_with fail
    refine (rnumber_any e.ep _).mono ?_
    rintro e2 w' ⟨rfl, rfl⟩
    rw [q_ep]
    clear q_ep
    go_wp2_with fail
    go_ret
    exact ⟨ret_bool HX.out.symm, below_drewN HB.out.2.1 _⟩
  have d_next : decide (255 < (e.next.length : Int)) = false := decide_eq_false (by omega)
  by_cases m_deals : e.deals.length ≤ 255
  case neg =>
    have HX := Lib.hid (show e.form = false by rw [Bool.eq_false_iff]; intro hc; simp only [En.form, Bool.and_eq_true, decide_eq_true_eq] at hc; omega)
    have d_deals : decide (255 < (e.deals.length : Int)) = true := decide_eq_true (by omega)
    clear HN
    go_wp2_with fail
    refine (rnumber_any e.id _).mono ?_
    rintro e2 w' ⟨rfl, rfl⟩
    rw [q_id]
    clear q_id
    go_wp2_with fail
    refine (rnumber_any e.ep _).mono ?_
    rintro e2 w' ⟨rfl, rfl⟩
    rw [q_ep]
    clear q_ep
    go_wp2_with fail
    go_ret
    exact ⟨ret_bool HX.out.symm, below_drewN HB.out.2.1 _⟩
  have d_deals : decide (255 < (e.deals.length : Int)) = false := decide_eq_false (by omega)
  have HX := Lib.hid (show e.form = (e.next.all numB && e.deals.all dlB) by simp [En.form, HN.out.1, HN.out.2.1, HN.out.2.2, q_id, q_ep, m_x, m_coms, m_next, m_deals, Bool.and_comm])
  clear HN
  go_wp2_with fail
  refine (rnumber_any e.id _).mono ?_
  rintro e2 w' ⟨rfl, rfl⟩
  rw [q_id]
  clear q_id
  go_wp2_with fail
  refine (rnumber_any e.ep _).mono ?_
  rintro e2 w' ⟨rfl, rfl⟩
  rw [q_ep]
  clear q_ep
  go_wp2_with fail
  clear d_x d_coms d_next d_deals
  go_loopw [7] (fun v wr => ∃ j : Nat, j ≤ e.next.length ∧ v = .int .i64 j ∧ (e.next.take j).all numB = true ∧ ∃ nd, w0.drewN nd = wr) (fun v _ => e.next.length - (intOf v).toNat)
  case atStart => exact ⟨0, Nat.zero_le _, rfl, rfl, _, rfl⟩
  case round =>
    obtain ⟨j, hj, rfl, ha, nd, rfl⟩ := hrel
    by_cases hlt : j < e.next.length
    · obtain ⟨x, hx⟩ : ∃ x, e.next[j]? = some x := ⟨_, List.getElem?_eq_getElem hlt⟩
      have hjI : (j : Int) < (e.next.length : Int) := by omega
      obtain ⟨b, o, hb, hc0⟩ : ∃ b o, p.a3 = some ⟨b, o, none⟩ ∧ w0.cell? ⟨b, o + j, none⟩ = some (.int .i64 x) := by
        rcases HB.out.2.2.next with h0 | ⟨b, o, hb, hbl, hc⟩
        · rw [h0] at hlt; simp at hlt
        · exact ⟨b, o, hb, hc j x hx⟩
      have HD := Lib.hid (And.intro hx ha)
      rw [hb] at f5
      clear hx ha hb
      cases hq : numB x with
      | true =>
        have HQ := Lib.hid hq
        go_wp2_with fail
        refine (rnumber_any x _).mono ?_
        rintro e2 w' ⟨rfl, rfl⟩
        rw [hq]
        clear hq
        go_wp2_with fail
        go_roundw
        case rel => exact ⟨j + 1, by omega, by go_num, by rw [all_take HD.out.1, HD.out.2, HQ.out]; rfl, _, rfl⟩
        case measure => simp [intOf]; omega
      | false =>
        have HQ := Lib.hid hq
        go_wp2_with fail
        refine (rnumber_any x _).mono ?_
        rintro e2 w' ⟨rfl, rfl⟩
        rw [hq]
        clear hq
        go_wp2_with fail
        go_ret
        exact ⟨ret_bool (by rw [HX.out, all_not HD.out.1 HQ.out]; rfl), below_drewN HB.out.2.1 _⟩
    · have hnI : decide ((j : Int) < (e.next.length : Int)) = false := decide_eq_false (by omega)
      obtain rfl : j = e.next.length := by omega
      rw [List.take_length] at ha
      have HA := Lib.hid ha
      clear ha
      go_wp2_with fail
      clear hnI
      go_loopw [8] (fun v wr => ∃ j : Nat, j ≤ e.deals.length ∧ v = .int .i64 j ∧ (e.deals.take j).all dlB = true ∧ ∃ nd, w0.drewN nd = wr) (fun v _ => e.deals.length - (intOf v).toNat)
      case atStart => exact ⟨0, Nat.zero_le _, rfl, rfl, _, rfl⟩
      case round =>
        obtain ⟨j, hj, rfl, ha, nd, rfl⟩ := hrel
        by_cases hlt : j < e.deals.length
        · obtain ⟨d, hd⟩ : ∃ d, e.deals[j]? = some d := ⟨_, List.getElem?_eq_getElem hlt⟩
          have hjI : (j : Int) < (e.deals.length : Int) := by omega
          obtain ⟨b, o, hb, a', c', hc0, hc1⟩ : ∃ b o, p.a4 = some ⟨b, o, none⟩ ∧ ∃ a' c', w0.cell? ⟨b, o + j * 2, none⟩ = some (.int .i64 d.1) ∧ w0.cell? ⟨b, o + j * 2 + 1, none⟩ = some (.slice a' d.2.length c') := by
            rcases HB.out.2.2.deals with h0 | ⟨b, o, ha, hbl, hc⟩
            · rw [h0] at hlt; simp at hlt
            · obtain ⟨a', c', x0, x1, x2⟩ := hc j d hd
              exact ⟨b, o, ha, a', c', x0, x1⟩
          have hcl := HC.out d (List.mem_of_getElem? hd)
          have HD := Lib.hid (And.intro hd ha)
          rw [hb] at f6
          clear hd ha hb
          cases hq : numB d.1 with
          | true =>
            by_cases hm : d.2.length ≤ 255
            · have hgd : decide (255 < (d.2.length : Int)) = false := decide_eq_false (by omega)
              have HQ := Lib.hid (show dlB d = true by simp [dlB, hq, hm])
              go_wp2_with fail
              refine (rnumber_any d.1 _).mono ?_
              rintro e2 w' ⟨rfl, rfl⟩
              rw [hq]
              clear hq
              go_wp2_with fail
              go_roundw
              case rel => exact ⟨j + 1, by omega, by go_num, by rw [all_take HD.out.1, HD.out.2, HQ.out]; rfl, _, rfl⟩
              case measure => simp [intOf]; omega
            · have hgd : decide (255 < (d.2.length : Int)) = true := decide_eq_true (by omega)
              have HQ := Lib.hid (show dlB d = false by simp [dlB, hm])
              go_wp2_with fail
              refine (rnumber_any d.1 _).mono ?_
              rintro e2 w' ⟨rfl, rfl⟩
              rw [hq]
              clear hq
              go_wp2_with fail
              go_ret
              exact ⟨ret_bool (by rw [HX.out, HA.out, all_not HD.out.1 HQ.out]; rfl), below_drewN HB.out.2.1 _⟩
          | false =>
            have HQ := Lib.hid (show dlB d = false by simp [dlB, hq])
            go_wp2_with fail
            refine (rnumber_any d.1 _).mono ?_
            rintro e2 w' ⟨rfl, rfl⟩
            rw [hq]
            clear hq
            go_wp2_with fail
            go_ret
            exact ⟨ret_bool (by rw [HX.out, HA.out, all_not HD.out.1 HQ.out]; rfl), below_drewN HB.out.2.1 _⟩
        · have hnI : decide ((j : Int) < (e.deals.length : Int)) = false := decide_eq_false (by omega)
          obtain rfl : j = e.deals.length := by omega
          rw [List.take_length] at ha
          have HA2 := Lib.hid ha
          clear ha
          go_wp2_with fail
          go_ret
          exact ⟨ret_bool (by rw [HX.out, HA.out, HA2.out]; rfl), below_drewN HB.out.2.1 _⟩
set_option maxRecDepth 100000 in
set_option maxHeartbeats 4000000 in
theorem rformed_3 (e : En) (p : Ad) (w : World) (hL : e.Lim) (hN : NEn w w.heap.size e p) (hk : e.k = 3) :
    Calls Tryz.prog 29 #[.agg #[.int .u8 e.k, .int .i64 e.id, .int .i64 e.ep, .slice p.a1 e.x.length p.c1, .slice p.a2 e.coms.length p.c2, .slice p.a3 e.next.length p.c3, .slice p.a4 e.deals.length p.c4]] w (BoolPost e.form w) := by
  obtain ⟨w0, hw0⟩ : ∃ w0, w0 = w.alloc (.cells #[.int .u8 e.k, .int .i64 e.id, .int .i64 e.ep, .slice p.a1 e.x.length p.c1, .slice p.a2 e.coms.length p.c2, .slice p.a3 e.next.length p.c3, .slice p.a4 e.deals.length p.c4] 27) := ⟨_, rfl⟩
  have B0 : Below w.heap.size w w0 := by rw [hw0]; exact (Below.refl _ w).alloc (Nat.le_refl _) _
  have K0 : Blk w0 w.heap.size 27 #[.int .u8 e.k, .int .i64 e.id, .int .i64 e.ep, .slice p.a1 e.x.length p.c1, .slice p.a2 e.coms.length p.c2, .slice p.a3 e.next.length p.c3, .slice p.a4 e.deals.length p.c4] := by rw [hw0]; exact Blk.new w _ _
  have HW := Lib.hid hw0
  have HB := Lib.hid (And.intro K0 (And.intro B0 (hN.step B0)))
  have HC := Lib.hid hL.col
  obtain ⟨l1, l2, l3, l4, -, -, -⟩ := hL
  obtain ⟨f0, f1, f2, f3, f4, f5, f6⟩ := K0.entry
  have HK := Lib.hid hk
  have hk1 : (e.k == 1) = false := by rw [hk]; rfl
  have hk2 : (e.k == 2) = false := by rw [hk]; rfl
  have hk3 : (e.k == 3) = true := by rw [hk]; rfl
  have hk4 : (e.k == 4) = false := by rw [hk]; rfl
  clear hw0 hN B0 K0 hk
  go_enter Tryz.func29, Tryz.ntmps29
  go_upto_region 1 with fail
  rw [← HW.out]
  clear HW
  go_quiet (fail)
  by_cases h_id : e.id = 0
  case neg =>
    have b_id : (e.id != 0) = true := by simp [h_id]
    have HX := Lib.hid (show e.form = false by rw [Bool.eq_false_iff]; intro hc; simp only [En.form, En.none, Bool.and_eq_true, Bool.or_eq_true, beq_iff_eq, decide_eq_true_eq] at hc; have hk := HK.out; omega)
    clear h_id
    go_wp2_with fail
    go_ret
    exact ⟨ret_bool HX.out.symm, below_drewN HB.out.2.1 _⟩
  have b_id : (e.id != 0) = false := by simp [h_id]
  by_cases h_x : e.x.length = 0
  case neg =>
    have b_x : ((e.x.length : Int) != 0) = true := by rw [bne_iff_ne]; omega
    have HX := Lib.hid (show e.form = false by rw [Bool.eq_false_iff]; intro hc; simp only [En.form, En.none, Bool.and_eq_true, Bool.or_eq_true, beq_iff_eq, decide_eq_true_eq] at hc; have hk := HK.out; omega)
    clear h_x
    go_wp2_with fail
    go_ret
    exact ⟨ret_bool HX.out.symm, below_drewN HB.out.2.1 _⟩
  have b_x : ((e.x.length : Int) != 0) = false := by rw [h_x]; rfl
  by_cases h_coms : e.coms.length = 0
  case neg =>
    have b_coms : ((e.coms.length : Int) != 0) = true := by rw [bne_iff_ne]; omega
    have HX := Lib.hid (show e.form = false by rw [Bool.eq_false_iff]; intro hc; simp only [En.form, En.none, Bool.and_eq_true, Bool.or_eq_true, beq_iff_eq, decide_eq_true_eq] at hc; have hk := HK.out; omega)
    clear h_coms
    go_wp2_with fail
    go_ret
    exact ⟨ret_bool HX.out.symm, below_drewN HB.out.2.1 _⟩
  have b_coms : ((e.coms.length : Int) != 0) = false := by rw [h_coms]; rfl
  by_cases h_deals : e.deals.length = 0
  case neg =>
    have b_deals : ((e.deals.length : Int) != 0) = true := by rw [bne_iff_ne]; omega
    have HX := Lib.hid (show e.form = false by rw [Bool.eq_false_iff]; intro hc; simp only [En.form, En.none, Bool.and_eq_true, Bool.or_eq_true, beq_iff_eq, decide_eq_true_eq] at hc; have hk := HK.out; omega)
    clear h_deals
    go_wp2_with fail
    go_ret
    exact ⟨ret_bool HX.out.symm, below_drewN HB.out.2.1 _⟩
  have b_deals : ((e.deals.length : Int) != 0) = false := by rw [h_deals]; rfl
  have HN := Lib.hid (show e.none = true ∧ (1 ≤ e.k) ∧ (e.k ≤ 4) from ⟨by simp [En.none, HK.out, h_id, h_x, h_coms, h_deals] <;> omega, by have := HK.out; omega, by have := HK.out; omega⟩)
  clear h_id h_x h_coms h_deals
  by_cases q_id : numB e.id = true
  case neg =>
    have q_id : numB e.id = false := by simpa using q_id
    have HX := Lib.hid (show e.form = false by simp [En.form, q_id])
    clear HN
    go_wp2_with fail
    refine (rnumber_any e.id _).mono ?_
    rintro e2 w' ⟨rfl, rfl⟩
    rw [q_id]
    clear q_id
    go_wp2_with fail
    go_ret
    exact ⟨ret_bool HX.out.symm, below_drewN HB.out.2.1 _⟩
  by_cases q_ep : numB e.ep = true
  case neg =>
    have q_ep : numB e.ep = false := by simpa using q_ep
    have HX := Lib.hid (show e.form = false by simp [En.form, q_ep])
    clear HN
    go_wp2_with fail
    refine (rnumber_any e.id _).mono ?_
    rintro e2 w' ⟨rfl, rfl⟩
    rw [q_id]
    clear q_id
    go_wp2_with fail
    refine (rnumber_any e.ep _).mono ?_
    rintro e2 w' ⟨rfl, rfl⟩
    rw [q_ep]
    clear q_ep
    go_wp2_with fail
    go_ret
    exact ⟨ret_bool HX.out.symm, below_drewN HB.out.2.1 _⟩
  by_cases m_x : e.x.length ≤ 255
  case neg =>
    have HX := Lib.hid (show e.form = false by rw [Bool.eq_false_iff]; intro hc; simp only [En.form, Bool.and_eq_true, decide_eq_true_eq] at hc; omega)
    have d_x : decide (255 < (e.x.length : Int)) = true := decide_eq_true (by omega)
    clear HN
    go_wp2_with fail
    refine (rnumber_any e.id _).mono ?_
    rintro e2 w' ⟨rfl, rfl⟩
    rw [q_id]
    clear q_id
    go_wp2_with fail
    refine (rnumber_any e.ep _).mono ?_
    rintro e2 w' ⟨rfl, rfl⟩
    rw [q_ep]
    clear q_ep
    go_wp2_with fail
    go_ret
    exact ⟨ret_bool HX.out.symm, below_drewN HB.out.2.1 _⟩
  have d_x : decide (255 < (e.x.length : Int)) = false := decide_eq_false (by omega)
  by_cases m_coms : e.coms.length ≤ 255
  case neg =>
    have HX := Lib.hid (show e.form = false by rw [Bool.eq_false_iff]; intro hc; simp only [En.form, Bool.and_eq_true, decide_eq_true_eq] at hc; omega)
    have d_coms : decide (255 < (e.coms.length : Int)) = true := decide_eq_true (by omega)
    clear HN
    go_wp2_with fail
    refine (rnumber_any e.id _).mono ?_
    rintro e2 w' ⟨rfl, rfl⟩
    rw [q_id]
    clear q_id
    go_wp2_with fail
    refine (rnumber_any e.ep _).mono ?_
    rintro e2 w' ⟨rfl, rfl⟩
    rw [q_ep]
    clear q_ep
    go_wp2_with fail
    go_ret
    exact ⟨ret_bool HX.out.symm, below_drewN HB.out.2.1 _⟩
  have d_coms : decide (255 < (e.coms.length : Int)) = false := decide_eq_false (by omega)
  by_cases m_next : e.next.length ≤ 255
  case neg =>
    have HX := Lib.hid (show e.form = false by rw [Bool.eq_false_iff]; intro hc; simp only [En.form, Bool.and_eq_true, decide_eq_true_eq] at hc; omega)
    have d_next : decide (255 < (e.next.length : Int)) = true := decide_eq_true (by omega)
    clear HN
    go_wp2_with fail
    refine (rnumber_any e.id _).mono ?_
    rintro e2 w' ⟨rfl, rfl⟩
    rw [q_id]
    clear q_id
    go_wp2_with fail
    refine (rnumber_any e.ep _).mono ?_
    rintro e2 w' ⟨rfl, rfl⟩
    rw [q_ep]
    clear q_ep
    go_wp2_with fail
    go_ret
    exact ⟨ret_bool HX.out.symm, below_drewN HB.out.2.1 _⟩
  have d_next : decide (255 < (e.next.length : Int)) = false := decide_eq_false (by omega)
  by_cases m_deals : e.deals.length ≤ 255
  case neg =>
    have HX := Lib.hid (show e.form = false by rw [Bool.eq_false_iff]; intro hc; simp only [En.form, Bool.and_eq_true, decide_eq_true_eq] at hc; omega)
    have d_deals : decide (255 < (e.deals.length : Int)) = true := decide_eq_true (by omega)
    clear HN
    go_wp2_with fail
    refine (rnumber_any e.id _).mono ?_
    rintro e2 w' ⟨rfl, rfl⟩
    rw [q_id]
    clear q_id
    go_wp2_with fail
    refine (rnumber_any e.ep _).mono ?_
    rintro e2 w' ⟨rfl, rfl⟩
    rw [q_ep]
    clear q_ep
    go_wp2_with fail
    go_ret
    exact ⟨ret_bool HX.out.symm, below_drewN HB.out.2.1 _⟩
  have d_deals : decide (255 < (e.deals.length : Int)) = false := decide_eq_false (by omega)
  have HX := Lib.hid (show e.form = (e.next.all numB && e.deals.all dlB) by simp [En.form, HN.out.1, HN.out.2.1, HN.out.2.2, q_id, q_ep, m_x, m_coms, m_next, m_deals, Bool.and_comm])
  clear HN
  go_wp2_with fail
  refine (rnumber_any e.id _).mono ?_
  rintro e2 w' ⟨rfl, rfl⟩
  rw [q_id]
  clear q_id
  go_wp2_with fail
  refine (rnumber_any e.ep _).mono ?_
  rintro e2 w' ⟨rfl, rfl⟩
  rw [q_ep]
  clear q_ep
  go_wp2_with fail
  clear d_x d_coms d_next d_deals
  go_loopw [7] (fun v wr => ∃ j : Nat, j ≤ e.next.length ∧ v = .int .i64 j ∧ (e.next.take j).all numB = true ∧ ∃ nd, w0.drewN nd = wr) (fun v _ => e.next.length - (intOf v).toNat)
  case atStart => exact ⟨0, Nat.zero_le _, rfl, rfl, _, rfl⟩
  case round =>
    obtain ⟨j, hj, rfl, ha, nd, rfl⟩ := hrel
    by_cases hlt : j < e.next.length
    · obtain ⟨x, hx⟩ : ∃ x, e.next[j]? = some x := ⟨_, List.getElem?_eq_getElem hlt⟩
      have hjI : (j : Int) < (e.next.length : Int) := by omega
      obtain ⟨b, o, hb, hc0⟩ : ∃ b o, p.a3 = some ⟨b, o, none⟩ ∧ w0.cell? ⟨b, o + j, none⟩ = some (.int .i64 x) := by
        rcases HB.out.2.2.next with h0 | ⟨b, o, hb, hbl, hc⟩
        · rw [h0] at hlt; simp at hlt
        · exact ⟨b, o, hb, hc j x hx⟩
      have HD := Lib.hid (And.intro hx ha)
      rw [hb] at f5
      clear hx ha hb
      cases hq : numB x with
      | true =>
        have HQ := Lib.hid hq
        go_wp2_with fail
        refine (rnumber_any x _).mono ?_
        rintro e2 w' ⟨rfl, rfl⟩
        rw [hq]
        clear hq
        go_wp2_with fail
        go_roundw
        case rel => exact ⟨j + 1, by omega, by go_num, by rw [all_take HD.out.1, HD.out.2, HQ.out]; rfl, _, rfl⟩
        case measure => simp [intOf]; omega
      | false =>
        have HQ := Lib.hid hq
        go_wp2_with fail
        refine (rnumber_any x _).mono ?_
        rintro e2 w' ⟨rfl, rfl⟩
        rw [hq]
        clear hq
        go_wp2_with fail
        go_ret
        exact ⟨ret_bool (by rw [HX.out, all_not HD.out.1 HQ.out]; rfl), below_drewN HB.out.2.1 _⟩
    · have hnI : decide ((j : Int) < (e.next.length : Int)) = false := decide_eq_false (by omega)
      obtain rfl : j = e.next.length := by omega
      rw [List.take_length] at ha
      have HA := Lib.hid ha
      clear ha
      go_wp2_with fail
      clear hnI
      go_loopw [8] (fun v wr => ∃ j : Nat, j ≤ e.deals.length ∧ v = .int .i64 j ∧ (e.deals.take j).all dlB = true ∧ ∃ nd, w0.drewN nd = wr) (fun v _ => e.deals.length - (intOf v).toNat)
      case atStart => exact ⟨0, Nat.zero_le _, rfl, rfl, _, rfl⟩
      case round =>
        obtain ⟨j, hj, rfl, ha, nd, rfl⟩ := hrel
        by_cases hlt : j < e.deals.length
        · obtain ⟨d, hd⟩ : ∃ d, e.deals[j]? = some d := ⟨_, List.getElem?_eq_getElem hlt⟩
          have hjI : (j : Int) < (e.deals.length : Int) := by omega
          obtain ⟨b, o, hb, a', c', hc0, hc1⟩ : ∃ b o, p.a4 = some ⟨b, o, none⟩ ∧ ∃ a' c', w0.cell? ⟨b, o + j * 2, none⟩ = some (.int .i64 d.1) ∧ w0.cell? ⟨b, o + j * 2 + 1, none⟩ = some (.slice a' d.2.length c') := by
            rcases HB.out.2.2.deals with h0 | ⟨b, o, ha, hbl, hc⟩
            · rw [h0] at hlt; simp at hlt
            · obtain ⟨a', c', x0, x1, x2⟩ := hc j d hd
              exact ⟨b, o, ha, a', c', x0, x1⟩
          have hcl := HC.out d (List.mem_of_getElem? hd)
          have HD := Lib.hid (And.intro hd ha)
          rw [hb] at f6
          clear hd ha hb
          cases hq : numB d.1 with
          | true =>
            by_cases hm : d.2.length ≤ 255
            · have hgd : decide (255 < (d.2.length : Int)) = false := decide_eq_false (by omega)
              have HQ := Lib.hid (show dlB d = true by simp [dlB, hq, hm])
              go_wp2_with fail
              refine (rnumber_any d.1 _).mono ?_
              rintro e2 w' ⟨rfl, rfl⟩
              rw [hq]
              clear hq
              go_wp2_with fail
              go_roundw
              case rel => exact ⟨j + 1, by omega, by go_num, by rw [all_take HD.out.1, HD.out.2, HQ.out]; rfl, _, rfl⟩
              case measure => simp [intOf]; omega
            · have hgd : decide (255 < (d.2.length : Int)) = true := decide_eq_true (by omega)
              have HQ := Lib.hid (show dlB d = false by simp [dlB, hm])
              go_wp2_with fail
              refine (rnumber_any d.1 _).mono ?_
              rintro e2 w' ⟨rfl, rfl⟩
              rw [hq]
              clear hq
              go_wp2_with fail
              go_ret
              exact ⟨ret_bool (by rw [HX.out, HA.out, all_not HD.out.1 HQ.out]; rfl), below_drewN HB.out.2.1 _⟩
          | false =>
            have HQ := Lib.hid (show dlB d = false by simp [dlB, hq])
            go_wp2_with fail
            refine (rnumber_any d.1 _).mono ?_
            rintro e2 w' ⟨rfl, rfl⟩
            rw [hq]
            clear hq
            go_wp2_with fail
            go_ret
            exact ⟨ret_bool (by rw [HX.out, HA.out, all_not HD.out.1 HQ.out]; rfl), below_drewN HB.out.2.1 _⟩
        · have hnI : decide ((j : Int) < (e.deals.length : Int)) = false := decide_eq_false (by omega)
          obtain rfl : j = e.deals.length := by omega
          rw [List.take_length] at ha
          have HA2 := Lib.hid ha
          clear ha
          go_wp2_with fail
          go_ret
          exact ⟨ret_bool (by rw [HX.out, HA.out, HA2.out]; rfl), below_drewN HB.out.2.1 _⟩
set_option maxRecDepth 100000 in
set_option maxHeartbeats 4000000 in
theorem rformed_4 (e : En) (p : Ad) (w : World) (hL : e.Lim) (hN : NEn w w.heap.size e p) (hk : e.k = 4) :
    Calls Tryz.prog 29 #[.agg #[.int .u8 e.k, .int .i64 e.id, .int .i64 e.ep, .slice p.a1 e.x.length p.c1, .slice p.a2 e.coms.length p.c2, .slice p.a3 e.next.length p.c3, .slice p.a4 e.deals.length p.c4]] w (BoolPost e.form w) := by
  obtain ⟨w0, hw0⟩ : ∃ w0, w0 = w.alloc (.cells #[.int .u8 e.k, .int .i64 e.id, .int .i64 e.ep, .slice p.a1 e.x.length p.c1, .slice p.a2 e.coms.length p.c2, .slice p.a3 e.next.length p.c3, .slice p.a4 e.deals.length p.c4] 27) := ⟨_, rfl⟩
  have B0 : Below w.heap.size w w0 := by rw [hw0]; exact (Below.refl _ w).alloc (Nat.le_refl _) _
  have K0 : Blk w0 w.heap.size 27 #[.int .u8 e.k, .int .i64 e.id, .int .i64 e.ep, .slice p.a1 e.x.length p.c1, .slice p.a2 e.coms.length p.c2, .slice p.a3 e.next.length p.c3, .slice p.a4 e.deals.length p.c4] := by rw [hw0]; exact Blk.new w _ _
  have HW := Lib.hid hw0
  have HB := Lib.hid (And.intro K0 (And.intro B0 (hN.step B0)))
  have HC := Lib.hid hL.col
  obtain ⟨l1, l2, l3, l4, -, -, -⟩ := hL
  obtain ⟨f0, f1, f2, f3, f4, f5, f6⟩ := K0.entry
  have HK := Lib.hid hk
  have hk1 : (e.k == 1) = false := by rw [hk]; rfl
  have hk2 : (e.k == 2) = false := by rw [hk]; rfl
  have hk3 : (e.k == 3) = false := by rw [hk]; rfl
  have hk4 : (e.k == 4) = true := by rw [hk]; rfl
  clear hw0 hN B0 K0 hk
  go_enter Tryz.func29, Tryz.ntmps29
  go_upto_region 1 with fail
  rw [← HW.out]
  clear HW
  go_quiet (fail)
  by_cases h_id : e.id = 0
  case neg =>
    have b_id : (e.id != 0) = true := by simp [h_id]
    have HX := Lib.hid (show e.form = false by rw [Bool.eq_false_iff]; intro hc; simp only [En.form, En.none, Bool.and_eq_true, Bool.or_eq_true, beq_iff_eq, decide_eq_true_eq] at hc; have hk := HK.out; omega)
    clear h_id
    go_wp2_with fail
    go_ret
    exact ⟨ret_bool HX.out.symm, below_drewN HB.out.2.1 _⟩
  have b_id : (e.id != 0) = false := by simp [h_id]
  by_cases h_x : e.x.length = 0
  case neg =>
    have b_x : ((e.x.length : Int) != 0) = true := by rw [bne_iff_ne]; omega
    have HX := Lib.hid (show e.form = false by rw [Bool.eq_false_iff]; intro hc; simp only [En.form, En.none, Bool.and_eq_true, Bool.or_eq_true, beq_iff_eq, decide_eq_true_eq] at hc; have hk := HK.out; omega)
    clear h_x
    go_wp2_with fail
    go_ret
    exact ⟨ret_bool HX.out.symm, below_drewN HB.out.2.1 _⟩
  have b_x : ((e.x.length : Int) != 0) = false := by rw [h_x]; rfl
  by_cases h_coms : e.coms.length = 0
  case neg =>
    have b_coms : ((e.coms.length : Int) != 0) = true := by rw [bne_iff_ne]; omega
    have HX := Lib.hid (show e.form = false by rw [Bool.eq_false_iff]; intro hc; simp only [En.form, En.none, Bool.and_eq_true, Bool.or_eq_true, beq_iff_eq, decide_eq_true_eq] at hc; have hk := HK.out; omega)
    clear h_coms
    go_wp2_with fail
    go_ret
    exact ⟨ret_bool HX.out.symm, below_drewN HB.out.2.1 _⟩
  have b_coms : ((e.coms.length : Int) != 0) = false := by rw [h_coms]; rfl
  by_cases h_next : e.next.length = 0
  case neg =>
    have b_next : ((e.next.length : Int) != 0) = true := by rw [bne_iff_ne]; omega
    have HX := Lib.hid (show e.form = false by rw [Bool.eq_false_iff]; intro hc; simp only [En.form, En.none, Bool.and_eq_true, Bool.or_eq_true, beq_iff_eq, decide_eq_true_eq] at hc; have hk := HK.out; omega)
    clear h_next
    go_wp2_with fail
    go_ret
    exact ⟨ret_bool HX.out.symm, below_drewN HB.out.2.1 _⟩
  have b_next : ((e.next.length : Int) != 0) = false := by rw [h_next]; rfl
  have HN := Lib.hid (show e.none = true ∧ (1 ≤ e.k) ∧ (e.k ≤ 4) from ⟨by simp [En.none, HK.out, h_id, h_x, h_coms, h_next] <;> omega, by have := HK.out; omega, by have := HK.out; omega⟩)
  clear h_id h_x h_coms h_next
  by_cases q_id : numB e.id = true
  case neg =>
    have q_id : numB e.id = false := by simpa using q_id
    have HX := Lib.hid (show e.form = false by simp [En.form, q_id])
    clear HN
    go_wp2_with fail
    refine (rnumber_any e.id _).mono ?_
    rintro e2 w' ⟨rfl, rfl⟩
    rw [q_id]
    clear q_id
    go_wp2_with fail
    go_ret
    exact ⟨ret_bool HX.out.symm, below_drewN HB.out.2.1 _⟩
  by_cases q_ep : numB e.ep = true
  case neg =>
    have q_ep : numB e.ep = false := by simpa using q_ep
    have HX := Lib.hid (show e.form = false by simp [En.form, q_ep])
    clear HN
    go_wp2_with fail
    refine (rnumber_any e.id _).mono ?_
    rintro e2 w' ⟨rfl, rfl⟩
    rw [q_id]
    clear q_id
    go_wp2_with fail
    refine (rnumber_any e.ep _).mono ?_
    rintro e2 w' ⟨rfl, rfl⟩
    rw [q_ep]
    clear q_ep
    go_wp2_with fail
    go_ret
    exact ⟨ret_bool HX.out.symm, below_drewN HB.out.2.1 _⟩
  by_cases m_x : e.x.length ≤ 255
  case neg =>
    have HX := Lib.hid (show e.form = false by rw [Bool.eq_false_iff]; intro hc; simp only [En.form, Bool.and_eq_true, decide_eq_true_eq] at hc; omega)
    have d_x : decide (255 < (e.x.length : Int)) = true := decide_eq_true (by omega)
    clear HN
    go_wp2_with fail
    refine (rnumber_any e.id _).mono ?_
    rintro e2 w' ⟨rfl, rfl⟩
    rw [q_id]
    clear q_id
    go_wp2_with fail
    refine (rnumber_any e.ep _).mono ?_
    rintro e2 w' ⟨rfl, rfl⟩
    rw [q_ep]
    clear q_ep
    go_wp2_with fail
    go_ret
    exact ⟨ret_bool HX.out.symm, below_drewN HB.out.2.1 _⟩
  have d_x : decide (255 < (e.x.length : Int)) = false := decide_eq_false (by omega)
  by_cases m_coms : e.coms.length ≤ 255
  case neg =>
    have HX := Lib.hid (show e.form = false by rw [Bool.eq_false_iff]; intro hc; simp only [En.form, Bool.and_eq_true, decide_eq_true_eq] at hc; omega)
    have d_coms : decide (255 < (e.coms.length : Int)) = true := decide_eq_true (by omega)
    clear HN
    go_wp2_with fail
    refine (rnumber_any e.id _).mono ?_
    rintro e2 w' ⟨rfl, rfl⟩
    rw [q_id]
    clear q_id
    go_wp2_with fail
    refine (rnumber_any e.ep _).mono ?_
    rintro e2 w' ⟨rfl, rfl⟩
    rw [q_ep]
    clear q_ep
    go_wp2_with fail
    go_ret
    exact ⟨ret_bool HX.out.symm, below_drewN HB.out.2.1 _⟩
  have d_coms : decide (255 < (e.coms.length : Int)) = false := decide_eq_false (by omega)
  by_cases m_next : e.next.length ≤ 255
  case neg =>
    have HX := Lib.hid (show e.form = false by rw [Bool.eq_false_iff]; intro hc; simp only [En.form, Bool.and_eq_true, decide_eq_true_eq] at hc; omega)
    have d_next : decide (255 < (e.next.length : Int)) = true := decide_eq_true (by omega)
    clear HN
    go_wp2_with fail
    refine (rnumber_any e.id _).mono ?_
    rintro e2 w' ⟨rfl, rfl⟩
    rw [q_id]
    clear q_id
    go_wp2_with fail
    refine (rnumber_any e.ep _).mono ?_
    rintro e2 w' ⟨rfl, rfl⟩
    rw [q_ep]
    clear q_ep
    go_wp2_with fail
    go_ret
    exact ⟨ret_bool HX.out.symm, below_drewN HB.out.2.1 _⟩
  have d_next : decide (255 < (e.next.length : Int)) = false := decide_eq_false (by omega)
  by_cases m_deals : e.deals.length ≤ 255
  case neg =>
    have HX := Lib.hid (show e.form = false by rw [Bool.eq_false_iff]; intro hc; simp only [En.form, Bool.and_eq_true, decide_eq_true_eq] at hc; omega)
    have d_deals : decide (255 < (e.deals.length : Int)) = true := decide_eq_true (by omega)
    clear HN
    go_wp2_with fail
    refine (rnumber_any e.id _).mono ?_
    rintro e2 w' ⟨rfl, rfl⟩
    rw [q_id]
    clear q_id
    go_wp2_with fail
    refine (rnumber_any e.ep _).mono ?_
    rintro e2 w' ⟨rfl, rfl⟩
    rw [q_ep]
    clear q_ep
    go_wp2_with fail
    go_ret
    exact ⟨ret_bool HX.out.symm, below_drewN HB.out.2.1 _⟩
  have d_deals : decide (255 < (e.deals.length : Int)) = false := decide_eq_false (by omega)
  have HX := Lib.hid (show e.form = (e.next.all numB && e.deals.all dlB) by simp [En.form, HN.out.1, HN.out.2.1, HN.out.2.2, q_id, q_ep, m_x, m_coms, m_next, m_deals, Bool.and_comm])
  clear HN
  go_wp2_with fail
  refine (rnumber_any e.id _).mono ?_
  rintro e2 w' ⟨rfl, rfl⟩
  rw [q_id]
  clear q_id
  go_wp2_with fail
  refine (rnumber_any e.ep _).mono ?_
  rintro e2 w' ⟨rfl, rfl⟩
  rw [q_ep]
  clear q_ep
  go_wp2_with fail
  clear d_x d_coms d_next d_deals
  go_loopw [7] (fun v wr => ∃ j : Nat, j ≤ e.next.length ∧ v = .int .i64 j ∧ (e.next.take j).all numB = true ∧ ∃ nd, w0.drewN nd = wr) (fun v _ => e.next.length - (intOf v).toNat)
  case atStart => exact ⟨0, Nat.zero_le _, rfl, rfl, _, rfl⟩
  case round =>
    obtain ⟨j, hj, rfl, ha, nd, rfl⟩ := hrel
    by_cases hlt : j < e.next.length
    · obtain ⟨x, hx⟩ : ∃ x, e.next[j]? = some x := ⟨_, List.getElem?_eq_getElem hlt⟩
      have hjI : (j : Int) < (e.next.length : Int) := by omega
      obtain ⟨b, o, hb, hc0⟩ : ∃ b o, p.a3 = some ⟨b, o, none⟩ ∧ w0.cell? ⟨b, o + j, none⟩ = some (.int .i64 x) := by
        rcases HB.out.2.2.next with h0 | ⟨b, o, hb, hbl, hc⟩
        · rw [h0] at hlt; simp at hlt
        · exact ⟨b, o, hb, hc j x hx⟩
      have HD := Lib.hid (And.intro hx ha)
      rw [hb] at f5
      clear hx ha hb
      cases hq : numB x with
      | true =>
        have HQ := Lib.hid hq
        go_wp2_with fail
        refine (rnumber_any x _).mono ?_
        rintro e2 w' ⟨rfl, rfl⟩
        rw [hq]
        clear hq
        go_wp2_with fail
        go_roundw
        case rel => exact ⟨j + 1, by omega, by go_num, by rw [all_take HD.out.1, HD.out.2, HQ.out]; rfl, _, rfl⟩
        case measure => simp [intOf]; omega
      | false =>
        have HQ := Lib.hid hq
        go_wp2_with fail
        refine (rnumber_any x _).mono ?_
        rintro e2 w' ⟨rfl, rfl⟩
        rw [hq]
        clear hq
        go_wp2_with fail
        go_ret
        exact ⟨ret_bool (by rw [HX.out, all_not HD.out.1 HQ.out]; rfl), below_drewN HB.out.2.1 _⟩
    · have hnI : decide ((j : Int) < (e.next.length : Int)) = false := decide_eq_false (by omega)
      obtain rfl : j = e.next.length := by omega
      rw [List.take_length] at ha
      have HA := Lib.hid ha
      clear ha
      go_wp2_with fail
      clear hnI
      go_loopw [8] (fun v wr => ∃ j : Nat, j ≤ e.deals.length ∧ v = .int .i64 j ∧ (e.deals.take j).all dlB = true ∧ ∃ nd, w0.drewN nd = wr) (fun v _ => e.deals.length - (intOf v).toNat)
      case atStart => exact ⟨0, Nat.zero_le _, rfl, rfl, _, rfl⟩
      case round =>
        obtain ⟨j, hj, rfl, ha, nd, rfl⟩ := hrel
        by_cases hlt : j < e.deals.length
        · obtain ⟨d, hd⟩ : ∃ d, e.deals[j]? = some d := ⟨_, List.getElem?_eq_getElem hlt⟩
          have hjI : (j : Int) < (e.deals.length : Int) := by omega
          obtain ⟨b, o, hb, a', c', hc0, hc1⟩ : ∃ b o, p.a4 = some ⟨b, o, none⟩ ∧ ∃ a' c', w0.cell? ⟨b, o + j * 2, none⟩ = some (.int .i64 d.1) ∧ w0.cell? ⟨b, o + j * 2 + 1, none⟩ = some (.slice a' d.2.length c') := by
            rcases HB.out.2.2.deals with h0 | ⟨b, o, ha, hbl, hc⟩
            · rw [h0] at hlt; simp at hlt
            · obtain ⟨a', c', x0, x1, x2⟩ := hc j d hd
              exact ⟨b, o, ha, a', c', x0, x1⟩
          have hcl := HC.out d (List.mem_of_getElem? hd)
          have HD := Lib.hid (And.intro hd ha)
          rw [hb] at f6
          clear hd ha hb
          cases hq : numB d.1 with
          | true =>
            by_cases hm : d.2.length ≤ 255
            · have hgd : decide (255 < (d.2.length : Int)) = false := decide_eq_false (by omega)
              have HQ := Lib.hid (show dlB d = true by simp [dlB, hq, hm])
              go_wp2_with fail
              refine (rnumber_any d.1 _).mono ?_
              rintro e2 w' ⟨rfl, rfl⟩
              rw [hq]
              clear hq
              go_wp2_with fail
              go_roundw
              case rel => exact ⟨j + 1, by omega, by go_num, by rw [all_take HD.out.1, HD.out.2, HQ.out]; rfl, _, rfl⟩
              case measure => simp [intOf]; omega
            · have hgd : decide (255 < (d.2.length : Int)) = true := decide_eq_true (by omega)
              have HQ := Lib.hid (show dlB d = false by simp [dlB, hm])
              go_wp2_with fail
              refine (rnumber_any d.1 _).mono ?_
              rintro e2 w' ⟨rfl, rfl⟩
              rw [hq]
              clear hq
              go_wp2_with fail
              go_ret
              exact ⟨ret_bool (by rw [HX.out, HA.out, all_not HD.out.1 HQ.out]; rfl), below_drewN HB.out.2.1 _⟩
          | false =>
            have HQ := Lib.hid (show dlB d = false by simp [dlB, hq])
            go_wp2_with fail
            refine (rnumber_any d.1 _).mono ?_
            rintro e2 w' ⟨rfl, rfl⟩
            rw [hq]
            clear hq
            go_wp2_with fail
            go_ret
            exact ⟨ret_bool (by rw [HX.out, HA.out, all_not HD.out.1 HQ.out]; rfl), below_drewN HB.out.2.1 _⟩
        · have hnI : decide ((j : Int) < (e.deals.length : Int)) = false := decide_eq_false (by omega)
          obtain rfl : j = e.deals.length := by omega
          rw [List.take_length] at ha
          have HA2 := Lib.hid ha
          clear ha
          go_wp2_with fail
          go_ret
          exact ⟨ret_bool (by rw [HX.out, HA.out, HA2.out]; rfl), below_drewN HB.out.2.1 _⟩
set_option maxRecDepth 100000 in
set_option maxHeartbeats 4000000 in
theorem rformed_0 (e : En) (p : Ad) (w : World) (hL : e.Lim) (hN : NEn w w.heap.size e p) (hk : e.k < 1 ∨ 4 < e.k) :
    Calls Tryz.prog 29 #[.agg #[.int .u8 e.k, .int .i64 e.id, .int .i64 e.ep, .slice p.a1 e.x.length p.c1, .slice p.a2 e.coms.length p.c2, .slice p.a3 e.next.length p.c3, .slice p.a4 e.deals.length p.c4]] w (BoolPost e.form w) := by
  obtain ⟨w0, hw0⟩ : ∃ w0, w0 = w.alloc (.cells #[.int .u8 e.k, .int .i64 e.id, .int .i64 e.ep, .slice p.a1 e.x.length p.c1, .slice p.a2 e.coms.length p.c2, .slice p.a3 e.next.length p.c3, .slice p.a4 e.deals.length p.c4] 27) := ⟨_, rfl⟩
  have B0 : Below w.heap.size w w0 := by rw [hw0]; exact (Below.refl _ w).alloc (Nat.le_refl _) _
  have K0 : Blk w0 w.heap.size 27 #[.int .u8 e.k, .int .i64 e.id, .int .i64 e.ep, .slice p.a1 e.x.length p.c1, .slice p.a2 e.coms.length p.c2, .slice p.a3 e.next.length p.c3, .slice p.a4 e.deals.length p.c4] := by rw [hw0]; exact Blk.new w _ _
  have HW := Lib.hid hw0
  have HB := Lib.hid (And.intro K0 (And.intro B0 (hN.step B0)))
  have HC := Lib.hid hL.col
  obtain ⟨l1, l2, l3, l4, -, -, -⟩ := hL
  obtain ⟨f0, f1, f2, f3, f4, f5, f6⟩ := K0.entry
  have HK := Lib.hid hk
  have hk1 : (e.k == 1) = false := by rw [beq_eq_false_iff_ne]; omega
  have hk2 : (e.k == 2) = false := by rw [beq_eq_false_iff_ne]; omega
  have hk3 : (e.k == 3) = false := by rw [beq_eq_false_iff_ne]; omega
  have hk4 : (e.k == 4) = false := by rw [beq_eq_false_iff_ne]; omega
  clear hw0 hN B0 K0 hk
  go_enter Tryz.func29, Tryz.ntmps29
  go_upto_region 1 with fail
  rw [← HW.out]
  clear HW
  go_quiet (fail)
  have HX := Lib.hid (show e.form = false by rw [Bool.eq_false_iff]; intro hc; simp only [En.form, En.none, Bool.and_eq_true, Bool.or_eq_true, beq_iff_eq, decide_eq_true_eq] at hc; have hk := HK.out; omega)
  go_wp2_with fail
  go_ret
  exact ⟨ret_bool HX.out.symm, below_drewN HB.out.2.1 _⟩
theorem rformed_any (e : En) (p : Ad) (w : World) (hL : e.Lim) (hN : NEn w w.heap.size e p) :
    Calls Tryz.prog 29 #[.agg #[.int .u8 e.k, .int .i64 e.id, .int .i64 e.ep, .slice p.a1 e.x.length p.c1, .slice p.a2 e.coms.length p.c2, .slice p.a3 e.next.length p.c3, .slice p.a4 e.deals.length p.c4]] w (BoolPost e.form w) := by
  by_cases h1 : e.k = 1
  · exact rformed_1 e p w hL hN h1
  by_cases h2 : e.k = 2
  · exact rformed_2 e p w hL hN h2
  by_cases h3 : e.k = 3
  · exact rformed_3 e p w hL hN h3
  by_cases h4 : e.k = 4
  · exact rformed_4 e p w hL hN h4
  · exact rformed_0 e p w hL hN (by omega)
end Go.Proofs.YtdnkijljpmcejaaGreat
