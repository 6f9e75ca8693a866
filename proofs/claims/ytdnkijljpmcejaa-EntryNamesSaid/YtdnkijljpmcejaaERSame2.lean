/-
  consistoryref13.Same: the loops.
-/
import Derived.Test.YtdnkijljpmcejaaERSame
namespace Go.Proofs.Ytdnkijljpmcejaa
open Go.RowKit

/-- What the loops keep: the two boxed entries, and what was there. -/
structure Two (G : Nat) (w : World) (a b : En) (p q : Ad) (wr : World) : Prop where
  bel : Below w.heap.size w wr
  ka : Blk wr G 55 #[.int .u8 a.k, .int .i64 a.id, .int .i64 a.ep, .slice p.a1 a.x.length p.c1, .slice p.a2 a.coms.length p.c2, .slice p.a3 a.next.length p.c3, .slice p.a4 a.deals.length p.c4]
  kb : Blk wr (G + 1) 55 #[.int .u8 b.k, .int .i64 b.id, .int .i64 b.ep, .slice q.a1 b.x.length q.c1, .slice q.a2 b.coms.length q.c2, .slice q.a3 b.next.length q.c3, .slice q.a4 b.deals.length q.c4]
  na : NEn wr wr.heap.size a p
  nb : NEn wr wr.heap.size b q
theorem Two.step {G : Nat} {w wr w' : World} {a b : En} {p q : Ad} (h : Two G w a b p q wr) (hb : Below wr.heap.size wr w') : Two G w a b p q w' :=
  ⟨step_below h.bel hb, h.ka.kept hb, h.kb.kept hb, h.na.step hb, h.nb.step hb⟩
theorem Two.drewN {G : Nat} {w wr : World} {a b : En} {p q : Ad} (h : Two G w a b p q wr) (n : Nat) : Two G w a b p q (wr.drewN n) := h.step (below_drewN (Below.refl _ wr) n)
set_option maxRecDepth 100000 in
set_option maxHeartbeats 4000000 in
theorem rsame_rest (a b : En) (p q : Ad) (w : World) (ha : NEn w w.heap.size a p) (hb : NEn w w.heap.size b q) (ca : a.Cnt) (cb : b.Cnt) (hk : a.k = b.k) (hi : a.id = b.id) (he : a.ep = b.ep) (hx : a.x.length = b.x.length) (hn : a.next.length = b.next.length) (hd : a.deals.length = b.deals.length) (hc : a.coms = b.coms) :
    Calls Try.prog 34 #[.agg #[.int .u8 a.k, .int .i64 a.id, .int .i64 a.ep, .slice p.a1 a.x.length p.c1, .slice p.a2 a.coms.length p.c2, .slice p.a3 a.next.length p.c3, .slice p.a4 a.deals.length p.c4], .agg #[.int .u8 b.k, .int .i64 b.id, .int .i64 b.ep, .slice q.a1 b.x.length q.c1, .slice q.a2 b.coms.length q.c2, .slice q.a3 b.next.length q.c3, .slice q.a4 b.deals.length q.c4]] w (BoolPost (a.same b) w) := by
  have HC := Lib.hid (And.intro ca cb)
  have HQ := Lib.hid (And.intro hk (And.intro hi (And.intro he (And.intro hx (And.intro hn (And.intro hd hc))))))
  have HQc := Lib.hid (show (a.coms == b.coms) = true by simpa using hc)
  have lx := ca.x
  have ln := ca.next
  have ld := ca.deals
  have tk := bne_f hk
  have ti := bne_f hi
  have te := bne_f he
  have tx := lne_f hx
  have tn := lne_f hn
  have td := lne_f hd
  clear hk hi he hx hn hd ca cb hc
  have B0 := box2_below w #[.int .u8 a.k, .int .i64 a.id, .int .i64 a.ep, .slice p.a1 a.x.length p.c1, .slice p.a2 a.coms.length p.c2, .slice p.a3 a.next.length p.c3, .slice p.a4 a.deals.length p.c4] #[.int .u8 b.k, .int .i64 b.id, .int .i64 b.ep, .slice q.a1 b.x.length q.c1, .slice q.a2 b.coms.length q.c2, .slice q.a3 b.next.length q.c3, .slice q.a4 b.deals.length q.c4]
  have KA := box2_1 w #[.int .u8 a.k, .int .i64 a.id, .int .i64 a.ep, .slice p.a1 a.x.length p.c1, .slice p.a2 a.coms.length p.c2, .slice p.a3 a.next.length p.c3, .slice p.a4 a.deals.length p.c4] #[.int .u8 b.k, .int .i64 b.id, .int .i64 b.ep, .slice q.a1 b.x.length q.c1, .slice q.a2 b.coms.length q.c2, .slice q.a3 b.next.length q.c3, .slice q.a4 b.deals.length q.c4]
  have KB := box2_2 w #[.int .u8 a.k, .int .i64 a.id, .int .i64 a.ep, .slice p.a1 a.x.length p.c1, .slice p.a2 a.coms.length p.c2, .slice p.a3 a.next.length p.c3, .slice p.a4 a.deals.length p.c4] #[.int .u8 b.k, .int .i64 b.id, .int .i64 b.ep, .slice q.a1 b.x.length q.c1, .slice q.a2 b.coms.length q.c2, .slice q.a3 b.next.length q.c3, .slice q.a4 b.deals.length q.c4]
  obtain ⟨w0, hw0⟩ : ∃ w0, w0 = box2 w #[.int .u8 a.k, .int .i64 a.id, .int .i64 a.ep, .slice p.a1 a.x.length p.c1, .slice p.a2 a.coms.length p.c2, .slice p.a3 a.next.length p.c3, .slice p.a4 a.deals.length p.c4] #[.int .u8 b.k, .int .i64 b.id, .int .i64 b.ep, .slice q.a1 b.x.length q.c1, .slice q.a2 b.coms.length q.c2, .slice q.a3 b.next.length q.c3, .slice q.a4 b.deals.length q.c4] := ⟨_, rfl⟩
  rw [← hw0] at B0 KA KB
  unfold box2 at hw0
  have HW := Lib.hid hw0
  have H0 := Lib.hid (And.intro B0 (And.intro (ha.step B0) (hb.step B0)))
  obtain ⟨f0, f1, f2, f3, f4, f5, f6⟩ := KA.entry
  obtain ⟨g0, g1, g2, g3, g4, g5, g6⟩ := KB.entry
  have H2 := Lib.hid (Two.mk B0 KA KB (ha.step B0) (hb.step B0))
  clear hw0 ha hb KA KB B0
  go_enter Try.func34, Try.ntmps34
  go_upto_region 1 with fail
  rw [← HW.out]
  clear HW
  generalize hGG : w.heap.size = G at f0 f1 f2 f3 f4 f5 f6 g0 g1 g2 g3 g4 g5 g6 ⊢
  have HG := Lib.hid hGG
  clear hGG
  have T := H2.out
  rw [HG.out] at T
  have HT0 := Lib.hid T
  clear T H2
  go_wp2_with fail
  refine (rlists_any p.a2 q.a2 p.c2 q.c2 a.coms b.coms w0 H0.out.2.1.coms H0.out.2.2.coms HC.out.1.coms HC.out.2.coms HC.out.1.com HC.out.2.com).mono ?_
  rintro e2 w1 ⟨rfl, b1⟩
  rw [HQc.out]
  have HT1 := Lib.hid (HT0.out.step b1)
  clear HT0 b1 f0 f1 f2 f3 f4 f5 f6 g0 g1 g2 g3 g4 g5 g6 tk ti te tx tn td H0
  go_wp2_with fail
  go_loopw [5] (fun v wr => ∃ j : Nat, j ≤ a.x.length ∧ v = .int .i64 j ∧ (a.x.take j == b.x.take j) = true ∧ Two G w a b p q wr) (fun v _ => a.x.length - (intOf v).toNat)
  case atStart => exact ⟨0, Nat.zero_le _, rfl, by simp, HT1.out⟩
  case round =>
    obtain ⟨j, hj, rfl, he, hT⟩ := hrel
    have f : wr.cell? ⟨G, 3, none⟩ = some (.slice p.a1 a.x.length p.c1) := hT.ka.cell 3
    have g : wr.cell? ⟨G + 1, 3, none⟩ = some (.slice q.a1 b.x.length q.c1) := hT.kb.cell 3
    have HT := Lib.hid hT
    by_cases hlt : j < a.x.length
    · have hlt2 : j < b.x.length := by rw [← HQ.out.2.2.2.1]; exact hlt
      obtain ⟨u, hu⟩ : ∃ u, a.x[j]? = some u := ⟨_, List.getElem?_eq_getElem hlt⟩
      obtain ⟨v, hv⟩ : ∃ v, b.x[j]? = some v := ⟨_, List.getElem?_eq_getElem hlt2⟩
      rcases hT.na.x with h0 | ⟨b1, o1, hp1, hb1, hc1⟩
      · rw [h0] at hlt; simp at hlt
      rcases hT.nb.x with h0 | ⟨b2, o2, hp2, hb2, hc2⟩
      · rw [h0] at hlt2; simp at hlt2
      have e1 := hc1 j u hu
      have e2 := hc2 j v hv
      rw [hp1] at f
      rw [hp2] at g
      have h2I : (j : Int) < (b.x.length : Int) := by omega
      have h1I : (j : Int) < (a.x.length : Int) := by omega
      have HP := Lib.hid (And.intro hu (And.intro hv he))
      clear hu hv hc1 hc2 he hp1 hp2 hT
      by_cases huv : u = v
      · subst huv
        go_wp2_with fail
        go_quiet (fail)
        go_wp2_with fail
        go_roundw
        case rel => exact ⟨j + 1, by omega, by go_num, take_all HP.out.1 HP.out.2.1 HP.out.2.2 rfl, HT.out.drewN _⟩
        case measure => simp [intOf]; omega
      · have hd2 : (u != v) = true := by simpa using huv
        go_wp2_with fail
        go_quiet (fail)
        go_wp2_with fail
        go_ret
        refine ⟨ret_bool ?_, (HT.out.drewN _).bel⟩
        rw [same_no]
        rintro rfl
        exact huv (Option.some.inj (HP.out.1.symm.trans HP.out.2.1))
    · have hje : j = a.x.length := by omega
      have HX := Lib.hid (eq_of_beq (at_end HQ.out.2.2.2.1 (by rw [← hje]; exact he)))
      have hnI : decide ((j : Int) < (a.x.length : Int)) = false := decide_eq_false (by omega)
      clear he hje hT
      go_wp2_with fail
      clear hnI f g
      go_loopw [6] (fun v wr => ∃ j : Nat, j ≤ a.next.length ∧ v = .int .i64 j ∧ (a.next.take j == b.next.take j) = true ∧ Two G w a b p q wr) (fun v _ => a.next.length - (intOf v).toNat)
      case atStart => exact ⟨0, Nat.zero_le _, rfl, by simp, HT.out⟩
      case round =>
        obtain ⟨j, hj, rfl, he, hT⟩ := hrel
        have f : wr.cell? ⟨G, 5, none⟩ = some (.slice p.a3 a.next.length p.c3) := hT.ka.cell 5
        have g : wr.cell? ⟨G + 1, 5, none⟩ = some (.slice q.a3 b.next.length q.c3) := hT.kb.cell 5
        have HT := Lib.hid hT
        by_cases hlt : j < a.next.length
        · have hlt2 : j < b.next.length := by rw [← HQ.out.2.2.2.2.1]; exact hlt
          obtain ⟨u, hu⟩ : ∃ u, a.next[j]? = some u := ⟨_, List.getElem?_eq_getElem hlt⟩
          obtain ⟨v, hv⟩ : ∃ v, b.next[j]? = some v := ⟨_, List.getElem?_eq_getElem hlt2⟩
          rcases hT.na.next with h0 | ⟨b1, o1, hp1, hb1, hc1⟩
          · rw [h0] at hlt; simp at hlt
          rcases hT.nb.next with h0 | ⟨b2, o2, hp2, hb2, hc2⟩
          · rw [h0] at hlt2; simp at hlt2
          have e1 := hc1 j u hu
          have e2 := hc2 j v hv
          rw [hp1] at f
          rw [hp2] at g
          have h2I : (j : Int) < (b.next.length : Int) := by omega
          have h1I : (j : Int) < (a.next.length : Int) := by omega
          have HP := Lib.hid (And.intro hu (And.intro hv he))
          clear hu hv hc1 hc2 he hp1 hp2 hT
          by_cases huv : u = v
          · subst huv
            go_wp2_with fail
            go_quiet (fail)
            go_wp2_with fail
            go_roundw
            case rel => exact ⟨j + 1, by omega, by go_num, take_all HP.out.1 HP.out.2.1 HP.out.2.2 rfl, HT.out.drewN _⟩
            case measure => simp [intOf]; omega
          · have hd2 : (u != v) = true := by simpa using huv
            go_wp2_with fail
            go_quiet (fail)
            go_wp2_with fail
            go_ret
            refine ⟨ret_bool ?_, (HT.out.drewN _).bel⟩
            rw [same_no]
            rintro rfl
            exact huv (Option.some.inj (HP.out.1.symm.trans HP.out.2.1))
        · have hje : j = a.next.length := by omega
          have HN := Lib.hid (eq_of_beq (at_end HQ.out.2.2.2.2.1 (by rw [← hje]; exact he)))
          have hnI : decide ((j : Int) < (a.next.length : Int)) = false := decide_eq_false (by omega)
          clear he hje hT
          go_wp2_with fail
          clear hnI f g
          go_loopw [7] (fun v wr => ∃ j : Nat, j ≤ a.deals.length ∧ v = .int .i64 j ∧ (a.deals.take j == b.deals.take j) = true ∧ Two G w a b p q wr) (fun v _ => a.deals.length - (intOf v).toNat)
          case atStart => exact ⟨0, Nat.zero_le _, rfl, by simp, HT.out⟩
          case round =>
            clear HT
            obtain ⟨j, hj, rfl, he, hT⟩ := hrel
            have f : wr.cell? ⟨G, 6, none⟩ = some (.slice p.a4 a.deals.length p.c4) := hT.ka.cell 6
            have g : wr.cell? ⟨G + 1, 6, none⟩ = some (.slice q.a4 b.deals.length q.c4) := hT.kb.cell 6
            have HT := Lib.hid hT
            by_cases hlt : j < a.deals.length
            · have hlt2 : j < b.deals.length := by rw [← HQ.out.2.2.2.2.2.1]; exact hlt
              obtain ⟨u, hu⟩ : ∃ u, a.deals[j]? = some u := ⟨_, List.getElem?_eq_getElem hlt⟩
              obtain ⟨v, hv⟩ : ∃ v, b.deals[j]? = some v := ⟨_, List.getElem?_eq_getElem hlt2⟩
              rcases hT.na.deals with h0 | ⟨b1, o1, hp1, hb1, hc1⟩
              · rw [h0] at hlt; simp at hlt
              rcases hT.nb.deals with h0 | ⟨b2, o2, hp2, hb2, hc2⟩
              · rw [h0] at hlt2; simp at hlt2
              obtain ⟨a1, c1, e1, k1, n1⟩ := hc1 j u hu
              obtain ⟨a2, c2, e2, k2, n2⟩ := hc2 j v hv
              rw [hp1] at f
              rw [hp2] at g
              have h2I : (j : Int) < (b.deals.length : Int) := by omega
              have h1I : (j : Int) < (a.deals.length : Int) := by omega
              have HP := Lib.hid (And.intro hu (And.intro hv he))
              have HL := Lib.hid (rlists_any a1 a2 c1 c2 u.2 v.2 wr.drew (n1.step (Below.refl _ wr).drew) (n2.step (Below.refl _ wr).drew) (HC.out.1.col u (List.mem_of_getElem? hu)) (HC.out.2.col v (List.mem_of_getElem? hv)) (HC.out.1.cols u (List.mem_of_getElem? hu)) (HC.out.2.cols v (List.mem_of_getElem? hv)))
              clear hu hv hc1 hc2 he hp1 hp2 hT n1 n2
              by_cases hd1 : u.1 = v.1
              · have hd2 : (u.1 != v.1) = false := bne_f hd1
                have HD := Lib.hid hd1
                have yf : wr.drew.cell? ⟨G, 6, none⟩ = some (.slice (some ⟨b1, o1, none⟩) a.deals.length p.c4) := f
                have yg : wr.drew.cell? ⟨G + 1, 6, none⟩ = some (.slice (some ⟨b2, o2, none⟩) b.deals.length q.c4) := g
                have y1 : wr.drew.cell? ⟨b1, o1 + j * 2, none⟩ = some (.int .i64 u.1) := e1
                have y2 : wr.drew.cell? ⟨b1, o1 + j * 2 + 1, none⟩ = some (.slice a1 u.2.length c1) := k1
                have y3 : wr.drew.cell? ⟨b2, o2 + j * 2, none⟩ = some (.int .i64 v.1) := e2
                have y4 : wr.drew.cell? ⟨b2, o2 + j * 2 + 1, none⟩ = some (.slice a2 v.2.length c2) := k2
                clear hd1 e1 k1 e2 k2
                go_upto_region 16 with fail
                clear f g
                go_region_held3 (fun w' => w'.cell? ⟨G, 6, none⟩ = some (.slice (some ⟨b1, o1, none⟩) a.deals.length p.c4) ∧ w'.cell? ⟨G + 1, 6, none⟩ = some (.slice (some ⟨b2, o2, none⟩) b.deals.length q.c4) ∧ w'.cell? ⟨b1, o1 + j * 2, none⟩ = some (.int .i64 u.1) ∧ w'.cell? ⟨b1, o1 + j * 2 + 1, none⟩ = some (.slice a1 u.2.length c1) ∧ w'.cell? ⟨b2, o2 + j * 2, none⟩ = some (.int .i64 v.1) ∧ w'.cell? ⟨b2, o2 + j * 2 + 1, none⟩ = some (.slice a2 v.2.length c2)) (first | (with_reducible exact ⟨yf, yg, y1, y2, y3, y4⟩) | (with_reducible exact ⟨zf, zg, z1, z2, z3, z4⟩))
                  ((go_at_call 66; (with_reducible refine Calls.mono HL.out ?_); rintro e3 w3 ⟨rfl, b3⟩; have zf := cell_keep yf b3; have zg := cell_keep yg b3; have z1 := cell_keep y1 b3; have z2 := cell_keep y2 b3; have z3 := cell_keep y3 b3; have z4 := cell_keep y4 b3))
                have HT3 := Lib.hid (HT.out.step (below_dr b3))
                clear b3 zf zg z1 z2 z3 z4 y1 y2 y3 y4 yf yg HL
                by_cases hpq : u.2 = v.2
                · have hb : (u.2 == v.2) = true := by simpa using hpq
                  have HB := Lib.hid hpq
                  rw [hb]
                  clear hb hpq
                  go_wp2_with fail
                  go_roundw
                  case rel => exact ⟨j + 1, by omega, by go_num, take_all HP.out.1 HP.out.2.1 HP.out.2.2 (Prod.ext HD.out HB.out), HT3.out⟩
                  case measure => simp [intOf]; omega
                · have hb : (u.2 == v.2) = false := by simpa using hpq
                  have HB := Lib.hid hpq
                  rw [hb]
                  clear hb hpq
                  go_wp2_with fail
                  go_ret
                  refine ⟨ret_bool ?_, HT3.out.bel⟩
                  rw [same_no]
                  rintro rfl
                  exact HB.out (congrArg Prod.snd (Option.some.inj (HP.out.1.symm.trans HP.out.2.1)))
              · have hd2 : (u.1 != v.1) = true := bne_t hd1
                have HD := Lib.hid hd1
                clear hd1 HL
                go_wp2_with fail
                go_quiet (fail)
                go_wp2_with fail
                go_ret
                refine ⟨ret_bool ?_, (HT.out.drewN _).bel⟩
                rw [same_no]
                rintro rfl
                exact HD.out (congrArg Prod.fst (Option.some.inj (HP.out.1.symm.trans HP.out.2.1)))
            · have hje : j = a.deals.length := by omega
              have HE := Lib.hid (eq_of_beq (at_end HQ.out.2.2.2.2.2.1 (by rw [← hje]; exact he)))
              have hnI : decide ((j : Int) < (a.deals.length : Int)) = false := decide_eq_false (by omega)
              clear he hje hT
              go_wp2_with fail
              go_ret
              refine ⟨ret_bool (Eq.symm ?_), HT.out.bel⟩
              rw [En.same_iff]
              exact en_ext HQ.out.1 HQ.out.2.1 HQ.out.2.2.1 HX.out HQ.out.2.2.2.2.2.2 HN.out HE.out



theorem rsame_any (a b : En) (p q : Ad) (w : World) (ha : NEn w w.heap.size a p) (hb : NEn w w.heap.size b q) (ca : a.Cnt) (cb : b.Cnt) :
    Calls Try.prog 34 #[.agg #[.int .u8 a.k, .int .i64 a.id, .int .i64 a.ep, .slice p.a1 a.x.length p.c1, .slice p.a2 a.coms.length p.c2, .slice p.a3 a.next.length p.c3, .slice p.a4 a.deals.length p.c4], .agg #[.int .u8 b.k, .int .i64 b.id, .int .i64 b.ep, .slice q.a1 b.x.length q.c1, .slice q.a2 b.coms.length q.c2, .slice q.a3 b.next.length q.c3, .slice q.a4 b.deals.length q.c4]] w (BoolPost (a.same b) w) := by
  by_cases hk : a.k = b.k
  case neg => rw [same_no (fun h => hk (by rw [h]))]; exact rsame_k a b p q w ha hb  hk
  by_cases hi : a.id = b.id
  case neg => rw [same_no (fun h => hi (by rw [h]))]; exact rsame_i a b p q w ha hb hk hi
  by_cases he : a.ep = b.ep
  case neg => rw [same_no (fun h => he (by rw [h]))]; exact rsame_e a b p q w ha hb hk hi he
  by_cases hx : a.x.length = b.x.length
  case neg => rw [same_no (fun h => hx (by rw [h]))]; exact rsame_x a b p q w ha hb hk hi he hx
  by_cases hn : a.next.length = b.next.length
  case neg => rw [same_no (fun h => hn (by rw [h]))]; exact rsame_n a b p q w ha hb hk hi he hx hn
  by_cases hd : a.deals.length = b.deals.length
  case neg => rw [same_no (fun h => hd (by rw [h]))]; exact rsame_d a b p q w ha hb hk hi he hx hn hd
  by_cases hc : a.coms = b.coms
  case neg => rw [same_no (fun h => hc (by rw [h]))]; exact rsame_c a b p q w ha hb ca cb hk hi he hx hn hd hc
  exact rsame_rest a b p q w ha hb ca cb hk hi he hx hn hd hc
theorem rsame_is {a b : En} {r : Bool} (p q : Ad) (w : World) (ha : NEn w w.heap.size a p) (hb : NEn w w.heap.size b q) (ca : a.Cnt) (cb : b.Cnt) (h : a.same b = r) :
    Calls Try.prog 34 #[.agg #[.int .u8 a.k, .int .i64 a.id, .int .i64 a.ep, .slice p.a1 a.x.length p.c1, .slice p.a2 a.coms.length p.c2, .slice p.a3 a.next.length p.c3, .slice p.a4 a.deals.length p.c4], .agg #[.int .u8 b.k, .int .i64 b.id, .int .i64 b.ep, .slice q.a1 b.x.length q.c1, .slice q.a2 b.coms.length q.c2, .slice q.a3 b.next.length q.c3, .slice q.a4 b.deals.length q.c4]] w (BoolPost r w) := by
  rw [← h]
  exact rsame_any a b p q w ha hb ca cb

end Go.Proofs.Ytdnkijljpmcejaa
