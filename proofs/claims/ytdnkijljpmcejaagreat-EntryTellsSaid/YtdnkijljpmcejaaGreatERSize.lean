/-
  consistoryref13.size, long, May, count, lists.
-/
import Derived.Test.YtdnkijljpmcejaaGreatERForm
import Derived.Test.YtdnkijljpmcejaaGreatEnLen
import Derived.Test.YtdnkijljpmcejaaGreatELaw
import Derived.Test.YtdnkijljpmcejaaGreatRefW
namespace Go.Proofs.YtdnkijljpmcejaaGreat
open Go.RowKit

theorem sEach_le : ∀ {ls : List (List Int)}, (∀ l ∈ ls, l.length ≤ 5000) → sEach ls ≤ 40002 * ls.length
  | [], _ => by simp [sEach]
  | l :: ls, h => by
    have h1 := sEach_le (ls := ls) fun m hm => h m (by simp [hm])
    have h2 := h l (by simp)
    simp only [sEach, List.length_cons]
    omega
theorem sEach_take {ls : List (List Int)} {j : Nat} {l : List Int} (h : ls[j]? = some l) : sEach (ls.take (j + 1)) = sEach (ls.take j) + (2 + 8 * l.length) := by
  rw [List.take_add_one, h, sEach_append]
  simp [sEach]
theorem sDeals_take {ds : List Dl} {j : Nat} {d : Dl} (h : ds[j]? = some d) : sDeals (ds.take (j + 1)) = sDeals (ds.take j) + (8 + sMany d.2) := by
  rw [List.take_add_one, h, sDeals_append]
  simp [sDeals]
theorem sDeals_le : ∀ {ds : List Dl}, (∀ d ∈ ds, d.2.length ≤ 5000) → (∀ d ∈ ds, ∀ l ∈ d.2, l.length ≤ 5000) → sDeals ds ≤ 200010009 * ds.length
  | [], _, _ => by simp [sDeals]
  | d :: ds, h, k => by
    have h1 := sDeals_le (ds := ds) (fun m hm => h m (by simp [hm])) (fun m hm => k m (by simp [hm]))
    have h2 := h d (by simp)
    have h3 := sEach_le (ls := d.2) (k d (by simp))
    simp only [sDeals, sMany, List.length_cons]
    omega
set_option maxHeartbeats 400000 in
theorem size_any (a : Option Addr) (c : Nat) (ls : List (List Int)) (w : World) (hx : NLst w w.heap.size a ls) (hn : ls.length ≤ 5000) (hl : ∀ l ∈ ls, l.length ≤ 5000) :
    Calls Tryz.prog 73 #[.slice a ls.length c] w (IntR (sMany ls) w) := by
  have HR := Lib.hid hl
  clear hl
  go_enter Tryz.func73, Tryz.ntmps73
  go_wp2_with fail
  go_loop [3, 4] (fun u v => ∃ j : Nat, j ≤ ls.length ∧ v = .int .i64 j ∧ u = .int .i64 (1 + sEach (ls.take j) : Nat)) (fun _ v => ls.length - (intOf v).toNat)
  case atStart => exact ⟨0, Nat.zero_le _, rfl, rfl⟩
  case round =>
    obtain ⟨j, hj, rfl, rfl⟩ := hrel
    have hle := sEach_le (ls := ls.take j) fun l h => HR.out l (List.mem_of_mem_take h)
    have hlt0 : (ls.take j).length ≤ 5000 := by rw [List.length_take]; omega
    by_cases hlt : j < ls.length
    · obtain ⟨l, hl⟩ : ∃ l, ls[j]? = some l := ⟨_, List.getElem?_eq_getElem hlt⟩
      have hjI : (j : Int) < (ls.length : Int) := by omega
      have hll := HR.out l (List.mem_of_getElem? hl)
      obtain ⟨b, o, rfl, hb, a', c', hc⟩ : ∃ b o, a = some ⟨b, o, none⟩ ∧ b < w.heap.size ∧ ∃ a' c', w.cell? ⟨b, o + j, none⟩ = some (.slice a' l.length c') := by
        rcases hx with h0 | ⟨b, o, ha, hb, hc⟩
        · rw [h0] at hlt; simp at hlt
        · obtain ⟨a', c', h1, _⟩ := hc j l hl
          exact ⟨b, o, ha, hb, a', c', h1⟩
      have HM := Lib.hid (sEach_take hl)
      clear hl
      generalize sEach (ls.take j) = S at *
      go_wp2_with fail
      go_round
      case rel => exact ⟨j + 1, by omega, by go_num, by rw [HM.out]; go_num⟩
      case measure => simp [intOf]; omega
    · have hje : j = ls.length := by omega
      have hnI : decide ((j : Int) < (ls.length : Int)) = false := decide_eq_false (by omega)
      have HM := Lib.hid (show 1 + sEach (ls.take j) = sMany ls by rw [hje, List.take_length]; rfl)
      clear hje
      go_wp2_with fail
      go_ret
      have hx : ((sMany ls : Nat) : Int) = 1 + (sEach (ls.take j) : Nat) := by rw [← HM.out]; omega
      refine ⟨?_, rfl⟩
      rw [hx]
      rfl
/-- What long tells. -/
def IntB (n : Nat) (w : World) (e : Ending) (w' : World) : Prop := e = .returned (.int .i64 n) ∧ Below w.heap.size w w'
set_option maxRecDepth 100000 in
set_option maxHeartbeats 1000000 in
theorem long_any (e : En) (p : Ad) (w : World) (hL : e.Lim) (hN : NEn w w.heap.size e p) :
    Calls Tryz.prog 30 #[.agg #[.int .u8 e.k, .int .i64 e.id, .int .i64 e.ep, .slice p.a1 e.x.length p.c1, .slice p.a2 e.coms.length p.c2, .slice p.a3 e.next.length p.c3, .slice p.a4 e.deals.length p.c4]] w (IntB e.long w) := by
  have HL := Lib.hid hL
  have hL1 := hL.x
  have hL2 := hL.next
  have hL4 := hL.deals
  have hS := sEach_le hL.com
  have hL3 := hL.coms
  clear hL
  obtain ⟨w0, hw0⟩ : ∃ w0, w0 = w.alloc (.cells #[.int .u8 e.k, .int .i64 e.id, .int .i64 e.ep, .slice p.a1 e.x.length p.c1, .slice p.a2 e.coms.length p.c2, .slice p.a3 e.next.length p.c3, .slice p.a4 e.deals.length p.c4] 27) := ⟨_, rfl⟩
  have B0 : Below w.heap.size w w0 := by rw [hw0]; exact (Below.refl _ w).alloc (Nat.le_refl _) _
  have K0 : Blk w0 w.heap.size 27 #[.int .u8 e.k, .int .i64 e.id, .int .i64 e.ep, .slice p.a1 e.x.length p.c1, .slice p.a2 e.coms.length p.c2, .slice p.a3 e.next.length p.c3, .slice p.a4 e.deals.length p.c4] := by rw [hw0]; exact Blk.new w _ _
  have HW := Lib.hid hw0
  have H0 := Lib.hid (And.intro K0 (And.intro B0 (hN.step B0)))
  obtain ⟨f0, f1, f2, f3, f4, f5, f6⟩ := K0.entry
  clear hw0 hN K0 B0
  go_enter Tryz.func30, Tryz.ntmps30
  go_upto_region 1 with fail
  rw [← HW.out]
  clear HW
  generalize hGG : w.heap.size = G at f0 f1 f2 f3 f4 f5 f6 ⊢
  have HG := Lib.hid hGG
  clear hGG
  by_cases h1 : e.k = 1
  · have k1 : (e.k == 1) = true := by rw [h1]; rfl
    have HX := Lib.hid (show e.long = 1 + sMany e.coms by unfold En.long; rw [if_pos h1])
    have hsm : sMany e.coms = 1 + sEach e.coms := rfl
    clear h1
    go_wp2_with fail
    refine (size_any p.a2 p.c2 e.coms w0 H0.out.2.2.coms hL3 HL.out.com).mono ?_
    rintro e2 w1 ⟨rfl, rfl⟩
    go_wp2_with fail
    go_ret
    exact ⟨by rw [HX.out]; go_num, H0.out.2.1⟩
  have k1 : (e.k == 1) = false := by simpa using h1
  by_cases h2 : e.k = 2
  · have k2 : (e.k == 2) = true := by rw [h2]; rfl
    have HX := Lib.hid (show e.long = 10 + 8 * e.x.length by unfold En.long; rw [if_neg h1, if_pos h2])
    clear h1 h2
    go_wp2_with fail
    go_ret
    exact ⟨by rw [HX.out]; go_num, H0.out.2.1⟩
  have k2 : (e.k == 2) = false := by simpa using h2
  by_cases h3 : e.k = 3
  · have k3 : (e.k == 3) = true := by rw [h3]; rfl
    have HX := Lib.hid (show e.long = 10 + 8 * e.next.length by unfold En.long; rw [if_neg h1, if_neg h2, if_pos h3])
    clear h1 h2 h3
    go_wp2_with fail
    go_ret
    exact ⟨by rw [HX.out]; go_num, H0.out.2.1⟩
  have k3 : (e.k == 3) = false := by simpa using h3
  have HX := Lib.hid (show e.long = 10 + sDeals e.deals by unfold En.long; rw [if_neg h1, if_neg h2, if_neg h3])
  clear h1 h2 h3
  go_wp2_with fail
  go_loopw [3, 4] (fun u v wr => ∃ j : Nat, j ≤ e.deals.length ∧ v = .int .i64 j ∧ u = .int .i64 (10 + sDeals (e.deals.take j) : Nat) ∧ w0 = wr) (fun _ v _ => e.deals.length - (intOf v).toNat)
  case atStart => exact ⟨0, Nat.zero_le _, rfl, rfl, rfl⟩
  case round =>
    obtain ⟨j, hj, rfl, rfl, rfl⟩ := hrel
    have hle := sDeals_le (ds := e.deals.take j) (fun d h => HL.out.col d (List.mem_of_mem_take h)) (fun d h => HL.out.cols d (List.mem_of_mem_take h))
    have hlt0 : (e.deals.take j).length ≤ 5000 := by rw [List.length_take]; omega
    by_cases hlt : j < e.deals.length
    · obtain ⟨d, hd⟩ : ∃ d, e.deals[j]? = some d := ⟨_, List.getElem?_eq_getElem hlt⟩
      have hjI : (j : Int) < (e.deals.length : Int) := by omega
      have hdl := HL.out.col d (List.mem_of_getElem? hd)
      have hse := sEach_le (HL.out.cols d (List.mem_of_getElem? hd))
      have hsm : sMany d.2 = 1 + sEach d.2 := rfl
      obtain ⟨b, o, hb, hbl, a', c', hc1, hNL⟩ : ∃ b o, p.a4 = some ⟨b, o, none⟩ ∧ b < w0.heap.size ∧ ∃ a' c', w0.cell? ⟨b, o + j * 2 + 1, none⟩ = some (.slice a' d.2.length c') ∧ NLst w0 w0.heap.size a' d.2 := by
        rcases H0.out.2.2.deals with h0 | ⟨b, o, ha, hbl, hc⟩
        · rw [h0] at hlt; simp at hlt
        · obtain ⟨a', c', x0, x1, x2⟩ := hc j d hd
          exact ⟨b, o, ha, hbl, a', c', x1, x2⟩
      have HC := Lib.hid (size_any a' c' d.2 w0 hNL hdl (HL.out.cols d (List.mem_of_getElem? hd)))
      have HM := Lib.hid (sDeals_take hd)
      rw [hb] at f6
      clear hd hNL hb
      generalize sDeals (e.deals.take j) = S at *
      go_wp2_with fail
      refine (Calls.mono HC.out ?_)
      rintro e2 w2 ⟨rfl, rfl⟩
      go_wp2_with fail
      go_roundw
      case rel => exact ⟨j + 1, by omega, by go_num, by rw [HM.out]; go_num, by trivial⟩
      case measure => simp [intOf]; omega
    · have hje : j = e.deals.length := by omega
      have hnI : decide ((j : Int) < (e.deals.length : Int)) = false := decide_eq_false (by omega)
      have HM := Lib.hid (show 10 + sDeals (e.deals.take j) = e.long by rw [HX.out, hje, List.take_length])
      clear hje
      go_wp2_with fail
      go_ret
      have hx : ((e.long : Nat) : Int) = 10 + (sDeals (e.deals.take j) : Nat) := by rw [← HM.out]; omega
      refine ⟨?_, H0.out.2.1⟩
      rw [hx]
      rfl
theorem may_long (e : En) : e.may = (e.form && decide (e.long ≤ 2048)) := by
  unfold En.may
  cases h : e.form with
  | false => rfl
  | true => rw [Bool.true_and, Bool.true_and, decide_eq_decide]; exact (long_iff h).symm
set_option maxRecDepth 100000 in
set_option maxHeartbeats 400000 in
theorem rmay_any (e : En) (p : Ad) (w : World) (hL : e.Lim) (hN : NEn w w.heap.size e p) :
    Calls Tryz.prog 15 #[.agg #[.int .u8 e.k, .int .i64 e.id, .int .i64 e.ep, .slice p.a1 e.x.length p.c1, .slice p.a2 e.coms.length p.c2, .slice p.a3 e.next.length p.c3, .slice p.a4 e.deals.length p.c4]] w (BoolPost e.may w) := by
  have HL := Lib.hid hL
  clear hL
  obtain ⟨w0, hw0⟩ : ∃ w0, w0 = w.alloc (.cells #[.int .u8 e.k, .int .i64 e.id, .int .i64 e.ep, .slice p.a1 e.x.length p.c1, .slice p.a2 e.coms.length p.c2, .slice p.a3 e.next.length p.c3, .slice p.a4 e.deals.length p.c4] 27) := ⟨_, rfl⟩
  have B0 : Below w.heap.size w w0 := by rw [hw0]; exact (Below.refl _ w).alloc (Nat.le_refl _) _
  have K0 : Blk w0 w.heap.size 27 #[.int .u8 e.k, .int .i64 e.id, .int .i64 e.ep, .slice p.a1 e.x.length p.c1, .slice p.a2 e.coms.length p.c2, .slice p.a3 e.next.length p.c3, .slice p.a4 e.deals.length p.c4] := by rw [hw0]; exact Blk.new w _ _
  have HW := Lib.hid hw0
  have H0 := Lib.hid (And.intro K0 (And.intro B0 (hN.step B0)))
  obtain ⟨f0, f1, f2, f3, f4, f5, f6⟩ := K0.entry
  clear hw0 hN K0 B0
  go_enter Tryz.func15, Tryz.ntmps15
  go_upto_region 1 with fail
  rw [← HW.out]
  clear HW
  generalize hGG : w.heap.size = G at f0 f1 f2 f3 f4 f5 f6 ⊢
  have HG := Lib.hid hGG
  clear hGG
  go_wp2_with fail
  refine (rformed_any e p w0 HL.out H0.out.2.2).mono ?_
  rintro e2 w1 ⟨rfl, b1⟩
  have K1 := H0.out.1.kept b1
  have H1 := Lib.hid (And.intro K1 (And.intro (step_below H0.out.2.1 b1) (H0.out.2.2.step b1)))
  rw [HG.out] at K1
  obtain ⟨f0, f1, f2, f3, f4, f5, f6⟩ := K1.entry
  clear K1 H0 b1
  cases hf : e.form with
  | false =>
    have HX := Lib.hid (show e.may = false by rw [may_long, hf]; rfl)
    clear hf
    go_wp2_with fail
    go_ret
    exact ⟨ret_bool HX.out.symm, H1.out.2.1⟩
  | true =>
    have HX := Lib.hid (show e.may = decide ((e.long : Int) ≤ 2048) by rw [may_long, hf, Bool.true_and, decide_eq_decide]; omega)
    clear hf
    go_wp2_with fail
    refine (long_any e p w1 HL.out H1.out.2.2).mono ?_
    rintro e2 w2 ⟨rfl, b2⟩
    go_wp2_with fail
    go_ret
    exact ⟨ret_bool HX.out.symm, step_below H1.out.2.1 b2⟩
set_option maxHeartbeats 400000 in
theorem count_any (l : List UInt8) (n : Nat) (w : World) (hn : n ≤ 255) (hl : l.length + 8 ≤ 140737488355328) :
    Calls Tryz.prog 33 #[.string ⟨l.toArray⟩, .int .i64 n] w fun e w' => e = .returned (.string ⟨(l ++ be n 1).toArray⟩) ∧ Below w.heap.size w w' := by
  have HC := Lib.hid (rbyte_any l (n : Int) w ⟨by omega, by omega⟩ hl)
  have hw : IntKind.u8.wrap (n : Int) = (n : Int) := by rw [IntKind.wrap_u8]; omega
  go_enter Tryz.func33, Tryz.ntmps33
  go_wp2_with fail
  refine (Calls.mono HC.out ?_)
  rintro e2 w1 ⟨rfl, b1⟩
  go_wp2_with fail
  go_ret
  exact ⟨rfl, b1⟩
end Go.Proofs.YtdnkijljpmcejaaGreat
