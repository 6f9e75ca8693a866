/-
  consistorylaw28.NetRow: the walk.
-/
import Derived.Test.YtbibbndjnlnbiaaNRow0
namespace Go.Proofs.Ytbibbndjnlnbiaa
open Go.RowKit Go.Maps

theorem Held.sub {X Y : Nat → Prop} {B g mb : Nat} {n : Nt} {w0 w : World} (h : Held X B w0 g mb n w) (hY : ∀ k, Y k → X k) : Held Y B w0 g mb n w := by
  obtain ⟨rs, h1, h2, h3⟩ := h
  exact ⟨rs, h1, h2, fun q hq => h3 q (hY q hq)⟩
def rowV (d h z : Int) : Mg := ⟨3, 1, d, h, z, 0, 0, 0, 0, [], []⟩
theorem RSt.new {B g mb : Nat} {w0 w : World} (h : Held (fun _ => False) B w0 g mb (Nt.new 4096) w) :
    RSt B w0 g mb w.heap.size (w.heap.size + 1) 0 (Nt.new 4096) (fun _ => 0) (fun _ => 0) ((w.alloc (.cells #[.int .i64 0, .int .i64 0, .int .i64 0, .int .i64 0, .int .i64 0, .int .i64 0, .int .i64 0, .int .i64 0, .int .i64 0] 3)).alloc (.cells #[.int .i64 0, .int .i64 0, .int .i64 0, .int .i64 0, .int .i64 0, .int .i64 0, .int .i64 0, .int .i64 0, .int .i64 0] 3)) := by
  have hB := h.base
  obtain ⟨w1, hw1⟩ : ∃ w1, w1 = w.alloc (.cells #[.int .i64 0, .int .i64 0, .int .i64 0, .int .i64 0, .int .i64 0, .int .i64 0, .int .i64 0, .int .i64 0, .int .i64 0] 3) := ⟨_, rfl⟩
  have hs : w1.heap.size = w.heap.size + 1 := by rw [hw1]; simp
  have b1 : Below w.heap.size w w1 := by rw [hw1]; exact (Below.refl _ w).alloc (Nat.le_refl _) _
  have a1 : Arr w1 w.heap.size (fun _ => 0) := by rw [hw1]; exact Arr.new w
  have h1 := h.lay b1 (q := w.heap.size) (Nat.le_refl _) (by omega)
  have a2 := Arr.new w1
  have b2 : Below w1.heap.size w1 (w1.alloc (.cells #[.int .i64 0, .int .i64 0, .int .i64 0, .int .i64 0, .int .i64 0, .int .i64 0, .int .i64 0, .int .i64 0, .int .i64 0] 3)) := (Below.refl _ w1).alloc (Nat.le_refl _) _
  have h2 := h1.lay b2 (q := w1.heap.size) (Nat.le_refl _) (by simp)
  rw [← hw1]
  rw [hs] at h2 a2
  exact ⟨RowI.new, Nt.new_ok (by decide) (by decide), h2.sub fun k hk => by
    rcases hk with hk | hk
    · exact .inl (.inr hk)
    · exact .inr hk, by omega, by omega, by omega, a1.kept b2, a2⟩

set_option maxRecDepth 100000 in
set_option maxHeartbeats 8000000 in
theorem nrow_any (a : Option Addr) (c : Nat) (l : List Int) (w : World) (hl9 : l.length ≤ 9223372036854775807) (hf : ∀ x ∈ l, 0 ≤ x ∧ x ≤ 255) (hn : Nums .u8 w w.heap.size a l) :
    Calls Try.prog 4 #[.slice a l.length c] w (TruePost w) := by
  have hmk := mk9
  go_enter Try.func4, Try.ntmps4
  go_wp2_with fail
  refine (works28_any w).mono ?_
  rintro e w1 ⟨rfl, b1⟩
  by_cases hl100 : 100 < l.length
  · have h5 : decide ((100 : Int) < (l.length : Int)) = true := decide_eq_true (by omega)
    go_wp2_with fail
    refine (works28_any w1).mono ?_
    rintro e w3 ⟨rfl, b3⟩
    go_wp2_with fail
    go_ret
    exact ⟨rfl, step_below b1 b3⟩
  · have h5 : decide ((100 : Int) < (l.length : Int)) = false := decide_eq_false (by omega)
    have hl1 : l.length ≤ 100 := by omega
    clear hl100
    go_wp2_with fail
    refine (new_h (most := 4096) (w0 := w) (by decide) (by decide) b1).mono ?_
    rintro e w5 ⟨g, mb, rfl, H5, -⟩
    have HS := Lib.hid (RSt.new H5)
    clear b1 H5 h5
    go_wp2_with fail
    go_loopw [7] (fun v wr => ∃ (j : Nat) (n : Nt) (nx lt : Int → Nat), j ≤ l.length ∧ v = .int .i64 j ∧ RSt w.heap.size w g mb w5.heap.size (w5.heap.size + 1) (4 * j) n nx lt wr) (fun v _ => l.length - (intOf v).toNat)
    case atStart => exact ⟨0, Nt.new 4096, _, _, Nat.zero_le _, rfl, HS.out⟩
    case round =>
      obtain ⟨j, n, nx, lt, hj, rfl, st⟩ := hrel
      clear HS
      by_cases hlt : j < l.length
      · obtain ⟨t, ht⟩ : ∃ t, l[j]? = some t := ⟨_, List.getElem?_eq_getElem hlt⟩
        have htf := hf t (List.mem_of_getElem? ht)
        obtain ⟨b, o, rfl, hb, hc⟩ : ∃ b o, a = some ⟨b, o, none⟩ ∧ b < w.heap.size ∧ w.cell? ⟨b, o + j, none⟩ = some (.int .u8 t) := by
          rcases hn with h0 | ⟨b, o, ha, hb, hc⟩
          · rw [h0] at hlt; simp at hlt
          · exact ⟨b, o, ha, hb, hc j t ht⟩
        have hjI : (j : Int) < (l.length : Int) := by omega
        have hcw : wr.cell? ⟨b, o + j, none⟩ = some (.int .u8 t) := (st.held.below.cell hb).trans hc
        have HC := Lib.hid (And.intro hb hc)
        have HT := Lib.hid st
        clear hb hc st ht
        obtain ⟨d, hd⟩ : ∃ d : Nat, 1 + t % 3 = (d : Int) := ⟨(1 + t % 3).toNat, by omega⟩
        have hd1 : (1 : Int) ≤ (d : Int) := by omega
        have hd2 : (d : Int) ≤ 3 := by omega
        go_upto_region 12 with fail
        clear hcw
        go_wp2_with fail
        go_loopw [9] (fun v wr2 => ∃ (k : Nat) (n2 : Nt) (nx2 : Int → Nat), v = .int .i64 k ∧ (k : Int) ≤ t / 3 % 5 ∧ RSt w.heap.size w g mb w5.heap.size (w5.heap.size + 1) (4 * j + k) n2 nx2 lt wr2) (fun v _ => 5 - (intOf v).toNat)
        case atStart => exact ⟨0, n, nx, rfl, by omega, HT.out⟩
        case round =>
          obtain ⟨k, n2, nx2, rfl, hk, st⟩ := hrel
          have hcw : wr.cell? ⟨b, o + j, none⟩ = some (.int .u8 t) := (st.held.below.cell HC.out.1).trans HC.out.2
          by_cases hks : (k : Int) < t / 3 % 5
          · obtain ⟨x, hx⟩ : ∃ x, nx2 (d : Int) = x := ⟨_, rfl⟩
            have hcx : wr.cell? ⟨w5.heap.size, d, none⟩ = some (.int .i64 (x : Nat)) := by rw [← hx]; exact st.ap.cell (by omega)
            have hxl := st.ri.hi (d : Int)
            obtain ⟨r, hr⟩ : ∃ r : Int, (x : Int) % 64 = r := ⟨_, rfl⟩
            have hr1 : (x : Int).tmod 64 = r := by rw [← hr]; exact Int.tmod_eq_emod_of_nonneg (by omega)
            have r0 : 0 ≤ r := by omega
            have r1 : r ≤ 63 := by omega
            rw [hx] at hxl
            have HT2 := Lib.hid (And.intro st (And.intro hx hr))
            clear st hx hr
            go_wp2_with fail
            refine (vt_any (1 + r) _).mono ?_
            rintro e w8 ⟨rfl, b8⟩
            have hcx := cell_keep hcx b8
            have hpl := World.block_lt_of_cell? w8 _ hcx
            obtain ⟨z, hz⟩ : ∃ z : Int, (x : Int) / 64 = z := ⟨_, rfl⟩
            have hz1 : (x : Int).tdiv 64 = z := by rw [← hz]; exact Int.tdiv_eq_ediv_of_nonneg (by omega)
            have z0 : 0 ≤ z := by omega
            have z1 : z ≤ 64 := by omega
            have hz2 : z.tmod 100 = z := Int.tmod_eq_of_lt z0 (by omega)
            have hmm : rowV (d : Int) (1 + r) z = rowM (d : Int) x := by
              have e1 : ((x % 64 : Nat) : Int) = r := by have := HT2.out.2.2; omega
              have e2 : ((x / 64 % 100 : Nat) : Int) = z := by omega
              simp [rowV, rowM, ← e1, ← e2]
            have hK4 : 4 * j + k < 4096 := by omega
            have hst := (HT2.out.1.kept b8).kept ((Below.refl _ w8).alloc (Nat.le_refl _) (.cells ((rowV (d : Int) (1 + r) z).cells none 0) 32))
            have HM := Lib.hid (And.intro hmm (And.intro hst hK4))
            clear hmm hst b8
            go_wp2_with fail
            refine (send_h (m := rowV (d : Int) (1 + r) z) (a := none) (c := 0) (b := true) (n' := n2.send (rowM (d : Int) x)) HM.out.2.1.held HM.out.2.1.ok (by omega) (by rw [HM.out.1]; exact rowM_ok (by omega) (by omega)) (.inr (.inl rfl)) (by rw [HM.out.1, ← HT2.out.2.1]; exact (HM.out.2.1.ri.send HM.out.2.2 (by omega) (by omega)).1) (by rw [HM.out.1])).mono ?_
            rintro e w10 ⟨rfl, H10, f10⟩
            have ha10 := HM.out.2.1.ap.fr f10 (.inl rfl)
            have hcx : w10.cell? ⟨w5.heap.size, d, none⟩ = some (.int .i64 (x : Nat)) := by rw [← HT2.out.2.1]; exact ha10.cell (by omega)
            have hfx : w10.frozen? ⟨w5.heap.size, d, none⟩ = false := by
              obtain ⟨cs, h1, _⟩ := ha10
              exact h1.frozen d
            have hs10 : RSt w.heap.size w g mb w5.heap.size (w5.heap.size + 1) (4 * j + k + 1) (n2.send (rowM (d : Int) x)) (bump nx2 d) lt (w10.setCell ⟨w5.heap.size, d, none⟩ (.int .i64 ((x : Nat) + 1 : Int))) := by
              have e := HT2.out.2.1
              subst e
              exact HM.out.2.1.send (by omega) (by omega) HM.out.2.2 H10 f10
            have HE := Lib.hid hs10
            clear H10 f10 ha10 hs10 hpl hz1 hz2 hr1
            go_wp2_with fail
            go_roundw
            case rel => exact ⟨k + 1, _, _, by go_num, by omega, HE.out⟩
            case measure => simp [intOf]; omega
          · have HT3 := Lib.hid st
            have hk4 : k ≤ 4 := by omega
            clear HT st
            go_wp2_with fail
            go_loopw [11] (fun v wr3 => ∃ (m : Nat) (n3 : Nt) (lt3 : Int → Nat), v = .int .i64 m ∧ (m : Int) ≤ t / 15 % 5 ∧ RSt w.heap.size w g mb w5.heap.size (w5.heap.size + 1) (4 * j + k) n3 nx2 lt3 wr3) (fun v _ => 5 - (intOf v).toNat)
            case atStart => exact ⟨0, n2, lt, rfl, by omega, HT3.out⟩
            case round =>
              obtain ⟨m, n3, lt3, rfl, hm, st⟩ := hrel
              clear HT3 hcw
              have hcw : wr.cell? ⟨b, o + j, none⟩ = some (.int .u8 t) := (st.held.below.cell HC.out.1).trans HC.out.2
              by_cases hms : (m : Int) < t / 15 % 5
              · have HT4 := Lib.hid st
                clear st
                go_wp2_with fail
                obtain ⟨xs, hxs⟩ : ∃ xs, n3.to (d : Int) = xs := ⟨_, rfl⟩
                have hfirst := HT4.out.ri.first (d := (d : Int)) (by omega) (by omega)
                rw [hxs] at hfirst
                refine (to_h (node := (d : Int)) (xs := xs) HT4.out.held HT4.out.ok (by omega) hxs).mono ?_
                rintro e w7 ⟨a7, c7, rfl, own7, b7⟩
                have st7 := HT4.out.kept b7
                obtain ⟨x, hx⟩ : ∃ x, nx2 (d : Int) = x := ⟨_, rfl⟩
                obtain ⟨y, hy⟩ : ∃ y, lt3 (d : Int) = y := ⟨_, rfl⟩
                have hle := st7.ri.le (d : Int)
                have hhi := st7.ri.hi (d : Int)
                rw [hx, hy] at hle
                rw [hx] at hhi
                have hlen := hfirst.1
                rw [hx, hy] at hlen
                have hcx : w7.cell? ⟨w5.heap.size, d, none⟩ = some (.int .i64 (x : Nat)) := by rw [← hx]; exact st7.ap.cell (by omega)
                have hcy : w7.cell? ⟨w5.heap.size + 1, d, none⟩ = some (.int .i64 (y : Nat)) := by rw [← hy]; exact st7.aq.cell (by omega)
                have hcxd : w7.drew.cell? ⟨w5.heap.size, d, none⟩ = some (.int .i64 (x : Nat)) := hcx
                have hcyd : w7.drew.cell? ⟨w5.heap.size + 1, d, none⟩ = some (.int .i64 (y : Nat)) := hcy
                have hne : ((xs.length : Int) != (x : Int) - (y : Int)) = false := by simp; omega
                have HF := Lib.hid (And.intro hfirst (And.intro st7 (And.intro (own_nums own7) (And.intro hx (And.intro hy hxs)))))
                clear hfirst st7 own7 hx hy hxs b7 HT4
                go_upto_region 25 with fail
                go_quiet (fail)
                rename_i nq _ _
                by_cases hx0 : xs.length = 0
                · have h6 : ((xs.length : Int) == 0) = true := by simp [hx0]
                  clear hx0
                  go_wp2_with fail
                  go_roundw
                  case rel => exact ⟨j + 1, n3, nx2, lt3, by omega, by go_num, (HF.out.2.1.kept (below_drewN (Below.refl _ w7) _)).more (by omega)⟩
                  case measure => simp [intOf]; omega
                · have h6 : ((xs.length : Int) == 0) = false := by rw [beq_eq_false_iff_ne]; omega
                  obtain ⟨k0, rest, rfl⟩ : ∃ k0 rest, xs = k0 :: rest := by
                    cases xs with
                    | nil => simp at hx0
                    | cons a b => exact ⟨a, b, rfl⟩
                  obtain ⟨b8, o8, rfl, hc8⟩ : ∃ b8 o8, a7 = some ⟨b8, o8, none⟩ ∧ (w7.drewN nq).cell? ⟨b8, o8, none⟩ = some (.int .i64 k0) := by
                    rcases HF.out.2.2.1 with h0 | ⟨b, o, ha, hb, hc⟩
                    · cases h0
                    · exact ⟨b, o, ha, by have := hc 0 k0 rfl; simpa using this⟩
                  have hlen0 : (0 : Int) < ((k0 :: rest).length : Int) := by simp only [List.length_cons]; omega
                  have st8 := HF.out.2.1.kept (below_drewN (Below.refl _ w7) nq)
                  generalize w7.drewN nq = w8 at *
                  have H8 := Lib.hid st8
                  clear st8 hcx hcy hcxd hcyd hx0
                  generalize (k0 :: rest).length = LL at *
                  go_wp2_with fail
                  have hlost : n3.lost k0 = 0 := by simp [Nt.lost, (HF.out.1.2 k0 rest rfl).1]
                  refine (give_h (k := k0) (m := rowM (d : Int) y) (e1 := 0) (n' := n3.lose k0) H8.out.held H8.out.ok (by omega) (by rw [← HF.out.2.2.2.2.1]; exact (HF.out.1.2 k0 rest rfl).2.1) hlost rfl).mono ?_
                  rintro e w9 ⟨a6, c6, rfl, -, H9, f9⟩
                  have B9 : Below w9.heap.size w9 (boxed w9 (rowM (d : Int) y) a6 c6) := boxed_below (Below.refl _ w9) (Nat.le_refl _) _ a6 c6
                  have M9 := boxed_blk w9 (rowM (d : Int) y) a6 c6
                  have H10 := H9.kept B9
                  have f10 := f9.trans (H9.fr B9)
                  obtain ⟨w10, hw10⟩ : ∃ w10, w10 = boxed w9 (rowM (d : Int) y) a6 c6 := ⟨_, rfl⟩
                  rw [← hw10] at M9 H10 f10
                  unfold boxed at hw10
                  have HW := Lib.hid hw10
                  clear hw10 H9 f9 B9 hlost hc8
                  go_upto_region 29 with fail
                  rw [← HW.out]
                  clear HW
                  generalize w9.heap.size = G at *
                  obtain ⟨-, -, m2, m3, m4, -⟩ := M9.msg
                  obtain ⟨r, hr⟩ : ∃ r : Int, ((y % 64 : Nat) : Int) = r := ⟨_, rfl⟩
                  obtain ⟨z, hz⟩ : ∃ z : Int, ((y / 64 % 100 : Nat) : Int) = z := ⟨_, rfl⟩
                  have f2 : w10.drew.cell? ⟨G, 2, none⟩ = some (.int .i64 (d : Int)) := m2
                  have f3 : w10.drew.cell? ⟨G, 3, none⟩ = some (.int .i64 (1 + r)) := by rw [← hr]; exact m3
                  have f4 : w10.drew.cell? ⟨G, 4, none⟩ = some (.int .i64 z) := by rw [← hz]; exact m4
                  have g2 : w10.cell? ⟨G, 2, none⟩ = some (.int .i64 (d : Int)) := f2
                  have g3 : w10.cell? ⟨G, 3, none⟩ = some (.int .i64 (1 + r)) := f3
                  have g4 : w10.cell? ⟨G, 4, none⟩ = some (.int .i64 z) := f4
                  have hr1 : (y : Int).tmod 64 = r := by rw [← hr, Int.tmod_eq_emod_of_nonneg (by omega)]; omega
                  have hz1 : (y : Int).tdiv 64 = z := by rw [← hz, Int.tdiv_eq_ediv_of_nonneg (by omega)]; omega
                  have hz2 : z.tmod 100 = z := Int.tmod_eq_of_lt (by omega) (by omega)
                  have r0 : 0 ≤ r := by omega
                  have r1 : r ≤ 63 := by omega
                  have z0 : 0 ≤ z := by omega
                  have z1 : z ≤ 64 := by omega
                  have haq := H8.out.aq.fr f10 (.inr rfl)
                  have hcy : w10.cell? ⟨w5.heap.size + 1, d, none⟩ = some (.int .i64 (y : Nat)) := by rw [← HF.out.2.2.2.2.1]; exact haq.cell (by omega)
                  have hcyd : w10.drew.cell? ⟨w5.heap.size + 1, d, none⟩ = some (.int .i64 (y : Nat)) := hcy
                  have hfy : w10.frozen? ⟨w5.heap.size + 1, d, none⟩ = false := by
                    obtain ⟨cs, h1, _⟩ := haq
                    exact h1.frozen d
                  have hy9 : (y : Int) ≤ 1000 := by omega
                  have HG := Lib.hid (And.intro H10 f10)
                  clear H10 f10 haq m2 m3 m4 M9 hr hz
                  go_quiet (fail)
                  go_wp2_with fail
                  go_roundw
                  case rel =>
                    have e := HF.out.2.2.2.2.1
                    subst e
                    exact ⟨m + 1, _, _, by go_num, by omega, H8.out.give (by omega) (by omega) HF.out.2.2.2.2.2 (HG.out.1.kept (below_drewN (Below.refl _ w10) _)) (HG.out.2.trans (HG.out.1.fr (below_drewN (Below.refl _ w10) _)))⟩
                  case measure => simp [intOf]; omega
              · have HT4 := Lib.hid st
                clear st
                go_wp2_with fail
                go_roundw
                case rel => exact ⟨j + 1, n3, nx2, lt3, by omega, by go_num, HT4.out.more (by omega)⟩
                case measure => simp [intOf]; omega
      · have hje : j = l.length := by omega
        subst hje
        have HT := Lib.hid st
        clear st
        go_wp2_with fail
        refine (crowded_e (e1 := 0) HT.out.held HT.out.ri.out).mono ?_
        rintro e w10 ⟨rfl, rfl⟩
        go_wp2_with fail
        go_ret
        exact ⟨rfl, HT.out.held.below⟩
end Go.Proofs.Ytbibbndjnlnbiaa
