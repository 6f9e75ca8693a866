/-
  consistorylaw28.NetNames: the walk.
-/
import Derived.Test.YtbibbndjnlnbiaaWorks28
namespace Go.Proofs.Ytbibbndjnlnbiaa
open Go.RowKit Go.Maps

theorem bigN_ok {most next out : Int} {hs : List Int} (m1 : 1 ≤ most) (m2 : most ≤ 4096) (n0 : 0 ≤ next) (n1 : next ≤ 5000) (o0 : 0 ≤ out) (o1 : out ≤ 5000) (hl : (hs.length : Int) ≤ most) (hh : ∀ h ∈ hs, 1 ≤ h ∧ h ≤ 64) : (wkN most next out hs).Ok 5000 :=
  ⟨m1, m2, n0, n1, o0, o1, by simpa [wkN] using hl, fun m hm => by
    obtain ⟨h, hm1, rfl⟩ := List.mem_map.1 hm
    have := hh h hm1
    exact ⟨vtM_ok (by unfold I64; omega), vtM_may this.1 this.2⟩⟩
/-- The heights of the first j votes. -/
def vs (j : Nat) : List Int := (List.range j).map fun i : Nat => 1 + (i : Int) % 64
theorem vs_len (j : Nat) : (vs j).length = j := by simp [vs]
theorem vs_mem (j : Nat) : ∀ h ∈ vs j, 1 ≤ h ∧ h ≤ 64 := by
  intro h hm
  obtain ⟨i, -, rfl⟩ := List.mem_map.1 hm
  omega
theorem vs_succ (j : Nat) : vs (j + 1) = vs j ++ [1 + (j : Int) % 64] := by simp [vs, List.range_succ]
theorem vs_ok {j : Nat} {out : Int} (hj : j ≤ 4096) (o0 : 0 ≤ out) (o1 : out ≤ 5000) : (wkN 4096 j out (vs j)).Ok 5000 :=
  bigN_ok (by omega) (by omega) (by omega) (by omega) o0 o1 (by rw [vs_len]; omega) (vs_mem j)
section
variable {most next out h : Int} {hs : List Int}
theorem wk_room (h1 : 1 ≤ h) (h2 : h ≤ 64) (hl : (hs.length : Int) < most) : (wkN most next out hs).sent (vtM h) = true ∧ (wkN most next out hs).send (vtM h) = wkN most (next + 1) out (hs ++ [h]) := by
  have hm := vtM_may h1 h2
  simp [Nt.sent, Nt.send, hm, wkN, hl]
theorem wk_full (h1 : 1 ≤ h) (h2 : h ≤ 64) (hl : most ≤ (hs.length : Int)) : (wkN most next out hs).sent (vtM h) = false ∧ (wkN most next out hs).send (vtM h) = wkN most next (out + 1) hs := by
  have hm := vtM_may h1 h2
  have hl : ¬ (hs.length : Int) < most := by omega
  simp [Nt.sent, Nt.send, hm, wkN, hl]
end
theorem may_not {n : Nt} {m : Mg} (h : m.may = false) : n.sent m = false ∧ n.send m = n := by simp [Nt.sent, Nt.send, h]
theorem bad65 : (vtM 65).may = false := by rfl
theorem bad0 : (vtM 0).may = false := by rfl
theorem badz : Mg.zero.may = false := by rfl
theorem zero_fit : Mg.zero.Ok := ok_ints (by decide) (by unfold I64; decide) (by unfold I64; decide) (by unfold I64; decide) (by unfold I64; decide) (by unfold I64; decide) (by unfold I64; decide) (by unfold I64; decide) (by unfold I64; decide)
/-- The vote to node 3. -/
def m5 : Mg := ⟨3, 1, 3, 5, 0, 0, 0, 0, 0, [], []⟩
theorem m5_ok : m5.Ok := ok_ints (by decide) (by unfold I64; decide) (by unfold I64; decide) (by unfold I64; decide) (by unfold I64; decide) (by unfold I64; decide) (by unfold I64; decide) (by unfold I64; decide) (by unfold I64; decide)
theorem m5_may : m5.may = true := by rfl
theorem vt_i {h : Int} (h1 : 0 ≤ h) (h2 : h ≤ 100) : (vtM h).Ok := vtM_ok (by unfold I64; omega)
def pN1 : Nt := ⟨9, 1, [vtM 1], 0⟩
def pN2 : Nt := ⟨9, 2, [vtM 1, m5], 0⟩
def pN3 : Nt := ⟨9, 3, [vtM 1, m5, vtM 2], 0⟩
def pN4 : Nt := ⟨9, 3, [m5, vtM 2], 0⟩
theorem fit1 : (vtM 1).Ok ∧ (vtM 1).may = true := ⟨vt_i (by decide) (by decide), by rfl⟩
theorem fit2 : (vtM 2).Ok ∧ (vtM 2).may = true := ⟨vt_i (by decide) (by decide), by rfl⟩
theorem pOk {next : Int} {l : List Mg} (h0 : 0 ≤ next) (h1 : next ≤ 100) (hl : l.length ≤ 9) (hh : ∀ m ∈ l, m = vtM 1 ∨ m = m5 ∨ m = vtM 2) : (⟨9, next, l, 0⟩ : Nt).Ok 100 :=
  ⟨by show (1 : Int) ≤ 9; decide, by show (9 : Int) ≤ 4096; decide, h0, h1, Int.le_refl _, by show (0 : Int) ≤ 100; decide, by show (l.length : Int) ≤ 9; omega, fun m hm => by
    rcases hh m hm with rfl | rfl | rfl
    · exact fit1
    · exact ⟨m5_ok, m5_may⟩
    · exact fit2⟩
theorem pN0_ok : (Nt.new 9).Ok 100 := pOk (by decide) (by decide) (by decide) (by simp)
theorem pN1_ok : pN1.Ok 100 := pOk (by decide) (by decide) (by decide) (by simp)
theorem pN2_ok : pN2.Ok 100 := pOk (by decide) (by decide) (by decide) (by simp)
theorem pN3_ok : pN3.Ok 100 := pOk (by decide) (by decide) (by decide) (by simp)
theorem pN4_ok : pN4.Ok 100 := pOk (by decide) (by decide) (by decide) (by simp)
theorem ints_lit (xs ys : List Int) (L M : Nat) (hL : xs.length = L) (hM : ys.length = M) (he : xs = ys) (hl : xs.length ≤ 100) (a a' : Option Addr) (c c' : Nat) (w : World) (ha : Nums .i64 w w.heap.size a xs) (ha' : Nums .i64 w w.heap.size a' ys) :
    Calls Try.prog 29 #[.slice a L c, .slice a' M c'] w (BoolPost true w) := by
  subst hL hM he
  have := ints_any a a' c c' xs xs w ha ha' (by omega) (by omega)
  simpa using this
theorem to_nums {w w' : World} {a : Option Addr} {c : Nat} {xs : List Int} (h : w'.ownsRow w.heap.size 3 1 (.slice a xs.length c) xs.length (xs.map (.int .i64))) : Nums .i64 w' w'.heap.size a xs := own_nums h
theorem ni02 (w : World) : Nums .i64 (w.alloc (.cells #[.int .i64 0, .int .i64 2] 3)) (w.alloc (.cells #[.int .i64 0, .int .i64 2] 3)).heap.size (some ⟨w.heap.size, 0, none⟩) [0, 2] := new_ints [0, 2] w
theorem ni1 (w : World) : Nums .i64 (w.alloc (.cells #[.int .i64 1] 3)) (w.alloc (.cells #[.int .i64 1] 3)).heap.size (some ⟨w.heap.size, 0, none⟩) [1] := new_ints [1] w
theorem nums_alloc {w : World} {a : Option Addr} {xs : List Int} (h : Nums .i64 w w.heap.size a xs) (o : Obj) : Nums .i64 (w.alloc o) (w.alloc o).heap.size a xs := (h.kept ((Below.refl _ w).alloc (Nat.le_refl _) o) (Nat.le_refl _)).more (by simp)

set_option maxRecDepth 100000 in
set_option maxHeartbeats 8000000 in
theorem nnames_any (w : World) : Calls Try.prog 6 #[] w (TruePost w) := by
  have hK : 5000 ≤ 1000000 := by decide
  have hK2 : 100 ≤ 1000000 := by decide
  have HK := Lib.hid (And.intro hK hK2)
  clear hK hK2
  go_enter Try.func6, Try.ntmps6
  go_wp2_with fail
  refine (give_nil 0 w).mono ?_
  rintro e w1 ⟨a1, c1, rfl, b1⟩
  unfold Mg.val
  have B1 := boxed_below b1 b1.size Mg.zero a1 c1
  unfold boxed at B1
  have H1 := Lib.hid B1
  clear b1 B1
  go_wp2_with fail
  refine (at_nil 0 _).mono ?_
  rintro e w2 ⟨a2, c2, rfl, -, b2⟩
  unfold Mg.val
  have B2 := boxed_below (step_below H1.out b2) (Nat.le_trans H1.out.size b2.size) Mg.zero a2 c2
  unfold boxed at B2
  have H2 := Lib.hid B2
  clear b2 B2 H1
  go_wp2_with fail
  refine (works28_any _).mono ?_
  rintro e w3 ⟨rfl, b3⟩
  have H3 := Lib.hid (step_below H2.out b3)
  clear b3 H2
  go_wp2_with fail
  refine (vt_any 1 w3).mono ?_
  rintro e w4 ⟨rfl, b4⟩
  have H4 := Lib.hid (step_below H3.out b4)
  clear b4 H3
  go_wp2_with fail
  refine (send_nil (vtM 1) none 0 w4).mono ?_
  rintro e w5 ⟨rfl, b5⟩
  have H5 := Lib.hid (step_below H4.out b5)
  clear b5 H4
  go_wp2_with fail
  refine (len_nil w5).mono ?_
  rintro e w5' ⟨rfl, rfl⟩
  go_wp2_with fail
  refine (lose_nil 0 w5).mono ?_
  rintro e w5' ⟨rfl, rfl⟩
  go_wp2_with fail
  refine (twice_nil 0 w5).mono ?_
  rintro e w6 ⟨rfl, b6⟩
  have H6 := Lib.hid (step_below H5.out b6)
  clear b6 H5
  go_wp2_with fail
  refine (to_nil 2 w6).mono ?_
  rintro e w6' ⟨rfl, rfl⟩
  go_wp2_with fail
  refine (crowded_nil w6).mono ?_
  rintro e w6' ⟨rfl, rfl⟩
  go_wp2_with fail
  refine (copy_nil w6).mono ?_
  rintro e w6' ⟨rfl, rfl⟩
  have B7 : Below w.heap.size w (w6.alloc (.cells #[.int .i64 0, .int .i64 (-1), .int .i64 4097] 3)) := H6.out.alloc H6.out.size _
  have R7 := Blk.new w6 3 #[.int .i64 0, .int .i64 (-1), .int .i64 4097]
  have H7 := Lib.hid (And.intro B7 R7)
  clear B7 R7 H6
  go_wp2_with fail
  go_loopw [81] (fun v wr => ∃ j : Nat, j ≤ 3 ∧ v = .int .i64 j ∧ Below w.heap.size w wr ∧ Blk wr w6.heap.size 3 #[.int .i64 0, .int .i64 (-1), .int .i64 4097]) (fun v _ => 3 - (intOf v).toNat)
  case atStart => exact ⟨0, Nat.zero_le _, rfl, H7.out.1, H7.out.2⟩
  case round =>
    obtain ⟨j, hj, rfl, hB, hR⟩ := hrel
    clear H7
    by_cases hlt : j < 3
    · obtain ⟨x, hx, hx2⟩ : ∃ x : Int, wr.cell? ⟨w6.heap.size, j, none⟩ = some (.int .i64 x) ∧ (x < 1 ∨ 4096 < x) := by
        rw [hR.cell]
        have : j = 0 ∨ j = 1 ∨ j = 2 := by omega
        rcases this with rfl | rfl | rfl
        · exact ⟨0, rfl, by decide⟩
        · exact ⟨-1, rfl, by decide⟩
        · exact ⟨4097, rfl, by decide⟩
      have hjI : (j : Int) < 3 := by omega
      have HX := Lib.hid hx2
      have HB := Lib.hid (And.intro hB hR)
      clear hx2 hB hR
      go_wp2_with fail
      refine (new_no x wr HX.out).mono ?_
      rintro e w8 ⟨rfl, rfl⟩
      go_wp2_with fail
      go_roundw
      case rel => exact ⟨j + 1, by omega, by go_num, HB.out.1, HB.out.2⟩
      case measure => simp [intOf]; omega
    · have hje : j = 3 := by omega
      subst hje
      have HB := Lib.hid hB
      clear hB hR
      go_wp2_with fail
      refine (new_h (most := 4096) (w0 := w) (by decide) (by decide) HB.out).mono ?_
      rintro e w8 ⟨g, mb, rfl, N0, -⟩
      have N0 : Held (fun _ => False) w.heap.size w g mb (wkN 4096 (0 : Nat) 0 (vs 0)) w8 := N0
      go_wp2_with fail
      refine (send_h (m := Mg.zero) (a := none) (c := 0) N0 (vs_ok (by decide) (by decide) (by decide)) HK.out.1 zero_fit (.inr (.inl rfl)) (may_not badz).1 (may_not badz).2).mono ?_
      rintro e w9 ⟨rfl, N1, -⟩
      clear N0
      go_wp2_with fail
      refine (vt_any 65 w9).mono ?_
      rintro e w10 ⟨rfl, b10⟩
      go_wp2_with fail
      refine (send_h (m := vtM 65) (a := none) (c := 0) (N1.kept b10) (vs_ok (by decide) (by decide) (by decide)) HK.out.1 (vt_i (by decide) (by decide)) vtM_safe (may_not bad65).1 (may_not bad65).2).mono ?_
      rintro e w11 ⟨rfl, N2, -⟩
      clear N1 b10
      go_wp2_with fail
      refine (crowded_e (e1 := 0) N2 (by rfl)).mono ?_
      rintro e w11' ⟨rfl, rfl⟩
      have HN := Lib.hid N2
      clear N2
      go_wp2_with fail
      go_loopw [12] (fun v wr2 => ∃ j : Nat, j ≤ 4096 ∧ v = .int .i64 j ∧ Held (fun _ => False) w.heap.size w g mb (wkN 4096 j 0 (vs j)) wr2) (fun v _ => 4096 - (intOf v).toNat)
      case atStart => exact ⟨0, Nat.zero_le _, rfl, HN.out⟩
      case round =>
        obtain ⟨j, hj, rfl, hN⟩ := hrel
        clear HN
        by_cases hlt : j < 4096
        · have hjI : (j : Int) < 4096 := by omega
          have hrem : (j : Int).tmod 64 = (j : Int) % 64 := Int.tmod_eq_emod_of_nonneg (by omega)
          obtain ⟨r, hr⟩ : ∃ r : Int, (j : Int) % 64 = r := ⟨_, rfl⟩
          have r0 : 0 ≤ r := by omega
          have r1 : r ≤ 63 := by omega
          rw [hr] at hrem
          have HN := Lib.hid (And.intro hN hr)
          clear hN hr
          go_wp2_with fail
          refine (vt_any (1 + r) _).mono ?_
          rintro e w12 ⟨rfl, b12⟩
          go_wp2_with fail
          refine (send_h (m := vtM (1 + r)) (a := none) (c := 0) (HN.out.1.kept b12) (vs_ok hj (by decide) (by decide)) HK.out.1 (vt_i (by omega) (by omega)) vtM_safe (wk_room (by omega) (by omega) (by rw [vs_len]; omega)).1 (wk_room (by omega) (by omega) (by rw [vs_len]; omega)).2).mono ?_
          rintro e w13 ⟨rfl, N13, -⟩
          clear b12
          go_wp2_with fail
          go_roundw
          case rel => exact ⟨j + 1, by omega, by go_num, by rw [vs_succ, HN.out.2]; exact N13⟩
          case measure => simp [intOf]; omega
        · have hje : j = 4096 := by omega
          subst hje
          have HN := Lib.hid hN
          clear hN
          go_wp2_with fail
          refine (vt_any 1 _).mono ?_
          rintro e w12 ⟨rfl, b12⟩
          go_wp2_with fail
          refine (send_h (m := vtM 1) (a := none) (c := 0) (HN.out.kept b12) (vs_ok (Nat.le_refl _) (by decide) (by decide)) HK.out.1 (vt_i (by decide) (by decide)) vtM_safe (wk_full (by decide) (by decide) (by rw [vs_len]; omega)).1 (wk_full (by decide) (by decide) (by rw [vs_len]; omega)).2).mono ?_
          rintro e w13 ⟨rfl, N13, -⟩
          clear b12 HN
          have hlen : (wkN 4096 (4096 : Nat) (0 + 1) (vs 4096)).l.length = 4096 := by simp [wkN, vs_len]
          have HL : Calls Try.prog 18 #[.pointer (some ⟨g, 0, none⟩)] w13 fun e w' => e = .returned (.int .i64 4096) ∧ w13 = w' := by
            have := len_h N13 (vs_ok (Nat.le_refl _) (by decide) (by decide))
            rw [hlen] at this
            exact this
          have HL := Lib.hid HL
          clear hlen
          go_wp2_with fail
          refine (Calls.mono HL.out ?_)
          rintro e w13' ⟨rfl, rfl⟩
          go_wp2_with fail
          refine (crowded_e (e1 := 1) N13 (by rfl)).mono ?_
          rintro e w13' ⟨rfl, rfl⟩
          go_wp2_with fail
          refine (vt_any 0 _).mono ?_
          rintro e w14 ⟨rfl, b14⟩
          go_wp2_with fail
          refine (send_h (m := vtM 0) (a := none) (c := 0) (N13.kept b14) (vs_ok (Nat.le_refl _) (by decide) (by decide)) HK.out.1 (vt_i (by decide) (by decide)) vtM_safe (may_not bad0).1 (may_not bad0).2).mono ?_
          rintro e w15 ⟨rfl, N15, -⟩
          clear b14 N13 HL
          go_wp2_with fail
          refine (crowded_e (e1 := 1) N15 (by rfl)).mono ?_
          rintro e w15' ⟨rfl, rfl⟩
          have B15 := N15.below
          clear N15
          go_wp2_with fail
          refine (new_h (most := 9) (w0 := w) (by decide) (by decide) B15).mono ?_
          rintro e w16 ⟨g2, mb2, rfl, P0, -⟩
          clear B15
          go_wp2_with fail
          refine (vt_any 5 _).mono ?_
          rintro e w17 ⟨rfl, b17⟩
          have P2 := (P0.kept b17).alloc (.cells #[.int .u8 (vtM 5).k, .int .i64 (vtM 5).fr, .int .i64 3, .int .i64 (vtM 5).ht, .int .i64 (vtM 5).rd, .int .i64 (vtM 5).vl, .int .i64 (vtM 5).ep, .int .i64 (vtM 5).dl, .int .i64 (vtM 5).id, .string ⟨(vtM 5).s.toArray⟩, .slice none (vtM 5).l.length 0] 32)
          have M2 : Blk (w17.alloc (.cells #[.int .u8 (vtM 5).k, .int .i64 (vtM 5).fr, .int .i64 3, .int .i64 (vtM 5).ht, .int .i64 (vtM 5).rd, .int .i64 (vtM 5).vl, .int .i64 (vtM 5).ep, .int .i64 (vtM 5).dl, .int .i64 (vtM 5).id, .string ⟨(vtM 5).s.toArray⟩, .slice none (vtM 5).l.length 0] 32)) w17.heap.size 32 (m5.cells none 0) := Blk.new w17 32 (m5.cells none 0)
          obtain ⟨w18, hw18⟩ : ∃ w18, w18 = w17.alloc (.cells #[.int .u8 (vtM 5).k, .int .i64 (vtM 5).fr, .int .i64 3, .int .i64 (vtM 5).ht, .int .i64 (vtM 5).rd, .int .i64 (vtM 5).vl, .int .i64 (vtM 5).ep, .int .i64 (vtM 5).dl, .int .i64 (vtM 5).id, .string ⟨(vtM 5).s.toArray⟩, .slice none (vtM 5).l.length 0] 32) := ⟨_, rfl⟩
          rw [← hw18] at P2 M2
          have HW := Lib.hid (And.intro hw18 (And.intro P2 M2))
          clear hw18 P0 P2 M2 b17
          go_upto_region 26 with fail
          rw [← HW.out.1]
          have HQ := Lib.hid HW.out.2
          clear HW
          generalize w17.heap.size = G at *
          go_wp2_with fail
          refine (vt_any 1 _).mono ?_
          rintro e w19 ⟨rfl, b19⟩
          go_wp2_with fail
          refine (send_h (n' := pN1) (b := true) (m := vtM 1) (a := none) (c := 0) (HQ.out.1.kept b19) pN0_ok HK.out.2 fit1.1 vtM_safe (by rfl) (by rfl)).mono ?_
          rintro e w20 ⟨rfl, Q1, k1⟩
          have M20 := k1.blk (HQ.out.2.kept b19) (by decide) (by decide)
          obtain ⟨f0, f1, f2, f3, f4, f5, f6, f7, f8, f9, f10⟩ := M20.msg
          have HM := Lib.hid Q1
          clear b19 k1 HQ M20 Q1
          go_wp2_with fail
          refine (send_h (n' := pN2) (b := true) (m := m5) (a := none) (c := 0) HM.out pN1_ok HK.out.2 m5_ok (.inr (.inl rfl)) (by rfl) (by rfl)).mono ?_
          rintro e w21 ⟨rfl, Q2, -⟩
          clear f0 f1 f2 f3 f4 f5 f6 f7 f8 f9 f10 HM
          go_wp2_with fail
          refine (vt_any 2 _).mono ?_
          rintro e w22 ⟨rfl, b22⟩
          go_wp2_with fail
          refine (send_h (n' := pN3) (b := true) (m := vtM 2) (a := none) (c := 0) (Q2.kept b22) pN2_ok HK.out.2 fit2.1 vtM_safe (by rfl) (by rfl)).mono ?_
          rintro e w23 ⟨rfl, Q3, -⟩
          clear b22 Q2
          go_wp2_with fail
          refine (to_h (node := 2) (xs := [0, 2]) Q3 pN3_ok HK.out.2 (by rfl)).mono ?_
          rintro e w24 ⟨a24, c24, rfl, O24, b24⟩
          have H24 := Lib.hid (And.intro (Q3.kept b24) (to_nums O24))
          clear Q3 O24 b24
          go_wp2_with fail
          refine (ints_lit [0, 2] [0, 2] _ _ (by rfl) (by rfl) (by rfl) (by decide) _ _ _ _ _ (nums_alloc H24.out.2 _) (ni02 w24)).mono ?_
          rintro e w25 ⟨rfl, b25⟩
          have H25 := Lib.hid ((H24.out.1.alloc _).kept b25)
          clear H24 b25
          go_wp2_with fail
          refine (to_h (node := 3) (xs := [1]) H25.out pN3_ok HK.out.2 (by rfl)).mono ?_
          rintro e w26 ⟨a26, c26, rfl, O26, b26⟩
          have H26 := Lib.hid (And.intro (H25.out.kept b26) (to_nums O26))
          clear H25 O26 b26
          go_wp2_with fail
          refine (ints_lit [1] [1] _ _ (by rfl) (by rfl) (by rfl) (by decide) _ _ _ _ _ (nums_alloc H26.out.2 _) (ni1 w26)).mono ?_
          rintro e w27 ⟨rfl, b27⟩
          have H27 := Lib.hid ((H26.out.1.alloc _).kept b27)
          clear H26 b27
          go_wp2_with fail
          refine (to_h (node := 0) (xs := []) H27.out pN3_ok HK.out.2 (by rfl)).mono ?_
          rintro e w28 ⟨a28, c28, rfl, -, b28⟩
          have H28 := Lib.hid (H27.out.kept b28)
          clear H27 b28
          go_wp2_with fail
          refine (lose_h (k := -1) (n' := pN3) (e1 := 5) H28.out pN3_ok HK.out.2 (by rfl) (by rfl)).mono ?_
          rintro e w29 ⟨rfl, Q29, -⟩
          clear H28
          go_wp2_with fail
          refine (lose_h (k := 3) (n' := pN3) (e1 := 5) Q29 pN3_ok HK.out.2 (by rfl) (by rfl)).mono ?_
          rintro e w30 ⟨rfl, Q30, -⟩
          clear Q29
          go_wp2_with fail
          refine (twice_h (k := 3) (n' := pN3) (e1 := 5) Q30 pN3_ok HK.out.2 (by rfl) (by rfl)).mono ?_
          rintro e w31 ⟨rfl, Q31, -⟩
          clear Q30
          go_wp2_with fail
          refine (lose_h (k := 0) (n' := pN4) (e1 := 0) Q31 pN3_ok HK.out.2 (by rfl) (by rfl)).mono ?_
          rintro e w32 ⟨rfl, Q32, -⟩
          clear Q31
          go_wp2_with fail
          refine (to_h (node := 2) (xs := [1]) Q32 pN4_ok HK.out.2 (by rfl)).mono ?_
          rintro e w33 ⟨a33, c33, rfl, O33, b33⟩
          have H33 := Lib.hid (And.intro (Q32.kept b33) (to_nums O33))
          clear Q32 O33 b33
          go_wp2_with fail
          refine (ints_lit [1] [1] _ _ (by rfl) (by rfl) (by rfl) (by decide) _ _ _ _ _ (nums_alloc H33.out.2 _) (ni1 w33)).mono ?_
          rintro e w34 ⟨rfl, b34⟩
          have H34 := Lib.hid ((H33.out.1.alloc _).kept b34).below
          clear H33 b34
          go_wp2_with fail
          go_ret
          exact ⟨rfl, H34.out⟩
end Go.Proofs.Ytbibbndjnlnbiaa
