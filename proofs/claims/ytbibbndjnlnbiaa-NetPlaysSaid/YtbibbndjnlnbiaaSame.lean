/-
  msg.Same.
-/
import Derived.Test.YtbibbndjnlnbiaaRSame
import Derived.Test.YtbibbndjnlnbiaaEnc
namespace Go.Proofs.Ytbibbndjnlnbiaa
open Go.RowKit

theorem same_ints (m o : Mg) : m.same o = (m.ints == o.ints && (m.k == o.k && (m.s == o.s && m.l == o.l))) := by
  rw [Bool.eq_iff_iff]
  simp only [Mg.same, Mg.ints, Bool.and_eq_true, beq_iff_eq, List.cons.injEq, and_true]
  constructor
  · rintro ⟨⟨⟨⟨⟨⟨⟨⟨⟨⟨h1, h2⟩, h3⟩, h4⟩, h5⟩, h6⟩, h7⟩, h8⟩, h9⟩, h10⟩, h11⟩
    exact ⟨⟨h2, h3, h4, h5, h6, h7, h8, h9⟩, h1, h10, h11⟩
  · rintro ⟨⟨h2, h3, h4, h5, h6, h7, h8, h9⟩, h1, h10, h11⟩
    exact ⟨⟨⟨⟨⟨⟨⟨⟨⟨⟨h1, h2⟩, h3⟩, h4⟩, h5⟩, h6⟩, h7⟩, h8⟩, h9⟩, h10⟩, h11⟩
theorem ints_len (m : Mg) : m.ints.length = 8 := rfl

set_option maxRecDepth 100000 in
set_option maxHeartbeats 2000000 in
theorem same_any (m o : Mg) (a a' : Option Addr) (c c' : Nat) (w : World) (ha : Nums .u64 w w.heap.size a m.l) (ha' : Nums .u64 w w.heap.size a' o.l) (hl9 : m.l.length ≤ 9223372036854775807) (hl9' : o.l.length ≤ 9223372036854775807) :
    Calls Try.prog 45 #[m.val a c, o.val a' c'] w (BoolPost (m.same o) w) := by
  have B1 := twoMsgs_1 w m o a a' c c'
  have B2 := twoMsgs_2 w m o a a' c c'
  have B0 := twoMsgs_below w m o a a' c c'
  obtain ⟨W, hW⟩ : ∃ W, W = twoMsgs w m o a a' c c' := ⟨_, rfl⟩
  rw [← hW] at B1 B2 B0
  unfold twoMsgs Mg.cells at hW
  have x10 : W.cell? ⟨w.heap.size, 10, none⟩ = some (.slice a m.l.length c) := B1.cell 10
  have y10 : W.cell? ⟨w.heap.size + 1, 10, none⟩ = some (.slice a' o.l.length c') := B2.cell 10
  have HW := Lib.hid hW
  clear hW
  rw [same_ints]
  unfold Mg.val
  have HB1 := Lib.hid B1
  have HB2 := Lib.hid B2
  clear B1 B2
  go_enter Try.func45, Try.ntmps45
  go_wp2_with fail
  rw [← HW.out]
  go_quiet (fail)
  go_wp2_with fail
  refine (places_any w.heap.size _).mono ?_
  rintro e w3 ⟨rfl, hp3, b3⟩
  have hB3 : Below W.heap.size W w3 := (below_drewN (Below.refl _ W) _).trans b3
  generalize (W.drewN _).heap.size = P at hp3 ⊢
  clear b3
  go_wp2_with fail
  go_loopw [15] (fun v wr => ∃ j : Nat, j ≤ 8 ∧ v = .int .i64 j ∧ (m.ints.take j == o.ints.take j) = true ∧ Below w3.heap.size w3 wr) (fun v _ => 8 - (intOf v).toNat)
  case atStart => exact ⟨0, Nat.zero_le _, rfl, by simp, Below.refl _ _⟩
  case round =>
    obtain ⟨j, hj, rfl, he, hB⟩ := hrel
    have hBW : Below W.heap.size W wr := hB3.trans (hB.mono hB3.size)
    have hBw : Below w.heap.size w wr := B0.trans (hBW.mono B0.size)
    have hA := HB1.out.kept hBW
    have hO := HB2.out.kept hBW
    have hP := hp3.kept hB
    by_cases hlt : j < 8
    · obtain ⟨x, hx⟩ : ∃ x, m.ints[j]? = some x := ⟨_, List.getElem?_eq_getElem (by rw [ints_len]; exact hlt)⟩
      obtain ⟨y, hy⟩ : ∃ y, o.ints[j]? = some y := ⟨_, List.getElem?_eq_getElem (by rw [ints_len]; exact hlt)⟩
      have p1 : wr.cell? ⟨P, j, none⟩ = some (.pointer (some ⟨w.heap.size, j + 1, none⟩)) := by rw [Blk.cell hP]; exact place_cell _ hlt
      have p2 : wr.cell? ⟨w.heap.size, j + 1, none⟩ = some (.int .i64 x) := by rw [Blk.cell hA]; exact ints_cell m a c hx
      have p3 : wr.cell? ⟨w.heap.size + 1, j + 1, none⟩ = some (.int .i64 y) := by rw [Blk.cell hO]; exact ints_cell o a' c' hy
      have hnext := take_beq' hx hy
      rw [he] at hnext
      have HN := Lib.hid hnext
      have HX := Lib.hid hx
      have HY := Lib.hid hy
      clear hnext he hA hO hP hx hy x10 y10
      have hjI : (j : Int) < 8 := by omega
      by_cases hxy : x = y
      · subst hxy
        go_wp2_with fail
        go_region_with ((go_at_call 54; (with_reducible refine (places_any (w.heap.size + 1) _).mono ?_); rintro e w6 ⟨rfl, hp6, b6⟩; have z1 := cell_keepd p2 b6; have z2 := cell_keepd p3 b6; have z3 : w6.cell? ⟨wr.heap.size, j, none⟩ = some (.pointer (some ⟨w.heap.size + 1, j + 1, none⟩)) := (Blk.cell hp6 j).trans (place_cell _ hlt)))
        all_goals
          go_wp2_with fail
          go_roundw
          case rel => exact ⟨j + 1, by omega, by go_num, by rw [HN.out]; simp, step_below hB.drew b6⟩
          case measure => simp [intOf]; omega
      · have hd2 : (x != y) = true := by simpa using hxy
        have hf : (m.ints == o.ints) = false := by
          rw [beq_eq_false_iff_ne]
          intro h
          rw [h] at HX
          have := HX.out.symm.trans HY.out
          injection this with this
          exact hxy this
        have HF := Lib.hid hf
        clear hf hxy
        go_wp2_with fail
        go_region_with ((go_at_call 54; (with_reducible refine (places_any (w.heap.size + 1) _).mono ?_); rintro e w6 ⟨rfl, hp6, b6⟩; have z1 := cell_keepd p2 b6; have z2 := cell_keepd p3 b6; have z3 : w6.cell? ⟨wr.heap.size, j, none⟩ = some (.pointer (some ⟨w.heap.size + 1, j + 1, none⟩)) := (Blk.cell hp6 j).trans (place_cell _ hlt)))
        all_goals
          go_wp2_with fail
          go_ret
          exact ⟨ret_bool (by rw [HF.out]; rfl), step_below hBw.drew b6⟩
    · have hje : j = 8 := by omega
      subst hje
      have hi : (m.ints == o.ints) = true := he
      have HI := Lib.hid hi
      clear hi he
      have u0 : wr.cell? ⟨w.heap.size, 0, none⟩ = some (.int .u8 m.k) := hA.cell 0
      have v0 : wr.cell? ⟨w.heap.size + 1, 0, none⟩ = some (.int .u8 o.k) := hO.cell 0
      have u9 : wr.cell? ⟨w.heap.size, 9, none⟩ = some (.string ⟨m.s.toArray⟩) := hA.cell 9
      have v9 : wr.cell? ⟨w.heap.size + 1, 9, none⟩ = some (.string ⟨o.s.toArray⟩) := hO.cell 9
      have HE := Lib.hid (equal_any a a' c c' m.l o.l wr ((ha.kept hBw (Nat.le_refl _)).more hBw.size) ((ha'.kept hBw (Nat.le_refl _)).more hBw.size) hl9 hl9')
      clear hA hO hP x10 y10
      by_cases hk : m.k = o.k
      · have hk1 : (m.k == o.k) = true := by simpa using hk
        clear hk
        by_cases hs : m.s = o.s
        · have hs1 : (m.s == o.s) = true := by simpa using hs
          have HS := Lib.hid hs1
          have HK := Lib.hid hk1
          clear hs1
          rw [hs] at u9
          clear hs
          go_wp2_with fail
          refine (Calls.mono HE.out ?_)
          rintro e w6 ⟨rfl, b6⟩
          go_wp2_with fail
          go_ret
          exact ⟨ret_bool (by rw [HI.out, HK.out, HS.out, Bool.true_and, Bool.true_and, Bool.true_and]), step_below hBw b6⟩
        · have hs1 : (m.s == o.s) = false := by simpa using hs
          have HS := Lib.hid hs1
          clear hs1
          go_wp2_with fail
          go_ret
          exact ⟨ret_bool (by rw [HS.out, Bool.false_and, Bool.and_false, Bool.and_false]), hBw⟩
      · have hk1 : (m.k == o.k) = false := by simpa using hk
        have HK := Lib.hid hk1
        clear hk
        go_wp2_with fail
        go_ret
        exact ⟨ret_bool (by rw [HK.out, Bool.false_and, Bool.and_false]), hBw⟩
end Go.Proofs.Ytbibbndjnlnbiaa
