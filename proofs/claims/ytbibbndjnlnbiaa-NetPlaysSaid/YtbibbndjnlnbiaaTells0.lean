/-
  consistorylaw14.MsgTells where it ends early: the walk.
-/
import Derived.Test.YtbibbndjnlnbiaaMBase
import Derived.Test.YtbibbndjnlnbiaaRDec
namespace Go.Proofs.Ytbibbndjnlnbiaa
open Go.RowKit

set_option maxRecDepth 100000 in
set_option maxHeartbeats 2000000 in
theorem tells_early (m o : Mg) (a a' : Option Addr) (c c' : Nat) (sl : List UInt8) (w : World) (hsl : sl.length ≤ 140737488351232) (h : largeB m = true ∨ largeB o = true ∨ 20000 < sl.length) :
    Calls Try.prog 12 #[m.val a c, o.val a' c', .string ⟨sl.toArray⟩] w (TruePost w) := by
  have H := Lib.hid h
  clear h
  have B1 := twoMsgs_1 w m o a a' c c'
  have B2 := twoMsgs_2 w m o a a' c c'
  have B0 := twoMsgs_below w m o a a' c c'
  obtain ⟨W, hW⟩ : ∃ W, W = twoMsgs w m o a a' c c' := ⟨_, rfl⟩
  rw [← hW] at B1 B2 B0
  unfold twoMsgs Mg.cells at hW
  have HW := Lib.hid hW
  clear hW
  unfold Mg.val
  obtain ⟨f0, f1, f2, f3, f4, f5, f6, f7, f8, f9, f10⟩ := B1.msg
  go_enter Try.func12, Try.ntmps12
  cases hL : largeB m with
  | true =>
    have HL := Lib.hid hL
    clear hL
    go_upto_region 1 with fail
    rw [← HW.out]
    go_wp2_with fail
    refine (large_agg m a c W true HL.out).mono ?_
    rintro e w1 ⟨rfl, b1⟩
    go_wp2_with fail
    go_ret
    exact ⟨rfl, step_below B0 b1⟩
  | false =>
    have HL := Lib.hid hL
    clear hL
    go_upto_region 1 with fail
    rw [← HW.out]
    go_wp2_with fail
    refine (large_agg m a c W false HL.out).mono ?_
    rintro e w1 ⟨rfl, b1⟩
    have C2 := B2.kept b1
    have C0 := step_below B0 b1
    clear B1 B2 B0 b1 f0 f1 f2 f3 f4 f5 f6 f7 f8 f9 f10
    obtain ⟨g0, g1, g2, g3, g4, g5, g6, g7, g8, g9, g10⟩ := C2.msg
    cases hL2 : largeB o with
    | true =>
      have HL2 := Lib.hid hL2
      clear hL2
      go_wp2_with fail
      refine (large_agg o a' c' w1 true HL2.out).mono ?_
      rintro e w2 ⟨rfl, b2⟩
      go_wp2_with fail
      go_ret
      exact ⟨rfl, step_below C0 b2⟩
    | false =>
      have HL2 := Lib.hid hL2
      have hlen : 20000 < sl.length := by
        rcases H.out with h | h | h
        · rw [HL.out] at h; cases h
        · rw [hL2] at h; cases h
        · exact h
      clear hL2
      have h5' : decide ((20000 : Int) < sl.length) = true := decide_eq_true (by omega)
      go_wp2_with fail
      refine (large_agg o a' c' w1 false HL2.out).mono ?_
      rintro e w2 ⟨rfl, b2⟩
      go_wp2_with fail
      go_ret
      exact ⟨rfl, step_below C0 b2⟩
end Go.Proofs.Ytbibbndjnlnbiaa
