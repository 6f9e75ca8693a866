/-
  consistorylaw14.MsgNamed where it ends early: the walk.
-/
import Derived.Test.YtbibbndjnlnbiaaMBase
namespace Go.Proofs.Ytbibbndjnlnbiaa
open Go.RowKit

/-- What is true of the message that is not asked any further. -/
def askedOn (m : Mg) (n : Int) : Bool := !largeB m && n != 0 && m.may

set_option maxRecDepth 100000 in
set_option maxHeartbeats 2000000 in
theorem named_early (m : Mg) (a : Option Addr) (c : Nat) (n : Int) (w : World) (hok : m.Ok) (hno : askedOn m n = false) :
    Calls Try.prog 11 #[m.val a c, .int .i64 n] w (TruePost w) := by
  have HNO := Lib.hid hno
  clear hno
  have M0 := boxed_blk w m a c
  have B0 := boxed_below (Below.refl w.heap.size w) (Nat.le_refl _) m a c
  obtain ⟨w0, hw0⟩ : ∃ w0, w0 = boxed w m a c := ⟨_, rfl⟩
  rw [← hw0] at M0 B0
  unfold boxed at hw0
  have HW := Lib.hid hw0
  clear hw0
  unfold Mg.val
  go_enter Try.func11, Try.ntmps11
  go_wp2_with fail
  rw [← HW.out]
  clear HW
  refine (works_any w0).mono ?_
  rintro e w1 ⟨rfl, b1⟩
  have M1 := M0.kept b1
  have B1 := step_below B0 b1
  clear M0 B0 b1
  obtain ⟨f0, f1, f2, f3, f4, f5, f6, f7, f8, f9, f10⟩ := M1.msg
  cases hL : largeB m with
  | true =>
    have HL := Lib.hid hL
    clear hL
    go_wp2_with fail
    refine (large_agg m a c w1 true HL.out).mono ?_
    rintro e w2 ⟨rfl, b2⟩
    have B2 := step_below B1 b2
    go_wp2_with fail
    refine (works_any w2).mono ?_
    rintro e w9 ⟨rfl, b9⟩
    go_wp2_with fail
    go_ret
    exact ⟨rfl, step_below B2 b9⟩
  | false =>
    have HL := Lib.hid hL
    clear hL
    by_cases hn : n = 0
    · have hn0 : (n == 0) = true := by simpa using hn
      clear hn
      go_wp2_with fail
      refine (large_agg m a c w1 false HL.out).mono ?_
      rintro e w2 ⟨rfl, b2⟩
      have B2 := step_below B1 b2
      go_wp2_with fail
      refine (works_any w2).mono ?_
      rintro e w9 ⟨rfl, b9⟩
      go_wp2_with fail
      go_ret
      exact ⟨rfl, step_below B2 b9⟩
    · have hn0 : (n == 0) = false := by simpa using hn
      have hmay : m.may = false := by
        have := HNO.out
        have h1 : (n != 0) = true := by simpa using hn
        unfold askedOn at this
        rw [HL.out, h1] at this
        simpa using this
      have HM := Lib.hid hmay
      clear hn hmay
      go_wp2_with fail
      refine (large_agg m a c w1 false HL.out).mono ?_
      rintro e w2 ⟨rfl, b2⟩
      have M2 := M1.kept b2
      have B2 := step_below B1 b2
      clear M1 B1 b2 f0 f1 f2 f3 f4 f5 f6 f7 f8 f9 f10
      obtain ⟨f0, f1, f2, f3, f4, f5, f6, f7, f8, f9, f10⟩ := M2.msg
      go_wp2_with fail
      refine (may_agg m a c w2 hok.k false HM.out).mono ?_
      rintro e w3 ⟨rfl, b3⟩
      have B3 := step_below B2 b3
      go_wp2_with fail
      refine (works_any w3).mono ?_
      rintro e w9 ⟨rfl, b9⟩
      go_wp2_with fail
      go_ret
      exact ⟨rfl, step_below B3 b9⟩
end Go.Proofs.Ytbibbndjnlnbiaa
