/-
  consistoryref14.within.
-/
import Derived.Test.YtbibbndjnlnbiaaMsgMay3
namespace Go.Proofs.Ytbibbndjnlnbiaa
open Go.RowKit

set_option maxHeartbeats 400000 in
theorem rwithin_any (c : Bool) (n lo hi : Int) (w : World) :
    Calls Try.prog 85 #[.bool c, .int .i64 n, .int .i64 lo, .int .i64 hi] w fun e w' => e = .returned (.bool (win c n lo hi)) ∧ w = w' := by
  cases c with
  | true =>
    rw [win_true]
    by_cases h1 : lo ≤ n
    · go_enter Try.func85, Try.ntmps85
      go_wp2_with fail
      all_goals
        go_ret
        exact ⟨ret_bool (by simp [h1]), rfl⟩
    · go_enter Try.func85, Try.ntmps85
      go_wp2_with fail
      go_ret
      exact ⟨ret_bool (by rw [decide_eq_false (by omega : ¬ lo ≤ n)]; rfl), rfl⟩
  | false =>
    rw [win_false]
    go_enter Try.func85, Try.ntmps85
    go_wp2_with fail
    go_ret
    exact ⟨rfl, rfl⟩
theorem not_t {b : Bool} (h : (!b) = true) : b = false := by simpa using h
theorem not_f {b : Bool} (h : (!b) = false) : b = true := by simpa using h
theorem vl_t0 {vl rd : Int} (h : (!win false vl (-1) (wrap64 (rd - 1))) = true) : win false vl (-1) (rd - 1) = false := by
  have h := not_t h
  rw [win_false] at h ⊢
  exact h
theorem vl_f0 {vl rd : Int} (h : (!win false vl (-1) (wrap64 (rd - 1))) = false) : win false vl (-1) (rd - 1) = true := by
  have h := not_f h
  rw [win_false] at h ⊢
  exact h
theorem vl_w {vl rd : Int} (hr : win true rd 0 99 = true) : win true vl (-1) (wrap64 (rd - 1)) = win true vl (-1) (rd - 1) := by
  simp only [win, if_true, Bool.and_eq_true, decide_eq_true_eq] at hr
  rw [show wrap64 (rd - 1) = rd - 1 from IntWalk.wrap64_in _ (by omega)]
theorem vl_t2 {vl rd : Int} (hr : win true rd 0 99 = true) (h : (!win true vl (-1) (wrap64 (rd - 1))) = true) : win true vl (-1) (rd - 1) = false := by
  rw [vl_w hr] at h
  exact not_t h
theorem vl_f2 {vl rd : Int} (hr : win true rd 0 99 = true) (h : (!win true vl (-1) (wrap64 (rd - 1))) = false) : win true vl (-1) (rd - 1) = true := by
  rw [vl_w hr] at h
  exact not_f h
theorem win_1_0 {n : Int} (h : win true n 1 8 = true) : win true n 0 8 = true := by
  simp only [win, if_true, Bool.and_eq_true, decide_eq_true_eq] at h ⊢
  omega
end Go.Proofs.Ytbibbndjnlnbiaa
