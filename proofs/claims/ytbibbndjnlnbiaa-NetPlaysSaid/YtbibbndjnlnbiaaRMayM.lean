/-
  consistoryref14.May, part by part.
-/
import Derived.Test.YtbibbndjnlnbiaaMsgMay3
namespace Go.Proofs.Ytbibbndjnlnbiaa
open Go.RowKit

set_option maxHeartbeats 400000 in
theorem rwithin_any (c : Bool) (n lo hi : Int) (w : World) :
    Calls Try.prog 85 #[.bool c, .int .i64 n, .int .i64 lo, .int .i64 hi] w fun e w' => e = .returned (.bool (win c n lo hi)) ∧ w = w' := by
  cases c with
  | true =>
    rw [win_true]
    by_cases h1 : lo ≤ n
    · go_enter Try.func85, Try.ntmps85
      go_wp2_with fail
      all_goals
        go_ret
        exact ⟨ret_bool (by simp [h1]), rfl⟩
    · go_enter Try.func85, Try.ntmps85
      go_wp2_with fail
      go_ret
      exact ⟨ret_bool (by rw [decide_eq_false (by omega : ¬ lo ≤ n)]; rfl), rfl⟩
  | false =>
    rw [win_false]
    go_enter Try.func85, Try.ntmps85
    go_wp2_with fail
    go_ret
    exact ⟨rfl, rfl⟩
theorem not_t {b : Bool} (h : (!b) = true) : b = false := by simpa using h
theorem not_f {b : Bool} (h : (!b) = false) : b = true := by simpa using h
theorem vl_t0 {vl rd : Int} (h : (!win false vl (-1) (wrap64 (rd - 1))) = true) : win false vl (-1) (rd - 1) = false := by
  have h := not_t h
  rw [win_false] at h ⊢
  exact h
theorem vl_f0 {vl rd : Int} (h : (!win false vl (-1) (wrap64 (rd - 1))) = false) : win false vl (-1) (rd - 1) = true := by
  have h := not_f h
  rw [win_false] at h ⊢
  exact h
theorem vl_w {vl rd : Int} (hr : win true rd 0 99 = true) : win true vl (-1) (wrap64 (rd - 1)) = win true vl (-1) (rd - 1) := by
  simp only [win, if_true, Bool.and_eq_true, decide_eq_true_eq] at hr
  rw [show wrap64 (rd - 1) = rd - 1 from IntWalk.wrap64_in _ (by omega)]
theorem vl_t2 {vl rd : Int} (hr : win true rd 0 99 = true) (h : (!win true vl (-1) (wrap64 (rd - 1))) = true) : win true vl (-1) (rd - 1) = false := by
  rw [vl_w hr] at h
  exact not_t h
theorem vl_f2 {vl rd : Int} (hr : win true rd 0 99 = true) (h : (!win true vl (-1) (wrap64 (rd - 1))) = false) : win true vl (-1) (rd - 1) = true := by
  rw [vl_w hr] at h
  exact not_f h
theorem win_1_0 {n : Int} (h : win true n 1 8 = true) : win true n 0 8 = true := by
  simp only [win, if_true, Bool.and_eq_true, decide_eq_true_eq] at h ⊢
  omega
end Go.Proofs.Ytbibbndjnlnbiaa
namespace Go.Proofs.Ytbibbndjnlnbiaa
open Go.RowKit

set_option maxRecDepth 100000 in
set_option maxHeartbeats 4000000 in
theorem rmay_2 (fr tt ht rd vl ep dl id : Int) (s : List UInt8) (l : List Int) (a : Option Addr) (c : Nat) (w : World) :
    Calls Try.prog 44 #[Mg.val ⟨2, fr, tt, ht, rd, vl, ep, dl, id, s, l⟩ a c] w (BoolPost (Mg.may ⟨2, fr, tt, ht, rd, vl, ep, dl, id, s, l⟩) w) := by
  unfold Mg.val
  dsimp only
  go_enter Try.func44, Try.ntmps44
  go_wp2_with ((go_at_call 85; (with_reducible refine (rwithin_any _ _ _ _ _).mono ?_); rintro e w' ⟨rfl, rfl⟩))
  all_goals
    go_ret
    try have qa := not_t ‹(!win true tt 0 8) = true›
    try have qa := not_f ‹(!win true tt 0 8) = false›
    try have qb := vl_t2 ‹win true rd 0 99 = true› ‹(!win true vl (-1) (wrap64 (rd - 1))) = true›
    try have qb := vl_f2 ‹win true rd 0 99 = true› ‹(!win true vl (-1) (wrap64 (rd - 1))) = false›
    try have qc := not_t ‹(!win false id 1 1099511627776) = true›
    try have qc := not_f ‹(!win false id 1 1099511627776) = false›
    exact ⟨ret_bool (by simp [Mg.may, fClient, fVote, fDealt, fText, fSome, fNums, *] <;> omega), (Below.refl _ w).alloc (Nat.le_refl _) _⟩

end Go.Proofs.Ytbibbndjnlnbiaa
namespace Go.Proofs.Ytbibbndjnlnbiaa
open Go.RowKit

set_option maxRecDepth 100000 in
set_option maxHeartbeats 4000000 in
theorem rmay_1 (fr tt ht rd vl ep dl id : Int) (s : List UInt8) (l : List Int) (a : Option Addr) (c : Nat) (w : World) :
    Calls Try.prog 44 #[Mg.val ⟨1, fr, tt, ht, rd, vl, ep, dl, id, s, l⟩ a c] w (BoolPost (Mg.may ⟨1, fr, tt, ht, rd, vl, ep, dl, id, s, l⟩) w) := by
  unfold Mg.val
  dsimp only
  cases ht1 : win true tt 1 8 with
  | true =>
    have h0 := win_1_0 ht1
    go_enter Try.func44, Try.ntmps44
    go_wp2_with ((go_at_call 85; (with_reducible refine (rwithin_any _ _ _ _ _).mono ?_); rintro e w' ⟨rfl, rfl⟩))
    all_goals
      go_ret
      try have qa := not_t ‹(!win true tt 0 8) = true›
      try have qa := not_f ‹(!win true tt 0 8) = false›
      try have qb := vl_t0 ‹(!win false vl (-1) (wrap64 (rd - 1))) = true›
      try have qb := vl_f0 ‹(!win false vl (-1) (wrap64 (rd - 1))) = false›
      try have qc := not_t ‹(!win false id 1 1099511627776) = true›
      try have qc := not_f ‹(!win false id 1 1099511627776) = false›
      exact ⟨ret_bool (by simp [Mg.may, fClient, fVote, fDealt, fText, fSome, fNums, *] <;> omega), (Below.refl _ w).alloc (Nat.le_refl _) _⟩
  | false =>
    go_enter Try.func44, Try.ntmps44
    go_wp2_with ((go_at_call 85; (with_reducible refine (rwithin_any _ _ _ _ _).mono ?_); rintro e w' ⟨rfl, rfl⟩))
    all_goals
      go_ret
      try have qa := not_t ‹(!win true tt 0 8) = true›
      try have qa := not_f ‹(!win true tt 0 8) = false›
      try have qb := vl_t0 ‹(!win false vl (-1) (wrap64 (rd - 1))) = true›
      try have qb := vl_f0 ‹(!win false vl (-1) (wrap64 (rd - 1))) = false›
      try have qc := not_t ‹(!win false id 1 1099511627776) = true›
      try have qc := not_f ‹(!win false id 1 1099511627776) = false›
      exact ⟨ret_bool (by simp [Mg.may, fClient, fVote, fDealt, fText, fSome, fNums, *] <;> omega), (Below.refl _ w).alloc (Nat.le_refl _) _⟩

set_option maxRecDepth 100000 in
set_option maxHeartbeats 4000000 in
theorem rmay_6 (fr tt ht rd vl ep dl id : Int) (s : List UInt8) (l : List Int) (a : Option Addr) (c : Nat) (w : World) :
    Calls Try.prog 44 #[Mg.val ⟨6, fr, tt, ht, rd, vl, ep, dl, id, s, l⟩ a c] w (BoolPost (Mg.may ⟨6, fr, tt, ht, rd, vl, ep, dl, id, s, l⟩) w) := by
  unfold Mg.val
  dsimp only
  cases ht1 : win true tt 1 8 with
  | true =>
    have h0 := win_1_0 ht1
    go_enter Try.func44, Try.ntmps44
    go_wp2_with ((go_at_call 85; (with_reducible refine (rwithin_any _ _ _ _ _).mono ?_); rintro e w' ⟨rfl, rfl⟩))
    all_goals
      go_ret
      try have qa := not_t ‹(!win true tt 0 8) = true›
      try have qa := not_f ‹(!win true tt 0 8) = false›
      try have qb := vl_t0 ‹(!win false vl (-1) (wrap64 (rd - 1))) = true›
      try have qb := vl_f0 ‹(!win false vl (-1) (wrap64 (rd - 1))) = false›
      try have qc := not_t ‹(!win false id 1 1099511627776) = true›
      try have qc := not_f ‹(!win false id 1 1099511627776) = false›
      exact ⟨ret_bool (by simp [Mg.may, fClient, fVote, fDealt, fText, fSome, fNums, *] <;> omega), (Below.refl _ w).alloc (Nat.le_refl _) _⟩
  | false =>
    go_enter Try.func44, Try.ntmps44
    go_wp2_with ((go_at_call 85; (with_reducible refine (rwithin_any _ _ _ _ _).mono ?_); rintro e w' ⟨rfl, rfl⟩))
    all_goals
      go_ret
      try have qa := not_t ‹(!win true tt 0 8) = true›
      try have qa := not_f ‹(!win true tt 0 8) = false›
      try have qb := vl_t0 ‹(!win false vl (-1) (wrap64 (rd - 1))) = true›
      try have qb := vl_f0 ‹(!win false vl (-1) (wrap64 (rd - 1))) = false›
      try have qc := not_t ‹(!win false id 1 1099511627776) = true›
      try have qc := not_f ‹(!win false id 1 1099511627776) = false›
      exact ⟨ret_bool (by simp [Mg.may, fClient, fVote, fDealt, fText, fSome, fNums, *] <;> omega), (Below.refl _ w).alloc (Nat.le_refl _) _⟩

set_option maxRecDepth 100000 in
set_option maxHeartbeats 4000000 in
theorem rmay_11 (fr tt ht rd vl ep dl id : Int) (s : List UInt8) (l : List Int) (a : Option Addr) (c : Nat) (w : World) :
    Calls Try.prog 44 #[Mg.val ⟨11, fr, tt, ht, rd, vl, ep, dl, id, s, l⟩ a c] w (BoolPost (Mg.may ⟨11, fr, tt, ht, rd, vl, ep, dl, id, s, l⟩) w) := by
  unfold Mg.val
  dsimp only
  have w0 : win true 0 0 8 = true := by decide
  have w1 : win false 0 0 8 = true := by decide
  by_cases ht0 : tt = 0
  · subst ht0
    go_enter Try.func44, Try.ntmps44
    go_wp2_with ((go_at_call 85; (with_reducible refine (rwithin_any _ _ _ _ _).mono ?_); rintro e w' ⟨rfl, rfl⟩))
    all_goals
      go_ret
      try have qa := not_t ‹(!win true tt 0 8) = true›
      try have qa := not_f ‹(!win true tt 0 8) = false›
      try have qb := vl_t0 ‹(!win false vl (-1) (wrap64 (rd - 1))) = true›
      try have qb := vl_f0 ‹(!win false vl (-1) (wrap64 (rd - 1))) = false›
      try have qc := not_t ‹(!win true id 1 1099511627776) = true›
      try have qc := not_f ‹(!win true id 1 1099511627776) = false›
      exact ⟨ret_bool (by simp [Mg.may, fClient, fVote, fDealt, fText, fSome, fNums, *] <;> omega), (Below.refl _ w).alloc (Nat.le_refl _) _⟩
  · have ht1 : (tt != 0) = true := by simpa using ht0
    have ht2 : win false tt 0 8 = false := by rw [win_false]; simpa using ht0
    clear ht0
    go_enter Try.func44, Try.ntmps44
    go_wp2_with ((go_at_call 85; (with_reducible refine (rwithin_any _ _ _ _ _).mono ?_); rintro e w' ⟨rfl, rfl⟩))
    all_goals
      go_ret
      try have qa := not_t ‹(!win true tt 0 8) = true›
      try have qa := not_f ‹(!win true tt 0 8) = false›
      try have qb := vl_t0 ‹(!win false vl (-1) (wrap64 (rd - 1))) = true›
      try have qb := vl_f0 ‹(!win false vl (-1) (wrap64 (rd - 1))) = false›
      try have qc := not_t ‹(!win true id 1 1099511627776) = true›
      try have qc := not_f ‹(!win true id 1 1099511627776) = false›
      exact ⟨ret_bool (by simp [Mg.may, fClient, fVote, fDealt, fText, fSome, fNums, *] <;> omega), (Below.refl _ w).alloc (Nat.le_refl _) _⟩

end Go.Proofs.Ytbibbndjnlnbiaa
namespace Go.Proofs.Ytbibbndjnlnbiaa
open Go.RowKit

set_option maxRecDepth 100000 in
set_option maxHeartbeats 4000000 in
theorem rmay_3 (fr tt ht rd vl ep dl id : Int) (s : List UInt8) (l : List Int) (a : Option Addr) (c : Nat) (w : World) :
    Calls Try.prog 44 #[Mg.val ⟨3, fr, tt, ht, rd, vl, ep, dl, id, s, l⟩ a c] w (BoolPost (Mg.may ⟨3, fr, tt, ht, rd, vl, ep, dl, id, s, l⟩) w) := by
  unfold Mg.val
  dsimp only
  go_enter Try.func44, Try.ntmps44
  go_wp2_with ((go_at_call 85; (with_reducible refine (rwithin_any _ _ _ _ _).mono ?_); rintro e w' ⟨rfl, rfl⟩))
  all_goals
    go_ret
    try have qa := not_t ‹(!win true tt 0 8) = true›
    try have qa := not_f ‹(!win true tt 0 8) = false›
    try have qb := vl_t0 ‹(!win false vl (-1) (wrap64 (rd - 1))) = true›
    try have qb := vl_f0 ‹(!win false vl (-1) (wrap64 (rd - 1))) = false›
    try have qc := not_t ‹(!win false id 1 1099511627776) = true›
    try have qc := not_f ‹(!win false id 1 1099511627776) = false›
    exact ⟨ret_bool (by simp [Mg.may, fClient, fVote, fDealt, fText, fSome, fNums, *] <;> omega), (Below.refl _ w).alloc (Nat.le_refl _) _⟩

set_option maxRecDepth 100000 in
set_option maxHeartbeats 4000000 in
theorem rmay_4 (fr tt ht rd vl ep dl id : Int) (s : List UInt8) (l : List Int) (a : Option Addr) (c : Nat) (w : World) :
    Calls Try.prog 44 #[Mg.val ⟨4, fr, tt, ht, rd, vl, ep, dl, id, s, l⟩ a c] w (BoolPost (Mg.may ⟨4, fr, tt, ht, rd, vl, ep, dl, id, s, l⟩) w) := by
  unfold Mg.val
  dsimp only
  go_enter Try.func44, Try.ntmps44
  go_wp2_with ((go_at_call 85; (with_reducible refine (rwithin_any _ _ _ _ _).mono ?_); rintro e w' ⟨rfl, rfl⟩))
  all_goals
    go_ret
    try have qa := not_t ‹(!win true tt 0 8) = true›
    try have qa := not_f ‹(!win true tt 0 8) = false›
    try have qb := vl_t0 ‹(!win false vl (-1) (wrap64 (rd - 1))) = true›
    try have qb := vl_f0 ‹(!win false vl (-1) (wrap64 (rd - 1))) = false›
    try have qc := not_t ‹(!win false id 1 1099511627776) = true›
    try have qc := not_f ‹(!win false id 1 1099511627776) = false›
    exact ⟨ret_bool (by simp [Mg.may, fClient, fVote, fDealt, fText, fSome, fNums, *] <;> omega), (Below.refl _ w).alloc (Nat.le_refl _) _⟩

set_option maxRecDepth 100000 in
set_option maxHeartbeats 4000000 in
theorem rmay_5 (fr tt ht rd vl ep dl id : Int) (s : List UInt8) (l : List Int) (a : Option Addr) (c : Nat) (w : World) :
    Calls Try.prog 44 #[Mg.val ⟨5, fr, tt, ht, rd, vl, ep, dl, id, s, l⟩ a c] w (BoolPost (Mg.may ⟨5, fr, tt, ht, rd, vl, ep, dl, id, s, l⟩) w) := by
  unfold Mg.val
  dsimp only
  go_enter Try.func44, Try.ntmps44
  go_wp2_with ((go_at_call 85; (with_reducible refine (rwithin_any _ _ _ _ _).mono ?_); rintro e w' ⟨rfl, rfl⟩))
  all_goals
    go_ret
    try have qa := not_t ‹(!win true tt 0 8) = true›
    try have qa := not_f ‹(!win true tt 0 8) = false›
    try have qb := vl_t0 ‹(!win false vl (-1) (wrap64 (rd - 1))) = true›
    try have qb := vl_f0 ‹(!win false vl (-1) (wrap64 (rd - 1))) = false›
    try have qc := not_t ‹(!win false id 1 1099511627776) = true›
    try have qc := not_f ‹(!win false id 1 1099511627776) = false›
    exact ⟨ret_bool (by simp [Mg.may, fClient, fVote, fDealt, fText, fSome, fNums, *] <;> omega), (Below.refl _ w).alloc (Nat.le_refl _) _⟩

end Go.Proofs.Ytbibbndjnlnbiaa
namespace Go.Proofs.Ytbibbndjnlnbiaa
open Go.RowKit

set_option maxRecDepth 100000 in
set_option maxHeartbeats 4000000 in
theorem rmay_7 (fr tt ht rd vl ep dl id : Int) (s : List UInt8) (l : List Int) (a : Option Addr) (c : Nat) (w : World) :
    Calls Try.prog 44 #[Mg.val ⟨7, fr, tt, ht, rd, vl, ep, dl, id, s, l⟩ a c] w (BoolPost (Mg.may ⟨7, fr, tt, ht, rd, vl, ep, dl, id, s, l⟩) w) := by
  unfold Mg.val
  dsimp only
  go_enter Try.func44, Try.ntmps44
  go_wp2_with ((go_at_call 85; (with_reducible refine (rwithin_any _ _ _ _ _).mono ?_); rintro e w' ⟨rfl, rfl⟩))
  all_goals
    go_ret
    try have qa := not_t ‹(!win true tt 0 8) = true›
    try have qa := not_f ‹(!win true tt 0 8) = false›
    try have qb := vl_t0 ‹(!win false vl (-1) (wrap64 (rd - 1))) = true›
    try have qb := vl_f0 ‹(!win false vl (-1) (wrap64 (rd - 1))) = false›
    try have qc := not_t ‹(!win false id 1 1099511627776) = true›
    try have qc := not_f ‹(!win false id 1 1099511627776) = false›
    exact ⟨ret_bool (by simp [Mg.may, fClient, fVote, fDealt, fText, fSome, fNums, *] <;> omega), (Below.refl _ w).alloc (Nat.le_refl _) _⟩

set_option maxRecDepth 100000 in
set_option maxHeartbeats 4000000 in
theorem rmay_8 (fr tt ht rd vl ep dl id : Int) (s : List UInt8) (l : List Int) (a : Option Addr) (c : Nat) (w : World) :
    Calls Try.prog 44 #[Mg.val ⟨8, fr, tt, ht, rd, vl, ep, dl, id, s, l⟩ a c] w (BoolPost (Mg.may ⟨8, fr, tt, ht, rd, vl, ep, dl, id, s, l⟩) w) := by
  unfold Mg.val
  dsimp only
  go_enter Try.func44, Try.ntmps44
  go_wp2_with ((go_at_call 85; (with_reducible refine (rwithin_any _ _ _ _ _).mono ?_); rintro e w' ⟨rfl, rfl⟩))
  all_goals
    go_ret
    try have qa := not_t ‹(!win true tt 0 8) = true›
    try have qa := not_f ‹(!win true tt 0 8) = false›
    try have qb := vl_t0 ‹(!win false vl (-1) (wrap64 (rd - 1))) = true›
    try have qb := vl_f0 ‹(!win false vl (-1) (wrap64 (rd - 1))) = false›
    try have qc := not_t ‹(!win false id 1 1099511627776) = true›
    try have qc := not_f ‹(!win false id 1 1099511627776) = false›
    exact ⟨ret_bool (by simp [Mg.may, fClient, fVote, fDealt, fText, fSome, fNums, *] <;> omega), (Below.refl _ w).alloc (Nat.le_refl _) _⟩

set_option maxRecDepth 100000 in
set_option maxHeartbeats 4000000 in
theorem rmay_9 (fr tt ht rd vl ep dl id : Int) (s : List UInt8) (l : List Int) (a : Option Addr) (c : Nat) (w : World) :
    Calls Try.prog 44 #[Mg.val ⟨9, fr, tt, ht, rd, vl, ep, dl, id, s, l⟩ a c] w (BoolPost (Mg.may ⟨9, fr, tt, ht, rd, vl, ep, dl, id, s, l⟩) w) := by
  unfold Mg.val
  dsimp only
  go_enter Try.func44, Try.ntmps44
  go_wp2_with ((go_at_call 85; (with_reducible refine (rwithin_any _ _ _ _ _).mono ?_); rintro e w' ⟨rfl, rfl⟩))
  all_goals
    go_ret
    try have qa := not_t ‹(!win true tt 0 8) = true›
    try have qa := not_f ‹(!win true tt 0 8) = false›
    try have qb := vl_t0 ‹(!win false vl (-1) (wrap64 (rd - 1))) = true›
    try have qb := vl_f0 ‹(!win false vl (-1) (wrap64 (rd - 1))) = false›
    try have qc := not_t ‹(!win false id 1 1099511627776) = true›
    try have qc := not_f ‹(!win false id 1 1099511627776) = false›
    exact ⟨ret_bool (by simp [Mg.may, fClient, fVote, fDealt, fText, fSome, fNums, *] <;> omega), (Below.refl _ w).alloc (Nat.le_refl _) _⟩

set_option maxRecDepth 100000 in
set_option maxHeartbeats 4000000 in
theorem rmay_10 (fr tt ht rd vl ep dl id : Int) (s : List UInt8) (l : List Int) (a : Option Addr) (c : Nat) (w : World) :
    Calls Try.prog 44 #[Mg.val ⟨10, fr, tt, ht, rd, vl, ep, dl, id, s, l⟩ a c] w (BoolPost (Mg.may ⟨10, fr, tt, ht, rd, vl, ep, dl, id, s, l⟩) w) := by
  unfold Mg.val
  dsimp only
  go_enter Try.func44, Try.ntmps44
  go_wp2_with ((go_at_call 85; (with_reducible refine (rwithin_any _ _ _ _ _).mono ?_); rintro e w' ⟨rfl, rfl⟩))
  all_goals
    go_ret
    try have qa := not_t ‹(!win true tt 0 8) = true›
    try have qa := not_f ‹(!win true tt 0 8) = false›
    try have qb := vl_t0 ‹(!win false vl (-1) (wrap64 (rd - 1))) = true›
    try have qb := vl_f0 ‹(!win false vl (-1) (wrap64 (rd - 1))) = false›
    try have qc := not_t ‹(!win false id 1 1099511627776) = true›
    try have qc := not_f ‹(!win false id 1 1099511627776) = false›
    exact ⟨ret_bool (by simp [Mg.may, fClient, fVote, fDealt, fText, fSome, fNums, *] <;> omega), (Below.refl _ w).alloc (Nat.le_refl _) _⟩

end Go.Proofs.Ytbibbndjnlnbiaa
namespace Go.Proofs.Ytbibbndjnlnbiaa
open Go.RowKit

set_option maxRecDepth 100000 in
set_option maxHeartbeats 400000 in
theorem rmay_any (m : Mg) (a : Option Addr) (c : Nat) (w : World) (hk : 0 ≤ m.k ∧ m.k ≤ 255) :
    Calls Try.prog 44 #[m.val a c] w (BoolPost m.may w) := by
  obtain ⟨k, fr, tt, ht, rd, vl, ep, dl, id, s, l⟩ := m
  dsimp only at hk
  by_cases h : 1 ≤ k ∧ k ≤ 11
  · have hc : k = 1 ∨ k = 2 ∨ k = 3 ∨ k = 4 ∨ k = 5 ∨ k = 6 ∨ k = 7 ∨ k = 8 ∨ k = 9 ∨ k = 10 ∨ k = 11 := by omega
    rcases hc with rfl | rfl | rfl | rfl | rfl | rfl | rfl | rfl | rfl | rfl | rfl
    · exact rmay_1 _ _ _ _ _ _ _ _ _ _ _ _ _
    · exact rmay_2 _ _ _ _ _ _ _ _ _ _ _ _ _
    · exact rmay_3 _ _ _ _ _ _ _ _ _ _ _ _ _
    · exact rmay_4 _ _ _ _ _ _ _ _ _ _ _ _ _
    · exact rmay_5 _ _ _ _ _ _ _ _ _ _ _ _ _
    · exact rmay_6 _ _ _ _ _ _ _ _ _ _ _ _ _
    · exact rmay_7 _ _ _ _ _ _ _ _ _ _ _ _ _
    · exact rmay_8 _ _ _ _ _ _ _ _ _ _ _ _ _
    · exact rmay_9 _ _ _ _ _ _ _ _ _ _ _ _ _
    · exact rmay_10 _ _ _ _ _ _ _ _ _ _ _ _ _
    · exact rmay_11 _ _ _ _ _ _ _ _ _ _ _ _ _
  · have hm : Mg.may ⟨k, fr, tt, ht, rd, vl, ep, dl, id, s, l⟩ = false := by
      unfold Mg.may
      have : (decide (1 ≤ k) && decide (k ≤ 11)) = false := by
        simp only [Bool.and_eq_false_iff, decide_eq_false_iff_not]
        omega
      simp [this]
    rw [hm]
    clear hm
    unfold Mg.val
    dsimp only
    obtain ⟨h0, h1⟩ := hk
    by_cases h2 : k < 1
    · clear h
      go_enter Try.func44, Try.ntmps44
      go_wp2_with fail
      go_ret
      exact ⟨rfl, (Below.refl _ w).alloc (Nat.le_refl _) _⟩
    · have h3 : 11 < k := by omega
      have h4 : 1 ≤ k := by omega
      clear h h2
      go_enter Try.func44, Try.ntmps44
      go_wp2_with fail
      go_ret
      exact ⟨rfl, (Below.refl _ w).alloc (Nat.le_refl _) _⟩
end Go.Proofs.Ytbibbndjnlnbiaa
