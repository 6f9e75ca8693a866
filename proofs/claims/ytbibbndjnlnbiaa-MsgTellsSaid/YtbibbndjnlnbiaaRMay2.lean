/-
  consistoryref14.May at the Kinds 1, 6, 11.
-/
import Derived.Test.YtbibbndjnlnbiaaRMay0
namespace Go.Proofs.Ytbibbndjnlnbiaa
open Go.RowKit

set_option maxRecDepth 100000 in
set_option maxHeartbeats 4000000 in
theorem rmay_1 (fr tt ht rd vl ep dl id : Int) (s : List UInt8) (l : List Int) (a : Option Addr) (c : Nat) (w : World) :
    Calls Try.prog 44 #[Mg.val ⟨1, fr, tt, ht, rd, vl, ep, dl, id, s, l⟩ a c] w (BoolPost (Mg.may ⟨1, fr, tt, ht, rd, vl, ep, dl, id, s, l⟩) w) := by
  unfold Mg.val
  dsimp only
  cases ht1 : win true tt 1 8 with
  | true =>
    have h0 := win_1_0 ht1
    go_enter Try.func44, Try.ntmps44
    go_wp2_with ((go_at_call 85; (with_reducible refine (rwithin_any _ _ _ _ _).mono ?_); rintro e w' ⟨rfl, rfl⟩))
    all_goals
      go_ret
      try have qa := not_t ‹(!win true tt 0 8) = true›
      try have qa := not_f ‹(!win true tt 0 8) = false›
      try have qb := vl_t0 ‹(!win false vl (-1) (wrap64 (rd - 1))) = true›
      try have qb := vl_f0 ‹(!win false vl (-1) (wrap64 (rd - 1))) = false›
      try have qc := not_t ‹(!win false id 1 1099511627776) = true›
      try have qc := not_f ‹(!win false id 1 1099511627776) = false›
      exact ⟨ret_bool (by simp [Mg.may, fClient, fVote, fDealt, fText, fSome, fNums, *] <;> omega), (Below.refl _ w).alloc (Nat.le_refl _) _⟩
  | false =>
    go_enter Try.func44, Try.ntmps44
    go_wp2_with ((go_at_call 85; (with_reducible refine (rwithin_any _ _ _ _ _).mono ?_); rintro e w' ⟨rfl, rfl⟩))
    all_goals
      go_ret
      try have qa := not_t ‹(!win true tt 0 8) = true›
      try have qa := not_f ‹(!win true tt 0 8) = false›
      try have qb := vl_t0 ‹(!win false vl (-1) (wrap64 (rd - 1))) = true›
      try have qb := vl_f0 ‹(!win false vl (-1) (wrap64 (rd - 1))) = false›
      try have qc := not_t ‹(!win false id 1 1099511627776) = true›
      try have qc := not_f ‹(!win false id 1 1099511627776) = false›
      exact ⟨ret_bool (by simp [Mg.may, fClient, fVote, fDealt, fText, fSome, fNums, *] <;> omega), (Below.refl _ w).alloc (Nat.le_refl _) _⟩

set_option maxRecDepth 100000 in
set_option maxHeartbeats 4000000 in
theorem rmay_6 (fr tt ht rd vl ep dl id : Int) (s : List UInt8) (l : List Int) (a : Option Addr) (c : Nat) (w : World) :
    Calls Try.prog 44 #[Mg.val ⟨6, fr, tt, ht, rd, vl, ep, dl, id, s, l⟩ a c] w (BoolPost (Mg.may ⟨6, fr, tt, ht, rd, vl, ep, dl, id, s, l⟩) w) := by
  unfold Mg.val
  dsimp only
  cases ht1 : win true tt 1 8 with
  | true =>
    have h0 := win_1_0 ht1
    go_enter Try.func44, Try.ntmps44
    go_wp2_with ((go_at_call 85; (with_reducible refine (rwithin_any _ _ _ _ _).mono ?_); rintro e w' ⟨rfl, rfl⟩))
    all_goals
      go_ret
      try have qa := not_t ‹(!win true tt 0 8) = true›
      try have qa := not_f ‹(!win true tt 0 8) = false›
      try have qb := vl_t0 ‹(!win false vl (-1) (wrap64 (rd - 1))) = true›
      try have qb := vl_f0 ‹(!win false vl (-1) (wrap64 (rd - 1))) = false›
      try have qc := not_t ‹(!win false id 1 1099511627776) = true›
      try have qc := not_f ‹(!win false id 1 1099511627776) = false›
      exact ⟨ret_bool (by simp [Mg.may, fClient, fVote, fDealt, fText, fSome, fNums, *] <;> omega), (Below.refl _ w).alloc (Nat.le_refl _) _⟩
  | false =>
    go_enter Try.func44, Try.ntmps44
    go_wp2_with ((go_at_call 85; (with_reducible refine (rwithin_any _ _ _ _ _).mono ?_); rintro e w' ⟨rfl, rfl⟩))
    all_goals
      go_ret
      try have qa := not_t ‹(!win true tt 0 8) = true›
      try have qa := not_f ‹(!win true tt 0 8) = false›
      try have qb := vl_t0 ‹(!win false vl (-1) (wrap64 (rd - 1))) = true›
      try have qb := vl_f0 ‹(!win false vl (-1) (wrap64 (rd - 1))) = false›
      try have qc := not_t ‹(!win false id 1 1099511627776) = true›
      try have qc := not_f ‹(!win false id 1 1099511627776) = false›
      exact ⟨ret_bool (by simp [Mg.may, fClient, fVote, fDealt, fText, fSome, fNums, *] <;> omega), (Below.refl _ w).alloc (Nat.le_refl _) _⟩

set_option maxRecDepth 100000 in
set_option maxHeartbeats 4000000 in
theorem rmay_11 (fr tt ht rd vl ep dl id : Int) (s : List UInt8) (l : List Int) (a : Option Addr) (c : Nat) (w : World) :
    Calls Try.prog 44 #[Mg.val ⟨11, fr, tt, ht, rd, vl, ep, dl, id, s, l⟩ a c] w (BoolPost (Mg.may ⟨11, fr, tt, ht, rd, vl, ep, dl, id, s, l⟩) w) := by
  unfold Mg.val
  dsimp only
  have w0 : win true 0 0 8 = true := by decide
  have w1 : win false 0 0 8 = true := by decide
  by_cases ht0 : tt = 0
  · subst ht0
    go_enter Try.func44, Try.ntmps44
    go_wp2_with ((go_at_call 85; (with_reducible refine (rwithin_any _ _ _ _ _).mono ?_); rintro e w' ⟨rfl, rfl⟩))
    all_goals
      go_ret
      try have qa := not_t ‹(!win true tt 0 8) = true›
      try have qa := not_f ‹(!win true tt 0 8) = false›
      try have qb := vl_t0 ‹(!win false vl (-1) (wrap64 (rd - 1))) = true›
      try have qb := vl_f0 ‹(!win false vl (-1) (wrap64 (rd - 1))) = false›
      try have qc := not_t ‹(!win true id 1 1099511627776) = true›
      try have qc := not_f ‹(!win true id 1 1099511627776) = false›
      exact ⟨ret_bool (by simp [Mg.may, fClient, fVote, fDealt, fText, fSome, fNums, *] <;> omega), (Below.refl _ w).alloc (Nat.le_refl _) _⟩
  · have ht1 : (tt != 0) = true := by simpa using ht0
    have ht2 : win false tt 0 8 = false := by rw [win_false]; simpa using ht0
    clear ht0
    go_enter Try.func44, Try.ntmps44
    go_wp2_with ((go_at_call 85; (with_reducible refine (rwithin_any _ _ _ _ _).mono ?_); rintro e w' ⟨rfl, rfl⟩))
    all_goals
      go_ret
      try have qa := not_t ‹(!win true tt 0 8) = true›
      try have qa := not_f ‹(!win true tt 0 8) = false›
      try have qb := vl_t0 ‹(!win false vl (-1) (wrap64 (rd - 1))) = true›
      try have qb := vl_f0 ‹(!win false vl (-1) (wrap64 (rd - 1))) = false›
      try have qc := not_t ‹(!win true id 1 1099511627776) = true›
      try have qc := not_f ‹(!win true id 1 1099511627776) = false›
      exact ⟨ret_bool (by simp [Mg.may, fClient, fVote, fDealt, fText, fSome, fNums, *] <;> omega), (Below.refl _ w).alloc (Nat.le_refl _) _⟩

end Go.Proofs.Ytbibbndjnlnbiaa
