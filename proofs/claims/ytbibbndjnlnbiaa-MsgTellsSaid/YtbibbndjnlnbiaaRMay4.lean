/-
  consistoryref14.May at the Kinds 7, 8, 9, 10.
-/
import Derived.Test.YtbibbndjnlnbiaaRMay0
namespace Go.Proofs.Ytbibbndjnlnbiaa
open Go.RowKit

set_option maxRecDepth 100000 in
set_option maxHeartbeats 4000000 in
theorem rmay_7 (fr tt ht rd vl ep dl id : Int) (s : List UInt8) (l : List Int) (a : Option Addr) (c : Nat) (w : World) :
    Calls Try.prog 44 #[Mg.val ⟨7, fr, tt, ht, rd, vl, ep, dl, id, s, l⟩ a c] w (BoolPost (Mg.may ⟨7, fr, tt, ht, rd, vl, ep, dl, id, s, l⟩) w) := by
  unfold Mg.val
  dsimp only
  go_enter Try.func44, Try.ntmps44
  go_wp2_with ((go_at_call 85; (with_reducible refine (rwithin_any _ _ _ _ _).mono ?_); rintro e w' ⟨rfl, rfl⟩))
  all_goals
    go_ret
    try have qa := not_t ‹(!win true tt 0 8) = true›
    try have qa := not_f ‹(!win true tt 0 8) = false›
    try have qb := vl_t0 ‹(!win false vl (-1) (wrap64 (rd - 1))) = true›
    try have qb := vl_f0 ‹(!win false vl (-1) (wrap64 (rd - 1))) = false›
    try have qc := not_t ‹(!win false id 1 1099511627776) = true›
    try have qc := not_f ‹(!win false id 1 1099511627776) = false›
    exact ⟨ret_bool (by simp [Mg.may, fClient, fVote, fDealt, fText, fSome, fNums, *] <;> omega), (Below.refl _ w).alloc (Nat.le_refl _) _⟩

set_option maxRecDepth 100000 in
set_option maxHeartbeats 4000000 in
theorem rmay_8 (fr tt ht rd vl ep dl id : Int) (s : List UInt8) (l : List Int) (a : Option Addr) (c : Nat) (w : World) :
    Calls Try.prog 44 #[Mg.val ⟨8, fr, tt, ht, rd, vl, ep, dl, id, s, l⟩ a c] w (BoolPost (Mg.may ⟨8, fr, tt, ht, rd, vl, ep, dl, id, s, l⟩) w) := by
  unfold Mg.val
  dsimp only
  go_enter Try.func44, Try.ntmps44
  go_wp2_with ((go_at_call 85; (with_reducible refine (rwithin_any _ _ _ _ _).mono ?_); rintro e w' ⟨rfl, rfl⟩))
  all_goals
    go_ret
    try have qa := not_t ‹(!win true tt 0 8) = true›
    try have qa := not_f ‹(!win true tt 0 8) = false›
    try have qb := vl_t0 ‹(!win false vl (-1) (wrap64 (rd - 1))) = true›
    try have qb := vl_f0 ‹(!win false vl (-1) (wrap64 (rd - 1))) = false›
    try have qc := not_t ‹(!win false id 1 1099511627776) = true›
    try have qc := not_f ‹(!win false id 1 1099511627776) = false›
    exact ⟨ret_bool (by simp [Mg.may, fClient, fVote, fDealt, fText, fSome, fNums, *] <;> omega), (Below.refl _ w).alloc (Nat.le_refl _) _⟩

set_option maxRecDepth 100000 in
set_option maxHeartbeats 4000000 in
theorem rmay_9 (fr tt ht rd vl ep dl id : Int) (s : List UInt8) (l : List Int) (a : Option Addr) (c : Nat) (w : World) :
    Calls Try.prog 44 #[Mg.val ⟨9, fr, tt, ht, rd, vl, ep, dl, id, s, l⟩ a c] w (BoolPost (Mg.may ⟨9, fr, tt, ht, rd, vl, ep, dl, id, s, l⟩) w) := by
  unfold Mg.val
  dsimp only
  go_enter Try.func44, Try.ntmps44
  go_wp2_with ((go_at_call 85; (with_reducible refine (rwithin_any _ _ _ _ _).mono ?_); rintro e w' ⟨rfl, rfl⟩))
  all_goals
    go_ret
    try have qa := not_t ‹(!win true tt 0 8) = true›
    try have qa := not_f ‹(!win true tt 0 8) = false›
    try have qb := vl_t0 ‹(!win false vl (-1) (wrap64 (rd - 1))) = true›
    try have qb := vl_f0 ‹(!win false vl (-1) (wrap64 (rd - 1))) = false›
    try have qc := not_t ‹(!win false id 1 1099511627776) = true›
    try have qc := not_f ‹(!win false id 1 1099511627776) = false›
    exact ⟨ret_bool (by simp [Mg.may, fClient, fVote, fDealt, fText, fSome, fNums, *] <;> omega), (Below.refl _ w).alloc (Nat.le_refl _) _⟩

set_option maxRecDepth 100000 in
set_option maxHeartbeats 4000000 in
theorem rmay_10 (fr tt ht rd vl ep dl id : Int) (s : List UInt8) (l : List Int) (a : Option Addr) (c : Nat) (w : World) :
    Calls Try.prog 44 #[Mg.val ⟨10, fr, tt, ht, rd, vl, ep, dl, id, s, l⟩ a c] w (BoolPost (Mg.may ⟨10, fr, tt, ht, rd, vl, ep, dl, id, s, l⟩) w) := by
  unfold Mg.val
  dsimp only
  go_enter Try.func44, Try.ntmps44
  go_wp2_with ((go_at_call 85; (with_reducible refine (rwithin_any _ _ _ _ _).mono ?_); rintro e w' ⟨rfl, rfl⟩))
  all_goals
    go_ret
    try have qa := not_t ‹(!win true tt 0 8) = true›
    try have qa := not_f ‹(!win true tt 0 8) = false›
    try have qb := vl_t0 ‹(!win false vl (-1) (wrap64 (rd - 1))) = true›
    try have qb := vl_f0 ‹(!win false vl (-1) (wrap64 (rd - 1))) = false›
    try have qc := not_t ‹(!win false id 1 1099511627776) = true›
    try have qc := not_f ‹(!win false id 1 1099511627776) = false›
    exact ⟨ret_bool (by simp [Mg.may, fClient, fVote, fDealt, fText, fSome, fNums, *] <;> omega), (Below.refl _ w).alloc (Nat.le_refl _) _⟩

end Go.Proofs.Ytbibbndjnlnbiaa
