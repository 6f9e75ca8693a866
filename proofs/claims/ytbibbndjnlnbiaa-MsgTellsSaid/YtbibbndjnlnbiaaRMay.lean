/-
  consistoryref14.May, at every message.
-/
import Derived.Test.YtbibbndjnlnbiaaRMay1
import Derived.Test.YtbibbndjnlnbiaaRMay2
import Derived.Test.YtbibbndjnlnbiaaRMay3
import Derived.Test.YtbibbndjnlnbiaaRMay4
namespace Go.Proofs.Ytbibbndjnlnbiaa
open Go.RowKit

set_option maxRecDepth 100000 in
set_option maxHeartbeats 400000 in
theorem rmay_any (m : Mg) (a : Option Addr) (c : Nat) (w : World) (hk : 0 ≤ m.k ∧ m.k ≤ 255) :
    Calls Try.prog 44 #[m.val a c] w (BoolPost m.may w) := by
  obtain ⟨k, fr, tt, ht, rd, vl, ep, dl, id, s, l⟩ := m
  dsimp only at hk
  by_cases h : 1 ≤ k ∧ k ≤ 11
  · have hc : k = 1 ∨ k = 2 ∨ k = 3 ∨ k = 4 ∨ k = 5 ∨ k = 6 ∨ k = 7 ∨ k = 8 ∨ k = 9 ∨ k = 10 ∨ k = 11 := by omega
    rcases hc with rfl | rfl | rfl | rfl | rfl | rfl | rfl | rfl | rfl | rfl | rfl
    · exact rmay_1 _ _ _ _ _ _ _ _ _ _ _ _ _
    · exact rmay_2 _ _ _ _ _ _ _ _ _ _ _ _ _
    · exact rmay_3 _ _ _ _ _ _ _ _ _ _ _ _ _
    · exact rmay_4 _ _ _ _ _ _ _ _ _ _ _ _ _
    · exact rmay_5 _ _ _ _ _ _ _ _ _ _ _ _ _
    · exact rmay_6 _ _ _ _ _ _ _ _ _ _ _ _ _
    · exact rmay_7 _ _ _ _ _ _ _ _ _ _ _ _ _
    · exact rmay_8 _ _ _ _ _ _ _ _ _ _ _ _ _
    · exact rmay_9 _ _ _ _ _ _ _ _ _ _ _ _ _
    · exact rmay_10 _ _ _ _ _ _ _ _ _ _ _ _ _
    · exact rmay_11 _ _ _ _ _ _ _ _ _ _ _ _ _
  · have hm : Mg.may ⟨k, fr, tt, ht, rd, vl, ep, dl, id, s, l⟩ = false := by
      unfold Mg.may
      have : (decide (1 ≤ k) && decide (k ≤ 11)) = false := by
        simp only [Bool.and_eq_false_iff, decide_eq_false_iff_not]
        omega
      simp [this]
    rw [hm]
    clear hm
    unfold Mg.val
    dsimp only
    obtain ⟨h0, h1⟩ := hk
    by_cases h2 : k < 1
    · clear h
      go_enter Try.func44, Try.ntmps44
      go_wp2_with fail
      go_ret
      exact ⟨rfl, (Below.refl _ w).alloc (Nat.le_refl _) _⟩
    · have h3 : 11 < k := by omega
      have h4 : 1 ≤ k := by omega
      clear h h2
      go_enter Try.func44, Try.ntmps44
      go_wp2_with fail
      go_ret
      exact ⟨rfl, (Below.refl _ w).alloc (Nat.le_refl _) _⟩
end Go.Proofs.Ytbibbndjnlnbiaa
