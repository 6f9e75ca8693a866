/-
  consistorylaw14.MsgNamed, at every message and number.
-/
import Derived.Test.YtbibbndjnlnbiaaNamed1
import Derived.Test.YtbibbndjnlnbiaaNamed2
import Derived.Test.YtbibbndjnlnbiaaNamed3
import Derived.Test.YtbibbndjnlnbiaaNamed4
namespace Go.Proofs.Ytbibbndjnlnbiaa
open Go.RowKit

theorem mnamed_any (m : Mg) (a : Option Addr) (c : Nat) (n : Int) (w : World) (hf : MFit m) :
    Calls Try.prog 11 #[m.val a c, .int .i64 n] w (TruePost w) := by
  cases h : askedOn m n with
  | false => exact named_early m a c n w hf.ok h
  | true =>
    unfold askedOn at h
    simp only [Bool.and_eq_true, Bool.not_eq_true', bne_iff_ne, ne_eq] at h
    obtain ⟨⟨h1, h2⟩, h3⟩ := h
    have hk : 1 ≤ m.k ∧ m.k ≤ 11 := by
      have := h3
      simp only [Mg.may, Bool.and_eq_true, decide_eq_true_eq] at this
      omega
    obtain ⟨k, fr, tt, ht, rd, vl, ep, dl, id, s, l⟩ := m
    dsimp only at hk
    have hc : k = 1 ∨ k = 2 ∨ k = 3 ∨ k = 4 ∨ k = 5 ∨ k = 6 ∨ k = 7 ∨ k = 8 ∨ k = 9 ∨ k = 10 ∨ k = 11 := by omega
    rcases hc with rfl | rfl | rfl | rfl | rfl | rfl | rfl | rfl | rfl | rfl | rfl
    · exact named_1 _ _ _ _ _ _ _ _ _ _ _ _ _ _ h1 h3 h2
    · exact named_2 _ _ _ _ _ _ _ _ _ _ _ _ _ _ h1 h3 h2
    · exact named_3 _ _ _ _ _ _ _ _ _ _ _ _ _ _ h1 h3 h2
    · exact named_4 _ _ _ _ _ _ _ _ _ _ _ _ _ _ h1 h3 h2
    · exact named_5 _ _ _ _ _ _ _ _ _ _ _ _ _ _ h1 h3 h2
    · exact named_6 _ _ _ _ _ _ _ _ _ _ _ _ _ _ h1 h3 h2
    · exact named_7 _ _ _ _ _ _ _ _ _ _ _ _ _ _ h1 h3 h2
    · exact named_8 _ _ _ _ _ _ _ _ _ _ _ _ _ _ h1 h3 h2
    · exact named_9 _ _ _ _ _ _ _ _ _ _ _ _ _ _ h1 h3 h2
    · exact named_10 _ _ _ _ _ _ _ _ _ _ _ _ _ _ h1 h3 h2
    · exact named_11 _ _ _ _ _ _ _ _ _ _ _ _ _ _ h1 h3 h2
end Go.Proofs.Ytbibbndjnlnbiaa
