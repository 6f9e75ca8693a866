/-
  The messages of consistorylaw14.MsgNames, plain: one of each kind, which may be; and twenty-two that may not.
-/
import Derived.Test.YtbibbndjnlnbiaaMBase
namespace Go.Proofs.Ytbibbndjnlnbiaa
open Go.RowKit

theorem ok_of {k a b c d e f g h : Int} {s : List UInt8} {l : List Int} (hk : 0 ≤ k ∧ k ≤ 255) (ha : I64 a) (hb : I64 b) (hc : I64 c) (hd : I64 d) (he : I64 e) (hf : I64 f) (hg : I64 g) (hh : I64 h) (hl : ∀ x ∈ l, U64 x) : (Mg.mk k a b c d e f g h s l).Ok :=
  ⟨hk, ha, hb, hc, hd, he, hf, hg, hh, hl⟩
def z2048 : List UInt8 := List.replicate 2048 0
def z2049 : List UInt8 := List.replicate 2049 0
def n1024 : List Int := List.replicate 1024 0
def n1025 : List Int := List.replicate 1025 0
/-- One of each kind. -/
def baseL : List Mg := [
  ⟨1, 0, 8, 0, 0, 0, 0, 0, 0, [116], []⟩,
  ⟨2, 8, 0, 64, 99, -1, 0, 0, 0, [116], []⟩,
  ⟨3, 1, 8, 1, 0, 0, 0, 0, 0, [], []⟩,
  ⟨4, 1, 0, 1, 5, 0, 0, 0, 0, z2048, []⟩,
  ⟨5, 3, 0, 9, 0, 0, 0, 0, 0, [116], []⟩,
  ⟨6, 0, 1, 0, 0, 0, 0, 0, 0, [], n1024⟩,
  ⟨7, 2, 5, 0, 0, 0, 64, 7, 0, [], [18446744073709551615]⟩,
  ⟨8, 2, 5, 0, 0, 0, 1, 1, 0, [], []⟩,
  ⟨9, 2, 0, 0, 0, 0, 1, 1, 0, [], [0]⟩,
  ⟨10, 2, 2, 0, 0, 0, 1, 1, 0, [], []⟩,
  ⟨11, 4, 0, 0, 0, 0, 2, 0, 1099511627776, [], [5, 6]⟩]
/-- What may not be. -/
def badL : List Mg := [
  ⟨1, 0, 8, 0, 0, 0, 0, 0, 0, [], []⟩,
  ⟨2, 8, 0, 64, 99, 99, 0, 0, 0, [116], []⟩,
  ⟨3, 1, 8, 0, 0, 0, 0, 0, 0, [], []⟩,
  ⟨4, 1, 0, 1, 5, 0, 0, 0, 0, z2049, []⟩,
  ⟨5, 3, 0, 9, 0, 0, 0, 0, 0, [], []⟩,
  ⟨6, 0, 1, 0, 0, 0, 0, 0, 0, [], n1025⟩,
  ⟨7, 2, 5, 0, 0, 0, 64, 8, 0, [], [18446744073709551615]⟩,
  ⟨8, 0, 5, 0, 0, 0, 1, 1, 0, [], []⟩,
  ⟨9, 2, 0, 0, 0, 0, 65, 1, 0, [], [0]⟩,
  ⟨10, 2, 9, 0, 0, 0, 1, 1, 0, [], []⟩,
  ⟨11, 4, 1, 0, 0, 0, 2, 0, 1099511627776, [], [5, 6]⟩,
  ⟨1, 0, 0, 0, 0, 0, 0, 0, 0, [116], []⟩,
  ⟨2, 8, 0, 64, 100, -1, 0, 0, 0, [116], []⟩,
  ⟨3, 1, 8, 1, -1, 0, 0, 0, 0, [], []⟩,
  ⟨4, 1, 0, 65, 5, 0, 0, 0, 0, z2048, []⟩,
  ⟨5, 9, 0, 9, 0, 0, 0, 0, 0, [116], []⟩,
  ⟨6, 1, 1, 0, 0, 0, 0, 0, 0, [], n1024⟩,
  ⟨7, 2, 5, 0, 0, 0, 64, 0, 0, [], [18446744073709551615]⟩,
  ⟨8, 2, 5, 0, 0, 0, 0, 1, 0, [], []⟩,
  ⟨9, 2, 0, 0, 0, 0, 1, 1, 0, [116], [0]⟩,
  ⟨10, 2, -1, 0, 0, 0, 1, 1, 0, [], []⟩,
  ⟨11, 4, 0, 0, 0, 0, 2, 0, 0, [], [5, 6]⟩]
theorem u64_rep (n : Nat) : ∀ x ∈ List.replicate n (0 : Int), U64 x := fun x h => by
  rw [List.eq_of_mem_replicate h]
  exact ⟨by decide, by decide⟩
theorem u64_none : ∀ x ∈ ([] : List Int), U64 x := by simp
theorem u64_max : ∀ x ∈ [(18446744073709551615 : Int)], U64 x := by simp [U64]
theorem u64_zero : ∀ x ∈ [(0 : Int)], U64 x := by simp [U64]
theorem u64_two : ∀ x ∈ [(5 : Int), 6], U64 x := by simp [U64]
def okB (m : Mg) : Bool := decide (0 ≤ m.k ∧ m.k ≤ 255) && [m.fr, m.to, m.ht, m.rd, m.vl, m.ep, m.dl, m.id].all fun x => decide (-9223372036854775808 ≤ x ∧ x ≤ 9223372036854775807)
theorem ok_B {m : Mg} (h : okB m = true) (hl : ∀ x ∈ m.l, U64 x) : m.Ok := by
  simp only [okB, List.all_cons, List.all_nil, Bool.and_eq_true, decide_eq_true_eq, and_true] at h
  obtain ⟨h0, h1, h2, h3, h4, h5, h6, h7, h8⟩ := h
  exact ⟨h0, h1, h2, h3, h4, h5, h6, h7, h8, hl⟩
theorem base_ok : ∀ m ∈ baseL, m.Ok ∧ m.may = true := by
  intro m hm
  have hb : (baseL.all fun m => okB m && m.may) = true := by decide +kernel
  have hu : ∀ m ∈ baseL, ∀ x ∈ m.l, U64 x := by
    intro m hm
    simp only [baseL, List.mem_cons, List.not_mem_nil, or_false] at hm
    rcases hm with rfl | rfl | rfl | rfl | rfl | rfl | rfl | rfl | rfl | rfl | rfl
    · exact u64_none
    · exact u64_none
    · exact u64_none
    · exact u64_none
    · exact u64_none
    · exact u64_rep _
    · exact u64_max
    · exact u64_none
    · exact u64_zero
    · exact u64_none
    · exact u64_two
  have := List.all_eq_true.1 hb m hm
  simp only [Bool.and_eq_true] at this
  exact ⟨ok_B this.1 (hu m hm), this.2⟩
theorem bad_ok : ∀ m ∈ badL, m.Ok ∧ m.may = false := by
  intro m hm
  have hb : (badL.all fun m => okB m && !m.may) = true := by decide +kernel
  have hu : ∀ m ∈ badL, ∀ x ∈ m.l, U64 x := by
    intro m hm
    simp only [badL, List.mem_cons, List.not_mem_nil, or_false] at hm
    rcases hm with rfl | rfl | rfl | rfl | rfl | rfl | rfl | rfl | rfl | rfl | rfl | rfl | rfl | rfl | rfl | rfl | rfl | rfl | rfl | rfl | rfl | rfl
    all_goals first | exact u64_none | exact u64_rep _ | exact u64_max | exact u64_zero | exact u64_two
  have := List.all_eq_true.1 hb m hm
  simp only [Bool.and_eq_true, Bool.not_eq_true'] at this
  exact ⟨ok_B this.1 (hu m hm), this.2⟩
theorem base_len : baseL.length = 11 := rfl
theorem bad_len : badL.length = 22 := rfl
theorem base_kind : ∀ (i : Nat) m, baseL[i]? = some m → m.k = (i : Int) + 1 := by
  intro i m h
  have hi : i < 11 := (List.getElem?_eq_some_iff.1 h).1
  have : i = 0 ∨ i = 1 ∨ i = 2 ∨ i = 3 ∨ i = 4 ∨ i = 5 ∨ i = 6 ∨ i = 7 ∨ i = 8 ∨ i = 9 ∨ i = 10 := by omega
  rcases this with rfl | rfl | rfl | rfl | rfl | rfl | rfl | rfl | rfl | rfl | rfl <;> · injection h with h; subst h; rfl
/-- Bytes of no message. -/
theorem dec_k0 : mdec (0 :: voteB.drop 1) = (Mg.zero, 4) := by kernel_rfl
theorem dec_k12 : mdec (12 :: voteB.drop 1) = (Mg.zero, 4) := by kernel_rfl
theorem dec_from : mdec (voteB.take 1 ++ [0, 0, 0, 0, 0, 0, 0, 9] ++ voteB.drop 9) = (Mg.zero, 4) := by kernel_rfl
theorem dec_text : mdec (voteB.take 65 ++ [255, 255]) = (Mg.zero, 40) := by kernel_rfl
def k255 : Mg := ⟨255, 0, 0, 0, 0, 0, 0, 0, 0, [], []⟩
theorem k255_may : k255.may = false := rfl
end Go.Proofs.Ytbibbndjnlnbiaa
