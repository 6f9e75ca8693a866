/-
  Plain law of the reader: what was put is got back; what is cut is not got; what was got are the bytes that were there.
-/
import Derived.Test.YtdnkijljpmcejaaPlain
import Derived.RowKit
namespace Go.Proofs.Ytdnkijljpmcejaa
open Go.RowKit

theorem p256_2 : (256 : Nat) ^ 2 = 65536 := by decide
theorem p256_8 : (256 : Nat) ^ 8 = 18446744073709551616 := by decide
theorem p256_1 : (256 : Nat) ^ 1 = 256 := by decide

theorem num_back {n k : Nat} (h : n < 256 ^ k) (rest : List UInt8) : RS.num k ⟨be n k ++ rest, 0⟩ = ((n : Int), ⟨rest, 0⟩) := by
  have hl := be_length n k
  unfold RS.num
  rw [if_neg (by simp), if_neg (by simp [hl])]
  dsimp only
  rw [List.take_left' hl, List.drop_left' hl, val_be_of_lt h]
theorem count_back {n : Nat} {m : Int} (h : n < 256 ^ 8) (hm : (n : Int) ≤ m) (rest : List UInt8) : RS.count m ⟨be n 8 ++ rest, 0⟩ = ((n : Int), ⟨rest, 0⟩) := by
  have hl := be_length n 8
  unfold RS.count
  rw [if_neg (by simp), if_neg (by simp [hl])]
  dsimp only
  rw [List.take_left' hl, List.drop_left' hl, val_be_of_lt h, if_neg (by omega)]
theorem text_back {t : List UInt8} (h : t.length ≤ 2048) (rest : List UInt8) : RS.text ⟨bText t ++ rest, 0⟩ = (t, ⟨rest, 0⟩) := by
  have hl := be_length t.length 2
  unfold RS.text bText
  have e1 : ((be t.length 2 ++ t) ++ rest).take 2 = be t.length 2 := by rw [List.append_assoc, List.take_left' hl]
  have e2 : ((be t.length 2 ++ t) ++ rest).drop 2 = t ++ rest := by rw [List.append_assoc, List.drop_left' hl]
  rw [if_neg (by simp), if_neg (by simp [hl])]
  dsimp only
  rw [e1, val_be_of_lt (by rw [p256_2]; omega), if_neg (by omega), if_neg (by simp [hl]), e2, ← List.drop_drop, e2]
  simp
theorem nums_back : ∀ {l : List Int} (_ : ∀ x ∈ l, U64 x) (rest : List UInt8), nums l.length (bNums l ++ rest) = l
  | [], _, _ => rfl
  | n :: l, h, rest => by
    have hl := be_length n.toNat 8
    have hn := h n (by simp)
    simp only [bNums, List.length_cons, nums, List.append_assoc]
    rw [List.take_left' hl, List.drop_left' hl, nums_back (fun x hx => h x (by simp [hx])), val_be_of_lt hn.toNat_lt]
    rw [Int.toNat_of_nonneg hn.1]
theorem list_back {l : List Int} (h : l.length ≤ 1024) (hu : ∀ x ∈ l, U64 x) (rest : List UInt8) : RS.list ⟨bList l ++ rest, 0⟩ = (l, ⟨rest, 0⟩) := by
  have hl := be_length l.length 2
  have hb := bNums_length l
  unfold RS.list bList
  have e1 : ((be l.length 2 ++ bNums l) ++ rest).take 2 = be l.length 2 := by rw [List.append_assoc, List.take_left' hl]
  have e2 : ((be l.length 2 ++ bNums l) ++ rest).drop 2 = bNums l ++ rest := by rw [List.append_assoc, List.drop_left' hl]
  rw [if_neg (by simp), if_neg (by simp [hl])]
  dsimp only
  rw [e1, val_be_of_lt (by rw [p256_2]; omega), if_neg (by omega), if_neg (by simp [hl, hb]), ← List.drop_drop, e2, nums_back hu, List.drop_left' hb]

theorem num_cut {p : List UInt8} {k : Nat} (h : p.length < k) : RS.num k ⟨p, 0⟩ = (0, ⟨[], 8⟩) := by
  unfold RS.num
  rw [if_neg (by simp), if_pos h]
theorem count_cut {p : List UInt8} {m : Int} (h : p.length < 8) : RS.count m ⟨p, 0⟩ = (0, ⟨[], 8⟩) := by
  unfold RS.count
  rw [if_neg (by simp), if_pos h]
theorem text_cut {t : List UInt8} {k : Nat} (h : t.length ≤ 2048) (hk : k < (bText t).length) : RS.text ⟨(bText t).take k, 0⟩ = ([], ⟨[], 8⟩) := by
  have hl := be_length t.length 2
  have hbl := bText_length t
  unfold RS.text
  rw [if_neg (by simp)]
  by_cases h2 : k < 2
  · rw [if_pos (by simp; omega)]
  · have e1 : ((bText t).take k).take 2 = be t.length 2 := by
      rw [List.take_take, Nat.min_eq_left (by omega)]
      exact List.take_left' hl
    rw [if_neg (by simp; omega)]
    dsimp only
    rw [e1, val_be_of_lt (by rw [p256_2]; omega), if_neg (by omega), if_pos (by simp; omega)]
theorem list_cut {l : List Int} {k : Nat} (h : l.length ≤ 1024) (hk : k < (bList l).length) : RS.list ⟨(bList l).take k, 0⟩ = ([], ⟨[], 8⟩) := by
  have hl := be_length l.length 2
  have hbl := bList_length l
  unfold RS.list
  rw [if_neg (by simp)]
  by_cases h2 : k < 2
  · rw [if_pos (by simp; omega)]
  · have e1 : ((bList l).take k).take 2 = be l.length 2 := by
      rw [List.take_take, Nat.min_eq_left (by omega)]
      exact List.take_left' hl
    rw [if_neg (by simp; omega)]
    dsimp only
    rw [e1, val_be_of_lt (by rw [p256_2]; omega), if_neg (by omega), if_pos (by simp; omega)]

theorem num_only (k : Nat) (r : List UInt8) : ((RS.num k ⟨r, 0⟩).2.e = 0 ∧ be (RS.num k ⟨r, 0⟩).1.toNat k ++ (RS.num k ⟨r, 0⟩).2.r = r ∧ k ≤ r.length) ∨ ((RS.num k ⟨r, 0⟩).2.e ≠ 0 ∧ RS.num k ⟨r, 0⟩ = (0, ⟨[], 8⟩)) := by
  by_cases h : r.length < k
  · rw [num_cut h]
    exact .inr ⟨by simp, rfl⟩
  · unfold RS.num
    rw [if_neg (by simp), if_neg (by simpa using h)]
    refine .inl ⟨rfl, ?_, by omega⟩
    dsimp only
    rw [Int.toNat_natCast, be_val' (by simp; omega), List.take_append_drop]
theorem count_only (m : Int) (r : List UInt8) : ((RS.count m ⟨r, 0⟩).2.e = 0 ∧ be (RS.count m ⟨r, 0⟩).1.toNat 8 ++ (RS.count m ⟨r, 0⟩).2.r = r) ∨ ((RS.count m ⟨r, 0⟩).2.e ≠ 0 ∧ (RS.count m ⟨r, 0⟩).1 = 0 ∧ (RS.count m ⟨r, 0⟩).2.r = []) := by
  unfold RS.count
  rw [if_neg (by simp)]
  by_cases h : r.length < 8
  · rw [if_pos h]
    exact .inr ⟨by simp, rfl, rfl⟩
  · rw [if_neg (by simpa using h)]
    dsimp only
    split
    · exact .inr ⟨by simp, rfl, rfl⟩
    · refine .inl ⟨rfl, ?_⟩
      dsimp only
      rw [Int.toNat_natCast, be_val' (by simp; omega), List.take_append_drop]
theorem text_only (r : List UInt8) : ((RS.text ⟨r, 0⟩).2.e = 0 ∧ bText (RS.text ⟨r, 0⟩).1 ++ (RS.text ⟨r, 0⟩).2.r = r ∧ (RS.text ⟨r, 0⟩).1.length ≤ 2048) ∨ ((RS.text ⟨r, 0⟩).2.e ≠ 0 ∧ (RS.text ⟨r, 0⟩).1 = [] ∧ (RS.text ⟨r, 0⟩).2.r = []) := by
  unfold RS.text
  rw [if_neg (by simp)]
  dsimp only
  split
  · exact .inr ⟨by simp, rfl, rfl⟩
  split
  · exact .inr ⟨by simp, rfl, rfl⟩
  split
  · exact .inr ⟨by simp, rfl, rfl⟩
  · refine .inl ⟨rfl, ?_, ?_⟩
    · have hl : ((r.drop 2).take (val (r.take 2))).length = val (r.take 2) := by simp; omega
      unfold bText
      rw [hl, be_val' (by simp; omega), List.append_assoc, ← List.drop_drop, List.take_append_drop, List.take_append_drop]
    · simp; omega
theorem bNums_nums : ∀ (n : Nat) (l : List UInt8), 8 * n ≤ l.length → bNums (nums n l) ++ l.drop (8 * n) = l
  | 0, l, _ => by simp [nums, bNums]
  | n + 1, l, h => by
    simp only [nums, bNums, Int.toNat_natCast, List.append_assoc]
    have h1 := bNums_nums n (l.drop 8) (by simp; omega)
    rw [List.drop_drop] at h1
    rw [show 8 * (n + 1) = 8 + 8 * n by omega, h1, be_val' (by simp; omega), List.take_append_drop]
theorem nums_u64 : ∀ (n : Nat) (l : List UInt8), 8 * n ≤ l.length → ∀ x ∈ nums n l, U64 x
  | 0, _, _, x, hx => by simp [nums] at hx
  | n + 1, l, h, x, hx => by
    simp only [nums, List.mem_cons] at hx
    rcases hx with rfl | hx
    · exact val8_lt (by simp; omega)
    · exact nums_u64 n (l.drop 8) (by simp; omega) x hx
theorem list_only (r : List UInt8) : ((RS.list ⟨r, 0⟩).2.e = 0 ∧ bList (RS.list ⟨r, 0⟩).1 ++ (RS.list ⟨r, 0⟩).2.r = r ∧ (RS.list ⟨r, 0⟩).1.length ≤ 1024 ∧ ∀ x ∈ (RS.list ⟨r, 0⟩).1, U64 x) ∨ ((RS.list ⟨r, 0⟩).2.e ≠ 0 ∧ (RS.list ⟨r, 0⟩).1 = [] ∧ (RS.list ⟨r, 0⟩).2.r = []) := by
  unfold RS.list
  rw [if_neg (by simp)]
  dsimp only
  split
  · exact .inr ⟨by simp, rfl, rfl⟩
  split
  · exact .inr ⟨by simp, rfl, rfl⟩
  split
  · exact .inr ⟨by simp, rfl, rfl⟩
  · refine .inl ⟨rfl, ?_, ?_, ?_⟩
    · unfold bList
      rw [nums_length, be_val' (by simp; omega), List.append_assoc, ← List.drop_drop, bNums_nums _ _ (by simp; omega), List.take_append_drop]
    · rw [nums_length]; omega
    · exact nums_u64 _ _ (by simp; omega)
theorem toU_wrap64 {n : Int} (h : U64 n) : toU (wrap64 n) = n := by
  unfold U64 at h
  unfold toU wrap64
  omega
theorem wrap64_toU {n : Int} (h : I64 n) : wrap64 (toU n) = n := by
  unfold I64 at h
  unfold toU wrap64
  omega
theorem wrap64_i64 (n : Int) : I64 (wrap64 n) := by
  unfold I64 wrap64
  omega
/-- A reader at which something was wrong stays as it is. -/
theorem num_err {k : Nat} {st : RS} (h : st.e ≠ 0) : st.num k = (0, st) := by
  unfold RS.num
  rw [if_pos h]
theorem count_err {m : Int} {st : RS} (h : st.e ≠ 0) : st.count m = (0, st) := by
  unfold RS.count
  rw [if_pos h]
theorem text_err {st : RS} (h : st.e ≠ 0) : st.text = ([], st) := by
  unfold RS.text
  rw [if_pos h]
theorem list_err {st : RS} (h : st.e ≠ 0) : st.list = ([], st) := by
  unfold RS.list
  rw [if_pos h]
theorem fin_err {st : RS} (h : st.e ≠ 0) : st.fin = st := by
  unfold RS.fin
  rw [if_pos h]

theorem text_short (st : RS) : st.text.1.length ≤ 2048 := by
  unfold RS.text
  split
  · simp
  split
  · simp
  split
  · simp
  split
  · simp
  · simp; omega
theorem list_short (st : RS) : st.list.1.length ≤ 1024 := by
  unfold RS.list
  split
  · simp
  split
  · simp
  split
  · simp
  split
  · simp
  · rw [nums_length]; omega

end Go.Proofs.Ytdnkijljpmcejaa
