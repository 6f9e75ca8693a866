/-
  Plain law: what was put is got back; what is cut is not got; what was got are the bytes that were there.
-/
import Derived.Test.YtdnkijljpmcejaaGot
namespace Go.Proofs.Ytdnkijljpmcejaa

theorem p256_2 : (256 : Nat) ^ 2 = 65536 := by decide
theorem p256_8 : (256 : Nat) ^ 8 = 18446744073709551616 := by decide
theorem p256_1 : (256 : Nat) ^ 1 = 256 := by decide

theorem num_back {n k : Nat} (h : n < 256 ^ k) (rest : List UInt8) : RS.num k ⟨be n k ++ rest, 0⟩ = ((n : Int), ⟨rest, 0⟩) := by
  have hl := be_length n k
  unfold RS.num
  rw [if_neg (by simp), if_neg (by simp [hl])]
  dsimp only
  rw [List.take_left' hl, List.drop_left' hl, val_be_of_lt h]
theorem count_back {n : Nat} {m : Int} (h : n < 256 ^ 8) (hm : (n : Int) ≤ m) (rest : List UInt8) : RS.count m ⟨be n 8 ++ rest, 0⟩ = ((n : Int), ⟨rest, 0⟩) := by
  have hl := be_length n 8
  unfold RS.count
  rw [if_neg (by simp), if_neg (by simp [hl])]
  dsimp only
  rw [List.take_left' hl, List.drop_left' hl, val_be_of_lt h, if_neg (by omega)]
theorem text_back {t : List UInt8} (h : t.length ≤ 2048) (rest : List UInt8) : RS.text ⟨bText t ++ rest, 0⟩ = (t, ⟨rest, 0⟩) := by
  have hl := be_length t.length 2
  unfold RS.text bText
  have e1 : ((be t.length 2 ++ t) ++ rest).take 2 = be t.length 2 := by rw [List.append_assoc, List.take_left' hl]
  have e2 : ((be t.length 2 ++ t) ++ rest).drop 2 = t ++ rest := by rw [List.append_assoc, List.drop_left' hl]
  rw [if_neg (by simp), if_neg (by simp [hl])]
  dsimp only
  rw [e1, val_be_of_lt (by rw [p256_2]; omega), if_neg (by omega), if_neg (by simp [hl]), e2, ← List.drop_drop, e2]
  simp
theorem nums_back : ∀ {l : List Int} (_ : ∀ x ∈ l, U64 x) (rest : List UInt8), nums l.length (bNums l ++ rest) = l
  | [], _, _ => rfl
  | n :: l, h, rest => by
    have hl := be_length n.toNat 8
    have hn := h n (by simp)
    simp only [bNums, List.length_cons, nums, List.append_assoc]
    rw [List.take_left' hl, List.drop_left' hl, nums_back (fun x hx => h x (by simp [hx])), val_be_of_lt hn.toNat_lt]
    rw [Int.toNat_of_nonneg hn.1]
theorem list_back {l : List Int} (h : l.length ≤ 1024) (hu : ∀ x ∈ l, U64 x) (rest : List UInt8) : RS.list ⟨bList l ++ rest, 0⟩ = (l, ⟨rest, 0⟩) := by
  have hl := be_length l.length 2
  have hb := bNums_length l
  unfold RS.list bList
  have e1 : ((be l.length 2 ++ bNums l) ++ rest).take 2 = be l.length 2 := by rw [List.append_assoc, List.take_left' hl]
  have e2 : ((be l.length 2 ++ bNums l) ++ rest).drop 2 = bNums l ++ rest := by rw [List.append_assoc, List.drop_left' hl]
  rw [if_neg (by simp), if_neg (by simp [hl])]
  dsimp only
  rw [e1, val_be_of_lt (by rw [p256_2]; omega), if_neg (by omega), if_neg (by simp [hl, hb]), ← List.drop_drop, e2, nums_back hu, List.drop_left' hb]

theorem num_cut {p : List UInt8} {k : Nat} (h : p.length < k) : RS.num k ⟨p, 0⟩ = (0, ⟨[], 8⟩) := by
  unfold RS.num
  rw [if_neg (by simp), if_pos h]
theorem count_cut {p : List UInt8} {m : Int} (h : p.length < 8) : RS.count m ⟨p, 0⟩ = (0, ⟨[], 8⟩) := by
  unfold RS.count
  rw [if_neg (by simp), if_pos h]
theorem text_cut {t : List UInt8} {k : Nat} (h : t.length ≤ 2048) (hk : k < (bText t).length) : RS.text ⟨(bText t).take k, 0⟩ = ([], ⟨[], 8⟩) := by
  have hl := be_length t.length 2
  have hbl := bText_length t
  unfold RS.text
  rw [if_neg (by simp)]
  by_cases h2 : k < 2
  · rw [if_pos (by simp; omega)]
  · have e1 : ((bText t).take k).take 2 = be t.length 2 := by
      rw [List.take_take, Nat.min_eq_left (by omega)]
      exact List.take_left' hl
    rw [if_neg (by simp; omega)]
    dsimp only
    rw [e1, val_be_of_lt (by rw [p256_2]; omega), if_neg (by omega), if_pos (by simp; omega)]
theorem list_cut {l : List Int} {k : Nat} (h : l.length ≤ 1024) (hk : k < (bList l).length) : RS.list ⟨(bList l).take k, 0⟩ = ([], ⟨[], 8⟩) := by
  have hl := be_length l.length 2
  have hbl := bList_length l
  unfold RS.list
  rw [if_neg (by simp)]
  by_cases h2 : k < 2
  · rw [if_pos (by simp; omega)]
  · have e1 : ((bList l).take k).take 2 = be l.length 2 := by
      rw [List.take_take, Nat.min_eq_left (by omega)]
      exact List.take_left' hl
    rw [if_neg (by simp; omega)]
    dsimp only
    rw [e1, val_be_of_lt (by rw [p256_2]; omega), if_neg (by omega), if_pos (by simp; omega)]

theorem num_only (k : Nat) (r : List UInt8) : ((RS.num k ⟨r, 0⟩).2.e = 0 ∧ be (RS.num k ⟨r, 0⟩).1.toNat k ++ (RS.num k ⟨r, 0⟩).2.r = r ∧ k ≤ r.length) ∨ ((RS.num k ⟨r, 0⟩).2.e ≠ 0 ∧ RS.num k ⟨r, 0⟩ = (0, ⟨[], 8⟩)) := by
  by_cases h : r.length < k
  · rw [num_cut h]
    exact .inr ⟨by simp, rfl⟩
  · unfold RS.num
    rw [if_neg (by simp), if_neg (by simpa using h)]
    refine .inl ⟨rfl, ?_, by omega⟩
    dsimp only
    rw [Int.toNat_natCast, be_val' (by simp; omega), List.take_append_drop]
theorem count_only (m : Int) (r : List UInt8) : ((RS.count m ⟨r, 0⟩).2.e = 0 ∧ be (RS.count m ⟨r, 0⟩).1.toNat 8 ++ (RS.count m ⟨r, 0⟩).2.r = r) ∨ ((RS.count m ⟨r, 0⟩).2.e ≠ 0 ∧ (RS.count m ⟨r, 0⟩).1 = 0 ∧ (RS.count m ⟨r, 0⟩).2.r = []) := by
  unfold RS.count
  rw [if_neg (by simp)]
  by_cases h : r.length < 8
  · rw [if_pos h]
    exact .inr ⟨by simp, rfl, rfl⟩
  · rw [if_neg (by simpa using h)]
    dsimp only
    split
    · exact .inr ⟨by simp, rfl, rfl⟩
    · refine .inl ⟨rfl, ?_⟩
      dsimp only
      rw [Int.toNat_natCast, be_val' (by simp; omega), List.take_append_drop]
theorem text_only (r : List UInt8) : ((RS.text ⟨r, 0⟩).2.e = 0 ∧ bText (RS.text ⟨r, 0⟩).1 ++ (RS.text ⟨r, 0⟩).2.r = r ∧ (RS.text ⟨r, 0⟩).1.length ≤ 2048) ∨ ((RS.text ⟨r, 0⟩).2.e ≠ 0 ∧ (RS.text ⟨r, 0⟩).1 = [] ∧ (RS.text ⟨r, 0⟩).2.r = []) := by
  unfold RS.text
  rw [if_neg (by simp)]
  dsimp only
  split
  · exact .inr ⟨by simp, rfl, rfl⟩
  split
  · exact .inr ⟨by simp, rfl, rfl⟩
  split
  · exact .inr ⟨by simp, rfl, rfl⟩
  · refine .inl ⟨rfl, ?_, ?_⟩
    · have hl : ((r.drop 2).take (val (r.take 2))).length = val (r.take 2) := by simp; omega
      unfold bText
      rw [hl, be_val' (by simp; omega), List.append_assoc, ← List.drop_drop, List.take_append_drop, List.take_append_drop]
    · simp; omega
theorem bNums_nums : ∀ (n : Nat) (l : List UInt8), 8 * n ≤ l.length → bNums (nums n l) ++ l.drop (8 * n) = l
  | 0, l, _ => by simp [nums, bNums]
  | n + 1, l, h => by
    simp only [nums, bNums, Int.toNat_natCast, List.append_assoc]
    have h1 := bNums_nums n (l.drop 8) (by simp; omega)
    rw [List.drop_drop] at h1
    rw [show 8 * (n + 1) = 8 + 8 * n by omega, h1, be_val' (by simp; omega), List.take_append_drop]
theorem nums_u64 : ∀ (n : Nat) (l : List UInt8), 8 * n ≤ l.length → ∀ x ∈ nums n l, U64 x
  | 0, _, _, x, hx => by simp [nums] at hx
  | n + 1, l, h, x, hx => by
    simp only [nums, List.mem_cons] at hx
    rcases hx with rfl | hx
    · exact val8_lt (by simp; omega)
    · exact nums_u64 n (l.drop 8) (by simp; omega) x hx
theorem list_only (r : List UInt8) : ((RS.list ⟨r, 0⟩).2.e = 0 ∧ bList (RS.list ⟨r, 0⟩).1 ++ (RS.list ⟨r, 0⟩).2.r = r ∧ (RS.list ⟨r, 0⟩).1.length ≤ 1024 ∧ ∀ x ∈ (RS.list ⟨r, 0⟩).1, U64 x) ∨ ((RS.list ⟨r, 0⟩).2.e ≠ 0 ∧ (RS.list ⟨r, 0⟩).1 = [] ∧ (RS.list ⟨r, 0⟩).2.r = []) := by
  unfold RS.list
  rw [if_neg (by simp)]
  dsimp only
  split
  · exact .inr ⟨by simp, rfl, rfl⟩
  split
  · exact .inr ⟨by simp, rfl, rfl⟩
  split
  · exact .inr ⟨by simp, rfl, rfl⟩
  · refine .inl ⟨rfl, ?_, ?_, ?_⟩
    · unfold bList
      rw [nums_length, be_val' (by simp; omega), List.append_assoc, ← List.drop_drop, bNums_nums _ _ (by simp; omega), List.take_append_drop]
    · rw [nums_length]; omega
    · exact nums_u64 _ _ (by simp; omega)

/-- Whatever was put is got back. -/
theorem got_back (t : Th) (ht : t.Ok) (hm : t.may = true) (rest : List UInt8) :
    ∃ x : Th, t.got ⟨t.bytes ++ rest, 0⟩ = (x, ⟨rest, 0⟩) ∧ x.k = t.k ∧ x.bytes = t.bytes := by
  obtain ⟨k, n, s, l, most⟩ := t
  have hk := ht.k
  have hn := ht.n
  have hu := ht.l
  unfold Th.may at hm
  simp only [Bool.and_eq_true, Bool.or_eq_true, bne_iff_ne, decide_eq_true_eq] at hm
  dsimp only at *
  obtain ⟨⟨hs, hl⟩, hc⟩ := hm
  have hn8 := hn.toNat_lt
  have hn0 := hn.1
  by_cases k0 : k = 0
  · subst k0
    refine ⟨_, by unfold Th.got Th.bytes; simp only [if_pos]; rw [num_back (by rw [p256_1]; omega)], rfl, ?_⟩
    have : (((n % 256).toNat : Int) % 256).toNat = (n % 256).toNat := by omega
    show be ((((n % 256).toNat : Nat) : Int) % 256).toNat 1 = be (n % 256).toNat 1
    rw [this]
  by_cases k3 : k = 3
  · subst k3
    have hs : s.length ≤ 2048 := by simpa using hs
    have e : Th.bytes ⟨3, n, s, l, most⟩ = bText s := by simp [Th.bytes, hs]
    rw [e]
    refine ⟨_, by unfold Th.got; simp only [text_back hs]; rfl, rfl, by simp [Th.bytes, hs]⟩
  by_cases k4 : k = 4
  · subst k4
    have hl : l.length ≤ 1024 := by simpa using hl
    have e : Th.bytes ⟨4, n, s, l, most⟩ = bList l := by simp [Th.bytes, hl]
    rw [e]
    refine ⟨_, by unfold Th.got; simp only [list_back hl hu]; rfl, rfl, by simp [Th.bytes, hl]⟩
  have e : ∀ s l most, Th.bytes ⟨k, n, s, l, most⟩ = be n.toNat 8 := by intros; simp [Th.bytes, k0, k3, k4]
  rw [e]
  by_cases k1 : k = 1 ∨ k = 2
  · refine ⟨_, by unfold Th.got; dsimp only; rw [if_neg k0, if_pos k1, num_back hn8], rfl, ?_⟩
    rw [Int.toNat_of_nonneg hn0, e]
  · have hk1 := hk.1
    refine ⟨_, by unfold Th.got; dsimp only; rw [if_neg k0, if_neg k1, if_neg k3, if_neg k4, count_back hn8 (by omega)], rfl, ?_⟩
    rw [Int.toNat_of_nonneg hn0, e]

/-- What is cut is not got. -/
theorem got_cut (t : Th) (ht : t.Ok) (hm : t.may = true) {c : Nat} (hc : c < t.bytes.length) : t.got ⟨t.bytes.take c, 0⟩ = (⟨t.k, 0, [], [], 0⟩, ⟨[], 8⟩) := by
  obtain ⟨k, n, s, l, most⟩ := t
  unfold Th.may at hm
  simp only [Bool.and_eq_true, Bool.or_eq_true, bne_iff_ne, decide_eq_true_eq] at hm
  dsimp only at *
  obtain ⟨⟨hs, hl⟩, _⟩ := hm
  by_cases k0 : k = 0
  · subst k0
    have e : Th.bytes ⟨0, n, s, l, most⟩ = be (n % 256).toNat 1 := by simp [Th.bytes]
    rw [e] at hc ⊢
    rw [be_length] at hc
    unfold Th.got
    rw [num_cut (by simp [be_length]; omega)]
    rfl
  by_cases k3 : k = 3
  · subst k3
    have hs : s.length ≤ 2048 := by simpa using hs
    have e : Th.bytes ⟨3, n, s, l, most⟩ = bText s := by simp [Th.bytes, hs]
    rw [e] at hc ⊢
    unfold Th.got
    simp only [text_cut hs hc]
    rfl
  by_cases k4 : k = 4
  · subst k4
    have hl : l.length ≤ 1024 := by simpa using hl
    have e : Th.bytes ⟨4, n, s, l, most⟩ = bList l := by simp [Th.bytes, hl]
    rw [e] at hc ⊢
    unfold Th.got
    simp only [list_cut hl hc]
    rfl
  have e : Th.bytes ⟨k, n, s, l, most⟩ = be n.toNat 8 := by simp [Th.bytes, k0, k3, k4]
  rw [e] at hc ⊢
  rw [be_length] at hc
  unfold Th.got
  dsimp only
  by_cases k1 : k = 1 ∨ k = 2
  · rw [if_neg k0, if_pos k1, num_cut (by simp [be_length]; omega)]
  · rw [if_neg k0, if_neg k1, if_neg k3, if_neg k4, count_cut (by simp [be_length]; omega)]

/-- What was got are the bytes that were there. -/
theorem got_only' (t : Th) (r : List UInt8) (hk : Byte t.k) :
    ((t.got ⟨r, 0⟩).2.e = 0 ∧ (t.got ⟨r, 0⟩).1.Ok ∧ (t.got ⟨r, 0⟩).1.bytes ++ (t.got ⟨r, 0⟩).2.r = r) ∨ ((t.got ⟨r, 0⟩).2.e ≠ 0 ∧ t.got ⟨r, 0⟩ = (⟨t.k, 0, [], [], 0⟩, ⟨[], (t.got ⟨r, 0⟩).2.e⟩)) := by
  obtain ⟨k, n, s, l, most⟩ := t
  dsimp only at hk
  by_cases k0 : k = 0
  · subst k0
    have e : Th.got ⟨0, n, s, l, most⟩ ⟨r, 0⟩ = (⟨0, (RS.num 1 ⟨r, 0⟩).1, [], [], 0⟩, (RS.num 1 ⟨r, 0⟩).2) := by simp [Th.got]
    rw [e]
    rcases num_only 1 r with ⟨h1, h2, _⟩ | ⟨h1, h2⟩
    · obtain ⟨g1, g2⟩ := num1_le ⟨r, 0⟩
      refine .inl ⟨h1, ⟨hk, ⟨g1, by dsimp only; omega⟩, by simp, by constructor <;> simp⟩, ?_⟩
      have : (RS.num 1 ⟨r, 0⟩).1 % 256 = (RS.num 1 ⟨r, 0⟩).1 := by omega
      simpa [Th.bytes, this] using h2
    · rw [h2]
      exact .inr ⟨by simp, rfl⟩
  by_cases k3 : k = 3
  · subst k3
    have e : Th.got ⟨3, n, s, l, most⟩ ⟨r, 0⟩ = (⟨3, 0, (RS.text ⟨r, 0⟩).1, [], 0⟩, (RS.text ⟨r, 0⟩).2) := by simp [Th.got]
    rw [e]
    rcases text_only r with ⟨h1, h2, h3⟩ | ⟨h1, h2, h3⟩
    · exact .inl ⟨h1, ⟨hk, by constructor <;> simp, by simp, by constructor <;> simp⟩, by simpa [Th.bytes, h3] using h2⟩
    · refine .inr ⟨h1, ?_⟩
      rw [h2]
      dsimp only
      rw [← h3]
  by_cases k4 : k = 4
  · subst k4
    have e : Th.got ⟨4, n, s, l, most⟩ ⟨r, 0⟩ = (⟨4, 0, [], (RS.list ⟨r, 0⟩).1, 0⟩, (RS.list ⟨r, 0⟩).2) := by simp [Th.got]
    rw [e]
    rcases list_only r with ⟨h1, h2, h3, h4⟩ | ⟨h1, h2, h3⟩
    · exact .inl ⟨h1, ⟨hk, by constructor <;> simp, h4, by constructor <;> simp⟩, by simpa [Th.bytes, h3] using h2⟩
    · refine .inr ⟨h1, ?_⟩
      rw [h2]
      dsimp only
      rw [← h3]
  by_cases k1 : k = 1 ∨ k = 2
  · have e : Th.got ⟨k, n, s, l, most⟩ ⟨r, 0⟩ = (⟨k, (RS.num 8 ⟨r, 0⟩).1, [], [], 0⟩, (RS.num 8 ⟨r, 0⟩).2) := by simp [Th.got, k0, k1]
    rw [e]
    rcases num_only 8 r with ⟨h1, h2, _⟩ | ⟨h1, h2⟩
    · refine .inl ⟨h1, ⟨hk, num8_le _, by simp, by constructor <;> simp⟩, by simpa [Th.bytes, k0, k3, k4] using h2⟩
    · rw [h2]
      exact .inr ⟨by simp, rfl⟩
  · have e : Th.got ⟨k, n, s, l, most⟩ ⟨r, 0⟩ = (⟨k, (RS.count 4611686018427387904 ⟨r, 0⟩).1, [], [], 0⟩, (RS.count 4611686018427387904 ⟨r, 0⟩).2) := by simp [Th.got, k0, k1, k3, k4]
    rw [e]
    obtain ⟨g1, g2⟩ := count_le 4611686018427387904 ⟨r, 0⟩ (by omega)
    rcases count_only 4611686018427387904 r with ⟨h1, h2⟩ | ⟨h1, h2, h3⟩
    · refine .inl ⟨h1, ⟨hk, ⟨g1, by dsimp only; omega⟩, by simp, by constructor <;> simp⟩, by simpa [Th.bytes, k0, k3, k4] using h2⟩
    · refine .inr ⟨h1, ?_⟩
      rw [h2]
      dsimp only
      rw [← h3]

/-- The bytes of things, one behind the other. -/
def bytesOf : List Th → List UInt8
  | [] => []
  | t :: ts => t.bytes ++ bytesOf ts
theorem bytesOf_append : ∀ a b : List Th, bytesOf (a ++ b) = bytesOf a ++ bytesOf b
  | [], _ => rfl
  | t :: a, b => by simp [bytesOf, bytesOf_append a b]
theorem bytes_le2 (t : Th) : t.bytes.length ≤ 2 * (20 + t.s.length + 4 * t.l.length) := by
  unfold Th.bytes
  split
  · simp [be_length]; omega
  split
  · split
    · rw [bText_length]; omega
    · simp
  split
  · split
    · rw [bList_length]; omega
    · simp
  · simp [be_length]; omega
end Go.Proofs.Ytdnkijljpmcejaa
