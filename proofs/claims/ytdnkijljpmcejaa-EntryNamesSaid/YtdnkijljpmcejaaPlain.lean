/-
  Plain Lean, no program in sight: numbers as bytes (the highest first), what the bytes of a text and of a list are, and what a reader of bytes answers.
-/
import Derived.Lib.UnsafeStr
import Derived.Lib.AppendStr
namespace Go.Proofs.Ytdnkijljpmcejaa

/-- The k bytes of a number, the highest first. -/
def be (n : Nat) : Nat → List UInt8
  | 0 => []
  | k + 1 => UInt8.ofNat (n / 256 ^ k) :: be n k

theorem be_length (n : Nat) : ∀ k, (be n k).length = k
  | 0 => rfl
  | k + 1 => by simp [be, be_length n k]

/-- The number of bytes, the highest first. -/
def valFrom (a : Nat) : List UInt8 → Nat
  | [] => a
  | b :: l => valFrom (a * 256 + b.toNat) l
def val (l : List UInt8) : Nat := valFrom 0 l

theorem valFrom_eq : ∀ (l : List UInt8) (a : Nat), valFrom a l = a * 256 ^ l.length + val l
  | [], a => by simp [valFrom, val]
  | b :: l, a => by
    unfold val
    simp only [valFrom]
    rw [valFrom_eq l, valFrom_eq l (0 * 256 + b.toNat)]
    simp only [List.length_cons, Nat.pow_succ, Nat.zero_mul, Nat.zero_add, Nat.add_mul]
    rw [Nat.mul_assoc, Nat.mul_comm 256, Nat.add_assoc]

theorem val_cons (b : UInt8) (l : List UInt8) : val (b :: l) = b.toNat * 256 ^ l.length + val l := by
  have h := valFrom_eq l (0 * 256 + b.toNat)
  unfold val at *
  simp only [valFrom]
  rw [h]
  simp

theorem valFrom_snoc : ∀ (l : List UInt8) (a : Nat) (b : UInt8), valFrom a (l ++ [b]) = valFrom a l * 256 + b.toNat
  | [], _, _ => rfl
  | _ :: l, _, b => valFrom_snoc l _ b

theorem val_lt : ∀ l : List UInt8, val l < 256 ^ l.length
  | [] => by simp [val, valFrom]
  | b :: l => by
    rw [val_cons]
    have h := val_lt l
    have hb : b.toNat < 256 := b.toNat_lt
    have h2 : b.toNat * 256 ^ l.length ≤ 255 * 256 ^ l.length := Nat.mul_le_mul_right _ (by omega)
    simp only [List.length_cons, Nat.pow_succ]
    omega

theorem val_be (n : Nat) : ∀ k, val (be n k) = n % 256 ^ k
  | 0 => by simp [be, val, valFrom, Nat.mod_one]
  | k + 1 => by
    simp only [be]
    rw [val_cons, val_be n k, be_length, Nat.pow_succ, Nat.mod_mul, UInt8.toNat_ofNat']
    rw [Nat.mul_comm, Nat.add_comm]

theorem val_be_of_lt {n k : Nat} (h : n < 256 ^ k) : val (be n k) = n := by rw [val_be, Nat.mod_eq_of_lt h]

theorem be_mod (n : Nat) : ∀ k m, k ≤ m → be (n % 256 ^ m) k = be n k
  | 0, _, _ => rfl
  | k + 1, m, h => by
    simp only [be]
    rw [be_mod n k m (by omega)]
    congr 1
    apply UInt8.toNat_inj.1
    rw [UInt8.toNat_ofNat', UInt8.toNat_ofNat']
    obtain ⟨j, rfl⟩ : ∃ j, m = k + (j + 1) := ⟨m - k - 1, by omega⟩
    rw [Nat.pow_add, Nat.mod_mul_right_div_self, Nat.pow_succ, Nat.mul_comm (256 ^ j)]
    show n / 256 ^ k % (256 * 256 ^ j) % 2 ^ 8 = _
    rw [Nat.mod_mul_right_mod]

theorem be_val : ∀ l : List UInt8, be (val l) l.length = l
  | [] => rfl
  | b :: l => by
    simp only [List.length_cons, be]
    have hd : val (b :: l) / 256 ^ l.length = b.toNat := by
      rw [val_cons, Nat.add_comm, Nat.add_mul_div_right _ _ (Nat.two_pow_pos 8 |> fun h => Nat.pow_pos h), Nat.div_eq_of_lt (val_lt l), Nat.zero_add]
    have hm : be (val (b :: l)) l.length = l := by
      rw [← be_mod _ _ l.length (Nat.le_refl _), val_cons, Nat.add_comm, Nat.add_mul_mod_self_right, Nat.mod_eq_of_lt (val_lt l)]
      exact be_val l
    rw [hd, hm]
    simp

theorem be_val' {l : List UInt8} {k : Nat} (h : l.length = k) : be (val l) k = l := by rw [← h]; exact be_val l

theorem be_inj {m n k : Nat} (hm : m < 256 ^ k) (hn : n < 256 ^ k) (h : be m k = be n k) : m = n := by
  rw [← val_be_of_lt hm, ← val_be_of_lt hn, h]

/-- A text's bytes; a list's. -/
def bText (t : List UInt8) : List UInt8 := be t.length 2 ++ t
def bNums : List Int → List UInt8
  | [] => []
  | n :: l => be n.toNat 8 ++ bNums l
def bList (l : List Int) : List UInt8 := be l.length 2 ++ bNums l

theorem bNums_length : ∀ l : List Int, (bNums l).length = 8 * l.length
  | [] => rfl
  | n :: l => by simp [bNums, be_length, bNums_length l]; omega
theorem bText_length (t : List UInt8) : (bText t).length = 2 + t.length := by simp [bText, be_length]
theorem bList_length (l : List Int) : (bList l).length = 2 + 8 * l.length := by simp [bList, be_length, bNums_length]
theorem bNums_append : ∀ a b : List Int, bNums (a ++ b) = bNums a ++ bNums b
  | [], _ => rfl
  | n :: a, b => by simp [bNums, bNums_append a b]

/-- A number of 64 bits without a sign; one with a sign. -/
def U64 (n : Int) : Prop := 0 ≤ n ∧ n ≤ 18446744073709551615
def I64 (n : Int) : Prop := -9223372036854775808 ≤ n ∧ n ≤ 9223372036854775807
def toU (n : Int) : Int := n % 18446744073709551616
theorem toU_u64 (n : Int) : U64 (toU n) := by unfold U64 toU; omega
theorem toU_of {n : Int} (h : U64 n) : toU n = n := by unfold U64 at h; unfold toU; omega
theorem U64.toNat_lt {n : Int} (h : U64 n) : n.toNat < 256 ^ 8 := by
  unfold U64 at h
  have : (256 : Nat) ^ 8 = 18446744073709551616 := by decide
  omega
theorem val8_lt {l : List UInt8} (h : l.length = 8) : U64 (val l) := by
  have := val_lt l
  rw [h] at this
  have e : (256 : Nat) ^ 8 = 18446744073709551616 := by decide
  unfold U64
  omega

/-- A reader: the bytes that are left, and what was wrong. -/
structure RS where
  r : List UInt8
  e : Int

/-- A number of k bytes. -/
def RS.num (k : Nat) (s : RS) : Int × RS :=
  if s.e ≠ 0 then (0, s) else if s.r.length < k then (0, ⟨[], 8⟩) else ((val (s.r.take k) : Nat), ⟨s.r.drop k, 0⟩)
/-- A number of eight bytes, of m at most. -/
def RS.count (m : Int) (s : RS) : Int × RS :=
  if s.e ≠ 0 then (0, s) else if s.r.length < 8 then (0, ⟨[], 8⟩)
  else if m < 0 ∨ m < (val (s.r.take 8) : Nat) then (0, ⟨[], 4⟩) else ((val (s.r.take 8) : Nat), ⟨s.r.drop 8, 0⟩)
def RS.text (s : RS) : List UInt8 × RS :=
  if s.e ≠ 0 then ([], s) else if s.r.length < 2 then ([], ⟨[], 8⟩)
  else if 2048 < val (s.r.take 2) then ([], ⟨[], 40⟩)
  else if s.r.length < 2 + val (s.r.take 2) then ([], ⟨[], 8⟩)
  else ((s.r.drop 2).take (val (s.r.take 2)), ⟨s.r.drop (2 + val (s.r.take 2)), 0⟩)
/-- So many numbers of eight bytes. -/
def nums : Nat → List UInt8 → List Int
  | 0, _ => []
  | n + 1, l => (val (l.take 8) : Nat) :: nums n (l.drop 8)
def RS.list (s : RS) : List Int × RS :=
  if s.e ≠ 0 then ([], s) else if s.r.length < 2 then ([], ⟨[], 8⟩)
  else if 1024 < val (s.r.take 2) then ([], ⟨[], 40⟩)
  else if s.r.length < 2 + 8 * val (s.r.take 2) then ([], ⟨[], 8⟩)
  else (nums (val (s.r.take 2)) (s.r.drop 2), ⟨s.r.drop (2 + 8 * val (s.r.take 2)), 0⟩)
def RS.fin (s : RS) : RS := if s.e ≠ 0 then s else if s.r = [] then s else ⟨[], 10⟩

theorem nums_length : ∀ n l, (nums n l).length = n
  | 0, _ => rfl
  | n + 1, l => by simp [nums, nums_length n]
theorem nums_succ : ∀ n l, nums (n + 1) l = nums n l ++ [((val ((l.drop (8 * n)).take 8) : Nat) : Int)]
  | 0, l => by simp [nums]
  | n + 1, l => by
    rw [nums, nums_succ n (l.drop 8)]
    simp only [nums, List.drop_drop, List.cons_append]
    rw [show 8 + 8 * n = 8 * (n + 1) by omega]

end Go.Proofs.Ytdnkijljpmcejaa
