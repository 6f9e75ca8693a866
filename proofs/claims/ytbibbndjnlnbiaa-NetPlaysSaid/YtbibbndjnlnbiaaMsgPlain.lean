/-
  Messages, plain: what may be, their bytes, what bytes are.
-/
import Derived.Test.YtbibbndjnlnbiaaWireLaw
namespace Go.Proofs.Ytbibbndjnlnbiaa
open Go.RowKit

/-- A message. -/
structure Mg where
  k : Int
  fr : Int
  to : Int
  ht : Int
  rd : Int
  vl : Int
  ep : Int
  dl : Int
  id : Int
  s : List UInt8
  l : List Int
structure Mg.Ok (m : Mg) : Prop where
  k : 0 ≤ m.k ∧ m.k ≤ 255
  fr : I64 m.fr
  to : I64 m.to
  ht : I64 m.ht
  rd : I64 m.rd
  vl : I64 m.vl
  ep : I64 m.ep
  dl : I64 m.dl
  id : I64 m.id
  l : ∀ x ∈ m.l, U64 x

/-- Within bounds, where it is named; 0 elsewhere. -/
def win (named : Bool) (n lo hi : Int) : Bool := if named then decide (lo ≤ n) && decide (n ≤ hi) else n == 0
def fClient (k : Int) : Bool := k == 1 || k == 6
def fVote (k : Int) : Bool := k == 2 || k == 3 || k == 4
def fDealt (k : Int) : Bool := k == 7 || k == 8 || k == 9 || k == 10
def fText (k : Int) : Bool := k == 1 || fVote k || k == 5
def fSome (k : Int) : Bool := k == 1 || k == 2 || k == 5
def fNums (k : Int) : Bool := k == 6 || fDealt k || k == 11
/-- May a message be? -/
def Mg.may (m : Mg) : Bool :=
  decide (1 ≤ m.k) && decide (m.k ≤ 11) && win (!fClient m.k) m.fr 1 8 && win (!(m.k == 11)) m.to (if fClient m.k then 1 else 0) 8 && win (fVote m.k || m.k == 5) m.ht 1 64 && win (fVote m.k) m.rd 0 99 &&
    win (m.k == 2) m.vl (-1) (m.rd - 1) && win (fDealt m.k || m.k == 11) m.ep 1 64 && win (fDealt m.k) m.dl 1 7 && win (m.k == 11) m.id 1 1099511627776 &&
    (fText m.k || m.s.isEmpty) && (!fSome m.k || !m.s.isEmpty) && (fNums m.k || m.l.isEmpty) && decide (m.s.length ≤ 2048) && decide (m.l.length ≤ 1024)
/-- A message's bytes. -/
def Mg.bytes (m : Mg) : List UInt8 :=
  be m.k.toNat 1 ++ (be (toU m.fr).toNat 8 ++ (be (toU m.to).toNat 8 ++ (be (toU m.ht).toNat 8 ++ (be (toU m.rd).toNat 8 ++ (be (toU m.vl).toNat 8 ++ (be (toU m.ep).toNat 8 ++ (be (toU m.dl).toNat 8 ++ (be (toU m.id).toNat 8 ++ (bText m.s ++ bList m.l)))))))))
theorem Mg.bytes_length (m : Mg) : m.bytes.length = 69 + m.s.length + 8 * m.l.length := by
  simp only [Mg.bytes, List.length_append, be_length, bText_length, bList_length]
  omega
theorem Mg.may_len {m : Mg} (h : m.may = true) : m.s.length ≤ 2048 ∧ m.l.length ≤ 1024 := by
  simp only [Mg.may, Bool.and_eq_true, decide_eq_true_eq] at h
  exact ⟨h.1.2, h.2⟩

/-- What a reader reads. -/
def rdInt (st : RS) : Int × RS := (wrap64 (st.num 8).1, (st.num 8).2)
def Mg.read (st : RS) : Mg × RS :=
  let a := st.num 1
  let b1 := rdInt a.2
  let b2 := rdInt b1.2
  let b3 := rdInt b2.2
  let b4 := rdInt b3.2
  let b5 := rdInt b4.2
  let b6 := rdInt b5.2
  let b7 := rdInt b6.2
  let b8 := rdInt b7.2
  let t := b8.2.text
  let l := t.2.list
  (⟨a.1, b1.1, b2.1, b3.1, b4.1, b5.1, b6.1, b7.1, b8.1, t.1, l.1⟩, l.2)
def Mg.zero : Mg := ⟨0, 0, 0, 0, 0, 0, 0, 0, 0, [], []⟩
/-- The message of bytes, and what was wrong. -/
def mdec (s : List UInt8) : Mg × Int :=
  if (Mg.read ⟨s, 0⟩).2.fin.e = 0 then (if (Mg.read ⟨s, 0⟩).1.may then ((Mg.read ⟨s, 0⟩).1, 0) else (Mg.zero, 4)) else (Mg.zero, (Mg.read ⟨s, 0⟩).2.fin.e)
def menc (m : Mg) : List UInt8 := if m.may then m.bytes else []

theorem rdInt_back {n : Int} (h : I64 n) (rest : List UInt8) : rdInt ⟨be (toU n).toNat 8 ++ rest, 0⟩ = (n, ⟨rest, 0⟩) := by
  unfold rdInt
  have h1 := toU_u64 n
  rw [num_back h1.toNat_lt, Int.toNat_of_nonneg h1.1, wrap64_toU h]
theorem rdInt_err {st : RS} (h : st.e ≠ 0) : rdInt st = (0, st) := by
  unfold rdInt
  rw [num_err h]
  rfl
theorem read_back {m : Mg} (hm : m.Ok) (h1 : m.s.length ≤ 2048) (h2 : m.l.length ≤ 1024) (rest : List UInt8) : Mg.read ⟨m.bytes ++ rest, 0⟩ = (m, ⟨rest, 0⟩) := by
  obtain ⟨k, fr, to, ht, rd, vl, ep, dl, id, s, l⟩ := m
  have hk : k.toNat < 256 ^ 1 := by have := hm.k; rw [p256_1]; dsimp only at this; omega
  have hk0 : ((k.toNat : Nat) : Int) = k := Int.toNat_of_nonneg hm.k.1
  unfold Mg.read Mg.bytes
  simp only [List.append_assoc]
  rw [num_back hk, hk0]
  dsimp only
  rw [rdInt_back hm.fr]
  dsimp only
  rw [rdInt_back hm.to]
  dsimp only
  rw [rdInt_back hm.ht]
  dsimp only
  rw [rdInt_back hm.rd]
  dsimp only
  rw [rdInt_back hm.vl]
  dsimp only
  rw [rdInt_back hm.ep]
  dsimp only
  rw [rdInt_back hm.dl]
  dsimp only
  rw [rdInt_back hm.id]
  dsimp only
  rw [text_back h1]
  dsimp only
  rw [list_back h2 hm.l]

/-- A step of a reader over bytes that are cut. -/
theorem cut_app {A X : List UInt8} (j : Nat) : (j < A.length ∧ (A ++ X).take j = A.take j) ∨ (A.length ≤ j ∧ (A ++ X).take j = A ++ X.take (j - A.length)) := by
  rcases Nat.lt_or_ge j A.length with h | h
  · exact .inl ⟨h, by rw [List.take_append_of_le_length (by omega)]⟩
  · exact .inr ⟨h, by rw [List.take_append, List.take_of_length_le h]⟩
theorem int_cut {n : Int} (h : I64 n) (X : List UInt8) (j : Nat) : (j < 8 ∧ rdInt ⟨(be (toU n).toNat 8 ++ X).take j, 0⟩ = (0, ⟨[], 8⟩)) ∨ (8 ≤ j ∧ rdInt ⟨(be (toU n).toNat 8 ++ X).take j, 0⟩ = (n, ⟨X.take (j - 8), 0⟩)) := by
  have hl := be_length (toU n).toNat 8
  rcases cut_app (A := be (toU n).toNat 8) (X := X) j with ⟨h1, h2⟩ | ⟨h1, h2⟩
  · refine .inl ⟨by omega, ?_⟩
    rw [h2]
    unfold rdInt
    rw [num_cut (by simp; omega)]
    rfl
  · refine .inr ⟨by omega, ?_⟩
    rw [h2, rdInt_back h, hl]
theorem rdInt_8 : rdInt ⟨[], 8⟩ = (0, ⟨[], 8⟩) := rdInt_err (by decide)
theorem text_8 : RS.text ⟨[], 8⟩ = ([], ⟨[], 8⟩) := text_err (by decide)
theorem list_8 : RS.list ⟨[], 8⟩ = ([], ⟨[], 8⟩) := list_err (by decide)
theorem read_cut {m : Mg} (hm : m.Ok) (h1 : m.s.length ≤ 2048) (h2 : m.l.length ≤ 1024) {j : Nat} (hj : j < m.bytes.length) : (Mg.read ⟨m.bytes.take j, 0⟩).2 = ⟨[], 8⟩ := by
  rw [Mg.bytes_length] at hj
  obtain ⟨k, fr, to, ht, rd, vl, ep, dl, id, s, l⟩ := m
  have hk : k.toNat < 256 ^ 1 := by have := hm.k; rw [p256_1]; dsimp only at this; omega
  dsimp only at hj
  unfold Mg.read Mg.bytes
  dsimp only
  rcases cut_app (A := be k.toNat 1) (X := be (toU fr).toNat 8 ++ (be (toU to).toNat 8 ++ (be (toU ht).toNat 8 ++ (be (toU rd).toNat 8 ++ (be (toU vl).toNat 8 ++ (be (toU ep).toNat 8 ++ (be (toU dl).toNat 8 ++ (be (toU id).toNat 8 ++ (bText s ++ bList l))))))))) j with ⟨c0, e0⟩ | ⟨c0, e0⟩
  · rw [be_length] at c0
    rw [e0, num_cut (by simp; omega)]
    simp only [rdInt_8, text_8, list_8]
  rw [be_length] at c0 e0
  rw [e0, num_back hk]
  dsimp only
  rcases int_cut hm.fr (be (toU to).toNat 8 ++ (be (toU ht).toNat 8 ++ (be (toU rd).toNat 8 ++ (be (toU vl).toNat 8 ++ (be (toU ep).toNat 8 ++ (be (toU dl).toNat 8 ++ (be (toU id).toNat 8 ++ (bText s ++ bList l)))))))) (j - 1) with ⟨c1, e1⟩ | ⟨c1, e1⟩
  · dsimp only at e1
    simp only [e1, rdInt_8, text_8, list_8]
  dsimp only at e1
  rw [e1]
  dsimp only
  rcases int_cut hm.to (be (toU ht).toNat 8 ++ (be (toU rd).toNat 8 ++ (be (toU vl).toNat 8 ++ (be (toU ep).toNat 8 ++ (be (toU dl).toNat 8 ++ (be (toU id).toNat 8 ++ (bText s ++ bList l))))))) (j - 1 - 8) with ⟨c2, e2⟩ | ⟨c2, e2⟩
  · dsimp only at e2
    simp only [e2, rdInt_8, text_8, list_8]
  dsimp only at e2
  rw [e2]
  dsimp only
  rcases int_cut hm.ht (be (toU rd).toNat 8 ++ (be (toU vl).toNat 8 ++ (be (toU ep).toNat 8 ++ (be (toU dl).toNat 8 ++ (be (toU id).toNat 8 ++ (bText s ++ bList l)))))) (j - 1 - 8 - 8) with ⟨c3, e3⟩ | ⟨c3, e3⟩
  · dsimp only at e3
    simp only [e3, rdInt_8, text_8, list_8]
  dsimp only at e3
  rw [e3]
  dsimp only
  rcases int_cut hm.rd (be (toU vl).toNat 8 ++ (be (toU ep).toNat 8 ++ (be (toU dl).toNat 8 ++ (be (toU id).toNat 8 ++ (bText s ++ bList l))))) (j - 1 - 8 - 8 - 8) with ⟨c4, e4⟩ | ⟨c4, e4⟩
  · dsimp only at e4
    simp only [e4, rdInt_8, text_8, list_8]
  dsimp only at e4
  rw [e4]
  dsimp only
  rcases int_cut hm.vl (be (toU ep).toNat 8 ++ (be (toU dl).toNat 8 ++ (be (toU id).toNat 8 ++ (bText s ++ bList l)))) (j - 1 - 8 - 8 - 8 - 8) with ⟨c5, e5⟩ | ⟨c5, e5⟩
  · dsimp only at e5
    simp only [e5, rdInt_8, text_8, list_8]
  dsimp only at e5
  rw [e5]
  dsimp only
  rcases int_cut hm.ep (be (toU dl).toNat 8 ++ (be (toU id).toNat 8 ++ (bText s ++ bList l))) (j - 1 - 8 - 8 - 8 - 8 - 8) with ⟨c6, e6⟩ | ⟨c6, e6⟩
  · dsimp only at e6
    simp only [e6, rdInt_8, text_8, list_8]
  dsimp only at e6
  rw [e6]
  dsimp only
  rcases int_cut hm.dl (be (toU id).toNat 8 ++ (bText s ++ bList l)) (j - 1 - 8 - 8 - 8 - 8 - 8 - 8) with ⟨c7, e7⟩ | ⟨c7, e7⟩
  · dsimp only at e7
    simp only [e7, rdInt_8, text_8, list_8]
  dsimp only at e7
  rw [e7]
  dsimp only
  rcases int_cut hm.id (bText s ++ bList l) (j - 1 - 8 - 8 - 8 - 8 - 8 - 8 - 8) with ⟨c8, e8⟩ | ⟨c8, e8⟩
  · dsimp only at e8
    simp only [e8, text_8, list_8]
  dsimp only at e8
  rw [e8]
  dsimp only
  generalize hi : j - 1 - 8 - 8 - 8 - 8 - 8 - 8 - 8 - 8 = i
  have hi2 : i < (bText s).length + (bList l).length := by rw [bText_length, bList_length]; omega
  rcases cut_app (A := bText s) (X := bList l) i with ⟨c9, e9⟩ | ⟨c9, e9⟩
  · rw [e9, text_cut h1 c9]
    simp only [list_8]
  · rw [e9, text_back h1]
    dsimp only
    rw [list_cut h2 (k := i - (bText s).length) (by dsimp only at *; omega)]

/-- What a reader's step told. -/
theorem num_cases (k : Nat) (st : RS) (h : st.e = 0) : (st.num k).2.e ≠ 0 ∨ ((st.num k).2.e = 0 ∧ be (st.num k).1.toNat k ++ (st.num k).2.r = st.r ∧ 0 ≤ (st.num k).1 ∧ (st.num k).1.toNat < 256 ^ k) := by
  obtain ⟨r, e⟩ := st
  dsimp only at h
  subst h
  rcases num_only k r with ⟨h1, h2, h3⟩ | ⟨h1, _⟩
  · refine .inr ⟨h1, h2, ?_⟩
    unfold RS.num
    rw [if_neg (by simp), if_neg (by simpa using h3)]
    dsimp only
    refine ⟨by omega, ?_⟩
    have := val_lt (r.take k)
    rw [List.length_take_of_le h3] at this
    simpa using this
  · exact .inl h1
theorem rdInt_cases (st : RS) (h : st.e = 0) : (rdInt st).2.e ≠ 0 ∨ ((rdInt st).2.e = 0 ∧ be (toU (rdInt st).1).toNat 8 ++ (rdInt st).2.r = st.r) := by
  unfold rdInt
  rcases num_cases 8 st h with h1 | ⟨h1, h2, h3, h4⟩
  · exact .inl h1
  · refine .inr ⟨h1, ?_⟩
    dsimp only
    rw [toU_wrap64 (by rw [p256_8] at h4; unfold U64; omega)]
    exact h2
theorem text_cases (st : RS) (h : st.e = 0) : st.text.2.e ≠ 0 ∨ (st.text.2.e = 0 ∧ bText st.text.1 ++ st.text.2.r = st.r) := by
  obtain ⟨r, e⟩ := st
  dsimp only at h
  subst h
  rcases text_only r with ⟨h1, h2, _⟩ | ⟨h1, _⟩
  · exact .inr ⟨h1, h2⟩
  · exact .inl h1
theorem list_cases (st : RS) (h : st.e = 0) : st.list.2.e ≠ 0 ∨ (st.list.2.e = 0 ∧ bList st.list.1 ++ st.list.2.r = st.r) := by
  obtain ⟨r, e⟩ := st
  dsimp only at h
  subst h
  rcases list_only r with ⟨h1, h2, _⟩ | ⟨h1, _⟩
  · exact .inr ⟨h1, h2⟩
  · exact .inl h1
theorem list_u64 (st : RS) : ∀ x ∈ st.list.1, U64 x := by
  obtain ⟨r, e⟩ := st
  by_cases h : e = 0
  · subst h
    rcases list_only r with ⟨_, _, _, h4⟩ | ⟨_, h2, _⟩
    · exact h4
    · rw [h2]; simp
  · rw [list_err h]; simp
theorem num1_byte (st : RS) : 0 ≤ (st.num 1).1 ∧ (st.num 1).1 ≤ 255 := by
  by_cases h : st.e = 0
  · by_cases h2 : st.r.length < 1
    · unfold RS.num; rw [if_neg (by simpa using h), if_pos h2]; simp
    · unfold RS.num
      rw [if_neg (by simpa using h), if_neg h2]
      have := val_lt (st.r.take 1)
      rw [List.length_take_of_le (by omega), p256_1] at this
      dsimp only
      omega
  · rw [num_err h]; simp
theorem read_ok (st : RS) : (Mg.read st).1.Ok :=
  ⟨num1_byte st, wrap64_i64 _, wrap64_i64 _, wrap64_i64 _, wrap64_i64 _, wrap64_i64 _, wrap64_i64 _, wrap64_i64 _, wrap64_i64 _, list_u64 _⟩
theorem read_short (st : RS) : (Mg.read st).1.s.length ≤ 2048 ∧ (Mg.read st).1.l.length ≤ 1024 := ⟨text_short _, list_short _⟩
/-- What was read of bytes are these bytes. -/
theorem read_only (r : List UInt8) : (Mg.read ⟨r, 0⟩).2.e = 0 → (Mg.read ⟨r, 0⟩).1.bytes ++ (Mg.read ⟨r, 0⟩).2.r = r := by
  unfold Mg.read
  dsimp only
  intro h
  have e11 := h
  generalize ha : RS.num 1 ⟨r, 0⟩ = a at *
  generalize hb1 : rdInt a.2 = b1 at *
  generalize hb2 : rdInt b1.2 = b2 at *
  generalize hb3 : rdInt b2.2 = b3 at *
  generalize hb4 : rdInt b3.2 = b4 at *
  generalize hb5 : rdInt b4.2 = b5 at *
  generalize hb6 : rdInt b5.2 = b6 at *
  generalize hb7 : rdInt b6.2 = b7 at *
  generalize hb8 : rdInt b7.2 = b8 at *
  generalize ht : b8.2.text = t at *
  generalize hl : t.2.list = l at *
  have e10 : t.2.e = 0 := Decidable.byContradiction fun hn => hn (by have := list_err hn; rw [hl] at this; rw [this] at e11; exact e11)
  have e9 : b8.2.e = 0 := Decidable.byContradiction fun hn => hn (by have := text_err hn; rw [ht] at this; rw [this] at e10; exact e10)
  have e8 : b7.2.e = 0 := Decidable.byContradiction fun hn => hn (by have := rdInt_err hn; rw [hb8] at this; rw [this] at e9; exact e9)
  have e7 : b6.2.e = 0 := Decidable.byContradiction fun hn => hn (by have := rdInt_err hn; rw [hb7] at this; rw [this] at e8; exact e8)
  have e6 : b5.2.e = 0 := Decidable.byContradiction fun hn => hn (by have := rdInt_err hn; rw [hb6] at this; rw [this] at e7; exact e7)
  have e5 : b4.2.e = 0 := Decidable.byContradiction fun hn => hn (by have := rdInt_err hn; rw [hb5] at this; rw [this] at e6; exact e6)
  have e4 : b3.2.e = 0 := Decidable.byContradiction fun hn => hn (by have := rdInt_err hn; rw [hb4] at this; rw [this] at e5; exact e5)
  have e3 : b2.2.e = 0 := Decidable.byContradiction fun hn => hn (by have := rdInt_err hn; rw [hb3] at this; rw [this] at e4; exact e4)
  have e2 : b1.2.e = 0 := Decidable.byContradiction fun hn => hn (by have := rdInt_err hn; rw [hb2] at this; rw [this] at e3; exact e3)
  have e1 : a.2.e = 0 := Decidable.byContradiction fun hn => hn (by have := rdInt_err hn; rw [hb1] at this; rw [this] at e2; exact e2)
  have s0 : be a.1.toNat 1 ++ a.2.r = r := by
    rcases num_cases 1 ⟨r, 0⟩ rfl with h1 | ⟨_, h2, _⟩
    · rw [ha] at h1; exact absurd e1 h1
    · rw [ha] at h2; exact h2
  have step : ∀ (x : RS) (y : Int × RS), rdInt x = y → x.e = 0 → y.2.e = 0 → be (toU y.1).toNat 8 ++ y.2.r = x.r := by
    intro x y hy hx hye
    subst hy
    rcases rdInt_cases x hx with h1 | ⟨_, h2⟩
    · exact absurd hye h1
    · exact h2
  have s1 := step _ _ hb1 e1 e2
  have s2 := step _ _ hb2 e2 e3
  have s3 := step _ _ hb3 e3 e4
  have s4 := step _ _ hb4 e4 e5
  have s5 := step _ _ hb5 e5 e6
  have s6 := step _ _ hb6 e6 e7
  have s7 := step _ _ hb7 e7 e8
  have s8 := step _ _ hb8 e8 e9
  have s9 : bText t.1 ++ t.2.r = b8.2.r := by
    rcases text_cases b8.2 e9 with h1 | ⟨_, h2⟩
    · rw [ht] at h1; exact absurd e10 h1
    · rw [ht] at h2; exact h2
  have s10 : bList l.1 ++ l.2.r = t.2.r := by
    rcases list_cases t.2 e10 with h1 | ⟨_, h2⟩
    · rw [hl] at h1; exact absurd e11 h1
    · rw [hl] at h2; exact h2
  unfold Mg.bytes
  dsimp only
  simp only [List.append_assoc]
  rw [s10, s9, s8, s7, s6, s5, s4, s3, s2, s1, s0]

/-- The stage's theorem, plain. -/
theorem fin_zero (r : List UInt8) : RS.fin ⟨r, 0⟩ = if r = [] then ⟨r, 0⟩ else ⟨[], 10⟩ := by
  unfold RS.fin
  rw [if_neg (by simp)]
theorem mdec_enc {m : Mg} (hm : m.Ok) (h : m.may = true) : mdec m.bytes = (m, 0) := by
  obtain ⟨h1, h2⟩ := Mg.may_len h
  have e := read_back hm h1 h2 []
  rw [List.append_nil] at e
  unfold mdec
  rw [e]
  dsimp only
  rw [fin_zero, if_pos rfl, if_pos rfl, if_pos h]
theorem mdec_behind {m : Mg} (hm : m.Ok) (h : m.may = true) {b : List UInt8} (hb : b ≠ []) : mdec (m.bytes ++ b) = (Mg.zero, 10) := by
  obtain ⟨h1, h2⟩ := Mg.may_len h
  unfold mdec
  rw [read_back hm h1 h2 b]
  dsimp only
  rw [fin_zero, if_neg hb, if_neg (by decide)]
theorem mdec_cut {m : Mg} (hm : m.Ok) (h : m.may = true) {j : Nat} (hj : j < m.bytes.length) : mdec (m.bytes.take j) = (Mg.zero, 8) := by
  obtain ⟨h1, h2⟩ := Mg.may_len h
  unfold mdec
  rw [read_cut hm h1 h2 hj, fin_err (by decide), if_neg (by decide)]
theorem mdec_cases (s : List UInt8) : ((mdec s).2 = 0 ∧ (mdec s).1.may = true ∧ (mdec s).1.bytes = s) ∨ ((mdec s).2 ≠ 0 ∧ (mdec s).1 = Mg.zero) := by
  have ho := read_only s
  unfold mdec
  generalize Mg.read ⟨s, 0⟩ = p at *
  obtain ⟨m, r, e⟩ := p
  dsimp only at *
  by_cases he : e = 0
  · subst he
    rw [fin_zero]
    by_cases hr : r = []
    · rw [if_pos hr, if_pos rfl]
      by_cases hm : m.may = true
      · rw [if_pos hm]
        exact .inl ⟨rfl, hm, by have := ho rfl; rwa [hr, List.append_nil] at this⟩
      · rw [if_neg hm]
        exact .inr ⟨by decide, rfl⟩
    · rw [if_neg hr, if_neg (by decide)]
      exact .inr ⟨by decide, rfl⟩
  · rw [fin_err he, if_neg he]
    exact .inr ⟨he, rfl⟩
theorem mdec_ok (s : List UInt8) : (mdec s).1.Ok := by
  have hz : Mg.zero.Ok := ⟨by decide, by unfold I64; decide, by unfold I64; decide, by unfold I64; decide, by unfold I64; decide, by unfold I64; decide, by unfold I64; decide, by unfold I64; decide, by unfold I64; decide, by simp [Mg.zero]⟩
  unfold mdec
  split
  · split
    · exact read_ok _
    · exact hz
  · exact hz
theorem mdec_short (s : List UInt8) : (mdec s).1.s.length ≤ 2048 ∧ (mdec s).1.l.length ≤ 1024 := by
  unfold mdec
  split
  · split
    · exact read_short _
    · simp [Mg.zero]
  · simp [Mg.zero]
/-- Same bytes, same message. -/
theorem bytes_inj {a b : Mg} (ha : a.Ok) (hb : b.Ok) (ma : a.may = true) (mb : b.may = true) (h : a.bytes = b.bytes) : a = b := by
  have h1 := mdec_enc ha ma
  rw [h, mdec_enc hb mb] at h1
  exact (congrArg Prod.fst h1).symm

/-- Are two the same? -/
def Mg.same (a b : Mg) : Bool := a.k == b.k && a.fr == b.fr && a.to == b.to && a.ht == b.ht && a.rd == b.rd && a.vl == b.vl && a.ep == b.ep && a.dl == b.dl && a.id == b.id && a.s == b.s && a.l == b.l
theorem same_iff {a b : Mg} : a.same b = true ↔ a = b := by
  obtain ⟨k, fr, to, ht, rd, vl, ep, dl, id, s, l⟩ := a
  obtain ⟨k', fr', to', ht', rd', vl', ep', dl', id', s', l'⟩ := b
  simp [Mg.same, and_assoc]
theorem same_refl (a : Mg) : a.same a = true := same_iff.2 rfl
end Go.Proofs.Ytbibbndjnlnbiaa
