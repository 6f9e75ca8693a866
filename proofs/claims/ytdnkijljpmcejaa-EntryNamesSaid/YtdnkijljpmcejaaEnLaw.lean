/-
  Plain law of entries: what was put is read as it was; what is cut is not; what was read are the bytes that were there.
-/
import Derived.Test.YtdnkijljpmcejaaEnPlain
namespace Go.Proofs.Ytdnkijljpmcejaa
open Go.RowKit

def Back {α : Type} (one : RS → α × RS) (f : α → List UInt8) (P : α → Prop) : Prop := ∀ x, P x → ∀ rest, one ⟨f x ++ rest, 0⟩ = (x, ⟨rest, 0⟩)
def Cut {α : Type} (one : RS → α × RS) (f : α → List UInt8) (P : α → Prop) : Prop := ∀ x, P x → ∀ k, k < (f x).length → (one ⟨(f x).take k, 0⟩).2.e ≠ 0
def Onl {α : Type} (one : RS → α × RS) (f : α → List UInt8) (P : α → Prop) : Prop := ∀ r, (one ⟨r, 0⟩).2.e = 0 → f (one ⟨r, 0⟩).1 ++ (one ⟨r, 0⟩).2.r = r ∧ P (one ⟨r, 0⟩).1
def Stk {α : Type} (one : RS → α × RS) : Prop := ∀ st : RS, st.e ≠ 0 → (one st).2.e ≠ 0
theorem rs_zero {st : RS} (h : st.e = 0) : st = ⟨st.r, 0⟩ := by cases st; simp_all
section
variable {α : Type} {one : RS → α × RS} {f : α → List UInt8} {P : α → Prop}
theorem getN_back (h : Back one f P) : ∀ (l : List α) (_ : ∀ x ∈ l, P x) (rest : List UInt8) (acc : List α), getN one l.length ⟨pEach f l ++ rest, 0⟩ acc = (acc ++ l, ⟨rest, 0⟩)
  | [], _, rest, acc => by simp [getN, pEach]
  | x :: l, hl, rest, acc => by
    have h1 := h x (hl x (by simp)) (pEach f l ++ rest)
    simp only [List.length_cons, getN, pEach, List.append_assoc]
    rw [h1, if_neg (by simp), getN_back h l (fun y hy => hl y (by simp [hy]))]
    simp
theorem getM_back (h : Back one f P) : Back (getM one) (pMany f) (fun l => l.length ≤ 255 ∧ ∀ x ∈ l, P x) := by
  intro l hl rest
  unfold getM pMany
  rw [List.append_assoc, num_back (by rw [p256_1]; omega)]
  have := getN_back h l hl.2 rest []
  simpa using this
theorem getN_stk (h : Stk one) : ∀ (n : Nat) (st : RS) (acc : List α), st.e ≠ 0 → (getN one n st acc).2.e ≠ 0
  | 0, st, acc, he => he
  | n + 1, st, acc, he => by
    have h1 := h st he
    unfold getN
    rw [if_pos h1]
    exact h1
theorem getM_stk (_ : Stk one) : Stk (getM one) := by
  intro st he
  unfold getM
  rw [num_err he]
  exact he
theorem getN_cut (h : Back one f P) (hc : Cut one f P) (hs : Stk one) : ∀ (l : List α) (_ : ∀ x ∈ l, P x) (k : Nat) (acc : List α), k < (pEach f l).length → (getN one l.length ⟨(pEach f l).take k, 0⟩ acc).2.e ≠ 0
  | [], _, k, acc, hk => by simp [pEach] at hk
  | x :: l, hl, k, acc, hk => by
    simp only [List.length_cons, getN, pEach]
    by_cases h1 : k < (f x).length
    · have h2 := hc x (hl x (by simp)) k h1
      rw [List.take_append_of_le_length (by omega), if_pos h2]
      exact h2
    · have h3 : (f x ++ pEach f l).take k = f x ++ (pEach f l).take (k - (f x).length) := by
        rw [List.take_append, List.take_of_length_le (by omega)]
      rw [h3, h x (hl x (by simp)), if_neg (by simp)]
      refine getN_cut h hc hs l (fun y hy => hl y (by simp [hy])) _ _ ?_
      simp only [pEach, List.length_append] at hk
      omega
theorem getM_cut (h : Back one f P) (hc : Cut one f P) (hs : Stk one) : Cut (getM one) (pMany f) (fun l => l.length ≤ 255 ∧ ∀ x ∈ l, P x) := by
  intro l hl k hk
  unfold pMany at hk ⊢
  have hb := be_length l.length 1
  by_cases h1 : k < 1
  · have e : (be l.length 1 ++ pEach f l).take k = [] := by
      have : k = 0 := by omega
      subst this
      rfl
    rw [e]
    unfold getM
    rw [num_cut (by simp)]
    simp [getN]
  · have e : (be l.length 1 ++ pEach f l).take k = be l.length 1 ++ (pEach f l).take (k - 1) := by
      rw [List.take_append, List.take_of_length_le (by omega), hb]
    rw [e]
    unfold getM
    rw [num_back (by rw [p256_1]; omega)]
    refine getN_cut h hc hs l hl.2 _ _ ?_
    rw [List.length_append, hb] at hk
    omega
theorem getN_onl (h : Onl one f P) : ∀ (n : Nat) (r : List UInt8) (acc : List α), (getN one n ⟨r, 0⟩ acc).2.e = 0 → ∃ l, (getN one n ⟨r, 0⟩ acc).1 = acc ++ l ∧ l.length = n ∧ pEach f l ++ (getN one n ⟨r, 0⟩ acc).2.r = r ∧ ∀ x ∈ l, P x
  | 0, r, acc, _ => ⟨[], by simp [getN], rfl, by simp [getN, pEach], by simp⟩
  | n + 1, r, acc, he => by
    unfold getN at he ⊢
    by_cases h1 : (one ⟨r, 0⟩).2.e ≠ 0
    · rw [if_pos h1] at he
      exact absurd he h1
    · rw [if_neg h1] at he ⊢
      have h2 : (one ⟨r, 0⟩).2.e = 0 := by simpa using h1
      obtain ⟨h3, h4⟩ := h r h2
      rw [rs_zero h2] at he ⊢
      obtain ⟨l, e1, e2, e3, e4⟩ := getN_onl h n (one ⟨r, 0⟩).2.r (acc ++ [(one ⟨r, 0⟩).1]) he
      refine ⟨(one ⟨r, 0⟩).1 :: l, by rw [e1]; simp, by simp [e2], ?_, ?_⟩
      · simp only [pEach, List.append_assoc]
        rw [e3, h3]
      · intro x hx
        rcases List.mem_cons.1 hx with rfl | hx
        · exact h4
        · exact e4 x hx
theorem getM_onl (h : Onl one f P) : Onl (getM one) (pMany f) (fun l => l.length ≤ 255 ∧ ∀ x ∈ l, P x) := by
  intro r he
  rcases num_only 1 r with ⟨a1, a2, a3⟩ | ⟨a1, a2⟩
  · unfold getM at he ⊢
    rw [rs_zero a1] at he ⊢
    obtain ⟨l, e1, e2, e3, e4⟩ := getN_onl h (RS.num 1 ⟨r, 0⟩).1.toNat (RS.num 1 ⟨r, 0⟩).2.r [] he
    have hlt : (RS.num 1 ⟨r, 0⟩).1.toNat < 256 := by
      unfold RS.num
      rw [if_neg (by simp), if_neg (by dsimp only; omega)]
      have := val_lt (r.take 1)
      rw [List.length_take_of_le a3, p256_1] at this
      simpa using this
    rw [e1, List.nil_append]
    refine ⟨?_, by omega, e4⟩
    unfold pMany
    rw [e2, List.append_assoc, e3, a2]
  · unfold getM at he
    rw [a2] at he
    simp [getN] at he
end

theorem list_back' : Back RS.list pList (fun l => l.length ≤ 1024 ∧ ∀ x ∈ l, U64 x) := by
  intro l hl rest
  unfold pList
  rw [if_pos hl.1, list_back hl.1 hl.2]
theorem list_cut' : Cut RS.list pList (fun l => l.length ≤ 1024 ∧ ∀ x ∈ l, U64 x) := by
  intro l hl k hk
  unfold pList at hk ⊢
  rw [if_pos hl.1] at hk ⊢
  rw [list_cut hl.1 hk]
  simp
theorem list_onl' : Onl RS.list pList (fun l => l.length ≤ 1024 ∧ ∀ x ∈ l, U64 x) := by
  intro r he
  rcases list_only r with ⟨_, a2, a3, a4⟩ | ⟨a1, _⟩
  · refine ⟨?_, a3, a4⟩
    unfold pList
    rw [if_pos a3]
    exact a2
  · exact absurd he a1
theorem list_stk : Stk RS.list := fun st he => by rw [list_err he]; exact he
theorem toU_num {n : Int} (h : numB n = true) : toU n = n := by
  have := numB_iff.1 h
  exact toU_of ⟨this.1, by omega⟩
theorem num_back' : Back oneNum pNum (fun n => numB n = true) := by
  intro n hn rest
  have h := numB_iff.1 hn
  unfold oneNum pNum
  rw [toU_num hn, count_back (U64.toNat_lt ⟨h.1, by omega⟩) (by omega), Int.toNat_of_nonneg h.1]
theorem num_cut' : Cut oneNum pNum (fun n => numB n = true) := by
  intro n hn k hk
  rw [pNum_length] at hk
  unfold oneNum
  rw [count_cut (by rw [List.length_take]; omega)]
  simp
theorem num_onl' : Onl oneNum pNum (fun n => numB n = true) := by
  intro r he
  unfold oneNum at he ⊢
  have hb : numB (RS.count 1099511627776 ⟨r, 0⟩).1 = true := by
    rw [numB_iff]
    unfold RS.count
    rw [if_neg (by simp)]
    dsimp only
    split
    · simp
    split
    · simp
    · rename_i h1
      simp at h1
      dsimp only
      omega
  rcases count_only 1099511627776 r with ⟨_, a2⟩ | ⟨a1, _⟩
  · refine ⟨?_, hb⟩
    unfold pNum
    rw [toU_num hb]
    exact a2
  · exact absurd he a1
theorem num_stk : Stk oneNum := fun st he => by unfold oneNum; rw [count_err he]; exact he
theorem int_back' : Back oneInt pNum I64 := by
  intro n hn rest
  unfold oneInt pNum
  rw [num_back (toU_u64 n).toNat_lt]
  dsimp only
  rw [Int.toNat_of_nonneg (toU_u64 n).1, wrap64_toU hn]
theorem int_cut' : Cut oneInt pNum I64 := by
  intro n hn k hk
  rw [pNum_length] at hk
  unfold oneInt
  rw [num_cut (by rw [List.length_take]; omega)]
  simp
theorem int_onl' : Onl oneInt pNum I64 := by
  intro r he
  unfold oneInt at he ⊢
  rcases num_only 8 r with ⟨_, a2, a3⟩ | ⟨a1, _⟩
  · refine ⟨?_, wrap64_i64 _⟩
    have hu : U64 (RS.num 8 ⟨r, 0⟩).1 := by
      unfold RS.num
      rw [if_neg (by simp), if_neg (by simpa using a3)]
      exact val8_lt (by simp; omega)
    unfold pNum
    dsimp only
    rw [toU_wrap64 hu]
    exact a2
  · exact absurd he a1
theorem int_stk : Stk oneInt := fun st he => by unfold oneInt; rw [num_err he]; exact he

def DlP (d : Dl) : Prop := numB d.1 = true ∧ d.2.length ≤ 255 ∧ ∀ l ∈ d.2, l.length ≤ 1024 ∧ ∀ x ∈ l, U64 x
theorem deal_back : Back oneDeal pDeal DlP := by
  intro d hd rest
  have h1 := num_back' d.1 hd.1 (pMany pList d.2 ++ rest)
  have h2 := getM_back list_back' d.2 hd.2 rest
  unfold oneDeal pDeal
  rw [List.append_assoc, h1]
  dsimp only
  rw [h2]
theorem deal_cut : Cut oneDeal pDeal DlP := by
  intro d hd k hk
  unfold pDeal at hk ⊢
  have hl := pNum_length d.1
  rw [List.length_append, hl] at hk
  unfold oneDeal
  by_cases h1 : k < 8
  · rw [List.take_append_of_le_length (by omega)]
    exact getM_stk list_stk _ (num_cut' d.1 hd.1 k (by omega))
  · rw [List.take_append, List.take_of_length_le (by omega), num_back' d.1 hd.1, hl]
    exact getM_cut list_back' list_cut' list_stk d.2 hd.2 _ (by omega)
theorem deal_stk : Stk oneDeal := fun st he => getM_stk list_stk _ (num_stk st he)
theorem deal_onl : Onl oneDeal pDeal DlP := by
  intro r he
  unfold oneDeal at he ⊢
  dsimp only at he ⊢
  by_cases h1 : (oneNum ⟨r, 0⟩).2.e = 0
  · obtain ⟨a1, a2⟩ := num_onl' r h1
    rw [rs_zero h1] at he ⊢
    obtain ⟨b1, b2⟩ := getM_onl list_onl' _ he
    refine ⟨?_, a2, b2⟩
    unfold pDeal
    dsimp only
    rw [List.append_assoc, b1, a1]
  · exact absurd he (getM_stk list_stk _ h1)

/-- What may be, laid out. -/
structure En.May (e : En) : Prop where
  ok : e.Ok
  form : e.form = true
  len : e.bytes.length ≤ 2048
theorem long_list {l : List Int} (h : (pList l).length < 2048) : l.length ≤ 1024 := by
  unfold pList at h
  split at h
  · assumption
  · rw [List.length_replicate] at h; omega
theorem pEach_mem {α : Type} (f : α → List UInt8) : ∀ {l : List α} {x : α}, x ∈ l → (f x).length ≤ (pEach f l).length
  | y :: l, x, h => by
    simp only [pEach, List.length_append]
    rcases List.mem_cons.1 h with rfl | h
    · omega
    · have := pEach_mem f h
      omega
theorem lists_ok {ls : List (List Int)} (h1 : (pMany pList ls).length < 2048) (hu : Us ls) : ∀ l ∈ ls, l.length ≤ 1024 ∧ ∀ x ∈ l, U64 x := by
  intro l hl
  refine ⟨long_list ?_, hu l hl⟩
  have := pEach_mem pList hl
  unfold pMany at h1
  rw [List.length_append, be_length] at h1
  omega

/-- The four Kinds that have their form. -/
inductive En.Is : En → Prop
  | load (cs : List (List Int)) : cs.length ≤ 255 → En.Is ⟨1, 0, 0, [], cs, [], []⟩
  | query (id : Int) (x : List Int) : numB id = true → x.length ≤ 255 → En.Is ⟨2, id, 0, x, [], [], []⟩
  | begin (ep : Int) (l : List Int) : numB ep = true → l.length ≤ 255 → (∀ n ∈ l, numB n = true) → En.Is ⟨3, 0, ep, [], [], l, []⟩
  | seal_ (ep : Int) (ds : List Dl) : numB ep = true → ds.length ≤ 255 → (∀ d ∈ ds, dlB d = true) → En.Is ⟨4, 0, ep, [], [], [], ds⟩
theorem En.is_of {e : En} (h : e.form = true) : e.Is := by
  obtain ⟨k, id, ep, x, cs, nx, ds⟩ := e
  simp only [En.form, En.none, Bool.and_eq_true, decide_eq_true_eq, Bool.or_eq_true, beq_iff_eq, List.length_eq_zero_iff, List.all_eq_true] at h
  obtain ⟨⟨⟨⟨⟨⟨⟨⟨⟨⟨k1, k2⟩, ⟨⟨⟨⟨n1, n2⟩, n3⟩, n4⟩, n5⟩⟩, hid⟩, hep⟩, l1⟩, l2⟩, l3⟩, l4⟩, hd⟩, hn⟩ := h
  have hk : k = 1 ∨ k = 2 ∨ k = 3 ∨ k = 4 := by omega
  rcases hk with rfl | rfl | rfl | rfl
  · obtain ⟨rfl, rfl⟩ := n1.resolve_left (by decide)
    obtain rfl := n3.resolve_left (by decide)
    obtain rfl := n4.resolve_left (by decide)
    obtain rfl := (n5.resolve_right (by decide)).resolve_right (by decide)
    exact .load _ l2
  · obtain rfl := n2.resolve_left (by decide)
    obtain rfl := n3.resolve_left (by decide)
    obtain rfl := n4.resolve_left (by decide)
    obtain rfl := (n5.resolve_right (by decide)).resolve_right (by decide)
    exact .query _ _ hid l1
  · obtain ⟨rfl, rfl⟩ := n1.resolve_left (by decide)
    obtain rfl := n2.resolve_left (by decide)
    obtain rfl := n4.resolve_left (by decide)
    exact .begin _ _ hep l3 hn
  · obtain ⟨rfl, rfl⟩ := n1.resolve_left (by decide)
    obtain rfl := n2.resolve_left (by decide)
    obtain rfl := n3.resolve_left (by decide)
    exact .seal_ _ _ hep l4 hd
theorem En.is_form {e : En} (h : e.Is) : e.form = true := by
  cases h with
  | load cs h => simp [En.form, En.none, numB, h]
  | query id x h1 h2 => simp [En.form, En.none, h1, h2]; simp [numB]
  | begin ep l h1 h2 h3 => simp [En.form, En.none, h1, h2]; exact ⟨by simp [numB], h3⟩
  | seal_ ep ds h1 h2 h3 => simp [En.form, En.none, h1, h2]; exact ⟨by simp [numB], fun a b h => h3 (a, b) h⟩
/-- What was put is read, whatever is behind it. -/
theorem eread_back {e : En} (h : e.May) (rest : List UInt8) : eread (e.bytes ++ rest) = (e, ⟨rest, 0⟩) := by
  have hl := h.len
  have ho := h.ok
  cases En.is_of h.form with
  | load cs h1 =>
    simp only [En.bytes, if_true] at hl ⊢
    rw [List.length_append, be_length] at hl
    unfold eread
    rw [List.append_assoc, num_back (by decide)]
    dsimp only
    rw [if_pos (by decide), getM_back list_back' cs ⟨h1, lists_ok (by omega) ho.coms⟩]
  | query id x h1 h2 =>
    simp only [En.bytes] at hl ⊢
    rw [if_neg (by decide), if_pos trivial]
    unfold eread
    rw [List.append_assoc, num_back (by decide)]
    dsimp only
    rw [if_neg (by decide), if_pos (by decide), List.append_assoc, num_back' id h1]
    dsimp only
    rw [getM_back int_back' x ⟨h2, ho.x⟩]
  | begin ep l h1 h2 h3 =>
    simp only [En.bytes] at hl ⊢
    rw [if_neg (by decide), if_neg (by decide), if_pos trivial]
    unfold eread
    rw [List.append_assoc, num_back (by decide)]
    dsimp only
    rw [if_neg (by decide), if_neg (by decide), if_pos (by decide), List.append_assoc, num_back' ep h1]
    dsimp only
    rw [getM_back num_back' l ⟨h2, h3⟩]
  | seal_ ep ds h1 h2 h3 =>
    simp only [En.bytes] at hl ⊢
    rw [if_neg (by decide), if_neg (by decide), if_neg (by decide), if_pos trivial] at hl ⊢
    have hd : ∀ d ∈ ds, DlP d := by
      intro d hd
      have a1 := h3 d hd
      simp only [dlB, Bool.and_eq_true, decide_eq_true_eq] at a1
      refine ⟨a1.1, a1.2, lists_ok ?_ (ho.deals d hd).2⟩
      have a2 := pEach_mem pDeal hd
      have a3 : (pDeal d).length = 8 + (pMany pList d.2).length := by unfold pDeal; rw [List.length_append, pNum_length]
      rw [List.length_append, List.length_append, be_length, pNum_length] at hl
      have a4 : (pMany pDeal ds).length = 1 + (pEach pDeal ds).length := by unfold pMany; rw [List.length_append, be_length]
      omega
    unfold eread
    rw [List.append_assoc, num_back (by decide)]
    dsimp only
    rw [if_neg (by decide), if_neg (by decide), if_neg (by decide), if_pos (by decide), List.append_assoc, num_back' ep h1]
    dsimp only
    rw [getM_back deal_back ds ⟨h2, hd⟩]
theorem two_cut {β : Type} {one : RS → β × RS} {f : β → List UInt8} {P : β → Prop} (hc : Cut one f P) (hs : Stk one) {n : Int} (hn : numB n = true) {x : β} (hx : P x) {k : Nat} (hk : k < (pNum n ++ f x).length) : (one (oneNum ⟨(pNum n ++ f x).take k, 0⟩).2).2.e ≠ 0 := by
  have hl := pNum_length n
  rw [List.length_append, hl] at hk
  by_cases h1 : k < 8
  · rw [List.take_append_of_le_length (by omega)]
    exact hs _ (num_cut' n hn k (by omega))
  · rw [List.take_append, List.take_of_length_le (by omega), num_back' n hn, hl]
    exact hc x hx _ (by omega)
theorem two_onl {β : Type} {one : RS → β × RS} {f : β → List UInt8} {P : β → Prop} (ho : Onl one f P) (hs : Stk one) {r : List UInt8} (h : (one (oneNum ⟨r, 0⟩).2).2.e = 0) :
    pNum (oneNum ⟨r, 0⟩).1 ++ (f (one (oneNum ⟨r, 0⟩).2).1 ++ (one (oneNum ⟨r, 0⟩).2).2.r) = r ∧ numB (oneNum ⟨r, 0⟩).1 = true ∧ P (one (oneNum ⟨r, 0⟩).2).1 := by
  by_cases h1 : (oneNum ⟨r, 0⟩).2.e = 0
  · obtain ⟨a1, a2⟩ := num_onl' r h1
    have e := rs_zero h1
    rw [e] at h ⊢
    obtain ⟨b1, b2⟩ := ho _ h
    exact ⟨by rw [b1, a1], a2, b2⟩
  · exact absurd h (hs _ h1)
theorem dlP_of {ds : List Dl} {ep : Int} {k : Nat} (hl : (be k 1 ++ (pNum ep ++ pMany pDeal ds)).length ≤ 2048) (h3 : ∀ d ∈ ds, dlB d = true) (ho : ∀ d ∈ ds, DlOk d) : ∀ d ∈ ds, DlP d := by
  intro d hd
  have a1 := h3 d hd
  simp only [dlB, Bool.and_eq_true, decide_eq_true_eq] at a1
  refine ⟨a1.1, a1.2, lists_ok ?_ (ho d hd).2⟩
  have a2 := pEach_mem pDeal hd
  have a3 : (pDeal d).length = 8 + (pMany pList d.2).length := by unfold pDeal; rw [List.length_append, pNum_length]
  rw [List.length_append, List.length_append, be_length, pNum_length] at hl
  have a4 : (pMany pDeal ds).length = 1 + (pEach pDeal ds).length := by unfold pMany; rw [List.length_append, be_length]
  omega
theorem take_one {n k : Nat} {l : List UInt8} (h : 1 ≤ k) : (be n 1 ++ l).take k = be n 1 ++ l.take (k - 1) := by
  have := be_length n 1
  rw [List.take_append, List.take_of_length_le (by omega), this]
/-- What is cut is not read. -/
theorem eread_cut {e : En} (h : e.May) {k : Nat} (hk : k < e.bytes.length) : (eread (e.bytes.take k)).2.e ≠ 0 := by
  have hl := h.len
  have ho := h.ok
  by_cases h0 : k = 0
  · subst h0
    rw [List.take_zero]
    unfold eread
    rw [num_cut (by simp)]
    simp
  · cases En.is_of h.form with
    | load cs h1 =>
      simp only [En.bytes, if_true] at hl hk ⊢
      rw [List.length_append, be_length] at hl hk
      rw [take_one (by omega)]
      unfold eread
      rw [num_back (by decide)]
      dsimp only
      rw [if_pos (by decide)]
      exact getM_cut list_back' list_cut' list_stk cs ⟨h1, lists_ok (by omega) ho.coms⟩ _ (by omega)
    | query id x h1 h2 =>
      simp only [En.bytes] at hl hk ⊢
      rw [if_neg (by decide), if_pos trivial] at hk ⊢
      rw [List.length_append, be_length] at hk
      rw [take_one (by omega)]
      unfold eread
      rw [num_back (by decide)]
      dsimp only
      rw [if_neg (by decide), if_pos (by decide)]
      exact two_cut (getM_cut int_back' int_cut' int_stk) (getM_stk int_stk) h1 ⟨h2, ho.x⟩ (by omega)
    | begin ep l h1 h2 h3 =>
      simp only [En.bytes] at hl hk ⊢
      rw [if_neg (by decide), if_neg (by decide), if_pos trivial] at hk ⊢
      rw [List.length_append, be_length] at hk
      rw [take_one (by omega)]
      unfold eread
      rw [num_back (by decide)]
      dsimp only
      rw [if_neg (by decide), if_neg (by decide), if_pos (by decide)]
      exact two_cut (getM_cut num_back' num_cut' num_stk) (getM_stk num_stk) h1 ⟨h2, h3⟩ (by omega)
    | seal_ ep ds h1 h2 h3 =>
      simp only [En.bytes] at hl hk ⊢
      rw [if_neg (by decide), if_neg (by decide), if_neg (by decide), if_pos trivial] at hl hk ⊢
      have hd := dlP_of hl h3 ho.deals
      rw [List.length_append, be_length] at hk
      rw [take_one (by omega)]
      unfold eread
      rw [num_back (by decide)]
      dsimp only
      rw [if_neg (by decide), if_neg (by decide), if_neg (by decide), if_pos (by decide)]
      exact two_cut (getM_cut deal_back deal_cut deal_stk) (getM_stk deal_stk) h1 ⟨h2, hd⟩ (by omega)
theorem fin_iff {st : RS} : st.fin.e = 0 ↔ st.e = 0 ∧ st.r = [] := by
  unfold RS.fin
  split
  · rename_i h
    exact ⟨fun h1 => absurd h1 h, fun h1 => absurd h1.1 h⟩
  · rename_i h
    have h : st.e = 0 := by simpa using h
    split
    · rename_i h2
      exact ⟨fun _ => ⟨h, h2⟩, fun _ => h⟩
    · rename_i h2
      exact ⟨fun h1 => absurd h1 (by simp), fun h1 => absurd h1.2 h2⟩
theorem numB_i64 {n : Int} (h : numB n = true) : I64 n := by
  have := numB_iff.1 h
  unfold I64
  omega
/-- What was read are the bytes that were there. -/
theorem eread_only {s : List UInt8} (h : (eread s).2.fin.e = 0) : (eread s).1.bytes = s ∧ (eread s).1.Ok ∧ (eread s).1.form = true := by
  obtain ⟨he, hr⟩ := fin_iff.1 h
  clear h
  rcases num_only 1 s with ⟨a1, a2, _⟩ | ⟨_, a2⟩
  · unfold eread at he hr ⊢
    generalize RS.num 1 ⟨s, 0⟩ = p at a1 a2 he hr ⊢
    obtain ⟨n, st⟩ := p
    dsimp only at a1 a2 he hr ⊢
    obtain ⟨r, e⟩ := st
    dsimp only at a1 a2
    subst a1
    by_cases k1 : n = 1
    · subst k1
      rw [if_pos rfl] at he hr ⊢
      dsimp only at he hr ⊢
      obtain ⟨b1, b2, b3⟩ := getM_onl list_onl' r he
      rw [hr, List.append_nil] at b1
      refine ⟨?_, ⟨by simp, by simp, by unfold I64; simp, by unfold I64; simp, by simp, fun l hl => (b3 l hl).2, by simp, by simp⟩, En.is_form (.load _ b2)⟩
      rw [← a2]
      conv => rhs; rw [← b1]
      simp [En.bytes]
    rw [if_neg k1] at he hr ⊢
    by_cases k2 : n = 2
    · subst k2
      rw [if_pos rfl] at he hr ⊢
      dsimp only at he hr ⊢
      obtain ⟨b1, b2, b3, b4⟩ := two_onl (getM_onl int_onl') (getM_stk int_stk) he
      rw [hr, List.append_nil] at b1
      refine ⟨?_, ⟨by simp, by simp, numB_i64 b2, by unfold I64; simp, b4, by simp [Us], by simp, by simp⟩, En.is_form (.query _ _ b2 b3)⟩
      rw [← a2]
      conv => rhs; rw [← b1]
      simp [En.bytes]
    rw [if_neg k2] at he hr ⊢
    by_cases k3 : n = 3
    · subst k3
      rw [if_pos rfl] at he hr ⊢
      dsimp only at he hr ⊢
      obtain ⟨b1, b2, b3, b4⟩ := two_onl (getM_onl num_onl') (getM_stk num_stk) he
      rw [hr, List.append_nil] at b1
      refine ⟨?_, ⟨by simp, by simp, by unfold I64; simp, numB_i64 b2, by simp, by simp [Us], fun n hn => numB_i64 (b4 n hn), by simp⟩, En.is_form (.begin _ _ b2 b3 b4)⟩
      rw [← a2]
      conv => rhs; rw [← b1]
      simp [En.bytes]
    rw [if_neg k3] at he hr ⊢
    by_cases k4 : n = 4
    · subst k4
      rw [if_pos rfl] at he hr ⊢
      dsimp only at he hr ⊢
      obtain ⟨b1, b2, b3, b4⟩ := two_onl (getM_onl deal_onl) (getM_stk deal_stk) he
      rw [hr, List.append_nil] at b1
      refine ⟨?_, ⟨by simp, by simp, by unfold I64; simp, numB_i64 b2, by simp, by simp [Us], by simp, fun d hd => ⟨numB_i64 (b4 d hd).1, fun l hl => ((b4 d hd).2.2 l hl).2⟩⟩, En.is_form (.seal_ _ _ b2 b3 fun d hd => by
        simp only [dlB, Bool.and_eq_true, decide_eq_true_eq]
        exact ⟨(b4 d hd).1, (b4 d hd).2.1⟩)⟩
      rw [← a2]
      conv => rhs; rw [← b1]
      simp [En.bytes]
    rw [if_neg k4] at he
    simp at he
  · unfold eread at he
    rw [a2] at he
    simp at he

theorem edec_back {e : En} (h : e.May) : edec e.bytes = (e, 0) := by
  have := eread_back h []
  rw [List.append_nil] at this
  unfold edec
  rw [if_neg (by have := h.len; omega), this, if_neg (by simp [RS.fin])]
theorem edec_only {s : List UInt8} (h : (edec s).2 = 0) : (edec s).1.May ∧ (edec s).1.bytes = s := by
  unfold edec at h ⊢
  by_cases h1 : 2048 < s.length
  · rw [if_pos h1] at h
    simp at h
  rw [if_neg h1] at h ⊢
  by_cases h2 : (eread s).2.fin.e ≠ 0
  · rw [if_pos h2] at h
    simp at h
  rw [if_neg h2]
  obtain ⟨a, b, c⟩ := eread_only (by simpa using h2)
  exact ⟨⟨b, c, by dsimp only; rw [a]; omega⟩, a⟩
theorem edec_no {s : List UInt8} (h : (edec s).2 ≠ 0) : (edec s).1 = En.zero := by
  unfold edec at h ⊢
  split
  · rfl
  split
  · rfl
  · rename_i h1 h2
    rw [if_neg h1, if_neg h2] at h
    exact absurd rfl h
theorem edec_cut {e : En} (h : e.May) {k : Nat} (hk : k < e.bytes.length) : edec (e.bytes.take k) = (En.zero, 4) := by
  have h1 := eread_cut h hk
  have h2 : (eread (e.bytes.take k)).2.fin.e ≠ 0 := fun h3 => h1 (fin_iff.1 h3).1
  unfold edec
  rw [if_neg (by have := h.len; rw [List.length_take]; omega), if_pos h2]
theorem edec_more {e : En} (h : e.May) {more : List UInt8} : (edec (e.bytes ++ more)).2 = 0 ↔ more = [] := by
  constructor
  · intro h1
    unfold edec at h1
    rw [eread_back h more] at h1
    split at h1
    · simp at h1
    split at h1
    · simp at h1
    · rename_i h2
      have h2 : (RS.fin ⟨more, 0⟩).e = 0 := by simpa using h2
      exact (fin_iff.1 h2).2
  · rintro rfl
    rw [List.append_nil, edec_back h]
theorem bytes_inj {a b : En} (ha : a.May) (hb : b.May) (h : a.bytes = b.bytes) : a = b := by
  have h1 := edec_back ha
  rw [h, edec_back hb] at h1
  exact (congrArg Prod.fst h1).symm
theorem eenc_ok {e : En} : (eenc e).2 = 0 ↔ e.form = true ∧ e.bytes.length ≤ 2048 := by
  unfold eenc
  split
  · rename_i h
    split
    · rename_i h2; simp [h, h2]
    · rename_i h2; simp [h2]
  · rename_i h; simp [h]
theorem eenc_may {e : En} (h : e.May) : eenc e = (e.bytes, 0) := by
  unfold eenc
  rw [if_pos h.form, if_pos h.len]
theorem eenc_no {e : En} (h : (eenc e).2 ≠ 0) : (eenc e).1 = [] := by
  unfold eenc at h ⊢
  split
  · split
    · rename_i h1 h2
      rw [if_pos h1, if_pos h2] at h
      exact absurd rfl h
    · rfl
  · rfl
theorem bytes_pos (e : En) : 0 < e.bytes.length := by
  unfold En.bytes
  rw [List.length_append, be_length]
  omega
end Go.Proofs.Ytdnkijljpmcejaa
