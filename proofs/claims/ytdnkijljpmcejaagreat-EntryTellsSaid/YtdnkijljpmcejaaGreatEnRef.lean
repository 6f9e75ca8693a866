/-
  Plain law of entries: what the document's reader makes of bytes.
-/
import Derived.Test.YtdnkijljpmcejaaGreatEnLen
namespace Go.Proofs.YtdnkijljpmcejaaGreat
open Go.RowKit

/-- What reads members as long as nothing is wrong. -/
def repN {α : Type} (one : RS → α × RS) : Nat → RS → List α → List α × RS
  | 0, st, acc => (acc, st)
  | n + 1, st, acc => if st.e ≠ 0 then (acc, st) else repN one n (one st).2 (acc ++ [(one st).1])
def repM {α : Type} (one : RS → α × RS) (st : RS) : List α × RS := repN one (st.num 1).1.toNat (st.num 1).2 []
def oneDealR (st : RS) : Dl × RS := (((oneNum st).1, (repM RS.list (oneNum st).2).1), (repM RS.list (oneNum st).2).2)
def rread (s : List UInt8) : En × RS :=
  let p := RS.num 1 ⟨s, 0⟩
  if p.1 = 0 then (⟨0, 0, 0, [], [], [], []⟩, p.2)
  else if p.1 = 1 then let q := repM RS.list p.2; (⟨1, 0, 0, [], q.1, [], []⟩, q.2)
  else if p.1 = 2 then let n := oneNum p.2; let q := repM oneInt n.2; (⟨2, n.1, 0, q.1, [], [], []⟩, q.2)
  else if p.1 = 3 then let n := oneNum p.2; let q := repM oneNum n.2; (⟨3, 0, n.1, [], [], q.1, []⟩, q.2)
  else if p.1 = 4 then let n := oneNum p.2; let q := repM oneDealR n.2; (⟨4, 0, n.1, [], [], [], q.1⟩, q.2)
  else let q := repM oneDealR p.2; (⟨p.1, 0, 0, [], [], [], q.1⟩, q.2)
def rdec (s : List UInt8) : En × Int :=
  if 2048 < s.length then (En.zero, 40) else if (rread s).2.fin.e ≠ 0 ∨ (eenc (rread s).1).2 ≠ 0 ∨ (eenc (rread s).1).1 ≠ s then (En.zero, 4) else ((rread s).1, 0)

theorem rep_get {α : Type} {one one' : RS → α × RS} (h2 : ∀ st, (one' st).2 = (one st).2) (h1 : ∀ st, (one st).2.e = 0 → (one' st).1 = (one st).1) (hs : ∀ st : RS, st.e ≠ 0 → (one st).2 = st) :
    ∀ (n : Nat) (st : RS) (acc : List α), (repN one' n st acc).2 = (getN one n st acc).2 ∧ ((getN one n st acc).2.e = 0 → (repN one' n st acc).1 = (getN one n st acc).1)
  | 0, st, acc => ⟨rfl, fun _ => rfl⟩
  | n + 1, st, acc => by
    unfold repN getN
    by_cases he : st.e ≠ 0
    · have e := hs st he
      rw [if_pos he, e, if_pos he]
      exact ⟨rfl, fun h => absurd h he⟩
    · rw [if_neg he]
      by_cases h3 : (one st).2.e ≠ 0
      · rw [if_pos h3]
        obtain ⟨a, b⟩ := rep_get h2 h1 hs n (one' st).2 (acc ++ [(one' st).1])
        refine ⟨?_, fun h => absurd h h3⟩
        have : ∀ (m : Nat) (st : RS) (ac : List α), st.e ≠ 0 → (repN one' m st ac).2 = st := by
          intro m st ac h
          cases m with
          | zero => rfl
          | succ m => unfold repN; rw [if_pos h]
        rw [this _ _ _ (by rw [h2]; exact h3), h2]
      · rw [if_neg h3, h2, h1 st (by simpa using h3)]
        exact rep_get h2 h1 hs n _ _
theorem repM_get {α : Type} {one one' : RS → α × RS} (h2 : ∀ st, (one' st).2 = (one st).2) (h1 : ∀ st, (one st).2.e = 0 → (one' st).1 = (one st).1) (hs : ∀ st : RS, st.e ≠ 0 → (one st).2 = st) (st : RS) :
    (repM one' st).2 = (getM one st).2 ∧ ((getM one st).2.e = 0 → (repM one' st).1 = (getM one st).1) := rep_get h2 h1 hs _ _ _
theorem list_st (st : RS) (h : st.e ≠ 0) : st.list.2 = st := by rw [list_err h]
theorem num_st (st : RS) (h : st.e ≠ 0) : (oneNum st).2 = st := by unfold oneNum; rw [count_err h]
theorem int_st (st : RS) (h : st.e ≠ 0) : (oneInt st).2 = st := by unfold oneInt; rw [num_err h]
theorem getM_st {α : Type} {one : RS → α × RS} (st : RS) (h : st.e ≠ 0) : (getM one st).2 = st := by
  unfold getM
  rw [num_err h]
  rfl
theorem deal_st (st : RS) (h : st.e ≠ 0) : (oneDeal st).2 = st := by
  unfold oneDeal
  dsimp only
  rw [num_st st h, getM_st st h]
theorem lists_rep (st : RS) : (repM RS.list st).2 = (getM RS.list st).2 ∧ ((getM RS.list st).2.e = 0 → (repM RS.list st).1 = (getM RS.list st).1) := repM_get (fun _ => rfl) (fun _ _ => rfl) list_st st
theorem deal_rep (st : RS) : (oneDealR st).2 = (oneDeal st).2 ∧ ((oneDeal st).2.e = 0 → (oneDealR st).1 = (oneDeal st).1) := by
  obtain ⟨a, b⟩ := lists_rep (oneNum st).2
  refine ⟨a, fun h => ?_⟩
  unfold oneDealR oneDeal
  dsimp only
  rw [b h]
theorem deals_rep (st : RS) : (repM oneDealR st).2 = (getM oneDeal st).2 ∧ ((getM oneDeal st).2.e = 0 → (repM oneDealR st).1 = (getM oneDeal st).1) :=
  repM_get (fun st => (deal_rep st).1) (fun st => (deal_rep st).2) deal_st st
/-- Whether what was read is an entry's, and which. -/
theorem rread_eread (s : List UInt8) : ((rread s).1.form = false ∧ (eread s).2.fin.e ≠ 0) ∨ ((rread s).2 = (eread s).2 ∧ ((eread s).2.e = 0 → (rread s).1 = (eread s).1)) := by
  unfold rread eread
  generalize RS.num 1 ⟨s, 0⟩ = p
  obtain ⟨k, st⟩ := p
  dsimp only
  have hf : (⟨[], 4⟩ : RS).fin.e ≠ 0 := by simp [RS.fin]
  by_cases k0 : k = 0
  · subst k0
    rw [if_pos rfl, if_neg (by decide), if_neg (by decide), if_neg (by decide), if_neg (by decide)]
    exact .inl ⟨rfl, hf⟩
  rw [if_neg k0]
  by_cases k1 : k = 1
  · rw [if_pos k1, if_pos k1]
    obtain ⟨a, b⟩ := lists_rep st
    exact .inr ⟨a, fun h => by dsimp only; rw [b h]⟩
  rw [if_neg k1, if_neg k1]
  by_cases k2 : k = 2
  · rw [if_pos k2, if_pos k2]
    obtain ⟨a, b⟩ := repM_get (one := oneInt) (one' := oneInt) (fun _ => rfl) (fun _ _ => rfl) int_st (oneNum st).2
    exact .inr ⟨a, fun h => by dsimp only; rw [b h]⟩
  rw [if_neg k2, if_neg k2]
  by_cases k3 : k = 3
  · rw [if_pos k3, if_pos k3]
    obtain ⟨a, b⟩ := repM_get (one := oneNum) (one' := oneNum) (fun _ => rfl) (fun _ _ => rfl) num_st (oneNum st).2
    exact .inr ⟨a, fun h => by dsimp only; rw [b h]⟩
  rw [if_neg k3, if_neg k3]
  by_cases k4 : k = 4
  · rw [if_pos k4, if_pos k4]
    obtain ⟨a, b⟩ := deals_rep (oneNum st).2
    exact .inr ⟨a, fun h => by dsimp only; rw [b h]⟩
  rw [if_neg k4, if_neg k4]
  refine .inl ⟨?_, hf⟩
  simp only [En.form, Bool.and_eq_false_iff, decide_eq_false_iff_not]
  have hk : ¬ (1 ≤ k) ∨ ¬ (k ≤ 4) := by omega
  rcases hk with hk | hk <;> simp [hk]
theorem rdec_edec (s : List UInt8) : rdec s = edec s := by
  unfold rdec edec
  split
  · rfl
  rcases rread_eread s with ⟨a, b⟩ | ⟨a, b⟩
  · have : (eenc (rread s).1).2 ≠ 0 := by unfold eenc; rw [if_neg (by simp [a])]; simp
    rw [if_pos (.inr (.inl this)), if_pos b]
  · rw [a]
    by_cases h : (eread s).2.fin.e ≠ 0
    · rw [if_pos (.inl h), if_pos h]
    · have h0 : (eread s).2.fin.e = 0 := by simpa using h
      obtain ⟨c1, c2, c3⟩ := eread_only h0
      rename_i hl
      have hm : (eread s).1.May := ⟨c2, c3, by rw [c1]; omega⟩
      rw [b (fin_iff.1 h0).1, eenc_may hm, c1, if_neg (by simp [h0]), if_neg h]
/-- What was read holds numbers, and few. -/
theorem repN_all {α : Type} {one : RS → α × RS} {P : α → Prop} (h : ∀ st, P (one st).1) : ∀ (n : Nat) (st : RS) (acc : List α), (∀ x ∈ acc, P x) → ∀ x ∈ (repN one n st acc).1, P x
  | 0, st, acc, ha, x, hx => ha x hx
  | n + 1, st, acc, ha, x, hx => by
    unfold repN at hx
    split at hx
    · exact ha x hx
    · refine repN_all h n _ _ (fun y hy => ?_) x hx
      rcases List.mem_append.1 hy with hy | hy
      · exact ha y hy
      · have : y = (one st).1 := by simpa using hy
        rw [this]
        exact h st
theorem repN_len {α : Type} {one : RS → α × RS} : ∀ (n : Nat) (st : RS) (acc : List α), (repN one n st acc).1.length ≤ acc.length + n
  | 0, st, acc => by simp [repN]
  | n + 1, st, acc => by
    unfold repN
    split
    · dsimp only; omega
    · have := repN_len (one := one) n (one st).2 (acc ++ [(one st).1])
      simp at this
      omega
theorem num1_n (st : RS) : (st.num 1).1.toNat ≤ 255 ∧ 0 ≤ (st.num 1).1 := by
  unfold RS.num
  split
  · simp
  split
  · simp
  · have h := val_lt (st.r.take 1)
    rename_i h2
    rw [List.length_take_of_le (by omega), p256_1] at h
    dsimp only
    omega
theorem repM_len {α : Type} {one : RS → α × RS} (st : RS) : (repM one st).1.length ≤ 255 := by
  have h1 := repN_len (one := one) (st.num 1).1.toNat (st.num 1).2 []
  have h2 := (num1_n st).1
  unfold repM
  simp at h1
  omega
theorem list_u64 (st : RS) : ∀ x ∈ st.list.1, U64 x := by
  by_cases h : st.e = 0
  · rw [rs_zero h]
    rcases list_only st.r with ⟨_, _, _, a⟩ | ⟨_, a, _⟩
    · exact a
    · rw [a]; simp
  · rw [list_err h]; simp
theorem num_numB (st : RS) : numB (oneNum st).1 = true := by
  rw [numB_iff]
  unfold oneNum RS.count
  split
  · simp
  split
  · simp
  split
  · simp
  · rename_i h1
    simp at h1
    dsimp only
    omega
theorem rread_ok (s : List UInt8) : (rread s).1.Ok ∧ (rread s).1.x.length ≤ 255 ∧ (rread s).1.coms.length ≤ 255 ∧ (rread s).1.next.length ≤ 255 ∧ (rread s).1.deals.length ≤ 255 := by
  have i0 : I64 0 := by unfold I64; omega
  have hu : ∀ st : RS, ∀ l ∈ (repM RS.list st).1, ∀ x ∈ l, U64 x := fun st => repN_all (P := fun l => ∀ x ∈ l, U64 x) (fun st => list_u64 st) _ _ _ (by simp)
  have hx : ∀ st : RS, ∀ n ∈ (repM oneInt st).1, I64 n := fun st => repN_all (P := I64) (fun st => wrap64_i64 _) _ _ _ (by simp)
  have hn : ∀ st : RS, ∀ n ∈ (repM oneNum st).1, I64 n := fun st => repN_all (P := I64) (fun st => numB_i64 (num_numB st)) _ _ _ (by simp)
  have ho : ∀ st : RS, DlOk (oneDealR st).1 := fun st => ⟨numB_i64 (num_numB st), hu (oneNum st).2⟩
  have hd : ∀ st : RS, ∀ d ∈ (repM oneDealR st).1, DlOk d := fun st => repN_all (P := DlOk) ho _ _ _ (by simp)
  have hp := num1_n ⟨s, 0⟩
  unfold rread
  generalize RS.num 1 ⟨s, 0⟩ = p at hp
  obtain ⟨k, st⟩ := p
  dsimp only at hp ⊢
  split
  · exact ⟨⟨by simp, by simp, i0, i0, by simp, by simp [Us], by simp, by simp⟩, by simp, by simp, by simp, by simp⟩
  split
  · exact ⟨⟨by simp, by simp, i0, i0, by simp, hu _, by simp, by simp⟩, by simp, repM_len _, by simp, by simp⟩
  split
  · exact ⟨⟨by simp, by simp, numB_i64 (num_numB _), i0, hx _, by simp [Us], by simp, by simp⟩, repM_len _, by simp, by simp, by simp⟩
  split
  · exact ⟨⟨by simp, by simp, i0, numB_i64 (num_numB _), by simp, by simp [Us], hn _, by simp⟩, by simp, by simp, repM_len _, by simp⟩
  split
  · exact ⟨⟨by simp, by simp, i0, numB_i64 (num_numB _), by simp, by simp [Us], by simp, hd _⟩, by simp, by simp, by simp, repM_len _⟩
  · exact ⟨⟨by dsimp only; omega, by dsimp only; omega, i0, i0, by simp, by simp [Us], by simp, hd _⟩, by simp, by simp, by simp, repM_len _⟩
end Go.Proofs.YtdnkijljpmcejaaGreat
