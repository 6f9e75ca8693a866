/-
  Plain law of entries: of how many bytes they are; filled ones.
-/
import Derived.Test.YtdnkijljpmcejaaEnLaw
namespace Go.Proofs.Ytdnkijljpmcejaa
open Go.RowKit

/-- Of how many bytes lists are, with the byte ahead. -/
def sEach : List (List Int) → Nat
  | [] => 0
  | l :: ls => 2 + 8 * l.length + sEach ls
def sMany (ls : List (List Int)) : Nat := 1 + sEach ls
def sDeals : List Dl → Nat
  | [] => 0
  | d :: ds => 8 + sMany d.2 + sDeals ds
def En.long (e : En) : Nat :=
  if e.k = 1 then 1 + sMany e.coms else if e.k = 2 then 10 + 8 * e.x.length else if e.k = 3 then 10 + 8 * e.next.length else 10 + sDeals e.deals
theorem sEach_append : ∀ a b : List (List Int), sEach (a ++ b) = sEach a + sEach b
  | [], _ => by simp [sEach]
  | l :: a, b => by simp only [List.cons_append, sEach, sEach_append a b]; omega
theorem sDeals_append : ∀ a b : List Dl, sDeals (a ++ b) = sDeals a + sDeals b
  | [], _ => by simp [sDeals]
  | l :: a, b => by simp only [List.cons_append, sDeals, sDeals_append a b]; omega
theorem pEach_const {α : Type} {f : α → List UInt8} {m : Nat} : ∀ {l : List α}, (∀ x ∈ l, (f x).length = m) → (pEach f l).length = m * l.length
  | [], _ => by simp [pEach]
  | x :: l, h => by
    have h1 := h x (by simp)
    have h2 := pEach_const (f := f) (m := m) (l := l) fun y hy => h y (by simp [hy])
    simp only [pEach, List.length_append, List.length_cons, Nat.mul_add, Nat.mul_one]
    omega
theorem pNums_length (l : List Int) : (pMany pNum l).length = 1 + 8 * l.length := by
  unfold pMany
  rw [List.length_append, be_length, pEach_const (m := 8) fun x _ => pNum_length x]
theorem pList_length {l : List Int} (h : l.length ≤ 1024) : (pList l).length = 2 + 8 * l.length := by
  unfold pList
  rw [if_pos h, bList_length]
theorem pEach_lists : ∀ {ls : List (List Int)}, (∀ l ∈ ls, l.length ≤ 1024) → (pEach pList ls).length = sEach ls
  | [], _ => rfl
  | l :: ls, h => by
    simp only [pEach, sEach, List.length_append]
    rw [pList_length (h l (by simp)), pEach_lists fun m hm => h m (by simp [hm])]
theorem pMany_lists {ls : List (List Int)} (h : ∀ l ∈ ls, l.length ≤ 1024) : (pMany pList ls).length = sMany ls := by
  unfold pMany sMany
  rw [List.length_append, be_length, pEach_lists h]
theorem pEach_deals : ∀ {ds : List Dl}, (∀ d ∈ ds, ∀ l ∈ d.2, l.length ≤ 1024) → (pEach pDeal ds).length = sDeals ds
  | [], _ => rfl
  | d :: ds, h => by
    simp only [pEach, sDeals, List.length_append, pDeal]
    rw [pNum_length, pMany_lists (h d (by simp)), pEach_deals fun m hm => h m (by simp [hm])]
theorem sEach_mem : ∀ {ls : List (List Int)} {l : List Int}, l ∈ ls → 2 + 8 * l.length ≤ sEach ls
  | m :: ls, l, h => by
    simp only [sEach]
    rcases List.mem_cons.1 h with rfl | h
    · omega
    · have := sEach_mem h
      omega
theorem sDeals_mem : ∀ {ds : List Dl} {d : Dl}, d ∈ ds → 8 + sMany d.2 ≤ sDeals ds
  | m :: ds, d, h => by
    simp only [sDeals]
    rcases List.mem_cons.1 h with rfl | h
    · omega
    · have := sDeals_mem h
      omega
/-- All lists of an entry are short. -/
def En.Short (e : En) : Prop := (∀ l ∈ e.coms, l.length ≤ 1024) ∧ ∀ d ∈ e.deals, ∀ l ∈ d.2, l.length ≤ 1024
theorem bytes_long {e : En} (h : e.Is) (hs : e.Short) : e.bytes.length = e.long := by
  cases h with
  | load cs h1 =>
    simp only [En.bytes, En.long, if_true]
    rw [List.length_append, be_length, pMany_lists hs.1]
  | query id x h1 h2 =>
    simp only [En.bytes, En.long]
    rw [if_neg (by decide), if_pos trivial, if_neg (by decide), if_pos trivial, List.length_append, List.length_append, be_length, pNum_length, pNums_length]
    omega
  | begin ep l h1 h2 h3 =>
    simp only [En.bytes, En.long]
    rw [if_neg (by decide), if_neg (by decide), if_pos trivial, if_neg (by decide), if_neg (by decide), if_pos trivial, List.length_append, List.length_append, be_length, pNum_length, pNums_length]
    omega
  | seal_ ep ds h1 h2 h3 =>
    simp only [En.bytes, En.long]
    rw [if_neg (by decide), if_neg (by decide), if_neg (by decide), if_pos trivial, if_neg (by decide), if_neg (by decide), if_neg (by decide), List.length_append, List.length_append, be_length, pNum_length]
    unfold pMany
    rw [List.length_append, be_length, pEach_deals hs.2]
    dsimp only
    omega
theorem short_long {e : En} (h : e.Is) (hl : e.long ≤ 2048) : e.Short := by
  cases h with
  | load cs h1 =>
    simp only [En.long, if_true, sMany] at hl
    refine ⟨fun l hm => ?_, by simp⟩
    have := sEach_mem (show l ∈ cs from hm)
    omega
  | query id x h1 h2 => exact ⟨by simp, by simp⟩
  | begin ep l h1 h2 h3 => exact ⟨by simp, by simp⟩
  | seal_ ep ds h1 h2 h3 =>
    simp only [En.long] at hl
    rw [if_neg (by decide), if_neg (by decide), if_neg (by decide)] at hl
    refine ⟨by simp, fun d hd l hm => ?_⟩
    have a1 := sDeals_mem (show d ∈ ds from hd)
    have a2 := sEach_mem hm
    unfold sMany at a1
    omega
theorem short_bytes {e : En} (h : e.Is) (hl : e.bytes.length ≤ 2048) : e.Short := by
  cases h with
  | load cs h1 =>
    simp only [En.bytes, if_true] at hl
    refine ⟨fun l hm => long_list ?_, by simp⟩
    have := pEach_mem pList (show l ∈ cs from hm)
    unfold pMany at hl
    rw [List.length_append, List.length_append, be_length, be_length] at hl
    omega
  | query id x h1 h2 => exact ⟨by simp, by simp⟩
  | begin ep l h1 h2 h3 => exact ⟨by simp, by simp⟩
  | seal_ ep ds h1 h2 h3 =>
    simp only [En.bytes] at hl
    rw [if_neg (by decide), if_neg (by decide), if_neg (by decide), if_pos trivial] at hl
    refine ⟨by simp, fun d hd l hm => long_list ?_⟩
    have a1 := pEach_mem pDeal (show d ∈ ds from hd)
    have a2 := pEach_mem pList hm
    have a3 : (pDeal d).length = 8 + (1 + (pEach pList d.2).length) := by unfold pDeal pMany; rw [List.length_append, pNum_length, List.length_append, be_length]
    have a4 : (pMany pDeal ds).length = 1 + (pEach pDeal ds).length := by unfold pMany; rw [List.length_append, be_length]
    rw [List.length_append, List.length_append, be_length, pNum_length] at hl
    omega
/-- How long it is, by the document's count. -/
theorem long_iff {e : En} (h : e.form = true) : e.long ≤ 2048 ↔ e.bytes.length ≤ 2048 := by
  have hi := En.is_of h
  constructor
  · intro hl
    rw [bytes_long hi (short_long hi hl)]
    exact hl
  · intro hl
    rw [← bytes_long hi (short_bytes hi hl)]
    exact hl
/-- As the document says it. -/
theorem eenc_long (e : En) : eenc e = if e.form then (if e.long ≤ 2048 then (e.bytes, 0) else ([], 40)) else ([], 4) := by
  unfold eenc
  split
  · rename_i h
    by_cases hl : e.long ≤ 2048
    · rw [if_pos hl, if_pos ((long_iff h).1 hl)]
    · rw [if_neg hl, if_neg fun h2 => hl ((long_iff h).2 h2)]
  · rfl

/-- Another one of the same form. -/
def fillS (ls : List (List Int)) : List (List Int) := ls.map fun l => l.map fun _ => 77
def En.fill (e : En) (n : Int) : En :=
  ⟨e.k, if e.k = 2 then n % 1099511627776 else 0, if e.k = 3 ∨ e.k = 4 then n % 1099511627776 else 0, e.x.map fun _ => -77, fillS e.coms, e.next.map fun _ => n % 9, e.deals.map fun d => (n % 1000, fillS d.2)⟩
theorem pEach_map {α : Type} {f : α → List UInt8} {g : α → α} (h : ∀ x, (f (g x)).length = (f x).length) : ∀ l : List α, (pEach f (l.map g)).length = (pEach f l).length
  | [] => rfl
  | x :: l => by simp only [List.map_cons, pEach, List.length_append]; rw [h x, pEach_map h l]
theorem pList_len {a b : List Int} (h : a.length = b.length) : (pList a).length = (pList b).length := by
  unfold pList
  rw [h]
  split
  · rw [bList_length, bList_length, h]
  · rfl
theorem pMany_fill (ls : List (List Int)) : (pMany pList (fillS ls)).length = (pMany pList ls).length := by
  unfold pMany fillS
  rw [List.length_append, List.length_append, be_length, be_length, pEach_map fun l => pList_len (by simp)]
theorem fill_len (e : En) (n : Int) : (e.fill n).bytes.length = e.bytes.length := by
  unfold En.bytes En.fill
  dsimp only
  rw [List.length_append, List.length_append, be_length]
  congr 1
  split
  · rw [pMany_fill]
  split
  · rw [List.length_append, List.length_append, pNum_length, pNum_length, pNums_length, pNums_length, List.length_map]
  split
  · rw [List.length_append, List.length_append, pNum_length, pNum_length, pNums_length, pNums_length, List.length_map]
  split
  · rw [List.length_append, List.length_append, pNum_length, pNum_length]
    unfold pMany
    rw [List.length_append, List.length_append, be_length, be_length, pEach_map fun d => ?_]
    unfold pDeal
    dsimp only
    rw [List.length_append, List.length_append, pNum_length, pNum_length, pMany_fill]
  · rfl
theorem fill_form {e : En} {n : Int} (h : e.form = true) : (e.fill n).form = true := by
  have b1 : numB (n % 1099511627776) = true := numB_iff.2 ⟨Int.emod_nonneg _ (by decide), by omega⟩
  have b2 : numB (n % 9) = true := numB_iff.2 ⟨Int.emod_nonneg _ (by decide), by omega⟩
  have b3 : numB (n % 1000) = true := numB_iff.2 ⟨Int.emod_nonneg _ (by decide), by omega⟩
  cases En.is_of h with
  | load cs h1 => exact En.is_form (.load _ (by simpa [fillS] using h1))
  | query id x h1 h2 => exact En.is_form (.query _ _ b1 (by simpa using h2))
  | begin ep l h1 h2 h3 => exact En.is_form (.begin _ _ b1 (by simpa using h2) fun m hm => by
      obtain ⟨_, _, rfl⟩ := List.mem_map.1 hm
      exact b2)
  | seal_ ep ds h1 h2 h3 => exact En.is_form (.seal_ _ _ b1 (by simpa using h2) fun m hm => by
      obtain ⟨d, hd, rfl⟩ := List.mem_map.1 hm
      have := h3 d hd
      simp only [dlB, Bool.and_eq_true, decide_eq_true_eq] at this ⊢
      exact ⟨b3, by simpa [fillS] using this.2⟩)
theorem fill_ok {e : En} {n : Int} (h : e.Ok) : (e.fill n).Ok := by
  have u7 : ∀ ls, Us (fillS ls) := by
    intro ls l hl x hx
    obtain ⟨l', _, rfl⟩ := List.mem_map.1 hl
    obtain ⟨_, _, rfl⟩ := List.mem_map.1 hx
    unfold U64
    omega
  refine ⟨h.k0, h.k1, ?_, ?_, fun m hm => ?_, u7 _, fun m hm => ?_, fun m hm => ?_⟩
  · unfold En.fill I64
    dsimp only
    split <;> omega
  · unfold En.fill I64
    dsimp only
    split <;> omega
  · obtain ⟨_, _, rfl⟩ := List.mem_map.1 hm
    unfold I64
    omega
  · obtain ⟨_, _, rfl⟩ := List.mem_map.1 hm
    unfold I64
    omega
  · obtain ⟨d, _, rfl⟩ := List.mem_map.1 hm
    refine ⟨?_, u7 _⟩
    unfold I64
    dsimp only
    omega
/-- What EntryLong asks. -/
theorem fill_law {e : En} {n : Int} (h4 : (eenc e).2 ≠ 4) : (eenc (e.fill n)).2 = (eenc e).2 ∧ (eenc (e.fill n)).1.length = (eenc e).1.length := by
  have hl := fill_len e n
  unfold eenc at h4 ⊢
  by_cases hf : e.form = true
  · rw [if_pos hf] at h4 ⊢
    rw [if_pos (fill_form hf)]
    by_cases h2 : e.bytes.length ≤ 2048
    · rw [if_pos h2, if_pos (by omega)]
      exact ⟨rfl, hl⟩
    · rw [if_neg h2, if_neg (by omega)]
      exact ⟨rfl, rfl⟩
  · rw [if_neg hf] at h4
    exact absurd rfl h4
end Go.Proofs.Ytdnkijljpmcejaa
