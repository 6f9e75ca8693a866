/-
  Entries, plain: what they hold, which have their form, their bytes, and what bytes are.
-/
import Derived.Test.YtdnkijljpmcejaaWireLaw
namespace Go.Proofs.Ytdnkijljpmcejaa
open Go.RowKit

/-- What was dealt, by whom. -/
abbrev Dl := Int × List (List Int)
/-- An entry. -/
structure En where
  k : Int
  id : Int
  ep : Int
  x : List Int
  coms : List (List Int)
  next : List Int
  deals : List Dl
def En.zero : En := ⟨0, 0, 0, [], [], [], []⟩
def Us (ls : List (List Int)) : Prop := ∀ l ∈ ls, ∀ x ∈ l, U64 x
def DlOk (d : Dl) : Prop := I64 d.1 ∧ Us d.2
structure En.Ok (e : En) : Prop where
  k0 : 0 ≤ e.k
  k1 : e.k ≤ 255
  id : I64 e.id
  ep : I64 e.ep
  x : ∀ n ∈ e.x, I64 n
  coms : Us e.coms
  next : ∀ n ∈ e.next, I64 n
  deals : ∀ d ∈ e.deals, DlOk d
theorem En.zero_ok : En.zero.Ok := ⟨by decide, by decide, by unfold I64; decide, by unfold I64; decide, by simp [En.zero], by simp [En.zero, Us], by simp [En.zero], by simp [En.zero]⟩

/-- May a number be? -/
def numB (n : Int) : Bool := decide (0 ≤ n) && decide (n ≤ 1099511627776)
theorem numB_iff {n : Int} : numB n = true ↔ 0 ≤ n ∧ n ≤ 1099511627776 := by simp [numB]
/-- Has it nothing that its Kind does not have? -/
def En.none (e : En) : Bool :=
  (e.k == 2 || (e.id == 0 && e.x.length == 0)) && (e.k == 1 || e.coms.length == 0) && (e.k == 3 || e.next.length == 0) && (e.k == 4 || e.deals.length == 0) && (e.ep == 0 || e.k == 3 || e.k == 4)
def dlB (d : Dl) : Bool := numB d.1 && decide (d.2.length ≤ 255)
def En.form (e : En) : Bool :=
  decide (1 ≤ e.k) && decide (e.k ≤ 4) && e.none && numB e.id && numB e.ep && decide (e.x.length ≤ 255) && decide (e.coms.length ≤ 255) && decide (e.next.length ≤ 255) && decide (e.deals.length ≤ 255) && e.deals.all dlB && e.next.all numB

/-- The bytes of lists; one that is too long is put as more than an entry can have. -/
def pList (l : List Int) : List UInt8 := if l.length ≤ 1024 then bList l else List.replicate 2048 0
def pEach {α : Type} (f : α → List UInt8) : List α → List UInt8
  | [] => []
  | x :: l => f x ++ pEach f l
def pMany {α : Type} (f : α → List UInt8) (l : List α) : List UInt8 := be l.length 1 ++ pEach f l
def pNum (n : Int) : List UInt8 := be (toU n).toNat 8
def pDeal (d : Dl) : List UInt8 := pNum d.1 ++ pMany pList d.2
def En.bytes (e : En) : List UInt8 :=
  be e.k.toNat 1 ++ (if e.k = 1 then pMany pList e.coms else if e.k = 2 then pNum e.id ++ pMany pNum e.x else if e.k = 3 then pNum e.ep ++ pMany pNum e.next else if e.k = 4 then pNum e.ep ++ pMany pDeal e.deals else [])
def eenc (e : En) : List UInt8 × Int := if e.form then (if e.bytes.length ≤ 2048 then (e.bytes, 0) else ([], 40)) else ([], 4)
def En.same (a b : En) : Bool := a.k == b.k && (a.id == b.id && (a.ep == b.ep && (a.x == b.x && (a.coms == b.coms && (a.next == b.next && a.deals == b.deals)))))
theorem En.same_iff {a b : En} : a.same b = true ↔ a = b := by
  cases a
  cases b
  simp [En.same]
def En.may (e : En) : Bool := e.form && decide (e.bytes.length ≤ 2048)

theorem pEach_append {α : Type} (f : α → List UInt8) : ∀ a b : List α, pEach f (a ++ b) = pEach f a ++ pEach f b
  | [], _ => rfl
  | x :: a, b => by simp [pEach, pEach_append f a b]
theorem pEach_take {α : Type} (f : α → List UInt8) {l : List α} {j : Nat} {x : α} (h : l[j]? = some x) : pEach f (l.take (j + 1)) = pEach f (l.take j) ++ f x := by
  rw [List.take_add_one, h, pEach_append]
  simp [pEach]
theorem pEach_le {α : Type} (f : α → List UInt8) (m : Nat) : ∀ (l : List α), (∀ x ∈ l, (f x).length ≤ m) → (pEach f l).length ≤ m * l.length
  | [], _ => by simp [pEach]
  | x :: l, h => by
    have h1 := h x (by simp)
    have h2 := pEach_le f m l fun y hy => h y (by simp [hy])
    simp only [pEach, List.length_append, List.length_cons, Nat.mul_add, Nat.mul_one]
    omega
theorem pNum_length (n : Int) : (pNum n).length = 8 := be_length _ _
theorem pList_le (l : List Int) : (pList l).length ≤ 8194 := by
  unfold pList
  split
  · rw [bList_length]; omega
  · rw [List.length_replicate]; decide
theorem pMany_le {α : Type} (f : α → List UInt8) (m : Nat) (l : List α) (h : ∀ x ∈ l, (f x).length ≤ m) : (pMany f l).length ≤ 1 + m * l.length := by
  have := pEach_le f m l h
  unfold pMany
  rw [List.length_append, be_length]
  omega
theorem pDeal_le {d : Dl} (h : d.2.length ≤ 255) : (pDeal d).length ≤ 2100000 := by
  have h1 := pMany_le pList 8194 d.2 fun l _ => pList_le l
  have h2 : 8194 * d.2.length ≤ 8194 * 255 := Nat.mul_le_mul_left _ h
  unfold pDeal
  rw [List.length_append, pNum_length]
  omega

/-- What reads members until one is wrong. -/
def getN {α : Type} (one : RS → α × RS) : Nat → RS → List α → List α × RS
  | 0, st, acc => (acc, st)
  | n + 1, st, acc => if (one st).2.e ≠ 0 then ([], (one st).2) else getN one n (one st).2 (acc ++ [(one st).1])
def getM {α : Type} (one : RS → α × RS) (st : RS) : List α × RS := getN one (st.num 1).1.toNat (st.num 1).2 []
def oneInt (st : RS) : Int × RS := (wrap64 (st.num 8).1, (st.num 8).2)
def oneNum (st : RS) : Int × RS := st.count 1099511627776
def oneDeal (st : RS) : Dl × RS := (((oneNum st).1, (getM RS.list (oneNum st).2).1), (getM RS.list (oneNum st).2).2)
/-- The entry that stands there, and what is left. -/
def eread (s : List UInt8) : En × RS :=
  let p := RS.num 1 ⟨s, 0⟩
  if p.1 = 1 then let q := getM RS.list p.2; (⟨1, 0, 0, [], q.1, [], []⟩, q.2)
  else if p.1 = 2 then let n := oneNum p.2; let q := getM oneInt n.2; (⟨2, n.1, 0, q.1, [], [], []⟩, q.2)
  else if p.1 = 3 then let n := oneNum p.2; let q := getM oneNum n.2; (⟨3, 0, n.1, [], [], q.1, []⟩, q.2)
  else if p.1 = 4 then let n := oneNum p.2; let q := getM oneDeal n.2; (⟨4, 0, n.1, [], [], [], q.1⟩, q.2)
  else (En.zero, ⟨[], 4⟩)
def edec (s : List UInt8) : En × Int := if 2048 < s.length then (En.zero, 40) else if (eread s).2.fin.e ≠ 0 then (En.zero, 4) else ((eread s).1, 0)
end Go.Proofs.Ytdnkijljpmcejaa
