/-
  Nets, plain: what is under way, how many were crowded out, and what each call makes of it.
-/
import Derived.Test.YtbibbndjnlnbiaaMsgPlain
namespace Go.Proofs.Ytbibbndjnlnbiaa

/-- A net: how many at most, the next ticket, what is under way, how many were crowded out. -/
structure Nt where
  most : Int
  next : Int
  l : List Mg
  out : Int

/-- A net as it can come to be, of at most K calls. -/
structure Nt.Ok (K : Nat) (n : Nt) : Prop where
  most1 : 1 ≤ n.most
  most2 : n.most ≤ 4096
  next0 : 0 ≤ n.next
  nextK : n.next ≤ K
  out0 : 0 ≤ n.out
  outK : n.out ≤ K
  len : (n.l.length : Int) ≤ n.most
  ok : ∀ m ∈ n.l, m.Ok ∧ m.may = true

def Nt.is (n : Nt) (k : Int) : Bool := decide (0 ≤ k) && decide (k < (n.l.length : Int))
def Nt.msg (n : Nt) (k : Int) : Mg := if n.is k then n.l[k.toNat]?.getD Mg.zero else Mg.zero
def Nt.sent (n : Nt) (m : Mg) : Bool := m.may && decide ((n.l.length : Int) < n.most)
def Nt.send (n : Nt) (m : Mg) : Nt := if m.may then (if (n.l.length : Int) < n.most then ⟨n.most, n.next + 1, n.l ++ [m], n.out⟩ else ⟨n.most, n.next, n.l, n.out + 1⟩) else n
def Nt.lost (n : Nt) (k : Int) : Int := if n.is k then 0 else 5
def Nt.lose (n : Nt) (k : Int) : Nt := if n.is k then ⟨n.most, n.next, n.l.eraseIdx k.toNat, n.out⟩ else n
def Nt.twiced (n : Nt) (k : Int) : Int := if n.is k then (if n.sent (n.msg k) then 0 else 41) else 5
def Nt.twice (n : Nt) (k : Int) : Nt := if n.is k then n.send (n.msg k) else n
def Nt.new (most : Int) : Nt := ⟨most, 0, [], 0⟩

theorem Nt.is_iff {n : Nt} {k : Int} : n.is k = true ↔ 0 ≤ k ∧ k < (n.l.length : Int) := by simp [Nt.is]
theorem Nt.msg_at {n : Nt} {k : Int} (h : n.is k = true) : n.l[k.toNat]? = some (n.msg k) := by
  have hk := Nt.is_iff.1 h
  unfold Nt.msg
  rw [if_pos h, List.getElem?_eq_getElem (by omega)]
  rfl
theorem Nt.msg_mem {n : Nt} {k : Int} (h : n.is k = true) : n.msg k ∈ n.l := List.mem_of_getElem? (Nt.msg_at h)
theorem Nt.msg_no {n : Nt} {k : Int} (h : n.is k = false) : n.msg k = Mg.zero := by
  unfold Nt.msg
  rw [if_neg (by simp [h])]
theorem Nt.new_ok {most : Int} (h1 : 1 ≤ most) (h2 : most ≤ 4096) : (Nt.new most).Ok 0 :=
  ⟨h1, h2, by simp [Nt.new], by simp [Nt.new], by simp [Nt.new], by simp [Nt.new], by simp only [Nt.new, List.length_nil]; omega, by simp [Nt.new]⟩
theorem Nt.Ok.more {K K' : Nat} {n : Nt} (h : n.Ok K) (hK : K ≤ K') : n.Ok K' :=
  ⟨h.most1, h.most2, h.next0, by have := h.nextK; omega, h.out0, by have := h.outK; omega, h.len, h.ok⟩
theorem Nt.send_ok {K : Nat} {n : Nt} {m : Mg} (h : n.Ok K) (hm : m.Ok) : (n.send m).Ok (K + 1) := by
  unfold Nt.send
  split
  · rename_i hmay
    split
    · refine ⟨h.most1, h.most2, ?_, ?_, h.out0, ?_, ?_, ?_⟩
      · have := h.next0; dsimp only; omega
      · have := h.nextK; dsimp only; omega
      · have := h.outK; dsimp only; omega
      · simp only [List.length_append, List.length_cons, List.length_nil]; omega
      · intro x hx
        rcases List.mem_append.1 hx with hx | hx
        · exact h.ok x hx
        · have : x = m := by simpa using hx
          subst this
          exact ⟨hm, hmay⟩
    · refine ⟨h.most1, h.most2, h.next0, ?_, ?_, ?_, h.len, h.ok⟩
      · have := h.nextK; dsimp only; omega
      · have := h.out0; dsimp only; omega
      · have := h.outK; dsimp only; omega
  · exact h.more (by omega)
theorem Nt.lose_ok {K : Nat} {n : Nt} {k : Int} (h : n.Ok K) : (n.lose k).Ok K := by
  unfold Nt.lose
  split
  · rename_i hk
    have hk := Nt.is_iff.1 hk
    refine ⟨h.most1, h.most2, h.next0, h.nextK, h.out0, h.outK, ?_, fun x hx => h.ok x (List.mem_of_mem_eraseIdx hx)⟩
    have := h.len
    dsimp only
    rw [List.length_eraseIdx_of_lt (by omega)]
    omega
  · exact h
theorem Nt.twice_ok {K : Nat} {n : Nt} {k : Int} (h : n.Ok K) : (n.twice k).Ok (K + 1) := by
  unfold Nt.twice
  split
  · rename_i hk
    exact Nt.send_ok h (h.ok _ (Nt.msg_mem hk)).1
  · exact h.more (by omega)

/-- The places of messages to a node. -/
def tos : List Mg → Nat → Int → List Int
  | [], _, _ => []
  | m :: l, i, node => if m.to = node then (i : Int) :: tos l (i + 1) node else tos l (i + 1) node
theorem tos_snoc : ∀ (l : List Mg) (i : Nat) (node : Int) (m : Mg), tos (l ++ [m]) i node = tos l i node ++ (if m.to = node then [((i + l.length : Nat) : Int)] else [])
  | [], i, node, m => by
    simp only [List.nil_append, tos, List.length_nil, Nat.add_zero]
  | x :: l, i, node, m => by
    simp only [List.cons_append, tos]
    rw [tos_snoc l (i + 1) node m]
    have e : i + 1 + l.length = i + (x :: l).length := by simp; omega
    rw [e]
    split <;> simp
theorem tos_length_le : ∀ (l : List Mg) (i : Nat) (node : Int), (tos l i node).length ≤ l.length
  | [], _, _ => by simp [tos]
  | x :: l, i, node => by
    simp only [tos]
    have := tos_length_le l (i + 1) node
    split <;> simp <;> omega
theorem tos_take {l : List Mg} {j : Nat} {m : Mg} (node : Int) (h : l[j]? = some m) : tos (l.take (j + 1)) 0 node = tos (l.take j) 0 node ++ (if m.to = node then [(j : Int)] else []) := by
  have hj : j < l.length := (List.getElem?_eq_some_iff.1 h).1
  rw [List.take_add_one, h]
  show tos (l.take j ++ [m]) 0 node = _
  rw [tos_snoc, List.length_take_of_le (by omega), Nat.zero_add]
def Nt.to (n : Nt) (node : Int) : List Int := tos n.l 0 node
end Go.Proofs.Ytbibbndjnlnbiaa
