/-
  The entries and the bytes of consistorylaw13.EntryNames, plain.
-/
import Derived.Test.YtdnkijljpmcejaaELaw
import Derived.Test.YtdnkijljpmcejaaEnLen
namespace Go.Proofs.Ytdnkijljpmcejaa
open Go.RowKit

def badE : List En := [
  ⟨0, 0, 0, [], [], [], []⟩,
  ⟨5, 0, 0, [], [], [], []⟩,
  ⟨1, 1, 0, [], [], [], []⟩,
  ⟨1, 0, 1, [], [], [], []⟩,
  ⟨1, 0, 0, [0], [], [], []⟩,
  ⟨1, 0, 0, [], [], [0], []⟩,
  ⟨1, 0, 0, [], [], [], List.replicate 1 (0, [])⟩,
  ⟨2, 0, 1, [], [], [], []⟩,
  ⟨2, -1, 0, [], [], [], []⟩,
  ⟨2, 1099511627777, 0, [], [], [], []⟩,
  ⟨2, 0, 0, [], [[]], [], []⟩,
  ⟨2, 0, 0, List.replicate 256 0, [], [], []⟩,
  ⟨3, 1, 0, [], [], [], []⟩,
  ⟨3, 0, -1, [], [], [], []⟩,
  ⟨3, 0, 0, [], [], [-1], []⟩,
  ⟨3, 0, 0, [], [], [1099511627777], []⟩,
  ⟨3, 0, 0, [], [], List.replicate 256 0, []⟩,
  ⟨4, 0, 0, [1], [], [], []⟩,
  ⟨4, 0, 1099511627777, [], [], [], []⟩,
  ⟨4, 0, 0, [], [], [], [(-1, [])]⟩,
  ⟨4, 0, 0, [], [], [], List.replicate 256 (0, [])⟩,
  ⟨4, 0, 0, [], [], [], [(0, List.replicate 256 [])]⟩,
  ⟨1, 0, 0, [], List.replicate 256 [], [], []⟩]
def bigE : List En := [
  ⟨2, 0, 0, List.replicate 255 0, [], [], []⟩,
  ⟨1, 0, 0, [], [List.replicate 256 0], [], []⟩,
  ⟨1, 0, 0, [], [List.replicate 1025 0], [], []⟩,
  ⟨4, 0, 0, [], [], [], List.replicate 255 (0, [])⟩]
def strsE : List (List UInt8) := [[], [0], [5, 0], [1], [1, 0, 0], [1, 1, 0], [2], [2, 0, 0, 1, 0, 0, 0, 0, 1, 0], [2, 0, 0, 0, 0, 0, 0, 0, 1], [3, 128, 0, 0, 0, 0, 0, 0, 0, 0], [4, 0, 0, 0, 0, 0, 0, 0, 0, 1]]
def i64B (n : Int) : Bool := decide (-9223372036854775808 ≤ n ∧ n ≤ 9223372036854775807)
def u64B (n : Int) : Bool := decide (0 ≤ n ∧ n ≤ 18446744073709551615)
def okB (e : En) : Bool := decide (0 ≤ e.k ∧ e.k ≤ 255) && i64B e.id && i64B e.ep && e.x.all i64B && e.coms.all (fun l => l.all u64B) && e.next.all i64B && e.deals.all (fun d => i64B d.1 && d.2.all (fun l => l.all u64B))
def limB (e : En) : Bool := decide (e.x.length ≤ 5000 ∧ e.coms.length ≤ 5000 ∧ e.next.length ≤ 5000 ∧ e.deals.length ≤ 5000) && e.coms.all (fun l => decide (l.length ≤ 5000)) && e.deals.all (fun d => decide (d.2.length ≤ 5000) && d.2.all (fun l => decide (l.length ≤ 5000)))
theorem ok_B {e : En} (h : okB e = true) : e.Ok := by
  simp only [okB, i64B, u64B, Bool.and_eq_true, List.all_eq_true, decide_eq_true_eq] at h
  obtain ⟨⟨⟨⟨⟨⟨h0, h1⟩, h2⟩, h3⟩, h4⟩, h5⟩, h6⟩ := h
  exact ⟨h0.1, h0.2, h1, h2, h3, h4, h5, fun d hd => h6 d hd⟩
theorem lim_B {e : En} (h : limB e = true) : e.Lim := by
  simp only [limB, Bool.and_eq_true, List.all_eq_true, decide_eq_true_eq] at h
  obtain ⟨⟨h0, h1⟩, h2⟩ := h
  exact ⟨h0.1, h0.2.1, h0.2.2.1, h0.2.2.2, h1, fun d hd => (h2 d hd).1, fun d hd => (h2 d hd).2⟩
set_option maxRecDepth 100000 in
theorem bad_all : (badE.all fun e => okB e && limB e && decide (eenc e = ([], 4)) && decide (e.may = false)) = true := by decide +kernel
set_option maxRecDepth 100000 in
theorem big_all : (bigE.all fun e => okB e && limB e && decide (eenc e = ([], 40)) && decide (e.may = false)) = true := by decide +kernel
theorem bad_one {e : En} (h : e ∈ badE) : e.Ok ∧ e.Lim ∧ eenc e = ([], 4) ∧ e.may = false := by
  have := List.all_eq_true.1 bad_all e h
  simp only [Bool.and_eq_true, decide_eq_true_eq] at this
  exact ⟨ok_B this.1.1.1, lim_B this.1.1.2, this.1.2, this.2⟩
theorem big_one {e : En} (h : e ∈ bigE) : e.Ok ∧ e.Lim ∧ eenc e = ([], 40) ∧ e.may = false := by
  have := List.all_eq_true.1 big_all e h
  simp only [Bool.and_eq_true, decide_eq_true_eq] at this
  exact ⟨ok_B this.1.1.1, lim_B this.1.1.2, this.1.2, this.2⟩
def eeB (p q : En × Int) : Bool := decide (p.1.k = q.1.k ∧ p.1.id = q.1.id ∧ p.1.ep = q.1.ep ∧ p.1.x = q.1.x ∧ p.1.coms = q.1.coms ∧ p.1.next = q.1.next ∧ p.1.deals = q.1.deals ∧ p.2 = q.2)
theorem ee_B {p q : En × Int} (h : eeB p q = true) : p = q := by
  obtain ⟨⟨a1, a2, a3, a4, a5, a6, a7⟩, a8⟩ := p
  obtain ⟨⟨b1, b2, b3, b4, b5, b6, b7⟩, b8⟩ := q
  simp only [eeB, decide_eq_true_eq] at h
  obtain ⟨rfl, rfl, rfl, rfl, rfl, rfl, rfl, rfl⟩ := h
  rfl
set_option maxRecDepth 100000 in
theorem strs_all : (strsE.all fun s => eeB (edec s) (En.zero, 4)) = true := by decide +kernel
theorem strs_one {s : List UInt8} (h : s ∈ strsE) : edec s = (En.zero, 4) := ee_B (List.all_eq_true.1 strs_all s h)
theorem dec_over (s : List UInt8) (h : 2048 < s.length) : edec s = (En.zero, 40) := by
  unfold edec
  rw [if_pos h]
def ld0 : En := ⟨1, 0, 0, [], [], [], []⟩
def ld1 : En := ⟨1, 0, 0, [], [[]], [], []⟩
def xE : En := ⟨3, 0, 0, [], [], List.replicate 254 0, []⟩
def yE : En := ⟨1, 0, 0, [], [List.replicate 254 0, [], [], [], [], []], [], []⟩
def yE' : En := ⟨1, 0, 0, [], [List.replicate 254 0, [], [], [], [], [], []], [], []⟩
theorem ld0_enc : eenc ld0 = ([1, 0], 0) := by decide +kernel
theorem ld1_enc : eenc ld1 = ([1, 1, 0, 0], 0) := by decide +kernel
set_option maxRecDepth 100000 in
theorem yE_enc : (eenc yE).2 = 0 ∧ (eenc yE).1.length = 2046 := by decide +kernel
set_option maxRecDepth 100000 in
theorem xE_may : xE.may = true := by decide +kernel
set_option maxRecDepth 100000 in
theorem yE_may : yE'.may = true := by decide +kernel
theorem xy_same : xE.same yE' = false := by decide +kernel
theorem last_ok : okB ld0 = true ∧ okB ld1 = true ∧ okB xE = true ∧ okB yE = true ∧ okB yE' = true := by decide +kernel
theorem last_lim : limB ld0 = true ∧ limB ld1 = true ∧ limB xE = true ∧ limB yE = true ∧ limB yE' = true := by decide +kernel
theorem zero_lim : En.zero.Lim := lim_B (by decide)
end Go.Proofs.Ytdnkijljpmcejaa
