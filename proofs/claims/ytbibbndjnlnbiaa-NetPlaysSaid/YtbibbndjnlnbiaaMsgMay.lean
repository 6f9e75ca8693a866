/-
  msg.names, msg.May: the walks.
-/
import Derived.Test.YtbibbndjnlnbiaaMsgPlain
import Derived.Test.YtbibbndjnlnbiaaBase
namespace Go.Proofs.Ytbibbndjnlnbiaa
open Go.RowKit

/-- What a Kind names. -/
def namesOf (k : Int) : Int :=
  if k = 1 then 769 else if k = 2 then 796 else if k = 3 then 524 else if k = 4 then 524 else if k = 5 then 772 else if k = 6 then 1025 else if k = 7 then 1120 else if k = 8 then 1120 else if k = 9 then 1120 else if k = 10 then 1120 else if k = 11 then 1186 else 0

set_option maxRecDepth 100000 in
set_option maxHeartbeats 1000000 in
theorem names_any (k : Int) (w : World) (hk : 0 ≤ k ∧ k ≤ 255) :
    Calls Try.prog 64 #[.int .u8 k] w fun e w' => e = .returned (.int .i64 (namesOf k)) ∧ Below w.heap.size w w' := by
  by_cases h12 : 12 ≤ k
  · have e0 : namesOf k = 0 := by
      unfold namesOf
      repeat (rw [if_neg (by omega)])
    rw [e0]
    clear e0
    obtain ⟨h0, h1⟩ := hk
    go_enter Try.func64, Try.ntmps64
    go_wp2_with fail
    go_ret
    exact ⟨rfl, ((Below.refl _ w).alloc (Nat.le_refl _) _)⟩
  · have hc : k = 0 ∨ k = 1 ∨ k = 2 ∨ k = 3 ∨ k = 4 ∨ k = 5 ∨ k = 6 ∨ k = 7 ∨ k = 8 ∨ k = 9 ∨ k = 10 ∨ k = 11 := by omega
    clear h12 hk
    rcases hc with rfl | rfl | rfl | rfl | rfl | rfl | rfl | rfl | rfl | rfl | rfl | rfl
    all_goals
      go_enter Try.func64, Try.ntmps64
      go_wp2_with fail
      go_ret
      exact ⟨rfl, ((Below.refl _ w).alloc (Nat.le_refl _) _)⟩

theorem len_empty {α : Type} (l : List α) : ((l.length : Int) == 0) = l.isEmpty := by
  cases l with
  | nil => rfl
  | cons x l =>
    simp only [List.isEmpty_cons, beq_eq_false_iff_ne, List.length_cons]
    omega
/-- Does what is named hold this? -/
def hasB (n what : Int) : Bool := bits BinOp.and IntKind.i64 n what != 0
set_option maxHeartbeats 400000 in
theorem has_any (q : Nat) (n what : Int) (w : World) (h : w.cell? ⟨q, 0, none⟩ = some (.int .i64 n)) :
    Calls Try.prog 65 #[.int .i64 what, .pointer (some ⟨q, 0, none⟩)] w fun e w' => e = .returned (.bool (hasB n what)) ∧ w = w' := by
  go_enter Try.func65, Try.ntmps65
  go_wp2_with fail
  go_ret
  exact ⟨rfl, rfl⟩

theorem win_true (n lo hi : Int) : win true n lo hi = (decide (lo ≤ n) && decide (n ≤ hi)) := by simp [win]
theorem win_false (n lo hi : Int) : win false n lo hi = (n == 0) := by simp [win]
set_option maxHeartbeats 400000 in
theorem within_any (c : Bool) (n lo hi : Int) (w : World) :
    Calls Try.prog 66 #[.bool c, .int .i64 n, .int .i64 lo, .int .i64 hi] w fun e w' => e = .returned (.bool (win c n lo hi)) ∧ w = w' := by
  cases c with
  | true =>
    rw [win_true]
    by_cases h1 : lo ≤ n
    · go_enter Try.func66, Try.ntmps66
      go_wp2_with fail
      all_goals
        go_ret
        exact ⟨ret_bool (by simp [h1]), rfl⟩
    · go_enter Try.func66, Try.ntmps66
      go_wp2_with fail
      go_ret
      exact ⟨ret_bool (by rw [decide_eq_false (by omega : ¬ lo ≤ n)]; rfl), rfl⟩
  | false =>
    rw [win_false]
    go_enter Try.func66, Try.ntmps66
    go_wp2_with fail
    go_ret
    exact ⟨rfl, rfl⟩

/-- What the asks of May read: a message's cells, what its Kind names, the two closures, the least number of a receiver. -/
structure Asks (w : World) (M N H W L : Nat) (m : Mg) (a : Option Addr) (c : Nat) (n least : Int) : Prop where
  pm : Blk w M 32 #[.int .u8 m.k, .int .i64 m.fr, .int .i64 m.to, .int .i64 m.ht, .int .i64 m.rd, .int .i64 m.vl, .int .i64 m.ep, .int .i64 m.dl, .int .i64 m.id, .string ⟨m.s.toArray⟩, .slice a m.l.length c]
  pn : Blk w N 3 #[.int .i64 n]
  ph : Blk w H 75 #[.func (.func 65) #[] #[.pointer (some ⟨N, 0, none⟩)]]
  pw : Blk w W 97 #[.func (.func 66) #[] #[]]
  pl : Blk w L 3 #[.int .i64 least]

theorem quiet_same {P : Program} {f : FuncId} {args : Array Value} {w : World} {n : Nat} {v : Value}
    (h : Calls P f args (w.drewN n) fun e w' => e = .returned v ∧ w.drewN n = w') : Calls P f args (w.drewN n) fun e w'' => e = .returned v ∧ ∃ m, w'' = w.drewN m :=
  h.mono fun _ _ ⟨he, hm⟩ => ⟨he, n, hm.symm⟩
/-- The answer x, and nothing but draws. -/
def AskPost (x : Bool) (w : World) (e : Ending) (w' : World) : Prop := e = .returned (.bool x) ∧ ∃ k, w' = w.drewN k
theorem ask_cell {w : World} {p : Addr} {v : Value} (h : w.cell? p = some v) (n : Nat) : (w.drewN n).cell? p = some v := h

set_option maxHeartbeats 400000 in
theorem ask1 {w : World} {M N H W L : Nat} {m : Mg} {a : Option Addr} {c : Nat} {n least : Int} (A : Asks w M N H W L m a c n least) :
    Calls Try.prog 67 #[.pointer (some ⟨N, 0, none⟩)] w (AskPost (n != 0) w) := by
  have cn : w.cell? ⟨N, 0, none⟩ = some (.int .i64 n) := A.pn.cell 0
  clear A
  go_enter Try.func67, Try.ntmps67
  go_wp2_with fail
  go_ret
  exact ⟨rfl, 0, rfl⟩

set_option maxRecDepth 100000 in
set_option maxHeartbeats 400000 in
theorem ask2 {w : World} {M N H W L : Nat} {m : Mg} {a : Option Addr} {c : Nat} {n least : Int} (A : Asks w M N H W L m a c n least) :
    Calls Try.prog 68 #[.pointer (some ⟨W, 0, none⟩), .pointer (some ⟨H, 0, none⟩), .pointer (some ⟨M, 0, none⟩)] w (AskPost (win (!hasB n 1) m.fr 1 8) w) := by
  have c1 : w.cell? ⟨M, 1, none⟩ = some (.int .i64 m.fr) := A.pm.cell 1
  have ch : w.cell? ⟨H, 0, none⟩ = some (.func (.func 65) #[] #[.pointer (some ⟨N, 0, none⟩)]) := A.ph.cell 0
  have cw : w.cell? ⟨W, 0, none⟩ = some (.func (.func 66) #[] #[]) := A.pw.cell 0
  have cn : w.cell? ⟨N, 0, none⟩ = some (.int .i64 n) := A.pn.cell 0
  have cl : w.cell? ⟨L, 0, none⟩ = some (.int .i64 least) := A.pl.cell 0
  clear A
  go_enter Try.func68, Try.ntmps68
  go_wp2_with fail
  go_quiet ((first | (go_at_call 65; exact quiet_same (has_any N n _ _ (ask_cell cn _))) | (go_at_call 66; exact quiet_same (within_any _ _ _ _ _))))
  go_wp2_with fail
  go_ret
  exact ⟨rfl, _, rfl⟩

set_option maxRecDepth 100000 in
set_option maxHeartbeats 400000 in
theorem ask3 {w : World} {M N H W L : Nat} {m : Mg} {a : Option Addr} {c : Nat} {n least : Int} (A : Asks w M N H W L m a c n least) :
    Calls Try.prog 69 #[.pointer (some ⟨W, 0, none⟩), .pointer (some ⟨H, 0, none⟩), .pointer (some ⟨M, 0, none⟩), .pointer (some ⟨L, 0, none⟩)] w (AskPost (win (!hasB n 2) m.to least 8) w) := by
  have c2 : w.cell? ⟨M, 2, none⟩ = some (.int .i64 m.to) := A.pm.cell 2
  have ch : w.cell? ⟨H, 0, none⟩ = some (.func (.func 65) #[] #[.pointer (some ⟨N, 0, none⟩)]) := A.ph.cell 0
  have cw : w.cell? ⟨W, 0, none⟩ = some (.func (.func 66) #[] #[]) := A.pw.cell 0
  have cn : w.cell? ⟨N, 0, none⟩ = some (.int .i64 n) := A.pn.cell 0
  have cl : w.cell? ⟨L, 0, none⟩ = some (.int .i64 least) := A.pl.cell 0
  clear A
  go_enter Try.func69, Try.ntmps69
  go_wp2_with fail
  go_quiet ((first | (go_at_call 65; exact quiet_same (has_any N n _ _ (ask_cell cn _))) | (go_at_call 66; exact quiet_same (within_any _ _ _ _ _))))
  go_wp2_with fail
  go_ret
  exact ⟨rfl, _, rfl⟩

set_option maxRecDepth 100000 in
set_option maxHeartbeats 400000 in
theorem ask4 {w : World} {M N H W L : Nat} {m : Mg} {a : Option Addr} {c : Nat} {n least : Int} (A : Asks w M N H W L m a c n least) :
    Calls Try.prog 70 #[.pointer (some ⟨W, 0, none⟩), .pointer (some ⟨H, 0, none⟩), .pointer (some ⟨M, 0, none⟩)] w (AskPost (win (hasB n 4) m.ht 1 64) w) := by
  have c3 : w.cell? ⟨M, 3, none⟩ = some (.int .i64 m.ht) := A.pm.cell 3
  have ch : w.cell? ⟨H, 0, none⟩ = some (.func (.func 65) #[] #[.pointer (some ⟨N, 0, none⟩)]) := A.ph.cell 0
  have cw : w.cell? ⟨W, 0, none⟩ = some (.func (.func 66) #[] #[]) := A.pw.cell 0
  have cn : w.cell? ⟨N, 0, none⟩ = some (.int .i64 n) := A.pn.cell 0
  have cl : w.cell? ⟨L, 0, none⟩ = some (.int .i64 least) := A.pl.cell 0
  clear A
  go_enter Try.func70, Try.ntmps70
  go_wp2_with fail
  go_quiet ((first | (go_at_call 65; exact quiet_same (has_any N n _ _ (ask_cell cn _))) | (go_at_call 66; exact quiet_same (within_any _ _ _ _ _))))
  go_wp2_with fail
  go_ret
  exact ⟨rfl, _, rfl⟩

set_option maxRecDepth 100000 in
set_option maxHeartbeats 400000 in
theorem ask5 {w : World} {M N H W L : Nat} {m : Mg} {a : Option Addr} {c : Nat} {n least : Int} (A : Asks w M N H W L m a c n least) :
    Calls Try.prog 71 #[.pointer (some ⟨W, 0, none⟩), .pointer (some ⟨H, 0, none⟩), .pointer (some ⟨M, 0, none⟩)] w (AskPost (win (hasB n 8) m.rd 0 99) w) := by
  have c4 : w.cell? ⟨M, 4, none⟩ = some (.int .i64 m.rd) := A.pm.cell 4
  have ch : w.cell? ⟨H, 0, none⟩ = some (.func (.func 65) #[] #[.pointer (some ⟨N, 0, none⟩)]) := A.ph.cell 0
  have cw : w.cell? ⟨W, 0, none⟩ = some (.func (.func 66) #[] #[]) := A.pw.cell 0
  have cn : w.cell? ⟨N, 0, none⟩ = some (.int .i64 n) := A.pn.cell 0
  have cl : w.cell? ⟨L, 0, none⟩ = some (.int .i64 least) := A.pl.cell 0
  clear A
  go_enter Try.func71, Try.ntmps71
  go_wp2_with fail
  go_quiet ((first | (go_at_call 65; exact quiet_same (has_any N n _ _ (ask_cell cn _))) | (go_at_call 66; exact quiet_same (within_any _ _ _ _ _))))
  go_wp2_with fail
  go_ret
  exact ⟨rfl, _, rfl⟩

set_option maxRecDepth 100000 in
set_option maxHeartbeats 400000 in
theorem ask6 {w : World} {M N H W L : Nat} {m : Mg} {a : Option Addr} {c : Nat} {n least : Int} (A : Asks w M N H W L m a c n least) :
    Calls Try.prog 72 #[.pointer (some ⟨W, 0, none⟩), .pointer (some ⟨H, 0, none⟩), .pointer (some ⟨M, 0, none⟩)] w (AskPost (win (hasB n 16) m.vl (-1) (wrap64 (m.rd - 1))) w) := by
  have c4 : w.cell? ⟨M, 4, none⟩ = some (.int .i64 m.rd) := A.pm.cell 4
  have c5 : w.cell? ⟨M, 5, none⟩ = some (.int .i64 m.vl) := A.pm.cell 5
  have ch : w.cell? ⟨H, 0, none⟩ = some (.func (.func 65) #[] #[.pointer (some ⟨N, 0, none⟩)]) := A.ph.cell 0
  have cw : w.cell? ⟨W, 0, none⟩ = some (.func (.func 66) #[] #[]) := A.pw.cell 0
  have cn : w.cell? ⟨N, 0, none⟩ = some (.int .i64 n) := A.pn.cell 0
  have cl : w.cell? ⟨L, 0, none⟩ = some (.int .i64 least) := A.pl.cell 0
  clear A
  go_enter Try.func72, Try.ntmps72
  go_wp2_with fail
  go_quiet ((first | (go_at_call 65; exact quiet_same (has_any N n _ _ (ask_cell cn _))) | (go_at_call 66; exact quiet_same (within_any _ _ _ _ _))))
  go_wp2_with fail
  go_ret
  exact ⟨rfl, _, rfl⟩

set_option maxRecDepth 100000 in
set_option maxHeartbeats 400000 in
theorem ask7 {w : World} {M N H W L : Nat} {m : Mg} {a : Option Addr} {c : Nat} {n least : Int} (A : Asks w M N H W L m a c n least) :
    Calls Try.prog 73 #[.pointer (some ⟨W, 0, none⟩), .pointer (some ⟨H, 0, none⟩), .pointer (some ⟨M, 0, none⟩)] w (AskPost (win (hasB n 32) m.ep 1 64) w) := by
  have c6 : w.cell? ⟨M, 6, none⟩ = some (.int .i64 m.ep) := A.pm.cell 6
  have ch : w.cell? ⟨H, 0, none⟩ = some (.func (.func 65) #[] #[.pointer (some ⟨N, 0, none⟩)]) := A.ph.cell 0
  have cw : w.cell? ⟨W, 0, none⟩ = some (.func (.func 66) #[] #[]) := A.pw.cell 0
  have cn : w.cell? ⟨N, 0, none⟩ = some (.int .i64 n) := A.pn.cell 0
  have cl : w.cell? ⟨L, 0, none⟩ = some (.int .i64 least) := A.pl.cell 0
  clear A
  go_enter Try.func73, Try.ntmps73
  go_wp2_with fail
  go_quiet ((first | (go_at_call 65; exact quiet_same (has_any N n _ _ (ask_cell cn _))) | (go_at_call 66; exact quiet_same (within_any _ _ _ _ _))))
  go_wp2_with fail
  go_ret
  exact ⟨rfl, _, rfl⟩

set_option maxRecDepth 100000 in
set_option maxHeartbeats 400000 in
theorem ask8 {w : World} {M N H W L : Nat} {m : Mg} {a : Option Addr} {c : Nat} {n least : Int} (A : Asks w M N H W L m a c n least) :
    Calls Try.prog 74 #[.pointer (some ⟨W, 0, none⟩), .pointer (some ⟨H, 0, none⟩), .pointer (some ⟨M, 0, none⟩)] w (AskPost (win (hasB n 64) m.dl 1 7) w) := by
  have c7 : w.cell? ⟨M, 7, none⟩ = some (.int .i64 m.dl) := A.pm.cell 7
  have ch : w.cell? ⟨H, 0, none⟩ = some (.func (.func 65) #[] #[.pointer (some ⟨N, 0, none⟩)]) := A.ph.cell 0
  have cw : w.cell? ⟨W, 0, none⟩ = some (.func (.func 66) #[] #[]) := A.pw.cell 0
  have cn : w.cell? ⟨N, 0, none⟩ = some (.int .i64 n) := A.pn.cell 0
  have cl : w.cell? ⟨L, 0, none⟩ = some (.int .i64 least) := A.pl.cell 0
  clear A
  go_enter Try.func74, Try.ntmps74
  go_wp2_with fail
  go_quiet ((first | (go_at_call 65; exact quiet_same (has_any N n _ _ (ask_cell cn _))) | (go_at_call 66; exact quiet_same (within_any _ _ _ _ _))))
  go_wp2_with fail
  go_ret
  exact ⟨rfl, _, rfl⟩

set_option maxRecDepth 100000 in
set_option maxHeartbeats 400000 in
theorem ask9 {w : World} {M N H W L : Nat} {m : Mg} {a : Option Addr} {c : Nat} {n least : Int} (A : Asks w M N H W L m a c n least) :
    Calls Try.prog 75 #[.pointer (some ⟨W, 0, none⟩), .pointer (some ⟨H, 0, none⟩), .pointer (some ⟨M, 0, none⟩)] w (AskPost (win (hasB n 128) m.id 1 1099511627776) w) := by
  have c8 : w.cell? ⟨M, 8, none⟩ = some (.int .i64 m.id) := A.pm.cell 8
  have ch : w.cell? ⟨H, 0, none⟩ = some (.func (.func 65) #[] #[.pointer (some ⟨N, 0, none⟩)]) := A.ph.cell 0
  have cw : w.cell? ⟨W, 0, none⟩ = some (.func (.func 66) #[] #[]) := A.pw.cell 0
  have cn : w.cell? ⟨N, 0, none⟩ = some (.int .i64 n) := A.pn.cell 0
  have cl : w.cell? ⟨L, 0, none⟩ = some (.int .i64 least) := A.pl.cell 0
  clear A
  go_enter Try.func75, Try.ntmps75
  go_wp2_with fail
  go_quiet ((first | (go_at_call 65; exact quiet_same (has_any N n _ _ (ask_cell cn _))) | (go_at_call 66; exact quiet_same (within_any _ _ _ _ _))))
  go_wp2_with fail
  go_ret
  exact ⟨rfl, _, rfl⟩

set_option maxRecDepth 100000 in
set_option maxHeartbeats 400000 in
theorem ask10 {w : World} {M N H W L : Nat} {m : Mg} {a : Option Addr} {c : Nat} {n least : Int} (A : Asks w M N H W L m a c n least) :
    Calls Try.prog 76 #[.pointer (some ⟨H, 0, none⟩), .pointer (some ⟨M, 0, none⟩)] w (AskPost ((hasB n 512 || m.s.isEmpty) && (!hasB n 256 || !m.s.isEmpty)) w) := by
  have c9 : w.cell? ⟨M, 9, none⟩ = some (.string ⟨m.s.toArray⟩) := A.pm.cell 9
  have ch : w.cell? ⟨H, 0, none⟩ = some (.func (.func 65) #[] #[.pointer (some ⟨N, 0, none⟩)]) := A.ph.cell 0
  have cn : w.cell? ⟨N, 0, none⟩ = some (.int .i64 n) := A.pn.cell 0
  clear A
  go_enter Try.func76, Try.ntmps76
  go_wp2_with fail
  go_wp2_with ((go_at_call 65; (with_reducible refine (has_any N n _ _ cn).mono ?_); rintro e w' ⟨rfl, rfl⟩))
  all_goals
    go_ret
    exact ⟨ret_bool (by simp [*]), 0, rfl⟩

set_option maxRecDepth 100000 in
set_option maxHeartbeats 400000 in
theorem ask11 {w : World} {M N H W L : Nat} {m : Mg} {a : Option Addr} {c : Nat} {n least : Int} (A : Asks w M N H W L m a c n least) :
    Calls Try.prog 77 #[.pointer (some ⟨H, 0, none⟩), .pointer (some ⟨M, 0, none⟩)] w (AskPost (hasB n 1024 || m.l.isEmpty) w) := by
  have c10 : w.cell? ⟨M, 10, none⟩ = some (.slice a m.l.length c) := A.pm.cell 10
  have ch : w.cell? ⟨H, 0, none⟩ = some (.func (.func 65) #[] #[.pointer (some ⟨N, 0, none⟩)]) := A.ph.cell 0
  have cn : w.cell? ⟨N, 0, none⟩ = some (.int .i64 n) := A.pn.cell 0
  clear A
  go_enter Try.func77, Try.ntmps77
  go_wp2_with fail
  go_wp2_with ((go_at_call 65; (with_reducible refine (has_any N n _ _ cn).mono ?_); rintro e w' ⟨rfl, rfl⟩))
  all_goals
    go_ret
    exact ⟨ret_bool (by simp [*, len_empty]), 0, rfl⟩

set_option maxRecDepth 100000 in
set_option maxHeartbeats 400000 in
theorem ask12 {w : World} {M N H W L : Nat} {m : Mg} {a : Option Addr} {c : Nat} {n least : Int} (A : Asks w M N H W L m a c n least) :
    Calls Try.prog 78 #[.pointer (some ⟨M, 0, none⟩)] w (AskPost (decide (m.s.length ≤ 2048) && decide (m.l.length ≤ 1024)) w) := by
  have c9 : w.cell? ⟨M, 9, none⟩ = some (.string ⟨m.s.toArray⟩) := A.pm.cell 9
  have c10 : w.cell? ⟨M, 10, none⟩ = some (.slice a m.l.length c) := A.pm.cell 10
  clear A
  go_enter Try.func78, Try.ntmps78
  go_wp2_with fail
  go_wp2_with fail
  all_goals
    go_ret
    exact ⟨ret_bool (by rw [Bool.eq_iff_iff]; simp; omega), 0, rfl⟩
end Go.Proofs.Ytbibbndjnlnbiaa
