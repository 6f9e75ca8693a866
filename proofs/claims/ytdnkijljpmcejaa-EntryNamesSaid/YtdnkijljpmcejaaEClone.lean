/-
  slices.Clone of numbers: the same ones in a block of their own.
-/
import Derived.Test.YtdnkijljpmcejaaERRows
import Derived.Test.YtdnkijljpmcejaaERCopy
import Derived.Lib.SliceRun
namespace Go.Proofs.Ytdnkijljpmcejaa
open Go.RowKit

/-- The numbers, in a block of their own. -/
def ClPost (k : IntKind) (t : TypeId) (l : List Int) (w : World) (r : Ending) (w' : World) : Prop :=
  ∃ a c, r = .returned (.slice a l.length c) ∧ Row k t w.heap.size w'.heap.size w' a l ∧ Below w.heap.size w w'
theorem one_num (k : IntKind) (l : List Int) : ∀ u ∈ l.map (Value.int k), u.oneCell' = true := by
  intro u hu
  obtain ⟨x, _, rfl⟩ := List.mem_map.1 hu
  rfl

theorem eqn_i64 (a : Option Addr) (n c : Nat) (w : World) : (binOp .eql 51 (.slice a n c) (.slice none 0 0)).run Try.prog w = .ok (.bool a.isNone) w := Go.Lib.run_eql_slice_nil w _ _ a n c 0 0 Try.underlying51
attribute [go_sem] eqn_i64
set_option maxRecDepth 100000 in
set_option maxHeartbeats 1000000 in
theorem clone_i64 (a : Option Addr) (c : Nat) (l : List Int) (w : World) (hn : Nums .i64 w w.heap.size a l) (hl : l.length ≤ 5000) :
    Calls Try.prog 67 #[.slice a l.length c] w (ClPost .i64 2 l w) := by
  obtain ⟨i0, hi, hz0, hz1, hz2⟩ := info_parts infoI64
  cases a with
  | none =>
    have h0 : l = [] := by
      rcases hn with h | ⟨b, o, h, _⟩
      · exact h
      · cases h
    subst h0
    clear hn hl
    go_enter Try.func67, Try.ntmps67
    go_wp2_with fail
    go_ret
    exact ⟨none, 0, rfl, .inl rfl, Below.refl _ _⟩
  | some p =>
    have own0 : (w.alloc (.cells #[] 2)).ownsRow w.heap.size 2 1 (.slice (some ⟨w.heap.size, 0, none⟩) 0 0) 0 [] := World.ownsRow_made w #[] 0 (Nat.le_refl _) (Nat.zero_le _) (by simp)
    have HN := Lib.hid (nums_news (hn.step ((Below.refl _ w).alloc (Nat.le_refl _) (.cells #[] 2))))
    have HO := Lib.hid own0
    have HU := Lib.hid (And.intro (show (l.map (Value.int .i64)).length = l.length * 1 by simp) (one_num .i64 l))
    clear hn own0
    go_enter Try.func67, Try.ntmps67
    go_wp2_with (at_builtin; refine wpList_append_gen _ rfl (.tmp 5) (.tmp 6) 51 rfl w.heap.size 2 i0 (.int .i64 0) 1 8 Try.underlying51 hi hz0 hz1 hz2 rfl (by decide) (.slice (some ⟨w.heap.size, 0, none⟩) 0 0) 0 [] rfl HO.out (own_some _ _ _) (some p) l.length c (l.map (.int .i64)) rfl HU.out.1 HN.out HU.out.2 (by simp [maxLen]; omega) (by omega) (by simp) ?_; intro q cap w1 own1 g1 _; rw [Nat.zero_add, List.nil_append] at own1; have K1 := Lib.hid (And.intro (Row.of_own own1) (below_new (Below.refl _ w) (Nat.le_refl _) g1 (Nat.le_refl _))); clear own1 g1)
    go_ret
    exact ⟨_, cap, rfl, K1.out.1, K1.out.2⟩
theorem eqn_int (a : Option Addr) (n c : Nat) (w : World) : (binOp .eql 40 (.slice a n c) (.slice none 0 0)).run Try.prog w = .ok (.bool a.isNone) w := Go.Lib.run_eql_slice_nil w _ _ a n c 0 0 Try.underlying40
attribute [go_sem] eqn_int
set_option maxRecDepth 100000 in
set_option maxHeartbeats 1000000 in
theorem clone_int (a : Option Addr) (c : Nat) (l : List Int) (w : World) (hn : Nums .i64 w w.heap.size a l) (hl : l.length ≤ 5000) :
    Calls Try.prog 68 #[.slice a l.length c] w (ClPost .i64 3 l w) := by
  obtain ⟨i0, hi, hz0, hz1, hz2⟩ := info_parts infoInt
  cases a with
  | none =>
    have h0 : l = [] := by
      rcases hn with h | ⟨b, o, h, _⟩
      · exact h
      · cases h
    subst h0
    clear hn hl
    go_enter Try.func68, Try.ntmps68
    go_wp2_with fail
    go_ret
    exact ⟨none, 0, rfl, .inl rfl, Below.refl _ _⟩
  | some p =>
    have own0 : (w.alloc (.cells #[] 3)).ownsRow w.heap.size 3 1 (.slice (some ⟨w.heap.size, 0, none⟩) 0 0) 0 [] := World.ownsRow_made w #[] 0 (Nat.le_refl _) (Nat.zero_le _) (by simp)
    have HN := Lib.hid (nums_news (hn.step ((Below.refl _ w).alloc (Nat.le_refl _) (.cells #[] 3))))
    have HO := Lib.hid own0
    have HU := Lib.hid (And.intro (show (l.map (Value.int .i64)).length = l.length * 1 by simp) (one_num .i64 l))
    clear hn own0
    go_enter Try.func68, Try.ntmps68
    go_wp2_with (at_builtin; refine wpList_append_gen _ rfl (.tmp 5) (.tmp 6) 40 rfl w.heap.size 3 i0 (.int .i64 0) 1 8 Try.underlying40 hi hz0 hz1 hz2 rfl (by decide) (.slice (some ⟨w.heap.size, 0, none⟩) 0 0) 0 [] rfl HO.out (own_some _ _ _) (some p) l.length c (l.map (.int .i64)) rfl HU.out.1 HN.out HU.out.2 (by simp [maxLen]; omega) (by omega) (by simp) ?_; intro q cap w1 own1 g1 _; rw [Nat.zero_add, List.nil_append] at own1; have K1 := Lib.hid (And.intro (Row.of_own own1) (below_new (Below.refl _ w) (Nat.le_refl _) g1 (Nat.le_refl _))); clear own1 g1)
    go_ret
    exact ⟨_, cap, rfl, K1.out.1, K1.out.2⟩
theorem eqn_u64 (a : Option Addr) (n c : Nat) (w : World) : (binOp .eql 23 (.slice a n c) (.slice none 0 0)).run Try.prog w = .ok (.bool a.isNone) w := Go.Lib.run_eql_slice_nil w _ _ a n c 0 0 Try.underlying23
attribute [go_sem] eqn_u64
set_option maxRecDepth 100000 in
set_option maxHeartbeats 1000000 in
theorem clone_u64 (a : Option Addr) (c : Nat) (l : List Int) (w : World) (hn : Nums .u64 w w.heap.size a l) (hl : l.length ≤ 5000) :
    Calls Try.prog 70 #[.slice a l.length c] w (ClPost .u64 22 l w) := by
  obtain ⟨i0, hi, hz0, hz1, hz2⟩ := info_parts info64
  cases a with
  | none =>
    have h0 : l = [] := by
      rcases hn with h | ⟨b, o, h, _⟩
      · exact h
      · cases h
    subst h0
    clear hn hl
    go_enter Try.func70, Try.ntmps70
    go_wp2_with fail
    go_ret
    exact ⟨none, 0, rfl, .inl rfl, Below.refl _ _⟩
  | some p =>
    have own0 : (w.alloc (.cells #[] 22)).ownsRow w.heap.size 22 1 (.slice (some ⟨w.heap.size, 0, none⟩) 0 0) 0 [] := World.ownsRow_made w #[] 0 (Nat.le_refl _) (Nat.zero_le _) (by simp)
    have HN := Lib.hid (nums_news (hn.step ((Below.refl _ w).alloc (Nat.le_refl _) (.cells #[] 22))))
    have HO := Lib.hid own0
    have HU := Lib.hid (And.intro (show (l.map (Value.int .u64)).length = l.length * 1 by simp) (one_num .u64 l))
    clear hn own0
    go_enter Try.func70, Try.ntmps70
    go_wp2_with (at_builtin; refine wpList_append_gen _ rfl (.tmp 5) (.tmp 6) 23 rfl w.heap.size 22 i0 (.int .u64 0) 1 8 Try.underlying23 hi hz0 hz1 hz2 rfl (by decide) (.slice (some ⟨w.heap.size, 0, none⟩) 0 0) 0 [] rfl HO.out (own_some _ _ _) (some p) l.length c (l.map (.int .u64)) rfl HU.out.1 HN.out HU.out.2 (by simp [maxLen]; omega) (by omega) (by simp) ?_; intro q cap w1 own1 g1 _; rw [Nat.zero_add, List.nil_append] at own1; have K1 := Lib.hid (And.intro (Row.of_own own1) (below_new (Below.refl _ w) (Nat.le_refl _) g1 (Nat.le_refl _))); clear own1 g1)
    go_ret
    exact ⟨_, cap, rfl, K1.out.1, K1.out.2⟩
end Go.Proofs.Ytdnkijljpmcejaa
