/-
  wire.Reader: Open, Byte, Num, Int, Count, Text, Left, End, Wrong: each answers as the plain reader does.
-/
import Derived.Test.YtdnkijljpmcejaaRdBool
import Derived.Test.YtdnkijljpmcejaaRdByte

import Derived.Test.YtdnkijljpmcejaaRdInt
import Derived.Test.YtdnkijljpmcejaaRdCount

namespace Go.Proofs.Ytdnkijljpmcejaa
open Go.RowKit

theorem open_any (l : List UInt8) (w : World) :
    Calls Try.prog 28 #[.string ⟨l.toArray⟩] w fun e w' => e = .returned (.pointer (some ⟨w.heap.size, 0, none⟩)) ∧ RdAt w.heap.size ⟨l, 0⟩ w' ∧ Below w.heap.size w w' := by
  have B := Blk.new w 100 #[.string ⟨l.toArray⟩, .int .i64 0]
  have HB := Lib.hid B
  clear B
  go_enter Try.func28, Try.ntmps28
  go_wp2_with fail
  go_ret
  exact ⟨rfl, HB.out, (Below.refl _ w).alloc (Nat.le_refl _) _⟩

theorem left_any (b : Nat) (st : RS) (w : World) (hb : RdAt b st w) :
    Calls Try.prog 30 #[.pointer (some ⟨b, 0, none⟩)] w fun e w' => e = .returned (.int .i64 st.r.length) ∧ w = w' := by
  have hc : w.cell? ⟨b, 0, none⟩ = some (.string ⟨st.r.toArray⟩) := hb.cell 0
  go_enter Try.func30, Try.ntmps30
  go_wp2_with fail
  go_ret
  exact ⟨rfl, rfl⟩
theorem left_nil (w : World) :
    Calls Try.prog 30 #[.pointer none] w fun e w' => e = .returned (.int .i64 0) ∧ w = w' := by
  go_enter Try.func30, Try.ntmps30
  go_wp2_with fail
  go_ret
  exact ⟨rfl, rfl⟩
theorem wrong_any (b : Nat) (st : RS) (w : World) (hb : RdAt b st w) :
    Calls Try.prog 46 #[.pointer (some ⟨b, 0, none⟩)] w fun e w' => e = .returned (.int .i64 st.e) ∧ w = w' := by
  have hc : w.cell? ⟨b, 1, none⟩ = some (.int .i64 st.e) := hb.cell 1
  go_enter Try.func46, Try.ntmps46
  go_wp2_with fail
  go_ret
  exact ⟨rfl, rfl⟩
theorem wrong_nil (w : World) :
    Calls Try.prog 46 #[.pointer none] w fun e w' => e = .returned (.int .i64 2) ∧ w = w' := by
  go_enter Try.func46, Try.ntmps46
  go_wp2_with fail
  go_ret
  exact ⟨rfl, rfl⟩

/-! Byte -/
theorem byte_body_ok (q : Nat) (r : List UInt8) (w : World) (hq : PartAt q r w) (hr : 1 ≤ r.length) :
    Calls Try.prog 93 #[.pointer (some ⟨q, 0, none⟩)] w fun f w' => f = .returned (.int .u8 (val (r.take 1) : Nat)) ∧ PartAt q (r.drop 1) w' ∧ Only w w' q := by
  have hv := val_lt (r.take 1)
  rw [List.length_take_of_le hr] at hv
  have hv1 : val (r.take 1) ≤ 255 := by have : (256 : Nat) ^ 1 = 256 := by decide
                                        omega
  clear hv
  go_enter Try.func93, Try.ntmps93
  go_wp2_with fail
  refine (number_ok q r 1 w hq hr (by omega)).mono ?_
  rintro e w1 ⟨rfl, hp1, o1⟩
  go_wp2_with fail
  go_ret
  exact ⟨rfl, hp1, o1⟩
theorem byte_body_no (q : Nat) (r : List UInt8) (w : World) (hq : PartAt q r w) (hr : r.length < 1) :
    Calls Try.prog 93 #[.pointer (some ⟨q, 0, none⟩)] w fun f w' => f = .panicked [lack 8] ∧ Only w w' q := by
  go_enter Try.func93, Try.ntmps93
  go_wp2_with fail
  refine (number_no q r 1 w hq hr).mono ?_
  rintro e w1 ⟨rfl, rfl⟩
  go_wp2_with fail
  exact ⟨rfl, rfl, Only.refl _ _⟩

/-- Whatever a reader's call hands back of a plain reader's answer. -/
theorem Byte_any (b : Nat) (st : RS) (w : World) (hb : RdAt b st w) :
    Calls Try.prog 40 #[.pointer (some ⟨b, 0, none⟩)] w fun e w' => e = .returned (.tuple #[.int .u8 (st.num 1).1, .int .i64 (st.num 1).2.e]) ∧ RdAt b (st.num 1).2 w' ∧ Only w w' b := by
  have key : Calls Try.prog 92 #[.pointer (some ⟨b, 0, none⟩), .func (.func 93) #[] #[]] w fun e w' => e = .returned (.tuple #[.int .u8 (st.num 1).1, .int .i64 (st.num 1).2.e]) ∧ RdAt b (st.num 1).2 w' ∧ Only w w' b := by
    obtain ⟨r, e⟩ := st
    unfold RS.num
    by_cases he : e = 0
    · subst he
      by_cases hr : r.length < 1
      · simp only [ne_eq, not_true, if_false, hr, if_true]
        exact read_byte_no b r 8 w hb fun q w' hq _ => byte_body_no q r w' hq hr
      · simp only [ne_eq, not_true, if_false, hr]
        exact read_byte_ok b r (r.drop 1) _ w hb fun q w' hq _ => byte_body_ok q r w' hq (by omega)
    · simp only [ne_eq, he, not_false_eq_true, if_true]
      exact read_byte_was b ⟨r, e⟩ w hb he
  have hmf : ∀ (fn : Fn) (first cap : Array Value) (w : World), (Instr.makeFunc fn first cap).run Try.prog w = .ok (.func fn first cap) w := fun _ _ _ _ => rfl
  have K := Lib.hid key
  clear key
  go_enter Try.func40, Try.ntmps40
  go_wp2_with fail
  refine Calls.mono K.out ?_
  rintro e w1 ⟨rfl, h1, o1⟩
  go_wp2_with fail
  go_ret2
  exact ⟨rfl, h1, o1⟩

/-! Num -/
/-! Int -/
theorem int_body_ok (q : Nat) (r : List UInt8) (w : World) (hq : PartAt q r w) (hr : 8 ≤ r.length) :
    Calls Try.prog 98 #[.pointer (some ⟨q, 0, none⟩)] w fun f w' => f = .returned (.int .i64 (wrap64 (val (r.take 8) : Nat))) ∧ PartAt q (r.drop 8) w' ∧ Only w w' q := by
  go_enter Try.func98, Try.ntmps98
  go_wp2_with fail
  refine (number_ok q r 8 w hq hr (by omega)).mono ?_
  rintro e w1 ⟨rfl, hp1, o1⟩
  go_wp2_with fail
  go_ret
  exact ⟨rfl, hp1, o1⟩
theorem int_body_no (q : Nat) (r : List UInt8) (w : World) (hq : PartAt q r w) (hr : r.length < 8) :
    Calls Try.prog 98 #[.pointer (some ⟨q, 0, none⟩)] w fun f w' => f = .panicked [lack 8] ∧ Only w w' q := by
  go_enter Try.func98, Try.ntmps98
  go_wp2_with fail
  refine (number_no q r 8 w hq hr).mono ?_
  rintro e w1 ⟨rfl, rfl⟩
  go_wp2_with fail
  exact ⟨rfl, rfl, Only.refl _ _⟩
theorem Int_any (b : Nat) (st : RS) (w : World) (hb : RdAt b st w) :
    Calls Try.prog 42 #[.pointer (some ⟨b, 0, none⟩)] w fun e w' => e = .returned (.tuple #[.int .i64 (wrap64 (st.num 8).1), .int .i64 (st.num 8).2.e]) ∧ RdAt b (st.num 8).2 w' ∧ Only w w' b := by
  have key : Calls Try.prog 97 #[.pointer (some ⟨b, 0, none⟩), .func (.func 98) #[] #[]] w fun e w' => e = .returned (.tuple #[.int .i64 (wrap64 (st.num 8).1), .int .i64 (st.num 8).2.e]) ∧ RdAt b (st.num 8).2 w' ∧ Only w w' b := by
    have wz : wrap64 0 = 0 := IntWalk.wrap64_in 0 (by omega)
    obtain ⟨r, e⟩ := st
    unfold RS.num
    by_cases he : e = 0
    · subst he
      by_cases hr : r.length < 8
      · simp only [ne_eq, not_true, if_false, hr, if_true, wz]
        exact read_int_no b r 8 w hb fun q w' hq _ => int_body_no q r w' hq hr
      · simp only [ne_eq, not_true, if_false, hr]
        exact read_int_ok b r (r.drop 8) _ w hb fun q w' hq _ => int_body_ok q r w' hq (by omega)
    · simp only [ne_eq, he, not_false_eq_true, if_true, wz]
      exact read_int_was b ⟨r, e⟩ w hb he
  have hmf : ∀ (fn : Fn) (first cap : Array Value) (w : World), (Instr.makeFunc fn first cap).run Try.prog w = .ok (.func fn first cap) w := fun _ _ _ _ => rfl
  have K := Lib.hid key
  clear key
  go_enter Try.func42, Try.ntmps42
  go_wp2_with fail
  refine Calls.mono K.out ?_
  rintro e w1 ⟨rfl, h1, o1⟩
  go_wp2_with fail
  go_ret2
  exact ⟨rfl, h1, o1⟩

theorem Byte_nil (w : World) :
    Calls Try.prog 40 #[.pointer none] w fun e w' => e = .returned (.tuple #[.int .u8 0, .int .i64 2]) ∧ Below w.heap.size w w' := by
  have hmf : ∀ (fn : Fn) (first cap : Array Value) (w : World), (Instr.makeFunc fn first cap).run Try.prog w = .ok (.func fn first cap) w := fun _ _ _ _ => rfl
  go_enter Try.func40, Try.ntmps40
  go_wp2_with fail
  refine (read_byte_nil w).mono ?_
  rintro e w1 ⟨rfl, b1⟩
  go_wp2_with fail
  go_ret2
  exact ⟨rfl, b1⟩

theorem Int_nil (w : World) :
    Calls Try.prog 42 #[.pointer none] w fun e w' => e = .returned (.tuple #[.int .i64 0, .int .i64 2]) ∧ Below w.heap.size w w' := by
  have hmf : ∀ (fn : Fn) (first cap : Array Value) (w : World), (Instr.makeFunc fn first cap).run Try.prog w = .ok (.func fn first cap) w := fun _ _ _ _ => rfl
  go_enter Try.func42, Try.ntmps42
  go_wp2_with fail
  refine (read_int_nil w).mono ?_
  rintro e w1 ⟨rfl, b1⟩
  go_wp2_with fail
  go_ret2
  exact ⟨rfl, b1⟩

/-! End -/
theorem end_body_ok (q : Nat) (w : World) (hq : PartAt q [] w) :
    Calls Try.prog 64 #[.pointer (some ⟨q, 0, none⟩)] w fun f w' => f = .returned (.bool true) ∧ PartAt q [] w' ∧ Only w w' q := by
  have hc : w.cell? ⟨q, 0, none⟩ = some (.string ⟨#[]⟩) := hq.cell 0
  go_enter Try.func64, Try.ntmps64
  go_wp2_with fail
  refine (need_ok 10 w).mono ?_
  rintro e w1 ⟨rfl, rfl⟩
  go_wp2_with fail
  go_ret
  exact ⟨rfl, hq, Only.refl _ _⟩
theorem end_body_no (q : Nat) (r : List UInt8) (w : World) (hq : PartAt q r w) (hr : r ≠ []) :
    Calls Try.prog 64 #[.pointer (some ⟨q, 0, none⟩)] w fun f w' => f = .panicked [lack 10] ∧ Only w w' q := by
  have hc : w.cell? ⟨q, 0, none⟩ = some (.string ⟨r.toArray⟩) := hq.cell 0
  have hd : r.isEmpty = false := by simpa using hr
  go_enter Try.func64, Try.ntmps64
  go_wp2_with fail
  refine (need_no 10 w).mono ?_
  rintro e w1 ⟨rfl, rfl⟩
  go_wp2_with fail
  exact ⟨rfl, rfl, Only.refl _ _⟩
theorem end_any (b : Nat) (st : RS) (w : World) (hb : RdAt b st w) :
    Calls Try.prog 32 #[.pointer (some ⟨b, 0, none⟩)] w fun e w' => e = .returned (.int .i64 st.fin.e) ∧ RdAt b st.fin w' ∧ Only w w' b := by
  have key : Calls Try.prog 63 #[.pointer (some ⟨b, 0, none⟩), .func (.func 64) #[] #[]] w fun e w' => ∃ x, e = .returned (.tuple #[.bool x, .int .i64 st.fin.e]) ∧ RdAt b st.fin w' ∧ Only w w' b := by
    obtain ⟨r, e⟩ := st
    unfold RS.fin
    by_cases he : e = 0
    · subst he
      by_cases hr : r = []
      · subst hr
        simp only [ne_eq, not_true, if_false, if_true]
        exact (read_bool_ok b [] [] true w hb fun q w' hq _ => end_body_ok q w' hq).mono fun e w' h => ⟨true, h⟩
      · simp only [ne_eq, not_true, if_false, hr]
        exact (read_bool_no b r 10 w hb fun q w' hq _ => end_body_no q r w' hq hr).mono fun e w' h => ⟨false, h⟩
    · simp only [ne_eq, he, not_false_eq_true, if_true]
      exact (read_bool_was b ⟨r, e⟩ w hb he).mono fun e w' h => ⟨false, h⟩
  have hmf : ∀ (fn : Fn) (first cap : Array Value) (w : World), (Instr.makeFunc fn first cap).run Try.prog w = .ok (.func fn first cap) w := fun _ _ _ _ => rfl
  have K := Lib.hid key
  clear key
  go_enter Try.func32, Try.ntmps32
  go_wp2_with fail
  refine Calls.mono K.out ?_
  rintro e w1 ⟨x, rfl, h1, o1⟩
  go_wp2_with fail
  go_ret
  exact ⟨rfl, h1, o1⟩
theorem end_nil (w : World) :
    Calls Try.prog 32 #[.pointer none] w fun e w' => e = .returned (.int .i64 2) ∧ Below w.heap.size w w' := by
  have hmf : ∀ (fn : Fn) (first cap : Array Value) (w : World), (Instr.makeFunc fn first cap).run Try.prog w = .ok (.func fn first cap) w := fun _ _ _ _ => rfl
  go_enter Try.func32, Try.ntmps32
  go_wp2_with fail
  refine (read_bool_nil w).mono ?_
  rintro e w1 ⟨rfl, b1⟩
  go_wp2_with fail
  go_ret
  exact ⟨rfl, b1⟩

/-! Text -/
end Go.Proofs.Ytdnkijljpmcejaa
