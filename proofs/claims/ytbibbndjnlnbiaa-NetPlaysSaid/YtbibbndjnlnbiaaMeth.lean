/-
  wire.Reader: Open, Byte, Num, Int, Count, Text, Left, End, Wrong: each answers as the plain reader does.
-/
import Derived.Test.YtbibbndjnlnbiaaRdM


namespace Go.Proofs.Ytbibbndjnlnbiaa
open Go.RowKit

theorem open_any (l : List UInt8) (w : World) :
    Calls Try.prog 58 #[.string ⟨l.toArray⟩] w fun e w' => e = .returned (.pointer (some ⟨w.heap.size, 0, none⟩)) ∧ RdAt w.heap.size ⟨l, 0⟩ w' ∧ Below w.heap.size w w' := by
  have B := Blk.new w 117 #[.string ⟨l.toArray⟩, .int .i64 0]
  have HB := Lib.hid B
  clear B
  go_enter Try.func58, Try.ntmps58
  go_wp2_with fail
  go_ret
  exact ⟨rfl, HB.out, (Below.refl _ w).alloc (Nat.le_refl _) _⟩

/-! Byte -/
theorem byte_body_ok (q : Nat) (r : List UInt8) (w : World) (hq : PartAt q r w) (hr : 1 ≤ r.length) :
    Calls Try.prog 100 #[.pointer (some ⟨q, 0, none⟩)] w fun f w' => f = .returned (.int .u8 (val (r.take 1) : Nat)) ∧ PartAt q (r.drop 1) w' ∧ Only w w' q := by
  have hv := val_lt (r.take 1)
  rw [List.length_take_of_le hr] at hv
  have hv1 : val (r.take 1) ≤ 255 := by have : (256 : Nat) ^ 1 = 256 := by decide
                                        omega
  clear hv
  go_enter Try.func100, Try.ntmps100
  go_wp2_with fail
  refine (number_ok q r 1 w hq hr (by omega)).mono ?_
  rintro e w1 ⟨rfl, hp1, o1⟩
  go_wp2_with fail
  go_ret
  exact ⟨rfl, hp1, o1⟩
theorem byte_body_no (q : Nat) (r : List UInt8) (w : World) (hq : PartAt q r w) (hr : r.length < 1) :
    Calls Try.prog 100 #[.pointer (some ⟨q, 0, none⟩)] w fun f w' => f = .panicked [lack 8] ∧ Only w w' q := by
  go_enter Try.func100, Try.ntmps100
  go_wp2_with fail
  refine (number_no q r 1 w hq hr).mono ?_
  rintro e w1 ⟨rfl, rfl⟩
  go_wp2_with fail
  exact ⟨rfl, rfl, Only.refl _ _⟩

/-- Whatever a reader's call hands back of a plain reader's answer. -/
theorem Byte_any (b : Nat) (st : RS) (w : World) (hb : RdAt b st w) :
    Calls Try.prog 59 #[.pointer (some ⟨b, 0, none⟩)] w fun e w' => e = .returned (.tuple #[.int .u8 (st.num 1).1, .int .i64 (st.num 1).2.e]) ∧ RdAt b (st.num 1).2 w' ∧ Only w w' b := by
  have key : Calls Try.prog 99 #[.pointer (some ⟨b, 0, none⟩), .func (.func 100) #[] #[]] w fun e w' => e = .returned (.tuple #[.int .u8 (st.num 1).1, .int .i64 (st.num 1).2.e]) ∧ RdAt b (st.num 1).2 w' ∧ Only w w' b := by
    obtain ⟨r, e⟩ := st
    unfold RS.num
    by_cases he : e = 0
    · subst he
      by_cases hr : r.length < 1
      · simp only [ne_eq, not_true, if_false, hr, if_true]
        exact read_byte_no b r 8 w hb fun q w' hq _ => byte_body_no q r w' hq hr
      · simp only [ne_eq, not_true, if_false, hr]
        exact read_byte_ok b r (r.drop 1) _ w hb fun q w' hq _ => byte_body_ok q r w' hq (by omega)
    · simp only [ne_eq, he, not_false_eq_true, if_true]
      exact read_byte_was b ⟨r, e⟩ w hb he
  have hmf : ∀ (fn : Fn) (first cap : Array Value) (w : World), (Instr.makeFunc fn first cap).run Try.prog w = .ok (.func fn first cap) w := fun _ _ _ _ => rfl
  have K := Lib.hid key
  clear key
  go_enter Try.func59, Try.ntmps59
  go_wp2_with fail
  refine Calls.mono K.out ?_
  rintro e w1 ⟨rfl, h1, o1⟩
  go_wp2_with fail
  go_ret2
  exact ⟨rfl, h1, o1⟩

/-! Num -/
/-! Int -/
theorem int_body_ok (q : Nat) (r : List UInt8) (w : World) (hq : PartAt q r w) (hr : 8 ≤ r.length) :
    Calls Try.prog 103 #[.pointer (some ⟨q, 0, none⟩)] w fun f w' => f = .returned (.int .i64 (wrap64 (val (r.take 8) : Nat))) ∧ PartAt q (r.drop 8) w' ∧ Only w w' q := by
  go_enter Try.func103, Try.ntmps103
  go_wp2_with fail
  refine (number_ok q r 8 w hq hr (by omega)).mono ?_
  rintro e w1 ⟨rfl, hp1, o1⟩
  go_wp2_with fail
  go_ret
  exact ⟨rfl, hp1, o1⟩
theorem int_body_no (q : Nat) (r : List UInt8) (w : World) (hq : PartAt q r w) (hr : r.length < 8) :
    Calls Try.prog 103 #[.pointer (some ⟨q, 0, none⟩)] w fun f w' => f = .panicked [lack 8] ∧ Only w w' q := by
  go_enter Try.func103, Try.ntmps103
  go_wp2_with fail
  refine (number_no q r 8 w hq hr).mono ?_
  rintro e w1 ⟨rfl, rfl⟩
  go_wp2_with fail
  exact ⟨rfl, rfl, Only.refl _ _⟩
theorem Int_any (b : Nat) (st : RS) (w : World) (hb : RdAt b st w) :
    Calls Try.prog 60 #[.pointer (some ⟨b, 0, none⟩)] w fun e w' => e = .returned (.tuple #[.int .i64 (wrap64 (st.num 8).1), .int .i64 (st.num 8).2.e]) ∧ RdAt b (st.num 8).2 w' ∧ Only w w' b := by
  have key : Calls Try.prog 102 #[.pointer (some ⟨b, 0, none⟩), .func (.func 103) #[] #[]] w fun e w' => e = .returned (.tuple #[.int .i64 (wrap64 (st.num 8).1), .int .i64 (st.num 8).2.e]) ∧ RdAt b (st.num 8).2 w' ∧ Only w w' b := by
    have wz : wrap64 0 = 0 := IntWalk.wrap64_in 0 (by omega)
    obtain ⟨r, e⟩ := st
    unfold RS.num
    by_cases he : e = 0
    · subst he
      by_cases hr : r.length < 8
      · simp only [ne_eq, not_true, if_false, hr, if_true, wz]
        exact read_int_no b r 8 w hb fun q w' hq _ => int_body_no q r w' hq hr
      · simp only [ne_eq, not_true, if_false, hr]
        exact read_int_ok b r (r.drop 8) _ w hb fun q w' hq _ => int_body_ok q r w' hq (by omega)
    · simp only [ne_eq, he, not_false_eq_true, if_true, wz]
      exact read_int_was b ⟨r, e⟩ w hb he
  have hmf : ∀ (fn : Fn) (first cap : Array Value) (w : World), (Instr.makeFunc fn first cap).run Try.prog w = .ok (.func fn first cap) w := fun _ _ _ _ => rfl
  have K := Lib.hid key
  clear key
  go_enter Try.func60, Try.ntmps60
  go_wp2_with fail
  refine Calls.mono K.out ?_
  rintro e w1 ⟨rfl, h1, o1⟩
  go_wp2_with fail
  go_ret2
  exact ⟨rfl, h1, o1⟩

theorem Byte_nil (w : World) :
    Calls Try.prog 59 #[.pointer none] w fun e w' => e = .returned (.tuple #[.int .u8 0, .int .i64 2]) ∧ Below w.heap.size w w' := by
  have hmf : ∀ (fn : Fn) (first cap : Array Value) (w : World), (Instr.makeFunc fn first cap).run Try.prog w = .ok (.func fn first cap) w := fun _ _ _ _ => rfl
  go_enter Try.func59, Try.ntmps59
  go_wp2_with fail
  refine (read_byte_nil w).mono ?_
  rintro e w1 ⟨rfl, b1⟩
  go_wp2_with fail
  go_ret2
  exact ⟨rfl, b1⟩

theorem Int_nil (w : World) :
    Calls Try.prog 60 #[.pointer none] w fun e w' => e = .returned (.tuple #[.int .i64 0, .int .i64 2]) ∧ Below w.heap.size w w' := by
  have hmf : ∀ (fn : Fn) (first cap : Array Value) (w : World), (Instr.makeFunc fn first cap).run Try.prog w = .ok (.func fn first cap) w := fun _ _ _ _ => rfl
  go_enter Try.func60, Try.ntmps60
  go_wp2_with fail
  refine (read_int_nil w).mono ?_
  rintro e w1 ⟨rfl, b1⟩
  go_wp2_with fail
  go_ret2
  exact ⟨rfl, b1⟩

theorem Text_nil (w : World) :
    Calls Try.prog 61 #[.pointer none] w fun e w' => e = .returned (.tuple #[.string ⟨#[]⟩, .int .i64 2]) ∧ Below w.heap.size w w' := by
  have hmf : ∀ (fn : Fn) (first cap : Array Value) (w : World), (Instr.makeFunc fn first cap).run Try.prog w = .ok (.func fn first cap) w := fun _ _ _ _ => rfl
  go_enter Try.func61, Try.ntmps61
  go_wp2_with fail
  refine (read_text_nil w).mono ?_
  rintro e w1 ⟨rfl, b1⟩
  go_wp2_with fail
  go_ret2
  exact ⟨rfl, b1⟩

/-! End -/
theorem end_body_ok (q : Nat) (w : World) (hq : PartAt q [] w) :
    Calls Try.prog 112 #[.pointer (some ⟨q, 0, none⟩)] w fun f w' => f = .returned (.bool true) ∧ PartAt q [] w' ∧ Only w w' q := by
  have hc : w.cell? ⟨q, 0, none⟩ = some (.string ⟨#[]⟩) := hq.cell 0
  go_enter Try.func112, Try.ntmps112
  go_wp2_with fail
  refine (need_ok 10 w).mono ?_
  rintro e w1 ⟨rfl, rfl⟩
  go_wp2_with fail
  go_ret
  exact ⟨rfl, hq, Only.refl _ _⟩
theorem end_body_no (q : Nat) (r : List UInt8) (w : World) (hq : PartAt q r w) (hr : r ≠ []) :
    Calls Try.prog 112 #[.pointer (some ⟨q, 0, none⟩)] w fun f w' => f = .panicked [lack 10] ∧ Only w w' q := by
  have hc : w.cell? ⟨q, 0, none⟩ = some (.string ⟨r.toArray⟩) := hq.cell 0
  have hd : r.isEmpty = false := by simpa using hr
  go_enter Try.func112, Try.ntmps112
  go_wp2_with fail
  refine (need_no 10 w).mono ?_
  rintro e w1 ⟨rfl, rfl⟩
  go_wp2_with fail
  exact ⟨rfl, rfl, Only.refl _ _⟩
theorem end_any (b : Nat) (st : RS) (w : World) (hb : RdAt b st w) :
    Calls Try.prog 63 #[.pointer (some ⟨b, 0, none⟩)] w fun e w' => e = .returned (.int .i64 st.fin.e) ∧ RdAt b st.fin w' ∧ Only w w' b := by
  have key : Calls Try.prog 111 #[.pointer (some ⟨b, 0, none⟩), .func (.func 112) #[] #[]] w fun e w' => ∃ x, e = .returned (.tuple #[.bool x, .int .i64 st.fin.e]) ∧ RdAt b st.fin w' ∧ Only w w' b := by
    obtain ⟨r, e⟩ := st
    unfold RS.fin
    by_cases he : e = 0
    · subst he
      by_cases hr : r = []
      · subst hr
        simp only [ne_eq, not_true, if_false, if_true]
        exact (read_bool_ok b [] [] true w hb fun q w' hq _ => end_body_ok q w' hq).mono fun e w' h => ⟨true, h⟩
      · simp only [ne_eq, not_true, if_false, hr]
        exact (read_bool_no b r 10 w hb fun q w' hq _ => end_body_no q r w' hq hr).mono fun e w' h => ⟨false, h⟩
    · simp only [ne_eq, he, not_false_eq_true, if_true]
      exact (read_bool_was b ⟨r, e⟩ w hb he).mono fun e w' h => ⟨false, h⟩
  have hmf : ∀ (fn : Fn) (first cap : Array Value) (w : World), (Instr.makeFunc fn first cap).run Try.prog w = .ok (.func fn first cap) w := fun _ _ _ _ => rfl
  have K := Lib.hid key
  clear key
  go_enter Try.func63, Try.ntmps63
  go_wp2_with fail
  refine Calls.mono K.out ?_
  rintro e w1 ⟨x, rfl, h1, o1⟩
  go_wp2_with fail
  go_ret
  exact ⟨rfl, h1, o1⟩
theorem end_nil (w : World) :
    Calls Try.prog 63 #[.pointer none] w fun e w' => e = .returned (.int .i64 2) ∧ Below w.heap.size w w' := by
  have hmf : ∀ (fn : Fn) (first cap : Array Value) (w : World), (Instr.makeFunc fn first cap).run Try.prog w = .ok (.func fn first cap) w := fun _ _ _ _ => rfl
  go_enter Try.func63, Try.ntmps63
  go_wp2_with fail
  refine (read_bool_nil w).mono ?_
  rintro e w1 ⟨rfl, b1⟩
  go_wp2_with fail
  go_ret
  exact ⟨rfl, b1⟩

/-! Text -/
theorem text_body_ok (q : Nat) (r : List UInt8) (w : World) (hq : PartAt q r w) (h2 : 2 ≤ r.length) (hm : val (r.take 2) ≤ 2048) (hr : 2 + val (r.take 2) ≤ r.length) :
    Calls Try.prog 105 #[.pointer (some ⟨q, 0, none⟩)] w fun f w' => f = .returned (.string ⟨((r.drop 2).take (val (r.take 2))).toArray⟩) ∧ PartAt q (r.drop (2 + val (r.take 2))) w' ∧ Only w w' q := by
  go_enter Try.func105, Try.ntmps105
  go_wp2_with fail
  refine (length_ok q r 2048 w hq h2 hm (by omega)).mono ?_
  rintro e w1 ⟨rfl, hp1, o1⟩
  go_wp2_with fail
  refine (take_ok q (r.drop 2) (val (r.take 2)) w1 hp1 (by rw [List.length_drop]; omega)).mono ?_
  rintro e w2 ⟨rfl, hp2, o2⟩
  rw [List.drop_drop] at hp2
  go_wp2_with fail
  go_ret
  exact ⟨rfl, hp2, o1.trans o2⟩
theorem text_body_short (q : Nat) (r : List UInt8) (w : World) (hq : PartAt q r w) (h2 : r.length < 2) :
    Calls Try.prog 105 #[.pointer (some ⟨q, 0, none⟩)] w fun f w' => f = .panicked [lack 8] ∧ Only w w' q := by
  go_enter Try.func105, Try.ntmps105
  go_wp2_with fail
  refine (length_short q r 2048 w hq h2).mono ?_
  rintro e w1 ⟨rfl, rfl⟩
  go_wp2_with fail
  exact ⟨rfl, rfl, Only.refl _ _⟩
theorem text_body_large (q : Nat) (r : List UInt8) (w : World) (hq : PartAt q r w) (h2 : 2 ≤ r.length) (hm : 2048 < val (r.take 2)) :
    Calls Try.prog 105 #[.pointer (some ⟨q, 0, none⟩)] w fun f w' => f = .panicked [lack 40] ∧ Only w w' q := by
  go_enter Try.func105, Try.ntmps105
  go_wp2_with fail
  refine (length_large q r 2048 w hq h2 hm).mono ?_
  rintro e w1 ⟨rfl, o1⟩
  go_wp2_with fail
  exact ⟨rfl, rfl, o1⟩
theorem text_body_less (q : Nat) (r : List UInt8) (w : World) (hq : PartAt q r w) (h2 : 2 ≤ r.length) (hm : val (r.take 2) ≤ 2048) (hr : r.length < 2 + val (r.take 2)) :
    Calls Try.prog 105 #[.pointer (some ⟨q, 0, none⟩)] w fun f w' => f = .panicked [lack 8] ∧ Only w w' q := by
  go_enter Try.func105, Try.ntmps105
  go_wp2_with fail
  refine (length_ok q r 2048 w hq h2 hm (by omega)).mono ?_
  rintro e w1 ⟨rfl, hp1, o1⟩
  go_wp2_with fail
  refine (take_no q (r.drop 2) (val (r.take 2)) w1 hp1 (by rw [List.length_drop]; omega)).mono ?_
  rintro e w2 ⟨rfl, rfl⟩
  go_wp2_with fail
  exact ⟨rfl, rfl, o1⟩
theorem Text_any (b : Nat) (st : RS) (w : World) (hb : RdAt b st w) :
    Calls Try.prog 61 #[.pointer (some ⟨b, 0, none⟩)] w fun e w' => e = .returned (.tuple #[.string ⟨st.text.1.toArray⟩, .int .i64 st.text.2.e]) ∧ RdAt b st.text.2 w' ∧ Only w w' b := by
  have key : Calls Try.prog 104 #[.pointer (some ⟨b, 0, none⟩), .func (.func 105) #[] #[]] w fun e w' => e = .returned (.tuple #[.string ⟨st.text.1.toArray⟩, .int .i64 st.text.2.e]) ∧ RdAt b st.text.2 w' ∧ Only w w' b := by
    obtain ⟨r, e⟩ := st
    unfold RS.text
    by_cases he : e = 0
    · subst he
      by_cases h2 : r.length < 2
      · simp only [ne_eq, not_true, if_false, h2, if_true]
        exact read_text_no b r 8 w hb fun q w' hq _ => text_body_short q r w' hq h2
      by_cases hm : 2048 < val (r.take 2)
      · simp only [ne_eq, not_true, if_false, h2, hm, if_true]
        exact read_text_no b r 40 w hb fun q w' hq _ => text_body_large q r w' hq (by omega) hm
      by_cases hr : r.length < 2 + val (r.take 2)
      · simp only [ne_eq, not_true, if_false, h2, hm, hr, if_true]
        exact read_text_no b r 8 w hb fun q w' hq _ => text_body_less q r w' hq (by omega) (by omega) hr
      · simp only [ne_eq, not_true, if_false, h2, hm, hr]
        exact read_text_ok b r _ _ w hb fun q w' hq _ => text_body_ok q r w' hq (by omega) (by omega) (by omega)
    · simp only [ne_eq, he, not_false_eq_true, if_true]
      exact read_text_was b ⟨r, e⟩ w hb he
  have hmf : ∀ (fn : Fn) (first cap : Array Value) (w : World), (Instr.makeFunc fn first cap).run Try.prog w = .ok (.func fn first cap) w := fun _ _ _ _ => rfl
  have K := Lib.hid key
  clear key
  go_enter Try.func61, Try.ntmps61
  go_wp2_with fail
  refine Calls.mono K.out ?_
  rintro e w1 ⟨rfl, h1, o1⟩
  go_wp2_with fail
  go_ret2
  exact ⟨rfl, h1, o1⟩
end Go.Proofs.Ytbibbndjnlnbiaa
