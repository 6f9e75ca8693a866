/-
  wire.read at one type (bool): the deferred function's two contracts, and the four ways of a call.
-/
import Derived.Test.YtdnkijljpmcejaaRdr
namespace Go.Proofs.Ytdnkijljpmcejaa
open Go.RowKit

set_option maxRecDepth 100000 in
set_option maxHeartbeats 400000 in
theorem catch_idle_bool (pb rb xb eb q b : Nat) (r' : List UInt8) (st : RS) (w : World) (hp : Blk w pb 103 #[.pointer (some ⟨q, 0, none⟩)]) (hr : Blk w rb 42 #[.pointer (some ⟨b, 0, none⟩)])
    (hq : PartAt q r' w) (hb : RdAt b st w) :
    CallsD Try.prog 114 #[.pointer (some ⟨pb, 0, none⟩), .pointer (some ⟨rb, 0, none⟩), .pointer (some ⟨xb, 0, none⟩), .pointer (some ⟨eb, 0, none⟩)] .returning w fun e u' w' =>
      e = .returned (.tuple #[]) ∧ u' = .returning ∧ w' = (w.setCell ⟨b, 0, none⟩ (.string ⟨r'.toArray⟩)).drew := by
  have hpc : w.cell? ⟨pb, 0, none⟩ = some (.pointer (some ⟨q, 0, none⟩)) := hp.cell 0
  have hrc : w.cell? ⟨rb, 0, none⟩ = some (.pointer (some ⟨b, 0, none⟩)) := hr.cell 0
  have hqc : w.cell? ⟨q, 0, none⟩ = some (.string ⟨r'.toArray⟩) := hq.cell 0
  have hbc : w.cell? ⟨b, 0, none⟩ = some (.string ⟨st.r.toArray⟩) := hb.cell 0
  have hbf : w.frozen? ⟨b, 0, none⟩ = false := hb.frozen 0
  refine callsD_of_wpS Try.func114 rfl fun c₀ cs hu => ?_
  apply wpS_seq
  apply wpS_region
  simp [wpOpsS, go_sem, recoverD, hu, Try.ntmps114, Exit.thenS]
  refine wpS_of_wp ?_
  rw [frame32]
  go_wp2_with fail
  go_region
  go_wp2_with fail
  simp [bodyPostS, results, Try.results114]
  cases c₀
  simp_all

set_option maxRecDepth 100000 in
set_option maxHeartbeats 800000 in
theorem catch_lack_bool (pb rb xb eb b : Nat) (l e0 : Int) (y : Bool) (st : RS) (w : World) (hr : Blk w rb 42 #[.pointer (some ⟨b, 0, none⟩)])
    (hx : Blk w xb 4 #[.bool y]) (he : Blk w eb 25 #[.int .i64 e0]) (hb : RdAt b st w) :
    CallsD Try.prog 114 #[.pointer (some ⟨pb, 0, none⟩), .pointer (some ⟨rb, 0, none⟩), .pointer (some ⟨xb, 0, none⟩), .pointer (some ⟨eb, 0, none⟩)] (.panicking [lack l]) w fun e u' w' =>
      e = .returned (.tuple #[]) ∧ u' = .panicking [{ lack l with recovered := true }] ∧
        w' = (((((w.setCell ⟨xb, 0, none⟩ (.bool false)).setCell ⟨eb, 0, none⟩ (.int .i64 l)).setCell ⟨b, 0, none⟩ (.string ⟨#[]⟩)).setCell ⟨b, 1, none⟩ (.int .i64 l)).alloc (.cells #[.int .i64 l] 155)).drew.drew := by
  have hrc : w.cell? ⟨rb, 0, none⟩ = some (.pointer (some ⟨b, 0, none⟩)) := hr.cell 0
  have hxc : w.cell? ⟨xb, 0, none⟩ = some (.bool y) := hx.cell 0
  have hxf : w.frozen? ⟨xb, 0, none⟩ = false := hx.frozen 0
  have hec : w.cell? ⟨eb, 0, none⟩ = some (.int .i64 e0) := he.cell 0
  have hef : w.frozen? ⟨eb, 0, none⟩ = false := he.frozen 0
  have hbc : w.cell? ⟨b, 0, none⟩ = some (.string ⟨st.r.toArray⟩) := hb.cell 0
  have hbf : w.frozen? ⟨b, 0, none⟩ = false := hb.frozen 0
  have hbc1 : w.cell? ⟨b, 1, none⟩ = some (.int .i64 st.e) := hb.cell 1
  have hbf1 : w.frozen? ⟨b, 1, none⟩ = false := hb.frozen 1
  have l1 := hr.lt
  have l2 := hx.lt
  have l3 := he.lt
  have l4 := hb.lt
  have n1 : xb ≠ eb := hx.ne_ he (by decide)
  have n2 : b ≠ eb := hb.ne_ he (by decide)
  have n3 : b ≠ xb := hb.ne_ hx (by decide)
  have n4 : rb ≠ eb := hr.ne_ he (by decide)
  have n5 : rb ≠ xb := hr.ne_ hx (by decide)
  have n6 : rb ≠ b := hr.ne_ hb (by decide)
  refine callsD_of_wpS Try.func114 rfl fun c₀ cs hu => ?_
  unfold lack at hu
  have hta : ∀ (x : Value) (w : World), (Instr.typeAssert (.iface 155 x) 20 155 true).run Try.prog w = .ok (.tuple #[x, .bool true]) w := fun _ _ => by kernel_rfl
  apply wpS_seq
  apply wpS_region
  simp [wpOpsS, go_sem, recoverD, hu, Try.ntmps114, Exit.thenS]
  refine wpS_of_wp ?_
  rw [frame32]
  go_wp2_with fail
  go_region
  all_goals go_wp2_with fail
  all_goals go_region
  all_goals go_wp2_with fail
  simp [bodyPostS, results, Try.results114]
  cases c₀
  simp_all [lack]

set_option maxRecDepth 100000 in
set_option maxHeartbeats 800000 in
theorem read_bool_ok (b : Nat) (r r' : List UInt8) (x : Bool) (w : World) (hb : RdAt b ⟨r, 0⟩ w)
    (hbody : ∀ q w', PartAt q r w' → Below w.heap.size w w' → Calls Try.prog 64 #[.pointer (some ⟨q, 0, none⟩)] w' fun f w'' => f = .returned (.bool x) ∧ PartAt q r' w'' ∧ Only w' w'' q) :
    Calls Try.prog 63 #[.pointer (some ⟨b, 0, none⟩), .func (.func 64) #[] #[]] w fun f w' =>
      f = .returned (.tuple #[.bool x, .int .i64 0]) ∧ RdAt b ⟨r', 0⟩ w' ∧ Only w w' b := by
  have hc0 : w.cell? ⟨b, 0, none⟩ = some (.string ⟨r.toArray⟩) := hb.cell 0
  have hc1 : w.cell? ⟨b, 1, none⟩ = some (.int .i64 0) := hb.cell 1
  have l0 := hb.lt
  have l1 : b < w.heap.size + 1 := by omega
  have l2 : b < w.heap.size + 1 + 1 := by omega
  have l3 : b < w.heap.size + 1 + 1 + 1 := by omega
  have l4 : b < w.heap.size + 1 + 1 + 1 + 1 := by omega
  have l5 : b < w.heap.size + 1 + 1 + 1 + 1 + 1 := by omega
  have hmf : ∀ (fn : Fn) (first cap : Array Value) (w : World), (Instr.makeFunc fn first cap).run Try.prog w = .ok (.func fn first cap) w := fun _ _ _ _ => rfl
  have HB := Lib.hid hbody
  clear hbody
  go_enter_defers Try.func63, Try.ntmps63
  go_wp2_with fail
  refine (HB.out (w.heap.size + 1 + 1 + 1) _ (five_part b r (.bool false) 4 w) (five_below b r (.bool false) 4 w)).mono ?_
  rintro e w1 ⟨rfl, hq1, o1⟩
  obtain ⟨B0, B1, B2, B4, B5, bw⟩ := five_after hb o1
  have c0 : w1.cell? ⟨w.heap.size + 1, 0, none⟩ = some (.bool false) := B1.cell 0
  have c1 : w1.frozen? ⟨w.heap.size + 1, 0, none⟩ = false := B1.frozen 0
  have c2 : w1.cell? ⟨w.heap.size + 1 + 1, 0, none⟩ = some (.int .i64 0) := B2.cell 0
  have c3 : w1.frozen? ⟨w.heap.size + 1 + 1, 0, none⟩ = false := B2.frozen 0
  go_wp2_with fail
  obtain ⟨d0, d4, dq, d5, fx, fe, fb, ff⟩ := fin_ok B0 B1 B2 B4 hq1 B5 bw (v := .bool x) l0
  refine leaves_cons (f := 114) (args := #[.pointer (some ⟨w.heap.size + 1 + 1 + 1 + 1, 0, none⟩), .pointer (some ⟨w.heap.size, 0, none⟩), .pointer (some ⟨w.heap.size + 1, 0, none⟩), .pointer (some ⟨w.heap.size + 1 + 1, 0, none⟩)]) (by simp) (by simp [go_sem]) ?_
  refine (catch_idle_bool _ _ _ _ _ _ _ _ _ d4 d0 dq d5).mono ?_
  rintro e u' w'' ⟨rfl, rfl, hw⟩
  rw [← hw] at fx fe fb ff
  clear hw
  simp [Leaves, settle, results, Try.results63, go_sem, fx, fe]
  exact ⟨fb, ff⟩

set_option maxRecDepth 100000 in
set_option maxHeartbeats 800000 in
theorem read_bool_no (b : Nat) (r : List UInt8) (l : Int) (w : World) (hb : RdAt b ⟨r, 0⟩ w)
    (hbody : ∀ q w', PartAt q r w' → Below w.heap.size w w' → Calls Try.prog 64 #[.pointer (some ⟨q, 0, none⟩)] w' fun f w'' => f = .panicked [lack l] ∧ Only w' w'' q) :
    Calls Try.prog 63 #[.pointer (some ⟨b, 0, none⟩), .func (.func 64) #[] #[]] w fun f w' =>
      f = .returned (.tuple #[.bool false, .int .i64 l]) ∧ RdAt b ⟨[], l⟩ w' ∧ Only w w' b := by
  have hc0 : w.cell? ⟨b, 0, none⟩ = some (.string ⟨r.toArray⟩) := hb.cell 0
  have hc1 : w.cell? ⟨b, 1, none⟩ = some (.int .i64 0) := hb.cell 1
  have l0 := hb.lt
  have l1 : b < w.heap.size + 1 := by omega
  have l2 : b < w.heap.size + 1 + 1 := by omega
  have l3 : b < w.heap.size + 1 + 1 + 1 := by omega
  have l4 : b < w.heap.size + 1 + 1 + 1 + 1 := by omega
  have l5 : b < w.heap.size + 1 + 1 + 1 + 1 + 1 := by omega
  have hmf : ∀ (fn : Fn) (first cap : Array Value) (w : World), (Instr.makeFunc fn first cap).run Try.prog w = .ok (.func fn first cap) w := fun _ _ _ _ => rfl
  have HB := Lib.hid hbody
  clear hbody
  go_enter_defers Try.func63, Try.ntmps63
  go_wp2_with fail
  refine (HB.out (w.heap.size + 1 + 1 + 1) _ (five_part b r (.bool false) 4 w) (five_below b r (.bool false) 4 w)).mono ?_
  rintro e w1 ⟨rfl, o1⟩
  obtain ⟨B0, B1, B2, B4, B5, bw⟩ := five_after hb o1
  go_wp2_with fail
  obtain ⟨fx, fe, fb, ff⟩ := fin_lack (l := l) B1 B2 B5 bw l0
  refine leaves_cons (f := 114) (args := #[.pointer (some ⟨w.heap.size + 1 + 1 + 1 + 1, 0, none⟩), .pointer (some ⟨w.heap.size, 0, none⟩), .pointer (some ⟨w.heap.size + 1, 0, none⟩), .pointer (some ⟨w.heap.size + 1 + 1, 0, none⟩)]) (by simp) (by simp [go_sem]) ?_
  refine (catch_lack_bool _ _ _ _ _ _ _ _ _ _ B0 B1 B2 B5).mono ?_
  rintro e u' w'' ⟨rfl, rfl, hw⟩
  rw [← hw] at fx fe fb ff
  clear hw
  simp [Leaves, settle, results, Try.results63, go_sem, fx, fe]
  exact ⟨fb, ff⟩

set_option maxRecDepth 100000 in
set_option maxHeartbeats 400000 in
theorem read_bool_was (b : Nat) (st : RS) (w : World) (hb : RdAt b st w) (he : st.e ≠ 0) :
    Calls Try.prog 63 #[.pointer (some ⟨b, 0, none⟩), .func (.func 64) #[] #[]] w fun f w' =>
      f = .returned (.tuple #[.bool false, .int .i64 st.e]) ∧ RdAt b st w' ∧ Only w w' b := by
  have hc1 : w.cell? ⟨b, 1, none⟩ = some (.int .i64 st.e) := hb.cell 1
  have l0 := hb.lt
  have l1 : b < w.heap.size + 1 := by omega
  have l2 : b < w.heap.size + 1 + 1 := by omega
  have l3 : b < w.heap.size + 1 + 1 + 1 := by omega
  have hne : (st.e != 0) = true := by simpa using he
  go_enter_defers Try.func63, Try.ntmps63
  go_wp2_with fail
  go_region
  all_goals go_wp2_with fail
  all_goals simp [bodyPostD, Leaves, results, Try.results63, go_sem]
  all_goals exact ⟨((hb.alloc _).alloc _).alloc _, ((((Only.refl _ _).alloc _).alloc _).alloc _).drew⟩

set_option maxRecDepth 100000 in
set_option maxHeartbeats 400000 in
theorem read_bool_nil (w : World) :
    Calls Try.prog 63 #[.pointer none, .func (.func 64) #[] #[]] w fun f w' =>
      f = .returned (.tuple #[.bool false, .int .i64 2]) ∧ Below w.heap.size w w' := by
  go_enter_defers Try.func63, Try.ntmps63
  go_wp2_with fail
  simp [bodyPostD, Leaves, results, Try.results63, go_sem]
  exact ((((Below.refl _ w).alloc (Nat.le_refl _) _).alloc (by simp only [asz]; omega) _).alloc (by simp only [asz]; omega) _)
end Go.Proofs.Ytdnkijljpmcejaa
