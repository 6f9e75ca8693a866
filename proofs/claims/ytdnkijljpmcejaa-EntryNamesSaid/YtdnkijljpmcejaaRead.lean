/-
  wire: need, take, number, length: what is left of a part while one thing is read.
-/
import Derived.Test.YtdnkijljpmcejaaRefW
namespace Go.Proofs.Ytdnkijljpmcejaa
open Go.RowKit

/-- What is thrown. -/
def lack (e : Int) : PanicEntry := { v := .iface 155 (.agg #[.int .i64 e]), recovered := false }

set_option maxRecDepth 100000 in
set_option maxHeartbeats 400000 in
theorem need_ok (e : Int) (w : World) :
    Calls Try.prog 65 #[.bool true, .int .i64 e] w fun f w' => f = .returned (.tuple #[]) ∧ w = w' := by
  go_enter Try.func65, Try.ntmps65
  go_wp2_with fail
  go_end0
  exact ⟨rfl, rfl⟩

set_option maxRecDepth 100000 in
set_option maxHeartbeats 400000 in
theorem need_no (e : Int) (w : World) :
    Calls Try.prog 65 #[.bool false, .int .i64 e] w fun f w' => f = .panicked [lack e] ∧ w = w' := by
  go_enter Try.func65, Try.ntmps65
  go_wp2_with fail
  exact ⟨rfl, rfl, rfl⟩

def PartAt (p : Nat) (r : List UInt8) (w : World) : Prop := Blk w p 106 #[.string ⟨r.toArray⟩]

set_option maxRecDepth 100000 in
set_option maxHeartbeats 400000 in
theorem take_ok (p : Nat) (r : List UInt8) (n : Nat) (w : World) (hp : PartAt p r w) (hn : n ≤ r.length) :
    Calls Try.prog 103 #[.pointer (some ⟨p, 0, none⟩), .int .i64 n] w fun f w' => f = .returned (.string ⟨(r.take n).toArray⟩) ∧ PartAt p (r.drop n) w' ∧ Only w w' p := by
  have hc : w.cell? ⟨p, 0, none⟩ = some (.string ⟨r.toArray⟩) := hp.cell 0
  have hf : w.frozen? ⟨p, 0, none⟩ = false := hp.frozen 0
  have hs := hp.set_ 0 (.string ⟨(r.drop n).toArray⟩)
  have HS := Lib.hid hs
  clear hs
  go_enter Try.func103, Try.ntmps103
  go_wp2_with fail
  refine (need_ok 8 w).mono ?_
  rintro e w1 ⟨rfl, rfl⟩
  go_wp2_with fail
  go_ret
  exact ⟨rfl, HS.out, (Only.refl _ _).setCell (.inl rfl) _⟩

set_option maxRecDepth 100000 in
set_option maxHeartbeats 400000 in
theorem take_no (p : Nat) (r : List UInt8) (n : Nat) (w : World) (hp : PartAt p r w) (hn : r.length < n) :
    Calls Try.prog 103 #[.pointer (some ⟨p, 0, none⟩), .int .i64 n] w fun f w' => f = .panicked [lack 8] ∧ w = w' := by
  have hc : w.cell? ⟨p, 0, none⟩ = some (.string ⟨r.toArray⟩) := hp.cell 0
  have hd : decide (n ≤ r.length) = false := by simp; omega
  go_enter Try.func103, Try.ntmps103
  go_wp2_with fail
  refine (need_no 8 w).mono ?_
  rintro e w1 ⟨rfl, rfl⟩
  go_wp2_with fail
  exact ⟨rfl, rfl, rfl⟩

theorem or_byte (a : Nat) (b : UInt8) (ha : a < 256 ^ 7) : bits .or .u64 (IntKind.u64.wrap ((a : Int) * 256)) (IntKind.u64.wrap (b.toNat : Int)) = ((a * 256 + b.toNat : Nat) : Int) := by
  have e7 : (256 : Nat) ^ 7 = 72057594037927936 := by decide
  rw [e7] at ha
  have hb : b.toNat < 256 := b.toNat_lt
  rw [IntWalk.u64_in _ (by omega), IntWalk.u64_in _ (by omega)]
  have e1 : (a : Int) * 256 = ((a * 256 : Nat) : Int) := by simp
  rw [e1, u64_or_nat _ _ (by omega) (by omega), nat_join8 _ _ (by omega) hb]
theorem val_snoc (l : List UInt8) (b : UInt8) : val (l ++ [b]) = val l * 256 + b.toNat := valFrom_snoc l 0 b

set_option maxRecDepth 100000 in
set_option maxHeartbeats 400000 in
theorem number_ok (p : Nat) (r : List UInt8) (n : Nat) (w : World) (hp : PartAt p r w) (hn : n ≤ r.length) (hn8 : n ≤ 8) :
    Calls Try.prog 94 #[.pointer (some ⟨p, 0, none⟩), .int .i64 n] w fun f w' => f = .returned (.int .u64 (val (r.take n) : Nat)) ∧ PartAt p (r.drop n) w' ∧ Only w w' p := by
  have hcv := fun (w : World) (s : ByteArray) => Lib.run_convert_string_bytes (P := Try.prog) w 9 37 5 s Try.underlying9 Try.underlying37 Try.underlying5
  go_enter Try.func94, Try.ntmps94
  go_wp2_with fail
  refine (take_ok p r n w hp hn).mono ?_
  rintro e w1 ⟨rfl, hp1, o1⟩
  go_wp2_with fail
  obtain ⟨q, hq⟩ : ∃ q, q = r.take n := ⟨_, rfl⟩
  have hql : q.length = n := by rw [hq]; simp; omega
  rw [← hq]
  have HQ := Lib.hid hq
  clear hq
  subst hql
  go_loop [5, 13] (fun u v => ∃ j : Nat, j ≤ q.length ∧ v = .int .i64 j ∧ u = .int .u64 (val (q.take j) : Nat)) (fun _ v => q.length - (intOf v).toNat)
  case atStart => exact ⟨0, Nat.zero_le _, rfl, by simp [val, valFrom]⟩
  case round =>
    obtain ⟨j, hj, rfl, rfl⟩ := hrel
    by_cases hlt : j < q.length
    · have hcell := Lib.bytesWorld_cell w1 5 ⟨q.toArray⟩ j hlt
      have hvl := val_lt (q.take j)
      rw [List.length_take_of_le hj] at hvl
      have H7 : Hid (val (q.take j) < 256 ^ 7) := Nat.lt_of_lt_of_le hvl (Nat.pow_le_pow_right (by omega) (by omega))
      clear hvl
      go_wp2_with fail
      go_round
      case rel =>
        refine ⟨j + 1, by omega, by go_num, ?_⟩
        rw [or_byte _ _ H7.out, List.take_succ_eq_append_getElem hlt, val_snoc]
      case measure => simp [intOf]; omega
    · have hje : j = q.length := by omega
      subst hje
      go_wp2_with fail
      go_ret
      exact ⟨ret1 (by rw [← HQ.out]; rfl), hp1.kept (below_bytes _ _ _), o1.below (below_bytes _ _ _)⟩

set_option maxRecDepth 100000 in
set_option maxHeartbeats 400000 in
theorem number_no (p : Nat) (r : List UInt8) (n : Nat) (w : World) (hp : PartAt p r w) (hn : r.length < n) :
    Calls Try.prog 94 #[.pointer (some ⟨p, 0, none⟩), .int .i64 n] w fun f w' => f = .panicked [lack 8] ∧ w = w' := by
  go_enter Try.func94, Try.ntmps94
  go_wp2_with fail
  refine (take_no p r n w hp hn).mono ?_
  rintro e w1 ⟨rfl, rfl⟩
  go_wp2_with fail
  exact ⟨rfl, rfl, rfl⟩

set_option maxRecDepth 100000 in
set_option maxHeartbeats 400000 in
theorem length_ok (p : Nat) (r : List UInt8) (m : Nat) (w : World) (hp : PartAt p r w) (hn : 2 ≤ r.length) (hm : val (r.take 2) ≤ m) (hm2 : m ≤ 100000) :
    Calls Try.prog 104 #[.pointer (some ⟨p, 0, none⟩), .int .i64 m] w fun f w' => f = .returned (.int .i64 (val (r.take 2) : Nat)) ∧ PartAt p (r.drop 2) w' ∧ Only w w' p := by
  go_enter Try.func104, Try.ntmps104
  go_wp2_with fail
  refine (number_ok p r 2 w hp hn (by omega)).mono ?_
  rintro e w1 ⟨rfl, hp1, o1⟩
  go_wp2_with fail
  refine (need_ok 40 w1).mono ?_
  rintro e w2 ⟨rfl, rfl⟩
  go_wp2_with fail
  go_ret
  exact ⟨rfl, hp1, o1⟩

set_option maxRecDepth 100000 in
set_option maxHeartbeats 400000 in
theorem length_short (p : Nat) (r : List UInt8) (m : Nat) (w : World) (hp : PartAt p r w) (hn : r.length < 2) :
    Calls Try.prog 104 #[.pointer (some ⟨p, 0, none⟩), .int .i64 m] w fun f w' => f = .panicked [lack 8] ∧ w = w' := by
  go_enter Try.func104, Try.ntmps104
  go_wp2_with fail
  refine (number_no p r 2 w hp hn).mono ?_
  rintro e w1 ⟨rfl, rfl⟩
  go_wp2_with fail
  exact ⟨rfl, rfl, rfl⟩

set_option maxRecDepth 100000 in
set_option maxHeartbeats 400000 in
theorem length_large (p : Nat) (r : List UInt8) (m : Nat) (w : World) (hp : PartAt p r w) (hn : 2 ≤ r.length) (hm : m < val (r.take 2)) :
    Calls Try.prog 104 #[.pointer (some ⟨p, 0, none⟩), .int .i64 m] w fun f w' => f = .panicked [lack 40] ∧ Only w w' p := by
  have hd : decide (val (r.take 2) ≤ m) = false := by simp; omega
  have hv := val_lt (r.take 2)
  rw [List.length_take_of_le hn] at hv
  have hv2 : val (r.take 2) ≤ 65535 := by have : (256 : Nat) ^ 2 = 65536 := by decide
                                          omega
  clear hv
  go_enter Try.func104, Try.ntmps104
  go_wp2_with fail
  refine (number_ok p r 2 w hp hn (by omega)).mono ?_
  rintro e w1 ⟨rfl, hp1, o1⟩
  go_wp2_with fail
  refine (need_no 40 w1).mono ?_
  rintro e w2 ⟨rfl, rfl⟩
  go_wp2_with fail
  exact ⟨rfl, rfl, o1⟩
end Go.Proofs.Ytdnkijljpmcejaa
