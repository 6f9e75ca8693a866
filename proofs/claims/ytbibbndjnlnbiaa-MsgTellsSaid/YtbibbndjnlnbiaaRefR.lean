/-
  consistoryref09.Reader: each method answers as the plain reader does.
-/
import Derived.Test.YtbibbndjnlnbiaaBase
namespace Go.Proofs.Ytbibbndjnlnbiaa
open Go.RowKit

/-- The document's reader at block b. -/
def RrAt (b : Nat) (st : RS) (w : World) : Prop := Blk w b 140 #[.string ⟨st.r.toArray⟩, .int .i64 st.e]

set_option maxHeartbeats 400000 in
theorem ropen_any (l : List UInt8) (w : World) :
    Calls Try.prog 87 #[.string ⟨l.toArray⟩] w fun e w' => e = .returned (.pointer (some ⟨w.heap.size, 0, none⟩)) ∧ RrAt w.heap.size ⟨l, 0⟩ w' ∧ Below w.heap.size w w' := by
  have B := Blk.new w 140 #[.string ⟨l.toArray⟩, .int .i64 0]
  have HB := Lib.hid B
  clear B
  go_enter Try.func87, Try.ntmps87
  go_wp2_with fail
  go_ret
  exact ⟨rfl, HB.out, (Below.refl _ w).alloc (Nat.le_refl _) _⟩

set_option maxHeartbeats 400000 in
theorem rwrong_any (b : Nat) (st : RS) (e : Int) (w : World) (hb : RrAt b st w) :
    Calls Try.prog 117 #[.pointer (some ⟨b, 0, none⟩), .int .i64 e] w fun f w' => f = .returned (.int .i64 e) ∧ RrAt b ⟨[], e⟩ w' ∧ Only w w' b := by
  have c0 : w.cell? ⟨b, 0, none⟩ = some (.string ⟨st.r.toArray⟩) := hb.cell 0
  have c1 : w.cell? ⟨b, 1, none⟩ = some (.int .i64 st.e) := hb.cell 1
  have f0 : w.frozen? ⟨b, 0, none⟩ = false := hb.frozen 0
  have f1 : w.frozen? ⟨b, 1, none⟩ = false := hb.frozen 1
  go_enter Try.func117, Try.ntmps117
  go_wp2_with fail
  go_ret
  exact ⟨rfl, (Blk.set_ hb 0 _).set_ 1 _, ((Only.refl w b).setc (.inl rfl) _).setc (.inl rfl) _⟩

set_option maxRecDepth 100000 in
set_option maxHeartbeats 400000 in
theorem roff_any (b : Nat) (st : RS) (k : Nat) (w : World) (hk : k ≤ 8) (hb : RrAt b st w) :
    Calls Try.prog 116 #[.pointer (some ⟨b, 0, none⟩), .int .i64 k] w fun e w' => e = .returned (.tuple #[.int .u64 (st.num k).1, .int .i64 (st.num k).2.e]) ∧ RrAt b (st.num k).2 w' ∧ Only w w' b := by
  obtain ⟨m, hm⟩ : ∃ m, m = st.num k := ⟨_, rfl⟩
  rw [← hm]
  obtain ⟨r, e⟩ := st
  have c0 : w.cell? ⟨b, 0, none⟩ = some (.string ⟨r.toArray⟩) := hb.cell 0
  have c1 : w.cell? ⟨b, 1, none⟩ = some (.int .i64 e) := hb.cell 1
  have f0 : w.frozen? ⟨b, 0, none⟩ = false := hb.frozen 0
  by_cases he : e = 0
  · subst he
    by_cases hs : r.length < k
    · rw [num_cut hs] at hm
      subst hm
      have hd : decide ((r.length : Int) < (k : Int)) = true := decide_eq_true (by omega)
      go_enter Try.func116, Try.ntmps116
      go_wp2_with fail
      refine (rwrong_any b ⟨r, 0⟩ 8 w hb).mono ?_
      rintro e w1 ⟨rfl, h1, o1⟩
      go_wp2_with fail
      go_ret2
      exact ⟨rfl, h1, o1⟩
    · have hm' : m = (((val (r.take k) : Nat) : Int), (⟨r.drop k, 0⟩ : RS)) := by
        rw [hm]
        unfold RS.num
        rw [if_neg (by simp), if_neg (by simpa using hs)]
      have HM := Lib.hid hm'
      clear hm hm'
      have hd : decide ((r.length : Int) < (k : Int)) = false := decide_eq_false (by omega)
      go_enter Try.func116, Try.ntmps116
      go_wp2_with fail
      go_loop [6, 7] (fun u v => ∃ j : Nat, j ≤ k ∧ v = .int .i64 j ∧ u = .int .u64 (val (r.take j) : Nat)) (fun _ v => k - (intOf v).toNat)
      case atStart => exact ⟨0, Nat.zero_le _, rfl, by simp [val, valFrom]⟩
      case round =>
        obtain ⟨j, hj, rfl, rfl⟩ := hrel
        by_cases hlt : j < k
        · have hlt2 : j < r.length := by omega
          have hvl := val_lt (r.take j)
          rw [List.length_take_of_le (by omega)] at hvl
          have H7 : val (r.take j) < 72057594037927936 := Nat.lt_of_lt_of_le hvl (Nat.le_trans (Nat.pow_le_pow_right (by omega) (show j ≤ 7 by omega)) (by decide))
          clear hvl
          have hjI : (j : Int) < (r.length : Int) := by omega
          go_wp2_with fail
          go_round
          case rel =>
            refine ⟨j + 1, by omega, by go_num, ?_⟩
            rw [List.take_succ_eq_append_getElem hlt2, val_snoc]
            have hb8 : (r[j]).toNat < 256 := (r[j]).toNat_lt
            show Value.int .u64 (IntKind.u64.wrap (((val (r.take j) : Nat) : Int) * 256 + IntKind.u64.wrap (((r[j]).toNat : Nat) : Int))) = _
            rw [IntKind.wrap_u64, IntKind.wrap_u64]
            congr 1
            omega
          case measure => simp [intOf]; omega
        · have hje : j = k := by omega
          subst hje
          go_wp2_with fail
          go_ret2
          rw [HM.out]
          exact ⟨rfl, Blk.set_ hb 0 _, (Only.refl w b).setc (.inl rfl) _⟩
  · have hm' : m = ((0 : Int), (⟨r, e⟩ : RS)) := by
      rw [hm]
      unfold RS.num
      rw [if_pos he]
    have HM := Lib.hid hm'
    clear hm hm'
    have hd : (e != 0) = true := by simpa using he
    go_enter Try.func116, Try.ntmps116
    go_wp2_with fail
    go_quiet (fail)
    go_wp2_with fail
    go_ret2
    rw [HM.out]
    exact ⟨rfl, hb, (Only.refl w b).drewN nq⟩
end Go.Proofs.Ytbibbndjnlnbiaa
