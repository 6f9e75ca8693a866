/-
  consistoryref09.Reader.
-/
import Derived.Test.YtbibbndjnlnbiaaBase
namespace Go.Proofs.Ytbibbndjnlnbiaa
open Go.RowKit

/-- The document's reader at block b. -/
def RrAt (b : Nat) (st : RS) (w : World) : Prop := Blk w b 140 #[.string ⟨st.r.toArray⟩, .int .i64 st.e]

set_option maxHeartbeats 400000 in
theorem ropen_any (l : List UInt8) (w : World) :
    Calls Try.prog 87 #[.string ⟨l.toArray⟩] w fun e w' => e = .returned (.pointer (some ⟨w.heap.size, 0, none⟩)) ∧ RrAt w.heap.size ⟨l, 0⟩ w' ∧ Below w.heap.size w w' := by
  have B := Blk.new w 140 #[.string ⟨l.toArray⟩, .int .i64 0]
  have HB := Lib.hid B
  clear B
  go_enter Try.func87, Try.ntmps87
  go_wp2_with fail
  go_ret
  exact ⟨rfl, HB.out, (Below.refl _ w).alloc (Nat.le_refl _) _⟩

set_option maxHeartbeats 400000 in
theorem rwrong_any (b : Nat) (st : RS) (e : Int) (w : World) (hb : RrAt b st w) :
    Calls Try.prog 117 #[.pointer (some ⟨b, 0, none⟩), .int .i64 e] w fun f w' => f = .returned (.int .i64 e) ∧ RrAt b ⟨[], e⟩ w' ∧ Only w w' b := by
  have c0 : w.cell? ⟨b, 0, none⟩ = some (.string ⟨st.r.toArray⟩) := hb.cell 0
  have c1 : w.cell? ⟨b, 1, none⟩ = some (.int .i64 st.e) := hb.cell 1
  have f0 : w.frozen? ⟨b, 0, none⟩ = false := hb.frozen 0
  have f1 : w.frozen? ⟨b, 1, none⟩ = false := hb.frozen 1
  go_enter Try.func117, Try.ntmps117
  go_wp2_with fail
  go_ret
  exact ⟨rfl, (Blk.set_ hb 0 _).set_ 1 _, ((Only.refl w b).setc (.inl rfl) _).setc (.inl rfl) _⟩

set_option maxRecDepth 100000 in
set_option maxHeartbeats 400000 in
theorem roff_any (b : Nat) (st : RS) (k : Nat) (w : World) (hk : k ≤ 8) (hb : RrAt b st w) :
    Calls Try.prog 116 #[.pointer (some ⟨b, 0, none⟩), .int .i64 k] w fun e w' => e = .returned (.tuple #[.int .u64 (st.num k).1, .int .i64 (st.num k).2.e]) ∧ RrAt b (st.num k).2 w' ∧ Only w w' b := by
  obtain ⟨m, hm⟩ : ∃ m, m = st.num k := ⟨_, rfl⟩
  rw [← hm]
  obtain ⟨r, e⟩ := st
  have c0 : w.cell? ⟨b, 0, none⟩ = some (.string ⟨r.toArray⟩) := hb.cell 0
  have c1 : w.cell? ⟨b, 1, none⟩ = some (.int .i64 e) := hb.cell 1
  have f0 : w.frozen? ⟨b, 0, none⟩ = false := hb.frozen 0
  by_cases he : e = 0
  · subst he
    by_cases hs : r.length < k
    · rw [num_cut hs] at hm
      subst hm
      have hd : decide ((r.length : Int) < (k : Int)) = true := decide_eq_true (by omega)
      go_enter Try.func116, Try.ntmps116
      go_wp2_with fail
      refine (rwrong_any b ⟨r, 0⟩ 8 w hb).mono ?_
      rintro e w1 ⟨rfl, h1, o1⟩
      go_wp2_with fail
      go_ret2
      exact ⟨rfl, h1, o1⟩
    · have hm' : m = (((val (r.take k) : Nat) : Int), (⟨r.drop k, 0⟩ : RS)) := by
        rw [hm]
        unfold RS.num
        rw [if_neg (by simp), if_neg (by simpa using hs)]
      have HM := Lib.hid hm'
      clear hm hm'
      have hd : decide ((r.length : Int) < (k : Int)) = false := decide_eq_false (by omega)
      go_enter Try.func116, Try.ntmps116
      go_wp2_with fail
      go_loop [6, 7] (fun u v => ∃ j : Nat, j ≤ k ∧ v = .int .i64 j ∧ u = .int .u64 (val (r.take j) : Nat)) (fun _ v => k - (intOf v).toNat)
      case atStart => exact ⟨0, Nat.zero_le _, rfl, by simp [val, valFrom]⟩
      case round =>
        obtain ⟨j, hj, rfl, rfl⟩ := hrel
        by_cases hlt : j < k
        · have hlt2 : j < r.length := by omega
          have hvl := val_lt (r.take j)
          rw [List.length_take_of_le (by omega)] at hvl
          have H7 : val (r.take j) < 72057594037927936 := Nat.lt_of_lt_of_le hvl (Nat.le_trans (Nat.pow_le_pow_right (by omega) (show j ≤ 7 by omega)) (by decide))
          clear hvl
          have hjI : (j : Int) < (r.length : Int) := by omega
          go_wp2_with fail
          go_round
          case rel =>
            refine ⟨j + 1, by omega, by go_num, ?_⟩
            rw [List.take_succ_eq_append_getElem hlt2, val_snoc]
            have hb8 : (r[j]).toNat < 256 := (r[j]).toNat_lt
            show Value.int .u64 (IntKind.u64.wrap (((val (r.take j) : Nat) : Int) * 256 + IntKind.u64.wrap (((r[j]).toNat : Nat) : Int))) = _
            rw [IntKind.wrap_u64, IntKind.wrap_u64]
            congr 1
            omega
          case measure => simp [intOf]; omega
        · have hje : j = k := by omega
          subst hje
          go_wp2_with fail
          go_ret2
          rw [HM.out]
          exact ⟨rfl, Blk.set_ hb 0 _, (Only.refl w b).setc (.inl rfl) _⟩
  · have hm' : m = ((0 : Int), (⟨r, e⟩ : RS)) := by
      rw [hm]
      unfold RS.num
      rw [if_pos he]
    have HM := Lib.hid hm'
    clear hm hm'
    have hd : (e != 0) = true := by simpa using he
    go_enter Try.func116, Try.ntmps116
    go_wp2_with fail
    go_quiet (fail)
    go_wp2_with fail
    go_ret2
    rw [HM.out]
    exact ⟨rfl, hb, (Only.refl w b).drewN nq⟩
end Go.Proofs.Ytbibbndjnlnbiaa
namespace Go.Proofs.Ytbibbndjnlnbiaa
open Go.RowKit

/-- The plain reader's answers, out of numbers alone. -/
theorem text_num (st : RS) : st.text = if (st.num 2).2.e ≠ 0 then ([], (st.num 2).2) else if 2048 < (st.num 2).1 then ([], ⟨[], 40⟩) else if ((st.num 2).2.r.length : Int) < (st.num 2).1 then ([], ⟨[], 8⟩) else ((st.num 2).2.r.take (st.num 2).1.toNat, ⟨(st.num 2).2.r.drop (st.num 2).1.toNat, 0⟩) := by
  obtain ⟨r, e⟩ := st
  by_cases he : e = 0
  · subst he
    by_cases h2 : r.length < 2
    · rw [num_cut h2]
      simp [RS.text, h2]
    · have hn : RS.num 2 ⟨r, 0⟩ = (((val (r.take 2) : Nat) : Int), (⟨r.drop 2, 0⟩ : RS)) := by
        unfold RS.num
        rw [if_neg (by simp), if_neg (by simpa using h2)]
      rw [hn]
      unfold RS.text
      dsimp only
      rw [if_neg (by simp), if_neg (by simpa using h2), if_neg (c := (0 : Int) ≠ 0) (by simp)]
      by_cases h3 : 2048 < val (r.take 2)
      · rw [if_pos h3, if_pos (by omega)]
      · rw [if_neg h3, if_neg (c := (2048 : Int) < ((val (r.take 2) : Nat) : Int)) (by omega)]
        by_cases h4 : r.length < 2 + val (r.take 2)
        · rw [if_pos h4, if_pos (by simp; omega)]
        · rw [if_neg h4, if_neg (by simp; omega), Int.toNat_natCast, List.drop_drop]
  · have hn : RS.num 2 ⟨r, e⟩ = ((0 : Int), (⟨r, e⟩ : RS)) := by
      unfold RS.num
      rw [if_pos he]
    rw [hn]
    simp [RS.text, he]
theorem count_num (m : Int) (st : RS) : st.count m = if (st.num 8).2.e ≠ 0 then (0, (st.num 8).2) else if m < 0 ∨ m < (st.num 8).1 then (0, ⟨[], 4⟩) else st.num 8 := by
  obtain ⟨r, e⟩ := st
  by_cases he : e = 0
  · subst he
    by_cases h2 : r.length < 8
    · rw [num_cut h2]
      simp [RS.count, h2]
    · have hn : RS.num 8 ⟨r, 0⟩ = (((val (r.take 8) : Nat) : Int), (⟨r.drop 8, 0⟩ : RS)) := by
        unfold RS.num
        rw [if_neg (by simp), if_neg (by simpa using h2)]
      rw [hn]
      unfold RS.count
      dsimp only
      rw [if_neg (by simp), if_neg (by simpa using h2), if_neg (c := (0 : Int) ≠ 0) (by simp)]
  · have hn : RS.num 8 ⟨r, e⟩ = ((0 : Int), (⟨r, e⟩ : RS)) := by
      unfold RS.num
      rw [if_pos he]
    rw [hn]
    simp [RS.count, he]
theorem num2_le (st : RS) : 0 ≤ (st.num 2).1 ∧ (st.num 2).1 ≤ 65535 := by
  unfold RS.num
  split
  · simp
  split
  · simp
  · have := val_lt (st.r.take 2)
    rw [List.length_take_of_le (by omega)] at this
    have e : (256 : Nat) ^ 2 = 65536 := by decide
    dsimp only
    omega

set_option maxHeartbeats 400000 in
theorem rByte_any (b : Nat) (st : RS) (w : World) (hb : RrAt b st w) :
    Calls Try.prog 88 #[.pointer (some ⟨b, 0, none⟩)] w fun e w' => e = .returned (.tuple #[.int .u8 (st.num 1).1, .int .i64 (st.num 1).2.e]) ∧ RrAt b (st.num 1).2 w' ∧ Only w w' b := by
  obtain ⟨h0, h1⟩ := num1_le st
  go_enter Try.func88, Try.ntmps88
  go_wp2_with fail
  refine (roff_any b st 1 w (by omega) hb).mono ?_
  rintro e w1 ⟨rfl, r1, o1⟩
  go_wp2_with fail
  go_ret2
  exact ⟨ret2 (by congr 1; try omega) rfl, r1, o1⟩
set_option maxHeartbeats 400000 in
theorem rInt_any (b : Nat) (st : RS) (w : World) (hb : RrAt b st w) :
    Calls Try.prog 89 #[.pointer (some ⟨b, 0, none⟩)] w fun e w' => e = .returned (.tuple #[.int .i64 (wrap64 (st.num 8).1), .int .i64 (st.num 8).2.e]) ∧ RrAt b (st.num 8).2 w' ∧ Only w w' b := by
  go_enter Try.func89, Try.ntmps89
  go_wp2_with fail
  refine (roff_any b st 8 w (by omega) hb).mono ?_
  rintro e w1 ⟨rfl, r1, o1⟩
  go_wp2_with fail
  go_ret2
  exact ⟨rfl, r1, o1⟩

set_option maxHeartbeats 400000 in
theorem rText_any (b : Nat) (st : RS) (w : World) (hb : RrAt b st w) :
    Calls Try.prog 90 #[.pointer (some ⟨b, 0, none⟩)] w fun e w' => e = .returned (.tuple #[.string ⟨st.text.1.toArray⟩, .int .i64 st.text.2.e]) ∧ RrAt b st.text.2 w' ∧ Only w w' b := by
  obtain ⟨m, hm⟩ : ∃ m, m = st.text := ⟨_, rfl⟩
  rw [← hm]
  rw [text_num] at hm
  have hn8 := num2_le st
  have K := Lib.hid (roff_any b st 2 w (by omega) hb)
  generalize st.num 2 = p at *
  obtain ⟨n, s, e⟩ := p
  obtain ⟨n0, n1⟩ := hn8
  dsimp only at *
  by_cases he : e = 0
  · subst he
    rw [if_neg (by simp)] at hm
    by_cases h0 : 2048 < n
    · rw [if_pos h0] at hm
      subst hm
      have hd : decide (2048 < n) = true := decide_eq_true h0
      go_enter Try.func90, Try.ntmps90
      go_wp2_with fail
      refine Calls.mono K.out ?_
      rintro e w1 ⟨rfl, r1, o1⟩
      go_wp2_with fail
      refine (rwrong_any b _ 40 w1 r1).mono ?_
      rintro e w2 ⟨rfl, r2, o2⟩
      go_wp2_with fail
      go_ret2
      exact ⟨rfl, r2, o1.trans o2⟩
    · rw [if_neg h0] at hm
      have hd : decide (2048 < n) = false := decide_eq_false h0
      by_cases h1 : (s.length : Int) < n
      · rw [if_pos h1] at hm
        subst hm
        have hd2 : decide ((s.length : Int) < n) = true := decide_eq_true h1
        go_enter Try.func90, Try.ntmps90
        go_wp2_with fail
        refine Calls.mono K.out ?_
        rintro e w1 ⟨rfl, r1, o1⟩
        have c0 : w1.cell? ⟨b, 0, none⟩ = some (.string ⟨s.toArray⟩) := Blk.cell r1 0
        go_wp2_with fail
        refine (rwrong_any b _ 8 w1 r1).mono ?_
        rintro e w2 ⟨rfl, r2, o2⟩
        go_wp2_with fail
        go_ret2
        exact ⟨rfl, r2, o1.trans o2⟩
      · rw [if_neg h1] at hm
        have HM := Lib.hid hm
        clear hm
        have hd2 : decide ((s.length : Int) < n) = false := decide_eq_false h1
        obtain ⟨k, rfl⟩ : ∃ k : Nat, n = (k : Int) := ⟨n.toNat, by omega⟩
        go_enter Try.func90, Try.ntmps90
        go_wp2_with fail
        refine Calls.mono K.out ?_
        rintro e w1 ⟨rfl, r1, o1⟩
        have c0 : w1.cell? ⟨b, 0, none⟩ = some (.string ⟨s.toArray⟩) := Blk.cell r1 0
        have f0 : w1.frozen? ⟨b, 0, none⟩ = false := Blk.frozen r1 0
        have hks : k ≤ s.length := by omega
        go_wp2_with fail
        go_ret2
        rw [HM.out]
        exact ⟨rfl, Blk.set_ r1 0 _, o1.setc (.inl rfl) _⟩
  · rw [if_pos he] at hm
    subst hm
    have hd : (e != 0) = true := by simpa using he
    go_enter Try.func90, Try.ntmps90
    go_wp2_with fail
    refine Calls.mono K.out ?_
    rintro e w1 ⟨rfl, r1, o1⟩
    go_wp2_with fail
    go_ret2
    exact ⟨rfl, r1, o1⟩

set_option maxHeartbeats 400000 in
theorem rend_any (b : Nat) (st : RS) (w : World) (hb : RrAt b st w) :
    Calls Try.prog 92 #[.pointer (some ⟨b, 0, none⟩)] w fun e w' => e = .returned (.int .i64 st.fin.e) ∧ RrAt b st.fin w' ∧ Only w w' b := by
  obtain ⟨r, e⟩ := st
  have c0 : w.cell? ⟨b, 0, none⟩ = some (.string ⟨r.toArray⟩) := hb.cell 0
  have c1 : w.cell? ⟨b, 1, none⟩ = some (.int .i64 e) := hb.cell 1
  by_cases he : e = 0
  · subst he
    by_cases hr : r = []
    · subst hr
      have hf : RS.fin ⟨[], 0⟩ = ⟨[], 0⟩ := rfl
      rw [hf]
      clear hf
      go_enter Try.func92, Try.ntmps92
      go_wp2_with fail
      go_ret
      exact ⟨rfl, hb, Only.refl w b⟩
    · have hf : RS.fin ⟨r, 0⟩ = ⟨[], 10⟩ := by simp [RS.fin, hr]
      rw [hf]
      clear hf
      have hd : r.isEmpty = false := by simpa using hr
      go_enter Try.func92, Try.ntmps92
      go_wp2_with fail
      refine (rwrong_any b _ 10 w hb).mono ?_
      rintro e w2 ⟨rfl, r2, o2⟩
      go_wp2_with fail
      go_ret
      exact ⟨rfl, r2, o2⟩
  · have hf : RS.fin ⟨r, e⟩ = ⟨r, e⟩ := by simp [RS.fin, he]
    rw [hf]
    clear hf
    have hd : (e == 0) = false := by simpa using he
    go_enter Try.func92, Try.ntmps92
    go_wp2_with fail
    go_ret
    exact ⟨rfl, hb, Only.refl w b⟩
end Go.Proofs.Ytbibbndjnlnbiaa
namespace Go.Proofs.Ytbibbndjnlnbiaa
open Go.RowKit

theorem list_num (st : RS) : st.list = if (st.num 2).2.e ≠ 0 then ([], (st.num 2).2) else if 1024 < (st.num 2).1 then ([], ⟨[], 40⟩) else if ((st.num 2).2.r.length : Int) < 8 * (st.num 2).1 then ([], ⟨[], 8⟩) else (nums (st.num 2).1.toNat (st.num 2).2.r, ⟨(st.num 2).2.r.drop (8 * (st.num 2).1.toNat), 0⟩) := by
  obtain ⟨r, e⟩ := st
  by_cases he : e = 0
  · subst he
    by_cases h2 : r.length < 2
    · rw [num_cut h2]
      simp [RS.list, h2]
    · have hn : RS.num 2 ⟨r, 0⟩ = (((val (r.take 2) : Nat) : Int), (⟨r.drop 2, 0⟩ : RS)) := by
        unfold RS.num
        rw [if_neg (by simp), if_neg (by simpa using h2)]
      rw [hn]
      unfold RS.list
      dsimp only
      rw [if_neg (by simp), if_neg (by simpa using h2), if_neg (c := (0 : Int) ≠ 0) (by simp)]
      by_cases h3 : 1024 < val (r.take 2)
      · rw [if_pos h3, if_pos (by omega)]
      · rw [if_neg h3, if_neg (c := (1024 : Int) < ((val (r.take 2) : Nat) : Int)) (by omega)]
        by_cases h4 : r.length < 2 + 8 * val (r.take 2)
        · rw [if_pos h4, if_pos (by simp; omega)]
        · rw [if_neg h4, if_neg (by simp; omega), Int.toNat_natCast, List.drop_drop]
  · have hn : RS.num 2 ⟨r, e⟩ = ((0 : Int), (⟨r, e⟩ : RS)) := by
      unfold RS.num
      rw [if_pos he]
    rw [hn]
    simp [RS.list, he]

def RListPost (b : Nat) (xn : Nat) (xs : List Value) (st : RS) (w : World) (f : Ending) (w' : World) : Prop :=
  ∃ xa xc, f = .returned (.tuple #[.slice xa xn xc, .int .i64 st.e]) ∧ w'.ownsRow w.heap.size 56 1 (.slice xa xn xc) xn xs ∧ RrAt b st w' ∧ Only w w' b

set_option maxRecDepth 100000 in
set_option maxHeartbeats 800000 in
theorem rList_any (b : Nat) (st : RS) (w : World) (hb : RrAt b st w) :
    Calls Try.prog 91 #[.pointer (some ⟨b, 0, none⟩)] w (RListPost b st.list.1.length (st.list.1.map (.int .u64)) st.list.2 w) := by
  obtain ⟨m, hm⟩ : ∃ m, m = st.list := ⟨_, rfl⟩
  rw [← hm]
  rw [list_num] at hm
  have hn8 := num2_le st
  have K := Lib.hid (roff_any b st 2 w (by omega) hb)
  generalize st.num 2 = p at *
  obtain ⟨n, s, e⟩ := p
  obtain ⟨n0, n1⟩ := hn8
  dsimp only at *
  by_cases he : e = 0
  · subst he
    rw [if_neg (by simp)] at hm
    by_cases h0 : 1024 < n
    · rw [if_pos h0] at hm
      subst hm
      have hd : decide (1024 < n) = true := decide_eq_true h0
      go_enter Try.func91, Try.ntmps91
      go_wp2_with fail
      refine Calls.mono K.out ?_
      rintro e w1 ⟨rfl, r1, o1⟩
      go_wp2_with fail
      refine (rwrong_any b _ 40 w1 r1).mono ?_
      rintro e w2 ⟨rfl, r2, o2⟩
      go_wp2_with fail
      go_ret2
      exact ⟨none, 0, rfl, World.ownsRow_nil _ _ _ _, r2, o1.trans o2⟩
    · rw [if_neg h0] at hm
      have hd : decide (1024 < n) = false := decide_eq_false h0
      obtain ⟨k, rfl⟩ : ∃ k : Nat, n = (k : Int) := ⟨n.toNat, by omega⟩
      rw [Int.toNat_natCast] at hm
      have HM := Lib.hid hm
      clear hm
      obtain ⟨i0, hi, hz0, hz1, hz2⟩ := info_parts info64
      go_enter Try.func91, Try.ntmps91
      go_wp2_with fail
      refine Calls.mono K.out ?_
      rintro e w1 ⟨rfl, r1, o1⟩
      clear K
      go_wp2_with fail
      go_loopw [6, 7] (fun v i wr => ∃ (j : Nat) (xa : Option Addr) (xc : Nat), j ≤ k ∧ 8 * j ≤ s.length ∧ i = .int .i64 j ∧ v = .slice xa j xc ∧ wr.ownsRow w.heap.size 56 1 (.slice xa j xc) j ((nums j s).map (.int .u64)) ∧ RrAt b ⟨s.drop (8 * j), 0⟩ wr ∧ Only w wr b) (fun _ i _ => k - (intOf i).toNat)
      case atStart => exact ⟨0, none, 0, Nat.zero_le _, Nat.zero_le _, rfl, rfl, World.ownsRow_nil _ _ _ _, r1, o1⟩
      case round =>
        obtain ⟨j, xa, xc, hj, hjs, rfl, rfl, hown, hr, ho⟩ := hrel
        by_cases hlt : j < k
        · have hoff := roff_any b ⟨s.drop (8 * j), 0⟩ 8 wr (by omega) hr
          by_cases hshort : s.length < 8 * (j + 1)
          · rw [num_cut (by rw [List.length_drop]; omega)] at hoff
            have HO := Lib.hid hoff
            clear hoff
            go_wp2_with fail
            refine Calls.mono HO.out ?_
            rintro e w2 ⟨rfl, r2, o2⟩
            go_wp2_with fail
            go_ret2
            rw [HM.out, if_pos (by omega)]
            exact ⟨none, 0, rfl, World.ownsRow_nil _ _ _ _, r2, ho.trans o2⟩
          · have hn : RS.num 8 ⟨s.drop (8 * j), 0⟩ = (((val ((s.drop (8 * j)).take 8) : Nat) : Int), (⟨(s.drop (8 * j)).drop 8, 0⟩ : RS)) := by
              unfold RS.num
              rw [if_neg (by simp), if_neg (by simp; omega)]
            rw [hn] at hoff
            obtain ⟨x, hx⟩ : ∃ x : Int, x = (val ((s.drop (8 * j)).take 8) : Nat) := ⟨_, rfl⟩
            rw [← hx, List.drop_drop] at hoff
            have HO := Lib.hid hoff
            have HX := Lib.hid hx
            have hnl := nums_length j s
            clear hoff hn hx
            go_wp2_with fail
            refine Calls.mono HO.out ?_
            rintro e w3 ⟨rfl, hp3, o3⟩
            have hown3 := hown.kept o3 (own_ne hown hr (by decide))
            have ho3 := ho.trans o3
            have hs3 := ho3.size
            clear HO hown ho hr o3
            go_wp2_with (at_builtin; refine wpList_append_own_at _ rfl (.tmp 36) (.tmp 38) 30 rfl w.heap.size 56 i0 (.int .u64 0) 1 8 Try.underlying30 hi hz0 hz1 hz2 rfl (by decide) _ _ _ rfl (hown3.alloc _) ⟨w3.heap.size, 0, none⟩ 1 1 [.int .u64 x] rfl rfl (cell_one_new _ _ _) ?_ ?_ ?_ ?_ ?_)
            case refine_1 => intro u hu; simp at hu; subst hu; rfl
            case refine_2 => simp only [maxLen]; omega
            case refine_3 => omega
            case refine_4 => simp only [asz]; omega
            intro v' w4 hown4 hg4 _ hat4
            obtain ⟨xa', xc', rfl⟩ := own_slice hown4
            have ro := ho3.alloc (.cells #[.int .u64 x] 56) |>.grow hg4 (own_lt hown3)
            have rp := (Blk.alloc hp3 (.cells #[.int .u64 x] 56)).grown hg4 (own_ne' hown3 hp3 (by decide))
            clear hg4 hat4 hown3 ho3 hp3
            go_wp2_with fail
            go_roundw
            case rel =>
              refine ⟨j + 1, xa', xc', by omega, by omega, by go_num, rfl, ?_, ?_, ro⟩
              · rw [nums_succ, List.map_append, ← HX.out]
                exact hown4
              · exact rp
            case measure => simp [intOf]; omega
        · have hje : j = k := by omega
          subst hje
          have hnl := nums_length j s
          go_wp2_with fail
          go_ret2
          rw [HM.out, if_neg (by omega)]
          dsimp only
          rw [hnl]
          exact ⟨xa, xc, rfl, hown, hr, ho⟩
  · rw [if_pos he] at hm
    subst hm
    have hd : (e != 0) = true := by simpa using he
    go_enter Try.func91, Try.ntmps91
    go_wp2_with fail
    refine Calls.mono K.out ?_
    rintro e w1 ⟨rfl, r1, o1⟩
    go_wp2_with fail
    go_ret2
    exact ⟨none, 0, rfl, World.ownsRow_nil _ _ _ _, r1, o1⟩
end Go.Proofs.Ytbibbndjnlnbiaa
