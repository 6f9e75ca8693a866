/-
  consistoryref09.Reader: Byte, Num, Int, Count, Text, List, End.
-/
import Derived.Test.YtbibbndjnlnbiaaRefR
namespace Go.Proofs.Ytbibbndjnlnbiaa
open Go.RowKit

/-- The plain reader's answers, out of numbers alone. -/
theorem text_num (st : RS) : st.text = if (st.num 2).2.e ≠ 0 then ([], (st.num 2).2) else if 2048 < (st.num 2).1 then ([], ⟨[], 40⟩) else if ((st.num 2).2.r.length : Int) < (st.num 2).1 then ([], ⟨[], 8⟩) else ((st.num 2).2.r.take (st.num 2).1.toNat, ⟨(st.num 2).2.r.drop (st.num 2).1.toNat, 0⟩) := by
  obtain ⟨r, e⟩ := st
  by_cases he : e = 0
  · subst he
    by_cases h2 : r.length < 2
    · rw [num_cut h2]
      simp [RS.text, h2]
    · have hn : RS.num 2 ⟨r, 0⟩ = (((val (r.take 2) : Nat) : Int), (⟨r.drop 2, 0⟩ : RS)) := by
        unfold RS.num
        rw [if_neg (by simp), if_neg (by simpa using h2)]
      rw [hn]
      unfold RS.text
      dsimp only
      rw [if_neg (by simp), if_neg (by simpa using h2), if_neg (c := (0 : Int) ≠ 0) (by simp)]
      by_cases h3 : 2048 < val (r.take 2)
      · rw [if_pos h3, if_pos (by omega)]
      · rw [if_neg h3, if_neg (c := (2048 : Int) < ((val (r.take 2) : Nat) : Int)) (by omega)]
        by_cases h4 : r.length < 2 + val (r.take 2)
        · rw [if_pos h4, if_pos (by simp; omega)]
        · rw [if_neg h4, if_neg (by simp; omega), Int.toNat_natCast, List.drop_drop]
  · have hn : RS.num 2 ⟨r, e⟩ = ((0 : Int), (⟨r, e⟩ : RS)) := by
      unfold RS.num
      rw [if_pos he]
    rw [hn]
    simp [RS.text, he]
theorem count_num (m : Int) (st : RS) : st.count m = if (st.num 8).2.e ≠ 0 then (0, (st.num 8).2) else if m < 0 ∨ m < (st.num 8).1 then (0, ⟨[], 4⟩) else st.num 8 := by
  obtain ⟨r, e⟩ := st
  by_cases he : e = 0
  · subst he
    by_cases h2 : r.length < 8
    · rw [num_cut h2]
      simp [RS.count, h2]
    · have hn : RS.num 8 ⟨r, 0⟩ = (((val (r.take 8) : Nat) : Int), (⟨r.drop 8, 0⟩ : RS)) := by
        unfold RS.num
        rw [if_neg (by simp), if_neg (by simpa using h2)]
      rw [hn]
      unfold RS.count
      dsimp only
      rw [if_neg (by simp), if_neg (by simpa using h2), if_neg (c := (0 : Int) ≠ 0) (by simp)]
  · have hn : RS.num 8 ⟨r, e⟩ = ((0 : Int), (⟨r, e⟩ : RS)) := by
      unfold RS.num
      rw [if_pos he]
    rw [hn]
    simp [RS.count, he]
theorem num2_le (st : RS) : 0 ≤ (st.num 2).1 ∧ (st.num 2).1 ≤ 65535 := by
  unfold RS.num
  split
  · simp
  split
  · simp
  · have := val_lt (st.r.take 2)
    rw [List.length_take_of_le (by omega)] at this
    have e : (256 : Nat) ^ 2 = 65536 := by decide
    dsimp only
    omega

set_option maxHeartbeats 400000 in
theorem rByte_any (b : Nat) (st : RS) (w : World) (hb : RrAt b st w) :
    Calls Try.prog 88 #[.pointer (some ⟨b, 0, none⟩)] w fun e w' => e = .returned (.tuple #[.int .u8 (st.num 1).1, .int .i64 (st.num 1).2.e]) ∧ RrAt b (st.num 1).2 w' ∧ Only w w' b := by
  obtain ⟨h0, h1⟩ := num1_le st
  go_enter Try.func88, Try.ntmps88
  go_wp2_with fail
  refine (roff_any b st 1 w (by omega) hb).mono ?_
  rintro e w1 ⟨rfl, r1, o1⟩
  go_wp2_with fail
  go_ret2
  exact ⟨ret2 (by congr 1; try omega) rfl, r1, o1⟩
set_option maxHeartbeats 400000 in
theorem rInt_any (b : Nat) (st : RS) (w : World) (hb : RrAt b st w) :
    Calls Try.prog 89 #[.pointer (some ⟨b, 0, none⟩)] w fun e w' => e = .returned (.tuple #[.int .i64 (wrap64 (st.num 8).1), .int .i64 (st.num 8).2.e]) ∧ RrAt b (st.num 8).2 w' ∧ Only w w' b := by
  go_enter Try.func89, Try.ntmps89
  go_wp2_with fail
  refine (roff_any b st 8 w (by omega) hb).mono ?_
  rintro e w1 ⟨rfl, r1, o1⟩
  go_wp2_with fail
  go_ret2
  exact ⟨rfl, r1, o1⟩

set_option maxHeartbeats 400000 in
theorem rText_any (b : Nat) (st : RS) (w : World) (hb : RrAt b st w) :
    Calls Try.prog 90 #[.pointer (some ⟨b, 0, none⟩)] w fun e w' => e = .returned (.tuple #[.string ⟨st.text.1.toArray⟩, .int .i64 st.text.2.e]) ∧ RrAt b st.text.2 w' ∧ Only w w' b := by
  obtain ⟨m, hm⟩ : ∃ m, m = st.text := ⟨_, rfl⟩
  rw [← hm]
  rw [text_num] at hm
  have hn8 := num2_le st
  have K := Lib.hid (roff_any b st 2 w (by omega) hb)
  generalize st.num 2 = p at *
  obtain ⟨n, s, e⟩ := p
  obtain ⟨n0, n1⟩ := hn8
  dsimp only at *
  by_cases he : e = 0
  · subst he
    rw [if_neg (by simp)] at hm
    by_cases h0 : 2048 < n
    · rw [if_pos h0] at hm
      subst hm
      have hd : decide (2048 < n) = true := decide_eq_true h0
      go_enter Try.func90, Try.ntmps90
      go_wp2_with fail
      refine Calls.mono K.out ?_
      rintro e w1 ⟨rfl, r1, o1⟩
      go_wp2_with fail
      refine (rwrong_any b _ 40 w1 r1).mono ?_
      rintro e w2 ⟨rfl, r2, o2⟩
      go_wp2_with fail
      go_ret2
      exact ⟨rfl, r2, o1.trans o2⟩
    · rw [if_neg h0] at hm
      have hd : decide (2048 < n) = false := decide_eq_false h0
      by_cases h1 : (s.length : Int) < n
      · rw [if_pos h1] at hm
        subst hm
        have hd2 : decide ((s.length : Int) < n) = true := decide_eq_true h1
        go_enter Try.func90, Try.ntmps90
        go_wp2_with fail
        refine Calls.mono K.out ?_
        rintro e w1 ⟨rfl, r1, o1⟩
        have c0 : w1.cell? ⟨b, 0, none⟩ = some (.string ⟨s.toArray⟩) := Blk.cell r1 0
        go_wp2_with fail
        refine (rwrong_any b _ 8 w1 r1).mono ?_
        rintro e w2 ⟨rfl, r2, o2⟩
        go_wp2_with fail
        go_ret2
        exact ⟨rfl, r2, o1.trans o2⟩
      · rw [if_neg h1] at hm
        have HM := Lib.hid hm
        clear hm
        have hd2 : decide ((s.length : Int) < n) = false := decide_eq_false h1
        obtain ⟨k, rfl⟩ : ∃ k : Nat, n = (k : Int) := ⟨n.toNat, by omega⟩
        go_enter Try.func90, Try.ntmps90
        go_wp2_with fail
        refine Calls.mono K.out ?_
        rintro e w1 ⟨rfl, r1, o1⟩
        have c0 : w1.cell? ⟨b, 0, none⟩ = some (.string ⟨s.toArray⟩) := Blk.cell r1 0
        have f0 : w1.frozen? ⟨b, 0, none⟩ = false := Blk.frozen r1 0
        have hks : k ≤ s.length := by omega
        go_wp2_with fail
        go_ret2
        rw [HM.out]
        exact ⟨rfl, Blk.set_ r1 0 _, o1.setc (.inl rfl) _⟩
  · rw [if_pos he] at hm
    subst hm
    have hd : (e != 0) = true := by simpa using he
    go_enter Try.func90, Try.ntmps90
    go_wp2_with fail
    refine Calls.mono K.out ?_
    rintro e w1 ⟨rfl, r1, o1⟩
    go_wp2_with fail
    go_ret2
    exact ⟨rfl, r1, o1⟩

set_option maxHeartbeats 400000 in
theorem rend_any (b : Nat) (st : RS) (w : World) (hb : RrAt b st w) :
    Calls Try.prog 92 #[.pointer (some ⟨b, 0, none⟩)] w fun e w' => e = .returned (.int .i64 st.fin.e) ∧ RrAt b st.fin w' ∧ Only w w' b := by
  obtain ⟨r, e⟩ := st
  have c0 : w.cell? ⟨b, 0, none⟩ = some (.string ⟨r.toArray⟩) := hb.cell 0
  have c1 : w.cell? ⟨b, 1, none⟩ = some (.int .i64 e) := hb.cell 1
  by_cases he : e = 0
  · subst he
    by_cases hr : r = []
    · subst hr
      have hf : RS.fin ⟨[], 0⟩ = ⟨[], 0⟩ := rfl
      rw [hf]
      clear hf
      go_enter Try.func92, Try.ntmps92
      go_wp2_with fail
      go_ret
      exact ⟨rfl, hb, Only.refl w b⟩
    · have hf : RS.fin ⟨r, 0⟩ = ⟨[], 10⟩ := by simp [RS.fin, hr]
      rw [hf]
      clear hf
      have hd : r.isEmpty = false := by simpa using hr
      go_enter Try.func92, Try.ntmps92
      go_wp2_with fail
      refine (rwrong_any b _ 10 w hb).mono ?_
      rintro e w2 ⟨rfl, r2, o2⟩
      go_wp2_with fail
      go_ret
      exact ⟨rfl, r2, o2⟩
  · have hf : RS.fin ⟨r, e⟩ = ⟨r, e⟩ := by simp [RS.fin, he]
    rw [hf]
    clear hf
    have hd : (e == 0) = false := by simpa using he
    go_enter Try.func92, Try.ntmps92
    go_wp2_with fail
    go_ret
    exact ⟨rfl, hb, Only.refl w b⟩
end Go.Proofs.Ytbibbndjnlnbiaa
