/-
  consistoryref09.Reader.List; consistoryref03.Numbers.
-/
import Derived.Test.YtbibbndjnlnbiaaRefR2
namespace Go.Proofs.Ytbibbndjnlnbiaa
open Go.RowKit

theorem list_num (st : RS) : st.list = if (st.num 2).2.e ≠ 0 then ([], (st.num 2).2) else if 1024 < (st.num 2).1 then ([], ⟨[], 40⟩) else if ((st.num 2).2.r.length : Int) < 8 * (st.num 2).1 then ([], ⟨[], 8⟩) else (nums (st.num 2).1.toNat (st.num 2).2.r, ⟨(st.num 2).2.r.drop (8 * (st.num 2).1.toNat), 0⟩) := by
  obtain ⟨r, e⟩ := st
  by_cases he : e = 0
  · subst he
    by_cases h2 : r.length < 2
    · rw [num_cut h2]
      simp [RS.list, h2]
    · have hn : RS.num 2 ⟨r, 0⟩ = (((val (r.take 2) : Nat) : Int), (⟨r.drop 2, 0⟩ : RS)) := by
        unfold RS.num
        rw [if_neg (by simp), if_neg (by simpa using h2)]
      rw [hn]
      unfold RS.list
      dsimp only
      rw [if_neg (by simp), if_neg (by simpa using h2), if_neg (c := (0 : Int) ≠ 0) (by simp)]
      by_cases h3 : 1024 < val (r.take 2)
      · rw [if_pos h3, if_pos (by omega)]
      · rw [if_neg h3, if_neg (c := (1024 : Int) < ((val (r.take 2) : Nat) : Int)) (by omega)]
        by_cases h4 : r.length < 2 + 8 * val (r.take 2)
        · rw [if_pos h4, if_pos (by simp; omega)]
        · rw [if_neg h4, if_neg (by simp; omega), Int.toNat_natCast, List.drop_drop]
  · have hn : RS.num 2 ⟨r, e⟩ = ((0 : Int), (⟨r, e⟩ : RS)) := by
      unfold RS.num
      rw [if_pos he]
    rw [hn]
    simp [RS.list, he]

def RListPost (b : Nat) (xn : Nat) (xs : List Value) (st : RS) (w : World) (f : Ending) (w' : World) : Prop :=
  ∃ xa xc, f = .returned (.tuple #[.slice xa xn xc, .int .i64 st.e]) ∧ w'.ownsRow w.heap.size 56 1 (.slice xa xn xc) xn xs ∧ RrAt b st w' ∧ Only w w' b

set_option maxRecDepth 100000 in
set_option maxHeartbeats 800000 in
theorem rList_any (b : Nat) (st : RS) (w : World) (hb : RrAt b st w) :
    Calls Try.prog 91 #[.pointer (some ⟨b, 0, none⟩)] w (RListPost b st.list.1.length (st.list.1.map (.int .u64)) st.list.2 w) := by
  obtain ⟨m, hm⟩ : ∃ m, m = st.list := ⟨_, rfl⟩
  rw [← hm]
  rw [list_num] at hm
  have hn8 := num2_le st
  have K := Lib.hid (roff_any b st 2 w (by omega) hb)
  generalize st.num 2 = p at *
  obtain ⟨n, s, e⟩ := p
  obtain ⟨n0, n1⟩ := hn8
  dsimp only at *
  by_cases he : e = 0
  · subst he
    rw [if_neg (by simp)] at hm
    by_cases h0 : 1024 < n
    · rw [if_pos h0] at hm
      subst hm
      have hd : decide (1024 < n) = true := decide_eq_true h0
      go_enter Try.func91, Try.ntmps91
      go_wp2_with fail
      refine Calls.mono K.out ?_
      rintro e w1 ⟨rfl, r1, o1⟩
      go_wp2_with fail
      refine (rwrong_any b _ 40 w1 r1).mono ?_
      rintro e w2 ⟨rfl, r2, o2⟩
      go_wp2_with fail
      go_ret2
      exact ⟨none, 0, rfl, World.ownsRow_nil _ _ _ _, r2, o1.trans o2⟩
    · rw [if_neg h0] at hm
      have hd : decide (1024 < n) = false := decide_eq_false h0
      obtain ⟨k, rfl⟩ : ∃ k : Nat, n = (k : Int) := ⟨n.toNat, by omega⟩
      rw [Int.toNat_natCast] at hm
      have HM := Lib.hid hm
      clear hm
      obtain ⟨i0, hi, hz0, hz1, hz2⟩ := info_parts info64
      go_enter Try.func91, Try.ntmps91
      go_wp2_with fail
      refine Calls.mono K.out ?_
      rintro e w1 ⟨rfl, r1, o1⟩
      clear K
      go_wp2_with fail
      go_loopw [6, 7] (fun v i wr => ∃ (j : Nat) (xa : Option Addr) (xc : Nat), j ≤ k ∧ 8 * j ≤ s.length ∧ i = .int .i64 j ∧ v = .slice xa j xc ∧ wr.ownsRow w.heap.size 56 1 (.slice xa j xc) j ((nums j s).map (.int .u64)) ∧ RrAt b ⟨s.drop (8 * j), 0⟩ wr ∧ Only w wr b) (fun _ i _ => k - (intOf i).toNat)
      case atStart => exact ⟨0, none, 0, Nat.zero_le _, Nat.zero_le _, rfl, rfl, World.ownsRow_nil _ _ _ _, r1, o1⟩
      case round =>
        obtain ⟨j, xa, xc, hj, hjs, rfl, rfl, hown, hr, ho⟩ := hrel
        by_cases hlt : j < k
        · have hoff := roff_any b ⟨s.drop (8 * j), 0⟩ 8 wr (by omega) hr
          by_cases hshort : s.length < 8 * (j + 1)
          · rw [num_cut (by rw [List.length_drop]; omega)] at hoff
            have HO := Lib.hid hoff
            clear hoff
            go_wp2_with fail
            refine Calls.mono HO.out ?_
            rintro e w2 ⟨rfl, r2, o2⟩
            go_wp2_with fail
            go_ret2
            rw [HM.out, if_pos (by omega)]
            exact ⟨none, 0, rfl, World.ownsRow_nil _ _ _ _, r2, ho.trans o2⟩
          · have hn : RS.num 8 ⟨s.drop (8 * j), 0⟩ = (((val ((s.drop (8 * j)).take 8) : Nat) : Int), (⟨(s.drop (8 * j)).drop 8, 0⟩ : RS)) := by
              unfold RS.num
              rw [if_neg (by simp), if_neg (by simp; omega)]
            rw [hn] at hoff
            obtain ⟨x, hx⟩ : ∃ x : Int, x = (val ((s.drop (8 * j)).take 8) : Nat) := ⟨_, rfl⟩
            rw [← hx, List.drop_drop] at hoff
            have HO := Lib.hid hoff
            have HX := Lib.hid hx
            have hnl := nums_length j s
            clear hoff hn hx
            go_wp2_with fail
            refine Calls.mono HO.out ?_
            rintro e w3 ⟨rfl, hp3, o3⟩
            have hown3 := hown.kept o3 (own_ne hown hr (by decide))
            have ho3 := ho.trans o3
            have hs3 := ho3.size
            clear HO hown ho hr o3
            go_wp2_with (at_builtin; refine wpList_append_own_at _ rfl (.tmp 36) (.tmp 38) 30 rfl w.heap.size 56 i0 (.int .u64 0) 1 8 Try.underlying30 hi hz0 hz1 hz2 rfl (by decide) _ _ _ rfl (hown3.alloc _) ⟨w3.heap.size, 0, none⟩ 1 1 [.int .u64 x] rfl rfl (cell_one_new _ _ _) ?_ ?_ ?_ ?_ ?_)
            case refine_1 => intro u hu; simp at hu; subst hu; rfl
            case refine_2 => simp only [maxLen]; omega
            case refine_3 => omega
            case refine_4 => simp only [asz]; omega
            intro v' w4 hown4 hg4 _ hat4
            obtain ⟨xa', xc', rfl⟩ := own_slice hown4
            have ro := ho3.alloc (.cells #[.int .u64 x] 56) |>.grow hg4 (own_lt hown3)
            have rp := (Blk.alloc hp3 (.cells #[.int .u64 x] 56)).grown hg4 (own_ne' hown3 hp3 (by decide))
            clear hg4 hat4 hown3 ho3 hp3
            go_wp2_with fail
            go_roundw
            case rel =>
              refine ⟨j + 1, xa', xc', by omega, by omega, by go_num, rfl, ?_, ?_, ro⟩
              · rw [nums_succ, List.map_append, ← HX.out]
                exact hown4
              · exact rp
            case measure => simp [intOf]; omega
        · have hje : j = k := by omega
          subst hje
          have hnl := nums_length j s
          go_wp2_with fail
          go_ret2
          rw [HM.out, if_neg (by omega)]
          dsimp only
          rw [hnl]
          exact ⟨xa, xc, rfl, hown, hr, ho⟩
  · rw [if_pos he] at hm
    subst hm
    have hd : (e != 0) = true := by simpa using he
    go_enter Try.func91, Try.ntmps91
    go_wp2_with fail
    refine Calls.mono K.out ?_
    rintro e w1 ⟨rfl, r1, o1⟩
    go_wp2_with fail
    go_ret2
    exact ⟨none, 0, rfl, World.ownsRow_nil _ _ _ _, r1, o1⟩
end Go.Proofs.Ytbibbndjnlnbiaa
