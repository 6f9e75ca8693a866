/-
  wire.Reader: Count and List.
-/
import Derived.Test.YtdnkijljpmcejaaMeth
import Derived.Test.YtdnkijljpmcejaaRdList
import Derived.Maps.AppendAt
import Derived.Deep.AppendLies
namespace Go.Proofs.Ytdnkijljpmcejaa
open Go.RowKit

set_option maxRecDepth 100000 in
set_option maxHeartbeats 400000 in
theorem count_body_ok (q mb : Nat) (most : Int) (r : List UInt8) (w : World) (hq : PartAt q r w) (hm : Blk w mb 3 #[.int .i64 most]) (h2 : 8 ≤ r.length) (hi : I64 most) (h0 : ¬ (most < 0 ∨ most < (val (r.take 8) : Nat))) :
    Calls Try.prog 100 #[.pointer (some ⟨q, 0, none⟩), .pointer (some ⟨mb, 0, none⟩)] w fun f w' => f = .returned (.int .i64 (val (r.take 8) : Nat)) ∧ PartAt q (r.drop 8) w' ∧ Only w w' q := by
  go_enter Try.func100, Try.ntmps100
  go_wp2_with fail
  refine (number_ok q r 8 w hq h2 (by omega)).mono ?_
  rintro e w1 ⟨rfl, hp1, o1⟩
  have hm1 := (hm.grown o1 (some_ne (hm.ne_ hq (by decide)))).cell 0
  have hmc : w1.cell? ⟨mb, 0, none⟩ = some (.int .i64 most) := hm1
  have h1 : 0 ≤ most := by omega
  have h3 : ((val (r.take 8) : Nat) : Int) ≤ most := by omega
  have h4 := hi.2
  clear h0 hm1
  go_wp2_with fail
  refine (need_ok 4 w1).mono ?_
  rintro e w2 ⟨rfl, rfl⟩
  go_wp2_with fail
  go_ret
  exact ⟨rfl, hp1, o1⟩

set_option maxRecDepth 100000 in
set_option maxHeartbeats 400000 in
theorem count_body_form (q mb : Nat) (most : Int) (r : List UInt8) (w : World) (hq : PartAt q r w) (hm : Blk w mb 3 #[.int .i64 most]) (h2 : 8 ≤ r.length) (hi : I64 most) (h0 : most < 0 ∨ most < (val (r.take 8) : Nat)) :
    Calls Try.prog 100 #[.pointer (some ⟨q, 0, none⟩), .pointer (some ⟨mb, 0, none⟩)] w fun f w' => f = .panicked [lack 4] ∧ Only w w' q := by
  have hv := val8_lt (l := r.take 8) (by simp; omega)
  by_cases h1 : most < 0
  · clear h0
    go_enter Try.func100, Try.ntmps100
    go_wp2_with fail
    refine (number_ok q r 8 w hq h2 (by omega)).mono ?_
    rintro e w1 ⟨rfl, hp1, o1⟩
    have hm1 := (hm.grown o1 (some_ne (hm.ne_ hq (by decide)))).cell 0
    have hmc : w1.cell? ⟨mb, 0, none⟩ = some (.int .i64 most) := hm1
    have h4 := hi.1
    clear hm1
    go_wp2_with fail
    refine (need_no 4 w1).mono ?_
    rintro e w2 ⟨rfl, rfl⟩
    go_wp2_with fail
    exact ⟨rfl, rfl, o1⟩
  · have h3 : most < (val (r.take 8) : Nat) := by omega
    have h5 : 0 ≤ most := by omega
    have h6 := hv.2
    have h7 : decide (((val (r.take 8) : Nat) : Int) ≤ most) = false := by simp; omega
    clear h0 h1
    go_enter Try.func100, Try.ntmps100
    go_wp2_with fail
    refine (number_ok q r 8 w hq h2 (by omega)).mono ?_
    rintro e w1 ⟨rfl, hp1, o1⟩
    have hm1 := (hm.grown o1 (some_ne (hm.ne_ hq (by decide)))).cell 0
    have hmc : w1.cell? ⟨mb, 0, none⟩ = some (.int .i64 most) := hm1
    have h4 := hi.2
    clear hm1
    go_wp2_with fail
    refine (need_no 4 w1).mono ?_
    rintro e w2 ⟨rfl, rfl⟩
    go_wp2_with fail
    exact ⟨rfl, rfl, o1⟩

theorem count_body_short (q mb : Nat) (r : List UInt8) (w : World) (hq : PartAt q r w) (h2 : r.length < 8) :
    Calls Try.prog 100 #[.pointer (some ⟨q, 0, none⟩), .pointer (some ⟨mb, 0, none⟩)] w fun f w' => f = .panicked [lack 8] ∧ Only w w' q := by
  go_enter Try.func100, Try.ntmps100
  go_wp2_with fail
  refine (number_no q r 8 w hq h2).mono ?_
  rintro e w1 ⟨rfl, rfl⟩
  go_wp2_with fail
  exact ⟨rfl, rfl, Only.refl _ _⟩

theorem Count_read (b mb : Nat) (most : Int) (st : RS) (w : World) (hb : RdAt b st w) (hm : Blk w mb 3 #[.int .i64 most]) (hi : I64 most) :
    Calls Try.prog 99 #[.pointer (some ⟨b, 0, none⟩), .func (.func 100) #[] #[.pointer (some ⟨mb, 0, none⟩)]] w fun e w' => e = .returned (.tuple #[.int .i64 (st.count most).1, .int .i64 (st.count most).2.e]) ∧ RdAt b (st.count most).2 w' ∧ Only w w' b := by
  obtain ⟨r, e⟩ := st
  unfold RS.count
  by_cases he : e = 0
  · subst he
    by_cases hr : r.length < 8
    · simp only [ne_eq, not_true, if_false, hr, if_true]
      exact read_count_no b r 8 mb w hb fun q w' hq _ => count_body_short q mb r w' hq hr
    by_cases hx : most < 0 ∨ most < (val (r.take 8) : Nat)
    · simp only [ne_eq, not_true, if_false, hr, hx, if_true]
      exact read_count_no b r 4 mb w hb fun q w' hq h => count_body_form q mb most r w' hq (hm.kept h) (by omega) hi hx
    · simp only [ne_eq, not_true, if_false, hr, hx]
      exact read_count_ok b r (r.drop 8) _ mb w hb fun q w' hq h => count_body_ok q mb most r w' hq (hm.kept h) (by omega) hi hx
  · simp only [ne_eq, he, not_false_eq_true, if_true]
    exact read_count_was b ⟨r, e⟩ mb w hb he

theorem Count_any (b : Nat) (most : Int) (st : RS) (w : World) (hb : RdAt b st w) (hi : I64 most) :
    Calls Try.prog 43 #[.pointer (some ⟨b, 0, none⟩), .int .i64 most] w fun e w' => e = .returned (.tuple #[.int .i64 (st.count most).1, .int .i64 (st.count most).2.e]) ∧ RdAt b (st.count most).2 w' ∧ Only w w' b := by
  have hmf : ∀ (fn : Fn) (first cap : Array Value) (w : World), (Instr.makeFunc fn first cap).run Try.prog w = .ok (.func fn first cap) w := fun _ _ _ _ => rfl
  have hb2 := Blk.alloc hb (.cells #[.int .i64 most] 3)
  have hm2 := Blk.new w 3 #[.int .i64 most]
  have H2 := Lib.hid (And.intro hb2 hm2)
  clear hb2 hm2
  go_enter Try.func43, Try.ntmps43
  go_wp2_with fail
  refine (Count_read b w.heap.size most st _ H2.out.1 H2.out.2 hi).mono ?_
  rintro e w1 ⟨rfl, h1, o1⟩
  go_wp2_with fail
  go_ret2
  exact ⟨rfl, h1, Only.trans ((Only.refl w b).alloc _) o1⟩
theorem Count_nil (most : Int) (w : World) :
    Calls Try.prog 43 #[.pointer none, .int .i64 most] w fun e w' => e = .returned (.tuple #[.int .i64 0, .int .i64 2]) ∧ Below w.heap.size w w' := by
  have hmf : ∀ (fn : Fn) (first cap : Array Value) (w : World), (Instr.makeFunc fn first cap).run Try.prog w = .ok (.func fn first cap) w := fun _ _ _ _ => rfl
  go_enter Try.func43, Try.ntmps43
  go_wp2_with fail
  refine (read_count_nil w.heap.size _).mono ?_
  rintro e w1 ⟨rfl, b1⟩
  go_wp2_with fail
  go_ret2
  exact ⟨rfl, ((Below.refl w.heap.size w).alloc (Nat.le_refl _) _).trans (b1.mono (by simp))⟩
theorem List_nil (w : World) :
    Calls Try.prog 45 #[.pointer none] w fun e w' => e = .returned (.tuple #[.slice none 0 0, .int .i64 2]) ∧ Below w.heap.size w w' := by
  have hmf : ∀ (fn : Fn) (first cap : Array Value) (w : World), (Instr.makeFunc fn first cap).run Try.prog w = .ok (.func fn first cap) w := fun _ _ _ _ => rfl
  go_enter Try.func45, Try.ntmps45
  go_wp2_with fail
  refine (read_list_nil w).mono ?_
  rintro e w1 ⟨rfl, b1⟩
  go_wp2_with fail
  go_ret2
  exact ⟨rfl, b1⟩

theorem info64 : (Try.prog.info? 22).map (fun i => (i.zero, i.size, i.bytes)) = some (some (.int .u64 0), 1, 8) := by kernel_rfl
set_option maxRecDepth 100000 in
set_option maxHeartbeats 400000 in
theorem list_body_ok (q : Nat) (r : List UInt8) (w : World) (hq : PartAt q r w) (h2 : 2 ≤ r.length) (hm : val (r.take 2) ≤ 1024) (hr : 2 + 8 * val (r.take 2) ≤ r.length) :
    Calls Try.prog 106 #[.pointer (some ⟨q, 0, none⟩)] w fun f w' => ∃ xa xc, f = .returned (.slice xa (val (r.take 2)) xc) ∧ w'.ownsRow w.heap.size 22 1 (.slice xa (val (r.take 2)) xc) (val (r.take 2)) ((nums (val (r.take 2)) (r.drop 2)).map (.int .u64)) ∧
      PartAt q (r.drop (2 + 8 * val (r.take 2))) w' ∧ Only w w' q := by
  obtain ⟨n, hn⟩ : ∃ n, n = val (r.take 2) := ⟨_, rfl⟩
  have hm' : n ≤ 1024 := by omega
  have hr' : 2 + 8 * n ≤ r.length := by omega
  clear hr
  rw [← hn]
  have HN := Lib.hid hn
  clear hn
  have hd : decide ((n : Int) * 8 ≤ ((r.length - 2 : Nat) : Int)) = true := by simp; omega
  go_enter Try.func106, Try.ntmps106
  go_wp2_with fail
  refine (length_ok q r 1024 w hq h2 hm (by omega)).mono ?_
  rintro e w1 ⟨rfl, hp1, o1⟩
  have hc1 : w1.cell? ⟨q, 0, none⟩ = some (.string ⟨(r.drop 2).toArray⟩) := hp1.cell 0
  rw [← HN.out]
  clear hm
  go_wp2_with fail
  refine (need_ok 8 w1).mono ?_
  rintro e w2 ⟨rfl, rfl⟩
  go_wp2_with fail
  obtain ⟨i0, hi, hz0, hz1, hz2⟩ := info_parts info64
  go_loopw [2, 16] (fun v i wr => ∃ (j : Nat) (xa : Option Addr) (xc : Nat), j ≤ n ∧ i = .int .i64 j ∧ v = .slice xa j xc ∧ wr.ownsRow w.heap.size 22 1 (.slice xa j xc) j ((nums j (r.drop 2)).map (.int .u64)) ∧ PartAt q (r.drop (2 + 8 * j)) wr ∧ Only w wr q) (fun _ i _ => n - (intOf i).toNat)
  case atStart => exact ⟨0, none, 0, Nat.zero_le _, rfl, rfl, World.ownsRow_nil _ _ _ _, hp1, o1⟩
  case round =>
    obtain ⟨j, xa, xc, hj, rfl, rfl, hown, hp, ho⟩ := hrel
    by_cases hlt : j < n
    · have hnl := nums_length j (r.drop 2)
      go_wp2_with fail
      refine (number_ok q _ 8 wr hp (by rw [List.length_drop]; omega) (by omega)).mono ?_
      rintro e w3 ⟨rfl, hp3, o3⟩
      have hown3 := hown.kept o3 (own_ne hown hp (by decide))
      have ho3 := ho.trans o3
      have hs3 := ho3.size
      rw [List.drop_drop] at hp3
      obtain ⟨x, hx⟩ : ∃ x : Int, x = (val ((r.drop (2 + 8 * j)).take 8) : Nat) := ⟨_, rfl⟩
      rw [← hx]
      have HX := Lib.hid hx
      clear hx hown ho hp o3
      go_wp2_with (at_builtin; refine wpList_append_own_at _ rfl (.tmp 18) (.tmp 21) 23 rfl w.heap.size 22 i0 (.int .u64 0) 1 8 Try.underlying23 hi hz0 hz1 hz2 rfl (by decide) _ _ _ rfl (hown3.alloc _) ⟨w3.heap.size, 0, none⟩ 1 1 [.int .u64 x] rfl rfl (cell_one_new _ _ _) ?_ ?_ ?_ ?_ ?_)
      case refine_1 => intro u hu; simp at hu; subst hu; rfl
      case refine_2 => simp only [maxLen]; omega
      case refine_3 => omega
      case refine_4 => simp only [asz]; omega
      intro v' w4 hown4 hg4 _ hat4
      obtain ⟨xa', xc', rfl⟩ := own_slice hown4
      have ro := ho3.alloc (.cells #[.int .u64 x] 22) |>.grow hg4 (own_lt hown3)
      have rp := (Blk.alloc hp3 (.cells #[.int .u64 x] 22)).grown hg4 (own_ne' hown3 hp3 (by decide))
      clear hg4 hat4 hown3 ho3 hp3
      go_wp2_with fail
      go_roundw
      case rel =>
        refine ⟨j + 1, xa', xc', by omega, by go_num, rfl, ?_, ?_, ro⟩
        · rw [nums_succ, List.map_append, List.drop_drop, ← HX.out]
          exact hown4
        · exact rp
      case measure => simp [intOf]; omega
    · have hje : j = n := by omega
      subst hje
      go_wp2_with fail
      go_ret
      exact ⟨xa, xc, rfl, hown, hp, ho⟩

theorem list_body_short (q : Nat) (r : List UInt8) (w : World) (hq : PartAt q r w) (h2 : r.length < 2) :
    Calls Try.prog 106 #[.pointer (some ⟨q, 0, none⟩)] w fun f w' => f = .panicked [lack 8] ∧ Only w w' q := by
  go_enter Try.func106, Try.ntmps106
  go_wp2_with fail
  refine (length_short q r 1024 w hq h2).mono ?_
  rintro e w1 ⟨rfl, rfl⟩
  go_wp2_with fail
  exact ⟨rfl, rfl, Only.refl _ _⟩
theorem list_body_large (q : Nat) (r : List UInt8) (w : World) (hq : PartAt q r w) (h2 : 2 ≤ r.length) (hm : 1024 < val (r.take 2)) :
    Calls Try.prog 106 #[.pointer (some ⟨q, 0, none⟩)] w fun f w' => f = .panicked [lack 40] ∧ Only w w' q := by
  go_enter Try.func106, Try.ntmps106
  go_wp2_with fail
  refine (length_large q r 1024 w hq h2 hm).mono ?_
  rintro e w1 ⟨rfl, o1⟩
  go_wp2_with fail
  exact ⟨rfl, rfl, o1⟩
theorem list_body_less (q : Nat) (r : List UInt8) (w : World) (hq : PartAt q r w) (h2 : 2 ≤ r.length) (hm : val (r.take 2) ≤ 1024) (hr : r.length < 2 + 8 * val (r.take 2)) :
    Calls Try.prog 106 #[.pointer (some ⟨q, 0, none⟩)] w fun f w' => f = .panicked [lack 8] ∧ Only w w' q := by
  obtain ⟨n, hn⟩ : ∃ n, n = val (r.take 2) := ⟨_, rfl⟩
  have hm' : n ≤ 1024 := by omega
  have hr' : r.length < 2 + 8 * n := by omega
  clear hr
  have HN := Lib.hid hn
  clear hn
  have hd : decide ((n : Int) * 8 ≤ ((r.length - 2 : Nat) : Int)) = false := by simp; omega
  go_enter Try.func106, Try.ntmps106
  go_wp2_with fail
  refine (length_ok q r 1024 w hq h2 hm (by omega)).mono ?_
  rintro e w1 ⟨rfl, hp1, o1⟩
  have hc1 : w1.cell? ⟨q, 0, none⟩ = some (.string ⟨(r.drop 2).toArray⟩) := hp1.cell 0
  rw [← HN.out]
  clear hm
  go_wp2_with fail
  refine (need_no 8 w1).mono ?_
  rintro e w2 ⟨rfl, rfl⟩
  go_wp2_with fail
  exact ⟨rfl, rfl, o1⟩

theorem own_none (w : World) (base : Nat) (e : TypeId) : w.ownsRow base e 1 (.slice none 0 0) 0 [] := World.ownsRow_nil _ _ _ _

theorem List_read (b : Nat) (st : RS) (w : World) (hb : RdAt b st w) :
    Calls Try.prog 105 #[.pointer (some ⟨b, 0, none⟩), .func (.func 106) #[] #[]] w (ListPost b st.list.1.length (st.list.1.map (.int .u64)) st.list.2 w) := by
  obtain ⟨r, e⟩ := st
  unfold RS.list
  by_cases he : e = 0
  · subst he
    by_cases h2 : r.length < 2
    · simp only [ne_eq, not_true, if_false, h2, if_true]
      exact (read_list_no b r 8 w hb fun q w' hq _ => list_body_short q r w' hq h2).mono fun f w' ⟨h1, h2, h3⟩ => ⟨none, 0, h1, own_none _ _ _, h2, h3⟩
    by_cases hm : 1024 < val (r.take 2)
    · simp only [ne_eq, not_true, if_false, h2, hm, if_true]
      exact (read_list_no b r 40 w hb fun q w' hq _ => list_body_large q r w' hq (by omega) hm).mono fun f w' ⟨h1, h2, h3⟩ => ⟨none, 0, h1, own_none _ _ _, h2, h3⟩
    by_cases hr : r.length < 2 + 8 * val (r.take 2)
    · simp only [ne_eq, not_true, if_false, h2, hm, hr, if_true]
      exact (read_list_no b r 8 w hb fun q w' hq _ => list_body_less q r w' hq (by omega) (by omega) hr).mono fun f w' ⟨h1, h2, h3⟩ => ⟨none, 0, h1, own_none _ _ _, h2, h3⟩
    · simp only [ne_eq, not_true, if_false, h2, hm, hr, nums_length]
      exact read_list_ok b r _ _ _ w hb fun q w' hq _ => list_body_ok q r w' hq (by omega) (by omega) (by omega)
  · simp only [ne_eq, he, not_false_eq_true, if_true]
    exact (read_list_was b ⟨r, e⟩ w hb he).mono fun f w' ⟨h1, h2, h3⟩ => ⟨none, 0, h1, own_none _ _ _, h2, h3⟩

theorem List_any (b : Nat) (st : RS) (w : World) (hb : RdAt b st w) :
    Calls Try.prog 45 #[.pointer (some ⟨b, 0, none⟩)] w (ListPost b st.list.1.length (st.list.1.map (.int .u64)) st.list.2 w) := by
  have hmf : ∀ (fn : Fn) (first cap : Array Value) (w : World), (Instr.makeFunc fn first cap).run Try.prog w = .ok (.func fn first cap) w := fun _ _ _ _ => rfl
  have K := Lib.hid (List_read b st w hb)
  go_enter Try.func45, Try.ntmps45
  go_wp2_with fail
  refine Calls.mono K.out ?_
  rintro e w1 ⟨xa, xc, rfl, h1⟩
  go_wp2_with fail
  go_ret2
  exact ⟨xa, xc, rfl, h1⟩
end Go.Proofs.Ytdnkijljpmcejaa
