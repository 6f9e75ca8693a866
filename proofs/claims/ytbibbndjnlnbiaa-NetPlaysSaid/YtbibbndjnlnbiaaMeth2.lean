/-
  wire.Reader: Count and List.
-/
import Derived.Test.YtbibbndjnlnbiaaMeth
import Derived.Test.YtbibbndjnlnbiaaRdList
import Derived.Maps.AppendAt
import Derived.Deep.AppendLies
namespace Go.Proofs.Ytbibbndjnlnbiaa
open Go.RowKit

theorem List_nil (w : World) :
    Calls Try.prog 62 #[.pointer none] w fun e w' => e = .returned (.tuple #[.slice none 0 0, .int .i64 2]) ∧ Below w.heap.size w w' := by
  have hmf : ∀ (fn : Fn) (first cap : Array Value) (w : World), (Instr.makeFunc fn first cap).run Try.prog w = .ok (.func fn first cap) w := fun _ _ _ _ => rfl
  go_enter Try.func62, Try.ntmps62
  go_wp2_with fail
  refine (read_list_nil w).mono ?_
  rintro e w1 ⟨rfl, b1⟩
  go_wp2_with fail
  go_ret2
  exact ⟨rfl, b1⟩

theorem info64 : (Try.prog.info? 56).map (fun i => (i.zero, i.size, i.bytes)) = some (some (.int .u64 0), 1, 8) := by kernel_rfl
set_option maxRecDepth 100000 in
set_option maxHeartbeats 400000 in
theorem list_body_ok (q : Nat) (r : List UInt8) (w : World) (hq : PartAt q r w) (h2 : 2 ≤ r.length) (hm : val (r.take 2) ≤ 1024) (hr : 2 + 8 * val (r.take 2) ≤ r.length) :
    Calls Try.prog 109 #[.pointer (some ⟨q, 0, none⟩)] w fun f w' => ∃ xa xc, f = .returned (.slice xa (val (r.take 2)) xc) ∧ w'.ownsRow w.heap.size 56 1 (.slice xa (val (r.take 2)) xc) (val (r.take 2)) ((nums (val (r.take 2)) (r.drop 2)).map (.int .u64)) ∧
      PartAt q (r.drop (2 + 8 * val (r.take 2))) w' ∧ Only w w' q := by
  obtain ⟨n, hn⟩ : ∃ n, n = val (r.take 2) := ⟨_, rfl⟩
  have hm' : n ≤ 1024 := by omega
  have hr' : 2 + 8 * n ≤ r.length := by omega
  clear hr
  rw [← hn]
  have HN := Lib.hid hn
  clear hn
  have hd : decide ((n : Int) * 8 ≤ ((r.length - 2 : Nat) : Int)) = true := by simp; omega
  go_enter Try.func109, Try.ntmps109
  go_wp2_with fail
  refine (length_ok q r 1024 w hq h2 hm (by omega)).mono ?_
  rintro e w1 ⟨rfl, hp1, o1⟩
  have hc1 : w1.cell? ⟨q, 0, none⟩ = some (.string ⟨(r.drop 2).toArray⟩) := hp1.cell 0
  rw [← HN.out]
  clear hm
  go_wp2_with fail
  refine (need_ok 8 w1).mono ?_
  rintro e w2 ⟨rfl, rfl⟩
  go_wp2_with fail
  obtain ⟨i0, hi, hz0, hz1, hz2⟩ := info_parts info64
  go_loopw [2, 16] (fun v i wr => ∃ (j : Nat) (xa : Option Addr) (xc : Nat), j ≤ n ∧ i = .int .i64 j ∧ v = .slice xa j xc ∧ wr.ownsRow w.heap.size 56 1 (.slice xa j xc) j ((nums j (r.drop 2)).map (.int .u64)) ∧ PartAt q (r.drop (2 + 8 * j)) wr ∧ Only w wr q) (fun _ i _ => n - (intOf i).toNat)
  case atStart => exact ⟨0, none, 0, Nat.zero_le _, rfl, rfl, World.ownsRow_nil _ _ _ _, hp1, o1⟩
  case round =>
    obtain ⟨j, xa, xc, hj, rfl, rfl, hown, hp, ho⟩ := hrel
    by_cases hlt : j < n
    · have hnl := nums_length j (r.drop 2)
      go_wp2_with fail
      refine (number_ok q _ 8 wr hp (by rw [List.length_drop]; omega) (by omega)).mono ?_
      rintro e w3 ⟨rfl, hp3, o3⟩
      have hown3 := hown.kept o3 (own_ne hown hp (by decide))
      have ho3 := ho.trans o3
      have hs3 := ho3.size
      rw [List.drop_drop] at hp3
      obtain ⟨x, hx⟩ : ∃ x : Int, x = (val ((r.drop (2 + 8 * j)).take 8) : Nat) := ⟨_, rfl⟩
      rw [← hx]
      have HX := Lib.hid hx
      clear hx hown ho hp o3
      go_wp2_with (at_builtin; refine wpList_append_own_at _ rfl (.tmp 18) (.tmp 21) 30 rfl w.heap.size 56 i0 (.int .u64 0) 1 8 Try.underlying30 hi hz0 hz1 hz2 rfl (by decide) _ _ _ rfl (hown3.alloc _) ⟨w3.heap.size, 0, none⟩ 1 1 [.int .u64 x] rfl rfl (cell_one_new _ _ _) ?_ ?_ ?_ ?_ ?_)
      case refine_1 => intro u hu; simp at hu; subst hu; rfl
      case refine_2 => simp only [maxLen]; omega
      case refine_3 => omega
      case refine_4 => simp only [asz]; omega
      intro v' w4 hown4 hg4 _ hat4
      obtain ⟨xa', xc', rfl⟩ := own_slice hown4
      have ro := ho3.alloc (.cells #[.int .u64 x] 56) |>.grow hg4 (own_lt hown3)
      have rp := (Blk.alloc hp3 (.cells #[.int .u64 x] 56)).grown hg4 (own_ne' hown3 hp3 (by decide))
      clear hg4 hat4 hown3 ho3 hp3
      go_wp2_with fail
      go_roundw
      case rel =>
        refine ⟨j + 1, xa', xc', by omega, by go_num, rfl, ?_, ?_, ro⟩
        · rw [nums_succ, List.map_append, List.drop_drop, ← HX.out]
          exact hown4
        · exact rp
      case measure => simp [intOf]; omega
    · have hje : j = n := by omega
      subst hje
      go_wp2_with fail
      go_ret
      exact ⟨xa, xc, rfl, hown, hp, ho⟩

theorem list_body_short (q : Nat) (r : List UInt8) (w : World) (hq : PartAt q r w) (h2 : r.length < 2) :
    Calls Try.prog 109 #[.pointer (some ⟨q, 0, none⟩)] w fun f w' => f = .panicked [lack 8] ∧ Only w w' q := by
  go_enter Try.func109, Try.ntmps109
  go_wp2_with fail
  refine (length_short q r 1024 w hq h2).mono ?_
  rintro e w1 ⟨rfl, rfl⟩
  go_wp2_with fail
  exact ⟨rfl, rfl, Only.refl _ _⟩
theorem list_body_large (q : Nat) (r : List UInt8) (w : World) (hq : PartAt q r w) (h2 : 2 ≤ r.length) (hm : 1024 < val (r.take 2)) :
    Calls Try.prog 109 #[.pointer (some ⟨q, 0, none⟩)] w fun f w' => f = .panicked [lack 40] ∧ Only w w' q := by
  go_enter Try.func109, Try.ntmps109
  go_wp2_with fail
  refine (length_large q r 1024 w hq h2 hm).mono ?_
  rintro e w1 ⟨rfl, o1⟩
  go_wp2_with fail
  exact ⟨rfl, rfl, o1⟩
theorem list_body_less (q : Nat) (r : List UInt8) (w : World) (hq : PartAt q r w) (h2 : 2 ≤ r.length) (hm : val (r.take 2) ≤ 1024) (hr : r.length < 2 + 8 * val (r.take 2)) :
    Calls Try.prog 109 #[.pointer (some ⟨q, 0, none⟩)] w fun f w' => f = .panicked [lack 8] ∧ Only w w' q := by
  obtain ⟨n, hn⟩ : ∃ n, n = val (r.take 2) := ⟨_, rfl⟩
  have hm' : n ≤ 1024 := by omega
  have hr' : r.length < 2 + 8 * n := by omega
  clear hr
  have HN := Lib.hid hn
  clear hn
  have hd : decide ((n : Int) * 8 ≤ ((r.length - 2 : Nat) : Int)) = false := by simp; omega
  go_enter Try.func109, Try.ntmps109
  go_wp2_with fail
  refine (length_ok q r 1024 w hq h2 hm (by omega)).mono ?_
  rintro e w1 ⟨rfl, hp1, o1⟩
  have hc1 : w1.cell? ⟨q, 0, none⟩ = some (.string ⟨(r.drop 2).toArray⟩) := hp1.cell 0
  rw [← HN.out]
  clear hm
  go_wp2_with fail
  refine (need_no 8 w1).mono ?_
  rintro e w2 ⟨rfl, rfl⟩
  go_wp2_with fail
  exact ⟨rfl, rfl, o1⟩

theorem own_none (w : World) (base : Nat) (e : TypeId) : w.ownsRow base e 1 (.slice none 0 0) 0 [] := World.ownsRow_nil _ _ _ _

theorem List_read (b : Nat) (st : RS) (w : World) (hb : RdAt b st w) :
    Calls Try.prog 108 #[.pointer (some ⟨b, 0, none⟩), .func (.func 109) #[] #[]] w (ListPost b st.list.1.length (st.list.1.map (.int .u64)) st.list.2 w) := by
  obtain ⟨r, e⟩ := st
  unfold RS.list
  by_cases he : e = 0
  · subst he
    by_cases h2 : r.length < 2
    · simp only [ne_eq, not_true, if_false, h2, if_true]
      exact (read_list_no b r 8 w hb fun q w' hq _ => list_body_short q r w' hq h2).mono fun f w' ⟨h1, h2, h3⟩ => ⟨none, 0, h1, own_none _ _ _, h2, h3⟩
    by_cases hm : 1024 < val (r.take 2)
    · simp only [ne_eq, not_true, if_false, h2, hm, if_true]
      exact (read_list_no b r 40 w hb fun q w' hq _ => list_body_large q r w' hq (by omega) hm).mono fun f w' ⟨h1, h2, h3⟩ => ⟨none, 0, h1, own_none _ _ _, h2, h3⟩
    by_cases hr : r.length < 2 + 8 * val (r.take 2)
    · simp only [ne_eq, not_true, if_false, h2, hm, hr, if_true]
      exact (read_list_no b r 8 w hb fun q w' hq _ => list_body_less q r w' hq (by omega) (by omega) hr).mono fun f w' ⟨h1, h2, h3⟩ => ⟨none, 0, h1, own_none _ _ _, h2, h3⟩
    · simp only [ne_eq, not_true, if_false, h2, hm, hr, nums_length]
      exact read_list_ok b r _ _ _ w hb fun q w' hq _ => list_body_ok q r w' hq (by omega) (by omega) (by omega)
  · simp only [ne_eq, he, not_false_eq_true, if_true]
    exact (read_list_was b ⟨r, e⟩ w hb he).mono fun f w' ⟨h1, h2, h3⟩ => ⟨none, 0, h1, own_none _ _ _, h2, h3⟩

theorem List_any (b : Nat) (st : RS) (w : World) (hb : RdAt b st w) :
    Calls Try.prog 62 #[.pointer (some ⟨b, 0, none⟩)] w (ListPost b st.list.1.length (st.list.1.map (.int .u64)) st.list.2 w) := by
  have hmf : ∀ (fn : Fn) (first cap : Array Value) (w : World), (Instr.makeFunc fn first cap).run Try.prog w = .ok (.func fn first cap) w := fun _ _ _ _ => rfl
  have K := Lib.hid (List_read b st w hb)
  go_enter Try.func62, Try.ntmps62
  go_wp2_with fail
  refine Calls.mono K.out ?_
  rintro e w1 ⟨xa, xc, rfl, h1⟩
  go_wp2_with fail
  go_ret2
  exact ⟨xa, xc, rfl, h1⟩
end Go.Proofs.Ytbibbndjnlnbiaa
