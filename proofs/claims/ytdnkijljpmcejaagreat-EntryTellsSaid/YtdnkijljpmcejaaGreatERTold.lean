/-
  consistoryref13.told: lists that stand there.
-/
import Derived.Test.YtdnkijljpmcejaaGreatERRows
import Derived.Test.YtdnkijljpmcejaaGreatRefR3
import Derived.Test.YtdnkijljpmcejaaGreatEnRef
import Derived.Test.YtdnkijljpmcejaaGreatEGet2
namespace Go.Proofs.YtdnkijljpmcejaaGreat
open Go.RowKit

theorem not_five_rr : ¬ Five 78 := by unfold Five; decide
theorem rr_alloc {b : Nat} {st : RS} {w : World} (h : RrAt b st w) (o : Obj) : RrAt b st (w.alloc o) := Blk.alloc h o
theorem rr_grown {b : Nat} {st : RS} {w w' : World} {base n size : Nat} {e : TypeId} {v : Value} {xs : List Value} (h : RrAt b st w) (ho : w.ownsRow base e size v n xs) (he : e ≠ 78) (g : w.grownBy w' v.ownBlock) : RrAt b st w' := Blk.grown h g (own_ne' ho h he)
theorem own_rr {b : Nat} {st : RS} {w w' : World} {base n size : Nat} {e : TypeId} {v : Value} {xs : List Value} (ho : w.ownsRow base e size v n xs) (h : RrAt b st w) (he : e ≠ 78) (o : Only w w' b) : w'.ownsRow base e size v n xs := ho.kept o (own_ne ho h he)
theorem LAcc.nextr {w wr w3 w5 : World} {b : Nat} {s : RS} {v : Value} {xs : List Value} {acc : List (List Int)} {l : List Int} {xa : Option Addr} {xc : Nat} {o : Obj} (h : LAcc w.heap.size wr.heap.size wr xs acc) (hw : w.heap.size ≤ wr.heap.size) (hR : RrAt b s wr) (o3 : Only wr w3 b)
    (hl : w3.ownsRow wr.heap.size 56 1 (.slice xa l.length xc) l.length (l.map (.int .u64))) (ho : w3.ownsRow w.heap.size 45 1 v acc.length xs) (g : (w3.alloc o).grownBy w5 v.ownBlock) :
    LAcc w.heap.size w5.heap.size w5 (xs ++ [.slice xa l.length xc]) (acc ++ [l]) := by
  have h1 : LAcc w.heap.size w3.heap.size w3 (xs ++ [.slice xa l.length xc]) (acc ++ [l]) := ((h.kept (Kp.of_only o3 hR not_five_rr)).more o3.size).snoc ((Row.of_own hl).more hw (Nat.le_refl _))
  have hs : w3.heap.size ≤ w5.heap.size := by have := g.size; rw [asz] at this; omega
  exact (h1.grow (blk_step o ho (by decide) g)).more hs
theorem rep_step {α : Type} {one : RS → α × RS} {m : Nat} {s : RS} {acc : List α} {M : List α × RS} (h : repN one (m + 1) s acc = M) (he : s.e = 0) : repN one m (one s).2 (acc ++ [(one s).1]) = M := by
  rw [← h]
  show _ = if s.e ≠ 0 then (acc, s) else repN one m (one s).2 (acc ++ [(one s).1])
  rw [if_neg (by simp [he])]
theorem rep_stop {α : Type} {one : RS → α × RS} {n : Nat} {s : RS} {acc : List α} {M : List α × RS} (h : repN one n s acc = M) (he : s.e ≠ 0) : M = (acc, s) := by
  rw [← h]
  cases n with
  | zero => rfl
  | succ n =>
    show (if s.e ≠ 0 then (acc, s) else repN one n (one s).2 (acc ++ [(one s).1])) = _
    rw [if_pos he]
theorem repM_nat {α : Type} {one : RS → α × RS} {st : RS} {n : Nat} (h : (st.num 1).1 = n) : repM one st = repN one n (st.num 1).2 [] := by
  unfold repM
  rw [h]
  rfl
/-- Lists are answered, in blocks of their own. -/
def ToldPost (b : Nat) (ls : List (List Int)) (st : RS) (w : World) (r : Ending) (w' : World) : Prop :=
  ∃ a c, r = .returned (.slice a ls.length c) ∧ OLst w.heap.size w'.heap.size w' a ls ∧ RrAt b st w' ∧ Only w w' b
set_option maxRecDepth 100000 in
set_option maxHeartbeats 1000000 in
theorem told_any (b : Nat) (st : RS) (w : World) (hb : RrAt b st w) :
    Calls Tryz.prog 49 #[.pointer (some ⟨b, 0, none⟩)] w (ToldPost b (repM RS.list st).1 (repM RS.list st).2 w) := by
  obtain ⟨i0, hi, hz0, hz1, hz2⟩ := info_parts infoLst
  obtain ⟨n, hn, hn255⟩ := num1_nat st
  have HG := Lib.hid (repM_nat (one := RS.list) hn)
  have HB := Lib.hid (rByte_any b st w hb)
  have HN := Lib.hid hn
  clear hb hn
  go_enter Tryz.func49, Tryz.ntmps49
  go_wp2_with fail
  refine (Calls.mono HB.out ?_)
  rintro e w1 ⟨rfl, h1, o1⟩
  rw [HN.out]
  have HO := Lib.hid (And.intro h1 o1)
  clear h1 o1
  go_wp2_with fail
  go_loopw [3, 6] (fun v i wr => ∃ (j : Nat) (acc : List (List Int)) (s : RS) (xs : List Value), j ≤ n ∧ i = .int .i64 j ∧ acc.length = j ∧ wr.ownsRow w.heap.size 45 1 v acc.length xs ∧ LAcc w.heap.size wr.heap.size wr xs acc ∧ RrAt b s wr ∧ Only w wr b ∧ repN RS.list (n - j) s acc = repM RS.list st) (fun _ i _ => n - (intOf i).toNat)
  case atStart => exact ⟨0, [], _, [], Nat.zero_le _, rfl, rfl, World.ownsRow_nil _ _ _ _, LAcc.nil, HO.out.1, HO.out.2, HG.out.symm⟩
  case round =>
    obtain ⟨j, acc, s, xs, hj, rfl, hacc, hO, hL, hR, hB, hM⟩ := hrel
    have hBs := hB.size
    have f1 : wr.cell? ⟨b, 1, none⟩ = some (.int .i64 s.e) := hR.cell 1
    by_cases hlt : j < n
    · by_cases he : s.e = 0
      · obtain ⟨m, hm⟩ : ∃ m, n - j = m + 1 := ⟨n - j - 1, by omega⟩
        have hm' : n - (j + 1) = m := by omega
        rw [hm] at hM
        have HA := Lib.hid (And.intro hacc (And.intro hO (And.intro hB (And.intro (rep_step hM he) (And.intro hm' (And.intro hR (And.intro hL hBs)))))))
        have HC := Lib.hid (rList_any b s wr hR)
        have hjI : (j : Int) < (n : Int) := by omega
        have heq : (s.e == 0) = true := by rw [he]; rfl
        clear hacc hO hR hB hM hm hm' hL he
        go_wp2_with fail
        refine (Calls.mono HC.out ?_)
        rintro e w3 ⟨xa, xc, rfl, hl3, h3, o3⟩
        have HQ := Lib.hid (And.intro h3 (And.intro (HA.out.2.2.1.trans o3) (And.intro (own_rr HA.out.2.1 HA.out.2.2.2.2.2.1 (by decide) o3) (And.intro hl3 o3))))
        have hal := HA.out.1
        have hbs := o3.size
        have HM := Lib.hid HA.out.2.2.2.1
        clear h3 o3 hl3 f1
        generalize s.list.1 = l at *
        generalize s.list.2 = s' at *
        go_wp2_with (at_builtin; refine wpList_append_own_at _ rfl _ _ 23 rfl w.heap.size 45 i0 (.slice none 0 0) 1 24 Tryz.underlying23 hi hz0 hz1 hz2 rfl (by decide) _ _ _ rfl (HQ.out.2.2.1.alloc _) ⟨w3.heap.size, 0, none⟩ 1 1 [.slice xa l.length xc] rfl rfl (cell_one_new _ _ _) (one_sl xa l.length xc) (by unfold maxLen; omega) (by omega) (by simp; omega) ?_; intro v' w5 hown5 hgrow5 _ _)
        have HZ := Lib.hid (And.intro (rr_grown (rr_alloc HQ.out.1 _) (HQ.out.2.2.1.alloc _) (by decide) hgrow5) (And.intro (only_own HQ.out.2.1 HQ.out.2.2.1 (Nat.le_refl _) _ hgrow5) (HA.out.2.2.2.2.2.2.1.nextr (xc := xc) HA.out.2.2.2.2.2.2.2 HA.out.2.2.2.2.2.1 HQ.out.2.2.2.2 HQ.out.2.2.2.1 HQ.out.2.2.1 hgrow5)))
        have HV := Lib.hid hown5
        clear hown5 hgrow5
        go_wp2_with fail
        go_roundw
        case rel => exact ⟨j + 1, acc ++ [l], s', xs ++ [.slice xa l.length xc], by omega, by go_num, by simp [hal], by simpa using HV.out, HZ.out.2.2, HZ.out.1, HZ.out.2.1, by rw [HA.out.2.2.2.2.1]; exact HM.out⟩
        case measure => simp [intOf]; omega
      · have hd : (s.e == 0) = false := by simpa using he
        have hjI : (j : Int) < (n : Int) := by omega
        have HM := Lib.hid (rep_stop hM he)
        obtain ⟨a, c, rfl⟩ := own_slice hO
        have HA := Lib.hid (And.intro hO (And.intro hR (And.intro hB hL)))
        clear he hO hR hB hM hacc hL
        go_wp2_with fail
        go_ret
        rw [HM.out]
        exact ⟨a, c, rfl, OLst.of_own HA.out.1 HA.out.2.2.2, HA.out.2.1, HA.out.2.2.1⟩
    · have hje : j = n := by omega
      have hjI : decide ((j : Int) < (n : Int)) = false := decide_eq_false (by omega)
      subst hje
      rw [Nat.sub_self] at hM
      obtain ⟨a, c, rfl⟩ := own_slice hO
      have HA := Lib.hid (And.intro hO (And.intro hR (And.intro hB (And.intro hM hL))))
      clear hO hR hB hM hacc hL
      go_wp2_with fail
      go_ret
      rw [← HA.out.2.2.2.1]
      exact ⟨a, c, rfl, OLst.of_own HA.out.1 HA.out.2.2.2.2, HA.out.2.1, HA.out.2.2.1⟩
end Go.Proofs.YtdnkijljpmcejaaGreat
