/-
  entry.getNumber, get at its four types, getDeal: members that stand there.
-/
import Derived.Test.YtdnkijljpmcejaaEEnc
namespace Go.Proofs.Ytdnkijljpmcejaa
open Go.RowKit

theorem getNumber_any (b : Nat) (st : RS) (w : World) (hb : RdAt b st w) :
    Calls Try.prog 82 #[.pointer (some ⟨b, 0, none⟩)] w fun e w' => e = .returned (.tuple #[.int .i64 (oneNum st).1, .int .i64 (oneNum st).2.e]) ∧ RdAt b (oneNum st).2 w' ∧ Only w w' b := by
  have HC := Lib.hid (Count_any b 1099511627776 st w hb (by unfold I64; omega))
  go_enter Try.func82, Try.ntmps82
  go_wp2_with fail
  refine (Calls.mono HC.out ?_)
  rintro e w1 ⟨rfl, h1, o1⟩
  go_wp2_with fail
  go_ret2
  exact ⟨rfl, h1, o1⟩
theorem getInt_any (b : Nat) (st : RS) (w : World) (hb : RdAt b st w) :
    Calls Try.prog 42 #[.pointer (some ⟨b, 0, none⟩)] w fun e w' => e = .returned (.tuple #[.int .i64 (oneInt st).1, .int .i64 (oneInt st).2.e]) ∧ RdAt b (oneInt st).2 w' ∧ Only w w' b := Int_any b st w hb

/-- Numbers that were read. -/
def GetPost (t : TypeId) (b : Nat) (xs : List Int) (st : RS) (w : World) (r : Ending) (w' : World) : Prop :=
  ∃ a c, r = .returned (.slice a xs.length c) ∧ Row .i64 t w.heap.size w'.heap.size w' a xs ∧ RdAt b st w' ∧ Only w w' b
def GetLPost (b : Nat) (ls : List (List Int)) (st : RS) (w : World) (r : Ending) (w' : World) : Prop :=
  ∃ a c, r = .returned (.slice a ls.length c) ∧ OLst w.heap.size w'.heap.size w' a ls ∧ RdAt b st w' ∧ Only w w' b
def GetDPost (b : Nat) (ds : List Dl) (st : RS) (w : World) (r : Ending) (w' : World) : Prop :=
  ∃ a c, r = .returned (.slice a ds.length c) ∧ ODls w.heap.size w'.heap.size w' a ds ∧ RdAt b st w' ∧ Only w w' b
def DealPost (b : Nat) (d : Dl) (st : RS) (w : World) (r : Ending) (w' : World) : Prop :=
  ∃ a c, r = .returned (.tuple #[.agg #[.int .i64 d.1, .slice a d.2.length c], .int .i64 st.e]) ∧ OLst w.heap.size w'.heap.size w' a d.2 ∧ RdAt b st w' ∧ Only w w' b

theorem getN_zero {α : Type} (one : RS → α × RS) (st : RS) (acc : List α) : getN one 0 st acc = (acc, st) := rfl
theorem getN_bad {α : Type} {one : RS → α × RS} {n : Nat} {st : RS} {acc : List α} (h : (one st).2.e ≠ 0) : getN one (n + 1) st acc = ([], (one st).2) := by
  unfold getN
  rw [if_pos h]
theorem getN_go {α : Type} {one : RS → α × RS} {n : Nat} {st : RS} {acc : List α} (h : (one st).2.e = 0) : getN one (n + 1) st acc = getN one n (one st).2 (acc ++ [(one st).1]) := by
  conv => lhs; unfold getN
  rw [if_neg (by simp [h])]
theorem num1_nat (st : RS) : ∃ n : Nat, (st.num 1).1 = n ∧ n ≤ 255 := by
  have := num1_le st
  exact ⟨(st.num 1).1.toNat, by omega, by omega⟩
theorem getM_nat {α : Type} {one : RS → α × RS} {st : RS} {n : Nat} (h : (st.num 1).1 = n) : getM one st = getN one n (st.num 1).2 [] := by
  unfold getM
  rw [h, Int.toNat_natCast]
theorem infoI64 : (Try.prog.info? 2).map (fun i => (i.zero, i.size, i.bytes)) = some (some (.int .i64 0), 1, 8) := by kernel_rfl
theorem infoLst : (Try.prog.info? 23).map (fun i => (i.zero, i.size, i.bytes)) = some (some (.slice none 0 0), 1, 24) := by kernel_rfl
theorem infoDl : (Try.prog.info? 58).map (fun i => (i.zero, i.size, i.bytes)) = some (some (.agg #[.int .i64 0, .slice none 0 0]), 2, 32) := by kernel_rfl
theorem one_i64 (x : Int) : ∀ u ∈ [Value.int .i64 x], u.oneCell' = true := by
  intro u hu
  obtain rfl : u = _ := by simpa using hu
  rfl
theorem rd_alloc {b : Nat} {st : RS} {w : World} (h : RdAt b st w) (o : Obj) : RdAt b st (w.alloc o) := Blk.alloc h o
theorem rd_grown {b : Nat} {st : RS} {w w' : World} {base n size : Nat} {e : TypeId} {v : Value} {xs : List Value} (h : RdAt b st w) (ho : w.ownsRow base e size v n xs) (he : e ≠ 100) (g : w.grownBy w' v.ownBlock) : RdAt b st w' := Blk.grown h g (own_ne' ho h he)
theorem only_grow {w wr w1 : World} {b : Nat} {base n size : Nat} {e : TypeId} {v : Value} {xs : List Value} (h : Only w wr b) (ho : wr.ownsRow base e size v n xs) (hb : w.heap.size ≤ base) (g : wr.grownBy w1 v.ownBlock) : Only w w1 b :=
  h.grow g fun q hq => Nat.le_trans hb (own_lt ho q hq)

theorem own_rd {b : Nat} {st : RS} {w w' : World} {base n size : Nat} {e : TypeId} {v : Value} {xs : List Value} (ho : w.ownsRow base e size v n xs) (h : RdAt b st w) (he : e ≠ 100) (o : Only w w' b) : w'.ownsRow base e size v n xs := ho.kept o (own_ne ho h he)
theorem get_step {α : Type} {one : RS → α × RS} {m : Nat} {s : RS} {acc : List α} {M : List α × RS} (h : getN one (m + 1) s acc = M) (he : (one s).2.e = 0) : getN one m (one s).2 (acc ++ [(one s).1]) = M := (getN_go he).symm.trans h
theorem get_stop {α : Type} {one : RS → α × RS} {m : Nat} {s : RS} {acc : List α} {M : List α × RS} (h : getN one (m + 1) s acc = M) (he : (one s).2.e ≠ 0) : M = ([], (one s).2) := h.symm.trans (getN_bad he)
theorem row_done {k : IntKind} {t : TypeId} {w w' : World} {a : Option Addr} {c n : Nat} {xs : List Int} (h : w'.ownsRow w.heap.size t 1 (.slice a n c) n (xs.map (.int k))) : Row k t w.heap.size w'.heap.size w' a xs := Row.of_own h
theorem only_own {w wr w1 : World} {b base n size : Nat} {e : TypeId} {v : Value} {xs : List Value} (h : Only w wr b) (ho : wr.ownsRow base e size v n xs) (hb : w.heap.size ≤ base) (o : Obj) (g : (wr.alloc o).grownBy w1 v.ownBlock) : Only w w1 b := only_grow h ho hb ((World.grownBy_alloc wr o _).trans g)

set_option maxRecDepth 100000 in
set_option maxHeartbeats 1000000 in
theorem get_int (b : Nat) (st : RS) (w : World) (hb : RdAt b st w) :
    Calls Try.prog 83 #[.pointer (some ⟨b, 0, none⟩), .func (.func 42) #[] #[]] w (GetPost 2 b (getM oneInt st).1 (getM oneInt st).2 w) := by
  obtain ⟨i0, hi, hz0, hz1, hz2⟩ := info_parts infoI64
  obtain ⟨n, hn, hn255⟩ := num1_nat st
  have HG := Lib.hid (getM_nat (one := oneInt) hn)
  have HB := Lib.hid (Byte_any b st w hb)
  have hbl := hb.lt
  have HN := Lib.hid hn
  clear hb hn
  go_enter Try.func83, Try.ntmps83
  go_wp2_with fail
  refine (Calls.mono HB.out ?_)
  rintro e w1 ⟨rfl, h1, o1⟩
  rw [HN.out]
  have HO := Lib.hid (And.intro h1 o1)
  clear h1 o1
  go_wp2_with fail
  go_loopw [5, 16] (fun v i wr => ∃ (j : Nat) (acc : List Int) (s : RS), j ≤ n ∧ i = .int .u8 j ∧ acc.length = j ∧ wr.ownsRow w.heap.size 2 1 v acc.length (acc.map (.int .i64)) ∧ RdAt b s wr ∧ Only w wr b ∧ getN oneInt (n - j) s acc = getM oneInt st) (fun _ i _ => n - (intOf i).toNat)
  case atStart => exact ⟨0, [], _, Nat.zero_le _, rfl, rfl, World.ownsRow_nil _ _ _ _, HO.out.1, HO.out.2, HG.out.symm⟩
  case round =>
    obtain ⟨j, acc, s, hj, rfl, hacc, hO, hR, hB, hM⟩ := hrel
    have hBs := hB.size
    by_cases hlt : j < n
    · obtain ⟨m, hm⟩ : ∃ m, n - j = m + 1 := ⟨n - j - 1, by omega⟩
      have hm' : n - (j + 1) = m := by omega
      rw [hm] at hM
      have HA := Lib.hid (And.intro hacc (And.intro hO (And.intro hB (And.intro hM (And.intro hm' hR)))))
      have HC := Lib.hid (getInt_any b s wr hR)
      have hjI : (j : Int) < (n : Int) := by omega
      clear hacc hO hR hB hM hm hm'
      go_wp2_with fail
      refine (Calls.mono HC.out ?_)
      rintro e w3 ⟨rfl, h3, o3⟩
      by_cases he : (oneInt s).2.e = 0
      · have HE := Lib.hid he
        have HQ := Lib.hid (And.intro h3 (And.intro (HA.out.2.2.1.trans o3) (own_rd HA.out.2.1 HA.out.2.2.2.2.2 (by decide) o3)))
        have hal := HA.out.1
        have hbs := o3.size
        have HM := Lib.hid (get_step HA.out.2.2.2.1 he)
        rw [he]
        clear he h3 o3 HE
        generalize (oneInt s).1 = x at *
        generalize (oneInt s).2 = s' at *
        go_wp2_with (at_builtin; refine wpList_append_own_at _ rfl _ _ 51 rfl w.heap.size 2 i0 (.int .i64 0) 1 8 Try.underlying51 hi hz0 hz1 hz2 rfl (by decide) _ _ _ rfl (HQ.out.2.2.alloc _) ⟨w3.heap.size, 0, none⟩ 1 1 [.int .i64 x] rfl rfl (cell_one_new _ _ _) (one_i64 x) (by unfold maxLen; omega) (by omega) (by simp; omega) ?_; intro v' w5 hown5 hgrow5 _ _)
        have HZ := Lib.hid (And.intro (rd_grown (rd_alloc HQ.out.1 _) (HQ.out.2.2.alloc _) (by decide) hgrow5) (only_own HQ.out.2.1 HQ.out.2.2 (Nat.le_refl _) _ hgrow5))
        have HV := Lib.hid hown5
        clear hown5 hgrow5
        go_wp2_with fail
        go_roundw
        case rel => exact ⟨j + 1, acc ++ [x], s', by omega, by go_num, by simp [hal], by simpa using HV.out, HZ.out.1, HZ.out.2, by rw [HA.out.2.2.2.2.1]; exact HM.out⟩
        case measure => simp [intOf]; omega
      · have hd : ((oneInt s).2.e != 0) = true := by simpa using he
        have HM := Lib.hid (get_stop HA.out.2.2.2.1 he)
        have HQ := Lib.hid (And.intro h3 (HA.out.2.2.1.trans o3))
        clear he h3 o3
        go_wp2_with fail
        go_ret
        rw [HM.out]
        exact ⟨none, 0, rfl, .inl rfl, HQ.out.1, HQ.out.2⟩
    · have hje : j = n := by omega
      subst hje
      rw [Nat.sub_self] at hM
      obtain ⟨a, c, rfl⟩ := own_slice hO
      have HA := Lib.hid (And.intro hO (And.intro hR (And.intro hB hM)))
      clear hO hR hB hM hacc
      go_wp2_with fail
      go_ret
      rw [← HA.out.2.2.2]
      exact ⟨a, c, rfl, row_done HA.out.1, HA.out.2.1, HA.out.2.2.1⟩

set_option maxRecDepth 100000 in
set_option maxHeartbeats 1000000 in
theorem get_num (b : Nat) (st : RS) (w : World) (hb : RdAt b st w) :
    Calls Try.prog 84 #[.pointer (some ⟨b, 0, none⟩), .func (.func 82) #[] #[]] w (GetPost 3 b (getM oneNum st).1 (getM oneNum st).2 w) := by
  obtain ⟨i0, hi, hz0, hz1, hz2⟩ := info_parts infoInt
  obtain ⟨n, hn, hn255⟩ := num1_nat st
  have HG := Lib.hid (getM_nat (one := oneNum) hn)
  have HB := Lib.hid (Byte_any b st w hb)
  have hbl := hb.lt
  have HN := Lib.hid hn
  clear hb hn
  go_enter Try.func84, Try.ntmps84
  go_wp2_with fail
  refine (Calls.mono HB.out ?_)
  rintro e w1 ⟨rfl, h1, o1⟩
  rw [HN.out]
  have HO := Lib.hid (And.intro h1 o1)
  clear h1 o1
  go_wp2_with fail
  go_loopw [5, 16] (fun v i wr => ∃ (j : Nat) (acc : List Int) (s : RS), j ≤ n ∧ i = .int .u8 j ∧ acc.length = j ∧ wr.ownsRow w.heap.size 3 1 v acc.length (acc.map (.int .i64)) ∧ RdAt b s wr ∧ Only w wr b ∧ getN oneNum (n - j) s acc = getM oneNum st) (fun _ i _ => n - (intOf i).toNat)
  case atStart => exact ⟨0, [], _, Nat.zero_le _, rfl, rfl, World.ownsRow_nil _ _ _ _, HO.out.1, HO.out.2, HG.out.symm⟩
  case round =>
    obtain ⟨j, acc, s, hj, rfl, hacc, hO, hR, hB, hM⟩ := hrel
    have hBs := hB.size
    by_cases hlt : j < n
    · obtain ⟨m, hm⟩ : ∃ m, n - j = m + 1 := ⟨n - j - 1, by omega⟩
      have hm' : n - (j + 1) = m := by omega
      rw [hm] at hM
      have HA := Lib.hid (And.intro hacc (And.intro hO (And.intro hB (And.intro hM (And.intro hm' hR)))))
      have HC := Lib.hid (getNumber_any b s wr hR)
      have hjI : (j : Int) < (n : Int) := by omega
      clear hacc hO hR hB hM hm hm'
      go_wp2_with fail
      refine (Calls.mono HC.out ?_)
      rintro e w3 ⟨rfl, h3, o3⟩
      by_cases he : (oneNum s).2.e = 0
      · have HE := Lib.hid he
        have HQ := Lib.hid (And.intro h3 (And.intro (HA.out.2.2.1.trans o3) (own_rd HA.out.2.1 HA.out.2.2.2.2.2 (by decide) o3)))
        have hal := HA.out.1
        have hbs := o3.size
        have HM := Lib.hid (get_step HA.out.2.2.2.1 he)
        rw [he]
        clear he h3 o3 HE
        generalize (oneNum s).1 = x at *
        generalize (oneNum s).2 = s' at *
        go_wp2_with (at_builtin; refine wpList_append_own_at _ rfl _ _ 40 rfl w.heap.size 3 i0 (.int .i64 0) 1 8 Try.underlying40 hi hz0 hz1 hz2 rfl (by decide) _ _ _ rfl (HQ.out.2.2.alloc _) ⟨w3.heap.size, 0, none⟩ 1 1 [.int .i64 x] rfl rfl (cell_one_new _ _ _) (one_i64 x) (by unfold maxLen; omega) (by omega) (by simp; omega) ?_; intro v' w5 hown5 hgrow5 _ _)
        have HZ := Lib.hid (And.intro (rd_grown (rd_alloc HQ.out.1 _) (HQ.out.2.2.alloc _) (by decide) hgrow5) (only_own HQ.out.2.1 HQ.out.2.2 (Nat.le_refl _) _ hgrow5))
        have HV := Lib.hid hown5
        clear hown5 hgrow5
        go_wp2_with fail
        go_roundw
        case rel => exact ⟨j + 1, acc ++ [x], s', by omega, by go_num, by simp [hal], by simpa using HV.out, HZ.out.1, HZ.out.2, by rw [HA.out.2.2.2.2.1]; exact HM.out⟩
        case measure => simp [intOf]; omega
      · have hd : ((oneNum s).2.e != 0) = true := by simpa using he
        have HM := Lib.hid (get_stop HA.out.2.2.2.1 he)
        have HQ := Lib.hid (And.intro h3 (HA.out.2.2.1.trans o3))
        clear he h3 o3
        go_wp2_with fail
        go_ret
        rw [HM.out]
        exact ⟨none, 0, rfl, .inl rfl, HQ.out.1, HQ.out.2⟩
    · have hje : j = n := by omega
      subst hje
      rw [Nat.sub_self] at hM
      obtain ⟨a, c, rfl⟩ := own_slice hO
      have HA := Lib.hid (And.intro hO (And.intro hR (And.intro hB hM)))
      clear hO hR hB hM hacc
      go_wp2_with fail
      go_ret
      rw [← HA.out.2.2.2]
      exact ⟨a, c, rfl, row_done HA.out.1, HA.out.2.1, HA.out.2.2.1⟩

end Go.Proofs.Ytdnkijljpmcejaa
