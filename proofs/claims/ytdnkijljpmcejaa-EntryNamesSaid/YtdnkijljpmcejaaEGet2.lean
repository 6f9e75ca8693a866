/-
  entry.get at lists and at what was dealt, getDeal.
-/
import Derived.Test.YtdnkijljpmcejaaEGet
namespace Go.Proofs.Ytdnkijljpmcejaa
open Go.RowKit

section
variable {lo hi : Nat} {w w' : World} {xs : List Value} {ls : List (List Int)} {ds : List Dl} {a : Option Addr}
theorem OLst.grow (h : OLst lo hi w a ls) (k : ∀ q cur, Blk w q 22 cur → Blk w' q 22 cur) (k' : ∀ q cur, Blk w q 23 cur → Blk w' q 23 cur) : OLst lo hi w' a ls := by
  rcases h with h | ⟨q, cur, ha, h1, h2, hb, hc⟩
  · exact .inl h
  · exact .inr ⟨q, cur, ha, h1, h2, k' q cur hb, fun i l hl => by
      obtain ⟨a', c', g1, g2⟩ := hc i l hl
      exact ⟨a', c', g1, g2.kept fun q cur _ _ hb => k q cur hb⟩⟩
theorem LAcc.grow (h : LAcc lo hi w xs ls) (k : ∀ q cur, Blk w q 22 cur → Blk w' q 22 cur) : LAcc lo hi w' xs ls := ⟨h.1, fun i l hl => by
  obtain ⟨a', c', g1, g2⟩ := h.2 i l hl
  exact ⟨a', c', g1, g2.kept fun q cur _ _ hb => k q cur hb⟩⟩
theorem DAcc.grow (h : DAcc lo hi w xs ds) (k : ∀ q cur, Blk w q 22 cur → Blk w' q 22 cur) (k' : ∀ q cur, Blk w q 23 cur → Blk w' q 23 cur) : DAcc lo hi w' xs ds := ⟨h.1, fun i l hl => by
  obtain ⟨a', c', g0, g1, g2⟩ := h.2 i l hl
  exact ⟨a', c', g0, g1, g2.grow k k'⟩⟩
end
theorem not_five_rd : ¬ Five 100 := by unfold Five; decide
theorem blk_step {w w5 : World} {base n size : Nat} {e t : TypeId} {v : Value} {xs : List Value} (o : Obj) (ho : w.ownsRow base e size v n xs) (hne : e ≠ t) (g : (w.alloc o).grownBy w5 v.ownBlock) : ∀ q cur, Blk w q t cur → Blk w5 q t cur :=
  fun _ _ hb => (hb.alloc o).grown g (own_ne' (ho.alloc o) (hb.alloc o) hne)
theorem blk_step2 {w w5 : World} {base n size : Nat} {e t : TypeId} {v : Value} {xs : List Value} (o o' : Obj) (ho : w.ownsRow base e size v n xs) (hne : e ≠ t) (g : ((w.alloc o).alloc o').grownBy w5 v.ownBlock) : ∀ q cur, Blk w q t cur → Blk w5 q t cur :=
  fun _ _ hb => ((hb.alloc o).alloc o').grown g (own_ne' ((ho.alloc o).alloc o') ((hb.alloc o).alloc o') hne)
theorem only_own2 {w wr w1 : World} {b base n size : Nat} {e : TypeId} {v : Value} {xs : List Value} (h : Only w wr b) (ho : wr.ownsRow base e size v n xs) (hb : w.heap.size ≤ base) (o o' : Obj) (g : ((wr.alloc o).alloc o').grownBy w1 v.ownBlock) : Only w w1 b :=
  only_grow (h.alloc o) (ho.alloc o) hb ((World.grownBy_alloc (wr.alloc o) o' _).trans g)
theorem one_sl (a : Option Addr) (n c : Nat) : ∀ u ∈ [Value.slice a n c], u.oneCell' = true := by
  intro u hu
  obtain rfl : u = _ := by simpa using hu
  rfl
theorem two_dl (x : Int) (a : Option Addr) (n c : Nat) : ∀ u ∈ [Value.int .i64 x, Value.slice a n c], u.oneCell' = true := by
  intro u hu
  rcases List.mem_cons.1 hu with rfl | hu
  · rfl
  · obtain rfl : u = _ := by simpa using hu
    rfl
theorem cell_two_new (w : World) (x y : Value) (t : TypeId) : ∀ (j : Nat) u, [x, y][j]? = some u → (w.alloc (.cells #[x, y] t)).cell? ((⟨w.heap.size, 0, none⟩ : Addr).add j) = some u := by
  intro j u hj
  rw [Addr.add_lit, Nat.zero_add, (Blk.new w t #[x, y]).cell]
  simpa using hj
theorem set2_blk {w : World} {g q : Nat} {t t' : TypeId} {cs cur : Array Value} (hg : Blk w g t' cs) (hq : Blk w q t cur) (hne : t ≠ t') (u v : Value) : Blk ((w.setCell ⟨g, 0, none⟩ u).setCell ⟨g, 1, none⟩ v) q t cur := (hq.farc (Blk.ne_ hq hg hne) u).farc (Blk.ne_ hq hg hne) v
/-- A list more. -/
theorem LAcc.next {w wr w3 w5 : World} {b : Nat} {s : RS} {v : Value} {xs : List Value} {acc : List (List Int)} {l : List Int} {xa : Option Addr} {xc : Nat} {o : Obj} (h : LAcc w.heap.size wr.heap.size wr xs acc) (hw : w.heap.size ≤ wr.heap.size) (hR : RdAt b s wr) (o3 : Only wr w3 b)
    (hl : w3.ownsRow wr.heap.size 22 1 (.slice xa l.length xc) l.length (l.map (.int .u64))) (ho : w3.ownsRow w.heap.size 23 1 v acc.length xs) (g : (w3.alloc o).grownBy w5 v.ownBlock) :
    LAcc w.heap.size w5.heap.size w5 (xs ++ [.slice xa l.length xc]) (acc ++ [l]) := by
  have h1 : LAcc w.heap.size w3.heap.size w3 (xs ++ [.slice xa l.length xc]) (acc ++ [l]) := ((h.kept (Kp.of_only o3 hR not_five_rd)).more o3.size).snoc ((Row.of_own hl).more hw (Nat.le_refl _))
  have hs : w3.heap.size ≤ w5.heap.size := by have := g.size; rw [asz] at this; omega
  exact (h1.grow (blk_step o ho (by decide) g)).more hs
theorem DAcc.next {w wr w3 w5 : World} {b : Nat} {s : RS} {v : Value} {xs : List Value} {acc : List Dl} {d : Dl} {xa : Option Addr} {xc : Nat} {o o' : Obj} (h : DAcc w.heap.size wr.heap.size wr xs acc) (hw : w.heap.size ≤ wr.heap.size) (hR : RdAt b s wr) (o3 : Only wr w3 b)
    (hl : OLst wr.heap.size w3.heap.size w3 xa d.2) (ho : w3.ownsRow w.heap.size 58 2 v acc.length xs) (g : ((w3.alloc o).alloc o').grownBy w5 v.ownBlock) :
    DAcc w.heap.size w5.heap.size w5 (xs ++ [.int .i64 d.1, .slice xa d.2.length xc]) (acc ++ [d]) := by
  have h1 : DAcc w.heap.size w3.heap.size w3 (xs ++ [.int .i64 d.1, .slice xa d.2.length xc]) (acc ++ [d]) := ((h.kept (Kp.of_only o3 hR not_five_rd)).more o3.size).snoc (hl.more hw (Nat.le_refl _))
  have hs : w3.heap.size ≤ w5.heap.size := by have := g.size; rw [asz, asz] at this; omega
  exact (h1.grow (blk_step2 o o' ho (by decide) g) (blk_step2 o o' ho (by decide) g)).more hs

set_option maxRecDepth 100000 in
set_option maxHeartbeats 1000000 in
theorem get_list (b : Nat) (st : RS) (w : World) (hb : RdAt b st w) :
    Calls Try.prog 81 #[.pointer (some ⟨b, 0, none⟩), .func (.func 45) #[] #[]] w (GetLPost b (getM RS.list st).1 (getM RS.list st).2 w) := by
  obtain ⟨i0, hi, hz0, hz1, hz2⟩ := info_parts infoLst
  obtain ⟨n, hn, hn255⟩ := num1_nat st
  have HG := Lib.hid (getM_nat (one := RS.list) hn)
  have HB := Lib.hid (Byte_any b st w hb)
  have HN := Lib.hid hn
  clear hb hn
  go_enter Try.func81, Try.ntmps81
  go_wp2_with fail
  refine (Calls.mono HB.out ?_)
  rintro e w1 ⟨rfl, h1, o1⟩
  rw [HN.out]
  have HO := Lib.hid (And.intro h1 o1)
  clear h1 o1
  go_wp2_with fail
  go_loopw [5, 16] (fun v i wr => ∃ (j : Nat) (acc : List (List Int)) (s : RS) (xs : List Value), j ≤ n ∧ i = .int .u8 j ∧ acc.length = j ∧ wr.ownsRow w.heap.size 23 1 v acc.length xs ∧ LAcc w.heap.size wr.heap.size wr xs acc ∧ RdAt b s wr ∧ Only w wr b ∧ getN RS.list (n - j) s acc = getM RS.list st) (fun _ i _ => n - (intOf i).toNat)
  case atStart => exact ⟨0, [], _, [], Nat.zero_le _, rfl, rfl, World.ownsRow_nil _ _ _ _, LAcc.nil, HO.out.1, HO.out.2, HG.out.symm⟩
  case round =>
    obtain ⟨j, acc, s, xs, hj, rfl, hacc, hO, hL, hR, hB, hM⟩ := hrel
    have hBs := hB.size
    by_cases hlt : j < n
    · obtain ⟨m, hm⟩ : ∃ m, n - j = m + 1 := ⟨n - j - 1, by omega⟩
      have hm' : n - (j + 1) = m := by omega
      rw [hm] at hM
      have HA := Lib.hid (And.intro hacc (And.intro hO (And.intro hB (And.intro hM (And.intro hm' (And.intro hR (And.intro hL hBs)))))))
      have HC := Lib.hid (List_any b s wr hR)
      have hjI : (j : Int) < (n : Int) := by omega
      clear hacc hO hR hB hM hm hm' hL
      go_wp2_with fail
      refine (Calls.mono HC.out ?_)
      rintro e w3 ⟨xa, xc, rfl, hl3, h3, o3⟩
      by_cases he : s.list.2.e = 0
      · have HQ := Lib.hid (And.intro h3 (And.intro (HA.out.2.2.1.trans o3) (And.intro (own_rd HA.out.2.1 HA.out.2.2.2.2.2.1 (by decide) o3) (And.intro hl3 o3))))
        have hal := HA.out.1
        have hbs := o3.size
        have HM := Lib.hid (get_step HA.out.2.2.2.1 he)
        rw [he]
        clear he h3 o3 hl3
        generalize s.list.1 = l at *
        generalize s.list.2 = s' at *
        go_wp2_with (at_builtin; refine wpList_append_own_at _ rfl _ _ 52 rfl w.heap.size 23 i0 (.slice none 0 0) 1 24 Try.underlying52 hi hz0 hz1 hz2 rfl (by decide) _ _ _ rfl (HQ.out.2.2.1.alloc _) ⟨w3.heap.size, 0, none⟩ 1 1 [.slice xa l.length xc] rfl rfl (cell_one_new _ _ _) (one_sl xa l.length xc) (by unfold maxLen; omega) (by omega) (by simp; omega) ?_; intro v' w5 hown5 hgrow5 _ _)
        have HZ := Lib.hid (And.intro (rd_grown (rd_alloc HQ.out.1 _) (HQ.out.2.2.1.alloc _) (by decide) hgrow5) (And.intro (only_own HQ.out.2.1 HQ.out.2.2.1 (Nat.le_refl _) _ hgrow5) (HA.out.2.2.2.2.2.2.1.next (xc := xc) HA.out.2.2.2.2.2.2.2 HA.out.2.2.2.2.2.1 HQ.out.2.2.2.2 HQ.out.2.2.2.1 HQ.out.2.2.1 hgrow5)))
        have HV := Lib.hid hown5
        clear hown5 hgrow5
        go_wp2_with fail
        go_roundw
        case rel => exact ⟨j + 1, acc ++ [l], s', xs ++ [.slice xa l.length xc], by omega, by go_num, by simp [hal], by simpa using HV.out, HZ.out.2.2, HZ.out.1, HZ.out.2.1, by rw [HA.out.2.2.2.2.1]; exact HM.out⟩
        case measure => simp [intOf]; omega
      · have hd : (s.list.2.e != 0) = true := by simpa using he
        have HM := Lib.hid (get_stop HA.out.2.2.2.1 he)
        have HQ := Lib.hid (And.intro h3 (HA.out.2.2.1.trans o3))
        clear he h3 o3 hl3
        go_wp2_with fail
        go_ret
        rw [HM.out]
        exact ⟨none, 0, rfl, .inl rfl, HQ.out.1, HQ.out.2⟩
    · have hje : j = n := by omega
      subst hje
      rw [Nat.sub_self] at hM
      obtain ⟨a, c, rfl⟩ := own_slice hO
      have HA := Lib.hid (And.intro hO (And.intro hR (And.intro hB (And.intro hM hL))))
      clear hO hR hB hM hacc hL
      go_wp2_with fail
      go_ret
      rw [← HA.out.2.2.2.1]
      exact ⟨a, c, rfl, OLst.of_own HA.out.1 HA.out.2.2.2.2, HA.out.2.1, HA.out.2.2.1⟩

set_option maxRecDepth 100000 in
set_option maxHeartbeats 1000000 in
theorem getDeal_any (b : Nat) (st : RS) (w : World) (hb : RdAt b st w) :
    Calls Try.prog 86 #[.pointer (some ⟨b, 0, none⟩)] w (DealPost b (oneDeal st).1 (oneDeal st).2 w) := by
  obtain ⟨w0, hw0⟩ : ∃ w0, w0 = w.alloc (.cells #[.int .i64 0, .slice none 0 0] 58) := ⟨_, rfl⟩
  have O0 : Only w w0 b := by rw [hw0]; exact (Only.refl w b).alloc _
  have K0 : Blk w0 w.heap.size 58 #[.int .i64 0, .slice none 0 0] := by rw [hw0]; exact Blk.new w _ _
  have hb0 : RdAt b st w0 := by rw [hw0]; exact rd_alloc hb _
  have HW := Lib.hid hw0
  have HC := Lib.hid (getNumber_any b st w0 hb0)
  have HK := Lib.hid (And.intro K0 (And.intro O0 hb0))
  have hs0 : w.heap.size < w0.heap.size := K0.lt
  clear hw0 O0 K0 hb0 hb
  go_enter Try.func86, Try.ntmps86
  go_upto_region 1 with fail
  rw [← HW.out]
  clear HW
  go_wp2_with fail
  refine (Calls.mono HC.out ?_)
  rintro e w1 ⟨rfl, h1, o1⟩
  have K1 := HK.out.1.grown o1 (some_ne (Blk.ne_ HK.out.1 HK.out.2.2 (by decide)))
  have HC1 := Lib.hid (get_list b (oneNum st).2 w1 h1)
  have HO := Lib.hid (And.intro (HK.out.2.1.trans o1) (And.intro K1 h1))
  have hs1 := o1.size
  clear HC h1 o1 K1
  go_wp2_with fail
  refine (Calls.mono HC1.out ?_)
  rintro e w2 ⟨a, c, rfl, l2, h2, o2⟩
  have K2 := HO.out.2.1.grown o2 (some_ne (Blk.ne_ HO.out.2.1 HO.out.2.2 (by decide)))
  have HP := Lib.hid (And.intro (HO.out.1.trans o2) (And.intro K2 (And.intro h2 l2)))
  have HC2 := Lib.hid (wrong_any b _ w2 h2)
  have hs2 := o2.size
  clear HC1 h2 o2 l2
  go_wp2_with fail
  refine (Calls.mono HC2.out ?_)
  rintro e w3 ⟨rfl, rfl⟩
  have g0 : w2.cell? ⟨w.heap.size, 0, none⟩ = some (.int .i64 0) := K2.cell 0
  have g1 : w2.cell? ⟨w.heap.size, 1, none⟩ = some (.slice none 0 0) := K2.cell 1
  have z0 := K2.frozen 0
  have z1 := K2.frozen 1
  clear K2 HC2
  go_wp2_with fail
  refine bodyPost_ret (v := .tuple #[.agg #[.int .i64 (oneDeal st).1.1, .slice a (oneDeal st).1.2.length c], .int .i64 (oneDeal st).2.e]) (by simp [results, Try.results86, go_sem, g0, g1, oneDeal]) rfl ?_
  exact ⟨a, c, rfl, (((HP.out.2.2.2.grow (fun _ _ hb => set2_blk HP.out.2.1 hb (by decide) _ _) (fun _ _ hb => set2_blk HP.out.2.1 hb (by decide) _ _))).more (by omega) (by simp [World.setCell])), set2_blk HP.out.2.1 HP.out.2.2.1 (by decide) _ _, (HP.out.1.setc (.inr (Nat.le_refl _)) _).setc (.inr (Nat.le_refl _)) _⟩

set_option maxRecDepth 100000 in
set_option maxHeartbeats 1000000 in
theorem get_deal (b : Nat) (st : RS) (w : World) (hb : RdAt b st w) :
    Calls Try.prog 85 #[.pointer (some ⟨b, 0, none⟩), .func (.func 86) #[] #[]] w (GetDPost b (getM oneDeal st).1 (getM oneDeal st).2 w) := by
  obtain ⟨i0, hi, hz0, hz1, hz2⟩ := info_parts infoDl
  obtain ⟨n, hn, hn255⟩ := num1_nat st
  have HG := Lib.hid (getM_nat (one := oneDeal) hn)
  have HB := Lib.hid (Byte_any b st w hb)
  have HN := Lib.hid hn
  clear hb hn
  go_enter Try.func85, Try.ntmps85
  go_wp2_with fail
  refine (Calls.mono HB.out ?_)
  rintro e w1 ⟨rfl, h1, o1⟩
  rw [HN.out]
  have HO := Lib.hid (And.intro h1 o1)
  clear h1 o1
  go_wp2_with fail
  go_loopw [5, 16] (fun v i wr => ∃ (j : Nat) (acc : List Dl) (s : RS) (xs : List Value), j ≤ n ∧ i = .int .u8 j ∧ acc.length = j ∧ wr.ownsRow w.heap.size 58 2 v acc.length xs ∧ DAcc w.heap.size wr.heap.size wr xs acc ∧ RdAt b s wr ∧ Only w wr b ∧ getN oneDeal (n - j) s acc = getM oneDeal st) (fun _ i _ => n - (intOf i).toNat)
  case atStart => exact ⟨0, [], _, [], Nat.zero_le _, rfl, rfl, World.ownsRow_nil _ _ _ _, DAcc.nil, HO.out.1, HO.out.2, HG.out.symm⟩
  case round =>
    obtain ⟨j, acc, s, xs, hj, rfl, hacc, hO, hL, hR, hB, hM⟩ := hrel
    have hBs := hB.size
    by_cases hlt : j < n
    · obtain ⟨m, hm⟩ : ∃ m, n - j = m + 1 := ⟨n - j - 1, by omega⟩
      have hm' : n - (j + 1) = m := by omega
      rw [hm] at hM
      have HA := Lib.hid (And.intro hacc (And.intro hO (And.intro hB (And.intro hM (And.intro hm' (And.intro hR (And.intro hL hBs)))))))
      have HC := Lib.hid (getDeal_any b s wr hR)
      have hjI : (j : Int) < (n : Int) := by omega
      clear hacc hO hR hB hM hm hm' hL
      go_wp2_with fail
      refine (Calls.mono HC.out ?_)
      rintro e w3 ⟨xa, xc, rfl, hl3, h3, o3⟩
      by_cases he : (oneDeal s).2.e = 0
      · have HQ := Lib.hid (And.intro h3 (And.intro (HA.out.2.2.1.trans o3) (And.intro (own_rd HA.out.2.1 HA.out.2.2.2.2.2.1 (by decide) o3) (And.intro hl3 o3))))
        have hal := HA.out.1
        have hbs := o3.size
        have HM := Lib.hid (get_step HA.out.2.2.2.1 he)
        rw [he]
        clear he h3 o3 hl3
        generalize (oneDeal s).1 = d at *
        generalize (oneDeal s).2 = s' at *
        go_wp2_with (at_builtin; refine wpList_append_own_at _ rfl _ _ 53 rfl w.heap.size 58 i0 (.agg #[.int .i64 0, .slice none 0 0]) 2 32 Try.underlying53 hi hz0 hz1 hz2 rfl (by decide) _ _ _ rfl ((HQ.out.2.2.1.alloc _).alloc _) ⟨w3.heap.size + 1, 0, none⟩ 1 1 [.int .i64 d.1, .slice xa d.2.length xc] rfl rfl (by simpa only [asz] using cell_two_new (w3.alloc (.cells #[.int .i64 d.1, .slice xa d.2.length xc] 58)) (.int .i64 d.1) (.slice xa d.2.length xc) 58) (two_dl d.1 xa d.2.length xc) (by unfold maxLen; omega) (by omega) (by simp; omega) ?_; intro v' w5 hown5 hgrow5 _ _)
        have HZ := Lib.hid (And.intro (rd_grown (rd_alloc (rd_alloc HQ.out.1 _) _) ((HQ.out.2.2.1.alloc _).alloc _) (by decide) hgrow5) (And.intro (only_own2 HQ.out.2.1 HQ.out.2.2.1 (Nat.le_refl _) _ _ hgrow5) (HA.out.2.2.2.2.2.2.1.next (xc := xc) HA.out.2.2.2.2.2.2.2 HA.out.2.2.2.2.2.1 HQ.out.2.2.2.2 HQ.out.2.2.2.1 HQ.out.2.2.1 hgrow5)))
        have HV := Lib.hid hown5
        clear hown5 hgrow5
        go_wp2_with fail
        go_roundw
        case rel => exact ⟨j + 1, acc ++ [d], s', xs ++ [.int .i64 d.1, .slice xa d.2.length xc], by omega, by go_num, by simp [hal], by simpa using HV.out, HZ.out.2.2, HZ.out.1, HZ.out.2.1, by rw [HA.out.2.2.2.2.1]; exact HM.out⟩
        case measure => simp [intOf]; omega
      · have hd : ((oneDeal s).2.e != 0) = true := by simpa using he
        have HM := Lib.hid (get_stop HA.out.2.2.2.1 he)
        have HQ := Lib.hid (And.intro h3 (HA.out.2.2.1.trans o3))
        clear he h3 o3 hl3
        go_wp2_with fail
        go_ret
        rw [HM.out]
        exact ⟨none, 0, rfl, .inl rfl, rd_alloc HQ.out.1 _, HQ.out.2.alloc _⟩
    · have hje : j = n := by omega
      subst hje
      rw [Nat.sub_self] at hM
      obtain ⟨a, c, rfl⟩ := own_slice hO
      have HA := Lib.hid (And.intro hO (And.intro hR (And.intro hB (And.intro hM hL))))
      clear hO hR hB hM hacc hL
      go_wp2_with fail
      go_ret
      rw [← HA.out.2.2.2.1]
      exact ⟨a, c, rfl, ODls.of_own HA.out.1 HA.out.2.2.2.2, HA.out.2.1, HA.out.2.2.1⟩

end Go.Proofs.Ytdnkijljpmcejaa
