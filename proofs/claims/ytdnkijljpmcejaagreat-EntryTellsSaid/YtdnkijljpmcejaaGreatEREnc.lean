/-
  consistoryref13.lists, Encode.
-/
import Derived.Test.YtdnkijljpmcejaaGreatERSize
import Derived.Test.YtdnkijljpmcejaaGreatEEnc
namespace Go.Proofs.YtdnkijljpmcejaaGreat
open Go.RowKit

/-- A text is answered. -/
def StB (s : List UInt8) (w : World) (r : Ending) (w' : World) : Prop := r = .returned (.string ⟨s.toArray⟩) ∧ Below w.heap.size w w'
theorem rnumw_any (l : List UInt8) (n : Int) (w : World) (hl : l.length + 8 ≤ 140737488355328) :
    Calls Tryz.prog 34 #[.string ⟨l.toArray⟩, .int .u64 (IntKind.u64.wrap n)] w (StB (l ++ pNum n) w) := by
  have h := rnum_any l (IntKind.u64.wrap n) w (by rw [IntKind.wrap_u64]; exact toU_u64 n) hl
  rw [IntKind.wrap_u64] at h ⊢
  exact h
theorem rint_st (l : List UInt8) (n : Int) (w : World) (hl : l.length + 8 ≤ 140737488355328) :
    Calls Tryz.prog 35 #[.string ⟨l.toArray⟩, .int .i64 n] w (StB (l ++ pNum n) w) := rint_any l n w hl
theorem count_st (l : List UInt8) (n : Nat) (w : World) (hn : n ≤ 255) (hl : l.length + 8 ≤ 140737488355328) :
    Calls Tryz.prog 33 #[.string ⟨l.toArray⟩, .int .i64 n] w (StB (l ++ be n 1) w) := count_any l n w hn hl
theorem pList_b {l : List Int} (h : l.length ≤ 1024) : pList l = bList l := if_pos h
set_option maxRecDepth 100000 in
set_option maxHeartbeats 1000000 in
theorem lists13_any (l : List UInt8) (a : Option Addr) (c : Nat) (ls : List (List Int)) (w : World) (hx : NLst w w.heap.size a ls) (hu : Us ls) (hn : ls.length ≤ 255) (hs : ∀ m ∈ ls, m.length ≤ 1024) (hl : l.length ≤ 1000000000) :
    Calls Tryz.prog 32 #[.string ⟨l.toArray⟩, .slice a ls.length c] w (StB (l ++ pMany pList ls) w) := by
  have HX := Lib.hid (And.intro hx (And.intro hu hs))
  have HC := Lib.hid (count_st l ls.length w hn (by omega))
  have HE := Lib.hid (show l ++ pMany pList ls = l ++ be ls.length 1 ++ pEach pList ls by unfold pMany; rw [List.append_assoc])
  have hb1 : (l ++ be ls.length 1).length = l.length + 1 := by rw [List.length_append, be_length]
  clear hx hu hs
  go_enter Tryz.func32, Tryz.ntmps32
  go_wp2_with fail
  refine (Calls.mono HC.out ?_)
  rintro e2 w1 ⟨rfl, b1⟩
  have B1 := Lib.hid b1
  clear b1 HC
  generalize l ++ be ls.length 1 = S at *
  go_wp2_with fail
  go_loopw [0, 5] (fun u v wr => ∃ j : Nat, j ≤ ls.length ∧ v = .int .i64 j ∧ u = .string ⟨(S ++ pEach pList (ls.take j)).toArray⟩ ∧ Below w.heap.size w wr) (fun _ v _ => ls.length - (intOf v).toNat)
  case atStart => exact ⟨0, Nat.zero_le _, rfl, by simp [pEach], B1.out⟩
  case round =>
    obtain ⟨j, hj, rfl, rfl, hB⟩ := hrel
    clear B1
    have hle := pEach_le pList 8194 (ls.take j) fun m hm => by rw [pList_length (HX.out.2.2 m (List.mem_of_mem_take hm))]; have := HX.out.2.2 m (List.mem_of_mem_take hm); omega
    have hlt0 : (ls.take j).length ≤ 255 := by rw [List.length_take]; omega
    by_cases hlt : j < ls.length
    · obtain ⟨m, hm⟩ : ∃ m, ls[j]? = some m := ⟨_, List.getElem?_eq_getElem hlt⟩
      have hjI : (j : Int) < (ls.length : Int) := by omega
      have hmem := List.mem_of_getElem? hm
      obtain ⟨b, o, rfl, a', c', hc, hnum⟩ : ∃ b o, a = some ⟨b, o, none⟩ ∧ ∃ a' c', wr.cell? ⟨b, o + j, none⟩ = some (.slice a' m.length c') ∧ Nums .u64 w w.heap.size a' m := by
        rcases HX.out.1 with h0 | ⟨b, o, ha, hb, hc⟩
        · rw [h0] at hlt; simp at hlt
        · obtain ⟨a', c', h1, h2⟩ := hc j m hm
          exact ⟨b, o, ha, a', c', (hB.cell (p := ⟨b, o + j, none⟩) hb).trans h1, h2⟩
      have HT := Lib.hid (show S ++ pEach pList (ls.take (j + 1)) = S ++ pEach pList (ls.take j) ++ bList m by rw [pEach_take _ hm, ← List.append_assoc, pList_b (HX.out.2.2 m hmem)])
      have hlen : (S ++ pEach pList (ls.take j)).length ≤ 1110000000 := by rw [List.length_append]; omega
      have HL := Lib.hid (rlist_ok (S ++ pEach pList (ls.take j)) a' c' m wr (hnum.step hB) (HX.out.2.1 m hmem) (HX.out.2.2 m hmem) (by omega))
      have HB := Lib.hid hB
      clear hnum hm hle hlt0 hmem
      generalize S ++ pEach pList (ls.take j) = T at *
      go_wp2_with fail
      refine (Calls.mono HL.out ?_)
      rintro e2 w2 ⟨rfl, b2⟩
      have B2 := Lib.hid (step_below HB.out b2)
      clear b2
      go_wp2_with fail
      go_roundw
      case rel => exact ⟨j + 1, by omega, by go_num, by rw [HT.out], B2.out⟩
      case measure => simp [intOf]; omega
    · have hje : j = ls.length := by omega
      have hnI : decide ((j : Int) < (ls.length : Int)) = false := decide_eq_false (by omega)
      have HT := Lib.hid (show S ++ pEach pList (ls.take j) = l ++ pMany pList ls by rw [HE.out, hje, List.take_length])
      have HB := Lib.hid hB
      clear hje hle
      go_wp2_with fail
      go_ret
      rw [HT.out]
      exact ⟨rfl, HB.out⟩

set_option maxRecDepth 100000 in
set_option maxHeartbeats 2000000 in
theorem renc_no (e : En) (p : Ad) (w : World) (_ok : e.Ok) (hL : e.Lim) (hN : NEn w w.heap.size e p) (hf : e.form = false) :
    Calls Tryz.prog 8 #[.agg #[.int .u8 e.k, .int .i64 e.id, .int .i64 e.ep, .slice p.a1 e.x.length p.c1, .slice p.a2 e.coms.length p.c2, .slice p.a3 e.next.length p.c3, .slice p.a4 e.deals.length p.c4]] w (StrPost [] 4 w) := by
  have HL := Lib.hid hL
  clear hL
  obtain ⟨w0, hw0⟩ : ∃ w0, w0 = w.alloc (.cells #[.int .u8 e.k, .int .i64 e.id, .int .i64 e.ep, .slice p.a1 e.x.length p.c1, .slice p.a2 e.coms.length p.c2, .slice p.a3 e.next.length p.c3, .slice p.a4 e.deals.length p.c4] 27) := ⟨_, rfl⟩
  have B0 : Below w.heap.size w w0 := by rw [hw0]; exact (Below.refl _ w).alloc (Nat.le_refl _) _
  have K0 : Blk w0 w.heap.size 27 #[.int .u8 e.k, .int .i64 e.id, .int .i64 e.ep, .slice p.a1 e.x.length p.c1, .slice p.a2 e.coms.length p.c2, .slice p.a3 e.next.length p.c3, .slice p.a4 e.deals.length p.c4] := by rw [hw0]; exact Blk.new w _ _
  have HW := Lib.hid hw0
  have H0 := Lib.hid (And.intro K0 (And.intro B0 (hN.step B0)))
  obtain ⟨f0, f1, f2, f3, f4, f5, f6⟩ := K0.entry
  clear hw0 hN K0 B0
  go_enter Tryz.func8, Tryz.ntmps8
  go_upto_region 1 with fail
  rw [← HW.out]
  clear HW
  generalize hGG : w.heap.size = G at f0 f1 f2 f3 f4 f5 f6 ⊢
  have HG := Lib.hid hGG
  clear hGG
  go_wp2_with fail
  refine (rformed_any e p w0 HL.out H0.out.2.2).mono ?_
  rintro e2 w1 ⟨rfl, b1⟩
  have K1 := H0.out.1.kept b1
  have H1 := Lib.hid (And.intro K1 (And.intro (step_below H0.out.2.1 b1) (H0.out.2.2.step b1)))
  rw [HG.out] at K1
  obtain ⟨f0, f1, f2, f3, f4, f5, f6⟩ := K1.entry
  clear K1 H0 b1
  rw [hf]
  clear hf
  go_wp2_with fail
  go_ret2
  exact ⟨rfl, H1.out.2.1⟩

set_option maxRecDepth 100000 in
set_option maxHeartbeats 2000000 in
theorem renc_big (e : En) (p : Ad) (w : World) (_ok : e.Ok) (hL : e.Lim) (hN : NEn w w.heap.size e p) (hf : e.form = true) (hlong : 2048 < e.long) :
    Calls Tryz.prog 8 #[.agg #[.int .u8 e.k, .int .i64 e.id, .int .i64 e.ep, .slice p.a1 e.x.length p.c1, .slice p.a2 e.coms.length p.c2, .slice p.a3 e.next.length p.c3, .slice p.a4 e.deals.length p.c4]] w (StrPost [] 40 w) := by
  have hd : decide ((2048 : Int) < (e.long : Int)) = true := decide_eq_true (by omega)
  clear hlong
  have HL := Lib.hid hL
  clear hL
  obtain ⟨w0, hw0⟩ : ∃ w0, w0 = w.alloc (.cells #[.int .u8 e.k, .int .i64 e.id, .int .i64 e.ep, .slice p.a1 e.x.length p.c1, .slice p.a2 e.coms.length p.c2, .slice p.a3 e.next.length p.c3, .slice p.a4 e.deals.length p.c4] 27) := ⟨_, rfl⟩
  have B0 : Below w.heap.size w w0 := by rw [hw0]; exact (Below.refl _ w).alloc (Nat.le_refl _) _
  have K0 : Blk w0 w.heap.size 27 #[.int .u8 e.k, .int .i64 e.id, .int .i64 e.ep, .slice p.a1 e.x.length p.c1, .slice p.a2 e.coms.length p.c2, .slice p.a3 e.next.length p.c3, .slice p.a4 e.deals.length p.c4] := by rw [hw0]; exact Blk.new w _ _
  have HW := Lib.hid hw0
  have H0 := Lib.hid (And.intro K0 (And.intro B0 (hN.step B0)))
  obtain ⟨f0, f1, f2, f3, f4, f5, f6⟩ := K0.entry
  clear hw0 hN K0 B0
  go_enter Tryz.func8, Tryz.ntmps8
  go_upto_region 1 with fail
  rw [← HW.out]
  clear HW
  generalize hGG : w.heap.size = G at f0 f1 f2 f3 f4 f5 f6 ⊢
  have HG := Lib.hid hGG
  clear hGG
  go_wp2_with fail
  refine (rformed_any e p w0 HL.out H0.out.2.2).mono ?_
  rintro e2 w1 ⟨rfl, b1⟩
  have K1 := H0.out.1.kept b1
  have H1 := Lib.hid (And.intro K1 (And.intro (step_below H0.out.2.1 b1) (H0.out.2.2.step b1)))
  rw [HG.out] at K1
  obtain ⟨f0, f1, f2, f3, f4, f5, f6⟩ := K1.entry
  clear K1 H0 b1
  rw [hf]
  clear hf
  go_wp2_with fail
  refine (long_any e p w1 HL.out H1.out.2.2).mono ?_
  rintro e2 w2 ⟨rfl, b2⟩
  have B2 := Lib.hid (step_below H1.out.2.1 b2)
  clear b2
  go_wp2_with fail
  go_ret2
  exact ⟨rfl, B2.out⟩

set_option maxRecDepth 100000 in
set_option maxHeartbeats 2000000 in
theorem renc_1 (e : En) (p : Ad) (w : World) (ok : e.Ok) (hL : e.Lim) (hN : NEn w w.heap.size e p) (hf : e.form = true) (hlong : e.long ≤ 2048) (hk : e.k = 1) :
    Calls Tryz.prog 8 #[.agg #[.int .u8 e.k, .int .i64 e.id, .int .i64 e.ep, .slice p.a1 e.x.length p.c1, .slice p.a2 e.coms.length p.c2, .slice p.a3 e.next.length p.c3, .slice p.a4 e.deals.length p.c4]] w (StrPost e.bytes 0 w) := by
  have HL := Lib.hid hL
  have HO := Lib.hid ok
  have HP := Lib.hid (form_parts hf)
  have HSh := Lib.hid (short_long (En.is_of hf) hlong)
  have HBy := Lib.hid (bytes_1 hk)
  have hb9 : Byte e.k := ⟨ok.k0, ok.k1⟩
  have hd : decide ((2048 : Int) < (e.long : Int)) = false := decide_eq_false (by omega)
  have t1 : (e.k == 1) = true := by rw [hk]; rfl
  clear hL ok hlong hk
  obtain ⟨w0, hw0⟩ : ∃ w0, w0 = w.alloc (.cells #[.int .u8 e.k, .int .i64 e.id, .int .i64 e.ep, .slice p.a1 e.x.length p.c1, .slice p.a2 e.coms.length p.c2, .slice p.a3 e.next.length p.c3, .slice p.a4 e.deals.length p.c4] 27) := ⟨_, rfl⟩
  have B0 : Below w.heap.size w w0 := by rw [hw0]; exact (Below.refl _ w).alloc (Nat.le_refl _) _
  have K0 : Blk w0 w.heap.size 27 #[.int .u8 e.k, .int .i64 e.id, .int .i64 e.ep, .slice p.a1 e.x.length p.c1, .slice p.a2 e.coms.length p.c2, .slice p.a3 e.next.length p.c3, .slice p.a4 e.deals.length p.c4] := by rw [hw0]; exact Blk.new w _ _
  have HW := Lib.hid hw0
  have H0 := Lib.hid (And.intro K0 (And.intro B0 (hN.step B0)))
  obtain ⟨f0, f1, f2, f3, f4, f5, f6⟩ := K0.entry
  clear hw0 hN K0 B0
  go_enter Tryz.func8, Tryz.ntmps8
  go_upto_region 1 with fail
  rw [← HW.out]
  clear HW
  generalize hGG : w.heap.size = G at f0 f1 f2 f3 f4 f5 f6 ⊢
  have HG := Lib.hid hGG
  clear hGG
  go_wp2_with fail
  refine (rformed_any e p w0 HL.out H0.out.2.2).mono ?_
  rintro e2 w1 ⟨rfl, b1⟩
  have K1 := H0.out.1.kept b1
  have H1 := Lib.hid (And.intro K1 (And.intro (step_below H0.out.2.1 b1) (H0.out.2.2.step b1)))
  rw [HG.out] at K1
  obtain ⟨f0, f1, f2, f3, f4, f5, f6⟩ := K1.entry
  clear K1 H0 b1
  rw [hf]
  clear hf
  go_wp2_with fail
  refine (long_any e p w1 HL.out H1.out.2.2).mono ?_
  rintro e2 w2 ⟨rfl, b2⟩
  have K2 := H1.out.1.kept b2
  have H2 := Lib.hid (And.intro K2 (And.intro (step_below H1.out.2.1 b2) (H1.out.2.2.step b2)))
  rw [HG.out] at K2
  obtain ⟨f0, f1, f2, f3, f4, f5, f6⟩ := K2.entry
  clear K2 H1 b2
  go_wp2_with fail
  refine (rbyte_any [] e.k _ hb9 (by simp)).mono ?_
  rintro e2 w3 ⟨rfl, b3⟩
  have K3 := H2.out.1.kept b3
  have H3 := Lib.hid (And.intro K3 (And.intro (step_below H2.out.2.1 b3) (H2.out.2.2.step b3)))
  rw [HG.out] at K3
  obtain ⟨f0, f1, f2, f3, f4, f5, f6⟩ := K3.entry
  clear K3 H2 b3
  have hS : ([] ++ be e.k.toNat 1 : List UInt8).length ≤ 1 := by rw [List.nil_append, be_length]; omega
  generalize ([] ++ be e.k.toNat 1 : List UInt8) = S at *
  clear hb9 hd
  go_wp2_with fail
  refine (lists13_any S p.a2 p.c2 e.coms w3 H3.out.2.2.coms HO.out.coms HP.out.2.1 HSh.out.1 (by omega)).mono ?_
  rintro e4 w4 ⟨rfl, b4⟩
  have B4 := Lib.hid (step_below H3.out.2.1 b4)
  clear b4
  rw [← HBy.out]
  go_wp2_with fail
  go_ret2
  exact ⟨rfl, B4.out⟩

set_option maxRecDepth 100000 in
set_option maxHeartbeats 2000000 in
theorem renc_2 (e : En) (p : Ad) (w : World) (ok : e.Ok) (hL : e.Lim) (hN : NEn w w.heap.size e p) (hf : e.form = true) (hlong : e.long ≤ 2048) (hk : e.k = 2) :
    Calls Tryz.prog 8 #[.agg #[.int .u8 e.k, .int .i64 e.id, .int .i64 e.ep, .slice p.a1 e.x.length p.c1, .slice p.a2 e.coms.length p.c2, .slice p.a3 e.next.length p.c3, .slice p.a4 e.deals.length p.c4]] w (StrPost e.bytes 0 w) := by
  have HL := Lib.hid hL
  have HO := Lib.hid ok
  have HP := Lib.hid (form_parts hf)
  have HSh := Lib.hid (short_long (En.is_of hf) hlong)
  have HBy := Lib.hid (bytes_2 hk)
  have hb9 : Byte e.k := ⟨ok.k0, ok.k1⟩
  have hd : decide ((2048 : Int) < (e.long : Int)) = false := decide_eq_false (by omega)
  have t1 : (e.k == 1) = false := by rw [hk]; rfl
  have t2 : (e.k == 2) = true := by rw [hk]; rfl
  clear hL ok hlong hk
  obtain ⟨w0, hw0⟩ : ∃ w0, w0 = w.alloc (.cells #[.int .u8 e.k, .int .i64 e.id, .int .i64 e.ep, .slice p.a1 e.x.length p.c1, .slice p.a2 e.coms.length p.c2, .slice p.a3 e.next.length p.c3, .slice p.a4 e.deals.length p.c4] 27) := ⟨_, rfl⟩
  have B0 : Below w.heap.size w w0 := by rw [hw0]; exact (Below.refl _ w).alloc (Nat.le_refl _) _
  have K0 : Blk w0 w.heap.size 27 #[.int .u8 e.k, .int .i64 e.id, .int .i64 e.ep, .slice p.a1 e.x.length p.c1, .slice p.a2 e.coms.length p.c2, .slice p.a3 e.next.length p.c3, .slice p.a4 e.deals.length p.c4] := by rw [hw0]; exact Blk.new w _ _
  have HW := Lib.hid hw0
  have H0 := Lib.hid (And.intro K0 (And.intro B0 (hN.step B0)))
  obtain ⟨f0, f1, f2, f3, f4, f5, f6⟩ := K0.entry
  clear hw0 hN K0 B0
  go_enter Tryz.func8, Tryz.ntmps8
  go_upto_region 1 with fail
  rw [← HW.out]
  clear HW
  generalize hGG : w.heap.size = G at f0 f1 f2 f3 f4 f5 f6 ⊢
  have HG := Lib.hid hGG
  clear hGG
  go_wp2_with fail
  refine (rformed_any e p w0 HL.out H0.out.2.2).mono ?_
  rintro e2 w1 ⟨rfl, b1⟩
  have K1 := H0.out.1.kept b1
  have H1 := Lib.hid (And.intro K1 (And.intro (step_below H0.out.2.1 b1) (H0.out.2.2.step b1)))
  rw [HG.out] at K1
  obtain ⟨f0, f1, f2, f3, f4, f5, f6⟩ := K1.entry
  clear K1 H0 b1
  rw [hf]
  clear hf
  go_wp2_with fail
  refine (long_any e p w1 HL.out H1.out.2.2).mono ?_
  rintro e2 w2 ⟨rfl, b2⟩
  have K2 := H1.out.1.kept b2
  have H2 := Lib.hid (And.intro K2 (And.intro (step_below H1.out.2.1 b2) (H1.out.2.2.step b2)))
  rw [HG.out] at K2
  obtain ⟨f0, f1, f2, f3, f4, f5, f6⟩ := K2.entry
  clear K2 H1 b2
  go_wp2_with fail
  refine (rbyte_any [] e.k _ hb9 (by simp)).mono ?_
  rintro e2 w3 ⟨rfl, b3⟩
  have K3 := H2.out.1.kept b3
  have H3 := Lib.hid (And.intro K3 (And.intro (step_below H2.out.2.1 b3) (H2.out.2.2.step b3)))
  rw [HG.out] at K3
  obtain ⟨f0, f1, f2, f3, f4, f5, f6⟩ := K3.entry
  clear K3 H2 b3
  have hS : ([] ++ be e.k.toNat 1 : List UInt8).length ≤ 1 := by rw [List.nil_append, be_length]; omega
  generalize ([] ++ be e.k.toNat 1 : List UInt8) = S at *
  clear hb9 hd
  have hnl := pNum_length e.id
  have q1 : w3.drew.cell? ⟨G, 1, none⟩ = some (.int .i64 e.id) := f1
  have q3 : w3.drew.cell? ⟨G, 3, none⟩ = some (.slice p.a1 e.x.length p.c1) := f3
  have hlx := HP.out.1
  clear f1 f2 f3 f4 f5 f6
  go_upto_region 10 with fail
  go_region_held3 (fun w' => w'.cell? ⟨G, 1, none⟩ = some (.int .i64 e.id) ∧ w'.cell? ⟨G, 3, none⟩ = some (.slice p.a1 e.x.length p.c1)) (first | (with_reducible exact ⟨q1, q3⟩) | (with_reducible exact ⟨y0, y1⟩) | (with_reducible exact ⟨z0, z1⟩))
    (first
    | (go_at_call 34; (with_reducible refine (rnumw_any S e.id _ (by omega)).mono ?_); rintro e4 w4 ⟨rfl, b4⟩; have y0 := cell_keep q1 b4; have y1 := cell_keep q3 b4)
    | (go_at_call 33; (with_reducible refine (count_st (S ++ pNum e.id) e.x.length _ hlx (by rw [List.length_append]; omega)).mono ?_); rintro e5 w5 ⟨rfl, b5⟩; have z0 := cell_keep y0 b5; have z1 := cell_keep y1 b5))
  have b6 := step_below (below_dr b4) b5
  clear b4 b5 y0 y1 z0 z1 q1 q3
  have K5 := H3.out.1.kept b6
  have H5 := Lib.hid (And.intro K5 (And.intro (step_below H3.out.2.1 b6) (H3.out.2.2.step b6)))
  rw [HG.out] at K5
  obtain ⟨f0, f1, f2, f3, f4, f5, f6⟩ := K5.entry
  clear K5 H3 b6
  obtain ⟨T, hTe⟩ : ∃ T, T = S ++ pNum e.id ++ be e.x.length 1 := ⟨_, rfl⟩
  have HF := Lib.hid (show e.bytes = T ++ pEach pNum e.x by rw [HBy.out, hTe]; unfold pMany; simp only [List.append_assoc])
  have hT : T.length ≤ 10 := by rw [hTe, List.length_append, List.length_append, be_length]; omega
  have HTe := Lib.hid hTe
  clear HBy hTe
  go_wp2_with fail
  go_loopw [4, 5] (fun u v wr => ∃ j : Nat, j ≤ e.x.length ∧ v = .int .i64 j ∧ u = .string ⟨(T ++ pEach pNum (e.x.take j)).toArray⟩ ∧ Below w5.heap.size w5 wr) (fun _ v _ => e.x.length - (intOf v).toNat)
  case atStart => exact ⟨0, Nat.zero_le _, rfl, by rw [HTe.out]; simp [pEach], Below.refl _ _⟩
  case round =>
    obtain ⟨j, hj, rfl, rfl, hB⟩ := hrel
    have g := cell_keep f3 hB
    have hlt0 : (e.x.take j).length ≤ 255 := by rw [List.length_take]; omega
    have hle := pEach_le pNum 8 (e.x.take j) fun m _ => by rw [pNum_length]; omega
    by_cases hlt : j < e.x.length
    · obtain ⟨x, hx⟩ : ∃ x, e.x[j]? = some x := ⟨_, List.getElem?_eq_getElem hlt⟩
      have hjI : (j : Int) < (e.x.length : Int) := by omega
      obtain ⟨b, o, hb, hc0⟩ : ∃ b o, p.a1 = some ⟨b, o, none⟩ ∧ wr.cell? ⟨b, o + j, none⟩ = some (.int .i64 x) := by
        rcases H5.out.2.2.x with h0 | ⟨b, o, hb, hbl, hc⟩
        · rw [h0] at hlt; simp at hlt
        · exact ⟨b, o, hb, (hB.cell (p := ⟨b, o + j, none⟩) hbl).trans (hc j x hx)⟩
      have HT := Lib.hid (show T ++ pEach pNum (e.x.take (j + 1)) = T ++ pEach pNum (e.x.take j) ++ pNum x by rw [pEach_take _ hx, ← List.append_assoc])
      have hlen : (T ++ pEach pNum (e.x.take j)).length ≤ 1110000000 := by rw [List.length_append]; omega
      have HB := Lib.hid hB
      rw [hb] at g
      clear hx hle hlt0 hb hB
      generalize T ++ pEach pNum (e.x.take j) = V at *
      go_wp2_with fail
      refine (rint_st V x wr (by omega)).mono ?_
      rintro e2 w6 ⟨rfl, b6⟩
      have B6 := Lib.hid (step_below HB.out b6)
      clear b6
      go_wp2_with fail
      go_roundw
      case rel => exact ⟨j + 1, by omega, by go_num, by rw [HT.out], B6.out⟩
      case measure => simp [intOf]; omega
    · have hje : j = e.x.length := by omega
      have hnI : decide ((j : Int) < (e.x.length : Int)) = false := decide_eq_false (by omega)
      have HT := Lib.hid (show T ++ pEach pNum (e.x.take j) = e.bytes by rw [HF.out, hje, List.take_length])
      have HB := Lib.hid (step_below H5.out.2.1 hB)
      clear hje hle hB hlt0
      go_wp2_with fail
      go_ret2
      rw [HT.out]
      exact ⟨rfl, HB.out⟩

set_option maxRecDepth 100000 in
set_option maxHeartbeats 2000000 in
theorem renc_3 (e : En) (p : Ad) (w : World) (ok : e.Ok) (hL : e.Lim) (hN : NEn w w.heap.size e p) (hf : e.form = true) (hlong : e.long ≤ 2048) (hk : e.k = 3) :
    Calls Tryz.prog 8 #[.agg #[.int .u8 e.k, .int .i64 e.id, .int .i64 e.ep, .slice p.a1 e.x.length p.c1, .slice p.a2 e.coms.length p.c2, .slice p.a3 e.next.length p.c3, .slice p.a4 e.deals.length p.c4]] w (StrPost e.bytes 0 w) := by
  have HL := Lib.hid hL
  have HO := Lib.hid ok
  have HP := Lib.hid (form_parts hf)
  have HSh := Lib.hid (short_long (En.is_of hf) hlong)
  have HBy := Lib.hid (bytes_3 hk)
  have hb9 : Byte e.k := ⟨ok.k0, ok.k1⟩
  have hd : decide ((2048 : Int) < (e.long : Int)) = false := decide_eq_false (by omega)
  have t1 : (e.k == 1) = false := by rw [hk]; rfl
  have t2 : (e.k == 2) = false := by rw [hk]; rfl
  have t3 : (e.k == 3) = true := by rw [hk]; rfl
  clear hL ok hlong hk
  obtain ⟨w0, hw0⟩ : ∃ w0, w0 = w.alloc (.cells #[.int .u8 e.k, .int .i64 e.id, .int .i64 e.ep, .slice p.a1 e.x.length p.c1, .slice p.a2 e.coms.length p.c2, .slice p.a3 e.next.length p.c3, .slice p.a4 e.deals.length p.c4] 27) := ⟨_, rfl⟩
  have B0 : Below w.heap.size w w0 := by rw [hw0]; exact (Below.refl _ w).alloc (Nat.le_refl _) _
  have K0 : Blk w0 w.heap.size 27 #[.int .u8 e.k, .int .i64 e.id, .int .i64 e.ep, .slice p.a1 e.x.length p.c1, .slice p.a2 e.coms.length p.c2, .slice p.a3 e.next.length p.c3, .slice p.a4 e.deals.length p.c4] := by rw [hw0]; exact Blk.new w _ _
  have HW := Lib.hid hw0
  have H0 := Lib.hid (And.intro K0 (And.intro B0 (hN.step B0)))
  obtain ⟨f0, f1, f2, f3, f4, f5, f6⟩ := K0.entry
  clear hw0 hN K0 B0
  go_enter Tryz.func8, Tryz.ntmps8
  go_upto_region 1 with fail
  rw [← HW.out]
  clear HW
  generalize hGG : w.heap.size = G at f0 f1 f2 f3 f4 f5 f6 ⊢
  have HG := Lib.hid hGG
  clear hGG
  go_wp2_with fail
  refine (rformed_any e p w0 HL.out H0.out.2.2).mono ?_
  rintro e2 w1 ⟨rfl, b1⟩
  have K1 := H0.out.1.kept b1
  have H1 := Lib.hid (And.intro K1 (And.intro (step_below H0.out.2.1 b1) (H0.out.2.2.step b1)))
  rw [HG.out] at K1
  obtain ⟨f0, f1, f2, f3, f4, f5, f6⟩ := K1.entry
  clear K1 H0 b1
  rw [hf]
  clear hf
  go_wp2_with fail
  refine (long_any e p w1 HL.out H1.out.2.2).mono ?_
  rintro e2 w2 ⟨rfl, b2⟩
  have K2 := H1.out.1.kept b2
  have H2 := Lib.hid (And.intro K2 (And.intro (step_below H1.out.2.1 b2) (H1.out.2.2.step b2)))
  rw [HG.out] at K2
  obtain ⟨f0, f1, f2, f3, f4, f5, f6⟩ := K2.entry
  clear K2 H1 b2
  go_wp2_with fail
  refine (rbyte_any [] e.k _ hb9 (by simp)).mono ?_
  rintro e2 w3 ⟨rfl, b3⟩
  have K3 := H2.out.1.kept b3
  have H3 := Lib.hid (And.intro K3 (And.intro (step_below H2.out.2.1 b3) (H2.out.2.2.step b3)))
  rw [HG.out] at K3
  obtain ⟨f0, f1, f2, f3, f4, f5, f6⟩ := K3.entry
  clear K3 H2 b3
  have hS : ([] ++ be e.k.toNat 1 : List UInt8).length ≤ 1 := by rw [List.nil_append, be_length]; omega
  generalize ([] ++ be e.k.toNat 1 : List UInt8) = S at *
  clear hb9 hd
  have hnl := pNum_length e.ep
  have q2 : w3.drew.cell? ⟨G, 2, none⟩ = some (.int .i64 e.ep) := f2
  have q5 : w3.drew.cell? ⟨G, 5, none⟩ = some (.slice p.a3 e.next.length p.c3) := f5
  have hlx := HP.out.2.2.1
  clear f1 f2 f3 f4 f5 f6
  go_upto_region 16 with fail
  go_region_held3 (fun w' => w'.cell? ⟨G, 2, none⟩ = some (.int .i64 e.ep) ∧ w'.cell? ⟨G, 5, none⟩ = some (.slice p.a3 e.next.length p.c3)) (first | (with_reducible exact ⟨q2, q5⟩) | (with_reducible exact ⟨y0, y1⟩) | (with_reducible exact ⟨z0, z1⟩))
    (first
    | (go_at_call 34; (with_reducible refine (rnumw_any S e.ep _ (by omega)).mono ?_); rintro e4 w4 ⟨rfl, b4⟩; have y0 := cell_keep q2 b4; have y1 := cell_keep q5 b4)
    | (go_at_call 33; (with_reducible refine (count_st (S ++ pNum e.ep) e.next.length _ hlx (by rw [List.length_append]; omega)).mono ?_); rintro e5 w5 ⟨rfl, b5⟩; have z0 := cell_keep y0 b5; have z1 := cell_keep y1 b5))
  have b6 := step_below (below_dr b4) b5
  clear b4 b5 y0 y1 z0 z1 q2 q5
  have K5 := H3.out.1.kept b6
  have H5 := Lib.hid (And.intro K5 (And.intro (step_below H3.out.2.1 b6) (H3.out.2.2.step b6)))
  rw [HG.out] at K5
  obtain ⟨f0, f1, f2, f3, f4, f5, f6⟩ := K5.entry
  clear K5 H3 b6
  obtain ⟨T, hTe⟩ : ∃ T, T = S ++ pNum e.ep ++ be e.next.length 1 := ⟨_, rfl⟩
  have HF := Lib.hid (show e.bytes = T ++ pEach pNum e.next by rw [HBy.out, hTe]; unfold pMany; simp only [List.append_assoc])
  have hT : T.length ≤ 10 := by rw [hTe, List.length_append, List.length_append, be_length]; omega
  have HTe := Lib.hid hTe
  clear HBy hTe
  go_wp2_with fail
  go_loopw [4, 6] (fun u v wr => ∃ j : Nat, j ≤ e.next.length ∧ v = .int .i64 j ∧ u = .string ⟨(T ++ pEach pNum (e.next.take j)).toArray⟩ ∧ Below w5.heap.size w5 wr) (fun _ v _ => e.next.length - (intOf v).toNat)
  case atStart => exact ⟨0, Nat.zero_le _, rfl, by rw [HTe.out]; simp [pEach], Below.refl _ _⟩
  case round =>
    obtain ⟨j, hj, rfl, rfl, hB⟩ := hrel
    have g := cell_keep f5 hB
    have hlt0 : (e.next.take j).length ≤ 255 := by rw [List.length_take]; omega
    have hle := pEach_le pNum 8 (e.next.take j) fun m _ => by rw [pNum_length]; omega
    by_cases hlt : j < e.next.length
    · obtain ⟨x, hx⟩ : ∃ x, e.next[j]? = some x := ⟨_, List.getElem?_eq_getElem hlt⟩
      have hjI : (j : Int) < (e.next.length : Int) := by omega
      obtain ⟨b, o, hb, hc0⟩ : ∃ b o, p.a3 = some ⟨b, o, none⟩ ∧ wr.cell? ⟨b, o + j, none⟩ = some (.int .i64 x) := by
        rcases H5.out.2.2.next with h0 | ⟨b, o, hb, hbl, hc⟩
        · rw [h0] at hlt; simp at hlt
        · exact ⟨b, o, hb, (hB.cell (p := ⟨b, o + j, none⟩) hbl).trans (hc j x hx)⟩
      have HT := Lib.hid (show T ++ pEach pNum (e.next.take (j + 1)) = T ++ pEach pNum (e.next.take j) ++ pNum x by rw [pEach_take _ hx, ← List.append_assoc])
      have hlen : (T ++ pEach pNum (e.next.take j)).length ≤ 1110000000 := by rw [List.length_append]; omega
      have HB := Lib.hid hB
      rw [hb] at g
      clear hx hle hlt0 hb hB
      generalize T ++ pEach pNum (e.next.take j) = V at *
      go_wp2_with fail
      refine (rnumw_any V x wr (by omega)).mono ?_
      rintro e2 w6 ⟨rfl, b6⟩
      have B6 := Lib.hid (step_below HB.out b6)
      clear b6
      go_wp2_with fail
      go_roundw
      case rel => exact ⟨j + 1, by omega, by go_num, by rw [HT.out], B6.out⟩
      case measure => simp [intOf]; omega
    · have hje : j = e.next.length := by omega
      have hnI : decide ((j : Int) < (e.next.length : Int)) = false := decide_eq_false (by omega)
      have HT := Lib.hid (show T ++ pEach pNum (e.next.take j) = e.bytes by rw [HF.out, hje, List.take_length])
      have HB := Lib.hid (step_below H5.out.2.1 hB)
      clear hje hle hB hlt0
      go_wp2_with fail
      go_ret2
      rw [HT.out]
      exact ⟨rfl, HB.out⟩

set_option maxRecDepth 100000 in
set_option maxHeartbeats 2000000 in
theorem renc_4 (e : En) (p : Ad) (w : World) (ok : e.Ok) (hL : e.Lim) (hN : NEn w w.heap.size e p) (hf : e.form = true) (hlong : e.long ≤ 2048) (hk : e.k = 4) :
    Calls Tryz.prog 8 #[.agg #[.int .u8 e.k, .int .i64 e.id, .int .i64 e.ep, .slice p.a1 e.x.length p.c1, .slice p.a2 e.coms.length p.c2, .slice p.a3 e.next.length p.c3, .slice p.a4 e.deals.length p.c4]] w (StrPost e.bytes 0 w) := by
  have HL := Lib.hid hL
  have HO := Lib.hid ok
  have HP := Lib.hid (form_parts hf)
  have HSh := Lib.hid (short_long (En.is_of hf) hlong)
  have HBy := Lib.hid (bytes_4 hk)
  have hb9 : Byte e.k := ⟨ok.k0, ok.k1⟩
  have hd : decide ((2048 : Int) < (e.long : Int)) = false := decide_eq_false (by omega)
  have t1 : (e.k == 1) = false := by rw [hk]; rfl
  have t2 : (e.k == 2) = false := by rw [hk]; rfl
  have t3 : (e.k == 3) = false := by rw [hk]; rfl
  have t4 : (e.k == 4) = true := by rw [hk]; rfl
  clear hL ok hlong hk
  obtain ⟨w0, hw0⟩ : ∃ w0, w0 = w.alloc (.cells #[.int .u8 e.k, .int .i64 e.id, .int .i64 e.ep, .slice p.a1 e.x.length p.c1, .slice p.a2 e.coms.length p.c2, .slice p.a3 e.next.length p.c3, .slice p.a4 e.deals.length p.c4] 27) := ⟨_, rfl⟩
  have B0 : Below w.heap.size w w0 := by rw [hw0]; exact (Below.refl _ w).alloc (Nat.le_refl _) _
  have K0 : Blk w0 w.heap.size 27 #[.int .u8 e.k, .int .i64 e.id, .int .i64 e.ep, .slice p.a1 e.x.length p.c1, .slice p.a2 e.coms.length p.c2, .slice p.a3 e.next.length p.c3, .slice p.a4 e.deals.length p.c4] := by rw [hw0]; exact Blk.new w _ _
  have HW := Lib.hid hw0
  have H0 := Lib.hid (And.intro K0 (And.intro B0 (hN.step B0)))
  obtain ⟨f0, f1, f2, f3, f4, f5, f6⟩ := K0.entry
  clear hw0 hN K0 B0
  go_enter Tryz.func8, Tryz.ntmps8
  go_upto_region 1 with fail
  rw [← HW.out]
  clear HW
  generalize hGG : w.heap.size = G at f0 f1 f2 f3 f4 f5 f6 ⊢
  have HG := Lib.hid hGG
  clear hGG
  go_wp2_with fail
  refine (rformed_any e p w0 HL.out H0.out.2.2).mono ?_
  rintro e2 w1 ⟨rfl, b1⟩
  have K1 := H0.out.1.kept b1
  have H1 := Lib.hid (And.intro K1 (And.intro (step_below H0.out.2.1 b1) (H0.out.2.2.step b1)))
  rw [HG.out] at K1
  obtain ⟨f0, f1, f2, f3, f4, f5, f6⟩ := K1.entry
  clear K1 H0 b1
  rw [hf]
  clear hf
  go_wp2_with fail
  refine (long_any e p w1 HL.out H1.out.2.2).mono ?_
  rintro e2 w2 ⟨rfl, b2⟩
  have K2 := H1.out.1.kept b2
  have H2 := Lib.hid (And.intro K2 (And.intro (step_below H1.out.2.1 b2) (H1.out.2.2.step b2)))
  rw [HG.out] at K2
  obtain ⟨f0, f1, f2, f3, f4, f5, f6⟩ := K2.entry
  clear K2 H1 b2
  go_wp2_with fail
  refine (rbyte_any [] e.k _ hb9 (by simp)).mono ?_
  rintro e2 w3 ⟨rfl, b3⟩
  have K3 := H2.out.1.kept b3
  have H3 := Lib.hid (And.intro K3 (And.intro (step_below H2.out.2.1 b3) (H2.out.2.2.step b3)))
  rw [HG.out] at K3
  obtain ⟨f0, f1, f2, f3, f4, f5, f6⟩ := K3.entry
  clear K3 H2 b3
  have hS : ([] ++ be e.k.toNat 1 : List UInt8).length ≤ 1 := by rw [List.nil_append, be_length]; omega
  generalize ([] ++ be e.k.toNat 1 : List UInt8) = S at *
  clear hb9 hd
  have hnl := pNum_length e.ep
  have q2 : w3.drew.cell? ⟨G, 2, none⟩ = some (.int .i64 e.ep) := f2
  have q6 : w3.drew.cell? ⟨G, 6, none⟩ = some (.slice p.a4 e.deals.length p.c4) := f6
  have hlx := HP.out.2.2.2.1
  clear f1 f2 f3 f4 f5 f6
  go_upto_region 22 with fail
  go_region_held3 (fun w' => w'.cell? ⟨G, 2, none⟩ = some (.int .i64 e.ep) ∧ w'.cell? ⟨G, 6, none⟩ = some (.slice p.a4 e.deals.length p.c4)) (first | (with_reducible exact ⟨q2, q6⟩) | (with_reducible exact ⟨y0, y1⟩) | (with_reducible exact ⟨z0, z1⟩))
    (first
    | (go_at_call 34; (with_reducible refine (rnumw_any S e.ep _ (by omega)).mono ?_); rintro e4 w4 ⟨rfl, b4⟩; have y0 := cell_keep q2 b4; have y1 := cell_keep q6 b4)
    | (go_at_call 33; (with_reducible refine (count_st (S ++ pNum e.ep) e.deals.length _ hlx (by rw [List.length_append]; omega)).mono ?_); rintro e5 w5 ⟨rfl, b5⟩; have z0 := cell_keep y0 b5; have z1 := cell_keep y1 b5))
  have b6 := step_below (below_dr b4) b5
  clear b4 b5 y0 y1 z0 z1 q2 q6
  have K5 := H3.out.1.kept b6
  have H5 := Lib.hid (And.intro K5 (And.intro (step_below H3.out.2.1 b6) (H3.out.2.2.step b6)))
  rw [HG.out] at K5
  obtain ⟨f0, f1, f2, f3, f4, f5, f6⟩ := K5.entry
  clear K5 H3 b6
  obtain ⟨T, hTe⟩ : ∃ T, T = S ++ pNum e.ep ++ be e.deals.length 1 := ⟨_, rfl⟩
  have HF := Lib.hid (show e.bytes = T ++ pEach pDeal e.deals by rw [HBy.out, hTe]; unfold pMany; simp only [List.append_assoc])
  have hT : T.length ≤ 10 := by rw [hTe, List.length_append, List.length_append, be_length]; omega
  have HTe := Lib.hid hTe
  clear HBy hTe
  go_wp2_with fail
  go_loopw [4, 7] (fun u v wr => ∃ j : Nat, j ≤ e.deals.length ∧ v = .int .i64 j ∧ u = .string ⟨(T ++ pEach pDeal (e.deals.take j)).toArray⟩ ∧ Below w5.heap.size w5 wr) (fun _ v _ => e.deals.length - (intOf v).toNat)
  case atStart => exact ⟨0, Nat.zero_le _, rfl, by rw [HTe.out]; simp [pEach], Below.refl _ _⟩
  case round =>
    obtain ⟨j, hj, rfl, rfl, hB⟩ := hrel
    have g := cell_keep f6 hB
    have hlt0 : (e.deals.take j).length ≤ 255 := by rw [List.length_take]; omega
    have hle := pEach_le pDeal 2089479 (e.deals.take j) fun d hd => by
      have hd' := List.mem_of_mem_take hd
      have h1 := dl_short (HP.out.2.2.2.2.1 d hd')
      have h2 := pEach_le pList 8194 d.2 fun m hm => by rw [pList_length (HSh.out.2 d hd' m hm)]; have := HSh.out.2 d hd' m hm; omega
      unfold pDeal pMany
      rw [List.length_append, List.length_append, pNum_length, be_length]
      omega
    by_cases hlt : j < e.deals.length
    · obtain ⟨d, hd⟩ : ∃ d, e.deals[j]? = some d := ⟨_, List.getElem?_eq_getElem hlt⟩
      have hjI : (j : Int) < (e.deals.length : Int) := by omega
      have hmem := List.mem_of_getElem? hd
      obtain ⟨b, o, hb, hbl, a', c', hc0, hc1, hNL⟩ : ∃ b o, p.a4 = some ⟨b, o, none⟩ ∧ b < w5.heap.size ∧ ∃ a' c', w5.cell? ⟨b, o + j * 2, none⟩ = some (.int .i64 d.1) ∧ w5.cell? ⟨b, o + j * 2 + 1, none⟩ = some (.slice a' d.2.length c') ∧ NLst w5 w5.heap.size a' d.2 := by
        rcases H5.out.2.2.deals with h0 | ⟨b, o, ha, hbl, hc⟩
        · rw [h0] at hlt; simp at hlt
        · obtain ⟨a', c', x0, x1, x2⟩ := hc j d hd
          exact ⟨b, o, ha, hbl, a', c', x0, x1, x2⟩
      have x6 : wr.drew.cell? ⟨G, 6, none⟩ = some (.slice (some ⟨b, o, none⟩) e.deals.length p.c4) := by rw [← hb]; exact g
      have x0 : wr.drew.cell? ⟨b, o + j * 2, none⟩ = some (.int .i64 d.1) := (hB.cell (p := ⟨b, o + j * 2, none⟩) hbl).trans hc0
      have x1 : wr.drew.cell? ⟨b, o + j * 2 + 1, none⟩ = some (.slice a' d.2.length c') := (hB.cell (p := ⟨b, o + j * 2 + 1, none⟩) hbl).trans hc1
      have HT := Lib.hid (show T ++ pEach pDeal (e.deals.take (j + 1)) = T ++ pEach pDeal (e.deals.take j) ++ pNum d.1 ++ pMany pList d.2 by rw [pEach_take _ hd]; unfold pDeal; rw [List.append_assoc, List.append_assoc])
      have hlen : (T ++ pEach pDeal (e.deals.take j)).length ≤ 550000000 := by rw [List.length_append]; omega
      have HB := Lib.hid hB
      have HD := Lib.hid (And.intro (hNL.step hB) (And.intro (HO.out.deals d hmem).2 (And.intro (dl_short (HP.out.2.2.2.2.1 d hmem)) (HSh.out.2 d hmem))))
      clear hd hle hlt0 hb hB hc0 hc1 hNL hmem
      generalize T ++ pEach pDeal (e.deals.take j) = V at *
      have hnv := pNum_length d.1
      go_upto_region 26 with fail
      clear g
      go_region_held3 (fun w' => w'.cell? ⟨G, 6, none⟩ = some (.slice (some ⟨b, o, none⟩) e.deals.length p.c4) ∧ w'.cell? ⟨b, o + j * 2, none⟩ = some (.int .i64 d.1) ∧ w'.cell? ⟨b, o + j * 2 + 1, none⟩ = some (.slice a' d.2.length c')) (first | (with_reducible exact ⟨x6, x0, x1⟩) | (with_reducible exact ⟨y6, y0, y1⟩) | (with_reducible exact ⟨z6, z0, z1⟩))
        (first
        | (go_at_call 34; (with_reducible refine (rnumw_any V d.1 _ (by omega)).mono ?_); rintro e4 w6 ⟨rfl, b6⟩; have y6 := cell_keep x6 b6; have y0 := cell_keep x0 b6; have y1 := cell_keep x1 b6)
        | (go_at_call 32; (with_reducible refine (lists13_any (V ++ pNum d.1) a' c' d.2 _ (HD.out.1.step (below_dr b6)) HD.out.2.1 HD.out.2.2.1 HD.out.2.2.2 (by rw [List.length_append]; omega)).mono ?_); rintro e5 w7 ⟨rfl, b7⟩; have z6 := cell_keep y6 b7; have z0 := cell_keep y0 b7; have z1 := cell_keep y1 b7))
      have B7 := Lib.hid (step_below HB.out (step_below (below_dr b6) b7))
      clear b6 b7 x6 x0 x1 y6 y0 y1 z6 z0 z1
      go_wp2_with fail
      go_roundw
      case rel => exact ⟨j + 1, by omega, by go_num, by rw [HT.out]; simp only [List.append_assoc], B7.out⟩
      case measure => simp [intOf]; omega
    · have hje : j = e.deals.length := by omega
      have hnI : decide ((j : Int) < (e.deals.length : Int)) = false := decide_eq_false (by omega)
      have HT := Lib.hid (show T ++ pEach pDeal (e.deals.take j) = e.bytes by rw [HF.out, hje, List.take_length])
      have HB := Lib.hid (step_below H5.out.2.1 hB)
      clear hje hle hB hlt0
      go_wp2_with fail
      go_ret2
      rw [HT.out]
      exact ⟨rfl, HB.out⟩

theorem renc_any (e : En) (p : Ad) (w : World) (ok : e.Ok) (hL : e.Lim) (hN : NEn w w.heap.size e p) :
    Calls Tryz.prog 8 #[.agg #[.int .u8 e.k, .int .i64 e.id, .int .i64 e.ep, .slice p.a1 e.x.length p.c1, .slice p.a2 e.coms.length p.c2, .slice p.a3 e.next.length p.c3, .slice p.a4 e.deals.length p.c4]] w (EncPost e w) := by
  cases hf : e.form
  · refine (renc_no e p w ok hL hN hf).mono fun r w' ⟨h1, h2⟩ => ⟨?_, h2⟩
    rw [h1, eenc_long, if_neg (by simp [hf])]
  · by_cases hlong : e.long ≤ 2048
    · have hk : e.k = 1 ∨ e.k = 2 ∨ e.k = 3 ∨ e.k = 4 := by
        have := hf
        simp only [En.form, Bool.and_eq_true, decide_eq_true_eq] at this
        omega
      have hee : eenc e = (e.bytes, 0) := by rw [eenc_long, if_pos hf, if_pos hlong]
      have hq : Calls Tryz.prog 8 #[.agg #[.int .u8 e.k, .int .i64 e.id, .int .i64 e.ep, .slice p.a1 e.x.length p.c1, .slice p.a2 e.coms.length p.c2, .slice p.a3 e.next.length p.c3, .slice p.a4 e.deals.length p.c4]] w (StrPost e.bytes 0 w) := by
        rcases hk with hk | hk | hk | hk
        · exact renc_1 e p w ok hL hN hf hlong hk
        · exact renc_2 e p w ok hL hN hf hlong hk
        · exact renc_3 e p w ok hL hN hf hlong hk
        · exact renc_4 e p w ok hL hN hf hlong hk
      refine hq.mono fun r w' ⟨h1, h2⟩ => ⟨?_, h2⟩
      rw [h1, hee]
    · refine (renc_big e p w ok hL hN hf (by omega)).mono fun r w' ⟨h1, h2⟩ => ⟨?_, h2⟩
      rw [h1, eenc_long, if_pos hf, if_neg hlong]
end Go.Proofs.YtdnkijljpmcejaaGreat
