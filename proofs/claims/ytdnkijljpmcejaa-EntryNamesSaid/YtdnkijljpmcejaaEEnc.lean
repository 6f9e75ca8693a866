/-
  entry.Encode, May: an entry's bytes.
-/
import Derived.Test.YtdnkijljpmcejaaEForm2
import Derived.Test.YtdnkijljpmcejaaEnLaw
namespace Go.Proofs.Ytdnkijljpmcejaa
open Go.RowKit

/-- A text and an error. -/
def StrPost (s : List UInt8) (x : Int) (w : World) (r : Ending) (w' : World) : Prop := r = .returned (.tuple #[.string ⟨s.toArray⟩, .int .i64 x]) ∧ Below w.heap.size w w'
theorem bytes_1 {e : En} (h : e.k = 1) : e.bytes = [] ++ be e.k.toNat 1 ++ pMany pList e.coms := by unfold En.bytes; rw [if_pos h, List.nil_append]
theorem bytes_2 {e : En} (h : e.k = 2) : e.bytes = [] ++ be e.k.toNat 1 ++ (pNum e.id ++ pMany pNum e.x) := by unfold En.bytes; rw [if_neg (by omega), if_pos h, List.nil_append]
theorem bytes_3 {e : En} (h : e.k = 3) : e.bytes = [] ++ be e.k.toNat 1 ++ (pNum e.ep ++ pMany pNum e.next) := by unfold En.bytes; rw [if_neg (by omega), if_neg (by omega), if_pos h, List.nil_append]
theorem bytes_4 {e : En} (h : e.k = 4) : e.bytes = [] ++ be e.k.toNat 1 ++ (pNum e.ep ++ pMany pDeal e.deals) := by unfold En.bytes; rw [if_neg (by omega), if_neg (by omega), if_neg (by omega), if_pos h, List.nil_append]
theorem eenc_pair {e : En} (h : e.form = true) : (e.bytes.length ≤ 2048 ∧ eenc e = (e.bytes, 0)) ∨ (2048 < e.bytes.length ∧ eenc e = ([], 40)) := by
  unfold eenc
  rw [if_pos h]
  by_cases hl : e.bytes.length ≤ 2048
  · exact .inl ⟨hl, if_pos hl⟩
  · exact .inr ⟨by omega, if_neg hl⟩
theorem form_parts {e : En} (h : e.form = true) : e.x.length ≤ 255 ∧ e.coms.length ≤ 255 ∧ e.next.length ≤ 255 ∧ e.deals.length ≤ 255 ∧ (∀ d ∈ e.deals, dlB d = true) ∧ ∀ n ∈ e.next, numB n = true := by
  simp only [En.form, Bool.and_eq_true, decide_eq_true_eq, List.all_eq_true] at h
  exact ⟨h.1.1.1.1.1.2, h.1.1.1.1.2, h.1.1.1.2, h.1.1.2, h.1.2, h.2⟩

set_option maxRecDepth 100000 in
set_option maxHeartbeats 400000 in
theorem enc_no (e : En) (p : Ad) (w : World) (ok : e.Ok) (hL : e.Lim) (hN : NEn w w.heap.size e p) (hf : e.form = false) :
    Calls Try.prog 36 #[.agg #[.int .u8 e.k, .int .i64 e.id, .int .i64 e.ep, .slice p.a1 e.x.length p.c1, .slice p.a2 e.coms.length p.c2, .slice p.a3 e.next.length p.c3, .slice p.a4 e.deals.length p.c4]] w (StrPost [] 4 w) := by
  obtain ⟨w0, hw0⟩ : ∃ w0, w0 = w.alloc (.cells #[.int .u8 e.k, .int .i64 e.id, .int .i64 e.ep, .slice p.a1 e.x.length p.c1, .slice p.a2 e.coms.length p.c2, .slice p.a3 e.next.length p.c3, .slice p.a4 e.deals.length p.c4] 55) := ⟨_, rfl⟩
  have B0 : Below w.heap.size w w0 := by rw [hw0]; exact (Below.refl _ w).alloc (Nat.le_refl _) _
  have K0 : Blk w0 w.heap.size 55 #[.int .u8 e.k, .int .i64 e.id, .int .i64 e.ep, .slice p.a1 e.x.length p.c1, .slice p.a2 e.coms.length p.c2, .slice p.a3 e.next.length p.c3, .slice p.a4 e.deals.length p.c4] := by rw [hw0]; exact Blk.new w _ _
  have HW := Lib.hid hw0
  have HF := Lib.hid (formed_any e p w0 ok hL (hN.step B0))
  have HK := Lib.hid (And.intro K0 B0)
  have HE := Lib.hid (And.intro hN (And.intro ok hL))
  clear hw0 B0 hN ok hL
  obtain ⟨f0, f1, f2, f3, f4, f5, f6⟩ := K0.entry
  clear K0
  go_enter Try.func36, Try.ntmps36
  go_upto_region 1 with fail
  rw [← HW.out]
  clear HW
  go_wp2_with fail
  refine (Calls.mono HF.out ?_)
  rintro e2 w1 ⟨rfl, b1⟩
  rw [hf]
  have K1 := HK.out.1.kept b1
  have B1 := step_below HK.out.2 b1
  obtain ⟨f0, f1, f2, f3, f4, f5, f6⟩ := K1.entry
  have HK1 := Lib.hid (And.intro K1 B1)
  clear K1 B1 HF b1
  clear hf
  go_wp2_with fail
  go_ret2
  exact ⟨rfl, HK1.out.2⟩

theorem dl_short {d : Dl} (h : dlB d = true) : d.2.length ≤ 255 := by
  simp only [dlB, Bool.and_eq_true, decide_eq_true_eq] at h
  exact h.2

set_option maxRecDepth 100000 in
set_option maxHeartbeats 1000000 in
theorem enc_1 (e : En) (p : Ad) (w : World) (ok : e.Ok) (hL : e.Lim) (hN : NEn w w.heap.size e p) (hf : e.form = true) (hk : e.k = 1) :
    Calls Try.prog 36 #[.agg #[.int .u8 e.k, .int .i64 e.id, .int .i64 e.ep, .slice p.a1 e.x.length p.c1, .slice p.a2 e.coms.length p.c2, .slice p.a3 e.next.length p.c3, .slice p.a4 e.deals.length p.c4]] w (StrPost (eenc e).1 (eenc e).2 w) := by
  have HBy := Lib.hid (bytes_1 hk)
  have HC := Lib.hid (eenc_pair hf)
  have HP := Lib.hid (form_parts hf)
  have hb9 : Byte e.k := ⟨ok.k0, ok.k1⟩
  have t1 : (e.k == 1) = true := by rw [hk]; rfl
  clear hk
  obtain ⟨w0, hw0⟩ : ∃ w0, w0 = w.alloc (.cells #[.int .u8 e.k, .int .i64 e.id, .int .i64 e.ep, .slice p.a1 e.x.length p.c1, .slice p.a2 e.coms.length p.c2, .slice p.a3 e.next.length p.c3, .slice p.a4 e.deals.length p.c4] 55) := ⟨_, rfl⟩
  have B0 : Below w.heap.size w w0 := by rw [hw0]; exact (Below.refl _ w).alloc (Nat.le_refl _) _
  have K0 : Blk w0 w.heap.size 55 #[.int .u8 e.k, .int .i64 e.id, .int .i64 e.ep, .slice p.a1 e.x.length p.c1, .slice p.a2 e.coms.length p.c2, .slice p.a3 e.next.length p.c3, .slice p.a4 e.deals.length p.c4] := by rw [hw0]; exact Blk.new w _ _
  have HW := Lib.hid hw0
  have HF := Lib.hid (formed_any e p w0 ok hL (hN.step B0))
  have HK := Lib.hid (And.intro K0 B0)
  have HE := Lib.hid (And.intro hN (And.intro ok hL))
  clear hw0 B0 hN ok hL
  obtain ⟨f0, f1, f2, f3, f4, f5, f6⟩ := K0.entry
  clear K0
  go_enter Try.func36, Try.ntmps36
  go_upto_region 1 with fail
  rw [← HW.out]
  clear HW
  go_wp2_with fail
  refine (Calls.mono HF.out ?_)
  rintro e2 w1 ⟨rfl, b1⟩
  rw [hf]
  have K1 := HK.out.1.kept b1
  have B1 := step_below HK.out.2 b1
  obtain ⟨f0, f1, f2, f3, f4, f5, f6⟩ := K1.entry
  have HK1 := Lib.hid (And.intro K1 B1)
  clear K1 B1 HF b1
  clear hf
  go_wp2_with fail
  refine (byte_any [] e.k _ hb9 (by simp)).mono ?_
  rintro e2 w2 ⟨rfl, b2⟩
  have K2 := HK1.out.1.kept b2
  have B2 := step_below HK1.out.2 b2
  obtain ⟨f0, f1, f2, f3, f4, f5, f6⟩ := K2.entry
  have N2 := HE.out.1.step B2
  have HN2 := Lib.hid (And.intro N2 B2)
  have hl2 : ([] ++ be e.k.toNat 1 : List UInt8).length ≤ 1 := by rw [List.nil_append, be_length]; omega
  generalize ([] ++ be e.k.toNat 1 : List UInt8) = S2 at *
  clear K2 B2 N2 b2 hb9
  go_wp2_with fail
  refine (put_list S2 p.a2 p.c2 e.coms w2 HN2.out.1.coms HE.out.2.1.coms HE.out.2.2.com HP.out.2.1 (by omega)).mono ?_
  rintro e4 w4 ⟨rfl, b4⟩
  have B4 := Lib.hid (step_below HN2.out.2 b4)
  clear b4
  rw [← HBy.out]
  rcases HC.out with ⟨h1, h2⟩ | ⟨h1, h2⟩
  · have HQ := Lib.hid h2
    have h3 : decide (2048 < e.bytes.length) = false := decide_eq_false (by omega)
    clear h2 HBy
    go_wp2_with fail
    go_ret2
    exact ⟨by rw [HQ.out]; rfl, B4.out⟩
  · have HQ := Lib.hid h2
    have h3 : decide (2048 < e.bytes.length) = true := decide_eq_true h1
    clear h2 HBy
    go_wp2_with fail
    go_ret2
    exact ⟨by rw [HQ.out]; rfl, B4.out⟩

set_option maxRecDepth 100000 in
set_option maxHeartbeats 1000000 in
theorem enc_2 (e : En) (p : Ad) (w : World) (ok : e.Ok) (hL : e.Lim) (hN : NEn w w.heap.size e p) (hf : e.form = true) (hk : e.k = 2) :
    Calls Try.prog 36 #[.agg #[.int .u8 e.k, .int .i64 e.id, .int .i64 e.ep, .slice p.a1 e.x.length p.c1, .slice p.a2 e.coms.length p.c2, .slice p.a3 e.next.length p.c3, .slice p.a4 e.deals.length p.c4]] w (StrPost (eenc e).1 (eenc e).2 w) := by
  have HBy := Lib.hid (bytes_2 hk)
  have HC := Lib.hid (eenc_pair hf)
  have HP := Lib.hid (form_parts hf)
  have hb9 : Byte e.k := ⟨ok.k0, ok.k1⟩
  have t1 : (e.k == 1) = false := by rw [hk]; rfl
  have t2 : (e.k == 2) = true := by rw [hk]; rfl
  clear hk
  obtain ⟨w0, hw0⟩ : ∃ w0, w0 = w.alloc (.cells #[.int .u8 e.k, .int .i64 e.id, .int .i64 e.ep, .slice p.a1 e.x.length p.c1, .slice p.a2 e.coms.length p.c2, .slice p.a3 e.next.length p.c3, .slice p.a4 e.deals.length p.c4] 55) := ⟨_, rfl⟩
  have B0 : Below w.heap.size w w0 := by rw [hw0]; exact (Below.refl _ w).alloc (Nat.le_refl _) _
  have K0 : Blk w0 w.heap.size 55 #[.int .u8 e.k, .int .i64 e.id, .int .i64 e.ep, .slice p.a1 e.x.length p.c1, .slice p.a2 e.coms.length p.c2, .slice p.a3 e.next.length p.c3, .slice p.a4 e.deals.length p.c4] := by rw [hw0]; exact Blk.new w _ _
  have HW := Lib.hid hw0
  have HF := Lib.hid (formed_any e p w0 ok hL (hN.step B0))
  have HK := Lib.hid (And.intro K0 B0)
  have HE := Lib.hid (And.intro hN (And.intro ok hL))
  clear hw0 B0 hN ok hL
  obtain ⟨f0, f1, f2, f3, f4, f5, f6⟩ := K0.entry
  clear K0
  go_enter Try.func36, Try.ntmps36
  go_upto_region 1 with fail
  rw [← HW.out]
  clear HW
  go_wp2_with fail
  refine (Calls.mono HF.out ?_)
  rintro e2 w1 ⟨rfl, b1⟩
  rw [hf]
  have K1 := HK.out.1.kept b1
  have B1 := step_below HK.out.2 b1
  obtain ⟨f0, f1, f2, f3, f4, f5, f6⟩ := K1.entry
  have HK1 := Lib.hid (And.intro K1 B1)
  clear K1 B1 HF b1
  clear hf
  go_wp2_with fail
  refine (byte_any [] e.k _ hb9 (by simp)).mono ?_
  rintro e2 w2 ⟨rfl, b2⟩
  have K2 := HK1.out.1.kept b2
  have B2 := step_below HK1.out.2 b2
  obtain ⟨f0, f1, f2, f3, f4, f5, f6⟩ := K2.entry
  have N2 := HE.out.1.step B2
  have HN2 := Lib.hid (And.intro N2 B2)
  have hl2 : ([] ++ be e.k.toNat 1 : List UInt8).length ≤ 1 := by rw [List.nil_append, be_length]; omega
  generalize ([] ++ be e.k.toNat 1 : List UInt8) = S2 at *
  have K2c := Lib.hid f0
  clear K2 B2 N2 b2 hb9
  have hnl := pNum_length e.id
  have q1 : w2.drew.cell? ⟨w.heap.size, 1, none⟩ = some (.int .i64 e.id) := f1
  have q3 : w2.drew.cell? ⟨w.heap.size, 3, none⟩ = some (.slice p.a1 e.x.length p.c1) := f3
  clear f0 f1 f2 f3 f4 f5 f6
  have f0 : w2.cell? ⟨w.heap.size, 0, none⟩ = some (.int .u8 e.k) := K2c.out
  go_upto_region 8 with fail
  generalize w.heap.size = G at q1 q3 ⊢
  go_region_held3 (fun w' => w'.cell? ⟨G, 1, none⟩ = some (.int .i64 e.id) ∧ w'.cell? ⟨G, 3, none⟩ = some (.slice p.a1 e.x.length p.c1)) (first | (with_reducible exact ⟨q1, q3⟩) | (with_reducible exact ⟨y0, y1⟩) | (with_reducible exact ⟨z0, z1⟩))
    (first
    | (go_at_call 77; (with_reducible refine (putNumber_any S2 e.id _ (by omega)).mono ?_); rintro e3 w3 ⟨rfl, b3⟩; have y0 := cell_keep q1 b3; have y1 := cell_keep q3 b3)
    | (go_at_call 76; (with_reducible refine (put_int (S2 ++ pNum e.id) p.a1 p.c1 e.x _ (HN2.out.1.x.step (below_dr b3)) HP.out.1 (by rw [List.length_append]; omega)).mono ?_); rintro e4 w4 ⟨rfl, b4⟩; have z0 := cell_keep y0 b4; have z1 := cell_keep y1 b4))
  have B4 := Lib.hid (step_below HN2.out.2 (step_below (below_dr b3) b4))
  clear b3 b4 y0 y1 z0 z1 q1 q3
  rw [← HBy.out]
  rcases HC.out with ⟨h1, h2⟩ | ⟨h1, h2⟩
  · have HQ := Lib.hid h2
    have h3 : decide (2048 < e.bytes.length) = false := decide_eq_false (by omega)
    clear h2 HBy
    go_wp2_with fail
    go_ret2
    exact ⟨by rw [HQ.out]; rfl, B4.out⟩
  · have HQ := Lib.hid h2
    have h3 : decide (2048 < e.bytes.length) = true := decide_eq_true h1
    clear h2 HBy
    go_wp2_with fail
    go_ret2
    exact ⟨by rw [HQ.out]; rfl, B4.out⟩

set_option maxRecDepth 100000 in
set_option maxHeartbeats 1000000 in
theorem enc_3 (e : En) (p : Ad) (w : World) (ok : e.Ok) (hL : e.Lim) (hN : NEn w w.heap.size e p) (hf : e.form = true) (hk : e.k = 3) :
    Calls Try.prog 36 #[.agg #[.int .u8 e.k, .int .i64 e.id, .int .i64 e.ep, .slice p.a1 e.x.length p.c1, .slice p.a2 e.coms.length p.c2, .slice p.a3 e.next.length p.c3, .slice p.a4 e.deals.length p.c4]] w (StrPost (eenc e).1 (eenc e).2 w) := by
  have HBy := Lib.hid (bytes_3 hk)
  have HC := Lib.hid (eenc_pair hf)
  have HP := Lib.hid (form_parts hf)
  have hb9 : Byte e.k := ⟨ok.k0, ok.k1⟩
  have t1 : (e.k == 1) = false := by rw [hk]; rfl
  have t2 : (e.k == 2) = false := by rw [hk]; rfl
  have t3 : (e.k == 3) = true := by rw [hk]; rfl
  clear hk
  obtain ⟨w0, hw0⟩ : ∃ w0, w0 = w.alloc (.cells #[.int .u8 e.k, .int .i64 e.id, .int .i64 e.ep, .slice p.a1 e.x.length p.c1, .slice p.a2 e.coms.length p.c2, .slice p.a3 e.next.length p.c3, .slice p.a4 e.deals.length p.c4] 55) := ⟨_, rfl⟩
  have B0 : Below w.heap.size w w0 := by rw [hw0]; exact (Below.refl _ w).alloc (Nat.le_refl _) _
  have K0 : Blk w0 w.heap.size 55 #[.int .u8 e.k, .int .i64 e.id, .int .i64 e.ep, .slice p.a1 e.x.length p.c1, .slice p.a2 e.coms.length p.c2, .slice p.a3 e.next.length p.c3, .slice p.a4 e.deals.length p.c4] := by rw [hw0]; exact Blk.new w _ _
  have HW := Lib.hid hw0
  have HF := Lib.hid (formed_any e p w0 ok hL (hN.step B0))
  have HK := Lib.hid (And.intro K0 B0)
  have HE := Lib.hid (And.intro hN (And.intro ok hL))
  clear hw0 B0 hN ok hL
  obtain ⟨f0, f1, f2, f3, f4, f5, f6⟩ := K0.entry
  clear K0
  go_enter Try.func36, Try.ntmps36
  go_upto_region 1 with fail
  rw [← HW.out]
  clear HW
  go_wp2_with fail
  refine (Calls.mono HF.out ?_)
  rintro e2 w1 ⟨rfl, b1⟩
  rw [hf]
  have K1 := HK.out.1.kept b1
  have B1 := step_below HK.out.2 b1
  obtain ⟨f0, f1, f2, f3, f4, f5, f6⟩ := K1.entry
  have HK1 := Lib.hid (And.intro K1 B1)
  clear K1 B1 HF b1
  clear hf
  go_wp2_with fail
  refine (byte_any [] e.k _ hb9 (by simp)).mono ?_
  rintro e2 w2 ⟨rfl, b2⟩
  have K2 := HK1.out.1.kept b2
  have B2 := step_below HK1.out.2 b2
  obtain ⟨f0, f1, f2, f3, f4, f5, f6⟩ := K2.entry
  have N2 := HE.out.1.step B2
  have HN2 := Lib.hid (And.intro N2 B2)
  have hl2 : ([] ++ be e.k.toNat 1 : List UInt8).length ≤ 1 := by rw [List.nil_append, be_length]; omega
  generalize ([] ++ be e.k.toNat 1 : List UInt8) = S2 at *
  have K2c := Lib.hid f0
  clear K2 B2 N2 b2 hb9
  have hnl := pNum_length e.ep
  have q2 : w2.drew.cell? ⟨w.heap.size, 2, none⟩ = some (.int .i64 e.ep) := f2
  have q5 : w2.drew.cell? ⟨w.heap.size, 5, none⟩ = some (.slice p.a3 e.next.length p.c3) := f5
  clear f0 f1 f2 f3 f4 f5 f6
  have f0 : w2.cell? ⟨w.heap.size, 0, none⟩ = some (.int .u8 e.k) := K2c.out
  go_upto_region 10 with fail
  generalize w.heap.size = G at q2 q5 ⊢
  go_region_held3 (fun w' => w'.cell? ⟨G, 2, none⟩ = some (.int .i64 e.ep) ∧ w'.cell? ⟨G, 5, none⟩ = some (.slice p.a3 e.next.length p.c3)) (first | (with_reducible exact ⟨q2, q5⟩) | (with_reducible exact ⟨y0, y1⟩) | (with_reducible exact ⟨z0, z1⟩))
    (first
    | (go_at_call 77; (with_reducible refine (putNumber_any S2 e.ep _ (by omega)).mono ?_); rintro e3 w3 ⟨rfl, b3⟩; have y0 := cell_keep q2 b3; have y1 := cell_keep q5 b3)
    | (go_at_call 78; (with_reducible refine (put_num (S2 ++ pNum e.ep) p.a3 p.c3 e.next _ (HN2.out.1.next.step (below_dr b3)) HP.out.2.2.1 (by rw [List.length_append]; omega)).mono ?_); rintro e4 w4 ⟨rfl, b4⟩; have z0 := cell_keep y0 b4; have z1 := cell_keep y1 b4))
  have B4 := Lib.hid (step_below HN2.out.2 (step_below (below_dr b3) b4))
  clear b3 b4 y0 y1 z0 z1 q2 q5
  rw [← HBy.out]
  rcases HC.out with ⟨h1, h2⟩ | ⟨h1, h2⟩
  · have HQ := Lib.hid h2
    have h3 : decide (2048 < e.bytes.length) = false := decide_eq_false (by omega)
    clear h2 HBy
    go_wp2_with fail
    go_ret2
    exact ⟨by rw [HQ.out]; rfl, B4.out⟩
  · have HQ := Lib.hid h2
    have h3 : decide (2048 < e.bytes.length) = true := decide_eq_true h1
    clear h2 HBy
    go_wp2_with fail
    go_ret2
    exact ⟨by rw [HQ.out]; rfl, B4.out⟩

set_option maxRecDepth 100000 in
set_option maxHeartbeats 1000000 in
theorem enc_4 (e : En) (p : Ad) (w : World) (ok : e.Ok) (hL : e.Lim) (hN : NEn w w.heap.size e p) (hf : e.form = true) (hk : e.k = 4) :
    Calls Try.prog 36 #[.agg #[.int .u8 e.k, .int .i64 e.id, .int .i64 e.ep, .slice p.a1 e.x.length p.c1, .slice p.a2 e.coms.length p.c2, .slice p.a3 e.next.length p.c3, .slice p.a4 e.deals.length p.c4]] w (StrPost (eenc e).1 (eenc e).2 w) := by
  have HBy := Lib.hid (bytes_4 hk)
  have HC := Lib.hid (eenc_pair hf)
  have HP := Lib.hid (form_parts hf)
  have hb9 : Byte e.k := ⟨ok.k0, ok.k1⟩
  have t1 : (e.k == 1) = false := by rw [hk]; rfl
  have t2 : (e.k == 2) = false := by rw [hk]; rfl
  have t3 : (e.k == 3) = false := by rw [hk]; rfl
  have t4 : (e.k == 4) = true := by rw [hk]; rfl
  clear hk
  obtain ⟨w0, hw0⟩ : ∃ w0, w0 = w.alloc (.cells #[.int .u8 e.k, .int .i64 e.id, .int .i64 e.ep, .slice p.a1 e.x.length p.c1, .slice p.a2 e.coms.length p.c2, .slice p.a3 e.next.length p.c3, .slice p.a4 e.deals.length p.c4] 55) := ⟨_, rfl⟩
  have B0 : Below w.heap.size w w0 := by rw [hw0]; exact (Below.refl _ w).alloc (Nat.le_refl _) _
  have K0 : Blk w0 w.heap.size 55 #[.int .u8 e.k, .int .i64 e.id, .int .i64 e.ep, .slice p.a1 e.x.length p.c1, .slice p.a2 e.coms.length p.c2, .slice p.a3 e.next.length p.c3, .slice p.a4 e.deals.length p.c4] := by rw [hw0]; exact Blk.new w _ _
  have HW := Lib.hid hw0
  have HF := Lib.hid (formed_any e p w0 ok hL (hN.step B0))
  have HK := Lib.hid (And.intro K0 B0)
  have HE := Lib.hid (And.intro hN (And.intro ok hL))
  clear hw0 B0 hN ok hL
  obtain ⟨f0, f1, f2, f3, f4, f5, f6⟩ := K0.entry
  clear K0
  go_enter Try.func36, Try.ntmps36
  go_upto_region 1 with fail
  rw [← HW.out]
  clear HW
  go_wp2_with fail
  refine (Calls.mono HF.out ?_)
  rintro e2 w1 ⟨rfl, b1⟩
  rw [hf]
  have K1 := HK.out.1.kept b1
  have B1 := step_below HK.out.2 b1
  obtain ⟨f0, f1, f2, f3, f4, f5, f6⟩ := K1.entry
  have HK1 := Lib.hid (And.intro K1 B1)
  clear K1 B1 HF b1
  clear hf
  go_wp2_with fail
  refine (byte_any [] e.k _ hb9 (by simp)).mono ?_
  rintro e2 w2 ⟨rfl, b2⟩
  have K2 := HK1.out.1.kept b2
  have B2 := step_below HK1.out.2 b2
  obtain ⟨f0, f1, f2, f3, f4, f5, f6⟩ := K2.entry
  have N2 := HE.out.1.step B2
  have HN2 := Lib.hid (And.intro N2 B2)
  have hl2 : ([] ++ be e.k.toNat 1 : List UInt8).length ≤ 1 := by rw [List.nil_append, be_length]; omega
  generalize ([] ++ be e.k.toNat 1 : List UInt8) = S2 at *
  have K2c := Lib.hid f0
  clear K2 B2 N2 b2 hb9
  have HD := Lib.hid (show ∀ d ∈ e.deals, Us d.2 ∧ d.2.length ≤ 255 ∧ ∀ l ∈ d.2, l.length ≤ 5000 from fun d hd => ⟨(HE.out.2.1.deals d hd).2, dl_short (HP.out.2.2.2.2.1 d hd), HE.out.2.2.cols d hd⟩)
  have hnl := pNum_length e.ep
  have q2 : w2.drew.cell? ⟨w.heap.size, 2, none⟩ = some (.int .i64 e.ep) := f2
  have q6 : w2.drew.cell? ⟨w.heap.size, 6, none⟩ = some (.slice p.a4 e.deals.length p.c4) := f6
  clear f0 f1 f2 f3 f4 f5 f6
  have f0 : w2.cell? ⟨w.heap.size, 0, none⟩ = some (.int .u8 e.k) := K2c.out
  go_upto_region 12 with fail
  generalize w.heap.size = G at q2 q6 ⊢
  go_region_held3 (fun w' => w'.cell? ⟨G, 2, none⟩ = some (.int .i64 e.ep) ∧ w'.cell? ⟨G, 6, none⟩ = some (.slice p.a4 e.deals.length p.c4)) (first | (with_reducible exact ⟨q2, q6⟩) | (with_reducible exact ⟨y0, y1⟩) | (with_reducible exact ⟨z0, z1⟩))
    (first
    | (go_at_call 77; (with_reducible refine (putNumber_any S2 e.ep _ (by omega)).mono ?_); rintro e3 w3 ⟨rfl, b3⟩; have y0 := cell_keep q2 b3; have y1 := cell_keep q6 b3)
    | (go_at_call 79; (with_reducible refine (put_deal (S2 ++ pNum e.ep) p.a4 p.c4 e.deals _ (HN2.out.1.deals.step (below_dr b3)) HD.out HP.out.2.2.2.1 (by rw [List.length_append]; omega)).mono ?_); rintro e4 w4 ⟨rfl, b4⟩; have z0 := cell_keep y0 b4; have z1 := cell_keep y1 b4))
  have B4 := Lib.hid (step_below HN2.out.2 (step_below (below_dr b3) b4))
  clear b3 b4 y0 y1 z0 z1 q2 q6
  rw [← HBy.out]
  rcases HC.out with ⟨h1, h2⟩ | ⟨h1, h2⟩
  · have HQ := Lib.hid h2
    have h3 : decide (2048 < e.bytes.length) = false := decide_eq_false (by omega)
    clear h2 HBy
    go_wp2_with fail
    go_ret2
    exact ⟨by rw [HQ.out]; rfl, B4.out⟩
  · have HQ := Lib.hid h2
    have h3 : decide (2048 < e.bytes.length) = true := decide_eq_true h1
    clear h2 HBy
    go_wp2_with fail
    go_ret2
    exact ⟨by rw [HQ.out]; rfl, B4.out⟩

/-- What Encode answers. -/
def EncPost (e : En) (w : World) (r : Ending) (w' : World) : Prop := r = .returned (.tuple #[.string ⟨(eenc e).1.toArray⟩, .int .i64 (eenc e).2]) ∧ Below w.heap.size w w'
theorem enc_any (e : En) (p : Ad) (w : World) (ok : e.Ok) (hL : e.Lim) (hN : NEn w w.heap.size e p) :
    Calls Try.prog 36 #[.agg #[.int .u8 e.k, .int .i64 e.id, .int .i64 e.ep, .slice p.a1 e.x.length p.c1, .slice p.a2 e.coms.length p.c2, .slice p.a3 e.next.length p.c3, .slice p.a4 e.deals.length p.c4]] w (EncPost e w) := by
  cases hf : e.form
  · refine (enc_no e p w ok hL hN hf).mono fun r w' ⟨h1, h2⟩ => ⟨?_, h2⟩
    rw [h1]
    unfold eenc
    rw [if_neg (by simp [hf])]
  · have hk : e.k = 1 ∨ e.k = 2 ∨ e.k = 3 ∨ e.k = 4 := by
      have := hf
      simp only [En.form, Bool.and_eq_true, decide_eq_true_eq] at this
      omega
    rcases hk with hk | hk | hk | hk
    · exact enc_1 e p w ok hL hN hf hk
    · exact enc_2 e p w ok hL hN hf hk
    · exact enc_3 e p w ok hL hN hf hk
    · exact enc_4 e p w ok hL hN hf hk
theorem may_eenc (e : En) : e.may = ((eenc e).2 == 0) := by
  unfold En.may
  rw [Bool.eq_iff_iff, beq_iff_eq, eenc_ok]
  simp
set_option maxRecDepth 100000 in
set_option maxHeartbeats 400000 in
theorem may_any (e : En) (p : Ad) (w : World) (ok : e.Ok) (hL : e.Lim) (hN : NEn w w.heap.size e p) :
    Calls Try.prog 37 #[.agg #[.int .u8 e.k, .int .i64 e.id, .int .i64 e.ep, .slice p.a1 e.x.length p.c1, .slice p.a2 e.coms.length p.c2, .slice p.a3 e.next.length p.c3, .slice p.a4 e.deals.length p.c4]] w (BoolPost e.may w) := by
  obtain ⟨w0, hw0⟩ : ∃ w0, w0 = w.alloc (.cells #[.int .u8 e.k, .int .i64 e.id, .int .i64 e.ep, .slice p.a1 e.x.length p.c1, .slice p.a2 e.coms.length p.c2, .slice p.a3 e.next.length p.c3, .slice p.a4 e.deals.length p.c4] 55) := ⟨_, rfl⟩
  have B0 : Below w.heap.size w w0 := by rw [hw0]; exact (Below.refl _ w).alloc (Nat.le_refl _) _
  have K0 : Blk w0 w.heap.size 55 #[.int .u8 e.k, .int .i64 e.id, .int .i64 e.ep, .slice p.a1 e.x.length p.c1, .slice p.a2 e.coms.length p.c2, .slice p.a3 e.next.length p.c3, .slice p.a4 e.deals.length p.c4] := by rw [hw0]; exact Blk.new w _ _
  have HW := Lib.hid hw0
  have HF := Lib.hid (enc_any e p w0 ok hL (hN.step B0))
  have HB := Lib.hid B0
  have HM := Lib.hid (may_eenc e)
  clear hw0 B0 hN ok hL
  obtain ⟨f0, f1, f2, f3, f4, f5, f6⟩ := K0.entry
  clear K0
  go_enter Try.func37, Try.ntmps37
  go_upto_region 1 with fail
  rw [← HW.out]
  clear HW
  go_wp2_with fail
  refine (Calls.mono HF.out ?_)
  rintro e2 w1 ⟨rfl, b1⟩
  go_wp2_with fail
  go_ret
  exact ⟨ret_bool HM.out.symm, step_below HB.out b1⟩
end Go.Proofs.Ytdnkijljpmcejaa
