/-
  consistorylaw28.works: the examples are as they are told.
-/
import Derived.Test.YtbibbndjnlnbiaaNetLaw
namespace Go.Proofs.Ytbibbndjnlnbiaa
open Go.RowKit Go.Maps

theorem vtM_may {h : Int} (h1 : 1 ≤ h) (h2 : h ≤ 64) : (vtM h).may = true := by
  simp [vtM, Mg.may, win, fClient, fVote, fDealt, fText, fSome, fNums]
  exact ⟨decide_eq_true h1, decide_eq_true h2⟩
/-- The nets of the examples. -/
def wkN (most next out : Int) (hs : List Int) : Nt := ⟨most, next, hs.map vtM, out⟩
theorem wk_ok {most next out : Int} {hs : List Int} (m1 : 1 ≤ most) (m2 : most ≤ 4096) (n0 : 0 ≤ next) (n1 : next ≤ 100) (o0 : 0 ≤ out) (o1 : out ≤ 100) (hl : (hs.length : Int) ≤ most) (hh : ∀ h ∈ hs, 1 ≤ h ∧ h ≤ 64) : (wkN most next out hs).Ok 100 :=
  ⟨m1, m2, n0, n1, o0, o1, by simpa [wkN] using hl, fun m hm => by
    obtain ⟨h, hm1, rfl⟩ := List.mem_map.1 hm
    have := hh h hm1
    exact ⟨vtM_ok (by unfold I64; omega), vtM_may this.1 this.2⟩⟩
theorem vt_nums {w : World} {B : Nat} {h : Int} {a : Option Addr} : Nums .u64 w B a (vtM h).l := .inl rfl
theorem crowded_e {X : Nat → Prop} {B g mb : Nat} {n : Nt} {w0 w : World} {e1 : Int} (h : Held X B w0 g mb n w) (he : n.out = e1) : Calls Try.prog 24 #[.pointer (some ⟨g, 0, none⟩)] w fun e w' => e = .returned (.int .i64 e1) ∧ w = w' := by
  subst he
  exact crowded_h h
theorem new_ints (xs : List Int) (w : World) : Nums .i64 (w.alloc (.cells (xs.map (Value.int .i64)).toArray 3)) (w.alloc (.cells (xs.map (Value.int .i64)).toArray 3)).heap.size (some ⟨w.heap.size, 0, none⟩) xs := by
  refine .inr ⟨w.heap.size, 0, rfl, by simp, fun i x hx => ?_⟩
  rw [Nat.zero_add, (Blk.new w 3 (xs.map (Value.int .i64)).toArray).cell i]
  simp [hx]
theorem has_lit {X : Nat → Prop} {B g mb K : Nat} {n : Nt} {w0 : World} (xs : List Int) (L : Nat) (hL : xs.length = L) (a : Option Addr) (c : Nat) (w : World) (h : Held X B w0 g mb n w) (ok : n.Ok K) (hK : K ≤ 1000000) (hx : Nums .i64 w w.heap.size a xs) (he : n.l = xs.map vtM) :
    Calls Try.prog 47 #[.pointer (some ⟨g, 0, none⟩), .slice a L c] w (BoolPost true w) := by
  subst hL
  exact has_true xs a c w h ok hK hx he

theorem ni131 (w : World) : Nums .i64 (w.alloc (.cells #[.int .i64 1, .int .i64 3, .int .i64 1] 3)) (w.alloc (.cells #[.int .i64 1, .int .i64 3, .int .i64 1] 3)).heap.size (some ⟨w.heap.size, 0, none⟩) [1, 3, 1] := new_ints [1, 3, 1] w
theorem ni31 (w : World) : Nums .i64 (w.alloc (.cells #[.int .i64 3, .int .i64 1] 3)) (w.alloc (.cells #[.int .i64 3, .int .i64 1] 3)).heap.size (some ⟨w.heap.size, 0, none⟩) [3, 1] := new_ints [3, 1] w
theorem Held.alloc {X : Nat → Prop} {B g mb : Nat} {n : Nt} {w0 w : World} (h : Held X B w0 g mb n w) (o : Obj) : Held X B w0 g mb n (w.alloc o) := h.kept ((Below.refl _ w).alloc (Nat.le_refl _) o)
theorem wk_a : (wkN 3 3 2 [1, 3]).twiced 0 = 0 := by rfl
theorem wk_b : (wkN 3 3 2 [1, 3]).twice 0 = wkN 3 4 2 [1, 3, 1] := by rfl
theorem wk_c : (wkN 3 4 2 [1, 3, 1]).lost 0 = 0 := by rfl
theorem wk_d : (wkN 3 4 2 [1, 3, 1]).lose 0 = wkN 3 4 2 [3, 1] := by rfl
theorem wk_e : (wkN 3 4 2 [1, 3, 1]).l = [1, 3, 1].map vtM := by rfl
theorem wk_f : (wkN 3 4 2 [3, 1]).l = [3, 1].map vtM := by rfl
theorem l13 : ([1, 3, 1] : List Int).length = 3 := by rfl
theorem l2 : ([3, 1] : List Int).length = 2 := by rfl
set_option maxRecDepth 100000 in
set_option maxHeartbeats 4000000 in
theorem works28_any (w : World) : Calls Try.prog 14 #[] w (BoolPost true w) := by
  have i1 : I64 1 := by unfold I64; omega
  have i2 : I64 2 := by unfold I64; omega
  have i3 : I64 3 := by unfold I64; omega
  have i4 : I64 4 := by unfold I64; omega
  have hK : 100 ≤ 1000000 := by decide
  have HI := Lib.hid (And.intro (vtM_ok i1) (And.intro (vtM_ok i2) (And.intro (vtM_ok i3) (vtM_ok i4))))
  have HK := Lib.hid hK
  have O0 := Lib.hid (wk_ok (most := 3) (next := 0) (out := 0) (hs := []) (by decide) (by decide) (by decide) (by decide) (by decide) (by decide) (by decide) (by decide))
  have O1 := Lib.hid (wk_ok (most := 3) (next := 1) (out := 0) (hs := [1]) (by decide) (by decide) (by decide) (by decide) (by decide) (by decide) (by decide) (by decide))
  have O2 := Lib.hid (wk_ok (most := 3) (next := 2) (out := 0) (hs := [1, 2]) (by decide) (by decide) (by decide) (by decide) (by decide) (by decide) (by decide) (by decide))
  have O3 := Lib.hid (wk_ok (most := 3) (next := 3) (out := 0) (hs := [1, 2, 3]) (by decide) (by decide) (by decide) (by decide) (by decide) (by decide) (by decide) (by decide))
  have O4 := Lib.hid (wk_ok (most := 3) (next := 3) (out := 1) (hs := [1, 2, 3]) (by decide) (by decide) (by decide) (by decide) (by decide) (by decide) (by decide) (by decide))
  have O5 := Lib.hid (wk_ok (most := 3) (next := 3) (out := 2) (hs := [1, 2, 3]) (by decide) (by decide) (by decide) (by decide) (by decide) (by decide) (by decide) (by decide))
  have O6 := Lib.hid (wk_ok (most := 3) (next := 3) (out := 2) (hs := [1, 3]) (by decide) (by decide) (by decide) (by decide) (by decide) (by decide) (by decide) (by decide))
  have O7 := Lib.hid (wk_ok (most := 3) (next := 4) (out := 2) (hs := [1, 3, 1]) (by decide) (by decide) (by decide) (by decide) (by decide) (by decide) (by decide) (by decide))
  have O8 := Lib.hid (wk_ok (most := 3) (next := 4) (out := 2) (hs := [3, 1]) (by decide) (by decide) (by decide) (by decide) (by decide) (by decide) (by decide) (by decide))
  clear hK i1 i2 i3 i4
  go_enter Try.func14, Try.ntmps14
  go_wp2_with fail
  refine (new_h (w0 := w) (by decide) (by decide) (Below.refl _ w)).mono ?_
  rintro e w1 ⟨g, mb, rfl, N0, -⟩
  have N0 : Held (fun _ => False) w.heap.size w g mb (wkN 3 0 0 []) w1 := N0
  go_wp2_with fail
  refine (vt_any 1 w1).mono ?_
  rintro e w2 ⟨rfl, b2⟩
  go_wp2_with fail
  refine (send_h (n' := wkN 3 1 0 [1]) (b := true) (N0.kept b2) O0.out HK.out HI.out.1 vtM_safe (by rfl) (by rfl)).mono ?_
  rintro e w3 ⟨rfl, N1, -⟩
  clear N0 b2
  go_wp2_with fail
  refine (vt_any 2 w3).mono ?_
  rintro e w4 ⟨rfl, b4⟩
  go_wp2_with fail
  refine (send_h (n' := wkN 3 2 0 [1, 2]) (b := true) (N1.kept b4) O1.out HK.out HI.out.2.1 vtM_safe (by rfl) (by rfl)).mono ?_
  rintro e w5 ⟨rfl, N2, -⟩
  clear N1 b4
  go_wp2_with fail
  refine (vt_any 3 w5).mono ?_
  rintro e w6 ⟨rfl, b6⟩
  go_wp2_with fail
  refine (send_h (n' := wkN 3 3 0 [1, 2, 3]) (b := true) (N2.kept b6) O2.out HK.out HI.out.2.2.1 vtM_safe (by rfl) (by rfl)).mono ?_
  rintro e w7 ⟨rfl, N3, -⟩
  clear N2 b6
  go_wp2_with fail
  refine (vt_any 4 w7).mono ?_
  rintro e w8 ⟨rfl, b8⟩
  go_wp2_with fail
  refine (send_h (n' := wkN 3 3 1 [1, 2, 3]) (b := false) (N3.kept b8) O3.out HK.out HI.out.2.2.2 vtM_safe (by rfl) (by rfl)).mono ?_
  rintro e w9 ⟨rfl, N4, -⟩
  clear N3 b8
  go_wp2_with fail
  refine (crowded_e (e1 := 1) N4 (by rfl)).mono ?_
  rintro e w9' ⟨rfl, rfl⟩
  go_wp2_with fail
  refine (twice_h (n' := wkN 3 3 2 [1, 2, 3]) (e1 := 41) N4 O4.out HK.out (by rfl) (by rfl)).mono ?_
  rintro e w10 ⟨rfl, N5, -⟩
  clear N4
  go_wp2_with fail
  refine (crowded_e (e1 := 2) N5 (by rfl)).mono ?_
  rintro e w10' ⟨rfl, rfl⟩
  go_wp2_with fail
  refine (give_h (n' := wkN 3 3 2 [1, 3]) (m := vtM 2) (e1 := 0) N5 O5.out HK.out (by rfl) (by rfl) (by rfl)).mono ?_
  rintro e v11 ⟨a, c, rfl, S6, N6, -⟩
  have M6 := Blk.drew (boxed_blk v11 (vtM 2) a c)
  have N6 := (N6.kept ((Below.refl _ v11).alloc (Nat.le_refl _) (.cells ((vtM 2).cells a c) 32))).drew
  have L6 : Nums .u64 (boxed v11 (vtM 2) a c) (boxed v11 (vtM 2) a c).heap.size a (vtM 2).l := .inl rfl
  obtain ⟨w11, hw11⟩ : ∃ w11, w11 = boxed v11 (vtM 2) a c := ⟨_, rfl⟩
  have N6 : Held (fun _ => False) w.heap.size w g mb (wkN 3 3 2 [1, 3]) w11.drew := by rw [hw11]; exact N6
  rw [← hw11] at M6 L6
  unfold boxed at hw11
  have HW := Lib.hid hw11
  clear hw11 N5 S6
  go_upto_region 5 with fail
  rw [← HW.out]
  clear HW
  generalize v11.heap.size = G at *
  have HN6 := Lib.hid N6
  clear N6
  go_region_held3 (fun w' => w'.cell? ⟨G, 0, none⟩ = some (.int .u8 (vtM 2).k) ∧ w'.cell? ⟨G, 1, none⟩ = some (.int .i64 (vtM 2).fr) ∧ w'.cell? ⟨G, 2, none⟩ = some (.int .i64 (vtM 2).to) ∧ w'.cell? ⟨G, 3, none⟩ = some (.int .i64 (vtM 2).ht) ∧ w'.cell? ⟨G, 4, none⟩ = some (.int .i64 (vtM 2).rd) ∧ w'.cell? ⟨G, 5, none⟩ = some (.int .i64 (vtM 2).vl) ∧ w'.cell? ⟨G, 6, none⟩ = some (.int .i64 (vtM 2).ep) ∧ w'.cell? ⟨G, 7, none⟩ = some (.int .i64 (vtM 2).dl) ∧ w'.cell? ⟨G, 8, none⟩ = some (.int .i64 (vtM 2).id) ∧ w'.cell? ⟨G, 9, none⟩ = some (.string ⟨(vtM 2).s.toArray⟩) ∧ w'.cell? ⟨G, 10, none⟩ = some (.slice a (vtM 2).l.length c)) (first | (refine Blk.msg ?_; assumption) | (refine Blk.msg (Blk.alloc ?_ _); assumption))
    (first
    | (go_at_call 26; (with_reducible refine (vt_any 2 _).mono ?_); rintro e12 w12 ⟨rfl, b12⟩; have M7 := M6.kept b12; have N7 := Lib.hid (HN6.out.kept b12))
    | (go_at_call 21; (with_reducible refine (rsame_agg (vtM 2) (vtM 2) a none c 0 _ vt_nums vt_none vt_l9 true (same_refl _)).mono ?_); rintro e13 w13 ⟨rfl, b13⟩; have M8 := M7.kept b13; have N8 := Lib.hid (N7.out.kept b13))
    | (go_at_call 23; (with_reducible refine (twice_h (n' := wkN 3 4 2 [1, 3, 1]) (e1 := 0) N8.out O6.out HK.out wk_a wk_b).mono ?_); rintro e14 w14 ⟨rfl, H14, f14⟩; have M9 := f14.blk M8 (by decide) (by decide); have N9 := Lib.hid H14; clear H14 f14)
    | (go_at_call 47; (with_reducible refine (has_lit [1, 3, 1] 3 l13 _ 3 _ (N9.out.alloc _) O7.out HK.out (ni131 w14) wk_e).mono ?_); rintro e15 w15 ⟨rfl, b15⟩; have M10 := (M9.alloc _).kept b15; have N10 := Lib.hid ((N9.out.alloc _).kept b15))
    | (go_at_call 22; (with_reducible refine (lose_h (n' := wkN 3 4 2 [3, 1]) (e1 := 0) N10.out O7.out HK.out wk_c wk_d).mono ?_); rintro e16 w16 ⟨rfl, H16, f16⟩; have M11 := f16.blk M10 (by decide) (by decide); have N11 := Lib.hid H16; clear H16 f16)
    | (go_at_call 47; (with_reducible refine (has_lit [3, 1] 2 l2 _ 2 _ (N11.out.alloc _) O8.out HK.out (ni31 w16) wk_f).mono ?_); rintro e17 w17 ⟨rfl, b17⟩; have M12 := (M11.alloc _).kept b17; have N12 := Lib.hid ((N11.out.alloc _).kept b17)))
  go_wp2_with fail
  refine (give_h (n' := wkN 3 4 2 [3, 1]) (m := Mg.zero) (e1 := 5) N12.out O8.out HK.out (by rfl) (by rfl) (by rfl)).mono ?_
  rintro e w18 ⟨a8, c8, rfl, -, N13, -⟩
  have B18 := boxed_below N13.below N13.base Mg.zero a8 c8
  unfold boxed at B18
  have HB := Lib.hid B18
  clear B18
  go_wp2_with fail
  go_ret
  exact ⟨rfl, HB.out⟩
end Go.Proofs.Ytbibbndjnlnbiaa
