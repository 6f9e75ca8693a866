/-
  consistorylaw13.EntryBack: the walk.
-/
import Derived.Test.YtdnkijljpmcejaaEWhole
import Derived.Test.YtdnkijljpmcejaaERSame2
import Derived.Test.YtdnkijljpmcejaaEnLen
namespace Go.Proofs.Ytdnkijljpmcejaa
open Go.RowKit

theorem may_cnt {e : En} (h : e.May) : e.Cnt := by
  obtain ⟨h1, h2, h3, h4, h5, h6⟩ := form_parts h.form
  have hs := short_bytes (En.is_of h.form) h.len
  exact ⟨by omega, by omega, by omega, by omega, fun l hl => by have := hs.1 l hl; omega, fun d hd => by have := dl_short (h5 d hd); omega, fun d hd l hl => by have := hs.2 d hd l hl; omega⟩
theorem may_lim {e : En} (h : e.May) : e.Lim := by
  obtain ⟨h1, h2, h3, h4, h5, h6⟩ := form_parts h.form
  have hs := short_bytes (En.is_of h.form) h.len
  exact ⟨by omega, by omega, by omega, by omega, fun l hl => by have := hs.1 l hl; omega, fun d hd => by have := dl_short (h5 d hd); omega, fun d hd l hl => by have := hs.2 d hd l hl; omega⟩
theorem edec_cases (s : List UInt8) : (∃ x, edec s = (En.zero, x) ∧ (x != 0) = true) ∨ (∃ e : En, e.May ∧ e.bytes = s ∧ edec s = (e, 0)) := by
  by_cases h : (edec s).2 = 0
  · obtain ⟨h1, h2⟩ := edec_only h
    exact .inr ⟨(edec s).1, h1, h2, by rw [← h]⟩
  · exact .inl ⟨(edec s).2, by rw [← edec_no h], by simpa using h⟩
theorem may_is {e : En} {b : Bool} (p : Ad) (w : World) (ok : e.Ok) (hL : e.Lim) (hN : NEn w w.heap.size e p) (h : e.may = b) : Calls Try.prog 37 #[.agg #[.int .u8 e.k, .int .i64 e.id, .int .i64 e.ep, .slice p.a1 e.x.length p.c1, .slice p.a2 e.coms.length p.c2, .slice p.a3 e.next.length p.c3, .slice p.a4 e.deals.length p.c4]] w (BoolPost b w) := by
  rw [← h]
  exact may_any e p w ok hL hN
theorem nen_alloc {w : World} {e : En} {p : Ad} (h : NEn w w.heap.size e p) (o : Obj) : NEn (w.alloc o) (w.alloc o).heap.size e p := h.step ((Below.refl _ w).alloc (Nat.le_refl _) o)
theorem nen_zero {w : World} {B : Nat} {p : Ad} : NEn w B En.zero p := ⟨.inl rfl, .inl rfl, .inl rfl, .inl rfl⟩

set_option maxRecDepth 100000 in
set_option maxHeartbeats 4000000 in
theorem eback_any (e : En) (p : Ad) (s : List UInt8) (w : World) (ok : e.Ok) (hr : e.Rch) (hN : NEn w w.heap.size e p) (hsl : s.length ≤ 140737488351232) :
    Calls Try.prog 13 #[.agg #[.int .u8 e.k, .int .i64 e.id, .int .i64 e.ep, .slice p.a1 e.x.length p.c1, .slice p.a2 e.coms.length p.c2, .slice p.a3 e.next.length p.c3, .slice p.a4 e.deals.length p.c4], .string ⟨s.toArray⟩] w (TruePost w) := by
  obtain ⟨w0, hw0⟩ : ∃ w0, w0 = w.alloc (.cells #[.int .u8 e.k, .int .i64 e.id, .int .i64 e.ep, .slice p.a1 e.x.length p.c1, .slice p.a2 e.coms.length p.c2, .slice p.a3 e.next.length p.c3, .slice p.a4 e.deals.length p.c4] 55) := ⟨_, rfl⟩
  have B0 : Below w.heap.size w w0 := by rw [hw0]; exact (Below.refl _ w).alloc (Nat.le_refl _) _
  have K0 : Blk w0 w.heap.size 55 #[.int .u8 e.k, .int .i64 e.id, .int .i64 e.ep, .slice p.a1 e.x.length p.c1, .slice p.a2 e.coms.length p.c2, .slice p.a3 e.next.length p.c3, .slice p.a4 e.deals.length p.c4] := by rw [hw0]; exact Blk.new w _ _
  have HW := Lib.hid hw0
  have H0 := Lib.hid (And.intro K0 (And.intro B0 (hN.step B0)))
  obtain ⟨f0, f1, f2, f3, f4, f5, f6⟩ := K0.entry
  clear hw0 hN K0 B0
  go_enter Try.func13, Try.ntmps13
  go_upto_region 1 with fail
  rw [← HW.out]
  clear HW
  generalize hGG : w.heap.size = G at f0 f1 f2 f3 f4 f5 f6 ⊢
  have HG := Lib.hid hGG
  clear hGG
  go_wp2_with fail
  refine (large_any e p w0 H0.out.2.2 hr).mono ?_
  rintro e2 w1 ⟨rfl, b1⟩
  have K1 := H0.out.1.kept b1
  have H1 := Lib.hid (And.intro K1 (And.intro (step_below H0.out.2.1 b1) (H0.out.2.2.step b1)))
  rw [HG.out] at K1
  obtain ⟨f0, f1, f2, f3, f4, f5, f6⟩ := K1.entry
  clear K1 H0 b1
  cases hL : e.large with
  | true =>
    go_wp2_with fail
    refine (awake_any w1).mono ?_
    rintro e2 w2 ⟨rfl, b2⟩
    go_wp2_with fail
    go_ret
    exact ⟨rfl, step_below H1.out.2.1 b2⟩
  | false =>
    have HL := Lib.hid (large_lim hL)
    clear hL
    by_cases h3 : 5000 < s.length
    · have h3' : decide ((5000 : Int) < s.length) = true := decide_eq_true (by omega)
      go_wp2_with fail
      refine (awake_any w1).mono ?_
      rintro e2 w2 ⟨rfl, b2⟩
      go_wp2_with fail
      go_ret
      exact ⟨rfl, step_below H1.out.2.1 b2⟩
    · have h3' : decide ((5000 : Int) < s.length) = false := decide_eq_false (by omega)
      go_wp2_with fail
      refine (awake_any w1).mono ?_
      rintro e2 w2 ⟨rfl, b2⟩
      have K2 := H1.out.1.kept b2
      have H2 := Lib.hid (And.intro K2 (And.intro (step_below H1.out.2.1 b2) (H1.out.2.2.step b2)))
      rw [HG.out] at K2
      obtain ⟨f0, f1, f2, f3, f4, f5, f6⟩ := K2.entry
      clear K2 H1 b2
      go_wp2_with fail
      rcases eenc_cases ok with ⟨x, hx1, hx2⟩ | ⟨hm, hx⟩
      · have HE := Lib.hid (enc_of p w2 ok HL.out H2.out.2.2 hx1)
        have hmay : e.may = false := by rw [may_eenc, hx1]; simpa using hx2
        have hx3 : (x == 0) = false := by simpa using hx2
        have HM := Lib.hid hmay
        clear hx1 hmay
        refine (Calls.mono HE.out ?_)
        rintro e2 w3 ⟨rfl, b3⟩
        have K3 := H2.out.1.kept b3
        have H3 := Lib.hid (And.intro K3 (And.intro (step_below H2.out.2.1 b3) (H2.out.2.2.step b3)))
        rw [HG.out] at K3
        obtain ⟨f0, f1, f2, f3, f4, f5, f6⟩ := K3.entry
        clear K3 H2 b3
        go_wp2_with fail
        refine (may_is p w3 ok HL.out H3.out.2.2 HM.out).mono ?_
        rintro e2 w4 ⟨rfl, b4⟩
        have B4 := Lib.hid (step_below H3.out.2.1 b4)
        clear b4 f0 f1 f2 f3 f4 f5 f6
        go_wp2_with fail
        rcases edec_cases s with ⟨x, hx, hx0⟩ | ⟨b, hbm, hbs, hx⟩
        · have HD := Lib.hid hx
          clear hx
          refine (dec_of _ (by omega) HD.out).mono ?_
          rintro e2 w8 ⟨p8, rfl, -, b8⟩
          have K8 := Blk.new w8 55 #[.int .u8 En.zero.k, .int .i64 En.zero.id, .int .i64 En.zero.ep, .slice p8.a1 En.zero.x.length p8.c1, .slice p8.a2 En.zero.coms.length p8.c2, .slice p8.a3 En.zero.next.length p8.c3, .slice p8.a4 En.zero.deals.length p8.c4]
          have B8 := Lib.hid ((step_below B4.out b8).alloc (step_below B4.out b8).size (.cells #[.int .u8 En.zero.k, .int .i64 En.zero.id, .int .i64 En.zero.ep, .slice p8.a1 En.zero.x.length p8.c1, .slice p8.a2 En.zero.coms.length p8.c2, .slice p8.a3 En.zero.next.length p8.c3, .slice p8.a4 En.zero.deals.length p8.c4] 55))
          clear b8
          go_wp2_with fail
          refine (rsame_is (a := En.zero) (b := En.zero) p8 Ad.none _ nen_zero nen_zero cnt_zero cnt_zero (En.same_iff.2 rfl)).mono ?_
          rintro e2 w9 ⟨rfl, b9⟩
          go_wp2_with fail
          go_ret
          exact ⟨rfl, step_below B8.out b9⟩
        · have HD := Lib.hid hx
          have HM := Lib.hid (And.intro hbm hbs)
          clear hx hbm hbs
          refine (dec_of _ (by omega) HD.out).mono ?_
          rintro e2 w8 ⟨p8, rfl, o8, b8⟩
          have N8 := Lib.hid (nen_alloc o8.nums (.cells #[.int .u8 b.k, .int .i64 b.id, .int .i64 b.ep, .slice p8.a1 b.x.length p8.c1, .slice p8.a2 b.coms.length p8.c2, .slice p8.a3 b.next.length p8.c3, .slice p8.a4 b.deals.length p8.c4] 55))
          have B8 := Lib.hid ((step_below B4.out b8).alloc (step_below B4.out b8).size (.cells #[.int .u8 b.k, .int .i64 b.id, .int .i64 b.ep, .slice p8.a1 b.x.length p8.c1, .slice p8.a2 b.coms.length p8.c2, .slice p8.a3 b.next.length p8.c3, .slice p8.a4 b.deals.length p8.c4] 55))
          clear b8 o8
          go_wp2_with fail
          have HE := Lib.hid (enc_of p8 _ HM.out.1.ok (may_lim HM.out.1) N8.out (by rw [eenc_may HM.out.1, HM.out.2]))
          refine (Calls.mono HE.out ?_)
          rintro e2 w9 ⟨rfl, b9⟩
          go_wp2_with fail
          go_ret
          exact ⟨rfl, step_below B8.out b9⟩

      · have HE := Lib.hid (enc_of p w2 ok HL.out H2.out.2.2 hx)
        have hmay : e.may = true := by rw [may_eenc, hx]; rfl
        have HM := Lib.hid (And.intro hmay hm)
        have hbl := hm.len
        clear hx hmay hm
        refine (Calls.mono HE.out ?_)
        rintro e2 w3 ⟨rfl, b3⟩
        have K3 := H2.out.1.kept b3
        have H3 := Lib.hid (And.intro K3 (And.intro (step_below H2.out.2.1 b3) (H2.out.2.2.step b3)))
        rw [HG.out] at K3
        obtain ⟨f0, f1, f2, f3, f4, f5, f6⟩ := K3.entry
        clear K3 H2 b3
        go_wp2_with fail
        refine (may_is p w3 ok HL.out H3.out.2.2 HM.out.1).mono ?_
        rintro e2 w4 ⟨rfl, b4⟩
        have K4 := H3.out.1.kept b4
        have H4 := Lib.hid (And.intro K4 (And.intro (step_below H3.out.2.1 b4) (H3.out.2.2.step b4)))
        rw [HG.out] at K4
        obtain ⟨f0, f1, f2, f3, f4, f5, f6⟩ := K4.entry
        clear K4 H3 b4
        have HD1 := Lib.hid (edec_back HM.out.2)
        go_wp2_with fail
        refine (dec_of w4 (by omega) HD1.out).mono ?_
        rintro e2 w5 ⟨p5, rfl, o5, b5⟩
        have N5 := Lib.hid (nen_alloc o5.nums (.cells #[.int .u8 e.k, .int .i64 e.id, .int .i64 e.ep, .slice p5.a1 e.x.length p5.c1, .slice p5.a2 e.coms.length p5.c2, .slice p5.a3 e.next.length p5.c3, .slice p5.a4 e.deals.length p5.c4] 55))
        have b5' := (Below.trans b5 ((Below.refl _ w5).alloc b5.size (.cells #[.int .u8 e.k, .int .i64 e.id, .int .i64 e.ep, .slice p5.a1 e.x.length p5.c1, .slice p5.a2 e.coms.length p5.c2, .slice p5.a3 e.next.length p5.c3, .slice p5.a4 e.deals.length p5.c4] 55)))
        have K5 := H4.out.1.kept b5'
        have H5 := Lib.hid (And.intro K5 (And.intro (step_below H4.out.2.1 b5') (H4.out.2.2.step b5')))
        rw [HG.out] at K5
        obtain ⟨f0, f1, f2, f3, f4, f5, f6⟩ := K5.entry
        clear K5 H4 b5 b5' o5
        go_wp2_with fail
        refine (rsame_is (a := e) (b := e) p5 p _ N5.out H5.out.2.2 HL.out.cnt HL.out.cnt (En.same_iff.2 rfl)).mono ?_
        rintro e2 w6 ⟨rfl, b6⟩
        have B6 := Lib.hid (step_below H5.out.2.1 b6)
        clear b6 f0 f1 f2 f3 f4 f5 f6
        go_wp2_with fail
        rcases edec_cases s with ⟨x, hx, hx0⟩ | ⟨b, hbm, hbs, hx⟩
        · have HD := Lib.hid hx
          clear hx
          refine (dec_of _ (by omega) HD.out).mono ?_
          rintro e2 w8 ⟨p8, rfl, -, b8⟩
          have K8 := Blk.new w8 55 #[.int .u8 En.zero.k, .int .i64 En.zero.id, .int .i64 En.zero.ep, .slice p8.a1 En.zero.x.length p8.c1, .slice p8.a2 En.zero.coms.length p8.c2, .slice p8.a3 En.zero.next.length p8.c3, .slice p8.a4 En.zero.deals.length p8.c4]
          have B8 := Lib.hid ((step_below B6.out b8).alloc (step_below B6.out b8).size (.cells #[.int .u8 En.zero.k, .int .i64 En.zero.id, .int .i64 En.zero.ep, .slice p8.a1 En.zero.x.length p8.c1, .slice p8.a2 En.zero.coms.length p8.c2, .slice p8.a3 En.zero.next.length p8.c3, .slice p8.a4 En.zero.deals.length p8.c4] 55))
          clear b8
          go_wp2_with fail
          refine (rsame_is (a := En.zero) (b := En.zero) p8 Ad.none _ nen_zero nen_zero cnt_zero cnt_zero (En.same_iff.2 rfl)).mono ?_
          rintro e2 w9 ⟨rfl, b9⟩
          go_wp2_with fail
          go_ret
          exact ⟨rfl, step_below B8.out b9⟩
        · have HD := Lib.hid hx
          have HM := Lib.hid (And.intro hbm hbs)
          clear hx hbm hbs
          refine (dec_of _ (by omega) HD.out).mono ?_
          rintro e2 w8 ⟨p8, rfl, o8, b8⟩
          have N8 := Lib.hid (nen_alloc o8.nums (.cells #[.int .u8 b.k, .int .i64 b.id, .int .i64 b.ep, .slice p8.a1 b.x.length p8.c1, .slice p8.a2 b.coms.length p8.c2, .slice p8.a3 b.next.length p8.c3, .slice p8.a4 b.deals.length p8.c4] 55))
          have B8 := Lib.hid ((step_below B6.out b8).alloc (step_below B6.out b8).size (.cells #[.int .u8 b.k, .int .i64 b.id, .int .i64 b.ep, .slice p8.a1 b.x.length p8.c1, .slice p8.a2 b.coms.length p8.c2, .slice p8.a3 b.next.length p8.c3, .slice p8.a4 b.deals.length p8.c4] 55))
          clear b8 o8
          go_wp2_with fail
          have HE := Lib.hid (enc_of p8 _ HM.out.1.ok (may_lim HM.out.1) N8.out (by rw [eenc_may HM.out.1, HM.out.2]))
          refine (Calls.mono HE.out ?_)
          rintro e2 w9 ⟨rfl, b9⟩
          go_wp2_with fail
          go_ret
          exact ⟨rfl, step_below B8.out b9⟩

end Go.Proofs.Ytdnkijljpmcejaa
