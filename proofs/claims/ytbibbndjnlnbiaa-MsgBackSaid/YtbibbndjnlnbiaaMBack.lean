/-
  consistorylaw14.MsgBack: the walk.
-/
import Derived.Test.YtbibbndjnlnbiaaMBack0
namespace Go.Proofs.Ytbibbndjnlnbiaa
open Go.RowKit

set_option maxRecDepth 100000 in
set_option maxHeartbeats 4000000 in
theorem mback_yes (m : Mg) (a : Option Addr) (c : Nat) (sl : List UInt8) (w : World) (hf : MFit m) (hn : Nums .u64 w w.heap.size a m.l) (hsl : sl.length ≤ 140737488351232) (hm : m.may = true) :
    Calls Try.prog 13 #[m.val a c, .string ⟨sl.toArray⟩] w (TruePost w) := by
  obtain ⟨hok, hfs, hfl⟩ := hf
  have HMM := Lib.hid hm
  clear hm
  have M0 := boxed_blk w m a c
  have B0 := boxed_below (Below.refl w.heap.size w) (Nat.le_refl _) m a c
  have N0 := boxed_nums hn m a c
  obtain ⟨w0, hw0⟩ : ∃ w0, w0 = boxed w m a c := ⟨_, rfl⟩
  rw [← hw0] at M0 B0 N0
  unfold boxed at hw0
  have HW := Lib.hid hw0
  clear hw0
  unfold Mg.val
  go_enter Try.func13, Try.ntmps13
  go_wp2_with fail
  rw [← HW.out]
  clear HW
  refine (works_any w0).mono ?_
  rintro e w1 ⟨rfl, b1⟩
  have M1 := M0.kept b1
  have N1 := nums_step N0 b1
  have B1 := step_below B0 b1
  clear M0 N0 B0 b1 hn
  obtain ⟨f0, f1, f2, f3, f4, f5, f6, f7, f8, f9, f10⟩ := M1.msg
  cases hL : largeB m with
  | true =>
    have HL := Lib.hid hL
    clear hL
    go_wp2_with fail
    refine (large_agg m a c w1 true HL.out).mono ?_
    rintro e w2 ⟨rfl, b2⟩
    go_wp2_with fail
    refine (works_any w2).mono ?_
    rintro e w3 ⟨rfl, b3⟩
    go_wp2_with fail
    go_ret
    exact ⟨rfl, step_below (step_below B1 b2) b3⟩
  | false =>
    have HL := Lib.hid hL
    clear hL
    go_wp2_with fail
    refine (large_agg m a c w1 false HL.out).mono ?_
    rintro e w2 ⟨rfl, b2⟩
    have M2 := M1.kept b2
    have N2 := nums_step N1 b2
    have B2 := step_below B1 b2
    clear M1 N1 B1 b2 f0 f1 f2 f3 f4 f5 f6 f7 f8 f9 f10
    obtain ⟨f0, f1, f2, f3, f4, f5, f6, f7, f8, f9, f10⟩ := M2.msg
    by_cases h5 : 20000 < sl.length
    · have h5' : decide ((20000 : Int) < sl.length) = true := decide_eq_true (by omega)
      go_wp2_with fail
      refine (works_any w2).mono ?_
      rintro e w3 ⟨rfl, b3⟩
      go_wp2_with fail
      go_ret
      exact ⟨rfl, step_below B2 b3⟩
    · have h5' : decide ((20000 : Int) < sl.length) = false := decide_eq_false (by omega)
      have hm := HMM.out
      obtain ⟨he1, he2⟩ := enc_ok hm
      have HE := Lib.hid (encode_agg (c := c) hok N2 he1 he2)
      have HDM := Lib.hid (mdec_enc hok hm)
      have hbs := bytes_short hm
      have HM := Lib.hid hm
      have hll := (Mg.may_len hm).2
      clear hm he1 he2
      go_wp2_with fail
      refine (Calls.mono HE.out ?_)
      rintro e w3 ⟨rfl, b3⟩
      have M3 := M2.kept b3
      have N3 := nums_step N2 b3
      have B3 := step_below B2 b3
      clear HE b3 B2 N2 M2 f0 f1 f2 f3 f4 f5 f6 f7 f8 f9 f10
      obtain ⟨f0, f1, f2, f3, f4, f5, f6, f7, f8, f9, f10⟩ := M3.msg
      go_wp2_with fail
      refine (may_agg m a c w3 hok.k true HM.out).mono ?_
      rintro e w4 ⟨rfl, b4⟩
      have M4 := M3.kept b4
      have N4 := nums_step N3 b4
      have B4 := step_below B3 b4
      clear M3 N3 B3 b4 f0 f1 f2 f3 f4 f5 f6 f7 f8 f9 f10
      go_wp2_with fail
      refine (decode_agg HDM.out).mono ?_
      rintro e v5 ⟨a5, c5, rfl, own5, b5⟩
      have B5 := boxed_below (step_below B4 b5) (step_below B4 b5).size m a5 c5
      have M5 := boxed_kept (M4.kept b5) m a5 c5
      have N5 := boxed_nums (nums_step N4 b5) m a5 c5
      have K5 := boxed_blk v5 m a5 c5
      have L5 := boxed_nums (own_nums own5) m a5 c5
      obtain ⟨w5, hw5⟩ : ∃ w5, w5 = boxed v5 m a5 c5 := ⟨_, rfl⟩
      rw [← hw5] at B5 M5 N5 K5 L5
      unfold boxed at hw5
      have HW := Lib.hid hw5
      clear hw5 M4 N4 B4 b5 own5
      go_upto_region 8 with fail
      rw [← HW.out]
      clear HW
      generalize v5.heap.size = G at *
      obtain ⟨f0, f1, f2, f3, f4, f5, f6, f7, f8, f9, f10⟩ := M5.msg
      obtain ⟨g0, g1, g2, g3, g4, g5, g6, g7, g8, g9, g10⟩ := K5.msg
      go_wp2_with fail
      refine (rsame_agg m m a5 a c5 c w5 L5 N5 (by omega) true (same_refl _)).mono ?_
      rintro e w6 ⟨rfl, b6⟩
      have M6 := M5.kept b6
      have K6 := K5.kept b6
      have N6 := nums_step N5 b6
      have L6 := nums_step L5 b6
      have B6 := step_below B5 b6
      clear f0 f1 f2 f3 f4 f5 f6 f7 f8 f9 f10 g0 g1 g2 g3 g4 g5 g6 g7 g8 g9 g10 M5 K5 N5 L5 B5 b6
      obtain ⟨f0, f1, f2, f3, f4, f5, f6, f7, f8, f9, f10⟩ := M6.msg
      obtain ⟨g0, g1, g2, g3, g4, g5, g6, g7, g8, g9, g10⟩ := K6.msg
      go_wp2_with fail
      refine (same_agg m m a5 a c5 c w6 L6 N6 (by omega) (by omega) true (same_refl _)).mono ?_
      rintro e w7 ⟨rfl, b7⟩
      have B7 := step_below B6 b7
      clear f0 f1 f2 f3 f4 f5 f6 f7 f8 f9 f10 g0 g1 g2 g3 g4 g5 g6 g7 g8 g9 g10 M6 K6 N6 L6 B6 b7
      go_wp2_with fail
      rcases mdec_cases sl with ⟨e1, e2, e3⟩ | ⟨e1, e2⟩
      · have hk := mdec_ok sl
        generalize hmd : mdec sl = p at *
        obtain ⟨o, oe⟩ := p
        dsimp only at e1 e2 e3 hk
        subst e1
        have HD := Lib.hid (decode_agg (w := w7) hmd)
        obtain ⟨g1, g2⟩ := enc_ok e2
        rw [e3] at g1
        have HG := Lib.hid (And.intro g1 (And.intro g2 e2))
        clear hmd e2 e3 g1 g2
        refine (Calls.mono HD.out ?_)
        clear HD
        rintro e v8 ⟨a8, c8, rfl, own8, b8⟩
        have B8 := boxed_below (step_below B7 b8) (step_below B7 b8).size o a8 c8
        have M8 := boxed_blk v8 o a8 c8
        have N8 := boxed_nums (own_nums own8) o a8 c8
        obtain ⟨w8, hw8⟩ : ∃ w8, w8 = boxed v8 o a8 c8 := ⟨_, rfl⟩
        rw [← hw8] at B8 M8 N8
        unfold boxed at hw8
        have HW := Lib.hid hw8
        clear hw8 B7 b8 own8
        go_wp2_with fail
        rw [← HW.out]
        clear HW
        generalize v8.heap.size = G2 at *
        obtain ⟨f0, f1, f2, f3, f4, f5, f6, f7, f8, f9, f10⟩ := M8.msg
        go_wp2_with fail
        refine (encode_agg (c := c8) hk N8 HG.out.1 HG.out.2.1).mono ?_
        rintro e w9 ⟨rfl, b9⟩
        have M9 := M8.kept b9
        have B9 := step_below B8 b9
        clear f0 f1 f2 f3 f4 f5 f6 f7 f8 f9 f10 M8 N8 B8 b9
        obtain ⟨f0, f1, f2, f3, f4, f5, f6, f7, f8, f9, f10⟩ := M9.msg
        go_wp2_with fail
        refine (may_agg o a8 c8 w9 hk.k true HG.out.2.2).mono ?_
        rintro e w10 ⟨rfl, b10⟩
        go_wp2_with fail
        go_ret
        exact ⟨rfl, step_below B9 b10⟩
      · generalize hmd : mdec sl = p at *
        obtain ⟨o, oe⟩ := p
        dsimp only at e1 e2
        subst e2
        have HD := Lib.hid (decode_agg (w := w7) hmd)
        have he1 : (oe != 0) = true := by simpa using e1
        clear hmd e1
        refine (Calls.mono HD.out ?_)
        clear HD
        rintro e v8 ⟨a8, c8, rfl, own8, b8⟩
        have B8 := boxed_below (step_below B7 b8) (step_below B7 b8).size Mg.zero a8 c8
        have M8 := boxed_blk v8 Mg.zero a8 c8
        have N8 := boxed_nums (own_nums own8) Mg.zero a8 c8
        obtain ⟨w8, hw8⟩ : ∃ w8, w8 = boxed v8 Mg.zero a8 c8 := ⟨_, rfl⟩
        rw [← hw8] at B8 M8 N8
        unfold boxed at hw8
        have HW := Lib.hid hw8
        clear hw8 B7 b8 own8
        go_wp2_with fail
        rw [← HW.out]
        clear HW
        generalize v8.heap.size = G2 at *
        obtain ⟨f0, f1, f2, f3, f4, f5, f6, f7, f8, f9, f10⟩ := M8.msg
        go_wp2_with fail
        refine (rsame_agg Mg.zero Mg.zero a8 none c8 0 w8 N8 (.inl rfl) (by decide) true (same_refl _)).mono ?_
        rintro e w9 ⟨rfl, b9⟩
        go_wp2_with fail
        go_ret
        exact ⟨rfl, step_below B8 b9⟩

theorem mback_any (m : Mg) (a : Option Addr) (c : Nat) (sl : List UInt8) (w : World) (hf : MFit m) (hn : Nums .u64 w w.heap.size a m.l) (hsl : sl.length ≤ 140737488351232) :
    Calls Try.prog 13 #[m.val a c, .string ⟨sl.toArray⟩] w (TruePost w) := by
  cases hm : m.may with
  | false => exact mback_no m a c sl w hf hn hsl hm
  | true => exact mback_yes m a c sl w hf hn hsl hm
end Go.Proofs.Ytbibbndjnlnbiaa
