/-
  consistorylaw14.MsgBack: the walk.
-/
import Derived.Test.YtbibbndjnlnbiaaMBase
namespace Go.Proofs.Ytbibbndjnlnbiaa
open Go.RowKit

set_option maxRecDepth 100000 in
set_option maxHeartbeats 4000000 in
theorem mback_no (m : Mg) (a : Option Addr) (c : Nat) (sl : List UInt8) (w : World) (hf : MFit m) (hn : Nums .u64 w w.heap.size a m.l) (hsl : sl.length ≤ 140737488351232) (hm : m.may = false) :
    Calls Try.prog 13 #[m.val a c, .string ⟨sl.toArray⟩] w (TruePost w) := by
  obtain ⟨hok, hfs, hfl⟩ := hf
  have HMM := Lib.hid hm
  clear hm
  have M0 := boxed_blk w m a c
  have B0 := boxed_below (Below.refl w.heap.size w) (Nat.le_refl _) m a c
  have N0 := boxed_nums hn m a c
  obtain ⟨w0, hw0⟩ : ∃ w0, w0 = boxed w m a c := ⟨_, rfl⟩
  rw [← hw0] at M0 B0 N0
  unfold boxed at hw0
  have HW := Lib.hid hw0
  clear hw0
  unfold Mg.val
  go_enter Try.func13, Try.ntmps13
  go_wp2_with fail
  rw [← HW.out]
  clear HW
  refine (works_any w0).mono ?_
  rintro e w1 ⟨rfl, b1⟩
  have M1 := M0.kept b1
  have N1 := nums_step N0 b1
  have B1 := step_below B0 b1
  clear M0 N0 B0 b1 hn
  obtain ⟨f0, f1, f2, f3, f4, f5, f6, f7, f8, f9, f10⟩ := M1.msg
  cases hL : largeB m with
  | true =>
    have HL := Lib.hid hL
    clear hL
    go_wp2_with fail
    refine (large_agg m a c w1 true HL.out).mono ?_
    rintro e w2 ⟨rfl, b2⟩
    go_wp2_with fail
    refine (works_any w2).mono ?_
    rintro e w3 ⟨rfl, b3⟩
    go_wp2_with fail
    go_ret
    exact ⟨rfl, step_below (step_below B1 b2) b3⟩
  | false =>
    have HL := Lib.hid hL
    clear hL
    go_wp2_with fail
    refine (large_agg m a c w1 false HL.out).mono ?_
    rintro e w2 ⟨rfl, b2⟩
    have M2 := M1.kept b2
    have N2 := nums_step N1 b2
    have B2 := step_below B1 b2
    clear M1 N1 B1 b2 f0 f1 f2 f3 f4 f5 f6 f7 f8 f9 f10
    obtain ⟨f0, f1, f2, f3, f4, f5, f6, f7, f8, f9, f10⟩ := M2.msg
    by_cases h5 : 20000 < sl.length
    · have h5' : decide ((20000 : Int) < sl.length) = true := decide_eq_true (by omega)
      go_wp2_with fail
      refine (works_any w2).mono ?_
      rintro e w3 ⟨rfl, b3⟩
      go_wp2_with fail
      go_ret
      exact ⟨rfl, step_below B2 b3⟩
    · have h5' : decide ((20000 : Int) < sl.length) = false := decide_eq_false (by omega)
      have hm := HMM.out
      obtain ⟨he1, he2⟩ := enc_no hm
      have HE := Lib.hid (encode_agg (c := c) hok N2 he1 he2)
      have HM := Lib.hid hm
      clear hm he1 he2
      go_wp2_with fail
      refine (Calls.mono HE.out ?_)
      rintro e w3 ⟨rfl, b3⟩
      have M3 := M2.kept b3
      have B3 := step_below B2 b3
      clear HE b3 B2 N2 M2 f0 f1 f2 f3 f4 f5 f6 f7 f8 f9 f10
      obtain ⟨f0, f1, f2, f3, f4, f5, f6, f7, f8, f9, f10⟩ := M3.msg
      go_wp2_with fail
      refine (may_agg m a c w3 hok.k false HM.out).mono ?_
      rintro e w4 ⟨rfl, b4⟩
      have B4 := step_below B3 b4
      clear M3 B3 b4 f0 f1 f2 f3 f4 f5 f6 f7 f8 f9 f10
      go_wp2_with fail
      rcases mdec_cases sl with ⟨e1, e2, e3⟩ | ⟨e1, e2⟩
      · have hk := mdec_ok sl
        generalize hmd : mdec sl = p at *
        obtain ⟨o, oe⟩ := p
        dsimp only at e1 e2 e3 hk
        subst e1
        have HD := Lib.hid (decode_agg (w := w4) hmd)
        obtain ⟨g1, g2⟩ := enc_ok e2
        rw [e3] at g1
        have HG := Lib.hid (And.intro g1 (And.intro g2 e2))
        clear hmd e2 e3 g1 g2
        refine (Calls.mono HD.out ?_)
        clear HD
        rintro e v8 ⟨a8, c8, rfl, own8, b8⟩
        have B8 := boxed_below (step_below B4 b8) (step_below B4 b8).size o a8 c8
        have M8 := boxed_blk v8 o a8 c8
        have N8 := boxed_nums (own_nums own8) o a8 c8
        obtain ⟨w8, hw8⟩ : ∃ w8, w8 = boxed v8 o a8 c8 := ⟨_, rfl⟩
        rw [← hw8] at B8 M8 N8
        unfold boxed at hw8
        have HW := Lib.hid hw8
        clear hw8 B4 b8 own8
        go_wp2_with fail
        rw [← HW.out]
        clear HW
        generalize v8.heap.size = G at *
        obtain ⟨f0, f1, f2, f3, f4, f5, f6, f7, f8, f9, f10⟩ := M8.msg
        go_wp2_with fail
        refine (encode_agg (c := c8) hk N8 HG.out.1 HG.out.2.1).mono ?_
        rintro e w9 ⟨rfl, b9⟩
        have M9 := M8.kept b9
        have B9 := step_below B8 b9
        clear f0 f1 f2 f3 f4 f5 f6 f7 f8 f9 f10 M8 N8 B8 b9
        obtain ⟨f0, f1, f2, f3, f4, f5, f6, f7, f8, f9, f10⟩ := M9.msg
        go_wp2_with fail
        refine (may_agg o a8 c8 w9 hk.k true HG.out.2.2).mono ?_
        rintro e w10 ⟨rfl, b10⟩
        go_wp2_with fail
        go_ret
        exact ⟨rfl, step_below B9 b10⟩
      · generalize hmd : mdec sl = p at *
        obtain ⟨o, oe⟩ := p
        dsimp only at e1 e2
        subst e2
        have HD := Lib.hid (decode_agg (w := w4) hmd)
        have he1 : (oe != 0) = true := by simpa using e1
        clear hmd e1
        refine (Calls.mono HD.out ?_)
        clear HD
        rintro e v8 ⟨a8, c8, rfl, own8, b8⟩
        have B8 := boxed_below (step_below B4 b8) (step_below B4 b8).size Mg.zero a8 c8
        have M8 := boxed_blk v8 Mg.zero a8 c8
        have N8 := boxed_nums (own_nums own8) Mg.zero a8 c8
        obtain ⟨w8, hw8⟩ : ∃ w8, w8 = boxed v8 Mg.zero a8 c8 := ⟨_, rfl⟩
        rw [← hw8] at B8 M8 N8
        unfold boxed at hw8
        have HW := Lib.hid hw8
        clear hw8 B4 b8 own8
        go_wp2_with fail
        rw [← HW.out]
        clear HW
        generalize v8.heap.size = G at *
        obtain ⟨f0, f1, f2, f3, f4, f5, f6, f7, f8, f9, f10⟩ := M8.msg
        go_wp2_with fail
        refine (rsame_agg Mg.zero Mg.zero a8 none c8 0 w8 N8 (.inl rfl) (by decide) true (same_refl _)).mono ?_
        rintro e w9 ⟨rfl, b9⟩
        go_wp2_with fail
        go_ret
        exact ⟨rfl, step_below B8 b9⟩
end Go.Proofs.Ytbibbndjnlnbiaa
