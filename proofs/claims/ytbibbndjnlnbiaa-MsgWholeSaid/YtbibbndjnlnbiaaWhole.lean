/-
  consistorylaw14.MsgWhole: the walk.
-/
import Derived.Test.YtbibbndjnlnbiaaMBase
namespace Go.Proofs.Ytbibbndjnlnbiaa
open Go.RowKit

set_option maxRecDepth 100000 in
set_option maxHeartbeats 2000000 in
theorem whole_any (m : Mg) (a : Option Addr) (c : Nat) (k : Int) (bl : List UInt8) (w : World) (hf : MFit m) (hn : Nums .u64 w w.heap.size a m.l) (hbl : bl.length ≤ 140737488351232) :
    Calls Try.prog 10 #[m.val a c, .int .i64 k, .string ⟨bl.toArray⟩] w (TruePost w) := by
  obtain ⟨hok, hfs, hfl⟩ := hf
  have M0 := boxed_blk w m a c
  have B0 := boxed_below (Below.refl w.heap.size w) (Nat.le_refl _) m a c
  have N0 := boxed_nums hn m a c
  obtain ⟨w0, hw0⟩ : ∃ w0, w0 = boxed w m a c := ⟨_, rfl⟩
  rw [← hw0] at M0 B0 N0
  unfold boxed at hw0
  have HW := Lib.hid hw0
  clear hw0
  unfold Mg.val
  go_enter Try.func10, Try.ntmps10
  go_wp2_with fail
  rw [← HW.out]
  clear HW
  refine (works_any w0).mono ?_
  rintro e w1 ⟨rfl, b1⟩
  have M1 := M0.kept b1
  have N1 := nums_step N0 b1
  have B1 := step_below B0 b1
  clear M0 N0 B0 b1 hn
  obtain ⟨f0, f1, f2, f3, f4, f5, f6, f7, f8, f9, f10⟩ := M1.msg
  cases hL : largeB m with
  | true =>
    have HL := Lib.hid hL
    clear hL
    go_wp2_with fail
    refine (large_agg m a c w1 true HL.out).mono ?_
    rintro e w2 ⟨rfl, b2⟩
    go_wp2_with fail
    refine (works_any w2).mono ?_
    rintro e w3 ⟨rfl, b3⟩
    go_wp2_with fail
    go_ret
    exact ⟨rfl, step_below (step_below B1 b2) b3⟩
  | false =>
    have HL := Lib.hid hL
    clear hL
    go_wp2_with fail
    refine (large_agg m a c w1 false HL.out).mono ?_
    rintro e w2 ⟨rfl, b2⟩
    have M2 := M1.kept b2
    have N2 := nums_step N1 b2
    have B2 := step_below B1 b2
    clear M1 N1 B1 b2 f0 f1 f2 f3 f4 f5 f6 f7 f8 f9 f10
    obtain ⟨f0, f1, f2, f3, f4, f5, f6, f7, f8, f9, f10⟩ := M2.msg
    by_cases h5 : 5000 < bl.length
    · have h5' : decide ((5000 : Int) < bl.length) = true := decide_eq_true (by omega)
      go_wp2_with fail
      refine (works_any w2).mono ?_
      rintro e w3 ⟨rfl, b3⟩
      go_wp2_with fail
      go_ret
      exact ⟨rfl, step_below B2 b3⟩
    · have h5' : decide ((5000 : Int) < bl.length) = false := decide_eq_false (by omega)
      cases hm : m.may with
      | false =>
        obtain ⟨he1, he2⟩ := enc_no hm
        have HE := Lib.hid (encode_agg (c := c) hok N2 he1 he2)
        clear hm he1 he2
        go_wp2_with fail
        refine (Calls.mono HE.out ?_)
        rintro e w3 ⟨rfl, b3⟩
        go_wp2_with fail
        go_ret
        exact ⟨rfl, step_below B2 b3⟩
      | true =>
        obtain ⟨he1, he2⟩ := enc_ok hm
        have HE := Lib.hid (encode_agg (c := c) hok N2 he1 he2)
        have hbs := bytes_short hm
        have hbp : 0 < m.bytes.length := by rw [Mg.bytes_length]; omega
        obtain ⟨j, hj, hjl⟩ := rem_at k m.bytes.length hbp hbs
        have HC := Lib.hid (mdec_cut hok hm hjl)
        have HD := Lib.hid (mdec_enc hok hm)
        have HB := Lib.hid (@mdec_behind m hok hm bl)
        have HM := Lib.hid hm
        clear hm he1 he2
        go_wp2_with fail
        refine (Calls.mono HE.out ?_)
        rintro e w3 ⟨rfl, b3⟩
        have B3 := step_below B2 b3
        clear HE b3 B2 N2 M2 f0 f1 f2 f3 f4 f5 f6 f7 f8 f9 f10
        go_wp2_with fail
        refine (decode_agg HC.out).mono ?_
        rintro e v4 ⟨a4, c4, rfl, -, b4⟩
        have B4 := boxed_below (step_below B3 b4) (step_below B3 b4).size Mg.zero a4 c4
        obtain ⟨w4, hw4⟩ : ∃ w4, w4 = boxed v4 Mg.zero a4 c4 := ⟨_, rfl⟩
        rw [← hw4] at B4
        unfold boxed at hw4
        have HW := Lib.hid hw4
        clear hw4 B3 b4 HC
        go_wp2_with fail
        rw [← HW.out]
        clear HW
        go_wp2_with fail
        by_cases hbe : bl = []
        · have HX : mdec (m.bytes ++ bl) = (m, 0) := by rw [hbe, List.append_nil]; exact HD.out
          have HE := Lib.hid (decode_agg (w := w4) HX)
          have h1 : bl.isEmpty = true := by rw [hbe]; rfl
          clear HX
          refine (Calls.mono HE.out ?_)
          rintro e v5 ⟨a5, c5, rfl, -, b5⟩
          go_wp2_with fail
          go_ret
          exact ⟨rfl, boxed_below (step_below B4 b5) (step_below B4 b5).size m a5 c5⟩
        · have HE := Lib.hid (decode_agg (w := w4) (HB.out hbe))
          have h1 : bl.isEmpty = false := by simpa using hbe
          refine (Calls.mono HE.out ?_)
          rintro e v5 ⟨a5, c5, rfl, -, b5⟩
          go_wp2_with fail
          go_ret
          exact ⟨rfl, boxed_below (step_below B4 b5) (step_below B4 b5).size Mg.zero a5 c5⟩
end Go.Proofs.Ytbibbndjnlnbiaa
