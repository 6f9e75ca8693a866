/-
  consistorylaw14.MsgLong: the walk.
-/
import Derived.Test.YtbibbndjnlnbiaaMBase
namespace Go.Proofs.Ytbibbndjnlnbiaa
open Go.RowKit

theorem bytes_same {m o : Mg} (hm : m.Ok) (ho : o.Ok) (mm : m.may = true) (mo : o.may = true) : ((m.bytes == o.bytes) == m.same o) = true := by
  by_cases h : m = o
  · subst h
    rw [same_refl]
    simp
  · have h1 : (m.bytes == o.bytes) = false := by
      rw [beq_eq_false_iff_ne]
      exact fun h2 => h (bytes_inj hm ho mm mo h2)
    have h2 : m.same o = false := by
      cases hs : m.same o with
      | false => rfl
      | true => exact absurd (same_iff.1 hs) h
    rw [h1, h2]
    rfl
theorem boxed_msg {w : World} {b : Nat} {m o : Mg} {a a' : Option Addr} {c c' : Nat} (h : Blk w b 32 (m.cells a c)) : Blk (boxed w o a' c') b 32 (m.cells a c) := h.alloc _

set_option maxRecDepth 100000 in
set_option maxHeartbeats 4000000 in
theorem mlong_any (m o : Mg) (a a' : Option Addr) (c c' : Nat) (w : World) (hf : MFit m) (hf' : MFit o) (hn : Nums .u64 w w.heap.size a m.l) (hn' : Nums .u64 w w.heap.size a' o.l) :
    Calls Try.prog 9 #[m.val a c, o.val a' c'] w (TruePost w) := by
  obtain ⟨hok, hfs, hfl⟩ := hf
  obtain ⟨hok', hfs', hfl'⟩ := hf'
  have M0 := boxed_msg (o := o) (a' := a') (c' := c') (boxed_blk w m a c)
  have K0 := boxed_blk (boxed w m a c) o a' c'
  have B0 := boxed_below (boxed_below (Below.refl w.heap.size w) (Nat.le_refl _) m a c) (by unfold boxed; simp) o a' c'
  have N0 := boxed_nums (boxed_nums hn m a c) o a' c'
  have L0 := boxed_nums (boxed_nums hn' m a c) o a' c'
  have hsz : (boxed w m a c).heap.size = w.heap.size + 1 := by unfold boxed; simp
  rw [hsz] at K0
  clear hsz
  obtain ⟨w0, hw0⟩ : ∃ w0, w0 = boxed (boxed w m a c) o a' c' := ⟨_, rfl⟩
  rw [← hw0] at M0 K0 B0 N0 L0
  unfold boxed at hw0
  have HW := Lib.hid hw0
  clear hw0
  unfold Mg.val
  go_enter Try.func9, Try.ntmps9
  go_wp2_with fail
  rw [← HW.out]
  clear HW
  obtain ⟨f0, f1, f2, f3, f4, f5, f6, f7, f8, f9, f10⟩ := M0.msg
  obtain ⟨g0, g1, g2, g3, g4, g5, g6, g7, g8, g9, g10⟩ := K0.msg
  refine (works_any w0).mono ?_
  rintro e w1 ⟨rfl, b1⟩
  have M1 := M0.kept b1
  have K1 := K0.kept b1
  have N1 := nums_step N0 b1
  have L1 := nums_step L0 b1
  have B1 := step_below B0 b1
  clear M0 K0 N0 L0 B0 b1 f0 f1 f2 f3 f4 f5 f6 f7 f8 f9 f10 g0 g1 g2 g3 g4 g5 g6 g7 g8 g9 g10
  obtain ⟨f0, f1, f2, f3, f4, f5, f6, f7, f8, f9, f10⟩ := M1.msg
  obtain ⟨g0, g1, g2, g3, g4, g5, g6, g7, g8, g9, g10⟩ := K1.msg
  cases hL : largeB m with
  | true =>
    have HL := Lib.hid hL
    clear hL
    go_wp2_with fail
    refine (large_agg m a c w1 true HL.out).mono ?_
    rintro e w2 ⟨rfl, b2⟩
    have B2 := step_below B1 b2
    go_wp2_with fail
    refine (works_any w2).mono ?_
    rintro e w9 ⟨rfl, b9⟩
    go_wp2_with fail
    go_ret
    exact ⟨rfl, step_below B2 b9⟩
  | false =>
    have HL := Lib.hid hL
    clear hL
    go_wp2_with fail
    refine (large_agg m a c w1 false HL.out).mono ?_
    rintro e w2 ⟨rfl, b2⟩
    have M2 := M1.kept b2
    have K2 := K1.kept b2
    have N2 := nums_step N1 b2
    have L2 := nums_step L1 b2
    have B2 := step_below B1 b2
    clear M1 K1 N1 L1 B1 b2 f0 f1 f2 f3 f4 f5 f6 f7 f8 f9 f10 g0 g1 g2 g3 g4 g5 g6 g7 g8 g9 g10
    obtain ⟨f0, f1, f2, f3, f4, f5, f6, f7, f8, f9, f10⟩ := M2.msg
    obtain ⟨g0, g1, g2, g3, g4, g5, g6, g7, g8, g9, g10⟩ := K2.msg
    cases hL' : largeB o with
    | true =>
      have HL' := Lib.hid hL'
      clear hL'
      go_wp2_with fail
      refine (large_agg o a' c' w2 true HL'.out).mono ?_
      rintro e w3 ⟨rfl, b3⟩
      have B3 := step_below B2 b3
      go_wp2_with fail
      refine (works_any w3).mono ?_
      rintro e w9 ⟨rfl, b9⟩
      go_wp2_with fail
      go_ret
      exact ⟨rfl, step_below B3 b9⟩
    | false =>
      have HL' := Lib.hid hL'
      clear hL'
      go_wp2_with fail
      refine (large_agg o a' c' w2 false HL'.out).mono ?_
      rintro e w3 ⟨rfl, b3⟩
      have M3 := M2.kept b3
      have K3 := K2.kept b3
      have N3 := nums_step N2 b3
      have L3 := nums_step L2 b3
      have B3 := step_below B2 b3
      clear M2 K2 N2 L2 B2 b3 f0 f1 f2 f3 f4 f5 f6 f7 f8 f9 f10 g0 g1 g2 g3 g4 g5 g6 g7 g8 g9 g10
      obtain ⟨f0, f1, f2, f3, f4, f5, f6, f7, f8, f9, f10⟩ := M3.msg
      obtain ⟨g0, g1, g2, g3, g4, g5, g6, g7, g8, g9, g10⟩ := K3.msg
      have hml : m.l.length ≤ 9223372036854775807 := by omega
      cases hm : m.may with
      | false =>
        obtain ⟨he1, he2⟩ := enc_no hm
        have HE := Lib.hid (encode_agg (c := c) hok N3 he1 he2)
        obtain ⟨ob, oe, ho1, ho2⟩ : ∃ ob oe, menc o = ob ∧ (if o.may then (0 : Int) else 4) = oe := ⟨_, _, rfl, rfl⟩
        have HO := Lib.hid (And.intro ho1 ho2)
        clear hm he1 he2 ho1 ho2
        go_wp2_with fail
        refine (Calls.mono HE.out ?_)
        rintro e w4 ⟨rfl, b4⟩
        clear HE
        have M4 := M3.kept b4
        have K4 := K3.kept b4
        have N4 := nums_step N3 b4
        have L4 := nums_step L3 b4
        have B4 := step_below B3 b4
        clear M3 K3 N3 L3 B3 b4 f0 f1 f2 f3 f4 f5 f6 f7 f8 f9 f10 g0 g1 g2 g3 g4 g5 g6 g7 g8 g9 g10
        obtain ⟨f0, f1, f2, f3, f4, f5, f6, f7, f8, f9, f10⟩ := M4.msg
        obtain ⟨g0, g1, g2, g3, g4, g5, g6, g7, g8, g9, g10⟩ := K4.msg
        go_wp2_with fail
        refine (encode_agg (c := c') hok' L4 HO.out.1 HO.out.2).mono ?_
        rintro e w5 ⟨rfl, b5⟩
        have M5 := M4.kept b5
        have K5 := K4.kept b5
        have N5 := nums_step N4 b5
        have L5 := nums_step L4 b5
        have B5 := step_below B4 b5
        clear M4 K4 N4 L4 B4 b5 f0 f1 f2 f3 f4 f5 f6 f7 f8 f9 f10 g0 g1 g2 g3 g4 g5 g6 g7 g8 g9 g10
        obtain ⟨f0, f1, f2, f3, f4, f5, f6, f7, f8, f9, f10⟩ := M5.msg
        obtain ⟨g0, g1, g2, g3, g4, g5, g6, g7, g8, g9, g10⟩ := K5.msg
        go_wp2_with fail
        go_ret
        exact ⟨rfl, B5⟩
      | true =>
        obtain ⟨he1, he2⟩ := enc_ok hm
        have HE := Lib.hid (encode_agg (c := c) hok N3 he1 he2)
        have hbl := Mg.bytes_length m
        have hbs := bytes_short hm
        have HM := Lib.hid hm
        have HBL := Lib.hid hbl
        clear hm he1 he2 hbl
        go_wp2_with fail
        refine (Calls.mono HE.out ?_)
        rintro e w4 ⟨rfl, b4⟩
        clear HE
        have M4 := M3.kept b4
        have K4 := K3.kept b4
        have N4 := nums_step N3 b4
        have L4 := nums_step L3 b4
        have B4 := step_below B3 b4
        clear M3 K3 N3 L3 B3 b4 f0 f1 f2 f3 f4 f5 f6 f7 f8 f9 f10 g0 g1 g2 g3 g4 g5 g6 g7 g8 g9 g10
        obtain ⟨f0, f1, f2, f3, f4, f5, f6, f7, f8, f9, f10⟩ := M4.msg
        obtain ⟨g0, g1, g2, g3, g4, g5, g6, g7, g8, g9, g10⟩ := K4.msg
        cases hmo : o.may with
        | false =>
          obtain ⟨he1, he2⟩ := enc_no hmo
          have HE := Lib.hid (encode_agg (c := c') hok' L4 he1 he2)
          clear hmo he1 he2
          have hlen : ((m.bytes.length : Int) != 69 + (m.s.length : Int) + 8 * (m.l.length : Int)) = false := by rw [HBL.out]; simp
          go_wp2_with fail
          refine (Calls.mono HE.out ?_)
          rintro e w5 ⟨rfl, b5⟩
          clear HE
          have M5 := M4.kept b5
          have K5 := K4.kept b5
          have N5 := nums_step N4 b5
          have L5 := nums_step L4 b5
          have B5 := step_below B4 b5
          clear M4 K4 N4 L4 B4 b5 f0 f1 f2 f3 f4 f5 f6 f7 f8 f9 f10 g0 g1 g2 g3 g4 g5 g6 g7 g8 g9 g10
          obtain ⟨f0, f1, f2, f3, f4, f5, f6, f7, f8, f9, f10⟩ := M5.msg
          obtain ⟨g0, g1, g2, g3, g4, g5, g6, g7, g8, g9, g10⟩ := K5.msg
          go_wp2_with fail
          go_ret
          exact ⟨rfl, B5⟩
        | true =>
          obtain ⟨he1, he2⟩ := enc_ok hmo
          have HE := Lib.hid (encode_agg (c := c') hok' L4 he1 he2)
          have hbo := bytes_short hmo
          have HSB := Lib.hid (bytes_same hok hok' HM.out hmo)
          have HBO := Lib.hid (Mg.bytes_length o)
          clear hmo he1 he2
          have hlen : ((m.bytes.length : Int) != 69 + (m.s.length : Int) + 8 * (m.l.length : Int)) = false := by rw [HBL.out]; simp
          by_cases hs : m.s.length = o.s.length
          · by_cases hl : m.l.length = o.l.length
            · have hs1 : ((m.s.length : Int) != (o.s.length : Int)) = false := by simp; omega
              have hl1 : ((m.l.length : Int) != (o.l.length : Int)) = false := by simp; omega
              have hb1 : ((m.bytes.length : Int) == (o.bytes.length : Int)) = true := by rw [HBL.out, HBO.out, hs, hl]; simp
              clear hs hl
              go_wp2_with fail
              refine (Calls.mono HE.out ?_)
              rintro e w5 ⟨rfl, b5⟩
              clear HE
              have M5 := M4.kept b5
              have K5 := K4.kept b5
              have N5 := nums_step N4 b5
              have L5 := nums_step L4 b5
              have B5 := step_below B4 b5
              clear M4 K4 N4 L4 B4 b5 f0 f1 f2 f3 f4 f5 f6 f7 f8 f9 f10 g0 g1 g2 g3 g4 g5 g6 g7 g8 g9 g10
              obtain ⟨f0, f1, f2, f3, f4, f5, f6, f7, f8, f9, f10⟩ := M5.msg
              obtain ⟨g0, g1, g2, g3, g4, g5, g6, g7, g8, g9, g10⟩ := K5.msg
              go_wp2_with fail
              refine (rsame_agg m o a a' c c' w5 N5 L5 hml _ rfl).mono ?_
              rintro e w6 ⟨rfl, b6⟩
              go_wp2_with fail
              go_ret
              exact ⟨ret_bool HSB.out, step_below B5 b6⟩
            · have hs1 : ((m.s.length : Int) != (o.s.length : Int)) = false := by simp; omega
              have hl1 : ((m.l.length : Int) != (o.l.length : Int)) = true := by simp; omega
              clear hs hl
              go_wp2_with fail
              refine (Calls.mono HE.out ?_)
              rintro e w5 ⟨rfl, b5⟩
              clear HE
              have M5 := M4.kept b5
              have K5 := K4.kept b5
              have N5 := nums_step N4 b5
              have L5 := nums_step L4 b5
              have B5 := step_below B4 b5
              clear M4 K4 N4 L4 B4 b5 f0 f1 f2 f3 f4 f5 f6 f7 f8 f9 f10 g0 g1 g2 g3 g4 g5 g6 g7 g8 g9 g10
              obtain ⟨f0, f1, f2, f3, f4, f5, f6, f7, f8, f9, f10⟩ := M5.msg
              obtain ⟨g0, g1, g2, g3, g4, g5, g6, g7, g8, g9, g10⟩ := K5.msg
              go_wp2_with fail
              go_ret
              exact ⟨rfl, B5⟩
          · have hs1 : ((m.s.length : Int) != (o.s.length : Int)) = true := by simp; omega
            clear hs
            go_wp2_with fail
            refine (Calls.mono HE.out ?_)
            rintro e w5 ⟨rfl, b5⟩
            clear HE
            have M5 := M4.kept b5
            have K5 := K4.kept b5
            have N5 := nums_step N4 b5
            have L5 := nums_step L4 b5
            have B5 := step_below B4 b5
            clear M4 K4 N4 L4 B4 b5 f0 f1 f2 f3 f4 f5 f6 f7 f8 f9 f10 g0 g1 g2 g3 g4 g5 g6 g7 g8 g9 g10
            obtain ⟨f0, f1, f2, f3, f4, f5, f6, f7, f8, f9, f10⟩ := M5.msg
            obtain ⟨g0, g1, g2, g3, g4, g5, g6, g7, g8, g9, g10⟩ := K5.msg
            go_wp2_with fail
            go_ret
            exact ⟨rfl, B5⟩
end Go.Proofs.Ytbibbndjnlnbiaa
