/-
  consistorylaw14.MsgNamed at the Kinds 2: the walk.
-/
import Derived.Test.YtbibbndjnlnbiaaNamed0
namespace Go.Proofs.Ytbibbndjnlnbiaa
open Go.RowKit

set_option maxRecDepth 100000 in
set_option maxHeartbeats 4000000 in
theorem named_2 (fr tt ht rd vl ep dl id : Int) (s : List UInt8) (l : List Int) (a : Option Addr) (c : Nat) (n : Int) (w : World) (hlg : largeB ⟨2, fr, tt, ht, rd, vl, ep, dl, id, s, l⟩ = false) (hmay : Mg.may ⟨2, fr, tt, ht, rd, vl, ep, dl, id, s, l⟩ = true) (hn : n ≠ 0) :
    Calls Try.prog 11 #[Mg.val ⟨2, fr, tt, ht, rd, vl, ep, dl, id, s, l⟩ a c, .int .i64 n] w (TruePost w) := by
  have HL := Lib.hid hlg
  have HM := Lib.hid hmay
  have HN := Lib.hid hn
  have hn0 : (n == 0) = false := by simpa using hn
  clear hlg hmay hn
  have HF4 : Hid (Mg.may ⟨2, fr, tt, ht, rd, vl, n, dl, id, s, l⟩ = false) := Lib.hid (by simp [Mg.may, fClient, fVote, fDealt, fText, fSome, fNums, win, HN.out])
  have HF5 : Hid (Mg.may ⟨2, fr, tt, ht, rd, vl, ep, n, id, s, l⟩ = false) := Lib.hid (by simp [Mg.may, fClient, fVote, fDealt, fText, fSome, fNums, win, HN.out])
  have HF6 : Hid (Mg.may ⟨2, fr, tt, ht, rd, vl, ep, dl, n, s, l⟩ = false) := Lib.hid (by simp [Mg.may, fClient, fVote, fDealt, fText, fSome, fNums, win, HN.out])
  have HF8 : Hid (Mg.may ⟨2, fr, tt, ht, rd, vl, ep, dl, id, s, [n]⟩ = false) := Lib.hid (by simp [Mg.may, fClient, fVote, fDealt, fText, fSome, fNums, win])
  have M0 := boxed_blk w ⟨2, fr, tt, ht, rd, vl, ep, dl, id, s, l⟩ a c
  have B0 := boxed_below (Below.refl w.heap.size w) (Nat.le_refl _) ⟨2, fr, tt, ht, rd, vl, ep, dl, id, s, l⟩ a c
  obtain ⟨w0, hw0⟩ : ∃ w0, w0 = boxed w ⟨2, fr, tt, ht, rd, vl, ep, dl, id, s, l⟩ a c := ⟨_, rfl⟩
  rw [← hw0] at M0 B0
  unfold boxed at hw0
  dsimp only at hw0
  have HW := Lib.hid hw0
  clear hw0
  unfold Mg.val
  dsimp only
  go_enter Try.func11, Try.ntmps11
  go_wp2_with fail
  rw [← HW.out]
  clear HW
  refine (works_any w0).mono ?_
  rintro e w1 ⟨rfl, b1⟩
  have M1 := M0.kept b1
  have B1 := step_below B0 b1
  clear M0 B0 b1
  obtain ⟨f0, f1, f2, f3, f4, f5, f6, f7, f8, f9, f10⟩ := M1.msg
  dsimp only at f0 f1 f2 f3 f4 f5 f6 f7 f8 f9 f10
  go_wp2_with fail
  refine (large_agg ⟨2, fr, tt, ht, rd, vl, ep, dl, id, s, l⟩ a c w1 false HL.out).mono ?_
  rintro e w2 ⟨rfl, b2⟩
  have M2 := M1.kept b2
  have B2 := step_below B1 b2
  clear M1 B1 b2 f0 f1 f2 f3 f4 f5 f6 f7 f8 f9 f10
  obtain ⟨f0, f1, f2, f3, f4, f5, f6, f7, f8, f9, f10⟩ := M2.msg
  dsimp only at f0 f1 f2 f3 f4 f5 f6 f7 f8 f9 f10
  go_wp2_with fail
  refine (may_agg ⟨2, fr, tt, ht, rd, vl, ep, dl, id, s, l⟩ a c w2 ⟨by simp, by simp⟩ true HM.out).mono ?_
  rintro e w3 ⟨rfl, b3⟩
  have M3 := M2.kept b3
  have B3 := step_below B2 b3
  clear M2 B2 b3 f0 f1 f2 f3 f4 f5 f6 f7 f8 f9 f10
  obtain ⟨f0, f1, f2, f3, f4, f5, f6, f7, f8, f9, f10⟩ := M3.msg
  dsimp only at f0 f1 f2 f3 f4 f5 f6 f7 f8 f9 f10
  go_upto_region 13 with fail
  have ML := (Blk.new w3 32 #[.int .u8 2, .int .i64 n, .int .i64 tt, .int .i64 ht, .int .i64 rd, .int .i64 vl, .int .i64 ep, .int .i64 dl, .int .i64 id, .string ⟨s.toArray⟩, .slice a l.length c, .int .u8 2, .int .i64 fr, .int .i64 tt, .int .i64 n, .int .i64 rd, .int .i64 vl, .int .i64 ep, .int .i64 dl, .int .i64 id, .string ⟨s.toArray⟩, .slice a l.length c, .int .u8 2, .int .i64 fr, .int .i64 tt, .int .i64 ht, .int .i64 n, .int .i64 vl, .int .i64 ep, .int .i64 dl, .int .i64 id, .string ⟨s.toArray⟩, .slice a l.length c, .int .u8 2, .int .i64 fr, .int .i64 tt, .int .i64 ht, .int .i64 rd, .int .i64 n, .int .i64 ep, .int .i64 dl, .int .i64 id, .string ⟨s.toArray⟩, .slice a l.length c, .int .u8 2, .int .i64 fr, .int .i64 tt, .int .i64 ht, .int .i64 rd, .int .i64 vl, .int .i64 n, .int .i64 dl, .int .i64 id, .string ⟨s.toArray⟩, .slice a l.length c, .int .u8 2, .int .i64 fr, .int .i64 tt, .int .i64 ht, .int .i64 rd, .int .i64 vl, .int .i64 ep, .int .i64 n, .int .i64 id, .string ⟨s.toArray⟩, .slice a l.length c, .int .u8 2, .int .i64 fr, .int .i64 tt, .int .i64 ht, .int .i64 rd, .int .i64 vl, .int .i64 ep, .int .i64 dl, .int .i64 n, .string ⟨s.toArray⟩, .slice a l.length c, .int .u8 2, .int .i64 fr, .int .i64 tt, .int .i64 ht, .int .i64 rd, .int .i64 vl, .int .i64 ep, .int .i64 dl, .int .i64 id, .string ⟨#[120]⟩, .slice a l.length c, .int .u8 2, .int .i64 fr, .int .i64 tt, .int .i64 ht, .int .i64 rd, .int .i64 vl, .int .i64 ep, .int .i64 dl, .int .i64 id, .string ⟨s.toArray⟩, .slice (some ⟨w3.heap.size + 1, 0, none⟩) 1 1]).alloc (.cells #[.int .u64 (IntKind.u64.wrap n)] 56)
  have M4 := (M3.alloc (.cells #[.int .u8 2, .int .i64 n, .int .i64 tt, .int .i64 ht, .int .i64 rd, .int .i64 vl, .int .i64 ep, .int .i64 dl, .int .i64 id, .string ⟨s.toArray⟩, .slice a l.length c, .int .u8 2, .int .i64 fr, .int .i64 tt, .int .i64 n, .int .i64 rd, .int .i64 vl, .int .i64 ep, .int .i64 dl, .int .i64 id, .string ⟨s.toArray⟩, .slice a l.length c, .int .u8 2, .int .i64 fr, .int .i64 tt, .int .i64 ht, .int .i64 n, .int .i64 vl, .int .i64 ep, .int .i64 dl, .int .i64 id, .string ⟨s.toArray⟩, .slice a l.length c, .int .u8 2, .int .i64 fr, .int .i64 tt, .int .i64 ht, .int .i64 rd, .int .i64 n, .int .i64 ep, .int .i64 dl, .int .i64 id, .string ⟨s.toArray⟩, .slice a l.length c, .int .u8 2, .int .i64 fr, .int .i64 tt, .int .i64 ht, .int .i64 rd, .int .i64 vl, .int .i64 n, .int .i64 dl, .int .i64 id, .string ⟨s.toArray⟩, .slice a l.length c, .int .u8 2, .int .i64 fr, .int .i64 tt, .int .i64 ht, .int .i64 rd, .int .i64 vl, .int .i64 ep, .int .i64 n, .int .i64 id, .string ⟨s.toArray⟩, .slice a l.length c, .int .u8 2, .int .i64 fr, .int .i64 tt, .int .i64 ht, .int .i64 rd, .int .i64 vl, .int .i64 ep, .int .i64 dl, .int .i64 n, .string ⟨s.toArray⟩, .slice a l.length c, .int .u8 2, .int .i64 fr, .int .i64 tt, .int .i64 ht, .int .i64 rd, .int .i64 vl, .int .i64 ep, .int .i64 dl, .int .i64 id, .string ⟨#[120]⟩, .slice a l.length c, .int .u8 2, .int .i64 fr, .int .i64 tt, .int .i64 ht, .int .i64 rd, .int .i64 vl, .int .i64 ep, .int .i64 dl, .int .i64 id, .string ⟨s.toArray⟩, .slice (some ⟨w3.heap.size + 1, 0, none⟩) 1 1] 32)).alloc (.cells #[.int .u64 (IntKind.u64.wrap n)] 56)
  have B4 := (B3.alloc B3.size (.cells #[.int .u8 2, .int .i64 n, .int .i64 tt, .int .i64 ht, .int .i64 rd, .int .i64 vl, .int .i64 ep, .int .i64 dl, .int .i64 id, .string ⟨s.toArray⟩, .slice a l.length c, .int .u8 2, .int .i64 fr, .int .i64 tt, .int .i64 n, .int .i64 rd, .int .i64 vl, .int .i64 ep, .int .i64 dl, .int .i64 id, .string ⟨s.toArray⟩, .slice a l.length c, .int .u8 2, .int .i64 fr, .int .i64 tt, .int .i64 ht, .int .i64 n, .int .i64 vl, .int .i64 ep, .int .i64 dl, .int .i64 id, .string ⟨s.toArray⟩, .slice a l.length c, .int .u8 2, .int .i64 fr, .int .i64 tt, .int .i64 ht, .int .i64 rd, .int .i64 n, .int .i64 ep, .int .i64 dl, .int .i64 id, .string ⟨s.toArray⟩, .slice a l.length c, .int .u8 2, .int .i64 fr, .int .i64 tt, .int .i64 ht, .int .i64 rd, .int .i64 vl, .int .i64 n, .int .i64 dl, .int .i64 id, .string ⟨s.toArray⟩, .slice a l.length c, .int .u8 2, .int .i64 fr, .int .i64 tt, .int .i64 ht, .int .i64 rd, .int .i64 vl, .int .i64 ep, .int .i64 n, .int .i64 id, .string ⟨s.toArray⟩, .slice a l.length c, .int .u8 2, .int .i64 fr, .int .i64 tt, .int .i64 ht, .int .i64 rd, .int .i64 vl, .int .i64 ep, .int .i64 dl, .int .i64 n, .string ⟨s.toArray⟩, .slice a l.length c, .int .u8 2, .int .i64 fr, .int .i64 tt, .int .i64 ht, .int .i64 rd, .int .i64 vl, .int .i64 ep, .int .i64 dl, .int .i64 id, .string ⟨#[120]⟩, .slice a l.length c, .int .u8 2, .int .i64 fr, .int .i64 tt, .int .i64 ht, .int .i64 rd, .int .i64 vl, .int .i64 ep, .int .i64 dl, .int .i64 id, .string ⟨s.toArray⟩, .slice (some ⟨w3.heap.size + 1, 0, none⟩) 1 1] 32)).alloc (by have := B3.size; simp only [asz]; omega) (.cells #[.int .u64 (IntKind.u64.wrap n)] 56)
  obtain ⟨w4, hw4⟩ : ∃ w4, w4 = (w3.alloc (.cells #[.int .u8 2, .int .i64 n, .int .i64 tt, .int .i64 ht, .int .i64 rd, .int .i64 vl, .int .i64 ep, .int .i64 dl, .int .i64 id, .string ⟨s.toArray⟩, .slice a l.length c, .int .u8 2, .int .i64 fr, .int .i64 tt, .int .i64 n, .int .i64 rd, .int .i64 vl, .int .i64 ep, .int .i64 dl, .int .i64 id, .string ⟨s.toArray⟩, .slice a l.length c, .int .u8 2, .int .i64 fr, .int .i64 tt, .int .i64 ht, .int .i64 n, .int .i64 vl, .int .i64 ep, .int .i64 dl, .int .i64 id, .string ⟨s.toArray⟩, .slice a l.length c, .int .u8 2, .int .i64 fr, .int .i64 tt, .int .i64 ht, .int .i64 rd, .int .i64 n, .int .i64 ep, .int .i64 dl, .int .i64 id, .string ⟨s.toArray⟩, .slice a l.length c, .int .u8 2, .int .i64 fr, .int .i64 tt, .int .i64 ht, .int .i64 rd, .int .i64 vl, .int .i64 n, .int .i64 dl, .int .i64 id, .string ⟨s.toArray⟩, .slice a l.length c, .int .u8 2, .int .i64 fr, .int .i64 tt, .int .i64 ht, .int .i64 rd, .int .i64 vl, .int .i64 ep, .int .i64 n, .int .i64 id, .string ⟨s.toArray⟩, .slice a l.length c, .int .u8 2, .int .i64 fr, .int .i64 tt, .int .i64 ht, .int .i64 rd, .int .i64 vl, .int .i64 ep, .int .i64 dl, .int .i64 n, .string ⟨s.toArray⟩, .slice a l.length c, .int .u8 2, .int .i64 fr, .int .i64 tt, .int .i64 ht, .int .i64 rd, .int .i64 vl, .int .i64 ep, .int .i64 dl, .int .i64 id, .string ⟨#[120]⟩, .slice a l.length c, .int .u8 2, .int .i64 fr, .int .i64 tt, .int .i64 ht, .int .i64 rd, .int .i64 vl, .int .i64 ep, .int .i64 dl, .int .i64 id, .string ⟨s.toArray⟩, .slice (some ⟨w3.heap.size + 1, 0, none⟩) 1 1] 32)).alloc (.cells #[.int .u64 (IntKind.u64.wrap n)] 56) := ⟨_, rfl⟩
  rw [← hw4] at ML M4 B4
  rw [← hw4]
  have hk0 : w4.cell? ⟨w.heap.size, 0, none⟩ = some (.int .u8 2) := M4.cell 0
  clear hw4 M3 B3 f0 f1 f2 f3 f4 f5 f6 f7 f8 f9 f10
  generalize w3.heap.size = L at *
  go_upto_region 16 with fail
  have NB := Blk.new w4 4 #[.bool true, .bool true, .bool true, .bool true, .bool false, .bool false, .bool false, .bool true, .bool false]
  have ML5 := ML.alloc (.cells #[.bool true, .bool true, .bool true, .bool true, .bool false, .bool false, .bool false, .bool true, .bool false] 4)
  have B5 := B4.alloc B4.size (.cells #[.bool true, .bool true, .bool true, .bool true, .bool false, .bool false, .bool false, .bool true, .bool false] 4)
  obtain ⟨w5, hw5⟩ : ∃ w5, w5 = w4.alloc (.cells #[.bool true, .bool true, .bool true, .bool true, .bool false, .bool false, .bool false, .bool true, .bool false] 4) := ⟨_, rfl⟩
  rw [← hw5] at NB ML5 B5
  rw [← hw5]
  clear hw5 ML M4 B4 hk0
  generalize w4.heap.size = G at *
  go_wp2_with fail
  go_loopw [9] (fun v wr => ∃ j : Nat, j ≤ 9 ∧ v = .int .i64 j ∧ Below w5.heap.size w5 wr) (fun v _ => 9 - (intOf v).toNat)
  case atStart => exact ⟨0, Nat.zero_le _, rfl, Below.refl _ _⟩
  case round =>
    obtain ⟨j, hj, rfl, hB⟩ := hrel
    have ML' := ML5.kept hB
    have NB' := NB.kept hB
    have hBw := B5.trans (hB.mono B5.size)
    clear ML5 NB B5
    by_cases hlt : j < 9
    · have hc : j = 0 ∨ j = 1 ∨ j = 2 ∨ j = 3 ∨ j = 4 ∨ j = 5 ∨ j = 6 ∨ j = 7 ∨ j = 8 := by omega
      clear hlt hj
      rcases hc with rfl | rfl | rfl | rfl | rfl | rfl | rfl | rfl | rfl
      · have nb : wr.cell? ⟨G, 0, none⟩ = some (.bool true) := NB'.cell 0
        clear ML' NB'
        go_wp2_with fail
        go_roundw
        case rel => exact ⟨1, by omega, by go_num, hB⟩
        case measure => simp [intOf]
      · have nb : wr.cell? ⟨G, 1, none⟩ = some (.bool true) := NB'.cell 1
        clear ML' NB'
        go_wp2_with fail
        go_roundw
        case rel => exact ⟨2, by omega, by go_num, hB⟩
        case measure => simp [intOf]
      · have nb : wr.cell? ⟨G, 2, none⟩ = some (.bool true) := NB'.cell 2
        clear ML' NB'
        go_wp2_with fail
        go_roundw
        case rel => exact ⟨3, by omega, by go_num, hB⟩
        case measure => simp [intOf]
      · have nb : wr.cell? ⟨G, 3, none⟩ = some (.bool true) := NB'.cell 3
        clear ML' NB'
        go_wp2_with fail
        go_roundw
        case rel => exact ⟨4, by omega, by go_num, hB⟩
        case measure => simp [intOf]
      · have nb : wr.cell? ⟨G, 4, none⟩ = some (.bool false) := NB'.cell 4
        have x0 : wr.cell? ⟨L, 44, none⟩ = some (.int .u8 2) := ML'.cell 44
        have x1 : wr.cell? ⟨L, 45, none⟩ = some (.int .i64 fr) := ML'.cell 45
        have x2 : wr.cell? ⟨L, 46, none⟩ = some (.int .i64 tt) := ML'.cell 46
        have x3 : wr.cell? ⟨L, 47, none⟩ = some (.int .i64 ht) := ML'.cell 47
        have x4 : wr.cell? ⟨L, 48, none⟩ = some (.int .i64 rd) := ML'.cell 48
        have x5 : wr.cell? ⟨L, 49, none⟩ = some (.int .i64 vl) := ML'.cell 49
        have x6 : wr.cell? ⟨L, 50, none⟩ = some (.int .i64 n) := ML'.cell 50
        have x7 : wr.cell? ⟨L, 51, none⟩ = some (.int .i64 dl) := ML'.cell 51
        have x8 : wr.cell? ⟨L, 52, none⟩ = some (.int .i64 id) := ML'.cell 52
        have x9 : wr.cell? ⟨L, 53, none⟩ = some (.string ⟨s.toArray⟩) := ML'.cell 53
        have x10 : wr.cell? ⟨L, 54, none⟩ = some (.slice a l.length c) := ML'.cell 54
        clear ML' NB'
        go_wp2_with fail
        refine (may_agg ⟨2, fr, tt, ht, rd, vl, n, dl, id, s, l⟩ a c wr ⟨by simp, by simp⟩ false HF4.out).mono ?_
        rintro e w6 ⟨rfl, b6⟩
        go_wp2_with fail
        go_roundw
        case rel => exact ⟨5, by omega, by go_num, step_below hB b6⟩
        case measure => simp [intOf]
      · have nb : wr.cell? ⟨G, 5, none⟩ = some (.bool false) := NB'.cell 5
        have x0 : wr.cell? ⟨L, 55, none⟩ = some (.int .u8 2) := ML'.cell 55
        have x1 : wr.cell? ⟨L, 56, none⟩ = some (.int .i64 fr) := ML'.cell 56
        have x2 : wr.cell? ⟨L, 57, none⟩ = some (.int .i64 tt) := ML'.cell 57
        have x3 : wr.cell? ⟨L, 58, none⟩ = some (.int .i64 ht) := ML'.cell 58
        have x4 : wr.cell? ⟨L, 59, none⟩ = some (.int .i64 rd) := ML'.cell 59
        have x5 : wr.cell? ⟨L, 60, none⟩ = some (.int .i64 vl) := ML'.cell 60
        have x6 : wr.cell? ⟨L, 61, none⟩ = some (.int .i64 ep) := ML'.cell 61
        have x7 : wr.cell? ⟨L, 62, none⟩ = some (.int .i64 n) := ML'.cell 62
        have x8 : wr.cell? ⟨L, 63, none⟩ = some (.int .i64 id) := ML'.cell 63
        have x9 : wr.cell? ⟨L, 64, none⟩ = some (.string ⟨s.toArray⟩) := ML'.cell 64
        have x10 : wr.cell? ⟨L, 65, none⟩ = some (.slice a l.length c) := ML'.cell 65
        clear ML' NB'
        go_wp2_with fail
        refine (may_agg ⟨2, fr, tt, ht, rd, vl, ep, n, id, s, l⟩ a c wr ⟨by simp, by simp⟩ false HF5.out).mono ?_
        rintro e w6 ⟨rfl, b6⟩
        go_wp2_with fail
        go_roundw
        case rel => exact ⟨6, by omega, by go_num, step_below hB b6⟩
        case measure => simp [intOf]
      · have nb : wr.cell? ⟨G, 6, none⟩ = some (.bool false) := NB'.cell 6
        have x0 : wr.cell? ⟨L, 66, none⟩ = some (.int .u8 2) := ML'.cell 66
        have x1 : wr.cell? ⟨L, 67, none⟩ = some (.int .i64 fr) := ML'.cell 67
        have x2 : wr.cell? ⟨L, 68, none⟩ = some (.int .i64 tt) := ML'.cell 68
        have x3 : wr.cell? ⟨L, 69, none⟩ = some (.int .i64 ht) := ML'.cell 69
        have x4 : wr.cell? ⟨L, 70, none⟩ = some (.int .i64 rd) := ML'.cell 70
        have x5 : wr.cell? ⟨L, 71, none⟩ = some (.int .i64 vl) := ML'.cell 71
        have x6 : wr.cell? ⟨L, 72, none⟩ = some (.int .i64 ep) := ML'.cell 72
        have x7 : wr.cell? ⟨L, 73, none⟩ = some (.int .i64 dl) := ML'.cell 73
        have x8 : wr.cell? ⟨L, 74, none⟩ = some (.int .i64 n) := ML'.cell 74
        have x9 : wr.cell? ⟨L, 75, none⟩ = some (.string ⟨s.toArray⟩) := ML'.cell 75
        have x10 : wr.cell? ⟨L, 76, none⟩ = some (.slice a l.length c) := ML'.cell 76
        clear ML' NB'
        go_wp2_with fail
        refine (may_agg ⟨2, fr, tt, ht, rd, vl, ep, dl, n, s, l⟩ a c wr ⟨by simp, by simp⟩ false HF6.out).mono ?_
        rintro e w6 ⟨rfl, b6⟩
        go_wp2_with fail
        go_roundw
        case rel => exact ⟨7, by omega, by go_num, step_below hB b6⟩
        case measure => simp [intOf]
      · have nb : wr.cell? ⟨G, 7, none⟩ = some (.bool true) := NB'.cell 7
        clear ML' NB'
        go_wp2_with fail
        go_roundw
        case rel => exact ⟨8, by omega, by go_num, hB⟩
        case measure => simp [intOf]
      · have nb : wr.cell? ⟨G, 8, none⟩ = some (.bool false) := NB'.cell 8
        have x0 : wr.cell? ⟨L, 88, none⟩ = some (.int .u8 2) := ML'.cell 88
        have x1 : wr.cell? ⟨L, 89, none⟩ = some (.int .i64 fr) := ML'.cell 89
        have x2 : wr.cell? ⟨L, 90, none⟩ = some (.int .i64 tt) := ML'.cell 90
        have x3 : wr.cell? ⟨L, 91, none⟩ = some (.int .i64 ht) := ML'.cell 91
        have x4 : wr.cell? ⟨L, 92, none⟩ = some (.int .i64 rd) := ML'.cell 92
        have x5 : wr.cell? ⟨L, 93, none⟩ = some (.int .i64 vl) := ML'.cell 93
        have x6 : wr.cell? ⟨L, 94, none⟩ = some (.int .i64 ep) := ML'.cell 94
        have x7 : wr.cell? ⟨L, 95, none⟩ = some (.int .i64 dl) := ML'.cell 95
        have x8 : wr.cell? ⟨L, 96, none⟩ = some (.int .i64 id) := ML'.cell 96
        have x9 : wr.cell? ⟨L, 97, none⟩ = some (.string ⟨s.toArray⟩) := ML'.cell 97
        have x10 : wr.cell? ⟨L, 98, none⟩ = some (.slice (some ⟨L + 1, 0, none⟩) 1 1) := ML'.cell 98
        clear ML' NB'
        go_wp2_with fail
        refine (may_agg ⟨2, fr, tt, ht, rd, vl, ep, dl, id, s, [n]⟩ (some ⟨L + 1, 0, none⟩) 1 wr ⟨by simp, by simp⟩ false HF8.out).mono ?_
        rintro e w6 ⟨rfl, b6⟩
        go_wp2_with fail
        go_roundw
        case rel => exact ⟨9, by omega, by go_num, step_below hB b6⟩
        case measure => simp [intOf]
    · have hje : j = 9 := by omega
      subst hje
      go_wp2_with fail
      go_ret
      exact ⟨rfl, hBw⟩

end Go.Proofs.Ytbibbndjnlnbiaa
