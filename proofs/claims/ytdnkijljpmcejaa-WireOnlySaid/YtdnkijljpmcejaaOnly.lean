/-
  consistorylaw09.WireOnly: the walk.
-/
import Derived.Test.YtdnkijljpmcejaaBack
namespace Go.Proofs.Ytdnkijljpmcejaa
open Go.RowKit

theorem only_eq {sl acc r b r' : List UInt8} (h : acc ++ r = sl) (h2 : b ++ r' = r) : sl.take (sl.length - r'.length) = acc ++ b := by
  subst h2
  subst h
  rw [← List.append_assoc]
  exact List.take_left' (by simp; omega)

set_option maxRecDepth 100000 in
set_option maxHeartbeats 400000 in
theorem only_any (sl : List UInt8) (a : Option Addr) (c : Nat) (ts : List Th) (w : World) (h : Things w w.heap.size a ts) (hf : ∀ t ∈ ts, Fit t) (hl : ts.length ≤ 9223372036854775807) (hsl : sl.length ≤ 9223372036854775807) :
    Calls Try.prog 10 #[.string ⟨sl.toArray⟩, .slice a ts.length c] w (TruePost w) := by
  by_cases g1 : 9000 < sl.length
  · have e1 : decide ((9000 : Int) < sl.length) = true := decide_eq_true (by omega)
    go_enter Try.func10, Try.ntmps10
    go_wp2_with fail
    refine (awake_any w).mono ?_
    rintro e w2 ⟨rfl, b2⟩
    go_wp2_with fail
    go_ret
    exact ⟨rfl, b2⟩
  have e1 : decide ((9000 : Int) < sl.length) = false := decide_eq_false (by omega)
  by_cases g2 : 200 < ts.length
  · have e2 : decide ((200 : Int) < ts.length) = true := decide_eq_true (by omega)
    go_enter Try.func10, Try.ntmps10
    go_wp2_with fail
    refine (awake_any w).mono ?_
    rintro e w2 ⟨rfl, b2⟩
    go_wp2_with fail
    go_ret
    exact ⟨rfl, b2⟩
  have e2 : decide ((200 : Int) < ts.length) = false := decide_eq_false (by omega)
  go_enter Try.func10, Try.ntmps10
  go_wp2_with fail
  refine (awake_any w).mono ?_
  rintro e w2 ⟨rfl, b2⟩
  go_wp2_with fail
  refine (open_any _ _).mono ?_
  rintro e w3 ⟨rfl, r3, b3⟩
  have B3 := step_below b2 b3
  have hg : w.heap.size ≤ w2.heap.size := b2.size
  generalize w2.heap.size = g at r3 hg
  clear b3 b2
  go_wp2_with fail
  go_loopw [6, 7] (fun u v wr => ∃ (j : Nat) (acc r : List UInt8), j ≤ ts.length ∧ v = .int .i64 j ∧ u = .string ⟨acc.toArray⟩ ∧ acc ++ r = sl ∧ RdAt g ⟨r, 0⟩ wr ∧ Below w.heap.size w wr) (fun _ v _ => ts.length - (intOf v).toNat)
  case atStart =>
    exact ⟨0, [], sl, Nat.zero_le _, rfl, rfl, rfl, r3, B3⟩
  case round =>
    clear B3 r3
    obtain ⟨j, acc, r, hj, rfl, rfl, hacc, hr, hB⟩ := hrel
    by_cases hlt : j < ts.length
    · obtain ⟨t, htj⟩ : ∃ t, ts[j]? = some t := ⟨_, List.getElem?_eq_getElem hlt⟩
      obtain ⟨tok, hts, htl⟩ := hf t (List.mem_of_getElem? htj)
      have hon := got_only' t r tok.k
      have hxs := got_short t ⟨r, 0⟩
      have hl1 := congrArg List.length hacc
      simp only [List.length_append] at hl1
      rcases h.kept hB (Nat.le_refl _) with h0 | ⟨b, o, rfl, hbl, hc⟩
      · rw [h0] at hlt; simp at hlt
      obtain ⟨la, lc, hnums, c0, c1, c2, c3, c4⟩ := hc j t htj
      clear htj hc
      have HA := Lib.hid hacc
      clear hacc
      go_wp2_with fail
      refine (got_any t la lc g _ _ tok.k.1 hr).mono ?_
      rintro e w4 ⟨xa, xc, rfl, hxn, hr4, o4⟩
      have B4 := step_only hB o4 hg
      rcases hon with ⟨he, hxok, hxb⟩ | ⟨he, hx⟩
      · generalize t.got ⟨r, 0⟩ = gg at hr4 hxn he hxok hxb hxs
        obtain ⟨x, r', e'⟩ := gg
        dsimp only at hr4 hxn he hxok hxb hxs
        subst he
        have HE := Lib.hid (only_eq HA.out hxb)
        have hl2 := congrArg List.length hxb
        simp only [List.length_append] at hl2
        have HX := Lib.hid hxb
        clear hxb
        unfold Th.val
        dsimp only
        have BW : Below w4.heap.size w4 (w4.alloc (.cells #[.int .u8 x.k, .int .u64 x.n, .string ⟨x.s.toArray⟩, .slice xa x.l.length xc, .int .i64 x.most] 34)) := (Below.refl _ _).alloc (Nat.le_refl _) _
        go_wp2_with fail
        refine (put_thing x xa xc acc _ hxok ((hxn.kept BW (Nat.le_refl _)).more BW.size) (by omega) (by omega) (by omega)).mono ?_
        rintro e w5 ⟨rfl, b5⟩
        have hr5 := Blk.kept (Blk.alloc hr4 (.cells #[.int .u8 x.k, .int .u64 x.n, .string ⟨x.s.toArray⟩, .slice xa x.l.length xc, .int .i64 x.most] 34)) b5
        go_wp2_with fail
        refine (left_any g ⟨r', 0⟩ _ hr5).mono ?_
        rintro e w6 ⟨rfl, rfl⟩
        have hcmp : (!acc ++ x.bytes == sl.take (sl.length - r'.length)) = false := by rw [HE.out]; simp
        go_wp2_with fail
        go_roundw
        case rel =>
          exact ⟨j + 1, acc ++ x.bytes, r', by omega, by go_num, rfl, by rw [List.append_assoc, HX.out, HA.out], hr5, step_below (B4.trans (BW.mono B4.size)) b5⟩
        case measure => simp [intOf]; omega
      · rw [hx] at hr4 ⊢
        generalize (t.got ⟨r, 0⟩).2.e = e' at he hr4
        dsimp only at hr4
        unfold Th.val
        dsimp only
        have he' : (e' != 0) = true := by simpa using he
        go_wp2_with fail
        refine (left_any g ⟨[], e'⟩ _ (Blk.alloc hr4 _)).mono ?_
        rintro e w6 ⟨rfl, rfl⟩
        go_wp2_with fail
        go_ret
        exact ⟨rfl, B4.alloc B4.size _⟩
    · have hje : j = ts.length := by omega
      subst hje
      go_wp2_with fail
      refine (wrong_any g ⟨r, 0⟩ _ hr).mono ?_
      rintro e w6 ⟨rfl, rfl⟩
      go_wp2_with fail
      go_ret
      exact ⟨rfl, hB⟩
end Go.Proofs.Ytdnkijljpmcejaa
