/-
  slices.Equal at numbers; msg.places; consistoryref14.Same.
-/
import Derived.Test.YtbibbndjnlnbiaaMsgMay3
namespace Go.Proofs.Ytbibbndjnlnbiaa
open Go.RowKit

set_option maxRecDepth 100000 in
set_option maxHeartbeats 400000 in
theorem equal_any (a a' : Option Addr) (c c' : Nat) (xs ys : List Int) (w : World) (ha : Nums .u64 w w.heap.size a xs) (ha' : Nums .u64 w w.heap.size a' ys) (hx : xs.length ≤ 9223372036854775807) (hy : ys.length ≤ 9223372036854775807) :
    Calls Try.prog 86 #[.slice a xs.length c, .slice a' ys.length c'] w (BoolPost (xs == ys) w) := by
  by_cases hl : xs.length = ys.length
  · have hd : ((xs.length : Int) != (ys.length : Int)) = false := by simp; omega
    have HL := Lib.hid hl
    clear hl
    go_enter Try.func86, Try.ntmps86
    go_wp2_with fail
    go_loopw [13] (fun v wr => ∃ j : Nat, j ≤ xs.length ∧ v = .int .i64 j ∧ (xs.take j == ys.take j) = true ∧ Below w.heap.size w wr) (fun v _ => xs.length - (intOf v).toNat)
    case atStart => exact ⟨0, Nat.zero_le _, rfl, by simp, Below.refl _ _⟩
    case round =>
      obtain ⟨j, hj, rfl, he, hB⟩ := hrel
      by_cases hlt : j < xs.length
      · have hlt2 : j < ys.length := by rw [← HL.out]; exact hlt
        obtain ⟨p, hp⟩ : ∃ p, xs[j]? = some p := ⟨_, List.getElem?_eq_getElem hlt⟩
        obtain ⟨q, hq⟩ : ∃ q, ys[j]? = some q := ⟨_, List.getElem?_eq_getElem hlt2⟩
        have hnext := take_beq' hp hq
        rw [he] at hnext
        rcases ha.kept hB (Nat.le_refl _) with h0 | ⟨b1, o1, rfl, hb1, hc1⟩
        · rw [h0] at hlt; simp at hlt
        rcases ha'.kept hB (Nat.le_refl _) with h0 | ⟨b2, o2, rfl, hb2, hc2⟩
        · rw [h0] at hlt2; simp at hlt2
        have e1 := hc1 j p hp
        have e2 := hc2 j q hq
        have h2I : (j : Int) < (ys.length : Int) := by omega
        have HN := Lib.hid hnext
        have HE := Lib.hid he
        have HP := Lib.hid hp
        have HQ := Lib.hid hq
        clear hnext hp hq hc1 hc2 he
        by_cases hpq : p = q
        · subst hpq
          go_wp2_with fail
          go_quiet (fail)
          go_wp2_with fail
          go_roundw
          case rel => exact ⟨j + 1, by omega, by go_num, by rw [HN.out]; simp, below_drewN hB _⟩
          case measure => simp [intOf]; omega
        · have hd2 : (p != q) = true := by simpa using hpq
          go_wp2_with fail
          go_quiet (fail)
          go_wp2_with fail
          go_ret
          refine ⟨ret_bool ?_, below_drewN hB _⟩
          symm
          rw [beq_eq_false_iff_ne]
          rintro rfl
          have := HP.out.symm.trans HQ.out
          injection this with this
          exact hpq this
      · have hje : j = xs.length := by omega
        subst hje
        have e3 : (xs == ys) = true := by rw [List.take_length, List.take_of_length_le (by rw [HL.out]; exact Nat.le_refl _)] at he; exact he
        have H3 := Lib.hid e3
        clear e3 he
        go_wp2_with fail
        go_ret
        exact ⟨ret_bool H3.out.symm, hB⟩
  · have hd : ((xs.length : Int) != (ys.length : Int)) = true := by simp; omega
    have hne : (xs == ys) = false := by
      rw [beq_eq_false_iff_ne]
      rintro rfl
      exact hl rfl
    rw [hne]
    clear hne
    go_enter Try.func86, Try.ntmps86
    go_wp2_with fail
    go_ret
    exact ⟨rfl, Below.refl _ _⟩

/-- The addresses of a message's whole numbers. -/
def placeCells (M : Nat) : Array Value := #[.pointer (some ⟨M, 1, none⟩), .pointer (some ⟨M, 2, none⟩), .pointer (some ⟨M, 3, none⟩), .pointer (some ⟨M, 4, none⟩), .pointer (some ⟨M, 5, none⟩), .pointer (some ⟨M, 6, none⟩), .pointer (some ⟨M, 7, none⟩), .pointer (some ⟨M, 8, none⟩)]
set_option maxRecDepth 100000 in
set_option maxHeartbeats 1000000 in
theorem places_any (M : Nat) (w : World) :
    Calls Try.prog 54 #[.pointer (some ⟨M, 0, none⟩)] w fun e w' => e = .returned (.slice (some ⟨w.heap.size, 0, none⟩) 8 8) ∧ Blk w' w.heap.size 82 (placeCells M) ∧ Below w.heap.size w w' := by
  go_enter Try.func54, Try.ntmps54
  go_wp2_with fail
  go_region
  go_wp2_with fail
  go_ret
  exact ⟨rfl, Blk.new w.drew 82 (placeCells M), ((Below.refl _ w).drew).alloc (Nat.le_refl _) _⟩
end Go.Proofs.Ytbibbndjnlnbiaa
