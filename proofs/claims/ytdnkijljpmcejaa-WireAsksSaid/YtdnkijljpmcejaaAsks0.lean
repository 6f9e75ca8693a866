/-
  Two readers side by side; Numbers.
-/
import Derived.Test.YtdnkijljpmcejaaRefR3
import Derived.Deep.CutBlock
import Derived.Deep.CutRange
import Derived.Deep.DeepCutAuto
namespace Go.Proofs.Ytdnkijljpmcejaa
open Go.RowKit

theorem take_beq' {a b : List Int} {j : Nat} {p q : Int} (hp : a[j]? = some p) (hq : b[j]? = some q) : (a.take (j + 1) == b.take (j + 1)) = ((a.take j == b.take j) && (p == q)) := by
  rw [List.take_add_one, List.take_add_one, hp, hq]
  have e : (a.take j ++ [p] = b.take j ++ [q]) ↔ (a.take j = b.take j ∧ p = q) :=
    ⟨fun h => by have := List.append_inj' h rfl; simpa using this, fun ⟨h1, h2⟩ => by rw [h1, h2]⟩
  rw [Bool.eq_iff_iff]
  simp only [Option.toList_some, beq_iff_eq, Bool.and_eq_true]
  exact e

set_option maxRecDepth 100000 in
set_option maxHeartbeats 400000 in
theorem numbers_any (a a' : Option Addr) (c c' : Nat) (xs ys : List Int) (w : World) (ha : Nums .u64 w w.heap.size a xs) (ha' : Nums .u64 w w.heap.size a' ys) (hx : xs.length ≤ 9223372036854775807) (hy : ys.length ≤ 9223372036854775807) :
    Calls Try.prog 53 #[.slice a xs.length c, .slice a' ys.length c'] w (BoolPost (xs == ys) w) := by
  by_cases hl : xs.length = ys.length
  · have hd : ((xs.length : Int) != (ys.length : Int)) = false := by simp; omega
    have HL := Lib.hid hl
    clear hl
    go_enter Try.func53, Try.ntmps53
    go_wp2_with fail
    go_loopw [5] (fun v wr => ∃ j : Nat, j ≤ xs.length ∧ v = .int .i64 j ∧ (xs.take j == ys.take j) = true ∧ Below w.heap.size w wr) (fun v _ => xs.length - (intOf v).toNat)
    case atStart => exact ⟨0, Nat.zero_le _, rfl, by simp, Below.refl _ _⟩
    case round =>
      obtain ⟨j, hj, rfl, he, hB⟩ := hrel
      by_cases hlt : j < xs.length
      · have hlt2 : j < ys.length := by rw [← HL.out]; exact hlt
        obtain ⟨p, hp⟩ : ∃ p, xs[j]? = some p := ⟨_, List.getElem?_eq_getElem hlt⟩
        obtain ⟨q, hq⟩ : ∃ q, ys[j]? = some q := ⟨_, List.getElem?_eq_getElem hlt2⟩
        have hnext := take_beq' hp hq
        rw [he] at hnext
        rcases ha.kept hB (Nat.le_refl _) with h0 | ⟨b1, o1, rfl, hb1, hc1⟩
        · rw [h0] at hlt; simp at hlt
        rcases ha'.kept hB (Nat.le_refl _) with h0 | ⟨b2, o2, rfl, hb2, hc2⟩
        · rw [h0] at hlt2; simp at hlt2
        have e1 := hc1 j p hp
        have e2 := hc2 j q hq
        have h2I : (j : Int) < (ys.length : Int) := by omega
        have HN := Lib.hid hnext
        have HE := Lib.hid he
        have HP := Lib.hid hp
        have HQ := Lib.hid hq
        clear hnext hp hq hc1 hc2 he
        by_cases hpq : p = q
        · subst hpq
          go_wp2_with fail
          go_quiet (fail)
          go_wp2_with fail
          go_roundw
          case rel => exact ⟨j + 1, by omega, by go_num, by rw [HN.out]; simp, below_drewN hB _⟩
          case measure => simp [intOf]; omega
        · have hd2 : (p != q) = true := by simpa using hpq
          go_wp2_with fail
          go_quiet (fail)
          go_wp2_with fail
          go_ret
          refine ⟨ret_bool ?_, below_drewN hB _⟩
          symm
          rw [beq_eq_false_iff_ne]
          rintro rfl
          have := HP.out.symm.trans HQ.out
          injection this with this
          exact hpq this
      · have hje : j = xs.length := by omega
        subst hje
        have e3 : (xs == ys) = true := by rw [List.take_length, List.take_of_length_le (by rw [HL.out]; exact Nat.le_refl _)] at he; exact he
        have H3 := Lib.hid e3
        clear e3 he
        go_wp2_with fail
        go_ret
        exact ⟨ret_bool H3.out.symm, hB⟩
  · have hd : ((xs.length : Int) != (ys.length : Int)) = true := by simp; omega
    have hne : (xs == ys) = false := by
      rw [beq_eq_false_iff_ne]
      rintro rfl
      exact hl rfl
    rw [hne]
    clear hne
    go_enter Try.func53, Try.ntmps53
    go_wp2_with fail
    go_ret
    exact ⟨rfl, Below.refl _ _⟩

theorem rr_kept {g : Nat} {st : RS} {w w' : World} (h : RrAt g st w) (b : Below w.heap.size w w') : RrAt g st w' := Blk.kept h b
/-- Two readers at one state, and all that was there. -/
def Two (g h : Nat) (st : RS) (w0 w : World) : Prop := RdAt g st w ∧ RrAt h st w ∧ Below w0.heap.size w0 w
theorem Two.next {g h : Nat} {st st' : RS} {w0 w w1 w2 : World} (T : Two g h st w0 w) (hg : w0.heap.size ≤ g) (hh : w0.heap.size ≤ h) (hne : g ≠ h) (r1 : RdAt g st' w1) (o1 : Only w w1 g) (q2 : RrAt h st' w2) (o2 : Only w1 w2 h) : Two g h st' w0 w2 :=
  ⟨Blk.grown r1 o2 (some_ne hne), q2, step_only (step_only T.2.2 o1 hg) o2 (Nat.le_trans hh (Nat.le_refl _))⟩
theorem Two.ref {g h : Nat} {st : RS} {w0 w w1 : World} (T : Two g h st w0 w) (hne : g ≠ h) (o1 : Only w w1 g) : RrAt h st w1 := Blk.grown T.2.1 o1 (some_ne (Ne.symm hne))
theorem Two.drew {g h : Nat} {st : RS} {w0 w : World} (T : Two g h st w0 w) : Two g h st w0 w.drew := ⟨Blk.drew T.1, Blk.drew T.2.1, T.2.2.drew⟩

theorem five_most {g q b o : Nat} {st : RS} {w0 w w1 : World} {v : Value} (T : Two g q st w0 w) (hg : w0.heap.size ≤ g) (hb : b < w0.heap.size) (o1 : Only w w1 g) (c : w.cell? ⟨b, o, none⟩ = some v) : w1.cell? ⟨b, o, none⟩ = some v :=
  ((below_only (Below.refl w0.heap.size w) o1 hg T.2.2.size).cell (p := ⟨b, o, none⟩) hb).trans c
theorem own_open {w w6 w' : World} {xa : Option Addr} {n xc : Nat} {xs : List Value} (h : w6.ownsRow w'.heap.size 22 1 (.slice xa n xc) n xs) (hb : w.heap.size ≤ w'.heap.size) : 0 < n → ∃ (z : Nat) (cur : Array Value), xa = some ⟨z, 0, none⟩ ∧ Blk w6 z 22 cur ∧ n ≤ cur.size ∧ w.heap.size ≤ z := by
  intro h0
  rcases h.2 with ⟨_, h1⟩ | ⟨z, cap, cur, hv, hz, hh, hc, _, hs, _⟩
  · omega
  · injection hv with hv _ _
    exact ⟨z, cur, hv, hh, by omega, by omega⟩
theorem two_store {g q z : Nat} {st : RS} {w0 w : World} {cur : Array Value} (T : Two g q st w0 w) (hz : Blk w z 22 cur) (hw : w0.heap.size ≤ z) (k : Nat) (u : Value) : Two g q st w0 (w.setCell ⟨z, k, none⟩ u) :=
  ⟨Blk.farc T.1 (Blk.ne_ T.1 hz (by decide)) u, Blk.farc T.2.1 (Blk.ne_ T.2.1 hz (by decide)) u, T.2.2.setCell (p := ⟨z, k, none⟩) hw u⟩

end Go.Proofs.Ytdnkijljpmcejaa
