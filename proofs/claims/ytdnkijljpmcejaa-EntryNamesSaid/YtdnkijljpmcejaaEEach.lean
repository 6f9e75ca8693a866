/-
  entry.each of lists: each list cloned.
-/
import Derived.Test.YtdnkijljpmcejaaEClone
namespace Go.Proofs.Ytdnkijljpmcejaa
open Go.RowKit

set_option maxRecDepth 100000 in
set_option maxHeartbeats 1000000 in
theorem eachl_any (a : Option Addr) (c : Nat) (ls : List (List Int)) (w : World) (hx : NLst w w.heap.size a ls) (hn : ls.length ≤ 5000) (hl : ∀ l ∈ ls, l.length ≤ 5000) :
    Calls Try.prog 69 #[.slice a ls.length c, .func (.func 70) #[] #[]] w (LstPost ls w) := by
  obtain ⟨i1, hi1, hy0, hy1, hy2⟩ := info_parts infoLst
  have HL := Lib.hid hl
  have HX := Lib.hid hx
  clear hl hx
  go_enter Try.func69, Try.ntmps69
  go_wp2_with fail
  go_loopw [5, 10] (fun v i wr => ∃ (j : Nat) (xs : List Value), j ≤ ls.length ∧ i = .int .i64 j ∧ wr.ownsRow w.heap.size 23 1 v (ls.take j).length xs ∧ LAcc w.heap.size wr.heap.size wr xs (ls.take j) ∧ Below w.heap.size w wr) (fun _ i _ => ls.length - (intOf i).toNat)
  case atStart => exact ⟨0, [], Nat.zero_le _, rfl, World.ownsRow_nil _ _ _ _, LAcc.nil, Below.refl _ _⟩
  case round =>
    obtain ⟨j, xs, hj, rfl, hO, hA, hB⟩ := hrel
    by_cases hlt : j < ls.length
    · obtain ⟨l, hlj⟩ : ∃ l, ls[j]? = some l := ⟨_, List.getElem?_eq_getElem hlt⟩
      have hjI : (j : Int) < (ls.length : Int) := by omega
      have hll := HL.out l (List.mem_of_getElem? hlj)
      obtain ⟨b, o, a', c', hpa, hc, hnm⟩ : ∃ b o a' c', a = some ⟨b, o, none⟩ ∧ wr.cell? ⟨b, o + j, none⟩ = some (.slice a' l.length c') ∧ Nums .u64 wr wr.heap.size a' l := by
        rcases HX.out.step hB with h0 | ⟨b, o, ha, hb, hc⟩
        · rw [h0] at hlt; simp at hlt
        · obtain ⟨a', c', h1, h2⟩ := hc j l hlj
          exact ⟨b, o, a', c', ha, h1, h2⟩
      subst hpa
      have hjl : (ls.take j).length = j := List.length_take_of_le hj
      have HT := Lib.hid (show ls.take (j + 1) = ls.take j ++ [l] by rw [List.take_add_one, hlj]; rfl)
      have HO := Lib.hid (And.intro hO (And.intro hA hB))
      have HC := Lib.hid (clone_u64 a' c' l wr hnm hll)
      have hbs := hB.size
      clear hlj hnm hO hA hB
      go_wp2_with fail
      refine (Calls.mono HC.out ?_)
      rintro e w1 ⟨xa, xc, rfl, hrow, b1⟩
      have hs1 := b1.size
      have K1 := Lib.hid (And.intro (own_below HO.out.1 b1) (And.intro (((HO.out.2.1.kept (Kp.of_below b1 (Nat.le_refl _))).more b1.size)) (And.intro (HO.out.2.2.trans (b1.mono hbs)) (hrow.more hbs (Nat.le_refl _)))))
      clear hrow b1 HC hc
      go_wp2_with (at_builtin; refine wpList_append_own_at _ rfl _ _ 52 rfl w.heap.size 23 i1 (.slice none 0 0) 1 24 Try.underlying52 hi1 hy0 hy1 hy2 rfl (by decide) _ _ _ rfl (K1.out.1.alloc _) ⟨w1.heap.size, 0, none⟩ 1 1 [.slice xa l.length xc] rfl rfl (cell_one_new _ _ _) (one_sl _ l.length xc) (by unfold maxLen; omega) (by omega) (by simp; omega) ?_; intro v' w5 hown5 hgrow5 _ _)
      have HZ := Lib.hid (And.intro (K1.out.2.1.push (c := xc) K1.out.2.2.2 K1.out.1 hgrow5) (grow_own K1.out.2.2.1 K1.out.1 ((World.grownBy_alloc w1 _ _).trans hgrow5)))
      have HV := Lib.hid hown5
      clear hown5 hgrow5
      go_wp2_with fail
      go_roundw
      case rel => exact ⟨j + 1, xs ++ [.slice xa l.length xc], by omega, by go_num, by rw [HT.out]; simpa using HV.out, by rw [HT.out]; exact HZ.out.1, HZ.out.2⟩
      case measure => simp [intOf]; omega
    · have hje : j = ls.length := by omega
      subst hje
      rw [List.take_length] at hO hA
      obtain ⟨a, c, rfl⟩ := own_slice hO
      have HO := Lib.hid (And.intro hO (And.intro hA hB))
      clear hO hA hB
      go_wp2_with fail
      go_ret
      exact ⟨a, c, rfl, OLst.of_own HO.out.1 HO.out.2.1, HO.out.2.2⟩
end Go.Proofs.Ytdnkijljpmcejaa
