/-
  consistoryref13.rows: lists in new memory.
-/
import Derived.Test.YtdnkijljpmcejaaAppG
namespace Go.Proofs.Ytdnkijljpmcejaa
open Go.RowKit

theorem one_u64 (l : List Int) : ∀ u ∈ l.map (Value.int .u64), u.oneCell' = true := by
  intro u hu
  obtain ⟨x, _, rfl⟩ := List.mem_map.1 hu
  rfl
theorem nums_news {k : IntKind} {w : World} {B : Nat} {a : Option Addr} {l : List Int} (h : Nums k w B a l) : l.map (Value.int k) = [] ∨ ∃ p, a = some p ∧ ∀ (j : Nat) u, (l.map (Value.int k))[j]? = some u → w.cell? (p.add j) = some u := by
  rcases h with rfl | ⟨b, o, rfl, _, hc⟩
  · exact .inl rfl
  · refine .inr ⟨_, rfl, fun j u hu => ?_⟩
    rw [List.getElem?_map] at hu
    cases hx : l[j]? with
    | none => rw [hx] at hu; simp at hu
    | some x =>
      rw [hx] at hu
      obtain rfl : Value.int k x = u := by simpa using hu
      rw [Addr.add_lit]
      exact hc j x hx
/-- Lists in blocks of their own that a call made. -/
def LstPost (ls : List (List Int)) (w : World) (r : Ending) (w' : World) : Prop := ∃ a c, r = .returned (.slice a ls.length c) ∧ OLst w.heap.size w'.heap.size w' a ls ∧ Below w.heap.size w w'
/-- A list more, out of a row that has just been made. -/
theorem LAcc.push {lo : Nat} {w1 w5 : World} {v : Value} {xs : List Value} {acc : List (List Int)} {l : List Int} {a : Option Addr} {c : Nat} {o : Obj} (h : LAcc lo w1.heap.size w1 xs acc) (hr : Row .u64 22 lo w1.heap.size w1 a l) (ho : w1.ownsRow lo 23 1 v acc.length xs) (g : (w1.alloc o).grownBy w5 v.ownBlock) :
    LAcc lo w5.heap.size w5 (xs ++ [.slice a l.length c]) (acc ++ [l]) := by
  have hs : w1.heap.size ≤ w5.heap.size := by have := g.size; rw [asz] at this; omega
  exact ((h.snoc hr).grow (blk_step o ho (by decide) g)).more hs
/-- A block that was not there is turned: what was there stands. -/
theorem kp_new {lo : Nat} {w w1 : World} {o : Obj} {q : Nat} (g : (w.alloc o).grownBy w1 (some q)) (hq : w.heap.size ≤ q) : Kp lo w.heap.size w w1 := fun _ _ _ _ _ h2 hb => (hb.alloc o).grown g (some_ne (by omega))
theorem below_new {B : Nat} {w0 w w1 : World} {o : Obj} {q : Nat} (h : Below B w0 w) (hB : B ≤ w.heap.size) (g : (w.alloc o).grownBy w1 (some q)) (hq : w.heap.size ≤ q) : Below B w0 w1 := (h.alloc hB o).grown g (by rw [asz]; omega) (fun x hx => by injection hx with hx; omega)
theorem own_new {w w1 : World} {base n size : Nat} {e : TypeId} {v : Value} {xs : List Value} {o : Obj} {q : Nat} (h : w.ownsRow base e size v n xs) (g : (w.alloc o).grownBy w1 (some q)) (hq : w.heap.size ≤ q) : w1.ownsRow base e size v n xs := by
  refine (h.alloc o).kept g ?_
  cases hv : v.ownBlock with
  | none => exact .inl rfl
  | some x => exact .inr (some_ne (by have := (h.lt x hv).2; omega))
theorem grow_own {w wr w1 : World} {n size : Nat} {e : TypeId} {v : Value} {xs : List Value} (hB : Below w.heap.size w wr) (hO : wr.ownsRow w.heap.size e size v n xs) (g : wr.grownBy w1 v.ownBlock) : Below w.heap.size w w1 := hB.grown g hB.size (own_lt hO)
set_option maxRecDepth 100000 in
set_option maxHeartbeats 1000000 in
theorem rrows_any (a : Option Addr) (c : Nat) (ls : List (List Int)) (w : World) (hx : NLst w w.heap.size a ls) (hn : ls.length ≤ 5000) (hl : ∀ l ∈ ls, l.length ≤ 5000) :
    Calls Try.prog 127 #[.slice a ls.length c] w (LstPost ls w) := by
  obtain ⟨i0, hi, hz0, hz1, hz2⟩ := info_parts info64
  obtain ⟨i1, hi1, hy0, hy1, hy2⟩ := info_parts infoLst
  have HL := Lib.hid hl
  have HX := Lib.hid hx
  clear hl hx
  go_enter Try.func127, Try.ntmps127
  go_wp2_with fail
  go_loopw [3, 4] (fun v i wr => ∃ (j : Nat) (xs : List Value), j ≤ ls.length ∧ i = .int .i64 j ∧ wr.ownsRow w.heap.size 23 1 v (ls.take j).length xs ∧ LAcc w.heap.size wr.heap.size wr xs (ls.take j) ∧ Below w.heap.size w wr) (fun _ i _ => ls.length - (intOf i).toNat)
  case atStart => exact ⟨0, [], Nat.zero_le _, rfl, World.ownsRow_nil _ _ _ _, LAcc.nil, Below.refl _ _⟩
  case round =>
    obtain ⟨j, xs, hj, rfl, hO, hA, hB⟩ := hrel
    by_cases hlt : j < ls.length
    · obtain ⟨l, hlj⟩ : ∃ l, ls[j]? = some l := ⟨_, List.getElem?_eq_getElem hlt⟩
      have hjI : (j : Int) < (ls.length : Int) := by omega
      have hll := HL.out l (List.mem_of_getElem? hlj)
      obtain ⟨b, o, a', c', hpa, hc, hnm⟩ : ∃ b o a' c', a = some ⟨b, o, none⟩ ∧ wr.cell? ⟨b, o + j, none⟩ = some (.slice a' l.length c') ∧ Nums .u64 wr wr.heap.size a' l := by
        rcases HX.out.step hB with h0 | ⟨b, o, ha, hb, hc⟩
        · rw [h0] at hlt; simp at hlt
        · obtain ⟨a', c', h1, h2⟩ := hc j l hlj
          exact ⟨b, o, a', c', ha, h1, h2⟩
      subst hpa
      have hjl : (ls.take j).length = j := List.length_take_of_le hj
      have HT := Lib.hid (show ls.take (j + 1) = ls.take j ++ [l] by rw [List.take_add_one, hlj]; rfl)
      have own0 : (wr.alloc (.cells #[] 22)).ownsRow w.heap.size 22 1 (.slice (some ⟨wr.heap.size, 0, none⟩) 0 0) 0 [] := World.ownsRow_made wr #[] 0 hB.size (Nat.zero_le _) (by simp)
      have HN := Lib.hid (nums_news (hnm.step ((Below.refl _ wr).alloc (Nat.le_refl _) (.cells #[] 22))))
      have HO := Lib.hid (And.intro hO (And.intro hA (And.intro hB own0)))
      have HU := Lib.hid (And.intro (show (l.map (Value.int .u64)).length = l.length * 1 by simp) (one_u64 l))
      have hbs := hB.size
      have hbl := World.block_lt_of_cell? wr _ hc
      have hc2 := cell_keep hc ((Below.refl _ wr).alloc (Nat.le_refl _) (.cells #[] 22))
      clear hlj hnm hO hA hB own0
      go_wp2_with (first
        | (at_builtin; refine wpList_append_gen _ rfl (.tmp 12) (.tmp 16) 23 rfl w.heap.size 22 i0 (.int .u64 0) 1 8 Try.underlying23 hi hz0 hz1 hz2 rfl (by decide) (.slice (some ⟨wr.heap.size, 0, none⟩) 0 0) 0 [] rfl HO.out.2.2.2 (own_some _ _ _) a' l.length c' (l.map (.int .u64)) rfl HU.out.1 HN.out HU.out.2 (by simp [maxLen]; omega) (by omega) (by simp; omega) ?_; intro q cap w1 own1 g1 _; rw [Nat.zero_add, List.nil_append] at own1; have K1 := Lib.hid (And.intro (own_new HO.out.1 g1 (Nat.le_refl _)) (And.intro ((HO.out.2.1.kept (kp_new g1 (Nat.le_refl _))).more (hi' := w1.heap.size) (by have := g1.size; rw [asz] at this; omega)) (And.intro (below_new HO.out.2.2.1 hbs g1 (Nat.le_refl _)) (Row.of_own own1)))); have hw1 : wr.heap.size ≤ w1.heap.size := (by have := g1.size; rw [asz] at this; omega); clear own1 g1)
        | (at_builtin; refine wpList_append_own_at _ rfl (.tmp 11) (.tmp 18) 52 rfl w.heap.size 23 i1 (.slice none 0 0) 1 24 Try.underlying52 hi1 hy0 hy1 hy2 rfl (by decide) _ _ _ rfl (K1.out.1.alloc _) ⟨w1.heap.size, 0, none⟩ 1 1 [.slice (some ⟨q, 0, none⟩) l.length cap] rfl rfl (cell_one_new _ _ _) (one_sl _ l.length cap) (by unfold maxLen; omega) (by omega) (by simp; omega) ?_; intro v' w5 hown5 hgrow5 _ _))
      have HZ := Lib.hid (And.intro (K1.out.2.1.push (c := cap) K1.out.2.2.2 K1.out.1 hgrow5) (grow_own K1.out.2.2.1 K1.out.1 ((World.grownBy_alloc w1 _ _).trans hgrow5)))
      have HV := Lib.hid hown5
      clear hown5 hgrow5
      go_wp2_with fail
      go_roundw
      case rel => exact ⟨j + 1, xs ++ [.slice (some ⟨q, 0, none⟩) l.length cap], by omega, by go_num, by rw [HT.out]; simpa using HV.out, by rw [HT.out]; exact HZ.out.1, HZ.out.2⟩
      case measure => simp [intOf]; omega
    · have hje : j = ls.length := by omega
      subst hje
      rw [List.take_length] at hO hA
      obtain ⟨a, c, rfl⟩ := own_slice hO
      have HO := Lib.hid (And.intro hO (And.intro hA hB))
      clear hO hA hB
      go_wp2_with fail
      go_ret
      exact ⟨a, c, rfl, OLst.of_own HO.out.1 HO.out.2.1, HO.out.2.2⟩
end Go.Proofs.Ytdnkijljpmcejaa
