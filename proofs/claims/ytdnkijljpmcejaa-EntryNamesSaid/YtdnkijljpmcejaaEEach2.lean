/-
  entry.Copy$1, entry.each of what was dealt.
-/
import Derived.Test.YtdnkijljpmcejaaEEach
namespace Go.Proofs.Ytdnkijljpmcejaa
open Go.RowKit

/-- What was dealt, its lists in blocks of their own. -/
def CdPost (d : Dl) (w : World) (r : Ending) (w' : World) : Prop := ∃ a c, r = .returned (.agg #[.int .i64 d.1, .slice a d.2.length c]) ∧ OLst w.heap.size w'.heap.size w' a d.2 ∧ Below w.heap.size w w'
set_option maxRecDepth 100000 in
set_option maxHeartbeats 1000000 in
theorem cdl_any (d : Dl) (a : Option Addr) (c : Nat) (w : World) (hx : NLst w w.heap.size a d.2) (hn : d.2.length ≤ 5000) (hl : ∀ l ∈ d.2, l.length ≤ 5000) :
    Calls Try.prog 72 #[.agg #[.int .i64 d.1, .slice a d.2.length c]] w (CdPost d w) := by
  obtain ⟨wA, hwA⟩ : ∃ wA, wA = (w.alloc (.cells #[.int .i64 d.1, .slice a d.2.length c] 58)).alloc (.cells #[.int .i64 0, .slice none 0 0] 58) := ⟨_, rfl⟩
  have hsA : wA.heap.size = w.heap.size + 2 := by rw [hwA]; simp
  have bA : Below w.heap.size w wA := by rw [hwA]; exact ((Below.refl _ w).alloc (Nat.le_refl _) _).alloc (by simp) _
  have B0 : Blk wA w.heap.size 58 #[.int .i64 d.1, .slice a d.2.length c] := by rw [hwA]; exact (Blk.new w _ _).alloc _
  have G0 : Blk wA (w.heap.size + 1) 58 #[.int .i64 0, .slice none 0 0] := by
    rw [hwA]
    have := Blk.new (w.alloc (.cells #[.int .i64 d.1, .slice a d.2.length c] 58)) 58 #[.int .i64 0, .slice none 0 0]
    simp only [asz] at this
    exact this
  have HC := Lib.hid (eachl_any a c d.2 wA (hx.step bA) hn hl)
  have HA := Lib.hid (And.intro hsA (And.intro bA (And.intro B0 G0)))
  have f1 : wA.cell? ⟨w.heap.size, 1, none⟩ = some (.slice a d.2.length c) := B0.cell 1
  clear hx hsA bA G0 B0
  go_enter Try.func72, Try.ntmps72
  go_upto_region 1 with fail
  rw [← hwA]
  clear hwA
  go_wp2_with fail
  refine (Calls.mono HC.out ?_)
  rintro e w1 ⟨xa, xc, rfl, hO, b1⟩
  have hsA := HA.out.1
  have B1 := HA.out.2.2.1.below b1 (by omega)
  have G1 := HA.out.2.2.2.below b1 (by omega)
  have z0 : w1.cell? ⟨w.heap.size, 0, none⟩ = some (.int .i64 d.1) := B1.cell 0
  have z1 : w1.cell? ⟨w.heap.size, 1, none⟩ = some (.slice a d.2.length c) := B1.cell 1
  have q1 := B1.frozen 1
  have r0 : w1.cell? ⟨w.heap.size + 1, 0, none⟩ = some (.int .i64 0) := G1.cell 0
  have r1 : w1.cell? ⟨w.heap.size + 1, 1, none⟩ = some (.slice none 0 0) := G1.cell 1
  have y0 := G1.frozen 0
  have y1 := G1.frozen 1
  have H1 := Lib.hid (And.intro hO (And.intro b1 (And.intro B1 G1)))
  clear hO b1 B1 G1 f1
  go_wp2_with fail
  refine bodyPost_ret (v := .agg #[.int .i64 d.1, .slice xa d.2.length xc]) (by simp [results, Try.results72, go_sem, r0, r1]) rfl ?_
  have k : ∀ {t : TypeId} (q : Nat) (cur : Array Value) (u0 u1 u2 : Value), 58 ≠ t → Blk w1 q t cur → Blk (((w1.setCell ⟨w.heap.size, 1, none⟩ u0).setCell ⟨w.heap.size + 1, 0, none⟩ u1).setCell ⟨w.heap.size + 1, 1, none⟩ u2) q t cur := fun q cur u0 u1 u2 ht hb =>
    ((hb.farc (Blk.ne_ hb H1.out.2.2.1 (Ne.symm ht)) u0).farc (Blk.ne_ hb H1.out.2.2.2 (Ne.symm ht)) u1).farc (Blk.ne_ hb H1.out.2.2.2 (Ne.symm ht)) u2
  refine ⟨xa, xc, rfl, ((H1.out.1.grow (fun _ _ hb => k _ _ _ _ _ (by decide) hb) (fun _ _ hb => k _ _ _ _ _ (by decide) hb)).more (by omega) (by simp [World.setCell])), ?_⟩
  exact (((HA.out.2.1.trans (H1.out.2.1.mono (by omega))).setCell (p := ⟨w.heap.size, 1, none⟩) (Nat.le_refl _) _).setCell (p := ⟨w.heap.size + 1, 0, none⟩) (Nat.le_succ _) _).setCell (p := ⟨w.heap.size + 1, 1, none⟩) (Nat.le_succ _) _
theorem DAcc.push {lo : Nat} {w1 w5 : World} {v : Value} {xs : List Value} {acc : List Dl} {d : Dl} {a : Option Addr} {c : Nat} {o : Obj} (h : DAcc lo w1.heap.size w1 xs acc) (hr : OLst lo w1.heap.size w1 a d.2) (ho : w1.ownsRow lo 58 2 v acc.length xs) (g : (w1.alloc o).grownBy w5 v.ownBlock) :
    DAcc lo w5.heap.size w5 (xs ++ [.int .i64 d.1, .slice a d.2.length c]) (acc ++ [d]) := by
  have hs : w1.heap.size ≤ w5.heap.size := by have := g.size; rw [asz] at this; omega
  exact ((h.snoc hr).grow (blk_step o ho (by decide) g) (blk_step o ho (by decide) g)).more hs
def DlsPost (ds : List Dl) (w : World) (r : Ending) (w' : World) : Prop := ∃ a c, r = .returned (.slice a ds.length c) ∧ ODls w.heap.size w'.heap.size w' a ds ∧ Below w.heap.size w w'
set_option maxRecDepth 100000 in
set_option maxHeartbeats 1000000 in
theorem eachd_any (a : Option Addr) (c : Nat) (ds : List Dl) (w : World) (hx : NDls w w.heap.size a ds) (hn : ds.length ≤ 5000) (hm : ∀ d ∈ ds, d.2.length ≤ 5000) (hl : ∀ d ∈ ds, ∀ l ∈ d.2, l.length ≤ 5000) :
    Calls Try.prog 71 #[.slice a ds.length c, .func (.func 72) #[] #[]] w (DlsPost ds w) := by
  obtain ⟨i1, hi1, hy0, hy1, hy2⟩ := info_parts infoDl
  have HL := Lib.hid (And.intro hm hl)
  have HX := Lib.hid hx
  clear hl hx hm
  go_enter Try.func71, Try.ntmps71
  go_wp2_with fail
  go_loopw [5, 10] (fun v i wr => ∃ (j : Nat) (xs : List Value), j ≤ ds.length ∧ i = .int .i64 j ∧ wr.ownsRow w.heap.size 58 2 v (ds.take j).length xs ∧ DAcc w.heap.size wr.heap.size wr xs (ds.take j) ∧ Below w.heap.size w wr) (fun _ i _ => ds.length - (intOf i).toNat)
  case atStart => exact ⟨0, [], Nat.zero_le _, rfl, World.ownsRow_nil _ _ _ _, DAcc.nil, Below.refl _ _⟩
  case round =>
    obtain ⟨j, xs, hj, rfl, hO, hA, hB⟩ := hrel
    by_cases hlt : j < ds.length
    · obtain ⟨d, hdj⟩ : ∃ d, ds[j]? = some d := ⟨_, List.getElem?_eq_getElem hlt⟩
      have hjI : (j : Int) < (ds.length : Int) := by omega
      have hmem := List.mem_of_getElem? hdj
      obtain ⟨b, o, a', c', hpa, hc0, hc1, hnm⟩ : ∃ b o a' c', a = some ⟨b, o, none⟩ ∧ wr.cell? ⟨b, o + j * 2, none⟩ = some (.int .i64 d.1) ∧ wr.cell? ⟨b, o + j * 2 + 1, none⟩ = some (.slice a' d.2.length c') ∧ NLst wr wr.heap.size a' d.2 := by
        rcases HX.out with h0 | ⟨b, o, ha, hb, hc⟩
        · rw [h0] at hlt; simp at hlt
        · obtain ⟨a', c', x0, x1, x2⟩ := hc j d hdj
          exact ⟨b, o, a', c', ha, (hB.cell (p := ⟨b, o + j * 2, none⟩) hb).trans x0, (hB.cell (p := ⟨b, o + j * 2 + 1, none⟩) hb).trans x1, x2.step hB⟩
      subst hpa
      have hjl : (ds.take j).length = j := List.length_take_of_le hj
      have HT := Lib.hid (show ds.take (j + 1) = ds.take j ++ [d] by rw [List.take_add_one, hdj]; rfl)
      have HC := Lib.hid (cdl_any d a' c' (wr.alloc (.cells #[.int .i64 d.1, .slice a' d.2.length c'] 58)) (hnm.step ((Below.refl _ wr).alloc (Nat.le_refl _) _)) (HL.out.1 d hmem) (HL.out.2 d hmem))
      have bw : Below wr.heap.size wr (wr.alloc (.cells #[.int .i64 d.1, .slice a' d.2.length c'] 58)) := (Below.refl _ wr).alloc (Nat.le_refl _) _
      have HO := Lib.hid (And.intro hO (And.intro hA (And.intro hB bw)))
      have hbs := hB.size
      clear hdj hnm hO hA hB hmem bw
      go_wp2_with fail
      refine (Calls.mono HC.out ?_)
      rintro e w1 ⟨xa, xc, rfl, hol, b1'⟩
      have b1 := step_below HO.out.2.2.2 b1'
      have hs1 := b1.size
      have K1 := Lib.hid (And.intro (own_below HO.out.1 b1) (And.intro (((HO.out.2.1.kept (Kp.of_below b1 (Nat.le_refl _))).more b1.size)) (And.intro (HO.out.2.2.1.trans (b1.mono hbs)) (OLst.more (lo' := w.heap.size) hol (by rw [asz]; omega) (Nat.le_refl _)))))
      clear hol b1 b1' HC hc0 hc1
      go_wp2_with (at_builtin; refine wpList_append_own_at _ rfl _ _ 53 rfl w.heap.size 58 i1 (.agg #[.int .i64 0, .slice none 0 0]) 2 32 Try.underlying53 hi1 hy0 hy1 hy2 rfl (by decide) _ _ _ rfl (K1.out.1.alloc _) ⟨w1.heap.size, 0, none⟩ 1 1 [.int .i64 d.1, .slice xa d.2.length xc] rfl rfl (cell_two_new w1 (.int .i64 d.1) (.slice xa d.2.length xc) 58) (two_dl d.1 xa d.2.length xc) (by unfold maxLen; omega) (by omega) (by simp; omega) ?_; intro v' w5 hown5 hgrow5 _ _)
      have HZ := Lib.hid (And.intro (K1.out.2.1.push (c := xc) K1.out.2.2.2 K1.out.1 hgrow5) (grow_own K1.out.2.2.1 K1.out.1 ((World.grownBy_alloc w1 _ _).trans hgrow5)))
      have HV := Lib.hid hown5
      clear hown5 hgrow5
      go_wp2_with fail
      go_roundw
      case rel => exact ⟨j + 1, xs ++ [.int .i64 d.1, .slice xa d.2.length xc], by omega, by go_num, by rw [HT.out]; simpa using HV.out, by rw [HT.out]; exact HZ.out.1, HZ.out.2⟩
      case measure => simp [intOf]; omega
    · have hje : j = ds.length := by omega
      subst hje
      rw [List.take_length] at hO hA
      obtain ⟨a, c, rfl⟩ := own_slice hO
      have HO := Lib.hid (And.intro hO (And.intro hA hB))
      clear hO hA hB
      go_wp2_with fail
      go_ret
      exact ⟨a, c, rfl, ODls.of_own HO.out.1 HO.out.2.1, HO.out.2.2⟩
end Go.Proofs.Ytdnkijljpmcejaa
