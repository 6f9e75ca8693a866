/-
  entry.formed: whether an entry has its form.
-/
import Derived.Test.YtdnkijljpmcejaaEForm
namespace Go.Proofs.Ytdnkijljpmcejaa
open Go.RowKit

theorem none_any (e : En) (p : Ad) (w : World) (k1 : 1 ≤ e.k) (k4 : e.k ≤ 4) (l1 : e.x.length ≤ 5000) (l2 : e.coms.length ≤ 5000) (l3 : e.next.length ≤ 5000) (l4 : e.deals.length ≤ 5000) :
    Calls Try.prog 115 #[.agg #[.int .u8 e.k, .int .i64 e.id, .int .i64 e.ep, .slice p.a1 e.x.length p.c1, .slice p.a2 e.coms.length p.c2, .slice p.a3 e.next.length p.c3, .slice p.a4 e.deals.length p.c4]] w (BoolPost e.none w) := by
  obtain ⟨k, i, ep, x, cs, nx, ds⟩ := e
  dsimp only at k1 k4 l1 l2 l3 l4 ⊢
  have hk : k = 1 ∨ k = 2 ∨ k = 3 ∨ k = 4 := by omega
  rcases hk with rfl | rfl | rfl | rfl
  · exact none_1 i ep x cs nx ds p w l1 l2 l3 l4
  · exact none_2 i ep x cs nx ds p w l1 l2 l3 l4
  · exact none_3 i ep x cs nx ds p w l1 l2 l3 l4
  · exact none_4 i ep x cs nx ds p w l1 l2 l3 l4
theorem Blk.entry {w : World} {g : Nat} {e : En} {p : Ad} (h : Blk w g 55 #[.int .u8 e.k, .int .i64 e.id, .int .i64 e.ep, .slice p.a1 e.x.length p.c1, .slice p.a2 e.coms.length p.c2, .slice p.a3 e.next.length p.c3, .slice p.a4 e.deals.length p.c4]) :
    w.cell? ⟨g, 0, none⟩ = some (.int .u8 e.k) ∧ w.cell? ⟨g, 1, none⟩ = some (.int .i64 e.id) ∧ w.cell? ⟨g, 2, none⟩ = some (.int .i64 e.ep) ∧ w.cell? ⟨g, 3, none⟩ = some (.slice p.a1 e.x.length p.c1) ∧ w.cell? ⟨g, 4, none⟩ = some (.slice p.a2 e.coms.length p.c2) ∧ w.cell? ⟨g, 5, none⟩ = some (.slice p.a3 e.next.length p.c3) ∧ w.cell? ⟨g, 6, none⟩ = some (.slice p.a4 e.deals.length p.c4) :=
  ⟨h.cell 0, h.cell 1, h.cell 2, h.cell 3, h.cell 4, h.cell 5, h.cell 6⟩
def mx (a b : Int) : Int := if b > a then b else a
def mx4 (a b c d : Int) : Int := mx (mx (mx a b) c) d
theorem mx_iff {a b m : Int} : mx a b ≤ m ↔ a ≤ m ∧ b ≤ m := by unfold mx; split <;> omega
theorem mx4_iff {a b c d m : Int} : mx4 a b c d ≤ m ↔ a ≤ m ∧ b ≤ m ∧ c ≤ m ∧ d ≤ m := by
  unfold mx4
  rw [mx_iff, mx_iff, mx_iff]
  exact ⟨fun ⟨⟨⟨h1, h2⟩, h3⟩, h4⟩ => ⟨h1, h2, h3, h4⟩, fun ⟨h1, h2, h3, h4⟩ => ⟨⟨⟨h1, h2⟩, h3⟩, h4⟩⟩
theorem run_max_int4 {P : Program} {w : World} (ts : Array TypeId) (t : TypeId) (k k' k'' k3 : IntKind) (x y z u : Int) : (Builtin.max_ ts t #[.int k x, .int k' y, .int k'' z, .int k3 u]).run P w = .ok (.int k (mx4 x y z u)) w := by
  simp [Builtin.max_, Builtin.max2, mx4, mx]
attribute [go_sem] run_max_int4
def top (e : En) : Int := mx4 e.x.length e.coms.length e.next.length e.deals.length

set_option maxRecDepth 100000 in
set_option maxHeartbeats 400000 in
theorem formed_low (e : En) (p : Ad) (w : World) (h : e.k < 1) :
    Calls Try.prog 73 #[.agg #[.int .u8 e.k, .int .i64 e.id, .int .i64 e.ep, .slice p.a1 e.x.length p.c1, .slice p.a2 e.coms.length p.c2, .slice p.a3 e.next.length p.c3, .slice p.a4 e.deals.length p.c4]] w (BoolPost false w) := by
  go_enter Try.func73, Try.ntmps73
  go_wp2_with fail
  go_ret
  exact ⟨rfl, (Below.refl _ w).alloc (Nat.le_refl _) _⟩

set_option maxRecDepth 100000 in
set_option maxHeartbeats 400000 in
theorem formed_high (e : En) (p : Ad) (w : World) (h : 4 < e.k) :
    Calls Try.prog 73 #[.agg #[.int .u8 e.k, .int .i64 e.id, .int .i64 e.ep, .slice p.a1 e.x.length p.c1, .slice p.a2 e.coms.length p.c2, .slice p.a3 e.next.length p.c3, .slice p.a4 e.deals.length p.c4]] w (BoolPost false w) := by
  go_enter Try.func73, Try.ntmps73
  go_wp2_with fail
  go_ret
  exact ⟨rfl, (Below.refl _ w).alloc (Nat.le_refl _) _⟩

set_option maxRecDepth 100000 in
set_option maxHeartbeats 400000 in
theorem formed_none (e : En) (p : Ad) (w : World) (k1 : 1 ≤ e.k) (k4 : e.k ≤ 4) (hL : e.Lim) (h : e.none = false) :
    Calls Try.prog 73 #[.agg #[.int .u8 e.k, .int .i64 e.id, .int .i64 e.ep, .slice p.a1 e.x.length p.c1, .slice p.a2 e.coms.length p.c2, .slice p.a3 e.next.length p.c3, .slice p.a4 e.deals.length p.c4]] w (BoolPost false w) := by
  obtain ⟨w0, hw0⟩ : ∃ w0, w0 = w.alloc (.cells #[.int .u8 e.k, .int .i64 e.id, .int .i64 e.ep, .slice p.a1 e.x.length p.c1, .slice p.a2 e.coms.length p.c2, .slice p.a3 e.next.length p.c3, .slice p.a4 e.deals.length p.c4] 55) := ⟨_, rfl⟩
  have B0 : Below w.heap.size w w0 := by rw [hw0]; exact (Below.refl _ w).alloc (Nat.le_refl _) _
  have K0 : Blk w0 w.heap.size 55 #[.int .u8 e.k, .int .i64 e.id, .int .i64 e.ep, .slice p.a1 e.x.length p.c1, .slice p.a2 e.coms.length p.c2, .slice p.a3 e.next.length p.c3, .slice p.a4 e.deals.length p.c4] := by rw [hw0]; exact Blk.new w _ _
  have HW := Lib.hid hw0
  have HN := Lib.hid (none_any e p w0 k1 k4 hL.x hL.coms hL.next hL.deals)
  have HK := Lib.hid K0
  have HB := Lib.hid B0
  obtain ⟨l1, l2, l3, l4, -, -, -⟩ := hL
  clear hw0 B0
  obtain ⟨f0, f1, f2, f3, f4, f5, f6⟩ := K0.entry
  clear K0
  go_enter Try.func73, Try.ntmps73
  go_upto_region 1 with fail
  rw [← HW.out]
  clear HW
  skip
  go_wp2_with fail
  refine (Calls.mono HN.out ?_)
  rintro e2 w1 ⟨rfl, b1⟩
  rw [h]
  clear h
  have K1 := HK.out.kept b1
  have B1 := step_below HB.out b1
  obtain ⟨f0, f1, f2, f3, f4, f5, f6⟩ := K1.entry
  have HK1 := Lib.hid (And.intro K1 B1)
  clear K1 B1 HN b1
  go_wp2_with fail
  go_ret
  exact ⟨rfl, HK1.out.2⟩

set_option maxRecDepth 100000 in
set_option maxHeartbeats 400000 in
theorem formed_id (e : En) (p : Ad) (w : World) (k1 : 1 ≤ e.k) (k4 : e.k ≤ 4) (hL : e.Lim) (h : e.none = true) (h1 : numB e.id = false) :
    Calls Try.prog 73 #[.agg #[.int .u8 e.k, .int .i64 e.id, .int .i64 e.ep, .slice p.a1 e.x.length p.c1, .slice p.a2 e.coms.length p.c2, .slice p.a3 e.next.length p.c3, .slice p.a4 e.deals.length p.c4]] w (BoolPost false w) := by
  obtain ⟨w0, hw0⟩ : ∃ w0, w0 = w.alloc (.cells #[.int .u8 e.k, .int .i64 e.id, .int .i64 e.ep, .slice p.a1 e.x.length p.c1, .slice p.a2 e.coms.length p.c2, .slice p.a3 e.next.length p.c3, .slice p.a4 e.deals.length p.c4] 55) := ⟨_, rfl⟩
  have B0 : Below w.heap.size w w0 := by rw [hw0]; exact (Below.refl _ w).alloc (Nat.le_refl _) _
  have K0 : Blk w0 w.heap.size 55 #[.int .u8 e.k, .int .i64 e.id, .int .i64 e.ep, .slice p.a1 e.x.length p.c1, .slice p.a2 e.coms.length p.c2, .slice p.a3 e.next.length p.c3, .slice p.a4 e.deals.length p.c4] := by rw [hw0]; exact Blk.new w _ _
  have HW := Lib.hid hw0
  have HN := Lib.hid (none_any e p w0 k1 k4 hL.x hL.coms hL.next hL.deals)
  have HK := Lib.hid K0
  have HB := Lib.hid B0
  obtain ⟨l1, l2, l3, l4, -, -, -⟩ := hL
  clear hw0 B0
  obtain ⟨f0, f1, f2, f3, f4, f5, f6⟩ := K0.entry
  clear K0
  go_enter Try.func73, Try.ntmps73
  go_upto_region 1 with fail
  rw [← HW.out]
  clear HW
  skip
  go_wp2_with fail
  refine (Calls.mono HN.out ?_)
  rintro e2 w1 ⟨rfl, b1⟩
  rw [h]
  clear h
  have K1 := HK.out.kept b1
  have B1 := step_below HB.out b1
  obtain ⟨f0, f1, f2, f3, f4, f5, f6⟩ := K1.entry
  have HK1 := Lib.hid (And.intro K1 B1)
  clear K1 B1 HN b1
  go_wp2_with fail
  refine (number_any e.id _).mono ?_
  rintro e2 w' ⟨rfl, rfl⟩
  rw [h1]
  clear h1
  go_wp2_with fail
  go_ret
  exact ⟨rfl, HK1.out.2⟩

set_option maxRecDepth 100000 in
set_option maxHeartbeats 400000 in
theorem formed_ep (e : En) (p : Ad) (w : World) (k1 : 1 ≤ e.k) (k4 : e.k ≤ 4) (hL : e.Lim) (h : e.none = true) (h1 : numB e.id = true) (h2 : numB e.ep = false) :
    Calls Try.prog 73 #[.agg #[.int .u8 e.k, .int .i64 e.id, .int .i64 e.ep, .slice p.a1 e.x.length p.c1, .slice p.a2 e.coms.length p.c2, .slice p.a3 e.next.length p.c3, .slice p.a4 e.deals.length p.c4]] w (BoolPost false w) := by
  obtain ⟨w0, hw0⟩ : ∃ w0, w0 = w.alloc (.cells #[.int .u8 e.k, .int .i64 e.id, .int .i64 e.ep, .slice p.a1 e.x.length p.c1, .slice p.a2 e.coms.length p.c2, .slice p.a3 e.next.length p.c3, .slice p.a4 e.deals.length p.c4] 55) := ⟨_, rfl⟩
  have B0 : Below w.heap.size w w0 := by rw [hw0]; exact (Below.refl _ w).alloc (Nat.le_refl _) _
  have K0 : Blk w0 w.heap.size 55 #[.int .u8 e.k, .int .i64 e.id, .int .i64 e.ep, .slice p.a1 e.x.length p.c1, .slice p.a2 e.coms.length p.c2, .slice p.a3 e.next.length p.c3, .slice p.a4 e.deals.length p.c4] := by rw [hw0]; exact Blk.new w _ _
  have HW := Lib.hid hw0
  have HN := Lib.hid (none_any e p w0 k1 k4 hL.x hL.coms hL.next hL.deals)
  have HK := Lib.hid K0
  have HB := Lib.hid B0
  obtain ⟨l1, l2, l3, l4, -, -, -⟩ := hL
  clear hw0 B0
  obtain ⟨f0, f1, f2, f3, f4, f5, f6⟩ := K0.entry
  clear K0
  go_enter Try.func73, Try.ntmps73
  go_upto_region 1 with fail
  rw [← HW.out]
  clear HW
  skip
  go_wp2_with fail
  refine (Calls.mono HN.out ?_)
  rintro e2 w1 ⟨rfl, b1⟩
  rw [h]
  clear h
  have K1 := HK.out.kept b1
  have B1 := step_below HB.out b1
  obtain ⟨f0, f1, f2, f3, f4, f5, f6⟩ := K1.entry
  have HK1 := Lib.hid (And.intro K1 B1)
  clear K1 B1 HN b1
  go_wp2_with fail
  refine (number_any e.id _).mono ?_
  rintro e2 w' ⟨rfl, rfl⟩
  rw [h1]
  clear h1
  go_wp2_with fail
  refine (number_any e.ep _).mono ?_
  rintro e2 w' ⟨rfl, rfl⟩
  rw [h2]
  clear h2
  go_wp2_with fail
  go_ret
  exact ⟨rfl, HK1.out.2⟩

set_option maxRecDepth 100000 in
set_option maxHeartbeats 400000 in
theorem formed_len (e : En) (p : Ad) (w : World) (k1 : 1 ≤ e.k) (k4 : e.k ≤ 4) (hL : e.Lim) (h : e.none = true) (h1 : numB e.id = true) (h2 : numB e.ep = true) (h3 : decide (255 < mx4 e.x.length e.coms.length e.next.length e.deals.length) = true) :
    Calls Try.prog 73 #[.agg #[.int .u8 e.k, .int .i64 e.id, .int .i64 e.ep, .slice p.a1 e.x.length p.c1, .slice p.a2 e.coms.length p.c2, .slice p.a3 e.next.length p.c3, .slice p.a4 e.deals.length p.c4]] w (BoolPost false w) := by
  obtain ⟨w0, hw0⟩ : ∃ w0, w0 = w.alloc (.cells #[.int .u8 e.k, .int .i64 e.id, .int .i64 e.ep, .slice p.a1 e.x.length p.c1, .slice p.a2 e.coms.length p.c2, .slice p.a3 e.next.length p.c3, .slice p.a4 e.deals.length p.c4] 55) := ⟨_, rfl⟩
  have B0 : Below w.heap.size w w0 := by rw [hw0]; exact (Below.refl _ w).alloc (Nat.le_refl _) _
  have K0 : Blk w0 w.heap.size 55 #[.int .u8 e.k, .int .i64 e.id, .int .i64 e.ep, .slice p.a1 e.x.length p.c1, .slice p.a2 e.coms.length p.c2, .slice p.a3 e.next.length p.c3, .slice p.a4 e.deals.length p.c4] := by rw [hw0]; exact Blk.new w _ _
  have HW := Lib.hid hw0
  have HN := Lib.hid (none_any e p w0 k1 k4 hL.x hL.coms hL.next hL.deals)
  have HK := Lib.hid K0
  have HB := Lib.hid B0
  obtain ⟨l1, l2, l3, l4, -, -, -⟩ := hL
  clear hw0 B0
  obtain ⟨f0, f1, f2, f3, f4, f5, f6⟩ := K0.entry
  clear K0
  go_enter Try.func73, Try.ntmps73
  go_upto_region 1 with fail
  rw [← HW.out]
  clear HW
  skip
  go_wp2_with fail
  refine (Calls.mono HN.out ?_)
  rintro e2 w1 ⟨rfl, b1⟩
  rw [h]
  clear h
  have K1 := HK.out.kept b1
  have B1 := step_below HB.out b1
  obtain ⟨f0, f1, f2, f3, f4, f5, f6⟩ := K1.entry
  have HK1 := Lib.hid (And.intro K1 B1)
  clear K1 B1 HN b1
  go_wp2_with fail
  refine (number_any e.id _).mono ?_
  rintro e2 w' ⟨rfl, rfl⟩
  rw [h1]
  clear h1
  go_wp2_with fail
  refine (number_any e.ep _).mono ?_
  rintro e2 w' ⟨rfl, rfl⟩
  rw [h2]
  clear h2
  go_wp2_with fail
  go_ret
  exact ⟨rfl, HK1.out.2⟩

set_option maxRecDepth 100000 in
set_option maxHeartbeats 400000 in
theorem formed_rest (e : En) (p : Ad) (w : World) (k1 : 1 ≤ e.k) (k4 : e.k ≤ 4) (hL : e.Lim) (hN : NEn w w.heap.size e p) (h : e.none = true) (h1 : numB e.id = true) (h2 : numB e.ep = true) (h3 : decide (255 < mx4 e.x.length e.coms.length e.next.length e.deals.length) = false) :
    Calls Try.prog 73 #[.agg #[.int .u8 e.k, .int .i64 e.id, .int .i64 e.ep, .slice p.a1 e.x.length p.c1, .slice p.a2 e.coms.length p.c2, .slice p.a3 e.next.length p.c3, .slice p.a4 e.deals.length p.c4]] w (BoolPost (e.deals.all dlB && e.next.all numB) w) := by
  obtain ⟨w0, hw0⟩ : ∃ w0, w0 = w.alloc (.cells #[.int .u8 e.k, .int .i64 e.id, .int .i64 e.ep, .slice p.a1 e.x.length p.c1, .slice p.a2 e.coms.length p.c2, .slice p.a3 e.next.length p.c3, .slice p.a4 e.deals.length p.c4] 55) := ⟨_, rfl⟩
  have B0 : Below w.heap.size w w0 := by rw [hw0]; exact (Below.refl _ w).alloc (Nat.le_refl _) _
  have K0 : Blk w0 w.heap.size 55 #[.int .u8 e.k, .int .i64 e.id, .int .i64 e.ep, .slice p.a1 e.x.length p.c1, .slice p.a2 e.coms.length p.c2, .slice p.a3 e.next.length p.c3, .slice p.a4 e.deals.length p.c4] := by rw [hw0]; exact Blk.new w _ _
  have HW := Lib.hid hw0
  have HN := Lib.hid (none_any e p w0 k1 k4 hL.x hL.coms hL.next hL.deals)
  have HK := Lib.hid K0
  have HB := Lib.hid B0
  have HE := Lib.hid hN
  have HC := Lib.hid hL.col
  obtain ⟨l1, l2, l3, l4, -, -, -⟩ := hL
  clear hN
  clear hw0 B0
  obtain ⟨f0, f1, f2, f3, f4, f5, f6⟩ := K0.entry
  clear K0
  go_enter Try.func73, Try.ntmps73
  go_upto_region 1 with fail
  rw [← HW.out]
  clear HW
  skip
  go_wp2_with fail
  refine (Calls.mono HN.out ?_)
  rintro e2 w1 ⟨rfl, b1⟩
  rw [h]
  clear h
  have K1 := HK.out.kept b1
  have B1 := step_below HB.out b1
  obtain ⟨f0, f1, f2, f3, f4, f5, f6⟩ := K1.entry
  have HK1 := Lib.hid (And.intro K1 B1)
  clear K1 B1 HN b1
  go_wp2_with fail
  refine (number_any e.id _).mono ?_
  rintro e2 w' ⟨rfl, rfl⟩
  rw [h1]
  clear h1
  go_wp2_with fail
  refine (number_any e.ep _).mono ?_
  rintro e2 w' ⟨rfl, rfl⟩
  rw [h2]
  clear h2
  go_wp2_with fail
  clear h3
  have HX := Lib.hid (HE.out.step HK1.out.2)
  clear HE
  go_loopw [49] (fun v wr => ∃ j : Nat, j ≤ e.deals.length ∧ v = .int .i64 j ∧ (e.deals.take j).all dlB = true ∧ Below w1.heap.size w1 wr) (fun v _ => e.deals.length - (intOf v).toNat)
  case atStart => exact ⟨0, Nat.zero_le _, rfl, rfl, Below.refl _ _⟩
  case round =>
    obtain ⟨j, hj, rfl, ha, hB⟩ := hrel
    by_cases hlt : j < e.deals.length
    · obtain ⟨d, hd⟩ : ∃ d, e.deals[j]? = some d := ⟨_, List.getElem?_eq_getElem hlt⟩
      have hjI : (j : Int) < (e.deals.length : Int) := by omega
      obtain ⟨b, o, hb, hbl, a', c', hc0, hc1, hNL⟩ : ∃ b o, p.a4 = some ⟨b, o, none⟩ ∧ b < w1.heap.size ∧ ∃ a' c', wr.cell? ⟨b, o + j * 2, none⟩ = some (.int .i64 d.1) ∧ wr.cell? ⟨b, o + j * 2 + 1, none⟩ = some (.slice a' d.2.length c') ∧ NLst w1 w1.heap.size a' d.2 := by
        rcases HX.out.deals with h0 | ⟨b, o, ha, hbl, hc⟩
        · rw [h0] at hlt; simp at hlt
        · obtain ⟨a', c', x0, x1, x2⟩ := hc j d hd
          exact ⟨b, o, ha, hbl, a', c', (hB.cell (p := ⟨b, o + j * 2, none⟩) hbl).trans x0, (hB.cell (p := ⟨b, o + j * 2 + 1, none⟩) hbl).trans x1, x2⟩
      have hcl := HC.out d (List.mem_of_getElem? hd)
      have HD := Lib.hid (And.intro hd (And.intro ha hNL))
      have HP := Lib.hid hb
      clear hd ha hNL
      rw [hb]
      clear hb
      by_cases hq : numB d.1 = true
      · by_cases hm : d.2.length ≤ 255
        · have hgd : decide (255 < (d.2.length : Int)) = false := decide_eq_false (by omega)
          have HQ := Lib.hid (show dlB d = true by simp [dlB, hq, hm])
          go_wp2_with fail
          refine (number_any d.1 _).mono ?_
          rintro e2 w' ⟨rfl, rfl⟩
          rw [hq]
          clear hq
          go_wp2_with fail
          go_roundw
          case rel => exact ⟨j + 1, by omega, by go_num, by rw [all_take HD.out.1, HD.out.2.1, HQ.out]; rfl, hB.alloc hB.size _⟩
          case measure => simp [intOf]; omega
        · have hgd : decide (255 < (d.2.length : Int)) = true := decide_eq_true (by omega)
          have HQ := Lib.hid (show dlB d = false by simp [dlB, hm])
          go_wp2_with fail
          refine (number_any d.1 _).mono ?_
          rintro e2 w' ⟨rfl, rfl⟩
          rw [hq]
          clear hq
          go_wp2_with fail
          go_ret
          exact ⟨ret_bool (by rw [all_not HD.out.1 HQ.out]; rfl), step_below HK1.out.2 (hB.alloc hB.size _)⟩
      · have hq : numB d.1 = false := by simpa using hq
        have HQ := Lib.hid (show dlB d = false by simp [dlB, hq])
        go_wp2_with fail
        refine (number_any d.1 _).mono ?_
        rintro e2 w' ⟨rfl, rfl⟩
        rw [hq]
        clear hq
        go_wp2_with fail
        go_ret
        exact ⟨ret_bool (by rw [all_not HD.out.1 HQ.out]; rfl), step_below HK1.out.2 (hB.alloc hB.size _)⟩
    · have hje : j = e.deals.length := by omega
      subst hje
      rw [List.take_length] at ha
      have HA := Lib.hid ha
      have g5 := cell_keep f5 hB
      clear ha
      go_wp2_with fail
      refine (contains_any p.a3 p.c3 e.next wr (HX.out.next.step hB) l3).mono ?_
      rintro e2 w3 ⟨rfl, b3⟩
      go_wp2_with fail
      go_ret
      exact ⟨ret_bool (by rw [HA.out]; simp), step_below HK1.out.2 (step_below hB b3)⟩

set_option maxRecDepth 100000 in
set_option maxHeartbeats 400000 in
theorem formed_any (e : En) (p : Ad) (w : World) (ok : e.Ok) (hL : e.Lim) (hN : NEn w w.heap.size e p) :
    Calls Try.prog 73 #[.agg #[.int .u8 e.k, .int .i64 e.id, .int .i64 e.ep, .slice p.a1 e.x.length p.c1, .slice p.a2 e.coms.length p.c2, .slice p.a3 e.next.length p.c3, .slice p.a4 e.deals.length p.c4]] w (BoolPost e.form w) := by
  have e0 : e.form = (decide (1 ≤ e.k) && decide (e.k ≤ 4) && e.none && numB e.id && numB e.ep && decide (e.x.length ≤ 255) && decide (e.coms.length ≤ 255) && decide (e.next.length ≤ 255) && decide (e.deals.length ≤ 255) && e.deals.all dlB && e.next.all numB) := rfl
  rw [e0]
  have _ := ok.k0
  by_cases k1 : 1 ≤ e.k
  case neg => simpa [k1] using formed_low e p w (by omega)
  by_cases k4 : e.k ≤ 4
  case neg => simpa [k4] using formed_high e p w (by omega)
  cases h : e.none
  case false => simpa using formed_none e p w k1 k4 hL h
  cases h1 : numB e.id
  case false => simpa using formed_id e p w k1 k4 hL h h1
  cases h2 : numB e.ep
  case false => simpa using formed_ep e p w k1 k4 hL h h1 h2
  by_cases h3 : mx4 e.x.length e.coms.length e.next.length e.deals.length ≤ 255
  · obtain ⟨m1, m2, m3, m4⟩ := mx4_iff.1 h3
    have := formed_rest e p w k1 k4 hL hN h h1 h2 (decide_eq_false (by omega))
    simpa [k1, k4, show e.x.length ≤ 255 by omega, show e.coms.length ≤ 255 by omega, show e.next.length ≤ 255 by omega, show e.deals.length ≤ 255 by omega] using this
  · have := formed_len e p w k1 k4 hL h h1 h2 (decide_eq_true (by omega))
    have h4 : ¬ (e.x.length ≤ 255 ∧ e.coms.length ≤ 255 ∧ e.next.length ≤ 255 ∧ e.deals.length ≤ 255) := fun ⟨m1, m2, m3, m4⟩ => h3 (mx4_iff.2 ⟨by omega, by omega, by omega, by omega⟩)
    have h5 : (decide (1 ≤ e.k) && decide (e.k ≤ 4) && true && true && true && decide (e.x.length ≤ 255) && decide (e.coms.length ≤ 255) && decide (e.next.length ≤ 255) && decide (e.deals.length ≤ 255) && e.deals.all dlB && e.next.all numB) = false := by
      rw [Bool.eq_false_iff]
      intro h6
      simp only [Bool.and_eq_true, decide_eq_true_eq] at h6
      exact h4 ⟨h6.1.1.1.1.1.2, h6.1.1.1.1.2, h6.1.1.1.2, h6.1.1.2⟩
    rw [h5]
    exact this

end Go.Proofs.Ytdnkijljpmcejaa
