/-
  consistorylaw13.spoil: all that an entry has is written over.
-/
import Derived.Test.YtdnkijljpmcejaaGreatSim
import Derived.Test.YtdnkijljpmcejaaGreatEDec
import Derived.Test.YtdnkijljpmcejaaGreatERRows
namespace Go.Proofs.YtdnkijljpmcejaaGreat
open Go.RowKit

/-- While it is written over. -/
structure Sp (lo : Nat) (w0 : World) (e : En) (p : Ad) (w : World) : Prop where
  sim : Sim lo w0.heap.size w0 w
  box : Blk w w0.heap.size 27 #[.int .u8 e.k, .int .i64 e.id, .int .i64 e.ep, .slice p.a1 e.x.length p.c1, .slice p.a2 e.coms.length p.c2, .slice p.a3 e.next.length p.c3, .slice p.a4 e.deals.length p.c4]
  lo : lo ≤ w0.heap.size
section
variable {lo : Nat} {w0 w w' : World} {e : En} {p : Ad}
theorem Sp.hs (h : Sp lo w0 e p w) : lo ≤ w.heap.size := by have := h.box.lt; have := h.lo; omega
theorem Sp.kept (h : Sp lo w0 e p w) (b : Below w.heap.size w w') : Sp lo w0 e p w' := ⟨h.sim.kept h.hs b, h.box.kept b, h.lo⟩
theorem Sp.grown {row : Option Nat} (h : Sp lo w0 e p w) (g : w.grownBy w' row) (hr : ∀ q, row = some q → w0.heap.size < q) : Sp lo w0 e p w' :=
  ⟨h.sim.grown h.hs g (fun q hq => Nat.le_of_lt (hr q hq)) h.lo, h.box.grown g (fun x => by have := hr _ x.symm; omega), h.lo⟩
theorem Sp.store {q j : Nat} {t : TypeId} {cur : Array Value} {k : IntKind} {y z : Int} (h : Sp lo w0 e p w) (h5 : Five t) (hq : lo ≤ q) (hb : Blk w q t cur) (hc : cur[j]? = some (.int k y)) (hz : Fit1 k z) : Sp lo w0 e p (w.setCell ⟨q, j, none⟩ (.int k z)) :=
  ⟨h.sim.store h5 hq hb hc hz, h.box.farc (Blk.ne_ h.box hb (fun x => not_five_en (x ▸ h5))) _, h.lo⟩
theorem SimV.int {k : IntKind} {x : Int} {v : Value} (h : SimV (.int k x) v) : ∃ y, v = .int k y := by
  rcases h with rfl | ⟨k', x', y', h, rfl, _⟩
  · exact ⟨x, rfl⟩
  · injection h with h1 _
    subst h1
    exact ⟨y', rfl⟩
theorem Sp.num {k : IntKind} {t : TypeId} {a : Option Addr} {l : List Int} (h : Sp lo w0 e p w) (h5 : Five t) (hr : Row k t lo w0.heap.size w0 a l) {j : Nat} (hj : j < l.length) : ∃ q cur y, a = some ⟨q, 0, none⟩ ∧ lo ≤ q ∧ q < w0.heap.size ∧ Blk w q t cur ∧ cur[j]? = some (.int k y) := by
  rcases hr with rfl | ⟨q, cur, ha, h1, h2, hb, hc⟩
  · simp at hj
  · obtain ⟨cur', k1, k2⟩ := h.sim.blk q t cur h5 h1 h2 hb
    have hx : l[j]? = some l[j] := List.getElem?_eq_getElem hj
    have h3 := k2 j
    rw [hc j _ hx] at h3
    obtain ⟨v', e1, hs⟩ := SimO.some h3
    obtain ⟨y, rfl⟩ := hs.int
    exact ⟨q, cur', y, ha, h1, h2, k1, e1⟩
/-- The slices of lists, and where they lie. -/
theorem OLst.vals {a : Option Addr} {ls : List (List Int)} {lo H : Nat} {w0 : World} (ho : OLst lo H w0 a ls) : ∃ xs : List Value, LAcc lo H w0 xs ls ∧ (∀ u ∈ xs, u.oneCell' = true) ∧ (∀ w, Sim lo H w0 w → xs = [] ∨ ∃ p, a = some p ∧ ∀ (j : Nat) u, xs[j]? = some u → w.cell? (p.add j) = some u) := by
  rcases ho with rfl | ⟨q, cur, ha, h1, h2, hb, hc⟩
  · exact ⟨[], LAcc.nil, by simp, fun _ _ => .inl rfl⟩
  · obtain ⟨xs, hl, hQ⟩ := choose_list (Q := fun i (v : Value) => ∀ l, ls[i]? = some l → cur[i]? = some v ∧ ∃ a' c', v = .slice a' (l : List Int).length c' ∧ Row .u64 56 lo H w0 a' l) ls.length fun i hi => by
      have hx : ls[i]? = some ls[i] := List.getElem?_eq_getElem hi
      obtain ⟨a', c', e1, hr⟩ := hc i _ hx
      exact ⟨.slice a' ls[i].length c', fun l hl => by
        rw [hx] at hl
        obtain rfl := Option.some.inj hl
        exact ⟨e1, a', c', rfl, hr⟩⟩
    have hat : ∀ (i : Nat) u, xs[i]? = some u → ∃ l, ls[i]? = some l ∧ cur[i]? = some u ∧ ∃ a' c', u = .slice a' (l : List Int).length c' ∧ Row .u64 56 lo H w0 a' l := fun i u hu => by
      have hi : i < ls.length := by rw [← hl]; exact (List.getElem?_eq_some_iff.1 hu).1
      have hx : ls[i]? = some ls[i] := List.getElem?_eq_getElem hi
      obtain ⟨h3, h4⟩ := hQ i u hu _ hx
      exact ⟨ls[i], hx, h3, h4⟩
    refine ⟨xs, ⟨hl, fun i l hli => ?_⟩, fun u hu => ?_, fun w hs => .inr ⟨_, ha, fun j u hu => ?_⟩⟩
    · have hi : i < xs.length := by rw [hl]; exact (List.getElem?_eq_some_iff.1 hli).1
      have hx : xs[i]? = some xs[i] := List.getElem?_eq_getElem hi
      obtain ⟨_, a', c', h4, h5⟩ := hQ i _ hx l hli
      exact ⟨a', c', by rw [hx, h4], h5⟩
    · obtain ⟨i, hi⟩ := List.mem_iff_getElem?.1 hu
      obtain ⟨l, _, _, a', c', rfl, _⟩ := hat i u hi
      rfl
    · obtain ⟨l, _, h3, a', c', rfl, _⟩ := hat j u hu
      obtain ⟨cur', k1, k2⟩ := hs.blk q _ cur five_l h1 h2 hb
      have h6 := k2 j
      rw [h3] at h6
      obtain ⟨v', e1, hs⟩ := SimO.some h6
      obtain rfl := hs.slice
      rw [Addr.add_lit, Nat.zero_add, k1.cell]
      exact e1
theorem LAcc.app {lo H : Nat} {w : World} {xs ys : List Value} {ls ms : List (List Int)} (h : LAcc lo H w xs ls) (k : LAcc lo H w ys ms) : LAcc lo H w (xs ++ ys) (ls ++ ms) := by
  refine ⟨by simp [h.1, k.1], fun i l hl => ?_⟩
  rcases Nat.lt_or_ge i ls.length with hi | hi
  · rw [List.getElem?_append_left hi] at hl
    obtain ⟨a', c', g1, g2⟩ := h.2 i l hl
    exact ⟨a', c', by rw [List.getElem?_append_left (by rw [h.1]; exact hi)]; exact g1, g2⟩
  · rw [List.getElem?_append_right hi] at hl
    obtain ⟨a', c', g1, g2⟩ := k.2 _ l hl
    exact ⟨a', c', by rw [List.getElem?_append_right (by rw [h.1]; exact hi), h.1]; exact g1, g2⟩
end
theorem own_cellq {q base n c : Nat} {e : TypeId} {w : World} {xs : List Value} (h : w.ownsRow base e 1 (.slice (some ⟨q, 0, none⟩) n c) n xs) {i : Nat} {x : Value} (hx : xs[i]? = some x) : w.cell? ⟨q, i, none⟩ = some x := by
  rcases own_take h with rfl | ⟨q', cur, ha, _, _, hb, hc⟩
  · simp at hx
  · injection ha with ha
    injection ha with ha
    subst ha
    exact (hb.cell i).trans (hc i x hx)
def flatD (ds : List Dl) : List (List Int) := ds.flatMap (·.2)
theorem flatD_take {ds : List Dl} {j : Nat} {d : Dl} (h : ds[j]? = some d) : flatD (ds.take (j + 1)) = flatD (ds.take j) ++ d.2 := by
  unfold flatD
  rw [List.take_add_one, h, List.flatMap_append]
  simp
theorem flatD_len : ∀ (ds : List Dl), (∀ d ∈ ds, d.2.length ≤ 5000) → (flatD ds).length ≤ 5000 * ds.length
  | [], _ => by simp [flatD]
  | d :: ds, h => by
    have h1 := flatD_len ds fun x hx => h x (by simp [hx])
    have h2 := h d (by simp)
    unfold flatD at h1 ⊢
    rw [List.flatMap_cons, List.length_append, List.length_cons]
    omega
/-- Nothing is answered; what was written over is of its form. -/
def SpPost (lo : Nat) (w : World) (r : Ending) (w' : World) : Prop := r = .returned (.tuple #[]) ∧ Sim lo w.heap.size w w'
set_option maxRecDepth 100000 in
set_option maxHeartbeats 4000000 in
theorem spoil_any (e : En) (p : Ad) (lo : Nat) (w : World) (hlo : lo ≤ w.heap.size) (hO : OEn lo w.heap.size w e p) (hL : e.Lim) :
    Calls Tryz.prog 12 #[.agg #[.int .u8 e.k, .int .i64 e.id, .int .i64 e.ep, .slice p.a1 e.x.length p.c1, .slice p.a2 e.coms.length p.c2, .slice p.a3 e.next.length p.c3, .slice p.a4 e.deals.length p.c4]] w (SpPost lo w) := by
  have K0 : Sp lo w e p (w.alloc (.cells #[.int .u8 e.k, .int .i64 e.id, .int .i64 e.ep, .slice p.a1 e.x.length p.c1, .slice p.a2 e.coms.length p.c2, .slice p.a3 e.next.length p.c3, .slice p.a4 e.deals.length p.c4] 27)) := ⟨(Sim.refl lo _ w).kept hlo ((Below.refl _ w).alloc (Nat.le_refl _) _), Blk.new w _ _, hlo⟩
  have HK := Lib.hid K0
  have HO := Lib.hid hO
  have HL := Lib.hid hL
  have lx := hL.x
  have ln := hL.next
  have lc := hL.coms
  have ld := hL.deals
  clear K0 hO hL
  go_enter Tryz.func12, Tryz.ntmps12
  go_wp2_with fail
  go_loopw [2] (fun v wr => ∃ j : Nat, j ≤ e.x.length ∧ v = .int .i64 j ∧ Sp lo w e p wr) (fun v _ => e.x.length - (intOf v).toNat)
  case atStart => exact ⟨0, Nat.zero_le _, rfl, HK.out⟩
  case round =>
    clear HK
    obtain ⟨j, hj, rfl, K1⟩ := hrel
    have f : wr.cell? ⟨w.heap.size, 3, none⟩ = some (.slice p.a1 e.x.length p.c1) := K1.box.cell 3
    have HK := Lib.hid K1
    have hbx := K1.box.lt
    by_cases hlt : j < e.x.length
    · have hjI : (j : Int) < (e.x.length : Int) := by omega
      obtain ⟨q, cur, y, hpa, h1, h2, hb, hc⟩ := K1.num five_x HO.out.x hlt
      have hcell : wr.cell? ⟨q, j, none⟩ = some (.int .i64 y) := (hb.cell j).trans hc
      have hfr := hb.frozen j
      have HK1 := Lib.hid (K1.store (z := -77) five_x h1 hb hc (fit_i.2 (by unfold I64; omega)))
      rw [hpa] at f
      clear hpa hb hc K1
      go_wp2_with fail
      go_roundw
      case rel => exact ⟨j + 1, by omega, by go_num, HK1.out⟩
      case measure => simp [intOf]; omega
    · have hnI : decide ((j : Int) < (e.x.length : Int)) = false := decide_eq_false (by omega)
      clear K1
      go_wp2_with fail
      clear hnI f
      go_loopw [3] (fun v wr => ∃ j : Nat, j ≤ e.next.length ∧ v = .int .i64 j ∧ Sp lo w e p wr) (fun v _ => e.next.length - (intOf v).toNat)
      case atStart => exact ⟨0, Nat.zero_le _, rfl, HK.out⟩
      case round =>
        clear HK
        obtain ⟨j, hj, rfl, K1⟩ := hrel
        have f : wr.cell? ⟨w.heap.size, 5, none⟩ = some (.slice p.a3 e.next.length p.c3) := K1.box.cell 5
        have HK := Lib.hid K1
        have hbx := K1.box.lt
        by_cases hlt : j < e.next.length
        · have hjI : (j : Int) < (e.next.length : Int) := by omega
          obtain ⟨q, cur, y, hpa, h1, h2, hb, hc⟩ := K1.num five_n HO.out.next hlt
          have hcell : wr.cell? ⟨q, j, none⟩ = some (.int .i64 y) := (hb.cell j).trans hc
          have hfr := hb.frozen j
          have HK1 := Lib.hid (K1.store (z := -7) five_n h1 hb hc (fit_i.2 (by unfold I64; omega)))
          rw [hpa] at f
          clear hpa hb hc K1
          go_wp2_with fail
          go_roundw
          case rel => exact ⟨j + 1, by omega, by go_num, HK1.out⟩
          case measure => simp [intOf]; omega
        · have hnI : decide ((j : Int) < (e.next.length : Int)) = false := decide_eq_false (by omega)
          clear K1
          have f4 : wr.cell? ⟨w.heap.size, 4, none⟩ = some (.slice p.a2 e.coms.length p.c2) := HK.out.box.cell 4
          obtain ⟨i1, hi1, hy0, hy1, hy2⟩ := info_parts infoLst
          obtain ⟨xs0, hx1, hx2, hx3⟩ := OLst.vals HO.out.coms
          have own0 : (wr.alloc (.cells #[] 45)).ownsRow (w.heap.size + 1) 45 1 (.slice (some ⟨wr.heap.size, 0, none⟩) 0 0) 0 [] := World.ownsRow_made wr #[] 0 (by omega) (Nat.zero_le _) (by simp)
          have HK2 := Lib.hid (HK.out.kept ((Below.refl _ wr).alloc (Nat.le_refl _) (.cells #[] 45)))
          have hn3 := hx3 _ HK2.out.sim
          have hxl : xs0.length = e.coms.length * 1 := by rw [hx1.1, Nat.mul_one]
          have f4' : (wr.alloc (.cells #[] 45)).cell? ⟨w.heap.size, 4, none⟩ = some (.slice p.a2 e.coms.length p.c2) := HK2.out.box.cell 4
          have HX := Lib.hid (And.intro hx1 (And.intro hx2 (And.intro hn3 (And.intro own0 hxl))))
          clear hx1 hx2 hx3 own0 hn3 hxl
          go_wp2_with (at_builtin; refine wpList_append_gen _ rfl (.tmp 30) (.tmp 32) 23 rfl (w.heap.size + 1) 45 i1 (.slice none 0 0) 1 24 Tryz.underlying23 hi1 hy0 hy1 hy2 rfl (by decide) (.slice (some ⟨wr.heap.size, 0, none⟩) 0 0) 0 [] rfl HX.out.2.2.2.1 (own_some _ _ _) p.a2 e.coms.length p.c2 xs0 rfl HX.out.2.2.2.2 HX.out.2.2.1 HX.out.2.1 (by simp [maxLen]; omega) (by omega) (by simp; omega) ?_; intro q2 cap2 w2 own2 g2 _)
          rw [Nat.zero_add, List.nil_append] at own2
          have K2 := Lib.hid (And.intro (HK2.out.grown g2 (fun x hx => by have hx' : some wr.heap.size = some x := hx; injection hx' with h; omega)) (And.intro own2 HX.out.1))
          clear own2 g2 HK2 HK f4 f4' HX hnI f
          go_loopw [4, 5] (fun u v wr => ∃ (j : Nat) (xs : List Value) (q c : Nat), j ≤ e.deals.length ∧ v = .int .i64 j ∧ u = .slice (some ⟨q, 0, none⟩) (e.coms ++ flatD (e.deals.take j)).length c ∧ Sp lo w e p wr ∧ wr.ownsRow (w.heap.size + 1) 45 1 u (e.coms ++ flatD (e.deals.take j)).length xs ∧ LAcc lo w.heap.size w xs (e.coms ++ flatD (e.deals.take j))) (fun _ v _ => e.deals.length - (intOf v).toNat)
          case atStart => exact ⟨0, xs0, q2, cap2, Nat.zero_le _, rfl, by simp [flatD], K2.out.1, by simpa [flatD] using K2.out.2.1, by simpa [flatD] using K2.out.2.2⟩
          case round =>
            clear K2
            obtain ⟨j, xs, q, c, hj, rfl, rfl, K1, own1, acc1⟩ := hrel
            have f : wr.cell? ⟨w.heap.size, 6, none⟩ = some (.slice p.a4 e.deals.length p.c4) := K1.box.cell 6
            have hbx := K1.box.lt
            have hfl := flatD_len (e.deals.take j) fun d hd => HL.out.col d (List.mem_of_mem_take hd)
            have htl : (e.deals.take j).length ≤ 5000 := by rw [List.length_take]; omega
            have hfl2 : (e.coms ++ flatD (e.deals.take j)).length ≤ 26000000 := by rw [List.length_append]; omega
            by_cases hlt : j < e.deals.length
            · have hjI : (j : Int) < (e.deals.length : Int) := by omega
              obtain ⟨d, hd⟩ : ∃ d, e.deals[j]? = some d := ⟨_, List.getElem?_eq_getElem hlt⟩
              have hdl := HL.out.col d (List.mem_of_getElem? hd)
              obtain ⟨b, cur, a', c', y, hpa, hb1, hb2, hb, hc0, hc1, hls⟩ : ∃ b cur a' c' y, p.a4 = some ⟨b, 0, none⟩ ∧ lo ≤ b ∧ b < w.heap.size ∧ Blk wr b 41 cur ∧ cur[j * 2]? = some (.int .i64 y) ∧ cur[j * 2 + 1]? = some (.slice a' d.2.length c') ∧ OLst lo w.heap.size w a' d.2 := by
                rcases HO.out.deals with h0 | ⟨b, cur, ha, h1, h2, hb, hc⟩
                · rw [h0] at hlt; simp at hlt
                · obtain ⟨a', c', x0, x1, x2⟩ := hc j d hd
                  obtain ⟨cur', k1, k2⟩ := K1.sim.blk b _ cur five_d h1 h2 hb
                  have h3 := k2 (j * 2)
                  rw [x0] at h3
                  obtain ⟨v', e1, hs⟩ := SimO.some h3
                  obtain ⟨y, rfl⟩ := hs.int
                  have h4 := k2 (j * 2 + 1)
                  rw [x1] at h4
                  obtain ⟨v', e2, hs⟩ := SimO.some h4
                  obtain rfl := hs.slice
                  exact ⟨b, cur', a', c', y, ha, h1, h2, k1, e1, e2, x2⟩
              rw [hpa] at f
              obtain ⟨ys, hy1', hy2', hy3'⟩ := OLst.vals hls
              have hn3 := hy3' _ K1.sim
              have hyl : ys.length = d.2.length * 1 := by rw [hy1'.1, Nat.mul_one]
              have k0 : wr.cell? ⟨b, j * 2, none⟩ = some (.int .i64 y) := (hb.cell _).trans hc0
              have k1 : wr.cell? ⟨b, j * 2 + 1, none⟩ = some (.slice a' d.2.length c') := (hb.cell _).trans hc1
              have HX := Lib.hid (And.intro hn3 (And.intro hy2' (And.intro own1 (And.intro hyl (And.intro acc1 hy1')))))
              have HK := Lib.hid K1
              have HB := Lib.hid (And.intro hb (And.intro hc0 (And.intro hd hpa)))
              have hm2 : (e.coms ++ flatD (e.deals.take j)).length + d.2.length = (e.coms ++ flatD (e.deals.take (j + 1))).length := by
                have h9 := congrArg List.length (flatD_take hd)
                simp only [List.length_append] at h9 ⊢
                omega
              clear hpa hy1' hy2' hy3' hn3 hyl own1 acc1 K1 hb hc0 hc1 hls hd hfl htl
              have HM := Lib.hid hm2
              clear hm2
              generalize (e.coms ++ flatD (e.deals.take j)).length = m at *
              go_wp2_with (at_builtin; refine wpList_append_gen _ rfl (.tmp 41) (.tmp 47) 23 rfl (w.heap.size + 1) 45 i1 (.slice none 0 0) 1 24 Tryz.underlying23 hi1 hy0 hy1 hy2 rfl (by decide) (.slice (some ⟨q, 0, none⟩) m c) m xs rfl HX.out.2.2.1 (own_some _ _ _) a' d.2.length c' ys rfl HX.out.2.2.2.1 HX.out.1 HX.out.2.1 (by simp [maxLen]; omega) (by omega) (by omega) ?_; intro q3 cap3 w3 own3 g3 _; have HK3 := Lib.hid (And.intro (HK.out.grown g3 (fun x hx => Nat.lt_of_lt_of_le (Nat.lt_succ_self _) (own_lt HX.out.2.2.1 x hx))) (And.intro own3 (Blk.grown HB.out.1 g3 (own_ne' HX.out.2.2.1 HB.out.1 (by decide))))); have f3 : w3.cell? ⟨w.heap.size, 6, none⟩ = some (.slice (some ⟨b, 0, none⟩) e.deals.length p.c4) := (HK3.out.1.box.cell 6).trans (by rw [HB.out.2.2.2]; rfl); have k3 : w3.cell? ⟨b, j * 2, none⟩ = some (.int .i64 y) := (HK3.out.2.2.cell _).trans HB.out.2.1; have fr3 := HK3.out.2.2.frozen (j * 2); clear f k0 k1 own3 g3 HK)
              have HK4 := Lib.hid (And.intro (HK3.out.1.store (z := -7) five_d hb1 HK3.out.2.2 HB.out.2.1 (fit_i.2 (by unfold I64; omega))) (own_setc (i := j * 2) HK3.out.2.1 HK3.out.2.2 (by decide) (.int .i64 (-7))))
              go_roundw
              case rel => exact ⟨j + 1, xs ++ ys, q3, cap3, by omega, by go_num, by rw [← HM.out], HK4.out.1, by rw [← HM.out]; exact HK4.out.2, by rw [flatD_take HB.out.2.2.1, ← List.append_assoc]; exact HX.out.2.2.2.2.1.app HX.out.2.2.2.2.2⟩
              case measure => simp [intOf]; omega
            · have hnI : decide ((j : Int) < (e.deals.length : Int)) = false := decide_eq_false (by omega)
              have hlen : ∀ l ∈ e.coms ++ flatD (e.deals.take j), l.length ≤ 5000 := by
                intro l hl
                rcases List.mem_append.1 hl with h | h
                · exact HL.out.com l h
                · obtain ⟨d, hd, hld⟩ := List.mem_flatMap.1 h
                  exact HL.out.cols d (List.mem_of_mem_take hd) l hld
              clear hfl htl
              generalize e.coms ++ flatD (e.deals.take j) = ls at *
              have HF := Lib.hid (And.intro acc1 hlen)
              have HK := Lib.hid (And.intro K1 own1)
              clear K1 own1 acc1 hlen
              go_wp2_with fail
              clear hnI f
              go_loopw [6] (fun v wr => ∃ i : Nat, i ≤ ls.length ∧ v = .int .i64 i ∧ Sp lo w e p wr ∧ wr.ownsRow (w.heap.size + 1) 45 1 (.slice (some ⟨q, 0, none⟩) ls.length c) ls.length xs) (fun v _ => ls.length - (intOf v).toNat)
              case atStart => exact ⟨0, Nat.zero_le _, rfl, HK.out.1, HK.out.2⟩
              case round =>
                clear HK
                obtain ⟨i, hi, rfl, K1, own1⟩ := hrel
                by_cases hlt4 : i < ls.length
                · have hiI : (i : Int) < (ls.length : Int) := by omega
                  obtain ⟨l, hl⟩ : ∃ l, ls[i]? = some l := ⟨_, List.getElem?_eq_getElem hlt4⟩
                  have hll := HF.out.2 l (List.mem_of_getElem? hl)
                  obtain ⟨a', c', x1, hrow⟩ := HF.out.1.2 i l hl
                  have HR := Lib.hid (And.intro x1 hrow)
                  have HK := Lib.hid (And.intro K1 own1)
                  clear x1 hrow hl K1 own1
                  go_wp2_with fail
                  go_loopw [7] (fun v wr => ∃ k : Nat, k ≤ l.length ∧ v = .int .i64 k ∧ Sp lo w e p wr ∧ wr.ownsRow (w.heap.size + 1) 45 1 (.slice (some ⟨q, 0, none⟩) ls.length c) ls.length xs) (fun v _ => l.length - (intOf v).toNat)
                  case atStart => exact ⟨0, Nat.zero_le _, rfl, HK.out.1, HK.out.2⟩
                  case round =>
                    clear HK
                    obtain ⟨k, hk, rfl, K1, own1⟩ := hrel
                    have f : wr.cell? ⟨q, i, none⟩ = some (.slice a' l.length c') := own_cellq own1 HR.out.1
                    by_cases hlt5 : k < l.length
                    · have hkI : (k : Int) < (l.length : Int) := by omega
                      obtain ⟨q5, cur, y, hpa, h1, h2, hb, hc⟩ := K1.num five_u HR.out.2 hlt5
                      have hcell : wr.cell? ⟨q5, k, none⟩ = some (.int .u64 y) := (hb.cell k).trans hc
                      have hfr := hb.frozen k
                      have HK1 := Lib.hid (And.intro (K1.store (z := 77) five_u h1 hb hc (fit_u.2 (by unfold U64; omega))) (own_setc (i := k) own1 hb (by decide) (.int .u64 77)))
                      rw [hpa] at f
                      clear hpa hb hc K1 own1
                      go_wp2_with fail
                      go_roundw
                      case rel => exact ⟨k + 1, by omega, by go_num, HK1.out.1, HK1.out.2⟩
                      case measure => simp [intOf]; omega
                    · have hkI : decide ((k : Int) < (l.length : Int)) = false := decide_eq_false (by omega)
                      have HK := Lib.hid (And.intro K1 own1)
                      clear K1 own1
                      go_wp2_with fail
                      go_roundw
                      case rel => exact ⟨i + 1, by omega, by go_num, HK.out.1, HK.out.2⟩
                      case measure => simp [intOf]; omega
                · have hiI : decide ((i : Int) < (ls.length : Int)) = false := decide_eq_false (by omega)
                  have HK := Lib.hid K1.sim
                  clear K1 own1
                  go_wp2_with fail
                  refine bodyPost_ret (v := .tuple #[]) (by simp [results, Tryz.results12, go_sem]) rfl ?_
                  exact ⟨rfl, HK.out⟩

end Go.Proofs.YtdnkijljpmcejaaGreat
