/-
  consistorylaw13.filled: what holds at its loops, and at its end.
-/
import Derived.Test.YtdnkijljpmcejaaEFill
namespace Go.Proofs.Ytdnkijljpmcejaa
open Go.RowKit

theorem wm {n m : Int} (hn : U64 n) (h0 : 0 < m) (hm : m ≤ 1099511627776) : wrap64 (n.tmod m) = n % m := by
  unfold U64 at hn
  rw [Int.tmod_eq_emod_of_nonneg hn.1]
  have h1 := Int.emod_nonneg n (show m ≠ 0 by omega)
  have h2 := Int.emod_lt_of_pos n h0
  unfold wrap64
  omega
theorem wm_numB {n m : Int} (hn : U64 n) (h0 : 0 < m) (hm : m ≤ 1099511627776) : numB (wrap64 (n.tmod m)) = true := by
  rw [wm hn h0 hm]
  exact numB_iff.2 ⟨Int.emod_nonneg n (show m ≠ 0 by omega), by have := Int.emod_lt_of_pos n h0; omega⟩
/-- The copy, on its way. -/
structure PL (w0 : World) (lo H C : Nat) (e e' : En) (p : Ad) (id ep : Int) (w : World) : Prop where
  sh : Shape e e'
  ok : e'.Ok
  oen : OEn lo H w e' p
  box : Blk w C 55 #[.int .u8 e.k, .int .i64 id, .int .i64 ep, .slice p.a1 e.x.length p.c1, .slice p.a2 e.coms.length p.c2, .slice p.a3 e.next.length p.c3, .slice p.a4 e.deals.length p.c4]
  res : Blk w (w0.heap.size + 1) 55 zero7
  bel : Below w0.heap.size w0 w
  hlo : w0.heap.size + 2 ≤ lo
  hC : lo ≤ C
  hCH : C < H
  hH : H ≤ w.heap.size
section
variable {w0 w5 w : World} {lo H C : Nat} {e e' : En} {p : Ad} {id ep : Int}
theorem PL.id_ (h : PL w0 lo H C e e' p id ep w) (x : Int) : PL w0 lo H C e e' p x ep (w.setCell ⟨C, 1, none⟩ (.int .i64 x)) :=
  ⟨h.sh, h.ok, h.oen.kept (Kp.of_only ((Only.refl w C).setc (.inl rfl) _) h.box not_five_en), h.box.set_ 1 _, h.res.farc (by have := h.hlo; have := h.hC; omega) _, h.bel.setCell (p := ⟨C, 1, none⟩) (show w0.heap.size ≤ C by have := h.hlo; have := h.hC; omega) _, h.hlo, h.hC, h.hCH, by have := h.hH; simpa [World.setCell] using this⟩
theorem PL.ep_ (h : PL w0 lo H C e e' p id ep w) (x : Int) : PL w0 lo H C e e' p id x (w.setCell ⟨C, 2, none⟩ (.int .i64 x)) :=
  ⟨h.sh, h.ok, h.oen.kept (Kp.of_only ((Only.refl w C).setc (.inl rfl) _) h.box not_five_en), h.box.set_ 2 _, h.res.farc (by have := h.hlo; have := h.hC; omega) _, h.bel.setCell (p := ⟨C, 2, none⟩) (show w0.heap.size ≤ C by have := h.hlo; have := h.hC; omega) _, h.hlo, h.hC, h.hCH, by have := h.hH; simpa [World.setCell] using this⟩
/-- The first places have the value. -/
def VB (t : TypeId) (m : Nat) (a : Option Addr) (n : Nat) (v : Value) (j : Nat) (w : World) : Prop :=
  n = 0 ∨ ∃ q cur, a = some ⟨q, 0, none⟩ ∧ Blk w q t cur ∧ ∀ i, i < j → cur[i * m]? = some v
theorem VB.far {t t' : TypeId} {m : Nat} {a : Option Addr} {n : Nat} {v u : Value} {j q i : Nat} {cs : Array Value} (h : VB t m a n v j w) (hb : Blk w q t' cs) (hne : t ≠ t') : VB t m a n v j (w.setCell ⟨q, i, none⟩ u) := by
  rcases h with h | ⟨q', cur, ha, hb', hc⟩
  · exact .inl h
  · exact .inr ⟨q', cur, ha, hb'.farc (Blk.ne_ hb' hb hne) u, hc⟩
theorem VB.next {t : TypeId} {m : Nat} {a : Option Addr} {n : Nat} {v u : Value} {j q : Nat} {cs : Array Value} (h : VB t m a n v j w) (hm : 0 < m) (ha : a = some ⟨q, 0, none⟩) (hb : Blk w q t cs) (hc : cs[j * m]? = some u) : VB t m a n v (j + 1) (w.setCell ⟨q, j * m, none⟩ v) := by
  rcases h with h | ⟨q', cur, ha', hb', hc'⟩
  · exact .inl h
  · rw [ha] at ha'
    injection ha' with ha'
    injection ha' with ha'
    subst ha'
    obtain ⟨-, rfl⟩ := Blk.uni hb hb'
    refine .inr ⟨q, _, ha, hb.set_ _ v, fun i hi => ?_⟩
    by_cases hij : i = j
    · subst hij
      have := (Array.getElem?_eq_some_iff.1 hc).1
      simp [this]
    · rw [Array.getElem?_setIfInBounds_ne (by intro x; exact hij (Nat.eq_of_mul_eq_mul_right hm x.symm))]
      exact hc' i (by omega)
theorem Sim.num {w' : World} {k : IntKind} {t : TypeId} {a : Option Addr} {l : List Int} (h : Sim lo H w w') (h5 : Five t) (hr : Row k t lo H w a l) {j : Nat} (hj : j < l.length) : ∃ q cur y, a = some ⟨q, 0, none⟩ ∧ lo ≤ q ∧ q < H ∧ Blk w' q t cur ∧ cur[j]? = some (.int k y) := by
  rcases hr with rfl | ⟨q, cur, ha, h1, h2, hb, hc⟩
  · simp at hj
  · obtain ⟨cur', k1, k2⟩ := h.blk q t cur h5 h1 h2 hb
    have hx : l[j]? = some l[j] := List.getElem?_eq_getElem hj
    have h3 := k2 j
    rw [hc j _ hx] at h3
    obtain ⟨v', e1, hs⟩ := SimO.some h3
    obtain ⟨y, rfl⟩ := hs.int
    exact ⟨q, cur', y, ha, h1, h2, k1, e1⟩
theorem Sim.to_ {w' : World} {a : Option Addr} {ds : List Dl} (h : Sim lo H w w') (hr : ODls lo H w a ds) {j : Nat} (hj : j < ds.length) : ∃ q cur y, a = some ⟨q, 0, none⟩ ∧ lo ≤ q ∧ q < H ∧ Blk w' q 58 cur ∧ cur[j * 2]? = some (.int .i64 y) := by
  rcases hr with rfl | ⟨q, cur, ha, h1, h2, hb, hc⟩
  · simp at hj
  · obtain ⟨cur', k1, k2⟩ := h.blk q _ cur five_d h1 h2 hb
    obtain ⟨a', c', x0, x1, x2⟩ := hc j ds[j] (List.getElem?_eq_getElem hj)
    have h3 := k2 (j * 2)
    rw [x0] at h3
    obtain ⟨v', e1, hs⟩ := SimO.some h3
    obtain ⟨y, rfl⟩ := hs.int
    exact ⟨q, cur', y, ha, h1, h2, k1, e1⟩
/-- In the loops. -/
structure FL (w0 : World) (lo H C : Nat) (e e' : En) (p : Ad) (id ep n : Int) (w5 : World) (j i : Nat) (w : World) : Prop where
  pl : PL w0 lo H C e e' p id ep w5
  sim : Sim lo H w5 w
  nb : VB 3 1 p.a3 e.next.length (.int .i64 (wrap64 (n.tmod 9))) j w
  db : VB 58 2 p.a4 e.deals.length (.int .i64 (wrap64 (n.tmod 1000))) i w
variable {n : Int} {j i : Nat}
theorem FL.start (h : PL w0 lo H C e e' p id ep w5) : FL w0 lo H C e e' p id ep n w5 0 0 w5 := by
  refine ⟨h, Sim.refl _ _ _, ?_, ?_⟩
  · by_cases h0 : e.next.length = 0
    · exact .inl h0
    · obtain ⟨q, cur, y, ha, _, _, hb, _⟩ := (Sim.refl lo H w5).num (j := 0) five_n h.oen.next (by have := h.sh.next; omega)
      exact .inr ⟨q, cur, ha, hb, fun i hi => by omega⟩
  · by_cases h0 : e.deals.length = 0
    · exact .inl h0
    · obtain ⟨q, cur, y, ha, _, _, hb, _⟩ := (Sim.refl lo H w5).to_ (j := 0) h.oen.deals (by have := dlens_length h.sh.deals; omega)
      exact .inr ⟨q, cur, ha, hb, fun i hi => by omega⟩
theorem FL.box (h : FL w0 lo H C e e' p id ep n w5 j i w) : Blk w C 55 #[.int .u8 e.k, .int .i64 id, .int .i64 ep, .slice p.a1 e.x.length p.c1, .slice p.a2 e.coms.length p.c2, .slice p.a3 e.next.length p.c3, .slice p.a4 e.deals.length p.c4] := h.sim.oth _ _ h.pl.hCH h.pl.box
theorem FL.res (h : FL w0 lo H C e e' p id ep n w5 j i w) : Blk w (w0.heap.size + 1) 55 zero7 := h.sim.oth _ _ (by have := h.pl.hlo; have := h.pl.hC; have := h.pl.hCH; omega) h.pl.res
theorem FL.numN (h : FL w0 lo H C e e' p id ep n w5 j i w) {k : Nat} (hk : k < e.next.length) : ∃ q cur y, p.a3 = some ⟨q, 0, none⟩ ∧ lo ≤ q ∧ q < H ∧ Blk w q 3 cur ∧ cur[k]? = some (.int .i64 y) := h.sim.num five_n h.pl.oen.next (by rw [h.pl.sh.next]; exact hk)
theorem FL.numD (h : FL w0 lo H C e e' p id ep n w5 j i w) {k : Nat} (hk : k < e.deals.length) : ∃ q cur y, p.a4 = some ⟨q, 0, none⟩ ∧ lo ≤ q ∧ q < H ∧ Blk w q 58 cur ∧ cur[k * 2]? = some (.int .i64 y) := h.sim.to_ h.pl.oen.deals (by rw [dlens_length h.pl.sh.deals]; exact hk)
theorem FL.nextN (h : FL w0 lo H C e e' p id ep n w5 j i w) (hn : U64 n) {q : Nat} {cur : Array Value} {y : Int} (ha : p.a3 = some ⟨q, 0, none⟩) (hq : lo ≤ q) (hb : Blk w q 3 cur) (hc : cur[j]? = some (.int .i64 y)) : FL w0 lo H C e e' p id ep n w5 (j + 1) i (w.setCell ⟨q, j, none⟩ (.int .i64 (wrap64 (n.tmod 9)))) := by
  have h1 := h.nb.next (by decide) ha hb (by rw [Nat.mul_one]; exact hc)
  rw [Nat.mul_one] at h1
  exact ⟨h.pl, h.sim.store five_n hq hb hc (fit_i.2 (numB_i64 (wm_numB hn (by decide) (by decide)))), h1, h.db.far hb (by decide)⟩
theorem FL.nextD (h : FL w0 lo H C e e' p id ep n w5 j i w) (hn : U64 n) {q : Nat} {cur : Array Value} {y : Int} (ha : p.a4 = some ⟨q, 0, none⟩) (hq : lo ≤ q) (hb : Blk w q 58 cur) (hc : cur[i * 2]? = some (.int .i64 y)) : FL w0 lo H C e e' p id ep n w5 j (i + 1) (w.setCell ⟨q, i * 2, none⟩ (.int .i64 (wrap64 (n.tmod 1000)))) :=
  ⟨h.pl, h.sim.store five_d hq hb hc (fit_i.2 (numB_i64 (wm_numB hn (by decide) (by decide)))), h.nb.far hb (by decide), h.db.next (by decide) ha hb hc⟩
end
/-- Another entry of the form, in blocks of its own. -/
def FilPost (e : En) (w : World) (r : Ending) (w' : World) : Prop :=
  ∃ (f : En) (p : Ad), Fil e f ∧ f.Ok ∧ f.Lim ∧ r = .returned (.agg #[.int .u8 f.k, .int .i64 f.id, .int .i64 f.ep, .slice p.a1 f.x.length p.c1, .slice p.a2 f.coms.length p.c2, .slice p.a3 f.next.length p.c3, .slice p.a4 f.deals.length p.c4]) ∧ NEn w' w'.heap.size f p ∧ Below w.heap.size w w'
theorem lens_lim {a b : List (List Int)} (h : lens a = lens b) {m : Nat} (hb : ∀ l ∈ b, l.length ≤ m) : ∀ l ∈ a, l.length ≤ m := by
  intro l hl
  have : l.length ∈ lens a := List.mem_map.2 ⟨l, hl, rfl⟩
  rw [h] at this
  obtain ⟨l', h1, h2⟩ := List.mem_map.1 this
  rw [← h2]
  exact hb l' h1
theorem dlens_lim {a b : List Dl} (h : dlens a = dlens b) {m : Nat} (hb : ∀ d ∈ b, d.2.length ≤ m ∧ ∀ l ∈ d.2, l.length ≤ m) : ∀ d ∈ a, d.2.length ≤ m ∧ ∀ l ∈ d.2, l.length ≤ m := by
  intro d hd
  have : lens d.2 ∈ dlens a := List.mem_map.2 ⟨d, hd, rfl⟩
  rw [h] at this
  obtain ⟨d', h1, h2⟩ := List.mem_map.1 this
  have h3 := hb d' h1
  exact ⟨by rw [lens_length h2.symm]; exact h3.1, lens_lim h2.symm h3.2⟩
theorem Fil.lim {e f : En} (h : Fil e f) (hL : e.Lim) : f.Lim := by
  have hd := dlens_lim h.deals (m := 5000) fun d hd => ⟨hL.col d hd, hL.cols d hd⟩
  exact ⟨by rw [h.x]; exact hL.x, by rw [lens_length h.coms]; exact hL.coms, by rw [h.next]; exact hL.next, by rw [dlens_length h.deals]; exact hL.deals, lens_lim h.coms hL.com, fun d h => (hd d h).1, fun d h => (hd d h).2⟩
theorem VB.row {t : TypeId} {lo H : Nat} {w : World} {a : Option Addr} {l : List Int} {m : Nat} {v : Int} (h : VB t 1 a m (.int .i64 v) l.length w) (hm : m = l.length) (hr : Row .i64 t lo H w a l) : ∀ x ∈ l, x = v := by
  intro x hx
  obtain ⟨i, hi, rfl⟩ := List.mem_iff_getElem.1 hx
  rcases h with h | ⟨q, cur, ha, hb, hc⟩
  · omega
  · rcases hr with rfl | ⟨q', cur', ha', h1, h2, hb', hc'⟩
    · simp at hi
    · rw [ha] at ha'
      injection ha' with ha'
      injection ha' with ha'
      subst ha'
      obtain ⟨-, rfl⟩ := Blk.uni hb hb'
      have e1 := hc i hi
      have e2 := hc' i _ (List.getElem?_eq_getElem hi)
      rw [Nat.mul_one, e2] at e1
      injection e1 with e1
      injection e1 with _ e1
theorem VB.dls {lo H : Nat} {w : World} {a : Option Addr} {l : List Dl} {m : Nat} {v : Int} (h : VB 58 2 a m (.int .i64 v) l.length w) (hm : m = l.length) (hr : ODls lo H w a l) : ∀ d ∈ l, d.1 = v := by
  intro x hx
  obtain ⟨i, hi, rfl⟩ := List.mem_iff_getElem.1 hx
  rcases h with h | ⟨q, cur, ha, hb, hc⟩
  · omega
  · rcases hr with rfl | ⟨q', cur', ha', h1, h2, hb', hc'⟩
    · simp at hi
    · rw [ha] at ha'
      injection ha' with ha'
      injection ha' with ha'
      subst ha'
      obtain ⟨-, rfl⟩ := Blk.uni hb hb'
      have e1 := hc i hi
      obtain ⟨_, _, e2, _, _⟩ := hc' i _ (List.getElem?_eq_getElem hi)
      rw [e2] at e1
      injection e1 with e1
      injection e1 with _ e1
theorem fil_end {w0 w5 w : World} {lo H C : Nat} {e e' : En} {p : Ad} {id ep n : Int} {v0 v1 v2 v3 v4 v5 v6 : Value} (h : FL w0 lo H C e e' p id ep n w5 e.next.length e.deals.length w) (hn : U64 n) (hL : e.Lim) (h1 : numB id = true) (h2 : e.k ≠ 2 → id = 0) (h3 : numB ep = true) (h4 : e.k ≠ 3 → e.k ≠ 4 → ep = 0) : FilPost e w0 (.returned (.agg #[.int .u8 e.k, .int .i64 id, .int .i64 ep, .slice p.a1 e.x.length p.c1, .slice p.a2 e.coms.length p.c2, .slice p.a3 e.next.length p.c3, .slice p.a4 e.deals.length p.c4])) (set7 w (w0.heap.size + 1) v0 v1 v2 v3 v4 v5 v6) := by
  obtain ⟨e2, s2, ok2, o2⟩ := h.sim.oen h.pl.oen h.pl.ok
  have sx := s2.x.trans h.pl.sh.x
  have sn := s2.next.trans h.pl.sh.next
  have sc := s2.coms.trans h.pl.sh.coms
  have sd := s2.deals.trans h.pl.sh.deals
  have hb := h.nb
  rw [← sn] at hb
  have hN := hb.row rfl o2.next
  have hD := h.db
  rw [← dlens_length sd] at hD
  have hD' := hD.dls rfl o2.deals
  have hf : Fil e ⟨e.k, id, ep, e2.x, e2.coms, e2.next, e2.deals⟩ := ⟨rfl, h1, h2, h3, h4, sx, sc, sn, fun m hm => by rw [hN m hm]; exact wm_numB hn (by decide) (by decide), sd, fun d hd => by rw [hD' d hd]; exact wm_numB hn (by decide) (by decide)⟩
  have o3 : OEn lo w.heap.size w ⟨e.k, id, ep, e2.x, e2.coms, e2.next, e2.deals⟩ p := OEn.more (e := ⟨e.k, id, ep, e2.x, e2.coms, e2.next, e2.deals⟩) ⟨o2.x, o2.coms, o2.next, o2.deals⟩ (Nat.le_refl _) (Nat.le_trans h.pl.hH h.sim.bel.size)
  refine ⟨_, p, hf, ⟨?_, ?_, numB_i64 h1, numB_i64 h3, ok2.x, ok2.coms, ok2.next, ok2.deals⟩, hf.lim hL, ?_, (set7_oen o3 h.res _ _ _ _ _ _ _).nums, set7_below (h.pl.bel.trans (h.sim.bel.mono (by have := h.pl.hlo; omega))) (by omega) _ _ _ _ _ _ _⟩
  · have := ok2.k0; rw [s2.k, h.pl.sh.k] at this; exact this
  · have := ok2.k1; rw [s2.k, h.pl.sh.k] at this; exact this
  · dsimp only
    rw [sx, sn, lens_length sc, dlens_length sd]
end Go.Proofs.Ytdnkijljpmcejaa
