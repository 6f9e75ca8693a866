/-
  What is written over stays of its form: the blocks of five types, cell by cell.
-/
import Derived.Test.YtdnkijljpmcejaaGreatAppG
namespace Go.Proofs.YtdnkijljpmcejaaGreat
open Go.RowKit

/-- A number of its kind. -/
def Fit1 (k : IntKind) (x : Int) : Prop := (k = .u64 → U64 x) ∧ (k = .i64 → I64 x)
def SimV (v v' : Value) : Prop := v' = v ∨ ∃ k x y, v = .int k x ∧ v' = .int k y ∧ Fit1 k y
def SimO : Option Value → Option Value → Prop
  | some v, some v' => SimV v v'
  | none, none => True
  | _, _ => False
theorem SimV.refl (v : Value) : SimV v v := .inl rfl
theorem SimO.refl : ∀ v : Option Value, SimO v v
  | some v => SimV.refl v
  | none => trivial
theorem SimV.trans {a b c : Value} (h : SimV a b) (k : SimV b c) : SimV a c := by
  rcases h with rfl | ⟨kd, x, y, rfl, rfl, h⟩
  · exact k
  · rcases k with rfl | ⟨kd', x', y', e, rfl, h'⟩
    · exact .inr ⟨kd, x, y, rfl, rfl, h⟩
    · injection e with e1 e2
      subst e1
      exact .inr ⟨kd, x, y', rfl, rfl, h'⟩
theorem SimO.trans : ∀ {a b c : Option Value}, SimO a b → SimO b c → SimO a c
  | some _, some _, some _, h, k => SimV.trans h k
  | none, none, none, _, _ => trivial
  | some _, none, _, h, _ => h.elim
  | none, some _, _, h, _ => h.elim
  | some _, some _, none, _, k => k.elim
  | none, none, some _, _, k => k.elim
theorem SimV.slice {a : Option Addr} {n c : Nat} {v : Value} (h : SimV (.slice a n c) v) : v = .slice a n c := by
  rcases h with h | ⟨_, _, _, h, _⟩
  · exact h
  · cases h
theorem SimO.some {v : Value} {o : Option Value} (h : SimO (some v) o) : ∃ v', o = .some v' ∧ SimV v v' := by
  cases o with
  | none => exact h.elim
  | some v' => exact ⟨v', rfl, h⟩
/-- Below lo nothing has turned; up to H the blocks of the five types are of the form that they were. -/
structure Sim (lo H : Nat) (w w' : World) : Prop where
  bel : Below lo w w'
  blk : ∀ q t cur, Five t → lo ≤ q → q < H → Blk w q t cur → ∃ cur', Blk w' q t cur' ∧ ∀ i : Nat, SimO cur[i]? cur'[i]?
  oth : ∀ q cur, q < H → Blk w q 27 cur → Blk w' q 27 cur
section
variable {lo H : Nat} {w w' w'' : World} {a : Option Addr} {l : List Int} {ls : List (List Int)} {ds : List Dl} {e : En} {p : Ad}
theorem Sim.refl (lo H : Nat) (w : World) : Sim lo H w w := ⟨Below.refl _ _, fun _ _ cur _ _ _ hb => ⟨cur, hb, fun _ => SimO.refl _⟩, fun _ _ _ hb => hb⟩
theorem Sim.kept (h : Sim lo H w w') (hl : lo ≤ w'.heap.size) (b : Below w'.heap.size w' w'') : Sim lo H w w'' :=
  ⟨h.bel.trans (b.mono hl), fun q t cur h5 h1 h2 hb => by
    obtain ⟨cur', k1, k2⟩ := h.blk q t cur h5 h1 h2 hb
    exact ⟨cur', k1.kept b, k2⟩, fun q cur h2 hb => (h.oth q cur h2 hb).kept b⟩
theorem Sim.grown {row : Option Nat} (h : Sim lo H w w') (hl : lo ≤ w'.heap.size) (g : w'.grownBy w'' row) (hr : ∀ q, row = some q → H ≤ q) (hlo : lo ≤ H) : Sim lo H w w'' :=
  ⟨h.bel.grown g hl (fun q hq => Nat.le_trans hlo (hr q hq)), fun q t cur h5 h1 h2 hb => by
    obtain ⟨cur', k1, k2⟩ := h.blk q t cur h5 h1 h2 hb
    exact ⟨cur', k1.grown g (fun e => by have := hr q e.symm; omega), k2⟩, fun q cur h2 hb => (h.oth q cur h2 hb).grown g (fun e => by have := hr q e.symm; omega)⟩
theorem Blk.uni {q : Nat} {t t' : TypeId} {cs cs' : Array Value} (h : Blk w q t cs) (h' : Blk w q t' cs') : t = t' ∧ cs = cs' := by
  unfold Blk at h h'
  rw [h] at h'
  injection h' with h'
  injection h' with h1 h2
  exact ⟨h2, h1⟩
theorem Sim.store {q j : Nat} {t : TypeId} {cur : Array Value} {k : IntKind} {y z : Int} (h : Sim lo H w w') (h5 : Five t) (hq : lo ≤ q) (hb : Blk w' q t cur) (hc : cur[j]? = some (.int k y)) (hz : Fit1 k z) : Sim lo H w (w'.setCell ⟨q, j, none⟩ (.int k z)) := by
  refine ⟨h.bel.setCell (p := ⟨q, j, none⟩) hq _, fun q' t' c0 g5 h1 h2 hb0 => ?_, fun q' c0 h2 hb0 => (h.oth q' c0 h2 hb0).farc (Blk.ne_ (h.oth q' c0 h2 hb0) hb (fun x => (by subst x; revert h5; unfold Five; decide : False))) _⟩
  obtain ⟨cur', k1, k2⟩ := h.blk q' t' c0 g5 h1 h2 hb0
  by_cases hqq : q' = q
  · subst hqq
    obtain ⟨rfl, rfl⟩ := Blk.uni hb k1
    refine ⟨_, hb.set_ j _, fun i => ?_⟩
    by_cases hij : j = i
    · subst hij
      have hj := (Array.getElem?_eq_some_iff.1 hc).1
      have e : (cur.setIfInBounds j (.int k z))[j]? = some (.int k z) := by simp [hj]
      rw [e]
      refine SimO.trans (k2 j) ?_
      rw [hc]
      exact .inr ⟨k, y, z, rfl, rfl, hz⟩
    · rw [Array.getElem?_setIfInBounds_ne hij]
      exact k2 i
  · exact ⟨cur', k1.farc hqq _, k2⟩
/-- A list of what there is at each place. -/
theorem choose_list {α : Type} {Q : Nat → α → Prop} : ∀ n, (∀ i, i < n → ∃ x, Q i x) → ∃ xs : List α, xs.length = n ∧ ∀ i x, xs[i]? = some x → Q i x
  | 0, _ => ⟨[], rfl, by simp⟩
  | n + 1, h => by
    obtain ⟨xs, hl, hx⟩ := choose_list n fun i hi => h i (by omega)
    obtain ⟨x, hq⟩ := h n (by omega)
    refine ⟨xs ++ [x], by simp [hl], fun i y hy => ?_⟩
    rcases Nat.lt_or_ge i n with hi | hi
    · exact hx i y (by rwa [List.getElem?_append_left (by omega)] at hy)
    · have hin : i = n := by
        have := (List.getElem?_eq_some_iff.1 hy).1
        simp at this
        omega
      subst hin
      rw [← hl] at hy
      simp at hy
      subst hy
      exact hq
theorem Sim.row {k : IntKind} {t : TypeId} (h : Sim lo H w w') (h5 : Five t) (hr : Row k t lo H w a l) (ok : ∀ x ∈ l, Fit1 k x) : ∃ l', l'.length = l.length ∧ (∀ x ∈ l', Fit1 k x) ∧ Row k t lo H w' a l' := by
  rcases hr with rfl | ⟨q, cur, ha, h1, h2, hb, hc⟩
  · exact ⟨[], rfl, by simp, .inl rfl⟩
  · obtain ⟨cur', k1, k2⟩ := h.blk q t cur h5 h1 h2 hb
    obtain ⟨l', hl, hQ⟩ := choose_list (Q := fun i x => cur'[i]? = some (.int k x) ∧ Fit1 k x) l.length fun i hi => by
      have hx : l[i]? = some l[i] := List.getElem?_eq_getElem hi
      have h3 := k2 i
      rw [hc i _ hx] at h3
      obtain ⟨v', e1, hs⟩ := SimO.some h3
      rcases hs with rfl | ⟨k', x, y, e, rfl, hf⟩
      · exact ⟨l[i], e1, ok _ (List.mem_of_getElem? hx)⟩
      · injection e with e2 e3
        subst e2
        exact ⟨y, e1, hf⟩
    refine ⟨l', hl, fun x hx => ?_, .inr ⟨q, cur', ha, h1, h2, k1, fun i x hx => (hQ i x hx).1⟩⟩
    obtain ⟨i, hi⟩ := List.mem_iff_getElem?.1 hx
    exact (hQ i x hi).2
theorem five_u : Five 56 := .inl rfl
theorem five_l : Five 45 := .inr (.inl rfl)
theorem five_d : Five 41 := .inr (.inr (.inl rfl))
theorem five_x : Five 2 := .inr (.inr (.inr (.inl rfl)))
theorem five_n : Five 3 := .inr (.inr (.inr (.inr rfl)))
theorem fit_u {x : Int} : Fit1 .u64 x ↔ U64 x := ⟨fun h => h.1 rfl, fun h => ⟨fun _ => h, (fun e => by cases e)⟩⟩
theorem fit_i {x : Int} : Fit1 .i64 x ↔ I64 x := ⟨fun h => h.2 rfl, fun h => ⟨(fun e => by cases e), fun _ => h⟩⟩
def lens (ls : List (List Int)) : List Nat := ls.map List.length
theorem lens_of {ls ls' : List (List Int)} (hl : ls'.length = ls.length) (h : ∀ (i : Nat) l l', ls[i]? = some l → ls'[i]? = some l' → l'.length = l.length) : lens ls' = lens ls := by
  apply List.ext_getElem?
  intro i
  unfold lens
  rw [List.getElem?_map, List.getElem?_map]
  rcases Nat.lt_or_ge i ls.length with hi | hi
  · have h1 : ls[i]? = some ls[i] := List.getElem?_eq_getElem hi
    have h2 : ls'[i]? = some ls'[i] := List.getElem?_eq_getElem (by omega)
    rw [h1, h2]
    simp [h i _ _ h1 h2]
  · rw [List.getElem?_eq_none hi, List.getElem?_eq_none (by omega)]
theorem Sim.lst (h : Sim lo H w w') (ho : OLst lo H w a ls) (ok : Us ls) : ∃ ls', lens ls' = lens ls ∧ Us ls' ∧ OLst lo H w' a ls' := by
  rcases ho with rfl | ⟨q, cur, ha, h1, h2, hb, hc⟩
  · exact ⟨[], rfl, by simp [Us], .inl rfl⟩
  · obtain ⟨cur', k1, k2⟩ := h.blk q _ cur five_l h1 h2 hb
    obtain ⟨ls', hl, hQ⟩ := choose_list (Q := fun i (l' : List Int) => (∀ l, ls[i]? = some l → l'.length = l.length) ∧ (∀ x ∈ l', U64 x) ∧ ∃ a' c', cur'[i]? = some (.slice a' l'.length c') ∧ Row .u64 56 lo H w' a' l') ls.length fun i hi => by
      have hx : ls[i]? = some ls[i] := List.getElem?_eq_getElem hi
      obtain ⟨a', c', e1, hr⟩ := hc i _ hx
      have h3 := k2 i
      rw [e1] at h3
      obtain ⟨v', e2, hs⟩ := SimO.some h3
      obtain rfl := hs.slice
      obtain ⟨l', e3, e4, e5⟩ := h.row five_u hr (fun x hx' => fit_u.2 (ok _ (List.mem_of_getElem? hx) x hx'))
      exact ⟨l', fun l hl => by rw [hx] at hl; rw [← Option.some.inj hl]; exact e3, fun x hx' => fit_u.1 (e4 x hx'), a', c', by rw [e3]; exact e2, e5⟩
    refine ⟨ls', lens_of hl fun i l l' h1 h2 => (hQ i l' h2).1 l h1, fun l' hm => ?_, .inr ⟨q, cur', ha, h1, h2, k1, fun i l' hi => (hQ i l' hi).2.2⟩⟩
    obtain ⟨i, hi⟩ := List.mem_iff_getElem?.1 hm
    exact (hQ i l' hi).2.1
def dlens (ds : List Dl) : List (List Nat) := ds.map fun d => lens d.2
theorem Sim.dls (h : Sim lo H w w') (ho : ODls lo H w a ds) (ok : ∀ d ∈ ds, DlOk d) : ∃ ds', dlens ds' = dlens ds ∧ (∀ d ∈ ds', DlOk d) ∧ ODls lo H w' a ds' := by
  rcases ho with rfl | ⟨q, cur, ha, h1, h2, hb, hc⟩
  · exact ⟨[], rfl, by simp, .inl rfl⟩
  · obtain ⟨cur', k1, k2⟩ := h.blk q _ cur five_d h1 h2 hb
    obtain ⟨ds', hl, hQ⟩ := choose_list (Q := fun i (d' : Dl) => (∀ d, ds[i]? = some d → lens d'.2 = lens d.2) ∧ DlOk d' ∧ ∃ a' c', cur'[i * 2]? = some (.int .i64 d'.1) ∧ cur'[i * 2 + 1]? = some (.slice a' d'.2.length c') ∧ OLst lo H w' a' d'.2) ds.length fun i hi => by
      have hx : ds[i]? = some ds[i] := List.getElem?_eq_getElem hi
      obtain ⟨a', c', e0, e1, hr⟩ := hc i _ hx
      have okd := ok _ (List.mem_of_getElem? hx)
      have h3 := k2 (i * 2 + 1)
      rw [e1] at h3
      obtain ⟨v', e2, hs⟩ := SimO.some h3
      obtain rfl := hs.slice
      obtain ⟨ls', e3, e4, e5⟩ := h.lst hr okd.2
      have hlen : ls'.length = ds[i].2.length := by
        have := congrArg List.length e3
        simpa [lens] using this
      have h4 := k2 (i * 2)
      rw [e0] at h4
      obtain ⟨v', e6, hs⟩ := SimO.some h4
      obtain ⟨y, rfl, hy⟩ : ∃ y, v' = .int .i64 y ∧ I64 y := by
        rcases hs with rfl | ⟨k', x, y, e, rfl, hf⟩
        · exact ⟨_, rfl, okd.1⟩
        · injection e with e7 e8
          subst e7
          exact ⟨y, rfl, fit_i.1 hf⟩
      exact ⟨(y, ls'), fun d hd => by rw [hx] at hd; rw [← Option.some.inj hd]; exact e3, ⟨hy, e4⟩, a', c', e6, by dsimp only; rw [hlen]; exact e2, e5⟩
    refine ⟨ds', ?_, fun d' hm => ?_, .inr ⟨q, cur', ha, h1, h2, k1, fun i d' hi => (hQ i d' hi).2.2⟩⟩
    · apply List.ext_getElem?
      intro i
      unfold dlens
      rw [List.getElem?_map, List.getElem?_map]
      rcases Nat.lt_or_ge i ds.length with hi | hi
      · have h1 : ds[i]? = some ds[i] := List.getElem?_eq_getElem hi
        have h2 : ds'[i]? = some ds'[i] := List.getElem?_eq_getElem (by omega)
        rw [h1, h2]
        simp [(hQ i _ h2).1 _ h1]
      · rw [List.getElem?_eq_none hi, List.getElem?_eq_none (by omega)]
    · obtain ⟨i, hi⟩ := List.mem_iff_getElem?.1 hm
      exact (hQ i d' hi).2.1
/-- Of one form. -/
structure Shape (e e' : En) : Prop where
  k : e'.k = e.k
  id : e'.id = e.id
  ep : e'.ep = e.ep
  x : e'.x.length = e.x.length
  coms : lens e'.coms = lens e.coms
  next : e'.next.length = e.next.length
  deals : dlens e'.deals = dlens e.deals
theorem Sim.oen (h : Sim lo H w w') (ho : OEn lo H w e p) (ok : e.Ok) : ∃ e', Shape e e' ∧ e'.Ok ∧ OEn lo H w' e' p := by
  obtain ⟨x', x1, x2, x3⟩ := h.row five_x ho.x (fun n hn => fit_i.2 (ok.x n hn))
  obtain ⟨cs', c1, c2, c3⟩ := h.lst ho.coms ok.coms
  obtain ⟨nx', n1, n2, n3⟩ := h.row five_n ho.next (fun n hn => fit_i.2 (ok.next n hn))
  obtain ⟨ds', d1, d2, d3⟩ := h.dls ho.deals ok.deals
  exact ⟨⟨e.k, e.id, e.ep, x', cs', nx', ds'⟩, ⟨rfl, rfl, rfl, x1, c1, n1, d1⟩, ⟨ok.k0, ok.k1, ok.id, ok.ep, fun n hn => fit_i.1 (x2 n hn), c2, fun n hn => fit_i.1 (n2 n hn), d2⟩, ⟨x3, c3, n3, d3⟩⟩
end
end Go.Proofs.YtdnkijljpmcejaaGreat
