/-
  Rows of messages that a law grows; consistorylaw28.count.
-/
import Derived.Test.YtbibbndjnlnbiaaNetLaw
namespace Go.Proofs.Ytbibbndjnlnbiaa
open Go.RowKit Go.Maps

def mcs (L : List (Mg × Option Addr × Nat)) : List Value := L.flatMap fun p => (p.1.cells p.2.1 p.2.2).toList
theorem mcs_cons (p : Mg × Option Addr × Nat) (L : List (Mg × Option Addr × Nat)) : mcs (p :: L) = (p.1.cells p.2.1 p.2.2).toList ++ mcs L := rfl
theorem mcs_append (L M : List (Mg × Option Addr × Nat)) : mcs (L ++ M) = mcs L ++ mcs M := by simp [mcs]
theorem mcs_length : ∀ L : List (Mg × Option Addr × Nat), (mcs L).length = L.length * 11
  | [] => rfl
  | p :: L => by
    rw [mcs_cons, List.length_append, mcs_length L]
    show 11 + _ = _
    simp
    omega
theorem mcs_at : ∀ {L : List (Mg × Option Addr × Nat)} {i : Nat} {p : Mg × Option Addr × Nat}, L[i]? = some p → ∀ r, r < 11 → (mcs L)[i * 11 + r]? = (p.1.cells p.2.1 p.2.2)[r]?
  | x :: L, 0, p, h, r, hr => by
    have : x = p := by simpa using h
    subst this
    rw [mcs_cons, List.getElem?_append_left (by show _ < 11; omega)]
    simp
  | x :: L, i + 1, p, h, r, hr => by
    have ih := mcs_at (L := L) (i := i) (p := p) (by simpa using h) r hr
    rw [mcs_cons, List.getElem?_append_right (by show 11 ≤ _; omega)]
    rw [← ih]
    congr 1
    show (i + 1) * 11 + r - 11 = _
    omega
  | [], _, _, h, _, _ => by simp at h
theorem mcs_one (L : List (Mg × Option Addr × Nat)) : ∀ u ∈ mcs L, u.oneCell' = true := by
  intro u hu
  obtain ⟨p, _, hp⟩ := List.mem_flatMap.1 hu
  simp only [Mg.cells, List.mem_cons, List.not_mem_nil, or_false] at hp
  rcases hp with rfl | rfl | rfl | rfl | rfl | rfl | rfl | rfl | rfl | rfl | rfl <;> rfl

/-- A row of messages of the law's own; their lists lie where no call of a net turns them. -/
def MRow (B : Nat) (w : World) (v : Value) (l : List Mg) : Prop :=
  ∃ L : List (Mg × Option Addr × Nat), L.map (·.1) = l ∧ w.ownsRow B 32 11 v l.length (mcs L) ∧ ∀ p ∈ L, Safe B w p.2.1 p.1.l
section
variable {X : Nat → Prop} {B g mb : Nat} {n : Nt} {w0 w w1 : World} {v v2 : Value} {l l2 : List Mg}
theorem MRow.nil (B : Nat) (w : World) : MRow B w (.slice none 0 0) [] := ⟨[], rfl, World.ownsRow_nil _ _ _ _, by simp⟩
theorem MRow.form (h : MRow B w v l) : ∃ a c, v = .slice a l.length c := by
  obtain ⟨L, _, h, _⟩ := h
  rcases h.2 with ⟨rfl, h0⟩ | ⟨g', cap, cur, rfl, _⟩
  · exact ⟨none, 0, by rw [h0]⟩
  · exact ⟨_, cap, rfl⟩
theorem MRow.blk (h : MRow B w v l) {q : Nat} (hq : v.ownBlock = some q) : ∃ cur, Blk w q 32 cur ∧ B ≤ q := by
  obtain ⟨L, _, h, _⟩ := h
  rcases h.2 with ⟨rfl, _⟩ | ⟨g', cap, cur, rfl, hb, hh, _⟩
  · simp [Value.ownBlock] at hq
  · have : g' = q := by simpa [Value.ownBlock] using hq
    subst this
    exact ⟨cur, hh, hb⟩
theorem MRow.lt (h : MRow B w v l) {q : Nat} (hq : v.ownBlock = some q) : q < w.heap.size := by
  obtain ⟨cur, hb, _⟩ := h.blk hq
  exact hb.lt
theorem MRow.fr (h : MRow B w v l) (f : Fr X B w w1) : MRow B w1 v l := by
  have hb : ∀ q, v.ownBlock = some q → ∃ cur, Blk w q 32 cur := fun q hq => (h.blk hq).elim fun c hc => ⟨c, hc.1⟩
  obtain ⟨L, e, h, hs⟩ := h
  refine ⟨L, e, ⟨h.1, ?_⟩, fun p hp => (hs p hp).fr f⟩
  rcases h.2 with h0 | ⟨g', cap, cur, rfl, h1, h2, r⟩
  · exact .inl h0
  · exact .inr ⟨g', cap, cur, rfl, h1, f.blk h2 (by decide) (by decide), r⟩
theorem MRow.kept (h : MRow B w v l) (hB : B ≤ w.heap.size) (b : Below w.heap.size w w1) : MRow B w1 v l := by
  obtain ⟨L, e, h, hs⟩ := h
  exact ⟨L, e, own_below h b, fun p hp => (hs p hp).kept b hB⟩
/-- What growing a row of messages leaves. -/
theorem grown_typed {q : Nat} {t : TypeId} {cs : Array Value} (h : MRow B w v l) (gr : w.grownBy w1 v.ownBlock) (hq : Blk w q t cs) (ht : t ≠ 32) : Blk w1 q t cs := by
  refine hq.grown gr fun e => ?_
  obtain ⟨cur, hb, _⟩ := h.blk e.symm
  exact Blk.ne_ hq hb ht rfl
theorem Safe.grown {a : Option Addr} {xs : List Int} (hs : Safe B w a xs) (h : MRow B w v l) (gr : w.grownBy w1 v.ownBlock) (hB : B ≤ w.heap.size) : Safe B w1 a xs := by
  rcases hs with hs | hs
  · exact .inl ((hs.kept fun q cur _ _ hb => grown_typed h gr hb (by decide)).more (Nat.le_refl _) gr.size)
  · rcases hs with hs | ⟨b, o, ha, hlt, hc⟩
    · exact .inl (.inl hs)
    · refine .inr (.inr ⟨b, o, ha, hlt, fun i x hx => (World.cell?_of_block (gr.block b (by omega) (fun e => ?_))).trans (hc i x hx)⟩)
      obtain ⟨cur, hb, hq⟩ := h.blk e.symm
      omega
theorem Held.grown (hh : Held X B w0 g mb n w) (h : MRow B w v l) (gr : w.grownBy w1 v.ownBlock) : Held X B w0 g mb n w1 := by
  have hB := hh.base
  obtain ⟨rs, hN, hb, hx⟩ := hh
  refine ⟨rs, ?_, hb.grown gr hB (fun q hq => (h.blk hq).elim fun _ x => x.2), fun q hq => ⟨Nat.lt_of_lt_of_le (hx q hq).1 gr.size, (hx q hq).2⟩⟩
  cases hv : v.ownBlock with
  | none =>
    rw [hv] at gr
    exact (hN.kept ⟨gr.os, gr.tape, gr.output, gr.size, fun k hk => gr.block k hk (by simp)⟩).top
  | some q =>
    obtain ⟨cur, hbq, _⟩ := h.blk hv
    rw [hv] at gr
    exact (hN.only gr hbq (by decide) (by decide) (by decide)).top
theorem MRow.grown (h2 : MRow B w v2 l2) (h : MRow B w v l) (gr : w.grownBy w1 v.ownBlock) (hne : v2.ownBlock = none ∨ v2.ownBlock ≠ v.ownBlock) (hB : B ≤ w.heap.size) : MRow B w1 v2 l2 := by
  obtain ⟨L, e, ho, hs⟩ := h2
  exact ⟨L, e, ho.kept gr hne, fun p hp => (hs p hp).grown h gr hB⟩
theorem MRow.push {v' : Value} {m : Mg} {a : Option Addr} {c : Nat} (h : MRow B w v l) {L : List (Mg × Option Addr × Nat)} (hL : L.map (·.1) = l) (hsL : ∀ p ∈ L, Safe B w p.2.1 p.1.l) (hs : Safe B w a m.l) (gr : w.grownBy w1 v.ownBlock) (hB : B ≤ w.heap.size)
    (own1 : w1.ownsRow B 32 11 v' (l.length + 1) (mcs L ++ (m.cells a c).toList)) : MRow B w1 v' (l ++ [m]) := by
  refine ⟨L ++ [(m, a, c)], by simp [hL], ?_, fun p hp => ?_⟩
  · rw [List.length_append, mcs_append]
    have e : mcs [(m, a, c)] = (m.cells a c).toList := by simp [mcs]
    rw [e]
    exact own1
  · rcases List.mem_append.1 hp with hp | hp
    · exact (hsL p hp).grown h gr hB
    · have : p = (m, a, c) := by simpa using hp
      subst this
      exact hs.grown h gr hB
theorem MRow.at {i : Nat} {m : Mg} (h : MRow B w v l) (hm : l[i]? = some m) : ∃ q cap a c, v = .slice (some ⟨q, 0, none⟩) l.length cap ∧ l.length ≤ cap ∧ Safe B w a m.l ∧ w.cell? ⟨q, i * 11, none⟩ = some (.int .u8 m.k) ∧ w.cell? ⟨q, i * 11 + 1, none⟩ = some (.int .i64 m.fr) ∧ w.cell? ⟨q, i * 11 + 2, none⟩ = some (.int .i64 m.to) ∧ w.cell? ⟨q, i * 11 + 3, none⟩ = some (.int .i64 m.ht) ∧ w.cell? ⟨q, i * 11 + 4, none⟩ = some (.int .i64 m.rd) ∧ w.cell? ⟨q, i * 11 + 5, none⟩ = some (.int .i64 m.vl) ∧ w.cell? ⟨q, i * 11 + 6, none⟩ = some (.int .i64 m.ep) ∧ w.cell? ⟨q, i * 11 + 7, none⟩ = some (.int .i64 m.dl) ∧ w.cell? ⟨q, i * 11 + 8, none⟩ = some (.int .i64 m.id) ∧ w.cell? ⟨q, i * 11 + 9, none⟩ = some (.string ⟨m.s.toArray⟩) ∧ w.cell? ⟨q, i * 11 + 10, none⟩ = some (.slice a m.l.length c) := by
  obtain ⟨L, rfl, ho, hs⟩ := h
  rw [List.getElem?_map] at hm
  cases hp : L[i]? with
  | none => rw [hp] at hm; simp at hm
  | some p =>
    rw [hp] at hm
    have hpm : p.1 = m := by simpa using hm
    subst hpm
    have hi := (List.getElem?_eq_some_iff.1 hp).1
    rcases ho.2 with ⟨_, h0⟩ | ⟨q, cap, cur, rfl, hb, hh, hc, _⟩
    · simp at h0
      rw [h0] at hi
      simp at hi
    · have hc' : ∀ r, r < 11 → w.cell? ⟨q, i * 11 + r, none⟩ = (p.1.cells p.2.1 p.2.2)[r]? := fun r hr => by
        have e := mcs_at hp r hr
        have : ∃ u, (p.1.cells p.2.1 p.2.2)[r]? = some u := ⟨_, Array.getElem?_eq_getElem (by show r < 11; exact hr)⟩
        obtain ⟨u, hu⟩ := this
        rw [hu] at e ⊢
        have := ho.cells (g := q) rfl (i * 11 + r) u e
        rwa [Addr.add_lit, Nat.zero_add] at this
      exact ⟨q, cap, p.2.1, p.2.2, rfl, hc, hs p (List.mem_of_getElem? hp), hc' 0 (by omega), hc' 1 (by omega), hc' 2 (by omega), hc' 3 (by omega), hc' 4 (by omega), hc' 5 (by omega), hc' 6 (by omega), hc' 7 (by omega), hc' 8 (by omega), hc' 9 (by omega), hc' 10 (by omega)⟩
theorem msg_news (w : World) (m : Mg) (a : Option Addr) (c : Nat) : ∀ (j : Nat) u, (m.cells a c).toList[j]? = some u → (boxed w m a c).cell? ((⟨w.heap.size, 0, none⟩ : Addr).add j) = some u := by
  intro j u hu
  rw [Addr.add_lit, Nat.zero_add, (boxed_blk w m a c).cell j]
  simpa using hu
theorem infoMsg : (Try.prog.info? 32).map (fun i => (i.zero, i.size, i.bytes)) = some (some zeroVal, 11, 112) := by kernel_rfl
end

/-- How many of these are that. -/
def cnt (l : List Mg) (m : Mg) : Nat := (l.filter fun x => x.same m).length
theorem cnt_append (l : List Mg) (x m : Mg) : cnt (l ++ [x]) m = cnt l m + if x.same m then 1 else 0 := by
  unfold cnt
  rw [List.filter_append, List.length_append]
  cases hx : x.same m <;> simp [hx]
theorem cnt_take {l : List Mg} {j : Nat} {x : Mg} (m : Mg) (h : l[j]? = some x) : cnt (l.take (j + 1)) m = cnt (l.take j) m + if x.same m then 1 else 0 := by
  rw [List.take_add_one, h]
  exact cnt_append _ _ _
theorem cnt_le (l : List Mg) (m : Mg) : cnt l m ≤ l.length := List.length_filter_le _ _
theorem cnt_erase : ∀ {l : List Mg} {j : Nat} {x : Mg} (m : Mg), l[j]? = some x → cnt l m = cnt (l.eraseIdx j) m + if x.same m then 1 else 0
  | y :: l, 0, x, m, h => by
    have : y = x := by simpa using h
    subst this
    unfold cnt
    cases hx : y.same m <;> simp [hx]
  | y :: l, j + 1, x, m, h => by
    have ih := cnt_erase (l := l) (j := j) (x := x) m (by simpa using h)
    unfold cnt at ih ⊢
    rw [List.eraseIdx_cons_succ]
    cases hy : y.same m <;> simp only [List.filter_cons, hy, if_true, List.length_cons, Bool.false_eq_true, if_false] <;> omega
  | [], _, _, _, h => by simp at h
end Go.Proofs.Ytbibbndjnlnbiaa
