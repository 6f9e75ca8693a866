/-
  A row of messages: its cells, one message behind the other.
-/
import Derived.Test.YtbibbndjnlnbiaaMBase
namespace Go.Proofs.Ytbibbndjnlnbiaa
open Go.RowKit

/-- A message, with where its numbers lie. -/
structure MT where
  m : Mg
  a : Option Addr
  c : Nat
def MT.row (t : MT) : List Value := [.int .u8 t.m.k, .int .i64 t.m.fr, .int .i64 t.m.to, .int .i64 t.m.ht, .int .i64 t.m.rd, .int .i64 t.m.vl, .int .i64 t.m.ep, .int .i64 t.m.dl, .int .i64 t.m.id, .string ⟨t.m.s.toArray⟩, .slice t.a t.m.l.length t.c]
def flat : List MT → List Value
  | [] => []
  | t :: T => t.row ++ flat T
theorem row_len (t : MT) : t.row.length = 11 := rfl
theorem flat_len : ∀ T : List MT, (flat T).length = T.length * 11
  | [] => rfl
  | t :: T => by
    simp only [flat, List.length_append, row_len, flat_len T, List.length_cons]
    omega
theorem flat_append : ∀ S T : List MT, flat (S ++ T) = flat S ++ flat T
  | [], _ => rfl
  | s :: S, T => by
    simp only [List.cons_append, flat, flat_append S T, List.append_assoc]
theorem flat_take : ∀ (T : List MT) (k : Nat), (flat T).take (k * 11) = flat (T.take k)
  | [], k => by simp [flat]
  | t :: T, 0 => by simp [flat]
  | t :: T, k + 1 => by
    rw [List.take_succ_cons, flat, flat, ← flat_take T k, show (k + 1) * 11 = t.row.length + k * 11 by rw [row_len]; omega, List.take_length_add_append]
theorem flat_drop : ∀ (T : List MT) (k : Nat), (flat T).drop (k * 11) = flat (T.drop k)
  | [], k => by simp [flat]
  | t :: T, 0 => by simp [flat]
  | t :: T, k + 1 => by
    rw [List.drop_succ_cons, flat, ← flat_drop T k, show (k + 1) * 11 = t.row.length + k * 11 by rw [row_len]; omega, List.drop_length_add_append]
theorem flat_at : ∀ {T : List MT} {i : Nat} {t : MT}, T[i]? = some t → ∀ j, j < 11 → (flat T)[i * 11 + j]? = t.row[j]?
  | x :: T, 0, t, h, j, hj => by
    obtain rfl : x = t := by simpa using h
    rw [flat, Nat.zero_mul, Nat.zero_add, List.getElem?_append_left (by rw [row_len]; exact hj)]
  | x :: T, i + 1, t, h, j, hj => by
    have h' : T[i]? = some t := by simpa using h
    rw [flat, show (i + 1) * 11 + j = x.row.length + (i * 11 + j) by rw [row_len]; omega, List.getElem?_append_right (by omega), Nat.add_sub_cancel_left]
    exact flat_at h' j hj
theorem row_one (t : MT) : ∀ u ∈ t.row, u.oneCell' = true := by
  intro u hu
  simp only [MT.row, List.mem_cons, List.not_mem_nil, or_false] at hu
  rcases hu with rfl | rfl | rfl | rfl | rfl | rfl | rfl | rfl | rfl | rfl | rfl <;> rfl
theorem flat_one : ∀ T : List MT, ∀ u ∈ flat T, u.oneCell' = true
  | [], u, h => by simp [flat] at h
  | t :: T, u, h => by
    rcases List.mem_append.1 h with h | h
    · exact row_one t u h
    · exact flat_one T u h
/-- A message's cells, from place o of block b on. -/
def MsgAt (w : World) (b o : Nat) (t : MT) : Prop := w.cell? ⟨b, o, none⟩ = some (.int .u8 t.m.k) ∧ w.cell? ⟨b, o + 1, none⟩ = some (.int .i64 t.m.fr) ∧ w.cell? ⟨b, o + 2, none⟩ = some (.int .i64 t.m.to) ∧ w.cell? ⟨b, o + 3, none⟩ = some (.int .i64 t.m.ht) ∧ w.cell? ⟨b, o + 4, none⟩ = some (.int .i64 t.m.rd) ∧ w.cell? ⟨b, o + 5, none⟩ = some (.int .i64 t.m.vl) ∧ w.cell? ⟨b, o + 6, none⟩ = some (.int .i64 t.m.ep) ∧ w.cell? ⟨b, o + 7, none⟩ = some (.int .i64 t.m.dl) ∧ w.cell? ⟨b, o + 8, none⟩ = some (.int .i64 t.m.id) ∧ w.cell? ⟨b, o + 9, none⟩ = some (.string ⟨t.m.s.toArray⟩) ∧ w.cell? ⟨b, o + 10, none⟩ = some (.slice t.a t.m.l.length t.c)
/-- A row of messages at block q; it may have more cells. -/
def Flat (w : World) (q cap : Nat) (xs : List Value) : Prop := ∃ cur, Blk w q 32 cur ∧ cur.size = cap * 11 ∧ xs.length ≤ cap * 11 ∧ cur.toList.take xs.length = xs
theorem Flat.cell {w : World} {q cap : Nat} {xs : List Value} (h : Flat w q cap xs) {j : Nat} (hj : j < xs.length) : w.cell? ⟨q, j, none⟩ = xs[j]? := by
  obtain ⟨cur, hb, hl, hl2, ht⟩ := h
  rw [hb.cell j, ← Array.getElem?_toList, ← List.getElem?_take_of_lt hj, ht]
theorem Flat.at {w : World} {q cap : Nat} {T : List MT} (h : Flat w q cap (flat T)) {i : Nat} {t : MT} (ht : T[i]? = some t) : MsgAt w q (i * 11) t := by
  have hi : i < T.length := (List.getElem?_eq_some_iff.1 ht).1
  have e : ∀ j, j < 11 → w.cell? ⟨q, i * 11 + j, none⟩ = t.row[j]? := fun j hj => by
    rw [h.cell (by rw [flat_len]; omega)]
    exact flat_at ht j hj
  exact ⟨e 0 (by decide), e 1 (by decide), e 2 (by decide), e 3 (by decide), e 4 (by decide), e 5 (by decide), e 6 (by decide), e 7 (by decide), e 8 (by decide), e 9 (by decide), e 10 (by decide)⟩
theorem Flat.kept {w w' : World} {q cap : Nat} {xs : List Value} (h : Flat w q cap xs) (b : Below w.heap.size w w') : Flat w' q cap xs := by
  obtain ⟨cur, hb, h⟩ := h
  exact ⟨cur, hb.kept b, h⟩
theorem Flat.lt {w : World} {q cap : Nat} {xs : List Value} (h : Flat w q cap xs) : q < w.heap.size := by
  obtain ⟨cur, hb, h⟩ := h
  exact hb.lt
theorem Flat.of_own {w : World} {B q n c : Nat} {xs : List Value} (h : w.ownsRow B 32 11 (.slice (some ⟨q, 0, none⟩) n c) n xs) : Flat w q c xs ∧ B ≤ q ∧ c ≤ maxLen := by
  rcases h.2 with ⟨e, _⟩ | ⟨g, cap, cur, e, h1, h2, h3, h4, h5, h6⟩
  · cases e
  · injection e with e1 e2 e3
    injection e1 with e1
    injection e1 with e1
    subst e1 e3
    have hl : xs.length = n * 11 := h.1
    exact ⟨⟨cur, h2, h5, by rw [hl]; exact Nat.mul_le_mul_right _ h3, by rw [hl]; exact h6⟩, h1, h4⟩
theorem Flat.own {w : World} {B q n c : Nat} {T : List MT} (h : Flat w q c (flat T)) (hB : B ≤ q) (hc : c ≤ maxLen) (hn : T.length = n) : w.ownsRow B 32 11 (.slice (some ⟨q, 0, none⟩) n c) n (flat T) := by
  subst hn
  obtain ⟨cur, hb, h1, h2, h3⟩ := h
  rw [flat_len] at h2 h3
  exact ⟨flat_len T, .inr ⟨q, c, cur, rfl, hB, hb, by omega, hc, h1, h3⟩⟩
theorem Flat.set {w : World} {q cap : Nat} {xs : List Value} (h : Flat w q cap xs) (j : Nat) (v : Value) : Flat (w.setCell ⟨q, j, none⟩ v) q cap (xs.set j v) := by
  obtain ⟨cur, hb, hl, hl2, ht⟩ := h
  refine ⟨_, hb.set_ j v, by simpa using hl, by simpa using hl2, ?_⟩
  rw [List.length_set, Array.toList_setIfInBounds, List.take_set, ht]
theorem Flat.frozen {w : World} {q cap : Nat} {xs : List Value} (h : Flat w q cap xs) (j : Nat) : w.frozen? ⟨q, j, none⟩ = false := by
  obtain ⟨cur, hb, h⟩ := h
  exact hb.frozen j
/-- Numbers in a block of their own type, at none of the blocks of X. -/
def NumT (X : Nat → Prop) (w : World) (a : Option Addr) (l : List Int) : Prop := l = [] ∨ ∃ q cur, a = some ⟨q, 0, none⟩ ∧ ¬ X q ∧ Blk w q 56 cur ∧ ∀ (i : Nat) x, l[i]? = some x → cur[i]? = some (.int .u64 x)
section
variable {X : Nat → Prop} {w w' : World} {a : Option Addr} {l : List Int}
theorem NumT.grow (h : NumT X w a l) (K : ∀ q cur, ¬ X q → Blk w q 56 cur → Blk w' q 56 cur) : NumT X w' a l := by
  rcases h with h | ⟨q, cur, ha, hx, hb, hc⟩
  · exact .inl h
  · exact .inr ⟨q, cur, ha, hx, K q cur hx hb, hc⟩
theorem NumT.kept (h : NumT X w a l) (b : Below w.heap.size w w') : NumT X w' a l := h.grow fun _ _ _ hb => hb.kept b
theorem NumT.nums (h : NumT X w a l) : Nums .u64 w w.heap.size a l := by
  rcases h with h | ⟨q, cur, ha, hx, hb, hc⟩
  · exact .inl h
  · exact .inr ⟨q, 0, ha, hb.lt, fun i x hi => by rw [Nat.zero_add, hb.cell i]; exact hc i x hi⟩
theorem NumT.nil : NumT X w a [] := .inl rfl
theorem NumT.poke {q : Nat} {t : TypeId} {cs : Array Value} (h : NumT X w a l) (hq : Blk w q t cs) (ht : t ≠ 56) (j : Nat) (v : Value) : NumT X (w.setCell ⟨q, j, none⟩ v) a l :=
  h.grow fun _ _ _ hb => hb.farc (Blk.ne_ hb hq (Ne.symm ht)) v
theorem NumT.set {q : Nat} (h : NumT X w a l) (hx : X q) (j : Nat) (v : Value) : NumT X (w.setCell ⟨q, j, none⟩ v) a l :=
  h.grow fun _ _ hx' hb => hb.farc (fun e => hx' (e ▸ hx)) v
theorem NumT.of_own {base n c : Nat} (h : w.ownsRow base 56 1 (.slice a n c) n (l.map (.int .u64))) (hX : ∀ q, X q → q < base) : NumT X w a l := by
  rcases h.2 with ⟨e1, e2⟩ | ⟨g, cap, cur, e1, h1, h2, h3, h4, h5, h6⟩
  · have := h.1
    rw [e2] at this
    simp at this
    exact .inl this
  · injection e1 with ea en ec
    refine .inr ⟨g, cur, ea, fun hx => by have := hX g hx; omega, h2, fun i x hx => ?_⟩
    have hi : i < l.length := (List.getElem?_eq_some_iff.1 hx).1
    have hl := h.1
    simp at hl
    have e : (cur.toList.take (n * 1))[i]? = some (.int .u64 x) := by rw [h6]; simp [hx]
    rw [List.getElem?_take_of_lt (by omega), Array.getElem?_toList] at e
    exact e
theorem NumT.new (w : World) (l : List Int) (cs : Array Value) (hX : ¬ X w.heap.size) (hc : ∀ (i : Nat) x, l[i]? = some x → cs[i]? = some (.int .u64 x)) : NumT X (w.alloc (.cells cs 56)) (some ⟨w.heap.size, 0, none⟩) l :=
  .inr ⟨_, cs, rfl, hX, Blk.new w _ cs, hc⟩
end
/-- These messages lie one behind the other at block q. -/
def RowM (X : Nat → Prop) (w : World) (q cap : Nat) (L : List Mg) : Prop := ∃ T : List MT, Flat w q cap (flat T) ∧ T.map (·.m) = L ∧ ∀ t ∈ T, NumT X w t.a t.m.l
theorem RowM.kept {X : Nat → Prop} {w w' : World} {q cap : Nat} {L : List Mg} (h : RowM X w q cap L) (b : Below w.heap.size w w') : RowM X w' q cap L := by
  obtain ⟨T, h1, h2, h3⟩ := h
  exact ⟨T, h1.kept b, h2, fun t ht => (h3 t ht).kept b⟩
theorem RowM.at {X : Nat → Prop} {w : World} {q cap : Nat} {L : List Mg} (h : RowM X w q cap L) {i : Nat} {m : Mg} (hm : L[i]? = some m) : ∃ a c, MsgAt w q (i * 11) ⟨m, a, c⟩ ∧ Nums .u64 w w.heap.size a m.l := by
  obtain ⟨T, h1, h2, h3⟩ := h
  rw [← h2, List.getElem?_map] at hm
  cases ht : T[i]? with
  | none => rw [ht] at hm; simp at hm
  | some t =>
    rw [ht] at hm
    simp only [Option.map_some, Option.some.injEq] at hm
    subst hm
    exact ⟨t.a, t.c, h1.at ht, (h3 t (List.mem_of_getElem? ht)).nums⟩
theorem flat_set {t' : MT} {v : Value} {j : Nat} (hj : j < 11) : ∀ (T : List MT) (i : Nat) (t : MT), T[i]? = some t → t'.row = t.row.set j v → (flat T).set (i * 11 + j) v = flat (T.set i t') := by
  intro T
  induction T with
  | nil =>
    intro i t h
    simp at h
  | cons x T ih =>
    intro i t h hr
    cases i with
    | zero =>
      rw [List.getElem?_cons_zero] at h
      injection h with h
      subst h
      rw [List.set_cons_zero, flat, flat, hr, Nat.zero_mul, Nat.zero_add, List.set_append_left _ _ (by rw [row_len]; exact hj)]
    | succ i =>
      rw [List.getElem?_cons_succ] at h
      rw [List.set_cons_succ, flat, flat, show (i + 1) * 11 + j = x.row.length + (i * 11 + j) by rw [row_len]; omega, List.set_append_right _ _ (by omega), Nat.add_sub_cancel_left, ih i t h hr]
/-- A field of a message is written over. -/
theorem RowM.put {X : Nat → Prop} {w : World} {q cap : Nat} {L : List Mg} (h : RowM X w q cap L) {i j k : Nat} {m : Mg} (hk : k = i * 11 + j) (hj : j < 11) (hm : L[i]? = some m) (m' : Mg) (v : Value) (hr : ∀ a c, (MT.mk m' a c).row = (MT.mk m a c).row.set j v) (hl : m'.l = m.l) : RowM X (w.setCell ⟨q, k, none⟩ v) q cap (L.set i m') := by
  obtain ⟨T, h1, h2, h3⟩ := h
  have h0 := h1
  obtain ⟨cur, hb, _⟩ := h0
  rw [← h2, List.getElem?_map] at hm
  cases ht : T[i]? with
  | none => rw [ht] at hm; simp at hm
  | some t =>
    rw [ht] at hm
    simp only [Option.map_some, Option.some.injEq] at hm
    subst hm
    refine ⟨T.set i ⟨m', t.a, t.c⟩, ?_, by rw [List.map_set, h2], fun x hx => ?_⟩
    · rw [← flat_set hj T i t ht (hr t.a t.c), ← hk]
      exact h1.set k v
    · rcases List.mem_or_eq_of_mem_set hx with hx | rfl
      · exact (h3 x hx).poke hb (by decide) k v
      · have := (h3 t (List.mem_of_getElem? ht)).poke hb (by decide) k v
        show NumT X _ t.a m'.l
        rw [hl]
        exact this
/-- Its list is written over. -/
theorem RowM.putl {X : Nat → Prop} {w : World} {q cap : Nat} {L : List Mg} (h : RowM X w q cap L) {i k : Nat} {m : Mg} (hk : k = i * 11 + 10) (hm : L[i]? = some m) (l : List Int) (a : Option Addr) (c n : Nat) (hn : n = l.length) (hl : NumT X w a l) : RowM X (w.setCell ⟨q, k, none⟩ (.slice a n c)) q cap (L.set i ⟨m.k, m.fr, m.to, m.ht, m.rd, m.vl, m.ep, m.dl, m.id, m.s, l⟩) := by
  subst hn
  obtain ⟨T, h1, h2, h3⟩ := h
  have h0 := h1
  obtain ⟨cur, hb, _⟩ := h0
  rw [← h2, List.getElem?_map] at hm
  cases ht : T[i]? with
  | none => rw [ht] at hm; simp at hm
  | some t =>
    rw [ht] at hm
    simp only [Option.map_some, Option.some.injEq] at hm
    subst hm
    refine ⟨T.set i ⟨⟨t.m.k, t.m.fr, t.m.to, t.m.ht, t.m.rd, t.m.vl, t.m.ep, t.m.dl, t.m.id, t.m.s, l⟩, a, c⟩, ?_, by rw [List.map_set, h2], fun x hx => ?_⟩
    · rw [← flat_set (v := .slice a l.length c) (show 10 < 11 by decide) T i t ht rfl, ← hk]
      exact h1.set k _
    · rcases List.mem_or_eq_of_mem_set hx with hx | rfl
      · exact (h3 x hx).poke hb (by decide) k _
      · exact hl.poke hb (by decide) k _
theorem RowM.cell {X : Nat → Prop} {w : World} {q cap : Nat} {L : List Mg} (h : RowM X w q cap L) {k : Nat} (hk : k < L.length * 11) : ∃ v, w.cell? ⟨q, k, none⟩ = some v ∧ w.frozen? ⟨q, k, none⟩ = false ∧ q < w.heap.size := by
  obtain ⟨T, h1, h2, h3⟩ := h
  have hl : k < (flat T).length := by
    rw [flat_len, ← List.length_map (f := (·.m)), h2]
    exact hk
  exact ⟨_, (h1.cell hl).trans (List.getElem?_eq_getElem hl), h1.frozen k, h1.lt⟩
theorem RowM.lt {X : Nat → Prop} {w : World} {q cap : Nat} {L : List Mg} (h : RowM X w q cap L) : q < w.heap.size := h.elim fun _ x => x.1.lt
theorem RowM.below_set {X : Nat → Prop} {w w0 : World} {q cap B : Nat} {L : List Mg} (_h : RowM X w q cap L) (b : Below B w0 w) (hq : B ≤ q) (k : Nat) (v : Value) : Below B w0 (w.setCell ⟨q, k, none⟩ v) := b.setCell hq v
end Go.Proofs.Ytbibbndjnlnbiaa
