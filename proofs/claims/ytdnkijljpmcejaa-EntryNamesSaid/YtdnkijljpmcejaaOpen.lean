/-
  What a row's arguments read as, opened: numbers, strings, slices of numbers, structs, slices of structs; each within the form's own reach.
-/
import Derived.Test.YtdnkijljpmcejaaRow
import Derived.SizedLaws
import Derived.Deep.Slices
import Derived.Deep.Fields
namespace Go.Proofs.Ytdnkijljpmcejaa
open Go.ChangeShapes Go.WideShapes Go.ChangeAt Go.RowKit Go.Deep

section
variable {H : Type} {enc : TypeId × Value → H} {w : World}

/-- Each string, slice and map of a datum takes at most the form's reach. -/
def Fits (t : TypeId) (d : DataW H) : Prop := (d.weights Try.prog t).all (· ≤ reachBytes) = true

theorem fits_arg {ts : List TypeId} {ds : List (DataW H)} (h : (DataW.weightsEach Try.prog ts ds).all (· ≤ reachBytes) = true) {j : Nat} {t : TypeId} {d : DataW H} (ht : ts[j]? = some t) (hd : ds[j]? = some d) : Fits t d :=
  List.all_eq_true.2 fun n hn => List.all_eq_true.1 h n (DataW.weights_mem_each ht hd n hn)
theorem fits_part {t : TypeId} {fs : Array Field} {parts : List (DataW H)} (hu : Try.prog.underlying t = some (.struct fs)) (h : Fits t (.agg parts)) {j : Nat} {f : Field} {d : DataW H} (hf : fs[j]? = some f) (hd : parts[j]? = some d) : Fits f.type d := by
  unfold Fits at h
  simp only [DataW.weights, hu] at h
  exact fits_arg h (j := j) (by simp [hf]) hd
theorem fits_len {t e : TypeId} {elems spare : List (DataW H)} (hu : Try.prog.underlying t = some (.slice e)) (h : Fits t (.slice elems spare)) : elems.length * Try.prog.bytesOf e ≤ 140737488351232 := by
  have h1 := List.all_eq_true.1 h ((elems.length + spare.length) * Try.prog.bytesOf e) (by simp [DataW.weights, hu])
  have h1 := of_decide_eq_true h1
  unfold reachBytes at h1
  have h2 : elems.length * Try.prog.bytesOf e ≤ (elems.length + spare.length) * Try.prog.bytesOf e := Nat.mul_le_mul_right _ (by omega)
  omega
theorem weights_all_mem {e : TypeId} : ∀ {l : List (DataW H)} {d : DataW H}, d ∈ l → ∀ n ∈ d.weights Try.prog e, n ∈ DataW.weightsAll Try.prog e l
  | x :: l, d, hd, n, hn => by
    simp only [DataW.weightsAll, List.mem_append]
    rcases List.mem_cons.1 hd with rfl | hd
    · exact .inl hn
    · exact .inr (weights_all_mem hd n hn)
  | [], _, hd, _, _ => by simp at hd
theorem fits_elem {t e : TypeId} {elems spare : List (DataW H)} (hu : Try.prog.underlying t = some (.slice e)) (h : Fits t (.slice elems spare)) {d : DataW H} (hd : d ∈ elems) : Fits e d :=
  List.all_eq_true.2 fun n hn => List.all_eq_true.1 h n (by simp [DataW.weights, hu, weights_all_mem hd n hn])

/-- A cell that reads as a datum. -/
def Rd (enc : TypeId × Value → H) (w : World) (t : TypeId) (v : Value) (y : DataW H) : Prop := ∃ n ps, DataW.trod enc Try.prog w 0 (fun _ => true) true n t [v] = some (y, ps)

theorem rd_int {t : TypeId} {k : IntKind} {v : Value} {y : DataW H} (ht : Try.prog.underlying t = some (.int k)) (h : Rd enc w t v y) : ∃ n, v = .int k n ∧ (Lit.int k n).wf = true := by
  obtain ⟨n, ps, h⟩ := h
  obtain ⟨m, e1, _, hw⟩ := DataW.trod_int ht h
  exact ⟨m, by simpa using e1, hw⟩
theorem rd_str {t : TypeId} {v : Value} {y : DataW H} (ht : Try.prog.underlying t = some .string) (h : Rd enc w t v y) (hf : Fits t y) : ∃ l : List UInt8, v = .string ⟨l.toArray⟩ ∧ l.length ≤ 140737488351232 := by
  obtain ⟨n, ps, h⟩ := h
  obtain ⟨s, e1, e2, _⟩ := DataW.trod_string ht h
  obtain ⟨l, rfl⟩ := str_cases s
  refine ⟨l, by simpa using e1, ?_⟩
  injection e2 with e2 _
  subst e2
  have h1 := List.all_eq_true.1 hf l.length (by simp [DataW.weights])
  have h1 := of_decide_eq_true h1
  unfold reachBytes at h1
  exact h1
theorem rd_nums {t e : TypeId} {k : IntKind} {v : Value} {y : DataW H} (ht : Try.prog.underlying t = some (.slice e)) (he : Try.prog.underlying e = some (.int k)) (hc : Try.prog.cellsOf e = 1) (h : Rd enc w t v y) (hf : Fits t y) :
    ∃ a c xs, v = .slice a (xs : List Int).length c ∧ Nums k w w.heap.size a xs ∧ (∀ x ∈ xs, (Lit.int k x).wf = true) ∧ xs.length * Try.prog.bytesOf e ≤ 140737488351232 := by
  obtain ⟨n, ps, h⟩ := h
  rcases open_ints ht he hc h with ⟨hcs, _⟩ | ⟨x, l, c, zs, hcs, _, hl, hm, hz, hx, hcell, hwz⟩
  · exact ⟨none, 0, [], by simpa using hcs, .inl rfl, by simp, by rw [List.length_nil, Nat.zero_mul]; exact Nat.zero_le _⟩
  · obtain ⟨xs, hxl, _, hn, hw⟩ := isRow_nums (w := w) (a := some x) (len := l) (cap := c) (zs := zs) (k := k) (.inr ⟨x, rfl, hl, hm, by simpa using hz, hcell, hwz⟩)
    refine ⟨some x, c, xs, by rw [hxl]; simpa using hcs, hn, hw, ?_⟩
    have hx : y = _ := congrArg Prod.fst hx
    subst hx
    have := fits_len ht hf
    have hzc : zs.length = c := by simpa using hz
    simp only [lits, List.length_map, List.length_take] at this
    rw [hxl]
    rwa [Nat.min_eq_left (by omega)] at this

/-- A struct's cells, each read as its field's datum. -/
theorem rd_struct {t : TypeId} {fs : Array Field} {cs : List Value} {y : DataW H} {n : Nat} {ps : List MemPlace} (hs : Try.prog.underlying t = some (.struct fs)) (hone : oneCellFields Try.prog fs = true)
    (h : DataW.trod enc Try.prog w 0 (fun _ => true) true n t cs = some (y, ps)) (hf : Fits t y) :
    cs.length = Try.prog.cellsOf t ∧ ∀ (j : Nat) (f : Field) (v : Value), fs[j]? = some f → cs[j]? = some v → ∃ d, Rd enc w f.type v d ∧ Fits f.type d := by
  obtain ⟨xs, m, _, hx, hcl, hlen, hg⟩ := DataW.trod_struct hs h
  refine ⟨hcl, fun j f v hj hv => ?_⟩
  obtain ⟨o, k⟩ := hone_of hone j f hj
  have hgj := hg j f hj
  have hjl : j < xs.length := by rw [hlen]; exact (Array.getElem?_eq_some_iff.1 hj).1
  rw [o, k] at hgj
  have e1 : (cs.drop j).take 1 = [v] := by
    have hjc : j < cs.length := (List.getElem?_eq_some_iff.1 hv).1
    rw [List.drop_eq_getElem_cons hjc]
    have := (List.getElem?_eq_some_iff.1 hv).2
    simp [this]
  rw [e1, List.getElem?_eq_getElem hjl] at hgj
  injection hx with hx _
  subst hx
  exact ⟨xs[j].1, ⟨m, xs[j].2, hgj⟩, fits_part hs hf hj (by simp [hjl])⟩

/-- A list of what there is at each place. -/
theorem list_of {α : Type} {Q : Nat → α → Prop} : ∀ n, (∀ i, i < n → ∃ x, Q i x) → ∃ xs : List α, xs.length = n ∧ ∀ i x, xs[i]? = some x → Q i x
  | 0, _ => ⟨[], rfl, by simp⟩
  | n + 1, h => by
    obtain ⟨xs, hl, hx⟩ := list_of n fun i hi => h i (by omega)
    obtain ⟨x, hq⟩ := h n (by omega)
    refine ⟨xs ++ [x], by simp [hl], fun i y hy => ?_⟩
    rcases Nat.lt_or_ge i n with hi | hi
    · exact hx i y (by rwa [List.getElem?_append_left (by omega)] at hy)
    · have hin : i = n := by
        have := (List.getElem?_eq_some_iff.1 hy).1
        simp at this
        omega
      subst hin
      rw [← hl] at hy
      simp at hy
      subst hy
      exact hq

/-- A slice: its elements' cells, each element read as its datum. -/
theorem rd_slice {t e : TypeId} {v : Value} {y : DataW H} (ht : Try.prog.underlying t = some (.slice e)) (h : Rd enc w t v y) (hf : Fits t y) :
    ∃ a n c, v = .slice a n c ∧ n ≤ 9223372036854775807 ∧ n * Try.prog.bytesOf e ≤ 140737488351232 ∧ ((n = 0) ∨ ∃ x : Addr, a = some x ∧ ∀ i, i < n → ∃ cs d m ps, cs.length = Try.prog.cellsOf e ∧ (∀ j, j < cs.length → w.cell? (x.add (i * Try.prog.cellsOf e + j)) = cs[j]?) ∧
      DataW.trod enc Try.prog w 0 (fun _ => true) true m e cs = some (d, ps) ∧ Fits e d) := by
  obtain ⟨n, ps, h⟩ := h
  rcases open_slice ht h with ⟨hcs, _⟩ | ⟨x, len, cap, m, k, D, Pl, hcs, _, hl, hm, hmm, hx, hi⟩
  · exact ⟨none, 0, 0, by simpa using hcs, Nat.zero_le _, by rw [Nat.zero_mul]; exact Nat.zero_le _, .inl rfl⟩
  · injection hx with hx _
    subst hx
    have hfl := fits_len ht hf
    simp only [List.length_map, List.length_range] at hfl
    refine ⟨some x, len, cap, by simpa using hcs, by simp only [maxLen] at hm; omega, hfl, .inr ⟨x, rfl, fun i hil => ?_⟩⟩
    have hmc : m = cap := by simpa using hmm
    obtain ⟨cs, hcells, htr⟩ := hi i (by omega)
    obtain ⟨_, hcl, hat⟩ := World.cells?_some hcells
    refine ⟨cs, D i, k, Pl i, hcl, fun j hj => ?_, htr, fits_elem ht hf (List.mem_map.2 ⟨i, List.mem_range.2 hil, rfl⟩)⟩
    rw [← hat j (by omega), Go.Deep.add_add]
end
end Go.Proofs.Ytdnkijljpmcejaa
