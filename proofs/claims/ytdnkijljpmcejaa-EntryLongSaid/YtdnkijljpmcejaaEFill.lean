/-
  Entries of the same form: filled ones.
-/
import Derived.Test.YtdnkijljpmcejaaESpoil
import Derived.Test.YtdnkijljpmcejaaERCopy
import Derived.Test.YtdnkijljpmcejaaEnLen
namespace Go.Proofs.Ytdnkijljpmcejaa
open Go.RowKit

/-- Another one of the same form. -/
structure Fil (e e' : En) : Prop where
  k : e'.k = e.k
  id : numB e'.id = true
  id0 : e.k ≠ 2 → e'.id = 0
  ep : numB e'.ep = true
  ep0 : e.k ≠ 3 → e.k ≠ 4 → e'.ep = 0
  x : e'.x.length = e.x.length
  coms : lens e'.coms = lens e.coms
  next : e'.next.length = e.next.length
  nextB : ∀ n ∈ e'.next, numB n = true
  deals : dlens e'.deals = dlens e.deals
  dealsB : ∀ d ∈ e'.deals, numB d.1 = true
theorem fillS_lens : ∀ {a b : List (List Int)}, lens a = lens b → fillS a = fillS b
  | [], [], _ => rfl
  | [], _ :: _, h => by simp [lens] at h
  | _ :: _, [], h => by simp [lens] at h
  | x :: a, y :: b, h => by
    simp only [lens, List.map_cons, List.cons.injEq] at h
    have h2 := fillS_lens (a := a) (b := b) h.2
    simp only [fillS, List.map_cons] at h2 ⊢
    rw [h2, List.map_const', List.map_const', h.1]
theorem dfill : ∀ {a b : List Dl}, dlens a = dlens b → a.map (fun d => ((0 : Int), fillS d.2)) = b.map fun d => ((0 : Int), fillS d.2)
  | [], [], _ => rfl
  | [], _ :: _, h => by simp [dlens] at h
  | _ :: _, [], h => by simp [dlens] at h
  | x :: a, y :: b, h => by
    simp only [dlens, List.map_cons, List.cons.injEq] at h
    have h2 := dfill (a := a) (b := b) h.2
    rw [List.map_cons, List.map_cons, h2, fillS_lens h.1]
theorem Fil.same {e e' : En} (h : Fil e e') : e'.fill 0 = e.fill 0 := by
  have h1 := fillS_lens h.coms
  have h2 := dfill h.deals
  unfold En.fill
  rw [h.k, h1, List.map_const', List.map_const', List.map_const', List.map_const', h.x, h.next]
  simp only [Int.zero_emod]
  rw [h2]
theorem Fil.len {e e' : En} (h : Fil e e') : e'.bytes.length = e.bytes.length := by
  rw [← fill_len e' 0, ← fill_len e 0, h.same]
theorem lens_length {a b : List (List Int)} (h : lens a = lens b) : a.length = b.length := by
  have := congrArg List.length h
  simpa [lens] using this
theorem dlens_length {a b : List Dl} (h : dlens a = dlens b) : a.length = b.length := by
  have := congrArg List.length h
  simpa [dlens] using this
theorem dlens_all : ∀ {a b : List Dl}, dlens a = dlens b → (∀ d ∈ a, numB d.1 = true) → b.all dlB = true → a.all dlB = true
  | [], _, _, _, _ => rfl
  | _ :: _, [], h, _, _ => by simp [dlens] at h
  | x :: a, y :: b, h, hn, hb => by
    simp only [dlens, List.map_cons, List.cons.injEq] at h
    simp only [List.all_cons, Bool.and_eq_true] at hb ⊢
    refine ⟨?_, dlens_all h.2 (fun d hd => hn d (by simp [hd])) hb.2⟩
    have h1 := lens_length h.1
    have h2 := hn x (by simp)
    have h3 := hb.1
    simp only [dlB, Bool.and_eq_true, decide_eq_true_eq] at h3 ⊢
    exact ⟨h2, by rw [h1]; exact h3.2⟩
theorem Fil.form {e e' : En} (h : Fil e e') (hf : e.form = true) : e'.form = true := by
  have c := lens_length h.coms
  have d := dlens_length h.deals
  have h8 := h.id0
  have h9 := h.ep0
  unfold En.form at hf ⊢
  simp only [Bool.and_eq_true] at hf ⊢
  obtain ⟨⟨⟨⟨⟨⟨⟨⟨⟨⟨f1, f2⟩, f3⟩, f4⟩, f5⟩, f6⟩, f7⟩, f8⟩, f9⟩, f10⟩, f11⟩ := hf
  refine ⟨⟨⟨⟨⟨⟨⟨⟨⟨⟨?_, ?_⟩, ?_⟩, h.id⟩, h.ep⟩, ?_⟩, ?_⟩, ?_⟩, ?_⟩, dlens_all h.deals h.dealsB f10⟩, ?_⟩
  · rw [h.k]; exact f1
  · rw [h.k]; exact f2
  · unfold En.none at f3 ⊢
    rw [h.k, h.x, c, h.next, d]
    simp only [Bool.and_eq_true, Bool.or_eq_true, beq_iff_eq] at f3 ⊢
    obtain ⟨⟨⟨⟨g1, g2⟩, g3⟩, g4⟩, g5⟩ := f3
    refine ⟨⟨⟨⟨?_, g2⟩, g3⟩, g4⟩, ?_⟩
    · by_cases hk : e.k = 2
      · exact .inl hk
      · exact .inr ⟨h8 hk, (g1.resolve_left hk).2⟩
    · by_cases hk : e.k = 3
      · exact .inl (.inr hk)
      · by_cases hk4 : e.k = 4
        · exact .inr hk4
        · exact .inl (.inl (h9 hk hk4))
  · rw [h.x]; exact f6
  · rw [c]; exact f7
  · rw [h.next]; exact f8
  · rw [d]; exact f9
  · rw [List.all_eq_true]; exact h.nextB
/-- What EntryLong asks. -/
theorem fil_law {e e' : En} (h : Fil e e') (h4 : (eenc e).2 ≠ 4) : (eenc e').2 = (eenc e).2 ∧ (eenc e').1.length = (eenc e).1.length := by
  have hl := h.len
  unfold eenc at h4 ⊢
  by_cases hf : e.form = true
  · rw [if_pos hf] at h4 ⊢
    rw [if_pos (h.form hf)]
    by_cases h2 : e.bytes.length ≤ 2048
    · rw [if_pos h2, if_pos (by omega)]
      exact ⟨rfl, hl⟩
    · rw [if_neg h2, if_neg (by omega)]
      exact ⟨rfl, rfl⟩
  · rw [if_neg hf] at h4
    exact absurd rfl h4
end Go.Proofs.Ytdnkijljpmcejaa
