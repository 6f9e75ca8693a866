/-
  From a walk that answers true and leaves what was there, to a row.
-/
import Derived.Test.YtdnkijljpmcejaaOpen
import Derived.ChangeCalls
namespace Go.Proofs.Ytdnkijljpmcejaa
open Go.ChangeShapes Go.WideShapes Go.ChangeAt Go.RowKit Go.Deep

section
variable {H : Type} {enc : TypeId × Value → H}
/-- The arguments read as they did. -/
theorem trodAll_below {W W' : World} (bel : Below W.heap.size W W') {ts : List TypeId} (hp : ∀ t ∈ ts, Try.prog.readableRec t = true ∧ t < Try.prog.types.size) :
    ∀ {vs : List Value} {ds : List (DataW H)} {ps : List MemPlace}, DataW.TrodAll enc Try.prog W 0 (fun _ => true) true ts vs ds ps → DataW.TrodAll enc Try.prog W' 0 (fun b => decide (b < W.heap.size)) true ts vs ds ps := by
  induction ts with
  | nil =>
    intro vs ds ps h
    obtain ⟨rfl, rfl, rfl⟩ := trodAll_nil h
    exact trodAll_mk0
  | cons t ts ih =>
    intro vs ds ps h
    obtain ⟨v, vs', d, ds', p, q, rfl, rfl, rfl, hd, hr⟩ := trodAll_cons h
    have hlt : ∀ x ∈ p, x.block < W.heap.size := by obtain ⟨m, hm⟩ := hd; exact DataW.trod_lt m _ _ _ hm
    exact trodAll_cons_mk (Below.trod laidOut (hp t (by simp)).1 (hp t (by simp)).2 hd bel hlt) (ih (fun t ht => hp t (by simp [ht])) hr)

theorem rd_of {W : World} {t : TypeId} {v : Value} {d : DataW H} {p : List MemPlace} (hv : v.cells.toList = [v]) (h : DataW.Trod enc Try.prog W 0 (fun _ => true) true t v d p) : Rd enc W t v d := by
  obtain ⟨n, h⟩ := h
  rw [hv] at h
  exact ⟨n, p, h⟩

set_option maxRecDepth 100000 in
theorem row_true (os : Os) (started : os.Started) {f : FuncId} {fn : Func} {s : ChangeSpec} {tb : TypeId}
    (noInit : Try.checked.prog.inits.idxOf? f = none) (hfn : Try.prog.funcs[f]? = some fn) (hres : fn.resultTypes = #[tb]) (htb : Try.prog.underlying tb = some .bool) (hsv : s.vars = [])
    (hfs : ∀ ds : List (DataW H), ds.length = fn.params.size → (s.fn H ds).results = [.lit (.bool true)] ∧ (s.fn H ds).args = ds ∧ (s.fn H ds).vars = [])
    (hpar : ∀ t ∈ fn.params.toList, Try.prog.readableRec t = true ∧ t < Try.prog.types.size)
    (witness : ∃ (w : World) (tape : Tape) (i : Input), w.os = os ∧ (w.forCall tape i).Shaped Try.checked.prog ∧ i.vars = [] ∧ Input.okWide Try.checked.prog (w.forCall tape i) .any w.heap.size f i ∧
      s.pre6 enc Try.checked.prog fn [] false (w.forCall tape i).memory i.args ∧ ({} : Assume).holds Try.checked.prog (lone (Frame.enter Try.checked.prog f i.args .normal) [] (w.forCall tape i)))
    (walk : ∀ (W : World) (base : Nat) (args : Array Value) (ds : List (DataW H)) (ps : List MemPlace), (∀ (j : Nat) t v, fn.params[j]? = some t → args[j]? = some v → Value.okWide Try.prog W .any base t v) →
      DataW.TrodAll enc Try.prog W 0 (fun _ => true) true fn.params.toList args.toList ds ps → (∀ (j : Nat) t d, fn.params.toList[j]? = some t → ds[j]? = some d → Fits t d) → Calls Try.prog f args W (TruePost W)) :
    ReturnsInHanded {} Try.checked os f .any (s.pre6 enc Try.prog fn [] false) (s.post enc Try.prog fn false true false false) := by
  refine returnsInHanded_of_change_sized (C := Try.checked) own started noInit hfn witness ?_
  intro W base args ds gs before hval hW _ hwt _
  have hW' := hW
  obtain ⟨p, q, hA, hV, rfl, hfz, hnd⟩ := hW
  have hA : DataW.TrodAll enc Try.prog W 0 (fun _ => true) true fn.params.toList args.toList ds p := hA
  rw [hsv] at hV
  obtain ⟨rfl, rfl⟩ := trodVars_none hV
  have hds : ds.length = fn.params.size := (Go.trodAll_length hA).2
  obtain ⟨e1, e2, e3⟩ := hfs ds hds
  have hft : ∀ (j : Nat) t d, fn.params.toList[j]? = some t → ds[j]? = some d → Fits t d := by
    intro j t d ht hd
    have hj := (List.getElem?_eq_some_iff.1 ht).1
    refine fits_arg hwt (j := j) ?_ ?_
    · rw [List.getElem?_append_left hj]; exact ht
    · rw [List.append_nil]; exact hd
  clear hwt
  refine (walk W base args ds p hval hA hft).mono ?_
  intro e W' hpost
  unfold TruePost at hpost
  obtain ⟨he, bel⟩ := hpost
  · subst he
    rw [List.append_nil] at hW'
    refine ⟨_, rfl, ds, [], p ++ [], [], p, [], by rw [List.append_nil]; exact hW', ?_, ?_, ?_, bel.frame _, fun h => by cases h⟩
    · rw [List.append_nil, e1, hres]
      exact trodAll_mk1 (shut_bool htb _)
    · rw [List.append_nil, e2]
      exact trodAll_below bel hpar hA
    · rw [List.append_nil, e3, hsv]
      rfl
end
end Go.Proofs.Ytdnkijljpmcejaa
