/-
  A law of no program: a region that draws its order, by what each operation comes to: whatever order is picked, each operation finds what those that it waits for have left.
-/
import Derived.Deep.RegionHeld
import Derived.Orders
namespace Go.Proofs.Ytdnkijljpmcejaa
open Go

def depsOf (md : Region.Mode) (o : Oper) : List Nat := (o.after.toList.filter (Region.binds md)).map (·.on)
/-- The slot that an operation writes. -/
def dstOf (ops : Array Oper) (i : Nat) : Option Tmp := (ops[i]?).bind (·.dst)
/-- Each operation waits for those whose slots it looks at; no two write one slot. -/
def regOk (md : Region.Mode) (ops : Array Oper) (n : Nat) : Bool :=
  (List.range ops.size).all fun i => match ops[i]? with
    | none => true
    | some o => (depsOf md o).all (fun j => decide (j < i)) && (match o.dst with | some d => decide (d < n) | none => true) &&
      (List.range ops.size).all fun j => match dstOf ops j with
        | none => true
        | some d => (!(o.looksAt ops).contains d || (depsOf md o).contains j) && (j == i || o.dst != some d)

/-- What an operation comes to, in a frame. -/
def OpTo (P : Program) (ops : Array Oper) (o : Oper) (a : Act) (w : World) (K : Value → World → Prop) : Prop :=
  if Region.wanted o (yielded ops a.tmps) = true then ∀ K' : Act → World → Prop, Shut (∀ a' w', (∃ v, a' = a.put o.dst v ∧ K v w') → K' a' w') → o.wp P a w K' (fun _ _ _ => False) else K undef w

/-- The frame behind the region, at these values. -/
def fillAll (ops : Array Oper) (vs : Nat → Value) (a0 : Act) : Act := (List.range ops.size).foldl (fun a i => a.put (dstOf ops i) (vs i)) a0

section
variable {P : Program} {md : Region.Mode} {ops : Array Oper} {Q : Exit → Act → World → Prop}

theorem put_defers (a : Act) (d : Option Tmp) (v : Value) : (a.put d v).defers = a.defers := by cases d <;> rfl
theorem put_size (a : Act) (d : Option Tmp) (v : Value) : (a.put d v).tmps.size = a.tmps.size := by cases d <;> simp [Act.put]
theorem put_at (a : Act) (d : Option Tmp) (v : Value) (t : Nat) (h : d ≠ some t) : (a.put d v).tmps[t]? = a.tmps[t]? := by
  cases d with
  | none => rfl
  | some d =>
    simp only [Act.put]
    rw [Array.getElem?_setIfInBounds_ne (fun e => h (by rw [e]))]
theorem put_here (a : Act) (d : Tmp) (v : Value) (h : d < a.tmps.size) : (a.put (some d) v).tmps[d]? = some v := by
  simp [Act.put, h]
theorem put_same {a b : Act} (hs : a.tmps.size = b.tmps.size) {d : Option Tmp} {v v' : Value} (h : a.put d v = a.put d v') : b.put d v = b.put d v' := by
  cases d with
  | none => rfl
  | some d =>
    by_cases hd : d < a.tmps.size
    · have h1 := put_here a d v hd
      rw [h, put_here a d v' hd] at h1
      rw [Option.some.inj h1]
    · rw [hs] at hd
      simp [Act.put, Array.setIfInBounds, hd]
/-- Two frames that agree where an operation looks. -/
def Agree (ops : Array Oper) (o : Oper) (a b : Act) : Prop := a.tmps.size = b.tmps.size ∧ a.defers = b.defers ∧ ∀ t ∈ o.looksAt ops, a.tmps[t]? = b.tmps[t]?
theorem agree_exec {o : Oper} (hs : ∀ cs b, o.op ≠ .select cs b) {a b : Act} (h : Agree ops o a b) : execOp a.eval o = execOp b.eval o :=
  execOp_congr o hs fun x hx => by
    cases x with
    | tmp t =>
      have := h.2.2 t (List.mem_append_left _ (List.mem_filterMap.2 ⟨.tmp t, by simpa using hx, rfl⟩))
      simp only [Act.eval, Array.getD_eq_getD_getElem?, this]
    | _ => rfl
theorem agree_wanted {o : Oper} {a b : Act} (h : Agree ops o a b) : Region.wanted o (yielded ops a.tmps) = Region.wanted o (yielded ops b.tmps) := by
  unfold Region.wanted
  cases hg : o.guard with
  | none => rfl
  | some gw =>
    obtain ⟨g, want⟩ := gw
    have hy : yielded ops a.tmps g = yielded ops b.tmps g := by
      unfold yielded
      cases ht : (ops[g]?).bind (·.dst) with
      | none => rfl
      | some t =>
        have := h.2.2 t (List.mem_append_right _ (by simp [hg, ht]))
        simp only [Option.bind_some, this]
    simp only [hy]
theorem opTo_wp {i : Nat} {o : Oper} (ho : ops[i]? = some o) (hs : ∀ cs b, o.op ≠ .select cs b) {a b : Act} {w : World} {K : Value → World → Prop} (h : Agree ops o a b) (hq : OpTo P ops o a w K) :
    wpOp P ops Q i (fun a' w' => ∃ v, a' = b.put o.dst v ∧ K v w') b w := by
  unfold wpOp OpTo at *
  simp only [ho]
  rw [agree_wanted h] at hq
  split
  · rename_i hw
    rw [if_pos hw] at hq
    refine .inl ?_
    have hq := hq (fun a' w' => ∃ v, a' = a.put o.dst v ∧ K v w') (fun _ _ x => x)
    unfold Oper.wp at *
    rw [agree_exec hs h] at hq
    generalize (execOp b.eval o).run P w = r at *
    cases r with
    | ok n w' =>
      cases n with
      | value v =>
        simp only [Oper.upon] at hq ⊢
        obtain ⟨v', e, hk⟩ := hq
        exact ⟨v', put_same h.1 e, hk⟩
      | skip =>
        simp only [Oper.upon] at hq ⊢
        obtain ⟨v', e, hk⟩ := hq
        exact ⟨v', put_same h.1 e, hk⟩
      | enter f args =>
        simp only [Oper.upon] at hq ⊢
        refine Calls.mono hq fun e w'' he => ?_
        cases e with
        | returned u =>
          obtain ⟨v', e, hk⟩ := he
          exact ⟨v', put_same h.1 e, hk⟩
        | panicked c => exact he.elim
        | outgrown =>
          obtain ⟨_, _, x⟩ := (he : LetsOut _)
          exact x.elim
      | row row args =>
        simp only [Oper.upon] at hq ⊢
        exact Rows.mono hq fun u w'' he => by
          obtain ⟨v', e, hk⟩ := he
          exact ⟨v', put_same h.1 e, hk⟩
      | defer d =>
        simp only [Oper.upon] at hq
        obtain ⟨v', e, hk⟩ := hq
        have := congrArg (fun x => x.defers.length) e
        simp only [put_defers, List.length_cons] at this
        omega
      | _ => simp only [Oper.upon] at hq
    | halt x w' =>
      cases x <;> simp only [Oper.upon] at hq
  · rename_i hw
    rw [if_neg hw] at hq
    exact ⟨undef, rfl, hq⟩

/-- What stands of the operations that have come up. -/
structure InvAt (ops : Array Oper) (a0 : Act) (T : Nat → Value → World → Prop) (G : (Nat → Bool) → World → Prop) (vs : Nat → Value) (listed : Array Bool) (a : Act) (w : World) : Prop where
  g : G (fun i => listed.getD i false) w
  defers : a.defers = a0.defers
  size : a.tmps.size = a0.tmps.size
  good : ∀ i, listed.getD i false = true → T i (vs i) w
  here : ∀ i d, listed.getD i false = true → dstOf ops i = some d → a.tmps[d]? = some (vs i)
  far : ∀ t, (∀ i, listed.getD i false = true → dstOf ops i ≠ some t) → a.tmps[t]? = a0.tmps[t]?
theorem getD_ft {listed : Array Bool} {i : Nat} (h : listed.getD i true = false) : i < listed.size ∧ listed.getD i false = false := by
  rcases Nat.lt_or_ge i listed.size with hi | hi
  · refine ⟨hi, ?_⟩
    simp [hi] at h ⊢
    exact h
  · simp [Array.getElem?_eq_none hi] at h
theorem getD_set_self {listed : Array Bool} {i : Nat} (h : i < listed.size) : (listed.setIfInBounds i true).getD i false = true := by simp [h]
theorem getD_set_far {listed : Array Bool} {i j : Nat} (h : j ≠ i) : (listed.setIfInBounds i true).getD j false = listed.getD j false := by
  simp [Ne.symm h]
theorem fill_spec (vs : Nat → Value) (a0 : Act) (n : Nat) (hd : ∀ i d, i < n → dstOf ops i = some d → d < a0.tmps.size) (hn : ∀ i j d, i < n → j < n → dstOf ops i = some d → dstOf ops j = some d → i = j) :
    ∀ m, m ≤ n → ((List.range m).foldl (fun a i => a.put (dstOf ops i) (vs i)) a0).defers = a0.defers ∧ ((List.range m).foldl (fun a i => a.put (dstOf ops i) (vs i)) a0).tmps.size = a0.tmps.size ∧
      (∀ i d, i < m → dstOf ops i = some d → ((List.range m).foldl (fun a i => a.put (dstOf ops i) (vs i)) a0).tmps[d]? = some (vs i)) ∧
      (∀ t, (∀ i, i < m → dstOf ops i ≠ some t) → ((List.range m).foldl (fun a i => a.put (dstOf ops i) (vs i)) a0).tmps[t]? = a0.tmps[t]?)
  | 0, _ => ⟨rfl, rfl, fun _ _ h => by omega, fun _ _ => rfl⟩
  | m + 1, hm => by
    obtain ⟨h1, h2, h3, h4⟩ := fill_spec vs a0 n hd hn m (by omega)
    rw [List.range_succ, List.foldl_append]
    simp only [List.foldl_cons, List.foldl_nil]
    generalize (List.range m).foldl (fun a i => a.put (dstOf ops i) (vs i)) a0 = b at *
    refine ⟨by rw [put_defers, h1], by rw [put_size, h2], fun i d hi hid => ?_, fun t ht => ?_⟩
    · by_cases him : i = m
      · subst him
        rw [hid]
        exact put_here b d (vs i) (by rw [h2]; exact hd i d (by omega) hid)
      · rw [put_at b _ _ d (fun e => him (hn i m d (by omega) (by omega) hid e))]
        exact h3 i d (by omega) hid
    · rw [put_at b _ _ t (ht m (by omega))]
      exact h4 t fun i hi => ht i (by omega)
theorem regOk_spec {n : Nat} (h : regOk md ops n = true) {i : Nat} {o : Oper} (ho : ops[i]? = some o) :
    (∀ j ∈ depsOf md o, j < i) ∧ (∀ d, o.dst = some d → d < n) ∧ (∀ j d, j < ops.size → dstOf ops j = some d → d ∈ o.looksAt ops → j ∈ depsOf md o) ∧ ∀ j d, j < ops.size → dstOf ops j = some d → o.dst = some d → j = i := by
  have hi : i < ops.size := (Array.getElem?_eq_some_iff.1 ho).1
  have h := List.all_eq_true.1 h i (List.mem_range.2 hi)
  simp only [ho, Bool.and_eq_true, List.all_eq_true, decide_eq_true_eq] at h
  obtain ⟨⟨h1, h2⟩, h3⟩ := h
  refine ⟨h1, fun d hd => by simpa [hd] using h2, fun j d hj hjd hl => ?_, fun j d hj hjd hod => ?_⟩
  · have := h3 j (List.mem_range.2 hj)
    simp only [hjd, Bool.and_eq_true, Bool.or_eq_true, Bool.not_eq_true'] at this
    rcases this.1 with x | x
    · have := List.contains_iff_mem.2 hl
      rw [x] at this
      cases this
    · exact List.contains_iff_mem.1 x
  · have := h3 j (List.mem_range.2 hj)
    simp only [hjd, Bool.and_eq_true, Bool.or_eq_true, beq_iff_eq, hod, bne_self_eq_false, Bool.false_eq_true, or_false] at this
    exact this.2
theorem all_listed {n : Nat} (hok : regOk md ops n = true) {listed : Array Bool} (hs : listed.size = ops.size) (h : Region.ready md ops listed = []) : ∀ i, i < ops.size → listed.getD i false = true := by
  intro i
  induction i using Nat.strongRecOn with
  | _ i ih =>
    intro hi
    cases hl : listed.getD i false with
    | true => rfl
    | false =>
      obtain ⟨o, ho⟩ : ∃ o, ops[i]? = some o := ⟨_, Array.getElem?_eq_getElem hi⟩
      obtain ⟨h1, _⟩ := regOk_spec hok ho
      have : i ∈ Region.ready md ops listed := mem_ready.2 ⟨by simp [hs, hi] at hl ⊢; exact hl, o, ho, fun e he hb => ih e.on (h1 _ (List.mem_map.2 ⟨e, List.mem_filter.2 ⟨by simpa using he, hb⟩, rfl⟩)) (by have := h1 e.on (List.mem_map.2 ⟨e, List.mem_filter.2 ⟨by simpa using he, hb⟩, rfl⟩); omega)⟩
      rw [h] at this
      cases this
theorem count_step {l : List Bool} {i n : Nat} (h : l[i]? = some false) (hn : l.count false ≤ n + 1) : (l.set i true).count false ≤ n := by
  have hi := (List.getElem?_eq_some_iff.1 h).1
  have e : l[i] = false := (List.getElem?_eq_some_iff.1 h).2
  rw [List.count_set hi, e]
  simp
  omega
/-- **Whatever order is picked.** -/
theorem wpAny_inv {a0 : Act} {T : Nat → Value → World → Prop} {G : (Nat → Bool) → World → Prop} {R : Nat → World → World → Prop}
    (hok : regOk md ops a0.tmps.size = true) (hsel : Region.noSelect ops = true)
    (mono : ∀ i j (L : Nat → Bool) v w w', j ≠ i → L i = false → L j = true → G L w → T j v w → R i w w' → T j v w')
    (step : ∀ i o, ops[i]? = some o → ∀ (L : Nat → Bool) (vs : Nat → Value) (w : World), L i = false → (∀ j ∈ depsOf md o, L j = true) → G L w → (∀ j ∈ depsOf md o, T j (vs j) w) → OpTo P ops o (fillAll ops vs a0) w (fun v w' => G (fun j => j == i || L j) w' ∧ R i w w' ∧ T i v w'))
    (fin : ∀ (L : Nat → Bool) (vs : Nat → Value) (w : World), (∀ i, i < ops.size → L i = true) → G L w → (∀ i, i < ops.size → T i (vs i) w) → Q .normal (fillAll ops vs a0) w) :
    ∀ (fuel : Nat) (listed : Array Bool) (vs : Nat → Value) (a : Act) (w : World), listed.size = ops.size → listed.toList.count false ≤ fuel → InvAt ops a0 T G vs listed a w → wpAny P md ops Q fuel listed a w := by
  have hdst : ∀ i d, i < ops.size → dstOf ops i = some d → d < a0.tmps.size := fun i d hi hd => by
    obtain ⟨o, ho⟩ : ∃ o, ops[i]? = some o := ⟨_, Array.getElem?_eq_getElem hi⟩
    exact (regOk_spec hok ho).2.1 d (by simpa [dstOf, ho] using hd)
  have huni : ∀ i j d, i < ops.size → j < ops.size → dstOf ops i = some d → dstOf ops j = some d → i = j := fun i j d hi hj hid hjd => by
    obtain ⟨o, ho⟩ : ∃ o, ops[j]? = some o := ⟨_, Array.getElem?_eq_getElem hj⟩
    exact (regOk_spec hok ho).2.2.2 i d hi hid (by simpa [dstOf, ho] using hjd)
  have done : ∀ (listed : Array Bool) (vs : Nat → Value) (a : Act) (w : World), listed.size = ops.size → InvAt ops a0 T G vs listed a w → Region.ready md ops listed = [] → Q .normal a w := by
    intro listed vs a w hs hI hr
    have hall := all_listed hok hs hr
    obtain ⟨f1, f2, f3, f4⟩ := fill_spec (ops := ops) vs a0 ops.size hdst huni ops.size (Nat.le_refl _)
    have e : a = fillAll ops vs a0 := by
      obtain ⟨t, df⟩ := a
      have e1 : df = (fillAll ops vs a0).defers := (hI.defers).trans f1.symm
      have e2 : t = (fillAll ops vs a0).tmps := by
        apply Array.ext_getElem?
        intro d
        by_cases hd : ∃ i, i < ops.size ∧ dstOf ops i = some d
        · obtain ⟨i, hi, hid⟩ := hd
          exact (hI.here i d (hall i hi) hid).trans (f3 i d hi hid).symm
        · have hno : ∀ i, i < ops.size → dstOf ops i ≠ some d := fun i hi x => hd ⟨i, hi, x⟩
          exact (hI.far d fun i hi => hno i (by
            rcases Nat.lt_or_ge i listed.size with h | h
            · omega
            · simp [Array.getElem?_eq_none h] at hi)).trans (f4 d hno).symm
      rw [e1, e2]
    rw [e]
    exact fin (fun i => listed.getD i false) vs w hall hI.g fun i hi => hI.good i (hall i hi)
  intro fuel
  induction fuel with
  | zero =>
    intro listed vs a w hs hc hI
    have hr : Region.ready md ops listed = [] := by
      rw [List.eq_nil_iff_forall_not_mem]
      intro i hi
      obtain ⟨h1, h2⟩ := getD_ft (mem_ready.1 hi).1
      have hm : false ∈ listed.toList := by
        rw [List.mem_iff_getElem?]
        exact ⟨i, by simp [h1] at h2 ⊢; exact h2⟩
      have := List.count_pos_iff.2 hm
      omega
    exact ⟨hr, done listed vs a w hs hI hr⟩
  | succ fuel ih =>
    intro listed vs a w hs hc hI
    refine ⟨done listed vs a w hs hI, fun i hi => ?_⟩
    obtain ⟨hun, o, ho, hall⟩ := mem_ready.1 hi
    obtain ⟨hil, hif⟩ := getD_ft hun
    obtain ⟨k1, k2, k3, k4⟩ := regOk_spec hok ho
    have hdep : ∀ j ∈ depsOf md o, listed.getD j false = true := fun j hj => by
      obtain ⟨e, he, rfl⟩ := List.mem_map.1 hj
      obtain ⟨he1, he2⟩ := List.mem_filter.1 he
      exact hall e (by simpa using he1) he2
    have hio : dstOf ops i = o.dst := by simp [dstOf, ho]
    obtain ⟨f1, f2, f3, f4⟩ := fill_spec (ops := ops) vs a0 ops.size hdst huni ops.size (Nat.le_refl _)
    have hag : Agree ops o (fillAll ops vs a0) a := by
      refine ⟨f2.trans hI.size.symm, f1.trans hI.defers.symm, fun t ht => ?_⟩
      by_cases hd : ∃ j, j < ops.size ∧ dstOf ops j = some t
      · obtain ⟨j, hj, hjd⟩ := hd
        exact (f3 j t hj hjd).trans (hI.here j t (hdep j (k3 j t hj hjd ht)) hjd).symm
      · have hno : ∀ j, j < ops.size → dstOf ops j ≠ some t := fun j hj x => hd ⟨j, hj, x⟩
        exact (f4 t hno).trans (hI.far t fun j hj => hno j (by
          rcases Nat.lt_or_ge j listed.size with h | h
          · omega
          · simp [Array.getElem?_eq_none h] at hj)).symm
    have hgo := opTo_wp (Q := Q) ho (Region.noSelect_spec hsel i o · · ho) hag (step i o ho (fun i => listed.getD i false) vs w hif hdep hI.g fun j hj => hI.good j (hdep j hj))
    refine wpOp_mono ?_ hgo
    rintro a' w' ⟨v, rfl, g', r', t'⟩
    refine ih (listed.setIfInBounds i true) (fun j => if j = i then v else vs j) _ w' (by simpa using hs) ?_ ?_
    · rw [Array.toList_setIfInBounds]
      refine count_step (n := fuel) ?_ hc
      simp [hil] at hif ⊢
      exact hif
    · have hset : ∀ j, (listed.setIfInBounds i true).getD j false = true → j = i ∨ listed.getD j false = true := fun j hj => by
        by_cases hji : j = i
        · exact .inl hji
        · rw [getD_set_far hji] at hj
          exact .inr hj
      have hfun : (fun j => (listed.setIfInBounds i true).getD j false) = fun j => j == i || listed.getD j false := by
        funext j
        by_cases hji : j = i
        · subst hji
          rw [getD_set_self hil]
          simp
        · rw [getD_set_far hji]
          simp [hji]
      refine ⟨by rw [hfun]; exact g', by rw [put_defers, hI.defers], by rw [put_size, hI.size], fun j hj => ?_, fun j d hj hjd => ?_, fun t ht => ?_⟩
      · by_cases hji : j = i
        · subst hji
          rw [if_pos rfl]
          exact t'
        · rw [if_neg hji]
          exact mono i j _ _ _ _ hji hif ((hset j hj).resolve_left hji) hI.g (hI.good j ((hset j hj).resolve_left hji)) r'
      · by_cases hji : j = i
        · subst hji
          rw [if_pos rfl]
          rw [hio] at hjd
          rw [hjd]
          exact put_here a d v (by rw [hI.size]; exact k2 d hjd)
        · rw [if_neg hji]
          have hjl := (hset j hj).resolve_left hji
          have hjs : j < ops.size := by
            rcases Nat.lt_or_ge j listed.size with h | h
            · omega
            · simp [Array.getElem?_eq_none h] at hjl
          rw [put_at a _ v d (fun e => hji (k4 j d hjs hjd e))]
          exact hI.here j d hjl hjd
      · rw [put_at a _ v t (fun e => ht i (getD_set_self hil) (hio.trans e))]
        refine hI.far t fun j hj => ht j ?_
        by_cases hji : j = i
        · rw [hji]; exact getD_set_self hil
        · rw [getD_set_far hji]; exact hj

/-- The obligations, one an operation. -/
def Steps (P : Program) (md : Region.Mode) (ops : Array Oper) (a0 : Act) (T : Nat → Value → World → Prop) (G : (Nat → Bool) → World → Prop) (R : Nat → World → World → Prop) : Nat → List Oper → Prop
  | _, [] => True
  | i, o :: l => (∀ (L : Nat → Bool) (vs : Nat → Value) (w : World), L i = false → (∀ j ∈ depsOf md o, L j = true) → G L w → (∀ j ∈ depsOf md o, T j (vs j) w) → OpTo P ops o (fillAll ops vs a0) w (fun v w' => G (fun j => j == i || L j) w' ∧ R i w w' ∧ T i v w')) ∧ Steps P md ops a0 T G R (i + 1) l
theorem Steps.at {a0 : Act} {T : Nat → Value → World → Prop} {G : (Nat → Bool) → World → Prop} {R : Nat → World → World → Prop} : ∀ {k : Nat} {l : List Oper}, Steps P md ops a0 T G R k l → ∀ i o, l[i]? = some o → ∀ (L : Nat → Bool) (vs : Nat → Value) (w : World), L (k + i) = false → (∀ j ∈ depsOf md o, L j = true) → G L w → (∀ j ∈ depsOf md o, T j (vs j) w) → OpTo P ops o (fillAll ops vs a0) w (fun v w' => G (fun j => j == k + i || L j) w' ∧ R (k + i) w w' ∧ T (k + i) v w')
  | _, [], _, _, _, h => by simp at h
  | k, x :: l, h, 0, o, ho => by
    obtain rfl : x = o := by simpa using ho
    exact h.1
  | k, x :: l, h, i + 1, o, ho => by
    have := Steps.at h.2 i o (by simpa using ho)
    rw [show k + 1 + i = k + (i + 1) by omega] at this
    exact this
theorem Steps.nil {a0 : Act} {T : Nat → Value → World → Prop} {G : (Nat → Bool) → World → Prop} {R : Nat → World → World → Prop} {i : Nat} : Steps P md ops a0 T G R i [] := trivial
theorem Steps.cons {a0 : Act} {T : Nat → Value → World → Prop} {G : (Nat → Bool) → World → Prop} {R : Nat → World → World → Prop} {i : Nat} {o : Oper} {l : List Oper}
    (h : ∀ (L : Nat → Bool) (vs : Nat → Value) (w : World), L i = false → (∀ j ∈ depsOf md o, L j = true) → G L w → (∀ j ∈ depsOf md o, T j (vs j) w) → OpTo P ops o (fillAll ops vs a0) w (fun v w' => G (fun j => j == i || L j) w' ∧ R i w w' ∧ T i v w')) (k : Steps P md ops a0 T G R (i + 1) l) : Steps P md ops a0 T G R i (o :: l) := ⟨h, k⟩
theorem wp_region_inv {id : Nat} {a0 : Act} {w0 : World} {l : List Oper} (T : Nat → Value → World → Prop) (G : (Nat → Bool) → World → Prop) (R : Nat → World → World → Prop) (hm : P.follows .mixedOrders = true)
    (hok : regOk .any l.toArray a0.tmps.size = true) (hsel : Region.noSelect l.toArray = true) (hG : G (fun _ => false) w0.drew) (mono : ∀ i j (L : Nat → Bool) v w w', j ≠ i → L i = false → L j = true → G L w → T j v w → R i w w' → T j v w')
    (step : Steps P .any l.toArray a0 T G R 0 l)
    (fin : ∀ (L : Nat → Bool) (vs : Nat → Value) (w : World), (∀ i, i < l.length → L i = true) → G L w → (∀ i, i < l.length → T i (vs i) w) → Q .normal (fillAll l.toArray vs a0) w) : (Code.region id l.toArray true).wp P Q a0 w0 := by
  refine wp_region_any hm (wpAny_inv hok hsel mono (fun i o ho L vs w hl hdl hg hd => ?_) (fun L vs w hl hg hT => fin L vs w (fun i hi => hl i (by simpa using hi)) hg fun i hi => hT i (by simpa using hi)) _ _ (fun _ => undef) _ _ (by simp) (by simp) ⟨?_, rfl, rfl, fun i hi => ?_, fun i d hi _ => ?_, fun _ _ => rfl⟩)
  · have := Steps.at step i o (by simpa using ho) L vs w (by rw [Nat.zero_add]; exact hl) hdl hg hd
    rw [Nat.zero_add] at this
    exact this
  · have e : (fun i => (Array.replicate l.toArray.size false).getD i false) = fun _ => false := by
      funext i
      rcases Nat.lt_or_ge i l.length with h | h <;> simp [h, Nat.not_lt.2]
    rw [e]
    exact hG
  · rcases Nat.lt_or_ge i l.length with h | h <;> simp [h, Nat.not_lt.2] at hi
  · rcases Nat.lt_or_ge i l.length with h | h <;> simp [h, Nat.not_lt.2] at hi
/-- What an operation that is wanted comes to. -/
theorem opTo_of {o : Oper} {a : Act} {w : World} {K : Value → World → Prop} (hw : Region.wanted o (yielded ops a.tmps) = true)
    (h : ∀ K' : Act → World → Prop, Shut (∀ v a' w', a' = a.put o.dst v → K v w' → K' a' w') → o.wp P a w K' (fun _ _ _ => False)) : OpTo P ops o a w K := by
  unfold OpTo
  rw [if_pos hw]
  intro K' hK
  exact h K' fun v a' w' e hk => hK.out _ _ ⟨v, e, hk⟩
/-- The same, with the frame written out. -/
def StepsA (P : Program) (md : Region.Mode) (ops : Array Oper) (A : (Nat → Value) → Act) (T : Nat → Value → World → Prop) (G : (Nat → Bool) → World → Prop) (R : Nat → World → World → Prop) : Nat → List Oper → Prop
  | _, [] => True
  | i, o :: l => (∀ (L : Nat → Bool) (vs : Nat → Value) (w : World), L i = false → (∀ j ∈ depsOf md o, L j = true) → G L w → (∀ j ∈ depsOf md o, T j (vs j) w) → OpTo P ops o (A vs) w (fun v w' => G (fun j => j == i || L j) w' ∧ R i w w' ∧ T i v w')) ∧ StepsA P md ops A T G R (i + 1) l
theorem StepsA.nil {A : (Nat → Value) → Act} {T : Nat → Value → World → Prop} {G : (Nat → Bool) → World → Prop} {R : Nat → World → World → Prop} {i : Nat} : StepsA P md ops A T G R i [] := trivial
theorem StepsA.cons {A : (Nat → Value) → Act} {T : Nat → Value → World → Prop} {G : (Nat → Bool) → World → Prop} {R : Nat → World → World → Prop} {i : Nat} {o : Oper} {l : List Oper}
    (h : ∀ (L : Nat → Bool) (vs : Nat → Value) (w : World), L i = false → (∀ j ∈ depsOf md o, L j = true) → G L w → (∀ j ∈ depsOf md o, T j (vs j) w) → OpTo P ops o (A vs) w (fun v w' => G (fun j => j == i || L j) w' ∧ R i w w' ∧ T i v w')) (k : StepsA P md ops A T G R (i + 1) l) : StepsA P md ops A T G R i (o :: l) := ⟨h, k⟩
theorem StepsA.to {a0 : Act} {A : (Nat → Value) → Act} {T : Nat → Value → World → Prop} {G : (Nat → Bool) → World → Prop} {R : Nat → World → World → Prop} (hA : ∀ vs, fillAll ops vs a0 = A vs) : ∀ {i : Nat} {l : List Oper}, StepsA P md ops A T G R i l → Steps P md ops a0 T G R i l
  | _, [], _ => trivial
  | _, _ :: _, h => ⟨fun L vs w hl hdl hg hd => by rw [hA]; exact h.1 L vs w hl hdl hg hd, StepsA.to hA h.2⟩
theorem wp_region_invA {id : Nat} {a0 : Act} {w0 : World} {l : List Oper} (A : (Nat → Value) → Act) (T : Nat → Value → World → Prop) (G : (Nat → Bool) → World → Prop) (R : Nat → World → World → Prop) (hA : ∀ vs, fillAll l.toArray vs a0 = A vs) (hm : P.follows .mixedOrders = true)
    (hok : regOk .any l.toArray a0.tmps.size = true) (hsel : Region.noSelect l.toArray = true) (hG : G (fun _ => false) w0.drew) (mono : ∀ i j (L : Nat → Bool) v w w', j ≠ i → L i = false → L j = true → G L w → T j v w → R i w w' → T j v w')
    (step : StepsA P .any l.toArray A T G R 0 l)
    (fin : ∀ (L : Nat → Bool) (vs : Nat → Value) (w : World), (∀ i, i < l.length → L i = true) → G L w → (∀ i, i < l.length → T i (vs i) w) → Q .normal (A vs) w) : (Code.region id l.toArray true).wp P Q a0 w0 :=
  wp_region_inv T G R hm hok hsel hG mono (step.to hA) (fun L vs w hl hg hT => by rw [hA]; exact fin L vs w hl hg hT)
/-- The frame behind the region, operation by operation. -/
def fillL : List Oper → Nat → (Nat → Value) → Act → Act
  | [], _, _, a => a
  | o :: l, i, vs, a => fillL l (i + 1) vs (a.put o.dst (vs i))
theorem fillL_eq (vs : Nat → Value) : ∀ (l pre : List Oper) (a : Act), fillL l pre.length vs a = (List.range' pre.length l.length).foldl (fun a i => a.put (dstOf (pre ++ l).toArray i) (vs i)) a
  | [], _, _ => rfl
  | o :: l, pre, a => by
    have e : dstOf (pre ++ o :: l).toArray pre.length = o.dst := by simp [dstOf]
    have ih := fillL_eq vs l (pre ++ [o]) (a.put o.dst (vs pre.length))
    simp only [List.length_append, List.length_cons, List.length_nil, List.append_assoc, List.cons_append, List.nil_append, Nat.zero_add] at ih
    rw [fillL, ih, List.length_cons, List.range'_succ, List.foldl_cons, e]
theorem fillL_all (vs : Nat → Value) (l : List Oper) (a : Act) : fillAll l.toArray vs a = fillL l 0 vs a := by
  have := fillL_eq vs l [] a
  simp only [List.length_nil, List.nil_append] at this
  rw [this]
  unfold fillAll
  rw [List.range_eq_range', List.size_toArray]
theorem wp_region_invB {id : Nat} {a0 : Act} {w0 : World} {l : List Oper} (A : (Nat → Value) → Act) (T : Nat → Value → World → Prop) (G : (Nat → Bool) → World → Prop) (R : Nat → World → World → Prop) (hA : ∀ vs, fillL l 0 vs a0 = A vs) (hm : P.follows .mixedOrders = true)
    (hok : regOk .any l.toArray a0.tmps.size = true) (hsel : Region.noSelect l.toArray = true) (hG : G (fun _ => false) w0.drew) (mono : ∀ i j (L : Nat → Bool) v w w', j ≠ i → L i = false → L j = true → G L w → T j v w → R i w w' → T j v w')
    (step : StepsA P .any l.toArray A T G R 0 l)
    (fin : ∀ (L : Nat → Bool) (vs : Nat → Value) (w : World), (∀ i, i < l.length → L i = true) → G L w → (∀ i, i < l.length → T i (vs i) w) → Q .normal (A vs) w) : (Code.region id l.toArray true).wp P Q a0 w0 :=
  wp_region_invA A T G R (fun vs => (fillL_all vs l a0).trans (hA vs)) hm hok hsel hG mono step fin
end
end Go.Proofs.Ytdnkijljpmcejaa
