/-
  append to a slice of the call's own at elements of any size; slices.Clone at numbers; net.own and consistoryref28.own.
-/
import Derived.Test.YtbibbndjnlnbiaaNetAt
import Derived.Test.YtbibbndjnlnbiaaAppZ
import Derived.Test.YtbibbndjnlnbiaaWr
import Derived.Deep.RegionLaw
import Derived.Lib.SliceRun
namespace Go.Proofs.Ytbibbndjnlnbiaa
open Go.RowKit

theorem run_append_any {P : Program} (w : World) (base : Nat) (t ty e : TypeId) (i : TypeInfo) (z : Value) (size bytes : Nat) (ht : P.underlying t = some (.slice e)) (hi : P.info? e = some i) (hz : i.zero = some z)
    (hsize : i.size = size) (hb : i.bytes = bytes) (hzs : z.cells.size = size) (hsz : 0 < size)
    (v : Value) (n : Nat) (xs : List Value) (hown : w.ownsRow base e size v n xs) (hv : v.ownBlock ≠ none)
    (ad : Option Addr) (m c : Nat) (news : List Value) (hl : news.length = m * size) (hnews : news = [] ∨ ∃ p, ad = some p ∧ ∀ j u, news[j]? = some u → w.cell? (p.add j) = some u) (h1 : ∀ u ∈ news, u.oneCell' = true)
    (h63 : n + m ≤ maxLen) (hbytes : (n + m) * bytes ≤ 140737488355328) (hbase : base ≤ w.heap.size) :
    ∃ q cap w', (Builtin.append_ #[t, t] ty #[v, .slice ad m c]).run P w = .ok (.slice (some ⟨q, 0, none⟩) (n + m) cap) w' ∧ w'.ownsRow base e size (.slice (some ⟨q, 0, none⟩) (n + m) cap) (n + m) (xs ++ news) ∧ w.grownBy w' v.ownBlock ∧ (some q = v.ownBlock ∨ q = w.heap.size) := by
  rcases hown.2 with ⟨rfl, _⟩ | ⟨g, cap, cur, rfl, hbg, hg, hnc, hcm, hcs, htake⟩
  · exact absurd rfl hv
  by_cases h0 : news = []
  · subst h0
    have hm0 : m = 0 := by
      rcases Nat.eq_zero_or_pos m with h | h
      · exact h
      · have := Nat.mul_pos h hsz
        simp at hl
        omega
    subst hm0
    have hr : (Builtin.append_ #[t, t] ty #[.slice (some ⟨g, 0, none⟩) n cap, .slice ad 0 c]).run P w = .ok (.slice (some ⟨g, 0, none⟩) n cap) w := by
      cases ad <;> simp [Builtin.append_, run_underlying ht, sizeOf, typeInfo, hi, Builtin.lenOf, Builtin.firstCells, loadCells, loadCellsFrom, hnc, storeCells]
    exact ⟨g, cap, w, hr, by simpa using hown, World.grownBy.refl w _, .inl rfl⟩
  · rcases hnews with h' | ⟨p, rfl, hnews⟩
    · exact absurd h' h0
    obtain ⟨v', w', hr, h2, h3, h4, h5⟩ := run_append_own_at (P := P) w base t ty e i z size bytes ht hi hz hsize hb hzs hsz _ n xs hown p m c news hl hnews h1 h63 hbytes hbase
    have hmp : 0 < m := by
      rcases Nat.eq_zero_or_pos m with h | h
      · subst h
        simp at hl
        exact absurd hl h0
      · exact h
    rcases h2.2 with ⟨_, e2⟩ | ⟨q, cap', cur', rfl, k⟩
    · omega
    · refine ⟨q, cap', w', hr, h2, h3, ?_⟩
      rcases h5 with h5 | h5
      · exact .inl h5
      · exact .inr (by simpa [Value.ownBlock] using h5)

section
variable {P : Program} (w : World) {ops : Array Oper} {o : Oper} {a : Act} {Q : Exit → Act → World → Prop}
/-- append to a slice of the call's own (not nil), at an operation of a plain region. -/
theorem wpList_append_gen {rest : List Oper} (hgd : o.guard = none) (s x : Operand) (t : TypeId) (ho : o.op = .call { callee := .builtin .append, args := #[s, x], argTypes := #[t, t] })
    (base : Nat) (e : TypeId) (i : TypeInfo) (z : Value) (size bytes : Nat) (ht : P.underlying t = some (.slice e)) (hi : P.info? e = some i) (hz : i.zero = some z)
    (hsize : i.size = size) (hb : i.bytes = bytes) (hzs : z.cells.size = size) (hsz : 0 < size)
    (v : Value) (n : Nat) (xs : List Value) (hs : a.eval s = v) (hown : w.ownsRow base e size v n xs) (hv : v.ownBlock ≠ none)
    (ad : Option Addr) (m c : Nat) (news : List Value) (hx : a.eval x = .slice ad m c) (hl : news.length = m * size) (hnews : news = [] ∨ ∃ p, ad = some p ∧ ∀ j u, news[j]? = some u → w.cell? (p.add j) = some u) (h1 : ∀ u ∈ news, u.oneCell' = true)
    (h63 : n + m ≤ maxLen) (hbytes : (n + m) * bytes ≤ 140737488355328) (hbase : base ≤ w.heap.size)
    (h : ∀ q cap w', w'.ownsRow base e size (.slice (some ⟨q, 0, none⟩) (n + m) cap) (n + m) (xs ++ news) → w.grownBy w' v.ownBlock → (some q = v.ownBlock ∨ q = w.heap.size) → wpList P ops Q rest (a.put o.dst (.slice (some ⟨q, 0, none⟩) (n + m) cap)) w') :
    wpList P ops Q (o :: rest) a w := by
  refine wpList_plain hgd fun K hK => ?_
  obtain ⟨q, cap, w', hr, h2, h3, h4⟩ := run_append_any (P := P) w base t o.type e i z size bytes ht hi hz hsize hb hzs hsz v n xs hown hv ad m c news hl hnews h1 h63 hbytes hbase
  unfold Oper.wp execOp
  simp only [ho, resolve, invoke, builtin, Sem.run_bind, Sem.run_pure, Result.andThen_ok, List.map_toArray, List.map_cons, List.map_nil, hs, hx, hr]
  exact hK _ _ (h q cap w' h2 h3 h4)
/-- .. at a step of a region that draws. -/
theorem step_append_gen {K : Act → World → Prop} {E : Prop} (hgd : o.guard = none) (s x : Operand) (t : TypeId) (ho : o.op = .call { callee := .builtin .append, args := #[s, x], argTypes := #[t, t] })
    (base : Nat) (e : TypeId) (i : TypeInfo) (z : Value) (size bytes : Nat) (ht : P.underlying t = some (.slice e)) (hi : P.info? e = some i) (hz : i.zero = some z)
    (hsize : i.size = size) (hb : i.bytes = bytes) (hzs : z.cells.size = size) (hsz : 0 < size)
    (v : Value) (n : Nat) (xs : List Value) (hs : a.eval s = v) (hown : w.ownsRow base e size v n xs) (hv : v.ownBlock ≠ none)
    (ad : Option Addr) (m c : Nat) (news : List Value) (hx : a.eval x = .slice ad m c) (hl : news.length = m * size) (hnews : news = [] ∨ ∃ p, ad = some p ∧ ∀ j u, news[j]? = some u → w.cell? (p.add j) = some u) (h1 : ∀ u ∈ news, u.oneCell' = true)
    (h63 : n + m ≤ maxLen) (hbytes : (n + m) * bytes ≤ 140737488355328) (hbase : base ≤ w.heap.size)
    (h : ∀ q cap w', w'.ownsRow base e size (.slice (some ⟨q, 0, none⟩) (n + m) cap) (n + m) (xs ++ news) → w.grownBy w' v.ownBlock → (some q = v.ownBlock ∨ q = w.heap.size) → K (a.put o.dst (.slice (some ⟨q, 0, none⟩) (n + m) cap)) w') :
    if Region.wanted o (yielded ops a.tmps) = true then Oper.wp P o a w K Q else E := by
  have hw : Region.wanted o (yielded ops a.tmps) = true := by simp [Region.wanted, hgd]
  rw [if_pos hw]
  obtain ⟨q, cap, w', hr, h2, h3, h4⟩ := run_append_any (P := P) w base t o.type e i z size bytes ht hi hz hsize hb hzs hsz v n xs hown hv ad m c news hl hnews h1 h63 hbytes hbase
  unfold Oper.wp execOp
  simp only [ho, resolve, invoke, builtin, Sem.run_bind, Sem.run_pure, Result.andThen_ok, List.map_toArray, List.map_cons, List.map_nil, hs, hx, hr]
  exact h q cap w' h2 h3 h4

/-- append of something to a slice without room, nil too. -/
theorem run_append_full (base : Nat) (t ty e : TypeId) (i : TypeInfo) (z : Value) (size bytes : Nat) (ht : P.underlying t = some (.slice e)) (hi : P.info? e = some i) (hz : i.zero = some z)
    (hsize : i.size = size) (hb : i.bytes = bytes) (hzs : z.cells.size = size)
    (od : Option Addr) (n : Nat) (olds : List Value) (hlo : olds.length = n * size) (hod : od = none → n = 0) (holds : ∀ p, od = some p → ∀ j u, olds[j]? = some u → w.cell? (p.add j) = some u)
    (p : Addr) (m c : Nat) (news : List Value) (hl : news.length = m * size) (hnews : ∀ j u, news[j]? = some u → w.cell? (p.add j) = some u) (hm : 0 < m)
    (hbytes : (n + m) * bytes ≤ 140737488355328) (hb0 : 0 < bytes) (hbase : base ≤ w.heap.size) :
    ∃ cap w', (Builtin.append_ #[t, t] ty #[.slice od n n, .slice (some p) m c]).run P w = .ok (.slice (some ⟨w.heap.size, 0, none⟩) (n + m) cap) w' ∧ w'.ownsRow base e size (.slice (some ⟨w.heap.size, 0, none⟩) (n + m) cap) (n + m) (olds ++ news) ∧ Below w.heap.size w w' := by
  have hnm : n + m ≤ 140737488355328 := Nat.le_trans (Nat.le_mul_of_pos_right _ hb0) hbytes
  have hge := grownCap_ge w (n + m) n e
  have hcm := grownCap_le_maxLen w (n + m) n e (by simp only [maxLen]; omega)
  have hown : (w.drew.alloc (.cells (olds.toArray ++ news.toArray ++ Builtin.zeroCells z.cells (grownCap w (n + m) n e - (n + m))) e)).ownsRow base e size (.slice (some ⟨w.heap.size, 0, none⟩) (n + m) (grownCap w (n + m) n e)) (n + m) (olds ++ news) := by
    have hlen : (olds ++ news).length = (n + m) * size := by rw [List.length_append, hlo, hl, Nat.add_mul]
    refine ⟨hlen, .inr ⟨w.heap.size, _, _, rfl, hbase, heap_alloc_new w.drew _, hge, hcm, ?_, ?_⟩⟩
    · simp only [Array.size_append, List.size_toArray, size_zeroCells, hzs, hlo, hl]
      rw [← Nat.add_mul, ← Nat.add_mul]
      congr 1
      omega
    · simp only [Array.toList_append]
      rw [← hlen]
      exact List.take_left
  have hB : Below w.heap.size w (w.drew.alloc (.cells (olds.toArray ++ news.toArray ++ Builtin.zeroCells z.cells (grownCap w (n + m) n e - (n + m))) e)) := ((Below.refl _ w).drew).alloc (Nat.le_refl _) _
  cases od with
  | none =>
    obtain rfl := hod rfl
    have hol : olds = [] := by simpa using hlo
    subst hol
    have hr := run_append_nil (P := P) w t ty e i z ht hi hz p m c news (by rw [hsize]; exact hl) hnews hm (by omega) (by rw [hb]; rw [Nat.zero_add] at hbytes; omega)
    refine ⟨_, _, ?_, hown, hB⟩
    rw [hr]
    simp
  | some q =>
    have hr := run_append_grow (P := P) w t ty e i z ht hi hz q n n olds (by rw [hsize]; exact hlo) (holds q rfl) p m c news (by rw [hsize]; exact hl) hnews (by omega) (by omega) (by rw [hb]; exact growslice_fits (by omega) hbytes)
    exact ⟨_, _, hr, hown, hB⟩
theorem step_append_full {K : Act → World → Prop} {E : Prop} (hgd : o.guard = none) (s x : Operand) (t : TypeId) (ho : o.op = .call { callee := .builtin .append, args := #[s, x], argTypes := #[t, t] })
    (base : Nat) (e : TypeId) (i : TypeInfo) (z : Value) (size bytes : Nat) (ht : P.underlying t = some (.slice e)) (hi : P.info? e = some i) (hz : i.zero = some z)
    (hsize : i.size = size) (hb : i.bytes = bytes) (hzs : z.cells.size = size)
    (od : Option Addr) (n : Nat) (olds : List Value) (hs : a.eval s = .slice od n n) (hlo : olds.length = n * size) (hod : od = none → n = 0) (holds : ∀ p, od = some p → ∀ j u, olds[j]? = some u → w.cell? (p.add j) = some u)
    (p : Addr) (m c : Nat) (news : List Value) (hx : a.eval x = .slice (some p) m c) (hl : news.length = m * size) (hnews : ∀ j u, news[j]? = some u → w.cell? (p.add j) = some u) (hm : 0 < m)
    (hbytes : (n + m) * bytes ≤ 140737488355328) (hb0 : 0 < bytes) (hbase : base ≤ w.heap.size) (H : Nat) (hH : w.heap.size = H)
    (h : ∀ cap w', w'.ownsRow base e size (.slice (some ⟨H, 0, none⟩) (n + m) cap) (n + m) (olds ++ news) → Below w.heap.size w w' → K (a.put o.dst (.slice (some ⟨H, 0, none⟩) (n + m) cap)) w') :
    if Region.wanted o (yielded ops a.tmps) = true then Oper.wp P o a w K Q else E := by
  subst hH
  have hw : Region.wanted o (yielded ops a.tmps) = true := by simp [Region.wanted, hgd]
  rw [if_pos hw]
  obtain ⟨cap, w', hr, h2, h3⟩ := run_append_full (P := P) w base t o.type e i z size bytes ht hi hz hsize hb hzs od n olds hlo hod holds p m c news hl hnews hm hbytes hb0 hbase
  unfold Oper.wp execOp
  simp only [ho, resolve, invoke, builtin, Sem.run_bind, Sem.run_pure, Result.andThen_ok, List.map_toArray, List.map_cons, List.map_nil, hs, hx, hr]
  exact h cap w' h2 h3
end

theorem own_some (q n c : Nat) : (Value.slice (some ⟨q, 0, none⟩) n c).ownBlock ≠ none := by simp [Value.ownBlock]
theorem one_u64 (l : List Int) : ∀ u ∈ l.map (Value.int .u64), u.oneCell' = true := by
  intro u hu
  obtain ⟨x, _, rfl⟩ := List.mem_map.1 hu
  rfl
/-- What a copy of numbers comes to. -/
def ClonePost (l : List Int) (w : World) (e : Ending) (w' : World) : Prop := ∃ a' c', e = .returned (.slice a' l.length c') ∧ w'.ownsRow w.heap.size 56 1 (.slice a' l.length c') l.length (l.map (.int .u64)) ∧ Below w.heap.size w w'
theorem below_own {w W w' : World} {v : Value} (h : Below w.heap.size w W) (g : W.grownBy w' v.ownBlock) (hv : v.ownBlock = some w.heap.size) : Below w.heap.size w w' := h.grown g h.size (fun q hq => by rw [hv] at hq; injection hq with hq; omega)

set_option maxRecDepth 100000 in
set_option maxHeartbeats 400000 in
theorem clone_any (a : Option Addr) (c : Nat) (l : List Int) (w : World) (h : Nums .u64 w w.heap.size a l) (hl : l.length ≤ 1000000) :
    Calls Try.prog 93 #[.slice a l.length c] w (ClonePost l w) := by
  cases ha : a with
  | none =>
    have hl0 : l = [] := by
      rcases h with h | ⟨b, o, h1, _⟩
      · exact h
      · rw [ha] at h1; cases h1
    subst hl0
    have hq := fun w => Lib.run_eql_slice_nil w 30 56 none 0 c 0 0 Try.underlying30
    clear h ha
    go_enter Try.func93, Try.ntmps93
    go_wp2_with fail
    go_ret
    exact ⟨none, 0, rfl, World.ownsRow_nil _ _ _ _, Below.refl _ _⟩
  | some p =>
    have hq := fun w => Lib.run_eql_slice_nil w 30 56 (some p) l.length c 0 0 Try.underlying30
    rw [ha] at h
    have B1 : Below w.heap.size w (w.alloc (.cells #[] 56)) := (Below.refl _ w).alloc (Nat.le_refl _) _
    have own0 : (w.alloc (.cells #[] 56)).ownsRow w.heap.size 56 1 (.slice (some ⟨w.heap.size, 0, none⟩) 0 0) 0 [] := World.ownsRow_made w #[] 0 (Nat.le_refl _) (Nat.zero_le _) (by simp)
    obtain ⟨i0, hi, hz0, hz1, hz2⟩ := info_parts infoU64
    have hnw := Nums.news (nums_step h B1)
    have hB := Lib.hid B1
    have hL := Lib.hid (And.intro (show (l.map (Value.int .u64)).length = l.length * 1 by simp) (one_u64 l))
    clear B1 h ha
    go_enter Try.func93, Try.ntmps93
    go_wp2_with (at_builtin; refine wpList_append_gen _ rfl _ _ 30 rfl w.heap.size 56 i0 (.int .u64 0) 1 8 Try.underlying30 hi hz0 hz1 hz2 rfl (by decide) (.slice (some ⟨w.heap.size, 0, none⟩) 0 0) 0 [] rfl own0 (own_some _ _ _) (some p) l.length c (l.map (.int .u64)) rfl hL.out.1 hnw hL.out.2 (by simp [maxLen]; omega) (by omega) (by simp) ?_; intro q cap w1 own1 g1 _)
    rw [Nat.zero_add, List.nil_append] at own1
    go_wp2_with fail
    go_ret
    exact ⟨_, _, rfl, own1, below_own hB.out g1 rfl⟩

/-- What a message of its own comes to. -/
def OwnPost (m : Mg) (w : World) (e : Ending) (w' : World) : Prop := ∃ a' c', e = .returned (m.val a' c') ∧ w'.ownsRow w.heap.size 56 1 (.slice a' m.l.length c') m.l.length (m.l.map (.int .u64)) ∧ Below w.heap.size w w'
def ownW (w : World) (m : Mg) (a : Option Addr) (c : Nat) : World := (w.alloc (.cells (m.cells a c) 32)).alloc (.cells zeroCells 32)
theorem ownW_1 (w : World) (m : Mg) (a : Option Addr) (c : Nat) : Blk (ownW w m a c) w.heap.size 32 (m.cells a c) := (Blk.new w 32 (m.cells a c)).alloc _
theorem ownW_2 (w : World) (m : Mg) (a : Option Addr) (c : Nat) : Blk (ownW w m a c) (w.heap.size + 1) 32 zeroCells := by
  have h := Blk.new (w.alloc (.cells (m.cells a c) 32)) 32 zeroCells
  simp only [asz] at h
  exact h
theorem ownW_below (w : World) (m : Mg) (a : Option Addr) (c : Nat) : Below w.heap.size w (ownW w m a c) := ((Below.refl _ w).alloc (Nat.le_refl _) _).alloc (by simp) _

set_option maxRecDepth 100000 in
set_option maxHeartbeats 2000000 in
theorem own_any (m : Mg) (a : Option Addr) (c : Nat) (w : World) (hn : Nums .u64 w w.heap.size a m.l) (hl : m.l.length ≤ 1000000) :
    Calls Try.prog 49 #[m.val a c] w (OwnPost m w) := by
  have M0 := ownW_1 w m a c
  have R0 := ownW_2 w m a c
  have B0 := ownW_below w m a c
  obtain ⟨W, hW⟩ : ∃ W, W = ownW w m a c := ⟨_, rfl⟩
  rw [← hW] at M0 R0 B0
  have N0 := nums_step hn B0
  unfold ownW Mg.cells zeroCells at hW
  have HW := Lib.hid hW
  clear hW hn
  unfold Mg.val
  go_enter Try.func49, Try.ntmps49
  go_wp2_with fail
  rw [← HW.out]
  clear HW
  refine (clone_any a c m.l W N0 hl).mono ?_
  rintro e w1 ⟨a', c', rfl, own1, b1⟩
  have M1 := M0.kept b1
  have R1 := R0.kept b1
  have B1 := step_below B0 b1
  have own1 := own_more own1 B0.size
  have x10 : w1.cell? ⟨w.heap.size, 10, none⟩ = some (.slice a m.l.length c) := M1.cell 10
  have y10 : w1.frozen? ⟨w.heap.size, 10, none⟩ = false := M1.frozen 10
  have M2 : Blk (w1.setCell ⟨w.heap.size, 10, none⟩ (.slice a' m.l.length c')) w.heap.size 32 (m.cells a' c') := M1.set_ 10 _
  have R2 := R1.farc (c := w.heap.size) (i := 10) (by omega) (.slice a' m.l.length c')
  have own2 := own_setc (i := 10) own1 M1 (by decide) (.slice a' m.l.length c')
  have B2 : Below w.heap.size w (w1.setCell ⟨w.heap.size, 10, none⟩ (.slice a' m.l.length c')) := B1.setCell (p := ⟨w.heap.size, 10, none⟩) (by simp) _
  clear M0 R0 B0 M1 R1 B1 own1 b1 N0
  go_upto_region 2 with fail
  generalize (w1.setCell ⟨w.heap.size, 10, none⟩ (.slice a' m.l.length c')) = w2 at *
  clear x10 y10
  have f0 : w2.cell? ⟨w.heap.size, 0, none⟩ = some (.int .u8 m.k) := M2.cell 0
  have f1 : w2.cell? ⟨w.heap.size, 1, none⟩ = some (.int .i64 m.fr) := M2.cell 1
  have f2 : w2.cell? ⟨w.heap.size, 2, none⟩ = some (.int .i64 m.to) := M2.cell 2
  have f3 : w2.cell? ⟨w.heap.size, 3, none⟩ = some (.int .i64 m.ht) := M2.cell 3
  have f4 : w2.cell? ⟨w.heap.size, 4, none⟩ = some (.int .i64 m.rd) := M2.cell 4
  have f5 : w2.cell? ⟨w.heap.size, 5, none⟩ = some (.int .i64 m.vl) := M2.cell 5
  have f6 : w2.cell? ⟨w.heap.size, 6, none⟩ = some (.int .i64 m.ep) := M2.cell 6
  have f7 : w2.cell? ⟨w.heap.size, 7, none⟩ = some (.int .i64 m.dl) := M2.cell 7
  have f8 : w2.cell? ⟨w.heap.size, 8, none⟩ = some (.int .i64 m.id) := M2.cell 8
  have f9 : w2.cell? ⟨w.heap.size, 9, none⟩ = some (.string ⟨m.s.toArray⟩) := M2.cell 9
  have f10 : w2.cell? ⟨w.heap.size, 10, none⟩ = some (.slice a' m.l.length c') := M2.cell 10
  have rc0 : w2.cell? ⟨w.heap.size + 1, 0, none⟩ = some (.int .u8 0) := R2.cell 0
  have rf0 : w2.frozen? ⟨w.heap.size + 1, 0, none⟩ = false := R2.frozen 0
  have rc1 : w2.cell? ⟨w.heap.size + 1, 1, none⟩ = some (.int .i64 0) := R2.cell 1
  have rf1 : w2.frozen? ⟨w.heap.size + 1, 1, none⟩ = false := R2.frozen 1
  have rc2 : w2.cell? ⟨w.heap.size + 1, 2, none⟩ = some (.int .i64 0) := R2.cell 2
  have rf2 : w2.frozen? ⟨w.heap.size + 1, 2, none⟩ = false := R2.frozen 2
  have rc3 : w2.cell? ⟨w.heap.size + 1, 3, none⟩ = some (.int .i64 0) := R2.cell 3
  have rf3 : w2.frozen? ⟨w.heap.size + 1, 3, none⟩ = false := R2.frozen 3
  have rc4 : w2.cell? ⟨w.heap.size + 1, 4, none⟩ = some (.int .i64 0) := R2.cell 4
  have rf4 : w2.frozen? ⟨w.heap.size + 1, 4, none⟩ = false := R2.frozen 4
  have rc5 : w2.cell? ⟨w.heap.size + 1, 5, none⟩ = some (.int .i64 0) := R2.cell 5
  have rf5 : w2.frozen? ⟨w.heap.size + 1, 5, none⟩ = false := R2.frozen 5
  have rc6 : w2.cell? ⟨w.heap.size + 1, 6, none⟩ = some (.int .i64 0) := R2.cell 6
  have rf6 : w2.frozen? ⟨w.heap.size + 1, 6, none⟩ = false := R2.frozen 6
  have rc7 : w2.cell? ⟨w.heap.size + 1, 7, none⟩ = some (.int .i64 0) := R2.cell 7
  have rf7 : w2.frozen? ⟨w.heap.size + 1, 7, none⟩ = false := R2.frozen 7
  have rc8 : w2.cell? ⟨w.heap.size + 1, 8, none⟩ = some (.int .i64 0) := R2.cell 8
  have rf8 : w2.frozen? ⟨w.heap.size + 1, 8, none⟩ = false := R2.frozen 8
  have rc9 : w2.cell? ⟨w.heap.size + 1, 9, none⟩ = some (.string ⟨#[]⟩) := R2.cell 9
  have rf9 : w2.frozen? ⟨w.heap.size + 1, 9, none⟩ = false := R2.frozen 9
  have rc10 : w2.cell? ⟨w.heap.size + 1, 10, none⟩ = some (.slice none 0 0) := R2.cell 10
  have rf10 : w2.frozen? ⟨w.heap.size + 1, 10, none⟩ = false := R2.frozen 10
  go_wp2_with fail
  refine bodyPost_ret (v := .agg #[.int .u8 m.k, .int .i64 m.fr, .int .i64 m.to, .int .i64 m.ht, .int .i64 m.rd, .int .i64 m.vl, .int .i64 m.ep, .int .i64 m.dl, .int .i64 m.id, .string ⟨m.s.toArray⟩, .slice a' m.l.length c']) (by simp [results, Try.results49, go_sem, rc0, rc1, rc2, rc3, rc4, rc5, rc6, rc7, rc8, rc9, rc10]) rfl ?_
  exact ⟨a', c', rfl, set11_own own2 R2 (by decide) _ _ _ _ _ _ _ _ _ _ _, set11_below B2 (by omega) _ _ _ _ _ _ _ _ _ _ _⟩
end Go.Proofs.Ytbibbndjnlnbiaa
