/-
  net.New, net.Lose.
-/
import Derived.Test.YtbibbndjnlnbiaaNet3
namespace Go.Proofs.Ytbibbndjnlnbiaa
open Go.RowKit Go.Maps

set_option maxRecDepth 100000 in
theorem new_no (most : Int) (w : World) (h : most < 1 ∨ 4096 < most) :
    Calls Try.prog 16 #[.int .i64 most] w fun e w' => e = .returned (.tuple #[.pointer none, .int .i64 1]) ∧ w = w' := by
  by_cases h1 : most < 1
  · have e1 : decide (most < 1) = true := decide_eq_true h1
    go_enter Try.func16, Try.ntmps16
    go_wp2_with fail
    go_ret2
    exact ⟨rfl, rfl⟩
  · have e1 : decide (most < 1) = false := decide_eq_false h1
    have e2 : decide (4096 < most) = true := decide_eq_true (by omega)
    go_enter Try.func16, Try.ntmps16
    go_wp2_with fail
    go_ret2
    exact ⟨rfl, rfl⟩
/-- What New comes to. -/
def NewPost (most : Int) (w : World) (e : Ending) (w' : World) : Prop := ∃ g mb, e = .returned (.tuple #[.pointer (some ⟨g, 0, none⟩), .int .i64 0]) ∧ NetAt w.heap.size w'.heap.size g mb none (Nt.new most) w' ∧ Below w.heap.size w w'
set_option maxRecDepth 100000 in
theorem new_yes (most : Int) (w : World) (h1 : 1 ≤ most) (h2 : most ≤ 4096) :
    Calls Try.prog 16 #[.int .i64 most] w (NewPost most w) := by
  have e1 : decide (most < 1) = false := decide_eq_false (by omega)
  have e2 : decide (4096 < most) = false := decide_eq_false (by omega)
  have hmm := @run_makeMap Try.prog
  have hB : Below w.heap.size w ((w.alloc (.map #[] 0)).alloc (.cells #[.int .i64 most, .int .i64 0, .slice none 0 0, .map (some w.heap.size), .int .i64 0] 74)) := ((Below.refl _ w).alloc (Nat.le_refl _) _).alloc (by simp) _
  have hmap : ((w.alloc (.map #[] 0)).alloc (.cells #[.int .i64 most, .int .i64 0, .slice none 0 0, .map (some w.heap.size), .int .i64 0] 74)).ownsMap Try.prog 3 held w.heap.size 0 (.map []) := (World.ownsMap_made w _ _ _).alloc _
  have hblk := Blk.new (w.alloc (.map #[] 0)) 74 #[.int .i64 most, .int .i64 0, .slice none 0 0, .map (some w.heap.size), .int .i64 0]
  simp only [asz] at hblk
  have hN : NetIn w.heap.size ((w.alloc (.map #[] 0)).alloc (.cells #[.int .i64 most, .int .i64 0, .slice none 0 0, .map (some w.heap.size), .int .i64 0] 74)).heap.size (w.heap.size + 1) w.heap.size none (Nt.new most) ((w.alloc (.map #[] 0)).alloc (.cells #[.int .i64 most, .int .i64 0, .slice none 0 0, .map (some w.heap.size), .int .i64 0] 74)) (.slice none 0 0) [] (.map []) :=
    { blk := hblk, row := .inl ⟨rfl, none, rfl, .inl rfl⟩, map := hmap, g1 := by omega, g2 := by simp, mb1 := Nat.le_refl _, mb2 := by simp; omega, hS := Nat.le_refl _, len := rfl, up := List.Pairwise.nil, lt := by simp, tie := by simp }
  have HP := Lib.hid (And.intro hN hB)
  clear hN hB hmap hblk
  go_enter Try.func16, Try.ntmps16
  go_wp2_with fail
  go_ret2
  exact ⟨_, _, rfl, ⟨_, _, _, HP.out.1⟩, HP.out.2⟩

section
variable {P : Program} (w : World) {ops : Array Oper} {o : Oper} {a : Act} {Q : Exit → Act → World → Prop}
theorem step_delete {K : Act → World → Prop} {E : Prop} (hgd : o.guard = none) (m x : Operand) (t k : TypeId) (hop : o.op = Op.call { callee := Callee.builtin Builtin.delete, args := #[m, x], argTypes := #[t, k] })
    (e : TypeId) (Kd : Keyed P k) (ht : P.underlying t = some (.map k e)) (R : Value → Option (DataW Value × List MemPlace)) (b n : Nat) (D : DataW Value)
    (hm : a.eval m = .map (some b)) (hown : w.ownsMap P k R b n D) (key : Value) (kl : Lit) (hx : a.eval x = key) (hkey : keyOf P k key = some kl)
    (h : ∀ w', w'.ownsMap P k R b n (D.del kl) → w.mapTurned w' b → K (a.put o.dst (.tuple #[])) w') :
    if Region.wanted o (yielded ops a.tmps) = true then Oper.wp P o a w K Q else E := by
  have hw : Region.wanted o (yielded ops a.tmps) = true := by simp [Region.wanted, hgd]
  rw [if_pos hw]
  obtain ⟨w', hrun, r1, r2⟩ := hown.drop Kd ht hkey o.type
  unfold Oper.wp
  simp [execOp, hop, resolve, invoke, builtin, hm, hx, hrun, Result.andThen]
  exact h w' r1 r2
/-- append of nothing. -/
theorem step_append_nothing {K : Act → World → Prop} {E : Prop} (hgd : o.guard = none) (s x : Operand) (t e : TypeId) (ho : o.op = .call { callee := .builtin .append, args := #[s, x], argTypes := #[t, t] })
    (i : TypeInfo) (ht : P.underlying t = some (.slice e)) (hi : P.info? e = some i) (ad : Option Addr) (n : Nat) (hs : a.eval s = .slice ad n n) (bd : Option Addr) (c : Nat) (hx : a.eval x = .slice bd 0 c)
    (h : K (a.put o.dst (.slice ad n n)) w) :
    if Region.wanted o (yielded ops a.tmps) = true then Oper.wp P o a w K Q else E := by
  have hw : Region.wanted o (yielded ops a.tmps) = true := by simp [Region.wanted, hgd]
  rw [if_pos hw]
  have hr : (Builtin.append_ #[t, t] o.type #[.slice ad n n, .slice bd 0 c]).run P w = .ok (.slice ad n n) w := by
    cases ad <;> cases bd <;> simp [Builtin.append_, run_underlying ht, sizeOf, typeInfo, hi, Builtin.lenOf, Builtin.firstCells, loadCells, loadCellsFrom, storeCells]
  unfold Oper.wp execOp
  simp only [ho, resolve, invoke, builtin, Sem.run_bind, Sem.run_pure, Result.andThen_ok, List.map_toArray, List.map_cons, List.map_nil, hs, hx, hr]
  exact h
end

section
variable {B S g mb : Nat} {rs : Option Nat} {n : Nt} {K : Nat} {w : World} {v : Value} {ts : List Int} {D : DataW Value}
theorem up_ne : ∀ {ts : List Int}, ts.Pairwise (· < ·) → ∀ {i j : Nat} {x y : Int}, ts[i]? = some x → ts[j]? = some y → i ≠ j → x ≠ y := by
  intro ts h i j x y hi hj hne
  obtain ⟨hi1, hi2⟩ := List.getElem?_eq_some_iff.1 hi
  obtain ⟨hj1, hj2⟩ := List.getElem?_eq_some_iff.1 hj
  rw [List.pairwise_iff_getElem] at h
  rcases Nat.lt_or_ge i j with hlt | hge
  · have := h i j hi1 hj1 hlt
    omega
  · have := h j i hj1 hi1 (by omega)
    omega
theorem NetIn.lost {k : Nat} {t : Int} {rs' : Option Nat} {w1 W : World} {v' : Value} (h : NetIn B S g mb rs n w v ts D) (ht : ts[k]? = some t)
    (hmap : w1.ownsMap Try.prog 3 held mb n.next.toNat (D.del (.int .i64 t))) (tu : w.drew.mapTurned w1 mb) (b1 : Below w1.heap.size w1 W) (hrow : RowAt B W.heap.size rs' W v' (ts.eraseIdx k))
    (hrs : ∀ q, rs' = some q → w.heap.size ≤ q) (hsh : rs' = none → ∀ (p : Addr) (L c : Nat), v' = .slice (some p) L c → 0 < L → ∃ (p0 : Addr) (L0 c0 : Nat), v = .slice (some p0) L0 c0 ∧ 0 < L0 ∧ p0.block = p.block) : NetTo B g mb rs ⟨n.most, n.next, n.l.eraseIdx k, n.out⟩ w (W.setCell ⟨g, 2, none⟩ v') := by
  have hg := tu.grown
  have hgmb : g ≠ mb := map_ne h.map h.blk
  have hszw : w.drew.heap.size = w.heap.size := rfl
  have s1 := hg.size
  have s2 := b1.size
  have hbw : ∀ {k : Nat} {t : TypeId} {cs : Array Value}, Blk w k t cs → k ≠ mb → Blk W k t cs := fun hk hne => (Blk.grown (w := w.drew) hk hg (some_ne hne)).kept b1
  have hgl := h.blk.lt
  have hml := h.map.lt
  have sW : (W.setCell ⟨g, 2, none⟩ v').heap.size = W.heap.size := by simp [World.setCell]
  have hS := h.hS
  refine ⟨rs', ⟨v', ts.eraseIdx k, D.del (.int .i64 t), ?_⟩, ?_, fun q hq => .inr (hrs q hq), fun e _ q hq => ?_⟩
  · refine { blk := (hbw h.blk hgmb).set_ 2 _, row := ?_, map := ?_, g1 := h.g1, g2 := by rw [sW]; omega, mb1 := h.mb1, mb2 := by rw [sW]; omega, hS := Nat.le_refl _, len := ?_, up := ?_, lt := ?_, tie := ?_ }
    · rw [sW]
      refine hrow.kept fun q cur _ hb => hb.farc (Blk.ne_ hb (hbw h.blk hgmb) (by decide)) _
    · exact (map_heap hmap (b1.block mb (by omega))).setCell (Ne.symm hgmb) _
    · rw [List.length_eraseIdx, List.length_eraseIdx, h.len]
    · exact h.up.sublist (List.eraseIdx_sublist _ _)
    · exact fun t ht => h.lt t (List.mem_of_mem_eraseIdx ht)
    · intro i t' m' e1 e2
      obtain ⟨j, hj, f1, f2⟩ : ∃ j, j ≠ k ∧ ts[j]? = some t' ∧ n.l[j]? = some m' := by
        rw [List.getElem?_eraseIdx] at e1 e2
        by_cases hik : i < k
        · rw [if_pos hik] at e1 e2
          exact ⟨i, by omega, e1, e2⟩
        · rw [if_neg hik] at e1 e2
          exact ⟨i + 1, by omega, e1, e2⟩
      obtain ⟨x, c, e, r⟩ := h.tie j t' m' f1 f2
      refine ⟨x, c, fun z => ?_, ?_⟩
      · rw [atKey_del_other (by
          intro e'
          injection e' with _ e'
          exact up_ne h.up f1 ht hj e')]
        exact e z
      · refine (r.kept fun q cur _ _ hb => ?_).more (Nat.le_refl _) (by rw [sW]; omega)
        exact (hbw hb (map_ne h.map hb)).farc (Blk.ne_ hb h.blk (by decide)) _
  · refine ⟨b1.os.trans hg.os, b1.tape.trans hg.tape, b1.output.trans hg.output, by rw [sW]; omega, fun k hk k1 k2 _ => ?_⟩
    rw [Below.heap_setCell W ⟨g, 2, none⟩ _ k k1, b1.block k (by omega), hg.block k (by omega) (some_ne k2)]
    rfl
  · obtain ⟨p, L, c, rfl, hL, hc⟩ := hq
    have hv : v' = .slice (some p) L c := Option.some.inj ((show (W.setCell ⟨g, 2, none⟩ v').cell? ⟨g, 2, none⟩ = some v' from Blk.cell ((hbw h.blk hgmb).set_ 2 v') 2).symm.trans hc)
    obtain ⟨p0, L0, c0, e0, hL0, hp⟩ := hsh e p L c hv hL
    exact .inl ⟨p0, L0, c0, hp, hL0, by rw [← e0]; exact h.blk.cell 2⟩
theorem cell_turned {w w' : World} {b : Nat} {p : Addr} {x : Value} (t : w.mapTurned w' b) (h : w.cell? p = some x) : w'.cell? p = some x := by
  have hne : p.block ≠ b := by
    rintro rfl
    obtain ⟨es, clock, _, _, hb, _⟩ := t
    simp [World.cell?, hb] at h
  exact (World.cell?_of_block (t.grown.block p.block (World.block_lt_of_cell? w p h) (some_ne hne))).trans h
set_option maxRecDepth 100000 in
theorem lose_nil (k : Int) (w : World) : Calls Try.prog 22 #[.pointer none, .int .i64 k] w fun e w' => e = .returned (.int .i64 2) ∧ w = w' := by
  go_enter Try.func22, Try.ntmps22
  go_wp2_with fail
  go_ret
  exact ⟨rfl, rfl⟩
set_option maxRecDepth 100000 in
theorem lose_no (k : Int) (w : World) (h : NetAt B S g mb rs n w) (ok : n.Ok K) (hk : n.is k = false) : Calls Try.prog 22 #[.pointer (some ⟨g, 0, none⟩), .int .i64 k] w fun e w' => e = .returned (.int .i64 5) ∧ w = w' := by
  have HI0 := is_any k w h ok
  rw [hk] at HI0
  have HI := Lib.hid HI0
  clear HI0 hk h ok
  go_enter Try.func22, Try.ntmps22
  go_wp2_with fail
  refine (Calls.mono HI.out ?_)
  rintro e w' ⟨rfl, rfl⟩
  go_wp2_with fail
  go_ret
  exact ⟨rfl, rfl⟩
/-- What a call that takes a message out comes to. -/
def LosePost (B g mb : Nat) (rs : Option Nat) (n : Nt) (j : Nat) (w : World) (e : Ending) (w' : World) : Prop := e = .returned (.int .i64 0) ∧ NetTo B g mb rs ⟨n.most, n.next, n.l.eraseIdx j, n.out⟩ w w'
set_option maxRecDepth 100000 in
set_option maxHeartbeats 2000000 in
theorem lose_yes (j : Nat) (w : World) (h : NetAt B S g mb rs n w) (ok : n.Ok K) (hK : K ≤ 1000000) (hk : n.is (j : Int) = true) :
    Calls Try.prog 22 #[.pointer (some ⟨g, 0, none⟩), .int .i64 j] w (LosePost B g mb rs n j w) := by
  have HI0 := is_any (j : Int) w h ok
  have hkk := (Nt.is_iff.1 hk).2
  rw [hk] at HI0
  have HI := Lib.hid HI0
  clear HI0 hk
  obtain ⟨v, ts, D, h⟩ := h
  have hsh := h.short ok
  have hlen := h.len
  have hsh : ts.length ≤ 4096 := by omega
  have hj : j < ts.length := by omega
  obtain ⟨t, ht⟩ : ∃ t, ts[j]? = some t := ⟨_, List.getElem?_eq_getElem hj⟩
  obtain ⟨q, cq, hv, hcell⟩ := h.row.at ht
  have hcq : ts.length ≤ cq := by
    obtain ⟨a0, c0, hv0, hc0, _⟩ := h.form ok
    rw [hv] at hv0
    injection hv0 with _ _ h3
    omega
  have htI : I64 t := by
    have := h.lt t (List.mem_of_getElem? ht)
    have := ok.nextK
    unfold I64
    omega
  have x3 : w.drew.cell? ⟨g, 3, none⟩ = some (.map (some mb)) := h.blk.cell 3
  have x2 : w.drew.cell? ⟨g, 2, none⟩ = some (.slice (some ⟨q, 0, none⟩) ts.length cq) := by rw [← hv]; exact h.blk.cell 2
  have xq : w.drew.cell? ⟨q, j, none⟩ = some (.int .i64 t) := hcell
  have HM := Lib.hid (And.intro h.map.drew (And.intro (key_of htI) (And.intro h (And.intro ht hv))))
  have hjL : (j : Int) < (ts.length : Int) := by omega
  have hLC : (ts.length : Int) ≤ (cq : Int) := by omega
  clear h ok hlen hkk htI hcell ht hv
  go_enter Try.func22, Try.ntmps22
  go_wp2_with fail
  refine (Calls.mono HI.out ?_)
  rintro e w' ⟨rfl, rfl⟩
  clear HI
  go_wp2_with fail
  go_region_held3 (fun w' => w'.cell? ⟨g, 3, none⟩ = some (.map (some mb)) ∧ w'.cell? ⟨g, 2, none⟩ = some (.slice (some ⟨q, 0, none⟩) ts.length cq) ∧ w'.cell? ⟨q, j, none⟩ = some (.int .i64 t))
    (first | (with_reducible exact ⟨x3, x2, xq⟩) | (with_reducible exact ⟨y3, y2, yq⟩))
    ((refine step_delete _ (by rfl) _ _ 72 3 (by rfl) 32 key_law info_map held mb n.next.toNat D (by rfl) HM.out.1 (.int .i64 t) (.int .i64 t) (by rfl) HM.out.2.1 ?_; intro w1 own1 tu1; have y3 := cell_turned tu1 x3; have y2 := cell_turned tu1 x2; have yq := cell_turned tu1 xq))
  obtain ⟨-, -, h, ht, hv⟩ := HM.out
  have hgm : g ≠ mb := map_ne h.map h.blk
  have G1 : Blk w1 g 74 #[.int .i64 n.most, .int .i64 n.next, v, .map (some mb), .int .i64 n.out] := Blk.grown (w := w.drew) h.blk tu1.grown (some_ne hgm)
  have gc : w1.drew.cell? ⟨g, 2, none⟩ = some v := G1.cell 2
  have gf : w1.drew.frozen? ⟨g, 2, none⟩ = false := G1.frozen 2
  have hrow1 : Row .i64 3 B S w1.drew (some ⟨q, 0, none⟩) ts := by
    rcases h.row with ⟨_, ad, hv2, hr⟩ | ⟨q2, hrs, hqS, ho, hr⟩
    · rw [hv] at hv2
      injection hv2 with e1 _ _
      subst e1
      exact hr.kept fun q3 cur _ _ hb => Blk.drew (Blk.grown (w := w.drew) hb tu1.grown (some_ne (map_ne h.map hb)))
    · rw [hv] at hr ho
      have r := Row.of_own hr
      have e : q = q2 := by simpa [Value.ownBlock] using ho
      rcases r with r | ⟨q3, cur, e3, f1, f2, f3, f4⟩
      · exact .inl r
      · injection e3 with e3
        injection e3 with e3 _ _
        subst e3
        refine .inr ⟨q, cur, rfl, f1, by omega, ?_, f4⟩
        exact Blk.drew (Blk.grown (w := w.drew) f3 tu1.grown (some_ne (map_ne h.map f3)))
  have hBs : B ≤ w1.drew.heap.size := by have := h.g1; have := h.blk.lt; have := tu1.grown.size; simp at this ⊢; omega
  have hws : w.heap.size ≤ w1.drew.heap.size := by have := tu1.grown.size; simpa using this
  have hrow1 := hrow1.more (Nat.le_refl _) (show S ≤ w1.drew.heap.size from Nat.le_trans h.hS hws)
  obtain ⟨i0, hi, hz0, hz1, hz2⟩ := info_parts infoInt
  have hw1 : IntKind.i64.wrap ((j : Int) + 1) = (j : Int) + 1 := by rw [IntKind.wrap_i64]; omega
  have hw2 : 0 ≤ (j : Int) + 1 := by omega
  have hw3 : ((j : Int) + 1).toNat = j + 1 := by omega
  have hw4 : (j : Int) + 1 ≤ (ts.length : Int) := by omega
  by_cases hlast : ts.length = j + 1
  · have hE : ts.eraseIdx j = ts.take j := by
      rw [List.eraseIdx_eq_take_drop_succ, List.drop_of_length_le (by omega), List.append_nil]
    have hrow2 : RowAt B w1.drew.heap.size none w1.drew (.slice (some ⟨q, 0, none⟩) j j) (ts.take j) := by
      have hl : (ts.take j).length = j := by rw [List.length_take]; omega
      refine .inl ⟨rfl, some ⟨q, 0, none⟩, by rw [hl], ?_⟩
      rcases hrow1 with r | ⟨q3, cur, e3, f1, f2, f3, f4⟩
      · exact .inl (by rw [r]; simp)
      · refine .inr ⟨q3, cur, e3, f1, f2, f3, fun i x hx => f4 i x ?_⟩
        rw [List.getElem?_take] at hx
        split at hx
        · exact hx
        · cases hx
    have HR := Lib.hid (And.intro h (And.intro ht (And.intro hE (And.intro hrow2 (And.intro tu1 (And.intro own1 hv))))))
    have y2' : w1.cell? ⟨g, 2, none⟩ = some (.slice (some ⟨q, 0, none⟩) (j + 1) cq) := by rw [← hlast]; exact y2
    have y2d : w1.drew.cell? ⟨g, 2, none⟩ = some (.slice (some ⟨q, 0, none⟩) (j + 1) cq) := y2'
    have hcj : (j : Int) + 1 ≤ (cq : Int) := by omega
    have hcn : j ≤ cq := by omega
    have hjj : (j : Int) ≤ (j : Int) + 1 := by omega
    clear h ht hE hrow2 hrow1 tu1 own1 y2 x2 x3 xq y3 yq hv hlast hLC hjL hw4 hcq hj hsh HM G1 gc
    by_cases hc : cq = j + 1
    all_goals
      go_wp2_with fail
      go_region_law (first
        | (refine step_append_nothing _ (by rfl) _ _ 46 3 (by rfl) i0 Try.underlying46 hi (some ⟨q, 0, none⟩) j (by rfl) _ _ (by rfl) ?_))
      all_goals
        go_wp2_with fail
        go_ret
        obtain ⟨h, ht, hE, hrow2, tu1, own1, hv⟩ := HR.out
        exact ⟨rfl, h.lost ht own1 tu1 ((Below.refl _ w1).drew) (by rw [hE]; exact hrow2) (fun _ e => by cases e) (fun _ p L c e _ => ⟨⟨q, 0, none⟩, ts.length, cq, hv, by have := (List.getElem?_eq_some_iff.1 ht).1; omega, by injection e with e1 _ _; rw [← Option.some.inj e1]⟩)⟩
  · obtain ⟨r, hr⟩ : ∃ r, ts.length = j + 1 + (r + 1) := ⟨ts.length - (j + 2), by omega⟩
    have hE : ts.eraseIdx j = ts.take j ++ ts.drop (j + 1) := List.eraseIdx_eq_take_drop_succ _ _
    have y2' : w1.cell? ⟨g, 2, none⟩ = some (.slice (some ⟨q, 0, none⟩) (j + 1 + (r + 1)) cq) := by rw [← hr]; exact y2
    have y2d : w1.drew.cell? ⟨g, 2, none⟩ = some (.slice (some ⟨q, 0, none⟩) (j + 1 + (r + 1)) cq) := y2'
    have hcj : (j : Int) + 1 ≤ (cq : Int) := by omega
    have hcn : j ≤ cq := by omega
    have hcne : ¬ cq = j + 1 := by omega
    have hcn2 : (j : Int) ≤ (cq : Int) := by omega
    have hlr : (j : Int) + 1 ≤ ((j + 1 + (r + 1) : Nat) : Int) := by omega
    have hlr2 : j + 1 ≤ j + 1 + (r + 1) := by omega
    have hlr3 : (j : Int) + 1 ≤ (j : Int) + 1 + ((r : Int) + 1) := by omega
    have hcc := row_cells' hrow1
    have hne : ts.length ≠ 0 := by omega
    have hat : ∀ (i : Nat) u, (ts.map (Value.int .i64))[i]? = some u → w1.drew.cell? ⟨q, i, none⟩ = some u := fun i u hu => by
      have := hcc _ rfl i u hu
      rwa [Addr.add_lit, Nat.zero_add] at this
    have ho1 : ∀ p, (some ⟨q, 0, none⟩ : Option Addr) = some p → ∀ (i : Nat) u, ((ts.take j).map (Value.int .i64))[i]? = some u → w1.drew.cell? (p.add i) = some u := by
      intro p hp i u hu
      injection hp with hp
      subst hp
      rw [Addr.add_lit, Nat.zero_add]
      refine hat i u ?_
      rw [List.map_take, List.getElem?_take] at hu
      split at hu
      · exact hu
      · cases hu
    have ho2 : ∀ (i : Nat) u, ((ts.drop (j + 1)).map (Value.int .i64))[i]? = some u → w1.drew.cell? ((⟨q, j + 1, none⟩ : Addr).add i) = some u := by
      intro i u hu
      rw [Addr.add_lit]
      refine hat (j + 1 + i) u ?_
      rw [List.map_drop, List.getElem?_drop] at hu
      exact hu
    have hl1 : ((ts.take j).map (Value.int .i64)).length = j * 1 := by rw [List.length_map, List.length_take]; omega
    have hl2 : ((ts.drop (j + 1)).map (Value.int .i64)).length = (r + 1) * 1 := by rw [List.length_map, List.length_drop]; omega
    have hl3 : (ts.eraseIdx j).length = j + (r + 1) := by rw [hE, List.length_append, List.length_take, List.length_drop]; omega
    have hbb : (j + (r + 1)) * 8 ≤ 140737488355328 := by omega
    have HR := Lib.hid (And.intro h (And.intro ht (And.intro hE (And.intro hl3 (And.intro tu1 (And.intro own1 (And.intro hl1 (And.intro hl2 (And.intro ho1 (And.intro ho2 (And.intro G1 hws)))))))))))
    clear h ht hE hl3 hrow1 tu1 own1 y2 x2 x3 xq y3 yq hv hlast hLC hjL hw4 hcq hj hsh HM G1 gc hl1 hl2 ho1 ho2 hat hcc hr hws hne gf
    go_wp2_with fail
    go_region_law (first
      | (refine step_append_full _ (by rfl) _ _ 46 (by rfl) B 3 i0 (.int .i64 0) 1 8 Try.underlying46 hi hz0 hz1 hz2 rfl (some ⟨q, 0, none⟩) j ((ts.take j).map (.int .i64)) (by rfl) HR.out.2.2.2.2.2.2.1 (fun e => by cases e) HR.out.2.2.2.2.2.2.2.2.1 ⟨q, j + 1, none⟩ (r + 1) _ ((ts.drop (j + 1)).map (.int .i64)) (by rfl) HR.out.2.2.2.2.2.2.2.1 HR.out.2.2.2.2.2.2.2.2.2.1 (by omega) hbb (by decide) hBs w1.heap.size (by rfl) ?_; intro cap W1 own2 bb; have K1 := (Blk.drew HR.out.2.2.2.2.2.2.2.2.2.2.1).kept bb; have z2 : W1.cell? ⟨g, 2, none⟩ = some v := K1.cell 2; have z2f : W1.frozen? ⟨g, 2, none⟩ = false := K1.frozen 2))
    all_goals
      go_wp2_with fail
      go_ret
      obtain ⟨h, ht, hE, hl3, tu1, own1, -, -, -, -, -, hws⟩ := HR.out
      refine ⟨rfl, h.lost (rs' := some w1.heap.size) ht own1 tu1 (((Below.refl _ w1).drew).trans bb) (.inr ⟨w1.heap.size, rfl, (own2.lt _ rfl).2, rfl, ?_⟩) (fun q' e => by injection e with e; rw [← e]; exact hws) (fun e => by cases e)⟩
      rw [hl3, hE, List.map_append]
      exact own2
theorem lose_any (k : Int) (w : World) (h : NetAt B S g mb rs n w) (ok : n.Ok K) (hK : K ≤ 1000000) :
    Calls Try.prog 22 #[.pointer (some ⟨g, 0, none⟩), .int .i64 k] w fun e w' => e = .returned (.int .i64 (n.lost k)) ∧ NetTo B g mb rs (n.lose k) w w' := by
  cases hk : n.is k with
  | false =>
    have e1 : n.lost k = 5 := by simp [Nt.lost, hk]
    have e2 : n.lose k = n := by simp [Nt.lose, hk]
    rw [e1, e2]
    refine (lose_no k w h ok hk).mono ?_
    rintro e w' ⟨rfl, rfl⟩
    exact ⟨rfl, NetTo.same h (Below.refl _ _)⟩
  | true =>
    have e1 : n.lost k = 0 := by simp [Nt.lost, hk]
    have e2 : n.lose k = ⟨n.most, n.next, n.l.eraseIdx k.toNat, n.out⟩ := by simp [Nt.lose, hk]
    rw [e1, e2]
    obtain ⟨j, rfl⟩ := Int.eq_ofNat_of_zero_le (Nt.is_iff.1 hk).1
    exact lose_yes j w h ok hK hk
end
end Go.Proofs.Ytbibbndjnlnbiaa
