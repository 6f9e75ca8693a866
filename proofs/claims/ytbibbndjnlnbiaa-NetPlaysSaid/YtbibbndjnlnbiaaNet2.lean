/-
  net.Send.
-/
import Derived.Test.YtbibbndjnlnbiaaNet1
namespace Go.Proofs.Ytbibbndjnlnbiaa
open Go.RowKit Go.Maps

/-- Numbers that no call of a net turns: in a block of their type, or older than the net. -/
def Safe (B : Nat) (w : World) (a : Option Addr) (l : List Int) : Prop := Row .u64 56 0 w.heap.size w a l ∨ Nums .u64 w B a l
section
variable {B S g mb : Nat} {rs : Option Nat} {n : Nt} {w w' : World} {v : Value} {ts : List Int} {D : DataW Value} {a : Option Addr} {l : List Int}
theorem Safe.nums (h : Safe B w a l) (hB : B ≤ w.heap.size) : Nums .u64 w w.heap.size a l := h.elim (fun x => x.nums (Nat.le_refl _)) (fun x => x.more hB)
theorem Safe.kept (h : Safe B w a l) (b : Below w.heap.size w w') (hB : B ≤ w.heap.size) : Safe B w' a l := h.elim (fun x => .inl ((x.below b).more (Nat.le_refl _) b.size)) (fun x => .inr (x.kept b hB))
theorem nums_turn {l : List Int} (h : Nums .u64 w B a l) (T : Turn g mb rs w w') (hB : B ≤ w.heap.size) (h1 : B ≤ g) (h2 : B ≤ mb) (h3 : ∀ q, rs = some q → B ≤ q) : Nums .u64 w' B a l := by
  rcases h with h | ⟨b, o, ha, hlt, hc⟩
  · exact .inl h
  · refine .inr ⟨b, o, ha, hlt, fun i x hx => ?_⟩
    exact (World.cell?_of_block (T.block b (by omega) (by omega) (by omega) (fun e => by have := h3 b e.symm; omega))).trans (hc i x hx)
theorem Safe.turn (h : Safe B w a l) (hN : NetAt B S g mb rs n w) (T : Turn g mb rs w w') : Safe B w' a l := by
  refine h.elim (fun x => .inl ((T.row hN x).more (Nat.le_refl _) T.size)) (fun x => .inr ?_)
  have h1 := hN.g1
  have h2 : g < w.heap.size := by obtain ⟨v, ts, D, h⟩ := hN; exact h.blk.lt
  exact nums_turn x T (by omega) h1 hN.mb1 hN.rs1
theorem Safe.of_own {base c : Nat} (h : w.ownsRow base 56 1 (.slice a l.length c) l.length (l.map (.int .u64))) : Safe B w a l := .inl ((Row.of_own h).more (Nat.zero_le _) (Nat.le_refl _))

theorem RowAt.owned {k : Nat} (h : RowAt B S rs w v ts) (e : some k = rs) : v.ownBlock = some k ∧ w.ownsRow B 3 1 v ts.length (ts.map (.int .i64)) := by
  rcases h with ⟨x, _⟩ | ⟨q2, e', _, ho, hr⟩
  · rw [x] at e; cases e
  · rw [e'] at e
    injection e with e
    subst e
    exact ⟨ho, hr⟩
theorem own_not {k q : Nat} {t : TypeId} {cs : Array Value} {e : TypeId} {xs : List Value} {n : Nat} (hr : w.ownsRow B e 1 v n xs) (ho : v.ownBlock = some q) (hk : Blk w k t cs) (ht : t ≠ e) : q ≠ k := by
  intro h
  subst h
  rcases own_ne (g := q) (t := t) (cs := cs) hr hk (Ne.symm ht) with h0 | h0
  · rw [h0] at ho; cases ho
  · exact h0 ho
theorem own_map {q b n' : Nat} {e : TypeId} {xs : List Value} {k : Nat} {P : Program} {kt : TypeId} {R : Value → Option (DataW Value × List MemPlace)} (hr : w.ownsRow B e 1 v k xs) (ho : v.ownBlock = some q) (hm : w.ownsMap P kt R b n' D) : q ≠ b := by
  intro h
  subst h
  rcases hr.2 with ⟨rfl, _⟩ | ⟨g', _, _, rfl, _, hh, _⟩
  · simp [Value.ownBlock] at ho
  · have : g' = q := by simpa [Value.ownBlock] using ho
    subst this
    exact map_ne hm (q := g') hh rfl

/-- Between the append and the store: the row is longer than what is under way. -/
structure SendMid (B S g mb : Nat) (rs : Option Nat) (n : Nt) (m : Mg) (a : Option Addr) (c G : Nat) (w0 w : World) (v : Value) (ts : List Int) (D : DataW Value) (q : Nat) : Prop where
  blk : Blk w g 74 #[.int .i64 n.most, .int .i64 n.next, v, .map (some mb), .int .i64 n.out]
  row : RowAt B w.heap.size (some q) w v (ts ++ [n.next])
  map : w.ownsMap Try.prog 3 held mb n.next.toNat D
  tie : ∀ (i : Nat) t m, ts[i]? = some t → n.l[i]? = some m → Tick B S w D t m
  hq : rs = some q ∨ w0.heap.size ≤ q
  turn : Turn g mb rs w0 w
  box : Blk w G 32 (m.cells a c)
  nums : Nums .u64 w w.heap.size a m.l
theorem send_mid {m : Mg} {c G q' cap : Nat} {w0 w3 W1 : World} (h : NetIn B S g mb rs n w3 v ts D) (b0 : Below w0.heap.size w0 w3) (hgr : w3.grownBy W1 rs)
    (own1 : W1.ownsRow B 3 1 (.slice (some ⟨q', 0, none⟩) (ts.length + 1) cap) (ts.length + 1) (ts.map (.int .i64) ++ [.int .i64 n.next])) (hq : rs = some q' ∨ w3.heap.size ≤ q')
    (hbox : Blk w3 G 32 (m.cells a c)) (hs : Safe B w3 a m.l) : SendMid B S g mb rs n m a c G w0 (W1.setCell ⟨g, 2, none⟩ (.slice (some ⟨q', 0, none⟩) (ts.length + 1) cap)) (.slice (some ⟨q', 0, none⟩) (ts.length + 1) cap) ts D q' := by
  have hN : NetAt B S g mb rs n w3 := ⟨v, ts, D, h⟩
  have kb : ∀ {k : Nat} {t : TypeId} {cs : Array Value}, Blk w3 k t cs → t ≠ 3 → Blk W1 k t cs := by
    intro k t cs hk ht
    refine hk.grown hgr fun e => ?_
    obtain ⟨ho, hr⟩ := h.row.owned e
    exact own_not hr ho hk ht rfl
  have hg1 : Blk W1 g 74 #[.int .i64 n.most, .int .i64 n.next, v, .map (some mb), .int .i64 n.out] := kb h.blk (by decide)
  have hm1 : W1.heap[mb]? = w3.heap[mb]? := hgr.block mb h.map.lt (fun e => by
    obtain ⟨ho, hr⟩ := h.row.owned e
    exact own_map hr ho h.map rfl)
  have hmg : mb ≠ g := Ne.symm (map_ne h.map h.blk)
  have hsz := hgr.size
  have hgl := h.blk.lt
  have T1 : Turn g mb rs w0 (W1.setCell ⟨g, 2, none⟩ (.slice (some ⟨q', 0, none⟩) (ts.length + 1) cap)) :=
    ⟨hgr.os.trans b0.os, hgr.tape.trans b0.tape, hgr.output.trans b0.output, by simpa [World.setCell] using Nat.le_trans b0.size hgr.size, fun k hk h1 h2 h3 => by
      rw [Below.heap_setCell W1 ⟨g, 2, none⟩ _ k h1, hgr.block k (Nat.lt_of_lt_of_le hk b0.size) h3, b0.block k hk]⟩
  have own2 := own_setc (i := 2) own1 hg1 (by decide) (.slice (some ⟨q', 0, none⟩) (ts.length + 1) cap)
  refine ⟨hg1.set_ 2 _, .inr ⟨q', rfl, ?_, rfl, by simpa using own2⟩, map_heap h.map ?_, fun i t m' ht hm' => ?_, ?_, T1, (kb hbox (by decide)).farc ?_ _, ?_⟩
  · exact (own2.lt q' rfl).2
  · rw [Below.heap_setCell W1 ⟨g, 2, none⟩ _ mb hmg, hm1]
  · obtain ⟨x, y, e, r⟩ := h.tie i t m' ht hm'
    exact ⟨x, y, e, r.kept fun q cur _ _ hb => (kb hb (by decide)).farc (Blk.ne_ hb h.blk (by decide)) _⟩
  · rcases hq with hq | hq
    · exact .inl hq
    · exact .inr (Nat.le_trans b0.size hq)
  · exact Blk.ne_ hbox h.blk (by decide)
  · refine hs.elim (fun x => ?_) (fun x => ?_)
    · have r := x.kept (w' := W1.setCell ⟨g, 2, none⟩ (.slice (some ⟨q', 0, none⟩) (ts.length + 1) cap)) fun q cur _ _ hb => (kb hb (by decide)).farc (Blk.ne_ hb h.blk (by decide)) _
      exact (r.numsAt).more (by simpa [World.setCell] using hsz)
    · rcases x with x | ⟨b, o, ha, hlt, hc⟩
      · exact .inl x
      · have hB := h.g1
        refine .inr ⟨b, o, ha, by simp [World.setCell]; omega, fun i x hx => ?_⟩
        refine (World.cell?_of_block ?_).trans (hc i x hx)
        rw [Below.heap_setCell W1 ⟨g, 2, none⟩ _ b (by dsimp only; omega), hgr.block b (by omega) (fun e => by have := hN.rs1 b e.symm; omega)]
theorem SendMid.done_in {v0 : Value} {m : Mg} {c G q : Nat} {w0 w1 w2 : World} {K : Nat} (h : SendMid B S g mb rs n m a c G w0 w v ts D q) (hI : NetIn B S g mb rs n w0 v0 ts D) (ok : n.Ok K) (hmay : m.may = true) (hlen : (n.l.length : Int) < n.most)
    (b1 : Below w.heap.size w w1) {a' : Option Addr} {c' : Nat} (own1 : w1.ownsRow w.heap.size 56 1 (.slice a' m.l.length c') m.l.length (m.l.map (.int .u64)))
    (hmap : w2.ownsMap Try.prog 3 held mb (n.next.toNat + 1) (D.put (.int .i64 n.next) (.held (m.val a' c')))) (ht : w1.mapTurned w2 mb) :
    NetIn B (w2.setCell ⟨g, 1, none⟩ (.int .i64 (n.next + 1))).heap.size g mb (some q) (n.send m) (w2.setCell ⟨g, 1, none⟩ (.int .i64 (n.next + 1))) v (ts ++ [n.next]) (D.put (.int .i64 n.next) (.held (m.val a' c'))) ∧ Turn g mb rs w0 (w2.setCell ⟨g, 1, none⟩ (.int .i64 (n.next + 1))) ∧ (rs = some q ∨ w0.heap.size ≤ q) := by
  have hes : n.send m = ⟨n.most, n.next + 1, n.l ++ [m], n.out⟩ := by
    unfold Nt.send
    rw [if_pos hmay, if_pos hlen]
  rw [hes]
  have hg2 := ht.grown
  have n0 := ok.next0
  have hn0 : (n.next + 1).toNat = n.next.toNat + 1 := by omega
  have kb : ∀ {k : Nat} {t : TypeId} {cs : Array Value}, Blk w1 k t cs → k ≠ mb → Blk w2 k t cs := fun hk hne => hk.grown hg2 (some_ne hne)
  have hgmb : g ≠ mb := map_ne hI.map hI.blk
  have hgw1 := h.blk.kept b1
  have hgw2 := kb hgw1 hgmb
  have hGw : w0.heap.size ≤ w.heap.size := h.turn.size
  have hS0 := hI.hS
  have s1 := b1.size
  have s2 := hg2.size
  have hmw : mb < w.heap.size := h.map.lt
  have sW : (w2.setCell ⟨g, 1, none⟩ (.int .i64 (n.next + 1))).heap.size = w2.heap.size := by simp [World.setCell]
  have T2 : Turn g mb rs w0 (w2.setCell ⟨g, 1, none⟩ (.int .i64 (n.next + 1))) :=
    ⟨hg2.os.trans (b1.os.trans h.turn.os), hg2.tape.trans (b1.tape.trans h.turn.tape), hg2.output.trans (b1.output.trans h.turn.output), by rw [sW]; omega, fun k hk k1 k2 k3 => by
      rw [Below.heap_setCell w2 ⟨g, 1, none⟩ _ k k1, hg2.block k (by omega) (some_ne k2), b1.block k (by omega), h.turn.block k hk k1 k2 k3]⟩
  refine ⟨?_, T2, h.hq⟩
  · refine { blk := hgw2.set_ 1 _, row := ?_, map := ?_, g1 := hI.g1, g2 := by rw [sW]; have := hI.blk.lt; omega, mb1 := hI.mb1, mb2 := by rw [sW]; omega, hS := Nat.le_refl _, len := by simp only [List.length_append, List.length_cons, List.length_nil]; rw [hI.len], up := ?_, lt := ?_, tie := ?_ }
    · rcases h.row with ⟨e, _⟩ | ⟨q2, e, hq2, ho, hr⟩
      · cases e
      · injection e with e
        subst e
        refine .inr ⟨q, rfl, by rw [sW]; omega, ho, ?_⟩
        have r1 := own_below hr b1
        have r2 : w2.ownsRow B 3 1 v (ts ++ [n.next]).length ((ts ++ [n.next]).map (.int .i64)) := r1.kept hg2 (.inr (fun e => by
          rw [ho] at e
          injection e with e
          exact own_map hr ho h.map e))
        exact own_setc (i := 1) r2 hgw2 (by decide) _
    · rw [hn0]
      exact hmap.setCell (Ne.symm hgmb) _
    · refine List.pairwise_append.2 ⟨hI.up, by simp, fun x hx y hy => ?_⟩
      have : y = n.next := by simpa using hy
      subst this
      exact (hI.lt x hx).2
    · intro t ht'
      rcases List.mem_append.1 ht' with ht' | ht'
      · have := hI.lt t ht'
        dsimp only
        omega
      · have : t = n.next := by simpa using ht'
        subst this
        dsimp only
        omega
    · intro i t m' ht' hm'
      rcases Nat.lt_or_ge i ts.length with hi | hi
      · have e1 : ts[i]? = some t := by rwa [List.getElem?_append_left hi] at ht'
        have e2 : n.l[i]? = some m' := by rwa [List.getElem?_append_left (by rw [← hI.len]; exact hi)] at hm'
        obtain ⟨x, y, e, r⟩ := h.tie i t m' e1 e2
        have hlt := (hI.lt t (List.mem_of_getElem? e1)).2
        refine ⟨x, y, fun z => ?_, ?_⟩
        · rw [atKey_put_other (by intro e'; injection e' with _ e'; omega)]
          exact e z
        · refine (r.kept fun q cur _ hq hb => ?_).more (Nat.le_refl _) (by rw [sW]; omega)
          have hb1 := hb.kept b1
          exact (kb hb1 (fun e => by subst e; exact map_ne h.map hb rfl)).farc (Blk.ne_ hb h.blk (by decide)) _
      · have hi2 : i < (ts ++ [n.next]).length := (List.getElem?_eq_some_iff.1 ht').1
        have hie : i = ts.length := by simp at hi2; omega
        subst hie
        have e1 : t = n.next := by simpa using ht'.symm
        have e2 : m' = m := by rw [hI.len] at hm'; simpa using hm'.symm
        subst e1 e2
        refine ⟨a', c', fun z => atKey_put_same (h.map.isMap) (by exact trivial) _ _, ?_⟩
        have r : Row .u64 56 w.heap.size w1.heap.size w1 a' m'.l := Row.of_own own1
        refine (r.kept fun q cur hq1 hq hb => ?_).more (by have := hI.g1; have := hI.blk.lt; omega) (by rw [sW]; omega)
        exact (kb hb (by omega)).farc (Blk.ne_ hb hgw1 (by decide)) _
theorem SendMid.done {v0 : Value} {m : Mg} {c G q : Nat} {w0 w1 w2 : World} {K : Nat} (h : SendMid B S g mb rs n m a c G w0 w v ts D q) (hI : NetIn B S g mb rs n w0 v0 ts D) (ok : n.Ok K) (hmay : m.may = true) (hlen : (n.l.length : Int) < n.most)
    (b1 : Below w.heap.size w w1) {a' : Option Addr} {c' : Nat} (own1 : w1.ownsRow w.heap.size 56 1 (.slice a' m.l.length c') m.l.length (m.l.map (.int .u64)))
    (hmap : w2.ownsMap Try.prog 3 held mb (n.next.toNat + 1) (D.put (.int .i64 n.next) (.held (m.val a' c')))) (ht : w1.mapTurned w2 mb) :
    NetTo B g mb rs (n.send m) w0 (w2.setCell ⟨g, 1, none⟩ (.int .i64 (n.next + 1))) := by
  obtain ⟨hN, T, hq⟩ := h.done_in hI ok hmay hlen b1 own1 hmap ht
  refine ⟨some q, ⟨_, _, _, hN⟩, T, fun q' e => ?_, fun e => by cases e⟩
  injection e with e
  subst e
  exact hq
/-- No message's numbers lie at block p. -/
def NetOff (B g mb : Nat) (n : Nt) (w : World) (p : Nat) : Prop := ∃ rs v ts D, NetIn B w.heap.size g mb rs n w v ts D ∧ ∀ (i : Nat) t m, ts[i]? = some t → n.l[i]? = some m → ∃ a c, (∀ z, D.atKey (.int .i64 t) z = .held (m.val a c)) ∧ (m.l = [] ∨ ∃ q, a = some ⟨q, 0, none⟩ ∧ q ≠ p)
theorem SendMid.off {v0 : Value} {m : Mg} {c G q : Nat} {w0 w1 w2 : World} {K : Nat} (h : SendMid B S g mb rs n m a c G w0 w v ts D q) (hI : NetIn B S g mb rs n w0 v0 ts D) (ok : n.Ok K) (hmay : m.may = true) (hlen : (n.l.length : Int) < n.most)
    (b1 : Below w.heap.size w w1) {a' : Option Addr} {c' : Nat} (own1 : w1.ownsRow w.heap.size 56 1 (.slice a' m.l.length c') m.l.length (m.l.map (.int .u64)))
    (hmap : w2.ownsMap Try.prog 3 held mb (n.next.toNat + 1) (D.put (.int .i64 n.next) (.held (m.val a' c')))) (ht : w1.mapTurned w2 mb) {p : Nat} (hp : S ≤ p) (hp' : p < w0.heap.size) :
    NetOff B g mb (n.send m) (w2.setCell ⟨g, 1, none⟩ (.int .i64 (n.next + 1))) p := by
  obtain ⟨hN, T, hq⟩ := h.done_in hI ok hmay hlen b1 own1 hmap ht
  refine ⟨_, _, _, _, hN, fun i t m' ht' hm' => ?_⟩
  have hes : (n.send m).l = n.l ++ [m] := by
    unfold Nt.send
    rw [if_pos hmay, if_pos hlen]
  rw [hes] at hm'
  rcases Nat.lt_or_ge i ts.length with hi | hi
  · have e1 : ts[i]? = some t := by rwa [List.getElem?_append_left hi] at ht'
    have e2 : n.l[i]? = some m' := by rwa [List.getElem?_append_left (by rw [← hI.len]; exact hi)] at hm'
    obtain ⟨x, y, e, r⟩ := h.tie i t m' e1 e2
    have hlt := (hI.lt t (List.mem_of_getElem? e1)).2
    refine ⟨x, y, fun z => ?_, ?_⟩
    · rw [atKey_put_other (by intro e'; injection e' with _ e'; omega)]
      exact e z
    · rcases r with r | ⟨q1, cur, ha, h1, h2, _⟩
      · exact .inl r
      · exact .inr ⟨q1, ha, by omega⟩
  · have hi2 : i < (ts ++ [n.next]).length := (List.getElem?_eq_some_iff.1 ht').1
    have hie : i = ts.length := by simp at hi2; omega
    subst hie
    have e1 : t = n.next := by simpa using ht'.symm
    have e2 : m' = m := by rw [hI.len] at hm'; simpa using hm'.symm
    subst e1 e2
    refine ⟨a', c', fun z => atKey_put_same (h.map.isMap) (by exact trivial) _ _, ?_⟩
    have r : Row .u64 56 w.heap.size w1.heap.size w1 a' m'.l := Row.of_own own1
    rcases r with r | ⟨q1, cur, ha, h1, h2, _⟩
    · exact .inl r
    · have := h.turn.size
      exact .inr ⟨q1, ha, by omega⟩
theorem NetOff.at {p : Nat} (h : NetOff B g mb n w p) : ∃ rs, NetAt B w.heap.size g mb rs n w := by
  obtain ⟨rs, v, ts, D, h, _⟩ := h
  exact ⟨rs, v, ts, D, h⟩
/-- From below p on. -/
theorem NetOff.of_at {p : Nat} (h : NetAt B S g mb rs n w) (hp : S ≤ p) : NetOff B g mb n w p := by
  obtain ⟨v, ts, D, h⟩ := h
  refine ⟨rs, v, ts, D, h.more (Nat.le_refl _) h.hS (Nat.le_refl _), fun i t m e1 e2 => ?_⟩
  obtain ⟨x, y, e, r⟩ := h.tie i t m e1 e2
  refine ⟨x, y, e, ?_⟩
  rcases r with r | ⟨q1, cur, ha, h1, h2, _⟩
  · exact .inl r
  · exact .inr ⟨q1, ha, by omega⟩
theorem NetOff.kept {p : Nat} (h : NetOff B g mb n w p) (b : Below w.heap.size w w') : NetOff B g mb n w' p := by
  obtain ⟨rs, v, ts, D, h, k⟩ := h
  exact ⟨rs, v, ts, D, (h.below b).more (Nat.le_refl _) b.size (Nat.le_refl _), k⟩
theorem NetOff.only {p x : Nat} {cs : Array Value} {t : TypeId} (h : NetOff B g mb n w p) (o : Only w w' x) (hx : Blk w x t cs) (t1 : t ≠ 74) (t2 : t ≠ 3) (t3 : t ≠ 56) : NetOff B g mb n w' p := by
  obtain ⟨rs, v, ts, D, h, k⟩ := h
  exact ⟨rs, v, ts, D, (h.only o hx t1 t2 t3).more (Nat.le_refl _) o.size (Nat.le_refl _), k⟩
theorem val_inj {m : Mg} {a a' : Option Addr} {c c' : Nat} (h : DataW.held (m.val a c) = .held (m.val a' c')) : a = a' := by
  injection h with h
  unfold Mg.val at h
  simp at h
  exact h.1
/-- The numbers at block p are written over. -/
theorem NetOff.poke {p : Nat} {cs : Array Value} (h : NetOff B g mb n w p) (hb : Blk w p 56 cs) (i : Nat) (u : Value) : NetOff B g mb n (w.setCell ⟨p, i, none⟩ u) p := by
  obtain ⟨rs, v, ts, D, h, k⟩ := h
  have hsz : (w.setCell ⟨p, i, none⟩ u).heap.size = w.heap.size := by simp [World.setCell]
  refine ⟨rs, v, ts, D, ?_, k⟩
  exact { blk := h.blk.farc (Blk.ne_ h.blk hb (by decide)) u
          row := by rw [hsz]; exact h.row.kept fun q cur _ hq => hq.farc (Blk.ne_ hq hb (by decide)) u
          map := map_heap h.map (Below.heap_setCell w ⟨p, i, none⟩ u mb (Ne.symm (map_ne h.map hb)))
          g1 := h.g1
          g2 := by rw [hsz]; exact h.g2
          mb1 := h.mb1
          mb2 := by rw [hsz]; exact h.mb2
          hS := Nat.le_refl _
          len := h.len
          up := h.up
          lt := h.lt
          tie := fun i' t m e1 e2 => by
            obtain ⟨x, c, e, r⟩ := h.tie i' t m e1 e2
            obtain ⟨y, c', e', hy⟩ := k i' t m e1 e2
            have hxy : x = y := val_inj ((e (.held undef)).symm.trans (e' (.held undef)))
            refine ⟨x, c, e, ?_⟩
            rw [hsz]
            rcases r with r | ⟨q1, cur, ha, h1, h2, hq, hc⟩
            · exact .inl r
            · rcases hy with hy | ⟨q, hy, hne⟩
              · exact .inl hy
              · have hqq : q1 = q := by
                  have := ha.symm.trans (hxy.trans hy)
                  injection this with this
                  injection this
                exact .inr ⟨q1, cur, ha, h1, h2, hq.farc (by omega) u, hc⟩ }
end
end Go.Proofs.Ytbibbndjnlnbiaa
