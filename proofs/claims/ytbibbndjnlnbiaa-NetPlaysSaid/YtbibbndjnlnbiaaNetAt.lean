/-
  A net in memory: its five cells, its row of tickets, its map of messages; what keeps it.
-/
import Derived.Test.YtbibbndjnlnbiaaMBase
import Derived.Test.YtbibbndjnlnbiaaNetPlain
import Derived.Maps.OwnSet
import Derived.Maps.Views
namespace Go.Proofs.Ytbibbndjnlnbiaa
open Go.RowKit Go.Maps

/-- Numbers in a block of their type, from lo on and below hi. -/
def Row (k : IntKind) (t : TypeId) (lo hi : Nat) (w : World) (a : Option Addr) (l : List Int) : Prop :=
  l = [] ∨ ∃ q cur, a = some ⟨q, 0, none⟩ ∧ lo ≤ q ∧ q < hi ∧ Blk w q t cur ∧ ∀ (i : Nat) x, l[i]? = some x → cur[i]? = some (.int k x)
section
variable {k : IntKind} {t : TypeId} {lo hi : Nat} {w w' : World} {a : Option Addr} {l : List Int}
theorem Row.kept (h : Row k t lo hi w a l) (K : ∀ q cur, lo ≤ q → q < hi → Blk w q t cur → Blk w' q t cur) : Row k t lo hi w' a l := by
  rcases h with h | ⟨q, cur, ha, h1, h2, hb, hc⟩
  · exact .inl h
  · exact .inr ⟨q, cur, ha, h1, h2, K q cur h1 h2 hb, hc⟩
theorem Row.below (h : Row k t lo hi w a l) (b : Below hi w w') : Row k t lo hi w' a l := h.kept fun _ _ _ h2 hb => hb.below b h2
theorem Row.more {lo' hi' : Nat} (h : Row k t lo hi w a l) (h1 : lo' ≤ lo) (h2 : hi ≤ hi') : Row k t lo' hi' w a l := by
  rcases h with h | ⟨q, cur, ha, g1, g2, hb, hc⟩
  · exact .inl h
  · exact .inr ⟨q, cur, ha, by omega, by omega, hb, hc⟩
theorem Row.nums (h : Row k t lo hi w a l) (hh : hi ≤ w.heap.size) : Nums k w w.heap.size a l := by
  rcases h with h | ⟨q, cur, ha, h1, h2, hb, hc⟩
  · exact .inl h
  · exact .inr ⟨q, 0, ha, by omega, fun i x hx => by rw [Nat.zero_add, hb.cell i]; exact hc i x hx⟩
theorem Row.numsAt (h : Row k t lo hi w a l) : Nums k w hi a l := by
  rcases h with h | ⟨q, cur, ha, h1, h2, hb, hc⟩
  · exact .inl h
  · exact .inr ⟨q, 0, ha, by omega, fun i x hx => by rw [Nat.zero_add, hb.cell i]; exact hc i x hx⟩
theorem Row.of_own {base n c : Nat} (h : w.ownsRow base t 1 (.slice a n c) n (l.map (.int k))) : Row k t base w.heap.size w a l := by
  rcases h.2 with ⟨e1, e2⟩ | ⟨g, cap, cur, e1, h1, h2, h3, h4, h5, h6⟩
  · have := h.1
    rw [e2] at this
    simp at this
    exact .inl this
  · injection e1 with ea en ec
    refine .inr ⟨g, cur, ea, h1, lt_of_block h2, h2, fun i x hx => ?_⟩
    have hi : i < l.length := (List.getElem?_eq_some_iff.1 hx).1
    have hl := h.1
    simp at hl
    have e : (cur.toList.take (n * 1))[i]? = some (.int k x) := by rw [h6]; simp [hx]
    rw [List.getElem?_take_of_lt (by omega), Array.getElem?_toList] at e
    exact e
end

/-- The row of tickets: shared (its capacity is its length), or its own. -/
def RowAt (B S : Nat) (rs : Option Nat) (w : World) (v : Value) (ts : List Int) : Prop :=
  (rs = none ∧ ∃ a, v = .slice a ts.length ts.length ∧ Row .i64 3 B S w a ts) ∨
  ∃ q, rs = some q ∧ q < S ∧ v.ownBlock = some q ∧ w.ownsRow B 3 1 v ts.length (ts.map (.int .i64))

/-- What a map's element reads as: itself. -/
def held (v : Value) : Option (DataW Value × List MemPlace) := some (.held v, [])
/-- At this ticket this message. -/
def Tick (B S : Nat) (w : World) (D : DataW Value) (t : Int) (m : Mg) : Prop := ∃ a c, (∀ z, D.atKey (.int .i64 t) z = .held (m.val a c)) ∧ Row .u64 56 B S w a m.l

structure NetIn (B S g mb : Nat) (rs : Option Nat) (n : Nt) (w : World) (v : Value) (ts : List Int) (D : DataW Value) : Prop where
  blk : Blk w g 74 #[.int .i64 n.most, .int .i64 n.next, v, .map (some mb), .int .i64 n.out]
  row : RowAt B S rs w v ts
  map : w.ownsMap Try.prog 3 held mb n.next.toNat D
  g1 : B ≤ g
  g2 : g < S
  mb1 : B ≤ mb
  mb2 : mb < S
  hS : S ≤ w.heap.size
  len : ts.length = n.l.length
  up : ts.Pairwise (· < ·)
  lt : ∀ t ∈ ts, 0 ≤ t ∧ t < n.next
  tie : ∀ (i : Nat) t m, ts[i]? = some t → n.l[i]? = some m → Tick B S w D t m
/-- A net lies at block g. -/
def NetAt (B S g mb : Nat) (rs : Option Nat) (n : Nt) (w : World) : Prop := ∃ v ts D, NetIn B S g mb rs n w v ts D

/-- What a call that writes to a net turns. -/
structure Turn (g mb : Nat) (rs : Option Nat) (w w' : World) : Prop where
  os : w'.os = w.os
  tape : w'.tape = w.tape
  output : w'.output = w.output
  size : w.heap.size ≤ w'.heap.size
  block : ∀ k, k < w.heap.size → k ≠ g → k ≠ mb → some k ≠ rs → w'.heap[k]? = w.heap[k]?

section
variable {B S g mb : Nat} {rs : Option Nat} {n : Nt} {w w' : World} {v : Value} {ts : List Int} {D : DataW Value}
theorem RowAt.kept (h : RowAt B S rs w v ts) (hg : ∀ q cur, q < S → Blk w q 3 cur → Blk w' q 3 cur) : RowAt B S rs w' v ts := by
  rcases h with ⟨e, a, hv, hr⟩ | ⟨q, e, hq, ho, hr⟩
  · exact .inl ⟨e, a, hv, hr.kept fun q cur _ h2 hb => hg q cur h2 hb⟩
  · refine .inr ⟨q, e, hq, ho, hr.1, ?_⟩
    rcases hr.2 with h0 | ⟨g', cap, cur, rfl, h1, h2, h3, h4, h5, h6⟩
    · exact .inl h0
    · have : g' = q := by simpa [Value.ownBlock] using ho
      subst this
      exact .inr ⟨g', cap, cur, rfl, h1, hg g' cur hq h2, h3, h4, h5, h6⟩
theorem map_heap {P : Program} {k : TypeId} {R : Value → Option (DataW Value × List MemPlace)} {b n : Nat} (h : w.ownsMap P k R b n D) (hb : w'.heap[b]? = w.heap[b]?) : w'.ownsMap P k R b n D := by
  obtain ⟨es, clock, h1, h2, h3, h4⟩ := h
  exact ⟨es, clock, by rw [hb]; exact h1, h2, h3, h4⟩
theorem map_ne {P : Program} {k : TypeId} {R : Value → Option (DataW Value × List MemPlace)} {b n q : Nat} {t : TypeId} {cs : Array Value} (h : w.ownsMap P k R b n D) (hq : Blk w q t cs) : q ≠ b := by
  rintro rfl
  obtain ⟨es, clock, h1, _⟩ := h
  unfold Blk at hq
  rw [hq] at h1
  simp at h1
/-- Kept wherever its blocks are. -/
theorem NetIn.keptBy (h : NetIn B S g mb rs n w v ts D) (hs : w.heap.size ≤ w'.heap.size) (h1 : w'.heap[g]? = w.heap[g]?) (h2 : w'.heap[mb]? = w.heap[mb]?)
    (h3 : ∀ q cur, q < S → Blk w q 3 cur → Blk w' q 3 cur) (h4 : ∀ q cur, q < S → Blk w q 56 cur → Blk w' q 56 cur) : NetIn B S g mb rs n w' v ts D :=
  { blk := by unfold Blk; rw [h1]; exact h.blk
    row := h.row.kept h3
    map := map_heap h.map h2
    g1 := h.g1
    g2 := h.g2
    mb1 := h.mb1
    mb2 := h.mb2
    hS := Nat.le_trans h.hS hs
    len := h.len
    up := h.up
    lt := h.lt
    tie := fun i t m a b => by
      obtain ⟨x, c, e, r⟩ := h.tie i t m a b
      exact ⟨x, c, e, r.kept fun q cur _ hq hb => h4 q cur hq hb⟩ }
theorem NetIn.below (h : NetIn B S g mb rs n w v ts D) (b : Below S w w') : NetIn B S g mb rs n w' v ts D :=
  h.keptBy b.size (b.block g h.g2) (b.block mb h.mb2) (fun _ _ hq hb => hb.below b hq) (fun _ _ hq hb => hb.below b hq)
theorem NetIn.only {x : Nat} {cs : Array Value} {t : TypeId} (h : NetIn B S g mb rs n w v ts D) (o : Only w w' x) (hx : Blk w x t cs) (t1 : t ≠ 74) (t2 : t ≠ 3) (t3 : t ≠ 56) : NetIn B S g mb rs n w' v ts D := by
  refine h.keptBy o.size (o.block g h.blk.lt ?_) (o.block mb h.map.lt ?_) (fun q cur _ hb => hb.grown o ?_) (fun q cur _ hb => hb.grown o ?_)
  · exact some_ne (Blk.ne_ h.blk hx (Ne.symm t1))
  · exact some_ne (Ne.symm (map_ne h.map hx))
  · exact some_ne (Blk.ne_ hb hx (Ne.symm t2))
  · exact some_ne (Blk.ne_ hb hx (Ne.symm t3))
theorem NetIn.more {B' S' : Nat} (h : NetIn B S g mb rs n w v ts D) (hB : B' ≤ B) (h1 : S ≤ S') (h2 : S' ≤ w.heap.size) : NetIn B' S' g mb rs n w v ts D :=
  { blk := h.blk
    row := by
      rcases h.row with ⟨e, a, hv, hr⟩ | ⟨q, e, hq, ho, hr⟩
      · exact .inl ⟨e, a, hv, hr.more hB h1⟩
      · refine .inr ⟨q, e, by omega, ho, hr.1, ?_⟩
        rcases hr.2 with h0 | ⟨g', cap, cur, hv, k1, k2⟩
        · exact .inl h0
        · exact .inr ⟨g', cap, cur, hv, by omega, k2⟩
    map := h.map
    g1 := Nat.le_trans hB h.g1
    g2 := Nat.lt_of_lt_of_le h.g2 h1
    mb1 := Nat.le_trans hB h.mb1
    mb2 := Nat.lt_of_lt_of_le h.mb2 h1
    hS := h2
    len := h.len
    up := h.up
    lt := h.lt
    tie := fun i t m a b => by
      obtain ⟨x, c, e, r⟩ := h.tie i t m a b
      exact ⟨x, c, e, r.more hB h1⟩ }
theorem NetAt.below (h : NetAt B S g mb rs n w) (b : Below S w w') : NetAt B S g mb rs n w' := by
  obtain ⟨v, ts, D, h⟩ := h
  exact ⟨v, ts, D, h.below b⟩
theorem NetAt.hS (h : NetAt B S g mb rs n w) : S ≤ w.heap.size := by
  obtain ⟨v, ts, D, h⟩ := h
  exact h.hS
theorem NetAt.kept (h : NetAt B S g mb rs n w) (b : Below w.heap.size w w') : NetAt B S g mb rs n w' := h.below ⟨b.os, b.tape, b.output, b.size, fun k hk => b.block k (Nat.lt_of_lt_of_le hk h.hS)⟩
theorem NetAt.only {x : Nat} {cs : Array Value} {t : TypeId} (h : NetAt B S g mb rs n w) (o : Only w w' x) (hx : Blk w x t cs) (t1 : t ≠ 74) (t2 : t ≠ 3) (t3 : t ≠ 56) : NetAt B S g mb rs n w' := by
  obtain ⟨v, ts, D, h⟩ := h
  exact ⟨v, ts, D, h.only o hx t1 t2 t3⟩
theorem NetAt.more {B' S' : Nat} (h : NetAt B S g mb rs n w) (hB : B' ≤ B) (h1 : S ≤ S') (h2 : S' ≤ w.heap.size) : NetAt B' S' g mb rs n w := by
  obtain ⟨v, ts, D, h⟩ := h
  exact ⟨v, ts, D, h.more hB h1 h2⟩
theorem NetAt.top (h : NetAt B S g mb rs n w) : NetAt B w.heap.size g mb rs n w := h.more (Nat.le_refl _) h.hS (Nat.le_refl _)
theorem NetAt.gl (h : NetAt B S g mb rs n w) : g < w.heap.size := by
  obtain ⟨v, ts, D, h⟩ := h
  exact h.blk.lt
theorem NetAt.g1 (h : NetAt B S g mb rs n w) : B ≤ g := by
  obtain ⟨v, ts, D, h⟩ := h
  exact h.g1
theorem NetAt.mb1 (h : NetAt B S g mb rs n w) : B ≤ mb := by
  obtain ⟨v, ts, D, h⟩ := h
  exact h.mb1
theorem NetAt.rs1 (h : NetAt B S g mb rs n w) : ∀ q, rs = some q → B ≤ q := by
  obtain ⟨v, ts, D, h⟩ := h
  intro q hq
  rcases h.row with ⟨e, _⟩ | ⟨q', e, _, ho, hr⟩
  · rw [e] at hq; cases hq
  · rw [e] at hq
    injection hq with hq
    subst hq
    exact (hr.lt _ ho).1
theorem NetAt.apart {q : Nat} {t : TypeId} {cs : Array Value} (h : NetAt B S g mb rs n w) (hq : Blk w q t cs) (t1 : t ≠ 74) (t2 : t ≠ 3) : q ≠ g ∧ q ≠ mb ∧ some q ≠ rs := by
  obtain ⟨v, ts, D, h⟩ := h
  refine ⟨Blk.ne_ hq h.blk t1, map_ne h.map hq, fun e => ?_⟩
  rcases h.row with ⟨e', _⟩ | ⟨q', e', _, ho, hr⟩
  · rw [e'] at e; cases e
  · rw [e'] at e
    injection e with e
    subst e
    rcases own_ne (g := q) (t := t) (cs := cs) hr hq (Ne.symm t2) with h0 | h0
    · rw [h0] at ho; cases ho
    · exact h0 ho

theorem Turn.refl (w : World) : Turn g mb rs w w := ⟨rfl, rfl, rfl, Nat.le_refl _, fun _ _ _ _ _ => rfl⟩
theorem Turn.of_below (b : Below w.heap.size w w') : Turn g mb rs w w' := ⟨b.os, b.tape, b.output, b.size, fun k hk _ _ _ => b.block k hk⟩
/-- One call behind another: the row is the one before, or a new one. -/
theorem Turn.trans {rs' : Option Nat} {w'' : World} (h : Turn g mb rs w w') (k : Turn g mb rs' w' w'') (hr : ∀ q, rs' = some q → rs = some q ∨ w.heap.size ≤ q) : Turn g mb rs w w'' :=
  ⟨k.os.trans h.os, k.tape.trans h.tape, k.output.trans h.output, Nat.le_trans h.size k.size, fun i hi h1 h2 h3 => by
    rw [k.block i (Nat.lt_of_lt_of_le hi h.size) h1 h2 (fun e => by
      rcases hr i e.symm with h' | h'
      · exact h3 h'.symm
      · omega), h.block i hi h1 h2 h3]⟩
theorem Turn.below {a : World} {L : Nat} (hb : Below L a w) (T : Turn g mb rs w w') (hL : L ≤ w.heap.size) (h1 : L ≤ g) (h2 : L ≤ mb) (h3 : ∀ q, rs = some q → L ≤ q) : Below L a w' :=
  ⟨T.os.trans hb.os, T.tape.trans hb.tape, T.output.trans hb.output, Nat.le_trans hb.size T.size, fun k hk => by
    rw [T.block k (Nat.lt_of_lt_of_le hk hL) (by omega) (by omega) (fun e => by have := h3 k e.symm; omega)]
    exact hb.block k hk⟩
theorem Turn.blk {q : Nat} {t : TypeId} {cs : Array Value} (T : Turn g mb rs w w') (h : NetAt B S g mb rs n w) (hq : Blk w q t cs) (t1 : t ≠ 74) (t2 : t ≠ 3) : Blk w' q t cs := by
  obtain ⟨a1, a2, a3⟩ := h.apart hq t1 t2
  exact (T.block q hq.lt a1 a2 a3).trans hq
theorem Turn.row {lo hi : Nat} {a : Option Addr} {l : List Int} (T : Turn g mb rs w w') (h : NetAt B S g mb rs n w) (hr : Row .u64 56 lo hi w a l) : Row .u64 56 lo hi w' a l :=
  hr.kept fun _ _ _ _ hb => T.blk h hb (by decide) (by decide)
end

/-- The row of the net at g has numbers in block q. -/
def RowIn (g : Nat) (w : World) (q : Nat) : Prop := ∃ (p : Addr) (L c : Nat), p.block = q ∧ 0 < L ∧ w.cell? ⟨g, 2, none⟩ = some (.slice (some p) L c)
theorem RowIn.of_cells {g q : Nat} {w w' : World} {v : Value} (h : w.cell? ⟨g, 2, none⟩ = some v) (h' : w'.cell? ⟨g, 2, none⟩ = some v) (hq : RowIn g w' q) : RowIn g w q := by
  obtain ⟨p, L, c, e, hL, hc⟩ := hq
  exact ⟨p, L, c, e, hL, h.trans (h'.symm.trans hc)⟩
theorem RowIn.of_block {g q : Nat} {w w' : World} (h : w'.heap[g]? = w.heap[g]?) (hq : RowIn g w' q) : RowIn g w q := by
  obtain ⟨p, L, c, e, hL, hc⟩ := hq
  exact ⟨p, L, c, e, hL, (World.cell?_of_block (a := ⟨g, 2, none⟩) h).symm.trans hc⟩
section
variable {B S g mb : Nat} {rs : Option Nat} {n : Nt} {w w' : World} {v : Value} {ts : List Int} {D : DataW Value}
theorem RowIn.lt {q : Nat} (h : NetAt B S g mb rs n w) (hq : RowIn g w q) : q < w.heap.size := by
  obtain ⟨v, ts, D, h⟩ := h
  obtain ⟨p, L, c, rfl, hL, hc⟩ := hq
  have hv : v = .slice (some p) L c := Option.some.inj ((show w.cell? ⟨g, 2, none⟩ = some v from h.blk.cell 2).symm.trans hc)
  subst hv
  have hS := h.hS
  rcases h.row with ⟨_, a, hv, hr⟩ | ⟨q', _, hq', ho, _⟩
  · injection hv with ha hl _
    rcases hr with h0 | ⟨q1, cur, ha', _, h2, _, _⟩
    · rw [h0] at hl
      simp at hl
      omega
    · rw [← ha] at ha'
      have : p = ⟨q1, 0, none⟩ := Option.some.inj ha'
      subst this
      show q1 < _
      omega
  · have : p.block = q' := by simpa [Value.ownBlock] using ho
    omega
theorem RowIn.own {q p : Nat} (h : NetAt B S g mb (some p) n w) (hq : RowIn g w q) : q = p := by
  obtain ⟨v, ts, D, h⟩ := h
  obtain ⟨p', L, c, rfl, hL, hc⟩ := hq
  have hv : v = .slice (some p') L c := Option.some.inj ((show w.cell? ⟨g, 2, none⟩ = some v from h.blk.cell 2).symm.trans hc)
  subst hv
  rcases h.row with ⟨e, _⟩ | ⟨q', e, _, ho, _⟩
  · cases e
  · have h1 : p'.block = q' := by simpa [Value.ownBlock] using ho
    have h2 : p = q' := Option.some.inj e
    omega
/-- Numbers of the law's own beside a net: they may be written over. -/
theorem NetIn.poke {q : Nat} {cs : Array Value} (h : NetIn B S g mb rs n w v ts D) (hq : Blk w q 3 cs) (h3 : some q ≠ rs) (h4 : ¬ RowIn g w q) (i : Nat) (u : Value) : NetIn B S g mb rs n (w.setCell ⟨q, i, none⟩ u) v ts D := by
  have hgq : g ≠ q := Blk.ne_ h.blk hq (by decide)
  have hmq : mb ≠ q := Ne.symm (map_ne h.map hq)
  have hsz : (w.setCell ⟨q, i, none⟩ u).heap.size = w.heap.size := by simp [World.setCell]
  exact { blk := h.blk.farc hgq u
          row := by
            rcases h.row with ⟨e, a, hv, hr⟩ | ⟨q', e, hq', ho, hr⟩
            · refine .inl ⟨e, a, hv, ?_⟩
              rcases hr with h0 | ⟨q1, cur, ha, h1, h2, hb, hc⟩
              · exact .inl h0
              · by_cases h0 : ts = []
                · exact .inl h0
                · have hne : q1 ≠ q := by
                    rintro rfl
                    refine h4 ⟨⟨q1, 0, none⟩, ts.length, ts.length, rfl, List.length_pos_iff.2 h0, ?_⟩
                    have := h.blk.cell 2
                    rw [hv, ha] at this
                    exact this
                  exact .inr ⟨q1, cur, ha, h1, h2, hb.farc hne u, hc⟩
            · refine .inr ⟨q', e, hq', ho, hr.1, ?_⟩
              rcases hr.2 with h0 | ⟨g', cap, cur, rfl, h1, h2, h3', h4', h5, h6⟩
              · exact .inl h0
              · have : g' = q' := by simpa [Value.ownBlock] using ho
                subst this
                exact .inr ⟨g', cap, cur, rfl, h1, Blk.farc h2 (fun e2 => h3 (by rw [e, e2])) u, h3', h4', h5, h6⟩
          map := map_heap h.map (Below.heap_setCell w ⟨q, i, none⟩ u mb hmq)
          g1 := h.g1
          g2 := h.g2
          mb1 := h.mb1
          mb2 := h.mb2
          hS := by rw [hsz]; exact h.hS
          len := h.len
          up := h.up
          lt := h.lt
          tie := fun i' t m a b => by
            obtain ⟨x, c, e, r⟩ := h.tie i' t m a b
            exact ⟨x, c, e, r.kept fun q1 cur _ _ hb => hb.farc (Blk.ne_ hb hq (by decide)) u⟩ }
end

/-- A call that writes to the net at g: what it comes to. -/
def NetTo (B g mb : Nat) (rs : Option Nat) (n : Nt) (w w' : World) : Prop := ∃ rs', NetAt B w'.heap.size g mb rs' n w' ∧ Turn g mb rs w w' ∧ (∀ q, rs' = some q → rs = some q ∨ w.heap.size ≤ q) ∧ (rs' = none → g < w.heap.size → ∀ q, RowIn g w' q → RowIn g w q ∨ w.heap.size ≤ q)
end Go.Proofs.Ytbibbndjnlnbiaa
