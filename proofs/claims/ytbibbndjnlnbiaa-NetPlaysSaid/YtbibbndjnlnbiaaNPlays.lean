/-
  consistorylaw28.NetPlays: what the walk stands on.
  consistorylaw28.NetPlays: the walk.
-/
import Derived.Test.YtbibbndjnlnbiaaR28D
import Derived.Test.YtbibbndjnlnbiaaAlone
namespace Go.Proofs.Ytbibbndjnlnbiaa
open Go.RowKit Go.Maps

theorem opTo_no {P : Program} {ops : Array Oper} {o : Oper} {a : Act} {w : World} {K : Value → World → Prop} (hw : Region.wanted o (yielded ops a.tmps) = false) (h : K undef w) : OpTo P ops o a w K := by
  unfold OpTo
  rw [if_neg (by simp [hw])]
  exact h
section
variable {X : Nat → Prop} {B S g mb x p : Nat} {rs : Option Nat} {n n1 n2 : Nt} {w0 w w' : World}
theorem RefAt.turn (h : RefAt X B x n w) (N : NetAt B S g mb rs n1 w) (T : Turn g mb rs w w') : RefAt X B x n w' :=
  h.grow (fun _ hb => T.blk N hb (by decide) (by decide)) (fun _ _ hb => T.blk N hb (by decide) (by decide)) (fun _ _ _ hb => T.blk N hb (by decide) (by decide))
theorem RefAt.lower {B' : Nat} (h : RefAt X B x n w) (hB : B' ≤ B) : RefAt X B' x n w := ⟨Nat.le_trans hB h.1, h.2⟩
theorem RefAt.free (h : RefAt X B x n w) : RefAt (fun _ => False) B x n w := h.less fun _ _ f => f.elim
/-- Both nets, between two steps. -/
structure PS (w0 : World) (g mb x : Nat) (n : Nt) (w : World) : Prop where
  net : ∃ rs, NetAt w0.heap.size w.heap.size g mb rs n w
  ref : RefAt (fun _ => False) w0.heap.size x n w
  bel : Below w0.heap.size w0 w
theorem PS.kept (h : PS w0 g mb x n w) (b : Below w.heap.size w w') : PS w0 g mb x n w' :=
  ⟨h.net.elim fun rs hN => ⟨rs, (hN.kept b).top⟩, h.ref.kept b, step_below h.bel b⟩
/-- What a call of the net leaves. -/
theorem PS.turned (N : NetAt w0.heap.size S g mb rs n w) (R : RefAt (fun _ => False) w0.heap.size x n2 w) (b : Below w0.heap.size w0 w) (T : NetTo w0.heap.size g mb rs n1 w w') : (∃ rs, NetAt w0.heap.size w'.heap.size g mb rs n1 w') ∧ RefAt (fun _ => False) w0.heap.size x n2 w' ∧ Below w0.heap.size w0 w' := by
  obtain ⟨rs', N', T, _⟩ := T
  exact ⟨⟨rs', N'⟩, R.turn N T, T.below b b.size N.g1 N.mb1 N.rs1⟩
/-- What a call of the document's net leaves. -/
theorem net_only (N : ∃ rs, NetAt w0.heap.size w.heap.size g mb rs n w) (R : RefAt X w0.heap.size x n1 w) (o : Only w w' x) : ∃ rs, NetAt w0.heap.size w'.heap.size g mb rs n w' := by
  obtain ⟨rs, N⟩ := N
  obtain ⟨hB, a, c, hb, _⟩ := R
  exact ⟨rs, (N.only o hb (by decide) (by decide) (by decide)).more (Nat.le_refl _) o.size (Nat.le_refl _)⟩
theorem only_below (R : RefAt X w0.heap.size x n1 w) (b : Below w0.heap.size w0 w) (o : Only w w' x) : Below w0.heap.size w0 w' := below_only b o R.1 b.size
theorem only_blk {q : Nat} {t : TypeId} {cs : Array Value} (R : RefAt X B x n1 w) (o : Only w w' x) (h : Blk w q t cs) (ht : t ≠ 58) : Blk w' q t cs := by
  obtain ⟨hB, a, c, hb, _⟩ := R
  exact h.grown o (some_ne (Blk.ne_ h hb ht))
theorem to_le (n : Nt) (node : Int) : (n.to node).length ≤ n.l.length := tos_length_le n.l 0 node
/-- In a region with two calls: the net's, at i, and the document's, at k. -/
structure QD (w0 : World) (g mb x G : Nat) (n n' : Nt) (s : Stp) (la : Option Addr) (lc : Nat) (i k : Nat) (L : Nat → Bool) (w : World) : Prop where
  net0 : L i = false → ∃ rs, NetAt w0.heap.size w.heap.size g mb rs n w
  net1 : L i = true → ∃ rs, NetAt w0.heap.size w.heap.size g mb rs n' w
  ref0 : L k = false → RefAt (fun _ => False) w0.heap.size x n w
  ref1 : L k = true → RefAt (fun _ => False) w0.heap.size x n' w
  box : Blk w G 36 (s.cells la lc)
  bel : Below w0.heap.size w0 w
  c : L k = true → L i = true
section
variable {G i k : Nat} {n' : Nt} {s : Stp} {la : Option Addr} {lc : Nat} {L : Nat → Bool}
theorem QD.same (h : QD w0 g mb x G n n' s la lc i k L w) (t : Nat) (hi : i ≠ t) (hk : k ≠ t) : QD w0 g mb x G n n' s la lc i k (fun j => j == t || L j) w := by
  have e1 : (i == t || L i) = L i := by simp [hi]
  have e2 : (k == t || L k) = L k := by simp [hk]
  exact ⟨fun h0 => h.net0 (e1 ▸ h0), fun h0 => h.net1 (e1 ▸ h0), fun h0 => h.ref0 (e2 ▸ h0), fun h0 => h.ref1 (e2 ▸ h0), h.box, h.bel, fun h0 => e1.trans (h.c (e2 ▸ h0))⟩
theorem QD.call (h : QD w0 g mb x G n n' s la lc i k L w) (hi : L i = false) (hik : k ≠ i) {rs : Option Nat} (N : NetAt w0.heap.size w.heap.size g mb rs n w) (T : NetTo w0.heap.size g mb rs n' w w') : QD w0 g mb x G n n' s la lc i k (fun j => j == i || L j) w' := by
  have hk : L k = false := by
    cases e : L k with
    | false => rfl
    | true => rw [h.c e] at hi; cases hi
  obtain ⟨h1, h2, h3⟩ := PS.turned N (h.ref0 hk) h.bel T
  obtain ⟨rs', -, T, -⟩ := T
  exact ⟨fun h0 => by simp at h0, fun _ => h1, fun _ => h2, fun h0 => by simp [hk, hik] at h0, T.blk N h.box (by decide) (by decide), h3, fun _ => by simp⟩
theorem QD.ref (h : QD w0 g mb x G n n' s la lc i k L w) (hi : L i = true) (hk : L k = false) (R : RefAt (fun _ => False) w0.heap.size x n' w') (o : Only w w' x) : QD w0 g mb x G n n' s la lc i k (fun j => j == k || L j) w' := by
  have r := h.ref0 hk
  exact ⟨fun h0 => by simp [hi] at h0, fun _ => net_only (h.net1 hi) r o, fun h0 => by simp at h0, fun _ => R, only_blk r o h.box (by decide), only_below r h.bel o, fun _ => by simp [hi]⟩
end
/-- Where a message is sent: p is the block of its numbers, which the law writes over. -/
structure QS (w0 : World) (g mb x G G13 p lo : Nat) (n : Nt) (s : Stp) (la : Option Addr) (lc cap : Nat) (cs : Array Value) (L : Nat → Bool) (w : World) : Prop where
  net0 : L 2 = false → NetAt w0.heap.size lo g mb none n w
  net1 : L 2 = true → NetOff w0.heap.size g mb (n.send s.m) w p
  ref0 : L 6 = false → RefAt (fun q => q = p) w0.heap.size x n w
  ref1 : L 6 = true → RefAt (fun q => q = p) w0.heap.size x (n.send s.m) w
  box : Blk w G 36 (s.cells la lc)
  b13 : Blk w G13 32 (s.m.cells (some ⟨p, 0, none⟩) cap)
  nums : Blk w p 56 cs
  bel : Below w0.heap.size w0 w
  c : L 6 = true → L 2 = true
section
variable {G G13 lo cap : Nat} {s : Stp} {la : Option Addr} {lc : Nat} {L : Nat → Bool} {cs : Array Value}
theorem QS.same (h : QS w0 g mb x G G13 p lo n s la lc cap cs L w) (t : Nat) (h2 : 2 ≠ t) (h6 : 6 ≠ t) : QS w0 g mb x G G13 p lo n s la lc cap cs (fun j => j == t || L j) w := by
  have e1 : (2 == t || L 2) = L 2 := by simp [h2]
  have e2 : (6 == t || L 6) = L 6 := by simp [h6]
  exact ⟨fun h0 => h.net0 (e1 ▸ h0), fun h0 => h.net1 (e1 ▸ h0), fun h0 => h.ref0 (e2 ▸ h0), fun h0 => h.ref1 (e2 ▸ h0), h.box, h.b13, h.nums, h.bel, fun h0 => e1.trans (h.c (e2 ▸ h0))⟩
theorem QS.call (h : QS w0 g mb x G G13 p lo n s la lc cap cs L w) (hi : L 2 = false) (hp : lo ≤ p) (T : NetTo w0.heap.size g mb none (n.send s.m) w w') (off : ∀ p, lo ≤ p → p < w.heap.size → NetOff w0.heap.size g mb (n.send s.m) w' p) : QS w0 g mb x G G13 p lo n s la lc cap cs (fun j => j == 2 || L j) w' := by
  have hk : L 6 = false := by
    cases e : L 6 with
    | false => rfl
    | true => rw [h.c e] at hi; cases hi
  have N := h.net0 hi
  obtain ⟨rs', -, T, -⟩ := T
  exact ⟨fun h0 => by simp at h0, fun _ => off p hp h.nums.lt, fun _ => (h.ref0 hk).turn N T, fun h0 => by simp [hk] at h0, T.blk N h.box (by decide) (by decide), T.blk N h.b13 (by decide) (by decide), T.blk N h.nums (by decide) (by decide), T.below h.bel h.bel.size N.g1 N.mb1 N.rs1, fun _ => by simp⟩
theorem QS.ref (h : QS w0 g mb x G G13 p lo n s la lc cap cs L w) (hi : L 2 = true) (hk : L 6 = false) (R : RefAt (fun q => q = p) w0.heap.size x (n.send s.m) w') (o : Only w w' x) : QS w0 g mb x G G13 p lo n s la lc cap cs (fun j => j == 6 || L j) w' := by
  have r := h.ref0 hk
  have hb : ∃ c2, Blk w x 58 c2 := r.elim fun _ y => y.elim fun a y => y.elim fun c y => ⟨_, y.1⟩
  obtain ⟨c2, hb⟩ := hb
  exact ⟨fun h0 => by simp [hi] at h0, fun _ => (h.net1 hi).only o hb (by decide) (by decide) (by decide), fun h0 => by simp at h0, fun _ => R, only_blk r o h.box (by decide), only_blk r o h.b13 (by decide), only_blk r o h.nums (by decide), only_below r h.bel o, fun _ => by simp [hi]⟩
end
/-- Behind a step. -/
def PMid (w0 : World) (g mb x G : Nat) (K : Nat) (s : Stp) (la : Option Addr) (lc : Nat) (w : World) : Prop := ∃ n, n.Ok K ∧ PS w0 g mb x n w ∧ Blk w G 36 (s.cells la lc)
/-- While a message that was told is looked at. -/
structure PB (wr : World) (G : Nat) (m : Mg) (a : Option Addr) (c : Nat) (w : World) : Prop where
  bel : Below wr.heap.size wr w
  box : Blk w G 32 (m.cells a c)
  nums : Nums .u64 w w.heap.size a m.l
  wr : Wr wr.heap.size a m.l.length w
theorem PB.kept {wr : World} {G : Nat} {m : Mg} {a : Option Addr} {c : Nat} (h : PB wr G m a c w) (b : Below w.heap.size w w') : PB wr G m a c w' := ⟨step_below h.bel b, h.box.kept b, nums_step h.nums b, h.wr.kept b⟩
theorem nt_last {n : Nt} {k : Int} (h : n.is k = true) : ∃ j : Nat, k = j ∧ n.l[j]? = some (n.msg k) := by
  obtain ⟨j, rfl⟩ := Int.eq_ofNat_of_zero_le (Nt.is_iff.1 h).1
  have := Nt.msg_at h
  rw [Int.toNat_natCast] at this
  exact ⟨j, rfl, this⟩
end
end Go.Proofs.Ytbibbndjnlnbiaa
namespace Go.Proofs.Ytbibbndjnlnbiaa
open Go.RowKit Go.Maps

/-- What each operation comes to: the losing, the doubling. -/
def dval (g x G : Nat) (s : Stp) (v : Int) : Nat → Value
  | 0 => .pointer (some ⟨g, 0, none⟩)
  | 1 => .pointer (some ⟨G, 12, none⟩)
  | 2 => .int .i64 s.pl
  | 3 => .int .i64 v
  | 4 => .pointer (some ⟨x, 0, none⟩)
  | 5 => .pointer (some ⟨G, 12, none⟩)
  | 6 => .int .i64 s.pl
  | 7 => .int .i64 v
  | 8 => .bool true
  | _ => .bool true
/-- Ahead of the step: the other net has gone its way. -/
structure PA (w0 : World) (g mb x G lo j : Nat) (n : Nt) (s : Stp) (la : Option Addr) (lc : Nat) (w : World) : Prop where
  ok : n.Ok j
  net : NetAt w0.heap.size lo g mb none n w
  ref : RefAt (fun _ => False) w0.heap.size x n w
  bel : Below w0.heap.size w0 w
  box : Blk w G 36 (s.cells la lc)
theorem PA.start {w0 w : World} {g mb x G lo j : Nat} {n n2 : Nt} {s : Stp} {la : Option Addr} {lc : Nat} (h : PA w0 g mb x G lo j n s la lc w) : QD w0 g mb x G n n2 s la lc 3 7 (fun _ => false) w.drew :=
  ⟨fun _ => ⟨none, h.net.drew.top⟩, (fun h0 => by cases h0), fun _ => h.ref.drew, (fun h0 => by cases h0), Blk.drew h.box, h.bel.drew, (fun h0 => by cases h0)⟩

def sval (g x G p cap : Nat) (s : Stp) (la : Option Addr) (lc : Nat) (n : Nt) : Nat → Value
  | 0 => .pointer (some ⟨g, 0, none⟩)
  | 1 => .agg #[.int .u8 s.m.k, .int .i64 s.m.fr, .int .i64 s.m.to, .int .i64 s.m.ht, .int .i64 s.m.rd, .int .i64 s.m.vl, .int .i64 s.m.ep, .int .i64 s.m.dl, .int .i64 s.m.id, .string ⟨s.m.s.toArray⟩, .slice (some ⟨p, 0, none⟩) s.m.l.length cap]
  | 2 => .bool (n.sent s.m)
  | 3 => .pointer (some ⟨x, 0, none⟩)
  | 4 => .pointer (some ⟨G, 1, none⟩)
  | 5 => .agg #[.int .u8 s.m.k, .int .i64 s.m.fr, .int .i64 s.m.to, .int .i64 s.m.ht, .int .i64 s.m.rd, .int .i64 s.m.vl, .int .i64 s.m.ep, .int .i64 s.m.dl, .int .i64 s.m.id, .string ⟨s.m.s.toArray⟩, .slice la s.m.l.length lc]
  | 6 => .bool (n.sent s.m)
  | 7 => .bool true
  | _ => .bool true
/-- What the own numbers of the message that is sent are. -/
theorem own_block {w : World} {base p n cap : Nat} {xs : List Int} (h : w.ownsRow base 56 1 (.slice (some ⟨p, 0, none⟩) n cap) n (xs.map (.int .u64))) (hn : xs.length = n) : base ≤ p ∧ ∃ cs, Blk w p 56 cs ∧ n ≤ cs.size ∧ ∀ (i : Nat) y, xs[i]? = some y → cs[i]? = some (.int .u64 y) := by
  rcases h.2 with ⟨e1, e2⟩ | ⟨q, cap', cur, e1, h1, h2, h3, h4, h5, h6⟩
  · cases e1
  · injection e1 with ea en ec
    injection ea with ea
    injection ea with ea
    subst ea
    refine ⟨h1, cur, h2, by omega, fun i y hy => ?_⟩
    have hi : i < xs.length := (List.getElem?_eq_some_iff.1 hy).1
    have e : (cur.toList.take (n * 1))[i]? = some (.int .u64 y) := by rw [h6]; simp [hy]
    rw [List.getElem?_take_of_lt (by omega), Array.getElem?_toList] at e
    exact e
theorem blk_nums {w : World} {p : Nat} {cs : Array Value} {xs : List Int} (h : Blk w p 56 cs) (hc : ∀ (i : Nat) y, xs[i]? = some y → cs[i]? = some (.int .u64 y)) : Nums .u64 w w.heap.size (some ⟨p, 0, none⟩) xs :=
  .inr ⟨p, 0, rfl, h.lt, fun i y hy => by rw [Nat.zero_add, h.cell i]; exact hc i y hy⟩
theorem blk_row {w : World} {p : Nat} {cs : Array Value} {xs : List Int} (h : Blk w p 56 cs) (hc : ∀ (i : Nat) y, xs[i]? = some y → cs[i]? = some (.int .u64 y)) : Row .u64 56 0 w.heap.size w (some ⟨p, 0, none⟩) xs :=
  .inr ⟨p, cs, rfl, Nat.zero_le _, h.lt, h, hc⟩

/-- What each operation comes to, where the nets are compared. -/
def cval (g x G : Nat) (n2 : Nt) (s : Stp) (i : Nat) (v : Value) (w : World) : Prop := match i with
  | 0 => v = .bool true
  | 1 => v = .bool false
  | 2 => v = .bool false
  | 3 => v = .pointer (some ⟨g, 0, none⟩)
  | 4 => v = .int .i64 (n2.l.length : Int)
  | 5 => v = .pointer (some ⟨x, 0, none⟩)
  | 6 => v = .pointer (some ⟨x, 0, none⟩)
  | 7 => v = .pointer (some ⟨x, 1, none⟩)
  | 8 => ∃ ad cp, v = .slice ad n2.l.length cp
  | 9 => v = .int .i64 (n2.l.length : Int)
  | 10 => v = .bool false
  | 11 => v = .bool false
  | 12 => v = .bool false
  | 13 => v = .pointer (some ⟨g, 0, none⟩)
  | 14 => v = .int .i64 n2.out
  | 15 => v = .pointer (some ⟨x, 0, none⟩)
  | 16 => v = .pointer (some ⟨x, 0, none⟩)
  | 17 => v = .pointer (some ⟨x, 2, none⟩)
  | 18 => v = .int .i64 n2.out
  | 19 => v = .bool false
  | 20 => v = .bool false
  | 21 => v = .bool false
  | 22 => v = .pointer (some ⟨g, 0, none⟩)
  | 23 => v = .pointer (some ⟨G, 1, none⟩)
  | 24 => v = .pointer (some ⟨G, 3, none⟩)
  | 25 => v = .int .i64 s.m.to
  | 26 => ∃ a c, v = .slice a (n2.to s.m.to).length c ∧ Nums .i64 w w.heap.size a (n2.to s.m.to)
  | 27 => v = .pointer (some ⟨x, 0, none⟩)
  | 28 => v = .pointer (some ⟨G, 1, none⟩)
  | 29 => v = .pointer (some ⟨G, 3, none⟩)
  | 30 => v = .int .i64 s.m.to
  | 31 => ∃ a c, v = .slice a (n2.to s.m.to).length c ∧ Nums .i64 w w.heap.size a (n2.to s.m.to)
  | 32 => v = .bool true
  | 33 => v = .bool false
  | 34 => v = .bool false
  | _ => True
theorem cval.kept {g x G : Nat} {n2 : Nt} {s : Stp} {i : Nat} {v : Value} {w w' : World} (h : cval g x G n2 s i v w) (b : Below w.heap.size w w') : cval g x G n2 s i v w' := by
  unfold cval at h ⊢
  split at h <;> first | exact h | exact h.elim fun a y => y.elim fun c y => ⟨a, c, y.1, (y.2.kept b (Nat.le_refl _)).more b.size⟩
theorem same_place' {w w1 : World} {q o : Nat} {t : MT} (h : MsgAt w q o t) (b : Below w.heap.size w w1) : MsgAt w1 q o t := by
  obtain ⟨f0, f1, f2, f3, f4, f5, f6, f7, f8, f9, f10⟩ := h
  exact ⟨cell_keep f0 b, cell_keep f1 b, cell_keep f2 b, cell_keep f3 b, cell_keep f4 b, cell_keep f5 b, cell_keep f6 b, cell_keep f7 b, cell_keep f8 b, cell_keep f9 b, cell_keep f10 b⟩
def rvalA (x q i cp : Nat) (n2 : Nt) (m : Mg) (a5 a6 : Option Addr) (c5 c6 : Nat) (i' : Nat) (v : Value) : Prop := match i' with
  | 0 => v = .bool true
  | 1 => v = .int .i64 (i : Int)
  | 2 => v = .bool true
  | 3 => v = .bool true
  | 4 => v = .int .i64 (i : Int)
  | 5 => v = .pointer (some ⟨x, 0, none⟩)
  | 6 => v = .pointer (some ⟨x, 0, none⟩)
  | 7 => v = .pointer (some ⟨x, 1, none⟩)
  | 8 => v = .slice (some ⟨q, 0, none⟩) n2.l.length cp
  | 9 => v = .int .i64 (n2.l.length : Int)
  | 10 => v = .bool true
  | 11 => v = .bool true
  | 12 => v = .bool false
  | 13 => v = .bool false
  | 14 => v = .bool true
  | 15 => v = .bool true
  | 16 => v = .agg #[.int .u8 m.k, .int .i64 m.fr, .int .i64 m.to, .int .i64 m.ht, .int .i64 m.rd, .int .i64 m.vl, .int .i64 m.ep, .int .i64 m.dl, .int .i64 m.id, .string ⟨m.s.toArray⟩, .slice a5 m.l.length c5]
  | 17 => v = .pointer (some ⟨x, 0, none⟩)
  | 18 => v = .pointer (some ⟨x, 0, none⟩)
  | 19 => v = .pointer (some ⟨x, 1, none⟩)
  | 20 => v = .slice (some ⟨q, 0, none⟩) n2.l.length cp
  | 21 => v = .int .i64 (i : Int)
  | 22 => v = .pointer (some ⟨q, i * 11, none⟩)
  | 23 => v = .agg #[.int .u8 m.k, .int .i64 m.fr, .int .i64 m.to, .int .i64 m.ht, .int .i64 m.rd, .int .i64 m.vl, .int .i64 m.ep, .int .i64 m.dl, .int .i64 m.id, .string ⟨m.s.toArray⟩, .slice a6 m.l.length c6]
  | 24 => v = .bool true
  | 25 => v = .bool false
  | 26 => v = .bool false
  | 27 => v = .bool false
  | 28 => v = .bool false
  | 29 => v = .bool true
  | 30 => v = .bool false
  | 31 => v = .bool false
  | 36 => v = .bool false
  | 37 => v = .bool false
  | _ => True
def rvalB (a5 : Option Addr) (c5 : Nat) (i' : Nat) (v : Value) : Prop := match i' with
  | 0 => v = .bool false
  | 1 => v = .int .i64 (-1)
  | 2 => v = .bool false
  | 3 => v = .bool false
  | 11 => v = .bool false
  | 12 => v = .bool false
  | 13 => v = .bool false
  | 14 => v = .bool false
  | 15 => v = .bool false
  | 26 => v = .bool false
  | 27 => v = .bool false
  | 28 => v = .bool false
  | 29 => v = .bool false
  | 30 => v = .bool true
  | 31 => v = .bool true
  | 32 => v = .agg #[.int .u8 Mg.zero.k, .int .i64 Mg.zero.fr, .int .i64 Mg.zero.to, .int .i64 Mg.zero.ht, .int .i64 Mg.zero.rd, .int .i64 Mg.zero.vl, .int .i64 Mg.zero.ep, .int .i64 Mg.zero.dl, .int .i64 Mg.zero.id, .string ⟨Mg.zero.s.toArray⟩, .slice a5 Mg.zero.l.length c5]
  | 33 => v = .agg #[.int .u8 0, .int .i64 0, .int .i64 0, .int .i64 0, .int .i64 0, .int .i64 0, .int .i64 0, .int .i64 0, .int .i64 0, .string ⟨#[]⟩, .slice none 0 0]
  | 34 => v = .bool true
  | 35 => v = .bool false
  | 36 => v = .bool false
  | 37 => v = .bool false
  | _ => True
def rvalC (x : Nat) (n2 : Nt) (a5 : Option Addr) (c5 : Nat) (i' : Nat) (v : Value) : Prop := match i' with
  | 0 => v = .bool false
  | 1 => v = .int .i64 (n2.l.length : Int)
  | 2 => v = .bool true
  | 3 => v = .bool true
  | 4 => v = .int .i64 (n2.l.length : Int)
  | 5 => v = .pointer (some ⟨x, 0, none⟩)
  | 6 => v = .pointer (some ⟨x, 0, none⟩)
  | 7 => v = .pointer (some ⟨x, 1, none⟩)
  | 8 => ∃ ad cp, v = .slice ad n2.l.length cp
  | 9 => v = .int .i64 (n2.l.length : Int)
  | 10 => v = .bool false
  | 11 => v = .bool false
  | 12 => v = .bool false
  | 13 => v = .bool false
  | 14 => v = .bool false
  | 15 => v = .bool false
  | 26 => v = .bool false
  | 27 => v = .bool false
  | 28 => v = .bool false
  | 29 => v = .bool false
  | 30 => v = .bool true
  | 31 => v = .bool true
  | 32 => v = .agg #[.int .u8 Mg.zero.k, .int .i64 Mg.zero.fr, .int .i64 Mg.zero.to, .int .i64 Mg.zero.ht, .int .i64 Mg.zero.rd, .int .i64 Mg.zero.vl, .int .i64 Mg.zero.ep, .int .i64 Mg.zero.dl, .int .i64 Mg.zero.id, .string ⟨Mg.zero.s.toArray⟩, .slice a5 Mg.zero.l.length c5]
  | 33 => v = .agg #[.int .u8 0, .int .i64 0, .int .i64 0, .int .i64 0, .int .i64 0, .int .i64 0, .int .i64 0, .int .i64 0, .int .i64 0, .string ⟨#[]⟩, .slice none 0 0]
  | 34 => v = .bool true
  | 35 => v = .bool false
  | 36 => v = .bool false
  | 37 => v = .bool false
  | _ => True
set_option maxRecDepth 100000 in
set_option maxHeartbeats 8000000 in
theorem nplays_any (most : Int) (a : Option Addr) (c : Nat) (l : List Stp) (w : World) (hl9 : l.length ≤ 9223372036854775807) (hf : ∀ s ∈ l, SFit s) (hS : Steps w w.heap.size a l) :
    Calls Try.prog 7 #[.int .i64 most, .slice a l.length c] w (TruePost w) := by
  go_enter Try.func7, Try.ntmps7
  go_wp2_with fail
  refine (long28_any a c l w hS hf hl9).mono ?_
  rintro e w1 ⟨y, rfl, hy, b1⟩
  cases y with
  | true =>
    clear hy
    go_wp2_with fail
    go_ret
    exact ⟨rfl, b1⟩
  | false =>
    have htot := hy rfl
    clear hy
    have hll : 30 * l.length ≤ 9000 := by have := tot28_le l; omega
    go_wp2_with fail
    by_cases hm : 1 ≤ most ∧ most ≤ 4096
    · refine (new_yes most w1 hm.1 hm.2).mono ?_
      rintro e w2 ⟨g, mb, rfl, N2, b2⟩
      have HR := Lib.hid (rnew_yes most w2 hm.1 hm.2)
      go_wp2_with fail
      refine (Calls.mono HR.out ?_)
      rintro e w3 ⟨x, rfl, R3, b3⟩
      have P3 : PS w g mb x (Nt.new most) w3 := ⟨⟨none, ((N2.kept b3).top).more b1.size (Nat.le_refl _) (Nat.le_refl _)⟩, R3.lower (step_below b1 b2).size, step_below (step_below b1 b2) b3⟩
      have HO := Lib.hid (Nt.new_ok hm.1 hm.2)
      have H3 := Lib.hid P3
      clear HR N2 R3 P3 b1 b2 b3 hm
      go_wp2_with fail
      go_loopw [9] (fun v wr => ∃ (j : Nat) (n : Nt), j ≤ l.length ∧ v = .int .i64 j ∧ n.Ok j ∧ PS w g mb x n wr) (fun v _ => l.length - (intOf v).toNat)
      case atStart => exact ⟨0, Nt.new most, Nat.zero_le _, rfl, HO.out, H3.out⟩
      case round =>
        obtain ⟨j, n, hj, rfl, ok, hP⟩ := hrel
        clear H3 HO
        by_cases hlt : j < l.length
        · obtain ⟨s, hs⟩ : ∃ s, l[j]? = some s := ⟨_, List.getElem?_eq_getElem hlt⟩
          rcases hS with h0 | ⟨b, o, rfl, hb, hc⟩
          · rw [h0] at hlt; simp at hlt
          obtain ⟨la, lc, hnums, u0, u1, u2, u3, u4, u5, u6, u7, u8, u9, u10, u11, u12⟩ := hc j s hs
          have hkc : ∀ i, wr.cell? ⟨b, i, none⟩ = w.cell? ⟨b, i, none⟩ := fun i => hP.bel.cell (p := ⟨b, i, none⟩) hb
          rw [← hkc] at u0 u1 u2 u3 u4 u5 u6 u7 u8 u9 u10 u11 u12
          have hsf := hf s (List.mem_of_getElem? hs)
          have hjI : (j : Int) < (l.length : Int) := by omega
          have hK : j ≤ 1000000 := by omega
          have hsl : s.m.l.length ≤ 9000 := by
            have := tot28_mem (List.mem_of_getElem? hs)
            omega
          have al : Below wr.heap.size wr (wr.alloc (.cells (s.cells la lc) 36)) := (Below.refl _ wr).alloc (Nat.le_refl _) _
          have P1 := hP.kept al
          have K1 := Blk.new wr 36 (s.cells la lc)
          obtain ⟨w1, hw1⟩ : ∃ w1, w1 = wr.alloc (.cells (s.cells la lc) 36) := ⟨_, rfl⟩
          rw [← hw1] at P1 K1
          unfold Stp.cells at hw1
          have HW := Lib.hid hw1
          have HN := Lib.hid hnums
          have HOK := Lib.hid ok
          have H1 := Lib.hid (And.intro P1 K1)
          clear hw1 P1 K1 al hP hnums hkc hs hc ok
          go_upto_region 11 with fail
          rw [← HW.out]
          clear HW u0 u1 u2 u3 u4 u5 u6 u7 u8 u9 u10 u11 u12
          generalize wr.heap.size = G at *
          obtain ⟨P1, K1⟩ := H1.out
          obtain ⟨rs, N1⟩ := P1.net
          have HC := Lib.hid (copy_any w1 N1 HOK.out)
          have H1 := Lib.hid (And.intro P1 (And.intro K1 N1))
          clear P1 K1 N1
          go_wp2_with fail
          refine (Calls.mono HC.out ?_)
          rintro e w2 ⟨C, mc, rfl, N2, C2, hC, hmc, T2⟩
          obtain ⟨P1, K1, N1⟩ := H1.out
          have K2 := T2.blk N1 K1 (by decide) (by decide)
          have R2 := P1.ref.turn N1 T2
          have B2 := T2.below P1.bel P1.bel.size N1.g1 N1.mb1 N1.rs1
          have hL := P1.bel.size
          have HC := Lib.hid (send_any s.m la lc w2 C2 HOK.out hK hsf.m.ok (.inr (HN.out.kept B2 (Nat.le_refl _))))
          have t1 : w2.cell? ⟨G, 1, none⟩ = some (.int .u8 s.m.k) := K2.cell 1
          have t2 : w2.cell? ⟨G, 2, none⟩ = some (.int .i64 s.m.fr) := K2.cell 2
          have t3 : w2.cell? ⟨G, 3, none⟩ = some (.int .i64 s.m.to) := K2.cell 3
          have t4 : w2.cell? ⟨G, 4, none⟩ = some (.int .i64 s.m.ht) := K2.cell 4
          have t5 : w2.cell? ⟨G, 5, none⟩ = some (.int .i64 s.m.rd) := K2.cell 5
          have t6 : w2.cell? ⟨G, 6, none⟩ = some (.int .i64 s.m.vl) := K2.cell 6
          have t7 : w2.cell? ⟨G, 7, none⟩ = some (.int .i64 s.m.ep) := K2.cell 7
          have t8 : w2.cell? ⟨G, 8, none⟩ = some (.int .i64 s.m.dl) := K2.cell 8
          have t9 : w2.cell? ⟨G, 9, none⟩ = some (.int .i64 s.m.id) := K2.cell 9
          have t10 : w2.cell? ⟨G, 10, none⟩ = some (.string ⟨s.m.s.toArray⟩) := K2.cell 10
          have t11 : w2.cell? ⟨G, 11, none⟩ = some (.slice la s.m.l.length lc) := K2.cell 11
          have H2 := Lib.hid (And.intro N2 (And.intro C2 (And.intro K2 (And.intro R2 B2))))
          have HT2 := T2.size
          generalize w1.heap.size = Lo at *
          clear P1 K1 N1 N2 C2 K2 R2 B2 T2 H1
          go_wp2_with fail
          refine (Calls.mono HC.out ?_)
          rintro e w3 ⟨rfl, rs3, N3, T3, hq3, -⟩
          clear t1 t2 t3 t4 t5 t6 t7 t8 t9 t10 t11
          have HC := Lib.hid (lose_any 0 w3 N3 (Nt.send_ok HOK.out hsf.m.ok) (show j + 1 ≤ 1000000 by omega))
          have H3 := Lib.hid (And.intro N3 (And.intro T3 hq3))
          clear N3 T3 hq3
          go_wp2_with fail
          refine (Calls.mono HC.out ?_)
          rintro e w4 ⟨rfl, rs4, N4, T4, -, -⟩
          have HA : PA w g mb x G Lo j n s la lc w4 := by
            obtain ⟨N2, C2, K2, R2, B2⟩ := H2.out
            obtain ⟨N3, T3, hq3⟩ := H3.out
            have b23 : Below Lo w2 w3 := T3.below (Below.refl Lo w2) HT2 hC hmc (fun q e => by cases e)
            have b24 : Below Lo w2 w4 := T4.below b23 (Nat.le_trans HT2 b23.size) hC hmc (fun q e => by rcases hq3 q e with h | h; cases h; exact Nat.le_trans HT2 h)
            exact ⟨HOK.out, N2.below b24, (R2.turn C2 T3).turn N3 T4, B2.trans (b24.mono hL), T4.blk N3 (T3.blk C2 K2 (by decide) (by decide)) (by decide) (by decide)⟩
          have HP := Lib.hid HA
          have t0 : w4.cell? ⟨G, 0, none⟩ = some (.int .u8 s.kind) := HA.box.cell 0
          clear HA H2 H3 HC N4 T4
          go_upto_block 2 with fail
          go_cut [12, 13, 14, 15, 16, 17, 18] from 69 to 141 (fun v12 v13 v14 v15 v16 v17 v18 wx => v12 = .bool true ∧ PMid w g mb x G (j + 1) s la lc wx)
          case first =>
            by_cases k0 : s.kind = 0
            · have e0 : (s.kind == 0) = true := by simpa using k0
              clear k0
              as_aux_lemma =>
                have t1 : w4.cell? ⟨G, 1, none⟩ = some (.int .u8 s.m.k) := HP.out.box.cell 1
                have t2 : w4.cell? ⟨G, 2, none⟩ = some (.int .i64 s.m.fr) := HP.out.box.cell 2
                have t3 : w4.cell? ⟨G, 3, none⟩ = some (.int .i64 s.m.to) := HP.out.box.cell 3
                have t4 : w4.cell? ⟨G, 4, none⟩ = some (.int .i64 s.m.ht) := HP.out.box.cell 4
                have t5 : w4.cell? ⟨G, 5, none⟩ = some (.int .i64 s.m.rd) := HP.out.box.cell 5
                have t6 : w4.cell? ⟨G, 6, none⟩ = some (.int .i64 s.m.vl) := HP.out.box.cell 6
                have t7 : w4.cell? ⟨G, 7, none⟩ = some (.int .i64 s.m.ep) := HP.out.box.cell 7
                have t8 : w4.cell? ⟨G, 8, none⟩ = some (.int .i64 s.m.dl) := HP.out.box.cell 8
                have t9 : w4.cell? ⟨G, 9, none⟩ = some (.int .i64 s.m.id) := HP.out.box.cell 9
                have t10 : w4.cell? ⟨G, 10, none⟩ = some (.string ⟨s.m.s.toArray⟩) := HP.out.box.cell 10
                have t11 : w4.cell? ⟨G, 11, none⟩ = some (.slice la s.m.l.length lc) := HP.out.box.cell 11
                have al : Below w4.heap.size w4 (boxed w4 s.m la lc) := boxed_below (Below.refl _ w4) (Nat.le_refl _) s.m la lc
                have K5 := HP.out.box.kept al
                have M5 := boxed_blk w4 s.m la lc
                have hs5 : (boxed w4 s.m la lc).heap.size = w4.heap.size + 1 := by unfold boxed; simp
                obtain ⟨w5, hw5⟩ : ∃ w5, w5 = boxed w4 s.m la lc := ⟨_, rfl⟩
                rw [← hw5] at al K5 M5 hs5
                unfold boxed at hw5
                have HW := Lib.hid hw5
                have N5 := HN.out.kept (HP.out.bel.trans (al.mono HP.out.bel.size)) (Nat.le_refl _)
                have al6 : Below w5.heap.size w5 (w5.alloc (.cells #[] 56)) := (Below.refl _ w5).alloc (Nat.le_refl _) _
                have own0 : (w5.alloc (.cells #[] 56)).ownsRow w4.heap.size 56 1 (.slice (some ⟨w4.heap.size + 1, 0, none⟩) 0 0) 0 [] := by
                  rw [← hs5]
                  exact World.ownsRow_made w5 #[] 0 al.size (Nat.zero_le _) (by simp)
                obtain ⟨i0, hi, hz0, hz1, hz2⟩ := info_parts infoU64
                have hnw := Nums.news (N5.kept al6 (Nat.le_trans (Nat.le_trans HP.out.bel.size al.size) (Nat.le_refl _)))
                have u11 : (w5.alloc (.cells #[] 56)).cell? ⟨G, 11, none⟩ = some (.slice la s.m.l.length lc) := (K5.kept al6).cell 11
                have HOW := Lib.hid (And.intro own0 (And.intro hnw (And.intro (show (s.m.l.map (Value.int .u64)).length = s.m.l.length * 1 by simp) (And.intro (one_u64 s.m.l) (And.intro (K5.kept al6) (And.intro (M5.kept al6) (step_below al al6)))))))
                clear hw5 K5 M5 N5 own0 hnw al6
                go_upto_region 19 with fail
                rw [← HW.out]
                clear HW t1 t2 t3 t4 t5 t6 t7 t8 t9 t10 t11
                generalize hG13 : w4.heap.size = G13 at *
                go_upto_region 20 with (at_builtin; go_loud (refine wpList_append_gen _ rfl _ _ 30 rfl G13 56 i0 (.int .u64 0) 1 8 Try.underlying30 hi hz0 hz1 hz2 rfl (by decide) (.slice (some ⟨G13 + 1, 0, none⟩) 0 0) 0 [] rfl HOW.out.1 (own_some _ _ _) la s.m.l.length lc (s.m.l.map (.int .u64)) rfl HOW.out.2.2.1 HOW.out.2.1 HOW.out.2.2.2.1 (by simp [maxLen]; omega) (by omega) (by rw [← hG13]; exact HOW.out.2.2.2.2.2.2.size) ?_; intro p cap w6 own6 g6 _; have HG6 := Lib.hid (And.intro own6 g6); have M6 := HOW.out.2.2.2.2.2.1.grown g6 (own_ne' HOW.out.1 HOW.out.2.2.2.2.2.1 (by decide)); have y10 : w6.cell? ⟨G13, 10, none⟩ = some (.slice la s.m.l.length lc) := M6.cell 10; have z10 : w6.frozen? ⟨G13, 10, none⟩ = false := M6.frozen 10; have HM6 := Lib.hid M6; clear own6 g6 M6))
                obtain ⟨own6, g6⟩ := HG6.out
                rw [Nat.zero_add, List.nil_append] at own6
                obtain ⟨hpl, cs, hcs, hcl, hcc⟩ := own_block own6 rfl
                have B6 : Below G13 w4 w6 := (hG13 ▸ HOW.out.2.2.2.2.2.2 : Below G13 w4 _).grown g6 (by rw [← hG13]; exact HOW.out.2.2.2.2.2.2.size) (own_lt HOW.out.1)
                have K6 := HOW.out.2.2.2.2.1.grown g6 (own_ne' HOW.out.1 HOW.out.2.2.2.2.1 (by decide))
                have hG13l : Lo ≤ G13 := by rw [← hG13]; exact HP.out.net.hS
                have W7 : ∃ w7, w7 = w6.setCell ⟨G13, 10, none⟩ (.slice (some ⟨p, 0, none⟩) s.m.l.length cap) := ⟨_, rfl⟩
                obtain ⟨w7, hw7⟩ := W7
                have HQ : QS w g mb x G G13 p Lo n s la lc cap cs (fun _ => false) w7.drew := by
                  have B7 : Below G13 w4 w7 := by rw [hw7]; exact B6.setCell (p := ⟨G13, 10, none⟩) (Nat.le_refl _) _
                  have hGne : G ≠ G13 := Blk.ne_ K6 HM6.out (by decide)
                  refine ⟨fun _ => (HP.out.net.below (B7.mono hG13l)).drew, (fun h0 => by cases h0), fun _ => ?_, (fun h0 => by cases h0), ?_, ?_, ?_, (HP.out.bel.trans (B7.mono (by rw [← hG13]; exact HP.out.bel.size))).drew, (fun h0 => by cases h0)⟩
                  · exact ((HP.out.ref.less (Y := fun q => q = p) (fun q hq e => by subst e; omega)).kept (by rw [hG13]; exact B7)).drew
                  · rw [hw7]; exact Blk.drew (K6.farc hGne _)
                  · rw [hw7]; exact Blk.drew (HM6.out.set_ 10 _)
                  · rw [hw7]; exact Blk.drew (hcs.farc (Blk.ne_ hcs HM6.out (by decide)) _)
                have HO := Lib.hid (Nt.send_ok HP.out.ok hsf.m.ok : (n.send s.m).Ok (j + 1))
                have HX := Lib.hid (And.intro HP.out.ok (And.intro hsf.m.ok (And.intro True.intro (And.intro hcc (Nat.le_trans hG13l hpl)))))
                have HQ := Lib.hid HQ
                have hcapc : s.m.l.length ≤ cs.size := hcl
                have hpb : w.heap.size ≤ p := Nat.le_trans (Nat.le_trans HP.out.bel.size (by rw [hG13]; exact Nat.le_refl _)) hpl
                clear own6 g6 hpl hcs hcc B6 K6 hG13l y10 z10 HM6 HG6 HOW hcl t0 al hs5 u11
                try simp only [Nat.zero_add]
                rw [← hw7]
                clear hw7
                refine' wp_region_invB _ (fun i v' _ => v' = sval g x G p cap s la lc n i) (QS w g mb x G G13 p Lo n s la lc cap cs) (fun _ _ _ => True) ?hA (by kernel_rfl) (by kernel_rfl) (by kernel_rfl) HQ.out (fun _ _ _ _ _ _ _ _ _ _ h _ => h) ?step ?fin
                case hA =>
                  intro vs
                  conv => lhs; simp only [fillL, Act.put, List.setIfInBounds_toArray, List.set_cons_zero, List.set_cons_succ, Nat.reduceAdd]
                  try exact rfl
                case step =>
                  refine StepsA.cons (fun L vs w1 hl hdl hg hd => ?_) ?_
                  · refine opTo_of (by kernel_rfl) (fun K' hK' => ?_)
                    go_simp
                    exact hK'.out (.pointer (some ⟨g, 0, none⟩)) _ _ (by kernel_rfl) ⟨hg.same 0 (by decide) (by decide), trivial, rfl⟩
                  refine StepsA.cons (fun L vs w1 hl hdl hg hd => ?_) ?_
                  · have f0 : w1.cell? ⟨G13, 0, none⟩ = some (.int .u8 s.m.k) := hg.b13.cell 0
                    have f1 : w1.cell? ⟨G13, 1, none⟩ = some (.int .i64 s.m.fr) := hg.b13.cell 1
                    have f2 : w1.cell? ⟨G13, 2, none⟩ = some (.int .i64 s.m.to) := hg.b13.cell 2
                    have f3 : w1.cell? ⟨G13, 3, none⟩ = some (.int .i64 s.m.ht) := hg.b13.cell 3
                    have f4 : w1.cell? ⟨G13, 4, none⟩ = some (.int .i64 s.m.rd) := hg.b13.cell 4
                    have f5 : w1.cell? ⟨G13, 5, none⟩ = some (.int .i64 s.m.vl) := hg.b13.cell 5
                    have f6 : w1.cell? ⟨G13, 6, none⟩ = some (.int .i64 s.m.ep) := hg.b13.cell 6
                    have f7 : w1.cell? ⟨G13, 7, none⟩ = some (.int .i64 s.m.dl) := hg.b13.cell 7
                    have f8 : w1.cell? ⟨G13, 8, none⟩ = some (.int .i64 s.m.id) := hg.b13.cell 8
                    have f9 : w1.cell? ⟨G13, 9, none⟩ = some (.string ⟨s.m.s.toArray⟩) := hg.b13.cell 9
                    have f10 : w1.cell? ⟨G13, 10, none⟩ = some (.slice (some ⟨p, 0, none⟩) s.m.l.length cap) := hg.b13.cell 10
                    refine opTo_of (by kernel_rfl) (fun K' hK' => ?_)
                    go_simp
                    exact hK'.out (.agg #[.int .u8 s.m.k, .int .i64 s.m.fr, .int .i64 s.m.to, .int .i64 s.m.ht, .int .i64 s.m.rd, .int .i64 s.m.vl, .int .i64 s.m.ep, .int .i64 s.m.dl, .int .i64 s.m.id, .string ⟨s.m.s.toArray⟩, .slice (some ⟨p, 0, none⟩) s.m.l.length cap]) _ _ (by kernel_rfl) ⟨hg.same 1 (by decide) (by decide), trivial, rfl⟩
                  refine StepsA.cons (fun L vs w1 hl hdl hg hd => ?_) ?_
                  · have e0 : vs 0 = .pointer (some ⟨g, 0, none⟩) := hd 0 (by decide)
                    have e1 : vs 1 = .agg #[.int .u8 s.m.k, .int .i64 s.m.fr, .int .i64 s.m.to, .int .i64 s.m.ht, .int .i64 s.m.rd, .int .i64 s.m.vl, .int .i64 s.m.ep, .int .i64 s.m.dl, .int .i64 s.m.id, .string ⟨s.m.s.toArray⟩, .slice (some ⟨p, 0, none⟩) s.m.l.length cap] := hd 1 (by decide)
                    have HC := Lib.hid (send_s s.m (some ⟨p, 0, none⟩) cap w1 (hg.net0 hl) HX.out.1 hK HX.out.2.1 (.inl (blk_row hg.nums HX.out.2.2.2.1)))
                    refine opTo_of (by kernel_rfl) (fun K' hK' => ?_)
                    go_simp
                    refine Calls.mono HC.out ?_
                    rintro r w2 ⟨rfl, T, off⟩
                    exact hK'.out (.bool (n.sent s.m)) _ _ (by simp only [e0, e1]; kernel_rfl) ⟨hg.call hl HX.out.2.2.2.2 T off, trivial, rfl⟩
                  refine StepsA.cons (fun L vs w1 hl hdl hg hd => ?_) ?_
                  · refine opTo_of (by kernel_rfl) (fun K' hK' => ?_)
                    go_simp
                    exact hK'.out (.pointer (some ⟨x, 0, none⟩)) _ _ (by kernel_rfl) ⟨hg.same 3 (by decide) (by decide), trivial, rfl⟩
                  refine StepsA.cons (fun L vs w1 hl hdl hg hd => ?_) ?_
                  · refine opTo_of (by kernel_rfl) (fun K' hK' => ?_)
                    go_simp
                    exact hK'.out (.pointer (some ⟨G, 1, none⟩)) _ _ (by kernel_rfl) ⟨hg.same 4 (by decide) (by decide), trivial, rfl⟩
                  refine StepsA.cons (fun L vs w1 hl hdl hg hd => ?_) ?_
                  · have e4 : vs 4 = .pointer (some ⟨G, 1, none⟩) := hd 4 (by decide)
                    have t1 : w1.cell? ⟨G, 1, none⟩ = some (.int .u8 s.m.k) := hg.box.cell 1
                    have t2 : w1.cell? ⟨G, 2, none⟩ = some (.int .i64 s.m.fr) := hg.box.cell 2
                    have t3 : w1.cell? ⟨G, 3, none⟩ = some (.int .i64 s.m.to) := hg.box.cell 3
                    have t4 : w1.cell? ⟨G, 4, none⟩ = some (.int .i64 s.m.ht) := hg.box.cell 4
                    have t5 : w1.cell? ⟨G, 5, none⟩ = some (.int .i64 s.m.rd) := hg.box.cell 5
                    have t6 : w1.cell? ⟨G, 6, none⟩ = some (.int .i64 s.m.vl) := hg.box.cell 6
                    have t7 : w1.cell? ⟨G, 7, none⟩ = some (.int .i64 s.m.ep) := hg.box.cell 7
                    have t8 : w1.cell? ⟨G, 8, none⟩ = some (.int .i64 s.m.dl) := hg.box.cell 8
                    have t9 : w1.cell? ⟨G, 9, none⟩ = some (.int .i64 s.m.id) := hg.box.cell 9
                    have t10 : w1.cell? ⟨G, 10, none⟩ = some (.string ⟨s.m.s.toArray⟩) := hg.box.cell 10
                    have t11 : w1.cell? ⟨G, 11, none⟩ = some (.slice la s.m.l.length lc) := hg.box.cell 11
                    refine opTo_of (by kernel_rfl) (fun K' hK' => ?_)
                    go_simp
                    exact hK'.out (.agg #[.int .u8 s.m.k, .int .i64 s.m.fr, .int .i64 s.m.to, .int .i64 s.m.ht, .int .i64 s.m.rd, .int .i64 s.m.vl, .int .i64 s.m.ep, .int .i64 s.m.dl, .int .i64 s.m.id, .string ⟨s.m.s.toArray⟩, .slice la s.m.l.length lc]) _ _ (by simp only [e4]; kernel_rfl) ⟨hg.same 5 (by decide) (by decide), trivial, rfl⟩
                  refine StepsA.cons (fun L vs w1 hl hdl hg hd => ?_) ?_
                  · have e3 : vs 3 = .pointer (some ⟨x, 0, none⟩) := hd 3 (by decide)
                    have e5 : vs 5 = .agg #[.int .u8 s.m.k, .int .i64 s.m.fr, .int .i64 s.m.to, .int .i64 s.m.ht, .int .i64 s.m.rd, .int .i64 s.m.vl, .int .i64 s.m.ep, .int .i64 s.m.dl, .int .i64 s.m.id, .string ⟨s.m.s.toArray⟩, .slice la s.m.l.length lc] := hd 5 (by decide)
                    have HC := Lib.hid (rsend_any n s.m la lc w1 (hg.ref0 hl) (fun q e => by rw [e]; exact hg.nums.lt) HX.out.1 hK HX.out.2.1.k (((HN.out.kept hg.bel (Nat.le_refl _)).more hg.bel.size)))
                    refine opTo_of (by kernel_rfl) (fun K' hK' => ?_)
                    go_simp
                    refine Calls.mono HC.out ?_
                    rintro r w2 ⟨rfl, T, o⟩
                    exact hK'.out (.bool (n.sent s.m)) _ _ (by simp only [e3, e5]; kernel_rfl) ⟨hg.ref (hdl 2 (by decide)) hl T o, trivial, rfl⟩
                  refine StepsA.cons (fun L vs w1 hl hdl hg hd => ?_) ?_
                  · have e2 : vs 2 = .bool (n.sent s.m) := hd 2 (by decide)
                    have e6 : vs 6 = .bool (n.sent s.m) := hd 6 (by decide)
                    have hvv : (n.sent s.m == n.sent s.m) = true := by simp
                    refine opTo_of (by kernel_rfl) (fun K' hK' => ?_)
                    go_simp
                    exact hK'.out (.bool true) _ _ (by simp only [e2, e6]; kernel_rfl) ⟨hg.same 7 (by decide) (by decide), trivial, rfl⟩
                  refine StepsA.cons (fun L vs w1 hl hdl hg hd => ?_) ?_
                  · have e7 : vs 7 = .bool true := hd 7 (by decide)
                    refine opTo_of (by kernel_rfl) (fun K' hK' => ?_)
                    go_simp
                    exact hK'.out (.bool true) _ _ (by simp only [e7]; kernel_rfl) ⟨hg.same 8 (by decide) (by decide), trivial, rfl⟩
                  exact StepsA.nil
                case fin =>
                  intro L vs w8 hL1 hg hT
                  have e8 : vs 8 = .bool true := hT 8 (by decide)
                  have HQ8 := Lib.hid (And.intro (hg.net1 (hL1 2 (by decide))) (And.intro (hg.ref1 (hL1 6 (by decide))) (And.intro hg.box (And.intro hg.b13 (And.intro hg.nums hg.bel)))))
                  clear hg hT hL1 HQ
                  simp only [e8]
                  clear e8
                  go_wp2_with fail
                  go_loopw [14] (fun v wz => ∃ (i : Nat) (cs : Array Value), i ≤ s.m.l.length ∧ v = .int .i64 i ∧ s.m.l.length ≤ cs.size ∧ NetOff w.heap.size g mb (n.send s.m) wz p ∧ RefAt (fun q => q = p) w.heap.size x (n.send s.m) wz ∧ Blk wz G 36 (s.cells la lc) ∧ Blk wz G13 32 (s.m.cells (some ⟨p, 0, none⟩) cap) ∧ Blk wz p 56 cs ∧ Below w.heap.size w wz) (fun v _ => s.m.l.length - (intOf v).toNat)
                  case atStart => exact ⟨0, cs, Nat.zero_le _, rfl, hcapc, HQ8.out⟩
                  case round =>
                    obtain ⟨i, cs, hi, rfl, hcz, h1, h2, h3, h4, h5, h6⟩ := hrel
                    clear HQ8
                    have p10 : wr.cell? ⟨G13, 10, none⟩ = some (.slice (some ⟨p, 0, none⟩) s.m.l.length cap) := h4.cell 10
                    by_cases hil : i < s.m.l.length
                    · obtain ⟨u, hu⟩ : ∃ u, cs[i]? = some u := ⟨_, Array.getElem?_eq_getElem (by omega)⟩
                      have q1 : wr.cell? ⟨p, i, none⟩ = some u := by rw [h5.cell]; exact hu
                      have q2 : wr.frozen? ⟨p, i, none⟩ = false := h5.frozen i
                      have hiI : (i : Int) < (s.m.l.length : Int) := by omega
                      have HZ := Lib.hid (And.intro h1 (And.intro h2 (And.intro h3 (And.intro h4 (And.intro h5 h6)))))
                      clear hu h1 h2 h3 h4 h5 h6
                      go_wp2_with fail
                      go_roundw
                      case rel =>
                        obtain ⟨h1, h2, h3, h4, h5, h6⟩ := HZ.out
                        exact ⟨i + 1, _, by omega, by go_num, by simpa using hcz, h1.poke h5 i _, h2.set rfl h5 i _, h3.farc (Blk.ne_ h3 h5 (by decide)) _, h4.farc (Blk.ne_ h4 h5 (by decide)) _, h5.set_ i _, h6.setCell (p := ⟨p, i, none⟩) hpb _⟩
                      case measure => simp [intOf]; omega
                    · have hie : i = s.m.l.length := by omega
                      subst hie
                      go_wp2_with fail
                      go_meet
                      exact ⟨rfl, n.send s.m, HO.out, ⟨h1.at, h2.free, h6⟩, h3⟩
            · have e0 : (s.kind == 0) = false := by simpa using k0
              by_cases k1 : s.kind = 1
              · have e1 : (s.kind == 1) = true := by simpa using k1
                clear k0 k1
                as_aux_lemma =>
                  have HC := Lib.hid (give_any s.pl w4 HP.out.net HP.out.ok hK)
                  have t12 : w4.cell? ⟨G, 12, none⟩ = some (.int .i64 s.pl) := HP.out.box.cell 12
                  have hml : (n.msg s.pl).l.length ≤ 9223372036854775807 := by
                    cases hk : n.is s.pl with
                    | true =>
                      have := (Mg.may_len (HP.out.ok.ok _ (Nt.msg_mem hk)).2).2
                      omega
                    | false =>
                      rw [Nt.msg_no hk]
                      simp [Mg.zero]
                  have HO := Lib.hid ((Nt.lose_ok HP.out.ok).more (by omega) : (n.lose s.pl).Ok (j + 1))
                  unfold GivePost at HC
                  have HR0 := rgive_any (X := fun _ => False) (B := w.heap.size) (x := x) (K := j) n s.pl
                  unfold RGivePost at HR0
                  have HR := Lib.hid HR0
                  clear HR0
                  obtain ⟨v, hv⟩ : ∃ v, n.lost s.pl = v := ⟨_, rfl⟩
                  rw [hv] at HC HR
                  clear hv
                  generalize n.lose s.pl = n2 at *
                  generalize n.msg s.pl = m at *
                  have hvv : (v == v) = true := by simp
                  go_wp2_with fail
                  refine (Calls.mono HC.out ?_)
                  rintro e w5 ⟨a1, c1, rfl, r1, T5⟩
                  unfold Mg.val
                  obtain ⟨h1, h2, h3⟩ := PS.turned HP.out.net HP.out.ref HP.out.bel T5
                  have K5 : Blk w5 G 36 (s.cells la lc) := T5.elim fun _ y => y.2.1.blk HP.out.net HP.out.box (by decide) (by decide)
                  have al : Below w5.heap.size w5 (boxed w5 m a1 c1) := boxed_below (Below.refl _ w5) (Nat.le_refl _) m a1 c1
                  have H6 := Lib.hid (And.intro (h1.elim fun rs hN => (⟨rs, (hN.kept al).top⟩ : ∃ rs, NetAt w.heap.size (boxed w5 m a1 c1).heap.size g mb rs n2 (boxed w5 m a1 c1))) (And.intro (h2.kept al) (And.intro (step_below h3 al) (And.intro (K5.kept al) (And.intro (boxed_blk w5 m a1 c1) (r1.below al))))))
                  have hs5 : w5.heap.size ≤ (boxed w5 m a1 c1).heap.size := al.size
                  obtain ⟨w6, hw6⟩ : ∃ w6, w6 = boxed w5 m a1 c1 := ⟨_, rfl⟩
                  rw [← hw6] at H6 hs5
                  unfold boxed at hw6
                  have HW := Lib.hid hw6
                  clear hw6 h1 h2 h3 K5 al T5 r1 HC t12
                  go_upto_region 27 with fail
                  rw [← HW.out]
                  clear HW
                  generalize w5.heap.size = G5 at *
                  have u12 : w6.cell? ⟨G, 12, none⟩ = some (.int .i64 s.pl) := H6.out.2.2.2.1.cell 12
                  have HC := Lib.hid (HR.out w6 H6.out.2.1 HP.out.ok)
                  go_wp2_with fail
                  refine (Calls.mono HC.out ?_)
                  rintro e w7 ⟨a2, c2, rfl, r2, R7, o7⟩
                  unfold Mg.val
                  have N7 := net_only H6.out.1 H6.out.2.1 o7
                  have B7 := only_below H6.out.2.1 H6.out.2.2.1 o7
                  have K7 := only_blk H6.out.2.1 o7 H6.out.2.2.2.1 (by decide)
                  have M7 := only_blk H6.out.2.1 o7 H6.out.2.2.2.2.1 (by decide)
                  have r7 : Row .u64 56 w4.heap.size G5 w7 a1 m.l := H6.out.2.2.2.2.2.kept fun q cur _ _ hb => only_blk H6.out.2.1 o7 hb (by decide)
                  have al : Below w7.heap.size w7 (boxed w7 m a2 c2) := boxed_below (Below.refl _ w7) (Nat.le_refl _) m a2 c2
                  have hs7 := o7.size
                  have H8 := Lib.hid (And.intro (N7.elim fun rs hN => (⟨rs, (hN.kept al).top⟩ : ∃ rs, NetAt w.heap.size (boxed w7 m a2 c2).heap.size g mb rs n2 (boxed w7 m a2 c2))) (And.intro (R7.kept al) (And.intro (step_below B7 al) (K7.kept al))))
                  have HM := Lib.hid (And.intro (M7.kept al) (And.intro (boxed_blk w7 m a2 c2) (And.intro (nums_step (r7.nums (Nat.le_trans hs5 hs7)) al) (nums_step r2 al))))
                  obtain ⟨w8, hw8⟩ : ∃ w8, w8 = boxed w7 m a2 c2 := ⟨_, rfl⟩
                  rw [← hw8] at H8 HM
                  unfold boxed at hw8
                  have HW := Lib.hid hw8
                  clear hw8 al N7 B7 K7 M7 r7 R7 o7 r2 H6 HC u12
                  go_upto_region 28 with fail
                  rw [← HW.out]
                  clear HW
                  generalize w7.heap.size = G7 at *
                  have f0 : w8.cell? ⟨G5, 0, none⟩ = some (.int .u8 m.k) := HM.out.1.cell 0
                  have f1 : w8.cell? ⟨G5, 1, none⟩ = some (.int .i64 m.fr) := HM.out.1.cell 1
                  have f2 : w8.cell? ⟨G5, 2, none⟩ = some (.int .i64 m.to) := HM.out.1.cell 2
                  have f3 : w8.cell? ⟨G5, 3, none⟩ = some (.int .i64 m.ht) := HM.out.1.cell 3
                  have f4 : w8.cell? ⟨G5, 4, none⟩ = some (.int .i64 m.rd) := HM.out.1.cell 4
                  have f5 : w8.cell? ⟨G5, 5, none⟩ = some (.int .i64 m.vl) := HM.out.1.cell 5
                  have f6 : w8.cell? ⟨G5, 6, none⟩ = some (.int .i64 m.ep) := HM.out.1.cell 6
                  have f7 : w8.cell? ⟨G5, 7, none⟩ = some (.int .i64 m.dl) := HM.out.1.cell 7
                  have f8 : w8.cell? ⟨G5, 8, none⟩ = some (.int .i64 m.id) := HM.out.1.cell 8
                  have f9 : w8.cell? ⟨G5, 9, none⟩ = some (.string ⟨m.s.toArray⟩) := HM.out.1.cell 9
                  have f10 : w8.cell? ⟨G5, 10, none⟩ = some (.slice a1 m.l.length c1) := HM.out.1.cell 10
                  have g0 : w8.cell? ⟨G7, 0, none⟩ = some (.int .u8 m.k) := HM.out.2.1.cell 0
                  have g1 : w8.cell? ⟨G7, 1, none⟩ = some (.int .i64 m.fr) := HM.out.2.1.cell 1
                  have g2 : w8.cell? ⟨G7, 2, none⟩ = some (.int .i64 m.to) := HM.out.2.1.cell 2
                  have g3 : w8.cell? ⟨G7, 3, none⟩ = some (.int .i64 m.ht) := HM.out.2.1.cell 3
                  have g4 : w8.cell? ⟨G7, 4, none⟩ = some (.int .i64 m.rd) := HM.out.2.1.cell 4
                  have g5 : w8.cell? ⟨G7, 5, none⟩ = some (.int .i64 m.vl) := HM.out.2.1.cell 5
                  have g6 : w8.cell? ⟨G7, 6, none⟩ = some (.int .i64 m.ep) := HM.out.2.1.cell 6
                  have g7 : w8.cell? ⟨G7, 7, none⟩ = some (.int .i64 m.dl) := HM.out.2.1.cell 7
                  have g8 : w8.cell? ⟨G7, 8, none⟩ = some (.int .i64 m.id) := HM.out.2.1.cell 8
                  have g9 : w8.cell? ⟨G7, 9, none⟩ = some (.string ⟨m.s.toArray⟩) := HM.out.2.1.cell 9
                  have g10 : w8.cell? ⟨G7, 10, none⟩ = some (.slice a2 m.l.length c2) := HM.out.2.1.cell 10
                  have HC := Lib.hid (rsame_agg m m a1 a2 c1 c2 w8 HM.out.2.2.1 HM.out.2.2.2 hml true (same_refl m))
                  go_wp2_with fail
                  refine (Calls.mono HC.out ?_)
                  rintro e w9 ⟨rfl, b9⟩
                  have H9 := Lib.hid b9
                  clear b9 HC f0 f1 f2 f3 f4 f5 f6 f7 f8 f9 f10 g0 g1 g2 g3 g4 g5 g6 g7 g8 g9 g10
                  go_wp2_with fail
                  go_meet
                  obtain ⟨h1, h2, h3, h4⟩ := H8.out
                  exact ⟨rfl, n2, HO.out, PS.kept ⟨h1, h2, h3⟩ H9.out, h4.kept H9.out⟩
              · have e1 : (s.kind == 1) = false := by simpa using k1
                by_cases k2 : s.kind = 2
                · have e2 : (s.kind == 2) = true := by simpa using k2
                  clear k0 k1 k2
                  as_aux_lemma =>
                    obtain ⟨v, hv⟩ : ∃ v, n.lost s.pl = v := ⟨_, rfl⟩
                    obtain ⟨n2, hn2⟩ : ∃ n2, n.lose s.pl = n2 := ⟨_, rfl⟩
                    have HX := Lib.hid (And.intro HP.out.ok (And.intro hK (And.intro hv hn2)))
                    have HO := Lib.hid ((Nt.lose_ok HP.out.ok).more (by omega) : (n.lose s.pl).Ok (j + 1))
                    rw [hn2] at HO
                    clear hv hn2
                    go_upto_region 30 with fail
                    refine' wp_region_invB _ (fun i v' _ => v' = dval g x G s v i) (QD w g mb x G n n2 s la lc 3 7) (fun _ _ _ => True) ?hA (by kernel_rfl) (by kernel_rfl) (by kernel_rfl) HP.out.start (fun _ _ _ _ _ _ _ _ _ _ h _ => h) ?step ?fin
                    case hA =>
                      intro vs
                      conv => lhs; simp only [fillL, Act.put, List.setIfInBounds_toArray, List.set_cons_zero, List.set_cons_succ, Nat.reduceAdd]
                      try exact rfl
                    case step =>
                      refine StepsA.cons (fun L vs w1 hl hdl hg hd => ?_) ?_
                      · refine opTo_of (by kernel_rfl) (fun K' hK => ?_)
                        go_simp
                        exact hK.out (.pointer (some ⟨g, 0, none⟩)) _ _ (by kernel_rfl) ⟨hg.same 0 (by decide) (by decide), trivial, rfl⟩
                      refine StepsA.cons (fun L vs w1 hl hdl hg hd => ?_) ?_
                      · refine opTo_of (by kernel_rfl) (fun K' hK => ?_)
                        go_simp
                        exact hK.out (.pointer (some ⟨G, 12, none⟩)) _ _ (by kernel_rfl) ⟨hg.same 1 (by decide) (by decide), trivial, rfl⟩
                      refine StepsA.cons (fun L vs w1 hl hdl hg hd => ?_) ?_
                      · have e1 : vs 1 = .pointer (some ⟨G, 12, none⟩) := hd 1 (by decide)
                        have t12 : w1.cell? ⟨G, 12, none⟩ = some (.int .i64 s.pl) := hg.box.cell 12
                        refine opTo_of (by kernel_rfl) (fun K' hK => ?_)
                        go_simp
                        exact hK.out (.int .i64 s.pl) _ _ (by simp only [e1]; kernel_rfl) ⟨hg.same 2 (by decide) (by decide), trivial, rfl⟩
                      refine StepsA.cons (fun L vs w1 hl hdl hg hd => ?_) ?_
                      · have e0 : vs 0 = .pointer (some ⟨g, 0, none⟩) := hd 0 (by decide)
                        have e2 : vs 2 = .int .i64 s.pl := hd 2 (by decide)
                        obtain ⟨rs, hN⟩ := hg.net0 hl
                        have HC := Lib.hid (lose_any s.pl w1 hN HX.out.1 HX.out.2.1)
                        refine opTo_of (by kernel_rfl) (fun K' hK => ?_)
                        go_simp
                        refine Calls.mono HC.out ?_
                        rintro r w2 ⟨rfl, T⟩
                        rw [HX.out.2.2.1]
                        rw [HX.out.2.2.2] at T
                        exact hK.out (.int .i64 v) _ _ (by simp only [e0, e2]; kernel_rfl) ⟨hg.call hl (by decide) hN T, trivial, rfl⟩
                      refine StepsA.cons (fun L vs w1 hl hdl hg hd => ?_) ?_
                      · refine opTo_of (by kernel_rfl) (fun K' hK => ?_)
                        go_simp
                        exact hK.out (.pointer (some ⟨x, 0, none⟩)) _ _ (by kernel_rfl) ⟨hg.same 4 (by decide) (by decide), trivial, rfl⟩
                      refine StepsA.cons (fun L vs w1 hl hdl hg hd => ?_) ?_
                      · refine opTo_of (by kernel_rfl) (fun K' hK => ?_)
                        go_simp
                        exact hK.out (.pointer (some ⟨G, 12, none⟩)) _ _ (by kernel_rfl) ⟨hg.same 5 (by decide) (by decide), trivial, rfl⟩
                      refine StepsA.cons (fun L vs w1 hl hdl hg hd => ?_) ?_
                      · have e5 : vs 5 = .pointer (some ⟨G, 12, none⟩) := hd 5 (by decide)
                        have t12 : w1.cell? ⟨G, 12, none⟩ = some (.int .i64 s.pl) := hg.box.cell 12
                        refine opTo_of (by kernel_rfl) (fun K' hK => ?_)
                        go_simp
                        exact hK.out (.int .i64 s.pl) _ _ (by simp only [e5]; kernel_rfl) ⟨hg.same 6 (by decide) (by decide), trivial, rfl⟩
                      refine StepsA.cons (fun L vs w1 hl hdl hg hd => ?_) ?_
                      · have e4 : vs 4 = .pointer (some ⟨x, 0, none⟩) := hd 4 (by decide)
                        have e6 : vs 6 = .int .i64 s.pl := hd 6 (by decide)
                        have HC := Lib.hid (rlose_any n s.pl w1 (hg.ref0 hl) HX.out.1)
                        refine opTo_of (by kernel_rfl) (fun K' hK => ?_)
                        go_simp
                        refine Calls.mono HC.out ?_
                        rintro r w2 ⟨rfl, T, o⟩
                        rw [HX.out.2.2.1]
                        rw [HX.out.2.2.2] at T
                        exact hK.out (.int .i64 v) _ _ (by simp only [e4, e6]; kernel_rfl) ⟨hg.ref (hdl 3 (by decide)) hl T o, trivial, rfl⟩
                      refine StepsA.cons (fun L vs w1 hl hdl hg hd => ?_) ?_
                      · have e3 : vs 3 = .int .i64 v := hd 3 (by decide)
                        have e7 : vs 7 = .int .i64 v := hd 7 (by decide)
                        have hvv : (v == v) = true := by simp
                        refine opTo_of (by kernel_rfl) (fun K' hK => ?_)
                        go_simp
                        exact hK.out (.bool true) _ _ (by simp only [e3, e7]; kernel_rfl) ⟨hg.same 8 (by decide) (by decide), trivial, rfl⟩
                      refine StepsA.cons (fun L vs w1 hl hdl hg hd => ?_) ?_
                      · have e8 : vs 8 = .bool true := hd 8 (by decide)
                        refine opTo_of (by kernel_rfl) (fun K' hK => ?_)
                        go_simp
                        exact hK.out (.bool true) _ _ (by simp only [e8]; kernel_rfl) ⟨hg.same 9 (by decide) (by decide), trivial, rfl⟩
                      exact StepsA.nil
                    case fin =>
                      intro L vs w5 hL1 hg hT
                      have e9 : vs 9 = .bool true := hT 9 (by decide)
                      have HQ := Lib.hid (And.intro (hg.net1 (hL1 3 (by decide))) (And.intro (hg.ref1 (hL1 7 (by decide))) (And.intro hg.box hg.bel)))
                      clear hg hT hL1
                      simp only [e9]
                      clear e9
                      go_wp2_with fail
                      go_meet
                      exact ⟨rfl, n2, HO.out, ⟨HQ.out.1, HQ.out.2.1, HQ.out.2.2.2⟩, HQ.out.2.2.1⟩
                · have e2 : (s.kind == 2) = false := by simpa using k2
                  clear k0 k1 k2
                  as_aux_lemma =>
                    obtain ⟨v, hv⟩ : ∃ v, n.twiced s.pl = v := ⟨_, rfl⟩
                    obtain ⟨n2, hn2⟩ : ∃ n2, n.twice s.pl = n2 := ⟨_, rfl⟩
                    have HX := Lib.hid (And.intro HP.out.ok (And.intro hK (And.intro hv hn2)))
                    have HO := Lib.hid (Nt.twice_ok HP.out.ok : (n.twice s.pl).Ok (j + 1))
                    rw [hn2] at HO
                    clear hv hn2
                    go_upto_region 16 with fail
                    refine' wp_region_invB _ (fun i v' _ => v' = dval g x G s v i) (QD w g mb x G n n2 s la lc 3 7) (fun _ _ _ => True) ?hA (by kernel_rfl) (by kernel_rfl) (by kernel_rfl) HP.out.start (fun _ _ _ _ _ _ _ _ _ _ h _ => h) ?step ?fin
                    case hA =>
                      intro vs
                      conv => lhs; simp only [fillL, Act.put, List.setIfInBounds_toArray, List.set_cons_zero, List.set_cons_succ, Nat.reduceAdd]
                      try exact rfl
                    case step =>
                      refine StepsA.cons (fun L vs w1 hl hdl hg hd => ?_) ?_
                      · refine opTo_of (by kernel_rfl) (fun K' hK => ?_)
                        go_simp
                        exact hK.out (.pointer (some ⟨g, 0, none⟩)) _ _ (by kernel_rfl) ⟨hg.same 0 (by decide) (by decide), trivial, rfl⟩
                      refine StepsA.cons (fun L vs w1 hl hdl hg hd => ?_) ?_
                      · refine opTo_of (by kernel_rfl) (fun K' hK => ?_)
                        go_simp
                        exact hK.out (.pointer (some ⟨G, 12, none⟩)) _ _ (by kernel_rfl) ⟨hg.same 1 (by decide) (by decide), trivial, rfl⟩
                      refine StepsA.cons (fun L vs w1 hl hdl hg hd => ?_) ?_
                      · have e1 : vs 1 = .pointer (some ⟨G, 12, none⟩) := hd 1 (by decide)
                        have t12 : w1.cell? ⟨G, 12, none⟩ = some (.int .i64 s.pl) := hg.box.cell 12
                        refine opTo_of (by kernel_rfl) (fun K' hK => ?_)
                        go_simp
                        exact hK.out (.int .i64 s.pl) _ _ (by simp only [e1]; kernel_rfl) ⟨hg.same 2 (by decide) (by decide), trivial, rfl⟩
                      refine StepsA.cons (fun L vs w1 hl hdl hg hd => ?_) ?_
                      · have e0 : vs 0 = .pointer (some ⟨g, 0, none⟩) := hd 0 (by decide)
                        have e2 : vs 2 = .int .i64 s.pl := hd 2 (by decide)
                        obtain ⟨rs, hN⟩ := hg.net0 hl
                        have HC := Lib.hid (twice_any s.pl w1 hN HX.out.1 HX.out.2.1)
                        refine opTo_of (by kernel_rfl) (fun K' hK => ?_)
                        go_simp
                        refine Calls.mono HC.out ?_
                        rintro r w2 ⟨rfl, T⟩
                        rw [HX.out.2.2.1]
                        rw [HX.out.2.2.2] at T
                        exact hK.out (.int .i64 v) _ _ (by simp only [e0, e2]; kernel_rfl) ⟨hg.call hl (by decide) hN T, trivial, rfl⟩
                      refine StepsA.cons (fun L vs w1 hl hdl hg hd => ?_) ?_
                      · refine opTo_of (by kernel_rfl) (fun K' hK => ?_)
                        go_simp
                        exact hK.out (.pointer (some ⟨x, 0, none⟩)) _ _ (by kernel_rfl) ⟨hg.same 4 (by decide) (by decide), trivial, rfl⟩
                      refine StepsA.cons (fun L vs w1 hl hdl hg hd => ?_) ?_
                      · refine opTo_of (by kernel_rfl) (fun K' hK => ?_)
                        go_simp
                        exact hK.out (.pointer (some ⟨G, 12, none⟩)) _ _ (by kernel_rfl) ⟨hg.same 5 (by decide) (by decide), trivial, rfl⟩
                      refine StepsA.cons (fun L vs w1 hl hdl hg hd => ?_) ?_
                      · have e5 : vs 5 = .pointer (some ⟨G, 12, none⟩) := hd 5 (by decide)
                        have t12 : w1.cell? ⟨G, 12, none⟩ = some (.int .i64 s.pl) := hg.box.cell 12
                        refine opTo_of (by kernel_rfl) (fun K' hK => ?_)
                        go_simp
                        exact hK.out (.int .i64 s.pl) _ _ (by simp only [e5]; kernel_rfl) ⟨hg.same 6 (by decide) (by decide), trivial, rfl⟩
                      refine StepsA.cons (fun L vs w1 hl hdl hg hd => ?_) ?_
                      · have e4 : vs 4 = .pointer (some ⟨x, 0, none⟩) := hd 4 (by decide)
                        have e6 : vs 6 = .int .i64 s.pl := hd 6 (by decide)
                        have HC := Lib.hid (rtwice_any n s.pl w1 (hg.ref0 hl) (fun q f => f.elim) HX.out.1 HX.out.2.1)
                        refine opTo_of (by kernel_rfl) (fun K' hK => ?_)
                        go_simp
                        refine Calls.mono HC.out ?_
                        rintro r w2 ⟨rfl, T, o⟩
                        rw [HX.out.2.2.1]
                        rw [HX.out.2.2.2] at T
                        exact hK.out (.int .i64 v) _ _ (by simp only [e4, e6]; kernel_rfl) ⟨hg.ref (hdl 3 (by decide)) hl T o, trivial, rfl⟩
                      refine StepsA.cons (fun L vs w1 hl hdl hg hd => ?_) ?_
                      · have e3 : vs 3 = .int .i64 v := hd 3 (by decide)
                        have e7 : vs 7 = .int .i64 v := hd 7 (by decide)
                        have hvv : (v == v) = true := by simp
                        refine opTo_of (by kernel_rfl) (fun K' hK => ?_)
                        go_simp
                        exact hK.out (.bool true) _ _ (by simp only [e3, e7]; kernel_rfl) ⟨hg.same 8 (by decide) (by decide), trivial, rfl⟩
                      refine StepsA.cons (fun L vs w1 hl hdl hg hd => ?_) ?_
                      · have e8 : vs 8 = .bool true := hd 8 (by decide)
                        refine opTo_of (by kernel_rfl) (fun K' hK => ?_)
                        go_simp
                        exact hK.out (.bool true) _ _ (by simp only [e8]; kernel_rfl) ⟨hg.same 9 (by decide) (by decide), trivial, rfl⟩
                      exact StepsA.nil
                    case fin =>
                      intro L vs w5 hL1 hg hT
                      have e9 : vs 9 = .bool true := hT 9 (by decide)
                      have HQ := Lib.hid (And.intro (hg.net1 (hL1 3 (by decide))) (And.intro (hg.ref1 (hL1 7 (by decide))) (And.intro hg.box hg.bel)))
                      clear hg hT hL1
                      simp only [e9]
                      clear e9
                      go_wp2_with fail
                      go_meet
                      exact ⟨rfl, n2, HO.out, ⟨HQ.out.1, HQ.out.2.1, HQ.out.2.2.2⟩, HQ.out.2.2.1⟩
          case rest =>
            obtain ⟨rfl, n2, ok2, hP, hG⟩ := hcut
            clear HP t0 HN HOK
            as_aux_lemma =>
              have hto : (n2.to s.m.to).length ≤ 9223372036854775807 := by
                have := to_le n2 s.m.to
                have := ok2.len
                have := ok2.most2
                omega
              have hlen : n2.l.length ≤ 4096 := by
                have := ok2.len
                have := ok2.most2
                omega
              have hK2 : j + 1 ≤ 1000000 := by omega
              have HX := Lib.hid (And.intro ok2 (And.intro hK2 hto))
              have HPS := Lib.hid (And.intro hP hG)
              clear ok2 hP hG hto hK2
              go_upto_region 31 with fail
              refine' wp_region_invB _ (cval g x G n2 s) (fun _ w' => PS w g mb x n2 w' ∧ Blk w' G 36 (s.cells la lc)) (fun _ wa wb => Below wa.heap.size wa wb) ?hA (by kernel_rfl) (by kernel_rfl) (by kernel_rfl) ⟨HPS.out.1.kept (Below.refl _ _).drew, HPS.out.2⟩ (fun _ _ _ _ _ _ _ _ _ _ h b => cval.kept h b) ?step ?fin
              case hA =>
                intro vs
                conv => lhs; simp only [fillL, Act.put, List.setIfInBounds_toArray, List.set_cons_zero, List.set_cons_succ, Nat.reduceAdd]
                try exact rfl
              case step =>
                refine StepsA.cons (fun L vs w1 hl hdl hg hd => ?_) ?_
                · refine opTo_of (by kernel_rfl) (fun K' hK' => ?_)
                  go_simp
                  exact hK'.out (.bool true) _ _ (by kernel_rfl) ⟨hg, Below.refl _ _, rfl⟩
                refine StepsA.cons (fun L vs w1 hl hdl hg hd => ?_) ?_
                · have e0 : vs 0 = .bool true := hd 0 (by decide)
                  refine opTo_of (by kernel_rfl) (fun K' hK' => ?_)
                  go_simp
                  exact hK'.out (.bool false) _ _ (by simp only [e0]; kernel_rfl) ⟨hg, Below.refl _ _, rfl⟩
                refine StepsA.cons (fun L vs w1 hl hdl hg hd => ?_) ?_
                · have e1 : vs 1 = .bool false := hd 1 (by decide)
                  refine opTo_of (by kernel_rfl) (fun K' hK' => ?_)
                  go_simp
                  exact hK'.out (.bool false) _ _ (by simp only [e1]; kernel_rfl) ⟨hg, Below.refl _ _, rfl⟩
                refine StepsA.cons (fun L vs w1 hl hdl hg hd => ?_) ?_
                · have e2 : vs 2 = .bool false := hd 2 (by decide)
                  refine opTo_of (by simp only [e2]; kernel_rfl) (fun K' hK' => ?_)
                  go_simp
                  exact hK'.out (.pointer (some ⟨g, 0, none⟩)) _ _ (by simp only [e2]; kernel_rfl) ⟨hg, Below.refl _ _, rfl⟩
                refine StepsA.cons (fun L vs w1 hl hdl hg hd => ?_) ?_
                · have e3 : vs 3 = .pointer (some ⟨g, 0, none⟩) := hd 3 (by decide)
                  have e2 : vs 2 = .bool false := hd 2 (by decide)
                  obtain ⟨rs, hN⟩ := hg.1.net
                  have HC := Lib.hid (len_any w1 hN HX.out.1)
                  refine opTo_of (by simp only [e2]; kernel_rfl) (fun K' hK' => ?_)
                  go_simp
                  refine Calls.mono HC.out ?_
                  rintro r w2 ⟨rfl, rfl⟩
                  exact hK'.out (.int .i64 (n2.l.length : Int)) _ _ (by simp only [e3, e2]; kernel_rfl) ⟨hg, Below.refl _ _, rfl⟩
                refine StepsA.cons (fun L vs w1 hl hdl hg hd => ?_) ?_
                · have e2 : vs 2 = .bool false := hd 2 (by decide)
                  refine opTo_of (by simp only [e2]; kernel_rfl) (fun K' hK' => ?_)
                  go_simp
                  exact hK'.out (.pointer (some ⟨x, 0, none⟩)) _ _ (by simp only [e2]; kernel_rfl) ⟨hg, Below.refl _ _, rfl⟩
                refine StepsA.cons (fun L vs w1 hl hdl hg hd => ?_) ?_
                · have e5 : vs 5 = .pointer (some ⟨x, 0, none⟩) := hd 5 (by decide)
                  have e2 : vs 2 = .bool false := hd 2 (by decide)
                  refine opTo_of (by simp only [e2]; kernel_rfl) (fun K' hK' => ?_)
                  go_simp
                  exact hK'.out (.pointer (some ⟨x, 0, none⟩)) _ _ (by simp only [e5, e2]; kernel_rfl) ⟨hg, Below.refl _ _, rfl⟩
                refine StepsA.cons (fun L vs w1 hl hdl hg hd => ?_) ?_
                · have e6 : vs 6 = .pointer (some ⟨x, 0, none⟩) := hd 6 (by decide)
                  have e2 : vs 2 = .bool false := hd 2 (by decide)
                  refine opTo_of (by simp only [e2]; kernel_rfl) (fun K' hK' => ?_)
                  go_simp
                  exact hK'.out (.pointer (some ⟨x, 1, none⟩)) _ _ (by simp only [e6, e2]; kernel_rfl) ⟨hg, Below.refl _ _, rfl⟩
                refine StepsA.cons (fun L vs w1 hl hdl hg hd => ?_) ?_
                · have e7 : vs 7 = .pointer (some ⟨x, 1, none⟩) := hd 7 (by decide)
                  have e2 : vs 2 = .bool false := hd 2 (by decide)
                  obtain ⟨hBx, ad, cp, hbx, -, -, -⟩ := hg.1.ref
                  have x1 : w1.cell? ⟨x, 1, none⟩ = some (.slice ad n2.l.length cp) := hbx.cell 1
                  refine opTo_of (by simp only [e2]; kernel_rfl) (fun K' hK' => ?_)
                  go_simp
                  exact hK'.out (.slice ad n2.l.length cp) _ _ (by simp only [e7, e2]; kernel_rfl) ⟨hg, Below.refl _ _, ad, cp, rfl⟩
                refine StepsA.cons (fun L vs w1 hl hdl hg hd => ?_) ?_
                · have e2 : vs 2 = .bool false := hd 2 (by decide)
                  obtain ⟨ad, cp, e8⟩ := hd 8 (by decide)
                  have e8 : vs 8 = .slice ad n2.l.length cp := e8
                  refine opTo_of (by simp only [e2]; kernel_rfl) (fun K' hK' => ?_)
                  go_simp
                  exact hK'.out (.int .i64 (n2.l.length : Int)) _ _ (by simp only [e2, e8]; kernel_rfl) ⟨hg, Below.refl _ _, rfl⟩
                refine StepsA.cons (fun L vs w1 hl hdl hg hd => ?_) ?_
                · have e4 : vs 4 = .int .i64 (n2.l.length : Int) := hd 4 (by decide)
                  have e9 : vs 9 = .int .i64 (n2.l.length : Int) := hd 9 (by decide)
                  have e2 : vs 2 = .bool false := hd 2 (by decide)
                  refine opTo_of (by simp only [e2]; kernel_rfl) (fun K' hK' => ?_)
                  go_simp
                  exact hK'.out (.bool false) _ _ (by simp only [e4, e9, e2]; kernel_rfl) ⟨hg, Below.refl _ _, rfl⟩
                refine StepsA.cons (fun L vs w1 hl hdl hg hd => ?_) ?_
                · have e2 : vs 2 = .bool false := hd 2 (by decide)
                  have e10 : vs 10 = .bool false := hd 10 (by decide)
                  refine opTo_of (by kernel_rfl) (fun K' hK' => ?_)
                  go_simp
                  exact hK'.out (.bool false) _ _ (by simp only [e2, e10]; kernel_rfl) ⟨hg, Below.refl _ _, rfl⟩
                refine StepsA.cons (fun L vs w1 hl hdl hg hd => ?_) ?_
                · have e11 : vs 11 = .bool false := hd 11 (by decide)
                  refine opTo_of (by kernel_rfl) (fun K' hK' => ?_)
                  go_simp
                  exact hK'.out (.bool false) _ _ (by simp only [e11]; kernel_rfl) ⟨hg, Below.refl _ _, rfl⟩
                refine StepsA.cons (fun L vs w1 hl hdl hg hd => ?_) ?_
                · have e12 : vs 12 = .bool false := hd 12 (by decide)
                  refine opTo_of (by simp only [e12]; kernel_rfl) (fun K' hK' => ?_)
                  go_simp
                  exact hK'.out (.pointer (some ⟨g, 0, none⟩)) _ _ (by simp only [e12]; kernel_rfl) ⟨hg, Below.refl _ _, rfl⟩
                refine StepsA.cons (fun L vs w1 hl hdl hg hd => ?_) ?_
                · have e13 : vs 13 = .pointer (some ⟨g, 0, none⟩) := hd 13 (by decide)
                  have e12 : vs 12 = .bool false := hd 12 (by decide)
                  obtain ⟨rs, hN⟩ := hg.1.net
                  have HC := Lib.hid (crowded_any w1 hN)
                  refine opTo_of (by simp only [e12]; kernel_rfl) (fun K' hK' => ?_)
                  go_simp
                  refine Calls.mono HC.out ?_
                  rintro r w2 ⟨rfl, rfl⟩
                  exact hK'.out (.int .i64 n2.out) _ _ (by simp only [e13, e12]; kernel_rfl) ⟨hg, Below.refl _ _, rfl⟩
                refine StepsA.cons (fun L vs w1 hl hdl hg hd => ?_) ?_
                · have e12 : vs 12 = .bool false := hd 12 (by decide)
                  refine opTo_of (by simp only [e12]; kernel_rfl) (fun K' hK' => ?_)
                  go_simp
                  exact hK'.out (.pointer (some ⟨x, 0, none⟩)) _ _ (by simp only [e12]; kernel_rfl) ⟨hg, Below.refl _ _, rfl⟩
                refine StepsA.cons (fun L vs w1 hl hdl hg hd => ?_) ?_
                · have e15 : vs 15 = .pointer (some ⟨x, 0, none⟩) := hd 15 (by decide)
                  have e12 : vs 12 = .bool false := hd 12 (by decide)
                  refine opTo_of (by simp only [e12]; kernel_rfl) (fun K' hK' => ?_)
                  go_simp
                  exact hK'.out (.pointer (some ⟨x, 0, none⟩)) _ _ (by simp only [e15, e12]; kernel_rfl) ⟨hg, Below.refl _ _, rfl⟩
                refine StepsA.cons (fun L vs w1 hl hdl hg hd => ?_) ?_
                · have e16 : vs 16 = .pointer (some ⟨x, 0, none⟩) := hd 16 (by decide)
                  have e12 : vs 12 = .bool false := hd 12 (by decide)
                  refine opTo_of (by simp only [e12]; kernel_rfl) (fun K' hK' => ?_)
                  go_simp
                  exact hK'.out (.pointer (some ⟨x, 2, none⟩)) _ _ (by simp only [e16, e12]; kernel_rfl) ⟨hg, Below.refl _ _, rfl⟩
                refine StepsA.cons (fun L vs w1 hl hdl hg hd => ?_) ?_
                · have e17 : vs 17 = .pointer (some ⟨x, 2, none⟩) := hd 17 (by decide)
                  have e12 : vs 12 = .bool false := hd 12 (by decide)
                  obtain ⟨hBx, ad, cp, hbx, -, -, -⟩ := hg.1.ref
                  have x2 : w1.cell? ⟨x, 2, none⟩ = some (.int .i64 n2.out) := hbx.cell 2
                  refine opTo_of (by simp only [e12]; kernel_rfl) (fun K' hK' => ?_)
                  go_simp
                  exact hK'.out (.int .i64 n2.out) _ _ (by simp only [e17, e12]; kernel_rfl) ⟨hg, Below.refl _ _, rfl⟩
                refine StepsA.cons (fun L vs w1 hl hdl hg hd => ?_) ?_
                · have e14 : vs 14 = .int .i64 n2.out := hd 14 (by decide)
                  have e18 : vs 18 = .int .i64 n2.out := hd 18 (by decide)
                  have e12 : vs 12 = .bool false := hd 12 (by decide)
                  refine opTo_of (by simp only [e12]; kernel_rfl) (fun K' hK' => ?_)
                  go_simp
                  exact hK'.out (.bool false) _ _ (by simp only [e14, e18, e12]; kernel_rfl) ⟨hg, Below.refl _ _, rfl⟩
                refine StepsA.cons (fun L vs w1 hl hdl hg hd => ?_) ?_
                · have e12 : vs 12 = .bool false := hd 12 (by decide)
                  have e19 : vs 19 = .bool false := hd 19 (by decide)
                  refine opTo_of (by kernel_rfl) (fun K' hK' => ?_)
                  go_simp
                  exact hK'.out (.bool false) _ _ (by simp only [e12, e19]; kernel_rfl) ⟨hg, Below.refl _ _, rfl⟩
                refine StepsA.cons (fun L vs w1 hl hdl hg hd => ?_) ?_
                · have e20 : vs 20 = .bool false := hd 20 (by decide)
                  refine opTo_of (by kernel_rfl) (fun K' hK' => ?_)
                  go_simp
                  exact hK'.out (.bool false) _ _ (by simp only [e20]; kernel_rfl) ⟨hg, Below.refl _ _, rfl⟩
                refine StepsA.cons (fun L vs w1 hl hdl hg hd => ?_) ?_
                · have e21 : vs 21 = .bool false := hd 21 (by decide)
                  refine opTo_of (by simp only [e21]; kernel_rfl) (fun K' hK' => ?_)
                  go_simp
                  exact hK'.out (.pointer (some ⟨g, 0, none⟩)) _ _ (by simp only [e21]; kernel_rfl) ⟨hg, Below.refl _ _, rfl⟩
                refine StepsA.cons (fun L vs w1 hl hdl hg hd => ?_) ?_
                · have e21 : vs 21 = .bool false := hd 21 (by decide)
                  refine opTo_of (by simp only [e21]; kernel_rfl) (fun K' hK' => ?_)
                  go_simp
                  exact hK'.out (.pointer (some ⟨G, 1, none⟩)) _ _ (by simp only [e21]; kernel_rfl) ⟨hg, Below.refl _ _, rfl⟩
                refine StepsA.cons (fun L vs w1 hl hdl hg hd => ?_) ?_
                · have e23 : vs 23 = .pointer (some ⟨G, 1, none⟩) := hd 23 (by decide)
                  have e21 : vs 21 = .bool false := hd 21 (by decide)
                  refine opTo_of (by simp only [e21]; kernel_rfl) (fun K' hK' => ?_)
                  go_simp
                  exact hK'.out (.pointer (some ⟨G, 3, none⟩)) _ _ (by simp only [e23, e21]; kernel_rfl) ⟨hg, Below.refl _ _, rfl⟩
                refine StepsA.cons (fun L vs w1 hl hdl hg hd => ?_) ?_
                · have e24 : vs 24 = .pointer (some ⟨G, 3, none⟩) := hd 24 (by decide)
                  have e21 : vs 21 = .bool false := hd 21 (by decide)
                  have t3 : w1.cell? ⟨G, 3, none⟩ = some (.int .i64 s.m.to) := hg.2.cell 3
                  refine opTo_of (by simp only [e21]; kernel_rfl) (fun K' hK' => ?_)
                  go_simp
                  exact hK'.out (.int .i64 s.m.to) _ _ (by simp only [e24, e21]; kernel_rfl) ⟨hg, Below.refl _ _, rfl⟩
                refine StepsA.cons (fun L vs w1 hl hdl hg hd => ?_) ?_
                · have e22 : vs 22 = .pointer (some ⟨g, 0, none⟩) := hd 22 (by decide)
                  have e25 : vs 25 = .int .i64 s.m.to := hd 25 (by decide)
                  have e21 : vs 21 = .bool false := hd 21 (by decide)
                  obtain ⟨rs, hN⟩ := hg.1.net
                  have HC := Lib.hid (to_any s.m.to w1 hN HX.out.1 HX.out.2.1)
                  refine opTo_of (by simp only [e21]; kernel_rfl) (fun K' hK' => ?_)
                  go_simp
                  refine Calls.mono HC.out ?_
                  rintro r w2 ⟨a, c, rfl, own2, b2⟩
                  exact hK'.out (.slice a (n2.to s.m.to).length c) _ _ (by simp only [e22, e25, e21]; kernel_rfl) ⟨⟨hg.1.kept b2, hg.2.kept b2⟩, b2, a, c, rfl, own_nums own2⟩
                refine StepsA.cons (fun L vs w1 hl hdl hg hd => ?_) ?_
                · have e21 : vs 21 = .bool false := hd 21 (by decide)
                  refine opTo_of (by simp only [e21]; kernel_rfl) (fun K' hK' => ?_)
                  go_simp
                  exact hK'.out (.pointer (some ⟨x, 0, none⟩)) _ _ (by simp only [e21]; kernel_rfl) ⟨hg, Below.refl _ _, rfl⟩
                refine StepsA.cons (fun L vs w1 hl hdl hg hd => ?_) ?_
                · have e21 : vs 21 = .bool false := hd 21 (by decide)
                  refine opTo_of (by simp only [e21]; kernel_rfl) (fun K' hK' => ?_)
                  go_simp
                  exact hK'.out (.pointer (some ⟨G, 1, none⟩)) _ _ (by simp only [e21]; kernel_rfl) ⟨hg, Below.refl _ _, rfl⟩
                refine StepsA.cons (fun L vs w1 hl hdl hg hd => ?_) ?_
                · have e28 : vs 28 = .pointer (some ⟨G, 1, none⟩) := hd 28 (by decide)
                  have e21 : vs 21 = .bool false := hd 21 (by decide)
                  refine opTo_of (by simp only [e21]; kernel_rfl) (fun K' hK' => ?_)
                  go_simp
                  exact hK'.out (.pointer (some ⟨G, 3, none⟩)) _ _ (by simp only [e28, e21]; kernel_rfl) ⟨hg, Below.refl _ _, rfl⟩
                refine StepsA.cons (fun L vs w1 hl hdl hg hd => ?_) ?_
                · have e29 : vs 29 = .pointer (some ⟨G, 3, none⟩) := hd 29 (by decide)
                  have e21 : vs 21 = .bool false := hd 21 (by decide)
                  have t3 : w1.cell? ⟨G, 3, none⟩ = some (.int .i64 s.m.to) := hg.2.cell 3
                  refine opTo_of (by simp only [e21]; kernel_rfl) (fun K' hK' => ?_)
                  go_simp
                  exact hK'.out (.int .i64 s.m.to) _ _ (by simp only [e29, e21]; kernel_rfl) ⟨hg, Below.refl _ _, rfl⟩
                refine StepsA.cons (fun L vs w1 hl hdl hg hd => ?_) ?_
                · have e27 : vs 27 = .pointer (some ⟨x, 0, none⟩) := hd 27 (by decide)
                  have e30 : vs 30 = .int .i64 s.m.to := hd 30 (by decide)
                  have e21 : vs 21 = .bool false := hd 21 (by decide)
                  have HC := Lib.hid (rto_any n2 s.m.to w1 hg.1.ref HX.out.1)
                  refine opTo_of (by simp only [e21]; kernel_rfl) (fun K' hK' => ?_)
                  go_simp
                  refine Calls.mono HC.out ?_
                  rintro r w2 ⟨a, c, rfl, own2, b2⟩
                  exact hK'.out (.slice a (n2.to s.m.to).length c) _ _ (by simp only [e27, e30, e21]; kernel_rfl) ⟨⟨hg.1.kept b2, hg.2.kept b2⟩, b2, a, c, rfl, own_nums own2⟩
                refine StepsA.cons (fun L vs w1 hl hdl hg hd => ?_) ?_
                · have e21 : vs 21 = .bool false := hd 21 (by decide)
                  obtain ⟨a, c, e26, na⟩ := hd 26 (by decide)
                  have e26 : vs 26 = .slice a (n2.to s.m.to).length c := e26
                  obtain ⟨a', c', e31, nb⟩ := hd 31 (by decide)
                  have e31 : vs 31 = .slice a' (n2.to s.m.to).length c' := e31
                  have HC := Lib.hid (ints_any a a' c c' (n2.to s.m.to) (n2.to s.m.to) w1 na nb HX.out.2.2 HX.out.2.2)
                  refine opTo_of (by simp only [e21]; kernel_rfl) (fun K' hK' => ?_)
                  go_simp
                  refine Calls.mono HC.out ?_
                  rintro r w2 ⟨rfl, b2⟩
                  have hbq : ((n2.to s.m.to) == (n2.to s.m.to)) = true := by simp
                  rw [hbq]
                  exact hK'.out (.bool true) _ _ (by simp only [e21, e26, e31]; kernel_rfl) ⟨⟨hg.1.kept b2, hg.2.kept b2⟩, b2, rfl⟩
                refine StepsA.cons (fun L vs w1 hl hdl hg hd => ?_) ?_
                · have e32 : vs 32 = .bool true := hd 32 (by decide)
                  have e21 : vs 21 = .bool false := hd 21 (by decide)
                  refine opTo_of (by simp only [e21]; kernel_rfl) (fun K' hK' => ?_)
                  go_simp
                  exact hK'.out (.bool false) _ _ (by simp only [e32, e21]; kernel_rfl) ⟨hg, Below.refl _ _, rfl⟩
                refine StepsA.cons (fun L vs w1 hl hdl hg hd => ?_) ?_
                · have e21 : vs 21 = .bool false := hd 21 (by decide)
                  have e33 : vs 33 = .bool false := hd 33 (by decide)
                  refine opTo_of (by kernel_rfl) (fun K' hK' => ?_)
                  go_simp
                  exact hK'.out (.bool false) _ _ (by simp only [e21, e33]; kernel_rfl) ⟨hg, Below.refl _ _, rfl⟩
                exact StepsA.nil
              case fin =>
                intro L vs w5 hL1 hg hT
                have e34 : vs 34 = .bool false := hT 34 (by decide)
                have HP5 := Lib.hid hg.1
                clear hg hT hL1 HPS
                simp only [e34]
                clear e34
                go_wp2_with fail
                go_loopw [19] (fun v wr => ∃ k : Int, -1 ≤ k ∧ k ≤ (n2.l.length : Int) + 1 ∧ v = .int .i64 k ∧ PS w g mb x n2 wr) (fun v _ => ((n2.l.length : Int) + 1 - intOf v).toNat)
                case atStart => exact ⟨-1, by omega, by omega, rfl, HP5.out⟩
                case round =>
                  obtain ⟨k, hk0, hk1, rfl, hP⟩ := hrel
                  clear HP5
                  have HP := Lib.hid hP
                  obtain ⟨rs, hN⟩ := hP.net
                  obtain ⟨hBx, ad, cp, hbx, g1, g2, g3⟩ := hP.ref
                  have x1 : wr.cell? ⟨x, 1, none⟩ = some (.slice ad n2.l.length cp) := hbx.cell 1
                  have HA := Lib.hid (at_any k wr hN HX.out.1 HX.out.2.1)
                  clear hP hN
                  unfold AtPost at HA
                  by_cases hle : k ≤ (n2.l.length : Int)
                  · by_cases hneg : k < 0
                    · obtain rfl : k = -1 := by omega
                      have e1 : n2.is (-1) = false := by simp [Nt.is]
                      rw [Nt.msg_no e1, e1] at HA
                      clear e1 hbx g1 g2 g3 hBx
                      as_aux_lemma =>
                        go_wp2_with fail
                        refine (Calls.mono HA.out ?_)
                        rintro e w2 ⟨a5, c5, rfl, own5, b5⟩
                        unfold Mg.val
                        have al : Below w2.heap.size w2 (boxed w2 Mg.zero a5 c5) := boxed_below (Below.refl _ w2) (Nat.le_refl _) Mg.zero a5 c5
                        have HM : PB wr w2.heap.size Mg.zero a5 c5 (boxed w2 Mg.zero a5 c5) := ⟨step_below b5 al, boxed_blk w2 Mg.zero a5 c5, nums_step (own_nums own5) al, (Wr.of_own own5 rfl).kept al⟩
                        obtain ⟨w3, hw3⟩ : ∃ w3, w3 = boxed w2 Mg.zero a5 c5 := ⟨_, rfl⟩
                        rw [← hw3] at HM
                        unfold boxed at hw3
                        have HW := Lib.hid hw3
                        have HM := Lib.hid HM
                        clear hw3 al own5 b5 HA x1
                        go_upto_region 37 with fail
                        rw [← HW.out]
                        clear HW
                        generalize w2.heap.size = G2 at *
                        refine' wp_region_invB _ (fun i' v' _ => rvalB a5 c5 i' v') (fun _ w' => PB wr G2 Mg.zero a5 c5 w') (fun _ wa wb => Below wa.heap.size wa wb) ?hA (by kernel_rfl) (by kernel_rfl) (by kernel_rfl) (HM.out.kept (Below.refl _ _).drew) (fun _ _ _ _ _ _ _ _ _ _ h _ => h) ?step ?fin
                        case hA =>
                          intro vs
                          conv => lhs; simp only [fillL, Act.put, List.setIfInBounds_toArray, List.set_cons_zero, List.set_cons_succ, Nat.reduceAdd]
                          try exact rfl
                        case step =>
                          refine StepsA.cons (fun L vs w1 hl hdl hg hd => ?_) ?_
                          · refine opTo_of (by kernel_rfl) (fun K' hK' => ?_)
                            go_simp
                            exact hK'.out (.bool false) _ _ (by kernel_rfl) ⟨hg, Below.refl _ _, rfl⟩
                          refine StepsA.cons (fun L vs w1 hl hdl hg hd => ?_) ?_
                          · refine opTo_of (by kernel_rfl) (fun K' hK' => ?_)
                            go_simp
                            exact hK'.out (.int .i64 (-1)) _ _ (by kernel_rfl) ⟨hg, Below.refl _ _, rfl⟩
                          refine StepsA.cons (fun L vs w1 hl hdl hg hd => ?_) ?_
                          · have e1 : vs 1 = .int .i64 (-1) := hd 1 (by decide)
                            refine opTo_of (by kernel_rfl) (fun K' hK' => ?_)
                            go_simp
                            exact hK'.out (.bool false) _ _ (by simp only [e1]; kernel_rfl) ⟨hg, Below.refl _ _, rfl⟩
                          refine StepsA.cons (fun L vs w1 hl hdl hg hd => ?_) ?_
                          · have e2 : vs 2 = .bool false := hd 2 (by decide)
                            refine opTo_of (by kernel_rfl) (fun K' hK' => ?_)
                            go_simp
                            exact hK'.out (.bool false) _ _ (by simp only [e2]; kernel_rfl) ⟨hg, Below.refl _ _, rfl⟩
                          refine StepsA.cons (fun L vs w1 hl hdl hg hd => ?_) ?_
                          · have e3 : vs 3 = .bool false := hd 3 (by decide)
                            exact opTo_no (by simp only [e3]; kernel_rfl) ⟨hg, Below.refl _ _, trivial⟩
                          refine StepsA.cons (fun L vs w1 hl hdl hg hd => ?_) ?_
                          · have e3 : vs 3 = .bool false := hd 3 (by decide)
                            exact opTo_no (by simp only [e3]; kernel_rfl) ⟨hg, Below.refl _ _, trivial⟩
                          refine StepsA.cons (fun L vs w1 hl hdl hg hd => ?_) ?_
                          · have e3 : vs 3 = .bool false := hd 3 (by decide)
                            exact opTo_no (by simp only [e3]; kernel_rfl) ⟨hg, Below.refl _ _, trivial⟩
                          refine StepsA.cons (fun L vs w1 hl hdl hg hd => ?_) ?_
                          · have e3 : vs 3 = .bool false := hd 3 (by decide)
                            exact opTo_no (by simp only [e3]; kernel_rfl) ⟨hg, Below.refl _ _, trivial⟩
                          refine StepsA.cons (fun L vs w1 hl hdl hg hd => ?_) ?_
                          · have e3 : vs 3 = .bool false := hd 3 (by decide)
                            exact opTo_no (by simp only [e3]; kernel_rfl) ⟨hg, Below.refl _ _, trivial⟩
                          refine StepsA.cons (fun L vs w1 hl hdl hg hd => ?_) ?_
                          · have e3 : vs 3 = .bool false := hd 3 (by decide)
                            exact opTo_no (by simp only [e3]; kernel_rfl) ⟨hg, Below.refl _ _, trivial⟩
                          refine StepsA.cons (fun L vs w1 hl hdl hg hd => ?_) ?_
                          · have e3 : vs 3 = .bool false := hd 3 (by decide)
                            exact opTo_no (by simp only [e3]; kernel_rfl) ⟨hg, Below.refl _ _, trivial⟩
                          refine StepsA.cons (fun L vs w1 hl hdl hg hd => ?_) ?_
                          · have e3 : vs 3 = .bool false := hd 3 (by decide)
                            refine opTo_of (by kernel_rfl) (fun K' hK' => ?_)
                            go_simp
                            exact hK'.out (.bool false) _ _ (by simp only [e3]; kernel_rfl) ⟨hg, Below.refl _ _, rfl⟩
                          refine StepsA.cons (fun L vs w1 hl hdl hg hd => ?_) ?_
                          · have e0 : vs 0 = .bool false := hd 0 (by decide)
                            have e11 : vs 11 = .bool false := hd 11 (by decide)
                            refine opTo_of (by kernel_rfl) (fun K' hK' => ?_)
                            go_simp
                            exact hK'.out (.bool false) _ _ (by simp only [e0, e11]; kernel_rfl) ⟨hg, Below.refl _ _, rfl⟩
                          refine StepsA.cons (fun L vs w1 hl hdl hg hd => ?_) ?_
                          · have e12 : vs 12 = .bool false := hd 12 (by decide)
                            refine opTo_of (by kernel_rfl) (fun K' hK' => ?_)
                            go_simp
                            exact hK'.out (.bool false) _ _ (by simp only [e12]; kernel_rfl) ⟨hg, Below.refl _ _, rfl⟩
                          refine StepsA.cons (fun L vs w1 hl hdl hg hd => ?_) ?_
                          · have e13 : vs 13 = .bool false := hd 13 (by decide)
                            refine opTo_of (by simp only [e13]; kernel_rfl) (fun K' hK' => ?_)
                            go_simp
                            exact hK'.out (.bool false) _ _ (by simp only [e13]; kernel_rfl) ⟨hg, Below.refl _ _, rfl⟩
                          refine StepsA.cons (fun L vs w1 hl hdl hg hd => ?_) ?_
                          · have e14 : vs 14 = .bool false := hd 14 (by decide)
                            have e13 : vs 13 = .bool false := hd 13 (by decide)
                            refine opTo_of (by simp only [e13]; kernel_rfl) (fun K' hK' => ?_)
                            go_simp
                            exact hK'.out (.bool false) _ _ (by simp only [e14, e13]; kernel_rfl) ⟨hg, Below.refl _ _, rfl⟩
                          refine StepsA.cons (fun L vs w1 hl hdl hg hd => ?_) ?_
                          · have e15 : vs 15 = .bool false := hd 15 (by decide)
                            exact opTo_no (by simp only [e15]; kernel_rfl) ⟨hg, Below.refl _ _, trivial⟩
                          refine StepsA.cons (fun L vs w1 hl hdl hg hd => ?_) ?_
                          · have e15 : vs 15 = .bool false := hd 15 (by decide)
                            exact opTo_no (by simp only [e15]; kernel_rfl) ⟨hg, Below.refl _ _, trivial⟩
                          refine StepsA.cons (fun L vs w1 hl hdl hg hd => ?_) ?_
                          · have e15 : vs 15 = .bool false := hd 15 (by decide)
                            exact opTo_no (by simp only [e15]; kernel_rfl) ⟨hg, Below.refl _ _, trivial⟩
                          refine StepsA.cons (fun L vs w1 hl hdl hg hd => ?_) ?_
                          · have e15 : vs 15 = .bool false := hd 15 (by decide)
                            exact opTo_no (by simp only [e15]; kernel_rfl) ⟨hg, Below.refl _ _, trivial⟩
                          refine StepsA.cons (fun L vs w1 hl hdl hg hd => ?_) ?_
                          · have e15 : vs 15 = .bool false := hd 15 (by decide)
                            exact opTo_no (by simp only [e15]; kernel_rfl) ⟨hg, Below.refl _ _, trivial⟩
                          refine StepsA.cons (fun L vs w1 hl hdl hg hd => ?_) ?_
                          · have e15 : vs 15 = .bool false := hd 15 (by decide)
                            exact opTo_no (by simp only [e15]; kernel_rfl) ⟨hg, Below.refl _ _, trivial⟩
                          refine StepsA.cons (fun L vs w1 hl hdl hg hd => ?_) ?_
                          · have e15 : vs 15 = .bool false := hd 15 (by decide)
                            exact opTo_no (by simp only [e15]; kernel_rfl) ⟨hg, Below.refl _ _, trivial⟩
                          refine StepsA.cons (fun L vs w1 hl hdl hg hd => ?_) ?_
                          · have e15 : vs 15 = .bool false := hd 15 (by decide)
                            exact opTo_no (by simp only [e15]; kernel_rfl) ⟨hg, Below.refl _ _, trivial⟩
                          refine StepsA.cons (fun L vs w1 hl hdl hg hd => ?_) ?_
                          · have e15 : vs 15 = .bool false := hd 15 (by decide)
                            exact opTo_no (by simp only [e15]; kernel_rfl) ⟨hg, Below.refl _ _, trivial⟩
                          refine StepsA.cons (fun L vs w1 hl hdl hg hd => ?_) ?_
                          · have e15 : vs 15 = .bool false := hd 15 (by decide)
                            exact opTo_no (by simp only [e15]; kernel_rfl) ⟨hg, Below.refl _ _, trivial⟩
                          refine StepsA.cons (fun L vs w1 hl hdl hg hd => ?_) ?_
                          · have e15 : vs 15 = .bool false := hd 15 (by decide)
                            have e13 : vs 13 = .bool false := hd 13 (by decide)
                            refine opTo_of (by simp only [e13]; kernel_rfl) (fun K' hK' => ?_)
                            go_simp
                            exact hK'.out (.bool false) _ _ (by simp only [e15, e13]; kernel_rfl) ⟨hg, Below.refl _ _, rfl⟩
                          refine StepsA.cons (fun L vs w1 hl hdl hg hd => ?_) ?_
                          · have e13 : vs 13 = .bool false := hd 13 (by decide)
                            have e26 : vs 26 = .bool false := hd 26 (by decide)
                            refine opTo_of (by kernel_rfl) (fun K' hK' => ?_)
                            go_simp
                            exact hK'.out (.bool false) _ _ (by simp only [e13, e26]; kernel_rfl) ⟨hg, Below.refl _ _, rfl⟩
                          refine StepsA.cons (fun L vs w1 hl hdl hg hd => ?_) ?_
                          · have e27 : vs 27 = .bool false := hd 27 (by decide)
                            refine opTo_of (by kernel_rfl) (fun K' hK' => ?_)
                            go_simp
                            exact hK'.out (.bool false) _ _ (by simp only [e27]; kernel_rfl) ⟨hg, Below.refl _ _, rfl⟩
                          refine StepsA.cons (fun L vs w1 hl hdl hg hd => ?_) ?_
                          · have e28 : vs 28 = .bool false := hd 28 (by decide)
                            refine opTo_of (by simp only [e28]; kernel_rfl) (fun K' hK' => ?_)
                            go_simp
                            exact hK'.out (.bool false) _ _ (by simp only [e28]; kernel_rfl) ⟨hg, Below.refl _ _, rfl⟩
                          refine StepsA.cons (fun L vs w1 hl hdl hg hd => ?_) ?_
                          · have e29 : vs 29 = .bool false := hd 29 (by decide)
                            have e28 : vs 28 = .bool false := hd 28 (by decide)
                            refine opTo_of (by simp only [e28]; kernel_rfl) (fun K' hK' => ?_)
                            go_simp
                            exact hK'.out (.bool true) _ _ (by simp only [e29, e28]; kernel_rfl) ⟨hg, Below.refl _ _, rfl⟩
                          refine StepsA.cons (fun L vs w1 hl hdl hg hd => ?_) ?_
                          · have e30 : vs 30 = .bool true := hd 30 (by decide)
                            have e28 : vs 28 = .bool false := hd 28 (by decide)
                            refine opTo_of (by simp only [e28]; kernel_rfl) (fun K' hK' => ?_)
                            go_simp
                            exact hK'.out (.bool true) _ _ (by simp only [e30, e28]; kernel_rfl) ⟨hg, Below.refl _ _, rfl⟩
                          refine StepsA.cons (fun L vs w1 hl hdl hg hd => ?_) ?_
                          · have e31 : vs 31 = .bool true := hd 31 (by decide)
                            have f0 : w1.cell? ⟨G2, 0, none⟩ = some (.int .u8 Mg.zero.k) := hg.box.cell 0
                            have f1 : w1.cell? ⟨G2, 1, none⟩ = some (.int .i64 Mg.zero.fr) := hg.box.cell 1
                            have f2 : w1.cell? ⟨G2, 2, none⟩ = some (.int .i64 Mg.zero.to) := hg.box.cell 2
                            have f3 : w1.cell? ⟨G2, 3, none⟩ = some (.int .i64 Mg.zero.ht) := hg.box.cell 3
                            have f4 : w1.cell? ⟨G2, 4, none⟩ = some (.int .i64 Mg.zero.rd) := hg.box.cell 4
                            have f5 : w1.cell? ⟨G2, 5, none⟩ = some (.int .i64 Mg.zero.vl) := hg.box.cell 5
                            have f6 : w1.cell? ⟨G2, 6, none⟩ = some (.int .i64 Mg.zero.ep) := hg.box.cell 6
                            have f7 : w1.cell? ⟨G2, 7, none⟩ = some (.int .i64 Mg.zero.dl) := hg.box.cell 7
                            have f8 : w1.cell? ⟨G2, 8, none⟩ = some (.int .i64 Mg.zero.id) := hg.box.cell 8
                            have f9 : w1.cell? ⟨G2, 9, none⟩ = some (.string ⟨Mg.zero.s.toArray⟩) := hg.box.cell 9
                            have f10 : w1.cell? ⟨G2, 10, none⟩ = some (.slice a5 Mg.zero.l.length c5) := hg.box.cell 10
                            refine opTo_of (by simp only [e31]; kernel_rfl) (fun K' hK' => ?_)
                            go_simp
                            exact hK'.out (.agg #[.int .u8 Mg.zero.k, .int .i64 Mg.zero.fr, .int .i64 Mg.zero.to, .int .i64 Mg.zero.ht, .int .i64 Mg.zero.rd, .int .i64 Mg.zero.vl, .int .i64 Mg.zero.ep, .int .i64 Mg.zero.dl, .int .i64 Mg.zero.id, .string ⟨Mg.zero.s.toArray⟩, .slice a5 Mg.zero.l.length c5]) _ _ (by simp only [e31]; kernel_rfl) ⟨hg, Below.refl _ _, rfl⟩
                          refine StepsA.cons (fun L vs w1 hl hdl hg hd => ?_) ?_
                          · have e31 : vs 31 = .bool true := hd 31 (by decide)
                            refine opTo_of (by simp only [e31]; kernel_rfl) (fun K' hK' => ?_)
                            go_simp
                            exact hK'.out (.agg #[.int .u8 0, .int .i64 0, .int .i64 0, .int .i64 0, .int .i64 0, .int .i64 0, .int .i64 0, .int .i64 0, .int .i64 0, .string ⟨#[]⟩, .slice none 0 0]) _ _ (by simp only [e31]; kernel_rfl) ⟨hg, Below.refl _ _, rfl⟩
                          refine StepsA.cons (fun L vs w1 hl hdl hg hd => ?_) ?_
                          · have e31 : vs 31 = .bool true := hd 31 (by decide)
                            have e32 : vs 32 = .agg #[.int .u8 Mg.zero.k, .int .i64 Mg.zero.fr, .int .i64 Mg.zero.to, .int .i64 Mg.zero.ht, .int .i64 Mg.zero.rd, .int .i64 Mg.zero.vl, .int .i64 Mg.zero.ep, .int .i64 Mg.zero.dl, .int .i64 Mg.zero.id, .string ⟨Mg.zero.s.toArray⟩, .slice a5 Mg.zero.l.length c5] := hd 32 (by decide)
                            have e33 : vs 33 = .agg #[.int .u8 0, .int .i64 0, .int .i64 0, .int .i64 0, .int .i64 0, .int .i64 0, .int .i64 0, .int .i64 0, .int .i64 0, .string ⟨#[]⟩, .slice none 0 0] := hd 33 (by decide)
                            have HC := Lib.hid (rsame_agg Mg.zero Mg.zero a5 none c5 0 w1 hg.nums (.inl rfl) (by simp [Mg.zero]) true (same_refl Mg.zero))
                            refine opTo_of (by simp only [e31]; kernel_rfl) (fun K' hK' => ?_)
                            go_simp
                            refine Calls.mono HC.out ?_
                            rintro r w2 ⟨rfl, b2⟩
                            exact hK'.out (.bool true) _ _ (by simp only [e31, e32, e33]; kernel_rfl) ⟨hg.kept b2, b2, rfl⟩
                          refine StepsA.cons (fun L vs w1 hl hdl hg hd => ?_) ?_
                          · have e34 : vs 34 = .bool true := hd 34 (by decide)
                            have e31 : vs 31 = .bool true := hd 31 (by decide)
                            refine opTo_of (by simp only [e31]; kernel_rfl) (fun K' hK' => ?_)
                            go_simp
                            exact hK'.out (.bool false) _ _ (by simp only [e34, e31]; kernel_rfl) ⟨hg, Below.refl _ _, rfl⟩
                          refine StepsA.cons (fun L vs w1 hl hdl hg hd => ?_) ?_
                          · have e31 : vs 31 = .bool true := hd 31 (by decide)
                            have e35 : vs 35 = .bool false := hd 35 (by decide)
                            have e28 : vs 28 = .bool false := hd 28 (by decide)
                            refine opTo_of (by simp only [e28]; kernel_rfl) (fun K' hK' => ?_)
                            go_simp
                            exact hK'.out (.bool false) _ _ (by simp only [e31, e35, e28]; kernel_rfl) ⟨hg, Below.refl _ _, rfl⟩
                          refine StepsA.cons (fun L vs w1 hl hdl hg hd => ?_) ?_
                          · have e28 : vs 28 = .bool false := hd 28 (by decide)
                            have e36 : vs 36 = .bool false := hd 36 (by decide)
                            refine opTo_of (by kernel_rfl) (fun K' hK' => ?_)
                            go_simp
                            exact hK'.out (.bool false) _ _ (by simp only [e28, e36]; kernel_rfl) ⟨hg, Below.refl _ _, rfl⟩
                          exact StepsA.nil
                        case fin =>
                          intro L vs w5 hL1 hg hT
                          have e37 : vs 37 = .bool false := hT 37 (by decide)
                          have HG := Lib.hid hg
                          clear hg hT hL1 HM
                          simp only [e37]
                          clear e37
                          go_wp2_with fail
                          go_loopw [22] (fun v wz => ∃ i' : Nat, i' ≤ Mg.zero.l.length ∧ v = .int .i64 i' ∧ Blk wz G2 32 (Mg.zero.cells a5 c5) ∧ Wr wr.heap.size a5 Mg.zero.l.length wz ∧ Below wr.heap.size wr wz) (fun v _ => Mg.zero.l.length - (intOf v).toNat)
                          case atStart => exact ⟨0, Nat.zero_le _, rfl, HG.out.box, HG.out.wr, HG.out.bel⟩
                          case round =>
                            obtain ⟨i', hi', rfl, hK, hW, hB⟩ := hrel
                            clear HG
                            have p10 : wr.cell? ⟨G2, 10, none⟩ = some (.slice a5 Mg.zero.l.length c5) := hK.cell 10
                            by_cases hil : i' < Mg.zero.l.length
                            · exact absurd hil (by simp [Mg.zero])
                            · have hie : i' = Mg.zero.l.length := by omega
                              subst hie
                              go_wp2_with fail
                              go_roundw
                              case rel => exact ⟨0, by omega, by omega, by go_num, HP.out.kept hB⟩
                              case measure => simp [intOf] <;> omega
                    · by_cases hlt : k < (n2.l.length : Int)
                      · obtain ⟨i, rfl⟩ := Int.eq_ofNat_of_zero_le (show 0 ≤ k by omega)
                        have his : n2.is (i : Int) = true := Nt.is_iff.2 ⟨by omega, hlt⟩
                        have hmi := Nt.msg_at his
                        rw [Int.toNat_natCast] at hmi
                        rw [his] at HA
                        generalize n2.msg (i : Int) = m at *
                        have hml : m.l.length ≤ 9223372036854775807 := by
                          have := (Mg.may_len (HX.out.1.ok _ (List.mem_of_getElem? hmi)).2).2
                          omega
                        obtain ⟨q, a6, c6, rfl, hat, hna⟩ := RowR.at (X := fun _ => False) g3 hmi
                        have HB := Lib.hid (And.intro hbx (And.intro hat hna))
                        clear his hmi hbx g1 g2 g3 hBx hat hna hneg
                        as_aux_lemma =>
                          go_wp2_with fail
                          refine (Calls.mono HA.out ?_)
                          rintro e w2 ⟨a5, c5, rfl, own5, b5⟩
                          unfold Mg.val
                          have al : Below w2.heap.size w2 (boxed w2 m a5 c5) := boxed_below (Below.refl _ w2) (Nat.le_refl _) m a5 c5
                          have HM : PB wr w2.heap.size m a5 c5 (boxed w2 m a5 c5) := ⟨step_below b5 al, boxed_blk w2 m a5 c5, nums_step (own_nums own5) al, (Wr.of_own own5 rfl).kept al⟩
                          obtain ⟨w3, hw3⟩ : ∃ w3, w3 = boxed w2 m a5 c5 := ⟨_, rfl⟩
                          rw [← hw3] at HM
                          unfold boxed at hw3
                          have HW := Lib.hid hw3
                          have HM := Lib.hid HM
                          clear hw3 al own5 b5 HA x1
                          go_upto_region 37 with fail
                          rw [← HW.out]
                          clear HW
                          generalize w2.heap.size = G2 at *
                          refine' wp_region_invB _ (fun i' v' _ => rvalA x q i cp n2 m a5 a6 c5 c6 i' v') (fun _ w' => PB wr G2 m a5 c5 w') (fun _ wa wb => Below wa.heap.size wa wb) ?hA (by kernel_rfl) (by kernel_rfl) (by kernel_rfl) (HM.out.kept (Below.refl _ _).drew) (fun _ _ _ _ _ _ _ _ _ _ h _ => h) ?step ?fin
                          case hA =>
                            intro vs
                            conv => lhs; simp only [fillL, Act.put, List.setIfInBounds_toArray, List.set_cons_zero, List.set_cons_succ, Nat.reduceAdd]
                            try exact rfl
                          case step =>
                            refine StepsA.cons (fun L vs w1 hl hdl hg hd => ?_) ?_
                            · refine opTo_of (by kernel_rfl) (fun K' hK' => ?_)
                              go_simp
                              exact hK'.out (.bool true) _ _ (by kernel_rfl) ⟨hg, Below.refl _ _, rfl⟩
                            refine StepsA.cons (fun L vs w1 hl hdl hg hd => ?_) ?_
                            · refine opTo_of (by kernel_rfl) (fun K' hK' => ?_)
                              go_simp
                              exact hK'.out (.int .i64 (i : Int)) _ _ (by kernel_rfl) ⟨hg, Below.refl _ _, rfl⟩
                            refine StepsA.cons (fun L vs w1 hl hdl hg hd => ?_) ?_
                            · have e1 : vs 1 = .int .i64 (i : Int) := hd 1 (by decide)
                              refine opTo_of (by kernel_rfl) (fun K' hK' => ?_)
                              go_simp
                              exact hK'.out (.bool true) _ _ (by simp only [e1]; kernel_rfl) ⟨hg, Below.refl _ _, rfl⟩
                            refine StepsA.cons (fun L vs w1 hl hdl hg hd => ?_) ?_
                            · have e2 : vs 2 = .bool true := hd 2 (by decide)
                              refine opTo_of (by kernel_rfl) (fun K' hK' => ?_)
                              go_simp
                              exact hK'.out (.bool true) _ _ (by simp only [e2]; kernel_rfl) ⟨hg, Below.refl _ _, rfl⟩
                            refine StepsA.cons (fun L vs w1 hl hdl hg hd => ?_) ?_
                            · have e3 : vs 3 = .bool true := hd 3 (by decide)
                              refine opTo_of (by simp only [e3]; kernel_rfl) (fun K' hK' => ?_)
                              go_simp
                              exact hK'.out (.int .i64 (i : Int)) _ _ (by simp only [e3]; kernel_rfl) ⟨hg, Below.refl _ _, rfl⟩
                            refine StepsA.cons (fun L vs w1 hl hdl hg hd => ?_) ?_
                            · have e3 : vs 3 = .bool true := hd 3 (by decide)
                              refine opTo_of (by simp only [e3]; kernel_rfl) (fun K' hK' => ?_)
                              go_simp
                              exact hK'.out (.pointer (some ⟨x, 0, none⟩)) _ _ (by simp only [e3]; kernel_rfl) ⟨hg, Below.refl _ _, rfl⟩
                            refine StepsA.cons (fun L vs w1 hl hdl hg hd => ?_) ?_
                            · have e5 : vs 5 = .pointer (some ⟨x, 0, none⟩) := hd 5 (by decide)
                              have e3 : vs 3 = .bool true := hd 3 (by decide)
                              refine opTo_of (by simp only [e3]; kernel_rfl) (fun K' hK' => ?_)
                              go_simp
                              exact hK'.out (.pointer (some ⟨x, 0, none⟩)) _ _ (by simp only [e5, e3]; kernel_rfl) ⟨hg, Below.refl _ _, rfl⟩
                            refine StepsA.cons (fun L vs w1 hl hdl hg hd => ?_) ?_
                            · have e6 : vs 6 = .pointer (some ⟨x, 0, none⟩) := hd 6 (by decide)
                              have e3 : vs 3 = .bool true := hd 3 (by decide)
                              refine opTo_of (by simp only [e3]; kernel_rfl) (fun K' hK' => ?_)
                              go_simp
                              exact hK'.out (.pointer (some ⟨x, 1, none⟩)) _ _ (by simp only [e6, e3]; kernel_rfl) ⟨hg, Below.refl _ _, rfl⟩
                            refine StepsA.cons (fun L vs w1 hl hdl hg hd => ?_) ?_
                            · have e7 : vs 7 = .pointer (some ⟨x, 1, none⟩) := hd 7 (by decide)
                              have e3 : vs 3 = .bool true := hd 3 (by decide)
                              have x1 : w1.cell? ⟨x, 1, none⟩ = some (.slice (some ⟨q, 0, none⟩) n2.l.length cp) := (HB.out.1.kept hg.bel).cell 1
                              refine opTo_of (by simp only [e3]; kernel_rfl) (fun K' hK' => ?_)
                              go_simp
                              exact hK'.out (.slice (some ⟨q, 0, none⟩) n2.l.length cp) _ _ (by simp only [e7, e3]; kernel_rfl) ⟨hg, Below.refl _ _, rfl⟩
                            refine StepsA.cons (fun L vs w1 hl hdl hg hd => ?_) ?_
                            · have e8 : vs 8 = .slice (some ⟨q, 0, none⟩) n2.l.length cp := hd 8 (by decide)
                              have e3 : vs 3 = .bool true := hd 3 (by decide)
                              refine opTo_of (by simp only [e3]; kernel_rfl) (fun K' hK' => ?_)
                              go_simp
                              exact hK'.out (.int .i64 (n2.l.length : Int)) _ _ (by simp only [e8, e3]; kernel_rfl) ⟨hg, Below.refl _ _, rfl⟩
                            refine StepsA.cons (fun L vs w1 hl hdl hg hd => ?_) ?_
                            · have e4 : vs 4 = .int .i64 (i : Int) := hd 4 (by decide)
                              have e9 : vs 9 = .int .i64 (n2.l.length : Int) := hd 9 (by decide)
                              have e3 : vs 3 = .bool true := hd 3 (by decide)
                              refine opTo_of (by simp only [e3]; kernel_rfl) (fun K' hK' => ?_)
                              go_simp
                              exact hK'.out (.bool true) _ _ (by simp only [e4, e9, e3]; kernel_rfl) ⟨hg, Below.refl _ _, rfl⟩
                            refine StepsA.cons (fun L vs w1 hl hdl hg hd => ?_) ?_
                            · have e3 : vs 3 = .bool true := hd 3 (by decide)
                              have e10 : vs 10 = .bool true := hd 10 (by decide)
                              refine opTo_of (by kernel_rfl) (fun K' hK' => ?_)
                              go_simp
                              exact hK'.out (.bool true) _ _ (by simp only [e3, e10]; kernel_rfl) ⟨hg, Below.refl _ _, rfl⟩
                            refine StepsA.cons (fun L vs w1 hl hdl hg hd => ?_) ?_
                            · have e0 : vs 0 = .bool true := hd 0 (by decide)
                              have e11 : vs 11 = .bool true := hd 11 (by decide)
                              refine opTo_of (by kernel_rfl) (fun K' hK' => ?_)
                              go_simp
                              exact hK'.out (.bool false) _ _ (by simp only [e0, e11]; kernel_rfl) ⟨hg, Below.refl _ _, rfl⟩
                            refine StepsA.cons (fun L vs w1 hl hdl hg hd => ?_) ?_
                            · have e12 : vs 12 = .bool false := hd 12 (by decide)
                              refine opTo_of (by kernel_rfl) (fun K' hK' => ?_)
                              go_simp
                              exact hK'.out (.bool false) _ _ (by simp only [e12]; kernel_rfl) ⟨hg, Below.refl _ _, rfl⟩
                            refine StepsA.cons (fun L vs w1 hl hdl hg hd => ?_) ?_
                            · have e13 : vs 13 = .bool false := hd 13 (by decide)
                              refine opTo_of (by simp only [e13]; kernel_rfl) (fun K' hK' => ?_)
                              go_simp
                              exact hK'.out (.bool true) _ _ (by simp only [e13]; kernel_rfl) ⟨hg, Below.refl _ _, rfl⟩
                            refine StepsA.cons (fun L vs w1 hl hdl hg hd => ?_) ?_
                            · have e14 : vs 14 = .bool true := hd 14 (by decide)
                              have e13 : vs 13 = .bool false := hd 13 (by decide)
                              refine opTo_of (by simp only [e13]; kernel_rfl) (fun K' hK' => ?_)
                              go_simp
                              exact hK'.out (.bool true) _ _ (by simp only [e14, e13]; kernel_rfl) ⟨hg, Below.refl _ _, rfl⟩
                            refine StepsA.cons (fun L vs w1 hl hdl hg hd => ?_) ?_
                            · have e15 : vs 15 = .bool true := hd 15 (by decide)
                              have f0 : w1.cell? ⟨G2, 0, none⟩ = some (.int .u8 m.k) := hg.box.cell 0
                              have f1 : w1.cell? ⟨G2, 1, none⟩ = some (.int .i64 m.fr) := hg.box.cell 1
                              have f2 : w1.cell? ⟨G2, 2, none⟩ = some (.int .i64 m.to) := hg.box.cell 2
                              have f3 : w1.cell? ⟨G2, 3, none⟩ = some (.int .i64 m.ht) := hg.box.cell 3
                              have f4 : w1.cell? ⟨G2, 4, none⟩ = some (.int .i64 m.rd) := hg.box.cell 4
                              have f5 : w1.cell? ⟨G2, 5, none⟩ = some (.int .i64 m.vl) := hg.box.cell 5
                              have f6 : w1.cell? ⟨G2, 6, none⟩ = some (.int .i64 m.ep) := hg.box.cell 6
                              have f7 : w1.cell? ⟨G2, 7, none⟩ = some (.int .i64 m.dl) := hg.box.cell 7
                              have f8 : w1.cell? ⟨G2, 8, none⟩ = some (.int .i64 m.id) := hg.box.cell 8
                              have f9 : w1.cell? ⟨G2, 9, none⟩ = some (.string ⟨m.s.toArray⟩) := hg.box.cell 9
                              have f10 : w1.cell? ⟨G2, 10, none⟩ = some (.slice a5 m.l.length c5) := hg.box.cell 10
                              refine opTo_of (by simp only [e15]; kernel_rfl) (fun K' hK' => ?_)
                              go_simp
                              exact hK'.out (.agg #[.int .u8 m.k, .int .i64 m.fr, .int .i64 m.to, .int .i64 m.ht, .int .i64 m.rd, .int .i64 m.vl, .int .i64 m.ep, .int .i64 m.dl, .int .i64 m.id, .string ⟨m.s.toArray⟩, .slice a5 m.l.length c5]) _ _ (by simp only [e15]; kernel_rfl) ⟨hg, Below.refl _ _, rfl⟩
                            refine StepsA.cons (fun L vs w1 hl hdl hg hd => ?_) ?_
                            · have e15 : vs 15 = .bool true := hd 15 (by decide)
                              refine opTo_of (by simp only [e15]; kernel_rfl) (fun K' hK' => ?_)
                              go_simp
                              exact hK'.out (.pointer (some ⟨x, 0, none⟩)) _ _ (by simp only [e15]; kernel_rfl) ⟨hg, Below.refl _ _, rfl⟩
                            refine StepsA.cons (fun L vs w1 hl hdl hg hd => ?_) ?_
                            · have e17 : vs 17 = .pointer (some ⟨x, 0, none⟩) := hd 17 (by decide)
                              have e15 : vs 15 = .bool true := hd 15 (by decide)
                              refine opTo_of (by simp only [e15]; kernel_rfl) (fun K' hK' => ?_)
                              go_simp
                              exact hK'.out (.pointer (some ⟨x, 0, none⟩)) _ _ (by simp only [e17, e15]; kernel_rfl) ⟨hg, Below.refl _ _, rfl⟩
                            refine StepsA.cons (fun L vs w1 hl hdl hg hd => ?_) ?_
                            · have e18 : vs 18 = .pointer (some ⟨x, 0, none⟩) := hd 18 (by decide)
                              have e15 : vs 15 = .bool true := hd 15 (by decide)
                              refine opTo_of (by simp only [e15]; kernel_rfl) (fun K' hK' => ?_)
                              go_simp
                              exact hK'.out (.pointer (some ⟨x, 1, none⟩)) _ _ (by simp only [e18, e15]; kernel_rfl) ⟨hg, Below.refl _ _, rfl⟩
                            refine StepsA.cons (fun L vs w1 hl hdl hg hd => ?_) ?_
                            · have e19 : vs 19 = .pointer (some ⟨x, 1, none⟩) := hd 19 (by decide)
                              have e15 : vs 15 = .bool true := hd 15 (by decide)
                              have x1 : w1.cell? ⟨x, 1, none⟩ = some (.slice (some ⟨q, 0, none⟩) n2.l.length cp) := (HB.out.1.kept hg.bel).cell 1
                              refine opTo_of (by simp only [e15]; kernel_rfl) (fun K' hK' => ?_)
                              go_simp
                              exact hK'.out (.slice (some ⟨q, 0, none⟩) n2.l.length cp) _ _ (by simp only [e19, e15]; kernel_rfl) ⟨hg, Below.refl _ _, rfl⟩
                            refine StepsA.cons (fun L vs w1 hl hdl hg hd => ?_) ?_
                            · have e15 : vs 15 = .bool true := hd 15 (by decide)
                              refine opTo_of (by simp only [e15]; kernel_rfl) (fun K' hK' => ?_)
                              go_simp
                              exact hK'.out (.int .i64 (i : Int)) _ _ (by simp only [e15]; kernel_rfl) ⟨hg, Below.refl _ _, rfl⟩
                            refine StepsA.cons (fun L vs w1 hl hdl hg hd => ?_) ?_
                            · have e20 : vs 20 = .slice (some ⟨q, 0, none⟩) n2.l.length cp := hd 20 (by decide)
                              have e21 : vs 21 = .int .i64 (i : Int) := hd 21 (by decide)
                              have e15 : vs 15 = .bool true := hd 15 (by decide)
                              refine opTo_of (by simp only [e15]; kernel_rfl) (fun K' hK' => ?_)
                              go_simp
                              exact hK'.out (.pointer (some ⟨q, i * 11, none⟩)) _ _ (by simp only [e20, e21, e15]; kernel_rfl) ⟨hg, Below.refl _ _, rfl⟩
                            refine StepsA.cons (fun L vs w1 hl hdl hg hd => ?_) ?_
                            · have e22 : vs 22 = .pointer (some ⟨q, i * 11, none⟩) := hd 22 (by decide)
                              have e15 : vs 15 = .bool true := hd 15 (by decide)
                              obtain ⟨g0, g1, g2, g3, g4, g5, g6, g7, g8, g9, g10⟩ := same_place' HB.out.2.1 hg.bel
                              refine opTo_of (by simp only [e15]; kernel_rfl) (fun K' hK' => ?_)
                              go_simp
                              exact hK'.out (.agg #[.int .u8 m.k, .int .i64 m.fr, .int .i64 m.to, .int .i64 m.ht, .int .i64 m.rd, .int .i64 m.vl, .int .i64 m.ep, .int .i64 m.dl, .int .i64 m.id, .string ⟨m.s.toArray⟩, .slice a6 m.l.length c6]) _ _ (by simp only [e22, e15]; kernel_rfl) ⟨hg, Below.refl _ _, rfl⟩
                            refine StepsA.cons (fun L vs w1 hl hdl hg hd => ?_) ?_
                            · have e15 : vs 15 = .bool true := hd 15 (by decide)
                              have e16 : vs 16 = .agg #[.int .u8 m.k, .int .i64 m.fr, .int .i64 m.to, .int .i64 m.ht, .int .i64 m.rd, .int .i64 m.vl, .int .i64 m.ep, .int .i64 m.dl, .int .i64 m.id, .string ⟨m.s.toArray⟩, .slice a5 m.l.length c5] := hd 16 (by decide)
                              have e23 : vs 23 = .agg #[.int .u8 m.k, .int .i64 m.fr, .int .i64 m.to, .int .i64 m.ht, .int .i64 m.rd, .int .i64 m.vl, .int .i64 m.ep, .int .i64 m.dl, .int .i64 m.id, .string ⟨m.s.toArray⟩, .slice a6 m.l.length c6] := hd 23 (by decide)
                              have HC := Lib.hid (rsame_agg m m a5 a6 c5 c6 w1 hg.nums ((HB.out.2.2.kept hg.bel (Nat.le_refl _)).more hg.bel.size) hml true (same_refl m))
                              refine opTo_of (by simp only [e15]; kernel_rfl) (fun K' hK' => ?_)
                              go_simp
                              refine Calls.mono HC.out ?_
                              rintro r w2 ⟨rfl, b2⟩
                              exact hK'.out (.bool true) _ _ (by simp only [e15, e16, e23]; kernel_rfl) ⟨hg.kept b2, b2, rfl⟩
                            refine StepsA.cons (fun L vs w1 hl hdl hg hd => ?_) ?_
                            · have e24 : vs 24 = .bool true := hd 24 (by decide)
                              have e15 : vs 15 = .bool true := hd 15 (by decide)
                              refine opTo_of (by simp only [e15]; kernel_rfl) (fun K' hK' => ?_)
                              go_simp
                              exact hK'.out (.bool false) _ _ (by simp only [e24, e15]; kernel_rfl) ⟨hg, Below.refl _ _, rfl⟩
                            refine StepsA.cons (fun L vs w1 hl hdl hg hd => ?_) ?_
                            · have e15 : vs 15 = .bool true := hd 15 (by decide)
                              have e25 : vs 25 = .bool false := hd 25 (by decide)
                              have e13 : vs 13 = .bool false := hd 13 (by decide)
                              refine opTo_of (by simp only [e13]; kernel_rfl) (fun K' hK' => ?_)
                              go_simp
                              exact hK'.out (.bool false) _ _ (by simp only [e15, e25, e13]; kernel_rfl) ⟨hg, Below.refl _ _, rfl⟩
                            refine StepsA.cons (fun L vs w1 hl hdl hg hd => ?_) ?_
                            · have e13 : vs 13 = .bool false := hd 13 (by decide)
                              have e26 : vs 26 = .bool false := hd 26 (by decide)
                              refine opTo_of (by kernel_rfl) (fun K' hK' => ?_)
                              go_simp
                              exact hK'.out (.bool false) _ _ (by simp only [e13, e26]; kernel_rfl) ⟨hg, Below.refl _ _, rfl⟩
                            refine StepsA.cons (fun L vs w1 hl hdl hg hd => ?_) ?_
                            · have e27 : vs 27 = .bool false := hd 27 (by decide)
                              refine opTo_of (by kernel_rfl) (fun K' hK' => ?_)
                              go_simp
                              exact hK'.out (.bool false) _ _ (by simp only [e27]; kernel_rfl) ⟨hg, Below.refl _ _, rfl⟩
                            refine StepsA.cons (fun L vs w1 hl hdl hg hd => ?_) ?_
                            · have e28 : vs 28 = .bool false := hd 28 (by decide)
                              refine opTo_of (by simp only [e28]; kernel_rfl) (fun K' hK' => ?_)
                              go_simp
                              exact hK'.out (.bool true) _ _ (by simp only [e28]; kernel_rfl) ⟨hg, Below.refl _ _, rfl⟩
                            refine StepsA.cons (fun L vs w1 hl hdl hg hd => ?_) ?_
                            · have e29 : vs 29 = .bool true := hd 29 (by decide)
                              have e28 : vs 28 = .bool false := hd 28 (by decide)
                              refine opTo_of (by simp only [e28]; kernel_rfl) (fun K' hK' => ?_)
                              go_simp
                              exact hK'.out (.bool false) _ _ (by simp only [e29, e28]; kernel_rfl) ⟨hg, Below.refl _ _, rfl⟩
                            refine StepsA.cons (fun L vs w1 hl hdl hg hd => ?_) ?_
                            · have e30 : vs 30 = .bool false := hd 30 (by decide)
                              have e28 : vs 28 = .bool false := hd 28 (by decide)
                              refine opTo_of (by simp only [e28]; kernel_rfl) (fun K' hK' => ?_)
                              go_simp
                              exact hK'.out (.bool false) _ _ (by simp only [e30, e28]; kernel_rfl) ⟨hg, Below.refl _ _, rfl⟩
                            refine StepsA.cons (fun L vs w1 hl hdl hg hd => ?_) ?_
                            · have e31 : vs 31 = .bool false := hd 31 (by decide)
                              exact opTo_no (by simp only [e31]; kernel_rfl) ⟨hg, Below.refl _ _, trivial⟩
                            refine StepsA.cons (fun L vs w1 hl hdl hg hd => ?_) ?_
                            · have e31 : vs 31 = .bool false := hd 31 (by decide)
                              exact opTo_no (by simp only [e31]; kernel_rfl) ⟨hg, Below.refl _ _, trivial⟩
                            refine StepsA.cons (fun L vs w1 hl hdl hg hd => ?_) ?_
                            · have e31 : vs 31 = .bool false := hd 31 (by decide)
                              exact opTo_no (by simp only [e31]; kernel_rfl) ⟨hg, Below.refl _ _, trivial⟩
                            refine StepsA.cons (fun L vs w1 hl hdl hg hd => ?_) ?_
                            · have e31 : vs 31 = .bool false := hd 31 (by decide)
                              exact opTo_no (by simp only [e31]; kernel_rfl) ⟨hg, Below.refl _ _, trivial⟩
                            refine StepsA.cons (fun L vs w1 hl hdl hg hd => ?_) ?_
                            · have e31 : vs 31 = .bool false := hd 31 (by decide)
                              have e28 : vs 28 = .bool false := hd 28 (by decide)
                              refine opTo_of (by simp only [e28]; kernel_rfl) (fun K' hK' => ?_)
                              go_simp
                              exact hK'.out (.bool false) _ _ (by simp only [e31, e28]; kernel_rfl) ⟨hg, Below.refl _ _, rfl⟩
                            refine StepsA.cons (fun L vs w1 hl hdl hg hd => ?_) ?_
                            · have e28 : vs 28 = .bool false := hd 28 (by decide)
                              have e36 : vs 36 = .bool false := hd 36 (by decide)
                              refine opTo_of (by kernel_rfl) (fun K' hK' => ?_)
                              go_simp
                              exact hK'.out (.bool false) _ _ (by simp only [e28, e36]; kernel_rfl) ⟨hg, Below.refl _ _, rfl⟩
                            exact StepsA.nil
                          case fin =>
                            intro L vs w5 hL1 hg hT
                            have e37 : vs 37 = .bool false := hT 37 (by decide)
                            have HG := Lib.hid hg
                            clear hg hT hL1 HM
                            simp only [e37]
                            clear e37
                            go_wp2_with fail
                            go_loopw [22] (fun v wz => ∃ i' : Nat, i' ≤ m.l.length ∧ v = .int .i64 i' ∧ Blk wz G2 32 (m.cells a5 c5) ∧ Wr wr.heap.size a5 m.l.length wz ∧ Below wr.heap.size wr wz) (fun v _ => m.l.length - (intOf v).toNat)
                            case atStart => exact ⟨0, Nat.zero_le _, rfl, HG.out.box, HG.out.wr, HG.out.bel⟩
                            case round =>
                              obtain ⟨i', hi', rfl, hK, hW, hB⟩ := hrel
                              clear HG
                              have p10 : wr.cell? ⟨G2, 10, none⟩ = some (.slice a5 m.l.length c5) := hK.cell 10
                              by_cases hil : i' < m.l.length
                              · rcases hW with h0 | ⟨q9, cur, ha, hq, hQ, hn⟩
                                · omega
                                subst ha
                                obtain ⟨u, hu⟩ : ∃ u, cur[i']? = some u := ⟨_, Array.getElem?_eq_getElem (by omega)⟩
                                have q1 : wr.cell? ⟨q9, i', none⟩ = some u := by rw [hQ.cell]; exact hu
                                have q2 : wr.frozen? ⟨q9, i', none⟩ = false := hQ.frozen i'
                                have n1 : G2 ≠ q9 := Blk.ne_ hK hQ (by decide)
                                have hiI : (i' : Int) < (m.l.length : Int) := by omega
                                clear hu
                                go_wp2_with fail
                                go_roundw
                                case rel => exact ⟨i' + 1, by omega, by go_num, hK.farc n1 _, .inr ⟨q9, _, rfl, hq, hQ.set_ i' _, by simpa using hn⟩, hB.setCell (p := ⟨q9, i', none⟩) hq _⟩
                                case measure => simp [intOf]; omega
                              · have hie : i' = m.l.length := by omega
                                subst hie
                                go_wp2_with fail
                                go_roundw
                                case rel => exact ⟨(i : Int) + 1, by omega, by omega, by go_num, HP.out.kept hB⟩
                                case measure => simp [intOf] <;> omega
                      · obtain rfl : k = (n2.l.length : Int) := by omega
                        have e1 : n2.is (n2.l.length : Int) = false := by simp [Nt.is]
                        rw [Nt.msg_no e1, e1] at HA
                        clear e1 hbx g1 g2 g3 hBx hneg hlt
                        as_aux_lemma =>
                          go_wp2_with fail
                          refine (Calls.mono HA.out ?_)
                          rintro e w2 ⟨a5, c5, rfl, own5, b5⟩
                          unfold Mg.val
                          have al : Below w2.heap.size w2 (boxed w2 Mg.zero a5 c5) := boxed_below (Below.refl _ w2) (Nat.le_refl _) Mg.zero a5 c5
                          have HM : PB wr w2.heap.size Mg.zero a5 c5 (boxed w2 Mg.zero a5 c5) := ⟨step_below b5 al, boxed_blk w2 Mg.zero a5 c5, nums_step (own_nums own5) al, (Wr.of_own own5 rfl).kept al⟩
                          obtain ⟨w3, hw3⟩ : ∃ w3, w3 = boxed w2 Mg.zero a5 c5 := ⟨_, rfl⟩
                          rw [← hw3] at HM
                          unfold boxed at hw3
                          have HW := Lib.hid hw3
                          have HM := Lib.hid HM
                          clear hw3 al own5 b5 HA x1
                          go_upto_region 37 with fail
                          rw [← HW.out]
                          clear HW
                          generalize w2.heap.size = G2 at *
                          refine' wp_region_invB _ (fun i' v' _ => rvalC x n2 a5 c5 i' v') (fun _ w' => PB wr G2 Mg.zero a5 c5 w') (fun _ wa wb => Below wa.heap.size wa wb) ?hA (by kernel_rfl) (by kernel_rfl) (by kernel_rfl) (HM.out.kept (Below.refl _ _).drew) (fun _ _ _ _ _ _ _ _ _ _ h _ => h) ?step ?fin
                          case hA =>
                            intro vs
                            conv => lhs; simp only [fillL, Act.put, List.setIfInBounds_toArray, List.set_cons_zero, List.set_cons_succ, Nat.reduceAdd]
                            try exact rfl
                          case step =>
                            refine StepsA.cons (fun L vs w1 hl hdl hg hd => ?_) ?_
                            · refine opTo_of (by kernel_rfl) (fun K' hK' => ?_)
                              go_simp
                              exact hK'.out (.bool false) _ _ (by kernel_rfl) ⟨hg, Below.refl _ _, rfl⟩
                            refine StepsA.cons (fun L vs w1 hl hdl hg hd => ?_) ?_
                            · refine opTo_of (by kernel_rfl) (fun K' hK' => ?_)
                              go_simp
                              exact hK'.out (.int .i64 (n2.l.length : Int)) _ _ (by kernel_rfl) ⟨hg, Below.refl _ _, rfl⟩
                            refine StepsA.cons (fun L vs w1 hl hdl hg hd => ?_) ?_
                            · have e1 : vs 1 = .int .i64 (n2.l.length : Int) := hd 1 (by decide)
                              refine opTo_of (by kernel_rfl) (fun K' hK' => ?_)
                              go_simp
                              exact hK'.out (.bool true) _ _ (by simp only [e1]; kernel_rfl) ⟨hg, Below.refl _ _, rfl⟩
                            refine StepsA.cons (fun L vs w1 hl hdl hg hd => ?_) ?_
                            · have e2 : vs 2 = .bool true := hd 2 (by decide)
                              refine opTo_of (by kernel_rfl) (fun K' hK' => ?_)
                              go_simp
                              exact hK'.out (.bool true) _ _ (by simp only [e2]; kernel_rfl) ⟨hg, Below.refl _ _, rfl⟩
                            refine StepsA.cons (fun L vs w1 hl hdl hg hd => ?_) ?_
                            · have e3 : vs 3 = .bool true := hd 3 (by decide)
                              refine opTo_of (by simp only [e3]; kernel_rfl) (fun K' hK' => ?_)
                              go_simp
                              exact hK'.out (.int .i64 (n2.l.length : Int)) _ _ (by simp only [e3]; kernel_rfl) ⟨hg, Below.refl _ _, rfl⟩
                            refine StepsA.cons (fun L vs w1 hl hdl hg hd => ?_) ?_
                            · have e3 : vs 3 = .bool true := hd 3 (by decide)
                              refine opTo_of (by simp only [e3]; kernel_rfl) (fun K' hK' => ?_)
                              go_simp
                              exact hK'.out (.pointer (some ⟨x, 0, none⟩)) _ _ (by simp only [e3]; kernel_rfl) ⟨hg, Below.refl _ _, rfl⟩
                            refine StepsA.cons (fun L vs w1 hl hdl hg hd => ?_) ?_
                            · have e5 : vs 5 = .pointer (some ⟨x, 0, none⟩) := hd 5 (by decide)
                              have e3 : vs 3 = .bool true := hd 3 (by decide)
                              refine opTo_of (by simp only [e3]; kernel_rfl) (fun K' hK' => ?_)
                              go_simp
                              exact hK'.out (.pointer (some ⟨x, 0, none⟩)) _ _ (by simp only [e5, e3]; kernel_rfl) ⟨hg, Below.refl _ _, rfl⟩
                            refine StepsA.cons (fun L vs w1 hl hdl hg hd => ?_) ?_
                            · have e6 : vs 6 = .pointer (some ⟨x, 0, none⟩) := hd 6 (by decide)
                              have e3 : vs 3 = .bool true := hd 3 (by decide)
                              refine opTo_of (by simp only [e3]; kernel_rfl) (fun K' hK' => ?_)
                              go_simp
                              exact hK'.out (.pointer (some ⟨x, 1, none⟩)) _ _ (by simp only [e6, e3]; kernel_rfl) ⟨hg, Below.refl _ _, rfl⟩
                            refine StepsA.cons (fun L vs w1 hl hdl hg hd => ?_) ?_
                            · have e7 : vs 7 = .pointer (some ⟨x, 1, none⟩) := hd 7 (by decide)
                              have e3 : vs 3 = .bool true := hd 3 (by decide)
                              obtain ⟨hBx, ad, cp, hbx, -, -, -⟩ := (HP.out.kept hg.bel).ref
                              have x1 : w1.cell? ⟨x, 1, none⟩ = some (.slice ad n2.l.length cp) := hbx.cell 1
                              refine opTo_of (by simp only [e3]; kernel_rfl) (fun K' hK' => ?_)
                              go_simp
                              exact hK'.out (.slice ad n2.l.length cp) _ _ (by simp only [e7, e3]; kernel_rfl) ⟨hg, Below.refl _ _, ad, cp, rfl⟩
                            refine StepsA.cons (fun L vs w1 hl hdl hg hd => ?_) ?_
                            · have e3 : vs 3 = .bool true := hd 3 (by decide)
                              obtain ⟨ad, cp, e8⟩ := hd 8 (by decide)
                              have e8 : vs 8 = .slice ad n2.l.length cp := e8
                              refine opTo_of (by simp only [e3]; kernel_rfl) (fun K' hK' => ?_)
                              go_simp
                              exact hK'.out (.int .i64 (n2.l.length : Int)) _ _ (by simp only [e3, e8]; kernel_rfl) ⟨hg, Below.refl _ _, rfl⟩
                            refine StepsA.cons (fun L vs w1 hl hdl hg hd => ?_) ?_
                            · have e4 : vs 4 = .int .i64 (n2.l.length : Int) := hd 4 (by decide)
                              have e9 : vs 9 = .int .i64 (n2.l.length : Int) := hd 9 (by decide)
                              have e3 : vs 3 = .bool true := hd 3 (by decide)
                              refine opTo_of (by simp only [e3]; kernel_rfl) (fun K' hK' => ?_)
                              go_simp
                              exact hK'.out (.bool false) _ _ (by simp only [e4, e9, e3]; kernel_rfl) ⟨hg, Below.refl _ _, rfl⟩
                            refine StepsA.cons (fun L vs w1 hl hdl hg hd => ?_) ?_
                            · have e3 : vs 3 = .bool true := hd 3 (by decide)
                              have e10 : vs 10 = .bool false := hd 10 (by decide)
                              refine opTo_of (by kernel_rfl) (fun K' hK' => ?_)
                              go_simp
                              exact hK'.out (.bool false) _ _ (by simp only [e3, e10]; kernel_rfl) ⟨hg, Below.refl _ _, rfl⟩
                            refine StepsA.cons (fun L vs w1 hl hdl hg hd => ?_) ?_
                            · have e0 : vs 0 = .bool false := hd 0 (by decide)
                              have e11 : vs 11 = .bool false := hd 11 (by decide)
                              refine opTo_of (by kernel_rfl) (fun K' hK' => ?_)
                              go_simp
                              exact hK'.out (.bool false) _ _ (by simp only [e0, e11]; kernel_rfl) ⟨hg, Below.refl _ _, rfl⟩
                            refine StepsA.cons (fun L vs w1 hl hdl hg hd => ?_) ?_
                            · have e12 : vs 12 = .bool false := hd 12 (by decide)
                              refine opTo_of (by kernel_rfl) (fun K' hK' => ?_)
                              go_simp
                              exact hK'.out (.bool false) _ _ (by simp only [e12]; kernel_rfl) ⟨hg, Below.refl _ _, rfl⟩
                            refine StepsA.cons (fun L vs w1 hl hdl hg hd => ?_) ?_
                            · have e13 : vs 13 = .bool false := hd 13 (by decide)
                              refine opTo_of (by simp only [e13]; kernel_rfl) (fun K' hK' => ?_)
                              go_simp
                              exact hK'.out (.bool false) _ _ (by simp only [e13]; kernel_rfl) ⟨hg, Below.refl _ _, rfl⟩
                            refine StepsA.cons (fun L vs w1 hl hdl hg hd => ?_) ?_
                            · have e14 : vs 14 = .bool false := hd 14 (by decide)
                              have e13 : vs 13 = .bool false := hd 13 (by decide)
                              refine opTo_of (by simp only [e13]; kernel_rfl) (fun K' hK' => ?_)
                              go_simp
                              exact hK'.out (.bool false) _ _ (by simp only [e14, e13]; kernel_rfl) ⟨hg, Below.refl _ _, rfl⟩
                            refine StepsA.cons (fun L vs w1 hl hdl hg hd => ?_) ?_
                            · have e15 : vs 15 = .bool false := hd 15 (by decide)
                              exact opTo_no (by simp only [e15]; kernel_rfl) ⟨hg, Below.refl _ _, trivial⟩
                            refine StepsA.cons (fun L vs w1 hl hdl hg hd => ?_) ?_
                            · have e15 : vs 15 = .bool false := hd 15 (by decide)
                              exact opTo_no (by simp only [e15]; kernel_rfl) ⟨hg, Below.refl _ _, trivial⟩
                            refine StepsA.cons (fun L vs w1 hl hdl hg hd => ?_) ?_
                            · have e15 : vs 15 = .bool false := hd 15 (by decide)
                              exact opTo_no (by simp only [e15]; kernel_rfl) ⟨hg, Below.refl _ _, trivial⟩
                            refine StepsA.cons (fun L vs w1 hl hdl hg hd => ?_) ?_
                            · have e15 : vs 15 = .bool false := hd 15 (by decide)
                              exact opTo_no (by simp only [e15]; kernel_rfl) ⟨hg, Below.refl _ _, trivial⟩
                            refine StepsA.cons (fun L vs w1 hl hdl hg hd => ?_) ?_
                            · have e15 : vs 15 = .bool false := hd 15 (by decide)
                              exact opTo_no (by simp only [e15]; kernel_rfl) ⟨hg, Below.refl _ _, trivial⟩
                            refine StepsA.cons (fun L vs w1 hl hdl hg hd => ?_) ?_
                            · have e15 : vs 15 = .bool false := hd 15 (by decide)
                              exact opTo_no (by simp only [e15]; kernel_rfl) ⟨hg, Below.refl _ _, trivial⟩
                            refine StepsA.cons (fun L vs w1 hl hdl hg hd => ?_) ?_
                            · have e15 : vs 15 = .bool false := hd 15 (by decide)
                              exact opTo_no (by simp only [e15]; kernel_rfl) ⟨hg, Below.refl _ _, trivial⟩
                            refine StepsA.cons (fun L vs w1 hl hdl hg hd => ?_) ?_
                            · have e15 : vs 15 = .bool false := hd 15 (by decide)
                              exact opTo_no (by simp only [e15]; kernel_rfl) ⟨hg, Below.refl _ _, trivial⟩
                            refine StepsA.cons (fun L vs w1 hl hdl hg hd => ?_) ?_
                            · have e15 : vs 15 = .bool false := hd 15 (by decide)
                              exact opTo_no (by simp only [e15]; kernel_rfl) ⟨hg, Below.refl _ _, trivial⟩
                            refine StepsA.cons (fun L vs w1 hl hdl hg hd => ?_) ?_
                            · have e15 : vs 15 = .bool false := hd 15 (by decide)
                              exact opTo_no (by simp only [e15]; kernel_rfl) ⟨hg, Below.refl _ _, trivial⟩
                            refine StepsA.cons (fun L vs w1 hl hdl hg hd => ?_) ?_
                            · have e15 : vs 15 = .bool false := hd 15 (by decide)
                              have e13 : vs 13 = .bool false := hd 13 (by decide)
                              refine opTo_of (by simp only [e13]; kernel_rfl) (fun K' hK' => ?_)
                              go_simp
                              exact hK'.out (.bool false) _ _ (by simp only [e15, e13]; kernel_rfl) ⟨hg, Below.refl _ _, rfl⟩
                            refine StepsA.cons (fun L vs w1 hl hdl hg hd => ?_) ?_
                            · have e13 : vs 13 = .bool false := hd 13 (by decide)
                              have e26 : vs 26 = .bool false := hd 26 (by decide)
                              refine opTo_of (by kernel_rfl) (fun K' hK' => ?_)
                              go_simp
                              exact hK'.out (.bool false) _ _ (by simp only [e13, e26]; kernel_rfl) ⟨hg, Below.refl _ _, rfl⟩
                            refine StepsA.cons (fun L vs w1 hl hdl hg hd => ?_) ?_
                            · have e27 : vs 27 = .bool false := hd 27 (by decide)
                              refine opTo_of (by kernel_rfl) (fun K' hK' => ?_)
                              go_simp
                              exact hK'.out (.bool false) _ _ (by simp only [e27]; kernel_rfl) ⟨hg, Below.refl _ _, rfl⟩
                            refine StepsA.cons (fun L vs w1 hl hdl hg hd => ?_) ?_
                            · have e28 : vs 28 = .bool false := hd 28 (by decide)
                              refine opTo_of (by simp only [e28]; kernel_rfl) (fun K' hK' => ?_)
                              go_simp
                              exact hK'.out (.bool false) _ _ (by simp only [e28]; kernel_rfl) ⟨hg, Below.refl _ _, rfl⟩
                            refine StepsA.cons (fun L vs w1 hl hdl hg hd => ?_) ?_
                            · have e29 : vs 29 = .bool false := hd 29 (by decide)
                              have e28 : vs 28 = .bool false := hd 28 (by decide)
                              refine opTo_of (by simp only [e28]; kernel_rfl) (fun K' hK' => ?_)
                              go_simp
                              exact hK'.out (.bool true) _ _ (by simp only [e29, e28]; kernel_rfl) ⟨hg, Below.refl _ _, rfl⟩
                            refine StepsA.cons (fun L vs w1 hl hdl hg hd => ?_) ?_
                            · have e30 : vs 30 = .bool true := hd 30 (by decide)
                              have e28 : vs 28 = .bool false := hd 28 (by decide)
                              refine opTo_of (by simp only [e28]; kernel_rfl) (fun K' hK' => ?_)
                              go_simp
                              exact hK'.out (.bool true) _ _ (by simp only [e30, e28]; kernel_rfl) ⟨hg, Below.refl _ _, rfl⟩
                            refine StepsA.cons (fun L vs w1 hl hdl hg hd => ?_) ?_
                            · have e31 : vs 31 = .bool true := hd 31 (by decide)
                              have f0 : w1.cell? ⟨G2, 0, none⟩ = some (.int .u8 Mg.zero.k) := hg.box.cell 0
                              have f1 : w1.cell? ⟨G2, 1, none⟩ = some (.int .i64 Mg.zero.fr) := hg.box.cell 1
                              have f2 : w1.cell? ⟨G2, 2, none⟩ = some (.int .i64 Mg.zero.to) := hg.box.cell 2
                              have f3 : w1.cell? ⟨G2, 3, none⟩ = some (.int .i64 Mg.zero.ht) := hg.box.cell 3
                              have f4 : w1.cell? ⟨G2, 4, none⟩ = some (.int .i64 Mg.zero.rd) := hg.box.cell 4
                              have f5 : w1.cell? ⟨G2, 5, none⟩ = some (.int .i64 Mg.zero.vl) := hg.box.cell 5
                              have f6 : w1.cell? ⟨G2, 6, none⟩ = some (.int .i64 Mg.zero.ep) := hg.box.cell 6
                              have f7 : w1.cell? ⟨G2, 7, none⟩ = some (.int .i64 Mg.zero.dl) := hg.box.cell 7
                              have f8 : w1.cell? ⟨G2, 8, none⟩ = some (.int .i64 Mg.zero.id) := hg.box.cell 8
                              have f9 : w1.cell? ⟨G2, 9, none⟩ = some (.string ⟨Mg.zero.s.toArray⟩) := hg.box.cell 9
                              have f10 : w1.cell? ⟨G2, 10, none⟩ = some (.slice a5 Mg.zero.l.length c5) := hg.box.cell 10
                              refine opTo_of (by simp only [e31]; kernel_rfl) (fun K' hK' => ?_)
                              go_simp
                              exact hK'.out (.agg #[.int .u8 Mg.zero.k, .int .i64 Mg.zero.fr, .int .i64 Mg.zero.to, .int .i64 Mg.zero.ht, .int .i64 Mg.zero.rd, .int .i64 Mg.zero.vl, .int .i64 Mg.zero.ep, .int .i64 Mg.zero.dl, .int .i64 Mg.zero.id, .string ⟨Mg.zero.s.toArray⟩, .slice a5 Mg.zero.l.length c5]) _ _ (by simp only [e31]; kernel_rfl) ⟨hg, Below.refl _ _, rfl⟩
                            refine StepsA.cons (fun L vs w1 hl hdl hg hd => ?_) ?_
                            · have e31 : vs 31 = .bool true := hd 31 (by decide)
                              refine opTo_of (by simp only [e31]; kernel_rfl) (fun K' hK' => ?_)
                              go_simp
                              exact hK'.out (.agg #[.int .u8 0, .int .i64 0, .int .i64 0, .int .i64 0, .int .i64 0, .int .i64 0, .int .i64 0, .int .i64 0, .int .i64 0, .string ⟨#[]⟩, .slice none 0 0]) _ _ (by simp only [e31]; kernel_rfl) ⟨hg, Below.refl _ _, rfl⟩
                            refine StepsA.cons (fun L vs w1 hl hdl hg hd => ?_) ?_
                            · have e31 : vs 31 = .bool true := hd 31 (by decide)
                              have e32 : vs 32 = .agg #[.int .u8 Mg.zero.k, .int .i64 Mg.zero.fr, .int .i64 Mg.zero.to, .int .i64 Mg.zero.ht, .int .i64 Mg.zero.rd, .int .i64 Mg.zero.vl, .int .i64 Mg.zero.ep, .int .i64 Mg.zero.dl, .int .i64 Mg.zero.id, .string ⟨Mg.zero.s.toArray⟩, .slice a5 Mg.zero.l.length c5] := hd 32 (by decide)
                              have e33 : vs 33 = .agg #[.int .u8 0, .int .i64 0, .int .i64 0, .int .i64 0, .int .i64 0, .int .i64 0, .int .i64 0, .int .i64 0, .int .i64 0, .string ⟨#[]⟩, .slice none 0 0] := hd 33 (by decide)
                              have HC := Lib.hid (rsame_agg Mg.zero Mg.zero a5 none c5 0 w1 hg.nums (.inl rfl) (by simp [Mg.zero]) true (same_refl Mg.zero))
                              refine opTo_of (by simp only [e31]; kernel_rfl) (fun K' hK' => ?_)
                              go_simp
                              refine Calls.mono HC.out ?_
                              rintro r w2 ⟨rfl, b2⟩
                              exact hK'.out (.bool true) _ _ (by simp only [e31, e32, e33]; kernel_rfl) ⟨hg.kept b2, b2, rfl⟩
                            refine StepsA.cons (fun L vs w1 hl hdl hg hd => ?_) ?_
                            · have e34 : vs 34 = .bool true := hd 34 (by decide)
                              have e31 : vs 31 = .bool true := hd 31 (by decide)
                              refine opTo_of (by simp only [e31]; kernel_rfl) (fun K' hK' => ?_)
                              go_simp
                              exact hK'.out (.bool false) _ _ (by simp only [e34, e31]; kernel_rfl) ⟨hg, Below.refl _ _, rfl⟩
                            refine StepsA.cons (fun L vs w1 hl hdl hg hd => ?_) ?_
                            · have e31 : vs 31 = .bool true := hd 31 (by decide)
                              have e35 : vs 35 = .bool false := hd 35 (by decide)
                              have e28 : vs 28 = .bool false := hd 28 (by decide)
                              refine opTo_of (by simp only [e28]; kernel_rfl) (fun K' hK' => ?_)
                              go_simp
                              exact hK'.out (.bool false) _ _ (by simp only [e31, e35, e28]; kernel_rfl) ⟨hg, Below.refl _ _, rfl⟩
                            refine StepsA.cons (fun L vs w1 hl hdl hg hd => ?_) ?_
                            · have e28 : vs 28 = .bool false := hd 28 (by decide)
                              have e36 : vs 36 = .bool false := hd 36 (by decide)
                              refine opTo_of (by kernel_rfl) (fun K' hK' => ?_)
                              go_simp
                              exact hK'.out (.bool false) _ _ (by simp only [e28, e36]; kernel_rfl) ⟨hg, Below.refl _ _, rfl⟩
                            exact StepsA.nil
                          case fin =>
                            intro L vs w5 hL1 hg hT
                            have e37 : vs 37 = .bool false := hT 37 (by decide)
                            have HG := Lib.hid hg
                            clear hg hT hL1 HM
                            simp only [e37]
                            clear e37
                            go_wp2_with fail
                            go_loopw [22] (fun v wz => ∃ i' : Nat, i' ≤ Mg.zero.l.length ∧ v = .int .i64 i' ∧ Blk wz G2 32 (Mg.zero.cells a5 c5) ∧ Wr wr.heap.size a5 Mg.zero.l.length wz ∧ Below wr.heap.size wr wz) (fun v _ => Mg.zero.l.length - (intOf v).toNat)
                            case atStart => exact ⟨0, Nat.zero_le _, rfl, HG.out.box, HG.out.wr, HG.out.bel⟩
                            case round =>
                              obtain ⟨i', hi', rfl, hK, hW, hB⟩ := hrel
                              clear HG
                              have p10 : wr.cell? ⟨G2, 10, none⟩ = some (.slice a5 Mg.zero.l.length c5) := hK.cell 10
                              by_cases hil : i' < Mg.zero.l.length
                              · exact absurd hil (by simp [Mg.zero])
                              · have hie : i' = Mg.zero.l.length := by omega
                                subst hie
                                go_wp2_with fail
                                go_roundw
                                case rel => exact ⟨(n2.l.length : Int) + 1, by omega, by omega, by go_num, HP.out.kept hB⟩
                                case measure => simp [intOf] <;> omega
                  · have hke : k = (n2.l.length : Int) + 1 := by omega
                    subst hke
                    have hdk : decide ((n2.l.length : Int) + 1 ≤ (n2.l.length : Int)) = false := decide_eq_false (by omega)
                    clear hbx g1 g2 g3 hBx HA
                    go_wp2_with fail
                    go_roundw
                    case rel => exact ⟨j + 1, n2, by omega, by go_num, HX.out.1, HP.out⟩
                    case measure => simp [intOf]; omega
        · have hje : j = l.length := by omega
          subst hje
          go_wp2_with fail
          go_ret
          exact ⟨rfl, hP.bel⟩
    · have hm' : most < 1 ∨ 4096 < most := by omega
      refine (new_no most w1 hm').mono ?_
      rintro e w2 ⟨rfl, rfl⟩
      have HR := Lib.hid (rnew_no most w1 hm')
      go_wp2_with fail
      refine (Calls.mono HR.out ?_)
      rintro e w3 ⟨rfl, rfl⟩
      go_wp2_with fail
      go_ret
      exact ⟨rfl, b1⟩
end Go.Proofs.Ytbibbndjnlnbiaa
