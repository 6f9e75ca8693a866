/-
  A net that a law holds; consistorylaw28.vote, has, works.
-/
import Derived.Test.YtbibbndjnlnbiaaNet7
namespace Go.Proofs.Ytbibbndjnlnbiaa
open Go.RowKit Go.Maps

/-- The law holds a net at block g; the blocks of X are none of the net's own. -/
def Held (X : Nat → Prop) (B : Nat) (w0 : World) (g mb : Nat) (n : Nt) (w : World) : Prop :=
  ∃ rs, NetAt B w.heap.size g mb rs n w ∧ Below B w0 w ∧ ∀ q, X q → q < w.heap.size ∧ q ≠ g ∧ q ≠ mb ∧ some q ≠ rs ∧ ¬ RowIn g w q
/-- What a call of a net leaves as it was. -/
structure Fr (X : Nat → Prop) (B : Nat) (w w' : World) : Prop where
  size : w.heap.size ≤ w'.heap.size
  blk : ∀ {q : Nat} {t : TypeId} {cs : Array Value}, Blk w q t cs → t ≠ 74 → t ≠ 3 → Blk w' q t cs
  low : ∀ k, k < B → w'.heap[k]? = w.heap[k]?
  x : ∀ k, X k → w'.heap[k]? = w.heap[k]?
section
variable {X : Nat → Prop} {B g mb K : Nat} {n n' : Nt} {w0 w w' w'' : World} {a : Option Addr} {l : List Int}
theorem Fr.trans (h : Fr X B w w') (k : Fr X B w' w'') : Fr X B w w'' :=
  ⟨Nat.le_trans h.size k.size, fun hb t1 t2 => k.blk (h.blk hb t1 t2) t1 t2, fun i hi => (k.low i hi).trans (h.low i hi), fun i hi => (k.x i hi).trans (h.x i hi)⟩
theorem Held.base (h : Held X B w0 g mb n w) : B ≤ w.heap.size := by
  obtain ⟨rs, ⟨v, ts, D, h⟩, _⟩ := h
  have := h.g1
  have := h.blk.lt
  omega
theorem Held.below (h : Held X B w0 g mb n w) : Below B w0 w := h.elim fun _ x => x.2.1
theorem Held.kept (h : Held X B w0 g mb n w) (b : Below w.heap.size w w') : Held X B w0 g mb n w' := by
  have hB := h.base
  obtain ⟨rs, h1, h2, h3⟩ := h
  exact ⟨rs, (h1.kept b).top, h2.trans (b.mono hB), fun q hq => ⟨Nat.lt_of_lt_of_le (h3 q hq).1 b.size, (h3 q hq).2.1, (h3 q hq).2.2.1, (h3 q hq).2.2.2.1, fun hr => (h3 q hq).2.2.2.2 (hr.of_block (b.block g h1.gl))⟩⟩
theorem Held.fr (h : Held X B w0 g mb n w) (b : Below w.heap.size w w') : Fr X B w w' := by
  have hB := h.base
  obtain ⟨rs, h1, h2, h3⟩ := h
  exact ⟨b.size, fun hb _ _ => hb.kept b, fun k hk => b.block k (by omega), fun k hk => b.block k (h3 k hk).1⟩
theorem Held.drew (h : Held X B w0 g mb n w) : Held X B w0 g mb n w.drew := h.kept ((Below.refl _ w).drew)
theorem Held.to {rs : Option Nat} (h1 : NetAt B w.heap.size g mb rs n w) (h2 : Below B w0 w) (h3 : ∀ q, X q → q < w.heap.size ∧ q ≠ g ∧ q ≠ mb ∧ some q ≠ rs ∧ ¬ RowIn g w q) (hB : B ≤ w.heap.size) (t : NetTo B g mb rs n' w w') : Held X B w0 g mb n' w' ∧ Fr X B w w' := by
  obtain ⟨rs', N, T, hr⟩ := t
  refine ⟨⟨rs', N, T.below h2 hB h1.g1 h1.mb1 h1.rs1, fun q hq => ?_⟩, ⟨T.size, fun hb t1 t2 => T.blk h1 hb t1 t2, fun k hk => T.block k (by omega) (by have := h1.g1; omega) (by have := h1.mb1; omega) (fun e => by have := h1.rs1 k e.symm; omega), fun k hk => T.block k (h3 k hk).1 (h3 k hk).2.1 (h3 k hk).2.2.1 (h3 k hk).2.2.2.1⟩⟩
  obtain ⟨a1, a2, a3, a4, a5⟩ := h3 q hq
  have a6 : some q ≠ rs' := fun e => by
    rcases hr.1 q e.symm with h | h
    · exact a4 h.symm
    · omega
  refine ⟨Nat.lt_of_lt_of_le a1 T.size, a2, a3, a6, fun e => ?_⟩
  cases rs' with
  | none =>
    rcases hr.2 rfl h1.gl q e with h | h
    · exact a5 h
    · omega
  | some p => exact a6 (by rw [RowIn.own N e])
/-- A block that the law lays beside the net. -/
theorem Held.lay (h : Held X B w0 g mb n w) (b : Below w.heap.size w w') {q : Nat} (hq : w.heap.size ≤ q) (hq' : q < w'.heap.size) : Held (fun k => X k ∨ k = q) B w0 g mb n w' := by
  have h' := h.kept b
  obtain ⟨rs, h1, h2, h3⟩ := h
  obtain ⟨v, ts, D, hI⟩ := h1
  have hgl := hI.blk.lt
  have hml := hI.map.lt
  have hN : NetAt B w.heap.size g mb rs n w := ⟨v, ts, D, hI⟩
  refine ⟨rs, (hN.kept b).top, h'.below, fun k hk => ?_⟩
  rcases hk with hk | rfl
  · exact ⟨Nat.lt_of_lt_of_le (h3 k hk).1 b.size, (h3 k hk).2.1, (h3 k hk).2.2.1, (h3 k hk).2.2.2.1, fun hr => (h3 k hk).2.2.2.2 (hr.of_block (b.block g hgl))⟩
  · refine ⟨hq', by omega, by omega, fun e => ?_, fun hr => by have := RowIn.lt hN (hr.of_block (b.block g hgl)); omega⟩
    rcases hI.row with ⟨e', _⟩ | ⟨q2, e', hq2, _⟩
    · rw [e'] at e; cases e
    · rw [e'] at e
      injection e with e
      omega
/-- The law's own numbers are written over. -/
theorem Held.poke {q : Nat} {cs : Array Value} (h : Held X B w0 g mb n w) (hx : X q) (hq : Blk w q 3 cs) (hb : B ≤ q) (i : Nat) (u : Value) : Held X B w0 g mb n (w.setCell ⟨q, i, none⟩ u) := by
  obtain ⟨rs, ⟨v, ts, D, h1⟩, h2, h3⟩ := h
  obtain ⟨a1, a2, a3, a4, a5⟩ := h3 q hx
  have hsz : (w.setCell ⟨q, i, none⟩ u).heap.size = w.heap.size := by simp [World.setCell]
  refine ⟨rs, ?_, h2.setCell hb u, fun k hk => ?_⟩
  · rw [hsz]
    exact ⟨v, ts, D, h1.poke hq a4 a5 i u⟩
  · rw [hsz]
    obtain ⟨b1, b2, b3, b4, b5⟩ := h3 k hk
    exact ⟨b1, b2, b3, b4, fun hr => b5 (hr.of_block (Below.heap_setCell w ⟨q, i, none⟩ u g (Ne.symm a2)))⟩
theorem Safe.fr (h : Safe B w a l) (f : Fr X B w w') : Safe B w' a l := by
  rcases h with h | h
  · refine .inl ((h.kept fun q cur _ _ hb => f.blk hb (by decide) (by decide)).more (Nat.le_refl _) f.size)
  · rcases h with h | ⟨b, o, ha, hlt, hc⟩
    · exact .inl (.inl h)
    · exact .inr (.inr ⟨b, o, ha, hlt, fun i x hx => (World.cell?_of_block (f.low b hlt)).trans (hc i x hx)⟩)
theorem send_h {m : Mg} {c : Nat} {b : Bool} (h : Held X B w0 g mb n w) (ok : n.Ok K) (hK : K ≤ 1000000) (hmo : m.Ok) (hs : Safe B w a m.l) (hb : n.sent m = b) (hn : n.send m = n') :
    Calls Try.prog 19 #[.pointer (some ⟨g, 0, none⟩), .agg #[.int .u8 m.k, .int .i64 m.fr, .int .i64 m.to, .int .i64 m.ht, .int .i64 m.rd, .int .i64 m.vl, .int .i64 m.ep, .int .i64 m.dl, .int .i64 m.id, .string ⟨m.s.toArray⟩, .slice a m.l.length c]] w fun e w' => e = .returned (.bool b) ∧ Held X B w0 g mb n' w' ∧ Fr X B w w' := by
  subst hb hn
  have hB := h.base
  obtain ⟨rs, h1, h2, h3⟩ := h
  exact (send_any m a c w h1 ok hK hmo hs).mono fun e w' ⟨he, t⟩ => ⟨he, Held.to h1 h2 h3 hB t⟩
theorem lose_h {k e1 : Int} (h : Held X B w0 g mb n w) (ok : n.Ok K) (hK : K ≤ 1000000) (he : n.lost k = e1) (hn : n.lose k = n') :
    Calls Try.prog 22 #[.pointer (some ⟨g, 0, none⟩), .int .i64 k] w fun e w' => e = .returned (.int .i64 e1) ∧ Held X B w0 g mb n' w' ∧ Fr X B w w' := by
  subst he hn
  have hB := h.base
  obtain ⟨rs, h1, h2, h3⟩ := h
  exact (lose_any k w h1 ok hK).mono fun e w' ⟨he, t⟩ => ⟨he, Held.to h1 h2 h3 hB t⟩
theorem give_h {k e1 : Int} {m : Mg} (h : Held X B w0 g mb n w) (ok : n.Ok K) (hK : K ≤ 1000000) (hm : n.msg k = m) (he : n.lost k = e1) (hn : n.lose k = n') :
    Calls Try.prog 20 #[.pointer (some ⟨g, 0, none⟩), .int .i64 k] w fun e w' => ∃ a c, e = .returned (.tuple #[.agg #[.int .u8 m.k, .int .i64 m.fr, .int .i64 m.to, .int .i64 m.ht, .int .i64 m.rd, .int .i64 m.vl, .int .i64 m.ep, .int .i64 m.dl, .int .i64 m.id, .string ⟨m.s.toArray⟩, .slice a m.l.length c], .int .i64 e1]) ∧ Safe B w' a m.l ∧ Held X B w0 g mb n' w' ∧ Fr X B w w' := by
  subst he hn hm
  have hB := h.base
  obtain ⟨rs, h1, h2, h3⟩ := h
  refine (give_any k w h1 ok hK).mono fun e w' ⟨a, c, he, hr, t⟩ => ⟨a, c, he, .inl (hr.more (Nat.zero_le _) (Nat.le_refl _)), Held.to h1 h2 h3 hB t⟩
theorem twice_h {k e1 : Int} (h : Held X B w0 g mb n w) (ok : n.Ok K) (hK : K ≤ 1000000) (he : n.twiced k = e1) (hn : n.twice k = n') :
    Calls Try.prog 23 #[.pointer (some ⟨g, 0, none⟩), .int .i64 k] w fun e w' => e = .returned (.int .i64 e1) ∧ Held X B w0 g mb n' w' ∧ Fr X B w w' := by
  subst he hn
  have hB := h.base
  obtain ⟨rs, h1, h2, h3⟩ := h
  exact (twice_any k w h1 ok hK).mono fun e w' ⟨he, t⟩ => ⟨he, Held.to h1 h2 h3 hB t⟩
theorem at_h {k : Int} {m : Mg} {b : Bool} (h : Held X B w0 g mb n w) (ok : n.Ok K) (hK : K ≤ 1000000) (hm : n.msg k = m) (hb : n.is k = b) :
    Calls Try.prog 17 #[.pointer (some ⟨g, 0, none⟩), .int .i64 k] w fun e w' => ∃ a c, e = .returned (.tuple #[.agg #[.int .u8 m.k, .int .i64 m.fr, .int .i64 m.to, .int .i64 m.ht, .int .i64 m.rd, .int .i64 m.vl, .int .i64 m.ep, .int .i64 m.dl, .int .i64 m.id, .string ⟨m.s.toArray⟩, .slice a m.l.length c], .bool b]) ∧ w'.ownsRow w.heap.size 56 1 (.slice a m.l.length c) m.l.length (m.l.map (.int .u64)) ∧ Below w.heap.size w w' := by
  subst hm hb
  obtain ⟨rs, h1, h2, h3⟩ := h
  exact at_any k w h1 ok hK
theorem len_h (h : Held X B w0 g mb n w) (ok : n.Ok K) : Calls Try.prog 18 #[.pointer (some ⟨g, 0, none⟩)] w fun e w' => e = .returned (.int .i64 n.l.length) ∧ w = w' := by
  obtain ⟨rs, h1, h2, h3⟩ := h
  exact len_any w h1 ok
theorem crowded_h (h : Held X B w0 g mb n w) : Calls Try.prog 24 #[.pointer (some ⟨g, 0, none⟩)] w fun e w' => e = .returned (.int .i64 n.out) ∧ w = w' := by
  obtain ⟨rs, h1, h2, h3⟩ := h
  exact crowded_any w h1
theorem to_h {node : Int} {xs : List Int} (h : Held X B w0 g mb n w) (ok : n.Ok K) (hK : K ≤ 1000000) (hx : n.to node = xs) : Calls Try.prog 27 #[.pointer (some ⟨g, 0, none⟩), .int .i64 node] w (ToPost xs w) := by
  subst hx
  obtain ⟨rs, h1, h2, h3⟩ := h
  exact to_any node w h1 ok hK
theorem new_h {most : Int} (h1 : 1 ≤ most) (h2 : most ≤ 4096) (hb : Below w0.heap.size w0 w) : Calls Try.prog 16 #[.int .i64 most] w fun e w' => ∃ g mb, e = .returned (.tuple #[.pointer (some ⟨g, 0, none⟩), .int .i64 0]) ∧ Held (fun _ => False) w0.heap.size w0 g mb (Nt.new most) w' ∧ Below w.heap.size w w' :=
  (new_yes most w h1 h2).mono fun _ _ ⟨g, mb, he, hN, b⟩ => ⟨g, mb, he, ⟨none, hN.more hb.size (Nat.le_refl _) (Nat.le_refl _), hb.trans (b.mono hb.size), fun _ h => h.elim⟩, b⟩
end

/-- The message of the examples. -/
def vtM (h : Int) : Mg := ⟨3, 1, 2, h, 0, 0, 0, 0, 0, [], []⟩
theorem vtM_ok {h : Int} (hh : I64 h) : (vtM h).Ok := ok_ints (by decide) (by unfold I64; decide) (by unfold I64; decide) hh (by unfold I64; decide) (by unfold I64; decide) (by unfold I64; decide) (by unfold I64; decide) (by unfold I64; decide)
theorem vtM_safe {B : Nat} {w : World} {h : Int} : Safe B w none (vtM h).l := .inr (.inl rfl)
theorem vt_none {w : World} {B : Nat} {h : Int} : Nums .u64 w B none (vtM h).l := .inl rfl
theorem vt_l9 {h : Int} : (vtM h).l.length ≤ 9223372036854775807 := by simp [vtM]
set_option maxRecDepth 100000 in
theorem vt_any (h : Int) (w : World) : Calls Try.prog 26 #[.int .i64 h] w fun e w' => e = .returned (.agg #[.int .u8 (vtM h).k, .int .i64 (vtM h).fr, .int .i64 (vtM h).to, .int .i64 (vtM h).ht, .int .i64 (vtM h).rd, .int .i64 (vtM h).vl, .int .i64 (vtM h).ep, .int .i64 (vtM h).dl, .int .i64 (vtM h).id, .string ⟨(vtM h).s.toArray⟩, .slice none (vtM h).l.length 0]) ∧ Below w.heap.size w w' := by
  go_enter Try.func26, Try.ntmps26
  go_wp2_with fail
  refine bodyPost_ret (v := .agg #[.int .u8 3, .int .i64 1, .int .i64 2, .int .i64 h, .int .i64 0, .int .i64 0, .int .i64 0, .int .i64 0, .int .i64 0, .string ⟨#[]⟩, .slice none 0 0]) (by simp [results, Try.results26, go_sem]) rfl ?_
  exact ⟨rfl, (Below.refl _ w).alloc (Nat.le_refl _) _⟩

set_option maxRecDepth 100000 in
set_option maxHeartbeats 2000000 in
theorem has_true {X : Nat → Prop} {B g mb K : Nat} {n : Nt} {w0 : World} (xs : List Int) (a : Option Addr) (c : Nat) (w : World) (h : Held X B w0 g mb n w) (ok : n.Ok K) (hK : K ≤ 1000000) (hx : Nums .i64 w w.heap.size a xs) (he : n.l = xs.map vtM) :
    Calls Try.prog 47 #[.pointer (some ⟨g, 0, none⟩), .slice a xs.length c] w (BoolPost true w) := by
  have hlen : n.l.length = xs.length := by rw [he, List.length_map]
  have hsh : xs.length ≤ 4096 := by
    have := ok.len
    have := ok.most2
    omega
  have HN := Lib.hid (And.intro h (And.intro ok (And.intro he hlen)))
  clear h ok he hlen
  go_enter Try.func47, Try.ntmps47
  go_wp2_with fail
  go_loopw [5] (fun v wr => ∃ j : Nat, j ≤ xs.length ∧ v = .int .i64 j ∧ Below w.heap.size w wr) (fun v _ => xs.length - (intOf v).toNat)
  case atStart => exact ⟨0, Nat.zero_le _, rfl, Below.refl _ _⟩
  case round =>
    obtain ⟨j, hj, rfl, hB⟩ := hrel
    obtain ⟨h, ok, he, hlen⟩ := HN.out
    have hh := h.kept hB
    by_cases hlt : j < xs.length
    · obtain ⟨p, hp⟩ : ∃ p, xs[j]? = some p := ⟨_, List.getElem?_eq_getElem hlt⟩
      have his : n.is (j : Int) = true := Nt.is_iff.2 ⟨by omega, by omega⟩
      have hm : n.msg (j : Int) = vtM p := by
        have := Nt.msg_at his
        rw [Int.toNat_natCast, he, List.getElem?_map, hp] at this
        exact (Option.some.inj this).symm
      rcases hx.kept hB (Nat.le_refl _) with h0 | ⟨b1, o1, rfl, hb1, hc1⟩
      · rw [h0] at hlt; simp at hlt
      have HA := Lib.hid (at_h hh ok hK hm his)
      have e1 := hc1 j p hp
      have HC := Lib.hid e1
      have hjI : (j : Int) < (xs.length : Int) := by omega
      clear h ok he hlen hh hc1 hp his hm e1
      go_wp2_with fail
      refine (Calls.mono HA.out ?_)
      rintro e v5 ⟨a5, c5, rfl, own5, b5⟩
      have K5 := Blk.drew (boxed_blk v5 (vtM p) a5 c5)
      have B5 := (boxed_below (step_below hB b5) (step_below hB b5).size (vtM p) a5 c5).drew
      have L5 := boxed_nums (own_nums own5) (vtM p) a5 c5
      have B5' := (boxed_below b5 b5.size (vtM p) a5 c5).drew
      obtain ⟨w5, hw5⟩ : ∃ w5, w5 = boxed v5 (vtM p) a5 c5 := ⟨_, rfl⟩
      rw [← hw5] at K5 B5 L5 B5'
      unfold boxed at hw5
      have HW := Lib.hid hw5
      have xc := cell_keep HC.out B5'
      clear hw5 b5 own5 B5' HA
      go_upto_region 5 with fail
      rw [← HW.out]
      clear HW
      generalize v5.heap.size = G5 at *
      obtain ⟨f0, f1, f2, f3, f4, f5, f6, f7, f8, f9, f10⟩ := K5.msg
      have L5 : Nums .u64 w5.drew w5.drew.heap.size a5 (vtM p).l := L5
      have HP := Lib.hid (And.intro K5 (And.intro B5 L5))
      clear K5 B5 L5 hB
      go_region_held3 (fun w' => w'.cell? ⟨b1, o1 + j, none⟩ = some (.int .i64 p) ∧ w'.cell? ⟨G5, 0, none⟩ = some (.int .u8 (vtM p).k) ∧ w'.cell? ⟨G5, 1, none⟩ = some (.int .i64 (vtM p).fr) ∧ w'.cell? ⟨G5, 2, none⟩ = some (.int .i64 (vtM p).to) ∧ w'.cell? ⟨G5, 3, none⟩ = some (.int .i64 (vtM p).ht) ∧ w'.cell? ⟨G5, 4, none⟩ = some (.int .i64 (vtM p).rd) ∧ w'.cell? ⟨G5, 5, none⟩ = some (.int .i64 (vtM p).vl) ∧ w'.cell? ⟨G5, 6, none⟩ = some (.int .i64 (vtM p).ep) ∧ w'.cell? ⟨G5, 7, none⟩ = some (.int .i64 (vtM p).dl) ∧ w'.cell? ⟨G5, 8, none⟩ = some (.int .i64 (vtM p).id) ∧ w'.cell? ⟨G5, 9, none⟩ = some (.string ⟨(vtM p).s.toArray⟩) ∧ w'.cell? ⟨G5, 10, none⟩ = some (.slice a5 (vtM p).l.length c5)) (first | (with_reducible exact ⟨xc, f0, f1, f2, f3, f4, f5, f6, f7, f8, f9, f10⟩) | (with_reducible exact ⟨yc, y0, y1, y2, y3, y4, y5, y6, y7, y8, y9, y10⟩) | (with_reducible exact ⟨zc, z0, z1, z2, z3, z4, z5, z6, z7, z8, z9, z10⟩))
        (first
        | (go_at_call 26; (with_reducible refine (vt_any p _).mono ?_); rintro e6 w6 ⟨rfl, b6⟩; have yc := cell_keep xc b6; obtain ⟨y0, y1, y2, y3, y4, y5, y6, y7, y8, y9, y10⟩ := (HP.out.1.kept b6).msg)
        | (go_at_call 21; (with_reducible refine (rsame_agg (vtM p) (vtM p) a5 none c5 0 _ (by exact nums_step HP.out.2.2 b6) vt_none vt_l9 true (same_refl _)).mono ?_); rintro e7 w7 ⟨rfl, b7⟩; have zc := cell_keep yc b7; obtain ⟨z0, z1, z2, z3, z4, z5, z6, z7, z8, z9, z10⟩ := ((HP.out.1.kept b6).kept b7).msg))
      go_wp2_with fail
      go_roundw
      case rel => exact ⟨j + 1, by omega, by go_num, step_below (step_below HP.out.2.1 b6) b7⟩
      case measure => simp [intOf]; omega
    · have hje : j = xs.length := by omega
      subst hje
      have HL := Lib.hid (len_h hh ok)
      rw [hlen] at HL
      clear h ok he hlen hh
      go_wp2_with fail
      refine (Calls.mono HL.out ?_)
      rintro e w7 ⟨rfl, rfl⟩
      go_wp2_with fail
      go_ret
      exact ⟨rfl, hB⟩
end Go.Proofs.Ytbibbndjnlnbiaa
