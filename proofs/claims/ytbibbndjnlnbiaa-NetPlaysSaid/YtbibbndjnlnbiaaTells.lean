/-
  consistorylaw14.MsgTells: the walk.
-/
import Derived.Test.YtbibbndjnlnbiaaTells0
import Derived.Test.YtbibbndjnlnbiaaWr
import Derived.Test.YtbibbndjnlnbiaaAppZ
import Derived.Deep.RegionLaw
namespace Go.Proofs.Ytbibbndjnlnbiaa
open Go.RowKit

/-- What stands at each step: three messages in their boxes, their lists, and what was there. -/
structure TS (w0 : World) (G1 G2 G3 : Nat) (m o : Mg) (a a' a2 : Option Addr) (c c' c2 : Nat) (w : World) : Prop where
  b1 : Blk w G1 32 (m.cells a c)
  b2 : Blk w G2 32 (o.cells a' c')
  b3 : Blk w G3 32 (m.cells a2 c2)
  n1 : Nums .u64 w w.heap.size a m.l
  n2 : Nums .u64 w w.heap.size a' o.l
  n3 : Nums .u64 w w.heap.size a2 m.l
  bel : Below w0.heap.size w0 w
section
variable {w0 : World} {G1 G2 G3 : Nat} {m o : Mg} {a a' a2 : Option Addr} {c c' c2 : Nat} {w w' : World}
theorem TS.step (b : Below w.heap.size w w') (h : TS w0 G1 G2 G3 m o a a' a2 c c' c2 w) : TS w0 G1 G2 G3 m o a a' a2 c c' c2 w' :=
  ⟨h.b1.kept b, h.b2.kept b, h.b3.kept b, nums_step h.n1 b, nums_step h.n2 b, nums_step h.n3 b, step_below h.bel b⟩
theorem TS.drew (h : TS w0 G1 G2 G3 m o a a' a2 c c' c2 w) : TS w0 G1 G2 G3 m o a a' a2 c c' c2 w.drew := ⟨h.b1.drew, h.b2.drew, h.b3.drew, h.n1, h.n2, h.n3, h.bel.drew⟩
theorem TS.S (h : TS w0 G1 G2 G3 m o a a' a2 c c' c2 w) : w.cell? ⟨G1, 0, none⟩ = some (.int .u8 m.k) ∧ w.cell? ⟨G1, 1, none⟩ = some (.int .i64 m.fr) ∧ w.cell? ⟨G1, 2, none⟩ = some (.int .i64 m.to) ∧ w.cell? ⟨G1, 3, none⟩ = some (.int .i64 m.ht) ∧ w.cell? ⟨G1, 4, none⟩ = some (.int .i64 m.rd) ∧ w.cell? ⟨G1, 5, none⟩ = some (.int .i64 m.vl) ∧ w.cell? ⟨G1, 6, none⟩ = some (.int .i64 m.ep) ∧ w.cell? ⟨G1, 7, none⟩ = some (.int .i64 m.dl) ∧ w.cell? ⟨G1, 8, none⟩ = some (.int .i64 m.id) ∧ w.cell? ⟨G1, 9, none⟩ = some (.string ⟨m.s.toArray⟩) ∧ w.cell? ⟨G1, 10, none⟩ = some (.slice a m.l.length c) ∧ w.cell? ⟨G2, 0, none⟩ = some (.int .u8 o.k) ∧ w.cell? ⟨G2, 1, none⟩ = some (.int .i64 o.fr) ∧ w.cell? ⟨G2, 2, none⟩ = some (.int .i64 o.to) ∧ w.cell? ⟨G2, 3, none⟩ = some (.int .i64 o.ht) ∧ w.cell? ⟨G2, 4, none⟩ = some (.int .i64 o.rd) ∧ w.cell? ⟨G2, 5, none⟩ = some (.int .i64 o.vl) ∧ w.cell? ⟨G2, 6, none⟩ = some (.int .i64 o.ep) ∧ w.cell? ⟨G2, 7, none⟩ = some (.int .i64 o.dl) ∧ w.cell? ⟨G2, 8, none⟩ = some (.int .i64 o.id) ∧ w.cell? ⟨G2, 9, none⟩ = some (.string ⟨o.s.toArray⟩) ∧ w.cell? ⟨G2, 10, none⟩ = some (.slice a' o.l.length c') ∧ w.cell? ⟨G3, 0, none⟩ = some (.int .u8 m.k) ∧ w.cell? ⟨G3, 1, none⟩ = some (.int .i64 m.fr) ∧ w.cell? ⟨G3, 2, none⟩ = some (.int .i64 m.to) ∧ w.cell? ⟨G3, 3, none⟩ = some (.int .i64 m.ht) ∧ w.cell? ⟨G3, 4, none⟩ = some (.int .i64 m.rd) ∧ w.cell? ⟨G3, 5, none⟩ = some (.int .i64 m.vl) ∧ w.cell? ⟨G3, 6, none⟩ = some (.int .i64 m.ep) ∧ w.cell? ⟨G3, 7, none⟩ = some (.int .i64 m.dl) ∧ w.cell? ⟨G3, 8, none⟩ = some (.int .i64 m.id) ∧ w.cell? ⟨G3, 9, none⟩ = some (.string ⟨m.s.toArray⟩) ∧ w.cell? ⟨G3, 10, none⟩ = some (.slice a2 m.l.length c2) := by
  obtain ⟨f0, f1, f2, f3, f4, f5, f6, f7, f8, f9, f10⟩ := h.b1.msg
  obtain ⟨g0, g1, g2, g3, g4, g5, g6, g7, g8, g9, g10⟩ := h.b2.msg
  obtain ⟨h0, h1, h2, h3, h4, h5, h6, h7, h8, h9, h10⟩ := h.b3.msg
  exact ⟨f0, f1, f2, f3, f4, f5, f6, f7, f8, f9, f10, g0, g1, g2, g3, g4, g5, g6, g7, g8, g9, g10, h0, h1, h2, h3, h4, h5, h6, h7, h8, h9, h10⟩
end
theorem rmay_agg (m : Mg) (a : Option Addr) (c : Nat) (w : World) (hk : 0 ≤ m.k ∧ m.k ≤ 255) (b : Bool) (hb : m.may = b) :
    Calls Try.prog 44 #[.agg #[.int .u8 m.k, .int .i64 m.fr, .int .i64 m.to, .int .i64 m.ht, .int .i64 m.rd, .int .i64 m.vl, .int .i64 m.ep, .int .i64 m.dl, .int .i64 m.id, .string ⟨m.s.toArray⟩, .slice a m.l.length c]] w (BoolPost b w) := by
  subst hb
  exact rmay_any m a c w hk
theorem rencode_agg {m : Mg} {a : Option Addr} {c : Nat} {w : World} {b : List UInt8} {e : Int} (hm : m.Ok) (ha : Nums .u64 w w.heap.size a m.l) (hb : menc m = b) (he : (if m.may then (0 : Int) else 4) = e) :
    Calls Try.prog 43 #[.agg #[.int .u8 m.k, .int .i64 m.fr, .int .i64 m.to, .int .i64 m.ht, .int .i64 m.rd, .int .i64 m.vl, .int .i64 m.ep, .int .i64 m.dl, .int .i64 m.id, .string ⟨m.s.toArray⟩, .slice a m.l.length c]] w fun f w' => f = .returned (.tuple #[.string ⟨b.toArray⟩, .int .i64 e]) ∧ Below w.heap.size w w' := by
  subst hb he
  exact rencode_any m a c w hm ha
theorem rdecode_agg {s : List UInt8} {w : World} {m : Mg} {e : Int} (h : mdec s = (m, e)) :
    Calls Try.prog 46 #[.string ⟨s.toArray⟩] w fun f w' => ∃ a c, f = .returned (.tuple #[.agg #[.int .u8 m.k, .int .i64 m.fr, .int .i64 m.to, .int .i64 m.ht, .int .i64 m.rd, .int .i64 m.vl, .int .i64 m.ep, .int .i64 m.dl, .int .i64 m.id, .string ⟨m.s.toArray⟩, .slice a m.l.length c], .int .i64 e]) ∧ w'.ownsRow w.heap.size 56 1 (.slice a m.l.length c) m.l.length (m.l.map (.int .u64)) ∧ Below w.heap.size w w' := by
  have hd := rdecode_any s w
  unfold DecPost at hd
  rw [h] at hd
  exact hd
theorem own_shape {w : World} {base n : Nat} {e : TypeId} {v : Value} {xs : List Value} (h : w.ownsRow base e 1 v n xs) (hv : v.ownBlock ≠ none) : ∃ q c, v = .slice (some ⟨q, 0, none⟩) n c := by
  rcases h.2 with ⟨rfl, _⟩ | ⟨q, cap, cur, rfl, k⟩
  · exact absurd rfl hv
  · exact ⟨q, cap, rfl⟩
theorem tells_made {w W1 : World} {G3 : Nat} {m o : Mg} {a a' : Option Addr} {c c' : Nat} {v1 : Value} (h0 : w.heap.size ≤ G3) (h1 : w.heap.size ≠ G3) (h2 : w.heap.size + 1 ≠ G3) (hn : Nums .u64 w w.heap.size a m.l) (hno : Nums .u64 w w.heap.size a' o.l)
    (own1 : W1.ownsRow w.heap.size 56 1 v1 m.l.length (m.l.map (.int .u64))) (nb1 : v1.ownBlock ≠ none) (E1 : Blk W1 w.heap.size 32 (m.cells a c)) (E2 : Blk W1 (w.heap.size + 1) 32 (o.cells a' c')) (E3 : Blk W1 G3 32 (m.cells a c)) (E0 : Below w.heap.size w W1) :
    ∃ a2 c2, TS w w.heap.size (w.heap.size + 1) G3 m o a a' a2 c c' c2 (W1.setCell ⟨G3, 10, none⟩ v1) := by
  rcases own1.2 with ⟨rfl, _⟩ | ⟨q, cap, cur, rfl, k⟩
  · exact absurd rfl nb1
  have B : Below w.heap.size w (W1.setCell ⟨G3, 10, none⟩ (.slice (some ⟨q, 0, none⟩) m.l.length cap)) := E0.setCell (p := ⟨G3, 10, none⟩) h0 _
  exact ⟨some ⟨q, 0, none⟩, cap, E1.farc h1 _, E2.farc h2 _, E3.set_ 10 _, (hn.kept B (Nat.le_refl _)).more B.size, (hno.kept B (Nat.le_refl _)).more B.size, own_nums (own_setc own1 E3 (by decide) _), B⟩
def strCells (l : List (List UInt8)) : Array Value := (l.map fun x => Value.string ⟨x.toArray⟩).toArray
theorem strCells_at {l : List (List UInt8)} {j : Nat} {x : List UInt8} (h : l[j]? = some x) : (strCells l)[j]? = some (.string ⟨x.toArray⟩) := by simp [strCells, h]
theorem zeroNums_size (n : Nat) : (List.replicate n (Value.int .u64 0)).toArray.size = n := by simp
theorem made_nums (n : Nat) : madeCells (Value.int .u64 0).cells (n * 1) = (List.replicate n (Value.int .u64 0)).toArray := by
  apply Array.ext
  · simp [madeCells]
  · intro i h1 h2
    simp [madeCells, Value.cells, Nat.mod_one]
def zeroNums (n : Nat) : Obj := .cells (List.replicate n (Value.int .u64 0)).toArray 56
theorem mk_room (n : Nat) (hn : n ≤ 9000) (w : World) : (Instr.makeSlice 30 (.int .i64 0) (.int .i64 n)).run Try.prog w = .ok (.slice (some ⟨w.heap.size, 0, none⟩) 0 n) (w.alloc (zeroNums n)) := by
  obtain ⟨i0, hi, hz0, hz1, hz2⟩ := info_parts infoU64
  have h := run_make (P := Try.prog) w 30 56 i0 (.int .u64 0) Try.underlying30 hi hz0 .i64 .i64 0 n (by omega) (by omega) (by rw [hz2]; omega) (by omega)
  rw [hz1] at h
  simp only [Int.toNat_natCast, made_nums] at h
  exact h

set_option maxRecDepth 100000 in
set_option maxHeartbeats 8000000 in
theorem tells_main (m o : Mg) (a a' : Option Addr) (c c' : Nat) (sl : List UInt8) (w : World) (hf : MFit m) (hn : Nums .u64 w w.heap.size a m.l) (hfo : MFit o) (hno : Nums .u64 w w.heap.size a' o.l)
    (hL : largeB m = false) (hL2 : largeB o = false) (h5 : ¬ 20000 < sl.length) :
    Calls Try.prog 12 #[m.val a c, o.val a' c', .string ⟨sl.toArray⟩] w (TruePost w) := by
  obtain ⟨hok, -, -⟩ := hf
  obtain ⟨hoo, -, -⟩ := hfo
  have hlm : m.l.length ≤ 2000 := by simp [largeB] at hL; omega
  have hlo : o.l.length ≤ 2000 := by simp [largeB] at hL2; omega
  have h5' : decide ((20000 : Int) < sl.length) = false := decide_eq_false (by omega)
  obtain ⟨W, hW⟩ : ∃ W, W = twoMsgs w m o a a' c c' := ⟨_, rfl⟩
  have D1 := twoMsgs_1 w m o a a' c c'
  have D2 := twoMsgs_2 w m o a a' c c'
  have D0 := twoMsgs_below w m o a a' c c'
  rw [← hW] at D1 D2 D0
  have e1 := nums_step hn D0
  have e2 := nums_step hno D0
  have HNN := Lib.hid (And.intro hn hno)
  unfold twoMsgs Mg.cells at hW
  have HW := Lib.hid hW
  have HL := Lib.hid hL
  have HL2 := Lib.hid hL2
  clear hW hL hL2 hn hno
  obtain ⟨f0, f1, f2, f3, f4, f5, f6, f7, f8, f9, f10⟩ := D1.msg
  unfold Mg.val
  go_enter Try.func12, Try.ntmps12
  go_upto_region 1 with fail
  rw [← HW.out]
  go_wp2_with fail
  refine (large_agg m a c W false HL.out).mono ?_
  rintro e w1 ⟨rfl, b1⟩
  have D12 := D1.kept b1
  have D22 := D2.kept b1
  have D02 := step_below D0 b1
  have e12 := nums_step e1 b1
  have e22 := nums_step e2 b1
  clear D1 D2 D0 b1 e1 e2 f0 f1 f2 f3 f4 f5 f6 f7 f8 f9 f10
  obtain ⟨g0, g1, g2, g3, g4, g5, g6, g7, g8, g9, g10⟩ := D22.msg
  go_wp2_with fail
  refine (large_agg o a' c' w1 false HL2.out).mono ?_
  rintro e w2 ⟨rfl, b2⟩
  have E1 := boxed_kept (D12.kept b2) m a c
  have E2 := boxed_kept (D22.kept b2) m a c
  have E3 := boxed_blk w2 m a c
  have E0 := boxed_below (step_below D02 b2) (step_below D02 b2).size m a c
  have n1 := boxed_nums (nums_step e12 b2) m a c
  have n2 := boxed_nums (nums_step e22 b2) m a c
  have D13 := D12.kept b2
  obtain ⟨f0, f1, f2, f3, f4, f5, f6, f7, f8, f9, f10⟩ := D13.msg
  obtain ⟨w3, hw3⟩ : ∃ w3, w3 = boxed w2 m a c := ⟨_, rfl⟩
  rw [← hw3] at E1 E2 E3 E0 n1 n2
  unfold boxed at hw3
  have HW3 := Lib.hid hw3
  have hG0 : w.heap.size ≤ w2.heap.size := (step_below D02 b2).size
  have hG1 : w.heap.size ≠ w2.heap.size := by have := D13.lt; omega
  have hG2 : w.heap.size + 1 ≠ w2.heap.size := by have := (D22.kept b2).lt; omega
  clear hw3 D12 D22 D02 e12 e22 b2 g0 g1 g2 g3 g4 g5 g6 g7 g8 g9 g10 D13
  go_upto_region 4 with fail
  rw [← HW3.out]
  clear HW3 f0 f1 f2 f3 f4 f5 f6 f7 f8 f9 f10
  generalize w2.heap.size = G3 at *
  go_cut [] from 32 to 41 (fun wx => ∃ a2 c2, TS w w.heap.size (w.heap.size + 1) G3 m o a a' a2 c c' c2 wx)
  case first =>
    obtain ⟨K, hK⟩ : ∃ K : Nat, K = m.l.length + 2 := ⟨_, rfl⟩
    have hwr : IntKind.i64.wrap ((m.l.length : Int) + 2) = (K : Int) := by rw [IntKind.wrap_i64]; omega
    have hK9 : K ≤ 9000 := by omega
    have hmk := mk_room K hK9
    obtain ⟨i0, hi, hz0, hz1, hz2⟩ := info_parts infoU64
    have x10 : w3.cell? ⟨w.heap.size, 10, none⟩ = some (.slice a m.l.length c) := E1.cell 10
    have z10 : w3.cell? ⟨G3, 10, none⟩ = some (.slice a m.l.length c) := E3.cell 10
    have E1a := (E1.alloc (zeroNums K)).drew
    have E2a := (E2.alloc (zeroNums K)).drew
    have E3a := (E3.alloc (zeroNums K)).drew
    have E0a : Below w.heap.size w (w3.alloc (zeroNums K)).drew := (E0.alloc E0.size _).drew
    have x10a : (w3.alloc (zeroNums K)).drew.cell? ⟨w.heap.size, 10, none⟩ = some (.slice a m.l.length c) := E1a.cell 10
    have own0 : (w3.alloc (zeroNums K)).drew.ownsRow w.heap.size 56 1 (.slice (some ⟨w3.heap.size, 0, none⟩) 0 K) 0 [] := (World.ownsRow_made w3 (List.replicate K (Value.int .u64 0)).toArray K E0.size (by simp [maxLen]; omega) (by simp)).drew
    have nn : Nums .u64 (w3.alloc (zeroNums K)).drew (w3.alloc (zeroNums K)).drew.heap.size a m.l := nums_step n1 (((Below.refl _ w3).alloc (Nat.le_refl _) _).drew)
    have n4 := Nums.news nn
    have s4 : w.heap.size ≤ (w3.alloc (zeroNums K)).drew.heap.size := E0a.size
    have hb1 : (0 + m.l.length) * 8 ≤ 140737488355328 := by omega
    have nb0 : (Value.slice (some ⟨w3.heap.size, 0, none⟩) 0 K).ownBlock ≠ none := by simp [Value.ownBlock]
    have hcells : (Value.int .u64 0).cells = #[.int .u64 0] := rfl
    have hone : ∀ u ∈ m.l.map (Value.int .u64), u.oneCell' = true := by
      intro u hu
      obtain ⟨x, _, rfl⟩ := List.mem_map.1 hu
      rfl
    have hml : (m.l.map (Value.int .u64)).length = m.l.length := by simp
    have HK := Lib.hid hK
    have hpos : w3.heap.size ≥ w.heap.size := E0.size
    clear hK n2 n1 nn h5' hlm hlo hok hoo
    go_region_law (first
      | (refine step_append_any (by rfl) _ _ 30 (by rfl) w.heap.size 56 i0 (.int .u64 0) Try.underlying30 hi hz0 hz1 hz2 hcells _ 0 [] (by rfl) own0 nb0 a m.l.length c (m.l.map (.int .u64)) (by rfl) hml n4 hone hb1 s4 ?_; intro v1 W1 own1 g1 nb1; have E1b := E1a.grown g1 (own_ne' own0 E1a (by decide)); have E2b := E2a.grown g1 (own_ne' own0 E2a (by decide)); have E3b := E3a.grown g1 (own_ne' own0 E3a (by decide)); have E0b := E0a.grown g1 s4 (own_lt own0); have z10b : W1.cell? ⟨G3, 10, none⟩ = some (.slice a m.l.length c) := E3b.cell 10; have y10b : W1.frozen? ⟨G3, 10, none⟩ = false := E3b.frozen 10; obtain ⟨q, qc, rfl⟩ := own_shape own1 nb1; rw [Nat.zero_add, List.nil_append] at own1))
    all_goals
      go_wp2_with fail
      go_meet
      exact tells_made hG0 hG1 hG2 HNN.out.1 HNN.out.2 own1 nb1 E1b E2b E3b E0b
  case rest =>
    obtain ⟨a2, c2, T⟩ := hcut
    obtain ⟨A, hA⟩ : ∃ A, menc m = A := ⟨_, rfl⟩
    obtain ⟨E, hE⟩ : ∃ E, (if m.may then (0 : Int) else 4) = E := ⟨_, rfl⟩
    obtain ⟨mb, hmb⟩ : ∃ b, m.may = b := ⟨_, rfl⟩
    obtain ⟨sm, hsm⟩ : ∃ b, m.same o = b := ⟨_, rfl⟩
    have hAl : (A.length : Int) ≤ 20000 := by
      rw [← hA]
      unfold menc
      cases hm : m.may with
      | false => simp
      | true => have := bytes_short hm; rw [if_pos rfl]; omega
    have HE := Lib.hid (And.intro hA hE)
    have HM := Lib.hid hmb
    have HS := Lib.hid hsm
    have HSR := Lib.hid (same_refl m)
    have hkk := hok.k
    clear hA hE hmb hsm E1 E2 E3 E0 n1 n2 HNN
    obtain ⟨f0, f1, f2, f3, f4, f5, f6, f7, f8, f9, f10⟩ := T.b3.msg
    go_wp2_with fail
    refine (encode_agg hok T.n3 HE.out.1 HE.out.2).mono ?_
    rintro e w4 ⟨rfl, b4⟩
    have T4 := T.step b4
    clear T b4 f0 f1 f2 f3 f4 f5 f6 f7 f8 f9 f10
    obtain ⟨f0, f1, f2, f3, f4, f5, f6, f7, f8, f9, f10⟩ := T4.b1.msg
    go_wp2_with fail
    refine (rencode_agg hok T4.n1 HE.out.1 HE.out.2).mono ?_
    rintro e w5 ⟨rfl, b5⟩
    have T5 := T4.step b5
    clear T4 b5 f0 f1 f2 f3 f4 f5 f6 f7 f8 f9 f10
    have hlm9 : m.l.length ≤ 9223372036854775807 := by omega
    have hlo9 : o.l.length ≤ 9223372036854775807 := by omega
    go_upto_region 7 with fail
    go_cut [86] from 51 to 87 (fun v wx => v = .bool false ∧ TS w w.heap.size (w.heap.size + 1) G3 m o a a' a2 c c' c2 wx)
    case first =>
      have T5d := T5.drew
      clear T5 h5' hlm hlo hAl
      go_region_held3 (fun w' => w'.cell? ⟨w.heap.size, 0, none⟩ = some (.int .u8 m.k) ∧ w'.cell? ⟨w.heap.size, 1, none⟩ = some (.int .i64 m.fr) ∧ w'.cell? ⟨w.heap.size, 2, none⟩ = some (.int .i64 m.to) ∧ w'.cell? ⟨w.heap.size, 3, none⟩ = some (.int .i64 m.ht) ∧ w'.cell? ⟨w.heap.size, 4, none⟩ = some (.int .i64 m.rd) ∧ w'.cell? ⟨w.heap.size, 5, none⟩ = some (.int .i64 m.vl) ∧ w'.cell? ⟨w.heap.size, 6, none⟩ = some (.int .i64 m.ep) ∧ w'.cell? ⟨w.heap.size, 7, none⟩ = some (.int .i64 m.dl) ∧ w'.cell? ⟨w.heap.size, 8, none⟩ = some (.int .i64 m.id) ∧ w'.cell? ⟨w.heap.size, 9, none⟩ = some (.string ⟨m.s.toArray⟩) ∧ w'.cell? ⟨w.heap.size, 10, none⟩ = some (.slice a m.l.length c) ∧ w'.cell? ⟨w.heap.size + 1, 0, none⟩ = some (.int .u8 o.k) ∧ w'.cell? ⟨w.heap.size + 1, 1, none⟩ = some (.int .i64 o.fr) ∧ w'.cell? ⟨w.heap.size + 1, 2, none⟩ = some (.int .i64 o.to) ∧ w'.cell? ⟨w.heap.size + 1, 3, none⟩ = some (.int .i64 o.ht) ∧ w'.cell? ⟨w.heap.size + 1, 4, none⟩ = some (.int .i64 o.rd) ∧ w'.cell? ⟨w.heap.size + 1, 5, none⟩ = some (.int .i64 o.vl) ∧ w'.cell? ⟨w.heap.size + 1, 6, none⟩ = some (.int .i64 o.ep) ∧ w'.cell? ⟨w.heap.size + 1, 7, none⟩ = some (.int .i64 o.dl) ∧ w'.cell? ⟨w.heap.size + 1, 8, none⟩ = some (.int .i64 o.id) ∧ w'.cell? ⟨w.heap.size + 1, 9, none⟩ = some (.string ⟨o.s.toArray⟩) ∧ w'.cell? ⟨w.heap.size + 1, 10, none⟩ = some (.slice a' o.l.length c') ∧ w'.cell? ⟨G3, 0, none⟩ = some (.int .u8 m.k) ∧ w'.cell? ⟨G3, 1, none⟩ = some (.int .i64 m.fr) ∧ w'.cell? ⟨G3, 2, none⟩ = some (.int .i64 m.to) ∧ w'.cell? ⟨G3, 3, none⟩ = some (.int .i64 m.ht) ∧ w'.cell? ⟨G3, 4, none⟩ = some (.int .i64 m.rd) ∧ w'.cell? ⟨G3, 5, none⟩ = some (.int .i64 m.vl) ∧ w'.cell? ⟨G3, 6, none⟩ = some (.int .i64 m.ep) ∧ w'.cell? ⟨G3, 7, none⟩ = some (.int .i64 m.dl) ∧ w'.cell? ⟨G3, 8, none⟩ = some (.int .i64 m.id) ∧ w'.cell? ⟨G3, 9, none⟩ = some (.string ⟨m.s.toArray⟩) ∧ w'.cell? ⟨G3, 10, none⟩ = some (.slice a2 m.l.length c2)) (exact TS.S (by assumption)) (first
        | (go_at_call 40; (with_reducible refine (may_agg m a2 c2 _ hkk mb HM.out).mono ?_); rintro e6 w6 ⟨rfl, b6⟩; have T6 := TS.step b6 (by assumption))
        | (go_at_call 44; (with_reducible refine (rmay_agg m a c _ hkk mb HM.out).mono ?_); rintro e7 w7 ⟨rfl, b7⟩; have T7 := TS.step b7 (by assumption))
        | (go_at_call 21; (with_reducible refine (rsame_agg m m a2 a c2 c _ (by exact TS.n3 (by assumption)) (by exact TS.n1 (by assumption)) hlm9 true HSR.out).mono ?_); rintro e8 w8 ⟨rfl, b8⟩; have T8 := TS.step b8 (by assumption))
        | (go_at_call 45; (with_reducible refine (same_agg m o a2 a' c2 c' _ (by exact TS.n3 (by assumption)) (by exact TS.n2 (by assumption)) hlm9 hlo9 sm HS.out).mono ?_); rintro e9 w9 ⟨rfl, b9⟩; have T9 := TS.step b9 (by assumption))
        | (go_at_call 21; (with_reducible refine (rsame_agg m o a a' c c' _ (by exact TS.n1 (by assumption)) (by exact TS.n2 (by assumption)) hlm9 sm HS.out).mono ?_); rintro e10 w10 ⟨rfl, b10⟩; have T10 := TS.step b10 (by assumption))
        | (go_at_call 45; (with_reducible refine (same_agg m m a2 a c2 c _ (by exact TS.n3 (by assumption)) (by exact TS.n1 (by assumption)) hlm9 hlm9 true HSR.out).mono ?_); rintro e11 w11 ⟨rfl, b11⟩; have T11 := TS.step b11 (by assumption)))
      all_goals
        go_wp2_with fail
        go_meet
        exact ⟨rfl, by assumption⟩
    case rest =>
      obtain ⟨rfl, T6⟩ := hcut
      have B6 := T6.bel
      have hG : w.heap.size ≤ wc.heap.size := B6.size
      clear T6 T5 HE HM HS HSR hkk hok hoo HL HL2 hlm hlo hlm9 hlo9 hG0 hG1 hG2
      go_wp2_with fail
      go_loopw [95] (fun v wr => ∃ j : Nat, j ≤ 4 ∧ v = .int .i64 j ∧ Blk wr wc.heap.size 9 (strCells [sl, A, A ++ sl, A]) ∧ Below w.heap.size w wr) (fun v _ => 4 - (intOf v).toNat)
      case atStart => exact ⟨0, Nat.zero_le _, rfl, Blk.new wc 9 (strCells [sl, A, A ++ sl, A]), B6.alloc B6.size _⟩
      case round =>
        obtain ⟨j, hj, rfl, hS, hB⟩ := hrel
        clear B6
        generalize wc.heap.size = G at hS hG ⊢
        generalize hL4 : [sl, A, A ++ sl, A] = L4 at *
        have H4 := Lib.hid hL4
        clear hL4 h5' hAl
        by_cases hlt : j < 4
        · obtain ⟨x, hx⟩ : ∃ x, L4[j]? = some x := ⟨_, List.getElem?_eq_getElem (by rw [← H4.out]; exact hlt)⟩
          have xc : wr.cell? ⟨G, j, none⟩ = some (.string ⟨x.toArray⟩) := by rw [Blk.cell hS]; exact strCells_at hx
          have hjI : (j : Int) < 4 := by omega
          clear hx
          go_wp2_with fail
          go_loopw [14] (fun v wr2 => ∃ k : Nat, k ≤ 2 ∧ v = .int .i64 k ∧ Blk wr2 G 9 (strCells L4) ∧ Below w.heap.size w wr2) (fun v _ => 2 - (intOf v).toNat)
          case atStart => exact ⟨0, Nat.zero_le _, rfl, hS, hB⟩
          case round =>
            clear hS hB xc
            obtain ⟨k, hk, rfl, hS, hB⟩ := hrel
            by_cases hk2 : k < 2
            · obtain ⟨p, g, hmd⟩ : ∃ p g, mdec x = (p, g) := ⟨_, _, rfl⟩
              have hps := (mdec_short x).2
              rw [hmd] at hps
              dsimp only at hps
              have HD := Lib.hid hmd
              clear hmd
              have hkI : (k : Int) < 2 := by omega
              go_wp2_with fail
              refine (decode_agg HD.out).mono ?_
              rintro e v5 ⟨a5, c5, rfl, own5, b5⟩
              have B5 := boxed_below (step_below hB b5) (step_below hB b5).size p a5 c5
              have S5 := boxed_kept (hS.kept b5) p a5 c5
              have K5 := boxed_blk v5 p a5 c5
              have L5 := boxed_nums (own_nums own5) p a5 c5
              have W5 := ((Wr.of_own own5 rfl).mono hB.size).alloc (.cells (p.cells a5 c5) 32)
              obtain ⟨w5, hw5⟩ : ∃ w5, w5 = boxed v5 p a5 c5 := ⟨_, rfl⟩
              have W5 : Wr w.heap.size a5 p.l.length w5 := by rw [hw5]; exact W5
              rw [← hw5] at B5 S5 K5 L5
              unfold boxed at hw5
              have HW := Lib.hid hw5
              clear hw5 hB hS b5 own5
              go_wp2_with fail
              rw [← HW.out]
              clear HW
              generalize v5.heap.size = G5 at *
              refine (rdecode_agg HD.out).mono ?_
              rintro e v6 ⟨a6, c6, rfl, own6, b6⟩
              have B6 := boxed_below (step_below B5 b6) (step_below B5 b6).size p a6 c6
              have S6 := boxed_kept (S5.kept b6) p a6 c6
              have K6 := boxed_kept (K5.kept b6) p a6 c6
              have M6 := boxed_blk v6 p a6 c6
              have L6 := boxed_nums (nums_step L5 b6) p a6 c6
              have N6 := boxed_nums (own_nums own6) p a6 c6
              have W6 := (W5.kept b6).alloc (.cells (p.cells a6 c6) 32)
              obtain ⟨w6, hw6⟩ : ∃ w6, w6 = boxed v6 p a6 c6 := ⟨_, rfl⟩
              have W6 : Wr w.heap.size a5 p.l.length w6 := by rw [hw6]; exact W6
              rw [← hw6] at B6 S6 K6 M6 L6 N6
              unfold boxed at hw6
              have HW := Lib.hid hw6
              clear hw6 B5 S5 K5 L5 W5 b6 own6
              go_upto_region 17 with fail
              rw [← HW.out]
              clear HW
              generalize v6.heap.size = G6 at *
              obtain ⟨f0, f1, f2, f3, f4, f5, f6, f7, f8, f9, f10⟩ := K6.msg
              obtain ⟨g0, g1, g2, g3, g4, g5, g6, g7, g8, g9, g10⟩ := M6.msg
              go_wp2_with fail
              refine (rsame_agg p p a5 a6 c5 c6 w6 L6 N6 (by omega) true (same_refl _)).mono ?_
              rintro e w7 ⟨rfl, b7⟩
              have B7 := step_below B6 b7
              have S7 := S6.kept b7
              have K7 := K6.kept b7
              have W7 := W6.kept b7
              clear f0 f1 f2 f3 f4 f5 f6 f7 f8 f9 f10 g0 g1 g2 g3 g4 g5 g6 g7 g8 g9 g10 B6 S6 K6 M6 L6 N6 W6 b7
              go_wp2_with fail
              go_loopw [19] (fun v wz => ∃ i : Nat, i ≤ p.l.length ∧ v = .int .i64 i ∧ Blk wz G5 32 (p.cells a5 c5) ∧ Wr w.heap.size a5 p.l.length wz ∧ Blk wz G 9 (strCells L4) ∧ Below w.heap.size w wz) (fun v _ => p.l.length - (intOf v).toNat)
              case atStart => exact ⟨0, Nat.zero_le _, rfl, K7, W7, S7, B7⟩
              case round =>
                clear B7 S7 K7 W7
                obtain ⟨i, hi, rfl, hK, hW, hS, hB⟩ := hrel
                have p10 : wr.cell? ⟨G5, 10, none⟩ = some (.slice a5 p.l.length c5) := hK.cell 10
                by_cases hil : i < p.l.length
                · rcases hW with h0 | ⟨q, cur, ha, hq, hQ, hn⟩
                  · omega
                  subst ha
                  obtain ⟨u, hu⟩ : ∃ u, cur[i]? = some u := ⟨_, Array.getElem?_eq_getElem (by omega)⟩
                  have q1 : wr.cell? ⟨q, i, none⟩ = some u := by rw [hQ.cell]; exact hu
                  have q2 : wr.frozen? ⟨q, i, none⟩ = false := hQ.frozen i
                  have n1 : G5 ≠ q := Blk.ne_ hK hQ (by decide)
                  have n2 : G ≠ q := Blk.ne_ hS hQ (by decide)
                  have hiI : (i : Int) < (p.l.length : Int) := by omega
                  clear hu
                  go_wp2_with fail
                  go_roundw
                  case rel => exact ⟨i + 1, by omega, by go_num, hK.farc n1 _, .inr ⟨q, _, rfl, hq, hQ.set_ i _, by simpa using hn⟩, hS.farc n2 _, hB.setCell (p := ⟨q, i, none⟩) hq _⟩
                  case measure => simp [intOf]; omega
                · have hie : i = p.l.length := by omega
                  subst hie
                  go_wp2_with fail
                  go_roundw
                  case rel => exact ⟨k + 1, by omega, by go_num, hS, hB⟩
                  case measure => simp [intOf]; omega
            · have hke : k = 2 := by omega
              subst hke
              go_wp2_with fail
              go_roundw
              case rel => exact ⟨j + 1, by omega, by go_num, hS, hB⟩
              case measure => simp [intOf]; omega
        · have hje : j = 4 := by omega
          subst hje
          go_wp2_with fail
          go_ret
          exact ⟨rfl, hB⟩

theorem tells_any (m o : Mg) (a a' : Option Addr) (c c' : Nat) (sl : List UInt8) (w : World) (hf : MFit m) (hn : Nums .u64 w w.heap.size a m.l) (hfo : MFit o) (hno : Nums .u64 w w.heap.size a' o.l) (hsl : sl.length ≤ 140737488351232) :
    Calls Try.prog 12 #[m.val a c, o.val a' c', .string ⟨sl.toArray⟩] w (TruePost w) := by
  cases hL : largeB m with
  | true => exact tells_early m o a a' c c' sl w hsl (.inl hL)
  | false =>
    cases hL2 : largeB o with
    | true => exact tells_early m o a a' c c' sl w hsl (.inr (.inl hL2))
    | false =>
      by_cases h5 : 20000 < sl.length
      · exact tells_early m o a a' c c' sl w hsl (.inr (.inr h5))
      · exact tells_main m o a a' c c' sl w hf hn hfo hno hL hL2 h5
end Go.Proofs.Ytbibbndjnlnbiaa

