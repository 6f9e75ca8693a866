/-
  consistorylaw14.MsgNames: the walk.
-/
import Derived.Test.YtbibbndjnlnbiaaMNBase
namespace Go.Proofs.Ytbibbndjnlnbiaa
open Go.RowKit

theorem infoMsgN : (Try.prog.info? 32).map (fun i => (i.zero, i.size, i.bytes)) = some (some (.agg zeroCells), 11, 112) := by kernel_rfl
/-- The list behind its first k changes. -/
def badK (k : Nat) : List Mg := (([(0, ⟨1, 0, 8, 0, 0, 0, 0, 0, 0, [], []⟩), (1, ⟨2, 8, 0, 64, 99, 99, 0, 0, 0, [116], []⟩), (2, ⟨3, 1, 8, 0, 0, 0, 0, 0, 0, [], []⟩), (3, ⟨4, 1, 0, 1, 5, 0, 0, 0, 0, z2049, []⟩), (4, ⟨5, 3, 0, 9, 0, 0, 0, 0, 0, [], []⟩), (5, ⟨6, 0, 1, 0, 0, 0, 0, 0, 0, [], n1025⟩), (6, ⟨7, 2, 5, 0, 0, 0, 64, 8, 0, [], [18446744073709551615]⟩), (7, ⟨8, 0, 5, 0, 0, 0, 1, 1, 0, [], []⟩), (8, ⟨9, 2, 0, 0, 0, 0, 65, 1, 0, [], [0]⟩), (9, ⟨10, 2, 9, 0, 0, 0, 1, 1, 0, [], []⟩), (10, ⟨11, 4, 1, 0, 0, 0, 2, 0, 1099511627776, [], [5, 6]⟩), (11, ⟨1, 0, 0, 0, 0, 0, 0, 0, 0, [116], []⟩), (12, ⟨2, 8, 0, 64, 100, -1, 0, 0, 0, [116], []⟩), (13, ⟨3, 1, 8, 1, -1, 0, 0, 0, 0, [], []⟩), (14, ⟨4, 1, 0, 65, 5, 0, 0, 0, 0, z2048, []⟩), (15, ⟨5, 9, 0, 9, 0, 0, 0, 0, 0, [116], []⟩), (16, ⟨6, 1, 1, 0, 0, 0, 0, 0, 0, [], n1024⟩), (17, ⟨7, 2, 5, 0, 0, 0, 64, 0, 0, [], [18446744073709551615]⟩), (18, ⟨8, 2, 5, 0, 0, 0, 0, 1, 0, [], []⟩), (19, ⟨9, 2, 0, 0, 0, 0, 1, 1, 0, [116], [0]⟩), (20, ⟨10, 2, -1, 0, 0, 0, 1, 1, 0, [], []⟩), (21, ⟨11, 4, 0, 0, 0, 0, 2, 0, 0, [], [5, 6]⟩)] : List (Nat × Mg)).take k).foldl (fun L p => L.set p.1 p.2) (baseL ++ baseL)
theorem badK_end : badK 22 = badL := by rfl
theorem badK_0 : badK 0 = baseL ++ baseL := by rfl
section
variable {X : Nat → Prop} {w : World} {q cap : Nat}
theorem bad_step0 (h : RowM X w q cap (badK 0)) : RowM X (w.setCell ⟨q, 9, none⟩ (.string ⟨#[]⟩)) q cap (badK 1) :=
  h.put (i := 0) (j := 9) (m := ⟨1, 0, 8, 0, 0, 0, 0, 0, 0, [116], []⟩) (by rfl) (by decide) (by rfl) ⟨1, 0, 8, 0, 0, 0, 0, 0, 0, [], []⟩ (.string ⟨#[]⟩) (fun _ _ => rfl) rfl
theorem bad_step1 (h : RowM X w q cap (badK 1)) : RowM X (w.setCell ⟨q, 16, none⟩ (.int .i64 99)) q cap (badK 2) :=
  h.put (i := 1) (j := 5) (m := ⟨2, 8, 0, 64, 99, -1, 0, 0, 0, [116], []⟩) (by rfl) (by decide) (by rfl) ⟨2, 8, 0, 64, 99, 99, 0, 0, 0, [116], []⟩ (.int .i64 99) (fun _ _ => rfl) rfl
theorem bad_step2 (h : RowM X w q cap (badK 2)) : RowM X (w.setCell ⟨q, 25, none⟩ (.int .i64 0)) q cap (badK 3) :=
  h.put (i := 2) (j := 3) (m := ⟨3, 1, 8, 1, 0, 0, 0, 0, 0, [], []⟩) (by rfl) (by decide) (by rfl) ⟨3, 1, 8, 0, 0, 0, 0, 0, 0, [], []⟩ (.int .i64 0) (fun _ _ => rfl) rfl
theorem bad_step3 (h : RowM X w q cap (badK 3)) : RowM X (w.setCell ⟨q, 42, none⟩ (.string ⟨z2049.toArray⟩)) q cap (badK 4) :=
  h.put (i := 3) (j := 9) (m := ⟨4, 1, 0, 1, 5, 0, 0, 0, 0, z2048, []⟩) (by rfl) (by decide) (by rfl) ⟨4, 1, 0, 1, 5, 0, 0, 0, 0, z2049, []⟩ (.string ⟨z2049.toArray⟩) (fun _ _ => rfl) rfl
theorem bad_step4 (h : RowM X w q cap (badK 4)) : RowM X (w.setCell ⟨q, 53, none⟩ (.string ⟨#[]⟩)) q cap (badK 5) :=
  h.put (i := 4) (j := 9) (m := ⟨5, 3, 0, 9, 0, 0, 0, 0, 0, [116], []⟩) (by rfl) (by decide) (by rfl) ⟨5, 3, 0, 9, 0, 0, 0, 0, 0, [], []⟩ (.string ⟨#[]⟩) (fun _ _ => rfl) rfl
theorem bad_step5 {a : Option Addr} (h : RowM X w q cap (badK 5)) (hl : NumT X w a n1025) : RowM X (w.setCell ⟨q, 65, none⟩ (.slice a 1025 1025)) q cap (badK 6) :=
  h.putl (i := 5) (m := ⟨6, 0, 1, 0, 0, 0, 0, 0, 0, [], n1024⟩) (by rfl) (by rfl) n1025 a 1025 1025 (by unfold n1025; exact List.length_replicate.symm) hl
theorem bad_step6 (h : RowM X w q cap (badK 6)) : RowM X (w.setCell ⟨q, 73, none⟩ (.int .i64 8)) q cap (badK 7) :=
  h.put (i := 6) (j := 7) (m := ⟨7, 2, 5, 0, 0, 0, 64, 7, 0, [], [18446744073709551615]⟩) (by rfl) (by decide) (by rfl) ⟨7, 2, 5, 0, 0, 0, 64, 8, 0, [], [18446744073709551615]⟩ (.int .i64 8) (fun _ _ => rfl) rfl
theorem bad_step7 (h : RowM X w q cap (badK 7)) : RowM X (w.setCell ⟨q, 78, none⟩ (.int .i64 0)) q cap (badK 8) :=
  h.put (i := 7) (j := 1) (m := ⟨8, 2, 5, 0, 0, 0, 1, 1, 0, [], []⟩) (by rfl) (by decide) (by rfl) ⟨8, 0, 5, 0, 0, 0, 1, 1, 0, [], []⟩ (.int .i64 0) (fun _ _ => rfl) rfl
theorem bad_step8 (h : RowM X w q cap (badK 8)) : RowM X (w.setCell ⟨q, 94, none⟩ (.int .i64 65)) q cap (badK 9) :=
  h.put (i := 8) (j := 6) (m := ⟨9, 2, 0, 0, 0, 0, 1, 1, 0, [], [0]⟩) (by rfl) (by decide) (by rfl) ⟨9, 2, 0, 0, 0, 0, 65, 1, 0, [], [0]⟩ (.int .i64 65) (fun _ _ => rfl) rfl
theorem bad_step9 (h : RowM X w q cap (badK 9)) : RowM X (w.setCell ⟨q, 101, none⟩ (.int .i64 9)) q cap (badK 10) :=
  h.put (i := 9) (j := 2) (m := ⟨10, 2, 2, 0, 0, 0, 1, 1, 0, [], []⟩) (by rfl) (by decide) (by rfl) ⟨10, 2, 9, 0, 0, 0, 1, 1, 0, [], []⟩ (.int .i64 9) (fun _ _ => rfl) rfl
theorem bad_step10 (h : RowM X w q cap (badK 10)) : RowM X (w.setCell ⟨q, 112, none⟩ (.int .i64 1)) q cap (badK 11) :=
  h.put (i := 10) (j := 2) (m := ⟨11, 4, 0, 0, 0, 0, 2, 0, 1099511627776, [], [5, 6]⟩) (by rfl) (by decide) (by rfl) ⟨11, 4, 1, 0, 0, 0, 2, 0, 1099511627776, [], [5, 6]⟩ (.int .i64 1) (fun _ _ => rfl) rfl
theorem bad_step11 (h : RowM X w q cap (badK 11)) : RowM X (w.setCell ⟨q, 123, none⟩ (.int .i64 0)) q cap (badK 12) :=
  h.put (i := 11) (j := 2) (m := ⟨1, 0, 8, 0, 0, 0, 0, 0, 0, [116], []⟩) (by rfl) (by decide) (by rfl) ⟨1, 0, 0, 0, 0, 0, 0, 0, 0, [116], []⟩ (.int .i64 0) (fun _ _ => rfl) rfl
theorem bad_step12 (h : RowM X w q cap (badK 12)) : RowM X (w.setCell ⟨q, 136, none⟩ (.int .i64 100)) q cap (badK 13) :=
  h.put (i := 12) (j := 4) (m := ⟨2, 8, 0, 64, 99, -1, 0, 0, 0, [116], []⟩) (by rfl) (by decide) (by rfl) ⟨2, 8, 0, 64, 100, -1, 0, 0, 0, [116], []⟩ (.int .i64 100) (fun _ _ => rfl) rfl
theorem bad_step13 (h : RowM X w q cap (badK 13)) : RowM X (w.setCell ⟨q, 147, none⟩ (.int .i64 (-1))) q cap (badK 14) :=
  h.put (i := 13) (j := 4) (m := ⟨3, 1, 8, 1, 0, 0, 0, 0, 0, [], []⟩) (by rfl) (by decide) (by rfl) ⟨3, 1, 8, 1, -1, 0, 0, 0, 0, [], []⟩ (.int .i64 (-1)) (fun _ _ => rfl) rfl
theorem bad_step14 (h : RowM X w q cap (badK 14)) : RowM X (w.setCell ⟨q, 157, none⟩ (.int .i64 65)) q cap (badK 15) :=
  h.put (i := 14) (j := 3) (m := ⟨4, 1, 0, 1, 5, 0, 0, 0, 0, z2048, []⟩) (by rfl) (by decide) (by rfl) ⟨4, 1, 0, 65, 5, 0, 0, 0, 0, z2048, []⟩ (.int .i64 65) (fun _ _ => rfl) rfl
theorem bad_step15 (h : RowM X w q cap (badK 15)) : RowM X (w.setCell ⟨q, 166, none⟩ (.int .i64 9)) q cap (badK 16) :=
  h.put (i := 15) (j := 1) (m := ⟨5, 3, 0, 9, 0, 0, 0, 0, 0, [116], []⟩) (by rfl) (by decide) (by rfl) ⟨5, 9, 0, 9, 0, 0, 0, 0, 0, [116], []⟩ (.int .i64 9) (fun _ _ => rfl) rfl
theorem bad_step16 (h : RowM X w q cap (badK 16)) : RowM X (w.setCell ⟨q, 177, none⟩ (.int .i64 1)) q cap (badK 17) :=
  h.put (i := 16) (j := 1) (m := ⟨6, 0, 1, 0, 0, 0, 0, 0, 0, [], n1024⟩) (by rfl) (by decide) (by rfl) ⟨6, 1, 1, 0, 0, 0, 0, 0, 0, [], n1024⟩ (.int .i64 1) (fun _ _ => rfl) rfl
theorem bad_step17 (h : RowM X w q cap (badK 17)) : RowM X (w.setCell ⟨q, 194, none⟩ (.int .i64 0)) q cap (badK 18) :=
  h.put (i := 17) (j := 7) (m := ⟨7, 2, 5, 0, 0, 0, 64, 7, 0, [], [18446744073709551615]⟩) (by rfl) (by decide) (by rfl) ⟨7, 2, 5, 0, 0, 0, 64, 0, 0, [], [18446744073709551615]⟩ (.int .i64 0) (fun _ _ => rfl) rfl
theorem bad_step18 (h : RowM X w q cap (badK 18)) : RowM X (w.setCell ⟨q, 204, none⟩ (.int .i64 0)) q cap (badK 19) :=
  h.put (i := 18) (j := 6) (m := ⟨8, 2, 5, 0, 0, 0, 1, 1, 0, [], []⟩) (by rfl) (by decide) (by rfl) ⟨8, 2, 5, 0, 0, 0, 0, 1, 0, [], []⟩ (.int .i64 0) (fun _ _ => rfl) rfl
theorem bad_step19 (h : RowM X w q cap (badK 19)) : RowM X (w.setCell ⟨q, 218, none⟩ (.string ⟨#[116]⟩)) q cap (badK 20) :=
  h.put (i := 19) (j := 9) (m := ⟨9, 2, 0, 0, 0, 0, 1, 1, 0, [], [0]⟩) (by rfl) (by decide) (by rfl) ⟨9, 2, 0, 0, 0, 0, 1, 1, 0, [116], [0]⟩ (.string ⟨#[116]⟩) (fun _ _ => rfl) rfl
theorem bad_step20 (h : RowM X w q cap (badK 20)) : RowM X (w.setCell ⟨q, 222, none⟩ (.int .i64 (-1))) q cap (badK 21) :=
  h.put (i := 20) (j := 2) (m := ⟨10, 2, 2, 0, 0, 0, 1, 1, 0, [], []⟩) (by rfl) (by decide) (by rfl) ⟨10, 2, -1, 0, 0, 0, 1, 1, 0, [], []⟩ (.int .i64 (-1)) (fun _ _ => rfl) rfl
theorem bad_step21 (h : RowM X w q cap (badK 21)) : RowM X (w.setCell ⟨q, 239, none⟩ (.int .i64 0)) q cap (badK 22) :=
  h.put (i := 21) (j := 8) (m := ⟨11, 4, 0, 0, 0, 0, 2, 0, 1099511627776, [], [5, 6]⟩) (by rfl) (by decide) (by rfl) ⟨11, 4, 0, 0, 0, 0, 2, 0, 0, [], [5, 6]⟩ (.int .i64 0) (fun _ _ => rfl) rfl
end
theorem mk2049 (w : World) : (Instr.makeSlice 45 (.int .i64 2049) (.int .i64 2049)).run Try.prog w = .ok (.slice (some ⟨w.heap.size, 0, none⟩) 2049 2049) (w.alloc (zerosAt 2049)) := mk_bytes 2049 (by decide) w
theorem cv2049 (w : World) : (convert 45 9 (.slice (some ⟨w.heap.size, 0, none⟩) 2049 2049)).run Try.prog (w.alloc (zerosAt 2049)) = .ok (.string ⟨z2049.toArray⟩) (w.alloc (zerosAt 2049)) := conv_zeros 2049 w
theorem mk1025 (w : World) : (Instr.makeSlice 30 (.int .i64 1025) (.int .i64 1025)).run Try.prog w = .ok (.slice (some ⟨w.heap.size, 0, none⟩) 1025 1025) (w.alloc (.cells (Array.replicate 1025 (.int .u64 0)) 56)) := mk_u64 1025 (by decide) w
/-- One row behind the other. -/
theorem row22 {w w4 u0 : World} {q1 q c1 cq : Nat} {T1 T2 : List MT} (own8 : u0.ownsRow w.heap.size 32 11 (.slice (some ⟨q, 0, none⟩) 22 cq) 22 (flat T1 ++ flat T2)) (gr8 : w4.grownBy u0 (Value.slice (some ⟨q1, 0, none⟩) 11 c1).ownBlock)
    (own1 : w4.ownsRow w.heap.size 32 11 (.slice (some ⟨q1, 0, none⟩) 11 c1) 11 (flat T1)) (h1 : T1.map (·.m) = baseL) (h2 : T2.map (·.m) = baseL) (n1 : ∀ t ∈ T1, NumT (fun _ => False) w4 t.a t.m.l) (n2 : ∀ t ∈ T2, NumT (fun _ => False) w4 t.a t.m.l) (b4 : Below w.heap.size w w4) :
    RowM (fun _ => False) u0 q cq (badK 0) ∧ Below w.heap.size w u0 := by
  rw [← flat_append] at own8
  refine ⟨⟨T1 ++ T2, (Flat.of_own own8).1, by rw [List.map_append, h1, h2, badK_0], fun t ht => ?_⟩, b4.grown gr8 b4.size (own_lt own1)⟩
  have h : NumT (fun _ => False) w4 t.a t.m.l := (List.mem_append.1 ht).elim (n1 t) (n2 t)
  exact h.grow fun q' cur _ hb => hb.grown gr8 (own_ne' own1 hb (by decide))
/-- Where it lies it stays. -/
theorem same_place {w w1 : World} {q o : Nat} {t : MT} (h : MsgAt w q o t) (b : Below w.heap.size w w1) : MsgAt w1 q o t := by
  obtain ⟨f0, f1, f2, f3, f4, f5, f6, f7, f8, f9, f10⟩ := h
  exact ⟨cell_keep f0 b, cell_keep f1 b, cell_keep f2 b, cell_keep f3 b, cell_keep f4 b, cell_keep f5 b, cell_keep f6 b, cell_keep f7 b, cell_keep f8 b, cell_keep f9 b, cell_keep f10 b⟩
/-- What a round of the first loop stands on. -/
structure MR (w : World) (q j G : Nat) (m : Mg) (a a5 : Option Addr) (c c5 : Nat) (w1 : World) : Prop where
  row : RowM (fun _ => False) w1 q 11 baseL
  bel : Below w.heap.size w w1
  box : Blk w1 G 32 (m.cells a5 c5)
  num : Nums .u64 w1 w1.heap.size a5 m.l
  pl : MsgAt w1 q (j * 11) ⟨m, a, c⟩
  numa : Nums .u64 w1 w1.heap.size a m.l
theorem MR.step {w w1 w2 : World} {q j G : Nat} {m : Mg} {a a5 : Option Addr} {c c5 : Nat} (h : MR w q j G m a a5 c c5 w1) (b : Below w1.heap.size w1 w2) : MR w q j G m a a5 c c5 w2 := ⟨h.row.kept b, step_below h.bel b, h.box.kept b, nums_step h.num b, same_place h.pl b, nums_step h.numa b⟩

/-- What each operation of the drawn region comes to. -/
def mval (q j : Nat) (m : Mg) (a a5 : Option Addr) (c c5 : Nat) : Nat → Value
  | 0 => .slice (some ⟨q, 0, none⟩) 11 11
  | 1 => .int .i64 j
  | 2 => .pointer (some ⟨q, j * 11, none⟩)
  | 3 => .agg #[.int .u8 m.k, .int .i64 m.fr, .int .i64 m.to, .int .i64 m.ht, .int .i64 m.rd, .int .i64 m.vl, .int .i64 m.ep, .int .i64 m.dl, .int .i64 m.id, .string ⟨m.s.toArray⟩, .slice a m.l.length c]
  | 4 => .bool true
  | 7 => .int .i64 0
  | 11 => .int .i64 0
  | 15 => .agg #[.int .u8 m.k, .int .i64 m.fr, .int .i64 m.to, .int .i64 m.ht, .int .i64 m.rd, .int .i64 m.vl, .int .i64 m.ep, .int .i64 m.dl, .int .i64 m.id, .string ⟨m.s.toArray⟩, .slice a5 m.l.length c5]
  | 16 => .slice (some ⟨q, 0, none⟩) 11 11
  | 17 => .int .i64 j
  | 18 => .pointer (some ⟨q, j * 11, none⟩)
  | 19 => .agg #[.int .u8 m.k, .int .i64 m.fr, .int .i64 m.to, .int .i64 m.ht, .int .i64 m.rd, .int .i64 m.vl, .int .i64 m.ep, .int .i64 m.dl, .int .i64 m.id, .string ⟨m.s.toArray⟩, .slice a m.l.length c]
  | 20 => .bool true
  | 24 => .slice (some ⟨q, 0, none⟩) 11 11
  | 25 => .int .i64 j
  | 26 => .pointer (some ⟨q, j * 11, none⟩)
  | 27 => .pointer (some ⟨q, j * 11, none⟩)
  | 28 => .int .u8 m.k
  | 29 => .int .i64 m.k
  | 30 => .int .i64 j
  | 31 => .int .i64 ((j : Int) + 1)
  | _ => .bool false
def from1 : List UInt8 := voteB.take 1 ++ [0, 0, 0, 0, 0, 0, 0, 9]
def from2 : List UInt8 := voteB.take 1 ++ [0, 0, 0, 0, 0, 0, 0, 9] ++ voteB.drop 9
theorem dec_from2 : mdec from2 = (Mg.zero, 4) := dec_from
/-- What each operation of the other drawn region comes to. -/
def vT (lo : Nat) (i : Nat) (L : Nat → Bool) (v : Value) (w : World) : Prop := match i with
  | 0 => v = .string ⟨voteB.toArray⟩
  | 1 => v = .string ⟨(voteB.take 1).toArray⟩
  | 2 => v = .string ⟨from1.toArray⟩
  | 3 => v = .string ⟨voteB.toArray⟩
  | 4 => v = .string ⟨(voteB.drop 9).toArray⟩
  | 5 => v = .string ⟨from2.toArray⟩
  | 6 => ∃ a c, v = .tuple #[.agg #[.int .u8 Mg.zero.k, .int .i64 Mg.zero.fr, .int .i64 Mg.zero.to, .int .i64 Mg.zero.ht, .int .i64 Mg.zero.rd, .int .i64 Mg.zero.vl, .int .i64 Mg.zero.ep, .int .i64 Mg.zero.dl, .int .i64 Mg.zero.id, .string ⟨Mg.zero.s.toArray⟩, .slice a Mg.zero.l.length c], .int .i64 4]
  | 7 => ∃ a c, v = .tuple #[.agg #[.int .u8 Mg.zero.k, .int .i64 Mg.zero.fr, .int .i64 Mg.zero.to, .int .i64 Mg.zero.ht, .int .i64 Mg.zero.rd, .int .i64 Mg.zero.vl, .int .i64 Mg.zero.ep, .int .i64 Mg.zero.dl, .int .i64 Mg.zero.id, .string ⟨Mg.zero.s.toArray⟩, .slice a Mg.zero.l.length c], .int .i64 4]
  | 8 => ∃ a c, v = .agg #[.int .u8 Mg.zero.k, .int .i64 Mg.zero.fr, .int .i64 Mg.zero.to, .int .i64 Mg.zero.ht, .int .i64 Mg.zero.rd, .int .i64 Mg.zero.vl, .int .i64 Mg.zero.ep, .int .i64 Mg.zero.dl, .int .i64 Mg.zero.id, .string ⟨Mg.zero.s.toArray⟩, .slice a Mg.zero.l.length c]
  | 9 => v = .int .i64 4
  | 10 => ∃ q, v = .pointer (some ⟨q, 0, none⟩) ∧ lo ≤ q ∧ (L 11 = false → Blk w q 32 zeroCells)
  | 12 => v = .int .i64 4
  | _ => True
theorem vT_mono {lo : Nat} : ∀ (i j : Nat) (L : Nat → Bool) (v : Value) (w w' : World), j ≠ i → L i = false → L j = true → vT lo j L v w → (i = 11 ∨ Below w.heap.size w w') → vT lo j (fun j => j == i || L j) v w' := by
  intro i j L v w w' hne hi hj h hr
  unfold vT at h ⊢
  split at h <;> first | exact h | skip
  obtain ⟨q, e, hq, hb⟩ := h
  refine ⟨q, e, hq, fun h11 => ?_⟩
  rcases hr with rfl | b
  · simp at h11
  · exact (hb (by simpa using (by simpa using h11 : ¬ 11 = i ∧ L 11 = false).2)).kept b
set_option maxRecDepth 100000 in
set_option maxHeartbeats 8000000 in
theorem mnames_any (w : World) : Calls Try.prog 8 #[] w (TruePost w) := by
  go_enter Try.func8, Try.ntmps8
  go_wp2_with fail
  refine (works_any w).mono ?_
  rintro e w1 ⟨rfl, b1⟩
  have H1 := Lib.hid b1
  clear b1
  go_wp2_with fail
  refine (base_any w1).mono ?_
  rintro e w2 ⟨q, rfl, hq, hr, b2⟩
  have H2 := Lib.hid (And.intro hr (step_below H1.out b2))
  clear hq hr b2 H1
  go_wp2_with fail
  go_loopw [2] (fun i wr => ∃ j : Nat, j ≤ 11 ∧ i = .int .i64 j ∧ RowM (fun _ => False) wr q 11 baseL ∧ Below w.heap.size w wr) (fun i _ => 11 - (intOf i).toNat)
  case atStart => exact ⟨0, by omega, rfl, H2.out⟩
  case round =>
    obtain ⟨j, hj, rfl, hR, hB⟩ := hrel
    clear H2
    by_cases hlt : j < 11
    · have hjI : (j : Int) < 11 := by omega
      obtain ⟨m, hm⟩ : ∃ m, baseL[j]? = some m := ⟨_, List.getElem?_eq_getElem (by rw [base_len]; exact hlt)⟩
      have hk := base_kind j m hm
      obtain ⟨hok, hmay⟩ := base_ok m (List.mem_of_getElem? hm)
      obtain ⟨a, c, hat, hna⟩ := hR.at hm
      have HC := Lib.hid (encode_agg (c := c) hok hna (enc_ok hmay).1 (enc_ok hmay).2)
      have HX := Lib.hid (And.intro hok (And.intro hmay (And.intro (show m.l.length ≤ 9223372036854775807 by have := (Mg.may_len hmay).2; omega) (And.intro (And.intro hR hB) (And.intro hat hna)))))
      have hk0 := hok.k.1
      have hk1 := hok.k.2
      have hwk : IntKind.i64.wrap m.k = m.k := by rw [IntKind.wrap_i64]; omega
      have hwj : IntKind.i64.wrap ((j : Int) + 1) = (j : Int) + 1 := by rw [IntKind.wrap_i64]; omega
      have hkj : (m.k != (j : Int) + 1) = false := by rw [hk]; simp
      obtain ⟨f0, f1, f2, f3, f4, f5, f6, f7, f8, f9, f10⟩ := hat
      clear hR hB hm hok hmay hna hk
      go_wp2_with fail
      refine (Calls.mono HC.out ?_)
      rintro e w3 ⟨rfl, b3⟩
      have H3 := Lib.hid b3
      clear f0 f1 f2 f3 f4 f5 f6 f7 f8 f9 f10 b3 HC
      have HD := Lib.hid (decode_agg (w := w3) (mdec_enc HX.out.1 HX.out.2.1))
      go_wp2_with fail
      refine (Calls.mono HD.out ?_)
      rintro e v4 ⟨a5, c5, rfl, own5, b4⟩
      have K4 := boxed_blk v4 m a5 c5
      have B4 := boxed_below (step_below H3.out b4) (step_below H3.out b4).size m a5 c5
      have N4 := boxed_nums (own_nums own5) m a5 c5
      obtain ⟨w4, hw4⟩ : ∃ w4, w4 = boxed v4 m a5 c5 := ⟨_, rfl⟩
      rw [← hw4] at K4 B4 N4
      unfold boxed at hw4
      have HW := Lib.hid hw4
      have HM : MR w q j v4.heap.size m a a5 c c5 w4 := ⟨HX.out.2.2.2.1.1.kept B4, step_below HX.out.2.2.2.1.2 B4, K4, N4, same_place HX.out.2.2.2.2.1 B4, nums_step HX.out.2.2.2.2.2 B4⟩
      have HM := Lib.hid HM
      clear K4 B4 N4 hw4 own5 b4 HD H3
      go_upto_region 9 with fail
      rw [← HW.out]
      clear HW
      generalize v4.heap.size = G at HM ⊢
      refine' wp_region_invB _ (fun i v _ => v = mval q j m a a5 c c5 i) (fun _ w' => MR w q j G m a a5 c c5 w') (fun _ _ _ => True) ?hA (by kernel_rfl) (by kernel_rfl) (by kernel_rfl) (HM.out.step (Below.refl _ w4).drew) (fun _ _ _ _ _ _ _ _ _ _ h _ => h) ?step ?fin
      case hA =>
        intro vs
        conv => lhs; simp only [fillL, Act.put, List.setIfInBounds_toArray, List.set_cons_zero, List.set_cons_succ, Nat.reduceAdd]
        try exact rfl
      case step =>
        refine StepsA.cons (fun L vs w1 hl hdl hg hd2 => ?_) ?_
        · refine opTo_of (by kernel_rfl) (fun K hK => ?_)
          go_simp
          exact hK.out (.slice (some ⟨q, 0, none⟩) 11 11) _ _ (by kernel_rfl) ⟨hg, trivial, rfl⟩
        refine StepsA.cons (fun L vs w1 hl hdl hg hd2 => ?_) ?_
        · refine opTo_of (by kernel_rfl) (fun K hK => ?_)
          go_simp
          exact hK.out (.int .i64 j) _ _ (by kernel_rfl) ⟨hg, trivial, rfl⟩
        refine StepsA.cons (fun L vs w1 hl hdl hg hd2 => ?_) ?_
        · have e0 : vs 0 = .slice (some ⟨q, 0, none⟩) 11 11 := hd2 0 (by decide)
          have e1 : vs 1 = .int .i64 j := hd2 1 (by decide)
          refine opTo_of (by kernel_rfl) (fun K hK => ?_)
          go_simp
          exact hK.out (.pointer (some ⟨q, j * 11, none⟩)) _ _ (by simp only [e0, e1]; kernel_rfl) ⟨hg, trivial, rfl⟩
        refine StepsA.cons (fun L vs w1 hl hdl hg hd2 => ?_) ?_
        · have e2 : vs 2 = .pointer (some ⟨q, j * 11, none⟩) := hd2 2 (by decide)
          obtain ⟨f0, f1, f2, f3, f4, f5, f6, f7, f8, f9, f10⟩ := hg.pl
          refine opTo_of (by kernel_rfl) (fun K hK => ?_)
          go_simp
          exact hK.out (.agg #[.int .u8 m.k, .int .i64 m.fr, .int .i64 m.to, .int .i64 m.ht, .int .i64 m.rd, .int .i64 m.vl, .int .i64 m.ep, .int .i64 m.dl, .int .i64 m.id, .string ⟨m.s.toArray⟩, .slice a m.l.length c]) _ _ (by simp only [e2]; kernel_rfl) ⟨hg, trivial, rfl⟩
        refine StepsA.cons (fun L vs w1 hl hdl hg hd2 => ?_) ?_
        · have e3 : vs 3 = .agg #[.int .u8 m.k, .int .i64 m.fr, .int .i64 m.to, .int .i64 m.ht, .int .i64 m.rd, .int .i64 m.vl, .int .i64 m.ep, .int .i64 m.dl, .int .i64 m.id, .string ⟨m.s.toArray⟩, .slice a m.l.length c] := hd2 3 (by decide)
          have HC := Lib.hid (may_agg m a c w1 HX.out.1.k true HX.out.2.1)
          refine opTo_of (by kernel_rfl) (fun K hK => ?_)
          go_simp
          refine Calls.mono HC.out ?_
          rintro r2 w2 ⟨rfl, hb⟩
          exact hK.out (.bool true) _ _ (by simp only [e3]; kernel_rfl) ⟨hg.step hb, trivial, rfl⟩
        refine StepsA.cons (fun L vs w1 hl hdl hg hd2 => ?_) ?_
        · have e4 : vs 4 = .bool true := hd2 4 (by decide)
          refine opTo_of (by kernel_rfl) (fun K hK => ?_)
          go_simp
          exact hK.out (.bool false) _ _ (by simp only [e4]; kernel_rfl) ⟨hg, trivial, rfl⟩
        refine StepsA.cons (fun L vs w1 hl hdl hg hd2 => ?_) ?_
        · have e5 : vs 5 = .bool false := hd2 5 (by decide)
          refine opTo_of (by kernel_rfl) (fun K hK => ?_)
          go_simp
          exact hK.out (.bool false) _ _ (by simp only [e5]; kernel_rfl) ⟨hg, trivial, rfl⟩
        refine StepsA.cons (fun L vs w1 hl hdl hg hd2 => ?_) ?_
        · have e6 : vs 6 = .bool false := hd2 6 (by decide)
          refine opTo_of (by simp only [e6]; kernel_rfl) (fun K hK => ?_)
          go_simp
          exact hK.out (.int .i64 0) _ _ (by simp only [e6]; kernel_rfl) ⟨hg, trivial, rfl⟩
        refine StepsA.cons (fun L vs w1 hl hdl hg hd2 => ?_) ?_
        · have e7 : vs 7 = .int .i64 0 := hd2 7 (by decide)
          have e6 : vs 6 = .bool false := hd2 6 (by decide)
          refine opTo_of (by simp only [e6]; kernel_rfl) (fun K hK => ?_)
          go_simp
          exact hK.out (.bool false) _ _ (by simp only [e7, e6]; kernel_rfl) ⟨hg, trivial, rfl⟩
        refine StepsA.cons (fun L vs w1 hl hdl hg hd2 => ?_) ?_
        · have e6 : vs 6 = .bool false := hd2 6 (by decide)
          have e8 : vs 8 = .bool false := hd2 8 (by decide)
          refine opTo_of (by kernel_rfl) (fun K hK => ?_)
          go_simp
          exact hK.out (.bool false) _ _ (by simp only [e6, e8]; kernel_rfl) ⟨hg, trivial, rfl⟩
        refine StepsA.cons (fun L vs w1 hl hdl hg hd2 => ?_) ?_
        · have e9 : vs 9 = .bool false := hd2 9 (by decide)
          refine opTo_of (by kernel_rfl) (fun K hK => ?_)
          go_simp
          exact hK.out (.bool false) _ _ (by simp only [e9]; kernel_rfl) ⟨hg, trivial, rfl⟩
        refine StepsA.cons (fun L vs w1 hl hdl hg hd2 => ?_) ?_
        · have e10 : vs 10 = .bool false := hd2 10 (by decide)
          refine opTo_of (by simp only [e10]; kernel_rfl) (fun K hK => ?_)
          go_simp
          exact hK.out (.int .i64 0) _ _ (by simp only [e10]; kernel_rfl) ⟨hg, trivial, rfl⟩
        refine StepsA.cons (fun L vs w1 hl hdl hg hd2 => ?_) ?_
        · have e11 : vs 11 = .int .i64 0 := hd2 11 (by decide)
          have e10 : vs 10 = .bool false := hd2 10 (by decide)
          refine opTo_of (by simp only [e10]; kernel_rfl) (fun K hK => ?_)
          go_simp
          exact hK.out (.bool false) _ _ (by simp only [e11, e10]; kernel_rfl) ⟨hg, trivial, rfl⟩
        refine StepsA.cons (fun L vs w1 hl hdl hg hd2 => ?_) ?_
        · have e10 : vs 10 = .bool false := hd2 10 (by decide)
          have e12 : vs 12 = .bool false := hd2 12 (by decide)
          refine opTo_of (by kernel_rfl) (fun K hK => ?_)
          go_simp
          exact hK.out (.bool false) _ _ (by simp only [e10, e12]; kernel_rfl) ⟨hg, trivial, rfl⟩
        refine StepsA.cons (fun L vs w1 hl hdl hg hd2 => ?_) ?_
        · have e13 : vs 13 = .bool false := hd2 13 (by decide)
          refine opTo_of (by kernel_rfl) (fun K hK => ?_)
          go_simp
          exact hK.out (.bool false) _ _ (by simp only [e13]; kernel_rfl) ⟨hg, trivial, rfl⟩
        refine StepsA.cons (fun L vs w1 hl hdl hg hd2 => ?_) ?_
        · have e14 : vs 14 = .bool false := hd2 14 (by decide)
          obtain ⟨f0, f1, f2, f3, f4, f5, f6, f7, f8, f9, f10⟩ := hg.box.msg
          refine opTo_of (by simp only [e14]; kernel_rfl) (fun K hK => ?_)
          go_simp
          exact hK.out (.agg #[.int .u8 m.k, .int .i64 m.fr, .int .i64 m.to, .int .i64 m.ht, .int .i64 m.rd, .int .i64 m.vl, .int .i64 m.ep, .int .i64 m.dl, .int .i64 m.id, .string ⟨m.s.toArray⟩, .slice a5 m.l.length c5]) _ _ (by simp only [e14]; kernel_rfl) ⟨hg, trivial, rfl⟩
        refine StepsA.cons (fun L vs w1 hl hdl hg hd2 => ?_) ?_
        · have e14 : vs 14 = .bool false := hd2 14 (by decide)
          refine opTo_of (by simp only [e14]; kernel_rfl) (fun K hK => ?_)
          go_simp
          exact hK.out (.slice (some ⟨q, 0, none⟩) 11 11) _ _ (by simp only [e14]; kernel_rfl) ⟨hg, trivial, rfl⟩
        refine StepsA.cons (fun L vs w1 hl hdl hg hd2 => ?_) ?_
        · have e14 : vs 14 = .bool false := hd2 14 (by decide)
          refine opTo_of (by simp only [e14]; kernel_rfl) (fun K hK => ?_)
          go_simp
          exact hK.out (.int .i64 j) _ _ (by simp only [e14]; kernel_rfl) ⟨hg, trivial, rfl⟩
        refine StepsA.cons (fun L vs w1 hl hdl hg hd2 => ?_) ?_
        · have e16 : vs 16 = .slice (some ⟨q, 0, none⟩) 11 11 := hd2 16 (by decide)
          have e17 : vs 17 = .int .i64 j := hd2 17 (by decide)
          have e14 : vs 14 = .bool false := hd2 14 (by decide)
          refine opTo_of (by simp only [e14]; kernel_rfl) (fun K hK => ?_)
          go_simp
          exact hK.out (.pointer (some ⟨q, j * 11, none⟩)) _ _ (by simp only [e16, e17, e14]; kernel_rfl) ⟨hg, trivial, rfl⟩
        refine StepsA.cons (fun L vs w1 hl hdl hg hd2 => ?_) ?_
        · have e18 : vs 18 = .pointer (some ⟨q, j * 11, none⟩) := hd2 18 (by decide)
          have e14 : vs 14 = .bool false := hd2 14 (by decide)
          obtain ⟨f0, f1, f2, f3, f4, f5, f6, f7, f8, f9, f10⟩ := hg.pl
          refine opTo_of (by simp only [e14]; kernel_rfl) (fun K hK => ?_)
          go_simp
          exact hK.out (.agg #[.int .u8 m.k, .int .i64 m.fr, .int .i64 m.to, .int .i64 m.ht, .int .i64 m.rd, .int .i64 m.vl, .int .i64 m.ep, .int .i64 m.dl, .int .i64 m.id, .string ⟨m.s.toArray⟩, .slice a m.l.length c]) _ _ (by simp only [e18, e14]; kernel_rfl) ⟨hg, trivial, rfl⟩
        refine StepsA.cons (fun L vs w1 hl hdl hg hd2 => ?_) ?_
        · have e15 : vs 15 = .agg #[.int .u8 m.k, .int .i64 m.fr, .int .i64 m.to, .int .i64 m.ht, .int .i64 m.rd, .int .i64 m.vl, .int .i64 m.ep, .int .i64 m.dl, .int .i64 m.id, .string ⟨m.s.toArray⟩, .slice a5 m.l.length c5] := hd2 15 (by decide)
          have e19 : vs 19 = .agg #[.int .u8 m.k, .int .i64 m.fr, .int .i64 m.to, .int .i64 m.ht, .int .i64 m.rd, .int .i64 m.vl, .int .i64 m.ep, .int .i64 m.dl, .int .i64 m.id, .string ⟨m.s.toArray⟩, .slice a m.l.length c] := hd2 19 (by decide)
          have e14 : vs 14 = .bool false := hd2 14 (by decide)
          have HC := Lib.hid (rsame_agg m m a5 a c5 c w1 hg.num hg.numa HX.out.2.2.1 true (same_refl m))
          refine opTo_of (by simp only [e14]; kernel_rfl) (fun K hK => ?_)
          go_simp
          refine Calls.mono HC.out ?_
          rintro r2 w2 ⟨rfl, hb⟩
          exact hK.out (.bool true) _ _ (by simp only [e15, e19, e14]; kernel_rfl) ⟨hg.step hb, trivial, rfl⟩
        refine StepsA.cons (fun L vs w1 hl hdl hg hd2 => ?_) ?_
        · have e20 : vs 20 = .bool true := hd2 20 (by decide)
          have e14 : vs 14 = .bool false := hd2 14 (by decide)
          refine opTo_of (by simp only [e14]; kernel_rfl) (fun K hK => ?_)
          go_simp
          exact hK.out (.bool false) _ _ (by simp only [e20, e14]; kernel_rfl) ⟨hg, trivial, rfl⟩
        refine StepsA.cons (fun L vs w1 hl hdl hg hd2 => ?_) ?_
        · have e14 : vs 14 = .bool false := hd2 14 (by decide)
          have e21 : vs 21 = .bool false := hd2 21 (by decide)
          refine opTo_of (by kernel_rfl) (fun K hK => ?_)
          go_simp
          exact hK.out (.bool false) _ _ (by simp only [e14, e21]; kernel_rfl) ⟨hg, trivial, rfl⟩
        refine StepsA.cons (fun L vs w1 hl hdl hg hd2 => ?_) ?_
        · have e22 : vs 22 = .bool false := hd2 22 (by decide)
          refine opTo_of (by kernel_rfl) (fun K hK => ?_)
          go_simp
          exact hK.out (.bool false) _ _ (by simp only [e22]; kernel_rfl) ⟨hg, trivial, rfl⟩
        refine StepsA.cons (fun L vs w1 hl hdl hg hd2 => ?_) ?_
        · have e23 : vs 23 = .bool false := hd2 23 (by decide)
          refine opTo_of (by simp only [e23]; kernel_rfl) (fun K hK => ?_)
          go_simp
          exact hK.out (.slice (some ⟨q, 0, none⟩) 11 11) _ _ (by simp only [e23]; kernel_rfl) ⟨hg, trivial, rfl⟩
        refine StepsA.cons (fun L vs w1 hl hdl hg hd2 => ?_) ?_
        · have e23 : vs 23 = .bool false := hd2 23 (by decide)
          refine opTo_of (by simp only [e23]; kernel_rfl) (fun K hK => ?_)
          go_simp
          exact hK.out (.int .i64 j) _ _ (by simp only [e23]; kernel_rfl) ⟨hg, trivial, rfl⟩
        refine StepsA.cons (fun L vs w1 hl hdl hg hd2 => ?_) ?_
        · have e24 : vs 24 = .slice (some ⟨q, 0, none⟩) 11 11 := hd2 24 (by decide)
          have e25 : vs 25 = .int .i64 j := hd2 25 (by decide)
          have e23 : vs 23 = .bool false := hd2 23 (by decide)
          refine opTo_of (by simp only [e23]; kernel_rfl) (fun K hK => ?_)
          go_simp
          exact hK.out (.pointer (some ⟨q, j * 11, none⟩)) _ _ (by simp only [e24, e25, e23]; kernel_rfl) ⟨hg, trivial, rfl⟩
        refine StepsA.cons (fun L vs w1 hl hdl hg hd2 => ?_) ?_
        · have e26 : vs 26 = .pointer (some ⟨q, j * 11, none⟩) := hd2 26 (by decide)
          have e23 : vs 23 = .bool false := hd2 23 (by decide)
          refine opTo_of (by simp only [e23]; kernel_rfl) (fun K hK => ?_)
          go_simp
          exact hK.out (.pointer (some ⟨q, j * 11, none⟩)) _ _ (by simp only [e26, e23]; kernel_rfl) ⟨hg, trivial, rfl⟩
        refine StepsA.cons (fun L vs w1 hl hdl hg hd2 => ?_) ?_
        · have e27 : vs 27 = .pointer (some ⟨q, j * 11, none⟩) := hd2 27 (by decide)
          have e23 : vs 23 = .bool false := hd2 23 (by decide)
          obtain ⟨f0, -⟩ := hg.pl
          refine opTo_of (by simp only [e23]; kernel_rfl) (fun K hK => ?_)
          go_simp
          exact hK.out (.int .u8 m.k) _ _ (by simp only [e27, e23]; kernel_rfl) ⟨hg, trivial, rfl⟩
        refine StepsA.cons (fun L vs w1 hl hdl hg hd2 => ?_) ?_
        · have e28 : vs 28 = .int .u8 m.k := hd2 28 (by decide)
          have e23 : vs 23 = .bool false := hd2 23 (by decide)
          refine opTo_of (by simp only [e23]; kernel_rfl) (fun K hK => ?_)
          go_simp
          exact hK.out (.int .i64 m.k) _ _ (by simp only [e28, e23]; kernel_rfl) ⟨hg, trivial, rfl⟩
        refine StepsA.cons (fun L vs w1 hl hdl hg hd2 => ?_) ?_
        · have e23 : vs 23 = .bool false := hd2 23 (by decide)
          refine opTo_of (by simp only [e23]; kernel_rfl) (fun K hK => ?_)
          go_simp
          exact hK.out (.int .i64 j) _ _ (by simp only [e23]; kernel_rfl) ⟨hg, trivial, rfl⟩
        refine StepsA.cons (fun L vs w1 hl hdl hg hd2 => ?_) ?_
        · have e30 : vs 30 = .int .i64 j := hd2 30 (by decide)
          have e23 : vs 23 = .bool false := hd2 23 (by decide)
          refine opTo_of (by simp only [e23]; kernel_rfl) (fun K hK => ?_)
          go_simp
          exact hK.out (.int .i64 ((j : Int) + 1)) _ _ (by simp only [e30, e23]; kernel_rfl) ⟨hg, trivial, rfl⟩
        refine StepsA.cons (fun L vs w1 hl hdl hg hd2 => ?_) ?_
        · have e29 : vs 29 = .int .i64 m.k := hd2 29 (by decide)
          have e31 : vs 31 = .int .i64 ((j : Int) + 1) := hd2 31 (by decide)
          have e23 : vs 23 = .bool false := hd2 23 (by decide)
          refine opTo_of (by simp only [e23]; kernel_rfl) (fun K hK => ?_)
          go_simp
          exact hK.out (.bool false) _ _ (by simp only [e29, e31, e23]; kernel_rfl) ⟨hg, trivial, rfl⟩
        refine StepsA.cons (fun L vs w1 hl hdl hg hd2 => ?_) ?_
        · have e23 : vs 23 = .bool false := hd2 23 (by decide)
          have e32 : vs 32 = .bool false := hd2 32 (by decide)
          refine opTo_of (by kernel_rfl) (fun K hK => ?_)
          go_simp
          exact hK.out (.bool false) _ _ (by simp only [e23, e32]; kernel_rfl) ⟨hg, trivial, rfl⟩
        exact StepsA.nil
      case fin =>
        intro L vs w5 hL1 hg hT
        have e33 : vs 33 = .bool false := hT 33 (by decide)
        have HG := Lib.hid (And.intro hg.row hg.bel)
        clear hg hT HM HX hL1
        simp only [e33]
        clear e33
        go_wp2_with fail
        go_roundw
        case rel => exact ⟨j + 1, by omega, by go_num, HG.out⟩
        case measure => simp [intOf]; omega
    · have hje : j = 11 := by omega
      subst hje
      have HR := Lib.hid hB
      clear hR hB
      go_wp2_with fail
      refine (base_any wr).mono ?_
      rintro e w3 ⟨q1, rfl, hq1, hr1, b3⟩
      have H3 := Lib.hid (And.intro hr1 (step_below HR.out b3))
      have HR1 := Lib.hid (Nat.le_trans HR.out.size hq1)
      clear hq1 hr1 b3 HR
      go_wp2_with fail
      refine (base_any w3).mono ?_
      rintro e w4 ⟨q2, rfl, hq2, hr2, b4⟩
      obtain ⟨T1, hF1, hT1, hN1⟩ := H3.out.1.kept b4
      obtain ⟨T2, hF2, hT2, hN2⟩ := hr2
      have B4 := step_below H3.out.2 b4
      have hl1 : T1.length = 11 := by rw [← List.length_map (f := (·.m)), hT1]; rfl
      have hl2 : T2.length = 11 := by rw [← List.length_map (f := (·.m)), hT2]; rfl
      have own1 := hF1.own (Nat.le_trans HR1.out (Nat.le_refl q1)) (by decide) hl1
      obtain ⟨iM, mi, mz0, mz1, mz2⟩ := info_parts infoMsgN
      have hnw : ∀ (i : Nat) u, (flat T2)[i]? = some u → w4.cell? ((⟨q2, 0, none⟩ : Addr).add i) = some u := fun i u hu => by
        rw [Addr.add_lit, Nat.zero_add, hF2.cell (List.getElem?_eq_some_iff.1 hu).1]
        exact hu
      obtain ⟨cur1, hb1, -⟩ := hF1
      have HN := Lib.hid (And.intro own1 (And.intro (show (flat T2).length = 11 * 11 by rw [flat_len, hl2]) (And.intro hnw (And.intro (flat_one T2) B4.size))))
      have HT := Lib.hid (And.intro hT1 (And.intro hT2 (And.intro hN1 (And.intro hN2 (And.intro B4 hb1)))))
      clear hT1 hT2 hN1 hN2 B4 hF2 hl1 hl2 own1 hnw hq2 b4 H3 hb1
      go_upto_region 12 with (at_builtin; refine wpList_append_own_at _ rfl _ _ 29 rfl w.heap.size 32 iM (.agg zeroCells) 11 112 Try.underlying29 mi mz0 mz1 mz2 rfl (by decide) _ 11 (flat T1) rfl HN.out.1 ⟨q2, 0, none⟩ 11 11 (flat T2) rfl HN.out.2.1 HN.out.2.2.1 HN.out.2.2.2.1 (by decide) (by decide) HN.out.2.2.2.2 ?_; intro v8 u0 own8 gr8 _ _; obtain ⟨q, cq, rfl⟩ := own_form own8 (by decide); rw [show (11 : Nat) + 11 = 22 from rfl] at own8 ⊢; have HU := Lib.hid (And.intro own8 gr8); clear own8 gr8)
      have HR0 := Lib.hid (row22 HU.out.1 HU.out.2 HN.out.1 HT.out.1 HT.out.2.1 HT.out.2.2.1 HT.out.2.2.2.1 HT.out.2.2.2.2.1)
      have HQ := Lib.hid (Flat.of_own HU.out.1).2.1
      clear HU HN HT mi mz0 mz1 mz2
      obtain ⟨v3, f3, z3, hlt3⟩ := HR0.out.1.cell (k := 9) (by decide)
      have HR1 := Lib.hid (And.intro (bad_step0 HR0.out.1) (Below.setCell HR0.out.2 (p := ⟨q, 9, none⟩) HQ.out (.string ⟨#[]⟩)))
      clear HR0
      go_upto_region 13 with fail
      generalize u0.setCell ⟨q, 9, none⟩ (.string ⟨#[]⟩) = u1 at HR1 ⊢
      clear v3 f3 z3 hlt3
      obtain ⟨v3, f3, z3, hlt3⟩ := HR1.out.1.cell (k := 16) (by decide)
      have HR2 := Lib.hid (And.intro (bad_step1 HR1.out.1) (Below.setCell HR1.out.2 (p := ⟨q, 16, none⟩) HQ.out (.int .i64 99)))
      clear HR1
      go_upto_region 14 with fail
      generalize u1.setCell ⟨q, 16, none⟩ (.int .i64 99) = u2 at HR2 ⊢
      clear v3 f3 z3 hlt3
      obtain ⟨v3, f3, z3, hlt3⟩ := HR2.out.1.cell (k := 25) (by decide)
      have HR3 := Lib.hid (And.intro (bad_step2 HR2.out.1) (Below.setCell HR2.out.2 (p := ⟨q, 25, none⟩) HQ.out (.int .i64 0)))
      clear HR2
      go_upto_region 15 with fail
      generalize u2.setCell ⟨q, 25, none⟩ (.int .i64 0) = u3 at HR3 ⊢
      clear v3 f3 z3 hlt3
      have al := (Below.refl _ u3).alloc (Nat.le_refl _) (zerosAt 2049)
      have hmk := mk2049 u3
      have hcv := cv2049 u3
      obtain ⟨v3, f3, z3, hlt3⟩ := (HR3.out.1.kept al).cell (k := 42) (by decide)
      have HR4 := Lib.hid (And.intro (bad_step3 (HR3.out.1.kept al)) (Below.setCell (step_below HR3.out.2 al) (p := ⟨q, 42, none⟩) HQ.out (.string ⟨z2049.toArray⟩)))
      clear HR3 al
      go_upto_region 16 with fail
      generalize (u3.alloc (zerosAt 2049)).setCell ⟨q, 42, none⟩ (.string ⟨z2049.toArray⟩) = u4 at HR4 ⊢
      clear v3 f3 z3 hlt3 hmk hcv
      obtain ⟨v3, f3, z3, hlt3⟩ := HR4.out.1.cell (k := 53) (by decide)
      have HR5 := Lib.hid (And.intro (bad_step4 HR4.out.1) (Below.setCell HR4.out.2 (p := ⟨q, 53, none⟩) HQ.out (.string ⟨#[]⟩)))
      clear HR4
      go_upto_region 17 with fail
      generalize u4.setCell ⟨q, 53, none⟩ (.string ⟨#[]⟩) = u5 at HR5 ⊢
      clear v3 f3 z3 hlt3
      have al := (Below.refl _ u5).alloc (Nat.le_refl _) (.cells (Array.replicate 1025 (.int .u64 0)) 56)
      have hmk := mk1025 u5
      obtain ⟨v3, f3, z3, hlt3⟩ := (HR5.out.1.kept al).cell (k := 65) (by decide)
      have HR6 := Lib.hid (And.intro (bad_step5 (HR5.out.1.kept al) (numT_zeros _ u5 1025 (by simp))) (Below.setCell (step_below HR5.out.2 al) (p := ⟨q, 65, none⟩) HQ.out (.slice (some ⟨u5.heap.size, 0, none⟩) 1025 1025)))
      clear HR5 al
      go_upto_region 18 with fail
      generalize (u5.alloc (.cells (Array.replicate 1025 (.int .u64 0)) 56)).setCell ⟨q, 65, none⟩ (.slice (some ⟨u5.heap.size, 0, none⟩) 1025 1025) = u6 at HR6 ⊢
      clear v3 f3 z3 hlt3 hmk
      obtain ⟨v3, f3, z3, hlt3⟩ := HR6.out.1.cell (k := 73) (by decide)
      have HR7 := Lib.hid (And.intro (bad_step6 HR6.out.1) (Below.setCell HR6.out.2 (p := ⟨q, 73, none⟩) HQ.out (.int .i64 8)))
      clear HR6
      go_upto_region 19 with fail
      generalize u6.setCell ⟨q, 73, none⟩ (.int .i64 8) = u7 at HR7 ⊢
      clear v3 f3 z3 hlt3
      obtain ⟨v3, f3, z3, hlt3⟩ := HR7.out.1.cell (k := 78) (by decide)
      have HR8 := Lib.hid (And.intro (bad_step7 HR7.out.1) (Below.setCell HR7.out.2 (p := ⟨q, 78, none⟩) HQ.out (.int .i64 0)))
      clear HR7
      go_upto_region 20 with fail
      generalize u7.setCell ⟨q, 78, none⟩ (.int .i64 0) = u8 at HR8 ⊢
      clear v3 f3 z3 hlt3
      obtain ⟨v3, f3, z3, hlt3⟩ := HR8.out.1.cell (k := 94) (by decide)
      have HR9 := Lib.hid (And.intro (bad_step8 HR8.out.1) (Below.setCell HR8.out.2 (p := ⟨q, 94, none⟩) HQ.out (.int .i64 65)))
      clear HR8
      go_upto_region 21 with fail
      generalize u8.setCell ⟨q, 94, none⟩ (.int .i64 65) = u9 at HR9 ⊢
      clear v3 f3 z3 hlt3
      obtain ⟨v3, f3, z3, hlt3⟩ := HR9.out.1.cell (k := 101) (by decide)
      have HR10 := Lib.hid (And.intro (bad_step9 HR9.out.1) (Below.setCell HR9.out.2 (p := ⟨q, 101, none⟩) HQ.out (.int .i64 9)))
      clear HR9
      go_upto_region 22 with fail
      generalize u9.setCell ⟨q, 101, none⟩ (.int .i64 9) = u10 at HR10 ⊢
      clear v3 f3 z3 hlt3
      obtain ⟨v3, f3, z3, hlt3⟩ := HR10.out.1.cell (k := 112) (by decide)
      have HR11 := Lib.hid (And.intro (bad_step10 HR10.out.1) (Below.setCell HR10.out.2 (p := ⟨q, 112, none⟩) HQ.out (.int .i64 1)))
      clear HR10
      go_upto_region 23 with fail
      generalize u10.setCell ⟨q, 112, none⟩ (.int .i64 1) = u11 at HR11 ⊢
      clear v3 f3 z3 hlt3
      obtain ⟨v3, f3, z3, hlt3⟩ := HR11.out.1.cell (k := 123) (by decide)
      have HR12 := Lib.hid (And.intro (bad_step11 HR11.out.1) (Below.setCell HR11.out.2 (p := ⟨q, 123, none⟩) HQ.out (.int .i64 0)))
      clear HR11
      go_upto_region 24 with fail
      generalize u11.setCell ⟨q, 123, none⟩ (.int .i64 0) = u12 at HR12 ⊢
      clear v3 f3 z3 hlt3
      obtain ⟨v3, f3, z3, hlt3⟩ := HR12.out.1.cell (k := 136) (by decide)
      have HR13 := Lib.hid (And.intro (bad_step12 HR12.out.1) (Below.setCell HR12.out.2 (p := ⟨q, 136, none⟩) HQ.out (.int .i64 100)))
      clear HR12
      go_upto_region 25 with fail
      generalize u12.setCell ⟨q, 136, none⟩ (.int .i64 100) = u13 at HR13 ⊢
      clear v3 f3 z3 hlt3
      obtain ⟨v3, f3, z3, hlt3⟩ := HR13.out.1.cell (k := 147) (by decide)
      have HR14 := Lib.hid (And.intro (bad_step13 HR13.out.1) (Below.setCell HR13.out.2 (p := ⟨q, 147, none⟩) HQ.out (.int .i64 (-1))))
      clear HR13
      go_upto_region 26 with fail
      generalize u13.setCell ⟨q, 147, none⟩ (.int .i64 (-1)) = u14 at HR14 ⊢
      clear v3 f3 z3 hlt3
      obtain ⟨v3, f3, z3, hlt3⟩ := HR14.out.1.cell (k := 157) (by decide)
      have HR15 := Lib.hid (And.intro (bad_step14 HR14.out.1) (Below.setCell HR14.out.2 (p := ⟨q, 157, none⟩) HQ.out (.int .i64 65)))
      clear HR14
      go_upto_region 27 with fail
      generalize u14.setCell ⟨q, 157, none⟩ (.int .i64 65) = u15 at HR15 ⊢
      clear v3 f3 z3 hlt3
      obtain ⟨v3, f3, z3, hlt3⟩ := HR15.out.1.cell (k := 166) (by decide)
      have HR16 := Lib.hid (And.intro (bad_step15 HR15.out.1) (Below.setCell HR15.out.2 (p := ⟨q, 166, none⟩) HQ.out (.int .i64 9)))
      clear HR15
      go_upto_region 28 with fail
      generalize u15.setCell ⟨q, 166, none⟩ (.int .i64 9) = u16 at HR16 ⊢
      clear v3 f3 z3 hlt3
      obtain ⟨v3, f3, z3, hlt3⟩ := HR16.out.1.cell (k := 177) (by decide)
      have HR17 := Lib.hid (And.intro (bad_step16 HR16.out.1) (Below.setCell HR16.out.2 (p := ⟨q, 177, none⟩) HQ.out (.int .i64 1)))
      clear HR16
      go_upto_region 29 with fail
      generalize u16.setCell ⟨q, 177, none⟩ (.int .i64 1) = u17 at HR17 ⊢
      clear v3 f3 z3 hlt3
      obtain ⟨v3, f3, z3, hlt3⟩ := HR17.out.1.cell (k := 194) (by decide)
      have HR18 := Lib.hid (And.intro (bad_step17 HR17.out.1) (Below.setCell HR17.out.2 (p := ⟨q, 194, none⟩) HQ.out (.int .i64 0)))
      clear HR17
      go_upto_region 30 with fail
      generalize u17.setCell ⟨q, 194, none⟩ (.int .i64 0) = u18 at HR18 ⊢
      clear v3 f3 z3 hlt3
      obtain ⟨v3, f3, z3, hlt3⟩ := HR18.out.1.cell (k := 204) (by decide)
      have HR19 := Lib.hid (And.intro (bad_step18 HR18.out.1) (Below.setCell HR18.out.2 (p := ⟨q, 204, none⟩) HQ.out (.int .i64 0)))
      clear HR18
      go_upto_region 31 with fail
      generalize u18.setCell ⟨q, 204, none⟩ (.int .i64 0) = u19 at HR19 ⊢
      clear v3 f3 z3 hlt3
      obtain ⟨v3, f3, z3, hlt3⟩ := HR19.out.1.cell (k := 218) (by decide)
      have HR20 := Lib.hid (And.intro (bad_step19 HR19.out.1) (Below.setCell HR19.out.2 (p := ⟨q, 218, none⟩) HQ.out (.string ⟨#[116]⟩)))
      clear HR19
      go_upto_region 32 with fail
      generalize u19.setCell ⟨q, 218, none⟩ (.string ⟨#[116]⟩) = u20 at HR20 ⊢
      clear v3 f3 z3 hlt3
      obtain ⟨v3, f3, z3, hlt3⟩ := HR20.out.1.cell (k := 222) (by decide)
      have HR21 := Lib.hid (And.intro (bad_step20 HR20.out.1) (Below.setCell HR20.out.2 (p := ⟨q, 222, none⟩) HQ.out (.int .i64 (-1))))
      clear HR20
      go_upto_region 33 with fail
      generalize u20.setCell ⟨q, 222, none⟩ (.int .i64 (-1)) = u21 at HR21 ⊢
      clear v3 f3 z3 hlt3
      obtain ⟨v3, f3, z3, hlt3⟩ := HR21.out.1.cell (k := 239) (by decide)
      have HR22 := Lib.hid (And.intro (bad_step21 HR21.out.1) (Below.setCell HR21.out.2 (p := ⟨q, 239, none⟩) HQ.out (.int .i64 0)))
      clear HR21
      go_upto_region 34 with fail
      generalize u21.setCell ⟨q, 239, none⟩ (.int .i64 0) = u22 at HR22 ⊢
      clear v3 f3 z3 hlt3
      go_wp2_with fail
      go_loopw [8] (fun i wr => ∃ j : Nat, j ≤ 22 ∧ i = .int .i64 j ∧ RowM (fun _ => False) wr q cq badL ∧ Below w.heap.size w wr) (fun i _ => 22 - (intOf i).toNat)
      case atStart => exact ⟨0, by omega, rfl, by rw [← badK_end]; exact HR22.out.1, HR22.out.2⟩
      case round =>
        obtain ⟨j, hj, rfl, hR, hB⟩ := hrel
        clear HR22
        by_cases hlt : j < 22
        · have hjI : (j : Int) < 22 := by omega
          obtain ⟨m, hm⟩ : ∃ m, badL[j]? = some m := ⟨_, List.getElem?_eq_getElem (by rw [bad_len]; exact hlt)⟩
          obtain ⟨hok, hmay⟩ := bad_ok m (List.mem_of_getElem? hm)
          obtain ⟨a, c, hat, hna⟩ := hR.at hm
          have HC := Lib.hid (encode_agg (c := c) hok hna (enc_no hmay).1 (enc_no hmay).2)
          have HX := Lib.hid (And.intro hok (And.intro hmay (And.intro hR (And.intro hB hat))))
          obtain ⟨f0, f1, f2, f3, f4, f5, f6, f7, f8, f9, f10⟩ := hat
          clear hR hB hm hok hmay hna
          go_wp2_with fail
          refine (Calls.mono HC.out ?_)
          rintro e w3 ⟨rfl, b3⟩
          clear f0 f1 f2 f3 f4 f5 f6 f7 f8 f9 f10 HC
          obtain ⟨f0, f1, f2, f3, f4, f5, f6, f7, f8, f9, f10⟩ := same_place HX.out.2.2.2.2 b3
          have HC := Lib.hid (may_agg m a c w3 HX.out.1.k false HX.out.2.1)
          have H3 := Lib.hid b3
          clear b3
          go_wp2_with fail
          refine (Calls.mono HC.out ?_)
          rintro e w4 ⟨rfl, b4⟩
          clear f0 f1 f2 f3 f4 f5 f6 f7 f8 f9 f10 HC
          go_wp2_with fail
          go_roundw
          case rel => exact ⟨j + 1, by omega, by go_num, (HX.out.2.2.1.kept H3.out).kept b4, step_below (step_below HX.out.2.2.2.1 H3.out) b4⟩
          case measure => simp [intOf]; omega
        · have hje : j = 22 := by omega
          subst hje
          have HB := Lib.hid hB
          have h1 : (1 : Int) ≤ (voteB.length : Int) := by decide
          have h9 : (9 : Int) ≤ (voteB.length : Int) := by decide
          have h65 : (65 : Int) ≤ (voteB.length : Int) := by decide
          have hlb : (voteB.length : Int) ≤ 100 := by decide
          clear hR hB HQ
          go_wp2_with fail
          refine (vote_any wr).mono ?_
          rintro e v1 ⟨rfl, b1⟩
          have B1 := Lib.hid (step_below HB.out b1)
          clear b1 HB
          go_wp2_with fail
          refine (encode_of voteM_ok (.inl rfl) vote_enc (by rw [voteM_may])).mono ?_
          rintro e v2 ⟨rfl, b2⟩
          have B2 := Lib.hid (step_below B1.out b2)
          clear b2 B1
          have HD := Lib.hid (decode_of (w := v2) dec_k0)
          go_wp2_with fail
          refine (Calls.mono (show Calls _ _ #[.string _] _ _ from HD.out) ?_)
          rintro e v3 ⟨a6, c6, rfl, -, b6⟩
          unfold Mg.val
          have B3 := Lib.hid (boxed_below (step_below B2.out b6) (step_below B2.out b6).size Mg.zero a6 c6)
          clear b6 HD B2
          obtain ⟨w3, hw6⟩ : ∃ w3, w3 = boxed v3 Mg.zero a6 c6 := ⟨_, rfl⟩
          rw [← hw6] at B3
          unfold boxed at hw6
          have HW := Lib.hid hw6
          clear hw6
          go_upto_region 42 with fail
          rw [← HW.out]
          clear HW
          have HD := Lib.hid (decode_of (w := w3) dec_k12)
          go_wp2_with fail
          refine (Calls.mono (show Calls _ _ #[.string _] _ _ from HD.out) ?_)
          rintro e v4 ⟨a6, c6, rfl, -, b6⟩
          unfold Mg.val
          have B4 := Lib.hid (boxed_below (step_below B3.out b6) (step_below B3.out b6).size Mg.zero a6 c6)
          clear b6 HD B3
          obtain ⟨w4, hw6⟩ : ∃ w4, w4 = boxed v4 Mg.zero a6 c6 := ⟨_, rfl⟩
          rw [← hw6] at B4
          unfold boxed at hw6
          have HW := Lib.hid hw6
          clear hw6
          go_upto_region 43 with fail
          rw [← HW.out]
          clear HW
          refine' wp_region_invL _ (vT w.heap.size) (fun _ w' => Below w.heap.size w w') (fun i w1 w2 => i = 11 ∨ Below w1.heap.size w1 w2) ?hA (by kernel_rfl) (by kernel_rfl) (by kernel_rfl) B4.out.drew (fun i j L v a b h1 h2 h3 _ _ h6 h7 => vT_mono i j L v a b h1 h2 h3 h6 h7) ?step ?fin
          case hA =>
            intro vs
            conv => lhs; simp only [fillL, Act.put, List.setIfInBounds_toArray, List.set_cons_zero, List.set_cons_succ, Nat.reduceAdd]
            try exact rfl
          case step =>
            refine StepsA.cons (fun L vs w1 hl hdl hg hd2 => ?_) ?_
            · refine opTo_of (by kernel_rfl) (fun K hK => ?_)
              go_simp
              exact hK.out (.string ⟨voteB.toArray⟩) _ _ (by kernel_rfl) ⟨hg, .inr (Below.refl _ _), rfl⟩
            refine StepsA.cons (fun L vs w1 hl hdl hg hd2 => ?_) ?_
            · have e0 : vs 0 = .string ⟨voteB.toArray⟩ := hd2 0 (by decide)
              refine opTo_of (by kernel_rfl) (fun K hK => ?_)
              go_simp
              exact hK.out (.string ⟨(voteB.take 1).toArray⟩) _ _ (by simp only [e0]; kernel_rfl) ⟨hg, .inr (Below.refl _ _), rfl⟩
            refine StepsA.cons (fun L vs w1 hl hdl hg hd2 => ?_) ?_
            · have e1 : vs 1 = .string ⟨(voteB.take 1).toArray⟩ := hd2 1 (by decide)
              refine opTo_of (by kernel_rfl) (fun K hK => ?_)
              go_simp
              exact hK.out (.string ⟨from1.toArray⟩) _ _ (by simp only [e1]; kernel_rfl) ⟨hg, .inr (Below.refl _ _), rfl⟩
            refine StepsA.cons (fun L vs w1 hl hdl hg hd2 => ?_) ?_
            · refine opTo_of (by kernel_rfl) (fun K hK => ?_)
              go_simp
              exact hK.out (.string ⟨voteB.toArray⟩) _ _ (by kernel_rfl) ⟨hg, .inr (Below.refl _ _), rfl⟩
            refine StepsA.cons (fun L vs w1 hl hdl hg hd2 => ?_) ?_
            · have e3 : vs 3 = .string ⟨voteB.toArray⟩ := hd2 3 (by decide)
              refine opTo_of (by kernel_rfl) (fun K hK => ?_)
              go_simp
              exact hK.out (.string ⟨(voteB.drop 9).toArray⟩) _ _ (by simp only [e3]; kernel_rfl) ⟨hg, .inr (Below.refl _ _), rfl⟩
            refine StepsA.cons (fun L vs w1 hl hdl hg hd2 => ?_) ?_
            · have e2 : vs 2 = .string ⟨from1.toArray⟩ := hd2 2 (by decide)
              have e4 : vs 4 = .string ⟨(voteB.drop 9).toArray⟩ := hd2 4 (by decide)
              refine opTo_of (by kernel_rfl) (fun K hK => ?_)
              go_simp
              exact hK.out (.string ⟨from2.toArray⟩) _ _ (by simp only [e2, e4]; kernel_rfl) ⟨hg, .inr (Below.refl _ _), rfl⟩
            refine StepsA.cons (fun L vs w1 hl hdl hg hd2 => ?_) ?_
            · have e5 : vs 5 = .string ⟨from2.toArray⟩ := hd2 5 (by decide)
              have HC := Lib.hid (decode_agg (w := w1) dec_from2)
              refine opTo_of (by kernel_rfl) (fun K hK => ?_)
              go_simp
              refine Calls.mono HC.out ?_
              rintro r2 w2 ⟨a, c, rfl, -, hb⟩
              exact hK.out (.tuple #[.agg #[.int .u8 Mg.zero.k, .int .i64 Mg.zero.fr, .int .i64 Mg.zero.to, .int .i64 Mg.zero.ht, .int .i64 Mg.zero.rd, .int .i64 Mg.zero.vl, .int .i64 Mg.zero.ep, .int .i64 Mg.zero.dl, .int .i64 Mg.zero.id, .string ⟨Mg.zero.s.toArray⟩, .slice a Mg.zero.l.length c], .int .i64 4]) _ _ (by simp only [e5]; kernel_rfl) ⟨step_below hg hb, .inr hb, a, c, rfl⟩
            refine StepsA.cons (fun L vs w1 hl hdl hg hd2 => ?_) ?_
            · obtain ⟨a, c, e6⟩ := hd2 6 (by decide)
              have e6 : vs 6 = .tuple #[.agg #[.int .u8 Mg.zero.k, .int .i64 Mg.zero.fr, .int .i64 Mg.zero.to, .int .i64 Mg.zero.ht, .int .i64 Mg.zero.rd, .int .i64 Mg.zero.vl, .int .i64 Mg.zero.ep, .int .i64 Mg.zero.dl, .int .i64 Mg.zero.id, .string ⟨Mg.zero.s.toArray⟩, .slice a Mg.zero.l.length c], .int .i64 4] := e6
              refine opTo_of (by kernel_rfl) (fun K hK => ?_)
              go_simp
              exact hK.out (.tuple #[.agg #[.int .u8 Mg.zero.k, .int .i64 Mg.zero.fr, .int .i64 Mg.zero.to, .int .i64 Mg.zero.ht, .int .i64 Mg.zero.rd, .int .i64 Mg.zero.vl, .int .i64 Mg.zero.ep, .int .i64 Mg.zero.dl, .int .i64 Mg.zero.id, .string ⟨Mg.zero.s.toArray⟩, .slice a Mg.zero.l.length c], .int .i64 4]) _ _ (by simp only [e6]; kernel_rfl) ⟨hg, .inr (Below.refl _ _), a, c, rfl⟩
            refine StepsA.cons (fun L vs w1 hl hdl hg hd2 => ?_) ?_
            · obtain ⟨a, c, e7⟩ := hd2 7 (by decide)
              have e7 : vs 7 = .tuple #[.agg #[.int .u8 Mg.zero.k, .int .i64 Mg.zero.fr, .int .i64 Mg.zero.to, .int .i64 Mg.zero.ht, .int .i64 Mg.zero.rd, .int .i64 Mg.zero.vl, .int .i64 Mg.zero.ep, .int .i64 Mg.zero.dl, .int .i64 Mg.zero.id, .string ⟨Mg.zero.s.toArray⟩, .slice a Mg.zero.l.length c], .int .i64 4] := e7
              refine opTo_of (by kernel_rfl) (fun K hK => ?_)
              go_simp
              exact hK.out (.agg #[.int .u8 Mg.zero.k, .int .i64 Mg.zero.fr, .int .i64 Mg.zero.to, .int .i64 Mg.zero.ht, .int .i64 Mg.zero.rd, .int .i64 Mg.zero.vl, .int .i64 Mg.zero.ep, .int .i64 Mg.zero.dl, .int .i64 Mg.zero.id, .string ⟨Mg.zero.s.toArray⟩, .slice a Mg.zero.l.length c]) _ _ (by simp only [e7]; kernel_rfl) ⟨hg, .inr (Below.refl _ _), a, c, rfl⟩
            refine StepsA.cons (fun L vs w1 hl hdl hg hd2 => ?_) ?_
            · obtain ⟨a, c, e7⟩ := hd2 7 (by decide)
              have e7 : vs 7 = .tuple #[.agg #[.int .u8 Mg.zero.k, .int .i64 Mg.zero.fr, .int .i64 Mg.zero.to, .int .i64 Mg.zero.ht, .int .i64 Mg.zero.rd, .int .i64 Mg.zero.vl, .int .i64 Mg.zero.ep, .int .i64 Mg.zero.dl, .int .i64 Mg.zero.id, .string ⟨Mg.zero.s.toArray⟩, .slice a Mg.zero.l.length c], .int .i64 4] := e7
              refine opTo_of (by kernel_rfl) (fun K hK => ?_)
              go_simp
              exact hK.out (.int .i64 4) _ _ (by simp only [e7]; kernel_rfl) ⟨hg, .inr (Below.refl _ _), rfl⟩
            refine StepsA.cons (fun L vs w1 hl hdl hg hd2 => ?_) ?_
            · refine opTo_of (by kernel_rfl) (fun K hK => ?_)
              go_simp
              exact hK.out (.pointer (some ⟨w1.heap.size, 0, none⟩)) _ _ (by kernel_rfl) ⟨hg.alloc hg.size _, .inr ((Below.refl _ w1).alloc (Nat.le_refl _) _), w1.heap.size, rfl, hg.size, fun _ => Blk.new w1 _ _⟩
            refine StepsA.cons (fun L vs w1 hl hdl hg hd2 => ?_) ?_
            · obtain ⟨q, e10, hq, hb⟩ := hd2 10 (by decide)
              have hb := hb hl
              have e10 : vs 10 = .pointer (some ⟨q, 0, none⟩) := e10
              obtain ⟨a, c, e8⟩ := hd2 8 (by decide)
              have e8 : vs 8 = .agg #[.int .u8 Mg.zero.k, .int .i64 Mg.zero.fr, .int .i64 Mg.zero.to, .int .i64 Mg.zero.ht, .int .i64 Mg.zero.rd, .int .i64 Mg.zero.vl, .int .i64 Mg.zero.ep, .int .i64 Mg.zero.dl, .int .i64 Mg.zero.id, .string ⟨Mg.zero.s.toArray⟩, .slice a Mg.zero.l.length c] := e8
              have rc0 : w1.cell? ⟨q, 0, none⟩ = some (.int .u8 0) := hb.cell 0
              have rf0 := hb.frozen 0
              have rc1 : w1.cell? ⟨q, 1, none⟩ = some (.int .i64 0) := hb.cell 1
              have rf1 := hb.frozen 1
              have rc2 : w1.cell? ⟨q, 2, none⟩ = some (.int .i64 0) := hb.cell 2
              have rf2 := hb.frozen 2
              have rc3 : w1.cell? ⟨q, 3, none⟩ = some (.int .i64 0) := hb.cell 3
              have rf3 := hb.frozen 3
              have rc4 : w1.cell? ⟨q, 4, none⟩ = some (.int .i64 0) := hb.cell 4
              have rf4 := hb.frozen 4
              have rc5 : w1.cell? ⟨q, 5, none⟩ = some (.int .i64 0) := hb.cell 5
              have rf5 := hb.frozen 5
              have rc6 : w1.cell? ⟨q, 6, none⟩ = some (.int .i64 0) := hb.cell 6
              have rf6 := hb.frozen 6
              have rc7 : w1.cell? ⟨q, 7, none⟩ = some (.int .i64 0) := hb.cell 7
              have rf7 := hb.frozen 7
              have rc8 : w1.cell? ⟨q, 8, none⟩ = some (.int .i64 0) := hb.cell 8
              have rf8 := hb.frozen 8
              have rc9 : w1.cell? ⟨q, 9, none⟩ = some (.string ⟨#[]⟩) := hb.cell 9
              have rf9 := hb.frozen 9
              have rc10 : w1.cell? ⟨q, 10, none⟩ = some (.slice none 0 0) := hb.cell 10
              have rf10 := hb.frozen 10
              refine opTo_of (by kernel_rfl) (fun K hK => ?_)
              go_simp
              exact hK.out undef _ _ (by simp only [e8, e10]; kernel_rfl) ⟨set11_below hg hq _ _ _ _ _ _ _ _ _ _ _, .inl rfl, trivial⟩
            refine StepsA.cons (fun L vs w1 hl hdl hg hd2 => ?_) ?_
            · have e9 : vs 9 = .int .i64 4 := hd2 9 (by decide)
              refine opTo_of (by kernel_rfl) (fun K hK => ?_)
              go_simp
              exact hK.out (.int .i64 4) _ _ (by simp only [e9]; kernel_rfl) ⟨hg, .inr (Below.refl _ _), rfl⟩
            exact StepsA.nil
          case fin =>
            intro L vs w5 hL1 hg hT
            obtain ⟨q, e10, -, -⟩ := hT 10 (by decide)
            have e10 : vs 10 = .pointer (some ⟨q, 0, none⟩) := e10
            have e12 : vs 12 = .int .i64 4 := hT 12 (by decide)
            have B5 := Lib.hid hg
            clear hg hT hL1 B4
            simp only [e10, e12]
            clear e10 e12
            go_upto_region 44 with fail
            have HD := Lib.hid (decode_of (w := w5) dec_text)
            go_wp2_with fail
            refine (Calls.mono (show Calls _ _ #[.string _] _ _ from HD.out) ?_)
            rintro e v6 ⟨a6, c6, rfl, -, b6⟩
            unfold Mg.val
            have B6 := Lib.hid (boxed_below (step_below B5.out b6) (step_below B5.out b6).size Mg.zero a6 c6)
            clear b6 HD B5
            obtain ⟨w6, hw6⟩ : ∃ w6, w6 = boxed v6 Mg.zero a6 c6 := ⟨_, rfl⟩
            rw [← hw6] at B6
            unfold boxed at hw6
            have HW := Lib.hid hw6
            clear hw6
            go_upto_region 45 with fail
            rw [← HW.out]
            clear HW
            have HM := Lib.hid (may_agg Mg.zero none 0 w6 (by decide) false rfl)
            go_wp2_with fail
            refine (Calls.mono HM.out ?_)
            rintro e w7 ⟨rfl, b7⟩
            have HM := Lib.hid (may_agg k255 none 0 w7 (by decide) false rfl)
            go_wp2_with fail
            refine (Calls.mono HM.out ?_)
            rintro e w8 ⟨rfl, b8⟩
            go_wp2_with fail
            go_ret
            exact ⟨rfl, step_below (step_below B6.out b7) b8⟩
end Go.Proofs.Ytbibbndjnlnbiaa
