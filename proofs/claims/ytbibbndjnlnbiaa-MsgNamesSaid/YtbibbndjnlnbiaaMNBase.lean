/-
  consistorylaw14.base: one message of each kind.
-/
import Derived.Test.YtbibbndjnlnbiaaMNPlain
import Derived.Test.YtbibbndjnlnbiaaFlat
import Derived.Test.YtbibbndjnlnbiaaRInv
import Derived.Test.YtbibbndjnlnbiaaWr
namespace Go.Proofs.Ytbibbndjnlnbiaa
open Go.RowKit

theorem z2048_len : z2048.length = 2048 := List.length_replicate
theorem n1024_len : n1024.length = 1024 := List.length_replicate
/-- The messages as they are built. -/
def base0 : List Mg := baseL.set 1 ⟨2, 8, 0, 64, 99, 98, 0, 0, 0, [116], []⟩
theorem made_u64 (n : Nat) : madeCells (Value.int .u64 0).cells (n * 1) = Array.replicate n (.int .u64 0) := by
  apply Array.ext
  · simp [madeCells]
  · intro i h1 h2
    simp [madeCells, Value.cells, Nat.mod_one]
theorem mk_u64 (n : Nat) (hn : n ≤ 9000) (w : World) : (Instr.makeSlice 30 (.int .i64 n) (.int .i64 n)).run Try.prog w = .ok (.slice (some ⟨w.heap.size, 0, none⟩) n n) (w.alloc (.cells (Array.replicate n (.int .u64 0)) 56)) := by
  obtain ⟨i0, hi, hz0, hz1, hz2⟩ := info_parts infoU64
  have h := run_make (P := Try.prog) w 30 56 i0 (.int .u64 0) Try.underlying30 hi hz0 .i64 .i64 n n (by omega) (by omega) (by rw [hz2]; omega) (by omega)
  rw [hz1] at h
  simp only [Int.toNat_natCast, made_u64] at h
  exact h
theorem numT_zeros (X : Nat → Prop) (w : World) (n : Nat) (hX : ¬ X w.heap.size) : NumT X (w.alloc (.cells (Array.replicate n (.int .u64 0)) 56)) (some ⟨w.heap.size, 0, none⟩) (List.replicate n 0) :=
  NumT.new w _ _ hX fun i x hx => by
    have hi : i < n := by have := (List.getElem?_eq_some_iff.1 hx).1; simpa using this
    have e : x = 0 := List.eq_of_mem_replicate (List.mem_of_getElem? hx)
    subst e
    simp [hi]
theorem mk8 (w : World) : (Instr.makeSlice 45 (.int .i64 2048) (.int .i64 2048)).run Try.prog w = .ok (.slice (some ⟨w.heap.size, 0, none⟩) 2048 2048) (w.alloc (.cells (Lib.byteCells z2048).toArray 5)) := mk_bytes 2048 (by decide) w
theorem mk64 (w : World) : (Instr.makeSlice 30 (.int .i64 1024) (.int .i64 1024)).run Try.prog w = .ok (.slice (some ⟨w.heap.size, 0, none⟩) 1024 1024) (w.alloc (.cells (Array.replicate 1024 (.int .u64 0)) 56)) := mk_u64 1024 (by decide) w
theorem conv8 {w : World} {q : Nat} (h : Blk w q 5 (Lib.byteCells z2048).toArray) : (convert 45 9 (.slice (some ⟨q, 0, none⟩) 2048 2048)).run Try.prog w = .ok (.string ⟨z2048.toArray⟩) w := by
  have h1 := run_convert_bytes_back (P := Try.prog) w 45 9 5 ⟨q, 0, none⟩ 2048 z2048 Try.underlying45 Try.underlying5 Try.underlying9 fun j hj => by
    rw [Addr.add_lit, Nat.zero_add, h.cell j]
    simp [Lib.byteCells, hj]
  rw [z2048_len] at h1
  exact h1
theorem new_lit (w : World) (l : List Int) (X : Nat → Prop) (hX : ¬ X w.heap.size) (cs : Array Value) (hc : cs = (l.map (Value.int .u64)).toArray) : NumT X (w.alloc (.cells cs 56)) (some ⟨w.heap.size, 0, none⟩) l := by
  subst hc
  exact NumT.new w _ _ hX fun i x hx => by simp [hx]
def T11 (a5 a6 a8 a10 : Option Addr) : List MT := [⟨⟨1, 0, 8, 0, 0, 0, 0, 0, 0, [116], []⟩, none, 0⟩, ⟨⟨2, 8, 0, 64, 99, 98, 0, 0, 0, [116], []⟩, none, 0⟩, ⟨⟨3, 1, 8, 1, 0, 0, 0, 0, 0, [], []⟩, none, 0⟩, ⟨⟨4, 1, 0, 1, 5, 0, 0, 0, 0, z2048, []⟩, none, 0⟩, ⟨⟨5, 3, 0, 9, 0, 0, 0, 0, 0, [116], []⟩, none, 0⟩, ⟨⟨6, 0, 1, 0, 0, 0, 0, 0, 0, [], n1024⟩, a5, 1024⟩, ⟨⟨7, 2, 5, 0, 0, 0, 64, 7, 0, [], [18446744073709551615]⟩, a6, 1⟩, ⟨⟨8, 2, 5, 0, 0, 0, 1, 1, 0, [], []⟩, none, 0⟩, ⟨⟨9, 2, 0, 0, 0, 0, 1, 1, 0, [], [0]⟩, a8, 1⟩, ⟨⟨10, 2, 2, 0, 0, 0, 1, 1, 0, [], []⟩, none, 0⟩, ⟨⟨11, 4, 0, 0, 0, 0, 2, 0, 1099511627776, [], [5, 6]⟩, a10, 2⟩]
/-- The row of eleven. -/
theorem row11 {X : Nat → Prop} {w : World} {a5 a6 a8 a10 : Option Addr} (h5 : NumT X w a5 n1024) (h6 : NumT X w a6 [18446744073709551615]) (h8 : NumT X w a8 [0]) (h10 : NumT X w a10 [5, 6]) (cs : Array Value) (hc : cs = (flat (T11 a5 a6 a8 a10)).toArray) : RowM X (w.alloc (.cells cs 32)) w.heap.size 11 base0 := by
  have al : Below w.heap.size w (w.alloc (.cells cs 32)) := (Below.refl _ w).alloc (Nat.le_refl _) _
  refine ⟨T11 a5 a6 a8 a10, ⟨cs, Blk.new w _ cs, by rw [hc]; rfl, ?_, ?_⟩, ?_, ?_⟩
  rotate_left
  · rw [hc]
    exact List.take_length
  · rfl
  · intro t ht
    simp only [T11, List.mem_cons, List.not_mem_nil, or_false] at ht
    rcases ht with rfl | rfl | rfl | rfl | rfl | rfl | rfl | rfl | rfl | rfl | rfl
    · exact NumT.nil
    · exact NumT.nil
    · exact NumT.nil
    · exact NumT.nil
    · exact NumT.nil
    · exact h5.kept al
    · exact h6.kept al
    · exact NumT.nil
    · exact h8.kept al
    · exact NumT.nil
    · exact h10.kept al
  · exact Nat.le_refl _
/-- What each operation of the region comes to. -/
def baseT (lo : Nat) (i : Nat) (v : Value) (w : World) : Prop := match i with
  | 0 => v = .agg #[.int .u8 1, .int .i64 0, .int .i64 8, .int .i64 0, .int .i64 0, .int .i64 0, .int .i64 0, .int .i64 0, .int .i64 0, .string ⟨#[116]⟩, .slice none 0 0]
  | 1 => v = .agg #[.int .u8 2, .int .i64 8, .int .i64 0, .int .i64 64, .int .i64 99, .int .i64 98, .int .i64 0, .int .i64 0, .int .i64 0, .string ⟨#[116]⟩, .slice none 0 0]
  | 2 => v = .agg #[.int .u8 3, .int .i64 1, .int .i64 8, .int .i64 1, .int .i64 0, .int .i64 0, .int .i64 0, .int .i64 0, .int .i64 0, .string ⟨#[]⟩, .slice none 0 0]
  | 3 => ∃ q, v = .slice (some ⟨q, 0, none⟩) 2048 2048 ∧ Blk w q 5 (Lib.byteCells z2048).toArray
  | 4 => v = .string ⟨z2048.toArray⟩
  | 5 => v = .agg #[.int .u8 4, .int .i64 1, .int .i64 0, .int .i64 1, .int .i64 5, .int .i64 0, .int .i64 0, .int .i64 0, .int .i64 0, .string ⟨z2048.toArray⟩, .slice none 0 0]
  | 6 => v = .agg #[.int .u8 5, .int .i64 3, .int .i64 0, .int .i64 9, .int .i64 0, .int .i64 0, .int .i64 0, .int .i64 0, .int .i64 0, .string ⟨#[116]⟩, .slice none 0 0]
  | 7 => ∃ a, v = .slice a 1024 1024 ∧ NumT (fun _ => False) w a n1024
  | 8 => ∃ a, v = .agg #[.int .u8 6, .int .i64 0, .int .i64 1, .int .i64 0, .int .i64 0, .int .i64 0, .int .i64 0, .int .i64 0, .int .i64 0, .string ⟨#[]⟩, .slice a 1024 1024] ∧ NumT (fun _ => False) w a n1024
  | 9 => ∃ a, v = .slice a 1 1 ∧ NumT (fun _ => False) w a [18446744073709551615]
  | 10 => ∃ a, v = .agg #[.int .u8 7, .int .i64 2, .int .i64 5, .int .i64 0, .int .i64 0, .int .i64 0, .int .i64 64, .int .i64 7, .int .i64 0, .string ⟨#[]⟩, .slice a 1 1] ∧ NumT (fun _ => False) w a [18446744073709551615]
  | 11 => v = .agg #[.int .u8 8, .int .i64 2, .int .i64 5, .int .i64 0, .int .i64 0, .int .i64 0, .int .i64 1, .int .i64 1, .int .i64 0, .string ⟨#[]⟩, .slice none 0 0]
  | 12 => ∃ a, v = .slice a 1 1 ∧ NumT (fun _ => False) w a [0]
  | 13 => ∃ a, v = .agg #[.int .u8 9, .int .i64 2, .int .i64 0, .int .i64 0, .int .i64 0, .int .i64 0, .int .i64 1, .int .i64 1, .int .i64 0, .string ⟨#[]⟩, .slice a 1 1] ∧ NumT (fun _ => False) w a [0]
  | 14 => v = .agg #[.int .u8 10, .int .i64 2, .int .i64 2, .int .i64 0, .int .i64 0, .int .i64 0, .int .i64 1, .int .i64 1, .int .i64 0, .string ⟨#[]⟩, .slice none 0 0]
  | 15 => ∃ a, v = .slice a 2 2 ∧ NumT (fun _ => False) w a [5, 6]
  | 16 => ∃ a, v = .agg #[.int .u8 11, .int .i64 4, .int .i64 0, .int .i64 0, .int .i64 0, .int .i64 0, .int .i64 2, .int .i64 0, .int .i64 1099511627776, .string ⟨#[]⟩, .slice a 2 2] ∧ NumT (fun _ => False) w a [5, 6]
  | 17 => ∃ q, v = .slice (some ⟨q, 0, none⟩) 11 11 ∧ lo ≤ q ∧ RowM (fun _ => False) w q 11 base0
  | 18 => ∃ q, v = .slice (some ⟨q, 0, none⟩) 11 11 ∧ lo ≤ q ∧ RowM (fun _ => False) w q 11 base0
  | _ => True
theorem baseT.kept {lo i : Nat} {v : Value} {w w' : World} (h : baseT lo i v w) (b : Below w.heap.size w w') : baseT lo i v w' := by
  unfold baseT at h ⊢
  split at h <;> first | exact h | exact h.elim fun q x => ⟨q, x.1, x.2.kept b⟩ | exact h.elim fun q x => ⟨q, x.1, x.2.1, x.2.2.kept b⟩
/-- What base comes to. -/
def BasePost (w : World) (e : Ending) (w' : World) : Prop := ∃ q, e = .returned (.slice (some ⟨q, 0, none⟩) 11 11) ∧ w.heap.size ≤ q ∧ RowM (fun _ => False) w' q 11 baseL ∧ Below w.heap.size w w'
set_option maxRecDepth 100000 in
set_option maxHeartbeats 4000000 in
theorem base_any (w : World) : Calls Try.prog 37 #[] w (BasePost w) := by
  go_enter Try.func37, Try.ntmps37
  go_upto_region 1 with fail
  refine' wp_region_invB _ (baseT w.heap.size) (fun _ w' => Below w.heap.size w w') (fun _ w1 w2 => Below w1.heap.size w1 w2) ?hA (by kernel_rfl) (by kernel_rfl) (by kernel_rfl) (Below.refl _ w).drew (fun _ _ _ _ _ _ _ _ _ _ h b => baseT.kept h b) ?step ?fin
  case hA =>
    intro vs
    conv => lhs; simp only [fillL, Act.put, List.setIfInBounds_toArray, List.set_cons_zero, List.set_cons_succ, Nat.reduceAdd]
    try exact rfl
  case step =>
    refine StepsA.cons (fun L vs w1 hl hdl hg hd2 => ?_) ?_
    · refine opTo_of (by kernel_rfl) (fun K hK => ?_)
      go_simp
      exact hK.out (.agg #[.int .u8 1, .int .i64 0, .int .i64 8, .int .i64 0, .int .i64 0, .int .i64 0, .int .i64 0, .int .i64 0, .int .i64 0, .string ⟨#[116]⟩, .slice none 0 0]) _ _ (by kernel_rfl) ⟨hg, Below.refl _ _, rfl⟩
    refine StepsA.cons (fun L vs w1 hl hdl hg hd2 => ?_) ?_
    · refine opTo_of (by kernel_rfl) (fun K hK => ?_)
      go_simp
      exact hK.out (.agg #[.int .u8 2, .int .i64 8, .int .i64 0, .int .i64 64, .int .i64 99, .int .i64 98, .int .i64 0, .int .i64 0, .int .i64 0, .string ⟨#[116]⟩, .slice none 0 0]) _ _ (by kernel_rfl) ⟨hg, Below.refl _ _, rfl⟩
    refine StepsA.cons (fun L vs w1 hl hdl hg hd2 => ?_) ?_
    · refine opTo_of (by kernel_rfl) (fun K hK => ?_)
      go_simp
      exact hK.out (.agg #[.int .u8 3, .int .i64 1, .int .i64 8, .int .i64 1, .int .i64 0, .int .i64 0, .int .i64 0, .int .i64 0, .int .i64 0, .string ⟨#[]⟩, .slice none 0 0]) _ _ (by kernel_rfl) ⟨hg, Below.refl _ _, rfl⟩
    refine StepsA.cons (fun L vs w1 hl hdl hg hd2 => ?_) ?_
    · have hmk := mk8 w1
      refine opTo_of (by kernel_rfl) (fun K hK => ?_)
      go_simp
      exact hK.out (.slice (some ⟨w1.heap.size, 0, none⟩) 2048 2048) _ _ (by kernel_rfl) ⟨hg.trans (((Below.refl _ w1).alloc (Nat.le_refl _) _).mono hg.size), (Below.refl _ w1).alloc (Nat.le_refl _) _, ⟨_, rfl, Blk.new w1 _ _⟩⟩
    refine StepsA.cons (fun L vs w1 hl hdl hg hd2 => ?_) ?_
    · obtain ⟨q, e3, hq⟩ := hd2 3 (by decide)
      have e3 : vs 3 = .slice (some ⟨q, 0, none⟩) 2048 2048 := e3
      have hcv := conv8 hq
      refine opTo_of (by kernel_rfl) (fun K hK => ?_)
      go_simp
      exact hK.out (.string ⟨z2048.toArray⟩) _ _ (by simp only [e3]; kernel_rfl) ⟨hg, Below.refl _ _, rfl⟩
    refine StepsA.cons (fun L vs w1 hl hdl hg hd2 => ?_) ?_
    · have e4 : vs 4 = .string ⟨z2048.toArray⟩ := hd2 4 (by decide)
      refine opTo_of (by kernel_rfl) (fun K hK => ?_)
      go_simp
      exact hK.out (.agg #[.int .u8 4, .int .i64 1, .int .i64 0, .int .i64 1, .int .i64 5, .int .i64 0, .int .i64 0, .int .i64 0, .int .i64 0, .string ⟨z2048.toArray⟩, .slice none 0 0]) _ _ (by simp only [e4]; kernel_rfl) ⟨hg, Below.refl _ _, rfl⟩
    refine StepsA.cons (fun L vs w1 hl hdl hg hd2 => ?_) ?_
    · refine opTo_of (by kernel_rfl) (fun K hK => ?_)
      go_simp
      exact hK.out (.agg #[.int .u8 5, .int .i64 3, .int .i64 0, .int .i64 9, .int .i64 0, .int .i64 0, .int .i64 0, .int .i64 0, .int .i64 0, .string ⟨#[116]⟩, .slice none 0 0]) _ _ (by kernel_rfl) ⟨hg, Below.refl _ _, rfl⟩
    refine StepsA.cons (fun L vs w1 hl hdl hg hd2 => ?_) ?_
    · have hmk := mk64 w1
      refine opTo_of (by kernel_rfl) (fun K hK => ?_)
      go_simp
      exact hK.out (.slice (some ⟨w1.heap.size, 0, none⟩) 1024 1024) _ _ (by kernel_rfl) ⟨hg.trans (((Below.refl _ w1).alloc (Nat.le_refl _) _).mono hg.size), (Below.refl _ w1).alloc (Nat.le_refl _) _, ⟨_, rfl, numT_zeros _ w1 1024 (by simp)⟩⟩
    refine StepsA.cons (fun L vs w1 hl hdl hg hd2 => ?_) ?_
    · obtain ⟨a, e7, hq⟩ := hd2 7 (by decide)
      have e7 : vs 7 = .slice a 1024 1024 := e7
      refine opTo_of (by kernel_rfl) (fun K hK => ?_)
      go_simp
      exact hK.out (.agg #[.int .u8 6, .int .i64 0, .int .i64 1, .int .i64 0, .int .i64 0, .int .i64 0, .int .i64 0, .int .i64 0, .int .i64 0, .string ⟨#[]⟩, .slice a 1024 1024]) _ _ (by simp only [e7]; kernel_rfl) ⟨hg, Below.refl _ _, ⟨a, rfl, hq⟩⟩
    refine StepsA.cons (fun L vs w1 hl hdl hg hd2 => ?_) ?_
    · refine opTo_of (by kernel_rfl) (fun K hK => ?_)
      go_simp
      exact hK.out (.slice (some ⟨w1.heap.size, 0, none⟩) 1 1) _ _ (by kernel_rfl) ⟨hg.trans (((Below.refl _ w1).alloc (Nat.le_refl _) _).mono hg.size), (Below.refl _ w1).alloc (Nat.le_refl _) _, ⟨_, rfl, new_lit w1 _ _ (by simp) _ rfl⟩⟩
    refine StepsA.cons (fun L vs w1 hl hdl hg hd2 => ?_) ?_
    · obtain ⟨a, e9, hq⟩ := hd2 9 (by decide)
      have e9 : vs 9 = .slice a 1 1 := e9
      refine opTo_of (by kernel_rfl) (fun K hK => ?_)
      go_simp
      exact hK.out (.agg #[.int .u8 7, .int .i64 2, .int .i64 5, .int .i64 0, .int .i64 0, .int .i64 0, .int .i64 64, .int .i64 7, .int .i64 0, .string ⟨#[]⟩, .slice a 1 1]) _ _ (by simp only [e9]; kernel_rfl) ⟨hg, Below.refl _ _, ⟨a, rfl, hq⟩⟩
    refine StepsA.cons (fun L vs w1 hl hdl hg hd2 => ?_) ?_
    · refine opTo_of (by kernel_rfl) (fun K hK => ?_)
      go_simp
      exact hK.out (.agg #[.int .u8 8, .int .i64 2, .int .i64 5, .int .i64 0, .int .i64 0, .int .i64 0, .int .i64 1, .int .i64 1, .int .i64 0, .string ⟨#[]⟩, .slice none 0 0]) _ _ (by kernel_rfl) ⟨hg, Below.refl _ _, rfl⟩
    refine StepsA.cons (fun L vs w1 hl hdl hg hd2 => ?_) ?_
    · refine opTo_of (by kernel_rfl) (fun K hK => ?_)
      go_simp
      exact hK.out (.slice (some ⟨w1.heap.size, 0, none⟩) 1 1) _ _ (by kernel_rfl) ⟨hg.trans (((Below.refl _ w1).alloc (Nat.le_refl _) _).mono hg.size), (Below.refl _ w1).alloc (Nat.le_refl _) _, ⟨_, rfl, new_lit w1 _ _ (by simp) _ rfl⟩⟩
    refine StepsA.cons (fun L vs w1 hl hdl hg hd2 => ?_) ?_
    · obtain ⟨a, e12, hq⟩ := hd2 12 (by decide)
      have e12 : vs 12 = .slice a 1 1 := e12
      refine opTo_of (by kernel_rfl) (fun K hK => ?_)
      go_simp
      exact hK.out (.agg #[.int .u8 9, .int .i64 2, .int .i64 0, .int .i64 0, .int .i64 0, .int .i64 0, .int .i64 1, .int .i64 1, .int .i64 0, .string ⟨#[]⟩, .slice a 1 1]) _ _ (by simp only [e12]; kernel_rfl) ⟨hg, Below.refl _ _, ⟨a, rfl, hq⟩⟩
    refine StepsA.cons (fun L vs w1 hl hdl hg hd2 => ?_) ?_
    · refine opTo_of (by kernel_rfl) (fun K hK => ?_)
      go_simp
      exact hK.out (.agg #[.int .u8 10, .int .i64 2, .int .i64 2, .int .i64 0, .int .i64 0, .int .i64 0, .int .i64 1, .int .i64 1, .int .i64 0, .string ⟨#[]⟩, .slice none 0 0]) _ _ (by kernel_rfl) ⟨hg, Below.refl _ _, rfl⟩
    refine StepsA.cons (fun L vs w1 hl hdl hg hd2 => ?_) ?_
    · refine opTo_of (by kernel_rfl) (fun K hK => ?_)
      go_simp
      exact hK.out (.slice (some ⟨w1.heap.size, 0, none⟩) 2 2) _ _ (by kernel_rfl) ⟨hg.trans (((Below.refl _ w1).alloc (Nat.le_refl _) _).mono hg.size), (Below.refl _ w1).alloc (Nat.le_refl _) _, ⟨_, rfl, new_lit w1 _ _ (by simp) _ rfl⟩⟩
    refine StepsA.cons (fun L vs w1 hl hdl hg hd2 => ?_) ?_
    · obtain ⟨a, e15, hq⟩ := hd2 15 (by decide)
      have e15 : vs 15 = .slice a 2 2 := e15
      refine opTo_of (by kernel_rfl) (fun K hK => ?_)
      go_simp
      exact hK.out (.agg #[.int .u8 11, .int .i64 4, .int .i64 0, .int .i64 0, .int .i64 0, .int .i64 0, .int .i64 2, .int .i64 0, .int .i64 1099511627776, .string ⟨#[]⟩, .slice a 2 2]) _ _ (by simp only [e15]; kernel_rfl) ⟨hg, Below.refl _ _, ⟨a, rfl, hq⟩⟩
    refine StepsA.cons (fun L vs w1 hl hdl hg hd2 => ?_) ?_
    · have e0 : vs 0 = .agg #[.int .u8 1, .int .i64 0, .int .i64 8, .int .i64 0, .int .i64 0, .int .i64 0, .int .i64 0, .int .i64 0, .int .i64 0, .string ⟨#[116]⟩, .slice none 0 0] := hd2 0 (by decide)
      have e1 : vs 1 = .agg #[.int .u8 2, .int .i64 8, .int .i64 0, .int .i64 64, .int .i64 99, .int .i64 98, .int .i64 0, .int .i64 0, .int .i64 0, .string ⟨#[116]⟩, .slice none 0 0] := hd2 1 (by decide)
      have e2 : vs 2 = .agg #[.int .u8 3, .int .i64 1, .int .i64 8, .int .i64 1, .int .i64 0, .int .i64 0, .int .i64 0, .int .i64 0, .int .i64 0, .string ⟨#[]⟩, .slice none 0 0] := hd2 2 (by decide)
      have e5 : vs 5 = .agg #[.int .u8 4, .int .i64 1, .int .i64 0, .int .i64 1, .int .i64 5, .int .i64 0, .int .i64 0, .int .i64 0, .int .i64 0, .string ⟨z2048.toArray⟩, .slice none 0 0] := hd2 5 (by decide)
      have e6 : vs 6 = .agg #[.int .u8 5, .int .i64 3, .int .i64 0, .int .i64 9, .int .i64 0, .int .i64 0, .int .i64 0, .int .i64 0, .int .i64 0, .string ⟨#[116]⟩, .slice none 0 0] := hd2 6 (by decide)
      have e11 : vs 11 = .agg #[.int .u8 8, .int .i64 2, .int .i64 5, .int .i64 0, .int .i64 0, .int .i64 0, .int .i64 1, .int .i64 1, .int .i64 0, .string ⟨#[]⟩, .slice none 0 0] := hd2 11 (by decide)
      have e14 : vs 14 = .agg #[.int .u8 10, .int .i64 2, .int .i64 2, .int .i64 0, .int .i64 0, .int .i64 0, .int .i64 1, .int .i64 1, .int .i64 0, .string ⟨#[]⟩, .slice none 0 0] := hd2 14 (by decide)
      obtain ⟨a5, e8, h8⟩ := hd2 8 (by decide)
      have e8 : vs 8 = .agg #[.int .u8 6, .int .i64 0, .int .i64 1, .int .i64 0, .int .i64 0, .int .i64 0, .int .i64 0, .int .i64 0, .int .i64 0, .string ⟨#[]⟩, .slice a5 1024 1024] := e8
      obtain ⟨a6, e10, h10⟩ := hd2 10 (by decide)
      have e10 : vs 10 = .agg #[.int .u8 7, .int .i64 2, .int .i64 5, .int .i64 0, .int .i64 0, .int .i64 0, .int .i64 64, .int .i64 7, .int .i64 0, .string ⟨#[]⟩, .slice a6 1 1] := e10
      obtain ⟨a8, e13, h13⟩ := hd2 13 (by decide)
      have e13 : vs 13 = .agg #[.int .u8 9, .int .i64 2, .int .i64 0, .int .i64 0, .int .i64 0, .int .i64 0, .int .i64 1, .int .i64 1, .int .i64 0, .string ⟨#[]⟩, .slice a8 1 1] := e13
      obtain ⟨a10, e16, h16⟩ := hd2 16 (by decide)
      have e16 : vs 16 = .agg #[.int .u8 11, .int .i64 4, .int .i64 0, .int .i64 0, .int .i64 0, .int .i64 0, .int .i64 2, .int .i64 0, .int .i64 1099511627776, .string ⟨#[]⟩, .slice a10 2 2] := e16
      refine opTo_of (by kernel_rfl) (fun K hK => ?_)
      go_simp
      exact hK.out (.slice (some ⟨w1.heap.size, 0, none⟩) 11 11) _ _ (by simp only [e0, e1, e2, e5, e6, e11, e14, e8, e10, e13, e16]; kernel_rfl) ⟨hg.trans (((Below.refl _ w1).alloc (Nat.le_refl _) _).mono hg.size), (Below.refl _ w1).alloc (Nat.le_refl _) _, ⟨_, rfl, hg.size, row11 h8 h10 h13 h16 _ rfl⟩⟩
    refine StepsA.cons (fun L vs w1 hl hdl hg hd2 => ?_) ?_
    · obtain ⟨q, e17, hq⟩ := hd2 17 (by decide)
      have e17 : vs 17 = .slice (some ⟨q, 0, none⟩) 11 11 := e17
      refine opTo_of (by kernel_rfl) (fun K hK => ?_)
      go_simp
      exact hK.out (.slice (some ⟨q, 0, none⟩) 11 11) _ _ (by simp only [e17]; kernel_rfl) ⟨hg, Below.refl _ _, ⟨q, rfl, hq⟩⟩
    exact StepsA.nil
  case fin =>
    intro L vs w1 hL1 hg hT
    obtain ⟨q, e18, hq, hr⟩ := hT 18 (by decide)
    have e18 : vs 18 = .slice (some ⟨q, 0, none⟩) 11 11 := e18
    obtain ⟨v, f3, z3, hlt⟩ := hr.cell (k := 16) (by decide)
    have HR := Lib.hid (And.intro hr hg)
    clear hr hg hT hL1
    simp only [e18]
    clear e18
    go_wp2_with fail
    go_ret
    exact ⟨q, rfl, hq, HR.out.1.put (i := 1) (j := 5) (m := ⟨2, 8, 0, 64, 99, 98, 0, 0, 0, [116], []⟩) (by rfl) (by decide) (by rfl) ⟨2, 8, 0, 64, 99, -1, 0, 0, 0, [116], []⟩ (.int .i64 (-1)) (fun _ _ => rfl) rfl, HR.out.1.below_set HR.out.2 hq 16 _⟩
end Go.Proofs.Ytbibbndjnlnbiaa
