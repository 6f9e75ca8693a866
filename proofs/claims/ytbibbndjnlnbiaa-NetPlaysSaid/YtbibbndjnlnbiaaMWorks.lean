/-
  consistorylaw14: vote, large, works; made rows of zeros.
-/
import Derived.Test.YtbibbndjnlnbiaaSame
import Derived.Test.YtbibbndjnlnbiaaRDec
namespace Go.Proofs.Ytbibbndjnlnbiaa
open Go.RowKit

theorem infoU8 : (Try.prog.info? 5).map (fun i => (i.zero, i.size, i.bytes)) = some (some (.int .u8 0), 1, 1) := by kernel_rfl
def zerosAt (n : Nat) : Obj := .cells (Lib.byteCells (List.replicate n 0)).toArray 5
theorem made_zeros (n : Nat) : madeCells (Value.int .u8 0).cells (n * 1) = (Lib.byteCells (List.replicate n 0)).toArray := by
  apply Array.ext
  · simp [madeCells, Lib.byteCells]
  · intro i h1 h2
    simp [madeCells, Lib.byteCells, Value.cells, Nat.mod_one]
theorem mk_bytes (n : Nat) (hn : n ≤ 9000) (w : World) : (Instr.makeSlice 45 (.int .i64 n) (.int .i64 n)).run Try.prog w = .ok (.slice (some ⟨w.heap.size, 0, none⟩) n n) (w.alloc (zerosAt n)) := by
  obtain ⟨i0, hi, hz0, hz1, hz2⟩ := info_parts infoU8
  have h := run_make (P := Try.prog) w 45 5 i0 (.int .u8 0) Try.underlying45 hi hz0 .i64 .i64 n n (by omega) (by omega) (by rw [hz2]; omega) (by omega)
  rw [hz1] at h
  simp only [Int.toNat_natCast, made_zeros] at h
  exact h
theorem conv_zeros (n : Nat) (w : World) :
    (convert 45 9 (.slice (some ⟨w.heap.size, 0, none⟩) n n)).run Try.prog (w.alloc (zerosAt n)) = .ok (.string ⟨(List.replicate n (0 : UInt8)).toArray⟩) (w.alloc (zerosAt n)) := by
  have h := conv_new (List.replicate n 0) _ rfl w n
  rw [List.length_replicate] at h
  exact h

/-- A message's cells. -/
def MsgCells (w : World) (b : Nat) (m : Mg) (a : Option Addr) (c : Nat) : Prop := w.cell? ⟨b, 0, none⟩ = some (.int .u8 m.k) ∧ w.cell? ⟨b, 1, none⟩ = some (.int .i64 m.fr) ∧ w.cell? ⟨b, 2, none⟩ = some (.int .i64 m.to) ∧ w.cell? ⟨b, 3, none⟩ = some (.int .i64 m.ht) ∧ w.cell? ⟨b, 4, none⟩ = some (.int .i64 m.rd) ∧ w.cell? ⟨b, 5, none⟩ = some (.int .i64 m.vl) ∧ w.cell? ⟨b, 6, none⟩ = some (.int .i64 m.ep) ∧ w.cell? ⟨b, 7, none⟩ = some (.int .i64 m.dl) ∧ w.cell? ⟨b, 8, none⟩ = some (.int .i64 m.id) ∧ w.cell? ⟨b, 9, none⟩ = some (.string ⟨m.s.toArray⟩) ∧ w.cell? ⟨b, 10, none⟩ = some (.slice a m.l.length c)
theorem Blk.msg {w : World} {b c : Nat} {m : Mg} {a : Option Addr} (h : Blk w b 32 (m.cells a c)) : w.cell? ⟨b, 0, none⟩ = some (.int .u8 m.k) ∧ w.cell? ⟨b, 1, none⟩ = some (.int .i64 m.fr) ∧ w.cell? ⟨b, 2, none⟩ = some (.int .i64 m.to) ∧ w.cell? ⟨b, 3, none⟩ = some (.int .i64 m.ht) ∧ w.cell? ⟨b, 4, none⟩ = some (.int .i64 m.rd) ∧ w.cell? ⟨b, 5, none⟩ = some (.int .i64 m.vl) ∧ w.cell? ⟨b, 6, none⟩ = some (.int .i64 m.ep) ∧ w.cell? ⟨b, 7, none⟩ = some (.int .i64 m.dl) ∧ w.cell? ⟨b, 8, none⟩ = some (.int .i64 m.id) ∧ w.cell? ⟨b, 9, none⟩ = some (.string ⟨m.s.toArray⟩) ∧ w.cell? ⟨b, 10, none⟩ = some (.slice a m.l.length c) :=
  ⟨h.cell 0, h.cell 1, h.cell 2, h.cell 3, h.cell 4, h.cell 5, h.cell 6, h.cell 7, h.cell 8, h.cell 9, h.cell 10⟩

def voteM : Mg := ⟨3, 1, 2, 3, 0, 0, 0, 0, 0, [], []⟩
def badM : Mg := ⟨3, 1, 2, 3, 0, 0, 0, 0, 1, [], []⟩
theorem ok_ints {k a b c d e f g h : Int} {s : List UInt8} (hk : 0 ≤ k ∧ k ≤ 255) (ha : I64 a) (hb : I64 b) (hc : I64 c) (hd : I64 d) (he : I64 e) (hf : I64 f) (hg : I64 g) (hh : I64 h) : (Mg.mk k a b c d e f g h s []).Ok :=
  ⟨hk, ha, hb, hc, hd, he, hf, hg, hh, by simp⟩
theorem voteM_ok : voteM.Ok := ok_ints (by decide) (by unfold I64; decide) (by unfold I64; decide) (by unfold I64; decide) (by unfold I64; decide) (by unfold I64; decide) (by unfold I64; decide) (by unfold I64; decide) (by unfold I64; decide)
theorem badM_ok : badM.Ok := ok_ints (by decide) (by unfold I64; decide) (by unfold I64; decide) (by unfold I64; decide) (by unfold I64; decide) (by unfold I64; decide) (by unfold I64; decide) (by unfold I64; decide) (by unfold I64; decide)
theorem voteM_may : voteM.may = true := by decide
theorem badM_may : badM.may = false := by decide

set_option maxRecDepth 100000 in
set_option maxHeartbeats 400000 in
theorem vote_any (w : World) : Calls Try.prog 41 #[] w fun e w' => e = .returned (voteM.val none 0) ∧ Below w.heap.size w w' := by
  go_enter Try.func41, Try.ntmps41
  go_wp2_with fail
  refine bodyPost_ret (v := .agg #[.int .u8 3, .int .i64 1, .int .i64 2, .int .i64 3, .int .i64 0, .int .i64 0, .int .i64 0, .int .i64 0, .int .i64 0, .string ⟨#[]⟩, .slice none 0 0]) (by simp [results, Try.results41, go_sem]) rfl ?_
  exact ⟨rfl, (Below.refl _ w).alloc (Nat.le_refl _) _⟩

def largeB (m : Mg) : Bool := decide (5000 < m.s.length) || decide (2000 < m.l.length)
set_option maxRecDepth 100000 in
set_option maxHeartbeats 400000 in
theorem large_any (m : Mg) (a : Option Addr) (c : Nat) (w : World) :
    Calls Try.prog 42 #[m.val a c] w (BoolPost (largeB m) w) := by
  unfold Mg.val
  go_enter Try.func42, Try.ntmps42
  go_wp2_with fail
  all_goals
    go_ret
    exact ⟨ret_bool (by rw [Bool.eq_iff_iff]; simp [largeB]; omega), (Below.refl _ w).alloc (Nat.le_refl _) _⟩
end Go.Proofs.Ytbibbndjnlnbiaa
