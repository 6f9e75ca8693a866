/-
  The calls of consistorylaw14's statements, with messages written out; a message in a box.
-/
import Derived.Test.YtbibbndjnlnbiaaMWorks2
import Derived.Test.YtbibbndjnlnbiaaMsgRow
namespace Go.Proofs.Ytbibbndjnlnbiaa
open Go.RowKit

theorem large_agg (m : Mg) (a : Option Addr) (c : Nat) (w : World) (b : Bool) (hb : largeB m = b) :
    Calls Try.prog 42 #[.agg #[.int .u8 m.k, .int .i64 m.fr, .int .i64 m.to, .int .i64 m.ht, .int .i64 m.rd, .int .i64 m.vl, .int .i64 m.ep, .int .i64 m.dl, .int .i64 m.id, .string ⟨m.s.toArray⟩, .slice a m.l.length c]] w (BoolPost b w) := by
  subst hb
  exact large_any m a c w
theorem encode_agg {m : Mg} {a : Option Addr} {c : Nat} {w : World} {b : List UInt8} {e : Int} (hm : m.Ok) (ha : Nums .u64 w w.heap.size a m.l) (hb : menc m = b) (he : (if m.may then (0 : Int) else 4) = e) :
    Calls Try.prog 38 #[.agg #[.int .u8 m.k, .int .i64 m.fr, .int .i64 m.to, .int .i64 m.ht, .int .i64 m.rd, .int .i64 m.vl, .int .i64 m.ep, .int .i64 m.dl, .int .i64 m.id, .string ⟨m.s.toArray⟩, .slice a m.l.length c]] w fun f w' => f = .returned (.tuple #[.string ⟨b.toArray⟩, .int .i64 e]) ∧ Below w.heap.size w w' := encode_of hm ha hb he
theorem decode_agg {s : List UInt8} {w : World} {m : Mg} {e : Int} (h : mdec s = (m, e)) :
    Calls Try.prog 39 #[.string ⟨s.toArray⟩] w fun f w' => ∃ a c, f = .returned (.tuple #[.agg #[.int .u8 m.k, .int .i64 m.fr, .int .i64 m.to, .int .i64 m.ht, .int .i64 m.rd, .int .i64 m.vl, .int .i64 m.ep, .int .i64 m.dl, .int .i64 m.id, .string ⟨m.s.toArray⟩, .slice a m.l.length c], .int .i64 e]) ∧ w'.ownsRow w.heap.size 56 1 (.slice a m.l.length c) m.l.length (m.l.map (.int .u64)) ∧ Below w.heap.size w w' := decode_of h
/-- A message in a new block. -/
def boxed (w : World) (m : Mg) (a : Option Addr) (c : Nat) : World := w.alloc (.cells #[.int .u8 m.k, .int .i64 m.fr, .int .i64 m.to, .int .i64 m.ht, .int .i64 m.rd, .int .i64 m.vl, .int .i64 m.ep, .int .i64 m.dl, .int .i64 m.id, .string ⟨m.s.toArray⟩, .slice a m.l.length c] 32)
theorem boxed_blk (w : World) (m : Mg) (a : Option Addr) (c : Nat) : Blk (boxed w m a c) w.heap.size 32 (m.cells a c) := Blk.new w 32 (m.cells a c)
theorem boxed_below {w0 w : World} {B : Nat} (h : Below B w0 w) (hB : B ≤ w.heap.size) (m : Mg) (a : Option Addr) (c : Nat) : Below B w0 (boxed w m a c) := h.alloc hB _
theorem boxed_kept {w : World} {g : Nat} {t : TypeId} {cs : Array Value} (h : Blk w g t cs) (m : Mg) (a : Option Addr) (c : Nat) : Blk (boxed w m a c) g t cs := h.alloc _
theorem boxed_nums {w : World} {a' : Option Addr} {xs : List Int} (h : Nums .u64 w w.heap.size a' xs) (m : Mg) (a : Option Addr) (c : Nat) : Nums .u64 (boxed w m a c) (boxed w m a c).heap.size a' xs :=
  (h.kept ((Below.refl _ w).alloc (Nat.le_refl _) _) (Nat.le_refl _)).more (by unfold boxed; simp)
theorem nums_step {w w' : World} {a : Option Addr} {xs : List Int} (h : Nums .u64 w w.heap.size a xs) (b : Below w.heap.size w w') : Nums .u64 w' w'.heap.size a xs := (h.kept b (Nat.le_refl _)).more b.size
theorem enc_ok {m : Mg} (h : m.may = true) : menc m = m.bytes ∧ (if m.may then (0 : Int) else 4) = 0 := by
  unfold menc
  rw [h]
  exact ⟨rfl, rfl⟩
theorem enc_no {m : Mg} (h : m.may = false) : menc m = [] ∧ (if m.may then (0 : Int) else 4) = 4 := by
  unfold menc
  rw [h]
  exact ⟨rfl, rfl⟩
theorem bytes_short {m : Mg} (h : m.may = true) : m.bytes.length ≤ 20000 := by
  have := Mg.may_len h
  rw [Mg.bytes_length]
  omega
theorem rem_at (k : Int) (n : Nat) (h0 : 0 < n) (hn : n ≤ 20000) : ∃ j : Nat, wrap64 ((IntKind.u64.wrap k).tmod (n : Int)) = (j : Int) ∧ j < n := by
  have h1 : 0 ≤ IntKind.u64.wrap k := by rw [IntKind.wrap_u64]; exact (toU_u64 k).1
  generalize IntKind.u64.wrap k = u at h1
  have h2 : 0 ≤ u.tmod (n : Int) := Int.tmod_nonneg _ h1
  have h3 : u.tmod (n : Int) < n := Int.tmod_lt_of_pos _ (by omega)
  refine ⟨(u.tmod (n : Int)).toNat, ?_, by omega⟩
  rw [IntWalk.wrap64_in _ (by omega)]
  omega
end Go.Proofs.Ytbibbndjnlnbiaa
