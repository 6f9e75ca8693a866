/-
  Made rows of zeros, texts and numbers, at the limits.
-/
import Derived.Test.YtdnkijljpmcejaaLensT
namespace Go.Proofs.Ytdnkijljpmcejaa
open Go.RowKit

def zeroNums (n : Nat) : Obj := .cells (List.replicate n (Value.int .u64 0)).toArray 22
theorem made_nums (n : Nat) : madeCells (Value.int .u64 0).cells (n * 1) = (List.replicate n (Value.int .u64 0)).toArray := by
  apply Array.ext
  · simp [madeCells]
  · intro i h1 h2
    simp [madeCells, Value.cells, Nat.mod_one]
theorem mk_nums (n : Nat) (hn : n ≤ 9000) (w : World) : (Instr.makeSlice 23 (.int .i64 n) (.int .i64 n)).run Try.prog w = .ok (.slice (some ⟨w.heap.size, 0, none⟩) n n) (w.alloc (zeroNums n)) := by
  obtain ⟨i0, hi, hz0, hz1, hz2⟩ := info_parts info64
  have h := run_make (P := Try.prog) w 23 22 i0 (.int .u64 0) Try.underlying23 hi hz0 .i64 .i64 n n (by omega) (by omega) (by rw [hz2]; omega) (by omega)
  rw [hz1] at h
  simp only [Int.toNat_natCast, made_nums] at h
  exact h
theorem zero_nums (n : Nat) (w : World) : Nums .u64 (w.alloc (zeroNums n)) (w.alloc (zeroNums n)).heap.size (some ⟨w.heap.size, 0, none⟩) (List.replicate n 0) := by
  refine .inr ⟨w.heap.size, 0, rfl, by simp, fun i x hx => ?_⟩
  have hB : Blk (w.alloc (zeroNums n)) w.heap.size 22 (List.replicate n (Value.int .u64 0)).toArray := Blk.new w _ _
  rw [Nat.zero_add, hB.cell i]
  have hi : i < n := by
    have := (List.getElem?_eq_some_iff.1 hx).1
    simpa using this
  have hx0 : x = 0 := by
    rw [List.getElem?_replicate, if_pos hi] at hx
    exact (Option.some.inj hx).symm
  subst hx0
  simp [hi]
theorem zero_u64 (n : Nat) : ∀ x ∈ List.replicate n (0 : Int), U64 x := by
  intro x hx
  rw [(List.mem_replicate.1 hx).2]
  exact ⟨by decide, by decide⟩
def lf0 : RS := ⟨[7, 7], 0⟩
def lf1 : RS := ⟨[7], 0⟩
def lf2 : RS := ⟨[], 10⟩
theorem lf_num : lf0.num 1 = (7, lf1) := rfl
theorem lf_fin : lf1.fin = lf2 := rfl
end Go.Proofs.Ytdnkijljpmcejaa
