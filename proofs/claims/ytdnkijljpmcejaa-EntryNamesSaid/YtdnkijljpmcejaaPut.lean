/-
  wire.put: so many bytes of a number behind bytes.
-/
import Derived.Test.YtdnkijljpmcejaaKit
namespace Go.Proofs.Ytdnkijljpmcejaa
open Go.RowKit

theorem byte_of {n : Int} (hn : U64 n) (i : Nat) : ((UInt8.ofNat (n.toNat / 256 ^ i)).toNat : Int) = n / 2 ^ (8 * i) % 256 := by
  obtain ⟨m, rfl⟩ := Int.eq_ofNat_of_zero_le hn.1
  have e : (2 : Int) ^ (8 * i) = ((256 ^ i : Nat) : Int) := by rw [Int.pow_mul]; simp
  rw [Int.toNat_natCast, UInt8.toNat_ofNat', e]
  simp
theorem byteCells_one {n : Int} (hn : U64 n) (i : Nat) : Lib.byteCells [UInt8.ofNat (n.toNat / 256 ^ i)] = [.int .u8 (n / 2 ^ (8 * i) % 256)] := by
  simp only [Lib.byteCells, List.map_cons, List.map_nil]
  rw [byte_of hn]

set_option maxHeartbeats 400000 in
theorem put_any (l : List UInt8) (n : Int) (k : Nat) (w : World) (hn : U64 n) (hk : k ≤ 8) (hl : l.length + 8 ≤ 140737488355328) :
    Calls Try.prog 58 #[.string ⟨l.toArray⟩, .int .u64 n, .int .i64 k] w fun e w' => e = .returned (.string ⟨(l ++ be n.toNat k).toArray⟩) ∧ Below w.heap.size w w' := by
  go_enter Try.func58, Try.ntmps58
  go_wp2_with fail
  refine (sb_WriteString w.heap.size w.heap.size [] _ _ (Lib.IsBuilderF.of (Lib.fresh_isBuilder 92 5 w)) (by rw [bsize]; simp; omega) (by simp)).mono ?_
  rintro e w1 ⟨rfl, h1, b1, -⟩
  go_wp2_with fail
  go_loopw [2] (fun v wr => ∃ (j : Nat) (acc : List UInt8), j ≤ k ∧ v = .int .i64 j ∧ Lib.IsBuilderF 92 5 w.heap.size w.heap.size (Lib.byteCells acc) wr ∧ Below w.heap.size w wr ∧ acc ++ be n.toNat j = l ++ be n.toNat k) (fun v _ => (intOf v).toNat)
  case atStart =>
    refine ⟨k, l, Nat.le_refl _, rfl, Or.inr (by rw [strCells_mk] at h1; simpa using h1), ((Below.refl _ w).alloc (Nat.le_refl _) _).trans b1, rfl⟩
  case round =>
    obtain ⟨j, acc, hj, rfl, hI, hb, hacc⟩ := hrel
    have H := Lib.hid hacc; clear hacc
    by_cases h0 : 0 < j
    · obtain ⟨i, rfl⟩ : ∃ i, j = i + 1 := ⟨j - 1, by omega⟩
      go_wp2_with fail
      refine (sb_WriteByte w.heap.size w.heap.size _ _ _ hI (by have := congrArg List.length H.out; simp only [List.length_append, be_length] at this; rw [byteCells_length]; omega) hb.size).mono ?_
      rintro e w2 ⟨rfl, h2, b2, -⟩
      go_wp2_with fail
      go_roundw
      case rel =>
        refine ⟨i, acc ++ [UInt8.ofNat (n.toNat / 256 ^ i)], by omega, by go_num, Or.inr ?_, hb.trans b2, ?_⟩
        · rw [byteCells_append, byteCells_one hn]
          exact h2
        · rw [← H.out]; simp [be]
      case measure => simp [intOf]
    · have hj0 : j = 0 := by omega
      subst hj0
      go_wp2_with fail
      refine (sb_String w.heap.size w.heap.size acc _ hI hb.size).mono ?_
      rintro e w2 ⟨rfl, h2, b2, -⟩
      have H2 := H.out
      simp only [be, List.append_nil] at H2
      subst H2
      go_wp2_with fail
      go_ret
      exact ⟨rfl, hb.trans b2⟩
end Go.Proofs.Ytdnkijljpmcejaa
