/-
  wire.Byte, Num, Int, Text, List: each puts the document's bytes behind bytes.
-/
import Derived.Test.YtdnkijljpmcejaaPut
namespace Go.Proofs.Ytdnkijljpmcejaa
open Go.RowKit

def Byte (n : Int) : Prop := 0 ≤ n ∧ n ≤ 255
theorem Byte.u64 {n : Int} (h : Byte n) : U64 n := ⟨h.1, by have := h.2; omega⟩

set_option maxHeartbeats 400000 in
theorem byte_any (l : List UInt8) (n : Int) (w : World) (hn : Byte n) (hl : l.length + 8 ≤ 140737488355328) :
    Calls Try.prog 19 #[.string ⟨l.toArray⟩, .int .u8 n] w fun e w' => e = .returned (.string ⟨(l ++ be n.toNat 1).toArray⟩) ∧ Below w.heap.size w w' := by
  have h0 := hn.1
  have h1 := hn.2
  go_enter Try.func19, Try.ntmps19
  go_wp2_with fail
  refine (put_any l n 1 w hn.u64 (by omega) hl).mono ?_
  rintro e w1 ⟨rfl, b1⟩
  go_wp2_with fail
  go_ret
  exact ⟨rfl, b1⟩

set_option maxHeartbeats 400000 in
theorem num_any (l : List UInt8) (n : Int) (w : World) (hn : U64 n) (hl : l.length + 8 ≤ 140737488355328) :
    Calls Try.prog 21 #[.string ⟨l.toArray⟩, .int .u64 n] w fun e w' => e = .returned (.string ⟨(l ++ be n.toNat 8).toArray⟩) ∧ Below w.heap.size w w' := by
  go_enter Try.func21, Try.ntmps21
  go_wp2_with fail
  refine (put_any l n 8 w hn (by omega) hl).mono ?_
  rintro e w1 ⟨rfl, b1⟩
  go_wp2_with fail
  go_ret
  exact ⟨rfl, b1⟩

set_option maxHeartbeats 400000 in
theorem int_any (l : List UInt8) (n : Int) (w : World) (hl : l.length + 8 ≤ 140737488355328) :
    Calls Try.prog 23 #[.string ⟨l.toArray⟩, .int .i64 n] w fun e w' => e = .returned (.string ⟨(l ++ be (toU n).toNat 8).toArray⟩) ∧ Below w.heap.size w w' := by
  go_enter Try.func23, Try.ntmps23
  go_wp2_with fail
  refine (num_any l (toU n) w (toU_u64 n) hl).mono ?_
  rintro e w1 ⟨rfl, b1⟩
  go_wp2_with fail
  go_ret
  exact ⟨rfl, b1⟩

/-- A slice whose elements are these numbers, all below block B. -/
def Nums (k : IntKind) (w : World) (B : Nat) (a : Option Addr) (xs : List Int) : Prop :=
  xs = [] ∨ ∃ b o, a = some ⟨b, o, none⟩ ∧ b < B ∧ ∀ i x, xs[i]? = some x → w.cell? ⟨b, o + i, none⟩ = some (.int k x)
theorem Nums.kept {k : IntKind} {w w' : World} {B B' : Nat} {a : Option Addr} {xs : List Int} (h : Nums k w B a xs) (hb : Below B' w w') (hB : B ≤ B') : Nums k w' B a xs := by
  rcases h with h | ⟨b, o, ha, hlt, hc⟩
  · exact .inl h
  · exact .inr ⟨b, o, ha, hlt, fun i x hx => (hb.cell (p := ⟨b, o + i, none⟩) (by simp; omega)).trans (hc i x hx)⟩
theorem Nums.more {k : IntKind} {w : World} {B B' : Nat} {a : Option Addr} {xs : List Int} (h : Nums k w B a xs) (hB : B ≤ B') : Nums k w B' a xs := by
  rcases h with h | ⟨b, o, ha, hlt, hc⟩
  · exact .inl h
  · exact .inr ⟨b, o, ha, by omega, hc⟩

set_option maxHeartbeats 400000 in
theorem list_ok (l : List UInt8) (a : Option Addr) (c : Nat) (xs : List Int) (w : World) (hx : Nums .u64 w w.heap.size a xs) (hu : ∀ x ∈ xs, U64 x) (hn : xs.length ≤ 1024) (hl : l.length + 20000 ≤ 140737488355328) :
    Calls Try.prog 17 #[.string ⟨l.toArray⟩, .slice a xs.length c] w fun e w' => e = .returned (.tuple #[.string ⟨(l ++ bList xs).toArray⟩, .int .i64 0]) ∧ Below w.heap.size w w' := by
  have hb := be_length xs.length 2
  go_enter Try.func17, Try.ntmps17
  go_wp2_with fail
  refine (put_any l xs.length 2 _ (by constructor <;> omega) (by omega) (by omega)).mono ?_
  rintro e w1 ⟨rfl, b1⟩
  go_wp2_with fail
  have hsz : w.heap.size + 1 ≤ w1.heap.size := by have := b1.size; simpa using this
  refine (sb_WriteString w.heap.size w.heap.size [] _ _ (builder_kept (Lib.IsBuilderF.of (Lib.fresh_isBuilder 92 5 w)) b1) (by rw [bsize]; simp; omega) (by omega)).mono ?_
  rintro e w2 ⟨rfl, h2, b2, -⟩
  have hB2 : Below w.heap.size w w2 := (((Below.refl _ w).alloc (Nat.le_refl _) _).trans (b1.mono (by simp))).trans b2
  go_wp2_with fail
  go_loopw [21] (fun v wr => ∃ j : Nat, j ≤ xs.length ∧ v = .int .i64 j ∧ Lib.IsBuilderF 92 5 w.heap.size w.heap.size (Lib.byteCells (l ++ be xs.length 2 ++ bNums (xs.take j))) wr ∧ Below w.heap.size w wr) (fun v _ => xs.length - (intOf v).toNat)
  case atStart =>
    refine ⟨0, Nat.zero_le _, rfl, Or.inr (by rw [strCells_mk] at h2; simpa [bNums] using h2), hB2⟩
  case round =>
    obtain ⟨j, hj, rfl, hI, hB⟩ := hrel
    by_cases hlt : j < xs.length
    · obtain ⟨x, hxj⟩ : ∃ x, xs[j]? = some x := ⟨_, List.getElem?_eq_getElem hlt⟩
      have hux : U64 x := hu x (List.mem_of_getElem? hxj)
      rcases (hx.kept hB (Nat.le_refl _)) with h0 | ⟨b, o, rfl, hbl, hc⟩
      · rw [h0] at hlt; simp at hlt
      have hcell := hc j x hxj
      have HX := Lib.hid hxj
      clear hxj hc
      go_wp2_with fail
      refine (put_any [] x 8 _ hux (by omega) (by simp)).mono ?_
      rintro e w3 ⟨rfl, b3⟩
      go_wp2_with fail
      refine (sb_WriteString w.heap.size w.heap.size _ _ _ (builder_kept hI b3) (by rw [bsize, byteCells_length]; simp [be_length, bNums_length]; omega) (by have := hB.size; have := b3.size; omega)).mono ?_
      rintro e w4 ⟨rfl, h4, b4, -⟩
      go_wp2_with fail
      go_roundw
      case rel =>
        refine ⟨j + 1, by omega, by go_num, Or.inr ?_, hB.trans ((b3.mono hB.size).trans b4)⟩
        rw [List.take_add_one, HX.out, bNums_append, ← List.append_assoc, byteCells_append]
        rw [strCells_mk] at h4
        simpa [bNums] using h4
      case measure => simp [intOf]; omega
    · have hje : j = xs.length := by omega
      subst hje
      go_wp2_with fail
      refine (sb_String w.heap.size w.heap.size _ _ hI hB.size).mono ?_
      rintro e w3 ⟨rfl, h3, b3, -⟩
      go_wp2_with fail
      go_ret2
      exact ⟨rfl, hB.trans b3⟩

set_option maxHeartbeats 400000 in
theorem list_long (l : List UInt8) (a : Option Addr) (c : Nat) (n : Nat) (w : World) (hn : ¬ n ≤ 1024) (hm : n ≤ 9223372036854775807) :
    Calls Try.prog 17 #[.string ⟨l.toArray⟩, .slice a n c] w fun e w' => e = .returned (.tuple #[.string ⟨l.toArray⟩, .int .i64 40]) ∧ w = w' := by
  go_enter Try.func17, Try.ntmps17
  go_wp2_with fail
  go_ret2
  exact ⟨rfl, rfl⟩
end Go.Proofs.Ytdnkijljpmcejaa
