/-
  consistoryref09: two, eight, Byte, Num, Int, Text, List: the document's bytes.
-/
import Derived.Test.YtdnkijljpmcejaaWrite
import Derived.LoopN
namespace Go.Proofs.Ytdnkijljpmcejaa
open Go.RowKit

theorem u8_of (n i : Nat) : ((UInt8.ofNat (n / 256 ^ i)).toNat : Int) = (n : Int) / ((256 ^ i : Nat) : Int) % 256 := by
  rw [UInt8.toNat_ofNat']
  simp

/-- string(b), b new memory that holds bytes. -/
theorem conv_new (l : List UInt8) (cs : Array Value) (hcs : cs = (Lib.byteCells l).toArray) (w : World) (c : Nat) :
    (convert 37 9 (.slice (some ⟨w.heap.size, 0, none⟩) l.length c)).run Try.prog (w.alloc (.cells cs 5)) = .ok (.string ⟨l.toArray⟩) (w.alloc (.cells cs 5)) := by
  refine run_convert_bytes_back _ _ _ 5 _ c l Try.underlying37 Try.underlying5 Try.underlying9 fun j hj => ?_
  rw [Addr.add_lit, Nat.zero_add, World.cell?_alloc_mark, hcs]
  simp [Lib.byteCells, hj]

set_option maxRecDepth 100000 in
set_option maxHeartbeats 400000 in
theorem two_any (n : Nat) (w : World) (hn : n ≤ 2048) :
    Calls Try.prog 59 #[.int .i64 n] w fun e w' => e = .returned (.string ⟨(be n 2).toArray⟩) ∧ Below w.heap.size w w' := by
  have hcv := conv_new (be n 2) #[.int .u8 ((n : Int) / 256), .int .u8 ((n : Int) % 256)] (by
    simp only [be, Lib.byteCells, List.map_cons, List.map_nil, u8_of]
    have e1 : (n : Int) / ((256 ^ 1 : Nat) : Int) % 256 = (n : Int) / 256 := by simp; omega
    have e2 : (n : Int) / ((256 ^ 0 : Nat) : Int) % 256 = (n : Int) % 256 := by simp
    rw [e1, e2]) w 2
  rw [be_length] at hcv
  go_enter Try.func59, Try.ntmps59
  go_wp2_with fail
  go_ret
  exact ⟨rfl, (Below.refl _ w).alloc (Nat.le_refl _) _⟩

set_option maxRecDepth 100000 in
set_option maxHeartbeats 400000 in
theorem rbyte_any (l : List UInt8) (n : Int) (w : World) (hn : Byte n) (hl : l.length + 8 ≤ 140737488355328) :
    Calls Try.prog 20 #[.string ⟨l.toArray⟩, .int .u8 n] w fun e w' => e = .returned (.string ⟨(l ++ be n.toNat 1).toArray⟩) ∧ Below w.heap.size w w' := by
  have hcv := conv_new (be n.toNat 1) #[.int .u8 n] (by
    obtain ⟨m, rfl⟩ := Int.eq_ofNat_of_zero_le hn.1
    have h1 := hn.2
    simp only [be, Lib.byteCells, List.map_cons, List.map_nil, u8_of, Int.toNat_natCast]
    have e2 : (m : Int) / ((256 ^ 0 : Nat) : Int) % 256 = (m : Int) := by simp; omega
    rw [e2]) w 1
  rw [be_length] at hcv
  have hbl := be_length n.toNat 1
  go_enter Try.func20, Try.ntmps20
  go_wp2_with fail
  go_ret
  exact ⟨by rw [← ByteArray.mk_append_mk]; rfl, (Below.refl _ w).alloc (Nat.le_refl _) _⟩

set_option maxRecDepth 100000 in
set_option maxHeartbeats 1000000 in
theorem eight_any (n : Int) (w : World) (hn : U64 n) :
    Calls Try.prog 62 #[.int .u64 n] w fun e w' => e = .returned (.string ⟨(be n.toNat 8).toArray⟩) ∧ Below w.heap.size w w' := by
  have h0 := hn.1
  have h1 := hn.2
  have hmk : ∀ w : World, (Instr.makeSlice 37 (.int .i64 8) (.int .i64 8)).run Try.prog w = .ok (.slice (some ⟨w.heap.size, 0, none⟩) 8 8) (w.alloc (.cells #[.int .u8 0, .int .u8 0, .int .u8 0, .int .u8 0, .int .u8 0, .int .u8 0, .int .u8 0, .int .u8 0] 5)) := fun _ => by kernel_rfl
  have hcv := conv_new (be n.toNat 8) #[.int .u8 (n / 256 / 256 / 256 / 256 / 256 / 256 / 256 % 256), .int .u8 (n / 256 / 256 / 256 / 256 / 256 / 256 % 256), .int .u8 (n / 256 / 256 / 256 / 256 / 256 % 256), .int .u8 (n / 256 / 256 / 256 / 256 % 256), .int .u8 (n / 256 / 256 / 256 % 256), .int .u8 (n / 256 / 256 % 256), .int .u8 (n / 256 % 256), .int .u8 (n % 256)] (by
    obtain ⟨m, rfl⟩ := Int.eq_ofNat_of_zero_le hn.1
    simp only [be, Lib.byteCells, List.map_cons, List.map_nil, u8_of, Int.toNat_natCast]
    simp [Int.ediv_ediv_of_nonneg]) w 8
  rw [be_length] at hcv
  go_enter Try.func62, Try.ntmps62
  go_wp2_with fail
  refine wp_loop_rounds 9 ?_
  iterate 9 (rw [rounds_succ]; go_wp2_with fail)
  go_ret
  exact ⟨rfl, (Below.refl _ w).alloc (Nat.le_refl _) _⟩

set_option maxRecDepth 100000 in
set_option maxHeartbeats 400000 in
theorem rnum_any (l : List UInt8) (n : Int) (w : World) (hn : U64 n) (hl : l.length + 8 ≤ 140737488355328) :
    Calls Try.prog 22 #[.string ⟨l.toArray⟩, .int .u64 n] w fun e w' => e = .returned (.string ⟨(l ++ be n.toNat 8).toArray⟩) ∧ Below w.heap.size w w' := by
  have hbl := be_length n.toNat 8
  go_enter Try.func22, Try.ntmps22
  go_wp2_with fail
  refine (eight_any n w hn).mono ?_
  rintro e w1 ⟨rfl, b1⟩
  go_wp2_with fail
  go_ret
  exact ⟨by rw [← ByteArray.mk_append_mk]; rfl, b1⟩

set_option maxRecDepth 100000 in
set_option maxHeartbeats 400000 in
theorem rint_any (l : List UInt8) (n : Int) (w : World) (hl : l.length + 8 ≤ 140737488355328) :
    Calls Try.prog 24 #[.string ⟨l.toArray⟩, .int .i64 n] w fun e w' => e = .returned (.string ⟨(l ++ be (toU n).toNat 8).toArray⟩) ∧ Below w.heap.size w w' := by
  have hbl := be_length (toU n).toNat 8
  go_enter Try.func24, Try.ntmps24
  go_wp2_with fail
  refine (eight_any (toU n) w (toU_u64 n)).mono ?_
  rintro e w1 ⟨rfl, b1⟩
  go_wp2_with fail
  go_ret
  exact ⟨by rw [← ByteArray.mk_append_mk]; rfl, b1⟩

set_option maxRecDepth 100000 in
set_option maxHeartbeats 400000 in
theorem rlist_long (l : List UInt8) (a : Option Addr) (c : Nat) (n : Nat) (w : World) (hn : ¬ n ≤ 1024) (hm : n ≤ 9223372036854775807) :
    Calls Try.prog 18 #[.string ⟨l.toArray⟩, .slice a n c] w fun e w' => e = .returned (.tuple #[.string ⟨l.toArray⟩, .int .i64 40]) ∧ w = w' := by
  go_enter Try.func18, Try.ntmps18
  go_wp2_with fail
  go_ret2
  exact ⟨rfl, rfl⟩

set_option maxRecDepth 100000 in
set_option maxHeartbeats 400000 in
theorem rlist_ok (l : List UInt8) (a : Option Addr) (c : Nat) (xs : List Int) (w : World) (hx : Nums .u64 w w.heap.size a xs) (hu : ∀ x ∈ xs, U64 x) (hn : xs.length ≤ 1024) (hl : l.length + 20000 ≤ 140737488355328) :
    Calls Try.prog 18 #[.string ⟨l.toArray⟩, .slice a xs.length c] w fun e w' => e = .returned (.tuple #[.string ⟨(l ++ bList xs).toArray⟩, .int .i64 0]) ∧ Below w.heap.size w w' := by
  have hb := be_length xs.length 2
  go_enter Try.func18, Try.ntmps18
  go_wp2_with fail
  refine (two_any xs.length w (by omega)).mono ?_
  rintro e w1 ⟨rfl, b1⟩
  go_wp2_with fail
  go_loopw [6, 7] (fun u v wr => ∃ j : Nat, j ≤ xs.length ∧ v = .int .i64 j ∧ u = .string ⟨(l ++ be xs.length 2 ++ bNums (xs.take j)).toArray⟩ ∧ Below w.heap.size w wr) (fun _ v _ => xs.length - (intOf v).toNat)
  case atStart =>
    exact ⟨0, Nat.zero_le _, rfl, by rw [ByteArray.mk_append_mk]; simp [bNums], b1⟩
  case round =>
    obtain ⟨j, hj, rfl, rfl, hB⟩ := hrel
    by_cases hlt : j < xs.length
    · obtain ⟨x, hxj⟩ : ∃ x, xs[j]? = some x := ⟨_, List.getElem?_eq_getElem hlt⟩
      have hux : U64 x := hu x (List.mem_of_getElem? hxj)
      rcases (hx.kept hB (Nat.le_refl _)) with h0 | ⟨b, o, rfl, hbl, hc⟩
      · rw [h0] at hlt; simp at hlt
      have hcell := hc j x hxj
      have HX := Lib.hid hxj
      have hb8 := be_length x.toNat 8
      have hbn := bNums_length (xs.take j)
      rw [List.length_take_of_le hj] at hbn
      clear hxj hc
      go_wp2_with fail
      refine (eight_any x wr hux).mono ?_
      rintro e w3 ⟨rfl, b3⟩
      go_wp2_with fail
      go_roundw
      case rel =>
        refine ⟨j + 1, by omega, by go_num, ?_, hB.trans (b3.mono hB.size)⟩
        rw [List.take_add_one, HX.out, bNums_append, ByteArray.mk_append_mk]
        simp [bNums]
      case measure => simp [intOf]; omega
    · have hje : j = xs.length := by omega
      subst hje
      go_wp2_with fail
      go_ret2
      exact ⟨ret2 (str_eq (by simp [bList])) rfl, hB⟩
end Go.Proofs.Ytdnkijljpmcejaa
