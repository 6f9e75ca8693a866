/-
  entry.putNumber, putList, putDeal, put at its four types: the bytes of members behind bytes.
-/
import Derived.Test.YtdnkijljpmcejaaEnMem
import Derived.Test.YtdnkijljpmcejaaBase
import Derived.Test.YtdnkijljpmcejaaRefW
namespace Go.Proofs.Ytdnkijljpmcejaa
open Go.RowKit

theorem byte_nat (l : List UInt8) (n : Nat) (w : World) (hn : n ≤ 255) (hl : l.length + 8 ≤ 140737488355328) :
    Calls Try.prog 19 #[.string ⟨l.toArray⟩, .int .u8 n] w fun e w' => e = .returned (.string ⟨(l ++ be n 1).toArray⟩) ∧ Below w.heap.size w w' := byte_any l n w ⟨by omega, by omega⟩ hl
theorem below_dr {w1 w2 : World} (b : Below w1.drew.heap.size w1.drew w2) : Below w1.heap.size w1 w2 := ⟨b.os, b.tape, b.output, b.size, b.block⟩
theorem pNum_be (n : Int) : pNum n = be (toU n).toNat 8 := rfl
set_option maxHeartbeats 400000 in
theorem putNumber_any (l : List UInt8) (n : Int) (w : World) (hl : l.length + 8 ≤ 140737488355328) :
    Calls Try.prog 77 #[.string ⟨l.toArray⟩, .int .i64 n] w fun e w' => e = .returned (.string ⟨(l ++ pNum n).toArray⟩) ∧ Below w.heap.size w w' := by
  go_enter Try.func77, Try.ntmps77
  go_wp2_with fail
  refine (num_any l (toU n) w (toU_u64 n) hl).mono ?_
  rintro e w1 ⟨rfl, b1⟩
  go_wp2_with fail
  go_ret
  exact ⟨rfl, b1⟩
theorem pint_any (l : List UInt8) (n : Int) (w : World) (hl : l.length + 8 ≤ 140737488355328) :
    Calls Try.prog 23 #[.string ⟨l.toArray⟩, .int .i64 n] w fun e w' => e = .returned (.string ⟨(l ++ pNum n).toArray⟩) ∧ Below w.heap.size w w' := int_any l n w hl

theorem infoU8 : (Try.prog.info? 5).map (fun i => (i.zero, i.size, i.bytes)) = some (some (.int .u8 0), 1, 1) := by kernel_rfl
def zerosAt (n : Nat) : Obj := .cells (Lib.byteCells (List.replicate n 0)).toArray 5
theorem made_zeros (n : Nat) : madeCells (Value.int .u8 0).cells (n * 1) = (Lib.byteCells (List.replicate n 0)).toArray := by
  apply Array.ext
  · simp [madeCells, Lib.byteCells]
  · intro i h1 h2
    simp [madeCells, Lib.byteCells, Value.cells, Nat.mod_one]
theorem mk_bytes (n : Nat) (hn : n ≤ 9000) (w : World) : (Instr.makeSlice 37 (.int .i64 n) (.int .i64 n)).run Try.prog w = .ok (.slice (some ⟨w.heap.size, 0, none⟩) n n) (w.alloc (zerosAt n)) := by
  obtain ⟨i0, hi, hz0, hz1, hz2⟩ := info_parts infoU8
  have h := run_make (P := Try.prog) w 37 5 i0 (.int .u8 0) Try.underlying37 hi hz0 .i64 .i64 n n (by omega) (by omega) (by rw [hz2]; omega) (by omega)
  rw [hz1] at h
  simp only [Int.toNat_natCast, made_zeros] at h
  exact h
theorem conv_zeros (n : Nat) (w : World) :
    (convert 37 9 (.slice (some ⟨w.heap.size, 0, none⟩) n n)).run Try.prog (w.alloc (zerosAt n)) = .ok (.string ⟨(List.replicate n (0 : UInt8)).toArray⟩) (w.alloc (zerosAt n)) := by
  have h := conv_new (List.replicate n 0) _ rfl w n
  rw [List.length_replicate] at h
  exact h
set_option maxRecDepth 100000 in
set_option maxHeartbeats 400000 in
theorem putList_any (l : List UInt8) (a : Option Addr) (c : Nat) (xs : List Int) (w : World) (hx : Nums .u64 w w.heap.size a xs) (hu : ∀ x ∈ xs, U64 x) (hn : xs.length ≤ 5000) (hl : l.length + 20000 ≤ 140737488355328) :
    Calls Try.prog 75 #[.string ⟨l.toArray⟩, .slice a xs.length c] w fun e w' => e = .returned (.string ⟨(l ++ pList xs).toArray⟩) ∧ Below w.heap.size w w' := by
  by_cases h : xs.length ≤ 1024
  · have e : pList xs = bList xs := by unfold pList; rw [if_pos h]
    rw [e]
    clear e
    go_enter Try.func75, Try.ntmps75
    go_wp2_with fail
    refine (list_ok l a c xs w hx hu h hl).mono ?_
    rintro e w1 ⟨rfl, b1⟩
    go_wp2_with fail
    go_ret
    exact ⟨rfl, b1⟩
  · have e : pList xs = List.replicate 2048 0 := by unfold pList; rw [if_neg h]
    rw [e]
    clear e
    obtain ⟨zs, hzs⟩ : ∃ zs : List UInt8, zs = List.replicate 2048 0 := ⟨_, rfl⟩
    have hmk : ∀ w, (Instr.makeSlice 37 (.int .i64 2048) (.int .i64 2048)).run Try.prog w = .ok (.slice (some ⟨w.heap.size, 0, none⟩) 2048 2048) (w.alloc (zerosAt 2048)) := fun w => mk_bytes 2048 (by omega) w
    have hcv : ∀ w : World, (convert 37 9 (.slice (some ⟨w.heap.size, 0, none⟩) 2048 2048)).run Try.prog (w.alloc (zerosAt 2048)) = .ok (.string ⟨zs.toArray⟩) (w.alloc (zerosAt 2048)) := by
      rw [hzs]
      exact fun w => conv_zeros 2048 w
    have hzl : zs.length = 2048 := by rw [hzs]; exact List.length_replicate
    rw [← hzs]
    clear hzs
    go_enter Try.func75, Try.ntmps75
    go_wp2_with fail
    refine (list_long l a c xs.length w h (by omega)).mono ?_
    rintro e w1 ⟨rfl, rfl⟩
    go_wp2_with fail
    go_ret
    exact ⟨by rw [← ByteArray.mk_append_mk]; rfl, (Below.refl _ w).alloc (Nat.le_refl _) _⟩

set_option maxRecDepth 100000 in
set_option maxHeartbeats 400000 in
theorem put_num (l : List UInt8) (a : Option Addr) (c : Nat) (xs : List Int) (w : World) (hx : Nums .i64 w w.heap.size a xs) (hn : xs.length ≤ 255) (hl : l.length + 10000 ≤ 140737488355328) :
    Calls Try.prog 78 #[.string ⟨l.toArray⟩, .slice a xs.length c, .func (.func 77) #[] #[]] w fun e w' => e = .returned (.string ⟨(l ++ pMany pNum xs).toArray⟩) ∧ Below w.heap.size w w' := by
  have hbl := be_length xs.length 1
  go_enter Try.func78, Try.ntmps78
  go_wp2_with fail
  refine (byte_nat l xs.length w hn (by omega)).mono ?_
  rintro e w1 ⟨rfl, b1⟩
  go_wp2_with fail
  go_loopw [0, 16] (fun u v wr => ∃ j : Nat, j ≤ xs.length ∧ v = .int .i64 j ∧ u = .string ⟨(l ++ be xs.length 1 ++ pEach pNum (xs.take j)).toArray⟩ ∧ Below w.heap.size w wr) (fun _ v _ => xs.length - (intOf v).toNat)
  case atStart => exact ⟨0, Nat.zero_le _, rfl, by simp [pEach], b1⟩
  case round =>
    obtain ⟨j, hj, rfl, rfl, hB⟩ := hrel
    by_cases hlt : j < xs.length
    · obtain ⟨x, hxj⟩ : ∃ x, xs[j]? = some x := ⟨_, List.getElem?_eq_getElem hlt⟩
      have hmem := List.mem_of_getElem? hxj
      have hps := pEach_le pNum 8 (xs.take j) fun x _ => Nat.le_of_eq (pNum_length x)
      rw [List.length_take_of_le hj] at hps
      have HX := Lib.hid (pEach_take pNum hxj)
      have hjI : (j : Int) < (xs.length : Int) := by omega
      rcases hx.kept hB (Nat.le_refl _) with h0 | ⟨b, o, rfl, hbl, hc⟩
      · rw [h0] at hlt; simp at hlt
      have hcell := hc j x hxj
      clear hxj hc hmem
      go_wp2_with fail
      refine (putNumber_any _ x wr (by simp only [List.length_append]; omega)).mono ?_
      rintro e w3 ⟨rfl, b3⟩
      go_wp2_with fail
      go_roundw
      case rel => exact ⟨j + 1, by omega, by go_num, by rw [HX.out]; simp, step_below hB b3⟩
      case measure => simp [intOf]; omega
    · have hje : j = xs.length := by omega
      subst hje
      go_wp2_with fail
      go_ret
      exact ⟨ret1 (str_eq (by simp [pMany])), hB⟩

set_option maxRecDepth 100000 in
set_option maxHeartbeats 400000 in
theorem put_int (l : List UInt8) (a : Option Addr) (c : Nat) (xs : List Int) (w : World) (hx : Nums .i64 w w.heap.size a xs) (hn : xs.length ≤ 255) (hl : l.length + 10000 ≤ 140737488355328) :
    Calls Try.prog 76 #[.string ⟨l.toArray⟩, .slice a xs.length c, .func (.func 23) #[] #[]] w fun e w' => e = .returned (.string ⟨(l ++ pMany pNum xs).toArray⟩) ∧ Below w.heap.size w w' := by
  have hbl := be_length xs.length 1
  go_enter Try.func76, Try.ntmps76
  go_wp2_with fail
  refine (byte_nat l xs.length w hn (by omega)).mono ?_
  rintro e w1 ⟨rfl, b1⟩
  go_wp2_with fail
  go_loopw [0, 16] (fun u v wr => ∃ j : Nat, j ≤ xs.length ∧ v = .int .i64 j ∧ u = .string ⟨(l ++ be xs.length 1 ++ pEach pNum (xs.take j)).toArray⟩ ∧ Below w.heap.size w wr) (fun _ v _ => xs.length - (intOf v).toNat)
  case atStart => exact ⟨0, Nat.zero_le _, rfl, by simp [pEach], b1⟩
  case round =>
    obtain ⟨j, hj, rfl, rfl, hB⟩ := hrel
    by_cases hlt : j < xs.length
    · obtain ⟨x, hxj⟩ : ∃ x, xs[j]? = some x := ⟨_, List.getElem?_eq_getElem hlt⟩
      have hmem := List.mem_of_getElem? hxj
      have hps := pEach_le pNum 8 (xs.take j) fun x _ => Nat.le_of_eq (pNum_length x)
      rw [List.length_take_of_le hj] at hps
      have HX := Lib.hid (pEach_take pNum hxj)
      have hjI : (j : Int) < (xs.length : Int) := by omega
      rcases hx.kept hB (Nat.le_refl _) with h0 | ⟨b, o, rfl, hbl, hc⟩
      · rw [h0] at hlt; simp at hlt
      have hcell := hc j x hxj
      clear hxj hc hmem
      go_wp2_with fail
      refine (pint_any _ x wr (by simp only [List.length_append]; omega)).mono ?_
      rintro e w3 ⟨rfl, b3⟩
      go_wp2_with fail
      go_roundw
      case rel => exact ⟨j + 1, by omega, by go_num, by rw [HX.out]; simp, step_below hB b3⟩
      case measure => simp [intOf]; omega
    · have hje : j = xs.length := by omega
      subst hje
      go_wp2_with fail
      go_ret
      exact ⟨ret1 (str_eq (by simp [pMany])), hB⟩

set_option maxRecDepth 100000 in
set_option maxHeartbeats 400000 in
theorem put_list (l : List UInt8) (a : Option Addr) (c : Nat) (xs : List (List Int)) (w : World) (hx : NLst w w.heap.size a xs) (hu : Us xs) (hlen : ∀ l ∈ xs, l.length ≤ 5000) (hn : xs.length ≤ 255) (hl : l.length + 2200000 ≤ 140737488355328) :
    Calls Try.prog 74 #[.string ⟨l.toArray⟩, .slice a xs.length c, .func (.func 75) #[] #[]] w fun e w' => e = .returned (.string ⟨(l ++ pMany pList xs).toArray⟩) ∧ Below w.heap.size w w' := by
  have hbl := be_length xs.length 1
  go_enter Try.func74, Try.ntmps74
  go_wp2_with fail
  refine (byte_nat l xs.length w hn (by omega)).mono ?_
  rintro e w1 ⟨rfl, b1⟩
  go_wp2_with fail
  go_loopw [0, 16] (fun u v wr => ∃ j : Nat, j ≤ xs.length ∧ v = .int .i64 j ∧ u = .string ⟨(l ++ be xs.length 1 ++ pEach pList (xs.take j)).toArray⟩ ∧ Below w.heap.size w wr) (fun _ v _ => xs.length - (intOf v).toNat)
  case atStart => exact ⟨0, Nat.zero_le _, rfl, by simp [pEach], b1⟩
  case round =>
    obtain ⟨j, hj, rfl, rfl, hB⟩ := hrel
    by_cases hlt : j < xs.length
    · obtain ⟨x, hxj⟩ : ∃ x, xs[j]? = some x := ⟨_, List.getElem?_eq_getElem hlt⟩
      have hmem := List.mem_of_getElem? hxj
      have hps := pEach_le pList 8194 (xs.take j) fun x _ => pList_le x
      rw [List.length_take_of_le hj] at hps
      have HX := Lib.hid (pEach_take pList hxj)
      have hjI : (j : Int) < (xs.length : Int) := by omega
      have hux := hu x hmem
      have hlx := hlen x hmem
      rcases hx.kept hB (Nat.le_refl _) with h0 | ⟨b, o, rfl, hbl, hc⟩
      · rw [h0] at hlt; simp at hlt
      obtain ⟨a', c', hcell, hnum⟩ := hc j x hxj
      have HN := Lib.hid (hnum.more hB.size)
      have HU := Lib.hid hux
      clear hxj hc hmem hux hnum
      go_wp2_with fail
      refine (putList_any _ a' c' x wr HN.out HU.out hlx (by simp only [List.length_append]; omega)).mono ?_
      rintro e w3 ⟨rfl, b3⟩
      go_wp2_with fail
      go_roundw
      case rel => exact ⟨j + 1, by omega, by go_num, by rw [HX.out]; simp, step_below hB b3⟩
      case measure => simp [intOf]; omega
    · have hje : j = xs.length := by omega
      subst hje
      go_wp2_with fail
      go_ret
      exact ⟨ret1 (str_eq (by simp [pMany])), hB⟩

set_option maxRecDepth 100000 in
set_option maxHeartbeats 400000 in
theorem putDeal_any (l : List UInt8) (d : Dl) (a : Option Addr) (c : Nat) (w : World) (hx : NLst w w.heap.size a d.2) (hu : Us d.2) (hn : d.2.length ≤ 255) (hlen : ∀ l ∈ d.2, l.length ≤ 5000) (hl : l.length + 3000000 ≤ 140737488355328) :
    Calls Try.prog 80 #[.string ⟨l.toArray⟩, .agg #[.int .i64 d.1, .slice a d.2.length c]] w fun e w' => e = .returned (.string ⟨(l ++ pDeal d).toArray⟩) ∧ Below w.heap.size w w' := by
  obtain ⟨w0, hw0⟩ : ∃ w0, w0 = w.alloc (.cells #[.int .i64 d.1, .slice a d.2.length c] 58) := ⟨_, rfl⟩
  have B0 : Below w.heap.size w w0 := by rw [hw0]; exact (Below.refl _ w).alloc (Nat.le_refl _) _
  have K0 : Blk w0 w.heap.size 58 #[.int .i64 d.1, .slice a d.2.length c] := by rw [hw0]; exact Blk.new w _ _
  have hx0 := hx.step B0
  have f0 : w0.drew.cell? ⟨w.heap.size, 0, none⟩ = some (.int .i64 d.1) := K0.cell 0
  have f1 : w0.drew.cell? ⟨w.heap.size, 1, none⟩ = some (.slice a d.2.length c) := K0.cell 1
  have HW := Lib.hid hw0
  have HB := Lib.hid (And.intro B0 hx0)
  have HU := Lib.hid hu
  clear hw0 K0 B0 hx0 hx hu
  go_enter Try.func80, Try.ntmps80
  go_upto_region 1 with fail
  rw [← HW.out]
  clear HW
  generalize w.heap.size = G at f0 f1
  have hnl := pNum_length d.1
  go_region_held3 (fun w' => w'.cell? ⟨G, 0, none⟩ = some (.int .i64 d.1) ∧ w'.cell? ⟨G, 1, none⟩ = some (.slice a d.2.length c)) (first | (with_reducible exact ⟨f0, f1⟩) | (with_reducible exact ⟨y0, y1⟩) | (with_reducible exact ⟨z0, z1⟩))
    (first
    | (go_at_call 77; (with_reducible refine (putNumber_any l d.1 _ (by omega)).mono ?_); rintro e2 w2 ⟨rfl, b2⟩; have y0 := cell_keep f0 b2; have y1 := cell_keep f1 b2)
    | (go_at_call 74; (with_reducible refine (put_list (l ++ pNum d.1) a c d.2 _ (HB.out.2.step (below_dr b2)) HU.out hlen hn (by rw [List.length_append]; omega)).mono ?_); rintro e3 w3 ⟨rfl, b3⟩; have z0 := cell_keep y0 b3; have z1 := cell_keep y1 b3))
  go_wp2_with fail
  go_ret
  exact ⟨ret1 (str_eq (by simp [pDeal])), step_below HB.out.1 (step_below (below_dr b2) b3)⟩

set_option maxRecDepth 100000 in
set_option maxHeartbeats 400000 in
theorem put_deal (l : List UInt8) (a : Option Addr) (c : Nat) (xs : List Dl) (w : World) (hx : NDls w w.heap.size a xs) (hu : ∀ d ∈ xs, Us d.2 ∧ d.2.length ≤ 255 ∧ ∀ l ∈ d.2, l.length ≤ 5000) (hn : xs.length ≤ 255) (hl : l.length + 600000000 ≤ 140737488355328) :
    Calls Try.prog 79 #[.string ⟨l.toArray⟩, .slice a xs.length c, .func (.func 80) #[] #[]] w fun e w' => e = .returned (.string ⟨(l ++ pMany pDeal xs).toArray⟩) ∧ Below w.heap.size w w' := by
  have hbl := be_length xs.length 1
  go_enter Try.func79, Try.ntmps79
  go_wp2_with fail
  refine (byte_nat l xs.length w hn (by omega)).mono ?_
  rintro e w1 ⟨rfl, b1⟩
  go_wp2_with fail
  go_loopw [0, 16] (fun u v wr => ∃ j : Nat, j ≤ xs.length ∧ v = .int .i64 j ∧ u = .string ⟨(l ++ be xs.length 1 ++ pEach pDeal (xs.take j)).toArray⟩ ∧ Below w.heap.size w wr) (fun _ v _ => xs.length - (intOf v).toNat)
  case atStart => exact ⟨0, Nat.zero_le _, rfl, by simp [pEach], b1⟩
  case round =>
    obtain ⟨j, hj, rfl, rfl, hB⟩ := hrel
    by_cases hlt : j < xs.length
    · obtain ⟨x, hxj⟩ : ∃ x, xs[j]? = some x := ⟨_, List.getElem?_eq_getElem hlt⟩
      have hmem := List.mem_of_getElem? hxj
      have hps := pEach_le pDeal 2100000 (xs.take j) fun x hx => pDeal_le (hu x (List.mem_of_mem_take hx)).2.1
      rw [List.length_take_of_le hj] at hps
      have HX := Lib.hid (pEach_take pDeal hxj)
      have hjI : (j : Int) < (xs.length : Int) := by omega
      have HO := Lib.hid (hu x hmem)
      rcases hx.kept hB (Nat.le_refl _) with h0 | ⟨b, o, rfl, hbl, hc⟩
      · rw [h0] at hlt; simp at hlt
      obtain ⟨a', c', hc0, hc1, hnum⟩ := hc j x hxj
      have HN := Lib.hid ((hnum.more hB.size).step ((Below.refl _ wr).alloc (Nat.le_refl _) (.cells #[.int .i64 x.1, .slice a' x.2.length c'] 58)))
      clear hxj hc hmem hnum
      go_wp2_with fail
      refine (putDeal_any _ x a' c' _ HN.out HO.out.1 HO.out.2.1 HO.out.2.2 (by simp only [List.length_append]; omega)).mono ?_
      rintro e w3 ⟨rfl, b3⟩
      go_wp2_with fail
      go_roundw
      case rel => exact ⟨j + 1, by omega, by go_num, by rw [HX.out]; simp, step_below hB (step_below ((Below.refl _ wr).alloc (Nat.le_refl _) _) b3)⟩
      case measure => simp [intOf]; omega
    · have hje : j = xs.length := by omega
      subst hje
      go_wp2_with fail
      go_ret
      exact ⟨ret1 (str_eq (by simp [pMany])), hB⟩
end Go.Proofs.Ytdnkijljpmcejaa
