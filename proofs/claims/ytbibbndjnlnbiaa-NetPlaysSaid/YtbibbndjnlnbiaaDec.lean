/-
  msg.Decode.
-/
import Derived.Test.YtbibbndjnlnbiaaEnc
namespace Go.Proofs.Ytbibbndjnlnbiaa
open Go.RowKit

/-- So many whole numbers, read one behind the other. -/
def readN : Nat → RS → List Int × RS
  | 0, st => ([], st)
  | j + 1, st => ((readN j st).1 ++ [(rdInt (readN j st).2).1], (rdInt (readN j st).2).2)
theorem readN_length : ∀ (j : Nat) (st : RS), (readN j st).1.length = j
  | 0, _ => rfl
  | j + 1, st => by simp [readN, readN_length j st]
/-- The cells of a message of which a Kind, and some whole numbers, were read. -/
def partCells (k : Int) (xs : List Int) : Array Value := (Value.int .u8 k :: (((xs ++ List.replicate (8 - xs.length) 0).map (Value.int .i64)) ++ [.string ⟨#[]⟩, .slice none 0 0])).toArray
theorem part_set (k x : Int) : ∀ (xs : List Int), xs.length < 8 → (partCells k xs).setIfInBounds (xs.length + 1) (.int .i64 x) = partCells k (xs ++ [x])
  | [], _ | [_], _ | [_, _], _ | [_, _, _], _ | [_, _, _, _], _ | [_, _, _, _, _], _ | [_, _, _, _, _, _], _ | [_, _, _, _, _, _, _], _ => rfl
  | _ :: _ :: _ :: _ :: _ :: _ :: _ :: _ :: _, h => by
    simp at h
    omega
theorem part_cell (k : Int) : ∀ (xs : List Int), xs.length < 8 → (partCells k xs)[xs.length + 1]? = some (.int .i64 0)
  | [], _ | [_], _ | [_, _], _ | [_, _, _], _ | [_, _, _, _], _ | [_, _, _, _, _], _ | [_, _, _, _, _, _], _ | [_, _, _, _, _, _, _], _ => rfl
  | _ :: _ :: _ :: _ :: _ :: _ :: _ :: _ :: _, h => by
    simp at h
    omega
theorem read_at (st : RS) : ∃ a b1 b2 b3 b4 b5 b6 b7 b8 : Int, ∃ st1 st2 st3 : RS, st.num 1 = (a, st1) ∧ readN 8 st1 = ([b1, b2, b3, b4, b5, b6, b7, b8], st2) ∧ st3 = st2.text.2 ∧
    Mg.read st = (⟨a, b1, b2, b3, b4, b5, b6, b7, b8, st2.text.1, st3.list.1⟩, st3.list.2) :=
  ⟨_, _, _, _, _, _, _, _, _, _, _, _, rfl, rfl, rfl, rfl⟩

/-- Eleven cells of a block, one behind the other. -/
def set11 (w : World) (R : Nat) (v0 v1 v2 v3 v4 v5 v6 v7 v8 v9 v10 : Value) : World :=
  ((((((((((w.setCell ⟨R, 0, none⟩ v0).setCell ⟨R, 1, none⟩ v1).setCell ⟨R, 2, none⟩ v2).setCell ⟨R, 3, none⟩ v3).setCell ⟨R, 4, none⟩ v4).setCell ⟨R, 5, none⟩ v5).setCell ⟨R, 6, none⟩ v6).setCell ⟨R, 7, none⟩ v7).setCell ⟨R, 8, none⟩ v8).setCell ⟨R, 9, none⟩ v9).setCell ⟨R, 10, none⟩ v10
theorem set11_below {w a : World} {B R : Nat} (h : Below B a w) (hR : B ≤ R) (v0 v1 v2 v3 v4 v5 v6 v7 v8 v9 v10 : Value) : Below B a (set11 w R v0 v1 v2 v3 v4 v5 v6 v7 v8 v9 v10) :=
  ((((((((((h.setCell (p := ⟨R, 0, none⟩) hR v0).setCell (p := ⟨R, 1, none⟩) hR v1).setCell (p := ⟨R, 2, none⟩) hR v2).setCell (p := ⟨R, 3, none⟩) hR v3).setCell (p := ⟨R, 4, none⟩) hR v4).setCell (p := ⟨R, 5, none⟩) hR v5).setCell (p := ⟨R, 6, none⟩) hR v6).setCell (p := ⟨R, 7, none⟩) hR v7).setCell (p := ⟨R, 8, none⟩) hR v8).setCell (p := ⟨R, 9, none⟩) hR v9).setCell (p := ⟨R, 10, none⟩) hR v10
theorem set11_own {w : World} {base R : Nat} {e t : TypeId} {cs : Array Value} {size n : Nat} {v : Value} {xs : List Value} (h : w.ownsRow base e size v n xs) (hg : Blk w R t cs) (hne : e ≠ t) (v0 v1 v2 v3 v4 v5 v6 v7 v8 v9 v10 : Value) : (set11 w R v0 v1 v2 v3 v4 v5 v6 v7 v8 v9 v10).ownsRow base e size v n xs :=
  have d0 := own_setc (i := 0) h hg hne v0
  have g0 := hg.set_ 0 v0
  have d1 := own_setc (i := 1) d0 g0 hne v1
  have g1 := g0.set_ 1 v1
  have d2 := own_setc (i := 2) d1 g1 hne v2
  have g2 := g1.set_ 2 v2
  have d3 := own_setc (i := 3) d2 g2 hne v3
  have g3 := g2.set_ 3 v3
  have d4 := own_setc (i := 4) d3 g3 hne v4
  have g4 := g3.set_ 4 v4
  have d5 := own_setc (i := 5) d4 g4 hne v5
  have g5 := g4.set_ 5 v5
  have d6 := own_setc (i := 6) d5 g5 hne v6
  have g6 := g5.set_ 6 v6
  have d7 := own_setc (i := 7) d6 g6 hne v7
  have g7 := g6.set_ 7 v7
  have d8 := own_setc (i := 8) d7 g7 hne v8
  have g8 := g7.set_ 8 v8
  have d9 := own_setc (i := 9) d8 g8 hne v9
  have g9 := g8.set_ 9 v9
  have d10 := own_setc (i := 10) d9 g9 hne v10
  d10

/-- The message of bytes, and what was wrong: the list in new memory. -/
def DecPost (s : List UInt8) (w : World) (e : Ending) (w' : World) : Prop :=
  ∃ a c, e = .returned (.tuple #[(mdec s).1.val a c, .int .i64 (mdec s).2]) ∧ w'.ownsRow w.heap.size 56 1 (.slice a (mdec s).1.l.length c) (mdec s).1.l.length ((mdec s).1.l.map (.int .u64)) ∧ Below w.heap.size w w'

def zeroCells : Array Value := #[.int .u8 0, .int .i64 0, .int .i64 0, .int .i64 0, .int .i64 0, .int .i64 0, .int .i64 0, .int .i64 0, .int .i64 0, .string ⟨#[]⟩, .slice none 0 0]

set_option maxRecDepth 100000 in
set_option maxHeartbeats 4000000 in
theorem decode_any (s : List UInt8) (w : World) :
    Calls Try.prog 39 #[.string ⟨s.toArray⟩] w (DecPost s w) := by
  have R0 := Blk.new w 32 zeroCells
  have M0 := Blk.new (w.alloc (.cells zeroCells 32)) 32 zeroCells
  have R1 := R0.alloc (.cells zeroCells 32)
  have B1 : Below w.heap.size w ((w.alloc (.cells zeroCells 32)).alloc (.cells zeroCells 32)) := ((Below.refl _ w).alloc (Nat.le_refl _) _).alloc (by simp) _
  simp only [asz] at M0
  obtain ⟨w1, hw1⟩ : ∃ w1, w1 = (w.alloc (.cells zeroCells 32)).alloc (.cells zeroCells 32) := ⟨_, rfl⟩
  rw [← hw1] at M0 R1 B1
  unfold zeroCells at hw1
  have HW := Lib.hid hw1
  clear hw1 R0
  obtain ⟨k, b1, b2, b3, b4, b5, b6, b7, b8, st1, st2, st3, hk, h8, hst3, hrd⟩ := read_at ⟨s, 0⟩
  have HR := Lib.hid hrd
  have H8 := Lib.hid h8
  have HK := Lib.hid hk
  have HS3 := Lib.hid hst3
  clear hrd h8 hk hst3
  go_enter Try.func39, Try.ntmps39
  go_wp2_with fail
  rw [← HW.out]
  refine (open_any s w1).mono ?_
  rintro e w2 ⟨rfl, D2, c2⟩
  have M2 := M0.kept c2
  have R2 := R1.kept c2
  have B2 := step_below B1 c2
  have lD : w.heap.size + 1 < w1.heap.size := M0.lt
  generalize w1.heap.size = D at *
  clear M0 R1 B1 c2 HW
  go_wp2_with fail
  have hby := Byte_any D ⟨s, 0⟩ w2 D2
  rw [HK.out] at hby
  refine hby.mono ?_
  clear hby
  rintro e w3 ⟨rfl, D3, o3⟩
  have M3 := M2.grown o3 (some_ne (by omega))
  have R3 := R2.grown o3 (some_ne (by omega))
  have B3 := step_only B2 o3 (by omega)
  have m0 : w3.cell? ⟨w.heap.size + 1, 0, none⟩ = some (.int .u8 0) := M3.cell 0
  have n0 : w3.frozen? ⟨w.heap.size + 1, 0, none⟩ = false := M3.frozen 0
  clear M2 R2 B2 D2 o3
  go_wp2_with fail
  have M4 : Blk (w3.setCell ⟨w.heap.size + 1, 0, none⟩ (.int .u8 k)) (w.heap.size + 1) 32 (partCells k []) := M3.set_ 0 (.int .u8 k)
  have R4 := R3.farc (c := w.heap.size + 1) (i := 0) (by omega) (.int .u8 k)
  have D4 := Blk.farc D3 (c := w.heap.size + 1) (i := 0) (by omega) (.int .u8 k)
  have B4 : Below w.heap.size w (w3.setCell ⟨w.heap.size + 1, 0, none⟩ (.int .u8 k)) := B3.setCell (p := ⟨w.heap.size + 1, 0, none⟩) (by simp) _
  clear m0 n0 M3 R3 B3 D3
  generalize (w3.setCell ⟨w.heap.size + 1, 0, none⟩ (.int .u8 k)) = w4 at *
  refine (places_any (w.heap.size + 1) w4).mono ?_
  rintro e w5 ⟨rfl, P5, c5⟩
  have M5 := M4.kept c5
  have R5 := R4.kept c5
  have D5 := rd_kept D4 c5
  have B5 := step_below B4 c5
  have lP : D < w4.heap.size := Blk.lt D4
  generalize w4.heap.size = P at *
  clear M4 R4 D4 B4 c5
  go_wp2_with fail
  go_loopw [21] (fun i wr => ∃ j : Nat, j ≤ 8 ∧ i = .int .i64 j ∧ Blk wr (w.heap.size + 1) 32 (partCells k (readN j st1).1) ∧ RdAt D (readN j st1).2 wr ∧ Below w.heap.size w wr ∧ Blk wr P 82 (placeCells (w.heap.size + 1)) ∧ Blk wr w.heap.size 32 zeroCells) (fun i _ => 8 - (intOf i).toNat)
  case atStart => exact ⟨0, Nat.zero_le _, rfl, M5, D5, B5, P5, R5⟩
  case round =>
    clear M5 R5 D5 B5 P5
    obtain ⟨j, hj, rfl, hM, hD, hB, hP, hR⟩ := hrel
    by_cases hlt : j < 8
    · have p1 : wr.cell? ⟨P, j, none⟩ = some (.pointer (some ⟨w.heap.size + 1, j + 1, none⟩)) := by rw [Blk.cell hP]; exact place_cell _ hlt
      have HPS := Lib.hid (part_set k (rdInt (readN j st1).2).1 (readN j st1).1 (by rw [readN_length]; exact hlt))
      have HPC := Lib.hid (part_cell k (readN j st1).1 (by rw [readN_length]; exact hlt))
      rw [readN_length] at HPS HPC
      go_wp2_with fail
      refine (Int_any D _ _ hD).mono ?_
      rintro e w6 ⟨rfl, hD6, o6⟩
      have hM6 := hM.grown o6 (some_ne (by omega))
      have hR6 := hR.grown o6 (some_ne (by omega))
      have hP6 := hP.grown o6 (some_ne (by omega))
      have hB6 := step_only hB o6 (by omega)
      have q1 : w6.cell? ⟨w.heap.size + 1, j + 1, none⟩ = some (.int .i64 0) := by rw [Blk.cell hM6]; exact HPC.out
      have q2 : w6.frozen? ⟨w.heap.size + 1, j + 1, none⟩ = false := hM6.frozen (j + 1)
      clear hM hR hP hB hD o6 p1
      go_wp2_with fail
      go_roundw
      case rel =>
        refine ⟨j + 1, by omega, by go_num, ?_, Blk.farc hD6 (by omega) _, hB6.setCell (p := ⟨w.heap.size + 1, j + 1, none⟩) (by simp) _, hP6.farc (by omega) _, hR6.farc (by omega) _⟩
        have := hM6.set_ (j + 1) (.int .i64 (rdInt (readN j st1).2).1)
        rw [HPS.out] at this
        exact this
      case measure => simp [intOf]; omega
    · have hje : j = 8 := by omega
      subst hje
      rw [H8.out] at hM hD
      dsimp only at hM hD
      go_wp2_with fail
      refine (Text_any D _ _ hD).mono ?_
      rintro e w6 ⟨rfl, hD6, o6⟩
      rw [← HS3.out] at hD6
      have hM6 := hM.grown o6 (some_ne (by omega))
      have hR6 := hR.grown o6 (some_ne (by omega))
      have hB6 := step_only hB o6 (by omega)
      have q1 : w6.cell? ⟨w.heap.size + 1, 9, none⟩ = some (.string ⟨#[]⟩) := hM6.cell 9
      have q2 : w6.frozen? ⟨w.heap.size + 1, 9, none⟩ = false := hM6.frozen 9
      clear hM hR hP hB hD o6
      go_wp2_with fail
      have hM7 : Blk (w6.setCell ⟨w.heap.size + 1, 9, none⟩ (.string ⟨st2.text.1.toArray⟩)) (w.heap.size + 1) 32 #[.int .u8 k, .int .i64 b1, .int .i64 b2, .int .i64 b3, .int .i64 b4, .int .i64 b5, .int .i64 b6, .int .i64 b7, .int .i64 b8, .string ⟨st2.text.1.toArray⟩, .slice none 0 0] := hM6.set_ 9 _
      have hR7 := hR6.farc (c := w.heap.size + 1) (i := 9) (by omega) (.string ⟨st2.text.1.toArray⟩)
      have hD7 := Blk.farc hD6 (c := w.heap.size + 1) (i := 9) (by omega) (.string ⟨st2.text.1.toArray⟩)
      have hB7 : Below w.heap.size w (w6.setCell ⟨w.heap.size + 1, 9, none⟩ (.string ⟨st2.text.1.toArray⟩)) := hB6.setCell (p := ⟨w.heap.size + 1, 9, none⟩) (by simp) _
      clear hM6 hR6 hD6 hB6 q1 q2
      generalize (w6.setCell ⟨w.heap.size + 1, 9, none⟩ (.string ⟨st2.text.1.toArray⟩)) = w7 at *
      refine (List_any D _ _ hD7).mono ?_
      rintro e w8 ⟨xa, xc, rfl, own8, hD8, o8⟩
      have own8 := own_more own8 hB7.size
      have hM8 := hM7.grown o8 (some_ne (by omega))
      have hR8 := hR7.grown o8 (some_ne (by omega))
      have hB8 := step_only hB7 o8 (by omega)
      have q1 : w8.cell? ⟨w.heap.size + 1, 10, none⟩ = some (.slice none 0 0) := hM8.cell 10
      have q2 : w8.frozen? ⟨w.heap.size + 1, 10, none⟩ = false := hM8.frozen 10
      clear hM7 hR7 hD7 hB7 o8
      generalize st3.list.1 = xs at *
      go_wp2_with fail
      have hM9 : Blk (w8.setCell ⟨w.heap.size + 1, 10, none⟩ (.slice xa xs.length xc)) (w.heap.size + 1) 32 #[.int .u8 k, .int .i64 b1, .int .i64 b2, .int .i64 b3, .int .i64 b4, .int .i64 b5, .int .i64 b6, .int .i64 b7, .int .i64 b8, .string ⟨st2.text.1.toArray⟩, .slice xa xs.length xc] := hM8.set_ 10 _
      have hR9 := hR8.farc (c := w.heap.size + 1) (i := 10) (by omega) (.slice xa xs.length xc)
      have hD9 := Blk.farc hD8 (c := w.heap.size + 1) (i := 10) (by omega) (.slice xa xs.length xc)
      have own9 := own_setc (i := 10) own8 hM8 (by decide) (.slice xa xs.length xc)
      have hB9 : Below w.heap.size w (w8.setCell ⟨w.heap.size + 1, 10, none⟩ (.slice xa xs.length xc)) := hB8.setCell (p := ⟨w.heap.size + 1, 10, none⟩) (by simp) _
      clear hM8 hR8 hD8 hB8 own8 q1 q2
      generalize (w8.setCell ⟨w.heap.size + 1, 10, none⟩ (.slice xa xs.length xc)) = w9 at *
      refine (end_any D _ _ hD9).mono ?_
      rintro e wa ⟨rfl, -, oa⟩
      have hMa := hM9.grown oa (some_ne (by omega))
      have hRa := hR9.grown oa (some_ne (by omega))
      have owna := own9.kept oa (own_ne own9 hD9 (by decide))
      have hBa := step_only hB9 oa (by omega)
      clear hM9 hR9 hD9 hB9 own9 oa
      generalize hee : st3.list.2.fin.e = ee at *
      have hmd : mdec s = if ee = 0 then (if Mg.may ⟨k, b1, b2, b3, b4, b5, b6, b7, b8, st2.text.1, xs⟩ then (⟨k, b1, b2, b3, b4, b5, b6, b7, b8, st2.text.1, xs⟩, 0) else (Mg.zero, 4)) else (Mg.zero, ee) := by
        unfold mdec
        rw [HR.out]
        dsimp only
        rw [hee]
      have hkb := num1_le ⟨s, 0⟩
      rw [HK.out] at hkb
      dsimp only at hkb
      clear hee HR
      by_cases he : ee = 0
      · subst he
        rw [if_pos rfl] at hmd
        have mc0 : wa.cell? ⟨w.heap.size + 1, 0, none⟩ = some (.int .u8 k) := hMa.cell 0
        have mc1 : wa.cell? ⟨w.heap.size + 1, 1, none⟩ = some (.int .i64 b1) := hMa.cell 1
        have mc2 : wa.cell? ⟨w.heap.size + 1, 2, none⟩ = some (.int .i64 b2) := hMa.cell 2
        have mc3 : wa.cell? ⟨w.heap.size + 1, 3, none⟩ = some (.int .i64 b3) := hMa.cell 3
        have mc4 : wa.cell? ⟨w.heap.size + 1, 4, none⟩ = some (.int .i64 b4) := hMa.cell 4
        have mc5 : wa.cell? ⟨w.heap.size + 1, 5, none⟩ = some (.int .i64 b5) := hMa.cell 5
        have mc6 : wa.cell? ⟨w.heap.size + 1, 6, none⟩ = some (.int .i64 b6) := hMa.cell 6
        have mc7 : wa.cell? ⟨w.heap.size + 1, 7, none⟩ = some (.int .i64 b7) := hMa.cell 7
        have mc8 : wa.cell? ⟨w.heap.size + 1, 8, none⟩ = some (.int .i64 b8) := hMa.cell 8
        have mc9 : wa.cell? ⟨w.heap.size + 1, 9, none⟩ = some (.string ⟨st2.text.1.toArray⟩) := hMa.cell 9
        have mc10 : wa.cell? ⟨w.heap.size + 1, 10, none⟩ = some (.slice xa xs.length xc) := hMa.cell 10
        go_wp2_with fail
        refine (may_any ⟨k, b1, b2, b3, b4, b5, b6, b7, b8, st2.text.1, xs⟩ xa xc wa hkb).mono ?_
        rintro e wb ⟨rfl, cb⟩
        clear mc0 mc1 mc2 mc3 mc4 mc5 mc6 mc7 mc8 mc9 mc10
        have hMb := hMa.kept cb
        have hRb := hRa.kept cb
        have ownb := owna.kept (below_grown cb none) (by cases Value.ownBlock _ <;> simp)
        have hBb := step_below hBa cb
        clear hMa hRa owna hBa cb
        generalize hmay : Mg.may ⟨k, b1, b2, b3, b4, b5, b6, b7, b8, st2.text.1, xs⟩ = my at *
        have HMY := Lib.hid hmay
        clear hmay
        cases my with
        | false =>
          rw [if_neg (by simp)] at hmd
          have HD := Lib.hid hmd
          clear hmd
          have rc0 : wb.cell? ⟨w.heap.size, 0, none⟩ = some (.int .u8 0) := hRb.cell 0
          have rf0 : wb.frozen? ⟨w.heap.size, 0, none⟩ = false := hRb.frozen 0
          have rc1 : wb.cell? ⟨w.heap.size, 1, none⟩ = some (.int .i64 0) := hRb.cell 1
          have rf1 : wb.frozen? ⟨w.heap.size, 1, none⟩ = false := hRb.frozen 1
          have rc2 : wb.cell? ⟨w.heap.size, 2, none⟩ = some (.int .i64 0) := hRb.cell 2
          have rf2 : wb.frozen? ⟨w.heap.size, 2, none⟩ = false := hRb.frozen 2
          have rc3 : wb.cell? ⟨w.heap.size, 3, none⟩ = some (.int .i64 0) := hRb.cell 3
          have rf3 : wb.frozen? ⟨w.heap.size, 3, none⟩ = false := hRb.frozen 3
          have rc4 : wb.cell? ⟨w.heap.size, 4, none⟩ = some (.int .i64 0) := hRb.cell 4
          have rf4 : wb.frozen? ⟨w.heap.size, 4, none⟩ = false := hRb.frozen 4
          have rc5 : wb.cell? ⟨w.heap.size, 5, none⟩ = some (.int .i64 0) := hRb.cell 5
          have rf5 : wb.frozen? ⟨w.heap.size, 5, none⟩ = false := hRb.frozen 5
          have rc6 : wb.cell? ⟨w.heap.size, 6, none⟩ = some (.int .i64 0) := hRb.cell 6
          have rf6 : wb.frozen? ⟨w.heap.size, 6, none⟩ = false := hRb.frozen 6
          have rc7 : wb.cell? ⟨w.heap.size, 7, none⟩ = some (.int .i64 0) := hRb.cell 7
          have rf7 : wb.frozen? ⟨w.heap.size, 7, none⟩ = false := hRb.frozen 7
          have rc8 : wb.cell? ⟨w.heap.size, 8, none⟩ = some (.int .i64 0) := hRb.cell 8
          have rf8 : wb.frozen? ⟨w.heap.size, 8, none⟩ = false := hRb.frozen 8
          have rc9 : wb.cell? ⟨w.heap.size, 9, none⟩ = some (.string ⟨#[]⟩) := hRb.cell 9
          have rf9 : wb.frozen? ⟨w.heap.size, 9, none⟩ = false := hRb.frozen 9
          have rc10 : wb.cell? ⟨w.heap.size, 10, none⟩ = some (.slice none 0 0) := hRb.cell 10
          have rf10 : wb.frozen? ⟨w.heap.size, 10, none⟩ = false := hRb.frozen 10
          go_wp2_with fail
          refine bodyPost_ret (v := .tuple #[.agg #[.int .u8 0, .int .i64 0, .int .i64 0, .int .i64 0, .int .i64 0, .int .i64 0, .int .i64 0, .int .i64 0, .int .i64 0, .string ⟨#[]⟩, .slice none 0 0], .int .i64 4]) (by simp [results, Try.results39, go_sem, rc0, rc1, rc2, rc3, rc4, rc5, rc6, rc7, rc8, rc9, rc10]) rfl ?_
          refine ⟨none, 0, by rw [HD.out]; rfl, by rw [HD.out]; exact own_none _ _ _, set11_below hBb (Nat.le_refl _) _ _ _ _ _ _ _ _ _ _ _⟩
        | true =>
          rw [if_pos rfl] at hmd
          have HD := Lib.hid hmd
          clear hmd
          have rc0 : wb.cell? ⟨w.heap.size, 0, none⟩ = some (.int .u8 0) := hRb.cell 0
          have rf0 : wb.frozen? ⟨w.heap.size, 0, none⟩ = false := hRb.frozen 0
          have rc1 : wb.cell? ⟨w.heap.size, 1, none⟩ = some (.int .i64 0) := hRb.cell 1
          have rf1 : wb.frozen? ⟨w.heap.size, 1, none⟩ = false := hRb.frozen 1
          have rc2 : wb.cell? ⟨w.heap.size, 2, none⟩ = some (.int .i64 0) := hRb.cell 2
          have rf2 : wb.frozen? ⟨w.heap.size, 2, none⟩ = false := hRb.frozen 2
          have rc3 : wb.cell? ⟨w.heap.size, 3, none⟩ = some (.int .i64 0) := hRb.cell 3
          have rf3 : wb.frozen? ⟨w.heap.size, 3, none⟩ = false := hRb.frozen 3
          have rc4 : wb.cell? ⟨w.heap.size, 4, none⟩ = some (.int .i64 0) := hRb.cell 4
          have rf4 : wb.frozen? ⟨w.heap.size, 4, none⟩ = false := hRb.frozen 4
          have rc5 : wb.cell? ⟨w.heap.size, 5, none⟩ = some (.int .i64 0) := hRb.cell 5
          have rf5 : wb.frozen? ⟨w.heap.size, 5, none⟩ = false := hRb.frozen 5
          have rc6 : wb.cell? ⟨w.heap.size, 6, none⟩ = some (.int .i64 0) := hRb.cell 6
          have rf6 : wb.frozen? ⟨w.heap.size, 6, none⟩ = false := hRb.frozen 6
          have rc7 : wb.cell? ⟨w.heap.size, 7, none⟩ = some (.int .i64 0) := hRb.cell 7
          have rf7 : wb.frozen? ⟨w.heap.size, 7, none⟩ = false := hRb.frozen 7
          have rc8 : wb.cell? ⟨w.heap.size, 8, none⟩ = some (.int .i64 0) := hRb.cell 8
          have rf8 : wb.frozen? ⟨w.heap.size, 8, none⟩ = false := hRb.frozen 8
          have rc9 : wb.cell? ⟨w.heap.size, 9, none⟩ = some (.string ⟨#[]⟩) := hRb.cell 9
          have rf9 : wb.frozen? ⟨w.heap.size, 9, none⟩ = false := hRb.frozen 9
          have rc10 : wb.cell? ⟨w.heap.size, 10, none⟩ = some (.slice none 0 0) := hRb.cell 10
          have rf10 : wb.frozen? ⟨w.heap.size, 10, none⟩ = false := hRb.frozen 10
          have mc0 : wb.cell? ⟨w.heap.size + 1, 0, none⟩ = some (.int .u8 k) := hMb.cell 0
          have mc1 : wb.cell? ⟨w.heap.size + 1, 1, none⟩ = some (.int .i64 b1) := hMb.cell 1
          have mc2 : wb.cell? ⟨w.heap.size + 1, 2, none⟩ = some (.int .i64 b2) := hMb.cell 2
          have mc3 : wb.cell? ⟨w.heap.size + 1, 3, none⟩ = some (.int .i64 b3) := hMb.cell 3
          have mc4 : wb.cell? ⟨w.heap.size + 1, 4, none⟩ = some (.int .i64 b4) := hMb.cell 4
          have mc5 : wb.cell? ⟨w.heap.size + 1, 5, none⟩ = some (.int .i64 b5) := hMb.cell 5
          have mc6 : wb.cell? ⟨w.heap.size + 1, 6, none⟩ = some (.int .i64 b6) := hMb.cell 6
          have mc7 : wb.cell? ⟨w.heap.size + 1, 7, none⟩ = some (.int .i64 b7) := hMb.cell 7
          have mc8 : wb.cell? ⟨w.heap.size + 1, 8, none⟩ = some (.int .i64 b8) := hMb.cell 8
          have mc9 : wb.cell? ⟨w.heap.size + 1, 9, none⟩ = some (.string ⟨st2.text.1.toArray⟩) := hMb.cell 9
          have mc10 : wb.cell? ⟨w.heap.size + 1, 10, none⟩ = some (.slice xa xs.length xc) := hMb.cell 10
          go_wp2_with fail
          refine bodyPost_ret (v := .tuple #[.agg #[.int .u8 k, .int .i64 b1, .int .i64 b2, .int .i64 b3, .int .i64 b4, .int .i64 b5, .int .i64 b6, .int .i64 b7, .int .i64 b8, .string ⟨st2.text.1.toArray⟩, .slice xa xs.length xc], .int .i64 0]) (by simp [results, Try.results39, go_sem, rc0, rc1, rc2, rc3, rc4, rc5, rc6, rc7, rc8, rc9, rc10]) rfl ?_
          refine ⟨xa, xc, by rw [HD.out]; rfl, by rw [HD.out]; exact set11_own ownb hRb (by decide) _ _ _ _ _ _ _ _ _ _ _, set11_below hBb (Nat.le_refl _) _ _ _ _ _ _ _ _ _ _ _⟩
      · rw [if_neg he] at hmd
        have he1 : (ee != 0) = true := by simpa using he
        have HD := Lib.hid hmd
        clear hmd he
        have rc0 : wa.cell? ⟨w.heap.size, 0, none⟩ = some (.int .u8 0) := hRa.cell 0
        have rf0 : wa.frozen? ⟨w.heap.size, 0, none⟩ = false := hRa.frozen 0
        have rc1 : wa.cell? ⟨w.heap.size, 1, none⟩ = some (.int .i64 0) := hRa.cell 1
        have rf1 : wa.frozen? ⟨w.heap.size, 1, none⟩ = false := hRa.frozen 1
        have rc2 : wa.cell? ⟨w.heap.size, 2, none⟩ = some (.int .i64 0) := hRa.cell 2
        have rf2 : wa.frozen? ⟨w.heap.size, 2, none⟩ = false := hRa.frozen 2
        have rc3 : wa.cell? ⟨w.heap.size, 3, none⟩ = some (.int .i64 0) := hRa.cell 3
        have rf3 : wa.frozen? ⟨w.heap.size, 3, none⟩ = false := hRa.frozen 3
        have rc4 : wa.cell? ⟨w.heap.size, 4, none⟩ = some (.int .i64 0) := hRa.cell 4
        have rf4 : wa.frozen? ⟨w.heap.size, 4, none⟩ = false := hRa.frozen 4
        have rc5 : wa.cell? ⟨w.heap.size, 5, none⟩ = some (.int .i64 0) := hRa.cell 5
        have rf5 : wa.frozen? ⟨w.heap.size, 5, none⟩ = false := hRa.frozen 5
        have rc6 : wa.cell? ⟨w.heap.size, 6, none⟩ = some (.int .i64 0) := hRa.cell 6
        have rf6 : wa.frozen? ⟨w.heap.size, 6, none⟩ = false := hRa.frozen 6
        have rc7 : wa.cell? ⟨w.heap.size, 7, none⟩ = some (.int .i64 0) := hRa.cell 7
        have rf7 : wa.frozen? ⟨w.heap.size, 7, none⟩ = false := hRa.frozen 7
        have rc8 : wa.cell? ⟨w.heap.size, 8, none⟩ = some (.int .i64 0) := hRa.cell 8
        have rf8 : wa.frozen? ⟨w.heap.size, 8, none⟩ = false := hRa.frozen 8
        have rc9 : wa.cell? ⟨w.heap.size, 9, none⟩ = some (.string ⟨#[]⟩) := hRa.cell 9
        have rf9 : wa.frozen? ⟨w.heap.size, 9, none⟩ = false := hRa.frozen 9
        have rc10 : wa.cell? ⟨w.heap.size, 10, none⟩ = some (.slice none 0 0) := hRa.cell 10
        have rf10 : wa.frozen? ⟨w.heap.size, 10, none⟩ = false := hRa.frozen 10
        go_wp2_with fail
        refine bodyPost_ret (v := .tuple #[.agg #[.int .u8 0, .int .i64 0, .int .i64 0, .int .i64 0, .int .i64 0, .int .i64 0, .int .i64 0, .int .i64 0, .int .i64 0, .string ⟨#[]⟩, .slice none 0 0], .int .i64 ee]) (by simp [results, Try.results39, go_sem, rc0, rc1, rc2, rc3, rc4, rc5, rc6, rc7, rc8, rc9, rc10]) rfl ?_
        refine ⟨none, 0, by rw [HD.out]; rfl, by rw [HD.out]; exact own_none _ _ _, set11_below hBa (Nat.le_refl _) _ _ _ _ _ _ _ _ _ _ _⟩
end Go.Proofs.Ytbibbndjnlnbiaa
