/-
  consistoryref14.Decode.
-/
import Derived.Test.YtbibbndjnlnbiaaDec
import Derived.Test.YtbibbndjnlnbiaaRefRM
namespace Go.Proofs.Ytbibbndjnlnbiaa
open Go.RowKit

theorem rr_kept {g : Nat} {st : RS} {w w' : World} (h : RrAt g st w) (b : Below w.heap.size w w') : RrAt g st w' := Blk.kept h b

set_option maxRecDepth 100000 in
set_option maxHeartbeats 4000000 in
theorem rdecode_any (s : List UInt8) (w : World) :
    Calls Try.prog 46 #[.string ⟨s.toArray⟩] w (DecPost s w) := by
  have R1 := Blk.new w 32 zeroCells
  have B1 : Below w.heap.size w (w.alloc (.cells zeroCells 32)) := (Below.refl _ w).alloc (Nat.le_refl _) _
  obtain ⟨w1, hw1⟩ : ∃ w1, w1 = w.alloc (.cells zeroCells 32) := ⟨_, rfl⟩
  rw [← hw1] at R1 B1
  unfold zeroCells at hw1
  have HW := Lib.hid hw1
  clear hw1
  obtain ⟨k, b1, b2, b3, b4, b5, b6, b7, b8, st1, st2, st3, hk, h8, hst3, hrd⟩ := read_at ⟨s, 0⟩
  have HR := Lib.hid hrd
  have H8 := Lib.hid h8
  have HK := Lib.hid hk
  have HS3 := Lib.hid hst3
  clear hrd h8 hk hst3
  go_enter Try.func46, Try.ntmps46
  go_wp2_with fail
  rw [← HW.out]
  refine (ropen_any s w1).mono ?_
  rintro e w2 ⟨rfl, D2, c2⟩
  have R2 := R1.kept c2
  have B2 := step_below B1 c2
  have lD : w.heap.size < w1.heap.size := R1.lt
  have lM : w1.heap.size < w2.heap.size := Blk.lt D2
  have M2 := Blk.new w2 32 zeroCells
  have R2' := R2.alloc (.cells zeroCells 32)
  have D2' := Blk.alloc D2 (.cells zeroCells 32)
  have B2' := B2.alloc B2.size (.cells zeroCells 32)
  obtain ⟨wz, hwz⟩ : ∃ wz, wz = w2.alloc (.cells zeroCells 32) := ⟨_, rfl⟩
  rw [← hwz] at M2 R2' D2' B2'
  unfold zeroCells at hwz
  have HW2 := Lib.hid hwz
  clear hwz R1 R2 B1 B2 c2 HW D2
  generalize w1.heap.size = D at *
  go_wp2_with fail
  generalize w2.heap.size = M at *
  rw [← HW2.out]
  clear HW2
  have hby := rByte_any D ⟨s, 0⟩ wz D2'
  rw [HK.out] at hby
  refine hby.mono ?_
  clear hby
  rintro e w3 ⟨rfl, D3, o3⟩
  have M3 := M2.grown o3 (some_ne (by omega))
  have R3 := R2'.grown o3 (some_ne (by omega))
  have B3 := step_only B2' o3 (by omega)
  have m0 : w3.cell? ⟨M, 0, none⟩ = some (.int .u8 0) := M3.cell 0
  have n0 : w3.frozen? ⟨M, 0, none⟩ = false := M3.frozen 0
  clear M2 R2' B2' D2' o3
  go_wp2_with fail
  have M5 : Blk (w3.setCell ⟨M, 0, none⟩ (.int .u8 k)) M 32 (partCells k []) := M3.set_ 0 (.int .u8 k)
  have R5 := R3.farc (c := M) (i := 0) (by omega) (.int .u8 k)
  have D5 := Blk.farc D3 (c := M) (i := 0) (by omega) (.int .u8 k)
  have B5 : Below w.heap.size w (w3.setCell ⟨M, 0, none⟩ (.int .u8 k)) := B3.setCell (p := ⟨M, 0, none⟩) (by simp; omega) _
  clear m0 n0 M3 R3 B3 D3
  generalize (w3.setCell ⟨M, 0, none⟩ (.int .u8 k)) = w5 at *
  go_loopw [6, 7] (fun x i wr => ∃ j : Nat, j ≤ 8 ∧ i = .int .i64 j ∧ wr.ownsRow w.heap.size 3 1 x j ((readN j st1).1.map (.int .i64)) ∧ Blk wr M 32 (partCells k []) ∧ RrAt D (readN j st1).2 wr ∧ Below w.heap.size w wr ∧ Blk wr w.heap.size 32 zeroCells) (fun _ i _ => 8 - (intOf i).toNat)
  case atStart => exact ⟨0, Nat.zero_le _, rfl, World.ownsRow_nil _ _ _ _, M5, D5, B5, R5⟩
  case round =>
    clear M5 R5 D5 B5
    obtain ⟨j, hj, rfl, hown, hM, hD, hB, hR⟩ := hrel
    by_cases hlt : j < 8
    · obtain ⟨ea, ec, rfl⟩ := own_slice hown
      go_wp2_with fail
      refine (rInt_any D _ _ hD).mono ?_
      rintro e w6 ⟨rfl, hD6, o6⟩
      have hM6 := hM.grown o6 (some_ne (by omega))
      have hR6 := hR.grown o6 (some_ne (by omega))
      have hB6 := step_only hB o6 (by omega)
      have hown6 := hown.kept o6 (own_ne hown hD (by decide))
      clear hM hR hB hD o6 hown
      obtain ⟨i0, hi, hz0, hz1, hz2⟩ := info_parts infoInt
      have hx : wrap64 (RS.num 8 (readN j st1).2).1 = (rdInt (readN j st1).2).1 := rfl
      rw [hx]
      clear hx
      generalize hy : (rdInt (readN j st1).2).1 = y at *
      have HY := Lib.hid hy
      clear hy
      go_wp2_with (at_builtin; refine wpList_append_own_at _ rfl (.tmp 28) (.tmp 30) 46 rfl w.heap.size 3 i0 (.int .i64 0) 1 8 Try.underlying46 hi hz0 hz1 hz2 rfl (by decide) _ _ _ rfl (hown6.alloc _) ⟨w6.heap.size, 0, none⟩ 1 1 [.int .i64 y] rfl rfl (cell_one_new _ _ _) ?_ ?_ ?_ ?_ ?_)
      case refine_1 => intro u hu; simp at hu; subst hu; rfl
      case refine_2 => simp only [maxLen]; omega
      case refine_3 => omega
      case refine_4 => simp only [asz]; have := hB6.size; omega
      intro v' w7 hown7 hg7 _ hat7
      obtain ⟨xa', xc', rfl⟩ := own_slice hown7
      have hB7 := (hB6.alloc hB6.size (.cells #[.int .i64 y] 3)).grown hg7 (by simp only [asz]; have := hB6.size; omega) (own_lt hown6)
      have hM7 := (hM6.alloc (.cells #[.int .i64 y] 3)).grown hg7 (own_ne' hown6 hM6 (by decide))
      have hR7 := (hR6.alloc (.cells #[.int .i64 y] 3)).grown hg7 (own_ne' hown6 hR6 (by decide))
      have hD7 := (Blk.alloc hD6 (.cells #[.int .i64 y] 3)).grown hg7 (own_ne' hown6 hD6 (by decide))
      clear hB6 hM6 hR6 hD6 hown6 hg7 hat7 hi hz0 hz1 hz2
      go_wp2_with fail
      go_roundw
      case rel =>
        refine ⟨j + 1, by omega, by go_num, ?_, hM7, hD7, hB7, hR7⟩
        have e : (readN (j + 1) st1).1.map (Value.int .i64) = (readN j st1).1.map (.int .i64) ++ [.int .i64 y] := by rw [← HY.out]; simp [readN]
        rw [e]
        exact hown7
      case measure => simp [intOf]; omega
    · have hje : j = 8 := by omega
      subst hje
      rw [H8.out] at hD hown
      dsimp only at hD hown
      obtain ⟨q, qc, rfl⟩ := own_form hown (by decide)
      have q0 : wr.cell? ⟨q, 0, none⟩ = some (.int .i64 b1) := own_cell (xs := [b1, b2, b3, b4, b5, b6, b7, b8]) hown rfl
      have q1 : wr.cell? ⟨q, 1, none⟩ = some (.int .i64 b2) := own_cell (xs := [b1, b2, b3, b4, b5, b6, b7, b8]) hown rfl
      have q2 : wr.cell? ⟨q, 2, none⟩ = some (.int .i64 b3) := own_cell (xs := [b1, b2, b3, b4, b5, b6, b7, b8]) hown rfl
      have q3 : wr.cell? ⟨q, 3, none⟩ = some (.int .i64 b4) := own_cell (xs := [b1, b2, b3, b4, b5, b6, b7, b8]) hown rfl
      have q4 : wr.cell? ⟨q, 4, none⟩ = some (.int .i64 b5) := own_cell (xs := [b1, b2, b3, b4, b5, b6, b7, b8]) hown rfl
      have q5 : wr.cell? ⟨q, 5, none⟩ = some (.int .i64 b6) := own_cell (xs := [b1, b2, b3, b4, b5, b6, b7, b8]) hown rfl
      have q6 : wr.cell? ⟨q, 6, none⟩ = some (.int .i64 b7) := own_cell (xs := [b1, b2, b3, b4, b5, b6, b7, b8]) hown rfl
      have q7 : wr.cell? ⟨q, 7, none⟩ = some (.int .i64 b8) := own_cell (xs := [b1, b2, b3, b4, b5, b6, b7, b8]) hown rfl
      have hqM : q ≠ M := by
        rcases own_ne hown hM (by decide) with h0 | h0
        · simp [Value.ownBlock] at h0
        · simpa [Value.ownBlock] using h0
      have hMq : M ≠ q := Ne.symm hqM
      have x1 : wr.cell? ⟨M, 1, none⟩ = some (.int .i64 0) := hM.cell 1
      have y1 : wr.frozen? ⟨M, 1, none⟩ = false := hM.frozen 1
      have x2 : wr.cell? ⟨M, 2, none⟩ = some (.int .i64 0) := hM.cell 2
      have y2 : wr.frozen? ⟨M, 2, none⟩ = false := hM.frozen 2
      have x3 : wr.cell? ⟨M, 3, none⟩ = some (.int .i64 0) := hM.cell 3
      have y3 : wr.frozen? ⟨M, 3, none⟩ = false := hM.frozen 3
      have x4 : wr.cell? ⟨M, 4, none⟩ = some (.int .i64 0) := hM.cell 4
      have y4 : wr.frozen? ⟨M, 4, none⟩ = false := hM.frozen 4
      have x5 : wr.cell? ⟨M, 5, none⟩ = some (.int .i64 0) := hM.cell 5
      have y5 : wr.frozen? ⟨M, 5, none⟩ = false := hM.frozen 5
      have x6 : wr.cell? ⟨M, 6, none⟩ = some (.int .i64 0) := hM.cell 6
      have y6 : wr.frozen? ⟨M, 6, none⟩ = false := hM.frozen 6
      have x7 : wr.cell? ⟨M, 7, none⟩ = some (.int .i64 0) := hM.cell 7
      have y7 : wr.frozen? ⟨M, 7, none⟩ = false := hM.frozen 7
      have x8 : wr.cell? ⟨M, 8, none⟩ = some (.int .i64 0) := hM.cell 8
      have y8 : wr.frozen? ⟨M, 8, none⟩ = false := hM.frozen 8
      go_wp2_with fail
      go_region_held3 (fun w' => w'.cell? ⟨q, 0, none⟩ = some (.int .i64 b1) ∧ w'.cell? ⟨q, 1, none⟩ = some (.int .i64 b2) ∧ w'.cell? ⟨q, 2, none⟩ = some (.int .i64 b3) ∧ w'.cell? ⟨q, 3, none⟩ = some (.int .i64 b4)) (go_keep) (fail)
      go_wp2_with fail
      go_region_held3 (fun w' => w'.cell? ⟨q, 4, none⟩ = some (.int .i64 b5) ∧ w'.cell? ⟨q, 5, none⟩ = some (.int .i64 b6) ∧ w'.cell? ⟨q, 6, none⟩ = some (.int .i64 b7) ∧ w'.cell? ⟨q, 7, none⟩ = some (.int .i64 b8)) (go_keep) (fail)
      go_wp2_with fail
      have hM' : Blk (((((((((wr.setCell ⟨M, 1, none⟩ (.int .i64 b1)).setCell ⟨M, 2, none⟩ (.int .i64 b2)).setCell ⟨M, 3, none⟩ (.int .i64 b3)).setCell ⟨M, 4, none⟩ (.int .i64 b4)).setCell ⟨M, 5, none⟩ (.int .i64 b5)).setCell ⟨M, 6, none⟩ (.int .i64 b6)).setCell ⟨M, 7, none⟩ (.int .i64 b7)).setCell ⟨M, 8, none⟩ (.int .i64 b8)).drew.drew) M 32 #[.int .u8 k, .int .i64 b1, .int .i64 b2, .int .i64 b3, .int .i64 b4, .int .i64 b5, .int .i64 b6, .int .i64 b7, .int .i64 b8, .string ⟨#[]⟩, .slice none 0 0] := Blk.drew (Blk.drew ((((((((hM.set_ 1 (.int .i64 b1)).set_ 2 (.int .i64 b2)).set_ 3 (.int .i64 b3)).set_ 4 (.int .i64 b4)).set_ 5 (.int .i64 b5)).set_ 6 (.int .i64 b6)).set_ 7 (.int .i64 b7)).set_ 8 (.int .i64 b8)))
      have hR' : Blk (((((((((wr.setCell ⟨M, 1, none⟩ (.int .i64 b1)).setCell ⟨M, 2, none⟩ (.int .i64 b2)).setCell ⟨M, 3, none⟩ (.int .i64 b3)).setCell ⟨M, 4, none⟩ (.int .i64 b4)).setCell ⟨M, 5, none⟩ (.int .i64 b5)).setCell ⟨M, 6, none⟩ (.int .i64 b6)).setCell ⟨M, 7, none⟩ (.int .i64 b7)).setCell ⟨M, 8, none⟩ (.int .i64 b8)).drew.drew) w.heap.size 32 zeroCells := Blk.drew (Blk.drew (Blk.farc (Blk.farc (Blk.farc (Blk.farc (Blk.farc (Blk.farc (Blk.farc (Blk.farc hR (c := M) (i := 1) (by omega) (.int .i64 b1)) (c := M) (i := 2) (by omega) (.int .i64 b2)) (c := M) (i := 3) (by omega) (.int .i64 b3)) (c := M) (i := 4) (by omega) (.int .i64 b4)) (c := M) (i := 5) (by omega) (.int .i64 b5)) (c := M) (i := 6) (by omega) (.int .i64 b6)) (c := M) (i := 7) (by omega) (.int .i64 b7)) (c := M) (i := 8) (by omega) (.int .i64 b8)))
      have hD' : RrAt D st2 (((((((((wr.setCell ⟨M, 1, none⟩ (.int .i64 b1)).setCell ⟨M, 2, none⟩ (.int .i64 b2)).setCell ⟨M, 3, none⟩ (.int .i64 b3)).setCell ⟨M, 4, none⟩ (.int .i64 b4)).setCell ⟨M, 5, none⟩ (.int .i64 b5)).setCell ⟨M, 6, none⟩ (.int .i64 b6)).setCell ⟨M, 7, none⟩ (.int .i64 b7)).setCell ⟨M, 8, none⟩ (.int .i64 b8)).drew.drew) := Blk.drew (Blk.drew (Blk.farc (Blk.farc (Blk.farc (Blk.farc (Blk.farc (Blk.farc (Blk.farc (Blk.farc hD (c := M) (i := 1) (by omega) (.int .i64 b1)) (c := M) (i := 2) (by omega) (.int .i64 b2)) (c := M) (i := 3) (by omega) (.int .i64 b3)) (c := M) (i := 4) (by omega) (.int .i64 b4)) (c := M) (i := 5) (by omega) (.int .i64 b5)) (c := M) (i := 6) (by omega) (.int .i64 b6)) (c := M) (i := 7) (by omega) (.int .i64 b7)) (c := M) (i := 8) (by omega) (.int .i64 b8)))
      have hB' : Below w.heap.size w (((((((((wr.setCell ⟨M, 1, none⟩ (.int .i64 b1)).setCell ⟨M, 2, none⟩ (.int .i64 b2)).setCell ⟨M, 3, none⟩ (.int .i64 b3)).setCell ⟨M, 4, none⟩ (.int .i64 b4)).setCell ⟨M, 5, none⟩ (.int .i64 b5)).setCell ⟨M, 6, none⟩ (.int .i64 b6)).setCell ⟨M, 7, none⟩ (.int .i64 b7)).setCell ⟨M, 8, none⟩ (.int .i64 b8)).drew.drew) := (((((((((hB.setCell (p := ⟨M, 1, none⟩) (by simp; omega) (.int .i64 b1)).setCell (p := ⟨M, 2, none⟩) (by simp; omega) (.int .i64 b2)).setCell (p := ⟨M, 3, none⟩) (by simp; omega) (.int .i64 b3)).setCell (p := ⟨M, 4, none⟩) (by simp; omega) (.int .i64 b4)).setCell (p := ⟨M, 5, none⟩) (by simp; omega) (.int .i64 b5)).setCell (p := ⟨M, 6, none⟩) (by simp; omega) (.int .i64 b6)).setCell (p := ⟨M, 7, none⟩) (by simp; omega) (.int .i64 b7)).setCell (p := ⟨M, 8, none⟩) (by simp; omega) (.int .i64 b8))).drew.drew
      clear hM hR hD hB hown q0 q1 q2 q3 q4 q5 q6 q7 x1 y1 x2 y2 x3 y3 x4 y4 x5 y5 x6 y6 x7 y7 x8 y8
      generalize ((((((((wr.setCell ⟨M, 1, none⟩ (.int .i64 b1)).setCell ⟨M, 2, none⟩ (.int .i64 b2)).setCell ⟨M, 3, none⟩ (.int .i64 b3)).setCell ⟨M, 4, none⟩ (.int .i64 b4)).setCell ⟨M, 5, none⟩ (.int .i64 b5)).setCell ⟨M, 6, none⟩ (.int .i64 b6)).setCell ⟨M, 7, none⟩ (.int .i64 b7)).setCell ⟨M, 8, none⟩ (.int .i64 b8)).drew.drew = wq at *
      have hM := hM'
      have hR := hR'
      have hD := hD'
      have hB := hB'
      clear hM' hR' hD' hB'
      refine (rText_any D _ _ hD).mono ?_
      rintro e w6 ⟨rfl, hD6, o6⟩
      rw [← HS3.out] at hD6
      have hM6 := hM.grown o6 (some_ne (by omega))
      have hR6 := hR.grown o6 (some_ne (by omega))
      have hB6 := step_only hB o6 (by omega)
      have q1 : w6.cell? ⟨M, 9, none⟩ = some (.string ⟨#[]⟩) := hM6.cell 9
      have q2 : w6.frozen? ⟨M, 9, none⟩ = false := hM6.frozen 9
      clear hM hR hB hD o6
      go_wp2_with fail
      have hM7 : Blk (w6.setCell ⟨M, 9, none⟩ (.string ⟨st2.text.1.toArray⟩)) (M) 32 #[.int .u8 k, .int .i64 b1, .int .i64 b2, .int .i64 b3, .int .i64 b4, .int .i64 b5, .int .i64 b6, .int .i64 b7, .int .i64 b8, .string ⟨st2.text.1.toArray⟩, .slice none 0 0] := hM6.set_ 9 _
      have hR7 := hR6.farc (c := M) (i := 9) (by omega) (.string ⟨st2.text.1.toArray⟩)
      have hD7 := Blk.farc hD6 (c := M) (i := 9) (by omega) (.string ⟨st2.text.1.toArray⟩)
      have hB7 : Below w.heap.size w (w6.setCell ⟨M, 9, none⟩ (.string ⟨st2.text.1.toArray⟩)) := hB6.setCell (p := ⟨M, 9, none⟩) (by simp; omega) _
      clear hM6 hR6 hD6 hB6 q1 q2
      generalize (w6.setCell ⟨M, 9, none⟩ (.string ⟨st2.text.1.toArray⟩)) = w7 at *
      refine (rList_any D _ _ hD7).mono ?_
      rintro e w8 ⟨xa, xc, rfl, own8, hD8, o8⟩
      have own8 := own_more own8 hB7.size
      have hM8 := hM7.grown o8 (some_ne (by omega))
      have hR8 := hR7.grown o8 (some_ne (by omega))
      have hB8 := step_only hB7 o8 (by omega)
      have q1 : w8.cell? ⟨M, 10, none⟩ = some (.slice none 0 0) := hM8.cell 10
      have q2 : w8.frozen? ⟨M, 10, none⟩ = false := hM8.frozen 10
      clear hM7 hR7 hD7 hB7 o8
      generalize st3.list.1 = xs at *
      go_wp2_with fail
      have hM9 : Blk (w8.setCell ⟨M, 10, none⟩ (.slice xa xs.length xc)) (M) 32 #[.int .u8 k, .int .i64 b1, .int .i64 b2, .int .i64 b3, .int .i64 b4, .int .i64 b5, .int .i64 b6, .int .i64 b7, .int .i64 b8, .string ⟨st2.text.1.toArray⟩, .slice xa xs.length xc] := hM8.set_ 10 _
      have hR9 := hR8.farc (c := M) (i := 10) (by omega) (.slice xa xs.length xc)
      have hD9 := Blk.farc hD8 (c := M) (i := 10) (by omega) (.slice xa xs.length xc)
      have own9 := own_setc (i := 10) own8 hM8 (by decide) (.slice xa xs.length xc)
      have hB9 : Below w.heap.size w (w8.setCell ⟨M, 10, none⟩ (.slice xa xs.length xc)) := hB8.setCell (p := ⟨M, 10, none⟩) (by simp; omega) _
      clear hM8 hR8 hD8 hB8 own8 q1 q2
      generalize (w8.setCell ⟨M, 10, none⟩ (.slice xa xs.length xc)) = w9 at *
      refine (rend_any D _ _ hD9).mono ?_
      rintro e wa ⟨rfl, -, oa⟩
      have hMa := hM9.grown oa (some_ne (by omega))
      have hRa := hR9.grown oa (some_ne (by omega))
      have owna := own9.kept oa (own_ne own9 hD9 (by decide))
      have hBa := step_only hB9 oa (by omega)
      clear hM9 hR9 hD9 hB9 own9 oa
      generalize hee : st3.list.2.fin.e = ee at *
      have hmd : mdec s = if ee = 0 then (if Mg.may ⟨k, b1, b2, b3, b4, b5, b6, b7, b8, st2.text.1, xs⟩ then (⟨k, b1, b2, b3, b4, b5, b6, b7, b8, st2.text.1, xs⟩, 0) else (Mg.zero, 4)) else (Mg.zero, ee) := by
        unfold mdec
        rw [HR.out]
        dsimp only
        rw [hee]
      have hkb := num1_le ⟨s, 0⟩
      rw [HK.out] at hkb
      dsimp only at hkb
      clear hee HR
      by_cases he : ee = 0
      · subst he
        rw [if_pos rfl] at hmd
        have mc0 : wa.cell? ⟨M, 0, none⟩ = some (.int .u8 k) := hMa.cell 0
        have mc1 : wa.cell? ⟨M, 1, none⟩ = some (.int .i64 b1) := hMa.cell 1
        have mc2 : wa.cell? ⟨M, 2, none⟩ = some (.int .i64 b2) := hMa.cell 2
        have mc3 : wa.cell? ⟨M, 3, none⟩ = some (.int .i64 b3) := hMa.cell 3
        have mc4 : wa.cell? ⟨M, 4, none⟩ = some (.int .i64 b4) := hMa.cell 4
        have mc5 : wa.cell? ⟨M, 5, none⟩ = some (.int .i64 b5) := hMa.cell 5
        have mc6 : wa.cell? ⟨M, 6, none⟩ = some (.int .i64 b6) := hMa.cell 6
        have mc7 : wa.cell? ⟨M, 7, none⟩ = some (.int .i64 b7) := hMa.cell 7
        have mc8 : wa.cell? ⟨M, 8, none⟩ = some (.int .i64 b8) := hMa.cell 8
        have mc9 : wa.cell? ⟨M, 9, none⟩ = some (.string ⟨st2.text.1.toArray⟩) := hMa.cell 9
        have mc10 : wa.cell? ⟨M, 10, none⟩ = some (.slice xa xs.length xc) := hMa.cell 10
        go_wp2_with fail
        refine (rmay_any ⟨k, b1, b2, b3, b4, b5, b6, b7, b8, st2.text.1, xs⟩ xa xc wa hkb).mono ?_
        rintro e wb ⟨rfl, cb⟩
        clear mc0 mc1 mc2 mc3 mc4 mc5 mc6 mc7 mc8 mc9 mc10
        have hMb := hMa.kept cb
        have hRb := hRa.kept cb
        have ownb := owna.kept (below_grown cb none) (by cases Value.ownBlock _ <;> simp)
        have hBb := step_below hBa cb
        clear hMa hRa owna hBa cb
        generalize hmay : Mg.may ⟨k, b1, b2, b3, b4, b5, b6, b7, b8, st2.text.1, xs⟩ = my at *
        have HMY := Lib.hid hmay
        clear hmay
        cases my with
        | false =>
          rw [if_neg (by simp)] at hmd
          have HD := Lib.hid hmd
          clear hmd
          have rc0 : wb.cell? ⟨w.heap.size, 0, none⟩ = some (.int .u8 0) := hRb.cell 0
          have rf0 : wb.frozen? ⟨w.heap.size, 0, none⟩ = false := hRb.frozen 0
          have rc1 : wb.cell? ⟨w.heap.size, 1, none⟩ = some (.int .i64 0) := hRb.cell 1
          have rf1 : wb.frozen? ⟨w.heap.size, 1, none⟩ = false := hRb.frozen 1
          have rc2 : wb.cell? ⟨w.heap.size, 2, none⟩ = some (.int .i64 0) := hRb.cell 2
          have rf2 : wb.frozen? ⟨w.heap.size, 2, none⟩ = false := hRb.frozen 2
          have rc3 : wb.cell? ⟨w.heap.size, 3, none⟩ = some (.int .i64 0) := hRb.cell 3
          have rf3 : wb.frozen? ⟨w.heap.size, 3, none⟩ = false := hRb.frozen 3
          have rc4 : wb.cell? ⟨w.heap.size, 4, none⟩ = some (.int .i64 0) := hRb.cell 4
          have rf4 : wb.frozen? ⟨w.heap.size, 4, none⟩ = false := hRb.frozen 4
          have rc5 : wb.cell? ⟨w.heap.size, 5, none⟩ = some (.int .i64 0) := hRb.cell 5
          have rf5 : wb.frozen? ⟨w.heap.size, 5, none⟩ = false := hRb.frozen 5
          have rc6 : wb.cell? ⟨w.heap.size, 6, none⟩ = some (.int .i64 0) := hRb.cell 6
          have rf6 : wb.frozen? ⟨w.heap.size, 6, none⟩ = false := hRb.frozen 6
          have rc7 : wb.cell? ⟨w.heap.size, 7, none⟩ = some (.int .i64 0) := hRb.cell 7
          have rf7 : wb.frozen? ⟨w.heap.size, 7, none⟩ = false := hRb.frozen 7
          have rc8 : wb.cell? ⟨w.heap.size, 8, none⟩ = some (.int .i64 0) := hRb.cell 8
          have rf8 : wb.frozen? ⟨w.heap.size, 8, none⟩ = false := hRb.frozen 8
          have rc9 : wb.cell? ⟨w.heap.size, 9, none⟩ = some (.string ⟨#[]⟩) := hRb.cell 9
          have rf9 : wb.frozen? ⟨w.heap.size, 9, none⟩ = false := hRb.frozen 9
          have rc10 : wb.cell? ⟨w.heap.size, 10, none⟩ = some (.slice none 0 0) := hRb.cell 10
          have rf10 : wb.frozen? ⟨w.heap.size, 10, none⟩ = false := hRb.frozen 10
          go_wp2_with fail
          refine bodyPost_ret (v := .tuple #[.agg #[.int .u8 0, .int .i64 0, .int .i64 0, .int .i64 0, .int .i64 0, .int .i64 0, .int .i64 0, .int .i64 0, .int .i64 0, .string ⟨#[]⟩, .slice none 0 0], .int .i64 4]) (by simp [results, Try.results46, go_sem, rc0, rc1, rc2, rc3, rc4, rc5, rc6, rc7, rc8, rc9, rc10]) rfl ?_
          refine ⟨none, 0, by rw [HD.out]; rfl, by rw [HD.out]; exact own_none _ _ _, set11_below hBb (Nat.le_refl _) _ _ _ _ _ _ _ _ _ _ _⟩
        | true =>
          rw [if_pos rfl] at hmd
          have HD := Lib.hid hmd
          clear hmd
          have rc0 : wb.cell? ⟨w.heap.size, 0, none⟩ = some (.int .u8 0) := hRb.cell 0
          have rf0 : wb.frozen? ⟨w.heap.size, 0, none⟩ = false := hRb.frozen 0
          have rc1 : wb.cell? ⟨w.heap.size, 1, none⟩ = some (.int .i64 0) := hRb.cell 1
          have rf1 : wb.frozen? ⟨w.heap.size, 1, none⟩ = false := hRb.frozen 1
          have rc2 : wb.cell? ⟨w.heap.size, 2, none⟩ = some (.int .i64 0) := hRb.cell 2
          have rf2 : wb.frozen? ⟨w.heap.size, 2, none⟩ = false := hRb.frozen 2
          have rc3 : wb.cell? ⟨w.heap.size, 3, none⟩ = some (.int .i64 0) := hRb.cell 3
          have rf3 : wb.frozen? ⟨w.heap.size, 3, none⟩ = false := hRb.frozen 3
          have rc4 : wb.cell? ⟨w.heap.size, 4, none⟩ = some (.int .i64 0) := hRb.cell 4
          have rf4 : wb.frozen? ⟨w.heap.size, 4, none⟩ = false := hRb.frozen 4
          have rc5 : wb.cell? ⟨w.heap.size, 5, none⟩ = some (.int .i64 0) := hRb.cell 5
          have rf5 : wb.frozen? ⟨w.heap.size, 5, none⟩ = false := hRb.frozen 5
          have rc6 : wb.cell? ⟨w.heap.size, 6, none⟩ = some (.int .i64 0) := hRb.cell 6
          have rf6 : wb.frozen? ⟨w.heap.size, 6, none⟩ = false := hRb.frozen 6
          have rc7 : wb.cell? ⟨w.heap.size, 7, none⟩ = some (.int .i64 0) := hRb.cell 7
          have rf7 : wb.frozen? ⟨w.heap.size, 7, none⟩ = false := hRb.frozen 7
          have rc8 : wb.cell? ⟨w.heap.size, 8, none⟩ = some (.int .i64 0) := hRb.cell 8
          have rf8 : wb.frozen? ⟨w.heap.size, 8, none⟩ = false := hRb.frozen 8
          have rc9 : wb.cell? ⟨w.heap.size, 9, none⟩ = some (.string ⟨#[]⟩) := hRb.cell 9
          have rf9 : wb.frozen? ⟨w.heap.size, 9, none⟩ = false := hRb.frozen 9
          have rc10 : wb.cell? ⟨w.heap.size, 10, none⟩ = some (.slice none 0 0) := hRb.cell 10
          have rf10 : wb.frozen? ⟨w.heap.size, 10, none⟩ = false := hRb.frozen 10
          have mc0 : wb.cell? ⟨M, 0, none⟩ = some (.int .u8 k) := hMb.cell 0
          have mc1 : wb.cell? ⟨M, 1, none⟩ = some (.int .i64 b1) := hMb.cell 1
          have mc2 : wb.cell? ⟨M, 2, none⟩ = some (.int .i64 b2) := hMb.cell 2
          have mc3 : wb.cell? ⟨M, 3, none⟩ = some (.int .i64 b3) := hMb.cell 3
          have mc4 : wb.cell? ⟨M, 4, none⟩ = some (.int .i64 b4) := hMb.cell 4
          have mc5 : wb.cell? ⟨M, 5, none⟩ = some (.int .i64 b5) := hMb.cell 5
          have mc6 : wb.cell? ⟨M, 6, none⟩ = some (.int .i64 b6) := hMb.cell 6
          have mc7 : wb.cell? ⟨M, 7, none⟩ = some (.int .i64 b7) := hMb.cell 7
          have mc8 : wb.cell? ⟨M, 8, none⟩ = some (.int .i64 b8) := hMb.cell 8
          have mc9 : wb.cell? ⟨M, 9, none⟩ = some (.string ⟨st2.text.1.toArray⟩) := hMb.cell 9
          have mc10 : wb.cell? ⟨M, 10, none⟩ = some (.slice xa xs.length xc) := hMb.cell 10
          go_wp2_with fail
          refine bodyPost_ret (v := .tuple #[.agg #[.int .u8 k, .int .i64 b1, .int .i64 b2, .int .i64 b3, .int .i64 b4, .int .i64 b5, .int .i64 b6, .int .i64 b7, .int .i64 b8, .string ⟨st2.text.1.toArray⟩, .slice xa xs.length xc], .int .i64 0]) (by simp [results, Try.results46, go_sem, rc0, rc1, rc2, rc3, rc4, rc5, rc6, rc7, rc8, rc9, rc10]) rfl ?_
          refine ⟨xa, xc, by rw [HD.out]; rfl, by rw [HD.out]; exact set11_own ownb hRb (by decide) _ _ _ _ _ _ _ _ _ _ _, set11_below hBb (Nat.le_refl _) _ _ _ _ _ _ _ _ _ _ _⟩
      · rw [if_neg he] at hmd
        have he1 : (ee != 0) = true := by simpa using he
        have HD := Lib.hid hmd
        clear hmd he
        have rc0 : wa.cell? ⟨w.heap.size, 0, none⟩ = some (.int .u8 0) := hRa.cell 0
        have rf0 : wa.frozen? ⟨w.heap.size, 0, none⟩ = false := hRa.frozen 0
        have rc1 : wa.cell? ⟨w.heap.size, 1, none⟩ = some (.int .i64 0) := hRa.cell 1
        have rf1 : wa.frozen? ⟨w.heap.size, 1, none⟩ = false := hRa.frozen 1
        have rc2 : wa.cell? ⟨w.heap.size, 2, none⟩ = some (.int .i64 0) := hRa.cell 2
        have rf2 : wa.frozen? ⟨w.heap.size, 2, none⟩ = false := hRa.frozen 2
        have rc3 : wa.cell? ⟨w.heap.size, 3, none⟩ = some (.int .i64 0) := hRa.cell 3
        have rf3 : wa.frozen? ⟨w.heap.size, 3, none⟩ = false := hRa.frozen 3
        have rc4 : wa.cell? ⟨w.heap.size, 4, none⟩ = some (.int .i64 0) := hRa.cell 4
        have rf4 : wa.frozen? ⟨w.heap.size, 4, none⟩ = false := hRa.frozen 4
        have rc5 : wa.cell? ⟨w.heap.size, 5, none⟩ = some (.int .i64 0) := hRa.cell 5
        have rf5 : wa.frozen? ⟨w.heap.size, 5, none⟩ = false := hRa.frozen 5
        have rc6 : wa.cell? ⟨w.heap.size, 6, none⟩ = some (.int .i64 0) := hRa.cell 6
        have rf6 : wa.frozen? ⟨w.heap.size, 6, none⟩ = false := hRa.frozen 6
        have rc7 : wa.cell? ⟨w.heap.size, 7, none⟩ = some (.int .i64 0) := hRa.cell 7
        have rf7 : wa.frozen? ⟨w.heap.size, 7, none⟩ = false := hRa.frozen 7
        have rc8 : wa.cell? ⟨w.heap.size, 8, none⟩ = some (.int .i64 0) := hRa.cell 8
        have rf8 : wa.frozen? ⟨w.heap.size, 8, none⟩ = false := hRa.frozen 8
        have rc9 : wa.cell? ⟨w.heap.size, 9, none⟩ = some (.string ⟨#[]⟩) := hRa.cell 9
        have rf9 : wa.frozen? ⟨w.heap.size, 9, none⟩ = false := hRa.frozen 9
        have rc10 : wa.cell? ⟨w.heap.size, 10, none⟩ = some (.slice none 0 0) := hRa.cell 10
        have rf10 : wa.frozen? ⟨w.heap.size, 10, none⟩ = false := hRa.frozen 10
        go_wp2_with fail
        refine bodyPost_ret (v := .tuple #[.agg #[.int .u8 0, .int .i64 0, .int .i64 0, .int .i64 0, .int .i64 0, .int .i64 0, .int .i64 0, .int .i64 0, .int .i64 0, .string ⟨#[]⟩, .slice none 0 0], .int .i64 ee]) (by simp [results, Try.results46, go_sem, rc0, rc1, rc2, rc3, rc4, rc5, rc6, rc7, rc8, rc9, rc10]) rfl ?_
        refine ⟨none, 0, by rw [HD.out]; rfl, by rw [HD.out]; exact own_none _ _ _, set11_below hBa (Nat.le_refl _) _ _ _ _ _ _ _ _ _ _ _⟩
end Go.Proofs.Ytbibbndjnlnbiaa
