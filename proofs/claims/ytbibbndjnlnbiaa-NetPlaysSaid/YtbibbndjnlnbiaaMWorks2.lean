/-
  consistorylaw14.works: the examples are as they are told.
-/
import Derived.Test.YtbibbndjnlnbiaaMWorks
namespace Go.Proofs.Ytbibbndjnlnbiaa
open Go.RowKit

def voteB : List UInt8 := [3, 0, 0, 0, 0, 0, 0, 0, 1, 0, 0, 0, 0, 0, 0, 0, 2, 0, 0, 0, 0, 0, 0, 0, 3] ++ List.replicate 44 0
theorem voteB_len : voteB.length = 69 := by decide
set_option maxRecDepth 100000 in
theorem voteB_eq : voteM.bytes = voteB := by decide +kernel
theorem vote_enc : menc voteM = voteB := by
  unfold menc
  rw [voteM_may, if_pos rfl, voteB_eq]
theorem vote_dec : mdec voteB = (voteM, 0) := by rw [← voteB_eq]; exact mdec_enc voteM_ok voteM_may
theorem vote_cut : mdec (voteB.take 68) = (Mg.zero, 8) := by rw [← voteB_eq]; exact mdec_cut voteM_ok voteM_may (by rw [voteB_eq]; decide)
theorem vote_long : mdec (voteB ++ [0]) = (Mg.zero, 10) := by rw [← voteB_eq]; exact mdec_behind voteM_ok voteM_may (by simp)
theorem nil_dec : mdec [] = (Mg.zero, 8) := mdec_cut (j := 0) voteM_ok voteM_may (by rw [voteB_eq]; decide)
theorem bad_enc : menc badM = [] := by
  unfold menc
  rw [badM_may]
  rfl
/-- What Encode and Decode answer, where it is known. -/
theorem encode_of {m : Mg} {a : Option Addr} {c : Nat} {w : World} {b : List UInt8} {e : Int} (hm : m.Ok) (ha : Nums .u64 w w.heap.size a m.l) (hb : menc m = b) (he : (if m.may then (0 : Int) else 4) = e) :
    Calls Try.prog 38 #[m.val a c] w fun f w' => f = .returned (.tuple #[.string ⟨b.toArray⟩, .int .i64 e]) ∧ Below w.heap.size w w' := by
  subst hb he
  exact encode_any m a c w hm ha
theorem decode_of {s : List UInt8} {w : World} {m : Mg} {e : Int} (h : mdec s = (m, e)) :
    Calls Try.prog 39 #[.string ⟨s.toArray⟩] w fun f w' => ∃ a c, f = .returned (.tuple #[m.val a c, .int .i64 e]) ∧ w'.ownsRow w.heap.size 56 1 (.slice a m.l.length c) m.l.length (m.l.map (.int .u64)) ∧ Below w.heap.size w w' := by
  have hd := decode_any s w
  unfold DecPost at hd
  rw [h] at hd
  exact hd
theorem vote_none {w : World} {B : Nat} : Nums .u64 w B none voteM.l := .inl rfl
theorem vote_l9 : voteM.l.length ≤ 9223372036854775807 := by decide
/-- The messages written out, as a walk has them. -/
theorem rsame_agg (m o : Mg) (a a' : Option Addr) (c c' : Nat) (w : World) (ha : Nums .u64 w w.heap.size a m.l) (ha' : Nums .u64 w w.heap.size a' o.l) (hl9 : m.l.length ≤ 9223372036854775807) (b : Bool) (hb : m.same o = b) :
    Calls Try.prog 21 #[.agg #[.int .u8 m.k, .int .i64 m.fr, .int .i64 m.to, .int .i64 m.ht, .int .i64 m.rd, .int .i64 m.vl, .int .i64 m.ep, .int .i64 m.dl, .int .i64 m.id, .string ⟨m.s.toArray⟩, .slice a m.l.length c], .agg #[.int .u8 o.k, .int .i64 o.fr, .int .i64 o.to, .int .i64 o.ht, .int .i64 o.rd, .int .i64 o.vl, .int .i64 o.ep, .int .i64 o.dl, .int .i64 o.id, .string ⟨o.s.toArray⟩, .slice a' o.l.length c']] w (BoolPost b w) := by
  subst hb
  exact rsame_any m o a a' c c' w ha ha' hl9
theorem same_agg (m o : Mg) (a a' : Option Addr) (c c' : Nat) (w : World) (ha : Nums .u64 w w.heap.size a m.l) (ha' : Nums .u64 w w.heap.size a' o.l) (hl9 : m.l.length ≤ 9223372036854775807) (hl9' : o.l.length ≤ 9223372036854775807) (b : Bool) (hb : m.same o = b) :
    Calls Try.prog 45 #[.agg #[.int .u8 m.k, .int .i64 m.fr, .int .i64 m.to, .int .i64 m.ht, .int .i64 m.rd, .int .i64 m.vl, .int .i64 m.ep, .int .i64 m.dl, .int .i64 m.id, .string ⟨m.s.toArray⟩, .slice a m.l.length c], .agg #[.int .u8 o.k, .int .i64 o.fr, .int .i64 o.to, .int .i64 o.ht, .int .i64 o.rd, .int .i64 o.vl, .int .i64 o.ep, .int .i64 o.dl, .int .i64 o.id, .string ⟨o.s.toArray⟩, .slice a' o.l.length c']] w (BoolPost b w) := by
  subst hb
  exact same_any m o a a' c c' w ha ha' hl9 hl9'
theorem may_agg (m : Mg) (a : Option Addr) (c : Nat) (w : World) (hk : 0 ≤ m.k ∧ m.k ≤ 255) (b : Bool) (hb : m.may = b) :
    Calls Try.prog 40 #[.agg #[.int .u8 m.k, .int .i64 m.fr, .int .i64 m.to, .int .i64 m.ht, .int .i64 m.rd, .int .i64 m.vl, .int .i64 m.ep, .int .i64 m.dl, .int .i64 m.id, .string ⟨m.s.toArray⟩, .slice a m.l.length c]] w (BoolPost b w) := by
  subst hb
  exact may_any m a c w hk
theorem vote_agg (w : World) : Calls Try.prog 41 #[] w fun e w' => e = .returned (.agg #[.int .u8 voteM.k, .int .i64 voteM.fr, .int .i64 voteM.to, .int .i64 voteM.ht, .int .i64 voteM.rd, .int .i64 voteM.vl, .int .i64 voteM.ep, .int .i64 voteM.dl, .int .i64 voteM.id, .string ⟨voteM.s.toArray⟩, .slice none voteM.l.length 0]) ∧ Below w.heap.size w w' := vote_any w

set_option maxRecDepth 100000 in
set_option maxHeartbeats 2000000 in
theorem works_any (w : World) : Calls Try.prog 36 #[] w (BoolPost true w) := by
  obtain ⟨Z, hZ⟩ : ∃ Z : List UInt8, Z = List.replicate 44 0 := ⟨_, rfl⟩
  have hmk : ∀ w, (Instr.makeSlice 45 (.int .i64 44) (.int .i64 44)).run Try.prog w = .ok (.slice (some ⟨w.heap.size, 0, none⟩) 44 44) (w.alloc (zerosAt 44)) := fun w => mk_bytes 44 (by omega) w
  have hcv : ∀ w : World, (convert 45 9 (.slice (some ⟨w.heap.size, 0, none⟩) 44 44)).run Try.prog (w.alloc (zerosAt 44)) = .ok (.string ⟨Z.toArray⟩) (w.alloc (zerosAt 44)) := by
    rw [hZ]
    exact fun w => conv_zeros 44 w
  have hS : (⟨#[3, 0, 0, 0, 0, 0, 0, 0, 1, 0, 0, 0, 0, 0, 0, 0, 2, 0, 0, 0, 0, 0, 0, 0, 3]⟩ : ByteArray) ++ ⟨Z.toArray⟩ = ⟨voteB.toArray⟩ := by
    rw [hZ, ByteArray.mk_append_mk]
    rfl
  have HS := Lib.hid hS
  have hZl : Z.length ≤ 44 := by rw [hZ]; simp
  have hl69 : ((voteB.length : Int) != 69) = false := by decide
  have hl68 : (68 : Int) ≤ (voteB.length : Int) := by decide
  have hlb : (voteB.length : Int) ≤ 100 := by decide
  clear hS hZ
  have B1 : Below w.heap.size w (w.alloc (zerosAt 44)) := (Below.refl _ w).alloc (Nat.le_refl _) _
  go_enter Try.func36, Try.ntmps36
  go_wp2_with fail
  rw [HS.out]
  have hB1 := Lib.hid B1
  generalize w.alloc (zerosAt 44) = w1 at *
  clear hmk hcv B1
  refine (vote_any w1).mono ?_
  rintro e w2 ⟨rfl, b2⟩
  have B2 := step_below hB1.out b2
  go_wp2_with fail
  refine (encode_of voteM_ok (.inl rfl) vote_enc (by rw [voteM_may])).mono ?_
  rintro e w3 ⟨rfl, b3⟩
  have B3 := step_below B2 b3
  clear b2 b3 B2 hB1
  go_wp2_with fail
  refine (decode_of vote_dec).mono ?_
  rintro e w4 ⟨a5, c5, rfl, own5, b4⟩
  unfold Mg.val
  have B4 := step_below B3 b4
  have M5 := Blk.new w4 32 (voteM.cells a5 c5)
  have B5 := B4.alloc B4.size (.cells (voteM.cells a5 c5) 32)
  have N5 := (own_nums own5).more (Nat.le_refl _)
  have own6 := own5.alloc (.cells (voteM.cells a5 c5) 32)
  obtain ⟨w5, hw5⟩ : ∃ w5, w5 = w4.alloc (.cells (voteM.cells a5 c5) 32) := ⟨_, rfl⟩
  rw [← hw5] at M5 B5 own6
  unfold Mg.cells at hw5
  have HW := Lib.hid hw5
  have lM : w3.heap.size ≤ w4.heap.size := b4.size
  clear hw5 B3 b4 B4 own5 N5
  go_wp2_with fail
  rw [← HW.out]
  generalize w4.heap.size = G at *
  clear HW
  go_wp2_with fail
  refine (decode_of vote_cut).mono ?_
  rintro e v6 ⟨a6, c6, rfl, -, b6⟩
  unfold Mg.val
  have B6 := (step_below B5 b6).alloc (step_below B5 b6).size (.cells (Mg.zero.cells a6 c6) 32)
  have M6 := (M5.kept b6).alloc (.cells (Mg.zero.cells a6 c6) 32)
  have own7 := (own6.kept (below_grown b6 none) (by cases Value.ownBlock _ <;> simp)).alloc (.cells (Mg.zero.cells a6 c6) 32)
  obtain ⟨w6, hw6⟩ : ∃ w6, w6 = v6.alloc (.cells (Mg.zero.cells a6 c6) 32) := ⟨_, rfl⟩
  rw [← hw6] at B6 M6 own7
  unfold Mg.cells at hw6
  have HW6 := Lib.hid hw6
  clear hw6 b6 B5 M5 own6
  go_wp2_with fail
  rw [← HW6.out]
  clear HW6
  go_wp2_with fail
  refine (decode_of vote_long).mono ?_
  rintro e v7 ⟨a7, c7, rfl, -, b7⟩
  unfold Mg.val
  have B7 := (step_below B6 b7).alloc (step_below B6 b7).size (.cells (Mg.zero.cells a7 c7) 32)
  have M7 := (M6.kept b7).alloc (.cells (Mg.zero.cells a7 c7) 32)
  have own8 := (own7.kept (below_grown b7 none) (by cases Value.ownBlock _ <;> simp)).alloc (.cells (Mg.zero.cells a7 c7) 32)
  obtain ⟨w7, hw7⟩ : ∃ w7, w7 = v7.alloc (.cells (Mg.zero.cells a7 c7) 32) := ⟨_, rfl⟩
  rw [← hw7] at B7 M7 own8
  unfold Mg.cells at hw7
  have HW7 := Lib.hid hw7
  clear hw7 b7 B6 M6 own7
  go_wp2_with fail
  rw [← HW7.out]
  clear HW7
  go_wp2_with fail
  refine (decode_of nil_dec).mono ?_
  rintro e v8 ⟨a8, c8, rfl, -, b8⟩
  unfold Mg.val
  have B8 := (step_below B7 b8).alloc (step_below B7 b8).size (.cells (Mg.zero.cells a8 c8) 32)
  have M8 := (M7.kept b8).alloc (.cells (Mg.zero.cells a8 c8) 32)
  have own9 := (own8.kept (below_grown b8 none) (by cases Value.ownBlock _ <;> simp)).alloc (.cells (Mg.zero.cells a8 c8) 32)
  obtain ⟨w8, hw8⟩ : ∃ w8, w8 = v8.alloc (.cells (Mg.zero.cells a8 c8) 32) := ⟨_, rfl⟩
  rw [← hw8] at B8 M8 own9
  unfold Mg.cells at hw8
  have HW8 := Lib.hid hw8
  clear hw8 b8 B7 M7 own8
  go_wp2_with fail
  rw [← HW8.out]
  clear HW8
  go_wp2_with fail
  refine (vote_any w8).mono ?_
  rintro e v9 ⟨rfl, b9⟩
  unfold Mg.val
  have B9 := (step_below B8 b9).alloc (step_below B8 b9).size (.cells #[.int .u8 voteM.k, .int .i64 voteM.fr, .int .i64 voteM.to, .int .i64 voteM.ht, .int .i64 voteM.rd, .int .i64 voteM.vl, .int .i64 voteM.ep, .int .i64 voteM.dl, .int .i64 1, .string ⟨voteM.s.toArray⟩, .slice none voteM.l.length 0] 32)
  have M9 := (M8.kept b9).alloc (.cells #[.int .u8 voteM.k, .int .i64 voteM.fr, .int .i64 voteM.to, .int .i64 voteM.ht, .int .i64 voteM.rd, .int .i64 voteM.vl, .int .i64 voteM.ep, .int .i64 voteM.dl, .int .i64 1, .string ⟨voteM.s.toArray⟩, .slice none voteM.l.length 0] 32)
  have own10 := (own9.kept (below_grown b9 none) (by cases Value.ownBlock _ <;> simp)).alloc (.cells #[.int .u8 voteM.k, .int .i64 voteM.fr, .int .i64 voteM.to, .int .i64 voteM.ht, .int .i64 voteM.rd, .int .i64 voteM.vl, .int .i64 voteM.ep, .int .i64 voteM.dl, .int .i64 1, .string ⟨voteM.s.toArray⟩, .slice none voteM.l.length 0] 32)
  obtain ⟨w9, hw9⟩ : ∃ w9, w9 = v9.alloc (.cells #[.int .u8 voteM.k, .int .i64 voteM.fr, .int .i64 voteM.to, .int .i64 voteM.ht, .int .i64 voteM.rd, .int .i64 voteM.vl, .int .i64 voteM.ep, .int .i64 voteM.dl, .int .i64 1, .string ⟨voteM.s.toArray⟩, .slice none voteM.l.length 0] 32) := ⟨_, rfl⟩
  rw [← hw9] at B9 M9 own10
  have HW9 := Lib.hid hw9
  clear hw9 b9 B8 M8 own9
  go_wp2_with fail
  rw [← HW9.out]
  clear HW9
  go_wp2_with fail
  refine (encode_of (c := 0) badM_ok (.inl rfl) bad_enc (by rw [badM_may])).mono ?_
  rintro e w10 ⟨rfl, b10⟩
  have B10 := step_below B9 b10
  have M10 := M9.kept b10
  have own11 := own10.kept (below_grown b10 none) (by cases Value.ownBlock _ <;> simp)
  have N11 : Nums .u64 w10.drew w10.drew.heap.size a5 voteM.l := own_nums own11
  clear B9 M9 own10 b10
  obtain ⟨f0, f1, f2, f3, f4, f5, f6, f7, f8, f9, f10⟩ := M10.msg
  have hsame : voteM.same voteM = true := same_refl _
  have HR := Lib.hid (And.intro hsame (And.intro N11 B10))
  clear hsame N11 B10 own11 M10
  go_wp2_with fail
  go_region_held3 (fun w' => w'.cell? ⟨G, 0, none⟩ = some (.int .u8 voteM.k) ∧ w'.cell? ⟨G, 1, none⟩ = some (.int .i64 voteM.fr) ∧ w'.cell? ⟨G, 2, none⟩ = some (.int .i64 voteM.to) ∧ w'.cell? ⟨G, 3, none⟩ = some (.int .i64 voteM.ht) ∧ w'.cell? ⟨G, 4, none⟩ = some (.int .i64 voteM.rd) ∧ w'.cell? ⟨G, 5, none⟩ = some (.int .i64 voteM.vl) ∧ w'.cell? ⟨G, 6, none⟩ = some (.int .i64 voteM.ep) ∧ w'.cell? ⟨G, 7, none⟩ = some (.int .i64 voteM.dl) ∧ w'.cell? ⟨G, 8, none⟩ = some (.int .i64 voteM.id) ∧ w'.cell? ⟨G, 9, none⟩ = some (.string ⟨voteM.s.toArray⟩) ∧ w'.cell? ⟨G, 10, none⟩ = some (.slice a5 voteM.l.length c5)) (first | exact ⟨f0, f1, f2, f3, f4, f5, f6, f7, f8, f9, f10⟩ | exact ⟨cell_keepd f0 b11, cell_keepd f1 b11, cell_keepd f2 b11, cell_keepd f3 b11, cell_keepd f4 b11, cell_keepd f5 b11, cell_keepd f6 b11, cell_keepd f7 b11, cell_keepd f8 b11, cell_keepd f9 b11, cell_keepd f10 b11⟩ | exact ⟨cell_keep (cell_keepd f0 b11) b12, cell_keep (cell_keepd f1 b11) b12, cell_keep (cell_keepd f2 b11) b12, cell_keep (cell_keepd f3 b11) b12, cell_keep (cell_keepd f4 b11) b12, cell_keep (cell_keepd f5 b11) b12, cell_keep (cell_keepd f6 b11) b12, cell_keep (cell_keepd f7 b11) b12, cell_keep (cell_keepd f8 b11) b12, cell_keep (cell_keepd f9 b11) b12, cell_keep (cell_keepd f10 b11) b12⟩ | go_keep) (first
    | (go_at_call 41; (with_reducible refine (vote_agg _).mono ?_); rintro e w11 ⟨rfl, b11⟩)
    | (go_at_call 21; (with_reducible refine (rsame_agg voteM voteM a5 none c5 0 _ ((HR.out.2.1.kept b11 (Nat.le_refl _)).more b11.size) vote_none vote_l9 _ HR.out.1).mono ?_); rintro e w12 ⟨rfl, b12⟩))
  go_wp2_with fail
  go_ret
  exact ⟨rfl, step_below (step_below HR.out.2.2.drew b11) b12⟩
end Go.Proofs.Ytbibbndjnlnbiaa
