/-
  consistorylaw09: like, long, awake.
-/
import Derived.Test.YtdnkijljpmcejaaGot
import Derived.Deep.RegionHeld3
namespace Go.Proofs.Ytdnkijljpmcejaa
open Go.RowKit

/-- put behind no bytes, the thing written out. -/
theorem put_agg (k n : Int) (s : List UInt8) (xs : List Int) (most : Int) (a : Option Addr) (c : Nat) (w w0 : World) (ht : (Th.mk k n s xs most).Ok) (ha : Nums .u64 w0 w0.heap.size a xs) (hb : Below w0.heap.size w0 w) (hs2 : s.length ≤ 9223372036854775807) (hl2 : xs.length ≤ 9223372036854775807) :
    Calls Try.prog 26 #[.agg #[.int .u8 k, .int .u64 n, .string ⟨s.toArray⟩, .slice a xs.length c, .int .i64 most], .string ⟨#[]⟩] w fun e w' => e = .returned (.string ⟨(Th.mk k n s xs most).bytes.toArray⟩) ∧ Below w.heap.size w w' :=
  put_thing ⟨k, n, s, xs, most⟩ a c [] w ht ((ha.kept hb (Nat.le_refl _)).more hb.size) hs2 hl2 (by simp)

theorem below_drewN {B : Nat} {a w : World} (h : Below B a w) (n : Nat) : Below B a (w.drewN n) := ⟨h.os, h.tape, h.output, h.size, h.block⟩
theorem step_below {w a c : World} (h : Below w.heap.size w a) (k : Below a.heap.size a c) : Below w.heap.size w c := h.trans (k.mono h.size)
theorem step_only {w a c : World} {g : Nat} (h : Below w.heap.size w a) (k : Only a c g) (hg : w.heap.size ≤ g) : Below w.heap.size w c := below_only h k hg h.size
theorem cell_keep {w1 w2 : World} {p : Addr} {v : Value} (h : w1.cell? p = some v) (b : Below w1.heap.size w1 w2) : w2.cell? p = some v := (b.cell (World.block_lt_of_cell? w1 p h)).trans h
/-- The cells of two things that lie in two new blocks, behind a call that leaves them. -/
theorem two_cells {w w1 : World} {x0 x1 x2 x3 x4 y0 y1 y2 y3 y4 : Value} (hb : Below (((w.alloc (.cells #[x0, x1, x2, x3, x4] 34)).alloc (.cells #[y0, y1, y2, y3, y4] 34)).drew).heap.size (((w.alloc (.cells #[x0, x1, x2, x3, x4] 34)).alloc (.cells #[y0, y1, y2, y3, y4] 34)).drew) w1) :
    (w1.cell? ⟨w.heap.size, 0, none⟩ = some x0 ∧ w1.cell? ⟨w.heap.size, 1, none⟩ = some x1 ∧ w1.cell? ⟨w.heap.size, 2, none⟩ = some x2 ∧ w1.cell? ⟨w.heap.size, 3, none⟩ = some x3 ∧ w1.cell? ⟨w.heap.size, 4, none⟩ = some x4) ∧
    (w1.cell? ⟨w.heap.size + 1, 0, none⟩ = some y0 ∧ w1.cell? ⟨w.heap.size + 1, 1, none⟩ = some y1 ∧ w1.cell? ⟨w.heap.size + 1, 2, none⟩ = some y2 ∧ w1.cell? ⟨w.heap.size + 1, 3, none⟩ = some y3 ∧ w1.cell? ⟨w.heap.size + 1, 4, none⟩ = some y4) := by
  have A := ((Blk.new w 34 #[x0, x1, x2, x3, x4]).alloc (.cells #[y0, y1, y2, y3, y4] 34)).drew.kept hb
  have B := (Blk.new (w.alloc (.cells #[x0, x1, x2, x3, x4] 34)) 34 #[y0, y1, y2, y3, y4]).drew.kept hb
  simp only [asz] at B
  exact ⟨⟨A.cell 0, A.cell 1, A.cell 2, A.cell 3, A.cell 4⟩, ⟨B.cell 0, B.cell 1, B.cell 2, B.cell 3, B.cell 4⟩⟩

set_option maxRecDepth 100000 in
set_option maxHeartbeats 400000 in
theorem like_any (t o : Th) (a a' : Option Addr) (c c' : Nat) (w : World) (ht : t.Ok) (ho : o.Ok) (ha : Nums .u64 w w.heap.size a t.l) (ha' : Nums .u64 w w.heap.size a' o.l) (hs2 : t.s.length ≤ 9223372036854775807) (hl2 : t.l.length ≤ 9223372036854775807) (ho2 : o.s.length ≤ 9223372036854775807) (hol : o.l.length ≤ 9223372036854775807) :
    Calls Try.prog 31 #[t.val a c, o.val a' c'] w (BoolPost (t.k == o.k && t.bytes == o.bytes) w) := by
  obtain ⟨m, hm⟩ : ∃ m, m = (t.k == o.k && t.bytes == o.bytes) := ⟨_, rfl⟩
  rw [← hm]
  have HM := Lib.hid hm
  clear hm
  have hp := Lib.hid (And.intro ht (And.intro ho (And.intro ha ha')))
  clear ht ho ha ha'
  obtain ⟨k, n, s, xs, most⟩ := t
  obtain ⟨k', n', s', xs', most'⟩ := o
  unfold Th.val
  dsimp only at *
  have B2 : Below w.heap.size w ((w.alloc (.cells #[.int .u8 k, .int .u64 n, .string ⟨s.toArray⟩, .slice a xs.length c, .int .i64 most] 34)).alloc (.cells #[.int .u8 k', .int .u64 n', .string ⟨s'.toArray⟩, .slice a' xs'.length c', .int .i64 most'] 34)).drew := (((Below.refl _ w).alloc (Nat.le_refl _) _).alloc (by simp) _).drew
  have HB := Lib.hid B2
  clear B2
  by_cases hk : (k == k') = true
  · go_enter Try.func31, Try.ntmps31
    go_wp2_with fail
    go_region_held3 (fun w' => w'.cell? ⟨w.heap.size, 0, none⟩ = some (.int .u8 k) ∧ w'.cell? ⟨w.heap.size, 1, none⟩ = some (.int .u64 n) ∧ w'.cell? ⟨w.heap.size, 2, none⟩ = some (.string ⟨s.toArray⟩) ∧ w'.cell? ⟨w.heap.size, 3, none⟩ = some (.slice a xs.length c) ∧ w'.cell? ⟨w.heap.size, 4, none⟩ = some (.int .i64 most) ∧
        w'.cell? ⟨w.heap.size + 1, 0, none⟩ = some (.int .u8 k') ∧ w'.cell? ⟨w.heap.size + 1, 1, none⟩ = some (.int .u64 n') ∧ w'.cell? ⟨w.heap.size + 1, 2, none⟩ = some (.string ⟨s'.toArray⟩) ∧ w'.cell? ⟨w.heap.size + 1, 3, none⟩ = some (.slice a' xs'.length c') ∧ w'.cell? ⟨w.heap.size + 1, 4, none⟩ = some (.int .i64 most'))
      (first | exact ⟨p0, p1, p2, p3, p4, q0, q1, q2, q3, q4⟩ | exact ⟨cell_keep p0 b2, cell_keep p1 b2, cell_keep p2 b2, cell_keep p3 b2, cell_keep p4 b2, cell_keep q0 b2, cell_keep q1 b2, cell_keep q2 b2, cell_keep q3 b2, cell_keep q4 b2⟩ | go_keep)
      (first
      | (go_at_call 26; (with_reducible refine (put_agg k n s xs most a c _ w hp.out.1 hp.out.2.2.1 HB.out hs2 hl2).mono ?_); rintro e w1 ⟨rfl, b1⟩; obtain ⟨⟨p0, p1, p2, p3, p4⟩, q0, q1, q2, q3, q4⟩ := two_cells b1)
      | (go_at_call 26; (with_reducible refine (put_agg k' n' s' xs' most' a' c' _ w hp.out.2.1 hp.out.2.2.2 (HB.out.trans (b1.mono HB.out.size)) ho2 hol).mono ?_); rintro e w2 ⟨rfl, b2⟩))
    go_wp2_with fail
    go_ret
    refine ⟨ret_bool ?_, (HB.out.trans (b1.mono HB.out.size)).trans (b2.mono (HB.out.trans (b1.mono HB.out.size)).size)⟩
    rw [HM.out, hk, Bool.true_and]
  · have hk' : (k == k') = false := by simpa using hk
    go_enter Try.func31, Try.ntmps31
    go_wp2_with fail
    go_quiet (fail)
    go_wp2_with fail
    go_ret
    refine ⟨ret_bool ?_, below_drewN (((Below.refl _ w).alloc (Nat.le_refl _) _).alloc (by simp) _) nq⟩
    rw [HM.out, hk', Bool.false_and]

/-- The examples' bytes, and the reader's states. -/
def aw1 : List UInt8 := [7]
def aw2 : List UInt8 := [7, 0, 0, 0, 0, 0, 0, 1, 2]
def aw3 : List UInt8 := [7, 0, 0, 0, 0, 0, 0, 1, 2, 255, 255, 255, 255, 255, 255, 255, 254]
def aw4 : List UInt8 := [7, 0, 0, 0, 0, 0, 0, 1, 2, 255, 255, 255, 255, 255, 255, 255, 254, 0, 2, 97, 98]
def aw5 : List UInt8 := [7, 0, 0, 0, 0, 0, 0, 1, 2, 255, 255, 255, 255, 255, 255, 255, 254, 0, 2, 97, 98, 0, 1, 0, 0, 0, 0, 0, 0, 0, 5]
def as0 : RS := ⟨aw5, 0⟩
def as1 : RS := ⟨[0, 0, 0, 0, 0, 0, 1, 2, 255, 255, 255, 255, 255, 255, 255, 254, 0, 2, 97, 98, 0, 1, 0, 0, 0, 0, 0, 0, 0, 5], 0⟩
def as2 : RS := ⟨[255, 255, 255, 255, 255, 255, 255, 254, 0, 2, 97, 98, 0, 1, 0, 0, 0, 0, 0, 0, 0, 5], 0⟩
def as3 : RS := ⟨[0, 2, 97, 98, 0, 1, 0, 0, 0, 0, 0, 0, 0, 5], 0⟩
def as4 : RS := ⟨[0, 1, 0, 0, 0, 0, 0, 0, 0, 5], 0⟩
def as5 : RS := ⟨[], 0⟩
theorem ae1 : [] ++ be (7 : Int).toNat 1 = aw1 := by decide
theorem ae2 : aw1 ++ be (258 : Int).toNat 8 = aw2 := by decide
theorem ae3 : aw2 ++ be (toU (-2)).toNat 8 = aw3 := by decide
theorem ae4 : aw3 ++ (Th.mk 3 0 [97, 98] [] 0).bytes = aw4 := by decide
theorem ae5 : aw4 ++ (Th.mk 4 0 [] [5] 0).bytes = aw5 := by decide
theorem an0 : as0.num 1 = (7, as1) := by rfl
theorem an1 : as1.num 8 = (258, as2) := by rfl
theorem an2 : as2.num 8 = (18446744073709551614, as3) := by rfl
theorem an3 : as3.text = ([97, 98], as4) := by rfl
theorem an4 : as4.list = ([5], as5) := by rfl
theorem ase1 : ((7 : Int), as1).2.e = 0 := rfl
theorem ase2 : ((258 : Int), as2).2.e = 0 := rfl
theorem ase3 : ((18446744073709551614 : Int), as3).2.e = 0 := rfl
theorem ase4 : (([97, 98] : List UInt8), as4).2.e = 0 := rfl
theorem ase5 : (([5] : List Int), as5).2.e = 0 := rfl
theorem aw64 : wrap64 ((18446744073709551614 : Int), as3).1 = -2 := by unfold wrap64; rfl
theorem an5 : as5.fin = as5 := by rfl

set_option maxRecDepth 100000 in
set_option maxHeartbeats 800000 in
theorem awake_any (w : World) : Calls Try.prog 14 #[] w (BoolPost true w) := by
  have l1 : aw1.length = 1 := rfl
  have l2 : aw2.length = 9 := rfl
  have l3 : aw3.length = 17 := rfl
  have l4 : aw4.length = 21 := rfl
  go_enter Try.func14, Try.ntmps14
  go_wp2_with fail
  refine (byte_any [] 7 _ (by constructor <;> omega) (by simp)).mono ?_
  rintro e w1 ⟨rfl, b1⟩
  rw [ae1]
  go_wp2_with fail
  refine (num_any aw1 258 _ (by constructor <;> omega) (by omega)).mono ?_
  rintro e w2 ⟨rfl, b2⟩
  rw [ae2]
  go_wp2_with fail
  refine (int_any aw2 (-2) _ (by omega)).mono ?_
  rintro e w3 ⟨rfl, b3⟩
  rw [ae3]
  go_wp2_with fail
  refine (put_thing ⟨3, 0, [97, 98], [], 0⟩ none 0 aw3 _ ⟨by constructor <;> decide, by constructor <;> decide, by simp, by constructor <;> decide⟩ (.inl rfl) (by simp) (by simp) (by omega)).mono ?_
  rintro e w4 ⟨rfl, b4⟩
  rw [ae4]
  go_wp2_with fail
  have B1 := (Blk.new w 22 #[.int .u64 5]).kept b1
  have B4 := ((B1.kept b2).kept b3).kept b4
  refine (put_thing ⟨4, 0, [], [5], 0⟩ (some ⟨w.heap.size, 0, none⟩) 1 aw4 _ ⟨by constructor <;> decide, by constructor <;> decide, by simp; constructor <;> decide, by constructor <;> decide⟩ (.inr ⟨w.heap.size, 0, rfl, B4.lt, fun i x hx => by
    match i, hx with
    | 0, hx => simp at hx; subst hx; exact B4.cell 0⟩) (by simp) (by simp) (by omega)).mono ?_
  rintro e w5 ⟨rfl, b5⟩
  rw [ae5]
  clear B1 B4
  go_wp2_with fail
  refine (open_any aw5 _).mono ?_
  rintro e w6 ⟨rfl, r0, b6⟩
  go_wp2_with fail
  refine (Byte_any w5.heap.size as0 _ r0).mono ?_
  rintro e w7 ⟨rfl, r1, o7⟩
  rw [an0] at r1 ⊢
  rw [ase1]
  go_wp2_with fail
  refine (Num_any w5.heap.size as1 _ r1).mono ?_
  rintro e w8 ⟨rfl, r2, o8⟩
  rw [an1] at r2 ⊢
  rw [ase2]
  go_wp2_with fail
  refine (Int_any w5.heap.size as2 _ r2).mono ?_
  rintro e w9 ⟨rfl, r3, o9⟩
  rw [an2] at r3 ⊢
  rw [ase3, aw64]
  go_wp2_with fail
  refine (Text_any w5.heap.size as3 _ r3).mono ?_
  rintro e w10 ⟨rfl, r4, o10⟩
  rw [an3] at r4 ⊢
  rw [ase4]
  go_wp2_with fail
  refine (List_any w5.heap.size as4 _ r4).mono ?_
  rintro e w11 ⟨xa, xc, rfl, -, r5, o11⟩
  rw [an4] at r5 ⊢
  rw [ase5]
  go_wp2_with fail
  have e5 : aw5 = [7, 0, 0, 0, 0, 0, 0, 1, 2, 255, 255, 255, 255, 255, 255, 255, 254, 0, 2, 97, 98, 0, 1, 0, 0, 0, 0, 0, 0, 0, 5] := rfl
  go_wp2_with fail
  clear e5
  refine (end_any w5.heap.size as5 _ r5).mono ?_
  rintro e w12 ⟨rfl, r6, o12⟩
  rw [an5]
  have e6 : as5.e = 0 := rfl
  go_wp2_with fail
  go_ret
  refine ⟨rfl, ?_⟩
  have c1 := step_below ((Below.refl _ w).alloc (Nat.le_refl _) (.cells #[.int .u64 5] 22)) b1
  have c5 := step_below (step_below (step_below (step_below c1 b2) b3) b4) b5
  have hs := c5.size
  exact step_only (step_only (step_only (step_only (step_only (step_only (step_below c5 b6) o7 hs) o8 hs) o9 hs) o10 hs) o11 hs) o12 hs
end Go.Proofs.Ytdnkijljpmcejaa
