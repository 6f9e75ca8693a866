/-
  msg.Encode and consistoryref14.Encode.
-/
import Derived.Test.YtbibbndjnlnbiaaEq
import Derived.Test.YtbibbndjnlnbiaaRMayM
namespace Go.Proofs.Ytbibbndjnlnbiaa
open Go.RowKit

/-- The whole numbers of a message, in their row; their bytes. -/
def Mg.ints (m : Mg) : List Int := [m.fr, m.to, m.ht, m.rd, m.vl, m.ep, m.dl, m.id]
def bInts : List Int → List UInt8
  | [] => []
  | n :: l => be (toU n).toNat 8 ++ bInts l
theorem bInts_snoc : ∀ (l : List Int) (n : Int), bInts (l ++ [n]) = bInts l ++ be (toU n).toNat 8
  | [], n => by simp [bInts]
  | x :: l, n => by simp [bInts, bInts_snoc l n]
theorem bInts_length : ∀ l : List Int, (bInts l).length = 8 * l.length
  | [] => rfl
  | n :: l => by simp [bInts, be_length, bInts_length l]; omega
theorem bytes_eq (m : Mg) : be m.k.toNat 1 ++ (bInts m.ints ++ (bText m.s ++ bList m.l)) = m.bytes := by
  simp [Mg.bytes, Mg.ints, bInts]
theorem take_snoc {α : Type} {l : List α} {j : Nat} {x : α} (h : l[j]? = some x) : l.take (j + 1) = l.take j ++ [x] := by
  rw [List.take_add_one, h]
  rfl
theorem ints_cell (m : Mg) (a : Option Addr) (c : Nat) : ∀ {j : Nat} {x : Int}, m.ints[j]? = some x → (m.cells a c)[j + 1]? = some (.int .i64 x)
  | 0, _, h | 1, _, h | 2, _, h | 3, _, h | 4, _, h | 5, _, h | 6, _, h | 7, _, h => by
    simp [Mg.ints] at h
    subst h
    rfl
  | _ + 8, _, h => by simp [Mg.ints] at h
theorem place_cell (M : Nat) : ∀ {j : Nat}, j < 8 → (placeCells M)[j]? = some (.pointer (some ⟨M, j + 1, none⟩))
  | 0, _ | 1, _ | 2, _ | 3, _ | 4, _ | 5, _ | 6, _ | 7, _ => rfl
  | _ + 8, h => by omega
theorem byte_k {m : Mg} (h : m.Ok) : Byte m.k := h.k

/-- The bytes, or that they may not be. -/
def EncPost (m : Mg) (w : World) (e : Ending) (w' : World) : Prop := e = .returned (.tuple #[.string ⟨(menc m).toArray⟩, .int .i64 (if m.may then 0 else 4)]) ∧ Below w.heap.size w w'

theorem ints_cell' (m : Mg) {j : Nat} {x : Int} (h : m.ints[j]? = some x) : (#[.int .i64 m.fr, .int .i64 m.to, .int .i64 m.ht, .int .i64 m.rd, .int .i64 m.vl, .int .i64 m.ep, .int .i64 m.dl, .int .i64 m.id] : Array Value)[j]? = some (.int .i64 x) := by
  have : (m.ints.map (Value.int .i64))[j]? = some (.int .i64 x) := by simp [h]
  simpa [Mg.ints] using this

set_option maxRecDepth 100000 in
set_option maxHeartbeats 1000000 in
theorem encode_any (m : Mg) (a : Option Addr) (c : Nat) (w : World) (hm : m.Ok) (ha : Nums .u64 w w.heap.size a m.l) :
    Calls Try.prog 38 #[m.val a c] w (EncPost m w) := by
  have BM := Blk.new w 32 (m.cells a c)
  have B0 : Below w.heap.size w (w.alloc (.cells (m.cells a c) 32)) := (Below.refl _ w).alloc (Nat.le_refl _) _
  have hul := hm.l
  unfold EncPost menc
  unfold Mg.val
  cases hmay : m.may with
  | false =>
    have HM := Lib.hid hmay
    clear hmay
    unfold Mg.cells at BM B0
    have HP := Lib.hid (And.intro BM B0)
    clear BM B0 hul ha
    go_enter Try.func38, Try.ntmps38
    go_wp2_with fail
    refine (may_any m a c _ hm.k).mono ?_
    rintro e w1 ⟨rfl, b1⟩
    rw [HM.out]
    go_wp2_with fail
    go_ret2
    exact ⟨rfl, step_below HP.out.2 b1⟩
  | true =>
    have hlen := Mg.may_len hmay
    have HM := Lib.hid hmay
    clear hmay
    obtain ⟨hs2, hl2⟩ := hlen
    unfold Mg.cells at BM B0
    have HP := Lib.hid (And.intro BM (And.intro B0 ha))
    clear BM B0 ha
    go_enter Try.func38, Try.ntmps38
    go_wp2_with fail
    refine (may_any m a c _ hm.k).mono ?_
    rintro e w1 ⟨rfl, b1⟩
    rw [HM.out]
    obtain ⟨BM, B0, ha⟩ := HP.out
    have hM := BM.kept b1
    have B1 := step_below B0 b1
    have HA := Lib.hid ha
    clear BM B0 ha HP b1
    have c0 : w1.cell? ⟨w.heap.size, 0, none⟩ = some (.int .u8 m.k) := hM.cell 0
    go_wp2_with fail
    refine (byte_any [] m.k _ hm.k (by simp)).mono ?_
    rintro e w2 ⟨rfl, b2⟩
    rw [List.nil_append]
    have hM2 := hM.kept b2
    have B2 := step_below B1 b2
    clear c0 hM B1 b2
    go_wp2_with fail
    refine (places_any w.heap.size _).mono ?_
    rintro e w3 ⟨rfl, hp3, b3⟩
    have hM3 := hM2.kept b3
    have B3 := step_below B2 b3
    clear hM2 B2 b3
    generalize w2.heap.size = P at hp3 ⊢
    go_wp2_with fail
    go_loopw [4, 16] (fun v i wr => ∃ j : Nat, j ≤ 8 ∧ i = .int .i64 j ∧ v = .string ⟨(be m.k.toNat 1 ++ bInts (m.ints.take j)).toArray⟩ ∧ Below w3.heap.size w3 wr) (fun _ i _ => 8 - (intOf i).toNat)
    case atStart => exact ⟨0, Nat.zero_le _, rfl, by simp [bInts], Below.refl _ _⟩
    case round =>
      obtain ⟨j, hj, rfl, rfl, hB⟩ := hrel
      have hMr := hM3.kept hB
      have hpr := hp3.kept hB
      have hlacc : (be m.k.toNat 1 ++ bInts (m.ints.take j)).length = 1 + 8 * j := by
        rw [List.length_append, be_length, bInts_length, List.length_take]
        simp [Mg.ints]
        omega
      have HLen := Lib.hid hlacc
      clear hlacc
      by_cases hlt : j < 8
      · obtain ⟨x, hx⟩ : ∃ x, m.ints[j]? = some x := ⟨_, List.getElem?_eq_getElem (by simp [Mg.ints]; omega)⟩
        have p1 : wr.cell? ⟨P, j, none⟩ = some (.pointer (some ⟨w.heap.size, j + 1, none⟩)) := by rw [Blk.cell hpr]; exact place_cell _ hlt
        have p2 : wr.cell? ⟨w.heap.size, j + 1, none⟩ = some (.int .i64 x) := by rw [Blk.cell hMr]; exact ints_cell m a c hx
        have HX := Lib.hid (take_snoc hx)
        clear hx
        go_wp2_with fail
        refine (int_any _ x _ (by rw [HLen.out]; omega)).mono ?_
        rintro e w4 ⟨rfl, b4⟩
        go_wp2_with fail
        go_roundw
        case rel => exact ⟨j + 1, by omega, by go_num, by rw [HX.out, bInts_snoc], step_below hB b4⟩
        case measure => simp [intOf]; omega
      · have hje : j = 8 := by omega
        subst hje
        have e8 : m.ints.take 8 = m.ints := rfl
        have BR := B3.trans (hB.mono B3.size)
        have c9 : wr.cell? ⟨w.heap.size, 9, none⟩ = some (.string ⟨m.s.toArray⟩) := hMr.cell 9
        go_wp2_with fail
        refine (text_ok _ m.s _ hs2 (by simp only [List.length_append, be_length, bInts_length, Mg.ints, List.length_cons, List.length_nil]; omega)).mono ?_
        rintro e w4 ⟨rfl, b4⟩
        have c10 : w4.cell? ⟨w.heap.size, 10, none⟩ = some (.slice a m.l.length c) := (hMr.kept b4).cell 10
        have B4 := step_below BR b4
        go_wp2_with fail
        refine (list_ok _ a c m.l _ ((HA.out.kept B4 (Nat.le_refl _)).more B4.size) hul hl2 (by simp only [List.length_append, be_length, bInts_length, bText_length, Mg.ints, List.length_cons, List.length_nil]; omega)).mono ?_
        rintro e w5 ⟨rfl, b5⟩
        go_wp2_with fail
        go_ret2
        exact ⟨ret2 (str_eq (bytes_eq m)) rfl, step_below B4 b5⟩
set_option maxRecDepth 100000 in
set_option maxHeartbeats 1000000 in
theorem rencode_any (m : Mg) (a : Option Addr) (c : Nat) (w : World) (hm : m.Ok) (ha : Nums .u64 w w.heap.size a m.l) :
    Calls Try.prog 43 #[m.val a c] w (EncPost m w) := by
  have BM := Blk.new w 32 (m.cells a c)
  have B0 : Below w.heap.size w (w.alloc (.cells (m.cells a c) 32)) := (Below.refl _ w).alloc (Nat.le_refl _) _
  have hul := hm.l
  unfold EncPost menc
  unfold Mg.val
  cases hmay : m.may with
  | false =>
    have HM := Lib.hid hmay
    clear hmay
    unfold Mg.cells at BM B0
    have HP := Lib.hid (And.intro BM B0)
    clear BM B0 hul ha
    go_enter Try.func43, Try.ntmps43
    go_wp2_with fail
    refine (rmay_any m a c _ hm.k).mono ?_
    rintro e w1 ⟨rfl, b1⟩
    rw [HM.out]
    go_wp2_with fail
    go_ret2
    exact ⟨rfl, step_below HP.out.2 b1⟩
  | true =>
    have hlen := Mg.may_len hmay
    have HM := Lib.hid hmay
    clear hmay
    obtain ⟨hs2, hl2⟩ := hlen
    unfold Mg.cells at BM B0
    have HP := Lib.hid (And.intro BM (And.intro B0 ha))
    clear BM B0 ha
    go_enter Try.func43, Try.ntmps43
    go_wp2_with fail
    refine (rmay_any m a c _ hm.k).mono ?_
    rintro e w1 ⟨rfl, b1⟩
    rw [HM.out]
    obtain ⟨BM, B0, ha⟩ := HP.out
    have hM := BM.kept b1
    have B1 := step_below B0 b1
    have HA := Lib.hid ha
    clear BM B0 ha HP b1
    have c0 : w1.cell? ⟨w.heap.size, 0, none⟩ = some (.int .u8 m.k) := hM.cell 0
    go_wp2_with fail
    refine (rbyte_any [] m.k _ hm.k (by simp)).mono ?_
    rintro e w2 ⟨rfl, b2⟩
    rw [List.nil_append]
    have hM2 := hM.kept b2
    have B2 := step_below B1 b2
    clear c0 hM B1 b2
    have d1 : w2.cell? ⟨w.heap.size, 1, none⟩ = some (.int .i64 m.fr) := hM2.cell 1
    have d2 : w2.cell? ⟨w.heap.size, 2, none⟩ = some (.int .i64 m.to) := hM2.cell 2
    have d3 : w2.cell? ⟨w.heap.size, 3, none⟩ = some (.int .i64 m.ht) := hM2.cell 3
    have d4 : w2.cell? ⟨w.heap.size, 4, none⟩ = some (.int .i64 m.rd) := hM2.cell 4
    have d5 : w2.cell? ⟨w.heap.size, 5, none⟩ = some (.int .i64 m.vl) := hM2.cell 5
    have d6 : w2.cell? ⟨w.heap.size, 6, none⟩ = some (.int .i64 m.ep) := hM2.cell 6
    have d7 : w2.cell? ⟨w.heap.size, 7, none⟩ = some (.int .i64 m.dl) := hM2.cell 7
    have d8 : w2.cell? ⟨w.heap.size, 8, none⟩ = some (.int .i64 m.id) := hM2.cell 8
    go_wp2_with fail
    clear d1 d2 d3 d4 d5 d6 d7 d8
    have hp3 := Blk.new w2 3 #[.int .i64 m.fr, .int .i64 m.to, .int .i64 m.ht, .int .i64 m.rd, .int .i64 m.vl, .int .i64 m.ep, .int .i64 m.dl, .int .i64 m.id]
    have hM3 := hM2.alloc (.cells #[.int .i64 m.fr, .int .i64 m.to, .int .i64 m.ht, .int .i64 m.rd, .int .i64 m.vl, .int .i64 m.ep, .int .i64 m.dl, .int .i64 m.id] 3)
    have B3 := B2.alloc B2.size (.cells #[.int .i64 m.fr, .int .i64 m.to, .int .i64 m.ht, .int .i64 m.rd, .int .i64 m.vl, .int .i64 m.ep, .int .i64 m.dl, .int .i64 m.id] 3)
    obtain ⟨w3, hw3⟩ : ∃ w3, w3 = w2.alloc (.cells #[.int .i64 m.fr, .int .i64 m.to, .int .i64 m.ht, .int .i64 m.rd, .int .i64 m.vl, .int .i64 m.ep, .int .i64 m.dl, .int .i64 m.id] 3) := ⟨_, rfl⟩
    rw [← hw3] at hp3 hM3 B3 ⊢
    clear hw3 hM2 B2
    generalize w2.heap.size = P at hp3 ⊢
    go_loopw [4, 6] (fun v i wr => ∃ j : Nat, j ≤ 8 ∧ i = .int .i64 j ∧ v = .string ⟨(be m.k.toNat 1 ++ bInts (m.ints.take j)).toArray⟩ ∧ Below w3.heap.size w3 wr) (fun _ i _ => 8 - (intOf i).toNat)
    case atStart => exact ⟨0, Nat.zero_le _, rfl, by simp [bInts], Below.refl _ _⟩
    case round =>
      obtain ⟨j, hj, rfl, rfl, hB⟩ := hrel
      have hMr := hM3.kept hB
      have hpr := hp3.kept hB
      have hlacc : (be m.k.toNat 1 ++ bInts (m.ints.take j)).length = 1 + 8 * j := by
        rw [List.length_append, be_length, bInts_length, List.length_take]
        simp [Mg.ints]
        omega
      have HLen := Lib.hid hlacc
      clear hlacc
      by_cases hlt : j < 8
      · obtain ⟨x, hx⟩ : ∃ x, m.ints[j]? = some x := ⟨_, List.getElem?_eq_getElem (by simp [Mg.ints]; omega)⟩
        have p2 : wr.cell? ⟨P, j, none⟩ = some (.int .i64 x) := by rw [Blk.cell hpr]; exact ints_cell' m hx
        have HX := Lib.hid (take_snoc hx)
        clear hx
        go_wp2_with fail
        refine (rint_any _ x _ (by rw [HLen.out]; omega)).mono ?_
        rintro e w4 ⟨rfl, b4⟩
        go_wp2_with fail
        go_roundw
        case rel => exact ⟨j + 1, by omega, by go_num, by rw [HX.out, bInts_snoc], step_below hB b4⟩
        case measure => simp [intOf]; omega
      · have hje : j = 8 := by omega
        subst hje
        have e8 : m.ints.take 8 = m.ints := rfl
        have BR := B3.trans (hB.mono B3.size)
        have c9 : wr.cell? ⟨w.heap.size, 9, none⟩ = some (.string ⟨m.s.toArray⟩) := hMr.cell 9
        go_wp2_with fail
        refine (rtext_ok _ m.s _ hs2 (by simp only [List.length_append, be_length, bInts_length, Mg.ints, List.length_cons, List.length_nil]; omega)).mono ?_
        rintro e w4 ⟨rfl, b4⟩
        have c10 : w4.cell? ⟨w.heap.size, 10, none⟩ = some (.slice a m.l.length c) := (hMr.kept b4).cell 10
        have B4 := step_below BR b4
        go_wp2_with fail
        refine (rlist_ok _ a c m.l _ ((HA.out.kept B4 (Nat.le_refl _)).more B4.size) hul hl2 (by simp only [List.length_append, be_length, bInts_length, bText_length, Mg.ints, List.length_cons, List.length_nil]; omega)).mono ?_
        rintro e w5 ⟨rfl, b5⟩
        go_wp2_with fail
        go_ret2
        exact ⟨ret2 (str_eq (bytes_eq m)) rfl, step_below B4 b5⟩
end Go.Proofs.Ytbibbndjnlnbiaa
