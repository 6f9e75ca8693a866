/-
  consistorylaw09.WireNames: the walk.
-/
import Derived.Test.YtdnkijljpmcejaaNamesZ
namespace Go.Proofs.Ytdnkijljpmcejaa
open Go.RowKit

/-- The rows of the table: bytes, the kind that is asked for, how much at most, what is wrong. -/
def nrows : List (List UInt8 × Int × Int × Int) :=
  [([], 0, 0, 8), ([49, 50, 51, 52, 53, 54, 55], 1, 0, 8), ([], 2, 0, 8), ([0], 3, 0, 8), ([0, 2, 97], 3, 0, 8), ([8, 1], 3, 0, 40), ([8, 0], 3, 0, 8), ([0, 0], 3, 0, 0), ([4, 1], 4, 0, 40), ([0, 1, 49, 50, 51, 52, 53, 54, 55], 4, 0, 8), ([0, 1], 4, 0, 8), ([0], 4, 0, 8),
    ([0, 0, 0, 0, 0, 0, 0, 5], 5, 4, 4), ([0, 0, 0, 0, 0, 0, 0, 0], 5, -1, 4), ([128, 0, 0, 0, 0, 0, 0, 5], 5, 9223372036854775807, 4), ([0, 0, 0, 0, 0, 0, 5], 5, 9, 8), ([0, 0, 0, 0, 0, 0, 0, 5], 5, 5, 0)]
def nask (r : List UInt8 × Int × Int × Int) : RS := if r.2.1 = 5 then (RS.count r.2.2.1 ⟨r.1, 0⟩).2 else ((Th.mk r.2.1 0 [] [] 0).got ⟨r.1, 0⟩).2
def nOk (r : List UInt8 × Int × Int × Int) : Bool := decide ((nask r).r = []) && decide ((nask r).e = r.2.2.2) && decide (0 ≤ r.2.1) && decide (r.2.1 ≤ 5) && decide (-9223372036854775808 ≤ r.2.2.1) && decide (r.2.2.1 ≤ 9223372036854775807) && decide (r.1.length ≤ 9) && decide (r.2.2.2 = 0 ∨ r.2.2.2 = 8 ∨ r.2.2.2 = 40 ∨ r.2.2.2 = 4)
theorem nrows_ok : nrows.all nOk = true := by decide +kernel
def ncells (l : List (List UInt8 × Int × Int × Int)) : List Value := l.flatMap fun r => [.string ⟨r.1.toArray⟩, .int .u8 r.2.1, .int .i64 r.2.2.1, .int .i64 r.2.2.2]
theorem ncells_at : ∀ (l : List (List UInt8 × Int × Int × Int)) (j : Nat) (r : List UInt8 × Int × Int × Int), l[j]? = some r →
    (ncells l)[j * 4]? = some (.string ⟨r.1.toArray⟩) ∧ (ncells l)[j * 4 + 1]? = some (.int .u8 r.2.1) ∧ (ncells l)[j * 4 + 2]? = some (.int .i64 r.2.2.1) ∧ (ncells l)[j * 4 + 3]? = some (.int .i64 r.2.2.2)
  | x :: l, 0, r, h => by
    simp at h
    subst h
    simp [ncells]
  | x :: l, j + 1, r, h => by
    have ih := ncells_at l j r (by simpa using h)
    have e : ∀ i, (ncells (x :: l))[(j + 1) * 4 + i]? = (ncells l)[j * 4 + i]? := by
      intro i
      have : ncells (x :: l) = [.string ⟨x.1.toArray⟩, .int .u8 x.2.1, .int .i64 x.2.2.1, .int .i64 x.2.2.2] ++ ncells l := rfl
      rw [this, List.getElem?_append_right (by simp; omega)]
      congr 1
      simp
      omega
    exact ⟨by simpa using (e 0).trans ih.1, (e 1).trans ih.2.1, (e 2).trans ih.2.2.1, (e 3).trans ih.2.2.2⟩
  | [], j, r, h => by simp at h

theorem rs_eq {a : RS} {r : List UInt8} {e : Int} (h1 : a.r = r) (h2 : a.e = e) : a = ⟨r, e⟩ := by
  cases a
  simp only at h1 h2
  rw [h1, h2]
theorem only_cell {w w' : World} {p : Addr} {v : Value} {g : Nat} (h : w.cell? p = some v) (o : Only w.drew w' g) (hne : p.block ≠ g) : w'.cell? p = some v :=
  (World.cell?_of_block (o.block p.block (World.block_lt_of_cell? w p h) (some_ne hne))).trans h

set_option maxRecDepth 100000 in
set_option maxHeartbeats 8000000 in
theorem names_any (w : World) : Calls Try.prog 7 #[] w (TruePost w) := by
  go_enter Try.func7, Try.ntmps7
  go_wp2_with fail
  refine (Byte_nil _).mono ?_
  rintro e w1 ⟨rfl, b1⟩
  go_wp2_with fail
  refine (Num_nil _).mono ?_
  rintro e w2 ⟨rfl, b2⟩
  go_wp2_with fail
  refine (Int_nil _).mono ?_
  rintro e w3 ⟨rfl, b3⟩
  go_wp2_with fail
  refine (Count_nil _ _).mono ?_
  rintro e w4 ⟨rfl, b4⟩
  go_wp2_with fail
  refine (Text_nil _).mono ?_
  rintro e w5 ⟨rfl, b5⟩
  go_wp2_with fail
  refine (List_nil _).mono ?_
  rintro e w6 ⟨rfl, b6⟩
  have B6 := step_below (step_below (step_below (step_below (step_below b1 b2) b3) b4) b5) b6
  clear b1 b2 b3 b4 b5 b6
  go_wp2_with fail
  refine (awake_any _).mono ?_
  rintro e w7 ⟨rfl, b7⟩
  go_wp2_with fail
  refine (end_nil _).mono ?_
  rintro e w8 ⟨rfl, b8⟩
  go_wp2_with fail
  refine (wrong_nil _).mono ?_
  rintro e w9 ⟨rfl, rfl⟩
  go_wp2_with fail
  refine (left_nil _).mono ?_
  rintro e w10 ⟨rfl, rfl⟩
  have B8 := step_below (step_below B6 b7) b8
  clear b7 b8
  go_wp2_with fail
  have hG : w.heap.size ≤ w8.heap.size := B8.size
  go_loopw [125] (fun v wr => ∃ j : Nat, j ≤ 17 ∧ v = .int .i64 j ∧ Blk wr w8.heap.size 76 (ncells nrows).toArray ∧ Below w.heap.size w wr) (fun v _ => 17 - (intOf v).toNat)
  case atStart => exact ⟨0, Nat.zero_le _, rfl, Blk.new w8 76 (ncells nrows).toArray, B8.alloc B8.size _⟩
  case round =>
    obtain ⟨j, hj, rfl, hN, hB⟩ := hrel
    generalize w8.heap.size = G at hN hG ⊢
    by_cases hlt : j < 17
    · obtain ⟨r, hr⟩ : ∃ r, nrows[j]? = some r := ⟨_, List.getElem?_eq_getElem (by exact hlt)⟩
      have hok := List.all_eq_true.1 nrows_ok r (List.mem_of_getElem? hr)
      obtain ⟨d0, d1, d2, d3⟩ := ncells_at nrows j r hr
      obtain ⟨s, k, m, e⟩ := r
      simp only [nOk, Bool.and_eq_true, decide_eq_true_eq] at hok
      obtain ⟨⟨⟨⟨⟨⟨⟨o1, o2⟩, k0⟩, k5⟩, m0⟩, m1⟩, sl⟩, oe⟩ := hok
      have OE := Lib.hid oe
      clear oe
      dsimp only at d0 d1 d2 d3
      have c0 : wr.cell? ⟨G, j * 4, none⟩ = some (.string ⟨s.toArray⟩) := by rw [Blk.cell hN]; simpa using d0
      have c1 : wr.cell? ⟨G, j * 4 + 1, none⟩ = some (.int .u8 k) := by rw [Blk.cell hN]; simpa using d1
      have c2 : wr.cell? ⟨G, j * 4 + 2, none⟩ = some (.int .i64 m) := by rw [Blk.cell hN]; simpa using d2
      have c3 : wr.cell? ⟨G, j * 4 + 3, none⟩ = some (.int .i64 e) := by rw [Blk.cell hN]; simpa using d3
      have HO := Lib.hid (And.intro o1 o2)
      clear d0 d1 d2 d3 hr o1 o2
      go_wp2_with fail
      have hcat : (⟨s.toArray⟩ : ByteArray) ++ ⟨#[]⟩ = ⟨s.toArray⟩ := by rw [ByteArray.mk_append_mk]; simp
      rw [hcat]
      clear hcat
      have XA := Blk.new wr 76 #[.string ⟨s.toArray⟩, .int .u8 k, .int .i64 m, .int .i64 e]
      have BA : Below wr.heap.size wr (wr.alloc (.cells #[.string ⟨s.toArray⟩, .int .u8 k, .int .i64 m, .int .i64 e] 76)) := (Below.refl _ wr).alloc (Nat.le_refl _) _
      refine (open_any s _).mono ?_
      rintro e' w9 ⟨rfl, r9, b9⟩
      have BR := step_below BA b9
      have hxg : wr.heap.size ≠ (wr.alloc (.cells #[.string ⟨s.toArray⟩, .int .u8 k, .int .i64 m, .int .i64 e] 76)).heap.size := by simp
      have hgr : wr.heap.size ≤ (wr.alloc (.cells #[.string ⟨s.toArray⟩, .int .u8 k, .int .i64 m, .int .i64 e] 76)).heap.size := by simp
      have xk : w9.cell? ⟨wr.heap.size, 1, none⟩ = some (.int .u8 k) := (XA.kept b9).cell 1
      have xm : w9.cell? ⟨wr.heap.size, 2, none⟩ = some (.int .i64 m) := (XA.kept b9).cell 2
      have XA9 := XA.kept b9
      clear BA b9 XA
      generalize (wr.alloc (.cells #[.string ⟨s.toArray⟩, .int .u8 k, .int .i64 m, .int .i64 e] 76)).heap.size = R at r9 hxg hgr ⊢
      by_cases hk5 : k = 5
      · as_aux_lemma =>
          have hst : (RS.count m ⟨s, 0⟩).2 = ⟨[], e⟩ := rs_eq (by have := HO.out.1; simpa [nask, hk5] using this) (by have := HO.out.2; simpa [nask, hk5] using this)
          have kk : (k == 5) = true := by simpa using hk5
          have HS := Lib.hid hst
          clear hst hk5
          go_wp2_with fail
          refine (Count_any R m ⟨s, 0⟩ w9 r9 ⟨m0, m1⟩).mono ?_
          rintro e' w10 ⟨rfl, r10, o10⟩
          rw [HS.out] at r10 ⊢
          have BX := step_only BR o10 hgr
          have XB := Blk.grown XA9 o10 (some_ne hxg)
          have x3 : w10.cell? ⟨wr.heap.size, 3, none⟩ = some (.int .i64 e) := XB.cell 3
          have r10' : RdAt R ⟨[], e⟩ w10.drew := Blk.drew r10
          clear r9 XA9 o10 c0 c1 c2 c3 xk xm
          go_wp2_with fail
          go_region_held3 (fun w' => w'.cell? ⟨wr.heap.size, 3, none⟩ = some (.int .i64 e)) (first | exact x3 | go_keep) (first | (go_at_call 30; (with_reducible refine (left_any R ⟨[], e⟩ _ r10').mono ?_); rintro e6 w6 ⟨rfl, rfl⟩) | (go_at_call 46; (with_reducible refine (wrong_any R ⟨[], e⟩ _ r10').mono ?_); rintro e6 w6 ⟨rfl, rfl⟩))
          go_wp2_with fail
          refine (Byte_any R ⟨[], e⟩ _ r10').mono ?_
          rintro e' w11 ⟨rfl, r11, o11⟩
          have XC := Blk.grown (Blk.drew XB) o11 (some_ne hxg)
          have BY := step_only BX.drew o11 hgr
          have y3 : w11.cell? ⟨wr.heap.size, 3, none⟩ = some (.int .i64 e) := XC.cell 3
          clear x3 XB r10 r10' BX
          by_cases he : e = 0
          · subst he
            have hb : RS.num 1 ⟨[], 0⟩ = ((0 : Int), (⟨[], 8⟩ : RS)) := rfl
            rw [hb] at r11 ⊢
            clear hb
            go_wp2_with fail
            go_quiet (fail)
            go_wp2_with fail
            go_roundw
            case rel => exact ⟨j + 1, by omega, by go_num, hN.kept (below_drewN BY _), step_below hB (below_drewN BY _)⟩
            case measure => simp [intOf]; omega
          · have hb : RS.num 1 ⟨[], e⟩ = ((0 : Int), (⟨[], e⟩ : RS)) := by
              unfold RS.num
              rw [if_pos he]
            rw [hb] at r11 ⊢
            clear hb
            have hf : RS.fin ⟨[], e⟩ = ⟨[], e⟩ := by simp [RS.fin, he]
            have HF := Lib.hid (end_any R ⟨[], e⟩ w11.drew (Blk.drew r11))
            rw [hf] at HF
            clear hf
            have he0 : (e == 0) = false := by simpa using he
            have he1 : (e != 0) = true := by simpa using he
            clear he OE HO HS kk
            go_wp2_with fail
            refine wp_region_held_drew (S := fun w' => w'.cell? ⟨wr.heap.size, 3, none⟩ = some (.int .i64 e)) (by kernel_rfl) ?_ (fun hHeld => ?_)
            · exact y3
            refine wpAnyH_take (i := 0) (v := ?_) rfl (by kernel_rfl) (by kernel_rfl) (by kernel_rfl) (fun _ _ _ h => h) (Or.inl ⟨by rfl, ?_⟩) (by assumption) ?_
            rotate_left
            · intro w hSw
              try dsimp only at hSw
              go_simp
              try with_reducible rfl
            try simp only [Act.put, List.getElem_toArray, List.getElem_cons_zero, List.setIfInBounds_toArray, List.set_cons_zero, List.set_cons_succ]
            refine wpAnyH_take (i := 1) (v := ?_) rfl (by kernel_rfl) (by kernel_rfl) (by kernel_rfl) (fun _ _ _ h => h) (Or.inl ⟨by rfl, ?_⟩) (by assumption) ?_
            rotate_left
            · intro w hSw
              try dsimp only at hSw
              go_simp
              try with_reducible rfl
            try simp only [Act.put, List.getElem_toArray, List.getElem_cons_succ, List.getElem_cons_zero, List.setIfInBounds_toArray, List.set_cons_zero, List.set_cons_succ]
            refine wpAnyH_take (i := 2) (v := ?_) rfl (by kernel_rfl) (by kernel_rfl) (by kernel_rfl) (fun _ _ _ h => h) (Or.inl ⟨by rfl, ?_⟩) (by assumption) ?_
            rotate_left
            · intro w hSw
              try dsimp only at hSw
              go_simp
              try with_reducible rfl
            try simp only [Act.put, List.getElem_toArray, List.getElem_cons_succ, List.getElem_cons_zero, List.setIfInBounds_toArray, List.set_cons_zero, List.set_cons_succ]
            refine wpAnyH_take (i := 3) (v := ?_) rfl (by kernel_rfl) (by kernel_rfl) (by kernel_rfl) (fun _ _ _ h => h) (Or.inl ⟨by rfl, ?_⟩) (by assumption) ?_
            rotate_left
            · intro w hSw
              try dsimp only at hSw
              go_simp
              try with_reducible rfl
            try simp only [Act.put, List.getElem_toArray, List.getElem_cons_succ, List.getElem_cons_zero, List.setIfInBounds_toArray, List.set_cons_zero, List.set_cons_succ]
            refine wpAnyH_take (i := 4) (v := ?_) rfl (by kernel_rfl) (by kernel_rfl) (by kernel_rfl) (fun _ _ _ h => h) (Or.inl ⟨by rfl, ?_⟩) (by assumption) ?_
            rotate_left
            · intro w hSw
              try dsimp only at hSw
              go_simp
              try with_reducible rfl
            try simp only [Act.put, List.getElem_toArray, List.getElem_cons_succ, List.getElem_cons_zero, List.setIfInBounds_toArray, List.set_cons_zero, List.set_cons_succ]
            refine wpAnyH_take (i := 5) (v := ?_) rfl (by kernel_rfl) (by kernel_rfl) (by kernel_rfl) (fun _ _ _ h => h) (Or.inl ⟨by rfl, ?_⟩) (by assumption) ?_
            rotate_left
            · intro w hSw
              try dsimp only at hSw
              go_simp
              try with_reducible rfl
            try simp only [Act.put, List.getElem_toArray, List.getElem_cons_succ, List.getElem_cons_zero, List.setIfInBounds_toArray, List.set_cons_zero, List.set_cons_succ]
            refine wpAnyH_take (i := 6) (v := ?_) rfl (by kernel_rfl) (by kernel_rfl) (by kernel_rfl) (fun _ _ _ h => h) (Or.inl ⟨by rfl, ?_⟩) (by assumption) ?_
            rotate_left
            · intro w hSw
              try dsimp only at hSw
              go_simp
              try with_reducible rfl
            try simp only [Act.put, List.getElem_toArray, List.getElem_cons_succ, List.getElem_cons_zero, List.setIfInBounds_toArray, List.set_cons_zero, List.set_cons_succ]
            refine wpAnyH_take (i := 7) (v := ?_) rfl (by kernel_rfl) (by kernel_rfl) (by kernel_rfl) (fun _ _ _ h => h) (Or.inl ⟨by rfl, ?_⟩) (by assumption) ?_
            rotate_left
            · intro w hSw
              try dsimp only at hSw
              go_simp
              try with_reducible rfl
            try simp only [Act.put, List.getElem_toArray, List.getElem_cons_succ, List.getElem_cons_zero, List.setIfInBounds_toArray, List.set_cons_zero, List.set_cons_succ]
            refine wpAnyH_take (i := 8) (v := ?_) rfl (by kernel_rfl) (by kernel_rfl) (by kernel_rfl) (fun _ _ _ h => h) (Or.inl ⟨by rfl, ?_⟩) (by assumption) ?_
            rotate_left
            · intro w hSw
              try dsimp only at hSw
              go_simp
              try with_reducible rfl
            try simp only [Act.put, List.getElem_toArray, List.getElem_cons_succ, List.getElem_cons_zero, List.setIfInBounds_toArray, List.set_cons_zero, List.set_cons_succ]
            refine wpAnyH_take (i := 9) (v := ?_) rfl (by kernel_rfl) (by kernel_rfl) (by kernel_rfl) (fun _ _ _ h => h) (Or.inl ⟨by rfl, ?_⟩) (by assumption) ?_
            rotate_left
            · intro w hSw
              try dsimp only at hSw
              go_simp
              try with_reducible rfl
            try simp only [Act.put, List.getElem_toArray, List.getElem_cons_succ, List.getElem_cons_zero, List.setIfInBounds_toArray, List.set_cons_zero, List.set_cons_succ]
            refine wpAnyH_take (i := 11) (v := ?_) rfl (by kernel_rfl) (by kernel_rfl) (by kernel_rfl) (fun _ _ _ h => h) (Or.inl ⟨by rfl, ?_⟩) (by assumption) ?_
            rotate_left
            · intro w hSw
              try dsimp only at hSw
              go_simp
              try with_reducible rfl
            try simp only [Act.put, List.getElem_toArray, List.getElem_cons_succ, List.getElem_cons_zero, List.setIfInBounds_toArray, List.set_cons_zero, List.set_cons_succ]
            refine wpAnyH_take (i := 12) (v := ?_) rfl (by kernel_rfl) (by kernel_rfl) (by kernel_rfl) (fun _ _ _ h => h) (Or.inl ⟨by rfl, ?_⟩) (by assumption) ?_
            rotate_left
            · intro w hSw
              try dsimp only at hSw
              go_simp
              try with_reducible rfl
            try simp only [Act.put, List.getElem_toArray, List.getElem_cons_succ, List.getElem_cons_zero, List.setIfInBounds_toArray, List.set_cons_zero, List.set_cons_succ]
            refine wpAnyH_ready (rs := [10]) (by kernel_rfl) (by simp) ?_
            refine AllReadyH.cons rfl (fun K hK => ?_) AllReadyH.nil
            go_simp
            (with_reducible refine Calls.mono HF.out ?_)
            rintro e6 w12 ⟨rfl, r12, o12⟩
            go_wp2_with fail
            refine hK.out _ _ ?_ (fun hHeld2 => ?_)
            · exact only_cell y3 o12 hxg
            clear hK K
            try simp only [Act.put, List.getElem_toArray, List.getElem_cons_succ, List.getElem_cons_zero, List.setIfInBounds_toArray, List.set_cons_zero, List.set_cons_succ]
            clear hHeld
            refine wpAnyH_take (i := 13) (v := ?_) rfl (by kernel_rfl) (by kernel_rfl) (by kernel_rfl) (fun _ _ _ h => h) (Or.inl ⟨by rfl, ?_⟩) (by assumption) ?_
            rotate_left
            · intro w hSw
              try dsimp only at hSw
              go_simp
              try with_reducible rfl
            try simp only [Act.put, List.getElem_toArray, List.getElem_cons_succ, List.getElem_cons_zero, List.setIfInBounds_toArray, List.set_cons_zero, List.set_cons_succ]
            refine wpAnyH_take (i := 14) (v := ?_) rfl (by kernel_rfl) (by kernel_rfl) (by kernel_rfl) (fun _ _ _ h => h) (Or.inl ⟨by rfl, ?_⟩) (by assumption) ?_
            rotate_left
            · intro w hSw
              try dsimp only at hSw
              go_simp
              try with_reducible rfl
            try simp only [Act.put, List.getElem_toArray, List.getElem_cons_succ, List.getElem_cons_zero, List.setIfInBounds_toArray, List.set_cons_zero, List.set_cons_succ]
            refine wpAnyH_take (i := 15) (v := ?_) rfl (by kernel_rfl) (by kernel_rfl) (by kernel_rfl) (fun _ _ _ h => h) (Or.inl ⟨by rfl, ?_⟩) (by assumption) ?_
            rotate_left
            · intro w hSw
              try dsimp only at hSw
              go_simp
              try with_reducible rfl
            try simp only [Act.put, List.getElem_toArray, List.getElem_cons_succ, List.getElem_cons_zero, List.setIfInBounds_toArray, List.set_cons_zero, List.set_cons_succ]
            refine wpAnyH_take (i := 16) (v := ?_) rfl (by kernel_rfl) (by kernel_rfl) (by kernel_rfl) (fun _ _ _ h => h) (Or.inl ⟨by rfl, ?_⟩) (by assumption) ?_
            rotate_left
            · intro w hSw
              try dsimp only at hSw
              go_simp
              try with_reducible rfl
            try simp only [Act.put, List.getElem_toArray, List.getElem_cons_succ, List.getElem_cons_zero, List.setIfInBounds_toArray, List.set_cons_zero, List.set_cons_succ]
            refine wpAnyH_take (i := 17) (v := ?_) rfl (by kernel_rfl) (by kernel_rfl) (by kernel_rfl) (fun _ _ _ h => h) (Or.inl ⟨by rfl, ?_⟩) (by assumption) ?_
            rotate_left
            · intro w hSw
              try dsimp only at hSw
              go_simp
              try with_reducible rfl
            try simp only [Act.put, List.getElem_toArray, List.getElem_cons_succ, List.getElem_cons_zero, List.setIfInBounds_toArray, List.set_cons_zero, List.set_cons_succ]
            refine wpAnyH_take (i := 18) (v := ?_) rfl (by kernel_rfl) (by kernel_rfl) (by kernel_rfl) (fun _ _ _ h => h) (Or.inl ⟨by rfl, ?_⟩) (by assumption) ?_
            rotate_left
            · intro w hSw
              try dsimp only at hSw
              go_simp
              try with_reducible rfl
            try simp only [Act.put, List.getElem_toArray, List.getElem_cons_succ, List.getElem_cons_zero, List.setIfInBounds_toArray, List.set_cons_zero, List.set_cons_succ]
            refine wpAnyH_take (i := 19) (v := ?_) rfl (by kernel_rfl) (by kernel_rfl) (by kernel_rfl) (fun _ _ _ h => h) (Or.inl ⟨by rfl, ?_⟩) (by assumption) ?_
            rotate_left
            · intro w hSw
              try dsimp only at hSw
              go_simp
              try with_reducible rfl
            try simp only [Act.put, List.getElem_toArray, List.getElem_cons_succ, List.getElem_cons_zero, List.setIfInBounds_toArray, List.set_cons_zero, List.set_cons_succ]
            refine wpAnyH_take (i := 20) (v := ?_) rfl (by kernel_rfl) (by kernel_rfl) (by kernel_rfl) (fun _ _ _ h => h) (Or.inl ⟨by rfl, ?_⟩) (by assumption) ?_
            rotate_left
            · intro w hSw
              try dsimp only at hSw
              go_simp
              try with_reducible rfl
            try simp only [Act.put, List.getElem_toArray, List.getElem_cons_succ, List.getElem_cons_zero, List.setIfInBounds_toArray, List.set_cons_zero, List.set_cons_succ]
            refine wpAnyH_take (i := 21) (v := undef) rfl (by kernel_rfl) (by kernel_rfl) (by kernel_rfl) (fun _ _ _ h => h) (Or.inr ⟨by rfl, rfl⟩) (by assumption) ?_
            try simp only [Act.put, List.getElem_toArray, List.getElem_cons_succ, List.getElem_cons_zero, List.setIfInBounds_toArray, List.set_cons_zero, List.set_cons_succ]
            refine wpAnyH_take (i := 22) (v := undef) rfl (by kernel_rfl) (by kernel_rfl) (by kernel_rfl) (fun _ _ _ h => h) (Or.inr ⟨by rfl, rfl⟩) (by assumption) ?_
            try simp only [Act.put, List.getElem_toArray, List.getElem_cons_succ, List.getElem_cons_zero, List.setIfInBounds_toArray, List.set_cons_zero, List.set_cons_succ]
            refine wpAnyH_take (i := 23) (v := ?_) rfl (by kernel_rfl) (by kernel_rfl) (by kernel_rfl) (fun _ _ _ h => h) (Or.inl ⟨by rfl, ?_⟩) (by assumption) ?_
            rotate_left
            · intro w hSw
              try dsimp only at hSw
              go_simp
              try with_reducible rfl
            try simp only [Act.put, List.getElem_toArray, List.getElem_cons_succ, List.getElem_cons_zero, List.setIfInBounds_toArray, List.set_cons_zero, List.set_cons_succ]
            refine wpAnyH_take (i := 24) (v := ?_) rfl (by kernel_rfl) (by kernel_rfl) (by kernel_rfl) (fun _ _ _ h => h) (Or.inl ⟨by rfl, ?_⟩) (by assumption) ?_
            rotate_left
            · intro w hSw
              try dsimp only at hSw
              go_simp
              try with_reducible rfl
            try simp only [Act.put, List.getElem_toArray, List.getElem_cons_succ, List.getElem_cons_zero, List.setIfInBounds_toArray, List.set_cons_zero, List.set_cons_succ]
            refine wpAnyH_done (by kernel_rfl) ?_ _
            go_wp2_with fail
            go_roundw
            case rel => exact ⟨j + 1, by omega, by go_num, hN.kept (step_only BY.drew o12 hgr), step_below hB (step_only BY.drew o12 hgr)⟩
            case measure => simp [intOf]; omega
      · as_aux_lemma =>
          have hst : ((Th.mk k 0 [] [] 0).got ⟨s, 0⟩).2 = ⟨[], e⟩ := rs_eq (by have := HO.out.1; simpa [nask, hk5] using this) (by have := HO.out.2; simpa [nask, hk5] using this)
          have kk : (k == 5) = false := by simpa using hk5
          have HS := Lib.hid hst
          clear hst hk5
          go_wp2_with fail
          refine (got_any ⟨k, 0, [], [], 0⟩ none 0 R ⟨s, 0⟩ w9 k0 r9).mono ?_
          rintro e' w10 ⟨xa, xc, rfl, -, r10, o10⟩
          rw [HS.out] at r10 ⊢
          have BX := step_only BR o10 hgr
          have XB := Blk.grown XA9 o10 (some_ne hxg)
          have x3 : w10.cell? ⟨wr.heap.size, 3, none⟩ = some (.int .i64 e) := XB.cell 3
          have r10' : RdAt R ⟨[], e⟩ w10.drew := Blk.drew r10
          clear r9 XA9 o10 c0 c1 c2 c3 xk xm
          go_wp2_with fail
          go_region_held3 (fun w' => w'.cell? ⟨wr.heap.size, 3, none⟩ = some (.int .i64 e)) (first | exact x3 | go_keep) (first | (go_at_call 30; (with_reducible refine (left_any R ⟨[], e⟩ _ r10').mono ?_); rintro e6 w6 ⟨rfl, rfl⟩) | (go_at_call 46; (with_reducible refine (wrong_any R ⟨[], e⟩ _ r10').mono ?_); rintro e6 w6 ⟨rfl, rfl⟩))
          go_wp2_with fail
          refine (Byte_any R ⟨[], e⟩ _ r10').mono ?_
          rintro e' w11 ⟨rfl, r11, o11⟩
          have XC := Blk.grown (Blk.drew XB) o11 (some_ne hxg)
          have BY := step_only BX.drew o11 hgr
          have y3 : w11.cell? ⟨wr.heap.size, 3, none⟩ = some (.int .i64 e) := XC.cell 3
          clear x3 XB r10 r10' BX
          by_cases he : e = 0
          · subst he
            have hb : RS.num 1 ⟨[], 0⟩ = ((0 : Int), (⟨[], 8⟩ : RS)) := rfl
            rw [hb] at r11 ⊢
            clear hb
            go_wp2_with fail
            go_quiet (fail)
            go_wp2_with fail
            go_roundw
            case rel => exact ⟨j + 1, by omega, by go_num, hN.kept (below_drewN BY _), step_below hB (below_drewN BY _)⟩
            case measure => simp [intOf]; omega
          · have hb : RS.num 1 ⟨[], e⟩ = ((0 : Int), (⟨[], e⟩ : RS)) := by
              unfold RS.num
              rw [if_pos he]
            rw [hb] at r11 ⊢
            clear hb
            have hf : RS.fin ⟨[], e⟩ = ⟨[], e⟩ := by simp [RS.fin, he]
            have HF := Lib.hid (end_any R ⟨[], e⟩ w11.drew (Blk.drew r11))
            rw [hf] at HF
            clear hf
            have he0 : (e == 0) = false := by simpa using he
            have he1 : (e != 0) = true := by simpa using he
            clear he OE HO HS kk
            go_wp2_with fail
            refine wp_region_held_drew (S := fun w' => w'.cell? ⟨wr.heap.size, 3, none⟩ = some (.int .i64 e)) (by kernel_rfl) ?_ (fun hHeld => ?_)
            · exact y3
            refine wpAnyH_take (i := 0) (v := ?_) rfl (by kernel_rfl) (by kernel_rfl) (by kernel_rfl) (fun _ _ _ h => h) (Or.inl ⟨by rfl, ?_⟩) (by assumption) ?_
            rotate_left
            · intro w hSw
              try dsimp only at hSw
              go_simp
              try with_reducible rfl
            try simp only [Act.put, List.getElem_toArray, List.getElem_cons_zero, List.setIfInBounds_toArray, List.set_cons_zero, List.set_cons_succ]
            refine wpAnyH_take (i := 1) (v := ?_) rfl (by kernel_rfl) (by kernel_rfl) (by kernel_rfl) (fun _ _ _ h => h) (Or.inl ⟨by rfl, ?_⟩) (by assumption) ?_
            rotate_left
            · intro w hSw
              try dsimp only at hSw
              go_simp
              try with_reducible rfl
            try simp only [Act.put, List.getElem_toArray, List.getElem_cons_succ, List.getElem_cons_zero, List.setIfInBounds_toArray, List.set_cons_zero, List.set_cons_succ]
            refine wpAnyH_take (i := 2) (v := ?_) rfl (by kernel_rfl) (by kernel_rfl) (by kernel_rfl) (fun _ _ _ h => h) (Or.inl ⟨by rfl, ?_⟩) (by assumption) ?_
            rotate_left
            · intro w hSw
              try dsimp only at hSw
              go_simp
              try with_reducible rfl
            try simp only [Act.put, List.getElem_toArray, List.getElem_cons_succ, List.getElem_cons_zero, List.setIfInBounds_toArray, List.set_cons_zero, List.set_cons_succ]
            refine wpAnyH_take (i := 3) (v := ?_) rfl (by kernel_rfl) (by kernel_rfl) (by kernel_rfl) (fun _ _ _ h => h) (Or.inl ⟨by rfl, ?_⟩) (by assumption) ?_
            rotate_left
            · intro w hSw
              try dsimp only at hSw
              go_simp
              try with_reducible rfl
            try simp only [Act.put, List.getElem_toArray, List.getElem_cons_succ, List.getElem_cons_zero, List.setIfInBounds_toArray, List.set_cons_zero, List.set_cons_succ]
            refine wpAnyH_take (i := 4) (v := ?_) rfl (by kernel_rfl) (by kernel_rfl) (by kernel_rfl) (fun _ _ _ h => h) (Or.inl ⟨by rfl, ?_⟩) (by assumption) ?_
            rotate_left
            · intro w hSw
              try dsimp only at hSw
              go_simp
              try with_reducible rfl
            try simp only [Act.put, List.getElem_toArray, List.getElem_cons_succ, List.getElem_cons_zero, List.setIfInBounds_toArray, List.set_cons_zero, List.set_cons_succ]
            refine wpAnyH_take (i := 5) (v := ?_) rfl (by kernel_rfl) (by kernel_rfl) (by kernel_rfl) (fun _ _ _ h => h) (Or.inl ⟨by rfl, ?_⟩) (by assumption) ?_
            rotate_left
            · intro w hSw
              try dsimp only at hSw
              go_simp
              try with_reducible rfl
            try simp only [Act.put, List.getElem_toArray, List.getElem_cons_succ, List.getElem_cons_zero, List.setIfInBounds_toArray, List.set_cons_zero, List.set_cons_succ]
            refine wpAnyH_take (i := 6) (v := ?_) rfl (by kernel_rfl) (by kernel_rfl) (by kernel_rfl) (fun _ _ _ h => h) (Or.inl ⟨by rfl, ?_⟩) (by assumption) ?_
            rotate_left
            · intro w hSw
              try dsimp only at hSw
              go_simp
              try with_reducible rfl
            try simp only [Act.put, List.getElem_toArray, List.getElem_cons_succ, List.getElem_cons_zero, List.setIfInBounds_toArray, List.set_cons_zero, List.set_cons_succ]
            refine wpAnyH_take (i := 7) (v := ?_) rfl (by kernel_rfl) (by kernel_rfl) (by kernel_rfl) (fun _ _ _ h => h) (Or.inl ⟨by rfl, ?_⟩) (by assumption) ?_
            rotate_left
            · intro w hSw
              try dsimp only at hSw
              go_simp
              try with_reducible rfl
            try simp only [Act.put, List.getElem_toArray, List.getElem_cons_succ, List.getElem_cons_zero, List.setIfInBounds_toArray, List.set_cons_zero, List.set_cons_succ]
            refine wpAnyH_take (i := 8) (v := ?_) rfl (by kernel_rfl) (by kernel_rfl) (by kernel_rfl) (fun _ _ _ h => h) (Or.inl ⟨by rfl, ?_⟩) (by assumption) ?_
            rotate_left
            · intro w hSw
              try dsimp only at hSw
              go_simp
              try with_reducible rfl
            try simp only [Act.put, List.getElem_toArray, List.getElem_cons_succ, List.getElem_cons_zero, List.setIfInBounds_toArray, List.set_cons_zero, List.set_cons_succ]
            refine wpAnyH_take (i := 9) (v := ?_) rfl (by kernel_rfl) (by kernel_rfl) (by kernel_rfl) (fun _ _ _ h => h) (Or.inl ⟨by rfl, ?_⟩) (by assumption) ?_
            rotate_left
            · intro w hSw
              try dsimp only at hSw
              go_simp
              try with_reducible rfl
            try simp only [Act.put, List.getElem_toArray, List.getElem_cons_succ, List.getElem_cons_zero, List.setIfInBounds_toArray, List.set_cons_zero, List.set_cons_succ]
            refine wpAnyH_take (i := 11) (v := ?_) rfl (by kernel_rfl) (by kernel_rfl) (by kernel_rfl) (fun _ _ _ h => h) (Or.inl ⟨by rfl, ?_⟩) (by assumption) ?_
            rotate_left
            · intro w hSw
              try dsimp only at hSw
              go_simp
              try with_reducible rfl
            try simp only [Act.put, List.getElem_toArray, List.getElem_cons_succ, List.getElem_cons_zero, List.setIfInBounds_toArray, List.set_cons_zero, List.set_cons_succ]
            refine wpAnyH_take (i := 12) (v := ?_) rfl (by kernel_rfl) (by kernel_rfl) (by kernel_rfl) (fun _ _ _ h => h) (Or.inl ⟨by rfl, ?_⟩) (by assumption) ?_
            rotate_left
            · intro w hSw
              try dsimp only at hSw
              go_simp
              try with_reducible rfl
            try simp only [Act.put, List.getElem_toArray, List.getElem_cons_succ, List.getElem_cons_zero, List.setIfInBounds_toArray, List.set_cons_zero, List.set_cons_succ]
            refine wpAnyH_ready (rs := [10]) (by kernel_rfl) (by simp) ?_
            refine AllReadyH.cons rfl (fun K hK => ?_) AllReadyH.nil
            go_simp
            (with_reducible refine Calls.mono HF.out ?_)
            rintro e6 w12 ⟨rfl, r12, o12⟩
            go_wp2_with fail
            refine hK.out _ _ ?_ (fun hHeld2 => ?_)
            · exact only_cell y3 o12 hxg
            clear hK K
            try simp only [Act.put, List.getElem_toArray, List.getElem_cons_succ, List.getElem_cons_zero, List.setIfInBounds_toArray, List.set_cons_zero, List.set_cons_succ]
            clear hHeld
            refine wpAnyH_take (i := 13) (v := ?_) rfl (by kernel_rfl) (by kernel_rfl) (by kernel_rfl) (fun _ _ _ h => h) (Or.inl ⟨by rfl, ?_⟩) (by assumption) ?_
            rotate_left
            · intro w hSw
              try dsimp only at hSw
              go_simp
              try with_reducible rfl
            try simp only [Act.put, List.getElem_toArray, List.getElem_cons_succ, List.getElem_cons_zero, List.setIfInBounds_toArray, List.set_cons_zero, List.set_cons_succ]
            refine wpAnyH_take (i := 14) (v := ?_) rfl (by kernel_rfl) (by kernel_rfl) (by kernel_rfl) (fun _ _ _ h => h) (Or.inl ⟨by rfl, ?_⟩) (by assumption) ?_
            rotate_left
            · intro w hSw
              try dsimp only at hSw
              go_simp
              try with_reducible rfl
            try simp only [Act.put, List.getElem_toArray, List.getElem_cons_succ, List.getElem_cons_zero, List.setIfInBounds_toArray, List.set_cons_zero, List.set_cons_succ]
            refine wpAnyH_take (i := 15) (v := ?_) rfl (by kernel_rfl) (by kernel_rfl) (by kernel_rfl) (fun _ _ _ h => h) (Or.inl ⟨by rfl, ?_⟩) (by assumption) ?_
            rotate_left
            · intro w hSw
              try dsimp only at hSw
              go_simp
              try with_reducible rfl
            try simp only [Act.put, List.getElem_toArray, List.getElem_cons_succ, List.getElem_cons_zero, List.setIfInBounds_toArray, List.set_cons_zero, List.set_cons_succ]
            refine wpAnyH_take (i := 16) (v := ?_) rfl (by kernel_rfl) (by kernel_rfl) (by kernel_rfl) (fun _ _ _ h => h) (Or.inl ⟨by rfl, ?_⟩) (by assumption) ?_
            rotate_left
            · intro w hSw
              try dsimp only at hSw
              go_simp
              try with_reducible rfl
            try simp only [Act.put, List.getElem_toArray, List.getElem_cons_succ, List.getElem_cons_zero, List.setIfInBounds_toArray, List.set_cons_zero, List.set_cons_succ]
            refine wpAnyH_take (i := 17) (v := ?_) rfl (by kernel_rfl) (by kernel_rfl) (by kernel_rfl) (fun _ _ _ h => h) (Or.inl ⟨by rfl, ?_⟩) (by assumption) ?_
            rotate_left
            · intro w hSw
              try dsimp only at hSw
              go_simp
              try with_reducible rfl
            try simp only [Act.put, List.getElem_toArray, List.getElem_cons_succ, List.getElem_cons_zero, List.setIfInBounds_toArray, List.set_cons_zero, List.set_cons_succ]
            refine wpAnyH_take (i := 18) (v := ?_) rfl (by kernel_rfl) (by kernel_rfl) (by kernel_rfl) (fun _ _ _ h => h) (Or.inl ⟨by rfl, ?_⟩) (by assumption) ?_
            rotate_left
            · intro w hSw
              try dsimp only at hSw
              go_simp
              try with_reducible rfl
            try simp only [Act.put, List.getElem_toArray, List.getElem_cons_succ, List.getElem_cons_zero, List.setIfInBounds_toArray, List.set_cons_zero, List.set_cons_succ]
            refine wpAnyH_take (i := 19) (v := ?_) rfl (by kernel_rfl) (by kernel_rfl) (by kernel_rfl) (fun _ _ _ h => h) (Or.inl ⟨by rfl, ?_⟩) (by assumption) ?_
            rotate_left
            · intro w hSw
              try dsimp only at hSw
              go_simp
              try with_reducible rfl
            try simp only [Act.put, List.getElem_toArray, List.getElem_cons_succ, List.getElem_cons_zero, List.setIfInBounds_toArray, List.set_cons_zero, List.set_cons_succ]
            refine wpAnyH_take (i := 20) (v := ?_) rfl (by kernel_rfl) (by kernel_rfl) (by kernel_rfl) (fun _ _ _ h => h) (Or.inl ⟨by rfl, ?_⟩) (by assumption) ?_
            rotate_left
            · intro w hSw
              try dsimp only at hSw
              go_simp
              try with_reducible rfl
            try simp only [Act.put, List.getElem_toArray, List.getElem_cons_succ, List.getElem_cons_zero, List.setIfInBounds_toArray, List.set_cons_zero, List.set_cons_succ]
            refine wpAnyH_take (i := 21) (v := undef) rfl (by kernel_rfl) (by kernel_rfl) (by kernel_rfl) (fun _ _ _ h => h) (Or.inr ⟨by rfl, rfl⟩) (by assumption) ?_
            try simp only [Act.put, List.getElem_toArray, List.getElem_cons_succ, List.getElem_cons_zero, List.setIfInBounds_toArray, List.set_cons_zero, List.set_cons_succ]
            refine wpAnyH_take (i := 22) (v := undef) rfl (by kernel_rfl) (by kernel_rfl) (by kernel_rfl) (fun _ _ _ h => h) (Or.inr ⟨by rfl, rfl⟩) (by assumption) ?_
            try simp only [Act.put, List.getElem_toArray, List.getElem_cons_succ, List.getElem_cons_zero, List.setIfInBounds_toArray, List.set_cons_zero, List.set_cons_succ]
            refine wpAnyH_take (i := 23) (v := ?_) rfl (by kernel_rfl) (by kernel_rfl) (by kernel_rfl) (fun _ _ _ h => h) (Or.inl ⟨by rfl, ?_⟩) (by assumption) ?_
            rotate_left
            · intro w hSw
              try dsimp only at hSw
              go_simp
              try with_reducible rfl
            try simp only [Act.put, List.getElem_toArray, List.getElem_cons_succ, List.getElem_cons_zero, List.setIfInBounds_toArray, List.set_cons_zero, List.set_cons_succ]
            refine wpAnyH_take (i := 24) (v := ?_) rfl (by kernel_rfl) (by kernel_rfl) (by kernel_rfl) (fun _ _ _ h => h) (Or.inl ⟨by rfl, ?_⟩) (by assumption) ?_
            rotate_left
            · intro w hSw
              try dsimp only at hSw
              go_simp
              try with_reducible rfl
            try simp only [Act.put, List.getElem_toArray, List.getElem_cons_succ, List.getElem_cons_zero, List.setIfInBounds_toArray, List.set_cons_zero, List.set_cons_succ]
            refine wpAnyH_done (by kernel_rfl) ?_ _
            go_wp2_with fail
            go_roundw
            case rel => exact ⟨j + 1, by omega, by go_num, hN.kept (step_only BY.drew o12 hgr), step_below hB (step_only BY.drew o12 hgr)⟩
            case measure => simp [intOf]; omega
    · as_aux_lemma =>
        have hje : j = 17 := by omega
        subst hje
        clear hN hj hlt
        obtain ⟨Z1, hZ1⟩ : ∃ Z1 : List UInt8, Z1 = List.replicate 2049 0 := ⟨_, rfl⟩
        obtain ⟨Z2, hZ2⟩ : ∃ Z2 : List UInt8, Z2 = List.replicate 2048 0 := ⟨_, rfl⟩
        obtain ⟨N2, hN2⟩ : ∃ N2 : List Int, N2 = List.replicate 1024 0 := ⟨_, rfl⟩
        have hmk1 : ∀ w, (Instr.makeSlice 37 (.int .i64 2049) (.int .i64 2049)).run Try.prog w = .ok (.slice (some ⟨w.heap.size, 0, none⟩) 2049 2049) (w.alloc (zerosAt 2049)) := fun w => mk_bytes 2049 (by omega) w
        have hcv1 : ∀ w : World, (convert 37 9 (.slice (some ⟨w.heap.size, 0, none⟩) 2049 2049)).run Try.prog (w.alloc (zerosAt 2049)) = .ok (.string ⟨Z1.toArray⟩) (w.alloc (zerosAt 2049)) := by
          rw [hZ1]
          exact fun w => conv_zeros 2049 w
        have hmk2 : ∀ w, (Instr.makeSlice 37 (.int .i64 2048) (.int .i64 2048)).run Try.prog w = .ok (.slice (some ⟨w.heap.size, 0, none⟩) 2048 2048) (w.alloc (zerosAt 2048)) := fun w => mk_bytes 2048 (by omega) w
        have hcv2 : ∀ w : World, (convert 37 9 (.slice (some ⟨w.heap.size, 0, none⟩) 2048 2048)).run Try.prog (w.alloc (zerosAt 2048)) = .ok (.string ⟨Z2.toArray⟩) (w.alloc (zerosAt 2048)) := by
          rw [hZ2]
          exact fun w => conv_zeros 2048 w
        have hmk3 : ∀ w, (Instr.makeSlice 23 (.int .i64 1025) (.int .i64 1025)).run Try.prog w = .ok (.slice (some ⟨w.heap.size, 0, none⟩) 1025 1025) (w.alloc (zeroNums 1025)) := fun w => mk_nums 1025 (by omega) w
        have hmk4 : ∀ w, (Instr.makeSlice 23 (.int .i64 1024) (.int .i64 1024)).run Try.prog w = .ok (.slice (some ⟨w.heap.size, 0, none⟩) 1024 1024) (w.alloc (zeroNums 1024)) := fun w => mk_nums 1024 (by omega) w
        have l1 : Z1.length = 2049 := by rw [hZ1, List.length_replicate]
        have l2 : Z2.length = 2048 := by rw [hZ2, List.length_replicate]
        have l4 : N2.length = 1024 := by rw [hN2, List.length_replicate]
        have u4 : ∀ x ∈ N2, U64 x := by rw [hN2]; exact zero_u64 1024
        have HT := Lib.hid (text_long [115] Z1 (wr.alloc (zerosAt 2049)) (by omega) (by omega))
        have C1 := hB.alloc hB.size (zerosAt 2049)
        have HL := Lib.hid (list_long [115] (some ⟨wr.heap.size + 1, 0, none⟩) 1025 1025 ((wr.alloc (zerosAt 2049)).alloc (zeroNums 1025)) (by omega) (by omega))
        have C2 := C1.alloc C1.size (zeroNums 1025)
        have K1 := Lib.hid (And.intro hZ2 (And.intro hN2 (And.intro l2 (And.intro l4 u4))))
        clear hZ1 hZ2 hN2 l1 l2 l4 u4
        go_wp2_with fail
        refine (Calls.mono HT.out ?_)
        rintro e w3 ⟨rfl, rfl⟩
        go_wp2_with fail
        refine (Calls.mono HL.out ?_)
        rintro e w4 ⟨rfl, rfl⟩
        clear HT HL hmk1 hcv1 hmk3
        generalize (wr.alloc (zerosAt 2049)).alloc (zeroNums 1025) = w5 at *
        go_wp2_with fail
        refine (text_ok [] Z2 _ (by rw [K1.out.2.2.1]; omega) (by simp)).mono ?_
        rintro e w6 ⟨rfl, b6⟩
        have C6 := (C2.alloc C2.size (zerosAt 2048)).trans (b6.mono (C2.alloc C2.size (zerosAt 2048)).size)
        go_wp2_with fail
        have HLO := list_ok [] (some ⟨w6.heap.size, 0, none⟩) 1024 N2 (w6.alloc (zeroNums 1024)) (by rw [K1.out.2.1]; exact zero_nums 1024 w6) K1.out.2.2.2.2 (by rw [K1.out.2.2.2.1]; omega) (by simp)
        rw [K1.out.2.2.2.1] at HLO
        have HLO2 := Lib.hid HLO
        clear HLO
        refine (Calls.mono HLO2.out ?_)
        rintro e w7 ⟨rfl, b7⟩
        have C7 := (C6.alloc C6.size (zeroNums 1024)).trans (b7.mono (C6.alloc C6.size (zeroNums 1024)).size)
        have t1 : (((bText Z2).length : Int) == 2050) = true := by rw [bText_length, K1.out.2.2.1]; rfl
        have t2 : (((bList N2).length : Int) == 8194) = true := by rw [bList_length, K1.out.2.2.2.1]; rfl
        have t3 : ((bText Z2).length : Int) ≤ 10000 := by rw [bText_length, K1.out.2.2.1]; decide
        have t4 : ((bList N2).length : Int) ≤ 10000 := by rw [bList_length, K1.out.2.2.2.1]; decide
        clear HLO2 hmk2 hcv2 hmk4
        go_wp2_with fail
        refine (open_any [7, 7] w7).mono ?_
        rintro e w8' ⟨rfl, r8, b8⟩
        have C8 := C7.trans (b8.mono C7.size)
        have hG := C7.size
        generalize w7.heap.size = G at *
        have HB : Calls Try.prog 40 #[.pointer (some ⟨G, 0, none⟩)] w8' (fun e w' => e = .returned (.tuple #[.int .u8 7, .int .i64 0]) ∧ RdAt G lf1 w' ∧ Only w8' w' G) := Byte_any G lf0 w8' r8
        have HBH := Lib.hid HB
        clear HB
        go_wp2_with fail
        refine (Calls.mono HBH.out ?_)
        rintro e w9' ⟨rfl, r9, o9⟩
        have C9 := below_only C8 o9 hG C8.size
        have H1 : Calls Try.prog 30 #[.pointer (some ⟨G, 0, none⟩)] w9' (fun e w' => e = .returned (.int .i64 1) ∧ w9' = w') := left_any G lf1 w9' r9
        have H2 : Calls Try.prog 32 #[.pointer (some ⟨G, 0, none⟩)] w9' (fun e w' => e = .returned (.int .i64 10) ∧ RdAt G lf2 w' ∧ Only w9' w' G) := end_any G lf1 w9' r9
        have HH1 := Lib.hid H1
        have HH2 := Lib.hid H2
        clear H1 H2 HBH C7 C8 b8 b7 o9
        go_wp2_with fail
        refine (Calls.mono HH1.out ?_)
        rintro e w10 ⟨rfl, rfl⟩
        go_wp2_with fail
        refine (Calls.mono HH2.out ?_)
        rintro e w11 ⟨rfl, r11, o11⟩
        have C11 := below_only C9 o11 hG C9.size
        have H3 : Calls Try.prog 30 #[.pointer (some ⟨G, 0, none⟩)] w11 (fun e w' => e = .returned (.int .i64 0) ∧ w11 = w') := left_any G lf2 w11 r11
        have H4 : Calls Try.prog 46 #[.pointer (some ⟨G, 0, none⟩)] w11 (fun e w' => e = .returned (.int .i64 10) ∧ w11 = w') := wrong_any G lf2 w11 r11
        have HH3 := Lib.hid H3
        have HH4 := Lib.hid H4
        clear H3 H4
        go_wp2_with fail
        refine (Calls.mono HH3.out ?_)
        rintro e w12 ⟨rfl, rfl⟩
        go_wp2_with fail
        refine (Calls.mono HH4.out ?_)
        rintro e w13 ⟨rfl, rfl⟩
        go_wp2_with fail
        go_ret
        exact ⟨rfl, C11⟩
end Go.Proofs.Ytdnkijljpmcejaa
