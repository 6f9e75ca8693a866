/-
  consistorylaw09.WireLengths at lists: the walk.
-/
import Derived.Test.YtdnkijljpmcejaaLensT
import Derived.Deep.RegionLaw
import Derived.Deep.DeepCutAuto
namespace Go.Proofs.Ytdnkijljpmcejaa
open Go.RowKit

theorem own_blk {w : World} {base : Nat} {e : TypeId} {n : Nat} {v : Value} {xs : List Value} (h : w.ownsRow base e 1 v n xs) (hv : v.ownBlock ≠ none) : ∃ g c, v = .slice (some ⟨g, 0, none⟩) n c ∧ ((n : Nat) : Int) ≤ (c : Int) := by
  rcases h.2 with ⟨rfl, _⟩ | ⟨g, c, _, rfl, _, _, hc, _⟩
  · exact absurd rfl hv
  · exact ⟨g, c, rfl, by omega⟩
theorem Nums.take {k : IntKind} {w : World} {B : Nat} {a : Option Addr} {xs : List Int} (h : Nums k w B a xs) (n : Nat) : Nums k w B a (xs.take n) := by
  rcases h with rfl | ⟨b, o, rfl, hb, hc⟩
  · exact .inl (by simp)
  · refine .inr ⟨b, o, rfl, hb, fun i x hx => hc i x ?_⟩
    rw [List.getElem?_take] at hx
    split at hx
    · exact hx
    · simp at hx
theorem Nums.news {k : IntKind} {w : World} {B : Nat} {a : Option Addr} {xs : List Int} (h : Nums k w B a xs) : xs.map (Value.int k) = [] ∨ ∃ p, a = some p ∧ ∀ j u, (xs.map (Value.int k))[j]? = some u → w.cell? (p.add j) = some u := by
  rcases h with rfl | ⟨b, o, rfl, hb, hc⟩
  · exact .inl rfl
  · refine .inr ⟨_, rfl, fun j u hu => ?_⟩
    rw [List.getElem?_map] at hu
    cases hx : xs[j]? with
    | none => simp [hx] at hu
    | some x =>
      simp [hx] at hu
      subst hu
      rw [Addr.add_lit]
      exact hc j x hx
theorem list_may {t : Th} {X : List UInt8} (h4 : t.k = 4) (hX : (Th.mk t.k t.n t.s t.l t.most).bytes = X) : (t.may = true → ∀ {o : Th} {S : List Int}, S.length = t.l.length → (Th.mk t.k o.n o.s S o.most).may = true) ∧ (t.may = false → X = []) := by
  refine ⟨fun h o S hs => ?_, fun h => ?_⟩
  · simp [Th.may, h4, hs] at h ⊢
    exact h
  · rw [← hX]
    have : ¬ t.l.length ≤ 1024 := by simpa [Th.may, h4] using h
    simp [Th.bytes, h4, this]
theorem bNums_inj : ∀ {a b : List Int} (_ : ∀ x ∈ a, U64 x) (_ : ∀ x ∈ b, U64 x) (_ : a.length = b.length), bNums a = bNums b → a = b
  | [], [], _, _, _, _ => rfl
  | x :: a, y :: b, ha, hb, hl, h => by
    simp only [bNums] at h
    obtain ⟨h1, h2⟩ := List.append_inj h (by simp [be_length])
    have hx := ha x (by simp)
    have hy := hb y (by simp)
    have e := be_inj hx.toNat_lt hy.toNat_lt h1
    have h0 := hx.1
    have h0' := hy.1
    rw [bNums_inj (fun x h => ha x (by simp [h])) (fun x h => hb x (by simp [h])) (by simpa using hl) h2, show x = y by omega]
theorem lens_list' {t o : Th} {S : List Int} {X Y : List UInt8} (hu : ∀ x ∈ t.l, U64 x) (hu' : ∀ x ∈ S, U64 x) (hm : t.may = true) (h4 : t.k = 4) (hs : S.length = t.l.length) (hX : (Th.mk t.k t.n t.s t.l t.most).bytes = X) (hY : (Th.mk t.k o.n o.s S o.most).bytes = Y) : X.length = Y.length ∧ ((X == Y) == (t.l == S)) = true := by
  have hl : t.l.length ≤ 1024 := by simpa [Th.may, h4] using hm
  have e1 : X = bList t.l := by rw [← hX]; simp [Th.bytes, h4, hl]
  have e2 : Y = bList S := by rw [← hY]; simp [Th.bytes, h4, hs, hl]
  refine ⟨by rw [e1, e2, bList_length, bList_length, hs], beq_beq (p := t.l = S) ⟨fun h => ?_, fun h => by rw [e1, e2, h]⟩ (by simp)⟩
  rw [e1, e2] at h
  unfold bList at h
  exact bNums_inj hu hu' hs.symm (List.append_inj h (by simp [be_length])).2
theorem made_u64 {o : Th} {n : Nat} (hu : ∀ x ∈ o.l, U64 x) : ∀ x ∈ (o.l ++ List.replicate n 0).take n, U64 x := by
  intro x hx
  have hx := List.mem_of_mem_take hx
  rw [List.mem_append] at hx
  rcases hx with h | h
  · exact hu x h
  · rw [List.eq_of_mem_replicate h]; constructor <;> simp

theorem below_d {wc w3 : World} (b : Below wc.drew.heap.size wc.drew w3) : Below wc.heap.size wc w3 := (Below.refl _ wc).drew.trans b
theorem take_beq {a b : List Int} {j : Nat} {p q : Int} (hp : a[j]? = some p) (hq : b[j]? = some q) : (a.take (j + 1) == b.take (j + 1)) = ((a.take j == b.take j) && (p == q)) := by
  have ha : j < a.length := (List.getElem?_eq_some_iff.1 hp).1
  have hb : j < b.length := (List.getElem?_eq_some_iff.1 hq).1
  rw [List.take_add_one, List.take_add_one, hp, hq]
  have e : (a.take j ++ [p] = b.take j ++ [q]) ↔ (a.take j = b.take j ∧ p = q) :=
    ⟨fun h => by have := List.append_inj' h rfl; simpa using this, fun ⟨h1, h2⟩ => by rw [h1, h2]⟩
  rw [Bool.eq_iff_iff]
  simp only [Option.toList_some, beq_iff_eq, Bool.and_eq_true]
  exact e
theorem lens_made {w W2 : World} {t o : Th} {a a' : Option Addr} {c c' q qc : Nat} {S : List Int} (ne : w.heap.size ≠ w.heap.size + 1) (hS : S = (o.l ++ List.replicate t.l.length 0).take t.l.length)
    (BA : Blk W2 w.heap.size 34 #[.int .u8 t.k, .int .u64 t.n, .string ⟨t.s.toArray⟩, .slice a t.l.length c, .int .i64 t.most]) (BB : Blk W2 (w.heap.size + 1) 34 #[.int .u8 t.k, .int .u64 o.n, .string ⟨o.s.toArray⟩, .slice a' o.l.length c', .int .i64 o.most]) (B : Below w.heap.size w W2)
    (own : W2.ownsRow w.heap.size 22 1 (.slice (some ⟨q, 0, none⟩) (0 + o.l.length + t.l.length) qc) (0 + o.l.length + t.l.length) ([] ++ o.l.map (.int .u64) ++ List.replicate t.l.length (.int .u64 0))) :
    let wx := W2.setCell ⟨w.heap.size + 1, 3, none⟩ (.slice (some ⟨q, 0, none⟩) t.l.length qc)
    ∃ la lc, Blk wx w.heap.size 34 #[.int .u8 t.k, .int .u64 t.n, .string ⟨t.s.toArray⟩, .slice a t.l.length c, .int .i64 t.most] ∧ Blk wx (w.heap.size + 1) 34 #[.int .u8 t.k, .int .u64 o.n, .string ⟨o.s.toArray⟩, .slice la S.length lc, .int .i64 o.most] ∧ Nums .u64 wx wx.heap.size la S ∧ Below w.heap.size w wx := by
  intro wx
  have e : [] ++ o.l.map (Value.int .u64) ++ List.replicate t.l.length (.int .u64 0) = (o.l ++ List.replicate t.l.length 0).map (.int .u64) := by simp
  rw [e] at own
  have hl : S.length = t.l.length := by rw [hS]; simp
  refine ⟨some ⟨q, 0, none⟩, qc, BA.farc ne _, by rw [hl]; exact BB.set_ 3 _, ?_, B.setCell (p := ⟨w.heap.size + 1, 3, none⟩) (by simp) _⟩
  rw [hS]
  exact (own_nums (own_setc (i := 3) own BB (by decide) (.slice (some ⟨q, 0, none⟩) t.l.length qc))).take _

set_option maxRecDepth 100000 in
set_option maxHeartbeats 6000000 in
theorem lens_list (t o : Th) (a a' : Option Addr) (c c' : Nat) (w : World) (ht : Fit t) (ho : Fit o) (ha : Nums .u64 w w.heap.size a t.l) (ha' : Nums .u64 w w.heap.size a' o.l) (h3 : t.k = 4) :
    Calls Try.prog 4 #[t.val a c, o.val a' c'] w (TruePost w) := by
  have HK := Lib.hid h3
  clear h3
  obtain ⟨A, hA⟩ : ∃ A : Array Value, A = #[.int .u8 t.k, .int .u64 t.n, .string ⟨t.s.toArray⟩, .slice a t.l.length c, .int .i64 t.most] := ⟨_, rfl⟩
  obtain ⟨B, hB⟩ : ∃ B : Array Value, B = #[.int .u8 o.k, .int .u64 o.n, .string ⟨o.s.toArray⟩, .slice a' o.l.length c', .int .i64 o.most] := ⟨_, rfl⟩
  obtain ⟨C, hC⟩ : ∃ C : Array Value, C = #[.int .u8 t.k, .int .u64 t.n, .string ⟨t.s.toArray⟩, .slice a t.l.length c, .int .i64 t.most, .int .u8 o.k, .int .u64 o.n, .string ⟨o.s.toArray⟩, .slice a' o.l.length c', .int .i64 o.most] := ⟨_, rfl⟩
  have BA := ((Blk.new w 34 A).alloc (.cells B 34)).alloc (.cells C 34)
  have BB := (Blk.new (w.alloc (.cells A 34)) 34 B).alloc (.cells C 34)
  have BC := Blk.new ((w.alloc (.cells A 34)).alloc (.cells B 34)) 34 C
  have b0 : Below w.heap.size w (((w.alloc (.cells A 34)).alloc (.cells B 34)).alloc (.cells C 34)) := (((Below.refl _ w).alloc (Nat.le_refl _) _).alloc (by simp) _).alloc (by simp; omega) _
  generalize hW : ((w.alloc (.cells A 34)).alloc (.cells B 34)).alloc (.cells C 34) = W at BA BB BC b0
  simp only [asz] at BB BC
  subst hC
  have n1 := (ha.kept b0 (Nat.le_refl _)).more b0.size
  have n2 := (ha'.kept b0 (Nat.le_refl _)).more b0.size
  have HL := Lib.hid (long_any _ 2 [t, o] W (two_things n1 n2 _ BC.lt BC) (by simp; exact ⟨ht, ho⟩) (by simp))
  clear BC
  go_enter Try.func4, Try.ntmps4
  unfold Th.val
  go_wp2_with fail
  rw [← hA, ← hB, hW]
  refine Calls.mono HL.out ?_
  clear HL
  rintro e w1 ⟨x, rfl, hx, b1⟩
  have B1 := step_below b0 b1
  cases x with
  | true =>
    rw [hA, hB]
    clear hA hB hW
    go_wp2_with fail
    refine (awake_any w1).mono ?_
    rintro e w2 ⟨rfl, b2⟩
    go_wp2_with fail
    go_ret
    exact ⟨rfl, step_below B1 b2⟩
  | false =>
    have ht9 := hx rfl
    clear hx
    simp only [tot] at ht9
    have BA1 := BA.kept b1
    have BB1 := BB.kept b1
    rw [hA, hB]
    rw [hA] at BA1
    rw [hB] at BB1
    clear hA hB hW
    go_wp2_with fail
    refine (awake_any w1).mono ?_
    rintro e w2 ⟨rfl, b2⟩
    have B2 := step_below B1 b2
    have BA2 := BA1.kept b2
    have BB2 := BB1.kept b2
    obtain ⟨S, hS⟩ : ∃ S, S = (o.l ++ List.replicate t.l.length 0).take t.l.length := ⟨_, rfl⟩
    have hSu := made_u64 (n := t.l.length) ho.ok.l
    rw [← hS] at hSu
    have ne : w.heap.size ≠ w.heap.size + 1 := by omega
    have BA3 := BA2.farc (c := w.heap.size + 1) (i := 0) ne (.int .u8 t.k)
    have BB3 := BB2.set_ 0 (.int .u8 t.k)
    have B3 : Below w.heap.size w (w2.setCell ⟨w.heap.size + 1, 0, none⟩ (.int .u8 t.k)) := B2.setCell (p := ⟨w.heap.size + 1, 0, none⟩) (by simp) _
    have x0 : (w2.setCell ⟨w.heap.size + 1, 0, none⟩ (.int .u8 t.k)).cell? ⟨w.heap.size, 0, none⟩ = some (.int .u8 t.k) := BA3.cell 0
    have a0 : w2.cell? ⟨w.heap.size, 0, none⟩ = some (.int .u8 t.k) := BA2.cell 0
    have z0 : w2.cell? ⟨w.heap.size + 1, 0, none⟩ = some (.int .u8 o.k) := BB2.cell 0
    have f0 : w2.frozen? ⟨w.heap.size + 1, 0, none⟩ = false := BB2.frozen 0
    have hSl : S.length = t.l.length := by rw [hS]; simp
    have HS := Lib.hid hS
    clear hS
    have hS9 : S.length ≤ 9223372036854775807 := by omega
    have k3 : (t.k == 3) = false := by rw [HK.out]; rfl
    have k4 : (t.k == 4) = true := by rw [HK.out]; rfl
    go_upto_region 7 with fail
    generalize w2.setCell ⟨w.heap.size + 1, 0, none⟩ (.int .u8 t.k) = V at *
    go_cut [] from 40 to 52 (fun wx => ∃ la lc, Blk wx w.heap.size 34 #[.int .u8 t.k, .int .u64 t.n, .string ⟨t.s.toArray⟩, .slice a t.l.length c, .int .i64 t.most] ∧ Blk wx (w.heap.size + 1) 34 #[.int .u8 t.k, .int .u64 o.n, .string ⟨o.s.toArray⟩, .slice la S.length lc, .int .i64 o.most] ∧ Nums .u64 wx wx.heap.size la S ∧ Below w.heap.size w wx)
    case first =>
      obtain ⟨i0, hi, hz0, hz1, hz2⟩ := info_parts info64
      have BA4 := (BA3.alloc (.cells #[] 22)).drew
      have BB4 := (BB3.alloc (.cells #[] 22)).drew
      have B4 : Below w.heap.size w (V.alloc (.cells #[] 22)).drew := (B3.alloc B3.size _).drew
      have n4 := Nums.news (ha'.kept B4 (Nat.le_refl _))
      have own0 : (V.alloc (.cells #[] 22)).drew.ownsRow w.heap.size 22 1 (.slice (some ⟨V.heap.size, 0, none⟩) 0 0) 0 [] := (World.ownsRow_made V #[] 0 B3.size (Nat.zero_le _) (by simp)).drew
      have s4 : w.heap.size ≤ (V.alloc (.cells #[] 22)).drew.heap.size := B4.size
      have x3 : V.cell? ⟨w.heap.size, 3, none⟩ = some (.slice a t.l.length c) := BA3.cell 3
      have x3' : (V.alloc (.cells #[] 22)).drew.cell? ⟨w.heap.size, 3, none⟩ = some (.slice a t.l.length c) := BA4.cell 3
      have y3 : V.cell? ⟨w.heap.size + 1, 3, none⟩ = some (.slice a' o.l.length c') := BB3.cell 3
      have y3' : (V.alloc (.cells #[] 22)).drew.cell? ⟨w.heap.size + 1, 3, none⟩ = some (.slice a' o.l.length c') := BB4.cell 3
      have hb1 : (0 + o.l.length) * 8 ≤ 140737488355328 := by omega
      have hb2 : (0 + o.l.length + t.l.length) * 8 ≤ 140737488355328 := by omega
      have nb0 : (Value.slice (some ⟨V.heap.size, 0, none⟩) 0 0).ownBlock ≠ none := by simp [Value.ownBlock]
      have hcells : (Value.int .u64 0).cells = #[.int .u64 0] := rfl
      have hone : ∀ u ∈ o.l.map (Value.int .u64), u.oneCell' = true := by
        intro u hu
        obtain ⟨x, _, rfl⟩ := List.mem_map.1 hu
        rfl
      have hml : (o.l.map (Value.int .u64)).length = o.l.length := by simp
      clear x0 a0 z0 f0 k3 k4 BA BB b0 n1 n2 b1 B1 BA1 BB1 b2 B2 BA2 BB2 ht9 hSu hS9 ha ha' ht ho hSl B3 BA3 BB3 HK
      go_region_law (first
        | (refine step_append_any (by rfl) _ _ 23 (by rfl) w.heap.size 22 i0 (.int .u64 0) Try.underlying23 hi hz0 hz1 hz2 hcells _ 0 [] (by rfl) own0 nb0 a' o.l.length c' (o.l.map (.int .u64)) (by rfl) hml n4 hone hb1 s4 ?_; intro v1 W1 own1 g1 nb1; have BA5 := BA4.grown g1 (own_ne' own0 BA4 (by decide)); have BB5 := BB4.grown g1 (own_ne' own0 BB4 (by decide)); have B5 := B4.grown g1 s4 (own_lt own0); have x35 : W1.cell? ⟨w.heap.size, 3, none⟩ = some (.slice a t.l.length c) := BA5.cell 3; have s5 : w.heap.size ≤ W1.heap.size := B5.size)
        | (refine step_append_zeros (by rfl) _ _ 23 3 (by rfl) w.heap.size 22 i0 (.int .u64 0) .i64 .i64 Try.underlying23 Try.underlying3 hi hz0 hz1 hz2 hcells rfl _ (0 + o.l.length) _ (by rfl) own1 nb1 t.l.length (by rfl) hb2 s5 ?_; intro v2 W2 own2 g2 nb2; have BA6 := BA5.grown g2 (own_ne' own1 BA5 (by decide)); have BB6 := BB5.grown g2 (own_ne' own1 BB5 (by decide)); have B6 := B5.grown g2 s5 (own_lt own1); have x36 : W2.cell? ⟨w.heap.size, 3, none⟩ = some (.slice a t.l.length c) := BA6.cell 3; have y36 : W2.cell? ⟨w.heap.size + 1, 3, none⟩ = some (.slice a' o.l.length c') := BB6.cell 3; have f36 : W2.frozen? ⟨w.heap.size + 1, 3, none⟩ = false := BB6.frozen 3; obtain ⟨q, qc, rfl, hqc⟩ := own_blk own2 nb2; have hq2 : (t.l.length : Int) ≤ (qc : Int) := by omega))
      all_goals
        go_wp2_with fail
        go_meet
        exact lens_made ne HS.out BA6 BB6 B6 own2
    case rest =>
      obtain ⟨la, lc, BA4, BB4, nS, B4⟩ := hcut
      have HSl := Lib.hid hSl
      clear hSl
      have x0 : wc.cell? ⟨w.heap.size, 0, none⟩ = some (.int .u8 t.k) := BA4.cell 0
      have x1 : wc.cell? ⟨w.heap.size, 1, none⟩ = some (.int .u64 t.n) := BA4.cell 1
      have x2 : wc.cell? ⟨w.heap.size, 2, none⟩ = some (.string ⟨t.s.toArray⟩) := BA4.cell 2
      have x3 : wc.cell? ⟨w.heap.size, 3, none⟩ = some (.slice a t.l.length c) := BA4.cell 3
      have x4 : wc.cell? ⟨w.heap.size, 4, none⟩ = some (.int .i64 t.most) := BA4.cell 4
      have y0 : wc.cell? ⟨w.heap.size + 1, 0, none⟩ = some (.int .u8 t.k) := BB4.cell 0
      have y1 : wc.cell? ⟨w.heap.size + 1, 1, none⟩ = some (.int .u64 o.n) := BB4.cell 1
      have y2 : wc.cell? ⟨w.heap.size + 1, 2, none⟩ = some (.string ⟨o.s.toArray⟩) := BB4.cell 2
      have y3 : wc.cell? ⟨w.heap.size + 1, 3, none⟩ = some (.slice la S.length lc) := BB4.cell 3
      have y4 : wc.cell? ⟨w.heap.size + 1, 4, none⟩ = some (.int .i64 o.most) := BB4.cell 4
      have HP := Lib.hid (And.intro B4.drew (And.intro ha nS))
      clear BA3 BB3 BA2 BB2 BA1 BB1 BA BB BA4 BB4 B4 B3 B2 B1 b1 b2 b0 n1 n2 ha ha' nS a0 z0 f0
      go_wp2_with fail
      go_region_held3 (fun w' => w'.cell? ⟨w.heap.size, 0, none⟩ = some (.int .u8 t.k) ∧ w'.cell? ⟨w.heap.size, 1, none⟩ = some (.int .u64 t.n) ∧ w'.cell? ⟨w.heap.size, 2, none⟩ = some (.string ⟨t.s.toArray⟩) ∧ w'.cell? ⟨w.heap.size, 3, none⟩ = some (.slice a t.l.length c) ∧ w'.cell? ⟨w.heap.size, 4, none⟩ = some (.int .i64 t.most) ∧
          w'.cell? ⟨w.heap.size + 1, 0, none⟩ = some (.int .u8 t.k) ∧ w'.cell? ⟨w.heap.size + 1, 1, none⟩ = some (.int .u64 o.n) ∧ w'.cell? ⟨w.heap.size + 1, 2, none⟩ = some (.string ⟨o.s.toArray⟩) ∧ w'.cell? ⟨w.heap.size + 1, 3, none⟩ = some (.slice la S.length lc) ∧ w'.cell? ⟨w.heap.size + 1, 4, none⟩ = some (.int .i64 o.most))
        (first | exact ⟨x0, x1, x2, x3, x4, y0, y1, y2, y3, y4⟩ | exact ⟨cell_keepd x0 b3, cell_keepd x1 b3, cell_keepd x2 b3, cell_keepd x3 b3, cell_keepd x4 b3, cell_keepd y0 b3, cell_keepd y1 b3, cell_keepd y2 b3, cell_keepd y3 b3, cell_keepd y4 b3⟩ | exact ⟨cell_keep (cell_keepd x0 b3) b4, cell_keep (cell_keepd x1 b3) b4, cell_keep (cell_keepd x2 b3) b4, cell_keep (cell_keepd x3 b3) b4, cell_keep (cell_keepd x4 b3) b4, cell_keep (cell_keepd y0 b3) b4, cell_keep (cell_keepd y1 b3) b4, cell_keep (cell_keepd y2 b3) b4, cell_keep (cell_keepd y3 b3) b4, cell_keep (cell_keepd y4 b3) b4⟩ | go_keep)
        (first
        | (go_at_call 26; (with_reducible refine (put_agg t.k t.n t.s t.l t.most a c _ w ht.ok HP.out.2.1 HP.out.1 ht.s' ht.l').mono ?_); rintro e w3 ⟨rfl, b3⟩)
        | (go_at_call 26; (with_reducible refine (put_agg t.k o.n o.s S o.most la lc _ wc ⟨ht.ok.k, ho.ok.n, hSu, ho.ok.most⟩ HP.out.2.2 (below_d b3) ho.s' hS9).mono ?_); rintro e w4 ⟨rfl, b4⟩))
      go_wp2_with fail
      generalize hX : (Th.mk t.k t.n t.s t.l t.most).bytes = X
      generalize hY : (Th.mk t.k o.n o.s S o.most).bytes = Y
      have HX := Lib.hid hX
      have HY := Lib.hid hY
      clear hX hY
      have BV := HP.out.1.trans (b3.mono HP.out.1.size)
      have BV4 := step_below BV b4
      have xx := And.intro (cell_keep (cell_keepd x0 b3) b4) (And.intro (cell_keep (cell_keepd x1 b3) b4) (And.intro (cell_keep (cell_keepd x2 b3) b4) (And.intro (cell_keep (cell_keepd x3 b3) b4) (cell_keep (cell_keepd x4 b3) b4))))
      have yy := And.intro (cell_keep (cell_keepd y0 b3) b4) (And.intro (cell_keep (cell_keepd y1 b3) b4) (And.intro (cell_keep (cell_keepd y2 b3) b4) (And.intro (cell_keep (cell_keepd y3 b3) b4) (cell_keep (cell_keepd y4 b3) b4))))
      clear x0 x1 x2 x3 x4 y0 y1 y2 y3 y4 BV
      obtain ⟨x0, x1, x2, x3, x4⟩ := xx
      obtain ⟨y0, y1, y2, y3, y4⟩ := yy
      have k3' : (t.k != 3) = true := by rw [HK.out]; rfl
      have k4' : (t.k != 4) = false := by rw [HK.out]; rfl
      have k0' : (t.k == 0) = false := by rw [HK.out]; rfl
      refine (may_any t a c w4 ht.s' ht.l').mono ?_
      rintro e w5 ⟨rfl, b5⟩
      have B5 := step_below BV4 b5
      have xx := And.intro (cell_keep x0 b5) (And.intro (cell_keep x1 b5) (And.intro (cell_keep x2 b5) (And.intro (cell_keep x3 b5) (cell_keep x4 b5))))
      have yy := And.intro (cell_keep y0 b5) (And.intro (cell_keep y1 b5) (And.intro (cell_keep y2 b5) (And.intro (cell_keep y3 b5) (cell_keep y4 b5))))
      clear x0 x1 x2 x3 x4 y0 y1 y2 y3 y4
      obtain ⟨x0, x1, x2, x3, x4⟩ := xx
      obtain ⟨y0, y1, y2, y3, y4⟩ := yy
      cases hm : t.may with
      | false =>
        have hX0 : X = [] := (list_may HK.out HX.out).2 hm
        subst hX0
        clear HX
        go_wp2_with fail
        go_ret
        exact ⟨rfl, B5⟩
      | true =>
        go_wp2_with fail
        refine (may_any ⟨t.k, o.n, o.s, S, o.most⟩ la lc w5 ho.s' hS9).mono ?_
        rintro e w6 ⟨rfl, b6⟩
        have B6 := step_below B5 b6
        have xx := And.intro (cell_keep x0 b6) (And.intro (cell_keep x1 b6) (And.intro (cell_keep x2 b6) (And.intro (cell_keep x3 b6) (cell_keep x4 b6))))
        have yy := And.intro (cell_keep y0 b6) (And.intro (cell_keep y1 b6) (And.intro (cell_keep y2 b6) (And.intro (cell_keep y3 b6) (cell_keep y4 b6))))
        clear x0 x1 x2 x3 x4 y0 y1 y2 y3 y4
        obtain ⟨x0, x1, x2, x3, x4⟩ := xx
        obtain ⟨y0, y1, y2, y3, y4⟩ := yy
        have hm2 : (Th.mk t.k o.n o.s S o.most).may = true := (list_may HK.out HX.out).1 hm HSl.out
        rw [hm2]
        obtain ⟨hlen, hs⟩ := lens_list' ht.ok.l hSu hm HK.out HSl.out HX.out HY.out
        have HQ := Lib.hid hs
        have N6 := HP.out.2.1.kept B6 (Nat.le_refl _)
        have BC6 : Below wc.heap.size wc w6 := ((below_d b3).trans (b4.mono b3.size)).trans ((b5.mono (Nat.le_trans b3.size b4.size)).trans (b6.mono (Nat.le_trans (Nat.le_trans b3.size b4.size) b5.size)))
        have M6 := HP.out.2.2.kept BC6 (Nat.le_refl _)
        clear hs hm hm2 b3 b4 b5 BV4 B5
        go_wp2_with fail
        have hu6 : w.heap.size ≤ w6.heap.size := B6.size
        have hc6 : wc.heap.size ≤ w6.heap.size := BC6.size
        have htl9 : t.l.length ≤ 9000 := by omega
        go_loopw [7, 8] (fun u v wr => ∃ j : Nat, j ≤ t.l.length ∧ v = .int .i64 j ∧ u = .bool (t.l.take j == S.take j) ∧ Below w6.heap.size w6 wr) (fun _ v _ => t.l.length - (intOf v).toNat)
        case atStart =>
          exact ⟨0, Nat.zero_le _, rfl, by simp, Below.refl _ _⟩
        case round =>
          obtain ⟨j, hj, rfl, rfl, hB⟩ := hrel
          have r3 := cell_keep x3 hB
          have s3 := cell_keep y3 hB
          by_cases hlt : j < t.l.length
          · have hlt2 : j < S.length := by rw [HSl.out]; exact hlt
            obtain ⟨p, hp⟩ : ∃ p, t.l[j]? = some p := ⟨_, List.getElem?_eq_getElem hlt⟩
            obtain ⟨q, hq⟩ : ∃ q, S[j]? = some q := ⟨_, List.getElem?_eq_getElem hlt2⟩
            have hnext : (t.l.take (j + 1) == S.take (j + 1)) = ((t.l.take j == S.take j) && (p == q)) := take_beq hp hq
            rcases N6.kept hB hu6 with h0 | ⟨b1, o1, rfl, hb1, hc1⟩
            · rw [h0] at hlt; simp at hlt
            rcases M6.kept hB hc6 with h0 | ⟨b2, o2, rfl, hb2, hc2⟩
            · rw [h0] at hlt2; simp at hlt2
            have e1 := hc1 j p hp
            have e2 := hc2 j q hq
            have HN := Lib.hid hnext
            have h2I : (j : Int) < (S.length : Int) := by omega
            clear hnext hp hq hc1 hc2
            cases hg : (t.l.take j == S.take j) with
            | true =>
              go_wp2_with fail
              go_quiet (fail)
              go_wp2_with fail
              go_roundw
              case rel =>
                exact ⟨j + 1, by omega, by go_num, by rw [HN.out, hg]; simp, below_drewN hB _⟩
              case measure => simp [intOf]; omega
            | false =>
              go_wp2_with fail
              go_quiet (fail)
              go_wp2_with fail
              go_roundw
              case rel =>
                exact ⟨j + 1, by omega, by go_num, by rw [HN.out, hg]; simp, below_drewN hB _⟩
              case measure => simp [intOf]; omega
          · have hje : j = t.l.length := by omega
            subst hje
            have e3 : (t.l.take t.l.length == S.take t.l.length) = (t.l == S) := by rw [List.take_length, List.take_of_length_le (by rw [HSl.out]; exact Nat.le_refl _)]
            rw [e3]
            clear e3
            go_wp2_with fail
            go_ret
            exact ⟨ret_bool HQ.out, step_below B6 hB⟩
end Go.Proofs.Ytdnkijljpmcejaa
