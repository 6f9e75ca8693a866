/-
  consistorylaw09.WireLengths: the walk.
-/
import Derived.Test.YtdnkijljpmcejaaCuts
namespace Go.Proofs.Ytdnkijljpmcejaa
open Go.RowKit

theorem two_things {w : World} {B : Nat} {t o : Th} {a a' : Option Addr} {c c' : Nat} (ha : Nums .u64 w B a t.l) (ho : Nums .u64 w B a' o.l) (g : Nat) (hg : g < B) (h : Blk w g 34 #[.int .u8 t.k, .int .u64 t.n, .string ⟨t.s.toArray⟩, .slice a t.l.length c, .int .i64 t.most, .int .u8 o.k, .int .u64 o.n, .string ⟨o.s.toArray⟩, .slice a' o.l.length c', .int .i64 o.most]) :
    Things w B (some ⟨g, 0, none⟩) [t, o] := by
  refine .inr ⟨g, 0, rfl, hg, fun i x hx => ?_⟩
  match i, hx with
  | 0, hx =>
    simp at hx
    subst hx
    exact ⟨a, c, ha, h.cell 0, h.cell 1, h.cell 2, h.cell 3, h.cell 4⟩
  | 1, hx =>
    simp at hx
    subst hx
    exact ⟨a', c', ho, h.cell 5, h.cell 6, h.cell 7, h.cell 8, h.cell 9⟩
  | i + 2, hx => simp at hx

theorem Fit.s' {t : Th} (h : Fit t) : t.s.length ≤ 9223372036854775807 := by have := h.s; omega
theorem Fit.l' {t : Th} (h : Fit t) : t.l.length ≤ 9223372036854775807 := by have := h.l; omega
theorem ok_as {t o : Th} (ht : t.Ok) (ho : o.Ok) : (Th.mk t.k o.n o.s o.l o.most).Ok := ⟨ht.k, ho.n, ho.l, ho.most⟩

theorem beq_beq {α : Type} [BEq α] [LawfulBEq α] {x y : α} {p : Prop} {b : Bool} (h : x = y ↔ p) (hb : b = true ↔ p) : ((x == y) == b) = true := by
  have : (x == y) = b := by
    cases b with
    | true => simpa using h.2 (hb.1 rfl)
    | false =>
      have : ¬ p := fun hp => by simpa using hb.2 hp
      simpa using fun e => this (h.1 e)
  simp [this]
theorem lens_byte {t o : Th} {X Y : List UInt8} (k0 : t.k = 0) (hX : (Th.mk t.k t.n t.s t.l t.most).bytes = X) (hY : (Th.mk t.k o.n o.s o.l o.most).bytes = Y) : X.length = Y.length ∧ ((X == Y) == (t.n % 256 == o.n % 256)) = true := by
  rw [k0] at hX hY
  have e1 : X = be (t.n % 256).toNat 1 := by rw [← hX]; simp [Th.bytes]
  have e2 : Y = be (o.n % 256).toNat 1 := by rw [← hY]; simp [Th.bytes]
  refine ⟨by rw [e1, e2, be_length, be_length], beq_beq (p := t.n % 256 = o.n % 256) ⟨fun h => ?_, fun h => by rw [e1, e2, h]⟩ (by simp)⟩
  rw [e1, e2] at h
  have := be_inj (by rw [p256_1]; omega) (by rw [p256_1]; omega) h
  omega
theorem lens_num' {t o : Th} {X Y : List UInt8} (ht : t.Ok) (ho : o.Ok) (k0 : ¬ t.k = 0) (k3 : t.k ≠ 3) (k4 : t.k ≠ 4) (hX : (Th.mk t.k t.n t.s t.l t.most).bytes = X) (hY : (Th.mk t.k o.n o.s o.l o.most).bytes = Y) : X.length = Y.length ∧ ((X == Y) == (t.n == o.n)) = true := by
  have e1 : X = be t.n.toNat 8 := by rw [← hX]; simp [Th.bytes, k0, k3, k4]
  have e2 : Y = be o.n.toNat 8 := by rw [← hY]; simp [Th.bytes, k0, k3, k4]
  refine ⟨by rw [e1, e2, be_length, be_length], beq_beq (p := t.n = o.n) ⟨fun h => ?_, fun h => by rw [e1, e2, h]⟩ (by simp)⟩
  rw [e1, e2] at h
  have := be_inj ht.n.toNat_lt ho.n.toNat_lt h
  have h1 := ht.n.1
  have h2 := ho.n.1
  omega

set_option maxRecDepth 100000 in
set_option maxHeartbeats 400000 in
theorem lens_num (t o : Th) (a a' : Option Addr) (c c' : Nat) (w : World) (ht : Fit t) (ho : Fit o) (ha : Nums .u64 w w.heap.size a t.l) (ha' : Nums .u64 w w.heap.size a' o.l) (h3 : t.k ≠ 3) (h4 : t.k ≠ 4) :
    Calls Try.prog 4 #[t.val a c, o.val a' c'] w (TruePost w) := by
  obtain ⟨A, hA⟩ : ∃ A : Array Value, A = #[.int .u8 t.k, .int .u64 t.n, .string ⟨t.s.toArray⟩, .slice a t.l.length c, .int .i64 t.most] := ⟨_, rfl⟩
  obtain ⟨B, hB⟩ : ∃ B : Array Value, B = #[.int .u8 o.k, .int .u64 o.n, .string ⟨o.s.toArray⟩, .slice a' o.l.length c', .int .i64 o.most] := ⟨_, rfl⟩
  obtain ⟨C, hC⟩ : ∃ C : Array Value, C = #[.int .u8 t.k, .int .u64 t.n, .string ⟨t.s.toArray⟩, .slice a t.l.length c, .int .i64 t.most, .int .u8 o.k, .int .u64 o.n, .string ⟨o.s.toArray⟩, .slice a' o.l.length c', .int .i64 o.most] := ⟨_, rfl⟩
  have BA := ((Blk.new w 34 A).alloc (.cells B 34)).alloc (.cells C 34)
  have BB := (Blk.new (w.alloc (.cells A 34)) 34 B).alloc (.cells C 34)
  have BC := Blk.new ((w.alloc (.cells A 34)).alloc (.cells B 34)) 34 C
  have b0 : Below w.heap.size w (((w.alloc (.cells A 34)).alloc (.cells B 34)).alloc (.cells C 34)) := (((Below.refl _ w).alloc (Nat.le_refl _) _).alloc (by simp) _).alloc (by simp; omega) _
  generalize hW : ((w.alloc (.cells A 34)).alloc (.cells B 34)).alloc (.cells C 34) = W at BA BB BC b0
  simp only [asz] at BB BC
  subst hC
  have n1 := (ha.kept b0 (Nat.le_refl _)).more b0.size
  have n2 := (ha'.kept b0 (Nat.le_refl _)).more b0.size
  have HL := Lib.hid (long_any _ 2 [t, o] W (two_things n1 n2 _ BC.lt BC) (by simp; exact ⟨ht, ho⟩) (by simp))
  clear BC
  go_enter Try.func4, Try.ntmps4
  unfold Th.val
  go_wp2_with fail
  rw [← hA, ← hB, hW]
  refine Calls.mono HL.out ?_
  clear HL
  rintro e w1 ⟨x, rfl, hx, b1⟩
  have B1 := step_below b0 b1
  cases x with
  | true =>
    rw [hA, hB]
    clear hA hB hW
    go_wp2_with fail
    refine (awake_any w1).mono ?_
    rintro e w2 ⟨rfl, b2⟩
    go_wp2_with fail
    go_ret
    exact ⟨rfl, step_below B1 b2⟩
  | false =>
    have BA1 := BA.kept b1
    have BB1 := BB.kept b1
    rw [hA, hB]
    rw [hA] at BA1
    rw [hB] at BB1
    clear hA hB hW
    go_wp2_with fail
    refine (awake_any w1).mono ?_
    rintro e w2 ⟨rfl, b2⟩
    have B2 := step_below B1 b2
    have BA2 := BA1.kept b2
    have BB2 := BB1.kept b2
    have ne : w.heap.size ≠ w.heap.size + 1 := by omega
    have BA3 := BA2.farc (c := w.heap.size + 1) (i := 0) ne (.int .u8 t.k)
    have BB3 := BB2.set_ 0 (.int .u8 t.k)
    have B3 : Below w.heap.size w (w2.setCell ⟨w.heap.size + 1, 0, none⟩ (.int .u8 t.k)) := B2.setCell (p := ⟨w.heap.size + 1, 0, none⟩) (by simp) _
    have x0 : (w2.setCell ⟨w.heap.size + 1, 0, none⟩ (.int .u8 t.k)).cell? ⟨w.heap.size, 0, none⟩ = some (.int .u8 t.k) := BA3.cell 0
    have x1 : (w2.setCell ⟨w.heap.size + 1, 0, none⟩ (.int .u8 t.k)).cell? ⟨w.heap.size, 1, none⟩ = some (.int .u64 t.n) := BA3.cell 1
    have x2 : (w2.setCell ⟨w.heap.size + 1, 0, none⟩ (.int .u8 t.k)).cell? ⟨w.heap.size, 2, none⟩ = some (.string ⟨t.s.toArray⟩) := BA3.cell 2
    have x3 : (w2.setCell ⟨w.heap.size + 1, 0, none⟩ (.int .u8 t.k)).cell? ⟨w.heap.size, 3, none⟩ = some (.slice a t.l.length c) := BA3.cell 3
    have x4 : (w2.setCell ⟨w.heap.size + 1, 0, none⟩ (.int .u8 t.k)).cell? ⟨w.heap.size, 4, none⟩ = some (.int .i64 t.most) := BA3.cell 4
    have y0 : (w2.setCell ⟨w.heap.size + 1, 0, none⟩ (.int .u8 t.k)).cell? ⟨w.heap.size + 1, 0, none⟩ = some (.int .u8 t.k) := BB3.cell 0
    have y1 : (w2.setCell ⟨w.heap.size + 1, 0, none⟩ (.int .u8 t.k)).cell? ⟨w.heap.size + 1, 1, none⟩ = some (.int .u64 o.n) := BB3.cell 1
    have y2 : (w2.setCell ⟨w.heap.size + 1, 0, none⟩ (.int .u8 t.k)).cell? ⟨w.heap.size + 1, 2, none⟩ = some (.string ⟨o.s.toArray⟩) := BB3.cell 2
    have y3 : (w2.setCell ⟨w.heap.size + 1, 0, none⟩ (.int .u8 t.k)).cell? ⟨w.heap.size + 1, 3, none⟩ = some (.slice a' o.l.length c') := BB3.cell 3
    have y4 : (w2.setCell ⟨w.heap.size + 1, 0, none⟩ (.int .u8 t.k)).cell? ⟨w.heap.size + 1, 4, none⟩ = some (.int .i64 o.most) := BB3.cell 4
    have a0 : w2.cell? ⟨w.heap.size, 0, none⟩ = some (.int .u8 t.k) := BA2.cell 0
    have z0 : w2.cell? ⟨w.heap.size + 1, 0, none⟩ = some (.int .u8 o.k) := BB2.cell 0
    have f0 : w2.frozen? ⟨w.heap.size + 1, 0, none⟩ = false := BB2.frozen 0
    have k3 : (t.k == 3) = false := by simpa using h3
    have k4 : (t.k == 4) = false := by simpa using h4
    go_wp2_with fail
    have HP := Lib.hid (And.intro B3.drew (And.intro ha ha'))
    clear BA3 BB3 BA2 BB2 BA1 BB1 BA BB B2 B1 b1 b2 b0 n1 n2 ha ha' a0 z0 f0
    generalize w2.setCell ⟨w.heap.size + 1, 0, none⟩ (.int .u8 t.k) = V at *
    go_region_held3 (fun w' => w'.cell? ⟨w.heap.size, 0, none⟩ = some (.int .u8 t.k) ∧ w'.cell? ⟨w.heap.size, 1, none⟩ = some (.int .u64 t.n) ∧ w'.cell? ⟨w.heap.size, 2, none⟩ = some (.string ⟨t.s.toArray⟩) ∧ w'.cell? ⟨w.heap.size, 3, none⟩ = some (.slice a t.l.length c) ∧ w'.cell? ⟨w.heap.size, 4, none⟩ = some (.int .i64 t.most) ∧
        w'.cell? ⟨w.heap.size + 1, 0, none⟩ = some (.int .u8 t.k) ∧ w'.cell? ⟨w.heap.size + 1, 1, none⟩ = some (.int .u64 o.n) ∧ w'.cell? ⟨w.heap.size + 1, 2, none⟩ = some (.string ⟨o.s.toArray⟩) ∧ w'.cell? ⟨w.heap.size + 1, 3, none⟩ = some (.slice a' o.l.length c') ∧ w'.cell? ⟨w.heap.size + 1, 4, none⟩ = some (.int .i64 o.most))
      (first | exact ⟨x0, x1, x2, x3, x4, y0, y1, y2, y3, y4⟩ | exact ⟨cell_keepd x0 b3, cell_keepd x1 b3, cell_keepd x2 b3, cell_keepd x3 b3, cell_keepd x4 b3, cell_keepd y0 b3, cell_keepd y1 b3, cell_keepd y2 b3, cell_keepd y3 b3, cell_keepd y4 b3⟩ | exact ⟨cell_keep (cell_keepd x0 b3) b4, cell_keep (cell_keepd x1 b3) b4, cell_keep (cell_keepd x2 b3) b4, cell_keep (cell_keepd x3 b3) b4, cell_keep (cell_keepd x4 b3) b4, cell_keep (cell_keepd y0 b3) b4, cell_keep (cell_keepd y1 b3) b4, cell_keep (cell_keepd y2 b3) b4, cell_keep (cell_keepd y3 b3) b4, cell_keep (cell_keepd y4 b3) b4⟩ | go_keep)
      (first
      | (go_at_call 26; (with_reducible refine (put_agg t.k t.n t.s t.l t.most a c _ w ht.ok HP.out.2.1 HP.out.1 ht.s' ht.l').mono ?_); rintro e w3 ⟨rfl, b3⟩)
      | (go_at_call 26; (with_reducible refine (put_agg t.k o.n o.s o.l o.most a' c' _ w (ok_as ht.ok ho.ok) HP.out.2.2 (HP.out.1.trans (b3.mono HP.out.1.size)) ho.s' ho.l').mono ?_); rintro e w4 ⟨rfl, b4⟩))
    go_wp2_with fail
    generalize hX : (Th.mk t.k t.n t.s t.l t.most).bytes = X
    generalize hY : (Th.mk t.k o.n o.s o.l o.most).bytes = Y
    have HX := Lib.hid hX
    have HY := Lib.hid hY
    clear hX hY
    have BV := HP.out.1.trans (b3.mono HP.out.1.size)
    have BV4 := step_below BV b4
    have xx := And.intro (cell_keep (cell_keepd x0 b3) b4) (And.intro (cell_keep (cell_keepd x1 b3) b4) (And.intro (cell_keep (cell_keepd x2 b3) b4) (And.intro (cell_keep (cell_keepd x3 b3) b4) (cell_keep (cell_keepd x4 b3) b4))))
    have yy := And.intro (cell_keep (cell_keepd y0 b3) b4) (And.intro (cell_keep (cell_keepd y1 b3) b4) (And.intro (cell_keep (cell_keepd y2 b3) b4) (And.intro (cell_keep (cell_keepd y3 b3) b4) (cell_keep (cell_keepd y4 b3) b4))))
    clear x0 x1 x2 x3 x4 y0 y1 y2 y3 y4 BV
    obtain ⟨x0, x1, x2, x3, x4⟩ := xx
    obtain ⟨y0, y1, y2, y3, y4⟩ := yy
    have k3' : (t.k != 3) = true := by simpa using h3
    have k4' : (t.k != 4) = true := by simpa using h4
    refine (may_any t a c w4 ht.s' ht.l').mono ?_
    rintro e w5 ⟨rfl, b5⟩
    have B5 := step_below BV4 b5
    have xx := And.intro (cell_keep x0 b5) (And.intro (cell_keep x1 b5) (And.intro (cell_keep x2 b5) (And.intro (cell_keep x3 b5) (cell_keep x4 b5))))
    have yy := And.intro (cell_keep y0 b5) (And.intro (cell_keep y1 b5) (And.intro (cell_keep y2 b5) (And.intro (cell_keep y3 b5) (cell_keep y4 b5))))
    clear x0 x1 x2 x3 x4 y0 y1 y2 y3 y4
    obtain ⟨x0, x1, x2, x3, x4⟩ := xx
    obtain ⟨y0, y1, y2, y3, y4⟩ := yy
    cases hm : t.may with
    | false =>
      go_wp2_with fail
      go_ret
      exact ⟨rfl, B5⟩
    | true =>
      clear hm
      go_wp2_with fail
      refine (may_any ⟨t.k, o.n, o.s, o.l, o.most⟩ a' c' w5 ho.s' ho.l').mono ?_
      rintro e w6 ⟨rfl, b6⟩
      have B6 := step_below B5 b6
      have xx := And.intro (cell_keep x0 b6) (And.intro (cell_keep x1 b6) (And.intro (cell_keep x2 b6) (And.intro (cell_keep x3 b6) (cell_keep x4 b6))))
      have yy := And.intro (cell_keep y0 b6) (And.intro (cell_keep y1 b6) (And.intro (cell_keep y2 b6) (And.intro (cell_keep y3 b6) (cell_keep y4 b6))))
      clear x0 x1 x2 x3 x4 y0 y1 y2 y3 y4
      obtain ⟨x0, x1, x2, x3, x4⟩ := xx
      obtain ⟨y0, y1, y2, y3, y4⟩ := yy
      cases hm : (Th.mk t.k o.n o.s o.l o.most).may with
      | false =>
        go_wp2_with fail
        go_ret
        exact ⟨rfl, B6⟩
      | true =>
        clear hm
        by_cases k0 : t.k = 0
        · have k0' : (t.k == 0) = true := by simpa using k0
          obtain ⟨hlen, hs⟩ := lens_byte (t := t) (o := o) k0 HX.out HY.out
          have HS := Lib.hid hs
          clear hs k0
          go_wp2_with fail
          go_ret
          exact ⟨ret_bool HS.out, B6⟩
        · have k0' : (t.k == 0) = false := by simpa using k0
          obtain ⟨hlen, hs⟩ := lens_num' ht.ok ho.ok k0 h3 h4 HX.out HY.out
          have HS := Lib.hid hs
          clear hs k0 h3 h4
          go_wp2_with fail
          go_ret
          exact ⟨ret_bool HS.out, B6⟩
end Go.Proofs.Ytdnkijljpmcejaa
