/-
  consistorylaw09.WireLengths at texts: the walk.
-/
import Derived.Test.YtdnkijljpmcejaaLens
import Derived.Test.YtdnkijljpmcejaaAppZ
namespace Go.Proofs.Ytdnkijljpmcejaa
open Go.RowKit

theorem infoU8 : (Try.prog.info? 5).map (fun i => (i.zero, i.size, i.bytes)) = some (some (.int .u8 0), 1, 1) := by kernel_rfl
def zerosAt (n : Nat) : Obj := .cells (Lib.byteCells (List.replicate n 0)).toArray 5
theorem made_zeros (n : Nat) : madeCells (Value.int .u8 0).cells (n * 1) = (Lib.byteCells (List.replicate n 0)).toArray := by
  apply Array.ext
  · simp [madeCells, Lib.byteCells]
  · intro i h1 h2
    simp [madeCells, Lib.byteCells, Value.cells, Nat.mod_one]
theorem mk_bytes (n : Nat) (hn : n ≤ 9000) (w : World) : (Instr.makeSlice 37 (.int .i64 n) (.int .i64 n)).run Try.prog w = .ok (.slice (some ⟨w.heap.size, 0, none⟩) n n) (w.alloc (zerosAt n)) := by
  obtain ⟨i0, hi, hz0, hz1, hz2⟩ := info_parts infoU8
  have h := run_make (P := Try.prog) w 37 5 i0 (.int .u8 0) Try.underlying37 hi hz0 .i64 .i64 n n (by omega) (by omega) (by rw [hz2]; omega) (by omega)
  rw [hz1] at h
  simp only [Int.toNat_natCast, made_zeros] at h
  exact h
theorem conv_zeros (n : Nat) (w : World) :
    (convert 37 9 (.slice (some ⟨w.heap.size, 0, none⟩) n n)).run Try.prog (w.alloc (zerosAt n)) = .ok (.string ⟨(List.replicate n (0 : UInt8)).toArray⟩) (w.alloc (zerosAt n)) := by
  have h := conv_new (List.replicate n 0) _ rfl w n
  rw [List.length_replicate] at h
  exact h

theorem text_may {t : Th} {X : List UInt8} (h3 : t.k = 3) (hX : (Th.mk t.k t.n t.s t.l t.most).bytes = X) : (t.may = true → ∀ {o : Th} {S : List UInt8}, S.length = t.s.length → (Th.mk t.k o.n S o.l o.most).may = true) ∧ (t.may = false → X = []) := by
  refine ⟨fun h o S hs => ?_, fun h => ?_⟩
  · simp [Th.may, h3, hs] at h ⊢
    exact h
  · rw [← hX]
    have : ¬ t.s.length ≤ 2048 := by simpa [Th.may, h3] using h
    simp [Th.bytes, h3, this]
theorem lens_text' {t o : Th} {S X Y : List UInt8} (hm : t.may = true) (h3 : t.k = 3) (hs : S.length = t.s.length) (hX : (Th.mk t.k t.n t.s t.l t.most).bytes = X) (hY : (Th.mk t.k o.n S o.l o.most).bytes = Y) : X.length = Y.length ∧ ((X == Y) == (t.s == S)) = true := by
  have hl : t.s.length ≤ 2048 := by simpa [Th.may, h3] using hm
  have e1 : X = bText t.s := by rw [← hX]; simp [Th.bytes, h3, hl]
  have e2 : Y = bText S := by rw [← hY]; simp [Th.bytes, h3, hs, hl]
  refine ⟨by rw [e1, e2, bText_length, bText_length, hs], beq_beq (p := t.s = S) ⟨fun h => ?_, fun h => by rw [e1, e2, h]⟩ (by simp)⟩
  rw [e1, e2] at h
  unfold bText at h
  exact (List.append_inj h (by simp [be_length])).2

set_option maxRecDepth 100000 in
set_option maxHeartbeats 400000 in
theorem lens_text (t o : Th) (a a' : Option Addr) (c c' : Nat) (w : World) (ht : Fit t) (ho : Fit o) (ha : Nums .u64 w w.heap.size a t.l) (ha' : Nums .u64 w w.heap.size a' o.l) (h3 : t.k = 3) :
    Calls Try.prog 4 #[t.val a c, o.val a' c'] w (TruePost w) := by
  have HK := Lib.hid h3
  clear h3
  obtain ⟨A, hA⟩ : ∃ A : Array Value, A = #[.int .u8 t.k, .int .u64 t.n, .string ⟨t.s.toArray⟩, .slice a t.l.length c, .int .i64 t.most] := ⟨_, rfl⟩
  obtain ⟨B, hB⟩ : ∃ B : Array Value, B = #[.int .u8 o.k, .int .u64 o.n, .string ⟨o.s.toArray⟩, .slice a' o.l.length c', .int .i64 o.most] := ⟨_, rfl⟩
  obtain ⟨C, hC⟩ : ∃ C : Array Value, C = #[.int .u8 t.k, .int .u64 t.n, .string ⟨t.s.toArray⟩, .slice a t.l.length c, .int .i64 t.most, .int .u8 o.k, .int .u64 o.n, .string ⟨o.s.toArray⟩, .slice a' o.l.length c', .int .i64 o.most] := ⟨_, rfl⟩
  have BA := ((Blk.new w 34 A).alloc (.cells B 34)).alloc (.cells C 34)
  have BB := (Blk.new (w.alloc (.cells A 34)) 34 B).alloc (.cells C 34)
  have BC := Blk.new ((w.alloc (.cells A 34)).alloc (.cells B 34)) 34 C
  have b0 : Below w.heap.size w (((w.alloc (.cells A 34)).alloc (.cells B 34)).alloc (.cells C 34)) := (((Below.refl _ w).alloc (Nat.le_refl _) _).alloc (by simp) _).alloc (by simp; omega) _
  generalize hW : ((w.alloc (.cells A 34)).alloc (.cells B 34)).alloc (.cells C 34) = W at BA BB BC b0
  simp only [asz] at BB BC
  subst hC
  have n1 := (ha.kept b0 (Nat.le_refl _)).more b0.size
  have n2 := (ha'.kept b0 (Nat.le_refl _)).more b0.size
  have HL := Lib.hid (long_any _ 2 [t, o] W (two_things n1 n2 _ BC.lt BC) (by simp; exact ⟨ht, ho⟩) (by simp))
  clear BC
  go_enter Try.func4, Try.ntmps4
  unfold Th.val
  go_wp2_with fail
  rw [← hA, ← hB, hW]
  refine Calls.mono HL.out ?_
  clear HL
  rintro e w1 ⟨x, rfl, hx, b1⟩
  have B1 := step_below b0 b1
  cases x with
  | true =>
    rw [hA, hB]
    clear hA hB hW
    go_wp2_with fail
    refine (awake_any w1).mono ?_
    rintro e w2 ⟨rfl, b2⟩
    go_wp2_with fail
    go_ret
    exact ⟨rfl, step_below B1 b2⟩
  | false =>
    have ht9 := hx rfl
    clear hx
    simp only [tot] at ht9
    have BA1 := BA.kept b1
    have BB1 := BB.kept b1
    rw [hA, hB]
    rw [hA] at BA1
    rw [hB] at BB1
    clear hA hB hW
    go_wp2_with fail
    refine (awake_any w1).mono ?_
    rintro e w2 ⟨rfl, b2⟩
    have B2 := step_below B1 b2
    have BA2 := BA1.kept b2
    have BB2 := BB1.kept b2
    obtain ⟨S, hS⟩ : ∃ S, S = (o.s ++ List.replicate t.s.length 0).take t.s.length := ⟨_, rfl⟩
    have ne : w.heap.size ≠ w.heap.size + 1 := by omega
    have BA3 := BA2.farc (c := w.heap.size + 1) (i := 0) ne (.int .u8 t.k)
    have BB3 := BB2.set_ 0 (.int .u8 t.k)
    have B3 : Below w.heap.size w (w2.setCell ⟨w.heap.size + 1, 0, none⟩ (.int .u8 t.k)) := B2.setCell (p := ⟨w.heap.size + 1, 0, none⟩) (by simp) _
    have x0 : (w2.setCell ⟨w.heap.size + 1, 0, none⟩ (.int .u8 t.k)).cell? ⟨w.heap.size, 0, none⟩ = some (.int .u8 t.k) := BA3.cell 0
    have x2 : (w2.setCell ⟨w.heap.size + 1, 0, none⟩ (.int .u8 t.k)).cell? ⟨w.heap.size, 2, none⟩ = some (.string ⟨t.s.toArray⟩) := BA3.cell 2
    have y2 : (w2.setCell ⟨w.heap.size + 1, 0, none⟩ (.int .u8 t.k)).cell? ⟨w.heap.size + 1, 2, none⟩ = some (.string ⟨o.s.toArray⟩) := BB3.cell 2
    have f2 : (w2.setCell ⟨w.heap.size + 1, 0, none⟩ (.int .u8 t.k)).frozen? ⟨w.heap.size + 1, 2, none⟩ = false := BB3.frozen 2
    have a0 : w2.cell? ⟨w.heap.size, 0, none⟩ = some (.int .u8 t.k) := BA2.cell 0
    have z0 : w2.cell? ⟨w.heap.size + 1, 0, none⟩ = some (.int .u8 o.k) := BB2.cell 0
    have f0 : w2.frozen? ⟨w.heap.size + 1, 0, none⟩ = false := BB2.frozen 0
    have hSl : S.length = t.s.length := by rw [hS]; simp
    have HS := Lib.hid hS
    have hS9 : S.length ≤ 9223372036854775807 := by omega
    clear hS
    have k3 : (t.k == 3) = true := by simpa using HK.out
    have k4 : (t.k == 4) = false := by rw [HK.out]; rfl
    go_wp2_with fail
    have hmk := mk_bytes t.s.length (by omega)
    generalize w2.setCell ⟨w.heap.size + 1, 0, none⟩ (.int .u8 t.k) = V at *
    have hcv : (convert 37 9 (.slice (some ⟨V.heap.size, 0, none⟩) t.s.length t.s.length)).run Try.prog (V.alloc (zerosAt t.s.length)).drew = .ok (.string ⟨(List.replicate t.s.length (0 : UInt8)).toArray⟩) (V.alloc (zerosAt t.s.length)).drew := conv_zeros t.s.length V.drew
    have x2' : (V.alloc (zerosAt t.s.length)).drew.cell? ⟨w.heap.size, 2, none⟩ = some (.string ⟨t.s.toArray⟩) := (BA3.alloc (zerosAt t.s.length)).cell 2
    have y2' : (V.alloc (zerosAt t.s.length)).drew.cell? ⟨w.heap.size + 1, 2, none⟩ = some (.string ⟨o.s.toArray⟩) := (BB3.alloc (zerosAt t.s.length)).cell 2
    have f2' : (V.alloc (zerosAt t.s.length)).drew.frozen? ⟨w.heap.size + 1, 2, none⟩ = false := (BB3.alloc (zerosAt t.s.length)).frozen 2
    go_region
    have hstr : ((⟨o.s.toArray⟩ : ByteArray) ++ ⟨Array.replicate t.s.length 0⟩).extract 0 t.s.length = ⟨S.toArray⟩ := by
      have e : (⟨Array.replicate t.s.length 0⟩ : ByteArray) = ⟨(List.replicate t.s.length (0 : UInt8)).toArray⟩ := by simp
      rw [e, ByteArray.mk_append_mk, ext_take, HS.out]
    rw [hstr]
    clear hstr
    have BA4 := ((BA3.alloc (zerosAt t.s.length)).farc (c := w.heap.size + 1) (i := 2) ne (.string ⟨S.toArray⟩)).drew
    have BB4 := ((BB3.alloc (zerosAt t.s.length)).set_ 2 (.string ⟨S.toArray⟩)).drew
    have B4 : Below w.heap.size w ((V.alloc (zerosAt t.s.length)).setCell ⟨w.heap.size + 1, 2, none⟩ (.string ⟨S.toArray⟩)).drew := ((B3.alloc B3.size _).setCell (p := ⟨w.heap.size + 1, 2, none⟩) (by simp) _).drew
    clear x0 x2 x2' y2 y2' f2' f2 hmk hcv B3
    generalize ((V.alloc (zerosAt t.s.length)).setCell ⟨w.heap.size + 1, 2, none⟩ (.string ⟨S.toArray⟩)).drew = V2 at *
    have x0 : V2.cell? ⟨w.heap.size, 0, none⟩ = some (.int .u8 t.k) := BA4.cell 0
    have x1 : V2.cell? ⟨w.heap.size, 1, none⟩ = some (.int .u64 t.n) := BA4.cell 1
    have x2 : V2.cell? ⟨w.heap.size, 2, none⟩ = some (.string ⟨t.s.toArray⟩) := BA4.cell 2
    have x3 : V2.cell? ⟨w.heap.size, 3, none⟩ = some (.slice a t.l.length c) := BA4.cell 3
    have x4 : V2.cell? ⟨w.heap.size, 4, none⟩ = some (.int .i64 t.most) := BA4.cell 4
    have y0 : V2.cell? ⟨w.heap.size + 1, 0, none⟩ = some (.int .u8 t.k) := BB4.cell 0
    have y1 : V2.cell? ⟨w.heap.size + 1, 1, none⟩ = some (.int .u64 o.n) := BB4.cell 1
    have y2 : V2.cell? ⟨w.heap.size + 1, 2, none⟩ = some (.string ⟨S.toArray⟩) := BB4.cell 2
    have y3 : V2.cell? ⟨w.heap.size + 1, 3, none⟩ = some (.slice a' o.l.length c') := BB4.cell 3
    have y4 : V2.cell? ⟨w.heap.size + 1, 4, none⟩ = some (.int .i64 o.most) := BB4.cell 4
    have HP := Lib.hid (And.intro B4.drew (And.intro ha ha'))
    clear BA3 BB3 BA2 BB2 BA1 BB1 BA BB BA4 BB4 B4 B2 B1 b1 b2 b0 n1 n2 ha ha' a0 z0 f0
    go_wp2_with fail
    go_region_held3 (fun w' => w'.cell? ⟨w.heap.size, 0, none⟩ = some (.int .u8 t.k) ∧ w'.cell? ⟨w.heap.size, 1, none⟩ = some (.int .u64 t.n) ∧ w'.cell? ⟨w.heap.size, 2, none⟩ = some (.string ⟨t.s.toArray⟩) ∧ w'.cell? ⟨w.heap.size, 3, none⟩ = some (.slice a t.l.length c) ∧ w'.cell? ⟨w.heap.size, 4, none⟩ = some (.int .i64 t.most) ∧
        w'.cell? ⟨w.heap.size + 1, 0, none⟩ = some (.int .u8 t.k) ∧ w'.cell? ⟨w.heap.size + 1, 1, none⟩ = some (.int .u64 o.n) ∧ w'.cell? ⟨w.heap.size + 1, 2, none⟩ = some (.string ⟨S.toArray⟩) ∧ w'.cell? ⟨w.heap.size + 1, 3, none⟩ = some (.slice a' o.l.length c') ∧ w'.cell? ⟨w.heap.size + 1, 4, none⟩ = some (.int .i64 o.most))
      (first | exact ⟨x0, x1, x2, x3, x4, y0, y1, y2, y3, y4⟩ | exact ⟨cell_keepd x0 b3, cell_keepd x1 b3, cell_keepd x2 b3, cell_keepd x3 b3, cell_keepd x4 b3, cell_keepd y0 b3, cell_keepd y1 b3, cell_keepd y2 b3, cell_keepd y3 b3, cell_keepd y4 b3⟩ | exact ⟨cell_keep (cell_keepd x0 b3) b4, cell_keep (cell_keepd x1 b3) b4, cell_keep (cell_keepd x2 b3) b4, cell_keep (cell_keepd x3 b3) b4, cell_keep (cell_keepd x4 b3) b4, cell_keep (cell_keepd y0 b3) b4, cell_keep (cell_keepd y1 b3) b4, cell_keep (cell_keepd y2 b3) b4, cell_keep (cell_keepd y3 b3) b4, cell_keep (cell_keepd y4 b3) b4⟩ | go_keep)
      (first
      | (go_at_call 26; (with_reducible refine (put_agg t.k t.n t.s t.l t.most a c _ w ht.ok HP.out.2.1 HP.out.1 ht.s' ht.l').mono ?_); rintro e w3 ⟨rfl, b3⟩)
      | (go_at_call 26; (with_reducible refine (put_agg t.k o.n S o.l o.most a' c' _ w (ok_as ht.ok (o := ⟨o.k, o.n, S, o.l, o.most⟩) ⟨ho.ok.k, ho.ok.n, ho.ok.l, ho.ok.most⟩) HP.out.2.2 (HP.out.1.trans (b3.mono HP.out.1.size)) hS9 ho.l').mono ?_); rintro e w4 ⟨rfl, b4⟩))
    go_wp2_with fail
    generalize hX : (Th.mk t.k t.n t.s t.l t.most).bytes = X
    generalize hY : (Th.mk t.k o.n S o.l o.most).bytes = Y
    have HX := Lib.hid hX
    have HY := Lib.hid hY
    clear hX hY
    have BV := HP.out.1.trans (b3.mono HP.out.1.size)
    have BV4 := step_below BV b4
    have xx := And.intro (cell_keep (cell_keepd x0 b3) b4) (And.intro (cell_keep (cell_keepd x1 b3) b4) (And.intro (cell_keep (cell_keepd x2 b3) b4) (And.intro (cell_keep (cell_keepd x3 b3) b4) (cell_keep (cell_keepd x4 b3) b4))))
    have yy := And.intro (cell_keep (cell_keepd y0 b3) b4) (And.intro (cell_keep (cell_keepd y1 b3) b4) (And.intro (cell_keep (cell_keepd y2 b3) b4) (And.intro (cell_keep (cell_keepd y3 b3) b4) (cell_keep (cell_keepd y4 b3) b4))))
    clear x0 x1 x2 x3 x4 y0 y1 y2 y3 y4 BV
    obtain ⟨x0, x1, x2, x3, x4⟩ := xx
    obtain ⟨y0, y1, y2, y3, y4⟩ := yy
    have k3' : (t.k != 3) = false := by rw [HK.out]; rfl
    have k4' : (t.k != 4) = true := by rw [HK.out]; rfl
    have k0' : (t.k == 0) = false := by rw [HK.out]; rfl
    refine (may_any t a c w4 ht.s' ht.l').mono ?_
    rintro e w5 ⟨rfl, b5⟩
    have B5 := step_below BV4 b5
    have xx := And.intro (cell_keep x0 b5) (And.intro (cell_keep x1 b5) (And.intro (cell_keep x2 b5) (And.intro (cell_keep x3 b5) (cell_keep x4 b5))))
    have yy := And.intro (cell_keep y0 b5) (And.intro (cell_keep y1 b5) (And.intro (cell_keep y2 b5) (And.intro (cell_keep y3 b5) (cell_keep y4 b5))))
    clear x0 x1 x2 x3 x4 y0 y1 y2 y3 y4
    obtain ⟨x0, x1, x2, x3, x4⟩ := xx
    obtain ⟨y0, y1, y2, y3, y4⟩ := yy
    cases hm : t.may with
    | false =>
      have hX0 : X = [] := (text_may HK.out HX.out).2 hm
      subst hX0
      clear HX
      go_wp2_with fail
      go_ret
      exact ⟨rfl, B5⟩
    | true =>
      go_wp2_with fail
      refine (may_any ⟨t.k, o.n, S, o.l, o.most⟩ a' c' w5 hS9 ho.l').mono ?_
      rintro e w6 ⟨rfl, b6⟩
      have B6 := step_below B5 b6
      have xx := And.intro (cell_keep x0 b6) (And.intro (cell_keep x1 b6) (And.intro (cell_keep x2 b6) (And.intro (cell_keep x3 b6) (cell_keep x4 b6))))
      have yy := And.intro (cell_keep y0 b6) (And.intro (cell_keep y1 b6) (And.intro (cell_keep y2 b6) (And.intro (cell_keep y3 b6) (cell_keep y4 b6))))
      clear x0 x1 x2 x3 x4 y0 y1 y2 y3 y4
      obtain ⟨x0, x1, x2, x3, x4⟩ := xx
      obtain ⟨y0, y1, y2, y3, y4⟩ := yy
      have hm2 : (Th.mk t.k o.n S o.l o.most).may = true := (text_may HK.out HX.out).1 hm hSl
      rw [hm2]
      obtain ⟨hlen, hs⟩ := lens_text' hm HK.out hSl HX.out HY.out
      have HQ := Lib.hid hs
      clear hs hm hm2
      go_wp2_with fail
      go_ret
      exact ⟨ret_bool HQ.out, B6⟩
end Go.Proofs.Ytdnkijljpmcejaa
