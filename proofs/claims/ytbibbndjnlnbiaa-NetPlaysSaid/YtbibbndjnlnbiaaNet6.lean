/-
  net.Twice; what is asked of nil; maps.Clone; net.Copy.
-/
import Derived.Test.YtbibbndjnlnbiaaNet5
import Derived.Shelf.SlMaps.Clone
namespace Go.Proofs.Ytbibbndjnlnbiaa
open Go.RowKit Go.Maps

section
variable {B S g mb : Nat} {rs : Option Nat} {n n' : Nt} {K : Nat} {w w1 w2 : World}
/-- What Twice comes to. -/
def TwicePost (B g mb : Nat) (rs : Option Nat) (n : Nt) (k : Int) (w : World) (e : Ending) (w' : World) : Prop := e = .returned (.int .i64 (n.twiced k)) ∧ NetTo B g mb rs (n.twice k) w w'
set_option maxRecDepth 100000 in
set_option maxHeartbeats 2000000 in
theorem twice_any (k : Int) (w : World) (h : NetAt B S g mb rs n w) (ok : n.Ok K) (hK : K ≤ 1000000) :
    Calls Try.prog 23 #[.pointer (some ⟨g, 0, none⟩), .int .i64 k] w (TwicePost B g mb rs n k w) := by
  have hBw : B ≤ w.heap.size := by
    have h1 := h.g1
    obtain ⟨v, ts, D, h⟩ := h
    have := h.blk.lt
    omega
  have HN := Lib.hid (And.intro h ok)
  have HA := at_any k w h ok hK
  clear h ok
  unfold TwicePost
  cases hk : n.is k with
  | false =>
    have e1 : n.twiced k = 5 := by simp [Nt.twiced, hk]
    have e2 : n.twice k = n := by simp [Nt.twice, hk]
    rw [e1, e2]
    rw [hk, Nt.msg_no hk] at HA
    have HA := Lib.hid HA
    clear e1 e2 hk
    go_enter Try.func23, Try.ntmps23
    go_wp2_with fail
    refine (Calls.mono HA.out ?_)
    rintro e w1 ⟨a1, c1, rfl, -, b1⟩
    unfold Mg.val
    have B1 := boxed_below b1 b1.size Mg.zero a1 c1
    unfold boxed at B1
    go_wp2_with fail
    go_ret
    exact ⟨rfl, NetTo.same HN.out.1 B1⟩
  | true =>
    have e1 : n.twiced k = if n.sent (n.msg k) then 0 else 41 := by simp [Nt.twiced, hk]
    have e2 : n.twice k = n.send (n.msg k) := by simp [Nt.twice, hk]
    rw [e1, e2]
    obtain ⟨E, hE⟩ : ∃ E : Int, (if n.sent (n.msg k) then 0 else 41) = E := ⟨_, rfl⟩
    rw [hE]
    have HE := Lib.hid hE
    clear hE
    rw [hk] at HA
    have hmo := (HN.out.2.ok _ (Nt.msg_mem hk)).1
    generalize n.msg k = m at *
    have HA := Lib.hid HA
    clear e1 e2 hk
    go_enter Try.func23, Try.ntmps23
    go_wp2_with fail
    refine (Calls.mono HA.out ?_)
    rintro e w1 ⟨a1, c1, rfl, own1, b1⟩
    unfold Mg.val
    have M1 := boxed_blk w1 m a1 c1
    have B1 := boxed_below b1 b1.size m a1 c1
    have S1 : Safe B (boxed w1 m a1 c1) a1 m.l := (Safe.of_own own1).kept ((Below.refl _ w1).alloc (Nat.le_refl _) _) (Nat.le_trans hBw b1.size)
    obtain ⟨w2, hw2⟩ : ∃ w2, w2 = boxed w1 m a1 c1 := ⟨_, rfl⟩
    rw [← hw2] at M1 B1 S1
    unfold boxed at hw2
    have HW := Lib.hid hw2
    clear hw2 HA own1 b1
    go_upto_region 6 with fail
    rw [← HW.out]
    clear HW
    generalize w1.heap.size = G at *
    obtain ⟨f0, f1, f2, f3, f4, f5, f6, f7, f8, f9, f10⟩ := M1.msg
    go_wp2_with fail
    refine (send_any m a1 c1 w2 (HN.out.1.kept B1) HN.out.2 hK hmo S1).mono ?_
    rintro e w3 ⟨rfl, T3⟩
    have HT := Lib.hid (NetTo.pre B1 T3)
    clear T3
    cases hs : n.sent m with
    | true =>
      go_wp2_with fail
      go_ret
      exact ⟨by rw [← HE.out, hs]; rfl, HT.out⟩
    | false =>
      go_wp2_with fail
      go_ret
      exact ⟨by rw [← HE.out, hs]; rfl, HT.out⟩

set_option maxRecDepth 100000 in
theorem at_nil (k : Int) (w : World) : Calls Try.prog 17 #[.pointer none, .int .i64 k] w (AtPost Mg.zero false w) := at_no none k w (is_nil k _)
set_option maxRecDepth 100000 in
set_option maxHeartbeats 1000000 in
theorem give_nil (k : Int) (w : World) : Calls Try.prog 20 #[.pointer none, .int .i64 k] w fun e w' => ∃ a' c', e = .returned (.tuple #[Mg.zero.val a' c', .int .i64 2]) ∧ Below w.heap.size w w' := by
  have R0 := Blk.new w 32 zeroCells
  have B0 : Below w.heap.size w (w.alloc (.cells zeroCells 32)) := (Below.refl _ w).alloc (Nat.le_refl _) _
  unfold zeroCells at R0 B0
  obtain ⟨W, hW⟩ : ∃ W, W = w.alloc (.cells #[.int .u8 0, .int .i64 0, .int .i64 0, .int .i64 0, .int .i64 0, .int .i64 0, .int .i64 0, .int .i64 0, .int .i64 0, .string ⟨#[]⟩, .slice none 0 0] 32) := ⟨_, rfl⟩
  rw [← hW] at R0 B0
  have HW := Lib.hid hW
  clear hW
  obtain ⟨m, hm⟩ : ∃ m, m = Mg.zero := ⟨_, rfl⟩
  rw [← hm]
  have HA : Calls Try.prog 17 #[.pointer none, .int .i64 k] W (AtPost m false W) := by rw [hm]; exact at_nil k W
  have HA := Lib.hid HA
  clear hm
  go_enter Try.func20, Try.ntmps20
  go_wp2_with fail
  rw [← HW.out]
  clear HW
  refine (Calls.mono HA.out ?_)
  rintro e w1 ⟨a1, c1, rfl, own1, b1⟩
  unfold Mg.val
  have R2 := Blk.drew (boxed_kept (R0.kept b1) m a1 c1)
  have M1 := Blk.drew (boxed_blk w1 m a1 c1)
  have B1 := (boxed_below (step_below B0 b1) (step_below B0 b1).size m a1 c1).drew
  obtain ⟨w2, hw2⟩ : ∃ w2, w2 = boxed w1 m a1 c1 := ⟨_, rfl⟩
  rw [← hw2] at R2 M1 B1
  have hGw : w.heap.size ≠ w1.heap.size := by have := (R0.kept b1).lt; omega
  unfold boxed at hw2
  have HW := Lib.hid hw2
  clear hw2 HA own1 b1 R0 B0
  go_wp2_with fail
  rw [← HW.out]
  clear HW
  generalize w1.heap.size = G at *
  obtain ⟨f0, f1, f2, f3, f4, f5, f6, f7, f8, f9, f10⟩ := M1.msg
  have HP := Lib.hid (And.intro M1 R2)
  clear M1 R2
  go_region_held3 (fun w' => w'.cell? ⟨G, 0, none⟩ = some (.int .u8 m.k) ∧ w'.cell? ⟨G, 1, none⟩ = some (.int .i64 m.fr) ∧ w'.cell? ⟨G, 2, none⟩ = some (.int .i64 m.to) ∧ w'.cell? ⟨G, 3, none⟩ = some (.int .i64 m.ht) ∧ w'.cell? ⟨G, 4, none⟩ = some (.int .i64 m.rd) ∧ w'.cell? ⟨G, 5, none⟩ = some (.int .i64 m.vl) ∧ w'.cell? ⟨G, 6, none⟩ = some (.int .i64 m.ep) ∧ w'.cell? ⟨G, 7, none⟩ = some (.int .i64 m.dl) ∧ w'.cell? ⟨G, 8, none⟩ = some (.int .i64 m.id) ∧ w'.cell? ⟨G, 9, none⟩ = some (.string ⟨m.s.toArray⟩) ∧ w'.cell? ⟨G, 10, none⟩ = some (.slice a1 m.l.length c1)) (first | (with_reducible exact ⟨f0, f1, f2, f3, f4, f5, f6, f7, f8, f9, f10⟩) | (with_reducible exact ⟨y0, y1, y2, y3, y4, y5, y6, y7, y8, y9, y10⟩) | exact Blk.msg (set11_far SFAR.out hGw _ _ _ _ _ _ _ _ _ _ _))
    ((go_at_call 22; (with_reducible refine (lose_nil k _).mono ?_); rintro e3 w3 ⟨rfl, h3⟩; have M3 := HP.out.1; rw [h3] at M3; have R3 := HP.out.2; rw [h3] at R3; rw [h3] at B1; clear h3; have SFAR := Lib.hid M3; obtain ⟨y0, y1, y2, y3, y4, y5, y6, y7, y8, y9, y10⟩ := M3.msg; have rc0 : w3.cell? ⟨w.heap.size, 0, none⟩ = some (.int .u8 0) := R3.cell 0; have rf0 : w3.frozen? ⟨w.heap.size, 0, none⟩ = false := R3.frozen 0; have rc1 : w3.cell? ⟨w.heap.size, 1, none⟩ = some (.int .i64 0) := R3.cell 1; have rf1 : w3.frozen? ⟨w.heap.size, 1, none⟩ = false := R3.frozen 1; have rc2 : w3.cell? ⟨w.heap.size, 2, none⟩ = some (.int .i64 0) := R3.cell 2; have rf2 : w3.frozen? ⟨w.heap.size, 2, none⟩ = false := R3.frozen 2; have rc3 : w3.cell? ⟨w.heap.size, 3, none⟩ = some (.int .i64 0) := R3.cell 3; have rf3 : w3.frozen? ⟨w.heap.size, 3, none⟩ = false := R3.frozen 3; have rc4 : w3.cell? ⟨w.heap.size, 4, none⟩ = some (.int .i64 0) := R3.cell 4; have rf4 : w3.frozen? ⟨w.heap.size, 4, none⟩ = false := R3.frozen 4; have rc5 : w3.cell? ⟨w.heap.size, 5, none⟩ = some (.int .i64 0) := R3.cell 5; have rf5 : w3.frozen? ⟨w.heap.size, 5, none⟩ = false := R3.frozen 5; have rc6 : w3.cell? ⟨w.heap.size, 6, none⟩ = some (.int .i64 0) := R3.cell 6; have rf6 : w3.frozen? ⟨w.heap.size, 6, none⟩ = false := R3.frozen 6; have rc7 : w3.cell? ⟨w.heap.size, 7, none⟩ = some (.int .i64 0) := R3.cell 7; have rf7 : w3.frozen? ⟨w.heap.size, 7, none⟩ = false := R3.frozen 7; have rc8 : w3.cell? ⟨w.heap.size, 8, none⟩ = some (.int .i64 0) := R3.cell 8; have rf8 : w3.frozen? ⟨w.heap.size, 8, none⟩ = false := R3.frozen 8; have rc9 : w3.cell? ⟨w.heap.size, 9, none⟩ = some (.string ⟨#[]⟩) := R3.cell 9; have rf9 : w3.frozen? ⟨w.heap.size, 9, none⟩ = false := R3.frozen 9; have rc10 : w3.cell? ⟨w.heap.size, 10, none⟩ = some (.slice none 0 0) := R3.cell 10; have rf10 : w3.frozen? ⟨w.heap.size, 10, none⟩ = false := R3.frozen 10; clear M3 R3))
  go_wp2_with fail
  refine bodyPost_ret (v := .tuple #[.agg #[.int .u8 m.k, .int .i64 m.fr, .int .i64 m.to, .int .i64 m.ht, .int .i64 m.rd, .int .i64 m.vl, .int .i64 m.ep, .int .i64 m.dl, .int .i64 m.id, .string ⟨m.s.toArray⟩, .slice a1 m.l.length c1], .int .i64 2]) (by simp [results, Try.results20, go_sem, rc0, rc1, rc2, rc3, rc4, rc5, rc6, rc7, rc8, rc9, rc10]) rfl ?_
  exact ⟨a1, c1, rfl, set11_below B1 (Nat.le_refl _) _ _ _ _ _ _ _ _ _ _ _⟩
set_option maxRecDepth 100000 in
theorem twice_nil (k : Int) (w : World) : Calls Try.prog 23 #[.pointer none, .int .i64 k] w fun e w' => e = .returned (.int .i64 2) ∧ Below w.heap.size w w' := by
  go_enter Try.func23, Try.ntmps23
  go_wp2_with fail
  refine (at_nil k w).mono ?_
  rintro e w1 ⟨a1, c1, rfl, -, b1⟩
  unfold Mg.val
  have B1 := boxed_below b1 b1.size Mg.zero a1 c1
  unfold boxed at B1
  go_wp2_with fail
  go_ret
  exact ⟨rfl, B1⟩

set_option maxRecDepth 100000 in
/-- maps.Clone: a new block that reads as the old one. -/
theorem clone_map {nn : Nat} {D : DataW Value} (h : w.ownsMap Try.prog 3 held mb nn D) :
    Calls Try.prog 50 #[.map (some mb)] w fun e w' => e = .returned (.map (some w.heap.size)) ∧ w'.ownsMap Try.prog 3 held w.heap.size nn D ∧ Below w.heap.size w w' := by
  obtain ⟨es, clock, hb, F, hs, hD⟩ := h
  have hq := fun w => run_eql_map_nil_sl (P := Try.prog) w 72 _ _ (some mb) info_map
  have hB : Below w.heap.size w (w.alloc (.map es clock)) := (Below.refl _ w).alloc (Nat.le_refl _) _
  have hm : (w.alloc (.map es clock)).ownsMap Try.prog 3 held w.heap.size nn D := ⟨es, clock, (MapKept.heap_alloc w _).1, F, hs, hD⟩
  have HP := Lib.hid (And.intro hm hB)
  clear F hs hD hB hm
  go_enter Try.func50, Try.ntmps50
  go_wp2
  rw [run_callFunc_extern (f := 94) (by exact Try.func94) (by kernel_rfl) (by kernel_rfl) (by kernel_rfl) (e := Extern.MapsClone.clone) (by kernel_rfl), run_maps_clone_sl w 72 hb]
  simp only [Result.andThen]
  rw [Oper.upon_value]
  go_wp2
  rw [run_typeAssert_map_sl _ 72 20 _ _ _ info_map]
  simp only [Result.andThen]
  rw [Oper.upon_value]
  go_wp2
  go_ret
  exact ⟨rfl, HP.out⟩
end

section
variable {B S g mb : Nat} {rs : Option Nat} {n : Nt} {K : Nat} {w w2 : World} {v : Value} {ts : List Int} {D : DataW Value}
theorem RowAt.shared {a : Option Addr} {c : Nat} (h : RowAt B S rs w v ts) (hv : v = .slice a ts.length c) : Row .i64 3 B S w a ts := by
  rcases h with ⟨_, ad, hv2, hr⟩ | ⟨q2, hrs, hqS, ho, hr⟩
  · rw [hv] at hv2
    injection hv2 with e1 _ _
    subst e1
    exact hr
  · rw [hv] at hr ho
    rcases Row.of_own hr with r | ⟨q3, cur, e3, f1, f2, f3, f4⟩
    · exact .inl r
    · refine .inr ⟨q3, cur, e3, f1, ?_, f3, f4⟩
      rw [e3] at ho
      have e : q3 = q2 := by simpa [Value.ownBlock] using ho
      omega
def CopyPost (B g mb : Nat) (rs : Option Nat) (n : Nt) (w : World) (e : Ending) (w' : World) : Prop :=
  ∃ C mc, e = .returned (.pointer (some ⟨C, 0, none⟩)) ∧ NetAt B w.heap.size g mb none n w' ∧ NetAt B w'.heap.size C mc none n w' ∧ w.heap.size ≤ C ∧ w.heap.size ≤ mc ∧ Turn g mb rs w w'
theorem copy_done {a : Option Addr} {c : Nat} (h : NetIn B S g mb rs n w v ts D) (hv : v = .slice a ts.length c) (b : Below w.heap.size w w2) (hC : Blk w2 w.heap.size 74 #[.int .i64 n.most, .int .i64 n.next, v, .map (some mb), .int .i64 n.out])
    (hm : w2.ownsMap Try.prog 3 held (w.heap.size + 1) n.next.toNat D) : CopyPost B g mb rs n w (.returned (.pointer (some ⟨w.heap.size, 0, none⟩)))
      ((((w2.setCell ⟨w.heap.size, 3, none⟩ (.map (some (w.heap.size + 1)))).drew.setCell ⟨w.heap.size, 2, none⟩ (.slice a ts.length ts.length))).setCell ⟨g, 2, none⟩ (.slice a ts.length ts.length)) := by
  obtain ⟨W, hW⟩ : ∃ W, W = (((w2.setCell ⟨w.heap.size, 3, none⟩ (.map (some (w.heap.size + 1)))).drew.setCell ⟨w.heap.size, 2, none⟩ (.slice a ts.length ts.length))).setCell ⟨g, 2, none⟩ (.slice a ts.length ts.length) := ⟨_, rfl⟩
  rw [← hW]
  have hgl := h.blk.lt
  have hS := h.hS
  have g1 := h.g1
  have hgC : g ≠ w.heap.size := by omega
  have hsz : W.heap.size = w2.heap.size := by rw [hW]; simp [World.setCell]
  have hk : ∀ k, k ≠ w.heap.size → k ≠ g → W.heap[k]? = w2.heap[k]? := fun k h1 h2 => by
    rw [hW, Below.heap_setCell _ ⟨g, 2, none⟩ _ k h2, Below.heap_setCell _ ⟨w.heap.size, 2, none⟩ _ k h1]
    show (w2.setCell ⟨w.heap.size, 3, none⟩ (.map (some (w.heap.size + 1)))).heap[k]? = _
    rw [Below.heap_setCell _ ⟨w.heap.size, 3, none⟩ _ k h1]
  have hos : W.os = w2.os ∧ W.tape = w2.tape ∧ W.output = w2.output := by rw [hW]; exact ⟨rfl, rfl, rfl⟩
  have hgB : Blk W g 74 #[.int .i64 n.most, .int .i64 n.next, .slice a ts.length ts.length, .map (some mb), .int .i64 n.out] := by
    rw [hW]
    have e1 := (h.blk.kept b).farc (c := w.heap.size) (i := 3) hgC (.map (some (w.heap.size + 1)))
    have e2 := Blk.farc (Blk.drew e1) (c := w.heap.size) (i := 2) hgC (.slice a ts.length ts.length)
    exact e2.set_ 2 _
  have hCB : Blk W w.heap.size 74 #[.int .i64 n.most, .int .i64 n.next, .slice a ts.length ts.length, .map (some (w.heap.size + 1)), .int .i64 n.out] := by
    rw [hW]
    have e1 := hC.set_ 3 (.map (some (w.heap.size + 1)))
    have e2 := (Blk.drew e1).set_ 2 (.slice a ts.length ts.length)
    exact Blk.farc e2 (c := g) (i := 2) (Ne.symm hgC) _
  have kb : ∀ {k : Nat} {t : TypeId} {cs : Array Value}, Blk w k t cs → k ≠ g → Blk W k t cs := fun {k t cs} hb hne => by
    have hlt := hb.lt
    exact (hk k (by omega) hne).trans (hb.kept b)
  have hr0 := h.row.shared hv
  have hr : Row .i64 3 B w.heap.size W a ts := (hr0.kept fun q cur _ _ hb => kb hb (Blk.ne_ hb h.blk (by decide))).more (Nat.le_refl _) hS
  have htie : ∀ (i : Nat) t m, ts[i]? = some t → n.l[i]? = some m → Tick B w.heap.size W D t m := fun i t m e1 e2 => by
    obtain ⟨x, y, e, r⟩ := h.tie i t m e1 e2
    exact ⟨x, y, e, (r.kept fun q cur _ _ hb => kb hb (Blk.ne_ hb h.blk (by decide))).more (Nat.le_refl _) hS⟩
  have bs := b.size
  have hmbg : mb ≠ g := Ne.symm (map_ne h.map h.blk)
  have hmbl := h.map.lt
  have hml := hm.lt
  have hm1 : W.ownsMap Try.prog 3 held mb n.next.toNat D := map_heap h.map (by rw [hk mb (by omega) hmbg, b.block mb hmbl])
  have hm2 : W.ownsMap Try.prog 3 held (w.heap.size + 1) n.next.toNat D := map_heap hm (hk _ (by omega) (by omega))
  refine ⟨w.heap.size, w.heap.size + 1, rfl, ⟨.slice a ts.length ts.length, ts, D, ?_⟩, ⟨.slice a ts.length ts.length, ts, D, ?_⟩, Nat.le_refl _, by omega, ?_⟩
  · exact { blk := hgB, row := .inl ⟨rfl, a, rfl, hr⟩, map := hm1, g1 := h.g1, g2 := hgl, mb1 := h.mb1, mb2 := hmbl, hS := by omega, len := h.len, up := h.up, lt := h.lt, tie := htie }
  · exact { blk := hCB, row := .inl ⟨rfl, a, rfl, hr.more (Nat.le_refl _) (by omega)⟩, map := hm2, g1 := by omega, g2 := by omega, mb1 := by omega, mb2 := by omega, hS := Nat.le_refl _, len := h.len, up := h.up, lt := h.lt, tie := fun i t m e1 e2 => (htie i t m e1 e2).elim fun x hx => hx.elim fun y hy => ⟨x, y, hy.1, hy.2.more (Nat.le_refl _) (by omega)⟩ }
  · exact ⟨hos.1.trans b.os, hos.2.1.trans b.tape, hos.2.2.trans b.output, by omega, fun k hkl h1 _ _ => by rw [hk k (by omega) h1, b.block k hkl]⟩
set_option maxRecDepth 100000 in
set_option maxHeartbeats 1000000 in
theorem copy_any (w : World) (h : NetAt B S g mb rs n w) (ok : n.Ok K) : Calls Try.prog 28 #[.pointer (some ⟨g, 0, none⟩)] w (CopyPost B g mb rs n w) := by
  obtain ⟨v, ts, D, h⟩ := h
  have hlen := h.len
  have hsh := h.short ok
  obtain ⟨a, c, hv, hc, _⟩ := h.form ok
  rw [← hlen] at hv hc
  have x0 : w.cell? ⟨g, 0, none⟩ = some (.int .i64 n.most) := h.blk.cell 0
  have x1 : w.cell? ⟨g, 1, none⟩ = some (.int .i64 n.next) := h.blk.cell 1
  have x2 : w.cell? ⟨g, 2, none⟩ = some (.slice a ts.length c) := by rw [← hv]; exact h.blk.cell 2
  have x3 : w.cell? ⟨g, 3, none⟩ = some (.map (some mb)) := h.blk.cell 3
  have x4 : w.cell? ⟨g, 4, none⟩ = some (.int .i64 n.out) := h.blk.cell 4
  have hgl := h.blk.lt
  have C1 := Blk.new w 74 #[.int .i64 n.most, .int .i64 n.next, .slice a ts.length c, .map (some mb), .int .i64 n.out]
  have B1 : Below w.heap.size w (w.alloc (.cells #[.int .i64 n.most, .int .i64 n.next, .slice a ts.length c, .map (some mb), .int .i64 n.out] 74)) := (Below.refl _ w).alloc (Nat.le_refl _) _
  have HC := clone_map (h.map.alloc (.cells #[.int .i64 n.most, .int .i64 n.next, .slice a ts.length c, .map (some mb), .int .i64 n.out] 74))
  rw [asz] at HC
  have G1 := h.blk.kept B1
  obtain ⟨W, hW⟩ : ∃ W, W = w.alloc (.cells #[.int .i64 n.most, .int .i64 n.next, .slice a ts.length c, .map (some mb), .int .i64 n.out] 74) := ⟨_, rfl⟩
  rw [← hW] at C1 B1 HC G1
  have hWs : W.heap.size = w.heap.size + 1 := by rw [hW]; simp
  have HCH := Lib.hid HC
  have HW := Lib.hid hW
  have z3 : W.cell? ⟨g, 3, none⟩ = some (.map (some mb)) := G1.cell 3
  have HP := Lib.hid (And.intro h (And.intro hv hWs))
  have hcI : (ts.length : Int) ≤ (c : Int) := by omega
  have hgw : g ≠ w.heap.size := by omega
  clear hW HC h hlen hsh hv hWs hgl
  go_enter Try.func28, Try.ntmps28
  go_upto_region 4 with fail
  rw [← HW.out]
  go_wp2_with fail
  refine (Calls.mono HCH.out ?_)
  rintro e w2 ⟨rfl, hm2, b2⟩
  have b2' : Below W.heap.size W w2 := by rw [HP.out.2.2]; exact b2
  have C2 := C1.kept b2'
  have G2 := G1.kept b2'
  have B2 := step_below B1 b2'
  have y3 : w2.cell? ⟨w.heap.size, 3, none⟩ = some (.map (some mb)) := C2.cell 3
  have y3f : w2.frozen? ⟨w.heap.size, 3, none⟩ = false := C2.frozen 3
  have HQ := Lib.hid (And.intro hm2 B2)
  clear C1 G1 B1 b2 b2' hm2 B2 HCH HW x0 x1 x2 x3 x4 z3
  go_upto_region 5 with fail
  have C3 := C2.set_ 3 (.map (some (w.heap.size + 1)))
  have G3 := G2.farc (c := w.heap.size) (i := 3) hgw (.map (some (w.heap.size + 1)))
  have hv := HP.out.2.1
  have u2 : (w2.setCell ⟨w.heap.size, 3, none⟩ (.map (some (w.heap.size + 1)))).drew.cell? ⟨g, 2, none⟩ = some (.slice a ts.length c) := by rw [← hv]; exact (Blk.drew G3).cell 2
  have t2 : (w2.setCell ⟨w.heap.size, 3, none⟩ (.map (some (w.heap.size + 1)))).drew.cell? ⟨w.heap.size, 2, none⟩ = some (.slice a ts.length c) := (Blk.drew C3).cell 2
  have t2f : (w2.setCell ⟨w.heap.size, 3, none⟩ (.map (some (w.heap.size + 1)))).drew.frozen? ⟨w.heap.size, 2, none⟩ = false := (Blk.drew C3).frozen 2
  have G4 := Blk.farc (Blk.drew G3) (c := w.heap.size) (i := 2) hgw (.slice a ts.length ts.length)
  have C4 := (Blk.drew C3).set_ 2 (.slice a ts.length ts.length)
  have u4 : ((w2.setCell ⟨w.heap.size, 3, none⟩ (.map (some (w.heap.size + 1)))).setCell ⟨w.heap.size, 2, none⟩ (.slice a ts.length ts.length)).drew.cell? ⟨g, 2, none⟩ = some (.slice a ts.length c) := by rw [← hv]; exact G4.cell 2
  have f4 : ((w2.setCell ⟨w.heap.size, 3, none⟩ (.map (some (w.heap.size + 1)))).setCell ⟨w.heap.size, 2, none⟩ (.slice a ts.length ts.length)).drew.frozen? ⟨g, 2, none⟩ = false := G4.frozen 2
  have v4 : ((w2.setCell ⟨w.heap.size, 3, none⟩ (.map (some (w.heap.size + 1)))).setCell ⟨w.heap.size, 2, none⟩ (.slice a ts.length ts.length)).drew.cell? ⟨w.heap.size, 2, none⟩ = some (.slice a ts.length ts.length) := C4.cell 2
  have HC2 := Lib.hid C2
  clear C2 G2 C3 G3 G4 C4 y3 y3f hv
  obtain ⟨w3, hw3⟩ : ∃ w3, w3 = w2.setCell ⟨w.heap.size, 3, none⟩ (.map (some (w.heap.size + 1))) := ⟨_, rfl⟩
  rw [← hw3] at u2 t2 t2f u4 f4 v4 ⊢
  have HW3 := Lib.hid hw3
  clear hw3
  go_region_held3 (fun w' => w'.cell? ⟨g, 2, none⟩ = some (.slice a ts.length c)) (first | (with_reducible exact u2) | (with_reducible exact u4)) (fail)
  go_wp2_with fail
  go_ret
  have := copy_done HP.out.1 HP.out.2.1 HQ.out.2 (by rw [HP.out.2.1]; exact HC2.out) HQ.out.1
  rw [HW3.out]
  exact this
set_option maxRecDepth 100000 in
theorem copy_nil (w : World) : Calls Try.prog 28 #[.pointer none] w fun e w' => e = .returned (.pointer none) ∧ w = w' := by
  go_enter Try.func28, Try.ntmps28
  go_wp2_with fail
  go_ret
  exact ⟨rfl, rfl⟩
end
end Go.Proofs.Ytbibbndjnlnbiaa
