/-
  net.Send: the walks.
-/
import Derived.Test.YtbibbndjnlnbiaaNet2
namespace Go.Proofs.Ytbibbndjnlnbiaa
open Go.RowKit Go.Maps

theorem below_le {B S : Nat} {w w' : World} (b : Below B w w') (h : S ≤ B) : Below S w w' := ⟨b.os, b.tape, b.output, b.size, fun k hk => b.block k (by omega)⟩
theorem NetIn.kept {B S g mb : Nat} {rs : Option Nat} {n : Nt} {w w' : World} {v : Value} {ts : List Int} {D : DataW Value} (h : NetIn B S g mb rs n w v ts D) (b : Below w.heap.size w w') : NetIn B S g mb rs n w' v ts D := h.below (below_le b h.hS)
theorem SendMid.drew {B S g mb : Nat} {rs : Option Nat} {n : Nt} {m : Mg} {a : Option Addr} {c G : Nat} {w0 w : World} {v : Value} {ts : List Int} {D : DataW Value} {q : Nat} (h : SendMid B S g mb rs n m a c G w0 w v ts D q) : SendMid B S g mb rs n m a c G w0 w.drew v ts D q :=
  ⟨h.blk, h.row.kept fun _ _ _ hb => hb, h.map.drew, fun i t m' e1 e2 => by
    obtain ⟨x, y, e, r⟩ := h.tie i t m' e1 e2
    exact ⟨x, y, e, r.kept fun _ _ _ _ hb => hb⟩, h.hq, ⟨h.turn.os, h.turn.tape, h.turn.output, h.turn.size, h.turn.block⟩, h.box, h.nums⟩
theorem one_int (l : List Int) : ∀ u ∈ l.map (Value.int .i64), u.oneCell' = true := by
  intro u hu
  obtain ⟨x, _, rfl⟩ := List.mem_map.1 hu
  rfl
theorem row_cells {k : IntKind} {t : TypeId} {lo hi : Nat} {w : World} {a : Option Addr} {l : List Int} (h : Row k t lo hi w a l) : ∀ p, (if l = [] then none else a) = some p → ∀ (j : Nat) u, (l.map (Value.int k))[j]? = some u → w.cell? (p.add j) = some u := by
  intro p hp j u hu
  rcases h with h0 | ⟨q, cur, ha, _, _, hb, hc⟩
  · rw [h0] at hu; simp at hu
  · rw [List.getElem?_map] at hu
    cases hx : l[j]? with
    | none => rw [hx] at hu; simp at hu
    | some x =>
      rw [hx] at hu
      simp only [Option.map_some, Option.some.injEq] at hu
      subst hu
      split at hp
      · cases hp
      · rw [ha] at hp
        injection hp with hp
        subst hp
        rw [Addr.add_lit, Nat.zero_add, hb.cell j]
        exact hc j x hx
theorem row_cells' {k : IntKind} {t : TypeId} {lo hi : Nat} {w : World} {a : Option Addr} {l : List Int} (h : Row k t lo hi w a l) : ∀ p, a = some p → ∀ (j : Nat) u, (l.map (Value.int k))[j]? = some u → w.cell? (p.add j) = some u := by
  intro p hp j u hu
  by_cases h0 : l = []
  · rw [h0] at hu; simp at hu
  · exact row_cells h p (by rw [if_neg h0]; exact hp) j u hu

section
variable {B S g mb : Nat} {rs : Option Nat} {n : Nt} {K : Nat}
/-- What Send comes to. -/
def SendPost (B g mb : Nat) (rs : Option Nat) (n : Nt) (m : Mg) (w : World) (e : Ending) (w' : World) : Prop := e = .returned (.bool (n.sent m)) ∧ NetTo B g mb rs (n.send m) w w'

/-- .. and where its numbers do not lie. -/
def SendPostS (B S g mb : Nat) (rs : Option Nat) (n : Nt) (m : Mg) (w : World) (e : Ending) (w' : World) : Prop := e = .returned (.bool (n.sent m)) ∧ NetTo B g mb rs (n.send m) w w' ∧ ∀ p, S ≤ p → p < w.heap.size → NetOff B g mb (n.send m) w' p
theorem NetTo.same {w w' : World} {S : Nat} (h : NetAt B S g mb rs n w) (b : Below w.heap.size w w') : NetTo B g mb rs n w w' :=
  ⟨rs, (h.kept b).top, Turn.of_below b, fun _ hq => .inl hq, fun _ hg _ hq => .inl (hq.of_block (b.block g hg))⟩
set_option maxRecDepth 100000 in
set_option maxHeartbeats 1000000 in
theorem send_no (m : Mg) (a : Option Addr) (c : Nat) (w : World) (h : NetAt B S g mb rs n w) (hmo : m.Ok) (hmay : m.may = false) :
    Calls Try.prog 19 #[.pointer (some ⟨g, 0, none⟩), .agg #[.int .u8 m.k, .int .i64 m.fr, .int .i64 m.to, .int .i64 m.ht, .int .i64 m.rd, .int .i64 m.vl, .int .i64 m.ep, .int .i64 m.dl, .int .i64 m.id, .string ⟨m.s.toArray⟩, .slice a m.l.length c]] w (SendPostS B S g mb rs n m w) := by
  have hs : n.sent m = false := by simp [Nt.sent, hmay]
  have he : n.send m = n := by simp [Nt.send, hmay]
  unfold SendPostS
  rw [hs, he]
  clear hs he
  have B0 := boxed_below (Below.refl w.heap.size w) (Nat.le_refl _) m a c
  obtain ⟨w0, hw0⟩ : ∃ w0, w0 = boxed w m a c := ⟨_, rfl⟩
  rw [← hw0] at B0
  unfold boxed at hw0
  have HW := Lib.hid hw0
  have HM := Lib.hid hmay
  have HH := Lib.hid h
  clear hw0 hmay h
  go_enter Try.func19, Try.ntmps19
  go_wp2_with fail
  rw [← HW.out]
  clear HW
  refine (may_agg m a c w0 hmo.k false HM.out).mono ?_
  rintro e w1 ⟨rfl, b1⟩
  go_wp2_with fail
  go_ret
  exact ⟨rfl, NetTo.same HH.out (step_below B0 b1), fun p hp _ => NetOff.of_at (HH.out.kept (step_below B0 b1)) hp⟩

set_option maxRecDepth 100000 in
set_option maxHeartbeats 1000000 in
theorem send_full (m : Mg) (a : Option Addr) (c : Nat) (w : World) (h : NetAt B S g mb rs n w) (ok : n.Ok K) (hK : K ≤ 1000000) (hmo : m.Ok) (hmay : m.may = true) (hlen : ¬ (n.l.length : Int) < n.most) :
    Calls Try.prog 19 #[.pointer (some ⟨g, 0, none⟩), .agg #[.int .u8 m.k, .int .i64 m.fr, .int .i64 m.to, .int .i64 m.ht, .int .i64 m.rd, .int .i64 m.vl, .int .i64 m.ep, .int .i64 m.dl, .int .i64 m.id, .string ⟨m.s.toArray⟩, .slice a m.l.length c]] w (SendPostS B S g mb rs n m w) := by
  have hs : n.sent m = false := by simp [Nt.sent, hlen]
  have he : n.send m = ⟨n.most, n.next, n.l, n.out + 1⟩ := by simp [Nt.send, hmay, hlen]
  unfold SendPostS
  rw [hs, he]
  clear hs he
  have B0 := boxed_below (Below.refl w.heap.size w) (Nat.le_refl _) m a c
  obtain ⟨w0, hw0⟩ : ∃ w0, w0 = boxed w m a c := ⟨_, rfl⟩
  rw [← hw0] at B0
  unfold boxed at hw0
  have HW := Lib.hid hw0
  have HM := Lib.hid hmay
  obtain ⟨v, ts, D, h⟩ := h
  obtain ⟨ad, cp, hv, hcp, _⟩ := h.form ok
  have hd : decide (n.most ≤ (n.l.length : Int)) = true := decide_eq_true (by omega)
  have o0 := ok.out0
  have oK : n.out ≤ 1000000 := by have := ok.outK; omega
  clear hw0 hmay
  go_enter Try.func19, Try.ntmps19
  go_wp2_with fail
  rw [← HW.out]
  clear HW
  refine (may_agg m a c w0 hmo.k true HM.out).mono ?_
  rintro e w1 ⟨rfl, b1⟩
  have B1 := step_below B0 b1
  have h1 := h.kept B1
  have x0 : w1.cell? ⟨g, 0, none⟩ = some (.int .i64 n.most) := h1.blk.cell 0
  have x2 : w1.cell? ⟨g, 2, none⟩ = some (.slice ad n.l.length cp) := by rw [← hv]; exact h1.blk.cell 2
  have y4 : w1.cell? ⟨g, 4, none⟩ = some (.int .i64 n.out) := h1.blk.cell 4
  have f4 : w1.frozen? ⟨g, 4, none⟩ = false := h1.blk.frozen 4
  have HB := Lib.hid (And.intro B1 (And.intro h1 (And.intro h ok)))
  clear h h1 B1 B0 b1 hv hlen hcp ok
  go_wp2_with fail
  go_quiet (fail)
  go_wp2_with fail
  go_ret
  obtain ⟨B1, h1, h, ok⟩ := HB.out
  have hfin : NetAt B S g mb rs ⟨n.most, n.next, n.l, n.out + 1⟩ ((w1.drewN nq).setCell ⟨g, 4, none⟩ (.int .i64 (n.out + 1))) := by
    have hS := h1.hS
    have kb : ∀ {k : Nat} {t : TypeId} {cs : Array Value}, Blk w1 k t cs → t ≠ 74 → ∀ nq u, Blk ((w1.drewN nq).setCell ⟨g, 4, none⟩ u) k t cs := fun hk ht nq u => Blk.farc (w := w1.drewN nq) hk (Blk.ne_ hk h1.blk ht) u
    exact ⟨v, ts, D, { blk := Blk.set_ (w := w1.drewN _) h1.blk 4 _, row := h1.row.kept fun q cur _ hb => kb hb (by decide) _ _, map := map_heap h1.map (by rw [Below.heap_setCell _ ⟨g, 4, none⟩ _ mb (Ne.symm (map_ne h1.map h1.blk))]; rfl), g1 := h1.g1, g2 := h1.g2, mb1 := h1.mb1, mb2 := h1.mb2, hS := by simpa [World.setCell] using hS, len := h1.len, up := h1.up, lt := h1.lt, tie := fun i t m' a b => (h1.tie i t m' a b).elim fun x hx => hx.elim fun c hc => ⟨x, c, hc.1, hc.2.kept fun q cur _ _ hb => kb hb (by decide) _ _⟩ }⟩
  refine ⟨rfl, ⟨rs, hfin.top, ?_, fun _ hq => .inl hq, fun _ _ _ hq => .inl (by refine RowIn.of_cells (v := v) (h.blk.cell 2) ?_ hq; exact Blk.cell (Blk.set_ (w := w1.drewN _) h1.blk 4 _) 2)⟩, fun p hp _ => NetOff.of_at hfin hp⟩
  exact ⟨B1.os, B1.tape, B1.output, by simpa [World.setCell] using B1.size, fun k hk k1 _ _ => by
      rw [Below.heap_setCell _ ⟨g, 4, none⟩ _ k k1]
      exact B1.block k hk⟩

set_option maxRecDepth 100000 in
set_option maxHeartbeats 2000000 in
theorem send_yes (m : Mg) (a : Option Addr) (c : Nat) (w : World) (h : NetAt B S g mb rs n w) (ok : n.Ok K) (hK : K ≤ 1000000) (hmo : m.Ok) (hs : Safe B w a m.l) (hmay : m.may = true) (hlen : (n.l.length : Int) < n.most) :
    Calls Try.prog 19 #[.pointer (some ⟨g, 0, none⟩), .agg #[.int .u8 m.k, .int .i64 m.fr, .int .i64 m.to, .int .i64 m.ht, .int .i64 m.rd, .int .i64 m.vl, .int .i64 m.ep, .int .i64 m.dl, .int .i64 m.id, .string ⟨m.s.toArray⟩, .slice a m.l.length c]] w (SendPostS B S g mb rs n m w) := by
  have hse : n.sent m = true := by simp [Nt.sent, hmay, hlen]
  unfold SendPostS
  rw [hse]
  clear hse
  have M0 := boxed_blk w m a c
  have B0 := boxed_below (Below.refl w.heap.size w) (Nat.le_refl _) m a c
  obtain ⟨w0, hw0⟩ : ∃ w0, w0 = boxed w m a c := ⟨_, rfl⟩
  rw [← hw0] at B0 M0
  unfold boxed at hw0
  have HW := Lib.hid hw0
  have HM := Lib.hid hmay
  have hml : m.l.length ≤ 1000000 := by
    have := (Mg.may_len hmay).2
    omega
  obtain ⟨v, ts, D, h⟩ := h
  have hBw : B ≤ w.heap.size := by have := h.g1; have := h.blk.lt; omega
  obtain ⟨ad, cp, hv, hcp, hcp9⟩ := h.form ok
  have hsh := h.short ok
  have hlt := h.len
  have hd : decide (n.most ≤ (n.l.length : Int)) = false := decide_eq_false (by omega)
  have n0 := ok.next0
  have nK : n.next ≤ 1000000 := by have := ok.nextK; omega
  clear hw0 hmay
  go_enter Try.func19, Try.ntmps19
  go_wp2_with fail
  rw [← HW.out]
  clear HW
  refine (may_agg m a c w0 hmo.k true HM.out).mono ?_
  rintro e w1 ⟨rfl, b1⟩
  have B1 := step_below B0 b1
  have h1 := h.kept B1
  have M1 := M0.kept b1
  have s1 := hs.kept B1 hBw
  have x0 : w1.cell? ⟨g, 0, none⟩ = some (.int .i64 n.most) := h1.blk.cell 0
  have x2 : w1.cell? ⟨g, 2, none⟩ = some (.slice ad n.l.length cp) := by rw [← hv]; exact h1.blk.cell 2
  have HB := Lib.hid (And.intro B1 (And.intro h1 (And.intro h (And.intro ok (And.intro M1 (And.intro s1 (And.intro hv (And.intro hlen hlt))))))))
  clear h h1 B1 B0 b1 hv hlen hcp ok M1 M0 s1 hs hlt
  go_wp2_with fail
  go_quiet (fail)
  go_upto_region 6 with fail
  obtain ⟨B1, h1, h, ok, M1, s1, hv, hlen, hlt⟩ := HB.out
  have B2 := below_drewN B1 nq
  have h2 : NetIn B S g mb rs n (w1.drewN nq) v ts D := h1.kept (below_drewN (Below.refl _ w1) nq)
  have M2 : Blk (w1.drewN nq) w.heap.size 32 (m.cells a c) := M1
  have s2 : Safe B (w1.drewN nq) a m.l := s1.kept (below_drewN (Below.refl _ w1) nq) (Nat.le_trans hBw B1.size)
  clear h1 M1 s1 x0 x2 HB B1
  generalize w1.drewN nq = w2 at *
  have HH := Lib.hid (And.intro h ok)
  clear h ok
  obtain ⟨i0, hi, hz0, hz1, hz2⟩ := info_parts infoInt
  have y1 : w2.cell? ⟨g, 1, none⟩ = some (.int .i64 n.next) := h2.blk.cell 1
  have y1a : (w2.alloc (.cells #[.int .i64 n.next] 3)).drew.cell? ⟨g, 1, none⟩ = some (.int .i64 n.next) := (h2.blk.alloc (.cells #[.int .i64 n.next] 3)).drew.cell 1
  have hnews : ∀ (j : Nat) u, [Value.int .i64 n.next][j]? = some u → (w2.alloc (.cells #[.int .i64 n.next] 3)).drew.cell? ((⟨w2.heap.size, 0, none⟩ : Addr).add j) = some u := fun j u hu => cell_one_new w2 (.int .i64 n.next) 3 j u hu
  have hone1 : ∀ u ∈ [Value.int .i64 n.next], u.oneCell' = true := by
    intro u hu
    have : u = .int .i64 n.next := by simpa using hu
    subst this
    rfl
  have hbz : B ≤ (w2.alloc (.cells #[.int .i64 n.next] 3)).drew.heap.size := by have := h2.hS; have := h2.g1; have := h2.g2; simp; omega
  have hal : (ts.map (Value.int .i64)).length = ts.length * 1 := by simp
  have hal1 : [Value.int .i64 n.next].length = 1 * 1 := rfl
  have G0 : ∀ row, w2.grownBy (w2.alloc (.cells #[.int .i64 n.next] 3)).drew row := fun row => by
    have := World.grownBy_alloc w2 (.cells #[.int .i64 n.next] 3) row
    exact ⟨this.os, this.tape, this.output, this.size, this.block⟩
  have HG := Lib.hid G0
  have HAL := Lib.hid (And.intro hal (And.intro hal1 hv))
  have hts : ts.length ≤ 4096 := by omega
  go_cut [] from 31 to 44 (fun wx => ∃ v' q, SendMid B S g mb rs n m a c w.heap.size w wx v' ts D q)
  case first =>
    rcases h2.row with ⟨hrs, ad2, hv2, hr⟩ | ⟨q, hrs, hqS, ho, hr⟩
    · have y2 : w2.cell? ⟨g, 2, none⟩ = some (.slice ad2 ts.length ts.length) := by rw [← hv2]; exact h2.blk.cell 2
      have y2a : (w2.alloc (.cells #[.int .i64 n.next] 3)).drew.cell? ⟨g, 2, none⟩ = some (.slice ad2 ts.length ts.length) := by rw [← hv2]; exact (h2.blk.alloc (.cells #[.int .i64 n.next] 3)).drew.cell 2
      have hr1 : Row .i64 3 B S (w2.alloc (.cells #[.int .i64 n.next] 3)).drew ad2 ts := hr.kept fun _ _ _ _ hb => (hb.alloc _).drew
      have hod : ad2 = none → ts.length = 0 := by
        intro e
        rcases hr with h0 | ⟨_, _, e', _⟩
        · rw [h0]; rfl
        · rw [e] at e'; cases e'
      have hcl := row_cells' hr1
      have hbb : (ts.length + 1) * 8 ≤ 140737488355328 := by omega
      have HR := Lib.hid (And.intro hod (And.intro hcl (And.intro hnews (And.intro hv2 hrs))))
      have H2 := Lib.hid h2
      have HS2 := Lib.hid (And.intro s2 (And.intro B2 M2))
      clear h2 hr hr1 hod hcl hnews hal hal1 G0 hv2 hrs s2 B2 M2 HH hlt hsh hv hcp9
      go_region_law (first
        | (refine step_append_full _ (by rfl) _ _ 46 (by rfl) B 3 i0 (.int .i64 0) 1 8 Try.underlying46 hi hz0 hz1 hz2 rfl ad2 ts.length (ts.map (.int .i64)) (by rfl) HAL.out.1 HR.out.1 HR.out.2.1 ⟨w2.heap.size, 0, none⟩ 1 1 [.int .i64 n.next] (by rfl) HAL.out.2.1 HR.out.2.2.1 (by decide) hbb (by decide) hbz (w2.heap.size + 1) (by simp) ?_; intro cap W1 own1 bb; have g1 : w2.grownBy W1 none := (HG.out none).trans (below_grown bb none); have K1 := H2.out.blk.grown g1 (by simp); have z2 : W1.cell? ⟨g, 2, none⟩ = some v := K1.cell 2; have z2f : W1.frozen? ⟨g, 2, none⟩ = false := K1.frozen 2; have hq1 : rs = some (w2.heap.size + 1) ∨ w2.heap.size ≤ w2.heap.size + 1 := .inr (by omega)))
      all_goals
        go_wp2_with fail
        go_meet
        have hrs := HR.out.2.2.2.2
        rw [← hrs] at g1
        exact ⟨_, _, send_mid H2.out HS2.out.2.1 g1 own1 hq1 HS2.out.2.2 HS2.out.1⟩
    · obtain ⟨qq, cq, hv2⟩ : ∃ qq cq, v = .slice (some ⟨qq, 0, none⟩) ts.length cq := by
        rcases hr.2 with ⟨rfl, _⟩ | ⟨g', cap, _, rfl, _⟩
        · simp [Value.ownBlock] at ho
        · exact ⟨g', cap, rfl⟩
      have hqq : qq = q := by
        rw [hv2] at ho
        simpa [Value.ownBlock] using ho
      subst hqq
      have y2 : w2.cell? ⟨g, 2, none⟩ = some (.slice (some ⟨qq, 0, none⟩) ts.length cq) := by rw [← hv2]; exact h2.blk.cell 2
      have y2a : (w2.alloc (.cells #[.int .i64 n.next] 3)).drew.cell? ⟨g, 2, none⟩ = some (.slice (some ⟨qq, 0, none⟩) ts.length cq) := by rw [← hv2]; exact (h2.blk.alloc (.cells #[.int .i64 n.next] 3)).drew.cell 2
      have hr1 : (w2.alloc (.cells #[.int .i64 n.next] 3)).drew.ownsRow B 3 1 (.slice (some ⟨qq, 0, none⟩) ts.length cq) ts.length (ts.map (.int .i64)) := by rw [← hv2]; exact (hr.alloc _).drew
      have hbb : (ts.length + 1) * 8 ≤ 140737488355328 := by omega
      have hmx : ts.length + 1 ≤ maxLen := by simp [maxLen]; omega
      have HR := Lib.hid (And.intro (own_some qq ts.length cq) (And.intro hnews (And.intro hv2 hrs)))
      have H2 := Lib.hid h2
      have HS2 := Lib.hid (And.intro s2 (And.intro B2 M2))
      clear h2 hr hnews hal hal1 G0 hv2 hrs s2 B2 M2 HH hlt hsh hv hcp9 ho
      go_region_law (first
        | (refine step_append_gen _ (by rfl) _ _ 46 (by rfl) B 3 i0 (.int .i64 0) 1 8 Try.underlying46 hi hz0 hz1 hz2 rfl (by decide) (.slice (some ⟨qq, 0, none⟩) ts.length cq) ts.length (ts.map (.int .i64)) (by rfl) hr1 HR.out.1 (some ⟨w2.heap.size, 0, none⟩) 1 1 [.int .i64 n.next] (by rfl) HAL.out.2.1 (.inr ⟨⟨w2.heap.size, 0, none⟩, rfl, HR.out.2.1⟩) hone1 hmx hbb hbz ?_; intro q' cap W1 own1 bb hq'; have g1 : w2.grownBy W1 (some qq) := (HG.out (some qq)).trans bb; have K1 := H2.out.blk.grown g1 (some_ne (Ne.symm (own_not hr1 rfl ((H2.out.blk.alloc (.cells #[.int .i64 n.next] 3)).drew) (by decide)))); have z2 : W1.cell? ⟨g, 2, none⟩ = some v := K1.cell 2; have z2f : W1.frozen? ⟨g, 2, none⟩ = false := K1.frozen 2; have hq1 : rs = some q' ∨ w2.heap.size ≤ q' := hq'.elim (fun e => .inl (by rw [HR.out.2.2.2, e]; rfl)) (fun e => .inr (by rw [e]; simp)); have HZ := Lib.hid (And.intro own1 hq1); clear own1 hq1 hq'))
      all_goals
        go_wp2_with fail
        go_meet
        have hrs := HR.out.2.2.2
        rw [← hrs] at g1
        exact ⟨_, _, send_mid H2.out HS2.out.2.1 g1 HZ.out.1 HZ.out.2 HS2.out.2.2 HS2.out.1⟩
  case rest =>
    obtain ⟨v', q, M⟩ := hcut
    obtain ⟨h, ok⟩ := HH.out
    have hN9 : n.next.toNat < maxLen := by simp [maxLen]; omega
    have hI : I64 n.next := by unfold I64; omega
    have hkey := key_of hI
    have MD := M.drew
    have MB := MD.blk
    have MX := MD.box
    have hgm : g ≠ mb := map_ne h.map h.blk
    have hGm : w.heap.size ≠ mb := map_ne M.map M.box
    have hmv : held (m.val a c) = some (.held (m.val a c), []) := rfl
    generalize hG : w.heap.size = G at *
    have x1 : wc.drew.cell? ⟨g, 1, none⟩ = some (.int .i64 n.next) := MB.cell 1
    have x3 : wc.drew.cell? ⟨g, 3, none⟩ = some (.map (some mb)) := MB.cell 3
    have xm0 : wc.drew.cell? ⟨G, 0, none⟩ = some (.int .u8 m.k) := MX.cell 0
    have xm1 : wc.drew.cell? ⟨G, 1, none⟩ = some (.int .i64 m.fr) := MX.cell 1
    have xm2 : wc.drew.cell? ⟨G, 2, none⟩ = some (.int .i64 m.to) := MX.cell 2
    have xm3 : wc.drew.cell? ⟨G, 3, none⟩ = some (.int .i64 m.ht) := MX.cell 3
    have xm4 : wc.drew.cell? ⟨G, 4, none⟩ = some (.int .i64 m.rd) := MX.cell 4
    have xm5 : wc.drew.cell? ⟨G, 5, none⟩ = some (.int .i64 m.vl) := MX.cell 5
    have xm6 : wc.drew.cell? ⟨G, 6, none⟩ = some (.int .i64 m.ep) := MX.cell 6
    have xm7 : wc.drew.cell? ⟨G, 7, none⟩ = some (.int .i64 m.dl) := MX.cell 7
    have xm8 : wc.drew.cell? ⟨G, 8, none⟩ = some (.int .i64 m.id) := MX.cell 8
    have xm9 : wc.drew.cell? ⟨G, 9, none⟩ = some (.string ⟨m.s.toArray⟩) := MX.cell 9
    have xm10 : wc.drew.cell? ⟨G, 10, none⟩ = some (.slice a m.l.length c) := MX.cell 10
    have HL := Lib.hid (And.intro M (And.intro h (And.intro ok (And.intro hG (And.intro hlen (And.intro hN9 (And.intro hkey MD.map)))))))
    have HN := Lib.hid (And.intro MD.nums hml)
    clear M h ok hG hlen hN9 hkey hI MD h2 M2 s2 B2 HG HAL HH hal hal1 G0 hnews hone1 hbz hv hlt hsh hcp9 y1 y1a
    go_wp2_with fail
    go_region_held3 (fun w' => w'.cell? ⟨g, 1, none⟩ = some (.int .i64 n.next) ∧ w'.cell? ⟨g, 3, none⟩ = some (.map (some mb)) ∧ w'.cell? ⟨G, 0, none⟩ = some (.int .u8 m.k) ∧ w'.cell? ⟨G, 1, none⟩ = some (.int .i64 m.fr) ∧ w'.cell? ⟨G, 2, none⟩ = some (.int .i64 m.to) ∧ w'.cell? ⟨G, 3, none⟩ = some (.int .i64 m.ht) ∧ w'.cell? ⟨G, 4, none⟩ = some (.int .i64 m.rd) ∧ w'.cell? ⟨G, 5, none⟩ = some (.int .i64 m.vl) ∧ w'.cell? ⟨G, 6, none⟩ = some (.int .i64 m.ep) ∧ w'.cell? ⟨G, 7, none⟩ = some (.int .i64 m.dl) ∧ w'.cell? ⟨G, 8, none⟩ = some (.int .i64 m.id) ∧ w'.cell? ⟨G, 9, none⟩ = some (.string ⟨m.s.toArray⟩) ∧ w'.cell? ⟨G, 10, none⟩ = some (.slice a m.l.length c))
      (first | (with_reducible exact ⟨x1, x3, xm0, xm1, xm2, xm3, xm4, xm5, xm6, xm7, xm8, xm9, xm10⟩) | (with_reducible exact ⟨y1, y3, ym0, ym1, ym2, ym3, ym4, ym5, ym6, ym7, ym8, ym9, ym10⟩) | (with_reducible exact ⟨z1, z3, zm0, zm1, zm2, zm3, zm4, zm5, zm6, zm7, zm8, zm9, zm10⟩))
      ((go_at_call 49; (with_reducible refine (own_agg m a c _ HN.out.1 HN.out.2).mono ?_); rintro e5 w5 ⟨a5, c5, rfl, own5, b5⟩; have K5 := MB.kept b5; have L5 := MX.kept b5; have y1 : w5.cell? ⟨g, 1, none⟩ = some (.int .i64 n.next) := K5.cell 1; have y3 : w5.cell? ⟨g, 3, none⟩ = some (.map (some mb)) := K5.cell 3; have ym0 : w5.cell? ⟨G, 0, none⟩ = some (.int .u8 m.k) := L5.cell 0; have ym1 : w5.cell? ⟨G, 1, none⟩ = some (.int .i64 m.fr) := L5.cell 1; have ym2 : w5.cell? ⟨G, 2, none⟩ = some (.int .i64 m.to) := L5.cell 2; have ym3 : w5.cell? ⟨G, 3, none⟩ = some (.int .i64 m.ht) := L5.cell 3; have ym4 : w5.cell? ⟨G, 4, none⟩ = some (.int .i64 m.rd) := L5.cell 4; have ym5 : w5.cell? ⟨G, 5, none⟩ = some (.int .i64 m.vl) := L5.cell 5; have ym6 : w5.cell? ⟨G, 6, none⟩ = some (.int .i64 m.ep) := L5.cell 6; have ym7 : w5.cell? ⟨G, 7, none⟩ = some (.int .i64 m.dl) := L5.cell 7; have ym8 : w5.cell? ⟨G, 8, none⟩ = some (.int .i64 m.id) := L5.cell 8; have ym9 : w5.cell? ⟨G, 9, none⟩ = some (.string ⟨m.s.toArray⟩) := L5.cell 9; have ym10 : w5.cell? ⟨G, 10, none⟩ = some (.slice a m.l.length c) := L5.cell 10; obtain ⟨w6, hrun, own6, turn6⟩ := (map_heap HL.out.2.2.2.2.2.2.2 (b5.block mb HL.out.2.2.2.2.2.2.2.lt)).store key_law info_map HL.out.2.2.2.2.2.1 HL.out.2.2.2.2.2.2.1 (val := .agg #[.int .u8 m.k, .int .i64 m.fr, .int .i64 m.to, .int .i64 m.ht, .int .i64 m.rd, .int .i64 m.vl, .int .i64 m.ep, .int .i64 m.dl, .int .i64 m.id, .string ⟨m.s.toArray⟩, .slice a5 m.l.length c5]) (d := .held (m.val a5 c5)) (ps := []) rfl; have K6 := K5.grown turn6.grown (some_ne hgm); have L6 := L5.grown turn6.grown (some_ne hGm); have z1 : w6.cell? ⟨g, 1, none⟩ = some (.int .i64 n.next) := K6.cell 1; have z3 : w6.cell? ⟨g, 3, none⟩ = some (.map (some mb)) := K6.cell 3; have zm0 : w6.cell? ⟨G, 0, none⟩ = some (.int .u8 m.k) := L6.cell 0; have zm1 : w6.cell? ⟨G, 1, none⟩ = some (.int .i64 m.fr) := L6.cell 1; have zm2 : w6.cell? ⟨G, 2, none⟩ = some (.int .i64 m.to) := L6.cell 2; have zm3 : w6.cell? ⟨G, 3, none⟩ = some (.int .i64 m.ht) := L6.cell 3; have zm4 : w6.cell? ⟨G, 4, none⟩ = some (.int .i64 m.rd) := L6.cell 4; have zm5 : w6.cell? ⟨G, 5, none⟩ = some (.int .i64 m.vl) := L6.cell 5; have zm6 : w6.cell? ⟨G, 6, none⟩ = some (.int .i64 m.ep) := L6.cell 6; have zm7 : w6.cell? ⟨G, 7, none⟩ = some (.int .i64 m.dl) := L6.cell 7; have zm8 : w6.cell? ⟨G, 8, none⟩ = some (.int .i64 m.id) := L6.cell 8; have zm9 : w6.cell? ⟨G, 9, none⟩ = some (.string ⟨m.s.toArray⟩) := L6.cell 9; have zm10 : w6.cell? ⟨G, 10, none⟩ = some (.slice a m.l.length c) := L6.cell 10; have z1f : w6.frozen? ⟨g, 1, none⟩ = false := K6.frozen 1; have HE := Lib.hid (And.intro b5 (And.intro own5 (And.intro own6 turn6)))))
    go_wp2_with fail
    go_ret
    obtain ⟨M, h, ok, hG, hlen, -⟩ := HL.out
    subst hG
    exact ⟨rfl, M.drew.done h ok HM.out hlen HE.out.1 HE.out.2.1 HE.out.2.2.1 HE.out.2.2.2, fun p h1 h2 => M.drew.off h ok HM.out hlen HE.out.1 HE.out.2.1 HE.out.2.2.1 HE.out.2.2.2 h1 h2⟩
theorem send_s (m : Mg) (a : Option Addr) (c : Nat) (w : World) (h : NetAt B S g mb rs n w) (ok : n.Ok K) (hK : K ≤ 1000000) (hmo : m.Ok) (hs : Safe B w a m.l) :
    Calls Try.prog 19 #[.pointer (some ⟨g, 0, none⟩), .agg #[.int .u8 m.k, .int .i64 m.fr, .int .i64 m.to, .int .i64 m.ht, .int .i64 m.rd, .int .i64 m.vl, .int .i64 m.ep, .int .i64 m.dl, .int .i64 m.id, .string ⟨m.s.toArray⟩, .slice a m.l.length c]] w (SendPostS B S g mb rs n m w) := by
  cases hmay : m.may with
  | false => exact send_no m a c w h hmo hmay
  | true =>
    by_cases hlen : (n.l.length : Int) < n.most
    · exact send_yes m a c w h ok hK hmo hs hmay hlen
    · exact send_full m a c w h ok hK hmo hmay hlen
theorem send_any (m : Mg) (a : Option Addr) (c : Nat) (w : World) (h : NetAt B S g mb rs n w) (ok : n.Ok K) (hK : K ≤ 1000000) (hmo : m.Ok) (hs : Safe B w a m.l) :
    Calls Try.prog 19 #[.pointer (some ⟨g, 0, none⟩), .agg #[.int .u8 m.k, .int .i64 m.fr, .int .i64 m.to, .int .i64 m.ht, .int .i64 m.rd, .int .i64 m.vl, .int .i64 m.ep, .int .i64 m.dl, .int .i64 m.id, .string ⟨m.s.toArray⟩, .slice a m.l.length c]] w (SendPost B g mb rs n m w) :=
  (send_s m a c w h ok hK hmo hs).mono fun _ _ h => ⟨h.1, h.2.1⟩
set_option maxRecDepth 100000 in
theorem send_nil (m : Mg) (a : Option Addr) (c : Nat) (w : World) :
    Calls Try.prog 19 #[.pointer none, .agg #[.int .u8 m.k, .int .i64 m.fr, .int .i64 m.to, .int .i64 m.ht, .int .i64 m.rd, .int .i64 m.vl, .int .i64 m.ep, .int .i64 m.dl, .int .i64 m.id, .string ⟨m.s.toArray⟩, .slice a m.l.length c]] w fun e w' => e = .returned (.bool false) ∧ Below w.heap.size w w' := by
  have B0 := boxed_below (Below.refl w.heap.size w) (Nat.le_refl _) m a c
  unfold boxed at B0
  go_enter Try.func19, Try.ntmps19
  go_wp2_with fail
  go_ret
  exact ⟨rfl, B0⟩
end
end Go.Proofs.Ytbibbndjnlnbiaa
