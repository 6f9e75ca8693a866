/-
  consistorylaw28.NetAlone: the walk.
-/
import Derived.Test.YtbibbndjnlnbiaaWorks28
import Derived.Test.YtbibbndjnlnbiaaSteps
import Derived.Deep.CutBlock
namespace Go.Proofs.Ytbibbndjnlnbiaa
open Go.RowKit Go.Maps

/-- A step's cells in a box. -/
def Stp.cells (s : Stp) (a : Option Addr) (c : Nat) : Array Value := #[.int .u8 s.kind, .int .u8 s.m.k, .int .i64 s.m.fr, .int .i64 s.m.to, .int .i64 s.m.ht, .int .i64 s.m.rd, .int .i64 s.m.vl, .int .i64 s.m.ep, .int .i64 s.m.dl, .int .i64 s.m.id, .string ⟨s.m.s.toArray⟩, .slice a s.m.l.length c, .int .i64 s.pl]
def Stp.val (s : Stp) (a : Option Addr) (c : Nat) : Value := .agg #[.int .u8 s.kind, .int .u8 s.m.k, .int .i64 s.m.fr, .int .i64 s.m.to, .int .i64 s.m.ht, .int .i64 s.m.rd, .int .i64 s.m.vl, .int .i64 s.m.ep, .int .i64 s.m.dl, .int .i64 s.m.id, .string ⟨s.m.s.toArray⟩, .slice a s.m.l.length c, .int .i64 s.pl]
theorem steps_more {w : World} {B B' : Nat} {a : Option Addr} {l : List Stp} (h : Steps w B a l) (hB : B ≤ B') : Steps w B' a l := by
  rcases h with h | ⟨b, o, ha, hb, h⟩
  · exact .inl h
  · exact .inr ⟨b, o, ha, by omega, fun i s hs => by
      obtain ⟨x, y, hn, r⟩ := h i s hs
      exact ⟨x, y, hn.more hB, r⟩⟩
theorem one_step {w : World} {G : Nat} {s : Stp} {a : Option Addr} {c : Nat} (hb : Blk w G 36 (s.cells a c)) (hn : Nums .u64 w w.heap.size a s.m.l) : Steps w w.heap.size (some ⟨G, 0, none⟩) [s] := by
  refine .inr ⟨G, 0, rfl, hb.lt, fun i x hx => ?_⟩
  have hi : i = 0 := by
    have := (List.getElem?_eq_some_iff.1 hx).1
    simp at this
    omega
  subst hi
  have : x = s := by simpa using hx.symm
  subst this
  exact ⟨a, c, hn, hb.cell 0, hb.cell 1, hb.cell 2, hb.cell 3, hb.cell 4, hb.cell 5, hb.cell 6, hb.cell 7, hb.cell 8, hb.cell 9, hb.cell 10, hb.cell 11, hb.cell 12⟩
theorem Blk.step {w : World} {G : Nat} {s : Stp} {a : Option Addr} {c : Nat} (hb : Blk w G 36 (s.cells a c)) : w.cell? ⟨G, 0, none⟩ = some (.int .u8 s.kind) ∧ w.cell? ⟨G, 1, none⟩ = some (.int .u8 s.m.k) ∧ w.cell? ⟨G, 2, none⟩ = some (.int .i64 s.m.fr) ∧ w.cell? ⟨G, 3, none⟩ = some (.int .i64 s.m.to) ∧ w.cell? ⟨G, 4, none⟩ = some (.int .i64 s.m.ht) ∧ w.cell? ⟨G, 5, none⟩ = some (.int .i64 s.m.rd) ∧ w.cell? ⟨G, 6, none⟩ = some (.int .i64 s.m.vl) ∧ w.cell? ⟨G, 7, none⟩ = some (.int .i64 s.m.ep) ∧ w.cell? ⟨G, 8, none⟩ = some (.int .i64 s.m.dl) ∧ w.cell? ⟨G, 9, none⟩ = some (.int .i64 s.m.id) ∧ w.cell? ⟨G, 10, none⟩ = some (.string ⟨s.m.s.toArray⟩) ∧ w.cell? ⟨G, 11, none⟩ = some (.slice a s.m.l.length c) ∧ w.cell? ⟨G, 12, none⟩ = some (.int .i64 s.pl) := ⟨hb.cell 0, hb.cell 1, hb.cell 2, hb.cell 3, hb.cell 4, hb.cell 5, hb.cell 6, hb.cell 7, hb.cell 8, hb.cell 9, hb.cell 10, hb.cell 11, hb.cell 12⟩

/-- Where what was at place k stands, when what was at 'gone' has gone. -/
def plc (k : Nat) (gone : Int) : Nat := if 0 ≤ gone ∧ gone < (k : Int) then k - 1 else k
theorem plc_gt {k j : Nat} (h : j < k) : plc k j = k - 1 := by
  unfold plc
  rw [if_pos ⟨by omega, by omega⟩]
theorem plc_le {k j : Nat} (h : ¬ j < k) : plc k j = k := by
  unfold plc
  rw [if_neg (by omega)]
structure AR (n n2 : Nt) (gone : Int) : Prop where
  get : ∀ k, k < n.l.length → (k : Int) ≠ gone → n2.l[plc k gone]? = n.l[k]?
  len : (n2.l.length : Int) - (plc n.l.length gone : Int) ≤ 1
  low : -1 ≤ gone
  high : gone < n.l.length
theorem ar_more {n n2 : Nt} (h : n2.l = n.l ∨ ∃ m, n2.l = n.l ++ [m]) : AR n n2 (-1) := by
  have e : ∀ k, plc k (-1) = k := fun k => by unfold plc; rw [if_neg (by omega)]
  refine ⟨fun k hk _ => ?_, ?_, by omega, by omega⟩
  · rw [e]
    rcases h with h | ⟨m, h⟩
    · rw [h]
    · rw [h, List.getElem?_append_left hk]
  · rw [e]
    rcases h with h | ⟨m, h⟩
    · rw [h]; omega
    · rw [h, List.length_append, List.length_cons, List.length_nil]; omega
theorem ar_less {n n2 : Nt} {j : Nat} (hj : j < n.l.length) (h : n2.l = n.l.eraseIdx j) : AR n n2 j := by
  refine ⟨fun k hk hne => ?_, ?_, by omega, by omega⟩
  · rw [h, List.getElem?_eraseIdx]
    by_cases hkj : j < k
    · rw [plc_gt hkj, if_neg (by omega)]
      congr 1
      omega
    · rw [plc_le hkj, if_pos (by omega)]
  · rw [h, List.length_eraseIdx_of_lt hj, plc_gt hj]
    omega
theorem plc_0 (gone : Int) : plc 0 gone = 0 := by
  unfold plc
  split <;> rfl
theorem plc_low (k : Nat) (gone : Int) : plc k gone ≤ k := by
  unfold plc
  split <;> omega
theorem plc_eq {k : Nat} {gone : Int} (h : (k : Int) = gone) : plc (k + 1) gone = plc k gone := by
  unfold plc
  rw [if_pos (by omega), if_neg (by omega)]
  omega
theorem plc_ne {k : Nat} {gone : Int} (h : ¬ (k : Int) = gone) : plc (k + 1) gone = plc k gone + 1 := by
  unfold plc
  by_cases h1 : 0 ≤ gone ∧ gone < (k : Int)
  · rw [if_pos (by omega), if_pos h1]
    omega
  · rw [if_neg (by omega), if_neg h1]
theorem nt_at {n : Nt} {k : Nat} {m : Mg} (h : n.l[k]? = some m) : n.is (k : Int) = true ∧ n.msg (k : Int) = m := by
  have hk := (List.getElem?_eq_some_iff.1 h).1
  have his : n.is (k : Int) = true := Nt.is_iff.2 ⟨by omega, by omega⟩
  have := Nt.msg_at his
  rw [Int.toNat_natCast, h] at this
  exact ⟨his, (Option.some.inj this).symm⟩
theorem ar_lose {n : Nt} {k : Int} (h : n.is k = true) : AR n (n.lose k) k := by
  obtain ⟨h0, h1⟩ := Nt.is_iff.1 h
  obtain ⟨j, rfl⟩ := Int.eq_ofNat_of_zero_le h0
  exact ar_less (by omega) (by simp [Nt.lose, h])
theorem ar_stay {n : Nt} {k : Int} (h : n.is k = false) : AR n (n.lose k) (-1) := ar_more (.inl (by simp [Nt.lose, h]))
theorem at_e {B S g mb K : Nat} {rs : Option Nat} {n : Nt} {w : World} {k : Int} {m : Mg} {b : Bool} (h : NetAt B S g mb rs n w) (ok : n.Ok K) (hK : K ≤ 1000000) (hm : n.msg k = m) (hb : n.is k = b) :
    Calls Try.prog 17 #[.pointer (some ⟨g, 0, none⟩), .int .i64 k] w fun e w' => ∃ a c, e = .returned (.tuple #[.agg #[.int .u8 m.k, .int .i64 m.fr, .int .i64 m.to, .int .i64 m.ht, .int .i64 m.rd, .int .i64 m.vl, .int .i64 m.ep, .int .i64 m.dl, .int .i64 m.id, .string ⟨m.s.toArray⟩, .slice a m.l.length c], .bool b]) ∧ w'.ownsRow w.heap.size 56 1 (.slice a m.l.length c) m.l.length (m.l.map (.int .u64)) ∧ Below w.heap.size w w' := by
  subst hm hb
  exact at_any k w h ok hK
theorem send_l (n : Nt) (m : Mg) : (n.send m).l = n.l ∨ ∃ m', (n.send m).l = n.l ++ [m'] := by
  unfold Nt.send
  split
  · split
    · exact .inr ⟨m, rfl⟩
    · exact .inl rfl
  · exact .inl rfl
theorem twice_l (n : Nt) (k : Int) : (n.twice k).l = n.l ∨ ∃ m', (n.twice k).l = n.l ++ [m'] := by
  unfold Nt.twice
  split
  · exact send_l n _
  · exact .inl rfl
/-- The net that was copied stands, whatever is done to the other one. -/
theorem NetAt.other {B S S2 g mb C mc : Nat} {n0 n : Nt} {w w' : World} (h : NetAt B S C mc none n0 w) (h2 : NetAt B S2 g mb none n w) (T : Turn g mb none w w') (hC : C ≠ g) (hm : mc ≠ mb) : NetAt B S C mc none n0 w' := by
  obtain ⟨v, ts, D, h⟩ := h
  obtain ⟨v2, ts2, D2, h2⟩ := h2
  have hb : ∀ {q : Nat} {t : TypeId} {cs : Array Value}, Blk w q t cs → q ≠ g → Blk w' q t cs := fun hq hne => (T.block _ hq.lt hne (map_ne h2.map hq) (by simp)).trans hq
  refine ⟨v, ts, D, h.keptBy T.size ?_ ?_ (fun q cur _ hq => hb hq (Blk.ne_ hq h2.blk (by decide))) (fun q cur _ hq => hb hq (Blk.ne_ hq h2.blk (by decide)))⟩
  · exact T.block C h.blk.lt hC (map_ne h2.map h.blk) (by simp)
  · exact T.block mc h.map.lt (Ne.symm (map_ne h.map h2.blk)) hm (by simp)
/-- Behind the one step more. -/
def AloneMid (w : World) (g mb C mc : Nat) (n : Nt) (L S6 : Nat) (gone : Int) (wx : World) : Prop := ∃ n2 rs2, AR n n2 gone ∧ n2.Ok (L + 1) ∧ NetAt w.heap.size wx.heap.size g mb rs2 n2 wx ∧ NetAt w.heap.size S6 C mc none n wx ∧ Below w.heap.size w wx
theorem alone_mid {w w6 w7 : World} {g mb C mc L S : Nat} {n n2 : Nt} {gone : Int} (N6 : NetAt w.heap.size S g mb none n w6) (C6 : NetAt w.heap.size w6.heap.size C mc none n w6) (B6 : Below w.heap.size w w6) (hC : C ≠ g) (hm : mc ≠ mb) (T : NetTo w.heap.size g mb none n2 w6 w7) (ar : AR n n2 gone) (ok : n2.Ok (L + 1)) : AloneMid w g mb C mc n L w6.heap.size gone w7 := by
  obtain ⟨rs', N7, T7, _⟩ := T
  exact ⟨n2, rs', ar, ok, N7, C6.other N6 T7 hC hm, T7.below B6 B6.size N6.g1 N6.mb1 N6.rs1⟩
theorem long28_lit {w : World} {G : Nat} {s : Stp} {a : Option Addr} {c : Nat} (hf : SFit s) (hb : Blk w G 36 (s.cells a c)) (hn : Nums .u64 w w.heap.size a s.m.l) :
    Calls Try.prog 15 #[.slice (some ⟨G, 0, none⟩) 1 1] w (Long28 [s] w) :=
  long28_any (some ⟨G, 0, none⟩) 1 [s] w (one_step hb hn) (fun x hx => by
    have : x = s := by simpa using hx
    subst this
    exact hf) (by simp)

set_option maxRecDepth 100000 in
set_option maxHeartbeats 8000000 in
theorem alone_any (most : Int) (a : Option Addr) (c : Nat) (l : List Stp) (s : Stp) (sa : Option Addr) (sc : Nat) (w : World) (hl9 : l.length ≤ 9223372036854775807) (hf : ∀ s ∈ l, SFit s) (hsf : SFit s) (hS : Steps w w.heap.size a l) (hn : Nums .u64 w w.heap.size sa s.m.l) :
    Calls Try.prog 5 #[.int .i64 most, .slice a l.length c, s.val sa sc] w (TruePost w) := by
  have G0 := Blk.new w 36 (s.cells sa sc)
  have B0 : Below w.heap.size w (w.alloc (.cells (s.cells sa sc) 36)) := (Below.refl _ w).alloc (Nat.le_refl _) _
  obtain ⟨W, hW⟩ : ∃ W, W = w.alloc (.cells (s.cells sa sc) 36) := ⟨_, rfl⟩
  rw [← hW] at G0 B0
  unfold Stp.cells at hW
  have HW := Lib.hid hW
  clear hW
  unfold Stp.val
  go_enter Try.func5, Try.ntmps5
  go_wp2_with fail
  rw [← HW.out]
  clear HW
  refine (works28_any W).mono ?_
  rintro e w1 ⟨rfl, b1⟩
  have B1 := step_below B0 b1
  have G1 := G0.kept b1
  clear b1 B0 G0
  go_wp2_with fail
  refine (long28_any a c l w1 (steps_more (hS.kept B1 (Nat.le_refl _)) B1.size) hf hl9).mono ?_
  rintro e w2 ⟨x, rfl, hx, b2⟩
  have B2 := step_below B1 b2
  have G2 := G1.kept b2
  clear b2 B1 G1
  cases x with
  | true =>
    clear hx
    go_wp2_with fail
    refine (works28_any w2).mono ?_
    rintro e w3 ⟨rfl, b3⟩
    go_wp2_with fail
    go_ret
    exact ⟨rfl, step_below B2 b3⟩
  | false =>
    have htot := hx rfl
    clear hx
    obtain ⟨t0, t1, t2, t3, t4, t5, t6, t7, t8, t9, t10, t11, t12⟩ := G2.step
    have G3 := Blk.new w2 36 (s.cells sa sc)
    have B3 : Below w.heap.size w (w2.alloc (.cells (s.cells sa sc) 36)) := B2.alloc B2.size _
    have G4 := G2.alloc (.cells (s.cells sa sc) 36)
    have hn3 := nums_step hn B3
    obtain ⟨w3, hw3⟩ : ∃ w3, w3 = w2.alloc (.cells (s.cells sa sc) 36) := ⟨_, rfl⟩
    rw [← hw3] at G3 B3 G4 hn3
    unfold Stp.cells at hw3
    have HW := Lib.hid hw3
    clear hw3 B2 G2
    go_wp2_with fail
    rw [← HW.out]
    clear HW
    refine (long28_lit hsf G3 hn3).mono ?_
    rintro e w4 ⟨x, rfl, hx, b4⟩
    have B4 := step_below B3 b4
    have G5 := G4.kept b4
    clear b4 B3 G4 G3 hn3 t0 t1 t2 t3 t4 t5 t6 t7 t8 t9 t10 t11 t12
    cases x with
    | true =>
      clear hx
      go_wp2_with fail
      refine (works28_any w4).mono ?_
      rintro e w5 ⟨rfl, b5⟩
      go_wp2_with fail
      go_ret
      exact ⟨rfl, step_below B4 b5⟩
    | false =>
      have htot1 := hx rfl
      clear hx
      go_wp2_with fail
      by_cases hm : 1 ≤ most ∧ most ≤ 4096
      · refine (new_h (w0 := w) hm.1 hm.2 B4).mono ?_
        rintro e w5 ⟨g, mb, rfl, H5, b5⟩
        have G6 := G5.kept b5
        have hll : 30 * l.length ≤ 9000 := by have := tot28_le l; omega
        have HO := Lib.hid (Nt.new_ok hm.1 hm.2)
        clear b5 B4 G5
        go_wp2_with fail
        go_loopw [9] (fun v wr => ∃ (j : Nat) (n : Nt), j ≤ l.length ∧ v = .int .i64 j ∧ n.Ok j ∧ Held (fun _ => False) w.heap.size w g mb n wr ∧ Blk wr w.heap.size 36 (s.cells sa sc)) (fun v _ => l.length - (intOf v).toNat)
        case atStart => exact ⟨0, Nt.new most, Nat.zero_le _, rfl, HO.out, H5, G6⟩
        case round =>
          obtain ⟨j, n, hj, rfl, ok, hh, hG⟩ := hrel
          clear H5 G6
          by_cases hlt : j < l.length
          · obtain ⟨p, hp⟩ : ∃ p, l[j]? = some p := ⟨_, List.getElem?_eq_getElem hlt⟩
            rcases hS.kept hh.below (Nat.le_refl _) with h0 | ⟨b, o, rfl, hb, hc⟩
            · rw [h0] at hlt; simp at hlt
            obtain ⟨la, lc, hnums, u0, u1, u2, u3, u4, u5, u6, u7, u8, u9, u10, u11, u12⟩ := hc j p hp
            have hpf := hf p (List.mem_of_getElem? hp)
            have hjI : (j : Int) < (l.length : Int) := by omega
            have hK : j ≤ 1000000 := by omega
            have HH := Lib.hid (And.intro hh (And.intro ok (And.intro hnums hpf)))
            have hpm := hpf.m.ok
            clear hc hnums hp hpf hh ok
            by_cases k0 : p.kind = 0
            · have e0 : (p.kind == 0) = true := by simpa using k0
              clear k0
              go_wp2_with fail
              refine (send_h (m := p.m) (a := la) (c := lc) HH.out.1 HH.out.2.1 hK hpm (.inr HH.out.2.2.1) rfl rfl).mono ?_
              rintro e w6 ⟨rfl, H6, f6⟩
              have HE := Lib.hid (And.intro H6 f6)
              clear H6 f6
              go_wp2_with fail
              go_roundw
              case rel => exact ⟨j + 1, _, by omega, by go_num, Nt.send_ok HH.out.2.1 hpm, HE.out.1, HE.out.2.blk hG (by decide) (by decide)⟩
              case measure => simp [intOf]; omega
            · have e0 : (p.kind == 0) = false := by simpa using k0
              by_cases k1 : p.kind = 1
              · have e1 : (p.kind == 1) = true := by simpa using k1
                clear k0 k1
                go_wp2_with fail
                refine (give_h (k := p.pl) HH.out.1 HH.out.2.1 hK rfl rfl rfl).mono ?_
                rintro e w6 ⟨ga, gc, rfl, -, H6, f6⟩
                have HE := Lib.hid (And.intro H6 f6)
                clear H6 f6
                go_wp2_with fail
                go_roundw
                case rel => exact ⟨j + 1, _, by omega, by go_num, (Nt.lose_ok HH.out.2.1).more (by omega), HE.out.1, HE.out.2.blk hG (by decide) (by decide)⟩
                case measure => simp [intOf]; omega
              · have e1 : (p.kind == 1) = false := by simpa using k1
                by_cases k2 : p.kind = 2
                · have e2 : (p.kind == 2) = true := by simpa using k2
                  clear k0 k1 k2
                  go_wp2_with fail
                  refine (lose_h (k := p.pl) HH.out.1 HH.out.2.1 hK rfl rfl).mono ?_
                  rintro e w6 ⟨rfl, H6, f6⟩
                  have HE := Lib.hid (And.intro H6 f6)
                  clear H6 f6
                  go_wp2_with fail
                  go_roundw
                  case rel => exact ⟨j + 1, _, by omega, by go_num, (Nt.lose_ok HH.out.2.1).more (by omega), HE.out.1, HE.out.2.blk hG (by decide) (by decide)⟩
                  case measure => simp [intOf]; omega
                · have e2 : (p.kind == 2) = false := by simpa using k2
                  clear k0 k1 k2
                  go_wp2_with fail
                  refine (twice_h (k := p.pl) HH.out.1 HH.out.2.1 hK rfl rfl).mono ?_
                  rintro e w6 ⟨rfl, H6, f6⟩
                  have HE := Lib.hid (And.intro H6 f6)
                  clear H6 f6
                  go_wp2_with fail
                  go_roundw
                  case rel => exact ⟨j + 1, _, by omega, by go_num, Nt.twice_ok HH.out.2.1, HE.out.1, HE.out.2.blk hG (by decide) (by decide)⟩
                  case measure => simp [intOf]; omega
          · have hje : j = l.length := by omega
            subst hje
            obtain ⟨rs, hN, hB, -⟩ := hh
            have hK : l.length ≤ 1000000 := by omega
            have hgl : g < wr.heap.size := by obtain ⟨v, ts, D, h⟩ := hN; exact h.blk.lt
            have hml : mb < wr.heap.size := by obtain ⟨v, ts, D, h⟩ := hN; exact h.map.lt
            have HN := Lib.hid (And.intro hN (And.intro ok hK))
            go_wp2_with fail
            refine (copy_any wr hN ok).mono ?_
            rintro e w6 ⟨C, mc, rfl, N6, C6, hC, hmc, T6⟩
            have G6 := T6.blk hN hG (by decide) (by decide)
            have B6 : Below w.heap.size w w6 := T6.below hB hB.size hN.g1 hN.mb1 hN.rs1
            have n6 := nums_step hn B6
            have hCg : C ≠ g := by omega
            have hmm : mc ≠ mb := by omega
            have HP := Lib.hid (And.intro N6 (And.intro C6 (And.intro B6 (And.intro n6 (And.intro hCg (And.intro hmm (And.intro T6.size (And.intro hgl hml))))))))
            clear hN ok hK hB hG N6 C6 B6 n6 T6 hCg hmm hC hmc hgl hml
            obtain ⟨t0, t1, t2, t3, t4, t5, t6, t7, t8, t9, t10, t11, t12⟩ := G6.step
            go_upto_block 3 with fail
            go_cut [11, 12] from 87 to 118 (fun v f wx => ∃ gone, v = .int .i64 gone ∧ AloneMid w g mb C mc n l.length w6.heap.size gone wx)
            case first =>
              by_cases k0 : s.kind = 0
              · have e0 : (s.kind == 0) = true := by simpa using k0
                clear k0
                go_wp2_with fail
                refine (send_any s.m sa sc w6 HP.out.1 HN.out.2.1 HN.out.2.2 hsf.m.ok (.inr (hn.kept HP.out.2.2.1 (Nat.le_refl _)))).mono ?_
                rintro e w7 ⟨rfl, T7⟩
                have HT := Lib.hid T7
                clear T7
                go_wp2_with fail
                go_meet
                exact ⟨-1, rfl, alone_mid HP.out.1 HP.out.2.1 HP.out.2.2.1 HP.out.2.2.2.2.1 HP.out.2.2.2.2.2.1 HT.out (ar_more (send_l n s.m)) (Nt.send_ok HN.out.2.1 hsf.m.ok)⟩
              · have e0 : (s.kind == 0) = false := by simpa using k0
                by_cases k1 : s.kind = 1
                · have e1 : (s.kind == 1) = true := by simpa using k1
                  clear k0 k1
                  go_wp2_with fail
                  refine (give_any s.pl w6 HP.out.1 HN.out.2.1 HN.out.2.2).mono ?_
                  rintro e w7 ⟨ga, gc, rfl, -, T7⟩
                  have x12 : w7.cell? ⟨w.heap.size, 12, none⟩ = some (.int .i64 s.pl) := (T7.elim fun _ x => x.2.1.blk HP.out.1 G6 (by decide) (by decide)).cell 12
                  have HT := Lib.hid T7
                  clear T7
                  cases hk : n.is s.pl with
                  | true =>
                    have hl : n.lost s.pl = 0 := by simp [Nt.lost, hk]
                    rw [hl]
                    have HK := Lib.hid hk
                    clear hl hk
                    go_wp2_with fail
                    go_meet
                    exact ⟨s.pl, rfl, alone_mid HP.out.1 HP.out.2.1 HP.out.2.2.1 HP.out.2.2.2.2.1 HP.out.2.2.2.2.2.1 HT.out (ar_lose HK.out) ((Nt.lose_ok HN.out.2.1).more (by omega))⟩
                  | false =>
                    have hl : n.lost s.pl = 5 := by simp [Nt.lost, hk]
                    rw [hl]
                    have HK := Lib.hid hk
                    clear hl hk
                    go_wp2_with fail
                    go_meet
                    exact ⟨-1, rfl, alone_mid HP.out.1 HP.out.2.1 HP.out.2.2.1 HP.out.2.2.2.2.1 HP.out.2.2.2.2.2.1 HT.out (ar_stay HK.out) ((Nt.lose_ok HN.out.2.1).more (by omega))⟩
                · have e1 : (s.kind == 1) = false := by simpa using k1
                  by_cases k2 : s.kind = 2
                  · have e2 : (s.kind == 2) = true := by simpa using k2
                    clear k0 k1 k2
                    go_wp2_with fail
                    refine (lose_any s.pl w6 HP.out.1 HN.out.2.1 HN.out.2.2).mono ?_
                    rintro e w7 ⟨rfl, T7⟩
                    have x12 : w7.cell? ⟨w.heap.size, 12, none⟩ = some (.int .i64 s.pl) := (T7.elim fun _ x => x.2.1.blk HP.out.1 G6 (by decide) (by decide)).cell 12
                    have HT := Lib.hid T7
                    clear T7
                    cases hk : n.is s.pl with
                    | true =>
                      have hl : n.lost s.pl = 0 := by simp [Nt.lost, hk]
                      rw [hl]
                      have HK := Lib.hid hk
                      clear hl hk
                      go_wp2_with fail
                      go_meet
                      exact ⟨s.pl, rfl, alone_mid HP.out.1 HP.out.2.1 HP.out.2.2.1 HP.out.2.2.2.2.1 HP.out.2.2.2.2.2.1 HT.out (ar_lose HK.out) ((Nt.lose_ok HN.out.2.1).more (by omega))⟩
                    | false =>
                      have hl : n.lost s.pl = 5 := by simp [Nt.lost, hk]
                      rw [hl]
                      have HK := Lib.hid hk
                      clear hl hk
                      go_wp2_with fail
                      go_meet
                      exact ⟨-1, rfl, alone_mid HP.out.1 HP.out.2.1 HP.out.2.2.1 HP.out.2.2.2.2.1 HP.out.2.2.2.2.2.1 HT.out (ar_stay HK.out) ((Nt.lose_ok HN.out.2.1).more (by omega))⟩
                  · have e2 : (s.kind == 2) = false := by simpa using k2
                    clear k0 k1 k2
                    go_wp2_with fail
                    refine (twice_any s.pl w6 HP.out.1 HN.out.2.1 HN.out.2.2).mono ?_
                    rintro e w7 ⟨rfl, T7⟩
                    have HT := Lib.hid T7
                    clear T7
                    go_wp2_with fail
                    go_meet
                    exact ⟨-1, rfl, alone_mid HP.out.1 HP.out.2.1 HP.out.2.2.1 HP.out.2.2.2.2.1 HP.out.2.2.2.2.2.1 HT.out (ar_more (twice_l n s.pl)) (Nt.twice_ok HN.out.2.1)⟩
            case rest =>
              obtain ⟨gone, rfl, n2, rs2, ar, ok2, N7, C7, B7⟩ := hcut
              have hK2 : l.length + 1 ≤ 1000000 := by omega
              have hL : n.l.length ≤ 4096 := by
                have := HN.out.2.1.len
                have := HN.out.2.1.most2
                omega
              have hL2 : n2.l.length ≤ 4096 := by
                have := ok2.len
                have := ok2.most2
                omega
              have HR := Lib.hid (And.intro ar (And.intro ok2 (And.intro N7 (And.intro C7 B7))))
              have hg1 := ar.low
              have hg2 := ar.high
              clear ar ok2 N7 C7 B7 HP G6 t0 t1 t2 t3 t4 t5 t6 t7 t8 t9 t10 t11 t12 hsf
              go_wp2_with fail
              go_loopw [13, 14] (fun p v wr => ∃ k : Nat, k ≤ n.l.length ∧ v = .int .i64 k ∧ p = .int .i64 (plc k gone) ∧ Below wc.heap.size wc wr) (fun _ v _ => n.l.length - (intOf v).toNat)
              case atStart => exact ⟨0, Nat.zero_le _, rfl, by rw [plc_0]; rfl, Below.refl _ _⟩
              case round =>
                obtain ⟨k, hk, rfl, rfl, hB⟩ := hrel
                have HL := Lib.hid (len_any wr (HR.out.2.2.2.1.kept hB) HN.out.2.1)
                have hpk : plc k gone ≤ k := plc_low k gone
                go_wp2_with fail
                refine (Calls.mono HL.out ?_)
                rintro e w8 ⟨rfl, rfl⟩
                clear HL
                by_cases hlt : k < n.l.length
                · have hkI : (k : Int) < (n.l.length : Int) := by omega
                  by_cases hkg : (k : Int) = gone
                  · have hb : ((k : Int) == gone) = true := by simpa using hkg
                    have HP1 := Lib.hid (plc_eq hkg)
                    clear hkg
                    go_wp2_with fail
                    go_roundw
                    case rel => exact ⟨k + 1, by omega, by go_num, by rw [HP1.out], hB⟩
                    case measure => simp [intOf]; omega
                  · have hb : ((k : Int) == gone) = false := by simpa using hkg
                    have HP1 := Lib.hid (plc_ne hkg)
                    obtain ⟨m, hm⟩ : ∃ m, n.l[k]? = some m := ⟨_, List.getElem?_eq_getElem hlt⟩
                    have hm2 : n2.l[plc k gone]? = some m := (HR.out.1.get k hlt hkg).trans hm
                    obtain ⟨q1, q2⟩ := nt_at hm
                    obtain ⟨q3, q4⟩ := nt_at hm2
                    have hml : m.l.length ≤ 9223372036854775807 := by
                      have := (Mg.may_len (HN.out.2.1.ok m (List.mem_of_getElem? hm)).2).2
                      omega
                    have HA := Lib.hid (at_e (HR.out.2.2.2.1.kept hB) HN.out.2.1 HN.out.2.2 q2 q1)
                    have HQ := Lib.hid (And.intro q3 q4)
                    clear hkg hm hm2 q1 q2 q3 q4
                    go_wp2_with fail
                    refine (Calls.mono HA.out ?_)
                    rintro e v5 ⟨a5, c5, rfl, own5, b5⟩
                    have B5 := boxed_below (step_below hB b5) (step_below hB b5).size m a5 c5
                    have K5 := boxed_blk v5 m a5 c5
                    have L5 := boxed_nums (own_nums own5) m a5 c5
                    obtain ⟨w5', hw5⟩ : ∃ w5', w5' = boxed v5 m a5 c5 := ⟨_, rfl⟩
                    rw [← hw5] at B5 K5 L5
                    unfold boxed at hw5
                    have HW := Lib.hid hw5
                    clear hw5 hB b5 own5 HA
                    go_wp2_with fail
                    rw [← HW.out]
                    clear HW
                    generalize v5.heap.size = G5 at *
                    refine (at_e (HR.out.2.2.1.kept B5) HR.out.2.1 hK2 HQ.out.2 HQ.out.1).mono ?_
                    rintro e v6 ⟨a6, c6, rfl, own6, b6⟩
                    have B6 := boxed_below (step_below B5 b6) (step_below B5 b6).size m a6 c6
                    have K6 := boxed_kept (K5.kept b6) m a6 c6
                    have M6 := boxed_blk v6 m a6 c6
                    have L6 := boxed_nums (nums_step L5 b6) m a6 c6
                    have N6 := boxed_nums (own_nums own6) m a6 c6
                    obtain ⟨w6', hw6⟩ : ∃ w6', w6' = boxed v6 m a6 c6 := ⟨_, rfl⟩
                    rw [← hw6] at B6 K6 M6 L6 N6
                    unfold boxed at hw6
                    have HW := Lib.hid hw6
                    clear hw6 B5 K5 L5 b6 own6
                    go_upto_region 38 with fail
                    rw [← HW.out]
                    clear HW
                    generalize v6.heap.size = G7 at *
                    obtain ⟨f0, f1, f2, f3, f4, f5, f6, f7, f8, f9, f10⟩ := K6.msg
                    obtain ⟨g0, g1, g2, g3, g4, g5, g6, g7, g8, g9, g10⟩ := M6.msg
                    go_wp2_with fail
                    refine (rsame_agg m m a5 a6 c5 c6 w6' L6 N6 hml true (same_refl _)).mono ?_
                    rintro e w7' ⟨rfl, b7⟩
                    have B7 := step_below B6 b7
                    clear f0 f1 f2 f3 f4 f5 f6 f7 f8 f9 f10 g0 g1 g2 g3 g4 g5 g6 g7 g8 g9 g10 B6 K6 M6 L6 N6 b7
                    go_wp2_with fail
                    go_roundw
                    case rel => exact ⟨k + 1, by omega, by go_num, by rw [HP1.out]; go_num, B7⟩
                    case measure => simp [intOf]; omega
                · have hke : k = n.l.length := by omega
                  subst hke
                  have hd : decide ((n2.l.length : Int) - (plc n.l.length gone : Int) ≤ 1) = true := decide_eq_true HR.out.1.len
                  have h1 : (0 : Int) ≤ (plc n.l.length gone : Int) := by omega
                  have h2 : (plc n.l.length gone : Int) ≤ 4096 := by omega
                  have HL := Lib.hid (len_any wr (HR.out.2.2.1.kept hB) HR.out.2.1)
                  go_wp2_with fail
                  refine (Calls.mono HL.out ?_)
                  rintro e w8 ⟨rfl, rfl⟩
                  go_wp2_with fail
                  go_ret
                  exact ⟨rfl, HR.out.2.2.2.2.trans (hB.mono HR.out.2.2.2.2.size)⟩
      · have HM := Lib.hid (show most < 1 ∨ 4096 < most by omega)
        clear hm
        refine (new_no most w4 HM.out).mono ?_
        rintro e w5 ⟨rfl, rfl⟩
        go_wp2_with fail
        go_ret
        exact ⟨rfl, B4⟩
end Go.Proofs.Ytbibbndjnlnbiaa
