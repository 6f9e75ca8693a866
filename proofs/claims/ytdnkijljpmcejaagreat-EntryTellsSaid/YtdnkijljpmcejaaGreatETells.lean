/-
  consistorylaw13.EntryTells: the walk.
-/
import Derived.Test.YtdnkijljpmcejaaGreatELaw
import Derived.Test.YtdnkijljpmcejaaGreatEnLen
import Derived.Test.YtdnkijljpmcejaaGreatESame
import Derived.Test.YtdnkijljpmcejaaGreatERSame2
import Derived.Test.YtdnkijljpmcejaaGreatESpoil
import Derived.Test.YtdnkijljpmcejaaGreatECopy
import Derived.Test.YtdnkijljpmcejaaGreatERDec3
namespace Go.Proofs.YtdnkijljpmcejaaGreat
open Go.RowKit

theorem may_lims {e : En} (h : e.May) : e.Lim := by
  obtain ⟨h1, h2, h3, h4, h5, h6⟩ := form_parts h.form
  have hs := short_bytes (En.is_of h.form) h.len
  exact ⟨by omega, by omega, by omega, by omega, fun l hl => by have := hs.1 l hl; omega, fun d hd => by have := dl_short (h5 d hd); omega, fun d hd l hl => by have := hs.2 d hd l hl; omega⟩
theorem zero_lim : En.zero.Lim := ⟨by simp [En.zero], by simp [En.zero], by simp [En.zero], by simp [En.zero], by simp [En.zero], by simp [En.zero], by simp [En.zero]⟩
theorem edec_lim (s : List UInt8) : (edec s).1.Lim := by
  by_cases h : (edec s).2 = 0
  · exact may_lims (edec_only h).1
  · rw [edec_no h]
    exact zero_lim
theorem renc_of {e : En} {s : List UInt8} {x : Int} (p : Ad) (w : World) (ok : e.Ok) (hL : e.Lim) (hN : NEn w w.heap.size e p) (h : eenc e = (s, x)) : Calls Tryz.prog 8 #[.agg #[.int .u8 e.k, .int .i64 e.id, .int .i64 e.ep, .slice p.a1 e.x.length p.c1, .slice p.a2 e.coms.length p.c2, .slice p.a3 e.next.length p.c3, .slice p.a4 e.deals.length p.c4]] w (fun r w' => r = .returned (.tuple #[.string ⟨s.toArray⟩, .int .i64 x]) ∧ Below w.heap.size w w') := by
  have h1 := renc_any e p w ok hL hN
  unfold EncPost at h1
  rw [h] at h1
  exact h1
theorem rdec_of {s : List UInt8} {e : En} {x : Int} (w : World) (h9 : s.length ≤ 9223372036854775807) (h : edec s = (e, x)) : Calls Tryz.prog 10 #[.string ⟨s.toArray⟩] w (EnPost e x w) := by
  have h1 := rdec_any s w h9
  rw [h] at h1
  exact h1
theorem rmay_is {e : En} {b : Bool} (p : Ad) (w : World) (hL : e.Lim) (hN : NEn w w.heap.size e p) (h : e.may = b) : Calls Tryz.prog 15 #[.agg #[.int .u8 e.k, .int .i64 e.id, .int .i64 e.ep, .slice p.a1 e.x.length p.c1, .slice p.a2 e.coms.length p.c2, .slice p.a3 e.next.length p.c3, .slice p.a4 e.deals.length p.c4]] w (BoolPost b w) := by
  rw [← h]
  exact rmay_any e p w hL hN
theorem may_is2 {e : En} {b : Bool} (p : Ad) (w : World) (ok : e.Ok) (hL : e.Lim) (hN : NEn w w.heap.size e p) (h : e.may = b) : Calls Tryz.prog 14 #[.agg #[.int .u8 e.k, .int .i64 e.id, .int .i64 e.ep, .slice p.a1 e.x.length p.c1, .slice p.a2 e.coms.length p.c2, .slice p.a3 e.next.length p.c3, .slice p.a4 e.deals.length p.c4]] w (BoolPost b w) := by
  rw [← h]
  exact may_any e p w ok hL hN
/-- The law's own two entries. -/
structure TS (w : World) (G : Nat) (e o : En) (p q : Ad) (w1 : World) : Prop where
  a : Blk w1 G 27 #[.int .u8 e.k, .int .i64 e.id, .int .i64 e.ep, .slice p.a1 e.x.length p.c1, .slice p.a2 e.coms.length p.c2, .slice p.a3 e.next.length p.c3, .slice p.a4 e.deals.length p.c4]
  b : Blk w1 (G + 1) 27 #[.int .u8 o.k, .int .i64 o.id, .int .i64 o.ep, .slice q.a1 o.x.length q.c1, .slice q.a2 o.coms.length q.c2, .slice q.a3 o.next.length q.c3, .slice q.a4 o.deals.length q.c4]
  bel : Below w.heap.size w w1
  na : NEn w1 w1.heap.size e p
  nb : NEn w1 w1.heap.size o q
theorem TS.step {w w1 w2 : World} {G : Nat} {e o : En} {p q : Ad} (h : TS w G e o p q w1) (b : Below w1.heap.size w1 w2) : TS w G e o p q w2 := ⟨h.a.kept b, h.b.kept b, step_below h.bel b, h.na.step b, h.nb.step b⟩
theorem TS.make {w : World} {e o : En} {p q : Ad} (ha : NEn w w.heap.size e p) (hb : NEn w w.heap.size o q) : TS w w.heap.size e o p q (box2 w #[.int .u8 e.k, .int .i64 e.id, .int .i64 e.ep, .slice p.a1 e.x.length p.c1, .slice p.a2 e.coms.length p.c2, .slice p.a3 e.next.length p.c3, .slice p.a4 e.deals.length p.c4] #[.int .u8 o.k, .int .i64 o.id, .int .i64 o.ep, .slice q.a1 o.x.length q.c1, .slice q.a2 o.coms.length q.c2, .slice q.a3 o.next.length q.c3, .slice q.a4 o.deals.length q.c4]) :=
  ⟨box2_1 w _ _, box2_2 w _ _, box2_below w _ _, ha.step (box2_below w _ _), hb.step (box2_below w _ _)⟩
/-- And what was kept. -/
structure TK (w : World) (G K : Nat) (e o : En) (p q pk : Ad) (w1 : World) : Prop where
  t : TS w G e o p q w1
  k : Blk w1 K 27 #[.int .u8 e.k, .int .i64 e.id, .int .i64 e.ep, .slice pk.a1 e.x.length pk.c1, .slice pk.a2 e.coms.length pk.c2, .slice pk.a3 e.next.length pk.c3, .slice pk.a4 e.deals.length pk.c4]
  n : NEn w1 w1.heap.size e pk
theorem TK.step {w w1 w2 : World} {G K : Nat} {e o : En} {p q pk : Ad} (h : TK w G K e o p q pk w1) (b : Below w1.heap.size w1 w2) : TK w G K e o p q pk w2 := ⟨h.t.step b, h.k.kept b, h.n.step b⟩
theorem TK.make {w w1 w2 : World} {G : Nat} {e o : En} {p q pk : Ad} (h : TS w G e o p q w1) (b : Below w1.heap.size w1 w2) (ho : OEn w1.heap.size w2.heap.size w2 e pk) : TK w G w2.heap.size e o p q pk (w2.alloc (.cells #[.int .u8 e.k, .int .i64 e.id, .int .i64 e.ep, .slice pk.a1 e.x.length pk.c1, .slice pk.a2 e.coms.length pk.c2, .slice pk.a3 e.next.length pk.c3, .slice pk.a4 e.deals.length pk.c4] 27)) :=
  have al : Below w2.heap.size w2 (w2.alloc (.cells #[.int .u8 e.k, .int .i64 e.id, .int .i64 e.ep, .slice pk.a1 e.x.length pk.c1, .slice pk.a2 e.coms.length pk.c2, .slice pk.a3 e.next.length pk.c3, .slice pk.a4 e.deals.length pk.c4] 27)) := (Below.refl _ w2).alloc (Nat.le_refl _) _
  ⟨(h.step b).step al, Blk.new w2 _ _, ho.nums.step al⟩
/-- What each operation of the last region comes to. -/
def tval (e o : En) (p q pk : Ad) (m r : Bool) : Nat → Value
  | 0 => .agg #[.int .u8 e.k, .int .i64 e.id, .int .i64 e.ep, .slice p.a1 e.x.length p.c1, .slice p.a2 e.coms.length p.c2, .slice p.a3 e.next.length p.c3, .slice p.a4 e.deals.length p.c4] | 2 => .agg #[.int .u8 e.k, .int .i64 e.id, .int .i64 e.ep, .slice p.a1 e.x.length p.c1, .slice p.a2 e.coms.length p.c2, .slice p.a3 e.next.length p.c3, .slice p.a4 e.deals.length p.c4] | 6 => .agg #[.int .u8 e.k, .int .i64 e.id, .int .i64 e.ep, .slice p.a1 e.x.length p.c1, .slice p.a2 e.coms.length p.c2, .slice p.a3 e.next.length p.c3, .slice p.a4 e.deals.length p.c4] | 9 => .agg #[.int .u8 e.k, .int .i64 e.id, .int .i64 e.ep, .slice p.a1 e.x.length p.c1, .slice p.a2 e.coms.length p.c2, .slice p.a3 e.next.length p.c3, .slice p.a4 e.deals.length p.c4] | 15 => .agg #[.int .u8 e.k, .int .i64 e.id, .int .i64 e.ep, .slice p.a1 e.x.length p.c1, .slice p.a2 e.coms.length p.c2, .slice p.a3 e.next.length p.c3, .slice p.a4 e.deals.length p.c4] | 20 => .agg #[.int .u8 e.k, .int .i64 e.id, .int .i64 e.ep, .slice p.a1 e.x.length p.c1, .slice p.a2 e.coms.length p.c2, .slice p.a3 e.next.length p.c3, .slice p.a4 e.deals.length p.c4]
  | 7 => .agg #[.int .u8 o.k, .int .i64 o.id, .int .i64 o.ep, .slice q.a1 o.x.length q.c1, .slice q.a2 o.coms.length q.c2, .slice q.a3 o.next.length q.c3, .slice q.a4 o.deals.length q.c4] | 10 => .agg #[.int .u8 o.k, .int .i64 o.id, .int .i64 o.ep, .slice q.a1 o.x.length q.c1, .slice q.a2 o.coms.length q.c2, .slice q.a3 o.next.length q.c3, .slice q.a4 o.deals.length q.c4]
  | 16 => .agg #[.int .u8 e.k, .int .i64 e.id, .int .i64 e.ep, .slice pk.a1 e.x.length pk.c1, .slice pk.a2 e.coms.length pk.c2, .slice pk.a3 e.next.length pk.c3, .slice pk.a4 e.deals.length pk.c4] | 21 => .agg #[.int .u8 e.k, .int .i64 e.id, .int .i64 e.ep, .slice pk.a1 e.x.length pk.c1, .slice pk.a2 e.coms.length pk.c2, .slice pk.a3 e.next.length pk.c3, .slice pk.a4 e.deals.length pk.c4]
  | 1 => .bool m | 3 => .bool m | 8 => .bool r | 11 => .bool r
  | _ => .bool true
set_option maxRecDepth 100000 in
set_option maxHeartbeats 4000000 in
theorem etells_any (e o : En) (p q : Ad) (s : List UInt8) (w : World) (ok : e.Ok) (re : e.Rch) (ha : NEn w w.heap.size e p) (ro : o.Rch) (hb : NEn w w.heap.size o q) (hsl : s.length ≤ 140737488351232) :
    Calls Tryz.prog 3 #[.agg #[.int .u8 e.k, .int .i64 e.id, .int .i64 e.ep, .slice p.a1 e.x.length p.c1, .slice p.a2 e.coms.length p.c2, .slice p.a3 e.next.length p.c3, .slice p.a4 e.deals.length p.c4], .agg #[.int .u8 o.k, .int .i64 o.id, .int .i64 o.ep, .slice q.a1 o.x.length q.c1, .slice q.a2 o.coms.length q.c2, .slice q.a3 o.next.length q.c3, .slice q.a4 o.deals.length q.c4], .string ⟨s.toArray⟩] w (TruePost w) := by
  have T0 := TS.make ha hb
  obtain ⟨w0, hw0⟩ : ∃ w0, w0 = box2 w #[.int .u8 e.k, .int .i64 e.id, .int .i64 e.ep, .slice p.a1 e.x.length p.c1, .slice p.a2 e.coms.length p.c2, .slice p.a3 e.next.length p.c3, .slice p.a4 e.deals.length p.c4] #[.int .u8 o.k, .int .i64 o.id, .int .i64 o.ep, .slice q.a1 o.x.length q.c1, .slice q.a2 o.coms.length q.c2, .slice q.a3 o.next.length q.c3, .slice q.a4 o.deals.length q.c4] := ⟨_, rfl⟩
  rw [← hw0] at T0
  unfold box2 at hw0
  have HW := Lib.hid hw0
  clear hw0 ha hb
  go_enter Tryz.func3, Tryz.ntmps3
  go_upto_region 1 with fail
  rw [← HW.out]
  clear HW
  generalize w.heap.size = G at T0 ⊢
  have H0 := Lib.hid T0
  obtain ⟨f0, f1, f2, f3, f4, f5, f6⟩ := T0.a.entry
  obtain ⟨g0, g1, g2, g3, g4, g5, g6⟩ := T0.b.entry
  clear T0
  go_wp2_with fail
  refine (large_any e p w0 H0.out.na re).mono ?_
  rintro e2 w1 ⟨rfl, b1⟩
  have H1 := Lib.hid (H0.out.step b1)
  clear f0 f1 f2 f3 f4 f5 f6 g0 g1 g2 g3 g4 g5 g6
  obtain ⟨f0, f1, f2, f3, f4, f5, f6⟩ := H1.out.a.entry
  obtain ⟨g0, g1, g2, g3, g4, g5, g6⟩ := H1.out.b.entry
  clear H0 b1
  cases hL : e.large with
  | true =>
    go_wp2_with fail
    refine (awake_any w1).mono ?_
    rintro e2 w9 ⟨rfl, b9⟩
    go_wp2_with fail
    go_ret
    exact ⟨rfl, step_below H1.out.bel b9⟩
  | false =>
    have LA := Lib.hid (large_lim hL)
    clear hL
    go_wp2_with fail
    refine (large_any o q w1 H1.out.nb ro).mono ?_
    rintro e2 w2 ⟨rfl, b2⟩
    have H2 := Lib.hid (H1.out.step b2)
    clear f0 f1 f2 f3 f4 f5 f6 g0 g1 g2 g3 g4 g5 g6
    obtain ⟨f0, f1, f2, f3, f4, f5, f6⟩ := H2.out.a.entry
    obtain ⟨g0, g1, g2, g3, g4, g5, g6⟩ := H2.out.b.entry
    clear H1 b2
    cases hL : o.large with
    | true =>
      go_wp2_with fail
      refine (awake_any w2).mono ?_
      rintro e2 w9 ⟨rfl, b9⟩
      go_wp2_with fail
      go_ret
      exact ⟨rfl, step_below H2.out.bel b9⟩
    | false =>
      have LB := Lib.hid (large_lim hL)
      clear hL
      by_cases h3 : 5000 < s.length
      · have h3' : decide ((5000 : Int) < s.length) = true := decide_eq_true (by omega)
        go_wp2_with fail
        refine (awake_any w2).mono ?_
        rintro e2 w9 ⟨rfl, b9⟩
        go_wp2_with fail
        go_ret
        exact ⟨rfl, step_below H2.out.bel b9⟩
      · have h3' : decide ((5000 : Int) < s.length) = false := decide_eq_false (by omega)
        go_wp2_with fail
        refine (rcopy_any e p w2 LA.out H2.out.na).mono ?_
        rintro e2 w3 ⟨pk, rfl, o3, b3⟩
        have T4 := TK.make H2.out b3 o3
        obtain ⟨w4, hw4⟩ : ∃ w4, w4 = w3.alloc (.cells #[.int .u8 e.k, .int .i64 e.id, .int .i64 e.ep, .slice pk.a1 e.x.length pk.c1, .slice pk.a2 e.coms.length pk.c2, .slice pk.a3 e.next.length pk.c3, .slice pk.a4 e.deals.length pk.c4] 27) := ⟨_, rfl⟩
        rw [← hw4] at T4
        have HW := Lib.hid hw4
        clear hw4 b3 o3 H2 f0 f1 f2 f3 f4 f5 f6 g0 g1 g2 g3 g4 g5 g6
        go_upto_region 4 with fail
        rw [← HW.out]
        clear HW
        generalize w3.heap.size = K at T4 ⊢
        have H4 := Lib.hid T4
        clear T4
        obtain ⟨S, x, hx⟩ : ∃ S x, eenc e = (S, x) := ⟨_, _, rfl⟩
        obtain ⟨c, z, hz⟩ : ∃ c z, edec s = (c, z) := ⟨_, _, rfl⟩
        have hcL : c.Lim := by have := edec_lim s; rw [hz] at this; exact this
        have HX := Lib.hid (And.intro hx (And.intro hz (And.intro hcL ok)))
        have h9 : s.length ≤ 9223372036854775807 := by omega
        have q1 : (S != S) = false := by simp
        have q2 : (x != x) = false := by simp
        have q3 : (z != z) = false := by simp
        clear hx hz hcL ok re ro
        go_wp2_with fail
        go_loopw [8] (fun i wr => ∃ j : Nat, j ≤ 2 ∧ i = .int .i64 j ∧ TK w G K e o p q pk wr) (fun i _ => 2 - (intOf i).toNat)
        case atStart => exact ⟨0, by omega, rfl, H4.out⟩
        case round =>
          obtain ⟨j, hj, rfl, hT⟩ := hrel
          clear H4
          by_cases hlt : j < 2
          · have hjI : decide ((j : Int) < (2 : Int)) = true := decide_eq_true (by omega)
            have HT := Lib.hid hT
            obtain ⟨f0, f1, f2, f3, f4, f5, f6⟩ := hT.t.a.entry
            clear hT
            have HE := Lib.hid (enc_of p wr HX.out.2.2.2 LA.out HT.out.t.na HX.out.1)
            go_wp2_with fail
            refine (Calls.mono HE.out ?_)
            rintro e2 w5 ⟨rfl, b5⟩
            have HT5 := Lib.hid (HT.out.step b5)
            clear f0 f1 f2 f3 f4 f5 f6 HE HT b5
            obtain ⟨f0, f1, f2, f3, f4, f5, f6⟩ := HT5.out.t.a.entry
            have HE := Lib.hid (renc_of p w5 HX.out.2.2.2 LA.out HT5.out.t.na HX.out.1)
            go_wp2_with fail
            refine (Calls.mono HE.out ?_)
            rintro e2 w6 ⟨rfl, b6⟩
            have HT6 := Lib.hid (HT5.out.step b6)
            clear f0 f1 f2 f3 f4 f5 f6 HE HT5 b6
            have HD := Lib.hid (dec_of w6 h9 HX.out.2.1)
            go_wp2_with fail
            refine (Calls.mono HD.out ?_)
            rintro e2 w7 ⟨p7, rfl, o7, b7⟩
            obtain ⟨w8, hw8⟩ : ∃ w8, w8 = w7.alloc (.cells #[.int .u8 c.k, .int .i64 c.id, .int .i64 c.ep, .slice p7.a1 c.x.length p7.c1, .slice p7.a2 c.coms.length p7.c2, .slice p7.a3 c.next.length p7.c3, .slice p7.a4 c.deals.length p7.c4] 27) := ⟨_, rfl⟩
            have K8 : Blk w8 w7.heap.size 27 #[.int .u8 c.k, .int .i64 c.id, .int .i64 c.ep, .slice p7.a1 c.x.length p7.c1, .slice p7.a2 c.coms.length p7.c2, .slice p7.a3 c.next.length p7.c3, .slice p7.a4 c.deals.length p7.c4] := by rw [hw8]; exact Blk.new w7 _ _
            have B8 : Below w7.heap.size w7 w8 := by rw [hw8]; exact (Below.refl _ w7).alloc (Nat.le_refl _) _
            have H8 := Lib.hid (And.intro K8 (And.intro (step_below b7 B8) ((o7.kept (Kp.of_below B8 (Nat.le_refl _))).more (Nat.le_refl _) B8.size)))
            have HW := Lib.hid hw8
            clear hw8 K8 B8 o7 b7 HD
            go_upto_region 10 with fail
            rw [← HW.out]
            clear HW
            generalize w7.heap.size = C at H8 ⊢
            have HD := Lib.hid (rdec_of w8 h9 HX.out.2.1)
            go_wp2_with fail
            refine (Calls.mono HD.out ?_)
            rintro e2 w9 ⟨p8, rfl, o9, b9⟩
            obtain ⟨wa, hwa⟩ : ∃ wa, wa = w9.alloc (.cells #[.int .u8 c.k, .int .i64 c.id, .int .i64 c.ep, .slice p8.a1 c.x.length p8.c1, .slice p8.a2 c.coms.length p8.c2, .slice p8.a3 c.next.length p8.c3, .slice p8.a4 c.deals.length p8.c4] 27) := ⟨_, rfl⟩
            have Ka : Blk wa w9.heap.size 27 #[.int .u8 c.k, .int .i64 c.id, .int .i64 c.ep, .slice p8.a1 c.x.length p8.c1, .slice p8.a2 c.coms.length p8.c2, .slice p8.a3 c.next.length p8.c3, .slice p8.a4 c.deals.length p8.c4] := by rw [hwa]; exact Blk.new w9 _ _
            have Ba : Below w9.heap.size w9 wa := by rw [hwa]; exact (Below.refl _ w9).alloc (Nat.le_refl _) _
            have b8a := step_below b9 Ba
            have Ha := Lib.hid (And.intro (H8.out.1.kept b8a) (And.intro Ka (And.intro (step_below H8.out.2.1 b8a) (And.intro ((H8.out.2.2.kept (Kp.of_below b8a (Nat.le_refl _))).more (Nat.le_refl _) b8a.size) ((o9.nums.kept Ba (Nat.le_refl _)).more Ba.size)))))
            have HW := Lib.hid hwa
            clear hwa Ka Ba b8a o9 b9 HD H8
            go_upto_region 11 with fail
            rw [← HW.out]
            clear HW
            generalize w9.heap.size = D at Ha ⊢
            obtain ⟨f0, f1, f2, f3, f4, f5, f6⟩ := Ha.out.1.entry
            obtain ⟨g0, g1, g2, g3, g4, g5, g6⟩ := Ha.out.2.1.entry
            have HS := Lib.hid (rsame_is p7 p8 wa Ha.out.2.2.2.1.nums Ha.out.2.2.2.2 HX.out.2.2.1.cnt HX.out.2.2.1.cnt (En.same_iff.2 rfl))
            go_wp2_with fail
            refine (Calls.mono HS.out ?_)
            rintro e2 wb ⟨rfl, bb⟩
            have Hb := Lib.hid (And.intro (Ha.out.1.kept bb) (And.intro (Ha.out.2.2.1.trans (bb.mono Ha.out.2.2.1.size)) ((Ha.out.2.2.2.1.kept (Kp.of_below bb (Nat.le_refl _))).more (Nat.le_refl _) bb.size)))
            clear f0 f1 f2 f3 f4 f5 f6 g0 g1 g2 g3 g4 g5 g6 bb Ha HS
            obtain ⟨f0, f1, f2, f3, f4, f5, f6⟩ := Hb.out.1.entry
            have HS := Lib.hid (spoil_any c p7 w6.heap.size wb Hb.out.2.1.size Hb.out.2.2 HX.out.2.2.1)
            go_wp2_with fail
            refine (Calls.mono HS.out ?_)
            rintro e2 wc ⟨rfl, sc⟩
            have HTc := Lib.hid (HT6.out.step (Hb.out.2.1.trans sc.bel))
            clear f0 f1 f2 f3 f4 f5 f6 HS sc Hb HT6
            go_wp2_with fail
            go_roundw
            case rel => exact ⟨j + 1, by omega, by go_num, HTc.out⟩
            case measure => simp [intOf]; omega
          · have hje : j = 2 := by omega
            subst hje
            have HT := Lib.hid hT
            obtain ⟨f0, f1, f2, f3, f4, f5, f6⟩ := hT.t.a.entry
            clear hT
            have HC := Lib.hid (copy_any e p wr LA.out HT.out.t.na)
            go_wp2_with fail
            refine (Calls.mono HC.out ?_)
            rintro e2 w5 ⟨px, rfl, o5, b5⟩
            obtain ⟨w6, hw6⟩ : ∃ w6, w6 = w5.alloc (.cells #[.int .u8 e.k, .int .i64 e.id, .int .i64 e.ep, .slice px.a1 e.x.length px.c1, .slice px.a2 e.coms.length px.c2, .slice px.a3 e.next.length px.c3, .slice px.a4 e.deals.length px.c4] 27) := ⟨_, rfl⟩
            have K6 : Blk w6 w5.heap.size 27 #[.int .u8 e.k, .int .i64 e.id, .int .i64 e.ep, .slice px.a1 e.x.length px.c1, .slice px.a2 e.coms.length px.c2, .slice px.a3 e.next.length px.c3, .slice px.a4 e.deals.length px.c4] := by rw [hw6]; exact Blk.new w5 _ _
            have B6 : Below w5.heap.size w5 w6 := by rw [hw6]; exact (Below.refl _ w5).alloc (Nat.le_refl _) _
            have H6 := Lib.hid (And.intro K6 (And.intro (step_below b5 B6) ((o5.kept (Kp.of_below B6 (Nat.le_refl _))).more (Nat.le_refl _) B6.size)))
            have HT6 := Lib.hid (HT.out.step (step_below b5 B6))
            have HW := Lib.hid hw6
            clear hw6 K6 B6 o5 b5 HC f0 f1 f2 f3 f4 f5 f6
            go_upto_region 15 with fail
            rw [← HW.out]
            clear HW
            generalize w5.heap.size = C at H6 ⊢
            obtain ⟨f0, f1, f2, f3, f4, f5, f6⟩ := HT6.out.t.a.entry
            obtain ⟨g0, g1, g2, g3, g4, g5, g6⟩ := H6.out.1.entry
            have HS := Lib.hid (rsame_is px p w6 H6.out.2.2.nums HT6.out.t.na LA.out.cnt LA.out.cnt (En.same_iff.2 rfl))
            go_wp2_with fail
            refine (Calls.mono HS.out ?_)
            rintro e2 wb ⟨rfl, bb⟩
            have Hb := Lib.hid (And.intro (H6.out.1.kept bb) (And.intro (H6.out.2.1.trans (bb.mono H6.out.2.1.size)) ((H6.out.2.2.kept (Kp.of_below bb (Nat.le_refl _))).more (Nat.le_refl _) bb.size)))
            clear f0 f1 f2 f3 f4 f5 f6 g0 g1 g2 g3 g4 g5 g6 bb H6 HS HT6
            obtain ⟨f0, f1, f2, f3, f4, f5, f6⟩ := Hb.out.1.entry
            have HS := Lib.hid (spoil_any e px wr.heap.size wb Hb.out.2.1.size Hb.out.2.2 LA.out)
            go_wp2_with fail
            refine (Calls.mono HS.out ?_)
            rintro e2 wc ⟨rfl, sc⟩
            have HTc := Lib.hid (HT.out.step (Hb.out.2.1.trans sc.bel))
            have HY := HX.out.2.2.2
            clear f0 f1 f2 f3 f4 f5 f6 HS sc Hb HT HX q1 q2 q3
            obtain ⟨m, hm⟩ : ∃ m, e.may = m := ⟨_, rfl⟩
            obtain ⟨r, hr⟩ : ∃ r, e.same o = r := ⟨_, rfl⟩
            have hmm : (m == m) = true := by simp
            have hrr : (r == r) = true := by simp
            have HX := Lib.hid (And.intro HY (And.intro LA.out (And.intro LB.out (And.intro hm hr))))
            clear hm hr HY LA LB h3 h3' hsl h9
            go_upto_region 18 with fail
            refine' wp_region_invB _ (fun i v _ => v = tval e o p q pk m r i) (fun _ w' => TK w G K e o p q pk w') (fun _ _ _ => True) ?hA (by kernel_rfl) (by kernel_rfl) (by kernel_rfl) (HTc.out.step (Below.refl _ wc).drew) (fun _ _ _ _ _ _ _ _ _ _ h _ => h) ?step ?fin
            case hA =>
              intro vs
              conv => lhs; simp only [fillL, Act.put, List.setIfInBounds_toArray, List.set_cons_zero, List.set_cons_succ, Nat.reduceAdd]
              try exact rfl
            case step =>
              refine StepsA.cons (fun L vs w1 hl hdl hg hd2 => ?_) ?_
              · obtain ⟨f0, f1, f2, f3, f4, f5, f6⟩ := hg.t.a.entry
                refine opTo_of (by kernel_rfl) (fun K hK => ?_)
                go_simp
                exact hK.out (.agg #[.int .u8 e.k, .int .i64 e.id, .int .i64 e.ep, .slice p.a1 e.x.length p.c1, .slice p.a2 e.coms.length p.c2, .slice p.a3 e.next.length p.c3, .slice p.a4 e.deals.length p.c4]) _ _ (by kernel_rfl) ⟨hg, trivial, rfl⟩
              refine StepsA.cons (fun L vs w1 hl hdl hg hd2 => ?_) ?_
              · have e0 : vs 0 = .agg #[.int .u8 e.k, .int .i64 e.id, .int .i64 e.ep, .slice p.a1 e.x.length p.c1, .slice p.a2 e.coms.length p.c2, .slice p.a3 e.next.length p.c3, .slice p.a4 e.deals.length p.c4] := hd2 0 (by decide)
                have HC := Lib.hid (may_is2 p w1 HX.out.1 HX.out.2.1 hg.t.na HX.out.2.2.2.1)
                refine opTo_of (by kernel_rfl) (fun K hK => ?_)
                go_simp
                refine Calls.mono HC.out ?_
                rintro r2 w2 ⟨rfl, hb⟩
                exact hK.out (.bool m) _ _ (by simp only [e0]; kernel_rfl) ⟨hg.step hb, trivial, rfl⟩
              refine StepsA.cons (fun L vs w1 hl hdl hg hd2 => ?_) ?_
              · obtain ⟨f0, f1, f2, f3, f4, f5, f6⟩ := hg.t.a.entry
                refine opTo_of (by kernel_rfl) (fun K hK => ?_)
                go_simp
                exact hK.out (.agg #[.int .u8 e.k, .int .i64 e.id, .int .i64 e.ep, .slice p.a1 e.x.length p.c1, .slice p.a2 e.coms.length p.c2, .slice p.a3 e.next.length p.c3, .slice p.a4 e.deals.length p.c4]) _ _ (by kernel_rfl) ⟨hg, trivial, rfl⟩
              refine StepsA.cons (fun L vs w1 hl hdl hg hd2 => ?_) ?_
              · have e2 : vs 2 = .agg #[.int .u8 e.k, .int .i64 e.id, .int .i64 e.ep, .slice p.a1 e.x.length p.c1, .slice p.a2 e.coms.length p.c2, .slice p.a3 e.next.length p.c3, .slice p.a4 e.deals.length p.c4] := hd2 2 (by decide)
                have HC := Lib.hid (rmay_is p w1 HX.out.2.1 hg.t.na HX.out.2.2.2.1)
                refine opTo_of (by kernel_rfl) (fun K hK => ?_)
                go_simp
                refine Calls.mono HC.out ?_
                rintro r2 w2 ⟨rfl, hb⟩
                exact hK.out (.bool m) _ _ (by simp only [e2]; kernel_rfl) ⟨hg.step hb, trivial, rfl⟩
              refine StepsA.cons (fun L vs w1 hl hdl hg hd2 => ?_) ?_
              · have e1 : vs 1 = .bool m := hd2 1 (by decide)
                have e3 : vs 3 = .bool m := hd2 3 (by decide)
                refine opTo_of (by kernel_rfl) (fun K hK => ?_)
                go_simp
                exact hK.out (.bool true) _ _ (by simp only [e1, e3]; kernel_rfl) ⟨hg, trivial, rfl⟩
              refine StepsA.cons (fun L vs w1 hl hdl hg hd2 => ?_) ?_
              · have e4 : vs 4 = .bool true := hd2 4 (by decide)
                refine opTo_of (by kernel_rfl) (fun K hK => ?_)
                go_simp
                exact hK.out (.bool true) _ _ (by simp only [e4]; kernel_rfl) ⟨hg, trivial, rfl⟩
              refine StepsA.cons (fun L vs w1 hl hdl hg hd2 => ?_) ?_
              · have e5 : vs 5 = .bool true := hd2 5 (by decide)
                obtain ⟨f0, f1, f2, f3, f4, f5, f6⟩ := hg.t.a.entry
                refine opTo_of (by simp only [e5]; kernel_rfl) (fun K hK => ?_)
                go_simp
                exact hK.out (.agg #[.int .u8 e.k, .int .i64 e.id, .int .i64 e.ep, .slice p.a1 e.x.length p.c1, .slice p.a2 e.coms.length p.c2, .slice p.a3 e.next.length p.c3, .slice p.a4 e.deals.length p.c4]) _ _ (by simp only [e5]; kernel_rfl) ⟨hg, trivial, rfl⟩
              refine StepsA.cons (fun L vs w1 hl hdl hg hd2 => ?_) ?_
              · have e5 : vs 5 = .bool true := hd2 5 (by decide)
                obtain ⟨f0, f1, f2, f3, f4, f5, f6⟩ := hg.t.b.entry
                refine opTo_of (by simp only [e5]; kernel_rfl) (fun K hK => ?_)
                go_simp
                exact hK.out (.agg #[.int .u8 o.k, .int .i64 o.id, .int .i64 o.ep, .slice q.a1 o.x.length q.c1, .slice q.a2 o.coms.length q.c2, .slice q.a3 o.next.length q.c3, .slice q.a4 o.deals.length q.c4]) _ _ (by simp only [e5]; kernel_rfl) ⟨hg, trivial, rfl⟩
              refine StepsA.cons (fun L vs w1 hl hdl hg hd2 => ?_) ?_
              · have e6 : vs 6 = .agg #[.int .u8 e.k, .int .i64 e.id, .int .i64 e.ep, .slice p.a1 e.x.length p.c1, .slice p.a2 e.coms.length p.c2, .slice p.a3 e.next.length p.c3, .slice p.a4 e.deals.length p.c4] := hd2 6 (by decide)
                have e7 : vs 7 = .agg #[.int .u8 o.k, .int .i64 o.id, .int .i64 o.ep, .slice q.a1 o.x.length q.c1, .slice q.a2 o.coms.length q.c2, .slice q.a3 o.next.length q.c3, .slice q.a4 o.deals.length q.c4] := hd2 7 (by decide)
                have e5 : vs 5 = .bool true := hd2 5 (by decide)
                have HC := Lib.hid (esame_is p q w1 hg.t.na hg.t.nb HX.out.2.1.cnt HX.out.2.2.1.cnt HX.out.2.2.2.2)
                refine opTo_of (by simp only [e5]; kernel_rfl) (fun K hK => ?_)
                go_simp
                refine Calls.mono HC.out ?_
                rintro r2 w2 ⟨rfl, hb⟩
                exact hK.out (.bool r) _ _ (by simp only [e6, e7, e5]; kernel_rfl) ⟨hg.step hb, trivial, rfl⟩
              refine StepsA.cons (fun L vs w1 hl hdl hg hd2 => ?_) ?_
              · have e5 : vs 5 = .bool true := hd2 5 (by decide)
                obtain ⟨f0, f1, f2, f3, f4, f5, f6⟩ := hg.t.a.entry
                refine opTo_of (by simp only [e5]; kernel_rfl) (fun K hK => ?_)
                go_simp
                exact hK.out (.agg #[.int .u8 e.k, .int .i64 e.id, .int .i64 e.ep, .slice p.a1 e.x.length p.c1, .slice p.a2 e.coms.length p.c2, .slice p.a3 e.next.length p.c3, .slice p.a4 e.deals.length p.c4]) _ _ (by simp only [e5]; kernel_rfl) ⟨hg, trivial, rfl⟩
              refine StepsA.cons (fun L vs w1 hl hdl hg hd2 => ?_) ?_
              · have e5 : vs 5 = .bool true := hd2 5 (by decide)
                obtain ⟨f0, f1, f2, f3, f4, f5, f6⟩ := hg.t.b.entry
                refine opTo_of (by simp only [e5]; kernel_rfl) (fun K hK => ?_)
                go_simp
                exact hK.out (.agg #[.int .u8 o.k, .int .i64 o.id, .int .i64 o.ep, .slice q.a1 o.x.length q.c1, .slice q.a2 o.coms.length q.c2, .slice q.a3 o.next.length q.c3, .slice q.a4 o.deals.length q.c4]) _ _ (by simp only [e5]; kernel_rfl) ⟨hg, trivial, rfl⟩
              refine StepsA.cons (fun L vs w1 hl hdl hg hd2 => ?_) ?_
              · have e9 : vs 9 = .agg #[.int .u8 e.k, .int .i64 e.id, .int .i64 e.ep, .slice p.a1 e.x.length p.c1, .slice p.a2 e.coms.length p.c2, .slice p.a3 e.next.length p.c3, .slice p.a4 e.deals.length p.c4] := hd2 9 (by decide)
                have e10 : vs 10 = .agg #[.int .u8 o.k, .int .i64 o.id, .int .i64 o.ep, .slice q.a1 o.x.length q.c1, .slice q.a2 o.coms.length q.c2, .slice q.a3 o.next.length q.c3, .slice q.a4 o.deals.length q.c4] := hd2 10 (by decide)
                have e5 : vs 5 = .bool true := hd2 5 (by decide)
                have HC := Lib.hid (rsame_is p q w1 hg.t.na hg.t.nb HX.out.2.1.cnt HX.out.2.2.1.cnt HX.out.2.2.2.2)
                refine opTo_of (by simp only [e5]; kernel_rfl) (fun K hK => ?_)
                go_simp
                refine Calls.mono HC.out ?_
                rintro r2 w2 ⟨rfl, hb⟩
                exact hK.out (.bool r) _ _ (by simp only [e9, e10, e5]; kernel_rfl) ⟨hg.step hb, trivial, rfl⟩
              refine StepsA.cons (fun L vs w1 hl hdl hg hd2 => ?_) ?_
              · have e8 : vs 8 = .bool r := hd2 8 (by decide)
                have e11 : vs 11 = .bool r := hd2 11 (by decide)
                have e5 : vs 5 = .bool true := hd2 5 (by decide)
                refine opTo_of (by simp only [e5]; kernel_rfl) (fun K hK => ?_)
                go_simp
                exact hK.out (.bool true) _ _ (by simp only [e8, e11, e5]; kernel_rfl) ⟨hg, trivial, rfl⟩
              refine StepsA.cons (fun L vs w1 hl hdl hg hd2 => ?_) ?_
              · have e5 : vs 5 = .bool true := hd2 5 (by decide)
                have e12 : vs 12 = .bool true := hd2 12 (by decide)
                refine opTo_of (by kernel_rfl) (fun K hK => ?_)
                go_simp
                exact hK.out (.bool true) _ _ (by simp only [e5, e12]; kernel_rfl) ⟨hg, trivial, rfl⟩
              refine StepsA.cons (fun L vs w1 hl hdl hg hd2 => ?_) ?_
              · have e13 : vs 13 = .bool true := hd2 13 (by decide)
                refine opTo_of (by kernel_rfl) (fun K hK => ?_)
                go_simp
                exact hK.out (.bool true) _ _ (by simp only [e13]; kernel_rfl) ⟨hg, trivial, rfl⟩
              refine StepsA.cons (fun L vs w1 hl hdl hg hd2 => ?_) ?_
              · have e14 : vs 14 = .bool true := hd2 14 (by decide)
                obtain ⟨f0, f1, f2, f3, f4, f5, f6⟩ := hg.t.a.entry
                refine opTo_of (by simp only [e14]; kernel_rfl) (fun K hK => ?_)
                go_simp
                exact hK.out (.agg #[.int .u8 e.k, .int .i64 e.id, .int .i64 e.ep, .slice p.a1 e.x.length p.c1, .slice p.a2 e.coms.length p.c2, .slice p.a3 e.next.length p.c3, .slice p.a4 e.deals.length p.c4]) _ _ (by simp only [e14]; kernel_rfl) ⟨hg, trivial, rfl⟩
              refine StepsA.cons (fun L vs w1 hl hdl hg hd2 => ?_) ?_
              · have e14 : vs 14 = .bool true := hd2 14 (by decide)
                obtain ⟨f0, f1, f2, f3, f4, f5, f6⟩ := hg.k.entry
                refine opTo_of (by simp only [e14]; kernel_rfl) (fun K hK => ?_)
                go_simp
                exact hK.out (.agg #[.int .u8 e.k, .int .i64 e.id, .int .i64 e.ep, .slice pk.a1 e.x.length pk.c1, .slice pk.a2 e.coms.length pk.c2, .slice pk.a3 e.next.length pk.c3, .slice pk.a4 e.deals.length pk.c4]) _ _ (by simp only [e14]; kernel_rfl) ⟨hg, trivial, rfl⟩
              refine StepsA.cons (fun L vs w1 hl hdl hg hd2 => ?_) ?_
              · have e15 : vs 15 = .agg #[.int .u8 e.k, .int .i64 e.id, .int .i64 e.ep, .slice p.a1 e.x.length p.c1, .slice p.a2 e.coms.length p.c2, .slice p.a3 e.next.length p.c3, .slice p.a4 e.deals.length p.c4] := hd2 15 (by decide)
                have e16 : vs 16 = .agg #[.int .u8 e.k, .int .i64 e.id, .int .i64 e.ep, .slice pk.a1 e.x.length pk.c1, .slice pk.a2 e.coms.length pk.c2, .slice pk.a3 e.next.length pk.c3, .slice pk.a4 e.deals.length pk.c4] := hd2 16 (by decide)
                have e14 : vs 14 = .bool true := hd2 14 (by decide)
                have HC := Lib.hid (esame_is p pk w1 hg.t.na hg.n HX.out.2.1.cnt HX.out.2.1.cnt (En.same_iff.2 rfl))
                refine opTo_of (by simp only [e14]; kernel_rfl) (fun K hK => ?_)
                go_simp
                refine Calls.mono HC.out ?_
                rintro r2 w2 ⟨rfl, hb⟩
                exact hK.out (.bool true) _ _ (by simp only [e15, e16, e14]; kernel_rfl) ⟨hg.step hb, trivial, rfl⟩
              refine StepsA.cons (fun L vs w1 hl hdl hg hd2 => ?_) ?_
              · have e14 : vs 14 = .bool true := hd2 14 (by decide)
                have e17 : vs 17 = .bool true := hd2 17 (by decide)
                refine opTo_of (by kernel_rfl) (fun K hK => ?_)
                go_simp
                exact hK.out (.bool true) _ _ (by simp only [e14, e17]; kernel_rfl) ⟨hg, trivial, rfl⟩
              refine StepsA.cons (fun L vs w1 hl hdl hg hd2 => ?_) ?_
              · have e18 : vs 18 = .bool true := hd2 18 (by decide)
                refine opTo_of (by kernel_rfl) (fun K hK => ?_)
                go_simp
                exact hK.out (.bool true) _ _ (by simp only [e18]; kernel_rfl) ⟨hg, trivial, rfl⟩
              refine StepsA.cons (fun L vs w1 hl hdl hg hd2 => ?_) ?_
              · have e19 : vs 19 = .bool true := hd2 19 (by decide)
                obtain ⟨f0, f1, f2, f3, f4, f5, f6⟩ := hg.t.a.entry
                refine opTo_of (by simp only [e19]; kernel_rfl) (fun K hK => ?_)
                go_simp
                exact hK.out (.agg #[.int .u8 e.k, .int .i64 e.id, .int .i64 e.ep, .slice p.a1 e.x.length p.c1, .slice p.a2 e.coms.length p.c2, .slice p.a3 e.next.length p.c3, .slice p.a4 e.deals.length p.c4]) _ _ (by simp only [e19]; kernel_rfl) ⟨hg, trivial, rfl⟩
              refine StepsA.cons (fun L vs w1 hl hdl hg hd2 => ?_) ?_
              · have e19 : vs 19 = .bool true := hd2 19 (by decide)
                obtain ⟨f0, f1, f2, f3, f4, f5, f6⟩ := hg.k.entry
                refine opTo_of (by simp only [e19]; kernel_rfl) (fun K hK => ?_)
                go_simp
                exact hK.out (.agg #[.int .u8 e.k, .int .i64 e.id, .int .i64 e.ep, .slice pk.a1 e.x.length pk.c1, .slice pk.a2 e.coms.length pk.c2, .slice pk.a3 e.next.length pk.c3, .slice pk.a4 e.deals.length pk.c4]) _ _ (by simp only [e19]; kernel_rfl) ⟨hg, trivial, rfl⟩
              refine StepsA.cons (fun L vs w1 hl hdl hg hd2 => ?_) ?_
              · have e20 : vs 20 = .agg #[.int .u8 e.k, .int .i64 e.id, .int .i64 e.ep, .slice p.a1 e.x.length p.c1, .slice p.a2 e.coms.length p.c2, .slice p.a3 e.next.length p.c3, .slice p.a4 e.deals.length p.c4] := hd2 20 (by decide)
                have e21 : vs 21 = .agg #[.int .u8 e.k, .int .i64 e.id, .int .i64 e.ep, .slice pk.a1 e.x.length pk.c1, .slice pk.a2 e.coms.length pk.c2, .slice pk.a3 e.next.length pk.c3, .slice pk.a4 e.deals.length pk.c4] := hd2 21 (by decide)
                have e19 : vs 19 = .bool true := hd2 19 (by decide)
                have HC := Lib.hid (rsame_is p pk w1 hg.t.na hg.n HX.out.2.1.cnt HX.out.2.1.cnt (En.same_iff.2 rfl))
                refine opTo_of (by simp only [e19]; kernel_rfl) (fun K hK => ?_)
                go_simp
                refine Calls.mono HC.out ?_
                rintro r2 w2 ⟨rfl, hb⟩
                exact hK.out (.bool true) _ _ (by simp only [e20, e21, e19]; kernel_rfl) ⟨hg.step hb, trivial, rfl⟩
              refine StepsA.cons (fun L vs w1 hl hdl hg hd2 => ?_) ?_
              · have e19 : vs 19 = .bool true := hd2 19 (by decide)
                have e22 : vs 22 = .bool true := hd2 22 (by decide)
                refine opTo_of (by kernel_rfl) (fun K hK => ?_)
                go_simp
                exact hK.out (.bool true) _ _ (by simp only [e19, e22]; kernel_rfl) ⟨hg, trivial, rfl⟩
              refine StepsA.cons (fun L vs w1 hl hdl hg hd2 => ?_) ?_
              · have e23 : vs 23 = .bool true := hd2 23 (by decide)
                refine opTo_of (by kernel_rfl) (fun K hK => ?_)
                go_simp
                exact hK.out (.bool true) _ _ (by simp only [e23]; kernel_rfl) ⟨hg, trivial, rfl⟩
              refine StepsA.cons (fun L vs w1 hl hdl hg hd2 => ?_) ?_
              · have e24 : vs 24 = .bool true := hd2 24 (by decide)
                have HC := Lib.hid (awake_any w1)
                refine opTo_of (by simp only [e24]; kernel_rfl) (fun K hK => ?_)
                go_simp
                refine Calls.mono HC.out ?_
                rintro r2 w2 ⟨rfl, hb⟩
                exact hK.out (.bool true) _ _ (by simp only [e24]; kernel_rfl) ⟨hg.step hb, trivial, rfl⟩
              refine StepsA.cons (fun L vs w1 hl hdl hg hd2 => ?_) ?_
              · have e24 : vs 24 = .bool true := hd2 24 (by decide)
                have e25 : vs 25 = .bool true := hd2 25 (by decide)
                refine opTo_of (by kernel_rfl) (fun K hK => ?_)
                go_simp
                exact hK.out (.bool true) _ _ (by simp only [e24, e25]; kernel_rfl) ⟨hg, trivial, rfl⟩
              refine StepsA.cons (fun L vs w1 hl hdl hg hd2 => ?_) ?_
              · have e26 : vs 26 = .bool true := hd2 26 (by decide)
                refine opTo_of (by kernel_rfl) (fun K hK => ?_)
                go_simp
                exact hK.out (.bool true) _ _ (by simp only [e26]; kernel_rfl) ⟨hg, trivial, rfl⟩
              exact StepsA.nil
            case fin =>
              intro L vs w1 hL1 hg hT
              have e27 : vs 27 = .bool true := hT 27 (by decide)
              have HG := Lib.hid hg.t.bel
              clear hg hT HTc
              go_wp2_with fail
              go_ret
              exact ⟨by rw [e27]; rfl, HG.out⟩
end Go.Proofs.YtdnkijljpmcejaaGreat
