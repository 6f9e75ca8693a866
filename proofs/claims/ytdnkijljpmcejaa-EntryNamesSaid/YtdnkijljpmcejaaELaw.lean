/-
  consistorylaw13.many, large, awake.
-/
import Derived.Test.YtdnkijljpmcejaaEDec
namespace Go.Proofs.Ytdnkijljpmcejaa
open Go.RowKit

/-- How many numbers lists have, up to a bound. -/
def mny : List (List Int) → Nat → Nat
  | [], n => n
  | l :: ls, n => if n < 5000 then mny ls (n + 1 + l.length) else n
def ldl : List Dl → Nat → Nat
  | [], n => n
  | d :: ds, n => if n < 5000 then ldl ds (n + 1 + mny d.2 0) else n
def En.size0 (e : En) : Nat := e.x.length + e.next.length + mny e.coms 0
def En.large (e : En) : Bool := decide (5000 ≤ ldl e.deals e.size0)
/-- What the machine can hold. -/
def RLs (ls : List (List Int)) : Prop := ls.length ≤ 140737488351232 ∧ ∀ l ∈ ls, l.length ≤ 140737488351232
structure En.Rch (e : En) : Prop where
  x : e.x.length ≤ 140737488351232
  coms : RLs e.coms
  next : e.next.length ≤ 140737488351232
  deals : e.deals.length ≤ 140737488351232
  cols : ∀ d ∈ e.deals, RLs d.2
theorem mny_ge : ∀ (ls : List (List Int)) (n : Nat), n ≤ mny ls n
  | [], n => Nat.le_refl _
  | l :: ls, n => by
    unfold mny
    split
    · have := mny_ge ls (n + 1 + l.length); omega
    · exact Nat.le_refl _
theorem mny_le : ∀ (ls : List (List Int)) (n : Nat), (∀ l ∈ ls, l.length ≤ 140737488351232) → n ≤ 140737488371232 → mny ls n ≤ 140737488371232
  | [], n, _, h => h
  | l :: ls, n, hl, h => by
    unfold mny
    split
    · exact mny_le ls _ (fun m hm => hl m (by simp [hm])) (by have := hl l (by simp); omega)
    · exact h
theorem mny_lim : ∀ (ls : List (List Int)) (n : Nat), mny ls n < 5000 → n + ls.length ≤ mny ls n ∧ ∀ l ∈ ls, l.length ≤ mny ls n
  | [], n, _ => by simp [mny]
  | l :: ls, n, h => by
    unfold mny at h ⊢
    split at h
    · rename_i hn
      rw [if_pos hn]
      obtain ⟨h1, h2⟩ := mny_lim ls _ h
      refine ⟨by simp; omega, fun m hm => ?_⟩
      rcases List.mem_cons.1 hm with rfl | hm
      · omega
      · exact h2 m hm
    · omega
theorem ldl_ge : ∀ (ds : List Dl) (n : Nat), n ≤ ldl ds n
  | [], n => Nat.le_refl _
  | d :: ds, n => by
    unfold ldl
    split
    · have := ldl_ge ds (n + 1 + mny d.2 0); omega
    · exact Nat.le_refl _
theorem ldl_lim : ∀ (ds : List Dl) (n : Nat), ldl ds n < 5000 → n + ds.length ≤ ldl ds n ∧ ∀ d ∈ ds, mny d.2 0 < 5000
  | [], n, _ => by simp [ldl]
  | d :: ds, n, h => by
    unfold ldl at h ⊢
    split at h
    · rename_i hn
      rw [if_pos hn]
      obtain ⟨h1, h2⟩ := ldl_lim ds _ h
      refine ⟨by simp; omega, fun m hm => ?_⟩
      rcases List.mem_cons.1 hm with rfl | hm
      · omega
      · exact h2 m hm
    · omega
theorem large_lim {e : En} (h : e.large = false) : e.Lim := by
  have h : ldl e.deals e.size0 < 5000 := by
    have := of_decide_eq_false h
    omega
  obtain ⟨h1, h2⟩ := ldl_lim _ _ h
  have h3 : e.size0 < 5000 := by omega
  generalize ldl e.deals e.size0 = M at h h1
  unfold En.size0 at h3 h1
  obtain ⟨c1, c2⟩ := mny_lim e.coms 0 (by omega)
  exact ⟨by omega, by omega, by omega, by omega, fun l hl => by have := c2 l hl; omega, fun d hd => by have := (mny_lim d.2 0 (h2 d hd)).1; have := h2 d hd; omega, fun d hd l hl => by have := (mny_lim d.2 0 (h2 d hd)).2 l hl; have := h2 d hd; omega⟩
theorem mny_take {ls : List (List Int)} {j : Nat} {l : List Int} (h : ls[j]? = some l) : ∀ (n : Nat), mny (ls.drop j) n = if n < 5000 then mny (ls.drop (j + 1)) (n + 1 + l.length) else n := by
  intro n
  have hj := (List.getElem?_eq_some_iff.1 h).1
  have e : ls.drop j = l :: ls.drop (j + 1) := by rw [List.drop_eq_getElem_cons hj, (List.getElem?_eq_some_iff.1 h).2]
  rw [e]
  rfl
theorem ldl_take {ls : List Dl} {j : Nat} {l : Dl} (h : ls[j]? = some l) : ∀ (n : Nat), ldl (ls.drop j) n = if n < 5000 then ldl (ls.drop (j + 1)) (n + 1 + mny l.2 0) else n := by
  intro n
  have hj := (List.getElem?_eq_some_iff.1 h).1
  have e : ls.drop j = l :: ls.drop (j + 1) := by rw [List.drop_eq_getElem_cons hj, (List.getElem?_eq_some_iff.1 h).2]
  rw [e]
  rfl
def IntR (n : Nat) (w : World) (e : Ending) (w' : World) : Prop := e = .returned (.int .i64 n) ∧ w = w'
set_option maxRecDepth 100000 in
set_option maxHeartbeats 400000 in
theorem many_any (a : Option Addr) (c : Nat) (ls : List (List Int)) (w : World) (hx : NLst w w.heap.size a ls) (hr : RLs ls) :
    Calls Try.prog 109 #[.slice a ls.length c] w (IntR (mny ls 0) w) := by
  have hr1 := hr.1
  have HR := Lib.hid hr.2
  clear hr
  go_enter Try.func109, Try.ntmps109
  go_wp2_with fail
  go_loop [3, 4] (fun u v => ∃ j n : Nat, j ≤ ls.length ∧ v = .int .i64 j ∧ u = .int .i64 n ∧ n ≤ 140737488371232 ∧ mny (ls.drop j) n = mny ls 0) (fun _ v => ls.length - (intOf v).toNat)
  case atStart => exact ⟨0, 0, Nat.zero_le _, rfl, rfl, by omega, rfl⟩
  case round =>
    obtain ⟨j, n, hj, rfl, rfl, hn, hM⟩ := hrel
    by_cases hlt : j < ls.length
    · obtain ⟨l, hl⟩ : ∃ l, ls[j]? = some l := ⟨_, List.getElem?_eq_getElem hlt⟩
      have hjI : (j : Int) < (ls.length : Int) := by omega
      rw [mny_take hl] at hM
      by_cases h5 : n < 5000
      · have hnI : (n : Int) < 5000 := by omega
        rw [if_pos h5] at hM
        have hll := HR.out l (List.mem_of_getElem? hl)
        obtain ⟨b, o, rfl, hb, a', c', hc⟩ : ∃ b o, a = some ⟨b, o, none⟩ ∧ b < w.heap.size ∧ ∃ a' c', w.cell? ⟨b, o + j, none⟩ = some (.slice a' l.length c') := by
          rcases hx with h0 | ⟨b, o, ha, hb, hc⟩
          · rw [h0] at hlt; simp at hlt
          · obtain ⟨a', c', h1, _⟩ := hc j l hl
            exact ⟨b, o, ha, hb, a', c', h1⟩
        have HM := Lib.hid hM
        clear hM hl
        go_wp2_with fail
        go_round
        case rel => exact ⟨j + 1, n + 1 + l.length, by omega, by go_num, by go_num, by omega, HM.out⟩
        case measure => simp [intOf]; omega
      · have hnI : decide ((n : Int) < 5000) = false := decide_eq_false (by omega)
        rw [if_neg h5] at hM
        have HM := Lib.hid hM
        clear hM hl
        go_wp2_with fail
        go_ret
        rw [← HM.out]
        exact ⟨rfl, rfl⟩
    · have hje : j = ls.length := by omega
      subst hje
      rw [List.drop_length] at hM
      have HM := Lib.hid hM
      clear hM
      go_wp2_with fail
      go_ret
      rw [← HM.out]
      exact ⟨rfl, rfl⟩
set_option maxRecDepth 100000 in
set_option maxHeartbeats 1000000 in
theorem large_any (e : En) (p : Ad) (w : World) (hN : NEn w w.heap.size e p) (hr : e.Rch) :
    Calls Try.prog 56 #[.agg #[.int .u8 e.k, .int .i64 e.id, .int .i64 e.ep, .slice p.a1 e.x.length p.c1, .slice p.a2 e.coms.length p.c2, .slice p.a3 e.next.length p.c3, .slice p.a4 e.deals.length p.c4]] w (BoolPost e.large w) := by
  obtain ⟨w0, hw0⟩ : ∃ w0, w0 = w.alloc (.cells #[.int .u8 e.k, .int .i64 e.id, .int .i64 e.ep, .slice p.a1 e.x.length p.c1, .slice p.a2 e.coms.length p.c2, .slice p.a3 e.next.length p.c3, .slice p.a4 e.deals.length p.c4] 55) := ⟨_, rfl⟩
  have B0 : Below w.heap.size w w0 := by rw [hw0]; exact (Below.refl _ w).alloc (Nat.le_refl _) _
  have K0 : Blk w0 w.heap.size 55 #[.int .u8 e.k, .int .i64 e.id, .int .i64 e.ep, .slice p.a1 e.x.length p.c1, .slice p.a2 e.coms.length p.c2, .slice p.a3 e.next.length p.c3, .slice p.a4 e.deals.length p.c4] := by rw [hw0]; exact Blk.new w _ _
  have HW := Lib.hid hw0
  have HN := Lib.hid (And.intro K0 (And.intro B0 (And.intro (hN.step B0) hr)))
  have r1 := hr.x
  have r2 := hr.next
  have r3 := mny_le e.coms 0 hr.coms.2 (by omega)
  have hw1 : IntKind.i64.wrap ((e.x.length : Int) + (e.next.length : Int)) = (e.x.length : Int) + (e.next.length : Int) := IntWalk.i64_in _ (by omega)
  have hw2 : IntKind.i64.wrap ((e.x.length : Int) + (e.next.length : Int) + (mny e.coms 0 : Nat)) = (e.x.length : Int) + (e.next.length : Int) + (mny e.coms 0 : Nat) := IntWalk.i64_in _ (by omega)
  obtain ⟨-, -, -, f3, f4, f5, f6⟩ := (K0.drew).entry
  have HN1 := Lib.hid (And.intro f6 (And.intro ((B0.drew)) (hN.step B0.drew)))
  clear f6
  clear hw0 B0 K0 hN
  go_enter Try.func56, Try.ntmps56
  go_upto_region 1 with fail
  rw [← HW.out]
  clear HW
  generalize hG : w.heap.size = G at f3 f4 f5 ⊢
  have HG := Lib.hid hG
  clear hG
  go_region_held3 (fun w' => w'.cell? ⟨G, 3, none⟩ = some (.slice p.a1 e.x.length p.c1) ∧ w'.cell? ⟨G, 4, none⟩ = some (.slice p.a2 e.coms.length p.c2) ∧ w'.cell? ⟨G, 5, none⟩ = some (.slice p.a3 e.next.length p.c3)) (with_reducible exact ⟨f3, f4, f5⟩)
    ((go_at_call 109; (with_reducible refine (many_any p.a2 p.c2 e.coms _ (HN.out.2.2.1.coms.step ((Below.refl _ w0).drew)) HN.out.2.2.2.coms).mono ?_); rintro e2 w2 ⟨rfl, rfl⟩))
  have HN2 := Lib.hid (And.intro HN1.out.1 HN1.out.2)
  rw [HG.out] at HN2
  have hG1 : G < w0.drew.heap.size := by rw [← HG.out]; exact HN.out.1.lt
  clear f3 f4 f5 hw1 hw2 HN1
  generalize w0.drew = w1 at *
  obtain ⟨f6, hB1, hN1⟩ := HN2.out
  have HX := Lib.hid (And.intro hB1 hN1)
  have rd := hr.deals
  have HR := Lib.hid hr.cols
  clear hB1 hN1 hr HN HN2
  go_wp2_with fail
  go_loop [3, 4] (fun u v => ∃ j n : Nat, j ≤ e.deals.length ∧ v = .int .i64 j ∧ u = .int .i64 n ∧ n ≤ 1000000000000000 ∧ ldl (e.deals.drop j) n = ldl e.deals e.size0) (fun _ v => e.deals.length - (intOf v).toNat)
  case atStart => exact ⟨0, e.size0, Nat.zero_le _, rfl, by unfold En.size0; go_num, by unfold En.size0; omega, rfl⟩
  case round =>
    obtain ⟨j, n, hj, rfl, rfl, hn, hM⟩ := hrel
    by_cases hlt : j < e.deals.length
    · obtain ⟨d, hd⟩ : ∃ d, e.deals[j]? = some d := ⟨_, List.getElem?_eq_getElem hlt⟩
      have hjI : (j : Int) < (e.deals.length : Int) := by omega
      rw [ldl_take hd] at hM
      by_cases h5 : n < 5000
      · have hnI : (n : Int) < 5000 := by omega
        rw [if_pos h5] at hM
        have hrd := HR.out d (List.mem_of_getElem? hd)
        have hml := mny_le d.2 0 hrd.2 (by omega)
        obtain ⟨b, o, hb, hbl, a', c', hc1, hNL⟩ : ∃ b o, p.a4 = some ⟨b, o, none⟩ ∧ b < w1.heap.size ∧ ∃ a' c', w1.cell? ⟨b, o + j * 2 + 1, none⟩ = some (.slice a' d.2.length c') ∧ NLst w1 w1.heap.size a' d.2 := by
          rcases HX.out.2.deals with h0 | ⟨b, o, ha, hbl, hc⟩
          · rw [h0] at hlt; simp at hlt
          · obtain ⟨a', c', x0, x1, x2⟩ := hc j d hd
            exact ⟨b, o, ha, hbl, a', c', x1, x2⟩
        have HM := Lib.hid hM
        have HC := Lib.hid (many_any a' c' d.2 w1 hNL hrd)
        rw [hb] at f6
        clear hM hd hNL hrd hb
        go_wp2_with fail
        refine (Calls.mono HC.out ?_)
        rintro e2 w2 ⟨rfl, rfl⟩
        go_wp2_with fail
        go_round
        case rel => exact ⟨j + 1, n + 1 + mny d.2 0, by omega, by go_num, by go_num, by omega, HM.out⟩
        case measure => simp [intOf]; omega
      · have hnI : decide ((n : Int) < 5000) = false := decide_eq_false (by omega)
        rw [if_neg h5] at hM
        have HM := Lib.hid hM
        have hge : decide ((5000 : Int) ≤ (n : Int)) = true := decide_eq_true (by omega)
        clear hM hd
        go_wp2_with fail
        go_ret
        refine ⟨ret_bool ?_, by rw [HG.out]; exact HX.out.1⟩
        unfold En.large
        rw [← HM.out]
        exact (decide_eq_true (by omega)).symm
    · have hje : j = e.deals.length := by omega
      rw [hje, List.drop_length] at hM
      have HM := Lib.hid hM
      have hnI : decide ((j : Int) < (e.deals.length : Int)) = false := decide_eq_false (by omega)
      clear hM hje
      go_wp2_with fail
      all_goals
        go_ret
        refine ⟨ret_bool ?_, by rw [HG.out]; exact HX.out.1⟩
        unfold En.large
        rw [← HM.out, decide_eq_decide]
        unfold ldl
        omega


/-! awake -/
def aw1 : En := ⟨2, 5, 0, [1, -1], [], [], []⟩
def aw2 : En := ⟨3, 0, 1, [], [], [2, 3], []⟩
def aw3 : En := ⟨1, 1, 0, [], [], [], []⟩
def awS : List UInt8 := [2, 0, 0, 0, 0, 0, 0, 0, 5, 2, 0, 0, 0, 0, 0, 0, 0, 1, 255, 255, 255, 255, 255, 255, 255, 255]
def awT : List UInt8 := [3, 0, 0, 0, 0, 0, 0, 0, 1, 2, 0, 0, 0, 0, 0, 0, 0, 2, 0, 0, 0, 0, 0, 0, 0, 3]
theorem aw1_bytes : aw1.bytes = awS := by decide +kernel
theorem aw2_bytes : aw2.bytes = awT := by decide +kernel
theorem aw1_form : aw1.form = true := by decide +kernel
theorem aw2_form : aw2.form = true := by decide +kernel
theorem aw1_ok : aw1.Ok := ⟨by decide, by decide, by unfold I64; decide, by unfold I64; decide, by intro n hn; simp [aw1] at hn; unfold I64; rcases hn with rfl | rfl <;> decide, by simp [aw1, Us], by simp [aw1], by simp [aw1]⟩
theorem aw2_ok : aw2.Ok := ⟨by decide, by decide, by unfold I64; decide, by unfold I64; decide, by simp [aw2], by simp [aw2, Us], by intro n hn; simp [aw2] at hn; unfold I64; rcases hn with rfl | rfl <;> decide, by simp [aw2]⟩
theorem aw3_ok : aw3.Ok := ⟨by decide, by decide, by unfold I64; decide, by unfold I64; decide, by simp [aw3], by simp [aw3, Us], by simp [aw3], by simp [aw3]⟩
theorem aw1_may : aw1.May := ⟨aw1_ok, aw1_form, by rw [aw1_bytes]; decide⟩
theorem aw1_enc : eenc aw1 = (awS, 0) := by rw [eenc_may aw1_may, aw1_bytes]
theorem aw2_enc : eenc aw2 = (awT, 0) := by rw [eenc_may ⟨aw2_ok, aw2_form, by rw [aw2_bytes]; decide⟩, aw2_bytes]
theorem aw3_enc : eenc aw3 = ([], 4) := by decide +kernel
theorem aw_dec : edec awS = (aw1, 0) := by rw [← aw1_bytes]; exact edec_back aw1_may
theorem aw1_lim : aw1.Lim := ⟨by decide, by decide, by decide, by decide, by simp [aw1], by simp [aw1], by simp [aw1]⟩
theorem aw2_lim : aw2.Lim := ⟨by decide, by decide, by decide, by decide, by simp [aw2], by simp [aw2], by simp [aw2]⟩
theorem aw3_lim : aw3.Lim := ⟨by decide, by decide, by decide, by decide, by simp [aw3], by simp [aw3], by simp [aw3]⟩
theorem enc_of {e : En} {s : List UInt8} {x : Int} (p : Ad) (w : World) (ok : e.Ok) (hL : e.Lim) (hN : NEn w w.heap.size e p) (h : eenc e = (s, x)) :
    Calls Try.prog 36 #[.agg #[.int .u8 e.k, .int .i64 e.id, .int .i64 e.ep, .slice p.a1 e.x.length p.c1, .slice p.a2 e.coms.length p.c2, .slice p.a3 e.next.length p.c3, .slice p.a4 e.deals.length p.c4]] w (StrPost s x w) :=
  (enc_any e p w ok hL hN).mono fun r w' ⟨h1, h2⟩ => ⟨by rw [h1, h], h2⟩
theorem dec_of {s : List UInt8} {e : En} {x : Int} (w : World) (h9 : s.length ≤ 9223372036854775807) (h : edec s = (e, x)) :
    Calls Try.prog 38 #[.string ⟨s.toArray⟩] w (EnPost e x w) :=
  (dec_any s w h9).mono fun r w' h1 => by rw [h] at h1; exact h1
theorem nums_new (w : World) (k : IntKind) (t : TypeId) (l : List Int) (cs : Array Value) (hc : cs = (l.map (Value.int k)).toArray) : Nums k (w.alloc (.cells cs t)) (w.alloc (.cells cs t)).heap.size (some ⟨w.heap.size, 0, none⟩) l := by
  refine .inr ⟨w.heap.size, 0, rfl, by simp, fun i x hx => ?_⟩
  rw [Nat.zero_add, (Blk.new w t cs).cell, hc]
  simp [hx]
set_option maxRecDepth 100000 in
set_option maxHeartbeats 1000000 in
theorem awake_any (w : World) : Calls Try.prog 33 #[] w (BoolPost true w) := by
  have HN1 := Lib.hid (show NEn (w.alloc (.cells #[.int .i64 1, .int .i64 (-1)] 2)) (w.alloc (.cells #[.int .i64 1, .int .i64 (-1)] 2)).heap.size aw1 ⟨some ⟨w.heap.size, 0, none⟩, 2, none, 0, none, 0, none, 0⟩ from ⟨nums_new w .i64 _ [1, -1] _ rfl, .inl rfl, .inl rfl, .inl rfl⟩)
  go_enter Try.func33, Try.ntmps33
  go_wp2_with fail
  refine (enc_of ⟨some ⟨w.heap.size, 0, none⟩, 2, none, 0, none, 0, none, 0⟩ _ aw1_ok aw1_lim HN1.out aw1_enc).mono ?_
  rintro e w1 ⟨rfl, b1⟩
  have B1 := Lib.hid (step_below ((Below.refl _ w).alloc (Nat.le_refl _) _) b1)
  have HN2 := Lib.hid (show NEn (w1.alloc (.cells #[.int .i64 2, .int .i64 3] 3)) (w1.alloc (.cells #[.int .i64 2, .int .i64 3] 3)).heap.size aw2 ⟨none, 0, none, 0, some ⟨w1.heap.size, 0, none⟩, 2, none, 0⟩ from ⟨.inl rfl, .inl rfl, nums_new w1 .i64 _ [2, 3] _ rfl, .inl rfl⟩)
  clear b1 HN1
  go_wp2_with fail
  refine (enc_of ⟨none, 0, none, 0, some ⟨w1.heap.size, 0, none⟩, 2, none, 0⟩ _ aw2_ok aw2_lim HN2.out aw2_enc).mono ?_
  rintro e w2 ⟨rfl, b2⟩
  have B2 := Lib.hid (step_below B1.out (step_below ((Below.refl _ w1).alloc (Nat.le_refl _) _) b2))
  clear b2 HN2 B1
  go_wp2_with fail
  refine (dec_of w2 (by decide) aw_dec).mono ?_
  rintro e w3 ⟨p, rfl, ho, b3⟩
  have B3 := Lib.hid (step_below B2.out b3)
  clear b3 B2 ho
  go_wp2_with fail
  refine (enc_of ⟨none, 0, none, 0, none, 0, none, 0⟩ _ aw3_ok aw3_lim ⟨.inl rfl, .inl rfl, .inl rfl, .inl rfl⟩ aw3_enc).mono ?_
  rintro e w4 ⟨rfl, b4⟩
  have K3 := (Blk.new w3 55 #[.int .u8 2, .int .i64 5, .int .i64 0, .slice p.a1 2 p.c1, .slice p.a2 0 p.c2, .slice p.a3 0 p.c3, .slice p.a4 0 p.c4]).kept b4
  have f1 : w4.cell? ⟨w3.heap.size, 1, none⟩ = some (.int .i64 5) := K3.cell 1
  have f3 : w4.cell? ⟨w3.heap.size, 3, none⟩ = some (.slice p.a1 2 p.c1) := K3.cell 3
  have hS : (⟨awS.toArray⟩ : ByteArray) = ⟨#[2, 0, 0, 0, 0, 0, 0, 0, 5, 2, 0, 0, 0, 0, 0, 0, 0, 1, 255, 255, 255, 255, 255, 255, 255, 255]⟩ := rfl
  have hT : (⟨awT.toArray⟩ : ByteArray) = ⟨#[3, 0, 0, 0, 0, 0, 0, 0, 1, 2, 0, 0, 0, 0, 0, 0, 0, 2, 0, 0, 0, 0, 0, 0, 0, 3]⟩ := rfl
  have B4 := Lib.hid (step_below B3.out (step_below ((Below.refl _ w3).alloc (Nat.le_refl _) _) b4))
  clear K3 b4 B3
  go_wp2_with fail
  go_ret
  exact ⟨rfl, B4.out⟩

end Go.Proofs.Ytdnkijljpmcejaa
