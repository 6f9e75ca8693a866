/-
  consistorylaw09.WireAsks: the walk.
-/
import Derived.Test.YtdnkijljpmcejaaAsks0
namespace Go.Proofs.Ytdnkijljpmcejaa
open Go.RowKit

set_option maxRecDepth 100000 in
set_option maxHeartbeats 2000000 in
theorem asks_any (sl : List UInt8) (a : Option Addr) (c : Nat) (ts : List Th) (w : World) (h : Things w w.heap.size a ts) (hf : ∀ t ∈ ts, Fit t) (hl : ts.length ≤ 9223372036854775807) (hsl : sl.length ≤ 9223372036854775807) :
    Calls Try.prog 8 #[.string ⟨sl.toArray⟩, .slice a ts.length c] w (TruePost w) := by
  by_cases g1 : 9000 < sl.length
  · have e1 : decide ((9000 : Int) < sl.length) = true := decide_eq_true (by omega)
    go_enter Try.func8, Try.ntmps8
    go_wp2_with fail
    refine (awake_any w).mono ?_
    rintro e w2 ⟨rfl, b2⟩
    go_wp2_with fail
    go_ret
    exact ⟨rfl, b2⟩
  have e1 : decide ((9000 : Int) < sl.length) = false := decide_eq_false (by omega)
  by_cases g2 : 100 < ts.length
  · have e2 : decide ((100 : Int) < ts.length) = true := decide_eq_true (by omega)
    go_enter Try.func8, Try.ntmps8
    go_wp2_with fail
    refine (awake_any w).mono ?_
    rintro e w2 ⟨rfl, b2⟩
    go_wp2_with fail
    go_ret
    exact ⟨rfl, b2⟩
  have e2 : decide ((100 : Int) < ts.length) = false := decide_eq_false (by omega)
  go_enter Try.func8, Try.ntmps8
  go_wp2_with fail
  refine (open_any _ _).mono ?_
  rintro e w1 ⟨rfl, r1, b1⟩
  go_wp2_with fail
  refine (ropen_any _ _).mono ?_
  rintro e w2 ⟨rfl, q2, b2⟩
  have T0 : Two w.heap.size w1.heap.size ⟨sl, 0⟩ w w2 := ⟨Blk.kept r1 b2, q2, step_below b1 b2⟩
  have hne : w.heap.size ≠ w1.heap.size := by have := Blk.lt r1; omega
  have hg : w.heap.size ≤ w.heap.size := Nat.le_refl _
  have hh : w.heap.size ≤ w1.heap.size := b1.size
  generalize hgg : w.heap.size = g at hne hg T0 r1 ⊢
  have HG := Lib.hid hgg
  generalize w1.heap.size = q at hne hh q2 T0 ⊢
  clear r1 b1 q2 b2
  go_wp2_with fail
  go_loopw [7] (fun v wr => ∃ (j : Nat) (st : RS), j ≤ ts.length ∧ v = .int .i64 j ∧ Two g q st w wr) (fun v _ => ts.length - (intOf v).toNat)
  case atStart => exact ⟨0, _, Nat.zero_le _, rfl, T0⟩
  case round =>
    clear T0
    obtain ⟨j, st, hj, rfl, T⟩ := hrel
    have hg' : w.heap.size ≤ g := by omega
    have hh' : w.heap.size ≤ q := by omega
    clear hgg
    by_cases hlt : j < ts.length
    · obtain ⟨t, htj⟩ : ∃ t, ts[j]? = some t := ⟨_, List.getElem?_eq_getElem hlt⟩
      obtain ⟨tok, hts, htl⟩ := hf t (List.mem_of_getElem? htj)
      rcases h.kept T.2.2 (Nat.le_refl _) with h0 | ⟨b, o, rfl, hbl, hc⟩
      · rw [h0] at hlt; simp at hlt
      obtain ⟨la, lc, hnums, c0, c1, c2, c3, c4⟩ := hc j t htj
      clear htj hc
      go_upto_block 2 with fail
      go_cut [8] from 47 to 222 (fun k wx => k = .bool true ∧ ∃ st', Two g q st' w wx)
      case first =>
        by_cases k0 : t.k = 0
        · as_aux_lemma =>
            have kk0 : (t.k == 0) = true := by simp; omega
            clear k0
            go_wp2_with fail
            refine (Byte_any g st _ T.1).mono ?_
            rintro e w4 ⟨rfl, r4, o4⟩
            go_wp2_with fail
            refine (rByte_any q st _ (T.ref hne o4)).mono ?_
            rintro e w5 ⟨rfl, q5, o5⟩
            have T' := T.next hg' hh' hne r4 o4 q5 o5
            generalize st.num 1 = p at T' ⊢
            obtain ⟨x, st'⟩ := p
            dsimp only at T' ⊢
            clear r4 o4 q5 o5 T
            go_wp2_with fail
            go_meet
            exact ⟨rfl, st', T'⟩
        by_cases k1 : t.k = 1
        · as_aux_lemma =>
            have kk0 : (t.k == 0) = false := by simp; omega
            have kk1 : (t.k == 1) = true := by simp; omega
            clear k1
            go_wp2_with fail
            refine (Num_any g st _ T.1).mono ?_
            rintro e w4 ⟨rfl, r4, o4⟩
            go_wp2_with fail
            refine (rNum_any q st _ (T.ref hne o4)).mono ?_
            rintro e w5 ⟨rfl, q5, o5⟩
            have T' := T.next hg' hh' hne r4 o4 q5 o5
            generalize st.num 8 = p at T' ⊢
            obtain ⟨x, st'⟩ := p
            dsimp only at T' ⊢
            clear r4 o4 q5 o5 T
            go_wp2_with fail
            go_meet
            exact ⟨rfl, st', T'⟩
        by_cases k2 : t.k = 2
        · as_aux_lemma =>
            have kk0 : (t.k == 0) = false := by simp; omega
            have kk1 : (t.k == 1) = false := by simp; omega
            have kk2 : (t.k == 2) = true := by simp; omega
            clear k2
            go_wp2_with fail
            refine (Int_any g st _ T.1).mono ?_
            rintro e w4 ⟨rfl, r4, o4⟩
            go_wp2_with fail
            refine (rInt_any q st _ (T.ref hne o4)).mono ?_
            rintro e w5 ⟨rfl, q5, o5⟩
            have T' := T.next hg' hh' hne r4 o4 q5 o5
            generalize st.num 8 = p at T' ⊢
            obtain ⟨x, st'⟩ := p
            dsimp only at T' ⊢
            clear r4 o4 q5 o5 T
            go_wp2_with fail
            go_meet
            exact ⟨rfl, st', T'⟩
        by_cases k3 : t.k = 3
        · as_aux_lemma =>
            have kk0 : (t.k == 0) = false := by simp; omega
            have kk1 : (t.k == 1) = false := by simp; omega
            have kk2 : (t.k == 2) = false := by simp; omega
            have kk3 : (t.k == 3) = true := by simp; omega
            clear k3
            go_wp2_with fail
            refine (Text_any g st _ T.1).mono ?_
            rintro e w4 ⟨rfl, r4, o4⟩
            go_wp2_with fail
            refine (rText_any q st _ (T.ref hne o4)).mono ?_
            rintro e w5 ⟨rfl, q5, o5⟩
            have T' := T.next hg' hh' hne r4 o4 q5 o5
            generalize st.text = p at T' ⊢
            obtain ⟨x, st'⟩ := p
            dsimp only at T' ⊢
            clear r4 o4 q5 o5 T
            go_wp2_with fail
            go_meet
            exact ⟨rfl, st', T'⟩
        by_cases k4 : t.k = 4
        · as_aux_lemma =>
            have kk0 : (t.k == 0) = false := by simp; omega
            have kk1 : (t.k == 1) = false := by simp; omega
            have kk2 : (t.k == 2) = false := by simp; omega
            have kk3 : (t.k == 3) = false := by simp; omega
            have kk4 : (t.k == 4) = true := by simp; omega
            clear k4
            go_wp2_with fail
            refine (List_any g st _ T.1).mono ?_
            rintro e w4 ⟨xa, xc, rfl, own4, r4, o4⟩
            go_wp2_with fail
            have q4 := T.ref hne o4
            refine (rList_any q st _ q4).mono ?_
            rintro e w5 ⟨ya, yc, rfl, own5, q5, o5⟩
            have own4' := own4.kept o5 (own_ne own4 q4 (by decide))
            have T' := T.next hg' hh' hne r4 o4 q5 o5
            have hsh := list_short st
            generalize st.list = p at T' own4' own5 hsh ⊢
            obtain ⟨xs, st'⟩ := p
            dsimp only at T' own4' own5 hsh ⊢
            have base4 : w.heap.size ≤ wr.heap.size := T.2.2.size
            clear r4 o4 q5 o5 T own4 q4
            go_wp2_with fail
            refine (numbers_any xa ya xc yc xs xs w5 (own_nums own4') (own_nums own5) (by omega) (by omega)).mono ?_
            rintro e w6 ⟨rfl, b6⟩
            have hxx : (xs == xs) = true := by simp
            rw [hxx]
            clear hxx
            have own6 := own_below own4' b6
            have T6 : Two g q st' w w6 := ⟨Blk.kept T'.1 b6, Blk.kept T'.2.1 b6, step_below T'.2.2 b6⟩
            clear own4' own5 T'
            go_wp2_with fail
            go_loopw [29] (fun v wk => ∃ k : Nat, k ≤ xs.length ∧ v = .int .i64 k ∧ (0 < xs.length → ∃ (z : Nat) (cur : Array Value), xa = some ⟨z, 0, none⟩ ∧ Blk wk z 22 cur ∧ xs.length ≤ cur.size ∧ w.heap.size ≤ z) ∧ Two g q st' w wk) (fun v _ => xs.length - (intOf v).toNat)
            case atStart => exact ⟨0, Nat.zero_le _, rfl, own_open own6 base4, T6⟩
            case round =>
              clear T6 own6
              obtain ⟨k, hk, rfl, hz, T7⟩ := hrel
              by_cases hkl : k < xs.length
              · obtain ⟨z, cur, rfl, hbz, hcur, hzw⟩ := hz (by omega)
                have ck : wr.cell? ⟨z, k, none⟩ = some (cur[k]'(by omega)) := by rw [Blk.cell hbz]; exact Array.getElem?_eq_getElem _
                have fk : wr.frozen? ⟨z, k, none⟩ = false := Blk.frozen hbz k
                go_wp2_with fail
                go_roundw
                case rel => exact ⟨k + 1, by omega, by go_num, fun _ => ⟨z, _, rfl, Blk.set_ hbz k _, by simpa using hcur, hzw⟩, two_store T7 hbz hzw k _⟩
                case measure => simp [intOf]; omega
              · have hke : k = xs.length := by omega
                subst hke
                have T' := T7
                clear hz
                go_wp2_with fail
                go_meet
                exact ⟨rfl, st', T'⟩
        by_cases k5 : t.k = 5
        · as_aux_lemma =>
            have kk0 : (t.k == 0) = false := by simp; omega
            have kk1 : (t.k == 1) = false := by simp; omega
            have kk2 : (t.k == 2) = false := by simp; omega
            have kk3 : (t.k == 3) = false := by simp; omega
            have kk4 : (t.k == 4) = false := by simp; omega
            have kk5 : (t.k == 5) = true := by simp; omega
            clear k5
            go_wp2_with fail
            refine (Count_any g t.most st _ T.1 tok.most).mono ?_
            rintro e w4 ⟨rfl, r4, o4⟩
            have c4' := five_most T hg' hbl o4 c4
            go_wp2_with fail
            refine (rCount_any q t.most st _ (T.ref hne o4) tok.most).mono ?_
            rintro e w5 ⟨rfl, q5, o5⟩
            have T' := T.next hg' hh' hne r4 o4 q5 o5
            generalize st.count t.most = p at T' ⊢
            obtain ⟨x, st'⟩ := p
            dsimp only at T' ⊢
            clear r4 o4 q5 o5 T
            go_wp2_with fail
            go_meet
            exact ⟨rfl, st', T'⟩
        as_aux_lemma =>
          have k0n : (t.k == 0) = false := by simp; omega
          have k1n : (t.k == 1) = false := by simp; omega
          have k2n : (t.k == 2) = false := by simp; omega
          have k3n : (t.k == 3) = false := by simp; omega
          have k4n : (t.k == 4) = false := by simp; omega
          have k5n : (t.k == 5) = false := by simp; omega
          clear k0 k1 k2 k3 k4 k5
          go_wp2_with fail
          refine (end_any g st _ T.1).mono ?_
          rintro e w4 ⟨rfl, r4, o4⟩
          go_wp2_with fail
          refine (rend_any q st _ (T.ref hne o4)).mono ?_
          rintro e w5 ⟨rfl, q5, o5⟩
          have T' := T.next hg' hh' hne r4 o4 q5 o5
          generalize st.fin = st' at T' ⊢
          clear r4 o4 q5 o5 T
          go_wp2_with fail
          go_meet
          exact ⟨rfl, st', T'⟩
      case rest =>
        as_aux_lemma =>
          obtain ⟨rfl, st', T'⟩ := hcut
          have T5 := T'
          have u0 : wc.cell? ⟨q, 0, none⟩ = some (.string ⟨st'.r.toArray⟩) := Blk.cell T5.2.1 0
          have u1 : wc.cell? ⟨q, 1, none⟩ = some (.int .i64 st'.e) := Blk.cell T5.2.1 1
          have v5 : RdAt g st' wc.drew := Blk.drew T5.1
          go_wp2_with fail
          go_region_held3 (fun w' => w'.cell? ⟨q, 0, none⟩ = some (.string ⟨st'.r.toArray⟩) ∧ w'.cell? ⟨q, 1, none⟩ = some (.int .i64 st'.e)) (first | exact ⟨u0, u1⟩ | go_keep) (first | (go_at_call 30; (with_reducible refine (left_any g st' _ v5).mono ?_); rintro e w6 ⟨rfl, rfl⟩) | (go_at_call 46; (with_reducible refine (wrong_any g st' _ v5).mono ?_); rintro e w6 ⟨rfl, rfl⟩))
          go_wp2_with fail
          go_roundw
          case rel => exact ⟨j + 1, st', by omega, by go_num, T5.drew⟩
          case measure => simp [intOf]; omega
    · as_aux_lemma =>
        have hje : j = ts.length := by omega
        subst hje
        go_wp2_with fail
        refine (awake_any _).mono ?_
        rintro e w3 ⟨rfl, b3⟩
        go_wp2_with fail
        go_ret
        exact ⟨rfl, step_below T.2.2 b3⟩
end Go.Proofs.Ytdnkijljpmcejaa
