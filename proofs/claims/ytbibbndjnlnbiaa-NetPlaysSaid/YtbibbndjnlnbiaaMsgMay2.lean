/-
  slices.ContainsFunc over closures that only draw; msg.May.
-/
import Derived.Test.YtbibbndjnlnbiaaMsgMay
namespace Go.Proofs.Ytbibbndjnlnbiaa
open Go.RowKit

/-- An answer that says whether any is true; nothing but draws. -/
def IndexPost (bs : List Bool) (W : World) (e : Ending) (w' : World) : Prop := ∃ r : Int, e = .returned (.int .i64 r) ∧ decide (0 ≤ r) = bs.any id ∧ ∃ k, w' = W.drewN k

theorem drewN_cell {w : World} {p : Addr} {v : Value} (h : w.cell? p = some v) (n : Nat) : (w.drewN n).cell? p = some v := h
theorem any_take (bs : List Bool) (j : Nat) (b : Bool) (h : bs[j]? = some b) (h0 : (bs.take j).any id = false) : (bs.take (j + 1)).any id = b := by
  rw [List.take_add_one, h]
  simp [List.any_append, h0]
theorem any_of {bs : List Bool} {j : Nat} (h : bs[j]? = some true) : bs.any id = true := List.any_eq_true.2 ⟨true, List.mem_of_getElem? h, rfl⟩

set_option maxRecDepth 100000 in
set_option maxHeartbeats 400000 in
theorem index_any (W : World) (S cap : Nat) (vs : List Value) (bs : List Bool) (hl : vs.length = bs.length) (hc : ∀ (i : Nat) (v : Value), vs[i]? = some v → W.cell? ⟨S, i, none⟩ = some v)
    (hk : ∀ (i : Nat) (v : Value) (b : Bool), vs[i]? = some v → bs[i]? = some b → ∀ k, Calls Try.prog 80 #[v] (W.drewN k) (AskPost b (W.drewN k))) (hb : vs.length ≤ 1000) :
    Calls Try.prog 113 #[.slice (some ⟨S, 0, none⟩) vs.length cap, .func (.func 80) #[] #[]] W (IndexPost bs W) := by
  have HL := Lib.hid hl
  have HC := Lib.hid hc
  have HK := Lib.hid hk
  clear hl hc hk
  go_enter Try.func113, Try.ntmps113
  go_wp2_with fail
  go_loopw [8] (fun v wr => ∃ j k : Nat, j ≤ vs.length ∧ v = .int .i64 j ∧ (bs.take j).any id = false ∧ wr = W.drewN k) (fun v _ => vs.length - (intOf v).toNat)
  case atStart => exact ⟨0, 0, Nat.zero_le _, rfl, by simp, rfl⟩
  case round =>
    obtain ⟨j, k, hj, rfl, h0, rfl⟩ := hrel
    have H0 := Lib.hid h0
    clear h0
    by_cases hlt : j < vs.length
    · obtain ⟨v, hv⟩ : ∃ v, vs[j]? = some v := ⟨_, List.getElem?_eq_getElem hlt⟩
      obtain ⟨b, hb2⟩ : ∃ b, bs[j]? = some b := ⟨_, List.getElem?_eq_getElem (by rw [← HL.out]; exact hlt)⟩
      have cv : (W.drewN k).cell? ⟨S, j, none⟩ = some v := drewN_cell (HC.out j v hv) k
      have hcall := Lib.hid (HK.out j v b hv hb2)
      have HB := Lib.hid hb2
      clear hv hb2
      go_wp2_with fail
      refine (Calls.mono (hcall.out _) ?_)
      rintro e w' ⟨rfl, k2, rfl⟩
      cases b with
      | true =>
        go_wp2_with fail
        go_ret
        exact ⟨_, rfl, by rw [any_of HB.out]; simp, k + k2, rfl⟩
      | false =>
        go_wp2_with fail
        go_roundw
        case rel => exact ⟨j + 1, k + k2, by omega, by go_num, any_take bs j false HB.out H0.out, rfl⟩
        case measure => simp [intOf]; omega
    · have hje : j = vs.length := by omega
      subst hje
      go_wp2_with fail
      go_ret
      refine ⟨_, rfl, ?_, k, rfl⟩
      have := H0.out
      rw [HL.out, List.take_length] at this
      rw [this]
      rfl

set_option maxHeartbeats 400000 in
theorem contains_any (W : World) (S cap : Nat) (vs : List Value) (bs : List Bool) (hl : vs.length = bs.length) (hc : ∀ (i : Nat) (v : Value), vs[i]? = some v → W.cell? ⟨S, i, none⟩ = some v)
    (hk : ∀ (i : Nat) (v : Value) (b : Bool), vs[i]? = some v → bs[i]? = some b → ∀ k, Calls Try.prog 80 #[v] (W.drewN k) (AskPost b (W.drewN k))) (hb : vs.length ≤ 1000) :
    Calls Try.prog 79 #[.slice (some ⟨S, 0, none⟩) vs.length cap, .func (.func 80) #[] #[]] W (AskPost (bs.any id) W) := by
  have H := Lib.hid (index_any W S cap vs bs hl hc hk hb)
  clear hl hc hk hb
  go_enter Try.func79, Try.ntmps79
  go_wp2_with fail
  refine (Calls.mono H.out ?_)
  rintro e w' ⟨r, rfl, hr, k, rfl⟩
  have HR := Lib.hid hr
  clear hr
  go_wp2_with fail
  go_ret
  exact ⟨ret_bool HR.out, k, rfl⟩

set_option maxHeartbeats 400000 in
theorem not_ask1 (N : Nat) (b : Bool) (w : World) (h : Calls Try.prog 67 #[.pointer (some ⟨N, 0, none⟩)] w (AskPost b w)) :
    Calls Try.prog 80 #[.func (.func 67) #[] #[.pointer (some ⟨N, 0, none⟩)]] w (AskPost (!b) w) := by
  have HH := Lib.hid h
  clear h
  go_enter Try.func80, Try.ntmps80
  go_wp2_with fail
  refine (Calls.mono HH.out ?_)
  rintro e w' ⟨rfl, k, rfl⟩
  go_wp2_with fail
  go_ret
  exact ⟨rfl, k, rfl⟩
set_option maxHeartbeats 400000 in
theorem not_ask2 (W H M : Nat) (b : Bool) (w : World) (h : Calls Try.prog 68 #[.pointer (some ⟨W, 0, none⟩), .pointer (some ⟨H, 0, none⟩), .pointer (some ⟨M, 0, none⟩)] w (AskPost b w)) :
    Calls Try.prog 80 #[.func (.func 68) #[] #[.pointer (some ⟨W, 0, none⟩), .pointer (some ⟨H, 0, none⟩), .pointer (some ⟨M, 0, none⟩)]] w (AskPost (!b) w) := by
  have HH := Lib.hid h
  clear h
  go_enter Try.func80, Try.ntmps80
  go_wp2_with fail
  refine (Calls.mono HH.out ?_)
  rintro e w' ⟨rfl, k, rfl⟩
  go_wp2_with fail
  go_ret
  exact ⟨rfl, k, rfl⟩
set_option maxHeartbeats 400000 in
theorem not_ask3 (W H M L : Nat) (b : Bool) (w : World) (h : Calls Try.prog 69 #[.pointer (some ⟨W, 0, none⟩), .pointer (some ⟨H, 0, none⟩), .pointer (some ⟨M, 0, none⟩), .pointer (some ⟨L, 0, none⟩)] w (AskPost b w)) :
    Calls Try.prog 80 #[.func (.func 69) #[] #[.pointer (some ⟨W, 0, none⟩), .pointer (some ⟨H, 0, none⟩), .pointer (some ⟨M, 0, none⟩), .pointer (some ⟨L, 0, none⟩)]] w (AskPost (!b) w) := by
  have HH := Lib.hid h
  clear h
  go_enter Try.func80, Try.ntmps80
  go_wp2_with fail
  refine (Calls.mono HH.out ?_)
  rintro e w' ⟨rfl, k, rfl⟩
  go_wp2_with fail
  go_ret
  exact ⟨rfl, k, rfl⟩
set_option maxHeartbeats 400000 in
theorem not_ask4 (W H M : Nat) (b : Bool) (w : World) (h : Calls Try.prog 70 #[.pointer (some ⟨W, 0, none⟩), .pointer (some ⟨H, 0, none⟩), .pointer (some ⟨M, 0, none⟩)] w (AskPost b w)) :
    Calls Try.prog 80 #[.func (.func 70) #[] #[.pointer (some ⟨W, 0, none⟩), .pointer (some ⟨H, 0, none⟩), .pointer (some ⟨M, 0, none⟩)]] w (AskPost (!b) w) := by
  have HH := Lib.hid h
  clear h
  go_enter Try.func80, Try.ntmps80
  go_wp2_with fail
  refine (Calls.mono HH.out ?_)
  rintro e w' ⟨rfl, k, rfl⟩
  go_wp2_with fail
  go_ret
  exact ⟨rfl, k, rfl⟩
set_option maxHeartbeats 400000 in
theorem not_ask5 (W H M : Nat) (b : Bool) (w : World) (h : Calls Try.prog 71 #[.pointer (some ⟨W, 0, none⟩), .pointer (some ⟨H, 0, none⟩), .pointer (some ⟨M, 0, none⟩)] w (AskPost b w)) :
    Calls Try.prog 80 #[.func (.func 71) #[] #[.pointer (some ⟨W, 0, none⟩), .pointer (some ⟨H, 0, none⟩), .pointer (some ⟨M, 0, none⟩)]] w (AskPost (!b) w) := by
  have HH := Lib.hid h
  clear h
  go_enter Try.func80, Try.ntmps80
  go_wp2_with fail
  refine (Calls.mono HH.out ?_)
  rintro e w' ⟨rfl, k, rfl⟩
  go_wp2_with fail
  go_ret
  exact ⟨rfl, k, rfl⟩
set_option maxHeartbeats 400000 in
theorem not_ask6 (W H M : Nat) (b : Bool) (w : World) (h : Calls Try.prog 72 #[.pointer (some ⟨W, 0, none⟩), .pointer (some ⟨H, 0, none⟩), .pointer (some ⟨M, 0, none⟩)] w (AskPost b w)) :
    Calls Try.prog 80 #[.func (.func 72) #[] #[.pointer (some ⟨W, 0, none⟩), .pointer (some ⟨H, 0, none⟩), .pointer (some ⟨M, 0, none⟩)]] w (AskPost (!b) w) := by
  have HH := Lib.hid h
  clear h
  go_enter Try.func80, Try.ntmps80
  go_wp2_with fail
  refine (Calls.mono HH.out ?_)
  rintro e w' ⟨rfl, k, rfl⟩
  go_wp2_with fail
  go_ret
  exact ⟨rfl, k, rfl⟩
set_option maxHeartbeats 400000 in
theorem not_ask7 (W H M : Nat) (b : Bool) (w : World) (h : Calls Try.prog 73 #[.pointer (some ⟨W, 0, none⟩), .pointer (some ⟨H, 0, none⟩), .pointer (some ⟨M, 0, none⟩)] w (AskPost b w)) :
    Calls Try.prog 80 #[.func (.func 73) #[] #[.pointer (some ⟨W, 0, none⟩), .pointer (some ⟨H, 0, none⟩), .pointer (some ⟨M, 0, none⟩)]] w (AskPost (!b) w) := by
  have HH := Lib.hid h
  clear h
  go_enter Try.func80, Try.ntmps80
  go_wp2_with fail
  refine (Calls.mono HH.out ?_)
  rintro e w' ⟨rfl, k, rfl⟩
  go_wp2_with fail
  go_ret
  exact ⟨rfl, k, rfl⟩
set_option maxHeartbeats 400000 in
theorem not_ask8 (W H M : Nat) (b : Bool) (w : World) (h : Calls Try.prog 74 #[.pointer (some ⟨W, 0, none⟩), .pointer (some ⟨H, 0, none⟩), .pointer (some ⟨M, 0, none⟩)] w (AskPost b w)) :
    Calls Try.prog 80 #[.func (.func 74) #[] #[.pointer (some ⟨W, 0, none⟩), .pointer (some ⟨H, 0, none⟩), .pointer (some ⟨M, 0, none⟩)]] w (AskPost (!b) w) := by
  have HH := Lib.hid h
  clear h
  go_enter Try.func80, Try.ntmps80
  go_wp2_with fail
  refine (Calls.mono HH.out ?_)
  rintro e w' ⟨rfl, k, rfl⟩
  go_wp2_with fail
  go_ret
  exact ⟨rfl, k, rfl⟩
set_option maxHeartbeats 400000 in
theorem not_ask9 (W H M : Nat) (b : Bool) (w : World) (h : Calls Try.prog 75 #[.pointer (some ⟨W, 0, none⟩), .pointer (some ⟨H, 0, none⟩), .pointer (some ⟨M, 0, none⟩)] w (AskPost b w)) :
    Calls Try.prog 80 #[.func (.func 75) #[] #[.pointer (some ⟨W, 0, none⟩), .pointer (some ⟨H, 0, none⟩), .pointer (some ⟨M, 0, none⟩)]] w (AskPost (!b) w) := by
  have HH := Lib.hid h
  clear h
  go_enter Try.func80, Try.ntmps80
  go_wp2_with fail
  refine (Calls.mono HH.out ?_)
  rintro e w' ⟨rfl, k, rfl⟩
  go_wp2_with fail
  go_ret
  exact ⟨rfl, k, rfl⟩
set_option maxHeartbeats 400000 in
theorem not_ask10 (H M : Nat) (b : Bool) (w : World) (h : Calls Try.prog 76 #[.pointer (some ⟨H, 0, none⟩), .pointer (some ⟨M, 0, none⟩)] w (AskPost b w)) :
    Calls Try.prog 80 #[.func (.func 76) #[] #[.pointer (some ⟨H, 0, none⟩), .pointer (some ⟨M, 0, none⟩)]] w (AskPost (!b) w) := by
  have HH := Lib.hid h
  clear h
  go_enter Try.func80, Try.ntmps80
  go_wp2_with fail
  refine (Calls.mono HH.out ?_)
  rintro e w' ⟨rfl, k, rfl⟩
  go_wp2_with fail
  go_ret
  exact ⟨rfl, k, rfl⟩
set_option maxHeartbeats 400000 in
theorem not_ask11 (H M : Nat) (b : Bool) (w : World) (h : Calls Try.prog 77 #[.pointer (some ⟨H, 0, none⟩), .pointer (some ⟨M, 0, none⟩)] w (AskPost b w)) :
    Calls Try.prog 80 #[.func (.func 77) #[] #[.pointer (some ⟨H, 0, none⟩), .pointer (some ⟨M, 0, none⟩)]] w (AskPost (!b) w) := by
  have HH := Lib.hid h
  clear h
  go_enter Try.func80, Try.ntmps80
  go_wp2_with fail
  refine (Calls.mono HH.out ?_)
  rintro e w' ⟨rfl, k, rfl⟩
  go_wp2_with fail
  go_ret
  exact ⟨rfl, k, rfl⟩
set_option maxHeartbeats 400000 in
theorem not_ask12 (M : Nat) (b : Bool) (w : World) (h : Calls Try.prog 78 #[.pointer (some ⟨M, 0, none⟩)] w (AskPost b w)) :
    Calls Try.prog 80 #[.func (.func 78) #[] #[.pointer (some ⟨M, 0, none⟩)]] w (AskPost (!b) w) := by
  have HH := Lib.hid h
  clear h
  go_enter Try.func80, Try.ntmps80
  go_wp2_with fail
  refine (Calls.mono HH.out ?_)
  rintro e w' ⟨rfl, k, rfl⟩
  go_wp2_with fail
  go_ret
  exact ⟨rfl, k, rfl⟩

/-- A property of each value and what belongs to it. -/
def Each (P : Value → Bool → Prop) : List Value → List Bool → Prop
  | v :: vs, b :: bs => P v b ∧ Each P vs bs
  | _, _ => True
theorem Each.at_ {P : Value → Bool → Prop} : ∀ {vs : List Value} {bs : List Bool}, Each P vs bs → ∀ {i : Nat} {v : Value} {b : Bool}, vs[i]? = some v → bs[i]? = some b → P v b
  | v :: vs, b :: bs, h, 0, v', b', hv, hb => by
    simp at hv hb
    subst hv hb
    exact h.1
  | v :: vs, b :: bs, h, i + 1, v', b', hv, hb => Each.at_ h.2 (by simpa using hv) (by simpa using hb)
  | [], _, _, _, _, _, hv, _ => by simp at hv
  | _ :: _, [], _, _, _, _, _, hb => by simp at hb
theorem Asks.drewN {w : World} {M N H W L : Nat} {m : Mg} {a : Option Addr} {c : Nat} {n least : Int} (A : Asks w M N H W L m a c n least) (k : Nat) : Asks (w.drewN k) M N H W L m a c n least :=
  ⟨A.pm, A.pn, A.ph, A.pw, A.pl⟩

/-- The closures of May, in their row; what each answers. -/
def askVals (M N H W L : Nat) : List Value :=
  [.func (.func 67) #[] #[.pointer (some ⟨N, 0, none⟩)],
   .func (.func 68) #[] #[.pointer (some ⟨W, 0, none⟩), .pointer (some ⟨H, 0, none⟩), .pointer (some ⟨M, 0, none⟩)],
   .func (.func 69) #[] #[.pointer (some ⟨W, 0, none⟩), .pointer (some ⟨H, 0, none⟩), .pointer (some ⟨M, 0, none⟩), .pointer (some ⟨L, 0, none⟩)],
   .func (.func 70) #[] #[.pointer (some ⟨W, 0, none⟩), .pointer (some ⟨H, 0, none⟩), .pointer (some ⟨M, 0, none⟩)],
   .func (.func 71) #[] #[.pointer (some ⟨W, 0, none⟩), .pointer (some ⟨H, 0, none⟩), .pointer (some ⟨M, 0, none⟩)],
   .func (.func 72) #[] #[.pointer (some ⟨W, 0, none⟩), .pointer (some ⟨H, 0, none⟩), .pointer (some ⟨M, 0, none⟩)],
   .func (.func 73) #[] #[.pointer (some ⟨W, 0, none⟩), .pointer (some ⟨H, 0, none⟩), .pointer (some ⟨M, 0, none⟩)],
   .func (.func 74) #[] #[.pointer (some ⟨W, 0, none⟩), .pointer (some ⟨H, 0, none⟩), .pointer (some ⟨M, 0, none⟩)],
   .func (.func 75) #[] #[.pointer (some ⟨W, 0, none⟩), .pointer (some ⟨H, 0, none⟩), .pointer (some ⟨M, 0, none⟩)],
   .func (.func 76) #[] #[.pointer (some ⟨H, 0, none⟩), .pointer (some ⟨M, 0, none⟩)],
   .func (.func 77) #[] #[.pointer (some ⟨H, 0, none⟩), .pointer (some ⟨M, 0, none⟩)],
   .func (.func 78) #[] #[.pointer (some ⟨M, 0, none⟩)]]
def askBools (m : Mg) (n least : Int) : List Bool :=
  [n != 0, win (!hasB n 1) m.fr 1 8, win (!hasB n 2) m.to least 8, win (hasB n 4) m.ht 1 64, win (hasB n 8) m.rd 0 99, win (hasB n 16) m.vl (-1) (wrap64 (m.rd - 1)), win (hasB n 32) m.ep 1 64, win (hasB n 64) m.dl 1 7,
   win (hasB n 128) m.id 1 1099511627776, (hasB n 512 || m.s.isEmpty) && (!hasB n 256 || !m.s.isEmpty), hasB n 1024 || m.l.isEmpty, decide (m.s.length ≤ 2048) && decide (m.l.length ≤ 1024)]
theorem asks_each {w : World} {M N H W L : Nat} {m : Mg} {a : Option Addr} {c : Nat} {n least : Int} (A : Asks w M N H W L m a c n least) :
    Each (fun v b => ∀ k, Calls Try.prog 80 #[v] (w.drewN k) (AskPost b (w.drewN k))) (askVals M N H W L) ((askBools m n least).map not) :=
  ⟨fun k => not_ask1 _ _ _ (ask1 (A.drewN k)), fun k => not_ask2 _ _ _ _ _ (ask2 (A.drewN k)), fun k => not_ask3 _ _ _ _ _ _ (ask3 (A.drewN k)), fun k => not_ask4 _ _ _ _ _ (ask4 (A.drewN k)), fun k => not_ask5 _ _ _ _ _ (ask5 (A.drewN k)), fun k => not_ask6 _ _ _ _ _ (ask6 (A.drewN k)),
   fun k => not_ask7 _ _ _ _ _ (ask7 (A.drewN k)), fun k => not_ask8 _ _ _ _ _ (ask8 (A.drewN k)), fun k => not_ask9 _ _ _ _ _ (ask9 (A.drewN k)), fun k => not_ask10 _ _ _ _ (ask10 (A.drewN k)), fun k => not_ask11 _ _ _ _ (ask11 (A.drewN k)), fun k => not_ask12 _ _ _ (ask12 (A.drewN k)), trivial⟩

set_option maxRecDepth 100000 in
/-- What the closures answer is whether the message may be. -/
theorem has_names (k : Int) (h : 1 ≤ k ∧ k ≤ 11) : (namesOf k != 0) = true ∧ hasB (namesOf k) 1 = fClient k ∧ hasB (namesOf k) 2 = (k == 11) ∧ hasB (namesOf k) 4 = (fVote k || k == 5) ∧ hasB (namesOf k) 8 = fVote k ∧ hasB (namesOf k) 16 = (k == 2) ∧ hasB (namesOf k) 32 = (fDealt k || k == 11) ∧
    hasB (namesOf k) 64 = fDealt k ∧ hasB (namesOf k) 128 = (k == 11) ∧ hasB (namesOf k) 256 = fSome k ∧ hasB (namesOf k) 512 = fText k ∧ hasB (namesOf k) 1024 = fNums k := by
  have hc : k = 1 ∨ k = 2 ∨ k = 3 ∨ k = 4 ∨ k = 5 ∨ k = 6 ∨ k = 7 ∨ k = 8 ∨ k = 9 ∨ k = 10 ∨ k = 11 := by omega
  rcases hc with rfl | rfl | rfl | rfl | rfl | rfl | rfl | rfl | rfl | rfl | rfl <;> decide +kernel
theorem names_none (k : Int) (h : ¬ (1 ≤ k ∧ k ≤ 11)) : namesOf k = 0 := by
  unfold namesOf
  repeat (rw [if_neg (by omega)])
theorem win_wrap (c d : Bool) (rd vl : Int) (h : d = true → c = true) (x : Bool) : (win c rd 0 99 && (win d vl (-1) (wrap64 (rd - 1)) && x)) = (win c rd 0 99 && (win d vl (-1) (rd - 1) && x)) := by
  cases d with
  | false => simp [win]
  | true =>
    rw [h rfl]
    by_cases h1 : 0 ≤ rd ∧ rd ≤ 99
    · rw [show wrap64 (rd - 1) = rd - 1 from IntWalk.wrap64_in _ (by omega)]
    · have : win true rd 0 99 = false := by
        simp only [win, if_true, Bool.and_eq_false_iff, decide_eq_false_iff_not]
        omega
      rw [this, Bool.false_and, Bool.false_and]
theorem any_not : ∀ bs : List Bool, (!(bs.map not).any id) = bs.all id
  | [] => rfl
  | b :: bs => by
    have := any_not bs
    simp only [List.map_cons, List.any_cons, List.all_cons, Bool.not_or, id] at this ⊢
    rw [this]
    simp
theorem may_asks (m : Mg) : (!((askBools m (namesOf m.k) (if hasB (namesOf m.k) 1 then 1 else 0)).map not).any id) = m.may := by
  rw [any_not]
  by_cases h : 1 ≤ m.k ∧ m.k ≤ 11
  · obtain ⟨e0, e1, e2, e3, e4, e5, e6, e7, e8, e9, e10, e11⟩ := has_names m.k h
    unfold askBools Mg.may
    rw [e0, e1, e2, e3, e4, e5, e6, e7, e8, e9, e10, e11, decide_eq_true h.1, decide_eq_true h.2]
    have hv : (m.k == 2) = true → fVote m.k = true := by
      intro h2
      simp only [beq_iff_eq] at h2
      rw [h2]
      rfl
    simp only [List.all_cons, List.all_nil, id, Bool.true_and, Bool.and_true, Bool.and_assoc]
    rw [win_wrap _ _ _ _ hv]
  · unfold askBools Mg.may
    rw [names_none m.k h]
    have : (decide (1 ≤ m.k) && decide (m.k ≤ 11)) = false := by
      simp only [Bool.and_eq_false_iff, decide_eq_false_iff_not]
      omega
    simp [this]
end Go.Proofs.Ytbibbndjnlnbiaa
