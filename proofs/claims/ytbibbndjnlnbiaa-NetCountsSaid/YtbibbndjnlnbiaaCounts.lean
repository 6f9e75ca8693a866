/-
  consistorylaw28.NetCounts: the walk.
-/
import Derived.Test.YtbibbndjnlnbiaaCounts0
import Derived.Maps.AppendAt
namespace Go.Proofs.Ytbibbndjnlnbiaa
open Go.RowKit Go.Maps

theorem send_out (n : Nt) (m : Mg) : (n.send m).most = n.most ∧ n.out ≤ (n.send m).out ∧ (n.out < (n.send m).out → ¬ (n.l.length : Int) < n.most) := by
  unfold Nt.send
  split
  · split
    · exact ⟨rfl, Int.le_refl _, fun h => by dsimp only at h; omega⟩
    · rename_i h
      exact ⟨rfl, by dsimp only; omega, fun _ => h⟩
  · exact ⟨rfl, Int.le_refl _, fun h => by omega⟩
theorem sent_l {n : Nt} {m : Mg} (h : n.sent m = true) : (n.send m).l = n.l ++ [m] ∧ m.may = true := by
  simp only [Nt.sent, Bool.and_eq_true, decide_eq_true_eq] at h
  simp [Nt.send, h.1, h.2]
theorem unsent_l {n : Nt} {m : Mg} (h : n.sent m = false) : (n.send m).l = n.l := by
  unfold Nt.send
  by_cases h1 : m.may = true
  · have h2 : ¬ (n.l.length : Int) < n.most := by
      intro h2
      simp [Nt.sent, h1, h2] at h
    rw [if_pos h1, if_neg h2]
  · rw [if_neg h1]
/-- What NetCounts keeps: what came and what went, and the net. -/
structure CSt (B : Nat) (w0 : World) (g mb : Nat) (most : Int) (j : Nat) (n : Nt) (came went : List Mg) (vc vw : Value) (w : World) : Prop where
  ok : n.Ok j
  held : Held (fun _ => False) B w0 g mb n w
  most : n.most = most
  rc : MRow B w vc came
  rw : MRow B w vw went
  dj : vc.ownBlock = none ∨ vw.ownBlock = none ∨ vc.ownBlock ≠ vw.ownBlock
  len : came.length = went.length + n.l.length
  cl : came.length ≤ j
  cnt : ∀ m, cnt came m = cnt went m + cnt n.l m
  mc : ∀ m ∈ came, m.l.length ≤ 1024
  mw : ∀ m ∈ went, m.l.length ≤ 1024
/-- Behind what a step does. -/
def CMid (B : Nat) (w0 : World) (g mb : Nat) (most : Int) (j : Nat) (out was : Int) (vc vw : Value) (w : World) : Prop := ∃ n came went, CSt B w0 g mb most (j + 1) n came went vc vw w ∧ out ≤ n.out ∧ (out < n.out → was = most)
section
variable {B g mb j : Nat} {most : Int} {w0 w w1 : World} {n n' : Nt} {came went : List Mg} {vc vw v' : Value}
theorem may_l1024 {m : Mg} (h : m.may = true) : m.l.length ≤ 1024 := (Mg.may_len h).2
/-- Nothing came, nothing went. -/
theorem CSt.same (h : CSt B w0 g mb most j n came went vc vw w) (hh : Held (fun _ => False) B w0 g mb n' w1) (ok : n'.Ok (j + 1)) (hl : n'.l = n.l) (hm : n'.most = n.most) (f : Fr (fun _ => False) B w w1) (ho : n.out ≤ n'.out) (hw : n.out < n'.out → ¬ (n.l.length : Int) < n.most) :
    CMid B w0 g mb most j n.out n.l.length vc vw w1 :=
  ⟨n', came, went, ⟨ok, hh, hm.trans h.most, h.rc.fr f, h.rw.fr f, h.dj, by rw [hl]; exact h.len, by have := h.cl; omega, fun m => by rw [hl]; exact h.cnt m, h.mc, h.mw⟩, ho, fun h1 => by
    have := hw h1
    have := h.ok.len
    have := h.most
    omega⟩
/-- A message came. -/
theorem CSt.comes {m : Mg} {a : Option Addr} {c : Nat} {L : List (Mg × Option Addr × Nat)} (h : CSt B w0 g mb most j n came went vc vw w) (hh : Held (fun _ => False) B w0 g mb n' w1) (f : Fr (fun _ => False) B w w1) (ok : n'.Ok (j + 1)) (hl : n'.l = n.l ++ [m]) (hm : n'.most = n.most) (ho : n.out ≤ n'.out) (hw : n.out < n'.out → ¬ (n.l.length : Int) < n.most) (hmay : m.may = true)
    (hL : L.map (·.1) = came) (hsL : ∀ p ∈ L, Safe B w1 p.2.1 p.1.l) (hs : Safe B w1 a m.l) {w2 : World} (own1 : w2.ownsRow B 32 11 v' (came.length + 1) (mcs L ++ (m.cells a c).toList)) (gr : (boxed w1 m a c).grownBy w2 vc.ownBlock) (hloc : v'.ownBlock = vc.ownBlock ∨ v'.ownBlock = some (boxed w1 m a c).heap.size) :
    CMid B w0 g mb most j n.out n.l.length v' vw w2 := by
  have bx : Below w1.heap.size w1 (boxed w1 m a c) := boxed_below (Below.refl _ w1) (Nat.le_refl _) m a c
  have hB := hh.base
  have hB2 : B ≤ (boxed w1 m a c).heap.size := Nat.le_trans hB bx.size
  have rc := (h.rc.fr f).kept hB bx
  have rw1 := (h.rw.fr f).kept hB bx
  have hh2 := hh.kept bx
  refine ⟨n', came ++ [m], went, ⟨ok, hh2.grown rc gr, hm.trans h.most, rc.push hL (fun p hp => (hsL p hp).kept bx hB) (hs.kept bx hB) gr hB2 own1, rw1.grown rc gr ?_ hB2, ?_, ?_, ?_, fun x => ?_, ?_, h.mw⟩, ho, fun h1 => ?_⟩
  · rcases h.dj with d | d | d
    · by_cases e : vw.ownBlock = none
      · exact .inl e
      · exact .inr (by rw [d]; exact e)
    · exact .inl d
    · exact .inr (Ne.symm d)
  · rcases hloc with e | e
    · rw [e]; exact h.dj
    · by_cases e2 : vw.ownBlock = none
      · exact .inr (.inl e2)
      · refine .inr (.inr fun e3 => ?_)
        have := rw1.lt (e3.symm.trans e)
        omega
  · rw [hl]
    have := h.len
    simp
    omega
  · have := h.cl
    simp
    omega
  · rw [hl, cnt_append, cnt_append, h.cnt x]
    omega
  · intro x hx
    rcases List.mem_append.1 hx with hx | hx
    · exact h.mc x hx
    · have : x = m := by simpa using hx
      subst this
      exact may_l1024 hmay
  · have := hw h1
    have := h.ok.len
    have := h.most
    omega
/-- A message went. -/
theorem CSt.goes {m : Mg} {i : Nat} {a : Option Addr} {c : Nat} {L : List (Mg × Option Addr × Nat)} (h : CSt B w0 g mb most j n came went vc vw w) (hh : Held (fun _ => False) B w0 g mb n' w1) (f : Fr (fun _ => False) B w w1) (ok : n'.Ok (j + 1)) (hi : n.l[i]? = some m) (hl : n'.l = n.l.eraseIdx i) (hm : n'.most = n.most) (ho : n'.out = n.out)
    (hL : L.map (·.1) = went) (hsL : ∀ p ∈ L, Safe B w1 p.2.1 p.1.l) (hs : Safe B w1 a m.l) {w2 : World} (own1 : w2.ownsRow B 32 11 v' (went.length + 1) (mcs L ++ (m.cells a c).toList)) (gr : (boxed w1 m a c).grownBy w2 vw.ownBlock) (hloc : v'.ownBlock = vw.ownBlock ∨ v'.ownBlock = some (boxed w1 m a c).heap.size) :
    CMid B w0 g mb most j n.out n.l.length vc v' w2 := by
  have bx : Below w1.heap.size w1 (boxed w1 m a c) := boxed_below (Below.refl _ w1) (Nat.le_refl _) m a c
  have hB := hh.base
  have hB2 : B ≤ (boxed w1 m a c).heap.size := Nat.le_trans hB bx.size
  have rc := (h.rc.fr f).kept hB bx
  have rw1 := (h.rw.fr f).kept hB bx
  have hh2 := hh.kept bx
  have hil := (List.getElem?_eq_some_iff.1 hi).1
  have hmay := (h.ok.ok m (List.mem_of_getElem? hi)).2
  refine ⟨n', came, went ++ [m], ⟨ok, hh2.grown rw1 gr, hm.trans h.most, rc.grown rw1 gr ?_ hB2, rw1.push hL (fun p hp => (hsL p hp).kept bx hB) (hs.kept bx hB) gr hB2 own1, ?_, ?_, by have := h.cl; omega, fun x => ?_, h.mc, ?_⟩, by omega, fun h1 => by omega⟩
  · rcases h.dj with d | d | d
    · exact .inl d
    · by_cases e : vc.ownBlock = none
      · exact .inl e
      · exact .inr (by rw [d]; exact e)
    · exact .inr d
  · rcases hloc with e | e
    · rw [e]; exact h.dj
    · by_cases e2 : vc.ownBlock = none
      · exact .inl e2
      · refine .inr (.inr fun e3 => ?_)
        have := rc.lt (e3.trans e)
        omega
  · rw [hl, List.length_append, List.length_eraseIdx_of_lt hil]
    have := h.len
    simp
    omega
  · rw [hl, cnt_append, h.cnt x, cnt_erase x hi]
    omega
  · intro x hx
    rcases List.mem_append.1 hx with hx | hx
    · exact h.mw x hx
    · have : x = m := by simpa using hx
      subst this
      exact may_l1024 hmay
end

section
variable {B g mb j : Nat} {most : Int} {w0 w w1 : World} {n n' : Nt} {came went : List Mg} {vc vw v' : Value}
theorem CSt.kept (h : CSt B w0 g mb most j n came went vc vw w) (b : Below w.heap.size w w1) : CSt B w0 g mb most j n came went vc vw w1 :=
  ⟨h.ok, h.held.kept b, h.most, h.rc.kept h.held.base b, h.rw.kept h.held.base b, h.dj, h.len, h.cl, h.cnt, h.mc, h.mw⟩
theorem cells_one (m : Mg) (a : Option Addr) (c : Nat) : ∀ u ∈ (m.cells a c).toList, u.oneCell' = true := by
  have h := mcs_one [(m, a, c)]
  have e : mcs [(m, a, c)] = (m.cells a c).toList := by simp [mcs]
  rw [e] at h
  exact h
theorem twice_out (n : Nt) (k : Int) : (n.twice k).most = n.most ∧ n.out ≤ (n.twice k).out ∧ (n.out < (n.twice k).out → ¬ (n.l.length : Int) < n.most) := by
  unfold Nt.twice
  split
  · exact send_out n _
  · exact ⟨rfl, Int.le_refl _, fun h => by omega⟩
theorem lose_out (n : Nt) (k : Int) : (n.lose k).most = n.most ∧ (n.lose k).out = n.out := by
  unfold Nt.lose
  split <;> exact ⟨rfl, rfl⟩
theorem lose_no_l {n : Nt} {k : Int} (h : n.is k = false) : n.lose k = n ∧ n.lost k = 5 := by simp [Nt.lose, Nt.lost, h]
theorem lose_yes_l {n : Nt} {k : Int} (h : n.is k = true) : (n.lose k).l = n.l.eraseIdx k.toNat ∧ n.lost k = 0 := by simp [Nt.lose, Nt.lost, h]
theorem twice_no {n : Nt} {k : Int} (h : n.is k = false) : n.twice k = n ∧ n.twiced k = 5 := by simp [Nt.twice, Nt.twiced, h]
theorem twice_room {n : Nt} {k : Int} {K : Nat} (ok : n.Ok K) (h : n.is k = true) (hl : (n.l.length : Int) < n.most) : (n.twice k).l = n.l ++ [n.msg k] ∧ n.twiced k = 0 := by
  have hm := (ok.ok _ (Nt.msg_mem h)).2
  have hs : n.sent (n.msg k) = true := by simp [Nt.sent, hm, hl]
  exact ⟨by simp only [Nt.twice, h, if_true]; exact (sent_l hs).1, by simp [Nt.twiced, h, hs]⟩
theorem twice_full {n : Nt} {k : Int} (h : n.is k = true) (hl0 : n.most ≤ (n.l.length : Int)) : (n.twice k).l = n.l ∧ n.twiced k = 41 := by
  have hl : ¬ (n.l.length : Int) < n.most := by omega
  have hs : n.sent (n.msg k) = false := by simp [Nt.sent, hl]
  exact ⟨by simp only [Nt.twice, h, if_true]; exact unsent_l hs, by simp [Nt.twiced, h, hs]⟩
end

/-- Where what is under way is gathered. -/
structure Now (B : Nat) (w0 : World) (g mb : Nat) (n : Nt) (came went : List Mg) (k : Nat) (v vc vw : Value) (w : World) : Prop where
  held : Held (fun _ => False) B w0 g mb n w
  rc : MRow B w vc came
  rw : MRow B w vw went
  rn : MRow B w v (n.l.take k)
  d1 : v.ownBlock = none ∨ vc.ownBlock = none ∨ vc.ownBlock ≠ v.ownBlock
  d2 : v.ownBlock = none ∨ vw.ownBlock = none ∨ vw.ownBlock ≠ v.ownBlock
section
variable {B g mb k : Nat} {w0 w w1 w2 : World} {n : Nt} {came went : List Mg} {v vc vw v' : Value}
theorem Now.kept (h : Now B w0 g mb n came went k v vc vw w) (b : Below w.heap.size w w1) : Now B w0 g mb n came went k v vc vw w1 :=
  ⟨h.held.kept b, h.rc.kept h.held.base b, h.rw.kept h.held.base b, h.rn.kept h.held.base b, h.d1, h.d2⟩
theorem Now.push {m : Mg} {a : Option Addr} {c : Nat} {L : List (Mg × Option Addr × Nat)} (h : Now B w0 g mb n came went k v vc vw w) (hm : n.l[k]? = some m) (hs : Safe B w a m.l) (hL : L.map (·.1) = n.l.take k) (hsL : ∀ p ∈ L, Safe B w p.2.1 p.1.l)
    (own1 : w2.ownsRow B 32 11 v' ((n.l.take k).length + 1) (mcs L ++ (m.cells a c).toList)) (gr : (boxed w m a c).grownBy w2 v.ownBlock) (hloc : v'.ownBlock = v.ownBlock ∨ v'.ownBlock = some (boxed w m a c).heap.size) : Now B w0 g mb n came went (k + 1) v' vc vw w2 := by
  have bx : Below w.heap.size w (boxed w m a c) := boxed_below (Below.refl _ w) (Nat.le_refl _) m a c
  have hB := h.held.base
  have hB2 : B ≤ (boxed w m a c).heap.size := Nat.le_trans hB bx.size
  have h' := h.kept bx
  have ne : ∀ {x : Value} {l : List Mg}, MRow B (boxed w m a c) x l → (v.ownBlock = none ∨ x.ownBlock = none ∨ x.ownBlock ≠ v.ownBlock) → (x.ownBlock = none ∨ x.ownBlock ≠ v.ownBlock) ∧ (v'.ownBlock = none ∨ x.ownBlock = none ∨ x.ownBlock ≠ v'.ownBlock) := by
    intro x l hx hd
    refine ⟨?_, ?_⟩
    · rcases hd with d | d | d
      · by_cases e : x.ownBlock = none
        · exact .inl e
        · exact .inr (by rw [d]; exact e)
      · exact .inl d
      · exact .inr d
    · rcases hloc with e | e
      · rw [e]; exact hd
      · by_cases e2 : x.ownBlock = none
        · exact .inr (.inl e2)
        · refine .inr (.inr fun e3 => ?_)
          have := hx.lt (e3.trans e)
          omega
  have rn := h'.rn.push hL (fun p hp => (hsL p hp).kept bx hB) (hs.kept bx hB) gr hB2 own1
  rw [← take_snoc hm] at rn
  exact ⟨h'.held.grown h'.rn gr, h'.rc.grown h'.rn gr (ne h'.rc h.d1).1 hB2, h'.rw.grown h'.rn gr (ne h'.rw h.d2).1 hB2, rn, (ne h'.rc h.d1).2, (ne h'.rw h.d2).2⟩
theorem count_e (l : List Mg) (m : Mg) (a a' : Option Addr) (c c' : Nat) (w : World) (h : MRow B w (.slice a l.length c) l) (hB : B ≤ w.heap.size) (hm : Nums .u64 w w.heap.size a' m.l) (hl : l.length ≤ 1000000) (hx : ∀ x ∈ l, x.l.length ≤ 1000000) (k : Nat) (hk : cnt l m = k) :
    Calls Try.prog 25 #[.slice a l.length c, .agg #[.int .u8 m.k, .int .i64 m.fr, .int .i64 m.to, .int .i64 m.ht, .int .i64 m.rd, .int .i64 m.vl, .int .i64 m.ep, .int .i64 m.dl, .int .i64 m.id, .string ⟨m.s.toArray⟩, .slice a' m.l.length c']] w fun e w' => e = .returned (.int .i64 k) ∧ Below w.heap.size w w' := by
  subst hk
  exact count_any l m a a' c c' w h hB hm hl hx
end

set_option maxRecDepth 100000 in
set_option maxHeartbeats 16000000 in
theorem counts_any (most : Int) (a : Option Addr) (c : Nat) (l : List Stp) (w : World) (hl9 : l.length ≤ 9223372036854775807) (hf : ∀ s ∈ l, SFit s) (hS : Steps w w.heap.size a l) :
    Calls Try.prog 3 #[.int .i64 most, .slice a l.length c] w (TruePost w) := by
  obtain ⟨iM, mi, mz0, mz1, mz2⟩ := info_parts infoMsg
  go_enter Try.func3, Try.ntmps3
  go_wp2_with fail
  refine (works28_any w).mono ?_
  rintro e w1 ⟨rfl, b1⟩
  have B1 := b1
  clear b1
  go_wp2_with fail
  refine (long28_any a c l w1 (steps_more (hS.kept B1 (Nat.le_refl _)) B1.size) hf hl9).mono ?_
  rintro e w2 ⟨x, rfl, hx, b2⟩
  have B2 := step_below B1 b2
  clear b2 B1
  cases x with
  | true =>
    clear hx
    go_wp2_with fail
    refine (works28_any w2).mono ?_
    rintro e w3 ⟨rfl, b3⟩
    go_wp2_with fail
    go_ret
    exact ⟨rfl, step_below B2 b3⟩
  | false =>
    clear hx
    by_cases hl150 : 150 < l.length
    · have h5 : decide ((150 : Int) < (l.length : Int)) = true := decide_eq_true (by omega)
      go_wp2_with fail
      refine (works28_any w2).mono ?_
      rintro e w3 ⟨rfl, b3⟩
      go_wp2_with fail
      go_ret
      exact ⟨rfl, step_below B2 b3⟩
    · have h5 : decide ((150 : Int) < (l.length : Int)) = false := decide_eq_false (by omega)
      have hl1 : l.length ≤ 150 := by omega
      clear hl150
      go_wp2_with fail
      by_cases hm : 1 ≤ most ∧ most ≤ 4096
      · refine (new_h (w0 := w) hm.1 hm.2 B2).mono ?_
        rintro e w5 ⟨g, mb, rfl, H5, b5⟩
        have hm1 := hm.1
        have hm2 := hm.2
        have HC0 : CSt w.heap.size w g mb most 0 (Nt.new most) [] [] (.slice none 0 0) (.slice none 0 0) w5 := ⟨Nt.new_ok hm.1 hm.2, H5, rfl, MRow.nil _ _, MRow.nil _ _, .inl rfl, rfl, Nat.le_refl _, fun _ => rfl, by simp, by simp⟩
        have HCH := Lib.hid HC0
        clear b5 B2 H5 HC0 h5 hm
        go_wp2_with fail
        go_loopw [7, 8, 9, 10] (fun vc vw cr i wr => ∃ (j : Nat) (n : Nt) (came went : List Mg), j ≤ l.length ∧ i = .int .i64 j ∧ cr = .int .i64 n.out ∧ CSt w.heap.size w g mb most j n came went vc vw wr) (fun _ _ _ i _ => l.length - (intOf i).toNat)
        case atStart => exact ⟨0, Nt.new most, [], [], Nat.zero_le _, rfl, rfl, HCH.out⟩
        case round =>
          obtain ⟨j, n, came, went, hj, rfl, rfl, st⟩ := hrel
          clear HCH
          by_cases hlt : j < l.length
          · obtain ⟨p, hp⟩ : ∃ p, l[j]? = some p := ⟨_, List.getElem?_eq_getElem hlt⟩
            obtain ⟨b, o, rfl, hb, hc⟩ : ∃ b o, a = some ⟨b, o, none⟩ ∧ b < w.heap.size ∧ StAt w w.heap.size b (o + j * 13) p := by
              rcases hS with h0 | ⟨b, o, ha, hb, hc⟩
              · rw [h0] at hlt; simp at hlt
              · exact ⟨b, o, ha, hb, hc j p hp⟩
            have hpf := hf p (List.mem_of_getElem? hp)
            have hpm := hpf.m.ok
            have hjI : (j : Int) < (l.length : Int) := by omega
            have hK : j ≤ 1000000 := by omega
            have HC := Lib.hid (And.intro hb hc)
            obtain ⟨ma, hma⟩ : ∃ ma, n.msg p.pl = ma := ⟨_, rfl⟩
            obtain ⟨ba, hba⟩ : ∃ ba, n.is p.pl = ba := ⟨_, rfl⟩
            have HA := Lib.hid (at_h st.held st.ok hK hma hba)
            have HM := Lib.hid (And.intro hma hba)
            have ST := Lib.hid st
            have ho0 := st.ok.out0
            have ho1 : n.out ≤ 1000000 := by have := st.ok.outK; omega
            have hnl : n.l.length ≤ 4096 := by
              have := st.ok.len
              have := st.ok.most2
              omega
            have hcm : came.length ≤ 150 := by have := st.cl; omega
            have hwm : went.length ≤ 150 := by have := st.len; omega
            obtain ⟨la, lc, hnums, u0, u1, u2, u3, u4, u5, u6, u7, u8, u9, u10, u11, u12⟩ := hc.kept hb st.held.below (Nat.le_refl _)
            clear hp hpf hc hb hma hba st hnums u0 u1 u2 u3 u4 u5 u6 u7 u8 u9 u10 u11
            go_wp2_with fail
            refine (Calls.mono HA.out ?_)
            rintro e v5 ⟨a5, c5, rfl, own5, b5⟩
            have B5 := boxed_below b5 b5.size ma a5 c5
            have st5 := ST.out.kept B5
            have M5 := boxed_blk v5 ma a5 c5
            have S5 : Safe w.heap.size (boxed v5 ma a5 c5) a5 ma.l := (Safe.of_own own5).kept ((Below.refl _ v5).alloc (Nat.le_refl _) _) (Nat.le_trans ST.out.held.base b5.size)
            have L5 := boxed_nums (own_nums own5) ma a5 c5
            obtain ⟨w6, hw6⟩ : ∃ w6, w6 = boxed v5 ma a5 c5 := ⟨_, rfl⟩
            rw [← hw6] at st5 M5 S5 L5
            unfold boxed at hw6
            have HW := Lib.hid hw6
            clear hw6 HA own5 b5 B5 u12
            go_wp2_with fail
            rw [← HW.out]
            clear HW
            generalize v5.heap.size = G5 at *
            refine (len_h st5.held st5.ok).mono ?_
            rintro e w6' ⟨rfl, rfl⟩
            have HH := Lib.hid (And.intro st5 (And.intro M5 (And.intro S5 L5)))
            obtain ⟨la, lc, hnums, u0, u1, u2, u3, u4, u5, u6, u7, u8, u9, u10, u11, u12⟩ := HC.out.2.kept HC.out.1 st5.held.below (Nat.le_refl _)
            have HN := Lib.hid hnums
            clear st5 M5 S5 L5 ST hnums
            go_upto_block 2 with fail
            go_cut [7, 8, 14, 15, 16] from 64 to 150 (fun vc' vw' _ _ _ wx => CMid w.heap.size w g mb most j n.out n.l.length vc' vw' wx)
            case first =>
              by_cases k0 : p.kind = 0
              · have e0 : (p.kind == 0) = true := by simpa using k0
                clear k0
                cases hbs : n.sent p.m with
                | false =>
                  have HBS := Lib.hid hbs
                  clear hbs
                  go_wp2_with fail
                  refine (send_h (m := p.m) (a := la) (c := lc) HH.out.1.held HH.out.1.ok hK hpm (.inr HN.out) HBS.out rfl).mono ?_
                  rintro e w7 ⟨rfl, H7, f7⟩
                  have HE := Lib.hid (And.intro H7 f7)
                  clear H7 f7
                  go_wp2_with fail
                  go_meet
                  exact HH.out.1.same HE.out.1 (Nt.send_ok HH.out.1.ok hpm) (unsent_l HBS.out) (send_out n p.m).1 HE.out.2 (send_out n p.m).2.1 (send_out n p.m).2.2
                | true =>
                  have HBS := Lib.hid hbs
                  clear hbs
                  go_wp2_with fail
                  refine (send_h (m := p.m) (a := la) (c := lc) HH.out.1.held HH.out.1.ok hK hpm (.inr HN.out) HBS.out rfl).mono ?_
                  rintro e w7 ⟨rfl, H7, f7⟩
                  obtain ⟨L, hL, hLo, hsL⟩ := HH.out.1.rc.fr f7
                  clear u0 u1 u2 u3 u4 u5 u6 u7 u8 u9 u10 u11 u12
                  obtain ⟨la2, lc2, hnums2, u0, u1, u2, u3, u4, u5, u6, u7, u8, u9, u10, u11, u12⟩ := HC.out.2.kept HC.out.1 H7.below (Nat.le_refl _)
                  have hBx : w.heap.size ≤ w7.heap.size := H7.base
                  have HE := Lib.hid (And.intro H7 (And.intro f7 (And.intro hL (And.intro hsL (And.intro hnums2 (hLo.alloc (.cells (p.m.cells la2 lc2) 32)))))))
                  have hnw := Lib.hid (msg_news w7 p.m la2 lc2)
                  clear H7 f7 hL hsL hnums2 hLo u0 u12
                  go_wp2_with (at_builtin; refine wpList_append_own_at _ rfl _ _ 29 rfl w.heap.size 32 iM zeroVal 11 112 Try.underlying29 mi mz0 mz1 mz2 rfl (by decide) _ came.length (mcs L) rfl HE.out.2.2.2.2.2 ⟨w7.heap.size, 0, none⟩ 1 1 (p.m.cells la2 lc2).toList rfl rfl hnw.out (cells_one p.m la2 lc2) (by unfold maxLen; omega) (by omega) (by simp; omega) ?_; intro v8 w8 own8 gr8 _ hloc8)
                  have H8 := Lib.hid (And.intro own8 (And.intro gr8 hloc8))
                  clear own8 gr8 hloc8
                  go_wp2_with fail
                  go_meet
                  exact HH.out.1.comes HE.out.1 HE.out.2.1 (Nt.send_ok HH.out.1.ok hpm) (sent_l HBS.out).1 (send_out n p.m).1 (send_out n p.m).2.1 (send_out n p.m).2.2 (sent_l HBS.out).2 HE.out.2.2.1 HE.out.2.2.2.1 (.inr HE.out.2.2.2.2.1) H8.out.1 H8.out.2.1 H8.out.2.2
              · have e0 : (p.kind == 0) = false := by simpa using k0
                clear u1 u2 u3 u4 u5 u6 u7 u8 u9 u10 u11
                by_cases k1 : p.kind = 1
                · have e1 : (p.kind == 1) = true := by simpa using k1
                  clear k0 k1
                  cases ba with
                  | false =>
                    go_wp2_with fail
                    refine (give_h (k := p.pl) HH.out.1.held HH.out.1.ok hK HM.out.1 (lose_no_l HM.out.2).2 rfl).mono ?_
                    rintro e w7 ⟨a6, c6, rfl, S6, H7, f7⟩
                    have B7 : Below w7.heap.size w7 (boxed w7 ma a6 c6) := boxed_below (Below.refl _ w7) (Nat.le_refl _) ma a6 c6
                    have HE := Lib.hid (And.intro (H7.kept B7) (f7.trans (H7.fr B7)))
                    unfold boxed at HE
                    clear H7 f7 S6 B7
                    go_wp2_with fail
                    go_meet
                    exact HH.out.1.same HE.out.1 ((Nt.lose_ok HH.out.1.ok).more (by omega)) (by rw [(lose_no_l HM.out.2).1]) (lose_out n p.pl).1 HE.out.2 (by rw [(lose_out n p.pl).2]; exact Int.le_refl _) (fun h => by rw [(lose_out n p.pl).2] at h; omega)
                  | true =>
                    go_wp2_with fail
                    refine (give_h (k := p.pl) HH.out.1.held HH.out.1.ok hK HM.out.1 (lose_yes_l HM.out.2).2 rfl).mono ?_
                    rintro e w7 ⟨a6, c6, rfl, S6, H7, f7⟩
                    have hBw7 := H7.base
                    have b7 : Below w7.heap.size w7 (boxed w7 ma a6 c6) := boxed_below (Below.refl _ w7) (Nat.le_refl _) ma a6 c6
                    have K7 := boxed_kept (f7.blk HH.out.2.1 (by decide) (by decide)) ma a6 c6
                    have M7 := boxed_blk w7 ma a6 c6
                    have H8 := H7.kept b7
                    have f8 := f7.trans (H7.fr b7)
                    have S8 := S6.kept b7 hBw7
                    have S5 := (HH.out.2.2.1.fr f7).kept b7 hBw7
                    obtain ⟨w8', hw8⟩ : ∃ w8', w8' = boxed w7 ma a6 c6 := ⟨_, rfl⟩
                    rw [← hw8] at K7 M7 H8 f8 S8 S5
                    unfold boxed at hw8
                    have HW := Lib.hid hw8
                    clear hw8 b7 H7 f7 S6 u0 u12
                    go_upto_region 24 with fail
                    rw [← HW.out]
                    clear HW
                    generalize w7.heap.size = G7 at *
                    obtain ⟨f0, f1, f2, f3, f4, f5, f6, f7, f8', f9, f10⟩ := M7.msg
                    obtain ⟨g0, g1, g2, g3, g4, g5, g6, g7, g8, g9, g10⟩ := K7.msg
                    have hml : ma.l.length ≤ 9223372036854775807 := by
                      have hm := HM.out.1
                      have := may_l1024 (HH.out.1.ok.ok _ (Nt.msg_mem HM.out.2)).2
                      rw [hm] at this
                      omega
                    have HQ := Lib.hid (And.intro H8 (And.intro f8 (And.intro S8 (And.intro S5 M7))))
                    clear H8 f8 S8 S5 M7 K7
                    go_wp2_with fail
                    refine (rsame_agg ma ma a6 a5 c6 c5 w8' (HQ.out.2.2.1.nums HQ.out.1.base) (HQ.out.2.2.2.1.nums HQ.out.1.base) hml true (same_refl _)).mono ?_
                    rintro e w9 ⟨rfl, b9⟩
                    have H9 := HQ.out.1.kept b9
                    have F9 := HQ.out.2.1.trans (HQ.out.1.fr b9)
                    have S9 := HQ.out.2.2.1.kept b9 HQ.out.1.base
                    have M9 := HQ.out.2.2.2.2.kept b9
                    clear f0 f1 f2 f3 f4 f5 f6 f7 f8' f9 f10 g0 g1 g2 g3 g4 g5 g6 g7 g8 g9 g10 b9 HQ
                    obtain ⟨f0, f1, f2, f3, f4, f5, f6, f7, f8, f9, f10⟩ := M9.msg
                    obtain ⟨L, hL, hLo, hsL⟩ := HH.out.1.rw.fr F9
                    have hBx : w.heap.size ≤ w9.heap.size := H9.base
                    have HE := Lib.hid (And.intro H9 (And.intro F9 (And.intro hL (And.intro hsL (And.intro S9 (hLo.alloc (.cells (ma.cells a6 c6) 32)))))))
                    have hnw := Lib.hid (msg_news w9 ma a6 c6)
                    clear H9 F9 hL hsL S9 hLo M9
                    go_wp2_with (at_builtin; refine wpList_append_own_at _ rfl _ _ 29 rfl w.heap.size 32 iM zeroVal 11 112 Try.underlying29 mi mz0 mz1 mz2 rfl (by decide) _ went.length (mcs L) rfl HE.out.2.2.2.2.2 ⟨w9.heap.size, 0, none⟩ 1 1 (ma.cells a6 c6).toList rfl rfl hnw.out (cells_one ma a6 c6) (by unfold maxLen; omega) (by omega) (by simp; omega) ?_; intro v8 w8 own8 gr8 _ hloc8)
                    have H8 := Lib.hid (And.intro own8 (And.intro gr8 hloc8))
                    clear own8 gr8 hloc8
                    go_wp2_with fail
                    go_meet
                    have hma := HM.out.1
                    exact HH.out.1.goes HE.out.1 HE.out.2.1 ((Nt.lose_ok HH.out.1.ok).more (by omega)) (by rw [← hma]; exact Nt.msg_at HM.out.2) (lose_yes_l HM.out.2).1 (lose_out n p.pl).1 (lose_out n p.pl).2 HE.out.2.2.1 HE.out.2.2.2.1 HE.out.2.2.2.2.1 H8.out.1 H8.out.2.1 H8.out.2.2
                · have e1 : (p.kind == 1) = false := by simpa using k1
                  by_cases k2 : p.kind = 2
                  · have e2 : (p.kind == 2) = true := by simpa using k2
                    clear k0 k1 k2
                    cases ba with
                    | false =>
                      go_wp2_with fail
                      refine (lose_h (k := p.pl) HH.out.1.held HH.out.1.ok hK (lose_no_l HM.out.2).2 rfl).mono ?_
                      rintro e w7 ⟨rfl, H7, f7⟩
                      have HE := Lib.hid (And.intro H7 f7)
                      clear H7 f7
                      go_wp2_with fail
                      go_meet
                      exact HH.out.1.same HE.out.1 ((Nt.lose_ok HH.out.1.ok).more (by omega)) (by rw [(lose_no_l HM.out.2).1]) (lose_out n p.pl).1 HE.out.2 (by rw [(lose_out n p.pl).2]; exact Int.le_refl _) (fun h => by rw [(lose_out n p.pl).2] at h; omega)
                    | true =>
                      go_wp2_with fail
                      refine (lose_h (k := p.pl) HH.out.1.held HH.out.1.ok hK (lose_yes_l HM.out.2).2 rfl).mono ?_
                      rintro e w9 ⟨rfl, H9, F9⟩
                      have S9 := HH.out.2.2.1.fr F9
                      have M9 := F9.blk HH.out.2.1 (by decide) (by decide)
                      obtain ⟨f0, f1, f2, f3, f4, f5, f6, f7, f8, f9, f10⟩ := M9.msg
                      obtain ⟨L, hL, hLo, hsL⟩ := HH.out.1.rw.fr F9
                      have hBx : w.heap.size ≤ w9.heap.size := H9.base
                      have HE := Lib.hid (And.intro H9 (And.intro F9 (And.intro hL (And.intro hsL (And.intro S9 (hLo.alloc (.cells (ma.cells a5 c5) 32)))))))
                      have hnw := Lib.hid (msg_news w9 ma a5 c5)
                      clear H9 F9 hL hsL S9 hLo M9 u0 u12
                      go_wp2_with (at_builtin; refine wpList_append_own_at _ rfl _ _ 29 rfl w.heap.size 32 iM zeroVal 11 112 Try.underlying29 mi mz0 mz1 mz2 rfl (by decide) _ went.length (mcs L) rfl HE.out.2.2.2.2.2 ⟨w9.heap.size, 0, none⟩ 1 1 (ma.cells a5 c5).toList rfl rfl hnw.out (cells_one ma a5 c5) (by unfold maxLen; omega) (by omega) (by simp; omega) ?_; intro v8 w8 own8 gr8 _ hloc8)
                      have H8 := Lib.hid (And.intro own8 (And.intro gr8 hloc8))
                      clear own8 gr8 hloc8
                      go_wp2_with fail
                      go_meet
                      have hma := HM.out.1
                      exact HH.out.1.goes HE.out.1 HE.out.2.1 ((Nt.lose_ok HH.out.1.ok).more (by omega)) (by rw [← hma]; exact Nt.msg_at HM.out.2) (lose_yes_l HM.out.2).1 (lose_out n p.pl).1 (lose_out n p.pl).2 HE.out.2.2.1 HE.out.2.2.2.1 HE.out.2.2.2.2.1 H8.out.1 H8.out.2.1 H8.out.2.2
                  · have e2 : (p.kind == 2) = false := by simpa using k2
                    clear k0 k1 k2
                    cases ba with
                    | false =>
                      go_wp2_with fail
                      refine (twice_h (k := p.pl) HH.out.1.held HH.out.1.ok hK (twice_no HM.out.2).2 rfl).mono ?_
                      rintro e w7 ⟨rfl, H7, f7⟩
                      have HE := Lib.hid (And.intro H7 f7)
                      clear H7 f7
                      go_wp2_with fail
                      go_meet
                      exact HH.out.1.same HE.out.1 (Nt.twice_ok HH.out.1.ok) (by rw [(twice_no HM.out.2).1]) (twice_out n p.pl).1 HE.out.2 (twice_out n p.pl).2.1 (twice_out n p.pl).2.2
                    | true =>
                      have hmost := HH.out.1.most
                      by_cases hroom : (n.l.length : Int) < most
                      · have hd : decide ((n.l.length : Int) < most) = true := decide_eq_true hroom
                        have HRM := Lib.hid (show (n.l.length : Int) < n.most by rw [hmost]; exact hroom)
                        clear hroom hmost
                        go_wp2_with fail
                        refine (twice_h (k := p.pl) HH.out.1.held HH.out.1.ok hK (twice_room HH.out.1.ok HM.out.2 HRM.out).2 rfl).mono ?_
                        rintro e w9 ⟨rfl, H9, F9⟩
                        have S9 := HH.out.2.2.1.fr F9
                        have M9 := F9.blk HH.out.2.1 (by decide) (by decide)
                        obtain ⟨f0, f1, f2, f3, f4, f5, f6, f7, f8, f9, f10⟩ := M9.msg
                        obtain ⟨L, hL, hLo, hsL⟩ := HH.out.1.rc.fr F9
                        have hBx : w.heap.size ≤ w9.heap.size := H9.base
                        have HE := Lib.hid (And.intro H9 (And.intro F9 (And.intro hL (And.intro hsL (And.intro S9 (hLo.alloc (.cells (ma.cells a5 c5) 32)))))))
                        have hnw := Lib.hid (msg_news w9 ma a5 c5)
                        clear H9 F9 hL hsL S9 hLo M9 u0 u12
                        go_wp2_with (at_builtin; refine wpList_append_own_at _ rfl _ _ 29 rfl w.heap.size 32 iM zeroVal 11 112 Try.underlying29 mi mz0 mz1 mz2 rfl (by decide) _ came.length (mcs L) rfl HE.out.2.2.2.2.2 ⟨w9.heap.size, 0, none⟩ 1 1 (ma.cells a5 c5).toList rfl rfl hnw.out (cells_one ma a5 c5) (by unfold maxLen; omega) (by omega) (by simp; omega) ?_; intro v8 w8 own8 gr8 _ hloc8)
                        have H8 := Lib.hid (And.intro own8 (And.intro gr8 hloc8))
                        clear own8 gr8 hloc8
                        go_wp2_with fail
                        go_meet
                        have hma := HM.out.1
                        have hmy := (HH.out.1.ok.ok _ (Nt.msg_mem HM.out.2)).2
                        rw [hma] at hmy
                        exact HH.out.1.comes HE.out.1 HE.out.2.1 (Nt.twice_ok HH.out.1.ok) (by rw [(twice_room HH.out.1.ok HM.out.2 HRM.out).1, hma]) (twice_out n p.pl).1 (twice_out n p.pl).2.1 (twice_out n p.pl).2.2 hmy HE.out.2.2.1 HE.out.2.2.2.1 HE.out.2.2.2.2.1 H8.out.1 H8.out.2.1 H8.out.2.2
                      · have hd : decide ((n.l.length : Int) < most) = false := decide_eq_false hroom
                        have HRM := Lib.hid (show n.most ≤ (n.l.length : Int) by omega)
                        clear hroom hmost
                        go_wp2_with fail
                        refine (twice_h (k := p.pl) HH.out.1.held HH.out.1.ok hK (twice_full HM.out.2 HRM.out).2 rfl).mono ?_
                        rintro e w7 ⟨rfl, H7, f7⟩
                        have HE := Lib.hid (And.intro H7 f7)
                        clear H7 f7
                        go_wp2_with fail
                        go_meet
                        exact HH.out.1.same HE.out.1 (Nt.twice_ok HH.out.1.ok) (twice_full HM.out.2 HRM.out).1 (twice_out n p.pl).1 HE.out.2 (twice_out n p.pl).2.1 (twice_out n p.pl).2.2
            case rest =>
              obtain ⟨n', came', went', st, ho, hwm'⟩ := hcut
              obtain ⟨va, vb, rfl⟩ := st.rc.form
              obtain ⟨vd, ve, rfl⟩ := st.rw.form
              have hmx := st.ok.len
              have hmo := st.most
              have hmx2 := st.ok.most2
              have hle := st.len
              have hcl := st.cl
              have d1 : decide (most < (n'.l.length : Int)) = false := decide_eq_false (by omega)
              have d2 : ((n'.l.length : Int) != (came'.length : Int) - (went'.length : Int)) = false := by simp; omega
              have d3 : decide (n'.out < n.out) = false := decide_eq_false (by omega)
              have d4 : (went'.length : Int) ≤ (came'.length : Int) := by omega
              have d5 : (came'.length : Int) ≤ 200 := by omega
              have ST := Lib.hid st
              have HWM := Lib.hid hwm'
              clear st hwm' hmx hmo hmx2 hle hcl
              go_wp2_with fail
              refine (len_h ST.out.held ST.out.ok).mono ?_
              rintro e w7 ⟨rfl, rfl⟩
              go_wp2_with fail
              refine (len_h ST.out.held ST.out.ok).mono ?_
              rintro e w7 ⟨rfl, rfl⟩
              go_wp2_with fail
              refine (crowded_h ST.out.held).mono ?_
              rintro e w7 ⟨rfl, rfl⟩
              go_wp2_with fail
              refine (crowded_h ST.out.held).mono ?_
              rintro e w7 ⟨rfl, rfl⟩
              by_cases hgt : n.out < n'.out
              · have d6 : decide (n.out < n'.out) = true := decide_eq_true hgt
                have d7 : ((n.l.length : Int) != most) = false := by
                  have := HWM.out hgt
                  simpa using this
                clear hgt
                go_wp2_with fail
                refine (crowded_h ST.out.held).mono ?_
                rintro e w7 ⟨rfl, rfl⟩
                go_wp2_with fail
                go_roundw
                case rel => exact ⟨j + 1, n', came', went', by omega, by go_num, rfl, ST.out⟩
                case measure => simp [intOf]; omega
              · have d6 : decide (n.out < n'.out) = false := decide_eq_false hgt
                clear hgt
                go_wp2_with fail
                refine (crowded_h ST.out.held).mono ?_
                rintro e w7 ⟨rfl, rfl⟩
                go_wp2_with fail
                go_roundw
                case rel => exact ⟨j + 1, n', came', went', by omega, by go_num, rfl, ST.out⟩
                case measure => simp [intOf]; omega
          · have hje : j = l.length := by omega
            subst hje
            have hnl : n.l.length ≤ 4096 := by
              have := st.ok.len
              have := st.ok.most2
              omega
            obtain ⟨va, vb, rfl⟩ := st.rc.form
            obtain ⟨vd, ve, rfl⟩ := st.rw.form
            have ST := Lib.hid st
            clear st
            go_wp2_with fail
            go_loopw [17, 18] (fun v i wr2 => ∃ k : Nat, k ≤ n.l.length ∧ i = .int .i64 k ∧ Now w.heap.size w g mb n came went k v (.slice va came.length vb) (.slice vd went.length ve) wr2) (fun _ i _ => n.l.length - (intOf i).toNat)
            case atStart => exact ⟨0, Nat.zero_le _, rfl, ST.out.held, ST.out.rc, ST.out.rw, MRow.nil _ _, .inl rfl, .inl rfl⟩
            case round =>
              obtain ⟨k, hk, rfl, nw⟩ := hrel
              go_wp2_with fail
              refine (len_h nw.held ST.out.ok).mono ?_
              rintro e w7 ⟨rfl, rfl⟩
              have NW := Lib.hid nw
              clear nw
              by_cases hlk : k < n.l.length
              · obtain ⟨m, hm⟩ : ∃ m, n.l[k]? = some m := ⟨_, List.getElem?_eq_getElem hlk⟩
                obtain ⟨q1, q2⟩ := nt_at hm
                have hK : l.length ≤ 1000000 := by omega
                have HA := Lib.hid (at_h NW.out.held ST.out.ok hK q2 q1)
                have HM := Lib.hid hm
                have hkI : (k : Int) < (n.l.length : Int) := by omega
                have htk : (n.l.take k).length = k := by rw [List.length_take]; omega
                clear hm q1 q2
                go_wp2_with fail
                refine (Calls.mono HA.out ?_)
                rintro e v5 ⟨a5, c5, rfl, own5, b5⟩
                have B5 := boxed_below b5 b5.size m a5 c5
                have N5 := NW.out.kept B5
                have M5 := boxed_blk v5 m a5 c5
                have S5 : Safe w.heap.size (boxed v5 m a5 c5) a5 m.l := (Safe.of_own own5).kept ((Below.refl _ v5).alloc (Nat.le_refl _) _) (Nat.le_trans NW.out.held.base b5.size)
                obtain ⟨w9, hw6⟩ : ∃ w9, w9 = boxed v5 m a5 c5 := ⟨_, rfl⟩
                rw [← hw6] at N5 M5 S5
                unfold boxed at hw6
                have HW := Lib.hid hw6
                clear hw6 HA own5 b5 B5
                go_upto_region 41 with fail
                rw [← HW.out]
                clear HW
                generalize v5.heap.size = G5 at *
                obtain ⟨f0, f1, f2, f3, f4, f5, f6, f7, f8, f9, f10⟩ := M5.msg
                obtain ⟨L, hL, hLo, hsL⟩ := N5.rn
                rw [htk] at hLo
                have hBx : w.heap.size ≤ w9.heap.size := N5.held.base
                have HE := Lib.hid (And.intro N5 (And.intro S5 (And.intro hL (And.intro hsL (And.intro S5 (hLo.alloc (.cells (m.cells a5 c5) 32)))))))
                have hnw := Lib.hid (msg_news w9 m a5 c5)
                clear N5 S5 hL hsL hLo M5
                go_wp2_with (at_builtin; refine wpList_append_own_at _ rfl _ _ 29 rfl w.heap.size 32 iM zeroVal 11 112 Try.underlying29 mi mz0 mz1 mz2 rfl (by decide) _ k (mcs L) rfl HE.out.2.2.2.2.2 ⟨w9.heap.size, 0, none⟩ 1 1 (m.cells a5 c5).toList rfl rfl hnw.out (cells_one m a5 c5) (by unfold maxLen; omega) (by omega) (by simp; omega) ?_; intro v8 w8 own8 gr8 _ hloc8)
                have H8 := Lib.hid (And.intro own8 (And.intro gr8 hloc8))
                clear own8 gr8 hloc8
                go_wp2_with fail
                go_roundw
                case rel => exact ⟨k + 1, by omega, by go_num, HE.out.1.push HM.out HE.out.2.1 HE.out.2.2.1 HE.out.2.2.2.1 (by rw [htk]; exact H8.out.1) H8.out.2.1 H8.out.2.2⟩
                case measure => simp [intOf]; omega
              · have hke : k = n.l.length := by omega
                subst hke
                have hrn := NW.out.rn
                rw [List.take_length] at hrn
                obtain ⟨vn, vm, rfl⟩ := hrn.form
                have HR := Lib.hid hrn
                clear hrn
                go_wp2_with fail
                go_loopw [21] (fun v wr3 => ∃ i : Nat, i ≤ came.length ∧ v = .int .i64 i ∧ Below wr.heap.size wr wr3) (fun v _ => came.length - (intOf v).toNat)
                case atStart => exact ⟨0, Nat.zero_le _, rfl, Below.refl _ _⟩
                case round =>
                  obtain ⟨i, hi, rfl, hB⟩ := hrel
                  by_cases hic : i < came.length
                  · obtain ⟨x, hx⟩ : ∃ x, came[i]? = some x := ⟨_, List.getElem?_eq_getElem hic⟩
                    have hB0 := NW.out.held.base
                    have r1 := NW.out.rc.kept hB0 hB
                    have r2 := NW.out.rw.kept hB0 hB
                    have r3 := HR.out.kept hB0 hB
                    have hBr : w.heap.size ≤ wr.heap.size := Nat.le_trans hB0 hB.size
                    obtain ⟨q, cap, xa, xc, hv, hcap, hs, u0, u1, u2, u3, u4, u5, u6, u7, u8, u9, u10⟩ := (r1.kept hBr ((Below.refl _ wr).drew)).at hx
                    injection hv with e1 _ e2
                    subst e1 e2
                    have hiI : (i : Int) < (came.length : Int) := by omega
                    have hN := hs.nums hBr
                    have hcnt := ST.out.cnt x
                    have hcl := ST.out.cl
                    have hle := ST.out.len
                    have c1 := cnt_le came x
                    have c2 := cnt_le went x
                    have c3 := cnt_le n.l x
                    have l1 : came.length ≤ 1000000 := by omega
                    have l2 : went.length ≤ 1000000 := by omega
                    have l3 : n.l.length ≤ 1000000 := by omega
                    have x1 : ∀ y ∈ came, y.l.length ≤ 1000000 := fun y hy => by have := ST.out.mc y hy; omega
                    have x2 : ∀ y ∈ went, y.l.length ≤ 1000000 := fun y hy => by have := ST.out.mw y hy; omega
                    have x3 : ∀ y ∈ n.l, y.l.length ≤ 1000000 := fun y hy => by have := may_l1024 (ST.out.ok.ok y hy).2; omega
                    have HP := Lib.hid (And.intro (r1.kept hBr ((Below.refl _ wr).drew)) (And.intro (r2.kept hBr ((Below.refl _ wr).drew)) (And.intro (r3.kept hBr ((Below.refl _ wr).drew)) (And.intro (show Nums .u64 wr.drew wr.drew.heap.size xa x.l from hN) (And.intro hB (show w.heap.size ≤ wr.drew.heap.size from hBr))))))
                    have HX := Lib.hid (And.intro x1 (And.intro x2 x3))
                    generalize hk1 : cnt came x = k1 at *
                    generalize hk2 : cnt went x = k2 at *
                    generalize hk3 : cnt n.l x = k3 at *
                    have HK := Lib.hid (And.intro hk1 (And.intro hk2 hk3))
                    have hkw : IntKind.i64.wrap ((k2 : Int) + (k3 : Int)) = (k1 : Int) := by rw [IntKind.wrap_i64]; omega
                    have hne : ((k1 : Int) != IntKind.i64.wrap ((k2 : Int) + (k3 : Int))) = false := by rw [hkw]; simp
                    have b1 : (k2 : Int) ≤ 1000000 := by omega
                    have b2 : (k3 : Int) ≤ 1000000 := by omega
                    clear hkw hle hcl hk1 hk2 hk3 x1 x2 x3 hx r1 r2 r3 hs hN hcnt c1 c2 c3 hB
                    go_wp2_with fail
                    go_region_held3 (fun w' => w'.cell? ⟨q, i * 11, none⟩ = some (.int .u8 x.k) ∧ w'.cell? ⟨q, i * 11 + 1, none⟩ = some (.int .i64 x.fr) ∧ w'.cell? ⟨q, i * 11 + 2, none⟩ = some (.int .i64 x.to) ∧ w'.cell? ⟨q, i * 11 + 3, none⟩ = some (.int .i64 x.ht) ∧ w'.cell? ⟨q, i * 11 + 4, none⟩ = some (.int .i64 x.rd) ∧ w'.cell? ⟨q, i * 11 + 5, none⟩ = some (.int .i64 x.vl) ∧ w'.cell? ⟨q, i * 11 + 6, none⟩ = some (.int .i64 x.ep) ∧ w'.cell? ⟨q, i * 11 + 7, none⟩ = some (.int .i64 x.dl) ∧ w'.cell? ⟨q, i * 11 + 8, none⟩ = some (.int .i64 x.id) ∧ w'.cell? ⟨q, i * 11 + 9, none⟩ = some (.string ⟨x.s.toArray⟩) ∧ w'.cell? ⟨q, i * 11 + 10, none⟩ = some (.slice xa x.l.length xc)) (first | (with_reducible exact ⟨u0, u1, u2, u3, u4, u5, u6, u7, u8, u9, u10⟩) | (with_reducible exact ⟨p0, p1, p2, p3, p4, p5, p6, p7, p8, p9, p10⟩) | (with_reducible exact ⟨q0, q1, q2, q3, q4, q5, q6, q7, q8, q9, q10⟩) | (with_reducible exact ⟨r0, r1, r2, r3, r4, r5, r6, r7, r8, r9, r10⟩))
                      (first
                      | (go_at_call 25; (with_reducible refine (count_e came x (some ⟨q, 0, none⟩) xa vb xc _ HP.out.1 HP.out.2.2.2.2.2 HP.out.2.2.2.1 l1 HX.out.1 k1 HK.out.1).mono ?_); rintro e7 w7 ⟨rfl, b7⟩; have p0 := cell_keep u0 b7; have p1 := cell_keep u1 b7; have p2 := cell_keep u2 b7; have p3 := cell_keep u3 b7; have p4 := cell_keep u4 b7; have p5 := cell_keep u5 b7; have p6 := cell_keep u6 b7; have p7 := cell_keep u7 b7; have p8 := cell_keep u8 b7; have p9 := cell_keep u9 b7; have p10 := cell_keep u10 b7; have P1 := Lib.hid (And.intro (HP.out.2.1.kept HP.out.2.2.2.2.2 b7) (And.intro (HP.out.2.2.1.kept HP.out.2.2.2.2.2 b7) (And.intro (nums_step HP.out.2.2.2.1 b7) (Nat.le_trans HP.out.2.2.2.2.2 b7.size)))))
                      | (go_at_call 25; (with_reducible refine (count_e went x vd xa ve xc _ P1.out.1 P1.out.2.2.2 P1.out.2.2.1 l2 HX.out.2.1 k2 HK.out.2.1).mono ?_); rintro e8 w8 ⟨rfl, b8⟩; have q0 := cell_keep p0 b8; have q1 := cell_keep p1 b8; have q2 := cell_keep p2 b8; have q3 := cell_keep p3 b8; have q4 := cell_keep p4 b8; have q5 := cell_keep p5 b8; have q6 := cell_keep p6 b8; have q7 := cell_keep p7 b8; have q8 := cell_keep p8 b8; have q9 := cell_keep p9 b8; have q10 := cell_keep p10 b8; have P2 := Lib.hid (And.intro (P1.out.2.1.kept P1.out.2.2.2 b8) (And.intro (nums_step P1.out.2.2.1 b8) (Nat.le_trans P1.out.2.2.2 b8.size))))
                      | (go_at_call 25; (with_reducible refine (count_e n.l x vn xa vm xc _ P2.out.1 P2.out.2.2 P2.out.2.1 l3 HX.out.2.2 k3 HK.out.2.2).mono ?_); rintro e9 w9 ⟨rfl, b9⟩; have r0 := cell_keep q0 b9; have r1 := cell_keep q1 b9; have r2 := cell_keep q2 b9; have r3 := cell_keep q3 b9; have r4 := cell_keep q4 b9; have r5 := cell_keep q5 b9; have r6 := cell_keep q6 b9; have r7 := cell_keep q7 b9; have r8 := cell_keep q8 b9; have r9 := cell_keep q9 b9; have r10 := cell_keep q10 b9))
                    go_wp2_with fail
                    go_roundw
                    case rel => exact ⟨i + 1, by omega, by go_num, step_below (step_below (step_below HP.out.2.2.2.2.1.drew b7) b8) b9⟩
                    case measure => simp [intOf]; omega
                  · have hie : i = came.length := by omega
                    subst hie
                    go_wp2_with fail
                    go_ret
                    exact ⟨rfl, NW.out.held.below.trans (hB.mono NW.out.held.base)⟩
      · have HM := Lib.hid (show most < 1 ∨ 4096 < most by omega)
        clear hm
        refine (new_no most w2 HM.out).mono ?_
        rintro e w5 ⟨rfl, rfl⟩
        go_wp2_with fail
        go_ret
        exact ⟨rfl, B2⟩
end Go.Proofs.Ytbibbndjnlnbiaa
