/-
  consistoryref13.Decode: what holds while it decodes.
  consistoryref13.Decode: the kinds that have no deals.
  consistoryref13.Decode: the kinds that have one number and a list of numbers.
  consistoryref13.Decode: the kinds that have deals; and all.
-/
import Derived.Test.YtdnkijljpmcejaaGreatEDec
import Derived.Test.YtdnkijljpmcejaaGreatERTold
import Derived.Test.YtdnkijljpmcejaaGreatEREnc
import Derived.Test.YtdnkijljpmcejaaGreatERCopy
namespace Go.Proofs.YtdnkijljpmcejaaGreat
open Go.RowKit

/-- While it decodes: the result's block R, the reader's b, the variable's V. -/
structure DSr (w0 : World) (R b V : Nat) (st : RS) (cs : Array Value) (w : World) : Prop where
  r : Blk w R 27 zero7
  rd : RrAt b st w
  v : Blk w V 27 cs
  bel : Below w0.heap.size w0 w
  hR : w0.heap.size ≤ R
  hb : w0.heap.size ≤ b
  hV : w0.heap.size ≤ V
  ne : R ≠ V
section
variable {w0 w w' : World} {R b V : Nat} {st st' : RS} {cs : Array Value}
theorem DSr.read (h : DSr w0 R b V st cs w) (hr : RrAt b st' w') (o : Only w w' b) : DSr w0 R b V st' cs w' :=
  ⟨h.r.grown o (some_ne (Blk.ne_ h.r h.rd (by decide))), hr, h.v.grown o (some_ne (Blk.ne_ h.v h.rd (by decide))), below_only h.bel o h.hb h.bel.size, h.hR, h.hb, h.hV, h.ne⟩
theorem DSr.set_ (h : DSr w0 R b V st cs w) (i : Nat) (u : Value) : DSr w0 R b V st (cs.setIfInBounds i u) (w.setCell ⟨V, i, none⟩ u) :=
  ⟨h.r.farc h.ne u, h.rd.farc (Ne.symm (Blk.ne_ h.v h.rd (by decide))) u, h.v.set_ i u, h.bel.setCell (p := ⟨V, i, none⟩) h.hV u, h.hR, h.hb, h.hV, h.ne⟩
theorem DSr.kp_read {lo hi : Nat} (h : DSr w0 R b V st cs w) (o : Only w w' b) : Kp lo hi w w' := Kp.of_only o h.rd not_five_rr
theorem DSr.kp_set {lo hi : Nat} (h : DSr w0 R b V st cs w) (i : Nat) (u : Value) : Kp lo hi w (w.setCell ⟨V, i, none⟩ u) := Kp.of_only ((Only.refl w V).setc (.inl rfl) u) h.v not_five_en
theorem DSr.oen_read {lo : Nat} {e : En} {p : Ad} (h : DSr w0 R b V st cs w) (ho : OEn lo w.heap.size w e p) (o : Only w w' b) : OEn lo w'.heap.size w' e p := (ho.kept (h.kp_read o)).more (Nat.le_refl _) o.size
theorem DSr.oen_set {lo : Nat} {e : En} {p : Ad} (h : DSr w0 R b V st cs w) (ho : OEn lo w.heap.size w e p) (i : Nat) (u : Value) : OEn lo (w.setCell ⟨V, i, none⟩ u).heap.size (w.setCell ⟨V, i, none⟩ u) e p := (ho.kept (h.kp_set i u)).more (Nat.le_refl _) (by simp [World.setCell])
theorem DSr.base (h : DSr w0 R b V st cs w) : w0.heap.size ≤ w.heap.size := h.bel.size
end
theorem DSr.make {w w1 : World} {s : List UInt8} (B1 : Below (w.heap.size + 1) (w.alloc (.cells zero7 27)) w1) (hr : RrAt (w.heap.size + 1) ⟨s, 0⟩ w1) : DSr w w.heap.size (w.heap.size + 1) w1.heap.size ⟨s, 0⟩ zero7 (w1.alloc (.cells zero7 27)) := by
  have hlt := hr.lt
  have b0 : Below w.heap.size w (w.alloc (.cells zero7 27)) := (Below.refl _ w).alloc (Nat.le_refl _) _
  refine ⟨((Blk.new w 27 zero7).below B1 (by omega)).alloc _, rr_alloc hr _, Blk.new w1 _ _, ((b0.trans (B1.mono (by omega))).alloc (by omega) _), Nat.le_refl _, by omega, by omega, by omega⟩

theorem list_len (st : RS) : st.list.1.length ≤ 1024 := by
  rw [list_num]
  split
  · simp
  split
  · simp
  split
  · simp
  · have h := num2_le st
    rw [nums_length]
    omega
theorem rep_lists (st : RS) : ∀ l ∈ (repM RS.list st).1, l.length ≤ 5000 := repN_all (P := fun l : List Int => l.length ≤ 5000) (fun st => Nat.le_trans (list_len st) (by decide)) _ _ _ (by simp)
theorem rep_deals (st : RS) : ∀ d ∈ (repM oneDealR st).1, d.2.length ≤ 5000 ∧ ∀ l ∈ d.2, l.length ≤ 5000 := repN_all (P := fun d : Dl => d.2.length ≤ 5000 ∧ ∀ l ∈ d.2, l.length ≤ 5000) (fun st => ⟨Nat.le_trans (repM_len (one := RS.list) (oneNum st).2) (by decide), rep_lists (oneNum st).2⟩) _ _ _ (by simp)
theorem rread_lim (s : List UInt8) : (rread s).1.Lim := by
  obtain ⟨-, h1, h2, h3, h4⟩ := rread_ok s
  have hc : ∀ l ∈ (rread s).1.coms, l.length ≤ 5000 := by
    unfold rread
    dsimp only
    split
    · simp
    split
    · exact rep_lists _
    split
    · simp
    split
    · simp
    split
    · simp
    · simp
  have hd : ∀ d ∈ (rread s).1.deals, d.2.length ≤ 5000 ∧ ∀ l ∈ d.2, l.length ≤ 5000 := by
    unfold rread
    dsimp only
    split
    · simp
    split
    · simp
    split
    · simp
    split
    · simp
    split
    · exact rep_deals _
    · exact rep_deals _
  exact ⟨by omega, by omega, by omega, by omega, hc, fun d h => (hd d h).1, fun d h => (hd d h).2⟩
end Go.Proofs.YtdnkijljpmcejaaGreat
namespace Go.Proofs.YtdnkijljpmcejaaGreat
open Go.RowKit

theorem DSr.alloc {w0 w : World} {R b V : Nat} {st : RS} {cs : Array Value} (h : DSr w0 R b V st cs w) (o : Obj) : DSr w0 R b V st cs (w.alloc o) :=
  ⟨h.r.alloc o, rr_alloc h.rd o, h.v.alloc o, h.bel.alloc h.bel.size o, h.hR, h.hb, h.hV, h.ne⟩
theorem DSr.grow {w0 w w' : World} {R b V base n size : Nat} {st : RS} {cs : Array Value} {t : TypeId} {v : Value} {xs : List Value} (h : DSr w0 R b V st cs w) (ho : w.ownsRow base t size v n xs) (h1 : t ≠ 27) (h2 : t ≠ 78) (hb : w0.heap.size ≤ base) (g : w.grownBy w' v.ownBlock) : DSr w0 R b V st cs w' :=
  ⟨h.r.grown g (own_ne' ho h.r h1), rr_grown h.rd ho h2 g, h.v.grown g (own_ne' ho h.v h1), h.bel.grown g h.bel.size (fun q hq => Nat.le_trans hb (own_lt ho q hq)), h.hR, h.hb, h.hV, h.ne⟩
theorem rdec_long {s : List UInt8} (h : 2048 < s.length) : rdec s = (En.zero, 40) := if_pos h
theorem rdec_bad {s : List UInt8} (h : s.length ≤ 2048) (h2 : (rread s).2.fin.e ≠ 0 ∨ (eenc (rread s).1).2 ≠ 0 ∨ (eenc (rread s).1).1 ≠ s) : rdec s = (En.zero, 4) := by
  unfold rdec
  rw [if_neg (by omega), if_pos h2]
theorem rdec_good {s : List UInt8} (h : s.length ≤ 2048) (h2 : (rread s).2.fin.e = 0) (h3 : (eenc (rread s).1).2 = 0) (h4 : (eenc (rread s).1).1 = s) : rdec s = ((rread s).1, 0) := by
  unfold rdec
  rw [if_neg (by omega), if_neg (by simp [h2, h3, h4])]
set_option maxRecDepth 100000 in
set_option maxHeartbeats 400000 in
theorem rdec_l (s : List UInt8) (w : World) (h : 2048 < s.length) (h9 : s.length ≤ 9223372036854775807) : Calls Tryz.prog 10 #[.string ⟨s.toArray⟩] w (EnPost En.zero 40 w) := by
  have hd : decide ((2048 : Int) < (s.length : Int)) = true := decide_eq_true (by omega)
  go_enter Tryz.func10, Tryz.ntmps10
  go_wp2_with fail
  refine bodyPost_ret (v := .tuple #[.agg #[.int .u8 0, .int .i64 0, .int .i64 0, .slice none 0 0, .slice none 0 0, .slice none 0 0, .slice none 0 0], .int .i64 40]) (by simp [results, Tryz.results10, go_sem]) rfl ?_
  exact ⟨Ad.none, rfl, oen_zero, (Below.refl _ w).alloc (Nat.le_refl _) _⟩

theorem DSr.below {w0 w w' : World} {R b V : Nat} {st : RS} {cs : Array Value} (h : DSr w0 R b V st cs w) (b1 : Below w.heap.size w w') : DSr w0 R b V st cs w' :=
  ⟨h.r.kept b1, Blk.kept h.rd b1, h.v.kept b1, step_below h.bel b1, h.hR, h.hb, h.hV, h.ne⟩
theorem rread_0 {s : List UInt8} (h : (RS.num 1 ⟨s, 0⟩).1 = 0) : rread s = (⟨0, 0, 0, [], [], [], []⟩, (RS.num 1 ⟨s, 0⟩).2) := by
  unfold rread
  dsimp only
  rw [if_pos h]
set_option maxRecDepth 100000 in
set_option maxHeartbeats 4000000 in
theorem rdec_0 (s : List UInt8) (w : World) (h : s.length ≤ 2048) (hk : (RS.num 1 ⟨s, 0⟩).1 = 0) : Calls Tryz.prog 10 #[.string ⟨s.toArray⟩] w (EnPost (rdec s).1 (rdec s).2 w) := by
  have HE := Lib.hid (rread_0 hk)
  have h9 : s.length ≤ 9223372036854775807 := by omega
  have hd : decide ((2048 : Int) < (s.length : Int)) = false := decide_eq_false (by omega)
  have HO := Lib.hid (ropen_any s (w.alloc (.cells #[.int .u8 0, .int .i64 0, .int .i64 0, .slice none 0 0, .slice none 0 0, .slice none 0 0, .slice none 0 0] 27)))
  have HL := Lib.hid h
  have HK := Lib.hid (rread_lim s)
  have HJ := Lib.hid (rread_ok s).1
  clear h
  go_enter Tryz.func10, Tryz.ntmps10
  go_wp2_with fail
  refine (Calls.mono HO.out ?_)
  rintro e w1 ⟨rfl, h1, b1⟩
  simp only [asz] at h1 b1 ⊢
  have HD := Lib.hid (DSr.make b1 h1)
  clear h1 b1 HO hd
  go_upto_region 5 with fail
  obtain ⟨W1, hW1⟩ : ∃ W1, W1 = w1.alloc (.cells #[.int .u8 0, .int .i64 0, .int .i64 0, .slice none 0 0, .slice none 0 0, .slice none 0 0, .slice none 0 0] 27) := ⟨_, rfl⟩
  have HD1 : DSr w w.heap.size (w.heap.size + 1) w1.heap.size ⟨s, 0⟩ zero7 W1 := by rw [hW1]; exact HD.out
  rw [← hW1]
  have HW := Lib.hid hW1
  clear HD hW1 HW
  generalize w1.heap.size = V at *
  generalize hRR : w.heap.size = R at HD1 ⊢
  have HR := Lib.hid hRR
  clear hRR
  have HB := Lib.hid (rByte_any (R + 1) ⟨s, 0⟩ W1 HD1.rd)
  have HD2 := Lib.hid HD1
  clear HD1
  go_wp2_with fail
  refine (Calls.mono HB.out ?_)
  rintro e w2 ⟨rfl, h2, o2⟩
  have D2 := HD2.out.read h2 o2
  have v0 : w2.cell? ⟨V, 0, none⟩ = some (.int .u8 0) := D2.v.cell 0
  have z0 := D2.v.frozen 0
  have HD3 := Lib.hid (D2.set_ 0 (.int .u8 (RS.num 1 ⟨s, 0⟩).1))
  clear HB HD2 h2 o2 D2
  go_upto_region 6 with fail
  clear v0 z0
  generalize (RS.num 1 ⟨s, 0⟩).2 = st at *
  generalize (RS.num 1 ⟨s, 0⟩).1 = kk at *
  subst hk
  generalize (w2.setCell ⟨V, 0, none⟩ (.int .u8 0)) = w3 at *
  have D3 := HD3.out
  have v0 : w3.cell? ⟨V, 0, none⟩ = some (.int .u8 0) := D3.v.cell 0
  have HD7 := Lib.hid (And.intro D3 (show OEn w.heap.size w3.heap.size w3 ⟨0, 0, 0, [], [], [], []⟩ Ad.none from ⟨.inl rfl, .inl rfl, .inl rfl, .inl rfl⟩))
  clear D3 HD3
  go_wp2_with fail
  go_loopw [7] (fun v wr => v = .int .i64 0 ∧ w3 = wr) (fun _ _ => 0)
  case atStart => exact ⟨rfl, rfl⟩
  case round =>
    obtain ⟨rfl, rfl⟩ := hrel
    have u0 : w3.cell? ⟨V, 0, none⟩ = some (.int .u8 0) := HD7.out.1.v.cell 0
    have u1 : w3.cell? ⟨V, 1, none⟩ = some (.int .i64 0) := HD7.out.1.v.cell 1
    have u2 : w3.cell? ⟨V, 2, none⟩ = some (.int .i64 0) := HD7.out.1.v.cell 2
    have u3 : w3.cell? ⟨V, 3, none⟩ = some (.slice none 0 0) := HD7.out.1.v.cell 3
    have u4 : w3.cell? ⟨V, 4, none⟩ = some (.slice none 0 0) := HD7.out.1.v.cell 4
    have u5 : w3.cell? ⟨V, 5, none⟩ = some (.slice none 0 0) := HD7.out.1.v.cell 5
    have u6 : w3.cell? ⟨V, 6, none⟩ = some (.slice none 0 0) := HD7.out.1.v.cell 6
    have hEN : rread s = (⟨0, 0, 0, [], [], [], []⟩, st) := HE.out
    have ok9 := HJ.out
    have li9 := HK.out
    rw [hEN] at ok9 li9
    have HEc := Lib.hid (renc_any ⟨0, 0, 0, [], [], [], []⟩ Ad.none w3 ok9 li9 (OEn.nums HD7.out.2))
    obtain ⟨S, x, hx⟩ : ∃ S x, eenc ⟨0, 0, 0, [], [], [], []⟩ = (S, x) := ⟨_, _, rfl⟩
    have HX := Lib.hid hx
    have HN := Lib.hid hEN
    clear hx hEN ok9 li9
    go_wp2_with fail
    refine (Calls.mono HEc.out ?_)
    rintro e w8 ⟨rfl, b8⟩
    rw [HX.out]
    have D8 := HD7.out.1.below b8
    have u0 : w8.cell? ⟨V, 0, none⟩ = some (.int .u8 0) := D8.v.cell 0
    have u1 : w8.cell? ⟨V, 1, none⟩ = some (.int .i64 0) := D8.v.cell 1
    have u2 : w8.cell? ⟨V, 2, none⟩ = some (.int .i64 0) := D8.v.cell 2
    have u3 : w8.cell? ⟨V, 3, none⟩ = some (.slice none 0 0) := D8.v.cell 3
    have u4 : w8.cell? ⟨V, 4, none⟩ = some (.slice none 0 0) := D8.v.cell 4
    have u5 : w8.cell? ⟨V, 5, none⟩ = some (.slice none 0 0) := D8.v.cell 5
    have u6 : w8.cell? ⟨V, 6, none⟩ = some (.slice none 0 0) := D8.v.cell 6
    have HD8 := Lib.hid (And.intro D8 ((HD7.out.2.kept (Kp.of_below b8 (Nat.le_refl _))).more (Nat.le_refl _) b8.size))
    have HF := Lib.hid (rend_any (R + 1) st w8 D8.rd)
    clear b8 D8 HEc
    go_wp2_with fail
    refine (Calls.mono HF.out ?_)
    rintro e w9 ⟨rfl, h9', o9⟩
    have D9 := HD8.out.1.read h9' o9
    have HD9 := Lib.hid (And.intro D9 (HD8.out.1.oen_read HD8.out.2 o9))
    obtain ⟨r0, r1, r2, r3, r4, r5, r6⟩ := D9.r.seven
    obtain ⟨y0, y1, y2, y3, y4, y5, y6⟩ := D9.r.seven_f
    have u0 : w9.cell? ⟨V, 0, none⟩ = some (.int .u8 0) := D9.v.cell 0
    have u1 : w9.cell? ⟨V, 1, none⟩ = some (.int .i64 0) := D9.v.cell 1
    have u2 : w9.cell? ⟨V, 2, none⟩ = some (.int .i64 0) := D9.v.cell 2
    have u3 : w9.cell? ⟨V, 3, none⟩ = some (.slice none 0 0) := D9.v.cell 3
    have u4 : w9.cell? ⟨V, 4, none⟩ = some (.slice none 0 0) := D9.v.cell 4
    have u5 : w9.cell? ⟨V, 5, none⟩ = some (.slice none 0 0) := D9.v.cell 5
    have u6 : w9.cell? ⟨V, 6, none⟩ = some (.slice none 0 0) := D9.v.cell 6
    clear HF HD8 h9' o9 D9
    by_cases hf : st.fin.e = 0
    · by_cases hq : x = 0
      · by_cases hs : S = s
        · have HQ := Lib.hid (rdec_good HL.out (by rw [HN.out]; exact hf) (by rw [HN.out]; dsimp only; rw [HX.out]; exact hq) (by rw [HN.out]; dsimp only; rw [HX.out]; exact hs))
          have g1 : (st.fin.e != 0) = false := by simpa using hf
          have g2 : (x != 0) = false := by simpa using hq
          have g3 : (S != s) = false := by simpa using hs
          have g4 : (S == s) = true := by simpa using hs
          clear hf hq hs
          go_wp2_with fail
          refine bodyPost_ret (v := .tuple #[.agg #[.int .u8 0, .int .i64 0, .int .i64 0, .slice none 0 0, .slice none 0 0, .slice none 0 0, .slice none 0 0], .int .i64 0]) (by simp [results, Tryz.results10, go_sem, r0, r1, r2, r3, r4, r5, r6]) rfl ?_
          rw [HQ.out, HN.out]
          refine ⟨Ad.none, rfl, set7_oen HD9.out.2 HD9.out.1.r _ _ _ _ _ _ _, set7_below HD9.out.1.bel ?_ _ _ _ _ _ _ _⟩
          rw [HR.out]
          exact Nat.le_refl _
        · have HQ := Lib.hid (rdec_bad HL.out (.inr (.inr (by rw [HN.out]; dsimp only; rw [HX.out]; exact hs))))
          have g1 : (st.fin.e != 0) = false := by simpa using hf
          have g2 : (x != 0) = false := by simpa using hq
          have g3 : (S != s) = true := by simpa using hs
          have g4 : (S == s) = false := by simpa using hs
          clear hf hq hs
          go_wp2_with fail
          refine bodyPost_ret (v := .tuple #[.agg #[.int .u8 0, .int .i64 0, .int .i64 0, .slice none 0 0, .slice none 0 0, .slice none 0 0, .slice none 0 0], .int .i64 4]) (by simp [results, Tryz.results10, go_sem, r0, r1, r2, r3, r4, r5, r6]) rfl ?_
          rw [HQ.out]
          refine ⟨Ad.none, rfl, oen_zero, set7_below HD9.out.1.bel ?_ _ _ _ _ _ _ _⟩
          rw [HR.out]
          exact Nat.le_refl _
      · have HQ := Lib.hid (rdec_bad HL.out (.inr (.inl (by rw [HN.out]; dsimp only; rw [HX.out]; exact hq))))
        have g1 : (st.fin.e != 0) = false := by simpa using hf
        have g2 : (x != 0) = true := by simpa using hq
        clear hf hq
        go_wp2_with fail
        refine bodyPost_ret (v := .tuple #[.agg #[.int .u8 0, .int .i64 0, .int .i64 0, .slice none 0 0, .slice none 0 0, .slice none 0 0, .slice none 0 0], .int .i64 4]) (by simp [results, Tryz.results10, go_sem, r0, r1, r2, r3, r4, r5, r6]) rfl ?_
        rw [HQ.out]
        refine ⟨Ad.none, rfl, oen_zero, set7_below HD9.out.1.bel ?_ _ _ _ _ _ _ _⟩
        rw [HR.out]
        exact Nat.le_refl _
    · have HQ := Lib.hid (rdec_bad HL.out (.inl (by rw [HN.out]; exact hf)))
      have g1 : (st.fin.e != 0) = true := by simpa using hf
      clear hf
      go_wp2_with fail
      refine bodyPost_ret (v := .tuple #[.agg #[.int .u8 0, .int .i64 0, .int .i64 0, .slice none 0 0, .slice none 0 0, .slice none 0 0, .slice none 0 0], .int .i64 4]) (by simp [results, Tryz.results10, go_sem, r0, r1, r2, r3, r4, r5, r6]) rfl ?_
      rw [HQ.out]
      refine ⟨Ad.none, rfl, oen_zero, set7_below HD9.out.1.bel ?_ _ _ _ _ _ _ _⟩
      rw [HR.out]
      exact Nat.le_refl _

theorem rread_1 {s : List UInt8} (h : (RS.num 1 ⟨s, 0⟩).1 = 1) : rread s = (⟨1, 0, 0, [], (repM RS.list (RS.num 1 ⟨s, 0⟩).2).1, [], []⟩, (repM RS.list (RS.num 1 ⟨s, 0⟩).2).2) := by
  unfold rread
  dsimp only
  rw [if_neg (by rw [h]; decide)]; rw [if_pos h]
set_option maxRecDepth 100000 in
set_option maxHeartbeats 4000000 in
theorem rdec_1 (s : List UInt8) (w : World) (h : s.length ≤ 2048) (hk : (RS.num 1 ⟨s, 0⟩).1 = 1) : Calls Tryz.prog 10 #[.string ⟨s.toArray⟩] w (EnPost (rdec s).1 (rdec s).2 w) := by
  have HE := Lib.hid (rread_1 hk)
  have h9 : s.length ≤ 9223372036854775807 := by omega
  have hd : decide ((2048 : Int) < (s.length : Int)) = false := decide_eq_false (by omega)
  have HO := Lib.hid (ropen_any s (w.alloc (.cells #[.int .u8 0, .int .i64 0, .int .i64 0, .slice none 0 0, .slice none 0 0, .slice none 0 0, .slice none 0 0] 27)))
  have HL := Lib.hid h
  have HK := Lib.hid (rread_lim s)
  have HJ := Lib.hid (rread_ok s).1
  clear h
  go_enter Tryz.func10, Tryz.ntmps10
  go_wp2_with fail
  refine (Calls.mono HO.out ?_)
  rintro e w1 ⟨rfl, h1, b1⟩
  simp only [asz] at h1 b1 ⊢
  have HD := Lib.hid (DSr.make b1 h1)
  clear h1 b1 HO hd
  go_upto_region 5 with fail
  obtain ⟨W1, hW1⟩ : ∃ W1, W1 = w1.alloc (.cells #[.int .u8 0, .int .i64 0, .int .i64 0, .slice none 0 0, .slice none 0 0, .slice none 0 0, .slice none 0 0] 27) := ⟨_, rfl⟩
  have HD1 : DSr w w.heap.size (w.heap.size + 1) w1.heap.size ⟨s, 0⟩ zero7 W1 := by rw [hW1]; exact HD.out
  rw [← hW1]
  have HW := Lib.hid hW1
  clear HD hW1 HW
  generalize w1.heap.size = V at *
  generalize hRR : w.heap.size = R at HD1 ⊢
  have HR := Lib.hid hRR
  clear hRR
  have HB := Lib.hid (rByte_any (R + 1) ⟨s, 0⟩ W1 HD1.rd)
  have HD2 := Lib.hid HD1
  clear HD1
  go_wp2_with fail
  refine (Calls.mono HB.out ?_)
  rintro e w2 ⟨rfl, h2, o2⟩
  have D2 := HD2.out.read h2 o2
  have v0 : w2.cell? ⟨V, 0, none⟩ = some (.int .u8 0) := D2.v.cell 0
  have z0 := D2.v.frozen 0
  have HD3 := Lib.hid (D2.set_ 0 (.int .u8 (RS.num 1 ⟨s, 0⟩).1))
  clear HB HD2 h2 o2 D2
  go_upto_region 6 with fail
  clear v0 z0
  generalize (RS.num 1 ⟨s, 0⟩).2 = st at *
  generalize (RS.num 1 ⟨s, 0⟩).1 = kk at *
  subst hk
  generalize (w2.setCell ⟨V, 0, none⟩ (.int .u8 1)) = w3 at *
  have D3 := HD3.out
  have v0 : w3.cell? ⟨V, 0, none⟩ = some (.int .u8 1) := D3.v.cell 0
  have HG := Lib.hid (told_any (R + 1) st w3 D3.rd)
  clear D3
  go_wp2_with fail
  refine (Calls.mono HG.out ?_)
  rintro e w6 ⟨a, c, rfl, l6, h6, o6⟩
  have D6 := HD3.out.read h6 o6
  have x4 : w6.cell? ⟨V, 4, none⟩ = some (.slice none 0 0) := D6.v.cell 4
  have z4 := D6.v.frozen 4
  generalize (repM RS.list st).2 = st7 at *
  generalize (repM RS.list st).1 = ls at *
  have O6 : OEn w.heap.size w6.heap.size w6 ⟨1, 0, 0, [], ls, [], []⟩ ⟨none, 0, a, c, none, 0, none, 0⟩ := ⟨.inl rfl, l6.more HD3.out.base (Nat.le_refl _), .inl rfl, .inl rfl⟩
  have HD7 := Lib.hid (And.intro (D6.set_ 4 (.slice a ls.length c)) (D6.oen_set O6 4 (.slice a ls.length c)))
  clear HG l6 h6 o6 D6 O6 HD3 v0
  go_upto_region 8 with fail
  clear x4 z4
  generalize (w6.setCell ⟨V, 4, none⟩ (.slice a ls.length c)) = w7 at *
  have v0 : w7.cell? ⟨V, 0, none⟩ = some (.int .u8 1) := HD7.out.1.v.cell 0
  go_wp2_with fail
  go_loopw [7] (fun v wr => v = .int .i64 0 ∧ w7 = wr) (fun _ _ => 0)
  case atStart => exact ⟨rfl, rfl⟩
  case round =>
    obtain ⟨rfl, rfl⟩ := hrel
    have u0 : w7.cell? ⟨V, 0, none⟩ = some (.int .u8 1) := HD7.out.1.v.cell 0
    have u1 : w7.cell? ⟨V, 1, none⟩ = some (.int .i64 0) := HD7.out.1.v.cell 1
    have u2 : w7.cell? ⟨V, 2, none⟩ = some (.int .i64 0) := HD7.out.1.v.cell 2
    have u3 : w7.cell? ⟨V, 3, none⟩ = some (.slice none 0 0) := HD7.out.1.v.cell 3
    have u4 : w7.cell? ⟨V, 4, none⟩ = some (.slice a ls.length c) := HD7.out.1.v.cell 4
    have u5 : w7.cell? ⟨V, 5, none⟩ = some (.slice none 0 0) := HD7.out.1.v.cell 5
    have u6 : w7.cell? ⟨V, 6, none⟩ = some (.slice none 0 0) := HD7.out.1.v.cell 6
    have hEN : rread s = (⟨1, 0, 0, [], ls, [], []⟩, st7) := HE.out
    have ok9 := HJ.out
    have li9 := HK.out
    rw [hEN] at ok9 li9
    have HEc := Lib.hid (renc_any ⟨1, 0, 0, [], ls, [], []⟩ ⟨none, 0, a, c, none, 0, none, 0⟩ w7 ok9 li9 (OEn.nums HD7.out.2))
    obtain ⟨S, x, hx⟩ : ∃ S x, eenc ⟨1, 0, 0, [], ls, [], []⟩ = (S, x) := ⟨_, _, rfl⟩
    have HX := Lib.hid hx
    have HN := Lib.hid hEN
    clear hx hEN ok9 li9
    go_wp2_with fail
    refine (Calls.mono HEc.out ?_)
    rintro e w8 ⟨rfl, b8⟩
    rw [HX.out]
    have D8 := HD7.out.1.below b8
    have u0 : w8.cell? ⟨V, 0, none⟩ = some (.int .u8 1) := D8.v.cell 0
    have u1 : w8.cell? ⟨V, 1, none⟩ = some (.int .i64 0) := D8.v.cell 1
    have u2 : w8.cell? ⟨V, 2, none⟩ = some (.int .i64 0) := D8.v.cell 2
    have u3 : w8.cell? ⟨V, 3, none⟩ = some (.slice none 0 0) := D8.v.cell 3
    have u4 : w8.cell? ⟨V, 4, none⟩ = some (.slice a ls.length c) := D8.v.cell 4
    have u5 : w8.cell? ⟨V, 5, none⟩ = some (.slice none 0 0) := D8.v.cell 5
    have u6 : w8.cell? ⟨V, 6, none⟩ = some (.slice none 0 0) := D8.v.cell 6
    have HD8 := Lib.hid (And.intro D8 ((HD7.out.2.kept (Kp.of_below b8 (Nat.le_refl _))).more (Nat.le_refl _) b8.size))
    have HF := Lib.hid (rend_any (R + 1) st7 w8 D8.rd)
    clear b8 D8 HEc
    go_wp2_with fail
    refine (Calls.mono HF.out ?_)
    rintro e w9 ⟨rfl, h9', o9⟩
    have D9 := HD8.out.1.read h9' o9
    have HD9 := Lib.hid (And.intro D9 (HD8.out.1.oen_read HD8.out.2 o9))
    obtain ⟨r0, r1, r2, r3, r4, r5, r6⟩ := D9.r.seven
    obtain ⟨y0, y1, y2, y3, y4, y5, y6⟩ := D9.r.seven_f
    have u0 : w9.cell? ⟨V, 0, none⟩ = some (.int .u8 1) := D9.v.cell 0
    have u1 : w9.cell? ⟨V, 1, none⟩ = some (.int .i64 0) := D9.v.cell 1
    have u2 : w9.cell? ⟨V, 2, none⟩ = some (.int .i64 0) := D9.v.cell 2
    have u3 : w9.cell? ⟨V, 3, none⟩ = some (.slice none 0 0) := D9.v.cell 3
    have u4 : w9.cell? ⟨V, 4, none⟩ = some (.slice a ls.length c) := D9.v.cell 4
    have u5 : w9.cell? ⟨V, 5, none⟩ = some (.slice none 0 0) := D9.v.cell 5
    have u6 : w9.cell? ⟨V, 6, none⟩ = some (.slice none 0 0) := D9.v.cell 6
    clear HF HD8 h9' o9 D9
    by_cases hf : st7.fin.e = 0
    · by_cases hq : x = 0
      · by_cases hs : S = s
        · have HQ := Lib.hid (rdec_good HL.out (by rw [HN.out]; exact hf) (by rw [HN.out]; dsimp only; rw [HX.out]; exact hq) (by rw [HN.out]; dsimp only; rw [HX.out]; exact hs))
          have g1 : (st7.fin.e != 0) = false := by simpa using hf
          have g2 : (x != 0) = false := by simpa using hq
          have g3 : (S != s) = false := by simpa using hs
          have g4 : (S == s) = true := by simpa using hs
          clear hf hq hs
          go_wp2_with fail
          refine bodyPost_ret (v := .tuple #[.agg #[.int .u8 1, .int .i64 0, .int .i64 0, .slice none 0 0, .slice a ls.length c, .slice none 0 0, .slice none 0 0], .int .i64 0]) (by simp [results, Tryz.results10, go_sem, r0, r1, r2, r3, r4, r5, r6]) rfl ?_
          rw [HQ.out, HN.out]
          refine ⟨⟨none, 0, a, c, none, 0, none, 0⟩, rfl, set7_oen HD9.out.2 HD9.out.1.r _ _ _ _ _ _ _, set7_below HD9.out.1.bel ?_ _ _ _ _ _ _ _⟩
          rw [HR.out]
          exact Nat.le_refl _
        · have HQ := Lib.hid (rdec_bad HL.out (.inr (.inr (by rw [HN.out]; dsimp only; rw [HX.out]; exact hs))))
          have g1 : (st7.fin.e != 0) = false := by simpa using hf
          have g2 : (x != 0) = false := by simpa using hq
          have g3 : (S != s) = true := by simpa using hs
          have g4 : (S == s) = false := by simpa using hs
          clear hf hq hs
          go_wp2_with fail
          refine bodyPost_ret (v := .tuple #[.agg #[.int .u8 0, .int .i64 0, .int .i64 0, .slice none 0 0, .slice none 0 0, .slice none 0 0, .slice none 0 0], .int .i64 4]) (by simp [results, Tryz.results10, go_sem, r0, r1, r2, r3, r4, r5, r6]) rfl ?_
          rw [HQ.out]
          refine ⟨Ad.none, rfl, oen_zero, set7_below HD9.out.1.bel ?_ _ _ _ _ _ _ _⟩
          rw [HR.out]
          exact Nat.le_refl _
      · have HQ := Lib.hid (rdec_bad HL.out (.inr (.inl (by rw [HN.out]; dsimp only; rw [HX.out]; exact hq))))
        have g1 : (st7.fin.e != 0) = false := by simpa using hf
        have g2 : (x != 0) = true := by simpa using hq
        clear hf hq
        go_wp2_with fail
        refine bodyPost_ret (v := .tuple #[.agg #[.int .u8 0, .int .i64 0, .int .i64 0, .slice none 0 0, .slice none 0 0, .slice none 0 0, .slice none 0 0], .int .i64 4]) (by simp [results, Tryz.results10, go_sem, r0, r1, r2, r3, r4, r5, r6]) rfl ?_
        rw [HQ.out]
        refine ⟨Ad.none, rfl, oen_zero, set7_below HD9.out.1.bel ?_ _ _ _ _ _ _ _⟩
        rw [HR.out]
        exact Nat.le_refl _
    · have HQ := Lib.hid (rdec_bad HL.out (.inl (by rw [HN.out]; exact hf)))
      have g1 : (st7.fin.e != 0) = true := by simpa using hf
      clear hf
      go_wp2_with fail
      refine bodyPost_ret (v := .tuple #[.agg #[.int .u8 0, .int .i64 0, .int .i64 0, .slice none 0 0, .slice none 0 0, .slice none 0 0, .slice none 0 0], .int .i64 4]) (by simp [results, Tryz.results10, go_sem, r0, r1, r2, r3, r4, r5, r6]) rfl ?_
      rw [HQ.out]
      refine ⟨Ad.none, rfl, oen_zero, set7_below HD9.out.1.bel ?_ _ _ _ _ _ _ _⟩
      rw [HR.out]
      exact Nat.le_refl _

end Go.Proofs.YtdnkijljpmcejaaGreat
namespace Go.Proofs.YtdnkijljpmcejaaGreat
open Go.RowKit

theorem rnumc_any (b : Nat) (st : RS) (w : World) (hb : RrAt b st w) :
    Calls Tryz.prog 50 #[.pointer (some ⟨b, 0, none⟩), .int .i64 1099511627776] w fun e w' => e = .returned (.tuple #[.int .i64 (oneNum st).1, .int .i64 (oneNum st).2.e]) ∧ RrAt b (oneNum st).2 w' ∧ Only w w' b :=
  rCount_any b 1099511627776 st w hb (by unfold I64; omega)
theorem rintc_any (b : Nat) (st : RS) (w : World) (hb : RrAt b st w) :
    Calls Tryz.prog 51 #[.pointer (some ⟨b, 0, none⟩)] w fun e w' => e = .returned (.tuple #[.int .i64 (oneInt st).1, .int .i64 (oneInt st).2.e]) ∧ RrAt b (oneInt st).2 w' ∧ Only w w' b :=
  rInt_any b st w hb
theorem one_int (k : IntKind) (x : Int) : ∀ u ∈ [Value.int k x], u.oneCell' = true := by
  intro u hu
  obtain rfl := List.mem_singleton.1 hu
  rfl
theorem rread_2 {s : List UInt8} (h : (RS.num 1 ⟨s, 0⟩).1 = 2) : rread s = (⟨2, (oneNum (RS.num 1 ⟨s, 0⟩).2).1, 0, (repM oneInt (oneNum (RS.num 1 ⟨s, 0⟩).2).2).1, [], [], []⟩, (repM oneInt (oneNum (RS.num 1 ⟨s, 0⟩).2).2).2) := by
  unfold rread
  dsimp only
  rw [if_neg (by rw [h]; decide)]; rw [if_neg (by rw [h]; decide)]; rw [if_pos h]
set_option maxRecDepth 100000 in
set_option maxHeartbeats 4000000 in
theorem rdec_2 (s : List UInt8) (w : World) (h : s.length ≤ 2048) (hk : (RS.num 1 ⟨s, 0⟩).1 = 2) : Calls Tryz.prog 10 #[.string ⟨s.toArray⟩] w (EnPost (rdec s).1 (rdec s).2 w) := by
  have HE := Lib.hid (rread_2 hk)
  have h9 : s.length ≤ 9223372036854775807 := by omega
  have hd : decide ((2048 : Int) < (s.length : Int)) = false := decide_eq_false (by omega)
  have HO := Lib.hid (ropen_any s (w.alloc (.cells #[.int .u8 0, .int .i64 0, .int .i64 0, .slice none 0 0, .slice none 0 0, .slice none 0 0, .slice none 0 0] 27)))
  have HL := Lib.hid h
  have HK := Lib.hid (rread_lim s)
  have HJ := Lib.hid (rread_ok s).1
  clear h
  go_enter Tryz.func10, Tryz.ntmps10
  go_wp2_with fail
  refine (Calls.mono HO.out ?_)
  rintro e w1 ⟨rfl, h1, b1⟩
  simp only [asz] at h1 b1 ⊢
  have HD := Lib.hid (DSr.make b1 h1)
  clear h1 b1 HO hd
  go_upto_region 5 with fail
  obtain ⟨W1, hW1⟩ : ∃ W1, W1 = w1.alloc (.cells #[.int .u8 0, .int .i64 0, .int .i64 0, .slice none 0 0, .slice none 0 0, .slice none 0 0, .slice none 0 0] 27) := ⟨_, rfl⟩
  have HD1 : DSr w w.heap.size (w.heap.size + 1) w1.heap.size ⟨s, 0⟩ zero7 W1 := by rw [hW1]; exact HD.out
  rw [← hW1]
  have HW := Lib.hid hW1
  clear HD hW1 HW
  generalize w1.heap.size = V at *
  generalize hRR : w.heap.size = R at HD1 ⊢
  have HR := Lib.hid hRR
  clear hRR
  have HB := Lib.hid (rByte_any (R + 1) ⟨s, 0⟩ W1 HD1.rd)
  have HD2 := Lib.hid HD1
  clear HD1
  go_wp2_with fail
  refine (Calls.mono HB.out ?_)
  rintro e w2 ⟨rfl, h2, o2⟩
  have D2 := HD2.out.read h2 o2
  have v0 : w2.cell? ⟨V, 0, none⟩ = some (.int .u8 0) := D2.v.cell 0
  have z0 := D2.v.frozen 0
  have HD3 := Lib.hid (D2.set_ 0 (.int .u8 (RS.num 1 ⟨s, 0⟩).1))
  clear HB HD2 h2 o2 D2
  go_upto_region 6 with fail
  clear v0 z0
  generalize (RS.num 1 ⟨s, 0⟩).2 = st at *
  generalize (RS.num 1 ⟨s, 0⟩).1 = kk at *
  subst hk
  generalize (w2.setCell ⟨V, 0, none⟩ (.int .u8 2)) = w3 at *
  obtain ⟨i0, hi, hz0, hz1, hz2⟩ := info_parts infoI64
  have D3 := HD3.out
  have v0 : w3.cell? ⟨V, 0, none⟩ = some (.int .u8 2) := D3.v.cell 0
  have HG := Lib.hid (rnumc_any (R + 1) st w3 D3.rd)
  clear D3
  go_wp2_with fail
  refine (Calls.mono HG.out ?_)
  rintro e w6 ⟨rfl, h6, o6⟩
  have D6 := HD3.out.read h6 o6
  have x1 : w6.cell? ⟨V, 1, none⟩ = some (.int .i64 0) := D6.v.cell 1
  have z1 := D6.v.frozen 1
  generalize (oneNum st).2 = st1 at *
  generalize (oneNum st).1 = nn at *
  have HD7 := Lib.hid (D6.set_ 1 (.int .i64 nn))
  clear HG h6 o6 D6 HD3 v0
  go_upto_region 10 with fail
  clear x1 z1
  generalize (w6.setCell ⟨V, 1, none⟩ (.int .i64 nn)) = w7 at *
  have v0 : w7.cell? ⟨V, 0, none⟩ = some (.int .u8 2) := HD7.out.v.cell 0
  obtain ⟨n, hn, hn255⟩ := num1_nat st1
  have HM0 := Lib.hid (repM_nat (one := oneInt) hn)
  have HN1 := Lib.hid hn
  have HG := Lib.hid (rByte_any (R + 1) st1 w7 HD7.out.rd)
  clear hn
  go_wp2_with fail
  refine (Calls.mono HG.out ?_)
  rintro e w8 ⟨rfl, h8, o8⟩
  rw [HN1.out]
  have HD8 := Lib.hid (HD7.out.read h8 o8)
  clear HG HD7 h8 o8 v0
  go_wp2_with fail
  go_loopw [7] (fun i wr => ∃ (j : Nat) (acc : List Int) (t : RS) (vx : Value), j ≤ n ∧ i = .int .i64 j ∧ acc.length = j ∧ DSr w R (R + 1) V t #[.int .u8 2, .int .i64 nn, .int .i64 0, vx, .slice none 0 0, .slice none 0 0, .slice none 0 0] wr ∧ wr.ownsRow w.heap.size 2 1 vx acc.length (acc.map (.int .i64)) ∧ repN oneInt (n - j) t acc = repM oneInt st1) (fun i _ => n - (intOf i).toNat)
  case atStart => exact ⟨0, [], _, _, Nat.zero_le _, rfl, rfl, HD8.out, World.ownsRow_nil _ _ _ _, HM0.out.symm⟩
  case round =>
    obtain ⟨j, acc, t, vx, hj, rfl, hacc, hD, hO, hM⟩ := hrel
    clear HD8 HM0
    have f1 : wr.cell? ⟨R + 1, 1, none⟩ = some (.int .i64 t.e) := hD.rd.cell 1
    have v0 : wr.cell? ⟨V, 0, none⟩ = some (.int .u8 2) := hD.v.cell 0
    by_cases hlt : j < n
    · by_cases he : t.e = 0
      · obtain ⟨m, hm⟩ : ∃ m, n - j = m + 1 := ⟨n - j - 1, by omega⟩
        have hm' : n - (j + 1) = m := by omega
        rw [hm] at hM
        have HA := Lib.hid (And.intro hacc (And.intro hD (And.intro hO (And.intro (rep_step hM he) hm'))))
        have HC := Lib.hid (rintc_any (R + 1) t wr hD.rd)
        have hjI : (j : Int) < (n : Int) := by omega
        have heq : (t.e == 0) = true := by rw [he]; rfl
        clear hacc hO hD hM hm hm' he
        go_wp2_with fail
        refine (Calls.mono HC.out ?_)
        rintro e w4 ⟨rfl, h4, o4⟩
        have D4 := HA.out.2.1.read h4 o4
        have x3 : w4.cell? ⟨V, 3, none⟩ = some vx := D4.v.cell 3
        have HQ := Lib.hid (And.intro D4 (own_rr HA.out.2.2.1 HA.out.2.1.rd (by decide) o4))
        have hal := HA.out.1
        have hbs := D4.bel.size
        have HM := Lib.hid HA.out.2.2.2.1
        have hm' := HA.out.2.2.2.2
        clear h4 o4 D4 f1 v0 HC HA
        generalize (oneInt t).1 = x at *
        generalize (oneInt t).2 = t' at *
        go_wp2_with (at_builtin; refine wpList_append_own_at _ rfl _ _ 22 rfl w.heap.size 2 i0 (.int .i64 0) 1 8 Tryz.underlying22 hi hz0 hz1 hz2 rfl (by decide) _ _ _ rfl (HQ.out.2.alloc _) ⟨w4.heap.size, 0, none⟩ 1 1 [.int .i64 x] rfl rfl (cell_one_new _ _ _) (one_int _ x) (by unfold maxLen; omega) (by omega) (by simp; omega) ?_; intro v' w5 hown5 hgrow5 _ _; obtain ⟨a5, c5, rfl⟩ := own_slice hown5; have D5 := (HQ.out.1.alloc (.cells #[.int .i64 x] 2)).grow (HQ.out.2.alloc _) (by decide) (by decide) (Nat.le_refl _) hgrow5; have x3' : w5.cell? ⟨V, 3, none⟩ = some vx := D5.v.cell 3; have z3 := D5.v.frozen 3; have HZ := Lib.hid (And.intro (D5.set_ 3 (.slice a5 (acc.length + 1) c5)) (own_setc hown5 D5.v (by decide) (i := 3) (.slice a5 (acc.length + 1) c5))); rw [hal] at HZ; clear hown5 hgrow5 D5 x3 HQ)
        go_wp2_with fail
        go_roundw
        case rel => exact ⟨j + 1, acc ++ [x], t', _, by omega, by go_num, by simp [hal], HZ.out.1, by simpa [hal] using HZ.out.2, by rw [hm']; exact HM.out⟩
        case measure => simp [intOf]; omega
      · have hd : (t.e == 0) = false := by simpa using he
        have hjI : (j : Int) < (n : Int) := by omega
        have HE2 := Lib.hid (show rread s = (⟨2, nn, 0, acc, [], [], []⟩, t) by rw [HE.out, rep_stop hM he])
        obtain ⟨a, c, rfl⟩ := own_slice hO
        have HD9 := Lib.hid (And.intro hD (show OEn w.heap.size wr.heap.size wr ⟨2, nn, 0, acc, [], [], []⟩ ⟨a, c, none, 0, none, 0, none, 0⟩ from ⟨Row.of_own hO, .inl rfl, .inl rfl, .inl rfl⟩))
        clear he hO hM hD hacc HE f1
        have f1 : wr.cell? ⟨R + 1, 1, none⟩ = some (.int .i64 t.e) := HD9.out.1.rd.cell 1
        have u0 : wr.cell? ⟨V, 0, none⟩ = some (.int .u8 2) := HD9.out.1.v.cell 0
        have u1 : wr.cell? ⟨V, 1, none⟩ = some (.int .i64 nn) := HD9.out.1.v.cell 1
        have u2 : wr.cell? ⟨V, 2, none⟩ = some (.int .i64 0) := HD9.out.1.v.cell 2
        have u3 : wr.cell? ⟨V, 3, none⟩ = some (.slice a acc.length c) := HD9.out.1.v.cell 3
        have u4 : wr.cell? ⟨V, 4, none⟩ = some (.slice none 0 0) := HD9.out.1.v.cell 4
        have u5 : wr.cell? ⟨V, 5, none⟩ = some (.slice none 0 0) := HD9.out.1.v.cell 5
        have u6 : wr.cell? ⟨V, 6, none⟩ = some (.slice none 0 0) := HD9.out.1.v.cell 6
        have hEN : rread s = (⟨2, nn, 0, acc, [], [], []⟩, t) := HE2.out
        have ok9 := HJ.out
        have li9 := HK.out
        rw [hEN] at ok9 li9
        have HEc := Lib.hid (renc_any ⟨2, nn, 0, acc, [], [], []⟩ ⟨a, c, none, 0, none, 0, none, 0⟩ wr ok9 li9 (OEn.nums HD9.out.2))
        obtain ⟨S, x, hx⟩ : ∃ S x, eenc ⟨2, nn, 0, acc, [], [], []⟩ = (S, x) := ⟨_, _, rfl⟩
        have HX := Lib.hid hx
        have HN := Lib.hid hEN
        clear hx hEN ok9 li9
        go_wp2_with fail
        refine (Calls.mono HEc.out ?_)
        rintro e w8 ⟨rfl, b8⟩
        rw [HX.out]
        have D8 := HD9.out.1.below b8
        have u0 : w8.cell? ⟨V, 0, none⟩ = some (.int .u8 2) := D8.v.cell 0
        have u1 : w8.cell? ⟨V, 1, none⟩ = some (.int .i64 nn) := D8.v.cell 1
        have u2 : w8.cell? ⟨V, 2, none⟩ = some (.int .i64 0) := D8.v.cell 2
        have u3 : w8.cell? ⟨V, 3, none⟩ = some (.slice a acc.length c) := D8.v.cell 3
        have u4 : w8.cell? ⟨V, 4, none⟩ = some (.slice none 0 0) := D8.v.cell 4
        have u5 : w8.cell? ⟨V, 5, none⟩ = some (.slice none 0 0) := D8.v.cell 5
        have u6 : w8.cell? ⟨V, 6, none⟩ = some (.slice none 0 0) := D8.v.cell 6
        have HD8 := Lib.hid (And.intro D8 ((HD9.out.2.kept (Kp.of_below b8 (Nat.le_refl _))).more (Nat.le_refl _) b8.size))
        have HF := Lib.hid (rend_any (R + 1) t w8 D8.rd)
        clear b8 D8 HEc
        go_wp2_with fail
        refine (Calls.mono HF.out ?_)
        rintro e w9 ⟨rfl, h9', o9⟩
        have D9 := HD8.out.1.read h9' o9
        have HDz := Lib.hid (And.intro D9 (HD8.out.1.oen_read HD8.out.2 o9))
        obtain ⟨r0, r1, r2, r3, r4, r5, r6⟩ := D9.r.seven
        obtain ⟨y0, y1, y2, y3, y4, y5, y6⟩ := D9.r.seven_f
        have u0 : w9.cell? ⟨V, 0, none⟩ = some (.int .u8 2) := D9.v.cell 0
        have u1 : w9.cell? ⟨V, 1, none⟩ = some (.int .i64 nn) := D9.v.cell 1
        have u2 : w9.cell? ⟨V, 2, none⟩ = some (.int .i64 0) := D9.v.cell 2
        have u3 : w9.cell? ⟨V, 3, none⟩ = some (.slice a acc.length c) := D9.v.cell 3
        have u4 : w9.cell? ⟨V, 4, none⟩ = some (.slice none 0 0) := D9.v.cell 4
        have u5 : w9.cell? ⟨V, 5, none⟩ = some (.slice none 0 0) := D9.v.cell 5
        have u6 : w9.cell? ⟨V, 6, none⟩ = some (.slice none 0 0) := D9.v.cell 6
        clear HF HD8 h9' o9 D9
        by_cases hf : t.fin.e = 0
        · by_cases hq : x = 0
          · by_cases hs : S = s
            · have HQ := Lib.hid (rdec_good HL.out (by rw [HN.out]; exact hf) (by rw [HN.out]; dsimp only; rw [HX.out]; exact hq) (by rw [HN.out]; dsimp only; rw [HX.out]; exact hs))
              have g1 : (t.fin.e != 0) = false := by simpa using hf
              have g2 : (x != 0) = false := by simpa using hq
              have g3 : (S != s) = false := by simpa using hs
              have g4 : (S == s) = true := by simpa using hs
              clear hf hq hs
              go_wp2_with fail
              refine bodyPost_ret (v := .tuple #[.agg #[.int .u8 2, .int .i64 nn, .int .i64 0, .slice a acc.length c, .slice none 0 0, .slice none 0 0, .slice none 0 0], .int .i64 0]) (by simp [results, Tryz.results10, go_sem, r0, r1, r2, r3, r4, r5, r6]) rfl ?_
              rw [HQ.out, HN.out]
              refine ⟨⟨a, c, none, 0, none, 0, none, 0⟩, rfl, set7_oen HDz.out.2 HDz.out.1.r _ _ _ _ _ _ _, set7_below HDz.out.1.bel ?_ _ _ _ _ _ _ _⟩
              rw [HR.out]
              exact Nat.le_refl _
            · have HQ := Lib.hid (rdec_bad HL.out (.inr (.inr (by rw [HN.out]; dsimp only; rw [HX.out]; exact hs))))
              have g1 : (t.fin.e != 0) = false := by simpa using hf
              have g2 : (x != 0) = false := by simpa using hq
              have g3 : (S != s) = true := by simpa using hs
              have g4 : (S == s) = false := by simpa using hs
              clear hf hq hs
              go_wp2_with fail
              refine bodyPost_ret (v := .tuple #[.agg #[.int .u8 0, .int .i64 0, .int .i64 0, .slice none 0 0, .slice none 0 0, .slice none 0 0, .slice none 0 0], .int .i64 4]) (by simp [results, Tryz.results10, go_sem, r0, r1, r2, r3, r4, r5, r6]) rfl ?_
              rw [HQ.out]
              refine ⟨Ad.none, rfl, oen_zero, set7_below HDz.out.1.bel ?_ _ _ _ _ _ _ _⟩
              rw [HR.out]
              exact Nat.le_refl _
          · have HQ := Lib.hid (rdec_bad HL.out (.inr (.inl (by rw [HN.out]; dsimp only; rw [HX.out]; exact hq))))
            have g1 : (t.fin.e != 0) = false := by simpa using hf
            have g2 : (x != 0) = true := by simpa using hq
            clear hf hq
            go_wp2_with fail
            refine bodyPost_ret (v := .tuple #[.agg #[.int .u8 0, .int .i64 0, .int .i64 0, .slice none 0 0, .slice none 0 0, .slice none 0 0, .slice none 0 0], .int .i64 4]) (by simp [results, Tryz.results10, go_sem, r0, r1, r2, r3, r4, r5, r6]) rfl ?_
            rw [HQ.out]
            refine ⟨Ad.none, rfl, oen_zero, set7_below HDz.out.1.bel ?_ _ _ _ _ _ _ _⟩
            rw [HR.out]
            exact Nat.le_refl _
        · have HQ := Lib.hid (rdec_bad HL.out (.inl (by rw [HN.out]; exact hf)))
          have g1 : (t.fin.e != 0) = true := by simpa using hf
          clear hf
          go_wp2_with fail
          refine bodyPost_ret (v := .tuple #[.agg #[.int .u8 0, .int .i64 0, .int .i64 0, .slice none 0 0, .slice none 0 0, .slice none 0 0, .slice none 0 0], .int .i64 4]) (by simp [results, Tryz.results10, go_sem, r0, r1, r2, r3, r4, r5, r6]) rfl ?_
          rw [HQ.out]
          refine ⟨Ad.none, rfl, oen_zero, set7_below HDz.out.1.bel ?_ _ _ _ _ _ _ _⟩
          rw [HR.out]
          exact Nat.le_refl _
    · have hje : j = n := by omega
      have hjI : decide ((j : Int) < (n : Int)) = false := decide_eq_false (by omega)
      subst hje
      rw [Nat.sub_self] at hM
      have hM : (acc, t) = repM oneInt st1 := hM
      have HE2 := Lib.hid (show rread s = (⟨2, nn, 0, acc, [], [], []⟩, t) by rw [HE.out, ← hM])
      obtain ⟨a, c, rfl⟩ := own_slice hO
      have HD9 := Lib.hid (And.intro hD (show OEn w.heap.size wr.heap.size wr ⟨2, nn, 0, acc, [], [], []⟩ ⟨a, c, none, 0, none, 0, none, 0⟩ from ⟨Row.of_own hO, .inl rfl, .inl rfl, .inl rfl⟩))
      clear hO hM hD hacc HE
      have u0 : wr.cell? ⟨V, 0, none⟩ = some (.int .u8 2) := HD9.out.1.v.cell 0
      have u1 : wr.cell? ⟨V, 1, none⟩ = some (.int .i64 nn) := HD9.out.1.v.cell 1
      have u2 : wr.cell? ⟨V, 2, none⟩ = some (.int .i64 0) := HD9.out.1.v.cell 2
      have u3 : wr.cell? ⟨V, 3, none⟩ = some (.slice a acc.length c) := HD9.out.1.v.cell 3
      have u4 : wr.cell? ⟨V, 4, none⟩ = some (.slice none 0 0) := HD9.out.1.v.cell 4
      have u5 : wr.cell? ⟨V, 5, none⟩ = some (.slice none 0 0) := HD9.out.1.v.cell 5
      have u6 : wr.cell? ⟨V, 6, none⟩ = some (.slice none 0 0) := HD9.out.1.v.cell 6
      have hEN : rread s = (⟨2, nn, 0, acc, [], [], []⟩, t) := HE2.out
      have ok9 := HJ.out
      have li9 := HK.out
      rw [hEN] at ok9 li9
      have HEc := Lib.hid (renc_any ⟨2, nn, 0, acc, [], [], []⟩ ⟨a, c, none, 0, none, 0, none, 0⟩ wr ok9 li9 (OEn.nums HD9.out.2))
      obtain ⟨S, x, hx⟩ : ∃ S x, eenc ⟨2, nn, 0, acc, [], [], []⟩ = (S, x) := ⟨_, _, rfl⟩
      have HX := Lib.hid hx
      have HN := Lib.hid hEN
      clear hx hEN ok9 li9
      go_wp2_with fail
      refine (Calls.mono HEc.out ?_)
      rintro e w8 ⟨rfl, b8⟩
      rw [HX.out]
      have D8 := HD9.out.1.below b8
      have u0 : w8.cell? ⟨V, 0, none⟩ = some (.int .u8 2) := D8.v.cell 0
      have u1 : w8.cell? ⟨V, 1, none⟩ = some (.int .i64 nn) := D8.v.cell 1
      have u2 : w8.cell? ⟨V, 2, none⟩ = some (.int .i64 0) := D8.v.cell 2
      have u3 : w8.cell? ⟨V, 3, none⟩ = some (.slice a acc.length c) := D8.v.cell 3
      have u4 : w8.cell? ⟨V, 4, none⟩ = some (.slice none 0 0) := D8.v.cell 4
      have u5 : w8.cell? ⟨V, 5, none⟩ = some (.slice none 0 0) := D8.v.cell 5
      have u6 : w8.cell? ⟨V, 6, none⟩ = some (.slice none 0 0) := D8.v.cell 6
      have HD8 := Lib.hid (And.intro D8 ((HD9.out.2.kept (Kp.of_below b8 (Nat.le_refl _))).more (Nat.le_refl _) b8.size))
      have HF := Lib.hid (rend_any (R + 1) t w8 D8.rd)
      clear b8 D8 HEc
      go_wp2_with fail
      refine (Calls.mono HF.out ?_)
      rintro e w9 ⟨rfl, h9', o9⟩
      have D9 := HD8.out.1.read h9' o9
      have HDz := Lib.hid (And.intro D9 (HD8.out.1.oen_read HD8.out.2 o9))
      obtain ⟨r0, r1, r2, r3, r4, r5, r6⟩ := D9.r.seven
      obtain ⟨y0, y1, y2, y3, y4, y5, y6⟩ := D9.r.seven_f
      have u0 : w9.cell? ⟨V, 0, none⟩ = some (.int .u8 2) := D9.v.cell 0
      have u1 : w9.cell? ⟨V, 1, none⟩ = some (.int .i64 nn) := D9.v.cell 1
      have u2 : w9.cell? ⟨V, 2, none⟩ = some (.int .i64 0) := D9.v.cell 2
      have u3 : w9.cell? ⟨V, 3, none⟩ = some (.slice a acc.length c) := D9.v.cell 3
      have u4 : w9.cell? ⟨V, 4, none⟩ = some (.slice none 0 0) := D9.v.cell 4
      have u5 : w9.cell? ⟨V, 5, none⟩ = some (.slice none 0 0) := D9.v.cell 5
      have u6 : w9.cell? ⟨V, 6, none⟩ = some (.slice none 0 0) := D9.v.cell 6
      clear HF HD8 h9' o9 D9
      by_cases hf : t.fin.e = 0
      · by_cases hq : x = 0
        · by_cases hs : S = s
          · have HQ := Lib.hid (rdec_good HL.out (by rw [HN.out]; exact hf) (by rw [HN.out]; dsimp only; rw [HX.out]; exact hq) (by rw [HN.out]; dsimp only; rw [HX.out]; exact hs))
            have g1 : (t.fin.e != 0) = false := by simpa using hf
            have g2 : (x != 0) = false := by simpa using hq
            have g3 : (S != s) = false := by simpa using hs
            have g4 : (S == s) = true := by simpa using hs
            clear hf hq hs
            go_wp2_with fail
            refine bodyPost_ret (v := .tuple #[.agg #[.int .u8 2, .int .i64 nn, .int .i64 0, .slice a acc.length c, .slice none 0 0, .slice none 0 0, .slice none 0 0], .int .i64 0]) (by simp [results, Tryz.results10, go_sem, r0, r1, r2, r3, r4, r5, r6]) rfl ?_
            rw [HQ.out, HN.out]
            refine ⟨⟨a, c, none, 0, none, 0, none, 0⟩, rfl, set7_oen HDz.out.2 HDz.out.1.r _ _ _ _ _ _ _, set7_below HDz.out.1.bel ?_ _ _ _ _ _ _ _⟩
            rw [HR.out]
            exact Nat.le_refl _
          · have HQ := Lib.hid (rdec_bad HL.out (.inr (.inr (by rw [HN.out]; dsimp only; rw [HX.out]; exact hs))))
            have g1 : (t.fin.e != 0) = false := by simpa using hf
            have g2 : (x != 0) = false := by simpa using hq
            have g3 : (S != s) = true := by simpa using hs
            have g4 : (S == s) = false := by simpa using hs
            clear hf hq hs
            go_wp2_with fail
            refine bodyPost_ret (v := .tuple #[.agg #[.int .u8 0, .int .i64 0, .int .i64 0, .slice none 0 0, .slice none 0 0, .slice none 0 0, .slice none 0 0], .int .i64 4]) (by simp [results, Tryz.results10, go_sem, r0, r1, r2, r3, r4, r5, r6]) rfl ?_
            rw [HQ.out]
            refine ⟨Ad.none, rfl, oen_zero, set7_below HDz.out.1.bel ?_ _ _ _ _ _ _ _⟩
            rw [HR.out]
            exact Nat.le_refl _
        · have HQ := Lib.hid (rdec_bad HL.out (.inr (.inl (by rw [HN.out]; dsimp only; rw [HX.out]; exact hq))))
          have g1 : (t.fin.e != 0) = false := by simpa using hf
          have g2 : (x != 0) = true := by simpa using hq
          clear hf hq
          go_wp2_with fail
          refine bodyPost_ret (v := .tuple #[.agg #[.int .u8 0, .int .i64 0, .int .i64 0, .slice none 0 0, .slice none 0 0, .slice none 0 0, .slice none 0 0], .int .i64 4]) (by simp [results, Tryz.results10, go_sem, r0, r1, r2, r3, r4, r5, r6]) rfl ?_
          rw [HQ.out]
          refine ⟨Ad.none, rfl, oen_zero, set7_below HDz.out.1.bel ?_ _ _ _ _ _ _ _⟩
          rw [HR.out]
          exact Nat.le_refl _
      · have HQ := Lib.hid (rdec_bad HL.out (.inl (by rw [HN.out]; exact hf)))
        have g1 : (t.fin.e != 0) = true := by simpa using hf
        clear hf
        go_wp2_with fail
        refine bodyPost_ret (v := .tuple #[.agg #[.int .u8 0, .int .i64 0, .int .i64 0, .slice none 0 0, .slice none 0 0, .slice none 0 0, .slice none 0 0], .int .i64 4]) (by simp [results, Tryz.results10, go_sem, r0, r1, r2, r3, r4, r5, r6]) rfl ?_
        rw [HQ.out]
        refine ⟨Ad.none, rfl, oen_zero, set7_below HDz.out.1.bel ?_ _ _ _ _ _ _ _⟩
        rw [HR.out]
        exact Nat.le_refl _

theorem rread_3 {s : List UInt8} (h : (RS.num 1 ⟨s, 0⟩).1 = 3) : rread s = (⟨3, 0, (oneNum (RS.num 1 ⟨s, 0⟩).2).1, [], [], (repM oneNum (oneNum (RS.num 1 ⟨s, 0⟩).2).2).1, []⟩, (repM oneNum (oneNum (RS.num 1 ⟨s, 0⟩).2).2).2) := by
  unfold rread
  dsimp only
  rw [if_neg (by rw [h]; decide)]; rw [if_neg (by rw [h]; decide)]; rw [if_neg (by rw [h]; decide)]; rw [if_pos h]
set_option maxRecDepth 100000 in
set_option maxHeartbeats 4000000 in
theorem rdec_3 (s : List UInt8) (w : World) (h : s.length ≤ 2048) (hk : (RS.num 1 ⟨s, 0⟩).1 = 3) : Calls Tryz.prog 10 #[.string ⟨s.toArray⟩] w (EnPost (rdec s).1 (rdec s).2 w) := by
  have HE := Lib.hid (rread_3 hk)
  have h9 : s.length ≤ 9223372036854775807 := by omega
  have hd : decide ((2048 : Int) < (s.length : Int)) = false := decide_eq_false (by omega)
  have HO := Lib.hid (ropen_any s (w.alloc (.cells #[.int .u8 0, .int .i64 0, .int .i64 0, .slice none 0 0, .slice none 0 0, .slice none 0 0, .slice none 0 0] 27)))
  have HL := Lib.hid h
  have HK := Lib.hid (rread_lim s)
  have HJ := Lib.hid (rread_ok s).1
  clear h
  go_enter Tryz.func10, Tryz.ntmps10
  go_wp2_with fail
  refine (Calls.mono HO.out ?_)
  rintro e w1 ⟨rfl, h1, b1⟩
  simp only [asz] at h1 b1 ⊢
  have HD := Lib.hid (DSr.make b1 h1)
  clear h1 b1 HO hd
  go_upto_region 5 with fail
  obtain ⟨W1, hW1⟩ : ∃ W1, W1 = w1.alloc (.cells #[.int .u8 0, .int .i64 0, .int .i64 0, .slice none 0 0, .slice none 0 0, .slice none 0 0, .slice none 0 0] 27) := ⟨_, rfl⟩
  have HD1 : DSr w w.heap.size (w.heap.size + 1) w1.heap.size ⟨s, 0⟩ zero7 W1 := by rw [hW1]; exact HD.out
  rw [← hW1]
  have HW := Lib.hid hW1
  clear HD hW1 HW
  generalize w1.heap.size = V at *
  generalize hRR : w.heap.size = R at HD1 ⊢
  have HR := Lib.hid hRR
  clear hRR
  have HB := Lib.hid (rByte_any (R + 1) ⟨s, 0⟩ W1 HD1.rd)
  have HD2 := Lib.hid HD1
  clear HD1
  go_wp2_with fail
  refine (Calls.mono HB.out ?_)
  rintro e w2 ⟨rfl, h2, o2⟩
  have D2 := HD2.out.read h2 o2
  have v0 : w2.cell? ⟨V, 0, none⟩ = some (.int .u8 0) := D2.v.cell 0
  have z0 := D2.v.frozen 0
  have HD3 := Lib.hid (D2.set_ 0 (.int .u8 (RS.num 1 ⟨s, 0⟩).1))
  clear HB HD2 h2 o2 D2
  go_upto_region 6 with fail
  clear v0 z0
  generalize (RS.num 1 ⟨s, 0⟩).2 = st at *
  generalize (RS.num 1 ⟨s, 0⟩).1 = kk at *
  subst hk
  generalize (w2.setCell ⟨V, 0, none⟩ (.int .u8 3)) = w3 at *
  obtain ⟨i0, hi, hz0, hz1, hz2⟩ := info_parts infoInt
  have D3 := HD3.out
  have v0 : w3.cell? ⟨V, 0, none⟩ = some (.int .u8 3) := D3.v.cell 0
  have HG := Lib.hid (rnumc_any (R + 1) st w3 D3.rd)
  clear D3
  go_wp2_with fail
  refine (Calls.mono HG.out ?_)
  rintro e w6 ⟨rfl, h6, o6⟩
  have D6 := HD3.out.read h6 o6
  have x1 : w6.cell? ⟨V, 2, none⟩ = some (.int .i64 0) := D6.v.cell 2
  have z1 := D6.v.frozen 2
  generalize (oneNum st).2 = st1 at *
  generalize (oneNum st).1 = nn at *
  have HD7 := Lib.hid (D6.set_ 2 (.int .i64 nn))
  clear HG h6 o6 D6 HD3 v0
  go_upto_region 12 with fail
  clear x1 z1
  generalize (w6.setCell ⟨V, 2, none⟩ (.int .i64 nn)) = w7 at *
  have v0 : w7.cell? ⟨V, 0, none⟩ = some (.int .u8 3) := HD7.out.v.cell 0
  obtain ⟨n, hn, hn255⟩ := num1_nat st1
  have HM0 := Lib.hid (repM_nat (one := oneNum) hn)
  have HN1 := Lib.hid hn
  have HG := Lib.hid (rByte_any (R + 1) st1 w7 HD7.out.rd)
  clear hn
  go_wp2_with fail
  refine (Calls.mono HG.out ?_)
  rintro e w8 ⟨rfl, h8, o8⟩
  rw [HN1.out]
  have HD8 := Lib.hid (HD7.out.read h8 o8)
  clear HG HD7 h8 o8 v0
  go_wp2_with fail
  go_loopw [7] (fun i wr => ∃ (j : Nat) (acc : List Int) (t : RS) (vx : Value), j ≤ n ∧ i = .int .i64 j ∧ acc.length = j ∧ DSr w R (R + 1) V t #[.int .u8 3, .int .i64 0, .int .i64 nn, .slice none 0 0, .slice none 0 0, vx, .slice none 0 0] wr ∧ wr.ownsRow w.heap.size 3 1 vx acc.length (acc.map (.int .i64)) ∧ repN oneNum (n - j) t acc = repM oneNum st1) (fun i _ => n - (intOf i).toNat)
  case atStart => exact ⟨0, [], _, _, Nat.zero_le _, rfl, rfl, HD8.out, World.ownsRow_nil _ _ _ _, HM0.out.symm⟩
  case round =>
    obtain ⟨j, acc, t, vx, hj, rfl, hacc, hD, hO, hM⟩ := hrel
    clear HD8 HM0
    have f1 : wr.cell? ⟨R + 1, 1, none⟩ = some (.int .i64 t.e) := hD.rd.cell 1
    have v0 : wr.cell? ⟨V, 0, none⟩ = some (.int .u8 3) := hD.v.cell 0
    by_cases hlt : j < n
    · by_cases he : t.e = 0
      · obtain ⟨m, hm⟩ : ∃ m, n - j = m + 1 := ⟨n - j - 1, by omega⟩
        have hm' : n - (j + 1) = m := by omega
        rw [hm] at hM
        have HA := Lib.hid (And.intro hacc (And.intro hD (And.intro hO (And.intro (rep_step hM he) hm'))))
        have HC := Lib.hid (rnumc_any (R + 1) t wr hD.rd)
        have hjI : (j : Int) < (n : Int) := by omega
        have heq : (t.e == 0) = true := by rw [he]; rfl
        clear hacc hO hD hM hm hm' he
        go_wp2_with fail
        refine (Calls.mono HC.out ?_)
        rintro e w4 ⟨rfl, h4, o4⟩
        have D4 := HA.out.2.1.read h4 o4
        have x3 : w4.cell? ⟨V, 5, none⟩ = some vx := D4.v.cell 5
        have HQ := Lib.hid (And.intro D4 (own_rr HA.out.2.2.1 HA.out.2.1.rd (by decide) o4))
        have hal := HA.out.1
        have hbs := D4.bel.size
        have HM := Lib.hid HA.out.2.2.2.1
        have hm' := HA.out.2.2.2.2
        clear h4 o4 D4 f1 v0 HC HA
        generalize (oneNum t).1 = x at *
        generalize (oneNum t).2 = t' at *
        go_wp2_with (at_builtin; refine wpList_append_own_at _ rfl _ _ 24 rfl w.heap.size 3 i0 (.int .i64 0) 1 8 Tryz.underlying24 hi hz0 hz1 hz2 rfl (by decide) _ _ _ rfl (HQ.out.2.alloc _) ⟨w4.heap.size, 0, none⟩ 1 1 [.int .i64 x] rfl rfl (cell_one_new _ _ _) (one_int _ x) (by unfold maxLen; omega) (by omega) (by simp; omega) ?_; intro v' w5 hown5 hgrow5 _ _; obtain ⟨a5, c5, rfl⟩ := own_slice hown5; have D5 := (HQ.out.1.alloc (.cells #[.int .i64 x] 3)).grow (HQ.out.2.alloc _) (by decide) (by decide) (Nat.le_refl _) hgrow5; have x3' : w5.cell? ⟨V, 5, none⟩ = some vx := D5.v.cell 5; have z3 := D5.v.frozen 5; have HZ := Lib.hid (And.intro (D5.set_ 5 (.slice a5 (acc.length + 1) c5)) (own_setc hown5 D5.v (by decide) (i := 5) (.slice a5 (acc.length + 1) c5))); rw [hal] at HZ; clear hown5 hgrow5 D5 x3 HQ)
        go_wp2_with fail
        go_roundw
        case rel => exact ⟨j + 1, acc ++ [x], t', _, by omega, by go_num, by simp [hal], HZ.out.1, by simpa [hal] using HZ.out.2, by rw [hm']; exact HM.out⟩
        case measure => simp [intOf]; omega
      · have hd : (t.e == 0) = false := by simpa using he
        have hjI : (j : Int) < (n : Int) := by omega
        have HE2 := Lib.hid (show rread s = (⟨3, 0, nn, [], [], acc, []⟩, t) by rw [HE.out, rep_stop hM he])
        obtain ⟨a, c, rfl⟩ := own_slice hO
        have HD9 := Lib.hid (And.intro hD (show OEn w.heap.size wr.heap.size wr ⟨3, 0, nn, [], [], acc, []⟩ ⟨none, 0, none, 0, a, c, none, 0⟩ from ⟨.inl rfl, .inl rfl, Row.of_own hO, .inl rfl⟩))
        clear he hO hM hD hacc HE f1
        have f1 : wr.cell? ⟨R + 1, 1, none⟩ = some (.int .i64 t.e) := HD9.out.1.rd.cell 1
        have u0 : wr.cell? ⟨V, 0, none⟩ = some (.int .u8 3) := HD9.out.1.v.cell 0
        have u1 : wr.cell? ⟨V, 1, none⟩ = some (.int .i64 0) := HD9.out.1.v.cell 1
        have u2 : wr.cell? ⟨V, 2, none⟩ = some (.int .i64 nn) := HD9.out.1.v.cell 2
        have u3 : wr.cell? ⟨V, 3, none⟩ = some (.slice none 0 0) := HD9.out.1.v.cell 3
        have u4 : wr.cell? ⟨V, 4, none⟩ = some (.slice none 0 0) := HD9.out.1.v.cell 4
        have u5 : wr.cell? ⟨V, 5, none⟩ = some (.slice a acc.length c) := HD9.out.1.v.cell 5
        have u6 : wr.cell? ⟨V, 6, none⟩ = some (.slice none 0 0) := HD9.out.1.v.cell 6
        have hEN : rread s = (⟨3, 0, nn, [], [], acc, []⟩, t) := HE2.out
        have ok9 := HJ.out
        have li9 := HK.out
        rw [hEN] at ok9 li9
        have HEc := Lib.hid (renc_any ⟨3, 0, nn, [], [], acc, []⟩ ⟨none, 0, none, 0, a, c, none, 0⟩ wr ok9 li9 (OEn.nums HD9.out.2))
        obtain ⟨S, x, hx⟩ : ∃ S x, eenc ⟨3, 0, nn, [], [], acc, []⟩ = (S, x) := ⟨_, _, rfl⟩
        have HX := Lib.hid hx
        have HN := Lib.hid hEN
        clear hx hEN ok9 li9
        go_wp2_with fail
        refine (Calls.mono HEc.out ?_)
        rintro e w8 ⟨rfl, b8⟩
        rw [HX.out]
        have D8 := HD9.out.1.below b8
        have u0 : w8.cell? ⟨V, 0, none⟩ = some (.int .u8 3) := D8.v.cell 0
        have u1 : w8.cell? ⟨V, 1, none⟩ = some (.int .i64 0) := D8.v.cell 1
        have u2 : w8.cell? ⟨V, 2, none⟩ = some (.int .i64 nn) := D8.v.cell 2
        have u3 : w8.cell? ⟨V, 3, none⟩ = some (.slice none 0 0) := D8.v.cell 3
        have u4 : w8.cell? ⟨V, 4, none⟩ = some (.slice none 0 0) := D8.v.cell 4
        have u5 : w8.cell? ⟨V, 5, none⟩ = some (.slice a acc.length c) := D8.v.cell 5
        have u6 : w8.cell? ⟨V, 6, none⟩ = some (.slice none 0 0) := D8.v.cell 6
        have HD8 := Lib.hid (And.intro D8 ((HD9.out.2.kept (Kp.of_below b8 (Nat.le_refl _))).more (Nat.le_refl _) b8.size))
        have HF := Lib.hid (rend_any (R + 1) t w8 D8.rd)
        clear b8 D8 HEc
        go_wp2_with fail
        refine (Calls.mono HF.out ?_)
        rintro e w9 ⟨rfl, h9', o9⟩
        have D9 := HD8.out.1.read h9' o9
        have HDz := Lib.hid (And.intro D9 (HD8.out.1.oen_read HD8.out.2 o9))
        obtain ⟨r0, r1, r2, r3, r4, r5, r6⟩ := D9.r.seven
        obtain ⟨y0, y1, y2, y3, y4, y5, y6⟩ := D9.r.seven_f
        have u0 : w9.cell? ⟨V, 0, none⟩ = some (.int .u8 3) := D9.v.cell 0
        have u1 : w9.cell? ⟨V, 1, none⟩ = some (.int .i64 0) := D9.v.cell 1
        have u2 : w9.cell? ⟨V, 2, none⟩ = some (.int .i64 nn) := D9.v.cell 2
        have u3 : w9.cell? ⟨V, 3, none⟩ = some (.slice none 0 0) := D9.v.cell 3
        have u4 : w9.cell? ⟨V, 4, none⟩ = some (.slice none 0 0) := D9.v.cell 4
        have u5 : w9.cell? ⟨V, 5, none⟩ = some (.slice a acc.length c) := D9.v.cell 5
        have u6 : w9.cell? ⟨V, 6, none⟩ = some (.slice none 0 0) := D9.v.cell 6
        clear HF HD8 h9' o9 D9
        by_cases hf : t.fin.e = 0
        · by_cases hq : x = 0
          · by_cases hs : S = s
            · have HQ := Lib.hid (rdec_good HL.out (by rw [HN.out]; exact hf) (by rw [HN.out]; dsimp only; rw [HX.out]; exact hq) (by rw [HN.out]; dsimp only; rw [HX.out]; exact hs))
              have g1 : (t.fin.e != 0) = false := by simpa using hf
              have g2 : (x != 0) = false := by simpa using hq
              have g3 : (S != s) = false := by simpa using hs
              have g4 : (S == s) = true := by simpa using hs
              clear hf hq hs
              go_wp2_with fail
              refine bodyPost_ret (v := .tuple #[.agg #[.int .u8 3, .int .i64 0, .int .i64 nn, .slice none 0 0, .slice none 0 0, .slice a acc.length c, .slice none 0 0], .int .i64 0]) (by simp [results, Tryz.results10, go_sem, r0, r1, r2, r3, r4, r5, r6]) rfl ?_
              rw [HQ.out, HN.out]
              refine ⟨⟨none, 0, none, 0, a, c, none, 0⟩, rfl, set7_oen HDz.out.2 HDz.out.1.r _ _ _ _ _ _ _, set7_below HDz.out.1.bel ?_ _ _ _ _ _ _ _⟩
              rw [HR.out]
              exact Nat.le_refl _
            · have HQ := Lib.hid (rdec_bad HL.out (.inr (.inr (by rw [HN.out]; dsimp only; rw [HX.out]; exact hs))))
              have g1 : (t.fin.e != 0) = false := by simpa using hf
              have g2 : (x != 0) = false := by simpa using hq
              have g3 : (S != s) = true := by simpa using hs
              have g4 : (S == s) = false := by simpa using hs
              clear hf hq hs
              go_wp2_with fail
              refine bodyPost_ret (v := .tuple #[.agg #[.int .u8 0, .int .i64 0, .int .i64 0, .slice none 0 0, .slice none 0 0, .slice none 0 0, .slice none 0 0], .int .i64 4]) (by simp [results, Tryz.results10, go_sem, r0, r1, r2, r3, r4, r5, r6]) rfl ?_
              rw [HQ.out]
              refine ⟨Ad.none, rfl, oen_zero, set7_below HDz.out.1.bel ?_ _ _ _ _ _ _ _⟩
              rw [HR.out]
              exact Nat.le_refl _
          · have HQ := Lib.hid (rdec_bad HL.out (.inr (.inl (by rw [HN.out]; dsimp only; rw [HX.out]; exact hq))))
            have g1 : (t.fin.e != 0) = false := by simpa using hf
            have g2 : (x != 0) = true := by simpa using hq
            clear hf hq
            go_wp2_with fail
            refine bodyPost_ret (v := .tuple #[.agg #[.int .u8 0, .int .i64 0, .int .i64 0, .slice none 0 0, .slice none 0 0, .slice none 0 0, .slice none 0 0], .int .i64 4]) (by simp [results, Tryz.results10, go_sem, r0, r1, r2, r3, r4, r5, r6]) rfl ?_
            rw [HQ.out]
            refine ⟨Ad.none, rfl, oen_zero, set7_below HDz.out.1.bel ?_ _ _ _ _ _ _ _⟩
            rw [HR.out]
            exact Nat.le_refl _
        · have HQ := Lib.hid (rdec_bad HL.out (.inl (by rw [HN.out]; exact hf)))
          have g1 : (t.fin.e != 0) = true := by simpa using hf
          clear hf
          go_wp2_with fail
          refine bodyPost_ret (v := .tuple #[.agg #[.int .u8 0, .int .i64 0, .int .i64 0, .slice none 0 0, .slice none 0 0, .slice none 0 0, .slice none 0 0], .int .i64 4]) (by simp [results, Tryz.results10, go_sem, r0, r1, r2, r3, r4, r5, r6]) rfl ?_
          rw [HQ.out]
          refine ⟨Ad.none, rfl, oen_zero, set7_below HDz.out.1.bel ?_ _ _ _ _ _ _ _⟩
          rw [HR.out]
          exact Nat.le_refl _
    · have hje : j = n := by omega
      have hjI : decide ((j : Int) < (n : Int)) = false := decide_eq_false (by omega)
      subst hje
      rw [Nat.sub_self] at hM
      have hM : (acc, t) = repM oneNum st1 := hM
      have HE2 := Lib.hid (show rread s = (⟨3, 0, nn, [], [], acc, []⟩, t) by rw [HE.out, ← hM])
      obtain ⟨a, c, rfl⟩ := own_slice hO
      have HD9 := Lib.hid (And.intro hD (show OEn w.heap.size wr.heap.size wr ⟨3, 0, nn, [], [], acc, []⟩ ⟨none, 0, none, 0, a, c, none, 0⟩ from ⟨.inl rfl, .inl rfl, Row.of_own hO, .inl rfl⟩))
      clear hO hM hD hacc HE
      have u0 : wr.cell? ⟨V, 0, none⟩ = some (.int .u8 3) := HD9.out.1.v.cell 0
      have u1 : wr.cell? ⟨V, 1, none⟩ = some (.int .i64 0) := HD9.out.1.v.cell 1
      have u2 : wr.cell? ⟨V, 2, none⟩ = some (.int .i64 nn) := HD9.out.1.v.cell 2
      have u3 : wr.cell? ⟨V, 3, none⟩ = some (.slice none 0 0) := HD9.out.1.v.cell 3
      have u4 : wr.cell? ⟨V, 4, none⟩ = some (.slice none 0 0) := HD9.out.1.v.cell 4
      have u5 : wr.cell? ⟨V, 5, none⟩ = some (.slice a acc.length c) := HD9.out.1.v.cell 5
      have u6 : wr.cell? ⟨V, 6, none⟩ = some (.slice none 0 0) := HD9.out.1.v.cell 6
      have hEN : rread s = (⟨3, 0, nn, [], [], acc, []⟩, t) := HE2.out
      have ok9 := HJ.out
      have li9 := HK.out
      rw [hEN] at ok9 li9
      have HEc := Lib.hid (renc_any ⟨3, 0, nn, [], [], acc, []⟩ ⟨none, 0, none, 0, a, c, none, 0⟩ wr ok9 li9 (OEn.nums HD9.out.2))
      obtain ⟨S, x, hx⟩ : ∃ S x, eenc ⟨3, 0, nn, [], [], acc, []⟩ = (S, x) := ⟨_, _, rfl⟩
      have HX := Lib.hid hx
      have HN := Lib.hid hEN
      clear hx hEN ok9 li9
      go_wp2_with fail
      refine (Calls.mono HEc.out ?_)
      rintro e w8 ⟨rfl, b8⟩
      rw [HX.out]
      have D8 := HD9.out.1.below b8
      have u0 : w8.cell? ⟨V, 0, none⟩ = some (.int .u8 3) := D8.v.cell 0
      have u1 : w8.cell? ⟨V, 1, none⟩ = some (.int .i64 0) := D8.v.cell 1
      have u2 : w8.cell? ⟨V, 2, none⟩ = some (.int .i64 nn) := D8.v.cell 2
      have u3 : w8.cell? ⟨V, 3, none⟩ = some (.slice none 0 0) := D8.v.cell 3
      have u4 : w8.cell? ⟨V, 4, none⟩ = some (.slice none 0 0) := D8.v.cell 4
      have u5 : w8.cell? ⟨V, 5, none⟩ = some (.slice a acc.length c) := D8.v.cell 5
      have u6 : w8.cell? ⟨V, 6, none⟩ = some (.slice none 0 0) := D8.v.cell 6
      have HD8 := Lib.hid (And.intro D8 ((HD9.out.2.kept (Kp.of_below b8 (Nat.le_refl _))).more (Nat.le_refl _) b8.size))
      have HF := Lib.hid (rend_any (R + 1) t w8 D8.rd)
      clear b8 D8 HEc
      go_wp2_with fail
      refine (Calls.mono HF.out ?_)
      rintro e w9 ⟨rfl, h9', o9⟩
      have D9 := HD8.out.1.read h9' o9
      have HDz := Lib.hid (And.intro D9 (HD8.out.1.oen_read HD8.out.2 o9))
      obtain ⟨r0, r1, r2, r3, r4, r5, r6⟩ := D9.r.seven
      obtain ⟨y0, y1, y2, y3, y4, y5, y6⟩ := D9.r.seven_f
      have u0 : w9.cell? ⟨V, 0, none⟩ = some (.int .u8 3) := D9.v.cell 0
      have u1 : w9.cell? ⟨V, 1, none⟩ = some (.int .i64 0) := D9.v.cell 1
      have u2 : w9.cell? ⟨V, 2, none⟩ = some (.int .i64 nn) := D9.v.cell 2
      have u3 : w9.cell? ⟨V, 3, none⟩ = some (.slice none 0 0) := D9.v.cell 3
      have u4 : w9.cell? ⟨V, 4, none⟩ = some (.slice none 0 0) := D9.v.cell 4
      have u5 : w9.cell? ⟨V, 5, none⟩ = some (.slice a acc.length c) := D9.v.cell 5
      have u6 : w9.cell? ⟨V, 6, none⟩ = some (.slice none 0 0) := D9.v.cell 6
      clear HF HD8 h9' o9 D9
      by_cases hf : t.fin.e = 0
      · by_cases hq : x = 0
        · by_cases hs : S = s
          · have HQ := Lib.hid (rdec_good HL.out (by rw [HN.out]; exact hf) (by rw [HN.out]; dsimp only; rw [HX.out]; exact hq) (by rw [HN.out]; dsimp only; rw [HX.out]; exact hs))
            have g1 : (t.fin.e != 0) = false := by simpa using hf
            have g2 : (x != 0) = false := by simpa using hq
            have g3 : (S != s) = false := by simpa using hs
            have g4 : (S == s) = true := by simpa using hs
            clear hf hq hs
            go_wp2_with fail
            refine bodyPost_ret (v := .tuple #[.agg #[.int .u8 3, .int .i64 0, .int .i64 nn, .slice none 0 0, .slice none 0 0, .slice a acc.length c, .slice none 0 0], .int .i64 0]) (by simp [results, Tryz.results10, go_sem, r0, r1, r2, r3, r4, r5, r6]) rfl ?_
            rw [HQ.out, HN.out]
            refine ⟨⟨none, 0, none, 0, a, c, none, 0⟩, rfl, set7_oen HDz.out.2 HDz.out.1.r _ _ _ _ _ _ _, set7_below HDz.out.1.bel ?_ _ _ _ _ _ _ _⟩
            rw [HR.out]
            exact Nat.le_refl _
          · have HQ := Lib.hid (rdec_bad HL.out (.inr (.inr (by rw [HN.out]; dsimp only; rw [HX.out]; exact hs))))
            have g1 : (t.fin.e != 0) = false := by simpa using hf
            have g2 : (x != 0) = false := by simpa using hq
            have g3 : (S != s) = true := by simpa using hs
            have g4 : (S == s) = false := by simpa using hs
            clear hf hq hs
            go_wp2_with fail
            refine bodyPost_ret (v := .tuple #[.agg #[.int .u8 0, .int .i64 0, .int .i64 0, .slice none 0 0, .slice none 0 0, .slice none 0 0, .slice none 0 0], .int .i64 4]) (by simp [results, Tryz.results10, go_sem, r0, r1, r2, r3, r4, r5, r6]) rfl ?_
            rw [HQ.out]
            refine ⟨Ad.none, rfl, oen_zero, set7_below HDz.out.1.bel ?_ _ _ _ _ _ _ _⟩
            rw [HR.out]
            exact Nat.le_refl _
        · have HQ := Lib.hid (rdec_bad HL.out (.inr (.inl (by rw [HN.out]; dsimp only; rw [HX.out]; exact hq))))
          have g1 : (t.fin.e != 0) = false := by simpa using hf
          have g2 : (x != 0) = true := by simpa using hq
          clear hf hq
          go_wp2_with fail
          refine bodyPost_ret (v := .tuple #[.agg #[.int .u8 0, .int .i64 0, .int .i64 0, .slice none 0 0, .slice none 0 0, .slice none 0 0, .slice none 0 0], .int .i64 4]) (by simp [results, Tryz.results10, go_sem, r0, r1, r2, r3, r4, r5, r6]) rfl ?_
          rw [HQ.out]
          refine ⟨Ad.none, rfl, oen_zero, set7_below HDz.out.1.bel ?_ _ _ _ _ _ _ _⟩
          rw [HR.out]
          exact Nat.le_refl _
      · have HQ := Lib.hid (rdec_bad HL.out (.inl (by rw [HN.out]; exact hf)))
        have g1 : (t.fin.e != 0) = true := by simpa using hf
        clear hf
        go_wp2_with fail
        refine bodyPost_ret (v := .tuple #[.agg #[.int .u8 0, .int .i64 0, .int .i64 0, .slice none 0 0, .slice none 0 0, .slice none 0 0, .slice none 0 0], .int .i64 4]) (by simp [results, Tryz.results10, go_sem, r0, r1, r2, r3, r4, r5, r6]) rfl ?_
        rw [HQ.out]
        refine ⟨Ad.none, rfl, oen_zero, set7_below HDz.out.1.bel ?_ _ _ _ _ _ _ _⟩
        rw [HR.out]
        exact Nat.le_refl _

end Go.Proofs.YtdnkijljpmcejaaGreat
namespace Go.Proofs.YtdnkijljpmcejaaGreat
open Go.RowKit

def nkind (b V : Nat) (vd : Value) (j : Nat) (d : Dl) (xs : List Value) : Nat → DK
  | 0 => .eq (.pointer (some ⟨V, 6, none⟩))
  | 1 => .eq vd
  | 2 => .eq (.int .i64 d.1)
  | 3 => .eq (.pointer (some ⟨b, 0, none⟩))
  | 4 => .lst d.2
  | 5 => .agg d
  | 6 => .box d
  | 7 => .app j d xs
  | 8 => .eq (.pointer (some ⟨V, 6, none⟩))
  | 9 => .capp j d xs
  | _ => .eq undef
def NR (b V : Nat) (vd : Value) (i : Nat) (w w' : World) : Prop := Below w.heap.size w w' ∨ (i = 4 ∧ Only w w' b) ∨ (i = 7 ∧ w.grownBy w' vd.ownBlock) ∨ (i = 9 ∧ ∃ u, w' = w.setCell ⟨V, 6, none⟩ u)
/-- What stands in the region that puts a deal more. -/
structure RG (w0 : World) (R b V : Nat) (s1 s2 : RS) (k n : Int) (vd : Value) (j : Nat) (xs : List Value) (acc : List Dl) (H : Nat) (L : Nat → Bool) (w : World) : Prop where
  r : Blk w R 27 zero7
  rd : RrAt b (cond (L 4) s2 s1) w
  v : ∃ v6, Blk w V 27 #[.int .u8 k, .int .i64 0, .int .i64 n, .slice none 0 0, .slice none 0 0, .slice none 0 0, v6] ∧ (L 9 = false → v6 = vd)
  bel : Below w0.heap.size w0 w
  hR : w0.heap.size ≤ R
  hb : w0.heap.size ≤ b
  hV : w0.heap.size ≤ V
  ne : R ≠ V
  own : L 7 = false → w.ownsRow w0.heap.size 41 2 vd j xs
  acc : DAcc w0.heap.size w.heap.size w xs acc
  hH : H ≤ w.heap.size
  hv : ∀ q, vd.ownBlock = some q → w0.heap.size ≤ q ∧ q < H
  c97 : L 9 = true → L 7 = true
  c91 : L 9 = true → L 1 = true
section
variable {w0 w w' : World} {R b V j H : Nat} {s1 s2 : RS} {k n : Int} {xs : List Value} {vd : Value} {acc : List Dl} {L L' : Nat → Bool}
theorem RG.kept (h : RG w0 R b V s1 s2 k n vd j xs acc H L w) (b' : Below w.heap.size w w') (h4 : L' 4 = L 4) (h7 : L' 7 = L 7) (h9 : L' 9 = L 9) (h1 : L 1 = true → L' 1 = true) : RG w0 R b V s1 s2 k n vd j xs acc H L' w' :=
  ⟨h.r.kept b', by rw [h4]; exact Blk.kept h.rd b', h.v.elim fun v6 h => ⟨v6, h.1.kept b', by rw [h9]; exact h.2⟩, step_below h.bel b', h.hR, h.hb, h.hV, h.ne, by rw [h7]; exact fun x => own_below (h.own x) b', (h.acc.grow (fun _ _ hb => hb.kept b') (fun _ _ hb => hb.kept b')).more b'.size, Nat.le_trans h.hH b'.size, h.hv, by rw [h7, h9]; exact h.c97, by rw [h9]; exact fun x => h1 (h.c91 x)⟩
theorem RG.told (h : RG w0 R b V s1 s2 k n vd j xs acc H L w) (o : Only w w' b) (hr : RrAt b s2 w') (h4 : L' 4 = true) (h7 : L' 7 = L 7) (h9 : L' 9 = L 9) (h1 : L 1 = true → L' 1 = true) : RG w0 R b V s1 s2 k n vd j xs acc H L' w' :=
  ⟨h.r.grown o (some_ne (Blk.ne_ h.r h.rd (by decide))), by rw [h4]; exact hr, h.v.elim fun v6 k => ⟨v6, k.1.grown o (some_ne (Blk.ne_ k.1 h.rd (by decide))), by rw [h9]; exact k.2⟩, below_only h.bel o h.hb h.bel.size, h.hR, h.hb, h.hV, h.ne, by rw [h7]; exact fun x => own_rr (h.own x) h.rd (by decide) o, (h.acc.kept (Kp.of_only o h.rd not_five_rr)).more o.size, Nat.le_trans h.hH o.size, h.hv, by rw [h7, h9]; exact h.c97, by rw [h9]; exact fun x => h1 (h.c91 x)⟩
theorem RG.typed (h : RG w0 R b V s1 s2 k n vd j xs acc H L w) (h7 : L 7 = false) (g : w.grownBy w' vd.ownBlock) {q : Nat} {t : TypeId} {cur : Array Value} (hb : Blk w q t cur) (ht : 41 ≠ t) : Blk w' q t cur := hb.grown g (own_ne' (h.own h7) hb ht)
theorem RG.grown (h : RG w0 R b V s1 s2 k n vd j xs acc H L w) (h7 : L 7 = false) (g : w.grownBy w' vd.ownBlock) (h4 : L' 4 = L 4) (k7 : L' 7 = true) (h9 : L' 9 = L 9) (h1 : L 1 = true → L' 1 = true) : RG w0 R b V s1 s2 k n vd j xs acc H L' w' :=
  ⟨h.typed h7 g h.r (by decide), by rw [h4]; exact rr_grown h.rd (h.own h7) (by decide) g, h.v.elim fun v6 k => ⟨v6, h.typed h7 g k.1 (by decide), by rw [h9]; exact k.2⟩, h.bel.grown g h.bel.size (fun q hq => (h.hv q hq).1), h.hR, h.hb, h.hV, h.ne,
    (fun x => by rw [k7] at x; cases x), (h.acc.grow (fun _ _ hb => h.typed h7 g hb (by decide)) (fun _ _ hb => h.typed h7 g hb (by decide))).more g.size, Nat.le_trans h.hH g.size, h.hv, fun _ => k7, by rw [h9]; exact fun x => h1 (h.c91 x)⟩
theorem RG.poke {u : Value} (h : RG w0 R b V s1 s2 k n vd j xs acc H L w) (k7 : L 7 = true) (h4 : L' 4 = L 4) (h7 : L' 7 = L 7) (h9 : L' 9 = true) (k1 : L' 1 = true) : RG w0 R b V s1 s2 k n vd j xs acc H L' (w.setCell ⟨V, 6, none⟩ u) := by
  obtain ⟨v6, hc, _⟩ := h.v
  have hb : Below w0.heap.size w (w.setCell ⟨V, 6, none⟩ u) := (Below.mono (Below.refl _ w) h.bel.size).setCell (p := ⟨V, 6, none⟩) h.hV u
  have hs : w.heap.size ≤ (w.setCell ⟨V, 6, none⟩ u).heap.size := by simp [World.setCell]
  exact ⟨h.r.farc h.ne u, by rw [h4]; exact h.rd.farc (Ne.symm (Blk.ne_ hc h.rd (by decide))) u, ⟨u, hc.set_ 6 u, (fun x => by rw [h9] at x; cases x)⟩, h.bel.trans hb, h.hR, h.hb, h.hV, h.ne, (fun x => by rw [h7, k7] at x; cases x),
    (h.acc.grow (fun _ _ hb => hb.farc (Blk.ne_ hb hc (by decide)) u) (fun _ _ hb => hb.farc (Blk.ne_ hb hc (by decide)) u)).more hs, Nat.le_trans h.hH hs, h.hv, fun _ => by rw [h7]; exact k7, fun _ => k1⟩
theorem DK.only {lo C H b : Nat} {v : Value} {k : DK} {s : RS} {cs : Array Value} (h : k.holds lo C H v w) (o : Only w w' b) (hr : RrAt b s w) (hC : Blk w C 27 cs) : k.holds lo C H v w' := by
  have kp : Kp lo w.heap.size w w' := Kp.of_only o hr not_five_rr
  cases k with
  | eq u => exact h
  | lst ls => exact h.elim fun a h => h.elim fun c ⟨h1, h2⟩ => ⟨a, c, h1, (h2.kept kp).more (Nat.le_refl _) o.size⟩
  | agg d => exact h.elim fun a h => h.elim fun c ⟨h1, h2⟩ => ⟨a, c, h1, (h2.kept kp).more (Nat.le_refl _) o.size⟩
  | box d => exact h.elim fun q h => h.elim fun a h => h.elim fun c ⟨h1, h2, h3, h4⟩ => ⟨q, a, c, h1, h2, h3.grown o (some_ne (Blk.ne_ h3 hr (by decide))), (h4.kept kp).more (Nat.le_refl _) o.size⟩
  | app j d xs => exact h.elim fun a h => h.elim fun c ⟨h1, h2⟩ => ⟨a, c, own_rr h1 hr (by decide) o, (h2.kept kp).more (Nat.le_refl _) o.size⟩
  | capp j d xs => exact h.elim fun u h => h.elim fun a h => h.elim fun c ⟨h1, h2, h3⟩ => ⟨u, a, c, ((hC.grown o (some_ne (Blk.ne_ hC hr (by decide)))).cell 6).trans ((hC.cell 6).symm.trans h1), own_rr h2 hr (by decide) o, (h3.kept kp).more (Nat.le_refl _) o.size⟩
end
theorem nkind_late {b V j : Nat} {d : Dl} {vd : Value} {xs : List Value} {i : Nat} (h1 : i ≠ 7) (h2 : i ≠ 9) : (nkind b V vd j d xs i).late = false := by
  unfold nkind
  split <;> first | rfl | omega
theorem nkind_isC {b V j : Nat} {d : Dl} {vd : Value} {xs : List Value} {i : Nat} (h2 : i ≠ 9) : (nkind b V vd j d xs i).isC = false := by
  unfold nkind
  split <;> first | rfl | omega
theorem rg_start {w0 w : World} {R b V j : Nat} {s1 s2 : RS} {k n : Int} {xs : List Value} {vd : Value} {acc : List Dl} (h : DSr w0 R b V s1 #[.int .u8 k, .int .i64 0, .int .i64 n, .slice none 0 0, .slice none 0 0, .slice none 0 0, vd] w) (ho : w.ownsRow w0.heap.size 41 2 vd j xs) (hd : DAcc w0.heap.size w.heap.size w xs acc) : RG w0 R b V s1 s2 k n vd j xs acc w.heap.size (fun _ => false) w :=
  ⟨h.r, h.rd, ⟨vd, h.v, fun _ => rfl⟩, h.bel, h.hR, h.hb, h.hV, h.ne, fun _ => ho, hd, Nat.le_refl _, fun q hq => ho.lt q hq, (by simp), (by simp)⟩
theorem rg_done {w0 w : World} {R b V j H : Nat} {s1 s2 : RS} {k n : Int} {xs : List Value} {vd u : Value} {acc : List Dl} {L : Nat → Bool} {d : Dl} {a : Option Addr} {c : Nat} (h : RG w0 R b V s1 s2 k n vd j xs acc H L w) (h4 : L 4 = true)
    (hu : w.cell? ⟨V, 6, none⟩ = some u) (own : w.ownsRow w0.heap.size 41 2 u (j + 1) (xs ++ [.int .i64 d.1, .slice a d.2.length c])) (hls : OLst w0.heap.size w.heap.size w a d.2) :
    DSr w0 R b V s2 #[.int .u8 k, .int .i64 0, .int .i64 n, .slice none 0 0, .slice none 0 0, .slice none 0 0, u] w ∧ w.ownsRow w0.heap.size 41 2 u (j + 1) (xs ++ [.int .i64 d.1, .slice a d.2.length c]) ∧ DAcc w0.heap.size w.heap.size w (xs ++ [.int .i64 d.1, .slice a d.2.length c]) (acc ++ [d]) := by
  obtain ⟨v6, hc, _⟩ := h.v
  have y6 : some v6 = _ := (hc.cell 6).symm.trans hu
  injection y6 with y6
  subst y6
  have hr := h.rd
  rw [h4] at hr
  exact ⟨⟨h.r, hr, hc, h.bel, h.hR, h.hb, h.hV, h.ne⟩, own, h.acc.snoc hls⟩
theorem rread_o {s : List UInt8} (h : 5 ≤ (RS.num 1 ⟨s, 0⟩).1) : rread s = (⟨(RS.num 1 ⟨s, 0⟩).1, 0, 0, [], [], [], (repM oneDealR (RS.num 1 ⟨s, 0⟩).2).1⟩, (repM oneDealR (RS.num 1 ⟨s, 0⟩).2).2) := by
  unfold rread
  dsimp only
  rw [if_neg (by omega), if_neg (by omega), if_neg (by omega), if_neg (by omega), if_neg (by omega)]
theorem rread_4 {s : List UInt8} (h : (RS.num 1 ⟨s, 0⟩).1 = 4) : rread s = (⟨4, 0, (oneNum (RS.num 1 ⟨s, 0⟩).2).1, [], [], [], (repM oneDealR (oneNum (RS.num 1 ⟨s, 0⟩).2).2).1⟩, (repM oneDealR (oneNum (RS.num 1 ⟨s, 0⟩).2).2).2) := by
  unfold rread
  dsimp only
  rw [if_neg (by rw [h]; decide)]; rw [if_neg (by rw [h]; decide)]; rw [if_neg (by rw [h]; decide)]; rw [if_neg (by rw [h]; decide)]; rw [if_pos h]
set_option maxRecDepth 100000 in
set_option maxHeartbeats 4000000 in
theorem rdec_4 (s : List UInt8) (w : World) (h : s.length ≤ 2048) (hk : (RS.num 1 ⟨s, 0⟩).1 = 4) : Calls Tryz.prog 10 #[.string ⟨s.toArray⟩] w (EnPost (rdec s).1 (rdec s).2 w) := by
  have HE := Lib.hid (rread_4 hk)
  have h9 : s.length ≤ 9223372036854775807 := by omega
  have hd : decide ((2048 : Int) < (s.length : Int)) = false := decide_eq_false (by omega)
  have HO := Lib.hid (ropen_any s (w.alloc (.cells #[.int .u8 0, .int .i64 0, .int .i64 0, .slice none 0 0, .slice none 0 0, .slice none 0 0, .slice none 0 0] 27)))
  have HL := Lib.hid h
  have HK := Lib.hid (rread_lim s)
  have HJ := Lib.hid (rread_ok s).1
  clear h
  go_enter Tryz.func10, Tryz.ntmps10
  go_wp2_with fail
  refine (Calls.mono HO.out ?_)
  rintro e w1 ⟨rfl, h1, b1⟩
  simp only [asz] at h1 b1 ⊢
  have HD := Lib.hid (DSr.make b1 h1)
  clear h1 b1 HO hd
  go_upto_region 5 with fail
  obtain ⟨W1, hW1⟩ : ∃ W1, W1 = w1.alloc (.cells #[.int .u8 0, .int .i64 0, .int .i64 0, .slice none 0 0, .slice none 0 0, .slice none 0 0, .slice none 0 0] 27) := ⟨_, rfl⟩
  have HD1 : DSr w w.heap.size (w.heap.size + 1) w1.heap.size ⟨s, 0⟩ zero7 W1 := by rw [hW1]; exact HD.out
  rw [← hW1]
  have HW := Lib.hid hW1
  clear HD hW1 HW
  generalize w1.heap.size = V at *
  generalize hRR : w.heap.size = R at HD1 ⊢
  have HR := Lib.hid hRR
  clear hRR
  have HB := Lib.hid (rByte_any (R + 1) ⟨s, 0⟩ W1 HD1.rd)
  have HD2 := Lib.hid HD1
  clear HD1
  go_wp2_with fail
  refine (Calls.mono HB.out ?_)
  rintro e w2 ⟨rfl, h2, o2⟩
  have D2 := HD2.out.read h2 o2
  have v0 : w2.cell? ⟨V, 0, none⟩ = some (.int .u8 0) := D2.v.cell 0
  have z0 := D2.v.frozen 0
  have HD3 := Lib.hid (D2.set_ 0 (.int .u8 (RS.num 1 ⟨s, 0⟩).1))
  clear HB HD2 h2 o2 D2
  go_upto_region 6 with fail
  clear v0 z0
  generalize (RS.num 1 ⟨s, 0⟩).2 = st at *
  generalize (RS.num 1 ⟨s, 0⟩).1 = kk at *
  subst hk
  generalize (w2.setCell ⟨V, 0, none⟩ (.int .u8 4)) = w3 at *
  have D3 := HD3.out
  have v0 : w3.cell? ⟨V, 0, none⟩ = some (.int .u8 4) := D3.v.cell 0
  have HG := Lib.hid (rnumc_any (R + 1) st w3 D3.rd)
  clear D3
  go_wp2_with fail
  refine (Calls.mono HG.out ?_)
  rintro e w6 ⟨rfl, h6, o6⟩
  have D6 := HD3.out.read h6 o6
  have x1 : w6.cell? ⟨V, 2, none⟩ = some (.int .i64 0) := D6.v.cell 2
  have z1 := D6.v.frozen 2
  generalize (oneNum st).2 = st1 at *
  generalize (oneNum st).1 = nn at *
  have HD7 := Lib.hid (D6.set_ 2 (.int .i64 nn))
  clear HG h6 o6 D6 HD3 v0
  go_upto_region 12 with fail
  clear x1 z1
  generalize (w6.setCell ⟨V, 2, none⟩ (.int .i64 nn)) = w7 at *
  have v0 : w7.cell? ⟨V, 0, none⟩ = some (.int .u8 4) := HD7.out.v.cell 0
  obtain ⟨i3, hi3, hz30, hz31, hz32⟩ := info_parts infoDl
  obtain ⟨n, hn, hn255⟩ := num1_nat st1
  have HM0 := Lib.hid (repM_nat (one := oneDealR) hn)
  have HN1 := Lib.hid hn
  have HG := Lib.hid (rByte_any (R + 1) st1 w7 HD7.out.rd)
  clear hn
  go_wp2_with fail
  refine (Calls.mono HG.out ?_)
  rintro e w8 ⟨rfl, h8, o8⟩
  rw [HN1.out]
  have HD8 := Lib.hid (HD7.out.read h8 o8)
  clear HG HD7 h8 o8 v0
  go_wp2_with fail
  go_loopw [7] (fun i wr => ∃ (j : Nat) (acc : List Dl) (t : RS) (vx : Value) (xs : List Value), j ≤ n ∧ i = .int .i64 j ∧ acc.length = j ∧ DSr w R (R + 1) V t #[.int .u8 4, .int .i64 0, .int .i64 nn, .slice none 0 0, .slice none 0 0, .slice none 0 0, vx] wr ∧ wr.ownsRow w.heap.size 41 2 vx j xs ∧ DAcc w.heap.size wr.heap.size wr xs acc ∧ repN oneDealR (n - j) t acc = repM oneDealR st1) (fun i _ => n - (intOf i).toNat)
  case atStart => exact ⟨0, [], _, _, [], Nat.zero_le _, rfl, rfl, HD8.out, World.ownsRow_nil _ _ _ _, DAcc.nil, HM0.out.symm⟩
  case round =>
    obtain ⟨j, acc, t, vx, xs, hj, rfl, hacc, hD, hO, hDA, hM⟩ := hrel
    clear HD8 HM0
    have f1 : wr.cell? ⟨R + 1, 1, none⟩ = some (.int .i64 t.e) := hD.rd.cell 1
    have v0 : wr.cell? ⟨V, 0, none⟩ = some (.int .u8 4) := hD.v.cell 0
    by_cases hlt : j < n
    · by_cases he : t.e = 0
      · obtain ⟨m, hm⟩ : ∃ m, n - j = m + 1 := ⟨n - j - 1, by omega⟩
        have hm' : n - (j + 1) = m := by omega
        rw [hm] at hM
        have hM2 := rep_step hM he
        change repN oneDealR m (repM RS.list (oneNum t).2).2 (acc ++ [((oneNum t).1, (repM RS.list (oneNum t).2).1)]) = _ at hM2
        have HA := Lib.hid (And.intro hacc (And.intro hD (And.intro hO (And.intro hDA (And.intro hM2 hm')))))
        have HC := Lib.hid (rnumc_any (R + 1) t wr hD.rd)
        have hjI : (j : Int) < (n : Int) := by omega
        have heq : (t.e == 0) = true := by rw [he]; rfl
        clear hacc hO hD hM hM2 hm hm' he hDA
        go_wp2_with fail
        refine (Calls.mono HC.out ?_)
        rintro e w4 ⟨rfl, h4, o4⟩
        have D4 := HA.out.2.1.read h4 o4
        have HQ := Lib.hid (And.intro D4 (And.intro (own_rr HA.out.2.2.1 HA.out.2.1.rd (by decide) o4) ((HA.out.2.2.2.1.kept (HA.out.2.1.kp_read o4)).more o4.size)))
        have hal := HA.out.1
        have HM := Lib.hid HA.out.2.2.2.2.1
        have hm' := HA.out.2.2.2.2.2
        clear h4 o4 D4 f1 v0 HC HA
        generalize (oneNum t).1 = x at *
        generalize (oneNum t).2 = s1 at *
        go_upto_region 20 with fail
        have K2 := rg_start (s2 := (repM RS.list s1).2) HQ.out.1 HQ.out.2.1 HQ.out.2.2
        refine' wp_region_invB _ (fun i v w' => (nkind (R + 1) V vx j (x, (repM RS.list s1).1) xs i).holds w.heap.size V w4.heap.size v w') (fun L w' => RG w R (R + 1) V s1 (repM RS.list s1).2 4 nn vx j xs acc w4.heap.size L w') (NR (R + 1) V vx) ?hA (by kernel_rfl) (by kernel_rfl) (by kernel_rfl) (K2.kept (Below.refl _ w4).drew rfl rfl rfl (by simp)) ?mono ?step ?fin
        case hA =>
          intro vs
          conv => lhs; simp only [fillL, Act.put, List.setIfInBounds_toArray, List.set_cons_zero, List.set_cons_succ, Nat.reduceAdd]
          try exact rfl
        case mono =>
          intro i k L v w1 w2 hne hLi hLk hg hT hr
          rcases hr with hb | ⟨rfl, ho⟩ | ⟨rfl, hg2⟩ | ⟨rfl, u, rfl⟩
          · exact DK.kept hT hb
          · obtain ⟨v6, hc, _⟩ := hg.v
            exact DK.only hT ho hg.rd hc
          · have h9 : k ≠ 9 := by
              rintro rfl
              have := hg.c97 hLk
              rw [hLi] at this
              cases this
            exact DK.grown hT (nkind_late hne h9) (fun q hq => (hg.hv q hq).2) hg2 (fun hb ht => hg.typed hLi hg2 hb ht)
          · obtain ⟨v6, hc, _⟩ := hg.v
            exact DK.poke hT (nkind_isC hne) hc
        case step =>
          refine StepsA.cons (fun L vs w1 hl hdl hg hd2 => ?_) ?_
          · refine opTo_of (by kernel_rfl) (fun K hK => ?_)
            go_simp
            exact hK.out (.pointer (some ⟨V, 6, none⟩)) _ _ (by kernel_rfl) ⟨hg.kept (Below.refl _ _) rfl rfl rfl (by simp), .inl (Below.refl _ _), rfl⟩
          refine StepsA.cons (fun L vs w1 hl hdl hg hd2 => ?_) ?_
          · have e0 : vs 0 = .pointer (some ⟨V, 6, none⟩) := hd2 0 (by decide)
            obtain ⟨v6, hc, h6⟩ := hg.v
            have h9 : L 9 = false := by
              cases h : L 9 with
              | false => rfl
              | true =>
                have := hg.c91 h
                rw [hl] at this
                cases this
            obtain rfl := h6 h9
            have f3 : w1.cell? ⟨V, 6, none⟩ = some v6 := hc.cell 6
            refine opTo_of (by kernel_rfl) (fun K hK => ?_)
            go_simp
            exact hK.out (v6) _ _ (by simp only [e0]; kernel_rfl) ⟨hg.kept (Below.refl _ _) rfl rfl rfl (by simp), .inl (Below.refl _ _), rfl⟩
          refine StepsA.cons (fun L vs w1 hl hdl hg hd2 => ?_) ?_
          · refine opTo_of (by kernel_rfl) (fun K hK => ?_)
            go_simp
            exact hK.out (.int .i64 x) _ _ (by kernel_rfl) ⟨hg.kept (Below.refl _ _) rfl rfl rfl (by simp), .inl (Below.refl _ _), rfl⟩
          refine StepsA.cons (fun L vs w1 hl hdl hg hd2 => ?_) ?_
          · refine opTo_of (by kernel_rfl) (fun K hK => ?_)
            go_simp
            exact hK.out (.pointer (some ⟨R + 1, 0, none⟩)) _ _ (by kernel_rfl) ⟨hg.kept (Below.refl _ _) rfl rfl rfl (by simp), .inl (Below.refl _ _), rfl⟩
          refine StepsA.cons (fun L vs w1 hl hdl hg hd2 => ?_) ?_
          · have e0 : vs 3 = .pointer (some ⟨R + 1, 0, none⟩) := hd2 3 (by decide)
            have hr1 : RrAt (R + 1) s1 w1 := by
              have := hg.rd
              rw [hl] at this
              exact this
            have HC := Lib.hid (told_any (R + 1) s1 w1 hr1)
            refine opTo_of (by kernel_rfl) (fun K hK => ?_)
            go_simp
            refine Calls.mono HC.out ?_
            rintro r w2 ⟨a, c, rfl, hls, hr2, o2⟩
            exact hK.out (.slice a (repM RS.list s1).1.length c) _ _ (by simp only [e0]; kernel_rfl) ⟨hg.told o2 hr2 rfl rfl rfl (by simp), .inr (.inl ⟨rfl, o2⟩), ⟨a, c, rfl, hls.more hg.bel.size (Nat.le_refl _)⟩⟩
          refine StepsA.cons (fun L vs w1 hl hdl hg hd2 => ?_) ?_
          · have e0 : vs 2 = .int .i64 x := hd2 2 (by decide)
            obtain ⟨a, c, e1, hls⟩ := hd2 4 (by decide)
            have e1 : vs 4 = .slice a (repM RS.list s1).1.length c := e1
            refine opTo_of (by kernel_rfl) (fun K hK => ?_)
            go_simp
            exact hK.out (.agg #[.int .i64 x, .slice a (repM RS.list s1).1.length c]) _ _ (by simp only [e0, e1]; kernel_rfl) ⟨hg.kept (Below.refl _ _) rfl rfl rfl (by simp), .inl (Below.refl _ _), ⟨a, c, rfl, hls⟩⟩
          refine StepsA.cons (fun L vs w1 hl hdl hg hd2 => ?_) ?_
          · obtain ⟨a, c, e1, hls⟩ := hd2 5 (by decide)
            have e1 : vs 5 = .agg #[.int .i64 x, .slice a (repM RS.list s1).1.length c] := e1
            refine opTo_of (by kernel_rfl) (fun K hK => ?_)
            go_simp
            exact hK.out (.slice (some ⟨w1.heap.size, 0, none⟩) 1 1) _ _ (by simp only [e1]; kernel_rfl) ⟨hg.kept ((Below.refl _ w1).alloc (Nat.le_refl _) _) rfl rfl rfl (by simp), .inl ((Below.refl _ w1).alloc (Nat.le_refl _) _), ⟨w1.heap.size, a, c, rfl, hg.hH, Blk.new w1 _ _, hls.fresh ((Below.refl _ w1).alloc (Nat.le_refl _) _)⟩⟩
          refine StepsA.cons (fun L vs w1 hl hdl hg hd2 => ?_) ?_
          · have e0 : vs 1 = vx := hd2 1 (by decide)
            obtain ⟨q, a, c, e1, hq, hbk, hls⟩ := hd2 6 (by decide)
            have e1 : vs 6 = .slice (some ⟨q, 0, none⟩) 1 1 := e1
            exact opTo_append rfl (.tmp 87) (.tmp 92) rfl w.heap.size i3 (.agg #[.int .i64 0, .slice none 0 0]) 2 32 Tryz.underlying25 hi3 hz30 hz31 hz32 rfl (by decide) vx j xs e0 (hg.own hl) ⟨q, 0, none⟩ 1 1 [.int .i64 x, .slice a (repM RS.list s1).1.length c] e1 rfl (two_cells hbk) (two_dl x a (repM RS.list s1).1.length c) (by unfold maxLen; omega) (by omega) hg.bel.size fun v' w2 own2 g2 => ⟨hg.grown hl g2 rfl rfl rfl (by simp), .inr (.inr (.inl ⟨rfl, g2⟩)), ⟨a, c, own2, hls.typed g2.size (fun hb ht => hg.typed hl g2 hb ht)⟩⟩
          refine StepsA.cons (fun L vs w1 hl hdl hg hd2 => ?_) ?_
          · refine opTo_of (by kernel_rfl) (fun K hK => ?_)
            go_simp
            exact hK.out (.pointer (some ⟨V, 6, none⟩)) _ _ (by kernel_rfl) ⟨hg.kept (Below.refl _ _) rfl rfl rfl (by simp), .inl (Below.refl _ _), rfl⟩
          refine StepsA.cons (fun L vs w1 hl hdl hg hd2 => ?_) ?_
          · have e0 : vs 8 = .pointer (some ⟨V, 6, none⟩) := hd2 8 (by decide)
            obtain ⟨a, c, own2, hls⟩ := hd2 7 (by decide)
            obtain ⟨a4, c4, e1⟩ := own_slice own2
            have e1 : vs 7 = .slice a4 (j + 1) c4 := e1
            rw [e1] at own2
            obtain ⟨v6, hc, -⟩ := hg.v
            have f3 : w1.cell? ⟨V, 6, none⟩ = some v6 := hc.cell 6
            have z3 := hc.frozen 6
            have hlt3 := hc.lt
            refine opTo_of (by kernel_rfl) (fun K hK => ?_)
            go_simp
            exact hK.out undef _ _ (by simp only [e0, e1]; kernel_rfl) ⟨hg.poke (hdl 7 (by decide)) rfl rfl rfl (by simp [hdl 1 (by decide)]), .inr (.inr (.inr ⟨rfl, _, rfl⟩)), ⟨_, a, c, (hc.set_ 6 _).cell 6, own_setc own2 hc (by decide) _, hls.poke hc 6 _⟩⟩
          exact StepsA.nil
        case fin =>
          intro L vs w1 hL1 hg hT
          obtain ⟨u, a, c, x6, own6, ol6⟩ := hT 9 (by decide)
          have HK1 := Lib.hid (rg_done hg (hL1 4 (by decide)) x6 own6 ol6)
          clear hg hT x6 own6 ol6 HQ K2
          go_wp2_with fail
          go_roundw
          case rel => exact ⟨j + 1, acc ++ [(x, (repM RS.list s1).1)], (repM RS.list s1).2, u, _, by omega, by go_num, by simp [hal], HK1.out.1, HK1.out.2.1, HK1.out.2.2, by rw [hm']; exact HM.out⟩
          case measure => simp [intOf]; omega
      · have hd : (t.e == 0) = false := by simpa using he
        have hjI : (j : Int) < (n : Int) := by omega
        have HE2 := Lib.hid (show rread s = (⟨4, 0, nn, [], [], [], acc⟩, t) by rw [HE.out, rep_stop hM he])
        obtain ⟨a, c, rfl⟩ := own_slice hO
        have HD9 := Lib.hid (And.intro hD (show OEn w.heap.size wr.heap.size wr ⟨4, 0, nn, [], [], [], acc⟩ ⟨none, 0, none, 0, none, 0, a, c⟩ from ⟨.inl rfl, .inl rfl, .inl rfl, ODls.of_own hO hDA⟩))
        subst hacc
        clear he hO hM hD hDA HE f1
        have f1 : wr.cell? ⟨R + 1, 1, none⟩ = some (.int .i64 t.e) := HD9.out.1.rd.cell 1
        have u0 : wr.cell? ⟨V, 0, none⟩ = some (.int .u8 4) := HD9.out.1.v.cell 0
        have u1 : wr.cell? ⟨V, 1, none⟩ = some (.int .i64 0) := HD9.out.1.v.cell 1
        have u2 : wr.cell? ⟨V, 2, none⟩ = some (.int .i64 nn) := HD9.out.1.v.cell 2
        have u3 : wr.cell? ⟨V, 3, none⟩ = some (.slice none 0 0) := HD9.out.1.v.cell 3
        have u4 : wr.cell? ⟨V, 4, none⟩ = some (.slice none 0 0) := HD9.out.1.v.cell 4
        have u5 : wr.cell? ⟨V, 5, none⟩ = some (.slice none 0 0) := HD9.out.1.v.cell 5
        have u6 : wr.cell? ⟨V, 6, none⟩ = some (.slice a acc.length c) := HD9.out.1.v.cell 6
        have hEN : rread s = (⟨4, 0, nn, [], [], [], acc⟩, t) := HE2.out
        have ok9 := HJ.out
        have li9 := HK.out
        rw [hEN] at ok9 li9
        have HEc := Lib.hid (renc_any ⟨4, 0, nn, [], [], [], acc⟩ ⟨none, 0, none, 0, none, 0, a, c⟩ wr ok9 li9 (OEn.nums HD9.out.2))
        obtain ⟨S, x, hx⟩ : ∃ S x, eenc ⟨4, 0, nn, [], [], [], acc⟩ = (S, x) := ⟨_, _, rfl⟩
        have HX := Lib.hid hx
        have HN := Lib.hid hEN
        clear hx hEN ok9 li9
        go_wp2_with fail
        refine (Calls.mono HEc.out ?_)
        rintro e w8 ⟨rfl, b8⟩
        rw [HX.out]
        have D8 := HD9.out.1.below b8
        have u0 : w8.cell? ⟨V, 0, none⟩ = some (.int .u8 4) := D8.v.cell 0
        have u1 : w8.cell? ⟨V, 1, none⟩ = some (.int .i64 0) := D8.v.cell 1
        have u2 : w8.cell? ⟨V, 2, none⟩ = some (.int .i64 nn) := D8.v.cell 2
        have u3 : w8.cell? ⟨V, 3, none⟩ = some (.slice none 0 0) := D8.v.cell 3
        have u4 : w8.cell? ⟨V, 4, none⟩ = some (.slice none 0 0) := D8.v.cell 4
        have u5 : w8.cell? ⟨V, 5, none⟩ = some (.slice none 0 0) := D8.v.cell 5
        have u6 : w8.cell? ⟨V, 6, none⟩ = some (.slice a acc.length c) := D8.v.cell 6
        have HD8 := Lib.hid (And.intro D8 ((HD9.out.2.kept (Kp.of_below b8 (Nat.le_refl _))).more (Nat.le_refl _) b8.size))
        have HF := Lib.hid (rend_any (R + 1) t w8 D8.rd)
        clear b8 D8 HEc
        go_wp2_with fail
        refine (Calls.mono HF.out ?_)
        rintro e w9 ⟨rfl, h9', o9⟩
        have D9 := HD8.out.1.read h9' o9
        have HDz := Lib.hid (And.intro D9 (HD8.out.1.oen_read HD8.out.2 o9))
        obtain ⟨r0, r1, r2, r3, r4, r5, r6⟩ := D9.r.seven
        obtain ⟨y0, y1, y2, y3, y4, y5, y6⟩ := D9.r.seven_f
        have u0 : w9.cell? ⟨V, 0, none⟩ = some (.int .u8 4) := D9.v.cell 0
        have u1 : w9.cell? ⟨V, 1, none⟩ = some (.int .i64 0) := D9.v.cell 1
        have u2 : w9.cell? ⟨V, 2, none⟩ = some (.int .i64 nn) := D9.v.cell 2
        have u3 : w9.cell? ⟨V, 3, none⟩ = some (.slice none 0 0) := D9.v.cell 3
        have u4 : w9.cell? ⟨V, 4, none⟩ = some (.slice none 0 0) := D9.v.cell 4
        have u5 : w9.cell? ⟨V, 5, none⟩ = some (.slice none 0 0) := D9.v.cell 5
        have u6 : w9.cell? ⟨V, 6, none⟩ = some (.slice a acc.length c) := D9.v.cell 6
        clear HF HD8 h9' o9 D9
        by_cases hf : t.fin.e = 0
        · by_cases hq : x = 0
          · by_cases hs : S = s
            · have HQ := Lib.hid (rdec_good HL.out (by rw [HN.out]; exact hf) (by rw [HN.out]; dsimp only; rw [HX.out]; exact hq) (by rw [HN.out]; dsimp only; rw [HX.out]; exact hs))
              have g1 : (t.fin.e != 0) = false := by simpa using hf
              have g2 : (x != 0) = false := by simpa using hq
              have g3 : (S != s) = false := by simpa using hs
              have g4 : (S == s) = true := by simpa using hs
              clear hf hq hs
              go_wp2_with fail
              refine bodyPost_ret (v := .tuple #[.agg #[.int .u8 4, .int .i64 0, .int .i64 nn, .slice none 0 0, .slice none 0 0, .slice none 0 0, .slice a acc.length c], .int .i64 0]) (by simp [results, Tryz.results10, go_sem, r0, r1, r2, r3, r4, r5, r6]) rfl ?_
              rw [HQ.out, HN.out]
              refine ⟨⟨none, 0, none, 0, none, 0, a, c⟩, rfl, set7_oen HDz.out.2 HDz.out.1.r _ _ _ _ _ _ _, set7_below HDz.out.1.bel ?_ _ _ _ _ _ _ _⟩
              rw [HR.out]
              exact Nat.le_refl _
            · have HQ := Lib.hid (rdec_bad HL.out (.inr (.inr (by rw [HN.out]; dsimp only; rw [HX.out]; exact hs))))
              have g1 : (t.fin.e != 0) = false := by simpa using hf
              have g2 : (x != 0) = false := by simpa using hq
              have g3 : (S != s) = true := by simpa using hs
              have g4 : (S == s) = false := by simpa using hs
              clear hf hq hs
              go_wp2_with fail
              refine bodyPost_ret (v := .tuple #[.agg #[.int .u8 0, .int .i64 0, .int .i64 0, .slice none 0 0, .slice none 0 0, .slice none 0 0, .slice none 0 0], .int .i64 4]) (by simp [results, Tryz.results10, go_sem, r0, r1, r2, r3, r4, r5, r6]) rfl ?_
              rw [HQ.out]
              refine ⟨Ad.none, rfl, oen_zero, set7_below HDz.out.1.bel ?_ _ _ _ _ _ _ _⟩
              rw [HR.out]
              exact Nat.le_refl _
          · have HQ := Lib.hid (rdec_bad HL.out (.inr (.inl (by rw [HN.out]; dsimp only; rw [HX.out]; exact hq))))
            have g1 : (t.fin.e != 0) = false := by simpa using hf
            have g2 : (x != 0) = true := by simpa using hq
            clear hf hq
            go_wp2_with fail
            refine bodyPost_ret (v := .tuple #[.agg #[.int .u8 0, .int .i64 0, .int .i64 0, .slice none 0 0, .slice none 0 0, .slice none 0 0, .slice none 0 0], .int .i64 4]) (by simp [results, Tryz.results10, go_sem, r0, r1, r2, r3, r4, r5, r6]) rfl ?_
            rw [HQ.out]
            refine ⟨Ad.none, rfl, oen_zero, set7_below HDz.out.1.bel ?_ _ _ _ _ _ _ _⟩
            rw [HR.out]
            exact Nat.le_refl _
        · have HQ := Lib.hid (rdec_bad HL.out (.inl (by rw [HN.out]; exact hf)))
          have g1 : (t.fin.e != 0) = true := by simpa using hf
          clear hf
          go_wp2_with fail
          refine bodyPost_ret (v := .tuple #[.agg #[.int .u8 0, .int .i64 0, .int .i64 0, .slice none 0 0, .slice none 0 0, .slice none 0 0, .slice none 0 0], .int .i64 4]) (by simp [results, Tryz.results10, go_sem, r0, r1, r2, r3, r4, r5, r6]) rfl ?_
          rw [HQ.out]
          refine ⟨Ad.none, rfl, oen_zero, set7_below HDz.out.1.bel ?_ _ _ _ _ _ _ _⟩
          rw [HR.out]
          exact Nat.le_refl _
    · have hje : j = n := by omega
      have hjI : decide ((j : Int) < (n : Int)) = false := decide_eq_false (by omega)
      subst hje
      rw [Nat.sub_self] at hM
      have hM : (acc, t) = repM oneDealR st1 := hM
      have HE2 := Lib.hid (show rread s = (⟨4, 0, nn, [], [], [], acc⟩, t) by rw [HE.out, ← hM])
      obtain ⟨a, c, rfl⟩ := own_slice hO
      have HD9 := Lib.hid (And.intro hD (show OEn w.heap.size wr.heap.size wr ⟨4, 0, nn, [], [], [], acc⟩ ⟨none, 0, none, 0, none, 0, a, c⟩ from ⟨.inl rfl, .inl rfl, .inl rfl, ODls.of_own hO hDA⟩))
      subst hacc
      clear hO hM hD hDA HE
      have u0 : wr.cell? ⟨V, 0, none⟩ = some (.int .u8 4) := HD9.out.1.v.cell 0
      have u1 : wr.cell? ⟨V, 1, none⟩ = some (.int .i64 0) := HD9.out.1.v.cell 1
      have u2 : wr.cell? ⟨V, 2, none⟩ = some (.int .i64 nn) := HD9.out.1.v.cell 2
      have u3 : wr.cell? ⟨V, 3, none⟩ = some (.slice none 0 0) := HD9.out.1.v.cell 3
      have u4 : wr.cell? ⟨V, 4, none⟩ = some (.slice none 0 0) := HD9.out.1.v.cell 4
      have u5 : wr.cell? ⟨V, 5, none⟩ = some (.slice none 0 0) := HD9.out.1.v.cell 5
      have u6 : wr.cell? ⟨V, 6, none⟩ = some (.slice a acc.length c) := HD9.out.1.v.cell 6
      have hEN : rread s = (⟨4, 0, nn, [], [], [], acc⟩, t) := HE2.out
      have ok9 := HJ.out
      have li9 := HK.out
      rw [hEN] at ok9 li9
      have HEc := Lib.hid (renc_any ⟨4, 0, nn, [], [], [], acc⟩ ⟨none, 0, none, 0, none, 0, a, c⟩ wr ok9 li9 (OEn.nums HD9.out.2))
      obtain ⟨S, x, hx⟩ : ∃ S x, eenc ⟨4, 0, nn, [], [], [], acc⟩ = (S, x) := ⟨_, _, rfl⟩
      have HX := Lib.hid hx
      have HN := Lib.hid hEN
      clear hx hEN ok9 li9
      go_wp2_with fail
      refine (Calls.mono HEc.out ?_)
      rintro e w8 ⟨rfl, b8⟩
      rw [HX.out]
      have D8 := HD9.out.1.below b8
      have u0 : w8.cell? ⟨V, 0, none⟩ = some (.int .u8 4) := D8.v.cell 0
      have u1 : w8.cell? ⟨V, 1, none⟩ = some (.int .i64 0) := D8.v.cell 1
      have u2 : w8.cell? ⟨V, 2, none⟩ = some (.int .i64 nn) := D8.v.cell 2
      have u3 : w8.cell? ⟨V, 3, none⟩ = some (.slice none 0 0) := D8.v.cell 3
      have u4 : w8.cell? ⟨V, 4, none⟩ = some (.slice none 0 0) := D8.v.cell 4
      have u5 : w8.cell? ⟨V, 5, none⟩ = some (.slice none 0 0) := D8.v.cell 5
      have u6 : w8.cell? ⟨V, 6, none⟩ = some (.slice a acc.length c) := D8.v.cell 6
      have HD8 := Lib.hid (And.intro D8 ((HD9.out.2.kept (Kp.of_below b8 (Nat.le_refl _))).more (Nat.le_refl _) b8.size))
      have HF := Lib.hid (rend_any (R + 1) t w8 D8.rd)
      clear b8 D8 HEc
      go_wp2_with fail
      refine (Calls.mono HF.out ?_)
      rintro e w9 ⟨rfl, h9', o9⟩
      have D9 := HD8.out.1.read h9' o9
      have HDz := Lib.hid (And.intro D9 (HD8.out.1.oen_read HD8.out.2 o9))
      obtain ⟨r0, r1, r2, r3, r4, r5, r6⟩ := D9.r.seven
      obtain ⟨y0, y1, y2, y3, y4, y5, y6⟩ := D9.r.seven_f
      have u0 : w9.cell? ⟨V, 0, none⟩ = some (.int .u8 4) := D9.v.cell 0
      have u1 : w9.cell? ⟨V, 1, none⟩ = some (.int .i64 0) := D9.v.cell 1
      have u2 : w9.cell? ⟨V, 2, none⟩ = some (.int .i64 nn) := D9.v.cell 2
      have u3 : w9.cell? ⟨V, 3, none⟩ = some (.slice none 0 0) := D9.v.cell 3
      have u4 : w9.cell? ⟨V, 4, none⟩ = some (.slice none 0 0) := D9.v.cell 4
      have u5 : w9.cell? ⟨V, 5, none⟩ = some (.slice none 0 0) := D9.v.cell 5
      have u6 : w9.cell? ⟨V, 6, none⟩ = some (.slice a acc.length c) := D9.v.cell 6
      clear HF HD8 h9' o9 D9
      by_cases hf : t.fin.e = 0
      · by_cases hq : x = 0
        · by_cases hs : S = s
          · have HQ := Lib.hid (rdec_good HL.out (by rw [HN.out]; exact hf) (by rw [HN.out]; dsimp only; rw [HX.out]; exact hq) (by rw [HN.out]; dsimp only; rw [HX.out]; exact hs))
            have g1 : (t.fin.e != 0) = false := by simpa using hf
            have g2 : (x != 0) = false := by simpa using hq
            have g3 : (S != s) = false := by simpa using hs
            have g4 : (S == s) = true := by simpa using hs
            clear hf hq hs
            go_wp2_with fail
            refine bodyPost_ret (v := .tuple #[.agg #[.int .u8 4, .int .i64 0, .int .i64 nn, .slice none 0 0, .slice none 0 0, .slice none 0 0, .slice a acc.length c], .int .i64 0]) (by simp [results, Tryz.results10, go_sem, r0, r1, r2, r3, r4, r5, r6]) rfl ?_
            rw [HQ.out, HN.out]
            refine ⟨⟨none, 0, none, 0, none, 0, a, c⟩, rfl, set7_oen HDz.out.2 HDz.out.1.r _ _ _ _ _ _ _, set7_below HDz.out.1.bel ?_ _ _ _ _ _ _ _⟩
            rw [HR.out]
            exact Nat.le_refl _
          · have HQ := Lib.hid (rdec_bad HL.out (.inr (.inr (by rw [HN.out]; dsimp only; rw [HX.out]; exact hs))))
            have g1 : (t.fin.e != 0) = false := by simpa using hf
            have g2 : (x != 0) = false := by simpa using hq
            have g3 : (S != s) = true := by simpa using hs
            have g4 : (S == s) = false := by simpa using hs
            clear hf hq hs
            go_wp2_with fail
            refine bodyPost_ret (v := .tuple #[.agg #[.int .u8 0, .int .i64 0, .int .i64 0, .slice none 0 0, .slice none 0 0, .slice none 0 0, .slice none 0 0], .int .i64 4]) (by simp [results, Tryz.results10, go_sem, r0, r1, r2, r3, r4, r5, r6]) rfl ?_
            rw [HQ.out]
            refine ⟨Ad.none, rfl, oen_zero, set7_below HDz.out.1.bel ?_ _ _ _ _ _ _ _⟩
            rw [HR.out]
            exact Nat.le_refl _
        · have HQ := Lib.hid (rdec_bad HL.out (.inr (.inl (by rw [HN.out]; dsimp only; rw [HX.out]; exact hq))))
          have g1 : (t.fin.e != 0) = false := by simpa using hf
          have g2 : (x != 0) = true := by simpa using hq
          clear hf hq
          go_wp2_with fail
          refine bodyPost_ret (v := .tuple #[.agg #[.int .u8 0, .int .i64 0, .int .i64 0, .slice none 0 0, .slice none 0 0, .slice none 0 0, .slice none 0 0], .int .i64 4]) (by simp [results, Tryz.results10, go_sem, r0, r1, r2, r3, r4, r5, r6]) rfl ?_
          rw [HQ.out]
          refine ⟨Ad.none, rfl, oen_zero, set7_below HDz.out.1.bel ?_ _ _ _ _ _ _ _⟩
          rw [HR.out]
          exact Nat.le_refl _
      · have HQ := Lib.hid (rdec_bad HL.out (.inl (by rw [HN.out]; exact hf)))
        have g1 : (t.fin.e != 0) = true := by simpa using hf
        clear hf
        go_wp2_with fail
        refine bodyPost_ret (v := .tuple #[.agg #[.int .u8 0, .int .i64 0, .int .i64 0, .slice none 0 0, .slice none 0 0, .slice none 0 0, .slice none 0 0], .int .i64 4]) (by simp [results, Tryz.results10, go_sem, r0, r1, r2, r3, r4, r5, r6]) rfl ?_
        rw [HQ.out]
        refine ⟨Ad.none, rfl, oen_zero, set7_below HDz.out.1.bel ?_ _ _ _ _ _ _ _⟩
        rw [HR.out]
        exact Nat.le_refl _

set_option maxRecDepth 100000 in
set_option maxHeartbeats 4000000 in
theorem rdec_o (s : List UInt8) (w : World) (h : s.length ≤ 2048) (hk : 5 ≤ (RS.num 1 ⟨s, 0⟩).1) : Calls Tryz.prog 10 #[.string ⟨s.toArray⟩] w (EnPost (rdec s).1 (rdec s).2 w) := by
  have HE := Lib.hid (rread_o hk)
  have h9 : s.length ≤ 9223372036854775807 := by omega
  have hd : decide ((2048 : Int) < (s.length : Int)) = false := decide_eq_false (by omega)
  have HO := Lib.hid (ropen_any s (w.alloc (.cells #[.int .u8 0, .int .i64 0, .int .i64 0, .slice none 0 0, .slice none 0 0, .slice none 0 0, .slice none 0 0] 27)))
  have HL := Lib.hid h
  have HK := Lib.hid (rread_lim s)
  have HJ := Lib.hid (rread_ok s).1
  clear h
  go_enter Tryz.func10, Tryz.ntmps10
  go_wp2_with fail
  refine (Calls.mono HO.out ?_)
  rintro e w1 ⟨rfl, h1, b1⟩
  simp only [asz] at h1 b1 ⊢
  have HD := Lib.hid (DSr.make b1 h1)
  clear h1 b1 HO hd
  go_upto_region 5 with fail
  obtain ⟨W1, hW1⟩ : ∃ W1, W1 = w1.alloc (.cells #[.int .u8 0, .int .i64 0, .int .i64 0, .slice none 0 0, .slice none 0 0, .slice none 0 0, .slice none 0 0] 27) := ⟨_, rfl⟩
  have HD1 : DSr w w.heap.size (w.heap.size + 1) w1.heap.size ⟨s, 0⟩ zero7 W1 := by rw [hW1]; exact HD.out
  rw [← hW1]
  have HW := Lib.hid hW1
  clear HD hW1 HW
  generalize w1.heap.size = V at *
  generalize hRR : w.heap.size = R at HD1 ⊢
  have HR := Lib.hid hRR
  clear hRR
  have HB := Lib.hid (rByte_any (R + 1) ⟨s, 0⟩ W1 HD1.rd)
  have HD2 := Lib.hid HD1
  clear HD1
  go_wp2_with fail
  refine (Calls.mono HB.out ?_)
  rintro e w2 ⟨rfl, h2, o2⟩
  have D2 := HD2.out.read h2 o2
  have v0 : w2.cell? ⟨V, 0, none⟩ = some (.int .u8 0) := D2.v.cell 0
  have z0 := D2.v.frozen 0
  have HD3 := Lib.hid (D2.set_ 0 (.int .u8 (RS.num 1 ⟨s, 0⟩).1))
  clear HB HD2 h2 o2 D2
  go_upto_region 6 with fail
  clear v0 z0
  generalize (RS.num 1 ⟨s, 0⟩).2 = st1 at *
  generalize (RS.num 1 ⟨s, 0⟩).1 = kk at *
  generalize (w2.setCell ⟨V, 0, none⟩ (.int .u8 kk)) = w7 at *
  have HD7 := Lib.hid (show DSr w R (R + 1) V st1 #[.int .u8 kk, .int .i64 0, .int .i64 0, .slice none 0 0, .slice none 0 0, .slice none 0 0, .slice none 0 0] w7 from HD3.out)
  have k1 : (kk == 1) = false := by simp; omega
  have k2 : (kk == 2) = false := by simp; omega
  have k3 : (kk == 3) = false := by simp; omega
  have k4 : (kk == 4) = false := by simp; omega
  have k5 : decide ((1 : Int) < kk) = true := decide_eq_true (by omega)
  clear HD3 hk
  have v0 : w7.cell? ⟨V, 0, none⟩ = some (.int .u8 kk) := HD7.out.v.cell 0
  obtain ⟨i3, hi3, hz30, hz31, hz32⟩ := info_parts infoDl
  obtain ⟨n, hn, hn255⟩ := num1_nat st1
  have HM0 := Lib.hid (repM_nat (one := oneDealR) hn)
  have HN1 := Lib.hid hn
  have HG := Lib.hid (rByte_any (R + 1) st1 w7 HD7.out.rd)
  clear hn
  go_wp2_with fail
  refine (Calls.mono HG.out ?_)
  rintro e w8 ⟨rfl, h8, o8⟩
  rw [HN1.out]
  have HD8 := Lib.hid (HD7.out.read h8 o8)
  clear HG HD7 h8 o8 v0
  go_wp2_with fail
  go_loopw [7] (fun i wr => ∃ (j : Nat) (acc : List Dl) (t : RS) (vx : Value) (xs : List Value), j ≤ n ∧ i = .int .i64 j ∧ acc.length = j ∧ DSr w R (R + 1) V t #[.int .u8 kk, .int .i64 0, .int .i64 0, .slice none 0 0, .slice none 0 0, .slice none 0 0, vx] wr ∧ wr.ownsRow w.heap.size 41 2 vx j xs ∧ DAcc w.heap.size wr.heap.size wr xs acc ∧ repN oneDealR (n - j) t acc = repM oneDealR st1) (fun i _ => n - (intOf i).toNat)
  case atStart => exact ⟨0, [], _, _, [], Nat.zero_le _, rfl, rfl, HD8.out, World.ownsRow_nil _ _ _ _, DAcc.nil, HM0.out.symm⟩
  case round =>
    obtain ⟨j, acc, t, vx, xs, hj, rfl, hacc, hD, hO, hDA, hM⟩ := hrel
    clear HD8 HM0
    have f1 : wr.cell? ⟨R + 1, 1, none⟩ = some (.int .i64 t.e) := hD.rd.cell 1
    have v0 : wr.cell? ⟨V, 0, none⟩ = some (.int .u8 kk) := hD.v.cell 0
    by_cases hlt : j < n
    · by_cases he : t.e = 0
      · obtain ⟨m, hm⟩ : ∃ m, n - j = m + 1 := ⟨n - j - 1, by omega⟩
        have hm' : n - (j + 1) = m := by omega
        rw [hm] at hM
        have hM2 := rep_step hM he
        change repN oneDealR m (repM RS.list (oneNum t).2).2 (acc ++ [((oneNum t).1, (repM RS.list (oneNum t).2).1)]) = _ at hM2
        have HA := Lib.hid (And.intro hacc (And.intro hD (And.intro hO (And.intro hDA (And.intro hM2 hm')))))
        have HC := Lib.hid (rnumc_any (R + 1) t wr hD.rd)
        have hjI : (j : Int) < (n : Int) := by omega
        have heq : (t.e == 0) = true := by rw [he]; rfl
        clear hacc hO hD hM hM2 hm hm' he hDA
        go_wp2_with fail
        refine (Calls.mono HC.out ?_)
        rintro e w4 ⟨rfl, h4, o4⟩
        have D4 := HA.out.2.1.read h4 o4
        have HQ := Lib.hid (And.intro D4 (And.intro (own_rr HA.out.2.2.1 HA.out.2.1.rd (by decide) o4) ((HA.out.2.2.2.1.kept (HA.out.2.1.kp_read o4)).more o4.size)))
        have hal := HA.out.1
        have HM := Lib.hid HA.out.2.2.2.2.1
        have hm' := HA.out.2.2.2.2.2
        clear h4 o4 D4 f1 v0 HC HA
        generalize (oneNum t).1 = x at *
        generalize (oneNum t).2 = s1 at *
        go_upto_region 20 with fail
        have K2 := rg_start (s2 := (repM RS.list s1).2) HQ.out.1 HQ.out.2.1 HQ.out.2.2
        refine' wp_region_invB _ (fun i v w' => (nkind (R + 1) V vx j (x, (repM RS.list s1).1) xs i).holds w.heap.size V w4.heap.size v w') (fun L w' => RG w R (R + 1) V s1 (repM RS.list s1).2 kk 0 vx j xs acc w4.heap.size L w') (NR (R + 1) V vx) ?hA (by kernel_rfl) (by kernel_rfl) (by kernel_rfl) (K2.kept (Below.refl _ w4).drew rfl rfl rfl (by simp)) ?mono ?step ?fin
        case hA =>
          intro vs
          conv => lhs; simp only [fillL, Act.put, List.setIfInBounds_toArray, List.set_cons_zero, List.set_cons_succ, Nat.reduceAdd]
          try exact rfl
        case mono =>
          intro i k L v w1 w2 hne hLi hLk hg hT hr
          rcases hr with hb | ⟨rfl, ho⟩ | ⟨rfl, hg2⟩ | ⟨rfl, u, rfl⟩
          · exact DK.kept hT hb
          · obtain ⟨v6, hc, _⟩ := hg.v
            exact DK.only hT ho hg.rd hc
          · have h9 : k ≠ 9 := by
              rintro rfl
              have := hg.c97 hLk
              rw [hLi] at this
              cases this
            exact DK.grown hT (nkind_late hne h9) (fun q hq => (hg.hv q hq).2) hg2 (fun hb ht => hg.typed hLi hg2 hb ht)
          · obtain ⟨v6, hc, _⟩ := hg.v
            exact DK.poke hT (nkind_isC hne) hc
        case step =>
          refine StepsA.cons (fun L vs w1 hl hdl hg hd2 => ?_) ?_
          · refine opTo_of (by kernel_rfl) (fun K hK => ?_)
            go_simp
            exact hK.out (.pointer (some ⟨V, 6, none⟩)) _ _ (by kernel_rfl) ⟨hg.kept (Below.refl _ _) rfl rfl rfl (by simp), .inl (Below.refl _ _), rfl⟩
          refine StepsA.cons (fun L vs w1 hl hdl hg hd2 => ?_) ?_
          · have e0 : vs 0 = .pointer (some ⟨V, 6, none⟩) := hd2 0 (by decide)
            obtain ⟨v6, hc, h6⟩ := hg.v
            have h9 : L 9 = false := by
              cases h : L 9 with
              | false => rfl
              | true =>
                have := hg.c91 h
                rw [hl] at this
                cases this
            obtain rfl := h6 h9
            have f3 : w1.cell? ⟨V, 6, none⟩ = some v6 := hc.cell 6
            refine opTo_of (by kernel_rfl) (fun K hK => ?_)
            go_simp
            exact hK.out (v6) _ _ (by simp only [e0]; kernel_rfl) ⟨hg.kept (Below.refl _ _) rfl rfl rfl (by simp), .inl (Below.refl _ _), rfl⟩
          refine StepsA.cons (fun L vs w1 hl hdl hg hd2 => ?_) ?_
          · refine opTo_of (by kernel_rfl) (fun K hK => ?_)
            go_simp
            exact hK.out (.int .i64 x) _ _ (by kernel_rfl) ⟨hg.kept (Below.refl _ _) rfl rfl rfl (by simp), .inl (Below.refl _ _), rfl⟩
          refine StepsA.cons (fun L vs w1 hl hdl hg hd2 => ?_) ?_
          · refine opTo_of (by kernel_rfl) (fun K hK => ?_)
            go_simp
            exact hK.out (.pointer (some ⟨R + 1, 0, none⟩)) _ _ (by kernel_rfl) ⟨hg.kept (Below.refl _ _) rfl rfl rfl (by simp), .inl (Below.refl _ _), rfl⟩
          refine StepsA.cons (fun L vs w1 hl hdl hg hd2 => ?_) ?_
          · have e0 : vs 3 = .pointer (some ⟨R + 1, 0, none⟩) := hd2 3 (by decide)
            have hr1 : RrAt (R + 1) s1 w1 := by
              have := hg.rd
              rw [hl] at this
              exact this
            have HC := Lib.hid (told_any (R + 1) s1 w1 hr1)
            refine opTo_of (by kernel_rfl) (fun K hK => ?_)
            go_simp
            refine Calls.mono HC.out ?_
            rintro r w2 ⟨a, c, rfl, hls, hr2, o2⟩
            exact hK.out (.slice a (repM RS.list s1).1.length c) _ _ (by simp only [e0]; kernel_rfl) ⟨hg.told o2 hr2 rfl rfl rfl (by simp), .inr (.inl ⟨rfl, o2⟩), ⟨a, c, rfl, hls.more hg.bel.size (Nat.le_refl _)⟩⟩
          refine StepsA.cons (fun L vs w1 hl hdl hg hd2 => ?_) ?_
          · have e0 : vs 2 = .int .i64 x := hd2 2 (by decide)
            obtain ⟨a, c, e1, hls⟩ := hd2 4 (by decide)
            have e1 : vs 4 = .slice a (repM RS.list s1).1.length c := e1
            refine opTo_of (by kernel_rfl) (fun K hK => ?_)
            go_simp
            exact hK.out (.agg #[.int .i64 x, .slice a (repM RS.list s1).1.length c]) _ _ (by simp only [e0, e1]; kernel_rfl) ⟨hg.kept (Below.refl _ _) rfl rfl rfl (by simp), .inl (Below.refl _ _), ⟨a, c, rfl, hls⟩⟩
          refine StepsA.cons (fun L vs w1 hl hdl hg hd2 => ?_) ?_
          · obtain ⟨a, c, e1, hls⟩ := hd2 5 (by decide)
            have e1 : vs 5 = .agg #[.int .i64 x, .slice a (repM RS.list s1).1.length c] := e1
            refine opTo_of (by kernel_rfl) (fun K hK => ?_)
            go_simp
            exact hK.out (.slice (some ⟨w1.heap.size, 0, none⟩) 1 1) _ _ (by simp only [e1]; kernel_rfl) ⟨hg.kept ((Below.refl _ w1).alloc (Nat.le_refl _) _) rfl rfl rfl (by simp), .inl ((Below.refl _ w1).alloc (Nat.le_refl _) _), ⟨w1.heap.size, a, c, rfl, hg.hH, Blk.new w1 _ _, hls.fresh ((Below.refl _ w1).alloc (Nat.le_refl _) _)⟩⟩
          refine StepsA.cons (fun L vs w1 hl hdl hg hd2 => ?_) ?_
          · have e0 : vs 1 = vx := hd2 1 (by decide)
            obtain ⟨q, a, c, e1, hq, hbk, hls⟩ := hd2 6 (by decide)
            have e1 : vs 6 = .slice (some ⟨q, 0, none⟩) 1 1 := e1
            exact opTo_append rfl (.tmp 87) (.tmp 92) rfl w.heap.size i3 (.agg #[.int .i64 0, .slice none 0 0]) 2 32 Tryz.underlying25 hi3 hz30 hz31 hz32 rfl (by decide) vx j xs e0 (hg.own hl) ⟨q, 0, none⟩ 1 1 [.int .i64 x, .slice a (repM RS.list s1).1.length c] e1 rfl (two_cells hbk) (two_dl x a (repM RS.list s1).1.length c) (by unfold maxLen; omega) (by omega) hg.bel.size fun v' w2 own2 g2 => ⟨hg.grown hl g2 rfl rfl rfl (by simp), .inr (.inr (.inl ⟨rfl, g2⟩)), ⟨a, c, own2, hls.typed g2.size (fun hb ht => hg.typed hl g2 hb ht)⟩⟩
          refine StepsA.cons (fun L vs w1 hl hdl hg hd2 => ?_) ?_
          · refine opTo_of (by kernel_rfl) (fun K hK => ?_)
            go_simp
            exact hK.out (.pointer (some ⟨V, 6, none⟩)) _ _ (by kernel_rfl) ⟨hg.kept (Below.refl _ _) rfl rfl rfl (by simp), .inl (Below.refl _ _), rfl⟩
          refine StepsA.cons (fun L vs w1 hl hdl hg hd2 => ?_) ?_
          · have e0 : vs 8 = .pointer (some ⟨V, 6, none⟩) := hd2 8 (by decide)
            obtain ⟨a, c, own2, hls⟩ := hd2 7 (by decide)
            obtain ⟨a4, c4, e1⟩ := own_slice own2
            have e1 : vs 7 = .slice a4 (j + 1) c4 := e1
            rw [e1] at own2
            obtain ⟨v6, hc, -⟩ := hg.v
            have f3 : w1.cell? ⟨V, 6, none⟩ = some v6 := hc.cell 6
            have z3 := hc.frozen 6
            have hlt3 := hc.lt
            refine opTo_of (by kernel_rfl) (fun K hK => ?_)
            go_simp
            exact hK.out undef _ _ (by simp only [e0, e1]; kernel_rfl) ⟨hg.poke (hdl 7 (by decide)) rfl rfl rfl (by simp [hdl 1 (by decide)]), .inr (.inr (.inr ⟨rfl, _, rfl⟩)), ⟨_, a, c, (hc.set_ 6 _).cell 6, own_setc own2 hc (by decide) _, hls.poke hc 6 _⟩⟩
          exact StepsA.nil
        case fin =>
          intro L vs w1 hL1 hg hT
          obtain ⟨u, a, c, x6, own6, ol6⟩ := hT 9 (by decide)
          have HK1 := Lib.hid (rg_done hg (hL1 4 (by decide)) x6 own6 ol6)
          clear hg hT x6 own6 ol6 HQ K2
          go_wp2_with fail
          go_roundw
          case rel => exact ⟨j + 1, acc ++ [(x, (repM RS.list s1).1)], (repM RS.list s1).2, u, _, by omega, by go_num, by simp [hal], HK1.out.1, HK1.out.2.1, HK1.out.2.2, by rw [hm']; exact HM.out⟩
          case measure => simp [intOf]; omega
      · have hd : (t.e == 0) = false := by simpa using he
        have hjI : (j : Int) < (n : Int) := by omega
        have HE2 := Lib.hid (show rread s = (⟨kk, 0, 0, [], [], [], acc⟩, t) by rw [HE.out, rep_stop hM he])
        obtain ⟨a, c, rfl⟩ := own_slice hO
        have HD9 := Lib.hid (And.intro hD (show OEn w.heap.size wr.heap.size wr ⟨kk, 0, 0, [], [], [], acc⟩ ⟨none, 0, none, 0, none, 0, a, c⟩ from ⟨.inl rfl, .inl rfl, .inl rfl, ODls.of_own hO hDA⟩))
        subst hacc
        clear he hO hM hD hDA HE f1
        have f1 : wr.cell? ⟨R + 1, 1, none⟩ = some (.int .i64 t.e) := HD9.out.1.rd.cell 1
        have u0 : wr.cell? ⟨V, 0, none⟩ = some (.int .u8 kk) := HD9.out.1.v.cell 0
        have u1 : wr.cell? ⟨V, 1, none⟩ = some (.int .i64 0) := HD9.out.1.v.cell 1
        have u2 : wr.cell? ⟨V, 2, none⟩ = some (.int .i64 0) := HD9.out.1.v.cell 2
        have u3 : wr.cell? ⟨V, 3, none⟩ = some (.slice none 0 0) := HD9.out.1.v.cell 3
        have u4 : wr.cell? ⟨V, 4, none⟩ = some (.slice none 0 0) := HD9.out.1.v.cell 4
        have u5 : wr.cell? ⟨V, 5, none⟩ = some (.slice none 0 0) := HD9.out.1.v.cell 5
        have u6 : wr.cell? ⟨V, 6, none⟩ = some (.slice a acc.length c) := HD9.out.1.v.cell 6
        have hEN : rread s = (⟨kk, 0, 0, [], [], [], acc⟩, t) := HE2.out
        have ok9 := HJ.out
        have li9 := HK.out
        rw [hEN] at ok9 li9
        have HEc := Lib.hid (renc_any ⟨kk, 0, 0, [], [], [], acc⟩ ⟨none, 0, none, 0, none, 0, a, c⟩ wr ok9 li9 (OEn.nums HD9.out.2))
        obtain ⟨S, x, hx⟩ : ∃ S x, eenc ⟨kk, 0, 0, [], [], [], acc⟩ = (S, x) := ⟨_, _, rfl⟩
        have HX := Lib.hid hx
        have HN := Lib.hid hEN
        clear hx hEN ok9 li9
        go_wp2_with fail
        refine (Calls.mono HEc.out ?_)
        rintro e w8 ⟨rfl, b8⟩
        rw [HX.out]
        have D8 := HD9.out.1.below b8
        have u0 : w8.cell? ⟨V, 0, none⟩ = some (.int .u8 kk) := D8.v.cell 0
        have u1 : w8.cell? ⟨V, 1, none⟩ = some (.int .i64 0) := D8.v.cell 1
        have u2 : w8.cell? ⟨V, 2, none⟩ = some (.int .i64 0) := D8.v.cell 2
        have u3 : w8.cell? ⟨V, 3, none⟩ = some (.slice none 0 0) := D8.v.cell 3
        have u4 : w8.cell? ⟨V, 4, none⟩ = some (.slice none 0 0) := D8.v.cell 4
        have u5 : w8.cell? ⟨V, 5, none⟩ = some (.slice none 0 0) := D8.v.cell 5
        have u6 : w8.cell? ⟨V, 6, none⟩ = some (.slice a acc.length c) := D8.v.cell 6
        have HD8 := Lib.hid (And.intro D8 ((HD9.out.2.kept (Kp.of_below b8 (Nat.le_refl _))).more (Nat.le_refl _) b8.size))
        have HF := Lib.hid (rend_any (R + 1) t w8 D8.rd)
        clear b8 D8 HEc
        go_wp2_with fail
        refine (Calls.mono HF.out ?_)
        rintro e w9 ⟨rfl, h9', o9⟩
        have D9 := HD8.out.1.read h9' o9
        have HDz := Lib.hid (And.intro D9 (HD8.out.1.oen_read HD8.out.2 o9))
        obtain ⟨r0, r1, r2, r3, r4, r5, r6⟩ := D9.r.seven
        obtain ⟨y0, y1, y2, y3, y4, y5, y6⟩ := D9.r.seven_f
        have u0 : w9.cell? ⟨V, 0, none⟩ = some (.int .u8 kk) := D9.v.cell 0
        have u1 : w9.cell? ⟨V, 1, none⟩ = some (.int .i64 0) := D9.v.cell 1
        have u2 : w9.cell? ⟨V, 2, none⟩ = some (.int .i64 0) := D9.v.cell 2
        have u3 : w9.cell? ⟨V, 3, none⟩ = some (.slice none 0 0) := D9.v.cell 3
        have u4 : w9.cell? ⟨V, 4, none⟩ = some (.slice none 0 0) := D9.v.cell 4
        have u5 : w9.cell? ⟨V, 5, none⟩ = some (.slice none 0 0) := D9.v.cell 5
        have u6 : w9.cell? ⟨V, 6, none⟩ = some (.slice a acc.length c) := D9.v.cell 6
        clear HF HD8 h9' o9 D9
        by_cases hf : t.fin.e = 0
        · by_cases hq : x = 0
          · by_cases hs : S = s
            · have HQ := Lib.hid (rdec_good HL.out (by rw [HN.out]; exact hf) (by rw [HN.out]; dsimp only; rw [HX.out]; exact hq) (by rw [HN.out]; dsimp only; rw [HX.out]; exact hs))
              have g1 : (t.fin.e != 0) = false := by simpa using hf
              have g2 : (x != 0) = false := by simpa using hq
              have g3 : (S != s) = false := by simpa using hs
              have g4 : (S == s) = true := by simpa using hs
              clear hf hq hs
              go_wp2_with fail
              refine bodyPost_ret (v := .tuple #[.agg #[.int .u8 kk, .int .i64 0, .int .i64 0, .slice none 0 0, .slice none 0 0, .slice none 0 0, .slice a acc.length c], .int .i64 0]) (by simp [results, Tryz.results10, go_sem, r0, r1, r2, r3, r4, r5, r6]) rfl ?_
              rw [HQ.out, HN.out]
              refine ⟨⟨none, 0, none, 0, none, 0, a, c⟩, rfl, set7_oen HDz.out.2 HDz.out.1.r _ _ _ _ _ _ _, set7_below HDz.out.1.bel ?_ _ _ _ _ _ _ _⟩
              rw [HR.out]
              exact Nat.le_refl _
            · have HQ := Lib.hid (rdec_bad HL.out (.inr (.inr (by rw [HN.out]; dsimp only; rw [HX.out]; exact hs))))
              have g1 : (t.fin.e != 0) = false := by simpa using hf
              have g2 : (x != 0) = false := by simpa using hq
              have g3 : (S != s) = true := by simpa using hs
              have g4 : (S == s) = false := by simpa using hs
              clear hf hq hs
              go_wp2_with fail
              refine bodyPost_ret (v := .tuple #[.agg #[.int .u8 0, .int .i64 0, .int .i64 0, .slice none 0 0, .slice none 0 0, .slice none 0 0, .slice none 0 0], .int .i64 4]) (by simp [results, Tryz.results10, go_sem, r0, r1, r2, r3, r4, r5, r6]) rfl ?_
              rw [HQ.out]
              refine ⟨Ad.none, rfl, oen_zero, set7_below HDz.out.1.bel ?_ _ _ _ _ _ _ _⟩
              rw [HR.out]
              exact Nat.le_refl _
          · have HQ := Lib.hid (rdec_bad HL.out (.inr (.inl (by rw [HN.out]; dsimp only; rw [HX.out]; exact hq))))
            have g1 : (t.fin.e != 0) = false := by simpa using hf
            have g2 : (x != 0) = true := by simpa using hq
            clear hf hq
            go_wp2_with fail
            refine bodyPost_ret (v := .tuple #[.agg #[.int .u8 0, .int .i64 0, .int .i64 0, .slice none 0 0, .slice none 0 0, .slice none 0 0, .slice none 0 0], .int .i64 4]) (by simp [results, Tryz.results10, go_sem, r0, r1, r2, r3, r4, r5, r6]) rfl ?_
            rw [HQ.out]
            refine ⟨Ad.none, rfl, oen_zero, set7_below HDz.out.1.bel ?_ _ _ _ _ _ _ _⟩
            rw [HR.out]
            exact Nat.le_refl _
        · have HQ := Lib.hid (rdec_bad HL.out (.inl (by rw [HN.out]; exact hf)))
          have g1 : (t.fin.e != 0) = true := by simpa using hf
          clear hf
          go_wp2_with fail
          refine bodyPost_ret (v := .tuple #[.agg #[.int .u8 0, .int .i64 0, .int .i64 0, .slice none 0 0, .slice none 0 0, .slice none 0 0, .slice none 0 0], .int .i64 4]) (by simp [results, Tryz.results10, go_sem, r0, r1, r2, r3, r4, r5, r6]) rfl ?_
          rw [HQ.out]
          refine ⟨Ad.none, rfl, oen_zero, set7_below HDz.out.1.bel ?_ _ _ _ _ _ _ _⟩
          rw [HR.out]
          exact Nat.le_refl _
    · have hje : j = n := by omega
      have hjI : decide ((j : Int) < (n : Int)) = false := decide_eq_false (by omega)
      subst hje
      rw [Nat.sub_self] at hM
      have hM : (acc, t) = repM oneDealR st1 := hM
      have HE2 := Lib.hid (show rread s = (⟨kk, 0, 0, [], [], [], acc⟩, t) by rw [HE.out, ← hM])
      obtain ⟨a, c, rfl⟩ := own_slice hO
      have HD9 := Lib.hid (And.intro hD (show OEn w.heap.size wr.heap.size wr ⟨kk, 0, 0, [], [], [], acc⟩ ⟨none, 0, none, 0, none, 0, a, c⟩ from ⟨.inl rfl, .inl rfl, .inl rfl, ODls.of_own hO hDA⟩))
      subst hacc
      clear hO hM hD hDA HE
      have u0 : wr.cell? ⟨V, 0, none⟩ = some (.int .u8 kk) := HD9.out.1.v.cell 0
      have u1 : wr.cell? ⟨V, 1, none⟩ = some (.int .i64 0) := HD9.out.1.v.cell 1
      have u2 : wr.cell? ⟨V, 2, none⟩ = some (.int .i64 0) := HD9.out.1.v.cell 2
      have u3 : wr.cell? ⟨V, 3, none⟩ = some (.slice none 0 0) := HD9.out.1.v.cell 3
      have u4 : wr.cell? ⟨V, 4, none⟩ = some (.slice none 0 0) := HD9.out.1.v.cell 4
      have u5 : wr.cell? ⟨V, 5, none⟩ = some (.slice none 0 0) := HD9.out.1.v.cell 5
      have u6 : wr.cell? ⟨V, 6, none⟩ = some (.slice a acc.length c) := HD9.out.1.v.cell 6
      have hEN : rread s = (⟨kk, 0, 0, [], [], [], acc⟩, t) := HE2.out
      have ok9 := HJ.out
      have li9 := HK.out
      rw [hEN] at ok9 li9
      have HEc := Lib.hid (renc_any ⟨kk, 0, 0, [], [], [], acc⟩ ⟨none, 0, none, 0, none, 0, a, c⟩ wr ok9 li9 (OEn.nums HD9.out.2))
      obtain ⟨S, x, hx⟩ : ∃ S x, eenc ⟨kk, 0, 0, [], [], [], acc⟩ = (S, x) := ⟨_, _, rfl⟩
      have HX := Lib.hid hx
      have HN := Lib.hid hEN
      clear hx hEN ok9 li9
      go_wp2_with fail
      refine (Calls.mono HEc.out ?_)
      rintro e w8 ⟨rfl, b8⟩
      rw [HX.out]
      have D8 := HD9.out.1.below b8
      have u0 : w8.cell? ⟨V, 0, none⟩ = some (.int .u8 kk) := D8.v.cell 0
      have u1 : w8.cell? ⟨V, 1, none⟩ = some (.int .i64 0) := D8.v.cell 1
      have u2 : w8.cell? ⟨V, 2, none⟩ = some (.int .i64 0) := D8.v.cell 2
      have u3 : w8.cell? ⟨V, 3, none⟩ = some (.slice none 0 0) := D8.v.cell 3
      have u4 : w8.cell? ⟨V, 4, none⟩ = some (.slice none 0 0) := D8.v.cell 4
      have u5 : w8.cell? ⟨V, 5, none⟩ = some (.slice none 0 0) := D8.v.cell 5
      have u6 : w8.cell? ⟨V, 6, none⟩ = some (.slice a acc.length c) := D8.v.cell 6
      have HD8 := Lib.hid (And.intro D8 ((HD9.out.2.kept (Kp.of_below b8 (Nat.le_refl _))).more (Nat.le_refl _) b8.size))
      have HF := Lib.hid (rend_any (R + 1) t w8 D8.rd)
      clear b8 D8 HEc
      go_wp2_with fail
      refine (Calls.mono HF.out ?_)
      rintro e w9 ⟨rfl, h9', o9⟩
      have D9 := HD8.out.1.read h9' o9
      have HDz := Lib.hid (And.intro D9 (HD8.out.1.oen_read HD8.out.2 o9))
      obtain ⟨r0, r1, r2, r3, r4, r5, r6⟩ := D9.r.seven
      obtain ⟨y0, y1, y2, y3, y4, y5, y6⟩ := D9.r.seven_f
      have u0 : w9.cell? ⟨V, 0, none⟩ = some (.int .u8 kk) := D9.v.cell 0
      have u1 : w9.cell? ⟨V, 1, none⟩ = some (.int .i64 0) := D9.v.cell 1
      have u2 : w9.cell? ⟨V, 2, none⟩ = some (.int .i64 0) := D9.v.cell 2
      have u3 : w9.cell? ⟨V, 3, none⟩ = some (.slice none 0 0) := D9.v.cell 3
      have u4 : w9.cell? ⟨V, 4, none⟩ = some (.slice none 0 0) := D9.v.cell 4
      have u5 : w9.cell? ⟨V, 5, none⟩ = some (.slice none 0 0) := D9.v.cell 5
      have u6 : w9.cell? ⟨V, 6, none⟩ = some (.slice a acc.length c) := D9.v.cell 6
      clear HF HD8 h9' o9 D9
      by_cases hf : t.fin.e = 0
      · by_cases hq : x = 0
        · by_cases hs : S = s
          · have HQ := Lib.hid (rdec_good HL.out (by rw [HN.out]; exact hf) (by rw [HN.out]; dsimp only; rw [HX.out]; exact hq) (by rw [HN.out]; dsimp only; rw [HX.out]; exact hs))
            have g1 : (t.fin.e != 0) = false := by simpa using hf
            have g2 : (x != 0) = false := by simpa using hq
            have g3 : (S != s) = false := by simpa using hs
            have g4 : (S == s) = true := by simpa using hs
            clear hf hq hs
            go_wp2_with fail
            refine bodyPost_ret (v := .tuple #[.agg #[.int .u8 kk, .int .i64 0, .int .i64 0, .slice none 0 0, .slice none 0 0, .slice none 0 0, .slice a acc.length c], .int .i64 0]) (by simp [results, Tryz.results10, go_sem, r0, r1, r2, r3, r4, r5, r6]) rfl ?_
            rw [HQ.out, HN.out]
            refine ⟨⟨none, 0, none, 0, none, 0, a, c⟩, rfl, set7_oen HDz.out.2 HDz.out.1.r _ _ _ _ _ _ _, set7_below HDz.out.1.bel ?_ _ _ _ _ _ _ _⟩
            rw [HR.out]
            exact Nat.le_refl _
          · have HQ := Lib.hid (rdec_bad HL.out (.inr (.inr (by rw [HN.out]; dsimp only; rw [HX.out]; exact hs))))
            have g1 : (t.fin.e != 0) = false := by simpa using hf
            have g2 : (x != 0) = false := by simpa using hq
            have g3 : (S != s) = true := by simpa using hs
            have g4 : (S == s) = false := by simpa using hs
            clear hf hq hs
            go_wp2_with fail
            refine bodyPost_ret (v := .tuple #[.agg #[.int .u8 0, .int .i64 0, .int .i64 0, .slice none 0 0, .slice none 0 0, .slice none 0 0, .slice none 0 0], .int .i64 4]) (by simp [results, Tryz.results10, go_sem, r0, r1, r2, r3, r4, r5, r6]) rfl ?_
            rw [HQ.out]
            refine ⟨Ad.none, rfl, oen_zero, set7_below HDz.out.1.bel ?_ _ _ _ _ _ _ _⟩
            rw [HR.out]
            exact Nat.le_refl _
        · have HQ := Lib.hid (rdec_bad HL.out (.inr (.inl (by rw [HN.out]; dsimp only; rw [HX.out]; exact hq))))
          have g1 : (t.fin.e != 0) = false := by simpa using hf
          have g2 : (x != 0) = true := by simpa using hq
          clear hf hq
          go_wp2_with fail
          refine bodyPost_ret (v := .tuple #[.agg #[.int .u8 0, .int .i64 0, .int .i64 0, .slice none 0 0, .slice none 0 0, .slice none 0 0, .slice none 0 0], .int .i64 4]) (by simp [results, Tryz.results10, go_sem, r0, r1, r2, r3, r4, r5, r6]) rfl ?_
          rw [HQ.out]
          refine ⟨Ad.none, rfl, oen_zero, set7_below HDz.out.1.bel ?_ _ _ _ _ _ _ _⟩
          rw [HR.out]
          exact Nat.le_refl _
      · have HQ := Lib.hid (rdec_bad HL.out (.inl (by rw [HN.out]; exact hf)))
        have g1 : (t.fin.e != 0) = true := by simpa using hf
        clear hf
        go_wp2_with fail
        refine bodyPost_ret (v := .tuple #[.agg #[.int .u8 0, .int .i64 0, .int .i64 0, .slice none 0 0, .slice none 0 0, .slice none 0 0, .slice none 0 0], .int .i64 4]) (by simp [results, Tryz.results10, go_sem, r0, r1, r2, r3, r4, r5, r6]) rfl ?_
        rw [HQ.out]
        refine ⟨Ad.none, rfl, oen_zero, set7_below HDz.out.1.bel ?_ _ _ _ _ _ _ _⟩
        rw [HR.out]
        exact Nat.le_refl _

theorem rdec_any (s : List UInt8) (w : World) (h9 : s.length ≤ 9223372036854775807) : Calls Tryz.prog 10 #[.string ⟨s.toArray⟩] w (EnPost (edec s).1 (edec s).2 w) := by
  rw [← rdec_edec]
  by_cases h : s.length ≤ 2048
  · have hk := num1_le (⟨s, 0⟩ : RS)
    by_cases k0 : (RS.num 1 ⟨s, 0⟩).1 = 0
    · exact rdec_0 s w h k0
    by_cases k1 : (RS.num 1 ⟨s, 0⟩).1 = 1
    · exact rdec_1 s w h k1
    by_cases k2 : (RS.num 1 ⟨s, 0⟩).1 = 2
    · exact rdec_2 s w h k2
    by_cases k3 : (RS.num 1 ⟨s, 0⟩).1 = 3
    · exact rdec_3 s w h k3
    by_cases k4 : (RS.num 1 ⟨s, 0⟩).1 = 4
    · exact rdec_4 s w h k4
    · exact rdec_o s w h (by omega)
  · rw [rdec_long (by omega)]
    exact rdec_l s w (by omega) h9
end Go.Proofs.YtdnkijljpmcejaaGreat
