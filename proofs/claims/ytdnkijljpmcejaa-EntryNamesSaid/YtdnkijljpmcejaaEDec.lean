/-
  entry.Decode: the entry that stands there.
-/
import Derived.Test.YtdnkijljpmcejaaEGet2
namespace Go.Proofs.Ytdnkijljpmcejaa
open Go.RowKit

def zero7 : Array Value := #[.int .u8 0, .int .i64 0, .int .i64 0, .slice none 0 0, .slice none 0 0, .slice none 0 0, .slice none 0 0]
def Ad.none : Ad := ⟨.none, 0, .none, 0, .none, 0, .none, 0⟩
/-- An entry, in blocks of its own, and an error. -/
def EnPost (e : En) (x : Int) (w : World) (r : Ending) (w' : World) : Prop :=
  ∃ p : Ad, r = .returned (.tuple #[.agg #[.int .u8 e.k, .int .i64 e.id, .int .i64 e.ep, .slice p.a1 e.x.length p.c1, .slice p.a2 e.coms.length p.c2, .slice p.a3 e.next.length p.c3, .slice p.a4 e.deals.length p.c4], .int .i64 x]) ∧ OEn w.heap.size w'.heap.size w' e p ∧ Below w.heap.size w w'
theorem oen_zero {lo hi : Nat} {w : World} {p : Ad} : OEn lo hi w En.zero p := ⟨.inl rfl, .inl rfl, .inl rfl, .inl rfl⟩

def set7 (w : World) (R : Nat) (v0 v1 v2 v3 v4 v5 v6 : Value) : World :=
  ((((((w.setCell ⟨R, 0, none⟩ v0).setCell ⟨R, 1, none⟩ v1).setCell ⟨R, 2, none⟩ v2).setCell ⟨R, 3, none⟩ v3).setCell ⟨R, 4, none⟩ v4).setCell ⟨R, 5, none⟩ v5).setCell ⟨R, 6, none⟩ v6
theorem set7_below {w a : World} {B R : Nat} (h : Below B a w) (hR : B ≤ R) (v0 v1 v2 v3 v4 v5 v6 : Value) : Below B a (set7 w R v0 v1 v2 v3 v4 v5 v6) :=
  ((((((h.setCell (p := ⟨R, 0, none⟩) hR v0).setCell (p := ⟨R, 1, none⟩) hR v1).setCell (p := ⟨R, 2, none⟩) hR v2).setCell (p := ⟨R, 3, none⟩) hR v3).setCell (p := ⟨R, 4, none⟩) hR v4).setCell (p := ⟨R, 5, none⟩) hR v5).setCell (p := ⟨R, 6, none⟩) hR v6
theorem set7_only (w : World) (R : Nat) (v0 v1 v2 v3 v4 v5 v6 : Value) : Only w (set7 w R v0 v1 v2 v3 v4 v5 v6) R :=
  (((((((Only.refl w R).setc (i := 0) (.inl rfl) v0).setc (i := 1) (.inl rfl) v1).setc (i := 2) (.inl rfl) v2).setc (i := 3) (.inl rfl) v3).setc (i := 4) (.inl rfl) v4).setc (i := 5) (.inl rfl) v5).setc (i := 6) (.inl rfl) v6
theorem not_five_en : ¬ Five 55 := by unfold Five; decide
theorem set7_oen {w : World} {lo R : Nat} {cs : Array Value} {e : En} {p : Ad} (h : OEn lo w.heap.size w e p) (hR : Blk w R 55 cs) (v0 v1 v2 v3 v4 v5 v6 : Value) : OEn lo (set7 w R v0 v1 v2 v3 v4 v5 v6).heap.size (set7 w R v0 v1 v2 v3 v4 v5 v6) e p :=
  (h.kept (Kp.of_only (set7_only w R v0 v1 v2 v3 v4 v5 v6) hR not_five_en)).more (Nat.le_refl _) (set7_only w R v0 v1 v2 v3 v4 v5 v6).size
theorem Blk.seven {w : World} {g : Nat} {v0 v1 v2 v3 v4 v5 v6 : Value} (h : Blk w g 55 #[v0, v1, v2, v3, v4, v5, v6]) :
    w.cell? ⟨g, 0, none⟩ = some v0 ∧ w.cell? ⟨g, 1, none⟩ = some v1 ∧ w.cell? ⟨g, 2, none⟩ = some v2 ∧ w.cell? ⟨g, 3, none⟩ = some v3 ∧ w.cell? ⟨g, 4, none⟩ = some v4 ∧ w.cell? ⟨g, 5, none⟩ = some v5 ∧ w.cell? ⟨g, 6, none⟩ = some v6 :=
  ⟨h.cell 0, h.cell 1, h.cell 2, h.cell 3, h.cell 4, h.cell 5, h.cell 6⟩
theorem Blk.seven_f {w : World} {g : Nat} {t : TypeId} {cs : Array Value} (h : Blk w g t cs) :
    w.frozen? ⟨g, 0, none⟩ = false ∧ w.frozen? ⟨g, 1, none⟩ = false ∧ w.frozen? ⟨g, 2, none⟩ = false ∧ w.frozen? ⟨g, 3, none⟩ = false ∧ w.frozen? ⟨g, 4, none⟩ = false ∧ w.frozen? ⟨g, 5, none⟩ = false ∧ w.frozen? ⟨g, 6, none⟩ = false :=
  ⟨h.frozen 0, h.frozen 1, h.frozen 2, h.frozen 3, h.frozen 4, h.frozen 5, h.frozen 6⟩

/-- While it decodes: the result's block R, the reader's b, the variable's V. -/
structure DSt (w0 : World) (R b V : Nat) (st : RS) (cs : Array Value) (w : World) : Prop where
  r : Blk w R 55 zero7
  rd : RdAt b st w
  v : Blk w V 55 cs
  bel : Below w0.heap.size w0 w
  hR : w0.heap.size ≤ R
  hb : w0.heap.size ≤ b
  hV : w0.heap.size ≤ V
  ne : R ≠ V
section
variable {w0 w w' : World} {R b V : Nat} {st st' : RS} {cs : Array Value}
theorem DSt.read (h : DSt w0 R b V st cs w) (hr : RdAt b st' w') (o : Only w w' b) : DSt w0 R b V st' cs w' :=
  ⟨h.r.grown o (some_ne (Blk.ne_ h.r h.rd (by decide))), hr, h.v.grown o (some_ne (Blk.ne_ h.v h.rd (by decide))), below_only h.bel o h.hb h.bel.size, h.hR, h.hb, h.hV, h.ne⟩
theorem DSt.set_ (h : DSt w0 R b V st cs w) (i : Nat) (u : Value) : DSt w0 R b V st (cs.setIfInBounds i u) (w.setCell ⟨V, i, none⟩ u) :=
  ⟨h.r.farc h.ne u, h.rd.farc (Ne.symm (Blk.ne_ h.v h.rd (by decide))) u, h.v.set_ i u, h.bel.setCell (p := ⟨V, i, none⟩) h.hV u, h.hR, h.hb, h.hV, h.ne⟩
theorem DSt.kp_read {lo hi : Nat} (h : DSt w0 R b V st cs w) (o : Only w w' b) : Kp lo hi w w' := Kp.of_only o h.rd not_five_rd
theorem DSt.kp_set {lo hi : Nat} (h : DSt w0 R b V st cs w) (i : Nat) (u : Value) : Kp lo hi w (w.setCell ⟨V, i, none⟩ u) := Kp.of_only ((Only.refl w V).setc (.inl rfl) u) h.v not_five_en
theorem DSt.oen_read {lo : Nat} {e : En} {p : Ad} (h : DSt w0 R b V st cs w) (ho : OEn lo w.heap.size w e p) (o : Only w w' b) : OEn lo w'.heap.size w' e p := (ho.kept (h.kp_read o)).more (Nat.le_refl _) o.size
theorem DSt.oen_set {lo : Nat} {e : En} {p : Ad} (h : DSt w0 R b V st cs w) (ho : OEn lo w.heap.size w e p) (i : Nat) (u : Value) : OEn lo (w.setCell ⟨V, i, none⟩ u).heap.size (w.setCell ⟨V, i, none⟩ u) e p := (ho.kept (h.kp_set i u)).more (Nat.le_refl _) (by simp [World.setCell])
theorem DSt.base (h : DSt w0 R b V st cs w) : w0.heap.size ≤ w.heap.size := h.bel.size
end
theorem DSt.make {w w1 : World} {s : List UInt8} (B1 : Below (w.heap.size + 1) (w.alloc (.cells zero7 55)) w1) (hr : RdAt (w.heap.size + 1) ⟨s, 0⟩ w1) : DSt w w.heap.size (w.heap.size + 1) w1.heap.size ⟨s, 0⟩ zero7 (w1.alloc (.cells zero7 55)) := by
  have hlt := hr.lt
  have b0 : Below w.heap.size w (w.alloc (.cells zero7 55)) := (Below.refl _ w).alloc (Nat.le_refl _) _
  refine ⟨((Blk.new w 55 zero7).below B1 (by omega)).alloc _, rd_alloc hr _, Blk.new w1 _ _, ((b0.trans (B1.mono (by omega))).alloc (by omega) _), Nat.le_refl _, by omega, by omega, by omega⟩

theorem edec_long {s : List UInt8} (h : 2048 < s.length) : edec s = (En.zero, 40) := if_pos h
theorem edec_bad {s : List UInt8} (h : s.length ≤ 2048) (h2 : (eread s).2.fin.e ≠ 0) : edec s = (En.zero, 4) := by
  unfold edec
  rw [if_neg (by omega), if_pos h2]
theorem edec_good {s : List UInt8} (h : s.length ≤ 2048) (h2 : (eread s).2.fin.e = 0) : edec s = ((eread s).1, 0) := by
  unfold edec
  rw [if_neg (by omega), if_neg (by simp [h2])]
set_option maxRecDepth 100000 in
set_option maxHeartbeats 400000 in
theorem dec_long (s : List UInt8) (w : World) (h : 2048 < s.length) (h9 : s.length ≤ 9223372036854775807) : Calls Try.prog 38 #[.string ⟨s.toArray⟩] w (EnPost En.zero 40 w) := by
  have hd : decide ((2048 : Int) < (s.length : Int)) = true := decide_eq_true (by omega)
  go_enter Try.func38, Try.ntmps38
  go_wp2_with fail
  refine bodyPost_ret (v := .tuple #[.agg #[.int .u8 0, .int .i64 0, .int .i64 0, .slice none 0 0, .slice none 0 0, .slice none 0 0, .slice none 0 0], .int .i64 40]) (by simp [results, Try.results38, go_sem]) rfl ?_
  exact ⟨Ad.none, rfl, oen_zero, (Below.refl _ w).alloc (Nat.le_refl _) _⟩

theorem eread_0 {s : List UInt8} (h : ((RS.num 1 ⟨s, 0⟩).1 == 1) = false) (h2 : ((RS.num 1 ⟨s, 0⟩).1 == 2) = false) (h3 : ((RS.num 1 ⟨s, 0⟩).1 == 3) = false) (h4 : ((RS.num 1 ⟨s, 0⟩).1 == 4) = false) : eread s = (En.zero, ⟨[], 4⟩) := by
  unfold eread
  rw [beq_eq_false_iff_ne] at h h2 h3 h4
  dsimp only
  rw [if_neg h, if_neg h2, if_neg h3, if_neg h4]
set_option maxRecDepth 100000 in
set_option maxHeartbeats 1000000 in
theorem dec_0 (s : List UInt8) (w : World) (h : s.length ≤ 2048) (t1 : ((RS.num 1 ⟨s, 0⟩).1 == 1) = false) (t2 : ((RS.num 1 ⟨s, 0⟩).1 == 2) = false) (t3 : ((RS.num 1 ⟨s, 0⟩).1 == 3) = false) (t4 : ((RS.num 1 ⟨s, 0⟩).1 == 4) = false) : Calls Try.prog 38 #[.string ⟨s.toArray⟩] w (EnPost En.zero 4 w) := by
  have h9 : s.length ≤ 9223372036854775807 := by omega
  have hd : decide ((2048 : Int) < (s.length : Int)) = false := decide_eq_false (by omega)
  have HO := Lib.hid (open_any s (w.alloc (.cells #[.int .u8 0, .int .i64 0, .int .i64 0, .slice none 0 0, .slice none 0 0, .slice none 0 0, .slice none 0 0] 55)))
  have HL := Lib.hid h
  clear h
  go_enter Try.func38, Try.ntmps38
  go_wp2_with fail
  refine (Calls.mono HO.out ?_)
  rintro e w1 ⟨rfl, h1, b1⟩
  simp only [asz] at h1 b1 ⊢
  have HD := Lib.hid (DSt.make b1 h1)
  clear h1 b1 HO hd
  go_upto_region 5 with fail
  obtain ⟨W1, hW1⟩ : ∃ W1, W1 = w1.alloc (.cells #[.int .u8 0, .int .i64 0, .int .i64 0, .slice none 0 0, .slice none 0 0, .slice none 0 0, .slice none 0 0] 55) := ⟨_, rfl⟩
  have HD1 : DSt w w.heap.size (w.heap.size + 1) w1.heap.size ⟨s, 0⟩ zero7 W1 := by rw [hW1]; exact HD.out
  rw [← hW1]
  have HW := Lib.hid hW1
  clear HD hW1 HW
  generalize w1.heap.size = V at *
  generalize hRR : w.heap.size = R at HD1 ⊢
  have HR := Lib.hid hRR
  clear hRR
  have HB := Lib.hid (Byte_any (R + 1) ⟨s, 0⟩ W1 HD1.rd)
  have HD2 := Lib.hid HD1
  clear HD1
  go_wp2_with fail
  refine (Calls.mono HB.out ?_)
  rintro e w2 ⟨rfl, h2, o2⟩
  have D2 := HD2.out.read h2 o2
  have v0 : w2.cell? ⟨V, 0, none⟩ = some (.int .u8 0) := D2.v.cell 0
  have z0 := D2.v.frozen 0
  have HD3 := Lib.hid (D2.set_ 0 (.int .u8 (RS.num 1 ⟨s, 0⟩).1))
  clear HB HD2 h2 o2 D2
  go_upto_region 6 with fail
  clear v0 z0
  generalize (RS.num 1 ⟨s, 0⟩).2 = st at *
  generalize (RS.num 1 ⟨s, 0⟩).1 = k at *
  generalize (w2.setCell ⟨V, 0, none⟩ (.int .u8 k)) = w3 at *
  have D3 := HD3.out
  have v0 : w3.cell? ⟨V, 0, none⟩ = some (.int .u8 k) := D3.v.cell 0
  obtain ⟨r0, r1, r2, r3, r4, r5, r6⟩ := D3.r.seven
  obtain ⟨y0, y1, y2, y3, y4, y5, y6⟩ := D3.r.seven_f
  clear D3
  go_wp2_with fail
  refine bodyPost_ret (v := .tuple #[.agg #[.int .u8 0, .int .i64 0, .int .i64 0, .slice none 0 0, .slice none 0 0, .slice none 0 0, .slice none 0 0], .int .i64 4]) (by simp [results, Try.results38, go_sem, r0, r1, r2, r3, r4, r5, r6]) rfl ?_
  refine ⟨Ad.none, rfl, oen_zero, ?_⟩
  rw [HR.out]
  have := HD3.out.bel
  rw [HR.out] at this
  exact set7_below this (Nat.le_refl _) _ _ _ _ _ _ _

theorem eread_1 {s : List UInt8} (h : (RS.num 1 ⟨s, 0⟩).1 = 1) : eread s = (⟨1, 0, 0, [], (getM RS.list (RS.num 1 ⟨s, 0⟩).2).1, [], []⟩, (getM RS.list (RS.num 1 ⟨s, 0⟩).2).2) := by
  unfold eread
  dsimp only
  rw [if_pos h]
set_option maxRecDepth 100000 in
set_option maxHeartbeats 2000000 in
theorem dec_1 (s : List UInt8) (w : World) (h : s.length ≤ 2048) (hk : (RS.num 1 ⟨s, 0⟩).1 = 1) : Calls Try.prog 38 #[.string ⟨s.toArray⟩] w (EnPost (edec s).1 (edec s).2 w) := by
  have HE := Lib.hid (eread_1 hk)
  have h9 : s.length ≤ 9223372036854775807 := by omega
  have hd : decide ((2048 : Int) < (s.length : Int)) = false := decide_eq_false (by omega)
  have HO := Lib.hid (open_any s (w.alloc (.cells #[.int .u8 0, .int .i64 0, .int .i64 0, .slice none 0 0, .slice none 0 0, .slice none 0 0, .slice none 0 0] 55)))
  have HL := Lib.hid h
  clear h
  go_enter Try.func38, Try.ntmps38
  go_wp2_with fail
  refine (Calls.mono HO.out ?_)
  rintro e w1 ⟨rfl, h1, b1⟩
  simp only [asz] at h1 b1 ⊢
  have HD := Lib.hid (DSt.make b1 h1)
  clear h1 b1 HO hd
  go_upto_region 5 with fail
  obtain ⟨W1, hW1⟩ : ∃ W1, W1 = w1.alloc (.cells #[.int .u8 0, .int .i64 0, .int .i64 0, .slice none 0 0, .slice none 0 0, .slice none 0 0, .slice none 0 0] 55) := ⟨_, rfl⟩
  have HD1 : DSt w w.heap.size (w.heap.size + 1) w1.heap.size ⟨s, 0⟩ zero7 W1 := by rw [hW1]; exact HD.out
  rw [← hW1]
  have HW := Lib.hid hW1
  clear HD hW1 HW
  generalize w1.heap.size = V at *
  generalize hRR : w.heap.size = R at HD1 ⊢
  have HR := Lib.hid hRR
  clear hRR
  have HB := Lib.hid (Byte_any (R + 1) ⟨s, 0⟩ W1 HD1.rd)
  have HD2 := Lib.hid HD1
  clear HD1
  go_wp2_with fail
  refine (Calls.mono HB.out ?_)
  rintro e w2 ⟨rfl, h2, o2⟩
  have D2 := HD2.out.read h2 o2
  have v0 : w2.cell? ⟨V, 0, none⟩ = some (.int .u8 0) := D2.v.cell 0
  have z0 := D2.v.frozen 0
  have HD3 := Lib.hid (D2.set_ 0 (.int .u8 (RS.num 1 ⟨s, 0⟩).1))
  clear HB HD2 h2 o2 D2
  go_upto_region 6 with fail
  clear v0 z0
  generalize (RS.num 1 ⟨s, 0⟩).2 = st at *
  generalize (RS.num 1 ⟨s, 0⟩).1 = kk at *
  subst hk
  generalize (w2.setCell ⟨V, 0, none⟩ (.int .u8 1)) = w3 at *
  have D3 := HD3.out
  have v0 : w3.cell? ⟨V, 0, none⟩ = some (.int .u8 1) := D3.v.cell 0
  have HG := Lib.hid (get_list (R + 1) st w3 D3.rd)
  have HX := Lib.hid D3
  clear D3
  go_wp2_with fail
  refine (Calls.mono HG.out ?_)
  rintro e w6 ⟨a, c, rfl, l6, h6, o6⟩
  have D6 := HX.out.read h6 o6
  have x4 : w6.cell? ⟨V, 4, none⟩ = some (.slice none 0 0) := D6.v.cell 4
  have z4 := D6.v.frozen 4
  generalize (getM RS.list st).2 = st7 at *
  generalize (getM RS.list st).1 = ls at *
  have hbase := HX.out.base
  have O6 : OEn w.heap.size w6.heap.size w6 ⟨1, 0, 0, [], ls, [], []⟩ ⟨none, 0, a, c, none, 0, none, 0⟩ := ⟨.inl rfl, l6.more hbase (Nat.le_refl _), .inl rfl, .inl rfl⟩
  have HD7 := Lib.hid (And.intro (D6.set_ 4 (.slice a ls.length c)) (D6.oen_set O6 4 (.slice a ls.length c)))
  clear HG HX l6 h6 o6 D6 O6 hbase HD3 v0
  go_upto_region 19 with fail
  clear x4 z4
  generalize (w6.setCell ⟨V, 4, none⟩ (.slice a ls.length c)) = w7 at *
  have HF := Lib.hid (end_any (R + 1) st7 w7 HD7.out.1.rd)
  go_wp2_with fail
  refine (Calls.mono HF.out ?_)
  rintro e w8 ⟨rfl, h8, o8⟩
  have D8 := HD7.out.1.read h8 o8
  have HD8 := Lib.hid (And.intro D8 (HD7.out.1.oen_read HD7.out.2 o8))
  obtain ⟨r0, r1, r2, r3, r4, r5, r6⟩ := D8.r.seven
  obtain ⟨y0, y1, y2, y3, y4, y5, y6⟩ := D8.r.seven_f
  have u0 : w8.cell? ⟨V, 0, none⟩ = some (.int .u8 1) := D8.v.cell 0
  have u1 : w8.cell? ⟨V, 1, none⟩ = some (.int .i64 0) := D8.v.cell 1
  have u2 : w8.cell? ⟨V, 2, none⟩ = some (.int .i64 0) := D8.v.cell 2
  have u3 : w8.cell? ⟨V, 3, none⟩ = some (.slice none 0 0) := D8.v.cell 3
  have u4 : w8.cell? ⟨V, 4, none⟩ = some (.slice a ls.length c) := D8.v.cell 4
  have u5 : w8.cell? ⟨V, 5, none⟩ = some (.slice none 0 0) := D8.v.cell 5
  have u6 : w8.cell? ⟨V, 6, none⟩ = some (.slice none 0 0) := D8.v.cell 6
  clear HF HD7 h8 o8 D8
  by_cases hf : st7.fin.e = 0
  · have HQ := Lib.hid (edec_good HL.out (by rw [HE.out]; exact hf))
    rw [hf]
    clear hf
    go_wp2_with fail
    refine bodyPost_ret (v := .tuple #[.agg #[.int .u8 1, .int .i64 0, .int .i64 0, .slice none 0 0, .slice a ls.length c, .slice none 0 0, .slice none 0 0], .int .i64 0]) (by simp [results, Try.results38, go_sem, r0, r1, r2, r3, r4, r5, r6]) rfl ?_
    rw [HQ.out, HE.out]
    refine ⟨⟨none, 0, a, c, none, 0, none, 0⟩, rfl, set7_oen HD8.out.2 HD8.out.1.r _ _ _ _ _ _ _, set7_below HD8.out.1.bel ?_ _ _ _ _ _ _ _⟩
    rw [HR.out]
    exact Nat.le_refl _
  · have hd2 : (st7.fin.e != 0) = true := by simpa using hf
    have HQ := Lib.hid (edec_bad HL.out (by rw [HE.out]; exact hf))
    clear hf
    go_wp2_with fail
    refine bodyPost_ret (v := .tuple #[.agg #[.int .u8 0, .int .i64 0, .int .i64 0, .slice none 0 0, .slice none 0 0, .slice none 0 0, .slice none 0 0], .int .i64 4]) (by simp [results, Try.results38, go_sem, r0, r1, r2, r3, r4, r5, r6]) rfl ?_
    rw [HQ.out]
    refine ⟨Ad.none, rfl, oen_zero, set7_below HD8.out.1.bel ?_ _ _ _ _ _ _ _⟩
    rw [HR.out]
    exact Nat.le_refl _

theorem eread_2 {s : List UInt8} (h : (RS.num 1 ⟨s, 0⟩).1 = 2) : eread s = (⟨2, (oneNum (RS.num 1 ⟨s, 0⟩).2).1, 0, (getM oneInt (oneNum (RS.num 1 ⟨s, 0⟩).2).2).1, [], [], []⟩, (getM oneInt (oneNum (RS.num 1 ⟨s, 0⟩).2).2).2) := by
  unfold eread
  dsimp only
  rw [if_neg (by rw [h]; decide)]; rw [if_pos h]
set_option maxRecDepth 100000 in
set_option maxHeartbeats 2000000 in
theorem dec_2 (s : List UInt8) (w : World) (h : s.length ≤ 2048) (hk : (RS.num 1 ⟨s, 0⟩).1 = 2) : Calls Try.prog 38 #[.string ⟨s.toArray⟩] w (EnPost (edec s).1 (edec s).2 w) := by
  have HE := Lib.hid (eread_2 hk)
  have h9 : s.length ≤ 9223372036854775807 := by omega
  have hd : decide ((2048 : Int) < (s.length : Int)) = false := decide_eq_false (by omega)
  have HO := Lib.hid (open_any s (w.alloc (.cells #[.int .u8 0, .int .i64 0, .int .i64 0, .slice none 0 0, .slice none 0 0, .slice none 0 0, .slice none 0 0] 55)))
  have HL := Lib.hid h
  clear h
  go_enter Try.func38, Try.ntmps38
  go_wp2_with fail
  refine (Calls.mono HO.out ?_)
  rintro e w1 ⟨rfl, h1, b1⟩
  simp only [asz] at h1 b1 ⊢
  have HD := Lib.hid (DSt.make b1 h1)
  clear h1 b1 HO hd
  go_upto_region 5 with fail
  obtain ⟨W1, hW1⟩ : ∃ W1, W1 = w1.alloc (.cells #[.int .u8 0, .int .i64 0, .int .i64 0, .slice none 0 0, .slice none 0 0, .slice none 0 0, .slice none 0 0] 55) := ⟨_, rfl⟩
  have HD1 : DSt w w.heap.size (w.heap.size + 1) w1.heap.size ⟨s, 0⟩ zero7 W1 := by rw [hW1]; exact HD.out
  rw [← hW1]
  have HW := Lib.hid hW1
  clear HD hW1 HW
  generalize w1.heap.size = V at *
  generalize hRR : w.heap.size = R at HD1 ⊢
  have HR := Lib.hid hRR
  clear hRR
  have HB := Lib.hid (Byte_any (R + 1) ⟨s, 0⟩ W1 HD1.rd)
  have HD2 := Lib.hid HD1
  clear HD1
  go_wp2_with fail
  refine (Calls.mono HB.out ?_)
  rintro e w2 ⟨rfl, h2, o2⟩
  have D2 := HD2.out.read h2 o2
  have v0 : w2.cell? ⟨V, 0, none⟩ = some (.int .u8 0) := D2.v.cell 0
  have z0 := D2.v.frozen 0
  have HD3 := Lib.hid (D2.set_ 0 (.int .u8 (RS.num 1 ⟨s, 0⟩).1))
  clear HB HD2 h2 o2 D2
  go_upto_region 6 with fail
  clear v0 z0
  generalize (RS.num 1 ⟨s, 0⟩).2 = st at *
  generalize (RS.num 1 ⟨s, 0⟩).1 = kk at *
  subst hk
  generalize (w2.setCell ⟨V, 0, none⟩ (.int .u8 2)) = w3 at *
  have D3 := HD3.out
  have v0 : w3.cell? ⟨V, 0, none⟩ = some (.int .u8 2) := D3.v.cell 0
  have HN := Lib.hid (getNumber_any (R + 1) st w3 D3.rd)
  clear D3
  go_wp2_with fail
  refine (Calls.mono HN.out ?_)
  rintro e w4 ⟨rfl, h4, o4⟩
  have D4 := HD3.out.read h4 o4
  have x1 : w4.cell? ⟨V, 1, none⟩ = some (.int .i64 0) := D4.v.cell 1
  have z1 := D4.v.frozen 1
  have HD5 := Lib.hid (D4.set_ 1 (.int .i64 (oneNum st).1))
  clear HN HD3 h4 o4 D4
  go_upto_region 12 with fail
  clear x1 z1
  generalize (oneNum st).2 = st5 at *
  generalize (oneNum st).1 = num at *
  generalize (w4.setCell ⟨V, 1, none⟩ (.int .i64 num)) = w5 at *
  have D5 := HD5.out
  have HG := Lib.hid (get_int (R + 1) st5 w5 D5.rd)
  have HX := Lib.hid D5
  clear D5
  go_wp2_with fail
  refine (Calls.mono HG.out ?_)
  rintro e w6 ⟨a, c, rfl, l6, h6, o6⟩
  have D6 := HX.out.read h6 o6
  have x3 : w6.cell? ⟨V, 3, none⟩ = some (.slice none 0 0) := D6.v.cell 3
  have z3 := D6.v.frozen 3
  generalize (getM oneInt st5).2 = st7 at *
  generalize (getM oneInt st5).1 = ls at *
  have hbase := HX.out.base
  have O6 : OEn w.heap.size w6.heap.size w6 ⟨2, num, 0, ls, [], [], []⟩ ⟨a, c, none, 0, none, 0, none, 0⟩ := ⟨l6.more hbase (Nat.le_refl _), .inl rfl, .inl rfl, .inl rfl⟩
  have HD7 := Lib.hid (And.intro (D6.set_ 3 (.slice a ls.length c)) (D6.oen_set O6 3 (.slice a ls.length c)))
  clear HG HX l6 h6 o6 D6 O6 hbase HD5
  go_upto_region 19 with fail
  clear x3 z3
  generalize (w6.setCell ⟨V, 3, none⟩ (.slice a ls.length c)) = w7 at *
  have HF := Lib.hid (end_any (R + 1) st7 w7 HD7.out.1.rd)
  go_wp2_with fail
  refine (Calls.mono HF.out ?_)
  rintro e w8 ⟨rfl, h8, o8⟩
  have D8 := HD7.out.1.read h8 o8
  have HD8 := Lib.hid (And.intro D8 (HD7.out.1.oen_read HD7.out.2 o8))
  obtain ⟨r0, r1, r2, r3, r4, r5, r6⟩ := D8.r.seven
  obtain ⟨y0, y1, y2, y3, y4, y5, y6⟩ := D8.r.seven_f
  have u0 : w8.cell? ⟨V, 0, none⟩ = some (.int .u8 2) := D8.v.cell 0
  have u1 : w8.cell? ⟨V, 1, none⟩ = some (.int .i64 num) := D8.v.cell 1
  have u2 : w8.cell? ⟨V, 2, none⟩ = some (.int .i64 0) := D8.v.cell 2
  have u3 : w8.cell? ⟨V, 3, none⟩ = some (.slice a ls.length c) := D8.v.cell 3
  have u4 : w8.cell? ⟨V, 4, none⟩ = some (.slice none 0 0) := D8.v.cell 4
  have u5 : w8.cell? ⟨V, 5, none⟩ = some (.slice none 0 0) := D8.v.cell 5
  have u6 : w8.cell? ⟨V, 6, none⟩ = some (.slice none 0 0) := D8.v.cell 6
  clear HF HD7 h8 o8 D8
  by_cases hf : st7.fin.e = 0
  · have HQ := Lib.hid (edec_good HL.out (by rw [HE.out]; exact hf))
    rw [hf]
    clear hf
    go_wp2_with fail
    refine bodyPost_ret (v := .tuple #[.agg #[.int .u8 2, .int .i64 num, .int .i64 0, .slice a ls.length c, .slice none 0 0, .slice none 0 0, .slice none 0 0], .int .i64 0]) (by simp [results, Try.results38, go_sem, r0, r1, r2, r3, r4, r5, r6]) rfl ?_
    rw [HQ.out, HE.out]
    refine ⟨⟨a, c, none, 0, none, 0, none, 0⟩, rfl, set7_oen HD8.out.2 HD8.out.1.r _ _ _ _ _ _ _, set7_below HD8.out.1.bel ?_ _ _ _ _ _ _ _⟩
    rw [HR.out]
    exact Nat.le_refl _
  · have hd2 : (st7.fin.e != 0) = true := by simpa using hf
    have HQ := Lib.hid (edec_bad HL.out (by rw [HE.out]; exact hf))
    clear hf
    go_wp2_with fail
    refine bodyPost_ret (v := .tuple #[.agg #[.int .u8 0, .int .i64 0, .int .i64 0, .slice none 0 0, .slice none 0 0, .slice none 0 0, .slice none 0 0], .int .i64 4]) (by simp [results, Try.results38, go_sem, r0, r1, r2, r3, r4, r5, r6]) rfl ?_
    rw [HQ.out]
    refine ⟨Ad.none, rfl, oen_zero, set7_below HD8.out.1.bel ?_ _ _ _ _ _ _ _⟩
    rw [HR.out]
    exact Nat.le_refl _

theorem eread_3 {s : List UInt8} (h : (RS.num 1 ⟨s, 0⟩).1 = 3) : eread s = (⟨3, 0, (oneNum (RS.num 1 ⟨s, 0⟩).2).1, [], [], (getM oneNum (oneNum (RS.num 1 ⟨s, 0⟩).2).2).1, []⟩, (getM oneNum (oneNum (RS.num 1 ⟨s, 0⟩).2).2).2) := by
  unfold eread
  dsimp only
  rw [if_neg (by rw [h]; decide)]; rw [if_neg (by rw [h]; decide)]; rw [if_pos h]
set_option maxRecDepth 100000 in
set_option maxHeartbeats 2000000 in
theorem dec_3 (s : List UInt8) (w : World) (h : s.length ≤ 2048) (hk : (RS.num 1 ⟨s, 0⟩).1 = 3) : Calls Try.prog 38 #[.string ⟨s.toArray⟩] w (EnPost (edec s).1 (edec s).2 w) := by
  have HE := Lib.hid (eread_3 hk)
  have h9 : s.length ≤ 9223372036854775807 := by omega
  have hd : decide ((2048 : Int) < (s.length : Int)) = false := decide_eq_false (by omega)
  have HO := Lib.hid (open_any s (w.alloc (.cells #[.int .u8 0, .int .i64 0, .int .i64 0, .slice none 0 0, .slice none 0 0, .slice none 0 0, .slice none 0 0] 55)))
  have HL := Lib.hid h
  clear h
  go_enter Try.func38, Try.ntmps38
  go_wp2_with fail
  refine (Calls.mono HO.out ?_)
  rintro e w1 ⟨rfl, h1, b1⟩
  simp only [asz] at h1 b1 ⊢
  have HD := Lib.hid (DSt.make b1 h1)
  clear h1 b1 HO hd
  go_upto_region 5 with fail
  obtain ⟨W1, hW1⟩ : ∃ W1, W1 = w1.alloc (.cells #[.int .u8 0, .int .i64 0, .int .i64 0, .slice none 0 0, .slice none 0 0, .slice none 0 0, .slice none 0 0] 55) := ⟨_, rfl⟩
  have HD1 : DSt w w.heap.size (w.heap.size + 1) w1.heap.size ⟨s, 0⟩ zero7 W1 := by rw [hW1]; exact HD.out
  rw [← hW1]
  have HW := Lib.hid hW1
  clear HD hW1 HW
  generalize w1.heap.size = V at *
  generalize hRR : w.heap.size = R at HD1 ⊢
  have HR := Lib.hid hRR
  clear hRR
  have HB := Lib.hid (Byte_any (R + 1) ⟨s, 0⟩ W1 HD1.rd)
  have HD2 := Lib.hid HD1
  clear HD1
  go_wp2_with fail
  refine (Calls.mono HB.out ?_)
  rintro e w2 ⟨rfl, h2, o2⟩
  have D2 := HD2.out.read h2 o2
  have v0 : w2.cell? ⟨V, 0, none⟩ = some (.int .u8 0) := D2.v.cell 0
  have z0 := D2.v.frozen 0
  have HD3 := Lib.hid (D2.set_ 0 (.int .u8 (RS.num 1 ⟨s, 0⟩).1))
  clear HB HD2 h2 o2 D2
  go_upto_region 6 with fail
  clear v0 z0
  generalize (RS.num 1 ⟨s, 0⟩).2 = st at *
  generalize (RS.num 1 ⟨s, 0⟩).1 = kk at *
  subst hk
  generalize (w2.setCell ⟨V, 0, none⟩ (.int .u8 3)) = w3 at *
  have D3 := HD3.out
  have v0 : w3.cell? ⟨V, 0, none⟩ = some (.int .u8 3) := D3.v.cell 0
  have HN := Lib.hid (getNumber_any (R + 1) st w3 D3.rd)
  clear D3
  go_wp2_with fail
  refine (Calls.mono HN.out ?_)
  rintro e w4 ⟨rfl, h4, o4⟩
  have D4 := HD3.out.read h4 o4
  have x2 : w4.cell? ⟨V, 2, none⟩ = some (.int .i64 0) := D4.v.cell 2
  have z2 := D4.v.frozen 2
  have HD5 := Lib.hid (D4.set_ 2 (.int .i64 (oneNum st).1))
  clear HN HD3 h4 o4 D4
  go_upto_region 15 with fail
  clear x2 z2
  generalize (oneNum st).2 = st5 at *
  generalize (oneNum st).1 = num at *
  generalize (w4.setCell ⟨V, 2, none⟩ (.int .i64 num)) = w5 at *
  have D5 := HD5.out
  have HG := Lib.hid (get_num (R + 1) st5 w5 D5.rd)
  have HX := Lib.hid D5
  clear D5
  go_wp2_with fail
  refine (Calls.mono HG.out ?_)
  rintro e w6 ⟨a, c, rfl, l6, h6, o6⟩
  have D6 := HX.out.read h6 o6
  have x5 : w6.cell? ⟨V, 5, none⟩ = some (.slice none 0 0) := D6.v.cell 5
  have z5 := D6.v.frozen 5
  generalize (getM oneNum st5).2 = st7 at *
  generalize (getM oneNum st5).1 = ls at *
  have hbase := HX.out.base
  have O6 : OEn w.heap.size w6.heap.size w6 ⟨3, 0, num, [], [], ls, []⟩ ⟨none, 0, none, 0, a, c, none, 0⟩ := ⟨.inl rfl, .inl rfl, l6.more hbase (Nat.le_refl _), .inl rfl⟩
  have HD7 := Lib.hid (And.intro (D6.set_ 5 (.slice a ls.length c)) (D6.oen_set O6 5 (.slice a ls.length c)))
  clear HG HX l6 h6 o6 D6 O6 hbase HD5
  go_upto_region 19 with fail
  clear x5 z5
  generalize (w6.setCell ⟨V, 5, none⟩ (.slice a ls.length c)) = w7 at *
  have HF := Lib.hid (end_any (R + 1) st7 w7 HD7.out.1.rd)
  go_wp2_with fail
  refine (Calls.mono HF.out ?_)
  rintro e w8 ⟨rfl, h8, o8⟩
  have D8 := HD7.out.1.read h8 o8
  have HD8 := Lib.hid (And.intro D8 (HD7.out.1.oen_read HD7.out.2 o8))
  obtain ⟨r0, r1, r2, r3, r4, r5, r6⟩ := D8.r.seven
  obtain ⟨y0, y1, y2, y3, y4, y5, y6⟩ := D8.r.seven_f
  have u0 : w8.cell? ⟨V, 0, none⟩ = some (.int .u8 3) := D8.v.cell 0
  have u1 : w8.cell? ⟨V, 1, none⟩ = some (.int .i64 0) := D8.v.cell 1
  have u2 : w8.cell? ⟨V, 2, none⟩ = some (.int .i64 num) := D8.v.cell 2
  have u3 : w8.cell? ⟨V, 3, none⟩ = some (.slice none 0 0) := D8.v.cell 3
  have u4 : w8.cell? ⟨V, 4, none⟩ = some (.slice none 0 0) := D8.v.cell 4
  have u5 : w8.cell? ⟨V, 5, none⟩ = some (.slice a ls.length c) := D8.v.cell 5
  have u6 : w8.cell? ⟨V, 6, none⟩ = some (.slice none 0 0) := D8.v.cell 6
  clear HF HD7 h8 o8 D8
  by_cases hf : st7.fin.e = 0
  · have HQ := Lib.hid (edec_good HL.out (by rw [HE.out]; exact hf))
    rw [hf]
    clear hf
    go_wp2_with fail
    refine bodyPost_ret (v := .tuple #[.agg #[.int .u8 3, .int .i64 0, .int .i64 num, .slice none 0 0, .slice none 0 0, .slice a ls.length c, .slice none 0 0], .int .i64 0]) (by simp [results, Try.results38, go_sem, r0, r1, r2, r3, r4, r5, r6]) rfl ?_
    rw [HQ.out, HE.out]
    refine ⟨⟨none, 0, none, 0, a, c, none, 0⟩, rfl, set7_oen HD8.out.2 HD8.out.1.r _ _ _ _ _ _ _, set7_below HD8.out.1.bel ?_ _ _ _ _ _ _ _⟩
    rw [HR.out]
    exact Nat.le_refl _
  · have hd2 : (st7.fin.e != 0) = true := by simpa using hf
    have HQ := Lib.hid (edec_bad HL.out (by rw [HE.out]; exact hf))
    clear hf
    go_wp2_with fail
    refine bodyPost_ret (v := .tuple #[.agg #[.int .u8 0, .int .i64 0, .int .i64 0, .slice none 0 0, .slice none 0 0, .slice none 0 0, .slice none 0 0], .int .i64 4]) (by simp [results, Try.results38, go_sem, r0, r1, r2, r3, r4, r5, r6]) rfl ?_
    rw [HQ.out]
    refine ⟨Ad.none, rfl, oen_zero, set7_below HD8.out.1.bel ?_ _ _ _ _ _ _ _⟩
    rw [HR.out]
    exact Nat.le_refl _

theorem eread_4 {s : List UInt8} (h : (RS.num 1 ⟨s, 0⟩).1 = 4) : eread s = (⟨4, 0, (oneNum (RS.num 1 ⟨s, 0⟩).2).1, [], [], [], (getM oneDeal (oneNum (RS.num 1 ⟨s, 0⟩).2).2).1⟩, (getM oneDeal (oneNum (RS.num 1 ⟨s, 0⟩).2).2).2) := by
  unfold eread
  dsimp only
  rw [if_neg (by rw [h]; decide)]; rw [if_neg (by rw [h]; decide)]; rw [if_neg (by rw [h]; decide)]; rw [if_pos h]
set_option maxRecDepth 100000 in
set_option maxHeartbeats 2000000 in
theorem dec_4 (s : List UInt8) (w : World) (h : s.length ≤ 2048) (hk : (RS.num 1 ⟨s, 0⟩).1 = 4) : Calls Try.prog 38 #[.string ⟨s.toArray⟩] w (EnPost (edec s).1 (edec s).2 w) := by
  have HE := Lib.hid (eread_4 hk)
  have h9 : s.length ≤ 9223372036854775807 := by omega
  have hd : decide ((2048 : Int) < (s.length : Int)) = false := decide_eq_false (by omega)
  have HO := Lib.hid (open_any s (w.alloc (.cells #[.int .u8 0, .int .i64 0, .int .i64 0, .slice none 0 0, .slice none 0 0, .slice none 0 0, .slice none 0 0] 55)))
  have HL := Lib.hid h
  clear h
  go_enter Try.func38, Try.ntmps38
  go_wp2_with fail
  refine (Calls.mono HO.out ?_)
  rintro e w1 ⟨rfl, h1, b1⟩
  simp only [asz] at h1 b1 ⊢
  have HD := Lib.hid (DSt.make b1 h1)
  clear h1 b1 HO hd
  go_upto_region 5 with fail
  obtain ⟨W1, hW1⟩ : ∃ W1, W1 = w1.alloc (.cells #[.int .u8 0, .int .i64 0, .int .i64 0, .slice none 0 0, .slice none 0 0, .slice none 0 0, .slice none 0 0] 55) := ⟨_, rfl⟩
  have HD1 : DSt w w.heap.size (w.heap.size + 1) w1.heap.size ⟨s, 0⟩ zero7 W1 := by rw [hW1]; exact HD.out
  rw [← hW1]
  have HW := Lib.hid hW1
  clear HD hW1 HW
  generalize w1.heap.size = V at *
  generalize hRR : w.heap.size = R at HD1 ⊢
  have HR := Lib.hid hRR
  clear hRR
  have HB := Lib.hid (Byte_any (R + 1) ⟨s, 0⟩ W1 HD1.rd)
  have HD2 := Lib.hid HD1
  clear HD1
  go_wp2_with fail
  refine (Calls.mono HB.out ?_)
  rintro e w2 ⟨rfl, h2, o2⟩
  have D2 := HD2.out.read h2 o2
  have v0 : w2.cell? ⟨V, 0, none⟩ = some (.int .u8 0) := D2.v.cell 0
  have z0 := D2.v.frozen 0
  have HD3 := Lib.hid (D2.set_ 0 (.int .u8 (RS.num 1 ⟨s, 0⟩).1))
  clear HB HD2 h2 o2 D2
  go_upto_region 6 with fail
  clear v0 z0
  generalize (RS.num 1 ⟨s, 0⟩).2 = st at *
  generalize (RS.num 1 ⟨s, 0⟩).1 = kk at *
  subst hk
  generalize (w2.setCell ⟨V, 0, none⟩ (.int .u8 4)) = w3 at *
  have D3 := HD3.out
  have v0 : w3.cell? ⟨V, 0, none⟩ = some (.int .u8 4) := D3.v.cell 0
  have HN := Lib.hid (getNumber_any (R + 1) st w3 D3.rd)
  clear D3
  go_wp2_with fail
  refine (Calls.mono HN.out ?_)
  rintro e w4 ⟨rfl, h4, o4⟩
  have D4 := HD3.out.read h4 o4
  have x2 : w4.cell? ⟨V, 2, none⟩ = some (.int .i64 0) := D4.v.cell 2
  have z2 := D4.v.frozen 2
  have HD5 := Lib.hid (D4.set_ 2 (.int .i64 (oneNum st).1))
  clear HN HD3 h4 o4 D4
  go_upto_region 18 with fail
  clear x2 z2
  generalize (oneNum st).2 = st5 at *
  generalize (oneNum st).1 = num at *
  generalize (w4.setCell ⟨V, 2, none⟩ (.int .i64 num)) = w5 at *
  have D5 := HD5.out
  have HG := Lib.hid (get_deal (R + 1) st5 w5 D5.rd)
  have HX := Lib.hid D5
  clear D5
  go_wp2_with fail
  refine (Calls.mono HG.out ?_)
  rintro e w6 ⟨a, c, rfl, l6, h6, o6⟩
  have D6 := HX.out.read h6 o6
  have x6 : w6.cell? ⟨V, 6, none⟩ = some (.slice none 0 0) := D6.v.cell 6
  have z6 := D6.v.frozen 6
  generalize (getM oneDeal st5).2 = st7 at *
  generalize (getM oneDeal st5).1 = ls at *
  have hbase := HX.out.base
  have O6 : OEn w.heap.size w6.heap.size w6 ⟨4, 0, num, [], [], [], ls⟩ ⟨none, 0, none, 0, none, 0, a, c⟩ := ⟨.inl rfl, .inl rfl, .inl rfl, l6.more hbase (Nat.le_refl _)⟩
  have HD7 := Lib.hid (And.intro (D6.set_ 6 (.slice a ls.length c)) (D6.oen_set O6 6 (.slice a ls.length c)))
  clear HG HX l6 h6 o6 D6 O6 hbase HD5
  go_upto_region 19 with fail
  clear x6 z6
  generalize (w6.setCell ⟨V, 6, none⟩ (.slice a ls.length c)) = w7 at *
  have HF := Lib.hid (end_any (R + 1) st7 w7 HD7.out.1.rd)
  go_wp2_with fail
  refine (Calls.mono HF.out ?_)
  rintro e w8 ⟨rfl, h8, o8⟩
  have D8 := HD7.out.1.read h8 o8
  have HD8 := Lib.hid (And.intro D8 (HD7.out.1.oen_read HD7.out.2 o8))
  obtain ⟨r0, r1, r2, r3, r4, r5, r6⟩ := D8.r.seven
  obtain ⟨y0, y1, y2, y3, y4, y5, y6⟩ := D8.r.seven_f
  have u0 : w8.cell? ⟨V, 0, none⟩ = some (.int .u8 4) := D8.v.cell 0
  have u1 : w8.cell? ⟨V, 1, none⟩ = some (.int .i64 0) := D8.v.cell 1
  have u2 : w8.cell? ⟨V, 2, none⟩ = some (.int .i64 num) := D8.v.cell 2
  have u3 : w8.cell? ⟨V, 3, none⟩ = some (.slice none 0 0) := D8.v.cell 3
  have u4 : w8.cell? ⟨V, 4, none⟩ = some (.slice none 0 0) := D8.v.cell 4
  have u5 : w8.cell? ⟨V, 5, none⟩ = some (.slice none 0 0) := D8.v.cell 5
  have u6 : w8.cell? ⟨V, 6, none⟩ = some (.slice a ls.length c) := D8.v.cell 6
  clear HF HD7 h8 o8 D8
  by_cases hf : st7.fin.e = 0
  · have HQ := Lib.hid (edec_good HL.out (by rw [HE.out]; exact hf))
    rw [hf]
    clear hf
    go_wp2_with fail
    refine bodyPost_ret (v := .tuple #[.agg #[.int .u8 4, .int .i64 0, .int .i64 num, .slice none 0 0, .slice none 0 0, .slice none 0 0, .slice a ls.length c], .int .i64 0]) (by simp [results, Try.results38, go_sem, r0, r1, r2, r3, r4, r5, r6]) rfl ?_
    rw [HQ.out, HE.out]
    refine ⟨⟨none, 0, none, 0, none, 0, a, c⟩, rfl, set7_oen HD8.out.2 HD8.out.1.r _ _ _ _ _ _ _, set7_below HD8.out.1.bel ?_ _ _ _ _ _ _ _⟩
    rw [HR.out]
    exact Nat.le_refl _
  · have hd2 : (st7.fin.e != 0) = true := by simpa using hf
    have HQ := Lib.hid (edec_bad HL.out (by rw [HE.out]; exact hf))
    clear hf
    go_wp2_with fail
    refine bodyPost_ret (v := .tuple #[.agg #[.int .u8 0, .int .i64 0, .int .i64 0, .slice none 0 0, .slice none 0 0, .slice none 0 0, .slice none 0 0], .int .i64 4]) (by simp [results, Try.results38, go_sem, r0, r1, r2, r3, r4, r5, r6]) rfl ?_
    rw [HQ.out]
    refine ⟨Ad.none, rfl, oen_zero, set7_below HD8.out.1.bel ?_ _ _ _ _ _ _ _⟩
    rw [HR.out]
    exact Nat.le_refl _

/-- What Decode answers. -/
theorem dec_any (s : List UInt8) (w : World) (h9 : s.length ≤ 9223372036854775807) : Calls Try.prog 38 #[.string ⟨s.toArray⟩] w (EnPost (edec s).1 (edec s).2 w) := by
  by_cases h : s.length ≤ 2048
  · by_cases k1 : (RS.num 1 ⟨s, 0⟩).1 = 1
    · exact dec_1 s w h k1
    by_cases k2 : (RS.num 1 ⟨s, 0⟩).1 = 2
    · exact dec_2 s w h k2
    by_cases k3 : (RS.num 1 ⟨s, 0⟩).1 = 3
    · exact dec_3 s w h k3
    by_cases k4 : (RS.num 1 ⟨s, 0⟩).1 = 4
    · exact dec_4 s w h k4
    have t1 := beq_eq_false_iff_ne.2 k1
    have t2 := beq_eq_false_iff_ne.2 k2
    have t3 := beq_eq_false_iff_ne.2 k3
    have t4 := beq_eq_false_iff_ne.2 k4
    have e : edec s = (En.zero, 4) := edec_bad h (by rw [eread_0 t1 t2 t3 t4]; decide)
    rw [e]
    exact dec_0 s w h t1 t2 t3 t4
  · rw [edec_long (by omega)]
    exact dec_long s w (by omega) h9

end Go.Proofs.Ytdnkijljpmcejaa
