/-
  net.New, Len, is, Crowded, At.
-/
import Derived.Test.YtbibbndjnlnbiaaNetC
import Derived.Maps.OwnOps
import Derived.Deep.RegionHeld3
namespace Go.Proofs.Ytbibbndjnlnbiaa
open Go.RowKit Go.Maps

section
variable {B S g mb : Nat} {rs : Option Nat} {n : Nt} {w w' : World} {v : Value} {ts : List Int} {D : DataW Value}
theorem RowAt.form (h : RowAt B S rs w v ts) : ∃ a c, v = .slice a ts.length c ∧ ts.length ≤ c ∧ c ≤ 9223372036854775807 ∨ ts.length > 1000000 := by
  rcases h with ⟨_, a, hv, hr⟩ | ⟨q, e, hq, ho, hr⟩
  · by_cases hl : ts.length > 1000000
    · exact ⟨none, 0, .inr hl⟩
    · exact ⟨a, ts.length, .inl ⟨hv, Nat.le_refl _, by omega⟩⟩
  · rcases hr.2 with ⟨rfl, _⟩ | ⟨g', cap, cur, rfl, h1, h2, h3, h4, h5, h6⟩
    · simp [Value.ownBlock] at ho
    · exact ⟨_, cap, .inl ⟨rfl, h3, by simp [maxLen] at h4; omega⟩⟩
theorem NetIn.form {K : Nat} (h : NetIn B S g mb rs n w v ts D) (ok : n.Ok K) : ∃ a c, v = .slice a n.l.length c ∧ n.l.length ≤ c ∧ c ≤ 9223372036854775807 := by
  have h1 := ok.len
  have h2 := ok.most2
  obtain ⟨a, c, h3 | h3⟩ := h.row.form
  · rw [h.len] at h3
    exact ⟨a, c, h3⟩
  · rw [h.len] at h3
    omega
theorem NetIn.short {K : Nat} (_h : NetIn B S g mb rs n w v ts D) (ok : n.Ok K) : n.l.length ≤ 4096 := by
  have h1 := ok.len
  have h2 := ok.most2
  omega
/-- The ticket at a place, in its cell. -/
theorem RowAt.at (h : RowAt B S rs w v ts) {j : Nat} {t : Int} (ht : ts[j]? = some t) : ∃ q c, v = .slice (some ⟨q, 0, none⟩) ts.length c ∧ w.cell? ⟨q, j, none⟩ = some (.int .i64 t) := by
  have hj : j < ts.length := (List.getElem?_eq_some_iff.1 ht).1
  rcases h with ⟨_, a, hv, hr⟩ | ⟨q, e, hq, ho, hr⟩
  · rcases hr with h0 | ⟨q, cur, ha, _, _, hb, hc⟩
    · rw [h0] at hj; simp at hj
    · exact ⟨q, _, by rw [hv, ha], (hb.cell j).trans (hc j t ht)⟩
  · rcases hr.2 with ⟨rfl, _⟩ | ⟨g', cap, cur, rfl, _⟩
    · simp [Value.ownBlock] at ho
    · refine ⟨g', cap, rfl, ?_⟩
      have := hr.cells (g := g') rfl j (.int .i64 t) (by simp [ht])
      rwa [Addr.add_lit, Nat.zero_add] at this
end

theorem info_map : Try.prog.underlying 72 = some (.map 3 32) := Try.underlying72
def zeroVal : Value := .agg #[.int .u8 0, .int .i64 0, .int .i64 0, .int .i64 0, .int .i64 0, .int .i64 0, .int .i64 0, .int .i64 0, .int .i64 0, .string ⟨#[]⟩, .slice none 0 0]
theorem zero_msg (w : World) : (zeroValue 32).run Try.prog w = .ok zeroVal w := by kernel_rfl
theorem key_law : Keyed Try.prog 3 := int_keyed Try.underlying3
theorem key_of {t : Int} (h : I64 t) : keyOf Try.prog 3 (.int .i64 t) = some (.int .i64 t) := keyOf_int_mk Try.underlying3 (by
  have := h
  unfold I64 at this
  simp only [Lit.wf, Bool.and_eq_true, decide_eq_true_eq]
  exact this)
set_option maxRecDepth 100000 in
theorem tick_look {b n : Nat} {w : World} {D : DataW Value} {t : Int} {m : Mg} {a : Option Addr} {c : Nat} (h : w.ownsMap Try.prog 3 held b n D) (ht : I64 t) (hT : ∀ z, D.atKey (.int .i64 t) z = .held (m.val a c)) :
    (Instr.lookup 72 (.map (some b)) (.int .i64 t) false).run Try.prog w = .ok (m.val a c) w := by
  obtain ⟨v, ps, hr, hv⟩ := h.lookup key_law info_map (zero_msg w) (zd := .held zeroVal) (zp := []) rfl (key_of ht)
  rw [hT] at hv
  unfold held at hv
  injection hv with hv
  injection hv with hv _
  injection hv with hv
  rw [hr, hv]

set_option maxRecDepth 100000 in
/-- What a call that only looks at a net leaves. -/
theorem len_any {B S g mb : Nat} {rs : Option Nat} {n : Nt} {K : Nat} (w : World) (h : NetAt B S g mb rs n w) (ok : n.Ok K) :
    Calls Try.prog 18 #[.pointer (some ⟨g, 0, none⟩)] w fun e w' => e = .returned (.int .i64 n.l.length) ∧ w = w' := by
  obtain ⟨v, ts, D, h⟩ := h
  obtain ⟨a, c, rfl, _, _⟩ := h.form ok
  have x2 : w.cell? ⟨g, 2, none⟩ = some (.slice a n.l.length c) := h.blk.cell 2
  clear h ok
  go_enter Try.func18, Try.ntmps18
  go_wp2_with fail
  go_ret
  exact ⟨rfl, rfl⟩
set_option maxRecDepth 100000 in
theorem len_nil (w : World) : Calls Try.prog 18 #[.pointer none] w fun e w' => e = .returned (.int .i64 0) ∧ w = w' := by
  go_enter Try.func18, Try.ntmps18
  go_wp2_with fail
  go_ret
  exact ⟨rfl, rfl⟩
set_option maxRecDepth 100000 in
theorem crowded_any {B S g mb : Nat} {rs : Option Nat} {n : Nt} (w : World) (h : NetAt B S g mb rs n w) :
    Calls Try.prog 24 #[.pointer (some ⟨g, 0, none⟩)] w fun e w' => e = .returned (.int .i64 n.out) ∧ w = w' := by
  obtain ⟨v, ts, D, h⟩ := h
  have x4 : w.cell? ⟨g, 4, none⟩ = some (.int .i64 n.out) := h.blk.cell 4
  clear h
  go_enter Try.func24, Try.ntmps24
  go_wp2_with fail
  go_ret
  exact ⟨rfl, rfl⟩
set_option maxRecDepth 100000 in
theorem crowded_nil (w : World) : Calls Try.prog 24 #[.pointer none] w fun e w' => e = .returned (.int .i64 0) ∧ w = w' := by
  go_enter Try.func24, Try.ntmps24
  go_wp2_with fail
  go_ret
  exact ⟨rfl, rfl⟩
set_option maxRecDepth 100000 in
theorem is_any {B S g mb : Nat} {rs : Option Nat} {n : Nt} {K : Nat} (k : Int) (w : World) (h : NetAt B S g mb rs n w) (ok : n.Ok K) :
    Calls Try.prog 48 #[.pointer (some ⟨g, 0, none⟩), .int .i64 k] w fun e w' => e = .returned (.bool (n.is k)) ∧ w = w' := by
  have HL := Lib.hid (len_any w h ok)
  clear h ok
  by_cases h0 : 0 ≤ k
  · have e1 : decide (0 ≤ k) = true := decide_eq_true h0
    by_cases h1 : k < (n.l.length : Int)
    · have e2 : n.is k = true := Nt.is_iff.2 ⟨h0, h1⟩
      have e3 : decide (k < (n.l.length : Int)) = true := decide_eq_true h1
      rw [e2]
      clear e2
      go_enter Try.func48, Try.ntmps48
      go_wp2_with fail
      refine (Calls.mono HL.out ?_)
      rintro e w' ⟨rfl, rfl⟩
      go_wp2_with fail
      go_ret
      exact ⟨rfl, rfl⟩
    · have e2 : n.is k = false := by simp [Nt.is, h1]
      have e3 : decide (k < (n.l.length : Int)) = false := decide_eq_false h1
      rw [e2]
      clear e2
      go_enter Try.func48, Try.ntmps48
      go_wp2_with fail
      refine (Calls.mono HL.out ?_)
      rintro e w' ⟨rfl, rfl⟩
      go_wp2_with fail
      go_ret
      exact ⟨rfl, rfl⟩
  · have e1 : decide (0 ≤ k) = false := decide_eq_false h0
    have e2 : n.is k = false := by simp [Nt.is, h0]
    rw [e2]
    clear e2
    go_enter Try.func48, Try.ntmps48
    go_wp2_with fail
    go_ret
    exact ⟨rfl, rfl⟩
set_option maxRecDepth 100000 in
theorem is_nil (k : Int) (w : World) :
    Calls Try.prog 48 #[.pointer none, .int .i64 k] w fun e w' => e = .returned (.bool false) ∧ w = w' := by
  by_cases h0 : 0 ≤ k
  · have e1 : decide (0 ≤ k) = true := decide_eq_true h0
    have e3 : decide (k < (0 : Int)) = false := decide_eq_false (by omega)
    go_enter Try.func48, Try.ntmps48
    go_wp2_with fail
    refine (len_nil w).mono ?_
    rintro e w' ⟨rfl, rfl⟩
    go_wp2_with fail
    go_ret
    exact ⟨rfl, rfl⟩
  · have e1 : decide (0 ≤ k) = false := decide_eq_false h0
    go_enter Try.func48, Try.ntmps48
    go_wp2_with fail
    go_ret
    exact ⟨rfl, rfl⟩

/-- The message at a place, as a message of its own. -/
def AtPost (m : Mg) (b : Bool) (w : World) (e : Ending) (w' : World) : Prop := ∃ a' c', e = .returned (.tuple #[m.val a' c', .bool b]) ∧ w'.ownsRow w.heap.size 56 1 (.slice a' m.l.length c') m.l.length (m.l.map (.int .u64)) ∧ Below w.heap.size w w'
set_option maxRecDepth 100000 in
theorem at_no (p : Option Addr) (k : Int) (w : World) (his : Calls Try.prog 48 #[.pointer p, .int .i64 k] (w.alloc (.cells zeroCells 32)) fun e w' => e = .returned (.bool false) ∧ (w.alloc (.cells zeroCells 32)) = w') :
    Calls Try.prog 17 #[.pointer p, .int .i64 k] w (AtPost Mg.zero false w) := by
  have HI := Lib.hid his
  have R2 := Blk.new w 32 zeroCells
  have B2 : Below w.heap.size w (w.alloc (.cells zeroCells 32)) := (Below.refl _ w).alloc (Nat.le_refl _) _
  unfold zeroCells at HI R2 B2
  clear his
  obtain ⟨W, hW⟩ : ∃ W, W = w.alloc (.cells #[.int .u8 0, .int .i64 0, .int .i64 0, .int .i64 0, .int .i64 0, .int .i64 0, .int .i64 0, .int .i64 0, .int .i64 0, .string ⟨#[]⟩, .slice none 0 0] 32) := ⟨_, rfl⟩
  rw [← hW] at HI R2 B2
  have HW := Lib.hid hW
  clear hW
  have rc0 : W.cell? ⟨w.heap.size, 0, none⟩ = some (.int .u8 0) := R2.cell 0
  have rf0 : W.frozen? ⟨w.heap.size, 0, none⟩ = false := R2.frozen 0
  have rc1 : W.cell? ⟨w.heap.size, 1, none⟩ = some (.int .i64 0) := R2.cell 1
  have rf1 : W.frozen? ⟨w.heap.size, 1, none⟩ = false := R2.frozen 1
  have rc2 : W.cell? ⟨w.heap.size, 2, none⟩ = some (.int .i64 0) := R2.cell 2
  have rf2 : W.frozen? ⟨w.heap.size, 2, none⟩ = false := R2.frozen 2
  have rc3 : W.cell? ⟨w.heap.size, 3, none⟩ = some (.int .i64 0) := R2.cell 3
  have rf3 : W.frozen? ⟨w.heap.size, 3, none⟩ = false := R2.frozen 3
  have rc4 : W.cell? ⟨w.heap.size, 4, none⟩ = some (.int .i64 0) := R2.cell 4
  have rf4 : W.frozen? ⟨w.heap.size, 4, none⟩ = false := R2.frozen 4
  have rc5 : W.cell? ⟨w.heap.size, 5, none⟩ = some (.int .i64 0) := R2.cell 5
  have rf5 : W.frozen? ⟨w.heap.size, 5, none⟩ = false := R2.frozen 5
  have rc6 : W.cell? ⟨w.heap.size, 6, none⟩ = some (.int .i64 0) := R2.cell 6
  have rf6 : W.frozen? ⟨w.heap.size, 6, none⟩ = false := R2.frozen 6
  have rc7 : W.cell? ⟨w.heap.size, 7, none⟩ = some (.int .i64 0) := R2.cell 7
  have rf7 : W.frozen? ⟨w.heap.size, 7, none⟩ = false := R2.frozen 7
  have rc8 : W.cell? ⟨w.heap.size, 8, none⟩ = some (.int .i64 0) := R2.cell 8
  have rf8 : W.frozen? ⟨w.heap.size, 8, none⟩ = false := R2.frozen 8
  have rc9 : W.cell? ⟨w.heap.size, 9, none⟩ = some (.string ⟨#[]⟩) := R2.cell 9
  have rf9 : W.frozen? ⟨w.heap.size, 9, none⟩ = false := R2.frozen 9
  have rc10 : W.cell? ⟨w.heap.size, 10, none⟩ = some (.slice none 0 0) := R2.cell 10
  have rf10 : W.frozen? ⟨w.heap.size, 10, none⟩ = false := R2.frozen 10
  go_enter Try.func17, Try.ntmps17
  go_wp2_with fail
  rw [← HW.out]
  clear HW
  refine (Calls.mono HI.out ?_)
  rintro e w' ⟨rfl, rfl⟩
  go_wp2_with fail
  refine bodyPost_ret (v := .tuple #[.agg #[.int .u8 0, .int .i64 0, .int .i64 0, .int .i64 0, .int .i64 0, .int .i64 0, .int .i64 0, .int .i64 0, .int .i64 0, .string ⟨#[]⟩, .slice none 0 0], .bool false]) (by simp [results, Try.results17, go_sem, rc0, rc1, rc2, rc3, rc4, rc5, rc6, rc7, rc8, rc9, rc10]) rfl ?_
  exact ⟨none, 0, rfl, own_none _ _ _, set11_below B2 (Nat.le_refl _) _ _ _ _ _ _ _ _ _ _ _⟩

set_option maxRecDepth 100000 in
theorem own_agg (m : Mg) (a : Option Addr) (c : Nat) (w : World) (hn : Nums .u64 w w.heap.size a m.l) (hl : m.l.length ≤ 1000000) :
    Calls Try.prog 49 #[.agg #[.int .u8 m.k, .int .i64 m.fr, .int .i64 m.to, .int .i64 m.ht, .int .i64 m.rd, .int .i64 m.vl, .int .i64 m.ep, .int .i64 m.dl, .int .i64 m.id, .string ⟨m.s.toArray⟩, .slice a m.l.length c]] w fun e w' => ∃ a' c', e = .returned (.agg #[.int .u8 m.k, .int .i64 m.fr, .int .i64 m.to, .int .i64 m.ht, .int .i64 m.rd, .int .i64 m.vl, .int .i64 m.ep, .int .i64 m.dl, .int .i64 m.id, .string ⟨m.s.toArray⟩, .slice a' m.l.length c']) ∧ w'.ownsRow w.heap.size 56 1 (.slice a' m.l.length c') m.l.length (m.l.map (.int .u64)) ∧ Below w.heap.size w w' := own_any m a c w hn hl
/-- What At's loads find. -/
def LookS (g mb q j n c' : Nat) (t : Int) (m : Mg) (a : Option Addr) (c : Nat) (w : World) : Prop :=
  w.cell? ⟨g, 3, none⟩ = some (.map (some mb)) ∧ w.cell? ⟨g, 2, none⟩ = some (.slice (some ⟨q, 0, none⟩) n c') ∧ w.cell? ⟨q, j, none⟩ = some (.int .i64 t) ∧
  (Instr.lookup 72 (.map (some mb)) (.int .i64 t) false).run Try.prog w = .ok (.agg #[.int .u8 m.k, .int .i64 m.fr, .int .i64 m.to, .int .i64 m.ht, .int .i64 m.rd, .int .i64 m.vl, .int .i64 m.ep, .int .i64 m.dl, .int .i64 m.id, .string ⟨m.s.toArray⟩, .slice a m.l.length c]) w
/-- What a net holds at a place. -/
theorem NetAt.look {B S g mb : Nat} {rs : Option Nat} {n : Nt} {K : Nat} {w : World} (h : NetAt B S g mb rs n w) (ok : n.Ok K) (hK : K ≤ 1000000) {j : Nat} {m : Mg} (hm : n.l[j]? = some m) :
    ∃ q c' t a c, (∀ w', Below S w w' → LookS g mb q j n.l.length c' t m a c w') ∧ Row .u64 56 B S w a m.l ∧ n.l.length ≤ c' := by
  obtain ⟨v, ts, D, h⟩ := h
  have hj : j < ts.length := by rw [h.len]; exact (List.getElem?_eq_some_iff.1 hm).1
  have ht : ts[j]? = some ts[j] := List.getElem?_eq_getElem hj
  obtain ⟨a, c, hT, hr⟩ := h.tie j _ m ht hm
  obtain ⟨a0, c0, hv0, hc0, _⟩ := h.form ok
  obtain ⟨q, c', hv, _⟩ := h.row.at ht
  have hlt := h.lt _ (List.getElem_mem hj)
  have hI : I64 ts[j] := by
    have := ok.nextK
    unfold I64
    omega
  have hcc : c0 = c' := by
    rw [hv] at hv0
    injection hv0 with _ _ h3
    exact h3.symm
  refine ⟨q, c', ts[j], a, c, fun w' b => ?_, hr, by omega⟩
  have h' := h.below b
  obtain ⟨q2, c2, hv2, hcell⟩ := h'.row.at ht
  rw [hv] at hv2
  injection hv2 with e1 _ e2
  injection e1 with e1
  injection e1 with e1 _ _
  subst e1 e2
  refine ⟨h'.blk.cell 3, ?_, hcell, tick_look h'.map hI hT⟩
  have := h'.blk.cell 2
  rw [hv, h.len] at this
  exact this

set_option maxRecDepth 100000 in
set_option maxHeartbeats 1000000 in
theorem at_yes {B S g mb : Nat} {rs : Option Nat} {n : Nt} {K : Nat} (k : Int) (w : World) (h : NetAt B S g mb rs n w) (ok : n.Ok K) (hK : K ≤ 1000000) (hk : n.is k = true) :
    Calls Try.prog 17 #[.pointer (some ⟨g, 0, none⟩), .int .i64 k] w (AtPost (n.msg k) true w) := by
  have hm := Nt.msg_at hk
  have hkk := Nt.is_iff.1 hk
  have hml : (n.msg k).l.length ≤ 1000000 := by
    have := Mg.may_len (ok.ok _ (Nt.msg_mem hk)).2
    omega
  generalize n.msg k = m at *
  obtain ⟨q, c', t, a, c, hS, hr, hc'⟩ := h.look ok hK hm
  have hSs := h.hS
  have R2 := Blk.new w 32 zeroCells
  have B2 : Below w.heap.size w (w.alloc (.cells zeroCells 32)) := (Below.refl _ w).alloc (Nat.le_refl _) _
  have HI0 := is_any k (w.alloc (.cells zeroCells 32)) (h.kept B2) ok
  rw [hk] at HI0
  have HI := Lib.hid HI0
  clear hk h HI0
  obtain ⟨j, rfl⟩ := Int.eq_ofNat_of_zero_le hkk.1
  have hj2 := hkk.2
  have hjc : (j : Int) < (c' : Int) := by omega
  rw [Int.toNat_natCast] at hS
  clear hkk hm
  unfold zeroCells at R2 B2 HI
  obtain ⟨W, hW⟩ : ∃ W, W = w.alloc (.cells #[.int .u8 0, .int .i64 0, .int .i64 0, .int .i64 0, .int .i64 0, .int .i64 0, .int .i64 0, .int .i64 0, .int .i64 0, .string ⟨#[]⟩, .slice none 0 0] 32) := ⟨_, rfl⟩
  rw [← hW] at R2 B2 HI
  have HW := Lib.hid hW
  clear hW
  have BS : Below S w W := ⟨B2.os, B2.tape, B2.output, B2.size, fun k hk => B2.block k (by omega)⟩
  have S0 : LookS g mb q j n.l.length c' t m a c W.drew := hS _ BS.drew
  have N0 : Nums .u64 W.drew W.drew.heap.size a m.l := ((hr.below BS.drew).numsAt).more (by have := B2.size; simp; omega)
  have HN := Lib.hid (And.intro N0 hml)
  have HS := Lib.hid hS
  obtain ⟨x3, x2, xq, xl⟩ := S0
  clear N0 hS hr
  go_enter Try.func17, Try.ntmps17
  go_wp2_with fail
  rw [← HW.out]
  clear HW
  refine (Calls.mono HI.out ?_)
  rintro e w' ⟨rfl, rfl⟩
  have hjl : (j : Int) < (n.l.length : Int) := hj2
  go_wp2_with fail
  clear ok hK hml
  go_region_held3 (fun w' => w'.cell? ⟨g, 3, none⟩ = some (.map (some mb)) ∧ w'.cell? ⟨g, 2, none⟩ = some (.slice (some ⟨q, 0, none⟩) n.l.length c') ∧ w'.cell? ⟨q, j, none⟩ = some (.int .i64 t) ∧
      (Instr.lookup 72 (.map (some mb)) (.int .i64 t) false).run Try.prog w' = .ok (.agg #[.int .u8 m.k, .int .i64 m.fr, .int .i64 m.to, .int .i64 m.ht, .int .i64 m.rd, .int .i64 m.vl, .int .i64 m.ep, .int .i64 m.dl, .int .i64 m.id, .string ⟨m.s.toArray⟩, .slice a m.l.length c]) w')
    (first | (with_reducible exact ⟨x3, x2, xq, xl⟩) | (with_reducible exact ⟨y3, y2, yq, yl⟩) | exact HS.out _ (set11_below B1S hSs _ _ _ _ _ _ _ _ _ _ _))
    ((go_at_call 49; (with_reducible refine (own_agg m a c _ HN.out.1 HN.out.2).mono ?_); rintro e1 w1 ⟨a1, c1, rfl, own1, b1⟩; have B1S := BS.drew.trans (b1.mono (by have := B2.size; simp; omega)); obtain ⟨y3, y2, yq, yl⟩ := HS.out w1 B1S; have R1 := (Blk.drew R2).kept b1; have B1 := step_below B2.drew b1; have O1 := own_more own1 B2.size; have rc0 : w1.cell? ⟨w.heap.size, 0, none⟩ = some (.int .u8 0) := R1.cell 0; have rf0 : w1.frozen? ⟨w.heap.size, 0, none⟩ = false := R1.frozen 0; have rc1 : w1.cell? ⟨w.heap.size, 1, none⟩ = some (.int .i64 0) := R1.cell 1; have rf1 : w1.frozen? ⟨w.heap.size, 1, none⟩ = false := R1.frozen 1; have rc2 : w1.cell? ⟨w.heap.size, 2, none⟩ = some (.int .i64 0) := R1.cell 2; have rf2 : w1.frozen? ⟨w.heap.size, 2, none⟩ = false := R1.frozen 2; have rc3 : w1.cell? ⟨w.heap.size, 3, none⟩ = some (.int .i64 0) := R1.cell 3; have rf3 : w1.frozen? ⟨w.heap.size, 3, none⟩ = false := R1.frozen 3; have rc4 : w1.cell? ⟨w.heap.size, 4, none⟩ = some (.int .i64 0) := R1.cell 4; have rf4 : w1.frozen? ⟨w.heap.size, 4, none⟩ = false := R1.frozen 4; have rc5 : w1.cell? ⟨w.heap.size, 5, none⟩ = some (.int .i64 0) := R1.cell 5; have rf5 : w1.frozen? ⟨w.heap.size, 5, none⟩ = false := R1.frozen 5; have rc6 : w1.cell? ⟨w.heap.size, 6, none⟩ = some (.int .i64 0) := R1.cell 6; have rf6 : w1.frozen? ⟨w.heap.size, 6, none⟩ = false := R1.frozen 6; have rc7 : w1.cell? ⟨w.heap.size, 7, none⟩ = some (.int .i64 0) := R1.cell 7; have rf7 : w1.frozen? ⟨w.heap.size, 7, none⟩ = false := R1.frozen 7; have rc8 : w1.cell? ⟨w.heap.size, 8, none⟩ = some (.int .i64 0) := R1.cell 8; have rf8 : w1.frozen? ⟨w.heap.size, 8, none⟩ = false := R1.frozen 8; have rc9 : w1.cell? ⟨w.heap.size, 9, none⟩ = some (.string ⟨#[]⟩) := R1.cell 9; have rf9 : w1.frozen? ⟨w.heap.size, 9, none⟩ = false := R1.frozen 9; have rc10 : w1.cell? ⟨w.heap.size, 10, none⟩ = some (.slice none 0 0) := R1.cell 10; have rf10 : w1.frozen? ⟨w.heap.size, 10, none⟩ = false := R1.frozen 10))
  go_wp2_with fail
  refine bodyPost_ret (v := .tuple #[.agg #[.int .u8 m.k, .int .i64 m.fr, .int .i64 m.to, .int .i64 m.ht, .int .i64 m.rd, .int .i64 m.vl, .int .i64 m.ep, .int .i64 m.dl, .int .i64 m.id, .string ⟨m.s.toArray⟩, .slice a1 m.l.length c1], .bool true]) (by simp [results, Try.results17, go_sem, rc0, rc1, rc2, rc3, rc4, rc5, rc6, rc7, rc8, rc9, rc10]) rfl ?_
  exact ⟨a1, c1, rfl, set11_own O1 R1 (by decide) _ _ _ _ _ _ _ _ _ _ _, set11_below B1 (Nat.le_refl _) _ _ _ _ _ _ _ _ _ _ _⟩
theorem at_any {B S g mb : Nat} {rs : Option Nat} {n : Nt} {K : Nat} (k : Int) (w : World) (h : NetAt B S g mb rs n w) (ok : n.Ok K) (hK : K ≤ 1000000) :
    Calls Try.prog 17 #[.pointer (some ⟨g, 0, none⟩), .int .i64 k] w (AtPost (n.msg k) (n.is k) w) := by
  cases hk : n.is k with
  | true => exact at_yes k w h ok hK hk
  | false =>
    rw [Nt.msg_no hk]
    refine at_no _ k w ?_
    have HI := is_any k (w.alloc (.cells zeroCells 32)) (h.kept ((Below.refl _ w).alloc (Nat.le_refl _) _)) ok
    rw [hk] at HI
    exact HI
end Go.Proofs.Ytbibbndjnlnbiaa
