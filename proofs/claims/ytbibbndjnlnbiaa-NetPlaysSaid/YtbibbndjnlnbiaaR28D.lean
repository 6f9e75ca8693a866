/-
  consistoryref28: the document's net in memory; own, is, New.
  consistoryref28.Send.
  consistoryref28.Give.
  consistoryref28.Lose, Twice, To.
-/
import Derived.Test.YtbibbndjnlnbiaaNetC
import Derived.Test.YtbibbndjnlnbiaaFlat
import Derived.Test.YtbibbndjnlnbiaaRInv
import Derived.Test.YtbibbndjnlnbiaaTells
import Derived.Test.YtbibbndjnlnbiaaNet5
import Derived.Test.YtbibbndjnlnbiaaNet7
namespace Go.Proofs.Ytbibbndjnlnbiaa
open Go.RowKit

/-- append to an empty slice of the call's own, at any operation. -/
theorem opTo_append_any {P : Program} {ops : Array Oper} {o : Oper} {a : Act} {w : World} {K : Value → World → Prop} {t e : TypeId} (hgd : o.guard = none) (s x : Operand)
    (ho : o.op = .call { callee := .builtin .append, args := #[s, x], argTypes := #[t, t] }) (base : Nat) (i : TypeInfo) (z : Value) (size bytes : Nat) (ht : P.underlying t = some (.slice e)) (hi : P.info? e = some i) (hz : i.zero = some z)
    (hsize : i.size = size) (hb : i.bytes = bytes) (hzs : z.cells.size = size) (hsz : 0 < size) (v : Value) (n : Nat) (xs : List Value) (hs : a.eval s = v) (hown : w.ownsRow base e size v n xs) (hv : v.ownBlock ≠ none)
    (ad : Option Addr) (m c : Nat) (news : List Value) (hx : a.eval x = .slice ad m c) (hl : news.length = m * size) (hnews : news = [] ∨ ∃ p, ad = some p ∧ ∀ j u, news[j]? = some u → w.cell? (p.add j) = some u) (h1 : ∀ u ∈ news, u.oneCell' = true)
    (h63 : n + m ≤ maxLen) (hbytes : (n + m) * bytes ≤ 140737488355328) (hbase : base ≤ w.heap.size)
    (h : ∀ q cap w', w'.ownsRow base e size (.slice (some ⟨q, 0, none⟩) (n + m) cap) (n + m) (xs ++ news) → w.grownBy w' v.ownBlock → (some q = v.ownBlock ∨ q = w.heap.size) → K (.slice (some ⟨q, 0, none⟩) (n + m) cap) w') : OpTo P ops o a w K := by
  have hw : Region.wanted o (yielded ops a.tmps) = true := by simp [Region.wanted, hgd]
  refine opTo_of hw fun K' hK => ?_
  obtain ⟨q, cap, w', hr, h2, h3, h4⟩ := run_append_any (P := P) w base t o.type e i z size bytes ht hi hz hsize hb hzs hsz v n xs hown hv ad m c news hl hnews h1 h63 hbytes hbase
  unfold Oper.wp execOp
  simp only [ho, resolve, invoke, builtin, Sem.run_bind, Sem.run_pure, Result.andThen_ok, List.map_toArray, List.map_cons, List.map_nil, hs, hx, hr]
  exact hK.out _ _ w' rfl (h q cap w' h2 h3 h4)
theorem infoMsgR : (Try.prog.info? 32).map (fun i => (i.zero, i.size, i.bytes)) = some (some (.agg zeroCells), 11, 112) := by kernel_rfl

theorem Flat.grow {w w' : World} {q cap : Nat} {xs : List Value} (h : Flat w q cap xs) (K : ∀ cs, Blk w q 32 cs → Blk w' q 32 cs) : Flat w' q cap xs := by
  obtain ⟨cur, hb, h⟩ := h
  exact ⟨cur, K cur hb, h⟩
theorem RowM.grow {X : Nat → Prop} {w w' : World} {q cap : Nat} {L : List Mg} (h : RowM X w q cap L) (K1 : ∀ cs, Blk w q 32 cs → Blk w' q 32 cs) (K2 : ∀ q cs, ¬ X q → Blk w q 56 cs → Blk w' q 56 cs) : RowM X w' q cap L := by
  obtain ⟨T, h1, h2, h3⟩ := h
  exact ⟨T, h1.grow K1, h2, fun t ht => (h3 t ht).grow K2⟩
/-- Messages under a slice. -/
def RowR (X : Nat → Prop) (w : World) (a : Option Addr) (c : Nat) (l : List Mg) : Prop := l = [] ∨ ∃ q, a = some ⟨q, 0, none⟩ ∧ RowM X w q c l
/-- The document's net at block x, as n is; its numbers lie at none of the blocks of X. -/
def RefAt (X : Nat → Prop) (B x : Nat) (n : Nt) (w : World) : Prop :=
  B ≤ x ∧ ∃ a c, Blk w x 58 #[.int .i64 n.most, .slice a n.l.length c, .int .i64 n.out] ∧ n.l.length ≤ c ∧ c ≤ maxLen ∧ RowR X w a c n.l
section
variable {X : Nat → Prop} {B x : Nat} {n : Nt} {w w' : World}
theorem RowR.grow {a : Option Addr} {c : Nat} {l : List Mg} (h : RowR X w a c l) (K1 : ∀ q cs, Blk w q 32 cs → Blk w' q 32 cs) (K2 : ∀ q cs, ¬ X q → Blk w q 56 cs → Blk w' q 56 cs) : RowR X w' a c l := by
  rcases h with h | ⟨q, ha, h⟩
  · exact .inl h
  · exact .inr ⟨q, ha, h.grow (K1 q) K2⟩
theorem RefAt.grow (h : RefAt X B x n w) (K0 : ∀ cs, Blk w x 58 cs → Blk w' x 58 cs) (K1 : ∀ q cs, Blk w q 32 cs → Blk w' q 32 cs) (K2 : ∀ q cs, ¬ X q → Blk w q 56 cs → Blk w' q 56 cs) : RefAt X B x n w' := by
  obtain ⟨hB, a, c, hb, h1, h2, h3⟩ := h
  exact ⟨hB, a, c, K0 _ hb, h1, h2, h3.grow K1 K2⟩
theorem RefAt.kept (h : RefAt X B x n w) (b : Below w.heap.size w w') : RefAt X B x n w' := h.grow (fun _ hb => hb.kept b) (fun _ _ hb => hb.kept b) (fun _ _ _ hb => hb.kept b)
theorem RefAt.drew (h : RefAt X B x n w) : RefAt X B x n w.drew := h.kept (Below.refl _ w).drew
theorem RefAt.lt (h : RefAt X B x n w) : x < w.heap.size := by
  obtain ⟨_, _, _, hb, _⟩ := h
  exact hb.lt
/-- What is at no block of X is at no block of a smaller one. -/
theorem NumT.less {Y : Nat → Prop} {a : Option Addr} {l : List Int} (h : NumT X w a l) (hY : ∀ q, q < w.heap.size → Y q → X q) : NumT Y w a l := by
  rcases h with h | ⟨q, cur, ha, hx, hb, hc⟩
  · exact .inl h
  · exact .inr ⟨q, cur, ha, fun hy => hx (hY q hb.lt hy), hb, hc⟩
theorem RefAt.less {Y : Nat → Prop} (h : RefAt X B x n w) (hY : ∀ q, q < w.heap.size → Y q → X q) : RefAt Y B x n w := by
  obtain ⟨hB, a, c, hb, h1, h2, h3⟩ := h
  refine ⟨hB, a, c, hb, h1, h2, ?_⟩
  rcases h3 with h3 | ⟨q, ha, T, f1, f2, f3⟩
  · exact .inl h3
  · exact .inr ⟨q, ha, T, f1, f2, fun t ht => (f3 t ht).less hY⟩
/-- Numbers of the law's own are written over. -/
theorem RefAt.set {q : Nat} {cs : Array Value} (h : RefAt X B x n w) (hx : X q) (hq : Blk w q 56 cs) (i : Nat) (v : Value) : RefAt X B x n (w.setCell ⟨q, i, none⟩ v) :=
  h.grow (fun _ hb => hb.farc (Blk.ne_ hb hq (by decide)) v) (fun _ _ hb => hb.farc (Blk.ne_ hb hq (by decide)) v) (fun _ _ hx' hb => hb.farc (fun e => hx' (e ▸ hx)) v)
theorem RowR.at {a : Option Addr} {c : Nat} {l : List Mg} (h : RowR X w a c l) {i : Nat} {m : Mg} (hm : l[i]? = some m) : ∃ q a' c', a = some ⟨q, 0, none⟩ ∧ MsgAt w q (i * 11) ⟨m, a', c'⟩ ∧ Nums .u64 w w.heap.size a' m.l := by
  rcases h with h | ⟨q, ha, h⟩
  · rw [h] at hm; simp at hm
  · obtain ⟨a', c', h1, h2⟩ := h.at hm
    exact ⟨q, a', c', ha, h1, h2⟩
end

set_option maxRecDepth 100000 in
set_option maxHeartbeats 2000000 in
theorem rown_any (m : Mg) (a : Option Addr) (c : Nat) (w : World) (hn : Nums .u64 w w.heap.size a m.l) (hl : m.l.length ≤ 1000000) :
    Calls Try.prog 51 #[m.val a c] w (OwnPost m w) := by
  have M0 := ownW_1 w m a c
  have R0 := ownW_2 w m a c
  have B0 := ownW_below w m a c
  have hW1 : w.heap.size + 1 < (ownW w m a c).heap.size := R0.lt
  obtain ⟨W, hW⟩ : ∃ W, W = ownW w m a c := ⟨_, rfl⟩
  rw [← hW] at M0 R0 B0 hW1
  have N0 := nums_step hn B0
  have al : Below W.heap.size W (W.alloc (.cells #[] 56)) := (Below.refl _ W).alloc (Nat.le_refl _) _
  have M1 := M0.alloc (.cells #[] 56)
  have R1 := R0.alloc (.cells #[] 56)
  have own0 : (W.alloc (.cells #[] 56)).ownsRow w.heap.size 56 1 (.slice (some ⟨W.heap.size, 0, none⟩) 0 0) 0 [] := World.ownsRow_made W #[] 0 B0.size (Nat.zero_le _) (by simp)
  obtain ⟨i0, hi, hz0, hz1, hz2⟩ := info_parts infoU64
  have hnw := Nums.news (nums_step N0 al)
  have x10 : (W.alloc (.cells #[] 56)).cell? ⟨w.heap.size, 10, none⟩ = some (.slice a m.l.length c) := M1.cell 10
  have HO := Lib.hid (And.intro own0 (And.intro hnw (And.intro (show (m.l.map (Value.int .u64)).length = m.l.length * 1 by simp) (And.intro (one_u64 m.l) (And.intro M1 (And.intro R1 (And.intro (step_below B0 al) hW1)))))))
  unfold ownW Mg.cells zeroCells at hW
  have HW := Lib.hid hW
  clear hW hn N0 M0 R0 M1 R1 own0 hnw al B0 hW1
  unfold Mg.val
  go_enter Try.func51, Try.ntmps51
  go_upto_region 1 with fail
  rw [← HW.out]
  clear HW
  go_upto_region 2 with (at_builtin; refine wpList_append_gen _ rfl _ _ 30 rfl w.heap.size 56 i0 (.int .u64 0) 1 8 Try.underlying30 hi hz0 hz1 hz2 rfl (by decide) (.slice (some ⟨W.heap.size, 0, none⟩) 0 0) 0 [] rfl HO.out.1 (own_some _ _ _) a m.l.length c (m.l.map (.int .u64)) rfl HO.out.2.2.1 HO.out.2.1 HO.out.2.2.2.1 (by simp [maxLen]; omega) (by omega) (Nat.le_trans HO.out.2.2.2.2.2.2.1.size (Nat.le_refl _)) ?_; intro q cap w1 own1 g1 _; have M1 := HO.out.2.2.2.2.1.grown g1 (by simp [Value.ownBlock]; have := HO.out.2.2.2.2.2.2.2; omega); have R1 := HO.out.2.2.2.2.2.1.grown g1 (by simp [Value.ownBlock]; have := HO.out.2.2.2.2.2.2.2; omega); have y10 : w1.cell? ⟨w.heap.size, 10, none⟩ = some (.slice a m.l.length c) := M1.cell 10; have z10 : w1.frozen? ⟨w.heap.size, 10, none⟩ = false := M1.frozen 10; have B1 := HO.out.2.2.2.2.2.2.1.grown g1 HO.out.2.2.2.2.2.2.1.size (fun q hq => by have := (HO.out.1.lt q hq); omega); have HP := Lib.hid (And.intro own1 (And.intro M1 (And.intro R1 B1))); clear own1 M1 R1 B1 g1)
  obtain ⟨own1, M1, R1, B1⟩ := HP.out
  rw [Nat.zero_add, List.nil_append] at own1
  have M2 : Blk (w1.setCell ⟨w.heap.size, 10, none⟩ (.slice (some ⟨q, 0, none⟩) m.l.length cap)) w.heap.size 32 (m.cells (some ⟨q, 0, none⟩) cap) := M1.set_ 10 _
  have R2 := R1.farc (c := w.heap.size) (i := 10) (by omega) (.slice (some ⟨q, 0, none⟩) m.l.length cap)
  have own2 := own_setc (i := 10) own1 M1 (by decide) (.slice (some ⟨q, 0, none⟩) m.l.length cap)
  have B2 : Below w.heap.size w (w1.setCell ⟨w.heap.size, 10, none⟩ (.slice (some ⟨q, 0, none⟩) m.l.length cap)) := B1.setCell (p := ⟨w.heap.size, 10, none⟩) (by simp) _
  clear own1 M1 R1 B1 HP
  try simp only [Nat.zero_add]
  generalize (w1.setCell ⟨w.heap.size, 10, none⟩ (.slice (some ⟨q, 0, none⟩) m.l.length cap)) = w2 at *
  clear x10 y10 z10 HO
  obtain ⟨a', ha'⟩ : ∃ a' : Option Addr, a' = some ⟨q, 0, none⟩ := ⟨_, rfl⟩
  obtain ⟨c', hc'⟩ : ∃ c', c' = cap := ⟨_, rfl⟩
  rw [← ha', ← hc'] at M2 own2
  clear ha' hc'
  have f0 : w2.cell? ⟨w.heap.size, 0, none⟩ = some (.int .u8 m.k) := M2.cell 0
  have f1 : w2.cell? ⟨w.heap.size, 1, none⟩ = some (.int .i64 m.fr) := M2.cell 1
  have f2 : w2.cell? ⟨w.heap.size, 2, none⟩ = some (.int .i64 m.to) := M2.cell 2
  have f3 : w2.cell? ⟨w.heap.size, 3, none⟩ = some (.int .i64 m.ht) := M2.cell 3
  have f4 : w2.cell? ⟨w.heap.size, 4, none⟩ = some (.int .i64 m.rd) := M2.cell 4
  have f5 : w2.cell? ⟨w.heap.size, 5, none⟩ = some (.int .i64 m.vl) := M2.cell 5
  have f6 : w2.cell? ⟨w.heap.size, 6, none⟩ = some (.int .i64 m.ep) := M2.cell 6
  have f7 : w2.cell? ⟨w.heap.size, 7, none⟩ = some (.int .i64 m.dl) := M2.cell 7
  have f8 : w2.cell? ⟨w.heap.size, 8, none⟩ = some (.int .i64 m.id) := M2.cell 8
  have f9 : w2.cell? ⟨w.heap.size, 9, none⟩ = some (.string ⟨m.s.toArray⟩) := M2.cell 9
  have f10 : w2.cell? ⟨w.heap.size, 10, none⟩ = some (.slice a' m.l.length c') := M2.cell 10
  have rc0 : w2.cell? ⟨w.heap.size + 1, 0, none⟩ = some (.int .u8 0) := R2.cell 0
  have rf0 : w2.frozen? ⟨w.heap.size + 1, 0, none⟩ = false := R2.frozen 0
  have rc1 : w2.cell? ⟨w.heap.size + 1, 1, none⟩ = some (.int .i64 0) := R2.cell 1
  have rf1 : w2.frozen? ⟨w.heap.size + 1, 1, none⟩ = false := R2.frozen 1
  have rc2 : w2.cell? ⟨w.heap.size + 1, 2, none⟩ = some (.int .i64 0) := R2.cell 2
  have rf2 : w2.frozen? ⟨w.heap.size + 1, 2, none⟩ = false := R2.frozen 2
  have rc3 : w2.cell? ⟨w.heap.size + 1, 3, none⟩ = some (.int .i64 0) := R2.cell 3
  have rf3 : w2.frozen? ⟨w.heap.size + 1, 3, none⟩ = false := R2.frozen 3
  have rc4 : w2.cell? ⟨w.heap.size + 1, 4, none⟩ = some (.int .i64 0) := R2.cell 4
  have rf4 : w2.frozen? ⟨w.heap.size + 1, 4, none⟩ = false := R2.frozen 4
  have rc5 : w2.cell? ⟨w.heap.size + 1, 5, none⟩ = some (.int .i64 0) := R2.cell 5
  have rf5 : w2.frozen? ⟨w.heap.size + 1, 5, none⟩ = false := R2.frozen 5
  have rc6 : w2.cell? ⟨w.heap.size + 1, 6, none⟩ = some (.int .i64 0) := R2.cell 6
  have rf6 : w2.frozen? ⟨w.heap.size + 1, 6, none⟩ = false := R2.frozen 6
  have rc7 : w2.cell? ⟨w.heap.size + 1, 7, none⟩ = some (.int .i64 0) := R2.cell 7
  have rf7 : w2.frozen? ⟨w.heap.size + 1, 7, none⟩ = false := R2.frozen 7
  have rc8 : w2.cell? ⟨w.heap.size + 1, 8, none⟩ = some (.int .i64 0) := R2.cell 8
  have rf8 : w2.frozen? ⟨w.heap.size + 1, 8, none⟩ = false := R2.frozen 8
  have rc9 : w2.cell? ⟨w.heap.size + 1, 9, none⟩ = some (.string ⟨#[]⟩) := R2.cell 9
  have rf9 : w2.frozen? ⟨w.heap.size + 1, 9, none⟩ = false := R2.frozen 9
  have rc10 : w2.cell? ⟨w.heap.size + 1, 10, none⟩ = some (.slice none 0 0) := R2.cell 10
  have rf10 : w2.frozen? ⟨w.heap.size + 1, 10, none⟩ = false := R2.frozen 10
  go_wp2_with fail
  refine bodyPost_ret (v := .agg #[.int .u8 m.k, .int .i64 m.fr, .int .i64 m.to, .int .i64 m.ht, .int .i64 m.rd, .int .i64 m.vl, .int .i64 m.ep, .int .i64 m.dl, .int .i64 m.id, .string ⟨m.s.toArray⟩, .slice a' m.l.length c']) (by simp [results, Try.results51, go_sem, rc0, rc1, rc2, rc3, rc4, rc5, rc6, rc7, rc8, rc9, rc10]) rfl ?_
  exact ⟨a', c', rfl, set11_own own2 R2 (by decide) _ _ _ _ _ _ _ _ _ _ _, set11_below B2 (by omega) _ _ _ _ _ _ _ _ _ _ _⟩
theorem rown_agg (m : Mg) (a : Option Addr) (c : Nat) (w : World) (hn : Nums .u64 w w.heap.size a m.l) (hl : m.l.length ≤ 1000000) :
    Calls Try.prog 51 #[.agg #[.int .u8 m.k, .int .i64 m.fr, .int .i64 m.to, .int .i64 m.ht, .int .i64 m.rd, .int .i64 m.vl, .int .i64 m.ep, .int .i64 m.dl, .int .i64 m.id, .string ⟨m.s.toArray⟩, .slice a m.l.length c]] w (OwnPost m w) := rown_any m a c w hn hl

section
variable {X : Nat → Prop} {B x : Nat} {n : Nt} {w w' : World}
set_option maxRecDepth 100000 in
theorem ris_any (k : Int) (w : World) (h : RefAt X B x n w) :
    Calls Try.prog 52 #[.pointer (some ⟨x, 0, none⟩), .int .i64 k] w fun e w' => e = .returned (.bool (n.is k)) ∧ w = w' := by
  obtain ⟨hB, a, c, hb, h1, h2, h3⟩ := h
  have x1 : w.cell? ⟨x, 1, none⟩ = some (.slice a n.l.length c) := hb.cell 1
  clear hb h1 h2 h3
  by_cases h0 : 0 ≤ k
  · have e1 : decide (0 ≤ k) = true := decide_eq_true h0
    by_cases h1 : k < (n.l.length : Int)
    · have e2 : n.is k = true := Nt.is_iff.2 ⟨h0, h1⟩
      have e3 : decide (k < (n.l.length : Int)) = true := decide_eq_true h1
      rw [e2]
      clear e2
      go_enter Try.func52, Try.ntmps52
      go_wp2_with fail
      go_ret
      exact ⟨rfl, rfl⟩
    · have e2 : n.is k = false := by simp [Nt.is, h1]
      have e3 : decide (k < (n.l.length : Int)) = false := decide_eq_false h1
      rw [e2]
      clear e2
      go_enter Try.func52, Try.ntmps52
      go_wp2_with fail
      go_ret
      exact ⟨rfl, rfl⟩
  · have e1 : decide (0 ≤ k) = false := decide_eq_false h0
    have e2 : n.is k = false := by simp [Nt.is, h0]
    rw [e2]
    clear e2
    go_enter Try.func52, Try.ntmps52
    go_wp2_with fail
    go_ret
    exact ⟨rfl, rfl⟩
set_option maxRecDepth 100000 in
theorem rnew_no (most : Int) (w : World) (h : most < 1 ∨ 4096 < most) :
    Calls Try.prog 30 #[.int .i64 most] w fun e w' => e = .returned (.tuple #[.pointer none, .int .i64 1]) ∧ w = w' := by
  by_cases h1 : most < 1
  · have e1 : decide (most < 1) = true := decide_eq_true h1
    go_enter Try.func30, Try.ntmps30
    go_wp2_with fail
    go_ret2
    exact ⟨rfl, rfl⟩
  · have e1 : decide (most < 1) = false := decide_eq_false h1
    have e2 : decide (4096 < most) = true := decide_eq_true (by omega)
    go_enter Try.func30, Try.ntmps30
    go_wp2_with fail
    go_ret2
    exact ⟨rfl, rfl⟩
/-- What New comes to. -/
def RNewPost (most : Int) (w : World) (e : Ending) (w' : World) : Prop := ∃ x, e = .returned (.tuple #[.pointer (some ⟨x, 0, none⟩), .int .i64 0]) ∧ RefAt (fun _ => False) w.heap.size x (Nt.new most) w' ∧ Below w.heap.size w w'
set_option maxRecDepth 100000 in
theorem rnew_yes (most : Int) (w : World) (h1 : 1 ≤ most) (h2 : most ≤ 4096) :
    Calls Try.prog 30 #[.int .i64 most] w (RNewPost most w) := by
  have e1 : decide (most < 1) = false := decide_eq_false (by omega)
  have e2 : decide (4096 < most) = false := decide_eq_false (by omega)
  have hb := Blk.new w 58 #[.int .i64 most, .slice none 0 0, .int .i64 0]
  have hB : Below w.heap.size w (w.alloc (.cells #[.int .i64 most, .slice none 0 0, .int .i64 0] 58)) := (Below.refl _ w).alloc (Nat.le_refl _) _
  have HP := Lib.hid (And.intro hb hB)
  clear hb hB
  go_enter Try.func30, Try.ntmps30
  go_wp2_with fail
  go_ret2
  exact ⟨_, rfl, ⟨Nat.le_refl _, none, 0, HP.out.1, Nat.le_refl _, Nat.zero_le _, .inl rfl⟩, HP.out.2⟩
end
end Go.Proofs.Ytbibbndjnlnbiaa
namespace Go.Proofs.Ytbibbndjnlnbiaa
open Go.RowKit

/-- What has come up has all that it waits for. -/
def Cl (dt : List (List Nat)) (L : Nat → Bool) : Prop := ∀ i, L i = true → ∀ d ∈ dt.getD i [], L d = true
theorem Cl.none (dt : List (List Nat)) : Cl dt (fun _ => false) := fun _ h => by cases h
theorem Cl.up {dt : List (List Nat)} {L : Nat → Bool} (h : Cl dt L) (i : Nat) (hd : ∀ d ∈ dt.getD i [], L d = true) : Cl dt (fun k => k == i || L k) := by
  intro j hj d hdj
  by_cases e : j = i
  · subst e
    simp [hd d hdj]
  · have hj' : L j = true := by simpa [e] using hj
    simp [h j hj' d hdj]
theorem Cl.no {dt : List (List Nat)} {L : Nat → Bool} (h : Cl dt L) (i d : Nat) (hd : d ∈ dt.getD i []) (hl : L d = false) : L i = false := by
  cases hi : L i with
  | false => rfl
  | true => rw [h i hi d hd] at hl; cases hl

/-- append to an empty slice without room. -/
theorem run_append_new {P : Program} (w : World) (base : Nat) (t ty e : TypeId) (i : TypeInfo) (z : Value) (size bytes : Nat) (ht : P.underlying t = some (.slice e)) (hi : P.info? e = some i) (hz : i.zero = some z)
    (hsize : i.size = size) (hb : i.bytes = bytes) (hzs : z.cells.size = size) (hsz : 0 < size) (q0 : Nat) (hown : w.ownsRow base e size (.slice (some ⟨q0, 0, none⟩) 0 0) 0 [])
    (ad : Option Addr) (m c : Nat) (news : List Value) (hl : news.length = m * size) (hnews : news = [] ∨ ∃ p, ad = some p ∧ ∀ j u, news[j]? = some u → w.cell? (p.add j) = some u) (h1 : ∀ u ∈ news, u.oneCell' = true)
    (h63 : m ≤ maxLen) (hbytes : m * bytes ≤ 140737488355328) (hb0 : 0 < bytes) (hbase : base ≤ w.heap.size) :
    ∃ q cap w', (Builtin.append_ #[t, t] ty #[.slice (some ⟨q0, 0, none⟩) 0 0, .slice ad m c]).run P w = .ok (.slice (some ⟨q, 0, none⟩) m cap) w' ∧ w'.ownsRow base e size (.slice (some ⟨q, 0, none⟩) m cap) m news ∧ Below w.heap.size w w' := by
  by_cases h0 : news = []
  · subst h0
    have hm0 : m = 0 := by
      rcases Nat.eq_zero_or_pos m with h | h
      · exact h
      · have := Nat.mul_pos h hsz
        simp at hl
        omega
    subst hm0
    have hr : (Builtin.append_ #[t, t] ty #[.slice (some ⟨q0, 0, none⟩) 0 0, .slice ad 0 c]).run P w = .ok (.slice (some ⟨q0, 0, none⟩) 0 0) w := by
      cases ad <;> simp [Builtin.append_, run_underlying ht, sizeOf, typeInfo, hi, Builtin.lenOf, Builtin.firstCells, loadCells, loadCellsFrom, storeCells]
    exact ⟨q0, 0, w, hr, hown, Below.refl _ w⟩
  · rcases hnews with h' | ⟨p, rfl, hnews⟩
    · exact absurd h' h0
    have hmp : 0 < m := by
      rcases Nat.eq_zero_or_pos m with h | h
      · subst h
        simp at hl
        exact absurd hl h0
      · exact h
    obtain ⟨cap, w', hr, h2, h3⟩ := run_append_full (P := P) w base t ty e i z size bytes ht hi hz hsize hb hzs (some ⟨q0, 0, none⟩) 0 [] (by simp) (by simp) (by simp) p m c news hl hnews hmp (by rw [Nat.zero_add]; exact hbytes) hb0 hbase
    rw [Nat.zero_add] at hr h2
    exact ⟨w.heap.size, cap, w', hr, h2, h3⟩
theorem opTo_append_new {P : Program} {ops : Array Oper} {o : Oper} {a : Act} {w : World} {K : Value → World → Prop} {t e : TypeId} (hgd : o.guard = none) (s x : Operand)
    (ho : o.op = .call { callee := .builtin .append, args := #[s, x], argTypes := #[t, t] }) (base : Nat) (i : TypeInfo) (z : Value) (size bytes : Nat) (ht : P.underlying t = some (.slice e)) (hi : P.info? e = some i) (hz : i.zero = some z)
    (hsize : i.size = size) (hb : i.bytes = bytes) (hzs : z.cells.size = size) (hsz : 0 < size) (q0 : Nat) (hs : a.eval s = .slice (some ⟨q0, 0, none⟩) 0 0) (hown : w.ownsRow base e size (.slice (some ⟨q0, 0, none⟩) 0 0) 0 [])
    (ad : Option Addr) (m c : Nat) (news : List Value) (hx : a.eval x = .slice ad m c) (hl : news.length = m * size) (hnews : news = [] ∨ ∃ p, ad = some p ∧ ∀ j u, news[j]? = some u → w.cell? (p.add j) = some u) (h1 : ∀ u ∈ news, u.oneCell' = true)
    (h63 : m ≤ maxLen) (hbytes : m * bytes ≤ 140737488355328) (hb0 : 0 < bytes) (hbase : base ≤ w.heap.size)
    (h : ∀ q cap w', w'.ownsRow base e size (.slice (some ⟨q, 0, none⟩) m cap) m news → Below w.heap.size w w' → K (.slice (some ⟨q, 0, none⟩) m cap) w') : OpTo P ops o a w K := by
  have hw : Region.wanted o (yielded ops a.tmps) = true := by simp [Region.wanted, hgd]
  refine opTo_of hw fun K' hK => ?_
  obtain ⟨q, cap, w', hr, h2, h3⟩ := run_append_new (P := P) w base t o.type e i z size bytes ht hi hz hsize hb hzs hsz q0 hown ad m c news hl hnews h1 h63 hbytes hb0 hbase
  unfold Oper.wp execOp
  simp only [ho, resolve, invoke, builtin, Sem.run_bind, Sem.run_pure, Result.andThen_ok, List.map_toArray, List.map_cons, List.map_nil, hs, hx, hr]
  exact hK.out _ _ w' rfl (h q cap w' h2 h3)
theorem own_cap {w : World} {B q n c : Nat} {xs : List Value} (h : w.ownsRow B 32 11 (.slice (some ⟨q, 0, none⟩) n c) n xs) : n ≤ c ∧ c ≤ maxLen := by
  rcases h.2 with ⟨e, _⟩ | ⟨g, cap, cur, e, h1, h2, h3, h4, h5, h6⟩
  · cases e
  · injection e with e1 e2 e3
    subst e3
    exact ⟨h3, h4⟩
/-- The messages of a net, for an append. -/
theorem RowR.news {X : Nat → Prop} {w : World} {a : Option Addr} {c : Nat} {l : List Mg} (h : RowR X w a c l) : ∃ T : List MT, T.map (·.m) = l ∧ (∀ t ∈ T, NumT X w t.a t.m.l) ∧ (flat T = [] ∨ ∃ p, a = some p ∧ ∀ j u, (flat T)[j]? = some u → w.cell? (p.add j) = some u) := by
  rcases h with rfl | ⟨q, ha, T, hF, hT, hN⟩
  · exact ⟨[], rfl, by simp, .inl rfl⟩
  · exact ⟨T, hT, hN, .inr ⟨_, ha, fun j u hu => by rw [Addr.add_lit, Nat.zero_add, hF.cell (List.getElem?_eq_some_iff.1 hu).1]; exact hu⟩⟩
theorem RowR.kept {X : Nat → Prop} {w w' : World} {a : Option Addr} {c : Nat} {l : List Mg} (h : RowR X w a c l) (b : Below w.heap.size w w') : RowR X w' a c l := h.grow (fun _ _ hb => hb.kept b) (fun _ _ _ hb => hb.kept b)
theorem no_deps {dt : List (List Nat)} {L : Nat → Bool} {i : Nat} (h : dt.getD i [] = []) : ∀ d ∈ dt.getD i [], L d = true := by
  rw [h]
  simp
theorem flat_len_of {T : List MT} {l : List Mg} (h : T.map (·.m) = l) : (flat T).length = l.length * 11 := by rw [flat_len, ← h, List.length_map]
def dtS : List (List Nat) := [[], [], [], [], [], [], [1, 5], [], [6, 7], [8], [6, 9], [], [], [10]]
/-- In Send's last region. -/
structure SG (X : Nat → Prop) (B x : Nat) (n : Nt) (m : Mg) (a : Option Addr) (c : Nat) (w : World) (L : Nat → Bool) (w' : World) : Prop where
  pre : L 13 = false → Below w.heap.size w w'
  box : L 8 = false → Blk w' w.heap.size 32 (m.cells a c)
  post : L 13 = true → RefAt X B x (n.send m) w' ∧ Only w w' x
  cl : Cl dtS L
def ST (X : Nat → Prop) (x lo : Nat) (n : Nt) (m : Mg) (a ad : Option Addr) (c cp : Nat) (i : Nat) (L : Nat → Bool) (v : Value) (w : World) : Prop := match i with
  | 0 => v = .pointer (some ⟨x, 0, none⟩)
  | 1 => ∃ q, v = .slice (some ⟨q, 0, none⟩) 0 0 ∧ (L 10 = false → L 13 = false → w.ownsRow lo 32 11 (.slice (some ⟨q, 0, none⟩) 0 0) 0 [])
  | 2 => v = .pointer (some ⟨x, 0, none⟩)
  | 3 => v = .pointer (some ⟨x, 0, none⟩)
  | 4 => v = .pointer (some ⟨x, 1, none⟩)
  | 5 => v = .slice ad n.l.length cp
  | 6 => ∃ q c1, v = .slice (some ⟨q, 0, none⟩) n.l.length c1 ∧ (L 10 = false → L 13 = false → ∃ T : List MT, w.ownsRow lo 32 11 (.slice (some ⟨q, 0, none⟩) n.l.length c1) n.l.length (flat T) ∧ T.map (·.m) = n.l ∧ ∀ t ∈ T, NumT X w t.a t.m.l)
  | 7 => v = .agg #[.int .u8 m.k, .int .i64 m.fr, .int .i64 m.to, .int .i64 m.ht, .int .i64 m.rd, .int .i64 m.vl, .int .i64 m.ep, .int .i64 m.dl, .int .i64 m.id, .string ⟨m.s.toArray⟩, .slice a m.l.length c]
  | 8 => ∃ a' c', v = .agg #[.int .u8 m.k, .int .i64 m.fr, .int .i64 m.to, .int .i64 m.ht, .int .i64 m.rd, .int .i64 m.vl, .int .i64 m.ep, .int .i64 m.dl, .int .i64 m.id, .string ⟨m.s.toArray⟩, .slice a' m.l.length c'] ∧ (L 10 = false → L 13 = false → NumT X w a' m.l)
  | 9 => ∃ q a' c', v = .slice (some ⟨q, 0, none⟩) 1 1 ∧ (L 10 = false → L 13 = false → Blk w q 32 (flat [⟨m, a', c'⟩]).toArray ∧ NumT X w a' m.l)
  | 10 => ∃ q cap, v = .slice (some ⟨q, 0, none⟩) (n.l.length + 1) cap ∧ (L 13 = false → n.l.length + 1 ≤ cap ∧ cap ≤ maxLen ∧ RowM X w q cap (n.l ++ [m]))
  | 11 => v = .pointer (some ⟨x, 0, none⟩)
  | 12 => v = .pointer (some ⟨x, 1, none⟩)
  | _ => True
section
variable {X : Nat → Prop} {B x lo : Nat} {n : Nt} {m : Mg} {a ad : Option Addr} {c cp : Nat} {w0 w w' : World} {L L' : Nat → Bool} {v : Value}
theorem own_below' {q k cq : Nat} {xs : List Value} (h : w.ownsRow lo 32 11 (.slice (some ⟨q, 0, none⟩) k cq) k xs) (b : Below w.heap.size w w') : w'.ownsRow lo 32 11 (.slice (some ⟨q, 0, none⟩) k cq) k xs := own_below h b
theorem SG.step (h : SG X B x n m a c w0 L w) (b : Below w.heap.size w w') (i : Nat) (h13 : i ≠ 13) (hd : ∀ d ∈ dtS.getD i [], L d = true) : SG X B x n m a c w0 (fun k => k == i || L k) w' := by
  have e13 : (13 == i || L 13) = L 13 := by simp [Ne.symm h13]
  refine ⟨fun h0 => step_below (h.pre (e13 ▸ h0)) b, fun h0 => (h.box (by simp at h0; exact h0.2)).kept b, fun h0 => ?_, h.cl.up i hd⟩
  obtain ⟨h1, h2⟩ := h.post (e13 ▸ h0)
  exact ⟨h1.kept b, h2.below b⟩
theorem ST.below (j i : Nat) (h : ST X x lo n m a ad c cp j L v w) (b : Below w.heap.size w w') : ST X x lo n m a ad c cp j (fun k => k == i || L k) v w' := by
  have k10 : (10 == i || L 10) = false → L 10 = false := fun h => by simp at h; exact h.2
  have k13 : (13 == i || L 13) = false → L 13 = false := fun h => by simp at h; exact h.2
  unfold ST at h ⊢
  split at h
  · exact h
  · obtain ⟨q, e, h⟩ := h
    exact ⟨q, e, fun h1 h2 => own_below' (h (k10 h1) (k13 h2)) b⟩
  · exact h
  · exact h
  · exact h
  · exact h
  · obtain ⟨q, c1, e, h⟩ := h
    refine ⟨q, c1, e, fun h1 h2 => ?_⟩
    obtain ⟨T, g1, g2, g3⟩ := h (k10 h1) (k13 h2)
    exact ⟨T, own_below' g1 b, g2, fun t ht => (g3 t ht).kept b⟩
  · exact h
  · obtain ⟨a', c', e, h⟩ := h
    exact ⟨a', c', e, fun h1 h2 => (h (k10 h1) (k13 h2)).kept b⟩
  · obtain ⟨q, a', c', e, h⟩ := h
    exact ⟨q, a', c', e, fun h1 h2 => ⟨(h (k10 h1) (k13 h2)).1.kept b, (h (k10 h1) (k13 h2)).2.kept b⟩⟩
  · obtain ⟨q, cap, e, h⟩ := h
    exact ⟨q, cap, e, fun h2 => ⟨(h (k13 h2)).1, (h (k13 h2)).2.1, (h (k13 h2)).2.2.kept b⟩⟩
  · exact h
  · exact h
  · trivial
theorem ST.late (j : Nat) (h : ST X x lo n m a ad c cp j L v w) (hj : j ≠ 10) : ST X x lo n m a ad c cp j (fun k => k == 10 || L k) v w' := by
  unfold ST at h ⊢
  split at h
  · exact h
  · obtain ⟨q, e, h⟩ := h
    exact ⟨q, e, fun h1 => by cases h1⟩
  · exact h
  · exact h
  · exact h
  · exact h
  · obtain ⟨q, c1, e, h⟩ := h
    exact ⟨q, c1, e, fun h1 => by cases h1⟩
  · exact h
  · obtain ⟨a', c', e, h⟩ := h
    exact ⟨a', c', e, fun h1 => by cases h1⟩
  · obtain ⟨q, a', c', e, h⟩ := h
    exact ⟨q, a', c', e, fun h1 => by cases h1⟩
  · exact absurd rfl hj
  · exact h
  · exact h
  · trivial
theorem ST.last (j : Nat) (h : ST X x lo n m a ad c cp j L v w) : ST X x lo n m a ad c cp j (fun k => k == 13 || L k) v w' := by
  unfold ST at h ⊢
  split at h
  · exact h
  · obtain ⟨q, e, h⟩ := h
    exact ⟨q, e, fun _ h1 => by cases h1⟩
  · exact h
  · exact h
  · exact h
  · exact h
  · obtain ⟨q, c1, e, h⟩ := h
    exact ⟨q, c1, e, fun _ h1 => by cases h1⟩
  · exact h
  · obtain ⟨a', c', e, h⟩ := h
    exact ⟨a', c', e, fun _ h1 => by cases h1⟩
  · obtain ⟨q, a', c', e, h⟩ := h
    exact ⟨q, a', c', e, fun _ h1 => by cases h1⟩
  · obtain ⟨q, cap, e, h⟩ := h
    exact ⟨q, cap, e, fun h1 => by cases h1⟩
  · exact h
  · exact h
  · trivial
/-- The store at last. -/
theorem ref_sent {q cap : Nat} (hR : RefAt X B x n w) (b : Below w.heap.size w w') (h1 : n.l.length + 1 ≤ cap) (h2 : cap ≤ maxLen) (hM : RowM X w' q cap (n.l ++ [m])) (hs : n.send m = ⟨n.most, n.next + 1, n.l ++ [m], n.out⟩) :
    RefAt X B x (n.send m) (w'.setCell ⟨x, 1, none⟩ (.slice (some ⟨q, 0, none⟩) (n.l.length + 1) cap)) ∧ Only w (w'.setCell ⟨x, 1, none⟩ (.slice (some ⟨q, 0, none⟩) (n.l.length + 1) cap)) x := by
  obtain ⟨hB, a, c, hb, g1, g2, g3⟩ := hR
  have hb' := hb.kept b
  refine ⟨?_, (only_of_below b x).setc (.inl rfl) _⟩
  rw [hs]
  refine ⟨hB, some ⟨q, 0, none⟩, cap, ?_, by simpa using h1, h2, .inr ⟨q, rfl, ?_⟩⟩
  · have := hb'.set_ 1 (.slice (some ⟨q, 0, none⟩) (n.l.length + 1) cap)
    simp only [List.length_append, List.length_cons, List.length_nil, Nat.zero_add]
    exact this
  · exact hM.grow (fun cs hq => hq.farc (Blk.ne_ hq hb' (by decide)) _) (fun q' cs _ hq => hq.farc (Blk.ne_ hq hb' (by decide)) _)
end

/-- What Send comes to. -/
def RSendPost (X : Nat → Prop) (B x : Nat) (n : Nt) (m : Mg) (w : World) (e : Ending) (w' : World) : Prop := e = .returned (.bool (n.sent m)) ∧ RefAt X B x (n.send m) w' ∧ Only w w' x
section
variable {X : Nat → Prop} {B x K : Nat}
set_option maxRecDepth 100000 in
set_option maxHeartbeats 1000000 in
theorem rsend_no (n : Nt) (m : Mg) (a : Option Addr) (c : Nat) (w : World) (h : RefAt X B x n w) (hk : 0 ≤ m.k ∧ m.k ≤ 255) (hmay : m.may = false) :
    Calls Try.prog 31 #[.pointer (some ⟨x, 0, none⟩), .agg #[.int .u8 m.k, .int .i64 m.fr, .int .i64 m.to, .int .i64 m.ht, .int .i64 m.rd, .int .i64 m.vl, .int .i64 m.ep, .int .i64 m.dl, .int .i64 m.id, .string ⟨m.s.toArray⟩, .slice a m.l.length c]] w (RSendPost X B x n m w) := by
  have hs : n.sent m = false := by simp [Nt.sent, hmay]
  have he : n.send m = n := by simp [Nt.send, hmay]
  unfold RSendPost
  rw [hs, he]
  clear hs he
  have B0 := boxed_below (Below.refl w.heap.size w) (Nat.le_refl _) m a c
  have M0 := boxed_blk w m a c
  obtain ⟨w0, hw0⟩ : ∃ w0, w0 = boxed w m a c := ⟨_, rfl⟩
  rw [← hw0] at B0 M0
  unfold boxed at hw0
  have HW := Lib.hid hw0
  have HM := Lib.hid hmay
  have HH := Lib.hid h
  clear hw0 hmay h
  go_enter Try.func31, Try.ntmps31
  go_upto_region 1 with fail
  rw [← HW.out]
  clear HW
  have f0 : w0.cell? ⟨w.heap.size, 0, none⟩ = some (.int .u8 m.k) := M0.cell 0
  have f1 : w0.cell? ⟨w.heap.size, 1, none⟩ = some (.int .i64 m.fr) := M0.cell 1
  have f2 : w0.cell? ⟨w.heap.size, 2, none⟩ = some (.int .i64 m.to) := M0.cell 2
  have f3 : w0.cell? ⟨w.heap.size, 3, none⟩ = some (.int .i64 m.ht) := M0.cell 3
  have f4 : w0.cell? ⟨w.heap.size, 4, none⟩ = some (.int .i64 m.rd) := M0.cell 4
  have f5 : w0.cell? ⟨w.heap.size, 5, none⟩ = some (.int .i64 m.vl) := M0.cell 5
  have f6 : w0.cell? ⟨w.heap.size, 6, none⟩ = some (.int .i64 m.ep) := M0.cell 6
  have f7 : w0.cell? ⟨w.heap.size, 7, none⟩ = some (.int .i64 m.dl) := M0.cell 7
  have f8 : w0.cell? ⟨w.heap.size, 8, none⟩ = some (.int .i64 m.id) := M0.cell 8
  have f9 : w0.cell? ⟨w.heap.size, 9, none⟩ = some (.string ⟨m.s.toArray⟩) := M0.cell 9
  have f10 : w0.cell? ⟨w.heap.size, 10, none⟩ = some (.slice a m.l.length c) := M0.cell 10
  clear M0
  go_wp2_with fail
  refine (rmay_agg m a c w0 hk false HM.out).mono ?_
  rintro e w1 ⟨rfl, b1⟩
  go_wp2_with fail
  go_ret
  exact ⟨rfl, HH.out.kept (step_below B0 b1), only_of_below (step_below B0 b1) x⟩
set_option maxRecDepth 100000 in
set_option maxHeartbeats 1000000 in
theorem rsend_full (n : Nt) (m : Mg) (a : Option Addr) (c : Nat) (w : World) (h : RefAt X B x n w) (ok : n.Ok K) (hK : K ≤ 1000000) (hk : 0 ≤ m.k ∧ m.k ≤ 255) (hmay : m.may = true) (hlen : ¬ (n.l.length : Int) < n.most) :
    Calls Try.prog 31 #[.pointer (some ⟨x, 0, none⟩), .agg #[.int .u8 m.k, .int .i64 m.fr, .int .i64 m.to, .int .i64 m.ht, .int .i64 m.rd, .int .i64 m.vl, .int .i64 m.ep, .int .i64 m.dl, .int .i64 m.id, .string ⟨m.s.toArray⟩, .slice a m.l.length c]] w (RSendPost X B x n m w) := by
  have hs : n.sent m = false := by simp [Nt.sent, hlen]
  have he : n.send m = ⟨n.most, n.next, n.l, n.out + 1⟩ := by simp [Nt.send, hmay, hlen]
  unfold RSendPost
  rw [hs, he]
  clear hs he
  have B0 := boxed_below (Below.refl w.heap.size w) (Nat.le_refl _) m a c
  have M0 := boxed_blk w m a c
  obtain ⟨w0, hw0⟩ : ∃ w0, w0 = boxed w m a c := ⟨_, rfl⟩
  rw [← hw0] at B0 M0
  unfold boxed at hw0
  have HW := Lib.hid hw0
  have HM := Lib.hid hmay
  have hd : decide (n.most ≤ (n.l.length : Int)) = true := decide_eq_true (by omega)
  have o0 := ok.out0
  have oK : n.out ≤ 1000000 := by have := ok.outK; omega
  have HH := Lib.hid h
  clear hw0 hmay h ok hlen
  go_enter Try.func31, Try.ntmps31
  go_upto_region 1 with fail
  rw [← HW.out]
  clear HW
  have f0 : w0.cell? ⟨w.heap.size, 0, none⟩ = some (.int .u8 m.k) := M0.cell 0
  have f1 : w0.cell? ⟨w.heap.size, 1, none⟩ = some (.int .i64 m.fr) := M0.cell 1
  have f2 : w0.cell? ⟨w.heap.size, 2, none⟩ = some (.int .i64 m.to) := M0.cell 2
  have f3 : w0.cell? ⟨w.heap.size, 3, none⟩ = some (.int .i64 m.ht) := M0.cell 3
  have f4 : w0.cell? ⟨w.heap.size, 4, none⟩ = some (.int .i64 m.rd) := M0.cell 4
  have f5 : w0.cell? ⟨w.heap.size, 5, none⟩ = some (.int .i64 m.vl) := M0.cell 5
  have f6 : w0.cell? ⟨w.heap.size, 6, none⟩ = some (.int .i64 m.ep) := M0.cell 6
  have f7 : w0.cell? ⟨w.heap.size, 7, none⟩ = some (.int .i64 m.dl) := M0.cell 7
  have f8 : w0.cell? ⟨w.heap.size, 8, none⟩ = some (.int .i64 m.id) := M0.cell 8
  have f9 : w0.cell? ⟨w.heap.size, 9, none⟩ = some (.string ⟨m.s.toArray⟩) := M0.cell 9
  have f10 : w0.cell? ⟨w.heap.size, 10, none⟩ = some (.slice a m.l.length c) := M0.cell 10
  clear M0
  go_wp2_with fail
  refine (rmay_agg m a c w0 hk true HM.out).mono ?_
  rintro e w1 ⟨rfl, b1⟩
  have B1 := step_below B0 b1
  have h1 := HH.out.kept B1
  obtain ⟨hB, ad, cp, hb, g1, g2, g3⟩ := h1
  have x0 : w1.cell? ⟨x, 0, none⟩ = some (.int .i64 n.most) := hb.cell 0
  have x1 : w1.cell? ⟨x, 1, none⟩ = some (.slice ad n.l.length cp) := hb.cell 1
  have x2 : w1.cell? ⟨x, 2, none⟩ = some (.int .i64 n.out) := hb.cell 2
  have z2 : w1.frozen? ⟨x, 2, none⟩ = false := hb.frozen 2
  have HB := Lib.hid (And.intro B1 hb)
  have HG := Lib.hid (And.intro g1 (And.intro g2 (And.intro g3 hB)))
  clear f0 f1 f2 f3 f4 f5 f6 f7 f8 f9 f10 B1 hb b1 B0 g1 g2 g3 hB
  go_wp2_with fail
  go_quiet (fail)
  go_wp2_with fail
  go_ret
  obtain ⟨g1, g2, g3, hB⟩ := HG.out
  refine ⟨rfl, ⟨hB, ad, cp, Blk.set_ (w := w1.drewN _) HB.out.2 2 _, g1, g2, ?_⟩, ?_⟩
  · exact RowR.grow (w := w1) g3 (fun q cs hq => Blk.farc (w := w1.drewN _) hq (Blk.ne_ hq HB.out.2 (by decide)) _) (fun q cs _ hq => Blk.farc (w := w1.drewN _) hq (Blk.ne_ hq HB.out.2 (by decide)) _)
  · exact (only_of_below (below_drewN HB.out.1 _) x).setc (.inl rfl) _

set_option maxRecDepth 100000 in
set_option maxHeartbeats 4000000 in
theorem rsend_yes (n : Nt) (m : Mg) (a : Option Addr) (c : Nat) (w : World) (h : RefAt X B x n w) (hX : ∀ q, X q → q < w.heap.size) (ok : n.Ok K) (hk : 0 ≤ m.k ∧ m.k ≤ 255) (hn : Nums .u64 w w.heap.size a m.l) (hmay : m.may = true) (hlen : (n.l.length : Int) < n.most) :
    Calls Try.prog 31 #[.pointer (some ⟨x, 0, none⟩), .agg #[.int .u8 m.k, .int .i64 m.fr, .int .i64 m.to, .int .i64 m.ht, .int .i64 m.rd, .int .i64 m.vl, .int .i64 m.ep, .int .i64 m.dl, .int .i64 m.id, .string ⟨m.s.toArray⟩, .slice a m.l.length c]] w (RSendPost X B x n m w) := by
  have hs : n.sent m = true := by simp [Nt.sent, hmay, hlen]
  have he : n.send m = ⟨n.most, n.next + 1, n.l ++ [m], n.out⟩ := by simp [Nt.send, hmay, hlen]
  have HS := Lib.hid he
  unfold RSendPost
  rw [hs]
  clear hs he
  have B0 := boxed_below (Below.refl w.heap.size w) (Nat.le_refl _) m a c
  have M0 := boxed_blk w m a c
  obtain ⟨w0, hw0⟩ : ∃ w0, w0 = boxed w m a c := ⟨_, rfl⟩
  rw [← hw0] at B0 M0
  unfold boxed at hw0
  have HW := Lib.hid hw0
  have HM := Lib.hid hmay
  have hd : decide (n.most ≤ (n.l.length : Int)) = false := decide_eq_false (by omega)
  have hml : m.l.length ≤ 1000000 := by
    have := (Mg.may_len hmay).2
    omega
  have hsh : n.l.length ≤ 4096 := by
    have := ok.len
    have := ok.most2
    omega
  have HN := Lib.hid (And.intro hn (And.intro hml hX))
  have HH := Lib.hid h
  obtain ⟨hB, ad, cp, hb, g1, g2, g3⟩ := h
  have HR := Lib.hid (And.intro (And.intro hB (And.intro g1 (And.intro g2 g3))) hb)
  obtain ⟨iM, mi, mz0, mz1, mz2⟩ := info_parts infoMsgR
  clear hw0 hmay ok hlen hn hml hX hB hb g1 g2 g3
  go_enter Try.func31, Try.ntmps31
  go_upto_region 1 with fail
  rw [← HW.out]
  clear HW
  have f0 : w0.cell? ⟨w.heap.size, 0, none⟩ = some (.int .u8 m.k) := M0.cell 0
  have f1 : w0.cell? ⟨w.heap.size, 1, none⟩ = some (.int .i64 m.fr) := M0.cell 1
  have f2 : w0.cell? ⟨w.heap.size, 2, none⟩ = some (.int .i64 m.to) := M0.cell 2
  have f3 : w0.cell? ⟨w.heap.size, 3, none⟩ = some (.int .i64 m.ht) := M0.cell 3
  have f4 : w0.cell? ⟨w.heap.size, 4, none⟩ = some (.int .i64 m.rd) := M0.cell 4
  have f5 : w0.cell? ⟨w.heap.size, 5, none⟩ = some (.int .i64 m.vl) := M0.cell 5
  have f6 : w0.cell? ⟨w.heap.size, 6, none⟩ = some (.int .i64 m.ep) := M0.cell 6
  have f7 : w0.cell? ⟨w.heap.size, 7, none⟩ = some (.int .i64 m.dl) := M0.cell 7
  have f8 : w0.cell? ⟨w.heap.size, 8, none⟩ = some (.int .i64 m.id) := M0.cell 8
  have f9 : w0.cell? ⟨w.heap.size, 9, none⟩ = some (.string ⟨m.s.toArray⟩) := M0.cell 9
  have f10 : w0.cell? ⟨w.heap.size, 10, none⟩ = some (.slice a m.l.length c) := M0.cell 10
  go_wp2_with fail
  refine (rmay_agg m a c w0 hk true HM.out).mono ?_
  rintro e w1 ⟨rfl, b1⟩
  have B1 := step_below B0 b1
  have M1 := M0.kept b1
  have hb := HR.out.2.kept B1
  have x0 : w1.cell? ⟨x, 0, none⟩ = some (.int .i64 n.most) := hb.cell 0
  have x1 : w1.cell? ⟨x, 1, none⟩ = some (.slice ad n.l.length cp) := hb.cell 1
  have HB := Lib.hid (And.intro B1 M1)
  clear f0 f1 f2 f3 f4 f5 f6 f7 f8 f9 f10 B1 hb b1 B0 M0 M1
  go_wp2_with fail
  go_quiet (fail)
  go_upto_region 6 with fail
  have hB := below_drewN HB.out.1 nq
  have hM : Blk (w1.drewN nq) w.heap.size 32 (m.cells a c) := HB.out.2
  clear x0 x1 HB
  generalize w1.drewN nq = w2 at *
  refine' wp_region_invL _ (ST X x w.heap.size n m a ad c cp) (SG X B x n m a c w) (fun i wa wb => (i = 10 ∨ i = 13) ∨ Below wa.heap.size wa wb) ?hA (by kernel_rfl) (by kernel_rfl) (by kernel_rfl) ⟨fun _ => hB.drew, fun _ => hM, (fun h0 => by cases h0), Cl.none _⟩ ?mono ?step ?fin
  case hA =>
    intro vs
    conv => lhs; simp only [fillL, Act.put, List.setIfInBounds_toArray, List.set_cons_zero, List.set_cons_succ, Nat.reduceAdd]
    try exact rfl
  case mono =>
    intro i j L v wa wb hne hi hj _ _ hT hr
    rcases hr with (rfl | rfl) | b
    · exact hT.late j hne
    · exact hT.last j
    · exact hT.below j i b
  case step =>
    refine StepsA.cons (fun L vs w1 hl hdl hg hd => ?_) ?_
    · refine opTo_of (by kernel_rfl) (fun K' hK => ?_)
      go_simp
      exact hK.out (.pointer (some ⟨x, 0, none⟩)) _ _ (by kernel_rfl) ⟨hg.step (Below.refl _ _) 0 (by decide) (no_deps rfl), .inr (Below.refl _ _), rfl⟩
    refine StepsA.cons (fun L vs w1 hl hdl hg hd => ?_) ?_
    · refine opTo_of (by kernel_rfl) (fun K' hK => ?_)
      go_simp
      have al : Below w1.heap.size w1 (w1.alloc (.cells #[] 32)) := (Below.refl _ w1).alloc (Nat.le_refl _) _
      exact hK.out (.slice (some ⟨w1.heap.size, 0, none⟩) 0 0) _ _ (by kernel_rfl) ⟨hg.step al 1 (by decide) (no_deps rfl), .inr al, w1.heap.size, rfl, fun h10 h13 => World.ownsRow_made w1 #[] 0 (hg.pre h13).size (Nat.zero_le _) (by simp)⟩
    refine StepsA.cons (fun L vs w1 hl hdl hg hd => ?_) ?_
    · refine opTo_of (by kernel_rfl) (fun K' hK => ?_)
      go_simp
      exact hK.out (.pointer (some ⟨x, 0, none⟩)) _ _ (by kernel_rfl) ⟨hg.step (Below.refl _ _) 2 (by decide) (no_deps rfl), .inr (Below.refl _ _), rfl⟩
    refine StepsA.cons (fun L vs w1 hl hdl hg hd => ?_) ?_
    · have e2 : vs 2 = .pointer (some ⟨x, 0, none⟩) := hd 2 (by decide)
      refine opTo_of (by kernel_rfl) (fun K' hK => ?_)
      go_simp
      exact hK.out (.pointer (some ⟨x, 0, none⟩)) _ _ (by simp only [e2]; kernel_rfl) ⟨hg.step (Below.refl _ _) 3 (by decide) (no_deps rfl), .inr (Below.refl _ _), rfl⟩
    refine StepsA.cons (fun L vs w1 hl hdl hg hd => ?_) ?_
    · have e3 : vs 3 = .pointer (some ⟨x, 0, none⟩) := hd 3 (by decide)
      refine opTo_of (by kernel_rfl) (fun K' hK => ?_)
      go_simp
      exact hK.out (.pointer (some ⟨x, 1, none⟩)) _ _ (by simp only [e3]; kernel_rfl) ⟨hg.step (Below.refl _ _) 4 (by decide) (no_deps rfl), .inr (Below.refl _ _), rfl⟩
    refine StepsA.cons (fun L vs w1 hl hdl hg hd => ?_) ?_
    · have e4 : vs 4 = .pointer (some ⟨x, 1, none⟩) := hd 4 (by decide)
      have l6 : L 6 = false := hg.cl.no 6 5 (by decide) hl
      have l13 : L 13 = false := hg.cl.no 13 10 (by decide) (hg.cl.no 10 6 (by decide) l6)
      have x1 : w1.cell? ⟨x, 1, none⟩ = some (.slice ad n.l.length cp) := (HR.out.2.kept (hg.pre l13)).cell 1
      refine opTo_of (by kernel_rfl) (fun K' hK => ?_)
      go_simp
      exact hK.out (.slice ad n.l.length cp) _ _ (by simp only [e4]; kernel_rfl) ⟨hg.step (Below.refl _ _) 5 (by decide) (no_deps rfl), .inr (Below.refl _ _), rfl⟩
    refine StepsA.cons (fun L vs w1 hl hdl hg hd => ?_) ?_
    · obtain ⟨q0, e1, ho⟩ := hd 1 (by decide)
      have e1 : vs 1 = .slice (some ⟨q0, 0, none⟩) 0 0 := e1
      have e5 : vs 5 = .slice ad n.l.length cp := hd 5 (by decide)
      have l10 : L 10 = false := hg.cl.no 10 6 (by decide) hl
      have l13 : L 13 = false := hg.cl.no 13 10 (by decide) l10
      have hB := hg.pre l13
      obtain ⟨T, hT, hN, hnw⟩ := RowR.news (RowR.kept (X := X) (w := w) HR.out.1.2.2.2 hB)
      refine opTo_append_new rfl (.tmp 26) (.tmp 30) rfl w.heap.size iM (.agg zeroCells) 11 112 Try.underlying29 mi mz0 mz1 mz2 rfl (by decide) q0 (Eq.trans (b := vs 1) (by kernel_rfl) e1) (ho l10 l13) ad n.l.length cp (flat T) (Eq.trans (b := vs 5) (by kernel_rfl) e5) (flat_len_of hT) hnw (flat_one T) (by simp [maxLen]; omega) (by omega) (by decide) hB.size ?_
      intro q c1 w2 own2 b2
      exact ⟨hg.step b2 6 (by decide) (fun d hd => by simp [dtS] at hd; rcases hd with rfl | rfl; exact hdl 1 (by decide); exact hdl 5 (by decide)), .inr b2, q, c1, rfl, fun _ _ => ⟨T, own2, hT, fun t ht => (hN t ht).kept b2⟩⟩
    refine StepsA.cons (fun L vs w1 hl hdl hg hd => ?_) ?_
    · have l8 : L 8 = false := hg.cl.no 8 7 (by decide) hl
      have M1 := hg.box l8
      have f0 : w1.cell? ⟨w.heap.size, 0, none⟩ = some (.int .u8 m.k) := M1.cell 0
      have f1 : w1.cell? ⟨w.heap.size, 1, none⟩ = some (.int .i64 m.fr) := M1.cell 1
      have f2 : w1.cell? ⟨w.heap.size, 2, none⟩ = some (.int .i64 m.to) := M1.cell 2
      have f3 : w1.cell? ⟨w.heap.size, 3, none⟩ = some (.int .i64 m.ht) := M1.cell 3
      have f4 : w1.cell? ⟨w.heap.size, 4, none⟩ = some (.int .i64 m.rd) := M1.cell 4
      have f5 : w1.cell? ⟨w.heap.size, 5, none⟩ = some (.int .i64 m.vl) := M1.cell 5
      have f6 : w1.cell? ⟨w.heap.size, 6, none⟩ = some (.int .i64 m.ep) := M1.cell 6
      have f7 : w1.cell? ⟨w.heap.size, 7, none⟩ = some (.int .i64 m.dl) := M1.cell 7
      have f8 : w1.cell? ⟨w.heap.size, 8, none⟩ = some (.int .i64 m.id) := M1.cell 8
      have f9 : w1.cell? ⟨w.heap.size, 9, none⟩ = some (.string ⟨m.s.toArray⟩) := M1.cell 9
      have f10 : w1.cell? ⟨w.heap.size, 10, none⟩ = some (.slice a m.l.length c) := M1.cell 10
      refine opTo_of (by kernel_rfl) (fun K' hK => ?_)
      go_simp
      exact hK.out (.agg #[.int .u8 m.k, .int .i64 m.fr, .int .i64 m.to, .int .i64 m.ht, .int .i64 m.rd, .int .i64 m.vl, .int .i64 m.ep, .int .i64 m.dl, .int .i64 m.id, .string ⟨m.s.toArray⟩, .slice a m.l.length c]) _ _ (by kernel_rfl) ⟨hg.step (Below.refl _ _) 7 (by decide) (no_deps rfl), .inr (Below.refl _ _), rfl⟩
    refine StepsA.cons (fun L vs w1 hl hdl hg hd => ?_) ?_
    · have e7 : vs 7 = .agg #[.int .u8 m.k, .int .i64 m.fr, .int .i64 m.to, .int .i64 m.ht, .int .i64 m.rd, .int .i64 m.vl, .int .i64 m.ep, .int .i64 m.dl, .int .i64 m.id, .string ⟨m.s.toArray⟩, .slice a m.l.length c] := hd 7 (by decide)
      have l10 : L 10 = false := hg.cl.no 10 9 (by decide) (hg.cl.no 9 8 (by decide) hl)
      have l13 : L 13 = false := hg.cl.no 13 10 (by decide) l10
      have hB := hg.pre l13
      have HC := Lib.hid (rown_agg m a c w1 (nums_step HN.out.1 hB) HN.out.2.1)
      refine opTo_of (by kernel_rfl) (fun K' hK => ?_)
      go_simp
      refine Calls.mono HC.out ?_
      rintro r2 w2 ⟨a', c', rfl, own2, b2⟩
      exact hK.out (.agg #[.int .u8 m.k, .int .i64 m.fr, .int .i64 m.to, .int .i64 m.ht, .int .i64 m.rd, .int .i64 m.vl, .int .i64 m.ep, .int .i64 m.dl, .int .i64 m.id, .string ⟨m.s.toArray⟩, .slice a' m.l.length c']) _ _ (by simp only [e7]; kernel_rfl) ⟨hg.step b2 8 (by decide) (fun d hd => by simp [dtS] at hd; rcases hd with rfl | rfl; exact hdl 6 (by decide); exact hdl 7 (by decide)), .inr b2, a', c', rfl, fun _ _ => NumT.of_own own2 (fun q hq => Nat.lt_of_lt_of_le (HN.out.2.2 q hq) hB.size)⟩
    refine StepsA.cons (fun L vs w1 hl hdl hg hd => ?_) ?_
    · obtain ⟨a', c', e8, hn8⟩ := hd 8 (by decide)
      have e8 : vs 8 = .agg #[.int .u8 m.k, .int .i64 m.fr, .int .i64 m.to, .int .i64 m.ht, .int .i64 m.rd, .int .i64 m.vl, .int .i64 m.ep, .int .i64 m.dl, .int .i64 m.id, .string ⟨m.s.toArray⟩, .slice a' m.l.length c'] := e8
      refine opTo_of (by kernel_rfl) (fun K' hK => ?_)
      go_simp
      have al : Below w1.heap.size w1 (w1.alloc (.cells (flat [⟨m, a', c'⟩]).toArray 32)) := (Below.refl _ w1).alloc (Nat.le_refl _) _
      exact hK.out (.slice (some ⟨w1.heap.size, 0, none⟩) 1 1) _ _ (by simp only [e8]; kernel_rfl) ⟨hg.step al 9 (by decide) (fun d hd => by simp [dtS] at hd; subst hd; exact hdl 8 (by decide)), .inr al, w1.heap.size, a', c', rfl, fun h10 h13 => ⟨Blk.new w1 _ _, (hn8 h10 h13).kept al⟩⟩
    refine StepsA.cons (fun L vs w1 hl hdl hg hd => ?_) ?_
    · obtain ⟨q6, c6, e6, h6⟩ := hd 6 (by decide)
      have e6 : vs 6 = .slice (some ⟨q6, 0, none⟩) n.l.length c6 := e6
      obtain ⟨q9, a', c', e9, h9⟩ := hd 9 (by decide)
      have e9 : vs 9 = .slice (some ⟨q9, 0, none⟩) 1 1 := e9
      have l13 : L 13 = false := hg.cl.no 13 10 (by decide) hl
      have hB := hg.pre l13
      obtain ⟨T, own6, hT, hN6⟩ := h6 hl l13
      obtain ⟨b9, n9⟩ := h9 hl l13
      refine opTo_append_any rfl (.tmp 31) (.tmp 34) rfl w.heap.size iM (.agg zeroCells) 11 112 Try.underlying29 mi mz0 mz1 mz2 rfl (by decide) (.slice (some ⟨q6, 0, none⟩) n.l.length c6) n.l.length (flat T) (Eq.trans (b := vs 6) (by kernel_rfl) e6) own6 (own_some _ _ _) (some ⟨q9, 0, none⟩) 1 1 (flat [⟨m, a', c'⟩]) (Eq.trans (b := vs 9) (by kernel_rfl) e9) rfl (.inr ⟨_, rfl, fun j u hu => by rw [Addr.add_lit, Nat.zero_add, b9.cell j]; simpa using hu⟩) (flat_one _) (by simp [maxLen]; omega) (by omega) hB.size ?_
      intro q cap w2 own2 g2 _
      have kn : ∀ {a' : Option Addr} {l : List Int}, NumT X w1 a' l → NumT X w2 a' l := fun h => h.grow fun q' cur _ hb => hb.grown g2 (own_ne' own6 hb (by decide))
      have hc := own_cap own2
      have hB2 : Below w.heap.size w w2 := hB.grown g2 hB.size (own_lt own6)
      have hM : RowM X w2 q cap (n.l ++ [m]) := ⟨T ++ [⟨m, a', c'⟩], by rw [← flat_append] at own2; exact (Flat.of_own own2).1, by rw [List.map_append, hT]; rfl, fun t ht => (List.mem_append.1 ht).elim (fun ht => kn (hN6 t ht)) (fun ht => by rw [List.mem_singleton.1 ht]; exact kn n9)⟩
      have l8 : L 8 = true := hg.cl 9 (hdl 9 (by decide)) 8 (by decide)
      exact ⟨⟨fun _ => hB2, (fun h8 => by simp [l8] at h8), (fun h0 => by simp [l13] at h0), hg.cl.up 10 (fun d hd => by simp [dtS] at hd; rcases hd with rfl | rfl; exact hdl 6 (by decide); exact hdl 9 (by decide))⟩, .inl (.inl rfl), q, cap, rfl, fun _ => ⟨hc.1, hc.2, hM⟩⟩
    refine StepsA.cons (fun L vs w1 hl hdl hg hd => ?_) ?_
    · have e0 : vs 0 = .pointer (some ⟨x, 0, none⟩) := hd 0 (by decide)
      refine opTo_of (by kernel_rfl) (fun K' hK => ?_)
      go_simp
      exact hK.out (.pointer (some ⟨x, 0, none⟩)) _ _ (by simp only [e0]; kernel_rfl) ⟨hg.step (Below.refl _ _) 11 (by decide) (no_deps rfl), .inr (Below.refl _ _), rfl⟩
    refine StepsA.cons (fun L vs w1 hl hdl hg hd => ?_) ?_
    · have e11 : vs 11 = .pointer (some ⟨x, 0, none⟩) := hd 11 (by decide)
      refine opTo_of (by kernel_rfl) (fun K' hK => ?_)
      go_simp
      exact hK.out (.pointer (some ⟨x, 1, none⟩)) _ _ (by simp only [e11]; kernel_rfl) ⟨hg.step (Below.refl _ _) 12 (by decide) (no_deps rfl), .inr (Below.refl _ _), rfl⟩
    refine StepsA.cons (fun L vs w1 hl hdl hg hd => ?_) ?_
    · have e12 : vs 12 = .pointer (some ⟨x, 1, none⟩) := hd 12 (by decide)
      obtain ⟨q, cap, e10, h10⟩ := hd 10 (by decide)
      have e10 : vs 10 = .slice (some ⟨q, 0, none⟩) (n.l.length + 1) cap := e10
      obtain ⟨c1, c2, hM⟩ := h10 hl
      have hB := hg.pre hl
      have hb := HR.out.2.kept hB
      have x1 : w1.cell? ⟨x, 1, none⟩ = some (.slice ad n.l.length cp) := hb.cell 1
      have z1 : w1.frozen? ⟨x, 1, none⟩ = false := hb.frozen 1
      have HZ := Lib.hid (ref_sent HH.out hB c1 c2 hM HS.out)
      have l8 : L 8 = true := hg.cl 9 (hg.cl 10 (hdl 10 (by decide)) 9 (by decide)) 8 (by decide)
      have k13 : Cl dtS (fun k => k == 13 || L k) := hg.cl.up 13 (fun d hd => by simp [dtS] at hd; subst hd; exact hdl 10 (by decide))
      refine opTo_of (by kernel_rfl) (fun K' hK => ?_)
      go_simp
      exact hK.out undef _ _ (by simp only [e10, e12]; kernel_rfl) ⟨⟨(fun h0 => by cases h0), (fun h8 => by simp [l8] at h8), fun _ => HZ.out, k13⟩, .inl (.inr rfl), trivial⟩
    exact StepsA.nil
  case fin =>
    intro L vs w3 hL1 hg hT
    have HP := Lib.hid (hg.post (hL1 13 (by decide)))
    clear hg hT hL1
    go_wp2_with fail
    go_ret
    exact ⟨rfl, HP.out⟩
theorem rsend_any (n : Nt) (m : Mg) (a : Option Addr) (c : Nat) (w : World) (h : RefAt X B x n w) (hX : ∀ q, X q → q < w.heap.size) (ok : n.Ok K) (hK : K ≤ 1000000) (hk : 0 ≤ m.k ∧ m.k ≤ 255) (hn : Nums .u64 w w.heap.size a m.l) :
    Calls Try.prog 31 #[.pointer (some ⟨x, 0, none⟩), .agg #[.int .u8 m.k, .int .i64 m.fr, .int .i64 m.to, .int .i64 m.ht, .int .i64 m.rd, .int .i64 m.vl, .int .i64 m.ep, .int .i64 m.dl, .int .i64 m.id, .string ⟨m.s.toArray⟩, .slice a m.l.length c]] w (RSendPost X B x n m w) := by
  cases hmay : m.may with
  | false => exact rsend_no n m a c w h hk hmay
  | true =>
    by_cases hlen : (n.l.length : Int) < n.most
    · exact rsend_yes n m a c w h hX ok hk hn hmay hlen
    · exact rsend_full n m a c w h ok hK hk hmay hlen
end
end Go.Proofs.Ytbibbndjnlnbiaa
namespace Go.Proofs.Ytbibbndjnlnbiaa
open Go.RowKit

theorem RowM.at' {X : Nat → Prop} {w : World} {q cap : Nat} {L : List Mg} (h : RowM X w q cap L) {i : Nat} {m : Mg} (hm : L[i]? = some m) : ∃ a c, MsgAt w q (i * 11) ⟨m, a, c⟩ ∧ NumT X w a m.l := by
  obtain ⟨T, h1, h2, h3⟩ := h
  rw [← h2, List.getElem?_map] at hm
  cases ht : T[i]? with
  | none => rw [ht] at hm; simp at hm
  | some t =>
    rw [ht] at hm
    simp only [Option.map_some, Option.some.injEq] at hm
    subst hm
    exact ⟨t.a, t.c, h1.at ht, h3 t (List.mem_of_getElem? ht)⟩
/-- The row's messages, from place k on. -/
theorem RowM.drop {X : Nat → Prop} {w : World} {q cap : Nat} {L : List Mg} (h : RowM X w q cap L) (k : Nat) : ∃ T : List MT, T.map (·.m) = L.drop k ∧ (∀ t ∈ T, NumT X w t.a t.m.l) ∧ ∀ j u, (flat T)[j]? = some u → w.cell? ((⟨q, k * 11, none⟩ : Addr).add j) = some u := by
  obtain ⟨T, h1, h2, h3⟩ := h
  refine ⟨T.drop k, by rw [List.map_drop, h2], fun t ht => h3 t (List.mem_of_mem_drop ht), fun j u hu => ?_⟩
  rw [← flat_drop, List.getElem?_drop] at hu
  rw [Addr.add_lit, h1.cell (List.getElem?_eq_some_iff.1 hu).1]
  exact hu
theorem RowM.take {X : Nat → Prop} {w : World} {q cap : Nat} {L : List Mg} (h : RowM X w q cap L) (k : Nat) : ∃ T : List MT, T.map (·.m) = L.take k ∧ (∀ t ∈ T, NumT X w t.a t.m.l) ∧ ∀ j u, (flat T)[j]? = some u → w.cell? ((⟨q, 0, none⟩ : Addr).add j) = some u := by
  obtain ⟨T, h1, h2, h3⟩ := h
  refine ⟨T.take k, by rw [List.map_take, h2], fun t ht => h3 t (List.mem_of_mem_take ht), fun j u hu => ?_⟩
  rw [← flat_take, List.getElem?_take] at hu
  split at hu
  · rw [Addr.add_lit, Nat.zero_add, h1.cell (List.getElem?_eq_some_iff.1 hu).1]
    exact hu
  · cases hu
def dtG : List (List Nat) := [[], [], [], [], [], [], [], [5], [1, 7], [], [], [], [], [], [], [12], [8, 15], [], [], [16]]
/-- The net behind the store: its row is a new one. -/
def RefQ (X : Nat → Prop) (lo x : Nat) (n : Nt) (l : List Mg) (w : World) : Prop := ∃ q2 cap, lo ≤ q2 ∧ Blk w x 58 #[.int .i64 n.most, .slice (some ⟨q2, 0, none⟩) l.length cap, .int .i64 n.out] ∧ l.length ≤ cap ∧ cap ≤ maxLen ∧ RowM X w q2 cap l
theorem RefQ.kept {X : Nat → Prop} {lo x : Nat} {n : Nt} {l : List Mg} {w w' : World} (h : RefQ X lo x n l w) (b : Below w.heap.size w w') : RefQ X lo x n l w' := by
  obtain ⟨q2, cap, h0, h1, h2, h3, h4⟩ := h
  exact ⟨q2, cap, h0, h1.kept b, h2, h3, h4.kept b⟩
/-- In Give's drawn region. -/
structure GG (X : Nat → Prop) (B x : Nat) (n : Nt) (j : Nat) (w : World) (L : Nat → Bool) (w' : World) : Prop where
  pre : L 19 = false → Below w.heap.size w w'
  post : L 19 = true → RefQ X w.heap.size x n (n.l.eraseIdx j) w' ∧ Only w w' x
  cl : Cl dtG L
def GT (X : Nat → Prop) (x lo : Nat) (n : Nt) (j q cp : Nat) (i : Nat) (L : Nat → Bool) (v : Value) (w : World) : Prop := match i with
  | 0 => v = .pointer (some ⟨x, 0, none⟩)
  | 1 => ∃ q1, v = .slice (some ⟨q1, 0, none⟩) 0 0 ∧ (L 16 = false → L 19 = false → w.ownsRow lo 32 11 (.slice (some ⟨q1, 0, none⟩) 0 0) 0 [])
  | 2 => v = .pointer (some ⟨x, 0, none⟩)
  | 3 => v = .pointer (some ⟨x, 0, none⟩)
  | 4 => v = .pointer (some ⟨x, 1, none⟩)
  | 5 => v = .slice (some ⟨q, 0, none⟩) n.l.length cp
  | 6 => v = .int .i64 j
  | 7 => v = .slice (some ⟨q, 0, none⟩) j cp
  | 8 => ∃ q1 c1, v = .slice (some ⟨q1, 0, none⟩) j c1 ∧ (L 16 = false → L 19 = false → ∃ T : List MT, w.ownsRow lo 32 11 (.slice (some ⟨q1, 0, none⟩) j c1) j (flat T) ∧ T.map (·.m) = n.l.take j ∧ ∀ t ∈ T, NumT X w t.a t.m.l)
  | 9 => v = .pointer (some ⟨x, 0, none⟩)
  | 10 => v = .pointer (some ⟨x, 0, none⟩)
  | 11 => v = .pointer (some ⟨x, 1, none⟩)
  | 12 => v = .slice (some ⟨q, 0, none⟩) n.l.length cp
  | 13 => v = .int .i64 j
  | 14 => v = .int .i64 ((j : Int) + 1)
  | 15 => ∃ ad c2, v = .slice ad (n.l.length - (j + 1)) c2 ∧ (n.l.length = j + 1 ∨ ad = some ⟨q, (j + 1) * 11, none⟩)
  | 16 => ∃ q2 cap, v = .slice (some ⟨q2, 0, none⟩) (j + (n.l.length - (j + 1))) cap ∧ (L 19 = false → lo ≤ q2 ∧ j + (n.l.length - (j + 1)) ≤ cap ∧ cap ≤ maxLen ∧ RowM X w q2 cap (n.l.eraseIdx j))
  | 17 => v = .pointer (some ⟨x, 0, none⟩)
  | 18 => v = .pointer (some ⟨x, 1, none⟩)
  | _ => True
section
variable {X : Nat → Prop} {B x lo : Nat} {n : Nt} {j q cp : Nat} {w0 w w' : World} {L : Nat → Bool} {v : Value}
theorem GG.step (h : GG X B x n j w0 L w) (b : Below w.heap.size w w') (i : Nat) (h19 : i ≠ 19) (hd : ∀ d ∈ dtG.getD i [], L d = true) : GG X B x n j w0 (fun k => k == i || L k) w' := by
  have e19 : (19 == i || L 19) = L 19 := by simp [Ne.symm h19]
  refine ⟨fun h0 => step_below (h.pre (e19 ▸ h0)) b, fun h0 => ?_, h.cl.up i hd⟩
  obtain ⟨h1, h2⟩ := h.post (e19 ▸ h0)
  exact ⟨h1.kept b, h2.below b⟩
theorem GT.below (k i : Nat) (h : GT X x lo n j q cp k L v w) (b : Below w.heap.size w w') : GT X x lo n j q cp k (fun k => k == i || L k) v w' := by
  have k16 : (16 == i || L 16) = false → L 16 = false := fun h => by simp at h; exact h.2
  have k19 : (19 == i || L 19) = false → L 19 = false := fun h => by simp at h; exact h.2
  unfold GT at h ⊢
  split at h
  · exact h
  · obtain ⟨q1, e, h⟩ := h
    exact ⟨q1, e, fun h1 h2 => own_below' (h (k16 h1) (k19 h2)) b⟩
  · exact h
  · exact h
  · exact h
  · exact h
  · exact h
  · exact h
  · obtain ⟨q1, c1, e, h⟩ := h
    refine ⟨q1, c1, e, fun h1 h2 => ?_⟩
    obtain ⟨T, g1, g2, g3⟩ := h (k16 h1) (k19 h2)
    exact ⟨T, own_below' g1 b, g2, fun t ht => (g3 t ht).kept b⟩
  · exact h
  · exact h
  · exact h
  · exact h
  · exact h
  · exact h
  · exact h
  · obtain ⟨q2, cap, e, h⟩ := h
    exact ⟨q2, cap, e, fun h2 => ⟨(h (k19 h2)).1, (h (k19 h2)).2.1, (h (k19 h2)).2.2.1, (h (k19 h2)).2.2.2.kept b⟩⟩
  · exact h
  · exact h
  · trivial
theorem GT.late (k : Nat) (h : GT X x lo n j q cp k L v w) (hj : k ≠ 16) : GT X x lo n j q cp k (fun k => k == 16 || L k) v w' := by
  unfold GT at h ⊢
  split at h
  · exact h
  · obtain ⟨q1, e, h⟩ := h
    exact ⟨q1, e, fun h1 => by cases h1⟩
  · exact h
  · exact h
  · exact h
  · exact h
  · exact h
  · exact h
  · obtain ⟨q1, c1, e, h⟩ := h
    exact ⟨q1, c1, e, fun h1 => by cases h1⟩
  · exact h
  · exact h
  · exact h
  · exact h
  · exact h
  · exact h
  · exact h
  · exact absurd rfl hj
  · exact h
  · exact h
  · trivial
theorem GT.last (k : Nat) (h : GT X x lo n j q cp k L v w) : GT X x lo n j q cp k (fun k => k == 19 || L k) v w' := by
  unfold GT at h ⊢
  split at h
  · exact h
  · obtain ⟨q1, e, h⟩ := h
    exact ⟨q1, e, fun _ h1 => by cases h1⟩
  · exact h
  · exact h
  · exact h
  · exact h
  · exact h
  · exact h
  · obtain ⟨q1, c1, e, h⟩ := h
    exact ⟨q1, c1, e, fun _ h1 => by cases h1⟩
  · exact h
  · exact h
  · exact h
  · exact h
  · exact h
  · exact h
  · exact h
  · obtain ⟨q2, cap, e, h⟩ := h
    exact ⟨q2, cap, e, fun h1 => by cases h1⟩
  · exact h
  · exact h
  · trivial
/-- The store at last. -/
theorem ref_lost {q2 cap N : Nat} (hR : RefAt X B x n w) (b : Below w.heap.size w w') (h0 : w.heap.size ≤ q2) (h1 : N ≤ cap) (h2 : cap ≤ maxLen) (hM : RowM X w' q2 cap (n.l.eraseIdx j)) (hN : (n.l.eraseIdx j).length = N) :
    RefQ X w.heap.size x n (n.l.eraseIdx j) (w'.setCell ⟨x, 1, none⟩ (.slice (some ⟨q2, 0, none⟩) N cap)) ∧ Only w (w'.setCell ⟨x, 1, none⟩ (.slice (some ⟨q2, 0, none⟩) N cap)) x := by
  subst hN
  obtain ⟨hB, a, c, hb, g1, g2, g3⟩ := hR
  have hb' := hb.kept b
  refine ⟨⟨q2, cap, h0, hb'.set_ 1 _, h1, h2, ?_⟩, (only_of_below b x).setc (.inl rfl) _⟩
  exact hM.grow (fun cs hq => hq.farc (Blk.ne_ hq hb' (by decide)) _) (fun q' cs _ hq => hq.farc (Blk.ne_ hq hb' (by decide)) _)
/-- What was taken out lies in a block of its own. -/
theorem ref_given {q : Int} {R : Nat} {cs : Array Value} {W : World} {l : List Mg} {w3 w4 w5 : World} (hB : B ≤ x) (h3 : RefQ X W.heap.size x n l w3) (b : Below w3.heap.size w3 w4) (o : Only w4 w5 R) (hR : Blk w4 R 32 cs) (hRW : R < W.heap.size) : RefAt X B x ⟨n.most, q, l, n.out⟩ w5 := by
  obtain ⟨q2, cap, h0, h1, h2, h4, h5⟩ := h3.kept b
  refine ⟨hB, some ⟨q2, 0, none⟩, cap, h1.grown o (some_ne (Blk.ne_ h1 hR (by decide))), h2, h4, .inr ⟨q2, rfl, ?_⟩⟩
  exact h5.grow (fun cs hq => hq.grown o (some_ne (by omega))) (fun q' cs _ hq => hq.grown o (some_ne (Blk.ne_ hq hR (by decide))))
end
/-- What Give comes to. -/
def RGivePost (X : Nat → Prop) (B x : Nat) (n : Nt) (k : Int) (w : World) (e : Ending) (w' : World) : Prop :=
  ∃ a' c', e = .returned (.tuple #[(n.msg k).val a' c', .int .i64 (n.lost k)]) ∧ Nums .u64 w' w'.heap.size a' (n.msg k).l ∧ RefAt X B x (n.lose k) w' ∧ Only w w' x

section
variable {X : Nat → Prop} {B x K : Nat}
set_option maxRecDepth 100000 in
set_option maxHeartbeats 1000000 in
theorem rgive_no (n : Nt) (k : Int) (w : World) (h : RefAt X B x n w) (hk : n.is k = false) :
    Calls Try.prog 32 #[.pointer (some ⟨x, 0, none⟩), .int .i64 k] w (RGivePost X B x n k w) := by
  have hm : n.msg k = Mg.zero := Nt.msg_no hk
  have hl : n.lost k = 5 := by simp [Nt.lost, hk]
  have he : n.lose k = n := by simp [Nt.lose, hk]
  unfold RGivePost
  rw [hm, hl, he]
  clear hm hl he
  have R0 := Blk.new w 32 zeroCells
  have B0 : Below w.heap.size w (w.alloc (.cells zeroCells 32)) := (Below.refl _ w).alloc (Nat.le_refl _) _
  unfold zeroCells at R0 B0
  obtain ⟨W, hW⟩ : ∃ W, W = w.alloc (.cells #[.int .u8 0, .int .i64 0, .int .i64 0, .int .i64 0, .int .i64 0, .int .i64 0, .int .i64 0, .int .i64 0, .int .i64 0, .string ⟨#[]⟩, .slice none 0 0] 32) := ⟨_, rfl⟩
  rw [← hW] at R0 B0
  have hWs : W.heap.size = w.heap.size + 1 := by rw [hW]; simp
  have HW := Lib.hid hW
  have HI := Lib.hid (ris_any k W (h.kept B0))
  rw [hk] at HI
  have HP := Lib.hid (And.intro h B0)
  have rc0 : W.cell? ⟨w.heap.size, 0, none⟩ = some (.int .u8 0) := R0.cell 0
  have rf0 : W.frozen? ⟨w.heap.size, 0, none⟩ = false := R0.frozen 0
  have rc1 : W.cell? ⟨w.heap.size, 1, none⟩ = some (.int .i64 0) := R0.cell 1
  have rf1 : W.frozen? ⟨w.heap.size, 1, none⟩ = false := R0.frozen 1
  have rc2 : W.cell? ⟨w.heap.size, 2, none⟩ = some (.int .i64 0) := R0.cell 2
  have rf2 : W.frozen? ⟨w.heap.size, 2, none⟩ = false := R0.frozen 2
  have rc3 : W.cell? ⟨w.heap.size, 3, none⟩ = some (.int .i64 0) := R0.cell 3
  have rf3 : W.frozen? ⟨w.heap.size, 3, none⟩ = false := R0.frozen 3
  have rc4 : W.cell? ⟨w.heap.size, 4, none⟩ = some (.int .i64 0) := R0.cell 4
  have rf4 : W.frozen? ⟨w.heap.size, 4, none⟩ = false := R0.frozen 4
  have rc5 : W.cell? ⟨w.heap.size, 5, none⟩ = some (.int .i64 0) := R0.cell 5
  have rf5 : W.frozen? ⟨w.heap.size, 5, none⟩ = false := R0.frozen 5
  have rc6 : W.cell? ⟨w.heap.size, 6, none⟩ = some (.int .i64 0) := R0.cell 6
  have rf6 : W.frozen? ⟨w.heap.size, 6, none⟩ = false := R0.frozen 6
  have rc7 : W.cell? ⟨w.heap.size, 7, none⟩ = some (.int .i64 0) := R0.cell 7
  have rf7 : W.frozen? ⟨w.heap.size, 7, none⟩ = false := R0.frozen 7
  have rc8 : W.cell? ⟨w.heap.size, 8, none⟩ = some (.int .i64 0) := R0.cell 8
  have rf8 : W.frozen? ⟨w.heap.size, 8, none⟩ = false := R0.frozen 8
  have rc9 : W.cell? ⟨w.heap.size, 9, none⟩ = some (.string ⟨#[]⟩) := R0.cell 9
  have rf9 : W.frozen? ⟨w.heap.size, 9, none⟩ = false := R0.frozen 9
  have rc10 : W.cell? ⟨w.heap.size, 10, none⟩ = some (.slice none 0 0) := R0.cell 10
  have rf10 : W.frozen? ⟨w.heap.size, 10, none⟩ = false := R0.frozen 10
  have HR := Lib.hid R0
  clear hW h B0 R0
  go_enter Try.func32, Try.ntmps32
  go_upto_region 1 with fail
  rw [← HW.out]
  clear HW
  go_wp2_with fail
  refine (Calls.mono HI.out ?_)
  rintro e w' ⟨rfl, rfl⟩
  clear HI
  go_wp2_with fail
  refine bodyPost_ret (v := .tuple #[.agg #[.int .u8 0, .int .i64 0, .int .i64 0, .int .i64 0, .int .i64 0, .int .i64 0, .int .i64 0, .int .i64 0, .int .i64 0, .string ⟨#[]⟩, .slice none 0 0], .int .i64 5]) (by simp [results, Try.results32, go_sem, rc0, rc1, rc2, rc3, rc4, rc5, rc6, rc7, rc8, rc9, rc10]) rfl ?_
  have bb := set11_below HP.out.2 (Nat.le_refl _) (.int .u8 0) (.int .i64 0) (.int .i64 0) (.int .i64 0) (.int .i64 0) (.int .i64 0) (.int .i64 0) (.int .i64 0) (.int .i64 0) (.string ⟨#[]⟩) (.slice none 0 0)
  exact ⟨none, 0, rfl, .inl rfl, HP.out.1.kept bb, only_of_below bb x⟩

set_option maxRecDepth 100000 in
set_option maxHeartbeats 4000000 in
theorem rgive_yes (n : Nt) (j : Nat) (w : World) (h : RefAt X B x n w) (ok : n.Ok K) (hk : n.is (j : Int) = true) :
    Calls Try.prog 32 #[.pointer (some ⟨x, 0, none⟩), .int .i64 j] w (RGivePost X B x n j w) := by
  have hj := (Nt.is_iff.1 hk).2
  have hj : j < n.l.length := by omega
  have hmj := Nt.msg_at hk
  rw [Int.toNat_natCast] at hmj
  have hl : n.lost (j : Int) = 0 := by simp [Nt.lost, hk]
  have he : n.lose (j : Int) = ⟨n.most, n.next, n.l.eraseIdx j, n.out⟩ := by simp [Nt.lose, hk]
  unfold RGivePost
  rw [hl, he]
  clear hl he
  generalize n.msg (j : Int) = m at *
  have hsh : n.l.length ≤ 4096 := by
    have := ok.len
    have := ok.most2
    omega
  have hml : m.l.length ≤ 1000000 := by
    have := (Mg.may_len (ok.ok m (List.mem_of_getElem? hmj)).2).2
    omega
  have R0 := Blk.new w 32 zeroCells
  have B0 : Below w.heap.size w (w.alloc (.cells zeroCells 32)) := (Below.refl _ w).alloc (Nat.le_refl _) _
  unfold zeroCells at R0 B0
  obtain ⟨W, hW⟩ : ∃ W, W = w.alloc (.cells #[.int .u8 0, .int .i64 0, .int .i64 0, .int .i64 0, .int .i64 0, .int .i64 0, .int .i64 0, .int .i64 0, .int .i64 0, .string ⟨#[]⟩, .slice none 0 0] 32) := ⟨_, rfl⟩
  rw [← hW] at R0 B0
  have hWs : W.heap.size = w.heap.size + 1 := by rw [hW]; simp
  have HW := Lib.hid hW
  have HI := Lib.hid (ris_any (j : Int) W (h.kept B0))
  rw [hk] at HI
  have hW2 := h.kept B0
  obtain ⟨hB, ad, cp, hb, g1, g2, g3⟩ := hW2
  obtain ⟨q, rfl, hM⟩ : ∃ q, ad = some ⟨q, 0, none⟩ ∧ RowM X W q cp n.l := by
    rcases g3 with g3 | g3
    · rw [g3] at hj; simp at hj
    · exact g3
  obtain ⟨a1, c1, hat, hnt⟩ := hM.at' hmj
  have x1 : W.cell? ⟨x, 1, none⟩ = some (.slice (some ⟨q, 0, none⟩) n.l.length cp) := hb.cell 1
  have al : Below W.heap.size W (boxed W m a1 c1) := boxed_below (Below.refl _ W) (Nat.le_refl _) m a1 c1
  have HP := Lib.hid (And.intro (boxed_blk W m a1 c1) (And.intro (R0.kept al) (And.intro (step_below B0 al) (And.intro (hnt.kept al) (And.intro hB (And.intro ((h.kept B0).kept al) (And.intro (hb.kept al) (hM.kept al))))))))
  obtain ⟨f0, f1, f2, f3, f4, f5, f6, f7, f8, f9, f10⟩ := hat
  have hjI : (j : Int) < (n.l.length : Int) := by omega
  have hjc : (j : Int) ≤ (cp : Int) := by omega
  have hcc : (n.l.length : Int) ≤ (cp : Int) := by omega
  have hwj : IntKind.i64.wrap ((j : Int) + 1) = (j : Int) + 1 := by rw [IntKind.wrap_i64]; omega
  have htl : (n.l.take j).length = j := by rw [List.length_take]; omega
  have hel : (n.l.eraseIdx j).length = j + (n.l.length - (j + 1)) := by rw [List.length_eraseIdx_of_lt hj]; omega
  have HL : (n.l.length = j + 1 ∧ cp = j + 1) ∨ cp ≠ j + 1 := by omega
  have hw2 : 0 ≤ (j : Int) + 1 := by omega
  have hw4 : (j : Int) + 1 ≤ (n.l.length : Int) := by omega
  obtain ⟨iM, mi, mz0, mz1, mz2⟩ := info_parts infoMsgR
  clear hW hb g3 hM hnt R0 B0 h al hmj hk ok
  go_enter Try.func32, Try.ntmps32
  go_upto_region 1 with fail
  rw [← HW.out]
  clear HW
  go_wp2_with fail
  refine (Calls.mono HI.out ?_)
  rintro e w' ⟨rfl, rfl⟩
  clear HI
  obtain ⟨G1, hG1⟩ : ∃ G1, G1 = boxed W m a1 c1 := ⟨_, rfl⟩
  rw [← hG1] at HP
  unfold boxed at hG1
  have HW := Lib.hid hG1
  clear hG1
  go_upto_region 4 with fail
  rw [← HW.out]
  clear HW f0 f1 f2 f3 f4 f5 f6 f7 f8 f9 f10 x1
  obtain ⟨M1, R1, B1, N1, hB1, ref1, blk1, row1⟩ := HP.out
  have HQ := Lib.hid (And.intro ref1 (And.intro hB1 (And.intro B1 (And.intro blk1 row1))))
  have HM := Lib.hid (And.intro M1 (And.intro R1 N1))
  have hRW : w.heap.size < W.heap.size := by omega
  have hRG : w.heap.size < G1.heap.size := R1.lt
  clear M1 R1 B1 N1 hB1 ref1 blk1 row1 HP
  refine' wp_region_invL _ (GT X x G1.heap.size n j q cp) (GG X B x n j G1) (fun i wa wb => (i = 16 ∨ i = 19) ∨ Below wa.heap.size wa wb) ?hA (by kernel_rfl) (by kernel_rfl) (by kernel_rfl) ⟨fun _ => (Below.refl _ G1).drew, (fun h0 => by cases h0), Cl.none _⟩ ?mono ?step ?fin
  case hA =>
    intro vs
    conv => lhs; simp only [fillL, Act.put, List.setIfInBounds_toArray, List.set_cons_zero, List.set_cons_succ, Nat.reduceAdd]
    try exact rfl
  case mono =>
    intro i j L v wa wb hne hi hj _ _ hT hr
    rcases hr with (rfl | rfl) | b
    · exact hT.late j hne
    · exact hT.last j
    · exact hT.below j i b
  case step =>
    refine StepsA.cons (fun L vs w1 hl hdl hg hd => ?_) ?_
    · refine opTo_of (by kernel_rfl) (fun K' hK => ?_)
      go_simp
      exact hK.out (.pointer (some ⟨x, 0, none⟩)) _ _ (by kernel_rfl) ⟨hg.step (Below.refl _ _) 0 (by decide) (no_deps rfl), .inr (Below.refl _ _), rfl⟩
    refine StepsA.cons (fun L vs w1 hl hdl hg hd => ?_) ?_
    · refine opTo_of (by kernel_rfl) (fun K' hK => ?_)
      go_simp
      have al : Below w1.heap.size w1 (w1.alloc (.cells #[] 32)) := (Below.refl _ w1).alloc (Nat.le_refl _) _
      exact hK.out (.slice (some ⟨w1.heap.size, 0, none⟩) 0 0) _ _ (by kernel_rfl) ⟨hg.step al 1 (by decide) (no_deps rfl), .inr al, w1.heap.size, rfl, fun h16 h19 => World.ownsRow_made w1 #[] 0 (hg.pre h19).size (Nat.zero_le _) (by simp)⟩
    refine StepsA.cons (fun L vs w1 hl hdl hg hd => ?_) ?_
    · refine opTo_of (by kernel_rfl) (fun K' hK => ?_)
      go_simp
      exact hK.out (.pointer (some ⟨x, 0, none⟩)) _ _ (by kernel_rfl) ⟨hg.step (Below.refl _ _) 2 (by decide) (no_deps rfl), .inr (Below.refl _ _), rfl⟩
    refine StepsA.cons (fun L vs w1 hl hdl hg hd => ?_) ?_
    · have e2 : vs 2 = .pointer (some ⟨x, 0, none⟩) := hd 2 (by decide)
      refine opTo_of (by kernel_rfl) (fun K' hK => ?_)
      go_simp
      exact hK.out (.pointer (some ⟨x, 0, none⟩)) _ _ (by simp only [e2]; kernel_rfl) ⟨hg.step (Below.refl _ _) 3 (by decide) (no_deps rfl), .inr (Below.refl _ _), rfl⟩
    refine StepsA.cons (fun L vs w1 hl hdl hg hd => ?_) ?_
    · have e3 : vs 3 = .pointer (some ⟨x, 0, none⟩) := hd 3 (by decide)
      refine opTo_of (by kernel_rfl) (fun K' hK => ?_)
      go_simp
      exact hK.out (.pointer (some ⟨x, 1, none⟩)) _ _ (by simp only [e3]; kernel_rfl) ⟨hg.step (Below.refl _ _) 4 (by decide) (no_deps rfl), .inr (Below.refl _ _), rfl⟩
    refine StepsA.cons (fun L vs w1 hl hdl hg hd => ?_) ?_
    · have e4 : vs 4 = .pointer (some ⟨x, 1, none⟩) := hd 4 (by decide)
      have l19 : L 19 = false := hg.cl.no 19 16 (by decide) (hg.cl.no 16 8 (by decide) (hg.cl.no 8 7 (by decide) (hg.cl.no 7 5 (by decide) hl)))
      have x1 : w1.cell? ⟨x, 1, none⟩ = some (.slice (some ⟨q, 0, none⟩) n.l.length cp) := (HQ.out.2.2.2.1.kept (hg.pre l19)).cell 1
      refine opTo_of (by kernel_rfl) (fun K' hK => ?_)
      go_simp
      exact hK.out (.slice (some ⟨q, 0, none⟩) n.l.length cp) _ _ (by simp only [e4]; kernel_rfl) ⟨hg.step (Below.refl _ _) 5 (by decide) (no_deps rfl), .inr (Below.refl _ _), rfl⟩
    refine StepsA.cons (fun L vs w1 hl hdl hg hd => ?_) ?_
    · refine opTo_of (by kernel_rfl) (fun K' hK => ?_)
      go_simp
      exact hK.out (.int .i64 j) _ _ (by kernel_rfl) ⟨hg.step (Below.refl _ _) 6 (by decide) (no_deps rfl), .inr (Below.refl _ _), rfl⟩
    refine StepsA.cons (fun L vs w1 hl hdl hg hd => ?_) ?_
    · have e5 : vs 5 = .slice (some ⟨q, 0, none⟩) n.l.length cp := hd 5 (by decide)
      have e6 : vs 6 = .int .i64 j := hd 6 (by decide)
      refine opTo_of (by kernel_rfl) (fun K' hK => ?_)
      go_simp
      exact hK.out (.slice (some ⟨q, 0, none⟩) j cp) _ _ (by simp only [e5, e6]; kernel_rfl) ⟨hg.step (Below.refl _ _) 7 (by decide) (fun d hd => by simp [dtG] at hd; subst hd; exact hdl 5 (by decide)), .inr (Below.refl _ _), rfl⟩
    refine StepsA.cons (fun L vs w1 hl hdl hg hd => ?_) ?_
    · obtain ⟨q0, e1, ho⟩ := hd 1 (by decide)
      have e1 : vs 1 = .slice (some ⟨q0, 0, none⟩) 0 0 := e1
      have e7 : vs 7 = .slice (some ⟨q, 0, none⟩) j cp := hd 7 (by decide)
      have l16 : L 16 = false := hg.cl.no 16 8 (by decide) hl
      have l19 : L 19 = false := hg.cl.no 19 16 (by decide) l16
      have hB := hg.pre l19
      obtain ⟨T, hT, hN, hnw⟩ := (HQ.out.2.2.2.2.kept hB).take j
      refine opTo_append_new rfl (.tmp 20) (.tmp 26) rfl G1.heap.size iM (.agg zeroCells) 11 112 Try.underlying29 mi mz0 mz1 mz2 rfl (by decide) q0 (Eq.trans (b := vs 1) (by kernel_rfl) e1) (ho l16 l19) (some ⟨q, 0, none⟩) j cp (flat T) (Eq.trans (b := vs 7) (by kernel_rfl) e7) (by rw [flat_len_of hT, htl]) (.inr ⟨_, rfl, hnw⟩) (flat_one T) (by simp [maxLen]; omega) (by omega) (by decide) hB.size ?_
      intro q1 c1 w2 own2 b2
      exact ⟨hg.step b2 8 (by decide) (fun d hd => by simp [dtG] at hd; rcases hd with rfl | rfl; exact hdl 1 (by decide); exact hdl 7 (by decide)), .inr b2, q1, c1, rfl, fun _ _ => ⟨T, own2, hT, fun t ht => (hN t ht).kept b2⟩⟩
    refine StepsA.cons (fun L vs w1 hl hdl hg hd => ?_) ?_
    · refine opTo_of (by kernel_rfl) (fun K' hK => ?_)
      go_simp
      exact hK.out (.pointer (some ⟨x, 0, none⟩)) _ _ (by kernel_rfl) ⟨hg.step (Below.refl _ _) 9 (by decide) (no_deps rfl), .inr (Below.refl _ _), rfl⟩
    refine StepsA.cons (fun L vs w1 hl hdl hg hd => ?_) ?_
    · have e9 : vs 9 = .pointer (some ⟨x, 0, none⟩) := hd 9 (by decide)
      refine opTo_of (by kernel_rfl) (fun K' hK => ?_)
      go_simp
      exact hK.out (.pointer (some ⟨x, 0, none⟩)) _ _ (by simp only [e9]; kernel_rfl) ⟨hg.step (Below.refl _ _) 10 (by decide) (no_deps rfl), .inr (Below.refl _ _), rfl⟩
    refine StepsA.cons (fun L vs w1 hl hdl hg hd => ?_) ?_
    · have e10 : vs 10 = .pointer (some ⟨x, 0, none⟩) := hd 10 (by decide)
      refine opTo_of (by kernel_rfl) (fun K' hK => ?_)
      go_simp
      exact hK.out (.pointer (some ⟨x, 1, none⟩)) _ _ (by simp only [e10]; kernel_rfl) ⟨hg.step (Below.refl _ _) 11 (by decide) (no_deps rfl), .inr (Below.refl _ _), rfl⟩
    refine StepsA.cons (fun L vs w1 hl hdl hg hd => ?_) ?_
    · have e11 : vs 11 = .pointer (some ⟨x, 1, none⟩) := hd 11 (by decide)
      have l19 : L 19 = false := hg.cl.no 19 16 (by decide) (hg.cl.no 16 15 (by decide) (hg.cl.no 15 12 (by decide) hl))
      have x1 : w1.cell? ⟨x, 1, none⟩ = some (.slice (some ⟨q, 0, none⟩) n.l.length cp) := (HQ.out.2.2.2.1.kept (hg.pre l19)).cell 1
      refine opTo_of (by kernel_rfl) (fun K' hK => ?_)
      go_simp
      exact hK.out (.slice (some ⟨q, 0, none⟩) n.l.length cp) _ _ (by simp only [e11]; kernel_rfl) ⟨hg.step (Below.refl _ _) 12 (by decide) (no_deps rfl), .inr (Below.refl _ _), rfl⟩
    refine StepsA.cons (fun L vs w1 hl hdl hg hd => ?_) ?_
    · refine opTo_of (by kernel_rfl) (fun K' hK => ?_)
      go_simp
      exact hK.out (.int .i64 j) _ _ (by kernel_rfl) ⟨hg.step (Below.refl _ _) 13 (by decide) (no_deps rfl), .inr (Below.refl _ _), rfl⟩
    refine StepsA.cons (fun L vs w1 hl hdl hg hd => ?_) ?_
    · have e13 : vs 13 = .int .i64 j := hd 13 (by decide)
      refine opTo_of (by kernel_rfl) (fun K' hK => ?_)
      go_simp
      exact hK.out (.int .i64 ((j : Int) + 1)) _ _ (by simp only [e13]; kernel_rfl) ⟨hg.step (Below.refl _ _) 14 (by decide) (no_deps rfl), .inr (Below.refl _ _), rfl⟩
    refine StepsA.cons (fun L vs w1 hl hdl hg hd => ?_) ?_
    · have e12 : vs 12 = .slice (some ⟨q, 0, none⟩) n.l.length cp := hd 12 (by decide)
      have e14 : vs 14 = .int .i64 ((j : Int) + 1) := hd 14 (by decide)
      rcases HL with ⟨hlast, hc⟩ | hc
      · have HLast := Lib.hid hlast
        clear hlast
        refine opTo_of (by kernel_rfl) (fun K' hK => ?_)
        go_simp
        exact hK.out (.slice (some ⟨q, 0, none⟩) (n.l.length - (j + 1)) 0) _ _ (by simp only [e12, e14, hc]; kernel_rfl) ⟨hg.step (Below.refl _ _) 15 (by decide) (fun d hd => by simp [dtG] at hd; subst hd; exact hdl 12 (by decide)), .inr (Below.refl _ _), _, _, rfl, .inl HLast.out⟩
      · refine opTo_of (by kernel_rfl) (fun K' hK => ?_)
        go_simp
        exact hK.out (.slice (some ⟨q, (j + 1) * 11, none⟩) (n.l.length - (j + 1)) (cp - (j + 1))) _ _ (by simp only [e12, e14]; kernel_rfl) ⟨hg.step (Below.refl _ _) 15 (by decide) (fun d hd => by simp [dtG] at hd; subst hd; exact hdl 12 (by decide)), .inr (Below.refl _ _), _, _, rfl, .inr rfl⟩
    refine StepsA.cons (fun L vs w1 hl hdl hg hd => ?_) ?_
    · obtain ⟨q8, c8, e8, h8⟩ := hd 8 (by decide)
      have e8 : vs 8 = .slice (some ⟨q8, 0, none⟩) j c8 := e8
      obtain ⟨ad2, c2, e15, h15⟩ := hd 15 (by decide)
      have e15 : vs 15 = .slice ad2 (n.l.length - (j + 1)) c2 := e15
      have l19 : L 19 = false := hg.cl.no 19 16 (by decide) hl
      have hB := hg.pre l19
      obtain ⟨T, own8, hT, hN8⟩ := h8 hl l19
      obtain ⟨T2, hT2, hN2, hnw⟩ := (HQ.out.2.2.2.2.kept hB).drop (j + 1)
      have hnews : flat T2 = [] ∨ ∃ p, ad2 = some p ∧ ∀ i u, (flat T2)[i]? = some u → w1.cell? (p.add i) = some u := h15.elim (fun e => .inl (List.length_eq_zero_iff.1 (by rw [flat_len_of hT2, List.length_drop]; omega))) (fun e => .inr ⟨_, e, hnw⟩)
      refine opTo_append_any rfl (.tmp 27) (.tmp 34) rfl G1.heap.size iM (.agg zeroCells) 11 112 Try.underlying29 mi mz0 mz1 mz2 rfl (by decide) (.slice (some ⟨q8, 0, none⟩) j c8) j (flat T) (Eq.trans (b := vs 8) (by kernel_rfl) e8) own8 (own_some _ _ _) ad2 (n.l.length - (j + 1)) c2 (flat T2) (Eq.trans (b := vs 15) (by kernel_rfl) e15) (by rw [flat_len_of hT2, List.length_drop]) hnews (flat_one _) (by simp [maxLen]; omega) (by omega) hB.size ?_
      intro q2 cap w2 own2 g2 _
      have kn : ∀ {a' : Option Addr} {l : List Int}, NumT X w1 a' l → NumT X w2 a' l := fun h => h.grow fun q' cur _ hb => hb.grown g2 (own_ne' own8 hb (by decide))
      have hc := own_cap own2
      have hB2 : Below G1.heap.size G1 w2 := hB.grown g2 hB.size (own_lt own8)
      rw [← flat_append] at own2
      have hF := Flat.of_own own2
      have hM : RowM X w2 q2 cap (n.l.eraseIdx j) := ⟨T ++ T2, hF.1, by rw [List.map_append, hT, hT2, List.eraseIdx_eq_take_drop_succ], fun t ht => (List.mem_append.1 ht).elim (fun ht => kn (hN8 t ht)) (fun ht => kn (hN2 t ht))⟩
      exact ⟨⟨fun _ => hB2, (fun h0 => by simp [l19] at h0), hg.cl.up 16 (fun d hd => by simp [dtG] at hd; rcases hd with rfl | rfl; exact hdl 8 (by decide); exact hdl 15 (by decide))⟩, .inl (.inl rfl), q2, cap, rfl, fun _ => ⟨hF.2.1, hc.1, hc.2, hM⟩⟩
    refine StepsA.cons (fun L vs w1 hl hdl hg hd => ?_) ?_
    · have e0 : vs 0 = .pointer (some ⟨x, 0, none⟩) := hd 0 (by decide)
      refine opTo_of (by kernel_rfl) (fun K' hK => ?_)
      go_simp
      exact hK.out (.pointer (some ⟨x, 0, none⟩)) _ _ (by simp only [e0]; kernel_rfl) ⟨hg.step (Below.refl _ _) 17 (by decide) (no_deps rfl), .inr (Below.refl _ _), rfl⟩
    refine StepsA.cons (fun L vs w1 hl hdl hg hd => ?_) ?_
    · have e17 : vs 17 = .pointer (some ⟨x, 0, none⟩) := hd 17 (by decide)
      refine opTo_of (by kernel_rfl) (fun K' hK => ?_)
      go_simp
      exact hK.out (.pointer (some ⟨x, 1, none⟩)) _ _ (by simp only [e17]; kernel_rfl) ⟨hg.step (Below.refl _ _) 18 (by decide) (no_deps rfl), .inr (Below.refl _ _), rfl⟩
    refine StepsA.cons (fun L vs w1 hl hdl hg hd => ?_) ?_
    · have e18 : vs 18 = .pointer (some ⟨x, 1, none⟩) := hd 18 (by decide)
      obtain ⟨q2, cap, e16, h16⟩ := hd 16 (by decide)
      have e16 : vs 16 = .slice (some ⟨q2, 0, none⟩) (j + (n.l.length - (j + 1))) cap := e16
      obtain ⟨c0, c1, c2, hM⟩ := h16 hl
      have hB := hg.pre hl
      have hb := HQ.out.2.2.2.1.kept hB
      have x1 : w1.cell? ⟨x, 1, none⟩ = some (.slice (some ⟨q, 0, none⟩) n.l.length cp) := hb.cell 1
      have z1 : w1.frozen? ⟨x, 1, none⟩ = false := hb.frozen 1
      have HZ := Lib.hid (ref_lost HQ.out.1 hB c0 c1 c2 hM hel)
      have k19 : Cl dtG (fun k => k == 19 || L k) := hg.cl.up 19 (fun d hd => by simp [dtG] at hd; subst hd; exact hdl 16 (by decide))
      refine opTo_of (by kernel_rfl) (fun K' hK => ?_)
      go_simp
      exact hK.out undef _ _ (by simp only [e16, e18]; kernel_rfl) ⟨⟨(fun h0 => by cases h0), fun _ => HZ.out, k19⟩, .inl (.inr rfl), trivial⟩
    exact StepsA.nil
  case fin =>
    intro L vs w3 hL1 hg hT
    have HP := Lib.hid (hg.post (hL1 19 (by decide)))
    clear hg hT hL1
    have M3 := HM.out.1.grown HP.out.2 (some_ne (Blk.ne_ HM.out.1 HQ.out.2.2.2.1 (by decide)))
    have R3 := HM.out.2.1.grown HP.out.2 (some_ne (Blk.ne_ HM.out.2.1 HQ.out.2.2.2.1 (by decide)))
    have N3 : NumT X w3 a1 m.l := HM.out.2.2.grow fun q' cur _ hq => hq.grown HP.out.2 (some_ne (Blk.ne_ hq HQ.out.2.2.2.1 (by decide)))
    have HC := Lib.hid (rown_agg m a1 c1 w3 N3.nums hml)
    have HR3 := Lib.hid R3
    rw [hWs] at M3
    have f0 : w3.cell? ⟨w.heap.size + 1, 0, none⟩ = some (.int .u8 m.k) := M3.cell 0
    have f1 : w3.cell? ⟨w.heap.size + 1, 1, none⟩ = some (.int .i64 m.fr) := M3.cell 1
    have f2 : w3.cell? ⟨w.heap.size + 1, 2, none⟩ = some (.int .i64 m.to) := M3.cell 2
    have f3 : w3.cell? ⟨w.heap.size + 1, 3, none⟩ = some (.int .i64 m.ht) := M3.cell 3
    have f4 : w3.cell? ⟨w.heap.size + 1, 4, none⟩ = some (.int .i64 m.rd) := M3.cell 4
    have f5 : w3.cell? ⟨w.heap.size + 1, 5, none⟩ = some (.int .i64 m.vl) := M3.cell 5
    have f6 : w3.cell? ⟨w.heap.size + 1, 6, none⟩ = some (.int .i64 m.ep) := M3.cell 6
    have f7 : w3.cell? ⟨w.heap.size + 1, 7, none⟩ = some (.int .i64 m.dl) := M3.cell 7
    have f8 : w3.cell? ⟨w.heap.size + 1, 8, none⟩ = some (.int .i64 m.id) := M3.cell 8
    have f9 : w3.cell? ⟨w.heap.size + 1, 9, none⟩ = some (.string ⟨m.s.toArray⟩) := M3.cell 9
    have f10 : w3.cell? ⟨w.heap.size + 1, 10, none⟩ = some (.slice a1 m.l.length c1) := M3.cell 10
    clear M3 R3 N3
    go_wp2_with fail
    refine (Calls.mono HC.out ?_)
    rintro e w4 ⟨a', c', rfl, own4, b4⟩
    unfold Mg.val
    have R4 := HR3.out.kept b4
    have rc0 : w4.cell? ⟨w.heap.size, 0, none⟩ = some (.int .u8 0) := R4.cell 0
    have rf0 : w4.frozen? ⟨w.heap.size, 0, none⟩ = false := R4.frozen 0
    have rc1 : w4.cell? ⟨w.heap.size, 1, none⟩ = some (.int .i64 0) := R4.cell 1
    have rf1 : w4.frozen? ⟨w.heap.size, 1, none⟩ = false := R4.frozen 1
    have rc2 : w4.cell? ⟨w.heap.size, 2, none⟩ = some (.int .i64 0) := R4.cell 2
    have rf2 : w4.frozen? ⟨w.heap.size, 2, none⟩ = false := R4.frozen 2
    have rc3 : w4.cell? ⟨w.heap.size, 3, none⟩ = some (.int .i64 0) := R4.cell 3
    have rf3 : w4.frozen? ⟨w.heap.size, 3, none⟩ = false := R4.frozen 3
    have rc4 : w4.cell? ⟨w.heap.size, 4, none⟩ = some (.int .i64 0) := R4.cell 4
    have rf4 : w4.frozen? ⟨w.heap.size, 4, none⟩ = false := R4.frozen 4
    have rc5 : w4.cell? ⟨w.heap.size, 5, none⟩ = some (.int .i64 0) := R4.cell 5
    have rf5 : w4.frozen? ⟨w.heap.size, 5, none⟩ = false := R4.frozen 5
    have rc6 : w4.cell? ⟨w.heap.size, 6, none⟩ = some (.int .i64 0) := R4.cell 6
    have rf6 : w4.frozen? ⟨w.heap.size, 6, none⟩ = false := R4.frozen 6
    have rc7 : w4.cell? ⟨w.heap.size, 7, none⟩ = some (.int .i64 0) := R4.cell 7
    have rf7 : w4.frozen? ⟨w.heap.size, 7, none⟩ = false := R4.frozen 7
    have rc8 : w4.cell? ⟨w.heap.size, 8, none⟩ = some (.int .i64 0) := R4.cell 8
    have rf8 : w4.frozen? ⟨w.heap.size, 8, none⟩ = false := R4.frozen 8
    have rc9 : w4.cell? ⟨w.heap.size, 9, none⟩ = some (.string ⟨#[]⟩) := R4.cell 9
    have rf9 : w4.frozen? ⟨w.heap.size, 9, none⟩ = false := R4.frozen 9
    have rc10 : w4.cell? ⟨w.heap.size, 10, none⟩ = some (.slice none 0 0) := R4.cell 10
    have rf10 : w4.frozen? ⟨w.heap.size, 10, none⟩ = false := R4.frozen 10
    have HE := Lib.hid (And.intro own4 (And.intro b4 R4))
    clear own4 b4 R4 HC f0 f1 f2 f3 f4 f5 f6 f7 f8 f9 f10
    go_wp2_with fail
    refine bodyPost_ret (v := .tuple #[.agg #[.int .u8 m.k, .int .i64 m.fr, .int .i64 m.to, .int .i64 m.ht, .int .i64 m.rd, .int .i64 m.vl, .int .i64 m.ep, .int .i64 m.dl, .int .i64 m.id, .string ⟨m.s.toArray⟩, .slice a' m.l.length c'], .int .i64 0]) (by simp [results, Try.results32, go_sem, rc0, rc1, rc2, rc3, rc4, rc5, rc6, rc7, rc8, rc9, rc10]) rfl ?_
    have o := set11_only w4 w.heap.size (.int .u8 m.k) (.int .i64 m.fr) (.int .i64 m.to) (.int .i64 m.ht) (.int .i64 m.rd) (.int .i64 m.vl) (.int .i64 m.ep) (.int .i64 m.dl) (.int .i64 m.id) (.string ⟨m.s.toArray⟩) (.slice a' m.l.length c')
    refine ⟨a', c', rfl, own_nums (set11_own HE.out.1 HE.out.2.2 (by decide) _ _ _ _ _ _ _ _ _ _ _), ref_given HQ.out.2.1 HP.out.1 HE.out.2.1 o HE.out.2.2 hRG, ?_⟩
    exact ((((only_of_below HQ.out.2.2.1 x).trans HP.out.2)).below HE.out.2.1).fresh o (Nat.le_refl _)
end
end Go.Proofs.Ytbibbndjnlnbiaa
namespace Go.Proofs.Ytbibbndjnlnbiaa
open Go.RowKit

section
variable {X : Nat → Prop} {B x K : Nat}
theorem rgive_any (n : Nt) (k : Int) (w : World) (h : RefAt X B x n w) (ok : n.Ok K) :
    Calls Try.prog 32 #[.pointer (some ⟨x, 0, none⟩), .int .i64 k] w (RGivePost X B x n k w) := by
  cases hk : n.is k with
  | false => exact rgive_no n k w h hk
  | true =>
    obtain ⟨j, rfl⟩ := Int.eq_ofNat_of_zero_le (Nt.is_iff.1 hk).1
    exact rgive_yes n j w h ok hk
/-- What Lose and Twice come to. -/
def RPost (X : Nat → Prop) (B x : Nat) (n : Nt) (v : Int) (w : World) (e : Ending) (w' : World) : Prop := e = .returned (.int .i64 v) ∧ RefAt X B x n w' ∧ Only w w' x
set_option maxRecDepth 100000 in
set_option maxHeartbeats 1000000 in
theorem rlose_any (n : Nt) (k : Int) (w : World) (h : RefAt X B x n w) (ok : n.Ok K) :
    Calls Try.prog 33 #[.pointer (some ⟨x, 0, none⟩), .int .i64 k] w (RPost X B x (n.lose k) (n.lost k) w) := by
  have HC := Lib.hid (rgive_any n k w h ok)
  clear h ok
  unfold RGivePost at HC
  generalize n.lost k = e1 at *
  generalize n.msg k = m at *
  generalize n.lose k = n2 at *
  go_enter Try.func33, Try.ntmps33
  go_wp2_with fail
  refine (Calls.mono HC.out ?_)
  rintro e w1 ⟨a', c', rfl, -, h1, o1⟩
  unfold Mg.val
  have hb : Below w1.heap.size w1 (boxed w1 m a' c') := boxed_below (Below.refl _ w1) (Nat.le_refl _) m a' c'
  have HP := Lib.hid (And.intro (h1.kept hb) (o1.below hb))
  clear h1 o1 hb
  unfold boxed at HP
  go_wp2_with fail
  go_ret
  exact ⟨rfl, HP.out⟩
set_option maxRecDepth 100000 in
set_option maxHeartbeats 1000000 in
theorem rtwice_any (n : Nt) (k : Int) (w : World) (h : RefAt X B x n w) (hX : ∀ q, X q → q < w.heap.size) (ok : n.Ok K) (hK : K ≤ 1000000) :
    Calls Try.prog 34 #[.pointer (some ⟨x, 0, none⟩), .int .i64 k] w (RPost X B x (n.twice k) (n.twiced k) w) := by
  have HI := Lib.hid (ris_any k w h)
  cases hk : n.is k with
  | false =>
    rw [hk] at HI
    have e1 : n.twiced k = 5 := by simp [Nt.twiced, hk]
    have e2 : n.twice k = n := by simp [Nt.twice, hk]
    rw [e1, e2]
    have HP := Lib.hid h
    clear e1 e2 h ok hX
    go_enter Try.func34, Try.ntmps34
    go_wp2_with fail
    refine (Calls.mono HI.out ?_)
    rintro e w' ⟨rfl, rfl⟩
    clear HI
    go_wp2_with fail
    go_ret
    exact ⟨rfl, HP.out, Only.refl _ _⟩
  | true =>
    rw [hk] at HI
    obtain ⟨j, rfl⟩ := Int.eq_ofNat_of_zero_le (Nt.is_iff.1 hk).1
    have hj := (Nt.is_iff.1 hk).2
    have hmj := Nt.msg_at hk
    rw [Int.toNat_natCast] at hmj
    have e1 : n.twiced (j : Int) = (if n.sent (n.msg (j : Int)) then 0 else 41) := by simp [Nt.twiced, hk]
    have e2 : n.twice (j : Int) = n.send (n.msg (j : Int)) := by simp [Nt.twice, hk]
    rw [e1, e2]
    clear e1 e2
    generalize n.msg (j : Int) = m at *
    have hmo := ok.ok m (List.mem_of_getElem? hmj)
    have h0 := h
    obtain ⟨hB, ad, cp, hb, g1, g2, g3⟩ := h0
    obtain ⟨q, rfl, hM⟩ : ∃ q, ad = some ⟨q, 0, none⟩ ∧ RowM X w q cp n.l := by
      rcases g3 with g3 | g3
      · rw [g3] at hj; simp at hj; omega
      · exact g3
    obtain ⟨a1, c1, hat, hnt⟩ := hM.at' hmj
    have HS := Lib.hid (rsend_any n m a1 c1 w h hX ok hK hmo.1.k hnt.nums)
    have x1 : w.cell? ⟨x, 1, none⟩ = some (.slice (some ⟨q, 0, none⟩) n.l.length cp) := hb.cell 1
    obtain ⟨f0, f1, f2, f3, f4, f5, f6, f7, f8, f9, f10⟩ := hat
    have hjI : (j : Int) < (n.l.length : Int) := by omega
    unfold RSendPost at HS
    clear hb g1 g2 g3 hM hnt h hX ok hmo hmj hk
    generalize n.sent m = sb at *
    generalize n.send m = n2 at *
    obtain ⟨vv, hvv⟩ : ∃ vv : Int, vv = (if sb then 0 else 41) := ⟨_, rfl⟩
    rw [← hvv]
    have HV := Lib.hid hvv
    clear hvv
    go_enter Try.func34, Try.ntmps34
    go_wp2_with fail
    refine (Calls.mono HI.out ?_)
    rintro e w' ⟨rfl, rfl⟩
    clear HI
    go_wp2_with fail
    refine (Calls.mono HS.out ?_)
    rintro e w1 ⟨rfl, h1, o1⟩
    have HP := Lib.hid (And.intro h1 o1)
    clear h1 o1 x1 f0 f1 f2 f3 f4 f5 f6 f7 f8 f9 f10 HS
    cases sb with
    | true =>
      go_wp2_with fail
      go_ret
      exact ⟨by rw [HV.out]; rfl, HP.out⟩
    | false =>
      go_wp2_with fail
      go_ret
      exact ⟨by rw [HV.out]; rfl, HP.out⟩
set_option maxRecDepth 100000 in
set_option maxHeartbeats 2000000 in
theorem rto_any (n : Nt) (node : Int) (w : World) (h : RefAt X B x n w) (ok : n.Ok K) :
    Calls Try.prog 35 #[.pointer (some ⟨x, 0, none⟩), .int .i64 node] w (ToPost (n.to node) w) := by
  have hsh : n.l.length ≤ 4096 := by
    have := ok.len
    have := ok.most2
    omega
  have HN := Lib.hid h
  clear h ok
  obtain ⟨i0, hi, hz0, hz1, hz2⟩ := info_parts infoInt
  go_enter Try.func35, Try.ntmps35
  go_wp2_with fail
  go_loopw [5, 6] (fun v i wr => ∃ j : Nat, j ≤ n.l.length ∧ i = .int .i64 j ∧ wr.ownsRow w.heap.size 3 1 v (tos (n.l.take j) 0 node).length ((tos (n.l.take j) 0 node).map (.int .i64)) ∧ Below w.heap.size w wr) (fun _ i _ => n.l.length - (intOf i).toNat)
  case atStart => exact ⟨0, Nat.zero_le _, rfl, World.ownsRow_nil _ _ _ _, Below.refl _ _⟩
  case round =>
    obtain ⟨j, hj, rfl, hO, hB⟩ := hrel
    have hTl : (tos (n.l.take j) 0 node).length ≤ 4096 := by
      have := tos_length_le (n.l.take j) 0 node
      rw [List.length_take] at this
      omega
    have hR := HN.out.kept hB
    obtain ⟨hBx, ad, cp, hb, g1, g2, g3⟩ := hR
    by_cases hlt : j < n.l.length
    · obtain ⟨m, hm⟩ : ∃ m, n.l[j]? = some m := ⟨_, List.getElem?_eq_getElem hlt⟩
      obtain ⟨q, a', c', rfl, hat, -⟩ := RowR.at (X := X) g3 hm
      have x1 : wr.cell? ⟨x, 1, none⟩ = some (.slice (some ⟨q, 0, none⟩) n.l.length cp) := hb.cell 1
      have f2 : wr.cell? ⟨q, j * 11 + 2, none⟩ = some (.int .i64 m.to) := hat.2.2.1
      have HT := Lib.hid (tos_take node hm)
      have hjI : (j : Int) < (n.l.length : Int) := by omega
      have HO := Lib.hid hO
      have HB := Lib.hid (And.intro hB (Nat.le_trans hB.size (Nat.le_refl _)))
      have hBs : w.heap.size ≤ wr.heap.size := hB.size
      clear hm hO hB hb g1 g2 g3 hat
      by_cases hto : m.to = node
      · have hb : (m.to == node) = true := by simpa using hto
        have HTo := Lib.hid hto
        clear hto
        go_wp2_with (at_builtin; refine wpList_append_own_at _ rfl _ _ 46 rfl w.heap.size 3 i0 (.int .i64 0) 1 8 Try.underlying46 hi hz0 hz1 hz2 rfl (by decide) _ _ _ rfl (HO.out.alloc _) ⟨wr.heap.size, 0, none⟩ 1 1 [.int .i64 (j : Int)] rfl rfl (cell_one_new _ _ _) (one_int [(j : Int)]) (by unfold maxLen; omega) (by omega) (by simp; omega) ?_; intro v' w1 hown1 hgrow _ _)
        have G0 : wr.grownBy w1 (Value.ownBlock _) := (World.grownBy_alloc wr (.cells #[.int .i64 (j : Int)] 3) _).trans ⟨hgrow.os, hgrow.tape, hgrow.output, hgrow.size, hgrow.block⟩
        have B1 := grow_own HB.out.1 HO.out G0
        go_wp2_with fail
        go_roundw
        case rel =>
          refine ⟨j + 1, by omega, by go_num, ?_, B1⟩
          rw [HT.out, if_pos HTo.out, List.length_append, List.map_append]
          exact hown1
        case measure => simp [intOf]; omega
      · have hb : (m.to == node) = false := by simpa using hto
        have HTo := Lib.hid hto
        clear hto
        go_wp2_with fail
        go_roundw
        case rel =>
          refine ⟨j + 1, by omega, by go_num, ?_, HB.out.1⟩
          rw [HT.out, if_neg HTo.out, List.append_nil]
          exact HO.out
        case measure => simp [intOf]; omega
    · have hje : j = n.l.length := by omega
      subst hje
      rw [List.take_length] at hO
      obtain ⟨a, c, rfl⟩ := own_form' hO
      have x1 : wr.cell? ⟨x, 1, none⟩ = some (.slice ad n.l.length cp) := hb.cell 1
      have HO := Lib.hid hO
      clear hO hb g1 g2 g3
      go_wp2_with fail
      go_ret
      exact ⟨a, c, rfl, HO.out, hB⟩
end
end Go.Proofs.Ytbibbndjnlnbiaa
