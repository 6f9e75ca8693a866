/-
  consistorylaw13.EntryNames: the walk.
-/
import Derived.Test.YtdnkijljpmcejaaNEMem
namespace Go.Proofs.Ytdnkijljpmcejaa
open Go.RowKit

theorem may_is3 {e : En} {b : Bool} (p : Ad) (w : World) (ok : e.Ok) (hL : e.Lim) (hN : NEn w w.heap.size e p) (h : e.may = b) : Calls Try.prog 37 #[.agg #[.int .u8 e.k, .int .i64 e.id, .int .i64 e.ep, .slice p.a1 e.x.length p.c1, .slice p.a2 e.coms.length p.c2, .slice p.a3 e.next.length p.c3, .slice p.a4 e.deals.length p.c4]] w (BoolPost b w) := by
  rw [← h]
  exact may_any e p w ok hL hN

def badT (i : Nat) (v : Value) (w : World) : Prop := match i with
  | 0 => EntV (⟨0, 0, 0, [], [], [], []⟩ : En) v w
  | 1 => EntV (⟨5, 0, 0, [], [], [], []⟩ : En) v w
  | 2 => EntV (⟨1, 1, 0, [], [], [], []⟩ : En) v w
  | 3 => EntV (⟨1, 0, 1, [], [], [], []⟩ : En) v w
  | 4 => NumV .i64 1 [0] v w
  | 5 => EntV (⟨1, 0, 0, [0], [], [], []⟩ : En) v w
  | 6 => NumV .i64 1 [0] v w
  | 7 => EntV (⟨1, 0, 0, [], [], [0], []⟩ : En) v w
  | 8 => DlsV 1 (List.replicate 1 (0, [])) v w
  | 9 => EntV (⟨1, 0, 0, [], [], [], List.replicate 1 (0, [])⟩ : En) v w
  | 10 => EntV (⟨2, 0, 1, [], [], [], []⟩ : En) v w
  | 11 => EntV (⟨2, -1, 0, [], [], [], []⟩ : En) v w
  | 12 => EntV (⟨2, 1099511627777, 0, [], [], [], []⟩ : En) v w
  | 13 => LstV 1 [[]] v w
  | 14 => EntV (⟨2, 0, 0, [], [[]], [], []⟩ : En) v w
  | 15 => NumV .i64 256 (List.replicate 256 0) v w
  | 16 => EntV (⟨2, 0, 0, List.replicate 256 0, [], [], []⟩ : En) v w
  | 17 => EntV (⟨3, 1, 0, [], [], [], []⟩ : En) v w
  | 18 => EntV (⟨3, 0, -1, [], [], [], []⟩ : En) v w
  | 19 => NumV .i64 1 [-1] v w
  | 20 => EntV (⟨3, 0, 0, [], [], [-1], []⟩ : En) v w
  | 21 => NumV .i64 1 [1099511627777] v w
  | 22 => EntV (⟨3, 0, 0, [], [], [1099511627777], []⟩ : En) v w
  | 23 => NumV .i64 256 (List.replicate 256 0) v w
  | 24 => EntV (⟨3, 0, 0, [], [], List.replicate 256 0, []⟩ : En) v w
  | 25 => NumV .i64 1 [1] v w
  | 26 => EntV (⟨4, 0, 0, [1], [], [], []⟩ : En) v w
  | 27 => EntV (⟨4, 0, 1099511627777, [], [], [], []⟩ : En) v w
  | 28 => v = .agg #[.int .i64 (-1), .slice none 0 0]
  | 29 => DlsV 1 [((-1), [])] v w
  | 30 => EntV (⟨4, 0, 0, [], [], [], [(-1, [])]⟩ : En) v w
  | 31 => DlsV 256 (List.replicate 256 (0, [])) v w
  | 32 => EntV (⟨4, 0, 0, [], [], [], List.replicate 256 (0, [])⟩ : En) v w
  | 33 => LstV 256 (List.replicate 256 []) v w
  | 34 => DlV 256 (List.replicate 256 []) v w
  | 35 => DlsV 1 [(0, List.replicate 256 [])] v w
  | 36 => EntV (⟨4, 0, 0, [], [], [], [(0, List.replicate 256 [])]⟩ : En) v w
  | 37 => LstV 256 (List.replicate 256 []) v w
  | 38 => EntV (⟨1, 0, 0, [], List.replicate 256 [], [], []⟩ : En) v w
  | 39 => ∃ q, v = .slice (some ⟨q, 0, none⟩) 23 23 ∧ RowE w q badE
  | 40 => v = .int .i64 23
  | 41 => v = .int .i64 0
  | _ => True
theorem badT.kept {i : Nat} {v : Value} {w w' : World} (h : badT i v w) (b : Below w.heap.size w w') : badT i v w' := by
  unfold badT at h ⊢
  split at h <;> first | exact h | exact NumV.kept h b | exact LstV.kept h b | exact DlsV.kept h b | exact DlV.kept h b | exact EntV.kept h b | exact h.elim fun q y => ⟨q, y.1, y.2.kept b⟩
def bigT (i : Nat) (v : Value) (w : World) : Prop := match i with
  | 0 => NumV .i64 255 (List.replicate 255 0) v w
  | 1 => EntV (⟨2, 0, 0, List.replicate 255 0, [], [], []⟩ : En) v w
  | 2 => NumV .u64 256 (List.replicate 256 0) v w
  | 3 => LstV 1 [List.replicate 256 0] v w
  | 4 => EntV (⟨1, 0, 0, [], [List.replicate 256 0], [], []⟩ : En) v w
  | 5 => NumV .u64 1025 (List.replicate 1025 0) v w
  | 6 => LstV 1 [List.replicate 1025 0] v w
  | 7 => EntV (⟨1, 0, 0, [], [List.replicate 1025 0], [], []⟩ : En) v w
  | 8 => DlsV 255 (List.replicate 255 (0, [])) v w
  | 9 => EntV (⟨4, 0, 0, [], [], [], List.replicate 255 (0, [])⟩ : En) v w
  | 10 => ∃ q, v = .slice (some ⟨q, 0, none⟩) 4 4 ∧ RowE w q bigE
  | 11 => v = .int .i64 4
  | 12 => v = .int .i64 0
  | _ => True
theorem bigT.kept {i : Nat} {v : Value} {w w' : World} (h : bigT i v w) (b : Below w.heap.size w w') : bigT i v w' := by
  unfold bigT at h ⊢
  split at h <;> first | exact h | exact NumV.kept h b | exact LstV.kept h b | exact DlsV.kept h b | exact DlV.kept h b | exact EntV.kept h b | exact h.elim fun q y => ⟨q, y.1, y.2.kept b⟩
def strRow : Array Value := (strsE.map fun s => Value.string ⟨s.toArray⟩).toArray
theorem strRow_at {j : Nat} {s : List UInt8} (h : strsE[j]? = some s) : strRow[j]? = some (.string ⟨s.toArray⟩) := by simp [strRow, h]
theorem strRow_eq : strRow = #[.string ⟨#[]⟩, .string ⟨#[0]⟩, .string ⟨#[5, 0]⟩, .string ⟨#[1]⟩, .string ⟨#[1, 0, 0]⟩, .string ⟨#[1, 1, 0]⟩, .string ⟨#[2]⟩, .string ⟨#[2, 0, 0, 1, 0, 0, 0, 0, 1, 0]⟩, .string ⟨#[2, 0, 0, 0, 0, 0, 0, 0, 1]⟩, .string ⟨#[3, 128, 0, 0, 0, 0, 0, 0, 0, 0]⟩, .string ⟨#[4, 0, 0, 0, 0, 0, 0, 0, 0, 1]⟩] := rfl
def lval (t : List Int × Option Addr × Nat) : Value := .slice t.2.1 t.1.length t.2.2
theorem lst_blk {w : World} {q : Nat} {cs : Array Value} (L : List (List Int × Option Addr × Nat)) (xs : List Value) (hx : xs = L.map lval) (hb : Blk w q 23 cs) (hc : ∀ (i : Nat) x, xs[i]? = some x → cs[i]? = some x) (hn : ∀ t ∈ L, Nums .u64 w w.heap.size t.2.1 t.1) : NLst w w.heap.size (some ⟨q, 0, none⟩) (L.map (·.1)) := by
  subst hx
  refine .inr ⟨q, 0, rfl, hb.lt, fun i l hl => ?_⟩
  rw [List.getElem?_map] at hl
  cases ht : L[i]? with
  | none => rw [ht] at hl; simp at hl
  | some t =>
    rw [ht] at hl
    simp only [Option.map_some, Option.some.injEq] at hl
    subst hl
    refine ⟨t.2.1, t.2.2, ?_, hn t (List.mem_of_getElem? ht)⟩
    rw [Nat.zero_add, hb.cell i]
    exact hc i _ (by rw [List.getElem?_map, ht]; rfl)
/-- What the last question looks at. -/
structure LastK (w0 : World) (X Y : Nat) (a b : En) (p p' : Ad) (w : World) : Prop where
  x : Blk w X 55 #[.int .u8 a.k, .int .i64 a.id, .int .i64 a.ep, .slice p.a1 a.x.length p.c1, .slice p.a2 a.coms.length p.c2, .slice p.a3 a.next.length p.c3, .slice p.a4 a.deals.length p.c4]
  nx : NEn w w.heap.size a p
  y : Blk w Y 55 #[.int .u8 b.k, .int .i64 b.id, .int .i64 b.ep, .slice p'.a1 b.x.length p'.c1, .slice p'.a2 b.coms.length p'.c2, .slice p'.a3 b.next.length p'.c3, .slice p'.a4 b.deals.length p'.c4]
  ny : NEn w w.heap.size b p'
  bel : Below w0.heap.size w0 w
  oka : a.Ok
  lima : a.Lim
  maya : a.may = true
  okb : b.Ok
  limb : b.Lim
  mayb : b.may = true
  no : a.same b = false
theorem LastK.step {w0 : World} {X Y : Nat} {a b : En} {p p' : Ad} {w w' : World} (h : LastK w0 X Y a b p p' w) (k : Below w.heap.size w w') : LastK w0 X Y a b p p' w' :=
  ⟨h.x.kept k, h.nx.step k, h.y.kept k, h.ny.step k, step_below h.bel k, h.oka, h.lima, h.maya, h.okb, h.limb, h.mayb, h.no⟩
set_option maxRecDepth 100000 in
set_option maxHeartbeats 8000000 in
theorem nenames_any (w : World) : Calls Try.prog 6 #[] w (TruePost w) := by
  go_enter Try.func6, Try.ntmps6
  go_wp2_with fail
  refine (awake_any w).mono ?_
  rintro e w1 ⟨rfl, b1⟩
  have HC := Lib.hid (copy_any En.zero ⟨none, 0, none, 0, none, 0, none, 0⟩ w1 zero_lim nen_nil)
  have H1 := Lib.hid b1
  clear b1
  go_wp2_with fail
  refine (Calls.mono HC.out ?_)
  rintro e w2 ⟨p2, rfl, o2, b2⟩
  have HS := Lib.hid (rsame_is p2 ⟨none, 0, none, 0, none, 0, none, 0⟩ w2 o2.nums nen_nil zero_lim.cnt zero_lim.cnt (En.same_iff.2 rfl))
  have H2 := Lib.hid (step_below H1.out b2)
  clear o2 b2 HC H1
  go_wp2_with fail
  refine (Calls.mono HS.out ?_)
  rintro e w3 ⟨rfl, b3⟩
  have H3 := Lib.hid (step_below H2.out b3)
  clear HS H2 b3
  go_upto_region 3 with fail
  refine' wp_region_invB _ badT (fun _ w' => Below w.heap.size w w') (fun _ wa wb => Below wa.heap.size wa wb) ?hA (by kernel_rfl) (by kernel_rfl) (by kernel_rfl) (H3.out.drew) (fun _ _ _ _ _ _ _ _ _ _ h b => badT.kept h b) ?step ?fin
  case hA =>
    intro vs
    conv => lhs; simp only [fillL, Act.put, List.setIfInBounds_toArray, List.set_cons_zero, List.set_cons_succ, Nat.reduceAdd]
    try exact rfl
  case step =>
    refine StepsA.cons (fun L vs w1 hl hdl hg hd => ?_) ?_
    · refine opTo_of (by kernel_rfl) (fun K' hK => ?_)
      go_simp
      exact hK.out (En.val ⟨0, 0, 0, [], [], [], []⟩ ⟨none, 0, none, 0, none, 0, none, 0⟩) _ _ (by kernel_rfl) ⟨hg, Below.refl _ _, ⟨none, 0, none, 0, none, 0, none, 0⟩, rfl, nen_nil⟩
    refine StepsA.cons (fun L vs w1 hl hdl hg hd => ?_) ?_
    · refine opTo_of (by kernel_rfl) (fun K' hK => ?_)
      go_simp
      exact hK.out (En.val ⟨5, 0, 0, [], [], [], []⟩ ⟨none, 0, none, 0, none, 0, none, 0⟩) _ _ (by kernel_rfl) ⟨hg, Below.refl _ _, ⟨none, 0, none, 0, none, 0, none, 0⟩, rfl, nen_nil⟩
    refine StepsA.cons (fun L vs w1 hl hdl hg hd => ?_) ?_
    · refine opTo_of (by kernel_rfl) (fun K' hK => ?_)
      go_simp
      exact hK.out (En.val ⟨1, 1, 0, [], [], [], []⟩ ⟨none, 0, none, 0, none, 0, none, 0⟩) _ _ (by kernel_rfl) ⟨hg, Below.refl _ _, ⟨none, 0, none, 0, none, 0, none, 0⟩, rfl, nen_nil⟩
    refine StepsA.cons (fun L vs w1 hl hdl hg hd => ?_) ?_
    · refine opTo_of (by kernel_rfl) (fun K' hK => ?_)
      go_simp
      exact hK.out (En.val ⟨1, 0, 1, [], [], [], []⟩ ⟨none, 0, none, 0, none, 0, none, 0⟩) _ _ (by kernel_rfl) ⟨hg, Below.refl _ _, ⟨none, 0, none, 0, none, 0, none, 0⟩, rfl, nen_nil⟩
    refine StepsA.cons (fun L vs w1 hl hdl hg hd => ?_) ?_
    · have al : ∀ o, Below w1.heap.size w1 (w1.alloc o) := fun o => (Below.refl _ w1).alloc (Nat.le_refl _) o
      refine opTo_of (by kernel_rfl) (fun K' hK => ?_)
      go_simp
      exact hK.out (.slice (some ⟨w1.heap.size, 0, none⟩) 1 1) _ _ (by kernel_rfl) ⟨step_below hg (al _), al _, _, rfl, nums_lit .i64 2 w1 _ _ rfl⟩
    refine StepsA.cons (fun L vs w1 hl hdl hg hd => ?_) ?_
    · obtain ⟨q, e4, hq⟩ := hd 4 (by decide)
      have e4 : vs 4 = .slice (some ⟨q, 0, none⟩) 1 1 := e4
      refine opTo_of (by kernel_rfl) (fun K' hK => ?_)
      go_simp
      exact hK.out (En.val ⟨1, 0, 0, [0], [], [], []⟩ ⟨some ⟨q, 0, none⟩, 1, none, 0, none, 0, none, 0⟩) _ _ (by simp only [e4]; kernel_rfl) ⟨hg, Below.refl _ _, ⟨some ⟨q, 0, none⟩, 1, none, 0, none, 0, none, 0⟩, rfl, ⟨hq, .inl rfl, .inl rfl, .inl rfl⟩⟩
    refine StepsA.cons (fun L vs w1 hl hdl hg hd => ?_) ?_
    · have al : ∀ o, Below w1.heap.size w1 (w1.alloc o) := fun o => (Below.refl _ w1).alloc (Nat.le_refl _) o
      refine opTo_of (by kernel_rfl) (fun K' hK => ?_)
      go_simp
      exact hK.out (.slice (some ⟨w1.heap.size, 0, none⟩) 1 1) _ _ (by kernel_rfl) ⟨step_below hg (al _), al _, _, rfl, nums_lit .i64 3 w1 _ _ rfl⟩
    refine StepsA.cons (fun L vs w1 hl hdl hg hd => ?_) ?_
    · obtain ⟨q, e6, hq⟩ := hd 6 (by decide)
      have e6 : vs 6 = .slice (some ⟨q, 0, none⟩) 1 1 := e6
      refine opTo_of (by kernel_rfl) (fun K' hK => ?_)
      go_simp
      exact hK.out (En.val ⟨1, 0, 0, [], [], [0], []⟩ ⟨none, 0, none, 0, some ⟨q, 0, none⟩, 1, none, 0⟩) _ _ (by simp only [e6]; kernel_rfl) ⟨hg, Below.refl _ _, ⟨none, 0, none, 0, some ⟨q, 0, none⟩, 1, none, 0⟩, rfl, ⟨.inl rfl, .inl rfl, hq, .inl rfl⟩⟩
    refine StepsA.cons (fun L vs w1 hl hdl hg hd => ?_) ?_
    · have al : ∀ o, Below w1.heap.size w1 (w1.alloc o) := fun o => (Below.refl _ w1).alloc (Nat.le_refl _) o
      have hmk : (Instr.makeSlice 53 (.int .i64 1) (.int .i64 1)).run Try.prog w1 = .ok (.slice (some ⟨w1.heap.size, 0, none⟩) 1 1) (w1.alloc (.cells (dlsZ 1) 58)) := mk_dls 1 (by decide) w1
      refine opTo_of (by kernel_rfl) (fun K' hK => ?_)
      go_simp
      exact hK.out (.slice (some ⟨w1.heap.size, 0, none⟩) 1 1) _ _ (by kernel_rfl) ⟨step_below hg (al _), al _, _, rfl, dls_nils w1 1⟩
    refine StepsA.cons (fun L vs w1 hl hdl hg hd => ?_) ?_
    · obtain ⟨q, e8, hq⟩ := hd 8 (by decide)
      have e8 : vs 8 = .slice (some ⟨q, 0, none⟩) 1 1 := e8
      refine opTo_of (by kernel_rfl) (fun K' hK => ?_)
      go_simp
      exact hK.out (En.val ⟨1, 0, 0, [], [], [], List.replicate 1 (0, [])⟩ ⟨none, 0, none, 0, none, 0, some ⟨q, 0, none⟩, 1⟩) _ _ (by simp only [e8]; kernel_rfl) ⟨hg, Below.refl _ _, ⟨none, 0, none, 0, none, 0, some ⟨q, 0, none⟩, 1⟩, rfl, ⟨.inl rfl, .inl rfl, .inl rfl, hq⟩⟩
    refine StepsA.cons (fun L vs w1 hl hdl hg hd => ?_) ?_
    · refine opTo_of (by kernel_rfl) (fun K' hK => ?_)
      go_simp
      exact hK.out (En.val ⟨2, 0, 1, [], [], [], []⟩ ⟨none, 0, none, 0, none, 0, none, 0⟩) _ _ (by kernel_rfl) ⟨hg, Below.refl _ _, ⟨none, 0, none, 0, none, 0, none, 0⟩, rfl, nen_nil⟩
    refine StepsA.cons (fun L vs w1 hl hdl hg hd => ?_) ?_
    · refine opTo_of (by kernel_rfl) (fun K' hK => ?_)
      go_simp
      exact hK.out (En.val ⟨2, -1, 0, [], [], [], []⟩ ⟨none, 0, none, 0, none, 0, none, 0⟩) _ _ (by kernel_rfl) ⟨hg, Below.refl _ _, ⟨none, 0, none, 0, none, 0, none, 0⟩, rfl, nen_nil⟩
    refine StepsA.cons (fun L vs w1 hl hdl hg hd => ?_) ?_
    · refine opTo_of (by kernel_rfl) (fun K' hK => ?_)
      go_simp
      exact hK.out (En.val ⟨2, 1099511627777, 0, [], [], [], []⟩ ⟨none, 0, none, 0, none, 0, none, 0⟩) _ _ (by kernel_rfl) ⟨hg, Below.refl _ _, ⟨none, 0, none, 0, none, 0, none, 0⟩, rfl, nen_nil⟩
    refine StepsA.cons (fun L vs w1 hl hdl hg hd => ?_) ?_
    · have al : ∀ o, Below w1.heap.size w1 (w1.alloc o) := fun o => (Below.refl _ w1).alloc (Nat.le_refl _) o
      refine opTo_of (by kernel_rfl) (fun K' hK => ?_)
      go_simp
      exact hK.out (.slice (some ⟨w1.heap.size, 0, none⟩) 1 1) _ _ (by kernel_rfl) ⟨step_below hg (al _), al _, _, rfl, lst_lit w1 [([], none, 0)] _ rfl (by simp [Nums])⟩
    refine StepsA.cons (fun L vs w1 hl hdl hg hd => ?_) ?_
    · obtain ⟨q, e13, hq⟩ := hd 13 (by decide)
      have e13 : vs 13 = .slice (some ⟨q, 0, none⟩) 1 1 := e13
      refine opTo_of (by kernel_rfl) (fun K' hK => ?_)
      go_simp
      exact hK.out (En.val ⟨2, 0, 0, [], [[]], [], []⟩ ⟨none, 0, some ⟨q, 0, none⟩, 1, none, 0, none, 0⟩) _ _ (by simp only [e13]; kernel_rfl) ⟨hg, Below.refl _ _, ⟨none, 0, some ⟨q, 0, none⟩, 1, none, 0, none, 0⟩, rfl, ⟨.inl rfl, hq, .inl rfl, .inl rfl⟩⟩
    refine StepsA.cons (fun L vs w1 hl hdl hg hd => ?_) ?_
    · have al : ∀ o, Below w1.heap.size w1 (w1.alloc o) := fun o => (Below.refl _ w1).alloc (Nat.le_refl _) o
      have hmk : (Instr.makeSlice 51 (.int .i64 256) (.int .i64 256)).run Try.prog w1 = .ok (.slice (some ⟨w1.heap.size, 0, none⟩) 256 256) (w1.alloc (.cells (Array.replicate 256 (.int .i64 0)) 2)) := mk_i64 256 (by decide) w1
      refine opTo_of (by kernel_rfl) (fun K' hK => ?_)
      go_simp
      exact hK.out (.slice (some ⟨w1.heap.size, 0, none⟩) 256 256) _ _ (by kernel_rfl) ⟨step_below hg (al _), al _, _, rfl, nums_zeros .i64 2 w1 256⟩
    refine StepsA.cons (fun L vs w1 hl hdl hg hd => ?_) ?_
    · obtain ⟨q, e15, hq⟩ := hd 15 (by decide)
      have e15 : vs 15 = .slice (some ⟨q, 0, none⟩) 256 256 := e15
      refine opTo_of (by kernel_rfl) (fun K' hK => ?_)
      go_simp
      exact hK.out (En.val ⟨2, 0, 0, List.replicate 256 0, [], [], []⟩ ⟨some ⟨q, 0, none⟩, 256, none, 0, none, 0, none, 0⟩) _ _ (by simp only [e15]; kernel_rfl) ⟨hg, Below.refl _ _, ⟨some ⟨q, 0, none⟩, 256, none, 0, none, 0, none, 0⟩, rfl, ⟨hq, .inl rfl, .inl rfl, .inl rfl⟩⟩
    refine StepsA.cons (fun L vs w1 hl hdl hg hd => ?_) ?_
    · refine opTo_of (by kernel_rfl) (fun K' hK => ?_)
      go_simp
      exact hK.out (En.val ⟨3, 1, 0, [], [], [], []⟩ ⟨none, 0, none, 0, none, 0, none, 0⟩) _ _ (by kernel_rfl) ⟨hg, Below.refl _ _, ⟨none, 0, none, 0, none, 0, none, 0⟩, rfl, nen_nil⟩
    refine StepsA.cons (fun L vs w1 hl hdl hg hd => ?_) ?_
    · refine opTo_of (by kernel_rfl) (fun K' hK => ?_)
      go_simp
      exact hK.out (En.val ⟨3, 0, -1, [], [], [], []⟩ ⟨none, 0, none, 0, none, 0, none, 0⟩) _ _ (by kernel_rfl) ⟨hg, Below.refl _ _, ⟨none, 0, none, 0, none, 0, none, 0⟩, rfl, nen_nil⟩
    refine StepsA.cons (fun L vs w1 hl hdl hg hd => ?_) ?_
    · have al : ∀ o, Below w1.heap.size w1 (w1.alloc o) := fun o => (Below.refl _ w1).alloc (Nat.le_refl _) o
      refine opTo_of (by kernel_rfl) (fun K' hK => ?_)
      go_simp
      exact hK.out (.slice (some ⟨w1.heap.size, 0, none⟩) 1 1) _ _ (by kernel_rfl) ⟨step_below hg (al _), al _, _, rfl, nums_lit .i64 3 w1 _ _ rfl⟩
    refine StepsA.cons (fun L vs w1 hl hdl hg hd => ?_) ?_
    · obtain ⟨q, e19, hq⟩ := hd 19 (by decide)
      have e19 : vs 19 = .slice (some ⟨q, 0, none⟩) 1 1 := e19
      refine opTo_of (by kernel_rfl) (fun K' hK => ?_)
      go_simp
      exact hK.out (En.val ⟨3, 0, 0, [], [], [-1], []⟩ ⟨none, 0, none, 0, some ⟨q, 0, none⟩, 1, none, 0⟩) _ _ (by simp only [e19]; kernel_rfl) ⟨hg, Below.refl _ _, ⟨none, 0, none, 0, some ⟨q, 0, none⟩, 1, none, 0⟩, rfl, ⟨.inl rfl, .inl rfl, hq, .inl rfl⟩⟩
    refine StepsA.cons (fun L vs w1 hl hdl hg hd => ?_) ?_
    · have al : ∀ o, Below w1.heap.size w1 (w1.alloc o) := fun o => (Below.refl _ w1).alloc (Nat.le_refl _) o
      refine opTo_of (by kernel_rfl) (fun K' hK => ?_)
      go_simp
      exact hK.out (.slice (some ⟨w1.heap.size, 0, none⟩) 1 1) _ _ (by kernel_rfl) ⟨step_below hg (al _), al _, _, rfl, nums_lit .i64 3 w1 _ _ rfl⟩
    refine StepsA.cons (fun L vs w1 hl hdl hg hd => ?_) ?_
    · obtain ⟨q, e21, hq⟩ := hd 21 (by decide)
      have e21 : vs 21 = .slice (some ⟨q, 0, none⟩) 1 1 := e21
      refine opTo_of (by kernel_rfl) (fun K' hK => ?_)
      go_simp
      exact hK.out (En.val ⟨3, 0, 0, [], [], [1099511627777], []⟩ ⟨none, 0, none, 0, some ⟨q, 0, none⟩, 1, none, 0⟩) _ _ (by simp only [e21]; kernel_rfl) ⟨hg, Below.refl _ _, ⟨none, 0, none, 0, some ⟨q, 0, none⟩, 1, none, 0⟩, rfl, ⟨.inl rfl, .inl rfl, hq, .inl rfl⟩⟩
    refine StepsA.cons (fun L vs w1 hl hdl hg hd => ?_) ?_
    · have al : ∀ o, Below w1.heap.size w1 (w1.alloc o) := fun o => (Below.refl _ w1).alloc (Nat.le_refl _) o
      have hmk : (Instr.makeSlice 40 (.int .i64 256) (.int .i64 256)).run Try.prog w1 = .ok (.slice (some ⟨w1.heap.size, 0, none⟩) 256 256) (w1.alloc (.cells (Array.replicate 256 (.int .i64 0)) 3)) := mk_int 256 (by decide) w1
      refine opTo_of (by kernel_rfl) (fun K' hK => ?_)
      go_simp
      exact hK.out (.slice (some ⟨w1.heap.size, 0, none⟩) 256 256) _ _ (by kernel_rfl) ⟨step_below hg (al _), al _, _, rfl, nums_zeros .i64 3 w1 256⟩
    refine StepsA.cons (fun L vs w1 hl hdl hg hd => ?_) ?_
    · obtain ⟨q, e23, hq⟩ := hd 23 (by decide)
      have e23 : vs 23 = .slice (some ⟨q, 0, none⟩) 256 256 := e23
      refine opTo_of (by kernel_rfl) (fun K' hK => ?_)
      go_simp
      exact hK.out (En.val ⟨3, 0, 0, [], [], List.replicate 256 0, []⟩ ⟨none, 0, none, 0, some ⟨q, 0, none⟩, 256, none, 0⟩) _ _ (by simp only [e23]; kernel_rfl) ⟨hg, Below.refl _ _, ⟨none, 0, none, 0, some ⟨q, 0, none⟩, 256, none, 0⟩, rfl, ⟨.inl rfl, .inl rfl, hq, .inl rfl⟩⟩
    refine StepsA.cons (fun L vs w1 hl hdl hg hd => ?_) ?_
    · have al : ∀ o, Below w1.heap.size w1 (w1.alloc o) := fun o => (Below.refl _ w1).alloc (Nat.le_refl _) o
      refine opTo_of (by kernel_rfl) (fun K' hK => ?_)
      go_simp
      exact hK.out (.slice (some ⟨w1.heap.size, 0, none⟩) 1 1) _ _ (by kernel_rfl) ⟨step_below hg (al _), al _, _, rfl, nums_lit .i64 2 w1 _ _ rfl⟩
    refine StepsA.cons (fun L vs w1 hl hdl hg hd => ?_) ?_
    · obtain ⟨q, e25, hq⟩ := hd 25 (by decide)
      have e25 : vs 25 = .slice (some ⟨q, 0, none⟩) 1 1 := e25
      refine opTo_of (by kernel_rfl) (fun K' hK => ?_)
      go_simp
      exact hK.out (En.val ⟨4, 0, 0, [1], [], [], []⟩ ⟨some ⟨q, 0, none⟩, 1, none, 0, none, 0, none, 0⟩) _ _ (by simp only [e25]; kernel_rfl) ⟨hg, Below.refl _ _, ⟨some ⟨q, 0, none⟩, 1, none, 0, none, 0, none, 0⟩, rfl, ⟨hq, .inl rfl, .inl rfl, .inl rfl⟩⟩
    refine StepsA.cons (fun L vs w1 hl hdl hg hd => ?_) ?_
    · refine opTo_of (by kernel_rfl) (fun K' hK => ?_)
      go_simp
      exact hK.out (En.val ⟨4, 0, 1099511627777, [], [], [], []⟩ ⟨none, 0, none, 0, none, 0, none, 0⟩) _ _ (by kernel_rfl) ⟨hg, Below.refl _ _, ⟨none, 0, none, 0, none, 0, none, 0⟩, rfl, nen_nil⟩
    refine StepsA.cons (fun L vs w1 hl hdl hg hd => ?_) ?_
    · refine opTo_of (by kernel_rfl) (fun K' hK => ?_)
      go_simp
      exact hK.out (.agg #[.int .i64 (-1), .slice none 0 0]) _ _ (by kernel_rfl) ⟨hg, Below.refl _ _, rfl⟩
    refine StepsA.cons (fun L vs w1 hl hdl hg hd => ?_) ?_
    · have e28 : vs 28 = .agg #[.int .i64 (-1), .slice none 0 0] := hd 28 (by decide)
      have al : ∀ o, Below w1.heap.size w1 (w1.alloc o) := fun o => (Below.refl _ w1).alloc (Nat.le_refl _) o
      refine opTo_of (by kernel_rfl) (fun K' hK => ?_)
      go_simp
      exact hK.out (.slice (some ⟨w1.heap.size, 0, none⟩) 1 1) _ _ (by simp only [e28]; kernel_rfl) ⟨step_below hg (al _), al _, _, rfl, dls_one w1 (-1) [] none 0 (.inl rfl) _ rfl⟩
    refine StepsA.cons (fun L vs w1 hl hdl hg hd => ?_) ?_
    · obtain ⟨q, e29, hq⟩ := hd 29 (by decide)
      have e29 : vs 29 = .slice (some ⟨q, 0, none⟩) 1 1 := e29
      refine opTo_of (by kernel_rfl) (fun K' hK => ?_)
      go_simp
      exact hK.out (En.val ⟨4, 0, 0, [], [], [], [(-1, [])]⟩ ⟨none, 0, none, 0, none, 0, some ⟨q, 0, none⟩, 1⟩) _ _ (by simp only [e29]; kernel_rfl) ⟨hg, Below.refl _ _, ⟨none, 0, none, 0, none, 0, some ⟨q, 0, none⟩, 1⟩, rfl, ⟨.inl rfl, .inl rfl, .inl rfl, hq⟩⟩
    refine StepsA.cons (fun L vs w1 hl hdl hg hd => ?_) ?_
    · have al : ∀ o, Below w1.heap.size w1 (w1.alloc o) := fun o => (Below.refl _ w1).alloc (Nat.le_refl _) o
      have hmk : (Instr.makeSlice 53 (.int .i64 256) (.int .i64 256)).run Try.prog w1 = .ok (.slice (some ⟨w1.heap.size, 0, none⟩) 256 256) (w1.alloc (.cells (dlsZ 256) 58)) := mk_dls 256 (by decide) w1
      refine opTo_of (by kernel_rfl) (fun K' hK => ?_)
      go_simp
      exact hK.out (.slice (some ⟨w1.heap.size, 0, none⟩) 256 256) _ _ (by kernel_rfl) ⟨step_below hg (al _), al _, _, rfl, dls_nils w1 256⟩
    refine StepsA.cons (fun L vs w1 hl hdl hg hd => ?_) ?_
    · obtain ⟨q, e31, hq⟩ := hd 31 (by decide)
      have e31 : vs 31 = .slice (some ⟨q, 0, none⟩) 256 256 := e31
      refine opTo_of (by kernel_rfl) (fun K' hK => ?_)
      go_simp
      exact hK.out (En.val ⟨4, 0, 0, [], [], [], List.replicate 256 (0, [])⟩ ⟨none, 0, none, 0, none, 0, some ⟨q, 0, none⟩, 256⟩) _ _ (by simp only [e31]; kernel_rfl) ⟨hg, Below.refl _ _, ⟨none, 0, none, 0, none, 0, some ⟨q, 0, none⟩, 256⟩, rfl, ⟨.inl rfl, .inl rfl, .inl rfl, hq⟩⟩
    refine StepsA.cons (fun L vs w1 hl hdl hg hd => ?_) ?_
    · have al : ∀ o, Below w1.heap.size w1 (w1.alloc o) := fun o => (Below.refl _ w1).alloc (Nat.le_refl _) o
      have hmk : (Instr.makeSlice 52 (.int .i64 256) (.int .i64 256)).run Try.prog w1 = .ok (.slice (some ⟨w1.heap.size, 0, none⟩) 256 256) (w1.alloc (.cells (Array.replicate 256 (.slice none 0 0)) 23)) := mk_lst 256 (by decide) w1
      refine opTo_of (by kernel_rfl) (fun K' hK => ?_)
      go_simp
      exact hK.out (.slice (some ⟨w1.heap.size, 0, none⟩) 256 256) _ _ (by kernel_rfl) ⟨step_below hg (al _), al _, _, rfl, lst_nils w1 256⟩
    refine StepsA.cons (fun L vs w1 hl hdl hg hd => ?_) ?_
    · obtain ⟨q, e33, hq⟩ := hd 33 (by decide)
      have e33 : vs 33 = .slice (some ⟨q, 0, none⟩) 256 256 := e33
      refine opTo_of (by kernel_rfl) (fun K' hK => ?_)
      go_simp
      exact hK.out (.agg #[.int .i64 0, .slice (some ⟨q, 0, none⟩) 256 256]) _ _ (by simp only [e33]; kernel_rfl) ⟨hg, Below.refl _ _, _, rfl, hq⟩
    refine StepsA.cons (fun L vs w1 hl hdl hg hd => ?_) ?_
    · obtain ⟨a, e34, hq⟩ := hd 34 (by decide)
      have e34 : vs 34 = .agg #[.int .i64 0, .slice a 256 256] := e34
      have al : ∀ o, Below w1.heap.size w1 (w1.alloc o) := fun o => (Below.refl _ w1).alloc (Nat.le_refl _) o
      refine opTo_of (by kernel_rfl) (fun K' hK => ?_)
      go_simp
      exact hK.out (.slice (some ⟨w1.heap.size, 0, none⟩) 1 1) _ _ (by simp only [e34]; kernel_rfl) ⟨step_below hg (al _), al _, _, rfl, dls_one w1 0 (List.replicate 256 []) a 256 hq _ (by simp only [List.length_replicate])⟩
    refine StepsA.cons (fun L vs w1 hl hdl hg hd => ?_) ?_
    · obtain ⟨q, e35, hq⟩ := hd 35 (by decide)
      have e35 : vs 35 = .slice (some ⟨q, 0, none⟩) 1 1 := e35
      refine opTo_of (by kernel_rfl) (fun K' hK => ?_)
      go_simp
      exact hK.out (En.val ⟨4, 0, 0, [], [], [], [(0, List.replicate 256 [])]⟩ ⟨none, 0, none, 0, none, 0, some ⟨q, 0, none⟩, 1⟩) _ _ (by simp only [e35]; kernel_rfl) ⟨hg, Below.refl _ _, ⟨none, 0, none, 0, none, 0, some ⟨q, 0, none⟩, 1⟩, rfl, ⟨.inl rfl, .inl rfl, .inl rfl, hq⟩⟩
    refine StepsA.cons (fun L vs w1 hl hdl hg hd => ?_) ?_
    · have al : ∀ o, Below w1.heap.size w1 (w1.alloc o) := fun o => (Below.refl _ w1).alloc (Nat.le_refl _) o
      have hmk : (Instr.makeSlice 52 (.int .i64 256) (.int .i64 256)).run Try.prog w1 = .ok (.slice (some ⟨w1.heap.size, 0, none⟩) 256 256) (w1.alloc (.cells (Array.replicate 256 (.slice none 0 0)) 23)) := mk_lst 256 (by decide) w1
      refine opTo_of (by kernel_rfl) (fun K' hK => ?_)
      go_simp
      exact hK.out (.slice (some ⟨w1.heap.size, 0, none⟩) 256 256) _ _ (by kernel_rfl) ⟨step_below hg (al _), al _, _, rfl, lst_nils w1 256⟩
    refine StepsA.cons (fun L vs w1 hl hdl hg hd => ?_) ?_
    · obtain ⟨q, e37, hq⟩ := hd 37 (by decide)
      have e37 : vs 37 = .slice (some ⟨q, 0, none⟩) 256 256 := e37
      refine opTo_of (by kernel_rfl) (fun K' hK => ?_)
      go_simp
      exact hK.out (En.val ⟨1, 0, 0, [], List.replicate 256 [], [], []⟩ ⟨none, 0, some ⟨q, 0, none⟩, 256, none, 0, none, 0⟩) _ _ (by simp only [e37]; kernel_rfl) ⟨hg, Below.refl _ _, ⟨none, 0, some ⟨q, 0, none⟩, 256, none, 0, none, 0⟩, rfl, ⟨.inl rfl, hq, .inl rfl, .inl rfl⟩⟩
    refine StepsA.cons (fun L vs w1 hl hdl hg hd => ?_) ?_
    · obtain ⟨p0, e0, n0⟩ := hd 0 (by decide)
      have e0 : vs 0 = En.val ⟨0, 0, 0, [], [], [], []⟩ p0 := e0
      obtain ⟨p1, e1, n1⟩ := hd 1 (by decide)
      have e1 : vs 1 = En.val ⟨5, 0, 0, [], [], [], []⟩ p1 := e1
      obtain ⟨p2, e2, n2⟩ := hd 2 (by decide)
      have e2 : vs 2 = En.val ⟨1, 1, 0, [], [], [], []⟩ p2 := e2
      obtain ⟨p3, e3, n3⟩ := hd 3 (by decide)
      have e3 : vs 3 = En.val ⟨1, 0, 1, [], [], [], []⟩ p3 := e3
      obtain ⟨p5, e5, n5⟩ := hd 5 (by decide)
      have e5 : vs 5 = En.val ⟨1, 0, 0, [0], [], [], []⟩ p5 := e5
      obtain ⟨p7, e7, n7⟩ := hd 7 (by decide)
      have e7 : vs 7 = En.val ⟨1, 0, 0, [], [], [0], []⟩ p7 := e7
      obtain ⟨p9, e9, n9⟩ := hd 9 (by decide)
      have e9 : vs 9 = En.val ⟨1, 0, 0, [], [], [], List.replicate 1 (0, [])⟩ p9 := e9
      obtain ⟨p10, e10, n10⟩ := hd 10 (by decide)
      have e10 : vs 10 = En.val ⟨2, 0, 1, [], [], [], []⟩ p10 := e10
      obtain ⟨p11, e11, n11⟩ := hd 11 (by decide)
      have e11 : vs 11 = En.val ⟨2, -1, 0, [], [], [], []⟩ p11 := e11
      obtain ⟨p12, e12, n12⟩ := hd 12 (by decide)
      have e12 : vs 12 = En.val ⟨2, 1099511627777, 0, [], [], [], []⟩ p12 := e12
      obtain ⟨p14, e14, n14⟩ := hd 14 (by decide)
      have e14 : vs 14 = En.val ⟨2, 0, 0, [], [[]], [], []⟩ p14 := e14
      obtain ⟨p16, e16, n16⟩ := hd 16 (by decide)
      have e16 : vs 16 = En.val ⟨2, 0, 0, List.replicate 256 0, [], [], []⟩ p16 := e16
      obtain ⟨p17, e17, n17⟩ := hd 17 (by decide)
      have e17 : vs 17 = En.val ⟨3, 1, 0, [], [], [], []⟩ p17 := e17
      obtain ⟨p18, e18, n18⟩ := hd 18 (by decide)
      have e18 : vs 18 = En.val ⟨3, 0, -1, [], [], [], []⟩ p18 := e18
      obtain ⟨p20, e20, n20⟩ := hd 20 (by decide)
      have e20 : vs 20 = En.val ⟨3, 0, 0, [], [], [-1], []⟩ p20 := e20
      obtain ⟨p22, e22, n22⟩ := hd 22 (by decide)
      have e22 : vs 22 = En.val ⟨3, 0, 0, [], [], [1099511627777], []⟩ p22 := e22
      obtain ⟨p24, e24, n24⟩ := hd 24 (by decide)
      have e24 : vs 24 = En.val ⟨3, 0, 0, [], [], List.replicate 256 0, []⟩ p24 := e24
      obtain ⟨p26, e26, n26⟩ := hd 26 (by decide)
      have e26 : vs 26 = En.val ⟨4, 0, 0, [1], [], [], []⟩ p26 := e26
      obtain ⟨p27, e27, n27⟩ := hd 27 (by decide)
      have e27 : vs 27 = En.val ⟨4, 0, 1099511627777, [], [], [], []⟩ p27 := e27
      obtain ⟨p30, e30, n30⟩ := hd 30 (by decide)
      have e30 : vs 30 = En.val ⟨4, 0, 0, [], [], [], [(-1, [])]⟩ p30 := e30
      obtain ⟨p32, e32, n32⟩ := hd 32 (by decide)
      have e32 : vs 32 = En.val ⟨4, 0, 0, [], [], [], List.replicate 256 (0, [])⟩ p32 := e32
      obtain ⟨p36, e36, n36⟩ := hd 36 (by decide)
      have e36 : vs 36 = En.val ⟨4, 0, 0, [], [], [], [(0, List.replicate 256 [])]⟩ p36 := e36
      obtain ⟨p38, e38, n38⟩ := hd 38 (by decide)
      have e38 : vs 38 = En.val ⟨1, 0, 0, [], List.replicate 256 [], [], []⟩ p38 := e38
      have al : ∀ o, Below w1.heap.size w1 (w1.alloc o) := fun o => (Below.refl _ w1).alloc (Nat.le_refl _) o
      obtain ⟨iE, ei, ez0, ez1, ez2⟩ := info_parts infoEn
      refine opTo_row rfl 59 55 23 _ rfl (eflat [(⟨0, 0, 0, [], [], [], []⟩, p0), (⟨5, 0, 0, [], [], [], []⟩, p1), (⟨1, 1, 0, [], [], [], []⟩, p2), (⟨1, 0, 1, [], [], [], []⟩, p3), (⟨1, 0, 0, [0], [], [], []⟩, p5), (⟨1, 0, 0, [], [], [0], []⟩, p7), (⟨1, 0, 0, [], [], [], List.replicate 1 (0, [])⟩, p9), (⟨2, 0, 1, [], [], [], []⟩, p10), (⟨2, -1, 0, [], [], [], []⟩, p11), (⟨2, 1099511627777, 0, [], [], [], []⟩, p12), (⟨2, 0, 0, [], [[]], [], []⟩, p14), (⟨2, 0, 0, List.replicate 256 0, [], [], []⟩, p16), (⟨3, 1, 0, [], [], [], []⟩, p17), (⟨3, 0, -1, [], [], [], []⟩, p18), (⟨3, 0, 0, [], [], [-1], []⟩, p20), (⟨3, 0, 0, [], [], [1099511627777], []⟩, p22), (⟨3, 0, 0, [], [], List.replicate 256 0, []⟩, p24), (⟨4, 0, 0, [1], [], [], []⟩, p26), (⟨4, 0, 1099511627777, [], [], [], []⟩, p27), (⟨4, 0, 0, [], [], [], [(-1, [])]⟩, p30), (⟨4, 0, 0, [], [], [], List.replicate 256 (0, [])⟩, p32), (⟨4, 0, 0, [], [], [], [(0, List.replicate 256 [])]⟩, p36), (⟨1, 0, 0, [], List.replicate 256 [], [], []⟩, p38)]).toArray iE _ 7 Try.underlying59 ei ez0 ez1 (by decide) (by decide) ?_ ⟨step_below hg (al _), al _, _, rfl, rowE_new w1 [(⟨0, 0, 0, [], [], [], []⟩, p0), (⟨5, 0, 0, [], [], [], []⟩, p1), (⟨1, 1, 0, [], [], [], []⟩, p2), (⟨1, 0, 1, [], [], [], []⟩, p3), (⟨1, 0, 0, [0], [], [], []⟩, p5), (⟨1, 0, 0, [], [], [0], []⟩, p7), (⟨1, 0, 0, [], [], [], List.replicate 1 (0, [])⟩, p9), (⟨2, 0, 1, [], [], [], []⟩, p10), (⟨2, -1, 0, [], [], [], []⟩, p11), (⟨2, 1099511627777, 0, [], [], [], []⟩, p12), (⟨2, 0, 0, [], [[]], [], []⟩, p14), (⟨2, 0, 0, List.replicate 256 0, [], [], []⟩, p16), (⟨3, 1, 0, [], [], [], []⟩, p17), (⟨3, 0, -1, [], [], [], []⟩, p18), (⟨3, 0, 0, [], [], [-1], []⟩, p20), (⟨3, 0, 0, [], [], [1099511627777], []⟩, p22), (⟨3, 0, 0, [], [], List.replicate 256 0, []⟩, p24), (⟨4, 0, 0, [1], [], [], []⟩, p26), (⟨4, 0, 1099511627777, [], [], [], []⟩, p27), (⟨4, 0, 0, [], [], [], [(-1, [])]⟩, p30), (⟨4, 0, 0, [], [], [], List.replicate 256 (0, [])⟩, p32), (⟨4, 0, 0, [], [], [], [(0, List.replicate 256 [])]⟩, p36), (⟨1, 0, 0, [], List.replicate 256 [], [], []⟩, p38)] ?_ _ rfl badE (by kernel_rfl)⟩
      · refine fill_eq (L := [(0, vs 0), (1, vs 1), (2, vs 2), (3, vs 3), (4, vs 5), (5, vs 7), (6, vs 9), (7, vs 10), (8, vs 11), (9, vs 12), (10, vs 14), (11, vs 16), (12, vs 17), (13, vs 18), (14, vs 20), (15, vs 22), (16, vs 24), (17, vs 26), (18, vs 27), (19, vs 30), (20, vs 32), (21, vs 36), (22, vs 38)]) (by kernel_rfl) ?_
        simp only [e0, e1, e2, e3, e5, e7, e9, e10, e11, e12, e14, e16, e17, e18, e20, e22, e24, e26, e27, e30, e32, e36, e38]
        kernel_rfl
      · simp only [List.forall_mem_cons, List.not_mem_nil, false_imp_iff, implies_true, and_true]
        exact ⟨n0, n1, n2, n3, n5, n7, n9, n10, n11, n12, n14, n16, n17, n18, n20, n22, n24, n26, n27, n30, n32, n36, n38⟩
    refine StepsA.cons (fun L vs w1 hl hdl hg hd => ?_) ?_
    · obtain ⟨q, e39, -⟩ := hd 39 (by decide)
      have e39 : vs 39 = .slice (some ⟨q, 0, none⟩) 23 23 := e39
      refine opTo_of (by kernel_rfl) (fun K' hK => ?_)
      go_simp
      exact hK.out (.int .i64 23) _ _ (by simp only [e39]; kernel_rfl) ⟨hg, Below.refl _ _, rfl⟩
    refine StepsA.cons (fun L vs w1 hl hdl hg hd => ?_) ?_
    · refine opTo_of (by kernel_rfl) (fun K' hK => ?_)
      go_simp
      exact hK.out (.int .i64 0) _ _ (by kernel_rfl) ⟨hg, Below.refl _ _, rfl⟩
    exact StepsA.nil
  case fin =>
    intro L vs w5 hL1 hg hT
    obtain ⟨q, e1, hr⟩ := hT 39 (by decide)
    have e1 : vs 39 = .slice (some ⟨q, 0, none⟩) 23 23 := e1
    have e2 : vs 40 = .int .i64 23 := hT 40 (by decide)
    have e3 : vs 41 = .int .i64 0 := hT 41 (by decide)
    have H5 := Lib.hid (And.intro hr hg)
    clear hr hg hT hL1 H3
    simp only [e1, e2, e3]
    clear e1 e2 e3
    go_wp2_with fail
    go_loopw [73] (fun v wr => ∃ j : Nat, j ≤ 23 ∧ v = .int .i64 j ∧ RowE wr q badE ∧ Below w.heap.size w wr) (fun v _ => 23 - (intOf v).toNat)
    case atStart => exact ⟨0, by omega, rfl, H5.out⟩
    case round =>
      obtain ⟨j, hj, rfl, hR, hB⟩ := hrel
      clear H5
      by_cases hlt : j < 23
      · have hjI : (j : Int) < 23 := by omega
        obtain ⟨e, he⟩ : ∃ e, badE[j]? = some e := ⟨_, List.getElem?_eq_getElem (show j < badE.length from hlt)⟩
        obtain ⟨ok, lim, henc, hmay⟩ := bad_one (List.mem_of_getElem? he)
        obtain ⟨p, hat, hn⟩ := hR.at he
        have al : Below wr.heap.size wr (wr.alloc (.cells #[.int .u8 e.k, .int .i64 e.id, .int .i64 e.ep, .slice p.a1 e.x.length p.c1, .slice p.a2 e.coms.length p.c2, .slice p.a3 e.next.length p.c3, .slice p.a4 e.deals.length p.c4] 55)) := (Below.refl _ wr).alloc (Nat.le_refl _) _
        have K1 := Blk.new wr 55 #[.int .u8 e.k, .int .i64 e.id, .int .i64 e.ep, .slice p.a1 e.x.length p.c1, .slice p.a2 e.coms.length p.c2, .slice p.a3 e.next.length p.c3, .slice p.a4 e.deals.length p.c4]
        have HX := Lib.hid (And.intro ok (And.intro lim (And.intro henc hmay)))
        obtain ⟨w1, hw1⟩ : ∃ w1, w1 = wr.alloc (.cells #[.int .u8 e.k, .int .i64 e.id, .int .i64 e.ep, .slice p.a1 e.x.length p.c1, .slice p.a2 e.coms.length p.c2, .slice p.a3 e.next.length p.c3, .slice p.a4 e.deals.length p.c4] 55) := ⟨_, rfl⟩
        rw [← hw1] at al K1
        have HW := Lib.hid hw1
        have H1 := Lib.hid (And.intro K1 (And.intro (hn.step al) (And.intro (hR.kept al) (step_below hB al))))
        obtain ⟨u0, u1, u2, u3, u4, u5, u6⟩ := hat
        clear hw1 K1 al hn hR hB he ok lim henc hmay
        go_upto_region 6 with fail
        rw [← HW.out]
        clear HW u0 u1 u2 u3 u4 u5 u6
        generalize wr.heap.size = G at *
        obtain ⟨f0, f1, f2, f3, f4, f5, f6⟩ := H1.out.1.entry
        have HC := Lib.hid (enc_of p w1 HX.out.1 HX.out.2.1 H1.out.2.1 HX.out.2.2.1)
        go_wp2_with fail
        refine (Calls.mono HC.out ?_)
        rintro e9 w2 ⟨rfl, b2⟩
        have H2 := Lib.hid (And.intro (H1.out.1.kept b2) (And.intro (H1.out.2.1.step b2) (And.intro (H1.out.2.2.1.kept b2) (step_below H1.out.2.2.2 b2))))
        clear f0 f1 f2 f3 f4 f5 f6 HC b2 H1
        obtain ⟨f0, f1, f2, f3, f4, f5, f6⟩ := H2.out.1.entry
        have HC := Lib.hid (may_is3 p w2 HX.out.1 HX.out.2.1 H2.out.2.1 HX.out.2.2.2)
        go_wp2_with fail
        refine (Calls.mono HC.out ?_)
        rintro e9 w3 ⟨rfl, b3⟩
        clear f0 f1 f2 f3 f4 f5 f6 HC
        go_wp2_with fail
        go_roundw
        case rel => exact ⟨j + 1, by omega, by go_num, H2.out.2.2.1.kept b3, step_below H2.out.2.2.2 b3⟩
        case measure => simp [intOf]; omega
      · have hje : j = 23 := by omega
        subst hje
        rw [show ((23 : Nat) : Int) = 23 from rfl]
        have HB := Lib.hid hB
        clear hR hB
        go_upto_region 10 with fail
        refine' wp_region_invB _ bigT (fun _ w' => Below w.heap.size w w') (fun _ wa wb => Below wa.heap.size wa wb) ?hA (by kernel_rfl) (by kernel_rfl) (by kernel_rfl) (HB.out.drew) (fun _ _ _ _ _ _ _ _ _ _ h b => bigT.kept h b) ?step ?fin
        case hA =>
          intro vs
          conv => lhs; simp only [fillL, Act.put, List.setIfInBounds_toArray, List.set_cons_zero, List.set_cons_succ, Nat.reduceAdd]
          try exact rfl
        case step =>
          refine StepsA.cons (fun L vs w1 hl hdl hg hd => ?_) ?_
          · have al : ∀ o, Below w1.heap.size w1 (w1.alloc o) := fun o => (Below.refl _ w1).alloc (Nat.le_refl _) o
            have hmk : (Instr.makeSlice 51 (.int .i64 255) (.int .i64 255)).run Try.prog w1 = .ok (.slice (some ⟨w1.heap.size, 0, none⟩) 255 255) (w1.alloc (.cells (Array.replicate 255 (.int .i64 0)) 2)) := mk_i64 255 (by decide) w1
            refine opTo_of (by kernel_rfl) (fun K' hK => ?_)
            go_simp
            exact hK.out (.slice (some ⟨w1.heap.size, 0, none⟩) 255 255) _ _ (by kernel_rfl) ⟨step_below hg (al _), al _, _, rfl, nums_zeros .i64 2 w1 255⟩
          refine StepsA.cons (fun L vs w1 hl hdl hg hd => ?_) ?_
          · obtain ⟨q, e0, hq⟩ := hd 0 (by decide)
            have e0 : vs 0 = .slice (some ⟨q, 0, none⟩) 255 255 := e0
            refine opTo_of (by kernel_rfl) (fun K' hK => ?_)
            go_simp
            exact hK.out (En.val ⟨2, 0, 0, List.replicate 255 0, [], [], []⟩ ⟨some ⟨q, 0, none⟩, 255, none, 0, none, 0, none, 0⟩) _ _ (by simp only [e0]; kernel_rfl) ⟨hg, Below.refl _ _, ⟨some ⟨q, 0, none⟩, 255, none, 0, none, 0, none, 0⟩, rfl, ⟨hq, .inl rfl, .inl rfl, .inl rfl⟩⟩
          refine StepsA.cons (fun L vs w1 hl hdl hg hd => ?_) ?_
          · have al : ∀ o, Below w1.heap.size w1 (w1.alloc o) := fun o => (Below.refl _ w1).alloc (Nat.le_refl _) o
            have hmk : (Instr.makeSlice 23 (.int .i64 256) (.int .i64 256)).run Try.prog w1 = .ok (.slice (some ⟨w1.heap.size, 0, none⟩) 256 256) (w1.alloc (.cells (Array.replicate 256 (.int .u64 0)) 22)) := mk_u64 256 (by decide) w1
            refine opTo_of (by kernel_rfl) (fun K' hK => ?_)
            go_simp
            exact hK.out (.slice (some ⟨w1.heap.size, 0, none⟩) 256 256) _ _ (by kernel_rfl) ⟨step_below hg (al _), al _, _, rfl, nums_zeros .u64 22 w1 256⟩
          refine StepsA.cons (fun L vs w1 hl hdl hg hd => ?_) ?_
          · obtain ⟨q, e2, hq⟩ := hd 2 (by decide)
            have e2 : vs 2 = .slice (some ⟨q, 0, none⟩) 256 256 := e2
            have al : ∀ o, Below w1.heap.size w1 (w1.alloc o) := fun o => (Below.refl _ w1).alloc (Nat.le_refl _) o
            refine opTo_of (by kernel_rfl) (fun K' hK => ?_)
            go_simp
            exact hK.out (.slice (some ⟨w1.heap.size, 0, none⟩) 1 1) _ _ (by simp only [e2]; kernel_rfl) ⟨step_below hg (al _), al _, _, rfl, lst_lit w1 [(List.replicate 256 0, some ⟨q, 0, none⟩, 256)] _ (by simp only [List.map_cons, List.map_nil, List.length_replicate]) (by simpa using hq)⟩
          refine StepsA.cons (fun L vs w1 hl hdl hg hd => ?_) ?_
          · obtain ⟨q, e3, hq⟩ := hd 3 (by decide)
            have e3 : vs 3 = .slice (some ⟨q, 0, none⟩) 1 1 := e3
            refine opTo_of (by kernel_rfl) (fun K' hK => ?_)
            go_simp
            exact hK.out (En.val ⟨1, 0, 0, [], [List.replicate 256 0], [], []⟩ ⟨none, 0, some ⟨q, 0, none⟩, 1, none, 0, none, 0⟩) _ _ (by simp only [e3]; kernel_rfl) ⟨hg, Below.refl _ _, ⟨none, 0, some ⟨q, 0, none⟩, 1, none, 0, none, 0⟩, rfl, ⟨.inl rfl, hq, .inl rfl, .inl rfl⟩⟩
          refine StepsA.cons (fun L vs w1 hl hdl hg hd => ?_) ?_
          · have al : ∀ o, Below w1.heap.size w1 (w1.alloc o) := fun o => (Below.refl _ w1).alloc (Nat.le_refl _) o
            have hmk : (Instr.makeSlice 23 (.int .i64 1025) (.int .i64 1025)).run Try.prog w1 = .ok (.slice (some ⟨w1.heap.size, 0, none⟩) 1025 1025) (w1.alloc (.cells (Array.replicate 1025 (.int .u64 0)) 22)) := mk_u64 1025 (by decide) w1
            refine opTo_of (by kernel_rfl) (fun K' hK => ?_)
            go_simp
            exact hK.out (.slice (some ⟨w1.heap.size, 0, none⟩) 1025 1025) _ _ (by kernel_rfl) ⟨step_below hg (al _), al _, _, rfl, nums_zeros .u64 22 w1 1025⟩
          refine StepsA.cons (fun L vs w1 hl hdl hg hd => ?_) ?_
          · obtain ⟨q, e5, hq⟩ := hd 5 (by decide)
            have e5 : vs 5 = .slice (some ⟨q, 0, none⟩) 1025 1025 := e5
            have al : ∀ o, Below w1.heap.size w1 (w1.alloc o) := fun o => (Below.refl _ w1).alloc (Nat.le_refl _) o
            refine opTo_of (by kernel_rfl) (fun K' hK => ?_)
            go_simp
            exact hK.out (.slice (some ⟨w1.heap.size, 0, none⟩) 1 1) _ _ (by simp only [e5]; kernel_rfl) ⟨step_below hg (al _), al _, _, rfl, lst_lit w1 [(List.replicate 1025 0, some ⟨q, 0, none⟩, 1025)] _ (by simp only [List.map_cons, List.map_nil, List.length_replicate]) (by simpa using hq)⟩
          refine StepsA.cons (fun L vs w1 hl hdl hg hd => ?_) ?_
          · obtain ⟨q, e6, hq⟩ := hd 6 (by decide)
            have e6 : vs 6 = .slice (some ⟨q, 0, none⟩) 1 1 := e6
            refine opTo_of (by kernel_rfl) (fun K' hK => ?_)
            go_simp
            exact hK.out (En.val ⟨1, 0, 0, [], [List.replicate 1025 0], [], []⟩ ⟨none, 0, some ⟨q, 0, none⟩, 1, none, 0, none, 0⟩) _ _ (by simp only [e6]; kernel_rfl) ⟨hg, Below.refl _ _, ⟨none, 0, some ⟨q, 0, none⟩, 1, none, 0, none, 0⟩, rfl, ⟨.inl rfl, hq, .inl rfl, .inl rfl⟩⟩
          refine StepsA.cons (fun L vs w1 hl hdl hg hd => ?_) ?_
          · have al : ∀ o, Below w1.heap.size w1 (w1.alloc o) := fun o => (Below.refl _ w1).alloc (Nat.le_refl _) o
            have hmk : (Instr.makeSlice 53 (.int .i64 255) (.int .i64 255)).run Try.prog w1 = .ok (.slice (some ⟨w1.heap.size, 0, none⟩) 255 255) (w1.alloc (.cells (dlsZ 255) 58)) := mk_dls 255 (by decide) w1
            refine opTo_of (by kernel_rfl) (fun K' hK => ?_)
            go_simp
            exact hK.out (.slice (some ⟨w1.heap.size, 0, none⟩) 255 255) _ _ (by kernel_rfl) ⟨step_below hg (al _), al _, _, rfl, dls_nils w1 255⟩
          refine StepsA.cons (fun L vs w1 hl hdl hg hd => ?_) ?_
          · obtain ⟨q, e8, hq⟩ := hd 8 (by decide)
            have e8 : vs 8 = .slice (some ⟨q, 0, none⟩) 255 255 := e8
            refine opTo_of (by kernel_rfl) (fun K' hK => ?_)
            go_simp
            exact hK.out (En.val ⟨4, 0, 0, [], [], [], List.replicate 255 (0, [])⟩ ⟨none, 0, none, 0, none, 0, some ⟨q, 0, none⟩, 255⟩) _ _ (by simp only [e8]; kernel_rfl) ⟨hg, Below.refl _ _, ⟨none, 0, none, 0, none, 0, some ⟨q, 0, none⟩, 255⟩, rfl, ⟨.inl rfl, .inl rfl, .inl rfl, hq⟩⟩
          refine StepsA.cons (fun L vs w1 hl hdl hg hd => ?_) ?_
          · obtain ⟨p1, e1, n1⟩ := hd 1 (by decide)
            have e1 : vs 1 = En.val ⟨2, 0, 0, List.replicate 255 0, [], [], []⟩ p1 := e1
            obtain ⟨p4, e4, n4⟩ := hd 4 (by decide)
            have e4 : vs 4 = En.val ⟨1, 0, 0, [], [List.replicate 256 0], [], []⟩ p4 := e4
            obtain ⟨p7, e7, n7⟩ := hd 7 (by decide)
            have e7 : vs 7 = En.val ⟨1, 0, 0, [], [List.replicate 1025 0], [], []⟩ p7 := e7
            obtain ⟨p9, e9, n9⟩ := hd 9 (by decide)
            have e9 : vs 9 = En.val ⟨4, 0, 0, [], [], [], List.replicate 255 (0, [])⟩ p9 := e9
            have al : ∀ o, Below w1.heap.size w1 (w1.alloc o) := fun o => (Below.refl _ w1).alloc (Nat.le_refl _) o
            obtain ⟨iE, ei, ez0, ez1, ez2⟩ := info_parts infoEn
            refine opTo_row rfl 59 55 4 _ rfl (eflat [(⟨2, 0, 0, List.replicate 255 0, [], [], []⟩, p1), (⟨1, 0, 0, [], [List.replicate 256 0], [], []⟩, p4), (⟨1, 0, 0, [], [List.replicate 1025 0], [], []⟩, p7), (⟨4, 0, 0, [], [], [], List.replicate 255 (0, [])⟩, p9)]).toArray iE _ 7 Try.underlying59 ei ez0 ez1 (by decide) (by decide) ?_ ⟨step_below hg (al _), al _, _, rfl, rowE_new w1 [(⟨2, 0, 0, List.replicate 255 0, [], [], []⟩, p1), (⟨1, 0, 0, [], [List.replicate 256 0], [], []⟩, p4), (⟨1, 0, 0, [], [List.replicate 1025 0], [], []⟩, p7), (⟨4, 0, 0, [], [], [], List.replicate 255 (0, [])⟩, p9)] ?_ _ rfl bigE (by kernel_rfl)⟩
            · refine fill_eq (L := [(0, vs 1), (1, vs 4), (2, vs 7), (3, vs 9)]) (by kernel_rfl) ?_
              simp only [e1, e4, e7, e9]
              kernel_rfl
            · simp only [List.forall_mem_cons, List.not_mem_nil, false_imp_iff, implies_true, and_true]
              exact ⟨n1, n4, n7, n9⟩
          refine StepsA.cons (fun L vs w1 hl hdl hg hd => ?_) ?_
          · obtain ⟨q, e10, -⟩ := hd 10 (by decide)
            have e10 : vs 10 = .slice (some ⟨q, 0, none⟩) 4 4 := e10
            refine opTo_of (by kernel_rfl) (fun K' hK => ?_)
            go_simp
            exact hK.out (.int .i64 4) _ _ (by simp only [e10]; kernel_rfl) ⟨hg, Below.refl _ _, rfl⟩
          refine StepsA.cons (fun L vs w1 hl hdl hg hd => ?_) ?_
          · refine opTo_of (by kernel_rfl) (fun K' hK => ?_)
            go_simp
            exact hK.out (.int .i64 0) _ _ (by kernel_rfl) ⟨hg, Below.refl _ _, rfl⟩
          exact StepsA.nil
        case fin =>
          intro L vs w5 hL1 hg hT
          obtain ⟨q, e1, hr⟩ := hT 10 (by decide)
          have e1 : vs 10 = .slice (some ⟨q, 0, none⟩) 4 4 := e1
          have e2 : vs 11 = .int .i64 4 := hT 11 (by decide)
          have e3 : vs 12 = .int .i64 0 := hT 12 (by decide)
          have H5 := Lib.hid (And.intro hr hg)
          clear hr hg hT hL1 HB
          simp only [e1, e2, e3]
          clear e1 e2 e3
          go_wp2_with fail
          go_loopw [105] (fun v wr => ∃ j : Nat, j ≤ 4 ∧ v = .int .i64 j ∧ RowE wr q bigE ∧ Below w.heap.size w wr) (fun v _ => 4 - (intOf v).toNat)
          case atStart => exact ⟨0, by omega, rfl, H5.out⟩
          case round =>
            obtain ⟨j, hj, rfl, hR, hB⟩ := hrel
            clear H5
            by_cases hlt : j < 4
            · have hjI : (j : Int) < 4 := by omega
              obtain ⟨e, he⟩ : ∃ e, bigE[j]? = some e := ⟨_, List.getElem?_eq_getElem (show j < bigE.length from hlt)⟩
              obtain ⟨ok, lim, henc, hmay⟩ := big_one (List.mem_of_getElem? he)
              obtain ⟨p, hat, hn⟩ := hR.at he
              have al : Below wr.heap.size wr (wr.alloc (.cells #[.int .u8 e.k, .int .i64 e.id, .int .i64 e.ep, .slice p.a1 e.x.length p.c1, .slice p.a2 e.coms.length p.c2, .slice p.a3 e.next.length p.c3, .slice p.a4 e.deals.length p.c4] 55)) := (Below.refl _ wr).alloc (Nat.le_refl _) _
              have K1 := Blk.new wr 55 #[.int .u8 e.k, .int .i64 e.id, .int .i64 e.ep, .slice p.a1 e.x.length p.c1, .slice p.a2 e.coms.length p.c2, .slice p.a3 e.next.length p.c3, .slice p.a4 e.deals.length p.c4]
              have HX := Lib.hid (And.intro ok (And.intro lim (And.intro henc hmay)))
              obtain ⟨w1, hw1⟩ : ∃ w1, w1 = wr.alloc (.cells #[.int .u8 e.k, .int .i64 e.id, .int .i64 e.ep, .slice p.a1 e.x.length p.c1, .slice p.a2 e.coms.length p.c2, .slice p.a3 e.next.length p.c3, .slice p.a4 e.deals.length p.c4] 55) := ⟨_, rfl⟩
              rw [← hw1] at al K1
              have HW := Lib.hid hw1
              have H1 := Lib.hid (And.intro K1 (And.intro (hn.step al) (And.intro (hR.kept al) (step_below hB al))))
              obtain ⟨u0, u1, u2, u3, u4, u5, u6⟩ := hat
              clear hw1 K1 al hn hR hB he ok lim henc hmay
              go_upto_region 13 with fail
              rw [← HW.out]
              clear HW u0 u1 u2 u3 u4 u5 u6
              generalize wr.heap.size = G at *
              obtain ⟨f0, f1, f2, f3, f4, f5, f6⟩ := H1.out.1.entry
              have HC := Lib.hid (enc_of p w1 HX.out.1 HX.out.2.1 H1.out.2.1 HX.out.2.2.1)
              go_wp2_with fail
              refine (Calls.mono HC.out ?_)
              rintro e9 w2 ⟨rfl, b2⟩
              have H2 := Lib.hid (And.intro (H1.out.1.kept b2) (And.intro (H1.out.2.1.step b2) (And.intro (H1.out.2.2.1.kept b2) (step_below H1.out.2.2.2 b2))))
              clear f0 f1 f2 f3 f4 f5 f6 HC b2 H1
              obtain ⟨f0, f1, f2, f3, f4, f5, f6⟩ := H2.out.1.entry
              have HC := Lib.hid (may_is3 p w2 HX.out.1 HX.out.2.1 H2.out.2.1 HX.out.2.2.2)
              go_wp2_with fail
              refine (Calls.mono HC.out ?_)
              rintro e9 w3 ⟨rfl, b3⟩
              clear f0 f1 f2 f3 f4 f5 f6 HC
              go_wp2_with fail
              go_roundw
              case rel => exact ⟨j + 1, by omega, by go_num, H2.out.2.2.1.kept b3, step_below H2.out.2.2.2 b3⟩
              case measure => simp [intOf]; omega
            · have hje : j = 4 := by omega
              subst hje
              rw [show ((4 : Nat) : Int) = 4 from rfl]
              have HB := Lib.hid hB
              clear hR hB
              have K0 := Blk.new wr 9 strRow
              have al : Below wr.heap.size wr (wr.alloc (.cells strRow 9)) := (Below.refl _ wr).alloc (Nat.le_refl _) _
              obtain ⟨w1, hw1⟩ : ∃ w1, w1 = wr.alloc (.cells strRow 9) := ⟨_, rfl⟩
              rw [← hw1] at K0 al
              rw [strRow_eq] at hw1
              have HW := Lib.hid hw1
              have H6 := Lib.hid (And.intro K0 (step_below HB.out al))
              clear hw1 K0 al HB
              go_upto_region 18 with fail
              rw [← HW.out]
              clear HW
              generalize wr.heap.size = Q at *
              go_loopw [127] (fun v wr => ∃ j : Nat, j ≤ 11 ∧ v = .int .i64 j ∧ Blk wr Q 9 strRow ∧ Below w.heap.size w wr) (fun v _ => 11 - (intOf v).toNat)
              case atStart => exact ⟨0, by omega, rfl, H6.out⟩
              case round =>
                obtain ⟨j, hj, rfl, hR, hB⟩ := hrel
                clear H6
                by_cases hlt : j < 11
                · have hjI : (j : Int) < 11 := by omega
                  obtain ⟨s, hs⟩ : ∃ s, strsE[j]? = some s := ⟨_, List.getElem?_eq_getElem (show j < strsE.length from hlt)⟩
                  have xc : wr.cell? ⟨Q, j, none⟩ = some (.string ⟨s.toArray⟩) := by rw [hR.cell]; exact strRow_at hs
                  have hsl : s.length ≤ 9223372036854775807 := by
                    have h11 : (strsE.all fun s => decide (s.length ≤ 100)) = true := by decide
                    have := of_decide_eq_true (List.all_eq_true.1 h11 s (List.mem_of_getElem? hs))
                    omega
                  have HD := Lib.hid (dec_of wr hsl (strs_one (List.mem_of_getElem? hs)))
                  have HX := Lib.hid (And.intro hR hB)
                  clear hs hR hB hsl
                  go_wp2_with fail
                  refine (Calls.mono HD.out ?_)
                  rintro e9 w2 ⟨p7, rfl, o7, b7⟩
                  have al : Below w2.heap.size w2 (w2.alloc (.cells #[.int .u8 En.zero.k, .int .i64 En.zero.id, .int .i64 En.zero.ep, .slice p7.a1 En.zero.x.length p7.c1, .slice p7.a2 En.zero.coms.length p7.c2, .slice p7.a3 En.zero.next.length p7.c3, .slice p7.a4 En.zero.deals.length p7.c4] 55)) := (Below.refl _ w2).alloc (Nat.le_refl _) _
                  have K9 := Blk.new w2 55 #[.int .u8 En.zero.k, .int .i64 En.zero.id, .int .i64 En.zero.ep, .slice p7.a1 En.zero.x.length p7.c1, .slice p7.a2 En.zero.coms.length p7.c2, .slice p7.a3 En.zero.next.length p7.c3, .slice p7.a4 En.zero.deals.length p7.c4]
                  obtain ⟨w3, hwn⟩ : ∃ w3, w3 = w2.alloc (.cells #[.int .u8 En.zero.k, .int .i64 En.zero.id, .int .i64 En.zero.ep, .slice p7.a1 En.zero.x.length p7.c1, .slice p7.a2 En.zero.coms.length p7.c2, .slice p7.a3 En.zero.next.length p7.c3, .slice p7.a4 En.zero.deals.length p7.c4] 55) := ⟨_, rfl⟩
                  rw [← hwn] at al K9
                  have HW := Lib.hid hwn
                  have H3 := Lib.hid (And.intro K9 (And.intro (o7.nums.step al) (And.intro ((HX.out.1.kept b7).kept al) (step_below (step_below HX.out.2 b7) al))))
                  clear o7 b7 HX HD xc
                  clear hwn al K9
                  go_upto_region 21 with fail
                  rw [← HW.out]
                  clear HW
                  generalize w2.heap.size = G at *
                  obtain ⟨f0, f1, f2, f3, f4, f5, f6⟩ := H3.out.1.entry
                  have HS := Lib.hid (rsame_is p7 ⟨none, 0, none, 0, none, 0, none, 0⟩ w3 H3.out.2.1 nen_nil zero_lim.cnt zero_lim.cnt (En.same_iff.2 rfl))
                  go_wp2_with fail
                  refine (Calls.mono HS.out ?_)
                  rintro e9 w4 ⟨rfl, b4⟩
                  clear f0 f1 f2 f3 f4 f5 f6 HS
                  go_wp2_with fail
                  go_roundw
                  case rel => exact ⟨j + 1, by omega, by go_num, H3.out.2.2.1.kept b4, step_below H3.out.2.2.2 b4⟩
                  case measure => simp [intOf]; omega
                · have hje : j = 11 := by omega
                  subst hje
                  have HB := Lib.hid hB
                  clear hR hB
                  obtain ⟨Z, hZ⟩ : ∃ Z : List UInt8, Z = List.replicate 2049 0 := ⟨_, rfl⟩
                  have hmk : (Instr.makeSlice 37 (.int .i64 2049) (.int .i64 2049)).run Try.prog wr = .ok (.slice (some ⟨wr.heap.size, 0, none⟩) 2049 2049) (wr.alloc (zerosAt 2049)) := mk_bytes 2049 (by decide) wr
                  have hcv : (convert 37 9 (.slice (some ⟨wr.heap.size, 0, none⟩) 2049 2049)).run Try.prog (wr.alloc (zerosAt 2049)) = .ok (.string ⟨Z.toArray⟩) (wr.alloc (zerosAt 2049)) := by
                    rw [hZ]
                    exact conv_zeros 2049 wr
                  have hzl : Z.length = 2049 := by rw [hZ]; exact List.length_replicate
                  have HD := Lib.hid (dec_of (wr.alloc (zerosAt 2049)) (show Z.length ≤ 9223372036854775807 by omega) (dec_over Z (by omega)))
                  have H1 := Lib.hid (HB.out.alloc HB.out.size (zerosAt 2049))
                  clear hZ HB hzl
                  go_wp2_with fail
                  refine (Calls.mono HD.out ?_)
                  rintro e9 w2 ⟨p7, rfl, o7, b7⟩
                  have al : Below w2.heap.size w2 (w2.alloc (.cells #[.int .u8 En.zero.k, .int .i64 En.zero.id, .int .i64 En.zero.ep, .slice p7.a1 En.zero.x.length p7.c1, .slice p7.a2 En.zero.coms.length p7.c2, .slice p7.a3 En.zero.next.length p7.c3, .slice p7.a4 En.zero.deals.length p7.c4] 55)) := (Below.refl _ w2).alloc (Nat.le_refl _) _
                  have K9 := Blk.new w2 55 #[.int .u8 En.zero.k, .int .i64 En.zero.id, .int .i64 En.zero.ep, .slice p7.a1 En.zero.x.length p7.c1, .slice p7.a2 En.zero.coms.length p7.c2, .slice p7.a3 En.zero.next.length p7.c3, .slice p7.a4 En.zero.deals.length p7.c4]
                  obtain ⟨w3, hwn⟩ : ∃ w3, w3 = w2.alloc (.cells #[.int .u8 En.zero.k, .int .i64 En.zero.id, .int .i64 En.zero.ep, .slice p7.a1 En.zero.x.length p7.c1, .slice p7.a2 En.zero.coms.length p7.c2, .slice p7.a3 En.zero.next.length p7.c3, .slice p7.a4 En.zero.deals.length p7.c4] 55) := ⟨_, rfl⟩
                  rw [← hwn] at al K9
                  have HW := Lib.hid hwn
                  have H3 := Lib.hid (step_below (step_below H1.out b7) al)
                  clear o7 b7 H1 HD hmk hcv
                  clear hwn al K9
                  go_upto_region 25 with fail
                  rw [← HW.out]
                  clear HW
                  generalize w2.heap.size = G at *
                  have HC := Lib.hid (enc_of ⟨none, 0, none, 0, none, 0, none, 0⟩ w3 (ok_B last_ok.1) (lim_B last_lim.1) nen_nil ld0_enc)
                  go_wp2_with fail
                  refine (Calls.mono HC.out ?_)
                  rintro e9 w4 ⟨rfl, b9⟩
                  have H4 := Lib.hid (step_below H3.out b9)
                  clear b9 HC H3
                  go_upto_region 26 with fail
                  have HC := Lib.hid (enc_of (e := ld1) ⟨none, 0, some ⟨w4.heap.size, 0, none⟩, 1, none, 0, none, 0⟩ (w4.alloc (.cells #[.slice none 0 0] 23)) (ok_B last_ok.2.1) (lim_B last_lim.2.1) ⟨.inl rfl, lst_lit w4 [([], none, 0)] _ rfl (by simp [Nums]), .inl rfl, .inl rfl⟩ ld1_enc)
                  have H5 := Lib.hid (H4.out.alloc H4.out.size (.cells #[.slice none 0 0] 23))
                  clear H4
                  go_wp2_with fail
                  refine (Calls.mono HC.out ?_)
                  rintro e9 w6 ⟨rfl, b6⟩
                  have H6 := Lib.hid (step_below H5.out b6)
                  clear b6 HC H5
                  have hmk : (Instr.makeSlice 40 (.int .i64 254) (.int .i64 254)).run Try.prog w6 = .ok (.slice (some ⟨w6.heap.size, 0, none⟩) 254 254) (w6.alloc (.cells (Array.replicate 254 (.int .i64 0)) 3)) := mk_int 254 (by decide) w6
                  obtain ⟨A1, hA1⟩ : ∃ A1, A1 = w6.alloc (.cells (Array.replicate 254 (.int .i64 0)) 3) := ⟨_, rfl⟩
                  have s1 : A1.heap.size = w6.heap.size + 1 := by rw [hA1]; simp
                  have NX : NEn A1 A1.heap.size xE ⟨none, 0, none, 0, some ⟨w6.heap.size, 0, none⟩, 254, none, 0⟩ := ⟨.inl rfl, .inl rfl, by rw [hA1]; exact nums_zeros .i64 3 w6 254, .inl rfl⟩
                  have al : Below A1.heap.size A1 (A1.alloc (.cells #[.int .u8 3, .int .i64 0, .int .i64 0, .slice none 0 0, .slice none 0 0, .slice (some ⟨w6.heap.size, 0, none⟩) 254 254, .slice none 0 0] 55)) := (Below.refl _ A1).alloc (Nat.le_refl _) _
                  have KX : Blk (A1.alloc (.cells #[.int .u8 3, .int .i64 0, .int .i64 0, .slice none 0 0, .slice none 0 0, .slice (some ⟨w6.heap.size, 0, none⟩) 254 254, .slice none 0 0] 55)) (w6.heap.size + 1) 55 #[.int .u8 xE.k, .int .i64 xE.id, .int .i64 xE.ep, .slice (⟨none, 0, none, 0, some ⟨w6.heap.size, 0, none⟩, 254, none, 0⟩ : Ad).a1 xE.x.length (⟨none, 0, none, 0, some ⟨w6.heap.size, 0, none⟩, 254, none, 0⟩ : Ad).c1, .slice (⟨none, 0, none, 0, some ⟨w6.heap.size, 0, none⟩, 254, none, 0⟩ : Ad).a2 xE.coms.length (⟨none, 0, none, 0, some ⟨w6.heap.size, 0, none⟩, 254, none, 0⟩ : Ad).c2, .slice (⟨none, 0, none, 0, some ⟨w6.heap.size, 0, none⟩, 254, none, 0⟩ : Ad).a3 xE.next.length (⟨none, 0, none, 0, some ⟨w6.heap.size, 0, none⟩, 254, none, 0⟩ : Ad).c3, .slice (⟨none, 0, none, 0, some ⟨w6.heap.size, 0, none⟩, 254, none, 0⟩ : Ad).a4 xE.deals.length (⟨none, 0, none, 0, some ⟨w6.heap.size, 0, none⟩, 254, none, 0⟩ : Ad).c4] := by
                    rw [← s1]
                    exact Blk.new A1 _ _
                  have bA : Below w.heap.size w A1 := by rw [hA1]; exact H6.out.alloc H6.out.size _
                  obtain ⟨w7, hw7⟩ : ∃ w7, w7 = A1.alloc (.cells #[.int .u8 3, .int .i64 0, .int .i64 0, .slice none 0 0, .slice none 0 0, .slice (some ⟨w6.heap.size, 0, none⟩) 254 254, .slice none 0 0] 55) := ⟨_, rfl⟩
                  rw [← hw7] at al KX
                  have H7 := Lib.hid (And.intro KX (And.intro (NX.step al) (step_below bA al)))
                  rw [hA1] at hw7
                  have HW := Lib.hid hw7
                  clear hw7 hA1 s1 NX al KX bA H6
                  go_upto_region 28 with fail
                  rw [← HW.out]
                  clear HW hmk
                  generalize w6.heap.size = X1 at *
                  have hmk : (Instr.makeSlice 23 (.int .i64 254) (.int .i64 254)).run Try.prog w7 = .ok (.slice (some ⟨w7.heap.size, 0, none⟩) 254 254) (w7.alloc (.cells (Array.replicate 254 (.int .u64 0)) 22)) := mk_u64 254 (by decide) w7
                  obtain ⟨A1, hA1⟩ : ∃ A1, A1 = w7.alloc (.cells (Array.replicate 254 (.int .u64 0)) 22) := ⟨_, rfl⟩
                  have s1 : A1.heap.size = w7.heap.size + 1 := by rw [hA1]; simp
                  have N1 : Nums .u64 A1 A1.heap.size (some ⟨w7.heap.size, 0, none⟩) (List.replicate 254 0) := by rw [hA1]; exact nums_zeros .u64 22 w7 254
                  obtain ⟨A2, hA2⟩ : ∃ A2, A2 = A1.alloc (.cells #[.slice (some ⟨w7.heap.size, 0, none⟩) 254 254, .slice none 0 0, .slice none 0 0, .slice none 0 0, .slice none 0 0, .slice none 0 0] 23) := ⟨_, rfl⟩
                  have KL : Blk A2 (w7.heap.size + 1) 23 #[.slice (some ⟨w7.heap.size, 0, none⟩) 254 254, .slice none 0 0, .slice none 0 0, .slice none 0 0, .slice none 0 0, .slice none 0 0] := by
                    rw [hA2, ← s1]
                    exact Blk.new A1 _ _
                  have L1 : NLst A2 A2.heap.size (some ⟨w7.heap.size + 1, 0, none⟩) yE.coms := by
                    rw [hA2, ← s1]
                    exact lst_lit A1 [(List.replicate 254 0, some ⟨w7.heap.size, 0, none⟩, 254), ([], none, 0), ([], none, 0), ([], none, 0), ([], none, 0), ([], none, 0)] _ (by simp only [List.map_cons, List.map_nil, List.length_replicate, List.length_nil]) (by simp only [List.forall_mem_cons, List.not_mem_nil, false_imp_iff, implies_true, and_true]; exact ⟨N1, .inl rfl, .inl rfl, .inl rfl, .inl rfl, .inl rfl⟩)
                  have s2 : A2.heap.size = w7.heap.size + 2 := by rw [hA2]; simp [s1]
                  have b1 : Below w7.heap.size w7 A2 := by rw [hA2, hA1]; exact ((Below.refl _ w7).alloc (Nat.le_refl _) _).alloc (by simp) _
                  have NY : NEn A2 A2.heap.size yE ⟨none, 0, some ⟨w7.heap.size + 1, 0, none⟩, 6, none, 0, none, 0⟩ := ⟨.inl rfl, L1, .inl rfl, .inl rfl⟩
                  have al : Below A2.heap.size A2 (A2.alloc (.cells #[.int .u8 1, .int .i64 0, .int .i64 0, .slice none 0 0, .slice (some ⟨w7.heap.size + 1, 0, none⟩) 6 6, .slice none 0 0, .slice none 0 0] 55)) := (Below.refl _ A2).alloc (Nat.le_refl _) _
                  have KY : Blk (A2.alloc (.cells #[.int .u8 1, .int .i64 0, .int .i64 0, .slice none 0 0, .slice (some ⟨w7.heap.size + 1, 0, none⟩) 6 6, .slice none 0 0, .slice none 0 0] 55)) (w7.heap.size + 2) 55 #[.int .u8 yE.k, .int .i64 yE.id, .int .i64 yE.ep, .slice (⟨none, 0, some ⟨w7.heap.size + 1, 0, none⟩, 6, none, 0, none, 0⟩ : Ad).a1 yE.x.length (⟨none, 0, some ⟨w7.heap.size + 1, 0, none⟩, 6, none, 0, none, 0⟩ : Ad).c1, .slice (⟨none, 0, some ⟨w7.heap.size + 1, 0, none⟩, 6, none, 0, none, 0⟩ : Ad).a2 yE.coms.length (⟨none, 0, some ⟨w7.heap.size + 1, 0, none⟩, 6, none, 0, none, 0⟩ : Ad).c2, .slice (⟨none, 0, some ⟨w7.heap.size + 1, 0, none⟩, 6, none, 0, none, 0⟩ : Ad).a3 yE.next.length (⟨none, 0, some ⟨w7.heap.size + 1, 0, none⟩, 6, none, 0, none, 0⟩ : Ad).c3, .slice (⟨none, 0, some ⟨w7.heap.size + 1, 0, none⟩, 6, none, 0, none, 0⟩ : Ad).a4 yE.deals.length (⟨none, 0, some ⟨w7.heap.size + 1, 0, none⟩, 6, none, 0, none, 0⟩ : Ad).c4] := by
                    rw [← s2]
                    exact Blk.new A2 _ _
                  have N1' := (N1.kept (show Below A1.heap.size A1 A2 by rw [hA2]; exact (Below.refl _ A1).alloc (Nat.le_refl _) _) (Nat.le_refl _))
                  obtain ⟨w8, hw8⟩ : ∃ w8, w8 = A2.alloc (.cells #[.int .u8 1, .int .i64 0, .int .i64 0, .slice none 0 0, .slice (some ⟨w7.heap.size + 1, 0, none⟩) 6 6, .slice none 0 0, .slice none 0 0] 55) := ⟨_, rfl⟩
                  rw [← hw8] at al KY
                  have B8 := step_below b1 al
                  have hY := H7.out.2.2.size
                  have hXY := H7.out.1.lt
                  have HX7 := Lib.hid (And.intro H7.out.1 (And.intro H7.out.2.1 (And.intro B8 H7.out.2.2)))
                  have H8 := Lib.hid (And.intro KY (And.intro (NY.step al) (And.intro (step_below H7.out.2.2 B8) (And.intro (H7.out.1.kept B8) (And.intro (H7.out.2.1.step B8) (And.intro (KL.kept al) (show Nums .u64 w8 (w7.heap.size + 1) (some ⟨w7.heap.size, 0, none⟩) (List.replicate 254 0) from (s1 ▸ N1'.kept al (by rw [s1, s2]; omega)))))))))
                  have hs8 : A1.heap.size ≤ w8.heap.size := by have := al.size; omega
                  rw [hA2, hA1] at hw8
                  have HW := Lib.hid hw8
                  clear hw8 hA1 hA2 s2 N1 N1' KL L1 b1 NY al KY B8 H7
                  go_upto_region 29 with fail
                  rw [← HW.out]
                  clear HW hmk
                  generalize w7.heap.size = Y at *
                  obtain ⟨S, hS⟩ : ∃ S, (eenc yE).1 = S := ⟨_, rfl⟩
                  have hSl : S.length = 2046 := by rw [← hS]; exact yE_enc.2
                  have hye : eenc yE = (S, 0) := by rw [← hS, ← yE_enc.1]
                  have HC := Lib.hid (enc_of (e := yE) ⟨none, 0, some ⟨Y + 1, 0, none⟩, 6, none, 0, none, 0⟩ w8 (ok_B last_ok.2.2.2.1) (lim_B last_lim.2.2.2.1) H8.out.2.1 hye)
                  obtain ⟨f0, f1, f2, f3, f4, f5, f6⟩ := H8.out.1.entry
                  clear hS hye
                  go_wp2_with fail
                  refine (Calls.mono HC.out ?_)
                  rintro e9 w9 ⟨rfl, b9⟩
                  clear f0 f1 f2 f3 f4 f5 f6 HC
                  go_upto_region 30 with fail
                  have KY9 := H8.out.1.kept b9
                  have KL9 := H8.out.2.2.2.2.2.1.kept b9
                  have f4 : w9.cell? ⟨Y + 2, 4, none⟩ = some (.slice (some ⟨Y + 1, 0, none⟩) 6 6) := KY9.cell 4
                  have al : Below w9.heap.size w9 (w9.alloc (.cells #[.slice none 0 0] 23)) := (Below.refl _ w9).alloc (Nat.le_refl _) _
                  have OWN : (w9.alloc (.cells #[.slice none 0 0] 23)).ownsRow w.heap.size 23 1 (.slice (some ⟨Y + 1, 0, none⟩) 6 6) 6 [.slice (some ⟨Y, 0, none⟩) 254 254, .slice none 0 0, .slice none 0 0, .slice none 0 0, .slice none 0 0, .slice none 0 0] :=
                    ⟨rfl, .inr ⟨Y + 1, 6, _, rfl, by omega, KL9.kept al, by omega, by decide, rfl, rfl⟩⟩
                  obtain ⟨iL, li, lz0, lz1, lz2⟩ := info_parts infoLst
                  have HO := Lib.hid (And.intro OWN (And.intro (KY9.kept al) (And.intro b9 al)))
                  clear OWN KY9 KL9 al b9
                  go_upto_region 31 with (at_builtin; go_loud (refine wpList_append_own_at _ rfl _ _ 52 rfl w.heap.size 23 iL (.slice none 0 0) 1 24 Try.underlying52 li lz0 lz1 lz2 rfl (by decide) _ 6 _ rfl HO.out.1 ⟨w9.heap.size, 0, none⟩ 1 1 [.slice none 0 0] rfl rfl (cell_one_new _ _ _) (by intro u hu; rw [List.mem_singleton.1 hu]; rfl) (by decide) (by decide) (Nat.le_trans (Nat.le_trans H8.out.2.2.1.size HO.out.2.2.1.size) HO.out.2.2.2.size) ?_; intro v8 wA ownA grA _ _; obtain ⟨q, cq, rfl⟩ := own_form ownA (by decide); have HA := Lib.hid (And.intro ownA grA); have KA := HO.out.2.1.grown grA (own_ne' HO.out.1 HO.out.2.1 (by decide)); have g4 : wA.frozen? ⟨Y + 2, 4, none⟩ = false := KA.frozen 4; have k4 : wA.cell? ⟨Y + 2, 4, none⟩ = some (.slice (some ⟨Y + 1, 0, none⟩) 6 6) := KA.cell 4; have HK := Lib.hid KA; clear ownA grA KA))
                  obtain ⟨ownA, grA⟩ := HA.out
                  rw [show (6 : Nat) + 1 = 7 from rfl] at ownA
                  have hs8 : Y + 1 ≤ w8.heap.size := by have := H8.out.1.lt; omega
                  have hs9 : Y + 1 ≤ w9.heap.size := Nat.le_trans hs8 HO.out.2.2.1.size
                  have BYA : Below (Y + 1) w9 wA := (HO.out.2.2.2.mono hs9).grown grA (Nat.le_trans hs9 HO.out.2.2.2.size) (fun r hr => Nat.le_of_eq (Option.some.inj (show some (Y + 1) = some r from hr)))
                  have KLA := own_take ownA
                  have KY10 : Blk (wA.setCell ⟨Y + 2, 4, none⟩ (.slice (some ⟨q, 0, none⟩) 7 cq)) (Y + 2) 55 #[.int .u8 yE'.k, .int .i64 yE'.id, .int .i64 yE'.ep, .slice (⟨none, 0, some ⟨q, 0, none⟩, cq, none, 0, none, 0⟩ : Ad).a1 yE'.x.length (⟨none, 0, some ⟨q, 0, none⟩, cq, none, 0, none, 0⟩ : Ad).c1, .slice (⟨none, 0, some ⟨q, 0, none⟩, cq, none, 0, none, 0⟩ : Ad).a2 yE'.coms.length (⟨none, 0, some ⟨q, 0, none⟩, cq, none, 0, none, 0⟩ : Ad).c2, .slice (⟨none, 0, some ⟨q, 0, none⟩, cq, none, 0, none, 0⟩ : Ad).a3 yE'.next.length (⟨none, 0, some ⟨q, 0, none⟩, cq, none, 0, none, 0⟩ : Ad).c3, .slice (⟨none, 0, some ⟨q, 0, none⟩, cq, none, 0, none, 0⟩ : Ad).a4 yE'.deals.length (⟨none, 0, some ⟨q, 0, none⟩, cq, none, 0, none, 0⟩ : Ad).c4] := HK.out.set_ 4 _
                  have B910 : Below (Y + 1) w9 (wA.setCell ⟨Y + 2, 4, none⟩ (.slice (some ⟨q, 0, none⟩) 7 cq)) := BYA.setCell (p := ⟨Y + 2, 4, none⟩) (by show Y + 1 ≤ Y + 2; omega) _
                  have B810 := (HO.out.2.2.1.mono hs8).trans B910
                  have NZ := H8.out.2.2.2.2.2.2.kept B810 (Nat.le_refl _)
                  have L10 : NLst (wA.setCell ⟨Y + 2, 4, none⟩ (.slice (some ⟨q, 0, none⟩) 7 cq)) (wA.setCell ⟨Y + 2, 4, none⟩ (.slice (some ⟨q, 0, none⟩) 7 cq)).heap.size (some ⟨q, 0, none⟩) yE'.coms := by
                    rcases KLA with h0 | ⟨q', cur, e1, -, hl, hb, hc⟩
                    · cases h0
                    · injection e1 with e1
                      injection e1 with e1
                      subst e1
                      refine lst_blk [(List.replicate 254 0, some ⟨Y, 0, none⟩, 254), ([], none, 0), ([], none, 0), ([], none, 0), ([], none, 0), ([], none, 0), ([], none, 0)] _ (by simp only [List.map_cons, List.map_nil, lval, List.length_replicate, List.length_nil, List.cons_append, List.nil_append]) (hb.farc (Blk.ne_ hb HK.out (by decide)) _) hc ?_
                      simp only [List.forall_mem_cons, List.not_mem_nil, false_imp_iff, implies_true, and_true]
                      exact ⟨NZ.more (Nat.le_trans hs8 B810.size), .inl rfl, .inl rfl, .inl rfl, .inl rfl, .inl rfl, .inl rfl⟩
                  have KX10 := H8.out.2.2.2.1.below B810 (by omega)
                  have BX10 := HX7.out.2.2.1.trans (B810.mono (Nat.le_succ Y))
                  have NX10 := (HX7.out.2.1.kept BX10 (Nat.le_refl _)).more (Nat.le_trans (Nat.le_succ Y) (Nat.le_trans hs8 B810.size))
                  have BW10 := H8.out.2.2.1.trans (B810.mono (Nat.le_trans hY (Nat.le_succ Y)))
                  obtain ⟨xe, ye, p, p', HL⟩ : ∃ xe ye p p', RowKit.Hid (LastK w (X1 + 1) (Y + 1 + 1) xe ye p p' (wA.setCell ⟨Y + 2, 4, none⟩ (.slice (some ⟨q, 0, none⟩) 7 cq))) := ⟨xE, yE', _, _, Lib.hid ⟨KX10, NX10, KY10, ⟨.inl rfl, L10, .inl rfl, .inl rfl⟩, BW10, ok_B last_ok.2.2.1, lim_B last_lim.2.2.1, xE_may, ok_B last_ok.2.2.2.2, lim_B last_lim.2.2.2.2, yE_may, xy_same⟩⟩
                  clear KX10 BX10 NX10 BW10 L10 NZ B810 B910 KY10 KLA BYA hs9 hs8 ownA grA HA HK HO H8 HX7
                  generalize wA.setCell ⟨Y + 2, 4, none⟩ (.slice (some ⟨q, 0, none⟩) 7 cq) = wL at *
                  obtain ⟨f0, f1, f2, f3, f4, f5, f6⟩ := HL.out.x.entry
                  have HC := Lib.hid (may_is3 p wL HL.out.oka HL.out.lima HL.out.nx HL.out.maya)
                  go_wp2_with fail
                  refine (Calls.mono HC.out ?_)
                  rintro e9 wM ⟨rfl, b9⟩
                  have HM := Lib.hid (HL.out.step b9)
                  clear HC b9 HL
                  clear f0 f1 f2 f3 f4 f5 f6
                  obtain ⟨f0, f1, f2, f3, f4, f5, f6⟩ := HM.out.y.entry
                  have HC := Lib.hid (may_is3 p' wM HM.out.okb HM.out.limb HM.out.ny HM.out.mayb)
                  go_wp2_with fail
                  refine (Calls.mono HC.out ?_)
                  rintro e9 wN ⟨rfl, b9⟩
                  have HN := Lib.hid (HM.out.step b9)
                  clear HC b9 HM
                  clear f0 f1 f2 f3 f4 f5 f6
                  obtain ⟨f0, f1, f2, f3, f4, f5, f6⟩ := HN.out.x.entry
                  obtain ⟨g0, g1, g2, g3, g4, g5, g6⟩ := HN.out.y.entry
                  have HC := Lib.hid (esame_is p p' wN HN.out.nx HN.out.ny HN.out.lima.cnt HN.out.limb.cnt HN.out.no)
                  go_wp2_with fail
                  refine (Calls.mono HC.out ?_)
                  rintro e9 wO ⟨rfl, b9⟩
                  have HO := Lib.hid (HN.out.step b9)
                  clear HC b9 HN
                  clear f0 f1 f2 f3 f4 f5 f6 g0 g1 g2 g3 g4 g5 g6
                  have HC := Lib.hid (esame_is (a := En.zero) (b := En.zero) ⟨some ⟨wO.heap.size, 0, none⟩, 0, none, 0, none, 0, none, 0⟩ ⟨none, 0, none, 0, none, 0, none, 0⟩ (wO.alloc (.cells #[] 2)) ⟨.inl rfl, .inl rfl, .inl rfl, .inl rfl⟩ nen_nil zero_lim.cnt zero_lim.cnt (En.same_iff.2 rfl))
                  go_wp2_with fail
                  refine (Calls.mono HC.out ?_)
                  rintro e9 wP ⟨rfl, b9⟩
                  have HB := Lib.hid (step_below (HO.out.bel.alloc HO.out.bel.size _) b9)
                  clear HC b9 HO
                  go_wp2_with fail
                  go_ret
                  exact ⟨rfl, HB.out⟩
end Go.Proofs.Ytdnkijljpmcejaa
