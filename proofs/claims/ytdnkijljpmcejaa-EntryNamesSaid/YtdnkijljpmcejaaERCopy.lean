/-
  consistoryref13.Copy: the same entry in new memory.
-/
import Derived.Test.YtdnkijljpmcejaaERRows
import Derived.Test.YtdnkijljpmcejaaRInv
import Derived.Test.YtdnkijljpmcejaaEDec
namespace Go.Proofs.Ytdnkijljpmcejaa
open Go.RowKit

/-- What an operation of the region comes to. -/
inductive CK where
  | eq (u : Value)
  | empty (t : TypeId)
  | row (t : TypeId) (l : List Int)
  | lst (ls : List (List Int))
  | crow (off : Nat) (t : TypeId) (l : List Int)
  | clst (off : Nat) (ls : List (List Int))
  | cell (off : Nat) (u : Value)
def CK.holds (lo C : Nat) (v : Value) (w : World) : CK → Prop
  | .eq u => v = u
  | .empty t => ∃ q, v = .slice (some ⟨q, 0, none⟩) 0 0 ∧ lo ≤ q ∧ Blk w q t #[]
  | .row t l => ∃ a c, v = .slice a l.length c ∧ Row .i64 t lo w.heap.size w a l
  | .lst ls => ∃ a c, v = .slice a ls.length c ∧ OLst lo w.heap.size w a ls
  | .crow off t l => ∃ a c, w.cell? ⟨C, off, none⟩ = some (.slice a l.length c) ∧ Row .i64 t lo w.heap.size w a l
  | .clst off ls => ∃ a c, w.cell? ⟨C, off, none⟩ = some (.slice a ls.length c) ∧ OLst lo w.heap.size w a ls
  | .cell off u => w.cell? ⟨C, off, none⟩ = some u
def CK.ok : CK → Prop
  | .empty t => t ≠ 55
  | .row t _ => t ≠ 55
  | .crow _ t _ => t ≠ 55
  | _ => True
def CK.off : CK → Option Nat
  | .crow o _ _ => some o
  | .clst o _ => some o
  | .cell o _ => some o
  | _ => none
theorem Row.fresh {k : IntKind} {t : TypeId} {lo : Nat} {w w' : World} {a : Option Addr} {l : List Int} (h : Row k t lo w.heap.size w a l) (b : Below w.heap.size w w') : Row k t lo w'.heap.size w' a l := (h.kept fun _ _ _ _ hb => hb.kept b).more (Nat.le_refl _) b.size
theorem OLst.fresh {lo : Nat} {w w' : World} {a : Option Addr} {ls : List (List Int)} (h : OLst lo w.heap.size w a ls) (b : Below w.heap.size w w') : OLst lo w'.heap.size w' a ls := (h.grow (fun _ _ hb => hb.kept b) (fun _ _ hb => hb.kept b)).more (Nat.le_refl _) b.size
theorem Row.poke {k : IntKind} {t t' : TypeId} {lo C : Nat} {w : World} {a : Option Addr} {l : List Int} {cs : Array Value} (h : Row k t lo w.heap.size w a l) (hC : Blk w C t' cs) (ht : t ≠ t') (i : Nat) (u : Value) : Row k t lo (w.setCell ⟨C, i, none⟩ u).heap.size (w.setCell ⟨C, i, none⟩ u) a l :=
  (h.kept fun _ _ _ _ hb => hb.farc (Blk.ne_ hb hC ht) u).more (Nat.le_refl _) (by simp [World.setCell])
theorem OLst.poke {lo C : Nat} {w : World} {a : Option Addr} {ls : List (List Int)} {cs : Array Value} (h : OLst lo w.heap.size w a ls) (hC : Blk w C 55 cs) (i : Nat) (u : Value) : OLst lo (w.setCell ⟨C, i, none⟩ u).heap.size (w.setCell ⟨C, i, none⟩ u) a ls :=
  (h.grow (fun _ _ hb => hb.farc (Blk.ne_ hb hC (by decide)) u) (fun _ _ hb => hb.farc (Blk.ne_ hb hC (by decide)) u)).more (Nat.le_refl _) (by simp [World.setCell])
theorem cell_poke {w : World} {C i j : Nat} {t : TypeId} {cs : Array Value} {u v : Value} (hC : Blk w C t cs) (h : w.cell? ⟨C, j, none⟩ = some v) (hij : i ≠ j) : (w.setCell ⟨C, i, none⟩ u).cell? ⟨C, j, none⟩ = some v := by
  rw [hC.cell j] at h
  rw [(hC.set_ i u).cell j, Array.getElem?_setIfInBounds_ne hij]
  exact h
theorem CK.kept {lo C : Nat} {v : Value} {w w' : World} {k : CK} (h : k.holds lo C v w) (b : Below w.heap.size w w') : k.holds lo C v w' := by
  cases k with
  | eq u => exact h
  | empty t => exact h.elim fun q ⟨h1, h2, h3⟩ => ⟨q, h1, h2, h3.kept b⟩
  | row t l => exact h.elim fun a h => h.elim fun c ⟨h1, h2⟩ => ⟨a, c, h1, h2.fresh b⟩
  | lst ls => exact h.elim fun a h => h.elim fun c ⟨h1, h2⟩ => ⟨a, c, h1, h2.fresh b⟩
  | crow off t l => exact h.elim fun a h => h.elim fun c ⟨h1, h2⟩ => ⟨a, c, cell_keep h1 b, h2.fresh b⟩
  | clst off ls => exact h.elim fun a h => h.elim fun c ⟨h1, h2⟩ => ⟨a, c, cell_keep h1 b, h2.fresh b⟩
  | cell off u => exact cell_keep (h : w.cell? ⟨C, off, none⟩ = some u) b
theorem CK.poke {lo C i : Nat} {v u : Value} {w : World} {k : CK} {cs : Array Value} (h : k.holds lo C v w) (hk : k.ok) (hC : Blk w C 55 cs) (hi : k.off ≠ some i) : k.holds lo C v (w.setCell ⟨C, i, none⟩ u) := by
  cases k with
  | eq u => exact h
  | empty t => exact h.elim fun q ⟨h1, h2, h3⟩ => ⟨q, h1, h2, h3.farc (Blk.ne_ h3 hC hk) u⟩
  | row t l => exact h.elim fun a h => h.elim fun c ⟨h1, h2⟩ => ⟨a, c, h1, h2.poke hC hk i u⟩
  | lst ls => exact h.elim fun a h => h.elim fun c ⟨h1, h2⟩ => ⟨a, c, h1, h2.poke hC i u⟩
  | crow off t l => exact h.elim fun a h => h.elim fun c ⟨h1, h2⟩ => ⟨a, c, cell_poke hC h1 (fun e => hi (by rw [e]; rfl)), h2.poke hC hk i u⟩
  | clst off ls => exact h.elim fun a h => h.elim fun c ⟨h1, h2⟩ => ⟨a, c, cell_poke hC h1 (fun e => hi (by rw [e]; rfl)), h2.poke hC i u⟩
  | cell off x => exact cell_poke hC (h : w.cell? ⟨C, off, none⟩ = some x) (fun e => hi (by rw [e]; rfl))
/-- The world behind an operation: what was there stands, or a field of the copy is set. -/
def CR (C : Nat) (st : Nat → Option Nat) (i : Nat) (w w' : World) : Prop := Below w.heap.size w w' ∨ ∃ k u, st i = some k ∧ w' = w.setCell ⟨C, k, none⟩ u
def cst : Nat → Option Nat
  | 12 => some 3
  | 14 => some 5
  | 16 => some 4
  | 18 => some 6
  | _ => none
def ckind (G C : Nat) (e : En) (p : Ad) : Nat → CK
  | 0 => .empty 2
  | 1 => .eq (.pointer (some ⟨G, 3, none⟩))
  | 2 => .eq (.slice p.a1 e.x.length p.c1)
  | 3 => .row 2 e.x
  | 4 => .empty 3
  | 5 => .eq (.pointer (some ⟨G, 5, none⟩))
  | 6 => .eq (.slice p.a3 e.next.length p.c3)
  | 7 => .row 3 e.next
  | 8 => .eq (.pointer (some ⟨G, 4, none⟩))
  | 9 => .eq (.slice p.a2 e.coms.length p.c2)
  | 10 => .lst e.coms
  | 11 => .eq (.pointer (some ⟨C, 3, none⟩))
  | 12 => .crow 3 2 e.x
  | 13 => .eq (.pointer (some ⟨C, 5, none⟩))
  | 14 => .crow 5 3 e.next
  | 15 => .eq (.pointer (some ⟨C, 4, none⟩))
  | 16 => .clst 4 e.coms
  | 17 => .eq (.pointer (some ⟨C, 6, none⟩))
  | 18 => .cell 6 (.slice none 0 0)
  | _ => .eq undef
theorem ckind_ok (G C : Nat) (e : En) (p : Ad) (j : Nat) : (ckind G C e p j).ok := by
  unfold ckind
  split <;> simp only [CK.ok] <;> decide
theorem ckind_off {G C : Nat} {e : En} {p : Ad} {j k : Nat} (h : (ckind G C e p j).off = some k) : cst j = some k := by
  unfold ckind at h
  split at h <;> simp [CK.off] at h <;> subst h <;> rfl
theorem cst_inj {i j k : Nat} (h : cst i = some k) (h2 : cst j = some k) : i = j := by
  unfold cst at h h2
  split at h <;> split at h2 <;> simp_all <;> omega
/-- append of numbers to an empty slice of the call's own: a copy. -/
theorem opTo_copy {P : Program} {ops : Array Oper} {o : Oper} {a : Act} {w : World} {K : Value → World → Prop} {k : IntKind} {t e : TypeId} (hgd : o.guard = none) (s x : Operand)
    (ho : o.op = .call { callee := .builtin .append, args := #[s, x], argTypes := #[t, t] }) (i : TypeInfo) (z : Value) (ht : P.underlying t = some (.slice e)) (hi : P.info? e = some i) (hz : i.zero = some z)
    (hsize : i.size = 1) (hb : i.bytes = 8) (hzs : z.cells.size = 1) (q : Nat) (hs : a.eval s = .slice (some ⟨q, 0, none⟩) 0 0) (ad : Option Addr) (c : Nat) (l : List Int) (hx : a.eval x = .slice ad l.length c) (hn : Nums k w w.heap.size ad l) (hl : l.length ≤ 5000)
    (base : Nat) (hbase : base ≤ w.heap.size) (h : ∀ a' c' w', Row k e base w'.heap.size w' a' l → Below w.heap.size w w' → K (.slice a' l.length c') w') : OpTo P ops o a w K := by
  have hw : Region.wanted o (yielded ops a.tmps) = true := by simp [Region.wanted, hgd]
  refine opTo_of hw fun K' hK => ?_
  by_cases h0 : l = []
  · subst h0
    have := step_append_nothing (P := P) (w := w) (ops := ops) (a := a) (K := K') (E := False) (Q := fun _ _ _ => False) hgd s x t e ho i ht hi (some ⟨q, 0, none⟩) 0 hs ad c hx (hK.out (.slice (some ⟨q, 0, none⟩) 0 0) _ _ rfl (h _ _ _ (.inl rfl) (Below.refl _ _)))
    rwa [if_pos hw] at this
  · rcases hn with hn | ⟨b, off, rfl, hbl, hc⟩
    · exact absurd hn h0
    have hp : 0 < l.length := List.length_pos_iff.2 h0
    have := step_append_full (P := P) (w := w) (ops := ops) (a := a) (K := K') (E := False) (Q := fun _ _ _ => False) hgd s x t ho base e i z 1 8 ht hi hz hsize hb hzs (some ⟨q, 0, none⟩) 0 [] hs rfl (fun x => by cases x) (fun p _ j u hu => by simp at hu) ⟨b, off, none⟩ l.length c (l.map (.int k)) hx (by simp)
      (fun j u hu => by
        rw [List.getElem?_map] at hu
        cases hxj : l[j]? with
        | none => rw [hxj] at hu; simp at hu
        | some y =>
          rw [hxj] at hu
          obtain rfl : Value.int k y = u := by simpa using hu
          rw [Addr.add_lit]
          exact hc j y hxj) hp (by omega) (by decide) hbase w.heap.size rfl
      (fun cap w' own b' => by
        rw [Nat.zero_add, List.nil_append] at own
        rw [Nat.zero_add]
        exact hK.out _ _ _ rfl (h _ _ _ (Row.of_own own) b'))
    rwa [if_pos hw] at this
/-- While it copies. -/
structure CG (w0 : World) (e : En) (p : Ad) (w : World) : Prop where
  g : Blk w w0.heap.size 55 #[.int .u8 e.k, .int .i64 e.id, .int .i64 e.ep, .slice p.a1 e.x.length p.c1, .slice p.a2 e.coms.length p.c2, .slice p.a3 e.next.length p.c3, .slice p.a4 e.deals.length p.c4]
  r : Blk w (w0.heap.size + 1) 55 zero7
  c : ∃ v3 v4 v5 v6, Blk w (w0.heap.size + 1 + 1) 55 #[.int .u8 e.k, .int .i64 e.id, .int .i64 e.ep, v3, v4, v5, v6]
  b : Below w0.heap.size w0 w
  n : NEn w w0.heap.size e p
section
variable {w0 w w' : World} {e : En} {p : Ad}
theorem CG.kept (h : CG w0 e p w) (b : Below w.heap.size w w') : CG w0 e p w' :=
  ⟨h.g.kept b, h.r.kept b, h.c.elim fun v3 h => h.elim fun v4 h => h.elim fun v5 h => h.elim fun v6 h => ⟨v3, v4, v5, v6, h.kept b⟩, step_below h.b b, h.n.kept (b.mono h.b.size) (Nat.le_refl _)⟩
theorem CG.poke {k : Nat} {u : Value} (h : CG w0 e p w) (hk : k = 3 ∨ k = 4 ∨ k = 5 ∨ k = 6) : CG w0 e p (w.setCell ⟨w0.heap.size + 1 + 1, k, none⟩ u) := by
  have hb : Below w0.heap.size w (w.setCell ⟨w0.heap.size + 1 + 1, k, none⟩ u) := (Below.mono (Below.refl _ w) h.b.size).setCell (p := ⟨w0.heap.size + 1 + 1, k, none⟩) (by show _ ≤ w0.heap.size + 1 + 1; omega) u
  refine ⟨h.g.farc (by omega) u, h.r.farc (by omega) u, ?_, h.b.trans hb, h.n.kept hb (Nat.le_refl _)⟩
  obtain ⟨v3, v4, v5, v6, hc⟩ := h.c
  have := hc.set_ k u
  rcases hk with rfl | rfl | rfl | rfl
  · exact ⟨u, v4, v5, v6, this⟩
  · exact ⟨v3, u, v5, v6, this⟩
  · exact ⟨v3, v4, u, v6, this⟩
  · exact ⟨v3, v4, v5, u, this⟩
theorem CG.cell (h : CG w0 e p w) {k : Nat} (hk : k = 3 ∨ k = 4 ∨ k = 5 ∨ k = 6) : ∃ v, w.cell? ⟨w0.heap.size + 1 + 1, k, none⟩ = some v ∧ w.frozen? ⟨w0.heap.size + 1 + 1, k, none⟩ = false ∧ w0.heap.size + 1 + 1 < w.heap.size := by
  obtain ⟨v3, v4, v5, v6, hc⟩ := h.c
  rcases hk with rfl | rfl | rfl | rfl
  · exact ⟨v3, hc.cell 3, hc.frozen 3, hc.lt⟩
  · exact ⟨v4, hc.cell 4, hc.frozen 4, hc.lt⟩
  · exact ⟨v5, hc.cell 5, hc.frozen 5, hc.lt⟩
  · exact ⟨v6, hc.cell 6, hc.frozen 6, hc.lt⟩
end
/-- While it copies what was dealt. -/
structure CL (w0 : World) (e : En) (p : Ad) (a1 : Option Addr) (c1 : Nat) (a2 : Option Addr) (c2 : Nat) (a3 : Option Addr) (c3 : Nat) (j : Nat) (xs : List Value) (v : Value) (w : World) : Prop where
  g : Blk w w0.heap.size 55 #[.int .u8 e.k, .int .i64 e.id, .int .i64 e.ep, .slice p.a1 e.x.length p.c1, .slice p.a2 e.coms.length p.c2, .slice p.a3 e.next.length p.c3, .slice p.a4 e.deals.length p.c4]
  r : Blk w (w0.heap.size + 1) 55 zero7
  c : Blk w (w0.heap.size + 1 + 1) 55 #[.int .u8 e.k, .int .i64 e.id, .int .i64 e.ep, .slice a1 e.x.length c1, .slice a2 e.coms.length c2, .slice a3 e.next.length c3, v]
  b : Below w0.heap.size w0 w
  n : NEn w w0.heap.size e p
  x : Row .i64 2 w0.heap.size w.heap.size w a1 e.x
  coms : OLst w0.heap.size w.heap.size w a2 e.coms
  next : Row .i64 3 w0.heap.size w.heap.size w a3 e.next
  own : w.ownsRow w0.heap.size 58 2 v j xs
  acc : DAcc w0.heap.size w.heap.size w xs (e.deals.take j)
theorem cl_start {w0 w : World} {e : En} {p : Ad} {a1 a2 a3 : Option Addr} {c1 c2 c3 : Nat} (h : CG w0 e p w) (x1 : w.cell? ⟨w0.heap.size + 1 + 1, 3, none⟩ = some (.slice a1 e.x.length c1)) (r1 : Row .i64 2 w0.heap.size w.heap.size w a1 e.x)
    (x2 : w.cell? ⟨w0.heap.size + 1 + 1, 4, none⟩ = some (.slice a2 e.coms.length c2)) (l2 : OLst w0.heap.size w.heap.size w a2 e.coms) (x3 : w.cell? ⟨w0.heap.size + 1 + 1, 5, none⟩ = some (.slice a3 e.next.length c3)) (r3 : Row .i64 3 w0.heap.size w.heap.size w a3 e.next)
    (x4 : w.cell? ⟨w0.heap.size + 1 + 1, 6, none⟩ = some (.slice none 0 0)) : CL w0 e p a1 c1 a2 c2 a3 c3 0 [] (.slice none 0 0) w := by
  obtain ⟨v3, v4, v5, v6, hc⟩ := h.c
  have y3 : some v3 = _ := (hc.cell 3).symm.trans x1
  have y4 : some v4 = _ := (hc.cell 4).symm.trans x2
  have y5 : some v5 = _ := (hc.cell 5).symm.trans x3
  have y6 : some v6 = _ := (hc.cell 6).symm.trans x4
  injection y3 with y3
  injection y4 with y4
  injection y5 with y5
  injection y6 with y6
  subst y3 y4 y5 y6
  exact ⟨h.g, h.r, hc, h.b, h.n, r1, l2, r3, World.ownsRow_nil _ _ _ _, DAcc.nil⟩
/-- What an operation of the loop's region comes to. -/
inductive DK where
  | eq (u : Value)
  | lst (ls : List (List Int))
  | agg (d : Dl)
  | box (d : Dl)
  | app (j : Nat) (d : Dl) (xs : List Value)
  | capp (j : Nat) (d : Dl) (xs : List Value)
def DK.holds (lo C H : Nat) (v : Value) (w : World) : DK → Prop
  | .eq u => v = u
  | .lst ls => ∃ a c, v = .slice a ls.length c ∧ OLst lo w.heap.size w a ls
  | .agg d => ∃ a c, v = .agg #[.int .i64 d.1, .slice a d.2.length c] ∧ OLst lo w.heap.size w a d.2
  | .box d => ∃ q a c, v = .slice (some ⟨q, 0, none⟩) 1 1 ∧ H ≤ q ∧ Blk w q 58 #[.int .i64 d.1, .slice a d.2.length c] ∧ OLst lo w.heap.size w a d.2
  | .app j d xs => ∃ a c, w.ownsRow lo 58 2 v (j + 1) (xs ++ [.int .i64 d.1, .slice a d.2.length c]) ∧ OLst lo w.heap.size w a d.2
  | .capp j d xs => ∃ u a c, w.cell? ⟨C, 6, none⟩ = some u ∧ w.ownsRow lo 58 2 u (j + 1) (xs ++ [.int .i64 d.1, .slice a d.2.length c]) ∧ OLst lo w.heap.size w a d.2
def dkind (G C : Nat) (e : En) (p : Ad) (b o j : Nat) (d : Dl) (a' : Option Addr) (c' : Nat) (vc : Value) (xs : List Value) : Nat → DK
  | 0 => .eq (.pointer (some ⟨C, 6, none⟩))
  | 1 => .eq vc
  | 2 => .eq (.pointer (some ⟨G, 6, none⟩))
  | 3 => .eq (.slice (some ⟨b, o, none⟩) e.deals.length p.c4)
  | 4 => .eq (.int .i64 j)
  | 5 => .eq (.pointer (some ⟨b, o + j * 2, none⟩))
  | 6 => .eq (.pointer (some ⟨b, o + j * 2, none⟩))
  | 7 => .eq (.int .i64 d.1)
  | 8 => .eq (.pointer (some ⟨G, 6, none⟩))
  | 9 => .eq (.slice (some ⟨b, o, none⟩) e.deals.length p.c4)
  | 10 => .eq (.int .i64 j)
  | 11 => .eq (.pointer (some ⟨b, o + j * 2, none⟩))
  | 12 => .eq (.pointer (some ⟨b, o + j * 2 + 1, none⟩))
  | 13 => .eq (.slice a' d.2.length c')
  | 14 => .lst d.2
  | 15 => .agg d
  | 16 => .box d
  | 17 => .app j d xs
  | 18 => .eq (.pointer (some ⟨C, 6, none⟩))
  | 19 => .capp j d xs
  | _ => .eq undef
def DR (C : Nat) (vc : Value) (i : Nat) (w w' : World) : Prop := Below w.heap.size w w' ∨ (i = 17 ∧ w.grownBy w' vc.ownBlock) ∨ (i = 19 ∧ ∃ u, w' = w.setCell ⟨C, 6, none⟩ u)
/-- What stands in the loop's region. -/
structure DG (w0 : World) (e : En) (p : Ad) (a1 : Option Addr) (c1 : Nat) (a2 : Option Addr) (c2 : Nat) (a3 : Option Addr) (c3 : Nat) (j : Nat) (xs : List Value) (vc : Value) (H : Nat) (L : Nat → Bool) (w : World) : Prop where
  g : Blk w w0.heap.size 55 #[.int .u8 e.k, .int .i64 e.id, .int .i64 e.ep, .slice p.a1 e.x.length p.c1, .slice p.a2 e.coms.length p.c2, .slice p.a3 e.next.length p.c3, .slice p.a4 e.deals.length p.c4]
  r : Blk w (w0.heap.size + 1) 55 zero7
  c : ∃ v6, Blk w (w0.heap.size + 1 + 1) 55 #[.int .u8 e.k, .int .i64 e.id, .int .i64 e.ep, .slice a1 e.x.length c1, .slice a2 e.coms.length c2, .slice a3 e.next.length c3, v6] ∧ (L 19 = false → v6 = vc)
  b : Below w0.heap.size w0 w
  n : NEn w w0.heap.size e p
  x : Row .i64 2 w0.heap.size w.heap.size w a1 e.x
  coms : OLst w0.heap.size w.heap.size w a2 e.coms
  next : Row .i64 3 w0.heap.size w.heap.size w a3 e.next
  own : L 17 = false → w.ownsRow w0.heap.size 58 2 vc j xs
  acc : DAcc w0.heap.size w.heap.size w xs (e.deals.take j)
  hH : H ≤ w.heap.size
  hv : ∀ q, vc.ownBlock = some q → w0.heap.size ≤ q ∧ q < H
  cl : L 19 = true → L 17 = true
  cx : L 19 = true → L 1 = true
section
variable {w0 w w' : World} {e : En} {p : Ad} {a1 a2 a3 : Option Addr} {c1 c2 c3 j H : Nat} {xs : List Value} {vc : Value} {L L' : Nat → Bool}
theorem DG.kept (h : DG w0 e p a1 c1 a2 c2 a3 c3 j xs vc H L w) (b : Below w.heap.size w w') (h17 : L' 17 = L 17) (h19 : L' 19 = L 19) (h1 : L 1 = true → L' 1 = true) : DG w0 e p a1 c1 a2 c2 a3 c3 j xs vc H L' w' :=
  ⟨h.g.kept b, h.r.kept b, h.c.elim fun v6 h => ⟨v6, h.1.kept b, by rw [h19]; exact h.2⟩, step_below h.b b, h.n.kept (b.mono h.b.size) (Nat.le_refl _), h.x.fresh b, h.coms.fresh b, h.next.fresh b, by rw [h17]; exact fun x => own_below (h.own x) b, (h.acc.grow (fun _ _ hb => hb.kept b) (fun _ _ hb => hb.kept b)).more b.size, Nat.le_trans h.hH b.size, h.hv, by rw [h17, h19]; exact h.cl, by rw [h19]; exact fun x => h1 (h.cx x)⟩
theorem DG.same (h : DG w0 e p a1 c1 a2 c2 a3 c3 j xs vc H L w) {wr : World} {xs' : List Value} {v' : Value} {j' : Nat} {q : Addr} (hq : q.block < w0.heap.size) (k : CL w0 e p a1 c1 a2 c2 a3 c3 j' xs' v' wr) : w.cell? q = wr.cell? q := (h.b.cell hq).trans (k.b.cell hq).symm
theorem DG.nlst (h : DG w0 e p a1 c1 a2 c2 a3 c3 j xs vc H L w) {wr : World} {xs' : List Value} {v' : Value} {j' : Nat} {a : Option Addr} {ls : List (List Int)} (hn : NLst wr w0.heap.size a ls) (k : CL w0 e p a1 c1 a2 c2 a3 c3 j' xs' v' wr) : NLst w w0.heap.size a ls := by
  rcases hn with hn | ⟨b, o, ha, hlt, hc⟩
  · exact .inl hn
  · refine .inr ⟨b, o, ha, hlt, fun i l hl => ?_⟩
    obtain ⟨a', c', h1, h2⟩ := hc i l hl
    refine ⟨a', c', (h.same (q := ⟨b, o + i, none⟩) hlt k).trans h1, ?_⟩
    rcases h2 with h2 | ⟨b2, o2, ha2, hlt2, hc2⟩
    · exact .inl h2
    · exact .inr ⟨b2, o2, ha2, hlt2, fun n x hx => (h.same (q := ⟨b2, o2 + n, none⟩) hlt2 k).trans (hc2 n x hx)⟩
theorem DG.typed (h : DG w0 e p a1 c1 a2 c2 a3 c3 j xs vc H L w) (h17 : L 17 = false) (g : w.grownBy w' vc.ownBlock) {q : Nat} {t : TypeId} {cur : Array Value} (hb : Blk w q t cur) (ht : 58 ≠ t) : Blk w' q t cur := hb.grown g (own_ne' (h.own h17) hb ht)
theorem DG.grown (h : DG w0 e p a1 c1 a2 c2 a3 c3 j xs vc H L w) (h17 : L 17 = false) (g : w.grownBy w' vc.ownBlock) (k17 : L' 17 = true) (h19 : L' 19 = L 19) (h1 : L 1 = true → L' 1 = true) : DG w0 e p a1 c1 a2 c2 a3 c3 j xs vc H L' w' :=
  have hb := h.b.grown g h.b.size (fun q hq => (h.hv q hq).1)
  ⟨h.typed h17 g h.g (by decide), h.typed h17 g h.r (by decide), h.c.elim fun v6 k => ⟨v6, h.typed h17 g k.1 (by decide), by rw [h19]; exact k.2⟩, hb,
    h.n.kept (Below.grown (Below.mono (Below.refl _ w) h.b.size) g h.b.size (fun q hq => (h.hv q hq).1)) (Nat.le_refl _),
    (h.x.kept fun _ _ _ _ hb => h.typed h17 g hb (by decide)).more (Nat.le_refl _) g.size, (h.coms.grow (fun _ _ hb => h.typed h17 g hb (by decide)) (fun _ _ hb => h.typed h17 g hb (by decide))).more (Nat.le_refl _) g.size, (h.next.kept fun _ _ _ _ hb => h.typed h17 g hb (by decide)).more (Nat.le_refl _) g.size,
    (fun x => by rw [k17] at x; cases x), (h.acc.grow (fun _ _ hb => h.typed h17 g hb (by decide)) (fun _ _ hb => h.typed h17 g hb (by decide))).more g.size, Nat.le_trans h.hH g.size, h.hv, fun _ => k17, by rw [h19]; exact fun x => h1 (h.cx x)⟩
theorem DG.poke {u : Value} (h : DG w0 e p a1 c1 a2 c2 a3 c3 j xs vc H L w) (k17 : L 17 = true) (h17 : L' 17 = L 17) (h19 : L' 19 = true) (k1 : L' 1 = true) : DG w0 e p a1 c1 a2 c2 a3 c3 j xs vc H L' (w.setCell ⟨w0.heap.size + 1 + 1, 6, none⟩ u) := by
  obtain ⟨v6, hc, _⟩ := h.c
  have hb : Below w0.heap.size w (w.setCell ⟨w0.heap.size + 1 + 1, 6, none⟩ u) := (Below.mono (Below.refl _ w) h.b.size).setCell (p := ⟨w0.heap.size + 1 + 1, 6, none⟩) (by show _ ≤ w0.heap.size + 1 + 1; omega) u
  have hs : w.heap.size ≤ (w.setCell ⟨w0.heap.size + 1 + 1, 6, none⟩ u).heap.size := by simp [World.setCell]
  exact ⟨h.g.farc (by omega) u, h.r.farc (by omega) u, ⟨u, hc.set_ 6 u, (fun x => by rw [h19] at x; cases x)⟩, h.b.trans hb, h.n.kept hb (Nat.le_refl _), h.x.poke hc (by decide) 6 u, h.coms.poke hc 6 u, h.next.poke hc (by decide) 6 u, (fun x => by rw [h17, k17] at x; cases x),
    (h.acc.grow (fun _ _ hb => hb.farc (Blk.ne_ hb hc (by decide)) u) (fun _ _ hb => hb.farc (Blk.ne_ hb hc (by decide)) u)).more hs, Nat.le_trans h.hH hs, h.hv, fun _ => by rw [h17]; exact k17, fun _ => k1⟩
theorem DK.kept {lo C H : Nat} {v : Value} {k : DK} (h : k.holds lo C H v w) (b : Below w.heap.size w w') : k.holds lo C H v w' := by
  cases k with
  | eq u => exact h
  | lst ls => exact h.elim fun a h => h.elim fun c ⟨h1, h2⟩ => ⟨a, c, h1, h2.fresh b⟩
  | agg d => exact h.elim fun a h => h.elim fun c ⟨h1, h2⟩ => ⟨a, c, h1, h2.fresh b⟩
  | box d => exact h.elim fun q h => h.elim fun a h => h.elim fun c ⟨h1, h2, h3, h4⟩ => ⟨q, a, c, h1, h2, h3.kept b, h4.fresh b⟩
  | app j d xs => exact h.elim fun a h => h.elim fun c ⟨h1, h2⟩ => ⟨a, c, own_below h1 b, h2.fresh b⟩
  | capp j d xs => exact h.elim fun u h => h.elim fun a h => h.elim fun c ⟨h1, h2, h3⟩ => ⟨u, a, c, cell_keep h1 b, own_below h2 b, h3.fresh b⟩
theorem OLst.typed {lo : Nat} {a : Option Addr} {ls : List (List Int)} (h : OLst lo w.heap.size w a ls) (hs : w.heap.size ≤ w'.heap.size) (k : ∀ {q : Nat} {t : TypeId} {cur : Array Value}, Blk w q t cur → 58 ≠ t → Blk w' q t cur) : OLst lo w'.heap.size w' a ls :=
  (h.grow (fun _ _ hb => k hb (by decide)) (fun _ _ hb => k hb (by decide))).more (Nat.le_refl _) hs
def DK.late : DK → Bool
  | .app .. => true
  | .capp .. => true
  | _ => false
theorem DK.grown {lo C : Nat} {v : Value} {k : DK} (h : k.holds lo C H v w) (hk : k.late = false) (hv : ∀ q, vc.ownBlock = some q → q < H) (g : w.grownBy w' vc.ownBlock) (ty : ∀ {q : Nat} {t : TypeId} {cur : Array Value}, Blk w q t cur → 58 ≠ t → Blk w' q t cur) : k.holds lo C H v w' := by
  cases k with
  | eq u => exact h
  | lst ls => exact h.elim fun a h => h.elim fun c ⟨h1, h2⟩ => ⟨a, c, h1, h2.typed g.size ty⟩
  | agg d => exact h.elim fun a h => h.elim fun c ⟨h1, h2⟩ => ⟨a, c, h1, h2.typed g.size ty⟩
  | box d => exact h.elim fun q h => h.elim fun a h => h.elim fun c ⟨h1, h2, h3, h4⟩ => ⟨q, a, c, h1, h2, h3.grown g (fun e => by have := hv q e.symm; omega), h4.typed g.size ty⟩
  | app j d xs => simp [DK.late] at hk
  | capp j d xs => simp [DK.late] at hk
def DK.isC : DK → Bool
  | .capp .. => true
  | _ => false
theorem DK.poke {lo C : Nat} {v u : Value} {k : DK} {cs : Array Value} (h : k.holds lo C H v w) (hk : k.isC = false) (hC : Blk w C 55 cs) : k.holds lo C H v (w.setCell ⟨C, 6, none⟩ u) := by
  cases k with
  | eq u => exact h
  | lst ls => exact h.elim fun a h => h.elim fun c ⟨h1, h2⟩ => ⟨a, c, h1, h2.poke hC 6 u⟩
  | agg d => exact h.elim fun a h => h.elim fun c ⟨h1, h2⟩ => ⟨a, c, h1, h2.poke hC 6 u⟩
  | box d => exact h.elim fun q h => h.elim fun a h => h.elim fun c ⟨h1, h2, h3, h4⟩ => ⟨q, a, c, h1, h2, h3.farc (Blk.ne_ h3 hC (by decide)) u, h4.poke hC 6 u⟩
  | app j d xs => exact h.elim fun a h => h.elim fun c ⟨h1, h2⟩ => ⟨a, c, own_setc h1 hC (by decide) u, h2.poke hC 6 u⟩
  | capp j d xs => simp [DK.isC] at hk
end
theorem dkind_late {G C : Nat} {e : En} {p : Ad} {b o j : Nat} {d : Dl} {a' : Option Addr} {c' : Nat} {vc : Value} {xs : List Value} {i : Nat} (h1 : i ≠ 17) (h2 : i ≠ 19) : (dkind G C e p b o j d a' c' vc xs i).late = false := by
  unfold dkind
  split <;> first | rfl | omega
theorem dkind_isC {G C : Nat} {e : En} {p : Ad} {b o j : Nat} {d : Dl} {a' : Option Addr} {c' : Nat} {vc : Value} {xs : List Value} {i : Nat} (h2 : i ≠ 19) : (dkind G C e p b o j d a' c' vc xs i).isC = false := by
  unfold dkind
  split <;> first | rfl | omega
/-- append to a row of the call's own. -/
theorem opTo_append {P : Program} {ops : Array Oper} {o : Oper} {a : Act} {w : World} {K : Value → World → Prop} {t e : TypeId} (hgd : o.guard = none) (s x : Operand)
    (ho : o.op = .call { callee := .builtin .append, args := #[s, x], argTypes := #[t, t] }) (base : Nat) (i : TypeInfo) (z : Value) (size bytes : Nat) (ht : P.underlying t = some (.slice e)) (hi : P.info? e = some i) (hz : i.zero = some z)
    (hsize : i.size = size) (hb : i.bytes = bytes) (hzs : z.cells.size = size) (hsz : 0 < size) (v : Value) (n : Nat) (xs : List Value) (hs : a.eval s = v) (hown : w.ownsRow base e size v n xs)
    (ad : Addr) (m c : Nat) (news : List Value) (hx : a.eval x = .slice (some ad) m c) (hl : news.length = m * size) (hnews : ∀ j u, news[j]? = some u → w.cell? (ad.add j) = some u) (h1 : ∀ u ∈ news, u.oneCell' = true)
    (h63 : n + m ≤ maxLen) (hbytes : (n + m) * bytes ≤ 140737488355328) (hbase : base ≤ w.heap.size)
    (h : ∀ v' w', w'.ownsRow base e size v' (n + m) (xs ++ news) → w.grownBy w' v.ownBlock → K v' w') : OpTo P ops o a w K := by
  have hw : Region.wanted o (yielded ops a.tmps) = true := by simp [Region.wanted, hgd]
  refine opTo_of hw fun K' hK => ?_
  obtain ⟨v', w', hr, h2, h3, h4, h5⟩ := run_append_own_at (P := P) w base t o.type e i z size bytes ht hi hz hsize hb hzs hsz v n xs hown ad m c news hl hnews h1 h63 hbytes hbase
  unfold Oper.wp execOp
  simp only [ho, resolve, invoke, builtin, Sem.run_bind, Sem.run_pure, Result.andThen_ok, List.map_toArray, List.map_cons, List.map_nil, hs, hx, hr]
  exact hK.out v' _ w' rfl (h v' w' h2 h3)
theorem dg_start {w0 w : World} {e : En} {p : Ad} {a1 a2 a3 : Option Addr} {c1 c2 c3 j : Nat} {xs : List Value} {vc : Value} (h : CL w0 e p a1 c1 a2 c2 a3 c3 j xs vc w) : DG w0 e p a1 c1 a2 c2 a3 c3 j xs vc w.heap.size (fun _ => false) w :=
  ⟨h.g, h.r, ⟨vc, h.c, fun _ => rfl⟩, h.b, h.n, h.x, h.coms, h.next, fun _ => h.own, h.acc, Nat.le_refl _, fun q hq => h.own.lt q hq, (by simp), (by simp)⟩
theorem dg_done {w0 w : World} {e : En} {p : Ad} {a1 a2 a3 : Option Addr} {c1 c2 c3 j H : Nat} {xs : List Value} {vc u : Value} {L : Nat → Bool} {d : Dl} {a : Option Addr} {c : Nat} (h : DG w0 e p a1 c1 a2 c2 a3 c3 j xs vc H L w) (hd : e.deals[j]? = some d)
    (hu : w.cell? ⟨w0.heap.size + 1 + 1, 6, none⟩ = some u) (own : w.ownsRow w0.heap.size 58 2 u (j + 1) (xs ++ [.int .i64 d.1, .slice a d.2.length c])) (hls : OLst w0.heap.size w.heap.size w a d.2) : CL w0 e p a1 c1 a2 c2 a3 c3 (j + 1) (xs ++ [.int .i64 d.1, .slice a d.2.length c]) u w := by
  obtain ⟨v6, hc, _⟩ := h.c
  have y6 : some v6 = _ := (hc.cell 6).symm.trans hu
  injection y6 with y6
  subst y6
  refine ⟨h.g, h.r, hc, h.b, h.n, h.x, h.coms, h.next, own, ?_⟩
  have : e.deals.take (j + 1) = e.deals.take j ++ [d] := by rw [List.take_add_one, hd]; rfl
  rw [this]
  exact h.acc.snoc hls
/-- What a copy comes to. -/
def CopyPost (e : En) (w : World) (r : Ending) (w' : World) : Prop :=
  ∃ p : Ad, r = .returned (.agg #[.int .u8 e.k, .int .i64 e.id, .int .i64 e.ep, .slice p.a1 e.x.length p.c1, .slice p.a2 e.coms.length p.c2, .slice p.a3 e.next.length p.c3, .slice p.a4 e.deals.length p.c4]) ∧ OEn w.heap.size w'.heap.size w' e p ∧ Below w.heap.size w w'
theorem cl_end {w0 w : World} {e : En} {p : Ad} {a1 a2 a3 a4 : Option Addr} {c1 c2 c3 c4 : Nat} {xs : List Value} {v0 v1 v2 v3 v4 v5 v6 : Value} (h : CL w0 e p a1 c1 a2 c2 a3 c3 e.deals.length xs (.slice a4 e.deals.length c4) w) : CopyPost e w0 (.returned (.agg #[.int .u8 e.k, .int .i64 e.id, .int .i64 e.ep, .slice a1 e.x.length c1, .slice a2 e.coms.length c2, .slice a3 e.next.length c3, .slice a4 e.deals.length c4])) (set7 w (w0.heap.size + 1) v0 v1 v2 v3 v4 v5 v6) := by
  have ha := h.acc
  rw [List.take_length] at ha
  have ho : OEn w0.heap.size w.heap.size w e ⟨a1, c1, a2, c2, a3, c3, a4, c4⟩ := ⟨h.x, h.coms, h.next, ODls.of_own h.own ha⟩
  exact ⟨⟨a1, c1, a2, c2, a3, c3, a4, c4⟩, rfl, set7_oen ho h.r _ _ _ _ _ _ _, set7_below h.b (by omega) _ _ _ _ _ _ _⟩
theorem two_cells {w : World} {q : Nat} {t : TypeId} {x y : Value} (h : Blk w q t #[x, y]) : ∀ (j : Nat) u, [x, y][j]? = some u → w.cell? ((⟨q, 0, none⟩ : Addr).add j) = some u := by
  intro j u hj
  rw [Addr.add_lit, Nat.zero_add, h.cell]
  simpa using hj
theorem cg_start (w : World) (e : En) (p : Ad) (hN : NEn w w.heap.size e p) : CG w e p (((w.alloc (.cells #[.int .u8 e.k, .int .i64 e.id, .int .i64 e.ep, .slice p.a1 e.x.length p.c1, .slice p.a2 e.coms.length p.c2, .slice p.a3 e.next.length p.c3, .slice p.a4 e.deals.length p.c4] 55)).alloc (.cells #[.int .u8 0, .int .i64 0, .int .i64 0, .slice none 0 0, .slice none 0 0, .slice none 0 0, .slice none 0 0] 55)).alloc (.cells #[.int .u8 e.k, .int .i64 e.id, .int .i64 e.ep, .slice p.a1 e.x.length p.c1, .slice p.a2 e.coms.length p.c2, .slice p.a3 e.next.length p.c3, .slice p.a4 e.deals.length p.c4] 55)) := by
  have b : Below w.heap.size w (((w.alloc (.cells #[.int .u8 e.k, .int .i64 e.id, .int .i64 e.ep, .slice p.a1 e.x.length p.c1, .slice p.a2 e.coms.length p.c2, .slice p.a3 e.next.length p.c3, .slice p.a4 e.deals.length p.c4] 55)).alloc (.cells #[.int .u8 0, .int .i64 0, .int .i64 0, .slice none 0 0, .slice none 0 0, .slice none 0 0, .slice none 0 0] 55)).alloc (.cells #[.int .u8 e.k, .int .i64 e.id, .int .i64 e.ep, .slice p.a1 e.x.length p.c1, .slice p.a2 e.coms.length p.c2, .slice p.a3 e.next.length p.c3, .slice p.a4 e.deals.length p.c4] 55)) := ((((Below.refl _ w).alloc (Nat.le_refl _) _).alloc (by simp) _).alloc (by simp; omega) _)
  refine ⟨((Blk.new w 55 _).alloc _).alloc _, ?_, ⟨.slice p.a1 e.x.length p.c1, .slice p.a2 e.coms.length p.c2, .slice p.a3 e.next.length p.c3, .slice p.a4 e.deals.length p.c4, ?_⟩, b, hN.kept b (Nat.le_refl _)⟩
  · have h := (Blk.new (w.alloc (.cells #[.int .u8 e.k, .int .i64 e.id, .int .i64 e.ep, .slice p.a1 e.x.length p.c1, .slice p.a2 e.coms.length p.c2, .slice p.a3 e.next.length p.c3, .slice p.a4 e.deals.length p.c4] 55)) 55 zero7).alloc (.cells #[.int .u8 e.k, .int .i64 e.id, .int .i64 e.ep, .slice p.a1 e.x.length p.c1, .slice p.a2 e.coms.length p.c2, .slice p.a3 e.next.length p.c3, .slice p.a4 e.deals.length p.c4] 55)
    simp only [asz] at h
    exact h
  · have h := Blk.new ((w.alloc (.cells #[.int .u8 e.k, .int .i64 e.id, .int .i64 e.ep, .slice p.a1 e.x.length p.c1, .slice p.a2 e.coms.length p.c2, .slice p.a3 e.next.length p.c3, .slice p.a4 e.deals.length p.c4] 55)).alloc (.cells zero7 55)) 55 #[.int .u8 e.k, .int .i64 e.id, .int .i64 e.ep, .slice p.a1 e.x.length p.c1, .slice p.a2 e.coms.length p.c2, .slice p.a3 e.next.length p.c3, .slice p.a4 e.deals.length p.c4]
    simp only [asz] at h
    exact h
set_option maxRecDepth 100000 in
set_option maxHeartbeats 2000000 in
theorem rcopy_any (e : En) (p : Ad) (w : World) (hL : e.Lim) (hN : NEn w w.heap.size e p) :
    Calls Try.prog 110 #[.agg #[.int .u8 e.k, .int .i64 e.id, .int .i64 e.ep, .slice p.a1 e.x.length p.c1, .slice p.a2 e.coms.length p.c2, .slice p.a3 e.next.length p.c3, .slice p.a4 e.deals.length p.c4]] w (CopyPost e w) := by
  go_enter Try.func110, Try.ntmps110
  go_upto_region 2 with fail
  obtain ⟨w1, hw1⟩ : ∃ w1, w1 = ((w.alloc (.cells #[.int .u8 e.k, .int .i64 e.id, .int .i64 e.ep, .slice p.a1 e.x.length p.c1, .slice p.a2 e.coms.length p.c2, .slice p.a3 e.next.length p.c3, .slice p.a4 e.deals.length p.c4] 55)).alloc (.cells #[.int .u8 0, .int .i64 0, .int .i64 0, .slice none 0 0, .slice none 0 0, .slice none 0 0, .slice none 0 0] 55)).alloc (.cells #[.int .u8 e.k, .int .i64 e.id, .int .i64 e.ep, .slice p.a1 e.x.length p.c1, .slice p.a2 e.coms.length p.c2, .slice p.a3 e.next.length p.c3, .slice p.a4 e.deals.length p.c4] 55) := ⟨_, rfl⟩
  rw [← hw1]
  have I1 := info_parts infoI64
  have I2 := info_parts infoInt
  obtain ⟨i1, hi1, hz10, hz11, hz12⟩ := I1
  obtain ⟨i2, hi2, hz20, hz21, hz22⟩ := I2
  obtain ⟨i3, hi3, hz30, hz31, hz32⟩ := info_parts infoDl
  have K0 : CG w e p w1 := by rw [hw1]; exact cg_start w e p hN
  have HL := Lib.hid hL
  have hx5 := hL.x
  have hn5 := hL.next
  have hc5 := hL.coms
  clear hw1 hL hN
  refine' wp_region_invB _ (fun i v w' => (ckind w.heap.size (w.heap.size + 1 + 1) e p i).holds w.heap.size (w.heap.size + 1 + 1) v w') (fun _ => CG w e p) (CR (w.heap.size + 1 + 1) cst) ?hA (by kernel_rfl) (by kernel_rfl) (by kernel_rfl) (K0.kept (Below.refl _ w1).drew) ?mono ?step ?fin
  case hA =>
    intro vs
    conv => lhs; simp only [fillL, Act.put, List.setIfInBounds_toArray, List.set_cons_zero, List.set_cons_succ, Nat.reduceAdd]
    try exact rfl
  case mono =>
    intro i j L v wr w' hne _ _ hg hT hr
    rcases hr with b | ⟨k, u, hk, rfl⟩
    · exact CK.kept hT b
    · obtain ⟨v3, v4, v5, v6, hc⟩ := hg.c
      exact CK.poke hT (ckind_ok _ _ _ _ _) hc fun x => hne (cst_inj (ckind_off x) hk)
  case step =>
    refine StepsA.cons (fun L vs wr hl hdl hg hd => ?_) ?_
    · refine opTo_of (by kernel_rfl) (fun K hK => ?_)
      go_simp
      exact hK.out (.slice (some ⟨wr.heap.size, 0, none⟩) 0 0) _ _ (by kernel_rfl) ⟨hg.kept ((Below.refl _ wr).alloc (Nat.le_refl _) _), .inl ((Below.refl _ wr).alloc (Nat.le_refl _) _), ⟨wr.heap.size, rfl, hg.b.size, Blk.new wr _ _⟩⟩
    refine StepsA.cons (fun L vs wr hl hdl hg hd => ?_) ?_
    · refine opTo_of (by kernel_rfl) (fun K hK => ?_)
      go_simp
      exact hK.out (.pointer (some ⟨w.heap.size, 3, none⟩)) _ _ (by kernel_rfl) ⟨hg, .inl (Below.refl _ _), rfl⟩
    refine StepsA.cons (fun L vs wr hl hdl hg hd => ?_) ?_
    · have e1 : vs 1 = .pointer (some ⟨w.heap.size, 3, none⟩) := hd 1 (by decide)
      have f3 : wr.cell? ⟨w.heap.size, 3, none⟩ = some (.slice p.a1 e.x.length p.c1) := hg.g.cell 3
      refine opTo_of (by kernel_rfl) (fun K hK => ?_)
      go_simp
      exact hK.out (.slice p.a1 e.x.length p.c1) _ _ (by simp only [e1]; kernel_rfl) ⟨hg, .inl (Below.refl _ _), rfl⟩
    refine StepsA.cons (fun L vs wr hl hdl hg hd => ?_) ?_
    · obtain ⟨q, e0, -, -⟩ := hd 0 (by decide)
      have e2 : vs 2 = .slice p.a1 e.x.length p.c1 := hd 2 (by decide)
      exact opTo_copy rfl (.tmp 6) (.tmp 8) rfl i1 (.int .i64 0) Try.underlying51 hi1 hz10 hz11 hz12 rfl q e0 p.a1 p.c1 e.x e2 ((hg.n.x).more hg.b.size) hx5 w.heap.size hg.b.size fun a' c' w' hrow b => ⟨hg.kept b, .inl b, ⟨a', c', rfl, hrow⟩⟩
    refine StepsA.cons (fun L vs wr hl hdl hg hd => ?_) ?_
    · refine opTo_of (by kernel_rfl) (fun K hK => ?_)
      go_simp
      exact hK.out (.slice (some ⟨wr.heap.size, 0, none⟩) 0 0) _ _ (by kernel_rfl) ⟨hg.kept ((Below.refl _ wr).alloc (Nat.le_refl _) _), .inl ((Below.refl _ wr).alloc (Nat.le_refl _) _), ⟨wr.heap.size, rfl, hg.b.size, Blk.new wr _ _⟩⟩
    refine StepsA.cons (fun L vs wr hl hdl hg hd => ?_) ?_
    · refine opTo_of (by kernel_rfl) (fun K hK => ?_)
      go_simp
      exact hK.out (.pointer (some ⟨w.heap.size, 5, none⟩)) _ _ (by kernel_rfl) ⟨hg, .inl (Below.refl _ _), rfl⟩
    refine StepsA.cons (fun L vs wr hl hdl hg hd => ?_) ?_
    · have e1 : vs 5 = .pointer (some ⟨w.heap.size, 5, none⟩) := hd 5 (by decide)
      have f3 : wr.cell? ⟨w.heap.size, 5, none⟩ = some (.slice p.a3 e.next.length p.c3) := hg.g.cell 5
      refine opTo_of (by kernel_rfl) (fun K hK => ?_)
      go_simp
      exact hK.out (.slice p.a3 e.next.length p.c3) _ _ (by simp only [e1]; kernel_rfl) ⟨hg, .inl (Below.refl _ _), rfl⟩
    refine StepsA.cons (fun L vs wr hl hdl hg hd => ?_) ?_
    · obtain ⟨q, e0, -, -⟩ := hd 4 (by decide)
      have e2 : vs 6 = .slice p.a3 e.next.length p.c3 := hd 6 (by decide)
      exact opTo_copy rfl (.tmp 10) (.tmp 12) rfl i2 (.int .i64 0) Try.underlying40 hi2 hz20 hz21 hz22 rfl q e0 p.a3 p.c3 e.next e2 ((hg.n.next).more hg.b.size) hn5 w.heap.size hg.b.size fun a' c' w' hrow b => ⟨hg.kept b, .inl b, ⟨a', c', rfl, hrow⟩⟩
    refine StepsA.cons (fun L vs wr hl hdl hg hd => ?_) ?_
    · refine opTo_of (by kernel_rfl) (fun K hK => ?_)
      go_simp
      exact hK.out (.pointer (some ⟨w.heap.size, 4, none⟩)) _ _ (by kernel_rfl) ⟨hg, .inl (Below.refl _ _), rfl⟩
    refine StepsA.cons (fun L vs wr hl hdl hg hd => ?_) ?_
    · have e1 : vs 8 = .pointer (some ⟨w.heap.size, 4, none⟩) := hd 8 (by decide)
      have f3 : wr.cell? ⟨w.heap.size, 4, none⟩ = some (.slice p.a2 e.coms.length p.c2) := hg.g.cell 4
      refine opTo_of (by kernel_rfl) (fun K hK => ?_)
      go_simp
      exact hK.out (.slice p.a2 e.coms.length p.c2) _ _ (by simp only [e1]; kernel_rfl) ⟨hg, .inl (Below.refl _ _), rfl⟩
    refine StepsA.cons (fun L vs wr hl hdl hg hd => ?_) ?_
    · have e9 : vs 9 = .slice p.a2 e.coms.length p.c2 := hd 9 (by decide)
      have HC := Lib.hid (rrows_any p.a2 p.c2 e.coms wr (hg.n.coms.more hg.b.size) hc5 HL.out.com)
      refine opTo_of (by kernel_rfl) (fun K hK => ?_)
      go_simp
      refine Calls.mono HC.out ?_
      rintro r w' ⟨a, c, rfl, hls, b⟩
      exact hK.out (.slice a e.coms.length c) _ _ (by simp only [e9]; kernel_rfl) ⟨hg.kept b, .inl b, ⟨a, c, rfl, hls.more hg.b.size (Nat.le_refl _)⟩⟩
    refine StepsA.cons (fun L vs wr hl hdl hg hd => ?_) ?_
    · refine opTo_of (by kernel_rfl) (fun K hK => ?_)
      go_simp
      exact hK.out (.pointer (some ⟨w.heap.size + 1 + 1, 3, none⟩)) _ _ (by kernel_rfl) ⟨hg, .inl (Below.refl _ _), rfl⟩
    refine StepsA.cons (fun L vs wr hl hdl hg hd => ?_) ?_
    · have e11 : vs 11 = .pointer (some ⟨w.heap.size + 1 + 1, 3, none⟩) := hd 11 (by decide)
      obtain ⟨a, c, e3, hrow⟩ := hd 3 (by decide)
      have e3 : vs 3 = .slice a e.x.length c := e3
      obtain ⟨v, x3, z3, hlt⟩ := hg.cell (k := 3) (by decide)
      refine opTo_of (by kernel_rfl) (fun K hK => ?_)
      go_simp
      obtain ⟨v3, v4, v5, v6, hc⟩ := hg.c
      exact hK.out undef _ _ (by simp only [e11, e3]; kernel_rfl) ⟨hg.poke (by decide), .inr ⟨3, _, rfl, rfl⟩, ⟨a, c, (hc.set_ 3 _).cell 3, hrow.poke hc (by decide) 3 _⟩⟩
    refine StepsA.cons (fun L vs wr hl hdl hg hd => ?_) ?_
    · refine opTo_of (by kernel_rfl) (fun K hK => ?_)
      go_simp
      exact hK.out (.pointer (some ⟨w.heap.size + 1 + 1, 5, none⟩)) _ _ (by kernel_rfl) ⟨hg, .inl (Below.refl _ _), rfl⟩
    refine StepsA.cons (fun L vs wr hl hdl hg hd => ?_) ?_
    · have e11 : vs 13 = .pointer (some ⟨w.heap.size + 1 + 1, 5, none⟩) := hd 13 (by decide)
      obtain ⟨a, c, e3, hrow⟩ := hd 7 (by decide)
      have e3 : vs 7 = .slice a e.next.length c := e3
      obtain ⟨v, x3, z3, hlt⟩ := hg.cell (k := 5) (by decide)
      refine opTo_of (by kernel_rfl) (fun K hK => ?_)
      go_simp
      obtain ⟨v3, v4, v5, v6, hc⟩ := hg.c
      exact hK.out undef _ _ (by simp only [e11, e3]; kernel_rfl) ⟨hg.poke (by decide), .inr ⟨5, _, rfl, rfl⟩, ⟨a, c, (hc.set_ 5 _).cell 5, hrow.poke hc (by decide) 5 _⟩⟩
    refine StepsA.cons (fun L vs wr hl hdl hg hd => ?_) ?_
    · refine opTo_of (by kernel_rfl) (fun K hK => ?_)
      go_simp
      exact hK.out (.pointer (some ⟨w.heap.size + 1 + 1, 4, none⟩)) _ _ (by kernel_rfl) ⟨hg, .inl (Below.refl _ _), rfl⟩
    refine StepsA.cons (fun L vs wr hl hdl hg hd => ?_) ?_
    · have e11 : vs 15 = .pointer (some ⟨w.heap.size + 1 + 1, 4, none⟩) := hd 15 (by decide)
      obtain ⟨a, c, e3, hrow⟩ := hd 10 (by decide)
      have e3 : vs 10 = .slice a e.coms.length c := e3
      obtain ⟨v, x3, z3, hlt⟩ := hg.cell (k := 4) (by decide)
      refine opTo_of (by kernel_rfl) (fun K hK => ?_)
      go_simp
      obtain ⟨v3, v4, v5, v6, hc⟩ := hg.c
      exact hK.out undef _ _ (by simp only [e11, e3]; kernel_rfl) ⟨hg.poke (by decide), .inr ⟨4, _, rfl, rfl⟩, ⟨a, c, (hc.set_ 4 _).cell 4, hrow.poke hc 4 _⟩⟩
    refine StepsA.cons (fun L vs wr hl hdl hg hd => ?_) ?_
    · refine opTo_of (by kernel_rfl) (fun K hK => ?_)
      go_simp
      exact hK.out (.pointer (some ⟨w.heap.size + 1 + 1, 6, none⟩)) _ _ (by kernel_rfl) ⟨hg, .inl (Below.refl _ _), rfl⟩
    refine StepsA.cons (fun L vs wr hl hdl hg hd => ?_) ?_
    · have e11 : vs 17 = .pointer (some ⟨w.heap.size + 1 + 1, 6, none⟩) := hd 17 (by decide)
      obtain ⟨v, x3, z3, hlt⟩ := hg.cell (k := 6) (by decide)
      refine opTo_of (by kernel_rfl) (fun K hK => ?_)
      go_simp
      obtain ⟨v3, v4, v5, v6, hc⟩ := hg.c
      exact hK.out undef _ _ (by simp only [e11]; kernel_rfl) ⟨hg.poke (by decide), .inr ⟨6, _, rfl, rfl⟩, (hc.set_ 6 _).cell 6⟩
    exact StepsA.nil
  case fin =>
    intro L vs wr _ hg hT
    obtain ⟨a1, c1, x1, r1⟩ := hT 12 (by decide)
    obtain ⟨a3, c3, x3, r3⟩ := hT 14 (by decide)
    obtain ⟨a2, c2, x2, l2⟩ := hT 16 (by decide)
    have x4 : wr.cell? ⟨w.heap.size + 1 + 1, 6, none⟩ = some (.slice none 0 0) := hT 18 (by decide)
    have K1 : CL w e p a1 c1 a2 c2 a3 c3 0 [] (.slice none 0 0) wr := cl_start hg x1 r1 x2 l2 x3 r3 x4
    have HK := Lib.hid K1
    clear hg hT x1 r1 x2 l2 x3 r3 x4 K1
    go_wp2_with fail
    go_loopw [4] (fun i wr => ∃ (j : Nat) (xs : List Value) (v : Value), j ≤ e.deals.length ∧ i = .int .i64 j ∧ CL w e p a1 c1 a2 c2 a3 c3 j xs v wr) (fun i _ => e.deals.length - (intOf i).toNat)
    case atStart => exact ⟨0, [], _, Nat.zero_le _, rfl, HK.out⟩
    case round =>
      obtain ⟨j, xs, vc, hj, rfl, K1⟩ := hrel
      clear HK
      have f6 : wr.cell? ⟨w.heap.size, 6, none⟩ = some (.slice p.a4 e.deals.length p.c4) := K1.g.cell 6
      have hd5 := HL.out.deals
      by_cases hlt : j < e.deals.length
      · obtain ⟨d, hd⟩ : ∃ d, e.deals[j]? = some d := ⟨_, List.getElem?_eq_getElem hlt⟩
        have hjI : (j : Int) < (e.deals.length : Int) := by omega
        obtain ⟨b, o, hpa, hbl, a', c', hc0, hc1, hNL⟩ : ∃ b o, p.a4 = some ⟨b, o, none⟩ ∧ b < w.heap.size ∧ ∃ a' c', wr.cell? ⟨b, o + j * 2, none⟩ = some (.int .i64 d.1) ∧ wr.cell? ⟨b, o + j * 2 + 1, none⟩ = some (.slice a' d.2.length c') ∧ NLst wr w.heap.size a' d.2 := by
          rcases K1.n.deals with h0 | ⟨b, o, ha, hbl, hc⟩
          · rw [h0] at hlt; simp at hlt
          · obtain ⟨a', c', x0, x1, x2⟩ := hc j d hd
            exact ⟨b, o, ha, hbl, a', c', x0, x1, x2⟩
        rw [hpa] at f6
        have HX := Lib.hid (And.intro hpa (And.intro hd (And.intro hc0 (And.intro hc1 hNL))))
        have HK := Lib.hid K1
        have hdlen := HL.out.col d (List.mem_of_getElem? hd)
        clear hpa hd hc0 hc1 hNL K1
        go_upto_region 6 with fail
        have K2 := dg_start HK.out
        refine' wp_region_invB _ (fun i v w' => (dkind w.heap.size (w.heap.size + 1 + 1) e p b o j d a' c' vc xs i).holds w.heap.size (w.heap.size + 1 + 1) wr.heap.size v w') (fun L w' => DG w e p a1 c1 a2 c2 a3 c3 j xs vc wr.heap.size L w') (DR (w.heap.size + 1 + 1) vc) ?hA (by kernel_rfl) (by kernel_rfl) (by kernel_rfl) (K2.kept (Below.refl _ wr).drew rfl rfl (by simp)) ?mono ?step ?fin
        case hA =>
          intro vs
          conv => lhs; simp only [fillL, Act.put, List.setIfInBounds_toArray, List.set_cons_zero, List.set_cons_succ, Nat.reduceAdd]
          try exact rfl
        case mono =>
          intro i k L v w1 w2 hne hLi hLk hg hT hr
          rcases hr with hb | ⟨rfl, hg2⟩ | ⟨rfl, u, rfl⟩
          · exact DK.kept hT hb
          · have h19 : k ≠ 19 := by
              rintro rfl
              have := hg.cl hLk
              rw [hLi] at this
              cases this
            exact DK.grown hT (dkind_late hne h19) (fun q hq => (hg.hv q hq).2) hg2 (fun hb ht => hg.typed hLi hg2 hb ht)
          · obtain ⟨v6, hc, _⟩ := hg.c
            exact DK.poke hT (dkind_isC hne) hc
        case step =>
          refine StepsA.cons (fun L vs w1 hl hdl hg hd2 => ?_) ?_
          · refine opTo_of (by kernel_rfl) (fun K hK => ?_)
            go_simp
            exact hK.out (.pointer (some ⟨w.heap.size + 1 + 1, 6, none⟩)) _ _ (by kernel_rfl) ⟨hg.kept (Below.refl _ _) rfl rfl (by simp), .inl (Below.refl _ _), rfl⟩
          refine StepsA.cons (fun L vs w1 hl hdl hg hd2 => ?_) ?_
          · have e0 : vs 0 = .pointer (some ⟨w.heap.size + 1 + 1, 6, none⟩) := hd2 0 (by decide)
            obtain ⟨v6, hc, h6⟩ := hg.c
            have h19 : L 19 = false := by
              cases h : L 19 with
              | false => rfl
              | true =>
                have := hg.cx h
                rw [hl] at this
                cases this
            obtain rfl := h6 h19
            have f3 : w1.cell? ⟨w.heap.size + 1 + 1, 6, none⟩ = some v6 := hc.cell 6
            refine opTo_of (by kernel_rfl) (fun K hK => ?_)
            go_simp
            exact hK.out (v6) _ _ (by simp only [e0]; kernel_rfl) ⟨hg.kept (Below.refl _ _) rfl rfl (by simp), .inl (Below.refl _ _), rfl⟩
          refine StepsA.cons (fun L vs w1 hl hdl hg hd2 => ?_) ?_
          · refine opTo_of (by kernel_rfl) (fun K hK => ?_)
            go_simp
            exact hK.out (.pointer (some ⟨w.heap.size, 6, none⟩)) _ _ (by kernel_rfl) ⟨hg.kept (Below.refl _ _) rfl rfl (by simp), .inl (Below.refl _ _), rfl⟩
          refine StepsA.cons (fun L vs w1 hl hdl hg hd2 => ?_) ?_
          · have e0 : vs 2 = .pointer (some ⟨w.heap.size, 6, none⟩) := hd2 2 (by decide)
            have f3 : w1.cell? ⟨w.heap.size, 6, none⟩ = some (.slice (some ⟨b, o, none⟩) e.deals.length p.c4) := by rw [← HX.out.1]; exact hg.g.cell 6
            refine opTo_of (by kernel_rfl) (fun K hK => ?_)
            go_simp
            exact hK.out (.slice (some ⟨b, o, none⟩) e.deals.length p.c4) _ _ (by simp only [e0]; kernel_rfl) ⟨hg.kept (Below.refl _ _) rfl rfl (by simp), .inl (Below.refl _ _), rfl⟩
          refine StepsA.cons (fun L vs w1 hl hdl hg hd2 => ?_) ?_
          · refine opTo_of (by kernel_rfl) (fun K hK => ?_)
            go_simp
            exact hK.out (.int .i64 j) _ _ (by kernel_rfl) ⟨hg.kept (Below.refl _ _) rfl rfl (by simp), .inl (Below.refl _ _), rfl⟩
          refine StepsA.cons (fun L vs w1 hl hdl hg hd2 => ?_) ?_
          · have e0 : vs 3 = .slice (some ⟨b, o, none⟩) e.deals.length p.c4 := hd2 3 (by decide)
            have e1 : vs 4 = .int .i64 j := hd2 4 (by decide)
            refine opTo_of (by kernel_rfl) (fun K hK => ?_)
            go_simp
            exact hK.out (.pointer (some ⟨b, o + j * 2, none⟩)) _ _ (by simp only [e0, e1]; kernel_rfl) ⟨hg.kept (Below.refl _ _) rfl rfl (by simp), .inl (Below.refl _ _), rfl⟩
          refine StepsA.cons (fun L vs w1 hl hdl hg hd2 => ?_) ?_
          · have e0 : vs 5 = .pointer (some ⟨b, o + j * 2, none⟩) := hd2 5 (by decide)
            refine opTo_of (by kernel_rfl) (fun K hK => ?_)
            go_simp
            exact hK.out (.pointer (some ⟨b, o + j * 2, none⟩)) _ _ (by simp only [e0]; kernel_rfl) ⟨hg.kept (Below.refl _ _) rfl rfl (by simp), .inl (Below.refl _ _), rfl⟩
          refine StepsA.cons (fun L vs w1 hl hdl hg hd2 => ?_) ?_
          · have e0 : vs 6 = .pointer (some ⟨b, o + j * 2, none⟩) := hd2 6 (by decide)
            have f3 : w1.cell? ⟨b, o + j * 2, none⟩ = some (.int .i64 d.1) := (hg.same hbl HK.out).trans HX.out.2.2.1
            refine opTo_of (by kernel_rfl) (fun K hK => ?_)
            go_simp
            exact hK.out (.int .i64 d.1) _ _ (by simp only [e0]; kernel_rfl) ⟨hg.kept (Below.refl _ _) rfl rfl (by simp), .inl (Below.refl _ _), rfl⟩
          refine StepsA.cons (fun L vs w1 hl hdl hg hd2 => ?_) ?_
          · refine opTo_of (by kernel_rfl) (fun K hK => ?_)
            go_simp
            exact hK.out (.pointer (some ⟨w.heap.size, 6, none⟩)) _ _ (by kernel_rfl) ⟨hg.kept (Below.refl _ _) rfl rfl (by simp), .inl (Below.refl _ _), rfl⟩
          refine StepsA.cons (fun L vs w1 hl hdl hg hd2 => ?_) ?_
          · have e0 : vs 8 = .pointer (some ⟨w.heap.size, 6, none⟩) := hd2 8 (by decide)
            have f3 : w1.cell? ⟨w.heap.size, 6, none⟩ = some (.slice (some ⟨b, o, none⟩) e.deals.length p.c4) := by rw [← HX.out.1]; exact hg.g.cell 6
            refine opTo_of (by kernel_rfl) (fun K hK => ?_)
            go_simp
            exact hK.out (.slice (some ⟨b, o, none⟩) e.deals.length p.c4) _ _ (by simp only [e0]; kernel_rfl) ⟨hg.kept (Below.refl _ _) rfl rfl (by simp), .inl (Below.refl _ _), rfl⟩
          refine StepsA.cons (fun L vs w1 hl hdl hg hd2 => ?_) ?_
          · refine opTo_of (by kernel_rfl) (fun K hK => ?_)
            go_simp
            exact hK.out (.int .i64 j) _ _ (by kernel_rfl) ⟨hg.kept (Below.refl _ _) rfl rfl (by simp), .inl (Below.refl _ _), rfl⟩
          refine StepsA.cons (fun L vs w1 hl hdl hg hd2 => ?_) ?_
          · have e0 : vs 9 = .slice (some ⟨b, o, none⟩) e.deals.length p.c4 := hd2 9 (by decide)
            have e1 : vs 10 = .int .i64 j := hd2 10 (by decide)
            refine opTo_of (by kernel_rfl) (fun K hK => ?_)
            go_simp
            exact hK.out (.pointer (some ⟨b, o + j * 2, none⟩)) _ _ (by simp only [e0, e1]; kernel_rfl) ⟨hg.kept (Below.refl _ _) rfl rfl (by simp), .inl (Below.refl _ _), rfl⟩
          refine StepsA.cons (fun L vs w1 hl hdl hg hd2 => ?_) ?_
          · have e0 : vs 11 = .pointer (some ⟨b, o + j * 2, none⟩) := hd2 11 (by decide)
            refine opTo_of (by kernel_rfl) (fun K hK => ?_)
            go_simp
            exact hK.out (.pointer (some ⟨b, o + j * 2 + 1, none⟩)) _ _ (by simp only [e0]; kernel_rfl) ⟨hg.kept (Below.refl _ _) rfl rfl (by simp), .inl (Below.refl _ _), rfl⟩
          refine StepsA.cons (fun L vs w1 hl hdl hg hd2 => ?_) ?_
          · have e0 : vs 12 = .pointer (some ⟨b, o + j * 2 + 1, none⟩) := hd2 12 (by decide)
            have f3 : w1.cell? ⟨b, o + j * 2 + 1, none⟩ = some (.slice a' d.2.length c') := (hg.same hbl HK.out).trans HX.out.2.2.2.1
            refine opTo_of (by kernel_rfl) (fun K hK => ?_)
            go_simp
            exact hK.out (.slice a' d.2.length c') _ _ (by simp only [e0]; kernel_rfl) ⟨hg.kept (Below.refl _ _) rfl rfl (by simp), .inl (Below.refl _ _), rfl⟩
          refine StepsA.cons (fun L vs w1 hl hdl hg hd2 => ?_) ?_
          · have e0 : vs 13 = .slice a' d.2.length c' := hd2 13 (by decide)
            have HC := Lib.hid (rrows_any a' c' d.2 w1 ((hg.nlst HX.out.2.2.2.2 HK.out).more hg.b.size) hdlen (HL.out.cols d (List.mem_of_getElem? HX.out.2.1)))
            refine opTo_of (by kernel_rfl) (fun K hK => ?_)
            go_simp
            refine Calls.mono HC.out ?_
            rintro r w2 ⟨a, c, rfl, hls, hb⟩
            exact hK.out (.slice a d.2.length c) _ _ (by simp only [e0]; kernel_rfl) ⟨hg.kept (hb) rfl rfl (by simp), .inl (hb), ⟨a, c, rfl, hls.more hg.b.size (Nat.le_refl _)⟩⟩
          refine StepsA.cons (fun L vs w1 hl hdl hg hd2 => ?_) ?_
          · have e0 : vs 7 = .int .i64 d.1 := hd2 7 (by decide)
            obtain ⟨a, c, e1, hls⟩ := hd2 14 (by decide)
            have e1 : vs 14 = .slice a d.2.length c := e1
            refine opTo_of (by kernel_rfl) (fun K hK => ?_)
            go_simp
            exact hK.out (.agg #[.int .i64 d.1, .slice a d.2.length c]) _ _ (by simp only [e0, e1]; kernel_rfl) ⟨hg.kept (Below.refl _ _) rfl rfl (by simp), .inl (Below.refl _ _), ⟨a, c, rfl, hls⟩⟩
          refine StepsA.cons (fun L vs w1 hl hdl hg hd2 => ?_) ?_
          · obtain ⟨a, c, e1, hls⟩ := hd2 15 (by decide)
            have e1 : vs 15 = .agg #[.int .i64 d.1, .slice a d.2.length c] := e1
            refine opTo_of (by kernel_rfl) (fun K hK => ?_)
            go_simp
            exact hK.out (.slice (some ⟨w1.heap.size, 0, none⟩) 1 1) _ _ (by simp only [e1]; kernel_rfl) ⟨hg.kept ((Below.refl _ w1).alloc (Nat.le_refl _) _) rfl rfl (by simp), .inl ((Below.refl _ w1).alloc (Nat.le_refl _) _), ⟨w1.heap.size, a, c, rfl, hg.hH, Blk.new w1 _ _, hls.fresh ((Below.refl _ w1).alloc (Nat.le_refl _) _)⟩⟩
          refine StepsA.cons (fun L vs w1 hl hdl hg hd2 => ?_) ?_
          · have e0 : vs 1 = vc := hd2 1 (by decide)
            obtain ⟨q, a, c, e1, hq, hbk, hls⟩ := hd2 16 (by decide)
            have e1 : vs 16 = .slice (some ⟨q, 0, none⟩) 1 1 := e1
            exact opTo_append rfl (.tmp 29) (.tmp 44) rfl w.heap.size i3 (.agg #[.int .i64 0, .slice none 0 0]) 2 32 Try.underlying53 hi3 hz30 hz31 hz32 rfl (by decide) vc j xs e0 (hg.own hl) ⟨q, 0, none⟩ 1 1 [.int .i64 d.1, .slice a d.2.length c] e1 rfl (two_cells hbk) (two_dl d.1 a d.2.length c) (by unfold maxLen; omega) (by omega) hg.b.size fun v' w2 own2 g2 => ⟨hg.grown hl g2 rfl rfl (by simp), .inr (.inl ⟨rfl, g2⟩), ⟨a, c, own2, hls.typed g2.size (fun hb ht => hg.typed hl g2 hb ht)⟩⟩
          refine StepsA.cons (fun L vs w1 hl hdl hg hd2 => ?_) ?_
          · refine opTo_of (by kernel_rfl) (fun K hK => ?_)
            go_simp
            exact hK.out (.pointer (some ⟨w.heap.size + 1 + 1, 6, none⟩)) _ _ (by kernel_rfl) ⟨hg.kept (Below.refl _ _) rfl rfl (by simp), .inl (Below.refl _ _), rfl⟩
          refine StepsA.cons (fun L vs w1 hl hdl hg hd2 => ?_) ?_
          · have e0 : vs 18 = .pointer (some ⟨w.heap.size + 1 + 1, 6, none⟩) := hd2 18 (by decide)
            obtain ⟨a, c, own2, hls⟩ := hd2 17 (by decide)
            obtain ⟨a4, c4, e1⟩ := own_slice own2
            have e1 : vs 17 = .slice a4 (j + 1) c4 := e1
            rw [e1] at own2
            obtain ⟨v6, hc, -⟩ := hg.c
            have f3 : w1.cell? ⟨w.heap.size + 1 + 1, 6, none⟩ = some v6 := hc.cell 6
            have z3 := hc.frozen 6
            have hlt3 := hc.lt
            refine opTo_of (by kernel_rfl) (fun K hK => ?_)
            go_simp
            exact hK.out undef _ _ (by simp only [e0, e1]; kernel_rfl) ⟨hg.poke (hdl 17 (by decide)) rfl rfl (by simp [hdl 1 (by decide)]), .inr (.inr ⟨rfl, _, rfl⟩), ⟨_, a, c, (hc.set_ 6 _).cell 6, own_setc own2 hc (by decide) _, hls.poke hc 6 _⟩⟩
          exact StepsA.nil
        case fin =>
          intro L vs w1 hL1 hg hT
          obtain ⟨u, a, c, x6, own6, ol6⟩ := hT 19 (by decide)
          have HK1 := Lib.hid (dg_done hg HX.out.2.1 x6 own6 ol6)
          clear hg hT x6 own6 ol6 HK
          go_wp2_with fail
          go_roundw
          case rel => exact ⟨j + 1, _, u, by omega, by go_num, HK1.out⟩
          case measure => simp [intOf]; omega
      · have hje : j = e.deals.length := by omega
        have HK := Lib.hid K1
        have hnI : decide ((j : Int) < (e.deals.length : Int)) = false := decide_eq_false (by omega)
        obtain ⟨a4, c4, rfl⟩ := own_slice K1.own
        obtain ⟨r0, r1, r2, r3, r4, r5, r6⟩ := K1.r.seven
        obtain ⟨y0, y1, y2, y3, y4, y5, y6⟩ := K1.r.seven_f
        obtain ⟨u0, u1, u2, u3, u4, u5, u6⟩ := K1.c.seven
        subst hje
        clear K1
        go_wp2_with fail
        refine bodyPost_ret (v := .agg #[.int .u8 e.k, .int .i64 e.id, .int .i64 e.ep, .slice a1 e.x.length c1, .slice a2 e.coms.length c2, .slice a3 e.next.length c3, .slice a4 e.deals.length c4]) (by simp [results, Try.results110, go_sem, r0, r1, r2, r3, r4, r5, r6]) rfl ?_
        exact cl_end HK.out
end Go.Proofs.Ytdnkijljpmcejaa
