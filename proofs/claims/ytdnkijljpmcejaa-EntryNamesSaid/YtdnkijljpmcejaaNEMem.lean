/-
  Lists and entries that a law lays itself: made, or written out; rows of entries.
-/
import Derived.Test.YtdnkijljpmcejaaNEPlain
import Derived.Test.YtdnkijljpmcejaaECopy
import Derived.Test.YtdnkijljpmcejaaESame
import Derived.Test.YtdnkijljpmcejaaERSame2
import Derived.Test.YtdnkijljpmcejaaRInv
import Derived.Great.BuildSlice
namespace Go.Proofs.Ytdnkijljpmcejaa
open Go.RowKit

theorem fill_eq {f : Nat → Option (Nat × Nat)} {zc : Array Value} {ps L : List (Nat × Value)} {cells : Array Value} (h1 : ps = L) (h2 : Instr.fill f zc L = some cells) : Instr.fill f zc ps = some cells := h1 ▸ h2
/-- A row that is written out, at any operation. -/
theorem opTo_row {P : Program} {ops : Array Oper} {o : Oper} {a : Act} {w : World} {K : Value → World → Prop} (hgd : o.guard = none) (t e : TypeId) (len : Nat) (parts : Array (Nat × Operand)) (ho : o.op = .buildSlice t len parts)
    (cells : Array Value) (ie : TypeInfo) (z : Value) (size : Nat) (hu : P.underlying t = some (.slice e)) (hie : P.info? e = some ie) (hz : ie.zero = some z) (hsize : ie.size = size) (hsmall : ¬ len * size > 2 ^ 24) (hpos : ¬ len * size = 0)
    (hf : Instr.fill (fun i => some (i * size, size)) ((Array.range (len * size)).map (z.cells[· % z.cells.size]!)) (parts.map fun (i, x) => (i, a.eval x)).toList = some cells)
    (h : K (.slice (some ⟨w.heap.size, 0, none⟩) len len) (w.alloc (.cells cells e))) : OpTo P ops o a w K := by
  subst hsize
  have hw : Region.wanted o (yielded ops a.tmps) = true := by simp [Region.wanted, hgd]
  exact opTo_of hw fun K' hK => wp_buildSlice t e len parts ho cells ie z hu hie hz hsmall hpos hf (hK.out _ _ _ rfl h)
theorem infoEn : (Try.prog.info? 55).map (fun i => (i.zero, i.size, i.bytes)) = some (some (.agg #[.int .u8 0, .int .i64 0, .int .i64 0, .slice none 0 0, .slice none 0 0, .slice none 0 0, .slice none 0 0]), 7, 120) := by kernel_rfl
theorem made_one (z : Value) (hz : z.cells = #[z]) (n : Nat) : madeCells z.cells (n * 1) = Array.replicate n z := by
  apply Array.ext
  · simp [madeCells]
  · intro i h1 h2
    simp [madeCells, hz, Nat.mod_one]
section
variable {w w' : World}
theorem mk_i64 (n : Nat) (hn : n ≤ 9000) (w : World) : (Instr.makeSlice 51 (.int .i64 n) (.int .i64 n)).run Try.prog w = .ok (.slice (some ⟨w.heap.size, 0, none⟩) n n) (w.alloc (.cells (Array.replicate n (.int .i64 0)) 2)) := by
  obtain ⟨i0, hi, hz0, hz1, hz2⟩ := info_parts infoI64
  have h := run_make (P := Try.prog) w 51 2 i0 (.int .i64 0) Try.underlying51 hi hz0 .i64 .i64 n n (by omega) (by omega) (by rw [hz2]; omega) (by omega)
  rw [hz1] at h
  simp only [Int.toNat_natCast] at h
  rw [made_one _ rfl] at h
  exact h
theorem mk_int (n : Nat) (hn : n ≤ 9000) (w : World) : (Instr.makeSlice 40 (.int .i64 n) (.int .i64 n)).run Try.prog w = .ok (.slice (some ⟨w.heap.size, 0, none⟩) n n) (w.alloc (.cells (Array.replicate n (.int .i64 0)) 3)) := by
  obtain ⟨i0, hi, hz0, hz1, hz2⟩ := info_parts infoInt
  have h := run_make (P := Try.prog) w 40 3 i0 (.int .i64 0) Try.underlying40 hi hz0 .i64 .i64 n n (by omega) (by omega) (by rw [hz2]; omega) (by omega)
  rw [hz1] at h
  simp only [Int.toNat_natCast] at h
  rw [made_one _ rfl] at h
  exact h
theorem mk_u64 (n : Nat) (hn : n ≤ 9000) (w : World) : (Instr.makeSlice 23 (.int .i64 n) (.int .i64 n)).run Try.prog w = .ok (.slice (some ⟨w.heap.size, 0, none⟩) n n) (w.alloc (.cells (Array.replicate n (.int .u64 0)) 22)) := by
  obtain ⟨i0, hi, hz0, hz1, hz2⟩ := info_parts info64
  have h := run_make (P := Try.prog) w 23 22 i0 (.int .u64 0) Try.underlying23 hi hz0 .i64 .i64 n n (by omega) (by omega) (by rw [hz2]; omega) (by omega)
  rw [hz1] at h
  simp only [Int.toNat_natCast] at h
  rw [made_one _ rfl] at h
  exact h
theorem mk_lst (n : Nat) (hn : n ≤ 9000) (w : World) : (Instr.makeSlice 52 (.int .i64 n) (.int .i64 n)).run Try.prog w = .ok (.slice (some ⟨w.heap.size, 0, none⟩) n n) (w.alloc (.cells (Array.replicate n (.slice none 0 0)) 23)) := by
  obtain ⟨i0, hi, hz0, hz1, hz2⟩ := info_parts infoLst
  have h := run_make (P := Try.prog) w 52 23 i0 (.slice none 0 0) Try.underlying52 hi hz0 .i64 .i64 n n (by omega) (by omega) (by rw [hz2]; omega) (by omega)
  rw [hz1] at h
  simp only [Int.toNat_natCast] at h
  rw [made_one _ rfl] at h
  exact h
/-- What was dealt, made. -/
def dlsZ (n : Nat) : Array Value := madeCells (Value.agg #[.int .i64 0, .slice none 0 0]).cells (n * 2)
theorem dlsZ_at (n i : Nat) (hi : i < n) : (dlsZ n)[i * 2]? = some (.int .i64 0) ∧ (dlsZ n)[i * 2 + 1]? = some (.slice none 0 0) := by
  have e : (Value.agg #[.int .i64 0, .slice none 0 0]).cells = #[.int .i64 0, .slice none 0 0] := rfl
  unfold dlsZ madeCells
  rw [e]
  constructor
  · rw [Array.getElem?_map, Array.getElem?_range, if_pos (by omega)]
    simp
  · rw [Array.getElem?_map, Array.getElem?_range, if_pos (by omega)]
    have : (i * 2 + 1) % 2 = 1 := by omega
    simp [this]
theorem mk_dls (n : Nat) (hn : n ≤ 9000) (w : World) : (Instr.makeSlice 53 (.int .i64 n) (.int .i64 n)).run Try.prog w = .ok (.slice (some ⟨w.heap.size, 0, none⟩) n n) (w.alloc (.cells (dlsZ n) 58)) := by
  obtain ⟨i0, hi, hz0, hz1, hz2⟩ := info_parts infoDl
  have h := run_make (P := Try.prog) w 53 58 i0 (.agg #[.int .i64 0, .slice none 0 0]) Try.underlying53 hi hz0 .i64 .i64 n n (by omega) (by omega) (by rw [hz2]; omega) (by omega)
  rw [hz1] at h
  simp only [Int.toNat_natCast] at h
  exact h
/-- What a new block holds. -/
theorem nums_lay (k : IntKind) (t : TypeId) (w : World) (l : List Int) (cs : Array Value) (hc : ∀ (i : Nat) x, l[i]? = some x → cs[i]? = some (.int k x)) : Nums k (w.alloc (.cells cs t)) (w.alloc (.cells cs t)).heap.size (some ⟨w.heap.size, 0, none⟩) l :=
  .inr ⟨w.heap.size, 0, rfl, by simp, fun i x hx => by rw [Nat.zero_add, (Blk.new w t cs).cell i]; exact hc i x hx⟩
theorem rep_at {α : Type} {n i : Nat} {a x : α} (h : (List.replicate n a)[i]? = some x) : i < n ∧ x = a := by
  have hi : i < n := by have := (List.getElem?_eq_some_iff.1 h).1; simpa using this
  exact ⟨hi, List.eq_of_mem_replicate (List.mem_of_getElem? h)⟩
theorem nums_zeros (k : IntKind) (t : TypeId) (w : World) (n : Nat) : Nums k (w.alloc (.cells (Array.replicate n (.int k 0)) t)) (w.alloc (.cells (Array.replicate n (.int k 0)) t)).heap.size (some ⟨w.heap.size, 0, none⟩) (List.replicate n 0) :=
  nums_lay k t w _ _ fun i x hx => by
    obtain ⟨hi, rfl⟩ := rep_at hx
    simp [hi]
theorem nums_lit (k : IntKind) (t : TypeId) (w : World) (l : List Int) (cs : Array Value) (hc : cs = (l.map (Value.int k)).toArray) : Nums k (w.alloc (.cells cs t)) (w.alloc (.cells cs t)).heap.size (some ⟨w.heap.size, 0, none⟩) l := by
  subst hc
  exact nums_lay k t w l _ fun i x hx => by simp [hx]
theorem lst_nils (w : World) (n : Nat) : NLst (w.alloc (.cells (Array.replicate n (.slice none 0 0)) 23)) (w.alloc (.cells (Array.replicate n (.slice none 0 0)) 23)).heap.size (some ⟨w.heap.size, 0, none⟩) (List.replicate n []) :=
  .inr ⟨w.heap.size, 0, rfl, by simp, fun i l hl => by
    obtain ⟨hi, rfl⟩ := rep_at hl
    refine ⟨none, 0, ?_, .inl rfl⟩
    rw [Nat.zero_add, (Blk.new w _ _).cell i]
    simp [hi]⟩
/-- Lists, written out: where each lies. -/
theorem lst_lit (w : World) (L : List (List Int × Option Addr × Nat)) (cs : Array Value) (hc : cs = (L.map fun t => Value.slice t.2.1 t.1.length t.2.2).toArray) (hn : ∀ t ∈ L, Nums .u64 w w.heap.size t.2.1 t.1) : NLst (w.alloc (.cells cs 23)) (w.alloc (.cells cs 23)).heap.size (some ⟨w.heap.size, 0, none⟩) (L.map (·.1)) := by
  subst hc
  refine .inr ⟨w.heap.size, 0, rfl, by simp, fun i l hl => ?_⟩
  rw [List.getElem?_map] at hl
  cases ht : L[i]? with
  | none => rw [ht] at hl; simp at hl
  | some t =>
    rw [ht] at hl
    simp only [Option.map_some, Option.some.injEq] at hl
    subst hl
    refine ⟨t.2.1, t.2.2, ?_, ((hn t (List.mem_of_getElem? ht)).kept ((Below.refl _ w).alloc (Nat.le_refl _) _) (Nat.le_refl _)).more (by simp)⟩
    rw [Nat.zero_add, (Blk.new w _ _).cell i]
    simp [ht]
theorem dls_nils (w : World) (n : Nat) : NDls (w.alloc (.cells (dlsZ n) 58)) (w.alloc (.cells (dlsZ n) 58)).heap.size (some ⟨w.heap.size, 0, none⟩) (List.replicate n (0, [])) :=
  .inr ⟨w.heap.size, 0, rfl, by simp, fun i d hd => by
    obtain ⟨hi, rfl⟩ := rep_at hd
    obtain ⟨h1, h2⟩ := dlsZ_at n i hi
    refine ⟨none, 0, ?_, ?_, .inl rfl⟩
    · rw [Nat.zero_add, (Blk.new w _ _).cell]
      exact h1
    · rw [Nat.zero_add, (Blk.new w _ _).cell]
      exact h2⟩
theorem dls_one (w : World) (n : Int) (ls : List (List Int)) (a : Option Addr) (c : Nat) (hn : NLst w w.heap.size a ls) (cs : Array Value) (hc : cs = #[.int .i64 n, .slice a ls.length c]) : NDls (w.alloc (.cells cs 58)) (w.alloc (.cells cs 58)).heap.size (some ⟨w.heap.size, 0, none⟩) [(n, ls)] := by
  subst hc
  refine .inr ⟨w.heap.size, 0, rfl, by simp, fun i d hd => ?_⟩
  have hi : i = 0 := by
    have := (List.getElem?_eq_some_iff.1 hd).1
    simp at this
    omega
  subst hi
  obtain rfl : d = (n, ls) := by simpa using hd.symm
  exact ⟨a, c, (Blk.new w _ _).cell 0, (Blk.new w _ _).cell 1, (hn.kept ((Below.refl _ w).alloc (Nat.le_refl _) _) (Nat.le_refl _)).more (by simp)⟩
/-- What an operation of a literal comes to. -/
def NumV (k : IntKind) (n : Nat) (l : List Int) (v : Value) (w : World) : Prop := ∃ q, v = .slice (some ⟨q, 0, none⟩) n n ∧ Nums k w w.heap.size (some ⟨q, 0, none⟩) l
def LstV (n : Nat) (ls : List (List Int)) (v : Value) (w : World) : Prop := ∃ q, v = .slice (some ⟨q, 0, none⟩) n n ∧ NLst w w.heap.size (some ⟨q, 0, none⟩) ls
def DlsV (n : Nat) (ds : List Dl) (v : Value) (w : World) : Prop := ∃ q, v = .slice (some ⟨q, 0, none⟩) n n ∧ NDls w w.heap.size (some ⟨q, 0, none⟩) ds
def DlV (n : Nat) (ls : List (List Int)) (v : Value) (w : World) : Prop := ∃ a, v = .agg #[.int .i64 0, .slice a n n] ∧ NLst w w.heap.size a ls
def EntV (e : En) (v : Value) (w : World) : Prop := ∃ p, v = e.val p ∧ NEn w w.heap.size e p
/-- A row of entries. -/
def eflat : List (En × Ad) → List Value
  | [] => []
  | t :: l => [.int .u8 t.1.k, .int .i64 t.1.id, .int .i64 t.1.ep, .slice t.2.a1 t.1.x.length t.2.c1, .slice t.2.a2 t.1.coms.length t.2.c2, .slice t.2.a3 t.1.next.length t.2.c3, .slice t.2.a4 t.1.deals.length t.2.c4] ++ eflat l
def EntAt (w : World) (b o : Nat) (e : En) (p : Ad) : Prop := w.cell? ⟨b, o, none⟩ = some (.int .u8 e.k) ∧ w.cell? ⟨b, o + 1, none⟩ = some (.int .i64 e.id) ∧ w.cell? ⟨b, o + 2, none⟩ = some (.int .i64 e.ep) ∧ w.cell? ⟨b, o + 3, none⟩ = some (.slice p.a1 e.x.length p.c1) ∧ w.cell? ⟨b, o + 4, none⟩ = some (.slice p.a2 e.coms.length p.c2) ∧ w.cell? ⟨b, o + 5, none⟩ = some (.slice p.a3 e.next.length p.c3) ∧ w.cell? ⟨b, o + 6, none⟩ = some (.slice p.a4 e.deals.length p.c4)
def RowE (w : World) (q : Nat) (L : List En) : Prop := ∃ ps : List (En × Ad), ps.map (·.1) = L ∧ Blk w q 55 (eflat ps).toArray ∧ ∀ t ∈ ps, NEn w w.heap.size t.1 t.2
theorem eflat_at : ∀ {ps : List (En × Ad)} {i : Nat} {t : En × Ad}, ps[i]? = some t → ∀ j, j < 7 → (eflat ps)[i * 7 + j]? = ([.int .u8 t.1.k, .int .i64 t.1.id, .int .i64 t.1.ep, .slice t.2.a1 t.1.x.length t.2.c1, .slice t.2.a2 t.1.coms.length t.2.c2, .slice t.2.a3 t.1.next.length t.2.c3, .slice t.2.a4 t.1.deals.length t.2.c4] : List Value)[j]?
  | x :: l, 0, t, h, j, hj => by
    obtain rfl : x = t := by simpa using h
    rw [eflat, Nat.zero_mul, Nat.zero_add, List.getElem?_append_left (by simpa using hj)]
  | x :: l, i + 1, t, h, j, hj => by
    have h' : l[i]? = some t := by simpa using h
    rw [eflat, List.getElem?_append_right (by simp; omega)]
    have e : (i + 1) * 7 + j - ([.int .u8 x.1.k, .int .i64 x.1.id, .int .i64 x.1.ep, .slice x.2.a1 x.1.x.length x.2.c1, .slice x.2.a2 x.1.coms.length x.2.c2, .slice x.2.a3 x.1.next.length x.2.c3, .slice x.2.a4 x.1.deals.length x.2.c4] : List Value).length = i * 7 + j := by
      simp only [List.length_cons, List.length_nil]
      omega
    rw [e]
    exact eflat_at h' j hj
theorem RowE.at {q : Nat} {L : List En} (h : RowE w q L) {i : Nat} {e : En} (he : L[i]? = some e) : ∃ p, EntAt w q (i * 7) e p ∧ NEn w w.heap.size e p := by
  obtain ⟨ps, h1, h2, h3⟩ := h
  rw [← h1, List.getElem?_map] at he
  cases ht : ps[i]? with
  | none => rw [ht] at he; simp at he
  | some t =>
    rw [ht] at he
    simp only [Option.map_some, Option.some.injEq] at he
    subst he
    have c : ∀ j, j < 7 → w.cell? ⟨q, i * 7 + j, none⟩ = ([.int .u8 t.1.k, .int .i64 t.1.id, .int .i64 t.1.ep, .slice t.2.a1 t.1.x.length t.2.c1, .slice t.2.a2 t.1.coms.length t.2.c2, .slice t.2.a3 t.1.next.length t.2.c3, .slice t.2.a4 t.1.deals.length t.2.c4] : List Value)[j]? := fun j hj => by
      rw [h2.cell, List.getElem?_toArray]
      exact eflat_at ht j hj
    exact ⟨t.2, ⟨c 0 (by decide), c 1 (by decide), c 2 (by decide), c 3 (by decide), c 4 (by decide), c 5 (by decide), c 6 (by decide)⟩, h3 t (List.mem_of_getElem? ht)⟩
theorem RowE.kept {q : Nat} {L : List En} (h : RowE w q L) (b : Below w.heap.size w w') : RowE w' q L := by
  obtain ⟨ps, h1, h2, h3⟩ := h
  exact ⟨ps, h1, h2.kept b, fun t ht => (h3 t ht).step b⟩
theorem EntAt.kept {q o : Nat} {e : En} {p : Ad} (h : EntAt w q o e p) (b : Below w.heap.size w w') : EntAt w' q o e p := by
  obtain ⟨f0, f1, f2, f3, f4, f5, f6⟩ := h
  exact ⟨cell_keep f0 b, cell_keep f1 b, cell_keep f2 b, cell_keep f3 b, cell_keep f4 b, cell_keep f5 b, cell_keep f6 b⟩
theorem rowE_new (w : World) (ps : List (En × Ad)) (hn : ∀ t ∈ ps, NEn w w.heap.size t.1 t.2) (cs : Array Value) (hc : cs = (eflat ps).toArray) (L : List En) (hL : ps.map (·.1) = L) : RowE (w.alloc (.cells cs 55)) w.heap.size L := by
  subst hc
  exact ⟨ps, hL, Blk.new w _ _, fun t ht => (hn t ht).step ((Below.refl _ w).alloc (Nat.le_refl _) _)⟩
theorem NumV.kept {k : IntKind} {n : Nat} {l : List Int} {v : Value} (h : NumV k n l v w) (b : Below w.heap.size w w') : NumV k n l v w' := h.elim fun q x => ⟨q, x.1, (x.2.kept b (Nat.le_refl _)).more b.size⟩
theorem LstV.kept {n : Nat} {l : List (List Int)} {v : Value} (h : LstV n l v w) (b : Below w.heap.size w w') : LstV n l v w' := h.elim fun q x => ⟨q, x.1, (x.2.kept b (Nat.le_refl _)).more b.size⟩
theorem DlsV.kept {n : Nat} {l : List Dl} {v : Value} (h : DlsV n l v w) (b : Below w.heap.size w w') : DlsV n l v w' := h.elim fun q x => ⟨q, x.1, (x.2.kept b (Nat.le_refl _)).more b.size⟩
theorem DlV.kept {n : Nat} {l : List (List Int)} {v : Value} (h : DlV n l v w) (b : Below w.heap.size w w') : DlV n l v w' := h.elim fun q x => ⟨q, x.1, (x.2.kept b (Nat.le_refl _)).more b.size⟩
theorem EntV.kept {e : En} {v : Value} (h : EntV e v w) (b : Below w.heap.size w w') : EntV e v w' := h.elim fun q x => ⟨q, x.1, x.2.step b⟩
theorem nen_nil {k id ep : Int} : NEn w w.heap.size ⟨k, id, ep, [], [], [], []⟩ ⟨none, 0, none, 0, none, 0, none, 0⟩ := ⟨.inl rfl, .inl rfl, .inl rfl, .inl rfl⟩
end
end Go.Proofs.Ytdnkijljpmcejaa
