/-
  Entries in memory: as they come in (they are read alone), and as the program lays them (in blocks of their own).
-/
import Derived.Test.YtdnkijljpmcejaaWrite
import Derived.Test.YtdnkijljpmcejaaEnPlain
namespace Go.Proofs.Ytdnkijljpmcejaa
open Go.RowKit

/-- Numbers in a block of their type, from lo on and below hi. -/
def Row (k : IntKind) (t : TypeId) (lo hi : Nat) (w : World) (a : Option Addr) (l : List Int) : Prop :=
  l = [] ∨ ∃ q cur, a = some ⟨q, 0, none⟩ ∧ lo ≤ q ∧ q < hi ∧ Blk w q t cur ∧ ∀ (i : Nat) x, l[i]? = some x → cur[i]? = some (.int k x)
section
variable {k : IntKind} {t : TypeId} {lo hi : Nat} {w w' : World} {a : Option Addr} {l : List Int}
theorem Row.kept (h : Row k t lo hi w a l) (K : ∀ q cur, lo ≤ q → q < hi → Blk w q t cur → Blk w' q t cur) : Row k t lo hi w' a l := by
  rcases h with h | ⟨q, cur, ha, h1, h2, hb, hc⟩
  · exact .inl h
  · exact .inr ⟨q, cur, ha, h1, h2, K q cur h1 h2 hb, hc⟩
theorem Row.more {lo' hi' : Nat} (h : Row k t lo hi w a l) (h1 : lo' ≤ lo) (h2 : hi ≤ hi') : Row k t lo' hi' w a l := by
  rcases h with h | ⟨q, cur, ha, g1, g2, hb, hc⟩
  · exact .inl h
  · exact .inr ⟨q, cur, ha, by omega, by omega, hb, hc⟩
theorem Row.nums (h : Row k t lo hi w a l) : Nums k w hi a l := by
  rcases h with h | ⟨q, cur, ha, h1, h2, hb, hc⟩
  · exact .inl h
  · exact .inr ⟨q, 0, ha, h2, fun i x hx => by rw [Nat.zero_add, hb.cell i]; exact hc i x hx⟩
theorem own_take {base n c : Nat} {e : TypeId} {size : Nat} {xs : List Value} (h : w.ownsRow base e size (.slice a n c) n xs) : xs = [] ∨ ∃ q cur, a = some ⟨q, 0, none⟩ ∧ base ≤ q ∧ q < w.heap.size ∧ Blk w q e cur ∧ ∀ (i : Nat) x, xs[i]? = some x → cur[i]? = some x := by
  rcases h.2 with ⟨e1, e2⟩ | ⟨g, cap, cur, e1, h1, h2, h3, h4, h5, h6⟩
  · refine .inl (List.length_eq_zero_iff.1 ?_)
    rw [h.1, e2, Nat.zero_mul]
  · injection e1 with ea en ec
    refine .inr ⟨g, cur, ea, h1, lt_of_block h2, h2, fun i x hx => ?_⟩
    have hi : i < xs.length := (List.getElem?_eq_some_iff.1 hx).1
    have hl := h.1
    have e2 : (cur.toList.take (n * size))[i]? = some x := by rw [h6]; exact hx
    rw [List.getElem?_take_of_lt (by omega), Array.getElem?_toList] at e2
    exact e2
theorem Row.of_own {base n c : Nat} (h : w.ownsRow base t 1 (.slice a n c) n (l.map (.int k))) : Row k t base w.heap.size w a l := by
  rcases own_take h with h0 | ⟨q, cur, e1, h1, h2, h3, h4⟩
  · exact .inl (by simpa using h0)
  · exact .inr ⟨q, cur, e1, h1, h2, h3, fun i x hx => h4 i _ (by simp [hx])⟩
end

/-- Lists that came in; what was dealt, that came in. -/
def NLst (w : World) (B : Nat) (a : Option Addr) (ls : List (List Int)) : Prop :=
  ls = [] ∨ ∃ b o, a = some ⟨b, o, none⟩ ∧ b < B ∧ ∀ (i : Nat) l, ls[i]? = some l → ∃ a' c', w.cell? ⟨b, o + i, none⟩ = some (.slice a' (l : List Int).length c') ∧ Nums .u64 w B a' l
def NDls (w : World) (B : Nat) (a : Option Addr) (ds : List Dl) : Prop :=
  ds = [] ∨ ∃ b o, a = some ⟨b, o, none⟩ ∧ b < B ∧ ∀ (i : Nat) d, ds[i]? = some d → ∃ a' c', w.cell? ⟨b, o + i * 2, none⟩ = some (.int .i64 d.1) ∧ w.cell? ⟨b, o + i * 2 + 1, none⟩ = some (.slice a' d.2.length c') ∧ NLst w B a' d.2
/-- Where an entry's lists lie. -/
structure Ad where
  a1 : Option Addr
  c1 : Nat
  a2 : Option Addr
  c2 : Nat
  a3 : Option Addr
  c3 : Nat
  a4 : Option Addr
  c4 : Nat
def En.val (e : En) (p : Ad) : Value := .agg #[.int .u8 e.k, .int .i64 e.id, .int .i64 e.ep, .slice p.a1 e.x.length p.c1, .slice p.a2 e.coms.length p.c2, .slice p.a3 e.next.length p.c3, .slice p.a4 e.deals.length p.c4]
def En.cells (e : En) (p : Ad) : Array Value := #[.int .u8 e.k, .int .i64 e.id, .int .i64 e.ep, .slice p.a1 e.x.length p.c1, .slice p.a2 e.coms.length p.c2, .slice p.a3 e.next.length p.c3, .slice p.a4 e.deals.length p.c4]
structure NEn (w : World) (B : Nat) (e : En) (p : Ad) : Prop where
  x : Nums .i64 w B p.a1 e.x
  coms : NLst w B p.a2 e.coms
  next : Nums .i64 w B p.a3 e.next
  deals : NDls w B p.a4 e.deals
section
variable {w w' : World} {B B' : Nat} {a : Option Addr} {ls : List (List Int)} {ds : List Dl} {e : En} {p : Ad}
theorem NLst.kept (h : NLst w B a ls) (hb : Below B' w w') (hB : B ≤ B') : NLst w' B a ls := by
  rcases h with h | ⟨b, o, ha, hlt, hc⟩
  · exact .inl h
  · exact .inr ⟨b, o, ha, hlt, fun i l hl => by
      obtain ⟨a', c', h1, h2⟩ := hc i l hl
      exact ⟨a', c', (hb.cell (p := ⟨b, o + i, none⟩) (by show b < B'; omega)).trans h1, h2.kept hb hB⟩⟩
theorem NLst.more (h : NLst w B a ls) (hB : B ≤ B') : NLst w B' a ls := by
  rcases h with h | ⟨b, o, ha, hlt, hc⟩
  · exact .inl h
  · exact .inr ⟨b, o, ha, by omega, fun i l hl => by
      obtain ⟨a', c', h1, h2⟩ := hc i l hl
      exact ⟨a', c', h1, h2.more hB⟩⟩
theorem NDls.kept (h : NDls w B a ds) (hb : Below B' w w') (hB : B ≤ B') : NDls w' B a ds := by
  rcases h with h | ⟨b, o, ha, hlt, hc⟩
  · exact .inl h
  · exact .inr ⟨b, o, ha, hlt, fun i l hl => by
      obtain ⟨a', c', h0, h1, h2⟩ := hc i l hl
      exact ⟨a', c', (hb.cell (p := ⟨b, o + i * 2, none⟩) (by show b < B'; omega)).trans h0, (hb.cell (p := ⟨b, o + i * 2 + 1, none⟩) (by show b < B'; omega)).trans h1, h2.kept hb hB⟩⟩
theorem NDls.more (h : NDls w B a ds) (hB : B ≤ B') : NDls w B' a ds := by
  rcases h with h | ⟨b, o, ha, hlt, hc⟩
  · exact .inl h
  · exact .inr ⟨b, o, ha, by omega, fun i l hl => by
      obtain ⟨a', c', h0, h1, h2⟩ := hc i l hl
      exact ⟨a', c', h0, h1, h2.more hB⟩⟩
theorem NEn.kept (h : NEn w B e p) (hb : Below B' w w') (hB : B ≤ B') : NEn w' B e p := ⟨h.x.kept hb hB, h.coms.kept hb hB, h.next.kept hb hB, h.deals.kept hb hB⟩
theorem NEn.more (h : NEn w B e p) (hB : B ≤ B') : NEn w B' e p := ⟨h.x.more hB, h.coms.more hB, h.next.more hB, h.deals.more hB⟩
/-- The same at the next world. -/
theorem NEn.step (h : NEn w w.heap.size e p) (hb : Below w.heap.size w w') : NEn w' w'.heap.size e p := (h.kept hb (Nat.le_refl _)).more hb.size
theorem NLst.step (h : NLst w w.heap.size a ls) (hb : Below w.heap.size w w') : NLst w' w'.heap.size a ls := (h.kept hb (Nat.le_refl _)).more hb.size
theorem NDls.step (h : NDls w w.heap.size a ds) (hb : Below w.heap.size w w') : NDls w' w'.heap.size a ds := (h.kept hb (Nat.le_refl _)).more hb.size
theorem Nums.step {k : IntKind} {l : List Int} (h : Nums k w w.heap.size a l) (hb : Below w.heap.size w w') : Nums k w' w'.heap.size a l := (h.kept hb (Nat.le_refl _)).more hb.size
end

/-- Lists in blocks of their own; what was dealt, so. -/
def OLst (lo hi : Nat) (w : World) (a : Option Addr) (ls : List (List Int)) : Prop :=
  ls = [] ∨ ∃ q cur, a = some ⟨q, 0, none⟩ ∧ lo ≤ q ∧ q < hi ∧ Blk w q 23 cur ∧ ∀ (i : Nat) l, ls[i]? = some l → ∃ a' c', cur[i]? = some (.slice a' (l : List Int).length c') ∧ Row .u64 22 lo hi w a' l
def ODls (lo hi : Nat) (w : World) (a : Option Addr) (ds : List Dl) : Prop :=
  ds = [] ∨ ∃ q cur, a = some ⟨q, 0, none⟩ ∧ lo ≤ q ∧ q < hi ∧ Blk w q 58 cur ∧ ∀ (i : Nat) d, ds[i]? = some d → ∃ a' c', cur[i * 2]? = some (.int .i64 d.1) ∧ cur[i * 2 + 1]? = some (.slice a' d.2.length c') ∧ OLst lo hi w a' d.2
structure OEn (lo hi : Nat) (w : World) (e : En) (p : Ad) : Prop where
  x : Row .i64 2 lo hi w p.a1 e.x
  coms : OLst lo hi w p.a2 e.coms
  next : Row .i64 3 lo hi w p.a3 e.next
  deals : ODls lo hi w p.a4 e.deals
/-- The blocks of five types stand. -/
def Five (t : TypeId) : Prop := t = 22 ∨ t = 23 ∨ t = 58 ∨ t = 2 ∨ t = 3
def Kp (lo hi : Nat) (w w' : World) : Prop := ∀ q t cur, Five t → lo ≤ q → q < hi → Blk w q t cur → Blk w' q t cur
section
variable {lo hi : Nat} {w w' w'' : World} {a : Option Addr} {ls : List (List Int)} {ds : List Dl} {e : En} {p : Ad}
theorem Kp.of_below {B : Nat} (h : Below B w w') (hB : hi ≤ B) : Kp lo hi w w' := fun _ _ _ _ _ hq hb => hb.below h (Nat.lt_of_lt_of_le hq hB)
theorem Kp.of_only {g : Nat} {t : TypeId} {cs : Array Value} (h : Only w w' g) (hg : Blk w g t cs) (ht : ¬ Five t) : Kp lo hi w w' :=
  fun _ _ _ h5 _ _ hb => hb.grown h (some_ne (Blk.ne_ hb hg (fun e => ht (e ▸ h5))))
theorem Kp.trans (h : Kp lo hi w w') (k : Kp lo hi w' w'') : Kp lo hi w w'' := fun q t cur h5 h1 h2 hb => k q t cur h5 h1 h2 (h q t cur h5 h1 h2 hb)
theorem Kp.row64 {l : List Int} (k : Kp lo hi w w') (h : Row .u64 22 lo hi w a l) : Row .u64 22 lo hi w' a l := h.kept fun q cur h1 h2 hb => k q _ cur (.inl rfl) h1 h2 hb
theorem Kp.rowx {l : List Int} (k : Kp lo hi w w') (h : Row .i64 2 lo hi w a l) : Row .i64 2 lo hi w' a l := h.kept fun q cur h1 h2 hb => k q _ cur (.inr (.inr (.inr (.inl rfl)))) h1 h2 hb
theorem Kp.rown {l : List Int} (k : Kp lo hi w w') (h : Row .i64 3 lo hi w a l) : Row .i64 3 lo hi w' a l := h.kept fun q cur h1 h2 hb => k q _ cur (.inr (.inr (.inr (.inr rfl)))) h1 h2 hb
theorem OLst.kept (h : OLst lo hi w a ls) (k : Kp lo hi w w') : OLst lo hi w' a ls := by
  rcases h with h | ⟨q, cur, ha, h1, h2, hb, hc⟩
  · exact .inl h
  · exact .inr ⟨q, cur, ha, h1, h2, k q _ cur (.inr (.inl rfl)) h1 h2 hb, fun i l hl => by
      obtain ⟨a', c', g1, g2⟩ := hc i l hl
      exact ⟨a', c', g1, k.row64 g2⟩⟩
theorem OLst.more {lo' hi' : Nat} (h : OLst lo hi w a ls) (h1 : lo' ≤ lo) (h2 : hi ≤ hi') : OLst lo' hi' w a ls := by
  rcases h with h | ⟨q, cur, ha, g1, g2, hb, hc⟩
  · exact .inl h
  · exact .inr ⟨q, cur, ha, by omega, by omega, hb, fun i l hl => by
      obtain ⟨a', c', k1, k2⟩ := hc i l hl
      exact ⟨a', c', k1, k2.more h1 h2⟩⟩
theorem OLst.nums (h : OLst lo hi w a ls) : NLst w hi a ls := by
  rcases h with h | ⟨q, cur, ha, h1, h2, hb, hc⟩
  · exact .inl h
  · exact .inr ⟨q, 0, ha, h2, fun i l hl => by
      obtain ⟨a', c', g1, g2⟩ := hc i l hl
      exact ⟨a', c', by rw [Nat.zero_add, hb.cell i]; exact g1, g2.nums⟩⟩
theorem ODls.kept (h : ODls lo hi w a ds) (k : Kp lo hi w w') : ODls lo hi w' a ds := by
  rcases h with h | ⟨q, cur, ha, h1, h2, hb, hc⟩
  · exact .inl h
  · exact .inr ⟨q, cur, ha, h1, h2, k q _ cur (.inr (.inr (.inl rfl))) h1 h2 hb, fun i l hl => by
      obtain ⟨a', c', g0, g1, g2⟩ := hc i l hl
      exact ⟨a', c', g0, g1, g2.kept k⟩⟩
theorem ODls.more {lo' hi' : Nat} (h : ODls lo hi w a ds) (h1 : lo' ≤ lo) (h2 : hi ≤ hi') : ODls lo' hi' w a ds := by
  rcases h with h | ⟨q, cur, ha, g1, g2, hb, hc⟩
  · exact .inl h
  · exact .inr ⟨q, cur, ha, by omega, by omega, hb, fun i l hl => by
      obtain ⟨a', c', k0, k1, k2⟩ := hc i l hl
      exact ⟨a', c', k0, k1, k2.more h1 h2⟩⟩
theorem ODls.nums (h : ODls lo hi w a ds) : NDls w hi a ds := by
  rcases h with h | ⟨q, cur, ha, h1, h2, hb, hc⟩
  · exact .inl h
  · exact .inr ⟨q, 0, ha, h2, fun i l hl => by
      obtain ⟨a', c', g0, g1, g2⟩ := hc i l hl
      exact ⟨a', c', by rw [Nat.zero_add, hb.cell]; exact g0, by rw [Nat.zero_add, hb.cell]; exact g1, g2.nums⟩⟩
theorem OEn.kept (h : OEn lo hi w e p) (k : Kp lo hi w w') : OEn lo hi w' e p := ⟨k.rowx h.x, h.coms.kept k, k.rown h.next, h.deals.kept k⟩
theorem OEn.more {lo' hi' : Nat} (h : OEn lo hi w e p) (h1 : lo' ≤ lo) (h2 : hi ≤ hi') : OEn lo' hi' w e p := ⟨h.x.more h1 h2, h.coms.more h1 h2, h.next.more h1 h2, h.deals.more h1 h2⟩
theorem OEn.nums (h : OEn lo hi w e p) : NEn w hi e p := ⟨h.x.nums, h.coms.nums, h.next.nums, h.deals.nums⟩
end

/-- Lists that are being gathered: their slices, in a row of the call's own. -/
def LAcc (lo hi : Nat) (w : World) (xs : List Value) (ls : List (List Int)) : Prop :=
  xs.length = ls.length ∧ ∀ (i : Nat) l, ls[i]? = some l → ∃ a' c', xs[i]? = some (.slice a' (l : List Int).length c') ∧ Row .u64 22 lo hi w a' l
def DAcc (lo hi : Nat) (w : World) (xs : List Value) (ds : List Dl) : Prop :=
  xs.length = ds.length * 2 ∧ ∀ (i : Nat) d, ds[i]? = some d → ∃ a' c', xs[i * 2]? = some (.int .i64 d.1) ∧ xs[i * 2 + 1]? = some (.slice a' d.2.length c') ∧ OLst lo hi w a' d.2
section
variable {lo hi : Nat} {w w' : World} {a : Option Addr} {xs : List Value} {ls : List (List Int)} {ds : List Dl}
theorem LAcc.nil : LAcc lo hi w [] [] := ⟨rfl, by simp⟩
theorem DAcc.nil : DAcc lo hi w [] [] := ⟨rfl, by simp⟩
theorem LAcc.kept (h : LAcc lo hi w xs ls) (k : Kp lo hi w w') : LAcc lo hi w' xs ls := ⟨h.1, fun i l hl => by
  obtain ⟨a', c', g1, g2⟩ := h.2 i l hl
  exact ⟨a', c', g1, k.row64 g2⟩⟩
theorem LAcc.more {hi' : Nat} (h : LAcc lo hi w xs ls) (h2 : hi ≤ hi') : LAcc lo hi' w xs ls := ⟨h.1, fun i l hl => by
  obtain ⟨a', c', g1, g2⟩ := h.2 i l hl
  exact ⟨a', c', g1, g2.more (Nat.le_refl _) h2⟩⟩
theorem DAcc.kept (h : DAcc lo hi w xs ds) (k : Kp lo hi w w') : DAcc lo hi w' xs ds := ⟨h.1, fun i l hl => by
  obtain ⟨a', c', g0, g1, g2⟩ := h.2 i l hl
  exact ⟨a', c', g0, g1, g2.kept k⟩⟩
theorem DAcc.more {hi' : Nat} (h : DAcc lo hi w xs ds) (h2 : hi ≤ hi') : DAcc lo hi' w xs ds := ⟨h.1, fun i l hl => by
  obtain ⟨a', c', g0, g1, g2⟩ := h.2 i l hl
  exact ⟨a', c', g0, g1, g2.more (Nat.le_refl _) h2⟩⟩
theorem LAcc.snoc (h : LAcc lo hi w xs ls) {a : Option Addr} {c : Nat} {l : List Int} (hr : Row .u64 22 lo hi w a l) : LAcc lo hi w (xs ++ [.slice a l.length c]) (ls ++ [l]) := by
  refine ⟨by simp [h.1], fun i m hm => ?_⟩
  rcases Nat.lt_or_ge i ls.length with hi | hi
  · rw [List.getElem?_append_left hi] at hm
    obtain ⟨a', c', g1, g2⟩ := h.2 i m hm
    exact ⟨a', c', by rw [List.getElem?_append_left (by rw [h.1]; exact hi)]; exact g1, g2⟩
  · have hin : i = ls.length := by
      have := (List.getElem?_eq_some_iff.1 hm).1
      simp at this
      omega
    subst hin
    have : m = l := by simpa using hm.symm
    subst this
    exact ⟨a, c, by rw [List.getElem?_append_right (by rw [h.1]; exact Nat.le_refl _), h.1]; simp, hr⟩
theorem DAcc.snoc (h : DAcc lo hi w xs ds) {a : Option Addr} {c : Nat} {d : Dl} (hr : OLst lo hi w a d.2) : DAcc lo hi w (xs ++ [.int .i64 d.1, .slice a d.2.length c]) (ds ++ [d]) := by
  refine ⟨by simp [h.1]; omega, fun i m hm => ?_⟩
  rcases Nat.lt_or_ge i ds.length with hi | hi
  · rw [List.getElem?_append_left hi] at hm
    obtain ⟨a', c', g0, g1, g2⟩ := h.2 i m hm
    exact ⟨a', c', by rw [List.getElem?_append_left (by rw [h.1]; omega)]; exact g0, by rw [List.getElem?_append_left (by rw [h.1]; omega)]; exact g1, g2⟩
  · have hin : i = ds.length := by
      have := (List.getElem?_eq_some_iff.1 hm).1
      simp at this
      omega
    subst hin
    have : m = d := by simpa using hm.symm
    subst this
    exact ⟨a, c, by rw [List.getElem?_append_right (by rw [h.1]; exact Nat.le_refl _), h.1]; simp, by rw [List.getElem?_append_right (by rw [h.1]; omega), h.1]; simp, hr⟩
theorem OLst.of_own {n c : Nat} (h : w.ownsRow lo 23 1 (.slice a n c) n xs) (hl : LAcc lo w.heap.size w xs ls) : OLst lo w.heap.size w a ls := by
  rcases own_take h with h0 | ⟨q, cur, e1, h1, h2, h3, h4⟩
  · refine .inl ?_
    have := hl.1
    rw [h0] at this
    exact List.length_eq_zero_iff.1 this.symm
  · exact .inr ⟨q, cur, e1, h1, h2, h3, fun i l hi => by
      obtain ⟨a', c', g1, g2⟩ := hl.2 i l hi
      exact ⟨a', c', h4 _ _ g1, g2⟩⟩
theorem ODls.of_own {n c : Nat} (h : w.ownsRow lo 58 2 (.slice a n c) n xs) (hl : DAcc lo w.heap.size w xs ds) : ODls lo w.heap.size w a ds := by
  rcases own_take h with h0 | ⟨q, cur, e1, h1, h2, h3, h4⟩
  · refine .inl ?_
    have := hl.1
    rw [h0] at this
    simp at this
    exact List.length_eq_zero_iff.1 (by omega)
  · exact .inr ⟨q, cur, e1, h1, h2, h3, fun i l hi => by
      obtain ⟨a', c', g0, g1, g2⟩ := hl.2 i l hi
      exact ⟨a', c', h4 _ _ g0, h4 _ _ g1, g2⟩⟩
end

/-- Behind an append to a row of the call's own: what stands in blocks of other types stands. -/
theorem Kp.of_own {lo hi base : Nat} {w w' : World} {v : Value} {e : TypeId} {size n : Nat} {xs : List Value} (h : w.ownsRow base e size v n xs) (k : w.grownBy w' v.ownBlock) {q : Nat} {t : TypeId} {cur : Array Value} (_ : lo ≤ q) (_ : q < hi) (hb : Blk w q t cur) (ht : e ≠ t) : Blk w' q t cur :=
  hb.grown k (own_ne' h hb ht)
/-- How long lists are at most, where a statement goes on. -/
structure En.Lim (e : En) : Prop where
  x : e.x.length ≤ 5000
  coms : e.coms.length ≤ 5000
  next : e.next.length ≤ 5000
  deals : e.deals.length ≤ 5000
  com : ∀ l ∈ e.coms, l.length ≤ 5000
  col : ∀ d ∈ e.deals, d.2.length ≤ 5000
  cols : ∀ d ∈ e.deals, ∀ l ∈ d.2, l.length ≤ 5000
end Go.Proofs.Ytdnkijljpmcejaa
