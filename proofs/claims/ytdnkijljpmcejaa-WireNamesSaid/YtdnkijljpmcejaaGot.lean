/-
  consistorylaw09.Thing: may, got, like.
-/
import Derived.Test.YtdnkijljpmcejaaThing
namespace Go.Proofs.Ytdnkijljpmcejaa
open Go.RowKit

theorem own_nums {w : World} {base : Nat} {a : Option Addr} {k : IntKind} {e : TypeId} {c : Nat} {xs : List Int} {n : Nat} (h : w.ownsRow base e 1 (.slice a n c) n (xs.map (.int k))) : Nums k w w.heap.size a xs := by
  by_cases h0 : xs = []
  · exact .inl h0
  rcases h.2 with ⟨_, rfl⟩ | ⟨g, cap, cur, hv, _, hh, _⟩
  · have := h.1
    simp at this
    exact .inl this
  · injection hv with ha _ _
    subst ha
    refine .inr ⟨g, 0, rfl, (Array.getElem?_eq_some_iff.1 hh).1, fun i x hx => ?_⟩
    have := h.cells (g := g) rfl i (.int k x) (by simp [hx])
    rw [Addr.add_lit] at this
    exact this

def Th.may (t : Th) : Bool := (t.k != 3 || decide (t.s.length ≤ 2048)) && (t.k != 4 || decide (t.l.length ≤ 1024)) && (decide (t.k < 5) || decide (t.n < 4611686018427387904))

def Th.got (t : Th) (st : RS) : Th × RS :=
  if t.k = 0 then (⟨0, (st.num 1).1, [], [], 0⟩, (st.num 1).2)
  else if t.k = 1 ∨ t.k = 2 then (⟨t.k, (st.num 8).1, [], [], 0⟩, (st.num 8).2)
  else if t.k = 3 then (⟨3, 0, st.text.1, [], 0⟩, st.text.2)
  else if t.k = 4 then (⟨4, 0, [], st.list.1, 0⟩, st.list.2)
  else (⟨t.k, (st.count 4611686018427387904).1, [], [], 0⟩, (st.count 4611686018427387904).2)

def GotPost (b : Nat) (t : Th) (st : RS) (w : World) (e : Ending) (w' : World) : Prop :=
  ∃ a c, e = .returned (.tuple #[(t.got st).1.val a c, .int .i64 (t.got st).2.e]) ∧ Nums .u64 w' w'.heap.size a (t.got st).1.l ∧ RdAt b (t.got st).2 w' ∧ Only w w' b

theorem ret_bool {x y : Bool} (h : x = y) : Ending.returned (.bool x) = .returned (.bool y) := by rw [h]
/-- A call that answers x and leaves what was there. -/
def BoolPost (x : Bool) (w : World) (e : Ending) (w' : World) : Prop := e = .returned (.bool x) ∧ Below w.heap.size w w'

set_option maxRecDepth 100000 in
set_option maxHeartbeats 400000 in
theorem may_any (t : Th) (a : Option Addr) (c : Nat) (w : World) (hs2 : t.s.length ≤ 9223372036854775807) (hl2 : t.l.length ≤ 9223372036854775807) :
    Calls Try.prog 27 #[t.val a c] w (BoolPost t.may w) := by
  obtain ⟨m, hm⟩ : ∃ m, m = t.may := ⟨_, rfl⟩
  rw [← hm]
  have HM := Lib.hid hm
  clear hm
  obtain ⟨k, n, s, xs, most⟩ := t
  dsimp only at *
  unfold Th.val
  dsimp only
  go_enter Try.func27, Try.ntmps27
  go_wp2_with fail
  all_goals
    go_ret
    refine ⟨ret_bool ?_, (Below.refl _ w).alloc (Nat.le_refl _) _⟩
    rw [HM.out]
    clear HM
    simp [Th.may]
    try omega

/-- The world in which a thing's reader is asked: three blocks more. -/
theorem got_after {b k : Nat} {kk : Int} {t0 : Array Value} {st : RS} {w w1 : World} {v : Array Value}
    (hv : v = #[.int .u8 kk, .int .u64 0, .string ⟨#[]⟩, .slice none 0 0, .int .i64 0]) (_hk : k = k)
    (hb : RdAt b st w) (o1 : Only (((w.alloc (.cells t0 34)).alloc (.cells #[.int .u8 0, .int .u64 0, .string ⟨#[]⟩, .slice none 0 0, .int .i64 0] 34)).alloc (.cells v 34)) w1 b) :
    Blk w1 (w.heap.size + 1) 34 #[.int .u8 0, .int .u64 0, .string ⟨#[]⟩, .slice none 0 0, .int .i64 0] ∧ Blk w1 (w.heap.size + 1 + 1) 34 #[.int .u8 kk, .int .u64 0, .string ⟨#[]⟩, .slice none 0 0, .int .i64 0] ∧ Only w w1 b := by
  subst hv
  have l0 := hb.lt
  have A1 := (Blk.new (w.alloc (.cells t0 34)) 34 #[.int .u8 0, .int .u64 0, .string ⟨#[]⟩, .slice none 0 0, .int .i64 0]).alloc (.cells #[.int .u8 kk, .int .u64 0, .string ⟨#[]⟩, .slice none 0 0, .int .i64 0] 34)
  have A2 := Blk.new ((w.alloc (.cells t0 34)).alloc (.cells #[.int .u8 0, .int .u64 0, .string ⟨#[]⟩, .slice none 0 0, .int .i64 0] 34)) 34 #[.int .u8 kk, .int .u64 0, .string ⟨#[]⟩, .slice none 0 0, .int .i64 0]
  simp only [asz] at A1 A2
  exact ⟨A1.grown o1 (some_ne (by omega)), A2.grown o1 (some_ne (by omega)), ((((Only.refl w b).alloc _).alloc _).alloc _).trans o1⟩

theorem got_rd {b n : Nat} {st : RS} {w1 : World} (h : RdAt b st w1) (hb : b < n) {u1 u2 u3 u4 u5 u6 : Value} {j : Nat} :
    RdAt b st ((((((w1.setCell ⟨n + 1 + 1, j, none⟩ u1).setCell ⟨n + 1, 0, none⟩ u2).setCell ⟨n + 1, 1, none⟩ u3).setCell ⟨n + 1, 2, none⟩ u4).setCell ⟨n + 1, 3, none⟩ u5).setCell ⟨n + 1, 4, none⟩ u6) :=
  (((((Blk.farc h (by omega) _).farc (by omega) _).farc (by omega) _).farc (by omega) _).farc (by omega) _).farc (by omega) _
theorem got_only {b : Nat} {w w1 : World} (h : Only w w1 b) {u1 u2 u3 u4 u5 u6 : Value} {j : Nat} :
    Only w ((((((w1.setCell ⟨w.heap.size + 1 + 1, j, none⟩ u1).setCell ⟨w.heap.size + 1, 0, none⟩ u2).setCell ⟨w.heap.size + 1, 1, none⟩ u3).setCell ⟨w.heap.size + 1, 2, none⟩ u4).setCell ⟨w.heap.size + 1, 3, none⟩ u5).setCell ⟨w.heap.size + 1, 4, none⟩ u6) b :=
  (((((h.setc (.inr (by omega)) _).setc (.inr (by omega)) _).setc (.inr (by omega)) _).setc (.inr (by omega)) _).setc (.inr (by omega)) _).setc (.inr (by omega)) _
theorem num1_le (st : RS) : 0 ≤ (st.num 1).1 ∧ (st.num 1).1 ≤ 255 := by
  unfold RS.num
  split
  · simp
  split
  · simp
  · have := val_lt (st.r.take 1)
    rw [List.length_take_of_le (by omega)] at this
    have e : (256 : Nat) ^ 1 = 256 := by decide
    dsimp only
    omega
theorem num8_le (st : RS) : U64 (st.num 8).1 := by
  unfold RS.num
  split
  · exact ⟨by simp, by simp⟩
  split
  · exact ⟨by simp, by simp⟩
  · exact val8_lt (by rw [List.length_take_of_le (by omega)])

theorem count_le (m : Int) (st : RS) (hm : 0 ≤ m) : 0 ≤ (st.count m).1 ∧ (st.count m).1 ≤ m := by
  unfold RS.count
  split
  · simp [hm]
  split
  · simp [hm]
  split
  · simp [hm]
  · dsimp only
    omega
theorem wrapU (n : Int) : IntKind.u64.wrap n = toU n := IntKind.wrap_u64 n
theorem got_nums {w1 : World} {base n n' c : Nat} {xa : Option Addr} {xs : List Int} {cs cs' : Array Value} (h : w1.ownsRow base 22 1 (.slice xa n' c) n' (xs.map (.int .u64))) (R : Blk w1 (n + 1) 34 cs) (X : Blk w1 (n + 1 + 1) 34 cs') {u1 u2 u3 u4 u5 u6 : Value} {j : Nat} :
    let W := ((((((w1.setCell ⟨n + 1 + 1, j, none⟩ u1).setCell ⟨n + 1, 0, none⟩ u2).setCell ⟨n + 1, 1, none⟩ u3).setCell ⟨n + 1, 2, none⟩ u4).setCell ⟨n + 1, 3, none⟩ u5).setCell ⟨n + 1, 4, none⟩ u6)
    Nums .u64 W W.heap.size xa xs := by
  intro W
  have R1 := R.farc (c := n + 1 + 1) (i := j) (by omega) u1
  have o1 := own_setc (i := j) h X (by decide) u1
  have o2 := own_setc (i := 0) o1 R1 (by decide) u2
  have o3 := own_setc (i := 1) o2 (R1.set_ 0 u2) (by decide) u3
  have o4 := own_setc (i := 2) o3 ((R1.set_ 0 u2).set_ 1 u3) (by decide) u4
  have o5 := own_setc (i := 3) o4 (((R1.set_ 0 u2).set_ 1 u3).set_ 2 u4) (by decide) u5
  have o6 := own_setc (i := 4) o5 ((((R1.set_ 0 u2).set_ 1 u3).set_ 2 u4).set_ 3 u5) (by decide) u6
  exact own_nums o6

set_option maxRecDepth 100000 in
set_option maxHeartbeats 800000 in
theorem got0 (t : Th) (a : Option Addr) (c b : Nat) (st : RS) (w : World) (hk : t.k = 0) (hb : RdAt b st w) :
    Calls Try.prog 29 #[t.val a c, .pointer (some ⟨b, 0, none⟩)] w (GotPost b t st w) := by
  obtain ⟨k, n, s, xs, most⟩ := t
  dsimp only at *
  have hg : Th.got ⟨k, n, s, xs, most⟩ st = (⟨0, (st.num 1).1, [], [], 0⟩, (st.num 1).2) := by simp [Th.got, hk]
  have HG := Lib.hid hg
  clear hg
  subst hk
  unfold Th.val
  dsimp only
  go_enter Try.func29, Try.ntmps29
  go_wp2_with fail
  refine (Byte_any b st _ (((hb.alloc _).alloc _).alloc _)).mono ?_
  rintro e w1 ⟨rfl, h1, o1⟩
  obtain ⟨R, X, oo⟩ := got_after (k := 0) rfl rfl hb o1
  have x0 : w1.cell? ⟨w.heap.size + 1 + 1, 0, none⟩ = some (.int .u8 0) := X.cell 0
  have y0 : w1.frozen? ⟨w.heap.size + 1 + 1, 0, none⟩ = false := X.frozen 0
  have r0 : w1.cell? ⟨w.heap.size + 1, 0, none⟩ = some (.int .u8 0) := R.cell 0
  have s0 : w1.frozen? ⟨w.heap.size + 1, 0, none⟩ = false := R.frozen 0
  have x1 : w1.cell? ⟨w.heap.size + 1 + 1, 1, none⟩ = some (.int .u64 0) := X.cell 1
  have y1 : w1.frozen? ⟨w.heap.size + 1 + 1, 1, none⟩ = false := X.frozen 1
  have r1 : w1.cell? ⟨w.heap.size + 1, 1, none⟩ = some (.int .u64 0) := R.cell 1
  have s1 : w1.frozen? ⟨w.heap.size + 1, 1, none⟩ = false := R.frozen 1
  have x2 : w1.cell? ⟨w.heap.size + 1 + 1, 2, none⟩ = some (.string ⟨#[]⟩) := X.cell 2
  have y2 : w1.frozen? ⟨w.heap.size + 1 + 1, 2, none⟩ = false := X.frozen 2
  have r2 : w1.cell? ⟨w.heap.size + 1, 2, none⟩ = some (.string ⟨#[]⟩) := R.cell 2
  have s2 : w1.frozen? ⟨w.heap.size + 1, 2, none⟩ = false := R.frozen 2
  have x3 : w1.cell? ⟨w.heap.size + 1 + 1, 3, none⟩ = some (.slice none 0 0) := X.cell 3
  have y3 : w1.frozen? ⟨w.heap.size + 1 + 1, 3, none⟩ = false := X.frozen 3
  have r3 : w1.cell? ⟨w.heap.size + 1, 3, none⟩ = some (.slice none 0 0) := R.cell 3
  have s3 : w1.frozen? ⟨w.heap.size + 1, 3, none⟩ = false := R.frozen 3
  have x4 : w1.cell? ⟨w.heap.size + 1 + 1, 4, none⟩ = some (.int .i64 0) := X.cell 4
  have y4 : w1.frozen? ⟨w.heap.size + 1 + 1, 4, none⟩ = false := X.frozen 4
  have r4 : w1.cell? ⟨w.heap.size + 1, 4, none⟩ = some (.int .i64 0) := R.cell 4
  have s4 : w1.frozen? ⟨w.heap.size + 1, 4, none⟩ = false := R.frozen 4
  obtain ⟨m0, m1⟩ := num1_le st
  go_wp2_with fail
  refine bodyPost_ret (v := .tuple #[.agg #[.int .u8 0, .int .u64 (st.num 1).1, .string ⟨#[]⟩, .slice none 0 0, .int .i64 0], .int .i64 (st.num 1).2.e]) (by simp [results, Try.results29, go_sem, r0, r1, r2, r3, r4]) rfl ?_
  refine ⟨none, 0, by rw [HG.out]; rfl, by rw [HG.out]; exact .inl rfl, ?_, ?_⟩
  · rw [HG.out]
    exact got_rd h1 hb.lt
  · exact got_only oo

set_option maxRecDepth 100000 in
set_option maxHeartbeats 800000 in
theorem got1 (t : Th) (a : Option Addr) (c b : Nat) (st : RS) (w : World) (hk : t.k = 1) (hb : RdAt b st w) :
    Calls Try.prog 29 #[t.val a c, .pointer (some ⟨b, 0, none⟩)] w (GotPost b t st w) := by
  obtain ⟨k, n, s, xs, most⟩ := t
  dsimp only at *
  have hg : Th.got ⟨k, n, s, xs, most⟩ st = (⟨1, (st.num 8).1, [], [], 0⟩, (st.num 8).2) := by simp [Th.got, hk]
  have HG := Lib.hid hg
  clear hg
  subst hk
  unfold Th.val
  dsimp only
  go_enter Try.func29, Try.ntmps29
  go_wp2_with fail
  refine (Num_any b st _ (((hb.alloc _).alloc _).alloc _)).mono ?_
  rintro e w1 ⟨rfl, h1, o1⟩
  obtain ⟨R, X, oo⟩ := got_after (k := 0) rfl rfl hb o1
  have x0 : w1.cell? ⟨w.heap.size + 1 + 1, 0, none⟩ = some (.int .u8 1) := X.cell 0
  have y0 : w1.frozen? ⟨w.heap.size + 1 + 1, 0, none⟩ = false := X.frozen 0
  have r0 : w1.cell? ⟨w.heap.size + 1, 0, none⟩ = some (.int .u8 0) := R.cell 0
  have s0 : w1.frozen? ⟨w.heap.size + 1, 0, none⟩ = false := R.frozen 0
  have x1 : w1.cell? ⟨w.heap.size + 1 + 1, 1, none⟩ = some (.int .u64 0) := X.cell 1
  have y1 : w1.frozen? ⟨w.heap.size + 1 + 1, 1, none⟩ = false := X.frozen 1
  have r1 : w1.cell? ⟨w.heap.size + 1, 1, none⟩ = some (.int .u64 0) := R.cell 1
  have s1 : w1.frozen? ⟨w.heap.size + 1, 1, none⟩ = false := R.frozen 1
  have x2 : w1.cell? ⟨w.heap.size + 1 + 1, 2, none⟩ = some (.string ⟨#[]⟩) := X.cell 2
  have y2 : w1.frozen? ⟨w.heap.size + 1 + 1, 2, none⟩ = false := X.frozen 2
  have r2 : w1.cell? ⟨w.heap.size + 1, 2, none⟩ = some (.string ⟨#[]⟩) := R.cell 2
  have s2 : w1.frozen? ⟨w.heap.size + 1, 2, none⟩ = false := R.frozen 2
  have x3 : w1.cell? ⟨w.heap.size + 1 + 1, 3, none⟩ = some (.slice none 0 0) := X.cell 3
  have y3 : w1.frozen? ⟨w.heap.size + 1 + 1, 3, none⟩ = false := X.frozen 3
  have r3 : w1.cell? ⟨w.heap.size + 1, 3, none⟩ = some (.slice none 0 0) := R.cell 3
  have s3 : w1.frozen? ⟨w.heap.size + 1, 3, none⟩ = false := R.frozen 3
  have x4 : w1.cell? ⟨w.heap.size + 1 + 1, 4, none⟩ = some (.int .i64 0) := X.cell 4
  have y4 : w1.frozen? ⟨w.heap.size + 1 + 1, 4, none⟩ = false := X.frozen 4
  have r4 : w1.cell? ⟨w.heap.size + 1, 4, none⟩ = some (.int .i64 0) := R.cell 4
  have s4 : w1.frozen? ⟨w.heap.size + 1, 4, none⟩ = false := R.frozen 4
  go_wp2_with fail
  refine bodyPost_ret (v := .tuple #[.agg #[.int .u8 1, .int .u64 (st.num 8).1, .string ⟨#[]⟩, .slice none 0 0, .int .i64 0], .int .i64 (st.num 8).2.e]) (by simp [results, Try.results29, go_sem, r0, r1, r2, r3, r4]) rfl ?_
  refine ⟨none, 0, by rw [HG.out]; rfl, by rw [HG.out]; exact .inl rfl, ?_, ?_⟩
  · rw [HG.out]
    exact got_rd h1 hb.lt
  · exact got_only oo

set_option maxRecDepth 100000 in
set_option maxHeartbeats 800000 in
theorem got2 (t : Th) (a : Option Addr) (c b : Nat) (st : RS) (w : World) (hk : t.k = 2) (hb : RdAt b st w) :
    Calls Try.prog 29 #[t.val a c, .pointer (some ⟨b, 0, none⟩)] w (GotPost b t st w) := by
  obtain ⟨k, n, s, xs, most⟩ := t
  dsimp only at *
  have hg : Th.got ⟨k, n, s, xs, most⟩ st = (⟨2, (st.num 8).1, [], [], 0⟩, (st.num 8).2) := by simp [Th.got, hk]
  have HG := Lib.hid hg
  clear hg
  subst hk
  unfold Th.val
  dsimp only
  go_enter Try.func29, Try.ntmps29
  go_wp2_with fail
  refine (Int_any b st _ (((hb.alloc _).alloc _).alloc _)).mono ?_
  rintro e w1 ⟨rfl, h1, o1⟩
  obtain ⟨R, X, oo⟩ := got_after (k := 0) rfl rfl hb o1
  have x0 : w1.cell? ⟨w.heap.size + 1 + 1, 0, none⟩ = some (.int .u8 2) := X.cell 0
  have y0 : w1.frozen? ⟨w.heap.size + 1 + 1, 0, none⟩ = false := X.frozen 0
  have r0 : w1.cell? ⟨w.heap.size + 1, 0, none⟩ = some (.int .u8 0) := R.cell 0
  have s0 : w1.frozen? ⟨w.heap.size + 1, 0, none⟩ = false := R.frozen 0
  have x1 : w1.cell? ⟨w.heap.size + 1 + 1, 1, none⟩ = some (.int .u64 0) := X.cell 1
  have y1 : w1.frozen? ⟨w.heap.size + 1 + 1, 1, none⟩ = false := X.frozen 1
  have r1 : w1.cell? ⟨w.heap.size + 1, 1, none⟩ = some (.int .u64 0) := R.cell 1
  have s1 : w1.frozen? ⟨w.heap.size + 1, 1, none⟩ = false := R.frozen 1
  have x2 : w1.cell? ⟨w.heap.size + 1 + 1, 2, none⟩ = some (.string ⟨#[]⟩) := X.cell 2
  have y2 : w1.frozen? ⟨w.heap.size + 1 + 1, 2, none⟩ = false := X.frozen 2
  have r2 : w1.cell? ⟨w.heap.size + 1, 2, none⟩ = some (.string ⟨#[]⟩) := R.cell 2
  have s2 : w1.frozen? ⟨w.heap.size + 1, 2, none⟩ = false := R.frozen 2
  have x3 : w1.cell? ⟨w.heap.size + 1 + 1, 3, none⟩ = some (.slice none 0 0) := X.cell 3
  have y3 : w1.frozen? ⟨w.heap.size + 1 + 1, 3, none⟩ = false := X.frozen 3
  have r3 : w1.cell? ⟨w.heap.size + 1, 3, none⟩ = some (.slice none 0 0) := R.cell 3
  have s3 : w1.frozen? ⟨w.heap.size + 1, 3, none⟩ = false := R.frozen 3
  have x4 : w1.cell? ⟨w.heap.size + 1 + 1, 4, none⟩ = some (.int .i64 0) := X.cell 4
  have y4 : w1.frozen? ⟨w.heap.size + 1 + 1, 4, none⟩ = false := X.frozen 4
  have r4 : w1.cell? ⟨w.heap.size + 1, 4, none⟩ = some (.int .i64 0) := R.cell 4
  have s4 : w1.frozen? ⟨w.heap.size + 1, 4, none⟩ = false := R.frozen 4
  go_wp2_with fail
  refine bodyPost_ret (v := .tuple #[.agg #[.int .u8 2, .int .u64 (toU (wrap64 (st.num 8).1)), .string ⟨#[]⟩, .slice none 0 0, .int .i64 0], .int .i64 (st.num 8).2.e]) (by simp [results, Try.results29, go_sem, wrapU, r0, r1, r2, r3, r4]) rfl ?_
  refine ⟨none, 0, by rw [HG.out]; rw [toU_wrap64 (num8_le st)]; rfl, by rw [HG.out]; exact .inl rfl, ?_, ?_⟩
  · rw [HG.out]
    exact got_rd h1 hb.lt
  · exact got_only oo

set_option maxRecDepth 100000 in
set_option maxHeartbeats 800000 in
theorem got3 (t : Th) (a : Option Addr) (c b : Nat) (st : RS) (w : World) (hk : t.k = 3) (hb : RdAt b st w) :
    Calls Try.prog 29 #[t.val a c, .pointer (some ⟨b, 0, none⟩)] w (GotPost b t st w) := by
  obtain ⟨k, n, s, xs, most⟩ := t
  dsimp only at *
  have hg : Th.got ⟨k, n, s, xs, most⟩ st = (⟨3, 0, st.text.1, [], 0⟩, st.text.2) := by simp [Th.got, hk]
  have HG := Lib.hid hg
  clear hg
  subst hk
  unfold Th.val
  dsimp only
  go_enter Try.func29, Try.ntmps29
  go_wp2_with fail
  refine (Text_any b st _ (((hb.alloc _).alloc _).alloc _)).mono ?_
  rintro e w1 ⟨rfl, h1, o1⟩
  obtain ⟨R, X, oo⟩ := got_after (k := 0) rfl rfl hb o1
  have x0 : w1.cell? ⟨w.heap.size + 1 + 1, 0, none⟩ = some (.int .u8 3) := X.cell 0
  have y0 : w1.frozen? ⟨w.heap.size + 1 + 1, 0, none⟩ = false := X.frozen 0
  have r0 : w1.cell? ⟨w.heap.size + 1, 0, none⟩ = some (.int .u8 0) := R.cell 0
  have s0 : w1.frozen? ⟨w.heap.size + 1, 0, none⟩ = false := R.frozen 0
  have x1 : w1.cell? ⟨w.heap.size + 1 + 1, 1, none⟩ = some (.int .u64 0) := X.cell 1
  have y1 : w1.frozen? ⟨w.heap.size + 1 + 1, 1, none⟩ = false := X.frozen 1
  have r1 : w1.cell? ⟨w.heap.size + 1, 1, none⟩ = some (.int .u64 0) := R.cell 1
  have s1 : w1.frozen? ⟨w.heap.size + 1, 1, none⟩ = false := R.frozen 1
  have x2 : w1.cell? ⟨w.heap.size + 1 + 1, 2, none⟩ = some (.string ⟨#[]⟩) := X.cell 2
  have y2 : w1.frozen? ⟨w.heap.size + 1 + 1, 2, none⟩ = false := X.frozen 2
  have r2 : w1.cell? ⟨w.heap.size + 1, 2, none⟩ = some (.string ⟨#[]⟩) := R.cell 2
  have s2 : w1.frozen? ⟨w.heap.size + 1, 2, none⟩ = false := R.frozen 2
  have x3 : w1.cell? ⟨w.heap.size + 1 + 1, 3, none⟩ = some (.slice none 0 0) := X.cell 3
  have y3 : w1.frozen? ⟨w.heap.size + 1 + 1, 3, none⟩ = false := X.frozen 3
  have r3 : w1.cell? ⟨w.heap.size + 1, 3, none⟩ = some (.slice none 0 0) := R.cell 3
  have s3 : w1.frozen? ⟨w.heap.size + 1, 3, none⟩ = false := R.frozen 3
  have x4 : w1.cell? ⟨w.heap.size + 1 + 1, 4, none⟩ = some (.int .i64 0) := X.cell 4
  have y4 : w1.frozen? ⟨w.heap.size + 1 + 1, 4, none⟩ = false := X.frozen 4
  have r4 : w1.cell? ⟨w.heap.size + 1, 4, none⟩ = some (.int .i64 0) := R.cell 4
  have s4 : w1.frozen? ⟨w.heap.size + 1, 4, none⟩ = false := R.frozen 4
  go_wp2_with fail
  refine bodyPost_ret (v := .tuple #[.agg #[.int .u8 3, .int .u64 0, .string ⟨st.text.1.toArray⟩, .slice none 0 0, .int .i64 0], .int .i64 st.text.2.e]) (by simp [results, Try.results29, go_sem, r0, r1, r2, r3, r4]) rfl ?_
  refine ⟨none, 0, by rw [HG.out]; rfl, by rw [HG.out]; exact .inl rfl, ?_, ?_⟩
  · rw [HG.out]
    exact got_rd h1 hb.lt
  · exact got_only oo

set_option maxRecDepth 100000 in
set_option maxHeartbeats 800000 in
theorem got4 (t : Th) (a : Option Addr) (c b : Nat) (st : RS) (w : World) (hk : t.k = 4) (hb : RdAt b st w) :
    Calls Try.prog 29 #[t.val a c, .pointer (some ⟨b, 0, none⟩)] w (GotPost b t st w) := by
  obtain ⟨k, n, s, xs, most⟩ := t
  dsimp only at *
  have hg : Th.got ⟨k, n, s, xs, most⟩ st = (⟨4, 0, [], st.list.1, 0⟩, st.list.2) := by simp [Th.got, hk]
  have HG := Lib.hid hg
  clear hg
  subst hk
  unfold Th.val
  dsimp only
  go_enter Try.func29, Try.ntmps29
  go_wp2_with fail
  refine (List_any b st _ (((hb.alloc _).alloc _).alloc _)).mono ?_
  rintro e w1 ⟨xa, xc, rfl, hown, h1, o1⟩
  obtain ⟨R, X, oo⟩ := got_after (k := 0) rfl rfl hb o1
  have x0 : w1.cell? ⟨w.heap.size + 1 + 1, 0, none⟩ = some (.int .u8 4) := X.cell 0
  have y0 : w1.frozen? ⟨w.heap.size + 1 + 1, 0, none⟩ = false := X.frozen 0
  have r0 : w1.cell? ⟨w.heap.size + 1, 0, none⟩ = some (.int .u8 0) := R.cell 0
  have s0 : w1.frozen? ⟨w.heap.size + 1, 0, none⟩ = false := R.frozen 0
  have x1 : w1.cell? ⟨w.heap.size + 1 + 1, 1, none⟩ = some (.int .u64 0) := X.cell 1
  have y1 : w1.frozen? ⟨w.heap.size + 1 + 1, 1, none⟩ = false := X.frozen 1
  have r1 : w1.cell? ⟨w.heap.size + 1, 1, none⟩ = some (.int .u64 0) := R.cell 1
  have s1 : w1.frozen? ⟨w.heap.size + 1, 1, none⟩ = false := R.frozen 1
  have x2 : w1.cell? ⟨w.heap.size + 1 + 1, 2, none⟩ = some (.string ⟨#[]⟩) := X.cell 2
  have y2 : w1.frozen? ⟨w.heap.size + 1 + 1, 2, none⟩ = false := X.frozen 2
  have r2 : w1.cell? ⟨w.heap.size + 1, 2, none⟩ = some (.string ⟨#[]⟩) := R.cell 2
  have s2 : w1.frozen? ⟨w.heap.size + 1, 2, none⟩ = false := R.frozen 2
  have x3 : w1.cell? ⟨w.heap.size + 1 + 1, 3, none⟩ = some (.slice none 0 0) := X.cell 3
  have y3 : w1.frozen? ⟨w.heap.size + 1 + 1, 3, none⟩ = false := X.frozen 3
  have r3 : w1.cell? ⟨w.heap.size + 1, 3, none⟩ = some (.slice none 0 0) := R.cell 3
  have s3 : w1.frozen? ⟨w.heap.size + 1, 3, none⟩ = false := R.frozen 3
  have x4 : w1.cell? ⟨w.heap.size + 1 + 1, 4, none⟩ = some (.int .i64 0) := X.cell 4
  have y4 : w1.frozen? ⟨w.heap.size + 1 + 1, 4, none⟩ = false := X.frozen 4
  have r4 : w1.cell? ⟨w.heap.size + 1, 4, none⟩ = some (.int .i64 0) := R.cell 4
  have s4 : w1.frozen? ⟨w.heap.size + 1, 4, none⟩ = false := R.frozen 4
  have hnm := Lib.hid hown
  clear hown
  go_wp2_with fail
  refine bodyPost_ret (v := .tuple #[.agg #[.int .u8 4, .int .u64 0, .string ⟨#[]⟩, .slice xa st.list.1.length xc, .int .i64 0], .int .i64 st.list.2.e]) (by simp [results, Try.results29, go_sem, r0, r1, r2, r3, r4]) rfl ?_
  refine ⟨xa, xc, by rw [HG.out]; rfl, by rw [HG.out]; exact got_nums hnm.out R X, ?_, ?_⟩
  · rw [HG.out]
    exact got_rd h1 hb.lt
  · exact got_only oo

set_option maxRecDepth 100000 in
set_option maxHeartbeats 800000 in
theorem got5 (t : Th) (a : Option Addr) (c b : Nat) (st : RS) (w : World) (hk : 5 ≤ t.k) (hb : RdAt b st w) :
    Calls Try.prog 29 #[t.val a c, .pointer (some ⟨b, 0, none⟩)] w (GotPost b t st w) := by
  obtain ⟨k, n, s, xs, most⟩ := t
  dsimp only at *
  have hg : Th.got ⟨k, n, s, xs, most⟩ st = (⟨k, (st.count 4611686018427387904).1, [], [], 0⟩, (st.count 4611686018427387904).2) := by 
    unfold Th.got
    dsimp only
    rw [if_neg (by omega), if_neg (by omega), if_neg (by omega), if_neg (by omega)]
  have HG := Lib.hid hg
  clear hg
  have k0 : (k == 0) = false := by simp; omega
  have k1 : (k == 1) = false := by simp; omega
  have k2 : (k == 2) = false := by simp; omega
  have k3 : (k == 3) = false := by simp; omega
  have k4 : (k == 4) = false := by simp; omega
  have i62 : I64 4611686018427387904 := by constructor <;> omega
  unfold Th.val
  dsimp only
  go_enter Try.func29, Try.ntmps29
  go_wp2_with fail
  refine (Count_any b 4611686018427387904 st _ (((hb.alloc _).alloc _).alloc _) i62).mono ?_
  rintro e w1 ⟨rfl, h1, o1⟩
  obtain ⟨R, X, oo⟩ := got_after (k := 0) rfl rfl hb o1
  have x0 : w1.cell? ⟨w.heap.size + 1 + 1, 0, none⟩ = some (.int .u8 k) := X.cell 0
  have y0 : w1.frozen? ⟨w.heap.size + 1 + 1, 0, none⟩ = false := X.frozen 0
  have r0 : w1.cell? ⟨w.heap.size + 1, 0, none⟩ = some (.int .u8 0) := R.cell 0
  have s0 : w1.frozen? ⟨w.heap.size + 1, 0, none⟩ = false := R.frozen 0
  have x1 : w1.cell? ⟨w.heap.size + 1 + 1, 1, none⟩ = some (.int .u64 0) := X.cell 1
  have y1 : w1.frozen? ⟨w.heap.size + 1 + 1, 1, none⟩ = false := X.frozen 1
  have r1 : w1.cell? ⟨w.heap.size + 1, 1, none⟩ = some (.int .u64 0) := R.cell 1
  have s1 : w1.frozen? ⟨w.heap.size + 1, 1, none⟩ = false := R.frozen 1
  have x2 : w1.cell? ⟨w.heap.size + 1 + 1, 2, none⟩ = some (.string ⟨#[]⟩) := X.cell 2
  have y2 : w1.frozen? ⟨w.heap.size + 1 + 1, 2, none⟩ = false := X.frozen 2
  have r2 : w1.cell? ⟨w.heap.size + 1, 2, none⟩ = some (.string ⟨#[]⟩) := R.cell 2
  have s2 : w1.frozen? ⟨w.heap.size + 1, 2, none⟩ = false := R.frozen 2
  have x3 : w1.cell? ⟨w.heap.size + 1 + 1, 3, none⟩ = some (.slice none 0 0) := X.cell 3
  have y3 : w1.frozen? ⟨w.heap.size + 1 + 1, 3, none⟩ = false := X.frozen 3
  have r3 : w1.cell? ⟨w.heap.size + 1, 3, none⟩ = some (.slice none 0 0) := R.cell 3
  have s3 : w1.frozen? ⟨w.heap.size + 1, 3, none⟩ = false := R.frozen 3
  have x4 : w1.cell? ⟨w.heap.size + 1 + 1, 4, none⟩ = some (.int .i64 0) := X.cell 4
  have y4 : w1.frozen? ⟨w.heap.size + 1 + 1, 4, none⟩ = false := X.frozen 4
  have r4 : w1.cell? ⟨w.heap.size + 1, 4, none⟩ = some (.int .i64 0) := R.cell 4
  have s4 : w1.frozen? ⟨w.heap.size + 1, 4, none⟩ = false := R.frozen 4
  obtain ⟨m0, m1⟩ := count_le 4611686018427387904 st (by omega)
  go_wp2_with fail
  refine bodyPost_ret (v := .tuple #[.agg #[.int .u8 k, .int .u64 (st.count 4611686018427387904).1, .string ⟨#[]⟩, .slice none 0 0, .int .i64 0], .int .i64 (st.count 4611686018427387904).2.e]) (by simp [results, Try.results29, go_sem, r0, r1, r2, r3, r4]) rfl ?_
  refine ⟨none, 0, by rw [HG.out]; rfl, by rw [HG.out]; exact .inl rfl, ?_, ?_⟩
  · rw [HG.out]
    exact got_rd h1 hb.lt
  · exact got_only oo

theorem got_any (t : Th) (a : Option Addr) (c b : Nat) (st : RS) (w : World) (hk : 0 ≤ t.k) (hb : RdAt b st w) :
    Calls Try.prog 29 #[t.val a c, .pointer (some ⟨b, 0, none⟩)] w (GotPost b t st w) := by
  by_cases k0 : t.k = 0
  · exact got0 t a c b st w k0 hb
  by_cases k1 : t.k = 1
  · exact got1 t a c b st w k1 hb
  by_cases k2 : t.k = 2
  · exact got2 t a c b st w k2 hb
  by_cases k3 : t.k = 3
  · exact got3 t a c b st w k3 hb
  by_cases k4 : t.k = 4
  · exact got4 t a c b st w k4 hb
  exact got5 t a c b st w (by omega) hb
end Go.Proofs.Ytdnkijljpmcejaa
