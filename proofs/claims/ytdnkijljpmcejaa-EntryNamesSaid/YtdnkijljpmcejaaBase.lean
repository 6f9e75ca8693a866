/-
  Small laws on worlds, rows and answers.
-/
import Derived.Test.YtdnkijljpmcejaaMeth2
import Derived.Test.YtdnkijljpmcejaaWireLaw
import Derived.Test.YtdnkijljpmcejaaAppZ
import Derived.Deep.RegionHeld3
namespace Go.Proofs.Ytdnkijljpmcejaa
open Go.RowKit

theorem own_nums {w : World} {base : Nat} {a : Option Addr} {k : IntKind} {e : TypeId} {c : Nat} {xs : List Int} {n : Nat} (h : w.ownsRow base e 1 (.slice a n c) n (xs.map (.int k))) : Nums k w w.heap.size a xs := by
  by_cases h0 : xs = []
  · exact .inl h0
  rcases h.2 with ⟨_, rfl⟩ | ⟨g, cap, cur, hv, _, hh, _⟩
  · have := h.1
    simp at this
    exact .inl this
  · injection hv with ha _ _
    subst ha
    refine .inr ⟨g, 0, rfl, (Array.getElem?_eq_some_iff.1 hh).1, fun i x hx => ?_⟩
    have := h.cells (g := g) rfl i (.int k x) (by simp [hx])
    rw [Addr.add_lit] at this
    exact this
theorem ret_bool {x y : Bool} (h : x = y) : Ending.returned (.bool x) = .returned (.bool y) := by rw [h]
/-- A call that answers x and leaves what was there. -/
def BoolPost (x : Bool) (w : World) (e : Ending) (w' : World) : Prop := e = .returned (.bool x) ∧ Below w.heap.size w w'
/-- The answer true, and all that was there stands. -/
def TruePost (w : World) (e : Ending) (w' : World) : Prop := e = .returned (.bool true) ∧ Below w.heap.size w w'
theorem below_drewN {B : Nat} {a w : World} (h : Below B a w) (n : Nat) : Below B a (w.drewN n) := ⟨h.os, h.tape, h.output, h.size, h.block⟩
theorem step_below {w a c : World} (h : Below w.heap.size w a) (k : Below a.heap.size a c) : Below w.heap.size w c := h.trans (k.mono h.size)
theorem step_only {w a c : World} {g : Nat} (h : Below w.heap.size w a) (k : Only a c g) (hg : w.heap.size ≤ g) : Below w.heap.size w c := below_only h k hg h.size
theorem cell_keep {w1 w2 : World} {p : Addr} {v : Value} (h : w1.cell? p = some v) (b : Below w1.heap.size w1 w2) : w2.cell? p = some v := (b.cell (World.block_lt_of_cell? w1 p h)).trans h
theorem cell_keepd {w1 w2 : World} {p : Addr} {v : Value} (h : w1.cell? p = some v) (b : Below w1.drew.heap.size w1.drew w2) : w2.cell? p = some v := cell_keep (w1 := w1.drew) h b
theorem infoInt : (Try.prog.info? 3).map (fun i => (i.zero, i.size, i.bytes)) = some (some (.int .i64 0), 1, 8) := by kernel_rfl
theorem rd_kept {g : Nat} {st : RS} {w w' : World} (h : RdAt g st w) (b : Below w.heap.size w w') : RdAt g st w' := Blk.kept h b
theorem own_form {w : World} {base : Nat} {e : TypeId} {size n : Nat} {v : Value} {xs : List Value} (h : w.ownsRow base e size v n xs) (hn : 0 < n) : ∃ g c, v = .slice (some ⟨g, 0, none⟩) n c := by
  rcases h.2 with ⟨rfl, h0⟩ | ⟨g, c, _, rfl, _⟩
  · omega
  · exact ⟨g, c, rfl⟩
theorem own_cell {w : World} {base : Nat} {e : TypeId} {n q c j : Nat} {xs : List Int} {x : Int} (h : w.ownsRow base e 1 (.slice (some ⟨q, 0, none⟩) n c) n (xs.map (.int .i64))) (hx : xs[j]? = some x) : w.cell? ⟨q, j, none⟩ = some (.int .i64 x) := by
  have := h.cells (g := q) rfl j (.int .i64 x) (by simp [hx])
  rwa [Addr.add_lit, Nat.zero_add] at this
theorem own_below {w w' : World} {base : Nat} {e : TypeId} {size n : Nat} {v : Value} {xs : List Value} (h : w.ownsRow base e size v n xs) (b : Below w.heap.size w w') : w'.ownsRow base e size v n xs :=
  h.kept (below_grown b none) (by cases v.ownBlock <;> simp)
theorem rs_eq {a : RS} {r : List UInt8} {e : Int} (h1 : a.r = r) (h2 : a.e = e) : a = ⟨r, e⟩ := by
  cases a
  simp only at h1 h2
  rw [h1, h2]
theorem only_cell {w w' : World} {p : Addr} {v : Value} {g : Nat} (h : w.cell? p = some v) (o : Only w.drew w' g) (hne : p.block ≠ g) : w'.cell? p = some v :=
  (World.cell?_of_block (o.block p.block (World.block_lt_of_cell? w p h) (some_ne hne))).trans h
theorem take_beq' {a b : List Int} {j : Nat} {p q : Int} (hp : a[j]? = some p) (hq : b[j]? = some q) : (a.take (j + 1) == b.take (j + 1)) = ((a.take j == b.take j) && (p == q)) := by
  rw [List.take_add_one, List.take_add_one, hp, hq]
  have e : (a.take j ++ [p] = b.take j ++ [q]) ↔ (a.take j = b.take j ∧ p = q) :=
    ⟨fun h => by have := List.append_inj' h rfl; simpa using this, fun ⟨h1, h2⟩ => by rw [h1, h2]⟩
  rw [Bool.eq_iff_iff]
  simp only [Option.toList_some, beq_iff_eq, Bool.and_eq_true]
  exact e
theorem num1_le (st : RS) : 0 ≤ (st.num 1).1 ∧ (st.num 1).1 ≤ 255 := by
  unfold RS.num
  split
  · simp
  split
  · simp
  · have := val_lt (st.r.take 1)
    rw [List.length_take_of_le (by omega)] at this
    have e : (256 : Nat) ^ 1 = 256 := by decide
    dsimp only
    omega
theorem num8_le (st : RS) : U64 (st.num 8).1 := by
  unfold RS.num
  split
  · exact ⟨by simp, by simp⟩
  split
  · exact ⟨by simp, by simp⟩
  · exact val8_lt (by rw [List.length_take_of_le (by omega)])
end Go.Proofs.Ytdnkijljpmcejaa
