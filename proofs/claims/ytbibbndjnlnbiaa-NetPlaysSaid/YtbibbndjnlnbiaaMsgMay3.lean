/-
  msg.May: the walk.
-/
import Derived.Test.YtbibbndjnlnbiaaMsgMay2
import Derived.Laws.EntriesVeiled
namespace Go.Proofs.Ytbibbndjnlnbiaa
open Go.RowKit

/-- A message's value: its list lies at a, of capacity c. -/
def Mg.val (m : Mg) (a : Option Addr) (c : Nat) : Value := .agg #[.int .u8 m.k, .int .i64 m.fr, .int .i64 m.to, .int .i64 m.ht, .int .i64 m.rd, .int .i64 m.vl, .int .i64 m.ep, .int .i64 m.dl, .int .i64 m.id, .string ⟨m.s.toArray⟩, .slice a m.l.length c]
def Mg.cells (m : Mg) (a : Option Addr) (c : Nat) : Array Value := #[.int .u8 m.k, .int .i64 m.fr, .int .i64 m.to, .int .i64 m.ht, .int .i64 m.rd, .int .i64 m.vl, .int .i64 m.ep, .int .i64 m.dl, .int .i64 m.id, .string ⟨m.s.toArray⟩, .slice a m.l.length c]

/-- The blocks that May makes: what the Kind names, the two closures, the least number. -/
def mayW (w1 : World) (n : Int) : World :=
  (((w1.alloc (.cells #[.int .i64 n] 3)).alloc (.cells #[.func (.func 65) #[] #[.pointer (some ⟨w1.heap.size, 0, none⟩)]] 75)).alloc (.cells #[.func (.func 66) #[] #[]] 97)).alloc (.cells #[.int .i64 0] 3)
theorem mayW_asks {w w1 : World} {m : Mg} {a : Option Addr} {c : Nat} (n : Int) (hM : Blk w1 w.heap.size 32 (m.cells a c)) :
    Asks (mayW w1 n) w.heap.size w1.heap.size (w1.heap.size + 1) (w1.heap.size + 2) (w1.heap.size + 3) m a c n 0 := by
  have b1 := (((Blk.new w1 3 #[.int .i64 n]).alloc (.cells #[.func (.func 65) #[] #[.pointer (some ⟨w1.heap.size, 0, none⟩)]] 75)).alloc (.cells #[.func (.func 66) #[] #[]] 97)).alloc (.cells #[.int .i64 0] 3)
  have b2 := ((Blk.new (w1.alloc (.cells #[.int .i64 n] 3)) 75 #[.func (.func 65) #[] #[.pointer (some ⟨w1.heap.size, 0, none⟩)]]).alloc (.cells #[.func (.func 66) #[] #[]] 97)).alloc (.cells #[.int .i64 0] 3)
  have b3 := (Blk.new ((w1.alloc (.cells #[.int .i64 n] 3)).alloc (.cells #[.func (.func 65) #[] #[.pointer (some ⟨w1.heap.size, 0, none⟩)]] 75)) 97 #[.func (.func 66) #[] #[]]).alloc (.cells #[.int .i64 0] 3)
  have b4 := Blk.new (((w1.alloc (.cells #[.int .i64 n] 3)).alloc (.cells #[.func (.func 65) #[] #[.pointer (some ⟨w1.heap.size, 0, none⟩)]] 75)).alloc (.cells #[.func (.func 66) #[] #[]] 97)) 3 #[.int .i64 0]
  simp only [asz] at b2 b3 b4
  have b0 := (((hM.alloc (.cells #[.int .i64 n] 3)).alloc (.cells #[.func (.func 65) #[] #[.pointer (some ⟨w1.heap.size, 0, none⟩)]] 75)).alloc (.cells #[.func (.func 66) #[] #[]] 97)).alloc (.cells #[.int .i64 0] 3)
  exact ⟨b0, b1, b2, b3, b4⟩
theorem Asks.least {W : World} {M N H F L : Nat} {m : Mg} {a : Option Addr} {c : Nat} {n : Int} (A : Asks W M N H F L m a c n 0) (h1 : M ≠ L) (h2 : N ≠ L) (h3 : H ≠ L) (h4 : F ≠ L) : Asks (W.setCell ⟨L, 0, none⟩ (.int .i64 1)) M N H F L m a c n 1 :=
  ⟨A.pm.farc h1 _, A.pn.farc h2 _, A.ph.farc h3 _, A.pw.farc h4 _, A.pl.set_ 0 _⟩
theorem Asks.alloc {W : World} {M N H F L : Nat} {m : Mg} {a : Option Addr} {c : Nat} {n least : Int} (A : Asks W M N H F L m a c n least) (o : Obj) : Asks (W.alloc o) M N H F L m a c n least :=
  ⟨A.pm.alloc o, A.pn.alloc o, A.ph.alloc o, A.pw.alloc o, A.pl.alloc o⟩
theorem asks_all {W : World} {M N H F L : Nat} {m : Mg} {a : Option Addr} {c : Nat} {n least : Int} (A : Asks W M N H F L m a c n least) :
    Calls Try.prog 79 #[.slice (some ⟨W.heap.size, 0, none⟩) 12 12, .func (.func 80) #[] #[]] (W.alloc (.cells (askVals M N H F L).toArray 23))
      (AskPost (((askBools m n least).map not).any id) (W.alloc (.cells (askVals M N H F L).toArray 23))) :=
  contains_any _ W.heap.size 12 (askVals M N H F L) _ rfl (fun i v h => by rw [(Blk.new W _ _).cell]; simpa using h) (fun _ _ _ h1 h2 => (asks_each (A.alloc _)).at_ h1 h2) (by unfold askVals; simp)

theorem asks_all' {W : World} {M N H F L S : Nat} {m : Mg} {a : Option Addr} {c : Nat} {n least : Int} (A : Asks W M N H F L m a c n least) (hS : W.heap.size = S) :
    Calls Try.prog 79 #[.slice (some ⟨S, 0, none⟩) 12 12, .func (.func 80) #[] #[]] (W.alloc (.cells (askVals M N H F L).toArray 23))
      (AskPost (((askBools m n least).map not).any id) (W.alloc (.cells (askVals M N H F L).toArray 23))) := by
  subst hS
  exact asks_all A

set_option maxRecDepth 100000 in
set_option maxHeartbeats 1000000 in
theorem may_any (m : Mg) (a : Option Addr) (c : Nat) (w : World) (hk : 0 ≤ m.k ∧ m.k ≤ 255) :
    Calls Try.prog 40 #[m.val a c] w (BoolPost m.may w) := by
  have BM := Blk.new w 32 (m.cells a c)
  have B0 : Below w.heap.size w (w.alloc (.cells (m.cells a c) 32)) := (Below.refl _ w).alloc (Nat.le_refl _) _
  have c0 : (w.alloc (.cells (m.cells a c) 32)).cell? ⟨w.heap.size, 0, none⟩ = some (.int .u8 m.k) := BM.cell 0
  obtain ⟨w0, hw0⟩ : ∃ w0, w0 = w.alloc (.cells (m.cells a c) 32) := ⟨_, rfl⟩
  rw [← hw0] at BM B0 c0
  have hmf : ∀ (fn : Fn) (first cap : Array Value) (w : World), (Instr.makeFunc fn first cap).run Try.prog w = .ok (.func fn first cap) w := fun _ _ _ _ => rfl
  have may_eq := may_asks m
  have HE := Lib.hid may_eq
  clear may_eq
  unfold Mg.val
  unfold Mg.cells at hw0
  have HW := Lib.hid hw0
  clear hw0
  go_enter Try.func40, Try.ntmps40
  go_wp2_with fail
  rw [← HW.out]
  go_wp2_with fail
  refine (names_any m.k _ hk).mono ?_
  rintro e w1 ⟨rfl, b1⟩
  have hM := BM.kept b1
  have B1 := step_below B0 b1
  have hlt : w.heap.size < w1.heap.size := hM.lt
  clear BM B0 c0 b1 HW
  generalize namesOf m.k = n at *
  go_wp2_with fail
  have A0 := mayW_asks (w := w) n hM
  have B2 : Below w.heap.size w (mayW w1 n) := by
    unfold mayW
    exact (((B1.alloc B1.size _).alloc (by simp; omega) _).alloc (by simp; omega) _).alloc (by simp; omega) _
  obtain ⟨W, hW⟩ : ∃ W, W = mayW w1 n := ⟨_, rfl⟩
  rw [← hW] at A0 B2
  unfold mayW at hW
  rw [← hW]
  clear hW hM B1
  have z0 : W.cell? ⟨w1.heap.size + 3, 0, none⟩ = some (.int .i64 0) := A0.pl.cell 0
  have f0 : W.frozen? ⟨w1.heap.size + 3, 0, none⟩ = false := A0.pl.frozen 0
  refine (has_any _ _ 1 _ (A0.pn.cell 0)).mono ?_
  rintro e w2 ⟨rfl, rfl⟩
  have HA := Lib.hid A0
  clear A0
  cases hb : hasB n 1 with
  | false =>
    rw [hb] at HE
    have HB := Lib.hid hb
    clear hb
    go_wp2_with fail
    refine (asks_all HA.out).mono ?_
    rintro e w3 ⟨rfl, k, rfl⟩
    go_wp2_with fail
    go_ret
    exact ⟨ret_bool HE.out, below_drewN (B2.alloc B2.size _) k⟩
  | true =>
    rw [hb] at HE
    have HB := Lib.hid hb
    clear hb
    go_wp2_with fail
    have A1 := HA.out.least (by omega) (by omega) (by omega) (by omega)
    have B3 : Below w.heap.size w (W.setCell ⟨w1.heap.size + 3, 0, none⟩ (.int .i64 1)) := B2.setCell (p := ⟨w1.heap.size + 3, 0, none⟩) (by simp; omega) _
    refine (asks_all' (S := W.heap.size) A1 (by simp)).mono ?_
    rintro e w3 ⟨rfl, k, rfl⟩
    go_wp2_with fail
    go_ret
    exact ⟨ret_bool HE.out, below_drewN (B3.alloc B3.size _) k⟩
end Go.Proofs.Ytbibbndjnlnbiaa
