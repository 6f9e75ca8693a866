/-
  consistorylaw09.WirePuts: for every input it answers true. No condition.
-/
import Derived.Test.YtdnkijljpmcejaaLaw09
import Derived.Test.YtdnkijljpmcejaaRows
import Derived.ProofKit
namespace Go.Proofs.Ytdnkijljpmcejaa
open Go.RowKit

def txt (l t : List UInt8) : List UInt8 := if t.length ≤ 2048 then l ++ bText t else l
def txtE (t : List UInt8) : Int := if t.length ≤ 2048 then 0 else 40
def lst (l : List UInt8) (t : List Int) : List UInt8 := if t.length ≤ 1024 then l ++ bList t else l
def lstE (t : List Int) : Int := if t.length ≤ 1024 then 0 else 40

theorem text_any (l t : List UInt8) (w : World) (ht : t.length ≤ 9223372036854775807) (hl : l.length + 8 ≤ 140737488355328) :
    Calls Try.prog 15 #[.string ⟨l.toArray⟩, .string ⟨t.toArray⟩] w fun e w' => e = .returned (.tuple #[.string ⟨(txt l t).toArray⟩, .int .i64 (txtE t)]) ∧ Below w.heap.size w w' := by
  unfold txt txtE
  by_cases h : t.length ≤ 2048
  · simp only [h, if_true]
    exact text_ok l t w h hl
  · simp only [h, if_false]
    exact (text_long l t w h ht).mono fun e w' ⟨h1, h2⟩ => ⟨h1, h2 ▸ Below.refl _ _⟩
theorem rtext_any (l t : List UInt8) (w : World) (ht : t.length ≤ 9223372036854775807) (hl : l.length + 8 ≤ 140737488355328) :
    Calls Try.prog 16 #[.string ⟨l.toArray⟩, .string ⟨t.toArray⟩] w fun e w' => e = .returned (.tuple #[.string ⟨(txt l t).toArray⟩, .int .i64 (txtE t)]) ∧ Below w.heap.size w w' := by
  unfold txt txtE
  by_cases h : t.length ≤ 2048
  · simp only [h, if_true]
    exact rtext_ok l t w h hl
  · simp only [h, if_false]
    exact (rtext_long l t w h ht).mono fun e w' ⟨h1, h2⟩ => ⟨h1, h2 ▸ Below.refl _ _⟩
theorem list_any (l : List UInt8) (a : Option Addr) (c : Nat) (xs : List Int) (w : World) (hx : Nums .u64 w w.heap.size a xs) (hu : ∀ x ∈ xs, U64 x) (hm : xs.length ≤ 9223372036854775807) (hl : l.length + 20000 ≤ 140737488355328) :
    Calls Try.prog 17 #[.string ⟨l.toArray⟩, .slice a xs.length c] w fun e w' => e = .returned (.tuple #[.string ⟨(lst l xs).toArray⟩, .int .i64 (lstE xs)]) ∧ Below w.heap.size w w' := by
  unfold lst lstE
  by_cases h : xs.length ≤ 1024
  · simp only [h, if_true]
    exact list_ok l a c xs w hx hu h hl
  · simp only [h, if_false]
    exact (list_long l a c xs.length w h hm).mono fun e w' ⟨h1, h2⟩ => ⟨h1, h2 ▸ Below.refl _ _⟩
theorem rlist_any (l : List UInt8) (a : Option Addr) (c : Nat) (xs : List Int) (w : World) (hx : Nums .u64 w w.heap.size a xs) (hu : ∀ x ∈ xs, U64 x) (hm : xs.length ≤ 9223372036854775807) (hl : l.length + 20000 ≤ 140737488355328) :
    Calls Try.prog 18 #[.string ⟨l.toArray⟩, .slice a xs.length c] w fun e w' => e = .returned (.tuple #[.string ⟨(lst l xs).toArray⟩, .int .i64 (lstE xs)]) ∧ Below w.heap.size w w' := by
  unfold lst lstE
  by_cases h : xs.length ≤ 1024
  · simp only [h, if_true]
    exact rlist_ok l a c xs w hx hu h hl
  · simp only [h, if_false]
    exact (rlist_long l a c xs.length w h hm).mono fun e w' ⟨h1, h2⟩ => ⟨h1, h2 ▸ Below.refl _ _⟩

set_option maxRecDepth 100000 in
set_option maxHeartbeats 800000 in
theorem puts_any (s : List UInt8) (b n i : Int) (t : List UInt8) (a : Option Addr) (c : Nat) (l : List Int) (w : World) (hb : Byte b) (hn : U64 n) (hl : Nums .u64 w w.heap.size a l) (hu : ∀ x ∈ l, U64 x)
    (hs : s.length ≤ 9223372036854775807) (ht : t.length ≤ 9223372036854775807) (hll : l.length ≤ 9223372036854775807) :
    Calls Try.prog 3 #[.string ⟨s.toArray⟩, .int .u8 b, .int .u64 n, .int .i64 i, .string ⟨t.toArray⟩, .slice a l.length c] w (BoolPost true w) := by
  by_cases h : 3000 < s.length ∨ 3000 < t.length ∨ 1200 < l.length
  · have puts_far : ∀ (hs1 : ¬ 3000 < s.length → ¬ 3000 < t.length → 1200 < l.length), Calls Try.prog 3 #[.string ⟨s.toArray⟩, .int .u8 b, .int .u64 n, .int .i64 i, .string ⟨t.toArray⟩, .slice a l.length c] w (BoolPost true w) := by
      intro hs1
      by_cases k1 : 3000 < s.length
      · go_enter Try.func3, Try.ntmps3
        go_wp2_with fail
        refine (awake_any _).mono ?_
        rintro e w1 ⟨rfl, b1⟩
        go_wp2_with fail
        go_ret
        exact ⟨rfl, b1⟩
      by_cases k2 : 3000 < t.length
      · go_enter Try.func3, Try.ntmps3
        go_wp2_with fail
        refine (awake_any _).mono ?_
        rintro e w1 ⟨rfl, b1⟩
        go_wp2_with fail
        go_ret
        exact ⟨rfl, b1⟩
      have k3 := hs1 k1 k2
      clear hs1
      go_enter Try.func3, Try.ntmps3
      go_wp2_with fail
      refine (awake_any _).mono ?_
      rintro e w1 ⟨rfl, b1⟩
      go_wp2_with fail
      go_ret
      exact ⟨rfl, b1⟩
    exact puts_far (by omega)
  · have h1 : s.length ≤ 3000 := by omega
    have h2 : t.length ≤ 3000 := by omega
    have h3 : l.length ≤ 1200 := by omega
    clear h
    go_enter Try.func3, Try.ntmps3
    go_wp2_with fail
    refine (text_any s t _ ht (by omega)).mono ?_
    rintro e w1 ⟨rfl, b1⟩
    go_wp2_with fail
    refine (rtext_any s t _ ht (by omega)).mono ?_
    rintro e w2 ⟨rfl, b2⟩
    go_wp2_with fail
    have c2 := step_below b1 b2
    refine (list_any s a c l _ ((hl.kept c2 (Nat.le_refl _)).more c2.size) hu hll (by omega)).mono ?_
    rintro e w3 ⟨rfl, b3⟩
    go_wp2_with fail
    have c3 := step_below c2 b3
    refine (rlist_any s a c l _ ((hl.kept c3 (Nat.le_refl _)).more c3.size) hu hll (by omega)).mono ?_
    rintro e w4 ⟨rfl, b4⟩
    have c4 := step_below c3 b4
    go_wp2_with fail
    refine (byte_any s b _ hb (by omega)).mono ?_
    rintro e w5 ⟨rfl, b5⟩
    have c5 := step_below c4 b5
    go_wp2_with fail
    refine (rbyte_any s b _ hb (by omega)).mono ?_
    rintro e w6 ⟨rfl, b6⟩
    have c6 := step_below c5 b6
    go_wp2_with fail
    refine (num_any s n _ hn (by omega)).mono ?_
    rintro e w7 ⟨rfl, b7⟩
    have c7 := step_below c6 b7
    go_wp2_with fail
    refine (rnum_any s n _ hn (by omega)).mono ?_
    rintro e w8 ⟨rfl, b8⟩
    have c8 := step_below c7 b8
    go_wp2_with fail
    refine (int_any s i _ (by omega)).mono ?_
    rintro e w9 ⟨rfl, b9⟩
    have c9 := step_below c8 b9
    go_wp2_with fail
    refine (rint_any s i _ (by omega)).mono ?_
    rintro e w10 ⟨rfl, b10⟩
    have c10 := step_below c9 b10
    go_wp2_with fail
    refine (awake_any _).mono ?_
    rintro e w11 ⟨rfl, b11⟩
    have c11 := step_below c10 b11
    go_wp2_with fail
    go_ret
    exact ⟨rfl, c11⟩
end Go.Proofs.Ytdnkijljpmcejaa
