/-
  wire.Reader: what a reader holds, and what its deferred function meets.
-/
import Derived.Test.YtdnkijljpmcejaaRead
namespace Go.Proofs.Ytdnkijljpmcejaa
open Go.RowKit

/-- A reader in memory. -/
def RdAt (b : Nat) (st : RS) (w : World) : Prop := Blk w b 100 #[.string ⟨st.r.toArray⟩, .int .i64 st.e]

theorem frame32 (a b c d x : Value) : #[a, b, c, d] ++ (Array.replicate 28 undef).setIfInBounds 4 x =
    #[a, b, c, d, undef, undef, undef, undef, x, undef, undef, undef, undef, undef, undef, undef, undef, undef, undef, undef, undef, undef, undef, undef, undef, undef, undef, undef, undef, undef, undef, undef] := by
  apply Array.ext'
  simp [List.replicate]
/-- The world in which the conversion is called: five blocks more. -/
def five (b : Nat) (r : List UInt8) (z : Value) (T : TypeId) (w : World) : World :=
  ((((w.alloc (.cells #[.pointer (some ⟨b, 0, none⟩)] 42)).alloc (.cells #[z] T)).alloc (.cells #[.int .i64 0] 25)).alloc (.cells #[.string ⟨r.toArray⟩] 106)).alloc (.cells #[.pointer (some ⟨w.heap.size + 1 + 1 + 1, 0, none⟩)] 103)

theorem five_part (b : Nat) (r : List UInt8) (z : Value) (T : TypeId) (w : World) : PartAt (w.heap.size + 1 + 1 + 1) r (five b r z T w) := by
  have B3 := (Blk.new (((w.alloc (.cells #[.pointer (some ⟨b, 0, none⟩)] 42)).alloc (.cells #[z] T)).alloc (.cells #[.int .i64 0] 25)) 106 #[.string ⟨r.toArray⟩]).alloc (.cells #[.pointer (some ⟨w.heap.size + 1 + 1 + 1, 0, none⟩)] 103)
  simp only [asz] at B3
  exact B3

theorem five_below (b : Nat) (r : List UInt8) (z : Value) (T : TypeId) (w : World) : Below w.heap.size w (five b r z T w) :=
  (((((Below.refl _ w).alloc (Nat.le_refl _) _).alloc (by simp only [asz]; omega) _).alloc (by simp only [asz]; omega) _).alloc (by simp only [asz]; omega) _).alloc (by simp only [asz]; omega) _

theorem five_after {b : Nat} {r : List UInt8} {z : Value} {T : TypeId} {w w1 : World} (hb : RdAt b ⟨r, 0⟩ w) (o1 : Only (five b r z T w) w1 (w.heap.size + 1 + 1 + 1)) :
    Blk w1 w.heap.size 42 #[.pointer (some ⟨b, 0, none⟩)] ∧ Blk w1 (w.heap.size + 1) T #[z] ∧ Blk w1 (w.heap.size + 1 + 1) 25 #[.int .i64 0] ∧
      Blk w1 (w.heap.size + 1 + 1 + 1 + 1) 103 #[.pointer (some ⟨w.heap.size + 1 + 1 + 1, 0, none⟩)] ∧ RdAt b ⟨r, 0⟩ w1 ∧ Below w.heap.size w w1 := by
  have B0 := ((((Blk.new w 42 #[.pointer (some ⟨b, 0, none⟩)]).alloc (.cells #[z] T)).alloc (.cells #[.int .i64 0] 25)).alloc (.cells #[.string ⟨r.toArray⟩] 106)).alloc (.cells #[.pointer (some ⟨w.heap.size + 1 + 1 + 1, 0, none⟩)] 103)
  have B1 := (((Blk.new (w.alloc (.cells #[.pointer (some ⟨b, 0, none⟩)] 42)) T #[z]).alloc (.cells #[.int .i64 0] 25)).alloc (.cells #[.string ⟨r.toArray⟩] 106)).alloc (.cells #[.pointer (some ⟨w.heap.size + 1 + 1 + 1, 0, none⟩)] 103)
  have B2 := ((Blk.new ((w.alloc (.cells #[.pointer (some ⟨b, 0, none⟩)] 42)).alloc (.cells #[z] T)) 25 #[.int .i64 0]).alloc (.cells #[.string ⟨r.toArray⟩] 106)).alloc (.cells #[.pointer (some ⟨w.heap.size + 1 + 1 + 1, 0, none⟩)] 103)
  have B4 := Blk.new ((((w.alloc (.cells #[.pointer (some ⟨b, 0, none⟩)] 42)).alloc (.cells #[z] T)).alloc (.cells #[.int .i64 0] 25)).alloc (.cells #[.string ⟨r.toArray⟩] 106)) 103 #[.pointer (some ⟨w.heap.size + 1 + 1 + 1, 0, none⟩)]
  have B5 := ((((hb.alloc (.cells #[.pointer (some ⟨b, 0, none⟩)] 42)).alloc (.cells #[z] T)).alloc (.cells #[.int .i64 0] 25)).alloc (.cells #[.string ⟨r.toArray⟩] 106)).alloc (.cells #[.pointer (some ⟨w.heap.size + 1 + 1 + 1, 0, none⟩)] 103)
  have lb := hb.lt
  simp only [asz] at B0 B1 B2 B4 B5
  have hW := five_below b r z T w
  exact ⟨Blk.grown (w := five b r z T w) B0 o1 (some_ne (by omega)), Blk.grown (w := five b r z T w) B1 o1 (some_ne (by omega)), Blk.grown (w := five b r z T w) B2 o1 (some_ne (by omega)), Blk.grown (w := five b r z T w) B4 o1 (some_ne (by omega)), Blk.grown (w := five b r z T w) B5 o1 (some_ne (by omega)),
    below_only hW o1 (by omega) hW.size⟩

/-- Behind the conversion: the results are stored; what the deferred function then asks, and what it leaves. -/
theorem fin_ok {b : Nat} {r r' : List UInt8} {z v : Value} {T : TypeId} {w w1 : World} (B0 : Blk w1 w.heap.size 42 #[.pointer (some ⟨b, 0, none⟩)]) (B1 : Blk w1 (w.heap.size + 1) T #[z]) (B2 : Blk w1 (w.heap.size + 1 + 1) 25 #[.int .i64 0])
    (B4 : Blk w1 (w.heap.size + 1 + 1 + 1 + 1) 103 #[.pointer (some ⟨w.heap.size + 1 + 1 + 1, 0, none⟩)]) (hq : PartAt (w.heap.size + 1 + 1 + 1) r' w1) (hb : RdAt b ⟨r, 0⟩ w1) (bw : Below w.heap.size w w1) (hlt : b < w.heap.size) :
    let W2 := (w1.setCell ⟨w.heap.size + 1, 0, none⟩ v).setCell ⟨w.heap.size + 1 + 1, 0, none⟩ (.int .i64 0)
    Blk W2 w.heap.size 42 #[.pointer (some ⟨b, 0, none⟩)] ∧ Blk W2 (w.heap.size + 1 + 1 + 1 + 1) 103 #[.pointer (some ⟨w.heap.size + 1 + 1 + 1, 0, none⟩)] ∧ PartAt (w.heap.size + 1 + 1 + 1) r' W2 ∧ RdAt b ⟨r, 0⟩ W2 ∧
      (W2.setCell ⟨b, 0, none⟩ (.string ⟨r'.toArray⟩)).drew.cell? ⟨w.heap.size + 1, 0, none⟩ = some v ∧ (W2.setCell ⟨b, 0, none⟩ (.string ⟨r'.toArray⟩)).drew.cell? ⟨w.heap.size + 1 + 1, 0, none⟩ = some (.int .i64 0) ∧
      RdAt b ⟨r', 0⟩ (W2.setCell ⟨b, 0, none⟩ (.string ⟨r'.toArray⟩)).drew ∧ Only w (W2.setCell ⟨b, 0, none⟩ (.string ⟨r'.toArray⟩)).drew b := by
  intro W2
  have hb2 : RdAt b ⟨r, 0⟩ W2 := (Blk.farc hb (by omega) _).farc (by omega) _
  have x2 : Blk W2 (w.heap.size + 1) T #[v] := (B1.set_ 0 v).farc (by omega) _
  have e2 : Blk W2 (w.heap.size + 1 + 1) 25 #[.int .i64 0] := (B2.farc (by omega) _).set_ 0 _
  refine ⟨(B0.farc (by omega) _).farc (by omega) _, (B4.farc (by omega) _).farc (by omega) _, (Blk.farc hq (by omega) _).farc (by omega) _, hb2, ?_, ?_, Blk.drew (Blk.set_ hb2 0 _), ?_⟩
  · exact ((x2.farc (by omega) _).drew).cell 0
  · exact ((e2.farc (by omega) _).drew).cell 0
  · exact (((Only.below (Only.refl w b) bw).setc (.inr (by omega)) _).setc (.inr (by omega)) _).setc (.inl rfl) _ |>.drew

/-- What a throw leaves. -/
theorem fin_lack {b : Nat} {st : RS} {z : Value} {l : Int} {T : TypeId} {w w1 : World} (B1 : Blk w1 (w.heap.size + 1) T #[z]) (B2 : Blk w1 (w.heap.size + 1 + 1) 25 #[.int .i64 0])
    (hb : RdAt b st w1) (bw : Below w.heap.size w w1) (hlt : b < w.heap.size) :
    let W2 := ((((((w1.setCell ⟨w.heap.size + 1, 0, none⟩ z).setCell ⟨w.heap.size + 1 + 1, 0, none⟩ (.int .i64 l)).setCell ⟨b, 0, none⟩ (.string ⟨#[]⟩)).setCell ⟨b, 1, none⟩ (.int .i64 l)).alloc (.cells #[.int .i64 l] 155)).drew.drew)
    W2.cell? ⟨w.heap.size + 1, 0, none⟩ = some z ∧ W2.cell? ⟨w.heap.size + 1 + 1, 0, none⟩ = some (.int .i64 l) ∧ RdAt b ⟨[], l⟩ W2 ∧ Only w W2 b := by
  intro W2
  have hs := bw.size
  have x1 : Blk W2 (w.heap.size + 1) T #[z] := ((((B1.set_ 0 z).farc (by omega) _).farc (by omega) _).farc (by omega) _).alloc _
  have e1 : Blk W2 (w.heap.size + 1 + 1) 25 #[.int .i64 l] := ((((B2.farc (by omega) _).set_ 0 _).farc (by omega) _).farc (by omega) _).alloc _
  have b1 : RdAt b ⟨[], l⟩ W2 := ((((Blk.farc hb (by omega) _).farc (by omega) _).set_ 0 _).set_ 1 _).alloc _
  exact ⟨x1.cell 0, e1.cell 0, b1, ((((((Only.below (Only.refl w b) bw).setc (.inr (by omega)) _).setc (.inr (by omega)) _).setc (.inl rfl) _).setc (.inl rfl) _).alloc _).drew.drew⟩

end Go.Proofs.Ytdnkijljpmcejaa
