/-
  The contracts of strings.Builder (copyCheck, WriteByte, WriteString, String) off the kit's shelf, laid at this seat's program.
-/
import Derived.Shelf.Strings.Builder1
import Derived.Shelf.Strings.BuilderF
import Derived.Shelf.Strings.BuilderK
import Derived.Test.YtdnkijljpmcejaaProg
namespace Go.Proofs.Ytdnkijljpmcejaa
open Go.Shelf Go.RowKit

def ren : Go.Shelf.Ren := ⟨fun
  | 166 => 60 | 167 => 112 | 169 => 61 | 240 => 113 | 276 => 128 | n => n, fun
  | 0 => 0 | 3 => 3 | 4 => 4 | 5 => 5 | 9 => 9 | 20 => 20 | 37 => 37 | 70 => 90 | 72 => 92
  | 75 => 94 | 80 => 97 | 127 => 153 | 164 => 161 | n => n, fun | n => n⟩

theorem lays240 : Go.Proofs.Lays.n240 Try.prog ren := {
  mixed := by kernel_rfl
  f240 := Try.func113.trans (congrArg some (by kernel_rfl))
  f276 := Try.func128.trans (congrArg some (by kernel_rfl))
  t0 := Try.underlying0
  a0 := Try.isAgg0
  z0 := Try.sizeOf0
  v0 := Try.zeroValue0
  t4 := Try.underlying4
  a4 := Try.isAgg4
  z4 := Try.sizeOf4
  v4 := Try.zeroValue4
  t9 := Try.underlying9
  a9 := Try.isAgg9
  z9 := Try.sizeOf9
  v9 := Try.zeroValue9
  t20 := Try.underlying20
  a20 := Try.isAgg20
  z20 := Try.sizeOf20
  v20 := Try.zeroValue20
  t70 := Try.underlying90
  a70 := Try.isAgg90
  z70 := Try.sizeOf90
  v70 := Try.zeroValue90
  t72 := Try.underlying92
  a72 := Try.isAgg92
  z72 := Try.sizeOf92
  v72 := Try.zeroValue92
  t164 := Try.underlying161
  a164 := Try.isAgg161
  z164 := Try.sizeOf161
  v164 := Try.zeroValue161 }

theorem lays167 : Go.Proofs.Lays.n167 Try.prog ren := {
  mixed := by kernel_rfl
  f167 := Try.func112.trans (congrArg some (by kernel_rfl))
  f240 := lays240.f240
  f276 := lays240.f276
  t0 := lays240.t0
  a0 := lays240.a0
  z0 := lays240.z0
  v0 := lays240.v0
  t4 := lays240.t4
  a4 := lays240.a4
  z4 := lays240.z4
  v4 := lays240.v4
  t5 := Try.underlying5
  a5 := Try.isAgg5
  z5 := Try.sizeOf5
  v5 := Try.zeroValue5
  t9 := lays240.t9
  a9 := lays240.a9
  z9 := lays240.z9
  v9 := lays240.v9
  t20 := lays240.t20
  a20 := lays240.a20
  z20 := lays240.z20
  v20 := lays240.v20
  t37 := Try.underlying37
  a37 := Try.isAgg37
  z37 := Try.sizeOf37
  v37 := Try.zeroValue37
  t70 := lays240.t70
  a70 := lays240.a70
  z70 := lays240.z70
  v70 := lays240.v70
  t72 := lays240.t72
  a72 := lays240.a72
  z72 := lays240.z72
  v72 := lays240.v72
  t75 := Try.underlying94
  a75 := Try.isAgg94
  z75 := Try.sizeOf94
  v75 := Try.zeroValue94
  t164 := lays240.t164
  a164 := lays240.a164
  z164 := lays240.z164
  v164 := lays240.v164 }

theorem lays166 : Go.Proofs.Lays.n166 Try.prog ren := {
  mixed := by kernel_rfl
  f166 := Try.func60.trans (congrArg some (by kernel_rfl))
  f240 := lays240.f240
  f276 := lays240.f276
  t0 := lays240.t0
  a0 := lays240.a0
  z0 := lays240.z0
  v0 := lays240.v0
  t3 := Try.underlying3
  a3 := Try.isAgg3
  z3 := Try.sizeOf3
  v3 := Try.zeroValue3
  t4 := lays240.t4
  a4 := lays240.a4
  z4 := lays240.z4
  v4 := lays240.v4
  t9 := lays240.t9
  a9 := lays240.a9
  z9 := lays240.z9
  v9 := lays240.v9
  t20 := lays240.t20
  a20 := lays240.a20
  z20 := lays240.z20
  v20 := lays240.v20
  t37 := lays167.t37
  a37 := lays167.a37
  z37 := lays167.z37
  v37 := lays167.v37
  t70 := lays240.t70
  a70 := lays240.a70
  z70 := lays240.z70
  v70 := lays240.v70
  t72 := lays240.t72
  a72 := lays240.a72
  z72 := lays240.z72
  v72 := lays240.v72
  t75 := lays167.t75
  a75 := lays167.a75
  z75 := lays167.z75
  v75 := lays167.v75
  t164 := lays240.t164
  a164 := lays240.a164
  z164 := lays240.z164
  v164 := lays240.v164 }

theorem lays169 : Go.Proofs.Lays.n169 Try.prog ren := {
  mixed := by kernel_rfl
  f169 := Try.func61.trans (congrArg some (by kernel_rfl))
  t0 := lays240.t0
  a0 := lays240.a0
  z0 := lays240.z0
  v0 := lays240.v0
  t3 := lays166.t3
  a3 := lays166.a3
  z3 := lays166.z3
  v3 := lays166.v3
  t9 := lays240.t9
  a9 := lays240.a9
  z9 := lays240.z9
  v9 := lays240.v9
  t37 := lays167.t37
  a37 := lays167.a37
  z37 := lays167.z37
  v37 := lays167.v37
  t70 := lays240.t70
  a70 := lays240.a70
  z70 := lays240.z70
  v70 := lays240.v70
  t72 := lays240.t72
  a72 := lays240.a72
  z72 := lays240.z72
  v72 := lays240.v72
  t127 := Try.underlying153
  a127 := Try.isAgg153
  z127 := Try.sizeOf153
  v127 := Try.zeroValue153 }

theorem extra : Builder.Extra Try.prog ren := {
  sizeBuilder := by kernel_rfl
  liesBuilder := by kernel_rfl
  t5 := lays167.t5
  a5 := lays167.a5
  z5 := lays167.z5
  v5 := lays167.v5
  infoByte := by kernel_rfl
  cellsByte := by kernel_rfl
  sizeByte := by kernel_rfl
  neB5 := by decide }

theorem sb_WriteByte (B b : Nat) (bs : List Value) (c : Int) (w : World) (h : Lib.IsBuilderF 92 5 B b bs w) (hlen : bs.length + 1 ≤ 140737488355328) (hBw : B ≤ w.heap.size) :
    Calls Try.prog 112 #[.pointer (some ⟨b, 0, none⟩), .int .u8 c] w fun e w' => e = .returned .nilIface ∧ (Lib.BuilderAtF 92 5 B b (.pointer (some ⟨b, 0, none⟩)) (bs ++ [.int .u8 c]) w' ∧ Below B w w' ∧ Lib.OthersKept 5 (some b) w w') :=
  Any.Builder_WriteByte_k lays167 extra B b bs c w h hlen hBw

theorem sb_WriteString (B b : Nat) (bs : List Value) (s : ByteArray) (w : World) (h : Lib.IsBuilderF 92 5 B b bs w) (hlen : bs.length + s.size ≤ 140737488355328) (hBw : B ≤ w.heap.size) :
    Calls Try.prog 60 #[.pointer (some ⟨b, 0, none⟩), .string s] w fun e w' => e = .returned (.tuple #[.int .i64 s.size, .nilIface]) ∧ (Lib.BuilderAtF 92 5 B b (.pointer (some ⟨b, 0, none⟩)) (bs ++ Lib.strCells s) w' ∧ Below B w w' ∧ Lib.OthersKept 5 (some b) w w') :=
  Any.Builder_WriteString_k lays166 extra B b bs s w h hlen hBw

theorem sb_String (B b : Nat) (l : List UInt8) (w : World) (h : Lib.IsBuilderF 92 5 B b (Lib.byteCells l) w) (hBw : B ≤ w.heap.size) :
    Calls Try.prog 61 #[.pointer (some ⟨b, 0, none⟩)] w fun e w' => e = .returned (.string ⟨l.toArray⟩) ∧ (Lib.IsBuilderF 92 5 B b (Lib.byteCells l) w' ∧ Below B w w' ∧ Lib.OthersKept 5 (some b) w w') :=
  Any.Builder_String_any_k lays169 extra B b l w h hBw

end Go.Proofs.Ytdnkijljpmcejaa
