/-
  The contracts of strings.Builder (copyCheck, WriteByte, WriteString, String) off the kit's shelf, laid at this seat's program.
-/
import Derived.Shelf.Strings.Builder1
import Derived.Shelf.Strings.BuilderF
import Derived.Shelf.Strings.BuilderK
import Derived.Test.YtdnkijljpmcejaaGreatProg
namespace Go.Proofs.YtdnkijljpmcejaaGreat
open Go.Shelf Go.RowKit

def ren : Go.Shelf.Ren := ⟨fun
  | 166 => 96 | 167 => 97 | 169 => 98 | 240 => 107 | 276 => 109 | n => n, fun
  | 0 => 0 | 3 => 3 | 4 => 4 | 5 => 5 | 9 => 9 | 20 => 20 | 37 => 95 | 70 => 122 | 72 => 124
  | 75 => 126 | 80 => 130 | 127 => 137 | 164 => 138 | n => n, fun | n => n⟩

theorem lays240 : Go.Proofs.Lays.n240 Tryz.prog ren := {
  mixed := by kernel_rfl
  f240 := Tryz.func107.trans (congrArg some (by kernel_rfl))
  f276 := Tryz.func109.trans (congrArg some (by kernel_rfl))
  t0 := Tryz.underlying0
  a0 := Tryz.isAgg0
  z0 := Tryz.sizeOf0
  v0 := Tryz.zeroValue0
  t4 := Tryz.underlying4
  a4 := Tryz.isAgg4
  z4 := Tryz.sizeOf4
  v4 := Tryz.zeroValue4
  t9 := Tryz.underlying9
  a9 := Tryz.isAgg9
  z9 := Tryz.sizeOf9
  v9 := Tryz.zeroValue9
  t20 := Tryz.underlying20
  a20 := Tryz.isAgg20
  z20 := Tryz.sizeOf20
  v20 := Tryz.zeroValue20
  t70 := Tryz.underlying122
  a70 := Tryz.isAgg122
  z70 := Tryz.sizeOf122
  v70 := Tryz.zeroValue122
  t72 := Tryz.underlying124
  a72 := Tryz.isAgg124
  z72 := Tryz.sizeOf124
  v72 := Tryz.zeroValue124
  t164 := Tryz.underlying138
  a164 := Tryz.isAgg138
  z164 := Tryz.sizeOf138
  v164 := Tryz.zeroValue138 }

theorem lays167 : Go.Proofs.Lays.n167 Tryz.prog ren := {
  mixed := by kernel_rfl
  f167 := Tryz.func97.trans (congrArg some (by kernel_rfl))
  f240 := lays240.f240
  f276 := lays240.f276
  t0 := lays240.t0
  a0 := lays240.a0
  z0 := lays240.z0
  v0 := lays240.v0
  t4 := lays240.t4
  a4 := lays240.a4
  z4 := lays240.z4
  v4 := lays240.v4
  t5 := Tryz.underlying5
  a5 := Tryz.isAgg5
  z5 := Tryz.sizeOf5
  v5 := Tryz.zeroValue5
  t9 := lays240.t9
  a9 := lays240.a9
  z9 := lays240.z9
  v9 := lays240.v9
  t20 := lays240.t20
  a20 := lays240.a20
  z20 := lays240.z20
  v20 := lays240.v20
  t37 := Tryz.underlying95
  a37 := Tryz.isAgg95
  z37 := Tryz.sizeOf95
  v37 := Tryz.zeroValue95
  t70 := lays240.t70
  a70 := lays240.a70
  z70 := lays240.z70
  v70 := lays240.v70
  t72 := lays240.t72
  a72 := lays240.a72
  z72 := lays240.z72
  v72 := lays240.v72
  t75 := Tryz.underlying126
  a75 := Tryz.isAgg126
  z75 := Tryz.sizeOf126
  v75 := Tryz.zeroValue126
  t164 := lays240.t164
  a164 := lays240.a164
  z164 := lays240.z164
  v164 := lays240.v164 }

theorem lays166 : Go.Proofs.Lays.n166 Tryz.prog ren := {
  mixed := by kernel_rfl
  f166 := Tryz.func96.trans (congrArg some (by kernel_rfl))
  f240 := lays240.f240
  f276 := lays240.f276
  t0 := lays240.t0
  a0 := lays240.a0
  z0 := lays240.z0
  v0 := lays240.v0
  t3 := Tryz.underlying3
  a3 := Tryz.isAgg3
  z3 := Tryz.sizeOf3
  v3 := Tryz.zeroValue3
  t4 := lays240.t4
  a4 := lays240.a4
  z4 := lays240.z4
  v4 := lays240.v4
  t9 := lays240.t9
  a9 := lays240.a9
  z9 := lays240.z9
  v9 := lays240.v9
  t20 := lays240.t20
  a20 := lays240.a20
  z20 := lays240.z20
  v20 := lays240.v20
  t37 := lays167.t37
  a37 := lays167.a37
  z37 := lays167.z37
  v37 := lays167.v37
  t70 := lays240.t70
  a70 := lays240.a70
  z70 := lays240.z70
  v70 := lays240.v70
  t72 := lays240.t72
  a72 := lays240.a72
  z72 := lays240.z72
  v72 := lays240.v72
  t75 := lays167.t75
  a75 := lays167.a75
  z75 := lays167.z75
  v75 := lays167.v75
  t164 := lays240.t164
  a164 := lays240.a164
  z164 := lays240.z164
  v164 := lays240.v164 }

theorem lays169 : Go.Proofs.Lays.n169 Tryz.prog ren := {
  mixed := by kernel_rfl
  f169 := Tryz.func98.trans (congrArg some (by kernel_rfl))
  t0 := lays240.t0
  a0 := lays240.a0
  z0 := lays240.z0
  v0 := lays240.v0
  t3 := lays166.t3
  a3 := lays166.a3
  z3 := lays166.z3
  v3 := lays166.v3
  t9 := lays240.t9
  a9 := lays240.a9
  z9 := lays240.z9
  v9 := lays240.v9
  t37 := lays167.t37
  a37 := lays167.a37
  z37 := lays167.z37
  v37 := lays167.v37
  t70 := lays240.t70
  a70 := lays240.a70
  z70 := lays240.z70
  v70 := lays240.v70
  t72 := lays240.t72
  a72 := lays240.a72
  z72 := lays240.z72
  v72 := lays240.v72
  t127 := Tryz.underlying137
  a127 := Tryz.isAgg137
  z127 := Tryz.sizeOf137
  v127 := Tryz.zeroValue137 }

theorem extra : Builder.Extra Tryz.prog ren := {
  sizeBuilder := by kernel_rfl
  liesBuilder := by kernel_rfl
  t5 := lays167.t5
  a5 := lays167.a5
  z5 := lays167.z5
  v5 := lays167.v5
  infoByte := by kernel_rfl
  cellsByte := by kernel_rfl
  sizeByte := by kernel_rfl
  neB5 := by decide }

theorem sb_WriteByte (B b : Nat) (bs : List Value) (c : Int) (w : World) (h : Lib.IsBuilderF 124 5 B b bs w) (hlen : bs.length + 1 ≤ 140737488355328) (hBw : B ≤ w.heap.size) :
    Calls Tryz.prog 97 #[.pointer (some ⟨b, 0, none⟩), .int .u8 c] w fun e w' => e = .returned .nilIface ∧ (Lib.BuilderAtF 124 5 B b (.pointer (some ⟨b, 0, none⟩)) (bs ++ [.int .u8 c]) w' ∧ Below B w w' ∧ Lib.OthersKept 5 (some b) w w') :=
  Any.Builder_WriteByte_k lays167 extra B b bs c w h hlen hBw

theorem sb_WriteString (B b : Nat) (bs : List Value) (s : ByteArray) (w : World) (h : Lib.IsBuilderF 124 5 B b bs w) (hlen : bs.length + s.size ≤ 140737488355328) (hBw : B ≤ w.heap.size) :
    Calls Tryz.prog 96 #[.pointer (some ⟨b, 0, none⟩), .string s] w fun e w' => e = .returned (.tuple #[.int .i64 s.size, .nilIface]) ∧ (Lib.BuilderAtF 124 5 B b (.pointer (some ⟨b, 0, none⟩)) (bs ++ Lib.strCells s) w' ∧ Below B w w' ∧ Lib.OthersKept 5 (some b) w w') :=
  Any.Builder_WriteString_k lays166 extra B b bs s w h hlen hBw

theorem sb_String (B b : Nat) (l : List UInt8) (w : World) (h : Lib.IsBuilderF 124 5 B b (Lib.byteCells l) w) (hBw : B ≤ w.heap.size) :
    Calls Tryz.prog 98 #[.pointer (some ⟨b, 0, none⟩)] w fun e w' => e = .returned (.string ⟨l.toArray⟩) ∧ (Lib.IsBuilderF 124 5 B b (Lib.byteCells l) w' ∧ Below B w w' ∧ Lib.OthersKept 5 (some b) w w') :=
  Any.Builder_String_any_k lays169 extra B b l w h hBw

end Go.Proofs.YtdnkijljpmcejaaGreat
