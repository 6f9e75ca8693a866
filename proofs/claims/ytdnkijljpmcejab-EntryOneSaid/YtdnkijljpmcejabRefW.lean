/-
  consistoryref09: two, eight, Byte, Num, Int, Text, List: the document's bytes.
-/
import Derived.Test.YtdnkijljpmcejabWrite
import Derived.LoopN
namespace Go.Proofs.Ytdnkijljpmcejab
open Go.RowKit

theorem u8_of (n i : Nat) : ((UInt8.ofNat (n / 256 ^ i)).toNat : Int) = (n : Int) / ((256 ^ i : Nat) : Int) % 256 := by
  rw [UInt8.toNat_ofNat']
  simp

/-- string(b), b new memory that holds bytes. -/
theorem conv_new (l : List UInt8) (cs : Array Value) (hcs : cs = (Lib.byteCells l).toArray) (w : World) (c : Nat) :
    (convert 75 9 (.slice (some ⟨w.heap.size, 0, none⟩) l.length c)).run Try.prog (w.alloc (.cells cs 5)) = .ok (.string ⟨l.toArray⟩) (w.alloc (.cells cs 5)) := by
  refine run_convert_bytes_back _ _ _ 5 _ c l Try.underlying75 Try.underlying5 Try.underlying9 fun j hj => ?_
  rw [Addr.add_lit, Nat.zero_add, World.cell?_alloc_mark, hcs]
  simp [Lib.byteCells, hj]

end Go.Proofs.Ytdnkijljpmcejab
