/-
  consistorylaw09.WireLengths: the walk, whatever the kind.
-/
import Derived.Test.YtdnkijljpmcejaaLensL
namespace Go.Proofs.Ytdnkijljpmcejaa
open Go.RowKit

theorem lens_any (t o : Th) (a a' : Option Addr) (c c' : Nat) (w : World) (ht : Fit t) (ho : Fit o) (ha : Nums .u64 w w.heap.size a t.l) (ha' : Nums .u64 w w.heap.size a' o.l) :
    Calls Try.prog 4 #[t.val a c, o.val a' c'] w (TruePost w) := by
  by_cases h3 : t.k = 3
  · exact lens_text t o a a' c c' w ht ho ha ha' h3
  by_cases h4 : t.k = 4
  · exact lens_list t o a a' c c' w ht ho ha ha' h4
  exact lens_num t o a a' c c' w ht ho ha ha' h3 h4
end Go.Proofs.Ytdnkijljpmcejaa
