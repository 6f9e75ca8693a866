/-
  No cell of these rows narrows 'for every input' (looked for: loops, veiled, ifaces, maps, wideKeys, modest, calm, conditions, laid).
  DERIVED. THE GIVEN ROWS OF THIS SEAT. 11 by the template 'for every input the law returns true; each argument reads behind the call as it read before'; 0 by the template 'total and deterministic' (their statements: YtbibbndjnlnbiaaTotals.lean).
  GIVEN WITH THE SEED: the statements are not yours to turn. If you find one false, say at which input.
  Laid BY PROGRAM, IN A SANDBOX (cutbox-rows.mjs): the forced cells as the released guide's own fill.sh prints them over the translation f4f53d9517c50c64… (all of the seat's roots in one cut). By AI agents, Wed Nov 11 2026. No macro, syntax, notation, axiom, sorry.
-/
import Derived.Test.YtbibbndjnlnbiaaChecked
import GoSem.Claim
import GoSem.ClaimJoined
import GoSem.ClaimMapViews
import Derived.JoinedTies
import Derived.KernelRfl
namespace Go.Proofs.Ytbibbndjnlnbiaa
/- THE CELL 'sum', in the pinned program and in every row, IS THE sha256 OF THE DUMP (.gsa) THAT YtbibbndjnlnbiaaProg.lean LOADS. Nothing in Lean hashes anything: it is a label: what it is worth is what the hold of that sum in a sandbox is worth. -/
noncomputable def Try.pinned : Pinned := { name := "ytbibbndjnlnbiaa", sum := "f4f53d9517c50c64de205abcc28bfd601d63b20bffab217c4e8adccd31e6aaa3", checked := Try.checked }
namespace Rows
def none {H : Type} : Left H := { results := [], args := [] }

/-- 'consistorylaw28.NetCounts': WHATEVER THE INPUT: true; the input reads as it did. -/
def netCountsSpec : ChangeSpec := { name := "netCounts", fn := fun _ => fun
  | [d1, d2] => { results := [.lit (.bool true)], args := [d1, d2] }
  | _ => none }
def netCountsRow : OpenClaim := { program := "ytbibbndjnlnbiaa", sum := "f4f53d9517c50c64de205abcc28bfd601d63b20bffab217c4e8adccd31e6aaa3", func := "consistory/consistorylaw28.NetCounts", spec := "netCounts", unfollowed := true, recurses := true, apart := false }
def NetCountsSaid : Prop := netCountsRow.holds Try.pinned (OpenSpec.ofChange netCountsSpec)

/-- ITS FALSE NEIGHBOUR: 'it returns false'. Refute it at one input. -/
def netCountsWrong : ChangeSpec := { name := "netCounts", fn := fun _ => fun
  | [d1, d2] => { results := [.lit (.bool false)], args := [d1, d2] }
  | _ => none }
def NetCountsWrongFalsely : Prop := netCountsRow.holds Try.pinned (OpenSpec.ofChange netCountsWrong)

/-- 'consistorylaw28.NetRow': WHATEVER THE INPUT: true; the input reads as it did. -/
def netRowSpec : ChangeSpec := { name := "netRow", fn := fun _ => fun
  | [d] => { results := [.lit (.bool true)], args := [d] }
  | _ => none }
def netRowRow : OpenClaim := { program := "ytbibbndjnlnbiaa", sum := "f4f53d9517c50c64de205abcc28bfd601d63b20bffab217c4e8adccd31e6aaa3", func := "consistory/consistorylaw28.NetRow", spec := "netRow", unfollowed := true, recurses := true, apart := false }
def NetRowSaid : Prop := netRowRow.holds Try.pinned (OpenSpec.ofChange netRowSpec)

/-- ITS FALSE NEIGHBOUR: 'it returns false'. Refute it at one input. -/
def netRowWrong : ChangeSpec := { name := "netRow", fn := fun _ => fun
  | [d] => { results := [.lit (.bool false)], args := [d] }
  | _ => none }
def NetRowWrongFalsely : Prop := netRowRow.holds Try.pinned (OpenSpec.ofChange netRowWrong)

/-- 'consistorylaw28.NetAlone': WHATEVER THE INPUT: true; the input reads as it did. -/
def netAloneSpec : ChangeSpec := { name := "netAlone", fn := fun _ => fun
  | [d1, d2, d3] => { results := [.lit (.bool true)], args := [d1, d2, d3] }
  | _ => none }
def netAloneRow : OpenClaim := { program := "ytbibbndjnlnbiaa", sum := "f4f53d9517c50c64de205abcc28bfd601d63b20bffab217c4e8adccd31e6aaa3", func := "consistory/consistorylaw28.NetAlone", spec := "netAlone", inPlace := ["maps.clone"], unfollowed := true, recurses := true, apart := false }
def NetAloneSaid : Prop := netAloneRow.holds Try.pinned (OpenSpec.ofChange netAloneSpec)

/-- ITS FALSE NEIGHBOUR: 'it returns false'. Refute it at one input. -/
def netAloneWrong : ChangeSpec := { name := "netAlone", fn := fun _ => fun
  | [d1, d2, d3] => { results := [.lit (.bool false)], args := [d1, d2, d3] }
  | _ => none }
def NetAloneWrongFalsely : Prop := netAloneRow.holds Try.pinned (OpenSpec.ofChange netAloneWrong)

/-- 'consistorylaw28.NetNames': WHATEVER THE INPUT: true; the input reads as it did. -/
def netNamesSpec : ChangeSpec := { name := "netNames", fn := fun _ => fun
  | [] => { results := [.lit (.bool true)], args := [] }
  | _ => none }
def netNamesRow : OpenClaim := { program := "ytbibbndjnlnbiaa", sum := "f4f53d9517c50c64de205abcc28bfd601d63b20bffab217c4e8adccd31e6aaa3", func := "consistory/consistorylaw28.NetNames", spec := "netNames", inPlace := ["maps.clone"], unfollowed := true, recurses := true, apart := false }
def NetNamesSaid : Prop := netNamesRow.holds Try.pinned (OpenSpec.ofChange netNamesSpec)

/-- ITS FALSE NEIGHBOUR: 'it returns false'. Refute it at one input. -/
def netNamesWrong : ChangeSpec := { name := "netNames", fn := fun _ => fun
  | [] => { results := [.lit (.bool false)], args := [] }
  | _ => none }
def NetNamesWrongFalsely : Prop := netNamesRow.holds Try.pinned (OpenSpec.ofChange netNamesWrong)

/-- 'consistorylaw28.NetPlays': WHATEVER THE INPUT: true; the input reads as it did. -/
def netPlaysSpec : ChangeSpec := { name := "netPlays", fn := fun _ => fun
  | [d1, d2] => { results := [.lit (.bool true)], args := [d1, d2] }
  | _ => none }
def netPlaysRow : OpenClaim := { program := "ytbibbndjnlnbiaa", sum := "f4f53d9517c50c64de205abcc28bfd601d63b20bffab217c4e8adccd31e6aaa3", func := "consistory/consistorylaw28.NetPlays", spec := "netPlays", inPlace := ["maps.clone"], unfollowed := true, recurses := true, apart := false }
def NetPlaysSaid : Prop := netPlaysRow.holds Try.pinned (OpenSpec.ofChange netPlaysSpec)

/-- ITS FALSE NEIGHBOUR: 'it returns false'. Refute it at one input. -/
def netPlaysWrong : ChangeSpec := { name := "netPlays", fn := fun _ => fun
  | [d1, d2] => { results := [.lit (.bool false)], args := [d1, d2] }
  | _ => none }
def NetPlaysWrongFalsely : Prop := netPlaysRow.holds Try.pinned (OpenSpec.ofChange netPlaysWrong)

/-- 'consistorylaw14.MsgNames': WHATEVER THE INPUT: true; the input reads as it did. -/
def msgNamesSpec : ChangeSpec := { name := "msgNames", fn := fun _ => fun
  | [] => { results := [.lit (.bool true)], args := [] }
  | _ => none }
def msgNamesRow : OpenClaim := { program := "ytbibbndjnlnbiaa", sum := "f4f53d9517c50c64de205abcc28bfd601d63b20bffab217c4e8adccd31e6aaa3", func := "consistory/consistorylaw14.MsgNames", spec := "msgNames", inPlace := ["internal/abi.NoEscape"], unfollowed := true, recurses := true, apart := false }
def MsgNamesSaid : Prop := msgNamesRow.holds Try.pinned (OpenSpec.ofChange msgNamesSpec)

/-- ITS FALSE NEIGHBOUR: 'it returns false'. Refute it at one input. -/
def msgNamesWrong : ChangeSpec := { name := "msgNames", fn := fun _ => fun
  | [] => { results := [.lit (.bool false)], args := [] }
  | _ => none }
def MsgNamesWrongFalsely : Prop := msgNamesRow.holds Try.pinned (OpenSpec.ofChange msgNamesWrong)

/-- 'consistorylaw14.MsgLong': WHATEVER THE INPUT: true; the input reads as it did. -/
def msgLongSpec : ChangeSpec := { name := "msgLong", fn := fun _ => fun
  | [d1, d2] => { results := [.lit (.bool true)], args := [d1, d2] }
  | _ => none }
def msgLongRow : OpenClaim := { program := "ytbibbndjnlnbiaa", sum := "f4f53d9517c50c64de205abcc28bfd601d63b20bffab217c4e8adccd31e6aaa3", func := "consistory/consistorylaw14.MsgLong", spec := "msgLong", inPlace := ["internal/abi.NoEscape"], unfollowed := true, recurses := true, apart := false }
def MsgLongSaid : Prop := msgLongRow.holds Try.pinned (OpenSpec.ofChange msgLongSpec)

/-- ITS FALSE NEIGHBOUR: 'it returns false'. Refute it at one input. -/
def msgLongWrong : ChangeSpec := { name := "msgLong", fn := fun _ => fun
  | [d1, d2] => { results := [.lit (.bool false)], args := [d1, d2] }
  | _ => none }
def MsgLongWrongFalsely : Prop := msgLongRow.holds Try.pinned (OpenSpec.ofChange msgLongWrong)

/-- 'consistorylaw14.MsgWhole': WHATEVER THE INPUT: true; the input reads as it did. -/
def msgWholeSpec : ChangeSpec := { name := "msgWhole", fn := fun _ => fun
  | [d1, d2, d3] => { results := [.lit (.bool true)], args := [d1, d2, d3] }
  | _ => none }
def msgWholeRow : OpenClaim := { program := "ytbibbndjnlnbiaa", sum := "f4f53d9517c50c64de205abcc28bfd601d63b20bffab217c4e8adccd31e6aaa3", func := "consistory/consistorylaw14.MsgWhole", spec := "msgWhole", inPlace := ["internal/abi.NoEscape"], unfollowed := true, recurses := true, apart := false }
def MsgWholeSaid : Prop := msgWholeRow.holds Try.pinned (OpenSpec.ofChange msgWholeSpec)

/-- ITS FALSE NEIGHBOUR: 'it returns false'. Refute it at one input. -/
def msgWholeWrong : ChangeSpec := { name := "msgWhole", fn := fun _ => fun
  | [d1, d2, d3] => { results := [.lit (.bool false)], args := [d1, d2, d3] }
  | _ => none }
def MsgWholeWrongFalsely : Prop := msgWholeRow.holds Try.pinned (OpenSpec.ofChange msgWholeWrong)

/-- 'consistorylaw14.MsgNamed': WHATEVER THE INPUT: true; the input reads as it did. -/
def msgNamedSpec : ChangeSpec := { name := "msgNamed", fn := fun _ => fun
  | [d1, d2] => { results := [.lit (.bool true)], args := [d1, d2] }
  | _ => none }
def msgNamedRow : OpenClaim := { program := "ytbibbndjnlnbiaa", sum := "f4f53d9517c50c64de205abcc28bfd601d63b20bffab217c4e8adccd31e6aaa3", func := "consistory/consistorylaw14.MsgNamed", spec := "msgNamed", inPlace := ["internal/abi.NoEscape"], unfollowed := true, recurses := true, apart := false }
def MsgNamedSaid : Prop := msgNamedRow.holds Try.pinned (OpenSpec.ofChange msgNamedSpec)

/-- ITS FALSE NEIGHBOUR: 'it returns false'. Refute it at one input. -/
def msgNamedWrong : ChangeSpec := { name := "msgNamed", fn := fun _ => fun
  | [d1, d2] => { results := [.lit (.bool false)], args := [d1, d2] }
  | _ => none }
def MsgNamedWrongFalsely : Prop := msgNamedRow.holds Try.pinned (OpenSpec.ofChange msgNamedWrong)

/-- 'consistorylaw14.MsgTells': WHATEVER THE INPUT: true; the input reads as it did. -/
def msgTellsSpec : ChangeSpec := { name := "msgTells", fn := fun _ => fun
  | [d1, d2, d3] => { results := [.lit (.bool true)], args := [d1, d2, d3] }
  | _ => none }
def msgTellsRow : OpenClaim := { program := "ytbibbndjnlnbiaa", sum := "f4f53d9517c50c64de205abcc28bfd601d63b20bffab217c4e8adccd31e6aaa3", func := "consistory/consistorylaw14.MsgTells", spec := "msgTells", inPlace := ["internal/abi.NoEscape"], unfollowed := true, recurses := true, apart := false }
def MsgTellsSaid : Prop := msgTellsRow.holds Try.pinned (OpenSpec.ofChange msgTellsSpec)

/-- ITS FALSE NEIGHBOUR: 'it returns false'. Refute it at one input. -/
def msgTellsWrong : ChangeSpec := { name := "msgTells", fn := fun _ => fun
  | [d1, d2, d3] => { results := [.lit (.bool false)], args := [d1, d2, d3] }
  | _ => none }
def MsgTellsWrongFalsely : Prop := msgTellsRow.holds Try.pinned (OpenSpec.ofChange msgTellsWrong)

/-- 'consistorylaw14.MsgBack': WHATEVER THE INPUT: true; the input reads as it did. -/
def msgBackSpec : ChangeSpec := { name := "msgBack", fn := fun _ => fun
  | [d1, d2] => { results := [.lit (.bool true)], args := [d1, d2] }
  | _ => none }
def msgBackRow : OpenClaim := { program := "ytbibbndjnlnbiaa", sum := "f4f53d9517c50c64de205abcc28bfd601d63b20bffab217c4e8adccd31e6aaa3", func := "consistory/consistorylaw14.MsgBack", spec := "msgBack", inPlace := ["internal/abi.NoEscape"], unfollowed := true, recurses := true, apart := false }
def MsgBackSaid : Prop := msgBackRow.holds Try.pinned (OpenSpec.ofChange msgBackSpec)

/-- ITS FALSE NEIGHBOUR: 'it returns false'. Refute it at one input. -/
def msgBackWrong : ChangeSpec := { name := "msgBack", fn := fun _ => fun
  | [d1, d2] => { results := [.lit (.bool false)], args := [d1, d2] }
  | _ => none }
def MsgBackWrongFalsely : Prop := msgBackRow.holds Try.pinned (OpenSpec.ofChange msgBackWrong)

/- THE SECOND FORM. 'bulk': how many values and letters a reading holds, each counted each time it is reached (what is shared counts as often as it is met; a slice's spare places count too). A statement '..UptoSaid' is the law's where the arguments, and the package variables that the reading takes, are together of bulk at most 1048576: NARROWER than '..Said'. Prove '..Said' where nothing that the law and all that it calls make is longer than what came in: it says more and counts as full. Else prove '..UptoSaid'. A law counts once. -/
mutual
def uptoBulk {H : Type} : DataW H → Nat
  | .lit (.string bytes) => bytes.length + 1
  | .lit _ => 1
  | .nil => 1
  | .ptr d => uptoBulk d + 1
  | .slice elems spare => uptoBulkAll elems + uptoBulkAll spare + 1
  | .agg parts => uptoBulkAll parts + 1
  | .iface _ d => uptoBulk d + 1
  | .map entries => uptoBulkEntries entries + 1
  | .held _ => 1
def uptoBulkAll {H : Type} : List (DataW H) → Nat
  | [] => 0
  | d :: r => uptoBulk d + uptoBulkAll r
def uptoBulkEntries {H : Type} : List (Lit × DataW H) → Nat
  | [] => 0
  | x :: r => uptoBulkEntry x + uptoBulkEntries r
def uptoBulkEntry {H : Type} : Lit × DataW H → Nat
  | (.string bytes, d) => bytes.length + uptoBulk d + 1
  | (_, d) => uptoBulk d + 1
 end
def uptoSmall : (H : Type) → List (DataW H) → Bool := fun _ ds => decide (uptoBulkAll ds ≤ 1048576)
def OpenSpec.upto (s : _root_.Go.ChangeSpec) : _root_.Go.OpenSpec := { _root_.Go.OpenSpec.ofChange s with cond := some uptoSmall }

/-- 'consistorylaw28.NetCounts', WHERE WHAT IT READS IS OF BULK AT MOST 1048576: true; the input reads as it did. -/
def netCountsUptoRow : OpenClaim := { program := "ytbibbndjnlnbiaa", sum := "f4f53d9517c50c64de205abcc28bfd601d63b20bffab217c4e8adccd31e6aaa3", func := "consistory/consistorylaw28.NetCounts", spec := "netCounts", unfollowed := true, recurses := true, apart := false, narrowed := true }
def NetCountsUptoSaid : Prop := netCountsUptoRow.holds Try.pinned (OpenSpec.upto netCountsSpec)

/-- 'consistorylaw28.NetRow', WHERE WHAT IT READS IS OF BULK AT MOST 1048576: true; the input reads as it did. -/
def netRowUptoRow : OpenClaim := { program := "ytbibbndjnlnbiaa", sum := "f4f53d9517c50c64de205abcc28bfd601d63b20bffab217c4e8adccd31e6aaa3", func := "consistory/consistorylaw28.NetRow", spec := "netRow", unfollowed := true, recurses := true, apart := false, narrowed := true }
def NetRowUptoSaid : Prop := netRowUptoRow.holds Try.pinned (OpenSpec.upto netRowSpec)

/-- 'consistorylaw28.NetAlone', WHERE WHAT IT READS IS OF BULK AT MOST 1048576: true; the input reads as it did. -/
def netAloneUptoRow : OpenClaim := { program := "ytbibbndjnlnbiaa", sum := "f4f53d9517c50c64de205abcc28bfd601d63b20bffab217c4e8adccd31e6aaa3", func := "consistory/consistorylaw28.NetAlone", spec := "netAlone", inPlace := ["maps.clone"], unfollowed := true, recurses := true, apart := false, narrowed := true }
def NetAloneUptoSaid : Prop := netAloneUptoRow.holds Try.pinned (OpenSpec.upto netAloneSpec)

/-- 'consistorylaw28.NetNames', WHERE WHAT IT READS IS OF BULK AT MOST 1048576: true; the input reads as it did. -/
def netNamesUptoRow : OpenClaim := { program := "ytbibbndjnlnbiaa", sum := "f4f53d9517c50c64de205abcc28bfd601d63b20bffab217c4e8adccd31e6aaa3", func := "consistory/consistorylaw28.NetNames", spec := "netNames", inPlace := ["maps.clone"], unfollowed := true, recurses := true, apart := false, narrowed := true }
def NetNamesUptoSaid : Prop := netNamesUptoRow.holds Try.pinned (OpenSpec.upto netNamesSpec)

/-- 'consistorylaw28.NetPlays', WHERE WHAT IT READS IS OF BULK AT MOST 1048576: true; the input reads as it did. -/
def netPlaysUptoRow : OpenClaim := { program := "ytbibbndjnlnbiaa", sum := "f4f53d9517c50c64de205abcc28bfd601d63b20bffab217c4e8adccd31e6aaa3", func := "consistory/consistorylaw28.NetPlays", spec := "netPlays", inPlace := ["maps.clone"], unfollowed := true, recurses := true, apart := false, narrowed := true }
def NetPlaysUptoSaid : Prop := netPlaysUptoRow.holds Try.pinned (OpenSpec.upto netPlaysSpec)

/-- 'consistorylaw14.MsgNames', WHERE WHAT IT READS IS OF BULK AT MOST 1048576: true; the input reads as it did. -/
def msgNamesUptoRow : OpenClaim := { program := "ytbibbndjnlnbiaa", sum := "f4f53d9517c50c64de205abcc28bfd601d63b20bffab217c4e8adccd31e6aaa3", func := "consistory/consistorylaw14.MsgNames", spec := "msgNames", inPlace := ["internal/abi.NoEscape"], unfollowed := true, recurses := true, apart := false, narrowed := true }
def MsgNamesUptoSaid : Prop := msgNamesUptoRow.holds Try.pinned (OpenSpec.upto msgNamesSpec)

/-- 'consistorylaw14.MsgLong', WHERE WHAT IT READS IS OF BULK AT MOST 1048576: true; the input reads as it did. -/
def msgLongUptoRow : OpenClaim := { program := "ytbibbndjnlnbiaa", sum := "f4f53d9517c50c64de205abcc28bfd601d63b20bffab217c4e8adccd31e6aaa3", func := "consistory/consistorylaw14.MsgLong", spec := "msgLong", inPlace := ["internal/abi.NoEscape"], unfollowed := true, recurses := true, apart := false, narrowed := true }
def MsgLongUptoSaid : Prop := msgLongUptoRow.holds Try.pinned (OpenSpec.upto msgLongSpec)

/-- 'consistorylaw14.MsgWhole', WHERE WHAT IT READS IS OF BULK AT MOST 1048576: true; the input reads as it did. -/
def msgWholeUptoRow : OpenClaim := { program := "ytbibbndjnlnbiaa", sum := "f4f53d9517c50c64de205abcc28bfd601d63b20bffab217c4e8adccd31e6aaa3", func := "consistory/consistorylaw14.MsgWhole", spec := "msgWhole", inPlace := ["internal/abi.NoEscape"], unfollowed := true, recurses := true, apart := false, narrowed := true }
def MsgWholeUptoSaid : Prop := msgWholeUptoRow.holds Try.pinned (OpenSpec.upto msgWholeSpec)

/-- 'consistorylaw14.MsgNamed', WHERE WHAT IT READS IS OF BULK AT MOST 1048576: true; the input reads as it did. -/
def msgNamedUptoRow : OpenClaim := { program := "ytbibbndjnlnbiaa", sum := "f4f53d9517c50c64de205abcc28bfd601d63b20bffab217c4e8adccd31e6aaa3", func := "consistory/consistorylaw14.MsgNamed", spec := "msgNamed", inPlace := ["internal/abi.NoEscape"], unfollowed := true, recurses := true, apart := false, narrowed := true }
def MsgNamedUptoSaid : Prop := msgNamedUptoRow.holds Try.pinned (OpenSpec.upto msgNamedSpec)

/-- 'consistorylaw14.MsgTells', WHERE WHAT IT READS IS OF BULK AT MOST 1048576: true; the input reads as it did. -/
def msgTellsUptoRow : OpenClaim := { program := "ytbibbndjnlnbiaa", sum := "f4f53d9517c50c64de205abcc28bfd601d63b20bffab217c4e8adccd31e6aaa3", func := "consistory/consistorylaw14.MsgTells", spec := "msgTells", inPlace := ["internal/abi.NoEscape"], unfollowed := true, recurses := true, apart := false, narrowed := true }
def MsgTellsUptoSaid : Prop := msgTellsUptoRow.holds Try.pinned (OpenSpec.upto msgTellsSpec)

/-- 'consistorylaw14.MsgBack', WHERE WHAT IT READS IS OF BULK AT MOST 1048576: true; the input reads as it did. -/
def msgBackUptoRow : OpenClaim := { program := "ytbibbndjnlnbiaa", sum := "f4f53d9517c50c64de205abcc28bfd601d63b20bffab217c4e8adccd31e6aaa3", func := "consistory/consistorylaw14.MsgBack", spec := "msgBack", inPlace := ["internal/abi.NoEscape"], unfollowed := true, recurses := true, apart := false, narrowed := true }
def MsgBackUptoSaid : Prop := msgBackUptoRow.holds Try.pinned (OpenSpec.upto msgBackSpec)

end Rows
end Go.Proofs.Ytbibbndjnlnbiaa
