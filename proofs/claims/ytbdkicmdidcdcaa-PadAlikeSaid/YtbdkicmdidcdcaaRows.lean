/-
  No cell of these rows narrows 'for every input' (looked for: loops, veiled, ifaces, maps, wideKeys, modest, calm, conditions, laid).
  DERIVED. THE GIVEN ROWS OF THIS SEAT. 11 by the template 'for every input the law returns true; each argument reads behind the call as it read before'; 0 by the template 'total and deterministic' (their statements: YtbdkicmdidcdcaaTotals.lean).
  GIVEN WITH THE SEED: the statements are not yours to turn. If you find one false, say at which input.
  Laid BY PROGRAM, IN A SANDBOX (cutbox-rows.mjs): the forced cells as the released guide's own fill.sh prints them over the translation c1823248b381536b… (all of the seat's roots in one cut). By AI agents, Wed Nov 11 2026. No macro, syntax, notation, axiom, sorry.
-/
import Derived.Test.YtbdkicmdidcdcaaChecked
import GoSem.Claim
import GoSem.ClaimJoined
import GoSem.ClaimMapViews
import Derived.JoinedTies
import Derived.KernelRfl
namespace Go.Proofs.Ytbdkicmdidcdcaa
/- THE CELL 'sum', in the pinned program and in every row, IS THE sha256 OF THE DUMP (.gsa) THAT YtbdkicmdidcdcaaProg.lean LOADS. Nothing in Lean hashes anything: it is a label: what it is worth is what the hold of that sum in a sandbox is worth. -/
noncomputable def Try.pinned : Pinned := { name := "ytbdkicmdidcdcaa", sum := "c1823248b381536b55d6c4f556cd1707d5ffb17f0837993f1157b68cb41ac3fa", checked := Try.checked }
namespace Rows
def none {H : Type} : Left H := { results := [], args := [] }

/-- 'indenturelaw9.KeysAll': WHATEVER THE INPUT: true; the input reads as it did. -/
def keysAllSpec : ChangeSpec := { name := "keysAll", fn := fun _ => fun
  | [d1, d2, d3] => { results := [.lit (.bool true)], args := [d1, d2, d3] }
  | _ => none }
def keysAllRow : OpenClaim := { program := "ytbdkicmdidcdcaa", sum := "c1823248b381536b55d6c4f556cd1707d5ffb17f0837993f1157b68cb41ac3fa", func := "indenture/indenturelaw9.KeysAll", spec := "keysAll", inPlace := ["math/bits.Add64"], unfollowed := true, recurses := true, plainKeys := false, apart := false }
def KeysAllSaid : Prop := keysAllRow.holds Try.pinned (OpenSpec.ofChange keysAllSpec)

/-- ITS FALSE NEIGHBOUR: 'it returns false'. Refute it at one input. -/
def keysAllWrong : ChangeSpec := { name := "keysAll", fn := fun _ => fun
  | [d1, d2, d3] => { results := [.lit (.bool false)], args := [d1, d2, d3] }
  | _ => none }
def KeysAllWrongFalsely : Prop := keysAllRow.holds Try.pinned (OpenSpec.ofChange keysAllWrong)

/-- 'indenturelaw9.PadAll': WHATEVER THE INPUT: true; the input reads as it did. -/
def padAllSpec : ChangeSpec := { name := "padAll", fn := fun _ => fun
  | [d1, d2] => { results := [.lit (.bool true)], args := [d1, d2] }
  | _ => none }
def padAllRow : OpenClaim := { program := "ytbdkicmdidcdcaa", sum := "c1823248b381536b55d6c4f556cd1707d5ffb17f0837993f1157b68cb41ac3fa", func := "indenture/indenturelaw9.PadAll", spec := "padAll", inPlace := ["math/bits.Add64"], unfollowed := true, recurses := true, plainKeys := false, apart := false }
def PadAllSaid : Prop := padAllRow.holds Try.pinned (OpenSpec.ofChange padAllSpec)

/-- ITS FALSE NEIGHBOUR: 'it returns false'. Refute it at one input. -/
def padAllWrong : ChangeSpec := { name := "padAll", fn := fun _ => fun
  | [d1, d2] => { results := [.lit (.bool false)], args := [d1, d2] }
  | _ => none }
def PadAllWrongFalsely : Prop := padAllRow.holds Try.pinned (OpenSpec.ofChange padAllWrong)

/-- 'indenturelaw9.PadAny': WHATEVER THE INPUT: true; the input reads as it did. -/
def padAnySpec : ChangeSpec := { name := "padAny", fn := fun _ => fun
  | [d1, d2, d3, d4] => { results := [.lit (.bool true)], args := [d1, d2, d3, d4] }
  | _ => none }
def padAnyRow : OpenClaim := { program := "ytbdkicmdidcdcaa", sum := "c1823248b381536b55d6c4f556cd1707d5ffb17f0837993f1157b68cb41ac3fa", func := "indenture/indenturelaw9.PadAny", spec := "padAny", inPlace := ["math/bits.Add64"], unfollowed := true, recurses := true, plainKeys := false, apart := false }
def PadAnySaid : Prop := padAnyRow.holds Try.pinned (OpenSpec.ofChange padAnySpec)

/-- ITS FALSE NEIGHBOUR: 'it returns false'. Refute it at one input. -/
def padAnyWrong : ChangeSpec := { name := "padAny", fn := fun _ => fun
  | [d1, d2, d3, d4] => { results := [.lit (.bool false)], args := [d1, d2, d3, d4] }
  | _ => none }
def PadAnyWrongFalsely : Prop := padAnyRow.holds Try.pinned (OpenSpec.ofChange padAnyWrong)

/-- 'indenturelaw9.PadAlike': WHATEVER THE INPUT: true; the input reads as it did. -/
def padAlikeSpec : ChangeSpec := { name := "padAlike", fn := fun _ => fun
  | [d1, d2] => { results := [.lit (.bool true)], args := [d1, d2] }
  | _ => none }
def padAlikeRow : OpenClaim := { program := "ytbdkicmdidcdcaa", sum := "c1823248b381536b55d6c4f556cd1707d5ffb17f0837993f1157b68cb41ac3fa", func := "indenture/indenturelaw9.PadAlike", spec := "padAlike", inPlace := ["math/bits.Add64"], unfollowed := true, recurses := true, plainKeys := false, apart := false }
def PadAlikeSaid : Prop := padAlikeRow.holds Try.pinned (OpenSpec.ofChange padAlikeSpec)

/-- ITS FALSE NEIGHBOUR: 'it returns false'. Refute it at one input. -/
def padAlikeWrong : ChangeSpec := { name := "padAlike", fn := fun _ => fun
  | [d1, d2] => { results := [.lit (.bool false)], args := [d1, d2] }
  | _ => none }
def PadAlikeWrongFalsely : Prop := padAlikeRow.holds Try.pinned (OpenSpec.ofChange padAlikeWrong)

/-- 'indenturelaw9.RecAll': WHATEVER THE INPUT: true; the input reads as it did. -/
def recAllSpec : ChangeSpec := { name := "recAll", fn := fun _ => fun
  | [d1, d2, d3] => { results := [.lit (.bool true)], args := [d1, d2, d3] }
  | _ => none }
def recAllRow : OpenClaim := { program := "ytbdkicmdidcdcaa", sum := "c1823248b381536b55d6c4f556cd1707d5ffb17f0837993f1157b68cb41ac3fa", func := "indenture/indenturelaw9.RecAll", spec := "recAll", inPlace := ["math/bits.Add64"], unfollowed := true, recurses := true, plainKeys := false, apart := false }
def RecAllSaid : Prop := recAllRow.holds Try.pinned (OpenSpec.ofChange recAllSpec)

/-- ITS FALSE NEIGHBOUR: 'it returns false'. Refute it at one input. -/
def recAllWrong : ChangeSpec := { name := "recAll", fn := fun _ => fun
  | [d1, d2, d3] => { results := [.lit (.bool false)], args := [d1, d2, d3] }
  | _ => none }
def RecAllWrongFalsely : Prop := recAllRow.holds Try.pinned (OpenSpec.ofChange recAllWrong)

/-- 'indenturelaw9.RecTurn': WHATEVER THE INPUT: true; the input reads as it did. -/
def recTurnSpec : ChangeSpec := { name := "recTurn", fn := fun _ => fun
  | [d1, d2, d3] => { results := [.lit (.bool true)], args := [d1, d2, d3] }
  | _ => none }
def recTurnRow : OpenClaim := { program := "ytbdkicmdidcdcaa", sum := "c1823248b381536b55d6c4f556cd1707d5ffb17f0837993f1157b68cb41ac3fa", func := "indenture/indenturelaw9.RecTurn", spec := "recTurn", inPlace := ["math/bits.Add64"], unfollowed := true, recurses := true, plainKeys := false, apart := false }
def RecTurnSaid : Prop := recTurnRow.holds Try.pinned (OpenSpec.ofChange recTurnSpec)

/-- ITS FALSE NEIGHBOUR: 'it returns false'. Refute it at one input. -/
def recTurnWrong : ChangeSpec := { name := "recTurn", fn := fun _ => fun
  | [d1, d2, d3] => { results := [.lit (.bool false)], args := [d1, d2, d3] }
  | _ => none }
def RecTurnWrongFalsely : Prop := recTurnRow.holds Try.pinned (OpenSpec.ofChange recTurnWrong)

/-- 'indenturelaw9.RecShape': WHATEVER THE INPUT: true; the input reads as it did. -/
def recShapeSpec : ChangeSpec := { name := "recShape", fn := fun _ => fun
  | [d1, d2, d3] => { results := [.lit (.bool true)], args := [d1, d2, d3] }
  | _ => none }
def recShapeRow : OpenClaim := { program := "ytbdkicmdidcdcaa", sum := "c1823248b381536b55d6c4f556cd1707d5ffb17f0837993f1157b68cb41ac3fa", func := "indenture/indenturelaw9.RecShape", spec := "recShape", inPlace := ["math/bits.Add64"], unfollowed := true, recurses := true, plainKeys := false, apart := false }
def RecShapeSaid : Prop := recShapeRow.holds Try.pinned (OpenSpec.ofChange recShapeSpec)

/-- ITS FALSE NEIGHBOUR: 'it returns false'. Refute it at one input. -/
def recShapeWrong : ChangeSpec := { name := "recShape", fn := fun _ => fun
  | [d1, d2, d3] => { results := [.lit (.bool false)], args := [d1, d2, d3] }
  | _ => none }
def RecShapeWrongFalsely : Prop := recShapeRow.holds Try.pinned (OpenSpec.ofChange recShapeWrong)

/-- 'indenturelaw9.KeysUnlike': WHATEVER THE INPUT: true; the input reads as it did. -/
def keysUnlikeSpec : ChangeSpec := { name := "keysUnlike", fn := fun _ => fun
  | [d1, d2, d3, d4] => { results := [.lit (.bool true)], args := [d1, d2, d3, d4] }
  | _ => none }
def keysUnlikeRow : OpenClaim := { program := "ytbdkicmdidcdcaa", sum := "c1823248b381536b55d6c4f556cd1707d5ffb17f0837993f1157b68cb41ac3fa", func := "indenture/indenturelaw9.KeysUnlike", spec := "keysUnlike", inPlace := ["math/bits.Add64"], unfollowed := true, recurses := true, plainKeys := false, apart := false }
def KeysUnlikeSaid : Prop := keysUnlikeRow.holds Try.pinned (OpenSpec.ofChange keysUnlikeSpec)

/-- ITS FALSE NEIGHBOUR: 'it returns false'. Refute it at one input. -/
def keysUnlikeWrong : ChangeSpec := { name := "keysUnlike", fn := fun _ => fun
  | [d1, d2, d3, d4] => { results := [.lit (.bool false)], args := [d1, d2, d3, d4] }
  | _ => none }
def KeysUnlikeWrongFalsely : Prop := keysUnlikeRow.holds Try.pinned (OpenSpec.ofChange keysUnlikeWrong)

/-- 'indenturelaw9.PadEdges': WHATEVER THE INPUT: true; the input reads as it did. -/
def padEdgesSpec : ChangeSpec := { name := "padEdges", fn := fun _ => fun
  | [d1, d2, d3] => { results := [.lit (.bool true)], args := [d1, d2, d3] }
  | _ => none }
def padEdgesRow : OpenClaim := { program := "ytbdkicmdidcdcaa", sum := "c1823248b381536b55d6c4f556cd1707d5ffb17f0837993f1157b68cb41ac3fa", func := "indenture/indenturelaw9.PadEdges", spec := "padEdges", inPlace := ["math/bits.Add64"], unfollowed := true, recurses := true, plainKeys := false, apart := false }
def PadEdgesSaid : Prop := padEdgesRow.holds Try.pinned (OpenSpec.ofChange padEdgesSpec)

/-- ITS FALSE NEIGHBOUR: 'it returns false'. Refute it at one input. -/
def padEdgesWrong : ChangeSpec := { name := "padEdges", fn := fun _ => fun
  | [d1, d2, d3] => { results := [.lit (.bool false)], args := [d1, d2, d3] }
  | _ => none }
def PadEdgesWrongFalsely : Prop := padEdgesRow.holds Try.pinned (OpenSpec.ofChange padEdgesWrong)

/-- 'indenturelaw9.RecVers': WHATEVER THE INPUT: true; the input reads as it did. -/
def recVersSpec : ChangeSpec := { name := "recVers", fn := fun _ => fun
  | [d1, d2, d3] => { results := [.lit (.bool true)], args := [d1, d2, d3] }
  | _ => none }
def recVersRow : OpenClaim := { program := "ytbdkicmdidcdcaa", sum := "c1823248b381536b55d6c4f556cd1707d5ffb17f0837993f1157b68cb41ac3fa", func := "indenture/indenturelaw9.RecVers", spec := "recVers", inPlace := ["math/bits.Add64"], unfollowed := true, recurses := true, plainKeys := false, apart := false }
def RecVersSaid : Prop := recVersRow.holds Try.pinned (OpenSpec.ofChange recVersSpec)

/-- ITS FALSE NEIGHBOUR: 'it returns false'. Refute it at one input. -/
def recVersWrong : ChangeSpec := { name := "recVers", fn := fun _ => fun
  | [d1, d2, d3] => { results := [.lit (.bool false)], args := [d1, d2, d3] }
  | _ => none }
def RecVersWrongFalsely : Prop := recVersRow.holds Try.pinned (OpenSpec.ofChange recVersWrong)

/-- 'indenturelaw9.RecEpochs': WHATEVER THE INPUT: true; the input reads as it did. -/
def recEpochsSpec : ChangeSpec := { name := "recEpochs", fn := fun _ => fun
  | [d1, d2, d3, d4, d5] => { results := [.lit (.bool true)], args := [d1, d2, d3, d4, d5] }
  | _ => none }
def recEpochsRow : OpenClaim := { program := "ytbdkicmdidcdcaa", sum := "c1823248b381536b55d6c4f556cd1707d5ffb17f0837993f1157b68cb41ac3fa", func := "indenture/indenturelaw9.RecEpochs", spec := "recEpochs", inPlace := ["math/bits.Add64"], unfollowed := true, recurses := true, plainKeys := false, apart := false }
def RecEpochsSaid : Prop := recEpochsRow.holds Try.pinned (OpenSpec.ofChange recEpochsSpec)

/-- ITS FALSE NEIGHBOUR: 'it returns false'. Refute it at one input. -/
def recEpochsWrong : ChangeSpec := { name := "recEpochs", fn := fun _ => fun
  | [d1, d2, d3, d4, d5] => { results := [.lit (.bool false)], args := [d1, d2, d3, d4, d5] }
  | _ => none }
def RecEpochsWrongFalsely : Prop := recEpochsRow.holds Try.pinned (OpenSpec.ofChange recEpochsWrong)

/- THE SECOND FORM. 'bulk': how many values and letters a reading holds, each counted each time it is reached (what is shared counts as often as it is met; a slice's spare places count too). A statement '..UptoSaid' is the law's where the arguments, and the package variables that the reading takes, are together of bulk at most 1048576: NARROWER than '..Said'. Prove '..Said' where nothing that the law and all that it calls make is longer than what came in: it says more and counts as full. Else prove '..UptoSaid'. A law counts once. -/
mutual
def uptoBulk {H : Type} : DataW H → Nat
  | .lit (.string bytes) => bytes.length + 1
  | .lit _ => 1
  | .nil => 1
  | .ptr d => uptoBulk d + 1
  | .slice elems spare => uptoBulkAll elems + uptoBulkAll spare + 1
  | .agg parts => uptoBulkAll parts + 1
  | .iface _ d => uptoBulk d + 1
  | .map entries => uptoBulkEntries entries + 1
  | .held _ => 1
def uptoBulkAll {H : Type} : List (DataW H) → Nat
  | [] => 0
  | d :: r => uptoBulk d + uptoBulkAll r
def uptoBulkEntries {H : Type} : List (Lit × DataW H) → Nat
  | [] => 0
  | x :: r => uptoBulkEntry x + uptoBulkEntries r
def uptoBulkEntry {H : Type} : Lit × DataW H → Nat
  | (.string bytes, d) => bytes.length + uptoBulk d + 1
  | (_, d) => uptoBulk d + 1
 end
def uptoSmall : (H : Type) → List (DataW H) → Bool := fun _ ds => decide (uptoBulkAll ds ≤ 1048576)
def OpenSpec.upto (s : _root_.Go.ChangeSpec) : _root_.Go.OpenSpec := { _root_.Go.OpenSpec.ofChange s with cond := some uptoSmall }

/-- 'indenturelaw9.KeysAll', WHERE WHAT IT READS IS OF BULK AT MOST 1048576: true; the input reads as it did. -/
def keysAllUptoRow : OpenClaim := { program := "ytbdkicmdidcdcaa", sum := "c1823248b381536b55d6c4f556cd1707d5ffb17f0837993f1157b68cb41ac3fa", func := "indenture/indenturelaw9.KeysAll", spec := "keysAll", inPlace := ["math/bits.Add64"], unfollowed := true, recurses := true, plainKeys := false, apart := false, narrowed := true }
def KeysAllUptoSaid : Prop := keysAllUptoRow.holds Try.pinned (OpenSpec.upto keysAllSpec)

/-- 'indenturelaw9.PadAll', WHERE WHAT IT READS IS OF BULK AT MOST 1048576: true; the input reads as it did. -/
def padAllUptoRow : OpenClaim := { program := "ytbdkicmdidcdcaa", sum := "c1823248b381536b55d6c4f556cd1707d5ffb17f0837993f1157b68cb41ac3fa", func := "indenture/indenturelaw9.PadAll", spec := "padAll", inPlace := ["math/bits.Add64"], unfollowed := true, recurses := true, plainKeys := false, apart := false, narrowed := true }
def PadAllUptoSaid : Prop := padAllUptoRow.holds Try.pinned (OpenSpec.upto padAllSpec)

/-- 'indenturelaw9.PadAny', WHERE WHAT IT READS IS OF BULK AT MOST 1048576: true; the input reads as it did. -/
def padAnyUptoRow : OpenClaim := { program := "ytbdkicmdidcdcaa", sum := "c1823248b381536b55d6c4f556cd1707d5ffb17f0837993f1157b68cb41ac3fa", func := "indenture/indenturelaw9.PadAny", spec := "padAny", inPlace := ["math/bits.Add64"], unfollowed := true, recurses := true, plainKeys := false, apart := false, narrowed := true }
def PadAnyUptoSaid : Prop := padAnyUptoRow.holds Try.pinned (OpenSpec.upto padAnySpec)

/-- 'indenturelaw9.PadAlike', WHERE WHAT IT READS IS OF BULK AT MOST 1048576: true; the input reads as it did. -/
def padAlikeUptoRow : OpenClaim := { program := "ytbdkicmdidcdcaa", sum := "c1823248b381536b55d6c4f556cd1707d5ffb17f0837993f1157b68cb41ac3fa", func := "indenture/indenturelaw9.PadAlike", spec := "padAlike", inPlace := ["math/bits.Add64"], unfollowed := true, recurses := true, plainKeys := false, apart := false, narrowed := true }
def PadAlikeUptoSaid : Prop := padAlikeUptoRow.holds Try.pinned (OpenSpec.upto padAlikeSpec)

/-- 'indenturelaw9.RecAll', WHERE WHAT IT READS IS OF BULK AT MOST 1048576: true; the input reads as it did. -/
def recAllUptoRow : OpenClaim := { program := "ytbdkicmdidcdcaa", sum := "c1823248b381536b55d6c4f556cd1707d5ffb17f0837993f1157b68cb41ac3fa", func := "indenture/indenturelaw9.RecAll", spec := "recAll", inPlace := ["math/bits.Add64"], unfollowed := true, recurses := true, plainKeys := false, apart := false, narrowed := true }
def RecAllUptoSaid : Prop := recAllUptoRow.holds Try.pinned (OpenSpec.upto recAllSpec)

/-- 'indenturelaw9.RecTurn', WHERE WHAT IT READS IS OF BULK AT MOST 1048576: true; the input reads as it did. -/
def recTurnUptoRow : OpenClaim := { program := "ytbdkicmdidcdcaa", sum := "c1823248b381536b55d6c4f556cd1707d5ffb17f0837993f1157b68cb41ac3fa", func := "indenture/indenturelaw9.RecTurn", spec := "recTurn", inPlace := ["math/bits.Add64"], unfollowed := true, recurses := true, plainKeys := false, apart := false, narrowed := true }
def RecTurnUptoSaid : Prop := recTurnUptoRow.holds Try.pinned (OpenSpec.upto recTurnSpec)

/-- 'indenturelaw9.RecShape', WHERE WHAT IT READS IS OF BULK AT MOST 1048576: true; the input reads as it did. -/
def recShapeUptoRow : OpenClaim := { program := "ytbdkicmdidcdcaa", sum := "c1823248b381536b55d6c4f556cd1707d5ffb17f0837993f1157b68cb41ac3fa", func := "indenture/indenturelaw9.RecShape", spec := "recShape", inPlace := ["math/bits.Add64"], unfollowed := true, recurses := true, plainKeys := false, apart := false, narrowed := true }
def RecShapeUptoSaid : Prop := recShapeUptoRow.holds Try.pinned (OpenSpec.upto recShapeSpec)

/-- 'indenturelaw9.KeysUnlike', WHERE WHAT IT READS IS OF BULK AT MOST 1048576: true; the input reads as it did. -/
def keysUnlikeUptoRow : OpenClaim := { program := "ytbdkicmdidcdcaa", sum := "c1823248b381536b55d6c4f556cd1707d5ffb17f0837993f1157b68cb41ac3fa", func := "indenture/indenturelaw9.KeysUnlike", spec := "keysUnlike", inPlace := ["math/bits.Add64"], unfollowed := true, recurses := true, plainKeys := false, apart := false, narrowed := true }
def KeysUnlikeUptoSaid : Prop := keysUnlikeUptoRow.holds Try.pinned (OpenSpec.upto keysUnlikeSpec)

/-- 'indenturelaw9.PadEdges', WHERE WHAT IT READS IS OF BULK AT MOST 1048576: true; the input reads as it did. -/
def padEdgesUptoRow : OpenClaim := { program := "ytbdkicmdidcdcaa", sum := "c1823248b381536b55d6c4f556cd1707d5ffb17f0837993f1157b68cb41ac3fa", func := "indenture/indenturelaw9.PadEdges", spec := "padEdges", inPlace := ["math/bits.Add64"], unfollowed := true, recurses := true, plainKeys := false, apart := false, narrowed := true }
def PadEdgesUptoSaid : Prop := padEdgesUptoRow.holds Try.pinned (OpenSpec.upto padEdgesSpec)

/-- 'indenturelaw9.RecVers', WHERE WHAT IT READS IS OF BULK AT MOST 1048576: true; the input reads as it did. -/
def recVersUptoRow : OpenClaim := { program := "ytbdkicmdidcdcaa", sum := "c1823248b381536b55d6c4f556cd1707d5ffb17f0837993f1157b68cb41ac3fa", func := "indenture/indenturelaw9.RecVers", spec := "recVers", inPlace := ["math/bits.Add64"], unfollowed := true, recurses := true, plainKeys := false, apart := false, narrowed := true }
def RecVersUptoSaid : Prop := recVersUptoRow.holds Try.pinned (OpenSpec.upto recVersSpec)

/-- 'indenturelaw9.RecEpochs', WHERE WHAT IT READS IS OF BULK AT MOST 1048576: true; the input reads as it did. -/
def recEpochsUptoRow : OpenClaim := { program := "ytbdkicmdidcdcaa", sum := "c1823248b381536b55d6c4f556cd1707d5ffb17f0837993f1157b68cb41ac3fa", func := "indenture/indenturelaw9.RecEpochs", spec := "recEpochs", inPlace := ["math/bits.Add64"], unfollowed := true, recurses := true, plainKeys := false, apart := false, narrowed := true }
def RecEpochsUptoSaid : Prop := recEpochsUptoRow.holds Try.pinned (OpenSpec.upto recEpochsSpec)

end Rows
end Go.Proofs.Ytbdkicmdidcdcaa
