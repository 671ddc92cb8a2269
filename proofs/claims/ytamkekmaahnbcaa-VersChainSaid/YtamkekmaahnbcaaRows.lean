/-
  No cell of these rows narrows 'for every input' (looked for: loops, veiled, ifaces, maps, wideKeys, modest, calm, conditions, laid).
  DERIVED. THE GIVEN ROWS OF THIS SEAT. 9 by the template 'for every input the law returns true; each argument reads behind the call as it read before'; 0 by the template 'total and deterministic' (their statements: YtamkekmaahnbcaaTotals.lean).
  GIVEN WITH THE SEED: the statements are not yours to turn. If you find one false, say at which input.
  Laid BY PROGRAM, IN A SANDBOX (cutbox-rows.mjs): the forced cells as the released guide's own fill.sh prints them over the translation 03db521c1769a031… (all of the seat's roots in one cut). By AI agents, Wed Nov 11 2026. No macro, syntax, notation, axiom, sorry.
-/
import Derived.Test.YtamkekmaahnbcaaChecked
import GoSem.Claim
import GoSem.ClaimJoined
import GoSem.ClaimMapViews
import Derived.JoinedTies
import Derived.KernelRfl
namespace Go.Proofs.Ytamkekmaahnbcaa
/- THE CELL 'sum', in the pinned program and in every row, IS THE sha256 OF THE DUMP (.gsa) THAT YtamkekmaahnbcaaProg.lean LOADS. Nothing in Lean hashes anything: it is a label: what it is worth is what the hold of that sum in a sandbox is worth. -/
noncomputable def Try.pinned : Pinned := { name := "ytamkekmaahnbcaa", sum := "03db521c1769a0313848ee8d9484da83684c31d7d05ddb561569c1801cae1ff7", checked := Try.checked }
namespace Rows
def none {H : Type} : Left H := { results := [], args := [] }

/-- 'indenturelaw8.BoxIdeal': WHATEVER THE INPUT: true; the input reads as it did. -/
def boxIdealSpec : ChangeSpec := { name := "boxIdeal", fn := fun _ => fun
  | [d1, d2, d3] => { results := [.lit (.bool true)], args := [d1, d2, d3] }
  | _ => none }
def boxIdealRow : OpenClaim := { program := "ytamkekmaahnbcaa", sum := "03db521c1769a0313848ee8d9484da83684c31d7d05ddb561569c1801cae1ff7", func := "indenture/indenturelaw8.BoxIdeal", spec := "boxIdeal", inPlace := ["math/bits.Add64"], unfollowed := true, recurses := true, plainKeys := false, apart := false }
def BoxIdealSaid : Prop := boxIdealRow.holds Try.pinned (OpenSpec.ofChange boxIdealSpec)

/-- ITS FALSE NEIGHBOUR: 'it returns false'. Refute it at one input. -/
def boxIdealWrong : ChangeSpec := { name := "boxIdeal", fn := fun _ => fun
  | [d1, d2, d3] => { results := [.lit (.bool false)], args := [d1, d2, d3] }
  | _ => none }
def BoxIdealWrongFalsely : Prop := boxIdealRow.holds Try.pinned (OpenSpec.ofChange boxIdealWrong)

/-- 'indenturelaw8.BoxOpens': WHATEVER THE INPUT: true; the input reads as it did. -/
def boxOpensSpec : ChangeSpec := { name := "boxOpens", fn := fun _ => fun
  | [d1, d2, d3, d4, d5, d6, d7] => { results := [.lit (.bool true)], args := [d1, d2, d3, d4, d5, d6, d7] }
  | _ => none }
def boxOpensRow : OpenClaim := { program := "ytamkekmaahnbcaa", sum := "03db521c1769a0313848ee8d9484da83684c31d7d05ddb561569c1801cae1ff7", func := "indenture/indenturelaw8.BoxOpens", spec := "boxOpens", inPlace := ["math/bits.Add64"], unfollowed := true, recurses := true, plainKeys := false, apart := false }
def BoxOpensSaid : Prop := boxOpensRow.holds Try.pinned (OpenSpec.ofChange boxOpensSpec)

/-- ITS FALSE NEIGHBOUR: 'it returns false'. Refute it at one input. -/
def boxOpensWrong : ChangeSpec := { name := "boxOpens", fn := fun _ => fun
  | [d1, d2, d3, d4, d5, d6, d7] => { results := [.lit (.bool false)], args := [d1, d2, d3, d4, d5, d6, d7] }
  | _ => none }
def BoxOpensWrongFalsely : Prop := boxOpensRow.holds Try.pinned (OpenSpec.ofChange boxOpensWrong)

/-- 'indenturelaw8.BoxNone': WHATEVER THE INPUT: true; the input reads as it did. -/
def boxNoneSpec : ChangeSpec := { name := "boxNone", fn := fun _ => fun
  | [] => { results := [.lit (.bool true)], args := [] }
  | _ => none }
def boxNoneRow : OpenClaim := { program := "ytamkekmaahnbcaa", sum := "03db521c1769a0313848ee8d9484da83684c31d7d05ddb561569c1801cae1ff7", func := "indenture/indenturelaw8.BoxNone", spec := "boxNone", inPlace := ["math/bits.Add64"], unfollowed := true, recurses := true, plainKeys := false, apart := false }
def BoxNoneSaid : Prop := boxNoneRow.holds Try.pinned (OpenSpec.ofChange boxNoneSpec)

/-- ITS FALSE NEIGHBOUR: 'it returns false'. Refute it at one input. -/
def boxNoneWrong : ChangeSpec := { name := "boxNone", fn := fun _ => fun
  | [] => { results := [.lit (.bool false)], args := [] }
  | _ => none }
def BoxNoneWrongFalsely : Prop := boxNoneRow.holds Try.pinned (OpenSpec.ofChange boxNoneWrong)

/-- 'indenturelaw8.BoxBooks': WHATEVER THE INPUT: true; the input reads as it did. -/
def boxBooksSpec : ChangeSpec := { name := "boxBooks", fn := fun _ => fun
  | [d1, d2, d3] => { results := [.lit (.bool true)], args := [d1, d2, d3] }
  | _ => none }
def boxBooksRow : OpenClaim := { program := "ytamkekmaahnbcaa", sum := "03db521c1769a0313848ee8d9484da83684c31d7d05ddb561569c1801cae1ff7", func := "indenture/indenturelaw8.BoxBooks", spec := "boxBooks", inPlace := ["math/bits.Add64"], unfollowed := true, recurses := true, plainKeys := false, apart := false }
def BoxBooksSaid : Prop := boxBooksRow.holds Try.pinned (OpenSpec.ofChange boxBooksSpec)

/-- ITS FALSE NEIGHBOUR: 'it returns false'. Refute it at one input. -/
def boxBooksWrong : ChangeSpec := { name := "boxBooks", fn := fun _ => fun
  | [d1, d2, d3] => { results := [.lit (.bool false)], args := [d1, d2, d3] }
  | _ => none }
def BoxBooksWrongFalsely : Prop := boxBooksRow.holds Try.pinned (OpenSpec.ofChange boxBooksWrong)

/-- 'indenturelaw8.BoxReal': WHATEVER THE INPUT: true; the input reads as it did. -/
def boxRealSpec : ChangeSpec := { name := "boxReal", fn := fun _ => fun
  | [d1, d2, d3, d4] => { results := [.lit (.bool true)], args := [d1, d2, d3, d4] }
  | _ => none }
def boxRealRow : OpenClaim := { program := "ytamkekmaahnbcaa", sum := "03db521c1769a0313848ee8d9484da83684c31d7d05ddb561569c1801cae1ff7", func := "indenture/indenturelaw8.BoxReal", spec := "boxReal", inPlace := ["math/bits.Add64"], unfollowed := true, recurses := true, plainKeys := false, apart := false }
def BoxRealSaid : Prop := boxRealRow.holds Try.pinned (OpenSpec.ofChange boxRealSpec)

/-- ITS FALSE NEIGHBOUR: 'it returns false'. Refute it at one input. -/
def boxRealWrong : ChangeSpec := { name := "boxReal", fn := fun _ => fun
  | [d1, d2, d3, d4] => { results := [.lit (.bool false)], args := [d1, d2, d3, d4] }
  | _ => none }
def BoxRealWrongFalsely : Prop := boxRealRow.holds Try.pinned (OpenSpec.ofChange boxRealWrong)

/-- 'indenturelaw14.VersChain': WHATEVER THE INPUT: true; the input reads as it did. -/
def versChainSpec : ChangeSpec := { name := "versChain", fn := fun _ => fun
  | [d1, d2] => { results := [.lit (.bool true)], args := [d1, d2] }
  | _ => none }
def versChainRow : OpenClaim := { program := "ytamkekmaahnbcaa", sum := "03db521c1769a0313848ee8d9484da83684c31d7d05ddb561569c1801cae1ff7", func := "indenture/indenturelaw14.VersChain", spec := "versChain", inPlace := ["math/bits.Add64"], unfollowed := true, recurses := true, plainKeys := false, apart := false }
def VersChainSaid : Prop := versChainRow.holds Try.pinned (OpenSpec.ofChange versChainSpec)

/-- ITS FALSE NEIGHBOUR: 'it returns false'. Refute it at one input. -/
def versChainWrong : ChangeSpec := { name := "versChain", fn := fun _ => fun
  | [d1, d2] => { results := [.lit (.bool false)], args := [d1, d2] }
  | _ => none }
def VersChainWrongFalsely : Prop := versChainRow.holds Try.pinned (OpenSpec.ofChange versChainWrong)

/-- 'indenturelaw14.VersMark': WHATEVER THE INPUT: true; the input reads as it did. -/
def versMarkSpec : ChangeSpec := { name := "versMark", fn := fun _ => fun
  | [d1, d2, d3, d4, d5] => { results := [.lit (.bool true)], args := [d1, d2, d3, d4, d5] }
  | _ => none }
def versMarkRow : OpenClaim := { program := "ytamkekmaahnbcaa", sum := "03db521c1769a0313848ee8d9484da83684c31d7d05ddb561569c1801cae1ff7", func := "indenture/indenturelaw14.VersMark", spec := "versMark", inPlace := ["math/bits.Add64"], unfollowed := true, recurses := true, plainKeys := false, apart := false }
def VersMarkSaid : Prop := versMarkRow.holds Try.pinned (OpenSpec.ofChange versMarkSpec)

/-- ITS FALSE NEIGHBOUR: 'it returns false'. Refute it at one input. -/
def versMarkWrong : ChangeSpec := { name := "versMark", fn := fun _ => fun
  | [d1, d2, d3, d4, d5] => { results := [.lit (.bool false)], args := [d1, d2, d3, d4, d5] }
  | _ => none }
def VersMarkWrongFalsely : Prop := versMarkRow.holds Try.pinned (OpenSpec.ofChange versMarkWrong)

/-- 'indenturelaw14.VersLimits': WHATEVER THE INPUT: true; the input reads as it did. -/
def versLimitsSpec : ChangeSpec := { name := "versLimits", fn := fun _ => fun
  | [d1, d2] => { results := [.lit (.bool true)], args := [d1, d2] }
  | _ => none }
def versLimitsRow : OpenClaim := { program := "ytamkekmaahnbcaa", sum := "03db521c1769a0313848ee8d9484da83684c31d7d05ddb561569c1801cae1ff7", func := "indenture/indenturelaw14.VersLimits", spec := "versLimits", inPlace := ["math/bits.Add64"], unfollowed := true, recurses := true, plainKeys := false, apart := false }
def VersLimitsSaid : Prop := versLimitsRow.holds Try.pinned (OpenSpec.ofChange versLimitsSpec)

/-- ITS FALSE NEIGHBOUR: 'it returns false'. Refute it at one input. -/
def versLimitsWrong : ChangeSpec := { name := "versLimits", fn := fun _ => fun
  | [d1, d2] => { results := [.lit (.bool false)], args := [d1, d2] }
  | _ => none }
def VersLimitsWrongFalsely : Prop := versLimitsRow.holds Try.pinned (OpenSpec.ofChange versLimitsWrong)

/-- 'indenturelaw14.VersKeys': WHATEVER THE INPUT: true; the input reads as it did. -/
def versKeysSpec : ChangeSpec := { name := "versKeys", fn := fun _ => fun
  | [d1, d2, d3, d4] => { results := [.lit (.bool true)], args := [d1, d2, d3, d4] }
  | _ => none }
def versKeysRow : OpenClaim := { program := "ytamkekmaahnbcaa", sum := "03db521c1769a0313848ee8d9484da83684c31d7d05ddb561569c1801cae1ff7", func := "indenture/indenturelaw14.VersKeys", spec := "versKeys", inPlace := ["math/bits.Add64"], unfollowed := true, recurses := true, plainKeys := false, apart := false }
def VersKeysSaid : Prop := versKeysRow.holds Try.pinned (OpenSpec.ofChange versKeysSpec)

/-- ITS FALSE NEIGHBOUR: 'it returns false'. Refute it at one input. -/
def versKeysWrong : ChangeSpec := { name := "versKeys", fn := fun _ => fun
  | [d1, d2, d3, d4] => { results := [.lit (.bool false)], args := [d1, d2, d3, d4] }
  | _ => none }
def VersKeysWrongFalsely : Prop := versKeysRow.holds Try.pinned (OpenSpec.ofChange versKeysWrong)

/- THE SECOND FORM. 'bulk': how many values and letters a reading holds, each counted each time it is reached (what is shared counts as often as it is met; a slice's spare places count too). A statement '..UptoSaid' is the law's where the arguments, and the package variables that the reading takes, are together of bulk at most 1048576: NARROWER than '..Said'. Prove '..Said' where nothing that the law and all that it calls make is longer than what came in: it says more and counts as full. Else prove '..UptoSaid'. A law counts once. -/
mutual
def uptoBulk {H : Type} : DataW H → Nat
  | .lit (.string bytes) => bytes.length + 1
  | .lit _ => 1
  | .nil => 1
  | .ptr d => uptoBulk d + 1
  | .slice elems spare => uptoBulkAll elems + uptoBulkAll spare + 1
  | .agg parts => uptoBulkAll parts + 1
  | .iface _ d => uptoBulk d + 1
  | .map entries => uptoBulkEntries entries + 1
  | .held _ => 1
def uptoBulkAll {H : Type} : List (DataW H) → Nat
  | [] => 0
  | d :: r => uptoBulk d + uptoBulkAll r
def uptoBulkEntries {H : Type} : List (Lit × DataW H) → Nat
  | [] => 0
  | x :: r => uptoBulkEntry x + uptoBulkEntries r
def uptoBulkEntry {H : Type} : Lit × DataW H → Nat
  | (.string bytes, d) => bytes.length + uptoBulk d + 1
  | (_, d) => uptoBulk d + 1
 end
def uptoSmall : (H : Type) → List (DataW H) → Bool := fun _ ds => decide (uptoBulkAll ds ≤ 1048576)
def OpenSpec.upto (s : _root_.Go.ChangeSpec) : _root_.Go.OpenSpec := { _root_.Go.OpenSpec.ofChange s with cond := some uptoSmall }

/-- 'indenturelaw8.BoxIdeal', WHERE WHAT IT READS IS OF BULK AT MOST 1048576: true; the input reads as it did. -/
def boxIdealUptoRow : OpenClaim := { program := "ytamkekmaahnbcaa", sum := "03db521c1769a0313848ee8d9484da83684c31d7d05ddb561569c1801cae1ff7", func := "indenture/indenturelaw8.BoxIdeal", spec := "boxIdeal", inPlace := ["math/bits.Add64"], unfollowed := true, recurses := true, plainKeys := false, apart := false, narrowed := true }
def BoxIdealUptoSaid : Prop := boxIdealUptoRow.holds Try.pinned (OpenSpec.upto boxIdealSpec)

/-- 'indenturelaw8.BoxOpens', WHERE WHAT IT READS IS OF BULK AT MOST 1048576: true; the input reads as it did. -/
def boxOpensUptoRow : OpenClaim := { program := "ytamkekmaahnbcaa", sum := "03db521c1769a0313848ee8d9484da83684c31d7d05ddb561569c1801cae1ff7", func := "indenture/indenturelaw8.BoxOpens", spec := "boxOpens", inPlace := ["math/bits.Add64"], unfollowed := true, recurses := true, plainKeys := false, apart := false, narrowed := true }
def BoxOpensUptoSaid : Prop := boxOpensUptoRow.holds Try.pinned (OpenSpec.upto boxOpensSpec)

/-- 'indenturelaw8.BoxNone', WHERE WHAT IT READS IS OF BULK AT MOST 1048576: true; the input reads as it did. -/
def boxNoneUptoRow : OpenClaim := { program := "ytamkekmaahnbcaa", sum := "03db521c1769a0313848ee8d9484da83684c31d7d05ddb561569c1801cae1ff7", func := "indenture/indenturelaw8.BoxNone", spec := "boxNone", inPlace := ["math/bits.Add64"], unfollowed := true, recurses := true, plainKeys := false, apart := false, narrowed := true }
def BoxNoneUptoSaid : Prop := boxNoneUptoRow.holds Try.pinned (OpenSpec.upto boxNoneSpec)

/-- 'indenturelaw8.BoxBooks', WHERE WHAT IT READS IS OF BULK AT MOST 1048576: true; the input reads as it did. -/
def boxBooksUptoRow : OpenClaim := { program := "ytamkekmaahnbcaa", sum := "03db521c1769a0313848ee8d9484da83684c31d7d05ddb561569c1801cae1ff7", func := "indenture/indenturelaw8.BoxBooks", spec := "boxBooks", inPlace := ["math/bits.Add64"], unfollowed := true, recurses := true, plainKeys := false, apart := false, narrowed := true }
def BoxBooksUptoSaid : Prop := boxBooksUptoRow.holds Try.pinned (OpenSpec.upto boxBooksSpec)

/-- 'indenturelaw8.BoxReal', WHERE WHAT IT READS IS OF BULK AT MOST 1048576: true; the input reads as it did. -/
def boxRealUptoRow : OpenClaim := { program := "ytamkekmaahnbcaa", sum := "03db521c1769a0313848ee8d9484da83684c31d7d05ddb561569c1801cae1ff7", func := "indenture/indenturelaw8.BoxReal", spec := "boxReal", inPlace := ["math/bits.Add64"], unfollowed := true, recurses := true, plainKeys := false, apart := false, narrowed := true }
def BoxRealUptoSaid : Prop := boxRealUptoRow.holds Try.pinned (OpenSpec.upto boxRealSpec)

/-- 'indenturelaw14.VersChain', WHERE WHAT IT READS IS OF BULK AT MOST 1048576: true; the input reads as it did. -/
def versChainUptoRow : OpenClaim := { program := "ytamkekmaahnbcaa", sum := "03db521c1769a0313848ee8d9484da83684c31d7d05ddb561569c1801cae1ff7", func := "indenture/indenturelaw14.VersChain", spec := "versChain", inPlace := ["math/bits.Add64"], unfollowed := true, recurses := true, plainKeys := false, apart := false, narrowed := true }
def VersChainUptoSaid : Prop := versChainUptoRow.holds Try.pinned (OpenSpec.upto versChainSpec)

/-- 'indenturelaw14.VersMark', WHERE WHAT IT READS IS OF BULK AT MOST 1048576: true; the input reads as it did. -/
def versMarkUptoRow : OpenClaim := { program := "ytamkekmaahnbcaa", sum := "03db521c1769a0313848ee8d9484da83684c31d7d05ddb561569c1801cae1ff7", func := "indenture/indenturelaw14.VersMark", spec := "versMark", inPlace := ["math/bits.Add64"], unfollowed := true, recurses := true, plainKeys := false, apart := false, narrowed := true }
def VersMarkUptoSaid : Prop := versMarkUptoRow.holds Try.pinned (OpenSpec.upto versMarkSpec)

/-- 'indenturelaw14.VersLimits', WHERE WHAT IT READS IS OF BULK AT MOST 1048576: true; the input reads as it did. -/
def versLimitsUptoRow : OpenClaim := { program := "ytamkekmaahnbcaa", sum := "03db521c1769a0313848ee8d9484da83684c31d7d05ddb561569c1801cae1ff7", func := "indenture/indenturelaw14.VersLimits", spec := "versLimits", inPlace := ["math/bits.Add64"], unfollowed := true, recurses := true, plainKeys := false, apart := false, narrowed := true }
def VersLimitsUptoSaid : Prop := versLimitsUptoRow.holds Try.pinned (OpenSpec.upto versLimitsSpec)

/-- 'indenturelaw14.VersKeys', WHERE WHAT IT READS IS OF BULK AT MOST 1048576: true; the input reads as it did. -/
def versKeysUptoRow : OpenClaim := { program := "ytamkekmaahnbcaa", sum := "03db521c1769a0313848ee8d9484da83684c31d7d05ddb561569c1801cae1ff7", func := "indenture/indenturelaw14.VersKeys", spec := "versKeys", inPlace := ["math/bits.Add64"], unfollowed := true, recurses := true, plainKeys := false, apart := false, narrowed := true }
def VersKeysUptoSaid : Prop := versKeysUptoRow.holds Try.pinned (OpenSpec.upto versKeysSpec)

end Rows
end Go.Proofs.Ytamkekmaahnbcaa
