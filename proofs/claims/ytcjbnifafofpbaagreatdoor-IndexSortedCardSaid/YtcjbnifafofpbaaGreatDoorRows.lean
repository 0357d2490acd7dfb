/-
  NARROWER THAN 'FOR EVERY INPUT', by the rows' own cells (each row's printed sentence says how): IndexLists: laid · IndexReads: laid · IndexTells: laid · IndexNears: laid · IndexLeast: laid · IndexNumbered: laid · IndexTold: laid · IndexNear: laid · IndexJoined: laid · IndexLonger: laid · IndexSorted: laid · IndexMore: laid · IndexKnown: laid.
  DERIVED. THE GIVEN ROWS OF THIS SEAT. 13 by the template 'for every input the law returns true; each argument reads behind the call as it read before'; 0 by the template 'total and deterministic' (their statements: YtcjbnifafofpbaaGreatDoorTotals.lean).
  GIVEN WITH THE SEED: the statements are not yours to turn. If you find one false, say at which input.
  Laid BY PROGRAM, IN A SANDBOX (cutbox-rows.mjs): the forced cells as the released guide's own fill.sh prints them over the translation 319e99a0031fa86c… (all of the seat's roots in one cut). By AI agents, Wed Nov 11 2026. No macro, syntax, notation, axiom, sorry.
-/
import Derived.Test.YtcjbnifafofpbaaGreatDoorChecked
import GoSem.PinnedTables
import GoSem.Claim
import GoSem.ClaimJoined
import GoSem.ClaimMapViews
import Derived.JoinedTies
import Derived.KernelRfl
namespace Go.Proofs.YtcjbnifafofpbaaGreatDoor
/- THE CELL 'sum', in the pinned program and in every row, IS THE sha256 OF THE DUMP (.gsa) THAT YtcjbnifafofpbaaGreatDoorProg.lean LOADS. Nothing in Lean hashes anything: it is a label: what it is worth is what the hold of that sum in a sandbox is worth. -/
noncomputable def Tryz.pinned : Pinned := { name := "ytcjbnifafofpbaagreatdoor", sum := "319e99a0031fa86c30c0c13458d950d3139096a371a2dd04eed9633195615dd4", checked := Tryz.checked }
namespace Rows
def none {H : Type} : Left H := { results := [], args := [] }

/- WHAT THE LISTED PACKAGE-LEVEL VARIABLES READ AS WHEN THE CALL BEGINS. Each datum BY PROGRAM (the guide's laid-datum.mjs) off the statement by which the dump's own 'gosem.cut.vars' lays the variable. In a bare row this is a premise. The card (YtcjbnifafofpbaaGreatDoorCards.lean) ties it to the program's text. -/
def laid_unicode_utf8_acceptRanges {H : Type} : DataW H := .agg [.agg [.lit (.int .u8 128), .lit (.int .u8 191)], .agg [.lit (.int .u8 160), .lit (.int .u8 191)], .agg [.lit (.int .u8 128), .lit (.int .u8 159)], .agg [.lit (.int .u8 144), .lit (.int .u8 191)], .agg [.lit (.int .u8 128), .lit (.int .u8 143)], .agg [.lit (.int .u8 0), .lit (.int .u8 0)], .agg [.lit (.int .u8 0), .lit (.int .u8 0)], .agg [.lit (.int .u8 0), .lit (.int .u8 0)], .agg [.lit (.int .u8 0), .lit (.int .u8 0)], .agg [.lit (.int .u8 0), .lit (.int .u8 0)], .agg [.lit (.int .u8 0), .lit (.int .u8 0)], .agg [.lit (.int .u8 0), .lit (.int .u8 0)], .agg [.lit (.int .u8 0), .lit (.int .u8 0)], .agg [.lit (.int .u8 0), .lit (.int .u8 0)], .agg [.lit (.int .u8 0), .lit (.int .u8 0)], .agg [.lit (.int .u8 0), .lit (.int .u8 0)]]
/-- One of Go's own tables, pinned by name: the form's constant. -/
def laid_unicode_utf8_first : DataW Unit := Go.Pinned.utf8First

/-- 'burinlaw11.IndexLists': WHATEVER THE INPUT: true; the input reads as it did. -/
def indexListsSpec : ChangeSpec := { name := "indexLists", fn := fun _ => fun
  | [d] => { results := [.lit (.bool true)], args := [d] }
  | _ => none }
def indexListsRow : OpenClaim := { program := "ytcjbnifafofpbaagreatdoor", sum := "319e99a0031fa86c30c0c13458d950d3139096a371a2dd04eed9633195615dd4", func := "burin/burinlaw11.IndexLists", spec := "indexLists", inPlace := ["internal/bytealg.IndexByteString", "internal/bytealg.IndexString", "internal/bytealg.abigen_runtime_cmpstring"], unfollowed := true, recurses := true, named := ["unicode/utf8.first", "unicode/utf8.acceptRanges", "internal/bytealg.MaxLen"], plainKeys := false, apart := false, laid := [("unicode/utf8.acceptRanges", laid_unicode_utf8_acceptRanges), ("unicode/utf8.first", laid_unicode_utf8_first)] }
def IndexListsSaid : Prop := indexListsRow.holds Tryz.pinned (OpenSpec.ofChange indexListsSpec)

/-- ITS FALSE NEIGHBOUR: 'it returns false'. Refute it at one input. -/
def indexListsWrong : ChangeSpec := { name := "indexLists", fn := fun _ => fun
  | [d] => { results := [.lit (.bool false)], args := [d] }
  | _ => none }
def IndexListsWrongFalsely : Prop := indexListsRow.holds Tryz.pinned (OpenSpec.ofChange indexListsWrong)

/-- 'burinlaw11.IndexReads': WHATEVER THE INPUT: true; the input reads as it did. -/
def indexReadsSpec : ChangeSpec := { name := "indexReads", fn := fun _ => fun
  | [d1, d2, d3] => { results := [.lit (.bool true)], args := [d1, d2, d3] }
  | _ => none }
def indexReadsRow : OpenClaim := { program := "ytcjbnifafofpbaagreatdoor", sum := "319e99a0031fa86c30c0c13458d950d3139096a371a2dd04eed9633195615dd4", func := "burin/burinlaw11.IndexReads", spec := "indexReads", inPlace := ["internal/bytealg.IndexByteString", "internal/bytealg.IndexString", "internal/bytealg.abigen_runtime_cmpstring"], unfollowed := true, recurses := true, named := ["unicode/utf8.first", "unicode/utf8.acceptRanges", "internal/bytealg.MaxLen"], plainKeys := false, apart := false, laid := [("unicode/utf8.acceptRanges", laid_unicode_utf8_acceptRanges), ("unicode/utf8.first", laid_unicode_utf8_first)] }
def IndexReadsSaid : Prop := indexReadsRow.holds Tryz.pinned (OpenSpec.ofChange indexReadsSpec)

/-- ITS FALSE NEIGHBOUR: 'it returns false'. Refute it at one input. -/
def indexReadsWrong : ChangeSpec := { name := "indexReads", fn := fun _ => fun
  | [d1, d2, d3] => { results := [.lit (.bool false)], args := [d1, d2, d3] }
  | _ => none }
def IndexReadsWrongFalsely : Prop := indexReadsRow.holds Tryz.pinned (OpenSpec.ofChange indexReadsWrong)

/-- 'burinlaw11.IndexTells': WHATEVER THE INPUT: true; the input reads as it did. -/
def indexTellsSpec : ChangeSpec := { name := "indexTells", fn := fun _ => fun
  | [d1, d2, d3, d4] => { results := [.lit (.bool true)], args := [d1, d2, d3, d4] }
  | _ => none }
def indexTellsRow : OpenClaim := { program := "ytcjbnifafofpbaagreatdoor", sum := "319e99a0031fa86c30c0c13458d950d3139096a371a2dd04eed9633195615dd4", func := "burin/burinlaw11.IndexTells", spec := "indexTells", inPlace := ["internal/bytealg.IndexByteString", "internal/bytealg.IndexString", "internal/bytealg.abigen_runtime_cmpstring"], unfollowed := true, recurses := true, named := ["unicode/utf8.first", "unicode/utf8.acceptRanges", "internal/bytealg.MaxLen"], plainKeys := false, apart := false, laid := [("unicode/utf8.acceptRanges", laid_unicode_utf8_acceptRanges), ("unicode/utf8.first", laid_unicode_utf8_first)] }
def IndexTellsSaid : Prop := indexTellsRow.holds Tryz.pinned (OpenSpec.ofChange indexTellsSpec)

/-- ITS FALSE NEIGHBOUR: 'it returns false'. Refute it at one input. -/
def indexTellsWrong : ChangeSpec := { name := "indexTells", fn := fun _ => fun
  | [d1, d2, d3, d4] => { results := [.lit (.bool false)], args := [d1, d2, d3, d4] }
  | _ => none }
def IndexTellsWrongFalsely : Prop := indexTellsRow.holds Tryz.pinned (OpenSpec.ofChange indexTellsWrong)

/-- 'burinlaw11.IndexNears': WHATEVER THE INPUT: true; the input reads as it did. -/
def indexNearsSpec : ChangeSpec := { name := "indexNears", fn := fun _ => fun
  | [d1, d2, d3, d4] => { results := [.lit (.bool true)], args := [d1, d2, d3, d4] }
  | _ => none }
def indexNearsRow : OpenClaim := { program := "ytcjbnifafofpbaagreatdoor", sum := "319e99a0031fa86c30c0c13458d950d3139096a371a2dd04eed9633195615dd4", func := "burin/burinlaw11.IndexNears", spec := "indexNears", inPlace := ["internal/bytealg.IndexByteString", "internal/bytealg.IndexString", "internal/bytealg.abigen_runtime_cmpstring"], unfollowed := true, recurses := true, named := ["unicode/utf8.first", "unicode/utf8.acceptRanges", "internal/bytealg.MaxLen"], plainKeys := false, apart := false, laid := [("unicode/utf8.acceptRanges", laid_unicode_utf8_acceptRanges), ("unicode/utf8.first", laid_unicode_utf8_first)] }
def IndexNearsSaid : Prop := indexNearsRow.holds Tryz.pinned (OpenSpec.ofChange indexNearsSpec)

/-- ITS FALSE NEIGHBOUR: 'it returns false'. Refute it at one input. -/
def indexNearsWrong : ChangeSpec := { name := "indexNears", fn := fun _ => fun
  | [d1, d2, d3, d4] => { results := [.lit (.bool false)], args := [d1, d2, d3, d4] }
  | _ => none }
def IndexNearsWrongFalsely : Prop := indexNearsRow.holds Tryz.pinned (OpenSpec.ofChange indexNearsWrong)

/-- 'burinlaw11.IndexLeast': WHATEVER THE INPUT: true; the input reads as it did. -/
def indexLeastSpec : ChangeSpec := { name := "indexLeast", fn := fun _ => fun
  | [d1, d2] => { results := [.lit (.bool true)], args := [d1, d2] }
  | _ => none }
def indexLeastRow : OpenClaim := { program := "ytcjbnifafofpbaagreatdoor", sum := "319e99a0031fa86c30c0c13458d950d3139096a371a2dd04eed9633195615dd4", func := "burin/burinlaw11.IndexLeast", spec := "indexLeast", inPlace := ["internal/bytealg.IndexByteString", "internal/bytealg.IndexString", "internal/bytealg.abigen_runtime_cmpstring"], unfollowed := true, recurses := true, named := ["unicode/utf8.first", "unicode/utf8.acceptRanges", "internal/bytealg.MaxLen"], plainKeys := false, apart := false, laid := [("unicode/utf8.acceptRanges", laid_unicode_utf8_acceptRanges), ("unicode/utf8.first", laid_unicode_utf8_first)] }
def IndexLeastSaid : Prop := indexLeastRow.holds Tryz.pinned (OpenSpec.ofChange indexLeastSpec)

/-- ITS FALSE NEIGHBOUR: 'it returns false'. Refute it at one input. -/
def indexLeastWrong : ChangeSpec := { name := "indexLeast", fn := fun _ => fun
  | [d1, d2] => { results := [.lit (.bool false)], args := [d1, d2] }
  | _ => none }
def IndexLeastWrongFalsely : Prop := indexLeastRow.holds Tryz.pinned (OpenSpec.ofChange indexLeastWrong)

/-- 'burinlaw11.IndexNumbered': WHATEVER THE INPUT: true; the input reads as it did. -/
def indexNumberedSpec : ChangeSpec := { name := "indexNumbered", fn := fun _ => fun
  | [d1, d2] => { results := [.lit (.bool true)], args := [d1, d2] }
  | _ => none }
def indexNumberedRow : OpenClaim := { program := "ytcjbnifafofpbaagreatdoor", sum := "319e99a0031fa86c30c0c13458d950d3139096a371a2dd04eed9633195615dd4", func := "burin/burinlaw11.IndexNumbered", spec := "indexNumbered", inPlace := ["internal/bytealg.IndexByteString", "internal/bytealg.IndexString", "internal/bytealg.abigen_runtime_cmpstring"], unfollowed := true, recurses := true, named := ["unicode/utf8.first", "unicode/utf8.acceptRanges", "internal/bytealg.MaxLen"], plainKeys := false, apart := false, laid := [("unicode/utf8.acceptRanges", laid_unicode_utf8_acceptRanges), ("unicode/utf8.first", laid_unicode_utf8_first)] }
def IndexNumberedSaid : Prop := indexNumberedRow.holds Tryz.pinned (OpenSpec.ofChange indexNumberedSpec)

/-- ITS FALSE NEIGHBOUR: 'it returns false'. Refute it at one input. -/
def indexNumberedWrong : ChangeSpec := { name := "indexNumbered", fn := fun _ => fun
  | [d1, d2] => { results := [.lit (.bool false)], args := [d1, d2] }
  | _ => none }
def IndexNumberedWrongFalsely : Prop := indexNumberedRow.holds Tryz.pinned (OpenSpec.ofChange indexNumberedWrong)

/-- 'burinlaw11.IndexTold': WHATEVER THE INPUT: true; the input reads as it did. -/
def indexToldSpec : ChangeSpec := { name := "indexTold", fn := fun _ => fun
  | [d1, d2, d3, d4] => { results := [.lit (.bool true)], args := [d1, d2, d3, d4] }
  | _ => none }
def indexToldRow : OpenClaim := { program := "ytcjbnifafofpbaagreatdoor", sum := "319e99a0031fa86c30c0c13458d950d3139096a371a2dd04eed9633195615dd4", func := "burin/burinlaw11.IndexTold", spec := "indexTold", inPlace := ["internal/bytealg.IndexByteString", "internal/bytealg.IndexString", "internal/bytealg.abigen_runtime_cmpstring"], unfollowed := true, recurses := true, named := ["unicode/utf8.first", "unicode/utf8.acceptRanges", "internal/bytealg.MaxLen"], plainKeys := false, apart := false, laid := [("unicode/utf8.acceptRanges", laid_unicode_utf8_acceptRanges), ("unicode/utf8.first", laid_unicode_utf8_first)] }
def IndexToldSaid : Prop := indexToldRow.holds Tryz.pinned (OpenSpec.ofChange indexToldSpec)

/-- ITS FALSE NEIGHBOUR: 'it returns false'. Refute it at one input. -/
def indexToldWrong : ChangeSpec := { name := "indexTold", fn := fun _ => fun
  | [d1, d2, d3, d4] => { results := [.lit (.bool false)], args := [d1, d2, d3, d4] }
  | _ => none }
def IndexToldWrongFalsely : Prop := indexToldRow.holds Tryz.pinned (OpenSpec.ofChange indexToldWrong)

/-- 'burinlaw11.IndexNear': WHATEVER THE INPUT: true; the input reads as it did. -/
def indexNearSpec : ChangeSpec := { name := "indexNear", fn := fun _ => fun
  | [d1, d2, d3, d4] => { results := [.lit (.bool true)], args := [d1, d2, d3, d4] }
  | _ => none }
def indexNearRow : OpenClaim := { program := "ytcjbnifafofpbaagreatdoor", sum := "319e99a0031fa86c30c0c13458d950d3139096a371a2dd04eed9633195615dd4", func := "burin/burinlaw11.IndexNear", spec := "indexNear", inPlace := ["internal/bytealg.IndexByteString", "internal/bytealg.IndexString", "internal/bytealg.abigen_runtime_cmpstring"], unfollowed := true, recurses := true, named := ["unicode/utf8.first", "unicode/utf8.acceptRanges", "internal/bytealg.MaxLen"], plainKeys := false, apart := false, laid := [("unicode/utf8.acceptRanges", laid_unicode_utf8_acceptRanges), ("unicode/utf8.first", laid_unicode_utf8_first)] }
def IndexNearSaid : Prop := indexNearRow.holds Tryz.pinned (OpenSpec.ofChange indexNearSpec)

/-- ITS FALSE NEIGHBOUR: 'it returns false'. Refute it at one input. -/
def indexNearWrong : ChangeSpec := { name := "indexNear", fn := fun _ => fun
  | [d1, d2, d3, d4] => { results := [.lit (.bool false)], args := [d1, d2, d3, d4] }
  | _ => none }
def IndexNearWrongFalsely : Prop := indexNearRow.holds Tryz.pinned (OpenSpec.ofChange indexNearWrong)

/-- 'burinlaw11.IndexJoined': WHATEVER THE INPUT: true; the input reads as it did. -/
def indexJoinedSpec : ChangeSpec := { name := "indexJoined", fn := fun _ => fun
  | [d1, d2] => { results := [.lit (.bool true)], args := [d1, d2] }
  | _ => none }
def indexJoinedRow : OpenClaim := { program := "ytcjbnifafofpbaagreatdoor", sum := "319e99a0031fa86c30c0c13458d950d3139096a371a2dd04eed9633195615dd4", func := "burin/burinlaw11.IndexJoined", spec := "indexJoined", inPlace := ["internal/bytealg.IndexByteString", "internal/bytealg.IndexString", "internal/bytealg.abigen_runtime_cmpstring"], unfollowed := true, recurses := true, named := ["unicode/utf8.first", "unicode/utf8.acceptRanges", "internal/bytealg.MaxLen"], plainKeys := false, apart := false, laid := [("unicode/utf8.acceptRanges", laid_unicode_utf8_acceptRanges), ("unicode/utf8.first", laid_unicode_utf8_first)] }
def IndexJoinedSaid : Prop := indexJoinedRow.holds Tryz.pinned (OpenSpec.ofChange indexJoinedSpec)

/-- ITS FALSE NEIGHBOUR: 'it returns false'. Refute it at one input. -/
def indexJoinedWrong : ChangeSpec := { name := "indexJoined", fn := fun _ => fun
  | [d1, d2] => { results := [.lit (.bool false)], args := [d1, d2] }
  | _ => none }
def IndexJoinedWrongFalsely : Prop := indexJoinedRow.holds Tryz.pinned (OpenSpec.ofChange indexJoinedWrong)

/-- 'burinlaw11.IndexLonger': WHATEVER THE INPUT: true; the input reads as it did. -/
def indexLongerSpec : ChangeSpec := { name := "indexLonger", fn := fun _ => fun
  | [d1, d2] => { results := [.lit (.bool true)], args := [d1, d2] }
  | _ => none }
def indexLongerRow : OpenClaim := { program := "ytcjbnifafofpbaagreatdoor", sum := "319e99a0031fa86c30c0c13458d950d3139096a371a2dd04eed9633195615dd4", func := "burin/burinlaw11.IndexLonger", spec := "indexLonger", inPlace := ["internal/bytealg.IndexByteString", "internal/bytealg.IndexString", "internal/bytealg.abigen_runtime_cmpstring"], unfollowed := true, recurses := true, named := ["unicode/utf8.first", "unicode/utf8.acceptRanges", "internal/bytealg.MaxLen"], plainKeys := false, apart := false, laid := [("unicode/utf8.acceptRanges", laid_unicode_utf8_acceptRanges), ("unicode/utf8.first", laid_unicode_utf8_first)] }
def IndexLongerSaid : Prop := indexLongerRow.holds Tryz.pinned (OpenSpec.ofChange indexLongerSpec)

/-- ITS FALSE NEIGHBOUR: 'it returns false'. Refute it at one input. -/
def indexLongerWrong : ChangeSpec := { name := "indexLonger", fn := fun _ => fun
  | [d1, d2] => { results := [.lit (.bool false)], args := [d1, d2] }
  | _ => none }
def IndexLongerWrongFalsely : Prop := indexLongerRow.holds Tryz.pinned (OpenSpec.ofChange indexLongerWrong)

/-- 'burinlaw11.IndexSorted': WHATEVER THE INPUT: true; the input reads as it did. -/
def indexSortedSpec : ChangeSpec := { name := "indexSorted", fn := fun _ => fun
  | [d] => { results := [.lit (.bool true)], args := [d] }
  | _ => none }
def indexSortedRow : OpenClaim := { program := "ytcjbnifafofpbaagreatdoor", sum := "319e99a0031fa86c30c0c13458d950d3139096a371a2dd04eed9633195615dd4", func := "burin/burinlaw11.IndexSorted", spec := "indexSorted", inPlace := ["internal/bytealg.IndexByteString", "internal/bytealg.IndexString", "internal/bytealg.abigen_runtime_cmpstring"], unfollowed := true, recurses := true, named := ["unicode/utf8.first", "unicode/utf8.acceptRanges", "internal/bytealg.MaxLen"], plainKeys := false, apart := false, laid := [("unicode/utf8.acceptRanges", laid_unicode_utf8_acceptRanges), ("unicode/utf8.first", laid_unicode_utf8_first)] }
def IndexSortedSaid : Prop := indexSortedRow.holds Tryz.pinned (OpenSpec.ofChange indexSortedSpec)

/-- ITS FALSE NEIGHBOUR: 'it returns false'. Refute it at one input. -/
def indexSortedWrong : ChangeSpec := { name := "indexSorted", fn := fun _ => fun
  | [d] => { results := [.lit (.bool false)], args := [d] }
  | _ => none }
def IndexSortedWrongFalsely : Prop := indexSortedRow.holds Tryz.pinned (OpenSpec.ofChange indexSortedWrong)

/-- 'burinlaw11.IndexMore': WHATEVER THE INPUT: true; the input reads as it did. -/
def indexMoreSpec : ChangeSpec := { name := "indexMore", fn := fun _ => fun
  | [d1, d2] => { results := [.lit (.bool true)], args := [d1, d2] }
  | _ => none }
def indexMoreRow : OpenClaim := { program := "ytcjbnifafofpbaagreatdoor", sum := "319e99a0031fa86c30c0c13458d950d3139096a371a2dd04eed9633195615dd4", func := "burin/burinlaw11.IndexMore", spec := "indexMore", inPlace := ["internal/bytealg.IndexByteString", "internal/bytealg.IndexString", "internal/bytealg.abigen_runtime_cmpstring"], unfollowed := true, recurses := true, named := ["unicode/utf8.first", "unicode/utf8.acceptRanges", "internal/bytealg.MaxLen"], plainKeys := false, apart := false, laid := [("unicode/utf8.acceptRanges", laid_unicode_utf8_acceptRanges), ("unicode/utf8.first", laid_unicode_utf8_first)] }
def IndexMoreSaid : Prop := indexMoreRow.holds Tryz.pinned (OpenSpec.ofChange indexMoreSpec)

/-- ITS FALSE NEIGHBOUR: 'it returns false'. Refute it at one input. -/
def indexMoreWrong : ChangeSpec := { name := "indexMore", fn := fun _ => fun
  | [d1, d2] => { results := [.lit (.bool false)], args := [d1, d2] }
  | _ => none }
def IndexMoreWrongFalsely : Prop := indexMoreRow.holds Tryz.pinned (OpenSpec.ofChange indexMoreWrong)

/-- 'burinlaw11.IndexKnown': WHATEVER THE INPUT: true; the input reads as it did. -/
def indexKnownSpec : ChangeSpec := { name := "indexKnown", fn := fun _ => fun
  | [] => { results := [.lit (.bool true)], args := [] }
  | _ => none }
def indexKnownRow : OpenClaim := { program := "ytcjbnifafofpbaagreatdoor", sum := "319e99a0031fa86c30c0c13458d950d3139096a371a2dd04eed9633195615dd4", func := "burin/burinlaw11.IndexKnown", spec := "indexKnown", inPlace := ["internal/bytealg.IndexByteString", "internal/bytealg.IndexString", "internal/bytealg.abigen_runtime_cmpstring"], unfollowed := true, recurses := true, named := ["unicode/utf8.first", "unicode/utf8.acceptRanges", "internal/bytealg.MaxLen"], plainKeys := false, apart := false, laid := [("unicode/utf8.acceptRanges", laid_unicode_utf8_acceptRanges), ("unicode/utf8.first", laid_unicode_utf8_first)] }
def IndexKnownSaid : Prop := indexKnownRow.holds Tryz.pinned (OpenSpec.ofChange indexKnownSpec)

/-- ITS FALSE NEIGHBOUR: 'it returns false'. Refute it at one input. -/
def indexKnownWrong : ChangeSpec := { name := "indexKnown", fn := fun _ => fun
  | [] => { results := [.lit (.bool false)], args := [] }
  | _ => none }
def IndexKnownWrongFalsely : Prop := indexKnownRow.holds Tryz.pinned (OpenSpec.ofChange indexKnownWrong)

/- THE SECOND FORM. 'bulk': how many values and letters a reading holds, each counted each time it is reached (what is shared counts as often as it is met; a slice's spare places count too). A statement '..UptoSaid' is the law's where the arguments, and the package variables that the reading takes, are together of bulk at most 1048576: NARROWER than '..Said'. Prove '..Said' where nothing that the law and all that it calls make is longer than what came in: it says more and counts as full. Else prove '..UptoSaid'. A law counts once. -/
mutual
def uptoBulk {H : Type} : DataW H → Nat
  | .lit (.string bytes) => bytes.length + 1
  | .lit _ => 1
  | .nil => 1
  | .ptr d => uptoBulk d + 1
  | .slice elems spare => uptoBulkAll elems + uptoBulkAll spare + 1
  | .agg parts => uptoBulkAll parts + 1
  | .iface _ d => uptoBulk d + 1
  | .map entries => uptoBulkEntries entries + 1
  | .held _ => 1
def uptoBulkAll {H : Type} : List (DataW H) → Nat
  | [] => 0
  | d :: r => uptoBulk d + uptoBulkAll r
def uptoBulkEntries {H : Type} : List (Lit × DataW H) → Nat
  | [] => 0
  | x :: r => uptoBulkEntry x + uptoBulkEntries r
def uptoBulkEntry {H : Type} : Lit × DataW H → Nat
  | (.string bytes, d) => bytes.length + uptoBulk d + 1
  | (_, d) => uptoBulk d + 1
 end
def uptoSmall : (H : Type) → List (DataW H) → Bool := fun _ ds => decide (uptoBulkAll ds ≤ 1048576)
def OpenSpec.upto (s : _root_.Go.ChangeSpec) : _root_.Go.OpenSpec := { _root_.Go.OpenSpec.ofChange s with cond := some uptoSmall }

/-- 'burinlaw11.IndexLists', WHERE WHAT IT READS IS OF BULK AT MOST 1048576: true; the input reads as it did. -/
def indexListsUptoRow : OpenClaim := { program := "ytcjbnifafofpbaagreatdoor", sum := "319e99a0031fa86c30c0c13458d950d3139096a371a2dd04eed9633195615dd4", func := "burin/burinlaw11.IndexLists", spec := "indexLists", inPlace := ["internal/bytealg.IndexByteString", "internal/bytealg.IndexString", "internal/bytealg.abigen_runtime_cmpstring"], unfollowed := true, recurses := true, named := ["unicode/utf8.first", "unicode/utf8.acceptRanges", "internal/bytealg.MaxLen"], plainKeys := false, apart := false, laid := [("unicode/utf8.acceptRanges", laid_unicode_utf8_acceptRanges), ("unicode/utf8.first", laid_unicode_utf8_first)], narrowed := true }
def IndexListsUptoSaid : Prop := indexListsUptoRow.holds Tryz.pinned (OpenSpec.upto indexListsSpec)

/-- 'burinlaw11.IndexReads', WHERE WHAT IT READS IS OF BULK AT MOST 1048576: true; the input reads as it did. -/
def indexReadsUptoRow : OpenClaim := { program := "ytcjbnifafofpbaagreatdoor", sum := "319e99a0031fa86c30c0c13458d950d3139096a371a2dd04eed9633195615dd4", func := "burin/burinlaw11.IndexReads", spec := "indexReads", inPlace := ["internal/bytealg.IndexByteString", "internal/bytealg.IndexString", "internal/bytealg.abigen_runtime_cmpstring"], unfollowed := true, recurses := true, named := ["unicode/utf8.first", "unicode/utf8.acceptRanges", "internal/bytealg.MaxLen"], plainKeys := false, apart := false, laid := [("unicode/utf8.acceptRanges", laid_unicode_utf8_acceptRanges), ("unicode/utf8.first", laid_unicode_utf8_first)], narrowed := true }
def IndexReadsUptoSaid : Prop := indexReadsUptoRow.holds Tryz.pinned (OpenSpec.upto indexReadsSpec)

/-- 'burinlaw11.IndexTells', WHERE WHAT IT READS IS OF BULK AT MOST 1048576: true; the input reads as it did. -/
def indexTellsUptoRow : OpenClaim := { program := "ytcjbnifafofpbaagreatdoor", sum := "319e99a0031fa86c30c0c13458d950d3139096a371a2dd04eed9633195615dd4", func := "burin/burinlaw11.IndexTells", spec := "indexTells", inPlace := ["internal/bytealg.IndexByteString", "internal/bytealg.IndexString", "internal/bytealg.abigen_runtime_cmpstring"], unfollowed := true, recurses := true, named := ["unicode/utf8.first", "unicode/utf8.acceptRanges", "internal/bytealg.MaxLen"], plainKeys := false, apart := false, laid := [("unicode/utf8.acceptRanges", laid_unicode_utf8_acceptRanges), ("unicode/utf8.first", laid_unicode_utf8_first)], narrowed := true }
def IndexTellsUptoSaid : Prop := indexTellsUptoRow.holds Tryz.pinned (OpenSpec.upto indexTellsSpec)

/-- 'burinlaw11.IndexNears', WHERE WHAT IT READS IS OF BULK AT MOST 1048576: true; the input reads as it did. -/
def indexNearsUptoRow : OpenClaim := { program := "ytcjbnifafofpbaagreatdoor", sum := "319e99a0031fa86c30c0c13458d950d3139096a371a2dd04eed9633195615dd4", func := "burin/burinlaw11.IndexNears", spec := "indexNears", inPlace := ["internal/bytealg.IndexByteString", "internal/bytealg.IndexString", "internal/bytealg.abigen_runtime_cmpstring"], unfollowed := true, recurses := true, named := ["unicode/utf8.first", "unicode/utf8.acceptRanges", "internal/bytealg.MaxLen"], plainKeys := false, apart := false, laid := [("unicode/utf8.acceptRanges", laid_unicode_utf8_acceptRanges), ("unicode/utf8.first", laid_unicode_utf8_first)], narrowed := true }
def IndexNearsUptoSaid : Prop := indexNearsUptoRow.holds Tryz.pinned (OpenSpec.upto indexNearsSpec)

/-- 'burinlaw11.IndexLeast', WHERE WHAT IT READS IS OF BULK AT MOST 1048576: true; the input reads as it did. -/
def indexLeastUptoRow : OpenClaim := { program := "ytcjbnifafofpbaagreatdoor", sum := "319e99a0031fa86c30c0c13458d950d3139096a371a2dd04eed9633195615dd4", func := "burin/burinlaw11.IndexLeast", spec := "indexLeast", inPlace := ["internal/bytealg.IndexByteString", "internal/bytealg.IndexString", "internal/bytealg.abigen_runtime_cmpstring"], unfollowed := true, recurses := true, named := ["unicode/utf8.first", "unicode/utf8.acceptRanges", "internal/bytealg.MaxLen"], plainKeys := false, apart := false, laid := [("unicode/utf8.acceptRanges", laid_unicode_utf8_acceptRanges), ("unicode/utf8.first", laid_unicode_utf8_first)], narrowed := true }
def IndexLeastUptoSaid : Prop := indexLeastUptoRow.holds Tryz.pinned (OpenSpec.upto indexLeastSpec)

/-- 'burinlaw11.IndexNumbered', WHERE WHAT IT READS IS OF BULK AT MOST 1048576: true; the input reads as it did. -/
def indexNumberedUptoRow : OpenClaim := { program := "ytcjbnifafofpbaagreatdoor", sum := "319e99a0031fa86c30c0c13458d950d3139096a371a2dd04eed9633195615dd4", func := "burin/burinlaw11.IndexNumbered", spec := "indexNumbered", inPlace := ["internal/bytealg.IndexByteString", "internal/bytealg.IndexString", "internal/bytealg.abigen_runtime_cmpstring"], unfollowed := true, recurses := true, named := ["unicode/utf8.first", "unicode/utf8.acceptRanges", "internal/bytealg.MaxLen"], plainKeys := false, apart := false, laid := [("unicode/utf8.acceptRanges", laid_unicode_utf8_acceptRanges), ("unicode/utf8.first", laid_unicode_utf8_first)], narrowed := true }
def IndexNumberedUptoSaid : Prop := indexNumberedUptoRow.holds Tryz.pinned (OpenSpec.upto indexNumberedSpec)

/-- 'burinlaw11.IndexTold', WHERE WHAT IT READS IS OF BULK AT MOST 1048576: true; the input reads as it did. -/
def indexToldUptoRow : OpenClaim := { program := "ytcjbnifafofpbaagreatdoor", sum := "319e99a0031fa86c30c0c13458d950d3139096a371a2dd04eed9633195615dd4", func := "burin/burinlaw11.IndexTold", spec := "indexTold", inPlace := ["internal/bytealg.IndexByteString", "internal/bytealg.IndexString", "internal/bytealg.abigen_runtime_cmpstring"], unfollowed := true, recurses := true, named := ["unicode/utf8.first", "unicode/utf8.acceptRanges", "internal/bytealg.MaxLen"], plainKeys := false, apart := false, laid := [("unicode/utf8.acceptRanges", laid_unicode_utf8_acceptRanges), ("unicode/utf8.first", laid_unicode_utf8_first)], narrowed := true }
def IndexToldUptoSaid : Prop := indexToldUptoRow.holds Tryz.pinned (OpenSpec.upto indexToldSpec)

/-- 'burinlaw11.IndexNear', WHERE WHAT IT READS IS OF BULK AT MOST 1048576: true; the input reads as it did. -/
def indexNearUptoRow : OpenClaim := { program := "ytcjbnifafofpbaagreatdoor", sum := "319e99a0031fa86c30c0c13458d950d3139096a371a2dd04eed9633195615dd4", func := "burin/burinlaw11.IndexNear", spec := "indexNear", inPlace := ["internal/bytealg.IndexByteString", "internal/bytealg.IndexString", "internal/bytealg.abigen_runtime_cmpstring"], unfollowed := true, recurses := true, named := ["unicode/utf8.first", "unicode/utf8.acceptRanges", "internal/bytealg.MaxLen"], plainKeys := false, apart := false, laid := [("unicode/utf8.acceptRanges", laid_unicode_utf8_acceptRanges), ("unicode/utf8.first", laid_unicode_utf8_first)], narrowed := true }
def IndexNearUptoSaid : Prop := indexNearUptoRow.holds Tryz.pinned (OpenSpec.upto indexNearSpec)

/-- 'burinlaw11.IndexJoined', WHERE WHAT IT READS IS OF BULK AT MOST 1048576: true; the input reads as it did. -/
def indexJoinedUptoRow : OpenClaim := { program := "ytcjbnifafofpbaagreatdoor", sum := "319e99a0031fa86c30c0c13458d950d3139096a371a2dd04eed9633195615dd4", func := "burin/burinlaw11.IndexJoined", spec := "indexJoined", inPlace := ["internal/bytealg.IndexByteString", "internal/bytealg.IndexString", "internal/bytealg.abigen_runtime_cmpstring"], unfollowed := true, recurses := true, named := ["unicode/utf8.first", "unicode/utf8.acceptRanges", "internal/bytealg.MaxLen"], plainKeys := false, apart := false, laid := [("unicode/utf8.acceptRanges", laid_unicode_utf8_acceptRanges), ("unicode/utf8.first", laid_unicode_utf8_first)], narrowed := true }
def IndexJoinedUptoSaid : Prop := indexJoinedUptoRow.holds Tryz.pinned (OpenSpec.upto indexJoinedSpec)

/-- 'burinlaw11.IndexLonger', WHERE WHAT IT READS IS OF BULK AT MOST 1048576: true; the input reads as it did. -/
def indexLongerUptoRow : OpenClaim := { program := "ytcjbnifafofpbaagreatdoor", sum := "319e99a0031fa86c30c0c13458d950d3139096a371a2dd04eed9633195615dd4", func := "burin/burinlaw11.IndexLonger", spec := "indexLonger", inPlace := ["internal/bytealg.IndexByteString", "internal/bytealg.IndexString", "internal/bytealg.abigen_runtime_cmpstring"], unfollowed := true, recurses := true, named := ["unicode/utf8.first", "unicode/utf8.acceptRanges", "internal/bytealg.MaxLen"], plainKeys := false, apart := false, laid := [("unicode/utf8.acceptRanges", laid_unicode_utf8_acceptRanges), ("unicode/utf8.first", laid_unicode_utf8_first)], narrowed := true }
def IndexLongerUptoSaid : Prop := indexLongerUptoRow.holds Tryz.pinned (OpenSpec.upto indexLongerSpec)

/-- 'burinlaw11.IndexSorted', WHERE WHAT IT READS IS OF BULK AT MOST 1048576: true; the input reads as it did. -/
def indexSortedUptoRow : OpenClaim := { program := "ytcjbnifafofpbaagreatdoor", sum := "319e99a0031fa86c30c0c13458d950d3139096a371a2dd04eed9633195615dd4", func := "burin/burinlaw11.IndexSorted", spec := "indexSorted", inPlace := ["internal/bytealg.IndexByteString", "internal/bytealg.IndexString", "internal/bytealg.abigen_runtime_cmpstring"], unfollowed := true, recurses := true, named := ["unicode/utf8.first", "unicode/utf8.acceptRanges", "internal/bytealg.MaxLen"], plainKeys := false, apart := false, laid := [("unicode/utf8.acceptRanges", laid_unicode_utf8_acceptRanges), ("unicode/utf8.first", laid_unicode_utf8_first)], narrowed := true }
def IndexSortedUptoSaid : Prop := indexSortedUptoRow.holds Tryz.pinned (OpenSpec.upto indexSortedSpec)

/-- 'burinlaw11.IndexMore', WHERE WHAT IT READS IS OF BULK AT MOST 1048576: true; the input reads as it did. -/
def indexMoreUptoRow : OpenClaim := { program := "ytcjbnifafofpbaagreatdoor", sum := "319e99a0031fa86c30c0c13458d950d3139096a371a2dd04eed9633195615dd4", func := "burin/burinlaw11.IndexMore", spec := "indexMore", inPlace := ["internal/bytealg.IndexByteString", "internal/bytealg.IndexString", "internal/bytealg.abigen_runtime_cmpstring"], unfollowed := true, recurses := true, named := ["unicode/utf8.first", "unicode/utf8.acceptRanges", "internal/bytealg.MaxLen"], plainKeys := false, apart := false, laid := [("unicode/utf8.acceptRanges", laid_unicode_utf8_acceptRanges), ("unicode/utf8.first", laid_unicode_utf8_first)], narrowed := true }
def IndexMoreUptoSaid : Prop := indexMoreUptoRow.holds Tryz.pinned (OpenSpec.upto indexMoreSpec)

/-- 'burinlaw11.IndexKnown', WHERE WHAT IT READS IS OF BULK AT MOST 1048576: true; the input reads as it did. -/
def indexKnownUptoRow : OpenClaim := { program := "ytcjbnifafofpbaagreatdoor", sum := "319e99a0031fa86c30c0c13458d950d3139096a371a2dd04eed9633195615dd4", func := "burin/burinlaw11.IndexKnown", spec := "indexKnown", inPlace := ["internal/bytealg.IndexByteString", "internal/bytealg.IndexString", "internal/bytealg.abigen_runtime_cmpstring"], unfollowed := true, recurses := true, named := ["unicode/utf8.first", "unicode/utf8.acceptRanges", "internal/bytealg.MaxLen"], plainKeys := false, apart := false, laid := [("unicode/utf8.acceptRanges", laid_unicode_utf8_acceptRanges), ("unicode/utf8.first", laid_unicode_utf8_first)], narrowed := true }
def IndexKnownUptoSaid : Prop := indexKnownUptoRow.holds Tryz.pinned (OpenSpec.upto indexKnownSpec)

end Rows
end Go.Proofs.YtcjbnifafofpbaaGreatDoor
