/-
  No cell of these rows narrows 'for every input' (looked for: loops, veiled, ifaces, maps, wideKeys, modest, calm, conditions, laid).
  DERIVED. THE GIVEN ROWS OF THIS SEAT. 13 by the template 'for every input the law returns true; each argument reads behind the call as it read before'; 0 by the template 'total and deterministic' (their statements: YtkcgkfhfogdihaaTotals.lean).
  GIVEN WITH THE SEED: the statements are not yours to turn. If you find one false, say at which input.
  Laid BY PROGRAM, IN A SANDBOX (cutbox-rows.mjs): the forced cells as the released guide's own fill.sh prints them over the translation 651e4ab9297feb5d… (all of the seat's roots in one cut). By AI agents, Wed Nov 11 2026. No macro, syntax, notation, axiom, sorry.
-/
import Derived.Test.YtkcgkfhfogdihaaChecked
import GoSem.Claim
import GoSem.ClaimJoined
import GoSem.ClaimMapViews
import Derived.JoinedTies
import Derived.KernelRfl
namespace Go.Proofs.Ytkcgkfhfogdihaa
/- THE CELL 'sum', in the pinned program and in every row, IS THE sha256 OF THE DUMP (.gsa) THAT YtkcgkfhfogdihaaProg.lean LOADS. Nothing in Lean hashes anything: it is a label: what it is worth is what the hold of that sum in a sandbox is worth. -/
noncomputable def Try.pinned : Pinned := { name := "ytkcgkfhfogdihaa", sum := "651e4ab9297feb5d93ea0da080b50587c5595e0b632355093b5b9fa10a6bdefb", checked := Try.checked }
namespace Rows
def none {H : Type} : Left H := { results := [], args := [] }

/-- 'burinlaw09.CometPlaces': WHATEVER THE INPUT: true; the input reads as it did. -/
def cometPlacesSpec : ChangeSpec := { name := "cometPlaces", fn := fun _ => fun
  | [d1, d2, d3] => { results := [.lit (.bool true)], args := [d1, d2, d3] }
  | _ => none }
def cometPlacesRow : OpenClaim := { program := "ytkcgkfhfogdihaa", sum := "651e4ab9297feb5d93ea0da080b50587c5595e0b632355093b5b9fa10a6bdefb", func := "burin/burinlaw09.CometPlaces", spec := "cometPlaces", unfollowed := true, recurses := true, plainKeys := false, apart := false }
def CometPlacesSaid : Prop := cometPlacesRow.holds Try.pinned (OpenSpec.ofChange cometPlacesSpec)

/-- ITS FALSE NEIGHBOUR: 'it returns false'. Refute it at one input. -/
def cometPlacesWrong : ChangeSpec := { name := "cometPlaces", fn := fun _ => fun
  | [d1, d2, d3] => { results := [.lit (.bool false)], args := [d1, d2, d3] }
  | _ => none }
def CometPlacesWrongFalsely : Prop := cometPlacesRow.holds Try.pinned (OpenSpec.ofChange cometPlacesWrong)

/-- 'burinlaw09.CometLogs': WHATEVER THE INPUT: true; the input reads as it did. -/
def cometLogsSpec : ChangeSpec := { name := "cometLogs", fn := fun _ => fun
  | [d1, d2, d3] => { results := [.lit (.bool true)], args := [d1, d2, d3] }
  | _ => none }
def cometLogsRow : OpenClaim := { program := "ytkcgkfhfogdihaa", sum := "651e4ab9297feb5d93ea0da080b50587c5595e0b632355093b5b9fa10a6bdefb", func := "burin/burinlaw09.CometLogs", spec := "cometLogs", unfollowed := true, recurses := true, plainKeys := false, apart := false }
def CometLogsSaid : Prop := cometLogsRow.holds Try.pinned (OpenSpec.ofChange cometLogsSpec)

/-- ITS FALSE NEIGHBOUR: 'it returns false'. Refute it at one input. -/
def cometLogsWrong : ChangeSpec := { name := "cometLogs", fn := fun _ => fun
  | [d1, d2, d3] => { results := [.lit (.bool false)], args := [d1, d2, d3] }
  | _ => none }
def CometLogsWrongFalsely : Prop := cometLogsRow.holds Try.pinned (OpenSpec.ofChange cometLogsWrong)

/-- 'burinlaw09.CometMosts': WHATEVER THE INPUT: true; the input reads as it did. -/
def cometMostsSpec : ChangeSpec := { name := "cometMosts", fn := fun _ => fun
  | [d1, d2] => { results := [.lit (.bool true)], args := [d1, d2] }
  | _ => none }
def cometMostsRow : OpenClaim := { program := "ytkcgkfhfogdihaa", sum := "651e4ab9297feb5d93ea0da080b50587c5595e0b632355093b5b9fa10a6bdefb", func := "burin/burinlaw09.CometMosts", spec := "cometMosts", unfollowed := true, recurses := true, plainKeys := false, apart := false }
def CometMostsSaid : Prop := cometMostsRow.holds Try.pinned (OpenSpec.ofChange cometMostsSpec)

/-- ITS FALSE NEIGHBOUR: 'it returns false'. Refute it at one input. -/
def cometMostsWrong : ChangeSpec := { name := "cometMosts", fn := fun _ => fun
  | [d1, d2] => { results := [.lit (.bool false)], args := [d1, d2] }
  | _ => none }
def CometMostsWrongFalsely : Prop := cometMostsRow.holds Try.pinned (OpenSpec.ofChange cometMostsWrong)

/-- 'burinlaw09.CometOnlys': WHATEVER THE INPUT: true; the input reads as it did. -/
def cometOnlysSpec : ChangeSpec := { name := "cometOnlys", fn := fun _ => fun
  | [d1, d2] => { results := [.lit (.bool true)], args := [d1, d2] }
  | _ => none }
def cometOnlysRow : OpenClaim := { program := "ytkcgkfhfogdihaa", sum := "651e4ab9297feb5d93ea0da080b50587c5595e0b632355093b5b9fa10a6bdefb", func := "burin/burinlaw09.CometOnlys", spec := "cometOnlys", unfollowed := true, recurses := true, plainKeys := false, apart := false }
def CometOnlysSaid : Prop := cometOnlysRow.holds Try.pinned (OpenSpec.ofChange cometOnlysSpec)

/-- ITS FALSE NEIGHBOUR: 'it returns false'. Refute it at one input. -/
def cometOnlysWrong : ChangeSpec := { name := "cometOnlys", fn := fun _ => fun
  | [d1, d2] => { results := [.lit (.bool false)], args := [d1, d2] }
  | _ => none }
def CometOnlysWrongFalsely : Prop := cometOnlysRow.holds Try.pinned (OpenSpec.ofChange cometOnlysWrong)

/-- 'burinlaw09.CometShared': WHATEVER THE INPUT: true; the input reads as it did. -/
def cometSharedSpec : ChangeSpec := { name := "cometShared", fn := fun _ => fun
  | [d1, d2, d3, d4] => { results := [.lit (.bool true)], args := [d1, d2, d3, d4] }
  | _ => none }
def cometSharedRow : OpenClaim := { program := "ytkcgkfhfogdihaa", sum := "651e4ab9297feb5d93ea0da080b50587c5595e0b632355093b5b9fa10a6bdefb", func := "burin/burinlaw09.CometShared", spec := "cometShared", unfollowed := true, recurses := true, plainKeys := false, apart := false }
def CometSharedSaid : Prop := cometSharedRow.holds Try.pinned (OpenSpec.ofChange cometSharedSpec)

/-- ITS FALSE NEIGHBOUR: 'it returns false'. Refute it at one input. -/
def cometSharedWrong : ChangeSpec := { name := "cometShared", fn := fun _ => fun
  | [d1, d2, d3, d4] => { results := [.lit (.bool false)], args := [d1, d2, d3, d4] }
  | _ => none }
def CometSharedWrongFalsely : Prop := cometSharedRow.holds Try.pinned (OpenSpec.ofChange cometSharedWrong)

/-- 'burinlaw09.CometOnly': WHATEVER THE INPUT: true; the input reads as it did. -/
def cometOnlySpec : ChangeSpec := { name := "cometOnly", fn := fun _ => fun
  | [d1, d2, d3, d4] => { results := [.lit (.bool true)], args := [d1, d2, d3, d4] }
  | _ => none }
def cometOnlyRow : OpenClaim := { program := "ytkcgkfhfogdihaa", sum := "651e4ab9297feb5d93ea0da080b50587c5595e0b632355093b5b9fa10a6bdefb", func := "burin/burinlaw09.CometOnly", spec := "cometOnly", unfollowed := true, recurses := true, plainKeys := false, apart := false }
def CometOnlySaid : Prop := cometOnlyRow.holds Try.pinned (OpenSpec.ofChange cometOnlySpec)

/-- ITS FALSE NEIGHBOUR: 'it returns false'. Refute it at one input. -/
def cometOnlyWrong : ChangeSpec := { name := "cometOnly", fn := fun _ => fun
  | [d1, d2, d3, d4] => { results := [.lit (.bool false)], args := [d1, d2, d3, d4] }
  | _ => none }
def CometOnlyWrongFalsely : Prop := cometOnlyRow.holds Try.pinned (OpenSpec.ofChange cometOnlyWrong)

/-- 'burinlaw09.CometLater': WHATEVER THE INPUT: true; the input reads as it did. -/
def cometLaterSpec : ChangeSpec := { name := "cometLater", fn := fun _ => fun
  | [d1, d2, d3, d4] => { results := [.lit (.bool true)], args := [d1, d2, d3, d4] }
  | _ => none }
def cometLaterRow : OpenClaim := { program := "ytkcgkfhfogdihaa", sum := "651e4ab9297feb5d93ea0da080b50587c5595e0b632355093b5b9fa10a6bdefb", func := "burin/burinlaw09.CometLater", spec := "cometLater", unfollowed := true, recurses := true, plainKeys := false, apart := false }
def CometLaterSaid : Prop := cometLaterRow.holds Try.pinned (OpenSpec.ofChange cometLaterSpec)

/-- ITS FALSE NEIGHBOUR: 'it returns false'. Refute it at one input. -/
def cometLaterWrong : ChangeSpec := { name := "cometLater", fn := fun _ => fun
  | [d1, d2, d3, d4] => { results := [.lit (.bool false)], args := [d1, d2, d3, d4] }
  | _ => none }
def CometLaterWrongFalsely : Prop := cometLaterRow.holds Try.pinned (OpenSpec.ofChange cometLaterWrong)

/-- 'burinlaw09.CometAdded': WHATEVER THE INPUT: true; the input reads as it did. -/
def cometAddedSpec : ChangeSpec := { name := "cometAdded", fn := fun _ => fun
  | [d1, d2, d3] => { results := [.lit (.bool true)], args := [d1, d2, d3] }
  | _ => none }
def cometAddedRow : OpenClaim := { program := "ytkcgkfhfogdihaa", sum := "651e4ab9297feb5d93ea0da080b50587c5595e0b632355093b5b9fa10a6bdefb", func := "burin/burinlaw09.CometAdded", spec := "cometAdded", unfollowed := true, recurses := true, plainKeys := false, apart := false }
def CometAddedSaid : Prop := cometAddedRow.holds Try.pinned (OpenSpec.ofChange cometAddedSpec)

/-- ITS FALSE NEIGHBOUR: 'it returns false'. Refute it at one input. -/
def cometAddedWrong : ChangeSpec := { name := "cometAdded", fn := fun _ => fun
  | [d1, d2, d3] => { results := [.lit (.bool false)], args := [d1, d2, d3] }
  | _ => none }
def CometAddedWrongFalsely : Prop := cometAddedRow.holds Try.pinned (OpenSpec.ofChange cometAddedWrong)

/-- 'burinlaw09.CometTurned': WHATEVER THE INPUT: true; the input reads as it did. -/
def cometTurnedSpec : ChangeSpec := { name := "cometTurned", fn := fun _ => fun
  | [d1, d2] => { results := [.lit (.bool true)], args := [d1, d2] }
  | _ => none }
def cometTurnedRow : OpenClaim := { program := "ytkcgkfhfogdihaa", sum := "651e4ab9297feb5d93ea0da080b50587c5595e0b632355093b5b9fa10a6bdefb", func := "burin/burinlaw09.CometTurned", spec := "cometTurned", unfollowed := true, recurses := true, plainKeys := false, apart := false }
def CometTurnedSaid : Prop := cometTurnedRow.holds Try.pinned (OpenSpec.ofChange cometTurnedSpec)

/-- ITS FALSE NEIGHBOUR: 'it returns false'. Refute it at one input. -/
def cometTurnedWrong : ChangeSpec := { name := "cometTurned", fn := fun _ => fun
  | [d1, d2] => { results := [.lit (.bool false)], args := [d1, d2] }
  | _ => none }
def CometTurnedWrongFalsely : Prop := cometTurnedRow.holds Try.pinned (OpenSpec.ofChange cometTurnedWrong)

/-- 'burinlaw09.CometMore': WHATEVER THE INPUT: true; the input reads as it did. -/
def cometMoreSpec : ChangeSpec := { name := "cometMore", fn := fun _ => fun
  | [d1, d2] => { results := [.lit (.bool true)], args := [d1, d2] }
  | _ => none }
def cometMoreRow : OpenClaim := { program := "ytkcgkfhfogdihaa", sum := "651e4ab9297feb5d93ea0da080b50587c5595e0b632355093b5b9fa10a6bdefb", func := "burin/burinlaw09.CometMore", spec := "cometMore", unfollowed := true, recurses := true, plainKeys := false, apart := false }
def CometMoreSaid : Prop := cometMoreRow.holds Try.pinned (OpenSpec.ofChange cometMoreSpec)

/-- ITS FALSE NEIGHBOUR: 'it returns false'. Refute it at one input. -/
def cometMoreWrong : ChangeSpec := { name := "cometMore", fn := fun _ => fun
  | [d1, d2] => { results := [.lit (.bool false)], args := [d1, d2] }
  | _ => none }
def CometMoreWrongFalsely : Prop := cometMoreRow.holds Try.pinned (OpenSpec.ofChange cometMoreWrong)

/-- 'burinlaw09.CometLeast': WHATEVER THE INPUT: true; the input reads as it did. -/
def cometLeastSpec : ChangeSpec := { name := "cometLeast", fn := fun _ => fun
  | [d] => { results := [.lit (.bool true)], args := [d] }
  | _ => none }
def cometLeastRow : OpenClaim := { program := "ytkcgkfhfogdihaa", sum := "651e4ab9297feb5d93ea0da080b50587c5595e0b632355093b5b9fa10a6bdefb", func := "burin/burinlaw09.CometLeast", spec := "cometLeast", unfollowed := true, recurses := true, plainKeys := false, apart := false }
def CometLeastSaid : Prop := cometLeastRow.holds Try.pinned (OpenSpec.ofChange cometLeastSpec)

/-- ITS FALSE NEIGHBOUR: 'it returns false'. Refute it at one input. -/
def cometLeastWrong : ChangeSpec := { name := "cometLeast", fn := fun _ => fun
  | [d] => { results := [.lit (.bool false)], args := [d] }
  | _ => none }
def CometLeastWrongFalsely : Prop := cometLeastRow.holds Try.pinned (OpenSpec.ofChange cometLeastWrong)

/-- 'burinlaw09.CometStill': WHATEVER THE INPUT: true; the input reads as it did. -/
def cometStillSpec : ChangeSpec := { name := "cometStill", fn := fun _ => fun
  | [d1, d2, d3] => { results := [.lit (.bool true)], args := [d1, d2, d3] }
  | _ => none }
def cometStillRow : OpenClaim := { program := "ytkcgkfhfogdihaa", sum := "651e4ab9297feb5d93ea0da080b50587c5595e0b632355093b5b9fa10a6bdefb", func := "burin/burinlaw09.CometStill", spec := "cometStill", unfollowed := true, recurses := true, plainKeys := false, apart := false }
def CometStillSaid : Prop := cometStillRow.holds Try.pinned (OpenSpec.ofChange cometStillSpec)

/-- ITS FALSE NEIGHBOUR: 'it returns false'. Refute it at one input. -/
def cometStillWrong : ChangeSpec := { name := "cometStill", fn := fun _ => fun
  | [d1, d2, d3] => { results := [.lit (.bool false)], args := [d1, d2, d3] }
  | _ => none }
def CometStillWrongFalsely : Prop := cometStillRow.holds Try.pinned (OpenSpec.ofChange cometStillWrong)

/-- 'burinlaw09.CometKnown': WHATEVER THE INPUT: true; the input reads as it did. -/
def cometKnownSpec : ChangeSpec := { name := "cometKnown", fn := fun _ => fun
  | [] => { results := [.lit (.bool true)], args := [] }
  | _ => none }
def cometKnownRow : OpenClaim := { program := "ytkcgkfhfogdihaa", sum := "651e4ab9297feb5d93ea0da080b50587c5595e0b632355093b5b9fa10a6bdefb", func := "burin/burinlaw09.CometKnown", spec := "cometKnown", unfollowed := true, recurses := true, plainKeys := false, apart := false }
def CometKnownSaid : Prop := cometKnownRow.holds Try.pinned (OpenSpec.ofChange cometKnownSpec)

/-- ITS FALSE NEIGHBOUR: 'it returns false'. Refute it at one input. -/
def cometKnownWrong : ChangeSpec := { name := "cometKnown", fn := fun _ => fun
  | [] => { results := [.lit (.bool false)], args := [] }
  | _ => none }
def CometKnownWrongFalsely : Prop := cometKnownRow.holds Try.pinned (OpenSpec.ofChange cometKnownWrong)

/- THE SECOND FORM. 'bulk': how many values and letters a reading holds, each counted each time it is reached (what is shared counts as often as it is met; a slice's spare places count too). A statement '..UptoSaid' is the law's where the arguments, and the package variables that the reading takes, are together of bulk at most 1048576: NARROWER than '..Said'. Prove '..Said' where nothing that the law and all that it calls make is longer than what came in: it says more and counts as full. Else prove '..UptoSaid'. A law counts once. -/
mutual
def uptoBulk {H : Type} : DataW H → Nat
  | .lit (.string bytes) => bytes.length + 1
  | .lit _ => 1
  | .nil => 1
  | .ptr d => uptoBulk d + 1
  | .slice elems spare => uptoBulkAll elems + uptoBulkAll spare + 1
  | .agg parts => uptoBulkAll parts + 1
  | .iface _ d => uptoBulk d + 1
  | .map entries => uptoBulkEntries entries + 1
  | .held _ => 1
def uptoBulkAll {H : Type} : List (DataW H) → Nat
  | [] => 0
  | d :: r => uptoBulk d + uptoBulkAll r
def uptoBulkEntries {H : Type} : List (Lit × DataW H) → Nat
  | [] => 0
  | x :: r => uptoBulkEntry x + uptoBulkEntries r
def uptoBulkEntry {H : Type} : Lit × DataW H → Nat
  | (.string bytes, d) => bytes.length + uptoBulk d + 1
  | (_, d) => uptoBulk d + 1
 end
def uptoSmall : (H : Type) → List (DataW H) → Bool := fun _ ds => decide (uptoBulkAll ds ≤ 1048576)
def OpenSpec.upto (s : _root_.Go.ChangeSpec) : _root_.Go.OpenSpec := { _root_.Go.OpenSpec.ofChange s with cond := some uptoSmall }

/-- 'burinlaw09.CometPlaces', WHERE WHAT IT READS IS OF BULK AT MOST 1048576: true; the input reads as it did. -/
def cometPlacesUptoRow : OpenClaim := { program := "ytkcgkfhfogdihaa", sum := "651e4ab9297feb5d93ea0da080b50587c5595e0b632355093b5b9fa10a6bdefb", func := "burin/burinlaw09.CometPlaces", spec := "cometPlaces", unfollowed := true, recurses := true, plainKeys := false, apart := false, narrowed := true }
def CometPlacesUptoSaid : Prop := cometPlacesUptoRow.holds Try.pinned (OpenSpec.upto cometPlacesSpec)

/-- 'burinlaw09.CometLogs', WHERE WHAT IT READS IS OF BULK AT MOST 1048576: true; the input reads as it did. -/
def cometLogsUptoRow : OpenClaim := { program := "ytkcgkfhfogdihaa", sum := "651e4ab9297feb5d93ea0da080b50587c5595e0b632355093b5b9fa10a6bdefb", func := "burin/burinlaw09.CometLogs", spec := "cometLogs", unfollowed := true, recurses := true, plainKeys := false, apart := false, narrowed := true }
def CometLogsUptoSaid : Prop := cometLogsUptoRow.holds Try.pinned (OpenSpec.upto cometLogsSpec)

/-- 'burinlaw09.CometMosts', WHERE WHAT IT READS IS OF BULK AT MOST 1048576: true; the input reads as it did. -/
def cometMostsUptoRow : OpenClaim := { program := "ytkcgkfhfogdihaa", sum := "651e4ab9297feb5d93ea0da080b50587c5595e0b632355093b5b9fa10a6bdefb", func := "burin/burinlaw09.CometMosts", spec := "cometMosts", unfollowed := true, recurses := true, plainKeys := false, apart := false, narrowed := true }
def CometMostsUptoSaid : Prop := cometMostsUptoRow.holds Try.pinned (OpenSpec.upto cometMostsSpec)

/-- 'burinlaw09.CometOnlys', WHERE WHAT IT READS IS OF BULK AT MOST 1048576: true; the input reads as it did. -/
def cometOnlysUptoRow : OpenClaim := { program := "ytkcgkfhfogdihaa", sum := "651e4ab9297feb5d93ea0da080b50587c5595e0b632355093b5b9fa10a6bdefb", func := "burin/burinlaw09.CometOnlys", spec := "cometOnlys", unfollowed := true, recurses := true, plainKeys := false, apart := false, narrowed := true }
def CometOnlysUptoSaid : Prop := cometOnlysUptoRow.holds Try.pinned (OpenSpec.upto cometOnlysSpec)

/-- 'burinlaw09.CometShared', WHERE WHAT IT READS IS OF BULK AT MOST 1048576: true; the input reads as it did. -/
def cometSharedUptoRow : OpenClaim := { program := "ytkcgkfhfogdihaa", sum := "651e4ab9297feb5d93ea0da080b50587c5595e0b632355093b5b9fa10a6bdefb", func := "burin/burinlaw09.CometShared", spec := "cometShared", unfollowed := true, recurses := true, plainKeys := false, apart := false, narrowed := true }
def CometSharedUptoSaid : Prop := cometSharedUptoRow.holds Try.pinned (OpenSpec.upto cometSharedSpec)

/-- 'burinlaw09.CometOnly', WHERE WHAT IT READS IS OF BULK AT MOST 1048576: true; the input reads as it did. -/
def cometOnlyUptoRow : OpenClaim := { program := "ytkcgkfhfogdihaa", sum := "651e4ab9297feb5d93ea0da080b50587c5595e0b632355093b5b9fa10a6bdefb", func := "burin/burinlaw09.CometOnly", spec := "cometOnly", unfollowed := true, recurses := true, plainKeys := false, apart := false, narrowed := true }
def CometOnlyUptoSaid : Prop := cometOnlyUptoRow.holds Try.pinned (OpenSpec.upto cometOnlySpec)

/-- 'burinlaw09.CometLater', WHERE WHAT IT READS IS OF BULK AT MOST 1048576: true; the input reads as it did. -/
def cometLaterUptoRow : OpenClaim := { program := "ytkcgkfhfogdihaa", sum := "651e4ab9297feb5d93ea0da080b50587c5595e0b632355093b5b9fa10a6bdefb", func := "burin/burinlaw09.CometLater", spec := "cometLater", unfollowed := true, recurses := true, plainKeys := false, apart := false, narrowed := true }
def CometLaterUptoSaid : Prop := cometLaterUptoRow.holds Try.pinned (OpenSpec.upto cometLaterSpec)

/-- 'burinlaw09.CometAdded', WHERE WHAT IT READS IS OF BULK AT MOST 1048576: true; the input reads as it did. -/
def cometAddedUptoRow : OpenClaim := { program := "ytkcgkfhfogdihaa", sum := "651e4ab9297feb5d93ea0da080b50587c5595e0b632355093b5b9fa10a6bdefb", func := "burin/burinlaw09.CometAdded", spec := "cometAdded", unfollowed := true, recurses := true, plainKeys := false, apart := false, narrowed := true }
def CometAddedUptoSaid : Prop := cometAddedUptoRow.holds Try.pinned (OpenSpec.upto cometAddedSpec)

/-- 'burinlaw09.CometTurned', WHERE WHAT IT READS IS OF BULK AT MOST 1048576: true; the input reads as it did. -/
def cometTurnedUptoRow : OpenClaim := { program := "ytkcgkfhfogdihaa", sum := "651e4ab9297feb5d93ea0da080b50587c5595e0b632355093b5b9fa10a6bdefb", func := "burin/burinlaw09.CometTurned", spec := "cometTurned", unfollowed := true, recurses := true, plainKeys := false, apart := false, narrowed := true }
def CometTurnedUptoSaid : Prop := cometTurnedUptoRow.holds Try.pinned (OpenSpec.upto cometTurnedSpec)

/-- 'burinlaw09.CometMore', WHERE WHAT IT READS IS OF BULK AT MOST 1048576: true; the input reads as it did. -/
def cometMoreUptoRow : OpenClaim := { program := "ytkcgkfhfogdihaa", sum := "651e4ab9297feb5d93ea0da080b50587c5595e0b632355093b5b9fa10a6bdefb", func := "burin/burinlaw09.CometMore", spec := "cometMore", unfollowed := true, recurses := true, plainKeys := false, apart := false, narrowed := true }
def CometMoreUptoSaid : Prop := cometMoreUptoRow.holds Try.pinned (OpenSpec.upto cometMoreSpec)

/-- 'burinlaw09.CometLeast', WHERE WHAT IT READS IS OF BULK AT MOST 1048576: true; the input reads as it did. -/
def cometLeastUptoRow : OpenClaim := { program := "ytkcgkfhfogdihaa", sum := "651e4ab9297feb5d93ea0da080b50587c5595e0b632355093b5b9fa10a6bdefb", func := "burin/burinlaw09.CometLeast", spec := "cometLeast", unfollowed := true, recurses := true, plainKeys := false, apart := false, narrowed := true }
def CometLeastUptoSaid : Prop := cometLeastUptoRow.holds Try.pinned (OpenSpec.upto cometLeastSpec)

/-- 'burinlaw09.CometStill', WHERE WHAT IT READS IS OF BULK AT MOST 1048576: true; the input reads as it did. -/
def cometStillUptoRow : OpenClaim := { program := "ytkcgkfhfogdihaa", sum := "651e4ab9297feb5d93ea0da080b50587c5595e0b632355093b5b9fa10a6bdefb", func := "burin/burinlaw09.CometStill", spec := "cometStill", unfollowed := true, recurses := true, plainKeys := false, apart := false, narrowed := true }
def CometStillUptoSaid : Prop := cometStillUptoRow.holds Try.pinned (OpenSpec.upto cometStillSpec)

/-- 'burinlaw09.CometKnown', WHERE WHAT IT READS IS OF BULK AT MOST 1048576: true; the input reads as it did. -/
def cometKnownUptoRow : OpenClaim := { program := "ytkcgkfhfogdihaa", sum := "651e4ab9297feb5d93ea0da080b50587c5595e0b632355093b5b9fa10a6bdefb", func := "burin/burinlaw09.CometKnown", spec := "cometKnown", unfollowed := true, recurses := true, plainKeys := false, apart := false, narrowed := true }
def CometKnownUptoSaid : Prop := cometKnownUptoRow.holds Try.pinned (OpenSpec.upto cometKnownSpec)

end Rows
end Go.Proofs.Ytkcgkfhfogdihaa
