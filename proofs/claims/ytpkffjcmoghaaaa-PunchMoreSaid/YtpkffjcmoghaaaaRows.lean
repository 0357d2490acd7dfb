/-
  No cell of these rows narrows 'for every input' (looked for: loops, veiled, ifaces, maps, wideKeys, modest, calm, conditions, laid).
  DERIVED. THE GIVEN ROWS OF THIS SEAT. 14 by the template 'for every input the law returns true; each argument reads behind the call as it read before'; 0 by the template 'total and deterministic' (their statements: YtpkffjcmoghaaaaTotals.lean).
  GIVEN WITH THE SEED: the statements are not yours to turn. If you find one false, say at which input.
  Laid BY PROGRAM, IN A SANDBOX (cutbox-rows.mjs): the forced cells as the released guide's own fill.sh prints them over the translation 2846ede36d6feed0… (all of the seat's roots in one cut). By AI agents, Wed Nov 11 2026. No macro, syntax, notation, axiom, sorry.
-/
import Derived.Test.YtpkffjcmoghaaaaChecked
import GoSem.Claim
import GoSem.ClaimJoined
import GoSem.ClaimMapViews
import Derived.JoinedTies
import Derived.KernelRfl
namespace Go.Proofs.Ytpkffjcmoghaaaa
/- THE CELL 'sum', in the pinned program and in every row, IS THE sha256 OF THE DUMP (.gsa) THAT YtpkffjcmoghaaaaProg.lean LOADS. Nothing in Lean hashes anything: it is a label: what it is worth is what the hold of that sum in a sandbox is worth. -/
noncomputable def Try.pinned : Pinned := { name := "ytpkffjcmoghaaaa", sum := "2846ede36d6feed0fa09a3043d07001f473d244bb8d69d0df30132672d8560c9", checked := Try.checked }
namespace Rows
def none {H : Type} : Left H := { results := [], args := [] }

/-- 'burinlaw05.PunchJobs': WHATEVER THE INPUT: true; the input reads as it did. -/
def punchJobsSpec : ChangeSpec := { name := "punchJobs", fn := fun _ => fun
  | [d1, d2] => { results := [.lit (.bool true)], args := [d1, d2] }
  | _ => none }
def punchJobsRow : OpenClaim := { program := "ytpkffjcmoghaaaa", sum := "2846ede36d6feed0fa09a3043d07001f473d244bb8d69d0df30132672d8560c9", func := "burin/burinlaw05.PunchJobs", spec := "punchJobs", unfollowed := true, recurses := true, plainKeys := false, apart := false }
def PunchJobsSaid : Prop := punchJobsRow.holds Try.pinned (OpenSpec.ofChange punchJobsSpec)

/-- ITS FALSE NEIGHBOUR: 'it returns false'. Refute it at one input. -/
def punchJobsWrong : ChangeSpec := { name := "punchJobs", fn := fun _ => fun
  | [d1, d2] => { results := [.lit (.bool false)], args := [d1, d2] }
  | _ => none }
def PunchJobsWrongFalsely : Prop := punchJobsRow.holds Try.pinned (OpenSpec.ofChange punchJobsWrong)

/-- 'burinlaw05.PunchPlans': WHATEVER THE INPUT: true; the input reads as it did. -/
def punchPlansSpec : ChangeSpec := { name := "punchPlans", fn := fun _ => fun
  | [d1, d2] => { results := [.lit (.bool true)], args := [d1, d2] }
  | _ => none }
def punchPlansRow : OpenClaim := { program := "ytpkffjcmoghaaaa", sum := "2846ede36d6feed0fa09a3043d07001f473d244bb8d69d0df30132672d8560c9", func := "burin/burinlaw05.PunchPlans", spec := "punchPlans", unfollowed := true, recurses := true, plainKeys := false, apart := false }
def PunchPlansSaid : Prop := punchPlansRow.holds Try.pinned (OpenSpec.ofChange punchPlansSpec)

/-- ITS FALSE NEIGHBOUR: 'it returns false'. Refute it at one input. -/
def punchPlansWrong : ChangeSpec := { name := "punchPlans", fn := fun _ => fun
  | [d1, d2] => { results := [.lit (.bool false)], args := [d1, d2] }
  | _ => none }
def PunchPlansWrongFalsely : Prop := punchPlansRow.holds Try.pinned (OpenSpec.ofChange punchPlansWrong)

/-- 'burinlaw05.PunchWindows': WHATEVER THE INPUT: true; the input reads as it did. -/
def punchWindowsSpec : ChangeSpec := { name := "punchWindows", fn := fun _ => fun
  | [d1, d2, d3] => { results := [.lit (.bool true)], args := [d1, d2, d3] }
  | _ => none }
def punchWindowsRow : OpenClaim := { program := "ytpkffjcmoghaaaa", sum := "2846ede36d6feed0fa09a3043d07001f473d244bb8d69d0df30132672d8560c9", func := "burin/burinlaw05.PunchWindows", spec := "punchWindows", unfollowed := true, recurses := true, plainKeys := false, apart := false }
def PunchWindowsSaid : Prop := punchWindowsRow.holds Try.pinned (OpenSpec.ofChange punchWindowsSpec)

/-- ITS FALSE NEIGHBOUR: 'it returns false'. Refute it at one input. -/
def punchWindowsWrong : ChangeSpec := { name := "punchWindows", fn := fun _ => fun
  | [d1, d2, d3] => { results := [.lit (.bool false)], args := [d1, d2, d3] }
  | _ => none }
def PunchWindowsWrongFalsely : Prop := punchWindowsRow.holds Try.pinned (OpenSpec.ofChange punchWindowsWrong)

/-- 'burinlaw05.PunchChosen': WHATEVER THE INPUT: true; the input reads as it did. -/
def punchChosenSpec : ChangeSpec := { name := "punchChosen", fn := fun _ => fun
  | [d1, d2, d3] => { results := [.lit (.bool true)], args := [d1, d2, d3] }
  | _ => none }
def punchChosenRow : OpenClaim := { program := "ytpkffjcmoghaaaa", sum := "2846ede36d6feed0fa09a3043d07001f473d244bb8d69d0df30132672d8560c9", func := "burin/burinlaw05.PunchChosen", spec := "punchChosen", unfollowed := true, recurses := true, plainKeys := false, apart := false }
def PunchChosenSaid : Prop := punchChosenRow.holds Try.pinned (OpenSpec.ofChange punchChosenSpec)

/-- ITS FALSE NEIGHBOUR: 'it returns false'. Refute it at one input. -/
def punchChosenWrong : ChangeSpec := { name := "punchChosen", fn := fun _ => fun
  | [d1, d2, d3] => { results := [.lit (.bool false)], args := [d1, d2, d3] }
  | _ => none }
def PunchChosenWrongFalsely : Prop := punchChosenRow.holds Try.pinned (OpenSpec.ofChange punchChosenWrong)

/-- 'burinlaw05.PunchEither': WHATEVER THE INPUT: true; the input reads as it did. -/
def punchEitherSpec : ChangeSpec := { name := "punchEither", fn := fun _ => fun
  | [d1, d2, d3, d4] => { results := [.lit (.bool true)], args := [d1, d2, d3, d4] }
  | _ => none }
def punchEitherRow : OpenClaim := { program := "ytpkffjcmoghaaaa", sum := "2846ede36d6feed0fa09a3043d07001f473d244bb8d69d0df30132672d8560c9", func := "burin/burinlaw05.PunchEither", spec := "punchEither", unfollowed := true, recurses := true, plainKeys := false, apart := false }
def PunchEitherSaid : Prop := punchEitherRow.holds Try.pinned (OpenSpec.ofChange punchEitherSpec)

/-- ITS FALSE NEIGHBOUR: 'it returns false'. Refute it at one input. -/
def punchEitherWrong : ChangeSpec := { name := "punchEither", fn := fun _ => fun
  | [d1, d2, d3, d4] => { results := [.lit (.bool false)], args := [d1, d2, d3, d4] }
  | _ => none }
def PunchEitherWrongFalsely : Prop := punchEitherRow.holds Try.pinned (OpenSpec.ofChange punchEitherWrong)

/-- 'burinlaw05.PunchHeavy': WHATEVER THE INPUT: true; the input reads as it did. -/
def punchHeavySpec : ChangeSpec := { name := "punchHeavy", fn := fun _ => fun
  | [d1, d2] => { results := [.lit (.bool true)], args := [d1, d2] }
  | _ => none }
def punchHeavyRow : OpenClaim := { program := "ytpkffjcmoghaaaa", sum := "2846ede36d6feed0fa09a3043d07001f473d244bb8d69d0df30132672d8560c9", func := "burin/burinlaw05.PunchHeavy", spec := "punchHeavy", unfollowed := true, recurses := true, plainKeys := false, apart := false }
def PunchHeavySaid : Prop := punchHeavyRow.holds Try.pinned (OpenSpec.ofChange punchHeavySpec)

/-- ITS FALSE NEIGHBOUR: 'it returns false'. Refute it at one input. -/
def punchHeavyWrong : ChangeSpec := { name := "punchHeavy", fn := fun _ => fun
  | [d1, d2] => { results := [.lit (.bool false)], args := [d1, d2] }
  | _ => none }
def PunchHeavyWrongFalsely : Prop := punchHeavyRow.holds Try.pinned (OpenSpec.ofChange punchHeavyWrong)

/-- 'burinlaw05.PunchFewest': WHATEVER THE INPUT: true; the input reads as it did. -/
def punchFewestSpec : ChangeSpec := { name := "punchFewest", fn := fun _ => fun
  | [d] => { results := [.lit (.bool true)], args := [d] }
  | _ => none }
def punchFewestRow : OpenClaim := { program := "ytpkffjcmoghaaaa", sum := "2846ede36d6feed0fa09a3043d07001f473d244bb8d69d0df30132672d8560c9", func := "burin/burinlaw05.PunchFewest", spec := "punchFewest", unfollowed := true, recurses := true, plainKeys := false, apart := false }
def PunchFewestSaid : Prop := punchFewestRow.holds Try.pinned (OpenSpec.ofChange punchFewestSpec)

/-- ITS FALSE NEIGHBOUR: 'it returns false'. Refute it at one input. -/
def punchFewestWrong : ChangeSpec := { name := "punchFewest", fn := fun _ => fun
  | [d] => { results := [.lit (.bool false)], args := [d] }
  | _ => none }
def PunchFewestWrongFalsely : Prop := punchFewestRow.holds Try.pinned (OpenSpec.ofChange punchFewestWrong)

/-- 'burinlaw05.PunchMore': WHATEVER THE INPUT: true; the input reads as it did. -/
def punchMoreSpec : ChangeSpec := { name := "punchMore", fn := fun _ => fun
  | [d1, d2, d3] => { results := [.lit (.bool true)], args := [d1, d2, d3] }
  | _ => none }
def punchMoreRow : OpenClaim := { program := "ytpkffjcmoghaaaa", sum := "2846ede36d6feed0fa09a3043d07001f473d244bb8d69d0df30132672d8560c9", func := "burin/burinlaw05.PunchMore", spec := "punchMore", unfollowed := true, recurses := true, plainKeys := false, apart := false }
def PunchMoreSaid : Prop := punchMoreRow.holds Try.pinned (OpenSpec.ofChange punchMoreSpec)

/-- ITS FALSE NEIGHBOUR: 'it returns false'. Refute it at one input. -/
def punchMoreWrong : ChangeSpec := { name := "punchMore", fn := fun _ => fun
  | [d1, d2, d3] => { results := [.lit (.bool false)], args := [d1, d2, d3] }
  | _ => none }
def PunchMoreWrongFalsely : Prop := punchMoreRow.holds Try.pinned (OpenSpec.ofChange punchMoreWrong)

/-- 'burinlaw05.PunchTurned': WHATEVER THE INPUT: true; the input reads as it did. -/
def punchTurnedSpec : ChangeSpec := { name := "punchTurned", fn := fun _ => fun
  | [d1, d2] => { results := [.lit (.bool true)], args := [d1, d2] }
  | _ => none }
def punchTurnedRow : OpenClaim := { program := "ytpkffjcmoghaaaa", sum := "2846ede36d6feed0fa09a3043d07001f473d244bb8d69d0df30132672d8560c9", func := "burin/burinlaw05.PunchTurned", spec := "punchTurned", unfollowed := true, recurses := true, plainKeys := false, apart := false }
def PunchTurnedSaid : Prop := punchTurnedRow.holds Try.pinned (OpenSpec.ofChange punchTurnedSpec)

/-- ITS FALSE NEIGHBOUR: 'it returns false'. Refute it at one input. -/
def punchTurnedWrong : ChangeSpec := { name := "punchTurned", fn := fun _ => fun
  | [d1, d2] => { results := [.lit (.bool false)], args := [d1, d2] }
  | _ => none }
def PunchTurnedWrongFalsely : Prop := punchTurnedRow.holds Try.pinned (OpenSpec.ofChange punchTurnedWrong)

/-- 'burinlaw05.PunchTimed': WHATEVER THE INPUT: true; the input reads as it did. -/
def punchTimedSpec : ChangeSpec := { name := "punchTimed", fn := fun _ => fun
  | [d1, d2, d3] => { results := [.lit (.bool true)], args := [d1, d2, d3] }
  | _ => none }
def punchTimedRow : OpenClaim := { program := "ytpkffjcmoghaaaa", sum := "2846ede36d6feed0fa09a3043d07001f473d244bb8d69d0df30132672d8560c9", func := "burin/burinlaw05.PunchTimed", spec := "punchTimed", unfollowed := true, recurses := true, plainKeys := false, apart := false }
def PunchTimedSaid : Prop := punchTimedRow.holds Try.pinned (OpenSpec.ofChange punchTimedSpec)

/-- ITS FALSE NEIGHBOUR: 'it returns false'. Refute it at one input. -/
def punchTimedWrong : ChangeSpec := { name := "punchTimed", fn := fun _ => fun
  | [d1, d2, d3] => { results := [.lit (.bool false)], args := [d1, d2, d3] }
  | _ => none }
def PunchTimedWrongFalsely : Prop := punchTimedRow.holds Try.pinned (OpenSpec.ofChange punchTimedWrong)

/-- 'burinlaw05.PunchExchanged': WHATEVER THE INPUT: true; the input reads as it did. -/
def punchExchangedSpec : ChangeSpec := { name := "punchExchanged", fn := fun _ => fun
  | [d1, d2, d3] => { results := [.lit (.bool true)], args := [d1, d2, d3] }
  | _ => none }
def punchExchangedRow : OpenClaim := { program := "ytpkffjcmoghaaaa", sum := "2846ede36d6feed0fa09a3043d07001f473d244bb8d69d0df30132672d8560c9", func := "burin/burinlaw05.PunchExchanged", spec := "punchExchanged", unfollowed := true, recurses := true, plainKeys := false, apart := false }
def PunchExchangedSaid : Prop := punchExchangedRow.holds Try.pinned (OpenSpec.ofChange punchExchangedSpec)

/-- ITS FALSE NEIGHBOUR: 'it returns false'. Refute it at one input. -/
def punchExchangedWrong : ChangeSpec := { name := "punchExchanged", fn := fun _ => fun
  | [d1, d2, d3] => { results := [.lit (.bool false)], args := [d1, d2, d3] }
  | _ => none }
def PunchExchangedWrongFalsely : Prop := punchExchangedRow.holds Try.pinned (OpenSpec.ofChange punchExchangedWrong)

/-- 'burinlaw05.PunchApart': WHATEVER THE INPUT: true; the input reads as it did. -/
def punchApartSpec : ChangeSpec := { name := "punchApart", fn := fun _ => fun
  | [d1, d2] => { results := [.lit (.bool true)], args := [d1, d2] }
  | _ => none }
def punchApartRow : OpenClaim := { program := "ytpkffjcmoghaaaa", sum := "2846ede36d6feed0fa09a3043d07001f473d244bb8d69d0df30132672d8560c9", func := "burin/burinlaw05.PunchApart", spec := "punchApart", unfollowed := true, recurses := true, plainKeys := false, apart := false }
def PunchApartSaid : Prop := punchApartRow.holds Try.pinned (OpenSpec.ofChange punchApartSpec)

/-- ITS FALSE NEIGHBOUR: 'it returns false'. Refute it at one input. -/
def punchApartWrong : ChangeSpec := { name := "punchApart", fn := fun _ => fun
  | [d1, d2] => { results := [.lit (.bool false)], args := [d1, d2] }
  | _ => none }
def PunchApartWrongFalsely : Prop := punchApartRow.holds Try.pinned (OpenSpec.ofChange punchApartWrong)

/-- 'burinlaw05.PunchKinds': WHATEVER THE INPUT: true; the input reads as it did. -/
def punchKindsSpec : ChangeSpec := { name := "punchKinds", fn := fun _ => fun
  | [d] => { results := [.lit (.bool true)], args := [d] }
  | _ => none }
def punchKindsRow : OpenClaim := { program := "ytpkffjcmoghaaaa", sum := "2846ede36d6feed0fa09a3043d07001f473d244bb8d69d0df30132672d8560c9", func := "burin/burinlaw05.PunchKinds", spec := "punchKinds", unfollowed := true, recurses := true, plainKeys := false, apart := false }
def PunchKindsSaid : Prop := punchKindsRow.holds Try.pinned (OpenSpec.ofChange punchKindsSpec)

/-- ITS FALSE NEIGHBOUR: 'it returns false'. Refute it at one input. -/
def punchKindsWrong : ChangeSpec := { name := "punchKinds", fn := fun _ => fun
  | [d] => { results := [.lit (.bool false)], args := [d] }
  | _ => none }
def PunchKindsWrongFalsely : Prop := punchKindsRow.holds Try.pinned (OpenSpec.ofChange punchKindsWrong)

/-- 'burinlaw05.PunchKnown': WHATEVER THE INPUT: true; the input reads as it did. -/
def punchKnownSpec : ChangeSpec := { name := "punchKnown", fn := fun _ => fun
  | [] => { results := [.lit (.bool true)], args := [] }
  | _ => none }
def punchKnownRow : OpenClaim := { program := "ytpkffjcmoghaaaa", sum := "2846ede36d6feed0fa09a3043d07001f473d244bb8d69d0df30132672d8560c9", func := "burin/burinlaw05.PunchKnown", spec := "punchKnown", unfollowed := true, recurses := true, plainKeys := false, apart := false }
def PunchKnownSaid : Prop := punchKnownRow.holds Try.pinned (OpenSpec.ofChange punchKnownSpec)

/-- ITS FALSE NEIGHBOUR: 'it returns false'. Refute it at one input. -/
def punchKnownWrong : ChangeSpec := { name := "punchKnown", fn := fun _ => fun
  | [] => { results := [.lit (.bool false)], args := [] }
  | _ => none }
def PunchKnownWrongFalsely : Prop := punchKnownRow.holds Try.pinned (OpenSpec.ofChange punchKnownWrong)

/- THE SECOND FORM. 'bulk': how many values and letters a reading holds, each counted each time it is reached (what is shared counts as often as it is met; a slice's spare places count too). A statement '..UptoSaid' is the law's where the arguments, and the package variables that the reading takes, are together of bulk at most 1048576: NARROWER than '..Said'. Prove '..Said' where nothing that the law and all that it calls make is longer than what came in: it says more and counts as full. Else prove '..UptoSaid'. A law counts once. -/
mutual
def uptoBulk {H : Type} : DataW H → Nat
  | .lit (.string bytes) => bytes.length + 1
  | .lit _ => 1
  | .nil => 1
  | .ptr d => uptoBulk d + 1
  | .slice elems spare => uptoBulkAll elems + uptoBulkAll spare + 1
  | .agg parts => uptoBulkAll parts + 1
  | .iface _ d => uptoBulk d + 1
  | .map entries => uptoBulkEntries entries + 1
  | .held _ => 1
def uptoBulkAll {H : Type} : List (DataW H) → Nat
  | [] => 0
  | d :: r => uptoBulk d + uptoBulkAll r
def uptoBulkEntries {H : Type} : List (Lit × DataW H) → Nat
  | [] => 0
  | x :: r => uptoBulkEntry x + uptoBulkEntries r
def uptoBulkEntry {H : Type} : Lit × DataW H → Nat
  | (.string bytes, d) => bytes.length + uptoBulk d + 1
  | (_, d) => uptoBulk d + 1
 end
def uptoSmall : (H : Type) → List (DataW H) → Bool := fun _ ds => decide (uptoBulkAll ds ≤ 1048576)
def OpenSpec.upto (s : _root_.Go.ChangeSpec) : _root_.Go.OpenSpec := { _root_.Go.OpenSpec.ofChange s with cond := some uptoSmall }

/-- 'burinlaw05.PunchJobs', WHERE WHAT IT READS IS OF BULK AT MOST 1048576: true; the input reads as it did. -/
def punchJobsUptoRow : OpenClaim := { program := "ytpkffjcmoghaaaa", sum := "2846ede36d6feed0fa09a3043d07001f473d244bb8d69d0df30132672d8560c9", func := "burin/burinlaw05.PunchJobs", spec := "punchJobs", unfollowed := true, recurses := true, plainKeys := false, apart := false, narrowed := true }
def PunchJobsUptoSaid : Prop := punchJobsUptoRow.holds Try.pinned (OpenSpec.upto punchJobsSpec)

/-- 'burinlaw05.PunchPlans', WHERE WHAT IT READS IS OF BULK AT MOST 1048576: true; the input reads as it did. -/
def punchPlansUptoRow : OpenClaim := { program := "ytpkffjcmoghaaaa", sum := "2846ede36d6feed0fa09a3043d07001f473d244bb8d69d0df30132672d8560c9", func := "burin/burinlaw05.PunchPlans", spec := "punchPlans", unfollowed := true, recurses := true, plainKeys := false, apart := false, narrowed := true }
def PunchPlansUptoSaid : Prop := punchPlansUptoRow.holds Try.pinned (OpenSpec.upto punchPlansSpec)

/-- 'burinlaw05.PunchWindows', WHERE WHAT IT READS IS OF BULK AT MOST 1048576: true; the input reads as it did. -/
def punchWindowsUptoRow : OpenClaim := { program := "ytpkffjcmoghaaaa", sum := "2846ede36d6feed0fa09a3043d07001f473d244bb8d69d0df30132672d8560c9", func := "burin/burinlaw05.PunchWindows", spec := "punchWindows", unfollowed := true, recurses := true, plainKeys := false, apart := false, narrowed := true }
def PunchWindowsUptoSaid : Prop := punchWindowsUptoRow.holds Try.pinned (OpenSpec.upto punchWindowsSpec)

/-- 'burinlaw05.PunchChosen', WHERE WHAT IT READS IS OF BULK AT MOST 1048576: true; the input reads as it did. -/
def punchChosenUptoRow : OpenClaim := { program := "ytpkffjcmoghaaaa", sum := "2846ede36d6feed0fa09a3043d07001f473d244bb8d69d0df30132672d8560c9", func := "burin/burinlaw05.PunchChosen", spec := "punchChosen", unfollowed := true, recurses := true, plainKeys := false, apart := false, narrowed := true }
def PunchChosenUptoSaid : Prop := punchChosenUptoRow.holds Try.pinned (OpenSpec.upto punchChosenSpec)

/-- 'burinlaw05.PunchEither', WHERE WHAT IT READS IS OF BULK AT MOST 1048576: true; the input reads as it did. -/
def punchEitherUptoRow : OpenClaim := { program := "ytpkffjcmoghaaaa", sum := "2846ede36d6feed0fa09a3043d07001f473d244bb8d69d0df30132672d8560c9", func := "burin/burinlaw05.PunchEither", spec := "punchEither", unfollowed := true, recurses := true, plainKeys := false, apart := false, narrowed := true }
def PunchEitherUptoSaid : Prop := punchEitherUptoRow.holds Try.pinned (OpenSpec.upto punchEitherSpec)

/-- 'burinlaw05.PunchHeavy', WHERE WHAT IT READS IS OF BULK AT MOST 1048576: true; the input reads as it did. -/
def punchHeavyUptoRow : OpenClaim := { program := "ytpkffjcmoghaaaa", sum := "2846ede36d6feed0fa09a3043d07001f473d244bb8d69d0df30132672d8560c9", func := "burin/burinlaw05.PunchHeavy", spec := "punchHeavy", unfollowed := true, recurses := true, plainKeys := false, apart := false, narrowed := true }
def PunchHeavyUptoSaid : Prop := punchHeavyUptoRow.holds Try.pinned (OpenSpec.upto punchHeavySpec)

/-- 'burinlaw05.PunchFewest', WHERE WHAT IT READS IS OF BULK AT MOST 1048576: true; the input reads as it did. -/
def punchFewestUptoRow : OpenClaim := { program := "ytpkffjcmoghaaaa", sum := "2846ede36d6feed0fa09a3043d07001f473d244bb8d69d0df30132672d8560c9", func := "burin/burinlaw05.PunchFewest", spec := "punchFewest", unfollowed := true, recurses := true, plainKeys := false, apart := false, narrowed := true }
def PunchFewestUptoSaid : Prop := punchFewestUptoRow.holds Try.pinned (OpenSpec.upto punchFewestSpec)

/-- 'burinlaw05.PunchMore', WHERE WHAT IT READS IS OF BULK AT MOST 1048576: true; the input reads as it did. -/
def punchMoreUptoRow : OpenClaim := { program := "ytpkffjcmoghaaaa", sum := "2846ede36d6feed0fa09a3043d07001f473d244bb8d69d0df30132672d8560c9", func := "burin/burinlaw05.PunchMore", spec := "punchMore", unfollowed := true, recurses := true, plainKeys := false, apart := false, narrowed := true }
def PunchMoreUptoSaid : Prop := punchMoreUptoRow.holds Try.pinned (OpenSpec.upto punchMoreSpec)

/-- 'burinlaw05.PunchTurned', WHERE WHAT IT READS IS OF BULK AT MOST 1048576: true; the input reads as it did. -/
def punchTurnedUptoRow : OpenClaim := { program := "ytpkffjcmoghaaaa", sum := "2846ede36d6feed0fa09a3043d07001f473d244bb8d69d0df30132672d8560c9", func := "burin/burinlaw05.PunchTurned", spec := "punchTurned", unfollowed := true, recurses := true, plainKeys := false, apart := false, narrowed := true }
def PunchTurnedUptoSaid : Prop := punchTurnedUptoRow.holds Try.pinned (OpenSpec.upto punchTurnedSpec)

/-- 'burinlaw05.PunchTimed', WHERE WHAT IT READS IS OF BULK AT MOST 1048576: true; the input reads as it did. -/
def punchTimedUptoRow : OpenClaim := { program := "ytpkffjcmoghaaaa", sum := "2846ede36d6feed0fa09a3043d07001f473d244bb8d69d0df30132672d8560c9", func := "burin/burinlaw05.PunchTimed", spec := "punchTimed", unfollowed := true, recurses := true, plainKeys := false, apart := false, narrowed := true }
def PunchTimedUptoSaid : Prop := punchTimedUptoRow.holds Try.pinned (OpenSpec.upto punchTimedSpec)

/-- 'burinlaw05.PunchExchanged', WHERE WHAT IT READS IS OF BULK AT MOST 1048576: true; the input reads as it did. -/
def punchExchangedUptoRow : OpenClaim := { program := "ytpkffjcmoghaaaa", sum := "2846ede36d6feed0fa09a3043d07001f473d244bb8d69d0df30132672d8560c9", func := "burin/burinlaw05.PunchExchanged", spec := "punchExchanged", unfollowed := true, recurses := true, plainKeys := false, apart := false, narrowed := true }
def PunchExchangedUptoSaid : Prop := punchExchangedUptoRow.holds Try.pinned (OpenSpec.upto punchExchangedSpec)

/-- 'burinlaw05.PunchApart', WHERE WHAT IT READS IS OF BULK AT MOST 1048576: true; the input reads as it did. -/
def punchApartUptoRow : OpenClaim := { program := "ytpkffjcmoghaaaa", sum := "2846ede36d6feed0fa09a3043d07001f473d244bb8d69d0df30132672d8560c9", func := "burin/burinlaw05.PunchApart", spec := "punchApart", unfollowed := true, recurses := true, plainKeys := false, apart := false, narrowed := true }
def PunchApartUptoSaid : Prop := punchApartUptoRow.holds Try.pinned (OpenSpec.upto punchApartSpec)

/-- 'burinlaw05.PunchKinds', WHERE WHAT IT READS IS OF BULK AT MOST 1048576: true; the input reads as it did. -/
def punchKindsUptoRow : OpenClaim := { program := "ytpkffjcmoghaaaa", sum := "2846ede36d6feed0fa09a3043d07001f473d244bb8d69d0df30132672d8560c9", func := "burin/burinlaw05.PunchKinds", spec := "punchKinds", unfollowed := true, recurses := true, plainKeys := false, apart := false, narrowed := true }
def PunchKindsUptoSaid : Prop := punchKindsUptoRow.holds Try.pinned (OpenSpec.upto punchKindsSpec)

/-- 'burinlaw05.PunchKnown', WHERE WHAT IT READS IS OF BULK AT MOST 1048576: true; the input reads as it did. -/
def punchKnownUptoRow : OpenClaim := { program := "ytpkffjcmoghaaaa", sum := "2846ede36d6feed0fa09a3043d07001f473d244bb8d69d0df30132672d8560c9", func := "burin/burinlaw05.PunchKnown", spec := "punchKnown", unfollowed := true, recurses := true, plainKeys := false, apart := false, narrowed := true }
def PunchKnownUptoSaid : Prop := punchKnownUptoRow.holds Try.pinned (OpenSpec.upto punchKnownSpec)

end Rows
end Go.Proofs.Ytpkffjcmoghaaaa
