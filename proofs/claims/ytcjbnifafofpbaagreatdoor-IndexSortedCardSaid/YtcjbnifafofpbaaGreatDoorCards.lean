/-
  DERIVED. GIVEN WITH THE SEED: THE CARDS: each row of YtcjbnifafofpbaaGreatDoorRows.lean that lists a variable, with what it lists TIED to the program's text (the seventh form; the later family's looks); each row that meets fmt, with fmt's text TOLD by the authors' own Lean function (tested against real Go, not proved from fmt's source: count such statements apart). THE CARD IS WHAT COUNTS. Prove the row's statement (the work); the ties are given (YtcjbnifafofpbaaGreatDoorTie.lean); close each card by the builder's one call (the guide's Derived/Test/ToyasCard.lean, 'card_holds'). Laid BY PROGRAM, IN A SANDBOX (cutbox-door.mjs). By AI agents, Wed Nov 11 2026. No macro, syntax, notation, axiom, sorry.
-/
import Derived.Test.YtcjbnifafofpbaaGreatDoorRows
import GoSem.ClaimSeven
namespace Go.Proofs.YtcjbnifafofpbaaGreatDoor
namespace Rows

/-- THE TIED CARD OF 'burinlaw11.IndexLists'. -/
def indexListsCard : Claim7 := { stood := { row := indexListsRow, standIns := [], harness := (true, "4e89206c6f3369e9db9bb8a34b4fa4bc0dc7fa546836822c2175d4845d1b4137"), looks := false }, kinds := [], alts := [], laidByText := true, laidKinds := [.data, .pinned], laidTests := true, laidLooks := .later }
def IndexListsCardSaid : Prop := Claim7.holds Tryz.pinned (.plain (OpenSpec.ofChange indexListsSpec)) indexListsCard

/-- THE TIED CARD OF 'burinlaw11.IndexReads'. -/
def indexReadsCard : Claim7 := { stood := { row := indexReadsRow, standIns := [], harness := (true, "4e89206c6f3369e9db9bb8a34b4fa4bc0dc7fa546836822c2175d4845d1b4137"), looks := false }, kinds := [], alts := [], laidByText := true, laidKinds := [.data, .pinned], laidTests := true, laidLooks := .later }
def IndexReadsCardSaid : Prop := Claim7.holds Tryz.pinned (.plain (OpenSpec.ofChange indexReadsSpec)) indexReadsCard

/-- THE TIED CARD OF 'burinlaw11.IndexTells'. -/
def indexTellsCard : Claim7 := { stood := { row := indexTellsRow, standIns := [], harness := (true, "4e89206c6f3369e9db9bb8a34b4fa4bc0dc7fa546836822c2175d4845d1b4137"), looks := false }, kinds := [], alts := [], laidByText := true, laidKinds := [.data, .pinned], laidTests := true, laidLooks := .later }
def IndexTellsCardSaid : Prop := Claim7.holds Tryz.pinned (.plain (OpenSpec.ofChange indexTellsSpec)) indexTellsCard

/-- THE TIED CARD OF 'burinlaw11.IndexNears'. -/
def indexNearsCard : Claim7 := { stood := { row := indexNearsRow, standIns := [], harness := (true, "4e89206c6f3369e9db9bb8a34b4fa4bc0dc7fa546836822c2175d4845d1b4137"), looks := false }, kinds := [], alts := [], laidByText := true, laidKinds := [.data, .pinned], laidTests := true, laidLooks := .later }
def IndexNearsCardSaid : Prop := Claim7.holds Tryz.pinned (.plain (OpenSpec.ofChange indexNearsSpec)) indexNearsCard

/-- THE TIED CARD OF 'burinlaw11.IndexLeast'. -/
def indexLeastCard : Claim7 := { stood := { row := indexLeastRow, standIns := [], harness := (true, "4e89206c6f3369e9db9bb8a34b4fa4bc0dc7fa546836822c2175d4845d1b4137"), looks := false }, kinds := [], alts := [], laidByText := true, laidKinds := [.data, .pinned], laidTests := true, laidLooks := .later }
def IndexLeastCardSaid : Prop := Claim7.holds Tryz.pinned (.plain (OpenSpec.ofChange indexLeastSpec)) indexLeastCard

/-- THE TIED CARD OF 'burinlaw11.IndexNumbered'. -/
def indexNumberedCard : Claim7 := { stood := { row := indexNumberedRow, standIns := [], harness := (true, "4e89206c6f3369e9db9bb8a34b4fa4bc0dc7fa546836822c2175d4845d1b4137"), looks := false }, kinds := [], alts := [], laidByText := true, laidKinds := [.data, .pinned], laidTests := true, laidLooks := .later }
def IndexNumberedCardSaid : Prop := Claim7.holds Tryz.pinned (.plain (OpenSpec.ofChange indexNumberedSpec)) indexNumberedCard

/-- THE TIED CARD OF 'burinlaw11.IndexTold'. -/
def indexToldCard : Claim7 := { stood := { row := indexToldRow, standIns := [], harness := (true, "4e89206c6f3369e9db9bb8a34b4fa4bc0dc7fa546836822c2175d4845d1b4137"), looks := false }, kinds := [], alts := [], laidByText := true, laidKinds := [.data, .pinned], laidTests := true, laidLooks := .later }
def IndexToldCardSaid : Prop := Claim7.holds Tryz.pinned (.plain (OpenSpec.ofChange indexToldSpec)) indexToldCard

/-- THE TIED CARD OF 'burinlaw11.IndexNear'. -/
def indexNearCard : Claim7 := { stood := { row := indexNearRow, standIns := [], harness := (true, "4e89206c6f3369e9db9bb8a34b4fa4bc0dc7fa546836822c2175d4845d1b4137"), looks := false }, kinds := [], alts := [], laidByText := true, laidKinds := [.data, .pinned], laidTests := true, laidLooks := .later }
def IndexNearCardSaid : Prop := Claim7.holds Tryz.pinned (.plain (OpenSpec.ofChange indexNearSpec)) indexNearCard

/-- THE TIED CARD OF 'burinlaw11.IndexJoined'. -/
def indexJoinedCard : Claim7 := { stood := { row := indexJoinedRow, standIns := [], harness := (true, "4e89206c6f3369e9db9bb8a34b4fa4bc0dc7fa546836822c2175d4845d1b4137"), looks := false }, kinds := [], alts := [], laidByText := true, laidKinds := [.data, .pinned], laidTests := true, laidLooks := .later }
def IndexJoinedCardSaid : Prop := Claim7.holds Tryz.pinned (.plain (OpenSpec.ofChange indexJoinedSpec)) indexJoinedCard

/-- THE TIED CARD OF 'burinlaw11.IndexLonger'. -/
def indexLongerCard : Claim7 := { stood := { row := indexLongerRow, standIns := [], harness := (true, "4e89206c6f3369e9db9bb8a34b4fa4bc0dc7fa546836822c2175d4845d1b4137"), looks := false }, kinds := [], alts := [], laidByText := true, laidKinds := [.data, .pinned], laidTests := true, laidLooks := .later }
def IndexLongerCardSaid : Prop := Claim7.holds Tryz.pinned (.plain (OpenSpec.ofChange indexLongerSpec)) indexLongerCard

/-- THE TIED CARD OF 'burinlaw11.IndexSorted'. -/
def indexSortedCard : Claim7 := { stood := { row := indexSortedRow, standIns := [], harness := (true, "4e89206c6f3369e9db9bb8a34b4fa4bc0dc7fa546836822c2175d4845d1b4137"), looks := false }, kinds := [], alts := [], laidByText := true, laidKinds := [.data, .pinned], laidTests := true, laidLooks := .later }
def IndexSortedCardSaid : Prop := Claim7.holds Tryz.pinned (.plain (OpenSpec.ofChange indexSortedSpec)) indexSortedCard

/-- THE TIED CARD OF 'burinlaw11.IndexMore'. -/
def indexMoreCard : Claim7 := { stood := { row := indexMoreRow, standIns := [], harness := (true, "4e89206c6f3369e9db9bb8a34b4fa4bc0dc7fa546836822c2175d4845d1b4137"), looks := false }, kinds := [], alts := [], laidByText := true, laidKinds := [.data, .pinned], laidTests := true, laidLooks := .later }
def IndexMoreCardSaid : Prop := Claim7.holds Tryz.pinned (.plain (OpenSpec.ofChange indexMoreSpec)) indexMoreCard

/-- THE TIED CARD OF 'burinlaw11.IndexKnown'. -/
def indexKnownCard : Claim7 := { stood := { row := indexKnownRow, standIns := [], harness := (true, "4e89206c6f3369e9db9bb8a34b4fa4bc0dc7fa546836822c2175d4845d1b4137"), looks := false }, kinds := [], alts := [], laidByText := true, laidKinds := [.data, .pinned], laidTests := true, laidLooks := .later }
def IndexKnownCardSaid : Prop := Claim7.holds Tryz.pinned (.plain (OpenSpec.ofChange indexKnownSpec)) indexKnownCard

/-- THE SECOND FORM's CARD OF 'burinlaw11.IndexLists'. -/
def indexListsUptoCard : Claim7 := { stood := { row := indexListsUptoRow, standIns := [], harness := (true, "4e89206c6f3369e9db9bb8a34b4fa4bc0dc7fa546836822c2175d4845d1b4137"), looks := false }, kinds := [], alts := [], laidByText := true, laidKinds := [.data, .pinned], laidTests := true, laidLooks := .later }
def IndexListsUptoCardSaid : Prop := Claim7.holds Tryz.pinned (.plain (OpenSpec.upto indexListsSpec)) indexListsUptoCard

/-- THE SECOND FORM's CARD OF 'burinlaw11.IndexReads'. -/
def indexReadsUptoCard : Claim7 := { stood := { row := indexReadsUptoRow, standIns := [], harness := (true, "4e89206c6f3369e9db9bb8a34b4fa4bc0dc7fa546836822c2175d4845d1b4137"), looks := false }, kinds := [], alts := [], laidByText := true, laidKinds := [.data, .pinned], laidTests := true, laidLooks := .later }
def IndexReadsUptoCardSaid : Prop := Claim7.holds Tryz.pinned (.plain (OpenSpec.upto indexReadsSpec)) indexReadsUptoCard

/-- THE SECOND FORM's CARD OF 'burinlaw11.IndexTells'. -/
def indexTellsUptoCard : Claim7 := { stood := { row := indexTellsUptoRow, standIns := [], harness := (true, "4e89206c6f3369e9db9bb8a34b4fa4bc0dc7fa546836822c2175d4845d1b4137"), looks := false }, kinds := [], alts := [], laidByText := true, laidKinds := [.data, .pinned], laidTests := true, laidLooks := .later }
def IndexTellsUptoCardSaid : Prop := Claim7.holds Tryz.pinned (.plain (OpenSpec.upto indexTellsSpec)) indexTellsUptoCard

/-- THE SECOND FORM's CARD OF 'burinlaw11.IndexNears'. -/
def indexNearsUptoCard : Claim7 := { stood := { row := indexNearsUptoRow, standIns := [], harness := (true, "4e89206c6f3369e9db9bb8a34b4fa4bc0dc7fa546836822c2175d4845d1b4137"), looks := false }, kinds := [], alts := [], laidByText := true, laidKinds := [.data, .pinned], laidTests := true, laidLooks := .later }
def IndexNearsUptoCardSaid : Prop := Claim7.holds Tryz.pinned (.plain (OpenSpec.upto indexNearsSpec)) indexNearsUptoCard

/-- THE SECOND FORM's CARD OF 'burinlaw11.IndexLeast'. -/
def indexLeastUptoCard : Claim7 := { stood := { row := indexLeastUptoRow, standIns := [], harness := (true, "4e89206c6f3369e9db9bb8a34b4fa4bc0dc7fa546836822c2175d4845d1b4137"), looks := false }, kinds := [], alts := [], laidByText := true, laidKinds := [.data, .pinned], laidTests := true, laidLooks := .later }
def IndexLeastUptoCardSaid : Prop := Claim7.holds Tryz.pinned (.plain (OpenSpec.upto indexLeastSpec)) indexLeastUptoCard

/-- THE SECOND FORM's CARD OF 'burinlaw11.IndexNumbered'. -/
def indexNumberedUptoCard : Claim7 := { stood := { row := indexNumberedUptoRow, standIns := [], harness := (true, "4e89206c6f3369e9db9bb8a34b4fa4bc0dc7fa546836822c2175d4845d1b4137"), looks := false }, kinds := [], alts := [], laidByText := true, laidKinds := [.data, .pinned], laidTests := true, laidLooks := .later }
def IndexNumberedUptoCardSaid : Prop := Claim7.holds Tryz.pinned (.plain (OpenSpec.upto indexNumberedSpec)) indexNumberedUptoCard

/-- THE SECOND FORM's CARD OF 'burinlaw11.IndexTold'. -/
def indexToldUptoCard : Claim7 := { stood := { row := indexToldUptoRow, standIns := [], harness := (true, "4e89206c6f3369e9db9bb8a34b4fa4bc0dc7fa546836822c2175d4845d1b4137"), looks := false }, kinds := [], alts := [], laidByText := true, laidKinds := [.data, .pinned], laidTests := true, laidLooks := .later }
def IndexToldUptoCardSaid : Prop := Claim7.holds Tryz.pinned (.plain (OpenSpec.upto indexToldSpec)) indexToldUptoCard

/-- THE SECOND FORM's CARD OF 'burinlaw11.IndexNear'. -/
def indexNearUptoCard : Claim7 := { stood := { row := indexNearUptoRow, standIns := [], harness := (true, "4e89206c6f3369e9db9bb8a34b4fa4bc0dc7fa546836822c2175d4845d1b4137"), looks := false }, kinds := [], alts := [], laidByText := true, laidKinds := [.data, .pinned], laidTests := true, laidLooks := .later }
def IndexNearUptoCardSaid : Prop := Claim7.holds Tryz.pinned (.plain (OpenSpec.upto indexNearSpec)) indexNearUptoCard

/-- THE SECOND FORM's CARD OF 'burinlaw11.IndexJoined'. -/
def indexJoinedUptoCard : Claim7 := { stood := { row := indexJoinedUptoRow, standIns := [], harness := (true, "4e89206c6f3369e9db9bb8a34b4fa4bc0dc7fa546836822c2175d4845d1b4137"), looks := false }, kinds := [], alts := [], laidByText := true, laidKinds := [.data, .pinned], laidTests := true, laidLooks := .later }
def IndexJoinedUptoCardSaid : Prop := Claim7.holds Tryz.pinned (.plain (OpenSpec.upto indexJoinedSpec)) indexJoinedUptoCard

/-- THE SECOND FORM's CARD OF 'burinlaw11.IndexLonger'. -/
def indexLongerUptoCard : Claim7 := { stood := { row := indexLongerUptoRow, standIns := [], harness := (true, "4e89206c6f3369e9db9bb8a34b4fa4bc0dc7fa546836822c2175d4845d1b4137"), looks := false }, kinds := [], alts := [], laidByText := true, laidKinds := [.data, .pinned], laidTests := true, laidLooks := .later }
def IndexLongerUptoCardSaid : Prop := Claim7.holds Tryz.pinned (.plain (OpenSpec.upto indexLongerSpec)) indexLongerUptoCard

/-- THE SECOND FORM's CARD OF 'burinlaw11.IndexSorted'. -/
def indexSortedUptoCard : Claim7 := { stood := { row := indexSortedUptoRow, standIns := [], harness := (true, "4e89206c6f3369e9db9bb8a34b4fa4bc0dc7fa546836822c2175d4845d1b4137"), looks := false }, kinds := [], alts := [], laidByText := true, laidKinds := [.data, .pinned], laidTests := true, laidLooks := .later }
def IndexSortedUptoCardSaid : Prop := Claim7.holds Tryz.pinned (.plain (OpenSpec.upto indexSortedSpec)) indexSortedUptoCard

/-- THE SECOND FORM's CARD OF 'burinlaw11.IndexMore'. -/
def indexMoreUptoCard : Claim7 := { stood := { row := indexMoreUptoRow, standIns := [], harness := (true, "4e89206c6f3369e9db9bb8a34b4fa4bc0dc7fa546836822c2175d4845d1b4137"), looks := false }, kinds := [], alts := [], laidByText := true, laidKinds := [.data, .pinned], laidTests := true, laidLooks := .later }
def IndexMoreUptoCardSaid : Prop := Claim7.holds Tryz.pinned (.plain (OpenSpec.upto indexMoreSpec)) indexMoreUptoCard

/-- THE SECOND FORM's CARD OF 'burinlaw11.IndexKnown'. -/
def indexKnownUptoCard : Claim7 := { stood := { row := indexKnownUptoRow, standIns := [], harness := (true, "4e89206c6f3369e9db9bb8a34b4fa4bc0dc7fa546836822c2175d4845d1b4137"), looks := false }, kinds := [], alts := [], laidByText := true, laidKinds := [.data, .pinned], laidTests := true, laidLooks := .later }
def IndexKnownUptoCardSaid : Prop := Claim7.holds Tryz.pinned (.plain (OpenSpec.upto indexKnownSpec)) indexKnownUptoCard
end Rows
end Go.Proofs.YtcjbnifafofpbaaGreatDoor
