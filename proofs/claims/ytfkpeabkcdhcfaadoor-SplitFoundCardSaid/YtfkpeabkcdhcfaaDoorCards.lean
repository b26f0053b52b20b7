/-
  DERIVED. GIVEN WITH THE SEED: THE CARDS: each row of YtfkpeabkcdhcfaaDoorRows.lean that lists a variable, with what it lists TIED to the program's text (the seventh form; the later family's looks); each row that meets fmt, with fmt's text TOLD by the authors' own Lean function (tested against real Go, not proved from fmt's source: count such statements apart). THE CARD IS WHAT COUNTS. Prove the row's statement (the work); the ties are given (YtfkpeabkcdhcfaaDoorTie.lean); close each card by the builder's one call (the guide's Derived/Test/ToyasCard.lean, 'card_holds'). Laid BY PROGRAM, IN A SANDBOX (cutbox-door.mjs). By AI agents, Wed Nov 11 2026. No macro, syntax, notation, axiom, sorry.
-/
import Derived.Test.YtfkpeabkcdhcfaaDoorRows
import GoSem.ClaimSeven
namespace Go.Proofs.YtfkpeabkcdhcfaaDoor
namespace Rows

/-- THE TIED CARD OF 'dioramalaw06.PermAll'. -/
def permAllCard : Claim7 := { stood := { row := permAllRow, standIns := [], harness := (true, "e7f9dcfdbfaeb332bad117fd45009a4efb0fe7b06de55f27ae67e0756afadf98"), looks := false }, kinds := [], alts := [], laidByText := true, laidKinds := [.data, .data], laidTests := true, laidLooks := .later }
def PermAllCardSaid : Prop := Claim7.holds Tryd.pinned (.plain (OpenSpec.ofChange permAllSpec)) permAllCard

/-- THE TIED CARD OF 'dioramalaw06.PermDraws'. -/
def permDrawsCard : Claim7 := { stood := { row := permDrawsRow, standIns := [], harness := (true, "e7f9dcfdbfaeb332bad117fd45009a4efb0fe7b06de55f27ae67e0756afadf98"), looks := false }, kinds := [], alts := [], laidByText := true, laidKinds := [.data], laidTests := true, laidLooks := .later }
def PermDrawsCardSaid : Prop := Claim7.holds Tryd.pinned (.plain (OpenSpec.ofChange permDrawsSpec)) permDrawsCard

/-- THE TIED CARD OF 'dioramalaw06.PermSizes'. -/
def permSizesCard : Claim7 := { stood := { row := permSizesRow, standIns := [], harness := (true, "e7f9dcfdbfaeb332bad117fd45009a4efb0fe7b06de55f27ae67e0756afadf98"), looks := false }, kinds := [], alts := [], laidByText := true, laidKinds := [.data], laidTests := true, laidLooks := .later }
def PermSizesCardSaid : Prop := Claim7.holds Tryd.pinned (.plain (OpenSpec.ofChange permSizesSpec)) permSizesCard

/-- THE TIED CARD OF 'dioramalaw06.PermPlaces'. -/
def permPlacesCard : Claim7 := { stood := { row := permPlacesRow, standIns := [], harness := (true, "e7f9dcfdbfaeb332bad117fd45009a4efb0fe7b06de55f27ae67e0756afadf98"), looks := false }, kinds := [], alts := [], laidByText := true, laidKinds := [.data, .data], laidTests := true, laidLooks := .later }
def PermPlacesCardSaid : Prop := Claim7.holds Tryd.pinned (.plain (OpenSpec.ofChange permPlacesSpec)) permPlacesCard

/-- THE TIED CARD OF 'dioramalaw16.RelateSplit'. -/
def relateSplitCard : Claim7 := { stood := { row := relateSplitRow, standIns := [], harness := (true, "e7f9dcfdbfaeb332bad117fd45009a4efb0fe7b06de55f27ae67e0756afadf98"), looks := false }, kinds := [], alts := [], laidByText := true, laidKinds := [.data], laidTests := true, laidLooks := .later }
def RelateSplitCardSaid : Prop := Claim7.holds Tryd.pinned (.plain (OpenSpec.ofChange relateSplitSpec)) relateSplitCard

/-- THE TIED CARD OF 'dioramalaw06.PermOnce'. -/
def permOnceCard : Claim7 := { stood := { row := permOnceRow, standIns := [], harness := (true, "e7f9dcfdbfaeb332bad117fd45009a4efb0fe7b06de55f27ae67e0756afadf98"), looks := false }, kinds := [], alts := [], laidByText := true, laidKinds := [.data], laidTests := true, laidLooks := .later }
def PermOnceCardSaid : Prop := Claim7.holds Tryd.pinned (.plain (OpenSpec.ofChange permOnceSpec)) permOnceCard

/-- THE TIED CARD OF 'dioramalaw16.RelateAlone'. -/
def relateAloneCard : Claim7 := { stood := { row := relateAloneRow, standIns := [], harness := (true, "e7f9dcfdbfaeb332bad117fd45009a4efb0fe7b06de55f27ae67e0756afadf98"), looks := false }, kinds := [], alts := [], laidByText := true, laidKinds := [.data], laidTests := true, laidLooks := .later }
def RelateAloneCardSaid : Prop := Claim7.holds Tryd.pinned (.plain (OpenSpec.ofChange relateAloneSpec)) relateAloneCard

/-- THE TIED CARD OF 'dioramalaw06.PermAlone'. -/
def permAloneCard : Claim7 := { stood := { row := permAloneRow, standIns := [], harness := (true, "e7f9dcfdbfaeb332bad117fd45009a4efb0fe7b06de55f27ae67e0756afadf98"), looks := false }, kinds := [], alts := [], laidByText := true, laidKinds := [.data], laidTests := true, laidLooks := .later }
def PermAloneCardSaid : Prop := Claim7.holds Tryd.pinned (.plain (OpenSpec.ofChange permAloneSpec)) permAloneCard

/-- THE TIED CARD OF 'dioramalaw07.SplitParts'. -/
def splitPartsCard : Claim7 := { stood := { row := splitPartsRow, standIns := [], harness := (true, "e7f9dcfdbfaeb332bad117fd45009a4efb0fe7b06de55f27ae67e0756afadf98"), looks := false }, kinds := [], alts := [], laidByText := true, laidKinds := [.data, .data], laidTests := true, laidLooks := .later }
def SplitPartsCardSaid : Prop := Claim7.holds Tryd.pinned (.plain (OpenSpec.ofChange splitPartsSpec)) splitPartsCard

/-- THE TIED CARD OF 'dioramalaw07.SplitSums'. -/
def splitSumsCard : Claim7 := { stood := { row := splitSumsRow, standIns := [], harness := (true, "e7f9dcfdbfaeb332bad117fd45009a4efb0fe7b06de55f27ae67e0756afadf98"), looks := false }, kinds := [], alts := [], laidByText := true, laidKinds := [.data], laidTests := true, laidLooks := .later }
def SplitSumsCardSaid : Prop := Claim7.holds Tryd.pinned (.plain (OpenSpec.ofChange splitSumsSpec)) splitSumsCard

/-- THE TIED CARD OF 'dioramalaw07.SplitFound'. -/
def splitFoundCard : Claim7 := { stood := { row := splitFoundRow, standIns := [], harness := (true, "e7f9dcfdbfaeb332bad117fd45009a4efb0fe7b06de55f27ae67e0756afadf98"), looks := false }, kinds := [], alts := [], laidByText := true, laidKinds := [.data], laidTests := true, laidLooks := .later }
def SplitFoundCardSaid : Prop := Claim7.holds Tryd.pinned (.plain (OpenSpec.ofChange splitFoundSpec)) splitFoundCard

/-- THE TIED CARD OF 'dioramalaw07.SplitHalves'. -/
def splitHalvesCard : Claim7 := { stood := { row := splitHalvesRow, standIns := [], harness := (true, "e7f9dcfdbfaeb332bad117fd45009a4efb0fe7b06de55f27ae67e0756afadf98"), looks := false }, kinds := [], alts := [], laidByText := true, laidKinds := [.data], laidTests := true, laidLooks := .later }
def SplitHalvesCardSaid : Prop := Claim7.holds Tryd.pinned (.plain (OpenSpec.ofChange splitHalvesSpec)) splitHalvesCard

/-- THE TIED CARD OF 'dioramalaw07.SplitMoved'. -/
def splitMovedCard : Claim7 := { stood := { row := splitMovedRow, standIns := [], harness := (true, "e7f9dcfdbfaeb332bad117fd45009a4efb0fe7b06de55f27ae67e0756afadf98"), looks := false }, kinds := [], alts := [], laidByText := true, laidKinds := [.data], laidTests := true, laidLooks := .later }
def SplitMovedCardSaid : Prop := Claim7.holds Tryd.pinned (.plain (OpenSpec.ofChange splitMovedSpec)) splitMovedCard

/-- THE TIED CARD OF 'dioramalaw07.SplitEnds'. -/
def splitEndsCard : Claim7 := { stood := { row := splitEndsRow, standIns := [], harness := (true, "e7f9dcfdbfaeb332bad117fd45009a4efb0fe7b06de55f27ae67e0756afadf98"), looks := false }, kinds := [], alts := [], laidByText := true, laidKinds := [.data], laidTests := true, laidLooks := .later }
def SplitEndsCardSaid : Prop := Claim7.holds Tryd.pinned (.plain (OpenSpec.ofChange splitEndsSpec)) splitEndsCard

/-- THE TIED CARD OF 'dioramalaw16.RelateTargets'. -/
def relateTargetsCard : Claim7 := { stood := { row := relateTargetsRow, standIns := [], harness := (true, "e7f9dcfdbfaeb332bad117fd45009a4efb0fe7b06de55f27ae67e0756afadf98"), looks := false }, kinds := [], alts := [], laidByText := true, laidKinds := [.data, .data], laidTests := true, laidLooks := .later }
def RelateTargetsCardSaid : Prop := Claim7.holds Tryd.pinned (.plain (OpenSpec.ofChange relateTargetsSpec)) relateTargetsCard

/-- THE TIED CARD OF 'dioramalaw16.RelateRefs'. -/
def relateRefsCard : Claim7 := { stood := { row := relateRefsRow, standIns := [], harness := (true, "e7f9dcfdbfaeb332bad117fd45009a4efb0fe7b06de55f27ae67e0756afadf98"), looks := false }, kinds := [], alts := [], laidByText := true, laidKinds := [.data, .data], laidTests := true, laidLooks := .later }
def RelateRefsCardSaid : Prop := Claim7.holds Tryd.pinned (.plain (OpenSpec.ofChange relateRefsSpec)) relateRefsCard

/-- THE TIED CARD OF 'dioramalaw16.RelateOnce'. -/
def relateOnceCard : Claim7 := { stood := { row := relateOnceRow, standIns := [], harness := (true, "e7f9dcfdbfaeb332bad117fd45009a4efb0fe7b06de55f27ae67e0756afadf98"), looks := false }, kinds := [], alts := [], laidByText := true, laidKinds := [.data], laidTests := true, laidLooks := .later }
def RelateOnceCardSaid : Prop := Claim7.holds Tryd.pinned (.plain (OpenSpec.ofChange relateOnceSpec)) relateOnceCard

/-- THE TIED CARD OF 'dioramalaw16.RelatePages'. -/
def relatePagesCard : Claim7 := { stood := { row := relatePagesRow, standIns := [], harness := (true, "e7f9dcfdbfaeb332bad117fd45009a4efb0fe7b06de55f27ae67e0756afadf98"), looks := false }, kinds := [], alts := [], laidByText := true, laidKinds := [.data], laidTests := true, laidLooks := .later }
def RelatePagesCardSaid : Prop := Claim7.holds Tryd.pinned (.plain (OpenSpec.ofChange relatePagesSpec)) relatePagesCard

/-- THE SECOND FORM's CARD OF 'dioramalaw06.PermAll'. -/
def permAllUptoCard : Claim7 := { stood := { row := permAllUptoRow, standIns := [], harness := (true, "e7f9dcfdbfaeb332bad117fd45009a4efb0fe7b06de55f27ae67e0756afadf98"), looks := false }, kinds := [], alts := [], laidByText := true, laidKinds := [.data, .data], laidTests := true, laidLooks := .later }
def PermAllUptoCardSaid : Prop := Claim7.holds Tryd.pinned (.plain (OpenSpec.upto permAllSpec)) permAllUptoCard

/-- THE SECOND FORM's CARD OF 'dioramalaw06.PermDraws'. -/
def permDrawsUptoCard : Claim7 := { stood := { row := permDrawsUptoRow, standIns := [], harness := (true, "e7f9dcfdbfaeb332bad117fd45009a4efb0fe7b06de55f27ae67e0756afadf98"), looks := false }, kinds := [], alts := [], laidByText := true, laidKinds := [.data], laidTests := true, laidLooks := .later }
def PermDrawsUptoCardSaid : Prop := Claim7.holds Tryd.pinned (.plain (OpenSpec.upto permDrawsSpec)) permDrawsUptoCard

/-- THE SECOND FORM's CARD OF 'dioramalaw06.PermSizes'. -/
def permSizesUptoCard : Claim7 := { stood := { row := permSizesUptoRow, standIns := [], harness := (true, "e7f9dcfdbfaeb332bad117fd45009a4efb0fe7b06de55f27ae67e0756afadf98"), looks := false }, kinds := [], alts := [], laidByText := true, laidKinds := [.data], laidTests := true, laidLooks := .later }
def PermSizesUptoCardSaid : Prop := Claim7.holds Tryd.pinned (.plain (OpenSpec.upto permSizesSpec)) permSizesUptoCard

/-- THE SECOND FORM's CARD OF 'dioramalaw06.PermPlaces'. -/
def permPlacesUptoCard : Claim7 := { stood := { row := permPlacesUptoRow, standIns := [], harness := (true, "e7f9dcfdbfaeb332bad117fd45009a4efb0fe7b06de55f27ae67e0756afadf98"), looks := false }, kinds := [], alts := [], laidByText := true, laidKinds := [.data, .data], laidTests := true, laidLooks := .later }
def PermPlacesUptoCardSaid : Prop := Claim7.holds Tryd.pinned (.plain (OpenSpec.upto permPlacesSpec)) permPlacesUptoCard

/-- THE SECOND FORM's CARD OF 'dioramalaw16.RelateSplit'. -/
def relateSplitUptoCard : Claim7 := { stood := { row := relateSplitUptoRow, standIns := [], harness := (true, "e7f9dcfdbfaeb332bad117fd45009a4efb0fe7b06de55f27ae67e0756afadf98"), looks := false }, kinds := [], alts := [], laidByText := true, laidKinds := [.data], laidTests := true, laidLooks := .later }
def RelateSplitUptoCardSaid : Prop := Claim7.holds Tryd.pinned (.plain (OpenSpec.upto relateSplitSpec)) relateSplitUptoCard

/-- THE SECOND FORM's CARD OF 'dioramalaw06.PermOnce'. -/
def permOnceUptoCard : Claim7 := { stood := { row := permOnceUptoRow, standIns := [], harness := (true, "e7f9dcfdbfaeb332bad117fd45009a4efb0fe7b06de55f27ae67e0756afadf98"), looks := false }, kinds := [], alts := [], laidByText := true, laidKinds := [.data], laidTests := true, laidLooks := .later }
def PermOnceUptoCardSaid : Prop := Claim7.holds Tryd.pinned (.plain (OpenSpec.upto permOnceSpec)) permOnceUptoCard

/-- THE SECOND FORM's CARD OF 'dioramalaw16.RelateAlone'. -/
def relateAloneUptoCard : Claim7 := { stood := { row := relateAloneUptoRow, standIns := [], harness := (true, "e7f9dcfdbfaeb332bad117fd45009a4efb0fe7b06de55f27ae67e0756afadf98"), looks := false }, kinds := [], alts := [], laidByText := true, laidKinds := [.data], laidTests := true, laidLooks := .later }
def RelateAloneUptoCardSaid : Prop := Claim7.holds Tryd.pinned (.plain (OpenSpec.upto relateAloneSpec)) relateAloneUptoCard

/-- THE SECOND FORM's CARD OF 'dioramalaw06.PermAlone'. -/
def permAloneUptoCard : Claim7 := { stood := { row := permAloneUptoRow, standIns := [], harness := (true, "e7f9dcfdbfaeb332bad117fd45009a4efb0fe7b06de55f27ae67e0756afadf98"), looks := false }, kinds := [], alts := [], laidByText := true, laidKinds := [.data], laidTests := true, laidLooks := .later }
def PermAloneUptoCardSaid : Prop := Claim7.holds Tryd.pinned (.plain (OpenSpec.upto permAloneSpec)) permAloneUptoCard

/-- THE SECOND FORM's CARD OF 'dioramalaw07.SplitParts'. -/
def splitPartsUptoCard : Claim7 := { stood := { row := splitPartsUptoRow, standIns := [], harness := (true, "e7f9dcfdbfaeb332bad117fd45009a4efb0fe7b06de55f27ae67e0756afadf98"), looks := false }, kinds := [], alts := [], laidByText := true, laidKinds := [.data, .data], laidTests := true, laidLooks := .later }
def SplitPartsUptoCardSaid : Prop := Claim7.holds Tryd.pinned (.plain (OpenSpec.upto splitPartsSpec)) splitPartsUptoCard

/-- THE SECOND FORM's CARD OF 'dioramalaw07.SplitSums'. -/
def splitSumsUptoCard : Claim7 := { stood := { row := splitSumsUptoRow, standIns := [], harness := (true, "e7f9dcfdbfaeb332bad117fd45009a4efb0fe7b06de55f27ae67e0756afadf98"), looks := false }, kinds := [], alts := [], laidByText := true, laidKinds := [.data], laidTests := true, laidLooks := .later }
def SplitSumsUptoCardSaid : Prop := Claim7.holds Tryd.pinned (.plain (OpenSpec.upto splitSumsSpec)) splitSumsUptoCard

/-- THE SECOND FORM's CARD OF 'dioramalaw07.SplitFound'. -/
def splitFoundUptoCard : Claim7 := { stood := { row := splitFoundUptoRow, standIns := [], harness := (true, "e7f9dcfdbfaeb332bad117fd45009a4efb0fe7b06de55f27ae67e0756afadf98"), looks := false }, kinds := [], alts := [], laidByText := true, laidKinds := [.data], laidTests := true, laidLooks := .later }
def SplitFoundUptoCardSaid : Prop := Claim7.holds Tryd.pinned (.plain (OpenSpec.upto splitFoundSpec)) splitFoundUptoCard

/-- THE SECOND FORM's CARD OF 'dioramalaw07.SplitHalves'. -/
def splitHalvesUptoCard : Claim7 := { stood := { row := splitHalvesUptoRow, standIns := [], harness := (true, "e7f9dcfdbfaeb332bad117fd45009a4efb0fe7b06de55f27ae67e0756afadf98"), looks := false }, kinds := [], alts := [], laidByText := true, laidKinds := [.data], laidTests := true, laidLooks := .later }
def SplitHalvesUptoCardSaid : Prop := Claim7.holds Tryd.pinned (.plain (OpenSpec.upto splitHalvesSpec)) splitHalvesUptoCard

/-- THE SECOND FORM's CARD OF 'dioramalaw07.SplitMoved'. -/
def splitMovedUptoCard : Claim7 := { stood := { row := splitMovedUptoRow, standIns := [], harness := (true, "e7f9dcfdbfaeb332bad117fd45009a4efb0fe7b06de55f27ae67e0756afadf98"), looks := false }, kinds := [], alts := [], laidByText := true, laidKinds := [.data], laidTests := true, laidLooks := .later }
def SplitMovedUptoCardSaid : Prop := Claim7.holds Tryd.pinned (.plain (OpenSpec.upto splitMovedSpec)) splitMovedUptoCard

/-- THE SECOND FORM's CARD OF 'dioramalaw07.SplitEnds'. -/
def splitEndsUptoCard : Claim7 := { stood := { row := splitEndsUptoRow, standIns := [], harness := (true, "e7f9dcfdbfaeb332bad117fd45009a4efb0fe7b06de55f27ae67e0756afadf98"), looks := false }, kinds := [], alts := [], laidByText := true, laidKinds := [.data], laidTests := true, laidLooks := .later }
def SplitEndsUptoCardSaid : Prop := Claim7.holds Tryd.pinned (.plain (OpenSpec.upto splitEndsSpec)) splitEndsUptoCard

/-- THE SECOND FORM's CARD OF 'dioramalaw16.RelateTargets'. -/
def relateTargetsUptoCard : Claim7 := { stood := { row := relateTargetsUptoRow, standIns := [], harness := (true, "e7f9dcfdbfaeb332bad117fd45009a4efb0fe7b06de55f27ae67e0756afadf98"), looks := false }, kinds := [], alts := [], laidByText := true, laidKinds := [.data, .data], laidTests := true, laidLooks := .later }
def RelateTargetsUptoCardSaid : Prop := Claim7.holds Tryd.pinned (.plain (OpenSpec.upto relateTargetsSpec)) relateTargetsUptoCard

/-- THE SECOND FORM's CARD OF 'dioramalaw16.RelateRefs'. -/
def relateRefsUptoCard : Claim7 := { stood := { row := relateRefsUptoRow, standIns := [], harness := (true, "e7f9dcfdbfaeb332bad117fd45009a4efb0fe7b06de55f27ae67e0756afadf98"), looks := false }, kinds := [], alts := [], laidByText := true, laidKinds := [.data, .data], laidTests := true, laidLooks := .later }
def RelateRefsUptoCardSaid : Prop := Claim7.holds Tryd.pinned (.plain (OpenSpec.upto relateRefsSpec)) relateRefsUptoCard

/-- THE SECOND FORM's CARD OF 'dioramalaw16.RelateOnce'. -/
def relateOnceUptoCard : Claim7 := { stood := { row := relateOnceUptoRow, standIns := [], harness := (true, "e7f9dcfdbfaeb332bad117fd45009a4efb0fe7b06de55f27ae67e0756afadf98"), looks := false }, kinds := [], alts := [], laidByText := true, laidKinds := [.data], laidTests := true, laidLooks := .later }
def RelateOnceUptoCardSaid : Prop := Claim7.holds Tryd.pinned (.plain (OpenSpec.upto relateOnceSpec)) relateOnceUptoCard

/-- THE SECOND FORM's CARD OF 'dioramalaw16.RelatePages'. -/
def relatePagesUptoCard : Claim7 := { stood := { row := relatePagesUptoRow, standIns := [], harness := (true, "e7f9dcfdbfaeb332bad117fd45009a4efb0fe7b06de55f27ae67e0756afadf98"), looks := false }, kinds := [], alts := [], laidByText := true, laidKinds := [.data], laidTests := true, laidLooks := .later }
def RelatePagesUptoCardSaid : Prop := Claim7.holds Tryd.pinned (.plain (OpenSpec.upto relatePagesSpec)) relatePagesUptoCard
end Rows
end Go.Proofs.YtfkpeabkcdhcfaaDoor
