/-
  DERIVED. GIVEN WITH THE SEED: THE CARDS: each row of YtfihedcobopbcaaDoorRows.lean that lists a variable, with what it lists TIED to the program's text (the seventh form; the later family's looks); each row that meets fmt, with fmt's text TOLD by the authors' own Lean function (tested against real Go, not proved from fmt's source: count such statements apart). THE CARD IS WHAT COUNTS. Prove the row's statement (the work); the ties are given (YtfihedcobopbcaaDoorTie.lean); close each card by the builder's one call (the guide's Derived/Test/ToyasCard.lean, 'card_holds'). Laid BY PROGRAM, IN A SANDBOX (cutbox-door.mjs). By AI agents, Wed Nov 11 2026. No macro, syntax, notation, axiom, sorry.
-/
import Derived.Test.YtfihedcobopbcaaDoorRows
import GoSem.ClaimSeven
namespace Go.Proofs.YtfihedcobopbcaaDoor
namespace Rows

/-- THE TIED CARD OF 'pointsmanlaw1.MsgTells'. -/
def msgTellsCard : Claim7 := { stood := { row := msgTellsRow, standIns := [], harness := (true, "c62478cbb0bf81d3e321abe381957b1c6cebcdc4c8f13434c13f97c3c9358f68"), looks := true }, kinds := [], alts := [], laidByText := true, laidKinds := [.handle], laidTests := true, laidLooks := .later }
def MsgTellsCardSaid : Prop := Claim7.holds Tryd.pinned (.plain (OpenSpec.ofChange msgTellsSpec)) msgTellsCard

/-- THE TIED CARD OF 'pointsmanlaw2.EdnsTells'. -/
def ednsTellsCard : Claim7 := { stood := { row := ednsTellsRow, standIns := [], harness := (true, "c62478cbb0bf81d3e321abe381957b1c6cebcdc4c8f13434c13f97c3c9358f68"), looks := true }, kinds := [], alts := [], laidByText := true, laidKinds := [.handle], laidTests := true, laidLooks := .later }
def EdnsTellsCardSaid : Prop := Claim7.holds Tryd.pinned (.plain (OpenSpec.ofChange ednsTellsSpec)) ednsTellsCard

/-- THE SECOND FORM's CARD OF 'pointsmanlaw1.MsgTells'. -/
def msgTellsUptoCard : Claim7 := { stood := { row := msgTellsUptoRow, standIns := [], harness := (true, "c62478cbb0bf81d3e321abe381957b1c6cebcdc4c8f13434c13f97c3c9358f68"), looks := true }, kinds := [], alts := [], laidByText := true, laidKinds := [.handle], laidTests := true, laidLooks := .later }
def MsgTellsUptoCardSaid : Prop := Claim7.holds Tryd.pinned (.plain (OpenSpec.upto msgTellsSpec)) msgTellsUptoCard

/-- THE SECOND FORM's CARD OF 'pointsmanlaw2.EdnsTells'. -/
def ednsTellsUptoCard : Claim7 := { stood := { row := ednsTellsUptoRow, standIns := [], harness := (true, "c62478cbb0bf81d3e321abe381957b1c6cebcdc4c8f13434c13f97c3c9358f68"), looks := true }, kinds := [], alts := [], laidByText := true, laidKinds := [.handle], laidTests := true, laidLooks := .later }
def EdnsTellsUptoCardSaid : Prop := Claim7.holds Tryd.pinned (.plain (OpenSpec.upto ednsTellsSpec)) ednsTellsUptoCard
end Rows
end Go.Proofs.YtfihedcobopbcaaDoor
