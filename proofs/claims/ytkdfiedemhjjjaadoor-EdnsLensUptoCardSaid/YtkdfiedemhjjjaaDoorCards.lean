/-
  DERIVED. GIVEN WITH THE SEED: THE CARDS: each row of YtkdfiedemhjjjaaDoorRows.lean that lists a variable, with what it lists TIED to the program's text (the seventh form; the later family's looks); each row that meets fmt, with fmt's text TOLD by the authors' own Lean function (tested against real Go, not proved from fmt's source: count such statements apart). THE CARD IS WHAT COUNTS. Prove the row's statement (the work); the ties are given (YtkdfiedemhjjjaaDoorTie.lean); close each card by the builder's one call (the guide's Derived/Test/ToyasCard.lean, 'card_holds'). Laid BY PROGRAM, IN A SANDBOX (cutbox-door.mjs). By AI agents, Wed Nov 11 2026. No macro, syntax, notation, axiom, sorry.
-/
import Derived.Test.YtkdfiedemhjjjaaDoorRows
import GoSem.ClaimSeven
namespace Go.Proofs.YtkdfiedemhjjjaaDoor
namespace Rows

/-- THE TIED CARD OF 'pointsmanlaw1.RrTells'. -/
def rrTellsCard : Claim7 := { stood := { row := rrTellsRow, standIns := [], harness := (true, "ebe46bf9edac85eb39932514a9cb34c1f077ee7804636280ef7653778366f297"), looks := true }, kinds := [], alts := [], laidByText := true, laidKinds := [.handle], laidTests := true, laidLooks := .later }
def RrTellsCardSaid : Prop := Claim7.holds Tryd.pinned (.plain (OpenSpec.ofChange rrTellsSpec)) rrTellsCard

/-- THE TIED CARD OF 'pointsmanlaw1.MsgTells'. -/
def msgTellsCard : Claim7 := { stood := { row := msgTellsRow, standIns := [], harness := (true, "ebe46bf9edac85eb39932514a9cb34c1f077ee7804636280ef7653778366f297"), looks := true }, kinds := [], alts := [], laidByText := true, laidKinds := [.handle], laidTests := true, laidLooks := .later }
def MsgTellsCardSaid : Prop := Claim7.holds Tryd.pinned (.plain (OpenSpec.ofChange msgTellsSpec)) msgTellsCard

/-- THE TIED CARD OF 'pointsmanlaw1.MsgBack'. -/
def msgBackCard : Claim7 := { stood := { row := msgBackRow, standIns := [], harness := (true, "ebe46bf9edac85eb39932514a9cb34c1f077ee7804636280ef7653778366f297"), looks := true }, kinds := [], alts := [], laidByText := true, laidKinds := [.handle], laidTests := true, laidLooks := .later }
def MsgBackCardSaid : Prop := Claim7.holds Tryd.pinned (.plain (OpenSpec.ofChange msgBackSpec)) msgBackCard

/-- THE TIED CARD OF 'pointsmanlaw1.MsgTorn'. -/
def msgTornCard : Claim7 := { stood := { row := msgTornRow, standIns := [], harness := (true, "ebe46bf9edac85eb39932514a9cb34c1f077ee7804636280ef7653778366f297"), looks := true }, kinds := [], alts := [], laidByText := true, laidKinds := [.handle], laidTests := true, laidLooks := .later }
def MsgTornCardSaid : Prop := Claim7.holds Tryd.pinned (.plain (OpenSpec.ofChange msgTornSpec)) msgTornCard

/-- THE TIED CARD OF 'pointsmanlaw2.EdnsTells'. -/
def ednsTellsCard : Claim7 := { stood := { row := ednsTellsRow, standIns := [], harness := (true, "ebe46bf9edac85eb39932514a9cb34c1f077ee7804636280ef7653778366f297"), looks := true }, kinds := [], alts := [], laidByText := true, laidKinds := [.handle], laidTests := true, laidLooks := .later }
def EdnsTellsCardSaid : Prop := Claim7.holds Tryd.pinned (.plain (OpenSpec.ofChange ednsTellsSpec)) ednsTellsCard

/-- THE TIED CARD OF 'pointsmanlaw2.EdnsLens'. -/
def ednsLensCard : Claim7 := { stood := { row := ednsLensRow, standIns := [], harness := (true, "ebe46bf9edac85eb39932514a9cb34c1f077ee7804636280ef7653778366f297"), looks := true }, kinds := [], alts := [], laidByText := true, laidKinds := [.handle], laidTests := true, laidLooks := .later }
def EdnsLensCardSaid : Prop := Claim7.holds Tryd.pinned (.plain (OpenSpec.ofChange ednsLensSpec)) ednsLensCard

/-- THE SECOND FORM's CARD OF 'pointsmanlaw1.RrTells'. -/
def rrTellsUptoCard : Claim7 := { stood := { row := rrTellsUptoRow, standIns := [], harness := (true, "ebe46bf9edac85eb39932514a9cb34c1f077ee7804636280ef7653778366f297"), looks := true }, kinds := [], alts := [], laidByText := true, laidKinds := [.handle], laidTests := true, laidLooks := .later }
def RrTellsUptoCardSaid : Prop := Claim7.holds Tryd.pinned (.plain (OpenSpec.upto rrTellsSpec)) rrTellsUptoCard

/-- THE SECOND FORM's CARD OF 'pointsmanlaw1.MsgTells'. -/
def msgTellsUptoCard : Claim7 := { stood := { row := msgTellsUptoRow, standIns := [], harness := (true, "ebe46bf9edac85eb39932514a9cb34c1f077ee7804636280ef7653778366f297"), looks := true }, kinds := [], alts := [], laidByText := true, laidKinds := [.handle], laidTests := true, laidLooks := .later }
def MsgTellsUptoCardSaid : Prop := Claim7.holds Tryd.pinned (.plain (OpenSpec.upto msgTellsSpec)) msgTellsUptoCard

/-- THE SECOND FORM's CARD OF 'pointsmanlaw1.MsgBack'. -/
def msgBackUptoCard : Claim7 := { stood := { row := msgBackUptoRow, standIns := [], harness := (true, "ebe46bf9edac85eb39932514a9cb34c1f077ee7804636280ef7653778366f297"), looks := true }, kinds := [], alts := [], laidByText := true, laidKinds := [.handle], laidTests := true, laidLooks := .later }
def MsgBackUptoCardSaid : Prop := Claim7.holds Tryd.pinned (.plain (OpenSpec.upto msgBackSpec)) msgBackUptoCard

/-- THE SECOND FORM's CARD OF 'pointsmanlaw1.MsgTorn'. -/
def msgTornUptoCard : Claim7 := { stood := { row := msgTornUptoRow, standIns := [], harness := (true, "ebe46bf9edac85eb39932514a9cb34c1f077ee7804636280ef7653778366f297"), looks := true }, kinds := [], alts := [], laidByText := true, laidKinds := [.handle], laidTests := true, laidLooks := .later }
def MsgTornUptoCardSaid : Prop := Claim7.holds Tryd.pinned (.plain (OpenSpec.upto msgTornSpec)) msgTornUptoCard

/-- THE SECOND FORM's CARD OF 'pointsmanlaw2.EdnsTells'. -/
def ednsTellsUptoCard : Claim7 := { stood := { row := ednsTellsUptoRow, standIns := [], harness := (true, "ebe46bf9edac85eb39932514a9cb34c1f077ee7804636280ef7653778366f297"), looks := true }, kinds := [], alts := [], laidByText := true, laidKinds := [.handle], laidTests := true, laidLooks := .later }
def EdnsTellsUptoCardSaid : Prop := Claim7.holds Tryd.pinned (.plain (OpenSpec.upto ednsTellsSpec)) ednsTellsUptoCard

/-- THE SECOND FORM's CARD OF 'pointsmanlaw2.EdnsLens'. -/
def ednsLensUptoCard : Claim7 := { stood := { row := ednsLensUptoRow, standIns := [], harness := (true, "ebe46bf9edac85eb39932514a9cb34c1f077ee7804636280ef7653778366f297"), looks := true }, kinds := [], alts := [], laidByText := true, laidKinds := [.handle], laidTests := true, laidLooks := .later }
def EdnsLensUptoCardSaid : Prop := Claim7.holds Tryd.pinned (.plain (OpenSpec.upto ednsLensSpec)) ednsLensUptoCard
end Rows
end Go.Proofs.YtkdfiedemhjjjaaDoor
