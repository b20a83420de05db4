/-
  DERIVED. GIVEN WITH THE SEED: THE CARDS: each row of YtemgbfppdopfbaaDoorRows.lean that lists a variable, with what it lists TIED to the program's text (the seventh form; the later family's looks); each row that meets fmt, with fmt's text TOLD by the authors' own Lean function (tested against real Go, not proved from fmt's source: count such statements apart). THE CARD IS WHAT COUNTS. Prove the row's statement (the work); the ties are given (YtemgbfppdopfbaaDoorTie.lean); close each card by the builder's one call (the guide's Derived/Test/ToyasCard.lean, 'card_holds'). Laid BY PROGRAM, IN A SANDBOX (cutbox-door.mjs). By AI agents, Wed Nov 11 2026. No macro, syntax, notation, axiom, sorry.
-/
import Derived.Test.YtemgbfppdopfbaaDoorRows
import GoSem.ClaimSeven
namespace Go.Proofs.YtemgbfppdopfbaaDoor
namespace Rows

/-- THE TIED CARD OF 'pointsmanlaw2.CapsTells'. -/
def capsTellsCard : Claim7 := { stood := { row := capsTellsRow, standIns := [], harness := (true, "fedb56e697800a5ef9ed6258c803c93366b7746e1fd0340723167b168cfea7a6"), looks := true }, kinds := [], alts := [], laidByText := true, laidKinds := [.handle], laidTests := true, laidLooks := .later }
def CapsTellsCardSaid : Prop := Claim7.holds Tryd.pinned (.plain (OpenSpec.ofChange capsTellsSpec)) capsTellsCard

/-- THE TIED CARD OF 'pointsmanlaw2.TailTells'. -/
def tailTellsCard : Claim7 := { stood := { row := tailTellsRow, standIns := [], harness := (true, "fedb56e697800a5ef9ed6258c803c93366b7746e1fd0340723167b168cfea7a6"), looks := true }, kinds := [], alts := [], laidByText := true, laidKinds := [.handle], laidTests := true, laidLooks := .later }
def TailTellsCardSaid : Prop := Claim7.holds Tryd.pinned (.plain (OpenSpec.ofChange tailTellsSpec)) tailTellsCard

/-- THE TIED CARD OF 'pointsmanlaw2.RuleTells'. -/
def ruleTellsCard : Claim7 := { stood := { row := ruleTellsRow, standIns := [], harness := (true, "fedb56e697800a5ef9ed6258c803c93366b7746e1fd0340723167b168cfea7a6"), looks := true }, kinds := [], alts := [], laidByText := true, laidKinds := [.handle], laidTests := true, laidLooks := .later }
def RuleTellsCardSaid : Prop := Claim7.holds Tryd.pinned (.plain (OpenSpec.ofChange ruleTellsSpec)) ruleTellsCard

/-- THE SECOND FORM's CARD OF 'pointsmanlaw2.CapsTells'. -/
def capsTellsUptoCard : Claim7 := { stood := { row := capsTellsUptoRow, standIns := [], harness := (true, "fedb56e697800a5ef9ed6258c803c93366b7746e1fd0340723167b168cfea7a6"), looks := true }, kinds := [], alts := [], laidByText := true, laidKinds := [.handle], laidTests := true, laidLooks := .later }
def CapsTellsUptoCardSaid : Prop := Claim7.holds Tryd.pinned (.plain (OpenSpec.upto capsTellsSpec)) capsTellsUptoCard

/-- THE SECOND FORM's CARD OF 'pointsmanlaw2.TailTells'. -/
def tailTellsUptoCard : Claim7 := { stood := { row := tailTellsUptoRow, standIns := [], harness := (true, "fedb56e697800a5ef9ed6258c803c93366b7746e1fd0340723167b168cfea7a6"), looks := true }, kinds := [], alts := [], laidByText := true, laidKinds := [.handle], laidTests := true, laidLooks := .later }
def TailTellsUptoCardSaid : Prop := Claim7.holds Tryd.pinned (.plain (OpenSpec.upto tailTellsSpec)) tailTellsUptoCard

/-- THE SECOND FORM's CARD OF 'pointsmanlaw2.RuleTells'. -/
def ruleTellsUptoCard : Claim7 := { stood := { row := ruleTellsUptoRow, standIns := [], harness := (true, "fedb56e697800a5ef9ed6258c803c93366b7746e1fd0340723167b168cfea7a6"), looks := true }, kinds := [], alts := [], laidByText := true, laidKinds := [.handle], laidTests := true, laidLooks := .later }
def RuleTellsUptoCardSaid : Prop := Claim7.holds Tryd.pinned (.plain (OpenSpec.upto ruleTellsSpec)) ruleTellsUptoCard
end Rows
end Go.Proofs.YtemgbfppdopfbaaDoor
