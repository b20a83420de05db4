/-
  DERIVED. GIVEN WITH THE SEED: THE CARDS: each row of YtbpflpmhnmdeoaaDoorRows.lean that lists a variable, with what it lists TIED to the program's text (the seventh form; the later family's looks); each row that meets fmt, with fmt's text TOLD by the authors' own Lean function (tested against real Go, not proved from fmt's source: count such statements apart). THE CARD IS WHAT COUNTS. Prove the row's statement (the work); the ties are given (YtbpflpmhnmdeoaaDoorTie.lean); close each card by the builder's one call (the guide's Derived/Test/ToyasCard.lean, 'card_holds'). Laid BY PROGRAM, IN A SANDBOX (cutbox-door.mjs). By AI agents, Wed Nov 11 2026. No macro, syntax, notation, axiom, sorry.
-/
import Derived.Test.YtbpflpmhnmdeoaaDoorRows
import GoSem.ClaimSeven
namespace Go.Proofs.YtbpflpmhnmdeoaaDoor
namespace Rows

/-- THE TIED CARD OF 'pointsmanlaw2.BucketTells'. -/
def bucketTellsCard : Claim7 := { stood := { row := bucketTellsRow, standIns := [], harness := (true, "df0c2fda799b29952eb4d8e308b8fffc052671a95d9ea74bea9bf22128061645"), looks := true }, kinds := [], alts := [], laidByText := true, laidKinds := [.handle], laidTests := true, laidLooks := .later }
def BucketTellsCardSaid : Prop := Claim7.holds Tryd.pinned (.plain (OpenSpec.ofChange bucketTellsSpec)) bucketTellsCard

/-- THE TIED CARD OF 'pointsmanlaw2.TrieTells'. -/
def trieTellsCard : Claim7 := { stood := { row := trieTellsRow, standIns := [], harness := (true, "df0c2fda799b29952eb4d8e308b8fffc052671a95d9ea74bea9bf22128061645"), looks := true }, kinds := [], alts := [], laidByText := true, laidKinds := [.handle], laidTests := true, laidLooks := .later }
def TrieTellsCardSaid : Prop := Claim7.holds Tryd.pinned (.plain (OpenSpec.ofChange trieTellsSpec)) trieTellsCard

/-- THE TIED CARD OF 'pointsmanlaw2.SubnetTells'. -/
def subnetTellsCard : Claim7 := { stood := { row := subnetTellsRow, standIns := [], harness := (true, "df0c2fda799b29952eb4d8e308b8fffc052671a95d9ea74bea9bf22128061645"), looks := true }, kinds := [], alts := [], laidByText := true, laidKinds := [.handle], laidTests := true, laidLooks := .later }
def SubnetTellsCardSaid : Prop := Claim7.holds Tryd.pinned (.plain (OpenSpec.ofChange subnetTellsSpec)) subnetTellsCard

/-- THE SECOND FORM's CARD OF 'pointsmanlaw2.BucketTells'. -/
def bucketTellsUptoCard : Claim7 := { stood := { row := bucketTellsUptoRow, standIns := [], harness := (true, "df0c2fda799b29952eb4d8e308b8fffc052671a95d9ea74bea9bf22128061645"), looks := true }, kinds := [], alts := [], laidByText := true, laidKinds := [.handle], laidTests := true, laidLooks := .later }
def BucketTellsUptoCardSaid : Prop := Claim7.holds Tryd.pinned (.plain (OpenSpec.upto bucketTellsSpec)) bucketTellsUptoCard

/-- THE SECOND FORM's CARD OF 'pointsmanlaw2.TrieTells'. -/
def trieTellsUptoCard : Claim7 := { stood := { row := trieTellsUptoRow, standIns := [], harness := (true, "df0c2fda799b29952eb4d8e308b8fffc052671a95d9ea74bea9bf22128061645"), looks := true }, kinds := [], alts := [], laidByText := true, laidKinds := [.handle], laidTests := true, laidLooks := .later }
def TrieTellsUptoCardSaid : Prop := Claim7.holds Tryd.pinned (.plain (OpenSpec.upto trieTellsSpec)) trieTellsUptoCard

/-- THE SECOND FORM's CARD OF 'pointsmanlaw2.SubnetTells'. -/
def subnetTellsUptoCard : Claim7 := { stood := { row := subnetTellsUptoRow, standIns := [], harness := (true, "df0c2fda799b29952eb4d8e308b8fffc052671a95d9ea74bea9bf22128061645"), looks := true }, kinds := [], alts := [], laidByText := true, laidKinds := [.handle], laidTests := true, laidLooks := .later }
def SubnetTellsUptoCardSaid : Prop := Claim7.holds Tryd.pinned (.plain (OpenSpec.upto subnetTellsSpec)) subnetTellsUptoCard
end Rows
end Go.Proofs.YtbpflpmhnmdeoaaDoor
