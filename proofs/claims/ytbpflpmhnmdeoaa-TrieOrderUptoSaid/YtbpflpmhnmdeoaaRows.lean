/-
  No cell of these rows narrows 'for every input' (looked for: loops, veiled, ifaces, maps, wideKeys, modest, calm, conditions, laid).
  DERIVED. THE GIVEN ROWS OF THIS SEAT. 8 by the template 'for every input the law returns true; each argument reads behind the call as it read before'; 0 by the template 'total and deterministic' (their statements: YtbpflpmhnmdeoaaTotals.lean).
  GIVEN WITH THE SEED: the statements are not yours to turn. If you find one false, say at which input.
  Laid BY PROGRAM, IN A SANDBOX (cutbox-rows.mjs): the forced cells as the released guide's own fill.sh prints them over the translation 33708b05d514a695… (all of the seat's roots in one cut). By AI agents, Wed Nov 11 2026. No macro, syntax, notation, axiom, sorry.
-/
import Derived.Test.YtbpflpmhnmdeoaaChecked
import GoSem.Claim
import GoSem.ClaimJoined
import GoSem.ClaimMapViews
import Derived.JoinedTies
import Derived.KernelRfl
namespace Go.Proofs.Ytbpflpmhnmdeoaa
/- THE CELL 'sum', in the pinned program and in every row, IS THE sha256 OF THE DUMP (.gsa) THAT YtbpflpmhnmdeoaaProg.lean LOADS. Nothing in Lean hashes anything: it is a label: what it is worth is what the hold of that sum in a sandbox is worth. -/
noncomputable def Try.pinned : Pinned := { name := "ytbpflpmhnmdeoaa", sum := "33708b05d514a6957da32ea087bc680fe654d92b4961f852b23c5adc66f9f6f7", checked := Try.checked }
namespace Rows
def none {H : Type} : Left H := { results := [], args := [] }

/-- 'pointsmanlaw2.BucketWaits': WHATEVER THE INPUT: true; the input reads as it did. -/
def bucketWaitsSpec : ChangeSpec := { name := "bucketWaits", fn := fun _ => fun
  | [d1, d2, d3, d4] => { results := [.lit (.bool true)], args := [d1, d2, d3, d4] }
  | _ => none }
def bucketWaitsRow : OpenClaim := { program := "ytbpflpmhnmdeoaa", sum := "33708b05d514a6957da32ea087bc680fe654d92b4961f852b23c5adc66f9f6f7", func := "pointsman/pointsmanlaw2.BucketWaits", spec := "bucketWaits", apart := false }
def BucketWaitsSaid : Prop := bucketWaitsRow.holds Try.pinned (OpenSpec.ofChange bucketWaitsSpec)

/-- ITS FALSE NEIGHBOUR: 'it returns false'. Refute it at one input. -/
def bucketWaitsWrong : ChangeSpec := { name := "bucketWaits", fn := fun _ => fun
  | [d1, d2, d3, d4] => { results := [.lit (.bool false)], args := [d1, d2, d3, d4] }
  | _ => none }
def BucketWaitsWrongFalsely : Prop := bucketWaitsRow.holds Try.pinned (OpenSpec.ofChange bucketWaitsWrong)

/-- 'pointsmanlaw2.BucketBound': WHATEVER THE INPUT: true; the input reads as it did. -/
def bucketBoundSpec : ChangeSpec := { name := "bucketBound", fn := fun _ => fun
  | [d1, d2, d3] => { results := [.lit (.bool true)], args := [d1, d2, d3] }
  | _ => none }
def bucketBoundRow : OpenClaim := { program := "ytbpflpmhnmdeoaa", sum := "33708b05d514a6957da32ea087bc680fe654d92b4961f852b23c5adc66f9f6f7", func := "pointsman/pointsmanlaw2.BucketBound", spec := "bucketBound", apart := false }
def BucketBoundSaid : Prop := bucketBoundRow.holds Try.pinned (OpenSpec.ofChange bucketBoundSpec)

/-- ITS FALSE NEIGHBOUR: 'it returns false'. Refute it at one input. -/
def bucketBoundWrong : ChangeSpec := { name := "bucketBound", fn := fun _ => fun
  | [d1, d2, d3] => { results := [.lit (.bool false)], args := [d1, d2, d3] }
  | _ => none }
def BucketBoundWrongFalsely : Prop := bucketBoundRow.holds Try.pinned (OpenSpec.ofChange bucketBoundWrong)

/-- 'pointsmanlaw2.BucketSplits': WHATEVER THE INPUT: true; the input reads as it did. -/
def bucketSplitsSpec : ChangeSpec := { name := "bucketSplits", fn := fun _ => fun
  | [d1, d2, d3, d4] => { results := [.lit (.bool true)], args := [d1, d2, d3, d4] }
  | _ => none }
def bucketSplitsRow : OpenClaim := { program := "ytbpflpmhnmdeoaa", sum := "33708b05d514a6957da32ea087bc680fe654d92b4961f852b23c5adc66f9f6f7", func := "pointsman/pointsmanlaw2.BucketSplits", spec := "bucketSplits", apart := false }
def BucketSplitsSaid : Prop := bucketSplitsRow.holds Try.pinned (OpenSpec.ofChange bucketSplitsSpec)

/-- ITS FALSE NEIGHBOUR: 'it returns false'. Refute it at one input. -/
def bucketSplitsWrong : ChangeSpec := { name := "bucketSplits", fn := fun _ => fun
  | [d1, d2, d3, d4] => { results := [.lit (.bool false)], args := [d1, d2, d3, d4] }
  | _ => none }
def BucketSplitsWrongFalsely : Prop := bucketSplitsRow.holds Try.pinned (OpenSpec.ofChange bucketSplitsWrong)

/-- 'pointsmanlaw2.TriePuts': WHATEVER THE INPUT: true; the input reads as it did. -/
def triePutsSpec : ChangeSpec := { name := "triePuts", fn := fun _ => fun
  | [d1, d2, d3, d4, d5] => { results := [.lit (.bool true)], args := [d1, d2, d3, d4, d5] }
  | _ => none }
def triePutsRow : OpenClaim := { program := "ytbpflpmhnmdeoaa", sum := "33708b05d514a6957da32ea087bc680fe654d92b4961f852b23c5adc66f9f6f7", func := "pointsman/pointsmanlaw2.TriePuts", spec := "triePuts", apart := false }
def TriePutsSaid : Prop := triePutsRow.holds Try.pinned (OpenSpec.ofChange triePutsSpec)

/-- ITS FALSE NEIGHBOUR: 'it returns false'. Refute it at one input. -/
def triePutsWrong : ChangeSpec := { name := "triePuts", fn := fun _ => fun
  | [d1, d2, d3, d4, d5] => { results := [.lit (.bool false)], args := [d1, d2, d3, d4, d5] }
  | _ => none }
def TriePutsWrongFalsely : Prop := triePutsRow.holds Try.pinned (OpenSpec.ofChange triePutsWrong)

/-- 'pointsmanlaw2.TrieOrder': WHATEVER THE INPUT: true; the input reads as it did. -/
def trieOrderSpec : ChangeSpec := { name := "trieOrder", fn := fun _ => fun
  | [d1, d2, d3, d4] => { results := [.lit (.bool true)], args := [d1, d2, d3, d4] }
  | _ => none }
def trieOrderRow : OpenClaim := { program := "ytbpflpmhnmdeoaa", sum := "33708b05d514a6957da32ea087bc680fe654d92b4961f852b23c5adc66f9f6f7", func := "pointsman/pointsmanlaw2.TrieOrder", spec := "trieOrder", apart := false }
def TrieOrderSaid : Prop := trieOrderRow.holds Try.pinned (OpenSpec.ofChange trieOrderSpec)

/-- ITS FALSE NEIGHBOUR: 'it returns false'. Refute it at one input. -/
def trieOrderWrong : ChangeSpec := { name := "trieOrder", fn := fun _ => fun
  | [d1, d2, d3, d4] => { results := [.lit (.bool false)], args := [d1, d2, d3, d4] }
  | _ => none }
def TrieOrderWrongFalsely : Prop := trieOrderRow.holds Try.pinned (OpenSpec.ofChange trieOrderWrong)

/-- 'pointsmanlaw2.SubnetNests': WHATEVER THE INPUT: true; the input reads as it did. -/
def subnetNestsSpec : ChangeSpec := { name := "subnetNests", fn := fun _ => fun
  | [d1, d2, d3, d4] => { results := [.lit (.bool true)], args := [d1, d2, d3, d4] }
  | _ => none }
def subnetNestsRow : OpenClaim := { program := "ytbpflpmhnmdeoaa", sum := "33708b05d514a6957da32ea087bc680fe654d92b4961f852b23c5adc66f9f6f7", func := "pointsman/pointsmanlaw2.SubnetNests", spec := "subnetNests", apart := false }
def SubnetNestsSaid : Prop := subnetNestsRow.holds Try.pinned (OpenSpec.ofChange subnetNestsSpec)

/-- ITS FALSE NEIGHBOUR: 'it returns false'. Refute it at one input. -/
def subnetNestsWrong : ChangeSpec := { name := "subnetNests", fn := fun _ => fun
  | [d1, d2, d3, d4] => { results := [.lit (.bool false)], args := [d1, d2, d3, d4] }
  | _ => none }
def SubnetNestsWrongFalsely : Prop := subnetNestsRow.holds Try.pinned (OpenSpec.ofChange subnetNestsWrong)

/-- 'pointsmanlaw2.SubnetMasks': WHATEVER THE INPUT: true; the input reads as it did. -/
def subnetMasksSpec : ChangeSpec := { name := "subnetMasks", fn := fun _ => fun
  | [d1, d2, d3, d4, d5] => { results := [.lit (.bool true)], args := [d1, d2, d3, d4, d5] }
  | _ => none }
def subnetMasksRow : OpenClaim := { program := "ytbpflpmhnmdeoaa", sum := "33708b05d514a6957da32ea087bc680fe654d92b4961f852b23c5adc66f9f6f7", func := "pointsman/pointsmanlaw2.SubnetMasks", spec := "subnetMasks", apart := false }
def SubnetMasksSaid : Prop := subnetMasksRow.holds Try.pinned (OpenSpec.ofChange subnetMasksSpec)

/-- ITS FALSE NEIGHBOUR: 'it returns false'. Refute it at one input. -/
def subnetMasksWrong : ChangeSpec := { name := "subnetMasks", fn := fun _ => fun
  | [d1, d2, d3, d4, d5] => { results := [.lit (.bool false)], args := [d1, d2, d3, d4, d5] }
  | _ => none }
def SubnetMasksWrongFalsely : Prop := subnetMasksRow.holds Try.pinned (OpenSpec.ofChange subnetMasksWrong)

/-- 'pointsmanlaw2.SubnetBack': WHATEVER THE INPUT: true; the input reads as it did. -/
def subnetBackSpec : ChangeSpec := { name := "subnetBack", fn := fun _ => fun
  | [d1, d2] => { results := [.lit (.bool true)], args := [d1, d2] }
  | _ => none }
def subnetBackRow : OpenClaim := { program := "ytbpflpmhnmdeoaa", sum := "33708b05d514a6957da32ea087bc680fe654d92b4961f852b23c5adc66f9f6f7", func := "pointsman/pointsmanlaw2.SubnetBack", spec := "subnetBack", apart := false }
def SubnetBackSaid : Prop := subnetBackRow.holds Try.pinned (OpenSpec.ofChange subnetBackSpec)

/-- ITS FALSE NEIGHBOUR: 'it returns false'. Refute it at one input. -/
def subnetBackWrong : ChangeSpec := { name := "subnetBack", fn := fun _ => fun
  | [d1, d2] => { results := [.lit (.bool false)], args := [d1, d2] }
  | _ => none }
def SubnetBackWrongFalsely : Prop := subnetBackRow.holds Try.pinned (OpenSpec.ofChange subnetBackWrong)

/- THE SECOND FORM. 'bulk': how many values and letters a reading holds, each counted each time it is reached (what is shared counts as often as it is met; a slice's spare places count too). A statement '..UptoSaid' is the law's where the arguments, and the package variables that the reading takes, are together of bulk at most 1048576: NARROWER than '..Said'. Prove '..Said' where nothing that the law and all that it calls make is longer than what came in: it says more and counts as full. Else prove '..UptoSaid'. A law counts once. -/
mutual
def uptoBulk {H : Type} : DataW H → Nat
  | .lit (.string bytes) => bytes.length + 1
  | .lit _ => 1
  | .nil => 1
  | .ptr d => uptoBulk d + 1
  | .slice elems spare => uptoBulkAll elems + uptoBulkAll spare + 1
  | .agg parts => uptoBulkAll parts + 1
  | .iface _ d => uptoBulk d + 1
  | .map entries => uptoBulkEntries entries + 1
  | .held _ => 1
def uptoBulkAll {H : Type} : List (DataW H) → Nat
  | [] => 0
  | d :: r => uptoBulk d + uptoBulkAll r
def uptoBulkEntries {H : Type} : List (Lit × DataW H) → Nat
  | [] => 0
  | x :: r => uptoBulkEntry x + uptoBulkEntries r
def uptoBulkEntry {H : Type} : Lit × DataW H → Nat
  | (.string bytes, d) => bytes.length + uptoBulk d + 1
  | (_, d) => uptoBulk d + 1
 end
def uptoSmall : (H : Type) → List (DataW H) → Bool := fun _ ds => decide (uptoBulkAll ds ≤ 1048576)
def OpenSpec.upto (s : _root_.Go.ChangeSpec) : _root_.Go.OpenSpec := { _root_.Go.OpenSpec.ofChange s with cond := some uptoSmall }

/-- 'pointsmanlaw2.BucketWaits', WHERE WHAT IT READS IS OF BULK AT MOST 1048576: true; the input reads as it did. -/
def bucketWaitsUptoRow : OpenClaim := { program := "ytbpflpmhnmdeoaa", sum := "33708b05d514a6957da32ea087bc680fe654d92b4961f852b23c5adc66f9f6f7", func := "pointsman/pointsmanlaw2.BucketWaits", spec := "bucketWaits", apart := false, narrowed := true }
def BucketWaitsUptoSaid : Prop := bucketWaitsUptoRow.holds Try.pinned (OpenSpec.upto bucketWaitsSpec)

/-- 'pointsmanlaw2.BucketBound', WHERE WHAT IT READS IS OF BULK AT MOST 1048576: true; the input reads as it did. -/
def bucketBoundUptoRow : OpenClaim := { program := "ytbpflpmhnmdeoaa", sum := "33708b05d514a6957da32ea087bc680fe654d92b4961f852b23c5adc66f9f6f7", func := "pointsman/pointsmanlaw2.BucketBound", spec := "bucketBound", apart := false, narrowed := true }
def BucketBoundUptoSaid : Prop := bucketBoundUptoRow.holds Try.pinned (OpenSpec.upto bucketBoundSpec)

/-- 'pointsmanlaw2.BucketSplits', WHERE WHAT IT READS IS OF BULK AT MOST 1048576: true; the input reads as it did. -/
def bucketSplitsUptoRow : OpenClaim := { program := "ytbpflpmhnmdeoaa", sum := "33708b05d514a6957da32ea087bc680fe654d92b4961f852b23c5adc66f9f6f7", func := "pointsman/pointsmanlaw2.BucketSplits", spec := "bucketSplits", apart := false, narrowed := true }
def BucketSplitsUptoSaid : Prop := bucketSplitsUptoRow.holds Try.pinned (OpenSpec.upto bucketSplitsSpec)

/-- 'pointsmanlaw2.TriePuts', WHERE WHAT IT READS IS OF BULK AT MOST 1048576: true; the input reads as it did. -/
def triePutsUptoRow : OpenClaim := { program := "ytbpflpmhnmdeoaa", sum := "33708b05d514a6957da32ea087bc680fe654d92b4961f852b23c5adc66f9f6f7", func := "pointsman/pointsmanlaw2.TriePuts", spec := "triePuts", apart := false, narrowed := true }
def TriePutsUptoSaid : Prop := triePutsUptoRow.holds Try.pinned (OpenSpec.upto triePutsSpec)

/-- 'pointsmanlaw2.TrieOrder', WHERE WHAT IT READS IS OF BULK AT MOST 1048576: true; the input reads as it did. -/
def trieOrderUptoRow : OpenClaim := { program := "ytbpflpmhnmdeoaa", sum := "33708b05d514a6957da32ea087bc680fe654d92b4961f852b23c5adc66f9f6f7", func := "pointsman/pointsmanlaw2.TrieOrder", spec := "trieOrder", apart := false, narrowed := true }
def TrieOrderUptoSaid : Prop := trieOrderUptoRow.holds Try.pinned (OpenSpec.upto trieOrderSpec)

/-- 'pointsmanlaw2.SubnetNests', WHERE WHAT IT READS IS OF BULK AT MOST 1048576: true; the input reads as it did. -/
def subnetNestsUptoRow : OpenClaim := { program := "ytbpflpmhnmdeoaa", sum := "33708b05d514a6957da32ea087bc680fe654d92b4961f852b23c5adc66f9f6f7", func := "pointsman/pointsmanlaw2.SubnetNests", spec := "subnetNests", apart := false, narrowed := true }
def SubnetNestsUptoSaid : Prop := subnetNestsUptoRow.holds Try.pinned (OpenSpec.upto subnetNestsSpec)

/-- 'pointsmanlaw2.SubnetMasks', WHERE WHAT IT READS IS OF BULK AT MOST 1048576: true; the input reads as it did. -/
def subnetMasksUptoRow : OpenClaim := { program := "ytbpflpmhnmdeoaa", sum := "33708b05d514a6957da32ea087bc680fe654d92b4961f852b23c5adc66f9f6f7", func := "pointsman/pointsmanlaw2.SubnetMasks", spec := "subnetMasks", apart := false, narrowed := true }
def SubnetMasksUptoSaid : Prop := subnetMasksUptoRow.holds Try.pinned (OpenSpec.upto subnetMasksSpec)

/-- 'pointsmanlaw2.SubnetBack', WHERE WHAT IT READS IS OF BULK AT MOST 1048576: true; the input reads as it did. -/
def subnetBackUptoRow : OpenClaim := { program := "ytbpflpmhnmdeoaa", sum := "33708b05d514a6957da32ea087bc680fe654d92b4961f852b23c5adc66f9f6f7", func := "pointsman/pointsmanlaw2.SubnetBack", spec := "subnetBack", apart := false, narrowed := true }
def SubnetBackUptoSaid : Prop := subnetBackUptoRow.holds Try.pinned (OpenSpec.upto subnetBackSpec)

end Rows
end Go.Proofs.Ytbpflpmhnmdeoaa
