/-
  No cell of these rows narrows 'for every input' (looked for: loops, veiled, ifaces, maps, wideKeys, modest, calm, conditions, laid).
  DERIVED. THE GIVEN ROWS OF THIS SEAT. 5 by the template 'for every input the law returns true; each argument reads behind the call as it read before'; 0 by the template 'total and deterministic' (their statements: YtkdfiedemhjjjaaTotals.lean).
  GIVEN WITH THE SEED: the statements are not yours to turn. If you find one false, say at which input.
  Laid BY PROGRAM, IN A SANDBOX (cutbox-rows.mjs): the forced cells as the released guide's own fill.sh prints them over the translation 5f7b674040befdf4… (all of the seat's roots in one cut). By AI agents, Wed Nov 11 2026. No macro, syntax, notation, axiom, sorry.
-/
import Derived.Test.YtkdfiedemhjjjaaChecked
import GoSem.Claim
import GoSem.ClaimJoined
import GoSem.ClaimMapViews
import Derived.JoinedTies
import Derived.KernelRfl
namespace Go.Proofs.Ytkdfiedemhjjjaa
/- THE CELL 'sum', in the pinned program and in every row, IS THE sha256 OF THE DUMP (.gsa) THAT YtkdfiedemhjjjaaProg.lean LOADS. Nothing in Lean hashes anything: it is a label: what it is worth is what the hold of that sum in a sandbox is worth. -/
noncomputable def Try.pinned : Pinned := { name := "ytkdfiedemhjjjaa", sum := "5f7b674040befdf4f7d3ea75d187a7f8f4ba1aa8492d48e1c30e82cc0d11a53c", checked := Try.checked }
namespace Rows
def none {H : Type} : Left H := { results := [], args := [] }

/-- 'pointsmanlaw1.RrBack': WHATEVER THE INPUT: true; the input reads as it did. -/
def rrBackSpec : ChangeSpec := { name := "rrBack", fn := fun _ => fun
  | [d1, d2, d3, d4] => { results := [.lit (.bool true)], args := [d1, d2, d3, d4] }
  | _ => none }
def rrBackRow : OpenClaim := { program := "ytkdfiedemhjjjaa", sum := "5f7b674040befdf4f7d3ea75d187a7f8f4ba1aa8492d48e1c30e82cc0d11a53c", func := "pointsman/pointsmanlaw1.RrBack", spec := "rrBack", apart := false }
def RrBackSaid : Prop := rrBackRow.holds Try.pinned (OpenSpec.ofChange rrBackSpec)

/-- ITS FALSE NEIGHBOUR: 'it returns false'. Refute it at one input. -/
def rrBackWrong : ChangeSpec := { name := "rrBack", fn := fun _ => fun
  | [d1, d2, d3, d4] => { results := [.lit (.bool false)], args := [d1, d2, d3, d4] }
  | _ => none }
def RrBackWrongFalsely : Prop := rrBackRow.holds Try.pinned (OpenSpec.ofChange rrBackWrong)

/-- 'pointsmanlaw1.MsgGrows': WHATEVER THE INPUT: true; the input reads as it did. -/
def msgGrowsSpec : ChangeSpec := { name := "msgGrows", fn := fun _ => fun
  | [d1, d2] => { results := [.lit (.bool true)], args := [d1, d2] }
  | _ => none }
def msgGrowsRow : OpenClaim := { program := "ytkdfiedemhjjjaa", sum := "5f7b674040befdf4f7d3ea75d187a7f8f4ba1aa8492d48e1c30e82cc0d11a53c", func := "pointsman/pointsmanlaw1.MsgGrows", spec := "msgGrows", apart := false }
def MsgGrowsSaid : Prop := msgGrowsRow.holds Try.pinned (OpenSpec.ofChange msgGrowsSpec)

/-- ITS FALSE NEIGHBOUR: 'it returns false'. Refute it at one input. -/
def msgGrowsWrong : ChangeSpec := { name := "msgGrows", fn := fun _ => fun
  | [d1, d2] => { results := [.lit (.bool false)], args := [d1, d2] }
  | _ => none }
def MsgGrowsWrongFalsely : Prop := msgGrowsRow.holds Try.pinned (OpenSpec.ofChange msgGrowsWrong)

/-- 'pointsmanlaw2.EdnsSent': WHATEVER THE INPUT: true; the input reads as it did. -/
def ednsSentSpec : ChangeSpec := { name := "ednsSent", fn := fun _ => fun
  | [d1, d2] => { results := [.lit (.bool true)], args := [d1, d2] }
  | _ => none }
def ednsSentRow : OpenClaim := { program := "ytkdfiedemhjjjaa", sum := "5f7b674040befdf4f7d3ea75d187a7f8f4ba1aa8492d48e1c30e82cc0d11a53c", func := "pointsman/pointsmanlaw2.EdnsSent", spec := "ednsSent", unfollowed := true, recurses := true, apart := false }
def EdnsSentSaid : Prop := ednsSentRow.holds Try.pinned (OpenSpec.ofChange ednsSentSpec)

/-- ITS FALSE NEIGHBOUR: 'it returns false'. Refute it at one input. -/
def ednsSentWrong : ChangeSpec := { name := "ednsSent", fn := fun _ => fun
  | [d1, d2] => { results := [.lit (.bool false)], args := [d1, d2] }
  | _ => none }
def EdnsSentWrongFalsely : Prop := ednsSentRow.holds Try.pinned (OpenSpec.ofChange ednsSentWrong)

/-- 'pointsmantop.TopTTL': WHATEVER THE INPUT: true; the input reads as it did. -/
def topTTLSpec : ChangeSpec := { name := "topTTL", fn := fun _ => fun
  | [d1, d2] => { results := [.lit (.bool true)], args := [d1, d2] }
  | _ => none }
def topTTLRow : OpenClaim := { program := "ytkdfiedemhjjjaa", sum := "5f7b674040befdf4f7d3ea75d187a7f8f4ba1aa8492d48e1c30e82cc0d11a53c", func := "pointsman/pointsmantop.TopTTL", spec := "topTTL", recurses := true, apart := false }
def TopTTLSaid : Prop := topTTLRow.holds Try.pinned (OpenSpec.ofChange topTTLSpec)

/-- ITS FALSE NEIGHBOUR: 'it returns false'. Refute it at one input. -/
def topTTLWrong : ChangeSpec := { name := "topTTL", fn := fun _ => fun
  | [d1, d2] => { results := [.lit (.bool false)], args := [d1, d2] }
  | _ => none }
def TopTTLWrongFalsely : Prop := topTTLRow.holds Try.pinned (OpenSpec.ofChange topTTLWrong)

/-- 'pointsmantop.TopSubnet': WHATEVER THE INPUT: true; the input reads as it did. -/
def topSubnetSpec : ChangeSpec := { name := "topSubnet", fn := fun _ => fun
  | [d1, d2, d3] => { results := [.lit (.bool true)], args := [d1, d2, d3] }
  | _ => none }
def topSubnetRow : OpenClaim := { program := "ytkdfiedemhjjjaa", sum := "5f7b674040befdf4f7d3ea75d187a7f8f4ba1aa8492d48e1c30e82cc0d11a53c", func := "pointsman/pointsmantop.TopSubnet", spec := "topSubnet", unfollowed := true, recurses := true, apart := false }
def TopSubnetSaid : Prop := topSubnetRow.holds Try.pinned (OpenSpec.ofChange topSubnetSpec)

/-- ITS FALSE NEIGHBOUR: 'it returns false'. Refute it at one input. -/
def topSubnetWrong : ChangeSpec := { name := "topSubnet", fn := fun _ => fun
  | [d1, d2, d3] => { results := [.lit (.bool false)], args := [d1, d2, d3] }
  | _ => none }
def TopSubnetWrongFalsely : Prop := topSubnetRow.holds Try.pinned (OpenSpec.ofChange topSubnetWrong)

/- THE SECOND FORM. 'bulk': how many values and letters a reading holds, each counted each time it is reached (what is shared counts as often as it is met; a slice's spare places count too). A statement '..UptoSaid' is the law's where the arguments, and the package variables that the reading takes, are together of bulk at most 1048576: NARROWER than '..Said'. Prove '..Said' where nothing that the law and all that it calls make is longer than what came in: it says more and counts as full. Else prove '..UptoSaid'. A law counts once. -/
mutual
def uptoBulk {H : Type} : DataW H → Nat
  | .lit (.string bytes) => bytes.length + 1
  | .lit _ => 1
  | .nil => 1
  | .ptr d => uptoBulk d + 1
  | .slice elems spare => uptoBulkAll elems + uptoBulkAll spare + 1
  | .agg parts => uptoBulkAll parts + 1
  | .iface _ d => uptoBulk d + 1
  | .map entries => uptoBulkEntries entries + 1
  | .held _ => 1
def uptoBulkAll {H : Type} : List (DataW H) → Nat
  | [] => 0
  | d :: r => uptoBulk d + uptoBulkAll r
def uptoBulkEntries {H : Type} : List (Lit × DataW H) → Nat
  | [] => 0
  | x :: r => uptoBulkEntry x + uptoBulkEntries r
def uptoBulkEntry {H : Type} : Lit × DataW H → Nat
  | (.string bytes, d) => bytes.length + uptoBulk d + 1
  | (_, d) => uptoBulk d + 1
 end
def uptoSmall : (H : Type) → List (DataW H) → Bool := fun _ ds => decide (uptoBulkAll ds ≤ 1048576)
def OpenSpec.upto (s : _root_.Go.ChangeSpec) : _root_.Go.OpenSpec := { _root_.Go.OpenSpec.ofChange s with cond := some uptoSmall }

/-- 'pointsmanlaw1.RrBack', WHERE WHAT IT READS IS OF BULK AT MOST 1048576: true; the input reads as it did. -/
def rrBackUptoRow : OpenClaim := { program := "ytkdfiedemhjjjaa", sum := "5f7b674040befdf4f7d3ea75d187a7f8f4ba1aa8492d48e1c30e82cc0d11a53c", func := "pointsman/pointsmanlaw1.RrBack", spec := "rrBack", apart := false, narrowed := true }
def RrBackUptoSaid : Prop := rrBackUptoRow.holds Try.pinned (OpenSpec.upto rrBackSpec)

/-- 'pointsmanlaw1.MsgGrows', WHERE WHAT IT READS IS OF BULK AT MOST 1048576: true; the input reads as it did. -/
def msgGrowsUptoRow : OpenClaim := { program := "ytkdfiedemhjjjaa", sum := "5f7b674040befdf4f7d3ea75d187a7f8f4ba1aa8492d48e1c30e82cc0d11a53c", func := "pointsman/pointsmanlaw1.MsgGrows", spec := "msgGrows", apart := false, narrowed := true }
def MsgGrowsUptoSaid : Prop := msgGrowsUptoRow.holds Try.pinned (OpenSpec.upto msgGrowsSpec)

/-- 'pointsmanlaw2.EdnsSent', WHERE WHAT IT READS IS OF BULK AT MOST 1048576: true; the input reads as it did. -/
def ednsSentUptoRow : OpenClaim := { program := "ytkdfiedemhjjjaa", sum := "5f7b674040befdf4f7d3ea75d187a7f8f4ba1aa8492d48e1c30e82cc0d11a53c", func := "pointsman/pointsmanlaw2.EdnsSent", spec := "ednsSent", unfollowed := true, recurses := true, apart := false, narrowed := true }
def EdnsSentUptoSaid : Prop := ednsSentUptoRow.holds Try.pinned (OpenSpec.upto ednsSentSpec)

/-- 'pointsmantop.TopTTL', WHERE WHAT IT READS IS OF BULK AT MOST 1048576: true; the input reads as it did. -/
def topTTLUptoRow : OpenClaim := { program := "ytkdfiedemhjjjaa", sum := "5f7b674040befdf4f7d3ea75d187a7f8f4ba1aa8492d48e1c30e82cc0d11a53c", func := "pointsman/pointsmantop.TopTTL", spec := "topTTL", recurses := true, apart := false, narrowed := true }
def TopTTLUptoSaid : Prop := topTTLUptoRow.holds Try.pinned (OpenSpec.upto topTTLSpec)

/-- 'pointsmantop.TopSubnet', WHERE WHAT IT READS IS OF BULK AT MOST 1048576: true; the input reads as it did. -/
def topSubnetUptoRow : OpenClaim := { program := "ytkdfiedemhjjjaa", sum := "5f7b674040befdf4f7d3ea75d187a7f8f4ba1aa8492d48e1c30e82cc0d11a53c", func := "pointsman/pointsmantop.TopSubnet", spec := "topSubnet", unfollowed := true, recurses := true, apart := false, narrowed := true }
def TopSubnetUptoSaid : Prop := topSubnetUptoRow.holds Try.pinned (OpenSpec.upto topSubnetSpec)

end Rows
end Go.Proofs.Ytkdfiedemhjjjaa
