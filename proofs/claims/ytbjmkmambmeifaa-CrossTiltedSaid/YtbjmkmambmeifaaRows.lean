/-
  No cell of these rows narrows 'for every input' (looked for: loops, veiled, ifaces, maps, wideKeys, modest, calm, conditions, laid).
  DERIVED. THE GIVEN ROWS OF THIS SEAT. 10 by the template 'for every input the law returns true; each argument reads behind the call as it read before'; 0 by the template 'total and deterministic' (their statements: YtbjmkmambmeifaaTotals.lean).
  GIVEN WITH THE SEED: the statements are not yours to turn. If you find one false, say at which input.
  Laid BY PROGRAM, IN A SANDBOX (cutbox-rows.mjs): the forced cells as the released guide's own fill.sh prints them over the translation 3070d94be4bc98bf… (all of the seat's roots in one cut). By AI agents, Wed Nov 11 2026. No macro, syntax, notation, axiom, sorry.
-/
import Derived.Test.YtbjmkmambmeifaaChecked
import GoSem.Claim
import GoSem.ClaimJoined
import GoSem.ClaimMapViews
import Derived.JoinedTies
import Derived.KernelRfl
namespace Go.Proofs.Ytbjmkmambmeifaa
/- THE CELL 'sum', in the pinned program and in every row, IS THE sha256 OF THE DUMP (.gsa) THAT YtbjmkmambmeifaaProg.lean LOADS. Nothing in Lean hashes anything: it is a label: what it is worth is what the hold of that sum in a sandbox is worth. -/
noncomputable def Try.pinned : Pinned := { name := "ytbjmkmambmeifaa", sum := "3070d94be4bc98bf06ba67b0c76da921e4c8897030020432e35b560c69ca9a0b", checked := Try.checked }
namespace Rows
def none {H : Type} : Left H := { results := [], args := [] }

/-- 'bolsterlaw06.CrossPairs': WHATEVER THE INPUT: true; the input reads as it did. -/
def crossPairsSpec : ChangeSpec := { name := "crossPairs", fn := fun _ => fun
  | [d1, d2, d3, d4, d5] => { results := [.lit (.bool true)], args := [d1, d2, d3, d4, d5] }
  | _ => none }
def crossPairsRow : OpenClaim := { program := "ytbjmkmambmeifaa", sum := "3070d94be4bc98bf06ba67b0c76da921e4c8897030020432e35b560c69ca9a0b", func := "bolster/bolsterlaw06.CrossPairs", spec := "crossPairs", unfollowed := true, recurses := true, apart := false }
def CrossPairsSaid : Prop := crossPairsRow.holds Try.pinned (OpenSpec.ofChange crossPairsSpec)

/-- ITS FALSE NEIGHBOUR: 'it returns false'. Refute it at one input. -/
def crossPairsWrong : ChangeSpec := { name := "crossPairs", fn := fun _ => fun
  | [d1, d2, d3, d4, d5] => { results := [.lit (.bool false)], args := [d1, d2, d3, d4, d5] }
  | _ => none }
def CrossPairsWrongFalsely : Prop := crossPairsRow.holds Try.pinned (OpenSpec.ofChange crossPairsWrong)

/-- 'bolsterlaw06.CrossSpans': WHATEVER THE INPUT: true; the input reads as it did. -/
def crossSpansSpec : ChangeSpec := { name := "crossSpans", fn := fun _ => fun
  | [d1, d2] => { results := [.lit (.bool true)], args := [d1, d2] }
  | _ => none }
def crossSpansRow : OpenClaim := { program := "ytbjmkmambmeifaa", sum := "3070d94be4bc98bf06ba67b0c76da921e4c8897030020432e35b560c69ca9a0b", func := "bolster/bolsterlaw06.CrossSpans", spec := "crossSpans", unfollowed := true, recurses := true, apart := false }
def CrossSpansSaid : Prop := crossSpansRow.holds Try.pinned (OpenSpec.ofChange crossSpansSpec)

/-- ITS FALSE NEIGHBOUR: 'it returns false'. Refute it at one input. -/
def crossSpansWrong : ChangeSpec := { name := "crossSpans", fn := fun _ => fun
  | [d1, d2] => { results := [.lit (.bool false)], args := [d1, d2] }
  | _ => none }
def CrossSpansWrongFalsely : Prop := crossSpansRow.holds Try.pinned (OpenSpec.ofChange crossSpansWrong)

/-- 'bolsterlaw06.CrossWedges': WHATEVER THE INPUT: true; the input reads as it did. -/
def crossWedgesSpec : ChangeSpec := { name := "crossWedges", fn := fun _ => fun
  | [d] => { results := [.lit (.bool true)], args := [d] }
  | _ => none }
def crossWedgesRow : OpenClaim := { program := "ytbjmkmambmeifaa", sum := "3070d94be4bc98bf06ba67b0c76da921e4c8897030020432e35b560c69ca9a0b", func := "bolster/bolsterlaw06.CrossWedges", spec := "crossWedges", unfollowed := true, recurses := true, apart := false }
def CrossWedgesSaid : Prop := crossWedgesRow.holds Try.pinned (OpenSpec.ofChange crossWedgesSpec)

/-- ITS FALSE NEIGHBOUR: 'it returns false'. Refute it at one input. -/
def crossWedgesWrong : ChangeSpec := { name := "crossWedges", fn := fun _ => fun
  | [d] => { results := [.lit (.bool false)], args := [d] }
  | _ => none }
def CrossWedgesWrongFalsely : Prop := crossWedgesRow.holds Try.pinned (OpenSpec.ofChange crossWedgesWrong)

/-- 'bolsterlaw06.CrossEither': WHATEVER THE INPUT: true; the input reads as it did. -/
def crossEitherSpec : ChangeSpec := { name := "crossEither", fn := fun _ => fun
  | [d1, d2, d3, d4] => { results := [.lit (.bool true)], args := [d1, d2, d3, d4] }
  | _ => none }
def crossEitherRow : OpenClaim := { program := "ytbjmkmambmeifaa", sum := "3070d94be4bc98bf06ba67b0c76da921e4c8897030020432e35b560c69ca9a0b", func := "bolster/bolsterlaw06.CrossEither", spec := "crossEither", unfollowed := true, recurses := true, apart := false }
def CrossEitherSaid : Prop := crossEitherRow.holds Try.pinned (OpenSpec.ofChange crossEitherSpec)

/-- ITS FALSE NEIGHBOUR: 'it returns false'. Refute it at one input. -/
def crossEitherWrong : ChangeSpec := { name := "crossEither", fn := fun _ => fun
  | [d1, d2, d3, d4] => { results := [.lit (.bool false)], args := [d1, d2, d3, d4] }
  | _ => none }
def CrossEitherWrongFalsely : Prop := crossEitherRow.holds Try.pinned (OpenSpec.ofChange crossEitherWrong)

/-- 'bolsterlaw06.CrossKinds': WHATEVER THE INPUT: true; the input reads as it did. -/
def crossKindsSpec : ChangeSpec := { name := "crossKinds", fn := fun _ => fun
  | [d1, d2, d3] => { results := [.lit (.bool true)], args := [d1, d2, d3] }
  | _ => none }
def crossKindsRow : OpenClaim := { program := "ytbjmkmambmeifaa", sum := "3070d94be4bc98bf06ba67b0c76da921e4c8897030020432e35b560c69ca9a0b", func := "bolster/bolsterlaw06.CrossKinds", spec := "crossKinds", unfollowed := true, recurses := true, apart := false }
def CrossKindsSaid : Prop := crossKindsRow.holds Try.pinned (OpenSpec.ofChange crossKindsSpec)

/-- ITS FALSE NEIGHBOUR: 'it returns false'. Refute it at one input. -/
def crossKindsWrong : ChangeSpec := { name := "crossKinds", fn := fun _ => fun
  | [d1, d2, d3] => { results := [.lit (.bool false)], args := [d1, d2, d3] }
  | _ => none }
def CrossKindsWrongFalsely : Prop := crossKindsRow.holds Try.pinned (OpenSpec.ofChange crossKindsWrong)

/-- 'bolsterlaw06.CrossTravels': WHATEVER THE INPUT: true; the input reads as it did. -/
def crossTravelsSpec : ChangeSpec := { name := "crossTravels", fn := fun _ => fun
  | [d1, d2, d3, d4] => { results := [.lit (.bool true)], args := [d1, d2, d3, d4] }
  | _ => none }
def crossTravelsRow : OpenClaim := { program := "ytbjmkmambmeifaa", sum := "3070d94be4bc98bf06ba67b0c76da921e4c8897030020432e35b560c69ca9a0b", func := "bolster/bolsterlaw06.CrossTravels", spec := "crossTravels", unfollowed := true, recurses := true, apart := false }
def CrossTravelsSaid : Prop := crossTravelsRow.holds Try.pinned (OpenSpec.ofChange crossTravelsSpec)

/-- ITS FALSE NEIGHBOUR: 'it returns false'. Refute it at one input. -/
def crossTravelsWrong : ChangeSpec := { name := "crossTravels", fn := fun _ => fun
  | [d1, d2, d3, d4] => { results := [.lit (.bool false)], args := [d1, d2, d3, d4] }
  | _ => none }
def CrossTravelsWrongFalsely : Prop := crossTravelsRow.holds Try.pinned (OpenSpec.ofChange crossTravelsWrong)

/-- 'bolsterlaw06.CrossFollow': WHATEVER THE INPUT: true; the input reads as it did. -/
def crossFollowSpec : ChangeSpec := { name := "crossFollow", fn := fun _ => fun
  | [d1, d2] => { results := [.lit (.bool true)], args := [d1, d2] }
  | _ => none }
def crossFollowRow : OpenClaim := { program := "ytbjmkmambmeifaa", sum := "3070d94be4bc98bf06ba67b0c76da921e4c8897030020432e35b560c69ca9a0b", func := "bolster/bolsterlaw06.CrossFollow", spec := "crossFollow", unfollowed := true, recurses := true, apart := false }
def CrossFollowSaid : Prop := crossFollowRow.holds Try.pinned (OpenSpec.ofChange crossFollowSpec)

/-- ITS FALSE NEIGHBOUR: 'it returns false'. Refute it at one input. -/
def crossFollowWrong : ChangeSpec := { name := "crossFollow", fn := fun _ => fun
  | [d1, d2] => { results := [.lit (.bool false)], args := [d1, d2] }
  | _ => none }
def CrossFollowWrongFalsely : Prop := crossFollowRow.holds Try.pinned (OpenSpec.ofChange crossFollowWrong)

/-- 'bolsterlaw06.CrossWithin': WHATEVER THE INPUT: true; the input reads as it did. -/
def crossWithinSpec : ChangeSpec := { name := "crossWithin", fn := fun _ => fun
  | [d1, d2, d3, d4, d5] => { results := [.lit (.bool true)], args := [d1, d2, d3, d4, d5] }
  | _ => none }
def crossWithinRow : OpenClaim := { program := "ytbjmkmambmeifaa", sum := "3070d94be4bc98bf06ba67b0c76da921e4c8897030020432e35b560c69ca9a0b", func := "bolster/bolsterlaw06.CrossWithin", spec := "crossWithin", unfollowed := true, recurses := true, apart := false }
def CrossWithinSaid : Prop := crossWithinRow.holds Try.pinned (OpenSpec.ofChange crossWithinSpec)

/-- ITS FALSE NEIGHBOUR: 'it returns false'. Refute it at one input. -/
def crossWithinWrong : ChangeSpec := { name := "crossWithin", fn := fun _ => fun
  | [d1, d2, d3, d4, d5] => { results := [.lit (.bool false)], args := [d1, d2, d3, d4, d5] }
  | _ => none }
def CrossWithinWrongFalsely : Prop := crossWithinRow.holds Try.pinned (OpenSpec.ofChange crossWithinWrong)

/-- 'bolsterlaw06.CrossTilted': WHATEVER THE INPUT: true; the input reads as it did. -/
def crossTiltedSpec : ChangeSpec := { name := "crossTilted", fn := fun _ => fun
  | [d1, d2, d3] => { results := [.lit (.bool true)], args := [d1, d2, d3] }
  | _ => none }
def crossTiltedRow : OpenClaim := { program := "ytbjmkmambmeifaa", sum := "3070d94be4bc98bf06ba67b0c76da921e4c8897030020432e35b560c69ca9a0b", func := "bolster/bolsterlaw06.CrossTilted", spec := "crossTilted", unfollowed := true, recurses := true, apart := false }
def CrossTiltedSaid : Prop := crossTiltedRow.holds Try.pinned (OpenSpec.ofChange crossTiltedSpec)

/-- ITS FALSE NEIGHBOUR: 'it returns false'. Refute it at one input. -/
def crossTiltedWrong : ChangeSpec := { name := "crossTilted", fn := fun _ => fun
  | [d1, d2, d3] => { results := [.lit (.bool false)], args := [d1, d2, d3] }
  | _ => none }
def CrossTiltedWrongFalsely : Prop := crossTiltedRow.holds Try.pinned (OpenSpec.ofChange crossTiltedWrong)

/-- 'bolsterlaw06.CrossKnown': WHATEVER THE INPUT: true; the input reads as it did. -/
def crossKnownSpec : ChangeSpec := { name := "crossKnown", fn := fun _ => fun
  | [] => { results := [.lit (.bool true)], args := [] }
  | _ => none }
def crossKnownRow : OpenClaim := { program := "ytbjmkmambmeifaa", sum := "3070d94be4bc98bf06ba67b0c76da921e4c8897030020432e35b560c69ca9a0b", func := "bolster/bolsterlaw06.CrossKnown", spec := "crossKnown", unfollowed := true, recurses := true, apart := false }
def CrossKnownSaid : Prop := crossKnownRow.holds Try.pinned (OpenSpec.ofChange crossKnownSpec)

/-- ITS FALSE NEIGHBOUR: 'it returns false'. Refute it at one input. -/
def crossKnownWrong : ChangeSpec := { name := "crossKnown", fn := fun _ => fun
  | [] => { results := [.lit (.bool false)], args := [] }
  | _ => none }
def CrossKnownWrongFalsely : Prop := crossKnownRow.holds Try.pinned (OpenSpec.ofChange crossKnownWrong)

/- THE SECOND FORM. 'bulk': how many values and letters a reading holds, each counted each time it is reached (what is shared counts as often as it is met; a slice's spare places count too). A statement '..UptoSaid' is the law's where the arguments, and the package variables that the reading takes, are together of bulk at most 1048576: NARROWER than '..Said'. Prove '..Said' where nothing that the law and all that it calls make is longer than what came in: it says more and counts as full. Else prove '..UptoSaid'. A law counts once. -/
mutual
def uptoBulk {H : Type} : DataW H → Nat
  | .lit (.string bytes) => bytes.length + 1
  | .lit _ => 1
  | .nil => 1
  | .ptr d => uptoBulk d + 1
  | .slice elems spare => uptoBulkAll elems + uptoBulkAll spare + 1
  | .agg parts => uptoBulkAll parts + 1
  | .iface _ d => uptoBulk d + 1
  | .map entries => uptoBulkEntries entries + 1
  | .held _ => 1
def uptoBulkAll {H : Type} : List (DataW H) → Nat
  | [] => 0
  | d :: r => uptoBulk d + uptoBulkAll r
def uptoBulkEntries {H : Type} : List (Lit × DataW H) → Nat
  | [] => 0
  | x :: r => uptoBulkEntry x + uptoBulkEntries r
def uptoBulkEntry {H : Type} : Lit × DataW H → Nat
  | (.string bytes, d) => bytes.length + uptoBulk d + 1
  | (_, d) => uptoBulk d + 1
 end
def uptoSmall : (H : Type) → List (DataW H) → Bool := fun _ ds => decide (uptoBulkAll ds ≤ 1048576)
def OpenSpec.upto (s : _root_.Go.ChangeSpec) : _root_.Go.OpenSpec := { _root_.Go.OpenSpec.ofChange s with cond := some uptoSmall }

/-- 'bolsterlaw06.CrossPairs', WHERE WHAT IT READS IS OF BULK AT MOST 1048576: true; the input reads as it did. -/
def crossPairsUptoRow : OpenClaim := { program := "ytbjmkmambmeifaa", sum := "3070d94be4bc98bf06ba67b0c76da921e4c8897030020432e35b560c69ca9a0b", func := "bolster/bolsterlaw06.CrossPairs", spec := "crossPairs", unfollowed := true, recurses := true, apart := false, narrowed := true }
def CrossPairsUptoSaid : Prop := crossPairsUptoRow.holds Try.pinned (OpenSpec.upto crossPairsSpec)

/-- 'bolsterlaw06.CrossSpans', WHERE WHAT IT READS IS OF BULK AT MOST 1048576: true; the input reads as it did. -/
def crossSpansUptoRow : OpenClaim := { program := "ytbjmkmambmeifaa", sum := "3070d94be4bc98bf06ba67b0c76da921e4c8897030020432e35b560c69ca9a0b", func := "bolster/bolsterlaw06.CrossSpans", spec := "crossSpans", unfollowed := true, recurses := true, apart := false, narrowed := true }
def CrossSpansUptoSaid : Prop := crossSpansUptoRow.holds Try.pinned (OpenSpec.upto crossSpansSpec)

/-- 'bolsterlaw06.CrossWedges', WHERE WHAT IT READS IS OF BULK AT MOST 1048576: true; the input reads as it did. -/
def crossWedgesUptoRow : OpenClaim := { program := "ytbjmkmambmeifaa", sum := "3070d94be4bc98bf06ba67b0c76da921e4c8897030020432e35b560c69ca9a0b", func := "bolster/bolsterlaw06.CrossWedges", spec := "crossWedges", unfollowed := true, recurses := true, apart := false, narrowed := true }
def CrossWedgesUptoSaid : Prop := crossWedgesUptoRow.holds Try.pinned (OpenSpec.upto crossWedgesSpec)

/-- 'bolsterlaw06.CrossEither', WHERE WHAT IT READS IS OF BULK AT MOST 1048576: true; the input reads as it did. -/
def crossEitherUptoRow : OpenClaim := { program := "ytbjmkmambmeifaa", sum := "3070d94be4bc98bf06ba67b0c76da921e4c8897030020432e35b560c69ca9a0b", func := "bolster/bolsterlaw06.CrossEither", spec := "crossEither", unfollowed := true, recurses := true, apart := false, narrowed := true }
def CrossEitherUptoSaid : Prop := crossEitherUptoRow.holds Try.pinned (OpenSpec.upto crossEitherSpec)

/-- 'bolsterlaw06.CrossKinds', WHERE WHAT IT READS IS OF BULK AT MOST 1048576: true; the input reads as it did. -/
def crossKindsUptoRow : OpenClaim := { program := "ytbjmkmambmeifaa", sum := "3070d94be4bc98bf06ba67b0c76da921e4c8897030020432e35b560c69ca9a0b", func := "bolster/bolsterlaw06.CrossKinds", spec := "crossKinds", unfollowed := true, recurses := true, apart := false, narrowed := true }
def CrossKindsUptoSaid : Prop := crossKindsUptoRow.holds Try.pinned (OpenSpec.upto crossKindsSpec)

/-- 'bolsterlaw06.CrossTravels', WHERE WHAT IT READS IS OF BULK AT MOST 1048576: true; the input reads as it did. -/
def crossTravelsUptoRow : OpenClaim := { program := "ytbjmkmambmeifaa", sum := "3070d94be4bc98bf06ba67b0c76da921e4c8897030020432e35b560c69ca9a0b", func := "bolster/bolsterlaw06.CrossTravels", spec := "crossTravels", unfollowed := true, recurses := true, apart := false, narrowed := true }
def CrossTravelsUptoSaid : Prop := crossTravelsUptoRow.holds Try.pinned (OpenSpec.upto crossTravelsSpec)

/-- 'bolsterlaw06.CrossFollow', WHERE WHAT IT READS IS OF BULK AT MOST 1048576: true; the input reads as it did. -/
def crossFollowUptoRow : OpenClaim := { program := "ytbjmkmambmeifaa", sum := "3070d94be4bc98bf06ba67b0c76da921e4c8897030020432e35b560c69ca9a0b", func := "bolster/bolsterlaw06.CrossFollow", spec := "crossFollow", unfollowed := true, recurses := true, apart := false, narrowed := true }
def CrossFollowUptoSaid : Prop := crossFollowUptoRow.holds Try.pinned (OpenSpec.upto crossFollowSpec)

/-- 'bolsterlaw06.CrossWithin', WHERE WHAT IT READS IS OF BULK AT MOST 1048576: true; the input reads as it did. -/
def crossWithinUptoRow : OpenClaim := { program := "ytbjmkmambmeifaa", sum := "3070d94be4bc98bf06ba67b0c76da921e4c8897030020432e35b560c69ca9a0b", func := "bolster/bolsterlaw06.CrossWithin", spec := "crossWithin", unfollowed := true, recurses := true, apart := false, narrowed := true }
def CrossWithinUptoSaid : Prop := crossWithinUptoRow.holds Try.pinned (OpenSpec.upto crossWithinSpec)

/-- 'bolsterlaw06.CrossTilted', WHERE WHAT IT READS IS OF BULK AT MOST 1048576: true; the input reads as it did. -/
def crossTiltedUptoRow : OpenClaim := { program := "ytbjmkmambmeifaa", sum := "3070d94be4bc98bf06ba67b0c76da921e4c8897030020432e35b560c69ca9a0b", func := "bolster/bolsterlaw06.CrossTilted", spec := "crossTilted", unfollowed := true, recurses := true, apart := false, narrowed := true }
def CrossTiltedUptoSaid : Prop := crossTiltedUptoRow.holds Try.pinned (OpenSpec.upto crossTiltedSpec)

/-- 'bolsterlaw06.CrossKnown', WHERE WHAT IT READS IS OF BULK AT MOST 1048576: true; the input reads as it did. -/
def crossKnownUptoRow : OpenClaim := { program := "ytbjmkmambmeifaa", sum := "3070d94be4bc98bf06ba67b0c76da921e4c8897030020432e35b560c69ca9a0b", func := "bolster/bolsterlaw06.CrossKnown", spec := "crossKnown", unfollowed := true, recurses := true, apart := false, narrowed := true }
def CrossKnownUptoSaid : Prop := crossKnownUptoRow.holds Try.pinned (OpenSpec.upto crossKnownSpec)

end Rows
end Go.Proofs.Ytbjmkmambmeifaa
