/-
  No cell of these rows narrows 'for every input' (looked for: loops, veiled, ifaces, maps, wideKeys, modest, calm, conditions, laid).
  DERIVED. THE GIVEN ROWS OF THIS SEAT. 13 by the template 'for every input the law returns true; each argument reads behind the call as it read before'; 0 by the template 'total and deterministic' (their statements: YtkljdbgkhghiaaaTotals.lean).
  GIVEN WITH THE SEED: the statements are not yours to turn. If you find one false, say at which input.
  Laid BY PROGRAM, IN A SANDBOX (cutbox-rows.mjs): the forced cells as the released guide's own fill.sh prints them over the translation f7063aae7e52f66b… (all of the seat's roots in one cut). By AI agents, Wed Nov 11 2026. No macro, syntax, notation, axiom, sorry.
-/
import Derived.Test.YtkljdbgkhghiaaaChecked
import GoSem.Claim
import GoSem.ClaimJoined
import GoSem.ClaimMapViews
import Derived.JoinedTies
import Derived.KernelRfl
namespace Go.Proofs.Ytkljdbgkhghiaaa
/- THE CELL 'sum', in the pinned program and in every row, IS THE sha256 OF THE DUMP (.gsa) THAT YtkljdbgkhghiaaaProg.lean LOADS. Nothing in Lean hashes anything: it is a label: what it is worth is what the hold of that sum in a sandbox is worth. -/
noncomputable def Try.pinned : Pinned := { name := "ytkljdbgkhghiaaa", sum := "f7063aae7e52f66b7f51b638947026ab04eb80b5076824f625161e67936af91b", checked := Try.checked }
namespace Rows
def none {H : Type} : Left H := { results := [], args := [] }

/-- 'bolsterlaw05.KeenChains': WHATEVER THE INPUT: true; the input reads as it did. -/
def keenChainsSpec : ChangeSpec := { name := "keenChains", fn := fun _ => fun
  | [d1, d2] => { results := [.lit (.bool true)], args := [d1, d2] }
  | _ => none }
def keenChainsRow : OpenClaim := { program := "ytkljdbgkhghiaaa", sum := "f7063aae7e52f66b7f51b638947026ab04eb80b5076824f625161e67936af91b", func := "bolster/bolsterlaw05.KeenChains", spec := "keenChains", unfollowed := true, recurses := true, apart := false }
def KeenChainsSaid : Prop := keenChainsRow.holds Try.pinned (OpenSpec.ofChange keenChainsSpec)

/-- ITS FALSE NEIGHBOUR: 'it returns false'. Refute it at one input. -/
def keenChainsWrong : ChangeSpec := { name := "keenChains", fn := fun _ => fun
  | [d1, d2] => { results := [.lit (.bool false)], args := [d1, d2] }
  | _ => none }
def KeenChainsWrongFalsely : Prop := keenChainsRow.holds Try.pinned (OpenSpec.ofChange keenChainsWrong)

/-- 'bolsterlaw05.KeenSpans': WHATEVER THE INPUT: true; the input reads as it did. -/
def keenSpansSpec : ChangeSpec := { name := "keenSpans", fn := fun _ => fun
  | [d1, d2, d3] => { results := [.lit (.bool true)], args := [d1, d2, d3] }
  | _ => none }
def keenSpansRow : OpenClaim := { program := "ytkljdbgkhghiaaa", sum := "f7063aae7e52f66b7f51b638947026ab04eb80b5076824f625161e67936af91b", func := "bolster/bolsterlaw05.KeenSpans", spec := "keenSpans", unfollowed := true, recurses := true, apart := false }
def KeenSpansSaid : Prop := keenSpansRow.holds Try.pinned (OpenSpec.ofChange keenSpansSpec)

/-- ITS FALSE NEIGHBOUR: 'it returns false'. Refute it at one input. -/
def keenSpansWrong : ChangeSpec := { name := "keenSpans", fn := fun _ => fun
  | [d1, d2, d3] => { results := [.lit (.bool false)], args := [d1, d2, d3] }
  | _ => none }
def KeenSpansWrongFalsely : Prop := keenSpansRow.holds Try.pinned (OpenSpec.ofChange keenSpansWrong)

/-- 'bolsterlaw05.KeenSharps': WHATEVER THE INPUT: true; the input reads as it did. -/
def keenSharpsSpec : ChangeSpec := { name := "keenSharps", fn := fun _ => fun
  | [d1, d2] => { results := [.lit (.bool true)], args := [d1, d2] }
  | _ => none }
def keenSharpsRow : OpenClaim := { program := "ytkljdbgkhghiaaa", sum := "f7063aae7e52f66b7f51b638947026ab04eb80b5076824f625161e67936af91b", func := "bolster/bolsterlaw05.KeenSharps", spec := "keenSharps", unfollowed := true, recurses := true, apart := false }
def KeenSharpsSaid : Prop := keenSharpsRow.holds Try.pinned (OpenSpec.ofChange keenSharpsSpec)

/-- ITS FALSE NEIGHBOUR: 'it returns false'. Refute it at one input. -/
def keenSharpsWrong : ChangeSpec := { name := "keenSharps", fn := fun _ => fun
  | [d1, d2] => { results := [.lit (.bool false)], args := [d1, d2] }
  | _ => none }
def KeenSharpsWrongFalsely : Prop := keenSharpsRow.holds Try.pinned (OpenSpec.ofChange keenSharpsWrong)

/-- 'bolsterlaw05.KeenBests': WHATEVER THE INPUT: true; the input reads as it did. -/
def keenBestsSpec : ChangeSpec := { name := "keenBests", fn := fun _ => fun
  | [d] => { results := [.lit (.bool true)], args := [d] }
  | _ => none }
def keenBestsRow : OpenClaim := { program := "ytkljdbgkhghiaaa", sum := "f7063aae7e52f66b7f51b638947026ab04eb80b5076824f625161e67936af91b", func := "bolster/bolsterlaw05.KeenBests", spec := "keenBests", unfollowed := true, recurses := true, apart := false }
def KeenBestsSaid : Prop := keenBestsRow.holds Try.pinned (OpenSpec.ofChange keenBestsSpec)

/-- ITS FALSE NEIGHBOUR: 'it returns false'. Refute it at one input. -/
def keenBestsWrong : ChangeSpec := { name := "keenBests", fn := fun _ => fun
  | [d] => { results := [.lit (.bool false)], args := [d] }
  | _ => none }
def KeenBestsWrongFalsely : Prop := keenBestsRow.holds Try.pinned (OpenSpec.ofChange keenBestsWrong)

/-- 'bolsterlaw05.KeenTells': WHATEVER THE INPUT: true; the input reads as it did. -/
def keenTellsSpec : ChangeSpec := { name := "keenTells", fn := fun _ => fun
  | [d1, d2] => { results := [.lit (.bool true)], args := [d1, d2] }
  | _ => none }
def keenTellsRow : OpenClaim := { program := "ytkljdbgkhghiaaa", sum := "f7063aae7e52f66b7f51b638947026ab04eb80b5076824f625161e67936af91b", func := "bolster/bolsterlaw05.KeenTells", spec := "keenTells", unfollowed := true, recurses := true, apart := false }
def KeenTellsSaid : Prop := keenTellsRow.holds Try.pinned (OpenSpec.ofChange keenTellsSpec)

/-- ITS FALSE NEIGHBOUR: 'it returns false'. Refute it at one input. -/
def keenTellsWrong : ChangeSpec := { name := "keenTells", fn := fun _ => fun
  | [d1, d2] => { results := [.lit (.bool false)], args := [d1, d2] }
  | _ => none }
def KeenTellsWrongFalsely : Prop := keenTellsRow.holds Try.pinned (OpenSpec.ofChange keenTellsWrong)

/-- 'bolsterlaw05.KeenThird': WHATEVER THE INPUT: true; the input reads as it did. -/
def keenThirdSpec : ChangeSpec := { name := "keenThird", fn := fun _ => fun
  | [d1, d2] => { results := [.lit (.bool true)], args := [d1, d2] }
  | _ => none }
def keenThirdRow : OpenClaim := { program := "ytkljdbgkhghiaaa", sum := "f7063aae7e52f66b7f51b638947026ab04eb80b5076824f625161e67936af91b", func := "bolster/bolsterlaw05.KeenThird", spec := "keenThird", unfollowed := true, recurses := true, apart := false }
def KeenThirdSaid : Prop := keenThirdRow.holds Try.pinned (OpenSpec.ofChange keenThirdSpec)

/-- ITS FALSE NEIGHBOUR: 'it returns false'. Refute it at one input. -/
def keenThirdWrong : ChangeSpec := { name := "keenThird", fn := fun _ => fun
  | [d1, d2] => { results := [.lit (.bool false)], args := [d1, d2] }
  | _ => none }
def KeenThirdWrongFalsely : Prop := keenThirdRow.holds Try.pinned (OpenSpec.ofChange keenThirdWrong)

/-- 'bolsterlaw05.KeenNarrower': WHATEVER THE INPUT: true; the input reads as it did. -/
def keenNarrowerSpec : ChangeSpec := { name := "keenNarrower", fn := fun _ => fun
  | [d1, d2, d3] => { results := [.lit (.bool true)], args := [d1, d2, d3] }
  | _ => none }
def keenNarrowerRow : OpenClaim := { program := "ytkljdbgkhghiaaa", sum := "f7063aae7e52f66b7f51b638947026ab04eb80b5076824f625161e67936af91b", func := "bolster/bolsterlaw05.KeenNarrower", spec := "keenNarrower", unfollowed := true, recurses := true, apart := false }
def KeenNarrowerSaid : Prop := keenNarrowerRow.holds Try.pinned (OpenSpec.ofChange keenNarrowerSpec)

/-- ITS FALSE NEIGHBOUR: 'it returns false'. Refute it at one input. -/
def keenNarrowerWrong : ChangeSpec := { name := "keenNarrower", fn := fun _ => fun
  | [d1, d2, d3] => { results := [.lit (.bool false)], args := [d1, d2, d3] }
  | _ => none }
def KeenNarrowerWrongFalsely : Prop := keenNarrowerRow.holds Try.pinned (OpenSpec.ofChange keenNarrowerWrong)

/-- 'bolsterlaw05.KeenSharpest': WHATEVER THE INPUT: true; the input reads as it did. -/
def keenSharpestSpec : ChangeSpec := { name := "keenSharpest", fn := fun _ => fun
  | [d1, d2] => { results := [.lit (.bool true)], args := [d1, d2] }
  | _ => none }
def keenSharpestRow : OpenClaim := { program := "ytkljdbgkhghiaaa", sum := "f7063aae7e52f66b7f51b638947026ab04eb80b5076824f625161e67936af91b", func := "bolster/bolsterlaw05.KeenSharpest", spec := "keenSharpest", unfollowed := true, recurses := true, apart := false }
def KeenSharpestSaid : Prop := keenSharpestRow.holds Try.pinned (OpenSpec.ofChange keenSharpestSpec)

/-- ITS FALSE NEIGHBOUR: 'it returns false'. Refute it at one input. -/
def keenSharpestWrong : ChangeSpec := { name := "keenSharpest", fn := fun _ => fun
  | [d1, d2] => { results := [.lit (.bool false)], args := [d1, d2] }
  | _ => none }
def KeenSharpestWrongFalsely : Prop := keenSharpestRow.holds Try.pinned (OpenSpec.ofChange keenSharpestWrong)

/-- 'bolsterlaw05.KeenKnown': WHATEVER THE INPUT: true; the input reads as it did. -/
def keenKnownSpec : ChangeSpec := { name := "keenKnown", fn := fun _ => fun
  | [] => { results := [.lit (.bool true)], args := [] }
  | _ => none }
def keenKnownRow : OpenClaim := { program := "ytkljdbgkhghiaaa", sum := "f7063aae7e52f66b7f51b638947026ab04eb80b5076824f625161e67936af91b", func := "bolster/bolsterlaw05.KeenKnown", spec := "keenKnown", unfollowed := true, recurses := true, apart := false }
def KeenKnownSaid : Prop := keenKnownRow.holds Try.pinned (OpenSpec.ofChange keenKnownSpec)

/-- ITS FALSE NEIGHBOUR: 'it returns false'. Refute it at one input. -/
def keenKnownWrong : ChangeSpec := { name := "keenKnown", fn := fun _ => fun
  | [] => { results := [.lit (.bool false)], args := [] }
  | _ => none }
def KeenKnownWrongFalsely : Prop := keenKnownRow.holds Try.pinned (OpenSpec.ofChange keenKnownWrong)

/-- 'bolsterlaw05.KeenBooks': WHATEVER THE INPUT: true; the input reads as it did. -/
def keenBooksSpec : ChangeSpec := { name := "keenBooks", fn := fun _ => fun
  | [d1, d2] => { results := [.lit (.bool true)], args := [d1, d2] }
  | _ => none }
def keenBooksRow : OpenClaim := { program := "ytkljdbgkhghiaaa", sum := "f7063aae7e52f66b7f51b638947026ab04eb80b5076824f625161e67936af91b", func := "bolster/bolsterlaw05.KeenBooks", spec := "keenBooks", unfollowed := true, recurses := true, apart := false }
def KeenBooksSaid : Prop := keenBooksRow.holds Try.pinned (OpenSpec.ofChange keenBooksSpec)

/-- ITS FALSE NEIGHBOUR: 'it returns false'. Refute it at one input. -/
def keenBooksWrong : ChangeSpec := { name := "keenBooks", fn := fun _ => fun
  | [d1, d2] => { results := [.lit (.bool false)], args := [d1, d2] }
  | _ => none }
def KeenBooksWrongFalsely : Prop := keenBooksRow.holds Try.pinned (OpenSpec.ofChange keenBooksWrong)

/-- 'bolsterlaw05.KeenProved': WHATEVER THE INPUT: true; the input reads as it did. -/
def keenProvedSpec : ChangeSpec := { name := "keenProved", fn := fun _ => fun
  | [d1, d2, d3, d4] => { results := [.lit (.bool true)], args := [d1, d2, d3, d4] }
  | _ => none }
def keenProvedRow : OpenClaim := { program := "ytkljdbgkhghiaaa", sum := "f7063aae7e52f66b7f51b638947026ab04eb80b5076824f625161e67936af91b", func := "bolster/bolsterlaw05.KeenProved", spec := "keenProved", unfollowed := true, recurses := true, apart := false }
def KeenProvedSaid : Prop := keenProvedRow.holds Try.pinned (OpenSpec.ofChange keenProvedSpec)

/-- ITS FALSE NEIGHBOUR: 'it returns false'. Refute it at one input. -/
def keenProvedWrong : ChangeSpec := { name := "keenProved", fn := fun _ => fun
  | [d1, d2, d3, d4] => { results := [.lit (.bool false)], args := [d1, d2, d3, d4] }
  | _ => none }
def KeenProvedWrongFalsely : Prop := keenProvedRow.holds Try.pinned (OpenSpec.ofChange keenProvedWrong)

/-- 'bolsterlaw05.KeenEither': WHATEVER THE INPUT: true; the input reads as it did. -/
def keenEitherSpec : ChangeSpec := { name := "keenEither", fn := fun _ => fun
  | [d1, d2, d3] => { results := [.lit (.bool true)], args := [d1, d2, d3] }
  | _ => none }
def keenEitherRow : OpenClaim := { program := "ytkljdbgkhghiaaa", sum := "f7063aae7e52f66b7f51b638947026ab04eb80b5076824f625161e67936af91b", func := "bolster/bolsterlaw05.KeenEither", spec := "keenEither", unfollowed := true, recurses := true, apart := false }
def KeenEitherSaid : Prop := keenEitherRow.holds Try.pinned (OpenSpec.ofChange keenEitherSpec)

/-- ITS FALSE NEIGHBOUR: 'it returns false'. Refute it at one input. -/
def keenEitherWrong : ChangeSpec := { name := "keenEither", fn := fun _ => fun
  | [d1, d2, d3] => { results := [.lit (.bool false)], args := [d1, d2, d3] }
  | _ => none }
def KeenEitherWrongFalsely : Prop := keenEitherRow.holds Try.pinned (OpenSpec.ofChange keenEitherWrong)

/-- 'bolsterlaw05.KeenTurned': WHATEVER THE INPUT: true; the input reads as it did. -/
def keenTurnedSpec : ChangeSpec := { name := "keenTurned", fn := fun _ => fun
  | [d1, d2, d3] => { results := [.lit (.bool true)], args := [d1, d2, d3] }
  | _ => none }
def keenTurnedRow : OpenClaim := { program := "ytkljdbgkhghiaaa", sum := "f7063aae7e52f66b7f51b638947026ab04eb80b5076824f625161e67936af91b", func := "bolster/bolsterlaw05.KeenTurned", spec := "keenTurned", unfollowed := true, recurses := true, apart := false }
def KeenTurnedSaid : Prop := keenTurnedRow.holds Try.pinned (OpenSpec.ofChange keenTurnedSpec)

/-- ITS FALSE NEIGHBOUR: 'it returns false'. Refute it at one input. -/
def keenTurnedWrong : ChangeSpec := { name := "keenTurned", fn := fun _ => fun
  | [d1, d2, d3] => { results := [.lit (.bool false)], args := [d1, d2, d3] }
  | _ => none }
def KeenTurnedWrongFalsely : Prop := keenTurnedRow.holds Try.pinned (OpenSpec.ofChange keenTurnedWrong)

/- THE SECOND FORM. 'bulk': how many values and letters a reading holds, each counted each time it is reached (what is shared counts as often as it is met; a slice's spare places count too). A statement '..UptoSaid' is the law's where the arguments, and the package variables that the reading takes, are together of bulk at most 1048576: NARROWER than '..Said'. Prove '..Said' where nothing that the law and all that it calls make is longer than what came in: it says more and counts as full. Else prove '..UptoSaid'. A law counts once. -/
mutual
def uptoBulk {H : Type} : DataW H → Nat
  | .lit (.string bytes) => bytes.length + 1
  | .lit _ => 1
  | .nil => 1
  | .ptr d => uptoBulk d + 1
  | .slice elems spare => uptoBulkAll elems + uptoBulkAll spare + 1
  | .agg parts => uptoBulkAll parts + 1
  | .iface _ d => uptoBulk d + 1
  | .map entries => uptoBulkEntries entries + 1
  | .held _ => 1
def uptoBulkAll {H : Type} : List (DataW H) → Nat
  | [] => 0
  | d :: r => uptoBulk d + uptoBulkAll r
def uptoBulkEntries {H : Type} : List (Lit × DataW H) → Nat
  | [] => 0
  | x :: r => uptoBulkEntry x + uptoBulkEntries r
def uptoBulkEntry {H : Type} : Lit × DataW H → Nat
  | (.string bytes, d) => bytes.length + uptoBulk d + 1
  | (_, d) => uptoBulk d + 1
 end
def uptoSmall : (H : Type) → List (DataW H) → Bool := fun _ ds => decide (uptoBulkAll ds ≤ 1048576)
def OpenSpec.upto (s : _root_.Go.ChangeSpec) : _root_.Go.OpenSpec := { _root_.Go.OpenSpec.ofChange s with cond := some uptoSmall }

/-- 'bolsterlaw05.KeenChains', WHERE WHAT IT READS IS OF BULK AT MOST 1048576: true; the input reads as it did. -/
def keenChainsUptoRow : OpenClaim := { program := "ytkljdbgkhghiaaa", sum := "f7063aae7e52f66b7f51b638947026ab04eb80b5076824f625161e67936af91b", func := "bolster/bolsterlaw05.KeenChains", spec := "keenChains", unfollowed := true, recurses := true, apart := false, narrowed := true }
def KeenChainsUptoSaid : Prop := keenChainsUptoRow.holds Try.pinned (OpenSpec.upto keenChainsSpec)

/-- 'bolsterlaw05.KeenSpans', WHERE WHAT IT READS IS OF BULK AT MOST 1048576: true; the input reads as it did. -/
def keenSpansUptoRow : OpenClaim := { program := "ytkljdbgkhghiaaa", sum := "f7063aae7e52f66b7f51b638947026ab04eb80b5076824f625161e67936af91b", func := "bolster/bolsterlaw05.KeenSpans", spec := "keenSpans", unfollowed := true, recurses := true, apart := false, narrowed := true }
def KeenSpansUptoSaid : Prop := keenSpansUptoRow.holds Try.pinned (OpenSpec.upto keenSpansSpec)

/-- 'bolsterlaw05.KeenSharps', WHERE WHAT IT READS IS OF BULK AT MOST 1048576: true; the input reads as it did. -/
def keenSharpsUptoRow : OpenClaim := { program := "ytkljdbgkhghiaaa", sum := "f7063aae7e52f66b7f51b638947026ab04eb80b5076824f625161e67936af91b", func := "bolster/bolsterlaw05.KeenSharps", spec := "keenSharps", unfollowed := true, recurses := true, apart := false, narrowed := true }
def KeenSharpsUptoSaid : Prop := keenSharpsUptoRow.holds Try.pinned (OpenSpec.upto keenSharpsSpec)

/-- 'bolsterlaw05.KeenBests', WHERE WHAT IT READS IS OF BULK AT MOST 1048576: true; the input reads as it did. -/
def keenBestsUptoRow : OpenClaim := { program := "ytkljdbgkhghiaaa", sum := "f7063aae7e52f66b7f51b638947026ab04eb80b5076824f625161e67936af91b", func := "bolster/bolsterlaw05.KeenBests", spec := "keenBests", unfollowed := true, recurses := true, apart := false, narrowed := true }
def KeenBestsUptoSaid : Prop := keenBestsUptoRow.holds Try.pinned (OpenSpec.upto keenBestsSpec)

/-- 'bolsterlaw05.KeenTells', WHERE WHAT IT READS IS OF BULK AT MOST 1048576: true; the input reads as it did. -/
def keenTellsUptoRow : OpenClaim := { program := "ytkljdbgkhghiaaa", sum := "f7063aae7e52f66b7f51b638947026ab04eb80b5076824f625161e67936af91b", func := "bolster/bolsterlaw05.KeenTells", spec := "keenTells", unfollowed := true, recurses := true, apart := false, narrowed := true }
def KeenTellsUptoSaid : Prop := keenTellsUptoRow.holds Try.pinned (OpenSpec.upto keenTellsSpec)

/-- 'bolsterlaw05.KeenThird', WHERE WHAT IT READS IS OF BULK AT MOST 1048576: true; the input reads as it did. -/
def keenThirdUptoRow : OpenClaim := { program := "ytkljdbgkhghiaaa", sum := "f7063aae7e52f66b7f51b638947026ab04eb80b5076824f625161e67936af91b", func := "bolster/bolsterlaw05.KeenThird", spec := "keenThird", unfollowed := true, recurses := true, apart := false, narrowed := true }
def KeenThirdUptoSaid : Prop := keenThirdUptoRow.holds Try.pinned (OpenSpec.upto keenThirdSpec)

/-- 'bolsterlaw05.KeenNarrower', WHERE WHAT IT READS IS OF BULK AT MOST 1048576: true; the input reads as it did. -/
def keenNarrowerUptoRow : OpenClaim := { program := "ytkljdbgkhghiaaa", sum := "f7063aae7e52f66b7f51b638947026ab04eb80b5076824f625161e67936af91b", func := "bolster/bolsterlaw05.KeenNarrower", spec := "keenNarrower", unfollowed := true, recurses := true, apart := false, narrowed := true }
def KeenNarrowerUptoSaid : Prop := keenNarrowerUptoRow.holds Try.pinned (OpenSpec.upto keenNarrowerSpec)

/-- 'bolsterlaw05.KeenSharpest', WHERE WHAT IT READS IS OF BULK AT MOST 1048576: true; the input reads as it did. -/
def keenSharpestUptoRow : OpenClaim := { program := "ytkljdbgkhghiaaa", sum := "f7063aae7e52f66b7f51b638947026ab04eb80b5076824f625161e67936af91b", func := "bolster/bolsterlaw05.KeenSharpest", spec := "keenSharpest", unfollowed := true, recurses := true, apart := false, narrowed := true }
def KeenSharpestUptoSaid : Prop := keenSharpestUptoRow.holds Try.pinned (OpenSpec.upto keenSharpestSpec)

/-- 'bolsterlaw05.KeenKnown', WHERE WHAT IT READS IS OF BULK AT MOST 1048576: true; the input reads as it did. -/
def keenKnownUptoRow : OpenClaim := { program := "ytkljdbgkhghiaaa", sum := "f7063aae7e52f66b7f51b638947026ab04eb80b5076824f625161e67936af91b", func := "bolster/bolsterlaw05.KeenKnown", spec := "keenKnown", unfollowed := true, recurses := true, apart := false, narrowed := true }
def KeenKnownUptoSaid : Prop := keenKnownUptoRow.holds Try.pinned (OpenSpec.upto keenKnownSpec)

/-- 'bolsterlaw05.KeenBooks', WHERE WHAT IT READS IS OF BULK AT MOST 1048576: true; the input reads as it did. -/
def keenBooksUptoRow : OpenClaim := { program := "ytkljdbgkhghiaaa", sum := "f7063aae7e52f66b7f51b638947026ab04eb80b5076824f625161e67936af91b", func := "bolster/bolsterlaw05.KeenBooks", spec := "keenBooks", unfollowed := true, recurses := true, apart := false, narrowed := true }
def KeenBooksUptoSaid : Prop := keenBooksUptoRow.holds Try.pinned (OpenSpec.upto keenBooksSpec)

/-- 'bolsterlaw05.KeenProved', WHERE WHAT IT READS IS OF BULK AT MOST 1048576: true; the input reads as it did. -/
def keenProvedUptoRow : OpenClaim := { program := "ytkljdbgkhghiaaa", sum := "f7063aae7e52f66b7f51b638947026ab04eb80b5076824f625161e67936af91b", func := "bolster/bolsterlaw05.KeenProved", spec := "keenProved", unfollowed := true, recurses := true, apart := false, narrowed := true }
def KeenProvedUptoSaid : Prop := keenProvedUptoRow.holds Try.pinned (OpenSpec.upto keenProvedSpec)

/-- 'bolsterlaw05.KeenEither', WHERE WHAT IT READS IS OF BULK AT MOST 1048576: true; the input reads as it did. -/
def keenEitherUptoRow : OpenClaim := { program := "ytkljdbgkhghiaaa", sum := "f7063aae7e52f66b7f51b638947026ab04eb80b5076824f625161e67936af91b", func := "bolster/bolsterlaw05.KeenEither", spec := "keenEither", unfollowed := true, recurses := true, apart := false, narrowed := true }
def KeenEitherUptoSaid : Prop := keenEitherUptoRow.holds Try.pinned (OpenSpec.upto keenEitherSpec)

/-- 'bolsterlaw05.KeenTurned', WHERE WHAT IT READS IS OF BULK AT MOST 1048576: true; the input reads as it did. -/
def keenTurnedUptoRow : OpenClaim := { program := "ytkljdbgkhghiaaa", sum := "f7063aae7e52f66b7f51b638947026ab04eb80b5076824f625161e67936af91b", func := "bolster/bolsterlaw05.KeenTurned", spec := "keenTurned", unfollowed := true, recurses := true, apart := false, narrowed := true }
def KeenTurnedUptoSaid : Prop := keenTurnedUptoRow.holds Try.pinned (OpenSpec.upto keenTurnedSpec)

end Rows
end Go.Proofs.Ytkljdbgkhghiaaa
