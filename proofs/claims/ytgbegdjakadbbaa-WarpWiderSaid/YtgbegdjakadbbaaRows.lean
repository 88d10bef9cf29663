/-
  No cell of these rows narrows 'for every input' (looked for: loops, veiled, ifaces, maps, wideKeys, modest, calm, conditions, laid).
  DERIVED. THE GIVEN ROWS OF THIS SEAT. 11 by the template 'for every input the law returns true; each argument reads behind the call as it read before'; 0 by the template 'total and deterministic' (their statements: YtgbegdjakadbbaaTotals.lean).
  GIVEN WITH THE SEED: the statements are not yours to turn. If you find one false, say at which input.
  Laid BY PROGRAM, IN A SANDBOX (cutbox-rows.mjs): the forced cells as the released guide's own fill.sh prints them over the translation 1a043ca748c4bfde… (all of the seat's roots in one cut). By AI agents, Wed Nov 11 2026. No macro, syntax, notation, axiom, sorry.
-/
import Derived.Test.YtgbegdjakadbbaaChecked
import GoSem.Claim
import GoSem.ClaimJoined
import GoSem.ClaimMapViews
import Derived.JoinedTies
import Derived.KernelRfl
namespace Go.Proofs.Ytgbegdjakadbbaa
/- THE CELL 'sum', in the pinned program and in every row, IS THE sha256 OF THE DUMP (.gsa) THAT YtgbegdjakadbbaaProg.lean LOADS. Nothing in Lean hashes anything: it is a label: what it is worth is what the hold of that sum in a sandbox is worth. -/
noncomputable def Try.pinned : Pinned := { name := "ytgbegdjakadbbaa", sum := "1a043ca748c4bfde2d50bc1a0b9d0543d83b4c82acf1d865b82ce060568b7e6f", checked := Try.checked }
namespace Rows
def none {H : Type} : Left H := { results := [], args := [] }

/-- 'bolsterlaw02.WarpBlades': WHATEVER THE INPUT: true; the input reads as it did. -/
def warpBladesSpec : ChangeSpec := { name := "warpBlades", fn := fun _ => fun
  | [d1, d2] => { results := [.lit (.bool true)], args := [d1, d2] }
  | _ => none }
def warpBladesRow : OpenClaim := { program := "ytgbegdjakadbbaa", sum := "1a043ca748c4bfde2d50bc1a0b9d0543d83b4c82acf1d865b82ce060568b7e6f", func := "bolster/bolsterlaw02.WarpBlades", spec := "warpBlades", unfollowed := true, recurses := true, plainKeys := false, apart := false }
def WarpBladesSaid : Prop := warpBladesRow.holds Try.pinned (OpenSpec.ofChange warpBladesSpec)

/-- ITS FALSE NEIGHBOUR: 'it returns false'. Refute it at one input. -/
def warpBladesWrong : ChangeSpec := { name := "warpBlades", fn := fun _ => fun
  | [d1, d2] => { results := [.lit (.bool false)], args := [d1, d2] }
  | _ => none }
def WarpBladesWrongFalsely : Prop := warpBladesRow.holds Try.pinned (OpenSpec.ofChange warpBladesWrong)

/-- 'bolsterlaw02.WarpBests': WHATEVER THE INPUT: true; the input reads as it did. -/
def warpBestsSpec : ChangeSpec := { name := "warpBests", fn := fun _ => fun
  | [d] => { results := [.lit (.bool true)], args := [d] }
  | _ => none }
def warpBestsRow : OpenClaim := { program := "ytgbegdjakadbbaa", sum := "1a043ca748c4bfde2d50bc1a0b9d0543d83b4c82acf1d865b82ce060568b7e6f", func := "bolster/bolsterlaw02.WarpBests", spec := "warpBests", unfollowed := true, recurses := true, plainKeys := false, apart := false }
def WarpBestsSaid : Prop := warpBestsRow.holds Try.pinned (OpenSpec.ofChange warpBestsSpec)

/-- ITS FALSE NEIGHBOUR: 'it returns false'. Refute it at one input. -/
def warpBestsWrong : ChangeSpec := { name := "warpBests", fn := fun _ => fun
  | [d] => { results := [.lit (.bool false)], args := [d] }
  | _ => none }
def WarpBestsWrongFalsely : Prop := warpBestsRow.holds Try.pinned (OpenSpec.ofChange warpBestsWrong)

/-- 'bolsterlaw02.WarpSpans': WHATEVER THE INPUT: true; the input reads as it did. -/
def warpSpansSpec : ChangeSpec := { name := "warpSpans", fn := fun _ => fun
  | [d1, d2, d3] => { results := [.lit (.bool true)], args := [d1, d2, d3] }
  | _ => none }
def warpSpansRow : OpenClaim := { program := "ytgbegdjakadbbaa", sum := "1a043ca748c4bfde2d50bc1a0b9d0543d83b4c82acf1d865b82ce060568b7e6f", func := "bolster/bolsterlaw02.WarpSpans", spec := "warpSpans", unfollowed := true, recurses := true, plainKeys := false, apart := false }
def WarpSpansSaid : Prop := warpSpansRow.holds Try.pinned (OpenSpec.ofChange warpSpansSpec)

/-- ITS FALSE NEIGHBOUR: 'it returns false'. Refute it at one input. -/
def warpSpansWrong : ChangeSpec := { name := "warpSpans", fn := fun _ => fun
  | [d1, d2, d3] => { results := [.lit (.bool false)], args := [d1, d2, d3] }
  | _ => none }
def WarpSpansWrongFalsely : Prop := warpSpansRow.holds Try.pinned (OpenSpec.ofChange warpSpansWrong)

/-- 'bolsterlaw02.WarpPulls': WHATEVER THE INPUT: true; the input reads as it did. -/
def warpPullsSpec : ChangeSpec := { name := "warpPulls", fn := fun _ => fun
  | [d1, d2] => { results := [.lit (.bool true)], args := [d1, d2] }
  | _ => none }
def warpPullsRow : OpenClaim := { program := "ytgbegdjakadbbaa", sum := "1a043ca748c4bfde2d50bc1a0b9d0543d83b4c82acf1d865b82ce060568b7e6f", func := "bolster/bolsterlaw02.WarpPulls", spec := "warpPulls", unfollowed := true, recurses := true, plainKeys := false, apart := false }
def WarpPullsSaid : Prop := warpPullsRow.holds Try.pinned (OpenSpec.ofChange warpPullsSpec)

/-- ITS FALSE NEIGHBOUR: 'it returns false'. Refute it at one input. -/
def warpPullsWrong : ChangeSpec := { name := "warpPulls", fn := fun _ => fun
  | [d1, d2] => { results := [.lit (.bool false)], args := [d1, d2] }
  | _ => none }
def WarpPullsWrongFalsely : Prop := warpPullsRow.holds Try.pinned (OpenSpec.ofChange warpPullsWrong)

/-- 'bolsterlaw02.WarpProved': WHATEVER THE INPUT: true; the input reads as it did. -/
def warpProvedSpec : ChangeSpec := { name := "warpProved", fn := fun _ => fun
  | [d1, d2, d3, d4] => { results := [.lit (.bool true)], args := [d1, d2, d3, d4] }
  | _ => none }
def warpProvedRow : OpenClaim := { program := "ytgbegdjakadbbaa", sum := "1a043ca748c4bfde2d50bc1a0b9d0543d83b4c82acf1d865b82ce060568b7e6f", func := "bolster/bolsterlaw02.WarpProved", spec := "warpProved", unfollowed := true, recurses := true, plainKeys := false, apart := false }
def WarpProvedSaid : Prop := warpProvedRow.holds Try.pinned (OpenSpec.ofChange warpProvedSpec)

/-- ITS FALSE NEIGHBOUR: 'it returns false'. Refute it at one input. -/
def warpProvedWrong : ChangeSpec := { name := "warpProved", fn := fun _ => fun
  | [d1, d2, d3, d4] => { results := [.lit (.bool false)], args := [d1, d2, d3, d4] }
  | _ => none }
def WarpProvedWrongFalsely : Prop := warpProvedRow.holds Try.pinned (OpenSpec.ofChange warpProvedWrong)

/-- 'bolsterlaw02.WarpEither': WHATEVER THE INPUT: true; the input reads as it did. -/
def warpEitherSpec : ChangeSpec := { name := "warpEither", fn := fun _ => fun
  | [d1, d2, d3] => { results := [.lit (.bool true)], args := [d1, d2, d3] }
  | _ => none }
def warpEitherRow : OpenClaim := { program := "ytgbegdjakadbbaa", sum := "1a043ca748c4bfde2d50bc1a0b9d0543d83b4c82acf1d865b82ce060568b7e6f", func := "bolster/bolsterlaw02.WarpEither", spec := "warpEither", unfollowed := true, recurses := true, plainKeys := false, apart := false }
def WarpEitherSaid : Prop := warpEitherRow.holds Try.pinned (OpenSpec.ofChange warpEitherSpec)

/-- ITS FALSE NEIGHBOUR: 'it returns false'. Refute it at one input. -/
def warpEitherWrong : ChangeSpec := { name := "warpEither", fn := fun _ => fun
  | [d1, d2, d3] => { results := [.lit (.bool false)], args := [d1, d2, d3] }
  | _ => none }
def WarpEitherWrongFalsely : Prop := warpEitherRow.holds Try.pinned (OpenSpec.ofChange warpEitherWrong)

/-- 'bolsterlaw02.WarpBetween': WHATEVER THE INPUT: true; the input reads as it did. -/
def warpBetweenSpec : ChangeSpec := { name := "warpBetween", fn := fun _ => fun
  | [d1, d2, d3, d4] => { results := [.lit (.bool true)], args := [d1, d2, d3, d4] }
  | _ => none }
def warpBetweenRow : OpenClaim := { program := "ytgbegdjakadbbaa", sum := "1a043ca748c4bfde2d50bc1a0b9d0543d83b4c82acf1d865b82ce060568b7e6f", func := "bolster/bolsterlaw02.WarpBetween", spec := "warpBetween", unfollowed := true, recurses := true, plainKeys := false, apart := false }
def WarpBetweenSaid : Prop := warpBetweenRow.holds Try.pinned (OpenSpec.ofChange warpBetweenSpec)

/-- ITS FALSE NEIGHBOUR: 'it returns false'. Refute it at one input. -/
def warpBetweenWrong : ChangeSpec := { name := "warpBetween", fn := fun _ => fun
  | [d1, d2, d3, d4] => { results := [.lit (.bool false)], args := [d1, d2, d3, d4] }
  | _ => none }
def WarpBetweenWrongFalsely : Prop := warpBetweenRow.holds Try.pinned (OpenSpec.ofChange warpBetweenWrong)

/-- 'bolsterlaw02.WarpWider': WHATEVER THE INPUT: true; the input reads as it did. -/
def warpWiderSpec : ChangeSpec := { name := "warpWider", fn := fun _ => fun
  | [d1, d2, d3, d4, d5] => { results := [.lit (.bool true)], args := [d1, d2, d3, d4, d5] }
  | _ => none }
def warpWiderRow : OpenClaim := { program := "ytgbegdjakadbbaa", sum := "1a043ca748c4bfde2d50bc1a0b9d0543d83b4c82acf1d865b82ce060568b7e6f", func := "bolster/bolsterlaw02.WarpWider", spec := "warpWider", unfollowed := true, recurses := true, plainKeys := false, apart := false }
def WarpWiderSaid : Prop := warpWiderRow.holds Try.pinned (OpenSpec.ofChange warpWiderSpec)

/-- ITS FALSE NEIGHBOUR: 'it returns false'. Refute it at one input. -/
def warpWiderWrong : ChangeSpec := { name := "warpWider", fn := fun _ => fun
  | [d1, d2, d3, d4, d5] => { results := [.lit (.bool false)], args := [d1, d2, d3, d4, d5] }
  | _ => none }
def WarpWiderWrongFalsely : Prop := warpWiderRow.holds Try.pinned (OpenSpec.ofChange warpWiderWrong)

/-- 'bolsterlaw02.WarpTurned': WHATEVER THE INPUT: true; the input reads as it did. -/
def warpTurnedSpec : ChangeSpec := { name := "warpTurned", fn := fun _ => fun
  | [d1, d2, d3] => { results := [.lit (.bool true)], args := [d1, d2, d3] }
  | _ => none }
def warpTurnedRow : OpenClaim := { program := "ytgbegdjakadbbaa", sum := "1a043ca748c4bfde2d50bc1a0b9d0543d83b4c82acf1d865b82ce060568b7e6f", func := "bolster/bolsterlaw02.WarpTurned", spec := "warpTurned", unfollowed := true, recurses := true, plainKeys := false, apart := false }
def WarpTurnedSaid : Prop := warpTurnedRow.holds Try.pinned (OpenSpec.ofChange warpTurnedSpec)

/-- ITS FALSE NEIGHBOUR: 'it returns false'. Refute it at one input. -/
def warpTurnedWrong : ChangeSpec := { name := "warpTurned", fn := fun _ => fun
  | [d1, d2, d3] => { results := [.lit (.bool false)], args := [d1, d2, d3] }
  | _ => none }
def WarpTurnedWrongFalsely : Prop := warpTurnedRow.holds Try.pinned (OpenSpec.ofChange warpTurnedWrong)

/-- 'bolsterlaw02.WarpLazy': WHATEVER THE INPUT: true; the input reads as it did. -/
def warpLazySpec : ChangeSpec := { name := "warpLazy", fn := fun _ => fun
  | [d] => { results := [.lit (.bool true)], args := [d] }
  | _ => none }
def warpLazyRow : OpenClaim := { program := "ytgbegdjakadbbaa", sum := "1a043ca748c4bfde2d50bc1a0b9d0543d83b4c82acf1d865b82ce060568b7e6f", func := "bolster/bolsterlaw02.WarpLazy", spec := "warpLazy", unfollowed := true, recurses := true, plainKeys := false, apart := false }
def WarpLazySaid : Prop := warpLazyRow.holds Try.pinned (OpenSpec.ofChange warpLazySpec)

/-- ITS FALSE NEIGHBOUR: 'it returns false'. Refute it at one input. -/
def warpLazyWrong : ChangeSpec := { name := "warpLazy", fn := fun _ => fun
  | [d] => { results := [.lit (.bool false)], args := [d] }
  | _ => none }
def WarpLazyWrongFalsely : Prop := warpLazyRow.holds Try.pinned (OpenSpec.ofChange warpLazyWrong)

/-- 'bolsterlaw02.WarpKnown': WHATEVER THE INPUT: true; the input reads as it did. -/
def warpKnownSpec : ChangeSpec := { name := "warpKnown", fn := fun _ => fun
  | [] => { results := [.lit (.bool true)], args := [] }
  | _ => none }
def warpKnownRow : OpenClaim := { program := "ytgbegdjakadbbaa", sum := "1a043ca748c4bfde2d50bc1a0b9d0543d83b4c82acf1d865b82ce060568b7e6f", func := "bolster/bolsterlaw02.WarpKnown", spec := "warpKnown", unfollowed := true, recurses := true, plainKeys := false, apart := false }
def WarpKnownSaid : Prop := warpKnownRow.holds Try.pinned (OpenSpec.ofChange warpKnownSpec)

/-- ITS FALSE NEIGHBOUR: 'it returns false'. Refute it at one input. -/
def warpKnownWrong : ChangeSpec := { name := "warpKnown", fn := fun _ => fun
  | [] => { results := [.lit (.bool false)], args := [] }
  | _ => none }
def WarpKnownWrongFalsely : Prop := warpKnownRow.holds Try.pinned (OpenSpec.ofChange warpKnownWrong)

/- THE SECOND FORM. 'bulk': how many values and letters a reading holds, each counted each time it is reached (what is shared counts as often as it is met; a slice's spare places count too). A statement '..UptoSaid' is the law's where the arguments, and the package variables that the reading takes, are together of bulk at most 1048576: NARROWER than '..Said'. Prove '..Said' where nothing that the law and all that it calls make is longer than what came in: it says more and counts as full. Else prove '..UptoSaid'. A law counts once. -/
mutual
def uptoBulk {H : Type} : DataW H → Nat
  | .lit (.string bytes) => bytes.length + 1
  | .lit _ => 1
  | .nil => 1
  | .ptr d => uptoBulk d + 1
  | .slice elems spare => uptoBulkAll elems + uptoBulkAll spare + 1
  | .agg parts => uptoBulkAll parts + 1
  | .iface _ d => uptoBulk d + 1
  | .map entries => uptoBulkEntries entries + 1
  | .held _ => 1
def uptoBulkAll {H : Type} : List (DataW H) → Nat
  | [] => 0
  | d :: r => uptoBulk d + uptoBulkAll r
def uptoBulkEntries {H : Type} : List (Lit × DataW H) → Nat
  | [] => 0
  | x :: r => uptoBulkEntry x + uptoBulkEntries r
def uptoBulkEntry {H : Type} : Lit × DataW H → Nat
  | (.string bytes, d) => bytes.length + uptoBulk d + 1
  | (_, d) => uptoBulk d + 1
 end
def uptoSmall : (H : Type) → List (DataW H) → Bool := fun _ ds => decide (uptoBulkAll ds ≤ 1048576)
def OpenSpec.upto (s : _root_.Go.ChangeSpec) : _root_.Go.OpenSpec := { _root_.Go.OpenSpec.ofChange s with cond := some uptoSmall }

/-- 'bolsterlaw02.WarpBlades', WHERE WHAT IT READS IS OF BULK AT MOST 1048576: true; the input reads as it did. -/
def warpBladesUptoRow : OpenClaim := { program := "ytgbegdjakadbbaa", sum := "1a043ca748c4bfde2d50bc1a0b9d0543d83b4c82acf1d865b82ce060568b7e6f", func := "bolster/bolsterlaw02.WarpBlades", spec := "warpBlades", unfollowed := true, recurses := true, plainKeys := false, apart := false, narrowed := true }
def WarpBladesUptoSaid : Prop := warpBladesUptoRow.holds Try.pinned (OpenSpec.upto warpBladesSpec)

/-- 'bolsterlaw02.WarpBests', WHERE WHAT IT READS IS OF BULK AT MOST 1048576: true; the input reads as it did. -/
def warpBestsUptoRow : OpenClaim := { program := "ytgbegdjakadbbaa", sum := "1a043ca748c4bfde2d50bc1a0b9d0543d83b4c82acf1d865b82ce060568b7e6f", func := "bolster/bolsterlaw02.WarpBests", spec := "warpBests", unfollowed := true, recurses := true, plainKeys := false, apart := false, narrowed := true }
def WarpBestsUptoSaid : Prop := warpBestsUptoRow.holds Try.pinned (OpenSpec.upto warpBestsSpec)

/-- 'bolsterlaw02.WarpSpans', WHERE WHAT IT READS IS OF BULK AT MOST 1048576: true; the input reads as it did. -/
def warpSpansUptoRow : OpenClaim := { program := "ytgbegdjakadbbaa", sum := "1a043ca748c4bfde2d50bc1a0b9d0543d83b4c82acf1d865b82ce060568b7e6f", func := "bolster/bolsterlaw02.WarpSpans", spec := "warpSpans", unfollowed := true, recurses := true, plainKeys := false, apart := false, narrowed := true }
def WarpSpansUptoSaid : Prop := warpSpansUptoRow.holds Try.pinned (OpenSpec.upto warpSpansSpec)

/-- 'bolsterlaw02.WarpPulls', WHERE WHAT IT READS IS OF BULK AT MOST 1048576: true; the input reads as it did. -/
def warpPullsUptoRow : OpenClaim := { program := "ytgbegdjakadbbaa", sum := "1a043ca748c4bfde2d50bc1a0b9d0543d83b4c82acf1d865b82ce060568b7e6f", func := "bolster/bolsterlaw02.WarpPulls", spec := "warpPulls", unfollowed := true, recurses := true, plainKeys := false, apart := false, narrowed := true }
def WarpPullsUptoSaid : Prop := warpPullsUptoRow.holds Try.pinned (OpenSpec.upto warpPullsSpec)

/-- 'bolsterlaw02.WarpProved', WHERE WHAT IT READS IS OF BULK AT MOST 1048576: true; the input reads as it did. -/
def warpProvedUptoRow : OpenClaim := { program := "ytgbegdjakadbbaa", sum := "1a043ca748c4bfde2d50bc1a0b9d0543d83b4c82acf1d865b82ce060568b7e6f", func := "bolster/bolsterlaw02.WarpProved", spec := "warpProved", unfollowed := true, recurses := true, plainKeys := false, apart := false, narrowed := true }
def WarpProvedUptoSaid : Prop := warpProvedUptoRow.holds Try.pinned (OpenSpec.upto warpProvedSpec)

/-- 'bolsterlaw02.WarpEither', WHERE WHAT IT READS IS OF BULK AT MOST 1048576: true; the input reads as it did. -/
def warpEitherUptoRow : OpenClaim := { program := "ytgbegdjakadbbaa", sum := "1a043ca748c4bfde2d50bc1a0b9d0543d83b4c82acf1d865b82ce060568b7e6f", func := "bolster/bolsterlaw02.WarpEither", spec := "warpEither", unfollowed := true, recurses := true, plainKeys := false, apart := false, narrowed := true }
def WarpEitherUptoSaid : Prop := warpEitherUptoRow.holds Try.pinned (OpenSpec.upto warpEitherSpec)

/-- 'bolsterlaw02.WarpBetween', WHERE WHAT IT READS IS OF BULK AT MOST 1048576: true; the input reads as it did. -/
def warpBetweenUptoRow : OpenClaim := { program := "ytgbegdjakadbbaa", sum := "1a043ca748c4bfde2d50bc1a0b9d0543d83b4c82acf1d865b82ce060568b7e6f", func := "bolster/bolsterlaw02.WarpBetween", spec := "warpBetween", unfollowed := true, recurses := true, plainKeys := false, apart := false, narrowed := true }
def WarpBetweenUptoSaid : Prop := warpBetweenUptoRow.holds Try.pinned (OpenSpec.upto warpBetweenSpec)

/-- 'bolsterlaw02.WarpWider', WHERE WHAT IT READS IS OF BULK AT MOST 1048576: true; the input reads as it did. -/
def warpWiderUptoRow : OpenClaim := { program := "ytgbegdjakadbbaa", sum := "1a043ca748c4bfde2d50bc1a0b9d0543d83b4c82acf1d865b82ce060568b7e6f", func := "bolster/bolsterlaw02.WarpWider", spec := "warpWider", unfollowed := true, recurses := true, plainKeys := false, apart := false, narrowed := true }
def WarpWiderUptoSaid : Prop := warpWiderUptoRow.holds Try.pinned (OpenSpec.upto warpWiderSpec)

/-- 'bolsterlaw02.WarpTurned', WHERE WHAT IT READS IS OF BULK AT MOST 1048576: true; the input reads as it did. -/
def warpTurnedUptoRow : OpenClaim := { program := "ytgbegdjakadbbaa", sum := "1a043ca748c4bfde2d50bc1a0b9d0543d83b4c82acf1d865b82ce060568b7e6f", func := "bolster/bolsterlaw02.WarpTurned", spec := "warpTurned", unfollowed := true, recurses := true, plainKeys := false, apart := false, narrowed := true }
def WarpTurnedUptoSaid : Prop := warpTurnedUptoRow.holds Try.pinned (OpenSpec.upto warpTurnedSpec)

/-- 'bolsterlaw02.WarpLazy', WHERE WHAT IT READS IS OF BULK AT MOST 1048576: true; the input reads as it did. -/
def warpLazyUptoRow : OpenClaim := { program := "ytgbegdjakadbbaa", sum := "1a043ca748c4bfde2d50bc1a0b9d0543d83b4c82acf1d865b82ce060568b7e6f", func := "bolster/bolsterlaw02.WarpLazy", spec := "warpLazy", unfollowed := true, recurses := true, plainKeys := false, apart := false, narrowed := true }
def WarpLazyUptoSaid : Prop := warpLazyUptoRow.holds Try.pinned (OpenSpec.upto warpLazySpec)

/-- 'bolsterlaw02.WarpKnown', WHERE WHAT IT READS IS OF BULK AT MOST 1048576: true; the input reads as it did. -/
def warpKnownUptoRow : OpenClaim := { program := "ytgbegdjakadbbaa", sum := "1a043ca748c4bfde2d50bc1a0b9d0543d83b4c82acf1d865b82ce060568b7e6f", func := "bolster/bolsterlaw02.WarpKnown", spec := "warpKnown", unfollowed := true, recurses := true, plainKeys := false, apart := false, narrowed := true }
def WarpKnownUptoSaid : Prop := warpKnownUptoRow.holds Try.pinned (OpenSpec.upto warpKnownSpec)

end Rows
end Go.Proofs.Ytgbegdjakadbbaa
