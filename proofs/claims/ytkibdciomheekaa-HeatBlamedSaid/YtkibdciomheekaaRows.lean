/-
  No cell of these rows narrows 'for every input' (looked for: loops, veiled, ifaces, maps, wideKeys, modest, calm, conditions, laid).
  DERIVED. THE GIVEN ROWS OF THIS SEAT. 11 by the template 'for every input the law returns true; each argument reads behind the call as it read before'; 0 by the template 'total and deterministic' (their statements: YtkibdciomheekaaTotals.lean).
  GIVEN WITH THE SEED: the statements are not yours to turn. If you find one false, say at which input.
  Laid BY PROGRAM, IN A SANDBOX (cutbox-rows.mjs): the forced cells as the released guide's own fill.sh prints them over the translation 83ba43bce0b41df9… (all of the seat's roots in one cut). By AI agents, Wed Nov 11 2026. No macro, syntax, notation, axiom, sorry.
-/
import Derived.Test.YtkibdciomheekaaChecked
import GoSem.Claim
import GoSem.ClaimJoined
import GoSem.ClaimMapViews
import Derived.JoinedTies
import Derived.KernelRfl
namespace Go.Proofs.Ytkibdciomheekaa
/- THE CELL 'sum', in the pinned program and in every row, IS THE sha256 OF THE DUMP (.gsa) THAT YtkibdciomheekaaProg.lean LOADS. Nothing in Lean hashes anything: it is a label: what it is worth is what the hold of that sum in a sandbox is worth. -/
noncomputable def Try.pinned : Pinned := { name := "ytkibdciomheekaa", sum := "83ba43bce0b41df914ec56530f5a942ffc2172f72eb084f61482f18a8a82c960", checked := Try.checked }
namespace Rows
def none {H : Type} : Left H := { results := [], args := [] }

/-- 'bolsterlaw01.HeatWays': WHATEVER THE INPUT: true; the input reads as it did. -/
def heatWaysSpec : ChangeSpec := { name := "heatWays", fn := fun _ => fun
  | [d1, d2, d3] => { results := [.lit (.bool true)], args := [d1, d2, d3] }
  | _ => none }
def heatWaysRow : OpenClaim := { program := "ytkibdciomheekaa", sum := "83ba43bce0b41df914ec56530f5a942ffc2172f72eb084f61482f18a8a82c960", func := "bolster/bolsterlaw01.HeatWays", spec := "heatWays", unfollowed := true, recurses := true, plainKeys := false, apart := false }
def HeatWaysSaid : Prop := heatWaysRow.holds Try.pinned (OpenSpec.ofChange heatWaysSpec)

/-- ITS FALSE NEIGHBOUR: 'it returns false'. Refute it at one input. -/
def heatWaysWrong : ChangeSpec := { name := "heatWays", fn := fun _ => fun
  | [d1, d2, d3] => { results := [.lit (.bool false)], args := [d1, d2, d3] }
  | _ => none }
def HeatWaysWrongFalsely : Prop := heatWaysRow.holds Try.pinned (OpenSpec.ofChange heatWaysWrong)

/-- 'bolsterlaw01.HeatRanges': WHATEVER THE INPUT: true; the input reads as it did. -/
def heatRangesSpec : ChangeSpec := { name := "heatRanges", fn := fun _ => fun
  | [d1, d2, d3] => { results := [.lit (.bool true)], args := [d1, d2, d3] }
  | _ => none }
def heatRangesRow : OpenClaim := { program := "ytkibdciomheekaa", sum := "83ba43bce0b41df914ec56530f5a942ffc2172f72eb084f61482f18a8a82c960", func := "bolster/bolsterlaw01.HeatRanges", spec := "heatRanges", unfollowed := true, recurses := true, plainKeys := false, apart := false }
def HeatRangesSaid : Prop := heatRangesRow.holds Try.pinned (OpenSpec.ofChange heatRangesSpec)

/-- ITS FALSE NEIGHBOUR: 'it returns false'. Refute it at one input. -/
def heatRangesWrong : ChangeSpec := { name := "heatRanges", fn := fun _ => fun
  | [d1, d2, d3] => { results := [.lit (.bool false)], args := [d1, d2, d3] }
  | _ => none }
def HeatRangesWrongFalsely : Prop := heatRangesRow.holds Try.pinned (OpenSpec.ofChange heatRangesWrong)

/-- 'bolsterlaw01.HeatHistories': WHATEVER THE INPUT: true; the input reads as it did. -/
def heatHistoriesSpec : ChangeSpec := { name := "heatHistories", fn := fun _ => fun
  | [d1, d2, d3] => { results := [.lit (.bool true)], args := [d1, d2, d3] }
  | _ => none }
def heatHistoriesRow : OpenClaim := { program := "ytkibdciomheekaa", sum := "83ba43bce0b41df914ec56530f5a942ffc2172f72eb084f61482f18a8a82c960", func := "bolster/bolsterlaw01.HeatHistories", spec := "heatHistories", unfollowed := true, recurses := true, plainKeys := false, apart := false }
def HeatHistoriesSaid : Prop := heatHistoriesRow.holds Try.pinned (OpenSpec.ofChange heatHistoriesSpec)

/-- ITS FALSE NEIGHBOUR: 'it returns false'. Refute it at one input. -/
def heatHistoriesWrong : ChangeSpec := { name := "heatHistories", fn := fun _ => fun
  | [d1, d2, d3] => { results := [.lit (.bool false)], args := [d1, d2, d3] }
  | _ => none }
def HeatHistoriesWrongFalsely : Prop := heatHistoriesRow.holds Try.pinned (OpenSpec.ofChange heatHistoriesWrong)

/-- 'bolsterlaw01.HeatMakers': WHATEVER THE INPUT: true; the input reads as it did. -/
def heatMakersSpec : ChangeSpec := { name := "heatMakers", fn := fun _ => fun
  | [d1, d2] => { results := [.lit (.bool true)], args := [d1, d2] }
  | _ => none }
def heatMakersRow : OpenClaim := { program := "ytkibdciomheekaa", sum := "83ba43bce0b41df914ec56530f5a942ffc2172f72eb084f61482f18a8a82c960", func := "bolster/bolsterlaw01.HeatMakers", spec := "heatMakers", unfollowed := true, recurses := true, plainKeys := false, apart := false }
def HeatMakersSaid : Prop := heatMakersRow.holds Try.pinned (OpenSpec.ofChange heatMakersSpec)

/-- ITS FALSE NEIGHBOUR: 'it returns false'. Refute it at one input. -/
def heatMakersWrong : ChangeSpec := { name := "heatMakers", fn := fun _ => fun
  | [d1, d2] => { results := [.lit (.bool false)], args := [d1, d2] }
  | _ => none }
def HeatMakersWrongFalsely : Prop := heatMakersRow.holds Try.pinned (OpenSpec.ofChange heatMakersWrong)

/-- 'bolsterlaw01.HeatAsks': WHATEVER THE INPUT: true; the input reads as it did. -/
def heatAsksSpec : ChangeSpec := { name := "heatAsks", fn := fun _ => fun
  | [d1, d2] => { results := [.lit (.bool true)], args := [d1, d2] }
  | _ => none }
def heatAsksRow : OpenClaim := { program := "ytkibdciomheekaa", sum := "83ba43bce0b41df914ec56530f5a942ffc2172f72eb084f61482f18a8a82c960", func := "bolster/bolsterlaw01.HeatAsks", spec := "heatAsks", unfollowed := true, recurses := true, plainKeys := false, apart := false }
def HeatAsksSaid : Prop := heatAsksRow.holds Try.pinned (OpenSpec.ofChange heatAsksSpec)

/-- ITS FALSE NEIGHBOUR: 'it returns false'. Refute it at one input. -/
def heatAsksWrong : ChangeSpec := { name := "heatAsks", fn := fun _ => fun
  | [d1, d2] => { results := [.lit (.bool false)], args := [d1, d2] }
  | _ => none }
def HeatAsksWrongFalsely : Prop := heatAsksRow.holds Try.pinned (OpenSpec.ofChange heatAsksWrong)

/-- 'bolsterlaw01.HeatReached': WHATEVER THE INPUT: true; the input reads as it did. -/
def heatReachedSpec : ChangeSpec := { name := "heatReached", fn := fun _ => fun
  | [d1, d2, d3, d4] => { results := [.lit (.bool true)], args := [d1, d2, d3, d4] }
  | _ => none }
def heatReachedRow : OpenClaim := { program := "ytkibdciomheekaa", sum := "83ba43bce0b41df914ec56530f5a942ffc2172f72eb084f61482f18a8a82c960", func := "bolster/bolsterlaw01.HeatReached", spec := "heatReached", unfollowed := true, recurses := true, plainKeys := false, apart := false }
def HeatReachedSaid : Prop := heatReachedRow.holds Try.pinned (OpenSpec.ofChange heatReachedSpec)

/-- ITS FALSE NEIGHBOUR: 'it returns false'. Refute it at one input. -/
def heatReachedWrong : ChangeSpec := { name := "heatReached", fn := fun _ => fun
  | [d1, d2, d3, d4] => { results := [.lit (.bool false)], args := [d1, d2, d3, d4] }
  | _ => none }
def HeatReachedWrongFalsely : Prop := heatReachedRow.holds Try.pinned (OpenSpec.ofChange heatReachedWrong)

/-- 'bolsterlaw01.HeatBlamed': WHATEVER THE INPUT: true; the input reads as it did. -/
def heatBlamedSpec : ChangeSpec := { name := "heatBlamed", fn := fun _ => fun
  | [d1, d2, d3, d4] => { results := [.lit (.bool true)], args := [d1, d2, d3, d4] }
  | _ => none }
def heatBlamedRow : OpenClaim := { program := "ytkibdciomheekaa", sum := "83ba43bce0b41df914ec56530f5a942ffc2172f72eb084f61482f18a8a82c960", func := "bolster/bolsterlaw01.HeatBlamed", spec := "heatBlamed", unfollowed := true, recurses := true, plainKeys := false, apart := false }
def HeatBlamedSaid : Prop := heatBlamedRow.holds Try.pinned (OpenSpec.ofChange heatBlamedSpec)

/-- ITS FALSE NEIGHBOUR: 'it returns false'. Refute it at one input. -/
def heatBlamedWrong : ChangeSpec := { name := "heatBlamed", fn := fun _ => fun
  | [d1, d2, d3, d4] => { results := [.lit (.bool false)], args := [d1, d2, d3, d4] }
  | _ => none }
def HeatBlamedWrongFalsely : Prop := heatBlamedRow.holds Try.pinned (OpenSpec.ofChange heatBlamedWrong)

/-- 'bolsterlaw01.HeatNarrower': WHATEVER THE INPUT: true; the input reads as it did. -/
def heatNarrowerSpec : ChangeSpec := { name := "heatNarrower", fn := fun _ => fun
  | [d1, d2, d3, d4] => { results := [.lit (.bool true)], args := [d1, d2, d3, d4] }
  | _ => none }
def heatNarrowerRow : OpenClaim := { program := "ytkibdciomheekaa", sum := "83ba43bce0b41df914ec56530f5a942ffc2172f72eb084f61482f18a8a82c960", func := "bolster/bolsterlaw01.HeatNarrower", spec := "heatNarrower", unfollowed := true, recurses := true, plainKeys := false, apart := false }
def HeatNarrowerSaid : Prop := heatNarrowerRow.holds Try.pinned (OpenSpec.ofChange heatNarrowerSpec)

/-- ITS FALSE NEIGHBOUR: 'it returns false'. Refute it at one input. -/
def heatNarrowerWrong : ChangeSpec := { name := "heatNarrower", fn := fun _ => fun
  | [d1, d2, d3, d4] => { results := [.lit (.bool false)], args := [d1, d2, d3, d4] }
  | _ => none }
def HeatNarrowerWrongFalsely : Prop := heatNarrowerRow.holds Try.pinned (OpenSpec.ofChange heatNarrowerWrong)

/-- 'bolsterlaw01.HeatHarder': WHATEVER THE INPUT: true; the input reads as it did. -/
def heatHarderSpec : ChangeSpec := { name := "heatHarder", fn := fun _ => fun
  | [d1, d2, d3, d4] => { results := [.lit (.bool true)], args := [d1, d2, d3, d4] }
  | _ => none }
def heatHarderRow : OpenClaim := { program := "ytkibdciomheekaa", sum := "83ba43bce0b41df914ec56530f5a942ffc2172f72eb084f61482f18a8a82c960", func := "bolster/bolsterlaw01.HeatHarder", spec := "heatHarder", unfollowed := true, recurses := true, plainKeys := false, apart := false }
def HeatHarderSaid : Prop := heatHarderRow.holds Try.pinned (OpenSpec.ofChange heatHarderSpec)

/-- ITS FALSE NEIGHBOUR: 'it returns false'. Refute it at one input. -/
def heatHarderWrong : ChangeSpec := { name := "heatHarder", fn := fun _ => fun
  | [d1, d2, d3, d4] => { results := [.lit (.bool false)], args := [d1, d2, d3, d4] }
  | _ => none }
def HeatHarderWrongFalsely : Prop := heatHarderRow.holds Try.pinned (OpenSpec.ofChange heatHarderWrong)

/-- 'bolsterlaw01.HeatParted': WHATEVER THE INPUT: true; the input reads as it did. -/
def heatPartedSpec : ChangeSpec := { name := "heatParted", fn := fun _ => fun
  | [d1, d2, d3, d4] => { results := [.lit (.bool true)], args := [d1, d2, d3, d4] }
  | _ => none }
def heatPartedRow : OpenClaim := { program := "ytkibdciomheekaa", sum := "83ba43bce0b41df914ec56530f5a942ffc2172f72eb084f61482f18a8a82c960", func := "bolster/bolsterlaw01.HeatParted", spec := "heatParted", unfollowed := true, recurses := true, plainKeys := false, apart := false }
def HeatPartedSaid : Prop := heatPartedRow.holds Try.pinned (OpenSpec.ofChange heatPartedSpec)

/-- ITS FALSE NEIGHBOUR: 'it returns false'. Refute it at one input. -/
def heatPartedWrong : ChangeSpec := { name := "heatParted", fn := fun _ => fun
  | [d1, d2, d3, d4] => { results := [.lit (.bool false)], args := [d1, d2, d3, d4] }
  | _ => none }
def HeatPartedWrongFalsely : Prop := heatPartedRow.holds Try.pinned (OpenSpec.ofChange heatPartedWrong)

/-- 'bolsterlaw01.HeatKnown': WHATEVER THE INPUT: true; the input reads as it did. -/
def heatKnownSpec : ChangeSpec := { name := "heatKnown", fn := fun _ => fun
  | [] => { results := [.lit (.bool true)], args := [] }
  | _ => none }
def heatKnownRow : OpenClaim := { program := "ytkibdciomheekaa", sum := "83ba43bce0b41df914ec56530f5a942ffc2172f72eb084f61482f18a8a82c960", func := "bolster/bolsterlaw01.HeatKnown", spec := "heatKnown", unfollowed := true, recurses := true, plainKeys := false, apart := false }
def HeatKnownSaid : Prop := heatKnownRow.holds Try.pinned (OpenSpec.ofChange heatKnownSpec)

/-- ITS FALSE NEIGHBOUR: 'it returns false'. Refute it at one input. -/
def heatKnownWrong : ChangeSpec := { name := "heatKnown", fn := fun _ => fun
  | [] => { results := [.lit (.bool false)], args := [] }
  | _ => none }
def HeatKnownWrongFalsely : Prop := heatKnownRow.holds Try.pinned (OpenSpec.ofChange heatKnownWrong)

/- THE SECOND FORM. 'bulk': how many values and letters a reading holds, each counted each time it is reached (what is shared counts as often as it is met; a slice's spare places count too). A statement '..UptoSaid' is the law's where the arguments, and the package variables that the reading takes, are together of bulk at most 1048576: NARROWER than '..Said'. Prove '..Said' where nothing that the law and all that it calls make is longer than what came in: it says more and counts as full. Else prove '..UptoSaid'. A law counts once. -/
mutual
def uptoBulk {H : Type} : DataW H → Nat
  | .lit (.string bytes) => bytes.length + 1
  | .lit _ => 1
  | .nil => 1
  | .ptr d => uptoBulk d + 1
  | .slice elems spare => uptoBulkAll elems + uptoBulkAll spare + 1
  | .agg parts => uptoBulkAll parts + 1
  | .iface _ d => uptoBulk d + 1
  | .map entries => uptoBulkEntries entries + 1
  | .held _ => 1
def uptoBulkAll {H : Type} : List (DataW H) → Nat
  | [] => 0
  | d :: r => uptoBulk d + uptoBulkAll r
def uptoBulkEntries {H : Type} : List (Lit × DataW H) → Nat
  | [] => 0
  | x :: r => uptoBulkEntry x + uptoBulkEntries r
def uptoBulkEntry {H : Type} : Lit × DataW H → Nat
  | (.string bytes, d) => bytes.length + uptoBulk d + 1
  | (_, d) => uptoBulk d + 1
 end
def uptoSmall : (H : Type) → List (DataW H) → Bool := fun _ ds => decide (uptoBulkAll ds ≤ 1048576)
def OpenSpec.upto (s : _root_.Go.ChangeSpec) : _root_.Go.OpenSpec := { _root_.Go.OpenSpec.ofChange s with cond := some uptoSmall }

/-- 'bolsterlaw01.HeatWays', WHERE WHAT IT READS IS OF BULK AT MOST 1048576: true; the input reads as it did. -/
def heatWaysUptoRow : OpenClaim := { program := "ytkibdciomheekaa", sum := "83ba43bce0b41df914ec56530f5a942ffc2172f72eb084f61482f18a8a82c960", func := "bolster/bolsterlaw01.HeatWays", spec := "heatWays", unfollowed := true, recurses := true, plainKeys := false, apart := false, narrowed := true }
def HeatWaysUptoSaid : Prop := heatWaysUptoRow.holds Try.pinned (OpenSpec.upto heatWaysSpec)

/-- 'bolsterlaw01.HeatRanges', WHERE WHAT IT READS IS OF BULK AT MOST 1048576: true; the input reads as it did. -/
def heatRangesUptoRow : OpenClaim := { program := "ytkibdciomheekaa", sum := "83ba43bce0b41df914ec56530f5a942ffc2172f72eb084f61482f18a8a82c960", func := "bolster/bolsterlaw01.HeatRanges", spec := "heatRanges", unfollowed := true, recurses := true, plainKeys := false, apart := false, narrowed := true }
def HeatRangesUptoSaid : Prop := heatRangesUptoRow.holds Try.pinned (OpenSpec.upto heatRangesSpec)

/-- 'bolsterlaw01.HeatHistories', WHERE WHAT IT READS IS OF BULK AT MOST 1048576: true; the input reads as it did. -/
def heatHistoriesUptoRow : OpenClaim := { program := "ytkibdciomheekaa", sum := "83ba43bce0b41df914ec56530f5a942ffc2172f72eb084f61482f18a8a82c960", func := "bolster/bolsterlaw01.HeatHistories", spec := "heatHistories", unfollowed := true, recurses := true, plainKeys := false, apart := false, narrowed := true }
def HeatHistoriesUptoSaid : Prop := heatHistoriesUptoRow.holds Try.pinned (OpenSpec.upto heatHistoriesSpec)

/-- 'bolsterlaw01.HeatMakers', WHERE WHAT IT READS IS OF BULK AT MOST 1048576: true; the input reads as it did. -/
def heatMakersUptoRow : OpenClaim := { program := "ytkibdciomheekaa", sum := "83ba43bce0b41df914ec56530f5a942ffc2172f72eb084f61482f18a8a82c960", func := "bolster/bolsterlaw01.HeatMakers", spec := "heatMakers", unfollowed := true, recurses := true, plainKeys := false, apart := false, narrowed := true }
def HeatMakersUptoSaid : Prop := heatMakersUptoRow.holds Try.pinned (OpenSpec.upto heatMakersSpec)

/-- 'bolsterlaw01.HeatAsks', WHERE WHAT IT READS IS OF BULK AT MOST 1048576: true; the input reads as it did. -/
def heatAsksUptoRow : OpenClaim := { program := "ytkibdciomheekaa", sum := "83ba43bce0b41df914ec56530f5a942ffc2172f72eb084f61482f18a8a82c960", func := "bolster/bolsterlaw01.HeatAsks", spec := "heatAsks", unfollowed := true, recurses := true, plainKeys := false, apart := false, narrowed := true }
def HeatAsksUptoSaid : Prop := heatAsksUptoRow.holds Try.pinned (OpenSpec.upto heatAsksSpec)

/-- 'bolsterlaw01.HeatReached', WHERE WHAT IT READS IS OF BULK AT MOST 1048576: true; the input reads as it did. -/
def heatReachedUptoRow : OpenClaim := { program := "ytkibdciomheekaa", sum := "83ba43bce0b41df914ec56530f5a942ffc2172f72eb084f61482f18a8a82c960", func := "bolster/bolsterlaw01.HeatReached", spec := "heatReached", unfollowed := true, recurses := true, plainKeys := false, apart := false, narrowed := true }
def HeatReachedUptoSaid : Prop := heatReachedUptoRow.holds Try.pinned (OpenSpec.upto heatReachedSpec)

/-- 'bolsterlaw01.HeatBlamed', WHERE WHAT IT READS IS OF BULK AT MOST 1048576: true; the input reads as it did. -/
def heatBlamedUptoRow : OpenClaim := { program := "ytkibdciomheekaa", sum := "83ba43bce0b41df914ec56530f5a942ffc2172f72eb084f61482f18a8a82c960", func := "bolster/bolsterlaw01.HeatBlamed", spec := "heatBlamed", unfollowed := true, recurses := true, plainKeys := false, apart := false, narrowed := true }
def HeatBlamedUptoSaid : Prop := heatBlamedUptoRow.holds Try.pinned (OpenSpec.upto heatBlamedSpec)

/-- 'bolsterlaw01.HeatNarrower', WHERE WHAT IT READS IS OF BULK AT MOST 1048576: true; the input reads as it did. -/
def heatNarrowerUptoRow : OpenClaim := { program := "ytkibdciomheekaa", sum := "83ba43bce0b41df914ec56530f5a942ffc2172f72eb084f61482f18a8a82c960", func := "bolster/bolsterlaw01.HeatNarrower", spec := "heatNarrower", unfollowed := true, recurses := true, plainKeys := false, apart := false, narrowed := true }
def HeatNarrowerUptoSaid : Prop := heatNarrowerUptoRow.holds Try.pinned (OpenSpec.upto heatNarrowerSpec)

/-- 'bolsterlaw01.HeatHarder', WHERE WHAT IT READS IS OF BULK AT MOST 1048576: true; the input reads as it did. -/
def heatHarderUptoRow : OpenClaim := { program := "ytkibdciomheekaa", sum := "83ba43bce0b41df914ec56530f5a942ffc2172f72eb084f61482f18a8a82c960", func := "bolster/bolsterlaw01.HeatHarder", spec := "heatHarder", unfollowed := true, recurses := true, plainKeys := false, apart := false, narrowed := true }
def HeatHarderUptoSaid : Prop := heatHarderUptoRow.holds Try.pinned (OpenSpec.upto heatHarderSpec)

/-- 'bolsterlaw01.HeatParted', WHERE WHAT IT READS IS OF BULK AT MOST 1048576: true; the input reads as it did. -/
def heatPartedUptoRow : OpenClaim := { program := "ytkibdciomheekaa", sum := "83ba43bce0b41df914ec56530f5a942ffc2172f72eb084f61482f18a8a82c960", func := "bolster/bolsterlaw01.HeatParted", spec := "heatParted", unfollowed := true, recurses := true, plainKeys := false, apart := false, narrowed := true }
def HeatPartedUptoSaid : Prop := heatPartedUptoRow.holds Try.pinned (OpenSpec.upto heatPartedSpec)

/-- 'bolsterlaw01.HeatKnown', WHERE WHAT IT READS IS OF BULK AT MOST 1048576: true; the input reads as it did. -/
def heatKnownUptoRow : OpenClaim := { program := "ytkibdciomheekaa", sum := "83ba43bce0b41df914ec56530f5a942ffc2172f72eb084f61482f18a8a82c960", func := "bolster/bolsterlaw01.HeatKnown", spec := "heatKnown", unfollowed := true, recurses := true, plainKeys := false, apart := false, narrowed := true }
def HeatKnownUptoSaid : Prop := heatKnownUptoRow.holds Try.pinned (OpenSpec.upto heatKnownSpec)

end Rows
end Go.Proofs.Ytkibdciomheekaa
