/-
  No cell of these rows narrows 'for every input' (looked for: loops, veiled, ifaces, maps, wideKeys, modest, calm, conditions, laid).
  DERIVED. THE GIVEN ROWS OF THIS SEAT. 19 by the template 'for every input the law returns true; each argument reads behind the call as it read before'; 0 by the template 'total and deterministic' (their statements: YtfhilbhmkifepaaTotals.lean).
  GIVEN WITH THE SEED: the statements are not yours to turn. If you find one false, say at which input.
  Laid BY PROGRAM, IN A SANDBOX (cutbox-rows.mjs): the forced cells as the released guide's own fill.sh prints them over the translation 5f3db4ceb52d4f1e… (all of the seat's roots in one cut). By AI agents, Wed Nov 11 2026. No macro, syntax, notation, axiom, sorry.
-/
import Derived.Test.YtfhilbhmkifepaaChecked
import GoSem.Claim
import GoSem.ClaimJoined
import GoSem.ClaimMapViews
import Derived.JoinedTies
import Derived.KernelRfl
namespace Go.Proofs.Ytfhilbhmkifepaa
/- THE CELL 'sum', in the pinned program and in every row, IS THE sha256 OF THE DUMP (.gsa) THAT YtfhilbhmkifepaaProg.lean LOADS. Nothing in Lean hashes anything: it is a label: what it is worth is what the hold of that sum in a sandbox is worth. -/
noncomputable def Try.pinned : Pinned := { name := "ytfhilbhmkifepaa", sum := "5f3db4ceb52d4f1eb674a3abdd5d70cb23d119bb63177fb8d70d61b37a7e9bce", checked := Try.checked }
namespace Rows
def none {H : Type} : Left H := { results := [], args := [] }

/-- 'hayloftlaw23.GhostRuns': WHATEVER THE INPUT: true; the input reads as it did. -/
def ghostRunsSpec : ChangeSpec := { name := "ghostRuns", fn := fun _ => fun
  | [d1, d2, d3, d4] => { results := [.lit (.bool true)], args := [d1, d2, d3, d4] }
  | _ => none }
def ghostRunsRow : OpenClaim := { program := "ytfhilbhmkifepaa", sum := "5f3db4ceb52d4f1eb674a3abdd5d70cb23d119bb63177fb8d70d61b37a7e9bce", func := "hayloft/hayloftlaw23.GhostRuns", spec := "ghostRuns", unfollowed := true, recurses := true, plainKeys := false, apart := false }
def GhostRunsSaid : Prop := ghostRunsRow.holds Try.pinned (OpenSpec.ofChange ghostRunsSpec)

/-- ITS FALSE NEIGHBOUR: 'it returns false'. Refute it at one input. -/
def ghostRunsWrong : ChangeSpec := { name := "ghostRuns", fn := fun _ => fun
  | [d1, d2, d3, d4] => { results := [.lit (.bool false)], args := [d1, d2, d3, d4] }
  | _ => none }
def GhostRunsWrongFalsely : Prop := ghostRunsRow.holds Try.pinned (OpenSpec.ofChange ghostRunsWrong)

/-- 'hayloftlaw17.RoundsTell': WHATEVER THE INPUT: true; the input reads as it did. -/
def roundsTellSpec : ChangeSpec := { name := "roundsTell", fn := fun _ => fun
  | [d1, d2] => { results := [.lit (.bool true)], args := [d1, d2] }
  | _ => none }
def roundsTellRow : OpenClaim := { program := "ytfhilbhmkifepaa", sum := "5f3db4ceb52d4f1eb674a3abdd5d70cb23d119bb63177fb8d70d61b37a7e9bce", func := "hayloft/hayloftlaw17.RoundsTell", spec := "roundsTell", unfollowed := true, recurses := true, plainKeys := false, apart := false }
def RoundsTellSaid : Prop := roundsTellRow.holds Try.pinned (OpenSpec.ofChange roundsTellSpec)

/-- ITS FALSE NEIGHBOUR: 'it returns false'. Refute it at one input. -/
def roundsTellWrong : ChangeSpec := { name := "roundsTell", fn := fun _ => fun
  | [d1, d2] => { results := [.lit (.bool false)], args := [d1, d2] }
  | _ => none }
def RoundsTellWrongFalsely : Prop := roundsTellRow.holds Try.pinned (OpenSpec.ofChange roundsTellWrong)

/-- 'hayloftlaw17.RoundsParts': WHATEVER THE INPUT: true; the input reads as it did. -/
def roundsPartsSpec : ChangeSpec := { name := "roundsParts", fn := fun _ => fun
  | [d1, d2] => { results := [.lit (.bool true)], args := [d1, d2] }
  | _ => none }
def roundsPartsRow : OpenClaim := { program := "ytfhilbhmkifepaa", sum := "5f3db4ceb52d4f1eb674a3abdd5d70cb23d119bb63177fb8d70d61b37a7e9bce", func := "hayloft/hayloftlaw17.RoundsParts", spec := "roundsParts", unfollowed := true, recurses := true, plainKeys := false, apart := false }
def RoundsPartsSaid : Prop := roundsPartsRow.holds Try.pinned (OpenSpec.ofChange roundsPartsSpec)

/-- ITS FALSE NEIGHBOUR: 'it returns false'. Refute it at one input. -/
def roundsPartsWrong : ChangeSpec := { name := "roundsParts", fn := fun _ => fun
  | [d1, d2] => { results := [.lit (.bool false)], args := [d1, d2] }
  | _ => none }
def RoundsPartsWrongFalsely : Prop := roundsPartsRow.holds Try.pinned (OpenSpec.ofChange roundsPartsWrong)

/-- 'hayloftlaw14.ListTells': WHATEVER THE INPUT: true; the input reads as it did. -/
def listTellsSpec : ChangeSpec := { name := "listTells", fn := fun _ => fun
  | [d1, d2] => { results := [.lit (.bool true)], args := [d1, d2] }
  | _ => none }
def listTellsRow : OpenClaim := { program := "ytfhilbhmkifepaa", sum := "5f3db4ceb52d4f1eb674a3abdd5d70cb23d119bb63177fb8d70d61b37a7e9bce", func := "hayloft/hayloftlaw14.ListTells", spec := "listTells", unfollowed := true, recurses := true, plainKeys := false, apart := false }
def ListTellsSaid : Prop := listTellsRow.holds Try.pinned (OpenSpec.ofChange listTellsSpec)

/-- ITS FALSE NEIGHBOUR: 'it returns false'. Refute it at one input. -/
def listTellsWrong : ChangeSpec := { name := "listTells", fn := fun _ => fun
  | [d1, d2] => { results := [.lit (.bool false)], args := [d1, d2] }
  | _ => none }
def ListTellsWrongFalsely : Prop := listTellsRow.holds Try.pinned (OpenSpec.ofChange listTellsWrong)

/-- 'hayloftlaw14.ListChecks': WHATEVER THE INPUT: true; the input reads as it did. -/
def listChecksSpec : ChangeSpec := { name := "listChecks", fn := fun _ => fun
  | [d1, d2, d3] => { results := [.lit (.bool true)], args := [d1, d2, d3] }
  | _ => none }
def listChecksRow : OpenClaim := { program := "ytfhilbhmkifepaa", sum := "5f3db4ceb52d4f1eb674a3abdd5d70cb23d119bb63177fb8d70d61b37a7e9bce", func := "hayloft/hayloftlaw14.ListChecks", spec := "listChecks", unfollowed := true, recurses := true, plainKeys := false, apart := false }
def ListChecksSaid : Prop := listChecksRow.holds Try.pinned (OpenSpec.ofChange listChecksSpec)

/-- ITS FALSE NEIGHBOUR: 'it returns false'. Refute it at one input. -/
def listChecksWrong : ChangeSpec := { name := "listChecks", fn := fun _ => fun
  | [d1, d2, d3] => { results := [.lit (.bool false)], args := [d1, d2, d3] }
  | _ => none }
def ListChecksWrongFalsely : Prop := listChecksRow.holds Try.pinned (OpenSpec.ofChange listChecksWrong)

/-- 'hayloftlaw14.ListEarly': WHATEVER THE INPUT: true; the input reads as it did. -/
def listEarlySpec : ChangeSpec := { name := "listEarly", fn := fun _ => fun
  | [d1, d2] => { results := [.lit (.bool true)], args := [d1, d2] }
  | _ => none }
def listEarlyRow : OpenClaim := { program := "ytfhilbhmkifepaa", sum := "5f3db4ceb52d4f1eb674a3abdd5d70cb23d119bb63177fb8d70d61b37a7e9bce", func := "hayloft/hayloftlaw14.ListEarly", spec := "listEarly", unfollowed := true, recurses := true, plainKeys := false, apart := false }
def ListEarlySaid : Prop := listEarlyRow.holds Try.pinned (OpenSpec.ofChange listEarlySpec)

/-- ITS FALSE NEIGHBOUR: 'it returns false'. Refute it at one input. -/
def listEarlyWrong : ChangeSpec := { name := "listEarly", fn := fun _ => fun
  | [d1, d2] => { results := [.lit (.bool false)], args := [d1, d2] }
  | _ => none }
def ListEarlyWrongFalsely : Prop := listEarlyRow.holds Try.pinned (OpenSpec.ofChange listEarlyWrong)

/-- 'hayloftlaw14.ListOwn': WHATEVER THE INPUT: true; the input reads as it did. -/
def listOwnSpec : ChangeSpec := { name := "listOwn", fn := fun _ => fun
  | [d1, d2] => { results := [.lit (.bool true)], args := [d1, d2] }
  | _ => none }
def listOwnRow : OpenClaim := { program := "ytfhilbhmkifepaa", sum := "5f3db4ceb52d4f1eb674a3abdd5d70cb23d119bb63177fb8d70d61b37a7e9bce", func := "hayloft/hayloftlaw14.ListOwn", spec := "listOwn", unfollowed := true, recurses := true, plainKeys := false, apart := false }
def ListOwnSaid : Prop := listOwnRow.holds Try.pinned (OpenSpec.ofChange listOwnSpec)

/-- ITS FALSE NEIGHBOUR: 'it returns false'. Refute it at one input. -/
def listOwnWrong : ChangeSpec := { name := "listOwn", fn := fun _ => fun
  | [d1, d2] => { results := [.lit (.bool false)], args := [d1, d2] }
  | _ => none }
def ListOwnWrongFalsely : Prop := listOwnRow.holds Try.pinned (OpenSpec.ofChange listOwnWrong)

/-- 'hayloftlaw07.FlowTells': WHATEVER THE INPUT: true; the input reads as it did. -/
def flowTellsSpec : ChangeSpec := { name := "flowTells", fn := fun _ => fun
  | [d1, d2] => { results := [.lit (.bool true)], args := [d1, d2] }
  | _ => none }
def flowTellsRow : OpenClaim := { program := "ytfhilbhmkifepaa", sum := "5f3db4ceb52d4f1eb674a3abdd5d70cb23d119bb63177fb8d70d61b37a7e9bce", func := "hayloft/hayloftlaw07.FlowTells", spec := "flowTells", unfollowed := true, recurses := true, plainKeys := false, apart := false }
def FlowTellsSaid : Prop := flowTellsRow.holds Try.pinned (OpenSpec.ofChange flowTellsSpec)

/-- ITS FALSE NEIGHBOUR: 'it returns false'. Refute it at one input. -/
def flowTellsWrong : ChangeSpec := { name := "flowTells", fn := fun _ => fun
  | [d1, d2] => { results := [.lit (.bool false)], args := [d1, d2] }
  | _ => none }
def FlowTellsWrongFalsely : Prop := flowTellsRow.holds Try.pinned (OpenSpec.ofChange flowTellsWrong)

/-- 'hayloftlaw07.FlowTurns': WHATEVER THE INPUT: true; the input reads as it did. -/
def flowTurnsSpec : ChangeSpec := { name := "flowTurns", fn := fun _ => fun
  | [d] => { results := [.lit (.bool true)], args := [d] }
  | _ => none }
def flowTurnsRow : OpenClaim := { program := "ytfhilbhmkifepaa", sum := "5f3db4ceb52d4f1eb674a3abdd5d70cb23d119bb63177fb8d70d61b37a7e9bce", func := "hayloft/hayloftlaw07.FlowTurns", spec := "flowTurns", unfollowed := true, recurses := true, plainKeys := false, apart := false }
def FlowTurnsSaid : Prop := flowTurnsRow.holds Try.pinned (OpenSpec.ofChange flowTurnsSpec)

/-- ITS FALSE NEIGHBOUR: 'it returns false'. Refute it at one input. -/
def flowTurnsWrong : ChangeSpec := { name := "flowTurns", fn := fun _ => fun
  | [d] => { results := [.lit (.bool false)], args := [d] }
  | _ => none }
def FlowTurnsWrongFalsely : Prop := flowTurnsRow.holds Try.pinned (OpenSpec.ofChange flowTurnsWrong)

/-- 'hayloftlaw18.DelayOver': WHATEVER THE INPUT: true; the input reads as it did. -/
def delayOverSpec : ChangeSpec := { name := "delayOver", fn := fun _ => fun
  | [d1, d2] => { results := [.lit (.bool true)], args := [d1, d2] }
  | _ => none }
def delayOverRow : OpenClaim := { program := "ytfhilbhmkifepaa", sum := "5f3db4ceb52d4f1eb674a3abdd5d70cb23d119bb63177fb8d70d61b37a7e9bce", func := "hayloft/hayloftlaw18.DelayOver", spec := "delayOver", unfollowed := true, recurses := true, plainKeys := false, apart := false }
def DelayOverSaid : Prop := delayOverRow.holds Try.pinned (OpenSpec.ofChange delayOverSpec)

/-- ITS FALSE NEIGHBOUR: 'it returns false'. Refute it at one input. -/
def delayOverWrong : ChangeSpec := { name := "delayOver", fn := fun _ => fun
  | [d1, d2] => { results := [.lit (.bool false)], args := [d1, d2] }
  | _ => none }
def DelayOverWrongFalsely : Prop := delayOverRow.holds Try.pinned (OpenSpec.ofChange delayOverWrong)

/-- 'hayloftlaw08.LiveTells': WHATEVER THE INPUT: true; the input reads as it did. -/
def liveTellsSpec : ChangeSpec := { name := "liveTells", fn := fun _ => fun
  | [d1, d2, d3] => { results := [.lit (.bool true)], args := [d1, d2, d3] }
  | _ => none }
def liveTellsRow : OpenClaim := { program := "ytfhilbhmkifepaa", sum := "5f3db4ceb52d4f1eb674a3abdd5d70cb23d119bb63177fb8d70d61b37a7e9bce", func := "hayloft/hayloftlaw08.LiveTells", spec := "liveTells", unfollowed := true, recurses := true, plainKeys := false, apart := false }
def LiveTellsSaid : Prop := liveTellsRow.holds Try.pinned (OpenSpec.ofChange liveTellsSpec)

/-- ITS FALSE NEIGHBOUR: 'it returns false'. Refute it at one input. -/
def liveTellsWrong : ChangeSpec := { name := "liveTells", fn := fun _ => fun
  | [d1, d2, d3] => { results := [.lit (.bool false)], args := [d1, d2, d3] }
  | _ => none }
def LiveTellsWrongFalsely : Prop := liveTellsRow.holds Try.pinned (OpenSpec.ofChange liveTellsWrong)

/-- 'hayloftlaw08.LiveMeans': WHATEVER THE INPUT: true; the input reads as it did. -/
def liveMeansSpec : ChangeSpec := { name := "liveMeans", fn := fun _ => fun
  | [d1, d2, d3] => { results := [.lit (.bool true)], args := [d1, d2, d3] }
  | _ => none }
def liveMeansRow : OpenClaim := { program := "ytfhilbhmkifepaa", sum := "5f3db4ceb52d4f1eb674a3abdd5d70cb23d119bb63177fb8d70d61b37a7e9bce", func := "hayloft/hayloftlaw08.LiveMeans", spec := "liveMeans", unfollowed := true, recurses := true, plainKeys := false, apart := false }
def LiveMeansSaid : Prop := liveMeansRow.holds Try.pinned (OpenSpec.ofChange liveMeansSpec)

/-- ITS FALSE NEIGHBOUR: 'it returns false'. Refute it at one input. -/
def liveMeansWrong : ChangeSpec := { name := "liveMeans", fn := fun _ => fun
  | [d1, d2, d3] => { results := [.lit (.bool false)], args := [d1, d2, d3] }
  | _ => none }
def LiveMeansWrongFalsely : Prop := liveMeansRow.holds Try.pinned (OpenSpec.ofChange liveMeansWrong)

/-- 'hayloftlaw08.LiveEnds': WHATEVER THE INPUT: true; the input reads as it did. -/
def liveEndsSpec : ChangeSpec := { name := "liveEnds", fn := fun _ => fun
  | [d1, d2] => { results := [.lit (.bool true)], args := [d1, d2] }
  | _ => none }
def liveEndsRow : OpenClaim := { program := "ytfhilbhmkifepaa", sum := "5f3db4ceb52d4f1eb674a3abdd5d70cb23d119bb63177fb8d70d61b37a7e9bce", func := "hayloft/hayloftlaw08.LiveEnds", spec := "liveEnds", unfollowed := true, recurses := true, plainKeys := false, apart := false }
def LiveEndsSaid : Prop := liveEndsRow.holds Try.pinned (OpenSpec.ofChange liveEndsSpec)

/-- ITS FALSE NEIGHBOUR: 'it returns false'. Refute it at one input. -/
def liveEndsWrong : ChangeSpec := { name := "liveEnds", fn := fun _ => fun
  | [d1, d2] => { results := [.lit (.bool false)], args := [d1, d2] }
  | _ => none }
def LiveEndsWrongFalsely : Prop := liveEndsRow.holds Try.pinned (OpenSpec.ofChange liveEndsWrong)

/-- 'hayloftlaw25.BetterTells': WHATEVER THE INPUT: true; the input reads as it did. -/
def betterTellsSpec : ChangeSpec := { name := "betterTells", fn := fun _ => fun
  | [d] => { results := [.lit (.bool true)], args := [d] }
  | _ => none }
def betterTellsRow : OpenClaim := { program := "ytfhilbhmkifepaa", sum := "5f3db4ceb52d4f1eb674a3abdd5d70cb23d119bb63177fb8d70d61b37a7e9bce", func := "hayloft/hayloftlaw25.BetterTells", spec := "betterTells", unfollowed := true, recurses := true, plainKeys := false, apart := false }
def BetterTellsSaid : Prop := betterTellsRow.holds Try.pinned (OpenSpec.ofChange betterTellsSpec)

/-- ITS FALSE NEIGHBOUR: 'it returns false'. Refute it at one input. -/
def betterTellsWrong : ChangeSpec := { name := "betterTells", fn := fun _ => fun
  | [d] => { results := [.lit (.bool false)], args := [d] }
  | _ => none }
def BetterTellsWrongFalsely : Prop := betterTellsRow.holds Try.pinned (OpenSpec.ofChange betterTellsWrong)

/-- 'hayloftlaw16.ModuloThere': WHATEVER THE INPUT: true; the input reads as it did. -/
def moduloThereSpec : ChangeSpec := { name := "moduloThere", fn := fun _ => fun
  | [d1, d2] => { results := [.lit (.bool true)], args := [d1, d2] }
  | _ => none }
def moduloThereRow : OpenClaim := { program := "ytfhilbhmkifepaa", sum := "5f3db4ceb52d4f1eb674a3abdd5d70cb23d119bb63177fb8d70d61b37a7e9bce", func := "hayloft/hayloftlaw16.ModuloThere", spec := "moduloThere", unfollowed := true, recurses := true, plainKeys := false, apart := false }
def ModuloThereSaid : Prop := moduloThereRow.holds Try.pinned (OpenSpec.ofChange moduloThereSpec)

/-- ITS FALSE NEIGHBOUR: 'it returns false'. Refute it at one input. -/
def moduloThereWrong : ChangeSpec := { name := "moduloThere", fn := fun _ => fun
  | [d1, d2] => { results := [.lit (.bool false)], args := [d1, d2] }
  | _ => none }
def ModuloThereWrongFalsely : Prop := moduloThereRow.holds Try.pinned (OpenSpec.ofChange moduloThereWrong)

/-- 'hayloftlaw16.ModuloRounds': WHATEVER THE INPUT: true; the input reads as it did. -/
def moduloRoundsSpec : ChangeSpec := { name := "moduloRounds", fn := fun _ => fun
  | [d1, d2, d3, d4] => { results := [.lit (.bool true)], args := [d1, d2, d3, d4] }
  | _ => none }
def moduloRoundsRow : OpenClaim := { program := "ytfhilbhmkifepaa", sum := "5f3db4ceb52d4f1eb674a3abdd5d70cb23d119bb63177fb8d70d61b37a7e9bce", func := "hayloft/hayloftlaw16.ModuloRounds", spec := "moduloRounds", unfollowed := true, recurses := true, plainKeys := false, apart := false }
def ModuloRoundsSaid : Prop := moduloRoundsRow.holds Try.pinned (OpenSpec.ofChange moduloRoundsSpec)

/-- ITS FALSE NEIGHBOUR: 'it returns false'. Refute it at one input. -/
def moduloRoundsWrong : ChangeSpec := { name := "moduloRounds", fn := fun _ => fun
  | [d1, d2, d3, d4] => { results := [.lit (.bool false)], args := [d1, d2, d3, d4] }
  | _ => none }
def ModuloRoundsWrongFalsely : Prop := moduloRoundsRow.holds Try.pinned (OpenSpec.ofChange moduloRoundsWrong)

/-- 'hayloftlaw16.ModuloLeast': WHATEVER THE INPUT: true; the input reads as it did. -/
def moduloLeastSpec : ChangeSpec := { name := "moduloLeast", fn := fun _ => fun
  | [d1, d2, d3] => { results := [.lit (.bool true)], args := [d1, d2, d3] }
  | _ => none }
def moduloLeastRow : OpenClaim := { program := "ytfhilbhmkifepaa", sum := "5f3db4ceb52d4f1eb674a3abdd5d70cb23d119bb63177fb8d70d61b37a7e9bce", func := "hayloft/hayloftlaw16.ModuloLeast", spec := "moduloLeast", unfollowed := true, recurses := true, plainKeys := false, apart := false }
def ModuloLeastSaid : Prop := moduloLeastRow.holds Try.pinned (OpenSpec.ofChange moduloLeastSpec)

/-- ITS FALSE NEIGHBOUR: 'it returns false'. Refute it at one input. -/
def moduloLeastWrong : ChangeSpec := { name := "moduloLeast", fn := fun _ => fun
  | [d1, d2, d3] => { results := [.lit (.bool false)], args := [d1, d2, d3] }
  | _ => none }
def ModuloLeastWrongFalsely : Prop := moduloLeastRow.holds Try.pinned (OpenSpec.ofChange moduloLeastWrong)

/-- 'hayloftlaw18.DelayEarly': WHATEVER THE INPUT: true; the input reads as it did. -/
def delayEarlySpec : ChangeSpec := { name := "delayEarly", fn := fun _ => fun
  | [d1, d2] => { results := [.lit (.bool true)], args := [d1, d2] }
  | _ => none }
def delayEarlyRow : OpenClaim := { program := "ytfhilbhmkifepaa", sum := "5f3db4ceb52d4f1eb674a3abdd5d70cb23d119bb63177fb8d70d61b37a7e9bce", func := "hayloft/hayloftlaw18.DelayEarly", spec := "delayEarly", unfollowed := true, recurses := true, plainKeys := false, apart := false }
def DelayEarlySaid : Prop := delayEarlyRow.holds Try.pinned (OpenSpec.ofChange delayEarlySpec)

/-- ITS FALSE NEIGHBOUR: 'it returns false'. Refute it at one input. -/
def delayEarlyWrong : ChangeSpec := { name := "delayEarly", fn := fun _ => fun
  | [d1, d2] => { results := [.lit (.bool false)], args := [d1, d2] }
  | _ => none }
def DelayEarlyWrongFalsely : Prop := delayEarlyRow.holds Try.pinned (OpenSpec.ofChange delayEarlyWrong)

/-- 'hayloftlaw18.DelaySafe': WHATEVER THE INPUT: true; the input reads as it did. -/
def delaySafeSpec : ChangeSpec := { name := "delaySafe", fn := fun _ => fun
  | [d1, d2, d3, d4] => { results := [.lit (.bool true)], args := [d1, d2, d3, d4] }
  | _ => none }
def delaySafeRow : OpenClaim := { program := "ytfhilbhmkifepaa", sum := "5f3db4ceb52d4f1eb674a3abdd5d70cb23d119bb63177fb8d70d61b37a7e9bce", func := "hayloft/hayloftlaw18.DelaySafe", spec := "delaySafe", unfollowed := true, recurses := true, plainKeys := false, apart := false }
def DelaySafeSaid : Prop := delaySafeRow.holds Try.pinned (OpenSpec.ofChange delaySafeSpec)

/-- ITS FALSE NEIGHBOUR: 'it returns false'. Refute it at one input. -/
def delaySafeWrong : ChangeSpec := { name := "delaySafe", fn := fun _ => fun
  | [d1, d2, d3, d4] => { results := [.lit (.bool false)], args := [d1, d2, d3, d4] }
  | _ => none }
def DelaySafeWrongFalsely : Prop := delaySafeRow.holds Try.pinned (OpenSpec.ofChange delaySafeWrong)

/- THE SECOND FORM. 'bulk': how many values and letters a reading holds, each counted each time it is reached (what is shared counts as often as it is met; a slice's spare places count too). A statement '..UptoSaid' is the law's where the arguments, and the package variables that the reading takes, are together of bulk at most 1048576: NARROWER than '..Said'. Prove '..Said' where nothing that the law and all that it calls make is longer than what came in: it says more and counts as full. Else prove '..UptoSaid'. A law counts once. -/
mutual
def uptoBulk {H : Type} : DataW H → Nat
  | .lit (.string bytes) => bytes.length + 1
  | .lit _ => 1
  | .nil => 1
  | .ptr d => uptoBulk d + 1
  | .slice elems spare => uptoBulkAll elems + uptoBulkAll spare + 1
  | .agg parts => uptoBulkAll parts + 1
  | .iface _ d => uptoBulk d + 1
  | .map entries => uptoBulkEntries entries + 1
  | .held _ => 1
def uptoBulkAll {H : Type} : List (DataW H) → Nat
  | [] => 0
  | d :: r => uptoBulk d + uptoBulkAll r
def uptoBulkEntries {H : Type} : List (Lit × DataW H) → Nat
  | [] => 0
  | x :: r => uptoBulkEntry x + uptoBulkEntries r
def uptoBulkEntry {H : Type} : Lit × DataW H → Nat
  | (.string bytes, d) => bytes.length + uptoBulk d + 1
  | (_, d) => uptoBulk d + 1
 end
def uptoSmall : (H : Type) → List (DataW H) → Bool := fun _ ds => decide (uptoBulkAll ds ≤ 1048576)
def OpenSpec.upto (s : _root_.Go.ChangeSpec) : _root_.Go.OpenSpec := { _root_.Go.OpenSpec.ofChange s with cond := some uptoSmall }

/-- 'hayloftlaw23.GhostRuns', WHERE WHAT IT READS IS OF BULK AT MOST 1048576: true; the input reads as it did. -/
def ghostRunsUptoRow : OpenClaim := { program := "ytfhilbhmkifepaa", sum := "5f3db4ceb52d4f1eb674a3abdd5d70cb23d119bb63177fb8d70d61b37a7e9bce", func := "hayloft/hayloftlaw23.GhostRuns", spec := "ghostRuns", unfollowed := true, recurses := true, plainKeys := false, apart := false, narrowed := true }
def GhostRunsUptoSaid : Prop := ghostRunsUptoRow.holds Try.pinned (OpenSpec.upto ghostRunsSpec)

/-- 'hayloftlaw17.RoundsTell', WHERE WHAT IT READS IS OF BULK AT MOST 1048576: true; the input reads as it did. -/
def roundsTellUptoRow : OpenClaim := { program := "ytfhilbhmkifepaa", sum := "5f3db4ceb52d4f1eb674a3abdd5d70cb23d119bb63177fb8d70d61b37a7e9bce", func := "hayloft/hayloftlaw17.RoundsTell", spec := "roundsTell", unfollowed := true, recurses := true, plainKeys := false, apart := false, narrowed := true }
def RoundsTellUptoSaid : Prop := roundsTellUptoRow.holds Try.pinned (OpenSpec.upto roundsTellSpec)

/-- 'hayloftlaw17.RoundsParts', WHERE WHAT IT READS IS OF BULK AT MOST 1048576: true; the input reads as it did. -/
def roundsPartsUptoRow : OpenClaim := { program := "ytfhilbhmkifepaa", sum := "5f3db4ceb52d4f1eb674a3abdd5d70cb23d119bb63177fb8d70d61b37a7e9bce", func := "hayloft/hayloftlaw17.RoundsParts", spec := "roundsParts", unfollowed := true, recurses := true, plainKeys := false, apart := false, narrowed := true }
def RoundsPartsUptoSaid : Prop := roundsPartsUptoRow.holds Try.pinned (OpenSpec.upto roundsPartsSpec)

/-- 'hayloftlaw14.ListTells', WHERE WHAT IT READS IS OF BULK AT MOST 1048576: true; the input reads as it did. -/
def listTellsUptoRow : OpenClaim := { program := "ytfhilbhmkifepaa", sum := "5f3db4ceb52d4f1eb674a3abdd5d70cb23d119bb63177fb8d70d61b37a7e9bce", func := "hayloft/hayloftlaw14.ListTells", spec := "listTells", unfollowed := true, recurses := true, plainKeys := false, apart := false, narrowed := true }
def ListTellsUptoSaid : Prop := listTellsUptoRow.holds Try.pinned (OpenSpec.upto listTellsSpec)

/-- 'hayloftlaw14.ListChecks', WHERE WHAT IT READS IS OF BULK AT MOST 1048576: true; the input reads as it did. -/
def listChecksUptoRow : OpenClaim := { program := "ytfhilbhmkifepaa", sum := "5f3db4ceb52d4f1eb674a3abdd5d70cb23d119bb63177fb8d70d61b37a7e9bce", func := "hayloft/hayloftlaw14.ListChecks", spec := "listChecks", unfollowed := true, recurses := true, plainKeys := false, apart := false, narrowed := true }
def ListChecksUptoSaid : Prop := listChecksUptoRow.holds Try.pinned (OpenSpec.upto listChecksSpec)

/-- 'hayloftlaw14.ListEarly', WHERE WHAT IT READS IS OF BULK AT MOST 1048576: true; the input reads as it did. -/
def listEarlyUptoRow : OpenClaim := { program := "ytfhilbhmkifepaa", sum := "5f3db4ceb52d4f1eb674a3abdd5d70cb23d119bb63177fb8d70d61b37a7e9bce", func := "hayloft/hayloftlaw14.ListEarly", spec := "listEarly", unfollowed := true, recurses := true, plainKeys := false, apart := false, narrowed := true }
def ListEarlyUptoSaid : Prop := listEarlyUptoRow.holds Try.pinned (OpenSpec.upto listEarlySpec)

/-- 'hayloftlaw14.ListOwn', WHERE WHAT IT READS IS OF BULK AT MOST 1048576: true; the input reads as it did. -/
def listOwnUptoRow : OpenClaim := { program := "ytfhilbhmkifepaa", sum := "5f3db4ceb52d4f1eb674a3abdd5d70cb23d119bb63177fb8d70d61b37a7e9bce", func := "hayloft/hayloftlaw14.ListOwn", spec := "listOwn", unfollowed := true, recurses := true, plainKeys := false, apart := false, narrowed := true }
def ListOwnUptoSaid : Prop := listOwnUptoRow.holds Try.pinned (OpenSpec.upto listOwnSpec)

/-- 'hayloftlaw07.FlowTells', WHERE WHAT IT READS IS OF BULK AT MOST 1048576: true; the input reads as it did. -/
def flowTellsUptoRow : OpenClaim := { program := "ytfhilbhmkifepaa", sum := "5f3db4ceb52d4f1eb674a3abdd5d70cb23d119bb63177fb8d70d61b37a7e9bce", func := "hayloft/hayloftlaw07.FlowTells", spec := "flowTells", unfollowed := true, recurses := true, plainKeys := false, apart := false, narrowed := true }
def FlowTellsUptoSaid : Prop := flowTellsUptoRow.holds Try.pinned (OpenSpec.upto flowTellsSpec)

/-- 'hayloftlaw07.FlowTurns', WHERE WHAT IT READS IS OF BULK AT MOST 1048576: true; the input reads as it did. -/
def flowTurnsUptoRow : OpenClaim := { program := "ytfhilbhmkifepaa", sum := "5f3db4ceb52d4f1eb674a3abdd5d70cb23d119bb63177fb8d70d61b37a7e9bce", func := "hayloft/hayloftlaw07.FlowTurns", spec := "flowTurns", unfollowed := true, recurses := true, plainKeys := false, apart := false, narrowed := true }
def FlowTurnsUptoSaid : Prop := flowTurnsUptoRow.holds Try.pinned (OpenSpec.upto flowTurnsSpec)

/-- 'hayloftlaw18.DelayOver', WHERE WHAT IT READS IS OF BULK AT MOST 1048576: true; the input reads as it did. -/
def delayOverUptoRow : OpenClaim := { program := "ytfhilbhmkifepaa", sum := "5f3db4ceb52d4f1eb674a3abdd5d70cb23d119bb63177fb8d70d61b37a7e9bce", func := "hayloft/hayloftlaw18.DelayOver", spec := "delayOver", unfollowed := true, recurses := true, plainKeys := false, apart := false, narrowed := true }
def DelayOverUptoSaid : Prop := delayOverUptoRow.holds Try.pinned (OpenSpec.upto delayOverSpec)

/-- 'hayloftlaw08.LiveTells', WHERE WHAT IT READS IS OF BULK AT MOST 1048576: true; the input reads as it did. -/
def liveTellsUptoRow : OpenClaim := { program := "ytfhilbhmkifepaa", sum := "5f3db4ceb52d4f1eb674a3abdd5d70cb23d119bb63177fb8d70d61b37a7e9bce", func := "hayloft/hayloftlaw08.LiveTells", spec := "liveTells", unfollowed := true, recurses := true, plainKeys := false, apart := false, narrowed := true }
def LiveTellsUptoSaid : Prop := liveTellsUptoRow.holds Try.pinned (OpenSpec.upto liveTellsSpec)

/-- 'hayloftlaw08.LiveMeans', WHERE WHAT IT READS IS OF BULK AT MOST 1048576: true; the input reads as it did. -/
def liveMeansUptoRow : OpenClaim := { program := "ytfhilbhmkifepaa", sum := "5f3db4ceb52d4f1eb674a3abdd5d70cb23d119bb63177fb8d70d61b37a7e9bce", func := "hayloft/hayloftlaw08.LiveMeans", spec := "liveMeans", unfollowed := true, recurses := true, plainKeys := false, apart := false, narrowed := true }
def LiveMeansUptoSaid : Prop := liveMeansUptoRow.holds Try.pinned (OpenSpec.upto liveMeansSpec)

/-- 'hayloftlaw08.LiveEnds', WHERE WHAT IT READS IS OF BULK AT MOST 1048576: true; the input reads as it did. -/
def liveEndsUptoRow : OpenClaim := { program := "ytfhilbhmkifepaa", sum := "5f3db4ceb52d4f1eb674a3abdd5d70cb23d119bb63177fb8d70d61b37a7e9bce", func := "hayloft/hayloftlaw08.LiveEnds", spec := "liveEnds", unfollowed := true, recurses := true, plainKeys := false, apart := false, narrowed := true }
def LiveEndsUptoSaid : Prop := liveEndsUptoRow.holds Try.pinned (OpenSpec.upto liveEndsSpec)

/-- 'hayloftlaw25.BetterTells', WHERE WHAT IT READS IS OF BULK AT MOST 1048576: true; the input reads as it did. -/
def betterTellsUptoRow : OpenClaim := { program := "ytfhilbhmkifepaa", sum := "5f3db4ceb52d4f1eb674a3abdd5d70cb23d119bb63177fb8d70d61b37a7e9bce", func := "hayloft/hayloftlaw25.BetterTells", spec := "betterTells", unfollowed := true, recurses := true, plainKeys := false, apart := false, narrowed := true }
def BetterTellsUptoSaid : Prop := betterTellsUptoRow.holds Try.pinned (OpenSpec.upto betterTellsSpec)

/-- 'hayloftlaw16.ModuloThere', WHERE WHAT IT READS IS OF BULK AT MOST 1048576: true; the input reads as it did. -/
def moduloThereUptoRow : OpenClaim := { program := "ytfhilbhmkifepaa", sum := "5f3db4ceb52d4f1eb674a3abdd5d70cb23d119bb63177fb8d70d61b37a7e9bce", func := "hayloft/hayloftlaw16.ModuloThere", spec := "moduloThere", unfollowed := true, recurses := true, plainKeys := false, apart := false, narrowed := true }
def ModuloThereUptoSaid : Prop := moduloThereUptoRow.holds Try.pinned (OpenSpec.upto moduloThereSpec)

/-- 'hayloftlaw16.ModuloRounds', WHERE WHAT IT READS IS OF BULK AT MOST 1048576: true; the input reads as it did. -/
def moduloRoundsUptoRow : OpenClaim := { program := "ytfhilbhmkifepaa", sum := "5f3db4ceb52d4f1eb674a3abdd5d70cb23d119bb63177fb8d70d61b37a7e9bce", func := "hayloft/hayloftlaw16.ModuloRounds", spec := "moduloRounds", unfollowed := true, recurses := true, plainKeys := false, apart := false, narrowed := true }
def ModuloRoundsUptoSaid : Prop := moduloRoundsUptoRow.holds Try.pinned (OpenSpec.upto moduloRoundsSpec)

/-- 'hayloftlaw16.ModuloLeast', WHERE WHAT IT READS IS OF BULK AT MOST 1048576: true; the input reads as it did. -/
def moduloLeastUptoRow : OpenClaim := { program := "ytfhilbhmkifepaa", sum := "5f3db4ceb52d4f1eb674a3abdd5d70cb23d119bb63177fb8d70d61b37a7e9bce", func := "hayloft/hayloftlaw16.ModuloLeast", spec := "moduloLeast", unfollowed := true, recurses := true, plainKeys := false, apart := false, narrowed := true }
def ModuloLeastUptoSaid : Prop := moduloLeastUptoRow.holds Try.pinned (OpenSpec.upto moduloLeastSpec)

/-- 'hayloftlaw18.DelayEarly', WHERE WHAT IT READS IS OF BULK AT MOST 1048576: true; the input reads as it did. -/
def delayEarlyUptoRow : OpenClaim := { program := "ytfhilbhmkifepaa", sum := "5f3db4ceb52d4f1eb674a3abdd5d70cb23d119bb63177fb8d70d61b37a7e9bce", func := "hayloft/hayloftlaw18.DelayEarly", spec := "delayEarly", unfollowed := true, recurses := true, plainKeys := false, apart := false, narrowed := true }
def DelayEarlyUptoSaid : Prop := delayEarlyUptoRow.holds Try.pinned (OpenSpec.upto delayEarlySpec)

/-- 'hayloftlaw18.DelaySafe', WHERE WHAT IT READS IS OF BULK AT MOST 1048576: true; the input reads as it did. -/
def delaySafeUptoRow : OpenClaim := { program := "ytfhilbhmkifepaa", sum := "5f3db4ceb52d4f1eb674a3abdd5d70cb23d119bb63177fb8d70d61b37a7e9bce", func := "hayloft/hayloftlaw18.DelaySafe", spec := "delaySafe", unfollowed := true, recurses := true, plainKeys := false, apart := false, narrowed := true }
def DelaySafeUptoSaid : Prop := delaySafeUptoRow.holds Try.pinned (OpenSpec.upto delaySafeSpec)

end Rows
end Go.Proofs.Ytfhilbhmkifepaa
