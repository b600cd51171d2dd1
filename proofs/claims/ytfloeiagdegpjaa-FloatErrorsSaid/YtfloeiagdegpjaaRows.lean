/-
  No cell of these rows narrows 'for every input' (looked for: loops, veiled, ifaces, maps, wideKeys, modest, calm, conditions, laid).
  DERIVED. THE GIVEN ROWS OF THIS SEAT. 13 by the template 'for every input the law returns true; each argument reads behind the call as it read before'; 0 by the template 'total and deterministic' (their statements: YtfloeiagdegpjaaTotals.lean).
  GIVEN WITH THE SEED: the statements are not yours to turn. If you find one false, say at which input.
  Laid BY PROGRAM, IN A SANDBOX (cutbox-rows.mjs): the forced cells as the released guide's own fill.sh prints them over the translation de8613ccaef14a9f… (all of the seat's roots in one cut). By AI agents, Wed Nov 11 2026. No macro, syntax, notation, axiom, sorry.
-/
import Derived.Test.YtfloeiagdegpjaaChecked
import GoSem.Claim
import GoSem.ClaimJoined
import GoSem.ClaimMapViews
import Derived.JoinedTies
import Derived.KernelRfl
namespace Go.Proofs.Ytfloeiagdegpjaa
/- THE CELL 'sum', in the pinned program and in every row, IS THE sha256 OF THE DUMP (.gsa) THAT YtfloeiagdegpjaaProg.lean LOADS. Nothing in Lean hashes anything: it is a label: what it is worth is what the hold of that sum in a sandbox is worth. -/
noncomputable def Try.pinned : Pinned := { name := "ytfloeiagdegpjaa", sum := "de8613ccaef14a9f1ecd991a36d0cf9bc06399e7dee354119ef4397ac9a1b6a5", checked := Try.checked }
namespace Rows
def none {H : Type} : Left H := { results := [], args := [] }

/-- 'fathomlaw3.FloatNearest': WHATEVER THE INPUT: true; the input reads as it did. -/
def floatNearestSpec : ChangeSpec := { name := "floatNearest", fn := fun _ => fun
  | [d] => { results := [.lit (.bool true)], args := [d] }
  | _ => none }
def floatNearestRow : OpenClaim := { program := "ytfloeiagdegpjaa", sum := "de8613ccaef14a9f1ecd991a36d0cf9bc06399e7dee354119ef4397ac9a1b6a5", func := "fathom/fathomlaw3.FloatNearest", spec := "floatNearest", inPlace := ["math.Float64frombits", "math.Float32bits", "math.RoundToEven", "math.Float64bits", "math.archTrunc", "math.archFloor", "math.archCeil", "math.Float32frombits"], unfollowed := true, recurses := true, apart := false }
def FloatNearestSaid : Prop := floatNearestRow.holds Try.pinned (OpenSpec.ofChange floatNearestSpec)

/-- ITS FALSE NEIGHBOUR: 'it returns false'. Refute it at one input. -/
def floatNearestWrong : ChangeSpec := { name := "floatNearest", fn := fun _ => fun
  | [d] => { results := [.lit (.bool false)], args := [d] }
  | _ => none }
def FloatNearestWrongFalsely : Prop := floatNearestRow.holds Try.pinned (OpenSpec.ofChange floatNearestWrong)

/-- 'fathomlaw3.FloatQuotients': WHATEVER THE INPUT: true; the input reads as it did. -/
def floatQuotientsSpec : ChangeSpec := { name := "floatQuotients", fn := fun _ => fun
  | [d] => { results := [.lit (.bool true)], args := [d] }
  | _ => none }
def floatQuotientsRow : OpenClaim := { program := "ytfloeiagdegpjaa", sum := "de8613ccaef14a9f1ecd991a36d0cf9bc06399e7dee354119ef4397ac9a1b6a5", func := "fathom/fathomlaw3.FloatQuotients", spec := "floatQuotients", inPlace := ["math.Float64frombits", "math.Float64bits", "math.Float32frombits", "math.Float32bits", "math.RoundToEven", "math.archTrunc", "math.archFloor", "math.archCeil"], unfollowed := true, recurses := true, apart := false }
def FloatQuotientsSaid : Prop := floatQuotientsRow.holds Try.pinned (OpenSpec.ofChange floatQuotientsSpec)

/-- ITS FALSE NEIGHBOUR: 'it returns false'. Refute it at one input. -/
def floatQuotientsWrong : ChangeSpec := { name := "floatQuotients", fn := fun _ => fun
  | [d] => { results := [.lit (.bool false)], args := [d] }
  | _ => none }
def FloatQuotientsWrongFalsely : Prop := floatQuotientsRow.holds Try.pinned (OpenSpec.ofChange floatQuotientsWrong)

/-- 'fathomlaw3.FloatWhole': WHATEVER THE INPUT: true; the input reads as it did. -/
def floatWholeSpec : ChangeSpec := { name := "floatWhole", fn := fun _ => fun
  | [d] => { results := [.lit (.bool true)], args := [d] }
  | _ => none }
def floatWholeRow : OpenClaim := { program := "ytfloeiagdegpjaa", sum := "de8613ccaef14a9f1ecd991a36d0cf9bc06399e7dee354119ef4397ac9a1b6a5", func := "fathom/fathomlaw3.FloatWhole", spec := "floatWhole", inPlace := ["math.Float64bits", "math.Float32bits", "math.Float64frombits", "math.RoundToEven", "math.archTrunc", "math.archFloor", "math.archCeil", "math.Float32frombits"], unfollowed := true, recurses := true, apart := false }
def FloatWholeSaid : Prop := floatWholeRow.holds Try.pinned (OpenSpec.ofChange floatWholeSpec)

/-- ITS FALSE NEIGHBOUR: 'it returns false'. Refute it at one input. -/
def floatWholeWrong : ChangeSpec := { name := "floatWhole", fn := fun _ => fun
  | [d] => { results := [.lit (.bool false)], args := [d] }
  | _ => none }
def FloatWholeWrongFalsely : Prop := floatWholeRow.holds Try.pinned (OpenSpec.ofChange floatWholeWrong)

/-- 'fathomlaw3.FloatNarrow': WHATEVER THE INPUT: true; the input reads as it did. -/
def floatNarrowSpec : ChangeSpec := { name := "floatNarrow", fn := fun _ => fun
  | [d] => { results := [.lit (.bool true)], args := [d] }
  | _ => none }
def floatNarrowRow : OpenClaim := { program := "ytfloeiagdegpjaa", sum := "de8613ccaef14a9f1ecd991a36d0cf9bc06399e7dee354119ef4397ac9a1b6a5", func := "fathom/fathomlaw3.FloatNarrow", spec := "floatNarrow", inPlace := ["math.Float64frombits", "math.Float32bits", "math.Float32frombits", "math.Float64bits", "math.RoundToEven", "math.archTrunc", "math.archFloor", "math.archCeil"], unfollowed := true, recurses := true, apart := false }
def FloatNarrowSaid : Prop := floatNarrowRow.holds Try.pinned (OpenSpec.ofChange floatNarrowSpec)

/-- ITS FALSE NEIGHBOUR: 'it returns false'. Refute it at one input. -/
def floatNarrowWrong : ChangeSpec := { name := "floatNarrow", fn := fun _ => fun
  | [d] => { results := [.lit (.bool false)], args := [d] }
  | _ => none }
def FloatNarrowWrongFalsely : Prop := floatNarrowRow.holds Try.pinned (OpenSpec.ofChange floatNarrowWrong)

/-- 'fathomlaw3.FloatPairs': WHATEVER THE INPUT: true; the input reads as it did. -/
def floatPairsSpec : ChangeSpec := { name := "floatPairs", fn := fun _ => fun
  | [d] => { results := [.lit (.bool true)], args := [d] }
  | _ => none }
def floatPairsRow : OpenClaim := { program := "ytfloeiagdegpjaa", sum := "de8613ccaef14a9f1ecd991a36d0cf9bc06399e7dee354119ef4397ac9a1b6a5", func := "fathom/fathomlaw3.FloatPairs", spec := "floatPairs", inPlace := ["math.Float64frombits", "math.Float32frombits", "math.RoundToEven", "math.Float64bits", "math.archTrunc", "math.archFloor", "math.archCeil", "math.Float32bits"], unfollowed := true, recurses := true, apart := false }
def FloatPairsSaid : Prop := floatPairsRow.holds Try.pinned (OpenSpec.ofChange floatPairsSpec)

/-- ITS FALSE NEIGHBOUR: 'it returns false'. Refute it at one input. -/
def floatPairsWrong : ChangeSpec := { name := "floatPairs", fn := fun _ => fun
  | [d] => { results := [.lit (.bool false)], args := [d] }
  | _ => none }
def FloatPairsWrongFalsely : Prop := floatPairsRow.holds Try.pinned (OpenSpec.ofChange floatPairsWrong)

/-- 'fathomlaw3.FloatOrder': WHATEVER THE INPUT: true; the input reads as it did. -/
def floatOrderSpec : ChangeSpec := { name := "floatOrder", fn := fun _ => fun
  | [d] => { results := [.lit (.bool true)], args := [d] }
  | _ => none }
def floatOrderRow : OpenClaim := { program := "ytfloeiagdegpjaa", sum := "de8613ccaef14a9f1ecd991a36d0cf9bc06399e7dee354119ef4397ac9a1b6a5", func := "fathom/fathomlaw3.FloatOrder", spec := "floatOrder", inPlace := ["math.Float64frombits", "math.RoundToEven", "math.Float64bits", "math.archTrunc", "math.archFloor", "math.archCeil", "math.Float32frombits", "math.Float32bits"], unfollowed := true, recurses := true, apart := false }
def FloatOrderSaid : Prop := floatOrderRow.holds Try.pinned (OpenSpec.ofChange floatOrderSpec)

/-- ITS FALSE NEIGHBOUR: 'it returns false'. Refute it at one input. -/
def floatOrderWrong : ChangeSpec := { name := "floatOrder", fn := fun _ => fun
  | [d] => { results := [.lit (.bool false)], args := [d] }
  | _ => none }
def FloatOrderWrongFalsely : Prop := floatOrderRow.holds Try.pinned (OpenSpec.ofChange floatOrderWrong)

/-- 'fathomlaw3.FloatSteps': WHATEVER THE INPUT: true; the input reads as it did. -/
def floatStepsSpec : ChangeSpec := { name := "floatSteps", fn := fun _ => fun
  | [d] => { results := [.lit (.bool true)], args := [d] }
  | _ => none }
def floatStepsRow : OpenClaim := { program := "ytfloeiagdegpjaa", sum := "de8613ccaef14a9f1ecd991a36d0cf9bc06399e7dee354119ef4397ac9a1b6a5", func := "fathom/fathomlaw3.FloatSteps", spec := "floatSteps", inPlace := ["math.Float64frombits", "math.Float32frombits", "math.RoundToEven", "math.Float64bits", "math.archTrunc", "math.archFloor", "math.archCeil", "math.Float32bits"], unfollowed := true, recurses := true, apart := false }
def FloatStepsSaid : Prop := floatStepsRow.holds Try.pinned (OpenSpec.ofChange floatStepsSpec)

/-- ITS FALSE NEIGHBOUR: 'it returns false'. Refute it at one input. -/
def floatStepsWrong : ChangeSpec := { name := "floatSteps", fn := fun _ => fun
  | [d] => { results := [.lit (.bool false)], args := [d] }
  | _ => none }
def FloatStepsWrongFalsely : Prop := floatStepsRow.holds Try.pinned (OpenSpec.ofChange floatStepsWrong)

/-- 'fathomlaw3.FloatRoots': WHATEVER THE INPUT: true; the input reads as it did. -/
def floatRootsSpec : ChangeSpec := { name := "floatRoots", fn := fun _ => fun
  | [d] => { results := [.lit (.bool true)], args := [d] }
  | _ => none }
def floatRootsRow : OpenClaim := { program := "ytfloeiagdegpjaa", sum := "de8613ccaef14a9f1ecd991a36d0cf9bc06399e7dee354119ef4397ac9a1b6a5", func := "fathom/fathomlaw3.FloatRoots", spec := "floatRoots", inPlace := ["math.Float64frombits", "math.Float32frombits", "math.sqrt", "math.Float64bits", "math.Float32bits", "math.RoundToEven", "math.archTrunc", "math.archFloor", "math.archCeil"], unfollowed := true, recurses := true, apart := false }
def FloatRootsSaid : Prop := floatRootsRow.holds Try.pinned (OpenSpec.ofChange floatRootsSpec)

/-- ITS FALSE NEIGHBOUR: 'it returns false'. Refute it at one input. -/
def floatRootsWrong : ChangeSpec := { name := "floatRoots", fn := fun _ => fun
  | [d] => { results := [.lit (.bool false)], args := [d] }
  | _ => none }
def FloatRootsWrongFalsely : Prop := floatRootsRow.holds Try.pinned (OpenSpec.ofChange floatRootsWrong)

/-- 'fathomlaw3.FloatThin': WHATEVER THE INPUT: true; the input reads as it did. -/
def floatThinSpec : ChangeSpec := { name := "floatThin", fn := fun _ => fun
  | [d] => { results := [.lit (.bool true)], args := [d] }
  | _ => none }
def floatThinRow : OpenClaim := { program := "ytfloeiagdegpjaa", sum := "de8613ccaef14a9f1ecd991a36d0cf9bc06399e7dee354119ef4397ac9a1b6a5", func := "fathom/fathomlaw3.FloatThin", spec := "floatThin", inPlace := ["math.Float64frombits", "math.Float64bits", "math.Float32frombits", "math.Float32bits", "math.sqrt", "math.RoundToEven", "math.archTrunc", "math.archFloor", "math.archCeil"], unfollowed := true, recurses := true, apart := false }
def FloatThinSaid : Prop := floatThinRow.holds Try.pinned (OpenSpec.ofChange floatThinSpec)

/-- ITS FALSE NEIGHBOUR: 'it returns false'. Refute it at one input. -/
def floatThinWrong : ChangeSpec := { name := "floatThin", fn := fun _ => fun
  | [d] => { results := [.lit (.bool false)], args := [d] }
  | _ => none }
def FloatThinWrongFalsely : Prop := floatThinRow.holds Try.pinned (OpenSpec.ofChange floatThinWrong)

/-- 'fathomlaw3.FloatRises': WHATEVER THE INPUT: true; the input reads as it did. -/
def floatRisesSpec : ChangeSpec := { name := "floatRises", fn := fun _ => fun
  | [d] => { results := [.lit (.bool true)], args := [d] }
  | _ => none }
def floatRisesRow : OpenClaim := { program := "ytfloeiagdegpjaa", sum := "de8613ccaef14a9f1ecd991a36d0cf9bc06399e7dee354119ef4397ac9a1b6a5", func := "fathom/fathomlaw3.FloatRises", spec := "floatRises", inPlace := ["math.Float64frombits", "math.RoundToEven", "math.Float64bits", "math.archTrunc", "math.archFloor", "math.archCeil", "math.Float32frombits", "math.Float32bits", "math.sqrt"], unfollowed := true, recurses := true, apart := false }
def FloatRisesSaid : Prop := floatRisesRow.holds Try.pinned (OpenSpec.ofChange floatRisesSpec)

/-- ITS FALSE NEIGHBOUR: 'it returns false'. Refute it at one input. -/
def floatRisesWrong : ChangeSpec := { name := "floatRises", fn := fun _ => fun
  | [d] => { results := [.lit (.bool false)], args := [d] }
  | _ => none }
def FloatRisesWrongFalsely : Prop := floatRisesRow.holds Try.pinned (OpenSpec.ofChange floatRisesWrong)

/-- 'fathomlaw3.FloatErrors': WHATEVER THE INPUT: true; the input reads as it did. -/
def floatErrorsSpec : ChangeSpec := { name := "floatErrors", fn := fun _ => fun
  | [d] => { results := [.lit (.bool true)], args := [d] }
  | _ => none }
def floatErrorsRow : OpenClaim := { program := "ytfloeiagdegpjaa", sum := "de8613ccaef14a9f1ecd991a36d0cf9bc06399e7dee354119ef4397ac9a1b6a5", func := "fathom/fathomlaw3.FloatErrors", spec := "floatErrors", inPlace := ["math.Float64frombits", "math.Float64bits", "math.Float32frombits", "math.Float32bits", "math.FMA", "math.RoundToEven", "math.archTrunc", "math.archFloor", "math.archCeil"], unfollowed := true, recurses := true, apart := false }
def FloatErrorsSaid : Prop := floatErrorsRow.holds Try.pinned (OpenSpec.ofChange floatErrorsSpec)

/-- ITS FALSE NEIGHBOUR: 'it returns false'. Refute it at one input. -/
def floatErrorsWrong : ChangeSpec := { name := "floatErrors", fn := fun _ => fun
  | [d] => { results := [.lit (.bool false)], args := [d] }
  | _ => none }
def FloatErrorsWrongFalsely : Prop := floatErrorsRow.holds Try.pinned (OpenSpec.ofChange floatErrorsWrong)

/-- 'fathomlaw3.FloatTurns': WHATEVER THE INPUT: true; the input reads as it did. -/
def floatTurnsSpec : ChangeSpec := { name := "floatTurns", fn := fun _ => fun
  | [d] => { results := [.lit (.bool true)], args := [d] }
  | _ => none }
def floatTurnsRow : OpenClaim := { program := "ytfloeiagdegpjaa", sum := "de8613ccaef14a9f1ecd991a36d0cf9bc06399e7dee354119ef4397ac9a1b6a5", func := "fathom/fathomlaw3.FloatTurns", spec := "floatTurns", inPlace := ["math.Float64frombits", "math.Float64bits", "math.Float32frombits", "math.Float32bits", "math.FMA", "math.RoundToEven", "math.archTrunc", "math.archFloor", "math.archCeil"], unfollowed := true, recurses := true, apart := false }
def FloatTurnsSaid : Prop := floatTurnsRow.holds Try.pinned (OpenSpec.ofChange floatTurnsSpec)

/-- ITS FALSE NEIGHBOUR: 'it returns false'. Refute it at one input. -/
def floatTurnsWrong : ChangeSpec := { name := "floatTurns", fn := fun _ => fun
  | [d] => { results := [.lit (.bool false)], args := [d] }
  | _ => none }
def FloatTurnsWrongFalsely : Prop := floatTurnsRow.holds Try.pinned (OpenSpec.ofChange floatTurnsWrong)

/-- 'fathomlaw3.FloatReckons': WHATEVER THE INPUT: true; the input reads as it did. -/
def floatReckonsSpec : ChangeSpec := { name := "floatReckons", fn := fun _ => fun
  | [d] => { results := [.lit (.bool true)], args := [d] }
  | _ => none }
def floatReckonsRow : OpenClaim := { program := "ytfloeiagdegpjaa", sum := "de8613ccaef14a9f1ecd991a36d0cf9bc06399e7dee354119ef4397ac9a1b6a5", func := "fathom/fathomlaw3.FloatReckons", spec := "floatReckons", inPlace := ["math.Float64frombits", "math.Float64bits", "math.Float32frombits", "math.Float32bits", "math.sqrt", "math.FMA", "math.RoundToEven", "math.archTrunc", "math.archFloor", "math.archCeil"], unfollowed := true, recurses := true, apart := false }
def FloatReckonsSaid : Prop := floatReckonsRow.holds Try.pinned (OpenSpec.ofChange floatReckonsSpec)

/-- ITS FALSE NEIGHBOUR: 'it returns false'. Refute it at one input. -/
def floatReckonsWrong : ChangeSpec := { name := "floatReckons", fn := fun _ => fun
  | [d] => { results := [.lit (.bool false)], args := [d] }
  | _ => none }
def FloatReckonsWrongFalsely : Prop := floatReckonsRow.holds Try.pinned (OpenSpec.ofChange floatReckonsWrong)

/- THE SECOND FORM. 'bulk': how many values and letters a reading holds, each counted each time it is reached (what is shared counts as often as it is met; a slice's spare places count too). A statement '..UptoSaid' is the law's where the arguments, and the package variables that the reading takes, are together of bulk at most 1048576: NARROWER than '..Said'. Prove '..Said' where nothing that the law and all that it calls make is longer than what came in: it says more and counts as full. Else prove '..UptoSaid'. A law counts once. -/
mutual
def uptoBulk {H : Type} : DataW H → Nat
  | .lit (.string bytes) => bytes.length + 1
  | .lit _ => 1
  | .nil => 1
  | .ptr d => uptoBulk d + 1
  | .slice elems spare => uptoBulkAll elems + uptoBulkAll spare + 1
  | .agg parts => uptoBulkAll parts + 1
  | .iface _ d => uptoBulk d + 1
  | .map entries => uptoBulkEntries entries + 1
  | .held _ => 1
def uptoBulkAll {H : Type} : List (DataW H) → Nat
  | [] => 0
  | d :: r => uptoBulk d + uptoBulkAll r
def uptoBulkEntries {H : Type} : List (Lit × DataW H) → Nat
  | [] => 0
  | x :: r => uptoBulkEntry x + uptoBulkEntries r
def uptoBulkEntry {H : Type} : Lit × DataW H → Nat
  | (.string bytes, d) => bytes.length + uptoBulk d + 1
  | (_, d) => uptoBulk d + 1
 end
def uptoSmall : (H : Type) → List (DataW H) → Bool := fun _ ds => decide (uptoBulkAll ds ≤ 1048576)
def OpenSpec.upto (s : _root_.Go.ChangeSpec) : _root_.Go.OpenSpec := { _root_.Go.OpenSpec.ofChange s with cond := some uptoSmall }

/-- 'fathomlaw3.FloatNearest', WHERE WHAT IT READS IS OF BULK AT MOST 1048576: true; the input reads as it did. -/
def floatNearestUptoRow : OpenClaim := { program := "ytfloeiagdegpjaa", sum := "de8613ccaef14a9f1ecd991a36d0cf9bc06399e7dee354119ef4397ac9a1b6a5", func := "fathom/fathomlaw3.FloatNearest", spec := "floatNearest", inPlace := ["math.Float64frombits", "math.Float32bits", "math.RoundToEven", "math.Float64bits", "math.archTrunc", "math.archFloor", "math.archCeil", "math.Float32frombits"], unfollowed := true, recurses := true, apart := false, narrowed := true }
def FloatNearestUptoSaid : Prop := floatNearestUptoRow.holds Try.pinned (OpenSpec.upto floatNearestSpec)

/-- 'fathomlaw3.FloatQuotients', WHERE WHAT IT READS IS OF BULK AT MOST 1048576: true; the input reads as it did. -/
def floatQuotientsUptoRow : OpenClaim := { program := "ytfloeiagdegpjaa", sum := "de8613ccaef14a9f1ecd991a36d0cf9bc06399e7dee354119ef4397ac9a1b6a5", func := "fathom/fathomlaw3.FloatQuotients", spec := "floatQuotients", inPlace := ["math.Float64frombits", "math.Float64bits", "math.Float32frombits", "math.Float32bits", "math.RoundToEven", "math.archTrunc", "math.archFloor", "math.archCeil"], unfollowed := true, recurses := true, apart := false, narrowed := true }
def FloatQuotientsUptoSaid : Prop := floatQuotientsUptoRow.holds Try.pinned (OpenSpec.upto floatQuotientsSpec)

/-- 'fathomlaw3.FloatWhole', WHERE WHAT IT READS IS OF BULK AT MOST 1048576: true; the input reads as it did. -/
def floatWholeUptoRow : OpenClaim := { program := "ytfloeiagdegpjaa", sum := "de8613ccaef14a9f1ecd991a36d0cf9bc06399e7dee354119ef4397ac9a1b6a5", func := "fathom/fathomlaw3.FloatWhole", spec := "floatWhole", inPlace := ["math.Float64bits", "math.Float32bits", "math.Float64frombits", "math.RoundToEven", "math.archTrunc", "math.archFloor", "math.archCeil", "math.Float32frombits"], unfollowed := true, recurses := true, apart := false, narrowed := true }
def FloatWholeUptoSaid : Prop := floatWholeUptoRow.holds Try.pinned (OpenSpec.upto floatWholeSpec)

/-- 'fathomlaw3.FloatNarrow', WHERE WHAT IT READS IS OF BULK AT MOST 1048576: true; the input reads as it did. -/
def floatNarrowUptoRow : OpenClaim := { program := "ytfloeiagdegpjaa", sum := "de8613ccaef14a9f1ecd991a36d0cf9bc06399e7dee354119ef4397ac9a1b6a5", func := "fathom/fathomlaw3.FloatNarrow", spec := "floatNarrow", inPlace := ["math.Float64frombits", "math.Float32bits", "math.Float32frombits", "math.Float64bits", "math.RoundToEven", "math.archTrunc", "math.archFloor", "math.archCeil"], unfollowed := true, recurses := true, apart := false, narrowed := true }
def FloatNarrowUptoSaid : Prop := floatNarrowUptoRow.holds Try.pinned (OpenSpec.upto floatNarrowSpec)

/-- 'fathomlaw3.FloatPairs', WHERE WHAT IT READS IS OF BULK AT MOST 1048576: true; the input reads as it did. -/
def floatPairsUptoRow : OpenClaim := { program := "ytfloeiagdegpjaa", sum := "de8613ccaef14a9f1ecd991a36d0cf9bc06399e7dee354119ef4397ac9a1b6a5", func := "fathom/fathomlaw3.FloatPairs", spec := "floatPairs", inPlace := ["math.Float64frombits", "math.Float32frombits", "math.RoundToEven", "math.Float64bits", "math.archTrunc", "math.archFloor", "math.archCeil", "math.Float32bits"], unfollowed := true, recurses := true, apart := false, narrowed := true }
def FloatPairsUptoSaid : Prop := floatPairsUptoRow.holds Try.pinned (OpenSpec.upto floatPairsSpec)

/-- 'fathomlaw3.FloatOrder', WHERE WHAT IT READS IS OF BULK AT MOST 1048576: true; the input reads as it did. -/
def floatOrderUptoRow : OpenClaim := { program := "ytfloeiagdegpjaa", sum := "de8613ccaef14a9f1ecd991a36d0cf9bc06399e7dee354119ef4397ac9a1b6a5", func := "fathom/fathomlaw3.FloatOrder", spec := "floatOrder", inPlace := ["math.Float64frombits", "math.RoundToEven", "math.Float64bits", "math.archTrunc", "math.archFloor", "math.archCeil", "math.Float32frombits", "math.Float32bits"], unfollowed := true, recurses := true, apart := false, narrowed := true }
def FloatOrderUptoSaid : Prop := floatOrderUptoRow.holds Try.pinned (OpenSpec.upto floatOrderSpec)

/-- 'fathomlaw3.FloatSteps', WHERE WHAT IT READS IS OF BULK AT MOST 1048576: true; the input reads as it did. -/
def floatStepsUptoRow : OpenClaim := { program := "ytfloeiagdegpjaa", sum := "de8613ccaef14a9f1ecd991a36d0cf9bc06399e7dee354119ef4397ac9a1b6a5", func := "fathom/fathomlaw3.FloatSteps", spec := "floatSteps", inPlace := ["math.Float64frombits", "math.Float32frombits", "math.RoundToEven", "math.Float64bits", "math.archTrunc", "math.archFloor", "math.archCeil", "math.Float32bits"], unfollowed := true, recurses := true, apart := false, narrowed := true }
def FloatStepsUptoSaid : Prop := floatStepsUptoRow.holds Try.pinned (OpenSpec.upto floatStepsSpec)

/-- 'fathomlaw3.FloatRoots', WHERE WHAT IT READS IS OF BULK AT MOST 1048576: true; the input reads as it did. -/
def floatRootsUptoRow : OpenClaim := { program := "ytfloeiagdegpjaa", sum := "de8613ccaef14a9f1ecd991a36d0cf9bc06399e7dee354119ef4397ac9a1b6a5", func := "fathom/fathomlaw3.FloatRoots", spec := "floatRoots", inPlace := ["math.Float64frombits", "math.Float32frombits", "math.sqrt", "math.Float64bits", "math.Float32bits", "math.RoundToEven", "math.archTrunc", "math.archFloor", "math.archCeil"], unfollowed := true, recurses := true, apart := false, narrowed := true }
def FloatRootsUptoSaid : Prop := floatRootsUptoRow.holds Try.pinned (OpenSpec.upto floatRootsSpec)

/-- 'fathomlaw3.FloatThin', WHERE WHAT IT READS IS OF BULK AT MOST 1048576: true; the input reads as it did. -/
def floatThinUptoRow : OpenClaim := { program := "ytfloeiagdegpjaa", sum := "de8613ccaef14a9f1ecd991a36d0cf9bc06399e7dee354119ef4397ac9a1b6a5", func := "fathom/fathomlaw3.FloatThin", spec := "floatThin", inPlace := ["math.Float64frombits", "math.Float64bits", "math.Float32frombits", "math.Float32bits", "math.sqrt", "math.RoundToEven", "math.archTrunc", "math.archFloor", "math.archCeil"], unfollowed := true, recurses := true, apart := false, narrowed := true }
def FloatThinUptoSaid : Prop := floatThinUptoRow.holds Try.pinned (OpenSpec.upto floatThinSpec)

/-- 'fathomlaw3.FloatRises', WHERE WHAT IT READS IS OF BULK AT MOST 1048576: true; the input reads as it did. -/
def floatRisesUptoRow : OpenClaim := { program := "ytfloeiagdegpjaa", sum := "de8613ccaef14a9f1ecd991a36d0cf9bc06399e7dee354119ef4397ac9a1b6a5", func := "fathom/fathomlaw3.FloatRises", spec := "floatRises", inPlace := ["math.Float64frombits", "math.RoundToEven", "math.Float64bits", "math.archTrunc", "math.archFloor", "math.archCeil", "math.Float32frombits", "math.Float32bits", "math.sqrt"], unfollowed := true, recurses := true, apart := false, narrowed := true }
def FloatRisesUptoSaid : Prop := floatRisesUptoRow.holds Try.pinned (OpenSpec.upto floatRisesSpec)

/-- 'fathomlaw3.FloatErrors', WHERE WHAT IT READS IS OF BULK AT MOST 1048576: true; the input reads as it did. -/
def floatErrorsUptoRow : OpenClaim := { program := "ytfloeiagdegpjaa", sum := "de8613ccaef14a9f1ecd991a36d0cf9bc06399e7dee354119ef4397ac9a1b6a5", func := "fathom/fathomlaw3.FloatErrors", spec := "floatErrors", inPlace := ["math.Float64frombits", "math.Float64bits", "math.Float32frombits", "math.Float32bits", "math.FMA", "math.RoundToEven", "math.archTrunc", "math.archFloor", "math.archCeil"], unfollowed := true, recurses := true, apart := false, narrowed := true }
def FloatErrorsUptoSaid : Prop := floatErrorsUptoRow.holds Try.pinned (OpenSpec.upto floatErrorsSpec)

/-- 'fathomlaw3.FloatTurns', WHERE WHAT IT READS IS OF BULK AT MOST 1048576: true; the input reads as it did. -/
def floatTurnsUptoRow : OpenClaim := { program := "ytfloeiagdegpjaa", sum := "de8613ccaef14a9f1ecd991a36d0cf9bc06399e7dee354119ef4397ac9a1b6a5", func := "fathom/fathomlaw3.FloatTurns", spec := "floatTurns", inPlace := ["math.Float64frombits", "math.Float64bits", "math.Float32frombits", "math.Float32bits", "math.FMA", "math.RoundToEven", "math.archTrunc", "math.archFloor", "math.archCeil"], unfollowed := true, recurses := true, apart := false, narrowed := true }
def FloatTurnsUptoSaid : Prop := floatTurnsUptoRow.holds Try.pinned (OpenSpec.upto floatTurnsSpec)

/-- 'fathomlaw3.FloatReckons', WHERE WHAT IT READS IS OF BULK AT MOST 1048576: true; the input reads as it did. -/
def floatReckonsUptoRow : OpenClaim := { program := "ytfloeiagdegpjaa", sum := "de8613ccaef14a9f1ecd991a36d0cf9bc06399e7dee354119ef4397ac9a1b6a5", func := "fathom/fathomlaw3.FloatReckons", spec := "floatReckons", inPlace := ["math.Float64frombits", "math.Float64bits", "math.Float32frombits", "math.Float32bits", "math.sqrt", "math.FMA", "math.RoundToEven", "math.archTrunc", "math.archFloor", "math.archCeil"], unfollowed := true, recurses := true, apart := false, narrowed := true }
def FloatReckonsUptoSaid : Prop := floatReckonsUptoRow.holds Try.pinned (OpenSpec.upto floatReckonsSpec)

end Rows
end Go.Proofs.Ytfloeiagdegpjaa
