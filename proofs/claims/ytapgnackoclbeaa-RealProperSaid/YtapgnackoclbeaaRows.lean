/-
  No cell of these rows narrows 'for every input' (looked for: loops, veiled, ifaces, maps, wideKeys, modest, calm, conditions, laid).
  DERIVED. THE GIVEN ROWS OF THIS SEAT. 17 by the template 'for every input the law returns true; each argument reads behind the call as it read before'; 0 by the template 'total and deterministic' (their statements: YtapgnackoclbeaaTotals.lean).
  GIVEN WITH THE SEED: the statements are not yours to turn. If you find one false, say at which input.
  Laid BY PROGRAM, IN A SANDBOX (cutbox-rows.mjs): the forced cells as the released guide's own fill.sh prints them over the translation e93d5e519cb84471… (all of the seat's roots in one cut). By AI agents, Wed Nov 11 2026. No macro, syntax, notation, axiom, sorry.
-/
import Derived.Test.YtapgnackoclbeaaChecked
import GoSem.Claim
import GoSem.ClaimJoined
import GoSem.ClaimMapViews
import Derived.JoinedTies
import Derived.KernelRfl
namespace Go.Proofs.Ytapgnackoclbeaa
/- THE CELL 'sum', in the pinned program and in every row, IS THE sha256 OF THE DUMP (.gsa) THAT YtapgnackoclbeaaProg.lean LOADS. Nothing in Lean hashes anything: it is a label: what it is worth is what the hold of that sum in a sandbox is worth. -/
noncomputable def Try.pinned : Pinned := { name := "ytapgnackoclbeaa", sum := "e93d5e519cb844719e2e4297f8695d39c10918950da2dc328fb444bda1b9eedf", checked := Try.checked }
namespace Rows
def none {H : Type} : Left H := { results := [], args := [] }

/-- 'portagelaw03.RealHolds': WHATEVER THE INPUT: true; the input reads as it did. -/
def realHoldsSpec : ChangeSpec := { name := "realHolds", fn := fun _ => fun
  | [d1, d2] => { results := [.lit (.bool true)], args := [d1, d2] }
  | _ => none }
def realHoldsRow : OpenClaim := { program := "ytapgnackoclbeaa", sum := "e93d5e519cb844719e2e4297f8695d39c10918950da2dc328fb444bda1b9eedf", func := "portage/portagelaw03.RealHolds", spec := "realHolds", inPlace := ["math.Float64frombits"], apart := false }
def RealHoldsSaid : Prop := realHoldsRow.holds Try.pinned (OpenSpec.ofChange realHoldsSpec)

/-- ITS FALSE NEIGHBOUR: 'it returns false'. Refute it at one input. -/
def realHoldsWrong : ChangeSpec := { name := "realHolds", fn := fun _ => fun
  | [d1, d2] => { results := [.lit (.bool false)], args := [d1, d2] }
  | _ => none }
def RealHoldsWrongFalsely : Prop := realHoldsRow.holds Try.pinned (OpenSpec.ofChange realHoldsWrong)

/-- 'portagelaw03.RealAdds': WHATEVER THE INPUT: true; the input reads as it did. -/
def realAddsSpec : ChangeSpec := { name := "realAdds", fn := fun _ => fun
  | [d1, d2] => { results := [.lit (.bool true)], args := [d1, d2] }
  | _ => none }
def realAddsRow : OpenClaim := { program := "ytapgnackoclbeaa", sum := "e93d5e519cb844719e2e4297f8695d39c10918950da2dc328fb444bda1b9eedf", func := "portage/portagelaw03.RealAdds", spec := "realAdds", inPlace := ["math.Float64frombits", "math.Float64bits"], apart := false }
def RealAddsSaid : Prop := realAddsRow.holds Try.pinned (OpenSpec.ofChange realAddsSpec)

/-- ITS FALSE NEIGHBOUR: 'it returns false'. Refute it at one input. -/
def realAddsWrong : ChangeSpec := { name := "realAdds", fn := fun _ => fun
  | [d1, d2] => { results := [.lit (.bool false)], args := [d1, d2] }
  | _ => none }
def RealAddsWrongFalsely : Prop := realAddsRow.holds Try.pinned (OpenSpec.ofChange realAddsWrong)

/-- 'portagelaw03.RealMuls': WHATEVER THE INPUT: true; the input reads as it did. -/
def realMulsSpec : ChangeSpec := { name := "realMuls", fn := fun _ => fun
  | [d1, d2] => { results := [.lit (.bool true)], args := [d1, d2] }
  | _ => none }
def realMulsRow : OpenClaim := { program := "ytapgnackoclbeaa", sum := "e93d5e519cb844719e2e4297f8695d39c10918950da2dc328fb444bda1b9eedf", func := "portage/portagelaw03.RealMuls", spec := "realMuls", inPlace := ["math.Float64frombits", "math.Float64bits"], apart := false }
def RealMulsSaid : Prop := realMulsRow.holds Try.pinned (OpenSpec.ofChange realMulsSpec)

/-- ITS FALSE NEIGHBOUR: 'it returns false'. Refute it at one input. -/
def realMulsWrong : ChangeSpec := { name := "realMuls", fn := fun _ => fun
  | [d1, d2] => { results := [.lit (.bool false)], args := [d1, d2] }
  | _ => none }
def RealMulsWrongFalsely : Prop := realMulsRow.holds Try.pinned (OpenSpec.ofChange realMulsWrong)

/-- 'portagelaw03.RealExact': WHATEVER THE INPUT: true; the input reads as it did. -/
def realExactSpec : ChangeSpec := { name := "realExact", fn := fun _ => fun
  | [d1, d2] => { results := [.lit (.bool true)], args := [d1, d2] }
  | _ => none }
def realExactRow : OpenClaim := { program := "ytapgnackoclbeaa", sum := "e93d5e519cb844719e2e4297f8695d39c10918950da2dc328fb444bda1b9eedf", func := "portage/portagelaw03.RealExact", spec := "realExact", inPlace := ["math.Float64frombits", "math.Float64bits"], apart := false }
def RealExactSaid : Prop := realExactRow.holds Try.pinned (OpenSpec.ofChange realExactSpec)

/-- ITS FALSE NEIGHBOUR: 'it returns false'. Refute it at one input. -/
def realExactWrong : ChangeSpec := { name := "realExact", fn := fun _ => fun
  | [d1, d2] => { results := [.lit (.bool false)], args := [d1, d2] }
  | _ => none }
def RealExactWrongFalsely : Prop := realExactRow.holds Try.pinned (OpenSpec.ofChange realExactWrong)

/-- 'portagelaw03.RealInts': WHATEVER THE INPUT: true; the input reads as it did. -/
def realIntsSpec : ChangeSpec := { name := "realInts", fn := fun _ => fun
  | [d1, d2] => { results := [.lit (.bool true)], args := [d1, d2] }
  | _ => none }
def realIntsRow : OpenClaim := { program := "ytapgnackoclbeaa", sum := "e93d5e519cb844719e2e4297f8695d39c10918950da2dc328fb444bda1b9eedf", func := "portage/portagelaw03.RealInts", spec := "realInts", inPlace := ["math.Float64frombits", "math.archTrunc", "math.Float64bits"], apart := false }
def RealIntsSaid : Prop := realIntsRow.holds Try.pinned (OpenSpec.ofChange realIntsSpec)

/-- ITS FALSE NEIGHBOUR: 'it returns false'. Refute it at one input. -/
def realIntsWrong : ChangeSpec := { name := "realInts", fn := fun _ => fun
  | [d1, d2] => { results := [.lit (.bool false)], args := [d1, d2] }
  | _ => none }
def RealIntsWrongFalsely : Prop := realIntsRow.holds Try.pinned (OpenSpec.ofChange realIntsWrong)

/-- 'portagelaw03.RealRoots': WHATEVER THE INPUT: true; the input reads as it did. -/
def realRootsSpec : ChangeSpec := { name := "realRoots", fn := fun _ => fun
  | [d] => { results := [.lit (.bool true)], args := [d] }
  | _ => none }
def realRootsRow : OpenClaim := { program := "ytapgnackoclbeaa", sum := "e93d5e519cb844719e2e4297f8695d39c10918950da2dc328fb444bda1b9eedf", func := "portage/portagelaw03.RealRoots", spec := "realRoots", inPlace := ["math.Float64frombits", "math.Float64bits", "math.sqrt"], apart := false }
def RealRootsSaid : Prop := realRootsRow.holds Try.pinned (OpenSpec.ofChange realRootsSpec)

/-- ITS FALSE NEIGHBOUR: 'it returns false'. Refute it at one input. -/
def realRootsWrong : ChangeSpec := { name := "realRoots", fn := fun _ => fun
  | [d] => { results := [.lit (.bool false)], args := [d] }
  | _ => none }
def RealRootsWrongFalsely : Prop := realRootsRow.holds Try.pinned (OpenSpec.ofChange realRootsWrong)

/-- 'portagelaw03.RealOrder': WHATEVER THE INPUT: true; the input reads as it did. -/
def realOrderSpec : ChangeSpec := { name := "realOrder", fn := fun _ => fun
  | [d1, d2] => { results := [.lit (.bool true)], args := [d1, d2] }
  | _ => none }
def realOrderRow : OpenClaim := { program := "ytapgnackoclbeaa", sum := "e93d5e519cb844719e2e4297f8695d39c10918950da2dc328fb444bda1b9eedf", func := "portage/portagelaw03.RealOrder", spec := "realOrder", inPlace := ["math.Float64frombits", "math.Float64bits", "math.sqrt"], apart := false }
def RealOrderSaid : Prop := realOrderRow.holds Try.pinned (OpenSpec.ofChange realOrderSpec)

/-- ITS FALSE NEIGHBOUR: 'it returns false'. Refute it at one input. -/
def realOrderWrong : ChangeSpec := { name := "realOrder", fn := fun _ => fun
  | [d1, d2] => { results := [.lit (.bool false)], args := [d1, d2] }
  | _ => none }
def RealOrderWrongFalsely : Prop := realOrderRow.holds Try.pinned (OpenSpec.ofChange realOrderWrong)

/-- 'portagelaw03.RealScales': WHATEVER THE INPUT: true; the input reads as it did. -/
def realScalesSpec : ChangeSpec := { name := "realScales", fn := fun _ => fun
  | [d1, d2] => { results := [.lit (.bool true)], args := [d1, d2] }
  | _ => none }
def realScalesRow : OpenClaim := { program := "ytapgnackoclbeaa", sum := "e93d5e519cb844719e2e4297f8695d39c10918950da2dc328fb444bda1b9eedf", func := "portage/portagelaw03.RealScales", spec := "realScales", inPlace := ["math.Float64frombits", "math.Float64bits", "math.sqrt"], apart := false }
def RealScalesSaid : Prop := realScalesRow.holds Try.pinned (OpenSpec.ofChange realScalesSpec)

/-- ITS FALSE NEIGHBOUR: 'it returns false'. Refute it at one input. -/
def realScalesWrong : ChangeSpec := { name := "realScales", fn := fun _ => fun
  | [d1, d2] => { results := [.lit (.bool false)], args := [d1, d2] }
  | _ => none }
def RealScalesWrongFalsely : Prop := realScalesRow.holds Try.pinned (OpenSpec.ofChange realScalesWrong)

/-- 'portagelaw03.RealNear': WHATEVER THE INPUT: true; the input reads as it did. -/
def realNearSpec : ChangeSpec := { name := "realNear", fn := fun _ => fun
  | [d1, d2] => { results := [.lit (.bool true)], args := [d1, d2] }
  | _ => none }
def realNearRow : OpenClaim := { program := "ytapgnackoclbeaa", sum := "e93d5e519cb844719e2e4297f8695d39c10918950da2dc328fb444bda1b9eedf", func := "portage/portagelaw03.RealNear", spec := "realNear", inPlace := ["math.Float64frombits", "math.Float64bits", "math.sqrt"], apart := false }
def RealNearSaid : Prop := realNearRow.holds Try.pinned (OpenSpec.ofChange realNearSpec)

/-- ITS FALSE NEIGHBOUR: 'it returns false'. Refute it at one input. -/
def realNearWrong : ChangeSpec := { name := "realNear", fn := fun _ => fun
  | [d1, d2] => { results := [.lit (.bool false)], args := [d1, d2] }
  | _ => none }
def RealNearWrongFalsely : Prop := realNearRow.holds Try.pinned (OpenSpec.ofChange realNearWrong)

/-- 'portagelaw03.RealSigns': WHATEVER THE INPUT: true; the input reads as it did. -/
def realSignsSpec : ChangeSpec := { name := "realSigns", fn := fun _ => fun
  | [d1, d2] => { results := [.lit (.bool true)], args := [d1, d2] }
  | _ => none }
def realSignsRow : OpenClaim := { program := "ytapgnackoclbeaa", sum := "e93d5e519cb844719e2e4297f8695d39c10918950da2dc328fb444bda1b9eedf", func := "portage/portagelaw03.RealSigns", spec := "realSigns", inPlace := ["math.Float64frombits", "math.Float64bits", "math.sqrt"], apart := false }
def RealSignsSaid : Prop := realSignsRow.holds Try.pinned (OpenSpec.ofChange realSignsSpec)

/-- ITS FALSE NEIGHBOUR: 'it returns false'. Refute it at one input. -/
def realSignsWrong : ChangeSpec := { name := "realSigns", fn := fun _ => fun
  | [d1, d2] => { results := [.lit (.bool false)], args := [d1, d2] }
  | _ => none }
def RealSignsWrongFalsely : Prop := realSignsRow.holds Try.pinned (OpenSpec.ofChange realSignsWrong)

/-- 'portagelaw03.RealRises': WHATEVER THE INPUT: true; the input reads as it did. -/
def realRisesSpec : ChangeSpec := { name := "realRises", fn := fun _ => fun
  | [d1, d2, d3] => { results := [.lit (.bool true)], args := [d1, d2, d3] }
  | _ => none }
def realRisesRow : OpenClaim := { program := "ytapgnackoclbeaa", sum := "e93d5e519cb844719e2e4297f8695d39c10918950da2dc328fb444bda1b9eedf", func := "portage/portagelaw03.RealRises", spec := "realRises", inPlace := ["math.Float64frombits", "math.Float64bits", "math.sqrt", "math.archFloor", "math.archTrunc"], apart := false }
def RealRisesSaid : Prop := realRisesRow.holds Try.pinned (OpenSpec.ofChange realRisesSpec)

/-- ITS FALSE NEIGHBOUR: 'it returns false'. Refute it at one input. -/
def realRisesWrong : ChangeSpec := { name := "realRises", fn := fun _ => fun
  | [d1, d2, d3] => { results := [.lit (.bool false)], args := [d1, d2, d3] }
  | _ => none }
def RealRisesWrongFalsely : Prop := realRisesRow.holds Try.pinned (OpenSpec.ofChange realRisesWrong)

/-- 'portagelaw03.RealSingles': WHATEVER THE INPUT: true; the input reads as it did. -/
def realSinglesSpec : ChangeSpec := { name := "realSingles", fn := fun _ => fun
  | [d] => { results := [.lit (.bool true)], args := [d] }
  | _ => none }
def realSinglesRow : OpenClaim := { program := "ytapgnackoclbeaa", sum := "e93d5e519cb844719e2e4297f8695d39c10918950da2dc328fb444bda1b9eedf", func := "portage/portagelaw03.RealSingles", spec := "realSingles", inPlace := ["math.Float64frombits", "math.Float64bits", "math.sqrt", "math.archFloor", "math.archTrunc"], apart := false }
def RealSinglesSaid : Prop := realSinglesRow.holds Try.pinned (OpenSpec.ofChange realSinglesSpec)

/-- ITS FALSE NEIGHBOUR: 'it returns false'. Refute it at one input. -/
def realSinglesWrong : ChangeSpec := { name := "realSingles", fn := fun _ => fun
  | [d] => { results := [.lit (.bool false)], args := [d] }
  | _ => none }
def RealSinglesWrongFalsely : Prop := realSinglesRow.holds Try.pinned (OpenSpec.ofChange realSinglesWrong)

/-- 'portagelaw03.RealWhole': WHATEVER THE INPUT: true; the input reads as it did. -/
def realWholeSpec : ChangeSpec := { name := "realWhole", fn := fun _ => fun
  | [d1, d2] => { results := [.lit (.bool true)], args := [d1, d2] }
  | _ => none }
def realWholeRow : OpenClaim := { program := "ytapgnackoclbeaa", sum := "e93d5e519cb844719e2e4297f8695d39c10918950da2dc328fb444bda1b9eedf", func := "portage/portagelaw03.RealWhole", spec := "realWhole", inPlace := ["math.Float64bits", "math.Float64frombits", "math.archFloor", "math.archTrunc", "math.sqrt"], apart := false }
def RealWholeSaid : Prop := realWholeRow.holds Try.pinned (OpenSpec.ofChange realWholeSpec)

/-- ITS FALSE NEIGHBOUR: 'it returns false'. Refute it at one input. -/
def realWholeWrong : ChangeSpec := { name := "realWhole", fn := fun _ => fun
  | [d1, d2] => { results := [.lit (.bool false)], args := [d1, d2] }
  | _ => none }
def RealWholeWrongFalsely : Prop := realWholeRow.holds Try.pinned (OpenSpec.ofChange realWholeWrong)

/-- 'portagelaw03.RealFloors': WHATEVER THE INPUT: true; the input reads as it did. -/
def realFloorsSpec : ChangeSpec := { name := "realFloors", fn := fun _ => fun
  | [d] => { results := [.lit (.bool true)], args := [d] }
  | _ => none }
def realFloorsRow : OpenClaim := { program := "ytapgnackoclbeaa", sum := "e93d5e519cb844719e2e4297f8695d39c10918950da2dc328fb444bda1b9eedf", func := "portage/portagelaw03.RealFloors", spec := "realFloors", inPlace := ["math.Float64frombits", "math.archFloor", "math.Float64bits", "math.archTrunc", "math.sqrt"], apart := false }
def RealFloorsSaid : Prop := realFloorsRow.holds Try.pinned (OpenSpec.ofChange realFloorsSpec)

/-- ITS FALSE NEIGHBOUR: 'it returns false'. Refute it at one input. -/
def realFloorsWrong : ChangeSpec := { name := "realFloors", fn := fun _ => fun
  | [d] => { results := [.lit (.bool false)], args := [d] }
  | _ => none }
def RealFloorsWrongFalsely : Prop := realFloorsRow.holds Try.pinned (OpenSpec.ofChange realFloorsWrong)

/-- 'portagelaw03.RealOnes': WHATEVER THE INPUT: true; the input reads as it did. -/
def realOnesSpec : ChangeSpec := { name := "realOnes", fn := fun _ => fun
  | [d] => { results := [.lit (.bool true)], args := [d] }
  | _ => none }
def realOnesRow : OpenClaim := { program := "ytapgnackoclbeaa", sum := "e93d5e519cb844719e2e4297f8695d39c10918950da2dc328fb444bda1b9eedf", func := "portage/portagelaw03.RealOnes", spec := "realOnes", inPlace := ["math.Float64frombits", "math.Float64bits", "math.sqrt", "math.archFloor", "math.archTrunc"], apart := false }
def RealOnesSaid : Prop := realOnesRow.holds Try.pinned (OpenSpec.ofChange realOnesSpec)

/-- ITS FALSE NEIGHBOUR: 'it returns false'. Refute it at one input. -/
def realOnesWrong : ChangeSpec := { name := "realOnes", fn := fun _ => fun
  | [d] => { results := [.lit (.bool false)], args := [d] }
  | _ => none }
def RealOnesWrongFalsely : Prop := realOnesRow.holds Try.pinned (OpenSpec.ofChange realOnesWrong)

/-- 'portagelaw03.RealProper': WHATEVER THE INPUT: true; the input reads as it did. -/
def realProperSpec : ChangeSpec := { name := "realProper", fn := fun _ => fun
  | [d1, d2, d3] => { results := [.lit (.bool true)], args := [d1, d2, d3] }
  | _ => none }
def realProperRow : OpenClaim := { program := "ytapgnackoclbeaa", sum := "e93d5e519cb844719e2e4297f8695d39c10918950da2dc328fb444bda1b9eedf", func := "portage/portagelaw03.RealProper", spec := "realProper", inPlace := ["math.Float64frombits", "math.Float64bits", "math.sqrt", "math.archFloor", "math.archTrunc"], apart := false }
def RealProperSaid : Prop := realProperRow.holds Try.pinned (OpenSpec.ofChange realProperSpec)

/-- ITS FALSE NEIGHBOUR: 'it returns false'. Refute it at one input. -/
def realProperWrong : ChangeSpec := { name := "realProper", fn := fun _ => fun
  | [d1, d2, d3] => { results := [.lit (.bool false)], args := [d1, d2, d3] }
  | _ => none }
def RealProperWrongFalsely : Prop := realProperRow.holds Try.pinned (OpenSpec.ofChange realProperWrong)

/-- 'portagelaw03.RealNames': WHATEVER THE INPUT: true; the input reads as it did. -/
def realNamesSpec : ChangeSpec := { name := "realNames", fn := fun _ => fun
  | [] => { results := [.lit (.bool true)], args := [] }
  | _ => none }
def realNamesRow : OpenClaim := { program := "ytapgnackoclbeaa", sum := "e93d5e519cb844719e2e4297f8695d39c10918950da2dc328fb444bda1b9eedf", func := "portage/portagelaw03.RealNames", spec := "realNames", inPlace := ["math.Float64frombits", "math.Float64bits", "math.sqrt", "math.archFloor", "math.archTrunc"], apart := false }
def RealNamesSaid : Prop := realNamesRow.holds Try.pinned (OpenSpec.ofChange realNamesSpec)

/-- ITS FALSE NEIGHBOUR: 'it returns false'. Refute it at one input. -/
def realNamesWrong : ChangeSpec := { name := "realNames", fn := fun _ => fun
  | [] => { results := [.lit (.bool false)], args := [] }
  | _ => none }
def RealNamesWrongFalsely : Prop := realNamesRow.holds Try.pinned (OpenSpec.ofChange realNamesWrong)

/- THE SECOND FORM. 'bulk': how many values and letters a reading holds, each counted each time it is reached (what is shared counts as often as it is met; a slice's spare places count too). A statement '..UptoSaid' is the law's where the arguments, and the package variables that the reading takes, are together of bulk at most 1048576: NARROWER than '..Said'. Prove '..Said' where nothing that the law and all that it calls make is longer than what came in: it says more and counts as full. Else prove '..UptoSaid'. A law counts once. -/
mutual
def uptoBulk {H : Type} : DataW H → Nat
  | .lit (.string bytes) => bytes.length + 1
  | .lit _ => 1
  | .nil => 1
  | .ptr d => uptoBulk d + 1
  | .slice elems spare => uptoBulkAll elems + uptoBulkAll spare + 1
  | .agg parts => uptoBulkAll parts + 1
  | .iface _ d => uptoBulk d + 1
  | .map entries => uptoBulkEntries entries + 1
  | .held _ => 1
def uptoBulkAll {H : Type} : List (DataW H) → Nat
  | [] => 0
  | d :: r => uptoBulk d + uptoBulkAll r
def uptoBulkEntries {H : Type} : List (Lit × DataW H) → Nat
  | [] => 0
  | x :: r => uptoBulkEntry x + uptoBulkEntries r
def uptoBulkEntry {H : Type} : Lit × DataW H → Nat
  | (.string bytes, d) => bytes.length + uptoBulk d + 1
  | (_, d) => uptoBulk d + 1
 end
def uptoSmall : (H : Type) → List (DataW H) → Bool := fun _ ds => decide (uptoBulkAll ds ≤ 1048576)
def OpenSpec.upto (s : _root_.Go.ChangeSpec) : _root_.Go.OpenSpec := { _root_.Go.OpenSpec.ofChange s with cond := some uptoSmall }

/-- 'portagelaw03.RealHolds', WHERE WHAT IT READS IS OF BULK AT MOST 1048576: true; the input reads as it did. -/
def realHoldsUptoRow : OpenClaim := { program := "ytapgnackoclbeaa", sum := "e93d5e519cb844719e2e4297f8695d39c10918950da2dc328fb444bda1b9eedf", func := "portage/portagelaw03.RealHolds", spec := "realHolds", inPlace := ["math.Float64frombits"], apart := false, narrowed := true }
def RealHoldsUptoSaid : Prop := realHoldsUptoRow.holds Try.pinned (OpenSpec.upto realHoldsSpec)

/-- 'portagelaw03.RealAdds', WHERE WHAT IT READS IS OF BULK AT MOST 1048576: true; the input reads as it did. -/
def realAddsUptoRow : OpenClaim := { program := "ytapgnackoclbeaa", sum := "e93d5e519cb844719e2e4297f8695d39c10918950da2dc328fb444bda1b9eedf", func := "portage/portagelaw03.RealAdds", spec := "realAdds", inPlace := ["math.Float64frombits", "math.Float64bits"], apart := false, narrowed := true }
def RealAddsUptoSaid : Prop := realAddsUptoRow.holds Try.pinned (OpenSpec.upto realAddsSpec)

/-- 'portagelaw03.RealMuls', WHERE WHAT IT READS IS OF BULK AT MOST 1048576: true; the input reads as it did. -/
def realMulsUptoRow : OpenClaim := { program := "ytapgnackoclbeaa", sum := "e93d5e519cb844719e2e4297f8695d39c10918950da2dc328fb444bda1b9eedf", func := "portage/portagelaw03.RealMuls", spec := "realMuls", inPlace := ["math.Float64frombits", "math.Float64bits"], apart := false, narrowed := true }
def RealMulsUptoSaid : Prop := realMulsUptoRow.holds Try.pinned (OpenSpec.upto realMulsSpec)

/-- 'portagelaw03.RealExact', WHERE WHAT IT READS IS OF BULK AT MOST 1048576: true; the input reads as it did. -/
def realExactUptoRow : OpenClaim := { program := "ytapgnackoclbeaa", sum := "e93d5e519cb844719e2e4297f8695d39c10918950da2dc328fb444bda1b9eedf", func := "portage/portagelaw03.RealExact", spec := "realExact", inPlace := ["math.Float64frombits", "math.Float64bits"], apart := false, narrowed := true }
def RealExactUptoSaid : Prop := realExactUptoRow.holds Try.pinned (OpenSpec.upto realExactSpec)

/-- 'portagelaw03.RealInts', WHERE WHAT IT READS IS OF BULK AT MOST 1048576: true; the input reads as it did. -/
def realIntsUptoRow : OpenClaim := { program := "ytapgnackoclbeaa", sum := "e93d5e519cb844719e2e4297f8695d39c10918950da2dc328fb444bda1b9eedf", func := "portage/portagelaw03.RealInts", spec := "realInts", inPlace := ["math.Float64frombits", "math.archTrunc", "math.Float64bits"], apart := false, narrowed := true }
def RealIntsUptoSaid : Prop := realIntsUptoRow.holds Try.pinned (OpenSpec.upto realIntsSpec)

/-- 'portagelaw03.RealRoots', WHERE WHAT IT READS IS OF BULK AT MOST 1048576: true; the input reads as it did. -/
def realRootsUptoRow : OpenClaim := { program := "ytapgnackoclbeaa", sum := "e93d5e519cb844719e2e4297f8695d39c10918950da2dc328fb444bda1b9eedf", func := "portage/portagelaw03.RealRoots", spec := "realRoots", inPlace := ["math.Float64frombits", "math.Float64bits", "math.sqrt"], apart := false, narrowed := true }
def RealRootsUptoSaid : Prop := realRootsUptoRow.holds Try.pinned (OpenSpec.upto realRootsSpec)

/-- 'portagelaw03.RealOrder', WHERE WHAT IT READS IS OF BULK AT MOST 1048576: true; the input reads as it did. -/
def realOrderUptoRow : OpenClaim := { program := "ytapgnackoclbeaa", sum := "e93d5e519cb844719e2e4297f8695d39c10918950da2dc328fb444bda1b9eedf", func := "portage/portagelaw03.RealOrder", spec := "realOrder", inPlace := ["math.Float64frombits", "math.Float64bits", "math.sqrt"], apart := false, narrowed := true }
def RealOrderUptoSaid : Prop := realOrderUptoRow.holds Try.pinned (OpenSpec.upto realOrderSpec)

/-- 'portagelaw03.RealScales', WHERE WHAT IT READS IS OF BULK AT MOST 1048576: true; the input reads as it did. -/
def realScalesUptoRow : OpenClaim := { program := "ytapgnackoclbeaa", sum := "e93d5e519cb844719e2e4297f8695d39c10918950da2dc328fb444bda1b9eedf", func := "portage/portagelaw03.RealScales", spec := "realScales", inPlace := ["math.Float64frombits", "math.Float64bits", "math.sqrt"], apart := false, narrowed := true }
def RealScalesUptoSaid : Prop := realScalesUptoRow.holds Try.pinned (OpenSpec.upto realScalesSpec)

/-- 'portagelaw03.RealNear', WHERE WHAT IT READS IS OF BULK AT MOST 1048576: true; the input reads as it did. -/
def realNearUptoRow : OpenClaim := { program := "ytapgnackoclbeaa", sum := "e93d5e519cb844719e2e4297f8695d39c10918950da2dc328fb444bda1b9eedf", func := "portage/portagelaw03.RealNear", spec := "realNear", inPlace := ["math.Float64frombits", "math.Float64bits", "math.sqrt"], apart := false, narrowed := true }
def RealNearUptoSaid : Prop := realNearUptoRow.holds Try.pinned (OpenSpec.upto realNearSpec)

/-- 'portagelaw03.RealSigns', WHERE WHAT IT READS IS OF BULK AT MOST 1048576: true; the input reads as it did. -/
def realSignsUptoRow : OpenClaim := { program := "ytapgnackoclbeaa", sum := "e93d5e519cb844719e2e4297f8695d39c10918950da2dc328fb444bda1b9eedf", func := "portage/portagelaw03.RealSigns", spec := "realSigns", inPlace := ["math.Float64frombits", "math.Float64bits", "math.sqrt"], apart := false, narrowed := true }
def RealSignsUptoSaid : Prop := realSignsUptoRow.holds Try.pinned (OpenSpec.upto realSignsSpec)

/-- 'portagelaw03.RealRises', WHERE WHAT IT READS IS OF BULK AT MOST 1048576: true; the input reads as it did. -/
def realRisesUptoRow : OpenClaim := { program := "ytapgnackoclbeaa", sum := "e93d5e519cb844719e2e4297f8695d39c10918950da2dc328fb444bda1b9eedf", func := "portage/portagelaw03.RealRises", spec := "realRises", inPlace := ["math.Float64frombits", "math.Float64bits", "math.sqrt", "math.archFloor", "math.archTrunc"], apart := false, narrowed := true }
def RealRisesUptoSaid : Prop := realRisesUptoRow.holds Try.pinned (OpenSpec.upto realRisesSpec)

/-- 'portagelaw03.RealSingles', WHERE WHAT IT READS IS OF BULK AT MOST 1048576: true; the input reads as it did. -/
def realSinglesUptoRow : OpenClaim := { program := "ytapgnackoclbeaa", sum := "e93d5e519cb844719e2e4297f8695d39c10918950da2dc328fb444bda1b9eedf", func := "portage/portagelaw03.RealSingles", spec := "realSingles", inPlace := ["math.Float64frombits", "math.Float64bits", "math.sqrt", "math.archFloor", "math.archTrunc"], apart := false, narrowed := true }
def RealSinglesUptoSaid : Prop := realSinglesUptoRow.holds Try.pinned (OpenSpec.upto realSinglesSpec)

/-- 'portagelaw03.RealWhole', WHERE WHAT IT READS IS OF BULK AT MOST 1048576: true; the input reads as it did. -/
def realWholeUptoRow : OpenClaim := { program := "ytapgnackoclbeaa", sum := "e93d5e519cb844719e2e4297f8695d39c10918950da2dc328fb444bda1b9eedf", func := "portage/portagelaw03.RealWhole", spec := "realWhole", inPlace := ["math.Float64bits", "math.Float64frombits", "math.archFloor", "math.archTrunc", "math.sqrt"], apart := false, narrowed := true }
def RealWholeUptoSaid : Prop := realWholeUptoRow.holds Try.pinned (OpenSpec.upto realWholeSpec)

/-- 'portagelaw03.RealFloors', WHERE WHAT IT READS IS OF BULK AT MOST 1048576: true; the input reads as it did. -/
def realFloorsUptoRow : OpenClaim := { program := "ytapgnackoclbeaa", sum := "e93d5e519cb844719e2e4297f8695d39c10918950da2dc328fb444bda1b9eedf", func := "portage/portagelaw03.RealFloors", spec := "realFloors", inPlace := ["math.Float64frombits", "math.archFloor", "math.Float64bits", "math.archTrunc", "math.sqrt"], apart := false, narrowed := true }
def RealFloorsUptoSaid : Prop := realFloorsUptoRow.holds Try.pinned (OpenSpec.upto realFloorsSpec)

/-- 'portagelaw03.RealOnes', WHERE WHAT IT READS IS OF BULK AT MOST 1048576: true; the input reads as it did. -/
def realOnesUptoRow : OpenClaim := { program := "ytapgnackoclbeaa", sum := "e93d5e519cb844719e2e4297f8695d39c10918950da2dc328fb444bda1b9eedf", func := "portage/portagelaw03.RealOnes", spec := "realOnes", inPlace := ["math.Float64frombits", "math.Float64bits", "math.sqrt", "math.archFloor", "math.archTrunc"], apart := false, narrowed := true }
def RealOnesUptoSaid : Prop := realOnesUptoRow.holds Try.pinned (OpenSpec.upto realOnesSpec)

/-- 'portagelaw03.RealProper', WHERE WHAT IT READS IS OF BULK AT MOST 1048576: true; the input reads as it did. -/
def realProperUptoRow : OpenClaim := { program := "ytapgnackoclbeaa", sum := "e93d5e519cb844719e2e4297f8695d39c10918950da2dc328fb444bda1b9eedf", func := "portage/portagelaw03.RealProper", spec := "realProper", inPlace := ["math.Float64frombits", "math.Float64bits", "math.sqrt", "math.archFloor", "math.archTrunc"], apart := false, narrowed := true }
def RealProperUptoSaid : Prop := realProperUptoRow.holds Try.pinned (OpenSpec.upto realProperSpec)

/-- 'portagelaw03.RealNames', WHERE WHAT IT READS IS OF BULK AT MOST 1048576: true; the input reads as it did. -/
def realNamesUptoRow : OpenClaim := { program := "ytapgnackoclbeaa", sum := "e93d5e519cb844719e2e4297f8695d39c10918950da2dc328fb444bda1b9eedf", func := "portage/portagelaw03.RealNames", spec := "realNames", inPlace := ["math.Float64frombits", "math.Float64bits", "math.sqrt", "math.archFloor", "math.archTrunc"], apart := false, narrowed := true }
def RealNamesUptoSaid : Prop := realNamesUptoRow.holds Try.pinned (OpenSpec.upto realNamesSpec)

end Rows
end Go.Proofs.Ytapgnackoclbeaa
