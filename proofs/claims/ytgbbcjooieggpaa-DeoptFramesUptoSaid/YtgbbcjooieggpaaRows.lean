/-
  No cell of these rows narrows 'for every input' (looked for: loops, veiled, ifaces, maps, wideKeys, modest, calm, conditions, laid).
  DERIVED. THE GIVEN ROWS OF THIS SEAT. 7 by the template 'for every input the law returns true; each argument reads behind the call as it read before'; 0 by the template 'total and deterministic' (their statements: YtgbbcjooieggpaaTotals.lean).
  GIVEN WITH THE SEED: the statements are not yours to turn. If you find one false, say at which input.
  Laid BY PROGRAM, IN A SANDBOX (cutbox-rows.mjs): the forced cells as the released guide's own fill.sh prints them over the translation 94f581d81dc70bac… (all of the seat's roots in one cut). By AI agents, Wed Nov 11 2026. No macro, syntax, notation, axiom, sorry.
-/
import Derived.Test.YtgbbcjooieggpaaChecked
import GoSem.Claim
import GoSem.ClaimJoined
import GoSem.ClaimMapViews
import Derived.JoinedTies
import Derived.KernelRfl
namespace Go.Proofs.Ytgbbcjooieggpaa
/- THE CELL 'sum', in the pinned program and in every row, IS THE sha256 OF THE DUMP (.gsa) THAT YtgbbcjooieggpaaProg.lean LOADS. Nothing in Lean hashes anything: it is a label: what it is worth is what the hold of that sum in a sandbox is worth. -/
noncomputable def Try.pinned : Pinned := { name := "ytgbbcjooieggpaa", sum := "94f581d81dc70bac1600a508e448921c0b3e1820b2e933d8c09d17d024665069", checked := Try.checked }
namespace Rows
def none {H : Type} : Left H := { results := [], args := [] }

/-- 'portagelaw26.DeoptRegisters': WHATEVER THE INPUT: true; the input reads as it did. -/
def deoptRegistersSpec : ChangeSpec := { name := "deoptRegisters", fn := fun _ => fun
  | [d1, d2] => { results := [.lit (.bool true)], args := [d1, d2] }
  | _ => none }
def deoptRegistersRow : OpenClaim := { program := "ytgbbcjooieggpaa", sum := "94f581d81dc70bac1600a508e448921c0b3e1820b2e933d8c09d17d024665069", func := "portage/portagelaw26.DeoptRegisters", spec := "deoptRegisters", apart := false }
def DeoptRegistersSaid : Prop := deoptRegistersRow.holds Try.pinned (OpenSpec.ofChange deoptRegistersSpec)

/-- ITS FALSE NEIGHBOUR: 'it returns false'. Refute it at one input. -/
def deoptRegistersWrong : ChangeSpec := { name := "deoptRegisters", fn := fun _ => fun
  | [d1, d2] => { results := [.lit (.bool false)], args := [d1, d2] }
  | _ => none }
def DeoptRegistersWrongFalsely : Prop := deoptRegistersRow.holds Try.pinned (OpenSpec.ofChange deoptRegistersWrong)

/-- 'portagelaw26.DeoptValues': WHATEVER THE INPUT: true; the input reads as it did. -/
def deoptValuesSpec : ChangeSpec := { name := "deoptValues", fn := fun _ => fun
  | [d1, d2] => { results := [.lit (.bool true)], args := [d1, d2] }
  | _ => none }
def deoptValuesRow : OpenClaim := { program := "ytgbbcjooieggpaa", sum := "94f581d81dc70bac1600a508e448921c0b3e1820b2e933d8c09d17d024665069", func := "portage/portagelaw26.DeoptValues", spec := "deoptValues", inPlace := ["math.Float64frombits", "math.Float64bits"], apart := false }
def DeoptValuesSaid : Prop := deoptValuesRow.holds Try.pinned (OpenSpec.ofChange deoptValuesSpec)

/-- ITS FALSE NEIGHBOUR: 'it returns false'. Refute it at one input. -/
def deoptValuesWrong : ChangeSpec := { name := "deoptValues", fn := fun _ => fun
  | [d1, d2] => { results := [.lit (.bool false)], args := [d1, d2] }
  | _ => none }
def DeoptValuesWrongFalsely : Prop := deoptValuesRow.holds Try.pinned (OpenSpec.ofChange deoptValuesWrong)

/-- 'portagelaw26.DeoptFrames': WHATEVER THE INPUT: true; the input reads as it did. -/
def deoptFramesSpec : ChangeSpec := { name := "deoptFrames", fn := fun _ => fun
  | [d1, d2] => { results := [.lit (.bool true)], args := [d1, d2] }
  | _ => none }
def deoptFramesRow : OpenClaim := { program := "ytgbbcjooieggpaa", sum := "94f581d81dc70bac1600a508e448921c0b3e1820b2e933d8c09d17d024665069", func := "portage/portagelaw26.DeoptFrames", spec := "deoptFrames", inPlace := ["math.Float64frombits", "math.Float64bits"], apart := false }
def DeoptFramesSaid : Prop := deoptFramesRow.holds Try.pinned (OpenSpec.ofChange deoptFramesSpec)

/-- ITS FALSE NEIGHBOUR: 'it returns false'. Refute it at one input. -/
def deoptFramesWrong : ChangeSpec := { name := "deoptFrames", fn := fun _ => fun
  | [d1, d2] => { results := [.lit (.bool false)], args := [d1, d2] }
  | _ => none }
def DeoptFramesWrongFalsely : Prop := deoptFramesRow.holds Try.pinned (OpenSpec.ofChange deoptFramesWrong)

/-- 'portagelaw26.DeoptKnown': WHATEVER THE INPUT: true; the input reads as it did. -/
def deoptKnownSpec : ChangeSpec := { name := "deoptKnown", fn := fun _ => fun
  | [] => { results := [.lit (.bool true)], args := [] }
  | _ => none }
def deoptKnownRow : OpenClaim := { program := "ytgbbcjooieggpaa", sum := "94f581d81dc70bac1600a508e448921c0b3e1820b2e933d8c09d17d024665069", func := "portage/portagelaw26.DeoptKnown", spec := "deoptKnown", inPlace := ["math.Float64frombits", "math.Float64bits"], apart := false }
def DeoptKnownSaid : Prop := deoptKnownRow.holds Try.pinned (OpenSpec.ofChange deoptKnownSpec)

/-- ITS FALSE NEIGHBOUR: 'it returns false'. Refute it at one input. -/
def deoptKnownWrong : ChangeSpec := { name := "deoptKnown", fn := fun _ => fun
  | [] => { results := [.lit (.bool false)], args := [] }
  | _ => none }
def DeoptKnownWrongFalsely : Prop := deoptKnownRow.holds Try.pinned (OpenSpec.ofChange deoptKnownWrong)

/-- 'portagelaw26.DeoptRound': WHATEVER THE INPUT: true; the input reads as it did. -/
def deoptRoundSpec : ChangeSpec := { name := "deoptRound", fn := fun _ => fun
  | [d1, d2, d3] => { results := [.lit (.bool true)], args := [d1, d2, d3] }
  | _ => none }
def deoptRoundRow : OpenClaim := { program := "ytgbbcjooieggpaa", sum := "94f581d81dc70bac1600a508e448921c0b3e1820b2e933d8c09d17d024665069", func := "portage/portagelaw26.DeoptRound", spec := "deoptRound", inPlace := ["math.Float64frombits", "math.Float64bits"], apart := false }
def DeoptRoundSaid : Prop := deoptRoundRow.holds Try.pinned (OpenSpec.ofChange deoptRoundSpec)

/-- ITS FALSE NEIGHBOUR: 'it returns false'. Refute it at one input. -/
def deoptRoundWrong : ChangeSpec := { name := "deoptRound", fn := fun _ => fun
  | [d1, d2, d3] => { results := [.lit (.bool false)], args := [d1, d2, d3] }
  | _ => none }
def DeoptRoundWrongFalsely : Prop := deoptRoundRow.holds Try.pinned (OpenSpec.ofChange deoptRoundWrong)

/-- 'portagelaw26.DeoptPieces': WHATEVER THE INPUT: true; the input reads as it did. -/
def deoptPiecesSpec : ChangeSpec := { name := "deoptPieces", fn := fun _ => fun
  | [d1, d2, d3] => { results := [.lit (.bool true)], args := [d1, d2, d3] }
  | _ => none }
def deoptPiecesRow : OpenClaim := { program := "ytgbbcjooieggpaa", sum := "94f581d81dc70bac1600a508e448921c0b3e1820b2e933d8c09d17d024665069", func := "portage/portagelaw26.DeoptPieces", spec := "deoptPieces", inPlace := ["math.Float64frombits", "math.Float64bits"], apart := false }
def DeoptPiecesSaid : Prop := deoptPiecesRow.holds Try.pinned (OpenSpec.ofChange deoptPiecesSpec)

/-- ITS FALSE NEIGHBOUR: 'it returns false'. Refute it at one input. -/
def deoptPiecesWrong : ChangeSpec := { name := "deoptPieces", fn := fun _ => fun
  | [d1, d2, d3] => { results := [.lit (.bool false)], args := [d1, d2, d3] }
  | _ => none }
def DeoptPiecesWrongFalsely : Prop := deoptPiecesRow.holds Try.pinned (OpenSpec.ofChange deoptPiecesWrong)

/-- 'portagelaw26.DeoptOnly': WHATEVER THE INPUT: true; the input reads as it did. -/
def deoptOnlySpec : ChangeSpec := { name := "deoptOnly", fn := fun _ => fun
  | [d1, d2, d3] => { results := [.lit (.bool true)], args := [d1, d2, d3] }
  | _ => none }
def deoptOnlyRow : OpenClaim := { program := "ytgbbcjooieggpaa", sum := "94f581d81dc70bac1600a508e448921c0b3e1820b2e933d8c09d17d024665069", func := "portage/portagelaw26.DeoptOnly", spec := "deoptOnly", inPlace := ["math.Float64frombits", "math.Float64bits"], apart := false }
def DeoptOnlySaid : Prop := deoptOnlyRow.holds Try.pinned (OpenSpec.ofChange deoptOnlySpec)

/-- ITS FALSE NEIGHBOUR: 'it returns false'. Refute it at one input. -/
def deoptOnlyWrong : ChangeSpec := { name := "deoptOnly", fn := fun _ => fun
  | [d1, d2, d3] => { results := [.lit (.bool false)], args := [d1, d2, d3] }
  | _ => none }
def DeoptOnlyWrongFalsely : Prop := deoptOnlyRow.holds Try.pinned (OpenSpec.ofChange deoptOnlyWrong)

/- THE SECOND FORM. 'bulk': how many values and letters a reading holds, each counted each time it is reached (what is shared counts as often as it is met; a slice's spare places count too). A statement '..UptoSaid' is the law's where the arguments, and the package variables that the reading takes, are together of bulk at most 1048576: NARROWER than '..Said'. Prove '..Said' where nothing that the law and all that it calls make is longer than what came in: it says more and counts as full. Else prove '..UptoSaid'. A law counts once. -/
mutual
def uptoBulk {H : Type} : DataW H → Nat
  | .lit (.string bytes) => bytes.length + 1
  | .lit _ => 1
  | .nil => 1
  | .ptr d => uptoBulk d + 1
  | .slice elems spare => uptoBulkAll elems + uptoBulkAll spare + 1
  | .agg parts => uptoBulkAll parts + 1
  | .iface _ d => uptoBulk d + 1
  | .map entries => uptoBulkEntries entries + 1
  | .held _ => 1
def uptoBulkAll {H : Type} : List (DataW H) → Nat
  | [] => 0
  | d :: r => uptoBulk d + uptoBulkAll r
def uptoBulkEntries {H : Type} : List (Lit × DataW H) → Nat
  | [] => 0
  | x :: r => uptoBulkEntry x + uptoBulkEntries r
def uptoBulkEntry {H : Type} : Lit × DataW H → Nat
  | (.string bytes, d) => bytes.length + uptoBulk d + 1
  | (_, d) => uptoBulk d + 1
 end
def uptoSmall : (H : Type) → List (DataW H) → Bool := fun _ ds => decide (uptoBulkAll ds ≤ 1048576)
def OpenSpec.upto (s : _root_.Go.ChangeSpec) : _root_.Go.OpenSpec := { _root_.Go.OpenSpec.ofChange s with cond := some uptoSmall }

/-- 'portagelaw26.DeoptRegisters', WHERE WHAT IT READS IS OF BULK AT MOST 1048576: true; the input reads as it did. -/
def deoptRegistersUptoRow : OpenClaim := { program := "ytgbbcjooieggpaa", sum := "94f581d81dc70bac1600a508e448921c0b3e1820b2e933d8c09d17d024665069", func := "portage/portagelaw26.DeoptRegisters", spec := "deoptRegisters", apart := false, narrowed := true }
def DeoptRegistersUptoSaid : Prop := deoptRegistersUptoRow.holds Try.pinned (OpenSpec.upto deoptRegistersSpec)

/-- 'portagelaw26.DeoptValues', WHERE WHAT IT READS IS OF BULK AT MOST 1048576: true; the input reads as it did. -/
def deoptValuesUptoRow : OpenClaim := { program := "ytgbbcjooieggpaa", sum := "94f581d81dc70bac1600a508e448921c0b3e1820b2e933d8c09d17d024665069", func := "portage/portagelaw26.DeoptValues", spec := "deoptValues", inPlace := ["math.Float64frombits", "math.Float64bits"], apart := false, narrowed := true }
def DeoptValuesUptoSaid : Prop := deoptValuesUptoRow.holds Try.pinned (OpenSpec.upto deoptValuesSpec)

/-- 'portagelaw26.DeoptFrames', WHERE WHAT IT READS IS OF BULK AT MOST 1048576: true; the input reads as it did. -/
def deoptFramesUptoRow : OpenClaim := { program := "ytgbbcjooieggpaa", sum := "94f581d81dc70bac1600a508e448921c0b3e1820b2e933d8c09d17d024665069", func := "portage/portagelaw26.DeoptFrames", spec := "deoptFrames", inPlace := ["math.Float64frombits", "math.Float64bits"], apart := false, narrowed := true }
def DeoptFramesUptoSaid : Prop := deoptFramesUptoRow.holds Try.pinned (OpenSpec.upto deoptFramesSpec)

/-- 'portagelaw26.DeoptKnown', WHERE WHAT IT READS IS OF BULK AT MOST 1048576: true; the input reads as it did. -/
def deoptKnownUptoRow : OpenClaim := { program := "ytgbbcjooieggpaa", sum := "94f581d81dc70bac1600a508e448921c0b3e1820b2e933d8c09d17d024665069", func := "portage/portagelaw26.DeoptKnown", spec := "deoptKnown", inPlace := ["math.Float64frombits", "math.Float64bits"], apart := false, narrowed := true }
def DeoptKnownUptoSaid : Prop := deoptKnownUptoRow.holds Try.pinned (OpenSpec.upto deoptKnownSpec)

/-- 'portagelaw26.DeoptRound', WHERE WHAT IT READS IS OF BULK AT MOST 1048576: true; the input reads as it did. -/
def deoptRoundUptoRow : OpenClaim := { program := "ytgbbcjooieggpaa", sum := "94f581d81dc70bac1600a508e448921c0b3e1820b2e933d8c09d17d024665069", func := "portage/portagelaw26.DeoptRound", spec := "deoptRound", inPlace := ["math.Float64frombits", "math.Float64bits"], apart := false, narrowed := true }
def DeoptRoundUptoSaid : Prop := deoptRoundUptoRow.holds Try.pinned (OpenSpec.upto deoptRoundSpec)

/-- 'portagelaw26.DeoptPieces', WHERE WHAT IT READS IS OF BULK AT MOST 1048576: true; the input reads as it did. -/
def deoptPiecesUptoRow : OpenClaim := { program := "ytgbbcjooieggpaa", sum := "94f581d81dc70bac1600a508e448921c0b3e1820b2e933d8c09d17d024665069", func := "portage/portagelaw26.DeoptPieces", spec := "deoptPieces", inPlace := ["math.Float64frombits", "math.Float64bits"], apart := false, narrowed := true }
def DeoptPiecesUptoSaid : Prop := deoptPiecesUptoRow.holds Try.pinned (OpenSpec.upto deoptPiecesSpec)

/-- 'portagelaw26.DeoptOnly', WHERE WHAT IT READS IS OF BULK AT MOST 1048576: true; the input reads as it did. -/
def deoptOnlyUptoRow : OpenClaim := { program := "ytgbbcjooieggpaa", sum := "94f581d81dc70bac1600a508e448921c0b3e1820b2e933d8c09d17d024665069", func := "portage/portagelaw26.DeoptOnly", spec := "deoptOnly", inPlace := ["math.Float64frombits", "math.Float64bits"], apart := false, narrowed := true }
def DeoptOnlyUptoSaid : Prop := deoptOnlyUptoRow.holds Try.pinned (OpenSpec.upto deoptOnlySpec)

end Rows
end Go.Proofs.Ytgbbcjooieggpaa
