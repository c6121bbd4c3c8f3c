/-
  No cell of these rows narrows 'for every input' (looked for: loops, veiled, ifaces, maps, wideKeys, modest, calm, conditions, laid).
  DERIVED. THE GIVEN ROWS OF THIS SEAT. 8 by the template 'for every input the law returns true; each argument reads behind the call as it read before'; 0 by the template 'total and deterministic' (their statements: YtmeaepmimnmjlaaTotals.lean).
  GIVEN WITH THE SEED: the statements are not yours to turn. If you find one false, say at which input.
  Laid BY PROGRAM, IN A SANDBOX (cutbox-rows.mjs): the forced cells as the released guide's own fill.sh prints them over the translation 9782b29745f7dd65… (all of the seat's roots in one cut). By AI agents, Wed Nov 11 2026. No macro, syntax, notation, axiom, sorry.
-/
import Derived.Test.YtmeaepmimnmjlaaChecked
import GoSem.Claim
import GoSem.ClaimJoined
import GoSem.ClaimMapViews
import Derived.JoinedTies
import Derived.KernelRfl
namespace Go.Proofs.Ytmeaepmimnmjlaa
/- THE CELL 'sum', in the pinned program and in every row, IS THE sha256 OF THE DUMP (.gsa) THAT YtmeaepmimnmjlaaProg.lean LOADS. Nothing in Lean hashes anything: it is a label: what it is worth is what the hold of that sum in a sandbox is worth. -/
noncomputable def Try.pinned : Pinned := { name := "ytmeaepmimnmjlaa", sum := "9782b29745f7dd6566d1b259e9adec136c9a7d9e1503e7de399362bcee69898a", checked := Try.checked }
namespace Rows
def none {H : Type} : Left H := { results := [], args := [] }

/-- 'portagelaw09.GraphBuild': WHATEVER THE INPUT: true; the input reads as it did. -/
def graphBuildSpec : ChangeSpec := { name := "graphBuild", fn := fun _ => fun
  | [d1, d2] => { results := [.lit (.bool true)], args := [d1, d2] }
  | _ => none }
def graphBuildRow : OpenClaim := { program := "ytmeaepmimnmjlaa", sum := "9782b29745f7dd6566d1b259e9adec136c9a7d9e1503e7de399362bcee69898a", func := "portage/portagelaw09.GraphBuild", spec := "graphBuild", unfollowed := true, recurses := true, apart := false }
def GraphBuildSaid : Prop := graphBuildRow.holds Try.pinned (OpenSpec.ofChange graphBuildSpec)

/-- ITS FALSE NEIGHBOUR: 'it returns false'. Refute it at one input. -/
def graphBuildWrong : ChangeSpec := { name := "graphBuild", fn := fun _ => fun
  | [d1, d2] => { results := [.lit (.bool false)], args := [d1, d2] }
  | _ => none }
def GraphBuildWrongFalsely : Prop := graphBuildRow.holds Try.pinned (OpenSpec.ofChange graphBuildWrong)

/-- 'portagelaw09.GraphMemory': WHATEVER THE INPUT: true; the input reads as it did. -/
def graphMemorySpec : ChangeSpec := { name := "graphMemory", fn := fun _ => fun
  | [d1, d2] => { results := [.lit (.bool true)], args := [d1, d2] }
  | _ => none }
def graphMemoryRow : OpenClaim := { program := "ytmeaepmimnmjlaa", sum := "9782b29745f7dd6566d1b259e9adec136c9a7d9e1503e7de399362bcee69898a", func := "portage/portagelaw09.GraphMemory", spec := "graphMemory", unfollowed := true, recurses := true, apart := false }
def GraphMemorySaid : Prop := graphMemoryRow.holds Try.pinned (OpenSpec.ofChange graphMemorySpec)

/-- ITS FALSE NEIGHBOUR: 'it returns false'. Refute it at one input. -/
def graphMemoryWrong : ChangeSpec := { name := "graphMemory", fn := fun _ => fun
  | [d1, d2] => { results := [.lit (.bool false)], args := [d1, d2] }
  | _ => none }
def GraphMemoryWrongFalsely : Prop := graphMemoryRow.holds Try.pinned (OpenSpec.ofChange graphMemoryWrong)

/-- 'portagelaw09.GraphPlaces': WHATEVER THE INPUT: true; the input reads as it did. -/
def graphPlacesSpec : ChangeSpec := { name := "graphPlaces", fn := fun _ => fun
  | [d] => { results := [.lit (.bool true)], args := [d] }
  | _ => none }
def graphPlacesRow : OpenClaim := { program := "ytmeaepmimnmjlaa", sum := "9782b29745f7dd6566d1b259e9adec136c9a7d9e1503e7de399362bcee69898a", func := "portage/portagelaw09.GraphPlaces", spec := "graphPlaces", unfollowed := true, recurses := true, apart := false }
def GraphPlacesSaid : Prop := graphPlacesRow.holds Try.pinned (OpenSpec.ofChange graphPlacesSpec)

/-- ITS FALSE NEIGHBOUR: 'it returns false'. Refute it at one input. -/
def graphPlacesWrong : ChangeSpec := { name := "graphPlaces", fn := fun _ => fun
  | [d] => { results := [.lit (.bool false)], args := [d] }
  | _ => none }
def GraphPlacesWrongFalsely : Prop := graphPlacesRow.holds Try.pinned (OpenSpec.ofChange graphPlacesWrong)

/-- 'portagelaw09.GraphBack': WHATEVER THE INPUT: true; the input reads as it did. -/
def graphBackSpec : ChangeSpec := { name := "graphBack", fn := fun _ => fun
  | [d] => { results := [.lit (.bool true)], args := [d] }
  | _ => none }
def graphBackRow : OpenClaim := { program := "ytmeaepmimnmjlaa", sum := "9782b29745f7dd6566d1b259e9adec136c9a7d9e1503e7de399362bcee69898a", func := "portage/portagelaw09.GraphBack", spec := "graphBack", unfollowed := true, recurses := true, apart := false }
def GraphBackSaid : Prop := graphBackRow.holds Try.pinned (OpenSpec.ofChange graphBackSpec)

/-- ITS FALSE NEIGHBOUR: 'it returns false'. Refute it at one input. -/
def graphBackWrong : ChangeSpec := { name := "graphBack", fn := fun _ => fun
  | [d] => { results := [.lit (.bool false)], args := [d] }
  | _ => none }
def GraphBackWrongFalsely : Prop := graphBackRow.holds Try.pinned (OpenSpec.ofChange graphBackWrong)

/-- 'portagelaw09.GraphAtOnce': WHATEVER THE INPUT: true; the input reads as it did. -/
def graphAtOnceSpec : ChangeSpec := { name := "graphAtOnce", fn := fun _ => fun
  | [d] => { results := [.lit (.bool true)], args := [d] }
  | _ => none }
def graphAtOnceRow : OpenClaim := { program := "ytmeaepmimnmjlaa", sum := "9782b29745f7dd6566d1b259e9adec136c9a7d9e1503e7de399362bcee69898a", func := "portage/portagelaw09.GraphAtOnce", spec := "graphAtOnce", unfollowed := true, recurses := true, apart := false }
def GraphAtOnceSaid : Prop := graphAtOnceRow.holds Try.pinned (OpenSpec.ofChange graphAtOnceSpec)

/-- ITS FALSE NEIGHBOUR: 'it returns false'. Refute it at one input. -/
def graphAtOnceWrong : ChangeSpec := { name := "graphAtOnce", fn := fun _ => fun
  | [d] => { results := [.lit (.bool false)], args := [d] }
  | _ => none }
def GraphAtOnceWrongFalsely : Prop := graphAtOnceRow.holds Try.pinned (OpenSpec.ofChange graphAtOnceWrong)

/-- 'portagelaw09.GraphOrders': WHATEVER THE INPUT: true; the input reads as it did. -/
def graphOrdersSpec : ChangeSpec := { name := "graphOrders", fn := fun _ => fun
  | [d] => { results := [.lit (.bool true)], args := [d] }
  | _ => none }
def graphOrdersRow : OpenClaim := { program := "ytmeaepmimnmjlaa", sum := "9782b29745f7dd6566d1b259e9adec136c9a7d9e1503e7de399362bcee69898a", func := "portage/portagelaw09.GraphOrders", spec := "graphOrders", unfollowed := true, recurses := true, apart := false }
def GraphOrdersSaid : Prop := graphOrdersRow.holds Try.pinned (OpenSpec.ofChange graphOrdersSpec)

/-- ITS FALSE NEIGHBOUR: 'it returns false'. Refute it at one input. -/
def graphOrdersWrong : ChangeSpec := { name := "graphOrders", fn := fun _ => fun
  | [d] => { results := [.lit (.bool false)], args := [d] }
  | _ => none }
def GraphOrdersWrongFalsely : Prop := graphOrdersRow.holds Try.pinned (OpenSpec.ofChange graphOrdersWrong)

/-- 'portagelaw09.GraphCuts': WHATEVER THE INPUT: true; the input reads as it did. -/
def graphCutsSpec : ChangeSpec := { name := "graphCuts", fn := fun _ => fun
  | [d] => { results := [.lit (.bool true)], args := [d] }
  | _ => none }
def graphCutsRow : OpenClaim := { program := "ytmeaepmimnmjlaa", sum := "9782b29745f7dd6566d1b259e9adec136c9a7d9e1503e7de399362bcee69898a", func := "portage/portagelaw09.GraphCuts", spec := "graphCuts", unfollowed := true, recurses := true, apart := false }
def GraphCutsSaid : Prop := graphCutsRow.holds Try.pinned (OpenSpec.ofChange graphCutsSpec)

/-- ITS FALSE NEIGHBOUR: 'it returns false'. Refute it at one input. -/
def graphCutsWrong : ChangeSpec := { name := "graphCuts", fn := fun _ => fun
  | [d] => { results := [.lit (.bool false)], args := [d] }
  | _ => none }
def GraphCutsWrongFalsely : Prop := graphCutsRow.holds Try.pinned (OpenSpec.ofChange graphCutsWrong)

/-- 'portagelaw09.GraphKnown': WHATEVER THE INPUT: true; the input reads as it did. -/
def graphKnownSpec : ChangeSpec := { name := "graphKnown", fn := fun _ => fun
  | [] => { results := [.lit (.bool true)], args := [] }
  | _ => none }
def graphKnownRow : OpenClaim := { program := "ytmeaepmimnmjlaa", sum := "9782b29745f7dd6566d1b259e9adec136c9a7d9e1503e7de399362bcee69898a", func := "portage/portagelaw09.GraphKnown", spec := "graphKnown", unfollowed := true, recurses := true, apart := false }
def GraphKnownSaid : Prop := graphKnownRow.holds Try.pinned (OpenSpec.ofChange graphKnownSpec)

/-- ITS FALSE NEIGHBOUR: 'it returns false'. Refute it at one input. -/
def graphKnownWrong : ChangeSpec := { name := "graphKnown", fn := fun _ => fun
  | [] => { results := [.lit (.bool false)], args := [] }
  | _ => none }
def GraphKnownWrongFalsely : Prop := graphKnownRow.holds Try.pinned (OpenSpec.ofChange graphKnownWrong)

/- THE SECOND FORM. 'bulk': how many values and letters a reading holds, each counted each time it is reached (what is shared counts as often as it is met; a slice's spare places count too). A statement '..UptoSaid' is the law's where the arguments, and the package variables that the reading takes, are together of bulk at most 1048576: NARROWER than '..Said'. Prove '..Said' where nothing that the law and all that it calls make is longer than what came in: it says more and counts as full. Else prove '..UptoSaid'. A law counts once. -/
mutual
def uptoBulk {H : Type} : DataW H → Nat
  | .lit (.string bytes) => bytes.length + 1
  | .lit _ => 1
  | .nil => 1
  | .ptr d => uptoBulk d + 1
  | .slice elems spare => uptoBulkAll elems + uptoBulkAll spare + 1
  | .agg parts => uptoBulkAll parts + 1
  | .iface _ d => uptoBulk d + 1
  | .map entries => uptoBulkEntries entries + 1
  | .held _ => 1
def uptoBulkAll {H : Type} : List (DataW H) → Nat
  | [] => 0
  | d :: r => uptoBulk d + uptoBulkAll r
def uptoBulkEntries {H : Type} : List (Lit × DataW H) → Nat
  | [] => 0
  | x :: r => uptoBulkEntry x + uptoBulkEntries r
def uptoBulkEntry {H : Type} : Lit × DataW H → Nat
  | (.string bytes, d) => bytes.length + uptoBulk d + 1
  | (_, d) => uptoBulk d + 1
 end
def uptoSmall : (H : Type) → List (DataW H) → Bool := fun _ ds => decide (uptoBulkAll ds ≤ 1048576)
def OpenSpec.upto (s : _root_.Go.ChangeSpec) : _root_.Go.OpenSpec := { _root_.Go.OpenSpec.ofChange s with cond := some uptoSmall }

/-- 'portagelaw09.GraphBuild', WHERE WHAT IT READS IS OF BULK AT MOST 1048576: true; the input reads as it did. -/
def graphBuildUptoRow : OpenClaim := { program := "ytmeaepmimnmjlaa", sum := "9782b29745f7dd6566d1b259e9adec136c9a7d9e1503e7de399362bcee69898a", func := "portage/portagelaw09.GraphBuild", spec := "graphBuild", unfollowed := true, recurses := true, apart := false, narrowed := true }
def GraphBuildUptoSaid : Prop := graphBuildUptoRow.holds Try.pinned (OpenSpec.upto graphBuildSpec)

/-- 'portagelaw09.GraphMemory', WHERE WHAT IT READS IS OF BULK AT MOST 1048576: true; the input reads as it did. -/
def graphMemoryUptoRow : OpenClaim := { program := "ytmeaepmimnmjlaa", sum := "9782b29745f7dd6566d1b259e9adec136c9a7d9e1503e7de399362bcee69898a", func := "portage/portagelaw09.GraphMemory", spec := "graphMemory", unfollowed := true, recurses := true, apart := false, narrowed := true }
def GraphMemoryUptoSaid : Prop := graphMemoryUptoRow.holds Try.pinned (OpenSpec.upto graphMemorySpec)

/-- 'portagelaw09.GraphPlaces', WHERE WHAT IT READS IS OF BULK AT MOST 1048576: true; the input reads as it did. -/
def graphPlacesUptoRow : OpenClaim := { program := "ytmeaepmimnmjlaa", sum := "9782b29745f7dd6566d1b259e9adec136c9a7d9e1503e7de399362bcee69898a", func := "portage/portagelaw09.GraphPlaces", spec := "graphPlaces", unfollowed := true, recurses := true, apart := false, narrowed := true }
def GraphPlacesUptoSaid : Prop := graphPlacesUptoRow.holds Try.pinned (OpenSpec.upto graphPlacesSpec)

/-- 'portagelaw09.GraphBack', WHERE WHAT IT READS IS OF BULK AT MOST 1048576: true; the input reads as it did. -/
def graphBackUptoRow : OpenClaim := { program := "ytmeaepmimnmjlaa", sum := "9782b29745f7dd6566d1b259e9adec136c9a7d9e1503e7de399362bcee69898a", func := "portage/portagelaw09.GraphBack", spec := "graphBack", unfollowed := true, recurses := true, apart := false, narrowed := true }
def GraphBackUptoSaid : Prop := graphBackUptoRow.holds Try.pinned (OpenSpec.upto graphBackSpec)

/-- 'portagelaw09.GraphAtOnce', WHERE WHAT IT READS IS OF BULK AT MOST 1048576: true; the input reads as it did. -/
def graphAtOnceUptoRow : OpenClaim := { program := "ytmeaepmimnmjlaa", sum := "9782b29745f7dd6566d1b259e9adec136c9a7d9e1503e7de399362bcee69898a", func := "portage/portagelaw09.GraphAtOnce", spec := "graphAtOnce", unfollowed := true, recurses := true, apart := false, narrowed := true }
def GraphAtOnceUptoSaid : Prop := graphAtOnceUptoRow.holds Try.pinned (OpenSpec.upto graphAtOnceSpec)

/-- 'portagelaw09.GraphOrders', WHERE WHAT IT READS IS OF BULK AT MOST 1048576: true; the input reads as it did. -/
def graphOrdersUptoRow : OpenClaim := { program := "ytmeaepmimnmjlaa", sum := "9782b29745f7dd6566d1b259e9adec136c9a7d9e1503e7de399362bcee69898a", func := "portage/portagelaw09.GraphOrders", spec := "graphOrders", unfollowed := true, recurses := true, apart := false, narrowed := true }
def GraphOrdersUptoSaid : Prop := graphOrdersUptoRow.holds Try.pinned (OpenSpec.upto graphOrdersSpec)

/-- 'portagelaw09.GraphCuts', WHERE WHAT IT READS IS OF BULK AT MOST 1048576: true; the input reads as it did. -/
def graphCutsUptoRow : OpenClaim := { program := "ytmeaepmimnmjlaa", sum := "9782b29745f7dd6566d1b259e9adec136c9a7d9e1503e7de399362bcee69898a", func := "portage/portagelaw09.GraphCuts", spec := "graphCuts", unfollowed := true, recurses := true, apart := false, narrowed := true }
def GraphCutsUptoSaid : Prop := graphCutsUptoRow.holds Try.pinned (OpenSpec.upto graphCutsSpec)

/-- 'portagelaw09.GraphKnown', WHERE WHAT IT READS IS OF BULK AT MOST 1048576: true; the input reads as it did. -/
def graphKnownUptoRow : OpenClaim := { program := "ytmeaepmimnmjlaa", sum := "9782b29745f7dd6566d1b259e9adec136c9a7d9e1503e7de399362bcee69898a", func := "portage/portagelaw09.GraphKnown", spec := "graphKnown", unfollowed := true, recurses := true, apart := false, narrowed := true }
def GraphKnownUptoSaid : Prop := graphKnownUptoRow.holds Try.pinned (OpenSpec.upto graphKnownSpec)

end Rows
end Go.Proofs.Ytmeaepmimnmjlaa
