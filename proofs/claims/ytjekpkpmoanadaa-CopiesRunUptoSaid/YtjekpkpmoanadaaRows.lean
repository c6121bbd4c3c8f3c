/-
  No cell of these rows narrows 'for every input' (looked for: loops, veiled, ifaces, maps, wideKeys, modest, calm, conditions, laid).
  DERIVED. THE GIVEN ROWS OF THIS SEAT. 5 by the template 'for every input the law returns true; each argument reads behind the call as it read before'; 0 by the template 'total and deterministic' (their statements: YtjekpkpmoanadaaTotals.lean).
  GIVEN WITH THE SEED: the statements are not yours to turn. If you find one false, say at which input.
  Laid BY PROGRAM, IN A SANDBOX (cutbox-rows.mjs): the forced cells as the released guide's own fill.sh prints them over the translation 241c5aac4e7cb6ee… (all of the seat's roots in one cut). By AI agents, Wed Nov 11 2026. No macro, syntax, notation, axiom, sorry.
-/
import Derived.Test.YtjekpkpmoanadaaChecked
import GoSem.Claim
import GoSem.ClaimJoined
import GoSem.ClaimMapViews
import Derived.JoinedTies
import Derived.KernelRfl
namespace Go.Proofs.Ytjekpkpmoanadaa
/- THE CELL 'sum', in the pinned program and in every row, IS THE sha256 OF THE DUMP (.gsa) THAT YtjekpkpmoanadaaProg.lean LOADS. Nothing in Lean hashes anything: it is a label: what it is worth is what the hold of that sum in a sandbox is worth. -/
noncomputable def Try.pinned : Pinned := { name := "ytjekpkpmoanadaa", sum := "241c5aac4e7cb6eea6ac450b1e673d2901bd5a60bc02ef158be46eb2475e1ac6", checked := Try.checked }
namespace Rows
def none {H : Type} : Left H := { results := [], args := [] }

/-- 'portagelaw22.CopiesRun': WHATEVER THE INPUT: true; the input reads as it did. -/
def copiesRunSpec : ChangeSpec := { name := "copiesRun", fn := fun _ => fun
  | [d] => { results := [.lit (.bool true)], args := [d] }
  | _ => none }
def copiesRunRow : OpenClaim := { program := "ytjekpkpmoanadaa", sum := "241c5aac4e7cb6eea6ac450b1e673d2901bd5a60bc02ef158be46eb2475e1ac6", func := "portage/portagelaw22.CopiesRun", spec := "copiesRun", apart := false }
def CopiesRunSaid : Prop := copiesRunRow.holds Try.pinned (OpenSpec.ofChange copiesRunSpec)

/-- ITS FALSE NEIGHBOUR: 'it returns false'. Refute it at one input. -/
def copiesRunWrong : ChangeSpec := { name := "copiesRun", fn := fun _ => fun
  | [d] => { results := [.lit (.bool false)], args := [d] }
  | _ => none }
def CopiesRunWrongFalsely : Prop := copiesRunRow.holds Try.pinned (OpenSpec.ofChange copiesRunWrong)

/-- 'portagelaw22.CopiesAgain': WHATEVER THE INPUT: true; the input reads as it did. -/
def copiesAgainSpec : ChangeSpec := { name := "copiesAgain", fn := fun _ => fun
  | [d] => { results := [.lit (.bool true)], args := [d] }
  | _ => none }
def copiesAgainRow : OpenClaim := { program := "ytjekpkpmoanadaa", sum := "241c5aac4e7cb6eea6ac450b1e673d2901bd5a60bc02ef158be46eb2475e1ac6", func := "portage/portagelaw22.CopiesAgain", spec := "copiesAgain", apart := false }
def CopiesAgainSaid : Prop := copiesAgainRow.holds Try.pinned (OpenSpec.ofChange copiesAgainSpec)

/-- ITS FALSE NEIGHBOUR: 'it returns false'. Refute it at one input. -/
def copiesAgainWrong : ChangeSpec := { name := "copiesAgain", fn := fun _ => fun
  | [d] => { results := [.lit (.bool false)], args := [d] }
  | _ => none }
def CopiesAgainWrongFalsely : Prop := copiesAgainRow.holds Try.pinned (OpenSpec.ofChange copiesAgainWrong)

/-- 'portagelaw22.CopiesSource': WHATEVER THE INPUT: true; the input reads as it did. -/
def copiesSourceSpec : ChangeSpec := { name := "copiesSource", fn := fun _ => fun
  | [d] => { results := [.lit (.bool true)], args := [d] }
  | _ => none }
def copiesSourceRow : OpenClaim := { program := "ytjekpkpmoanadaa", sum := "241c5aac4e7cb6eea6ac450b1e673d2901bd5a60bc02ef158be46eb2475e1ac6", func := "portage/portagelaw22.CopiesSource", spec := "copiesSource", apart := false }
def CopiesSourceSaid : Prop := copiesSourceRow.holds Try.pinned (OpenSpec.ofChange copiesSourceSpec)

/-- ITS FALSE NEIGHBOUR: 'it returns false'. Refute it at one input. -/
def copiesSourceWrong : ChangeSpec := { name := "copiesSource", fn := fun _ => fun
  | [d] => { results := [.lit (.bool false)], args := [d] }
  | _ => none }
def CopiesSourceWrongFalsely : Prop := copiesSourceRow.holds Try.pinned (OpenSpec.ofChange copiesSourceWrong)

/-- 'portagelaw22.CopiesKnown': WHATEVER THE INPUT: true; the input reads as it did. -/
def copiesKnownSpec : ChangeSpec := { name := "copiesKnown", fn := fun _ => fun
  | [] => { results := [.lit (.bool true)], args := [] }
  | _ => none }
def copiesKnownRow : OpenClaim := { program := "ytjekpkpmoanadaa", sum := "241c5aac4e7cb6eea6ac450b1e673d2901bd5a60bc02ef158be46eb2475e1ac6", func := "portage/portagelaw22.CopiesKnown", spec := "copiesKnown", apart := false }
def CopiesKnownSaid : Prop := copiesKnownRow.holds Try.pinned (OpenSpec.ofChange copiesKnownSpec)

/-- ITS FALSE NEIGHBOUR: 'it returns false'. Refute it at one input. -/
def copiesKnownWrong : ChangeSpec := { name := "copiesKnown", fn := fun _ => fun
  | [] => { results := [.lit (.bool false)], args := [] }
  | _ => none }
def CopiesKnownWrongFalsely : Prop := copiesKnownRow.holds Try.pinned (OpenSpec.ofChange copiesKnownWrong)

/-- 'portagelaw22.CopiesKeeps': WHATEVER THE INPUT: true; the input reads as it did. -/
def copiesKeepsSpec : ChangeSpec := { name := "copiesKeeps", fn := fun _ => fun
  | [d] => { results := [.lit (.bool true)], args := [d] }
  | _ => none }
def copiesKeepsRow : OpenClaim := { program := "ytjekpkpmoanadaa", sum := "241c5aac4e7cb6eea6ac450b1e673d2901bd5a60bc02ef158be46eb2475e1ac6", func := "portage/portagelaw22.CopiesKeeps", spec := "copiesKeeps", apart := false }
def CopiesKeepsSaid : Prop := copiesKeepsRow.holds Try.pinned (OpenSpec.ofChange copiesKeepsSpec)

/-- ITS FALSE NEIGHBOUR: 'it returns false'. Refute it at one input. -/
def copiesKeepsWrong : ChangeSpec := { name := "copiesKeeps", fn := fun _ => fun
  | [d] => { results := [.lit (.bool false)], args := [d] }
  | _ => none }
def CopiesKeepsWrongFalsely : Prop := copiesKeepsRow.holds Try.pinned (OpenSpec.ofChange copiesKeepsWrong)

/- THE SECOND FORM. 'bulk': how many values and letters a reading holds, each counted each time it is reached (what is shared counts as often as it is met; a slice's spare places count too). A statement '..UptoSaid' is the law's where the arguments, and the package variables that the reading takes, are together of bulk at most 1048576: NARROWER than '..Said'. Prove '..Said' where nothing that the law and all that it calls make is longer than what came in: it says more and counts as full. Else prove '..UptoSaid'. A law counts once. -/
mutual
def uptoBulk {H : Type} : DataW H → Nat
  | .lit (.string bytes) => bytes.length + 1
  | .lit _ => 1
  | .nil => 1
  | .ptr d => uptoBulk d + 1
  | .slice elems spare => uptoBulkAll elems + uptoBulkAll spare + 1
  | .agg parts => uptoBulkAll parts + 1
  | .iface _ d => uptoBulk d + 1
  | .map entries => uptoBulkEntries entries + 1
  | .held _ => 1
def uptoBulkAll {H : Type} : List (DataW H) → Nat
  | [] => 0
  | d :: r => uptoBulk d + uptoBulkAll r
def uptoBulkEntries {H : Type} : List (Lit × DataW H) → Nat
  | [] => 0
  | x :: r => uptoBulkEntry x + uptoBulkEntries r
def uptoBulkEntry {H : Type} : Lit × DataW H → Nat
  | (.string bytes, d) => bytes.length + uptoBulk d + 1
  | (_, d) => uptoBulk d + 1
 end
def uptoSmall : (H : Type) → List (DataW H) → Bool := fun _ ds => decide (uptoBulkAll ds ≤ 1048576)
def OpenSpec.upto (s : _root_.Go.ChangeSpec) : _root_.Go.OpenSpec := { _root_.Go.OpenSpec.ofChange s with cond := some uptoSmall }

/-- 'portagelaw22.CopiesRun', WHERE WHAT IT READS IS OF BULK AT MOST 1048576: true; the input reads as it did. -/
def copiesRunUptoRow : OpenClaim := { program := "ytjekpkpmoanadaa", sum := "241c5aac4e7cb6eea6ac450b1e673d2901bd5a60bc02ef158be46eb2475e1ac6", func := "portage/portagelaw22.CopiesRun", spec := "copiesRun", apart := false, narrowed := true }
def CopiesRunUptoSaid : Prop := copiesRunUptoRow.holds Try.pinned (OpenSpec.upto copiesRunSpec)

/-- 'portagelaw22.CopiesAgain', WHERE WHAT IT READS IS OF BULK AT MOST 1048576: true; the input reads as it did. -/
def copiesAgainUptoRow : OpenClaim := { program := "ytjekpkpmoanadaa", sum := "241c5aac4e7cb6eea6ac450b1e673d2901bd5a60bc02ef158be46eb2475e1ac6", func := "portage/portagelaw22.CopiesAgain", spec := "copiesAgain", apart := false, narrowed := true }
def CopiesAgainUptoSaid : Prop := copiesAgainUptoRow.holds Try.pinned (OpenSpec.upto copiesAgainSpec)

/-- 'portagelaw22.CopiesSource', WHERE WHAT IT READS IS OF BULK AT MOST 1048576: true; the input reads as it did. -/
def copiesSourceUptoRow : OpenClaim := { program := "ytjekpkpmoanadaa", sum := "241c5aac4e7cb6eea6ac450b1e673d2901bd5a60bc02ef158be46eb2475e1ac6", func := "portage/portagelaw22.CopiesSource", spec := "copiesSource", apart := false, narrowed := true }
def CopiesSourceUptoSaid : Prop := copiesSourceUptoRow.holds Try.pinned (OpenSpec.upto copiesSourceSpec)

/-- 'portagelaw22.CopiesKnown', WHERE WHAT IT READS IS OF BULK AT MOST 1048576: true; the input reads as it did. -/
def copiesKnownUptoRow : OpenClaim := { program := "ytjekpkpmoanadaa", sum := "241c5aac4e7cb6eea6ac450b1e673d2901bd5a60bc02ef158be46eb2475e1ac6", func := "portage/portagelaw22.CopiesKnown", spec := "copiesKnown", apart := false, narrowed := true }
def CopiesKnownUptoSaid : Prop := copiesKnownUptoRow.holds Try.pinned (OpenSpec.upto copiesKnownSpec)

/-- 'portagelaw22.CopiesKeeps', WHERE WHAT IT READS IS OF BULK AT MOST 1048576: true; the input reads as it did. -/
def copiesKeepsUptoRow : OpenClaim := { program := "ytjekpkpmoanadaa", sum := "241c5aac4e7cb6eea6ac450b1e673d2901bd5a60bc02ef158be46eb2475e1ac6", func := "portage/portagelaw22.CopiesKeeps", spec := "copiesKeeps", apart := false, narrowed := true }
def CopiesKeepsUptoSaid : Prop := copiesKeepsUptoRow.holds Try.pinned (OpenSpec.upto copiesKeepsSpec)

end Rows
end Go.Proofs.Ytjekpkpmoanadaa
