/- gather's contract: a list of frames of the call's own, apart, with one more behind it. -/
import Derived.Test.YtgbbcjooieggpaaPFrx0
namespace Go.Proofs.Ytgbbcjooieggpaa.PFr
open Go.RowKit Go.Proofs.YtgbbcjooieggpaaW.PrintWords Go.Proofs.YtgbbcjooieggpaaW.PrintLast Go.Proofs.YtgbbcjooieggpaaW.PrintMore
set_option linter.unusedVariables false
set_option linter.unusedSimpArgs false
/-- 'gather' -/
def deopt_gather.f (l m : List S27) : Option (List S27) := if (l.length + m.length) * 40 ≤ 140737488355328 then some (l ++ m) else none
theorem gather_len {l m r : List S27} (h : deopt_gather.f l m = some r) : (l.length + m.length) * 40 ≤ 140737488355328 := by
  unfold deopt_gather.f at h
  split at h
  · assumption
  · cases h
theorem gather_eq {l m r : List S27} (h : deopt_gather.f l m = some r) : r = l ++ m := by
  unfold deopt_gather.f at h
  split at h
  · exact (Option.some.inj h).symm
  · cases h
set_option maxHeartbeats 800000 in
theorem gather_S (xs : List S27) (p : S27) (A0 : Option Addr) (c0 : Nat) (ok okp : Nat → Prop) (cs : List Value) (w0 W : World) (base : Nat)
    (hO : Kd.S k27 27 W base (fun k => ok k ∧ ¬ okp k) (.slice A0 xs.length c0) xs) (hp : k27.M W base okp p cs) (hokp : ∀ k, okp k → ok k ∧ some k ≠ (.slice A0 xs.length c0 : Value).ownBlock) (hfresh : ∀ k, W.heap.size ≤ k → ok k)
    (hB : Below base w0 W) (hbase : base ≤ W.heap.size) (hl : (xs.length + 1) * 40 ≤ 140737488355328) :
    Calls Try.prog 45 #[.slice A0 xs.length c0, .slice (some ⟨W.heap.size, 0, none⟩) 1 1] (W.alloc (.cells cs.toArray 27)) fun e w' => ∃ v1, e = .returned v1 ∧ Kd.S k27 27 w' base ok v1 (xs ++ [p]) ∧ Below base w0 w' ∧ W.grownBy w' (.slice A0 xs.length c0 : Value).ownBlock := by
  have HO := Aside0.mk hO
  have HP := Aside0.mk hp
  have HK := Aside0.mk hokp
  have HF := Aside0.mk hfresh
  have HB := Aside0.mk hB
  have HS := Aside0.mk hbase
  have HL := Aside0.mk hl
  clear hO hp hokp hfresh hB hbase hl
  go_enter Try.func45, Try.ntmps45
  go_wp2_with (first | ((with_reducible refine gate_builtin (b := .append) (xs := #[.tmp 5, .tmp 6]) rfl ?_); at_builtin; refine Kd.S_append k27 (w0 := w0) base rfl (.tmp 5) (.tmp 6) 50 27 (.agg #[(.int .i64 0), (.int .i64 0), (.slice none 0 0)]) 40 rfl Try.underlying50 info27 rfl (by decide) (by omega) (.slice A0 xs.length c0) xs p cs ok okp rfl rfl HP.out HK.out ?aF ?aO ?aB ?aS ?aL ?_; (case aO => exact HO.out); (case aF => exact HF.out); (case aB => exact HB.out); (case aS => exact HS.out); (case aL => exact HL.out); intro v1 w1 hn hb hg _; have HN := Aside0.mk hn; have HB1 := Aside0.mk hb; have HG := Aside0.mk hg; clear hn hb hg))
  go_ret
  exact ⟨_, rfl, HN.out, HB1.out, HG.out⟩
end Go.Proofs.Ytgbbcjooieggpaa.PFr
