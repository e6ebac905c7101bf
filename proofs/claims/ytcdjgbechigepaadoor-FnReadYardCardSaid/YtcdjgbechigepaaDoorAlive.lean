/- The fixed answer: alive() is true: the kernel runs it, in whatever world. -/
import Derived.Test.YtcdjgbechigepaaDoorBase
import Derived.Test.YtcdjgbechigepaaDoorProg
import Derived.Eval
namespace Go.Proofs.YtcdjgbechigepaaDoor
open Go.RowKit
noncomputable def aliveEnd : Frame := match runN Tryd.prog 1438 (lone (Frame.enter Tryd.prog 13 #[] .normal) [] default) with
  | .next m => (m.gs.getD 0 default).frame
  | _ => default
theorem alive_run (cs : List Frame) (w : World) : runN Tryd.prog 1438 (lone (Frame.enter Tryd.prog 13 #[] .normal) cs w) = .next (lone aliveEnd cs w) := by kernel_rfl
theorem alive_mode : (aliveEnd.mode, aliveEnd.defers, aliveEnd.kind, aliveEnd.fn) = (.returning, [], .normal, 13) := by kernel_rfl
theorem alive_out (w : World) : (results Tryd.f13 aliveEnd.tmps).run Tryd.prog w = .ok (.bool true) w := by kernel_rfl
theorem alive_any (w : World) : Calls Tryd.prog 13 #[] w fun e w' => e = .returned (.bool true) ∧ w = w' := by
  intro cs
  obtain ⟨h1, h2, h3, h4⟩ : aliveEnd.mode = .returning ∧ aliveEnd.defers = [] ∧ aliveEnd.kind = .normal ∧ aliveEnd.fn = 13 := by
    have h := alive_mode
    simp only [Prod.mk.injEq] at h
    exact h
  exact ⟨.returned (.bool true), w, aliveEnd, ⟨rfl, rfl⟩, ⟨1438, alive_run cs w⟩, h4, h1, h2, h3, Tryd.f13, by rw [h4]; exact Tryd.func13, alive_out w⟩
end Go.Proofs.YtcdjgbechigepaaDoor
