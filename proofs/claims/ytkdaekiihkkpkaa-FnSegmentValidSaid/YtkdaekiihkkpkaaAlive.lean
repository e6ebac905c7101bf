/- The fixed answer: alive() is true: the kernel runs it, in whatever world. -/
import Derived.Test.YtkdaekiihkkpkaaBase
import Derived.Test.YtkdaekiihkkpkaaProg
import Derived.Eval
namespace Go.Proofs.Ytkdaekiihkkpkaa
open Go.RowKit
noncomputable def aliveEnd : Frame := match runN Try.prog 1438 (lone (Frame.enter Try.prog 7 #[] .normal) [] default) with
  | .next m => (m.gs.getD 0 default).frame
  | _ => default
theorem alive_run (cs : List Frame) (w : World) : runN Try.prog 1438 (lone (Frame.enter Try.prog 7 #[] .normal) cs w) = .next (lone aliveEnd cs w) := by kernel_rfl
theorem alive_mode : (aliveEnd.mode, aliveEnd.defers, aliveEnd.kind, aliveEnd.fn) = (.returning, [], .normal, 7) := by kernel_rfl
theorem alive_out (w : World) : (results Try.f7 aliveEnd.tmps).run Try.prog w = .ok (.bool true) w := by kernel_rfl
theorem alive_any (w : World) : Calls Try.prog 7 #[] w fun e w' => e = .returned (.bool true) ∧ w = w' := by
  intro cs
  obtain ⟨h1, h2, h3, h4⟩ : aliveEnd.mode = .returning ∧ aliveEnd.defers = [] ∧ aliveEnd.kind = .normal ∧ aliveEnd.fn = 7 := by
    have h := alive_mode
    simp only [Prod.mk.injEq] at h
    exact h
  exact ⟨.returned (.bool true), w, aliveEnd, ⟨rfl, rfl⟩, ⟨1438, alive_run cs w⟩, h4, h1, h2, h3, Try.f7, by rw [h4]; exact Try.func7, alive_out w⟩
end Go.Proofs.Ytkdaekiihkkpkaa
