/- ReadSegment, both: what the laws need of it. -/
import Derived.Test.YtljbbhipdfnppaaSegRJ
import Derived.Test.YtljbbhipdfnppaaMarkTT
namespace Go.Proofs.Ytljbbhipdfnppaa
open Go Go.ChangeShapes Go.WideShapes Go.ChangeAt Go.RowKit
set_option linter.unusedVariables false
theorem rdSeg_ok {l : List UInt8} {E : List (List (List UInt8))} {n : Nat} (h : rdSeg l = some (E, n)) : segText (bA (l.take 3)) (tx E) = l.take n ∧ 4 ≤ n ∧ n ≤ l.length ∧ segOk (bA (l.take 3)) (tx E) = true := by
  rw [rdSeg_def] at h
  split at h
  · cases h
  · rename_i h4
    split at h
    · rename_i ht
      simp only [Option.some.injEq, Prod.mk.injEq] at h
      obtain ⟨rfl, rfl⟩ := h
      have hle := endAux_pos _ l 0 (Nat.le_refl _)
      have hl : endAux l 0 ≤ l.length := by omega
      exact ⟨ht, by omega, hl, text_ok ht (by omega) (by omega)⟩
    · cases h
theorem rd_facts (l : List UInt8) : (rdE (rdSeg l)).length ≤ 5 ∧ (∀ zs ∈ tx (rdE (rdSeg l)), zs.length ≤ 4) ∧ totR (tx (rdE (rdSeg l))) ≤ 20 ∧ rdN (rdSeg l) ≤ l.length := by
  cases h : rdSeg l with
  | none => exact ⟨by simp [rdE], by simp [rdE, tx], by simp [rdE, tx, totR], by simp [rdN]⟩
  | some x =>
    obtain ⟨E, n⟩ := x
    obtain ⟨_, h2, h3, hok⟩ := rdSeg_ok h
    obtain ⟨_, h5, hp⟩ := segOk_parts hok
    have hE : E.length ≤ 5 := by simpa [tx] using h5
    have h4 : ∀ zs ∈ tx E, zs.length ≤ 4 := by
      intro zs hz
      obtain ⟨k, hk, rfl⟩ := List.getElem_of_mem hz
      exact (partsOk_size (hp k hk)).2.1
    refine ⟨hE, h4, ?_, h3⟩
    have gen : ∀ (L : List (List ByteArray)), (∀ zs ∈ L, zs.length ≤ 4) → totR L ≤ 4 * L.length := by
      intro L
      induction L with
      | nil => intro _; simp [totR]
      | cons a L ih =>
        intro ha
        have := ih (fun z hz => ha z (List.mem_cons_of_mem _ hz))
        have := ha a (List.mem_cons_self ..)
        rw [totR_cons, List.length_cons]
        omega
    have := gen (tx E) h4
    have e : (tx E).length = E.length := by simp [tx]
    show totR (tx E) ≤ 20
    omega
theorem implRd (s : ByteArray) (w : World) (hs : s.size ≤ 1073741824) : Calls Try.prog 16 #[.string s] w (SegAns w s.data.toList (rdSeg s.data.toList)) := by
  have := implReadSegment s w hs
  rw [rdSeg_eq] at this
  exact this
/-- the answer, its parts as letters -/
def SegRd (w : World) (tg : ByteArray) (ess : List (List ByteArray)) (m N : Nat) : Ending → World → Prop :=
  RVal fun u w' => ∃ A c, u = .tuple #[.agg #[.string tg, .slice A m c], .int .i64 N] ∧ OwnRR w' w.heap.size w'.heap.size 28 9 (.slice A m c) (strss ess) ∧ Below w.heap.size w w'
theorem segRd {w : World} {l : List UInt8} {f : FuncId} {args : Array Value} (h : Calls Try.prog f args w (SegAns w l (rdSeg l))) {tg : ByteArray} {ess : List (List ByteArray)} {m N : Nat} (h1 : bA (rdT l (rdSeg l)) = tg) (h2 : tx (rdE (rdSeg l)) = ess) (h3 : ess.length = m) (h4 : rdN (rdSeg l) = N) : Calls Try.prog f args w (SegRd w tg ess m N) := by
  subst h1 h2 h3 h4
  refine h.mono ?_
  rintro e w' ⟨u, rfl, A, c, rfl, h5, h6⟩
  have hl : (tx (rdE (rdSeg l))).length = (rdE (rdSeg l)).length := by simp [tx]
  rw [← hl]
  rw [← hl] at h5
  exact RVal.mk ⟨A, c, rfl, h5, h6⟩
end Go.Proofs.Ytljbbhipdfnppaa
