/- checkedSegment: a segment is given back if its text is what was read. -/
import Derived.Test.YtljbbhipdfnppaaSegRT
namespace Go.Proofs.Ytljbbhipdfnppaa
open Go Go.ChangeShapes Go.WideShapes Go.ChangeAt Go.RowKit
set_option maxRecDepth 100000 in
set_option maxHeartbeats 4000000 in
theorem implChecked (tag : List UInt8) (A : Option Addr) (m c : Nat) (E : List (List (List UInt8))) (s : ByteArray) (n : Nat) (w : World) (hm : (tx E).length = m) (hr : RdRR w A (elsC E)) (hm2 : m ≤ 9223372036854775807) (hn : n ≤ s.size) :
    Calls Try.prog 41 #[.agg #[.string (txt tag), .slice A m c], .string s, .int .i64 n] w fun e w' =>
      ((segText (bA tag) (tx E) = s.data.toList.take n ∧ e = .returned (.tuple #[.agg #[.string (txt tag), .slice A m c], .int .i64 n])) ∨ (¬ segText (bA tag) (tx E) = s.data.toList.take n ∧ e = .returned (.tuple #[.agg #[.string ⟨#[]⟩, .slice none 0 0], .int .i64 0]))) ∧ Below w.heap.size w w' := by
  have hb1 : Below w.heap.size w ((w.alloc (.cells #[.string (txt tag), .slice A m c] 25)).alloc (.cells #[.string ⟨#[]⟩, .slice none 0 0] 25)) := ((Below.refl _ _).alloc (Nat.le_refl _) _).alloc (by simp) _
  have hP : Blk ((w.alloc (.cells #[.string (txt tag), .slice A m c] 25)).alloc (.cells #[.string ⟨#[]⟩, .slice none 0 0] 25)) w.heap.size 25 [.string (txt tag), .slice A m c] := (Blk.new _ _ _).alloc _
  have hR : Blk ((w.alloc (.cells #[.string (txt tag), .slice A m c] 25)).alloc (.cells #[.string ⟨#[]⟩, .slice none 0 0] 25)) (w.heap.size + 1) 25 [.string ⟨#[]⟩, .slice none 0 0] := by
    have := Blk.new (w.alloc (.cells #[.string (txt tag), .slice A m c] 25)) 25 [.string ⟨#[]⟩, .slice none 0 0]
    simpa using this
  have HM := Lib.hid hm
  clear hm
  have hu := run_upto (P := Try.prog) 9 Try.underlying9 s n hn
  go_enter Try.func41, Try.ntmps41
  go_wp2_with fail
  generalize ((w.alloc (.cells #[.string (txt tag), .slice A m c] 25)).alloc (.cells #[.string ⟨#[]⟩, .slice none 0 0] 25)) = w4 at *
  have q0 := hP.cellAt 0 (by simp)
  have q1 := hP.cellAt 1 (by simp)
  simp only [List.getElem_cons_zero, List.getElem_cons_succ] at q0 q1
  have hlq := hP.lt
  have HR := Lib.hid hR
  have HB := Lib.hid hb1
  have HRD := Lib.hid (hr.below hb1)
  clear hP hR hb1 hr
  go_region_held3 (fun W => Below w4.heap.size w4 W ∧ W.cell? ⟨w.heap.size, 0, none⟩ = some (.string (txt tag)) ∧ W.cell? ⟨w.heap.size, 1, none⟩ = some (.slice A m c))
    (first | exact keepQ (Below.refl _ _) hlq q0 q1 | exact keepQ (Below.drew (Below.refl _ _)) hlq q0 q1 | assumption)
    (first
      | (go_at_call 14; (with_reducible refine (implSegmentText (txt tag) A m c (tx E) _ HM.out (HRD.out.below (Below.drew (Below.refl _ _))) (by omega)).mono ?_); rintro e w6 ⟨rfl, hb6⟩; have kx := keepQ (below_trans (Below.drew (Below.refl _ _)) hb6) hlq q0 q1))
  obtain ⟨kx1, kx2, kx3⟩ := kx
  have HB6 := Lib.hid (below_trans HB.out kx1)
  have hR6 := HR.out.later kx1
  have r0 := hR6.cellAt 0 (by simp)
  have r1 := hR6.cellAt 1 (by simp)
  have f0 := hR6.frozen 0
  have f1 := hR6.frozen 1
  simp only [List.getElem_cons_zero, List.getElem_cons_succ] at r0 r1
  have HR6 := Lib.hid hR6
  have hle := Nat.le_succ w.heap.size
  clear hb6 q0 q1 HB HR HRD hR6
  go_wp2_with fail
  · rename_i hq
    have hst : ¬ segText (bA tag) (tx E) = s.data.toList.take n := fun h => by
      have h' : segText (txt tag) (tx E) = s.data.toList.take n := h
      rw [h'] at hq; simp at hq
    have hRR := (HR6.out.set_ 0 (.string ⟨#[]⟩)).set_ 1 (.slice none 0 0)
    have z0 := hRR.cellAt 0 (by simp)
    have z1 := hRR.cellAt 1 (by simp)
    simp only [List.set_cons_zero, List.set_cons_succ, List.getElem_cons_zero, List.getElem_cons_succ] at z0 z1
    refine bodyPost_ret (v := .tuple #[.agg #[.string ⟨#[]⟩, .slice none 0 0], .int .i64 0]) (by simp [results, Try.results41, go_sem, z0, z1]) rfl ?_
    exact ⟨.inr ⟨hst, rfl⟩, (HB6.out.setCell (p := ⟨_, _, none⟩) hle _).setCell (p := ⟨_, _, none⟩) hle _⟩
  · rename_i hq
    have hst : segText (bA tag) (tx E) = s.data.toList.take n := by
      show segText (txt tag) (tx E) = s.data.toList.take n
      simpa using hq
    have hRR := (HR6.out.set_ 0 (.string (txt tag))).set_ 1 (.slice A m c)
    have z0 := hRR.cellAt 0 (by simp)
    have z1 := hRR.cellAt 1 (by simp)
    simp only [List.set_cons_zero, List.set_cons_succ, List.getElem_cons_zero, List.getElem_cons_succ] at z0 z1
    refine bodyPost_ret (v := .tuple #[.agg #[.string (txt tag), .slice A m c], .int .i64 n]) (by simp [results, Try.results41, go_sem, z0, z1]) rfl ?_
    exact ⟨.inl ⟨hst, rfl⟩, (HB6.out.setCell (p := ⟨_, _, none⟩) hle _).setCell (p := ⟨_, _, none⟩) hle _⟩
end Go.Proofs.Ytljbbhipdfnppaa
