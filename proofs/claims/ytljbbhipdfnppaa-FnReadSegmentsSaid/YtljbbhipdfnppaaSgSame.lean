/- sameSegments: true of equal ones. -/
import Derived.Test.YtljbbhipdfnppaaSgR
import Derived.Test.YtljbbhipdfnppaaSameSeg
namespace Go.Proofs.Ytljbbhipdfnppaa
open Go Go.ChangeShapes Go.WideShapes Go.ChangeAt Go.RowKit
set_option linter.unusedVariables false
theorem keep4 {w W : World} {b b' i j i' j' : Nat} {y0 y1 z0 z1 : Value} (hb : Below w.heap.size w W) (lb : b < w.heap.size) (lb' : b' < w.heap.size) (m0 : w.cell? ⟨b, i, none⟩ = some y0) (m1 : w.cell? ⟨b, j, none⟩ = some y1) (n0 : w.cell? ⟨b', i', none⟩ = some z0) (n1 : w.cell? ⟨b', j', none⟩ = some z1) :
    Below w.heap.size w W ∧ W.cell? ⟨b, i, none⟩ = some y0 ∧ W.cell? ⟨b, j, none⟩ = some y1 ∧ W.cell? ⟨b', i', none⟩ = some z0 ∧ W.cell? ⟨b', j', none⟩ = some z1 :=
  ⟨hb, (hb.cell (p := ⟨b, i, none⟩) lb).trans m0, (hb.cell (p := ⟨b, j, none⟩) lb).trans m1, (hb.cell (p := ⟨b', i', none⟩) lb').trans n0, (hb.cell (p := ⟨b', j', none⟩) lb').trans n1⟩
set_option maxHeartbeats 1000000 in
theorem sameSegments_any (A B : Option Addr) (L : List SegV) (n c d : Nat) (hln : L.length = n) (w : World) (ha : RdSegs w A L) (hb : RdSegs w B L) (hn : n ≤ 1099511627776) (hin : ∀ s ∈ L, s.ess.length ≤ 1099511627776 ∧ ∀ zs ∈ s.ess, zs.length ≤ 1099511627776) :
    Calls Try.prog 29 #[.slice A n c, .slice B n d] w fun e w' => e = .returned (.bool true) ∧ Below w.heap.size w w' := by
  have HZ := Lib.hid hln
  have HI := Lib.hid hin
  clear hln hin
  have hne : ((n : Int) != (n : Int)) = false := by simp
  go_enter Try.func29, Try.ntmps29
  go_wp2_with fail
  go_loopw [5] (fun i wr => ∃ k : Nat, k ≤ n ∧ i = .int .i64 k ∧ Below w.heap.size w wr) (fun i _ => n - (intOf i).toNat)
  case atStart => exact ⟨0, Nat.zero_le _, rfl, Below.refl _ _⟩
  case round =>
    obtain ⟨k, hk, rfl, hbl⟩ := hrel
    by_cases hlt : k < n
    · have hkz : k < L.length := by rw [HZ.out]; exact hlt
      obtain ⟨b1, o1, B1, c1, rfl, hl1, h10, h11, hr1⟩ := (ha.below hbl).at hkz
      obtain ⟨b2, o2, B2, c2, rfl, hl2, h20, h21, hr2⟩ := (hb.below hbl).at hkz
      obtain ⟨hml, hmi⟩ := HI.out L[k] (List.getElem_mem hkz)
      generalize L[k] = s at *
      obtain ⟨tg, ess⟩ := s
      dsimp only at h10 h11 h20 h21 hr1 hr2 hml hmi
      generalize hm : ess.length = m at *
      have HM := Lib.hid hm
      have HMI := Lib.hid hmi
      have hki : (k : Int) < (n : Int) := by omega
      have e1 : IntKind.i64.wrap ((k : Int) + 1) = (k : Int) + 1 := IntWalk.i64_in _ (by omega)
      have HR1 := Lib.hid hr1
      have HR2 := Lib.hid hr2
      have HBL := Lib.hid hbl
      clear hm hr1 hr2 hbl hmi
      go_wp2_with fail
      go_region_held3 (fun W => Below wr.heap.size wr W ∧ W.cell? ⟨b1, o1 + k * 2, none⟩ = some (.string tg) ∧ W.cell? ⟨b1, o1 + k * 2 + 1, none⟩ = some (.slice B1 m c1) ∧ W.cell? ⟨b2, o2 + k * 2, none⟩ = some (.string tg) ∧ W.cell? ⟨b2, o2 + k * 2 + 1, none⟩ = some (.slice B2 m c2))
        (first | exact keep4 (Below.refl _ _) hl1 hl2 h10 h11 h20 h21 | exact keep4 (Below.drew (Below.refl _ _)) hl1 hl2 h10 h11 h20 h21 | assumption)
        (first | (go_at_call 17; (with_reducible refine (sameSegment_any tg B1 B2 ess m c1 c2 HM.out _ (HR1.out.below (Below.drew (Below.refl _ _))) (HR2.out.below (Below.drew (Below.refl _ _))) (by omega) HMI.out).mono ?_); rintro e w6 ⟨rfl, b6⟩; have kx := keep4 (below_trans (Below.drew (Below.refl _ _)) b6) hl1 hl2 h10 h11 h20 h21))
      have HB6 := Lib.hid (below_trans HBL.out kx.1)
      clear kx b6
      go_wp2_with fail
      go_roundw
      case rel => exact ⟨k + 1, by omega, by go_num, HB6.out⟩
      case measure => simp [intOf]; omega
    · go_wp2_with fail
      go_ret
      exact ⟨rfl, hbl⟩
theorem RdSegs.front {w : World} {A : Option Addr} {L R : List SegV} (h : RdSegs w A (L ++ R)) : RdSegs w A L := by
  obtain ⟨ps, h1, h2, h3⟩ := h
  have hl : (ps.take L.length).map SegQ.v = L := by rw [List.map_take, h1, List.take_left]
  refine ⟨ps.take L.length, hl, ?_, fun p hp => h3 p (List.mem_of_mem_take hp)⟩
  rcases h2 with h | ⟨b, off, e, hlt, hc⟩
  · left
    have : ps.length = 0 := by
      have := congrArg List.length h
      rw [cellsOf_len segC 2 segC_len] at this
      rw [List.length_nil] at this
      omega
    rw [List.eq_nil_of_length_eq_zero this]
    simp [cellsOf]
  · right
    refine ⟨b, off, e, hlt, fun k hk => ?_⟩
    have e2 : cellsOf segC ps = cellsOf segC (ps.take L.length) ++ cellsOf segC (ps.drop L.length) := by rw [← cellsOf_append, List.take_append_drop]
    have hk2 : k < (cellsOf segC ps).length := by rw [e2, List.length_append]; omega
    rw [hc k hk2]
    congr 1
    simp only [e2]
    rw [List.getElem_append_left hk]
end Go.Proofs.Ytljbbhipdfnppaa
