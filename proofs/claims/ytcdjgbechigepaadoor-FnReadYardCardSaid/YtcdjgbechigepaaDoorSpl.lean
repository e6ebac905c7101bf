/- strings.SplitSeq at a separator of one byte: the pieces one by one. -/
import Derived.Ground.Names2Prog
import Derived.Shelf.Strings.Search3
import Derived.Shelf.Abstract
import Derived.Shelf.RegionOpen
import Derived.WalkKit
import Derived.OwnWalkIn
import Derived.TacticsInMore
import Derived.LoopNIn
import Derived.LoopIn
import Derived.Test.YtcdjgbechigepaaDoorRng
import Derived.Test.YtcdjgbechigepaaDoorOut
import Derived.Test.YtcdjgbechigepaaDoorProg
namespace Go.Proofs.YtcdjgbechigepaaDoor
open Go Go.Shelf Go.ChangeShapes Go.WideShapes Go.ChangeAt Go.RowKit
set_option linter.unusedVariables false
def Tryd.lays143_ren : Go.Shelf.Ren := ⟨fun | 143 => 60 | 219 => 73 | 217 => 67 | 225 => 81 | 224 => 82 | 267 => 83 | 266 => 77 | 314 => 90 | n => n, fun | 9 => 9 | 3 => 3 | 4 => 4 | 5 => 5 | 46 => 89 | 146 => 112 | 51 => 111 | n => n, fun | 1 => 4 | n => n⟩
theorem Tryd.lays143 : Go.Proofs.Lays.n143 Tryd.prog Tryd.lays143_ren := {
  mixed := by kernel_rfl
  f143 := Tryd.func60.trans (congrArg some (by kernel_rfl))
  f217 := Tryd.func67.trans (congrArg some (by kernel_rfl))
  f219 := Tryd.func73.trans (congrArg some (by kernel_rfl))
  f224 := Tryd.func82.trans (congrArg some (by kernel_rfl))
  f225 := Tryd.func81.trans (congrArg some (by kernel_rfl))
  f266 := Tryd.func77.trans (congrArg some (by kernel_rfl))
  f267 := Tryd.func83.trans (congrArg some (by kernel_rfl))
  f314 := Tryd.func90.trans (congrArg some (by kernel_rfl))
  t3 := Tryd.underlying3
  a3 := Tryd.isAgg3
  z3 := Tryd.sizeOf3
  v3 := Tryd.zeroValue3
  t4 := Tryd.underlying4
  a4 := Tryd.isAgg4
  z4 := Tryd.sizeOf4
  v4 := Tryd.zeroValue4
  t5 := Tryd.underlying5
  a5 := Tryd.isAgg5
  z5 := Tryd.sizeOf5
  v5 := Tryd.zeroValue5
  t9 := Tryd.underlying9
  a9 := Tryd.isAgg9
  z9 := Tryd.sizeOf9
  v9 := Tryd.zeroValue9
  t46 := Tryd.underlying89
  a46 := Tryd.isAgg89
  z46 := Tryd.sizeOf89
  v46 := Tryd.zeroValue89
  t51 := Tryd.underlying111
  a51 := Tryd.isAgg111
  z51 := Tryd.sizeOf111
  v51 := Tryd.zeroValue111
  t146 := Tryd.underlying112
  a146 := Tryd.isAgg112
  z146 := Tryd.sizeOf112
  v146 := Tryd.zeroValue112
  g1 := by kernel_rfl }
theorem index_one (s : List UInt8) (c : UInt8) (w : World) : Calls Tryd.prog 60 #[.string (txt s), .string (txt [c])] w fun e w' => e = .returned (.int .i64 (Lib.indexByte s c)) ∧ w' = w := by
  exact Any.strings_Index_one Tryd.lays143 (txt s) c w
/-- what stands between the bytes c -/
def cutB (c : UInt8) : List UInt8 → List (List UInt8)
  | [] => [[]]
  | b :: r => if b = c then [] :: cutB c r else ((b :: (cutB c r).headD []) :: (cutB c r).tail)
theorem cutB_ne (c : UInt8) (s : List UInt8) : cutB c s ≠ [] := by
  cases s with
  | nil => simp [cutB]
  | cons b r => unfold cutB; split <;> simp
theorem cutB_head (c : UInt8) (s : List UInt8) : (cutB c s).headD [] :: (cutB c s).tail = cutB c s := by
  have h := cutB_ne c s
  cases e : cutB c s with
  | nil => exact absurd e h
  | cons a r => rfl
theorem cutB_idx (c : UInt8) : ∀ s : List UInt8, (Lib.indexByte s c = -1 ∧ cutB c s = [s]) ∨ ∃ i : Nat, Lib.indexByte s c = i ∧ i < s.length ∧ cutB c s = s.take i :: cutB c (s.drop (i + 1))
  | [] => .inl ⟨rfl, rfl⟩
  | b :: r => by
    by_cases hb : b = c
    · subst hb
      exact .inr ⟨0, by simp [Lib.indexByte], by simp, by simp [cutB]⟩
    · have hbb : (b == c) = false := by simpa using hb
      rcases cutB_idx c r with ⟨h1, h2⟩ | ⟨i, h1, h2, h3⟩
      · exact .inl ⟨by simp [Lib.indexByte, hbb, h1], by simp [cutB, hb, h2]⟩
      · refine .inr ⟨i + 1, ?_, by simp; omega, ?_⟩
        · have : ¬ ((i : Int) == -1) = true := by simp
          simp [Lib.indexByte, hbb, h1, this]
        · simp [cutB, hb, h3]
/-- the text that is left -/
def leftB (b : Nat) (w : World) : Nat := match w.cell? ⟨b, 0, none⟩ with | some (.string s) => s.size | _ => 0
theorem leftB_box {w : World} {b : Nat} {s : List UInt8} (h : Boxed w b 9 (.string (txt s))) : leftB b w = s.length := by simp [leftB, h.cell, txt_size]
/-- the three variables of the iterator lie as they lay -/
def KbB (b : Nat) (A B : World) : Prop := ∀ k, b ≤ k → k ≤ b + 2 → B.heap[k]? = A.heap[k]?
set_option maxRecDepth 100000 in
set_option maxHeartbeats 2000000 in
theorem iter_split (m b : Nat) (hm : 1 ≤ m) (c : UInt8) (s : List UInt8) (hs : s.length ≤ 4294967296) (W : World) (h1 : Boxed W b 9 (.string (txt s))) (h2 : Boxed W (b + 1) 9 (.string (txt [c]))) (h3 : Boxed W (b + 2) 3 (.int .i64 0)) :
    Iter Fence.wide m Tryd.prog 58 #[.pointer (some ⟨b + 1, 0, none⟩), .pointer (some ⟨b, 0, none⟩), .pointer (some ⟨b + 2, 0, none⟩)] b (cutB c s) (KbB b) W := by
  intro l J Jx hJb hY h0
  have hsz : (txt [c]).size = 1 := rfl
  generalize hsp : txt [c] = sp at *
  have cI := fun (r : List UInt8) (w : World) => index_one r c w
  rw [hsp] at cI
  have HSP := Lib.hid hsp
  clear hsp
  have c1 := h1.cell; have c2 := h2.cell; have c3 := h3.cell
  refine callsIn_of_wp Tryd.func58 rfl trivial ?_ rfl
  simp only [Tryd.ntmps58, List.size_toArray, List.length_cons, List.length_nil, Nat.reduceAdd, Nat.reduceSub, Array.replicate_succ, Array.replicate_zero, List.push_toArray, List.append_toArray, List.nil_append, List.cons_append]
  gi_wp2
  gi_loopw [7, 8] (fun _ _ wr => ∃ (pre : List (List UInt8)) (rest : List UInt8), cutB c s = pre ++ cutB c rest ∧ rest.length ≤ 4294967296 ∧ J pre wr ∧ Boxed wr b 9 (.string (txt rest)) ∧ Boxed wr (b + 1) 9 (.string sp) ∧ Boxed wr (b + 2) 3 (.int .i64 0)) (fun _ _ wr => leftB b wr)
  case atStart => exact ⟨[], s, rfl, hs, h0, h1, h2, h3⟩
  case round =>
    obtain ⟨pre, rest, hcut, hrl, hJ, b1, b2, b3⟩ := hrel
    have d1 := b1.cell; have d2 := b2.cell; have d3 := b3.cell
    have cIr := cI rest
    rcases cutB_idx c rest with ⟨hi, hc⟩ | ⟨i, hi, hil, hc⟩
    · -- no separator: what is left comes last
      rw [hi] at cIr
      rw [hc] at hcut
      obtain ⟨fn, tmps, assign, body, hy, hR⟩ := hY pre rest wr hJ (by rw [hcut]; exact List.prefix_refl _)
      have HC := Lib.hid hcut
      clear hcut hc hi cI
      generalize txt rest = rt at *
      gi_wp2_with (refine ⟨trivial, ?_⟩; gi_at_call 60; refine (callsIn_wide.2 (cIr _)).mono ?_; rintro e w' ⟨rfl, rfl⟩)
      refine hR.mono ?_
      rintro e W3 (⟨rfl, hJ3, hk3⟩ | ⟨rfl, hJx3⟩)
      · gi_wp2
        go_end0
        exact ⟨⟨_, rfl⟩, .inl (by rw [HC.out]; exact hJ3)⟩
      · gi_wp2
        go_end0
        exact ⟨⟨_, rfl⟩, .inr hJx3⟩
    · rw [hi] at cIr
      rw [hc] at hcut
      obtain ⟨fn, tmps, assign, body, hy, hR⟩ := hY pre (rest.take i) wr hJ (by rw [hcut]; exact ⟨cutB c (rest.drop (i + 1)), by simp⟩)
      have HC := Lib.hid hcut
      have hup := fun w => run_upto (P := Tryd.prog) 9 Tryd.underlying9 (txt rest) i (by rw [txt_size]; omega) w
      have hfr := fun w => run_from (P := Tryd.prog) 9 Tryd.underlying9 (txt rest) (i + 1) (by rw [txt_size]; omega) w
      rw [show (txt rest).data.toList = rest from rfl] at hup hfr
      have hfr : ∀ w, (Instr.slice 9 (.string (txt rest)) (some (.int .i64 ((i : Int) + 1))) none none).run Tryd.prog w = .ok (.string (txt (rest.drop (i + 1)))) w := fun w => hfr w
      have HL : Hid (leftB b wr = rest.length) := Lib.hid (leftB_box b1)
      have HD : Hid ((rest.drop (i + 1)).length < rest.length) := Lib.hid (by rw [List.length_drop]; omega)
      clear hcut hc hi cI
      generalize rest.drop (i + 1) = rest2 at *
      generalize rest.take i = x at *
      have hne : ¬ (i : Int) < 0 := by omega
      have ew : IntKind.i64.wrap (i : Int) = (i : Int) := IntWalk.i64_in _ (by omega)
      have ew2 : IntKind.i64.wrap ((i : Int) + 1) = (i : Int) + 1 := IntWalk.i64_in _ (by omega)
      gi_wp2_with (refine ⟨trivial, ?_⟩; gi_at_call 60; refine (callsIn_wide.2 (cIr _)).mono ?_; rintro e w' ⟨rfl, rfl⟩)
      refine hR.mono ?_
      rintro e W3 (⟨rfl, hJ3, hk3⟩ | ⟨rfl, hJx3⟩)
      · have e1 : Boxed W3 b 9 (.string (txt rest)) := (hk3 b (Nat.le_refl _) (by omega)).trans b1
        have e2 : Boxed W3 (b + 1) 9 (.string sp) := (hk3 (b + 1) (by omega) (by omega)).trans b2
        have e3 : Boxed W3 (b + 2) 3 (.int .i64 0) := (hk3 (b + 2) (by omega) (by omega)).trans b3
        have g1 := e1.cell; have g2 := e2.cell; have g3 := e3.cell; have f1 := e1.frozen
        gi_wp2
        go_roundw
        case rel => exact ⟨pre ++ [x], rest2, by rw [HC.out]; simp, by have := HD.out; omega, hJb _ _ _ hJ3, e1.set _, e2.other (by omega) _, e3.other (by omega) _⟩
        case measure => rw [HL.out, leftB_box (e1.set _)]; exact HD.out
      · gi_wp2
        refine bodyPost_ret (results_none rfl _ _ _) rfl ?_
        exact ⟨⟨_, rfl⟩, .inr hJx3⟩
/-- strings.SplitSeq lays three variables and hands back the iterator -/
theorem splitSeq_any (s sep : ByteArray) (w : World) : Calls Tryd.prog 21 #[.string s, .string sep] w fun e w' =>
    e = .returned (.func (.func 58) #[] #[.pointer (some ⟨w.heap.size + 1, 0, none⟩), .pointer (some ⟨w.heap.size, 0, none⟩), .pointer (some ⟨w.heap.size + 2, 0, none⟩)]) ∧
      w' = ((w.alloc (.cells #[.string s] 9)).alloc (.cells #[.string sep] 9)).alloc (.cells #[.int .i64 0] 3) := by
  have h : ∀ w, Calls Tryd.prog 39 #[.string s, .string sep, .int .i64 0] w fun e w' =>
      e = .returned (.func (.func 58) #[] #[.pointer (some ⟨w.heap.size + 1, 0, none⟩), .pointer (some ⟨w.heap.size, 0, none⟩), .pointer (some ⟨w.heap.size + 2, 0, none⟩)]) ∧
        w' = ((w.alloc (.cells #[.string s] 9)).alloc (.cells #[.string sep] 9)).alloc (.cells #[.int .i64 0] 3) := by
    intro w
    go_enter Tryd.func39, Tryd.ntmps39
    go_wp2_with fail
    go_ret
    exact ⟨rfl, rfl⟩
  go_enter Tryd.func21, Tryd.ntmps21
  go_wp2_with (go_at_call 39; refine (h _).mono ?_; rintro e w' ⟨rfl, rfl⟩)
  go_ret
  exact ⟨rfl, rfl⟩
end Go.Proofs.YtcdjgbechigepaaDoor
