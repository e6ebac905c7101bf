/- Numbers in decimal, the reference. -/
import Derived.Test.YtcdjgbechigepaaDoorStr
import Derived.Test.YtcdjgbechigepaaDoorYtP
import Derived.Test.YtcdjgbechigepaaDoorOut
import Derived.Deep.RegionLaw
import Derived.Deep.DeepCutAuto
namespace Go.Proofs.YtcdjgbechigepaaDoor
open Go Go.ChangeShapes Go.WideShapes Go.ChangeAt Go.RowKit
set_option linter.unusedVariables false
theorem dec_small {n : Nat} (h : n < 10) : Lib.decDigits n = [UInt8.ofNat (48 + n)] := by rw [Lib.decDigits, dif_pos h]
theorem dec_big {n : Nat} (h : ¬ n < 10) : Lib.decDigits n = Lib.decDigits (n / 10) ++ [UInt8.ofNat (48 + n % 10)] := by rw [Lib.decDigits, dif_neg h]
theorem wrap_byte {x : Int} (h0 : 0 ≤ x) (h1 : x < 256) : IntKind.u8.wrap x = x := by
  have e1 : IntKind.u8.bits = 8 := rfl
  have e2 : IntKind.u8.signed = false := rfl
  simp [IntKind.wrap, e1, e2]
  omega
/-- string([]byte{b}) -/
theorem run_byte (d : Int) (h0 : 0 ≤ d) (h1 : d < 256) (g : Nat) (w : World) (hc : w.cell? ⟨g, 0, none⟩ = some (.int .u8 d)) : (convert 30 9 (.slice (some ⟨g, 0, none⟩) 1 1)).run Tryd.prog w = .ok (.string (txt [UInt8.ofNat d.toNat])) w := by
  rw [run_convert_bytes_string (P := Tryd.prog) w 30 9 5 _ 1 1 Tryd.underlying30 Tryd.underlying5 Tryd.underlying9]
  rw [run_bytesToString (P := Tryd.prog) w ⟨g, 0, none⟩ 1 1 [d] (by simp [loadCells, hc, go_sem])]
  rfl
set_option maxHeartbeats 1000000 in
theorem specNumber_small (n : Nat) (hn : n < 10) (w : World) : Calls Tryd.prog 57 #[.int .i64 n] w fun e w' => e = .returned (.string (txt (Lib.decDigits n))) ∧ Below w.heap.size w w' := by
  have hdd := dec_small hn
  have hb := run_byte (48 + (n : Int)) (by omega) (by omega) w.heap.size (w.alloc (.cells #[.int .u8 (48 + (n : Int))] 5)) (by simp)
  have e1 : (48 + (n : Int)).toNat = 48 + n := by omega
  rw [e1] at hb
  have e2 : IntKind.u8.wrap (48 + (n : Int)) = 48 + (n : Int) := wrap_byte (by omega) (by omega)
  rw [hdd]
  clear hdd
  generalize [UInt8.ofNat (48 + n)] = l at *
  have h1 : ¬ (n : Int) < 0 := by omega
  have h2 : (n : Int) < 10 := by omega
  clear e1
  go_enter Tryd.func57, Tryd.ntmps57
  go_wp2_with fail
  go_ret
  exact ⟨rfl, (Below.refl _ _).alloc (Nat.le_refl _) _⟩
theorem alloc_cell (W : World) (v : Value) (t : TypeId) : (W.alloc (.cells #[v] t)).cell? ⟨W.heap.size, 0, none⟩ = some v := by simp
theorem below_new {w W : World} (h : Below w.heap.size w W) (o : Obj) : Below w.heap.size w (W.alloc o) := h.alloc h.size o
theorem keepByteD {W w5 : World} {v : Value} {t : TypeId} (h : Below (W.alloc (.cells #[v] t)).drew.heap.size (W.alloc (.cells #[v] t)).drew w5) : w5.cell? ⟨W.heap.size, 0, none⟩ = some v := (h.cell (p := ⟨W.heap.size, 0, none⟩) (by show W.heap.size < (W.alloc (.cells #[v] t)).heap.size; simp)).trans (show (W.alloc (.cells #[v] t)).cell? _ = _ from by simp)
theorem keepByte {W w5 : World} {v : Value} {t : TypeId} (h : Below (W.alloc (.cells #[v] t)).heap.size (W.alloc (.cells #[v] t)) w5) : w5.cell? ⟨W.heap.size, 0, none⟩ = some v := (h.cell (p := ⟨W.heap.size, 0, none⟩) (by simp)).trans (by simp)
set_option maxHeartbeats 4000000 in
theorem specNumber_big (n m : Nat) (hn : ¬ n < 10) (hn2 : n ≤ 999) (w : World) (hm : n / 10 = m) (ih : ∀ w, Calls Tryd.prog 57 #[.int .i64 m] w fun e w' => e = .returned (.string (txt (Lib.decDigits m))) ∧ Below w.heap.size w w') : Calls Tryd.prog 57 #[.int .i64 n] w fun e w' => e = .returned (.string (txt (Lib.decDigits n))) ∧ Below w.heap.size w w' := by
  have hdd := dec_big hn
  rw [hm] at hdd
  have hlen := (dec_len (u := m) (by omega)).2
  have hb := fun (g : Nat) (W : World) => run_byte (48 + ((n % 10 : Nat) : Int)) (by omega) (by omega) g W
  have e1 : (48 + ((n % 10 : Nat) : Int)).toNat = 48 + n % 10 := by omega
  rw [e1] at hb
  have e2 : IntKind.u8.wrap (48 + ((n % 10 : Nat) : Int)) = 48 + ((n % 10 : Nat) : Int) := wrap_byte (by omega) (by omega)
  have hl1 : [UInt8.ofNat (48 + n % 10)].length = 1 := rfl
  rw [hdd]
  clear hdd e1
  have t1 : Int.tdiv (n : Int) 10 = (m : Int) := by rw [Int.tdiv_eq_ediv_of_nonneg (by omega)]; omega
  have t2 : Int.tmod (n : Int) 10 = ((n % 10 : Nat) : Int) := by rw [Int.tmod_eq_emod_of_nonneg (by omega)]; omega
  have t3 : ((n % 10 : Nat) : Int) < 10 := by omega
  generalize [UInt8.ofNat (48 + n % 10)] = l at *
  generalize n % 10 = d at *
  generalize Lib.decDigits m = ds at *
  have hcat := fun (W : World) => run_cat (P := Tryd.prog) ds l (by omega) W
  have hb2 := fun (W : World) => hb W.heap.size (W.alloc (.cells #[.int .u8 (48 + (d : Int))] 5)) (by simp)
  have hb3 := fun (W : World) => hb W.heap.size (W.drew.alloc (.cells #[.int .u8 (48 + (d : Int))] 5)) (alloc_cell W.drew _ _)
  have h1 : ¬ (n : Int) < 0 := by omega
  have h2 : ¬ (n : Int) < 10 := by omega
  have w1 : IntKind.i64.wrap (m : Int) = (m : Int) := by rw [IntKind.wrap_i64]; omega
  have w2 : IntKind.i64.wrap (48 + (d : Int)) = 48 + (d : Int) := by rw [IntKind.wrap_i64]; omega
  go_enter Tryd.func57, Tryd.ntmps57
  go_wp2_with fail
  go_region_law (first | (go_simp; go_at_call 57; (with_reducible refine (ih _).mono ?_); rintro e w5 ⟨rfl, h5⟩; have k5 : Below w.heap.size w w5 := (by first | exact below_trans (Below.drew (Below.refl _ _)) h5 | exact below_trans (below_new (Below.drew (Below.refl _ _)) _) h5); (first | (have z5 := keepByteD h5; have y5 := hb w.heap.size w5 z5) | skip); clear h5))
  all_goals
    go_wp2_with fail
    go_ret
    exact ⟨rfl, by first | exact k5 | exact below_new k5 _ | exact Below.drew k5 | exact below_new (Below.drew k5) _⟩
theorem specNumber (n : Nat) (hn : n ≤ 999) (w : World) : Calls Tryd.prog 57 #[.int .i64 n] w fun e w' => e = .returned (.string (txt (Lib.decDigits n))) ∧ Below w.heap.size w w' := by
  by_cases h1 : n < 10
  · exact specNumber_small n h1 w
  · refine specNumber_big n (n / 10) h1 hn w rfl (fun w => ?_)
    by_cases h2 : n / 10 < 10
    · exact specNumber_small (n / 10) h2 w
    · exact specNumber_big (n / 10) (n / 10 / 10) h2 (by omega) w rfl (fun w => specNumber_small (n / 10 / 10) (by omega) w)
end Go.Proofs.YtcdjgbechigepaaDoor
