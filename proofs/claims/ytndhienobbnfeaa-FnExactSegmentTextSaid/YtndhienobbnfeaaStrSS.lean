/- Lists of lists of texts: copying, comparing. -/
import Derived.Test.YtndhienobbnfeaaStrS
import Derived.Test.YtndhienobbnfeaaRRO
import Derived.Deep.RegionHeld3
namespace Go.Proofs.Ytndhienobbnfeaa
open Go Go.ChangeShapes Go.WideShapes Go.ChangeAt Go.RowKit
theorem strings_info : (Try.prog.info? 38).map (fun i => (i.zero, i.size, i.bytes)) = some (some (.slice none 0 0), 1, 24) := by kernel_rfl
theorem cp_snoc (z : Value) (hs : List Value) (k n : Nat) (h : hs.length = k) (hk : k < n) (u : Value) : (hs ++ List.replicate (n - k) z).set k u = (hs ++ [u]) ++ List.replicate (n - (k + 1)) z := by
  rw [List.set_append_right _ _ (by omega), h, Nat.sub_self]
  obtain ⟨m, hm⟩ : ∃ m, n - k = m + 1 := ⟨n - k - 1, by omega⟩
  have hm' : n - (k + 1) = m := by omega
  rw [hm, hm', List.replicate_succ, List.set_cons_zero, List.append_assoc]
  rfl
set_option maxHeartbeats 1000000 in
theorem toStringSS_any (A : Option Addr) (zss : List (List ByteArray)) (n c : Nat) (hzn : zss.length = n) (w : World) (hr : RdRR w A (strss zss)) (hn : n ≤ 1048576) (hin : ∀ zs ∈ zss, zs.length ≤ 1048576) :
    Calls Try.prog 47 #[.slice A n c] w fun e w' => e = .returned (.slice (some ⟨w.heap.size, 0, none⟩) n n) ∧ OwnRR w' w.heap.size w'.heap.size 38 9 (.slice (some ⟨w.heap.size, 0, none⟩) n n) (strss zss) ∧ Below w.heap.size w w' := by
  have hmk := run_make_row' (P := Try.prog) 28 38 (.slice none 0 0) 24 Try.underlying28 strings_info rfl .i64 .i64 n (by omega) (by omega)
  rw [made_one] at hmk
  have HZ := Lib.hid hzn
  have HI := Lib.hid hin
  clear hzn hin
  go_enter Try.func47, Try.ntmps47
  go_wp2
  go_loopw [4] (fun i wr => ∃ (k : Nat) (hs : List Value), k ≤ n ∧ i = .int .i64 k ∧ Hid (hs.length = k) ∧ Blk wr w.heap.size 38 (hs ++ List.replicate (n - k) (.slice none 0 0)) ∧ FreshRows wr w.heap.size 9 hs (strss (zss.take k)) ∧ Below w.heap.size w wr) (fun i _ => n - (intOf i).toNat)
  case atStart => exact ⟨0, [], Nat.zero_le _, rfl, Lib.hid rfl, by simpa using Blk.new w 38 (List.replicate n (.slice none 0 0)), FreshRows.nil_ _ _ _, (Below.refl _ _).alloc (Nat.le_refl _) _⟩
  case round =>
    obtain ⟨k, hs, hk, rfl, HH, hblk, hfr, hb⟩ := hrel
    by_cases hlt : k < n
    · have hkz : k < zss.length := by rw [HZ.out]; exact hlt
      have hkl : k < (strss zss).length := by rw [strss_len]; exact hkz
      obtain ⟨b, off, rfl, hlb, B, c', hc, hle, hmx, hrB⟩ := hr.pos hkl
      have hsrc : wr.cell? ⟨b, off + k, none⟩ = some (.slice B ((strss zss)[k]).length c') := (hb.cell (p := ⟨b, off + k, none⟩) hlb).trans hc
      have hrB2 := hrB.below hb
      have HTK : Hid (strss (zss.take (k + 1)) = strss (zss.take k) ++ [strs zss[k]]) := Lib.hid (by rw [List.take_succ_eq_append_getElem hkz]; simp only [strss, List.map_append, List.map_cons, List.map_nil])
      have hml := HI.out zss[k] (List.getElem_mem hkz)
      rw [strss_at] at hrB2
      simp only [strss_at, strs_len] at hsrc
      generalize zss[k] = zs at *
      generalize hm : zs.length = m at *
      have HM := Lib.hid hm
      have hbl := hblk.lt
      clear hm hrB hc hle hmk
      go_wp2_with fail
      refine (toStringS_any B zs m c' HM.out _ hrB2 hml).mono ?_
      rintro e w2 ⟨rfl, hb2, hbel⟩
      have hblk2 := hblk.later hbel
      have hfr2 := hfr.snoc hbel hbl hb2 (by rw [strs_len, HM.out]; unfold maxLen; omega)
      rw [strs_len, HM.out, ← HTK.out] at hfr2
      have hdst : w2.cell? ⟨w.heap.size, k, none⟩ = some (.slice none 0 0) := by
        rw [hblk2.cell, List.getElem?_append_right (by rw [HH.out]; exact Nat.le_refl _), HH.out, Nat.sub_self, List.getElem?_replicate, if_pos (by omega)]
      have hfz : w2.frozen? ⟨w.heap.size, k, none⟩ = false := hblk2.frozen k
      have hset := hblk2.set_ k (.slice (some ⟨wr.heap.size, 0, none⟩) m m)
      rw [cp_snoc _ hs k n HH.out hlt] at hset
      have hfr3 := hfr2.far k (.slice (some ⟨wr.heap.size, 0, none⟩) m m)
      have hb3 := hb.trans (hbel.mono hb.size)
      go_wp2_with fail
      go_roundw
      case rel => exact ⟨k + 1, _, by omega, by go_num, Lib.hid (by rw [List.length_append, HH.out]; rfl), hset, hfr3, hb3.setCell (Nat.le_refl _) _⟩
      case measure => simp [intOf]; omega
    · go_wp2_with fail
      go_ret
      obtain rfl : k = n := by omega
      rw [Nat.sub_self, List.replicate_zero, List.append_nil] at hblk
      rw [List.take_of_length_le (by rw [HZ.out]; exact Nat.le_refl _)] at hfr
      have := own_of_fresh hfr hblk (by rw [strss_len, HZ.out]; unfold maxLen; omega)
      rw [strss_len, HZ.out] at this
      exact ⟨rfl, this, hb⟩
set_option maxHeartbeats 1000000 in
theorem eqStringSS_any (A B : Option Addr) (zss : List (List ByteArray)) (n c d : Nat) (hzn : zss.length = n) (w : World) (ha : RdRR w A (strss zss)) (hb : RdRR w B (strss zss)) (hn : n ≤ 1099511627776) (hin : ∀ zs ∈ zss, zs.length ≤ 1099511627776) :
    Calls Try.prog 52 #[.slice A n c, .slice B n d] w fun e w' => e = .returned (.bool true) ∧ Below w.heap.size w w' := by
  have HZ := Lib.hid hzn
  have HI := Lib.hid hin
  clear hzn hin
  have hne : ((n : Int) != (n : Int)) = false := by simp
  go_enter Try.func52, Try.ntmps52
  go_wp2
  go_loopw [5] (fun i wr => ∃ k : Nat, k ≤ n ∧ i = .int .i64 k ∧ Below w.heap.size w wr) (fun i _ => n - (intOf i).toNat)
  case atStart => exact ⟨0, Nat.zero_le _, rfl, Below.refl _ _⟩
  case round =>
    obtain ⟨k, hk, rfl, hbl⟩ := hrel
    by_cases hlt : k < n
    · have hkz : k < zss.length := by rw [HZ.out]; exact hlt
      have hkl : k < (strss zss).length := by rw [strss_len]; exact hkz
      obtain ⟨b1, o1, rfl, hl1, B1, c1, hc1, hle1, hmx1, hr1⟩ := ha.pos hkl
      obtain ⟨b2, o2, rfl, hl2, B2, c2, hc2, hle2, hmx2, hr2⟩ := hb.pos hkl
      have h1 : wr.cell? ⟨b1, o1 + k, none⟩ = some (.slice B1 ((strss zss)[k]).length c1) := (hbl.cell (p := ⟨b1, o1 + k, none⟩) hl1).trans hc1
      have h2 : wr.cell? ⟨b2, o2 + k, none⟩ = some (.slice B2 ((strss zss)[k]).length c2) := (hbl.cell (p := ⟨b2, o2 + k, none⟩) hl2).trans hc2
      have hr1' := hr1.below hbl
      have hr2' := hr2.below hbl
      rw [strss_at] at hr1' hr2'
      simp only [strss_at, strs_len] at h1 h2
      have hml := HI.out zss[k] (List.getElem_mem hkz)
      generalize zss[k] = zs at *
      generalize hm : zs.length = m at *
      have HM := Lib.hid hm
      have hki : (k : Int) < (n : Int) := by omega
      clear hm hr1 hr2 hc1 hc2
      go_wp2_with fail
      go_region_held3 (fun w' => Below wr.heap.size wr w' ∧ w'.cell? ⟨b1, o1 + k, none⟩ = some (.slice B1 m c1) ∧ w'.cell? ⟨b2, o2 + k, none⟩ = some (.slice B2 m c2)) (first | exact ⟨Below.refl _ _, by assumption, by assumption⟩ | exact ⟨Below.drew (Below.refl _ _), by assumption, by assumption⟩ | (exact ⟨hbq, (hbq.cell (p := ⟨b1, o1 + k, none⟩) (Nat.lt_of_lt_of_le hl1 hbl.size)).trans h1, (hbq.cell (p := ⟨b2, o2 + k, none⟩) (Nat.lt_of_lt_of_le hl2 hbl.size)).trans h2⟩))
        (first | (go_at_call 72; (with_reducible refine (eqStringS_any B1 B2 zs m c1 c2 HM.out _ hr1'.drew hr2'.drew (by omega)).mono ?_); rintro e w2 ⟨rfl, hbq0⟩; have hbq : Below wr.heap.size wr w2 := ⟨hbq0.os, hbq0.tape, hbq0.output, hbq0.size, hbq0.block⟩))
      all_goals
        go_wp2_with fail
        go_roundw
        case rel => exact ⟨k + 1, by omega, by go_num, hbl.trans (hbq.mono hbl.size)⟩
        case measure => simp [intOf]; omega
    · go_wp2_with fail
      go_ret
      exact ⟨rfl, hbl⟩
end Go.Proofs.Ytndhienobbnfeaa
