/- FreeDeeds of the program and of the reference: the plain word. -/
import Derived.Test.YtpkbipjnobfcdaaPapE
import Derived.Test.YtpkbipjnobfcdaaPapJ
import Derived.Test.YtpkbipjnobfcdaaDedM
namespace Go.Proofs.Ytpkbipjnobfcdaa
open Go Go.ChangeShapes Go.WideShapes Go.ChangeAt Go.RowKit
set_option linter.unusedVariables false
set_option linter.unusedSimpArgs false
theorem deed_infoD : Info Try.prog 41 (.agg #[.int .i64 0, .int .i64 0, .int .i64 0]) 3 24 := Info.mk' paperdeed_info rfl (by decide) (by decide)
/-- the deeds that free marks below k -/
def freeTo (g x : Int) (k : Nat) : List PaperDeedV := ((List.range k).filter fun (m : Nat) => bitM g (m : Int)).map fun m : Nat => ⟨1, x, (m : Int)⟩
theorem freeTo_yes {g x : Int} {k : Nat} (h : bitM g (k : Int) = true) : freeTo g x (k + 1) = freeTo g x k ++ [⟨1, x, (k : Int)⟩] := by simp [freeTo, List.range_succ, h]
theorem freeTo_no {g x : Int} {k : Nat} (h : bitM g (k : Int) = false) : freeTo g x (k + 1) = freeTo g x k := by simp [freeTo, List.range_succ, h]
theorem freeTo_len (g x : Int) (k : Nat) : (freeTo g x k).length ≤ k := by
  unfold freeTo
  rw [List.length_map]
  exact Nat.le_trans (List.length_filter_le _ _) (by simp)
def freeD (p : PapV) (x : Int) : List PaperDeedV := if papOkV p then freeTo (marksOf p.hs x) x 3 else []
def FreeOut (w : World) (zs : List PaperDeedV) : Ending → World → Prop :=
  RVal fun u w' => ∃ A c, u = .slice A zs.length c ∧ w'.ownsRow w.heap.size 41 3 (.slice A zs.length c) zs.length (paperdeeds zs) ∧ Below w.heap.size w w'
theorem freeOut_mk {w w' : World} {zs r : List PaperDeedV} {A : Option Addr} {n c : Nat} (hr : r = zs) (hn : zs.length = n) (h : w'.ownsRow w.heap.size 41 3 (.slice A n c) n (paperdeeds zs)) (hb : Below w.heap.size w w') : FreeOut w r (.returned (.slice A n c)) w' := by
  subst hr hn
  exact RVal.mk ⟨A, c, rfl, h, hb⟩
theorem paperdeeds_snoc (a : List PaperDeedV) (y0 y1 y2 : Int) : paperdeeds (a ++ [⟨y0, y1, y2⟩]) = paperdeeds a ++ [.int .i64 y0, .int .i64 y1, .int .i64 y2] := by rw [paperdeeds_append, paperdeeds_one]
theorem bit_of {g m p : Int} (hp : powM m = p) : bitM g m = decide (g / p % 2 = 1) := by unfold bitM; rw [hp]
set_option maxHeartbeats 4000000 in
theorem implFreeDeeds (HA LA : Option Addr) (n c m lc : Nat) (hs : List HoldV) (ls : List Int) (x : Int) (w : World) (hn : hs.length = n) (hln : ls.length = m) (hr : RdV w HA (holds hs)) (hrl : RdV w LA (ints ls)) (hm : n ≤ 1048576) (hm2 : m ≤ 1048576) :
    Calls Try.prog 15 #[.agg #[.slice HA n c, .slice LA m lc], .int .i64 x] w (FreeOut w (freeD ⟨hs, ls⟩ x)) := by
  have HN := Lib.hid hn
  have HLN := Lib.hid hln
  have hbl : Below w.heap.size w (w.alloc (.cells #[.slice HA n c, .slice LA m lc] 26)) := (Below.refl _ _).alloc (Nat.le_refl _) _
  have hP := Blk.new w 26 [.slice HA n c, .slice LA m lc]
  clear hn hln
  go_enter Try.func15, Try.ntmps15
  go_wp2_with fail
  generalize w.alloc (.cells #[.slice HA n c, .slice LA m lc] 26) = w1 at *
  refine (implPapersValid HA LA n c m lc hs ls w1 HN.out HLN.out (hr.below hbl) (hrl.below hbl) hm hm2).mono ?_
  rintro e w2 ⟨rfl, b2⟩
  have HB2 := Lib.hid (below_trans hbl b2)
  have HP2 := Lib.hid (hP.later b2)
  clear b2 hbl hP
  cases hok : papOk hs ls with
  | false =>
    have HE : Hid (freeD ⟨hs, ls⟩ x = []) := Lib.hid (by simp [freeD, papOkV, hok])
    clear hok
    go_wp2_with fail
    go_ret
    exact freeOut_mk HE.out rfl (World.ownsRow_nil _ _ _ _) HB2.out
  | true =>
    have HE : Hid (freeD ⟨hs, ls⟩ x = freeTo (marksOf hs x) x 3) := Lib.hid (by unfold freeD; rw [if_pos (show papOkV ⟨hs, ls⟩ = true from hok)])
    obtain ⟨hg0, hg7⟩ := marksOf_range (papOk_iff.1 hok).1 x
    have cM := fun W (hW : Below w.heap.size w W) => implMarksOf HA n c hs LA m lc x W HN.out (hr.below hW) hm
    generalize marksOf hs x = g at *
    have hAND := and_facts hg0 hg7
    clear hok
    go_wp2_with fail
    go_loopw [5, 10] (fun v i wr => ∃ (k : Nat) (A2 : Option Addr) (c2 : Nat), k ≤ 3 ∧ v = .slice A2 (freeTo g x k).length c2 ∧ i = .int .i64 k ∧ wr.ownsRow w.heap.size 41 3 (.slice A2 (freeTo g x k).length c2) (freeTo g x k).length (paperdeeds (freeTo g x k)) ∧ Blk wr w.heap.size 26 [.slice HA n c, .slice LA m lc] ∧ Below w.heap.size w wr) (fun _ i _ => 3 - (intOf i).toNat)
    case atStart => exact ⟨0, none, 0, by omega, rfl, rfl, World.ownsRow_nil _ _ _ _, HP2.out, HB2.out⟩
    case round =>
      obtain ⟨k, A2, c2, hk, rfl, rfl, O4, hP, hB⟩ := hrel
      have c0 := hP.cellAt 0 (by simp)
      have c1 := hP.cellAt 1 (by simp)
      simp only [List.getElem_cons_zero, List.getElem_cons_succ] at c0 c1
      have HP := Lib.hid hP
      have HB := Lib.hid hB
      have HO4 := Lib.hid O4
      clear hP hB O4 HB2 HP2
      by_cases hlt : k < 3
      · have hki : (k : Int) < 3 := by omega
        have CM := Lib.hid (cM wr HB.out)
        clear cM
        obtain rfl | rfl | rfl : k = 0 ∨ k = 1 ∨ k = 2 := by omega
        · clear hki hlt hk
          go_wp2_with fail
          refine CM.out.mono ?_
          rintro e w5 ⟨rfl, b5⟩
          have O5 := own_later HO4.out b5
          have HP5 := Lib.hid (HP.out.later b5)
          have HB5 := Lib.hid (below_trans HB.out b5)
          have hs5 := HB5.out.size
          clear b5 c0 c1
          cases hb : bitM g ((0 : Nat) : Int) with
          | true =>
            have hbb : (bits .and .i64 (g) 1 == 1) = true := by rw [bit_of (p := 1) (by decide)] at hb; have h5 := of_decide_eq_true hb; rw [hAND.1]; simp; omega
            clear hAND
            have hcl : (freeTo g x 0).length ≤ 8589934592 := by have := freeTo_len g x 0; omega
            have HY := Lib.hid (freeTo_yes (x := x) hb)
            clear hb
            go_wp2_with (at_builtin; refine append_new rfl (.tmp 20) (.tmp 24) 35 rfl 41 _ _ _ Try.underlying35 deed_infoD (w.heap.size) w5 (.slice A2 (freeTo g x 0).length c2) (freeTo g x 0).length (paperdeeds (freeTo g x 0)) rfl O5 [.int .i64 1, .int .i64 x, .int .i64 0] (by first | rfl | (simp; with_unfolding_all rfl)) rfl (by simp [Value.oneCell']) hcl hs5 ?_; intro v7 w7 hown7 hg7 hblk7)
            obtain ⟨A7, c7, rfl, _, _⟩ := own_slice hown7
            rw [← paperdeeds_snoc] at hown7
            have HO7 := Lib.hid hown7
            have HP7 := Lib.hid (own_blk_apart O5 hg7 HP5.out (by decide))
            have HB7 := Lib.hid (Below.grown HB5.out hg7 hs5 (fun b hb => (O5.lt b hb).1))
            clear hg7 hblk7 hown7
            go_wp2_with fail
            go_roundw
            case rel => exact ⟨0 + 1, A7, c7, by omega, by rw [HY.out, List.length_append]; rfl, by go_num, by rw [HY.out, List.length_append]; exact HO7.out, HP7.out, HB7.out⟩
            case measure => simp [intOf]
          | false =>
            have hbb : (bits .and .i64 (g) 1 == 1) = false := by rw [bit_of (p := 1) (by decide)] at hb; have h5 := of_decide_eq_false hb; rw [hAND.1]; simp; omega
            clear hAND
            have HY := Lib.hid (freeTo_no (x := x) hb)
            clear hb
            go_wp2_with fail
            go_roundw
            case rel => exact ⟨0 + 1, A2, c2, by omega, by rw [HY.out], by go_num, by rw [HY.out]; exact O5, HP5.out, HB5.out⟩
            case measure => simp [intOf]
        · clear hki hlt hk
          go_wp2_with fail
          refine CM.out.mono ?_
          rintro e w5 ⟨rfl, b5⟩
          have O5 := own_later HO4.out b5
          have HP5 := Lib.hid (HP.out.later b5)
          have HB5 := Lib.hid (below_trans HB.out b5)
          have hs5 := HB5.out.size
          clear b5 c0 c1
          cases hb : bitM g ((1 : Nat) : Int) with
          | true =>
            have hbb : (bits .and .i64 (g / 2) 1 == 1) = true := by rw [bit_of (p := 2) (by decide)] at hb; have h5 := of_decide_eq_true hb; rw [hAND.2.1]; simp; omega
            clear hAND
            have hcl : (freeTo g x 1).length ≤ 8589934592 := by have := freeTo_len g x 1; omega
            have HY := Lib.hid (freeTo_yes (x := x) hb)
            clear hb
            go_wp2_with (at_builtin; refine append_new rfl (.tmp 20) (.tmp 24) 35 rfl 41 _ _ _ Try.underlying35 deed_infoD (w.heap.size) w5 (.slice A2 (freeTo g x 1).length c2) (freeTo g x 1).length (paperdeeds (freeTo g x 1)) rfl O5 [.int .i64 1, .int .i64 x, .int .i64 1] (by first | rfl | (simp; with_unfolding_all rfl)) rfl (by simp [Value.oneCell']) hcl hs5 ?_; intro v7 w7 hown7 hg7 hblk7)
            obtain ⟨A7, c7, rfl, _, _⟩ := own_slice hown7
            rw [← paperdeeds_snoc] at hown7
            have HO7 := Lib.hid hown7
            have HP7 := Lib.hid (own_blk_apart O5 hg7 HP5.out (by decide))
            have HB7 := Lib.hid (Below.grown HB5.out hg7 hs5 (fun b hb => (O5.lt b hb).1))
            clear hg7 hblk7 hown7
            go_wp2_with fail
            go_roundw
            case rel => exact ⟨1 + 1, A7, c7, by omega, by rw [HY.out, List.length_append]; rfl, by go_num, by rw [HY.out, List.length_append]; exact HO7.out, HP7.out, HB7.out⟩
            case measure => simp [intOf]
          | false =>
            have hbb : (bits .and .i64 (g / 2) 1 == 1) = false := by rw [bit_of (p := 2) (by decide)] at hb; have h5 := of_decide_eq_false hb; rw [hAND.2.1]; simp; omega
            clear hAND
            have HY := Lib.hid (freeTo_no (x := x) hb)
            clear hb
            go_wp2_with fail
            go_roundw
            case rel => exact ⟨1 + 1, A2, c2, by omega, by rw [HY.out], by go_num, by rw [HY.out]; exact O5, HP5.out, HB5.out⟩
            case measure => simp [intOf]
        · clear hki hlt hk
          go_wp2_with fail
          refine CM.out.mono ?_
          rintro e w5 ⟨rfl, b5⟩
          have O5 := own_later HO4.out b5
          have HP5 := Lib.hid (HP.out.later b5)
          have HB5 := Lib.hid (below_trans HB.out b5)
          have hs5 := HB5.out.size
          clear b5 c0 c1
          cases hb : bitM g ((2 : Nat) : Int) with
          | true =>
            have hbb : (bits .and .i64 (g / 4) 1 == 1) = true := by rw [bit_of (p := 4) (by decide)] at hb; have h5 := of_decide_eq_true hb; rw [hAND.2.2]; simp; omega
            clear hAND
            have hcl : (freeTo g x 2).length ≤ 8589934592 := by have := freeTo_len g x 2; omega
            have HY := Lib.hid (freeTo_yes (x := x) hb)
            clear hb
            go_wp2_with (at_builtin; refine append_new rfl (.tmp 20) (.tmp 24) 35 rfl 41 _ _ _ Try.underlying35 deed_infoD (w.heap.size) w5 (.slice A2 (freeTo g x 2).length c2) (freeTo g x 2).length (paperdeeds (freeTo g x 2)) rfl O5 [.int .i64 1, .int .i64 x, .int .i64 2] (by first | rfl | (simp; with_unfolding_all rfl)) rfl (by simp [Value.oneCell']) hcl hs5 ?_; intro v7 w7 hown7 hg7 hblk7)
            obtain ⟨A7, c7, rfl, _, _⟩ := own_slice hown7
            rw [← paperdeeds_snoc] at hown7
            have HO7 := Lib.hid hown7
            have HP7 := Lib.hid (own_blk_apart O5 hg7 HP5.out (by decide))
            have HB7 := Lib.hid (Below.grown HB5.out hg7 hs5 (fun b hb => (O5.lt b hb).1))
            clear hg7 hblk7 hown7
            go_wp2_with fail
            go_roundw
            case rel => exact ⟨2 + 1, A7, c7, by omega, by rw [HY.out, List.length_append]; rfl, by go_num, by rw [HY.out, List.length_append]; exact HO7.out, HP7.out, HB7.out⟩
            case measure => simp [intOf]
          | false =>
            have hbb : (bits .and .i64 (g / 4) 1 == 1) = false := by rw [bit_of (p := 4) (by decide)] at hb; have h5 := of_decide_eq_false hb; rw [hAND.2.2]; simp; omega
            clear hAND
            have HY := Lib.hid (freeTo_no (x := x) hb)
            clear hb
            go_wp2_with fail
            go_roundw
            case rel => exact ⟨2 + 1, A2, c2, by omega, by rw [HY.out], by go_num, by rw [HY.out]; exact O5, HP5.out, HB5.out⟩
            case measure => simp [intOf]
      · obtain rfl : k = 3 := by omega
        clear hk hlt cM hAND
        go_wp2_with fail
        go_ret
        exact freeOut_mk HE.out rfl HO4.out HB.out
set_option maxHeartbeats 4000000 in
theorem specFreeDeeds (HA LA : Option Addr) (n c m lc : Nat) (hs : List HoldV) (ls : List Int) (x : Int) (w : World) (hn : hs.length = n) (hln : ls.length = m) (hr : RdV w HA (holds hs)) (hrl : RdV w LA (ints ls)) (hm : n ≤ 1048576) (hm2 : m ≤ 1048576) :
    Calls Try.prog 22 #[.agg #[.slice HA n c, .slice LA m lc], .int .i64 x] w (FreeOut w (freeD ⟨hs, ls⟩ x)) := by
  have HN := Lib.hid hn
  have HLN := Lib.hid hln
  have hbl : Below w.heap.size w ((w.alloc (.cells #[.slice HA n c, .slice LA m lc] 26)).alloc (.cells #[] 41)) := ((Below.refl _ _).alloc (Nat.le_refl _) _).alloc (by simp) _
  have hP := (Blk.new w 26 [.slice HA n c, .slice LA m lc]).alloc (.cells #[] 41)
  have hE := Blk.new (w.alloc (.cells #[.slice HA n c, .slice LA m lc] 26)) 41 []
  simp only [World.size_alloc] at hE
  have HE0 := Lib.hid (own_of_blk (base := w.heap.size) (size := 3) (n := 0) (cs := []) hE (by omega) rfl (by decide))
  have HBL := Lib.hid hbl
  have HPL := Lib.hid hP
  clear hn hln hbl hP hE
  go_enter Try.func22, Try.ntmps22
  go_wp2_with fail
  generalize (w.alloc (.cells #[.slice HA n c, .slice LA m lc] 26)).alloc (.cells #[] 41) = w1 at *
  have HVL : Hid (papOk hs ls = true → 0 ≤ marksOf hs x ∧ marksOf hs x ≤ 7) := Lib.hid (fun hok => marksOf_range (papOk_iff.1 hok).1 x)
  have cV := Lib.hid (fun W (hW : Below w.heap.size w W) => specPapersValid HA LA n c m lc hs ls W HN.out HLN.out (hr.below hW) (hrl.below hW) hm hm2)
  have cM := Lib.hid (fun W (hW : Below w.heap.size w W) => specMarksOf HA n c hs LA m lc x W HN.out (hr.below hW) hm)
  have HE1 : Hid (papOk hs ls = true → freeD ⟨hs, ls⟩ x = freeTo (marksOf hs x) x 3) := Lib.hid (fun hok => by unfold freeD; rw [if_pos (show papOkV ⟨hs, ls⟩ = true from hok)])
  have HE2 : Hid (papOk hs ls = false → freeD ⟨hs, ls⟩ x = []) := Lib.hid (fun hok => by simp [freeD, papOkV, hok])
  generalize marksOf hs x = g at *
  generalize hokk : papOk hs ls = ok at *
  have HOKK := Lib.hid hokk
  clear hokk
  go_loopw [5, 6] (fun v i wr => ∃ (k : Nat) (A2 : Option Addr) (c2 : Nat), k ≤ 3 ∧ v = .slice A2 (freeTo g x k).length c2 ∧ i = .int .i64 k ∧ wr.ownsRow w.heap.size 41 3 (.slice A2 (freeTo g x k).length c2) (freeTo g x k).length (paperdeeds (freeTo g x k)) ∧ Hid (k ≠ 0 → ok = true) ∧ Blk wr w.heap.size 26 [.slice HA n c, .slice LA m lc] ∧ Below w.heap.size w wr) (fun _ i _ => 3 - (intOf i).toNat)
  case atStart => exact ⟨0, _, 0, by omega, rfl, rfl, HE0.out, Lib.hid (fun h => absurd rfl h), HPL.out, HBL.out⟩
  case round =>
    obtain ⟨k, A2, c2, hk, rfl, rfl, O4, HKO, hP, hB⟩ := hrel
    have c0 := hP.cellAt 0 (by simp)
    have c1 := hP.cellAt 1 (by simp)
    simp only [List.getElem_cons_zero, List.getElem_cons_succ] at c0 c1
    have HP := Lib.hid hP
    have HB := Lib.hid hB
    have HO4 := Lib.hid O4
    clear hP hB O4 HBL HPL HE0
    by_cases hlt : k < 3
    · have hki : (k : Int) < 3 := by omega
      have hd : decide ((k : Int) < 3) = true := decide_eq_true hki
      go_wp2_with fail
      refine (cV.out _ HB.out).mono ?_
      rintro e w5 ⟨rfl, b5⟩
      have O5 := own_later HO4.out b5
      have HP5 := Lib.hid (HP.out.later b5)
      have HB5 := Lib.hid (below_trans HB.out b5)
      have c0 := HP5.out.cellAt 0 (by simp)
      have c1 := HP5.out.cellAt 1 (by simp)
      simp only [List.getElem_cons_zero, List.getElem_cons_succ] at c0 c1
      have HO5 := Lib.hid O5
      clear b5 O5
      cases ok with
      | false =>
        have hk0 : k = 0 := Decidable.byContradiction (fun h => by have := HKO.out h; cases this)
        subst hk0
        clear hki hlt hk hd
        go_wp2_with fail
        go_ret
        exact freeOut_mk (HE2.out trivial) rfl HO5.out HB5.out
      | true =>
        obtain ⟨hg0, hg7⟩ := HVL.out rfl
        have CM := Lib.hid (cM.out w5 HB5.out)
        obtain rfl | rfl | rfl : k = 0 ∨ k = 1 ∨ k = 2 := by omega
        · clear hki hlt hk hd
          go_wp2_with fail
          refine CM.out.mono ?_
          rintro e w5 ⟨rfl, b5⟩
          have O5 := own_later HO5.out b5
          have HP5 := Lib.hid (HP5.out.later b5)
          have HB5 := Lib.hid (below_trans HB5.out b5)
          have hs5 := HB5.out.size
          clear b5 c0 c1
          cases hb : bitM g ((0 : Nat) : Int) with
          | true =>
            have hbb : (g % 2 == 1) = true := by rw [bit_of (p := 1) (by decide)] at hb; have h5 := of_decide_eq_true hb; simp; omega
            have hcl : (freeTo g x 0).length ≤ 8589934592 := by have := freeTo_len g x 0; omega
            have HY := Lib.hid (freeTo_yes (x := x) hb)
            clear hb
            go_wp2_with (at_builtin; refine append_new rfl (.tmp 23) (.tmp 27) 35 rfl 41 _ _ _ Try.underlying35 deed_infoD (w.heap.size) w5 (.slice A2 (freeTo g x 0).length c2) (freeTo g x 0).length (paperdeeds (freeTo g x 0)) rfl O5 [.int .i64 1, .int .i64 x, .int .i64 0] (by first | rfl | (simp; with_unfolding_all rfl)) rfl (by simp [Value.oneCell']) hcl hs5 ?_; intro v7 w7 hown7 hg7 hblk7)
            obtain ⟨A7, c7, rfl, _, _⟩ := own_slice hown7
            rw [← paperdeeds_snoc] at hown7
            have HO7 := Lib.hid hown7
            have HP7 := Lib.hid (own_blk_apart O5 hg7 HP5.out (by decide))
            have HB7 := Lib.hid (Below.grown HB5.out hg7 hs5 (fun b hb => (O5.lt b hb).1))
            clear hg7 hblk7 hown7
            go_wp2_with fail
            go_roundw
            case rel => exact ⟨0 + 1, A7, c7, by omega, by rw [HY.out, List.length_append]; rfl, by go_num, by rw [HY.out, List.length_append]; exact HO7.out, Lib.hid (fun _ => trivial), HP7.out, HB7.out⟩
            case measure => simp [intOf]
          | false =>
            have hbb : (g % 2 == 1) = false := by rw [bit_of (p := 1) (by decide)] at hb; have h5 := of_decide_eq_false hb; simp; omega
            have HY := Lib.hid (freeTo_no (x := x) hb)
            clear hb
            go_wp2_with fail
            go_roundw
            case rel => exact ⟨0 + 1, A2, c2, by omega, by rw [HY.out], by go_num, by rw [HY.out]; exact O5, Lib.hid (fun _ => trivial), HP5.out, HB5.out⟩
            case measure => simp [intOf]
        · clear hki hlt hk hd
          go_wp2_with fail
          refine CM.out.mono ?_
          rintro e w5 ⟨rfl, b5⟩
          have O5 := own_later HO5.out b5
          have HP5 := Lib.hid (HP5.out.later b5)
          have HB5 := Lib.hid (below_trans HB5.out b5)
          have hs5 := HB5.out.size
          clear b5 c0 c1
          cases hb : bitM g ((1 : Nat) : Int) with
          | true =>
            have hbb : (g / 2 % 2 == 1) = true := by rw [bit_of (p := 2) (by decide)] at hb; have h5 := of_decide_eq_true hb; simp; omega
            have hcl : (freeTo g x 1).length ≤ 8589934592 := by have := freeTo_len g x 1; omega
            have HY := Lib.hid (freeTo_yes (x := x) hb)
            clear hb
            go_wp2_with (at_builtin; refine append_new rfl (.tmp 23) (.tmp 27) 35 rfl 41 _ _ _ Try.underlying35 deed_infoD (w.heap.size) w5 (.slice A2 (freeTo g x 1).length c2) (freeTo g x 1).length (paperdeeds (freeTo g x 1)) rfl O5 [.int .i64 1, .int .i64 x, .int .i64 1] (by first | rfl | (simp; with_unfolding_all rfl)) rfl (by simp [Value.oneCell']) hcl hs5 ?_; intro v7 w7 hown7 hg7 hblk7)
            obtain ⟨A7, c7, rfl, _, _⟩ := own_slice hown7
            rw [← paperdeeds_snoc] at hown7
            have HO7 := Lib.hid hown7
            have HP7 := Lib.hid (own_blk_apart O5 hg7 HP5.out (by decide))
            have HB7 := Lib.hid (Below.grown HB5.out hg7 hs5 (fun b hb => (O5.lt b hb).1))
            clear hg7 hblk7 hown7
            go_wp2_with fail
            go_roundw
            case rel => exact ⟨1 + 1, A7, c7, by omega, by rw [HY.out, List.length_append]; rfl, by go_num, by rw [HY.out, List.length_append]; exact HO7.out, Lib.hid (fun _ => trivial), HP7.out, HB7.out⟩
            case measure => simp [intOf]
          | false =>
            have hbb : (g / 2 % 2 == 1) = false := by rw [bit_of (p := 2) (by decide)] at hb; have h5 := of_decide_eq_false hb; simp; omega
            have HY := Lib.hid (freeTo_no (x := x) hb)
            clear hb
            go_wp2_with fail
            go_roundw
            case rel => exact ⟨1 + 1, A2, c2, by omega, by rw [HY.out], by go_num, by rw [HY.out]; exact O5, Lib.hid (fun _ => trivial), HP5.out, HB5.out⟩
            case measure => simp [intOf]
        · clear hki hlt hk hd
          go_wp2_with fail
          refine CM.out.mono ?_
          rintro e w5 ⟨rfl, b5⟩
          have O5 := own_later HO5.out b5
          have HP5 := Lib.hid (HP5.out.later b5)
          have HB5 := Lib.hid (below_trans HB5.out b5)
          have hs5 := HB5.out.size
          clear b5 c0 c1
          cases hb : bitM g ((2 : Nat) : Int) with
          | true =>
            have hbb : (g / 4 % 2 == 1) = true := by rw [bit_of (p := 4) (by decide)] at hb; have h5 := of_decide_eq_true hb; simp; omega
            have hcl : (freeTo g x 2).length ≤ 8589934592 := by have := freeTo_len g x 2; omega
            have HY := Lib.hid (freeTo_yes (x := x) hb)
            clear hb
            go_wp2_with (at_builtin; refine append_new rfl (.tmp 23) (.tmp 27) 35 rfl 41 _ _ _ Try.underlying35 deed_infoD (w.heap.size) w5 (.slice A2 (freeTo g x 2).length c2) (freeTo g x 2).length (paperdeeds (freeTo g x 2)) rfl O5 [.int .i64 1, .int .i64 x, .int .i64 2] (by first | rfl | (simp; with_unfolding_all rfl)) rfl (by simp [Value.oneCell']) hcl hs5 ?_; intro v7 w7 hown7 hg7 hblk7)
            obtain ⟨A7, c7, rfl, _, _⟩ := own_slice hown7
            rw [← paperdeeds_snoc] at hown7
            have HO7 := Lib.hid hown7
            have HP7 := Lib.hid (own_blk_apart O5 hg7 HP5.out (by decide))
            have HB7 := Lib.hid (Below.grown HB5.out hg7 hs5 (fun b hb => (O5.lt b hb).1))
            clear hg7 hblk7 hown7
            go_wp2_with fail
            go_roundw
            case rel => exact ⟨2 + 1, A7, c7, by omega, by rw [HY.out, List.length_append]; rfl, by go_num, by rw [HY.out, List.length_append]; exact HO7.out, Lib.hid (fun _ => trivial), HP7.out, HB7.out⟩
            case measure => simp [intOf]
          | false =>
            have hbb : (g / 4 % 2 == 1) = false := by rw [bit_of (p := 4) (by decide)] at hb; have h5 := of_decide_eq_false hb; simp; omega
            have HY := Lib.hid (freeTo_no (x := x) hb)
            clear hb
            go_wp2_with fail
            go_roundw
            case rel => exact ⟨2 + 1, A2, c2, by omega, by rw [HY.out], by go_num, by rw [HY.out]; exact O5, Lib.hid (fun _ => trivial), HP5.out, HB5.out⟩
            case measure => simp [intOf]
    · obtain rfl : k = 3 := by omega
      have hd : decide (((3 : Nat) : Int) < 3) = false := by decide
      clear hk hlt
      go_wp2_with fail
      go_ret
      exact freeOut_mk (HE1.out (HKO.out (by decide))) rfl HO4.out HB.out
end Go.Proofs.Ytpkbipjnobfcdaa
