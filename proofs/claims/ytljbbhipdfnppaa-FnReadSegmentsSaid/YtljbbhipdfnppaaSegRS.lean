/- l28Parts returns the plain word. -/
import Derived.Test.YtljbbhipdfnppaaSegRQ
import Derived.Test.YtljbbhipdfnppaaOwnSrc
import Derived.Deep.RegionHeld3
import Derived.StillTailTactics
namespace Go.Proofs.Ytljbbhipdfnppaa
open Go Go.ChangeShapes Go.WideShapes Go.ChangeAt Go.RowKit
theorem OwnRR.drew {w : World} {lo hi : Nat} {te ti : TypeId} {v : Value} {xss : List (List Value)} (h : OwnRR w lo hi te ti v xss) : OwnRR w.drew lo hi te ti v xss := h.out (lo' := 0) (hi' := 0) ⟨rfl, rfl, rfl, Nat.le_refl _, fun _ _ _ => rfl⟩ (.inr (Nat.zero_le _))
theorem string_infoE : Info Try.prog 9 (.string ⟨#[]⟩) 1 16 := Info.mk' (by kernel_rfl) rfl (by decide) (by decide)
theorem strings_infoE : Info Try.prog 28 (.slice none 0 0) 1 24 := Info.mk' (by kernel_rfl) rfl (by decide) (by decide)
/-- bounds: k bytes were read -/
def ElB (E : List (List (List UInt8))) (k : Nat) : Prop := E.length ≤ k ∧ ∀ L ∈ E, L ≠ [] ∧ L.length ≤ k ∧ ∀ p ∈ L, p.length ≤ k
theorem ElB.mono {E : List (List (List UInt8))} {k k' : Nat} (h : ElB E k) (hk : k ≤ k') : ElB E k' :=
  ⟨Nat.le_trans h.1 hk, fun L hL => ⟨(h.2 L hL).1, Nat.le_trans (h.2 L hL).2.1 hk, fun p hp => Nat.le_trans ((h.2 L hL).2.2 p hp) hk⟩⟩
theorem ElB.push {E : List (List (List UInt8))} {k : Nat} (h : ElB E k) : ElB (E ++ [[[]]]) (k + 1) := by
  refine ⟨by have := h.1; simp; omega, fun L hL => ?_⟩
  rcases List.mem_append.1 hL with hL | hL
  · have := h.2 L hL
    exact ⟨this.1, by omega, fun p hp => by have := this.2.2 p hp; omega⟩
  · rw [List.mem_singleton.1 hL]
    exact ⟨by simp, by simp, fun p hp => by rw [List.mem_singleton.1 hp]; simp⟩
theorem ElB.more {E : List (List (List UInt8))} {L : List (List UInt8)} {k : Nat} (h : ElB (E ++ [L]) k) : ElB (E ++ [L ++ [[]]]) (k + 1) := by
  obtain ⟨h1, h2⟩ := h
  simp at h1
  refine ⟨by simp; omega, fun M hM => ?_⟩
  rcases List.mem_append.1 hM with hM | hM
  · have := h2 M (by simp [hM])
    exact ⟨this.1, by omega, fun p hp => by have := this.2.2 p hp; omega⟩
  · have := h2 L (by simp)
    rw [List.mem_singleton.1 hM]
    refine ⟨by simp, by simp; omega, fun p hp => ?_⟩
    rcases List.mem_append.1 hp with hp | hp
    · have := this.2.2 p hp; omega
    · rw [List.mem_singleton.1 hp]; simp
theorem ElB.last {E : List (List (List UInt8))} {L : List (List UInt8)} {p : List UInt8} {k : Nat} (h : ElB (E ++ [L ++ [p]]) k) (d : UInt8) : ElB (E ++ [L ++ [p ++ [d]]]) (k + 1) := by
  obtain ⟨h1, h2⟩ := h
  simp at h1
  refine ⟨by simp; omega, fun M hM => ?_⟩
  rcases List.mem_append.1 hM with hM | hM
  · have := h2 M (by simp [hM])
    exact ⟨this.1, by omega, fun p hp => by have := this.2.2 p hp; omega⟩
  · have h3 := h2 (L ++ [p]) (by simp)
    rw [List.mem_singleton.1 hM]
    have h4 := h3.2.1
    rw [List.length_append, List.length_singleton] at h4
    refine ⟨by simp, by simp; omega, fun q hq => ?_⟩
    rcases List.mem_append.1 hq with hq | hq
    · have := h3.2.2 q (by simp [hq]); omega
    · have := h3.2.2 p (by simp)
      rw [List.mem_singleton.1 hq]; simp; omega
theorem elb_form {E : List (List (List UInt8))} {k : Nat} (h : ElB E k) : E = [] ∨ ∃ E0 L0 p, E = E0 ++ [L0 ++ [p]] ∧ E0.length + 1 ≤ k ∧ L0.length + 1 ≤ k ∧ p.length ≤ k := by
  rcases List.eq_nil_or_concat E with rfl | ⟨E0, L, rfl⟩
  · exact .inl rfl
  · rw [List.concat_eq_append] at h ⊢
    obtain ⟨h1, h2⟩ := h
    obtain ⟨h3, h4, h5⟩ := h2 L (by simp)
    rcases List.eq_nil_or_concat L with rfl | ⟨L0, p, rfl⟩
    · exact absurd rfl h3
    · rw [List.concat_eq_append] at h4 h5 ⊢
      simp at h1 h4
      exact .inr ⟨E0, L0, p, rfl, h1, h4, h5 p (by simp)⟩
/-- elements in new memory -/
def PartsOut (w : World) (E : List (List (List UInt8))) : Ending → World → Prop :=
  RVal fun u w' => OwnRR w' w.heap.size w'.heap.size 28 9 u (elsC E) ∧ Below w.heap.size w w'
set_option maxRecDepth 100000 in
set_option maxHeartbeats 8000000 in
theorem specParts (s : ByteArray) (w : World) (hs : s.size ≤ 1073741824) :
    Calls Try.prog 44 #[.string s] w (PartsOut w (partsAux s.data.toList [])) := by
  have hal : Below w.heap.size w (w.alloc (.cells #[] 28)) := (Below.refl _ _).alloc (Nat.le_refl _) _
  have hO0 : OwnRR (w.alloc (.cells #[] 28)) w.heap.size (w.alloc (.cells #[] 28)).heap.size 28 9 (.slice (some ⟨w.heap.size, 0, none⟩) 0 0) (elsC []) :=
    ownRR_nil (Blk.new _ _ []) (Nat.le_refl _) (by simp) (Nat.le_refl _)
  go_enter Try.func44, Try.ntmps44
  go_wp2_with fail
  generalize w.alloc (.cells #[] 28) = w0 at *
  go_loopw [3, 4, 5, 44, 53, 58] (fun v i _ _ _ _ wr => ∃ (k : Nat) (E : List (List (List UInt8))), k ≤ s.size + 1 ∧ i = .int .i64 k ∧ OwnRR wr w.heap.size wr.heap.size 28 9 v (elsC E) ∧ Hid (partsAux (s.data.toList.drop k) E = partsAux s.data.toList []) ∧ Hid (ElB E k) ∧ Below w.heap.size w wr) (fun _ i _ _ _ _ _ => s.size + 1 - (intOf i).toNat)
  case atStart => exact ⟨0, [], Nat.zero_le _, rfl, hO0, Lib.hid (by simp), Lib.hid ⟨Nat.zero_le _, fun L hL => by cases hL⟩, hal⟩
  case round =>
    clear hO0 hal
    obtain ⟨k, E, hk, rfl, hO, HE, HB, hbl⟩ := hrel
    obtain ⟨A, c, rfl, hc1, hc2⟩ := hO.len
    generalize hel : (elsC E).length = m at *
    have hE1 : m ≤ k := by rw [← hel, elsC_len]; exact HB.out.1
    have hsz := hbl.size
    unfold maxLen at hc2
    by_cases hlt : k < s.size
    · have HD := Lib.hid (data_at s k hlt)
      have hki : (k : Int) < (s.size : Int) := by omega
      have e1 : IntKind.i64.wrap ((k : Int) + 1) = (k : Int) + 1 := IntWalk.i64_in _ (by omega)
      have e2 : IntKind.i64.wrap ((k : Int) + 1 + 1) = (k : Int) + 1 + 1 := IntWalk.i64_in _ (by omega)
      by_cases h43 : (s[k].toNat : Int) = 43
      · have HC := Lib.hid (byte_eq (n := 43) (by decide) h43)
        have hA1 : Below wr.heap.size wr (wr.alloc (.cells #[.string ⟨#[]⟩] 9)) := (Below.refl _ _).alloc (Nat.le_refl _) _
        have hU : Blk (wr.alloc (.cells #[.string ⟨#[]⟩] 9)) wr.heap.size 9 (elC [[]]) := Blk.new _ _ _
        have hown := own_of_blk (base := w.heap.size) (size := 1) (n := 1) hU hbl.size rfl (by decide)
        have hO1 := hO.later hA1
        obtain ⟨hs', hrow, hsn⟩ := els_snoc (u := .slice (some ⟨wr.heap.size, 0, none⟩) 1 1) hO1 hown (fun g e => by simp [Value.ownBlock] at e; omega)
        have HSN := Lib.hid hsn
        have hsz1 : w.heap.size ≤ (wr.alloc (.cells #[.string ⟨#[]⟩] 9)).heap.size := by simp; omega
        have HBL := Lib.hid (hbl.trans (hA1.mono hsz))
        clear hA1 hU hown hO1 hO hsn hbl
        have hrow := hrow
        rw [show E.length = m from by rw [← hel, elsC_len]] at hrow HSN
        go_wp2_with (at_builtin; refine append_new rfl (.tmp 49) (.tmp 51) 23 rfl 28 _ _ _ Try.underlying23 strings_infoE w.heap.size (wr.alloc (.cells #[.string ⟨#[]⟩] 9)) (.slice A m c) m hs' rfl hrow [.slice (some ⟨wr.heap.size, 0, none⟩) 1 1] (by first | rfl | (simp; with_unfolding_all rfl)) rfl (by simp [Value.oneCell']) (by omega) hsz1 ?_; intro v' w8 hown8 hg8 hblk8)
        have hO8 := HSN.out v' w8 hown8 hg8 hblk8
        have hb8 : Below w.heap.size w w8 := HBL.out.grown hg8 hsz1 (fun b e => (hrow.lt b e).1)
        clear hown8 hg8 hblk8
        go_wp2_with fail
        go_roundw
        case rel =>
          refine ⟨k + 1, E ++ [[[]]], by omega, by go_num, hO8, Lib.hid ?_, Lib.hid HB.out.push, hb8⟩
          rw [← HE.out, HD.out, HC.out]
          exact (p_43 _ _).symm
        case measure => simp [intOf]; omega
      · have HC43 := Lib.hid (byte_ne (n := 43) (by decide) h43)
        rcases elb_form HB.out with rfl | ⟨E0, L0, p, rfl, hE0, hL0, hp0⟩
        · have H0 : Hid (partsAux s.data.toList [] = []) := Lib.hid (by rw [← HE.out, HD.out]; exact p_none HC43.out _)
          have hal : Below wr.heap.size wr (wr.alloc (.cells #[] 28)) := (Below.refl _ _).alloc (Nat.le_refl _) _
          have hO0 : OwnRR (wr.alloc (.cells #[] 28)) w.heap.size (wr.alloc (.cells #[] 28)).heap.size 28 9 (.slice (some ⟨wr.heap.size, 0, none⟩) 0 0) (elsC []) :=
            ownRR_nil (Blk.new _ _ []) hsz (by simp) (Nat.le_refl _)
          obtain rfl : m = 0 := hel.symm
          have HO0 := Lib.hid hO0
          clear hO0 hO
          go_wp2_with fail
          go_ret
          exact RVal.mk ⟨by rw [H0.out]; exact HO0.out, hbl.trans (hal.mono hsz)⟩
        · have hm1 : m = E0.length + 1 := by rw [← hel, elsC_len]; simp
          have hq1 : (L0 ++ [p]).length = L0.length + 1 := by simp
          generalize hx : E0.length = x at *
          generalize hy : L0.length = y at *
          have HX := Lib.hid hx
          have HY := Lib.hid hy
          have HM := Lib.hid hel
          have HN : Hid (E0 ++ [L0 ++ [p]] ≠ []) := Lib.hid (by simp)
          clear hx hy hel
          have m0 : (0 : Int) ≤ (m : Int) - 1 := by omega
          have m1 : (m : Int) - 1 < (m : Int) := by omega
          have m2 : ((m : Int) - 1).toNat = x := by omega
          have m3 : IntKind.i64.wrap ((m : Int) - 1) = (m : Int) - 1 := IntWalk.i64_in _ (by omega)
          have m5 : (1 : Int) ≤ (m : Int) := by omega
          have m4 : ((m : Int) == 0) = false := by simp; omega
          have HM1 := Lib.hid hm1
          clear hm1
          by_cases h58 : (s[k].toNat : Int) = 58
          · have HC := Lib.hid (byte_eq (n := 58) (by decide) h58)
            obtain ⟨g, c2, B, c', hv, hg1, hg2, hcell, hfz, hown, hne, hput⟩ := els_put hO
            rw [HX.out] at hv hcell hfz hput
            rw [hq1] at hcell hown hne hput
            injection hv with hv1 hv2 hv3
            subst hv1
            have HPUT := Lib.hid hput
            have HOWN := Lib.hid hown
            have HNE := Lib.hid hne
            have hrow := hown.row
            have HBL := Lib.hid hbl
            have hgs : g < wr.heap.size := Nat.lt_of_lt_of_le hg2 (Nat.le_refl _)
            clear hput hown hne hO hbl hv2 hv3
            generalize y + 1 = y1 at *
            go_wp2_with (at_builtin; refine append_new rfl (.tmp 72) (.tmp 73) 28 rfl 9 _ _ _ Try.underlying28 string_infoE w.heap.size wr (.slice B y1 c') y1 (elC (L0 ++ [p])) rfl hrow [.string ⟨#[]⟩] (by first | rfl | (simp; with_unfolding_all rfl)) rfl (by simp [Value.oneCell']) (by omega) hsz ?_; intro v' w8 hown8 hg8 hblk8; obtain ⟨A8, c8, rfl, _, _⟩ := own_slice hown8; have hc8 : w8.cell? ⟨g, x, none⟩ = some (.slice B y1 c') := (World.cell?_of_block (hg8.block g hgs (fun e => HNE.out g e.symm rfl))).trans hcell; have hf8 : w8.frozen? ⟨g, x, none⟩ = false := (World.frozen?_of_block (hg8.block g hgs (fun e => HNE.out g e.symm rfl))).trans hfz; have HG8 := Lib.hid hg8; have HK8 := Lib.hid hblk8; clear hg8 hblk8)
            have hle8 := HG8.out.size
            have hnew := HPUT.out w8 (.slice A8 (y1 + 1) c8) (L0 ++ [p] ++ [[]]) HG8.out (by
              rw [elC_snoc, List.length_append, hq1]
              exact hown8) (by
              rcases HK8.out with h | h
              · exact .inl h
              · exact .inr ⟨_, h, Nat.le_succ _⟩)
            obtain ⟨hO8, hOut8⟩ := hnew
            have hb8 : Below w.heap.size w (w8.setCell ⟨g, x, none⟩ (.slice A8 (y1 + 1) c8)) := below_out HBL.out hOut8 (Nat.le_refl _)
            clear hc8 hf8 hown8
            go_wp2_with fail
            go_roundw
            case rel =>
              refine ⟨k + 1, E0 ++ [L0 ++ [p] ++ [[]]], by omega, by go_num, hO8, Lib.hid ?_, Lib.hid HB.out.more, hb8⟩
              rw [← HE.out, HD.out, HC.out]
              refine Eq.symm ((p_58 _ HN.out).trans ?_)
              rw [modLast_snoc]
            case measure => simp [intOf]; omega
          · have HC58 := Lib.hid (byte_ne (n := 58) (by decide) h58)
            by_cases h63 : (s[k].toNat : Int) = 63
            · have HC := Lib.hid (byte_eq (n := 63) (by decide) h63)
              by_cases hlt2 : k + 1 < s.size
              · obtain ⟨g, c2, b, c', hv, hg1, hg2, hb1, hb2, hcell, hcb, hfb, hO8, hOut8⟩ := els_turn hO (p ++ [s[k + 1]])
                rw [HX.out] at hv hcell
                rw [HY.out] at hcell hcb hfb hO8 hOut8
                injection hv with hv1 hv2 hv3
                subst hv1
                replace hcb : wr.cell? ⟨b, y, none⟩ = some (.string (txt p)) := hcb
                have hsl := run_one (P := Try.prog) 9 Try.underlying9 s (k + 1) hlt2
                simp only [Int.natCast_add, Int.natCast_one] at hsl
                have hki2 : (k : Int) + 1 < (s.size : Int) := by omega
                have hcat := run_cat (P := Try.prog) p [s[k + 1]] (by simp; omega)
                have q4 : (1 : Int) ≤ ((y + 1 : Nat) : Int) := by omega
                have q0 : (0 : Int) ≤ ((y + 1 : Nat) : Int) - 1 := by omega
                have q1 : ((y + 1 : Nat) : Int) - 1 < ((y + 1 : Nat) : Int) := by omega
                have q2 : (((y + 1 : Nat) : Int) - 1).toNat = y := by omega
                have q3 : IntKind.i64.wrap (((y + 1 : Nat) : Int) - 1) = ((y + 1 : Nat) : Int) - 1 := IntWalk.i64_in _ (by omega)
                have HO8 := Lib.hid (hO8.hi (hi' := (wr.setCell ⟨b, y, none⟩ (.string (bA (p ++ [s[k + 1]])))).heap.size) (by simp [World.setCell]) (Nat.le_refl _))
                have hb8 := Lib.hid (below_out hbl hOut8 (Nat.le_refl _))
                clear hO8 hOut8 hO hbl hv2 hv3 hq1
                generalize y + 1 = y1 at *
                go_wp2_with fail
                go_still_tail 17, (by kernel_rfl)
                change wpList _ _ _ _ _ wr.drew
                have hcb' : wr.drew.cell? ⟨b, y, none⟩ = some (.string (txt p)) := hcb
                have hfb' : wr.drew.frozen? ⟨b, y, none⟩ = false := hfb
                go_wp2_with fail
                refine ⟨⟨k + 2, E0 ++ [L0 ++ [p ++ [s[k + 1]]]], by omega, by go_num, HO8.out.drew, Lib.hid ?_, Lib.hid ((HB.out.last _).mono (by omega)), Below.drew hb8.out⟩, ?_⟩
                · rw [← HE.out, HD.out, HC.out, data_at s (k + 1) hlt2]
                  refine Eq.symm ((p_63 _ _ HN.out).trans ?_)
                  rw [modLast_snoc, modLast_snoc]
                · simp [intOf]; omega
              · have hki2 : ¬ (k : Int) + 1 < (s.size : Int) := by omega
                have hcell0 := els_turn hO p
                obtain ⟨g, c2, b, c', hv, hg1, hg2, hb1, hb2, hcell, _, _, _, _⟩ := hcell0
                rw [HX.out] at hv hcell
                injection hv with hv1 hv2 hv3
                subst hv1
                have HO8 := Lib.hid hO
                have hb8 := Lib.hid hbl
                clear hO hbl hv2 hv3 hq1
                go_wp2_with fail
                go_roundw
                case rel =>
                  refine ⟨k + 2, E0 ++ [L0 ++ [p]], by omega, by go_num, HO8.out, Lib.hid ?_, Lib.hid (HB.out.mono (by omega)), hb8.out⟩
                  rw [← HE.out, HD.out, HC.out, data_end s (k + 1) (by omega), data_end s (k + 2) (by omega), p_nil]
                  exact (p_631 HN.out).symm
                case measure => simp [intOf]; omega
            · have HC63 := Lib.hid (byte_ne (n := 63) (by decide) h63)
              obtain ⟨g, c2, b, c', hv, hg1, hg2, hb1, hb2, hcell, hcb, hfb, hO8, hOut8⟩ := els_turn hO (p ++ [s[k]])
              rw [HX.out] at hv hcell
              rw [HY.out] at hcell hcb hfb hO8 hOut8
              injection hv with hv1 hv2 hv3
              subst hv1
              replace hcb : wr.cell? ⟨b, y, none⟩ = some (.string (txt p)) := hcb
              have hsl := run_one (P := Try.prog) 9 Try.underlying9 s k hlt
              have hcat := run_cat (P := Try.prog) p [s[k]] (by simp; omega)
              have q4 : (1 : Int) ≤ ((y + 1 : Nat) : Int) := by omega
              have q0 : (0 : Int) ≤ ((y + 1 : Nat) : Int) - 1 := by omega
              have q1 : ((y + 1 : Nat) : Int) - 1 < ((y + 1 : Nat) : Int) := by omega
              have q2 : (((y + 1 : Nat) : Int) - 1).toNat = y := by omega
              have q3 : IntKind.i64.wrap (((y + 1 : Nat) : Int) - 1) = ((y + 1 : Nat) : Int) - 1 := IntWalk.i64_in _ (by omega)
              have HO8 := Lib.hid (hO8.hi (hi' := (wr.setCell ⟨b, y, none⟩ (.string (bA (p ++ [s[k]])))).heap.size) (by simp [World.setCell]) (Nat.le_refl _))
              have hb8 := Lib.hid (below_out hbl hOut8 (Nat.le_refl _))
              clear hO8 hOut8 hO hbl hv2 hv3 hq1
              generalize y + 1 = y1 at *
              go_wp2_with fail
              go_still_tail 17, (by kernel_rfl)
              change wpList _ _ _ _ _ wr.drew
              have hcb' : wr.drew.cell? ⟨b, y, none⟩ = some (.string (txt p)) := hcb
              have hfb' : wr.drew.frozen? ⟨b, y, none⟩ = false := hfb
              go_wp2_with fail
              refine ⟨⟨k + 1, E0 ++ [L0 ++ [p ++ [s[k]]]], by omega, by go_num, HO8.out.drew, Lib.hid ?_, Lib.hid ((HB.out.last _).mono (by omega)), Below.drew hb8.out⟩, ?_⟩
              · rw [← HE.out, HD.out, p_one HC43.out HC58.out HC63.out _ HN.out, modLast_snoc, modLast_snoc]
              · simp [intOf]; omega
    · have H0 : Hid (partsAux s.data.toList [] = E) := Lib.hid (by rw [← HE.out, data_end s k (by omega), p_nil])
      have HO := Lib.hid hO
      clear hO
      go_wp2_with fail
      go_ret
      exact RVal.mk ⟨by rw [H0.out]; exact HO.out, hbl⟩
end Go.Proofs.Ytljbbhipdfnppaa
