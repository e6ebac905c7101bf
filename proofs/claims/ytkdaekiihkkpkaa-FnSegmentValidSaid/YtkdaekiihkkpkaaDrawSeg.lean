/- The segments that are drawn. -/
import Derived.Test.YtkdaekiihkkpkaaDrawPart
import Derived.Test.YtkdaekiihkkpkaaStrSS
import Derived.Test.YtkdaekiihkkpkaaOwnSrc
import Derived.Deep.RegionLaw
namespace Go.Proofs.Ytkdaekiihkkpkaa
open Go Go.ChangeShapes Go.WideShapes Go.ChangeAt Go.RowKit
theorem string_infoD : Info Try.prog 9 (.string ⟨#[]⟩) 1 16 := Info.mk' string_info rfl (by decide) (by decide)
theorem strings_infoD : Info Try.prog 28 (.slice none 0 0) 1 24 := Info.mk' strings_info rfl (by decide) (by decide)
theorem only_set {w w' : World} {g b i : Nat} {v : Value} (h : w.grownBy w' (some g)) (hb : w.heap.size ≤ b) : w.grownBy (w'.setCell ⟨b, i, none⟩ v) (some g) :=
  only_own h (row := some b) ⟨rfl, rfl, rfl, by simp [World.setCell], fun k _ hk => Below.heap_setCell w' ⟨b, i, none⟩ v k (by intro e; exact hk (by rw [e]))⟩ (fun b' e => by injection e with e; omega)
theorem Rdr.set {w : World} {g q : Nat} (h : Rdr w g q) (b i : Nat) (v : Value) (hb : g < b) : Rdr (w.setCell ⟨b, i, none⟩ v) g q :=
  h.away (row := some b) ⟨rfl, rfl, rfl, by simp [World.setCell], fun k _ hk => Below.heap_setCell w ⟨b, i, none⟩ v k (by intro e; exact hk (by rw [e]))⟩ (fun b' e => by injection e with e; omega)
theorem out_only {w w' : World} {g : Nat} (h : w.grownBy w' (some g)) : Out g (g + 1) w w' := out_of_grown h (fun _ e => by injection e with e; omega)
/-- a list of texts that was drawn is small -/
def SegLow (tag : ByteArray) (ess : List (List ByteArray)) : Prop := tag.size ≤ 3 ∧ ess.length ≤ 4 ∧ ∀ zs ∈ ess, zs.length ≤ 5 ∧ ∀ p ∈ zs, p.size ≤ 9
/-- the tags that are drawn -/
def tgCells : List Value := [.string (txt [66, 71, 77]), .string (txt [69, 81, 68]), .string (txt [76, 79, 67]), .string (txt [85, 78, 72])]
def tbCells : List Value := [.string (txt []), .string (txt [65, 66]), .string (txt [97, 98, 99]), .string (txt [65, 43, 66])]
theorem tg_get (v : Int) (h0 : 0 ≤ v) (h1 : v < 4) : ∃ t : ByteArray, tgCells[v.toNat]? = some (.string t) ∧ t.size ≤ 3 := by
  obtain rfl | rfl | rfl | rfl : v = 0 ∨ v = 1 ∨ v = 2 ∨ v = 3 := by omega
  all_goals exact ⟨_, rfl, by decide⟩
theorem tb_get (v : Int) (h0 : 0 ≤ v) (h1 : v < 4) : ∃ t : ByteArray, tbCells[v.toNat]? = some (.string t) ∧ t.size ≤ 3 := by
  obtain rfl | rfl | rfl | rfl : v = 0 ∨ v = 1 ∨ v = 2 ∨ v = 3 := by omega
  all_goals exact ⟨_, rfl, by decide⟩
def fvCells : List Value := strs (List.replicate 5 (txt []))
theorem make_five (w : World) : (Instr.makeSlice 28 (.int .i64 5) (.int .i64 5)).run Try.prog w = .ok (.slice (some ⟨w.heap.size, 0, none⟩) 5 5) (w.alloc (.cells fvCells.toArray 9)) := by
  have hmk := run_make_row' (P := Try.prog) 28 9 (.string ⟨#[]⟩) 16 Try.underlying28 string_info rfl .i64 .i64 5 (by omega) (by omega)
  rw [made_one] at hmk
  exact hmk w
/-- a segment that was drawn; the reader has gone on -/
def SegDrawn (w : World) (g q : Nat) : Ending → World → Prop :=
  RVal fun u w' => ∃ tag A c ess q', u = .agg #[.string tag, .slice A ess.length c] ∧ OwnRR w' w.heap.size w'.heap.size 28 9 (.slice A ess.length c) (strss ess) ∧ SegLow tag ess ∧ q' ≤ q + 100 ∧ Rdr w' g q' ∧ w.grownBy w' (some g)
set_option maxHeartbeats 4000000 in
theorem l20Segment_any (g q : Nat) (m : Int) (w : World) (hr : Rdr w g q) (hq : q ≤ 10000000) (hm : m ≤ 1000000000) :
    Calls Try.prog 8 #[.pointer (some ⟨g, 0, none⟩), .int .i64 m] w (SegDrawn w g q) := by
  have hlt := hr.lt
  have hal1 : Below w.heap.size w (w.alloc (.cells #[.string ⟨#[]⟩, .slice none 0 0] 25)) := (Below.refl _ _).alloc (Nat.le_refl _) _
  have hal2 : Below w.heap.size w ((w.alloc (.cells #[.string ⟨#[]⟩, .slice none 0 0] 25)).alloc (.cells tgCells.toArray 9)) := hal1.alloc (by simp) _
  have hr1 := hr.kept hal2
  have hR0 : Blk ((w.alloc (.cells #[.string ⟨#[]⟩, .slice none 0 0] 25)).alloc (.cells tgCells.toArray 9)) w.heap.size 25 [.string ⟨#[]⟩, .slice none 0 0] := (Blk.new w 25 [.string ⟨#[]⟩, .slice none 0 0]).alloc _
  have hT0 : Blk ((w.alloc (.cells #[.string ⟨#[]⟩, .slice none 0 0] 25)).alloc (.cells tgCells.toArray 9)) (w.heap.size + 1) 9 tgCells := by
    have := Blk.new (w.alloc (.cells #[.string ⟨#[]⟩, .slice none 0 0] 25)) 9 tgCells
    simpa using this
  have HAL := Lib.hid hal2
  clear hal1 hal2 hr
  go_enter Try.func8, Try.ntmps8
  go_wp2_with fail
  refine (pick_any g q 4 _ hr1 (by omega) (by omega)).mono ?_
  rintro e w2 ⟨v, rfl, ⟨hv0, hv1, _⟩, hr2, hg2⟩
  have hR2 := hR0.only hg2 (by omega)
  have hT2 := hT0.only hg2 (by omega)
  have hv4 := hv1 (by omega)
  obtain ⟨tag, htag, htl⟩ := tg_get v hv0 hv4
  have hx := hT2.cell v.toNat
  rw [htag] at hx
  have HG2 := Lib.hid (only_trans (only_below HAL.out g) hg2)
  have hs2 : w.heap.size + 1 + 1 ≤ w2.heap.size := by have := hg2.size; simp at this; omega
  clear htag hT2 hT0 hR0 hg2 hv1
  go_wp2_with fail
  have hal3 : Below w2.heap.size w2 (w2.alloc (.cells #[.string tag, .slice none 0 0] 25)) := (Below.refl _ _).alloc (Nat.le_refl _) _
  refine (pick_any g (q + 1) 4 _ (hr2.kept hal3) (by omega) (by omega)).mono ?_
  rintro e w3 ⟨k0, rfl, ⟨hk0, hk1, _⟩, hr3, hg3⟩
  have hS3 := (Blk.new w2 25 [.string tag, .slice none 0 0]).only hg3 (by omega)
  have hR3 := (hR2.alloc (.cells #[.string tag, .slice none 0 0] 25)).only hg3 (by omega)
  have HG3 := Lib.hid (only_trans (only_trans HG2.out (only_below hal3 g)) hg3)
  have hs3 : w2.heap.size + 1 ≤ w3.heap.size := by have := hg3.size; simp at this; omega
  have hk4 := hk1 (by omega)
  clear hal3 hg3 HG2 hR2 hx hr2 hk1
  generalize hsb : w2.heap.size = sb at *
  clear hsb HAL hr1
  go_wp2_with fail
  go_loopw [6, 7, 8] (fun i _ _ wr => ∃ (k : Nat) (vv : Value) (ess : List (List ByteArray)) (q' : Nat), i = .int .i64 k ∧ k ≤ 3 ∧ ess.length + k ≤ 3 ∧ Hid (∀ zs ∈ ess, zs.length ≤ 5 ∧ ∀ p ∈ zs, p.size ≤ 9) ∧ q' + 16 * k ≤ q + 60 ∧ Rdr wr g q' ∧ Blk wr w.heap.size 25 [.string ⟨#[]⟩, .slice none 0 0] ∧ Blk wr sb 25 [.string tag, vv] ∧ OwnRR wr (sb + 1) wr.heap.size 28 9 vv (strss ess) ∧ w.grownBy wr (some g)) (fun i _ _ _ => (intOf i).toNat)
  case atStart =>
    obtain ⟨k, rfl⟩ := Int.eq_ofNat_of_zero_le hk0
    exact ⟨k, _, [], q + 1 + 1, rfl, by omega, by simp; omega, Lib.hid (by simp), by omega, hr3, hR3, hS3, ownRR_none _ _ _ _, HG3.out⟩
  case round =>
    obtain ⟨k, vv, ess, q', rfl, hk3, hek, HB, hq', hrd, hR, hS, hO, hG⟩ := hrel
    have HG := Lib.hid hG
    have hbs : w.heap.size ≤ wr.heap.size := hG.size
    have hSlt := hS.lt
    clear hG
    by_cases hlt0 : 0 < k
    · obtain ⟨wo, rfl⟩ : ∃ wo : World, wo = wr := ⟨_, rfl⟩
      have hal5 : Below wo.heap.size wo (wo.alloc (.cells #[] 9)) := (Below.refl _ _).alloc (Nat.le_refl _) _
      go_wp2_with fail
      refine (pick_any g q' 3 _ (hrd.kept hal5) (by omega) (by omega)).mono ?_
      rintro e w6 ⟨j0, rfl, ⟨hj0, hj1, _⟩, hr6, hg6⟩
      have hown6 := own_only (own_of_blk (base := wo.heap.size) (size := 1) (n := 0) (cs := []) (Blk.new wo 9 []) (Nat.le_refl _) rfl (by decide)) hg6 (by simp [Value.ownBlock]; have := hrd.lt; omega)
      have hG6 := only_trans (only_below hal5 g) hg6
      have hj3 := hj1 (by omega)
      have hglt := hrd.lt
      clear hal5 hg6 hj1
      go_wp2_with fail
      go_loopw [7, 8] (fun u j wi => ∃ (jn : Nat) (ps : List ByteArray) (q2 : Nat), j = .int .i64 jn ∧ jn ≤ 3 ∧ ps.length + jn ≤ 3 ∧ Hid (∀ p ∈ ps, p.size ≤ 4) ∧ q2 + 5 * jn ≤ q' + 16 ∧ wi.ownsRow wo.heap.size 9 1 u ps.length (strs ps) ∧ Rdr wi g q2 ∧ wo.grownBy wi (some g)) (fun _ j _ => (intOf j).toNat)
      case atStart =>
        obtain ⟨jn, rfl⟩ := Int.eq_ofNat_of_zero_le hj0
        exact ⟨jn + 1, [], q' + 1, by go_num, by omega, by simp; omega, Lib.hid (by simp), by omega, hown6, hr6, hG6⟩
      case round =>
        obtain ⟨jn, ps, q2, rfl, hj3, hpj, HP, hq2, hown, hri, hgi⟩ := hrel
        by_cases hj : 0 < jn
        · go_wp2_with fail
          refine (l20Part_any g q2 _ hri (by omega)).mono ?_
          rintro e w7 ⟨_, rfl, l, q3, rfl, hl, hq3, hr7, hg7⟩
          have hown7 := own_only hown hg7 (own_ne hown hglt)
          have hG7 := only_trans hgi hg7
          have hs7 := hG7.size
          have HG7 := Lib.hid hG7
          clear hG7 hg7 hown
          go_wp2_with (at_builtin; refine append_new rfl _ _ 28 rfl 9 _ _ _ Try.underlying28 string_infoD _ w7 _ _ _ rfl hown7 [.string (txt l)] rfl rfl (by simp [Value.oneCell']) (by omega) hs7 ?_; intro v' w8 hown8 hg8 hblk8)
          have hr8 := hr7.away hg8 (fun b e => by have := (hown7.lt b e).1; omega)
          have HG8 := Lib.hid (only_own HG7.out hg8 (fun b e => (hown7.lt b e).1))
          go_roundw
          case rel => exact ⟨jn - 1, ps ++ [txt l], q3, by go_num, by omega, by simp; omega, Lib.hid (fun p hp => by
            rcases List.mem_append.1 hp with h | h
            · exact HP.out p h
            · rw [List.mem_singleton.1 h, txt_size]; exact hl), by omega, by simpa [strs] using hown8, hr8, HG8.out⟩
          case measure => simp [intOf]; omega
        · have hR6 := hR.only hgi (by omega)
          have hS6 := hS.only hgi (by omega)
          have hO6 := hO.out (out_only hgi) (.inr (by omega))
          have HGi := Lib.hid (only_trans HG.out hgi)
          have hwi := hgi.size
          obtain ⟨UB, uc, rfl, _, _⟩ := own_slice hown
          have hO := hO6
          have hS := hS6
          have hR := hR6
          clear hO6 hS6 hR6 hgi
          obtain ⟨hs, h1, h2, h3⟩ := hO
          have fS1 := hS.cellAt 1 (by simp)
          simp only [List.getElem_cons_zero, List.getElem_cons_succ] at fS1
          have zS1 := hS.frozen 1
          have H2 := Lib.hid h2
          have H3 := Lib.hid h3
          have hown1 := h1.row
          have H1 := Lib.hid h1
          have HS6 := Lib.hid hS
          have HR6 := Lib.hid hR
          clear h1 h2 h3 hS hR
          obtain ⟨A5, c5, hv5, _, _⟩ := own_slice hown1
          subst hv5
          have hlen4 : (strss ess).length ≤ 3 := by rw [strss_len]; omega
          have hSlt6 := HS6.out.lt
          have hRlt6 := HR6.out.lt
          have hSne : Value.ownBlock (.slice A5 (strss ess).length c5) ≠ some sb := own_ne hown1 (by omega)
          have hRne : Value.ownBlock (.slice A5 (strss ess).length c5) ≠ some w.heap.size := own_ne hown1 (by omega)
          go_wp2_with (at_builtin; refine append_new rfl _ _ 23 rfl 28 _ _ _ Try.underlying23 strings_infoD _ wr _ _ _ rfl hown1 [.slice UB ps.length uc] (by first | rfl | (simp; with_unfolding_all rfl)) rfl (by simp [Value.oneCell']) (by omega) (by first | omega | (simp; omega)) ?_; intro v' w8 hown8 hg8 hblk8; obtain ⟨A6, c6, rfl, _, _⟩ := own_slice hown8; have hgr : World.grownBy wr w8 (Value.ownBlock (.slice A5 (strss ess).length c5)) := hg8; have hbk : Value.ownBlock (.slice A6 ((strss ess).length + 1) c6) = Value.ownBlock (.slice A5 (strss ess).length c5) ∨ Value.ownBlock (.slice A6 ((strss ess).length + 1) c6) = some ((World.heap wr).size + 1) := hblk8; have hS8 : Blk w8 sb 25 [.string tag, .slice A5 (strss ess).length c5] := (hgr.block sb hSlt6 (fun e => hSne e.symm)).trans HS6.out; have hR8 : Blk w8 w.heap.size 25 [.string ⟨#[]⟩, .slice none 0 0] := (hgr.block _ hRlt6 (fun e => hRne e.symm)).trans HR6.out; have gS0 := hS8.cellAt 0 (by simp); have gS1 := hS8.cellAt 1 (by simp); have yS1 := hS8.frozen 1; have gR0 := hR8.cellAt 0 (by simp); have gR1 := hR8.cellAt 1 (by simp); have yR0 := hR8.frozen 0; have yR1 := hR8.frozen 1; simp only [List.getElem_cons_zero, List.getElem_cons_succ] at gS0 gS1 gR0 gR1; have HGR := Lib.hid hgr; have HBK := Lib.hid hbk; have HS8 := Lib.hid hS8; have HR8 := Lib.hid hR8; clear hg8 hblk8 hgr hbk hS8 hR8)
          go_roundw
          case rel =>
            have hO8 := own_snoc (ys := strs ps) H1.out H2.out H3.out (by rw [strs_len]; exact own_base hown (by omega)) (fun g e => (hown.lt g e).1) hown8 HGR.out HBK.out
            refine ⟨k - 1, .slice A6 ((strss ess).length + 1) c6, ess ++ [ps], q2, by go_num, by omega, by simp; omega, Lib.hid (fun zs hz => ?_), by omega, ?_, ?_, ?_, ?_, ?_⟩
            · rcases List.mem_append.1 hz with h | h
              · exact HB.out zs h
              · rw [List.mem_singleton.1 h]
                exact ⟨by omega, fun p hp => by have := HP.out p hp; omega⟩
            · exact (hri.away HGR.out (fun b e => by have := (hown1.lt b e).1; omega)).set sb 1 _ (by omega)
            · exact HR8.out.far (p := ⟨sb, 1, none⟩) (by show w.heap.size ≠ sb; omega) _
            · exact HS8.out.set_ 1 _
            · have := hO8.set_far sb 1 (.slice A6 ((strss ess).length + 1) c6) (by omega) (Nat.le_refl _)
              simpa [strss] using this
            · exact only_set (only_own HGi.out HGR.out (fun b e => by have := (hown1.lt b e).1; omega)) (by omega)
          case measure => simp [intOf]; omega
    · go_wp2_with fail
      refine (odd_any g q' m _ hrd (by omega) hm).mono ?_
      rintro e w5 ⟨bb, rfl, q5, hq50, hq51, hr5, hg5⟩
      have hR5 := hR.only hg5 (by omega)
      have hS5 := hS.only hg5 (by omega)
      have hO5 := (hO.out (out_only hg5) (.inr (by omega))).hi hg5.size (Nat.le_refl _)
      have HG5 := Lib.hid (only_trans HG.out hg5)
      clear hR hS hO hrd HG hg5
      have hR := hR5
      have hS := hS5
      have hO := hO5
      have hrd := hr5
      have HG := HG5
      clear hR5 hS5 hO5 hr5 HG5
      cases bb
      · have HL : Hid (SegLow tag ess) := Lib.hid ⟨htl, by omega, HB.out⟩
        obtain ⟨A', c', hv', _, _⟩ := hO.len
        rw [strss_len] at hv'
        subst hv'
        have fS0 := hS.cellAt 0 (by simp)
        have fS1 := hS.cellAt 1 (by simp)
        have fR0 := hR.cellAt 0 (by simp)
        have fR1 := hR.cellAt 1 (by simp)
        simp only [List.getElem_cons_zero, List.getElem_cons_succ] at fS0 fS1 fR0 fR1
        have zR0 := hR.frozen 0
        have zR1 := hR.frozen 1
        have HO := Lib.hid hO
        have HRD := Lib.hid hrd
        have HLT := Lib.hid hR.lt
        clear hO hrd hS hR
        go_wp2_with fail
        refine bodyPost_ret (v := .agg #[.string tag, .slice A' (ess).length c']) (by simp [results, Try.results8, go_sem, *]) rfl ?_
        refine RVal.mk ⟨_, A', c', ess, q5, rfl, ?_, HL.out, by omega, ?_, only_set (only_set HG.out (Nat.le_refl _)) (Nat.le_refl _)⟩
        · exact (((HO.out.set_far w.heap.size 0 _ (by omega) (Nat.le_refl _)).set_far w.heap.size 1 _ (by omega) (Nat.le_refl _)).base (by omega))
        · exact (HRD.out.set w.heap.size 0 _ (by omega)).set w.heap.size 1 _ (by omega)
      · go_wp2_with fail
        refine (pick_any g q5 4 _ hrd (by omega) (by omega)).mono ?_
        rintro e w6 ⟨vs, rfl, ⟨hv0', hv1', _⟩, hr6, hg6⟩
        have hR6 := hR.only hg6 (by omega)
        have hS6 := hS.only hg6 (by omega)
        have hO6 := (hO.out (out_only hg6) (.inr (by omega))).hi hg6.size (Nat.le_refl _)
        have HG6 := Lib.hid (only_trans HG.out hg6)
        have hvs4 := hv1' (by omega)
        have hsz6 : w.heap.size ≤ w6.heap.size := HG6.out.size
        clear hR hS hO hrd HG hg6 hv1'
        have hR := hR6
        have hS := hS6
        have hO := hO6
        have hrd := hr6
        have HG := HG6
        clear hR6 hS6 hO6 hr6 HG6
        obtain rfl | rfl | rfl | rfl : vs = 0 ∨ vs = 1 ∨ vs = 2 ∨ vs = 3 := by omega
        · have hal7 : Below w6.heap.size w6 (w6.alloc (.cells tbCells.toArray 9)) := (Below.refl _ _).alloc (Nat.le_refl _) _
          go_wp2_with fail
          refine (pick_any g _ 4 _ (hrd.kept hal7) (by omega) (by omega)).mono ?_
          rintro e w7 ⟨v7, rfl, ⟨hv70, hv71, _⟩, hr7, hg7⟩
          have hv74 := hv71 (by omega)
          obtain ⟨tag7, htag7, htl7⟩ := tb_get v7 hv70 hv74
          have hx := ((Blk.new w6 9 tbCells).only hg7 (by have := hrd.lt; omega)).cell v7.toNat
          rw [htag7] at hx
          have hR7 := (hR.later hal7).only hg7 (by omega)
          have hS7 := (hS.later hal7).only hg7 (by omega)
          have hO7 := ((hO.later hal7).out (out_only hg7) (.inr (by omega))).hi (by have := hg7.size; simp at this; omega) (Nat.le_refl _)
          have HG7 := Lib.hid (only_trans (only_trans HG.out (only_below hal7 g)) hg7)
          clear hal7 hR hS hO hrd HG hg7 htag7 hv71
          obtain ⟨A5, c5, hv5, _, _⟩ := hO7.len
          rw [strss_len] at hv5
          subst hv5
          have fS0 := hS7.cellAt 0 (by simp)
          have fS1 := hS7.cellAt 1 (by simp)
          have fR0 := hR7.cellAt 0 (by simp)
          have fR1 := hR7.cellAt 1 (by simp)
          simp only [List.getElem_cons_zero, List.getElem_cons_succ] at fS0 fS1 fR0 fR1
          have zR0 := hR7.frozen 0
          have zR1 := hR7.frozen 1
          have zS0 := hS7.frozen 0
          have HO := Lib.hid hO7
          have HRD := Lib.hid hr7
          have HLT := Lib.hid hR7.lt
          have HL : Hid (SegLow tag7 ess) := Lib.hid ⟨htl7, by omega, HB.out⟩
          clear hO7 hr7 hS7 hR7
          go_wp2_with fail
          refine bodyPost_ret (v := .agg #[.string tag7, .slice A5 ess.length c5]) (by simp [results, Try.results8, go_sem, *]) rfl ?_
          refine RVal.mk ⟨_, A5, c5, ess, q5 + 1 + 1, rfl, ?_, HL.out, by omega, ?_, only_set (only_set (only_set HG7.out (by omega)) (Nat.le_refl _)) (Nat.le_refl _)⟩
          · exact ((((HO.out.set_far sb 0 _ (by omega) (Nat.le_refl _)).set_far w.heap.size 0 _ (by omega) (Nat.le_refl _)).set_far w.heap.size 1 _ (by omega) (Nat.le_refl _)).base (by omega))
          · exact ((HRD.out.set sb 0 _ (by omega)).set w.heap.size 0 _ (by omega)).set w.heap.size 1 _ (by omega)
        · have hal7 : Below w6.heap.size w6 (w6.alloc (.cells #[] 9)) := (Below.refl _ _).alloc (Nat.le_refl _) _
          have hu : (w6.alloc (.cells #[] 9)).ownsRow (sb + 1) 9 1 (.slice (some ⟨w6.heap.size, 0, none⟩) 0 0) 0 (strs []) := own_of_blk (cs := []) (Blk.new w6 9 []) (by have := hS.lt; omega) rfl (by decide)
          have HU := Lib.hid hu
          have hhi := hO
          clear hu hhi
          have eS1 := hS.cellAt 1 (by simp)
          simp only [List.getElem_cons_zero, List.getElem_cons_succ] at eS1
          have hR8' := hR.later hal7
          have hS8' := hS.later hal7
          have hO8' := hO.later hal7
          have hrd' := hrd.kept hal7
          have HG8' := Lib.hid (only_trans HG.out (only_below hal7 g))
          clear hal7 hR hS hO hrd HG
          have hR := hR8'
          have hS := hS8'
          have hO := hO8'
          have hrd := hrd'
          have HG := HG8'
          clear hR8' hS8' hO8' hrd' HG8'
          obtain ⟨hs, h1, h2, h3⟩ := hO
          have fS1 := hS.cellAt 1 (by simp)
          simp only [List.getElem_cons_zero, List.getElem_cons_succ] at fS1
          have zS1 := hS.frozen 1
          have H2 := Lib.hid h2
          have H3 := Lib.hid h3
          have hown1 := h1.row
          have H1 := Lib.hid h1
          have HS6 := Lib.hid hS
          have HR6 := Lib.hid hR
          clear h1 h2 h3 hS hR
          obtain ⟨A5, c5, hv5, _, _⟩ := own_slice hown1
          subst hv5
          have hlen4 : (strss ess).length ≤ 3 := by rw [strss_len]; omega
          have hSlt6 := HS6.out.lt
          have hRlt6 := HR6.out.lt
          have hSne : Value.ownBlock (.slice A5 (strss ess).length c5) ≠ some sb := own_ne hown1 (by omega)
          have hRne : Value.ownBlock (.slice A5 (strss ess).length c5) ≠ some w.heap.size := own_ne hown1 (by omega)
          go_wp2_with (at_builtin; refine append_new rfl _ _ 23 rfl 28 _ _ _ Try.underlying23 strings_infoD _ (w6.alloc (.cells #[] 9)) _ _ _ rfl hown1 [.slice (some ⟨w6.heap.size, 0, none⟩) 0 0] (by first | rfl | (simp; with_unfolding_all rfl)) rfl (by simp [Value.oneCell']) (by omega) (by first | omega | (simp; omega)) ?_; intro v' w8 hown8 hg8 hblk8; obtain ⟨A6, c6, rfl, _, _⟩ := own_slice hown8; have hgr : World.grownBy (w6.alloc (.cells #[] 9)) w8 (Value.ownBlock (.slice A5 (strss ess).length c5)) := hg8; have hbk : Value.ownBlock (.slice A6 ((strss ess).length + 1) c6) = Value.ownBlock (.slice A5 (strss ess).length c5) ∨ Value.ownBlock (.slice A6 ((strss ess).length + 1) c6) = some ((World.heap (w6.alloc (.cells #[] 9))).size + 1) := hblk8; have hS8 : Blk w8 sb 25 [.string tag, .slice A5 (strss ess).length c5] := (hgr.block sb hSlt6 (fun e => hSne e.symm)).trans HS6.out; have hR8 : Blk w8 w.heap.size 25 [.string ⟨#[]⟩, .slice none 0 0] := (hgr.block _ hRlt6 (fun e => hRne e.symm)).trans HR6.out; have gS0 := hS8.cellAt 0 (by simp); have gS1 := hS8.cellAt 1 (by simp); have yS1 := hS8.frozen 1; have gR0 := hR8.cellAt 0 (by simp); have gR1 := hR8.cellAt 1 (by simp); have yR0 := hR8.frozen 0; have yR1 := hR8.frozen 1; simp only [List.getElem_cons_zero, List.getElem_cons_succ] at gS0 gS1 gR0 gR1; have HGR := Lib.hid hgr; have HBK := Lib.hid hbk; have HS8 := Lib.hid hS8; have HR8 := Lib.hid hR8; clear hg8 hblk8 hgr hbk hS8 hR8)
          have hO8 := own_snoc (ys := strs []) H1.out H2.out H3.out (by rw [strs_len]; exact HU.out) (fun g e => by simp [Value.ownBlock] at e; omega) hown8 HGR.out HBK.out
          have HL : Hid (SegLow tag (ess ++ [[]])) := Lib.hid ⟨htl, by simp; omega, fun zs hz => by
            rcases List.mem_append.1 hz with h | h
            · exact HB.out zs h
            · rw [List.mem_singleton.1 h]
              refine ⟨by decide, fun p hp => ?_⟩
              simp at hp
              try (rw [hp]; decide)⟩
          refine bodyPost_ret (v := .agg #[.string tag, .slice A6 ((strss ess).length + 1) c6]) (by simp [results, Try.results8, go_sem, *]) rfl ?_
          refine RVal.mk ⟨tag, A6, c6, ess ++ [[]], q5 + 1, by simp [strss_len], ?_, HL.out, by omega, ?_, only_set (only_set (only_set (only_own HG.out HGR.out (fun b e => by have := (hown1.lt b e).1; omega)) (by omega)) (Nat.le_refl _)) (Nat.le_refl _)⟩
          · have := ((((hO8.set_far sb 1 (.slice A6 ((strss ess).length + 1) c6) (by omega) (Nat.le_refl _)).set_far w.heap.size 0 (.string tag) (by omega) (Nat.le_refl _)).set_far w.heap.size 1 (.slice A6 ((strss ess).length + 1) c6) (by omega) (Nat.le_refl _)).base (lo' := w.heap.size) (by omega))
            simpa [strss] using this
          · exact (((hrd.away HGR.out (fun b e => by have := (hown1.lt b e).1; omega)).set sb 1 _ (by omega)).set w.heap.size 0 _ (by omega)).set w.heap.size 1 _ (by omega)
        · have hal7 : Below w6.heap.size w6 (w6.alloc (.cells (strs [txt [49, 50, 51, 52, 53, 54, 55, 56, 57]]).toArray 9)) := (Below.refl _ _).alloc (Nat.le_refl _) _
          have hu : (w6.alloc (.cells (strs [txt [49, 50, 51, 52, 53, 54, 55, 56, 57]]).toArray 9)).ownsRow (sb + 1) 9 1 (.slice (some ⟨w6.heap.size, 0, none⟩) 1 1) 1 (strs [txt [49, 50, 51, 52, 53, 54, 55, 56, 57]]) := own_of_blk (cs := strs [txt [49, 50, 51, 52, 53, 54, 55, 56, 57]]) (Blk.new w6 9 _) (by have := hS.lt; omega) rfl (by decide)
          have HU := Lib.hid hu
          have hhi := hO
          clear hu hhi
          have eS1 := hS.cellAt 1 (by simp)
          simp only [List.getElem_cons_zero, List.getElem_cons_succ] at eS1
          have hR8' := hR.later hal7
          have hS8' := hS.later hal7
          have hO8' := hO.later hal7
          have hrd' := hrd.kept hal7
          have HG8' := Lib.hid (only_trans HG.out (only_below hal7 g))
          clear hal7 hR hS hO hrd HG
          have hR := hR8'
          have hS := hS8'
          have hO := hO8'
          have hrd := hrd'
          have HG := HG8'
          clear hR8' hS8' hO8' hrd' HG8'
          obtain ⟨hs, h1, h2, h3⟩ := hO
          have fS1 := hS.cellAt 1 (by simp)
          simp only [List.getElem_cons_zero, List.getElem_cons_succ] at fS1
          have zS1 := hS.frozen 1
          have H2 := Lib.hid h2
          have H3 := Lib.hid h3
          have hown1 := h1.row
          have H1 := Lib.hid h1
          have HS6 := Lib.hid hS
          have HR6 := Lib.hid hR
          clear h1 h2 h3 hS hR
          obtain ⟨A5, c5, hv5, _, _⟩ := own_slice hown1
          subst hv5
          have hlen4 : (strss ess).length ≤ 3 := by rw [strss_len]; omega
          have hSlt6 := HS6.out.lt
          have hRlt6 := HR6.out.lt
          have hSne : Value.ownBlock (.slice A5 (strss ess).length c5) ≠ some sb := own_ne hown1 (by omega)
          have hRne : Value.ownBlock (.slice A5 (strss ess).length c5) ≠ some w.heap.size := own_ne hown1 (by omega)
          go_wp2_with (at_builtin; refine append_new rfl _ _ 23 rfl 28 _ _ _ Try.underlying23 strings_infoD _ (w6.alloc (.cells (strs [txt [49, 50, 51, 52, 53, 54, 55, 56, 57]]).toArray 9)) _ _ _ rfl hown1 [.slice (some ⟨w6.heap.size, 0, none⟩) 1 1] (by first | rfl | (simp; with_unfolding_all rfl)) rfl (by simp [Value.oneCell']) (by omega) (by first | omega | (simp; omega)) ?_; intro v' w8 hown8 hg8 hblk8; obtain ⟨A6, c6, rfl, _, _⟩ := own_slice hown8; have hgr : World.grownBy (w6.alloc (.cells (strs [txt [49, 50, 51, 52, 53, 54, 55, 56, 57]]).toArray 9)) w8 (Value.ownBlock (.slice A5 (strss ess).length c5)) := hg8; have hbk : Value.ownBlock (.slice A6 ((strss ess).length + 1) c6) = Value.ownBlock (.slice A5 (strss ess).length c5) ∨ Value.ownBlock (.slice A6 ((strss ess).length + 1) c6) = some ((World.heap (w6.alloc (.cells (strs [txt [49, 50, 51, 52, 53, 54, 55, 56, 57]]).toArray 9))).size + 1) := hblk8; have hS8 : Blk w8 sb 25 [.string tag, .slice A5 (strss ess).length c5] := (hgr.block sb hSlt6 (fun e => hSne e.symm)).trans HS6.out; have hR8 : Blk w8 w.heap.size 25 [.string ⟨#[]⟩, .slice none 0 0] := (hgr.block _ hRlt6 (fun e => hRne e.symm)).trans HR6.out; have gS0 := hS8.cellAt 0 (by simp); have gS1 := hS8.cellAt 1 (by simp); have yS1 := hS8.frozen 1; have gR0 := hR8.cellAt 0 (by simp); have gR1 := hR8.cellAt 1 (by simp); have yR0 := hR8.frozen 0; have yR1 := hR8.frozen 1; simp only [List.getElem_cons_zero, List.getElem_cons_succ] at gS0 gS1 gR0 gR1; have HGR := Lib.hid hgr; have HBK := Lib.hid hbk; have HS8 := Lib.hid hS8; have HR8 := Lib.hid hR8; clear hg8 hblk8 hgr hbk hS8 hR8)
          have hO8 := own_snoc (ys := strs [txt [49, 50, 51, 52, 53, 54, 55, 56, 57]]) H1.out H2.out H3.out (by rw [strs_len]; exact HU.out) (fun g e => by simp [Value.ownBlock] at e; omega) hown8 HGR.out HBK.out
          have HL : Hid (SegLow tag (ess ++ [[txt [49, 50, 51, 52, 53, 54, 55, 56, 57]]])) := Lib.hid ⟨htl, by simp; omega, fun zs hz => by
            rcases List.mem_append.1 hz with h | h
            · exact HB.out zs h
            · rw [List.mem_singleton.1 h]
              refine ⟨by decide, fun p hp => ?_⟩
              simp at hp
              try (rw [hp]; decide)⟩
          refine bodyPost_ret (v := .agg #[.string tag, .slice A6 ((strss ess).length + 1) c6]) (by simp [results, Try.results8, go_sem, *]) rfl ?_
          refine RVal.mk ⟨tag, A6, c6, ess ++ [[txt [49, 50, 51, 52, 53, 54, 55, 56, 57]]], q5 + 1, by simp [strss_len], ?_, HL.out, by omega, ?_, only_set (only_set (only_set (only_own HG.out HGR.out (fun b e => by have := (hown1.lt b e).1; omega)) (by omega)) (Nat.le_refl _)) (Nat.le_refl _)⟩
          · have := ((((hO8.set_far sb 1 (.slice A6 ((strss ess).length + 1) c6) (by omega) (Nat.le_refl _)).set_far w.heap.size 0 (.string tag) (by omega) (Nat.le_refl _)).set_far w.heap.size 1 (.slice A6 ((strss ess).length + 1) c6) (by omega) (Nat.le_refl _)).base (lo' := w.heap.size) (by omega))
            simpa [strss] using this
          · exact (((hrd.away HGR.out (fun b e => by have := (hown1.lt b e).1; omega)).set sb 1 _ (by omega)).set w.heap.size 0 _ (by omega)).set w.heap.size 1 _ (by omega)
        · have hal7 : Below w6.heap.size w6 ((w6.alloc (.cells fvCells.toArray 9)).drew) := Below.drew ((Below.refl _ _).alloc (Nat.le_refl _) _)
          have hmk := make_five
          have hu : ((w6.alloc (.cells fvCells.toArray 9)).drew).ownsRow (sb + 1) 9 1 (.slice (some ⟨w6.heap.size, 0, none⟩) 5 5) 5 (strs (List.replicate 5 (txt []))) := own_of_blk (cs := fvCells) (Blk.new w6 9 fvCells).drew (by have := hS.lt; omega) rfl (by decide)
          have HU := Lib.hid hu
          have eS1 := hS.cellAt 1 (by simp)
          simp only [List.getElem_cons_zero, List.getElem_cons_succ] at eS1
          have hR8' := hR.later hal7
          have hS8' := hS.later hal7
          have hO8' := hO.later hal7
          have hrd' := hrd.kept hal7
          have HG8' := Lib.hid (only_trans HG.out (only_below hal7 g))
          clear hal7 hR hS hO hrd HG hu
          have hR := hR8'
          have hS := hS8'
          have hO := hO8'
          have hrd := hrd'
          have HG := HG8'
          clear hR8' hS8' hO8' hrd' HG8'
          obtain ⟨hs, h1, h2, h3⟩ := hO
          have fS1 := hS.cellAt 1 (by simp)
          simp only [List.getElem_cons_zero, List.getElem_cons_succ] at fS1
          have zS1 := hS.frozen 1
          have H2 := Lib.hid h2
          have H3 := Lib.hid h3
          have hown1 := h1.row
          have H1 := Lib.hid h1
          have HS6 := Lib.hid hS
          have HR6 := Lib.hid hR
          clear h1 h2 h3 hS hR
          obtain ⟨A5, c5, hv5, _, _⟩ := own_slice hown1
          subst hv5
          have hlen4 : (strss ess).length ≤ 3 := by rw [strss_len]; omega
          have hSlt6 := HS6.out.lt
          have hRlt6 := HR6.out.lt
          have hSne : Value.ownBlock (.slice A5 (strss ess).length c5) ≠ some sb := own_ne hown1 (by omega)
          have hRne : Value.ownBlock (.slice A5 (strss ess).length c5) ≠ some w.heap.size := own_ne hown1 (by omega)
          have fS1c : ((w6.alloc (.cells fvCells.toArray 9)).alloc (.cells #[.slice (some ⟨w6.heap.size, 0, none⟩) 5 5] 28)).cell? ⟨sb, 1, none⟩ = some (.slice A5 (strss ess).length c5) := (HS6.out.alloc (.cells #[.slice (some ⟨w6.heap.size, 0, none⟩) 5 5] 28)).cellAt 1 (by simp)
          go_wp2_with fail
          go_region_law (first | (refine step_append_new rfl _ _ 23 rfl 28 _ _ _ Try.underlying23 strings_infoD _ ((w6.alloc (.cells fvCells.toArray 9)).drew) _ _ _ rfl hown1 [.slice (some ⟨w6.heap.size, 0, none⟩) 5 5] (by first | rfl | (simp; with_unfolding_all rfl)) rfl (by simp [Value.oneCell']) (by omega) (by first | omega | (simp; omega)) ?_; intro v' w8 hown8 hg8 hblk8; obtain ⟨A6, c6, rfl, _, _⟩ := own_slice hown8; have hgr : World.grownBy ((w6.alloc (.cells fvCells.toArray 9)).drew) w8 (Value.ownBlock (.slice A5 (strss ess).length c5)) := hg8; have hbk : Value.ownBlock (.slice A6 ((strss ess).length + 1) c6) = Value.ownBlock (.slice A5 (strss ess).length c5) ∨ Value.ownBlock (.slice A6 ((strss ess).length + 1) c6) = some ((World.heap ((w6.alloc (.cells fvCells.toArray 9)).drew)).size + 1) := hblk8; have hS8 : Blk w8 sb 25 [.string tag, .slice A5 (strss ess).length c5] := (hgr.block sb hSlt6 (fun e => hSne e.symm)).trans HS6.out; have hR8 : Blk w8 w.heap.size 25 [.string ⟨#[]⟩, .slice none 0 0] := (hgr.block _ hRlt6 (fun e => hRne e.symm)).trans HR6.out; have gS0 := hS8.cellAt 0 (by simp); have gS1 := hS8.cellAt 1 (by simp); have yS1 := hS8.frozen 1; have gR0 := hR8.cellAt 0 (by simp); have gR1 := hR8.cellAt 1 (by simp); have yR0 := hR8.frozen 0; have yR1 := hR8.frozen 1; simp only [List.getElem_cons_zero, List.getElem_cons_succ] at gS0 gS1 gR0 gR1; have HGR := Lib.hid hgr; have HBK := Lib.hid hbk; have HS8 := Lib.hid hS8; have HR8 := Lib.hid hR8; clear hg8 hblk8 hgr hbk hS8 hR8))
          all_goals
            go_wp2_with fail
            have hO8 := own_snoc (ys := strs (List.replicate 5 (txt []))) H1.out H2.out H3.out (by rw [strs_len]; exact HU.out) (fun g e => by simp [Value.ownBlock] at e; omega) hown8 HGR.out HBK.out
            have HL : Hid (SegLow tag (ess ++ [(List.replicate 5 (txt []))])) := Lib.hid ⟨htl, by simp; omega, fun zs hz => by
              rcases List.mem_append.1 hz with h | h
              · exact HB.out zs h
              · rw [List.mem_singleton.1 h]
                refine ⟨by decide, fun p hp => ?_⟩
                simp at hp
                try (rw [hp]; decide)⟩
            refine bodyPost_ret (v := .agg #[.string tag, .slice A6 ((strss ess).length + 1) c6]) (by simp [results, Try.results8, go_sem, *]) rfl ?_
            refine RVal.mk ⟨tag, A6, c6, ess ++ [(List.replicate 5 (txt []))], q5 + 1, by simp [strss_len], ?_, HL.out, by omega, ?_, only_set (only_set (only_set (only_own HG.out HGR.out (fun b e => by have := (hown1.lt b e).1; omega)) (by omega)) (Nat.le_refl _)) (Nat.le_refl _)⟩
            · have := ((((hO8.set_far sb 1 (.slice A6 ((strss ess).length + 1) c6) (by omega) (Nat.le_refl _)).set_far w.heap.size 0 (.string tag) (by omega) (Nat.le_refl _)).set_far w.heap.size 1 (.slice A6 ((strss ess).length + 1) c6) (by omega) (Nat.le_refl _)).base (lo' := w.heap.size) (by omega))
              simpa [strss] using this
            · exact (((hrd.away HGR.out (fun b e => by have := (hown1.lt b e).1; omega)).set sb 1 _ (by omega)).set w.heap.size 0 _ (by omega)).set w.heap.size 1 _ (by omega)
end Go.Proofs.Ytkdaekiihkkpkaa
