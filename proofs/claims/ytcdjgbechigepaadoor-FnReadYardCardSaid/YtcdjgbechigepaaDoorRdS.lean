/- spec.ReadYard. -/
import Derived.Test.YtcdjgbechigepaaDoorRdI
import Derived.Test.YtcdjgbechigepaaDoorCutS
import Derived.Test.YtcdjgbechigepaaDoorNumR
import Derived.Test.YtcdjgbechigepaaDoorYtS
namespace Go.Proofs.YtcdjgbechigepaaDoor
open Go Go.ChangeShapes Go.WideShapes Go.ChangeAt Go.RowKit
set_option linter.unusedVariables false
def stackS (x : List UInt8) : List Int := if x = [45] then [] else (cutB 44 x).map rdN
def rowsS (ws : List (List UInt8)) : List (List Int) := ws.map stackS
/-- what the reference makes of a text -/
def rdYardS (high : Int) (s : List UInt8) : Int × List (List Int) × Bool :=
  if yardOk high (rowsS (cutB 32 s)) = true ∧ yardT high (rowsS (cutB 32 s)) = s then (high, rowsS (cutB 32 s), true) else (0, [], false)
theorem cutB_count {c : UInt8} : ∀ s : List UInt8, (cutB c s).length ≤ s.length + 1
  | [] => by simp [cutB]
  | b :: r => by
    have ih := cutB_count (c := c) r
    have hne := cutB_ne c r
    unfold cutB
    split
    · simp; omega
    · have : 0 < (cutB c r).length := List.length_pos_iff.2 hne
      simp
      omega
theorem rowsS_take {ws : List (List UInt8)} {k : Nat} (h : k < ws.length) : rowsS (ws.take (k + 1)) = rowsS (ws.take k) ++ [stackS ws[k]] := by
  unfold rowsS
  rw [List.take_succ_eq_append_getElem h, List.map_append]
  rfl
theorem nums_take {ws : List (List UInt8)} {j : Nat} (h : j < ws.length) : (ws.take (j + 1)).map rdN = (ws.take j).map rdN ++ [rdN ws[j]] := by
  rw [List.take_succ_eq_append_getElem h, List.map_append]
  rfl
theorem strs_cell {w : World} {A : Option Addr} {xs : List (List UInt8)} (h : RdV w A (strs (xs.map txt))) {k : Nat} (hk : k < xs.length) : ∃ b o, A = some ⟨b, o, none⟩ ∧ b < w.heap.size ∧ w.cell? ⟨b, o + k, none⟩ = some (.string (txt xs[k])) := by
  have hk' : k < (strs (xs.map txt)).length := by rw [strs_len, List.length_map]; exact hk
  obtain ⟨b, o, rfl, hl, hc⟩ := h.pos hk'
  refine ⟨b, o, rfl, hl, ?_⟩
  rw [hc k hk', strs_at]
  simp
theorem ints_infoS : Info Tryd.prog 40 (.slice none 0 0) 1 24 := Info.mk' ints_info rfl (by decide) (by decide)
theorem rds_ret {w Y : World} {h : Int} {rows : List (List Int)} {ok : Bool} {A : Option Addr} {n c lo hi : Nat} {x : Int × List (List Int) × Bool} {u1 u2 : Value} (hx : x = (h, rows, ok)) (hn : rows.length = n) (hB : Below w.heap.size w Y) (hlo : w.heap.size + 1 ≤ lo) (hZ : True) (hi' : hi ≤ Y.heap.size) (hO : OwnRR Y lo hi 40 3 (.slice A n c) (intss rows)) :
    RdOut w x (.returned (.tuple #[.agg #[.int .i64 h, .slice A n c], .bool ok])) ((Y.setCell ⟨w.heap.size, 0, none⟩ u1).setCell ⟨w.heap.size, 1, none⟩ u2) := by
  subst hx hn
  exact RVal.mk ⟨A, c, rfl, ((hO.set_far _ _ _ (by omega) hi').set_far _ _ _ (by omega) (Nat.le_refl _)).base (by omega), (hB.setCell (Nat.le_refl _) _).setCell (Nat.le_refl _) _⟩
set_option maxRecDepth 100000 in
set_option maxHeartbeats 4000000 in
theorem specReadYard (high : Int) (s : List UInt8) (hs : s.length ≤ 1048577) (w : World) :
    Calls Tryd.prog 6 #[.string (txt s), .int .i64 high] w (RdOut w (rdYardS high s)) := by
  have hcl := cutB_count (c := 32) s
  have hxl : ∀ x ∈ cutB 32 s, x.length ≤ 1048577 := fun x hx => Nat.le_trans (cutB_len hx) hs
  have HRS : Hid (rdYardS high s = if yardOk high (rowsS (cutB 32 s)) = true ∧ yardT high (rowsS (cutB 32 s)) = s then (high, rowsS (cutB 32 s), true) else (0, [], false)) := Lib.hid rfl
  have cC := fun w => specCut s 32 (by omega) w
  have e32 : ((32 : UInt8).toNat : Nat) = 32 := rfl
  rw [e32] at cC
  generalize cutB 32 s = words at *
  have cP := fun (x : List UInt8) (hx : x.length ≤ 1048577) w => specCut x 44 (by omega) w
  have e44 : ((44 : UInt8).toNat : Nat) = 44 := rfl
  rw [e44] at cP
  generalize hn : words.length = n at *
  have HN := Lib.hid hn
  clear hn
  have k0 := (Blk.new w 24 [.int .i64 0, .slice none 0 0]).alloc (.cells #[.int .i64 high, .slice none 0 0] 24)
  have k1 := Blk.new (w.alloc (.cells #[.int .i64 0, .slice none 0 0] 24)) 24 [.int .i64 high, .slice none 0 0]
  simp only [World.size_alloc] at k1
  have hw0 : Below w.heap.size w ((w.alloc (.cells #[.int .i64 0, .slice none 0 0] 24)).alloc (.cells #[.int .i64 high, .slice none 0 0] 24)) := below_new (below_new (Below.refl _ _) _) _
  go_enter Tryd.func6, Tryd.ntmps6
  go_wp2_with (go_at_call 18; refine (cC _).mono ?_; rintro e W0 ⟨uw, rfl, how, hbw⟩)
  simp only [World.size_alloc] at how
  obtain ⟨Aw, cw, rfl, _, _⟩ := own_slice how
  have K0 := k0.later hbw
  have K1 := k1.later hbw
  have hB0 := below_trans hw0 hbw
  have hs0 : w.heap.size + 2 ≤ W0.heap.size := by have := hbw.size; simp at this; omega
  clear k0 k1 hw0 hbw cC
  go_loopw [8] (fun i wr => ∃ (k : Nat), k ≤ n ∧ i = .int .i64 k ∧ Out (w.heap.size + 1) (w.heap.size + 2) W0 wr ∧ ∃ A1 c1, Blk wr (w.heap.size + 1) 24 [.int .i64 high, .slice A1 k c1] ∧ OwnRR wr W0.heap.size wr.heap.size 40 3 (.slice A1 k c1) (intss (rowsS (words.take k)))) (fun i _ => n - (intOf i).toNat)
  case atStart => exact ⟨0, Nat.zero_le _, rfl, Out.refl _ _ _, none, 0, K1, by simpa [rowsS, intss] using ownRR_none W0 W0.heap.size 40 3⟩
  case round =>
    obtain ⟨k, hk, rfl, hO, A1, c1, P1, hR⟩ := hrel
    obtain ⟨Z, rfl⟩ : ∃ Z, Z = wr := ⟨_, rfl⟩
    have hsz := hO.size
    have hw2 : w.heap.size + 1 + 1 = w.heap.size + 2 := rfl
    have howr := own_outN how hO (by omega)
    have hrw : RdV Z Aw (strs (words.map txt)) := own_rd howr
    have HOW := Lib.hid howr
    by_cases hlt : k < n
    · have hkz : k < words.length := by rw [HN.out]; exact hlt
      have hki : (k : Int) < (n : Int) := by omega
      have hxk := hxl _ (List.getElem_mem hkz)
      have HST := Lib.hid (rowsS_take hkz)
      obtain ⟨wb, wo, rfl, hwb, hwc⟩ := strs_cell hrw hkz
      have hlk : (intss (rowsS (words.take k))).length = k := by rw [intss_len, rowsS, List.length_map, List.length_take]; omega
      generalize words[k] = x at *
      generalize rowsS (words.take k) = rows at *
      have cPx := fun w => cP x hxk w
      have hpl : (cutB 44 x).length ≤ 1048578 := by have := cutB_count (c := 44) x; omega
      have hpx : ∀ y ∈ cutB 44 x, y.length ≤ 1048577 := fun y hy => Nat.le_trans (cutB_len hy) hxk
      have HX : Hid (stackS x = if x = [45] then [] else (cutB 44 x).map rdN) := Lib.hid rfl
      generalize cutB 44 x = parts at *
      generalize hm : parts.length = m at *
      have HM := Lib.hid hm
      have hal : Below Z.heap.size Z (Z.alloc (.cells #[] 3)) := below_new (Below.refl _ _) _
      have hwc2 := (hal.cell (p := ⟨wb, wo + k, none⟩) hwb).trans hwc
      clear hm cP hk
      go_wp2_with (go_at_call 18; refine (cPx _).mono ?_; rintro e V ⟨up, rfl, hop, hbp⟩)
      simp only [World.size_alloc] at hop
      obtain ⟨Ap, cp, rfl, _, _⟩ := own_slice hop
      have hV := below_trans hal hbp
      have hVs := hV.size
      have hsV : Z.heap.size + 1 ≤ V.heap.size := by have := hbp.size; simp at this; omega
      have t0 : V.ownsRow Z.heap.size 3 1 (.slice (some ⟨Z.heap.size, 0, none⟩) 0 0) 0 [] := own_later (own_of_blk (cs := []) (Blk.new Z 3 []) (Nat.le_refl _) rfl (by decide)) hbp
      have HOP := Lib.hid hop
      have HV := Lib.hid hV
      have hkn : k < 1048578 := by omega
      clear hal hbp hop hwc2 howr how hrw cPx hV HRS hcl hxl
      go_loopw [9, 11] (fun v i W => ∃ (j : Nat), j ≤ m ∧ i = .int .i64 j ∧ (x = [45] → j = 0) ∧ Out Z.heap.size (Z.heap.size + 1) V W ∧ W.ownsRow Z.heap.size 3 1 v j (ints ((parts.take j).map rdN)) ∧ (∀ g, v.ownBlock = some g → g = Z.heap.size ∨ V.heap.size ≤ g)) (fun _ i _ => m - (intOf i).toNat)
      case atStart => exact ⟨0, Nat.zero_le _, rfl, fun _ => rfl, Out.refl _ _ _, t0, fun g e => .inl (by simpa [Value.ownBlock] using e.symm)⟩
      case round =>
        obtain ⟨j, hj, rfl, hx0, hOV, hv, hg⟩ := hrel
        have hWs := hOV.size
        obtain ⟨SA, cs, rfl, _, _⟩ := own_slice hv
        have HJ := Lib.hid hv
        have gc : wr.cell? ⟨wb, wo + k, none⟩ = some (.string (txt x)) := by
          have h1 : V.cell? ⟨wb, wo + k, none⟩ = some (.string (txt x)) := (HV.out.cell (p := ⟨wb, wo + k, none⟩) hwb).trans hwc
          rw [← h1]
          exact World.cell?_of_block (hOV.block wb (by omega) (.inl hwb))
        have hpr : RdV wr Ap (strs (parts.map txt)) := own_rd (own_outN HOP.out hOV (Nat.le_refl _))
        by_cases hlj : j < m ∧ ¬ x = [45]
        · obtain ⟨hlj, hx⟩ := hlj
          have hq : (x == [45]) = false := beq_eq_false_iff_ne.2 hx
          have hq2 : (x != [45]) = true := by simp [hx]
          have hjz : j < parts.length := by rw [HM.out]; exact hlj
          have hji : (j : Int) < (m : Int) := by omega
          obtain ⟨pb, po, rfl, hpb, hpc⟩ := strs_cell hpr hjz
          have hyl := hpx _ (List.getElem_mem hjz)
          have HNT := Lib.hid (nums_take hjz)
          generalize parts[j] = y at *
          have cR := fun w => specRead (txt y) (by rw [txt_size]; omega) w
          generalize rdN y = v at *
          clear hv hpr
          go_wp2_with (first | (go_at_call 19; refine (cR _).mono ?_; rintro e w5 ⟨rfl, rfl⟩) | (at_builtin; refine append_new rfl (.tmp 41) (.tmp 47) 40 rfl 3 _ _ _ Tryd.underlying40 int_infoR Z.heap.size _ (.slice SA j cs) j (ints ((parts.take j).map rdN)) rfl HJ.out [.int .i64 v] rfl rfl (by simp [Value.oneCell']) (by omega) (by omega) ?_; intro v' w6 hown6 hg6 hblk6))
          go_roundw
          case rel =>
            have hgs := hg6.size
            refine ⟨j + 1, by omega, by go_num, fun e => absurd e hx, ⟨hg6.os.trans hOV.os, hg6.tape.trans hOV.tape, hg6.output.trans hOV.output, by omega, fun q hq hq2 => (hg6.block q (by omega) (fun e => by rcases hg _ e.symm with h | h <;> omega)).trans (hOV.block q hq hq2)⟩, ?_, ?_⟩
            · rw [HNT.out]
              simpa [ints] using hown6
            · intro g e
              rcases hblk6 with h | h
              · exact hg g (h ▸ e)
              · rw [h] at e
                injection e with e
                right
                omega
          case measure => simp [intOf]; omega
        · have HE : (parts.take j).map rdN = stackS x := by
            rw [HX.out]
            by_cases hx : x = [45]
            · rw [if_pos hx, hx0 hx]; rfl
            · have hjn : ¬ j < m := fun h => hlj ⟨h, hx⟩
              rw [if_neg hx, List.take_of_length_le (by rw [HM.out]; omega)]
          rw [HE] at hv
          have hjl : (stackS x).length = j := by have := hv.1; rw [ints_len] at this; omega
          generalize stackS x = st at *
          obtain ⟨hs0, hadd⟩ := hR.add (by omega)
          have hBW : Below Z.heap.size Z wr := below_out HV.out hOV (Nat.le_refl _)
          rw [hlk] at hadd
          obtain ⟨ka, kblk, kfin⟩ := hadd wr _ (ints st) hBW (by rw [ints_len, hjl]; exact hv)
          have Pw : Blk wr (w.heap.size + 1) 24 [.int .i64 high, .slice A1 k c1] := (hBW.block _ P1.lt).trans P1
          have u1 : wr.cell? ⟨w.heap.size + 1, 1, none⟩ = some (.slice A1 k c1) := Pw.cellAt 1 (by simp)
          have u3 : (wr.alloc (.cells #[.slice SA j cs] 40)).cell? ⟨w.heap.size + 1, 1, none⟩ = some (.slice A1 k c1) := (Pw.alloc _).cellAt 1 (by simp)
          have KA := Lib.hid ka; have KBLK := Lib.hid kblk; have KFIN := Lib.hid kfin
          have hbs : W0.heap.size ≤ (wr.alloc (.cells #[.slice SA j cs] 40)).heap.size := by simp; omega
          have HP1 := Lib.hid P1; have HOO := Lib.hid hO
          have hp1 := P1.lt
          have hst : ∀ (A7 : Option Addr) (c7 : Nat) (w7 : World), OwnRR w7 W0.heap.size w7.heap.size 40 3 (.slice A7 (k + 1) c7) (intss rows ++ [ints st]) → Out W0.heap.size Z.heap.size Z w7 →
              Out (w.heap.size + 1) (w.heap.size + 2) W0 (w7.setCell ⟨w.heap.size + 1, 1, none⟩ (.slice A7 (k + 1) c7)) ∧ Blk (w7.setCell ⟨w.heap.size + 1, 1, none⟩ (.slice A7 (k + 1) c7)) (w.heap.size + 1) 24 [.int .i64 high, .slice A7 (k + 1) c7] ∧ OwnRR (w7.setCell ⟨w.heap.size + 1, 1, none⟩ (.slice A7 (k + 1) c7)) W0.heap.size (w7.setCell ⟨w.heap.size + 1, 1, none⟩ (.slice A7 (k + 1) c7)).heap.size 40 3 (.slice A7 (k + 1) c7) (intss (rows ++ [st])) := by
            intro A7 c7 w7 m1 m2
            have P7 : Blk w7 (w.heap.size + 1) 24 [.int .i64 high, .slice A1 k c1] := (m2.block _ HP1.out.lt (.inl (by omega))).trans HP1.out
            have hset : Out (w.heap.size + 1) (w.heap.size + 2) w7 (w7.setCell ⟨w.heap.size + 1, 1, none⟩ (.slice A7 (k + 1) c7)) := out_setCell _ _ _ _
            have hs2 := m2.size
            have hs1 := HOO.out.size
            refine ⟨⟨hset.os.trans (m2.os.trans HOO.out.os), hset.tape.trans (m2.tape.trans HOO.out.tape), hset.output.trans (m2.output.trans HOO.out.output), by have := hset.size; omega, fun q hq hq2 => (hset.block q (by omega) hq2).trans ((m2.block q (by omega) (.inl hq)).trans (HOO.out.block q hq hq2))⟩, P7.set_ 1 _, ?_⟩
            rw [intss_app]
            exact m1.set_far _ _ _ (by omega) (Nat.le_refl _)
          have HSTO := Lib.hid hst
          have HJL := Lib.hid hjl
          by_cases hjm : j < m
          · obtain rfl : x = [45] := Classical.byContradiction fun h => hlj ⟨hjm, h⟩
            have hji : (j : Int) < (m : Int) := by omega
            clear hst ka kblk kfin hadd hv HE hR hlj hx0 hBW P1 hO hjl hg HX
            go_wp2_with (first | (at_builtin; refine append_src rfl (.tmp 50) (.tmp 52) 22 rfl 40 _ _ _ Tryd.underlying22 ints_infoS W0.heap.size (wr.alloc (.cells #[.slice SA j cs] 40)) (.slice A1 k c1) k hs0 rfl KA.out (some ⟨wr.heap.size, 0, none⟩) 1 1 [.slice SA j cs] rfl rfl KBLK.out.rd (by simp [Value.oneCell']) (by omega) hbs ?_; intro v7 w7 hown7 hg7 hb7; obtain ⟨A7, c7, rfl, _, _⟩ := own_slice hown7; obtain ⟨m1, m2⟩ := KFIN.out _ w7 hown7 hg7 hb7; have P7 : Blk w7 (w.heap.size + 1) 24 [.int .i64 high, .slice A1 k c1] := (m2.block _ hp1 (.inl (by omega))).trans HP1.out; have f7 : w7.frozen? ⟨w.heap.size + 1, 1, none⟩ = false := P7.frozen 1; have q7 : w7.cell? ⟨w.heap.size + 1, 1, none⟩ = some (.slice A1 k c1) := P7.cellAt 1 (by simp); have M1 := Lib.hid m1; have M2 := Lib.hid m2; clear m1 m2 hown7 hg7 hb7))
            obtain ⟨n1, n2, n3⟩ := HSTO.out A7 c7 w7 M1.out M2.out
            have N1 := Lib.hid n1; have N2 := Lib.hid n2; have N3 := Lib.hid n3
            clear n1 n2 n3
            go_wp2_with fail
            go_roundw
            case rel => exact ⟨k + 1, by omega, by go_num, N1.out, A7, c7, N2.out, by rw [HST.out]; exact N3.out⟩
            case measure => simp [intOf]; omega
          · have hji : ¬ (j : Int) < (m : Int) := by omega
            clear hst ka kblk kfin hadd hv HE hR hlj hx0 hBW P1 hO hjl hg HX
            go_wp2_with (first | (at_builtin; refine append_src rfl (.tmp 50) (.tmp 52) 22 rfl 40 _ _ _ Tryd.underlying22 ints_infoS W0.heap.size (wr.alloc (.cells #[.slice SA j cs] 40)) (.slice A1 k c1) k hs0 rfl KA.out (some ⟨wr.heap.size, 0, none⟩) 1 1 [.slice SA j cs] rfl rfl KBLK.out.rd (by simp [Value.oneCell']) (by omega) hbs ?_; intro v7 w7 hown7 hg7 hb7; obtain ⟨A7, c7, rfl, _, _⟩ := own_slice hown7; obtain ⟨m1, m2⟩ := KFIN.out _ w7 hown7 hg7 hb7; have P7 : Blk w7 (w.heap.size + 1) 24 [.int .i64 high, .slice A1 k c1] := (m2.block _ hp1 (.inl (by omega))).trans HP1.out; have f7 : w7.frozen? ⟨w.heap.size + 1, 1, none⟩ = false := P7.frozen 1; have q7 : w7.cell? ⟨w.heap.size + 1, 1, none⟩ = some (.slice A1 k c1) := P7.cellAt 1 (by simp); have M1 := Lib.hid m1; have M2 := Lib.hid m2; clear m1 m2 hown7 hg7 hb7))
            obtain ⟨n1, n2, n3⟩ := HSTO.out A7 c7 w7 M1.out M2.out
            have N1 := Lib.hid n1; have N2 := Lib.hid n2; have N3 := Lib.hid n3
            clear n1 n2 n3
            go_wp2_with fail
            go_roundw
            case rel => exact ⟨k + 1, by omega, by go_num, N1.out, A7, c7, N2.out, by rw [HST.out]; exact N3.out⟩
            case measure => simp [intOf]; omega
    · obtain rfl : k = n := by omega
      have hki : ¬ (k : Int) < (k : Int) := by omega
      rw [List.take_of_length_le (by rw [HN.out]; exact Nat.le_refl _)] at hR
      have hlr : (rowsS words).length = k := by rw [rowsS, List.length_map]; exact HN.out
      have hk3 : k ≤ 1048578 := by have := HN.out; omega
      generalize rowsS words = rows at *
      have hBZ : Below w.heap.size w Z := below_out hB0 hO (by omega)
      have R0 : Blk Z w.heap.size 24 [.int .i64 0, .slice none 0 0] := (hO.block _ K0.lt (.inl (by omega))).trans K0
      have cV := fun W (hW : Below Z.heap.size Z W) => specYardValid high A1 k c1 rows W hlr (hR.rd.below hW) (by omega)
      have cT := fun W (hW : Below Z.heap.size Z W) (h : k ≤ 1048576) => specYardText high A1 k c1 rows W hlr (hR.rd.below hW) h
      have HR := Lib.hid hR
      have HRR := Lib.hid R0
      have hr0 := R0.lt
      have hp1 := P1.lt
      have HP1 := Lib.hid P1
      have HLR := Lib.hid hlr
      have HBZ := Lib.hid hBZ
      have d0 := P1.cellAt 0 (by simp)
      have d1 := P1.cellAt 1 (by simp)
      simp only [List.getElem_cons_zero, List.getElem_cons_succ] at d0 d1
      clear hR R0 hlr P1 hBZ hO hrw hcl hxl
      cases hok : yardOk high rows with
      | false =>
        have HX : Hid (rdYardS high s = (0, [], false)) := Lib.hid (by rw [HRS.out, if_neg (by simp [hok])])
        simp only [hok] at cV
        clear HRS hok cT
        go_wp2_with (go_at_call 20; refine (cV _ (Below.refl _ _)).mono ?_; rintro e w3 ⟨rfl, b3⟩; have Q0 := HRR.out.later b3; have f0 := Q0.frozen 0; have f1 := Q0.frozen 1; have q0 := Q0.cellAt 0 (by simp); have q1 := Q0.cellAt 1 (by simp); simp only [List.getElem_cons_zero, List.getElem_cons_succ] at q0 q1)
        have hR := (Q0.set_ 0 (.int .i64 0)).set_ 1 (.slice none 0 0)
        have z0 := hR.cellAt 0 (by simp)
        have z1 := hR.cellAt 1 (by simp)
        simp only [List.set_cons_zero, List.set_cons_succ, List.getElem_cons_zero, List.getElem_cons_succ] at z0 z1
        refine bodyPost_ret (v := .tuple #[.agg #[.int .i64 0, .slice none 0 0], .bool false]) (by simp [results, Tryd.results6, go_sem, z0, z1]) rfl ?_
        exact rds_ret HX.out rfl (below_trans HBZ.out b3) (Nat.le_refl _) trivial (Nat.le_refl _) (ownRR_none _ (w.heap.size + 1) _ _)
      | true =>
        have h5 := (yard_each hok).1
        rw [HLR.out] at h5
        simp only [hok] at cV
        have cT2 := fun W hW => cT W hW (by omega)
        by_cases he : yardT high rows = s
        · have HX : Hid (rdYardS high s = (high, rows, true)) := Lib.hid (by rw [HRS.out, if_pos ⟨hok, he⟩])
          have hq : (yardT high rows == s) = true := beq_iff_eq.2 he
          have hq2 : (yardT high rows != s) = false := by rw [bne, hq]; rfl
          clear HRS hok cT he
          generalize yardT high rows = t at *
          go_wp2_with (first | (go_at_call 20; refine (cV _ (Below.refl _ _)).mono ?_; rintro e w3 ⟨rfl, b3⟩; have P3 := HP1.out.later b3; have g0 := P3.cellAt 0 (by simp); have g1 := P3.cellAt 1 (by simp); simp only [List.getElem_cons_zero, List.getElem_cons_succ] at g0 g1) | (go_at_call 17; refine (cT2 _ b3).mono ?_; rintro e w4 ⟨rfl, b4⟩; have b34 := below_trans b3 b4; have Q0 := HRR.out.later b34; have f0 := Q0.frozen 0; have f1 := Q0.frozen 1; have q0 := Q0.cellAt 0 (by simp); have q1 := Q0.cellAt 1 (by simp); have P4 := HP1.out.later b34; have s0 := P4.cellAt 0 (by simp); have s1 := P4.cellAt 1 (by simp); simp only [List.getElem_cons_zero, List.getElem_cons_succ] at q0 q1 s0 s1))
          have hR := (Q0.set_ 0 (.int .i64 high)).set_ 1 (.slice A1 k c1)
          have z0 := hR.cellAt 0 (by simp)
          have z1 := hR.cellAt 1 (by simp)
          simp only [List.set_cons_zero, List.set_cons_succ, List.getElem_cons_zero, List.getElem_cons_succ] at z0 z1
          refine bodyPost_ret (v := .tuple #[.agg #[.int .i64 high, .slice A1 k c1], .bool true]) (by simp [results, Tryd.results6, go_sem, z0, z1]) rfl ?_
          exact rds_ret HX.out HLR.out (below_trans HBZ.out b34) (by omega) trivial b34.size (HR.out.later b34)
        · have HX : Hid (rdYardS high s = (0, [], false)) := Lib.hid (by rw [HRS.out, if_neg (fun h => he h.2)])
          have hq : (yardT high rows == s) = false := beq_eq_false_iff_ne.2 he
          have hq2 : (yardT high rows != s) = true := by rw [bne, hq]; rfl
          clear HRS hok cT he
          generalize yardT high rows = t at *
          go_wp2_with (first | (go_at_call 20; refine (cV _ (Below.refl _ _)).mono ?_; rintro e w3 ⟨rfl, b3⟩; have P3 := HP1.out.later b3; have g0 := P3.cellAt 0 (by simp); have g1 := P3.cellAt 1 (by simp); simp only [List.getElem_cons_zero, List.getElem_cons_succ] at g0 g1) | (go_at_call 17; refine (cT2 _ b3).mono ?_; rintro e w4 ⟨rfl, b4⟩; have b34 := below_trans b3 b4; have Q0 := HRR.out.later b34; have f0 := Q0.frozen 0; have f1 := Q0.frozen 1; have q0 := Q0.cellAt 0 (by simp); have q1 := Q0.cellAt 1 (by simp); simp only [List.getElem_cons_zero, List.getElem_cons_succ] at q0 q1))
          have hR := (Q0.set_ 0 (.int .i64 0)).set_ 1 (.slice none 0 0)
          have z0 := hR.cellAt 0 (by simp)
          have z1 := hR.cellAt 1 (by simp)
          simp only [List.set_cons_zero, List.set_cons_succ, List.getElem_cons_zero, List.getElem_cons_succ] at z0 z1
          refine bodyPost_ret (v := .tuple #[.agg #[.int .i64 0, .slice none 0 0], .bool false]) (by simp [results, Tryd.results6, go_sem, z0, z1]) rfl ?_
          exact rds_ret HX.out rfl (below_trans HBZ.out b34) (Nat.le_refl _) trivial (Nat.le_refl _) (ownRR_none _ (w.heap.size + 1) _ _)
end Go.Proofs.YtcdjgbechigepaaDoor
