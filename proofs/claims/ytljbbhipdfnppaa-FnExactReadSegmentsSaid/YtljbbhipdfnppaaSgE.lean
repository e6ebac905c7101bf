/- Rows of segments: compared, marked, the marks read. -/
import Derived.Test.YtljbbhipdfnppaaSgR
import Derived.Test.YtljbbhipdfnppaaSegX
namespace Go.Proofs.Ytljbbhipdfnppaa
open Go Go.ChangeShapes Go.WideShapes Go.ChangeAt Go.RowKit
set_option linter.unusedVariables false
theorem keep4 {w W : World} {b b' i j i' j' : Nat} {y0 y1 z0 z1 : Value} (hb : Below w.heap.size w W) (lb : b < w.heap.size) (lb' : b' < w.heap.size) (m0 : w.cell? ⟨b, i, none⟩ = some y0) (m1 : w.cell? ⟨b, j, none⟩ = some y1) (n0 : w.cell? ⟨b', i', none⟩ = some z0) (n1 : w.cell? ⟨b', j', none⟩ = some z1) :
    Below w.heap.size w W ∧ W.cell? ⟨b, i, none⟩ = some y0 ∧ W.cell? ⟨b, j, none⟩ = some y1 ∧ W.cell? ⟨b', i', none⟩ = some z0 ∧ W.cell? ⟨b', j', none⟩ = some z1 :=
  ⟨hb, (hb.cell (p := ⟨b, i, none⟩) lb).trans m0, (hb.cell (p := ⟨b, j, none⟩) lb).trans m1, (hb.cell (p := ⟨b', i', none⟩) lb').trans n0, (hb.cell (p := ⟨b', j', none⟩) lb').trans n1⟩
set_option maxHeartbeats 1000000 in
theorem eqSegmentS_any (A B : Option Addr) (L : List SegV) (n c d : Nat) (hln : L.length = n) (w : World) (ha : RdSegs w A L) (hb : RdSegs w B L) (hn : n ≤ 1099511627776) (hin : ∀ s ∈ L, s.ess.length ≤ 1099511627776 ∧ ∀ zs ∈ s.ess, zs.length ≤ 1099511627776) :
    Calls Try.prog 24 #[.slice A n c, .slice B n d] w fun e w' => e = .returned (.bool true) ∧ Below w.heap.size w w' := by
  have HZ := Lib.hid hln
  have HI := Lib.hid hin
  clear hln hin
  have hne : ((n : Int) != (n : Int)) = false := by simp
  go_enter Try.func24, Try.ntmps24
  go_wp2_with fail
  go_loopw [5] (fun i wr => ∃ k : Nat, k ≤ n ∧ i = .int .i64 k ∧ Below w.heap.size w wr) (fun i _ => n - (intOf i).toNat)
  case atStart => exact ⟨0, Nat.zero_le _, rfl, Below.refl _ _⟩
  case round =>
    obtain ⟨k, hk, rfl, hbl⟩ := hrel
    by_cases hlt : k < n
    · have hkz : k < L.length := by rw [HZ.out]; exact hlt
      obtain ⟨b1, o1, B1, c1, rfl, hl1, h10, h11, hr1⟩ := (ha.below hbl).at hkz
      obtain ⟨b2, o2, B2, c2, rfl, hl2, h20, h21, hr2⟩ := (hb.below hbl).at hkz
      obtain ⟨hml, hmi⟩ := HI.out L[k] (List.getElem_mem hkz)
      generalize L[k] = s at *
      obtain ⟨tg, ess⟩ := s
      dsimp only at h10 h11 h20 h21 hr1 hr2 hml hmi
      generalize hm : ess.length = m at *
      have HM := Lib.hid hm
      have HMI := Lib.hid hmi
      have hki : (k : Int) < (n : Int) := by omega
      have e1 : IntKind.i64.wrap ((k : Int) + 1) = (k : Int) + 1 := IntWalk.i64_in _ (by omega)
      have HR1 := Lib.hid hr1
      have HR2 := Lib.hid hr2
      have HBL := Lib.hid hbl
      clear hm hr1 hr2 hbl hmi
      go_wp2_with fail
      go_region_held3 (fun W => Below wr.heap.size wr W ∧ W.cell? ⟨b1, o1 + k * 2, none⟩ = some (.string tg) ∧ W.cell? ⟨b1, o1 + k * 2 + 1, none⟩ = some (.slice B1 m c1) ∧ W.cell? ⟨b2, o2 + k * 2, none⟩ = some (.string tg) ∧ W.cell? ⟨b2, o2 + k * 2 + 1, none⟩ = some (.slice B2 m c2))
        (first | exact keep4 (Below.refl _ _) hl1 hl2 h10 h11 h20 h21 | exact keep4 (Below.drew (Below.refl _ _)) hl1 hl2 h10 h11 h20 h21 | assumption)
        (first | (go_at_call 19; (with_reducible refine (eqSegment_any tg B1 B2 m c1 c2 ess _ HM.out (HR1.out.below (Below.drew (Below.refl _ _))) (HR2.out.below (Below.drew (Below.refl _ _))) (by omega) HMI.out).mono ?_); rintro e w6 ⟨rfl, b6⟩; have kx := keep4 (below_trans (Below.drew (Below.refl _ _)) b6) hl1 hl2 h10 h11 h20 h21))
      have HB6 := Lib.hid (below_trans HBL.out kx.1)
      clear kx b6
      go_wp2_with fail
      go_roundw
      case rel => exact ⟨k + 1, by omega, by go_num, HB6.out⟩
      case measure => simp [intOf]; omega
    · go_wp2_with fail
      go_ret
      exact ⟨rfl, hbl⟩
/-- how many marks -/
def totS (ps : List SegQ) : Nat := (ps.map fun p => 1 + totR p.ess).sum
theorem totS_cons (p : SegQ) (ps : List SegQ) : totS (p :: ps) = 1 + totR p.ess + totS ps := by simp [totS]
theorem totS_snoc (ps : List SegQ) (p : SegQ) : totS (ps ++ [p]) = totS ps + (1 + totR p.ess) := by simp [totS]
theorem totS_take (ps : List SegQ) (j : Nat) : totS (ps.take j) ≤ totS ps := by
  induction ps generalizing j with
  | nil => simp
  | cons a l ih =>
    cases j with
    | zero => simp [totS]
    | succ j =>
      simp only [List.take_succ_cons, totS_cons]
      have := ih j
      omega
def mkSegs : Nat → List SegQ → List SegQ
  | _, [] => []
  | k, p :: ps => { p with tag := txt (mtxt k), ess := mkRows (k + 1) p.ess } :: mkSegs (k + (1 + totR p.ess)) ps
theorem mkSegs_len (k : Nat) (ps : List SegQ) : (mkSegs k ps).length = ps.length := by
  induction ps generalizing k with
  | nil => rfl
  | cons p ps ih => simp [mkSegs, ih]
theorem mkSegs_snoc (k : Nat) (ps : List SegQ) (p : SegQ) : mkSegs k (ps ++ [p]) = mkSegs k ps ++ [{ p with tag := txt (mtxt (k + totS ps)), ess := mkRows (k + totS ps + 1) p.ess }] := by
  induction ps generalizing k with
  | nil => simp [mkSegs, totS]
  | cons a l ih =>
    simp only [List.cons_append, mkSegs, ih, totS_cons]
    rw [Nat.add_assoc k]
theorem mkSegs_at (k : Nat) (ps : List SegQ) (j : Nat) (h : j < (mkSegs k ps).length) (h' : j < ps.length) : (mkSegs k ps)[j] = { ps[j] with tag := txt (mtxt (k + totS (ps.take j))), ess := mkRows (k + totS (ps.take j) + 1) ps[j].ess } := by
  induction ps generalizing k j with
  | nil => simp at h'
  | cons a l ih =>
    cases j with
    | zero => simp [mkSegs, totS]
    | succ j =>
      simp only [mkSegs, List.getElem_cons_succ, List.take_succ_cons, totS_cons]
      rw [ih (k + (1 + totR a.ess)) j (by simpa [mkSegs] using h) (by simpa using h')]
      rw [Nat.add_assoc k]
set_option maxRecDepth 100000 in
set_option maxHeartbeats 4000000 in
theorem markSegmentS_any (A : Option Addr) (n c lo k : Nat) (ps : List SegQ) (w : World) (hn : ps.length = n) (h : SegsOwn w lo (.slice A n c) ps) (h0 : 1 ≤ k) (hk : k + totS ps ≤ 100000000000) (hn1 : n ≤ 1099511627776) (hin : ∀ p ∈ ps, p.ess.length ≤ 1099511627776) :
    Calls Try.prog 25 #[.slice A n c, .int .i64 k] w fun e w' => e = .returned (.int .i64 ((k : Int) + (totS ps : Int))) ∧ SegsOwn w' lo (.slice A n c) (mkSegs k ps) ∧ Out lo w.heap.size w w' := by
  have HN := Lib.hid hn
  have HIN := Lib.hid hin
  have hlo0 : lo ≤ w.heap.size ∨ n = 0 := by
    rcases own_form h.1 with ⟨_, h0, _⟩ | ⟨g, _, _, hg1, hg2, _⟩
    · exact .inr (by omega)
    · exact .inl (by omega)
  have HHI : Hid (∀ p ∈ ps, p.hi ≤ w.heap.size) := Lib.hid (fun p hp => (h.2.1 p hp).2.1)
  have HG : Hid (∀ g, A = some ⟨g, 0, none⟩ → g < w.heap.size) := Lib.hid (fun g e => (h.1.lt g (by rw [e]; rfl)).2)
  clear hn hin
  go_enter Try.func25, Try.ntmps25
  go_wp2_with fail
  go_loopw [1, 5] (fun kk i wr => ∃ j : Nat, j ≤ n ∧ i = .int .i64 j ∧ kk = .int .i64 ((k : Int) + (totS (ps.take j) : Int)) ∧ SegsOwn wr lo (.slice A n c) (mkSegs k (ps.take j) ++ ps.drop j) ∧ Out lo w.heap.size w wr) (fun _ i _ => n - (intOf i).toNat)
  case atStart => exact ⟨0, Nat.zero_le _, rfl, by simp [totS], by simpa [mkSegs] using h, Out.refl _ _ _⟩
  case round =>
    obtain ⟨j, hj, rfl, rfl, hO, hOut⟩ := hrel
    clear h
    have htk := totS_take ps j
    by_cases hlt : j < n
    · have hje : j < ps.length := by rw [HN.out]; exact hlt
      have hrl : (mkSegs k (ps.take j)).length = j := by rw [mkSegs_len, List.length_take]; omega
      have hde : ps.drop j = ps[j] :: ps.drop (j + 1) := List.drop_eq_getElem_cons hje
      have hts : totS (ps.take (j + 1)) = totS (ps.take j) + (1 + totR ps[j].ess) := by rw [List.take_succ_eq_append_getElem hje, totS_snoc]
      have hms : mkSegs k (ps.take (j + 1)) = mkSegs k (ps.take j) ++ [{ ps[j] with tag := txt (mtxt (k + totS (ps.take j))), ess := mkRows (k + totS (ps.take j) + 1) ps[j].ess }] := by rw [List.take_succ_eq_append_getElem hje, mkSegs_snoc]
      have htk2 := totS_take ps (j + 1)
      have hph := HHI.out ps[j] (List.getElem_mem hje)
      have hml := HIN.out ps[j] (List.getElem_mem hje)
      rw [hde] at hO
      rw [hts] at htk2
      have HTS := Lib.hid hts
      have HMS := Lib.hid hms
      clear hts hms hde
      generalize ps[j] = r at *
      generalize totS (ps.take j) = tj at *
      generalize mkSegs k (ps.take j) = M at *
      generalize hR : ps.drop (j + 1) = R at *
      have HR := Lib.hid hR
      clear hR
      have hjl : j < (M ++ r :: R).length := by rw [List.length_append, List.length_cons]; omega
      have hat : (M ++ r :: R)[j] = r := by
        rw [List.getElem_append_right (by omega)]
        simp [hrl]
      have hset : ∀ r', (M ++ r :: R).set j r' = M ++ r' :: R := fun r' => by
        rw [List.set_append_right _ _ (by omega), hrl, Nat.sub_self]
        rfl
      obtain ⟨g, rfl, -, hg1, hg2, hc0, hc1, hfz⟩ := hO.at hjl
      rw [hat] at hc0 hc1
      obtain ⟨hlr, _, hrr, hgd⟩ := hO.2.1 r (by simp)
      have hgd' := hgd g rfl
      have hgw : g < w.heap.size := HG.out g rfl
      have hmt := fun w => markText_any (k + tj) w (by omega) (by omega)
      simp only [Int.natCast_add] at hmt
      have hki : (j : Int) < (n : Int) := by omega
      have e1 : IntKind.i64.wrap ((j : Int) + 1) = (j : Int) + 1 := IntWalk.i64_in _ (by omega)
      have e2 : IntKind.i64.wrap ((k : Int) + (tj : Int) + 1) = (k : Int) + (tj : Int) + 1 := IntWalk.i64_in _ (by omega)
      have HO := Lib.hid hO
      have HOUT := Lib.hid hOut
      have HSET := Lib.hid hset
      have HAT := Lib.hid hat
      clear hO hOut hrr hset hat hgd
      go_wp2_with fail
      refine (hmt _).mono ?_
      rintro e w1 ⟨rfl, hb1⟩
      have c0 : w1.cell? ⟨g, j * 2, none⟩ = some (.string r.tag) := (hb1.cell (p := ⟨g, j * 2, none⟩) hg2).trans hc0
      have f0 : w1.frozen? ⟨g, j * 2, none⟩ = false := (hb1.frozen (p := ⟨g, j * 2, none⟩) hg2).trans (hfz _)
      have hO1 := (HO.out.later hb1).setTag hjl (txt (mtxt (k + tj)))
      rw [HSET.out, HAT.out] at hO1
      have hjl1 : j < (M ++ { r with tag := txt (mtxt (k + tj)) } :: R).length := by rw [List.length_append, List.length_cons]; omega
      have hat1 : (M ++ { r with tag := txt (mtxt (k + tj)) } :: R)[j] = { r with tag := txt (mtxt (k + tj)) } := by
        rw [List.getElem_append_right (by omega)]
        simp [hrl]
      have hset1 : ∀ r', (M ++ { r with tag := txt (mtxt (k + tj)) } :: R).set j r' = M ++ r' :: R := fun r' => by
        rw [List.set_append_right _ _ (by omega), hrl, Nat.sub_self]
        rfl
      obtain ⟨g', eg, -, -, -, -, c1, -⟩ := hO1.at hjl1
      injection eg with eg
      injection eg with eg
      subst eg
      rw [hat1] at c1
      dsimp only at c1
      obtain ⟨-, -, hrr1, -⟩ := hO1.2.1 { r with tag := txt (mtxt (k + tj)) } (by simp)
      dsimp only at hrr1
      have hmk := markStringSS_any r.A r.ess.length r.c r.lo r.hi (k + tj + 1) r.ess _ rfl hrr1 (by omega) (by omega) (by omega)
      rw [show ((k + tj + 1 : Nat) : Int) = (k : Int) + (tj : Int) + 1 from by omega] at hmk
      have HMK := Lib.hid hmk
      have HO1 := Lib.hid hO1
      have HAT1 := Lib.hid hat1
      have HSET1 := Lib.hid hset1
      have hout1 : Out lo w.heap.size w (w1.setCell ⟨g, j * 2, none⟩ (.string (txt (mtxt (k + tj))))) := out_set (HOUT.out.trans (Below.out hb1 _ _)) _ _ _ hg1 hgw
      have HOUT1 := Lib.hid hout1
      clear hmk hrr1 hO1 hout1 hb1 hc0 hc1 hmt hset1 hat1
      go_wp2_with fail
      refine HMK.out.mono ?_
      rintro e w3 ⟨rfl, hr3, ho3⟩
      have hO3 := HO1.out.setEss hjl1 (mkRows (k + tj + 1) r.ess) (by rw [HAT1.out, mkRows_len]) (by rw [HAT1.out]; exact ho3) (by rw [HAT1.out]; exact hr3)
      rw [HSET1.out, HAT1.out] at hO3
      have HO3 := Lib.hid hO3
      have HOUT3 := Lib.hid (HOUT1.out.trans (ho3.mono hlr hph))
      clear hO3 hr3 ho3
      go_wp2_with fail
      go_roundw
      case rel =>
        refine ⟨j + 1, by omega, by go_num, by rw [HTS.out]; go_num, ?_, HOUT3.out⟩
        rw [HMS.out, List.append_assoc, HR.out]
        exact HO3.out
      case measure => simp [intOf]; omega
    · obtain rfl : j = n := by omega
      have htl : ps.take j = ps := List.take_of_length_le (by rw [HN.out]; exact Nat.le_refl _)
      have hdl : ps.drop j = [] := List.drop_of_length_le (by rw [HN.out]; exact Nat.le_refl _)
      rw [htl, hdl, List.append_nil] at hO
      rw [htl]
      clear htl hdl
      have HO := Lib.hid hO
      clear hO
      go_wp2_with fail
      go_ret
      exact ⟨rfl, HO.out, hOut⟩
set_option maxHeartbeats 4000000 in
theorem heldSegmentS_any (A : Option Addr) (n c k : Nat) (ps : List SegQ) (w : World) (hn : ps.length = n) (h : RdSegs w A ((mkSegs k ps).map SegQ.v)) (h0 : 1 ≤ k) (hk : k + totS ps ≤ 100000000000) (hn1 : n ≤ 1099511627776) (hin : ∀ p ∈ ps, p.ess.length ≤ 1099511627776) :
    Calls Try.prog 26 #[.slice A n c, .int .i64 k] w fun e w' => e = .returned (.int .i64 ((k : Int) + (totS ps : Int))) ∧ Below w.heap.size w w' := by
  have HN := Lib.hid hn
  have HIN := Lib.hid hin
  clear hn hin
  go_enter Try.func26, Try.ntmps26
  go_wp2_with fail
  go_loopw [1, 5] (fun kk i wr => ∃ j : Nat, j ≤ n ∧ i = .int .i64 j ∧ kk = .int .i64 ((k : Int) + (totS (ps.take j) : Int)) ∧ Below w.heap.size w wr) (fun _ i _ => n - (intOf i).toNat)
  case atStart => exact ⟨0, Nat.zero_le _, rfl, by simp [totS], Below.refl _ _⟩
  case round =>
    obtain ⟨j, hj, rfl, rfl, hb⟩ := hrel
    have htk := totS_take ps j
    by_cases hlt : j < n
    · have hje : j < ps.length := by rw [HN.out]; exact hlt
      have hjm : j < (mkSegs k ps).length := by rw [mkSegs_len]; exact hje
      have hjv : j < ((mkSegs k ps).map SegQ.v).length := by rw [List.length_map]; exact hjm
      obtain ⟨b, o, B, c', rfl, hl, d0, d1, hr⟩ := (h.below hb).at hjv
      have hat := mkSegs_at k ps j hjm hje
      have hts : totS (ps.take (j + 1)) = totS (ps.take j) + (1 + totR ps[j].ess) := by rw [List.take_succ_eq_append_getElem hje, totS_snoc]
      have htk2 := totS_take ps (j + 1)
      have hml := HIN.out ps[j] (List.getElem_mem hje)
      rw [hts] at htk2
      rw [List.getElem_map, hat] at d0 d1 hr
      simp only [SegQ.v, mkRows_len] at d0 d1 hr
      have HTS := Lib.hid hts
      clear hts hat
      generalize ps[j] = r at *
      generalize totS (ps.take j) = tj at *
      have hmt := fun w => markText_any (k + tj) w (by omega) (by omega)
      simp only [Int.natCast_add] at hmt
      have hmk := fun w (hr : RdRR w B (strss (mkRows (k + tj + 1) r.ess))) => heldStringSS_any B r.ess.length c' (k + tj + 1) r.ess w rfl hr (by omega) (by omega) (by omega)
      simp only [show ((k + tj + 1 : Nat) : Int) = (k : Int) + (tj : Int) + 1 from by omega] at hmk
      have HMK := Lib.hid hmk
      have hki : (j : Int) < (n : Int) := by omega
      have e1 : IntKind.i64.wrap ((j : Int) + 1) = (j : Int) + 1 := IntWalk.i64_in _ (by omega)
      have e2 : IntKind.i64.wrap ((k : Int) + (tj : Int) + 1) = (k : Int) + (tj : Int) + 1 := IntWalk.i64_in _ (by omega)
      have hnn : 0 ≤ (k : Int) + (tj : Int) + 1 + (totR r.ess : Int) := by omega
      have hqq : (mtxt (k + tj) == mtxt (k + tj)) = true := by simp
      have HB := Lib.hid hb
      have HR := Lib.hid hr
      clear hb hr hmk
      generalize mtxt (k + tj) = mk at *
      go_wp2_with fail
      go_region_held3 (fun W => Below wr.heap.size wr W ∧ W.cell? ⟨b, o + j * 2, none⟩ = some (.string (txt mk)))
        (first | exact keepC (Below.refl _ _) hl d0 | exact keepC (Below.drew (Below.refl _ _)) hl d0 | assumption)
        (first
          | (go_at_call 48; (with_reducible refine (hmt _).mono ?_); rintro e w6 ⟨rfl, hb6⟩; have kx := keepC (below_trans (Below.drew (Below.refl _ _)) hb6) hl d0))
      have d1' := (kx.1.cell (p := ⟨b, o + j * 2 + 1, none⟩) hl).trans d1
      have HB6 := Lib.hid (below_trans HB.out kx.1)
      have HR6 := Lib.hid (HR.out.below kx.1)
      clear kx hb6 hmt d0 d1
      go_wp2_with fail
      refine (HMK.out _ HR6.out).mono ?_
      rintro e w7 ⟨rfl, hb7⟩
      have HB7 := Lib.hid (below_trans HB6.out hb7)
      clear hb7 d1'
      go_wp2_with fail
      go_roundw
      case rel => exact ⟨j + 1, by omega, by go_num, by rw [HTS.out]; go_num, HB7.out⟩
      case measure => simp [intOf]; omega
    · obtain rfl : j = n := by omega
      have htl : ps.take j = ps := List.take_of_length_le (by rw [HN.out]; exact Nat.le_refl _)
      rw [htl]
      clear htl
      go_wp2_with fail
      go_ret
      exact ⟨rfl, hb⟩
end Go.Proofs.Ytljbbhipdfnppaa
