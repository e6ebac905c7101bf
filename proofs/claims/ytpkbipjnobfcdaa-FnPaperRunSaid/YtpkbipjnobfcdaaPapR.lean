/- Deeds, one after the other: PaperRun of the program and of the reference. -/
import Derived.Test.YtpkbipjnobfcdaaPapL
import Derived.Test.YtpkbipjnobfcdaaDedS
import Derived.Deep.CutRange
namespace Go.Proofs.Ytpkbipjnobfcdaa
open Go Go.ChangeShapes Go.WideShapes Go.ChangeAt Go.RowKit
set_option linter.unusedVariables false
set_option linter.unusedSimpArgs false
theorem bool_infoD : Info Try.prog 4 (.bool false) 1 1 := Info.mk' (by kernel_rfl) rfl (by decide) (by decide)
def deedV (d : PaperDeedV) : DeedV := ⟨d.f0, d.f1, d.f2⟩
/-- PaperRun -/
def paperRun (p : PapV) (ds : List DeedV) : PapV × List Bool := if papOkV p then prun p ds else (⟨[], []⟩, [])
/-- papers and what was done, in memory of the call's own -/
def RunOut (w : World) (r : PapV × List Bool) : Ending → World → Prop :=
  RVal fun u w' => ∃ HA hc LA lc DA dc, u = .tuple #[.agg #[.slice HA r.1.hs.length hc, .slice LA r.1.ls.length lc], .slice DA r.2.length dc] ∧ w'.ownsRow w.heap.size 38 2 (.slice HA r.1.hs.length hc) r.1.hs.length (holds r.1.hs) ∧ w'.ownsRow w.heap.size 3 1 (.slice LA r.1.ls.length lc) r.1.ls.length (ints r.1.ls) ∧
    w'.ownsRow w.heap.size 4 1 (.slice DA r.2.length dc) r.2.length (bools r.2) ∧ Below w.heap.size w w'
theorem runOut_mk {w w' : World} {hs : List HoldV} {ls : List Int} {bs : List Bool} {r : PapV × List Bool} {n m d hc lc dc : Nat} {HA LA DA : Option Addr} (hr : r = (⟨hs, ls⟩, bs)) (hn : hs.length = n) (hm : ls.length = m) (hd : bs.length = d)
    (h1 : w'.ownsRow w.heap.size 38 2 (.slice HA n hc) n (holds hs)) (h2 : w'.ownsRow w.heap.size 3 1 (.slice LA m lc) m (ints ls)) (h3 : w'.ownsRow w.heap.size 4 1 (.slice DA d dc) d (bools bs)) (hb : Below w.heap.size w w') :
    RunOut w r (.returned (.tuple #[.agg #[.slice HA n hc, .slice LA m lc], .slice DA d dc])) w' := by
  subst hr hn hm hd
  exact RVal.mk ⟨_, _, _, _, _, _, rfl, h1, h2, h3, hb⟩
theorem FrP.own {w w' : World} {q base b k n : Nat} {t : TypeId} {v : Value} {xs : List Value} (h : FrP w w' q base) (ho : w.ownsRow b t k v n xs) (hq : ∀ g, v.ownBlock = some g → g ≠ q) (h1 : t ≠ 38) (h2 : t ≠ 3) : w'.ownsRow b t k v n xs := by
  refine ⟨ho.1, ?_⟩
  rcases ho.2 with hn | ⟨g, cap, cur, rfl, hb, hg, rest⟩
  · exact .inl hn
  · refine .inr ⟨g, cap, cur, rfl, hb, (h.block g (Array.getElem?_eq_some_iff.1 hg).1 (hq g rfl) (.inr fun cs t' f hc => ?_)).trans hg, rest⟩
    rw [hg] at hc
    injection hc with hc
    injection hc with _ e
    subst e
    exact ⟨h1, h2⟩
theorem own_blk_ne {w : World} {b k n q : Nat} {e t : TypeId} {v : Value} {xs cs : List Value} (h : w.ownsRow b e k v n xs) (hq : Blk w q t cs) (hne : e ≠ t) : ∀ g, v.ownBlock = some g → g ≠ q := by
  intro g hv e1
  subst e1
  rcases h.2 with ⟨rfl, _⟩ | ⟨g', cap, cur, rfl, _, hg, _⟩
  · cases hv
  · obtain rfl : g = g' := by simpa [Value.ownBlock] using hv.symm
    unfold Blk at hq
    rw [hg] at hq
    injection hq with hq
    injection hq with _ e
    exact hne e
theorem bools_snoc (a : List Bool) (b : Bool) : bools (a ++ [b]) = bools a ++ [.bool b] := by simp [bools]
/-- the frame of PaperRun -/
structure RunAt (w0 W : World) (n c m lc : Nat) (HA LA : Option Addr) : Prop where
  box : Blk W w0.heap.size 26 [.slice HA n c, .slice LA m lc]
  res : Blk W (w0.heap.size + 1) 26 [.slice none 0 0, .slice none 0 0]
  bel : Below w0.heap.size w0 W
theorem RunAt.later {w0 W W' : World} {n c m lc : Nat} {HA LA : Option Addr} (h : RunAt w0 W n c m lc HA LA) (hb : Below W.heap.size W W') : RunAt w0 W' n c m lc HA LA := ⟨h.box.later hb, h.res.later hb, below_trans h.bel hb⟩
theorem RunAt.below {w0 W W' : World} {n c m lc B : Nat} {HA LA : Option Addr} (h : RunAt w0 W n c m lc HA LA) (hb : Below B W W') (hB : w0.heap.size + 2 ≤ B) : RunAt w0 W' n c m lc HA LA :=
  ⟨h.box.below hb (by omega), h.res.below hb (by omega), h.bel.trans (hb.mono (by omega))⟩
theorem runAt_start (w : World) (n c m lc : Nat) (HA LA : Option Addr) : RunAt w ((w.alloc (.cells #[.slice HA n c, .slice LA m lc] 26)).alloc (.cells #[.slice none 0 0, .slice none 0 0] 26)) n c m lc HA LA := by
  have h1 := Blk.new (w.alloc (.cells #[.slice HA n c, .slice LA m lc] 26)) 26 [.slice none 0 0, .slice none 0 0]
  simp only [World.size_alloc] at h1
  exact ⟨(Blk.new w 26 [.slice HA n c, .slice LA m lc]).alloc _, h1, ((Below.refl _ _).alloc (Nat.le_refl _) _).alloc (by simp) _⟩
set_option maxRecDepth 100000 in
set_option maxHeartbeats 4000000 in
theorem implPaperRun (HA LA DA : Option Addr) (n c m lc d dc : Nat) (hs : List HoldV) (ls : List Int) (ds : List PaperDeedV) (w : World) (hn : hs.length = n) (hln : ls.length = m) (hdn : ds.length = d) (hr : RdV w HA (holds hs)) (hrl : RdV w LA (ints ls)) (hrd : RdV w DA (paperdeeds ds)) (hm : n ≤ 1048576) (hm2 : m ≤ 1048576) (hm3 : d ≤ 1048576) :
    Calls Try.prog 14 #[.agg #[.slice HA n c, .slice LA m lc], .slice DA d dc] w (RunOut w (paperRun ⟨hs, ls⟩ (ds.map deedV))) := by
  have HN := Lib.hid hn
  have HLN := Lib.hid hln
  have HDN := Lib.hid hdn
  clear hn hln hdn
  go_enter Try.func14, Try.ntmps14
  go_wp2_with fail
  have S0 := runAt_start w n c m lc HA LA
  generalize (w.alloc (.cells #[.slice HA n c, .slice LA m lc] 26)).alloc (.cells #[.slice none 0 0, .slice none 0 0] 26) = w1 at *
  have x0 := (S0.box).cellAt 0 (by simp)
  have x1 := (S0.box).cellAt 1 (by simp)
  have r0 := (S0.res).cellAt 0 (by simp)
  have r1 := (S0.res).cellAt 1 (by simp)
  have rf0 := (S0.res).frozen 0
  have rf1 := (S0.res).frozen 1
  simp only [List.getElem_cons_zero, List.getElem_cons_succ] at x0 x1 r0 r1
  go_wp2_with fail
  refine (implPapersValid HA LA n c m lc hs ls w1 HN.out HLN.out (hr.below S0.bel) (hrl.below S0.bel) hm hm2).mono ?_
  rintro e w2 ⟨rfl, b2⟩
  have S2 := S0.later b2
  have S2h := Lib.hid S2
  clear x0 x1 r0 r1 rf0 rf1
  clear b2 S0
  have x0 := (S2.box).cellAt 0 (by simp)
  have x1 := (S2.box).cellAt 1 (by simp)
  have r0 := (S2.res).cellAt 0 (by simp)
  have r1 := (S2.res).cellAt 1 (by simp)
  have rf0 := (S2.res).frozen 0
  have rf1 := (S2.res).frozen 1
  simp only [List.getElem_cons_zero, List.getElem_cons_succ] at x0 x1 r0 r1
  cases hok : papOk hs ls with
  | false =>
    have HZ1 : Hid (w2.ownsRow (w.heap.size + 2) 38 2 (.slice none 0 0) 0 (holds [])) := Lib.hid (World.ownsRow_nil _ _ _ _)
    have HZ2 : Hid (w2.ownsRow (w.heap.size + 2) 3 1 (.slice none 0 0) 0 (ints [])) := Lib.hid (World.ownsRow_nil _ _ _ _)
    have HZ3 : Hid (w2.ownsRow (w.heap.size + 2) 4 1 (.slice none 0 0) 0 (bools [])) := Lib.hid (World.ownsRow_nil _ _ _ _)
    have HE : Hid (paperRun ⟨hs, ls⟩ (ds.map deedV) = (⟨[], []⟩, [])) := Lib.hid (by simp [paperRun, papOkV, hok])
    clear hok
    go_wp2_with fail
    have hR := ((S2h.out.res).set_ 0 (.slice none (0) 0)).set_ 1 (.slice none (0) 0)
    have hR1 := (S2h.out.res).set_ 0 (.slice none (0) 0)
    have u0 := hR1.cellAt 1 (by simp)
    have u1 := hR.cellAt 0 (by simp)
    have u2 := hR.cellAt 1 (by simp)
    simp only [List.set_cons_zero, List.set_cons_succ, List.getElem_cons_zero, List.getElem_cons_succ] at u0 u1 u2
    refine bodyPost_ret (v := .tuple #[.agg #[.slice none (0) 0, .slice none (0) 0], .slice none (0) 0]) (by simp [results, Try.results14, go_sem, *]) rfl ?_
    have h6 : Out (w.heap.size + 1) (w.heap.size + 2) w2 ((w2.setCell ⟨w.heap.size + 1, 0, none⟩ (.slice none (0) 0)).setCell ⟨w.heap.size + 1, 1, none⟩ (.slice none (0) 0)) := out_set (out_set (Out.refl _ _ _) _ _ _ (by omega) (by omega)) _ _ _ (by omega) (by omega)
    refine runOut_mk HE.out rfl rfl rfl (own_base (own_out (HZ1.out) h6 ?_) (Nat.le_add_right _ 2)) (own_base (own_out (HZ2.out) h6 ?_) (Nat.le_add_right _ 2)) (own_base (own_out (HZ3.out) h6 ?_) (Nat.le_add_right _ 2)) (below_out (S2h.out.bel) h6 (by omega))
    · intro g e
      have := ((HZ1.out).lt g e).1
      omega
    · intro g e
      have := ((HZ2.out).lt g e).1
      omega
    · intro g e
      have := ((HZ3.out).lt g e).1
      omega
  | true =>
    have HOK : Hid (papOkV ⟨hs, ls⟩ = true) := Lib.hid hok
    have HE : Hid (paperRun ⟨hs, ls⟩ (ds.map deedV) = prun ⟨hs, ls⟩ (ds.map deedV)) := Lib.hid (by unfold paperRun; rw [if_pos (show papOkV ⟨hs, ls⟩ = true from hok)])
    clear hok
    go_wp2_with fail
    refine (implClone HA LA n c m lc hs ls w2 HN.out HLN.out (hr.below S2h.out.bel) (hrl.below S2h.out.bel) hm hm2).mono ?_
    rintro e w3 ⟨_, rfl, CA, cc, CL, clc, rfl, oh3, ol3, b3⟩
    dsimp only at oh3 ol3
    rw [HN.out] at oh3
    rw [HLN.out] at ol3
    dsimp only
    rw [HN.out, HLN.out]
    have hal : Below w3.heap.size w3 (w3.alloc (.cells #[.slice CA n cc, .slice CL m clc] 26)) := (Below.refl _ _).alloc (Nat.le_refl _) _
    have Q4 : PapAt (w3.alloc (.cells #[.slice CA n cc, .slice CL m clc] 26)) w3.heap.size w2.heap.size n cc m clc CA CL hs ls := ⟨HN.out, HLN.out, Blk.new _ _ _, own_later oh3 hal, own_later ol3 hal⟩
    have hsz : w.heap.size + 2 ≤ w2.heap.size := S2h.out.res.lt
    have hb23 := b3.size
    have S4 := Lib.hid ((S2h.out.later b3).later hal)
    have hb4 : w2.heap.size ≤ (w3.alloc (.cells #[.slice CA n cc, .slice CL m clc] 26)).heap.size := by simp; omega
    have HQ4 := Lib.hid Q4
    clear x0 x1 r0 r1 rf0 rf1
    clear b3 oh3 ol3 hal S2 Q4
    go_wp2_with fail
    generalize w3.alloc (.cells #[.slice CA n cc, .slice CL m clc] 26) = w4 at *
    generalize w3.heap.size = q at *
    go_loopw [7, 18] (fun v i wr => ∃ (k : Nat) (bs : List Bool) (p : PapV) (A2 : Option Addr) (c2 : Nat), k ≤ d ∧ i = .int .i64 k ∧ Hid (prun ⟨hs, ls⟩ ((ds.take k).map deedV) = (p, bs)) ∧ Hid (bs.length = k) ∧ v = .slice A2 k c2 ∧ wr.ownsRow w2.heap.size 4 1 (.slice A2 k c2) k (bools bs) ∧ Hid (∃ n5 c5 m5 lc5 A5 L5, PapAt wr q w2.heap.size n5 c5 m5 lc5 A5 L5 p.hs p.ls) ∧ RunAt w wr n c m lc HA LA ∧ w2.heap.size ≤ wr.heap.size) (fun _ i _ => d - (intOf i).toNat)
    case atStart => exact ⟨0, [], ⟨hs, ls⟩, none, 0, Nat.zero_le _, rfl, Lib.hid rfl, Lib.hid rfl, rfl, World.ownsRow_nil _ _ _ _, Lib.hid ⟨_, _, _, _, _, _, HQ4.out⟩, S4.out, hb4⟩
    case round =>
      obtain ⟨k, bs, p, A2, c2, hk, rfl, HP, hbl, rfl, hown, HPA, hS, hbw⟩ := hrel
      clear HQ4 S4 hb4
      by_cases hlt : k < d
      · have hke : k < ds.length := by rw [HDN.out]; exact hlt
        obtain ⟨b, o, rfl, hl, hc0, hc1, hc2⟩ := hrd.paperdeedAt hke
        have h0 : wr.cell? ⟨b, o + k * 3, none⟩ = some (.int .i64 (ds[k]).f0) := (hS.bel.cell (p := ⟨b, o + k * 3, none⟩) hl).trans hc0
        have h1 : wr.cell? ⟨b, o + k * 3 + 1, none⟩ = some (.int .i64 (ds[k]).f1) := (hS.bel.cell (p := ⟨b, o + k * 3 + 1, none⟩) hl).trans hc1
        have h2 : wr.cell? ⟨b, o + k * 3 + 2, none⟩ = some (.int .i64 (ds[k]).f2) := (hS.bel.cell (p := ⟨b, o + k * 3 + 2, none⟩) hl).trans hc2
        have HST : Hid (prun ⟨hs, ls⟩ ((ds.take (k + 1)).map deedV) = ((pdo p (ds[k]).f0 (ds[k]).f1 (ds[k]).f2).1, bs ++ [(pdo p (ds[k]).f0 (ds[k]).f1 (ds[k]).f2).2])) := Lib.hid (by
          rw [List.take_succ_eq_append_getElem hke, List.map_append, List.map_cons, List.map_nil, prun_snoc, HP.out]; rfl)
        have HPO : Hid (papOk p.hs p.ls = true) := Lib.hid (by
          have := prun_ok HOK.out ((ds.take k).map deedV)
          rw [HP.out] at this
          exact this)
        generalize ds[k] = y at *
        obtain ⟨y0, y1, y2⟩ := y
        dsimp only at h0 h1 h2 HST
        have hal : Below wr.heap.size wr (wr.alloc (.cells #[.int .i64 y0, .int .i64 y1, .int .i64 y2] 41)) := (Below.refl _ _).alloc (Nat.le_refl _) _
        have hD := Blk.new wr 41 [.int .i64 y0, .int .i64 y1, .int .i64 y2]
        have HO5 := Lib.hid (own_later hown hal)
        have HS5 := Lib.hid (hS.later hal)
        obtain ⟨n5, c5, m5, lc5, A5, L5, hpa⟩ := HPA.out
        have hQ5 := hpa.later hal
        have hb5 : w2.heap.size ≤ (wr.alloc (.cells #[.int .i64 y0, .int .i64 y1, .int .i64 y2] 41)).heap.size := Nat.le_trans hbw hal.size
        have hki : (k : Int) < (d : Int) := by omega
        clear hc0 hc1 hc2 hpa hown hS hal HPA
        go_wp2_with fail
        generalize wr.alloc (.cells #[.int .i64 y0, .int .i64 y1, .int .i64 y2] 41) = w5 at *
        have cD := do_any q w2.heap.size n5 c5 m5 lc5 A5 L5 p.hs p.ls y0 y1 y2 w5 hQ5 HPO.out hb5
        unfold PapTo at cD
        have e1 : (⟨p.hs, p.ls⟩ : PapV) = p := rfl
        rw [e1] at cD
        clear e1
        have HNE := Lib.hid (own_blk_ne HO5.out hQ5.blk (by decide))
        generalize hpd : pdo p y0 y1 y2 = r at *
        obtain ⟨p2, bb⟩ := r
        dsimp only at cD HST
        have HPD := Lib.hid hpd
        have CD := Lib.hid cD
        clear hpd hQ5 cD
        have e0 := hD.cellAt 0 (by simp)
        have e1 := hD.cellAt 1 (by simp)
        have e2 := hD.cellAt 2 (by simp)
        simp only [List.getElem_cons_zero, List.getElem_cons_succ] at e0 e1 e2
        clear hD h0 h1 h2
        go_wp2_with fail
        refine CD.out.mono ?_
        rintro e w6 ⟨rfl, hpa, F6⟩
        obtain ⟨n6, c6, m6, lc6, A6, L6, Q6⟩ := hpa
        have O6 := F6.own HO5.out HNE.out (by decide) (by decide)
        have S6 := Lib.hid (HS5.out.below (F6.below (by omega) hb5) hsz)
        have hb6 : w2.heap.size ≤ w6.heap.size := Nat.le_trans hb5 F6.size
        have Q6h := Lib.hid Q6
        have hkl : k ≤ 8589934592 := by omega
        clear CD F6 Q6 e0 e1 e2
        go_wp2_with (at_builtin; refine append_new rfl (.tmp 22) (.tmp 25) 32 rfl 4 _ _ _ Try.underlying32 bool_infoD w2.heap.size w6 (.slice A2 k c2) k (bools bs) rfl O6 [.bool bb] (by first | rfl | (simp; with_unfolding_all rfl)) rfl (by simp [Value.oneCell']) hkl hb6 ?_; intro v7 w7 hown7 hg7 hblk7)
        obtain ⟨A7, c7, rfl, _, _⟩ := own_slice hown7
        have hQ7 : PapAt w7 q w2.heap.size n6 c6 m6 lc6 A6 L6 p2.hs p2.ls := ⟨Q6h.out.hn, Q6h.out.hm, own_blk_apart O6 hg7 Q6h.out.blk (by decide), own_own_apart O6 hg7 Q6h.out.hold (by decide), own_own_apart O6 hg7 Q6h.out.left (by decide)⟩
        have hS7 := S6.out.below (Below.grown (Below.refl _ _) hg7 hb6 (fun b hb => (O6.lt b hb).1)) hsz
        have hb7 : w2.heap.size ≤ w7.heap.size := Nat.le_trans hb6 hg7.size
        rw [← bools_snoc] at hown7
        have HQ7 := Lib.hid hQ7
        have HS7 := Lib.hid hS7
        have HO7 := Lib.hid hown7
        clear hg7 hblk7 hQ7 hS7 hown7 O6 S6 Q6h
        go_wp2_with fail
        go_roundw
        case rel => exact ⟨k + 1, bs ++ [bb], p2, A7, c7, by omega, by go_num, HST, Lib.hid (by simp [hbl.out]), rfl, HO7.out, Lib.hid ⟨_, _, _, _, _, _, HQ7.out⟩, HS7.out, hb7⟩
        case measure => simp [intOf]; omega
      · obtain rfl : d = k := by omega
        have HEE : Hid (prun ⟨hs, ls⟩ (ds.map deedV) = (p, bs)) := Lib.hid (by rw [← HP.out, List.take_of_length_le (by rw [HDN.out]; exact Nat.le_refl _)])
        obtain ⟨n5, c5, m5, lc5, A5, L5, hpa⟩ := HPA.out
        have HPAT := Lib.hid hpa
        have y0 := hpa.blk.cellAt 0 (by simp)
        have y1 := hpa.blk.cellAt 1 (by simp)
        simp only [List.getElem_cons_zero, List.getElem_cons_succ] at y0 y1
        have HO := Lib.hid (own_base hown hsz)
        have HSS := Lib.hid hS
        have HBL := hbl
        have x0 := (hS.box).cellAt 0 (by simp)
        have x1 := (hS.box).cellAt 1 (by simp)
        have r0 := (hS.res).cellAt 0 (by simp)
        have r1 := (hS.res).cellAt 1 (by simp)
        have rf0 := (hS.res).frozen 0
        have rf1 := (hS.res).frozen 1
        simp only [List.getElem_cons_zero, List.getElem_cons_succ] at x0 x1 r0 r1
        have O1 := Lib.hid (own_base hpa.hold hsz)
        have O2 := Lib.hid (own_base hpa.left hsz)
        clear hpa hown hS
        go_wp2_with fail
        have hR := ((HSS.out.res).set_ 0 (.slice A5 (n5) c5)).set_ 1 (.slice L5 (m5) lc5)
        have hR1 := (HSS.out.res).set_ 0 (.slice A5 (n5) c5)
        have u0 := hR1.cellAt 1 (by simp)
        have u1 := hR.cellAt 0 (by simp)
        have u2 := hR.cellAt 1 (by simp)
        simp only [List.set_cons_zero, List.set_cons_succ, List.getElem_cons_zero, List.getElem_cons_succ] at u0 u1 u2
        refine bodyPost_ret (v := .tuple #[.agg #[.slice A5 (n5) c5, .slice L5 (m5) lc5], .slice A2 (d) c2]) (by simp [results, Try.results14, go_sem, *]) rfl ?_
        have h6 : Out (w.heap.size + 1) (w.heap.size + 2) wr ((wr.setCell ⟨w.heap.size + 1, 0, none⟩ (.slice A5 (n5) c5)).setCell ⟨w.heap.size + 1, 1, none⟩ (.slice L5 (m5) lc5)) := out_set (out_set (Out.refl _ _ _) _ _ _ (by omega) (by omega)) _ _ _ (by omega) (by omega)
        refine runOut_mk (HE.out.trans HEE.out) HPAT.out.hn HPAT.out.hm HBL.out (own_base (own_out O1.out h6 ?_) (Nat.le_add_right _ 2)) (own_base (own_out O2.out h6 ?_) (Nat.le_add_right _ 2)) (own_base (own_out HO.out h6 ?_) (Nat.le_add_right _ 2)) (below_out (HSS.out.bel) h6 (by omega))
        · intro g e
          have := (O1.out.lt g e).1
          omega
        · intro g e
          have := (O2.out.lt g e).1
          omega
        · intro g e
          have := (HO.out.lt g e).1
          omega
end Go.Proofs.Ytpkbipjnobfcdaa
