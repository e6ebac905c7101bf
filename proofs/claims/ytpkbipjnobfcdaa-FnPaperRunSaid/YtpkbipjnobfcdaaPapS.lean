/- PaperRun of the reference. -/
import Derived.Test.YtpkbipjnobfcdaaPapR
import Derived.Deep.RegionHeld3
namespace Go.Proofs.Ytpkbipjnobfcdaa
open Go Go.ChangeShapes Go.WideShapes Go.ChangeAt Go.RowKit
set_option linter.unusedVariables false
set_option linter.unusedSimpArgs false
theorem bel_allocS {w W : World} (h : Below w.heap.size w W) (o : Obj) : Below w.heap.size w (W.alloc o) := h.alloc h.size o
theorem bel_setB {B : Nat} {w W : World} {g i : Nat} {u : Value} (h : Below B w W) (hg : B ≤ g) : Below B w (W.setCell ⟨g, i, none⟩ u) := h.setCell (p := ⟨g, i, none⟩) hg u
theorem bel_setS {w W : World} {g i : Nat} {u : Value} (h : Below w.heap.size w W) (hg : w.heap.size ≤ g) : Below w.heap.size w (W.setCell ⟨g, i, none⟩ u) := h.setCell (p := ⟨g, i, none⟩) hg u
/-- a deed done: the result's variable, and whether it was done -/
def StepCut (w5 : World) (r : PapV × Bool) (s9 s10 : Value) (wx : World) : Prop :=
  ∃ g A n c L m lc, s9 = .pointer (some ⟨g, 0, none⟩) ∧ s10 = .bool r.2 ∧ r.1.hs.length = n ∧ r.1.ls.length = m ∧ w5.heap.size ≤ g ∧ Blk wx g 26 [.slice A n c, .slice L m lc] ∧ wx.ownsRow w5.heap.size 38 2 (.slice A n c) n (holds r.1.hs) ∧
    wx.ownsRow w5.heap.size 3 1 (.slice L m lc) m (ints r.1.ls) ∧ Below w5.heap.size w5 wx
theorem stepCut_new {w5 W : World} {r : PapV × Bool} {A L : Option Addr} {n c m lc : Nat} (hB : Below w5.heap.size w5 W) (h1 : W.ownsRow w5.heap.size 38 2 (.slice A n c) n (holds r.1.hs)) (h2 : W.ownsRow w5.heap.size 3 1 (.slice L m lc) m (ints r.1.ls)) (hn : r.1.hs.length = n) (hm : r.1.ls.length = m) :
    StepCut w5 r (.pointer (some ⟨W.heap.size, 0, none⟩)) (.bool r.2) (W.alloc (.cells #[.slice A n c, .slice L m lc] 26)) := by
  have hal : Below W.heap.size W (W.alloc (.cells #[.slice A n c, .slice L m lc] 26)) := (Below.refl _ _).alloc (Nat.le_refl _) _
  exact ⟨_, _, _, _, _, _, _, rfl, rfl, hn, hm, hB.size, Blk.new _ _ _, own_later h1 hal, own_later h2 hal, below_trans hB hal⟩
theorem stepCut_old {w5 W : World} {r : PapV × Bool} {g : Nat} {A L : Option Addr} {n c m lc : Nat} {z0 z1 : Value} (hB : Below w5.heap.size w5 W) (hg : w5.heap.size ≤ g) (hb : Blk W g 26 [z0, z1]) (h1 : W.ownsRow w5.heap.size 38 2 (.slice A n c) n (holds r.1.hs)) (h2 : W.ownsRow w5.heap.size 3 1 (.slice L m lc) m (ints r.1.ls)) (hn : r.1.hs.length = n) (hm : r.1.ls.length = m) :
    StepCut w5 r (.pointer (some ⟨g, 0, none⟩)) (.bool r.2) ((W.setCell ⟨g, 0, none⟩ (.slice A n c)).setCell ⟨g, 1, none⟩ (.slice L m lc)) := by
  have b1 := hb.set_ 0 (.slice A n c)
  exact ⟨g, _, _, _, _, _, _, rfl, rfl, hn, hm, hg, b1.set_ 1 _, own_setAt (own_setAt h1 hb (by decide)) b1 (by decide), own_setAt (own_setAt h2 hb (by decide)) b1 (by decide), (hB.setCell (p := ⟨g, 0, none⟩) hg _).setCell (p := ⟨g, 1, none⟩) hg _⟩
theorem keep5 {w W : World} {q b o : Nat} {u0 u1 x0 x1 x2 : Value} (hb : Below w.heap.size w W) (lq : q < w.heap.size) (lb : b < w.heap.size) (c0 : w.cell? ⟨q, 0, none⟩ = some u0) (c1 : w.cell? ⟨q, 1, none⟩ = some u1) (d0 : w.cell? ⟨b, o, none⟩ = some x0) (d1 : w.cell? ⟨b, o + 1, none⟩ = some x1) (d2 : w.cell? ⟨b, o + 2, none⟩ = some x2) :
    Below w.heap.size w W ∧ W.cell? ⟨q, 0, none⟩ = some u0 ∧ W.cell? ⟨q, 1, none⟩ = some u1 ∧ W.cell? ⟨b, o, none⟩ = some x0 ∧ W.cell? ⟨b, o + 1, none⟩ = some x1 ∧ W.cell? ⟨b, o + 2, none⟩ = some x2 :=
  ⟨hb, (hb.cell (p := ⟨q, 0, none⟩) lq).trans c0, (hb.cell (p := ⟨q, 1, none⟩) lq).trans c1, (hb.cell (p := ⟨b, o, none⟩) lb).trans d0, (hb.cell (p := ⟨b, o + 1, none⟩) lb).trans d1, (hb.cell (p := ⟨b, o + 2, none⟩) lb).trans d2⟩
theorem own_cap2 {w : World} {base n c : Nat} {e : TypeId} {size : Nat} {A : Option Addr} {xs : List Value} (h : w.ownsRow base e size (.slice A n c) n xs) : n ≤ c := by
  obtain ⟨_, _, e, h1, _⟩ := own_slice h
  injection e with _ _ e3
  omega
/-- the reference's PaperDo in any later world -/
theorem doAny {w5 : World} {p : PapV} {y0 y1 y2 : Int} {A L : Option Addr} {n c m lc : Nat} {r : PapV × Bool} (hpd : pdo p y0 y1 y2 = r) (hok : papOk p.hs p.ls = true) (hn : p.hs.length = n) (hm : p.ls.length = m) (hr : RdV w5 A (holds p.hs)) (hrl : RdV w5 L (ints p.ls)) (hc : m ≤ lc) (h1 : n ≤ 1048576) (h2 : m ≤ 1048576) (W : World) (hW : Below w5.heap.size w5 W) :
    Calls Try.prog 18 #[.agg #[.slice A n c, .slice L m lc], .agg #[.int .i64 y0, .int .i64 y1, .int .i64 y2]] W fun e w' => ∃ A2 c2 L2 lc2 n2 m2, e = .returned (.tuple #[.agg #[.slice A2 n2 c2, .slice L2 m2 lc2], .bool r.2]) ∧ r.1.hs.length = n2 ∧ r.1.ls.length = m2 ∧ w'.ownsRow w5.heap.size 38 2 (.slice A2 n2 c2) n2 (holds r.1.hs) ∧ w'.ownsRow w5.heap.size 3 1 (.slice L2 m2 lc2) m2 (ints r.1.ls) ∧ Below W.heap.size W w' := by
  refine (specPaperDo A L n c m lc p.hs p.ls y0 y1 y2 W hn hm (hr.below hW) (hrl.below hW) hc h1 h2).mono ?_
  rintro e w' ⟨_, rfl, A2, c2, L2, lc2, rfl, o1, o2, hb⟩
  have e1 : paperDo ⟨p.hs, p.ls⟩ y0 y1 y2 = r := by unfold paperDo; rw [if_pos (show papOkV ⟨p.hs, p.ls⟩ = true from hok)]; exact hpd
  rw [e1] at o1 o2 ⊢
  exact ⟨A2, c2, L2, lc2, _, _, rfl, rfl, rfl, own_base o1 hW.size, own_base o2 hW.size, hb⟩
theorem oeB {W : World} {g base : Nat} (h : Blk W g 4 []) (hb : base ≤ g) : W.ownsRow base 4 1 (.slice (some ⟨g, 0, none⟩) 0 0) 0 [] := own_of_blk (cs := []) h hb rfl (by decide)
set_option maxRecDepth 100000 in
set_option maxHeartbeats 4000000 in
theorem specPaperRun (HA LA DA : Option Addr) (n c m lc d dc : Nat) (hs : List HoldV) (ls : List Int) (ds : List PaperDeedV) (w : World) (hn : hs.length = n) (hln : ls.length = m) (hdn : ds.length = d) (hr : RdV w HA (holds hs)) (hrl : RdV w LA (ints ls)) (hrd : RdV w DA (paperdeeds ds)) (hm : n ≤ 1048576) (hm2 : m ≤ 1048576) (hm3 : d ≤ 1048576) :
    Calls Try.prog 31 #[.agg #[.slice HA n c, .slice LA m lc], .slice DA d dc] w (RunOut w (paperRun ⟨hs, ls⟩ (ds.map deedV))) := by
  have HN := Lib.hid hn
  have HLN := Lib.hid hln
  have HDN := Lib.hid hdn
  clear hn hln hdn
  have hal0 : Below ((w.alloc (.cells #[.slice HA n c, .slice LA m lc] 26)).alloc (.cells #[.slice none 0 0, .slice none 0 0] 26)).heap.size ((w.alloc (.cells #[.slice HA n c, .slice LA m lc] 26)).alloc (.cells #[.slice none 0 0, .slice none 0 0] 26)) (((w.alloc (.cells #[.slice HA n c, .slice LA m lc] 26)).alloc (.cells #[.slice none 0 0, .slice none 0 0] 26)).alloc (.cells #[] 4)) := (Below.refl _ _).alloc (Nat.le_refl _) _
  have S0 := (runAt_start w n c m lc HA LA).later hal0
  have hB0 := Blk.new ((w.alloc (.cells #[.slice HA n c, .slice LA m lc] 26)).alloc (.cells #[.slice none 0 0, .slice none 0 0] 26)) 4 []
  simp only [World.size_alloc] at hB0
  have OB0 := oeB hB0 (Nat.le_refl _)
  go_enter Try.func31, Try.ntmps31
  go_wp2_with fail
  clear hal0 hB0
  generalize ((w.alloc (.cells #[.slice HA n c, .slice LA m lc] 26)).alloc (.cells #[.slice none 0 0, .slice none 0 0] 26)).alloc (.cells #[] 4) = w1 at *
  have x0 := (S0.box).cellAt 0 (by simp)
  have x1 := (S0.box).cellAt 1 (by simp)
  have r0 := (S0.res).cellAt 0 (by simp)
  have r1 := (S0.res).cellAt 1 (by simp)
  have rf0 := (S0.res).frozen 0
  have rf1 := (S0.res).frozen 1
  simp only [List.getElem_cons_zero, List.getElem_cons_succ] at x0 x1 r0 r1
  refine (specPapersValid HA LA n c m lc hs ls w1 HN.out HLN.out (hr.below S0.bel) (hrl.below S0.bel) hm hm2).mono ?_
  rintro e w2 ⟨rfl, b2⟩
  have S2 := S0.later b2
  have S2h := Lib.hid S2
  have OB2 := Lib.hid (own_later OB0 b2)
  have hsz1 : w.heap.size + 1 + 1 < w2.heap.size := Nat.lt_of_lt_of_le (OB0.lt _ rfl).2 b2.size
  clear x0 x1 r0 r1 rf0 rf1
  clear b2 S0 OB0
  have x0 := (S2.box).cellAt 0 (by simp)
  have x1 := (S2.box).cellAt 1 (by simp)
  have r0 := (S2.res).cellAt 0 (by simp)
  have r1 := (S2.res).cellAt 1 (by simp)
  have rf0 := (S2.res).frozen 0
  have rf1 := (S2.res).frozen 1
  simp only [List.getElem_cons_zero, List.getElem_cons_succ] at x0 x1 r0 r1
  cases hok : papOk hs ls with
  | false =>
    have HZ1 : Hid (w2.ownsRow (w.heap.size + 2) 38 2 (.slice none 0 0) 0 (holds [])) := Lib.hid (World.ownsRow_nil _ _ _ _)
    have HZ2 : Hid (w2.ownsRow (w.heap.size + 2) 3 1 (.slice none 0 0) 0 (ints [])) := Lib.hid (World.ownsRow_nil _ _ _ _)
    have HZ3 : Hid (w2.ownsRow (w.heap.size + 2) 4 1 (.slice (some ⟨w.heap.size + 1 + 1, 0, none⟩) 0 0) 0 (bools [])) := Lib.hid (own_base OB2.out (by omega))
    have HE : Hid (paperRun ⟨hs, ls⟩ (ds.map deedV) = (⟨[], []⟩, [])) := Lib.hid (by simp [paperRun, papOkV, hok])
    clear hok
    go_wp2_with fail
    have hR := ((S2h.out.res).set_ 0 (.slice none (0) 0)).set_ 1 (.slice none (0) 0)
    have hR1 := (S2h.out.res).set_ 0 (.slice none (0) 0)
    have u0 := hR1.cellAt 1 (by simp)
    have u1 := hR.cellAt 0 (by simp)
    have u2 := hR.cellAt 1 (by simp)
    simp only [List.set_cons_zero, List.set_cons_succ, List.getElem_cons_zero, List.getElem_cons_succ] at u0 u1 u2
    refine bodyPost_ret (v := .tuple #[.agg #[.slice none (0) 0, .slice none (0) 0], .slice (some ⟨w.heap.size + 1 + 1, 0, none⟩) (0) 0]) (by simp [results, Try.results31, go_sem, *]) rfl ?_
    have h6 : Out (w.heap.size + 1) (w.heap.size + 2) w2 ((w2.setCell ⟨w.heap.size + 1, 0, none⟩ (.slice none (0) 0)).setCell ⟨w.heap.size + 1, 1, none⟩ (.slice none (0) 0)) := out_set (out_set (Out.refl _ _ _) _ _ _ (by omega) (by omega)) _ _ _ (by omega) (by omega)
    refine runOut_mk HE.out rfl rfl rfl (own_base (own_out (HZ1.out) h6 ?_) (Nat.le_add_right _ 2)) (own_base (own_out (HZ2.out) h6 ?_) (Nat.le_add_right _ 2)) (own_base (own_out (HZ3.out) h6 ?_) (Nat.le_add_right _ 2)) (below_out (S2h.out.bel) h6 (by omega))
    · intro g e
      have := ((HZ1.out).lt g e).1
      omega
    · intro g e
      have := ((HZ2.out).lt g e).1
      omega
    · intro g e
      have := ((HZ3.out).lt g e).1
      omega
  | true =>
    have HOK : Hid (papOkV ⟨hs, ls⟩ = true) := Lib.hid hok
    have HE : Hid (paperRun ⟨hs, ls⟩ (ds.map deedV) = prun ⟨hs, ls⟩ (ds.map deedV)) := Lib.hid (by unfold paperRun; rw [if_pos (show papOkV ⟨hs, ls⟩ = true from hok)])
    clear hok
    go_wp2_with fail
    refine (specClone HA LA n c m lc hs ls w2 HN.out HLN.out (hr.below S2h.out.bel) (hrl.below S2h.out.bel) hm hm2).mono ?_
    rintro e w3 ⟨_, rfl, CA, cc, CL, clc, rfl, oh3, ol3, b3⟩
    dsimp only at oh3 ol3
    rw [HN.out] at oh3
    rw [HLN.out] at ol3
    dsimp only
    rw [HN.out, HLN.out]
    have hal : Below w3.heap.size w3 (w3.alloc (.cells #[.slice CA n cc, .slice CL m clc] 26)) := (Below.refl _ _).alloc (Nat.le_refl _) _
    have hsz : w.heap.size + 2 ≤ w2.heap.size := by omega
    have Q4 : PapAt (w3.alloc (.cells #[.slice CA n cc, .slice CL m clc] 26)) w3.heap.size (w.heap.size + 2) n cc m clc CA CL hs ls := ⟨HN.out, HLN.out, Blk.new _ _ _, own_base (own_later oh3 hal) hsz, own_base (own_later ol3 hal) hsz⟩
    have hb23 := b3.size
    have S4 := Lib.hid ((S2h.out.later b3).later hal)
    have hb4 : w.heap.size + 2 ≤ (w3.alloc (.cells #[.slice CA n cc, .slice CL m clc] 26)).heap.size := by simp; omega
    have HQ4 := Lib.hid Q4
    have OB4 := Lib.hid (own_later (own_later OB2.out b3) hal)
    clear x0 x1 r0 r1 rf0 rf1
    clear b3 oh3 ol3 hal S2 Q4 OB2
    have hq2 : w.heap.size + 2 ≤ w3.heap.size := by omega
    go_wp2_with fail
    generalize w3.alloc (.cells #[.slice CA n cc, .slice CL m clc] 26) = w4 at *
    generalize w3.heap.size = q at *
    go_loopw [6, 8] (fun v i wr => ∃ (k : Nat) (bs : List Bool) (p : PapV) (A2 : Option Addr) (c2 : Nat), k ≤ d ∧ i = .int .i64 k ∧ Hid (prun ⟨hs, ls⟩ ((ds.take k).map deedV) = (p, bs)) ∧ Hid (bs.length = k) ∧ v = .slice A2 k c2 ∧ wr.ownsRow (w.heap.size + 2) 4 1 (.slice A2 k c2) k (bools bs) ∧ Hid (∃ n5 c5 m5 lc5 A5 L5, PapAt wr q (w.heap.size + 2) n5 c5 m5 lc5 A5 L5 p.hs p.ls) ∧ RunAt w wr n c m lc HA LA ∧ w.heap.size + 2 ≤ wr.heap.size) (fun _ i _ => d - (intOf i).toNat)
    case atStart => exact ⟨0, [], ⟨hs, ls⟩, _, 0, Nat.zero_le _, rfl, Lib.hid rfl, Lib.hid rfl, rfl, OB4.out, Lib.hid ⟨_, _, _, _, _, _, HQ4.out⟩, S4.out, hb4⟩
    case round =>
      obtain ⟨k, bs, p, A2, c2, hk, rfl, HP, hbl, rfl, hown, HPA, hS, hbw⟩ := hrel
      clear HQ4 S4 hb4
      by_cases hlt : k < d
      · have hke : k < ds.length := by rw [HDN.out]; exact hlt
        obtain ⟨b, o, rfl, hl, hc0, hc1, hc2⟩ := hrd.paperdeedAt hke
        have h0 : wr.cell? ⟨b, o + k * 3, none⟩ = some (.int .i64 (ds[k]).f0) := (hS.bel.cell (p := ⟨b, o + k * 3, none⟩) hl).trans hc0
        have h1 : wr.cell? ⟨b, o + k * 3 + 1, none⟩ = some (.int .i64 (ds[k]).f1) := (hS.bel.cell (p := ⟨b, o + k * 3 + 1, none⟩) hl).trans hc1
        have h2 : wr.cell? ⟨b, o + k * 3 + 2, none⟩ = some (.int .i64 (ds[k]).f2) := (hS.bel.cell (p := ⟨b, o + k * 3 + 2, none⟩) hl).trans hc2
        have HST : Hid (prun ⟨hs, ls⟩ ((ds.take (k + 1)).map deedV) = ((pdo p (ds[k]).f0 (ds[k]).f1 (ds[k]).f2).1, bs ++ [(pdo p (ds[k]).f0 (ds[k]).f1 (ds[k]).f2).2])) := Lib.hid (by
          rw [List.take_succ_eq_append_getElem hke, List.map_append, List.map_cons, List.map_nil, prun_snoc, HP.out]; rfl)
        have HPO : Hid (papOk p.hs p.ls = true) := Lib.hid (by
          have := prun_ok HOK.out ((ds.take k).map deedV)
          rw [HP.out] at this
          exact this)
        have hp12 := papOk_iff.1 HPO.out
        generalize ds[k] = y at *
        obtain ⟨y0, y1, y2⟩ := y
        dsimp only at h0 h1 h2 HST
        have HO5 := Lib.hid hown
        have HS5 := Lib.hid hS
        obtain ⟨n5, c5, m5, lc5, A5, L5, hpa⟩ := HPA.out
        have lb : b < wr.heap.size := Nat.lt_of_lt_of_le hl hS.bel.size
        have lq : q < wr.heap.size := hpa.blk.lt
        have q0 := hpa.blk.cellAt 0 (by simp)
        have q1 := hpa.blk.cellAt 1 (by simp)
        simp only [List.getElem_cons_zero, List.getElem_cons_succ] at q0 q1
        have hn5 := hpa.hn
        have hm5 := hpa.hm
        have cD := doAny (w5 := wr) (y0 := y0) (y1 := y1) (y2 := y2) (c := c5) rfl HPO.out hn5 hm5 (own_rd hpa.hold) (own_rd hpa.left) (own_cap2 hpa.left) (by omega) (by omega)
        clear hn5 hm5 hp12
        generalize hpd : pdo p y0 y1 y2 = r at *
        obtain ⟨p2, bb⟩ := r
        dsimp only at cD HST
        have HPD := Lib.hid hpd
        have HQ5 := Lib.hid hpa
        have hki : (k : Int) < (d : Int) := by omega
        have hk0 : (0 : Int) ≤ (k : Int) := by omega
        clear hc0 hc1 hc2 hpa hown HPA hpd
        have x0 := (hS.box).cellAt 0 (by simp)
        have x1 := (hS.box).cellAt 1 (by simp)
        have r0 := (hS.res).cellAt 0 (by simp)
        have r1 := (hS.res).cellAt 1 (by simp)
        have rf0 := (hS.res).frozen 0
        have rf1 := (hS.res).frozen 1
        simp only [List.getElem_cons_zero, List.getElem_cons_succ] at x0 x1 r0 r1
        clear hS
        go_upto_region 8 with fail
        go_cut [9, 10] from 25 to 34 (fun s9 s10 wx => StepCut wr (p2, bb) s9 s10 wx)
        case first =>
          go_region_held3 (fun W => Below wr.heap.size wr W ∧ W.cell? ⟨q, 0, none⟩ = some (.slice A5 n5 c5) ∧ W.cell? ⟨q, 1, none⟩ = some (.slice L5 m5 lc5) ∧ W.cell? ⟨b, o + k * 3, none⟩ = some (.int .i64 y0) ∧ W.cell? ⟨b, o + k * 3 + 1, none⟩ = some (.int .i64 y1) ∧ W.cell? ⟨b, o + k * 3 + 2, none⟩ = some (.int .i64 y2))
            (exact keep5 (by (repeat (first | assumption | exact Below.refl _ _ | with_reducible refine Below.drew ?_ | with_reducible refine bel_allocS ?_ _ | with_reducible refine bel_setS ?_ (Nat.le_refl _)))) lq lb q0 q1 h0 h1 h2)
            (first
              | (go_at_call 18
                 (with_reducible refine (cD _ (by (repeat (first | assumption | exact Below.refl _ _ | with_reducible refine Below.drew ?_ | with_reducible refine bel_allocS ?_ _)))).mono ?_)
                 rintro e wt ⟨A6, c6, L6, lc6, n6, m6, rfl, hn6, hm6, o6, p6, hbt0⟩
                 have hbt : Below wr.heap.size wr wt := by first | exact below_trans (Below.drew (Below.refl _ _)) hbt0 | exact below_trans (Below.drew ((Below.refl _ _).alloc (Nat.le_refl _) _)) hbt0
                 (first | (have hz := (Blk.drew (Blk.new wr 26 [.slice none 0 0, .slice none 0 0])).later hbt0; have rr0 := hz.cellAt 0 (by simp); have rr1 := hz.cellAt 1 (by simp); have rg0 := hz.frozen 0; have rg1 := hz.frozen 1; simp only [List.getElem_cons_zero, List.getElem_cons_succ] at rr0 rr1) | skip)
                 clear hbt0))
          all_goals (go_wp2_with fail; go_meet)
          all_goals (first
            | exact stepCut_new (r := (p2, bb)) hbt o6 p6 hn6 hm6
            | exact stepCut_old (r := (p2, bb)) hbt (Nat.le_refl _) hz o6 p6 hn6 hm6)
        case rest =>
          obtain ⟨g, A6, n6, c6, L6, m6, lc6, rfl, rfl, hn6, hm6, hg, hB6, o6, p6, hb6⟩ := hcut
          have HN6 := Lib.hid hn6
          have HM6 := Lib.hid hm6
          have hqg : q ≠ g := by omega
          have g0 := hB6.cellAt 0 (by simp)
          have g1 := hB6.cellAt 1 (by simp)
          have hQ6 := HQ5.out.blk.later hb6
          have q0' := hQ6.cellAt 0 (by simp)
          have q1' := hQ6.cellAt 1 (by simp)
          have qf0 := hQ6.frozen 0
          have qf1 := hQ6.frozen 1
          simp only [List.getElem_cons_zero, List.getElem_cons_succ] at g0 g1 q0' q1'
          have hQ7 := hQ6.set_ 0 (.slice A6 n6 c6)
          have HO6 := Lib.hid (own_later HO5.out hb6)
          have HS6 := Lib.hid (HS5.out.later hb6)
          have hQ8 : PapAt ((wc.setCell ⟨q, 0, none⟩ (.slice A6 n6 c6)).setCell ⟨q, 1, none⟩ (.slice L6 m6 lc6)) q (w.heap.size + 2) n6 c6 m6 lc6 A6 L6 p2.hs p2.ls :=
            ⟨hn6, hm6, hQ7.set_ 1 _, own_base (own_setAt (own_setAt o6 hQ6 (by decide)) hQ7 (by decide)) hbw, own_base (own_setAt (own_setAt p6 hQ6 (by decide)) hQ7 (by decide)) hbw⟩
          have HQ8 := Lib.hid hQ8
          have hsz6 : w.heap.size + 2 ≤ ((wc.setCell ⟨q, 0, none⟩ (.slice A6 n6 c6)).setCell ⟨q, 1, none⟩ (.slice L6 m6 lc6)).heap.size := by
            have := hb6.size
            simp [World.setCell]; omega
          have HS8 : Hid (RunAt w ((wc.setCell ⟨q, 0, none⟩ (.slice A6 n6 c6)).setCell ⟨q, 1, none⟩ (.slice L6 m6 lc6)) n c m lc HA LA) := Lib.hid (HS6.out.below (bel_setB (bel_setB (Below.refl _ _) hq2) hq2) (Nat.le_refl _))
          have HO8 : Hid (((wc.setCell ⟨q, 0, none⟩ (.slice A6 n6 c6)).setCell ⟨q, 1, none⟩ (.slice L6 m6 lc6)).ownsRow (w.heap.size + 2) 4 1 (.slice A2 k c2) k (bools bs)) := Lib.hid (own_setAt (own_setAt HO6.out hQ6 (by decide)) hQ7 (by decide))
          have hkl : k ≤ 8589934592 := by omega
          clear x0 x1 r0 r1 rf0 rf1
          clear hn6 hm6 hB6 hQ6 hQ7 hQ8 o6 p6 hb6 q0 q1 cD HO5 HS5 HO6 HS6 HQ5 h0 h1 h2
          go_upto_region 10 with fail
          generalize (wc.setCell ⟨q, 0, none⟩ (.slice A6 n6 c6)).setCell ⟨q, 1, none⟩ (.slice L6 m6 lc6) = w8 at *
          have O8 := HO8.out
          clear g0 g1 q0' q1' qf0 qf1 HO8
          go_wp2_with (at_builtin; refine append_new rfl (.tmp 35) (.tmp 37) 32 rfl 4 _ _ _ Try.underlying32 bool_infoD (w.heap.size + 2) w8 (.slice A2 k c2) k (bools bs) rfl O8 [.bool bb] (by first | rfl | (simp; with_unfolding_all rfl)) rfl (by simp [Value.oneCell']) hkl hsz6 ?_; intro v7 w9 hown7 hg7 hblk7)
          obtain ⟨A7, c7, rfl, _, _⟩ := own_slice hown7
          have hQ9 : PapAt w9 q (w.heap.size + 2) n6 c6 m6 lc6 A6 L6 p2.hs p2.ls := ⟨HQ8.out.hn, HQ8.out.hm, own_blk_apart O8 hg7 HQ8.out.blk (by decide), own_own_apart O8 hg7 HQ8.out.hold (by decide), own_own_apart O8 hg7 HQ8.out.left (by decide)⟩
          have hS9 := HS8.out.below (Below.grown (Below.refl _ _) hg7 hsz6 (fun b hb => (O8.lt b hb).1)) (Nat.le_refl _)
          have hb9 : w.heap.size + 2 ≤ w9.heap.size := Nat.le_trans hsz6 hg7.size
          rw [← bools_snoc] at hown7
          have HQ9 := Lib.hid hQ9
          have HS9 := Lib.hid hS9
          have HO9 := Lib.hid hown7
          clear hg7 hblk7 hQ9 hS9 hown7 O8 HS8 HQ8
          go_wp2_with fail
          go_roundw
          case rel => exact ⟨k + 1, bs ++ [bb], p2, A7, c7, by omega, by go_num, HST, Lib.hid (by simp [hbl.out]), rfl, HO9.out, Lib.hid ⟨_, _, _, _, _, _, HQ9.out⟩, HS9.out, hb9⟩
          case measure => simp [intOf]; omega
      · obtain rfl : d = k := by omega
        have HEE : Hid (prun ⟨hs, ls⟩ (ds.map deedV) = (p, bs)) := Lib.hid (by rw [← HP.out, List.take_of_length_le (by rw [HDN.out]; exact Nat.le_refl _)])
        obtain ⟨n5, c5, m5, lc5, A5, L5, hpa⟩ := HPA.out
        have HPAT := Lib.hid hpa
        have y0 := hpa.blk.cellAt 0 (by simp)
        have y1 := hpa.blk.cellAt 1 (by simp)
        simp only [List.getElem_cons_zero, List.getElem_cons_succ] at y0 y1
        have HO := Lib.hid hown
        have HSS := Lib.hid hS
        have x0 := (hS.box).cellAt 0 (by simp)
        have x1 := (hS.box).cellAt 1 (by simp)
        have r0 := (hS.res).cellAt 0 (by simp)
        have r1 := (hS.res).cellAt 1 (by simp)
        have rf0 := (hS.res).frozen 0
        have rf1 := (hS.res).frozen 1
        simp only [List.getElem_cons_zero, List.getElem_cons_succ] at x0 x1 r0 r1
        have O1 := Lib.hid hpa.hold
        have O2 := Lib.hid hpa.left
        clear hpa hown hS
        go_wp2_with fail
        have hR := ((HSS.out.res).set_ 0 (.slice A5 (n5) c5)).set_ 1 (.slice L5 (m5) lc5)
        have hR1 := (HSS.out.res).set_ 0 (.slice A5 (n5) c5)
        have u0 := hR1.cellAt 1 (by simp)
        have u1 := hR.cellAt 0 (by simp)
        have u2 := hR.cellAt 1 (by simp)
        simp only [List.set_cons_zero, List.set_cons_succ, List.getElem_cons_zero, List.getElem_cons_succ] at u0 u1 u2
        refine bodyPost_ret (v := .tuple #[.agg #[.slice A5 (n5) c5, .slice L5 (m5) lc5], .slice A2 (d) c2]) (by simp [results, Try.results31, go_sem, *]) rfl ?_
        have h6 : Out (w.heap.size + 1) (w.heap.size + 2) wr ((wr.setCell ⟨w.heap.size + 1, 0, none⟩ (.slice A5 (n5) c5)).setCell ⟨w.heap.size + 1, 1, none⟩ (.slice L5 (m5) lc5)) := out_set (out_set (Out.refl _ _ _) _ _ _ (by omega) (by omega)) _ _ _ (by omega) (by omega)
        refine runOut_mk (HE.out.trans HEE.out) HPAT.out.hn HPAT.out.hm hbl.out (own_base (own_out O1.out h6 ?_) (Nat.le_add_right _ 2)) (own_base (own_out O2.out h6 ?_) (Nat.le_add_right _ 2)) (own_base (own_out HO.out h6 ?_) (Nat.le_add_right _ 2)) (below_out (HSS.out.bel) h6 (by omega))
        · intro g e
          have := (O1.out.lt g e).1
          omega
        · intro g e
          have := (O2.out.lt g e).1
          omega
        · intro g e
          have := (HO.out.lt g e).1
          omega
end Go.Proofs.Ytpkbipjnobfcdaa
