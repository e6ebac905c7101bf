/- A deed of a terminal, the reference. Printed by gen_termdo.py. -/
import Derived.Test.YtbkfhcbecejomaaGreatMg15
import Derived.Test.YtbkfhcbecejomaaGreatMg16
import Derived.Test.YtbkfhcbecejomaaGreatMg18
import Derived.Test.YtbkfhcbecejomaaGreatMg14
import Derived.BigQuiet
import Derived.Shelf.SlSortCmp.QuietGrown
namespace Go.Proofs.YtbkfhcbecejomaaGreat
open Go Go.ChangeShapes Go.WideShapes Go.ChangeAt Go.RowKit Go.Sort
set_option linter.unusedVariables false
set_option linter.unusedSimpArgs false
/-- a terminal and whether the deed was done -/
def DoPost (w : World) (yn bn : Nat) (bs : List BoxV) : Ending → World → Prop :=
  RVal fun u w' => ∃ (high y0 y1 y2 : Int) (YB : Option Addr) (ya yd : Nat) (BB : Option Addr) (ba bd : Nat) (PB : Option Addr) (pn pd : Nat) (HB : Option Addr) (hn hd : Nat) (LB : Option Addr) (ln ld : Nat) (b : Bool),
    u = .tuple #[.agg #[.int .i64 high, .slice YB ya yd, .int .i64 y0, .int .i64 y1, .int .i64 y2, .slice BB ba bd, .slice PB pn pd, .slice HB hn hd, .slice LB ln ld], .bool b] ∧
      (b = true → ∃ rows plan hs ls, TOwn w' w.heap.size YB ya yd BB ba bd PB pn pd HB hn hd LB ln ld rows bs plan hs ls ∧ TLow ya ba pn hn ln rows bs plan hs ls ∧ ya = yn ∧ ba = bn) ∧ Below w.heap.size w w'
theorem do_false {w w' : World} {yn bn : Nat} {bs : List BoxV} {high y0 y1 y2 : Int} {YB : Option Addr} {ya yd : Nat} {BB : Option Addr} {ba bd : Nat} {PB : Option Addr} {pn pd : Nat} {HB : Option Addr} {hn hd : Nat} {LB : Option Addr} {ln ld : Nat} {v : Value} (hv : v = .tuple #[.agg #[.int .i64 high, .slice YB ya yd, .int .i64 y0, .int .i64 y1, .int .i64 y2, .slice BB ba bd, .slice PB pn pd, .slice HB hn hd, .slice LB ln ld], .bool false]) (hb : Below w.heap.size w w') : DoPost w yn bn bs (.returned v) w' := by
  subst hv
  exact RVal.mk ⟨high, y0, y1, y2, _, _, _, _, _, _, _, _, _, _, _, _, _, _, _, _, rfl, (fun h => by cases h), hb⟩
theorem do_true {w w' : World} {yn bn : Nat} {bs : List BoxV} {high y0 y1 y2 : Int} {YB : Option Addr} {yd : Nat} {BB : Option Addr} {bd : Nat} {PB : Option Addr} {pn pd : Nat} {HB : Option Addr} {hn hd : Nat} {LB : Option Addr} {ln ld : Nat} {rows : List (List Int)} {plan : List Int} {hs : List HoldV} {ls : List Int} {v : Value} (hv : v = .tuple #[.agg #[.int .i64 high, .slice YB yn yd, .int .i64 y0, .int .i64 y1, .int .i64 y2, .slice BB bn bd, .slice PB pn pd, .slice HB hn hd, .slice LB ln ld], .bool true]) (ho : TOwn w' w.heap.size YB yn yd BB bn bd PB pn pd HB hn hd LB ln ld rows bs plan hs ls) (hl : TLow yn bn pn hn ln rows bs plan hs ls) (hb : Below w.heap.size w w') : DoPost w yn bn bs (.returned v) w' := by
  subst hv
  exact RVal.mk ⟨high, y0, y1, y2, _, _, _, _, _, _, _, _, _, _, _, _, _, _, _, _, rfl, fun _ => ⟨rows, plan, hs, ls, ho, hl, rfl, rfl⟩, hb⟩
set_option maxHeartbeats 8000000 in
set_option maxRecDepth 100000 in
theorem specTermDo (high : Int) (x : HullV) (YA BA PA HA LA : Option Addr) (yn yc bn bc pn pc hn hc ln lc : Nat) (rows : List (List Int)) (bs : List BoxV) (plan : List Int) (hs : List HoldV) (ls : List Int) (k id fr dst : Int) (w : World) (T : TrmRd w YA BA PA HA LA yn bn bc pn pc hn ln rows bs plan hs ls) (hlc : ln ≤ lc) :
    Calls Tryz.prog 53 #[.agg #[.int .i64 high, .slice YA yn yc, .int .i64 x.f0, .int .i64 x.f1, .int .i64 x.f2, .slice BA bn bc, .slice PA pn pc, .slice HA hn hc, .slice LA ln lc], .agg #[.int .i64 k, .int .i64 id, .int .i64 fr, .int .i64 dst]] w (DoPost w yn bn bs) := by
  obtain ⟨y0, y1, y2⟩ := x
  have hal : Below w.heap.size w (((w.alloc (.cells #[.int .i64 high, .slice YA yn yc, .int .i64 y0, .int .i64 y1, .int .i64 y2, .slice BA bn bc, .slice PA pn pc, .slice HA hn hc, .slice LA ln lc] 34)).alloc (.cells #[.int .i64 k, .int .i64 id, .int .i64 fr, .int .i64 dst] 81)).alloc (.cells #[.int .i64 0, .slice none 0 0, .int .i64 0, .int .i64 0, .int .i64 0, .slice none 0 0, .slice none 0 0, .slice none 0 0, .slice none 0 0] 34)) := (((Below.refl _ _).alloc (Nat.le_refl _) _).alloc (by simp) _).alloc (by simp; omega) _
  have hP := ((Blk.new w 34 [.int .i64 high, .slice YA yn yc, .int .i64 y0, .int .i64 y1, .int .i64 y2, .slice BA bn bc, .slice PA pn pc, .slice HA hn hc, .slice LA ln lc]).alloc (.cells #[.int .i64 k, .int .i64 id, .int .i64 fr, .int .i64 dst] 81)).alloc (.cells #[.int .i64 0, .slice none 0 0, .int .i64 0, .int .i64 0, .int .i64 0, .slice none 0 0, .slice none 0 0, .slice none 0 0, .slice none 0 0] 34)
  have hD := (Blk.new (w.alloc (.cells #[.int .i64 high, .slice YA yn yc, .int .i64 y0, .int .i64 y1, .int .i64 y2, .slice BA bn bc, .slice PA pn pc, .slice HA hn hc, .slice LA ln lc] 34)) 81 [.int .i64 k, .int .i64 id, .int .i64 fr, .int .i64 dst]).alloc (.cells #[.int .i64 0, .slice none 0 0, .int .i64 0, .int .i64 0, .int .i64 0, .slice none 0 0, .slice none 0 0, .slice none 0 0, .slice none 0 0] 34)
  have hR := Blk.new ((w.alloc (.cells #[.int .i64 high, .slice YA yn yc, .int .i64 y0, .int .i64 y1, .int .i64 y2, .slice BA bn bc, .slice PA pn pc, .slice HA hn hc, .slice LA ln lc] 34)).alloc (.cells #[.int .i64 k, .int .i64 id, .int .i64 fr, .int .i64 dst] 81)) 34 [.int .i64 0, .slice none 0 0, .int .i64 0, .int .i64 0, .int .i64 0, .slice none 0 0, .slice none 0 0, .slice none 0 0, .slice none 0 0]
  simp only [World.size_alloc] at hD hR
  change Blk (((w.alloc (.cells #[.int .i64 high, .slice YA yn yc, .int .i64 y0, .int .i64 y1, .int .i64 y2, .slice BA bn bc, .slice PA pn pc, .slice HA hn hc, .slice LA ln lc] 34)).alloc (.cells #[.int .i64 k, .int .i64 id, .int .i64 fr, .int .i64 dst] 81)).alloc (.cells #[.int .i64 0, .slice none 0 0, .int .i64 0, .int .i64 0, .int .i64 0, .slice none 0 0, .slice none 0 0, .slice none 0 0, .slice none 0 0] 34)) _ _ _ at hP
  change Blk (((w.alloc (.cells #[.int .i64 high, .slice YA yn yc, .int .i64 y0, .int .i64 y1, .int .i64 y2, .slice BA bn bc, .slice PA pn pc, .slice HA hn hc, .slice LA ln lc] 34)).alloc (.cells #[.int .i64 k, .int .i64 id, .int .i64 fr, .int .i64 dst] 81)).alloc (.cells #[.int .i64 0, .slice none 0 0, .int .i64 0, .int .i64 0, .int .i64 0, .slice none 0 0, .slice none 0 0, .slice none 0 0, .slice none 0 0] 34)) _ _ _ at hD
  change Blk (((w.alloc (.cells #[.int .i64 high, .slice YA yn yc, .int .i64 y0, .int .i64 y1, .int .i64 y2, .slice BA bn bc, .slice PA pn pc, .slice HA hn hc, .slice LA ln lc] 34)).alloc (.cells #[.int .i64 k, .int .i64 id, .int .i64 fr, .int .i64 dst] 81)).alloc (.cells #[.int .i64 0, .slice none 0 0, .int .i64 0, .int .i64 0, .int .i64 0, .slice none 0 0, .slice none 0 0, .slice none 0 0, .slice none 0 0] 34)) _ _ _ at hR
  have p0 := hP.cellAt 0 (by simp)
  have p1 := hP.cellAt 1 (by simp)
  have p2 := hP.cellAt 2 (by simp)
  have p3 := hP.cellAt 3 (by simp)
  have p4 := hP.cellAt 4 (by simp)
  have p5 := hP.cellAt 5 (by simp)
  have p6 := hP.cellAt 6 (by simp)
  have p7 := hP.cellAt 7 (by simp)
  have p8 := hP.cellAt 8 (by simp)
  simp only [List.set_cons_zero, List.set_cons_succ, List.getElem_cons_zero, List.getElem_cons_succ] at p0 p1 p2 p3 p4 p5 p6 p7 p8
  go_enter Tryz.func53, Tryz.ntmps53
  go_wp2_with fail
  generalize ((w.alloc (.cells #[.int .i64 high, .slice YA yn yc, .int .i64 y0, .int .i64 y1, .int .i64 y2, .slice BA bn bc, .slice PA pn pc, .slice HA hn hc, .slice LA ln lc] 34)).alloc (.cells #[.int .i64 k, .int .i64 id, .int .i64 fr, .int .i64 dst] 81)).alloc (.cells #[.int .i64 0, .slice none 0 0, .int .i64 0, .int .i64 0, .int .i64 0, .slice none 0 0, .slice none 0 0, .slice none 0 0, .slice none 0 0] 34) = w1 at *
  have T1 := T.below hal
  refine (specTermValid high ⟨y0, y1, y2⟩ YA BA PA HA LA yn yc bn bc pn pc hn hc ln lc rows bs plan hs ls w1 T1).mono ?_
  rintro e w1' ⟨rfl, b1⟩
  have hal' := below_trans hal b1
  have hP' := hP.later b1
  have hD' := hD.later b1
  have hR' := hR.later b1
  have TT := Lib.hid T
  clear hal hP hD hR T1 T b1
  clear p0 p1 p2 p3 p4 p5 p6 p7 p8
  cases hok : termOk high rows ⟨y0, y1, y2⟩ bs plan ⟨hs, ls⟩ with
  | false =>
    go_wp2_with (first | (refine wpList_store_blk rfl 34 (.tmp 4) (.tmp 25) rfl (w.heap.size + 1 + 1) 34 [.int .i64 0, .slice none 0 0, .int .i64 0, .int .i64 0, .int .i64 0, .slice none 0 0, .slice none 0 0, .slice none 0 0, .slice none 0 0] [.int .i64 0, .slice none 0 0, .int .i64 0, .int .i64 0, .int .i64 0, .slice none 0 0, .slice none 0 0, .slice none 0 0, .slice none 0 0] ?_ ?_ ?_ ?_ ?_ ?_ ?_; rfl; rfl; exact hR'; rfl; kernel_rfl; simp [Value.oneCell']; intro wz hz ho))
    have z0 := hz.cellAt 0 (by simp)
    have z1 := hz.cellAt 1 (by simp)
    have z2 := hz.cellAt 2 (by simp)
    have z3 := hz.cellAt 3 (by simp)
    have z4 := hz.cellAt 4 (by simp)
    have z5 := hz.cellAt 5 (by simp)
    have z6 := hz.cellAt 6 (by simp)
    have z7 := hz.cellAt 7 (by simp)
    have z8 := hz.cellAt 8 (by simp)
    simp only [List.set_cons_zero, List.set_cons_succ, List.getElem_cons_zero, List.getElem_cons_succ] at z0 z1 z2 z3 z4 z5 z6 z7 z8
    refine bodyPost_ret (v := .tuple #[.agg #[.int .i64 0, .slice none 0 0, .int .i64 0, .int .i64 0, .int .i64 0, .slice none 0 0, .slice none 0 0, .slice none 0 0, .slice none 0 0], .bool false]) (by simp [results, Tryz.results53, go_sem, z0, z1, z2, z3, z4, z5, z6, z7, z8]) rfl ?_
    exact do_false rfl (below_out hal' ho (by omega))
  | true =>
    have LOW := Lib.hid (TLow.of hok TT.out.yl TT.out.bl TT.out.pl TT.out.hl TT.out.ll)
    obtain ⟨hyo, hpo, hpl, _, _, _, _, _, hr5, hfl⟩ := term_facts hok
    have hin : ∀ s ∈ rows, s.length ≤ 1048576 := fun s hs => by have := hr5 s hs; omega
    have hp0 : 0 < pn := by rw [← TT.out.pl]; exact hpl
    have HOK := Lib.hid hok
    clear hok hfl hpo hr5 hpl
    have p0 := hP'.cellAt 0 (by simp)
    have p1 := hP'.cellAt 1 (by simp)
    have p2 := hP'.cellAt 2 (by simp)
    have p3 := hP'.cellAt 3 (by simp)
    have p4 := hP'.cellAt 4 (by simp)
    have p5 := hP'.cellAt 5 (by simp)
    have p6 := hP'.cellAt 6 (by simp)
    have p7 := hP'.cellAt 7 (by simp)
    have p8 := hP'.cellAt 8 (by simp)
    simp only [List.set_cons_zero, List.set_cons_succ, List.getElem_cons_zero, List.getElem_cons_succ] at p0 p1 p2 p3 p4 p5 p6 p7 p8
    go_wp2_with fail
    refine (specL32Copy high y0 y1 y2 YA BA PA HA LA yn yc bn bc pn pc hn hc ln lc rows bs plan hs ls w1' (TT.out.below hal') hin hp0).mono ?_
    rintro e w2 ⟨_, rfl, YB, yd, BB, bd, PB, pd, HB, hd, LB, ld, rfl, o2, b2⟩
    clear p0 p1 p2 p3 p4 p5 p6 p7 p8
    have hal3 : Below w2.heap.size w2 (w2.alloc (.cells #[.int .i64 high, .slice YB yn yd, .int .i64 y0, .int .i64 y1, .int .i64 y2, .slice BB bn bd, .slice PB pn pd, .slice HB hn hd, .slice LB ln ld] 34)) := (Below.refl _ _).alloc (Nat.le_refl _) _
    have hO := Blk.new w2 34 [.int .i64 high, .slice YB yn yd, .int .i64 y0, .int .i64 y1, .int .i64 y2, .slice BB bn bd, .slice PB pn pd, .slice HB hn hd, .slice LB ln ld]
    change Blk (w2.alloc (.cells #[.int .i64 high, .slice YB yn yd, .int .i64 y0, .int .i64 y1, .int .i64 y2, .slice BB bn bd, .slice PB pn pd, .slice HB hn hd, .slice LB ln ld] 34)) _ _ _ at hO
    have b3 := below_trans b2 hal3
    have P3 := Lib.hid (hP'.later b3)
    have R3 := Lib.hid (hR'.later b3)
    have D3 := Lib.hid (hD'.later b3)
    have O3 := Lib.hid hO
    have A2 := Lib.hid o2
    have K3 := Lib.hid hal3
    have B3 := Lib.hid (below_trans hal' b3)
    have s1 : w.heap.size + 3 ≤ w1'.heap.size := by have := hR'.lt; omega
    have s2 : w1'.heap.size ≤ w2.heap.size := b2.size
    have lw3 := hO.lt
    clear hal' hP' hR' hD' o2 b2 hal3 hO b3
    have p0 := P3.out.cellAt 0 (by simp)
    have p1 := P3.out.cellAt 1 (by simp)
    have p2 := P3.out.cellAt 2 (by simp)
    have p3 := P3.out.cellAt 3 (by simp)
    have p4 := P3.out.cellAt 4 (by simp)
    have p5 := P3.out.cellAt 5 (by simp)
    have p6 := P3.out.cellAt 6 (by simp)
    have p7 := P3.out.cellAt 7 (by simp)
    have p8 := P3.out.cellAt 8 (by simp)
    simp only [List.set_cons_zero, List.set_cons_succ, List.getElem_cons_zero, List.getElem_cons_succ] at p0 p1 p2 p3 p4 p5 p6 p7 p8
    have e0 := D3.out.cellAt 0 (by simp)
    have e1 := D3.out.cellAt 1 (by simp)
    have e2 := D3.out.cellAt 2 (by simp)
    have e3 := D3.out.cellAt 3 (by simp)
    simp only [List.set_cons_zero, List.set_cons_succ, List.getElem_cons_zero, List.getElem_cons_succ] at e0 e1 e2 e3
    by_cases k0 : k = 0
    · skip
      subst k0
      go_wp2_with fail
      generalize w2.alloc (.cells #[.int .i64 high, .slice YB yn yd, .int .i64 y0, .int .i64 y1, .int .i64 y2, .slice BB bn bd, .slice PB pn pd, .slice HB hn hd, .slice LB ln ld] 34) = w3 at *
      refine (specTermWhere high ⟨y0, y1, y2⟩ YA BA PA HA LA yn yc bn bc pn pc hn hc ln lc rows bs plan hs ls id w3 (TT.out.below B3.out)).mono ?_
      rintro e w4 ⟨rfl, b4⟩
      generalize termWhere high rows ⟨y0, y1, y2⟩ bs plan ⟨hs, ls⟩ id = tw at *
      have P4 := Lib.hid (P3.out.later b4)
      have R4 := Lib.hid (R3.out.later b4)
      have D4 := Lib.hid (D3.out.later b4)
      have O4 := Lib.hid (O3.out.later b4)
      have K4 := Lib.hid (below_trans K3.out b4)
      have B4 := Lib.hid (below_trans B3.out b4)
      have sb4 := b4.size
      clear p0 p1 p2 p3 p4 p5 p6 p7 p8
      clear e0 e1 e2 e3
      clear b4 P3 R3 D3 O3 K3 B3
      have p0 := P4.out.cellAt 0 (by simp)
      have p1 := P4.out.cellAt 1 (by simp)
      have p2 := P4.out.cellAt 2 (by simp)
      have p3 := P4.out.cellAt 3 (by simp)
      have p4 := P4.out.cellAt 4 (by simp)
      have p5 := P4.out.cellAt 5 (by simp)
      have p6 := P4.out.cellAt 6 (by simp)
      have p7 := P4.out.cellAt 7 (by simp)
      have p8 := P4.out.cellAt 8 (by simp)
      simp only [List.set_cons_zero, List.set_cons_succ, List.getElem_cons_zero, List.getElem_cons_succ] at p0 p1 p2 p3 p4 p5 p6 p7 p8
      have e0 := D4.out.cellAt 0 (by simp)
      have e1 := D4.out.cellAt 1 (by simp)
      have e2 := D4.out.cellAt 2 (by simp)
      have e3 := D4.out.cellAt 3 (by simp)
      simp only [List.set_cons_zero, List.set_cons_succ, List.getElem_cons_zero, List.getElem_cons_succ] at e0 e1 e2 e3
      by_cases ht : tw = 0
      · skip
        subst ht
        have P3 := P4
        have R3 := R4
        have D3 := D4
        have O3 := O4
        have K3 := K4
        have B3 := B4
        go_wp2_with fail
        refine (putY high dst id YA yn yc rows w4 TT.out.yl (TT.out.yr.below B4.out) TT.out.ym hyo).mono ?_
        rintro e w6 ⟨_, rfl, XB, xd, rows', _, rfl, ⟨b, rfl⟩, hn1, h61, ox, b6⟩
        have hal7 : Below w6.heap.size w6 (w6.alloc (.cells #[.int .i64 high, .slice XB yn xd] 25)) := (Below.refl _ _).alloc (Nat.le_refl _) _
        have X7 := Blk.new w6 25 [.int .i64 high, .slice XB yn xd]
        change Blk (w6.alloc (.cells #[.int .i64 high, .slice XB yn xd] 25)) _ _ _ at X7
        have b7 := below_trans b6 hal7
        have P7 := Lib.hid (P3.out.later b7)
        have R7 := Lib.hid (R3.out.later b7)
        have O7 := Lib.hid (O3.out.later b7)
        have B7 := Lib.hid (below_trans B3.out b7)
        have K7 := Lib.hid (below_trans K3.out b7)
        clear p0 p1 p2 p3 p4 p5 p6 p7 p8
        have sb6 := b6.size
        have v0 := X7.cellAt 0 (by simp)
        have v1 := X7.cellAt 1 (by simp)
        simp only [List.set_cons_zero, List.set_cons_succ, List.getElem_cons_zero, List.getElem_cons_succ] at v0 v1
        clear X7
        have of0 := (O7.out).frozen 0
        have oc0 := (O7.out).cellAt 0 (by simp)
        simp only [List.set_cons_zero, List.set_cons_succ, List.getElem_cons_zero, List.getElem_cons_succ] at oc0
        have of1 := ((O7.out).set_ 0 (.int .i64 high)).frozen 1
        have oc1 := ((O7.out).set_ 0 (.int .i64 high)).cellAt 1 (by simp)
        simp only [List.set_cons_zero, List.set_cons_succ, List.getElem_cons_zero, List.getElem_cons_succ] at oc1
        have hO8 := ((O7.out).set_ 0 (.int .i64 high)).set_ 1 (.slice XB yn xd)
        have ho8 := (out_set (out_set (Out.refl w2.heap.size (w2.heap.size + 1) (w6.alloc (.cells #[.int .i64 high, .slice XB yn xd] 25))) w2.heap.size 0 (.int .i64 high) (Nat.le_refl _) (Nat.lt_succ_self _)) w2.heap.size 1 (.slice XB yn xd) (Nat.le_refl _) (Nat.lt_succ_self _))
        have A8 := Lib.hid (A2.out.swapY (by omega) ((K7.out.setCell (p := ⟨w2.heap.size, 0, none⟩) (Nat.le_refl _) (.int .i64 high)).setCell (p := ⟨w2.heap.size, 1, none⟩) (Nat.le_refl _) (.slice XB yn xd)) ((ox.later hal7).out ho8 (.inr (by omega))) (by omega))
        have B8 := ((B7.out.setCell (p := ⟨w2.heap.size, 0, none⟩) (by show w.heap.size ≤ w2.heap.size; omega) (.int .i64 high)).setCell (p := ⟨w2.heap.size, 1, none⟩) (by show w.heap.size ≤ w2.heap.size; omega) (.slice XB yn xd))
        have R8 := ((R7.out.far (p := ⟨w2.heap.size, 0, none⟩) (by show w.heap.size + 1 + 1 ≠ w2.heap.size; omega) (.int .i64 high)).far (p := ⟨w2.heap.size, 1, none⟩) (by show w.heap.size + 1 + 1 ≠ w2.heap.size; omega) (.slice XB yn xd))
        have P8 := ((P7.out.far (p := ⟨w2.heap.size, 0, none⟩) (by show w.heap.size ≠ w2.heap.size; omega) (.int .i64 high)).far (p := ⟨w2.heap.size, 1, none⟩) (by show w.heap.size ≠ w2.heap.size; omega) (.slice XB yn xd))
        have LX := Lib.hid (show TLow yn bn pn hn ln rows' bs plan hs ls from ⟨hn1, h61, LOW.out.ym, LOW.out.bl, LOW.out.bm, LOW.out.pl, LOW.out.pm, LOW.out.hl, LOW.out.hm, LOW.out.ll, LOW.out.lm⟩)
        clear ox ho8 hal7 b6 b7
        cases b
        · skip
          have p0 := P8.cellAt 0 (by simp)
          have p1 := P8.cellAt 1 (by simp)
          have p2 := P8.cellAt 2 (by simp)
          have p3 := P8.cellAt 3 (by simp)
          have p4 := P8.cellAt 4 (by simp)
          have p5 := P8.cellAt 5 (by simp)
          have p6 := P8.cellAt 6 (by simp)
          have p7 := P8.cellAt 7 (by simp)
          have p8 := P8.cellAt 8 (by simp)
          simp only [List.set_cons_zero, List.set_cons_succ, List.getElem_cons_zero, List.getElem_cons_succ] at p0 p1 p2 p3 p4 p5 p6 p7 p8
          clear hO8 A8
          go_wp2_with (first | (go_at_call 86; (with_reducible refine (specL32Copy high y0 y1 y2 YA BA PA HA LA yn yc bn bc pn pc hn hc ln lc rows bs plan hs ls _ (TT.out.below B8) hin hp0).mono ?_); rintro e wq ⟨_, rfl, CY, cy, CB, cb, CP, cp, CH, ch, CL, cl, rfl, oq, bq⟩; have Rq := R8.later bq) | (refine wpList_store_blk rfl 34 (.tmp 4) (.tmp 132) rfl (w.heap.size + 1 + 1) 34 [.int .i64 0, .slice none 0 0, .int .i64 0, .int .i64 0, .int .i64 0, .slice none 0 0, .slice none 0 0, .slice none 0 0, .slice none 0 0] [.int .i64 high, .slice CY yn cy, .int .i64 y0, .int .i64 y1, .int .i64 y2, .slice CB bn cb, .slice CP pn cp, .slice CH hn ch, .slice CL ln cl] ?_ ?_ ?_ ?_ ?_ ?_ ?_; rfl; rfl; exact Rq; rfl; kernel_rfl; simp [Value.oneCell']; intro wzq hzq hoq))
          have z0 := hzq.cellAt 0 (by simp)
          have z1 := hzq.cellAt 1 (by simp)
          have z2 := hzq.cellAt 2 (by simp)
          have z3 := hzq.cellAt 3 (by simp)
          have z4 := hzq.cellAt 4 (by simp)
          have z5 := hzq.cellAt 5 (by simp)
          have z6 := hzq.cellAt 6 (by simp)
          have z7 := hzq.cellAt 7 (by simp)
          have z8 := hzq.cellAt 8 (by simp)
          simp only [List.set_cons_zero, List.set_cons_succ, List.getElem_cons_zero, List.getElem_cons_succ] at z0 z1 z2 z3 z4 z5 z6 z7 z8
          refine bodyPost_ret (v := .tuple #[.agg #[.int .i64 high, .slice CY yn cy, .int .i64 y0, .int .i64 y1, .int .i64 y2, .slice CB bn cb, .slice CP pn cp, .slice CH hn ch, .slice CL ln cl], .bool false]) (by simp [results, Tryz.results53, go_sem, z0, z1, z2, z3, z4, z5, z6, z7, z8]) rfl ?_
          exact do_false rfl (below_out (below_trans B8 bq) hoq (by omega))
        · skip
          have o0 := hO8.cellAt 0 (by simp)
          have o1 := hO8.cellAt 1 (by simp)
          have o2 := hO8.cellAt 2 (by simp)
          have o3 := hO8.cellAt 3 (by simp)
          have o4 := hO8.cellAt 4 (by simp)
          have o5 := hO8.cellAt 5 (by simp)
          have o6 := hO8.cellAt 6 (by simp)
          have o7 := hO8.cellAt 7 (by simp)
          have o8 := hO8.cellAt 8 (by simp)
          simp only [List.set_cons_zero, List.set_cons_succ, List.getElem_cons_zero, List.getElem_cons_succ] at o0 o1 o2 o3 o4 o5 o6 o7 o8
          go_wp2_with (first | (refine wpList_store_blk rfl 34 (.tmp 4) (.tmp 133) rfl (w.heap.size + 1 + 1) 34 [.int .i64 0, .slice none 0 0, .int .i64 0, .int .i64 0, .int .i64 0, .slice none 0 0, .slice none 0 0, .slice none 0 0, .slice none 0 0] [.int .i64 high, .slice XB yn xd, .int .i64 y0, .int .i64 y1, .int .i64 y2, .slice BB bn bd, .slice PB pn pd, .slice HB hn hd, .slice LB ln ld] ?_ ?_ ?_ ?_ ?_ ?_ ?_; rfl; rfl; exact R8; rfl; kernel_rfl; simp [Value.oneCell']; intro wy hy hoy))
          have z0 := hy.cellAt 0 (by simp)
          have z1 := hy.cellAt 1 (by simp)
          have z2 := hy.cellAt 2 (by simp)
          have z3 := hy.cellAt 3 (by simp)
          have z4 := hy.cellAt 4 (by simp)
          have z5 := hy.cellAt 5 (by simp)
          have z6 := hy.cellAt 6 (by simp)
          have z7 := hy.cellAt 7 (by simp)
          have z8 := hy.cellAt 8 (by simp)
          simp only [List.set_cons_zero, List.set_cons_succ, List.getElem_cons_zero, List.getElem_cons_succ] at z0 z1 z2 z3 z4 z5 z6 z7 z8
          refine bodyPost_ret (v := .tuple #[.agg #[.int .i64 high, .slice XB yn xd, .int .i64 y0, .int .i64 y1, .int .i64 y2, .slice BB bn bd, .slice PB pn pd, .slice HB hn hd, .slice LB ln ld], .bool true]) (by simp [results, Tryz.results53, go_sem, z0, z1, z2, z3, z4, z5, z6, z7, z8]) rfl ?_
          exact do_true rfl (TOwn.base (TOwn.out A8.out hoy (by omega)) (by omega)) LX.out (below_out B8 hoy (by omega))
      · skip
        have htb : (tw == 0) = false := by simpa using ht
        go_wp2_with (first | (go_at_call 86; (with_reducible refine (specL32Copy high y0 y1 y2 YA BA PA HA LA yn yc bn bc pn pc hn hc ln lc rows bs plan hs ls _ (TT.out.below B4.out) hin hp0).mono ?_); rintro e wq ⟨_, rfl, CY, cy, CB, cb, CP, cp, CH, ch, CL, cl, rfl, oq, bq⟩; have Rq := R4.out.later bq) | (refine wpList_store_blk rfl 34 (.tmp 4) (.tmp 132) rfl (w.heap.size + 1 + 1) 34 [.int .i64 0, .slice none 0 0, .int .i64 0, .int .i64 0, .int .i64 0, .slice none 0 0, .slice none 0 0, .slice none 0 0, .slice none 0 0] [.int .i64 high, .slice CY yn cy, .int .i64 y0, .int .i64 y1, .int .i64 y2, .slice CB bn cb, .slice CP pn cp, .slice CH hn ch, .slice CL ln cl] ?_ ?_ ?_ ?_ ?_ ?_ ?_; rfl; rfl; exact Rq; rfl; kernel_rfl; simp [Value.oneCell']; intro wzq hzq hoq))
        have z0 := hzq.cellAt 0 (by simp)
        have z1 := hzq.cellAt 1 (by simp)
        have z2 := hzq.cellAt 2 (by simp)
        have z3 := hzq.cellAt 3 (by simp)
        have z4 := hzq.cellAt 4 (by simp)
        have z5 := hzq.cellAt 5 (by simp)
        have z6 := hzq.cellAt 6 (by simp)
        have z7 := hzq.cellAt 7 (by simp)
        have z8 := hzq.cellAt 8 (by simp)
        simp only [List.set_cons_zero, List.set_cons_succ, List.getElem_cons_zero, List.getElem_cons_succ] at z0 z1 z2 z3 z4 z5 z6 z7 z8
        refine bodyPost_ret (v := .tuple #[.agg #[.int .i64 high, .slice CY yn cy, .int .i64 y0, .int .i64 y1, .int .i64 y2, .slice CB bn cb, .slice CP pn cp, .slice CH hn ch, .slice CL ln cl], .bool false]) (by simp [results, Tryz.results53, go_sem, z0, z1, z2, z3, z4, z5, z6, z7, z8]) rfl ?_
        exact do_false rfl (below_out (below_trans B4.out bq) hoq (by omega))
    · skip
      by_cases k1 : k = 1
      · skip
        subst k1
        go_wp2_with fail
        generalize w2.alloc (.cells #[.int .i64 high, .slice YB yn yd, .int .i64 y0, .int .i64 y1, .int .i64 y2, .slice BB bn bd, .slice PB pn pd, .slice HB hn hd, .slice LB ln ld] 34) = w3 at *
        go_wp2_with fail
        refine (moveY high fr dst YA yn yc rows w3 TT.out.yl (TT.out.yr.below B3.out) TT.out.ym hyo).mono ?_
        rintro e w6 ⟨_, rfl, XB, xd, rows', _, rfl, ⟨b, rfl⟩, hn1, h61, ox, b6⟩
        have hal7 : Below w6.heap.size w6 (w6.alloc (.cells #[.int .i64 high, .slice XB yn xd] 25)) := (Below.refl _ _).alloc (Nat.le_refl _) _
        have X7 := Blk.new w6 25 [.int .i64 high, .slice XB yn xd]
        change Blk (w6.alloc (.cells #[.int .i64 high, .slice XB yn xd] 25)) _ _ _ at X7
        have b7 := below_trans b6 hal7
        have P7 := Lib.hid (P3.out.later b7)
        have R7 := Lib.hid (R3.out.later b7)
        have O7 := Lib.hid (O3.out.later b7)
        have B7 := Lib.hid (below_trans B3.out b7)
        have K7 := Lib.hid (below_trans K3.out b7)
        clear p0 p1 p2 p3 p4 p5 p6 p7 p8
        have sb6 := b6.size
        have v0 := X7.cellAt 0 (by simp)
        have v1 := X7.cellAt 1 (by simp)
        simp only [List.set_cons_zero, List.set_cons_succ, List.getElem_cons_zero, List.getElem_cons_succ] at v0 v1
        clear X7
        have of0 := (O7.out).frozen 0
        have oc0 := (O7.out).cellAt 0 (by simp)
        simp only [List.set_cons_zero, List.set_cons_succ, List.getElem_cons_zero, List.getElem_cons_succ] at oc0
        have of1 := ((O7.out).set_ 0 (.int .i64 high)).frozen 1
        have oc1 := ((O7.out).set_ 0 (.int .i64 high)).cellAt 1 (by simp)
        simp only [List.set_cons_zero, List.set_cons_succ, List.getElem_cons_zero, List.getElem_cons_succ] at oc1
        have hO8 := ((O7.out).set_ 0 (.int .i64 high)).set_ 1 (.slice XB yn xd)
        have ho8 := (out_set (out_set (Out.refl w2.heap.size (w2.heap.size + 1) (w6.alloc (.cells #[.int .i64 high, .slice XB yn xd] 25))) w2.heap.size 0 (.int .i64 high) (Nat.le_refl _) (Nat.lt_succ_self _)) w2.heap.size 1 (.slice XB yn xd) (Nat.le_refl _) (Nat.lt_succ_self _))
        have A8 := Lib.hid (A2.out.swapY (by omega) ((K7.out.setCell (p := ⟨w2.heap.size, 0, none⟩) (Nat.le_refl _) (.int .i64 high)).setCell (p := ⟨w2.heap.size, 1, none⟩) (Nat.le_refl _) (.slice XB yn xd)) ((ox.later hal7).out ho8 (.inr (by omega))) (by omega))
        have B8 := ((B7.out.setCell (p := ⟨w2.heap.size, 0, none⟩) (by show w.heap.size ≤ w2.heap.size; omega) (.int .i64 high)).setCell (p := ⟨w2.heap.size, 1, none⟩) (by show w.heap.size ≤ w2.heap.size; omega) (.slice XB yn xd))
        have R8 := ((R7.out.far (p := ⟨w2.heap.size, 0, none⟩) (by show w.heap.size + 1 + 1 ≠ w2.heap.size; omega) (.int .i64 high)).far (p := ⟨w2.heap.size, 1, none⟩) (by show w.heap.size + 1 + 1 ≠ w2.heap.size; omega) (.slice XB yn xd))
        have P8 := ((P7.out.far (p := ⟨w2.heap.size, 0, none⟩) (by show w.heap.size ≠ w2.heap.size; omega) (.int .i64 high)).far (p := ⟨w2.heap.size, 1, none⟩) (by show w.heap.size ≠ w2.heap.size; omega) (.slice XB yn xd))
        have LX := Lib.hid (show TLow yn bn pn hn ln rows' bs plan hs ls from ⟨hn1, h61, LOW.out.ym, LOW.out.bl, LOW.out.bm, LOW.out.pl, LOW.out.pm, LOW.out.hl, LOW.out.hm, LOW.out.ll, LOW.out.lm⟩)
        clear ox ho8 hal7 b6 b7
        cases b
        · skip
          have p0 := P8.cellAt 0 (by simp)
          have p1 := P8.cellAt 1 (by simp)
          have p2 := P8.cellAt 2 (by simp)
          have p3 := P8.cellAt 3 (by simp)
          have p4 := P8.cellAt 4 (by simp)
          have p5 := P8.cellAt 5 (by simp)
          have p6 := P8.cellAt 6 (by simp)
          have p7 := P8.cellAt 7 (by simp)
          have p8 := P8.cellAt 8 (by simp)
          simp only [List.set_cons_zero, List.set_cons_succ, List.getElem_cons_zero, List.getElem_cons_succ] at p0 p1 p2 p3 p4 p5 p6 p7 p8
          clear hO8 A8
          go_wp2_with (first | (go_at_call 86; (with_reducible refine (specL32Copy high y0 y1 y2 YA BA PA HA LA yn yc bn bc pn pc hn hc ln lc rows bs plan hs ls _ (TT.out.below B8) hin hp0).mono ?_); rintro e wq ⟨_, rfl, CY, cy, CB, cb, CP, cp, CH, ch, CL, cl, rfl, oq, bq⟩; have Rq := R8.later bq) | (refine wpList_store_blk rfl 34 (.tmp 4) (.tmp 132) rfl (w.heap.size + 1 + 1) 34 [.int .i64 0, .slice none 0 0, .int .i64 0, .int .i64 0, .int .i64 0, .slice none 0 0, .slice none 0 0, .slice none 0 0, .slice none 0 0] [.int .i64 high, .slice CY yn cy, .int .i64 y0, .int .i64 y1, .int .i64 y2, .slice CB bn cb, .slice CP pn cp, .slice CH hn ch, .slice CL ln cl] ?_ ?_ ?_ ?_ ?_ ?_ ?_; rfl; rfl; exact Rq; rfl; kernel_rfl; simp [Value.oneCell']; intro wzq hzq hoq))
          have z0 := hzq.cellAt 0 (by simp)
          have z1 := hzq.cellAt 1 (by simp)
          have z2 := hzq.cellAt 2 (by simp)
          have z3 := hzq.cellAt 3 (by simp)
          have z4 := hzq.cellAt 4 (by simp)
          have z5 := hzq.cellAt 5 (by simp)
          have z6 := hzq.cellAt 6 (by simp)
          have z7 := hzq.cellAt 7 (by simp)
          have z8 := hzq.cellAt 8 (by simp)
          simp only [List.set_cons_zero, List.set_cons_succ, List.getElem_cons_zero, List.getElem_cons_succ] at z0 z1 z2 z3 z4 z5 z6 z7 z8
          refine bodyPost_ret (v := .tuple #[.agg #[.int .i64 high, .slice CY yn cy, .int .i64 y0, .int .i64 y1, .int .i64 y2, .slice CB bn cb, .slice CP pn cp, .slice CH hn ch, .slice CL ln cl], .bool false]) (by simp [results, Tryz.results53, go_sem, z0, z1, z2, z3, z4, z5, z6, z7, z8]) rfl ?_
          exact do_false rfl (below_out (below_trans B8 bq) hoq (by omega))
        · skip
          have o0 := hO8.cellAt 0 (by simp)
          have o1 := hO8.cellAt 1 (by simp)
          have o2 := hO8.cellAt 2 (by simp)
          have o3 := hO8.cellAt 3 (by simp)
          have o4 := hO8.cellAt 4 (by simp)
          have o5 := hO8.cellAt 5 (by simp)
          have o6 := hO8.cellAt 6 (by simp)
          have o7 := hO8.cellAt 7 (by simp)
          have o8 := hO8.cellAt 8 (by simp)
          simp only [List.set_cons_zero, List.set_cons_succ, List.getElem_cons_zero, List.getElem_cons_succ] at o0 o1 o2 o3 o4 o5 o6 o7 o8
          go_wp2_with (first | (refine wpList_store_blk rfl 34 (.tmp 4) (.tmp 133) rfl (w.heap.size + 1 + 1) 34 [.int .i64 0, .slice none 0 0, .int .i64 0, .int .i64 0, .int .i64 0, .slice none 0 0, .slice none 0 0, .slice none 0 0, .slice none 0 0] [.int .i64 high, .slice XB yn xd, .int .i64 y0, .int .i64 y1, .int .i64 y2, .slice BB bn bd, .slice PB pn pd, .slice HB hn hd, .slice LB ln ld] ?_ ?_ ?_ ?_ ?_ ?_ ?_; rfl; rfl; exact R8; rfl; kernel_rfl; simp [Value.oneCell']; intro wy hy hoy))
          have z0 := hy.cellAt 0 (by simp)
          have z1 := hy.cellAt 1 (by simp)
          have z2 := hy.cellAt 2 (by simp)
          have z3 := hy.cellAt 3 (by simp)
          have z4 := hy.cellAt 4 (by simp)
          have z5 := hy.cellAt 5 (by simp)
          have z6 := hy.cellAt 6 (by simp)
          have z7 := hy.cellAt 7 (by simp)
          have z8 := hy.cellAt 8 (by simp)
          simp only [List.set_cons_zero, List.set_cons_succ, List.getElem_cons_zero, List.getElem_cons_succ] at z0 z1 z2 z3 z4 z5 z6 z7 z8
          refine bodyPost_ret (v := .tuple #[.agg #[.int .i64 high, .slice XB yn xd, .int .i64 y0, .int .i64 y1, .int .i64 y2, .slice BB bn bd, .slice PB pn pd, .slice HB hn hd, .slice LB ln ld], .bool true]) (by simp [results, Tryz.results53, go_sem, z0, z1, z2, z3, z4, z5, z6, z7, z8]) rfl ?_
          exact do_true rfl (TOwn.base (TOwn.out A8.out hoy (by omega)) (by omega)) LX.out (below_out B8 hoy (by omega))
      · skip
        by_cases k2 : k = 2
        · skip
          subst k2
          go_wp2_with fail
          generalize w2.alloc (.cells #[.int .i64 high, .slice YB yn yd, .int .i64 y0, .int .i64 y1, .int .i64 y2, .slice BB bn bd, .slice PB pn pd, .slice HB hn hd, .slice LB ln ld] 34) = w3 at *
          have lw3' : w2.heap.size < w3.heap.size := lw3
          go_wp2_with fail
          refine (specL32Load high ⟨y0, y1, y2⟩ YA BA PA HA LA yn yc bn bc pn pc hn hc ln lc rows bs plan hs ls fr dst w3 (TT.out.below B3.out) HOK.out hlc ).mono ?_
          rintro e w6 ⟨_, rfl, high', u0, u1, u2, XB, xd, EB, ed, QB, qn, qd, GB, gn, gd, JB, jn, jd, rows', plan', hs', ls', b, rfl, ox, lx, b6⟩
          have hal7 : Below w6.heap.size w6 (w6.alloc (.cells #[.int .i64 high', .slice XB yn xd, .int .i64 u0, .int .i64 u1, .int .i64 u2, .slice EB bn ed, .slice QB qn qd, .slice GB gn gd, .slice JB jn jd] 34)) := (Below.refl _ _).alloc (Nat.le_refl _) _
          have X7 := Blk.new w6 34 [.int .i64 high', .slice XB yn xd, .int .i64 u0, .int .i64 u1, .int .i64 u2, .slice EB bn ed, .slice QB qn qd, .slice GB gn gd, .slice JB jn jd]
          change Blk (w6.alloc (.cells #[.int .i64 high', .slice XB yn xd, .int .i64 u0, .int .i64 u1, .int .i64 u2, .slice EB bn ed, .slice QB qn qd, .slice GB gn gd, .slice JB jn jd] 34)) _ _ _ at X7
          have b7 := below_trans b6 hal7
          have P7 := Lib.hid (P3.out.later b7)
          have R7 := Lib.hid (R3.out.later b7)
          have O7 := Lib.hid (O3.out.later b7)
          have B7 := Lib.hid (below_trans B3.out b7)
          have A7 := Lib.hid (ox.later hal7)
          have LX := Lib.hid lx
          clear p0 p1 p2 p3 p4 p5 p6 p7 p8
          clear ox lx hal7 b6 b7
          have v0 := X7.cellAt 0 (by simp)
          have v1 := X7.cellAt 1 (by simp)
          have v2 := X7.cellAt 2 (by simp)
          have v3 := X7.cellAt 3 (by simp)
          have v4 := X7.cellAt 4 (by simp)
          have v5 := X7.cellAt 5 (by simp)
          have v6 := X7.cellAt 6 (by simp)
          have v7 := X7.cellAt 7 (by simp)
          have v8 := X7.cellAt 8 (by simp)
          simp only [List.set_cons_zero, List.set_cons_succ, List.getElem_cons_zero, List.getElem_cons_succ] at v0 v1 v2 v3 v4 v5 v6 v7 v8
          clear X7
          cases b
          · skip
            go_wp2_with (first | (refine wpList_store_blk rfl 34 (.tmp 6) (.tmp 77) rfl (w2.heap.size) 34 [.int .i64 high, .slice YB yn yd, .int .i64 y0, .int .i64 y1, .int .i64 y2, .slice BB bn bd, .slice PB pn pd, .slice HB hn hd, .slice LB ln ld] [.int .i64 high', .slice XB yn xd, .int .i64 u0, .int .i64 u1, .int .i64 u2, .slice EB bn ed, .slice QB qn qd, .slice GB gn gd, .slice JB jn jd] ?_ ?_ ?_ ?_ ?_ ?_ ?_; rfl; rfl; exact O7.out; rfl; kernel_rfl; simp [Value.oneCell']; intro wz hz ho; have Pz : Blk wz w.heap.size 34 [.int .i64 high, .slice YA yn yc, .int .i64 y0, .int .i64 y1, .int .i64 y2, .slice BA bn bc, .slice PA pn pc, .slice HA hn hc, .slice LA ln lc] := (ho.block _ P7.out.lt (.inl (by omega))).trans P7.out; have Rz : Blk wz (w.heap.size + 1 + 1) 34 [.int .i64 0, .slice none 0 0, .int .i64 0, .int .i64 0, .int .i64 0, .slice none 0 0, .slice none 0 0, .slice none 0 0, .slice none 0 0] := (ho.block _ R7.out.lt (.inl (by omega))).trans R7.out; have Bz := below_out B7.out ho (by omega); have p0 := Pz.cellAt 0 (by simp); have p1 := Pz.cellAt 1 (by simp); have p2 := Pz.cellAt 2 (by simp); have p3 := Pz.cellAt 3 (by simp); have p4 := Pz.cellAt 4 (by simp); have p5 := Pz.cellAt 5 (by simp); have p6 := Pz.cellAt 6 (by simp); have p7 := Pz.cellAt 7 (by simp); have p8 := Pz.cellAt 8 (by simp); simp only [List.set_cons_zero, List.set_cons_succ, List.getElem_cons_zero, List.getElem_cons_succ] at p0 p1 p2 p3 p4 p5 p6 p7 p8) | (go_at_call 86; (with_reducible refine (specL32Copy high y0 y1 y2 YA BA PA HA LA yn yc bn bc pn pc hn hc ln lc rows bs plan hs ls _ (TT.out.below Bz) hin hp0).mono ?_); rintro e wq ⟨_, rfl, CY, cy, CB, cb, CP, cp, CH, ch, CL, cl, rfl, oq, bq⟩; have Rq := Rz.later bq) | (refine wpList_store_blk rfl 34 (.tmp 4) (.tmp 132) rfl (w.heap.size + 1 + 1) 34 [.int .i64 0, .slice none 0 0, .int .i64 0, .int .i64 0, .int .i64 0, .slice none 0 0, .slice none 0 0, .slice none 0 0, .slice none 0 0] [.int .i64 high, .slice CY yn cy, .int .i64 y0, .int .i64 y1, .int .i64 y2, .slice CB bn cb, .slice CP pn cp, .slice CH hn ch, .slice CL ln cl] ?_ ?_ ?_ ?_ ?_ ?_ ?_; rfl; rfl; exact Rq; rfl; kernel_rfl; simp [Value.oneCell']; intro wzq hzq hoq))
            have z0 := hzq.cellAt 0 (by simp)
            have z1 := hzq.cellAt 1 (by simp)
            have z2 := hzq.cellAt 2 (by simp)
            have z3 := hzq.cellAt 3 (by simp)
            have z4 := hzq.cellAt 4 (by simp)
            have z5 := hzq.cellAt 5 (by simp)
            have z6 := hzq.cellAt 6 (by simp)
            have z7 := hzq.cellAt 7 (by simp)
            have z8 := hzq.cellAt 8 (by simp)
            simp only [List.set_cons_zero, List.set_cons_succ, List.getElem_cons_zero, List.getElem_cons_succ] at z0 z1 z2 z3 z4 z5 z6 z7 z8
            refine bodyPost_ret (v := .tuple #[.agg #[.int .i64 high, .slice CY yn cy, .int .i64 y0, .int .i64 y1, .int .i64 y2, .slice CB bn cb, .slice CP pn cp, .slice CH hn ch, .slice CL ln cl], .bool false]) (by simp [results, Tryz.results53, go_sem, z0, z1, z2, z3, z4, z5, z6, z7, z8]) rfl ?_
            exact do_false rfl (below_out (below_trans Bz bq) hoq (by omega))
          · skip
            go_wp2_with (first | (refine wpList_store_blk rfl 34 (.tmp 6) (.tmp 77) rfl (w2.heap.size) 34 [.int .i64 high, .slice YB yn yd, .int .i64 y0, .int .i64 y1, .int .i64 y2, .slice BB bn bd, .slice PB pn pd, .slice HB hn hd, .slice LB ln ld] [.int .i64 high', .slice XB yn xd, .int .i64 u0, .int .i64 u1, .int .i64 u2, .slice EB bn ed, .slice QB qn qd, .slice GB gn gd, .slice JB jn jd] ?_ ?_ ?_ ?_ ?_ ?_ ?_; rfl; rfl; exact O7.out; rfl; kernel_rfl; simp [Value.oneCell']; intro wz hz ho; have Rz : Blk wz (w.heap.size + 1 + 1) 34 [.int .i64 0, .slice none 0 0, .int .i64 0, .int .i64 0, .int .i64 0, .slice none 0 0, .slice none 0 0, .slice none 0 0, .slice none 0 0] := (ho.block _ R7.out.lt (.inl (by omega))).trans R7.out; have o0 := hz.cellAt 0 (by simp); have o1 := hz.cellAt 1 (by simp); have o2 := hz.cellAt 2 (by simp); have o3 := hz.cellAt 3 (by simp); have o4 := hz.cellAt 4 (by simp); have o5 := hz.cellAt 5 (by simp); have o6 := hz.cellAt 6 (by simp); have o7 := hz.cellAt 7 (by simp); have o8 := hz.cellAt 8 (by simp); simp only [List.set_cons_zero, List.set_cons_succ, List.getElem_cons_zero, List.getElem_cons_succ] at o0 o1 o2 o3 o4 o5 o6 o7 o8) | (refine wpList_store_blk rfl 34 (.tmp 4) (.tmp 133) rfl (w.heap.size + 1 + 1) 34 [.int .i64 0, .slice none 0 0, .int .i64 0, .int .i64 0, .int .i64 0, .slice none 0 0, .slice none 0 0, .slice none 0 0, .slice none 0 0] [.int .i64 high', .slice XB yn xd, .int .i64 u0, .int .i64 u1, .int .i64 u2, .slice EB bn ed, .slice QB qn qd, .slice GB gn gd, .slice JB jn jd] ?_ ?_ ?_ ?_ ?_ ?_ ?_; rfl; rfl; exact Rz; rfl; kernel_rfl; simp [Value.oneCell']; intro wy hy hoy))
            have z0 := hy.cellAt 0 (by simp)
            have z1 := hy.cellAt 1 (by simp)
            have z2 := hy.cellAt 2 (by simp)
            have z3 := hy.cellAt 3 (by simp)
            have z4 := hy.cellAt 4 (by simp)
            have z5 := hy.cellAt 5 (by simp)
            have z6 := hy.cellAt 6 (by simp)
            have z7 := hy.cellAt 7 (by simp)
            have z8 := hy.cellAt 8 (by simp)
            simp only [List.set_cons_zero, List.set_cons_succ, List.getElem_cons_zero, List.getElem_cons_succ] at z0 z1 z2 z3 z4 z5 z6 z7 z8
            refine bodyPost_ret (v := .tuple #[.agg #[.int .i64 high', .slice XB yn xd, .int .i64 u0, .int .i64 u1, .int .i64 u2, .slice EB bn ed, .slice QB qn qd, .slice GB gn gd, .slice JB jn jd], .bool true]) (by simp [results, Tryz.results53, go_sem, z0, z1, z2, z3, z4, z5, z6, z7, z8]) rfl ?_
            exact do_true rfl (TOwn.base (TOwn.out (TOwn.out A7.out ho (by omega)) hoy (by omega)) (by omega)) LX.out (below_out (below_out B7.out ho (by omega)) hoy (by omega))
        · skip
          by_cases k3 : k = 3
          · skip
            subst k3
            go_wp2_with fail
            generalize w2.alloc (.cells #[.int .i64 high, .slice YB yn yd, .int .i64 y0, .int .i64 y1, .int .i64 y2, .slice BB bn bd, .slice PB pn pd, .slice HB hn hd, .slice LB ln ld] 34) = w3 at *
            have lw3' : w2.heap.size < w3.heap.size := lw3
            go_wp2_with fail
            refine (specL32Unload high ⟨y0, y1, y2⟩ YA BA PA HA LA yn yc bn bc pn pc hn hc ln lc rows bs plan hs ls fr dst w3 (TT.out.below B3.out) HOK.out hlc ).mono ?_
            rintro e w6 ⟨_, rfl, high', u0, u1, u2, XB, xd, EB, ed, QB, qn, qd, GB, gn, gd, JB, jn, jd, rows', plan', hs', ls', b, rfl, ox, lx, b6⟩
            have hal7 : Below w6.heap.size w6 (w6.alloc (.cells #[.int .i64 high', .slice XB yn xd, .int .i64 u0, .int .i64 u1, .int .i64 u2, .slice EB bn ed, .slice QB qn qd, .slice GB gn gd, .slice JB jn jd] 34)) := (Below.refl _ _).alloc (Nat.le_refl _) _
            have X7 := Blk.new w6 34 [.int .i64 high', .slice XB yn xd, .int .i64 u0, .int .i64 u1, .int .i64 u2, .slice EB bn ed, .slice QB qn qd, .slice GB gn gd, .slice JB jn jd]
            change Blk (w6.alloc (.cells #[.int .i64 high', .slice XB yn xd, .int .i64 u0, .int .i64 u1, .int .i64 u2, .slice EB bn ed, .slice QB qn qd, .slice GB gn gd, .slice JB jn jd] 34)) _ _ _ at X7
            have b7 := below_trans b6 hal7
            have P7 := Lib.hid (P3.out.later b7)
            have R7 := Lib.hid (R3.out.later b7)
            have O7 := Lib.hid (O3.out.later b7)
            have B7 := Lib.hid (below_trans B3.out b7)
            have A7 := Lib.hid (ox.later hal7)
            have LX := Lib.hid lx
            clear p0 p1 p2 p3 p4 p5 p6 p7 p8
            clear ox lx hal7 b6 b7
            have v0 := X7.cellAt 0 (by simp)
            have v1 := X7.cellAt 1 (by simp)
            have v2 := X7.cellAt 2 (by simp)
            have v3 := X7.cellAt 3 (by simp)
            have v4 := X7.cellAt 4 (by simp)
            have v5 := X7.cellAt 5 (by simp)
            have v6 := X7.cellAt 6 (by simp)
            have v7 := X7.cellAt 7 (by simp)
            have v8 := X7.cellAt 8 (by simp)
            simp only [List.set_cons_zero, List.set_cons_succ, List.getElem_cons_zero, List.getElem_cons_succ] at v0 v1 v2 v3 v4 v5 v6 v7 v8
            clear X7
            cases b
            · skip
              go_wp2_with (first | (refine wpList_store_blk rfl 34 (.tmp 6) (.tmp 90) rfl (w2.heap.size) 34 [.int .i64 high, .slice YB yn yd, .int .i64 y0, .int .i64 y1, .int .i64 y2, .slice BB bn bd, .slice PB pn pd, .slice HB hn hd, .slice LB ln ld] [.int .i64 high', .slice XB yn xd, .int .i64 u0, .int .i64 u1, .int .i64 u2, .slice EB bn ed, .slice QB qn qd, .slice GB gn gd, .slice JB jn jd] ?_ ?_ ?_ ?_ ?_ ?_ ?_; rfl; rfl; exact O7.out; rfl; kernel_rfl; simp [Value.oneCell']; intro wz hz ho; have Pz : Blk wz w.heap.size 34 [.int .i64 high, .slice YA yn yc, .int .i64 y0, .int .i64 y1, .int .i64 y2, .slice BA bn bc, .slice PA pn pc, .slice HA hn hc, .slice LA ln lc] := (ho.block _ P7.out.lt (.inl (by omega))).trans P7.out; have Rz : Blk wz (w.heap.size + 1 + 1) 34 [.int .i64 0, .slice none 0 0, .int .i64 0, .int .i64 0, .int .i64 0, .slice none 0 0, .slice none 0 0, .slice none 0 0, .slice none 0 0] := (ho.block _ R7.out.lt (.inl (by omega))).trans R7.out; have Bz := below_out B7.out ho (by omega); have p0 := Pz.cellAt 0 (by simp); have p1 := Pz.cellAt 1 (by simp); have p2 := Pz.cellAt 2 (by simp); have p3 := Pz.cellAt 3 (by simp); have p4 := Pz.cellAt 4 (by simp); have p5 := Pz.cellAt 5 (by simp); have p6 := Pz.cellAt 6 (by simp); have p7 := Pz.cellAt 7 (by simp); have p8 := Pz.cellAt 8 (by simp); simp only [List.set_cons_zero, List.set_cons_succ, List.getElem_cons_zero, List.getElem_cons_succ] at p0 p1 p2 p3 p4 p5 p6 p7 p8) | (go_at_call 86; (with_reducible refine (specL32Copy high y0 y1 y2 YA BA PA HA LA yn yc bn bc pn pc hn hc ln lc rows bs plan hs ls _ (TT.out.below Bz) hin hp0).mono ?_); rintro e wq ⟨_, rfl, CY, cy, CB, cb, CP, cp, CH, ch, CL, cl, rfl, oq, bq⟩; have Rq := Rz.later bq) | (refine wpList_store_blk rfl 34 (.tmp 4) (.tmp 132) rfl (w.heap.size + 1 + 1) 34 [.int .i64 0, .slice none 0 0, .int .i64 0, .int .i64 0, .int .i64 0, .slice none 0 0, .slice none 0 0, .slice none 0 0, .slice none 0 0] [.int .i64 high, .slice CY yn cy, .int .i64 y0, .int .i64 y1, .int .i64 y2, .slice CB bn cb, .slice CP pn cp, .slice CH hn ch, .slice CL ln cl] ?_ ?_ ?_ ?_ ?_ ?_ ?_; rfl; rfl; exact Rq; rfl; kernel_rfl; simp [Value.oneCell']; intro wzq hzq hoq))
              have z0 := hzq.cellAt 0 (by simp)
              have z1 := hzq.cellAt 1 (by simp)
              have z2 := hzq.cellAt 2 (by simp)
              have z3 := hzq.cellAt 3 (by simp)
              have z4 := hzq.cellAt 4 (by simp)
              have z5 := hzq.cellAt 5 (by simp)
              have z6 := hzq.cellAt 6 (by simp)
              have z7 := hzq.cellAt 7 (by simp)
              have z8 := hzq.cellAt 8 (by simp)
              simp only [List.set_cons_zero, List.set_cons_succ, List.getElem_cons_zero, List.getElem_cons_succ] at z0 z1 z2 z3 z4 z5 z6 z7 z8
              refine bodyPost_ret (v := .tuple #[.agg #[.int .i64 high, .slice CY yn cy, .int .i64 y0, .int .i64 y1, .int .i64 y2, .slice CB bn cb, .slice CP pn cp, .slice CH hn ch, .slice CL ln cl], .bool false]) (by simp [results, Tryz.results53, go_sem, z0, z1, z2, z3, z4, z5, z6, z7, z8]) rfl ?_
              exact do_false rfl (below_out (below_trans Bz bq) hoq (by omega))
            · skip
              go_wp2_with (first | (refine wpList_store_blk rfl 34 (.tmp 6) (.tmp 90) rfl (w2.heap.size) 34 [.int .i64 high, .slice YB yn yd, .int .i64 y0, .int .i64 y1, .int .i64 y2, .slice BB bn bd, .slice PB pn pd, .slice HB hn hd, .slice LB ln ld] [.int .i64 high', .slice XB yn xd, .int .i64 u0, .int .i64 u1, .int .i64 u2, .slice EB bn ed, .slice QB qn qd, .slice GB gn gd, .slice JB jn jd] ?_ ?_ ?_ ?_ ?_ ?_ ?_; rfl; rfl; exact O7.out; rfl; kernel_rfl; simp [Value.oneCell']; intro wz hz ho; have Rz : Blk wz (w.heap.size + 1 + 1) 34 [.int .i64 0, .slice none 0 0, .int .i64 0, .int .i64 0, .int .i64 0, .slice none 0 0, .slice none 0 0, .slice none 0 0, .slice none 0 0] := (ho.block _ R7.out.lt (.inl (by omega))).trans R7.out; have o0 := hz.cellAt 0 (by simp); have o1 := hz.cellAt 1 (by simp); have o2 := hz.cellAt 2 (by simp); have o3 := hz.cellAt 3 (by simp); have o4 := hz.cellAt 4 (by simp); have o5 := hz.cellAt 5 (by simp); have o6 := hz.cellAt 6 (by simp); have o7 := hz.cellAt 7 (by simp); have o8 := hz.cellAt 8 (by simp); simp only [List.set_cons_zero, List.set_cons_succ, List.getElem_cons_zero, List.getElem_cons_succ] at o0 o1 o2 o3 o4 o5 o6 o7 o8) | (refine wpList_store_blk rfl 34 (.tmp 4) (.tmp 133) rfl (w.heap.size + 1 + 1) 34 [.int .i64 0, .slice none 0 0, .int .i64 0, .int .i64 0, .int .i64 0, .slice none 0 0, .slice none 0 0, .slice none 0 0, .slice none 0 0] [.int .i64 high', .slice XB yn xd, .int .i64 u0, .int .i64 u1, .int .i64 u2, .slice EB bn ed, .slice QB qn qd, .slice GB gn gd, .slice JB jn jd] ?_ ?_ ?_ ?_ ?_ ?_ ?_; rfl; rfl; exact Rz; rfl; kernel_rfl; simp [Value.oneCell']; intro wy hy hoy))
              have z0 := hy.cellAt 0 (by simp)
              have z1 := hy.cellAt 1 (by simp)
              have z2 := hy.cellAt 2 (by simp)
              have z3 := hy.cellAt 3 (by simp)
              have z4 := hy.cellAt 4 (by simp)
              have z5 := hy.cellAt 5 (by simp)
              have z6 := hy.cellAt 6 (by simp)
              have z7 := hy.cellAt 7 (by simp)
              have z8 := hy.cellAt 8 (by simp)
              simp only [List.set_cons_zero, List.set_cons_succ, List.getElem_cons_zero, List.getElem_cons_succ] at z0 z1 z2 z3 z4 z5 z6 z7 z8
              refine bodyPost_ret (v := .tuple #[.agg #[.int .i64 high', .slice XB yn xd, .int .i64 u0, .int .i64 u1, .int .i64 u2, .slice EB bn ed, .slice QB qn qd, .slice GB gn gd, .slice JB jn jd], .bool true]) (by simp [results, Tryz.results53, go_sem, z0, z1, z2, z3, z4, z5, z6, z7, z8]) rfl ?_
              exact do_true rfl (TOwn.base (TOwn.out (TOwn.out A7.out ho (by omega)) hoy (by omega)) (by omega)) LX.out (below_out (below_out B7.out ho (by omega)) hoy (by omega))
          · skip
            by_cases k4 : k = 4
            · skip
              subst k4
              go_wp2_with fail
              generalize w2.alloc (.cells #[.int .i64 high, .slice YB yn yd, .int .i64 y0, .int .i64 y1, .int .i64 y2, .slice BB bn bd, .slice PB pn pd, .slice HB hn hd, .slice LB ln ld] 34) = w3 at *
              have lw3' : w2.heap.size < w3.heap.size := lw3
              go_wp2_with fail
              refine (specL32Out high ⟨y0, y1, y2⟩ YA BA PA HA LA yn yc bn bc pn pc hn hc ln lc rows bs plan hs ls fr w3 (TT.out.below B3.out) HOK.out hlc ).mono ?_
              rintro e w6 ⟨_, rfl, high', u0, u1, u2, XB, xd, EB, ed, QB, qn, qd, GB, gn, gd, JB, jn, jd, rows', plan', hs', ls', b, rfl, ox, lx, b6⟩
              have hal7 : Below w6.heap.size w6 (w6.alloc (.cells #[.int .i64 high', .slice XB yn xd, .int .i64 u0, .int .i64 u1, .int .i64 u2, .slice EB bn ed, .slice QB qn qd, .slice GB gn gd, .slice JB jn jd] 34)) := (Below.refl _ _).alloc (Nat.le_refl _) _
              have X7 := Blk.new w6 34 [.int .i64 high', .slice XB yn xd, .int .i64 u0, .int .i64 u1, .int .i64 u2, .slice EB bn ed, .slice QB qn qd, .slice GB gn gd, .slice JB jn jd]
              change Blk (w6.alloc (.cells #[.int .i64 high', .slice XB yn xd, .int .i64 u0, .int .i64 u1, .int .i64 u2, .slice EB bn ed, .slice QB qn qd, .slice GB gn gd, .slice JB jn jd] 34)) _ _ _ at X7
              have b7 := below_trans b6 hal7
              have P7 := Lib.hid (P3.out.later b7)
              have R7 := Lib.hid (R3.out.later b7)
              have O7 := Lib.hid (O3.out.later b7)
              have B7 := Lib.hid (below_trans B3.out b7)
              have A7 := Lib.hid (ox.later hal7)
              have LX := Lib.hid lx
              clear p0 p1 p2 p3 p4 p5 p6 p7 p8
              clear ox lx hal7 b6 b7
              have v0 := X7.cellAt 0 (by simp)
              have v1 := X7.cellAt 1 (by simp)
              have v2 := X7.cellAt 2 (by simp)
              have v3 := X7.cellAt 3 (by simp)
              have v4 := X7.cellAt 4 (by simp)
              have v5 := X7.cellAt 5 (by simp)
              have v6 := X7.cellAt 6 (by simp)
              have v7 := X7.cellAt 7 (by simp)
              have v8 := X7.cellAt 8 (by simp)
              simp only [List.set_cons_zero, List.set_cons_succ, List.getElem_cons_zero, List.getElem_cons_succ] at v0 v1 v2 v3 v4 v5 v6 v7 v8
              clear X7
              cases b
              · skip
                go_wp2_with (first | (refine wpList_store_blk rfl 34 (.tmp 6) (.tmp 101) rfl (w2.heap.size) 34 [.int .i64 high, .slice YB yn yd, .int .i64 y0, .int .i64 y1, .int .i64 y2, .slice BB bn bd, .slice PB pn pd, .slice HB hn hd, .slice LB ln ld] [.int .i64 high', .slice XB yn xd, .int .i64 u0, .int .i64 u1, .int .i64 u2, .slice EB bn ed, .slice QB qn qd, .slice GB gn gd, .slice JB jn jd] ?_ ?_ ?_ ?_ ?_ ?_ ?_; rfl; rfl; exact O7.out; rfl; kernel_rfl; simp [Value.oneCell']; intro wz hz ho; have Pz : Blk wz w.heap.size 34 [.int .i64 high, .slice YA yn yc, .int .i64 y0, .int .i64 y1, .int .i64 y2, .slice BA bn bc, .slice PA pn pc, .slice HA hn hc, .slice LA ln lc] := (ho.block _ P7.out.lt (.inl (by omega))).trans P7.out; have Rz : Blk wz (w.heap.size + 1 + 1) 34 [.int .i64 0, .slice none 0 0, .int .i64 0, .int .i64 0, .int .i64 0, .slice none 0 0, .slice none 0 0, .slice none 0 0, .slice none 0 0] := (ho.block _ R7.out.lt (.inl (by omega))).trans R7.out; have Bz := below_out B7.out ho (by omega); have p0 := Pz.cellAt 0 (by simp); have p1 := Pz.cellAt 1 (by simp); have p2 := Pz.cellAt 2 (by simp); have p3 := Pz.cellAt 3 (by simp); have p4 := Pz.cellAt 4 (by simp); have p5 := Pz.cellAt 5 (by simp); have p6 := Pz.cellAt 6 (by simp); have p7 := Pz.cellAt 7 (by simp); have p8 := Pz.cellAt 8 (by simp); simp only [List.set_cons_zero, List.set_cons_succ, List.getElem_cons_zero, List.getElem_cons_succ] at p0 p1 p2 p3 p4 p5 p6 p7 p8) | (go_at_call 86; (with_reducible refine (specL32Copy high y0 y1 y2 YA BA PA HA LA yn yc bn bc pn pc hn hc ln lc rows bs plan hs ls _ (TT.out.below Bz) hin hp0).mono ?_); rintro e wq ⟨_, rfl, CY, cy, CB, cb, CP, cp, CH, ch, CL, cl, rfl, oq, bq⟩; have Rq := Rz.later bq) | (refine wpList_store_blk rfl 34 (.tmp 4) (.tmp 132) rfl (w.heap.size + 1 + 1) 34 [.int .i64 0, .slice none 0 0, .int .i64 0, .int .i64 0, .int .i64 0, .slice none 0 0, .slice none 0 0, .slice none 0 0, .slice none 0 0] [.int .i64 high, .slice CY yn cy, .int .i64 y0, .int .i64 y1, .int .i64 y2, .slice CB bn cb, .slice CP pn cp, .slice CH hn ch, .slice CL ln cl] ?_ ?_ ?_ ?_ ?_ ?_ ?_; rfl; rfl; exact Rq; rfl; kernel_rfl; simp [Value.oneCell']; intro wzq hzq hoq))
                have z0 := hzq.cellAt 0 (by simp)
                have z1 := hzq.cellAt 1 (by simp)
                have z2 := hzq.cellAt 2 (by simp)
                have z3 := hzq.cellAt 3 (by simp)
                have z4 := hzq.cellAt 4 (by simp)
                have z5 := hzq.cellAt 5 (by simp)
                have z6 := hzq.cellAt 6 (by simp)
                have z7 := hzq.cellAt 7 (by simp)
                have z8 := hzq.cellAt 8 (by simp)
                simp only [List.set_cons_zero, List.set_cons_succ, List.getElem_cons_zero, List.getElem_cons_succ] at z0 z1 z2 z3 z4 z5 z6 z7 z8
                refine bodyPost_ret (v := .tuple #[.agg #[.int .i64 high, .slice CY yn cy, .int .i64 y0, .int .i64 y1, .int .i64 y2, .slice CB bn cb, .slice CP pn cp, .slice CH hn ch, .slice CL ln cl], .bool false]) (by simp [results, Tryz.results53, go_sem, z0, z1, z2, z3, z4, z5, z6, z7, z8]) rfl ?_
                exact do_false rfl (below_out (below_trans Bz bq) hoq (by omega))
              · skip
                go_wp2_with (first | (refine wpList_store_blk rfl 34 (.tmp 6) (.tmp 101) rfl (w2.heap.size) 34 [.int .i64 high, .slice YB yn yd, .int .i64 y0, .int .i64 y1, .int .i64 y2, .slice BB bn bd, .slice PB pn pd, .slice HB hn hd, .slice LB ln ld] [.int .i64 high', .slice XB yn xd, .int .i64 u0, .int .i64 u1, .int .i64 u2, .slice EB bn ed, .slice QB qn qd, .slice GB gn gd, .slice JB jn jd] ?_ ?_ ?_ ?_ ?_ ?_ ?_; rfl; rfl; exact O7.out; rfl; kernel_rfl; simp [Value.oneCell']; intro wz hz ho; have Rz : Blk wz (w.heap.size + 1 + 1) 34 [.int .i64 0, .slice none 0 0, .int .i64 0, .int .i64 0, .int .i64 0, .slice none 0 0, .slice none 0 0, .slice none 0 0, .slice none 0 0] := (ho.block _ R7.out.lt (.inl (by omega))).trans R7.out; have o0 := hz.cellAt 0 (by simp); have o1 := hz.cellAt 1 (by simp); have o2 := hz.cellAt 2 (by simp); have o3 := hz.cellAt 3 (by simp); have o4 := hz.cellAt 4 (by simp); have o5 := hz.cellAt 5 (by simp); have o6 := hz.cellAt 6 (by simp); have o7 := hz.cellAt 7 (by simp); have o8 := hz.cellAt 8 (by simp); simp only [List.set_cons_zero, List.set_cons_succ, List.getElem_cons_zero, List.getElem_cons_succ] at o0 o1 o2 o3 o4 o5 o6 o7 o8) | (refine wpList_store_blk rfl 34 (.tmp 4) (.tmp 133) rfl (w.heap.size + 1 + 1) 34 [.int .i64 0, .slice none 0 0, .int .i64 0, .int .i64 0, .int .i64 0, .slice none 0 0, .slice none 0 0, .slice none 0 0, .slice none 0 0] [.int .i64 high', .slice XB yn xd, .int .i64 u0, .int .i64 u1, .int .i64 u2, .slice EB bn ed, .slice QB qn qd, .slice GB gn gd, .slice JB jn jd] ?_ ?_ ?_ ?_ ?_ ?_ ?_; rfl; rfl; exact Rz; rfl; kernel_rfl; simp [Value.oneCell']; intro wy hy hoy))
                have z0 := hy.cellAt 0 (by simp)
                have z1 := hy.cellAt 1 (by simp)
                have z2 := hy.cellAt 2 (by simp)
                have z3 := hy.cellAt 3 (by simp)
                have z4 := hy.cellAt 4 (by simp)
                have z5 := hy.cellAt 5 (by simp)
                have z6 := hy.cellAt 6 (by simp)
                have z7 := hy.cellAt 7 (by simp)
                have z8 := hy.cellAt 8 (by simp)
                simp only [List.set_cons_zero, List.set_cons_succ, List.getElem_cons_zero, List.getElem_cons_succ] at z0 z1 z2 z3 z4 z5 z6 z7 z8
                refine bodyPost_ret (v := .tuple #[.agg #[.int .i64 high', .slice XB yn xd, .int .i64 u0, .int .i64 u1, .int .i64 u2, .slice EB bn ed, .slice QB qn qd, .slice GB gn gd, .slice JB jn jd], .bool true]) (by simp [results, Tryz.results53, go_sem, z0, z1, z2, z3, z4, z5, z6, z7, z8]) rfl ?_
                exact do_true rfl (TOwn.base (TOwn.out (TOwn.out A7.out ho (by omega)) hoy (by omega)) (by omega)) LX.out (below_out (below_out B7.out ho (by omega)) hoy (by omega))
            · skip
              by_cases k5 : k = 5
              · skip
                subst k5
                go_wp2_with fail
                generalize w2.alloc (.cells #[.int .i64 high, .slice YB yn yd, .int .i64 y0, .int .i64 y1, .int .i64 y2, .slice BB bn bd, .slice PB pn pd, .slice HB hn hd, .slice LB ln ld] 34) = w3 at *
                have lw3' : w2.heap.size < w3.heap.size := lw3
                go_wp2_with fail
                refine (specL32Paper high ⟨y0, y1, y2⟩ YA BA PA HA LA yn yc bn bc pn pc hn hc ln lc rows bs plan hs ls 0 id dst w3 (TT.out.below B3.out) HOK.out hlc ).mono ?_
                rintro e w6 ⟨_, rfl, high', u0, u1, u2, XB, xd, EB, ed, QB, qn, qd, GB, gn, gd, JB, jn, jd, rows', plan', hs', ls', b, rfl, ox, lx, b6⟩
                have hal7 : Below w6.heap.size w6 (w6.alloc (.cells #[.int .i64 high', .slice XB yn xd, .int .i64 u0, .int .i64 u1, .int .i64 u2, .slice EB bn ed, .slice QB qn qd, .slice GB gn gd, .slice JB jn jd] 34)) := (Below.refl _ _).alloc (Nat.le_refl _) _
                have X7 := Blk.new w6 34 [.int .i64 high', .slice XB yn xd, .int .i64 u0, .int .i64 u1, .int .i64 u2, .slice EB bn ed, .slice QB qn qd, .slice GB gn gd, .slice JB jn jd]
                change Blk (w6.alloc (.cells #[.int .i64 high', .slice XB yn xd, .int .i64 u0, .int .i64 u1, .int .i64 u2, .slice EB bn ed, .slice QB qn qd, .slice GB gn gd, .slice JB jn jd] 34)) _ _ _ at X7
                have b7 := below_trans b6 hal7
                have P7 := Lib.hid (P3.out.later b7)
                have R7 := Lib.hid (R3.out.later b7)
                have O7 := Lib.hid (O3.out.later b7)
                have B7 := Lib.hid (below_trans B3.out b7)
                have A7 := Lib.hid (ox.later hal7)
                have LX := Lib.hid lx
                clear p0 p1 p2 p3 p4 p5 p6 p7 p8
                clear ox lx hal7 b6 b7
                have v0 := X7.cellAt 0 (by simp)
                have v1 := X7.cellAt 1 (by simp)
                have v2 := X7.cellAt 2 (by simp)
                have v3 := X7.cellAt 3 (by simp)
                have v4 := X7.cellAt 4 (by simp)
                have v5 := X7.cellAt 5 (by simp)
                have v6 := X7.cellAt 6 (by simp)
                have v7 := X7.cellAt 7 (by simp)
                have v8 := X7.cellAt 8 (by simp)
                simp only [List.set_cons_zero, List.set_cons_succ, List.getElem_cons_zero, List.getElem_cons_succ] at v0 v1 v2 v3 v4 v5 v6 v7 v8
                clear X7
                cases b
                · skip
                  go_wp2_with (first | (refine wpList_store_blk rfl 34 (.tmp 6) (.tmp 114) rfl (w2.heap.size) 34 [.int .i64 high, .slice YB yn yd, .int .i64 y0, .int .i64 y1, .int .i64 y2, .slice BB bn bd, .slice PB pn pd, .slice HB hn hd, .slice LB ln ld] [.int .i64 high', .slice XB yn xd, .int .i64 u0, .int .i64 u1, .int .i64 u2, .slice EB bn ed, .slice QB qn qd, .slice GB gn gd, .slice JB jn jd] ?_ ?_ ?_ ?_ ?_ ?_ ?_; rfl; rfl; exact O7.out; rfl; kernel_rfl; simp [Value.oneCell']; intro wz hz ho; have Pz : Blk wz w.heap.size 34 [.int .i64 high, .slice YA yn yc, .int .i64 y0, .int .i64 y1, .int .i64 y2, .slice BA bn bc, .slice PA pn pc, .slice HA hn hc, .slice LA ln lc] := (ho.block _ P7.out.lt (.inl (by omega))).trans P7.out; have Rz : Blk wz (w.heap.size + 1 + 1) 34 [.int .i64 0, .slice none 0 0, .int .i64 0, .int .i64 0, .int .i64 0, .slice none 0 0, .slice none 0 0, .slice none 0 0, .slice none 0 0] := (ho.block _ R7.out.lt (.inl (by omega))).trans R7.out; have Bz := below_out B7.out ho (by omega); have p0 := Pz.cellAt 0 (by simp); have p1 := Pz.cellAt 1 (by simp); have p2 := Pz.cellAt 2 (by simp); have p3 := Pz.cellAt 3 (by simp); have p4 := Pz.cellAt 4 (by simp); have p5 := Pz.cellAt 5 (by simp); have p6 := Pz.cellAt 6 (by simp); have p7 := Pz.cellAt 7 (by simp); have p8 := Pz.cellAt 8 (by simp); simp only [List.set_cons_zero, List.set_cons_succ, List.getElem_cons_zero, List.getElem_cons_succ] at p0 p1 p2 p3 p4 p5 p6 p7 p8) | (go_at_call 86; (with_reducible refine (specL32Copy high y0 y1 y2 YA BA PA HA LA yn yc bn bc pn pc hn hc ln lc rows bs plan hs ls _ (TT.out.below Bz) hin hp0).mono ?_); rintro e wq ⟨_, rfl, CY, cy, CB, cb, CP, cp, CH, ch, CL, cl, rfl, oq, bq⟩; have Rq := Rz.later bq) | (refine wpList_store_blk rfl 34 (.tmp 4) (.tmp 132) rfl (w.heap.size + 1 + 1) 34 [.int .i64 0, .slice none 0 0, .int .i64 0, .int .i64 0, .int .i64 0, .slice none 0 0, .slice none 0 0, .slice none 0 0, .slice none 0 0] [.int .i64 high, .slice CY yn cy, .int .i64 y0, .int .i64 y1, .int .i64 y2, .slice CB bn cb, .slice CP pn cp, .slice CH hn ch, .slice CL ln cl] ?_ ?_ ?_ ?_ ?_ ?_ ?_; rfl; rfl; exact Rq; rfl; kernel_rfl; simp [Value.oneCell']; intro wzq hzq hoq))
                  have z0 := hzq.cellAt 0 (by simp)
                  have z1 := hzq.cellAt 1 (by simp)
                  have z2 := hzq.cellAt 2 (by simp)
                  have z3 := hzq.cellAt 3 (by simp)
                  have z4 := hzq.cellAt 4 (by simp)
                  have z5 := hzq.cellAt 5 (by simp)
                  have z6 := hzq.cellAt 6 (by simp)
                  have z7 := hzq.cellAt 7 (by simp)
                  have z8 := hzq.cellAt 8 (by simp)
                  simp only [List.set_cons_zero, List.set_cons_succ, List.getElem_cons_zero, List.getElem_cons_succ] at z0 z1 z2 z3 z4 z5 z6 z7 z8
                  refine bodyPost_ret (v := .tuple #[.agg #[.int .i64 high, .slice CY yn cy, .int .i64 y0, .int .i64 y1, .int .i64 y2, .slice CB bn cb, .slice CP pn cp, .slice CH hn ch, .slice CL ln cl], .bool false]) (by simp [results, Tryz.results53, go_sem, z0, z1, z2, z3, z4, z5, z6, z7, z8]) rfl ?_
                  exact do_false rfl (below_out (below_trans Bz bq) hoq (by omega))
                · skip
                  go_wp2_with (first | (refine wpList_store_blk rfl 34 (.tmp 6) (.tmp 114) rfl (w2.heap.size) 34 [.int .i64 high, .slice YB yn yd, .int .i64 y0, .int .i64 y1, .int .i64 y2, .slice BB bn bd, .slice PB pn pd, .slice HB hn hd, .slice LB ln ld] [.int .i64 high', .slice XB yn xd, .int .i64 u0, .int .i64 u1, .int .i64 u2, .slice EB bn ed, .slice QB qn qd, .slice GB gn gd, .slice JB jn jd] ?_ ?_ ?_ ?_ ?_ ?_ ?_; rfl; rfl; exact O7.out; rfl; kernel_rfl; simp [Value.oneCell']; intro wz hz ho; have Rz : Blk wz (w.heap.size + 1 + 1) 34 [.int .i64 0, .slice none 0 0, .int .i64 0, .int .i64 0, .int .i64 0, .slice none 0 0, .slice none 0 0, .slice none 0 0, .slice none 0 0] := (ho.block _ R7.out.lt (.inl (by omega))).trans R7.out; have o0 := hz.cellAt 0 (by simp); have o1 := hz.cellAt 1 (by simp); have o2 := hz.cellAt 2 (by simp); have o3 := hz.cellAt 3 (by simp); have o4 := hz.cellAt 4 (by simp); have o5 := hz.cellAt 5 (by simp); have o6 := hz.cellAt 6 (by simp); have o7 := hz.cellAt 7 (by simp); have o8 := hz.cellAt 8 (by simp); simp only [List.set_cons_zero, List.set_cons_succ, List.getElem_cons_zero, List.getElem_cons_succ] at o0 o1 o2 o3 o4 o5 o6 o7 o8) | (refine wpList_store_blk rfl 34 (.tmp 4) (.tmp 133) rfl (w.heap.size + 1 + 1) 34 [.int .i64 0, .slice none 0 0, .int .i64 0, .int .i64 0, .int .i64 0, .slice none 0 0, .slice none 0 0, .slice none 0 0, .slice none 0 0] [.int .i64 high', .slice XB yn xd, .int .i64 u0, .int .i64 u1, .int .i64 u2, .slice EB bn ed, .slice QB qn qd, .slice GB gn gd, .slice JB jn jd] ?_ ?_ ?_ ?_ ?_ ?_ ?_; rfl; rfl; exact Rz; rfl; kernel_rfl; simp [Value.oneCell']; intro wy hy hoy))
                  have z0 := hy.cellAt 0 (by simp)
                  have z1 := hy.cellAt 1 (by simp)
                  have z2 := hy.cellAt 2 (by simp)
                  have z3 := hy.cellAt 3 (by simp)
                  have z4 := hy.cellAt 4 (by simp)
                  have z5 := hy.cellAt 5 (by simp)
                  have z6 := hy.cellAt 6 (by simp)
                  have z7 := hy.cellAt 7 (by simp)
                  have z8 := hy.cellAt 8 (by simp)
                  simp only [List.set_cons_zero, List.set_cons_succ, List.getElem_cons_zero, List.getElem_cons_succ] at z0 z1 z2 z3 z4 z5 z6 z7 z8
                  refine bodyPost_ret (v := .tuple #[.agg #[.int .i64 high', .slice XB yn xd, .int .i64 u0, .int .i64 u1, .int .i64 u2, .slice EB bn ed, .slice QB qn qd, .slice GB gn gd, .slice JB jn jd], .bool true]) (by simp [results, Tryz.results53, go_sem, z0, z1, z2, z3, z4, z5, z6, z7, z8]) rfl ?_
                  exact do_true rfl (TOwn.base (TOwn.out (TOwn.out A7.out ho (by omega)) hoy (by omega)) (by omega)) LX.out (below_out (below_out B7.out ho (by omega)) hoy (by omega))
              · skip
                by_cases k6 : k = 6
                · skip
                  subst k6
                  go_wp2_with fail
                  generalize w2.alloc (.cells #[.int .i64 high, .slice YB yn yd, .int .i64 y0, .int .i64 y1, .int .i64 y2, .slice BB bn bd, .slice PB pn pd, .slice HB hn hd, .slice LB ln ld] 34) = w3 at *
                  have lw3' : w2.heap.size < w3.heap.size := lw3
                  go_wp2_with fail
                  refine (specL32Paper high ⟨y0, y1, y2⟩ YA BA PA HA LA yn yc bn bc pn pc hn hc ln lc rows bs plan hs ls 1 id dst w3 (TT.out.below B3.out) HOK.out hlc ).mono ?_
                  rintro e w6 ⟨_, rfl, high', u0, u1, u2, XB, xd, EB, ed, QB, qn, qd, GB, gn, gd, JB, jn, jd, rows', plan', hs', ls', b, rfl, ox, lx, b6⟩
                  have hal7 : Below w6.heap.size w6 (w6.alloc (.cells #[.int .i64 high', .slice XB yn xd, .int .i64 u0, .int .i64 u1, .int .i64 u2, .slice EB bn ed, .slice QB qn qd, .slice GB gn gd, .slice JB jn jd] 34)) := (Below.refl _ _).alloc (Nat.le_refl _) _
                  have X7 := Blk.new w6 34 [.int .i64 high', .slice XB yn xd, .int .i64 u0, .int .i64 u1, .int .i64 u2, .slice EB bn ed, .slice QB qn qd, .slice GB gn gd, .slice JB jn jd]
                  change Blk (w6.alloc (.cells #[.int .i64 high', .slice XB yn xd, .int .i64 u0, .int .i64 u1, .int .i64 u2, .slice EB bn ed, .slice QB qn qd, .slice GB gn gd, .slice JB jn jd] 34)) _ _ _ at X7
                  have b7 := below_trans b6 hal7
                  have P7 := Lib.hid (P3.out.later b7)
                  have R7 := Lib.hid (R3.out.later b7)
                  have O7 := Lib.hid (O3.out.later b7)
                  have B7 := Lib.hid (below_trans B3.out b7)
                  have A7 := Lib.hid (ox.later hal7)
                  have LX := Lib.hid lx
                  clear p0 p1 p2 p3 p4 p5 p6 p7 p8
                  clear ox lx hal7 b6 b7
                  have v0 := X7.cellAt 0 (by simp)
                  have v1 := X7.cellAt 1 (by simp)
                  have v2 := X7.cellAt 2 (by simp)
                  have v3 := X7.cellAt 3 (by simp)
                  have v4 := X7.cellAt 4 (by simp)
                  have v5 := X7.cellAt 5 (by simp)
                  have v6 := X7.cellAt 6 (by simp)
                  have v7 := X7.cellAt 7 (by simp)
                  have v8 := X7.cellAt 8 (by simp)
                  simp only [List.set_cons_zero, List.set_cons_succ, List.getElem_cons_zero, List.getElem_cons_succ] at v0 v1 v2 v3 v4 v5 v6 v7 v8
                  clear X7
                  cases b
                  · skip
                    go_wp2_with (first | (refine wpList_store_blk rfl 34 (.tmp 6) (.tmp 127) rfl (w2.heap.size) 34 [.int .i64 high, .slice YB yn yd, .int .i64 y0, .int .i64 y1, .int .i64 y2, .slice BB bn bd, .slice PB pn pd, .slice HB hn hd, .slice LB ln ld] [.int .i64 high', .slice XB yn xd, .int .i64 u0, .int .i64 u1, .int .i64 u2, .slice EB bn ed, .slice QB qn qd, .slice GB gn gd, .slice JB jn jd] ?_ ?_ ?_ ?_ ?_ ?_ ?_; rfl; rfl; exact O7.out; rfl; kernel_rfl; simp [Value.oneCell']; intro wz hz ho; have Pz : Blk wz w.heap.size 34 [.int .i64 high, .slice YA yn yc, .int .i64 y0, .int .i64 y1, .int .i64 y2, .slice BA bn bc, .slice PA pn pc, .slice HA hn hc, .slice LA ln lc] := (ho.block _ P7.out.lt (.inl (by omega))).trans P7.out; have Rz : Blk wz (w.heap.size + 1 + 1) 34 [.int .i64 0, .slice none 0 0, .int .i64 0, .int .i64 0, .int .i64 0, .slice none 0 0, .slice none 0 0, .slice none 0 0, .slice none 0 0] := (ho.block _ R7.out.lt (.inl (by omega))).trans R7.out; have Bz := below_out B7.out ho (by omega); have p0 := Pz.cellAt 0 (by simp); have p1 := Pz.cellAt 1 (by simp); have p2 := Pz.cellAt 2 (by simp); have p3 := Pz.cellAt 3 (by simp); have p4 := Pz.cellAt 4 (by simp); have p5 := Pz.cellAt 5 (by simp); have p6 := Pz.cellAt 6 (by simp); have p7 := Pz.cellAt 7 (by simp); have p8 := Pz.cellAt 8 (by simp); simp only [List.set_cons_zero, List.set_cons_succ, List.getElem_cons_zero, List.getElem_cons_succ] at p0 p1 p2 p3 p4 p5 p6 p7 p8) | (go_at_call 86; (with_reducible refine (specL32Copy high y0 y1 y2 YA BA PA HA LA yn yc bn bc pn pc hn hc ln lc rows bs plan hs ls _ (TT.out.below Bz) hin hp0).mono ?_); rintro e wq ⟨_, rfl, CY, cy, CB, cb, CP, cp, CH, ch, CL, cl, rfl, oq, bq⟩; have Rq := Rz.later bq) | (refine wpList_store_blk rfl 34 (.tmp 4) (.tmp 132) rfl (w.heap.size + 1 + 1) 34 [.int .i64 0, .slice none 0 0, .int .i64 0, .int .i64 0, .int .i64 0, .slice none 0 0, .slice none 0 0, .slice none 0 0, .slice none 0 0] [.int .i64 high, .slice CY yn cy, .int .i64 y0, .int .i64 y1, .int .i64 y2, .slice CB bn cb, .slice CP pn cp, .slice CH hn ch, .slice CL ln cl] ?_ ?_ ?_ ?_ ?_ ?_ ?_; rfl; rfl; exact Rq; rfl; kernel_rfl; simp [Value.oneCell']; intro wzq hzq hoq))
                    have z0 := hzq.cellAt 0 (by simp)
                    have z1 := hzq.cellAt 1 (by simp)
                    have z2 := hzq.cellAt 2 (by simp)
                    have z3 := hzq.cellAt 3 (by simp)
                    have z4 := hzq.cellAt 4 (by simp)
                    have z5 := hzq.cellAt 5 (by simp)
                    have z6 := hzq.cellAt 6 (by simp)
                    have z7 := hzq.cellAt 7 (by simp)
                    have z8 := hzq.cellAt 8 (by simp)
                    simp only [List.set_cons_zero, List.set_cons_succ, List.getElem_cons_zero, List.getElem_cons_succ] at z0 z1 z2 z3 z4 z5 z6 z7 z8
                    refine bodyPost_ret (v := .tuple #[.agg #[.int .i64 high, .slice CY yn cy, .int .i64 y0, .int .i64 y1, .int .i64 y2, .slice CB bn cb, .slice CP pn cp, .slice CH hn ch, .slice CL ln cl], .bool false]) (by simp [results, Tryz.results53, go_sem, z0, z1, z2, z3, z4, z5, z6, z7, z8]) rfl ?_
                    exact do_false rfl (below_out (below_trans Bz bq) hoq (by omega))
                  · skip
                    go_wp2_with (first | (refine wpList_store_blk rfl 34 (.tmp 6) (.tmp 127) rfl (w2.heap.size) 34 [.int .i64 high, .slice YB yn yd, .int .i64 y0, .int .i64 y1, .int .i64 y2, .slice BB bn bd, .slice PB pn pd, .slice HB hn hd, .slice LB ln ld] [.int .i64 high', .slice XB yn xd, .int .i64 u0, .int .i64 u1, .int .i64 u2, .slice EB bn ed, .slice QB qn qd, .slice GB gn gd, .slice JB jn jd] ?_ ?_ ?_ ?_ ?_ ?_ ?_; rfl; rfl; exact O7.out; rfl; kernel_rfl; simp [Value.oneCell']; intro wz hz ho; have Rz : Blk wz (w.heap.size + 1 + 1) 34 [.int .i64 0, .slice none 0 0, .int .i64 0, .int .i64 0, .int .i64 0, .slice none 0 0, .slice none 0 0, .slice none 0 0, .slice none 0 0] := (ho.block _ R7.out.lt (.inl (by omega))).trans R7.out; have o0 := hz.cellAt 0 (by simp); have o1 := hz.cellAt 1 (by simp); have o2 := hz.cellAt 2 (by simp); have o3 := hz.cellAt 3 (by simp); have o4 := hz.cellAt 4 (by simp); have o5 := hz.cellAt 5 (by simp); have o6 := hz.cellAt 6 (by simp); have o7 := hz.cellAt 7 (by simp); have o8 := hz.cellAt 8 (by simp); simp only [List.set_cons_zero, List.set_cons_succ, List.getElem_cons_zero, List.getElem_cons_succ] at o0 o1 o2 o3 o4 o5 o6 o7 o8) | (refine wpList_store_blk rfl 34 (.tmp 4) (.tmp 133) rfl (w.heap.size + 1 + 1) 34 [.int .i64 0, .slice none 0 0, .int .i64 0, .int .i64 0, .int .i64 0, .slice none 0 0, .slice none 0 0, .slice none 0 0, .slice none 0 0] [.int .i64 high', .slice XB yn xd, .int .i64 u0, .int .i64 u1, .int .i64 u2, .slice EB bn ed, .slice QB qn qd, .slice GB gn gd, .slice JB jn jd] ?_ ?_ ?_ ?_ ?_ ?_ ?_; rfl; rfl; exact Rz; rfl; kernel_rfl; simp [Value.oneCell']; intro wy hy hoy))
                    have z0 := hy.cellAt 0 (by simp)
                    have z1 := hy.cellAt 1 (by simp)
                    have z2 := hy.cellAt 2 (by simp)
                    have z3 := hy.cellAt 3 (by simp)
                    have z4 := hy.cellAt 4 (by simp)
                    have z5 := hy.cellAt 5 (by simp)
                    have z6 := hy.cellAt 6 (by simp)
                    have z7 := hy.cellAt 7 (by simp)
                    have z8 := hy.cellAt 8 (by simp)
                    simp only [List.set_cons_zero, List.set_cons_succ, List.getElem_cons_zero, List.getElem_cons_succ] at z0 z1 z2 z3 z4 z5 z6 z7 z8
                    refine bodyPost_ret (v := .tuple #[.agg #[.int .i64 high', .slice XB yn xd, .int .i64 u0, .int .i64 u1, .int .i64 u2, .slice EB bn ed, .slice QB qn qd, .slice GB gn gd, .slice JB jn jd], .bool true]) (by simp [results, Tryz.results53, go_sem, z0, z1, z2, z3, z4, z5, z6, z7, z8]) rfl ?_
                    exact do_true rfl (TOwn.base (TOwn.out (TOwn.out A7.out ho (by omega)) hoy (by omega)) (by omega)) LX.out (below_out (below_out B7.out ho (by omega)) hoy (by omega))
                · skip
                  have kb0 : (k == 0) = false := by simpa using k0
                  have kb1 : (k == 1) = false := by simpa using k1
                  have kb2 : (k == 2) = false := by simpa using k2
                  have kb3 : (k == 3) = false := by simpa using k3
                  have kb4 : (k == 4) = false := by simpa using k4
                  have kb5 : (k == 5) = false := by simpa using k5
                  have kb6 : (k == 6) = false := by simpa using k6
                  go_wp2_with (first | (go_at_call 86; (with_reducible refine (specL32Copy high y0 y1 y2 YA BA PA HA LA yn yc bn bc pn pc hn hc ln lc rows bs plan hs ls _ (TT.out.below B3.out) hin hp0).mono ?_); rintro e wq ⟨_, rfl, CY, cy, CB, cb, CP, cp, CH, ch, CL, cl, rfl, oq, bq⟩; have Rq := R3.out.later bq) | (refine wpList_store_blk rfl 34 (.tmp 4) (.tmp 132) rfl (w.heap.size + 1 + 1) 34 [.int .i64 0, .slice none 0 0, .int .i64 0, .int .i64 0, .int .i64 0, .slice none 0 0, .slice none 0 0, .slice none 0 0, .slice none 0 0] [.int .i64 high, .slice CY yn cy, .int .i64 y0, .int .i64 y1, .int .i64 y2, .slice CB bn cb, .slice CP pn cp, .slice CH hn ch, .slice CL ln cl] ?_ ?_ ?_ ?_ ?_ ?_ ?_; rfl; rfl; exact Rq; rfl; kernel_rfl; simp [Value.oneCell']; intro wzq hzq hoq))
                  have z0 := hzq.cellAt 0 (by simp)
                  have z1 := hzq.cellAt 1 (by simp)
                  have z2 := hzq.cellAt 2 (by simp)
                  have z3 := hzq.cellAt 3 (by simp)
                  have z4 := hzq.cellAt 4 (by simp)
                  have z5 := hzq.cellAt 5 (by simp)
                  have z6 := hzq.cellAt 6 (by simp)
                  have z7 := hzq.cellAt 7 (by simp)
                  have z8 := hzq.cellAt 8 (by simp)
                  simp only [List.set_cons_zero, List.set_cons_succ, List.getElem_cons_zero, List.getElem_cons_succ] at z0 z1 z2 z3 z4 z5 z6 z7 z8
                  refine bodyPost_ret (v := .tuple #[.agg #[.int .i64 high, .slice CY yn cy, .int .i64 y0, .int .i64 y1, .int .i64 y2, .slice CB bn cb, .slice CP pn cp, .slice CH hn ch, .slice CL ln cl], .bool false]) (by simp [results, Tryz.results53, go_sem, z0, z1, z2, z3, z4, z5, z6, z7, z8]) rfl ?_
                  exact do_false rfl (below_out (below_trans B3.out bq) hoq (by omega))
end Go.Proofs.YtbkfhcbecejomaaGreat
