/- Several texts of the proof in one; each says at its head what it proves; no condition. -/
import Derived.Test.YtbkfhcbecejomaaGreatMg14
import Derived.Test.YtbkfhcbecejomaaGreatMg19
import Derived.Deep.RegionLaw
section
/- A terminal in the making: what is known of it. Printed by gen_drawterm.py. -/
namespace Go.Proofs.YtbkfhcbecejomaaGreat
open Go Go.ChangeShapes Go.WideShapes Go.ChangeAt Go.RowKit
set_option linter.unusedVariables false
/-- the terminal's struct lies in block tb, the result's in the call's first block -/
structure TmA (w : World) (g tb q : Nat) (high y0 y1 y2 : Int) (YB : Option Addr) (yn yd : Nat) (BB : Option Addr) (bn bd : Nat) (PB : Option Addr) (pn pd : Nat) (HB : Option Addr) (hn hd : Nat) (LB : Option Addr) (ln ld : Nat) (rows : List (List Int)) (bs : List BoxV) (plan : List Int) (hs : List HoldV) (ls : List Int) (W : World) : Prop where
  rb : Blk W w.heap.size 34 [.int .i64 0, .slice none 0 0, .int .i64 0, .int .i64 0, .int .i64 0, .slice none 0 0, .slice none 0 0, .slice none 0 0, .slice none 0 0]
  tbk : Blk W tb 34 [.int .i64 high, .slice YB yn yd, .int .i64 y0, .int .i64 y1, .int .i64 y2, .slice BB bn bd, .slice PB pn pd, .slice HB hn hd, .slice LB ln ld]
  ti : TI W w.heap.size YB yn yd BB bn bd PB pn pd HB hn hd LB ln ld rows bs plan hs ls
  rd : Rdr W g q
  gr : w.grownBy W (some g)
/-- the same, the rows may be read -/
structure TmE (w : World) (g tb q : Nat) (high y0 y1 y2 : Int) (YB : Option Addr) (yn yd : Nat) (BB : Option Addr) (bn bd : Nat) (PB : Option Addr) (pn pd : Nat) (HB : Option Addr) (hn hd : Nat) (LB : Option Addr) (ln ld : Nat) (rows : List (List Int)) (bs : List BoxV) (plan : List Int) (hs : List HoldV) (ls : List Int) (W : World) : Prop where
  rb : Blk W w.heap.size 34 [.int .i64 0, .slice none 0 0, .int .i64 0, .int .i64 0, .int .i64 0, .slice none 0 0, .slice none 0 0, .slice none 0 0, .slice none 0 0]
  tbk : Blk W tb 34 [.int .i64 high, .slice YB yn yd, .int .i64 y0, .int .i64 y1, .int .i64 y2, .slice BB bn bd, .slice PB pn pd, .slice HB hn hd, .slice LB ln ld]
  te : TE W YB yn yd BB bn bd PB pn pd HB hn hd LB ln ld rows bs plan hs ls
  rd : Rdr W g q
  gr : w.grownBy W (some g)
theorem out_grown {W W' : World} {b : Nat} (ho : Out b (b + 1) W W') : W.grownBy W' (some b) :=
  ⟨ho.os, ho.tape, ho.output, ho.size, fun k hk hn => ho.block k hk (by have : k ≠ b := fun e => hn (by rw [e]); omega)⟩
theorem Rdr.blk {W : World} {g q : Nat} (h : Rdr W g q) : ∃ cs, Blk W g 84 cs := by
  obtain ⟨_, _, _, _, hb, _⟩ := h
  exact ⟨_, hb⟩
section
variable {w W W' : World} {g tb q q' : Nat} {high y0 y1 y2 : Int} {YB : Option Addr} {yn yd : Nat} {BB : Option Addr} {bn bd : Nat} {PB : Option Addr} {pn pd : Nat} {HB : Option Addr} {hn hd : Nat} {LB : Option Addr} {ln ld : Nat} {rows : List (List Int)} {bs : List BoxV} {plan : List Int} {hs : List HoldV} {ls : List Int}
theorem TmA.pick (h : TmA w g tb q high y0 y1 y2 YB yn yd BB bn bd PB pn pd HB hn hd LB ln ld rows bs plan hs ls W) (h1 : g < w.heap.size) (h2 : w.heap.size < tb) (hr : Rdr W' g q') (hg : W.grownBy W' (some g)) : TmA w g tb q' high y0 y1 y2 YB yn yd BB bn bd PB pn pd HB hn hd LB ln ld rows bs plan hs ls W' := by
  obtain ⟨cs, hb⟩ := h.rd.blk
  exact ⟨h.rb.only hg (by omega), h.tbk.only hg (by omega), h.ti.far hb (by decide) hg, hr, only_trans h.gr hg⟩
theorem TmA.below (h : TmA w g tb q high y0 y1 y2 YB yn yd BB bn bd PB pn pd HB hn hd LB ln ld rows bs plan hs ls W) (hb : Below W.heap.size W W') : TmA w g tb q high y0 y1 y2 YB yn yd BB bn bd PB pn pd HB hn hd LB ln ld rows bs plan hs ls W' :=
  ⟨h.rb.later hb, h.tbk.later hb, h.ti.later hb, h.rd.kept hb, only_trans h.gr (only_below hb g)⟩
theorem TmA.drew (h : TmA w g tb q high y0 y1 y2 YB yn yd BB bn bd PB pn pd HB hn hd LB ln ld rows bs plan hs ls W) : TmA w g tb q high y0 y1 y2 YB yn yd BB bn bd PB pn pd HB hn hd LB ln ld rows bs plan hs ls W.drew := h.below (Below.drew (Below.refl _ _))
theorem TmA.setX {xb : Nat} {cs : List Value} (h : TmA w g tb q high y0 y1 y2 YB yn yd BB bn bd PB pn pd HB hn hd LB ln ld rows bs plan hs ls W) (h1 : g < w.heap.size) (hx : Blk W xb 34 cs) (hxb : w.heap.size < xb) (hne : xb ≠ tb) (ho : Out xb (xb + 1) W W') : TmA w g tb q high y0 y1 y2 YB yn yd BB bn bd PB pn pd HB hn hd LB ln ld rows bs plan hs ls W' := by
  have hg := out_grown ho
  exact ⟨h.rb.only hg (by omega), h.tbk.only hg (Ne.symm hne), h.ti.far hx (by decide) hg, h.rd.away hg (fun b e => by injection e with e; omega), only_own h.gr hg (fun b e => by injection e with e; omega)⟩
theorem TmA.trd (h : TmA w g tb q high y0 y1 y2 YB yn yd BB bn bd PB pn pd HB hn hd LB ln ld rows bs plan hs ls W) (l : TLow yn bn pn hn ln rows bs plan hs ls) (W' : World) (hg : W.grownBy W' (some g)) : TrmRd W' YB BB PB HB LB yn bn bd pn pd hn ln rows bs plan hs ls := by
  obtain ⟨cs, hb⟩ := h.rd.blk
  exact (h.ti.far hb (by decide) hg).te.rd l
theorem TmA.rdT (h : TmA w g tb q high y0 y1 y2 YB yn yd BB bn bd PB pn pd HB hn hd LB ln ld rows bs plan hs ls W) (l : TLow yn bn pn hn ln rows bs plan hs ls) : TrmRd W YB BB PB HB LB yn bn bd pn pd hn ln rows bs plan hs ls := h.ti.te.rd l
theorem TmA.setT {high' u0 u1 u2 : Int} {XB : Option Addr} {xn xd : Nat} {EB : Option Addr} {en ed : Nat} {QB : Option Addr} {qn qd : Nat} {GB : Option Addr} {gn gd : Nat} {JB : Option Addr} {jn jd : Nat} {rows' : List (List Int)} {bs' : List BoxV} {plan' : List Int} {hs' : List HoldV} {ls' : List Int} (h : TmA w g tb q high y0 y1 y2 YB yn yd BB bn bd PB pn pd HB hn hd LB ln ld rows bs plan hs ls W) (h1 : g < w.heap.size) (h2 : w.heap.size < tb) (ti' : TI W w.heap.size XB xn xd EB en ed QB qn qd GB gn gd JB jn jd rows' bs' plan' hs' ls') (hz : Blk W' tb 34 [.int .i64 high', .slice XB xn xd, .int .i64 u0, .int .i64 u1, .int .i64 u2, .slice EB en ed, .slice QB qn qd, .slice GB gn gd, .slice JB jn jd]) (ho : Out tb (tb + 1) W W') : TmA w g tb q high' u0 u1 u2 XB xn xd EB en ed QB qn qd GB gn gd JB jn jd rows' bs' plan' hs' ls' W' := by
  have hg := out_grown ho
  exact ⟨h.rb.only hg (by omega), hz, ti'.far h.tbk (by decide) hg, h.rd.away hg (fun b e => by injection e with e; omega), only_own h.gr hg (fun b e => by injection e with e; omega)⟩
theorem TmA.box0 {bb oo k : Nat} (h : TmA w g tb q high y0 y1 y2 YB yn yd (some ⟨bb, oo, none⟩) bn bd PB pn pd HB hn hd LB ln ld rows bs plan hs ls W) (l : TLow yn bn pn hn ln rows bs plan hs ls) (hk : k < bn) : ∃ z : Int, W.cell? ⟨bb, oo + k * 5, none⟩ = some (.int .i64 z) := by
  have hkz : k < bs.length := by rw [l.bl]; exact hk
  obtain ⟨b, o, e, hl, c0, _⟩ := (h.rdT l).br.boxAt hkz
  injection e with e
  injection e with e1 e2
  subst e1 e2
  exact ⟨_, c0⟩
theorem TmA.tme (h : TmA w g tb q high y0 y1 y2 YB yn yd BB bn bd PB pn pd HB hn hd LB ln ld rows bs plan hs ls W) : TmE w g tb q high y0 y1 y2 YB yn yd BB bn bd PB pn pd HB hn hd LB ln ld rows bs plan hs ls W := ⟨h.rb, h.tbk, h.ti.te, h.rd, h.gr⟩
theorem TmA.cap (h : TmA w g tb q high y0 y1 y2 YB yn yd BB bn bd PB pn pd HB hn hd LB ln ld rows bs plan hs ls W) : ln ≤ ld := h.ti.te.cap
end
/-- what a deed gave -/
def DoR (s yn bn : Nat) (bs : List BoxV) (W : World) (u : Value) (b : Bool) : Prop :=
  ∃ (high y0 y1 y2 : Int) (YB : Option Addr) (ya yd : Nat) (BB : Option Addr) (ba bd : Nat) (PB : Option Addr) (pn pd : Nat) (HB : Option Addr) (hn hd : Nat) (LB : Option Addr) (ln ld : Nat),
    u = .agg #[.int .i64 high, .slice YB ya yd, .int .i64 y0, .int .i64 y1, .int .i64 y2, .slice BB ba bd, .slice PB pn pd, .slice HB hn hd, .slice LB ln ld] ∧ (b = true → ∃ rows plan hs ls, TI W s YB ya yd BB ba bd PB pn pd HB hn hd LB ln ld rows bs plan hs ls ∧ TLow ya ba pn hn ln rows bs plan hs ls ∧ ya = yn ∧ ba = bn)
theorem DoR.below {s yn bn : Nat} {bs : List BoxV} {W W' : World} {u : Value} {b : Bool} (h : DoR s yn bn bs W u b) (hb : Below W.heap.size W W') : DoR s yn bn bs W' u b := by
  obtain ⟨high, y0, y1, y2, YB, ya, yd, BB, ba, bd, PB, pn, pd, HB, hn, hd, LB, ln, ld, e, hr⟩ := h
  refine ⟨high, y0, y1, y2, YB, ya, yd, BB, ba, bd, PB, pn, pd, HB, hn, hd, LB, ln, ld, e, fun ht => ?_⟩
  obtain ⟨rows, plan, hs, ls, h1, h2⟩ := hr ht
  exact ⟨rows, plan, hs, ls, h1.later hb, h2⟩
theorem DoR.far {s yn bn q : Nat} {t : TypeId} {cs : List Value} {bs : List BoxV} {W W' : World} {u : Value} {b : Bool} (h : DoR s yn bn bs W u b) (hq : Blk W q t cs) (ht : rowT t = false) (hg : W.grownBy W' (some q)) : DoR s yn bn bs W' u b := by
  obtain ⟨high, y0, y1, y2, YB, ya, yd, BB, ba, bd, PB, pn, pd, HB, hn, hd, LB, ln, ld, e, hr⟩ := h
  refine ⟨high, y0, y1, y2, YB, ya, yd, BB, ba, bd, PB, pn, pd, HB, hn, hd, LB, ln, ld, e, fun hb => ?_⟩
  obtain ⟨rows, plan, hs, ls, h1, h2⟩ := hr hb
  exact ⟨rows, plan, hs, ls, h1.far hq ht hg, h2⟩
theorem DoR.of {W W' : World} {s yn bn : Nat} {bs : List BoxV} {e : Ending} (h : DoPost W yn bn bs e W') (hs : s ≤ W.heap.size) : ∃ u b, e = .returned (.tuple #[u, .bool b]) ∧ DoR s yn bn bs W' u b ∧ Below W.heap.size W W' := by
  obtain ⟨v, rfl, high, y0, y1, y2, YB, ya, yd, BB, ba, bd, PB, pn, pd, HB, hn, hd, LB, ln, ld, b, rfl, hr, hb⟩ := h
  refine ⟨_, b, rfl, ⟨high, y0, y1, y2, YB, ya, yd, BB, ba, bd, PB, pn, pd, HB, hn, hd, LB, ln, ld, rfl, fun ht => ?_⟩, hb⟩
  obtain ⟨rows, plan, hs', ls, h1, h2⟩ := hr ht
  exact ⟨rows, plan, hs', ls, h1.ti.base hs, h2⟩
/-- sizes -/
structure TBnd (yn bn pn hn ln : Nat) (rows : List (List Int)) (bs : List BoxV) (plan : List Int) (hs : List HoldV) (ls : List Int) : Prop where
  yl : rows.length = yn
  ym : yn ≤ 1000
  bl : bs.length = bn
  bm : bn ≤ 1000
  pl : plan.length = pn
  pm : pn ≤ 1000
  hl : hs.length = hn
  hm : hn ≤ 1000
  ll : ls.length = ln
  lm : ln ≤ 1000
/-- a terminal that was drawn; the reader has gone on -/
def TrmDrawn (w : World) (g q N : Nat) : Ending → World → Prop :=
  RVal fun u w' => ∃ (high y0 y1 y2 : Int) (YB : Option Addr) (yn yd : Nat) (BB : Option Addr) (bn bd : Nat) (PB : Option Addr) (pn pd : Nat) (HB : Option Addr) (hn hd : Nat) (LB : Option Addr) (ln ld : Nat) (rows : List (List Int)) (bs : List BoxV) (plan : List Int) (hs : List HoldV) (ls : List Int), u = .agg #[.int .i64 high, .slice YB yn yd, .int .i64 y0, .int .i64 y1, .int .i64 y2, .slice BB bn bd, .slice PB pn pd, .slice HB hn hd, .slice LB ln ld] ∧ TE w' YB yn yd BB bn bd PB pn pd HB hn hd LB ln ld rows bs plan hs ls ∧ TBnd yn bn pn hn ln rows bs plan hs ls ∧ (∃ q', q' ≤ q + N ∧ Rdr w' g q') ∧ w.grownBy w' (some g)
section
variable {w W W' : World} {g tb q q' : Nat} {high y0 y1 y2 : Int} {YB : Option Addr} {yn yd : Nat} {BB : Option Addr} {bn bd : Nat} {PB : Option Addr} {pn pd : Nat} {HB : Option Addr} {hn hd : Nat} {LB : Option Addr} {ln ld : Nat} {rows : List (List Int)} {bs : List BoxV} {plan : List Int} {hs : List HoldV} {ls : List Int}
theorem TLow.bnd (l : TLow yn bn pn hn ln rows bs plan hs ls) : TBnd yn bn pn hn ln rows bs plan hs ls :=
  ⟨l.yl, by have := l.ym; omega, l.bl, by have := l.bm; omega, l.pl, by have := l.pm; omega, l.hl, by have := l.hm; omega, l.ll, by have := l.lm; omega⟩
theorem TE.rdB (h : TE W YB yn yd BB bn bd PB pn pd HB hn hd LB ln ld rows bs plan hs ls) (l : TBnd yn bn pn hn ln rows bs plan hs ls) : TrmRd W YB BB PB HB LB yn bn bd pn pd hn ln rows bs plan hs ls := by
  obtain ⟨o1, o2, o3, o4, o5⟩ := h
  have c2 : bn ≤ bd := by
    rcases o2 with rfl | o2
    · have := l.bl
      simp at this
      omega
    · exact (slice_cap o2).1
  have r2 : RdV W BB (boxs bs) := by
    rcases o2 with rfl | o2
    · exact .inl rfl
    · exact own_rd o2
  have c3 := slice_cap o3
  refine ⟨l.yl, o1.rd, by have := l.ym; omega, l.bl, r2, by have := l.bm; omega, c2, l.pl, own_rd o3, by have := l.pm; omega, c3.1, by have := c3.2; unfold maxLen at this; omega, l.hl, own_rd o4, by have := l.hm; omega, l.ll, own_rd o5, by have := l.lm; omega⟩
theorem TmE.fin {N q0 : Nat} (h : TmE w g tb q high y0 y1 y2 YB yn yd BB bn bd PB pn pd HB hn hd LB ln ld rows bs plan hs ls W) (l : TBnd yn bn pn hn ln rows bs plan hs ls) (h1 : g < w.heap.size) (hq : q ≤ q0 + N) (ho : Out w.heap.size (w.heap.size + 1) W W') : TrmDrawn w g q0 N (.returned (.agg #[.int .i64 high, .slice YB yn yd, .int .i64 y0, .int .i64 y1, .int .i64 y2, .slice BB bn bd, .slice PB pn pd, .slice HB hn hd, .slice LB ln ld])) W' := by
  have hg := out_grown ho
  have hr : Rdr W' g q := h.rd.away hg (fun b e => by injection e with e; omega)
  exact RVal.mk ⟨high, y0, y1, y2, YB, yn, yd, BB, bn, bd, PB, pn, pd, HB, hn, hd, LB, ln, ld, rows, bs, plan, hs, ls, rfl, h.te.far h.rb (by decide) hg, l, ⟨q, hq, hr⟩, only_own h.gr hg (fun b e => by injection e with e; omega)⟩
/-- the first stack was replaced -/
theorem TmA.end0 {yb : Nat} {u : Value} (h : TmA w g tb q high y0 y1 y2 (some ⟨yb, 0, none⟩) yn yd BB bn bd PB pn pd HB hn hd LB ln ld rows bs plan hs ls W) (h1 : g < w.heap.size) (hyb : w.heap.size ≤ yb) (z : Int) (hte : TE ((W.alloc (.cells (ints [z]).toArray 3)).setCell ⟨yb, 0, none⟩ u) (some ⟨yb, 0, none⟩) yn yd BB bn bd PB pn pd HB hn hd LB ln ld (rows.set 0 [z]) bs plan hs ls) (hne : ∀ q t cs, Blk W q t cs → 29 ≠ t → q ≠ yb) :
    TmE w g tb q high y0 y1 y2 (some ⟨yb, 0, none⟩) yn yd BB bn bd PB pn pd HB hn hd LB ln ld (rows.set 0 [z]) bs plan hs ls ((W.alloc (.cells (ints [z]).toArray 3)).setCell ⟨yb, 0, none⟩ u) := by
  have hal : Below W.heap.size W (W.alloc (.cells (ints [z]).toArray 3)) := (Below.refl _ _).alloc (Nat.le_refl _) _
  refine ⟨(h.rb.later hal).far (hne _ _ _ h.rb (by decide)) _, (h.tbk.later hal).far (hne _ _ _ h.tbk (by decide)) _, hte, (h.rd.kept hal).setT yb 0 _ (by omega), onlyT_set (only_trans h.gr (only_below hal g)) hyb⟩
/-- the first box stands alone in the yard and has left -/
theorem TmA.end3 (h : TmA w g tb q high y0 y1 y2 YB yn yd BB bn bd PB pn pd HB hn hd LB ln ld rows bs plan hs ls W) (h1 : g < w.heap.size) (h2 : w.heap.size < tb) (id id2 : Int) :
    TmE w g tb q high y0 y1 y2 (some ⟨W.heap.size + 1, 0, none⟩) 1 1 BB bn bd PB pn pd HB hn hd (some ⟨W.heap.size + 2, 0, none⟩) 1 1 [[id]] bs plan hs [id2] (((((W.alloc (.cells #[.int .i64 id] 3)).alloc (.cells #[.slice (some ⟨W.heap.size, 0, none⟩) 1 1] 29)).setCell ⟨tb, 1, none⟩ (.slice (some ⟨W.heap.size + 1, 0, none⟩) 1 1)).alloc (.cells #[.int .i64 id2] 3)).setCell ⟨tb, 8, none⟩ (.slice (some ⟨W.heap.size + 2, 0, none⟩) 1 1)) := by
  have ht := h.tbk.lt
  have hw := h.rb.lt
  have hal : Below W.heap.size W ((W.alloc (.cells #[.int .i64 id] 3)).alloc (.cells #[.slice (some ⟨W.heap.size, 0, none⟩) 1 1] 29)) := ((Below.refl _ _).alloc (Nat.le_refl _) _).alloc (by simp) _
  have n0 : Blk ((W.alloc (.cells #[.int .i64 id] 3)).alloc (.cells #[.slice (some ⟨W.heap.size, 0, none⟩) 1 1] 29)) W.heap.size 3 [.int .i64 id] := (Blk.new W 3 [.int .i64 id]).alloc _
  have n1 : Blk ((W.alloc (.cells #[.int .i64 id] 3)).alloc (.cells #[.slice (some ⟨W.heap.size, 0, none⟩) 1 1] 29)) (W.heap.size + 1) 29 [.slice (some ⟨W.heap.size, 0, none⟩) 1 1] := by
    have := Blk.new (W.alloc (.cells #[.int .i64 id] 3)) 29 [.slice (some ⟨W.heap.size, 0, none⟩) 1 1]
    simp only [World.size_alloc] at this
    exact this
  have hs2 : ((W.alloc (.cells #[.int .i64 id] 3)).alloc (.cells #[.slice (some ⟨W.heap.size, 0, none⟩) 1 1] 29)).heap.size = W.heap.size + 2 := by simp
  have T2 := h.tbk.later hal
  have R2 := h.rb.later hal
  have D2 := h.rd.kept hal
  have G2 := only_trans h.gr (only_below hal g)
  obtain ⟨_, o2, o3, o4, _⟩ := (h.ti.later hal).te
  clear h hal
  generalize (W.alloc (.cells #[.int .i64 id] 3)).alloc (.cells #[.slice (some ⟨W.heap.size, 0, none⟩) 1 1] 29) = a2 at *
  generalize W.heap.size = z at *
  have hs3 : (a2.setCell ⟨tb, 1, none⟩ (.slice (some ⟨z + 1, 0, none⟩) 1 1)).heap.size = z + 2 := by rw [← hs2]; simp [World.setCell]
  have n0' : Blk (a2.setCell ⟨tb, 1, none⟩ (.slice (some ⟨z + 1, 0, none⟩) 1 1)) z _ _ := n0.far (by show z ≠ tb; omega) _
  have n1' : Blk (a2.setCell ⟨tb, 1, none⟩ (.slice (some ⟨z + 1, 0, none⟩) 1 1)) (z + 1) _ _ := n1.far (by show z + 1 ≠ tb; omega) _
  have T3 := T2.set_ 1 (.slice (some ⟨z + 1, 0, none⟩) 1 1)
  have R3 : Blk (a2.setCell ⟨tb, 1, none⟩ (.slice (some ⟨z + 1, 0, none⟩) 1 1)) w.heap.size _ _ := R2.far (by show w.heap.size ≠ tb; omega) _
  have D3 := D2.setT tb 1 (.slice (some ⟨z + 1, 0, none⟩) 1 1) (by omega)
  have G3 := onlyT_set (i := 1) (v := .slice (some ⟨z + 1, 0, none⟩) 1 1) G2 (show w.heap.size ≤ tb by omega)
  have p2 := o2.imp (fun e => e) (fun o2 => own_setAt (i := 1) (u := .slice (some ⟨z + 1, 0, none⟩) 1 1) o2 T2 (by decide))
  have p3 := own_setAt (i := 1) (u := .slice (some ⟨z + 1, 0, none⟩) 1 1) o3 T2 (by decide)
  have p4 := own_setAt (i := 1) (u := .slice (some ⟨z + 1, 0, none⟩) 1 1) o4 T2 (by decide)
  clear n0 n1 T2 R2 D2 G2 o2 o3 o4 hs2
  simp only [List.set_cons_zero, List.set_cons_succ] at T3
  generalize a2.setCell ⟨tb, 1, none⟩ (.slice (some ⟨z + 1, 0, none⟩) 1 1) = a3 at *
  have hal : Below a3.heap.size a3 (a3.alloc (.cells #[.int .i64 id2] 3)) := (Below.refl _ _).alloc (Nat.le_refl _) _
  have n2 : Blk (a3.alloc (.cells #[.int .i64 id2] 3)) (z + 2) 3 [.int .i64 id2] := by
    have := Blk.new a3 3 [.int .i64 id2]
    rw [hs3] at this
    exact this
  have T4 := T3.later hal
  have q0 := n0'.later hal
  have q1 := n1'.later hal
  have q2 := p2.imp (fun e => e) (fun p => own_later p hal)
  have q3 := own_later p3 hal
  have q4 := own_later p4 hal
  have R4 := R3.later hal
  have D4 := D3.kept hal
  have G4 := only_trans G3 (only_below hal g)
  clear n0' n1' p2 p3 p4 T3 R3 D3 G3 hal
  generalize a3.alloc (.cells #[.int .i64 id2] 3) = a4 at *
  have m0 : Blk (a4.setCell ⟨tb, 8, none⟩ (.slice (some ⟨z + 2, 0, none⟩) 1 1)) z _ _ := q0.far (by show z ≠ tb; omega) _
  have m1 : Blk (a4.setCell ⟨tb, 8, none⟩ (.slice (some ⟨z + 2, 0, none⟩) 1 1)) (z + 1) _ _ := q1.far (by show z + 1 ≠ tb; omega) _
  have m2 : Blk (a4.setCell ⟨tb, 8, none⟩ (.slice (some ⟨z + 2, 0, none⟩) 1 1)) (z + 2) _ _ := n2.far (by show z + 2 ≠ tb; omega) _
  refine ⟨R4.far (by show w.heap.size ≠ tb; omega) _, T4.set_ 8 _, ⟨⟨[.slice (some ⟨z, 0, none⟩) 1 1], own_of_blk m1 (Nat.zero_le _) rfl (by decide), fun i hi => ?_⟩, q2.imp (fun e => e) (fun p => own_setAt p T4 (by decide)), own_setAt q3 T4 (by decide), own_setAt q4 T4 (by decide), own_of_blk m2 (Nat.zero_le _) rfl (by decide)⟩, D4.setT tb 8 _ (by omega), onlyT_set G4 (by omega)⟩
  have hi0 : i = 0 := by simp [intss] at hi; omega
  subst hi0
  exact ⟨_, rfl, own_of_blk m0 (Nat.zero_le _) rfl (by decide)⟩
/-- a row of numbers in the struct was appended to: field 6 or 8 -/
theorem TmA.endR {W8 : World} {i n : Nat} {v : Value} {xs : List Value} (h : TmA w g tb q high y0 y1 y2 YB yn yd BB bn bd PB pn pd HB hn hd LB ln ld rows bs plan hs ls W) (h1 : g < w.heap.size) (h2 : w.heap.size < tb) (hrow : W.ownsRow 0 3 1 v n xs) (hge : ∀ b, v.ownBlock = some b → w.heap.size ≤ b) (hg : W.grownBy W8 v.ownBlock) (u : Value) :
    Blk W8 tb 34 [.int .i64 high, .slice YB yn yd, .int .i64 y0, .int .i64 y1, .int .i64 y2, .slice BB bn bd, .slice PB pn pd, .slice HB hn hd, .slice LB ln ld] ∧ Blk (W8.setCell ⟨tb, i, none⟩ u) w.heap.size 34 [.int .i64 0, .slice none 0 0, .int .i64 0, .int .i64 0, .int .i64 0, .slice none 0 0, .slice none 0 0, .slice none 0 0, .slice none 0 0] ∧ Rdr (W8.setCell ⟨tb, i, none⟩ u) g q ∧ w.grownBy (W8.setCell ⟨tb, i, none⟩ u) (some g) := by
  have hT := own_blk_apart hrow hg h.tbk (by decide)
  refine ⟨hT, (own_blk_apart hrow hg h.rb (by decide)).far (by show w.heap.size ≠ tb; omega) _, (h.rd.away hg (fun b e => by have := hge b e; omega)).setT tb i _ (by omega), onlyT_set (only_own h.gr hg hge) (by omega)⟩
end
end Go.Proofs.YtbkfhcbecejomaaGreat
end
section
/- A region that draws its order, by an invariant: each operation is shown once, whatever has come up before it. -/
namespace Go.Proofs.YtbkfhcbecejomaaGreat
open Go
set_option linter.unusedVariables false
/-- how many have not come up -/
def unl (l : Array Bool) : Nat := l.toList.countP (fun b => !b)
theorem unl_set {l : Array Bool} {i : Nat} (h : l.getD i true = false) : unl (l.setIfInBounds i true) + 1 = unl l := by
  obtain ⟨l⟩ := l
  unfold unl
  simp only [Array.getD_eq_getD_getElem?, List.getElem?_toArray, List.setIfInBounds_toArray] at *
  induction l generalizing i with
  | nil => simp at h
  | cons b r ih =>
    cases i with
    | zero =>
      simp at h
      subst h
      simp
    | succ i =>
      have := ih (i := i) (by simpa using h)
      simp only [List.set_cons_succ, List.countP_cons]
      omega
theorem unl_zero {l : Array Bool} (h : unl l = 0) (i : Nat) : l.getD i true = true := by
  obtain ⟨l⟩ := l
  unfold unl at h
  rw [List.countP_eq_zero] at h
  simp only [Array.getD_eq_getD_getElem?, List.getElem?_toArray]
  cases hi : l[i]? with
  | none => rfl
  | some b =>
    have := h b (List.mem_of_getElem? hi)
    simpa using this
theorem getD_tf {l : Array Bool} {i : Nat} (h : l.getD i true = false) : l.getD i false = false := by
  simp only [Array.getD_eq_getD_getElem?] at *
  cases hi : l[i]? with
  | none => rfl
  | some b => rw [hi] at h; simpa using h
theorem getD_set_i {l : Array Bool} {i j : Nat} (h : l.getD i true = false) : (l.setIfInBounds i true).getD j false = (decide (j = i) || l.getD j false) := by
  by_cases e : j = i
  · subst e
    have hlt : j < l.size := by
      rcases Nat.lt_or_ge j l.size with h' | h'
      · exact h'
      · simp [Array.getD_eq_getD_getElem?, Array.getElem?_eq_none h'] at h
    simp [Array.getD_eq_getD_getElem?, hlt]
  · rw [Array.getD_eq_getD_getElem?, Array.getElem?_setIfInBounds_ne (Ne.symm e), ← Array.getD_eq_getD_getElem?]
    simp [e]
section
variable {P : Program} {ops : Array Oper} {Q : Exit → Act → World → Prop} {md : Region.Mode}
/-- every operation waits for earlier ones alone -/
def topo (md : Region.Mode) (ops : Array Oper) : Bool := (List.range ops.size).all fun i => ((ops[i]?).map fun o => o.after.all fun e => !Region.binds md e || decide (e.on < i)).getD true
theorem all_listed (ht : topo md ops = true) {l : Array Bool} (hs : l.size = ops.size) (h : Region.ready md ops l = []) : ∀ i, i < ops.size → l.getD i false = true := by
  intro i
  induction i using Nat.strongRecOn with
  | ind i ih =>
    intro hi
    have hn : i ∉ Region.ready md ops l := by rw [h]; exact List.not_mem_nil
    rw [mem_ready] at hn
    have ho : ops[i]? = some ops[i] := Array.getElem?_eq_getElem hi
    have hall : ∀ e ∈ (ops[i]).after, Region.binds md e = true → l.getD e.on false = true := by
      intro e he hb
      have h1 := (List.all_eq_true.1 ht) i (List.mem_range.2 hi)
      rw [ho] at h1
      simp only [Option.map_some, Option.getD_some, Array.all_eq_true_iff_forall_mem] at h1
      have h2 := h1 e he
      rw [hb] at h2
      simp at h2
      exact ih e.on h2 (by omega)
    cases hl : l.getD i true with
    | false => exact absurd ⟨hl, ops[i], ho, hall⟩ hn
    | true =>
      have hlt : i < l.size := by omega
      simp [Array.getD_eq_getD_getElem?, hlt] at hl ⊢
      exact hl
/-- a region by an invariant over what has come up -/
theorem wpAny_inv (I : (Nat → Bool) → Act → World → Prop) (ht : topo md ops = true)
    (hstep : ∀ i o D a w, ops[i]? = some o → D i = false → (∀ e ∈ o.after, Region.binds md e = true → D e.on = true) → I D a w →
      ∀ K : Act → World → Prop, (∀ a' w', I (fun j => decide (j = i) || D j) a' w' → K a' w') → if Region.wanted o (yielded ops a.tmps) = true then o.wp P a w K Q else K (a.put o.dst undef) w)
    (hdone : ∀ D a w, (∀ i, i < ops.size → D i = true) → I D a w → Q .normal a w) :
    ∀ (fuel : Nat) (l : Array Bool) (a : Act) (w : World), l.size = ops.size → unl l ≤ fuel → I (fun j => l.getD j false) a w → wpAny P md ops Q fuel l a w := by
  have hd : ∀ (l : Array Bool) (a : Act) (w : World), l.size = ops.size → I (fun j => l.getD j false) a w → Region.ready md ops l = [] → Q .normal a w :=
    fun l a w hs hI hr => hdone _ a w (all_listed ht hs hr) hI
  intro fuel
  induction fuel with
  | zero =>
    intro l a w hs hu hI
    have hr : Region.ready md ops l = [] := by
      rw [List.eq_nil_iff_forall_not_mem]
      intro i hi
      have := (mem_ready.1 hi).1
      rw [unl_zero (by omega) i] at this
      cases this
    exact ⟨hr, hd l a w hs hI hr⟩
  | succ fuel ih =>
    intro l a w hs hu hI
    refine ⟨hd l a w hs hI, fun i hi => ?_⟩
    obtain ⟨hl, o, ho, hall⟩ := mem_ready.1 hi
    have h1 := hstep i o _ a w ho (getD_tf hl) hall hI (wpAny P md ops Q fuel (l.setIfInBounds i true)) (fun a' w' hI' => by
      refine ih _ a' w' (by simpa using hs) (by have := unl_set hl; omega) ?_
      have e : (fun j => (l.setIfInBounds i true).getD j false) = (fun j => decide (j = i) || l.getD j false) := funext fun j => getD_set_i hl
      rw [e]
      exact hI')
    unfold wpOp
    simp only [ho]
    split
    · rename_i hw
      rw [if_pos hw] at h1
      exact .inl h1
    · rename_i hw
      rw [if_neg hw] at h1
      exact h1
theorem unl_new (n : Nat) : unl (Array.replicate n false) ≤ n := by
  unfold unl
  have := List.countP_le_length (p := fun b : Bool => !b) (l := (Array.replicate n false).toList)
  simpa using this
theorem wp_region_inv {id : Nat} {a : Act} {w : World} (hm : P.follows .mixedOrders = true) (I : (Nat → Bool) → Act → World → Prop) (ht : topo .any ops = true)
    (h0 : I (fun _ => false) a w.drew)
    (hstep : ∀ i o D a w, ops[i]? = some o → D i = false → (∀ e ∈ o.after, Region.binds .any e = true → D e.on = true) → I D a w →
      ∀ K : Act → World → Prop, (∀ a' w', I (fun j => decide (j = i) || D j) a' w' → K a' w') → if Region.wanted o (yielded ops a.tmps) = true then o.wp P a w K Q else K (a.put o.dst undef) w)
    (hdone : ∀ D a w, (∀ i, i < ops.size → D i = true) → I D a w → Q .normal a w) :
    (Code.region id ops true).wp P Q a w := by
  refine wp_region_any hm (wpAny_inv I ht hstep hdone _ _ _ _ (by simp) (unl_new _) ?_)
  have e : (fun j => (Array.replicate ops.size false).getD j false) = fun _ : Nat => false := by
    funext j
    simp only [Array.getD_eq_getD_getElem?, Array.getElem?_replicate]
    split <;> rfl
  rw [e]
  exact h0
/-- the same, the invariant said of the frame at the region's head -/
theorem wp_region_invJ {id : Nat} {a : Act} {w : World} (hm : P.follows .mixedOrders = true) (J : Act → (Nat → Bool) → Act → World → Prop) (ht : topo .any ops = true)
    (h0 : J a (fun _ => false) a w.drew)
    (hstep : ∀ i o D a' w', ops[i]? = some o → D i = false → (∀ e ∈ o.after, Region.binds .any e = true → D e.on = true) → J a D a' w' →
      ∀ K : Act → World → Prop, (∀ a'' w'', J a (fun j => decide (j = i) || D j) a'' w'' → K a'' w'') → if Region.wanted o (yielded ops a'.tmps) = true then o.wp P a' w' K Q else K (a'.put o.dst undef) w')
    (hdone : ∀ D a' w', (∀ i, i < ops.size → D i = true) → J a D a' w' → Q .normal a' w') :
    (Code.region id ops true).wp P Q a w := wp_region_inv hm (J a) ht h0 hstep hdone
end
/-- slots filled -/
def puts (a : Act) : List (Nat × Value) → Act
  | [] => a
  | (k, v) :: r => puts (a.put (some k) v) r
end Go.Proofs.YtbkfhcbecejomaaGreat
end
