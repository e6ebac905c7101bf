/- The papers that are drawn. -/
import Derived.Test.YtpkbipjnobfcdaaDrawDeed
import Derived.Test.YtpkbipjnobfcdaaPapS
import Derived.Test.YtpkbipjnobfcdaaHldM
import Derived.Deep.RegionHeld3
import Derived.Deep.RegionLaw
namespace Go.Proofs.Ytpkbipjnobfcdaa
open Go Go.ChangeShapes Go.WideShapes Go.ChangeAt Go.RowKit
set_option linter.unusedVariables false
set_option linter.unusedSimpArgs false
theorem step_append_newH {P : Program} {ops : Array Oper} {o : Oper} {a : Act} {K : Act → World → Prop} {Q : Exit → Act → World → Prop} {E : Prop} (hgd : o.guard = none) (s x : Operand) (t : TypeId)
    (ho : o.op = .call { callee := .builtin .append, args := #[s, x], argTypes := #[t, t] })
    (e : TypeId) (z : Value) (size bytes : Nat) (ht : P.underlying t = some (.slice e)) (hi : Info P e z size bytes)
    (base : Nat) (w : World) (H : Nat) (hH : w.heap.size = H) (v : Value) (n : Nat) (xs : List Value) (hs : a.eval s = v) (hown : w.ownsRow base e size v n xs)
    (news : List Value) (hx : a.eval x = .slice (some ⟨H, 0, none⟩) 1 1) (hl : news.length = size) (h1 : ∀ u ∈ news, u.oneCell' = true)
    (hn : n ≤ 8589934592) (hbase : base ≤ w.heap.size)
    (h : ∀ v' w', w'.ownsRow base e size v' (n + 1) (xs ++ news) → w.grownBy w' v.ownBlock → (v'.ownBlock = v.ownBlock ∨ v'.ownBlock = some (w.heap.size + 1)) → K (a.put o.dst v') w') :
    if Region.wanted o (yielded ops a.tmps) = true then Oper.wp P o a (w.alloc (.cells news.toArray e)) K Q else E := by
  subst hH
  exact step_append_new hgd s x t ho e z size bytes ht hi base w v n xs hs hown news hx hl h1 hn hbase h
/-- papers in the making: their struct lies in block sb, their rows behind it; the reader has picked Q times at most -/
structure PDr (w W : World) (sb g Q n c m lc : Nat) (HA LA : Option Addr) (hs : List HoldV) (ls : List Int) : Prop where
  res : Blk W w.heap.size 26 [.slice none 0 0, .slice none 0 0]
  blk : Blk W sb 26 [.slice HA n c, .slice LA m lc]
  hold : W.ownsRow (sb + 1) 38 2 (.slice HA n c) n (holds hs)
  left : W.ownsRow (sb + 1) 3 1 (.slice LA m lc) m (ints ls)
  hn : hs.length = n
  hm : ls.length = m
  rd : ∃ q, q ≤ Q ∧ Rdr W g q
  gr : w.grownBy W (some g)
  lt : w.heap.size < sb
  gl : g < w.heap.size
section
variable {w W W' : World} {sb g Q n c m lc : Nat} {HA LA : Option Addr} {hs : List HoldV} {ls : List Int}
theorem PDr.mono {Q' : Nat} (h : PDr w W sb g Q n c m lc HA LA hs ls) (hq : Q ≤ Q') : PDr w W sb g Q' n c m lc HA LA hs ls := by
  obtain ⟨q, h1, h2⟩ := h.rd
  exact ⟨h.res, h.blk, h.hold, h.left, h.hn, h.hm, ⟨q, by omega, h2⟩, h.gr, h.lt, h.gl⟩
theorem PDr.later (h : PDr w W sb g Q n c m lc HA LA hs ls) (hb : Below W.heap.size W W') : PDr w W' sb g Q n c m lc HA LA hs ls := by
  obtain ⟨q, h1, h2⟩ := h.rd
  exact ⟨h.res.later hb, h.blk.later hb, own_later h.hold hb, own_later h.left hb, h.hn, h.hm, ⟨q, h1, h2.kept hb⟩, only_trans h.gr (only_below hb g), h.lt, h.gl⟩
theorem PDr.drew (h : PDr w W sb g Q n c m lc HA LA hs ls) : PDr w W.drew sb g Q n c m lc HA LA hs ls := h.later (Below.drew (Below.refl _ _))
theorem PDr.alloc (h : PDr w W sb g Q n c m lc HA LA hs ls) (o : Obj) : PDr w (W.alloc o) sb g Q n c m lc HA LA hs ls := h.later ((Below.refl _ _).alloc (Nat.le_refl _) _)
theorem PDr.pick {q Q' : Nat} (h : PDr w W sb g Q n c m lc HA LA hs ls) (hr : Rdr W' g q) (hq : q ≤ Q') (hg : W.grownBy W' (some g)) : PDr w W' sb g Q' n c m lc HA LA hs ls := by
  have h1 := h.lt
  have h2 := h.gl
  exact ⟨h.res.only hg (by omega), h.blk.only hg (by omega), own_only h.hold hg (own_ne h.hold (by omega)), own_only h.left hg (own_ne h.left (by omega)), h.hn, h.hm, ⟨q, hq, hr⟩, only_trans h.gr hg, h.lt, h.gl⟩
theorem PDr.size (h : PDr w W sb g Q n c m lc HA LA hs ls) : sb + 1 ≤ W.heap.size := h.blk.lt
/-- a store into a block of its own behind the papers -/
theorem PDr.setNew (h : PDr w W sb g Q n c m lc HA LA hs ls) {b i : Nat} {u x0 x1 : Value} (hb : Blk W b 26 [x0, x1]) (h1 : sb < b) : PDr w (W.setCell ⟨b, i, none⟩ u) sb g Q n c m lc HA LA hs ls := by
  obtain ⟨q, h2, h3⟩ := h.rd
  have hlt := h.lt
  have hgl := h.gl
  have hg : W.grownBy (W.setCell ⟨b, i, none⟩ u) (some b) := ⟨rfl, rfl, rfl, by simp [World.setCell], fun k _ hk => Below.heap_setCell W ⟨b, i, none⟩ u k (by intro e; exact hk (by rw [e]))⟩
  exact ⟨h.res.only hg (by omega), h.blk.only hg (by omega), own_setAt h.hold hb (by decide), own_setAt h.left hb (by decide), h.hn, h.hm, ⟨q, h2, h3.away hg (fun b' e => by injection e with e; omega)⟩, only_own h.gr hg (fun b' e => by injection e with e; omega), h.lt, h.gl⟩
theorem PDr.keep (h : PDr w W sb g Q n c m lc HA LA hs ls) : W.cell? ⟨sb, 0, none⟩ = some (.slice HA n c) ∧ W.cell? ⟨sb, 1, none⟩ = some (.slice LA m lc) := by
  have h0 := h.blk.cellAt 0 (by simp)
  have h1 := h.blk.cellAt 1 (by simp)
  simp only [List.getElem_cons_zero, List.getElem_cons_succ] at h0 h1
  exact ⟨h0, h1⟩
/-- the struct's cells are stored anew -/
theorem PDr.put {hs2 : List HoldV} {ls2 : List Int} {n2 c2 m2 lc2 : Nat} {A2 L2 : Option Addr} (h : PDr w W sb g Q n c m lc HA LA hs ls) (hn : hs2.length = n2) (hm : ls2.length = m2) (o1 : W.ownsRow (sb + 1) 38 2 (.slice A2 n2 c2) n2 (holds hs2)) (o2 : W.ownsRow (sb + 1) 3 1 (.slice L2 m2 lc2) m2 (ints ls2)) :
    PDr w ((W.setCell ⟨sb, 0, none⟩ (.slice A2 n2 c2)).setCell ⟨sb, 1, none⟩ (.slice L2 m2 lc2)) sb g Q n2 c2 m2 lc2 A2 L2 hs2 ls2 := by
  obtain ⟨q, h2, h3⟩ := h.rd
  have hlt := h.lt
  have hgl := h.gl
  have hg : ∀ (U : World) (i : Nat) (u : Value), U.grownBy (U.setCell ⟨sb, i, none⟩ u) (some sb) := fun U i u => ⟨rfl, rfl, rfl, by simp [World.setCell], fun k _ hk => Below.heap_setCell U ⟨sb, i, none⟩ u k (by intro e; exact hk (by rw [e]))⟩
  have b1 := h.blk.set_ 0 (.slice A2 n2 c2)
  have r1 := h.res.only (hg W 0 (.slice A2 n2 c2)) (by omega)
  exact ⟨r1.only (hg _ 1 _) (by omega), b1.set_ 1 _, own_setAt (own_setAt o1 h.blk (by decide)) b1 (by decide), own_setAt (own_setAt o2 h.blk (by decide)) b1 (by decide), hn, hm,
    ⟨q, h2, (h3.away (hg W 0 (.slice A2 n2 c2)) (fun b' e => by injection e with e; omega)).away (hg _ 1 (.slice L2 m2 lc2)) (fun b' e => by injection e with e; omega)⟩,
    only_own (only_own h.gr (hg _ 0 _) (fun b' e => by injection e with e; omega)) (hg _ 1 _) (fun b' e => by injection e with e; omega), h.lt, h.gl⟩
theorem PDr.grown {row : Option Nat} {w6 : World} (h : PDr w W sb g Q n c m lc HA LA hs ls) (hg : W.grownBy w6 row) (hr : ∀ b, row = some b → sb + 1 ≤ b) : (∃ q, q ≤ Q ∧ Rdr w6 g q) ∧ w.grownBy w6 (some g) ∧ Blk w6 w.heap.size 26 [.slice none 0 0, .slice none 0 0] ∧ Blk w6 sb 26 [.slice HA n c, .slice LA m lc] := by
  obtain ⟨q, h2, h3⟩ := h.rd
  have hlt := h.lt
  have hgl := h.gl
  exact ⟨⟨q, h2, h3.away hg (fun b' e => by have := hr b' e; omega)⟩, only_own h.gr hg (fun b' e => by have := hr b' e; omega), (hg.block _ h.res.lt (fun e => by have := hr _ e.symm; omega)).trans h.res, (hg.block _ h.blk.lt (fun e => by have := hr _ e.symm; omega)).trans h.blk⟩
/-- one more hold -/
theorem PDr.pushH {w6 : World} {c6 : Nat} {A6 : Option Addr} {y0 y1 : Int} (h : PDr w W sb g Q n c m lc HA LA hs ls) (hown : w6.ownsRow (sb + 1) 38 2 (.slice A6 (n + 1) c6) (n + 1) (holds hs ++ [.int .i64 y0, .int .i64 y1])) (hg : W.grownBy w6 (Value.ownBlock (.slice HA n c))) :
    PDr w (w6.setCell ⟨sb, 0, none⟩ (.slice A6 (n + 1) c6)) sb g Q (n + 1) c6 m lc A6 LA (hs ++ [⟨y0, y1⟩]) ls := by
  obtain ⟨⟨q, q1, q2⟩, q3, q4, q5⟩ := h.grown hg (fun b e => (h.hold.lt b e).1)
  have hlt := h.lt
  have hgl := h.gl
  have hst : w6.grownBy (w6.setCell ⟨sb, 0, none⟩ (.slice A6 (n + 1) c6)) (some sb) := ⟨rfl, rfl, rfl, by simp [World.setCell], fun k _ hk => Below.heap_setCell w6 ⟨sb, 0, none⟩ _ k (by intro e; exact hk (by rw [e]))⟩
  have hl6 := own_own_apart h.hold hg h.left (by decide)
  have hx := own_setAt (i := 0) (u := .slice A6 (n + 1) c6) hown q5 (by decide)
  have hrw : holds hs ++ [Value.int .i64 y0, .int .i64 y1] = holds (hs ++ [⟨y0, y1⟩]) := by rw [holds_append, holds_one]
  rw [hrw] at hx
  exact ⟨q4.only hst (by omega), q5.set_ 0 _, hx, own_setAt hl6 q5 (by decide), by simp [h.hn], h.hm, ⟨q, q1, q2.away hst (fun b' e => by injection e with e; omega)⟩, only_own q3 hst (fun b' e => by injection e with e; omega), hlt, hgl⟩
/-- another row of numbers -/
theorem PDr.putL {w6 : World} {row : Option Nat} {m6 c6 : Nat} {A6 : Option Addr} {ls6 : List Int} (h : PDr w W sb g Q n c m lc HA LA hs ls) (hm6 : ls6.length = m6) (hown : w6.ownsRow (sb + 1) 3 1 (.slice A6 m6 c6) m6 (ints ls6)) (hh : w6.ownsRow (sb + 1) 38 2 (.slice HA n c) n (holds hs)) (hg : W.grownBy w6 row) (hr : ∀ b, row = some b → sb + 1 ≤ b) :
    PDr w (w6.setCell ⟨sb, 1, none⟩ (.slice A6 m6 c6)) sb g Q n c m6 c6 HA A6 hs ls6 := by
  obtain ⟨⟨q, q1, q2⟩, q3, q4, q5⟩ := h.grown hg hr
  have hlt := h.lt
  have hgl := h.gl
  have hst : w6.grownBy (w6.setCell ⟨sb, 1, none⟩ (.slice A6 m6 c6)) (some sb) := ⟨rfl, rfl, rfl, by simp [World.setCell], fun k _ hk => Below.heap_setCell w6 ⟨sb, 1, none⟩ _ k (by intro e; exact hk (by rw [e]))⟩
  exact ⟨q4.only hst (by omega), q5.set_ 1 _, own_setAt hh q5 (by decide), own_setAt hown q5 (by decide), h.hn, hm6, ⟨q, q1, q2.away hst (fun b' e => by injection e with e; omega)⟩, only_own q3 hst (fun b' e => by injection e with e; omega), hlt, hgl⟩
theorem oddP {mx : Int} (h : PDr w W sb g Q n c m lc HA LA hs ls) (hq : Q ≤ 100000000) (hm : mx ≤ 1000000000) :
    Calls Try.prog 68 #[.pointer (some ⟨g, 0, none⟩), .int .i64 mx] W fun e w' => ∃ b : Bool, e = .returned (.bool b) ∧ PDr w w' sb g (Q + 1) n c m lc HA LA hs ls := by
  obtain ⟨q, h1, h2⟩ := h.rd
  exact (odd_any g q mx W h2 (by omega) hm).mono fun e w' ⟨b, he, q', _, hq', hr, hg⟩ => ⟨b, he, h.pick hr (by omega) hg⟩
theorem deedP (h : PDr w W sb g Q n c m lc HA LA hs ls) (hq : Q ≤ 100000000) :
    Calls Try.prog 48 #[.pointer (some ⟨g, 0, none⟩)] W fun e w' => ∃ k x mk : Int, e = .returned (.agg #[.int .i64 k, .int .i64 x, .int .i64 mk]) ∧ PDr w w' sb g (Q + 6) n c m lc HA LA hs ls ∧ W.grownBy w' (some g) := by
  obtain ⟨q, h1, h2⟩ := h.rd
  exact (l20PaperDeed_any g q W h2 (by omega)).mono fun e w' ⟨v, he, k, x, mk, hv, hr, hg⟩ => ⟨k, x, mk, by rw [he, hv], h.pick hr (by omega) hg, hg⟩
theorem pickP {mx : Int} (h : PDr w W sb g Q n c m lc HA LA hs ls) (hq : Q ≤ 100000000) (hm : 1 ≤ mx ∧ mx ≤ 1000000000) :
    Calls Try.prog 42 #[.pointer (some ⟨g, 0, none⟩), .int .i64 mx] W fun e w' => ∃ v : Int, e = .returned (.int .i64 v) ∧ (0 ≤ v ∧ v < mx) ∧ PDr w w' sb g (Q + 1) n c m lc HA LA hs ls ∧ W.grownBy w' (some g) := by
  obtain ⟨q, h1, h2⟩ := h.rd
  exact (pick_any g q mx W h2 (by omega) hm.2).mono fun e w' ⟨v, he, ⟨v0, v1, _⟩, hr, hg⟩ => ⟨v, he, ⟨v0, v1 hm.1⟩, h.pick hr (by omega) hg, hg⟩
theorem paperP {k x mk : Int} (h : PDr w W sb g Q n c m lc HA LA hs ls) (hok : papOk hs ls = true) :
    Calls Try.prog 18 #[.agg #[.slice HA n c, .slice LA m lc], .agg #[.int .i64 k, .int .i64 x, .int .i64 mk]] W fun e w' => ∃ A2 c2 L2 lc2 n2 m2 hs2 ls2 b, e = .returned (.tuple #[.agg #[.slice A2 n2 c2, .slice L2 m2 lc2], .bool b]) ∧ hs2.length = n2 ∧ ls2.length = m2 ∧ papOk hs2 ls2 = true ∧
      w'.ownsRow (sb + 1) 38 2 (.slice A2 n2 c2) n2 (holds hs2) ∧ w'.ownsRow (sb + 1) 3 1 (.slice L2 m2 lc2) m2 (ints ls2) ∧ PDr w w' sb g Q n c m lc HA LA hs ls ∧ Below W.heap.size W w' := by
  have hk := papOk_iff.1 hok
  have h1 := h.hn
  have h2 := h.hm
  refine (specPaperDo HA LA n c m lc hs ls k x mk W h.hn h.hm (own_rd h.hold) (own_rd h.left) (own_cap2 h.left) (by omega) (by omega)).mono ?_
  rintro e w' ⟨_, rfl, A2, c2, L2, lc2, rfl, o1, o2, hb⟩
  have e1 : paperDo ⟨hs, ls⟩ k x mk = pdo ⟨hs, ls⟩ k x mk := by unfold paperDo; rw [if_pos (show papOkV ⟨hs, ls⟩ = true from hok)]
  have hok2 := pdo_ok (p := ⟨hs, ls⟩) hok k x mk
  rw [e1] at o1 o2 ⊢
  exact ⟨A2, c2, L2, lc2, _, _, _, _, _, rfl, rfl, rfl, hok2, own_base o1 h.size, own_base o2 h.size, h.later hb, hb⟩
end
/-- a deed was tried: the result's variable -/
def PStep (w : World) (sb g Q n c m lc : Nat) (HA LA : Option Addr) (hs : List HoldV) (ls : List Int) (s7 s8 : Value) (wx : World) : Prop :=
  ∃ r A2 n2 c2 L2 m2 lc2 hs2 ls2 b, s7 = .pointer (some ⟨r, 0, none⟩) ∧ s8 = .bool b ∧ sb < r ∧ Blk wx r 26 [.slice A2 n2 c2, .slice L2 m2 lc2] ∧ hs2.length = n2 ∧ ls2.length = m2 ∧ papOk hs2 ls2 = true ∧ wx.ownsRow (sb + 1) 38 2 (.slice A2 n2 c2) n2 (holds hs2) ∧ wx.ownsRow (sb + 1) 3 1 (.slice L2 m2 lc2) m2 (ints ls2) ∧ PDr w wx sb g Q n c m lc HA LA hs ls
section
variable {w W : World} {sb g Q n c m lc n2 c2 m2 lc2 : Nat} {HA LA A2 L2 : Option Addr} {hs hs2 : List HoldV} {ls ls2 : List Int} {b : Bool}
theorem pStep_new (h : PDr w W sb g Q n c m lc HA LA hs ls) (hn : hs2.length = n2) (hm : ls2.length = m2) (hok : papOk hs2 ls2 = true) (o1 : W.ownsRow (sb + 1) 38 2 (.slice A2 n2 c2) n2 (holds hs2)) (o2 : W.ownsRow (sb + 1) 3 1 (.slice L2 m2 lc2) m2 (ints ls2)) :
    PStep w sb g Q n c m lc HA LA hs ls (.pointer (some ⟨W.heap.size, 0, none⟩)) (.bool b) (W.alloc (.cells #[.slice A2 n2 c2, .slice L2 m2 lc2] 26)) := by
  have hal : Below W.heap.size W (W.alloc (.cells #[.slice A2 n2 c2, .slice L2 m2 lc2] 26)) := (Below.refl _ _).alloc (Nat.le_refl _) _
  exact ⟨_, _, _, _, _, _, _, hs2, ls2, b, rfl, rfl, h.size, Blk.new _ _ _, hn, hm, hok, own_later o1 hal, own_later o2 hal, h.later hal⟩
theorem pStep_old {r : Nat} {z0 z1 : Value} (hr : sb < r) (hb : Blk W r 26 [z0, z1]) (h : PDr w W sb g Q n c m lc HA LA hs ls) (hn : hs2.length = n2) (hm : ls2.length = m2) (hok : papOk hs2 ls2 = true) (o1 : W.ownsRow (sb + 1) 38 2 (.slice A2 n2 c2) n2 (holds hs2)) (o2 : W.ownsRow (sb + 1) 3 1 (.slice L2 m2 lc2) m2 (ints ls2)) :
    PStep w sb g Q n c m lc HA LA hs ls (.pointer (some ⟨r, 0, none⟩)) (.bool b) ((W.setCell ⟨r, 0, none⟩ (.slice A2 n2 c2)).setCell ⟨r, 1, none⟩ (.slice L2 m2 lc2)) := by
  have b1 := hb.set_ 0 (.slice A2 n2 c2)
  exact ⟨r, _, _, _, _, _, _, hs2, ls2, b, rfl, rfl, hr, b1.set_ 1 _, hn, hm, hok, own_setAt (own_setAt o1 hb (by decide)) b1 (by decide), own_setAt (own_setAt o2 hb (by decide)) b1 (by decide), (h.setNew hb hr).setNew b1 hr⟩
end
/-- papers that were drawn; the reader has gone on -/
def PapersDrawn (w : World) (g q : Nat) : Ending → World → Prop :=
  RVal fun u w' => ∃ HA n hc LA m lc hs ls q', u = .agg #[.slice HA n hc, .slice LA m lc] ∧ hs.length = n ∧ ls.length = m ∧ n ≤ 13 ∧ m ≤ 13 ∧ w'.ownsRow (w.heap.size + 1) 38 2 (.slice HA n hc) n (holds hs) ∧ w'.ownsRow (w.heap.size + 1) 3 1 (.slice LA m lc) m (ints ls) ∧ q' ≤ q + 200 ∧ Rdr w' g q' ∧ w.grownBy w' (some g)
def z13 : List Value := ints (List.replicate 13 0)
theorem make_13 (w : World) : (Instr.makeSlice 24 (.int .i64 13) (.int .i64 13)).run Try.prog w = .ok (.slice (some ⟨w.heap.size, 0, none⟩) 13 13) (w.alloc (.cells z13.toArray 3)) := by
  have hmk := run_make_row' (P := Try.prog) 24 3 (.int .i64 0) 8 Try.underlying24 int_info rfl .i64 .i64 13 (by omega) (by omega)
  rw [made_one] at hmk
  exact hmk w
/-- one more hold was drawn -/
def HoldCut (w : World) (sb g Q n m lc : Nat) (HA LA : Option Addr) (hs : List HoldV) (ls : List Int) (wx : World) : Prop := ∃ A6 c6 y, PDr w wx sb g Q (n + 1) c6 m lc A6 LA (hs ++ [⟨500, y⟩]) ls
def mkAt (v : Int) : Int := if v = 0 then 0 else 8
theorem mkAt_some (v : Int) (h0 : 0 ≤ v) (h1 : v < 2) : [Value.int .i64 0, .int .i64 8][v.toNat]? = some (.int .i64 (mkAt v)) := by
  obtain rfl | rfl : v = 0 ∨ v = 1 := by omega
  all_goals rfl
theorem mkAt_get (v : Int) (h0 : 0 ≤ v) (h1 : v < 2) : ∀ h, [Value.int .i64 0, .int .i64 8][v.toNat]'h = .int .i64 (mkAt v) := by
  obtain rfl | rfl : v = 0 ∨ v = 1 := by omega
  all_goals exact fun _ => rfl
theorem drawn_fin {w W : World} {sb g Q q n c m lc : Nat} {HA LA : Option Addr} {hs : List HoldV} {ls : List Int} (h : PDr w W sb g Q n c m lc HA LA hs ls) (hn : n ≤ 13) (hm : m ≤ 13) (hq : Q ≤ q + 200) :
    PapersDrawn w g q (.returned (.agg #[.slice HA n c, .slice LA m lc])) ((W.setCell ⟨w.heap.size, 0, none⟩ (.slice HA n c)).setCell ⟨w.heap.size, 1, none⟩ (.slice LA m lc)) := by
  obtain ⟨q2, h2, h3⟩ := h.rd
  have hlt := h.lt
  have hgl := h.gl
  have hg : ∀ (U : World) (i : Nat) (u : Value), U.grownBy (U.setCell ⟨w.heap.size, i, none⟩ u) (some w.heap.size) := fun U i u => ⟨rfl, rfl, rfl, by simp [World.setCell], fun k _ hk => Below.heap_setCell U ⟨w.heap.size, i, none⟩ u k (by intro e; exact hk (by rw [e]))⟩
  have r1 := h.res.set_ 0 (.slice HA n c)
  refine RVal.mk ⟨HA, n, c, LA, m, lc, hs, ls, q2, rfl, h.hn, h.hm, hn, hm, own_base (own_setAt (own_setAt h.hold h.res (by decide)) r1 (by decide)) (by omega), own_base (own_setAt (own_setAt h.left h.res (by decide)) r1 (by decide)) (by omega), by omega, ?_, ?_⟩
  · exact (h3.away (hg W 0 (.slice HA n c)) (fun b' e => by injection e with e; omega)).away (hg _ 1 (.slice LA m lc)) (fun b' e => by injection e with e; omega)
  · exact only_own (only_own h.gr (hg W 0 (.slice HA n c)) (fun b' e => by injection e with e; omega)) (hg _ 1 (.slice LA m lc)) (fun b' e => by injection e with e; omega)
set_option maxRecDepth 100000 in
set_option maxHeartbeats 8000000 in
theorem l20Papers_any (g q : Nat) (mo : Int) (w : World) (hr : Rdr w g q) (hq : q ≤ 10000000) (hmo : mo ≤ 1000000000) :
    Calls Try.prog 41 #[.pointer (some ⟨g, 0, none⟩), .int .i64 mo] w (PapersDrawn w g q) := by
  have hal : Below w.heap.size w ((w.alloc (.cells #[.slice none 0 0, .slice none 0 0] 26)).alloc (.cells #[.slice none 0 0, .slice none 0 0] 26)) := ((Below.refl _ _).alloc (Nat.le_refl _) _).alloc (by simp) _
  have b1 := Blk.new (w.alloc (.cells #[.slice none 0 0, .slice none 0 0] 26)) 26 [.slice none 0 0, .slice none 0 0]
  simp only [World.size_alloc] at b1
  have D0 : PDr w ((w.alloc (.cells #[.slice none 0 0, .slice none 0 0] 26)).alloc (.cells #[.slice none 0 0, .slice none 0 0] 26)) (w.heap.size + 1) g q 0 0 0 0 none none [] [] :=
    ⟨(Blk.new w 26 [.slice none 0 0, .slice none 0 0]).alloc _, b1, World.ownsRow_nil _ _ _ _, World.ownsRow_nil _ _ _ _, rfl, rfl, ⟨q, Nat.le_refl _, hr.kept hal⟩, only_below hal g, by omega, hr.lt⟩
  clear hal b1 hr
  have HD0 := Lib.hid D0
  clear D0
  go_enter Try.func41, Try.ntmps41
  go_wp2_with fail
  generalize (w.alloc (.cells #[.slice none 0 0, .slice none 0 0] 26)).alloc (.cells #[.slice none 0 0, .slice none 0 0] 26) = w1 at *
  refine (pickP HD0.out (mx := 12) (by omega) (by decide)).mono ?_
  rintro e w2 ⟨k0, rfl, ⟨hk0, hk1⟩, D2, _⟩
  have HD2 := Lib.hid D2
  have hsb : w.heap.size < w.heap.size + 1 := by omega
  clear D2 HD0
  generalize w.heap.size + 1 = sb at *
  go_wp2_with fail
  go_loopw [6] (fun i wr => ∃ (k n c m lc : Nat) (HA LA : Option Addr) (hs : List HoldV) (ls : List Int) (Q : Nat), i = .int .i64 k ∧ k ≤ 12 ∧ Q + 6 * k ≤ q + 1 + 72 ∧ Hid (papOk hs ls = true) ∧ PDr w wr sb g Q n c m lc HA LA hs ls) (fun i _ => (intOf i).toNat)
  case atStart =>
    obtain ⟨k, rfl⟩ := Int.eq_ofNat_of_zero_le hk0
    exact ⟨k, 0, 0, 0, 0, none, none, [], [], q + 1, rfl, by omega, by omega, Lib.hid (by decide), HD2.out⟩
  case round =>
    clear HD2 hk0 hk1
    obtain ⟨k, n, c, m, lc, HA, LA, hs, ls, Q, rfl, hk, hQ, HOK, hD⟩ := hrel
    have HD := Lib.hid hD
    obtain ⟨p0, p1⟩ := hD.keep
    have hn12 : n ≤ 12 := by have := (papOk_iff.1 HOK.out).2.2.1; have := hD.hn; omega
    have hm12 : m ≤ 12 := by have := (papOk_iff.1 HOK.out).2.2.2; have := hD.hm; omega
    clear hD
    by_cases hlt : 0 < k
    · have hki : (0 : Int) < (k : Int) := by omega
      have HD1 := Lib.hid (HD.out.mono (show Q ≤ Q + 6 by omega))
      have hzw : sb < wr.heap.size := HD.out.size
      have hgw : wr.heap.size ≠ g := by have := HD.out.lt; have := HD.out.gl; omega
      go_upto_region 5 with fail
      go_cut [7, 8] from 16 to 23 (fun s7 s8 wx => PStep w sb g (Q + 6) n c m lc HA LA hs ls s7 s8 wx)
      case first =>
        go_region_held3 (fun W => W.cell? ⟨sb, 0, none⟩ = some (.slice HA n c) ∧ W.cell? ⟨sb, 1, none⟩ = some (.slice LA m lc))
          (exact PDr.keep (w := w) (g := g) (Q := Q + 6) (n := n) (c := c) (m := m) (lc := lc) (HA := HA) (LA := LA) (hs := hs) (ls := ls) (by (repeat (first | exact HD1.out | exact HD2.out | exact HD3.out | with_reducible refine PDr.drew ?_ | with_reducible refine PDr.alloc ?_ _ | with_reducible refine PDr.setNew ?_ hz' hzr | with_reducible refine PDr.setNew ?_ hz hzr))))
          (first
            | (have _tk := HD2
               go_at_call 18
               clear _tk
               (with_reducible refine (paperP (w := w) (sb := sb) (g := g) (Q := Q + 6) (n := n) (c := c) (m := m) (lc := lc) (HA := HA) (LA := LA) (hs := hs) (ls := ls) (by (repeat (first | exact HD2.out | with_reducible refine PDr.drew ?_ | with_reducible refine PDr.alloc ?_ _))) HOK.out).mono ?_)
               rintro e w7 ⟨A2, c2, L2, lc2, n2, m2, hs2, ls2, bb, rfl, hn2, hm2, hok2, o1, o2, d3, hb7⟩
               have HD3 := Lib.hid d3
               (first | (have hz := hz6.later hb7; have hzr := hzw) | (have hz := (Blk.new w6 26 [.slice none 0 0, .slice none 0 0]).later hb7; have hzr : sb < w6.heap.size := HD2.out.size) | skip)
               (first | (have rr0 := hz.cellAt 0 (by simp); have rr1 := hz.cellAt 1 (by simp); have rg0 := hz.frozen 0; have rg1 := hz.frozen 1; have hz' := hz.set_ 0 (.slice A2 n2 c2); simp only [List.getElem_cons_zero, List.getElem_cons_succ] at rr0 rr1; simp only [List.set_cons_zero] at hz') | skip)
               clear d3 hb7)
            | (go_at_call 48
               (with_reducible refine (deedP (w := w) (sb := sb) (g := g) (Q := Q) (n := n) (c := c) (m := m) (lc := lc) (HA := HA) (LA := LA) (hs := hs) (ls := ls) (by (repeat (first | exact HD.out | with_reducible refine PDr.drew ?_ | with_reducible refine PDr.alloc ?_ _))) (by omega)).mono ?_)
               rintro e w6 ⟨kk, x, mk, rfl, d2, hg6⟩
               have HD2 := Lib.hid d2
               (first | (have hz6 := (Blk.drew (Blk.new wr 26 [.slice none 0 0, .slice none 0 0])).only hg6 hgw) | (have hz6 := (Blk.new wr.drew 26 [.slice none 0 0, .slice none 0 0]).only hg6 hgw) | skip)
               clear d2 hg6))
        all_goals (go_wp2_with fail; go_meet)
        all_goals (first
          | exact pStep_new HD3.out hn2 hm2 hok2 o1 o2
          | exact pStep_old hzr hz HD3.out hn2 hm2 hok2 o1 o2)
      case rest =>
        obtain ⟨r, A2, n2, c2, L2, m2, lc2, hs2, ls2, b, rfl, rfl, hr, hB, hn2, hm2, hok2, o1, o2, d2⟩ := hcut
        have g0 := hB.cellAt 0 (by simp)
        have g1 := hB.cellAt 1 (by simp)
        simp only [List.getElem_cons_zero, List.getElem_cons_succ] at g0 g1
        clear p0 p1
        have p0 := (d2).blk.cellAt 0 (by simp)
        have p1 := (d2).blk.cellAt 1 (by simp)
        have pf0 := (d2).blk.frozen 0
        have pf1 := (d2).blk.frozen 1
        simp only [List.getElem_cons_zero, List.getElem_cons_succ] at p0 p1
        have HD2 := Lib.hid d2
        have HD3 := Lib.hid (d2.put hn2 hm2 o1 o2)
        have HOK2 := Lib.hid hok2
        clear d2 hB hn2 hm2 o1 o2 hok2 HD HD1
        cases b with
        | true =>
          go_wp2_with fail
          go_roundw
          case rel => exact ⟨k - 1, n2, c2, m2, lc2, A2, L2, hs2, ls2, Q + 6, by go_num, by omega, by omega, HOK2, HD3.out⟩
          case measure => simp [intOf]; omega
        | false =>
          go_wp2_with fail
          go_roundw
          case rel => exact ⟨k - 1, n, c, m, lc, HA, LA, hs, ls, Q + 6, by go_num, by omega, by omega, HOK, HD2.out⟩
          case measure => simp [intOf]; omega
    · obtain rfl : k = 0 := by omega
      clear hk hlt HOK p0 p1
      go_wp2_with fail
      refine (oddP HD.out (mx := mo) (by omega) hmo).mono ?_
      rintro e w5 ⟨b, rfl, d5⟩
      have HD5 := Lib.hid d5
      clear d5 HD
      cases b with
      | false =>
        have hR0 := (HD5.out).res
        have hR1 := hR0.set_ 0 (.slice HA (n) c)
        have hR2 := hR1.set_ 1 (.slice LA (m) lc)
        have z0 := hR0.cellAt 0 (by simp)
        have z1 := hR0.cellAt 1 (by simp)
        have zf0 := hR0.frozen 0
        have zf1 := hR0.frozen 1
        have u0 := hR1.cellAt 1 (by simp)
        have u1 := hR2.cellAt 0 (by simp)
        have u2 := hR2.cellAt 1 (by simp)
        simp only [List.set_cons_zero, List.set_cons_succ, List.getElem_cons_zero, List.getElem_cons_succ] at z0 z1 u0 u1 u2
        have p0 := (HD5.out).blk.cellAt 0 (by simp)
        have p1 := (HD5.out).blk.cellAt 1 (by simp)
        have pf0 := (HD5.out).blk.frozen 0
        have pf1 := (HD5.out).blk.frozen 1
        simp only [List.getElem_cons_zero, List.getElem_cons_succ] at p0 p1
        have HF := Lib.hid (drawn_fin (q := q) HD5.out (by omega) (by omega) (by omega))
        clear hR0 hR1 hR2
        go_wp2_with fail
        refine bodyPost_ret (v := .agg #[.slice HA (n) c, .slice LA (m) lc]) (by simp [results, Try.results41, go_sem, *]) rfl HF.out
      | true =>
        go_wp2_with fail
        refine (pickP HD5.out (mx := 4) (by omega) (by decide)).mono ?_
        rintro e w6 ⟨v, rfl, ⟨hv0, hv1⟩, d6, _⟩
        have HD6 := Lib.hid d6
        clear d6 HD5
        obtain rfl | rfl | rfl | rfl : v = 0 ∨ v = 1 ∨ v = 2 ∨ v = 3 := by omega
        · have hs6 := HD6.out.size
          have p0 := (HD6.out).blk.cellAt 0 (by simp)
          have p1 := (HD6.out).blk.cellAt 1 (by simp)
          have pf0 := (HD6.out).blk.frozen 0
          have pf1 := (HD6.out).blk.frozen 1
          simp only [List.getElem_cons_zero, List.getElem_cons_succ] at p0 p1
          go_upto_region 12 with fail
          have hQ6 : Q + 1 + 1 ≤ q + 99 := by omega
          have HD6' := Lib.hid (HD6.out.mono hQ6)
          clear HD6
          have hcl : n ≤ 8589934592 := by omega
          have pa0 := ((HD6'.out.alloc (.cells [Value.int .i64 0, .int .i64 8].toArray 3)).keep).1
          go_region_law (first
            | (have _tk := HD7
               (with_reducible refine step_append_new rfl (.tmp 35) (.tmp 42) 23 rfl 38 _ _ _ Try.underlying23 hold_infoD (sb + 1) w7 (.slice HA n c) n (holds hs) rfl HD7.out.hold [.int .i64 500, .int .i64 (mkAt v7)] (by with_unfolding_all rfl) rfl (by simp [Value.oneCell']) hcl HD7.out.size ?_)
               intro v8 w8 hown8 hg8 hblk8
               obtain ⟨A8, c8, rfl, _, _⟩ := own_slice hown8
               have q5 := (HD7.out.grown hg8 (fun b e => (HD7.out.hold.lt b e).1)).2.2.2
               have s0 := q5.cellAt 0 (by simp)
               have sf0 := q5.frozen 0
               simp only [List.getElem_cons_zero, List.getElem_cons_succ] at s0
               have HFIN := Lib.hid (HD7.out.pushH hown8 hg8)
               clear q5 hown8 hg8 hblk8 _tk)
            | (have _tk2 := HD7
               (with_reducible refine step_append_newH rfl (.tmp 35) (.tmp 42) 23 rfl 38 _ _ _ Try.underlying23 hold_infoD (sb + 1) (w7.alloc (.cells [Value.int .i64 0, .int .i64 8].toArray 3)) (w7.heap.size + 1) (World.size_alloc _ _) (.slice HA n c) n (holds hs) rfl HD7a.out.hold [.int .i64 500, .int .i64 (mkAt v7)] (by with_unfolding_all rfl) rfl (by simp [Value.oneCell']) hcl HD7a.out.size ?_)
               intro v8 w8 hown8 hg8 hblk8
               obtain ⟨A8, c8, rfl, _, _⟩ := own_slice hown8
               have q5 := (HD7a.out.grown hg8 (fun b e => (HD7a.out.hold.lt b e).1)).2.2.2
               have s0 := q5.cellAt 0 (by simp)
               have sf0 := q5.frozen 0
               simp only [List.getElem_cons_zero, List.getElem_cons_succ] at s0
               have HFIN := Lib.hid (HD7a.out.pushH hown8 hg8)
               clear q5 hown8 hg8 hblk8 _tk2)
            | (go_simp; go_at_call 42
               (with_reducible refine (pickP (w := w) (sb := sb) (g := g) (Q := q + 99) (n := n) (c := c) (m := m) (lc := lc) (HA := HA) (LA := LA) (hs := hs) (ls := ls) (mx := 2) (by (repeat (first | exact HD6'.out | with_reducible refine PDr.drew ?_ | with_reducible refine PDr.alloc ?_ _))) (by omega) (by decide)).mono ?_)
               rintro e w7 ⟨v7, rfl, ⟨hv70, hv71⟩, d7, hg7⟩
               have HD7 := Lib.hid d7
               have HD7a := Lib.hid (d7.alloc (.cells [Value.int .i64 0, .int .i64 8].toArray 3))
               have hl1 := mkAt_some v7 hv70 hv71
               have hl2 := mkAt_get v7 hv70 hv71
               have zz0 := d7.keep
               obtain ⟨za0, zb0⟩ := zz0
               have zc0 := (HD7a.out.keep).1
               have zd0 := ((d7.alloc (.cells [Value.int .i64 500, .int .i64 (mkAt v7)].toArray 38)).keep).1
               have ze0 := ((HD7a.out.alloc (.cells [Value.int .i64 500, .int .i64 (mkAt v7)].toArray 38)).keep).1
               (first | (have hB := (Blk.drew (Blk.new w6 3 [Value.int .i64 0, .int .i64 8])).only hg7 (by have := HD6'.out.lt; have := HD6'.out.gl; omega); have hx := hB.cell v7.toNat; rw [hl1] at hx) | (have hB := (Blk.new w6.drew 3 [Value.int .i64 0, .int .i64 8]).only hg7 (by have := HD6'.out.lt; have := HD6'.out.gl; show w6.heap.size ≠ g; omega); have hx := hB.cell v7.toNat; rw [hl1] at hx) | skip)
               clear d7 hg7))
          all_goals
            clear p0 p1 pf0 pf1
            clear hs6 HD6' HD7 HD7a s0 sf0 za0 zb0 zc0 zd0 ze0 pa0
            have HD9 := HFIN
            clear HFIN
            have hR0 := (HD9.out).res
            have hR1 := hR0.set_ 0 (.slice A8 (n + 1) c8)
            have hR2 := hR1.set_ 1 (.slice LA (m) lc)
            have z0 := hR0.cellAt 0 (by simp)
            have z1 := hR0.cellAt 1 (by simp)
            have zf0 := hR0.frozen 0
            have zf1 := hR0.frozen 1
            have u0 := hR1.cellAt 1 (by simp)
            have u1 := hR2.cellAt 0 (by simp)
            have u2 := hR2.cellAt 1 (by simp)
            simp only [List.set_cons_zero, List.set_cons_succ, List.getElem_cons_zero, List.getElem_cons_succ] at z0 z1 u0 u1 u2
            have p0 := (HD9.out).blk.cellAt 0 (by simp)
            have p1 := (HD9.out).blk.cellAt 1 (by simp)
            have pf0 := (HD9.out).blk.frozen 0
            have pf1 := (HD9.out).blk.frozen 1
            simp only [List.getElem_cons_zero, List.getElem_cons_succ] at p0 p1
            have HF := Lib.hid (drawn_fin (q := q) HD9.out (by omega) (by omega) (by omega))
            clear hR0 hR1 hR2
            go_wp2_with fail
            refine bodyPost_ret (v := .agg #[.slice A8 (n + 1) c8, .slice LA (m) lc]) (by simp [results, Try.results41, go_sem, *]) rfl HF.out
        · have hs6 := HD6.out.size
          have p0 := (HD6.out).blk.cellAt 0 (by simp)
          have p1 := (HD6.out).blk.cellAt 1 (by simp)
          have pf0 := (HD6.out).blk.frozen 0
          have pf1 := (HD6.out).blk.frozen 1
          simp only [List.getElem_cons_zero, List.getElem_cons_succ] at p0 p1
          have ho6 := HD6.out.left
          have hcl : m ≤ 8589934592 := by omega
          go_upto_region 18 with (at_builtin; refine append_new rfl (.tmp 48) (.tmp 49) 24 rfl 3 _ _ _ Try.underlying24 int_infoY (sb + 1) w6 (.slice LA m lc) m (ints ls) rfl ho6 [.int .i64 0] (by with_unfolding_all rfl) rfl (by simp [Value.oneCell']) hcl hs6 ?_; intro v7 w7 hown7 hg7 hblk7; obtain ⟨A7, c7, rfl, _, _⟩ := own_slice hown7; have q5 := (HD6.out.grown hg7 (fun b e => (HD6.out.left.lt b e).1)).2.2.2; have s1 := q5.cellAt 1 (by simp); have sf1 := q5.frozen 1; simp only [List.getElem_cons_zero, List.getElem_cons_succ] at s1; have HO7 := Lib.hid hown7; have HG7 := Lib.hid hg7; clear q5 hown7 hg7 hblk7)
          have hls : (ls ++ [(0 : Int)]).length = m + 1 := by simp [HD6.out.hm]
          have hrw : ints ls ++ [Value.int .i64 0] = ints (ls ++ [0]) := by simp [ints]
          have hrow := HO7.out
          rw [hrw] at hrow
          have HD7 := Lib.hid (HD6.out.putL hls hrow (own_own_apart HD6.out.left HG7.out HD6.out.hold (by decide)) HG7.out (fun b e => (HD6.out.left.lt b e).1))
          clear hrow hrw hls HO7 HG7 s1 sf1 ho6 hs6
          clear p0 p1 pf0 pf1
          generalize w7.setCell ⟨sb, 1, none⟩ (.slice A7 (m + 1) c7) = w8 at *
          have hR0 := (HD7.out).res
          have hR1 := hR0.set_ 0 (.slice HA (n) c)
          have hR2 := hR1.set_ 1 (.slice A7 (m + 1) c7)
          have z0 := hR0.cellAt 0 (by simp)
          have z1 := hR0.cellAt 1 (by simp)
          have zf0 := hR0.frozen 0
          have zf1 := hR0.frozen 1
          have u0 := hR1.cellAt 1 (by simp)
          have u1 := hR2.cellAt 0 (by simp)
          have u2 := hR2.cellAt 1 (by simp)
          simp only [List.set_cons_zero, List.set_cons_succ, List.getElem_cons_zero, List.getElem_cons_succ] at z0 z1 u0 u1 u2
          have p0 := (HD7.out).blk.cellAt 0 (by simp)
          have p1 := (HD7.out).blk.cellAt 1 (by simp)
          have pf0 := (HD7.out).blk.frozen 0
          have pf1 := (HD7.out).blk.frozen 1
          simp only [List.getElem_cons_zero, List.getElem_cons_succ] at p0 p1
          have HF := Lib.hid (drawn_fin (q := q) HD7.out (by omega) (by omega) (by omega))
          clear hR0 hR1 hR2
          go_wp2_with fail
          refine bodyPost_ret (v := .agg #[.slice HA (n) c, .slice A7 (m + 1) c7]) (by simp [results, Try.results41, go_sem, *]) rfl HF.out
        · have hs6 := HD6.out.size
          have p0 := (HD6.out).blk.cellAt 0 (by simp)
          have p1 := (HD6.out).blk.cellAt 1 (by simp)
          have pf0 := (HD6.out).blk.frozen 0
          have pf1 := (HD6.out).blk.frozen 1
          simp only [List.getElem_cons_zero, List.getElem_cons_succ] at p0 p1
          have ho6 := HD6.out.hold
          have hcl : n ≤ 8589934592 := by omega
          go_upto_region 17 with (at_builtin; refine append_new rfl (.tmp 55) (.tmp 57) 23 rfl 38 _ _ _ Try.underlying23 hold_infoD (sb + 1) w6 (.slice HA n c) n (holds hs) rfl ho6 [.int .i64 600, .int .i64 1] (by with_unfolding_all rfl) rfl (by simp [Value.oneCell']) hcl hs6 ?_; intro v7 w7 hown7 hg7 hblk7; obtain ⟨A7, c7, rfl, _, _⟩ := own_slice hown7; have q5 := (HD6.out.grown hg7 (fun b e => (HD6.out.hold.lt b e).1)).2.2.2; have s0 := q5.cellAt 0 (by simp); have sf0 := q5.frozen 0; simp only [List.getElem_cons_zero, List.getElem_cons_succ] at s0; have HD7 := Lib.hid (HD6.out.pushH hown7 hg7); clear q5 hown7 hg7 hblk7)
          clear s0 sf0 ho6 hs6 HD6
          clear p0 p1 pf0 pf1
          generalize w7.setCell ⟨sb, 0, none⟩ (.slice A7 (n + 1) c7) = w8 at *
          have hs6 := HD7.out.size
          have ho6 := HD7.out.left
          have p0 := (HD7.out).blk.cellAt 0 (by simp)
          have p1 := (HD7.out).blk.cellAt 1 (by simp)
          have pf0 := (HD7.out).blk.frozen 0
          have pf1 := (HD7.out).blk.frozen 1
          simp only [List.getElem_cons_zero, List.getElem_cons_succ] at p0 p1
          have hcl : m ≤ 8589934592 := by omega
          go_upto_region 18 with (at_builtin; refine append_new rfl (.tmp 61) (.tmp 62) 24 rfl 3 _ _ _ Try.underlying24 int_infoY (sb + 1) w8 (.slice LA m lc) m (ints ls) rfl ho6 [.int .i64 600] (by with_unfolding_all rfl) rfl (by simp [Value.oneCell']) hcl hs6 ?_; intro v9 w9 hown9 hg9 hblk9; obtain ⟨A9, c9, rfl, _, _⟩ := own_slice hown9; have q5 := (HD7.out.grown hg9 (fun b e => (HD7.out.left.lt b e).1)).2.2.2; have s1 := q5.cellAt 1 (by simp); have sf1 := q5.frozen 1; simp only [List.getElem_cons_zero, List.getElem_cons_succ] at s1; have HO9 := Lib.hid hown9; have HG9 := Lib.hid hg9; clear q5 hown9 hg9 hblk9)
          have hls : (ls ++ [(600 : Int)]).length = m + 1 := by simp [HD7.out.hm]
          have hrw : ints ls ++ [Value.int .i64 600] = ints (ls ++ [600]) := by simp [ints]
          have hrow := HO9.out
          rw [hrw] at hrow
          have HD9 := Lib.hid (HD7.out.putL hls hrow (own_own_apart HD7.out.left HG9.out HD7.out.hold (by decide)) HG9.out (fun b e => (HD7.out.left.lt b e).1))
          clear hrow hrw hls HO9 HG9 s1 sf1 ho6 hs6
          clear p0 p1 pf0 pf1
          generalize w9.setCell ⟨sb, 1, none⟩ (.slice A9 (m + 1) c9) = w10 at *
          have hR0 := (HD9.out).res
          have hR1 := hR0.set_ 0 (.slice A7 (n + 1) c7)
          have hR2 := hR1.set_ 1 (.slice A9 (m + 1) c9)
          have z0 := hR0.cellAt 0 (by simp)
          have z1 := hR0.cellAt 1 (by simp)
          have zf0 := hR0.frozen 0
          have zf1 := hR0.frozen 1
          have u0 := hR1.cellAt 1 (by simp)
          have u1 := hR2.cellAt 0 (by simp)
          have u2 := hR2.cellAt 1 (by simp)
          simp only [List.set_cons_zero, List.set_cons_succ, List.getElem_cons_zero, List.getElem_cons_succ] at z0 z1 u0 u1 u2
          have p0 := (HD9.out).blk.cellAt 0 (by simp)
          have p1 := (HD9.out).blk.cellAt 1 (by simp)
          have pf0 := (HD9.out).blk.frozen 0
          have pf1 := (HD9.out).blk.frozen 1
          simp only [List.getElem_cons_zero, List.getElem_cons_succ] at p0 p1
          have HF := Lib.hid (drawn_fin (q := q) HD9.out (by omega) (by omega) (by omega))
          clear hR0 hR1 hR2
          go_wp2_with fail
          refine bodyPost_ret (v := .agg #[.slice A7 (n + 1) c7, .slice A9 (m + 1) c9]) (by simp [results, Try.results41, go_sem, *]) rfl HF.out
        · have hs6 := HD6.out.size
          have p0 := (HD6.out).blk.cellAt 0 (by simp)
          have p1 := (HD6.out).blk.cellAt 1 (by simp)
          have pf0 := (HD6.out).blk.frozen 0
          have pf1 := (HD6.out).blk.frozen 1
          simp only [List.getElem_cons_zero, List.getElem_cons_succ] at p0 p1
          have hmk := make_13 w6
          have pa1 := ((HD6.out.alloc (.cells z13.toArray 3)).keep).2
          have paf1 := (HD6.out.alloc (.cells z13.toArray 3)).blk.frozen 1
          have hal : Below w6.heap.size w6 (w6.alloc (.cells z13.toArray 3)) := (Below.refl _ _).alloc (Nat.le_refl _) _
          have hrow : (w6.alloc (.cells z13.toArray 3)).ownsRow (sb + 1) 3 1 (.slice (some ⟨w6.heap.size, 0, none⟩) 13 13) 13 (ints (List.replicate 13 0)) := own_of_blk (cs := z13) (Blk.new w6 3 z13) hs6 (by decide) (by decide)
          have d7 := HD6.out.putL (row := none) (ls6 := List.replicate 13 0) (by decide) hrow (own_later HD6.out.hold hal) ⟨hal.os, hal.tape, hal.output, hal.size, fun k hk _ => hal.block k hk⟩ (fun b e => by cases e)
          have HD7 := Lib.hid d7
          clear d7 hrow hal
          go_upto_region 18 with fail
          clear hmk hs6 HD6 pa1 paf1
          clear p0 p1 pf0 pf1
          generalize (w6.alloc (.cells z13.toArray 3)).setCell ⟨sb, 1, none⟩ (.slice (some ⟨w6.heap.size, 0, none⟩) 13 13) = w8 at *
          have hR0 := (HD7.out).res
          have hR1 := hR0.set_ 0 (.slice HA (n) c)
          have hR2 := hR1.set_ 1 (.slice (some ⟨w6.heap.size, 0, none⟩) (13) 13)
          have z0 := hR0.cellAt 0 (by simp)
          have z1 := hR0.cellAt 1 (by simp)
          have zf0 := hR0.frozen 0
          have zf1 := hR0.frozen 1
          have u0 := hR1.cellAt 1 (by simp)
          have u1 := hR2.cellAt 0 (by simp)
          have u2 := hR2.cellAt 1 (by simp)
          simp only [List.set_cons_zero, List.set_cons_succ, List.getElem_cons_zero, List.getElem_cons_succ] at z0 z1 u0 u1 u2
          have p0 := (HD7.out).blk.cellAt 0 (by simp)
          have p1 := (HD7.out).blk.cellAt 1 (by simp)
          have pf0 := (HD7.out).blk.frozen 0
          have pf1 := (HD7.out).blk.frozen 1
          simp only [List.getElem_cons_zero, List.getElem_cons_succ] at p0 p1
          have HF := Lib.hid (drawn_fin (q := q) HD7.out (by omega) (by omega) (by omega))
          clear hR0 hR1 hR2
          go_wp2_with fail
          refine bodyPost_ret (v := .agg #[.slice HA (n) c, .slice (some ⟨w6.heap.size, 0, none⟩) (13) 13]) (by simp [results, Try.results41, go_sem, *]) rfl HF.out
end Go.Proofs.Ytpkbipjnobfcdaa
