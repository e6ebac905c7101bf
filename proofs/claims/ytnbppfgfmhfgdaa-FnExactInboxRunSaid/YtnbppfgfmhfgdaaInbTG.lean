/- The program's InboxTake. -/
import Derived.Test.YtnbppfgfmhfgdaaInbTJ
namespace Go.Proofs.Ytnbppfgfmhfgdaa
open Go Go.ChangeShapes Go.WideShapes Go.ChangeAt Go.RowKit
def TakeOwn (w : World) (t : TakeV) : Ending → World → Prop :=
  RVal fun u w' => ∃ A c o, u = .tuple #[.agg #[.int .i64 t.next, .slice A t.held.length c], o] ∧ w'.ownsRow w.heap.size 41 2 (.slice A t.held.length c) t.held.length (messages t.held) ∧
    w'.ownsRow w.heap.size 3 1 o t.ids.length (ints t.ids) ∧ (∀ g, o.ownBlock = some g → (Value.slice A t.held.length c).ownBlock ≠ some g) ∧ Below w.heap.size w w'
theorem takeFr_below {w0 w w' : World} {q : Nat} {row : Option Nat} (hb : Below w0.heap.size w0 w) (h : TakeFr w w' q row) (hq : w0.heap.size ≤ q) (hr : ∀ g, row = some g → w0.heap.size ≤ g) : Below w0.heap.size w0 w' :=
  ⟨h.os.trans hb.os, h.tape.trans hb.tape, h.output.trans hb.output, Nat.le_trans hb.size h.size, fun k hk => (h.block k (Nat.lt_of_lt_of_le hk hb.size) (by omega) (fun e => by have := hr k e; omega)).trans (hb.block k hk)⟩
theorem takeOwn_fin {w W : World} {R c : Nat} {A : Option Addr} {o : Value} {t : TakeV}
    (hB : Below w.heap.size w W) (hR : R = w.heap.size + 2) (hq : W.ownsRow (w.heap.size + 3) 41 2 (.slice A t.held.length c) t.held.length (messages t.held)) (ho : W.ownsRow (w.heap.size + 3) 3 1 o t.ids.length (ints t.ids))
    (hd : ∀ g, o.ownBlock = some g → (Value.slice A t.held.length c).ownBlock ≠ some g) :
    TakeOwn w t (.returned (.tuple #[.agg #[.int .i64 t.next, .slice A t.held.length c], o])) ((W.setCell ⟨R, 0, none⟩ (.int .i64 t.next)).setCell ⟨R, 1, none⟩ (.slice A t.held.length c)) := by
  subst hR
  have hO : Out (w.heap.size + 2) (w.heap.size + 3) W ((W.setCell ⟨w.heap.size + 2, 0, none⟩ (.int .i64 t.next)).setCell ⟨w.heap.size + 2, 1, none⟩ (.slice A t.held.length c)) :=
    out_set (out_set (Out.refl _ _ _) _ _ _ (by omega) (by omega)) _ _ _ (by omega) (by omega)
  exact RVal.mk ⟨A, c, o, rfl, own_base (own_out hq hO (fun g e => .inr (by have := (hq.lt g e).1; omega))) (by omega), own_base (own_out ho hO (fun g e => .inr (by have := (ho.lt g e).1; omega))) (by omega), hd, below_out hB hO (by omega)⟩
set_option maxHeartbeats 4000000 in
theorem implInboxTake (next : Int) (A : Option Addr) (n c : Nat) (held : List MessageV) (x0 x1 : Int) (w : World) (hn : held.length = n) (hr : RdV w A (messages held)) (hm : n ≤ 1048576) :
    Calls Try.prog 26 #[.agg #[.int .i64 next, .slice A n c], .agg #[.int .i64 x0, .int .i64 x1]] w (TakeOwn w (takeI next held ⟨x0, x1⟩)) := by
  have HN := Lib.hid hn
  clear hn
  have hP : Blk (((w.alloc (.cells #[.int .i64 next, .slice A n c] 29)).alloc (.cells #[.int .i64 x0, .int .i64 x1] 41)).alloc (.cells #[.int .i64 0, .slice none 0 0] 29)) w.heap.size 29 [.int .i64 next, .slice A n c] := ((Blk.new _ _ _).alloc _).alloc _
  have hM : Blk (((w.alloc (.cells #[.int .i64 next, .slice A n c] 29)).alloc (.cells #[.int .i64 x0, .int .i64 x1] 41)).alloc (.cells #[.int .i64 0, .slice none 0 0] 29)) (w.heap.size + 1) 41 [.int .i64 x0, .int .i64 x1] := by
    have := (Blk.new (w.alloc (.cells #[.int .i64 next, .slice A n c] 29)) 41 [.int .i64 x0, .int .i64 x1]).alloc (.cells #[.int .i64 0, .slice none 0 0] 29)
    simpa using this
  have hR : Blk (((w.alloc (.cells #[.int .i64 next, .slice A n c] 29)).alloc (.cells #[.int .i64 x0, .int .i64 x1] 41)).alloc (.cells #[.int .i64 0, .slice none 0 0] 29)) (w.heap.size + 2) 29 [.int .i64 0, .slice none 0 0] := by
    have := Blk.new ((w.alloc (.cells #[.int .i64 next, .slice A n c] 29)).alloc (.cells #[.int .i64 x0, .int .i64 x1] 41)) 29 [.int .i64 0, .slice none 0 0]
    simpa using this
  have hB : Below w.heap.size w (((w.alloc (.cells #[.int .i64 next, .slice A n c] 29)).alloc (.cells #[.int .i64 x0, .int .i64 x1] 41)).alloc (.cells #[.int .i64 0, .slice none 0 0] 29)) := (((Below.refl _ _).alloc (Nat.le_refl _) _).alloc (by simp) _).alloc (by simp; omega) _
  have hsz : (((w.alloc (.cells #[.int .i64 next, .slice A n c] 29)).alloc (.cells #[.int .i64 x0, .int .i64 x1] 41)).alloc (.cells #[.int .i64 0, .slice none 0 0] 29)).heap.size = w.heap.size + 3 := by simp
  go_enter Try.func26, Try.ntmps26
  go_wp2_with fail
  generalize ((w.alloc (.cells #[.int .i64 next, .slice A n c] 29)).alloc (.cells #[.int .i64 x0, .int .i64 x1] 41)).alloc (.cells #[.int .i64 0, .slice none 0 0] 29) = w0 at *
  have hz0 : w.heap.size + 3 ≤ w0.heap.size := by omega
  clear hsz
  refine (implInboxValid next A n c held _ HN.out (hr.below hB) (by omega)).mono ?_
  rintro e w1 ⟨rfl, hb1⟩
  have P1 := hP.later hb1
  have M1 := hM.later hb1
  have R1 := hR.later hb1
  have B1 := below_trans hB hb1
  have hz1 : w.heap.size + 3 ≤ w1.heap.size := Nat.le_trans hz0 hb1.size
  clear hP hM hR hB hb1 hz0
  cases hok : inbOk next held with
  | false =>
    have HT := Lib.hid (takeI_bad (m := ⟨x0, x1⟩) hok)
    have r0 := R1.cellAt 0 (by simp)
    have r1 := R1.cellAt 1 (by simp)
    have f0 := R1.frozen 0
    have f1 := R1.frozen 1
    simp only [List.getElem_cons_zero, List.getElem_cons_succ] at r0 r1
    clear hok
    go_wp2_with fail
    refine bodyPost_ret (v := .tuple #[.agg #[.int .i64 0, .slice none 0 0], .slice none 0 0]) (by simp [results, Try.results26, go_sem, *]) rfl ?_
    rw [HT.out]
    exact takeOwn_fin (t := ⟨0, [], []⟩) B1 rfl (World.ownsRow_nil _ _ _ _) (World.ownsRow_nil _ _ _ _) (fun g e => by simp [Value.ownBlock] at e)
  | true =>
    have HOK := Lib.hid hok
    have p0 := P1.cellAt 0 (by simp)
    have p1 := P1.cellAt 1 (by simp)
    simp only [List.getElem_cons_zero, List.getElem_cons_succ] at p0 p1
    clear hok
    go_wp2_with fail
    refine (inbClone_any next A n c held _ HN.out (hr.below B1) hm).mono ?_
    rintro e w2 ⟨_, rfl, NA, nc, rfl, N2, hb2⟩
    have hal : Below w2.heap.size w2 (w2.alloc (.cells #[.int .i64 next, .slice NA n nc] 29)) := (Below.refl _ _).alloc (Nat.le_refl _) _
    have Q3 : Blk (w2.alloc (.cells #[.int .i64 next, .slice NA n nc] 29)) w2.heap.size 29 [.int .i64 next, .slice NA n nc] := Blk.new _ _ _
    have M3 := (M1.later hb2).later hal
    have R3 := (R1.later hb2).later hal
    have B3 := below_trans (below_trans B1 hb2) hal
    have N3 := (N2.later hal)
    have hz2 := hb2.size
    have hz3 : w2.heap.size + 1 ≤ (w2.alloc (.cells #[.int .i64 next, .slice NA n nc] 29)).heap.size := by simp
    have m0 := M3.cellAt 0 (by simp)
    have m1 := M3.cellAt 1 (by simp)
    simp only [List.getElem_cons_zero, List.getElem_cons_succ] at m0 m1
    clear P1 M1 R1 B1 hb2 N2 hal p0 p1 M3
    go_wp2_with fail
    generalize w2.alloc (.cells #[.int .i64 next, .slice NA n nc] 29) = w3 at *
    refine (take_any w2.heap.size w1.heap.size next NA n nc held x0 x1 w3 HN.out Q3 N3.row (fun e => by have := N3.lt _ e; omega) (by omega) HOK.out).mono ?_
    rintro e w4 ⟨u, rfl, TA, tc, Q4, H4, hne4, O4, hdis, hfr, fr⟩
    generalize takeI next held ⟨x0, x1⟩ = t at *
    have B4 := takeFr_below B3 fr (by omega) (fun g e => by have := (N3.row.lt g e).1; omega)
    have hob : ∀ g, (Value.slice NA n nc).ownBlock = some g → w1.heap.size ≤ g := fun g e => (N3.row.lt g e).1
    have R4 : Blk w4 (w.heap.size + 2) 29 [.int .i64 0, .slice none 0 0] := (fr.block _ R3.lt (by omega) (fun e => by have := hob _ e; omega)).trans R3
    have H5 : w4.ownsRow (w.heap.size + 3) 41 2 (.slice TA t.held.length tc) t.held.length (messages t.held) := own_base H4 hz1
    have O5 : w4.ownsRow (w.heap.size + 3) 3 1 u t.ids.length (ints t.ids) := own_base O4 (by omega)
    have t0 := Q4.cellAt 0 (by simp)
    have t1 := Q4.cellAt 1 (by simp)
    have r0 := R4.cellAt 0 (by simp)
    have r1 := R4.cellAt 1 (by simp)
    have f0 := R4.frozen 0
    have f1 := R4.frozen 1
    simp only [List.getElem_cons_zero, List.getElem_cons_succ] at t0 t1 r0 r1
    clear Q3 R3 N3 B3 m0 m1 hfr fr hob H4 O4
    go_wp2_with fail
    refine bodyPost_ret (v := .tuple #[.agg #[.int .i64 t.next, .slice TA t.held.length tc], u]) (by simp [results, Try.results26, go_sem, *]) rfl ?_
    exact takeOwn_fin B4 rfl H5 O5 hdis
end Go.Proofs.Ytnbppfgfmhfgdaa
