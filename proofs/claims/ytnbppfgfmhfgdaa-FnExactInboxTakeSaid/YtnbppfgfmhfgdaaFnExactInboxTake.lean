/- FnExactInboxTake returns true, for all arguments; no condition. -/
import Derived.Test.YtnbppfgfmhfgdaaInbF
import Derived.Test.YtnbppfgfmhfgdaaInbTG
import Derived.Test.YtnbppfgfmhfgdaaMsgM
import Derived.Deep.DeepCutAuto
namespace Go.Proofs.Ytnbppfgfmhfgdaa
open Go Go.ChangeShapes Go.WideShapes Go.ChangeAt Go.RowKit
theorem kept4 {w W : World} {a b : Nat} {x0 x1 y0 y1 : Value} (hb : Below w.heap.size w W) (la : a < w.heap.size) (lb : b < w.heap.size) (p0 : w.cell? ⟨a, 0, none⟩ = some x0) (p1 : w.cell? ⟨a, 1, none⟩ = some x1) (m0 : w.cell? ⟨b, 0, none⟩ = some y0) (m1 : w.cell? ⟨b, 1, none⟩ = some y1) :
    Below w.heap.size w W ∧ W.cell? ⟨a, 0, none⟩ = some x0 ∧ W.cell? ⟨a, 1, none⟩ = some x1 ∧ W.cell? ⟨b, 0, none⟩ = some y0 ∧ W.cell? ⟨b, 1, none⟩ = some y1 :=
  ⟨hb, (hb.cell (p := ⟨a, 0, none⟩) la).trans p0, (hb.cell (p := ⟨a, 1, none⟩) la).trans p1, (hb.cell (p := ⟨b, 0, none⟩) lb).trans m0, (hb.cell (p := ⟨b, 1, none⟩) lb).trans m1⟩
theorem specInboxTake' {t : TakeV} (next : Int) (A : Option Addr) (n c : Nat) (held : List MessageV) (x0 x1 : Int) (w : World) (ht : takeI next held ⟨x0, x1⟩ = t) (hn : held.length = n) (hc : n ≤ c) (hr : RdV w A (messages held)) (hm : n ≤ 1048576) :
    Calls Try.prog 24 #[.agg #[.int .i64 next, .slice A n c], .agg #[.int .i64 x0, .int .i64 x1]] w (TakeOut w t) := ht ▸ specInboxTake next A n c held x0 x1 w hn hc hr hm
theorem implInboxTake' {t : TakeV} (next : Int) (A : Option Addr) (n c : Nat) (held : List MessageV) (x0 x1 : Int) (w : World) (ht : takeI next held ⟨x0, x1⟩ = t) (hn : held.length = n) (hr : RdV w A (messages held)) (hm : n ≤ 1048576) :
    Calls Try.prog 26 #[.agg #[.int .i64 next, .slice A n c], .agg #[.int .i64 x0, .int .i64 x1]] w (TakeOwn w t) := ht ▸ implInboxTake next A n c held x0 x1 w hn hr hm
theorem hrr_of {W w1 : World} {r : Nat} {ty : TypeId} {cs : List Value} (_ : Blk W r ty cs) (hr : w1.heap.size ≤ r) : w1.heap.size ≤ r := hr
theorem own_cap {w : World} {base n c : Nat} {e : TypeId} {size : Nat} {A : Option Addr} {xs : List Value} (h : w.ownsRow base e size (.slice A n c) n xs) : n ≤ c := by
  obtain ⟨_, _, e, h1, _⟩ := own_slice h
  injection e with _ _ e3
  omega
/-- the reference's answer: a struct in block r, ids -/
def SpecCut (w0 : World) (t : TakeV) (s6 s7 : Value) (wx : World) : Prop :=
  ∃ r A c, s6 = .pointer (some ⟨r, 0, none⟩) ∧ w0.heap.size ≤ r ∧ Blk wx r 29 [.int .i64 t.next, .slice A t.held.length c] ∧ QueM wx w0.heap.size wx.heap.size A t.held.length c t.held ∧
    OwnI wx w0.heap.size wx.heap.size 3 1 s7 t.ids.length (ints t.ids) ∧ Below w0.heap.size w0 wx
theorem specCut_fin {w1 W : World} {r lo hi n c : Nat} {A : Option Addr} {o s0 s1 : Value} {next : Int} {t : TakeV} (hnx : next = t.next) (hn : n = t.held.length) (hB : Below w1.heap.size w1 W) (hr : w1.heap.size ≤ r) (hR : Blk W r 29 [s0, s1])
    (hq : QueM W lo hi A n c t.held) (hlo : w1.heap.size ≤ lo) (ho : OwnI W lo hi 3 1 o t.ids.length (ints t.ids)) (hd : r < lo ∨ hi ≤ r) :
    SpecCut w1 t (.pointer (some ⟨r, 0, none⟩)) o ((W.setCell ⟨r, 0, none⟩ (.int .i64 next)).setCell ⟨r, 1, none⟩ (.slice A n c)) := by
  subst hnx hn
  have hO : Out r (r + 1) W ((W.setCell ⟨r, 0, none⟩ (.int .i64 t.next)).setCell ⟨r, 1, none⟩ (.slice A t.held.length c)) := out_set (out_set (Out.refl _ _ _) _ _ _ (by omega) (by omega)) _ _ _ (by omega) (by omega)
  have hq2 := hq.out hO (by omega)
  have ho2 := ho.out hO (by omega)
  exact ⟨r, A, c, rfl, hr, (hR.set_ 0 _).set_ 1 _, hq2.wide hlo hq2.2.2.2.1 (Nat.le_refl _), ⟨own_base ho2.row hlo, fun g e => Nat.lt_of_lt_of_le (ho2.lt g e) ho2.top, Nat.le_refl _⟩, below_out hB hO hr⟩
/-- the program's answer, of its own -/
def OwnCut (w0 : World) (t : TakeV) (s9 s10 : Value) (wx : World) : Prop :=
  ∃ r A c, s9 = .pointer (some ⟨r, 0, none⟩) ∧ w0.heap.size ≤ r ∧ Blk wx r 29 [.int .i64 t.next, .slice A t.held.length c] ∧ wx.ownsRow w0.heap.size 41 2 (.slice A t.held.length c) t.held.length (messages t.held) ∧
    wx.ownsRow w0.heap.size 3 1 s10 t.ids.length (ints t.ids) ∧ (∀ g, s10.ownBlock = some g → (Value.slice A t.held.length c).ownBlock ≠ some g) ∧ (Value.slice A t.held.length c).ownBlock ≠ some r ∧ s10.ownBlock ≠ some r ∧ Below w0.heap.size w0 wx
theorem ownCut_new {w1 W : World} {lo c : Nat} {A : Option Addr} {o : Value} {t : TakeV} (hB : Below w1.heap.size w1 W)
    (hq : W.ownsRow lo 41 2 (.slice A t.held.length c) t.held.length (messages t.held)) (ho : W.ownsRow lo 3 1 o t.ids.length (ints t.ids)) (hd : ∀ g, o.ownBlock = some g → (Value.slice A t.held.length c).ownBlock ≠ some g) (hlo : w1.heap.size ≤ lo) :
    OwnCut w1 t (.pointer (some ⟨W.heap.size, 0, none⟩)) o (W.alloc (.cells #[.int .i64 t.next, .slice A t.held.length c] 29)) := by
  have hal : Below W.heap.size W (W.alloc (.cells #[.int .i64 t.next, .slice A t.held.length c] 29)) := (Below.refl _ _).alloc (Nat.le_refl _) _
  exact ⟨_, A, c, rfl, hB.size, Blk.new _ _ _, own_base (own_later hq hal) hlo, own_base (own_later ho hal) hlo, hd, fun e => by have := (hq.lt _ e).2; omega, fun e => by have := (ho.lt _ e).2; omega, below_trans hB hal⟩
theorem ownCut_fin {w1 W : World} {r lo c : Nat} {A : Option Addr} {o s0 s1 : Value} {t : TakeV} (hB : Below w1.heap.size w1 W) (hr : w1.heap.size ≤ r) (hR : Blk W r 29 [s0, s1])
    (hq : W.ownsRow lo 41 2 (.slice A t.held.length c) t.held.length (messages t.held)) (hlo : w1.heap.size ≤ lo) (ho : W.ownsRow lo 3 1 o t.ids.length (ints t.ids)) (hdis : ∀ g, o.ownBlock = some g → (Value.slice A t.held.length c).ownBlock ≠ some g) (hd : r < lo ∨ False) :
    OwnCut w1 t (.pointer (some ⟨r, 0, none⟩)) o ((W.setCell ⟨r, 0, none⟩ (.int .i64 t.next)).setCell ⟨r, 1, none⟩ (.slice A t.held.length c)) := by
  have hd' : r < lo := hd.elim id False.elim
  have hO : Out r (r + 1) W ((W.setCell ⟨r, 0, none⟩ (.int .i64 t.next)).setCell ⟨r, 1, none⟩ (.slice A t.held.length c)) := out_set (out_set (Out.refl _ _ _) _ _ _ (by omega) (by omega)) _ _ _ (by omega) (by omega)
  exact ⟨r, A, c, rfl, hr, (hR.set_ 0 _).set_ 1 _, own_base (own_out hq hO (fun g e => .inr (by have := (hq.lt g e).1; omega))) hlo, own_base (own_out ho hO (fun g e => .inr (by have := (ho.lt g e).1; omega))) hlo, hdis, fun e => by have := (hq.lt _ e).1; omega, fun e => by have := (ho.lt _ e).1; omega, below_out hB hO hr⟩
theorem markInboxO_any (next : Int) (A : Option Addr) (n c base : Nat) (k : Int) (xs : List Value) (w : World) (h : w.ownsRow base 41 2 (.slice A n c) n xs) (h0 : 0 ≤ k) (hk : k + 2 * n ≤ 1099511627776) :
    Calls Try.prog 19 #[.agg #[.int .i64 next, .slice A n c], .int .i64 k] w fun e w' => e = .returned (.int .i64 (k + ((2 * n : Nat) : Int))) ∧ w'.ownsRow base 41 2 (.slice A n c) n (messages (marksM k n)) ∧ w.grownBy w' (Value.slice A n c).ownBlock := by
  have hbl : Below w.heap.size w (w.alloc (.cells #[.int .i64 next, .slice A n c] 29)) := (Below.refl _ _).alloc (Nat.le_refl _) _
  have h1 := own_later h hbl
  have HO : Hid (w.grownBy (w.alloc (.cells #[.int .i64 next, .slice A n c] 29)) (Value.slice A n c).ownBlock) := Lib.hid (World.grownBy_alloc w _ _)
  clear hbl h
  go_enter Try.func19, Try.ntmps19
  go_wp2_with fail
  refine (markMessageS_any A n c base k xs _ h1 h0 hk).mono ?_
  rintro e w1 ⟨rfl, hrow, hgr⟩
  have HG := Lib.hid (World.grownBy.trans HO.out hgr)
  clear hgr h1
  go_wp2_with fail
  go_ret
  exact ⟨rfl, hrow, HG.out⟩
theorem grown_kept {w w' : World} {row : Option Nat} {base : Nat} {e : TypeId} {size n : Nat} {v : Value} {xs : List Value} (h : w.ownsRow base e size v n xs) (hg : w.grownBy w' row) (hne : ∀ g, v.ownBlock = some g → row ≠ some g) : w'.ownsRow base e size v n xs := by
  refine ⟨h.1, ?_⟩
  rcases h.2 with hn | ⟨g, cap, cur, rfl, hb, hgc, rest⟩
  · exact .inl hn
  · exact .inr ⟨g, cap, cur, rfl, hb, (hg.block g (Array.getElem?_eq_some_iff.1 hgc).1 (fun e => hne g rfl e.symm)).trans hgc, rest⟩
theorem below_grown {w0 w w' : World} {row : Option Nat} (hb : Below w0.heap.size w0 w) (hg : w.grownBy w' row) (hr : ∀ g, row = some g → w0.heap.size ≤ g) : Below w0.heap.size w0 w' :=
  hb.grown hg hb.size hr
theorem takeI_small (next : Int) (held : List MessageV) (m : MessageV) : (takeI next held m).held.length ≤ 6 ∧ (takeI next held m).ids.length ≤ 7 := by
  cases h : inbOk next held with
  | false => rw [takeI_bad h]; simp
  | true =>
    obtain ⟨_, _, _, h1, h2⟩ := takeI_law m h
    exact ⟨h2, h1⟩
theorem specCut_new {w1 W : World} {lo n c : Nat} {A : Option Addr} {o : Value} {t : TakeV} (hn : t.held.length = n) (hB : Below w1.heap.size w1 W)
    (hq : QueM W lo W.heap.size A n c t.held) (ho : W.ownsRow lo 3 1 o t.ids.length (ints t.ids)) (hlo : w1.heap.size ≤ lo) :
    SpecCut w1 t (.pointer (some ⟨W.heap.size, 0, none⟩)) o (W.alloc (.cells #[.int .i64 t.next, .slice A n c] 29)) := by
  subst hn
  have hal : Below W.heap.size W (W.alloc (.cells #[.int .i64 t.next, .slice A t.held.length c] 29)) := (Below.refl _ _).alloc (Nat.le_refl _) _
  have ho2 := OwnI.later (OwnI.of ho) hal
  exact ⟨_, A, c, rfl, hB.size, Blk.new _ _ _, (hq.later hal).wide hlo (by simp) (Nat.le_refl _), ⟨own_base ho2.row hlo, fun g e => by have := ho2.lt g e; simp; omega, Nat.le_refl _⟩, below_trans hB hal⟩
set_option maxRecDepth 100000 in
set_option maxHeartbeats 8000000 in
theorem walk0FnExactInboxTake (w : World) (v v2 : Value) (d : InbD) (h : IsInb w v d) (x0 x1 : Int) (h2 : v2 = .agg #[.int .i64 x0, .int .i64 x1]) :
    Calls Try.prog 6 #[v, v2] w fun e w' => e = .returned (.bool true) ∧ Below w.heap.size w w' := by
  obtain ⟨next, A, n, c, held⟩ := d
  obtain ⟨rfl, hin⟩ := h
  subst h2
  dsimp only at hin
  have hbl : Below w.heap.size w ((w.alloc (.cells #[.int .i64 next, .slice A n c] 24)).alloc (.cells #[.int .i64 x0, .int .i64 x1] 44)) := ((Below.refl _ _).alloc (Nat.le_refl _) _).alloc (by simp) _
  have hp : Blk ((w.alloc (.cells #[.int .i64 next, .slice A n c] 24)).alloc (.cells #[.int .i64 x0, .int .i64 x1] 44)) w.heap.size 24 [.int .i64 next, .slice A n c] := (Blk.new _ _ _).alloc _
  have hm : Blk ((w.alloc (.cells #[.int .i64 next, .slice A n c] 24)).alloc (.cells #[.int .i64 x0, .int .i64 x1] 44)) (w.heap.size + 1) 44 [.int .i64 x0, .int .i64 x1] := by simpa using Blk.new (w.alloc (.cells #[.int .i64 next, .slice A n c] 24)) 44 [.int .i64 x0, .int .i64 x1]
  have hin0 := hin.below hbl
  have HLEN := Lib.hid hin.len
  obtain ⟨t, ht⟩ : ∃ t, takeI next held ⟨x0, x1⟩ = t := ⟨_, rfl⟩
  have HT := Lib.hid ht
  clear ht
  go_enter Try.func6, Try.ntmps6
  go_wp2_with fail
  generalize (w.alloc (.cells #[.int .i64 next, .slice A n c] 24)).alloc (.cells #[.int .i64 x0, .int .i64 x1] 44) = w0 at *
  refine (szInbox_any next A n c _ hin0.max).mono ?_
  rintro e w1 ⟨r, rfl, hr, hb1⟩
  have HR := Lib.hid hr
  have b1 := Lib.hid (below_trans hbl hb1)
  have p1 := hp.later hb1
  have m1 := hm.later hb1
  clear hr hin0 hp hm hb1 hbl
  by_cases h0 : 0 ≤ r
  · have HS := Lib.hid (HR.out h0)
    have hsm := HR.out h0
    have c0 := p1.cellAt 0 (by simp)
    have c1 := p1.cellAt 1 (by simp)
    have d0 := m1.cellAt 0 (by simp)
    have d1 := m1.cellAt 1 (by simp)
    simp only [List.getElem_cons_zero, List.getElem_cons_succ] at c0 c1 d0 d1
    have lp := p1.lt
    have lm := m1.lt
    have PB := Lib.hid p1
    have MB := Lib.hid m1
    clear p1 m1
    go_upto_region 5 with fail
    go_cut [6, 7] (fun s6 s7 wx => SpecCut w1 t s6 s7 wx)
    case first =>
      go_region_held3 (fun W => Below w1.heap.size w1 W ∧ W.cell? ⟨w.heap.size, 0, none⟩ = some (.int .i64 next) ∧ W.cell? ⟨w.heap.size, 1, none⟩ = some (.slice A n c) ∧ W.cell? ⟨w.heap.size + 1, 0, none⟩ = some (.int .i64 x0) ∧ W.cell? ⟨w.heap.size + 1, 1, none⟩ = some (.int .i64 x1))
        (first
          | exact kept4 (Below.refl _ _) lp lm c0 c1 d0 d1
          | exact kept4 (Below.drew (Below.refl _ _)) lp lm c0 c1 d0 d1
          | exact kept4 (Below.drew ((Below.refl _ _).alloc (Nat.le_refl _) _)) lp lm c0 c1 d0 d1
          | exact kept4 kt lp lm c0 c1 d0 d1
          | exact kept4 kb lp lm c0 c1 d0 d1
          | exact kept4 ka lp lm c0 c1 d0 d1
          | exact kept4 (((‹Below w1.heap.size w1 _ ∧ _›).1).alloc ((‹Below w1.heap.size w1 _ ∧ _›).1.size) _) lp lm c0 c1 d0 d1
          | exact kept4 (kt.alloc kt.size _) lp lm c0 c1 d0 d1
          | exact kept4 ((kt.setCell (p := ⟨_, 0, none⟩) hrr _).setCell (p := ⟨_, 1, none⟩) hrr _) lp lm c0 c1 d0 d1)
        (first
          | (go_at_call 13
             have kc := (‹Below w1.heap.size w1 _ ∧ _›).1
             (with_reducible refine (toInbox_any next A n c held _ (hin.below (below_trans b1.out kc)) HS.out).mono ?_)
             rintro e wa ⟨_, rfl, SA, sc, rfl, Sa, hba⟩
             have ka := below_trans kc hba
             (first | (have hrk := (Blk.drew (Blk.new w1 29 [.int .i64 0, .slice none 0 0])).later hba; have hrr := Nat.le_refl w1.heap.size) | (have hrk := (Blk.new _ 29 [.int .i64 0, .slice none 0 0]).later hba; have hrr := hrr_of hrk (w1 := w1) (by first | exact Nat.le_refl _ | exact ka.size | exact kb.size)) | (have hrk2 := hrk.later hba; clear hrk; have hrk := hrk2; clear hrk2) | skip)
             clear hba kc)
          | (go_at_call 25
             have kc := (‹Below w1.heap.size w1 _ ∧ _›).1
             (with_reducible refine (toMessage_any ⟨x0, x1⟩ _).mono ?_)
             rintro e wb ⟨rfl, hbb⟩
             have kb := below_trans kc hbb
             (first | (have hrk := (Blk.drew (Blk.new w1 29 [.int .i64 0, .slice none 0 0])).later hbb; have hrr := Nat.le_refl w1.heap.size) | (have hrk := (Blk.new _ 29 [.int .i64 0, .slice none 0 0]).later hbb; have hrr := hrr_of hrk (w1 := w1) (by first | exact Nat.le_refl _ | exact ka.size | exact kb.size)) | (have hrk2 := hrk.later hbb; clear hrk; have hrk := hrk2; clear hrk2) | skip)
             (first | (have Sb := Sa.later hbb) | (have Sb := (Sa.later ((Below.refl _ _).alloc (Nat.le_refl _) _)).later hbb) | skip)
             clear kc)
          | (go_at_call 24
             have kc := (‹Below w1.heap.size w1 _ ∧ _›).1
             (with_reducible refine (specInboxTake' next SA n sc held x0 x1 _ HT.out HLEN.out (own_cap Sa.row) (by first | exact Sb.rd | exact (Sb.later ((Below.refl _ _).alloc (Nat.le_refl _) _)).rd) HS.out).mono ?_)
             rintro e wt ⟨_, rfl, TA, tn, tc, TO, rfl, TQ, TW, hbt⟩
             have kt := below_trans kc hbt
             have hlo := kc.size
             (first
               | (have hrk := (Blk.new _ 29 [.int .i64 0, .slice none 0 0]).later hbt; have hrr := hrr_of hrk (w1 := w1) (by first | exact Nat.le_refl _ | exact ka.size | exact kb.size); have rr0 := hrk.cellAt 0 (by simp); have rr1 := hrk.cellAt 1 (by simp); have rf0 := hrk.frozen 0; have rf1 := hrk.frozen 1; simp only [List.getElem_cons_zero, List.getElem_cons_succ] at rr0 rr1)
               | (have hrl := hrk.lt; have hrk2 := hrk.later hbt; clear hrk; have hrk := hrk2; clear hrk2; have rr0 := hrk.cellAt 0 (by simp); have rr1 := hrk.cellAt 1 (by simp); have rf0 := hrk.frozen 0; have rf1 := hrk.frozen 1; simp only [List.getElem_cons_zero, List.getElem_cons_succ] at rr0 rr1)
               | skip)
             clear kc))
      all_goals (go_wp2_with fail; go_meet)
      all_goals (first
        | exact specCut_new TQ.len kt TQ TW hlo
        | exact specCut_fin rfl TQ.len.symm kt hrr hrk TQ hlo ⟨TW, fun g e => (TW.lt g e).2, Nat.le_refl _⟩ (.inl hrl)
        | exact specCut_fin rfl TQ.len.symm kt hrr hrk TQ hlo ⟨TW, fun g e => (TW.lt g e).2, Nat.le_refl _⟩ (.inl (by simp)))
    case rest =>
      obtain ⟨r6, WA, wcap, rfl, hr6, R6, QW, WO, bx⟩ := hcut
      generalize hw6 : wc = w6 at *
      clear hw6
      have b6 := Lib.hid (below_trans b1.out bx)
      have p6 := PB.out.later bx
      have m6 := MB.out.later bx
      have hs16 := bx.size
      have l6 := R6.lt
      clear c0 c1 d0 d1 bx PB MB
      have c0 := p6.cellAt 0 (by simp)
      have c1 := p6.cellAt 1 (by simp)
      simp only [List.getElem_cons_zero, List.getElem_cons_succ] at c0 c1
      go_wp2_with fail
      refine (toInbox_any next A n c held _ (hin.below b6.out) HS.out).mono ?_
      rintro e w7 ⟨_, rfl, XA, xc, rfl, X7, hb7⟩
      have hal : Below w7.heap.size w7 (w7.alloc (.cells #[.int .i64 next, .slice XA n xc] 29)) := (Below.refl _ _).alloc (Nat.le_refl _) _
      have X8 := X7.later hal
      have R8x : Blk (w7.alloc (.cells #[.int .i64 next, .slice XA n xc] 29)) w7.heap.size 29 [.int .i64 next, .slice XA n xc] := Blk.new _ _ _
      have b8 := Lib.hid (below_trans (below_trans b6.out hb7) hal)
      have p8 := (p6.later hb7).later hal
      have m8 := (m6.later hb7).later hal
      have R8 := (R6.later hb7).later hal
      have Q8 := (QW.later hb7).later hal
      have O8 := (WO.later hb7).later hal
      have hs67 := hb7.size
      have hs78 : w7.heap.size + 1 ≤ (w7.alloc (.cells #[.int .i64 next, .slice XA n xc] 29)).heap.size := by simp
      clear hb7 hal p6 m6 R6 QW WO X7 c0 c1
      go_upto_region 7 with fail
      generalize w7.alloc (.cells #[.int .i64 next, .slice XA n xc] 29) = w8 at *
      have c0 := R8x.cellAt 0 (by simp)
      have c1 := R8x.cellAt 1 (by simp)
      have d0 := m8.cellAt 0 (by simp)
      have d1 := m8.cellAt 1 (by simp)
      simp only [List.getElem_cons_zero, List.getElem_cons_succ] at c0 c1 d0 d1
      have lp := R8x.lt
      have lm := m8.lt
      have HX := Lib.hid X8
      have HRX := Lib.hid R8x
      have HM := Lib.hid m8
      have HP := Lib.hid p8
      have HR8 := Lib.hid R8
      have HQ8 := Lib.hid Q8
      have HO8 := Lib.hid O8
      clear X8 R8x m8 p8 R8 Q8 O8
      go_cut [9, 10] (fun s9 s10 wx => OwnCut w8 t s9 s10 wx)
      case first =>
        go_region_held3 (fun W => Below w8.heap.size w8 W ∧ W.cell? ⟨w7.heap.size, 0, none⟩ = some (.int .i64 next) ∧ W.cell? ⟨w7.heap.size, 1, none⟩ = some (.slice XA n xc) ∧ W.cell? ⟨w.heap.size + 1, 0, none⟩ = some (.int .i64 x0) ∧ W.cell? ⟨w.heap.size + 1, 1, none⟩ = some (.int .i64 x1))
          (first
            | exact kept4 (Below.refl _ _) lp lm c0 c1 d0 d1
            | exact kept4 (Below.drew (Below.refl _ _)) lp lm c0 c1 d0 d1
            | exact kept4 (Below.drew ((Below.refl _ _).alloc (Nat.le_refl _) _)) lp lm c0 c1 d0 d1
            | exact kept4 kt lp lm c0 c1 d0 d1
            | exact kept4 kb lp lm c0 c1 d0 d1
            | exact kept4 ka lp lm c0 c1 d0 d1
            | exact kept4 (((‹Below w8.heap.size w8 _ ∧ _›).1).alloc ((‹Below w8.heap.size w8 _ ∧ _›).1.size) _) lp lm c0 c1 d0 d1
            | exact kept4 (kt.alloc kt.size _) lp lm c0 c1 d0 d1
            | exact kept4 ((kt.setCell (p := ⟨_, 0, none⟩) hrr _).setCell (p := ⟨_, 1, none⟩) hrr _) lp lm c0 c1 d0 d1)
          (first
            | (go_at_call 25
               have kc := (‹Below w8.heap.size w8 _ ∧ _›).1
               (with_reducible refine (toMessage_any ⟨x0, x1⟩ _).mono ?_)
               rintro e wb ⟨rfl, hbb⟩
               have kb := below_trans kc hbb
               (first | (have hrk := (Blk.drew (Blk.new w8 29 [.int .i64 0, .slice none 0 0])).later hbb; have hrr := Nat.le_refl w8.heap.size) | (have hrk := (Blk.new _ 29 [.int .i64 0, .slice none 0 0]).later hbb; have hrr := hrr_of hrk (w1 := w8) (by first | exact Nat.le_refl _ | exact ka.size | exact kb.size)) | (have hrk2 := hrk.later hbb; clear hrk; have hrk := hrk2; clear hrk2) | skip)
               (first | (have Sb := Sa.later hbb) | (have Sb := (Sa.later ((Below.refl _ _).alloc (Nat.le_refl _) _)).later hbb) | skip)
               clear kc)
            | (go_at_call 26
               have kc := (‹Below w8.heap.size w8 _ ∧ _›).1
               (with_reducible refine (implInboxTake' next XA n xc held x0 x1 _ HT.out HLEN.out (HX.out.rd.below kc) HS.out).mono ?_)
               rintro e wt ⟨_, rfl, TA, tc, TO, rfl, TQ, TW, TD, hbt⟩
               have kt := below_trans kc hbt
               have hlo := kc.size
               (first
                 | (have hrk := (Blk.new _ 29 [.int .i64 0, .slice none 0 0]).later hbt; have hrr := hrr_of hrk (w1 := w8) (by first | exact Nat.le_refl _ | exact ka.size | exact kb.size); have rr0 := hrk.cellAt 0 (by simp); have rr1 := hrk.cellAt 1 (by simp); have rf0 := hrk.frozen 0; have rf1 := hrk.frozen 1; simp only [List.getElem_cons_zero, List.getElem_cons_succ] at rr0 rr1)
                 | (have hrl := hrk.lt; have hrk2 := hrk.later hbt; clear hrk; have hrk := hrk2; clear hrk2; have rr0 := hrk.cellAt 0 (by simp); have rr1 := hrk.cellAt 1 (by simp); have rf0 := hrk.frozen 0; have rf1 := hrk.frozen 1; simp only [List.getElem_cons_zero, List.getElem_cons_succ] at rr0 rr1)
                 | skip)
               clear kc))
        all_goals (go_wp2_with fail; go_meet)
        all_goals (first
          | exact ownCut_new kt TQ TW TD hlo
          | exact ownCut_fin kt hrr hrk TQ hlo TW TD (.inl hrl)
          | exact ownCut_fin kt hrr hrk TQ hlo TW TD (.inl (by simp)))
      case rest =>
        obtain ⟨r9, GA, gc, rfl, hr9, R9, G9, I9, hdis, hne9, hne10, bx⟩ := hcut
        generalize hw9 : wc = w9 at *
        clear hw9
        have hsml := takeI_small next held ⟨x0, x1⟩
        rw [HT.out] at hsml
        obtain ⟨hsm1, hsm2⟩ := hsml
        have b9 := Lib.hid (below_trans b8.out bx)
        have p9 := Lib.hid (HP.out.later bx)
        have m9 := Lib.hid (HM.out.later bx)
        have x9 := Lib.hid (HX.out.later bx)
        have rx9 := HRX.out.later bx
        have r69 := HR8.out.later bx
        have q9 := Lib.hid (HQ8.out.later bx)
        have o9 := HO8.out.later bx
        have hs89 := bx.size
        obtain ⟨IA, ic, rfl, _, _⟩ := own_slice I9
        obtain ⟨VA, vc, rfl, _, _⟩ := own_slice o9.row
        have HDIS := Lib.hid hdis
        have HN9 := Lib.hid hne9
        have HN10 := Lib.hid hne10
        clear c0 c1 d0 d1 bx HP HM HX HRX HR8 HQ8 HO8 hdis hne9 hne10
        have g0 := R9.cellAt 0 (by simp)
        have g1 := R9.cellAt 1 (by simp)
        have f0 := r69.cellAt 0 (by simp)
        have f1 := r69.cellAt 1 (by simp)
        simp only [List.getElem_cons_zero, List.getElem_cons_succ] at g0 g1 f0 f1
        have HR9 := Lib.hid R9
        have HG9 := Lib.hid G9
        have HI9 := Lib.hid I9
        have HR6 := Lib.hid r69
        have HO9 := Lib.hid o9
        have HRX := Lib.hid rx9
        clear R9 G9 I9 r69 o9 rx9
        have lr9 := HR9.out.lt
        generalize hml : t.held.length = m at *
        generalize hil : t.ids.length = l at *
        have HML := Lib.hid hml
        have HIL := Lib.hid hil
        clear hml hil
        go_wp2_with fail
        refine (eqInbox_any t.next GA WA m gc wcap t.held _ HML.out (own_rd HG9.out) q9.out.rd (by omega)).mono ?_
        rintro e w10 ⟨rfl, hb10⟩
        go_wp2_with fail
        refine (eqIntS_any IA VA t.ids l ic vc HIL.out _ ((own_rd HI9.out).below hb10) (HO9.out.rd.below hb10) (by omega)).mono ?_
        rintro e w11 ⟨rfl, hb11⟩
        have bx := below_trans hb10 hb11
        have b11 := Lib.hid (below_trans b9.out bx)
        have p11 := p9.out.later bx
        have m11 := Lib.hid (m9.out.later bx)
        have x11 := Lib.hid (x9.out.later bx)
        have rx11 := HRX.out.later bx
        have r611 := Lib.hid (HR6.out.later bx)
        have q11 := Lib.hid (q9.out.later bx)
        have o11 := Lib.hid (HO9.out.later bx)
        have r911 := Lib.hid (HR9.out.later bx)
        have gg11 := Lib.hid (own_later HG9.out bx)
        have gi11 := Lib.hid (own_later HI9.out bx)
        have hs911 := bx.size
        clear hb10 hb11 bx p9 m9 x9 HRX HR6 q9 HO9 HR9 HG9 HI9 g0 g1 f0 f1
        have c0 := p11.cellAt 0 (by simp)
        have c1 := p11.cellAt 1 (by simp)
        have d0 := rx11.cellAt 0 (by simp)
        have d1 := rx11.cellAt 1 (by simp)
        simp only [List.getElem_cons_zero, List.getElem_cons_succ] at c0 c1 d0 d1
        have lp := p11.lt
        have lm := rx11.lt
        have HP := Lib.hid p11
        have HRX := Lib.hid rx11
        clear p11 rx11
        go_wp2_with fail
        go_region_held3 (fun w' => Below w11.heap.size w11 w' ∧ w'.cell? ⟨w.heap.size, 0, none⟩ = some (.int .i64 next) ∧ w'.cell? ⟨w.heap.size, 1, none⟩ = some (.slice A n c) ∧ w'.cell? ⟨w7.heap.size, 0, none⟩ = some (.int .i64 next) ∧ w'.cell? ⟨w7.heap.size, 1, none⟩ = some (.slice XA n xc))
          (first
            | exact kept4 (Below.refl _ _) lp lm c0 c1 d0 d1
            | exact kept4 (Below.drew (Below.refl _ _)) lp lm c0 c1 d0 d1
            | exact kept4 bq7 lp lm c0 c1 d0 d1
            | exact kept4 bq8 lp lm c0 c1 d0 d1)
          (first
            | (go_at_call 13; (with_reducible refine (toInbox_any next A n c held _ (hin.below b11.out).drew HS.out).mono ?_); rintro e w12 ⟨_, rfl, YA, yc, rfl, Y7, bq70⟩; have bq7 : Below w11.heap.size w11 w12 := ⟨bq70.os, bq70.tape, bq70.output, bq70.size, bq70.block⟩)
            | (go_at_call 15; (with_reducible refine (eqInbox_any next XA YA n xc yc held _ HLEN.out (x11.out.rd.below bq7) Y7.rd (by omega)).mono ?_); rintro e w13 ⟨rfl, bq80⟩; have bq8 : Below w11.heap.size w11 w13 := below_trans bq7 bq80))
        have b13 := Lib.hid (below_trans b11.out bq8)
        have p13 := HP.out.later bq8
        have m13 := m11.out.later bq8
        have x13 := x11.out.later bq8
        have rx13 := HRX.out.later bq8
        have r613 := r611.out.later bq8
        have q13 := q11.out.later bq8
        have o13 := o11.out.later bq8
        have r913 := r911.out.later bq8
        have gg13 := own_later gg11.out bq8
        have gi13 := own_later gi11.out bq8
        have d0 := rx13.cellAt 0 (by simp)
        have d1 := rx13.cellAt 1 (by simp)
        simp only [List.getElem_cons_zero, List.getElem_cons_succ] at d0 d1
        have PP := Lib.hid p13
        have PM := Lib.hid m13
        have P6 := Lib.hid r613
        have PQ := Lib.hid q13
        have PO := Lib.hid o13
        have P9 := Lib.hid r913
        have PG := Lib.hid gg13
        have PI := Lib.hid gi13
        have PX := Lib.hid x13
        clear bq8 bq7 HP m11 x11 HRX r611 q11 o11 r911 gg11 gi11 c0 c1 Y7 p13 m13 x13 rx13 r613 q13 o13 r913 gg13 gi13
        go_wp2_with fail
        refine (markInbox_any next XA n xc _ _ 1 _ _ PX.out (by omega) (by omega)).mono ?_
        rintro e w14 ⟨rfl, X14, ho14⟩
        have b14 := Lib.hid (below_out b13.out ho14 (by omega))
        have p14 := Lib.hid (PP.out.offO ho14 (.inl (by omega)))
        have m14 := Lib.hid (PM.out.offO ho14 (.inl (by omega)))
        have r614 := P6.out.offO ho14 (.inl (by omega))
        have q14 := Lib.hid (PQ.out.out ho14 (.inl (Nat.le_refl _)))
        have o14 := Lib.hid (PO.out.out ho14 (.inl (Nat.le_refl _)))
        have r914 := P9.out.offO ho14 (.inr (by omega))
        have gg14 := Lib.hid (own_out PG.out ho14 (fun g e => .inr (by have := (PG.out.lt g e).1; omega)))
        have gi14 := Lib.hid (own_out PI.out ho14 (fun g e => .inr (by have := (PI.out.lt g e).1; omega)))
        have g0 := r914.cellAt 0 (by simp)
        have g1 := r914.cellAt 1 (by simp)
        have f0 := r614.cellAt 0 (by simp)
        have f1 := r614.cellAt 1 (by simp)
        simp only [List.getElem_cons_zero, List.getElem_cons_succ] at g0 g1 f0 f1
        have HR9 := Lib.hid r914
        have HR6 := Lib.hid r614
        have h1n : 0 ≤ (1 : Int) + ((2 * n : Nat) : Int) := by omega
        clear X14 ho14 PX PP PM P6 PQ PO P9 PG PI d0 d1 r914 r614
        go_wp2_with fail
        refine (eqInbox_any t.next GA WA m gc wcap t.held _ HML.out (own_rd gg14.out) q14.out.rd (by omega)).mono ?_
        rintro e w15 ⟨rfl, hb15⟩
        go_wp2_with fail
        refine (eqIntS_any IA VA t.ids l ic vc HIL.out _ ((own_rd gi14.out).below hb15) (o14.out.rd.below hb15) (by omega)).mono ?_
        rintro e w16 ⟨rfl, hb16⟩
        have bx := below_trans hb15 hb16
        have b16 := Lib.hid (below_trans b14.out bx)
        have p16 := Lib.hid (p14.out.later bx)
        have m16 := Lib.hid (m14.out.later bx)
        have r616 := Lib.hid (HR6.out.later bx)
        have q16 := Lib.hid (q14.out.later bx)
        have o16 := Lib.hid (o14.out.later bx)
        have r916 := HR9.out.later bx
        have gg16 := Lib.hid (own_later gg14.out bx)
        have gi16 := Lib.hid (own_later gi14.out bx)
        have g0 := r916.cellAt 0 (by simp)
        have g1 := r916.cellAt 1 (by simp)
        simp only [List.getElem_cons_zero, List.getElem_cons_succ] at g0 g1
        have HR9 := Lib.hid r916
        have h16 := bx.size
        clear hb15 hb16 bx p14 m14 HR6 q14 o14 r916 gg14 gi14 f0 f1
        go_wp2_with fail
        refine (markInboxO_any t.next GA m gc w8.heap.size 1 _ _ gg16.out (by omega) (by omega)).mono ?_
        rintro e w17 ⟨rfl, gg17, gr17⟩
        have hgb : ∀ g, (Value.slice GA m gc).ownBlock = some g → w8.heap.size ≤ g := fun g e => (gg16.out.lt g e).1
        have b17 := Lib.hid (below_grown b16.out gr17 (fun g e => by have := hgb g e; omega))
        have p17 := Lib.hid (p16.out.offG gr17 (fun g e => by have := hgb g e; omega))
        have m17 := Lib.hid (m16.out.offG gr17 (fun g e => by have := hgb g e; omega))
        have r617 := Lib.hid (r616.out.offG gr17 (fun g e => by have := hgb g e; omega))
        have q17 := Lib.hid (q16.out.grown gr17 (fun g e => by have := hgb g e; omega))
        have o17 := Lib.hid (o16.out.out (out_of_grown (lo := w8.heap.size) (hi := w16.heap.size) gr17 (fun g e => ⟨hgb g e, (gg16.out.lt g e).2⟩)) (.inl (by omega)))
        have r917 := Lib.hid (HR9.out.offG gr17 (fun g e h => HN9.out (by rw [e, h])))
        have gi17 := Lib.hid (grown_kept gi16.out gr17 (fun g e => HDIS.out g e))
        have gg17' := Lib.hid gg17
        have h17 := gr17.size
        have h1m : 0 ≤ (1 : Int) + ((2 * m : Nat) : Int) := by omega
        clear gg17 gr17 p16 m16 r616 q16 o16 HR9 gg16 gi16 g0 g1 hgb
        go_wp2_with fail
        refine (markIntS_any IA l ic w8.heap.size _ _ _ gi17.out h1m (by omega)).mono ?_
        rintro e w18 ⟨rfl, gi18, gr18⟩
        have hgb : ∀ g, (Value.slice IA l ic).ownBlock = some g → w8.heap.size ≤ g := fun g e => (gi17.out.lt g e).1
        have b18 := Lib.hid (below_grown b17.out gr18 (fun g e => by have := hgb g e; omega))
        have p18 := Lib.hid (p17.out.offG gr18 (fun g e => by have := hgb g e; omega))
        have m18 := Lib.hid (m17.out.offG gr18 (fun g e => by have := hgb g e; omega))
        have r618 := Lib.hid (r617.out.offG gr18 (fun g e => by have := hgb g e; omega))
        have q18 := Lib.hid (q17.out.grown gr18 (fun g e => by have := hgb g e; omega))
        have o18 := Lib.hid (o17.out.out (out_of_grown (lo := w8.heap.size) (hi := w17.heap.size) gr18 (fun g e => ⟨hgb g e, (gi17.out.lt g e).2⟩)) (.inl (by omega)))
        have r918 := r917.out.offG gr18 (fun g e h => HN10.out (by rw [e, h]))
        have gg18 := Lib.hid (grown_kept gg17'.out gr18 (fun g e h => HDIS.out g h e))
        have gi18' := Lib.hid gi18
        have g0 := r918.cellAt 0 (by simp)
        have g1 := r918.cellAt 1 (by simp)
        simp only [List.getElem_cons_zero, List.getElem_cons_succ] at g0 g1
        have HR9 := Lib.hid r918
        have h18 := gr18.size
        clear gi18 gr18 p17 m17 r617 q17 o17 r917 r918 gg17' gi17 hgb
        go_wp2_with fail
        refine (heldInbox_any t.next GA m gc 1 _ (own_rd gg18.out) (by omega) (by omega)).mono ?_
        rintro e w19 ⟨rfl, hb19⟩
        go_wp2_with fail
        refine (heldIntS_any IA l ic _ _ ((own_rd gi18'.out).below hb19) h1m (by omega)).mono ?_
        rintro e w20 ⟨rfl, hb20⟩
        have bx := below_trans hb19 hb20
        have b20 := Lib.hid (below_trans b18.out bx)
        have p20 := p18.out.later bx
        have m20 := m18.out.later bx
        have r620 := Lib.hid (r618.out.later bx)
        have q20 := Lib.hid (q18.out.later bx)
        have o20 := Lib.hid (o18.out.later bx)
        have r920 := Lib.hid (HR9.out.later bx)
        have gg20 := Lib.hid (own_later gg18.out bx)
        have gi20 := Lib.hid (own_later gi18'.out bx)
        have hmm : ((1 : Int) + ((2 * m : Nat) : Int) + (l : Int) != 1 + ((2 * m : Nat) : Int) + (l : Int)) = false := by simp
        have h1ml : 0 ≤ (1 : Int) + ((2 * m : Nat) : Int) + (l : Int) := by omega
        clear hb19 hb20 bx p18 m18 r618 q18 o18 HR9 gg18 gi18' g0 g1
        go_upto_region 28 with fail
        have c0 := p20.cellAt 0 (by simp)
        have c1 := p20.cellAt 1 (by simp)
        have d0 := m20.cellAt 0 (by simp)
        have d1 := m20.cellAt 1 (by simp)
        simp only [List.getElem_cons_zero, List.getElem_cons_succ] at c0 c1 d0 d1
        have lp := p20.lt
        have lm := m20.lt
        clear p20 m20
        go_cut [14, 15] (fun s14 s15 wx => OwnCut w20 t s14 s15 wx)
        case first =>
          go_region_held3 (fun W => Below w20.heap.size w20 W ∧ W.cell? ⟨w.heap.size, 0, none⟩ = some (.int .i64 next) ∧ W.cell? ⟨w.heap.size, 1, none⟩ = some (.slice A n c) ∧ W.cell? ⟨w.heap.size + 1, 0, none⟩ = some (.int .i64 x0) ∧ W.cell? ⟨w.heap.size + 1, 1, none⟩ = some (.int .i64 x1))
            (first
              | exact kept4 (Below.refl _ _) lp lm c0 c1 d0 d1
              | exact kept4 (Below.drew (Below.refl _ _)) lp lm c0 c1 d0 d1
              | exact kept4 (Below.drew ((Below.refl _ _).alloc (Nat.le_refl _) _)) lp lm c0 c1 d0 d1
              | exact kept4 kt lp lm c0 c1 d0 d1
              | exact kept4 kb lp lm c0 c1 d0 d1
              | exact kept4 ka lp lm c0 c1 d0 d1
              | exact kept4 (((‹Below w20.heap.size w20 _ ∧ _›).1).alloc ((‹Below w20.heap.size w20 _ ∧ _›).1.size) _) lp lm c0 c1 d0 d1
              | exact kept4 (kt.alloc kt.size _) lp lm c0 c1 d0 d1
              | exact kept4 ((kt.setCell (p := ⟨_, 0, none⟩) hrr _).setCell (p := ⟨_, 1, none⟩) hrr _) lp lm c0 c1 d0 d1)
            (first
              | (go_at_call 13
                 have kc := (‹Below w20.heap.size w20 _ ∧ _›).1
                 (with_reducible refine (toInbox_any next A n c held _ (hin.below (below_trans b20.out kc)) HS.out).mono ?_)
                 rintro e wa ⟨_, rfl, SA, sc, rfl, Sa, hba⟩
                 have ka := below_trans kc hba
                 (first | (have hrk := (Blk.drew (Blk.new w20 29 [.int .i64 0, .slice none 0 0])).later hba; have hrr := Nat.le_refl w20.heap.size) | (have hrk := (Blk.new _ 29 [.int .i64 0, .slice none 0 0]).later hba; have hrr := hrr_of hrk (w1 := w20) (by first | exact Nat.le_refl _ | exact ka.size | exact kb.size)) | (have hrk2 := hrk.later hba; clear hrk; have hrk := hrk2; clear hrk2) | skip)
                 clear hba kc)
              | (go_at_call 25
                 have kc := (‹Below w20.heap.size w20 _ ∧ _›).1
                 (with_reducible refine (toMessage_any ⟨x0, x1⟩ _).mono ?_)
                 rintro e wb ⟨rfl, hbb⟩
                 have kb := below_trans kc hbb
                 (first | (have hrk := (Blk.drew (Blk.new w20 29 [.int .i64 0, .slice none 0 0])).later hbb; have hrr := Nat.le_refl w20.heap.size) | (have hrk := (Blk.new _ 29 [.int .i64 0, .slice none 0 0]).later hbb; have hrr := hrr_of hrk (w1 := w20) (by first | exact Nat.le_refl _ | exact ka.size | exact kb.size)) | (have hrk2 := hrk.later hbb; clear hrk; have hrk := hrk2; clear hrk2) | skip)
                 (first | (have Sb := Sa.later hbb) | (have Sb := (Sa.later ((Below.refl _ _).alloc (Nat.le_refl _) _)).later hbb) | skip)
                 clear kc)
              | (go_at_call 26
                 have kc := (‹Below w20.heap.size w20 _ ∧ _›).1
                 (with_reducible refine (implInboxTake' next SA n sc held x0 x1 _ HT.out HLEN.out (by first | exact Sb.rd | exact (Sb.later ((Below.refl _ _).alloc (Nat.le_refl _) _)).rd) HS.out).mono ?_)
                 rintro e wt ⟨_, rfl, TA, tc, TO, rfl, TQ, TW, TD, hbt⟩
                 have kt := below_trans kc hbt
                 have hlo := kc.size
                 (first
                   | (have hrk := (Blk.new _ 29 [.int .i64 0, .slice none 0 0]).later hbt; have hrr := hrr_of hrk (w1 := w20) (by first | exact Nat.le_refl _ | exact ka.size | exact kb.size); have rr0 := hrk.cellAt 0 (by simp); have rr1 := hrk.cellAt 1 (by simp); have rf0 := hrk.frozen 0; have rf1 := hrk.frozen 1; simp only [List.getElem_cons_zero, List.getElem_cons_succ] at rr0 rr1)
                   | (have hrl := hrk.lt; have hrk2 := hrk.later hbt; clear hrk; have hrk := hrk2; clear hrk2; have rr0 := hrk.cellAt 0 (by simp); have rr1 := hrk.cellAt 1 (by simp); have rf0 := hrk.frozen 0; have rf1 := hrk.frozen 1; simp only [List.getElem_cons_zero, List.getElem_cons_succ] at rr0 rr1)
                   | skip)
                 clear kc))
          all_goals (go_wp2_with fail; go_meet)
          all_goals (first
            | exact ownCut_new kt TQ TW TD hlo
            | exact ownCut_fin kt hrr hrk TQ hlo TW TD (.inl hrl)
            | exact ownCut_fin kt hrr hrk TQ hlo TW TD (.inl (by simp)))
        case rest =>
          obtain ⟨r21, HA, hc, rfl, hr21, R21, G21, I21, _, _, _, bx⟩ := hcut
          generalize hw21 : wc = w21 at *
          clear hw21
          rw [HML.out] at R21 G21
          rw [HIL.out] at I21
          obtain ⟨JA, jc, rfl, _, _⟩ := own_slice I21
          have b21 := Lib.hid (below_trans b20.out bx)
          have r621 := r620.out.later bx
          have q21 := Lib.hid (q20.out.later bx)
          have o21 := Lib.hid (o20.out.later bx)
          have r921 := Lib.hid (r920.out.later bx)
          have gg21 := Lib.hid (own_later gg20.out bx)
          have gi21 := Lib.hid (own_later gi20.out bx)
          have f0 := r621.cellAt 0 (by simp)
          have f1 := r621.cellAt 1 (by simp)
          have g0 := R21.cellAt 0 (by simp)
          have g1 := R21.cellAt 1 (by simp)
          simp only [List.getElem_cons_zero, List.getElem_cons_succ] at f0 f1 g0 g1
          have HG21 := Lib.hid G21
          have HI21 := Lib.hid I21
          clear bx r620 q20 o20 r920 gg20 gi20 c0 c1 d0 d1 G21 I21 r621 R21
          go_wp2_with fail
          refine (eqInbox_any t.next HA WA m hc wcap t.held _ HML.out (own_rd HG21.out) q21.out.rd (by omega)).mono ?_
          rintro e w22 ⟨rfl, hb22⟩
          go_wp2_with fail
          refine (eqIntS_any JA VA t.ids l jc vc HIL.out _ ((own_rd HI21.out).below hb22) (o21.out.rd.below hb22) (by omega)).mono ?_
          rintro e w23 ⟨rfl, hb23⟩
          have bx := below_trans hb22 hb23
          have b23 := Lib.hid (below_trans b21.out bx)
          have r923 := r921.out.later bx
          have gg23 := Lib.hid (own_later gg21.out bx)
          have gi23 := Lib.hid (own_later gi21.out bx)
          have g0 := r923.cellAt 0 (by simp)
          have g1 := r923.cellAt 1 (by simp)
          simp only [List.getElem_cons_zero, List.getElem_cons_succ] at g0 g1
          clear hb22 hb23 bx r921 gg21 gi21 q21 o21 HG21 HI21 f0 f1 r923
          go_wp2_with fail
          refine (heldInbox_any t.next GA m gc 1 _ (own_rd gg23.out) (by omega) (by omega)).mono ?_
          rintro e w24 ⟨rfl, hb24⟩
          go_wp2_with fail
          refine (heldIntS_any IA l ic _ _ ((own_rd gi23.out).below hb24) h1m (by omega)).mono ?_
          rintro e w25 ⟨rfl, hb25⟩
          have b25 := Lib.hid (below_trans b23.out (below_trans hb24 hb25))
          clear hb24 hb25 gg23 gi23 g0 g1
          go_wp2_with fail
          go_ret
          exact ⟨rfl, b25.out⟩
  · go_wp2_with fail
    go_ret
    exact ⟨rfl, b1.out⟩
theorem walkFnExactInboxTake (w : World) (v : Value) (d : InbD) (h : IsInb w v d) (v2 : Value) (m : MessageV) (h2 : IsMsg w v2 m) :
    Calls Try.prog 6 #[v, v2] w fun e w' => e = .returned (.bool true) ∧ Below w.heap.size w w' := walk0FnExactInboxTake w v v2 d h m.f0 m.f1 h2
end Go.Proofs.Ytnbppfgfmhfgdaa
