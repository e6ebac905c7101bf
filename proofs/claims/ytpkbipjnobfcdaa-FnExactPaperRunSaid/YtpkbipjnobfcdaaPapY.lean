/- Marking papers: what stays is told by the types too. Papers and what was done, as the exact law on deeds holds them. -/
import Derived.Test.YtpkbipjnobfcdaaPapX
import Derived.Test.YtpkbipjnobfcdaaPapS
import Derived.Test.YtpkbipjnobfcdaaBoolM
import Derived.Test.YtpkbipjnobfcdaaDedM
namespace Go.Proofs.Ytpkbipjnobfcdaa
open Go Go.ChangeShapes Go.WideShapes Go.ChangeAt Go.RowKit
set_option linter.unusedVariables false
set_option linter.unusedSimpArgs false
/-- blocks and rows of other types than holds and numbers stay -/
def KeepT (w w' : World) : Prop := (∀ g T cs, T ≠ 38 → T ≠ 3 → Blk w g T cs → Blk w' g T cs) ∧ (∀ b T k u n cs, T ≠ 38 → T ≠ 3 → w.ownsRow b T k u n cs → w'.ownsRow b T k u n cs)
theorem KeepT.trans {a b c : World} (h : KeepT a b) (k : KeepT b c) : KeepT a c := ⟨fun g T cs h1 h2 hb => k.1 g T cs h1 h2 (h.1 g T cs h1 h2 hb), fun b T q u n cs h1 h2 ho => k.2 b T q u n cs h1 h2 (h.2 b T q u n cs h1 h2 ho)⟩
theorem keepT_below {w w' : World} (h : Below w.heap.size w w') : KeepT w w' := ⟨fun g T cs _ _ hb => hb.later h, fun b T q u n cs _ _ ho => own_later ho h⟩
theorem keepT_row {w w' : World} {base k n : Nat} {e : TypeId} {v : Value} {xs : List Value} (h : w.ownsRow base e k v n xs) (hg : w.grownBy w' v.ownBlock) (he : e = 38 ∨ e = 3) : KeepT w w' :=
  ⟨fun g T cs h1 h2 hb => own_blk_apart h hg hb (by rcases he with rfl | rfl <;> exact Ne.symm (by assumption)), fun b T q u m cs h1 h2 ho => own_own_apart h hg ho (by rcases he with rfl | rfl <;> exact Ne.symm (by assumption))⟩
set_option maxHeartbeats 1000000 in
theorem markPapersT_any (HA LA : Option Addr) (n hc m lc lo hi : Nat) (k : Int) (hs : List HoldV) (ls : List Int) (w : World) (h : PapI w lo hi HA n hc LA m lc hs ls) (h0 : 0 ≤ k) (hk : k + 2 * n + m ≤ 1099511627776) :
    Calls Try.prog 28 #[.agg #[.slice HA n hc, .slice LA m lc], .int .i64 k] w fun e w' => e = .returned (.int .i64 (k + ((2 * n : Nat) : Int) + (m : Int))) ∧ PapI w' lo hi HA n hc LA m lc (marksH k n) (marksI (k + ((2 * n : Nat) : Int)) m) ∧ Out lo hi w w' ∧ KeepT w w' := by
  have hbl : Below w.heap.size w (w.alloc (.cells #[.slice HA n hc, .slice LA m lc] 26)) := (Below.refl _ _).alloc (Nat.le_refl _) _
  have hp := h.later hbl
  have a0 := Blk.new w 26 [.slice HA n hc, .slice LA m lc]
  have hO1 := Lib.hid (Below.out hbl lo hi)
  have HK1 := Lib.hid (keepT_below hbl)
  have htop : hi ≤ w.heap.size := h.hold.top
  have hsz := hbl.size
  clear h hbl
  go_enter Try.func28, Try.ntmps28
  go_wp2_with fail
  generalize w.alloc (.cells #[.slice HA n hc, .slice LA m lc] 26) = w1 at *
  refine (markHoldS_any HA n hc lo k _ _ hp.hold.row h0 (by omega)).mono ?_
  rintro e w2 ⟨rfl, hrow, hgr⟩
  obtain ⟨hH2, ho2⟩ := hp.hold.turned hrow hgr
  have hrow2 := own_own_apart hp.hold.row hgr hp.left.row (by decide)
  have hL2 : OwnI w2 lo hi 3 1 (.slice LA m lc) m (ints ls) := ⟨hrow2, hp.left.lt, Nat.le_trans hp.left.top hgr.size⟩
  have a2 : Blk w2 w.heap.size 26 [.slice HA n hc, .slice LA m lc] := (ho2.block _ a0.lt (.inr htop)).trans a0
  have x1 := a2.cellAt 1 (by simp)
  simp only [List.getElem_cons_zero, List.getElem_cons_succ] at x1
  have HO2 := Lib.hid (hO1.out.trans ho2)
  have HK2 := Lib.hid (HK1.out.trans (keepT_row hp.hold.row hgr (.inl rfl)))
  have HH := Lib.hid hH2
  have HL := Lib.hid hL2
  have hk2 : 0 ≤ k + ((2 * n : Nat) : Int) := by omega
  clear hp hrow hgr ho2 hrow2 hH2 hL2 a0 a2
  go_wp2_with fail
  refine (markIntS_any LA m lc lo (k + ((2 * n : Nat) : Int)) _ _ HL.out.row hk2 (by omega)).mono ?_
  rintro e w3 ⟨rfl, hrow, hgr⟩
  obtain ⟨hL3, ho3⟩ := HL.out.turned hrow hgr
  have hrow3 := own_own_apart HL.out.row hgr HH.out.row (by decide)
  have hH3 : OwnI w3 lo hi 38 2 (.slice HA n hc) n (holds (marksH k n)) := ⟨hrow3, HH.out.lt, Nat.le_trans HH.out.top hgr.size⟩
  have HF := Lib.hid (HO2.out.trans ho3)
  have HK3 := Lib.hid (HK2.out.trans (keepT_row HL.out.row hgr (.inr rfl)))
  have HP : Hid (PapI w3 lo hi HA n hc LA m lc (marksH k n) (marksI (k + ((2 * n : Nat) : Int)) m)) := Lib.hid ⟨marksH_len _ _, marksI_len _ _, hH3, hL3⟩
  clear hrow hgr hL3 ho3 hrow3 hH3
  go_wp2_with fail
  go_ret
  exact ⟨rfl, HP.out, HF.out, HK3.out⟩
/-- what PaperRun gave: papers in block q, what was done -/
structure RAt (W : World) (lo hi q n c m lc d dc : Nat) (A L D : Option Addr) (hs : List HoldV) (ls : List Int) (bs : List Bool) : Prop where
  pap : PapI W lo hi A n c L m lc hs ls
  don : OwnI W lo hi 4 1 (.slice D d dc) d (bools bs)
  len : bs.length = d
  blk : Blk W q 26 [.slice A n c, .slice L m lc]
section
variable {W W' : World} {lo hi q n c m lc d dc : Nat} {A L D : Option Addr} {hs : List HoldV} {ls : List Int} {bs : List Bool}
theorem RAt.later (h : RAt W lo hi q n c m lc d dc A L D hs ls bs) (hb : Below W.heap.size W W') : RAt W' lo hi q n c m lc d dc A L D hs ls bs := ⟨h.pap.later hb, h.don.later hb, h.len, h.blk.later hb⟩
theorem RAt.outT {lo' hi' : Nat} (h : RAt W lo hi q n c m lc d dc A L D hs ls bs) (ho : Out lo' hi' W W') (hd : hi ≤ lo' ∨ hi' ≤ lo) (hb : Blk W' q 26 [.slice A n c, .slice L m lc]) : RAt W' lo hi q n c m lc d dc A L D hs ls bs := ⟨h.pap.out ho hd, h.don.out ho hd, h.len, hb⟩
end
theorem rAt_new {W wt : World} {n c m lc d dc : Nat} {A L D : Option Addr} {hs : List HoldV} {ls : List Int} {bs : List Bool} (hn : hs.length = n) (hm : ls.length = m) (hd : bs.length = d) (o1 : wt.ownsRow W.heap.size 38 2 (.slice A n c) n (holds hs)) (o2 : wt.ownsRow W.heap.size 3 1 (.slice L m lc) m (ints ls)) (o3 : wt.ownsRow W.heap.size 4 1 (.slice D d dc) d (bools bs)) :
    RAt (wt.alloc (.cells #[.slice A n c, .slice L m lc] 26)) W.heap.size wt.heap.size wt.heap.size n c m lc d dc A L D hs ls bs := by
  have hal : Below wt.heap.size wt (wt.alloc (.cells #[.slice A n c, .slice L m lc] 26)) := (Below.refl _ _).alloc (Nat.le_refl _) _
  exact ⟨⟨hn, hm, (OwnI.of o1).later hal, (OwnI.of o2).later hal⟩, (OwnI.of o3).later hal, hd, Blk.new _ _ _⟩
theorem implRunL {W : World} {hs : List HoldV} {ls : List Int} {ds : List PaperDeedV} {r : PapV × List Bool} {A L D : Option Addr} {n c m lc d dc : Nat} (hpd : paperRun ⟨hs, ls⟩ (ds.map deedV) = r) (hr : PapRd W A L n m hs ls) (hrd : RdV W D (paperdeeds ds)) (hdn : ds.length = d) (h1 : n ≤ 1048576) (h2 : m ≤ 1048576) (h3 : d ≤ 1048576) :
    Calls Try.prog 14 #[.agg #[.slice A n c, .slice L m lc], .slice D d dc] W fun e w' => ∃ A2 n2 c2 L2 m2 lc2 D2 d2 dc2, e = .returned (.tuple #[.agg #[.slice A2 n2 c2, .slice L2 m2 lc2], .slice D2 d2 dc2]) ∧ r.1.hs.length = n2 ∧ r.1.ls.length = m2 ∧ r.2.length = d2 ∧ w'.ownsRow W.heap.size 38 2 (.slice A2 n2 c2) n2 (holds r.1.hs) ∧ w'.ownsRow W.heap.size 3 1 (.slice L2 m2 lc2) m2 (ints r.1.ls) ∧ w'.ownsRow W.heap.size 4 1 (.slice D2 d2 dc2) d2 (bools r.2) ∧ Below W.heap.size W w' := by
  refine (implPaperRun A L D n c m lc d dc hs ls ds W hr.hn hr.hm hdn hr.hold hr.left hrd h1 h2 h3).mono ?_
  rintro e w' ⟨_, rfl, A2, c2, L2, lc2, D2, dc2, rfl, o1, o2, o3, hb⟩
  rw [hpd] at o1 o2 o3 ⊢
  exact ⟨A2, _, c2, L2, _, lc2, D2, _, dc2, rfl, rfl, rfl, rfl, o1, o2, o3, hb⟩
theorem specRunL {W : World} {hs : List HoldV} {ls : List Int} {ds : List PaperDeedV} {r : PapV × List Bool} {A L D : Option Addr} {n c m lc d dc : Nat} (hpd : paperRun ⟨hs, ls⟩ (ds.map deedV) = r) (hr : PapRd W A L n m hs ls) (hrd : RdV W D (paperdeeds ds)) (hdn : ds.length = d) (h1 : n ≤ 1048576) (h2 : m ≤ 1048576) (h3 : d ≤ 1048576) :
    Calls Try.prog 31 #[.agg #[.slice A n c, .slice L m lc], .slice D d dc] W fun e w' => ∃ A2 n2 c2 L2 m2 lc2 D2 d2 dc2, e = .returned (.tuple #[.agg #[.slice A2 n2 c2, .slice L2 m2 lc2], .slice D2 d2 dc2]) ∧ r.1.hs.length = n2 ∧ r.1.ls.length = m2 ∧ r.2.length = d2 ∧ w'.ownsRow W.heap.size 38 2 (.slice A2 n2 c2) n2 (holds r.1.hs) ∧ w'.ownsRow W.heap.size 3 1 (.slice L2 m2 lc2) m2 (ints r.1.ls) ∧ w'.ownsRow W.heap.size 4 1 (.slice D2 d2 dc2) d2 (bools r.2) ∧ Below W.heap.size W w' := by
  refine (specPaperRun A L D n c m lc d dc hs ls ds W hr.hn hr.hm hdn hr.hold hr.left hrd h1 h2 h3).mono ?_
  rintro e w' ⟨_, rfl, A2, c2, L2, lc2, D2, dc2, rfl, o1, o2, o3, hb⟩
  rw [hpd] at o1 o2 o3 ⊢
  exact ⟨A2, _, c2, L2, _, lc2, D2, _, dc2, rfl, rfl, rfl, rfl, o1, o2, o3, hb⟩
theorem paperRun_small (p : PapV) (ds : List DeedV) : (paperRun p ds).1.hs.length ≤ 12 ∧ (paperRun p ds).1.ls.length ≤ 12 ∧ (paperRun p ds).2.length ≤ ds.length := by
  unfold paperRun
  by_cases h : papOkV p = true
  · rw [if_pos h]
    have := papOk_iff.1 (prun_ok h ds)
    exact ⟨this.2.2.1, this.2.2.2, by rw [prun_len]; exact Nat.le_refl _⟩
  · rw [if_neg h]
    exact ⟨by simp, by simp, by simp⟩
end Go.Proofs.Ytpkbipjnobfcdaa
