/- FnExactInboxRun returns true, for all arguments; no condition. -/
import Derived.Test.YtnbppfgfmhfgdaaInbF
import Derived.Test.YtnbppfgfmhfgdaaInbRS
import Derived.Test.YtnbppfgfmhfgdaaMsgM
namespace Go.Proofs.Ytnbppfgfmhfgdaa
open Go Go.ChangeShapes Go.WideShapes Go.ChangeAt Go.RowKit
theorem own_cap {w : World} {base n c : Nat} {e : TypeId} {size : Nat} {A : Option Addr} {xs : List Value} (h : w.ownsRow base e size (.slice A n c) n xs) : n ≤ c := by
  obtain ⟨_, _, e, h1, _⟩ := own_slice h
  injection e with _ _ e3
  omega
theorem grown_kept {w w' : World} {row : Option Nat} {base : Nat} {e : TypeId} {size n : Nat} {v : Value} {xs : List Value} (h : w.ownsRow base e size v n xs) (hg : w.grownBy w' row) (hne : ∀ g, v.ownBlock = some g → row ≠ some g) : w'.ownsRow base e size v n xs := grown_own h hg hne
theorem markInboxO_any (next : Int) (A : Option Addr) (n c base : Nat) (k : Int) (xs : List Value) (w : World) (h : w.ownsRow base 41 2 (.slice A n c) n xs) (h0 : 0 ≤ k) (hk : k + 2 * n ≤ 1099511627776) :
    Calls Try.prog 19 #[.agg #[.int .i64 next, .slice A n c], .int .i64 k] w fun e w' => e = .returned (.int .i64 (k + ((2 * n : Nat) : Int))) ∧ w'.ownsRow base 41 2 (.slice A n c) n (messages (marksM k n)) ∧ w.grownBy w' (Value.slice A n c).ownBlock := by
  have hbl : Below w.heap.size w (w.alloc (.cells #[.int .i64 next, .slice A n c] 29)) := (Below.refl _ _).alloc (Nat.le_refl _) _
  have h1 := own_later h hbl
  have HO : Hid (w.grownBy (w.alloc (.cells #[.int .i64 next, .slice A n c] 29)) (Value.slice A n c).ownBlock) := Lib.hid (World.grownBy_alloc w _ _)
  clear hbl h
  go_enter Try.func19, Try.ntmps19
  go_wp2_with fail
  refine (markMessageS_any A n c base k xs _ h1 h0 hk).mono ?_
  rintro e w1 ⟨rfl, hrow, hgr⟩
  have HG := Lib.hid (World.grownBy.trans HO.out hgr)
  clear hgr h1
  go_wp2_with fail
  go_ret
  exact ⟨rfl, hrow, HG.out⟩
theorem szInbox_le (next : Int) (A : Option Addr) (n c : Nat) (w : World) (hm : n ≤ 9223372036854775807) :
    Calls Try.prog 11 #[.agg #[.int .i64 next, .slice A n c], .int .i64 1048576] w (RInt fun r w' => r ≤ 1048576 ∧ (0 ≤ r → n ≤ 1048576) ∧ Below w.heap.size w w') := by
  have hbl : Below w.heap.size w (w.alloc (.cells #[.int .i64 next, .slice A n c] 24)) := (Below.refl _ _).alloc (Nat.le_refl _) _
  go_enter Try.func11, Try.ntmps11
  go_wp2_with fail
  refine (szMessageS_any A n c _ hm _ (by omega) (by omega)).mono ?_
  rintro e w' ⟨r, rfl, hr1, hr2, rfl⟩
  have HR : Hid (0 ≤ r → n ≤ 1048576) := Lib.hid fun h => by have := hr2 h; omega
  clear hr2
  by_cases h0 : 0 ≤ r
  · have := HR.out h0
    go_wp2_with fail
    go_ret
    exact RInt.mk ⟨hr1, HR.out, hbl⟩
  · go_wp2_with fail
    go_ret
    exact RInt.mk ⟨by omega, fun h => by omega, hbl⟩
theorem specRun {t : TakeV} (next : Int) (A : Option Addr) (n c : Nat) (held : List MessageV) (B : Option Addr) (m d : Nat) (list : List MessageV) (w : World) (ht : runI next held list = t) (hn : held.length = n) (hc : n ≤ c) (hr : RdV w A (messages held)) (hm : n ≤ 1048576) (hln : list.length = m) (hlr : RdV w B (messages list)) (hlm : m ≤ 1048576) :
    Calls Try.prog 32 #[.agg #[.int .i64 next, .slice A n c], .slice B m d] w (TakeOut w t) := ht ▸ specInboxRun next A n c held B m d list w hn hc hr hm hln hlr hlm
theorem implRun {t : TakeV} (next : Int) (A : Option Addr) (n c : Nat) (held : List MessageV) (B : Option Addr) (m d : Nat) (list : List MessageV) (w : World) (ht : runI next held list = t) (hn : held.length = n) (hr : RdV w A (messages held)) (hm : n ≤ 1048576) (hln : list.length = m) (hlr : RdV w B (messages list)) (hlm : m ≤ 1048576) :
    Calls Try.prog 34 #[.agg #[.int .i64 next, .slice A n c], .slice B m d] w (TakeOwn w t) := ht ▸ implInboxRun next A n c held B m d list w hn hr hm hln hlr hlm
theorem runI_small (next : Int) (held list : List MessageV) : (runI next held list).held.length ≤ 6 ∧ (runI next held list).ids.length ≤ 999 := by
  cases h : inbOk next held with
  | false => rw [runI_bad h]; simp
  | true => rw [runI_ok h]; exact runsI_small h list
/-- the argument, and the reference's answer, all in blocks ahead of K -/
structure Ph1 (w : World) (K a r : Nat) (next : Int) (A : Option Addr) (n c : Nat) (WA : Option Addr) (m wcap : Nat) (VA : Option Addr) (l vc : Nat) (t : TakeV) (W : World) : Prop where
  below : Below w.heap.size w W
  p : Blk W a 24 [.int .i64 next, .slice A n c]
  r6 : Blk W r 29 [.int .i64 t.next, .slice WA m wcap]
  q : ∃ lo hi, hi ≤ K ∧ QueM W lo hi WA m wcap t.held
  o : ∃ lo hi, hi ≤ K ∧ OwnI W lo hi 3 1 (.slice VA l vc) l (ints t.ids)
  la : a < K
  lr : r < K
  lw : w.heap.size ≤ K
section
variable {w : World} {K a r : Nat} {next : Int} {A : Option Addr} {n c : Nat} {WA : Option Addr} {m wcap : Nat} {VA : Option Addr} {l vc : Nat} {t : TakeV} {W W' : World}
theorem Ph1.out {lo hi : Nat} (h : Ph1 w K a r next A n c WA m wcap VA l vc t W) (ho : Out lo hi W W') (hK : K ≤ lo) : Ph1 w K a r next A n c WA m wcap VA l vc t W' := by
  obtain ⟨h1, h2, h3, ⟨lo1, hi1, h4, h5⟩, ⟨lo2, hi2, h6, h7⟩, h8, h9, h10⟩ := h
  exact ⟨below_out h1 ho (by omega), h2.offO ho (.inl (by omega)), h3.offO ho (.inl (by omega)), ⟨lo1, hi1, h4, h5.out ho (.inl (by omega))⟩, ⟨lo2, hi2, h6, h7.out ho (.inl (by omega))⟩, h8, h9, h10⟩
theorem Ph1.later (h : Ph1 w K a r next A n c WA m wcap VA l vc t W) (hb : Below W.heap.size W W') : Ph1 w K a r next A n c WA m wcap VA l vc t W' := h.out (Below.out hb K K) (Nat.le_refl _)
theorem Ph1.rdq (h : Ph1 w K a r next A n c WA m wcap VA l vc t W) : RdV W WA (messages t.held) := by
  obtain ⟨_, _, _, h⟩ := h.q
  exact h.rd
theorem Ph1.rdo (h : Ph1 w K a r next A n c WA m wcap VA l vc t W) : RdV W VA (ints t.ids) := by
  obtain ⟨_, _, _, h⟩ := h.o
  exact h.rd
end
/-- the program's answer, in blocks from K on -/
structure Ph3 (K rg : Nat) (GA : Option Addr) (m gc : Nat) (IA : Option Addr) (l ic : Nat) (tn : Int) (xs ys : List Value) (W : World) : Prop where
  r9 : Blk W rg 29 [.int .i64 tn, .slice GA m gc]
  gg : W.ownsRow K 41 2 (.slice GA m gc) m xs
  gi : W.ownsRow K 3 1 (.slice IA l ic) l ys
  lr : K ≤ rg
  d1 : ∀ g, (Value.slice IA l ic).ownBlock = some g → (Value.slice GA m gc).ownBlock ≠ some g
  d2 : (Value.slice GA m gc).ownBlock ≠ some rg
  d3 : (Value.slice IA l ic).ownBlock ≠ some rg
section
variable {K rg : Nat} {GA : Option Addr} {m gc : Nat} {IA : Option Addr} {l ic : Nat} {tn : Int} {xs ys : List Value} {W W' : World}
theorem Ph3.out {lo hi : Nat} (h : Ph3 K rg GA m gc IA l ic tn xs ys W) (ho : Out lo hi W W') (hK : hi ≤ K) : Ph3 K rg GA m gc IA l ic tn xs ys W' := by
  obtain ⟨h1, h2, h3, h4, h5, h6, h7⟩ := h
  exact ⟨h1.offO ho (.inr (by omega)), own_out h2 ho (fun g e => .inr (by have := (h2.lt g e).1; omega)), own_out h3 ho (fun g e => .inr (by have := (h3.lt g e).1; omega)), h4, h5, h6, h7⟩
theorem Ph3.later (h : Ph3 K rg GA m gc IA l ic tn xs ys W) (hb : Below W.heap.size W W') : Ph3 K rg GA m gc IA l ic tn xs ys W' := h.out (Below.out hb 0 0) (Nat.zero_le _)
theorem Ph3.mgg {xs' : List Value} (h : Ph3 K rg GA m gc IA l ic tn xs ys W) (h' : W'.ownsRow K 41 2 (.slice GA m gc) m xs') (hg : W.grownBy W' (Value.slice GA m gc).ownBlock) : Ph3 K rg GA m gc IA l ic tn xs' ys W' := by
  obtain ⟨h1, h2, h3, h4, h5, h6, h7⟩ := h
  exact ⟨(hg.block rg h1.lt (fun e => h6 e.symm)).trans h1, h', grown_kept h3 hg (fun g e => h5 g e), h4, h5, h6, h7⟩
theorem Ph3.mgi {ys' : List Value} (h : Ph3 K rg GA m gc IA l ic tn xs ys W) (h' : W'.ownsRow K 3 1 (.slice IA l ic) l ys') (hg : W.grownBy W' (Value.slice IA l ic).ownBlock) : Ph3 K rg GA m gc IA l ic tn xs ys' W' := by
  obtain ⟨h1, h2, h3, h4, h5, h6, h7⟩ := h
  exact ⟨(hg.block rg h1.lt (fun e => h7 e.symm)).trans h1, grown_kept h2 hg (fun g e h => h5 g h e), h', h4, h5, h6, h7⟩
theorem Ph3.outG (h : Ph3 K rg GA m gc IA l ic tn xs ys W) (hg : W.grownBy W' (Value.slice GA m gc).ownBlock) : Out K W.heap.size W W' := out_of_grown hg (fun g e => h.gg.lt g e)
theorem Ph3.outI (h : Ph3 K rg GA m gc IA l ic tn xs ys W) (hg : W.grownBy W' (Value.slice IA l ic).ownBlock) : Out K W.heap.size W W' := out_of_grown hg (fun g e => h.gi.lt g e)
end
theorem kept4 {w W : World} {a b : Nat} {x0 x1 y0 y1 : Value} (hb : Below w.heap.size w W) (la : a < w.heap.size) (lb : b < w.heap.size) (p0 : w.cell? ⟨a, 0, none⟩ = some x0) (p1 : w.cell? ⟨a, 1, none⟩ = some x1) (m0 : w.cell? ⟨b, 0, none⟩ = some y0) (m1 : w.cell? ⟨b, 1, none⟩ = some y1) :
    Below w.heap.size w W ∧ W.cell? ⟨a, 0, none⟩ = some x0 ∧ W.cell? ⟨a, 1, none⟩ = some x1 ∧ W.cell? ⟨b, 0, none⟩ = some y0 ∧ W.cell? ⟨b, 1, none⟩ = some y1 :=
  ⟨hb, (hb.cell (p := ⟨a, 0, none⟩) la).trans p0, (hb.cell (p := ⟨a, 1, none⟩) la).trans p1, (hb.cell (p := ⟨b, 0, none⟩) lb).trans m0, (hb.cell (p := ⟨b, 1, none⟩) lb).trans m1⟩
set_option maxRecDepth 100000 in
set_option maxHeartbeats 8000000 in
theorem walk0FnExactInboxRun (w : World) (v : Value) (d : InbD) (h : IsInb w v d) (B : Option Addr) (ln lc : Nat) (list : List MessageV) (hln : list.length = ln) (hlr : RdV w B (messages list)) (hlm : ln ≤ 9223372036854775807) :
    Calls Try.prog 8 #[v, .slice B ln lc] w fun e w' => e = .returned (.bool true) ∧ Below w.heap.size w w' := by
  obtain ⟨next, A, n, c, held⟩ := d
  obtain ⟨rfl, hin⟩ := h
  dsimp only at hin
  have hbl : Below w.heap.size w (w.alloc (.cells #[.int .i64 next, .slice A n c] 24)) := (Below.refl _ _).alloc (Nat.le_refl _) _
  have hp : Blk (w.alloc (.cells #[.int .i64 next, .slice A n c] 24)) w.heap.size 24 [.int .i64 next, .slice A n c] := Blk.new _ _ _
  have hin0 := hin.below hbl
  have HLEN := Lib.hid hin.len
  have HLL := Lib.hid hln
  clear hln
  obtain ⟨t, ht⟩ : ∃ t, runI next held list = t := ⟨_, rfl⟩
  have HT := Lib.hid ht
  have hsml := runI_small next held list
  rw [ht] at hsml
  obtain ⟨hsm1, hsm2⟩ := hsml
  clear ht
  go_enter Try.func8, Try.ntmps8
  go_wp2_with fail
  generalize w.alloc (.cells #[.int .i64 next, .slice A n c] 24) = w0 at *
  refine (szInbox_le next A n c _ hin0.max).mono ?_
  rintro e w1 ⟨r, rfl, hr1, hr, hb1⟩
  have HR := Lib.hid hr
  have HB1 := Lib.hid (below_trans hbl hb1)
  have hp1 := hp.later hb1
  clear hr hin0 hp hb1 hbl
  by_cases h0 : 0 ≤ r
  · have hnm := HR.out h0
    go_wp2_with fail
    refine (szMessageS_any B ln lc _ hlm r h0 hr1).mono ?_
    rintro e w' ⟨r2, rfl, hr21, hr22, rfl⟩
    have HR2 := Lib.hid hr22
    clear hr22
    by_cases h02 : 0 ≤ r2
    · have hlnm : ln ≤ 1048576 := by have := HR2.out h02; omega
      have c0 := hp1.cellAt 0 (by simp)
      have c1 := hp1.cellAt 1 (by simp)
      simp only [List.getElem_cons_zero, List.getElem_cons_succ] at c0 c1
      clear h0 hr1 hr21
      go_wp2_with fail
      refine (toInbox_any next A n c held _ (hin.below HB1.out) hnm).mono ?_
      rintro e w2 ⟨_, rfl, SA, sc, rfl, S2, hb2⟩
      have HB2 := Lib.hid (below_trans HB1.out hb2)
      have hp2 := Lib.hid (hp1.later hb2)
      clear hb2 HB1 hp1 c0 c1
      go_wp2_with fail
      refine (toMessageS_any B list ln lc HLL.out _ (hlr.below HB2.out) hlnm).mono ?_
      rintro e w3 ⟨rfl, Y3, hb3⟩
      have HB3 := Lib.hid (below_trans HB2.out hb3)
      have hp3 := Lib.hid (hp2.out.later hb3)
      have S3 := S2.later hb3
      have rdY := own_rd (own_of_blk (base := 0) (size := 2) Y3 (Nat.zero_le _) (by rw [messages_len, HLL.out]) (by unfold maxLen; omega))
      clear hb3 HB2 hp2 S2
      go_wp2_with fail
      refine (specRun next SA n sc held _ ln ln list _ HT.out HLEN.out (own_cap S3.row) S3.rd hnm HLL.out rdY hlnm).mono ?_
      rintro e w4 ⟨_, rfl, WA, wn, wcap, WO, rfl, WQ, WI, hb4⟩
      obtain ⟨VA, vc, rfl, _, _⟩ := own_slice WI
      have hal : Below w4.heap.size w4 (w4.alloc (.cells #[.int .i64 t.next, .slice WA wn wcap] 29)) := (Below.refl _ _).alloc (Nat.le_refl _) _
      have hb5 := below_trans hb4 hal
      have hsz5 : w4.heap.size + 1 ≤ (w4.alloc (.cells #[.int .i64 t.next, .slice WA wn wcap] 29)).heap.size := by simp
      have P5 : Ph1 w (w4.heap.size + 1) w.heap.size w4.heap.size next A n c WA wn wcap VA t.ids.length vc t (w4.alloc (.cells #[.int .i64 t.next, .slice WA wn wcap] 29)) :=
        ⟨below_trans HB3.out hb5, hp3.out.later hb5, Blk.new _ _ _, ⟨_, _, Nat.le_succ _, WQ.later hal⟩, ⟨_, _, Nat.le_succ _, (OwnI.of WI).later hal⟩, by have := HB3.out.size; have := hb4.size; have := hp3.out.lt; omega, Nat.lt_succ_self _, by have := HB3.out.size; have := hb4.size; omega⟩
      have hwn := WQ.len
      have HPH := Lib.hid P5
      have c0 := P5.p.cellAt 0 (by simp)
      have c1 := P5.p.cellAt 1 (by simp)
      simp only [List.getElem_cons_zero, List.getElem_cons_succ] at c0 c1
      generalize hil : t.ids.length = l at *
      have HIL := Lib.hid hil
      have HML := Lib.hid hwn
      rw [hwn] at hsm1
      clear hb4 hal hb5 HB3 hp3 S3 rdY Y3 WQ WI P5 hil hwn
      go_wp2_with fail
      generalize w4.alloc (.cells #[.int .i64 t.next, .slice WA wn wcap] 29) = w5 at *
      generalize hK : w4.heap.size + 1 = K at *
      clear hK
      generalize w4.heap.size = r6 at *
      refine (toInbox_any next A n c held _ (hin.below HPH.out.below) hnm).mono ?_
      rintro e w6 ⟨_, rfl, XA, xc, rfl, X6, hb6⟩
      have hal : Below w6.heap.size w6 (w6.alloc (.cells #[.int .i64 next, .slice XA n xc] 29)) := (Below.refl _ _).alloc (Nat.le_refl _) _
      have hb7 := below_trans hb6 hal
      have hRX : Blk (w6.alloc (.cells #[.int .i64 next, .slice XA n xc] 29)) w6.heap.size 29 [.int .i64 next, .slice XA n xc] := Blk.new _ _ _
      have HX7 := Lib.hid (X6.later hal)
      have HPH7 := Lib.hid (HPH.out.later hb7)
      have hs6 := hb6.size
      clear HPH hb6 hal hb7 X6 c0 c1
      go_wp2_with fail
      generalize w6.alloc (.cells #[.int .i64 next, .slice XA n xc] 29) = w7 at *
      have hs7 := hRX.lt
      refine (toMessageS_any B list ln lc HLL.out _ (hlr.below HPH7.out.below) hlnm).mono ?_
      rintro e w8 ⟨rfl, Y8, hb8⟩
      have hRX8 := hRX.later hb8
      have HX8 := Lib.hid (HX7.out.later hb8)
      have HPH8 := Lib.hid (HPH7.out.later hb8)
      have hs8 := hb8.size
      have hy8 := Y8.lt
      clear HX7 HPH7 hb8 hRX
      have d0 := hRX8.cellAt 0 (by simp)
      have d1 := hRX8.cellAt 1 (by simp)
      simp only [List.getElem_cons_zero, List.getElem_cons_succ] at d0 d1
      have HY8 := Lib.hid (show w8.ownsRow w7.heap.size 41 2 (.slice (some ⟨w7.heap.size, 0, none⟩) ln ln) ln (messages list) from own_of_blk Y8 (Nat.le_refl _) (by rw [messages_len, HLL.out]) (by unfold maxLen; omega))
      clear Y8
      go_wp2_with fail
      refine (implRun next XA n xc held _ ln ln list _ HT.out HLEN.out HX8.out.rd hnm HLL.out (own_rd HY8.out) hlnm).mono ?_
      rintro e w9 ⟨_, rfl, GA, gc, GO, rfl, G9, I9, hdis, hb9⟩
      obtain ⟨IA, ic, rfl, _, _⟩ := own_slice I9
      rw [HIL.out] at I9
      rw [HML.out] at G9 hdis
      rw [HIL.out] at hdis
      rw [HIL.out, HML.out]
      have hal : Below w9.heap.size w9 (w9.alloc (.cells #[.int .i64 t.next, .slice GA wn gc] 29)) := (Below.refl _ _).alloc (Nat.le_refl _) _
      have hb10 := below_trans hb9 hal
      have P3 : Ph3 w8.heap.size w9.heap.size GA wn gc IA l ic t.next (messages t.held) (ints t.ids) (w9.alloc (.cells #[.int .i64 t.next, .slice GA wn gc] 29)) :=
        ⟨Blk.new _ _ _, own_later G9 hal, own_later I9 hal, hb9.size, hdis, fun e => by have := (G9.lt _ e).2; omega, fun e => by have := (I9.lt _ e).2; omega⟩
      have HP3 := Lib.hid P3
      have HRX := Lib.hid (hRX8.later hb10)
      have HX10 := Lib.hid (HX8.out.later hb10)
      have HY10 := Lib.hid (own_later HY8.out hb10)
      have HPH10 := Lib.hid (HPH8.out.later hb10)
      have hs10 := hb10.size
      have f0 := HPH10.out.r6.cellAt 0 (by simp)
      have f1 := HPH10.out.r6.cellAt 1 (by simp)
      have g0 := P3.r9.cellAt 0 (by simp)
      have g1 := P3.r9.cellAt 1 (by simp)
      simp only [List.getElem_cons_zero, List.getElem_cons_succ] at f0 f1 g0 g1
      clear hb9 hal hb10 P3 hRX8 HX8 HY8 HPH8 G9 I9 hdis d0 d1
      go_wp2_with fail
      generalize w9.alloc (.cells #[.int .i64 t.next, .slice GA wn gc] 29) = w10 at *
      generalize w9.heap.size = rg at *
      refine (eqInbox_any t.next GA WA wn gc wcap t.held _ HML.out (own_rd HP3.out.gg) HPH10.out.rdq (by omega)).mono ?_
      rintro e w11 ⟨rfl, hb11⟩
      go_wp2_with fail
      refine (eqIntS_any IA VA t.ids l ic vc HIL.out _ ((own_rd HP3.out.gi).below hb11) (HPH10.out.rdo.below hb11) (by omega)).mono ?_
      rintro e w12 ⟨rfl, hb12⟩
      have hbx := below_trans hb11 hb12
      have HP12 := Lib.hid (HP3.out.later hbx)
      have HRX12 := Lib.hid (HRX.out.later hbx)
      have HX12 := Lib.hid (HX10.out.later hbx)
      have HY12 := Lib.hid (own_later HY10.out hbx)
      have HPH12 := Lib.hid (HPH10.out.later hbx)
      have hs12 := hbx.size
      clear hb11 hb12 hbx HP3 HRX HX10 HY10 HPH10 f0 f1 g0 g1
      have c0 := HPH12.out.p.cellAt 0 (by simp)
      have c1 := HPH12.out.p.cellAt 1 (by simp)
      have d0 := HRX12.out.cellAt 0 (by simp)
      have d1 := HRX12.out.cellAt 1 (by simp)
      simp only [List.getElem_cons_zero, List.getElem_cons_succ] at c0 c1 d0 d1
      have lp := HPH12.out.p.lt
      have lm := HRX12.out.lt
      go_wp2_with fail
      go_region_held3 (fun w' => Below w12.heap.size w12 w' ∧ w'.cell? ⟨w.heap.size, 0, none⟩ = some (.int .i64 next) ∧ w'.cell? ⟨w.heap.size, 1, none⟩ = some (.slice A n c) ∧ w'.cell? ⟨w6.heap.size, 0, none⟩ = some (.int .i64 next) ∧ w'.cell? ⟨w6.heap.size, 1, none⟩ = some (.slice XA n xc))
        (first
          | exact kept4 (Below.refl _ _) lp lm c0 c1 d0 d1
          | exact kept4 (Below.drew (Below.refl _ _)) lp lm c0 c1 d0 d1
          | exact kept4 bq7 lp lm c0 c1 d0 d1
          | exact kept4 bq8 lp lm c0 c1 d0 d1)
        (first
          | (go_at_call 13; (with_reducible refine (toInbox_any next A n c held _ (hin.below HPH12.out.below).drew hnm).mono ?_); rintro e w13 ⟨_, rfl, YA, yc, rfl, Y7, bq70⟩; have bq7 : Below w12.heap.size w12 w13 := ⟨bq70.os, bq70.tape, bq70.output, bq70.size, bq70.block⟩)
          | (go_at_call 15; (with_reducible refine (eqInbox_any next XA YA n xc yc held _ HLEN.out (HX12.out.rd.below bq7) Y7.rd (by omega)).mono ?_); rintro e w14 ⟨rfl, bq80⟩; have bq8 : Below w12.heap.size w12 w14 := below_trans bq7 bq80))
      have HP14 := Lib.hid (HP12.out.later bq8)
      have HRX14 := Lib.hid (HRX12.out.later bq8)
      have HX14 := Lib.hid (HX12.out.later bq8)
      have HY14 := Lib.hid (own_later HY12.out bq8)
      have HPH14 := Lib.hid (HPH12.out.later bq8)
      have hs14 := bq8.size
      clear bq7 bq70 bq8 bq80 Y7 HP12 HRX12 HX12 HY12 HPH12 c0 c1 d0 d1 lp lm
      go_wp2_with fail
      refine (toMessageS_any B list ln lc HLL.out _ (hlr.below HPH14.out.below) hlnm).mono ?_
      rintro e w15 ⟨rfl, Z15, hb15⟩
      have rdZ := Lib.hid (own_rd (own_of_blk (base := 0) (size := 2) Z15 (Nat.zero_le _) (by rw [messages_len, HLL.out]) (by unfold maxLen; omega)))
      have rdY := Lib.hid (own_rd (own_later HY14.out hb15))
      clear Z15
      go_wp2_with fail
      refine (eqMessageS_any _ _ list ln ln ln HLL.out _ rdY.out rdZ.out (by omega)).mono ?_
      rintro e w16 ⟨rfl, hb16⟩
      have hbx := below_trans hb15 hb16
      have HP16 := Lib.hid (HP14.out.later hbx)
      have HRX16 := HRX14.out.later hbx
      have HX16 := Lib.hid (HX14.out.later hbx)
      have HY16 := Lib.hid (own_later HY14.out hbx)
      have HPH16 := Lib.hid (HPH14.out.later hbx)
      have hs16 := hbx.size
      have d0 := HRX16.cellAt 0 (by simp)
      have d1 := HRX16.cellAt 1 (by simp)
      simp only [List.getElem_cons_zero, List.getElem_cons_succ] at d0 d1
      clear hb15 hb16 hbx HP14 HRX14 HX14 HY14 HPH14 rdZ rdY HRX16
      go_wp2_with fail
      refine (markInbox_any next XA n xc _ _ 1 _ _ HX16.out (by omega) (by omega)).mono ?_
      rintro e w17 ⟨rfl, _, ho17⟩
      have HP17 := Lib.hid (HP16.out.out ho17 (by omega))
      have HPH17 := Lib.hid (HPH16.out.out ho17 hsz5)
      have HY17 := Lib.hid (own_out HY16.out ho17 (fun g e => .inr (by have := (HY16.out.lt g e).1; omega)))
      have h1n : 0 ≤ (1 : Int) + ((2 * n : Nat) : Int) := by omega
      clear ho17 HP16 HX16 HY16 HPH16 d0 d1
      go_wp2_with fail
      refine (markMessageS_any _ ln ln _ _ _ _ HY17.out h1n (by omega)).mono ?_
      rintro e w18 ⟨rfl, _, hg18⟩
      have ho18 := out_of_grown (lo := w7.heap.size) (hi := w8.heap.size) hg18 (fun g e => by cases e; exact ⟨Nat.le_refl _, hy8⟩)
      have HP18 := Lib.hid (HP17.out.out ho18 (Nat.le_refl _))
      have HPH18 := Lib.hid (HPH17.out.out ho18 (by omega))
      have h1l : 0 ≤ (1 : Int) + ((2 * n : Nat) : Int) + ((2 * ln : Nat) : Int) := by omega
      have f0 := HPH18.out.r6.cellAt 0 (by simp)
      have f1 := HPH18.out.r6.cellAt 1 (by simp)
      have g0 := HP18.out.r9.cellAt 0 (by simp)
      have g1 := HP18.out.r9.cellAt 1 (by simp)
      simp only [List.getElem_cons_zero, List.getElem_cons_succ] at f0 f1 g0 g1
      clear hg18 ho18 HP17 HPH17 HY17
      go_wp2_with fail
      refine (eqInbox_any t.next GA WA wn gc wcap t.held _ HML.out (own_rd HP18.out.gg) HPH18.out.rdq (by omega)).mono ?_
      rintro e w19 ⟨rfl, hb19⟩
      go_wp2_with fail
      refine (eqIntS_any IA VA t.ids l ic vc HIL.out _ ((own_rd HP18.out.gi).below hb19) (HPH18.out.rdo.below hb19) (by omega)).mono ?_
      rintro e w20 ⟨rfl, hb20⟩
      have hbx := below_trans hb19 hb20
      have HP20 := Lib.hid (HP18.out.later hbx)
      have HPH20 := Lib.hid (HPH18.out.later hbx)
      have hs20 := hbx.size
      have g0 := HP20.out.r9.cellAt 0 (by simp)
      have g1 := HP20.out.r9.cellAt 1 (by simp)
      simp only [List.getElem_cons_zero, List.getElem_cons_succ] at g0 g1
      clear hb19 hb20 hbx HP18 HPH18 f0 f1 h1n h1l
      go_wp2_with fail
      refine (markInboxO_any t.next GA wn gc w8.heap.size 1 _ _ HP20.out.gg (by omega) (by omega)).mono ?_
      rintro e w21 ⟨rfl, gg21, gr21⟩
      have HP21 := Lib.hid (HP20.out.mgg gg21 gr21)
      have HPH21 := Lib.hid (HPH20.out.out (HP20.out.outG gr21) (by omega))
      have h1m : 0 ≤ (1 : Int) + ((2 * wn : Nat) : Int) := by omega
      clear gg21 gr21 HP20 HPH20 g0 g1
      go_wp2_with fail
      refine (markIntS_any IA l ic w8.heap.size _ _ _ HP21.out.gi h1m (by omega)).mono ?_
      rintro e w22 ⟨rfl, gi22, gr22⟩
      have HP22 := Lib.hid (HP21.out.mgi gi22 gr22)
      have HPH22 := Lib.hid (HPH21.out.out (HP21.out.outI gr22) (by omega))
      have g0 := HP22.out.r9.cellAt 0 (by simp)
      have g1 := HP22.out.r9.cellAt 1 (by simp)
      simp only [List.getElem_cons_zero, List.getElem_cons_succ] at g0 g1
      clear gi22 gr22 HP21 HPH21
      go_wp2_with fail
      refine (heldInbox_any t.next GA wn gc 1 _ (own_rd HP22.out.gg) (by omega) (by omega)).mono ?_
      rintro e w23 ⟨rfl, hb23⟩
      go_wp2_with fail
      refine (heldIntS_any IA l ic _ _ ((own_rd HP22.out.gi).below hb23) h1m (by omega)).mono ?_
      rintro e w24 ⟨rfl, hb24⟩
      have hbx := below_trans hb23 hb24
      have HP24 := Lib.hid (HP22.out.later hbx)
      have HPH24 := Lib.hid (HPH22.out.later hbx)
      have hmm : ((1 : Int) + ((2 * wn : Nat) : Int) + (l : Int) != 1 + ((2 * wn : Nat) : Int) + (l : Int)) = false := by simp
      have h1ml : 0 ≤ (1 : Int) + ((2 * wn : Nat) : Int) + (l : Int) := by omega
      have c0 := HPH24.out.p.cellAt 0 (by simp)
      have c1 := HPH24.out.p.cellAt 1 (by simp)
      simp only [List.getElem_cons_zero, List.getElem_cons_succ] at c0 c1
      clear hb23 hb24 hbx HP22 HPH22 g0 g1
      go_wp2_with fail
      refine (toInbox_any next A n c held _ (hin.below HPH24.out.below) hnm).mono ?_
      rintro e w25 ⟨_, rfl, SA2, sc2, rfl, S25, hb25⟩
      go_wp2_with fail
      refine (toMessageS_any B list ln lc HLL.out _ (hlr.below (HPH24.out.later hb25).below) hlnm).mono ?_
      rintro e w26 ⟨rfl, Y26, hb26⟩
      have rdY := own_rd (own_of_blk (base := 0) (size := 2) Y26 (Nat.zero_le _) (by rw [messages_len, HLL.out]) (by unfold maxLen; omega))
      have rdS := S25.rd.below hb26
      go_wp2_with fail
      refine (implRun next SA2 n sc2 held _ ln ln list _ HT.out HLEN.out rdS hnm HLL.out rdY hlnm).mono ?_
      rintro e w27 ⟨_, rfl, HA, hc, HO, rfl, G27, I27, _, hb27⟩
      obtain ⟨JA, jc, rfl, _, _⟩ := own_slice I27
      rw [HIL.out] at I27
      rw [HML.out] at G27
      rw [HIL.out, HML.out]
      have hal : Below w27.heap.size w27 (w27.alloc (.cells #[.int .i64 t.next, .slice HA wn hc] 29)) := (Below.refl _ _).alloc (Nat.le_refl _) _
      have hbx := below_trans (below_trans (below_trans hb25 hb26) hb27) hal
      have HP28 := Lib.hid (HP24.out.later hbx)
      have HPH28 := Lib.hid (HPH24.out.later hbx)
      have HG28 := Lib.hid (own_later G27 hal)
      have HI28 := Lib.hid (own_later I27 hal)
      have f0 := HPH28.out.r6.cellAt 0 (by simp)
      have f1 := HPH28.out.r6.cellAt 1 (by simp)
      simp only [List.getElem_cons_zero, List.getElem_cons_succ] at f0 f1
      clear hb25 hb26 hb27 hal hbx HP24 HPH24 G27 I27 rdY rdS Y26 S25 c0 c1
      go_wp2_with fail
      generalize w27.alloc (.cells #[.int .i64 t.next, .slice HA wn hc] 29) = w28 at *
      refine (eqInbox_any t.next HA WA wn hc wcap t.held _ HML.out (own_rd HG28.out) HPH28.out.rdq (by omega)).mono ?_
      rintro e w29 ⟨rfl, hb29⟩
      go_wp2_with fail
      refine (eqIntS_any JA VA t.ids l jc vc HIL.out _ ((own_rd HI28.out).below hb29) (HPH28.out.rdo.below hb29) (by omega)).mono ?_
      rintro e w30 ⟨rfl, hb30⟩
      have hbx := below_trans hb29 hb30
      have HP30 := Lib.hid (HP28.out.later hbx)
      have HPH30 := Lib.hid (HPH28.out.later hbx)
      have g0 := HP30.out.r9.cellAt 0 (by simp)
      have g1 := HP30.out.r9.cellAt 1 (by simp)
      simp only [List.getElem_cons_zero, List.getElem_cons_succ] at g0 g1
      clear hb29 hb30 hbx HP28 HPH28 HG28 HI28 f0 f1
      go_wp2_with fail
      refine (heldInbox_any t.next GA wn gc 1 _ (own_rd HP30.out.gg) (by omega) (by omega)).mono ?_
      rintro e w31 ⟨rfl, hb31⟩
      go_wp2_with fail
      refine (heldIntS_any IA l ic _ _ ((own_rd HP30.out.gi).below hb31) h1m (by omega)).mono ?_
      rintro e w32 ⟨rfl, hb32⟩
      have HPH32 := Lib.hid (HPH30.out.later (below_trans hb31 hb32))
      clear hb31 hb32 g0 g1 HP30 HPH30
      go_wp2_with fail
      go_ret
      exact ⟨rfl, HPH32.out.below⟩
    · go_wp2_with fail
      go_ret
      exact ⟨rfl, HB1.out⟩
  · go_wp2_with fail
    go_ret
    exact ⟨rfl, HB1.out⟩
theorem walkFnExactInboxRun (w : World) (v : Value) (d : InbD) (h : IsInb w v d) (v2 : Value) (B : Option Addr) (ln lc : Nat) (list : List MessageV) (h2 : v2 = .slice B ln lc) (hln : list.length = ln) (hlr : RdV w B (messages list)) (hlm : ln ≤ 9223372036854775807) :
    Calls Try.prog 8 #[v, v2] w fun e w' => e = .returned (.bool true) ∧ Below w.heap.size w w' := h2 ▸ walk0FnExactInboxRun w v d h B ln lc list hln hlr hlm
end Go.Proofs.Ytnbppfgfmhfgdaa
