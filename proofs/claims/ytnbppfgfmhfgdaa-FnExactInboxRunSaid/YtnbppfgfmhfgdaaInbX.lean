/- What the exact laws do with an inbox: its size, a copy, whether two are equal; what a row's reading gives. -/
import Derived.Test.YtnbppfgfmhfgdaaInbS
import Derived.Test.YtnbppfgfmhfgdaaFrame
import Derived.Test.YtnbppfgfmhfgdaaOut
import Derived.Lib.SmallJoins
import Derived.Deep.SlicePairs
namespace Go.Proofs.Ytnbppfgfmhfgdaa
open Go Go.ChangeShapes Go.WideShapes Go.ChangeAt Go.RowKit Go.Deep
theorem bcell {W w1 : World} (hb : Below W.heap.size W w1) : (∀ b o, b < W.heap.size → w1.cell? ⟨b, o, none⟩ = W.cell? ⟨b, o, none⟩) ∧ (∀ b o, b < W.heap.size → w1.frozen? ⟨b, o, none⟩ = W.frozen? ⟨b, o, none⟩) :=
  ⟨fun b o h => hb.cell (p := ⟨b, o, none⟩) h, fun b o h => hb.frozen (p := ⟨b, o, none⟩) h⟩
theorem out_set {lo hi : Nat} {w0 w : World} (h : Out lo hi w0 w) (b i : Nat) (v : Value) (h1 : lo ≤ b) (h2 : b < hi) : Out lo hi w0 (w.setCell ⟨b, i, none⟩ v) :=
  h.trans ⟨rfl, rfl, rfl, by simp [World.setCell], fun k _ hn => Below.heap_setCell w ⟨b, i, none⟩ v k (by show k ≠ b; omega)⟩
/-- an inbox as it came in -/
structure InbIn (w : World) (A : Option Addr) (n c : Nat) (held : List MessageV) : Prop where
  len : held.length = n
  rd : RdV w A (messages held)
  max : n ≤ 9223372036854775807
theorem InbIn.below {w w' : World} {A : Option Addr} {n c : Nat} {held : List MessageV} (h : InbIn w A n c held) (hb : Below w.heap.size w w') : InbIn w' A n c held := ⟨h.len, h.rd.below hb, h.max⟩
theorem InbIn.drew {w : World} {A : Option Addr} {n c : Nat} {held : List MessageV} (h : InbIn w A n c held) : InbIn w.drew A n c held := h.below (Below.drew (Below.refl _ _))
theorem szInbox_any (next : Int) (A : Option Addr) (n c : Nat) (w : World) (hm : n ≤ 9223372036854775807) :
    Calls Try.prog 11 #[.agg #[.int .i64 next, .slice A n c], .int .i64 1048576] w (RInt fun r w' => (0 ≤ r → n ≤ 1048576) ∧ Below w.heap.size w w') := by
  have hbl : Below w.heap.size w (w.alloc (.cells #[.int .i64 next, .slice A n c] 24)) := (Below.refl _ _).alloc (Nat.le_refl _) _
  go_enter Try.func11, Try.ntmps11
  go_wp2_with fail
  refine (szMessageS_any A n c _ hm _ (by omega) (by omega)).mono ?_
  rintro e w' ⟨r, rfl, hr1, hr2, rfl⟩
  have HR : Hid (0 ≤ r → n ≤ 1048576) := Lib.hid fun h => by have := hr2 h; omega
  clear hr2
  by_cases h0 : 0 ≤ r
  · have := HR.out h0
    go_wp2_with fail
    go_ret
    exact RInt.mk ⟨HR.out, hbl⟩
  · go_wp2_with fail
    go_ret
    exact RInt.mk ⟨fun h => by omega, hbl⟩
/-- an inbox in memory of the call's own -/
def InbOut (w : World) (next : Int) (n : Nat) (held : List MessageV) : Ending → World → Prop :=
  RVal fun u w' => ∃ A c, u = .agg #[.int .i64 next, .slice A n c] ∧ OwnI w' w.heap.size w'.heap.size 41 2 (.slice A n c) n (messages held) ∧ Below w.heap.size w w'
set_option maxHeartbeats 1000000 in
theorem toInbox_any (next : Int) (A : Option Addr) (n c : Nat) (held : List MessageV) (w : World) (h : InbIn w A n c held) (hs : n ≤ 1048576) :
    Calls Try.prog 13 #[.agg #[.int .i64 next, .slice A n c]] w (InbOut w next n held) := by
  obtain ⟨h2, h3, h4⟩ := h
  have H2 := Lib.hid h2
  have hbl : Below w.heap.size w (((w.alloc (.cells #[.int .i64 next, .slice A n c] 24)).alloc (.cells #[.int .i64 0, .slice none 0 0] 29)).alloc (.cells #[.int .i64 next, .slice none 0 0] 29)) := (((Below.refl _ _).alloc (Nat.le_refl _) _).alloc (by simp) _).alloc (by simp; omega) _
  have HBL := Lib.hid hbl
  have h3' := h3.below hbl
  clear h2 h3 hbl
  go_enter Try.func13, Try.ntmps13
  go_wp2_with fail
  refine (toMessageS_any A held n c H2.out _ h3' hs).mono ?_
  rintro e w1 ⟨rfl, ho, hb1⟩
  obtain ⟨hc, hf⟩ := bcell hb1
  have hz : w.heap.size + 1 + 1 + 1 ≤ w1.heap.size := by have := hb1.size; simp at this; omega
  simp only [World.size_alloc] at ho
  have HO := Lib.hid ho
  have HB := Lib.hid hb1
  clear ho hb1 h3'
  go_wp2_with fail
  refine bodyPost_ret (v := .agg #[.int .i64 next, .slice (some ⟨w.heap.size + 1 + 1 + 1, 0, none⟩) n n]) (by simp [results, Try.results13, go_sem, hc]) rfl ?_
  have hO : Out w.heap.size (w.heap.size + 1 + 1 + 1) w1 (((w1.setCell ⟨w.heap.size + 1 + 1, 1, none⟩ (.slice (some ⟨w.heap.size + 1 + 1 + 1, 0, none⟩) n n)).setCell ⟨w.heap.size + 1, 0, none⟩ (.int .i64 next)).setCell ⟨w.heap.size + 1, 1, none⟩ (.slice (some ⟨w.heap.size + 1 + 1 + 1, 0, none⟩) n n)) :=
    out_set (out_set (out_set (Out.refl _ _ _) _ _ _ (by omega) (by omega)) _ _ _ (by omega) (by omega)) _ _ _ (by omega) (by omega)
  have hbb : Below w.heap.size w w1 := HBL.out.trans (HB.out.mono (by simp; omega))
  have hown2 : OwnI w1 (w.heap.size + 1 + 1 + 1) w1.heap.size 41 2 (.slice (some ⟨w.heap.size + 1 + 1 + 1, 0, none⟩) n n) n (messages held) := blk_ownI (size := 2) (n := n) HO.out (Nat.le_refl _) (by rw [messages_len, H2.out]) (by unfold maxLen; omega)
  have h3 := hown2.out hO (.inr (Nat.le_refl _))
  exact RVal.mk ⟨_, _, rfl, ⟨own_base h3.row (by omega), fun g e => Nat.lt_of_lt_of_le (h3.lt g e) hO.size, Nat.le_refl _⟩, below_out hbb hO (Nat.le_refl _)⟩
set_option maxHeartbeats 1000000 in
theorem eqInbox_any (next : Int) (A B : Option Addr) (n c d : Nat) (held : List MessageV) (w : World) (hn : held.length = n) (ha : RdV w A (messages held)) (hb : RdV w B (messages held)) (hm : n ≤ 1099511627776) :
    Calls Try.prog 15 #[.agg #[.int .i64 next, .slice A n c], .agg #[.int .i64 next, .slice B n d]] w fun e w' => e = .returned (.bool true) ∧ Below w.heap.size w w' := by
  have HN := Lib.hid hn
  have hbl : Below w.heap.size w ((w.alloc (.cells #[.int .i64 next, .slice A n c] 29)).alloc (.cells #[.int .i64 next, .slice B n d] 29)) := ((Below.refl _ _).alloc (Nat.le_refl _) _).alloc (by simp) _
  have HBL := Lib.hid hbl
  have ha' := ha.below hbl
  have hb' := hb.below hbl
  have hnn : (next != next) = false := by simp
  clear hn hbl ha hb
  go_enter Try.func15, Try.ntmps15
  go_wp2_with fail
  refine (eqMessageS_any A B held n c d HN.out _ ha' hb' hm).mono ?_
  rintro e w1 ⟨rfl, hb1⟩
  go_wp2_with fail
  go_ret
  exact ⟨rfl, below_trans HBL.out hb1⟩
end Go.Proofs.Ytnbppfgfmhfgdaa
