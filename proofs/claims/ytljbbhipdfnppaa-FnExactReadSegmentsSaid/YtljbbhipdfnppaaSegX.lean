/- What the exact laws do with a segment: its size, a copy, whether two are equal; what a row's reading gives. -/
import Derived.Test.YtljbbhipdfnppaaSzS
import Derived.Test.YtljbbhipdfnppaaStr
namespace Go.Proofs.Ytljbbhipdfnppaa
open Go Go.ChangeShapes Go.WideShapes Go.ChangeAt Go.RowKit
/-- a segment as it came in -/
structure SegIn (w : World) (tag : ByteArray) (A : Option Addr) (n c : Nat) (ess : List (List ByteArray)) : Prop where
  tag : tag.size ≤ 9223372036854775807
  len : ess.length = n
  rd : RdRR w A (strss ess)
  max : n ≤ 9223372036854775807
  txt : ∀ zs ∈ ess, ∀ p ∈ zs, p.size ≤ 9223372036854775807
theorem SegIn.below {w w' : World} {tag : ByteArray} {A : Option Addr} {n c : Nat} {ess : List (List ByteArray)} (h : SegIn w tag A n c ess) (hb : Below w.heap.size w w') : SegIn w' tag A n c ess := ⟨h.tag, h.len, h.rd.below hb, h.max, h.txt⟩
theorem SegIn.drew {w : World} {tag : ByteArray} {A : Option Addr} {n c : Nat} {ess : List (List ByteArray)} (h : SegIn w tag A n c ess) : SegIn w.drew tag A n c ess := h.below (Below.drew (Below.refl _ _))
/-- none of it is great -/
def SegSmall (tag : ByteArray) (n : Nat) (ess : List (List ByteArray)) : Prop := tag.size ≤ 1048576 ∧ n ≤ 1048576 ∧ ∀ zs ∈ ess, zs.length ≤ 1048576 ∧ ∀ p ∈ zs, p.size ≤ 1048576
theorem SegSmall.rows {tag : ByteArray} {n : Nat} {ess : List (List ByteArray)} (h : SegSmall tag n ess) : ∀ zs ∈ ess, zs.length ≤ 1099511627776 := fun zs hz => Nat.le_trans (h.2.2 zs hz).1 (by decide)
/-- a segment in memory of the call's own -/
def SegOut (w : World) (tag : ByteArray) (n : Nat) (ess : List (List ByteArray)) : Ending → World → Prop :=
  RVal fun u w' => ∃ A c, u = .agg #[.string tag, .slice A n c] ∧ OwnRR w' w.heap.size w'.heap.size 28 9 (.slice A n c) (strss ess) ∧ Below w.heap.size w w'
set_option maxHeartbeats 1000000 in
theorem eqSegment_any (tag : ByteArray) (A B : Option Addr) (n c d : Nat) (ess : List (List ByteArray)) (w : World) (hn : ess.length = n) (ha : RdRR w A (strss ess)) (hb : RdRR w B (strss ess)) (hm : n ≤ 1099511627776) (hin : ∀ zs ∈ ess, zs.length ≤ 1099511627776) :
    Calls Try.prog 19 #[.agg #[.string tag, .slice A n c], .agg #[.string tag, .slice B n d]] w fun e w' => e = .returned (.bool true) ∧ Below w.heap.size w w' := by
  have HN := Lib.hid hn
  have HI := Lib.hid hin
  have hbl : Below w.heap.size w ((w.alloc (.cells #[.string tag, .slice A n c] 25)).alloc (.cells #[.string tag, .slice B n d] 25)) := ((Below.refl _ _).alloc (Nat.le_refl _) _).alloc (by simp) _
  have HBL := Lib.hid hbl
  have ha' := ha.below hbl
  have hb' := hb.below hbl
  clear hn hin hbl ha hb
  go_enter Try.func19, Try.ntmps19
  go_wp2_with fail
  refine (eqStringSS_any A B ess n c d HN.out _ ha' hb' hm HI.out).mono ?_
  rintro e w1 ⟨rfl, hb1⟩
  go_wp2_with fail
  go_ret
  exact ⟨rfl, below_trans HBL.out hb1⟩
end Go.Proofs.Ytljbbhipdfnppaa
