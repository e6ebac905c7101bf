/- What the exact laws do with an inbox: its size, a copy, whether two are equal; what a row's reading gives. -/
import Derived.Test.YtehaacpeamhamaaInbS
import Derived.Test.YtehaacpeamhamaaFrame
import Derived.Test.YtehaacpeamhamaaOut
import Derived.Lib.SmallJoins
import Derived.Deep.SlicePairs
namespace Go.Proofs.Ytehaacpeamhamaa
open Go Go.ChangeShapes Go.WideShapes Go.ChangeAt Go.RowKit Go.Deep
theorem bcell {W w1 : World} (hb : Below W.heap.size W w1) : (∀ b o, b < W.heap.size → w1.cell? ⟨b, o, none⟩ = W.cell? ⟨b, o, none⟩) ∧ (∀ b o, b < W.heap.size → w1.frozen? ⟨b, o, none⟩ = W.frozen? ⟨b, o, none⟩) :=
  ⟨fun b o h => hb.cell (p := ⟨b, o, none⟩) h, fun b o h => hb.frozen (p := ⟨b, o, none⟩) h⟩
theorem out_set {lo hi : Nat} {w0 w : World} (h : Out lo hi w0 w) (b i : Nat) (v : Value) (h1 : lo ≤ b) (h2 : b < hi) : Out lo hi w0 (w.setCell ⟨b, i, none⟩ v) :=
  h.trans ⟨rfl, rfl, rfl, by simp [World.setCell], fun k _ hn => Below.heap_setCell w ⟨b, i, none⟩ v k (by show k ≠ b; omega)⟩
/-- an inbox as it came in -/
structure InbIn (w : World) (A : Option Addr) (n c : Nat) (held : List MessageV) : Prop where
  len : held.length = n
  rd : RdV w A (messages held)
  max : n ≤ 9223372036854775807
theorem InbIn.below {w w' : World} {A : Option Addr} {n c : Nat} {held : List MessageV} (h : InbIn w A n c held) (hb : Below w.heap.size w w') : InbIn w' A n c held := ⟨h.len, h.rd.below hb, h.max⟩
theorem InbIn.drew {w : World} {A : Option Addr} {n c : Nat} {held : List MessageV} (h : InbIn w A n c held) : InbIn w.drew A n c held := h.below (Below.drew (Below.refl _ _))
/-- an inbox in memory of the call's own -/
def InbOut (w : World) (next : Int) (n : Nat) (held : List MessageV) : Ending → World → Prop :=
  RVal fun u w' => ∃ A c, u = .agg #[.int .i64 next, .slice A n c] ∧ OwnI w' w.heap.size w'.heap.size 35 2 (.slice A n c) n (messages held) ∧ Below w.heap.size w w'
end Go.Proofs.Ytehaacpeamhamaa
