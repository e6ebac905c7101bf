/- The program's InboxTake. -/
import Derived.Test.YtehaacpeamhamaaInbTJ
namespace Go.Proofs.Ytehaacpeamhamaa
open Go Go.ChangeShapes Go.WideShapes Go.ChangeAt Go.RowKit
def TakeOwn (w : World) (t : TakeV) : Ending → World → Prop :=
  RVal fun u w' => ∃ A c o, u = .tuple #[.agg #[.int .i64 t.next, .slice A t.held.length c], o] ∧ w'.ownsRow w.heap.size 35 2 (.slice A t.held.length c) t.held.length (messages t.held) ∧
    w'.ownsRow w.heap.size 3 1 o t.ids.length (ints t.ids) ∧ (∀ g, o.ownBlock = some g → (Value.slice A t.held.length c).ownBlock ≠ some g) ∧ Below w.heap.size w w'
theorem takeFr_below {w0 w w' : World} {q : Nat} {row : Option Nat} (hb : Below w0.heap.size w0 w) (h : TakeFr w w' q row) (hq : w0.heap.size ≤ q) (hr : ∀ g, row = some g → w0.heap.size ≤ g) : Below w0.heap.size w0 w' :=
  ⟨h.os.trans hb.os, h.tape.trans hb.tape, h.output.trans hb.output, Nat.le_trans hb.size h.size, fun k hk => (h.block k (Nat.lt_of_lt_of_le hk hb.size) (by omega) (fun e => by have := hr k e; omega)).trans (hb.block k hk)⟩
theorem takeOwn_fin {w W : World} {R c : Nat} {A : Option Addr} {o : Value} {t : TakeV}
    (hB : Below w.heap.size w W) (hR : R = w.heap.size + 2) (hq : W.ownsRow (w.heap.size + 3) 35 2 (.slice A t.held.length c) t.held.length (messages t.held)) (ho : W.ownsRow (w.heap.size + 3) 3 1 o t.ids.length (ints t.ids))
    (hd : ∀ g, o.ownBlock = some g → (Value.slice A t.held.length c).ownBlock ≠ some g) :
    TakeOwn w t (.returned (.tuple #[.agg #[.int .i64 t.next, .slice A t.held.length c], o])) ((W.setCell ⟨R, 0, none⟩ (.int .i64 t.next)).setCell ⟨R, 1, none⟩ (.slice A t.held.length c)) := by
  subst hR
  have hO : Out (w.heap.size + 2) (w.heap.size + 3) W ((W.setCell ⟨w.heap.size + 2, 0, none⟩ (.int .i64 t.next)).setCell ⟨w.heap.size + 2, 1, none⟩ (.slice A t.held.length c)) :=
    out_set (out_set (Out.refl _ _ _) _ _ _ (by omega) (by omega)) _ _ _ (by omega) (by omega)
  exact RVal.mk ⟨A, c, o, rfl, own_base (own_out hq hO (fun g e => .inr (by have := (hq.lt g e).1; omega))) (by omega), own_base (own_out ho hO (fun g e => .inr (by have := (ho.lt g e).1; omega))) (by omega), hd, below_out hB hO (by omega)⟩
end Go.Proofs.Ytehaacpeamhamaa
