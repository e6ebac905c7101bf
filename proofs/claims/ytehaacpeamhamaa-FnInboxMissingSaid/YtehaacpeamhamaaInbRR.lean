/- The program's InboxRun read as data; idFor. -/
import Derived.Test.YtehaacpeamhamaaInbRI
namespace Go.Proofs.Ytehaacpeamhamaa
open Go Go.ChangeShapes Go.WideShapes Go.ChangeAt Go.RowKit
/-- an answer that can be read, in new memory -/
def RunRd (w : World) (t : TakeV) : Ending → World → Prop :=
  RVal fun u w' => ∃ (A : Option Addr) (c : Nat) (O : Option Addr) (oc : Nat), u = .tuple #[.agg #[.int .i64 t.next, .slice A t.held.length c], .slice O t.ids.length oc] ∧ RdV w' A (messages t.held) ∧ RdV w' O (ints t.ids) ∧ Below w.heap.size w w'
theorem implRunRd {t : TakeV} (next : Int) (A : Option Addr) (n c : Nat) (held : List MessageV) (B : Option Addr) (m d : Nat) (list : List MessageV) (w : World) (ht : runI next held list = t) (hn : held.length = n) (hr : RdV w A (messages held)) (hm : n ≤ 1048576) (hln : list.length = m) (hlr : RdV w B (messages list)) (hlm : m ≤ 1048576) :
    Calls Try.prog 6 #[.agg #[.int .i64 next, .slice A n c], .slice B m d] w (RunRd w t) := by
  subst ht
  refine (implInboxRun next A n c held B m d list w hn hr hm hln hlr hlm).mono ?_
  rintro e w' ⟨_, rfl, A', c', o, rfl, h1, h2, _, hb⟩
  obtain ⟨O, oc, rfl, _, _⟩ := own_slice h2
  exact RVal.mk ⟨A', c', O, oc, rfl, own_rd h1, own_rd h2, hb⟩
theorem idFor_any (n : Int) (w : World) (h0 : 0 ≤ n) (h1 : n ≤ 100000) : Calls Try.prog 10 #[.int .i64 n] w fun e w' => e = .returned (.int .i64 (idOf n)) ∧ w = w' := by
  go_enter Try.func10, Try.ntmps10
  go_wp2_with fail
  go_ret
  exact ⟨by rw [show idOf n = 1 + n * 37 % 999 from by unfold idOf; omega]; rfl, rfl⟩
end Go.Proofs.Ytehaacpeamhamaa
