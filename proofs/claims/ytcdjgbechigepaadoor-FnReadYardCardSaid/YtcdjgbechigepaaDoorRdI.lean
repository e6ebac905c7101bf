/- impl.ReadYard. -/
import Derived.Test.YtcdjgbechigepaaDoorRdP
import Derived.Test.YtcdjgbechigepaaDoorYtI
import Derived.Test.YtcdjgbechigepaaDoorYdC
import Derived.Shelf.Abstract
import Derived.Shelf.RegionOpen
import Derived.WalkKit
import Derived.OwnWalkIn
import Derived.TacticsInMore
import Derived.LoopNIn
import Derived.LoopIn
namespace Go.Proofs.YtcdjgbechigepaaDoor
open Go Go.Shelf Go.ChangeShapes Go.WideShapes Go.ChangeAt Go.RowKit
set_option linter.unusedVariables false
attribute [local go_sem] Oper.semAt_some
/-- append(xs, ys...) onto a slice of the call's own, inside a fence -/
theorem append_srcIn {F : Fence} {m0 : Nat} {P : Program} {ops : Array Oper} {rest : List Oper} {o : Oper} {a : Act} {Q : Exit → Act → World → Prop} (hgd : o.guard = none) (s x : Operand) (t : TypeId)
    (ho : o.op = .call { callee := .builtin .append, args := #[s, x], argTypes := #[t, t] })
    (e : TypeId) (z : Value) (size bytes : Nat) (ht : P.underlying t = some (.slice e)) (hi : Info P e z size bytes)
    (base : Nat) (w : World) (v : Value) (n : Nat) (xs : List Value) (hs : a.eval s = v) (hown : w.ownsRow base e size v n xs)
    (A : Option Addr) (m c : Nat) (news : List Value) (hx : a.eval x = .slice A m c) (hl : news.length = m * size) (hr : RdV w A news) (h1 : ∀ u ∈ news, u.oneCell' = true)
    (hn : n + m ≤ 8589934593) (hbase : base ≤ w.heap.size)
    (h : ∀ v' w', w'.ownsRow base e size v' (n + m) (xs ++ news) → w.grownBy w' v.ownBlock → (v'.ownBlock = v.ownBlock ∨ v'.ownBlock = some w.heap.size) → wpListIn F m0 P ops Q rest (a.put o.dst v') w') :
    wpListIn F m0 P ops Q (o :: rest) a w := by
  refine wpListIn_plain hgd fun K hK => ?_
  obtain ⟨v', w', hrun, h2, h3, h4⟩ := run_append_src (P := P) w base t o.type e z size bytes ht hi v n xs hown A m c news hl hr h1 hn hbase
  unfold Oper.wpIn
  refine ⟨?_, ?_⟩
  · simp [Oper.about, ho, resolve, Target.leads, Sem.run_pure]
  · rw [Oper.semAt_plain F _ _ (by rw [ho]; intro c hc'; cases hc')]
    simp [execOp, ho, resolve, invoke, builtin, hs, hx, hrun, Result.andThen]
    exact hK _ _ (h v' w' h2 h3 h4)
/-- the yard in the making, in block y; its rows lie from lo on -/
def YardAt (W : World) (y lo : Nat) (high : Int) (rows : List (List Int)) : Prop :=
  ∃ A c, Blk W y 24 [.int .i64 high, .slice A rows.length c] ∧ OwnRR W lo W.heap.size 40 3 (.slice A rows.length c) (intss rows)
/-- between two rounds of the outer loop (b: the heap's size at the call) -/
def RdO (w0 : World) (high : Int) (pre : List (List UInt8)) (W : World) : Prop :=
  Below w0.heap.size w0 W ∧ Blk W w0.heap.size 24 [.int .i64 0, .slice none 0 0] ∧ Blk W (w0.heap.size + 1) 4 [.bool false] ∧ W.heap[w0.heap.size + 6]? = some (.deferred (some [])) ∧ w0.heap.size + 8 ≤ W.heap.size ∧
    ∃ rows, rdRows pre = some rows ∧ YardAt W (w0.heap.size + 2) (w0.heap.size + 8) high rows
/-- the function has returned from within -/
def RdX (w0 : World) (xs : List (List UInt8)) (W : World) : Prop :=
  Below w0.heap.size w0 W ∧ Blk W w0.heap.size 24 [.int .i64 0, .slice none 0 0] ∧ Blk W (w0.heap.size + 1) 4 [.bool false] ∧ W.heap[w0.heap.size + 6]? = some (.deferred (some [])) ∧ w0.heap.size + 8 ≤ W.heap.size ∧ rdRows xs = none
theorem rdO_out {w0 A B : World} {high : Int} {pre : List (List UInt8)} {p q : Nat} (h : RdO w0 high pre A) (ho : Out p q A B) (hp : w0.heap.size + 3 ≤ p ∧ q ≤ w0.heap.size + 6 ∨ w0.heap.size + 7 ≤ p ∧ q ≤ w0.heap.size + 8) : RdO w0 high pre B := by
  obtain ⟨h1, h2, h3, h4, h5, rows, h6, A1, c, h7, h8⟩ := h
  have l2 := h2.lt; have l3 := h3.lt; have l7 := h7.lt
  have l4 := (Array.getElem?_eq_some_iff.1 h4).1
  have hs := ho.size
  refine ⟨⟨ho.os.trans h1.os, ho.tape.trans h1.tape, ho.output.trans h1.output, Nat.le_trans h1.size ho.size, fun k hk => (ho.block k (Nat.lt_of_lt_of_le hk h1.size) (by omega)).trans (h1.block k hk)⟩, (ho.block _ l2 (by omega)).trans h2, (ho.block _ l3 (by omega)).trans h3, (ho.block _ l4 (by omega)).trans h4, by omega, rows, h6, A1, c, (ho.block _ l7 (by omega)).trans h7, (h8.out ho (.inr (by omega))).hi ho.size (Nat.le_refl _)⟩
theorem rdX_out {w0 A B : World} {xs : List (List UInt8)} {p q : Nat} (h : RdX w0 xs A) (ho : Out p q A B) (hp : w0.heap.size + 3 ≤ p ∧ q ≤ w0.heap.size + 6 ∨ w0.heap.size + 7 ≤ p ∧ q ≤ w0.heap.size + 8) : RdX w0 xs B := by
  obtain ⟨h1, h2, h3, h4, h5, h6⟩ := h
  have l2 := h2.lt; have l3 := h3.lt
  have l4 := (Array.getElem?_eq_some_iff.1 h4).1
  have hs := ho.size
  exact ⟨⟨ho.os.trans h1.os, ho.tape.trans h1.tape, ho.output.trans h1.output, Nat.le_trans h1.size ho.size, fun k hk => (ho.block k (Nat.lt_of_lt_of_le hk h1.size) (by omega)).trans (h1.block k hk)⟩, (ho.block _ l2 (by omega)).trans h2, (ho.block _ l3 (by omega)).trans h3, (ho.block _ l4 (by omega)).trans h4, by omega, h6⟩
theorem out_putObj (W : World) (l : Nat) (o : Obj) : Out l (l + 1) W (W.putObj l o) :=
  ⟨rfl, rfl, rfl, by simp, fun k _ hn => World.putObj_heap_other (by omega)⟩
theorem out_setCell (W : World) (p : Nat) (i : Nat) (v : Value) : Out p (p + 1) W (W.setCell ⟨p, i, none⟩ v) :=
  ⟨rfl, rfl, rfl, by simp [World.setCell], fun k _ hn => Below.heap_setCell W ⟨p, i, none⟩ v k (by show k ≠ p; omega)⟩
theorem kbB_put {b l : Nat} (hl : l < b ∨ b + 2 < l) {A B : World} (h : KbB b A B) (o : Obj) : KbB b A (B.putObj l o) := fun k h1 h2 => (World.putObj_heap_other (by omega)).trans (h k h1 h2)
theorem wpIn_world {F : Fence} {n : Nat} {P : Program} {c : Code} {Q : Exit → Act → World → Prop} {a : Act} {W : World} (h : ∀ V, V = W → c.wpIn F n P Q a V) : c.wpIn F n P Q a W := h W rfl
theorem rd_start {w V : World} {high : Int} {s : List UInt8} (hV : V = (((((w.alloc (.cells #[.int .i64 0, .slice none 0 0] 24)).alloc (.cells #[.bool false] 4)).alloc (.cells #[.int .i64 high, .slice none 0 0] 24)).alloc (.cells #[.string (txt s)] 9)).alloc (.cells #[.string (txt [32])] 9)).alloc (.cells #[.int .i64 0] 3)) :
    V.heap.size = w.heap.size + 6 ∧ Below w.heap.size w V ∧ Blk V w.heap.size 24 [.int .i64 0, .slice none 0 0] ∧ Blk V (w.heap.size + 1) 4 [.bool false] ∧ Blk V (w.heap.size + 2) 24 [.int .i64 high, .slice none 0 0] ∧
      Boxed V (w.heap.size + 3) 9 (.string (txt s)) ∧ Boxed V (w.heap.size + 3 + 1) 9 (.string (txt [32])) ∧ Boxed V (w.heap.size + 3 + 2) 3 (.int .i64 0) := by
  subst hV
  have e0 := Blk.new w 24 [.int .i64 0, .slice none 0 0]
  have q0 : Below w.heap.size w (w.alloc (.cells #[.int .i64 0, .slice none 0 0] 24)) := below_new (Below.refl _ _) _
  have z0 : (w.alloc (.cells #[.int .i64 0, .slice none 0 0] 24)).heap.size = w.heap.size + 1 := by simp
  change Blk (w.alloc (.cells #[.int .i64 0, .slice none 0 0] 24)) _ _ _ at e0
  generalize w.alloc (.cells #[.int .i64 0, .slice none 0 0] 24) = A at *
  have e1 := Blk.new A 4 [.bool false]
  have q1 := below_new q0 (.cells #[.bool false] 4)
  have z1 : (A.alloc (.cells #[.bool false] 4)).heap.size = w.heap.size + 2 := by simp [z0]
  have e01 := e0.alloc (.cells #[.bool false] 4)
  change Blk (A.alloc (.cells #[.bool false] 4)) _ _ _ at e1
  rw [z0] at e1
  generalize A.alloc (.cells #[.bool false] 4) = B at *
  have e2 := Blk.new B 24 [.int .i64 high, .slice none 0 0]
  have q2 := below_new q1 (.cells #[.int .i64 high, .slice none 0 0] 24)
  have z2 : (B.alloc (.cells #[.int .i64 high, .slice none 0 0] 24)).heap.size = w.heap.size + 3 := by simp [z1]
  have e02 := e01.alloc (.cells #[.int .i64 high, .slice none 0 0] 24)
  have e12 := e1.alloc (.cells #[.int .i64 high, .slice none 0 0] 24)
  change Blk (B.alloc (.cells #[.int .i64 high, .slice none 0 0] 24)) _ _ _ at e2
  rw [z1] at e2
  generalize B.alloc (.cells #[.int .i64 high, .slice none 0 0] 24) = C at *
  have e3 := Boxed.new C 9 (.string (txt s))
  rw [z2] at e3
  have e4 := Boxed.new (C.alloc (.cells #[.string (txt s)] 9)) 9 (.string (txt [32]))
  rw [World.size_alloc, z2] at e4
  have e5 := Boxed.new ((C.alloc (.cells #[.string (txt s)] 9)).alloc (.cells #[.string (txt [32])] 9)) 3 (.int .i64 0)
  rw [World.size_alloc, World.size_alloc, z2] at e5
  exact ⟨by simp [z2], below_new (below_new (below_new q2 _) _) _, ((e02.alloc _).alloc _).alloc _, ((e12.alloc _).alloc _).alloc _, ((e2.alloc _).alloc _).alloc _, (e3.alloc _).alloc _, e4.alloc _, e5⟩
/-- what comes of a text -/
def rdYard (high : Int) (s : List UInt8) : Int × List (List Int) × Bool :=
  match rdRows (cutB 32 s) with
  | none => (0, [], false)
  | some rows => if yardOk high rows = true ∧ yardT high rows = s then (high, rows, true) else (0, [], false)
/-- a yard and a truth value, in memory of the call's own -/
def RdOut (w : World) (x : Int × List (List Int) × Bool) : Ending → World → Prop :=
  RVal fun u w' => ∃ A c, u = .tuple #[.agg #[.int .i64 x.1, .slice A x.2.1.length c], .bool x.2.2] ∧ OwnRR w' w.heap.size w'.heap.size 40 3 (.slice A x.2.1.length c) (intss x.2.1) ∧ Below w.heap.size w w'
theorem rd_ret {w Z : World} {h : Int} {rows : List (List Int)} {ok : Bool} {A : Option Addr} {n c lo : Nat} {x : Int × List (List Int) × Bool} (hx : x = (h, rows, ok)) (hn : rows.length = n) (hB : Below w.heap.size w Z) (hlo : w.heap.size + 7 ≤ lo) (hO : OwnRR Z lo Z.heap.size 40 3 (.slice A n c) (intss rows)) (o : Obj) :
    RdOut w x (.returned (.tuple #[.agg #[.int .i64 h, .slice A n c], .bool ok])) (Z.putObj (w.heap.size + 6) o) := by
  subst hx hn
  have ho := out_putObj Z (w.heap.size + 6) o
  exact RVal.mk ⟨A, c, rfl, ((hO.out ho (.inr (by omega))).hi ho.size (Nat.le_refl _)).base (by omega), below_out hB ho (by omega)⟩
theorem int_infoR : Info Tryd.prog 3 (.int .i64 0) 1 8 := Info.mk' int_info rfl (by decide) (by decide)
/-- the results are stored -/
theorem val_store {B : World} {b : Nat} {u v x : Value} (u' v' x' : Value) (R0 : Blk B b 24 [u, v]) (R1 : Blk B (b + 1) 4 [x]) (W : World) (hW : W = ((B.setCell ⟨b, 0, none⟩ u').setCell ⟨b, 1, none⟩ v').setCell ⟨b + 1, 0, none⟩ x') :
    Blk W b 24 [u', v'] ∧ Blk W (b + 1) 4 [x'] ∧ Out b (b + 2) B W := by
  subst hW
  refine ⟨((R0.set_ 0 u').set_ 1 v').far (by show b ≠ b + 1; omega) _, ((R1.far (p := ⟨b, 0, none⟩) (by show b + 1 ≠ b; omega) _).far (p := ⟨b, 1, none⟩) (by show b + 1 ≠ b; omega) _).set_ 0 x', ?_⟩
  exact out_set (out_set (out_set (Out.refl _ _ _) _ _ _ (Nat.le_refl _) (by omega)) _ _ _ (Nat.le_refl _) (by omega)) _ _ _ (by omega) (by omega)
theorem zero_store {B : World} {b : Nat} {u v x : Value} (R0 : Blk B b 24 [u, v]) (R1 : Blk B (b + 1) 4 [x]) (W : World) (hW : W = ((B.setCell ⟨b, 0, none⟩ (.int .i64 0)).setCell ⟨b, 1, none⟩ (.slice none 0 0)).setCell ⟨b + 1, 0, none⟩ (.bool false)) :
    Blk W b 24 [.int .i64 0, .slice none 0 0] ∧ Blk W (b + 1) 4 [.bool false] ∧ Out b (b + 2) B W := val_store _ _ _ R0 R1 W hW
/-- between two rounds of the inner loop: the numbers so far, in the variable in block St -/
def RdN (St : Nat) (x : List UInt8) (C : World) (pre : List (List UInt8)) (W : World) : Prop :=
  Below St C W ∧ St + 5 ≤ W.heap.size ∧ (x = [45] → pre = []) ∧ ∃ zs v, rdNums pre = some zs ∧ Blk W St 40 [v] ∧ W.ownsRow (St + 5) 3 1 v zs.length (ints zs)
/-- the function has returned from within the inner loop -/
def RdNX (b St : Nat) (x : List UInt8) (C W : World) : Prop :=
  W.os = C.os ∧ W.tape = C.tape ∧ W.output = C.output ∧ C.heap.size ≤ W.heap.size ∧ (∀ k, k < St → (k < b ∨ b + 2 ≤ k) → W.heap[k]? = C.heap[k]?) ∧ Blk W b 24 [.int .i64 0, .slice none 0 0] ∧ Blk W (b + 1) 4 [.bool false] ∧ rdStack x = none
theorem own_outN {w w' : World} {lo p q : Nat} {e : TypeId} {size n : Nat} {v : Value} {xs : List Value} (h : w.ownsRow lo e size v n xs) (ho : Out p q w w') (hd : q ≤ lo) : w'.ownsRow lo e size v n xs :=
  ((OwnI.of h).out ho (.inr hd)).row
theorem rdN_out {St : Nat} {x : List UInt8} {C A B : World} {pre : List (List UInt8)} {p q : Nat} (h : RdN St x C pre A) (ho : Out p q A B) (hp : St < p ∧ q ≤ St + 5) : RdN St x C pre B := by
  obtain ⟨h1, h2, h3, zs, v, h4, h5, h6⟩ := h
  have l5 := h5.lt
  have hs := ho.size
  exact ⟨⟨ho.os.trans h1.os, ho.tape.trans h1.tape, ho.output.trans h1.output, Nat.le_trans h1.size ho.size, fun k hk => (ho.block k (by omega) (by omega)).trans (h1.block k hk)⟩, by omega, h3, zs, v, h4, (ho.block _ l5 (by omega)).trans h5, own_outN h6 ho (by omega)⟩
theorem rdNX_out {b St : Nat} {x : List UInt8} {C A B : World} {p q : Nat} (h : RdNX b St x C A) (ho : Out p q A B) (hb : b + 2 ≤ St) (hSC : St ≤ C.heap.size) (hp : St < p ∧ q ≤ St + 5) : RdNX b St x C B := by
  obtain ⟨h1, h2, h3, h4, h5, h6, h7, h8⟩ := h
  have l6 := h6.lt; have l7 := h7.lt
  exact ⟨ho.os.trans h1, ho.tape.trans h2, ho.output.trans h3, Nat.le_trans h4 ho.size, fun k hk hk2 => (ho.block k (by omega) (by omega)).trans (h5 k hk hk2), (ho.block _ l6 (by omega)).trans h6, (ho.block _ l7 (by omega)).trans h7, h8⟩
theorem rd_inner {B C : World} {x : List UInt8} (hC : C = (((B.alloc (.cells #[.slice none 0 0] 40)).alloc (.cells #[.string (txt x)] 9)).alloc (.cells #[.string (txt [44])] 9)).alloc (.cells #[.int .i64 0] 3)) :
    C.heap.size = B.heap.size + 4 ∧ Below B.heap.size B C ∧ Blk C B.heap.size 40 [.slice none 0 0] ∧
      Boxed C (B.heap.size + 1) 9 (.string (txt x)) ∧ Boxed C (B.heap.size + 1 + 1) 9 (.string (txt [44])) ∧ Boxed C (B.heap.size + 1 + 2) 3 (.int .i64 0) := by
  subst hC
  have e0 := Blk.new B 40 [.slice none 0 0]
  have q0 : Below B.heap.size B (B.alloc (.cells #[.slice none 0 0] 40)) := below_new (Below.refl _ _) _
  have z0 : (B.alloc (.cells #[.slice none 0 0] 40)).heap.size = B.heap.size + 1 := by simp
  change Blk (B.alloc (.cells #[.slice none 0 0] 40)) _ _ _ at e0
  generalize B.alloc (.cells #[.slice none 0 0] 40) = D at *
  have e3 := Boxed.new D 9 (.string (txt x))
  rw [z0] at e3
  have e4 := Boxed.new (D.alloc (.cells #[.string (txt x)] 9)) 9 (.string (txt [44]))
  rw [World.size_alloc, z0] at e4
  have e5 := Boxed.new ((D.alloc (.cells #[.string (txt x)] 9)).alloc (.cells #[.string (txt [44])] 9)) 3 (.int .i64 0)
  rw [World.size_alloc, World.size_alloc, z0] at e5
  exact ⟨by simp [z0], below_new (below_new (below_new q0 _) _) _, ((e0.alloc _).alloc _).alloc _, (e3.alloc _).alloc _, e4.alloc _, e5⟩
set_option maxRecDepth 100000 in
set_option maxHeartbeats 4000000 in
theorem implReadYard_in (high : Int) (s : List UInt8) (hs : s.length ≤ 1048577) (w : World) (ht : TabW w) (he : ErrsW w) :
    CallsIn Fence.wide 9 Tryd.prog 7 #[.string (txt s), .int .i64 high] w (RdOut w (rdYard high s)) := by
  refine callsIn_of_wp_marks Tryd.func7 rfl trivial ?_ rfl
  simp only [Tryd.ntmps7, List.size_toArray, List.length_cons, List.length_nil, Nat.reduceAdd, Nat.reduceSub, Array.replicate_succ, Array.replicate_zero, List.push_toArray, List.append_toArray, List.nil_append, List.cons_append]
  have cSp := fun s w => splitSeq_any (txt s) (txt [32]) w
  gi_wp2_with (refine ⟨trivial, ?_⟩; gi_at_call 21; refine (callsIn_wide.2 (cSp _ _)).mono ?_; rintro e w' ⟨rfl, rfl⟩)
  clear cSp
  refine wpIn_world fun V hV => ?_
  obtain ⟨hsz, hbel, k0, k1, k2, x0, x1, x2⟩ := rd_start hV
  clear hV
  refine range_outer (n := 8) rfl (gf := 58) (lb := #[.pointer (some ⟨w.heap.size + 3 + 1, 0, none⟩), .pointer (some ⟨w.heap.size + 3, 0, none⟩), .pointer (some ⟨w.heap.size + 3 + 2, 0, none⟩)]) ?hg trivial (enters_of Tryd.func58 (by kernel_rfl) rfl) rfl (b := w.heap.size + 3) (by omega) (xs := cutB 32 s) (Kb := KbB (w.heap.size + 3))
    (RdO w high) (fun c W => c = .ret ∧ RdX w (cutB 32 s) W) ?seq ?hK ?hI ?hIx ?hIb ?h0 ?round ?done ?stop
  case hg => rfl
  case seq => exact fun o o' => iter_split 8 _ (by decide) 32 s (by omega) _ ((x0.alloc _).alloc _) ((x1.alloc _).alloc _) ((x2.alloc _).alloc _)
  case hK => exact fun A B o h => kbB_put (by omega) h o
  case hI => exact fun y A o h => rdO_out h (out_putObj _ _ _) (by omega)
  case hIx => exact fun c A o h => ⟨h.1, rdX_out h.2 (out_putObj _ _ _) (by omega)⟩
  case hIb => exact fun pre A v h => rdO_out h (out_setCell _ _ _ _) (by omega)
  case h0 =>
    intro o
    refine ⟨below_new (below_new hbel _) _, (k0.alloc _).alloc _, (k1.alloc _).alloc _, ?_, by simp; omega, [], rfl, none, 0, (k2.alloc _).alloc _, ownRR_none _ _ _ _⟩
    have := World.alloc_heap_new V (.deferred (some []))
    rw [hsz] at this
    exact (Below.heap_alloc _ _ _ (by simp; omega)).trans this
  case round =>
    intro fn hfn r hr pre x A hA hpre hl
    have hl7 : V.heap.size + 1 = w.heap.size + 7 := by omega
    rw [hl7] at hl ⊢
    clear hr hfn
    gi_wp2
    refine ⟨(Below.heap_alloc A _ _ (Array.getElem?_eq_some_iff.1 hl).1).trans hl, ?_⟩
    refine wpIn_world fun B hB => ?_
    have hAl := (Array.getElem?_eq_some_iff.1 hl).1
    have hAB : Below A.heap.size A (A.alloc (.cells #[.string (txt x)] 9)) := below_new (Below.refl _ _) _
    have sB : B.heap.size = A.heap.size + 1 := by rw [hB]; simp
    have bx : Boxed B A.heap.size 9 (.string (txt x)) := by rw [hB]; exact (World.putObj_heap_other (by omega)).trans (Boxed.new A 9 (.string (txt x)))
    have hOB : RdO w high pre B := by rw [hB]; exact rdO_out (rdO_out hA (Below.out hAB (w.heap.size + 3) (w.heap.size + 3)) (by omega)) (out_putObj _ _ _) (by omega)
    have hLB : B.heap[w.heap.size + 7]? = some (.loop { r with state := .busy }) := by rw [hB]; exact World.putObj_heap_same (by simp; omega)
    have hKB : KbB (w.heap.size + 3) A B := by
      rw [hB]
      exact kbB_put (by omega) (fun k h1 h2 => Below.heap_alloc _ _ _ (by omega)) _
    have HSB := Lib.hid sB
    have HTX : Hid (A.heap.size < B.heap.size) := Lib.hid (by omega)
    clear hB hAB hA sB
    obtain ⟨hb, R0, R1, hD, hs8, rows, hrd, A1, c1, P, hO⟩ := hOB
    have hEB := he.kept (Nat.le_refl _) hb
    have d0 : B.cell? ⟨w.heap.size + 1 + 1, 0, none⟩ = some (.int .i64 high) := P.cellAt 0 (by simp)
    have d1 : B.cell? ⟨w.heap.size + 1 + 1, 1, none⟩ = some (.slice A1 rows.length c1) := P.cellAt 1 (by simp)
    have r0 := R0.cellAt 0 (by simp)
    have r1 := R0.cellAt 1 (by simp)
    have r2 := R1.cellAt 0 (by simp)
    have f0 := R0.frozen 0
    have f1 := R0.frozen 1
    have f2 := R1.frozen 0
    simp only [List.getElem_cons_zero, List.getElem_cons_succ] at r0 r1 r2
    have hrl := rdRows_len hrd
    have g0 := (bx.alloc (.cells #[.slice none 0 0] 40)).cell
    have HX := Lib.hid hpre
    have HRD := Lib.hid hrd
    generalize hn : rows.length = n at *
    by_cases h5 : n = 5
    · subst h5
      clear hpre hrd
      gi_wp2
      obtain ⟨y1, y2, y3⟩ := zero_store R0 R1 _ rfl
      refine ⟨(y3.block _ (by omega) (by omega)).trans hLB, rfl, below_out hb y3 (Nat.le_refl _), y1, y2, (y3.block _ (by omega) (by omega)).trans hD, by have := y3.size; omega, rdRows_pre HX.out ?_⟩
      rw [rdRows_snoc, HRD.out, rowStep, if_pos hn]
    · have cSp2 := fun w => splitSeq_any (txt x) (txt [44]) w
      have h5' : ¬ (n : Int) = 5 := by omega
      clear hpre hrd
      gi_wp2_with (refine ⟨trivial, ?_⟩; gi_at_call 21; refine (CallsIn.inRound _ (callsIn_wide.2 (cSp2 _))).mono ?_; rintro e w' ⟨rfl, rfl⟩)
      clear cSp2
      refine wpIn_world fun C hC => ?_
      obtain ⟨sC, hBC, kS, y0, y1, y2⟩ := rd_inner hC
      clear hC
      have hxl : x.length ≤ s.length := cutB_len (HX.out.subset (by simp))
      have hwB := hb.size
      refine range_inner (F := Fence.wide) (n := 6) (l0 := w.heap.size + 7) (r0 := { r with state := .busy }) ((hBC.block _ (by omega)).trans hLB) (gf := 58) (lb := #[.pointer (some ⟨B.heap.size + 1 + 1, 0, none⟩), .pointer (some ⟨B.heap.size + 1, 0, none⟩), .pointer (some ⟨B.heap.size + 1 + 2, 0, none⟩)]) ?hg2 trivial (enters_of Tryd.func58 (by kernel_rfl) rfl) rfl (b := B.heap.size + 1) (by omega) (xs := cutB 44 x) (Kb := KbB (B.heap.size + 1))
        (RdN B.heap.size x C) (fun c W => (c = .ret ∧ RdNX w.heap.size B.heap.size x C W) ∨ (c = .exit 2 ∧ x = [45] ∧ RdN B.heap.size x C [] W)) ?seq2 ?hK2 ?hI2 ?hIx2 ?hIb2 ?h02 ?round2 ?done2 ?stop2
      case hg2 => rfl
      case seq2 => exact fun o => iter_split 6 _ (by decide) 44 x (by omega) _ (y0.alloc _) (y1.alloc _) (y2.alloc _)
      case hK2 => exact fun A B o h => kbB_put (by omega) h o
      case hI2 => exact fun y A o h => rdN_out h (out_putObj _ _ _) (by omega)
      case hIx2 =>
        rintro c A o (⟨rfl, h⟩ | ⟨rfl, hx, h⟩)
        · exact .inl ⟨rfl, rdNX_out h (out_putObj _ _ _) (by omega) (by omega) (by omega)⟩
        · exact .inr ⟨rfl, hx, rdN_out h (out_putObj _ _ _) (by omega)⟩
      case hIb2 => exact fun pre A v h => rdN_out h (out_setCell _ _ _ _) (by omega)
      case h02 => exact fun o => ⟨(Below.refl _ _).alloc (by omega) _, by simp; omega, fun _ => rfl, [], .slice none 0 0, rfl, kS.alloc _, World.ownsRow_nil _ _ _ _⟩
      case round2 =>
        intro fn2 hfn2 r2 hr2 pre2 y A2 hA2 hpre2 hl2
        rw [sC] at hl2 ⊢
        clear hr2 hfn2
        gi_wp2
        refine ⟨hl2, ?_⟩
        refine wpIn_world fun E hE => ?_
        have hl2' := (Array.getElem?_eq_some_iff.1 hl2).1
        have hN : RdN B.heap.size x C pre2 E := by rw [hE]; exact rdN_out hA2 (out_putObj _ _ _) (by omega)
        have hLE : E.heap[B.heap.size + 4]? = some (.loop { r2 with state := .busy }) := by rw [hE]; exact World.putObj_heap_same (by omega)
        have hKE : KbB (B.heap.size + 1) A2 E := by rw [hE]; exact kbB_put (by omega) (fun k _ _ => rfl) _
        clear hE hA2
        obtain ⟨hCE, hsE, hx0, zs, v, hzs, kv, hv⟩ := hN
        obtain ⟨Av, cv, rfl, _, _⟩ := own_slice hv
        have hBE : Below B.heap.size B E := hBC.trans hCE
        have hEE := hEB.kept (Nat.le_refl _) hBE
        have e0 := Boxed.cell (W := E) (B := A.heap.size) ((hBE.block _ bx.lt).trans bx)
        have R0E : Blk E w.heap.size 24 [.int .i64 0, .slice none 0 0] := (hBE.block _ R0.lt).trans R0
        have R1E : Blk E (w.heap.size + 1) 4 [.bool false] := (hBE.block _ R1.lt).trans R1
        have s0 := kv.cellAt 0 (by simp)
        simp only [List.getElem_cons_zero] at s0
        have hCs := hCE.size
        have HPRE := Lib.hid hpre2
        have HZS := Lib.hid hzs
        have hyl : y.length ≤ x.length := cutB_len (hpre2.subset (by simp))
        by_cases hx : x = [45]
        · have hq : (x == [45]) = true := by rw [hx]; rfl
          obtain rfl := hx0 hx
          clear hpre2 hx0
          gi_wp2
          exact ⟨hLE, .inr ⟨rfl, hx, hCE, hsE, fun _ => rfl, zs, _, HZS.out, kv, hv⟩⟩
        · have hq : (x == [45]) = false := beq_eq_false_iff_ne.2 hx
          have cA := atoi_any y (by omega) E hEE
          have HFAIL : Hid (rdNums (pre2 ++ [y]) = none → rdStack x = none) := Lib.hid fun h => by
            unfold rdStack
            rw [if_neg hx]
            exact rdNums_pre HPRE.out h
          clear hpre2 hx0
          cases hy : atoiO y with
          | none =>
            have cA : Calls Tryd.prog 22 #[.string (txt y)] E fun e w' => Below E.heap.size E w' ∧ ∃ u t p, e = .returned (.tuple #[.int .i64 u, .iface t p]) := cA.mono fun e w' h => ⟨h.1, by
              rcases h.2 with ⟨v, h1, _⟩ | ⟨_, h2⟩
              · rw [hy] at h1; cases h1
              · exact h2⟩
            clear hzs
            gi_wp2_with (refine ⟨trivial, ?_⟩; gi_at_call 22; refine (CallsIn.inRound _ (callsIn_wide.2 cA)).mono ?_; rintro e w5 ⟨hw5, u, t, p, rfl⟩; have S0 := R0E.later hw5; have S1 := R1E.later hw5; have q0 := S0.cellAt 0 (by simp); have q1 := S0.cellAt 1 (by simp); have q2 := S1.cellAt 0 (by simp); have p0 := S0.frozen 0; have p1 := S0.frozen 1; have p2 := S1.frozen 0; simp only [List.getElem_cons_zero, List.getElem_cons_succ] at q0 q1 q2)
            have h5s := hw5.size
            obtain ⟨y1, y2, y3⟩ := zero_store S0 S1 _ rfl
            have hs3 := y3.size
            refine ⟨(y3.block _ (by omega) (by omega)).trans ((hw5.block _ (by omega)).trans hLE), .inl ⟨rfl, y3.os.trans (hw5.os.trans hCE.os), y3.tape.trans (hw5.tape.trans hCE.tape), y3.output.trans (hw5.output.trans hCE.output), by omega, fun k hk hk2 => (y3.block _ (by omega) (by omega)).trans ((hw5.block _ (by omega)).trans (hCE.block _ hk)), y1, y2, ?_⟩⟩
            exact HFAIL.out (by rw [rdNums_snoc, HZS.out]; simp only [numStep, hy])
          | some d =>
            have cA : Calls Tryd.prog 22 #[.string (txt y)] E fun e w' => Below E.heap.size E w' ∧ e = .returned (.tuple #[.int .i64 d, .nilIface]) := cA.mono fun e w' h => ⟨h.1, by
              rcases h.2 with ⟨v, h1, _, h3⟩ | ⟨h2, _⟩
              · rw [hy] at h1; cases h1; exact h3
              · rw [hy] at h2; cases h2⟩
            by_cases h5z : zs.length = 5
            · have h5z' : (zs.length : Int) = 5 := by omega
              clear hzs
              gi_wp2_with (refine ⟨trivial, ?_⟩; gi_at_call 22; refine (CallsIn.inRound _ (callsIn_wide.2 cA)).mono ?_; rintro e w5 ⟨hw5, rfl⟩; have S0 := R0E.later hw5; have S1 := R1E.later hw5; have q0 := S0.cellAt 0 (by simp); have q1 := S0.cellAt 1 (by simp); have q2 := S1.cellAt 0 (by simp); have p0 := S0.frozen 0; have p1 := S0.frozen 1; have p2 := S1.frozen 0; simp only [List.getElem_cons_zero, List.getElem_cons_succ] at q0 q1 q2; have t0 := (kv.later hw5).cellAt 0 (by simp); simp only [List.getElem_cons_zero] at t0)
              have h5s := hw5.size
              obtain ⟨y1, y2, y3⟩ := zero_store S0 S1 _ rfl
              have hs3 := y3.size
              refine ⟨(y3.block _ (by omega) (by omega)).trans ((hw5.block _ (by omega)).trans hLE), .inl ⟨rfl, y3.os.trans (hw5.os.trans hCE.os), y3.tape.trans (hw5.tape.trans hCE.tape), y3.output.trans (hw5.output.trans hCE.output), by omega, fun k hk hk2 => (y3.block _ (by omega) (by omega)).trans ((hw5.block _ (by omega)).trans (hCE.block _ hk)), y1, y2, ?_⟩⟩
              exact HFAIL.out (by rw [rdNums_snoc, HZS.out]; simp only [numStep, hy, if_pos h5z])
            · have h5z' : ¬ (zs.length : Int) = 5 := by omega
              have hzl := rdNums_len hzs
              generalize hzn : zs.length = z at *
              have HZN := Lib.hid hzn
              clear hzs hzn
              gi_wp2_with (first | (refine ⟨trivial, ?_⟩; gi_at_call 22; refine (CallsIn.inRound _ (callsIn_wide.2 cA)).mono ?_; rintro e w5 ⟨hw5, rfl⟩; have t0 := (kv.later hw5).cellAt 0 (by simp); have t1 := own_later hv hw5; have t2 := t1.alloc (.cells #[.int .i64 d] 3); have t3 := Blk.new w5 3 [.int .i64 d]; simp only [List.getElem_cons_zero] at t0; have h5s := hw5.size; have h5b : B.heap.size + 5 ≤ (w5.alloc (.cells #[.int .i64 d] 3)).heap.size := (by simp; omega)) | (gi_at_builtin; refine append_srcIn rfl (.tmp 40) (.tmp 42) 40 rfl 3 _ _ _ Tryd.underlying40 int_infoR (B.heap.size + 5) (w5.alloc (.cells #[.int .i64 d] 3)) (.slice Av z cv) z (ints zs) rfl t2 (some ⟨w5.heap.size, 0, none⟩) 1 1 [.int .i64 d] rfl rfl t3.rd (by simp [Value.oneCell']) (by omega) h5b ?_; intro v7 w7 hown7 hg7 hb7; obtain ⟨A7, c7, rfl, _, _⟩ := own_slice hown7; have k7 : Blk w7 B.heap.size 40 [.slice Av z cv] := (hg7.block _ ((kv.later hw5).alloc _).lt (fun e => by have := (t2.lt _ e.symm).1; omega)).trans ((kv.later hw5).alloc _); have i7 := k7.cellAt 0 (by simp); have j7 := k7.frozen 0; simp only [List.getElem_cons_zero] at i7))
              have hset : Out B.heap.size (B.heap.size + 1) w7 (w7.setCell ⟨B.heap.size, 0, none⟩ (.slice A7 (z + 1) c7)) := out_setCell _ _ _ _
              have hsl := hset.size
              have hg7s := hg7.size
              have hwl : w5.heap.size ≤ w7.heap.size := by simp at hg7s; omega
              have hold : ∀ k, k < E.heap.size → k ≠ B.heap.size → k < B.heap.size + 5 → (w7.setCell ⟨B.heap.size, 0, none⟩ (.slice A7 (z + 1) c7)).heap[k]? = E.heap[k]? := fun k hk hk2 hk3 =>
                (hset.block k (by omega) (by omega)).trans ((hg7.block k (by simp; omega) (fun e => by have := (t2.lt _ e.symm).1; omega)).trans ((Below.heap_alloc _ _ _ (by omega)).trans (hw5.block k hk)))
              refine ⟨(hold _ (by omega) (by omega) (by omega)).trans hLE, fun k h1 h2 => (hold k (by omega) (by omega) (by omega)).trans (hKE k h1 h2), ?_⟩
              refine ⟨⟨hset.os.trans (hg7.os.trans (hw5.os.trans hCE.os)), hset.tape.trans (hg7.tape.trans (hw5.tape.trans hCE.tape)), hset.output.trans (hg7.output.trans (hw5.output.trans hCE.output)), by omega, fun k hk => (hold k (by omega) (by omega) (by omega)).trans (hCE.block k hk)⟩, by omega, fun e => absurd e hx, zs ++ [d], .slice A7 (z + 1) c7, ?_, k7.set_ 0 _, ?_⟩
              · rw [rdNums_snoc, HZS.out]
                simp only [numStep, hy]
                rw [if_neg (by rw [HZN.out]; exact h5z)]
              · have := own_outN hown7 hset (by omega)
                rw [List.length_append, HZN.out]
                simpa [ints] using this
      case done2 =>
        rintro W ⟨hCW, hsW, hx0, zs, v, hzs, kv, hv⟩
        have hst : rdStack x = some zs := by
          unfold rdStack
          rw [if_neg (fun e => cutB_ne 44 x (hx0 e))]
          exact hzs
        obtain ⟨Av, cv, rfl, _, _⟩ := own_slice hv
        have hBW : Below B.heap.size B W := hBC.trans (hCW)
        have hWs := hBW.size
        obtain ⟨hs0, hadd⟩ := hO.add hs8
        rw [intss_len, hn] at hadd
        obtain ⟨ka, kblk, kfin⟩ := hadd W _ (ints zs) hBW (by rw [ints_len]; exact own_base hv (by omega))
        have Pw : Blk W (w.heap.size + 2) 24 [.int .i64 high, .slice A1 n c1] := (hBW.block _ P.lt).trans P
        have u1 : W.cell? ⟨w.heap.size + 1 + 1, 1, none⟩ = some (.slice A1 n c1) := Pw.cellAt 1 (by simp)
        have u2 := kv.cellAt 0 (by simp)
        simp only [List.getElem_cons_zero] at u2
        have HN := Lib.hid hn
        have KA := Lib.hid ka; have KBLK := Lib.hid kblk; have KFIN := Lib.hid kfin
        have hbs : w.heap.size + 8 ≤ (W.alloc (.cells #[.slice Av zs.length cv] 40)).heap.size := by simp; omega
        have KBW := Lib.hid hBW
        clear ka kblk kfin hBW hadd hn hzs hv hCW hx0 hsW hBC
        gi_wp2_with (gi_at_builtin; refine append_srcIn rfl (.tmp 45) (.tmp 47) 22 rfl 40 _ _ _ Tryd.underlying22 ints_infoD (w.heap.size + 8) (W.alloc (.cells #[.slice Av zs.length cv] 40)) (.slice A1 n c1) n hs0 rfl KA.out (some ⟨W.heap.size, 0, none⟩) 1 1 [.slice Av zs.length cv] rfl rfl KBLK.out.rd (by simp [Value.oneCell']) (by omega) hbs ?_; intro v7 w7 hown7 hg7 hb7; obtain ⟨A7, c7, rfl, _, _⟩ := own_slice hown7; obtain ⟨m1, m2⟩ := KFIN.out _ w7 hown7 hg7 hb7; have P7 : Blk w7 (w.heap.size + 2) 24 [.int .i64 high, .slice A1 n c1] := (m2.block _ P.lt (.inl (by omega))).trans P; have f7 : w7.frozen? ⟨w.heap.size + 1 + 1, 1, none⟩ = false := P7.frozen 1; have q7 : w7.cell? ⟨w.heap.size + 1 + 1, 1, none⟩ = some (.slice A1 n c1) := P7.cellAt 1 (by simp); have M1 := Lib.hid m1; have M2 := Lib.hid m2; clear m1 m2 hown7 hg7 hb7)
        have hOutB := M2.out
        have hsO := hOutB.size
        have hset : Out (w.heap.size + 2) (w.heap.size + 3) w7 (w7.setCell ⟨w.heap.size + 1 + 1, 1, none⟩ (.slice A7 (n + 1) c7)) := out_setCell _ _ _ _
        refine ⟨(hset.block _ (by omega) (by omega)).trans ((hOutB.block _ (by omega) (.inl (by omega))).trans hLB), fun k h1 h2 => (hset.block _ (by omega) (by omega)).trans ((hOutB.block _ (by omega) (.inl (by omega))).trans (hKB k h1 h2)), ?_⟩
        refine ⟨⟨hset.os.trans (hOutB.os.trans hb.os), hset.tape.trans (hOutB.tape.trans hb.tape), hset.output.trans (hOutB.output.trans hb.output), by have := hset.size; omega, fun k hk => (hset.block _ (by omega) (.inl (by omega))).trans ((hOutB.block _ (by omega) (.inl (by omega))).trans (hb.block k hk))⟩, (hset.block _ (by omega) (.inl (by omega))).trans ((hOutB.block _ (by omega) (.inl (by omega))).trans R0), (hset.block _ (by omega) (.inl (by omega))).trans ((hOutB.block _ (by omega) (.inl (by omega))).trans R1), (hset.block _ (by omega) (.inr (by omega))).trans ((hOutB.block _ (by omega) (.inl (by omega))).trans hD), by have := hset.size; omega, rows ++ [zs], ?_, A7, c7, ?_, ?_⟩
        · rw [rdRows_snoc, HRD.out, rowStep, if_neg (by rw [HN.out]; omega), hst]
        · have := P7.set_ 1 (.slice A7 (n + 1) c7)
          rw [List.length_append, HN.out]
          exact this
        · rw [List.length_append, HN.out, intss_app]
          exact ((M1.out.out hset (.inr (by omega)))).hi hset.size (Nat.le_refl _)
      case stop2 =>
        rintro c W (⟨rfl, h⟩ | ⟨rfl, hx, h⟩)
        · gi_wp2
          obtain ⟨h1, h2, h3, h4, h5, h6, h7, h8⟩ := h
          have hLe := hBC.size
          have hLB' : W.heap[w.heap.size + 7]? = _ := (h5 _ (by omega) (by omega)).trans ((hBC.block _ (by omega)).trans hLB)
          refine ⟨hLB', rfl, ⟨h1.trans (hBC.os.trans hb.os), h2.trans (hBC.tape.trans hb.tape), h3.trans (hBC.output.trans hb.output), by omega, fun k hk => (h5 k (by omega) (by omega)).trans ((hBC.block k (by omega)).trans (hb.block k hk))⟩, h6, h7, (h5 _ (by omega) (by omega)).trans ((hBC.block _ (by omega)).trans hD), by omega, rdRows_pre HX.out ?_⟩
          rw [rdRows_snoc, HRD.out, rowStep, if_neg (by omega), h8]
        · obtain ⟨hCW, hsW, hx0, zs, v, hzs, kv, hv⟩ := h
          have hst : rdStack x = some zs := by
            unfold rdStack
            rw [if_pos hx]
            cases hzs
            rfl
          obtain ⟨Av, cv, rfl, _, _⟩ := own_slice hv
          have hBW : Below B.heap.size B W := hBC.trans (hCW)
          have hWs := hBW.size
          obtain ⟨hs0, hadd⟩ := hO.add hs8
          rw [intss_len, hn] at hadd
          obtain ⟨ka, kblk, kfin⟩ := hadd W _ (ints zs) hBW (by rw [ints_len]; exact own_base hv (by omega))
          have Pw : Blk W (w.heap.size + 2) 24 [.int .i64 high, .slice A1 n c1] := (hBW.block _ P.lt).trans P
          have u1 : W.cell? ⟨w.heap.size + 1 + 1, 1, none⟩ = some (.slice A1 n c1) := Pw.cellAt 1 (by simp)
          have u2 := kv.cellAt 0 (by simp)
          simp only [List.getElem_cons_zero] at u2
          have HN := Lib.hid hn
          have KA := Lib.hid ka; have KBLK := Lib.hid kblk; have KFIN := Lib.hid kfin
          have hbs : w.heap.size + 8 ≤ (W.alloc (.cells #[.slice Av zs.length cv] 40)).heap.size := by simp; omega
          have KBW := Lib.hid hBW
          clear ka kblk kfin hBW hadd hn hzs hv hCW hx0 hsW hBC
          gi_wp2_with (gi_at_builtin; refine append_srcIn rfl (.tmp 45) (.tmp 47) 22 rfl 40 _ _ _ Tryd.underlying22 ints_infoD (w.heap.size + 8) (W.alloc (.cells #[.slice Av zs.length cv] 40)) (.slice A1 n c1) n hs0 rfl KA.out (some ⟨W.heap.size, 0, none⟩) 1 1 [.slice Av zs.length cv] rfl rfl KBLK.out.rd (by simp [Value.oneCell']) (by omega) hbs ?_; intro v7 w7 hown7 hg7 hb7; obtain ⟨A7, c7, rfl, _, _⟩ := own_slice hown7; obtain ⟨m1, m2⟩ := KFIN.out _ w7 hown7 hg7 hb7; have P7 : Blk w7 (w.heap.size + 2) 24 [.int .i64 high, .slice A1 n c1] := (m2.block _ P.lt (.inl (by omega))).trans P; have f7 : w7.frozen? ⟨w.heap.size + 1 + 1, 1, none⟩ = false := P7.frozen 1; have q7 : w7.cell? ⟨w.heap.size + 1 + 1, 1, none⟩ = some (.slice A1 n c1) := P7.cellAt 1 (by simp); have M1 := Lib.hid m1; have M2 := Lib.hid m2; clear m1 m2 hown7 hg7 hb7)
          have hOutB := M2.out
          have hsO := hOutB.size
          have hset : Out (w.heap.size + 2) (w.heap.size + 3) w7 (w7.setCell ⟨w.heap.size + 1 + 1, 1, none⟩ (.slice A7 (n + 1) c7)) := out_setCell _ _ _ _
          refine ⟨(hset.block _ (by omega) (by omega)).trans ((hOutB.block _ (by omega) (.inl (by omega))).trans hLB), fun k h1 h2 => (hset.block _ (by omega) (by omega)).trans ((hOutB.block _ (by omega) (.inl (by omega))).trans (hKB k h1 h2)), ?_⟩
          refine ⟨⟨hset.os.trans (hOutB.os.trans hb.os), hset.tape.trans (hOutB.tape.trans hb.tape), hset.output.trans (hOutB.output.trans hb.output), by have := hset.size; omega, fun k hk => (hset.block _ (by omega) (.inl (by omega))).trans ((hOutB.block _ (by omega) (.inl (by omega))).trans (hb.block k hk))⟩, (hset.block _ (by omega) (.inl (by omega))).trans ((hOutB.block _ (by omega) (.inl (by omega))).trans R0), (hset.block _ (by omega) (.inl (by omega))).trans ((hOutB.block _ (by omega) (.inl (by omega))).trans R1), (hset.block _ (by omega) (.inr (by omega))).trans ((hOutB.block _ (by omega) (.inl (by omega))).trans hD), by have := hset.size; omega, rows ++ [zs], ?_, A7, c7, ?_, ?_⟩
          · rw [rdRows_snoc, HRD.out, rowStep, if_neg (by rw [HN.out]; omega), hst]
          · have := P7.set_ 1 (.slice A7 (n + 1) c7)
            rw [List.length_append, HN.out]
            exact this
          · rw [List.length_append, HN.out, intss_app]
            exact ((M1.out.out hset (.inr (by omega)))).hi hset.size (Nat.le_refl _)
  case done =>
    rintro W ⟨hb, R0, R1, hD, hs8, rows, hrd, A1, c3, P, hO⟩
    have hrl := rdRows_len hrd
    have cV := implYardValid high A1 rows.length c3 rows W rfl hO.rd (by omega)
    have HY : Hid (rdYard high s = if yardOk high rows = true ∧ yardT high rows = s then (high, rows, true) else (0, [], false)) := Lib.hid (by unfold rdYard; rw [hrd])
    have d0 : W.cell? ⟨w.heap.size + 1 + 1, 0, none⟩ = some (.int .i64 high) := P.cellAt 0 (by simp)
    have d1 : W.cell? ⟨w.heap.size + 1 + 1, 1, none⟩ = some (.slice A1 rows.length c3) := P.cellAt 1 (by simp)
    clear hrd
    cases hok : yardOk high rows with
    | false =>
      rw [hok] at cV HY
      gi_wp2_with (refine ⟨trivial, ?_⟩; gi_at_call 14; refine (callsIn_wide.2 cV).mono ?_; rintro e w5 ⟨rfl, h5⟩; have S0 := R0.later h5; have S1 := R1.later h5; have q0 := S0.cellAt 0 (by simp); have q1 := S0.cellAt 1 (by simp); have q2 := S1.cellAt 0 (by simp); have p0 := S0.frozen 0; have p1 := S0.frozen 1; have p2 := S1.frozen 0; simp only [List.getElem_cons_zero, List.getElem_cons_succ] at q0 q1 q2)
      refine ⟨trivial, ?_⟩
      gi_wp2
      obtain ⟨y1, y2, y3⟩ := zero_store S0 S1 _ rfl
      have hW5 := h5.size
      have hK := (y3.block _ (by omega) (by omega)).trans ((h5.block _ (by omega)).trans hD)
      have z0 := ((out_putObj _ (w.heap.size + 6) (.deferred none)).block _ y1.lt (by omega)).trans y1
      have z1 := ((out_putObj _ (w.heap.size + 6) (.deferred none)).block _ y2.lt (by omega)).trans y2
      have c0 := Blk.cellAt z0 0 (by simp)
      have c1 := Blk.cellAt z0 1 (by simp)
      have c2 := Blk.cellAt z1 0 (by simp)
      simp only [List.getElem_cons_zero, List.getElem_cons_succ] at c0 c1 c2
      refine ⟨by simp, .inl ⟨_, _, rfl, run_takeDeferred hK, ?_⟩⟩
      refine ⟨.tuple #[.agg #[.int .i64 0, .slice none 0 0], .bool false], by simp [results, Tryd.results7, go_sem, c0, c1, c2], ?_⟩
      have hx : rdYard high s = (0, [], false) := by rw [HY.out]; simp
      exact rd_ret hx rfl (below_out (below_trans hb h5) y3 (Nat.le_refl _)) (Nat.le_refl _) (ownRR_none _ _ _ _) _
    | true =>
      rw [hok] at cV HY
      have cT := fun w h ht => implYardText high A1 rows.length c3 rows w rfl h (by omega) ht
      have hTW := ht.later hb
      by_cases hts : yardT high rows = s
      · have hne : (yardT high rows != s) = false := by simp [hts]
        rw [if_pos ⟨rfl, hts⟩] at HY
        generalize yardT high rows = l at *
        gi_wp2_with (first | (refine ⟨trivial, ?_⟩; gi_at_call 14; refine (callsIn_wide.2 cV).mono ?_; rintro e w5 ⟨rfl, h5⟩; have e0 := (P.later h5).cellAt 0 (by simp); have e1 := (P.later h5).cellAt 1 (by simp); simp only [List.getElem_cons_zero, List.getElem_cons_succ] at e0 e1; have cT5 := cT w5 (hO.rd.below h5) (hTW.later h5)) | (refine ⟨trivial, ?_⟩; gi_at_call 15; refine (callsIn_wide.2 cT5).mono ?_; rintro e w6 ⟨rfl, h6⟩; have S0 := (R0.later h5).later h6; have S1 := (R1.later h5).later h6; have q0 := S0.cellAt 0 (by simp); have q1 := S0.cellAt 1 (by simp); have q2 := S1.cellAt 0 (by simp); have p0 := S0.frozen 0; have p1 := S0.frozen 1; have p2 := S1.frozen 0; have P6 := (P.later h5).later h6; have i0 := P6.cellAt 0 (by simp); have i1 := P6.cellAt 1 (by simp); simp only [List.getElem_cons_zero, List.getElem_cons_succ] at q0 q1 q2 i0 i1))
        obtain ⟨y1, y2, y3⟩ := val_store (.int .i64 high) (.slice A1 rows.length c3) (.bool true) S0 S1 _ rfl
        have hW5 := h5.size
        have hW6 := h6.size
        have hK := (y3.block _ (by omega) (by omega)).trans ((h6.block _ (by omega)).trans ((h5.block _ (by omega)).trans hD))
        have z0 := ((out_putObj _ (w.heap.size + 6) (.deferred none)).block _ y1.lt (by omega)).trans y1
        have z1 := ((out_putObj _ (w.heap.size + 6) (.deferred none)).block _ y2.lt (by omega)).trans y2
        have c0 := Blk.cellAt z0 0 (by simp)
        have c1 := Blk.cellAt z0 1 (by simp)
        have c2 := Blk.cellAt z1 0 (by simp)
        simp only [List.getElem_cons_zero, List.getElem_cons_succ] at c0 c1 c2
        refine ⟨by simp, .inl ⟨_, _, rfl, run_takeDeferred hK, ?_⟩⟩
        refine ⟨.tuple #[.agg #[.int .i64 high, .slice A1 rows.length c3], .bool true], by simp [results, Tryd.results7, go_sem, c0, c1, c2], ?_⟩
        exact rd_ret HY.out rfl (below_out (below_trans (below_trans hb h5) h6) y3 (Nat.le_refl _)) (Nat.le_succ _) (((((hO.later h5).later h6).out y3 (.inr (by omega)))).hi (by have := y3.size; omega) (Nat.le_refl _)) _
      · have hne : (yardT high rows != s) = true := by simp [hts]
        have hne2 : (yardT high rows == s) = false := by simp [hts]
        have hx : rdYard high s = (0, [], false) := by rw [HY.out, if_neg (fun h => hts h.2)]
        generalize yardT high rows = l at *
        gi_wp2_with (first | (refine ⟨trivial, ?_⟩; gi_at_call 14; refine (callsIn_wide.2 cV).mono ?_; rintro e w5 ⟨rfl, h5⟩; have e0 := (P.later h5).cellAt 0 (by simp); have e1 := (P.later h5).cellAt 1 (by simp); simp only [List.getElem_cons_zero, List.getElem_cons_succ] at e0 e1; have cT5 := cT w5 (hO.rd.below h5) (hTW.later h5)) | (refine ⟨trivial, ?_⟩; gi_at_call 15; refine (callsIn_wide.2 cT5).mono ?_; rintro e w6 ⟨rfl, h6⟩; have S0 := (R0.later h5).later h6; have S1 := (R1.later h5).later h6; have q0 := S0.cellAt 0 (by simp); have q1 := S0.cellAt 1 (by simp); have q2 := S1.cellAt 0 (by simp); have p0 := S0.frozen 0; have p1 := S0.frozen 1; have p2 := S1.frozen 0; have P6 := (P.later h5).later h6; have i0 := P6.cellAt 0 (by simp); have i1 := P6.cellAt 1 (by simp); simp only [List.getElem_cons_zero, List.getElem_cons_succ] at q0 q1 q2 i0 i1))
        obtain ⟨y1, y2, y3⟩ := zero_store S0 S1 _ rfl
        have hW5 := h5.size
        have hW6 := h6.size
        have hK := (y3.block _ (by omega) (by omega)).trans ((h6.block _ (by omega)).trans ((h5.block _ (by omega)).trans hD))
        have z0 := ((out_putObj _ (w.heap.size + 6) (.deferred none)).block _ y1.lt (by omega)).trans y1
        have z1 := ((out_putObj _ (w.heap.size + 6) (.deferred none)).block _ y2.lt (by omega)).trans y2
        have c0 := Blk.cellAt z0 0 (by simp)
        have c1 := Blk.cellAt z0 1 (by simp)
        have c2 := Blk.cellAt z1 0 (by simp)
        simp only [List.getElem_cons_zero, List.getElem_cons_succ] at c0 c1 c2
        refine ⟨by simp, .inl ⟨_, _, rfl, run_takeDeferred hK, ?_⟩⟩
        refine ⟨.tuple #[.agg #[.int .i64 0, .slice none 0 0], .bool false], by simp [results, Tryd.results7, go_sem, c0, c1, c2], ?_⟩
        exact rd_ret hx rfl (below_out (below_trans (below_trans hb h5) h6) y3 (Nat.le_refl _)) (Nat.le_refl _) (ownRR_none _ _ _ _) _
  case stop =>
    rintro c W ⟨rfl, hb, R0, R1, hD, hs8, hrd⟩
    rw [hsz]
    gi_wp2
    have hK := hD
    have z0 := ((out_putObj _ (w.heap.size + 6) (.deferred none)).block _ R0.lt (by omega)).trans R0
    have z1 := ((out_putObj _ (w.heap.size + 6) (.deferred none)).block _ R1.lt (by omega)).trans R1
    have c0 := Blk.cellAt z0 0 (by simp)
    have c1 := Blk.cellAt z0 1 (by simp)
    have c2 := Blk.cellAt z1 0 (by simp)
    simp only [List.getElem_cons_zero, List.getElem_cons_succ] at c0 c1 c2
    refine ⟨by simp, .inl ⟨_, _, rfl, run_takeDeferred hK, ?_⟩⟩
    refine ⟨.tuple #[.agg #[.int .i64 0, .slice none 0 0], .bool false], by simp [results, Tryd.results7, go_sem, c0, c1, c2], ?_⟩
    have hx : rdYard high s = (0, [], false) := by unfold rdYard; rw [hrd]
    exact rd_ret hx rfl hb (Nat.le_refl _) (ownRR_none _ _ _ _) _
theorem implReadYard (high : Int) (s : List UInt8) (hs : s.length ≤ 1048577) (w : World) (ht : TabW w) (he : ErrsW w) :
    Calls Tryd.prog 7 #[.string (txt s), .int .i64 high] w (RdOut w (rdYard high s)) := callsIn_wide.1 (implReadYard_in high s hs w ht he)
end Go.Proofs.YtcdjgbechigepaaDoor
