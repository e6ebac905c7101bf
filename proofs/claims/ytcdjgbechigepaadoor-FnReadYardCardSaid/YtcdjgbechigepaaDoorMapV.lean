/- Maps with integer keys whose values are known outright: what they hold, and their look-ups and updates. -/
import Derived.Maps.OwnSet
import Derived.Maps.OwnOps
import Derived.Maps.Views
import Derived.Maps.Keyed
import Derived.Carry
import Derived.Test.YtcdjgbechigepaaDoorBase
namespace Go.Proofs.YtcdjgbechigepaaDoor
open Go Go.ChangeShapes Go.WideShapes Go.ChangeAt Go.RowKit
open Go.WideAt (IsKeyLit)

/-- a value reads as itself -/
def itself : Value → Option (DataW Value × List MemPlace) := fun v => some (.held v, [])
/-- block b is a map of n entries with int keys; at key a it has what f says -/
def MapI (P : Program) (k : TypeId) (w : World) (b n : Nat) (f : Int → Option Value) : Prop :=
  ∃ D : DataW Value, w.ownsMap P k itself b n D ∧ Maps.size D = n ∧ ∀ a, (Lit.int .i64 a).wf = true → Maps.has D (.int .i64 a) = (f a).isSome ∧ ∀ z, D.atKey (.int .i64 a) (.held z) = .held ((f a).getD z)
def mput (f : Int → Option Value) (a : Int) (v : Value) : Int → Option Value := fun x => if x = a then some v else f x

theorem mapI_made (P : Program) (k : TypeId) (w : World) : MapI P k (w.alloc (.map #[] 0)) w.heap.size 0 (fun _ => none) :=
  ⟨.map [], World.ownsMap_made w P k itself, rfl, fun _ _ => ⟨rfl, fun _ => rfl⟩⟩
theorem MapI.kept {P : Program} {k : TypeId} {w w' : World} {b n : Nat} {f : Int → Option Value} {row : Option Nat} (h : MapI P k w b n f) (hg : w.grownBy w' row) (hne : some b ≠ row) : MapI P k w' b n f := by
  obtain ⟨D, ho, r⟩ := h
  exact ⟨D, ho.kept hg hne, r⟩
theorem MapI.lt {P : Program} {k : TypeId} {w : World} {b n : Nat} {f : Int → Option Value} (h : MapI P k w b n f) : b < w.heap.size := by
  obtain ⟨D, ho, _⟩ := h
  exact ho.lt
theorem MapI.entries {P : Program} {k : TypeId} {w : World} {b n : Nat} {f : Int → Option Value} (h : MapI P k w b n f) : ∃ es clock, w.heap[b]? = some (.map es clock) ∧ es.size = n := by
  obtain ⟨D, ⟨es, clock, hb, _, _, rfl⟩, hs, _⟩ := h
  refine ⟨es, clock, hb, ?_⟩
  rw [← hs]
  simp [Maps.size, length_sorted]
theorem mput_data {D : DataW Value} {f : Int → Option Value} (hm : Maps.IsMap D) (h : ∀ a, (Lit.int .i64 a).wf = true → Maps.has D (.int .i64 a) = (f a).isSome ∧ ∀ z, D.atKey (.int .i64 a) (.held z) = .held ((f a).getD z)) (a : Int) (v : Value) :
    ∀ x, (Lit.int .i64 x).wf = true → Maps.has (D.put (.int .i64 a) (.held v)) (.int .i64 x) = (mput f a v x).isSome ∧ ∀ z, (D.put (.int .i64 a) (.held v)).atKey (.int .i64 x) (.held z) = .held ((mput f a v x).getD z) := by
  intro x hx
  unfold mput
  by_cases hxa : x = a
  · subst hxa
    have hk : IsKeyLit (.int .i64 x) := trivial
    rw [if_pos rfl, Maps.has_put_same hm hk]
    exact ⟨rfl, fun z => Maps.atKey_put_same hm hk _ _⟩
  · have hne : (Lit.int .i64 x) ≠ (Lit.int .i64 a) := fun e => hxa (by injection e)
    rw [if_neg hxa, Maps.has_put_other hne]
    exact ⟨(h x hx).1, fun z => by rw [Maps.atKey_put_other hne]; exact (h x hx).2 z⟩
section
variable {P : Program} (w : World) {ops : Array Oper} {rest : List Oper} {o : Oper} {a : Act} {Q : Exit → Act → World → Prop}
/-- v, ok := m[x] -/
theorem mapI_look_ok (hg : o.guard = none) (m x : Operand) (t : TypeId) (hop : o.op = Op.lookup t m x true) (k e : TypeId) (hk : P.underlying k = some (.int .i64)) (ht : P.underlying t = some (.map k e))
    (z : Value) (hz : (zeroValue e).run P w = .ok z w) (b n : Nat) (f : Int → Option Value) (hm : a.eval m = .map (some b)) (hown : MapI P k w b n f) (key : Int) (hx : a.eval x = .int .i64 key) (hwf : (Lit.int .i64 key).wf = true)
    (hK : wpList P ops Q rest (a.put o.dst (.tuple #[(f key).getD z, .bool (f key).isSome])) w) : wpList P ops Q (o :: rest) a w := by
  obtain ⟨D, ho, _, hD⟩ := hown
  refine wpList_lookup_own_ok w hg m x t hop k e (Maps.int_keyed hk) ht itself hz (.held z) [] rfl b n D hm ho _ _ hx (Maps.keyOf_int_mk hk hwf) fun v ps hv => ?_
  rw [(hD key hwf).2 z] at hv
  have e1 : v = (f key).getD z := by
    simp only [itself, Option.some.injEq, Prod.mk.injEq, DataW.held.injEq] at hv
    exact hv.1
  rw [e1, (hD key hwf).1]
  exact hK
/-- m[x] -/
theorem mapI_look (hg : o.guard = none) (m x : Operand) (t : TypeId) (hop : o.op = Op.lookup t m x false) (k e : TypeId) (hk : P.underlying k = some (.int .i64)) (ht : P.underlying t = some (.map k e))
    (z : Value) (hz : (zeroValue e).run P w = .ok z w) (b n : Nat) (f : Int → Option Value) (hm : a.eval m = .map (some b)) (hown : MapI P k w b n f) (key : Int) (hx : a.eval x = .int .i64 key) (hwf : (Lit.int .i64 key).wf = true)
    (hK : wpList P ops Q rest (a.put o.dst ((f key).getD z)) w) : wpList P ops Q (o :: rest) a w := by
  obtain ⟨D, ho, _, hD⟩ := hown
  obtain ⟨v, ps, hrun, hv⟩ := ho.lookup (Maps.int_keyed hk) ht hz (zd := .held z) (zp := []) rfl (Maps.keyOf_int_mk hk hwf)
  rw [(hD key hwf).2 z] at hv
  have e1 : v = (f key).getD z := by
    simp only [itself, Option.some.injEq, Prod.mk.injEq, DataW.held.injEq] at hv
    exact hv.1
  rw [e1] at hrun
  refine wpList_plain hg fun K' hK' => ?_
  unfold Oper.wp
  simp [execOp, hop, hm, hx, hrun, Result.andThen]
  exact hK' _ _ hK
/-- m[x] = v -/
theorem mapI_set (hg : o.guard = none) (m x v : Operand) (t : TypeId) (hop : o.op = Op.mapUpdate t m x v ∨ o.op = Op.insert t m x v) (k e : TypeId) (hk : P.underlying k = some (.int .i64)) (ht : P.underlying t = some (.map k e))
    (b n : Nat) (f : Int → Option Value) (hm : a.eval m = .map (some b)) (hown : MapI P k w b n f) (hn : n < maxLen) (key : Int) (val : Value) (hx : a.eval x = .int .i64 key) (hv : a.eval v = val) (hwf : (Lit.int .i64 key).wf = true)
    (hK : ∀ w', MapI P k w' b (if (f key).isSome then n else n + 1) (mput f key val) → w.grownBy w' (some b) → wpList P ops Q rest (a.put o.dst undef) w') : wpList P ops Q (o :: rest) a w := by
  obtain ⟨D, ho, hs, hD⟩ := hown
  have hi := ho.isMap
  have htidy := ho.tidy (Maps.int_keyed hk)
  obtain ⟨w', hrun, r1, r2⟩ := ho.update (Maps.int_keyed hk) ht hn (Maps.keyOf_int_mk hk hwf) (val := val) (d := .held val) (ps := []) rfl
  have hsz : Maps.size (D.put (.int .i64 key) (.held val)) = if (f key).isSome then n else n + 1 := by
    have hkl : IsKeyLit (.int .i64 key) := trivial
    have e1 := Maps.size_put (k := .int .i64 key) htidy (.held val)
    rw [(hD key hwf).1, hs] at e1
    exact e1
  have r1' : w'.ownsMap P k itself b (if (f key).isSome then n else n + 1) (D.put (.int .i64 key) (.held val)) := by
    obtain ⟨es, clock, hb, F, hle, hE⟩ := r1
    refine ⟨es, clock, hb, F, ?_, hE⟩
    rw [← hsz, hE]
    simp [Maps.size, length_sorted]
  refine wpList_plain hg fun K' hK' => ?_
  unfold Oper.wp
  rcases hop with hop | hop
  all_goals
    simp [execOp, hop, hm, hx, hv, hrun, Result.andThen]
    exact hK' _ _ (hK w' ⟨_, r1', hsz, mput_data hi hD key val⟩ r2)
end
end Go.Proofs.YtcdjgbechigepaaDoor
