/- Runs of cells stored into a block that is known whole; copy, clear, append in place, where an element has k cells. -/
import Derived.Test.YtbhnlooellgfaaaFlat
import Derived.Test.YtbhnlooellgfaaaOwnSrc
import Derived.Laws.IdiomCopy
import Derived.Deep.AppendSrc
import Derived.Lib.AppendZerosOnto
import Derived.Lib.Overlaps
namespace Go.Proofs.Ytbhnlooellgfaaa
open Go Go.ChangeShapes Go.WideShapes Go.ChangeAt Go.RowKit
theorem set_mid (a b : List Value) (x v : Value) (o : Nat) (ho : a.length = o) : (a ++ (x :: b)).set o v = (a ++ [v]) ++ b := by
  rw [List.set_append_right _ _ (by omega), ho, Nat.sub_self, List.set_cons_zero, List.append_assoc]
  rfl
theorem Blk.setCells_ {g : Nat} {t : TypeId} {b : List Value} (vs : List Value) : ∀ {w : World} {a m : List Value} {o : Nat}, Blk w g t (a ++ (m ++ b)) → a.length = o → m.length = vs.length → Blk (w.setCells g o vs) g t (a ++ (vs ++ b)) := by
  induction vs with
  | nil =>
    intro w a m o h _ hm
    obtain rfl : m = [] := List.eq_nil_of_length_eq_zero hm
    exact h
  | cons v r ih =>
    intro w a m o h ho hm
    cases m with
    | nil => simp at hm
    | cons x m =>
      have h1 := h.set_ o v
      rw [show a ++ (x :: m ++ b) = a ++ (x :: (m ++ b)) from rfl, set_mid _ _ _ _ _ ho] at h1
      have := ih (o := o + 1) h1 (by simp; omega) (by simpa using hm)
      rw [List.append_assoc] at this
      exact this
theorem grown_setCells (g : Nat) (vs : List Value) : ∀ (o : Nat) (w : World), w.grownBy (w.setCells g o vs) (some g) := by
  induction vs with
  | nil => intro o w; exact World.grownBy.refl _ _
  | cons v r ih =>
    intro o w
    refine World.grownBy.trans (b := w.setCell ⟨g, o, none⟩ v) ?_ (ih (o + 1) _)
    exact ⟨rfl, rfl, rfl, by simp [World.setCell], fun k _ hne => Below.heap_setCell w ⟨g, o, none⟩ v k (fun e => hne (by rw [e]))⟩
theorem blk_shape {w : World} {g : Nat} {t : TypeId} {cs : List Value} (h : Blk w g t cs) : w.shape? g = some (t, cs.length) := by
  unfold Blk at h
  simp [World.shape?, h]
theorem drew_setCells' (b : Nat) : ∀ (vs : List Value) (o : Nat) (w : World), (w.setCells b o vs).drew = w.drew.setCells b o vs
  | [], _, _ => rfl
  | v :: r, o, w => by rw [World.setCells, World.setCells, drew_setCells' b r]; rfl
theorem blk_some {w : World} {g : Nat} {t : TypeId} {cs : List Value} (h : Blk w g t cs) (j : Nat) (hj : j < cs.length) : (w.cell? ⟨g, j, none⟩).isSome = true := by
  rw [h.cellAt j hj]
  rfl
section
variable {P : Program}
theorem run_copy_k (w : World) (dT sT ty elem : TypeId) (k b o dLen dCap : Nat) (a : Addr) (sLen sCap : Nat) (cs : List Value)
    (hu : P.underlying dT = some (.slice elem)) (hs : (P.info? elem).map (·.size) = some k) (hn : cs.length = Nat.min sLen dLen * k)
    (hsrc : ∀ j v, cs[j]? = some v → w.cell? (a.add j) = some v) (hc : ∀ j, j < cs.length → (w.cell? ⟨b, o + j, none⟩).isSome = true) (hf : ∀ j, j < cs.length → w.frozen? ⟨b, o + j, none⟩ = false) (h1 : ∀ v ∈ cs, v.oneCell' = true) :
    (Builtin.copy_ #[dT, sT] ty #[.slice (some ⟨b, o, none⟩) dLen dCap, .slice (some a) sLen sCap]).run P w = .ok (goInt (Nat.min sLen dLen)) (w.setCells b o cs) := by
  have hl := run_loadCells_list (P := P) w a cs hsrc
  have hst := run_storeCells_cells (P := P) b o cs 0 w (by simpa using hc) (by simpa using hf) h1
  cases hq : P.info? elem with
  | none => simp [hq] at hs
  | some i =>
    have hi : i.size = k := by simpa [hq] using hs
    rw [hn] at hl
    simp [Builtin.copy_, run_underlying hu, Builtin.lenOf, Builtin.firstCells, sizeOf, typeInfo, hq, hi, hl, hst]
/-- copy into a block that is known whole -/
theorem run_copy_blk (w : World) (dT sT ty elem : TypeId) (k g o dLen dCap : Nat) (ad : Addr) (sLen sCap : Nat) (t : TypeId) (a m b cs : List Value)
    (hu : P.underlying dT = some (.slice elem)) (hs : (P.info? elem).map (·.size) = some k) (hn : cs.length = Nat.min sLen dLen * k)
    (hsrc : ∀ j v, cs[j]? = some v → w.cell? (ad.add j) = some v) (hb : Blk w g t (a ++ (m ++ b))) (ho : a.length = o) (hm : m.length = cs.length) (h1 : ∀ v ∈ cs, v.oneCell' = true) :
    (Builtin.copy_ #[dT, sT] ty #[.slice (some ⟨g, o, none⟩) dLen dCap, .slice (some ad) sLen sCap]).run P w = .ok (goInt (Nat.min sLen dLen)) (w.setCells g o cs) :=
  run_copy_k w dT sT ty elem k g o dLen dCap ad sLen sCap cs hu hs hn hsrc (fun j hj => blk_some hb _ (by simp; omega)) (fun j _ => hb.frozen _) h1
theorem wpList_copy_runE (w : World) {ops : Array Oper} {rest : List Oper} {o : Oper} {a : Act} {Q : Exit → Act → World → Prop} (hgd : o.guard = none) (d s : Operand) (t t' : TypeId)
    (ho : o.op = .call { callee := .builtin .copy, args := #[d, s], argTypes := #[t, t'] }) (v u : Value) (hd : a.eval d = v) (hs : a.eval s = u) {v' : Value} {w' : World}
    (hr : (Builtin.copy_ #[t, t'] o.type #[v, u]).run P w = .ok v' w') (h : wpList P ops Q rest (a.put o.dst v') w') : wpList P ops Q (o :: rest) a w := by
  refine wpList_plain hgd fun K hK => ?_
  unfold Oper.wp execOp
  simp only [ho, resolve, invoke, builtin, Sem.run_bind, Sem.run_pure, Result.andThen_ok, List.map_toArray, List.map_cons, List.map_nil, hd, hs, hr]
  exact hK _ _ h
theorem step_copy_runE {ops : Array Oper} {o : Oper} {a : Act} {w : World} {K : Act → World → Prop} {Q : Exit → Act → World → Prop} {E : Prop}
    (hg : o.guard = none) (d x : Operand) (dT sT : TypeId) (hop : o.op = Op.call { callee := Callee.builtin Builtin.copy, args := #[d, x], argTypes := #[dT, sT] })
    (v u : Value) (hd : a.eval d = v) (hx : a.eval x = u) {v' : Value} {w' : World} (hr : (Builtin.copy_ #[dT, sT] o.type #[v, u]).run P w = .ok v' w') (hK : K (a.put o.dst v') w') :
    if Region.wanted o (yielded ops a.tmps) = true then Oper.wp P o a w K Q else E := by
  have hw : Region.wanted o (yielded ops a.tmps) = true := by simp [Region.wanted, hg]
  rw [if_pos hw]
  unfold Oper.wp
  simp [execOp, hop, resolve, invoke, builtin, hd, hx, hr, Result.andThen]
  exact hK
theorem wpList_append_runE (w : World) {ops : Array Oper} {rest : List Oper} {o : Oper} {a : Act} {Q : Exit → Act → World → Prop} (hgd : o.guard = none) (d s : Operand) (t t' : TypeId)
    (ho : o.op = .call { callee := .builtin .append, args := #[d, s], argTypes := #[t, t'] }) (v u : Value) (hd : a.eval d = v) (hs : a.eval s = u) {v' : Value} {w' : World}
    (hr : (Builtin.append_ #[t, t'] o.type #[v, u]).run P w = .ok v' w') (h : wpList P ops Q rest (a.put o.dst v') w') : wpList P ops Q (o :: rest) a w := by
  refine wpList_plain hgd fun K hK => ?_
  unfold Oper.wp execOp
  simp only [ho, resolve, invoke, builtin, Sem.run_bind, Sem.run_pure, Result.andThen_ok, List.map_toArray, List.map_cons, List.map_nil, hd, hs, hr]
  exact hK _ _ h
theorem step_append_runE {ops : Array Oper} {o : Oper} {a : Act} {w : World} {K : Act → World → Prop} {Q : Exit → Act → World → Prop} {E : Prop}
    (hg : o.guard = none) (d x : Operand) (dT sT : TypeId) (hop : o.op = Op.call { callee := Callee.builtin Builtin.append, args := #[d, x], argTypes := #[dT, sT] })
    (v u : Value) (hd : a.eval d = v) (hx : a.eval x = u) {v' : Value} {w' : World} (hr : (Builtin.append_ #[dT, sT] o.type #[v, u]).run P w = .ok v' w') (hK : K (a.put o.dst v') w') :
    if Region.wanted o (yielded ops a.tmps) = true then Oper.wp P o a w K Q else E := by
  have hw : Region.wanted o (yielded ops a.tmps) = true := by simp [Region.wanted, hg]
  rw [if_pos hw]
  unfold Oper.wp
  simp [execOp, hop, resolve, invoke, builtin, hd, hx, hr, Result.andThen]
  exact hK
theorem wpList_clear_runE (w : World) {ops : Array Oper} {rest : List Oper} {o : Oper} {a : Act} {Q : Exit → Act → World → Prop} (hgd : o.guard = none) (s : Operand) (t : TypeId)
    (ho : o.op = .call { callee := .builtin .clear, args := #[s], argTypes := #[t] }) (v : Value) (hs : a.eval s = v) {v' : Value} {w' : World}
    (hr : (Builtin.clear_ #[t] o.type #[v]).run P w = .ok v' w') (h : wpList P ops Q rest (a.put o.dst v') w') : wpList P ops Q (o :: rest) a w := by
  refine wpList_plain hgd fun K hK => ?_
  unfold Oper.wp execOp
  simp only [ho, resolve, invoke, builtin, Sem.run_bind, Sem.run_pure, Result.andThen_ok, List.map_toArray, List.map_cons, List.map_nil, hs, hr]
  exact hK _ _ h
theorem zeroCells_k (zc : List Value) (n : Nat) (hz : 0 < zc.length) : Builtin.zeroCells zc.toArray n = ((List.replicate n zc).flatten).toArray := by
  rw [← made_k zc n hz]
  simp [Builtin.zeroCells, madeCells]
theorem run_clear_k (w : World) (t e ty : TypeId) (z : Value) (zc : List Value) (ht : P.underlying t = some (.slice e)) (hv : ∀ w, (zeroValue e).run P w = .ok z w) (hz : z.cells = zc.toArray) (hz0 : 0 < zc.length) (h1 : ∀ v ∈ zc, v.oneCell' = true) (b o n c : Nat) (hn : 0 < n)
    (hc : ∀ j, j < n * zc.length → (w.cell? ⟨b, o + j, none⟩).isSome = true) (hf : ∀ j, j < n * zc.length → w.frozen? ⟨b, o + j, none⟩ = false) :
    (Builtin.clear_ #[t] ty #[.slice (some ⟨b, o, none⟩) n c]).run P w = .ok (.tuple #[]) (w.setCells b o (List.replicate n zc).flatten) := by
  have hl : ((List.replicate n zc).flatten).length = n * zc.length := by simp
  have hzc : (Builtin.zeroCells z.cells n).toList = (List.replicate n zc).flatten := by rw [hz, zeroCells_k zc n hz0]
  have hst := run_storeCells_cells (P := P) b o ((List.replicate n zc).flatten) 0 w (by simpa [hl] using hc) (by simpa [hl] using hf) (by
    intro v hv'
    simp only [List.mem_flatten, List.mem_replicate] at hv'
    obtain ⟨l, ⟨_, rfl⟩, hvl⟩ := hv'
    exact h1 v hvl)
  simp only [Nat.add_zero] at hst
  obtain ⟨m, rfl⟩ : ∃ m, n = m + 1 := ⟨n - 1, by omega⟩
  simp [Builtin.clear_, run_underlying ht, hv, hzc, hst]
end
/-- the block of a slice of the call's own, known whole -/
theorem own_blk {w : World} {base : Nat} {e : TypeId} {size n c : Nat} {A : Option Addr} {xs : List Value} (h : w.ownsRow base e size (.slice A n c) n xs) :
    (A = none ∧ n = 0 ∧ c = 0 ∧ xs = []) ∨ ∃ g sp, A = some ⟨g, 0, none⟩ ∧ base ≤ g ∧ Blk w g e (xs ++ sp) ∧ sp.length = (c - n) * size ∧ n ≤ c ∧ c ≤ maxLen := by
  have hl := h.1
  rcases h.2 with ⟨e1, hx⟩ | ⟨g, cap, cur, e1, hb, hg, h1, h2, h3, h4⟩
  · injection e1 with a1 a2 a3
    exact .inl ⟨a1, a2, a3, List.eq_nil_of_length_eq_zero (by rw [hl, hx, Nat.zero_mul])⟩
  · injection e1 with a1 a2 a3
    subst a1 a3
    refine .inr ⟨g, cur.toList.drop (n * size), rfl, hb, ?_, ?_, h1, h2⟩
    · unfold Blk
      rw [hg, ← h4, List.take_append_drop]
    · simp [h3, Nat.sub_mul]
theorem own_mk {w : World} {base : Nat} {e : TypeId} {size n c g : Nat} {xs sp : List Value} (h : Blk w g e (xs ++ sp)) (hb : base ≤ g) (hx : xs.length = n * size) (hs : sp.length = (c - n) * size) (hn : n ≤ c) (hc : c ≤ maxLen) :
    w.ownsRow base e size (.slice (some ⟨g, 0, none⟩) n c) n xs :=
  ⟨hx, .inr ⟨g, c, (xs ++ sp).toArray, rfl, hb, h, hn, hc, by simp [hx, hs, ← Nat.add_mul]; congr 1; omega, by simp [← hx]⟩⟩
end Go.Proofs.Ytbhnlooellgfaaa
