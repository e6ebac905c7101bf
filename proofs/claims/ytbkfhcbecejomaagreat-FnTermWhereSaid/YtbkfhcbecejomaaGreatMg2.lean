/- Several texts of the proof in one; each says at its head what it proves; no condition. -/
import Derived.Test.YtbkfhcbecejomaaGreatMg1
import Derived.Laws.IdiomCopy
import Derived.Deep.AppendSrc
import Derived.Lib.AppendZerosOnto
import Derived.Lib.Overlaps
import Derived.Deep.MidRow
import Derived.Test.YtbkfhcbecejomaaGreatProg
import Derived.Deep.QuietTactic
import Derived.BigQuiet
import Derived.Deep.RegionHeld3
section
/- Runs of cells stored into a block that is known whole; copy, clear, append in place, where an element has k cells. -/
namespace Go.Proofs.YtbkfhcbecejomaaGreat
open Go Go.ChangeShapes Go.WideShapes Go.ChangeAt Go.RowKit
theorem set_mid (a b : List Value) (x v : Value) (o : Nat) (ho : a.length = o) : (a ++ (x :: b)).set o v = (a ++ [v]) ++ b := by
  rw [List.set_append_right _ _ (by omega), ho, Nat.sub_self, List.set_cons_zero, List.append_assoc]
  rfl
theorem Blk.setCells_ {g : Nat} {t : TypeId} {b : List Value} (vs : List Value) : ∀ {w : World} {a m : List Value} {o : Nat}, Blk w g t (a ++ (m ++ b)) → a.length = o → m.length = vs.length → Blk (w.setCells g o vs) g t (a ++ (vs ++ b)) := by
  induction vs with
  | nil =>
    intro w a m o h _ hm
    obtain rfl : m = [] := List.eq_nil_of_length_eq_zero hm
    exact h
  | cons v r ih =>
    intro w a m o h ho hm
    cases m with
    | nil => simp at hm
    | cons x m =>
      have h1 := h.set_ o v
      rw [show a ++ (x :: m ++ b) = a ++ (x :: (m ++ b)) from rfl, set_mid _ _ _ _ _ ho] at h1
      have := ih (o := o + 1) h1 (by simp; omega) (by simpa using hm)
      rw [List.append_assoc] at this
      exact this
theorem grown_setCells (g : Nat) (vs : List Value) : ∀ (o : Nat) (w : World), w.grownBy (w.setCells g o vs) (some g) := by
  induction vs with
  | nil => intro o w; exact World.grownBy.refl _ _
  | cons v r ih =>
    intro o w
    refine World.grownBy.trans (b := w.setCell ⟨g, o, none⟩ v) ?_ (ih (o + 1) _)
    exact ⟨rfl, rfl, rfl, by simp [World.setCell], fun k _ hne => Below.heap_setCell w ⟨g, o, none⟩ v k (fun e => hne (by rw [e]))⟩
theorem blk_shape {w : World} {g : Nat} {t : TypeId} {cs : List Value} (h : Blk w g t cs) : w.shape? g = some (t, cs.length) := by
  unfold Blk at h
  simp [World.shape?, h]
theorem drew_setCells' (b : Nat) : ∀ (vs : List Value) (o : Nat) (w : World), (w.setCells b o vs).drew = w.drew.setCells b o vs
  | [], _, _ => rfl
  | v :: r, o, w => by rw [World.setCells, World.setCells, drew_setCells' b r]; rfl
theorem blk_some {w : World} {g : Nat} {t : TypeId} {cs : List Value} (h : Blk w g t cs) (j : Nat) (hj : j < cs.length) : (w.cell? ⟨g, j, none⟩).isSome = true := by
  rw [h.cellAt j hj]
  rfl
section
variable {P : Program}
theorem run_copy_k (w : World) (dT sT ty elem : TypeId) (k b o dLen dCap : Nat) (a : Addr) (sLen sCap : Nat) (cs : List Value)
    (hu : P.underlying dT = some (.slice elem)) (hs : (P.info? elem).map (·.size) = some k) (hn : cs.length = Nat.min sLen dLen * k)
    (hsrc : ∀ j v, cs[j]? = some v → w.cell? (a.add j) = some v) (hc : ∀ j, j < cs.length → (w.cell? ⟨b, o + j, none⟩).isSome = true) (hf : ∀ j, j < cs.length → w.frozen? ⟨b, o + j, none⟩ = false) (h1 : ∀ v ∈ cs, v.oneCell' = true) :
    (Builtin.copy_ #[dT, sT] ty #[.slice (some ⟨b, o, none⟩) dLen dCap, .slice (some a) sLen sCap]).run P w = .ok (goInt (Nat.min sLen dLen)) (w.setCells b o cs) := by
  have hl := run_loadCells_list (P := P) w a cs hsrc
  have hst := run_storeCells_cells (P := P) b o cs 0 w (by simpa using hc) (by simpa using hf) h1
  cases hq : P.info? elem with
  | none => simp [hq] at hs
  | some i =>
    have hi : i.size = k := by simpa [hq] using hs
    rw [hn] at hl
    simp [Builtin.copy_, run_underlying hu, Builtin.lenOf, Builtin.firstCells, sizeOf, typeInfo, hq, hi, hl, hst]
/-- copy into a block that is known whole -/
theorem run_copy_blk (w : World) (dT sT ty elem : TypeId) (k g o dLen dCap : Nat) (ad : Addr) (sLen sCap : Nat) (t : TypeId) (a m b cs : List Value)
    (hu : P.underlying dT = some (.slice elem)) (hs : (P.info? elem).map (·.size) = some k) (hn : cs.length = Nat.min sLen dLen * k)
    (hsrc : ∀ j v, cs[j]? = some v → w.cell? (ad.add j) = some v) (hb : Blk w g t (a ++ (m ++ b))) (ho : a.length = o) (hm : m.length = cs.length) (h1 : ∀ v ∈ cs, v.oneCell' = true) :
    (Builtin.copy_ #[dT, sT] ty #[.slice (some ⟨g, o, none⟩) dLen dCap, .slice (some ad) sLen sCap]).run P w = .ok (goInt (Nat.min sLen dLen)) (w.setCells g o cs) :=
  run_copy_k w dT sT ty elem k g o dLen dCap ad sLen sCap cs hu hs hn hsrc (fun j hj => blk_some hb _ (by simp; omega)) (fun j _ => hb.frozen _) h1
theorem wpList_copy_runE (w : World) {ops : Array Oper} {rest : List Oper} {o : Oper} {a : Act} {Q : Exit → Act → World → Prop} (hgd : o.guard = none) (d s : Operand) (t t' : TypeId)
    (ho : o.op = .call { callee := .builtin .copy, args := #[d, s], argTypes := #[t, t'] }) (v u : Value) (hd : a.eval d = v) (hs : a.eval s = u) {v' : Value} {w' : World}
    (hr : (Builtin.copy_ #[t, t'] o.type #[v, u]).run P w = .ok v' w') (h : wpList P ops Q rest (a.put o.dst v') w') : wpList P ops Q (o :: rest) a w := by
  refine wpList_plain hgd fun K hK => ?_
  unfold Oper.wp execOp
  simp only [ho, resolve, invoke, builtin, Sem.run_bind, Sem.run_pure, Result.andThen_ok, List.map_toArray, List.map_cons, List.map_nil, hd, hs, hr]
  exact hK _ _ h
theorem step_copy_runE {ops : Array Oper} {o : Oper} {a : Act} {w : World} {K : Act → World → Prop} {Q : Exit → Act → World → Prop} {E : Prop}
    (hg : o.guard = none) (d x : Operand) (dT sT : TypeId) (hop : o.op = Op.call { callee := Callee.builtin Builtin.copy, args := #[d, x], argTypes := #[dT, sT] })
    (v u : Value) (hd : a.eval d = v) (hx : a.eval x = u) {v' : Value} {w' : World} (hr : (Builtin.copy_ #[dT, sT] o.type #[v, u]).run P w = .ok v' w') (hK : K (a.put o.dst v') w') :
    if Region.wanted o (yielded ops a.tmps) = true then Oper.wp P o a w K Q else E := by
  have hw : Region.wanted o (yielded ops a.tmps) = true := by simp [Region.wanted, hg]
  rw [if_pos hw]
  unfold Oper.wp
  simp [execOp, hop, resolve, invoke, builtin, hd, hx, hr, Result.andThen]
  exact hK
theorem wpList_append_runE (w : World) {ops : Array Oper} {rest : List Oper} {o : Oper} {a : Act} {Q : Exit → Act → World → Prop} (hgd : o.guard = none) (d s : Operand) (t t' : TypeId)
    (ho : o.op = .call { callee := .builtin .append, args := #[d, s], argTypes := #[t, t'] }) (v u : Value) (hd : a.eval d = v) (hs : a.eval s = u) {v' : Value} {w' : World}
    (hr : (Builtin.append_ #[t, t'] o.type #[v, u]).run P w = .ok v' w') (h : wpList P ops Q rest (a.put o.dst v') w') : wpList P ops Q (o :: rest) a w := by
  refine wpList_plain hgd fun K hK => ?_
  unfold Oper.wp execOp
  simp only [ho, resolve, invoke, builtin, Sem.run_bind, Sem.run_pure, Result.andThen_ok, List.map_toArray, List.map_cons, List.map_nil, hd, hs, hr]
  exact hK _ _ h
theorem step_append_runE {ops : Array Oper} {o : Oper} {a : Act} {w : World} {K : Act → World → Prop} {Q : Exit → Act → World → Prop} {E : Prop}
    (hg : o.guard = none) (d x : Operand) (dT sT : TypeId) (hop : o.op = Op.call { callee := Callee.builtin Builtin.append, args := #[d, x], argTypes := #[dT, sT] })
    (v u : Value) (hd : a.eval d = v) (hx : a.eval x = u) {v' : Value} {w' : World} (hr : (Builtin.append_ #[dT, sT] o.type #[v, u]).run P w = .ok v' w') (hK : K (a.put o.dst v') w') :
    if Region.wanted o (yielded ops a.tmps) = true then Oper.wp P o a w K Q else E := by
  have hw : Region.wanted o (yielded ops a.tmps) = true := by simp [Region.wanted, hg]
  rw [if_pos hw]
  unfold Oper.wp
  simp [execOp, hop, resolve, invoke, builtin, hd, hx, hr, Result.andThen]
  exact hK
theorem wpList_clear_runE (w : World) {ops : Array Oper} {rest : List Oper} {o : Oper} {a : Act} {Q : Exit → Act → World → Prop} (hgd : o.guard = none) (s : Operand) (t : TypeId)
    (ho : o.op = .call { callee := .builtin .clear, args := #[s], argTypes := #[t] }) (v : Value) (hs : a.eval s = v) {v' : Value} {w' : World}
    (hr : (Builtin.clear_ #[t] o.type #[v]).run P w = .ok v' w') (h : wpList P ops Q rest (a.put o.dst v') w') : wpList P ops Q (o :: rest) a w := by
  refine wpList_plain hgd fun K hK => ?_
  unfold Oper.wp execOp
  simp only [ho, resolve, invoke, builtin, Sem.run_bind, Sem.run_pure, Result.andThen_ok, List.map_toArray, List.map_cons, List.map_nil, hs, hr]
  exact hK _ _ h
theorem zeroCells_k (zc : List Value) (n : Nat) (hz : 0 < zc.length) : Builtin.zeroCells zc.toArray n = ((List.replicate n zc).flatten).toArray := by
  rw [← made_k zc n hz]
  simp [Builtin.zeroCells, madeCells]
theorem run_clear_k (w : World) (t e ty : TypeId) (z : Value) (zc : List Value) (ht : P.underlying t = some (.slice e)) (hv : ∀ w, (zeroValue e).run P w = .ok z w) (hz : z.cells = zc.toArray) (hz0 : 0 < zc.length) (h1 : ∀ v ∈ zc, v.oneCell' = true) (b o n c : Nat) (hn : 0 < n)
    (hc : ∀ j, j < n * zc.length → (w.cell? ⟨b, o + j, none⟩).isSome = true) (hf : ∀ j, j < n * zc.length → w.frozen? ⟨b, o + j, none⟩ = false) :
    (Builtin.clear_ #[t] ty #[.slice (some ⟨b, o, none⟩) n c]).run P w = .ok (.tuple #[]) (w.setCells b o (List.replicate n zc).flatten) := by
  have hl : ((List.replicate n zc).flatten).length = n * zc.length := by simp
  have hzc : (Builtin.zeroCells z.cells n).toList = (List.replicate n zc).flatten := by rw [hz, zeroCells_k zc n hz0]
  have hst := run_storeCells_cells (P := P) b o ((List.replicate n zc).flatten) 0 w (by simpa [hl] using hc) (by simpa [hl] using hf) (by
    intro v hv'
    simp only [List.mem_flatten, List.mem_replicate] at hv'
    obtain ⟨l, ⟨_, rfl⟩, hvl⟩ := hv'
    exact h1 v hvl)
  simp only [Nat.add_zero] at hst
  obtain ⟨m, rfl⟩ : ∃ m, n = m + 1 := ⟨n - 1, by omega⟩
  simp [Builtin.clear_, run_underlying ht, hv, hzc, hst]
end
/-- the block of a slice of the call's own, known whole -/
theorem own_blk {w : World} {base : Nat} {e : TypeId} {size n c : Nat} {A : Option Addr} {xs : List Value} (h : w.ownsRow base e size (.slice A n c) n xs) :
    (A = none ∧ n = 0 ∧ c = 0 ∧ xs = []) ∨ ∃ g sp, A = some ⟨g, 0, none⟩ ∧ base ≤ g ∧ Blk w g e (xs ++ sp) ∧ sp.length = (c - n) * size ∧ n ≤ c ∧ c ≤ maxLen := by
  have hl := h.1
  rcases h.2 with ⟨e1, hx⟩ | ⟨g, cap, cur, e1, hb, hg, h1, h2, h3, h4⟩
  · injection e1 with a1 a2 a3
    exact .inl ⟨a1, a2, a3, List.eq_nil_of_length_eq_zero (by rw [hl, hx, Nat.zero_mul])⟩
  · injection e1 with a1 a2 a3
    subst a1 a3
    refine .inr ⟨g, cur.toList.drop (n * size), rfl, hb, ?_, ?_, h1, h2⟩
    · unfold Blk
      rw [hg, ← h4, List.take_append_drop]
    · simp [h3, Nat.sub_mul]
theorem own_mk {w : World} {base : Nat} {e : TypeId} {size n c g : Nat} {xs sp : List Value} (h : Blk w g e (xs ++ sp)) (hb : base ≤ g) (hx : xs.length = n * size) (hs : sp.length = (c - n) * size) (hn : n ≤ c) (hc : c ≤ maxLen) :
    w.ownsRow base e size (.slice (some ⟨g, 0, none⟩) n c) n xs :=
  ⟨hx, .inr ⟨g, c, (xs ++ sp).toArray, rfl, hb, h, hn, hc, by simp [hx, hs, ← Nat.add_mul]; congr 1; omega, by simp [← hx]⟩⟩
end Go.Proofs.YtbkfhcbecejomaaGreat
end
section
/- A struct of many cells stored over a block: the world behind it, without its cells one by one. -/
namespace Go.Proofs.YtbkfhcbecejomaaGreat
open Go Go.ChangeShapes Go.WideShapes Go.ChangeAt Go.RowKit
set_option linter.unusedVariables false
theorem blk_there {w : World} {b : Nat} {t : TypeId} {old : List Value} {n : Nat} (h : Blk w b t old) (hl : old.length = n) : w.there b 0 n := fun j hj => by
  rw [Nat.zero_add]
  exact ⟨by rw [h.cellAt j (by omega)]; rfl, h.frozen j⟩
theorem blk_stored {w : World} {b : Nat} {t : TypeId} {old cells : List Value} (h : Blk w b t old) (hl : old.length = cells.length) : Blk (w.setCells b 0 cells) b t cells ∧ Out b (b + 1) w (w.setCells b 0 cells) := by
  have h1 := Blk.setCells_ (b := []) cells (w := w) (a := []) (m := old) (o := 0) (by simpa using h) rfl hl
  have hg := grown_setCells b cells 0 w
  exact ⟨by simpa using h1, ⟨hg.os, hg.tape, hg.output, hg.size, fun k hk hn => hg.block k hk (fun e => by injection e with e; omega)⟩⟩
theorem step_store_blk {P : Program} {ops : Array Oper} {o : Oper} {a : Act} {w : World} {K : Act → World → Prop} {Q : Exit → Act → World → Prop} {E : Prop} (hgd : o.guard = none) (ty : TypeId) (x y : Operand) (ho : o.op = .store ty x y)
    (b : Nat) (t : TypeId) (old cells : List Value) (hx : a.eval x = .pointer (some ⟨b, 0, none⟩)) (hy : a.eval y = .agg cells.toArray) (hB : Blk w b t old) (hl : old.length = cells.length)
    (hi : (P.info? ty).map (·.size) = some cells.length) (h1 : cells.toArray.all (·.oneCell') = true) (h : ∀ w', Blk w' b t cells → Out b (b + 1) w w' → K (a.put o.dst undef) w') :
    if Region.wanted o (yielded ops a.tmps) = true then Oper.wp P o a w K Q else E := by
  have hw : Region.wanted o (yielded ops a.tmps) = true := by simp [Region.wanted, hgd]
  rw [if_pos hw]
  obtain ⟨h2, h3⟩ := blk_stored hB hl
  exact wp_store_mid ty x y ho b 0 cells.toArray hx hy (by simpa using blk_there hB hl) (by simpa using hi) h1 (h _ h2 h3)
theorem wpList_store_blk {P : Program} {ops : Array Oper} {rest : List Oper} {o : Oper} {a : Act} {w : World} {Q : Exit → Act → World → Prop} (hgd : o.guard = none) (ty : TypeId) (x y : Operand) (ho : o.op = .store ty x y)
    (b : Nat) (t : TypeId) (old cells : List Value) (hx : a.eval x = .pointer (some ⟨b, 0, none⟩)) (hy : a.eval y = .agg cells.toArray) (hB : Blk w b t old) (hl : old.length = cells.length)
    (hi : (P.info? ty).map (·.size) = some cells.length) (h1 : cells.toArray.all (·.oneCell') = true) (h : ∀ w', Blk w' b t cells → Out b (b + 1) w w' → wpList P ops Q rest (a.put o.dst undef) w') :
    wpList P ops Q (o :: rest) a w := by
  obtain ⟨h2, h3⟩ := blk_stored hB hl
  exact wpList_plain hgd fun K hK => wp_store_mid ty x y ho b 0 cells.toArray hx hy (by simpa using blk_there hB hl) (by simpa using hi) h1 (hK _ _ (h _ h2 h3))
end Go.Proofs.YtbkfhcbecejomaaGreat
end
section
/- A number within bounds, as a Boolean. -/
namespace Go.Proofs.YtbkfhcbecejomaaGreat
def inI (a lo hi : Int) : Bool := decide (lo ≤ a) && decide (a ≤ hi)
end Go.Proofs.YtbkfhcbecejomaaGreat
end
section
/- Boxes and differences in plain words, no program in sight. -/
namespace Go.Proofs.YtbkfhcbecejomaaGreat
set_option linter.unusedVariables false
structure BoxV where
  f0 : Int
  f1 : Int
  f2 : Int
  f3 : Int
  f4 : Bool
deriving DecidableEq
instance : Inhabited BoxV := ⟨⟨0, 0, 0, 0, false⟩⟩
structure DiffV where
  k : Int
  b : BoxV
deriving DecidableEq
instance : Inhabited DiffV := ⟨⟨0, default⟩⟩
theorem inI_iff {a lo hi : Int} : inI a lo hi = true ↔ lo ≤ a ∧ a ≤ hi := by simp [inI]
def bOk (x : BoxV) : Bool := ((inI x.f0 1 999 && inI x.f1 1 30) && inI x.f2 0 3) && inI x.f3 0 6
theorem bOk_id {x : BoxV} (h : bOk x = true) : 1 ≤ x.f0 ∧ x.f0 ≤ 999 := by
  simp only [bOk, Bool.and_eq_true, inI_iff] at h
  omega
def isF (id : Int) (x : BoxV) : Bool := decide (x.f0 = id)
theorem isF_iff {id : Int} {x : BoxV} : isF id x = true ↔ x.f0 = id := by simp [isF]
/-- is there a box with the id -/
def hasF (zs : List BoxV) (id : Int) : Bool := zs.any (isF id)
theorem hasF_iff {zs : List BoxV} {id : Int} : hasF zs id = true ↔ ∃ x ∈ zs, x.f0 = id := by simp [hasF, isF]
/-- where the first box with the id stands -/
def findF (zs : List BoxV) (id : Int) : Option Nat := zs.findIdx? (isF id)
def idxI (o : Option Nat) : Int := match o with | some i => i | none => -1
theorem findF_none {zs : List BoxV} {id : Int} : findF zs id = none ↔ ∀ x ∈ zs, x.f0 ≠ id := by
  simp [findF, List.findIdx?_eq_none_iff, isF]
theorem findF_some {zs : List BoxV} {id : Int} {i : Nat} (h : findF zs id = some i) : ∃ hi : i < zs.length, zs[i].f0 = id ∧ zs.find? (isF id) = some zs[i] := by
  unfold findF at h
  obtain ⟨hi, h1, h2⟩ := List.findIdx?_eq_some_iff_getElem.1 h
  refine ⟨hi, isF_iff.1 h1, ?_⟩
  rw [List.find?_eq_some_iff_getElem]
  exact ⟨h1, i, hi, rfl, fun j hj => by simpa using h2 j hj⟩
theorem findF_find {zs : List BoxV} {id : Int} : findF zs id = none ↔ zs.find? (isF id) = none := by
  rw [findF_none, List.find?_eq_none]
  simp [isF]
theorem findF_has {zs : List BoxV} {id : Int} : decide (0 ≤ idxI (findF zs id)) = hasF zs id := by
  cases h : findF zs id with
  | none =>
    have : hasF zs id = false := by
      cases h2 : hasF zs id with
      | false => rfl
      | true =>
        obtain ⟨x, hx, he⟩ := hasF_iff.1 h2
        exact absurd he (findF_none.1 h x hx)
    rw [this]; rfl
  | some i =>
    obtain ⟨hi, he, _⟩ := findF_some h
    have : hasF zs id = true := hasF_iff.2 ⟨_, List.getElem_mem hi, he⟩
    rw [this]
    simp [idxI]
/-- a find that steps: behind k boxes that are not it -/
theorem findF_step {zs : List BoxV} {id : Int} {k : Nat} (hk : k < zs.length) (h : ∀ x ∈ zs.take k, x.f0 ≠ id) : (zs[k].f0 = id → findF zs id = some k) ∧ (zs[k].f0 ≠ id → ∀ x ∈ zs.take (k + 1), x.f0 ≠ id) := by
  constructor
  · intro he
    unfold findF
    rw [List.findIdx?_eq_some_iff_getElem]
    refine ⟨hk, isF_iff.2 he, fun j hj => ?_⟩
    have : zs[j]'(by omega) ∈ zs.take k := List.mem_take_iff_getElem.2 ⟨j, by omega, rfl⟩
    have := h _ this
    simpa [isF] using this
  · intro he x hx
    rw [List.take_succ_eq_append_getElem hk, List.mem_append] at hx
    rcases hx with hx | hx
    · exact h x hx
    · rw [List.mem_singleton] at hx; subst hx; exact he
theorem findF_end {zs : List BoxV} {id : Int} (h : ∀ x ∈ zs.take zs.length, x.f0 ≠ id) : findF zs id = none := by
  rw [List.take_length] at h
  exact findF_none.2 h
/-- valid boxes: from behind the boxes p on -/
def okGo : List BoxV → List BoxV → Bool
  | _, [] => true
  | p, x :: r => (bOk x && !hasF p x.f0) && okGo (p ++ [x]) r
def boxesOk (zs : List BoxV) : Bool := okGo [] zs && decide (zs.length ≤ 10)
theorem okGo_step {zs p : List BoxV} {k : Nat} (h : k < zs.length) : okGo (p ++ zs.take k) (zs.drop k) = ((bOk zs[k] && !hasF (p ++ zs.take k) zs[k].f0) && okGo (p ++ zs.take (k + 1)) (zs.drop (k + 1))) := by
  rw [List.drop_eq_getElem_cons h, okGo, List.take_succ_eq_append_getElem h, List.append_assoc]
theorem okGo_at {zs : List BoxV} {k : Nat} (h : k < zs.length) : okGo (zs.take k) (zs.drop k) = ((bOk zs[k] && !hasF (zs.take k) zs[k].f0) && okGo (zs.take (k + 1)) (zs.drop (k + 1))) := by
  have := okGo_step (p := []) h
  simpa using this
/-- in the whole list the box k stands first at k or ahead of it -/
theorem findF_lt {zs : List BoxV} {k : Nat} (h : k < zs.length) : decide (idxI (findF zs zs[k].f0) < (k : Int)) = hasF (zs.take k) zs[k].f0 := by
  have hle : hasF (zs.take k) zs[k].f0 = true ↔ idxI (findF zs zs[k].f0) < (k : Int) := by
    cases hf : findF zs zs[k].f0 with
    | none => exact absurd rfl (findF_none.1 hf _ (List.getElem_mem h))
    | some i =>
      obtain ⟨hi, he, _⟩ := findF_some hf
      unfold findF at hf
      obtain ⟨_, _, h2⟩ := List.findIdx?_eq_some_iff_getElem.1 hf
      constructor
      · intro ha
        obtain ⟨x, hx, hxe⟩ := hasF_iff.1 ha
        obtain ⟨j, hj, rfl⟩ := List.mem_take_iff_getElem.1 hx
        rcases Nat.lt_or_ge j i with hlt | hge
        · have := h2 j hlt
          simp only [isF, decide_eq_true_eq] at this
          exact absurd hxe this
        · simp only [idxI]; omega
      · intro hlt
        simp only [idxI] at hlt
        exact hasF_iff.2 ⟨zs[i], List.mem_take_iff_getElem.2 ⟨i, by omega, rfl⟩, he⟩
  cases hh : hasF (zs.take k) zs[k].f0 with
  | true => rw [decide_eq_true_eq]; exact hle.1 hh
  | false =>
    rw [decide_eq_false_iff_not]
    intro h2
    rw [hle.2 h2] at hh
    cases hh
theorem okGo_iff {zs p : List BoxV} : okGo p zs = true ↔ (∀ x ∈ zs, bOk x = true ∧ ∀ y ∈ p, y.f0 ≠ x.f0) ∧ zs.Pairwise (fun a b => a.f0 ≠ b.f0) := by
  induction zs generalizing p with
  | nil => simp [okGo]
  | cons z zs ih =>
    have hh : hasF p z.f0 = false ↔ ∀ y ∈ p, y.f0 ≠ z.f0 := by
      rw [← Bool.not_eq_true, hasF_iff]
      simp
    simp only [okGo, Bool.and_eq_true, Bool.not_eq_true', ih, hh, List.mem_cons, List.pairwise_cons, List.mem_append, List.not_mem_nil, or_false]
    constructor
    · rintro ⟨⟨h1, h2⟩, h3, h4⟩
      refine ⟨fun x hx => ?_, fun x hx => ?_, h4⟩
      · rcases hx with rfl | hx
        · exact ⟨h1, h2⟩
        · exact ⟨(h3 x hx).1, fun y hy => (h3 x hx).2 y (.inl hy)⟩
      · exact (h3 x hx).2 z (.inr rfl)
    · rintro ⟨h1, h2, h3⟩
      refine ⟨⟨(h1 z (.inl rfl)).1, (h1 z (.inl rfl)).2⟩, fun x hx => ⟨(h1 x (.inr hx)).1, fun y hy => ?_⟩, h3⟩
      rcases hy with hy | rfl
      · exact (h1 x (.inr hx)).2 y hy
      · exact h2 x hx
theorem boxesOk_iff {zs : List BoxV} : boxesOk zs = true ↔ (∀ x ∈ zs, bOk x = true) ∧ zs.Pairwise (fun a b => a.f0 ≠ b.f0) ∧ zs.length ≤ 10 := by
  simp only [boxesOk, Bool.and_eq_true, decide_eq_true_eq, okGo_iff, List.not_mem_nil]
  constructor
  · rintro ⟨⟨h1, h2⟩, h3⟩; exact ⟨fun x hx => (h1 x hx).1, h2, h3⟩
  · rintro ⟨h1, h2, h3⟩; exact ⟨⟨fun x hx => ⟨h1 x hx, fun y hy => by cases hy⟩, h2⟩, h3⟩
theorem boxesOk_perm {a b : List BoxV} (h : a.Perm b) : boxesOk a = boxesOk b := by
  have key : ∀ {a b : List BoxV}, a.Perm b → boxesOk a = true → boxesOk b = true := by
    intro a b h ha
    obtain ⟨h1, h2, h3⟩ := boxesOk_iff.1 ha
    exact boxesOk_iff.2 ⟨fun x hx => h1 x (h.mem_iff.2 hx), h.pairwise h2 (fun hab e => hab e.symm), by rw [← h.length_eq]; exact h3⟩
  cases ha : boxesOk a with
  | true => exact (key h ha).symm
  | false =>
    cases hb : boxesOk b with
    | false => rfl
    | true => rw [key h.symm hb] at ha; cases ha
/-- two boxes of valid boxes with one id are one -/
theorem box_uniq {zs : List BoxV} (h : zs.Pairwise (fun a b => a.f0 ≠ b.f0)) {x y : BoxV} (hx : x ∈ zs) (hy : y ∈ zs) (e : x.f0 = y.f0) : x = y := by
  induction zs with
  | nil => cases hx
  | cons z zs ih =>
    obtain ⟨h1, h2⟩ := List.pairwise_cons.1 h
    rcases List.mem_cons.1 hx with ex | mx
    · rcases List.mem_cons.1 hy with ey | my
      · rw [ex, ey]
      · exact absurd (by rw [← ex]; exact e) (h1 y my)
    · rcases List.mem_cons.1 hy with ey | my
      · exact absurd (by rw [← ey]; exact e.symm) (h1 x mx)
      · exact ih h2 mx my
theorem find_mem {zs : List BoxV} (h : zs.Pairwise (fun a b => a.f0 ≠ b.f0)) {x : BoxV} {id : Int} : zs.find? (isF id) = some x ↔ x ∈ zs ∧ x.f0 = id := by
  constructor
  · intro hf
    exact ⟨List.mem_of_find?_eq_some hf, isF_iff.1 (List.find?_some hf)⟩
  · rintro ⟨hx, he⟩
    cases hf : zs.find? (isF id) with
    | none =>
      have := List.find?_eq_none.1 hf x hx
      exact absurd (isF_iff.2 he) this
    | some y =>
      have hy := List.mem_of_find?_eq_some hf
      have hye := isF_iff.1 (List.find?_some hf)
      rw [box_uniq h hx hy (he.trans hye.symm)]
theorem find_none {zs : List BoxV} {id : Int} : zs.find? (isF id) = none ↔ ∀ x ∈ zs, x.f0 ≠ id := by rw [← findF_find, findF_none]
theorem find_perm {a b : List BoxV} (h : a.Perm b) (ha : a.Pairwise (fun a b => a.f0 ≠ b.f0)) (id : Int) : a.find? (isF id) = b.find? (isF id) := by
  have hb := h.pairwise ha (fun hab e => hab e.symm)
  cases hf : b.find? (isF id) with
  | none => exact find_none.2 (fun x hx => find_none.1 hf x (h.mem_iff.1 hx))
  | some x =>
    obtain ⟨h1, h2⟩ := (find_mem hb).1 hf
    exact (find_mem ha).2 ⟨h.mem_iff.2 h1, h2⟩
/-- lists by ascending keys that have the same members are one -/
theorem asc_ext {α : Type} (key : α → Int) {a b : List α} (ha : a.Pairwise (fun x y => key x < key y)) (hb : b.Pairwise (fun x y => key x < key y)) (h : ∀ x, x ∈ a ↔ x ∈ b) : a = b := by
  induction a generalizing b with
  | nil =>
    cases b with
    | nil => rfl
    | cons y b => exact absurd ((h y).2 (List.mem_cons_self ..)) (by simp)
  | cons x a ih =>
    cases b with
    | nil => exact absurd ((h x).1 (List.mem_cons_self ..)) (by simp)
    | cons y b =>
      obtain ⟨a1, a2⟩ := List.pairwise_cons.1 ha
      obtain ⟨b1, b2⟩ := List.pairwise_cons.1 hb
      have hxy : x = y := by
        rcases List.mem_cons.1 ((h x).1 (List.mem_cons_self ..)) with e | hx
        · exact e
        · rcases List.mem_cons.1 ((h y).2 (List.mem_cons_self ..)) with e | hy
          · exact e.symm
          · have q1 := a1 y hy; have q2 := b1 x hx; omega
      subst hxy
      congr 1
      refine ih a2 b2 fun z => ?_
      constructor
      · intro hz
        rcases List.mem_cons.1 ((h z).1 (List.mem_cons_of_mem _ hz)) with rfl | hz'
        · have := a1 z hz; omega
        · exact hz'
      · intro hz
        rcases List.mem_cons.1 ((h z).2 (List.mem_cons_of_mem _ hz)) with rfl | hz'
        · have := b1 z hz; omega
        · exact hz'
/-- what f gives for the ids 1 to k -/
def coll {α : Type} (f : Int → Option α) (k : Nat) : List α := (List.range k).filterMap (fun (i : Nat) => f ((i : Int) + 1))
theorem coll_zero {α : Type} (f : Int → Option α) : coll f 0 = [] := rfl
theorem coll_succ {α : Type} (f : Int → Option α) (k : Nat) : coll f (k + 1) = coll f k ++ (f ((k : Int) + 1)).toList := by
  unfold coll
  rw [List.range_succ, List.filterMap_append]
  cases h : f ((k : Int) + 1) <;> simp [h]
theorem coll_mem {α : Type} {f : Int → Option α} {k : Nat} {x : α} : x ∈ coll f k ↔ ∃ i : Nat, i < k ∧ f ((i : Int) + 1) = some x := by
  simp [coll, List.mem_filterMap]
theorem coll_asc {α : Type} (key : α → Int) {f : Int → Option α} (hf : ∀ id x, f id = some x → key x = id) (k : Nat) : (coll f k).Pairwise (fun x y => key x < key y) := by
  induction k with
  | zero => exact List.Pairwise.nil
  | succ k ih =>
    rw [coll_succ, List.pairwise_append]
    refine ⟨ih, ?_, fun a ha b hb => ?_⟩
    · cases f ((k : Int) + 1) <;> simp
    · obtain ⟨i, hi, h1⟩ := coll_mem.1 ha
      rw [Option.mem_toList] at hb
      have e1 := hf _ _ h1
      have e2 := hf _ _ hb
      omega
theorem coll_len {α : Type} (f : Int → Option α) (k : Nat) : (coll f k).length ≤ k := by
  unfold coll
  have := List.length_filterMap_le (fun (i : Nat) => f ((i : Int) + 1)) (List.range k)
  simpa using this
/-- the boxes by ascending ids -/
def collB (zs : List BoxV) : List BoxV := coll (fun id => zs.find? (isF id)) 999
def sortB (zs : List BoxV) : List BoxV := if boxesOk zs then collB zs else []
theorem collB_asc (zs : List BoxV) : (collB zs).Pairwise (fun x y => x.f0 < y.f0) := coll_asc BoxV.f0 (fun id x h => isF_iff.1 (List.find?_some h)) 999
theorem collB_mem {zs : List BoxV} (h : boxesOk zs = true) {x : BoxV} : x ∈ collB zs ↔ x ∈ zs := by
  obtain ⟨h1, h2, h3⟩ := boxesOk_iff.1 h
  unfold collB
  rw [coll_mem]
  constructor
  · rintro ⟨i, _, hf⟩; exact List.mem_of_find?_eq_some hf
  · intro hx
    have := bOk_id (h1 x hx)
    refine ⟨(x.f0 - 1).toNat, by omega, (find_mem h2).2 ⟨hx, by omega⟩⟩
/-- whatever is a permutation and ascends is it -/
theorem collB_uniq {zs ys : List BoxV} (h : boxesOk zs = true) (hp : ys.Perm zs) (ha : ys.Pairwise (fun x y => x.f0 ≤ y.f0)) : ys = collB zs := by
  obtain ⟨h1, h2, h3⟩ := boxesOk_iff.1 h
  have hn := hp.symm.pairwise h2 (fun hab e => hab e.symm)
  have ha' : ys.Pairwise (fun x y => x.f0 < y.f0) := by
    have := ha.and hn
    exact this.imp (fun ⟨a, b⟩ => by omega)
  exact asc_ext BoxV.f0 ha' (collB_asc zs) (fun x => by rw [collB_mem h, hp.mem_iff])
theorem perm_of_mem {α : Type} [DecidableEq α] {a b : List α} (ha : a.Nodup) (hb : b.Nodup) (h : ∀ x, x ∈ a ↔ x ∈ b) : a.Perm b := by
  rw [List.perm_iff_count]
  intro x
  rw [ha.count, hb.count]
  simp only [h]
theorem ne_nodup {α : Type} {key : α → Int} {a : List α} (h : a.Pairwise (fun x y => key x ≠ key y)) : a.Nodup := h.imp (fun h e => h (by rw [e]))
theorem lt_nodup {α : Type} {key : α → Int} {a : List α} (h : a.Pairwise (fun x y => key x < key y)) : a.Nodup := ne_nodup (key := key) (h.imp (fun h e => by omega))
theorem collB_perm {zs : List BoxV} (h : boxesOk zs = true) : (collB zs).Perm zs :=
  perm_of_mem (lt_nodup (collB_asc zs)) (ne_nodup (key := BoxV.f0) (boxesOk_iff.1 h).2.1) (fun x => collB_mem h)
theorem collB_len {zs : List BoxV} (h : boxesOk zs = true) : (collB zs).length = zs.length := (collB_perm h).length_eq
theorem collB_ok {zs : List BoxV} (h : boxesOk zs = true) : boxesOk (collB zs) = true := by rw [boxesOk_perm (collB_perm h)]; exact h
theorem collB_eq {a b : List BoxV} (hp : a.Perm b) (h : boxesOk a = true) : collB a = collB b := by
  have hb : boxesOk b = true := by rw [← boxesOk_perm hp]; exact h
  exact collB_uniq hb ((collB_perm h).trans hp) ((collB_asc a).imp (fun h => by omega))
theorem collB_idem {zs : List BoxV} (h : boxesOk zs = true) : collB (collB zs) = collB zs := collB_eq (collB_perm h) (collB_ok h)
theorem sortB_len (zs : List BoxV) : (sortB zs).length ≤ 10 := by
  unfold sortB
  split
  · next h => rw [collB_len h]; exact (boxesOk_iff.1 h).2.2
  · simp
/-- what there is to tell of an id -/
def diffAt (told seen : List BoxV) (id : Int) : Option DiffV :=
  match told.find? (isF id), seen.find? (isF id) with
  | some a, none => some ⟨0, a⟩
  | none, some b => some ⟨1, b⟩
  | some a, some b => if a = b then none else some ⟨2, b⟩
  | none, none => none
theorem diffAt_id {told seen : List BoxV} {id : Int} {d : DiffV} (h : diffAt told seen id = some d) : d.b.f0 = id := by
  unfold diffAt at h
  split at h
  · next h1 h2 => cases h; exact isF_iff.1 (List.find?_some h1)
  · next h1 h2 => cases h; exact isF_iff.1 (List.find?_some h2)
  · next h1 h2 =>
    split at h
    · cases h
    · cases h; exact isF_iff.1 (List.find?_some h2)
  · cases h
def collD (told seen : List BoxV) : List DiffV := coll (diffAt told seen) 999
def diffsB (told seen : List BoxV) : List DiffV := if (boxesOk told && boxesOk seen) then collD told seen else []
theorem collD_asc (told seen : List BoxV) : (collD told seen).Pairwise (fun x y => x.b.f0 < y.b.f0) := coll_asc (fun d : DiffV => d.b.f0) (fun _ _ h => diffAt_id h) 999
/-- what the first loop tells -/
def goneOr (seen : List BoxV) (b : BoxV) : Option DiffV :=
  match seen.find? (isF b.f0) with
  | none => some ⟨0, b⟩
  | some c => if c = b then none else some ⟨2, c⟩
/-- what the second loop tells -/
def newOr (told : List BoxV) (b : BoxV) : Option DiffV := if hasF told b.f0 then none else some ⟨1, b⟩
theorem goneOr_id {seen : List BoxV} {b : BoxV} {d : DiffV} (h : goneOr seen b = some d) : d.b.f0 = b.f0 := by
  unfold goneOr at h
  split at h
  · cases h; rfl
  · next c hc =>
    split at h
    · cases h
    · cases h; exact isF_iff.1 (List.find?_some hc)
theorem newOr_id {told : List BoxV} {b : BoxV} {d : DiffV} (h : newOr told b = some d) : d.b.f0 = b.f0 := by
  unfold newOr at h
  split at h
  · cases h
  · cases h; rfl
def rawD (told seen : List BoxV) : List DiffV := told.filterMap (goneOr seen) ++ seen.filterMap (newOr told)
theorem rawD_len (told seen : List BoxV) : (rawD told seen).length ≤ told.length + seen.length := by
  unfold rawD
  rw [List.length_append]
  have h1 := List.length_filterMap_le (goneOr seen) told
  have h2 := List.length_filterMap_le (newOr told) seen
  omega
theorem rawD_mem {told seen : List BoxV} (ht : boxesOk told = true) (hs : boxesOk seen = true) {d : DiffV} : d ∈ rawD told seen ↔ d ∈ collD told seen := by
  obtain ⟨t1, t2, _⟩ := boxesOk_iff.1 ht
  obtain ⟨s1, s2, _⟩ := boxesOk_iff.1 hs
  unfold rawD collD
  rw [List.mem_append, List.mem_filterMap, List.mem_filterMap, coll_mem]
  have nat : ∀ x : BoxV, bOk x = true → ∃ i : Nat, i < 999 ∧ (i : Int) + 1 = x.f0 := fun x hx => ⟨(x.f0 - 1).toNat, by have := bOk_id hx; omega, by have := bOk_id hx; omega⟩
  constructor
  · rintro (⟨b, hb, hd⟩ | ⟨b, hb, hd⟩)
    · obtain ⟨i, hi, e⟩ := nat b (t1 b hb)
      refine ⟨i, hi, ?_⟩
      rw [e]
      unfold diffAt
      rw [(find_mem t2).2 ⟨hb, rfl⟩]
      unfold goneOr at hd
      cases hf : seen.find? (isF b.f0) with
      | none => rw [hf] at hd; exact hd
      | some c =>
        rw [hf] at hd
        show (if b = c then none else some (⟨2, c⟩ : DiffV)) = some d
        change (if c = b then none else some (⟨2, c⟩ : DiffV)) = some d at hd
        by_cases hcb : c = b
        · rw [if_pos hcb] at hd; cases hd
        · rw [if_neg hcb] at hd
          rw [if_neg (fun e => hcb e.symm)]; exact hd
    · obtain ⟨i, hi, e⟩ := nat b (s1 b hb)
      refine ⟨i, hi, ?_⟩
      rw [e]
      unfold diffAt
      rw [(find_mem s2).2 ⟨hb, rfl⟩]
      unfold newOr at hd
      by_cases hh : hasF told b.f0 = true
      · rw [if_pos hh] at hd; cases hd
      · rw [if_neg hh] at hd
        have : told.find? (isF b.f0) = none := find_none.2 (fun x hx he => hh (hasF_iff.2 ⟨x, hx, he⟩))
        rw [this]
        exact hd
  · rintro ⟨i, hi, hd⟩
    unfold diffAt at hd
    split at hd
    · next a h1 h2 =>
      cases hd
      obtain ⟨m1, m2⟩ := (find_mem t2).1 h1
      refine .inl ⟨a, m1, ?_⟩
      unfold goneOr
      rw [m2, h2]
    · next b h1 h2 =>
      cases hd
      obtain ⟨m1, m2⟩ := (find_mem s2).1 h2
      refine .inr ⟨b, m1, ?_⟩
      unfold newOr
      have : ¬ hasF told b.f0 = true := fun hh => by
        obtain ⟨x, hx, he⟩ := hasF_iff.1 hh
        exact find_none.1 h1 x hx (he.trans m2)
      rw [if_neg this]
    · next a b h1 h2 =>
      by_cases hab : a = b
      · rw [if_pos hab] at hd; cases hd
      · rw [if_neg hab] at hd
        cases hd
        obtain ⟨m1, m2⟩ := (find_mem t2).1 h1
        refine .inl ⟨a, m1, ?_⟩
        unfold goneOr
        rw [m2, h2]
        show (if b = a then none else some (⟨2, b⟩ : DiffV)) = _
        rw [if_neg (fun e => hab e.symm)]
    · cases hd
theorem filterMap_ne {α : Type} {f : BoxV → Option α} {key : α → Int} (hf : ∀ b d, f b = some d → key d = b.f0) {zs : List BoxV} (h : zs.Pairwise (fun a b => a.f0 ≠ b.f0)) : (zs.filterMap f).Pairwise (fun x y => key x ≠ key y) := by
  rw [List.pairwise_filterMap]
  exact h.imp (fun hab d hd d' hd' => by rw [hf _ _ hd, hf _ _ hd']; exact hab)
theorem rawD_ne {told seen : List BoxV} (ht : boxesOk told = true) (hs : boxesOk seen = true) : (rawD told seen).Pairwise (fun x y => x.b.f0 ≠ y.b.f0) := by
  obtain ⟨t1, t2, _⟩ := boxesOk_iff.1 ht
  obtain ⟨s1, s2, _⟩ := boxesOk_iff.1 hs
  unfold rawD
  rw [List.pairwise_append]
  refine ⟨filterMap_ne (key := fun d : DiffV => d.b.f0) (fun b d h => goneOr_id h) t2, filterMap_ne (key := fun d : DiffV => d.b.f0) (fun b d h => newOr_id h) s2, fun a ha b hb e => ?_⟩
  rw [List.mem_filterMap] at ha hb
  obtain ⟨x, hx, hxd⟩ := ha
  obtain ⟨y, hy, hyd⟩ := hb
  have e1 := goneOr_id hxd
  have e2 := newOr_id hyd
  unfold newOr at hyd
  have : hasF told y.f0 = true := hasF_iff.2 ⟨x, hx, by omega⟩
  rw [if_pos this] at hyd
  cases hyd
theorem collD_uniq {told seen : List BoxV} {ys : List DiffV} (ht : boxesOk told = true) (hs : boxesOk seen = true) (hp : ys.Perm (rawD told seen)) (ha : ys.Pairwise (fun x y => x.b.f0 ≤ y.b.f0)) : ys = collD told seen := by
  have hn := hp.symm.pairwise (rawD_ne ht hs) (fun hab e => hab e.symm)
  have ha' : ys.Pairwise (fun x y => x.b.f0 < y.b.f0) := (ha.and hn).imp (fun ⟨a, b⟩ => by omega)
  exact asc_ext (fun d : DiffV => d.b.f0) ha' (collD_asc told seen) (fun x => by rw [hp.mem_iff, rawD_mem ht hs])
theorem diffsB_len (told seen : List BoxV) : (diffsB told seen).length ≤ 20 := by
  unfold diffsB
  split
  · next h =>
    rw [Bool.and_eq_true] at h
    have hp : (collD told seen).Perm (rawD told seen) := perm_of_mem (lt_nodup (key := fun d : DiffV => d.b.f0) (collD_asc told seen)) (ne_nodup (key := fun d : DiffV => d.b.f0) (rawD_ne h.1 h.2)) (fun x => (rawD_mem h.1 h.2).symm)
    rw [hp.length_eq]
    have := rawD_len told seen
    have := (boxesOk_iff.1 h.1).2.2
    have := (boxesOk_iff.1 h.2).2.2
    omega
  · simp
end Go.Proofs.YtbkfhcbecejomaaGreat
end
section
/- Yards: the plain words. -/
namespace Go.Proofs.YtbkfhcbecejomaaGreat
/-- whether a number is in a list -/
def hasI (zs : List Int) (x : Int) : Bool := zs.contains x
def idI (x : Int) : Bool := decide (1 ≤ x) && decide (x ≤ 999)
def sOk : List Int → List Int → Bool
  | _, [] => true
  | p, x :: r => (idI x && !hasI p x) && sOk (p ++ [x]) r
def stackOk (s : List Int) (high : Int) : Bool := sOk [] s && ((decide (1 ≤ high) && decide (high ≤ 5)) && decide ((s.length : Int) ≤ high))
def dOk : List Int → List Int → Bool
  | _, [] => true
  | p, x :: r => !hasI p x && dOk (p ++ [x]) r
def yOk (high : Int) : List Int → List (List Int) → Bool
  | _, [] => true
  | p, s :: r => stackOk s high && (dOk p s && yOk high (p ++ s) r)
def yardOk (high : Int) (rows : List (List Int)) : Bool := (decide (1 ≤ (rows.length : Int)) && decide ((rows.length : Int) ≤ 5)) && yOk high [] rows
theorem sOk_step {s p : List Int} {k : Nat} (h : k < s.length) : sOk (p ++ s.take k) (s.drop k) = ((idI s[k] && !hasI (p ++ s.take k) s[k]) && sOk (p ++ s.take (k + 1)) (s.drop (k + 1))) := by
  rw [List.drop_eq_getElem_cons h, sOk, List.take_succ_eq_append_getElem h, List.append_assoc]
theorem sOk_end {s p : List Int} {k : Nat} (h : s.length ≤ k) : sOk (p ++ s.take k) (s.drop k) = true := by
  rw [List.drop_of_length_le h, sOk]
theorem dOk_step {s p : List Int} {k : Nat} (h : k < s.length) : dOk (p ++ s.take k) (s.drop k) = (!hasI (p ++ s.take k) s[k] && dOk (p ++ s.take (k + 1)) (s.drop (k + 1))) := by
  rw [List.drop_eq_getElem_cons h, dOk, List.take_succ_eq_append_getElem h, List.append_assoc]
theorem dOk_end {s p : List Int} {k : Nat} (h : s.length ≤ k) : dOk (p ++ s.take k) (s.drop k) = true := by
  rw [List.drop_of_length_le h, dOk]
theorem yOk_step {high : Int} {l : List (List Int)} {k : Nat} (h : k < l.length) : yOk high ((l.take k).flatten) (l.drop k) = (stackOk l[k] high && (dOk ((l.take k).flatten) l[k] && yOk high ((l.take (k + 1)).flatten) (l.drop (k + 1)))) := by
  rw [List.drop_eq_getElem_cons h, yOk, List.take_succ_eq_append_getElem h, List.flatten_append]
  simp
theorem yOk_end {high : Int} {l : List (List Int)} {k : Nat} (h : l.length ≤ k) : yOk high ((l.take k).flatten) (l.drop k) = true := by
  rw [List.drop_of_length_le h, yOk]
theorem has_step {s : List Int} {k : Nat} {x : Int} (h : k < s.length) (h0 : hasI (s.take k) x = false) (hx : s[k] ≠ x) : hasI (s.take (k + 1)) x = false := by
  rw [List.take_succ_eq_append_getElem h]
  simp only [hasI, List.contains_eq_mem, List.mem_append, List.mem_singleton, decide_eq_false_iff_not] at *
  rintro (h | h)
  · exact h0 h
  · exact hx h.symm
theorem has_yes {s : List Int} {k : Nat} {x : Int} (h : k < s.length) (hx : s[k] = x) : hasI s x = true := by
  simp only [hasI, List.contains_eq_mem, decide_eq_true_eq]
  rw [← hx]
  exact List.getElem_mem h
theorem stackOk_parts {s : List Int} {high : Int} (h : stackOk s high = true) : sOk [] s = true ∧ 1 ≤ high ∧ high ≤ 5 ∧ (s.length : Int) ≤ high := by
  simp only [stackOk, Bool.and_eq_true, decide_eq_true_eq] at h
  exact ⟨h.1, h.2.1.1, h.2.1.2, h.2.2⟩
theorem sOk_ids {p s : List Int} (h : sOk p s = true) : ∀ x ∈ s, 1 ≤ x ∧ x ≤ 999 := by
  induction s generalizing p with
  | nil => intro x hx; simp at hx
  | cons a s ih =>
    simp only [sOk, Bool.and_eq_true, idI, decide_eq_true_eq] at h
    intro x hx
    rcases List.mem_cons.1 hx with rfl | hx
    · exact h.1.1
    · exact ih h.2 x hx
theorem yOk_in {high : Int} {p : List Int} {l : List (List Int)} (h : yOk high p l = true) : ∀ s ∈ l, stackOk s high = true := by
  induction l generalizing p with
  | nil => intro s hs; simp at hs
  | cons a l ih =>
    simp only [yOk, Bool.and_eq_true] at h
    intro s hs
    rcases List.mem_cons.1 hs with rfl | hs
    · exact h.1
    · exact ih h.2.2 s hs
theorem yardOk_parts {high : Int} {rows : List (List Int)} (h : yardOk high rows = true) : 1 ≤ rows.length ∧ rows.length ≤ 5 ∧ 1 ≤ high ∧ high ≤ 5 ∧ (∀ s ∈ rows, s.length ≤ 5) ∧ (∀ s ∈ rows, ∀ x ∈ s, 1 ≤ x ∧ x ≤ 999) := by
  simp only [yardOk, Bool.and_eq_true, decide_eq_true_eq] at h
  obtain ⟨⟨h1, h2⟩, h3⟩ := h
  have hs := yOk_in h3
  have h4 : 1 ≤ high ∧ high ≤ 5 := by
    obtain ⟨a, r, rfl⟩ : ∃ a r, rows = a :: r := by cases rows with
      | nil => simp at h1
      | cons a r => exact ⟨a, r, rfl⟩
    have := stackOk_parts (hs a (List.mem_cons_self ..))
    omega
  refine ⟨by omega, by omega, h4.1, h4.2, fun s hm => ?_, fun s hm => sOk_ids (stackOk_parts (hs s hm)).1⟩
  have := stackOk_parts (hs s hm)
  omega
end Go.Proofs.YtbkfhcbecejomaaGreat
end
section
/- Ships and plans, in plain words. -/
namespace Go.Proofs.YtbkfhcbecejomaaGreat
set_option linter.unusedVariables false
/-- a ship: bays, rows, tiers -/
structure HullV where
  f0 : Int
  f1 : Int
  f2 : Int
def hullOk (h : HullV) : Bool := (inI h.f0 1 4 && inI h.f1 1 3) && inI h.f2 1 3
theorem hullOk_iff {h : HullV} : hullOk h = true ↔ (1 ≤ h.f0 ∧ h.f0 ≤ 4) ∧ (1 ≤ h.f1 ∧ h.f1 ≤ 3) ∧ 1 ≤ h.f2 ∧ h.f2 ≤ 3 := by
  simp only [hullOk, Bool.and_eq_true, inI_iff, and_assoc]
def slotsH (h : HullV) : Int := h.f0 * h.f1 * h.f2
theorem slots_le {h : HullV} (hh : hullOk h = true) : 1 ≤ h.f0 * h.f1 ∧ h.f0 * h.f1 ≤ 12 ∧ 1 ≤ slotsH h ∧ slotsH h ≤ 36 := by
  obtain ⟨⟨a1, a2⟩, ⟨b1, b2⟩, c1, c2⟩ := hullOk_iff.1 hh
  unfold slotsH
  obtain ⟨a, b, c⟩ := h
  dsimp only at *
  obtain rfl | rfl | rfl | rfl : a = 1 ∨ a = 2 ∨ a = 3 ∨ a = 4 := by omega
  all_goals (obtain rfl | rfl | rfl : b = 1 ∨ b = 2 ∨ b = 3 := by omega)
  all_goals omega
/-- the slot below, as the reference reckons it -/
theorem below_eq {k R T : Int} (hT : 0 < T) (hR : 0 < R) : (k / T / R * R + k / T % R) * T + (k % T - 1) = k - 1 := by
  have h1 : k / T / R * R + k / T % R = k / T := by rw [Int.mul_comm]; exact Int.mul_ediv_add_emod (k / T) R
  rw [h1]
  have h2 : k / T * T + k % T = k := by rw [Int.mul_comm]; exact Int.mul_ediv_add_emod k T
  omega
theorem bay_lt {k B R T : Int} (hT : 0 < T) (hR : 0 < R) (h0 : 0 ≤ k) (h : k < B * R * T) : 0 ≤ k / T / R ∧ k / T / R < B ∧ 0 ≤ k / T := by
  have h1 : k / T < B * R := Int.ediv_lt_of_lt_mul hT h
  have h2 : 0 ≤ k / T := Int.ediv_nonneg h0 (by omega)
  exact ⟨Int.ediv_nonneg h2 (by omega), Int.ediv_lt_of_lt_mul hR h1, h2⟩
/-- two slots of one bay and one row lie in one stack -/
theorem stack_iff {x y R : Int} : (x / R = y / R ∧ x % R = y % R) ↔ x = y := by
  constructor
  · rintro ⟨h1, h2⟩
    have e1 := Int.mul_ediv_add_emod x R
    have e2 := Int.mul_ediv_add_emod y R
    rw [h1, h2] at e1
    omega
  · rintro rfl
    exact ⟨rfl, rfl⟩
/-- may this slot hold what the plan says -/
def slotOk (h : HullV) (bs : List BoxV) (plan : List Int) (k : Nat) : Bool :=
  decide (plan.getD k 0 = 0) || ((hasF bs (plan.getD k 0) && !hasI (plan.take k) (plan.getD k 0)) && !(decide (0 < (k : Int) % h.f2) && decide (plan.getD (k - 1) 0 = 0)))
def planOk (h : HullV) (bs : List BoxV) (plan : List Int) : Bool :=
  ((hullOk h && boxesOk bs) && decide ((plan.length : Int) = slotsH h)) && (List.range plan.length).all (slotOk h bs plan)
theorem planOk_bad {h : HullV} {bs : List BoxV} {plan : List Int} {k : Nat} (hk : k < plan.length) (hb : slotOk h bs plan k = false) : planOk h bs plan = false := by
  have : (List.range plan.length).all (slotOk h bs plan) = false := by
    rw [List.all_eq_false]
    exact ⟨k, List.mem_range.2 hk, by simp [hb]⟩
  simp [planOk, this]
theorem planOk_good {h : HullV} {bs : List BoxV} {plan : List Int} (h1 : hullOk h = true) (h2 : boxesOk bs = true) (h3 : (plan.length : Int) = slotsH h) (h4 : ∀ k, k < plan.length → slotOk h bs plan k = true) : planOk h bs plan = true := by
  have : (List.range plan.length).all (slotOk h bs plan) = true := by
    rw [List.all_eq_true]
    intro k hk
    exact h4 k (List.mem_range.1 hk)
  simp [planOk, h1, h2, h3, this]
theorem planOk_hull {h : HullV} {bs : List BoxV} {plan : List Int} (hh : hullOk h = false) : planOk h bs plan = false := by simp [planOk, hh]
theorem planOk_boxes {h : HullV} {bs : List BoxV} {plan : List Int} (hh : boxesOk bs = false) : planOk h bs plan = false := by simp [planOk, hh]
theorem planOk_len {h : HullV} {bs : List BoxV} {plan : List Int} (hh : (plan.length : Int) ≠ slotsH h) : planOk h bs plan = false := by simp [planOk, hh]
theorem planOk_parts {h : HullV} {bs : List BoxV} {plan : List Int} (hp : planOk h bs plan = true) : hullOk h = true ∧ boxesOk bs = true ∧ (plan.length : Int) = slotsH h ∧ ∀ k, k < plan.length → slotOk h bs plan k = true := by
  simp only [planOk, Bool.and_eq_true, decide_eq_true_eq, List.all_eq_true, List.mem_range] at hp
  exact ⟨hp.1.1.1, hp.1.1.2, hp.1.2, hp.2⟩
/-- every box of a valid plan is known -/
theorem planOk_has {h : HullV} {bs : List BoxV} {plan : List Int} (hp : planOk h bs plan = true) {k : Nat} (hk : k < plan.length) (h0 : plan.getD k 0 ≠ 0) : hasF bs (plan.getD k 0) = true := by
  have := (planOk_parts hp).2.2.2 k hk
  simp only [slotOk, Bool.or_eq_true, Bool.and_eq_true, decide_eq_true_eq] at this
  rcases this with h1 | h1
  · exact absurd h1 h0
  · exact h1.1.1
/-- how far boxes of two classes in 0..3 have to be apart -/
def needC (a b : Int) : Int :=
  if a = 0 ∨ b = 0 then 0 else if a = b then (if a = 3 then 1 else 0) else if (a = 1 ∧ b = 2) ∨ (a = 2 ∧ b = 1) then 1 else if (a = 1 ∧ b = 3) ∨ (a = 3 ∧ b = 1) then 2 else 3
/-- how far two slots are apart -/
def apartH (h : HullV) (a b : Int) : Int :=
  if a / h.f2 = b / h.f2 then 0 else if a / h.f2 / h.f1 = b / h.f2 / h.f1 then 1 else if a / h.f2 / h.f1 - b / h.f2 / h.f1 = 1 ∨ a / h.f2 / h.f1 - b / h.f2 / h.f1 = -1 then 2 else 3
theorem apartH_nonneg (h : HullV) (a b : Int) : 0 ≤ apartH h a b := by
  unfold apartH
  repeat (first | split | omega)
/-- the class of the box with an id -/
def clsB (bs : List BoxV) (id : Int) : Int := match bs.find? (isF id) with | some b => b.f2 | none => 0
/-- the class in a slot, 0 where it is empty -/
def clsP (bs : List BoxV) (plan : List Int) (k : Nat) : Int := if plan.getD k 0 = 0 then 0 else clsB bs (plan.getD k 0)
def nearB (h : HullV) (bs : List BoxV) (plan : List Int) (a b : Nat) : Bool := decide (apartH h a b < needC (clsP bs plan a) (clsP bs plan b))
theorem nearB_empty {h : HullV} {bs : List BoxV} {plan : List Int} {a b : Nat} (h0 : plan.getD a 0 = 0 ∨ plan.getD b 0 = 0) : nearB h bs plan a b = false := by
  have hn : needC (clsP bs plan a) (clsP bs plan b) = 0 := by
    have : clsP bs plan a = 0 ∨ clsP bs plan b = 0 := by
      unfold clsP
      rcases h0 with h0 | h0
      · exact .inl (if_pos h0)
      · exact .inr (if_pos h0)
    unfold needC
    rw [if_pos this]
  have := apartH_nonneg h a b
  rw [nearB, hn, decide_eq_false_iff_not]
  omega
/-- how many of the slots behind a, ahead of b, are too near to a -/
def nearRow (h : HullV) (bs : List BoxV) (plan : List Int) (a : Nat) : Nat → Nat
  | 0 => 0
  | b + 1 => nearRow h bs plan a b + (if a < b ∧ nearB h bs plan a b = true then 1 else 0)
theorem nearRow_low (h : HullV) (bs : List BoxV) (plan : List Int) (a : Nat) : ∀ b, b ≤ a + 1 → nearRow h bs plan a b = 0
  | 0, _ => rfl
  | b + 1, hb => by rw [nearRow, nearRow_low h bs plan a b (by omega), if_neg (by omega)]
theorem nearRow_le (h : HullV) (bs : List BoxV) (plan : List Int) (a : Nat) : ∀ b, nearRow h bs plan a b ≤ b
  | 0 => Nat.le_refl _
  | b + 1 => by
    have := nearRow_le h bs plan a b
    rw [nearRow]
    split <;> omega
theorem nearRow_empty {h : HullV} {bs : List BoxV} {plan : List Int} {a : Nat} (h0 : plan.getD a 0 = 0) : ∀ b, nearRow h bs plan a b = 0
  | 0 => rfl
  | b + 1 => by rw [nearRow, nearRow_empty h0 b, nearB_empty (.inl h0)]; simp
/-- how many pairs are too near whose lesser slot is ahead of k -/
def nearUp (h : HullV) (bs : List BoxV) (plan : List Int) : Nat → Nat
  | 0 => 0
  | a + 1 => nearUp h bs plan a + nearRow h bs plan a plan.length
theorem nearUp_le (h : HullV) (bs : List BoxV) (plan : List Int) : ∀ k, nearUp h bs plan k ≤ k * plan.length
  | 0 => by simp [nearUp]
  | k + 1 => by
    have h1 := nearUp_le h bs plan k
    have h2 := nearRow_le h bs plan k plan.length
    rw [nearUp, Nat.add_mul]
    omega
def nearN (h : HullV) (bs : List BoxV) (plan : List Int) : Nat := if planOk h bs plan then nearUp h bs plan plan.length else 0
/-- the slots that are full, ahead of k -/
def fullTo (plan : List Int) : Nat → List Int
  | 0 => []
  | k + 1 => if plan.getD k 0 = 0 then fullTo plan k else fullTo plan k ++ [(k : Int)]
theorem fullTo_len (plan : List Int) : ∀ k, (fullTo plan k).length ≤ k
  | 0 => Nat.le_refl _
  | k + 1 => by
    have := fullTo_len plan k
    rw [fullTo]
    split
    · omega
    · rw [List.length_append]; simp; omega
theorem fullTo_mem (plan : List Int) : ∀ k x, x ∈ fullTo plan k → ∃ j : Nat, x = (j : Int) ∧ j < k ∧ plan.getD j 0 ≠ 0
  | 0, x, h => by simp [fullTo] at h
  | k + 1, x, h => by
    rw [fullTo] at h
    split at h
    · obtain ⟨j, e, hj, h0⟩ := fullTo_mem plan k x h
      exact ⟨j, e, by omega, h0⟩
    · rename_i hne
      rw [List.mem_append, List.mem_singleton] at h
      rcases h with h | rfl
      · obtain ⟨j, e, hj, h0⟩ := fullTo_mem plan k x h
        exact ⟨j, e, by omega, h0⟩
      · exact ⟨k, rfl, by omega, hne⟩
/-- the pairs that are too near, summed over a list of slots -/
def nearL (h : HullV) (bs : List BoxV) (plan : List Int) : List Int → Nat
  | [] => 0
  | a :: r => nearRow h bs plan a.toNat plan.length + nearL h bs plan r
theorem nearL_app (h : HullV) (bs : List BoxV) (plan : List Int) (x y : List Int) : nearL h bs plan (x ++ y) = nearL h bs plan x + nearL h bs plan y := by
  induction x with
  | nil => simp [nearL]
  | cons a r ih => rw [List.cons_append, nearL, nearL, ih]; omega
theorem nearL_full (h : HullV) (bs : List BoxV) (plan : List Int) : ∀ k, nearL h bs plan (fullTo plan k) = nearUp h bs plan k
  | 0 => rfl
  | k + 1 => by
    rw [fullTo, nearUp]
    split
    · rename_i h0
      rw [nearL_full h bs plan k, nearRow_empty h0, Nat.add_zero]
    · rw [nearL_app, nearL_full h bs plan k]
      simp [nearL]
end Go.Proofs.YtbkfhcbecejomaaGreat
end
section
/- Lists of Hold: their cells; copying, comparing, measuring. -/
namespace Go.Proofs.YtbkfhcbecejomaaGreat
open Go Go.ChangeShapes Go.WideShapes Go.ChangeAt Go.RowKit
structure HoldV where
  f0 : Int
  f1 : Int
def holdC (x : HoldV) : List Value := [.int .i64 x.f0, .int .i64 x.f1]
theorem holdC_len (x : HoldV) : (holdC x).length = 2 := rfl
/-- the cells of a list -/
def holds (zs : List HoldV) : List Value := cellsOf holdC zs
theorem holds_len (zs : List HoldV) : (holds zs).length = zs.length * 2 := cellsOf_len _ _ holdC_len zs
theorem RdV.holdAt {w : World} {A : Option Addr} {zs : List HoldV} (h : RdV w A (holds zs)) {j : Nat} (hj : j < zs.length) : ∃ b o, A = some ⟨b, o, none⟩ ∧ b < w.heap.size ∧ w.cell? ⟨b, o + j * 2, none⟩ = some (.int .i64 (zs[j]).f0) ∧ w.cell? ⟨b, o + j * 2 + 1, none⟩ = some (.int .i64 (zs[j]).f1) := by
  obtain ⟨b, o, hA, hl, hc⟩ := RdV.fieldAt holdC_len h hj (by decide)
  exact ⟨b, o, hA, hl, hc 0 _ rfl, hc 1 _ rfl⟩
theorem hold_info : (Tryz.prog.info? 88).map (fun i => (i.zero, i.size, i.bytes)) = some (some (.agg #[.int .i64 0, .int .i64 0]), 2, 16) := by kernel_rfl
theorem make_hold (n : Nat) (hn : n ≤ 1048576) (w : World) : (Instr.makeSlice 30 (.int .i64 (n : Int)) (.int .i64 (n : Int))).run Tryz.prog w = .ok (.slice (some ⟨w.heap.size, 0, none⟩) n n) (w.alloc (.cells ((List.replicate n [.int .i64 0, .int .i64 0]).flatten).toArray 88)) :=
  run_make_rowk (P := Tryz.prog) 30 88 (.agg #[.int .i64 0, .int .i64 0]) [.int .i64 0, .int .i64 0] 16 2 Tryz.underlying30 hold_info rfl rfl (by decide) n (by omega) (by omega) w
end Go.Proofs.YtbkfhcbecejomaaGreat
end
section
/- Lists of Hold and what is kept: plain words for memory. -/
namespace Go.Proofs.YtbkfhcbecejomaaGreat
open Go Go.ChangeShapes Go.WideShapes Go.ChangeAt Go.RowKit
theorem own_out {w w' : World} {lo hi base : Nat} {e : TypeId} {size n : Nat} {v : Value} {xs : List Value} (h : w.ownsRow base e size v n xs) (ho : Out lo hi w w') (hd : ∀ g, v.ownBlock = some g → g < lo ∨ hi ≤ g) : w'.ownsRow base e size v n xs := by
  refine ⟨h.1, ?_⟩
  rcases h.2 with hn | ⟨g, cap, cur, rfl, hb, hg, rest⟩
  · exact .inl hn
  · exact .inr ⟨g, cap, cur, rfl, hb, (ho.block g (Array.getElem?_eq_some_iff.1 hg).1 (hd g rfl)).trans hg, rest⟩
theorem Blk.offO {w w' : World} {g lo hi : Nat} {t : TypeId} {cs : List Value} (h : Blk w g t cs) (ho : Out lo hi w w') (hd : g < lo ∨ hi ≤ g) : Blk w' g t cs := (ho.block g h.lt hd).trans h
theorem Blk.offG {w w' : World} {g : Nat} {row : Option Nat} {t : TypeId} {cs : List Value} (h : Blk w g t cs) (hg : w.grownBy w' row) (hd : ∀ b, row = some b → b ≠ g) : Blk w' g t cs := (hg.block g h.lt (fun e => hd g e.symm rfl)).trans h
theorem Below.drewN_ (w : World) (n : Nat) : Below w.heap.size w (w.drewN n) := ⟨rfl, rfl, rfl, Nat.le_refl _, fun _ _ => rfl⟩
theorem hold_infoD : Info Tryz.prog 88 (.agg #[.int .i64 0, .int .i64 0]) 2 16 := Info.mk' hold_info rfl (by decide) (by decide)
theorem holds_cell (zs : List HoldV) : ∀ u ∈ holds zs, u.oneCell' = true := by
  intro u hu
  simp only [holds, cellsOf, List.mem_flatMap, holdC, List.mem_cons, List.not_mem_nil, or_false] at hu
  obtain ⟨z, _, rfl | rfl⟩ := hu <;> rfl
theorem holds_app (a b : List HoldV) : holds (a ++ b) = holds a ++ holds b := cellsOf_append _ _ _
end Go.Proofs.YtbkfhcbecejomaaGreat
end
section
/- Lists of numbers and truths: comparing, marking, reading the marks. -/
namespace Go.Proofs.YtbkfhcbecejomaaGreat
open Go.ChangeShapes Go.WideShapes Go.ChangeAt Go.RowKit

/-- the marks k, k + 1 and so on; and whether each is a multiple of 3 -/
def marksI (k : Int) (n : Nat) : List Int := (List.range n).map fun (i : Nat) => k + (i : Int)
def marksB (k : Int) (n : Nat) : List Bool := (List.range n).map fun (i : Nat) => (k + (i : Int)) % 3 == 0
theorem marksI_len (k : Int) (n : Nat) : (marksI k n).length = n := by simp [marksI]
theorem marksB_len (k : Int) (n : Nat) : (marksB k n).length = n := by simp [marksB]
theorem marksI_succ (k : Int) (n : Nat) : marksI k (n + 1) = marksI k n ++ [k + (n : Int)] := by simp [marksI, List.range_succ]
theorem marksB_succ (k : Int) (n : Nat) : marksB k (n + 1) = marksB k n ++ [(k + (n : Int)) % 3 == 0] := by simp [marksB, List.range_succ]
theorem marksI_at (k : Int) (n j : Nat) (h : j < (marksI k n).length) : (marksI k n)[j] = k + (j : Int) := by simp [marksI]
theorem marksB_at (k : Int) (n j : Nat) (h : j < (marksB k n).length) : (marksB k n)[j] = ((k + (j : Int)) % 3 == 0) := by simp [marksB]
end Go.Proofs.YtbkfhcbecejomaaGreat
end
section
/- toIntS copies a slice of integers into memory of its own; eqIntS compares two. -/
namespace Go.Proofs.YtbkfhcbecejomaaGreat
open Go.ChangeShapes Go.WideShapes Go.ChangeAt Go.RowKit

theorem int_info : (Tryz.prog.info? 3).map (fun i => (i.zero, i.size, i.bytes)) = some (some (.int .i64 0), 1, 8) := by kernel_rfl

end Go.Proofs.YtbkfhcbecejomaaGreat
end
section
/- Rows of rows: an outer row of slices whose cells are known. -/
namespace Go.Proofs.YtbkfhcbecejomaaGreat
open Go Go.ChangeShapes Go.WideShapes Go.ChangeAt Go.RowKit
theorem RdV.drew {w : World} {A : Option Addr} {cs : List Value} (h : RdV w A cs) : RdV w.drew A cs := h
/-- each cell of the outer row is a slice whose cells are known -/
def RdRR (w : World) (A : Option Addr) (xss : List (List Value)) : Prop :=
  ∃ hs : List Value, hs.length = xss.length ∧ RdV w A hs ∧ ∀ i (h : i < xss.length), ∃ B c, hs[i]? = some (.slice B (xss[i]).length c) ∧ (xss[i]).length ≤ c ∧ c ≤ maxLen ∧ RdV w B xss[i]
theorem RdRR.below {w w' : World} {A : Option Addr} {xss : List (List Value)} (h : RdRR w A xss) (hb : Below w.heap.size w w') : RdRR w' A xss := by
  obtain ⟨hs, h1, h2, h3⟩ := h
  refine ⟨hs, h1, h2.below hb, fun i hi => ?_⟩
  obtain ⟨B, c, e, e1, e2, hr⟩ := h3 i hi
  exact ⟨B, c, e, e1, e2, hr.below hb⟩
theorem RdRR.pos {w : World} {A : Option Addr} {xss : List (List Value)} (h : RdRR w A xss) {k : Nat} (hk : k < xss.length) :
    ∃ b o, A = some ⟨b, o, none⟩ ∧ b < w.heap.size ∧ ∃ B c, w.cell? ⟨b, o + k, none⟩ = some (.slice B (xss[k]).length c) ∧ (xss[k]).length ≤ c ∧ c ≤ maxLen ∧ RdV w B xss[k] := by
  obtain ⟨hs, h1, h2, h3⟩ := h
  obtain ⟨b, o, hA, hl, hc⟩ := h2.pos (k := k) (by omega)
  obtain ⟨B, c, e, e1, e2, hr⟩ := h3 k hk
  refine ⟨b, o, hA, hl, B, c, ?_, e1, e2, hr⟩
  rw [hc k (by omega)]
  rw [List.getElem?_eq_getElem (by omega)] at e
  exact e
theorem RdRR.nil_ {w : World} {A : Option Addr} : RdRR w A [] := ⟨[], rfl, RdV.nil_, fun i h => by simp at h⟩
/-- texts as cells -/
def strs (ss : List ByteArray) : List Value := ss.map .string
theorem strs_len (ss : List ByteArray) : (strs ss).length = ss.length := by simp [strs]
theorem strs_at (ss : List ByteArray) (k : Nat) (h : k < (strs ss).length) : (strs ss)[k] = .string (ss[k]'(by simpa [strs] using h)) := by simp [strs]
/-- lists of texts as cells -/
def strss (ess : List (List ByteArray)) : List (List Value) := ess.map strs
theorem strss_len (ess : List (List ByteArray)) : (strss ess).length = ess.length := by simp [strss]
theorem strss_at (ess : List (List ByteArray)) (k : Nat) (h : k < (strss ess).length) : (strss ess)[k] = strs (ess[k]'(by simpa [strss] using h)) := by simp [strss]
end Go.Proofs.YtbkfhcbecejomaaGreat
end
