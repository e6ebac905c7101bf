/- A slice that is a queue: appended to at its end, cut at its head. -/
import Derived.Test.YtadkplonknlfbaaOwn
import Derived.ArgAppend
import Derived.Laws.OwnMore
namespace Go.Proofs.Ytadkplonknlfbaa
open Go Go.ChangeShapes Go.WideShapes Go.ChangeAt Go.RowKit
theorem grown_wide {a c : World} (h : a.grownBy c none) (row : Option Nat) : a.grownBy c row := ⟨h.os, h.tape, h.output, h.size, fun i hi _ => h.block i hi (by simp)⟩
/-- the cells of the queue, and that there is room up to the capacity -/
def Que (w : World) (g d cap : Nat) (xs : List Value) : Prop :=
  g < w.heap.size ∧ xs.length ≤ cap ∧ cap ≤ maxLen ∧ (∀ j (h : j < xs.length), w.cell? ⟨g, d + j, none⟩ = some xs[j]) ∧ (∀ j, xs.length ≤ j → j < cap → (w.cell? ⟨g, d + j, none⟩).isSome = true ∧ w.frozen? ⟨g, d + j, none⟩ = false)
theorem Que.kept {w w' : World} {g d cap : Nat} {xs : List Value} {row : Option Nat} (h : Que w g d cap xs) (hg : w.grownBy w' row) (hne : some g ≠ row) : Que w' g d cap xs := by
  obtain ⟨h1, h2, h3, h4, h5⟩ := h
  have hb := hg.block g h1 hne
  have hc : ∀ i, w'.cell? ⟨g, i, none⟩ = w.cell? ⟨g, i, none⟩ := fun i => World.cell?_of_block hb
  have hf : ∀ i, w'.frozen? ⟨g, i, none⟩ = w.frozen? ⟨g, i, none⟩ := fun i => World.frozen?_of_block hb
  exact ⟨Nat.lt_of_lt_of_le h1 hg.size, h2, h3, fun j hj => (hc _).trans (h4 j hj), fun j hj hj2 => by rw [hc, hf]; exact h5 j hj hj2⟩
theorem Que.tail {w : World} {g d cap : Nat} {x : Value} {xs : List Value} (h : Que w g d cap (x :: xs)) : Que w g (d + 1) (cap - 1) xs := by
  obtain ⟨h1, h2, h3, h4, h5⟩ := h
  simp only [List.length_cons] at h2 h4 h5
  refine ⟨h1, by omega, by omega, fun j hj => ?_, fun j hj hj2 => ?_⟩
  · have := h4 (j + 1) (by omega)
    rw [Nat.add_assoc, Nat.add_comm 1 j, this]
    rfl
  · have := h5 (j + 1) (by omega) (by omega)
    rw [Nat.add_assoc, Nat.add_comm 1 j]
    exact this
theorem own_que {w : World} {base : Nat} {e : TypeId} {g n cap : Nat} {xs : List Value} (h : w.ownsRow base e 1 (.slice (some ⟨g, 0, none⟩) n cap) n xs) : Que w g 0 cap xs := by
  have hl := h.1
  rw [Nat.mul_one] at hl
  have hf := h.frozenAt
  have hca := fun j hj => h.cellAt j hj
  rcases h.2 with ⟨h', _⟩ | ⟨g', cap', cur, h', hb, hg, hnc, hcm, hcs, htake⟩
  · simp at h'
  · simp only [Value.slice.injEq, Option.some.injEq, Addr.mk.injEq, and_true, true_and] at h'
    obtain ⟨rfl, rfl⟩ := h'
    refine ⟨(Array.getElem?_eq_some_iff.1 hg).1, by omega, hcm, fun j hj => ?_, fun j _ hj => ⟨?_, ?_⟩⟩
    · rw [Nat.zero_add, hca j (by omega)]
      exact List.getElem?_eq_getElem hj
    · rw [Nat.zero_add, cell_of_row w g j cur e (0, 0) hg, Array.getElem?_eq_getElem (by omega)]
      rfl
    · exact hf _
theorem que_of_blk {w : World} {g : Nat} {e : TypeId} {cs : List Value} (h : Blk w g e cs) (hm : cs.length ≤ maxLen) : Que w g 0 cs.length cs := own_que (own_of_blk (size := 1) h (Nat.zero_le _) (by simp) hm)
/-- append(queue, x) -/
theorem que_append {P : Program} {ops : Array Oper} {rest : List Oper} {o : Oper} {a : Act} {Q : Exit → Act → World → Prop} (hgd : o.guard = none) (s x : Operand) (t : TypeId)
    (ho : o.op = .call { callee := .builtin .append, args := #[s, x], argTypes := #[t, t] })
    (e : TypeId) (z : Value) (bytes : Nat) (ht : P.underlying t = some (.slice e)) (hi : Info P e z 1 bytes)
    (w : World) (g d cap : Nat) (xs : List Value) (u : Value) (hs : a.eval s = .slice (some ⟨g, d, none⟩) xs.length cap) (hq : Que w g d cap xs)
    (hx : a.eval x = .slice (some ⟨w.heap.size, 0, none⟩) 1 1) (h1 : u.oneCell' = true) (hn : xs.length ≤ 1000000)
    (h : ∀ g' d' cap' w', Que w' g' d' cap' (xs ++ [u]) → w.grownBy w' (some g) → (g' = g ∨ w.heap.size ≤ g') → wpList P ops Q rest (a.put o.dst (.slice (some ⟨g', d', none⟩) (xs.length + 1) cap')) w') :
    wpList P ops Q (o :: rest) a (w.alloc (.cells #[u] e)) := by
  obtain ⟨i, hi1, hz, h3, h4, h5, h6, h7⟩ := hi
  have hlt := hq.1
  have hal : w.grownBy (w.alloc (.cells #[u] e)) none := World.grownBy_alloc w _ none
  have hq1 : Que (w.alloc (.cells #[u] e)) g d cap xs := hq.kept hal (by simp)
  have hcells : ∀ j v, [u][j]? = some v → (w.alloc (.cells #[u] e)).cell? ((⟨w.heap.size, 0, none⟩ : Addr).add j) = some v := cell_one_new w u e
  have hone : ∀ v ∈ [u], v.oneCell' = true := fun v hv => by rw [List.mem_singleton.1 hv]; exact h1
  generalize hw1 : w.alloc (.cells #[u] e) = w1 at *
  have hsz : w1.heap.size = w.heap.size + 1 := by rw [← hw1]; simp
  refine wpList_plain hgd fun K hK => ?_
  obtain ⟨q1, q2, q3, q4, q5⟩ := hq1
  by_cases hroom : xs.length + 1 ≤ cap
  · have hsp := q5 xs.length (Nat.le_refl _) (by omega)
    have hrun := run_append_room_cells (P := P) w1 t o.type e i ht hi1 g d xs.length cap ⟨w.heap.size, 0, none⟩ 1 1 [u] (by rw [h3]; rfl) hcells hone hroom
      (fun j hj => by
        obtain rfl : j = 0 := by simp at hj; exact hj
        rw [h3, Nat.mul_one]
        exact hsp.1)
      (fun j hj => by
        obtain rfl : j = 0 := by simp at hj; exact hj
        rw [h3, Nat.mul_one]
        exact hsp.2)
    rw [h3, Nat.mul_one] at hrun
    have hset : w1.setCells g (d + xs.length) [u] = w1.setCell ⟨g, d + xs.length, none⟩ u := rfl
    have hin : (w1.setCell ⟨g, d + xs.length, none⟩ u).cell? ⟨g, d + xs.length, none⟩ = some u := by
      have := World.cell?_setCells_in g [u] (d + xs.length) w1 (fun j hj => by
        obtain rfl : j = 0 := by simp at hj; exact hj
        exact hsp.1) 0 (by simp)
      simpa [hset] using this
    have hout : ∀ i, i ≠ d + xs.length → (w1.setCell ⟨g, d + xs.length, none⟩ u).cell? ⟨g, i, none⟩ = w1.cell? ⟨g, i, none⟩ := fun i hi => World.cell?_setCell_other _ _ _ _ (fun e => hi (by injection e with _ e2; exact e2.symm))
    have hgrow : w1.grownBy (w1.setCell ⟨g, d + xs.length, none⟩ u) (some g) :=
      ⟨rfl, rfl, rfl, by simp, fun k _ hk => heap_setCell_other _ _ _ _ (fun e => hk (by rw [e]))⟩
    have hfro : ∀ a, (w1.setCell ⟨g, d + xs.length, none⟩ u).frozen? a = w1.frozen? a := fun a => World.frozen?_setCells g [u] (d + xs.length) w1 a
    unfold Oper.wp execOp
    simp only [ho, resolve, invoke, builtin, Sem.run_bind, Sem.run_pure, Result.andThen_ok, List.map_toArray, List.map_cons, List.map_nil, hs, hx, hrun]
    rw [hset]
    refine hK _ _ (h g d cap _ ⟨by simpa using q1, by simp; omega, q3, fun j hj => ?_, fun j hj hj2 => ?_⟩ ?_ (.inl rfl))
    · simp only [List.length_append, List.length_cons, List.length_nil] at hj
      by_cases hjl : j < xs.length
      · rw [hout _ (by omega), q4 j hjl, List.getElem_append_left hjl]
      · obtain rfl : j = xs.length := by omega
        rw [hin, List.getElem_append_right (Nat.le_refl _)]
        simp
    · simp only [List.length_append, List.length_cons, List.length_nil] at hj
      rw [hout _ (by omega), hfro]
      exact q5 j (by omega) hj2
    · exact World.grownBy.trans (grown_wide hal _) hgrow
  · have hbytes : (xs.length + 1) * bytes ≤ 140737488355328 := Nat.le_trans (Nat.mul_le_mul (show xs.length + 1 ≤ 1000001 by omega) h7) (by decide)
    obtain ⟨v', w', hrun, hown, hgr⟩ := run_append_arg_grows (P := P) w1 t o.type e i z 1 bytes ht hi1 hz h3 h4 h5 h6 ⟨g, d, none⟩ xs.length cap xs (by simp)
      (fun j v hj => by
        obtain ⟨hj1, rfl⟩ := List.getElem?_eq_some_iff.1 hj
        have he : (⟨g, d, none⟩ : Addr).add j = ⟨g, d + j, none⟩ := by unfold Addr.add; split <;> simp_all
        rw [he]
        exact q4 j hj1) ⟨w.heap.size, 0, none⟩ 1 1 [u] rfl hcells (by omega) (by unfold maxLen; omega) hbytes
    rcases own_form hown with ⟨_, h0, _⟩ | ⟨g', c', rfl, hg1, hg2, _⟩
    · omega
    unfold Oper.wp execOp
    simp only [ho, resolve, invoke, builtin, Sem.run_bind, Sem.run_pure, Result.andThen_ok, List.map_toArray, List.map_cons, List.map_nil, hs, hx, hrun]
    refine hK _ _ (h g' 0 c' _ (own_que hown) ?_ (.inr (by omega)))
    exact grown_wide (World.grownBy.trans hal hgr) _
end Go.Proofs.Ytadkplonknlfbaa
