/- A message appended to a slice that lies anywhere in a block of its own. -/
import Derived.Test.YtehaacpeamhamaaQueM
import Derived.Test.YtehaacpeamhamaaOwnSrc
namespace Go.Proofs.Ytehaacpeamhamaa
open Go Go.ChangeShapes Go.WideShapes Go.ChangeAt Go.RowKit
theorem run_queM_append (w : World) (lo hi : Nat) (A : Option Addr) (n c : Nat) (zs : List MessageV) (y : MessageV) (s : Nat) (cc : Nat) (ty : TypeId) (hq : QueM w lo hi A n c zs) (hb : RdV w (some ⟨s, 0, none⟩) (messages [y])) (hn : n ≤ 1000000) (hlo : lo ≤ w.heap.size) :
    ∃ A' c' w', (Builtin.append_ #[23, 23] ty #[.slice A n c, .slice (some ⟨s, 0, none⟩) 1 cc]).run Try.prog w = .ok (.slice A' (n + 1) c') w' ∧ QueM w' lo w'.heap.size A' (n + 1) c' (zs ++ [y]) ∧ Out lo hi w w' := by
  have hlen := hq.len
  have hsrc : ∀ j u, (messages [y])[j]? = some u → w.cell? ((⟨s, 0, none⟩ : Addr).add j) = some u := fun j u hj => by
    obtain ⟨hj1, rfl⟩ := List.getElem?_eq_some_iff.1 hj
    rcases hb with h | ⟨b, o, e, hlt, h⟩
    · simp [messages, cellsOf, messageC] at h
    · simp only [Option.some.injEq, Addr.mk.injEq, and_true] at e
      obtain ⟨rfl, rfl⟩ := e
      have he : (⟨s, 0, none⟩ : Addr).add j = ⟨s, 0 + j, none⟩ := by unfold Addr.add; split <;> simp_all
      rw [he]
      exact h j hj1
  have hone : ∀ v ∈ messages [y], v.oneCell' = true := messages_cell [y]
  obtain ⟨h1, h2, h3, ht, ⟨rfl, rfl⟩ | ⟨g, d, rfl, hl, hh, hc, hf⟩⟩ := hq
  · obtain rfl : n = 0 := by omega
    obtain rfl : zs = [] := List.eq_nil_of_length_eq_zero h1
    obtain ⟨v', w', hrun, hown, hgr, hbk⟩ := run_append_src (P := Try.prog) w lo 23 ty 35 _ _ _ Try.underlying23 message_infoD (.slice none 0 0) 0 [] (World.ownsRow_nil _ _ _ _) (some ⟨s, 0, none⟩) 1 cc (messages [y]) rfl hb hone (by omega) hlo
    obtain ⟨A', c', rfl, _, _⟩ := own_slice hown
    refine ⟨A', c', w', hrun, ?_, ?_⟩
    · simpa using OwnI.queM (zs := [y]) (OwnI.of (by simpa using hown))
    · exact out_of_grown hgr (fun g e => by simp [Value.ownBlock] at e)
  · obtain ⟨i, hi1, hz, i3, i4, i5, i6, i7⟩ := message_infoD
    have hml := messages_len zs
    by_cases hroom : n + 1 ≤ c
    · have hrun := run_append_room_cells (P := Try.prog) w 23 ty 35 i Try.underlying23 hi1 g d n c ⟨s, 0, none⟩ 1 cc (messages [y]) (by rw [i3]; rfl) hsrc hone hroom
        (fun j hj => by
          have hj2 : j < 2 := hj
          rw [i3, Nat.add_assoc]
          exact (hf (n * 2 + j) (by omega) (by omega)).1)
        (fun j hj => by
          have hj2 : j < 2 := hj
          rw [i3, Nat.add_assoc]
          exact (hf (n * 2 + j) (by omega) (by omega)).2)
      rw [i3] at hrun
      have hin := World.cell?_setCells_in g (messages [y]) (d + n * 2) w (fun j hj => by
        have hj2 : j < 2 := hj
        rw [Nat.add_assoc]
        exact (hf (n * 2 + j) (by omega) (by omega)).1)
      have hset : w.setCells g (d + n * 2) (messages [y]) = (w.setCell ⟨g, d + n * 2, none⟩ (.int .i64 y.f0)).setCell ⟨g, d + n * 2 + 1, none⟩ (.int .i64 y.f1) := rfl
      have hfro : ∀ a, (w.setCells g (d + n * 2) (messages [y])).frozen? a = w.frozen? a := fun a => World.frozen?_setCells g (messages [y]) (d + n * 2) w a
      have hout : ∀ i, (i < d + n * 2 ∨ d + n * 2 + 2 ≤ i) → (w.setCells g (d + n * 2) (messages [y])).cell? ⟨g, i, none⟩ = w.cell? ⟨g, i, none⟩ := fun i hi => by
        rw [hset, World.cell?_setCell_other _ _ _ _ (fun e => by injection e with _ e2; omega), World.cell?_setCell_other _ _ _ _ (fun e => by injection e with _ e2; omega)]
      have hO : Out lo hi w (w.setCells g (d + n * 2) (messages [y])) := by
        rw [hset]
        exact out_set (out_set (Out.refl _ _ _) _ _ _ hl hh) _ _ _ hl hh
      refine ⟨_, _, _, hrun, ⟨by simp; omega, by omega, h3, Nat.le_refl _, .inr ⟨g, d, rfl, hl, Nat.lt_of_lt_of_le hh (Nat.le_trans ht hO.size), fun j hj => ?_, fun j hj hj2 => ?_⟩⟩, hO⟩
      · have hjm : j < (messages zs).length + 2 := by
          rw [messages_app, List.length_append] at hj
          exact hj
        by_cases hjl : j < n * 2
        · rw [hout _ (by omega), hc j (by omega)]
          simp only [messages_app]
          rw [List.getElem_append_left (by omega)]
        · have hk := hin (j - n * 2) (by show j - n * 2 < 2; omega)
          rw [show d + n * 2 + (j - n * 2) = d + j from by omega] at hk
          rw [hk]
          simp only [messages_app]
          rw [List.getElem_append_right (by omega)]
          congr 1
          congr 1
          omega
      · rw [hout _ (by omega), hfro]
        exact hf j (by omega) hj2
    · obtain ⟨v', w', hrun, hown, hgr⟩ := run_append_arg_grows (P := Try.prog) w 23 ty 35 i _ 2 16 Try.underlying23 hi1 hz i3 i4 i5 i6 ⟨g, d, none⟩ n c (messages zs) (by omega)
        (fun j v hj => by
          obtain ⟨hj1, rfl⟩ := List.getElem?_eq_some_iff.1 hj
          have he : (⟨g, d, none⟩ : Addr).add j = ⟨g, d + j, none⟩ := by unfold Addr.add; split <;> simp_all
          rw [he]
          exact hc j hj1) ⟨s, 0, none⟩ 1 cc (messages [y]) rfl hsrc (by omega) (by unfold maxLen; omega) (by omega)
      obtain ⟨A', c', rfl, _, _⟩ := own_slice hown
      refine ⟨A', c', w', hrun, ?_, ?_⟩
      · have := OwnI.queM (zs := zs ++ [y]) (OwnI.of (by rw [messages_app]; exact own_base hown hlo))
        exact this
      · exact out_of_grown hgr (fun g e => by simp at e)
/-- append(list, x), where x was just laid into a block of its own -/
theorem queM_append {ops : Array Oper} {rest : List Oper} {o : Oper} {a : Act} {Q : Exit → Act → World → Prop} (hgd : o.guard = none) (s x : Operand)
    (ho : o.op = .call { callee := .builtin .append, args := #[s, x], argTypes := #[23, 23] })
    (w : World) (lo hi : Nat) (A : Option Addr) (n c : Nat) (zs : List MessageV) (y : MessageV) (e : TypeId) (hs : a.eval s = .slice A n c) (hq : QueM w lo hi A n c zs)
    (hx : a.eval x = .slice (some ⟨w.heap.size, 0, none⟩) 1 1) (hn : n ≤ 1000000) (hlo : lo ≤ w.heap.size)
    (h : ∀ A' c' w', QueM w' lo w'.heap.size A' (n + 1) c' (zs ++ [y]) → Out lo hi w w' → wpList Try.prog ops Q rest (a.put o.dst (.slice A' (n + 1) c')) w') :
    wpList Try.prog ops Q (o :: rest) a (w.alloc (.cells #[.int .i64 y.f0, .int .i64 y.f1] e)) := by
  have hal : Below w.heap.size w (w.alloc (.cells #[.int .i64 y.f0, .int .i64 y.f1] e)) := (Below.refl _ _).alloc (Nat.le_refl _) _
  have hb := (Blk.new w e [.int .i64 y.f0, .int .i64 y.f1])
  obtain ⟨A', c', w', hrun, hq', hO⟩ := run_queM_append _ lo hi A n c zs y w.heap.size 1 o.type (hq.later hal) (.inr ⟨w.heap.size, 0, rfl, by simp, fun j hj => by rw [Nat.zero_add]; exact hb.cellAt j hj⟩) hn (Nat.le_trans hlo hal.size)
  refine wpList_plain hgd fun K hK => ?_
  unfold Oper.wp execOp
  simp only [ho, resolve, invoke, builtin, Sem.run_bind, Sem.run_pure, Result.andThen_ok, List.map_toArray, List.map_cons, List.map_nil, hs, hx, hrun]
  exact hK _ _ (h A' c' _ hq' (Out.trans (Below.out hal lo hi) hO))
end Go.Proofs.Ytehaacpeamhamaa
