/- Boxes cloned, boxes by ascending ids as the reference lists them. -/
import Derived.Test.YtbhnlooellgfaaaBxV
import Derived.Test.YtbhnlooellgfaaaOwnSrc
import Derived.Lib.SliceRun
namespace Go.Proofs.Ytbhnlooellgfaaa
open Go Go.ChangeShapes Go.WideShapes Go.ChangeAt Go.RowKit
set_option linter.unusedVariables false
theorem box_infoD : Info Try.prog 40 (.agg #[.int .i64 0, .int .i64 0, .int .i64 0, .int .i64 0, .bool false]) 5 40 := Info.mk' box_info rfl (by decide) (by decide)
theorem boxs_cell (zs : List BoxV) : ∀ u ∈ boxs zs, u.oneCell' = true := by
  intro u hu
  simp only [boxs, cellsOf, List.mem_flatMap] at hu
  obtain ⟨z, _, hz⟩ := hu
  simp only [boxC, List.mem_cons, List.not_mem_nil, or_false] at hz
  rcases hz with rfl | rfl | rfl | rfl | rfl <;> rfl
theorem boxs_rd_none {w : World} {zs : List BoxV} (h : RdV w none (boxs zs)) : zs = [] := by
  rcases h with h | ⟨b, off, e, _⟩
  · have := boxs_len zs
    rw [h] at this
    exact List.eq_nil_of_length_eq_zero (by simp at this; omega)
  · cases e
/-- a slice of boxes of the call's own -/
def BoxOut (w : World) (base : Nat) (L : List BoxV) : Ending → World → Prop :=
  RVal fun u w' => ∃ A n c, u = .slice A n c ∧ L.length = n ∧ w'.ownsRow base 40 5 (.slice A n c) n (boxs L) ∧ Below w.heap.size w w'
theorem BoxOut.mk {w w' : World} {base : Nat} {L : List BoxV} {A : Option Addr} {n c : Nat} (hl : L.length = n) (ho : w'.ownsRow base 40 5 (.slice A n c) n (boxs L)) (hb : Below w.heap.size w w') : BoxOut w base L (.returned (.slice A n c)) w' := RVal.mk ⟨A, n, c, rfl, hl, ho, hb⟩
theorem eqn_box (w : World) (a : Option Addr) (n c n' c' : Nat) : (binOp .eql 24 (.slice a n c) (.slice none n' c')).run Try.prog w = .ok (.bool a.isNone) w := Lib.run_eql_slice_nil w _ _ a n c n' c' Try.underlying24
set_option maxHeartbeats 1000000 in
theorem cloneBox_any (A : Option Addr) (n c : Nat) (zs : List BoxV) (w : World) (hn : zs.length = n) (hr : RdV w A (boxs zs)) (hm : n ≤ 1048576) :
    Calls Try.prog 51 #[.slice A n c] w (BoxOut w w.heap.size zs) := by
  have HN := Lib.hid hn
  have qe := eqn_box
  rcases A with _ | ad
  · have h0 := boxs_rd_none hr
    subst h0
    have hn0 : n = 0 := by simpa using hn.symm
    subst hn0
    clear hn
    go_enter Try.func51, Try.ntmps51
    go_wp2_with fail
    go_ret
    exact BoxOut.mk rfl (World.ownsRow_nil _ _ _ _) (Below.refl _ _)
  · have hml : (boxs zs).length = n * 5 := by rw [boxs_len, HN.out]
    have HML := Lib.hid hml
    clear hn hml
    have hown : (w.alloc (.cells #[] 40)).ownsRow w.heap.size 40 5 (.slice (some ⟨w.heap.size, 0, none⟩) 0 0) 0 [] := own_of_blk (cs := []) (Blk.new _ _ _) (Nat.le_refl _) rfl (by decide)
    have hal : Below w.heap.size w (w.alloc (.cells #[] 40)) := (Below.refl _ _).alloc (Nat.le_refl _) _
    go_enter Try.func51, Try.ntmps51
    go_wp2_with (at_builtin; refine append_src rfl (.tmp 5) (.tmp 6) 24 rfl 40 _ _ _ Try.underlying24 box_infoD w.heap.size _ _ 0 [] rfl hown (some ad) n c (boxs zs) rfl HML.out (hr.below hal) (boxs_cell _) (by omega) (by simp) ?_; intro v' w6 hown6 hg6 hblk6)
    go_ret
    rw [Nat.zero_add, List.nil_append] at hown6
    obtain ⟨A6, c6, rfl, _, _⟩ := own_slice hown6
    exact BoxOut.mk HN.out hown6 (below_append hal hg6 hown rfl)
set_option maxHeartbeats 2000000 in
theorem specSortBoxes (A : Option Addr) (n c : Nat) (zs : List BoxV) (w : World) (hn : zs.length = n) (hr : RdV w A (boxs zs)) (hm : n ≤ 1099511627776) :
    Calls Try.prog 10 #[.slice A n c] w (BoxOut w w.heap.size (sortB zs)) := by
  have HN := Lib.hid hn
  have hal : Below w.heap.size w (w.alloc (.cells #[] 40)) := (Below.refl _ _).alloc (Nat.le_refl _) _
  have hown : (w.alloc (.cells #[] 40)).ownsRow w.heap.size 40 5 (.slice (some ⟨w.heap.size, 0, none⟩) 0 0) 0 [] := own_of_blk (cs := []) (Blk.new _ _ _) (Nat.le_refl _) rfl (by decide)
  have hV := specBoxesValid A n c zs _ hn (hr.below hal) hm
  clear hn
  cases hok : boxesOk zs with
  | false =>
    have HS : Hid (sortB zs = []) := Lib.hid (by unfold sortB; rw [hok]; rfl)
    rw [hok] at hV
    clear hok
    go_enter Try.func10, Try.ntmps10
    go_wp2_with (go_at_call 23; refine hV.mono ?_; rintro e w2 ⟨rfl, hb2⟩)
    go_ret
    exact BoxOut.mk (by rw [HS.out]; rfl) (by rw [HS.out]; exact own_later hown hb2) (below_trans hal hb2)
  | true =>
    have HS : Hid (sortB zs = collB zs) := Lib.hid (by unfold sortB; rw [hok]; rfl)
    rw [hok] at hV
    clear hok
    go_enter Try.func10, Try.ntmps10
    go_wp2_with (go_at_call 23; refine hV.mono ?_; rintro e w2 ⟨rfl, hb2⟩)
    go_loopw [3, 4, 5] (fun v i _ wr => ∃ (k p : Nat) (A2 : Option Addr) (c2 : Nat), k ≤ 999 ∧ i = .int .i64 ((k : Int) + 1) ∧ v = .slice A2 p c2 ∧ p ≤ k ∧ Hid ((coll (fun id => zs.find? (isF id)) k).length = p) ∧ wr.ownsRow w.heap.size 40 5 (.slice A2 p c2) p (boxs (coll (fun id => zs.find? (isF id)) k)) ∧ Below w.heap.size w wr) (fun _ i _ _ => 1000 - (intOf i).toNat)
    case atStart => exact ⟨0, 0, _, _, by omega, rfl, rfl, Nat.le_refl _, Lib.hid rfl, own_later hown hb2, below_trans hal hb2⟩
    case round =>
      obtain ⟨k, p, A2, c2, hk, rfl, rfl, hpk, HP, hO, hb⟩ := hrel
      by_cases hlt : k < 999
      · have HCS := Lib.hid (coll_succ (fun id => zs.find? (isF id)) k)
        have hF := l2Find_any A n c zs ((k : Int) + 1) wr HN.out (hr.below hb) (by omega)
        have hki : (k : Int) + 1 ≤ 999 := by omega
        generalize coll (fun id => zs.find? (isF id)) k = L at *
        cases hf : findF zs ((k : Int) + 1) with
        | none =>
          have HL : Hid (coll (fun id => zs.find? (isF id)) (k + 1) = L) := Lib.hid (by rw [HCS.out, findF_find.1 hf]; simp)
          rw [hf] at hF
          change Calls _ _ _ _ (fun e w' => e = .returned (.int .i64 (-1)) ∧ _) at hF
          clear hf
          go_wp2_with (go_at_call 34; refine hF.mono ?_; rintro e w3 ⟨rfl, rfl⟩)
          go_roundw
          case rel => exact ⟨k + 1, p, A2, c2, by omega, by go_num, rfl, by omega, Lib.hid (by rw [HL.out]; exact HP.out), by rw [HL.out]; exact hO, hb⟩
          case measure => simp [intOf]; omega
        | some j =>
          obtain ⟨hj, hje, hjf⟩ := findF_some hf
          have HL : Hid (coll (fun id => zs.find? (isF id)) (k + 1) = L ++ [zs[j]]) := Lib.hid (by rw [HCS.out, hjf]; rfl)
          rw [hf] at hF
          change Calls _ _ _ _ (fun e w' => e = .returned (.int .i64 (j : Int)) ∧ _) at hF
          have hjn : j < n := by rw [← HN.out]; exact hj
          obtain ⟨b, o, rfl, hl, d0, d1, d2, d3, d4⟩ := (hr.below hb).boxAt hj
          clear hf hje hjf
          generalize zs[j] = y at *
          obtain ⟨y0, y1, y2, y3, y4⟩ := y
          dsimp only at d0 d1 d2 d3 d4
          have hji : (j : Int) < (n : Int) := by omega
          have hbs := hb.size
          go_wp2_with (first | (go_at_call 34; refine hF.mono ?_; rintro e w3 ⟨rfl, rfl⟩) | (at_builtin; refine append_new rfl (.tmp 20) (.tmp 25) 24 rfl 40 _ _ _ Try.underlying24 box_infoD w.heap.size wr (.slice A2 p c2) p (boxs L) rfl hO [.int .i64 y0, .int .i64 y1, .int .i64 y2, .int .i64 y3, .bool y4] (by first | rfl | (simp; with_unfolding_all rfl)) rfl (by simp [Value.oneCell']) (by omega) hbs ?_; intro v' w4 hown4 hg4 hblk4))
          obtain ⟨A6, c6, rfl, _, _⟩ := own_slice hown4
          have HB6 := Lib.hid (below_append hb hg4 hO rfl)
          have HL6 : Hid ((L ++ [(⟨y0, y1, y2, y3, y4⟩ : BoxV)]).length = p + 1) := Lib.hid (by rw [List.length_append, HP.out]; rfl)
          have HO6 := Lib.hid hown4
          clear hown4 hg4 hblk4 hF hO
          go_roundw
          case rel => exact ⟨k + 1, p + 1, A6, c6, by omega, by go_num, rfl, by omega, Lib.hid (by rw [HL.out]; exact HL6.out), by rw [HL.out, boxs_append, boxs_one]; exact HO6.out, HB6.out⟩
          case measure => simp [intOf]; omega
      · obtain rfl : k = 999 := by omega
        have HE : Hid (coll (fun id => zs.find? (isF id)) 999 = sortB zs) := Lib.hid HS.out.symm
        rw [HE.out] at HP hO
        go_wp2_with fail
        go_ret
        exact BoxOut.mk HP.out hO hb
end Go.Proofs.Ytbhnlooellgfaaa
