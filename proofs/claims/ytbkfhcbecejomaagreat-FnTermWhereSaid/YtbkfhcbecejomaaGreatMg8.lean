/- Marks that are set: the reference's l24Set. -/
import Derived.Test.YtbkfhcbecejomaaGreatMg7
import Derived.Deep.CutRange
import Derived.Deep.RegionLaw
namespace Go.Proofs.YtbkfhcbecejomaaGreat
open Go Go.ChangeShapes Go.WideShapes Go.ChangeAt Go.RowKit
set_option linter.unusedVariables false
/-- the reference's loop -/
def setGo (x m : Int) : Bool → List HoldV → List HoldV
  | done, [] => if done then [] else [⟨x, m⟩]
  | done, h :: r => (if !done && decide (x ≤ h.f0) then [⟨x, m⟩] else []) ++ ((if h.f0 = x then [] else [h]) ++ setGo x m (done || decide (x ≤ h.f0)) r)
theorem setGo_done {x m : Int} {l : List HoldV} (h : ∀ a ∈ l, a.f0 ≠ x) : setGo x m true l = l := by
  induction l with
  | nil => rfl
  | cons a r ih =>
    have h1 := h a (List.mem_cons_self ..)
    rw [setGo, if_neg h1]
    simp [ih (fun b hb => h b (List.mem_cons_of_mem _ hb))]
theorem setGo_zero {x m : Int} {l : List HoldV} (hp : l.Pairwise (fun a b => a.f0 < b.f0)) (hm : m = 0) : setGo x m true l = setH l x m := by
  induction l with
  | nil => simp [setGo, setH, hm]
  | cons a r ih =>
    have hr := (List.pairwise_cons.1 hp).2
    have ha := (List.pairwise_cons.1 hp).1
    rw [setGo, setH]
    by_cases hlt : a.f0 < x
    · rw [if_pos hlt, if_neg (show ¬ a.f0 = x by omega)]
      simp [ih hr]
    · rw [if_neg hlt]
      by_cases hax : a.f0 = x
      · rw [if_pos hax, if_pos hax, if_pos hm]
        have := setGo_done (x := x) (m := m) (l := r) (fun b hb => by have := ha b hb; omega)
        simp [this]
      · rw [if_neg hax, if_neg hax, if_pos hm]
        have := setGo_done (x := x) (m := m) (l := r) (fun b hb => by have := ha b hb; omega)
        simp [this]
theorem setGo_set {x m : Int} {l : List HoldV} (hp : l.Pairwise (fun a b => a.f0 < b.f0)) (hm : m ≠ 0) : setGo x m false l = setH l x m := by
  induction l with
  | nil => simp [setGo, setH, hm]
  | cons a r ih =>
    have hr := (List.pairwise_cons.1 hp).2
    have ha := (List.pairwise_cons.1 hp).1
    rw [setGo, setH]
    by_cases hlt : a.f0 < x
    · have hd : decide (x ≤ a.f0) = false := decide_eq_false (by omega)
      rw [if_pos hlt, if_neg (show ¬ a.f0 = x by omega), hd]
      simp [ih hr]
    · have hd : decide (x ≤ a.f0) = true := decide_eq_true (by omega)
      rw [if_neg hlt, hd]
      have := setGo_done (x := x) (m := m) (l := r) (fun b hb => by have := ha b hb; omega)
      by_cases hax : a.f0 = x
      · rw [if_pos hax, if_pos hax, if_neg hm]
        simp [this]
      · rw [if_neg hax, if_neg hax, if_neg hm]
        simp [this]
theorem setGo_eq {x m : Int} {l : List HoldV} (hp : l.Pairwise (fun a b => a.f0 < b.f0)) : setGo x m (m == 0) l = setH l x m := by
  by_cases hm : m = 0
  · rw [show (m == 0) = true from by simp [hm]]; exact setGo_zero hp hm
  · rw [show (m == 0) = false from by simp [hm]]; exact setGo_set hp hm
/-- between two rounds of l24Set -/
structure SetAt (w0 W : World) (q n c m lc : Nat) (HA LA : Option Addr) (acc : List HoldV) (ls : List Int) (p d lc2 : Nat) (A LA2 : Option Addr) : Prop where
  box : Blk W w0.heap.size 32 [.slice HA n c, .slice LA m lc]
  res : Blk W (w0.heap.size + 1) 32 [.slice none 0 0, .slice none 0 0]
  out : Blk W q 32 [.slice A p d, .slice LA2 m lc2]
  hq : w0.heap.size + 2 ≤ q
  holds : W.ownsRow (w0.heap.size + 2) 88 2 (.slice A p d) p (holds acc)
  left : W.ownsRow (w0.heap.size + 2) 3 1 (.slice LA2 m lc2) m (ints ls)
  bel : Below w0.heap.size w0 W
theorem SetAt.sz {w0 W : World} {q n c m lc p d lc2 : Nat} {HA LA A LA2 : Option Addr} {acc : List HoldV} {ls : List Int} (h : SetAt w0 W q n c m lc HA LA acc ls p d lc2 A LA2) : w0.heap.size + 2 ≤ W.heap.size := Nat.le_of_lt (Nat.lt_of_le_of_lt h.hq h.out.lt)
theorem SetAt.drew {w0 W : World} {q n c m lc p d lc2 : Nat} {HA LA A LA2 : Option Addr} {acc : List HoldV} {ls : List Int} (h : SetAt w0 W q n c m lc HA LA acc ls p d lc2 A LA2) : SetAt w0 W.drew q n c m lc HA LA acc ls p d lc2 A LA2 :=
  ⟨h.box, h.res, h.out, h.hq, h.holds, h.left, Below.drew h.bel⟩
/-- a block of another element type stays where a row of its own grows -/
theorem own_blk_apart {W w6 : World} {b k n g : Nat} {e t : TypeId} {v : Value} {xs cs : List Value} (h : W.ownsRow b e k v n xs) (hg : W.grownBy w6 v.ownBlock) (hb : Blk W g t cs) (hne : e ≠ t) : Blk w6 g t cs := by
  refine hb.offG hg (fun b' e' => ?_)
  rintro rfl
  rcases h.2 with ⟨rfl, _⟩ | ⟨g1, cap, cur, rfl, _, hg1, _⟩
  · cases e'
  · obtain rfl : g1 = b' := by simpa [Value.ownBlock] using e'
    unfold Blk at hb
    rw [hg1] at hb
    injection hb with hb
    injection hb with _ hb
    exact hne hb
theorem own_own_apart {W w6 : World} {b k n b' k' n' : Nat} {e t : TypeId} {v u : Value} {xs cs : List Value} (h : W.ownsRow b e k v n xs) (hg : W.grownBy w6 v.ownBlock) (hb : W.ownsRow b' t k' u n' cs) (hne : e ≠ t) : w6.ownsRow b' t k' u n' cs := by
  refine hb.kept hg ?_
  cases hu : u.ownBlock with
  | none => exact .inl rfl
  | some g => exact .inr (fun e' => own_types h hb hne g e'.symm hu)
theorem own_setAt {W : World} {b k n q i : Nat} {e t : TypeId} {v u : Value} {xs cs : List Value} (h : W.ownsRow b e k v n xs) (hq : Blk W q t cs) (hne : e ≠ t) : (W.setCell ⟨q, i, none⟩ u).ownsRow b e k v n xs := by
  refine h.kept (row := some q) ⟨rfl, rfl, rfl, by simp [World.setCell], fun j hj hn => Below.heap_setCell W ⟨q, i, none⟩ u j (by intro e; exact hn (by rw [e]))⟩ ?_
  refine .inr (fun hu => ?_)
  rcases h.2 with ⟨rfl, _⟩ | ⟨g1, cap, cur, rfl, _, hg1, _⟩
  · cases hu
  · obtain rfl : g1 = q := by simpa [Value.ownBlock] using hu
    unfold Blk at hq
    rw [hg1] at hq
    injection hq with hq
    injection hq with _ hq
    exact hne hq
section
variable {w0 W w6 : World} {q n c m lc p d lc2 d6 : Nat} {HA LA A LA2 A6 : Option Addr} {acc : List HoldV} {ls : List Int} {y0 y1 : Int}
theorem SetAt.out6 (h : SetAt w0 W q n c m lc HA LA acc ls p d lc2 A LA2) (hown : w6.ownsRow (w0.heap.size + 2) 88 2 (.slice A6 (p + 1) d6) (p + 1) (Go.Proofs.YtbkfhcbecejomaaGreat.holds acc ++ [.int .i64 y0, .int .i64 y1])) (hg : W.grownBy w6 (Value.ownBlock (.slice A p d))) : Blk w6 q 32 [.slice A p d, .slice LA2 m lc2] :=
  own_blk_apart h.holds hg h.out (by decide)
theorem SetAt.push (h : SetAt w0 W q n c m lc HA LA acc ls p d lc2 A LA2) (hown : w6.ownsRow (w0.heap.size + 2) 88 2 (.slice A6 (p + 1) d6) (p + 1) (Go.Proofs.YtbkfhcbecejomaaGreat.holds acc ++ [.int .i64 y0, .int .i64 y1])) (hg : W.grownBy w6 (Value.ownBlock (.slice A p d))) :
    SetAt w0 (w6.setCell ⟨q, 0, none⟩ (.slice A6 (p + 1) d6)) q n c m lc HA LA (acc ++ [⟨y0, y1⟩]) ls (p + 1) d6 lc2 A6 LA2 := by
  have o6 := h.out6 hown hg
  have hq := h.hq
  have e : Go.Proofs.YtbkfhcbecejomaaGreat.holds (acc ++ [⟨y0, y1⟩]) = Go.Proofs.YtbkfhcbecejomaaGreat.holds acc ++ [.int .i64 y0, .int .i64 y1] := by rw [holds_app]; rfl
  refine ⟨(own_blk_apart h.holds hg h.box (by decide)).far (by show w0.heap.size ≠ q; omega) _, (own_blk_apart h.holds hg h.res (by decide)).far (by show w0.heap.size + 1 ≠ q; omega) _, o6.set_ 0 _, hq, ?_, own_setAt (own_own_apart h.holds hg h.left (by decide)) o6 (by decide), (h.bel.grown hg h.bel.size (fun g e => by have := (h.holds.lt g e).1; omega)).setCell (by show w0.heap.size ≤ q; omega) _⟩
  rw [e]
  exact own_setAt hown o6 (by decide)
end
set_option maxRecDepth 100000 in
set_option maxHeartbeats 8000000 in
theorem specSet (HA LA : Option Addr) (n c m lc : Nat) (hs : List HoldV) (ls : List Int) (x mk : Int) (w : World) (hn : hs.length = n) (hln : ls.length = m) (hr : RdV w HA (holds hs)) (hrl : RdV w LA (ints ls)) (hm : n ≤ 1048576) (hm2 : m ≤ 1048576) (hpw : hs.Pairwise (fun a b => a.f0 < b.f0)) :
    Calls Tryz.prog 122 #[.agg #[.slice HA n c, .slice LA m lc], .int .i64 x, .int .i64 mk] w (PapOut w ⟨setH hs x mk, ls⟩) := by
  have HN := Lib.hid hn
  have HLN := Lib.hid hln
  have HSG : Hid (setGo x mk (mk == 0) hs = setH hs x mk) := Lib.hid (setGo_eq hpw)
  have hml2 : (ints ls).length = m * 1 := by rw [ints_len, hln, Nat.mul_one]
  have HML2 := Lib.hid hml2
  have hone2 := Lib.hid (ints_one ls)
  clear hn hln hpw hml2
  have hP : Blk (((w.alloc (.cells #[.slice HA n c, .slice LA m lc] 32)).alloc (.cells #[.slice none 0 0, .slice none 0 0] 32)).alloc (.cells #[] 3)) w.heap.size 32 [.slice HA n c, .slice LA m lc] := ((Blk.new _ _ _).alloc _).alloc _
  have hQ : Blk (((w.alloc (.cells #[.slice HA n c, .slice LA m lc] 32)).alloc (.cells #[.slice none 0 0, .slice none 0 0] 32)).alloc (.cells #[] 3)) (w.heap.size + 1) 32 [.slice none 0 0, .slice none 0 0] := by
    have := Blk.new (w.alloc (.cells #[.slice HA n c, .slice LA m lc] 32)) 32 [.slice none 0 0, .slice none 0 0]
    simp only [World.size_alloc] at this
    exact this.alloc _
  have hI : Blk (((w.alloc (.cells #[.slice HA n c, .slice LA m lc] 32)).alloc (.cells #[.slice none 0 0, .slice none 0 0] 32)).alloc (.cells #[] 3)) (w.heap.size + 1 + 1) 3 [] := by
    have := Blk.new ((w.alloc (.cells #[.slice HA n c, .slice LA m lc] 32)).alloc (.cells #[.slice none 0 0, .slice none 0 0] 32)) 3 []
    simp only [World.size_alloc] at this
    exact this
  have hB : Below w.heap.size w (((w.alloc (.cells #[.slice HA n c, .slice LA m lc] 32)).alloc (.cells #[.slice none 0 0, .slice none 0 0] 32)).alloc (.cells #[] 3)) := (((Below.refl _ _).alloc (Nat.le_refl _) _).alloc (by simp) _).alloc (by simp; omega) _
  have oI := oeI hI (Nat.le_refl _)
  have c1 := hP.cellAt 1 (by simp)
  simp only [List.getElem_cons_zero, List.getElem_cons_succ] at c1
  have hsz : w.heap.size + 2 ≤ (((w.alloc (.cells #[.slice HA n c, .slice LA m lc] 32)).alloc (.cells #[.slice none 0 0, .slice none 0 0] 32)).alloc (.cells #[] 3)).heap.size := by simp
  go_enter Tryz.func122, Tryz.ntmps122
  go_wp2_with (at_builtin; refine append_src rfl (.tmp 10) (.tmp 12) 29 rfl 3 _ _ _ Tryz.underlying29 int_infoY (w.heap.size + 1 + 1) (((w.alloc (.cells #[.slice HA n c, .slice LA m lc] 32)).alloc (.cells #[.slice none 0 0, .slice none 0 0] 32)).alloc (.cells #[] 3)) _ 0 [] rfl oI LA m lc (ints ls) rfl HML2.out (hrl.below hB) hone2.out (by omega) hsz ?_; intro v2 w2 o2 g2 b2; rw [Nat.zero_add, List.nil_append] at o2; obtain ⟨LA2, lc2, rfl, _, _⟩ := own_slice o2)
  have P2 := own_blk_apart oI g2 hP (by decide)
  have Q2 := own_blk_apart oI g2 hQ (by decide)
  have B2 : Below w.heap.size w w2 := hB.grown g2 hB.size (fun g e => by have := (oI.lt g e).1; omega)
  have hal : Below w2.heap.size w2 (w2.alloc (.cells #[.slice none 0 0, .slice LA2 m lc2] 32)) := (Below.refl _ _).alloc (Nat.le_refl _) _
  have hq2 : w.heap.size + 2 ≤ w2.heap.size := Nat.lt_of_lt_of_le (Nat.lt_succ_self _) (by have := Q2.lt; omega)
  have S0 : SetAt w (w2.alloc (.cells #[.slice none 0 0, .slice LA2 m lc2] 32)) w2.heap.size n c m lc HA LA [] ls 0 0 lc2 none LA2 :=
    ⟨P2.alloc _, Q2.alloc _, Blk.new _ _ _, hq2, World.ownsRow_nil _ _ _ _, own_later o2 hal, below_trans B2 hal⟩
  generalize hqq : w2.heap.size = q at *
  clear hP hQ hI oI c1 P2 Q2 B2 hal o2 g2 b2 hB hsz
  go_wp2_with fail
  generalize w2.alloc (.cells #[.slice none 0 0, .slice LA2 m lc2] 32) = w3 at *
  clear hqq
  go_loopw [8, 9] (fun dn i wr => ∃ (k : Nat) (done : Bool) (acc : List HoldV) (p d : Nat) (A : Option Addr), k ≤ n ∧ i = .int .i64 k ∧ dn = .bool done ∧ acc.length = p ∧ p ≤ 2 * k ∧ Hid (setGo x mk (mk == 0) hs = acc ++ setGo x mk done (hs.drop k)) ∧ SetAt w wr q n c m lc HA LA acc ls p d lc2 A LA2) (fun _ i _ => n - (intOf i).toNat)
  case atStart => exact ⟨0, _, [], 0, 0, none, Nat.zero_le _, rfl, rfl, rfl, Nat.zero_le _, Lib.hid rfl, S0⟩
  case round =>
    clear S0
    obtain ⟨k, done, acc, p, d, A, hk, rfl, rfl, hla, hp2, HJ, S⟩ := hrel
    have HLA := Lib.hid hla
    clear hla
    have x0 := (S.box).cellAt 0 (by simp)
    have x1 := (S.box).cellAt 1 (by simp)
    have o0 := (S.out).cellAt 0 (by simp)
    have o1 := (S.out).cellAt 1 (by simp)
    have of0 := (S.out).frozen 0
    simp only [List.getElem_cons_zero, List.getElem_cons_succ] at x0 x1 o0 o1
    by_cases hlt : k < n
    · have hke : k < hs.length := by rw [HN.out]; exact hlt
      obtain ⟨b, o, rfl, hl, hc0, hc1⟩ := hr.holdAt hke
      have HST : Hid (setGo x mk (mk == 0) hs = acc ++ ((if !done && decide (x ≤ (hs[k]).f0) then [⟨x, mk⟩] else []) ++ ((if (hs[k]).f0 = x then [] else [hs[k]]) ++ setGo x mk (done || decide (x ≤ (hs[k]).f0)) (hs.drop (k + 1))))) := Lib.hid (by rw [HJ.out, List.drop_eq_getElem_cons hke, setGo])
      generalize hs[k] = y at *
      obtain ⟨y0, y1⟩ := y
      dsimp only at hc0 hc1 HST
      have hki : (k : Int) < (n : Int) := by omega
      have h0 : _ = some (Value.int .i64 y0) := ((S.bel).cell (p := ⟨b, o + k * 2, none⟩) hl).trans hc0
      have h1 : _ = some (Value.int .i64 y1) := ((S.bel).cell (p := ⟨b, o + k * 2 + 1, none⟩) hl).trans hc1
      have S := S
      cases done with
      | false =>
        by_cases hge : x ≤ y0
        · have hd : decide (x ≤ y0) = true := decide_eq_true hge
          by_cases hyx : y0 = x
          · have hn1 : (y0 != x) = false := by simp [hyx]
            have HJ2 : Hid (setGo x mk (mk == 0) hs = (acc ++ [⟨x, mk⟩]) ++ setGo x mk true (hs.drop (k + 1))) := Lib.hid (by rw [HST.out, hd, if_pos hyx]; simp)
            clear hyx hge HST
            go_wp2_with (first
              | (at_builtin
                 refine append_new rfl (.tmp 37) (.tmp 41) 30 rfl 88 _ _ _ Tryz.underlying30 hold_infoD (w.heap.size + 2) wr (.slice A p d) p (holds acc) rfl S.holds [.int .i64 x, .int .i64 mk] (by first | rfl | (simp; with_unfolding_all rfl)) rfl (by simp [Value.oneCell']) (by omega) S.sz ?_
                 intro v6 w6 hown6 hg6 hb6
                 obtain ⟨A6, d6, rfl, _, _⟩ := own_slice hown6
                 have S6 := S.push hown6 hg6
                 have P6 := S.out6 hown6 hg6
                 have r0 := P6.cellAt 0 (by simp)
                 have r1 := P6.cellAt 1 (by simp)
                 have rf0 := P6.frozen 0
                 have rf1 := P6.frozen 1
                 have zx0 := (S6.box).cellAt 0 (by simp)
                 have zx1 := (S6.box).cellAt 1 (by simp)
                 have zo0 := (S6.out).cellAt 0 (by simp)
                 have zo1 := (S6.out).cellAt 1 (by simp)
                 have zf0 := (S6.out).frozen 0
                 simp only [List.getElem_cons_zero, List.getElem_cons_succ] at r0 r1 zx0 zx1 zo0 zo1
                 have hz0 := ((S6.bel).cell (p := ⟨b, o + k * 2, none⟩) hl).trans hc0
                 have hz1 := ((S6.bel).cell (p := ⟨b, o + k * 2 + 1, none⟩) hl).trans hc1
                 clear x0 x1 o0 o1 of0 h0 h1 P6 hown6 hg6 hb6))
            go_wp2_with fail
            go_roundw
            case rel => exact ⟨k + 1, true, _, _, _, _, by omega, by go_num, rfl, by rw [List.length_append, HLA.out]; rfl, by omega, HJ2, S6⟩
            case measure => simp [intOf]; omega
          · have hn1 : (y0 != x) = true := by simp [hyx]
            have HLA2 : Hid ((acc ++ ([⟨x, mk⟩] : List HoldV)).length = p + 1) := Lib.hid (by rw [List.length_append, HLA.out]; rfl)
            have HJ2 : Hid (setGo x mk (mk == 0) hs = ((acc ++ [⟨x, mk⟩]) ++ [⟨y0, y1⟩]) ++ setGo x mk true (hs.drop (k + 1))) := Lib.hid (by rw [HST.out, hd, if_neg hyx]; simp)
            clear hyx hge HST
            go_wp2_with (first
              | (at_builtin
                 refine append_new rfl (.tmp 37) (.tmp 41) 30 rfl 88 _ _ _ Tryz.underlying30 hold_infoD (w.heap.size + 2) wr (.slice A p d) p (holds acc) rfl S.holds [.int .i64 x, .int .i64 mk] (by first | rfl | (simp; with_unfolding_all rfl)) rfl (by simp [Value.oneCell']) (by omega) S.sz ?_
                 intro v6 w6 hown6 hg6 hb6
                 obtain ⟨A6, d6, rfl, _, _⟩ := own_slice hown6
                 have S6 := S.push hown6 hg6
                 have P6 := S.out6 hown6 hg6
                 have r0 := P6.cellAt 0 (by simp)
                 have r1 := P6.cellAt 1 (by simp)
                 have rf0 := P6.frozen 0
                 have rf1 := P6.frozen 1
                 have zx0 := (S6.box).cellAt 0 (by simp)
                 have zx1 := (S6.box).cellAt 1 (by simp)
                 have zo0 := (S6.out).cellAt 0 (by simp)
                 have zo1 := (S6.out).cellAt 1 (by simp)
                 have zf0 := (S6.out).frozen 0
                 simp only [List.getElem_cons_zero, List.getElem_cons_succ] at r0 r1 zx0 zx1 zo0 zo1
                 have hz0 := ((S6.bel).cell (p := ⟨b, o + k * 2, none⟩) hl).trans hc0
                 have hz1 := ((S6.bel).cell (p := ⟨b, o + k * 2 + 1, none⟩) hl).trans hc1
                 clear x0 x1 o0 o1 of0 h0 h1 P6 hown6 hg6 hb6))
            generalize w6.setCell ⟨q, 0, none⟩ (.slice A6 (p + 1) d6) = w7 at *
            have x0 := zx0
            have x1 := zx1
            have o0 := zo0
            have o1 := zo1
            have of0 := zf0
            have h0 := hz0
            have h1 := hz1
            clear zx0 zx1 zo0 zo1 zf0 hz0 hz1 r0 r1 rf0 rf1 HLA S
            have HLA := HLA2
            clear HLA2
            have SD := S6.drew
            have oa0 := ((S6.out).alloc (.cells #[.int .i64 y0, .int .i64 y1] 88)).cellAt 0 (by simp)
            simp only [List.getElem_cons_zero] at oa0
            go_region_law (first
              | (refine step_append_new rfl (.tmp 53) (.tmp 59) 30 rfl 88 _ _ _ Tryz.underlying30 hold_infoD (w.heap.size + 2) w7.drew (.slice A6 (p + 1) d6) (p + 1) (holds ((acc ++ [⟨x, mk⟩]))) rfl SD.holds [.int .i64 y0, .int .i64 y1] (by first | rfl | (simp; with_unfolding_all rfl)) rfl (by simp [Value.oneCell']) (by omega) SD.sz ?_
                 intro v8 w8 hown8 hg8 hb8
                 obtain ⟨A8, d8, rfl, _, _⟩ := own_slice hown8
                 have S8 := SD.push hown8 hg8
                 have P8 := SD.out6 hown8 hg8
                 have r0 := P8.cellAt 0 (by simp)
                 have rf0 := P8.frozen 0
                 simp only [List.getElem_cons_zero] at r0
                 have S8 := Lib.hid S8
                 clear P8 hown8 hg8 hb8))
            all_goals
              go_wp2_with fail
              go_roundw
              case rel => exact ⟨k + 1, _, _, _, _, _, by omega, by go_num, rfl, by rw [List.length_append, HLA.out]; rfl, by omega, HJ2, S8.out⟩
              case measure => simp [intOf]; omega
        · have hd : decide (x ≤ y0) = false := decide_eq_false hge
          have hn1 : (y0 != x) = true := by simp; omega
          have HJ2 : Hid (setGo x mk (mk == 0) hs = (acc ++ [⟨y0, y1⟩]) ++ setGo x mk false (hs.drop (k + 1))) := Lib.hid (by rw [HST.out, hd, if_neg (show ¬ y0 = x from by omega)]; simp)
          clear hge HST
          go_upto_region 10 with fail
          have SD := S.drew
          have oa0 := ((S.out).alloc (.cells #[.int .i64 y0, .int .i64 y1] 88)).cellAt 0 (by simp)
          simp only [List.getElem_cons_zero] at oa0
          go_region_law (first
            | (refine step_append_new rfl (.tmp 53) (.tmp 59) 30 rfl 88 _ _ _ Tryz.underlying30 hold_infoD (w.heap.size + 2) wr.drew (.slice A (p) d) (p) (holds (acc)) rfl SD.holds [.int .i64 y0, .int .i64 y1] (by first | rfl | (simp; with_unfolding_all rfl)) rfl (by simp [Value.oneCell']) (by omega) SD.sz ?_
               intro v8 w8 hown8 hg8 hb8
               obtain ⟨A8, d8, rfl, _, _⟩ := own_slice hown8
               have S8 := SD.push hown8 hg8
               have P8 := SD.out6 hown8 hg8
               have r0 := P8.cellAt 0 (by simp)
               have rf0 := P8.frozen 0
               simp only [List.getElem_cons_zero] at r0
               have S8 := Lib.hid S8
               clear P8 hown8 hg8 hb8))
          all_goals
            go_wp2_with fail
            go_roundw
            case rel => exact ⟨k + 1, _, _, _, _, _, by omega, by go_num, rfl, by rw [List.length_append, HLA.out]; rfl, by omega, HJ2, S8.out⟩
            case measure => simp [intOf]; omega
      | true =>
        by_cases hyx : y0 = x
        · have hn1 : (y0 != x) = false := by simp [hyx]
          have HJ2 : Hid (setGo x mk (mk == 0) hs = acc ++ setGo x mk true (hs.drop (k + 1))) := Lib.hid (by rw [HST.out, if_pos hyx]; simp)
          clear hyx HST
          go_wp2_with fail
          go_roundw
          case rel => exact ⟨k + 1, true, _, _, _, _, by omega, by go_num, rfl, HLA.out, by omega, HJ2, S⟩
          case measure => simp [intOf]; omega
        · have hn1 : (y0 != x) = true := by simp [hyx]
          have HJ2 : Hid (setGo x mk (mk == 0) hs = (acc ++ [⟨y0, y1⟩]) ++ setGo x mk true (hs.drop (k + 1))) := Lib.hid (by rw [HST.out, if_neg hyx]; simp)
          clear hyx HST
          go_upto_region 10 with fail
          have SD := S.drew
          have oa0 := ((S.out).alloc (.cells #[.int .i64 y0, .int .i64 y1] 88)).cellAt 0 (by simp)
          simp only [List.getElem_cons_zero] at oa0
          go_region_law (first
            | (refine step_append_new rfl (.tmp 53) (.tmp 59) 30 rfl 88 _ _ _ Tryz.underlying30 hold_infoD (w.heap.size + 2) wr.drew (.slice A (p) d) (p) (holds (acc)) rfl SD.holds [.int .i64 y0, .int .i64 y1] (by first | rfl | (simp; with_unfolding_all rfl)) rfl (by simp [Value.oneCell']) (by omega) SD.sz ?_
               intro v8 w8 hown8 hg8 hb8
               obtain ⟨A8, d8, rfl, _, _⟩ := own_slice hown8
               have S8 := SD.push hown8 hg8
               have P8 := SD.out6 hown8 hg8
               have r0 := P8.cellAt 0 (by simp)
               have rf0 := P8.frozen 0
               simp only [List.getElem_cons_zero] at r0
               have S8 := Lib.hid S8
               clear P8 hown8 hg8 hb8))
          all_goals
            go_wp2_with fail
            go_roundw
            case rel => exact ⟨k + 1, _, _, _, _, _, by omega, by go_num, rfl, by rw [List.length_append, HLA.out]; rfl, by omega, HJ2, S8.out⟩
            case measure => simp [intOf]; omega
    · obtain rfl : n = k := by omega
      have hnil : hs.drop n = [] := List.drop_of_length_le (by rw [HN.out]; exact Nat.le_refl _)
      have HSE0 : Hid (setH hs x mk = acc ++ (if done then [] else [⟨x, mk⟩])) := Lib.hid (by rw [← HSG.out, HJ.out, hnil, setGo])
      clear hnil HJ
      have q0 := (S.res).cellAt 0 (by simp)
      have q1 := (S.res).cellAt 1 (by simp)
      have qf0 := (S.res).frozen 0
      have qf1 := (S.res).frozen 1
      simp only [List.getElem_cons_zero, List.getElem_cons_succ] at q0 q1
      cases done with
      | true =>
        have HSET : Hid (setH hs x mk = acc) := Lib.hid (by rw [HSE0.out]; simp)
        have HLE : Hid (acc.length = p) := HLA
        go_wp2_with fail
        have hR := ((S.res).set_ 0 (.slice A (p) d)).set_ 1 (.slice LA2 m lc2)
        have hR1 := (S.res).set_ 0 (.slice A (p) d)
        have u0 := hR1.cellAt 1 (by simp)
        have u1 := hR.cellAt 0 (by simp)
        have u2 := hR.cellAt 1 (by simp)
        simp only [List.set_cons_zero, List.set_cons_succ, List.getElem_cons_zero, List.getElem_cons_succ] at u0 u1 u2
        have HSS := Lib.hid S
        refine bodyPost_ret (v := .agg #[.slice A (p) d, .slice LA2 m lc2]) (by simp [results, Tryz.results122, go_sem, *]) rfl ?_
        have hqq := HSS.out.hq
        have h6 : Out (w.heap.size + 1) (w.heap.size + 2) wr ((wr.setCell ⟨w.heap.size + 1, 0, none⟩ (.slice A (p) d)).setCell ⟨w.heap.size + 1, 1, none⟩ (.slice LA2 m lc2)) := out_set (out_set (Out.refl _ _ _) _ _ _ (by omega) (by omega)) _ _ _ (by omega) (by omega)
        refine papOut_mk (by rw [HSET.out, HLE.out]) HLN.out (own_base (own_out (by rw [HSET.out]; exact HSS.out.holds) h6 ?_) (Nat.le_of_lt (Nat.lt_succ_of_lt (Nat.lt_succ_self _)))) (own_base (own_out HSS.out.left h6 ?_) (Nat.le_of_lt (Nat.lt_succ_of_lt (Nat.lt_succ_self _)))) (below_out HSS.out.bel h6 (by omega))
        · intro g e
          have := (HSS.out.holds.lt g e).1
          omega
        · intro g e
          have := (HSS.out.left.lt g e).1
          omega
      | false =>
        have HSET : Hid (setH hs x mk = acc ++ [⟨x, mk⟩]) := Lib.hid (by rw [HSE0.out]; simp)
        have HLE : Hid ((acc ++ ([⟨x, mk⟩] : List HoldV)).length = p + 1) := Lib.hid (by rw [List.length_append, HLA.out]; rfl)
        go_wp2_with (first
          | (at_builtin
             refine append_new rfl (.tmp 65) (.tmp 69) 30 rfl 88 _ _ _ Tryz.underlying30 hold_infoD (w.heap.size + 2) wr (.slice A p d) p (holds acc) rfl S.holds [.int .i64 x, .int .i64 mk] (by first | rfl | (simp; with_unfolding_all rfl)) rfl (by simp [Value.oneCell']) (by omega) S.sz ?_
             intro v6 w6 hown6 hg6 hb6
             obtain ⟨A6, d6, rfl, _, _⟩ := own_slice hown6
             have S6 := S.push hown6 hg6
             have P6 := S.out6 hown6 hg6
             have r0 := P6.cellAt 0 (by simp)
             have r1 := P6.cellAt 1 (by simp)
             have rf0 := P6.frozen 0
             have rf1 := P6.frozen 1
             have zx0 := (S6.box).cellAt 0 (by simp)
             have zx1 := (S6.box).cellAt 1 (by simp)
             have zo0 := (S6.out).cellAt 0 (by simp)
             have zo1 := (S6.out).cellAt 1 (by simp)
             have zf0 := (S6.out).frozen 0
             simp only [List.getElem_cons_zero, List.getElem_cons_succ] at r0 r1 zx0 zx1 zo0 zo1
             have zq0 := (S6.res).cellAt 0 (by simp)
             have zq1 := (S6.res).cellAt 1 (by simp)
             have zqf0 := (S6.res).frozen 0
             have zqf1 := (S6.res).frozen 1
             simp only [List.getElem_cons_zero, List.getElem_cons_succ] at zq0 zq1
             clear x0 x1 o0 o1 of0 q0 q1 qf0 qf1 P6 hown6 hg6 hb6))
        generalize w6.setCell ⟨q, 0, none⟩ (.slice A6 (p + 1) d6) = w7 at *
        go_wp2_with fail
        have hR := ((S6.res).set_ 0 (.slice A6 (p + 1) d6)).set_ 1 (.slice LA2 m lc2)
        have hR1 := (S6.res).set_ 0 (.slice A6 (p + 1) d6)
        have u0 := hR1.cellAt 1 (by simp)
        have u1 := hR.cellAt 0 (by simp)
        have u2 := hR.cellAt 1 (by simp)
        simp only [List.set_cons_zero, List.set_cons_succ, List.getElem_cons_zero, List.getElem_cons_succ] at u0 u1 u2
        have HSS := Lib.hid S6
        refine bodyPost_ret (v := .agg #[.slice A6 (p + 1) d6, .slice LA2 m lc2]) (by simp [results, Tryz.results122, go_sem, *]) rfl ?_
        have hqq := HSS.out.hq
        have h6 : Out (w.heap.size + 1) (w.heap.size + 2) w7 ((w7.setCell ⟨w.heap.size + 1, 0, none⟩ (.slice A6 (p + 1) d6)).setCell ⟨w.heap.size + 1, 1, none⟩ (.slice LA2 m lc2)) := out_set (out_set (Out.refl _ _ _) _ _ _ (by omega) (by omega)) _ _ _ (by omega) (by omega)
        refine papOut_mk (by rw [HSET.out, HLE.out]) HLN.out (own_base (own_out (by rw [HSET.out]; exact HSS.out.holds) h6 ?_) (Nat.le_of_lt (Nat.lt_succ_of_lt (Nat.lt_succ_self _)))) (own_base (own_out HSS.out.left h6 ?_) (Nat.le_of_lt (Nat.lt_succ_of_lt (Nat.lt_succ_self _)))) (below_out HSS.out.bel h6 (by omega))
        · intro g e
          have := (HSS.out.holds.lt g e).1
          omega
        · intro g e
          have := (HSS.out.left.lt g e).1
          omega
end Go.Proofs.YtbkfhcbecejomaaGreat
