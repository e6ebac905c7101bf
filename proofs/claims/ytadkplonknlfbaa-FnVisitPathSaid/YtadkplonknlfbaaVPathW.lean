/- What lies in memory in the search for the fewest events. -/
import Derived.Test.YtadkplonknlfbaaVPathP
import Derived.Test.YtadkplonknlfbaaMapV
import Derived.Test.YtadkplonknlfbaaQue
import Derived.Test.YtadkplonknlfbaaOut
import Derived.Test.YtadkplonknlfbaaClone
import Derived.Test.YtadkplonknlfbaaDrawList
namespace Go.Proofs.Ytadkplonknlfbaa
open Go Go.ChangeShapes Go.WideShapes Go.ChangeAt Go.RowKit

/-- Clone of the call's own numbers: numbers of its own, in new memory -/
theorem clone_own (B n : Nat) (v : Value) (zs : List Int) (w : World) (h : w.ownsRow B 3 1 v n (ints zs)) (hn : n ≤ 1000000) :
    Calls Try.prog 19 #[v] w (RVal fun v' w' => w'.ownsRow w.heap.size 3 1 v' n (ints zs) ∧ Below w.heap.size w w') := by
  have hl := h.1
  rw [ints_len, Nat.mul_one] at hl
  rcases own_form h with ⟨rfl, rfl, hx⟩ | ⟨g, c, rfl, _, _, _⟩
  · refine (clone_int_nil 0 0 w).mono ?_
    rintro e w' ⟨rfl, rfl⟩
    rw [hx]
    exact RVal.mk ⟨World.ownsRow_nil _ _ _ _, Below.refl _ _⟩
  · refine (clone_int g 0 n c zs w (by omega) (by omega) (fun j hj => ?_)).mono ?_
    · rw [Nat.zero_add, h.cellAt j (by omega)]
      simp [ints, hj]
    · rintro e w' ⟨v', rfl, ho, _, hb⟩
      rw [List.take_of_length_le (by omega)] at ho
      exact RVal.mk ⟨ho, hb⟩

def PathAt (w : World) (B g mb : Nat) : Option Value → Option (List Int) → Prop
  | none, none => True
  | some v, some p => w.ownsRow B 3 1 v p.length (ints p) ∧ v.ownBlock ≠ some g ∧ v.ownBlock ≠ some mb
  | _, _ => False
theorem PathAt.kept {w w' : World} {B g mb : Nat} {row : Option Nat} {a : Option Value} {b : Option (List Int)} (h : PathAt w B g mb a b) (hg : w.grownBy w' row) (hr : row = some g ∨ row = some mb ∨ row = none) : PathAt w' B g mb a b := by
  cases a with
  | none => cases b with
    | none => exact h
    | some p => exact h.elim
  | some v => cases b with
    | none => exact h.elim
    | some p =>
      refine ⟨h.1.kept hg ?_, h.2⟩
      rcases hr with rfl | rfl | rfl
      · exact .inr h.2.1
      · exact .inr h.2.2
      · cases v.ownBlock <;> simp
theorem PathAt.block {w : World} {B g g' mb : Nat} {a : Option Value} {b : Option (List Int)} (h : PathAt w B g mb a b) (hg : g' = g ∨ w.heap.size ≤ g') : PathAt w B g' mb a b := by
  cases a with
  | none => cases b with
    | none => exact h
    | some p => exact h.elim
  | some v => cases b with
    | none => exact h.elim
    | some p =>
      refine ⟨h.1, fun e => ?_, h.2.2⟩
      rcases hg with rfl | hg
      · exact h.2.1 e
      · have := h.1.lt g' e
        omega
theorem PathAt.join {w w' : World} {B g g' mb : Nat} {a : Option Value} {b : Option (List Int)} (h : PathAt w B g mb a b) (h' : PathAt w' B g' mb a b) : PathAt w B g' mb a b := by
  cases a with
  | none => cases b with
    | none => exact h
    | some p => exact h.elim
  | some v => cases b with
    | none => exact h.elim
    | some p => exact ⟨h.1, h'.2.1, h.2.2⟩
theorem PathAt.some {w : World} {B g mb : Nat} {a : Option Value} {p : List Int} (h : PathAt w B g mb a (some p)) : ∃ v, a = some v ∧ w.ownsRow B 3 1 v p.length (ints p) ∧ v.ownBlock ≠ some g ∧ v.ownBlock ≠ some mb := by
  cases a with
  | none => exact h.elim
  | some v => exact ⟨v, rfl, h⟩
theorem PathAt.isSome {w : World} {B g mb : Nat} {a : Option Value} {b : Option (List Int)} (h : PathAt w B g mb a b) : a.isSome = b.isSome := by
  cases a <;> cases b <;> first | rfl | exact h.elim

/-- the state st of the search in memory: the queue in block g, the map in block mb -/
def BfsW (w0 w : World) (g d cap mb : Nat) (st : Bfs) : Prop :=
  Que w g d cap (ints st.1) ∧ (w0.heap.size ≤ g ∧ g ≠ mb ∧ w0.heap.size ≤ mb) ∧ Below w0.heap.size w0 w ∧ ∃ f, MapI Try.prog 3 w mb st.2.length f ∧ ∀ a, PathAt w w0.heap.size g mb (f a) (st.2.lookup a)
/-- the queue's length and the room in the map -/
def bMeas (mb : Nat) (q : Value) (w : World) : Nat := (match q with | .slice _ n _ => n | _ => 0) + 5 - (match w.heap[mb]? with | some (.map es _) => es.size | _ => 0)
theorem bMeas_eq {w0 w : World} {g d cap mb : Nat} {st : Bfs} (h : BfsW w0 w g d cap mb st) (A : Option Addr) (n c : Nat) : bMeas mb (.slice A n c) w = n + 5 - st.2.length := by
  obtain ⟨_, _, _, f, hm, _⟩ := h
  obtain ⟨es, clock, hb, hs⟩ := hm.entries
  simp [bMeas, hb, hs]
theorem intWf {a : Int} (h : -100 ≤ a ∧ a ≤ 100) : (Lit.int .i64 a).wf = true := by
  have h1 : IntKind.i64.min = -9223372036854775808 := by decide
  have h2 : IntKind.i64.max = 9223372036854775807 := by decide
  simp only [Lit.wf, h1, h2, Bool.and_eq_true, decide_eq_true_eq]
  omega
theorem zeroInts (w : World) : (zeroValue 22).run Try.prog w = .ok (.slice none 0 0) w := by kernel_rfl
theorem grown_of_below {w w' : World} (h : Below w.heap.size w w') : w.grownBy w' none := ⟨h.os, h.tape, h.output, h.size, fun k hk _ => h.block k hk⟩
theorem bfs_start (s : Int) (w w1 : World) (hM : MapI Try.prog 3 w1 w.heap.size 1 (mput (fun _ => none) s (.slice none 0 0))) (hg : (w.alloc (.map #[] 0)).grownBy w1 (some w.heap.size)) :
    BfsW w (w1.alloc (.cells #[.int .i64 s] 3)) w1.heap.size 0 1 w.heap.size (bRun s 0) := by
  have hsz := hg.size
  simp at hsz
  have hal : w1.grownBy (w1.alloc (.cells #[.int .i64 s] 3)) none := World.grownBy_alloc _ _ none
  refine ⟨?_, ⟨by omega, by omega, Nat.le_refl _⟩, ?_, _, hM.kept hal (by simp), fun a => ?_⟩
  · exact que_of_blk (cs := [.int .i64 s]) (Blk.new w1 3 [.int .i64 s]) (by simp [maxLen])
  · have h1 : Below w.heap.size w w1 := ((Below.refl w.heap.size w).alloc (Nat.le_refl _) _).grown hg (by simp) (fun k hk => by injection hk with hk; omega)
    exact h1.alloc (by omega) _
  · unfold mput
    show PathAt _ _ _ _ _ (List.lookup a [(s, [])])
    by_cases ha : a = s
    · have hb : (a == s) = true := by simp [ha]
      rw [if_pos ha]
      simp only [List.lookup, hb]
      exact ⟨World.ownsRow_nil _ _ _ _, by simp [Value.ownBlock], by simp [Value.ownBlock]⟩
    · have hb : (a == s) = false := by simp [ha]
      rw [if_neg ha]
      simp only [List.lookup, hb]
      exact trivial
theorem bfs_add {w0 w w2 w3 w4 : World} {g mb g' d' cap' m : Nat} {st : Bfs} {f : Int → Option Value} {n k : Int} {p : List Int} {v2 : Value}
    (hgm : w0.heap.size ≤ g ∧ g ≠ mb ∧ w0.heap.size ≤ mb) (hB : Below w0.heap.size w0 w) (hglt : g < w.heap.size) (hmlt : mb < w.heap.size) (hP : ∀ a, PathAt w w0.heap.size g mb (f a) (st.2.lookup a)) (hnew : (st.2.lookup n).isSome = false)
    (hb2 : Below w.heap.size w w2) (hown2 : w2.ownsRow w.heap.size 3 1 v2 (p.length + 1) (ints p ++ [.int .i64 k]))
    (hm : m = st.2.length + 1) (hM3 : MapI Try.prog 3 w3 mb m (mput f n v2)) (hg3 : w2.grownBy w3 (some mb))
    (hq4 : Que w4 g' d' cap' (ints st.1 ++ [.int .i64 n])) (hg4 : w3.grownBy w4 (some g)) (hgg : g' = g ∨ w3.heap.size ≤ g') :
    BfsW w0 w4 g' d' cap' mb (st.1 ++ [n], st.2 ++ [(n, p ++ [k])]) := by
  have s2 := hb2.size
  have s3 := hg3.size
  have sB := hB.size
  have hmb : mb ≠ g' := by rcases hgg with rfl | h <;> omega
  subst hm
  refine ⟨by simpa [ints] using hq4, ⟨by rcases hgg with rfl | h <;> omega, fun e => hmb e.symm, hgm.2.2⟩, ?_, mput f n v2, ?_, fun a => ?_⟩
  · have h2 : Below w0.heap.size w0 w2 := hB.trans ⟨hb2.os, hb2.tape, hb2.output, hb2.size, fun i hi => hb2.block i (by omega)⟩
    have h3 := h2.grown hg3 h2.size (fun i hi => by injection hi with hi; omega)
    exact h3.grown hg4 h3.size (fun i hi => by injection hi with hi; omega)
  · have := hM3.kept hg4 (fun e => hgm.2.1 (by injection e with e; exact e.symm))
    simpa using this
  · rw [show (st.1 ++ [n], st.2 ++ [(n, p ++ [k])]).2 = st.2 ++ [(n, p ++ [k])] from rfl, lookup_snoc _ _ _ hnew]
    unfold mput
    by_cases ha : a = n
    · rw [if_pos ha, if_pos ha]
      have hv : ∀ b, v2.ownBlock = some b → w.heap.size ≤ b ∧ b < w2.heap.size := fun b hb => ⟨by
        rcases own_form hown2 with ⟨rfl, _, _⟩ | ⟨b', c, rfl, h1, _, _⟩
        · simp [Value.ownBlock] at hb
        · simp [Value.ownBlock] at hb; omega, (hown2.lt b hb).2⟩
      have n1 : v2.ownBlock ≠ some mb := fun e => by have := hv _ e; omega
      have n2 : v2.ownBlock ≠ some g := fun e => by have := hv _ e; omega
      refine ⟨?_, fun e => ?_, n1⟩
      · have h3 := (own_base hown2 (show w0.heap.size ≤ w.heap.size from sB)).kept hg3 (.inr n1)
        have h4 := h3.kept hg4 (.inr n2)
        simpa [ints] using h4
      · rcases hgg with rfl | h
        · exact n2 e
        · have := hv _ e; omega
    · rw [if_neg ha, if_neg ha]
      have p2 := (hP a).kept (grown_of_below hb2) (.inr (.inr rfl))
      have p3 := p2.kept hg3 (.inr (.inl rfl))
      exact PathAt.join (p3.kept hg4 (.inl rfl)) (p3.block hgg)
end Go.Proofs.Ytadkplonknlfbaa
