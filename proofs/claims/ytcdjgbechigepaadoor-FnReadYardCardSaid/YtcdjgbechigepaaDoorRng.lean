/- A range over a function whose iterator stores into a variable of its own (block b): one round; the loop in a function; the loop in a round. -/
import Derived.RangeFuncNested
import Derived.RangeFuncBound
import Derived.RangeFuncCalls
import Derived.RangeFuncLeaves
import Derived.Test.YtcdjgbechigepaaDoorOwn
import Derived.Test.YtcdjgbechigepaaDoorStr
namespace Go.Proofs.YtcdjgbechigepaaDoor
open Go Go.ChangeShapes Go.WideShapes Go.ChangeAt Go.RowKit
/-- how a round's body may be left -/
def rPost {α : Type} (l : Nat) (r : Loop) (Kb : World → World → Prop) (I : α → World → Prop) (Ix : Code → World → Prop) (y : α) (W : World) : Exit → Act → World → Prop
  | .normal, _, W' => W'.heap[l]? = some (.loop r) ∧ Kb W W' ∧ I y W'
  | .ret, _, W' => W'.heap[l]? = some (.loop r) ∧ Ix .ret W'
  | .exit id, _, W' => W'.heap[l]? = some (.loop r) ∧ Ix (.exit id) W'
  | .goto _, _, _ => False
  | .panic _, _, _ => False
  | .outgrown, _, _ => False
/-- one round -/
theorem yield_round {α : Type} {F : Fence} {n : Nat} {P : Program} {l : Nat} {r : Loop} (hr : r.state = .ready) (hp : r.pending = none) (hF : F.fn r.fn) {args : Array Value} (hs : args.size = r.params.size)
    {Kb : World → World → Prop} {I : α → World → Prop} {Ix : Code → World → Prop} {y : α} {W : World}
    (hK : ∀ A B o, Kb A B → Kb A (B.putObj l o)) (hI : ∀ y A o, I y A → I y (A.putObj l o)) (hIx : ∀ c A o, Ix c A → Ix c (A.putObj l o))
    (hround : r.assign.wpIn (F.inRound l) n P (Exit.then (fun a1 w1 => w1.heap[l]? = some (.loop r) ∧ r.body.wpIn (F.inRound l) n P (rPost l { r with state := .busy } Kb I Ix y W) a1 (w1.putObj l (.loop { r with state := .busy }))) (fun _ _ _ => False))
      { tmps := (r.params.zip args).foldl (fun t (p, v) => t.setIfInBounds p v) r.tmps, defers := [] } W)
    (hl : W.heap[l]? = some (.loop r)) :
    YieldAt F n P l args W fun e W' => (e = .returned (.bool true) ∧ (I y W' ∧ W'.heap[l]? = some (.loop r)) ∧ Kb W W') ∨ (e = .returned (.bool false) ∧ ∃ c, Ix c W' ∧ W'.heap[l]? = some (.loop { r with state := .done, pending := some c })) := by
  have leave : ∀ (jump : Option Code) (W3 : World), W3.heap[l]? = some (.loop { r with state := .busy }) →
      (Instr.endRound l jump).run P W3 = .ok (.bool jump.isNone) (W3.putObj l (.loop { r with state := if jump.isNone then .ready else .done, pending := jump })) ∧
      (W3.putObj l (.loop { r with state := if jump.isNone then .ready else .done, pending := jump })).heap[l]? = some (.loop { r with state := if jump.isNone then .ready else .done, pending := jump }) :=
    fun jump W3 h => ⟨run_endRound (P := P) (r := { r with state := .busy }) jump h, World.putObj_heap_same (Array.getElem?_eq_some_iff.1 h).1⟩
  refine ⟨r.fn, _, r.assign, r.body, run_yield hl hs, roundIn_of_wpIn hF (wpIn_mono hround ?_)⟩
  rintro e a1 W1 hq
  cases e with
  | normal =>
    obtain ⟨h1, hb⟩ := hq
    refine ⟨_, run_beginRound h1 hr, wpIn_mono hb ?_⟩
    rintro e a2 W2 hq2
    cases e with
    | normal =>
      obtain ⟨h2, hk, hi⟩ := hq2
      obtain ⟨he, hl2⟩ := leave none W2 h2
      have er : ({ r with state := .ready, pending := none } : Loop) = r := by cases r; simp_all
      exact ⟨_, _, he, .inl ⟨rfl, ⟨hI _ _ _ hi, hl2.trans (by simp [er])⟩, hK _ _ _ hk⟩⟩
    | ret =>
      obtain ⟨h2, hx⟩ := hq2
      obtain ⟨he, hl2⟩ := leave (some .ret) W2 h2
      exact ⟨_, _, he, .inr ⟨rfl, .ret, hIx _ _ _ hx, hl2⟩⟩
    | exit id =>
      obtain ⟨h2, hx⟩ := hq2
      obtain ⟨he, hl2⟩ := leave (some (.exit id)) W2 h2
      exact ⟨_, _, he, .inr ⟨rfl, .exit id, hIx _ _ _ hx, hl2⟩⟩
    | goto t => exact hq2.elim
    | panic ch => exact hq2.elim
    | outgrown => exact hq2.elim
  | ret => exact hq.elim
  | exit id => exact hq.elim
  | goto t => exact hq.elim
  | panic ch => exact hq.elim
  | outgrown => exact hq.elim
/-- what an iterator gives that stores into block b: the texts xs one by one, or a part of them, as long as a round that goes on keeps what Kb says -/
def Iter (F : Fence) (n : Nat) (P : Program) (gf : Nat) (lb : Array Value) (b : Nat) (xs : List (List UInt8)) (Kb : World → World → Prop) (W : World) : Prop :=
  ∀ (l : Nat) (J : List (List UInt8) → World → Prop) (Jx : World → Prop), (∀ pre A v, J pre A → J pre (A.setCell ⟨b, 0, none⟩ v)) →
    (∀ pre x A, J pre A → (pre ++ [x]) <+: xs → YieldAt F (n - 1) P l #[.string (txt x)] A fun e W' => (e = .returned (.bool true) ∧ J (pre ++ [x]) W' ∧ Kb A W') ∨ (e = .returned (.bool false) ∧ Jx W')) →
    J [] W →
    CallsIn F n P gf (#[.func (.yield l) #[] #[]] ++ lb) W fun e W' => (∃ v, e = .returned v) ∧ (J xs W' ∨ Jx W')
/-- the call of the iterator, with the loop's record in block l -/
theorem iter_call {F : Fence} {n : Nat} {P : Program} {Q : Exit → Act → World → Prop} {a' : Act} {gf : Nat} {lb : Array Value} {b l : Nat} {xs : List (List UInt8)} {Kb : World → World → Prop} {r : Loop} (hr : r.state = .ready) (hp : r.pending = none) (hF : F.fn r.fn) (hs : r.params.size = 1)
    {W1 : World} (hl : W1.heap[l]? = some (.loop r)) (hbl : b ≠ l) (hseq : Iter F n P gf lb b xs Kb W1)
    (I : List (List UInt8) → World → Prop) (Ix : Code → World → Prop)
    (hK : ∀ A B o, Kb A B → Kb A (B.putObj l o)) (hI : ∀ y A o, I y A → I y (A.putObj l o)) (hIx : ∀ c A o, Ix c A → Ix c (A.putObj l o)) (hIb : ∀ pre A v, I pre A → I pre (A.setCell ⟨b, 0, none⟩ v))
    (h0 : I [] W1)
    (hround : ∀ pre x A, I pre A → (pre ++ [x]) <+: xs → A.heap[l]? = some (.loop r) →
      r.assign.wpIn (F.inRound l) (n - 1) P (Exit.then (fun a1 w1 => w1.heap[l]? = some (.loop r) ∧ r.body.wpIn (F.inRound l) (n - 1) P (rPost l { r with state := .busy } Kb I Ix (pre ++ [x]) A) a1 (w1.putObj l (.loop { r with state := .busy }))) (fun _ _ _ => False))
        { tmps := (r.params.zip #[.string (txt x)]).foldl (fun t (p, v) => t.setIfInBounds p v) r.tmps, defers := [] } A)
    (hdone : ∀ W, I xs W → Q .normal a' W) (hstop : ∀ c W, Ix c W → c.wpIn F (n + 1) P Q a' W) :
    CallsIn F n P gf (#[.func (.yield l) #[] #[]] ++ lb) W1 (rangePost F (n + 1) P l Q a') := by
  refine (hseq l (fun pre W => I pre W ∧ W.heap[l]? = some (.loop r)) (fun W => ∃ c, Ix c W ∧ W.heap[l]? = some (.loop { r with state := .done, pending := some c }))
    (fun pre A v h => ⟨hIb _ _ _ h.1, (Below.heap_setCell A ⟨b, 0, none⟩ v l (fun e => hbl e.symm)).trans h.2⟩) (fun pre x A h hx => yield_round hr hp hF (by rw [hs]; rfl) hK hI hIx (hround pre x A h.1 hx h.2) h.2) ⟨h0, hl⟩).mono ?_
  rintro e W2 ⟨⟨v, rfl⟩, ⟨hi, h2⟩ | ⟨c, hx, h2⟩⟩
  · have he := run_endLoop (P := P) h2 (by rw [hr]; simp)
    rw [hp] at he
    exact ⟨none, _, he, hdone _ (hI _ _ _ hi)⟩
  · exact ⟨some c, _, run_endLoop (P := P) h2 (by simp), hstop _ _ (hIx _ _ _ hx)⟩
/-- the loop in a function's body: its list of deferred calls in block w.heap.size, its record behind it -/
theorem range_outer {F : Fence} {n : Nat} {P : Program} {g : Operand} {ps : Array Tmp} {assign body : Code} {Q : Exit → Act → World → Prop} {a : Act} {w : World}
    (hro : F.round = none) {gf : Nat} {lb : Array Value} (hg : a.eval g = .func (.func gf) #[] lb) (hFg : F.fn gf) (eg : ∀ args w, (callFunc gf args).run P w = .ok (.enter gf args) w) (hps : ps.size = 1)
    {b : Nat} (hb : b < w.heap.size) {xs : List (List UInt8)} {Kb : World → World → Prop} (I : List (List UInt8) → World → Prop) (Ix : Code → World → Prop)
    (hseq : ∀ o o', Iter F n P gf lb b xs Kb ((w.alloc o).alloc o'))
    (hK : ∀ A B o, Kb A B → Kb A (B.putObj (w.heap.size + 1) o)) (hI : ∀ y A o, I y A → I y (A.putObj (w.heap.size + 1) o)) (hIx : ∀ c A o, Ix c A → Ix c (A.putObj (w.heap.size + 1) o)) (hIb : ∀ pre A v, I pre A → I pre (A.setCell ⟨b, 0, none⟩ v))
    (h0 : ∀ o, I [] ((w.alloc (.deferred (some []))).alloc o))
    (hround : ∀ fn, F.fn fn → ∀ (r : Loop), r = { state := .ready, pending := none, fn, tmps := a.tmps, params := ps, assign, body, defers := w.heap.size } → ∀ pre x A, I pre A → (pre ++ [x]) <+: xs → A.heap[w.heap.size + 1]? = some (.loop r) →
      assign.wpIn (F.inRound (w.heap.size + 1)) (n - 1) P (Exit.then (fun a1 w1 => w1.heap[w.heap.size + 1]? = some (.loop r) ∧ body.wpIn (F.inRound (w.heap.size + 1)) (n - 1) P (rPost (w.heap.size + 1) { r with state := .busy } Kb I Ix (pre ++ [x]) A) a1 (w1.putObj (w.heap.size + 1) (.loop { r with state := .busy }))) (fun _ _ _ => False))
        { tmps := (ps.zip #[.string (txt x)]).foldl (fun t (p, v) => t.setIfInBounds p v) a.tmps, defers := [] } A)
    (hdone : ∀ W, I xs W → Q .normal { a with defers := { target := .collected w.heap.size, args := #[] } :: a.defers } W)
    (hstop : ∀ c W, Ix c W → c.wpIn F (n + 1) P Q { a with defers := { target := .collected w.heap.size, args := #[] } :: a.defers } W) :
    (Code.rangeFunc g ps assign body).wpIn F (n + 1) P Q a w := by
  refine wpIn_rangeFunc ?_
  intro fn hfn
  rw [hro]
  obtain ⟨r, hrec⟩ : ∃ r : Loop, r = { state := .ready, pending := none, fn, tmps := a.tmps, params := ps, assign, body, defers := w.heap.size } := ⟨_, rfl⟩
  have hrd := hround fn hfn r hrec
  have hL1 : ((w.alloc (.deferred (some []))).alloc (.loop r)).heap[w.heap.size + 1]? = some (.loop r) := by
    have := World.alloc_heap_new (w.alloc (.deferred (some []))) (.loop r); rwa [World.size_alloc] at this
  refine ⟨w.heap.size + 1, [{ target := .collected w.heap.size, args := #[] }], (w.alloc (.deferred (some []))).alloc (.loop r), { target := .fn (.func gf) lb, args := #[.func (.yield (w.heap.size + 1)) #[] #[]] }, (w.alloc (.deferred (some []))).alloc (.loop r), gf,
    #[.func (.yield (w.heap.size + 1)) #[] #[]] ++ lb, (w.alloc (.deferred (some []))).alloc (.loop r), ?_, ?_, ?_, ?_, fun _ => by omega, ?_⟩
  · rw [hrec]; exact run_enterLoop_outer _ _ _ _ _
  · simp only [resolve, hg]
    simp [go_sem]
  · intro f' hf'; simp [Target.leads] at hf'; subst hf'; exact hFg
  · simp [invoke, go_sem, eg]
  · refine iter_call (n := n) (by rw [hrec]) (by rw [hrec]) (by rw [hrec]; exact hfn) (by rw [hrec]; exact hps) hL1 (by omega) (hseq _ _) I Ix hK hI hIx hIb (h0 _) ?_ hdone hstop
    rw [hrec] at hrd ⊢
    exact hrd
/-- the loop in a round of the loop whose record is block l0 -/
theorem range_inner {F : Fence} {n : Nat} {P : Program} {g : Operand} {ps : Array Tmp} {assign body : Code} {Q : Exit → Act → World → Prop} {a : Act} {w : World} {l0 : Nat} {r0 : Loop} (hl0 : w.heap[l0]? = some (.loop r0))
    {gf : Nat} {lb : Array Value} (hg : a.eval g = .func (.func gf) #[] lb) (hFg : F.fn gf) (eg : ∀ args w, (callFunc gf args).run P w = .ok (.enter gf args) w) (hps : ps.size = 1)
    {b : Nat} (hb : b < w.heap.size) {xs : List (List UInt8)} {Kb : World → World → Prop} (I : List (List UInt8) → World → Prop) (Ix : Code → World → Prop)
    (hseq : ∀ o, Iter F n P gf lb b xs Kb (w.alloc o))
    (hK : ∀ A B o, Kb A B → Kb A (B.putObj w.heap.size o)) (hI : ∀ y A o, I y A → I y (A.putObj w.heap.size o)) (hIx : ∀ c A o, Ix c A → Ix c (A.putObj w.heap.size o)) (hIb : ∀ pre A v, I pre A → I pre (A.setCell ⟨b, 0, none⟩ v))
    (h0 : ∀ o, I [] (w.alloc o))
    (hround : ∀ fn, F.fn fn → ∀ (r : Loop), r = { state := .ready, pending := none, fn, tmps := a.tmps, params := ps, assign, body, defers := r0.defers } → ∀ pre x A, I pre A → (pre ++ [x]) <+: xs → A.heap[w.heap.size]? = some (.loop r) →
      assign.wpIn (F.inRound w.heap.size) (n - 1) P (Exit.then (fun a1 w1 => w1.heap[w.heap.size]? = some (.loop r) ∧ body.wpIn (F.inRound w.heap.size) (n - 1) P (rPost w.heap.size { r with state := .busy } Kb I Ix (pre ++ [x]) A) a1 (w1.putObj w.heap.size (.loop { r with state := .busy }))) (fun _ _ _ => False))
        { tmps := (ps.zip #[.string (txt x)]).foldl (fun t (p, v) => t.setIfInBounds p v) a.tmps, defers := [] } A)
    (hdone : ∀ W, I xs W → Q .normal a W)
    (hstop : ∀ c W, Ix c W → c.wpIn (F.inRound l0) (n + 1) P Q a W) :
    (Code.rangeFunc g ps assign body).wpIn (F.inRound l0) (n + 1) P Q a w := by
  refine wpIn_rangeFunc ?_
  intro fn hfn
  obtain ⟨r, hrec⟩ : ∃ r : Loop, r = { state := .ready, pending := none, fn, tmps := a.tmps, params := ps, assign, body, defers := r0.defers } := ⟨_, rfl⟩
  have hrd := hround fn hfn r hrec
  refine ⟨w.heap.size, [], w.alloc (.loop r), { target := .fn (.func gf) lb, args := #[.func (.yield w.heap.size) #[] #[]] }, w.alloc (.loop r), gf,
    #[.func (.yield w.heap.size) #[] #[]] ++ lb, w.alloc (.loop r), ?_, ?_, ?_, ?_, fun _ => by omega, ?_⟩
  · rw [hrec]; exact run_enterLoop_inner hl0 _ _ _ _ _
  · simp only [resolve, hg]
    simp [go_sem]
  · intro f' hf'; simp [Target.leads] at hf'; subst hf'; exact hFg
  · simp [invoke, go_sem, eg]
  · refine iter_call (F := F.inRound l0) (n := n) (by rw [hrec]) (by rw [hrec]) (by rw [hrec]; exact hfn) (by rw [hrec]; exact hps) (World.alloc_heap_new _ _) (by omega) (hseq _) I Ix hK hI hIx hIb (h0 _) ?_ hdone hstop
    rw [hrec] at hrd ⊢
    exact hrd
end Go.Proofs.YtcdjgbechigepaaDoor
