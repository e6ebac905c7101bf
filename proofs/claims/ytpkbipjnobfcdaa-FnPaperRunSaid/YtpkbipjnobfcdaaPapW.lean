/- Calls on papers that may be read: what they give, in plain words. -/
import Derived.Test.YtpkbipjnobfcdaaPapZ
import Derived.Test.YtpkbipjnobfcdaaPapS
import Derived.Test.YtpkbipjnobfcdaaDrawPapT
import Derived.Test.YtpkbipjnobfcdaaSamePap
import Derived.Test.YtpkbipjnobfcdaaAlive
namespace Go.Proofs.Ytpkbipjnobfcdaa
open Go Go.ChangeShapes Go.WideShapes Go.ChangeAt Go.RowKit
set_option linter.unusedVariables false
/-- papers that may be read, none great -/
structure PapQ (w : World) (A : Option Addr) (n c : Nat) (L : Option Addr) (m lc : Nat) (p : PapV) : Prop where
  hn : p.hs.length = n
  hm : p.ls.length = m
  hold : RdV w A (holds p.hs)
  left : RdV w L (ints p.ls)
  cap : m ≤ lc
  n13 : n ≤ 13
  m13 : m ≤ 13
theorem PapQ.later {w w' : World} {A L : Option Addr} {n c m lc : Nat} {p : PapV} (h : PapQ w A n c L m lc p) (hb : Below w.heap.size w w') : PapQ w' A n c L m lc p := ⟨h.hn, h.hm, h.hold.below hb, h.left.below hb, h.cap, h.n13, h.m13⟩
theorem papQ_own {w : World} {b1 b2 n c m lc : Nat} {A L : Option Addr} {p : PapV} (hn : p.hs.length = n) (hm : p.ls.length = m) (h1 : n ≤ 13) (h2 : m ≤ 13) (o1 : w.ownsRow b1 38 2 (.slice A n c) n (holds p.hs)) (o2 : w.ownsRow b2 3 1 (.slice L m lc) m (ints p.ls)) : PapQ w A n c L m lc p := ⟨hn, hm, own_rd o1, own_rd o2, own_cap2 o2, h1, h2⟩
theorem paperDo_sm (p : PapV) (k x m : Int) : (paperDo p k x m).1.hs.length ≤ 12 ∧ (paperDo p k x m).1.ls.length ≤ 12 := by
  unfold paperDo
  by_cases h : papOkV p = true
  · rw [if_pos h]
    have := papOk_iff.1 (pdo_ok h k x m)
    exact ⟨this.2.2.1, this.2.2.2⟩
  · rw [if_neg h]
    exact ⟨by simp, by simp⟩
theorem paperRun_sm (p : PapV) (ds : List DeedV) : (paperRun p ds).1.hs.length ≤ 12 ∧ (paperRun p ds).1.ls.length ≤ 12 ∧ (paperRun p ds).2.length ≤ ds.length := by
  unfold paperRun
  by_cases h : papOkV p = true
  · rw [if_pos h]
    have := papOk_iff.1 (prun_ok h ds)
    exact ⟨this.2.2.1, this.2.2.2, by rw [prun_len]; exact Nat.le_refl _⟩
  · rw [if_neg h]
    exact ⟨by simp, by simp, by simp⟩
section
variable {w : World} {A L D : Option Addr} {n c m lc : Nat} {p : PapV}
theorem implDoR {k x mk : Int} {r : PapV × Bool} (hpd : paperDo p k x mk = r) (h : PapQ w A n c L m lc p) :
    Calls Try.prog 17 #[.agg #[.slice A n c, .slice L m lc], .agg #[.int .i64 k, .int .i64 x, .int .i64 mk]] w fun e w' => ∃ A2 n2 c2 L2 m2 lc2, e = .returned (.tuple #[.agg #[.slice A2 n2 c2, .slice L2 m2 lc2], .bool r.2]) ∧ PapQ w' A2 n2 c2 L2 m2 lc2 r.1 ∧ Below w.heap.size w w' := by
  have h1 := h.n13
  have h2 := h.m13
  refine (implPaperDo A L n c m lc p.hs p.ls k x mk w h.hn h.hm h.hold h.left (by omega) (by omega)).mono ?_
  rintro e w' ⟨_, rfl, A2, c2, L2, lc2, rfl, o1, o2, hb⟩
  have hs := paperDo_sm p k x mk
  have e1 : paperDo ⟨p.hs, p.ls⟩ k x mk = r := hpd
  rw [hpd] at hs
  rw [e1] at o1 o2 ⊢
  exact ⟨A2, _, c2, L2, _, lc2, rfl, papQ_own rfl rfl (by omega) (by omega) o1 o2, hb⟩
theorem specDoR {k x mk : Int} {r : PapV × Bool} (hpd : paperDo p k x mk = r) (h : PapQ w A n c L m lc p) :
    Calls Try.prog 18 #[.agg #[.slice A n c, .slice L m lc], .agg #[.int .i64 k, .int .i64 x, .int .i64 mk]] w fun e w' => ∃ A2 n2 c2 L2 m2 lc2, e = .returned (.tuple #[.agg #[.slice A2 n2 c2, .slice L2 m2 lc2], .bool r.2]) ∧ PapQ w' A2 n2 c2 L2 m2 lc2 r.1 ∧ Below w.heap.size w w' := by
  have h1 := h.n13
  have h2 := h.m13
  refine (specPaperDo A L n c m lc p.hs p.ls k x mk w h.hn h.hm h.hold h.left h.cap (by omega) (by omega)).mono ?_
  rintro e w' ⟨_, rfl, A2, c2, L2, lc2, rfl, o1, o2, hb⟩
  have hs := paperDo_sm p k x mk
  have e1 : paperDo ⟨p.hs, p.ls⟩ k x mk = r := hpd
  rw [hpd] at hs
  rw [e1] at o1 o2 ⊢
  exact ⟨A2, _, c2, L2, _, lc2, rfl, papQ_own rfl rfl (by omega) (by omega) o1 o2, hb⟩
theorem implRunR {d dc : Nat} {ds : List PaperDeedV} {r : PapV × List Bool} (hpd : paperRun p (ds.map deedV) = r) (h : PapQ w A n c L m lc p) (hd : ds.length = d) (hd1 : d ≤ 1000) (hrd : RdV w D (paperdeeds ds)) :
    Calls Try.prog 14 #[.agg #[.slice A n c, .slice L m lc], .slice D d dc] w fun e w' => ∃ A2 n2 c2 L2 m2 lc2 D2 d2 dc2, e = .returned (.tuple #[.agg #[.slice A2 n2 c2, .slice L2 m2 lc2], .slice D2 d2 dc2]) ∧ PapQ w' A2 n2 c2 L2 m2 lc2 r.1 ∧ r.2.length = d2 ∧ RdV w' D2 (bools r.2) ∧ Below w.heap.size w w' := by
  have h1 := h.n13
  have h2 := h.m13
  refine (implPaperRun A L D n c m lc d dc p.hs p.ls ds w h.hn h.hm hd h.hold h.left hrd (by omega) (by omega) (by omega)).mono ?_
  rintro e w' ⟨_, rfl, A2, c2, L2, lc2, D2, dc2, rfl, o1, o2, o3, hb⟩
  have hs := paperRun_sm p (ds.map deedV)
  have e1 : paperRun ⟨p.hs, p.ls⟩ (ds.map deedV) = r := hpd
  rw [hpd] at hs
  rw [e1] at o1 o2 o3 ⊢
  exact ⟨A2, _, c2, L2, _, lc2, D2, _, dc2, rfl, papQ_own rfl rfl (by omega) (by omega) o1 o2, rfl, own_rd o3, hb⟩
theorem specRunR {d dc : Nat} {ds : List PaperDeedV} {r : PapV × List Bool} (hpd : paperRun p (ds.map deedV) = r) (h : PapQ w A n c L m lc p) (hd : ds.length = d) (hd1 : d ≤ 1000) (hrd : RdV w D (paperdeeds ds)) :
    Calls Try.prog 31 #[.agg #[.slice A n c, .slice L m lc], .slice D d dc] w fun e w' => ∃ A2 n2 c2 L2 m2 lc2 D2 d2 dc2, e = .returned (.tuple #[.agg #[.slice A2 n2 c2, .slice L2 m2 lc2], .slice D2 d2 dc2]) ∧ PapQ w' A2 n2 c2 L2 m2 lc2 r.1 ∧ r.2.length = d2 ∧ RdV w' D2 (bools r.2) ∧ Below w.heap.size w w' := by
  have h1 := h.n13
  have h2 := h.m13
  refine (specPaperRun A L D n c m lc d dc p.hs p.ls ds w h.hn h.hm hd h.hold h.left hrd (by omega) (by omega) (by omega)).mono ?_
  rintro e w' ⟨_, rfl, A2, c2, L2, lc2, D2, dc2, rfl, o1, o2, o3, hb⟩
  have hs := paperRun_sm p (ds.map deedV)
  have e1 : paperRun ⟨p.hs, p.ls⟩ (ds.map deedV) = r := hpd
  rw [hpd] at hs
  rw [e1] at o1 o2 o3 ⊢
  exact ⟨A2, _, c2, L2, _, lc2, D2, _, dc2, rfl, papQ_own rfl rfl (by omega) (by omega) o1 o2, rfl, own_rd o3, hb⟩
theorem implFreeR {x : Int} {zs : List PaperDeedV} (hz : freeD p x = zs) (h : PapQ w A n c L m lc p) :
    Calls Try.prog 15 #[.agg #[.slice A n c, .slice L m lc], .int .i64 x] w fun e w' => ∃ D d dc, e = .returned (.slice D d dc) ∧ zs.length = d ∧ RdV w' D (paperdeeds zs) ∧ Below w.heap.size w w' := by
  have h1 := h.n13
  have h2 := h.m13
  refine (implFreeDeeds A L n c m lc p.hs p.ls x w h.hn h.hm h.hold h.left (by omega) (by omega)).mono ?_
  rintro e w' ⟨_, rfl, D, dc, rfl, o1, hb⟩
  have e1 : freeD ⟨p.hs, p.ls⟩ x = zs := hz
  rw [e1] at o1 ⊢
  exact ⟨D, _, dc, rfl, rfl, own_rd o1, hb⟩
theorem specFreeR {x : Int} {zs : List PaperDeedV} (hz : freeD p x = zs) (h : PapQ w A n c L m lc p) :
    Calls Try.prog 22 #[.agg #[.slice A n c, .slice L m lc], .int .i64 x] w fun e w' => ∃ D d dc, e = .returned (.slice D d dc) ∧ zs.length = d ∧ RdV w' D (paperdeeds zs) ∧ Below w.heap.size w w' := by
  have h1 := h.n13
  have h2 := h.m13
  refine (specFreeDeeds A L n c m lc p.hs p.ls x w h.hn h.hm h.hold h.left (by omega) (by omega)).mono ?_
  rintro e w' ⟨_, rfl, D, dc, rfl, o1, hb⟩
  have e1 : freeD ⟨p.hs, p.ls⟩ x = zs := hz
  rw [e1] at o1 ⊢
  exact ⟨D, _, dc, rfl, rfl, own_rd o1, hb⟩
theorem implMarksR {x g : Int} (hg : marksOf p.hs x = g) (h : PapQ w A n c L m lc p) :
    Calls Try.prog 10 #[.agg #[.slice A n c, .slice L m lc], .int .i64 x] w fun e w' => e = .returned (.int .i64 g) ∧ Below w.heap.size w w' := by
  have h1 := h.n13
  subst hg
  exact implMarksOf A n c p.hs L m lc x w h.hn h.hold (by omega)
theorem specMarksR {x g : Int} (hg : marksOf p.hs x = g) (h : PapQ w A n c L m lc p) :
    Calls Try.prog 11 #[.agg #[.slice A n c, .slice L m lc], .int .i64 x] w fun e w' => e = .returned (.int .i64 g) ∧ Below w.heap.size w w' := by
  have h1 := h.n13
  subst hg
  exact specMarksOf A n c p.hs L m lc x w h.hn h.hold (by omega)
theorem implValidR {b : Bool} (hg : papOkV p = b) (h : PapQ w A n c L m lc p) :
    Calls Try.prog 20 #[.agg #[.slice A n c, .slice L m lc]] w fun e w' => e = .returned (.bool b) ∧ Below w.heap.size w w' := by
  have h1 := h.n13
  have h2 := h.m13
  subst hg
  exact implPapersValid A L n c m lc p.hs p.ls w h.hn h.hm h.hold h.left (by omega) (by omega)
theorem specValidR {b : Bool} (hg : papOkV p = b) (h : PapQ w A n c L m lc p) :
    Calls Try.prog 12 #[.agg #[.slice A n c, .slice L m lc]] w fun e w' => e = .returned (.bool b) ∧ Below w.heap.size w w' := by
  have h1 := h.n13
  have h2 := h.m13
  subst hg
  exact specPapersValid A L n c m lc p.hs p.ls w h.hn h.hm h.hold h.left (by omega) (by omega)
theorem sameR {A2 L2 : Option Addr} {n2 c2 m2 lc2 : Nat} {p2 : PapV} {b : Bool} (hb : (decide (p.hs = p2.hs) && decide (p.ls = p2.ls)) = b) (h : PapQ w A n c L m lc p) (h' : PapQ w A2 n2 c2 L2 m2 lc2 p2) :
    Calls Try.prog 19 #[.agg #[.slice A n c, .slice L m lc], .agg #[.slice A2 n2 c2, .slice L2 m2 lc2]] w fun e w' => e = .returned (.bool b) ∧ Below w.heap.size w w' := by
  have h1 := h.n13
  have h2 := h.m13
  have h3 := h'.n13
  have h4 := h'.m13
  subst hb
  exact samePapers_any A L A2 L2 p.hs p2.hs p.ls p2.ls n c m lc n2 c2 m2 lc2 h.hn h.hm h'.hn h'.hm w h.hold h.left h'.hold h'.left (by omega) (by omega) (by omega) (by omega)
end
theorem same_refl (p : PapV) : (decide (p.hs = p.hs) && decide (p.ls = p.ls)) = true := by simp
/-- the struct of papers and what it reads -/
structure PapB (w : World) (q : Nat) (A : Option Addr) (n c : Nat) (L : Option Addr) (m lc : Nat) (p : PapV) : Prop where
  blk : Blk w q 26 [.slice A n c, .slice L m lc]
  rd : PapQ w A n c L m lc p
theorem PapB.later {w w' : World} {q : Nat} {A L : Option Addr} {n c m lc : Nat} {p : PapV} (h : PapB w q A n c L m lc p) (hb : Below w.heap.size w w') : PapB w' q A n c L m lc p := ⟨h.blk.later hb, h.rd.later hb⟩
theorem PapB.new {w : World} {A L : Option Addr} {n c m lc : Nat} {p : PapV} (h : PapQ w A n c L m lc p) : PapB (w.alloc (.cells #[.slice A n c, .slice L m lc] 26)) w.heap.size A n c L m lc p := ⟨Blk.new _ _ _, h.later ((Below.refl _ _).alloc (Nat.le_refl _) _)⟩
end Go.Proofs.Ytpkbipjnobfcdaa
