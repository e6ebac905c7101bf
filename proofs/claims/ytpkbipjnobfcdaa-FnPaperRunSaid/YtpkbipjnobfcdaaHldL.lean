/- The library's functions on lists of holds: Clone, BinarySearchFunc, Insert, Delete. -/
import Derived.Test.YtpkbipjnobfcdaaSpl
import Derived.Lib.SliceRun
import Derived.Test.YtpkbipjnobfcdaaHldK
namespace Go.Proofs.Ytpkbipjnobfcdaa
open Go Go.ChangeShapes Go.WideShapes Go.ChangeAt Go.RowKit
theorem rd_none {w : World} {zs : List HoldV} (h : RdV w none (holds zs)) : zs = [] := by
  rcases h with h | ⟨b, off, e, _⟩
  · have := holds_len zs
    rw [h] at this
    exact List.eq_nil_of_length_eq_zero (by simp at this; omega)
  · cases e
theorem eqn_hold (w : World) (a : Option Addr) (n c n' c' : Nat) : (binOp .eql 23 (.slice a n c) (.slice none n' c')).run Try.prog w = .ok (.bool a.isNone) w := Lib.run_eql_slice_nil w _ _ a n c n' c' Try.underlying23
theorem clone_hold (A : Option Addr) (n c : Nat) (zs : List HoldV) (w : World) (hn : zs.length = n) (hr : RdV w A (holds zs)) (hm : n ≤ 1048576) :
    Calls Try.prog 73 #[.slice A n c] w (RVal fun u w' => ∃ A' c', u = .slice A' n c' ∧ w'.ownsRow w.heap.size 38 2 (.slice A' n c') n (holds zs) ∧ Below w.heap.size w w') := by
  have HN := Lib.hid hn
  have qe := eqn_hold
  rcases A with _ | ad
  · have h0 := rd_none hr
    subst h0
    have hn0 : n = 0 := by simpa using hn.symm
    subst hn0
    clear hn
    go_enter Try.func73, Try.ntmps73
    go_wp2_with fail
    go_ret
    exact RVal.mk ⟨none, 0, rfl, World.ownsRow_nil _ _ _ _, Below.refl _ _⟩
  · have hml : (holds zs).length = n * 2 := by rw [holds_len, HN.out]
    have HML := Lib.hid hml
    clear hn hml
    have hown : (w.alloc (.cells #[] 38)).ownsRow w.heap.size 38 2 (.slice (some ⟨w.heap.size, 0, none⟩) 0 0) 0 [] := own_of_blk (cs := []) (Blk.new _ _ _) (Nat.le_refl _) rfl (by decide)
    have hal : Below w.heap.size w (w.alloc (.cells #[] 38)) := (Below.refl _ _).alloc (Nat.le_refl _) _
    go_enter Try.func73, Try.ntmps73
    go_wp2_with (at_builtin; refine append_src rfl (.tmp 5) (.tmp 6) 23 rfl 38 _ _ _ Try.underlying23 hold_infoD w.heap.size _ _ 0 [] rfl hown (some ad) n c (holds zs) rfl HML.out (hr.below hal) (holds_cell _) (by omega) (by simp) ?_; intro v' w6 hown6 hg6 hblk6)
    go_ret
    rw [Nat.zero_add, List.nil_append] at hown6
    obtain ⟨A6, c6, rfl, _, _⟩ := own_slice hown6
    exact RVal.mk ⟨A6, c6, rfl, hown6, below_append hal hg6 hown rfl⟩
theorem isNaN_any (a : Int) (w : World) : Calls Try.prog 93 #[.int .i64 a] w fun e w' => e = .returned (.bool false) ∧ w = w' := by
  have h : (a != a) = false := by simp
  go_enter Try.func93, Try.ntmps93
  go_wp2_with fail
  go_ret
  exact ⟨rfl, rfl⟩
def cmpI (a b : Int) : Int := if a < b then -1 else if b < a then 1 else 0
/-- cmp.Compare at integers -/
theorem compare_any (a b : Int) (w : World) : Calls Try.prog 85 #[.int .i64 a, .int .i64 b] w fun e w' => e = .returned (.int .i64 (cmpI a b)) ∧ w = w' := by
  by_cases h1 : a < b
  · have hc : cmpI a b = -1 := by simp [cmpI, h1]
    have HC := Lib.hid hc
    clear hc
    go_enter Try.func85, Try.ntmps85
    go_wp2_with (go_at_call 93; refine (isNaN_any _ _).mono ?_; rintro e w' ⟨rfl, rfl⟩)
    go_ret
    exact ⟨ret_int HC.out.symm, rfl⟩
  · by_cases h2 : b < a
    · have hc : cmpI a b = 1 := by simp [cmpI, h1, h2]
      have HC := Lib.hid hc
      clear hc
      go_enter Try.func85, Try.ntmps85
      go_wp2_with (go_at_call 93; refine (isNaN_any _ _).mono ?_; rintro e w' ⟨rfl, rfl⟩)
      go_ret
      exact ⟨ret_int HC.out.symm, rfl⟩
    · have hc : cmpI a b = 0 := by simp [cmpI, h1, h2]
      have HC := Lib.hid hc
      clear hc
      go_enter Try.func85, Try.ntmps85
      go_wp2_with (go_at_call 93; refine (isNaN_any _ _).mono ?_; rintro e w' ⟨rfl, rfl⟩)
      go_ret
      exact ⟨ret_int HC.out.symm, rfl⟩
theorem set1_any (x0 x1 b : Int) (w : World) : Calls Try.prog 84 #[.agg #[.int .i64 x0, .int .i64 x1], .int .i64 b] w fun e w' => e = .returned (.int .i64 (cmpI x0 b)) ∧ Below w.heap.size w w' := by
  go_enter Try.func84, Try.ntmps84
  go_wp2_with (go_at_call 85; refine (compare_any _ _ _).mono ?_; rintro e w' ⟨rfl, rfl⟩)
  go_ret
  exact ⟨rfl, (Below.refl _ _).alloc (Nat.le_refl _) _⟩
theorem cmpI_neg {a b : Int} (h : a < b) : cmpI a b = -1 := by simp [cmpI, h]
theorem cmpI_zero {a : Int} : cmpI a a = 0 := by simp [cmpI]
theorem cmpI_pos {a b : Int} (h : b < a) : cmpI a b = 1 := by simp [cmpI, h]; omega
/-- where the first message lies that is not less -/
def AtH (zs : List HoldV) (x : Int) (i : Nat) : Prop := i ≤ zs.length ∧ (∀ t (h : t < zs.length), t < i → (zs[t]).f0 < x) ∧ (∀ t (h : t < zs.length), i ≤ t → x ≤ (zs[t]).f0)
def FoundH (zs : List HoldV) (x : Int) (i : Nat) : Bool := match zs[i]? with | some y => decide (y.f0 = x) | none => false
def AscH (zs : List HoldV) : Prop := ∀ s t (hs : s < zs.length) (ht : t < zs.length), s < t → (zs[s]).f0 < (zs[t]).f0
set_option maxHeartbeats 4000000 in
theorem search_hold (A : Option Addr) (n c : Nat) (zs : List HoldV) (x : Int) (w : World) (hn : zs.length = n) (hr : RdV w A (holds zs)) (hm : n ≤ 1048576) (hs : AscH zs) :
    Calls Try.prog 83 #[.slice A n c, .int .i64 x, .func (.func 84) #[] #[]] w (RVal fun u w' => ∃ i : Nat, u = .tuple #[.int .i64 i, .bool (FoundH zs x i)] ∧ AtH zs x i ∧ Below w.heap.size w w') := by
  have HN := Lib.hid hn
  have HS := Lib.hid hs
  clear hn hs
  go_enter Try.func83, Try.ntmps83
  go_wp2_with fail
  go_loopw [9, 10] (fun i j wr => ∃ lo hi : Nat, i = .int .i64 lo ∧ j = .int .i64 hi ∧ lo ≤ hi ∧ hi ≤ n ∧ Hid (∀ t (h : t < zs.length), t < lo → (zs[t]).f0 < x) ∧ Hid (∀ t (h : t < zs.length), hi ≤ t → x ≤ (zs[t]).f0) ∧ Below w.heap.size w wr) (fun i j _ => (intOf j - intOf i).toNat)
  case atStart => exact ⟨0, n, rfl, rfl, Nat.zero_le _, Nat.le_refl _, Lib.hid (fun t _ h => by omega), Lib.hid (fun t h1 h2 => by rw [HN.out] at h1; omega), Below.refl _ _⟩
  case round =>
    obtain ⟨lo, hi, rfl, rfl, hlh, hin, L1, L2, hb⟩ := hrel
    by_cases hlt : lo < hi
    · have hk : (lo + hi) / 2 < zs.length := by rw [HN.out]; omega
      obtain ⟨b, oo, rfl, hl, hc0, hc1⟩ := (hr.below hb).holdAt hk
      have HU : Hid ((zs[(lo + hi) / 2]).f0 < x → ∀ t (h : t < zs.length), t < (lo + hi) / 2 + 1 → (zs[t]).f0 < x) := Lib.hid (fun h t ht h2 => by
        rcases Nat.lt_or_ge t ((lo + hi) / 2) with h3 | h3
        · have := HS.out t _ ht hk h3
          omega
        · obtain rfl : t = (lo + hi) / 2 := by omega
          exact h)
      have HD : Hid (¬ (zs[(lo + hi) / 2]).f0 < x → ∀ t (h : t < zs.length), (lo + hi) / 2 ≤ t → x ≤ (zs[t]).f0) := Lib.hid (fun h t ht h2 => by
        rcases Nat.lt_or_ge ((lo + hi) / 2) t with h3 | h3
        · have := HS.out _ t hk ht h3
          omega
        · obtain rfl : t = (lo + hi) / 2 := by omega
          omega)
      generalize zs[(lo + hi) / 2] = y at *
      obtain ⟨y0, y1⟩ := y
      dsimp only at hc0 hc1 HU HD
      by_cases hy : y0 < x
      · have HU2 := Lib.hid (HU.out hy)
        have HC := cmpI_neg hy
        clear HU HD
        go_wp2_with (go_at_call 84; refine (set1_any _ _ _ _).mono ?_; rintro e w2 ⟨rfl, hb2⟩)
        go_roundw
        case rel => exact ⟨(lo + hi) / 2 + 1, hi, by rw [show ((lo : Int) + (hi : Int)) / 2 + 1 = (((lo + hi) / 2 + 1 : Nat) : Int) by omega], rfl, by omega, hin, HU2, L2, below_trans hb hb2⟩
        case measure => simp [intOf]; omega
      · have HD2 := Lib.hid (HD.out hy)
        have HC : 0 ≤ cmpI y0 x := by
          unfold cmpI
          split
          · omega
          · split <;> omega
        clear HU HD
        go_wp2_with (go_at_call 84; refine (set1_any _ _ _ _).mono ?_; rintro e w2 ⟨rfl, hb2⟩)
        go_roundw
        case rel => exact ⟨lo, (lo + hi) / 2, rfl, by rw [show ((lo : Int) + (hi : Int)) / 2 = (((lo + hi) / 2 : Nat) : Int) by omega], by omega, by omega, L1, HD2, below_trans hb hb2⟩
        case measure => simp [intOf]; omega
    · obtain rfl : hi = lo := by omega
      have hat : AtH zs x hi := ⟨by rw [HN.out]; exact hin, L1.out, L2.out⟩
      have HAT := Lib.hid hat
      clear hat L1 L2
      by_cases hk : hi < n
      · have hke : hi < zs.length := by rw [HN.out]; exact hk
        obtain ⟨b, oo, rfl, hl, hc0, hc1⟩ := (hr.below hb).holdAt hke
        have HF : Hid (FoundH zs x hi = decide ((zs[hi]).f0 = x)) := Lib.hid (by simp [FoundH, List.getElem?_eq_getElem hke])
        generalize zs[hi] = y at *
        obtain ⟨y0, y1⟩ := y
        dsimp only at hc0 hc1 HF
        have hki : decide ((hi : Int) < (n : Int)) = true := decide_eq_true (by omega)
        by_cases hy : y0 = x
        · have HF2 : Hid (FoundH zs x hi = true) := Lib.hid (by rw [HF.out]; exact decide_eq_true hy)
          subst hy
          have HC := cmpI_zero (a := y0)
          clear HF
          go_wp2_with (go_at_call 84; refine (set1_any _ _ _ _).mono ?_; rintro e w2 ⟨rfl, hb2⟩)
          go_ret2
          exact RVal.mk ⟨hi, by rw [HF2.out]; rfl, HAT.out, below_trans hb hb2⟩
        · have HF2 : Hid (FoundH zs x hi = false) := Lib.hid (by rw [HF.out]; exact decide_eq_false hy)
          have HC : (cmpI y0 x == 0) = false := by
            unfold cmpI
            split
            · rfl
            · split
              · rfl
              · omega
          clear HF hy
          go_wp2_with (go_at_call 84; refine (set1_any _ _ _ _).mono ?_; rintro e w2 ⟨rfl, hb2⟩)
          go_ret2
          exact RVal.mk ⟨hi, by rw [HF2.out]; rfl, HAT.out, below_trans hb hb2⟩
      · have HF2 : Hid (FoundH zs x hi = false) := Lib.hid (by simp [FoundH, List.getElem?_eq_none (show zs.length ≤ hi by rw [HN.out]; omega)])
        have hki : decide ((hi : Int) < (n : Int)) = false := decide_eq_false (by omega)
        go_wp2_with fail
        go_ret2
        exact RVal.mk ⟨hi, by rw [HF2.out]; rfl, HAT.out, hb⟩
end Go.Proofs.Ytpkbipjnobfcdaa
