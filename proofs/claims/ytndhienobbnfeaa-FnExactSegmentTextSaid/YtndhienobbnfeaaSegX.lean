/- What the exact laws do with a segment: its size, a copy, whether two are equal; what a row's reading gives. -/
import Derived.Test.YtndhienobbnfeaaSzS
import Derived.Test.YtndhienobbnfeaaStr
namespace Go.Proofs.Ytndhienobbnfeaa
open Go Go.ChangeShapes Go.WideShapes Go.ChangeAt Go.RowKit
/-- a segment as it came in -/
structure SegIn (w : World) (tag : ByteArray) (A : Option Addr) (n c : Nat) (ess : List (List ByteArray)) : Prop where
  tag : tag.size ≤ 9223372036854775807
  len : ess.length = n
  rd : RdRR w A (strss ess)
  max : n ≤ 9223372036854775807
  txt : ∀ zs ∈ ess, ∀ p ∈ zs, p.size ≤ 9223372036854775807
theorem SegIn.below {w w' : World} {tag : ByteArray} {A : Option Addr} {n c : Nat} {ess : List (List ByteArray)} (h : SegIn w tag A n c ess) (hb : Below w.heap.size w w') : SegIn w' tag A n c ess := ⟨h.tag, h.len, h.rd.below hb, h.max, h.txt⟩
theorem SegIn.drew {w : World} {tag : ByteArray} {A : Option Addr} {n c : Nat} {ess : List (List ByteArray)} (h : SegIn w tag A n c ess) : SegIn w.drew tag A n c ess := h.below (Below.drew (Below.refl _ _))
/-- none of it is great -/
def SegSmall (tag : ByteArray) (n : Nat) (ess : List (List ByteArray)) : Prop := tag.size ≤ 1048576 ∧ n ≤ 1048576 ∧ ∀ zs ∈ ess, zs.length ≤ 1048576 ∧ ∀ p ∈ zs, p.size ≤ 1048576
theorem SegSmall.rows {tag : ByteArray} {n : Nat} {ess : List (List ByteArray)} (h : SegSmall tag n ess) : ∀ zs ∈ ess, zs.length ≤ 1099511627776 := fun zs hz => Nat.le_trans (h.2.2 zs hz).1 (by decide)
theorem szSegment_any (tag : ByteArray) (A : Option Addr) (n c : Nat) (ess : List (List ByteArray)) (w : World) (h : SegIn w tag A n c ess) :
    Calls Try.prog 17 #[.agg #[.string tag, .slice A n c], .int .i64 1048576] w (RInt fun r w' => (0 ≤ r → SegSmall tag n ess) ∧ Below w.heap.size w w') := by
  obtain ⟨h1, h2, h3, h4, h5⟩ := h
  have H2 := Lib.hid h2
  have H5 := Lib.hid h5
  have hbl : Below w.heap.size w (w.alloc (.cells #[.string tag, .slice A n c] 30)) := (Below.refl _ _).alloc (Nat.le_refl _) _
  have HBL := Lib.hid hbl
  have h3' := h3.below hbl
  clear h2 h5 h3 hbl
  by_cases hs : tag.size ≤ 1048576
  · go_enter Try.func17, Try.ntmps17
    go_wp2_with fail
    refine (szStringSS_any A ess n c H2.out _ h3' h4 H5.out _ (by omega) (by omega)).mono ?_
    rintro e w' ⟨r, rfl, hr1, hr2, rfl⟩
    have HR : Hid (0 ≤ r → SegSmall tag n ess) := Lib.hid fun h => by
      obtain ⟨a1, a2⟩ := hr2 h
      exact ⟨hs, by omega, fun zs hz => ⟨by have := (a2 zs hz).1; omega, fun p hp => by have := (a2 zs hz).2 p hp; omega⟩⟩
    clear hr2
    by_cases h0 : 0 ≤ r
    · have := HR.out h0
      go_wp2_with fail
      go_ret
      exact RInt.mk ⟨HR.out, HBL.out⟩
    · go_wp2_with fail
      go_ret
      exact RInt.mk ⟨fun h => by omega, HBL.out⟩
  · go_enter Try.func17, Try.ntmps17
    go_wp2_with fail
    go_ret
    exact RInt.mk ⟨fun h => by omega, HBL.out⟩
/-- a segment in memory of the call's own -/
def SegOut (w : World) (tag : ByteArray) (n : Nat) (ess : List (List ByteArray)) : Ending → World → Prop :=
  RVal fun u w' => ∃ A c, u = .agg #[.string tag, .slice A n c] ∧ OwnRR w' w.heap.size w'.heap.size 38 9 (.slice A n c) (strss ess) ∧ Below w.heap.size w w'
set_option maxHeartbeats 1000000 in
theorem toSegment_any (tag : ByteArray) (A : Option Addr) (n c : Nat) (ess : List (List ByteArray)) (w : World) (h : SegIn w tag A n c ess) (hs : SegSmall tag n ess) :
    Calls Try.prog 19 #[.agg #[.string tag, .slice A n c]] w (SegOut w tag n ess) := by
  obtain ⟨h1, h2, h3, h4, h5⟩ := h
  have H2 := Lib.hid h2
  have hbl : Below w.heap.size w (((w.alloc (.cells #[.string tag, .slice A n c] 30)).alloc (.cells #[.string ⟨#[]⟩, .slice none 0 0] 33)).alloc (.cells #[.string tag, .slice none 0 0] 33)) := (((Below.refl _ _).alloc (Nat.le_refl _) _).alloc (by simp) _).alloc (by simp; omega) _
  have HBL := Lib.hid hbl
  have h3' := h3.below hbl
  clear h2 h5 h3 hbl
  go_enter Try.func19, Try.ntmps19
  go_wp2_with fail
  refine (toStringSS_any A ess n c H2.out _ h3' hs.2.1 (fun zs hz => (hs.2.2 zs hz).1)).mono ?_
  rintro e w1 ⟨rfl, ho, hb1⟩
  obtain ⟨hc, hf⟩ := bcell hb1
  have hz : w.heap.size + 1 + 1 + 1 ≤ w1.heap.size := by have := hb1.size; simp at this; omega
  simp only [World.size_alloc] at ho
  have HO := Lib.hid ho
  have HB := Lib.hid hb1
  clear ho hb1 h3'
  go_wp2_with fail
  refine bodyPost_ret (v := .agg #[.string tag, .slice (some ⟨w.heap.size + 1 + 1 + 1, 0, none⟩) n n]) (by simp [results, Try.results19, go_sem, hc]) rfl ?_
  have hO : Out w.heap.size (w.heap.size + 1 + 1 + 1) w1 (((w1.setCell ⟨w.heap.size + 1 + 1, 1, none⟩ (.slice (some ⟨w.heap.size + 1 + 1 + 1, 0, none⟩) n n)).setCell ⟨w.heap.size + 1, 0, none⟩ (.string tag)).setCell ⟨w.heap.size + 1, 1, none⟩ (.slice (some ⟨w.heap.size + 1 + 1 + 1, 0, none⟩) n n)) :=
    out_set (out_set (out_set (Out.refl _ _ _) _ _ _ (by omega) (by omega)) _ _ _ (by omega) (by omega)) _ _ _ (by omega) (by omega)
  have hbb : Below w.heap.size w w1 := HBL.out.trans (HB.out.mono (by simp; omega))
  exact RVal.mk ⟨_, _, rfl, ((HO.out.out hO (.inr (Nat.le_refl _))).base (by omega)).hi hO.size (Nat.le_refl _), below_out hbb hO (Nat.le_refl _)⟩
set_option maxHeartbeats 1000000 in
theorem eqSegment_any (tag : ByteArray) (A B : Option Addr) (n c d : Nat) (ess : List (List ByteArray)) (w : World) (hn : ess.length = n) (ha : RdRR w A (strss ess)) (hb : RdRR w B (strss ess)) (hm : n ≤ 1099511627776) (hin : ∀ zs ∈ ess, zs.length ≤ 1099511627776) :
    Calls Try.prog 21 #[.agg #[.string tag, .slice A n c], .agg #[.string tag, .slice B n d]] w fun e w' => e = .returned (.bool true) ∧ Below w.heap.size w w' := by
  have HN := Lib.hid hn
  have HI := Lib.hid hin
  have hbl : Below w.heap.size w ((w.alloc (.cells #[.string tag, .slice A n c] 33)).alloc (.cells #[.string tag, .slice B n d] 33)) := ((Below.refl _ _).alloc (Nat.le_refl _) _).alloc (by simp) _
  have HBL := Lib.hid hbl
  have ha' := ha.below hbl
  have hb' := hb.below hbl
  clear hn hin hbl ha hb
  go_enter Try.func21, Try.ntmps21
  go_wp2_with fail
  refine (eqStringSS_any A B ess n c d HN.out _ ha' hb' hm HI.out).mono ?_
  rintro e w1 ⟨rfl, hb1⟩
  go_wp2_with fail
  go_ret
  exact ⟨rfl, below_trans HBL.out hb1⟩
end Go.Proofs.Ytndhienobbnfeaa
