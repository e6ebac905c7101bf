/- FnSegmentText returns true, for every code; no condition. -/
import Derived.Test.YtljbbhipdfnppaaSegW
import Derived.Test.YtljbbhipdfnppaaDrawStream
import Derived.Test.YtljbbhipdfnppaaSameSeg
import Derived.Test.YtljbbhipdfnppaaAlive
namespace Go.Proofs.Ytljbbhipdfnppaa
open Go Go.ChangeShapes Go.WideShapes Go.ChangeAt Go.RowKit
set_option linter.unusedVariables false
def untx (ess : List (List ByteArray)) : List (List (List UInt8)) := ess.map (·.map (·.data.toList))
theorem bA_of (s : ByteArray) : bA s.data.toList = s := by cases s; simp [bA]
theorem tx_untx (ess : List (List ByteArray)) : tx (untx ess) = ess := by
  simp only [tx, untx, List.map_map]
  conv => rhs; rw [← List.map_id ess]
  congr 1
  funext ps
  simp only [Function.comp, List.map_map, id]
  conv => rhs; rw [← List.map_id ps]
  congr 1
theorem rd_text {tag : ByteArray} {ess : List (List ByteArray)} (h : segOk tag ess = true) (r : List UInt8) : rdSeg (segText tag ess ++ r) = some (untx ess, (segText tag ess).length) := by
  have := rdSeg_text (tag := tag.data.toList) (E := untx ess) (by rw [bA_of, tx_untx]; exact h) r
  rw [bA_of, tx_untx] at this
  exact this
theorem segText_pos {tag : ByteArray} {ess : List (List ByteArray)} (h : segOk tag ess = true) : 4 ≤ (segText tag ess).length ∧ (segText tag ess).take 3 = tag.data.toList := by
  obtain ⟨h1, _, _⟩ := segOk_parts h
  have e : segText tag ess = segUpto tag ess ess.length ++ [39] := by unfold segText; rw [if_pos h]
  have e2 := segUpto_flat tag ess ess.length (Nat.le_refl _)
  rw [e, e2]
  refine ⟨by simp only [List.length_append, List.length_singleton]; omega, ?_⟩
  rw [List.append_assoc, List.take_append_of_le_length (by omega), List.take_of_length_le (by omega)]
theorem rd_prefix {tag : ByteArray} {ess : List (List ByteArray)} (h : segOk tag ess = true) {k : Nat} (hk : k < (segText tag ess).length) : rdSeg ((segText tag ess).take k) = none := by
  cases hs : rdSeg ((segText tag ess).take k) with
  | none => rfl
  | some x =>
    obtain ⟨E', n'⟩ := x
    obtain ⟨h1, h2, h3, h4⟩ := rdSeg_ok hs
    have hn' : n' ≤ k := by rw [List.length_take] at h3; omega
    have h5 := rdSeg_text h4 ((segText tag ess).drop n')
    have h6 : ((segText tag ess).take k).take n' = (segText tag ess).take n' := by rw [List.take_take, Nat.min_eq_left hn']
    rw [h1, h6, List.take_append_drop] at h5
    have h7 := rd_text h []
    rw [List.append_nil] at h7
    rw [h7] at h5
    simp only [Option.some.injEq, Prod.mk.injEq, List.length_take] at h5
    omega
set_option maxRecDepth 100000 in
set_option maxHeartbeats 4000000 in
theorem walkFnSegmentText (w : World) (A : Option Addr) (n c : Nat) (bs : List Int) (h : Code w A n c bs) :
    Calls Try.prog 4 #[.slice A n c] w fun e w' => e = .returned (.bool true) ∧ Below w.heap.size w w' := by
  by_cases hn : n ≤ 1048576
  · go_enter Try.func4, Try.ntmps4
    go_wp2_with fail
    refine (drawSegmentText_any A n c bs w h).mono ?_
    rintro e w1 ⟨_, rfl, tag, XA, xc, ess, rfl, hO, hL, hb1⟩
    have hal : Below w1.heap.size w1 (w1.alloc (.cells #[.string tag, .slice XA ess.length xc] 25)) := (Below.refl _ _).alloc (Nat.le_refl _) _
    have hX0 : Blk (w1.alloc (.cells #[.string tag, .slice XA ess.length xc] 25)) w1.heap.size 25 [.string tag, .slice XA ess.length xc] := Blk.new _ _ _
    have O2 := Lib.hid (hO.later hal)
    have B2 := Lib.hid (below_trans hb1 hal)
    have hn4 : ess.length ≤ 4 := hL.2.1
    have HIN : Hid (∀ zs ∈ ess, zs.length ≤ 1099511627776) := Lib.hid (fun zs hz => by have := hL.2.2 zs hz; omega)
    generalize hm : ess.length = m at *
    have HM := Lib.hid hm
    have hTl := segText_len tag ess
    have hz : ∀ r : List UInt8, r.length ≤ 10 → (txt (segText tag ess ++ r)).size ≤ 1073741824 := fun r hr => by rw [txt_size, List.length_append]; omega
    have hpos := fun h => (segText_pos (tag := tag) (ess := ess) h).1
    have hpre := fun h k hk => rd_prefix (tag := tag) (ess := ess) h (k := k) hk
    have htx := fun h r => rd_text (tag := tag) (ess := ess) h r
    have hta := fun h => (segText_pos (tag := tag) (ess := ess) h).2
    have hbad : segOk tag ess = false → segText tag ess = [] := fun h => by unfold segText; rw [h]; rfl
    have cT := fun A c w hr => implSegmentText tag A m c ess w hm hr (by omega)
    have cU := fun A c w hr => specSegmentText tag A m c ess w hm hr (by omega)
    have CT := Lib.hid cT
    have CU := Lib.hid cU
    have HPRE := Lib.hid hpre
    have HTX := Lib.hid htx
    have HTA := Lib.hid hta
    have HBAD := Lib.hid hbad
    have HPOS := Lib.hid hpos
    have HZ := Lib.hid hz
    clear hal hO hb1 hm h hL hn cT cU hpre htx hta hbad hpos hz
    generalize segText tag ess = T at *
    have x0 := hX0.cellAt 0 (by simp)
    have x1 := hX0.cellAt 1 (by simp)
    simp only [List.getElem_cons_zero, List.getElem_cons_succ] at x0 x1
    go_wp2_with fail
    generalize w1.alloc (.cells #[.string tag, .slice XA m xc] 25) = w2 at *
    generalize w1.heap.size = q at *
    refine (CT.out XA xc _ O2.out.rd).mono ?_
    rintro e w3 ⟨rfl, b3⟩
    have O3 := Lib.hid (O2.out.later b3)
    have B3 := Lib.hid (below_trans B2.out b3)
    have hX3 := hX0.later b3
    clear b3 hX0 O2 B2 x0 x1
    have x0 := hX3.cellAt 0 (by simp)
    have x1 := hX3.cellAt 1 (by simp)
    simp only [List.getElem_cons_zero, List.getElem_cons_succ] at x0 x1
    have hTT : (T == T) = true := by simp
    go_wp2_with fail
    refine (CU.out XA xc _ O3.out.rd).mono ?_
    rintro e w4 ⟨rfl, b4⟩
    have O4 := Lib.hid (O3.out.later b4)
    have B4 := Lib.hid (below_trans B3.out b4)
    have hX4 := hX3.later b4
    clear b4 hX3 O3 B3 x0 x1
    have x0 := hX4.cellAt 0 (by simp)
    have x1 := hX4.cellAt 1 (by simp)
    simp only [List.getElem_cons_zero, List.getElem_cons_succ] at x0 x1
    have HX4 := Lib.hid hX4
    clear hX4
    cases hok : segOk tag ess with
    | false =>
      have hT0 := HBAD.out hok
      subst hT0
      have HOK := Lib.hid hok
      clear hok
      go_wp2_with fail
      refine (implSegmentValid tag XA m xc ess _ HM.out O4.out.rd (by omega)).mono ?_
      rintro e w5 ⟨rfl, b5⟩
      rw [HOK.out]
      have B5 := Lib.hid (below_trans B4.out b5)
      clear b5 x0 x1
      go_wp2_with fail
      refine (alive_any _).mono ?_
      rintro e w' ⟨rfl, rfl⟩
      go_wp2_with fail
      go_ret
      exact ⟨rfl, B5.out⟩
    | true =>
      have hp := HPOS.out hok
      have HOK := Lib.hid hok
      have hTe : T.isEmpty = false := by cases T with
        | nil => simp at hp
        | cons a b => rfl
      have hTe2 : (T == []) = false := by cases T with
        | nil => simp at hp
        | cons a b => rfl
      have hcat := run_cat (P := Try.prog) T [65, 66, 67, 43, 55, 39, 63] (by simp; omega)
      have hrd := implRd (txt (T ++ [65, 66, 67, 43, 55, 39, 63])) 
      have hcR := fun w => segRd (tg := tag) (ess := ess) (m := m) (N := T.length) (l := T ++ [65, 66, 67, 43, 55, 39, 63]) (implRd (txt (T ++ [65, 66, 67, 43, 55, 39, 63])) w (HZ.out _ (by decide))) (by
        rw [HTX.out hok]
        simp only [rdT]
        rw [List.take_append_of_le_length (by omega), HTA.out hok, bA_of]) (by rw [HTX.out hok]; exact tx_untx ess) HM.out (by rw [HTX.out hok]; rfl)
      have HCR := Lib.hid hcR
      have hTl2 : ((T.length : Int) != (T.length : Int)) = false := by simp
      clear hok hrd hcR
      go_wp2_with fail
      refine (HCR.out _).mono ?_
      rintro e w5 ⟨_, rfl, A5, c5, rfl, O5, b5⟩
      have hal : Below w5.heap.size w5 (w5.alloc (.cells #[.string tag, .slice A5 m c5] 25)) := (Below.refl _ _).alloc (Nat.le_refl _) _
      have hY : Blk (w5.alloc (.cells #[.string tag, .slice A5 m c5] 25)) w5.heap.size 25 [.string tag, .slice A5 m c5] := Blk.new _ _ _
      have bx := below_trans b5 hal
      have O6 := Lib.hid (O4.out.later bx)
      have U6 := Lib.hid (O5.later hal)
      have B6 := Lib.hid (below_trans B4.out bx)
      have hX6 := HX4.out.later bx
      clear x0 x1 b5 hal bx O5 O4 B4 HX4
      have x0 := hX6.cellAt 0 (by simp)
      have x1 := hX6.cellAt 1 (by simp)
      have y0 := hY.cellAt 0 (by simp)
      have y1 := hY.cellAt 1 (by simp)
      simp only [List.getElem_cons_zero, List.getElem_cons_succ] at x0 x1 y0 y1
      clear hX6 hY
      go_wp2_with fail
      generalize w5.alloc (.cells #[.string tag, .slice A5 m c5] 25) = w6 at *
      refine (sameSegment_any tag A5 XA ess m c5 xc HM.out _ U6.out.rd O6.out.rd (by omega) HIN.out).mono ?_
      rintro e w7 ⟨rfl, b7⟩
      have B7 := Lib.hid (below_trans B6.out b7)
      clear x0 x1 y0 y1 b7 O6 U6 B6
      go_wp2_with fail
      go_loopw [7, 8, 9] (fun i _ _ wr => ∃ k : Nat, k ≤ T.length ∧ i = .int .i64 k ∧ Below w.heap.size w wr) (fun i _ _ _ => T.length - (intOf i).toNat)
      case atStart => exact ⟨0, Nat.zero_le _, rfl, B7.out⟩
      case round =>
        obtain ⟨k, hk, rfl, hb⟩ := hrel
        by_cases hlt : k < T.length
        · have hki : (k : Int) < (T.length : Int) := by omega
          have hup := run_upto (P := Try.prog) 9 Try.underlying9 (txt T) k (by rw [txt_size]; omega)
          rw [show (txt T).data.toList = T from by simp] at hup
          have e1 : IntKind.i64.wrap ((k : Int) + 1) = (k : Int) + 1 := IntWalk.i64_in _ (by omega)
          have hcR := fun w => implRd (txt (T.take k)) w (by rw [txt_size, List.length_take]; omega)
          rw [show (txt (T.take k)).data.toList = T.take k from by simp] at hcR
          have HCQ := Lib.hid hcR
          have HPK := Lib.hid (HPRE.out HOK.out k hlt)
          have HB := Lib.hid hb
          clear hcR hb
          generalize T.take k = tk at *
          go_wp2_with fail
          refine (HCQ.out _).mono ?_
          rintro e wz ⟨_, rfl, Az, cz, rfl, Oz, bz⟩
          have HBz := Lib.hid (below_trans HB.out (below_trans bz ((Below.refl _ _).alloc (Nat.le_refl _) (.cells #[.string (bA []), .slice Az 0 cz] 25))))
          rw [HPK.out]
          simp only [rdT, rdE, rdN]
          clear bz Oz
          go_wp2_with fail
          go_roundw
          case rel => exact ⟨k + 1, by omega, by go_num, HBz.out⟩
          case measure => simp [intOf]; omega
        · go_wp2_with fail
          go_ret
          exact ⟨rfl, hb⟩
  · obtain ⟨_, hcap, hmax, _, _⟩ := h
    go_enter Try.func4, Try.ntmps4
    go_wp2_with fail
    go_ret
    exact ⟨rfl, Below.refl _ _⟩
end Go.Proofs.Ytljbbhipdfnppaa
