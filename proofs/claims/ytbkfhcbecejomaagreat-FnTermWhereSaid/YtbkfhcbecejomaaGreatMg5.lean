/- Several texts of the proof in one; each says at its head what it proves; no condition. -/
import Derived.Test.YtbkfhcbecejomaaGreatMg3
import Derived.Test.YtbkfhcbecejomaaGreatMg4
import Derived.Test.YtbkfhcbecejomaaGreatMg1
import Derived.Test.YtbkfhcbecejomaaGreatMg2
import Derived.Test.YtbkfhcbecejomaaGreatProg
import Derived.Deep.QuietTactic
import Derived.BigQuiet
import Derived.Deep.RegionHeld3
import Derived.Deep.Quiet
section
/- The program's YardValid returns the plain word. -/
namespace Go.Proofs.YtbkfhcbecejomaaGreat
open Go Go.ChangeShapes Go.WideShapes Go.ChangeAt Go.RowKit
theorem idWf {x : Int} (h1 : 1 ≤ x) (h2 : x ≤ 999) : (Lit.int .i64 x).wf = true := by
  have h3 : IntKind.i64.min = -9223372036854775808 := by decide
  have h4 : IntKind.i64.max = 9223372036854775807 := by decide
  simp only [Lit.wf, h3, h4, Bool.and_eq_true, decide_eq_true_eq]
  omega
theorem zeroBool (w : World) : (zeroValue 4).run Tryz.prog w = .ok (.bool false) w := by kernel_rfl
/-- the map of what was seen -/
def seenF (all : List Int) : Int → Option Value := fun x => if hasI all x = true then some (.bool true) else none
theorem seenF_put (all : List Int) (x : Int) : mput (seenF all) x (.bool true) = seenF (all ++ [x]) := by
  funext y
  by_cases h : y = x
  · subst h; simp [mput, seenF, hasI]
  · simp [mput, seenF, hasI, h]
theorem seenF_get (all : List Int) (x : Int) : ((seenF all x).getD (.bool false)) = .bool (hasI all x) := by
  unfold seenF
  cases hasI all x <;> rfl
theorem seenF_nil : seenF [] = fun _ => none := by funext x; simp [seenF, hasI]
theorem inI_len {high : Int} {rows : List (List Int)} {n : Nat} (h : rows.length = n) : yardOk high rows = (inI (n : Int) 1 5 && yOk high [] rows) := by subst h; rfl
set_option maxHeartbeats 4000000 in
theorem implYardValid (high : Int) (A : Option Addr) (n c : Nat) (rows : List (List Int)) (w : World) (hn : rows.length = n) (hr : RdRR w A (intss rows)) (hm : n ≤ 9223372036854775806) :
    Calls Tryz.prog 20 #[.agg #[.int .i64 high, .slice A n c]] w fun e w' => e = .returned (.bool (yardOk high rows)) ∧ Below w.heap.size w w' := by
  have HN := Lib.hid hn
  have HOK := Lib.hid (inI_len (high := high) hn)
  clear hn
  have hbl : Below w.heap.size w (w.alloc (.cells #[.int .i64 high, .slice A n c] 25)) := (Below.refl _ _).alloc (Nat.le_refl _) _
  have hP : Blk (w.alloc (.cells #[.int .i64 high, .slice A n c] 25)) w.heap.size 25 [.int .i64 high, .slice A n c] := Blk.new _ _ _
  have hmm := @run_makeMap Tryz.prog
  go_enter Tryz.func20, Tryz.ntmps20
  go_wp2_with fail
  have hbl1 : Below w.heap.size w (w.alloc (.cells #[.int .i64 high, .slice A n c] 25)) := (Below.refl _ _).alloc (Nat.le_refl _) _
  have hsz : (w.alloc (.cells #[.int .i64 high, .slice A n c] 25)).heap.size = w.heap.size + 1 := by simp
  generalize w.alloc (.cells #[.int .i64 high, .slice A n c] 25) = w1 at *
  refine (within_any (n : Int) 1 5 _).mono ?_
  rintro e w' ⟨rfl, rfl⟩
  cases hi : inI (n : Int) 1 5 with
  | false =>
    have HF : Hid (yardOk high rows = false) := Lib.hid (by rw [HOK.out, hi]; rfl)
    clear hi
    go_wp2_with fail
    go_ret
    exact ⟨by rw [HF.out]; rfl, hbl⟩
  | true =>
    have hn5 : n ≤ 5 := by simp [inI] at hi; omega
    have HT : Hid (yardOk high rows = yOk high [] rows) := Lib.hid (by rw [HOK.out, hi]; rfl)
    have HB := Lib.hid hbl
    have HSZ := Lib.hid hsz
    have hM1 := mapI_made Tryz.prog 3 w1
    have hb2 := hbl.alloc (by omega) (.map #[] 0)
    have hP2 : Blk (w1.alloc (.map #[] 0)) w.heap.size 25 [.int .i64 high, .slice A n c] := hP.later ((Below.refl _ _).alloc (Nat.le_refl _) _)
    have d0 := hP2.cellAt 0 (by simp)
    have d1 := hP2.cellAt 1 (by simp)
    have c0 := hP.cellAt 0 (by simp)
    have c1 := hP.cellAt 1 (by simp)
    simp only [List.getElem_cons_zero, List.getElem_cons_succ] at d0 d1 c0 c1
    have hq := hP.lt
    have hq2 := hP2.lt
    clear hi hsz hbl1
    go_wp2_with fail
    go_loopw [17, 5, 7] (fun i _ _ wr => ∃ (k m : Nat), k ≤ n ∧ i = .int .i64 k ∧ m ≤ 5 * k ∧ Hid (yOk high [] rows = yOk high ((rows.take k).flatten) (rows.drop k)) ∧ MapI Tryz.prog 3 wr w1.heap.size m (seenF (rows.take k).flatten) ∧ Blk wr w.heap.size 25 [.int .i64 high, .slice A n c] ∧ Below w.heap.size w wr) (fun i _ _ _ => n - (intOf i).toNat)
    case atStart => exact ⟨0, 0, Nat.zero_le _, rfl, Nat.zero_le _, Lib.hid rfl, by simpa [seenF_nil] using hM1, hP2, hb2⟩
    case round =>
      clear c0 c1 d0 d1 hM1 hb2 hP2 hq2
      obtain ⟨k, m, hk, rfl, hmk, HY, hM, P1, hb⟩ := hrel
      have c0 := P1.cellAt 0 (by simp)
      have c1 := P1.cellAt 1 (by simp)
      simp only [List.getElem_cons_zero, List.getElem_cons_succ] at c0 c1
      have hPlt := P1.lt
      by_cases hlt : k < n
      · have hkz : k < rows.length := by rw [HN.out]; exact hlt
        have hkl : k < (intss rows).length := by rw [intss_len]; exact hkz
        obtain ⟨b, o, rfl, hl0, B, c', hcell0, hle, hmx, hrB0⟩ := hr.pos hkl
        have hl : b < wr.heap.size := Nat.lt_of_lt_of_le hl0 hb.size
        have hcell := (hb.cell (p := ⟨b, o + k, none⟩) hl0).trans hcell0
        have hrB := hrB0.below hb
        rw [intss_at] at hrB hrB0
        simp only [intss_at, ints_len] at hcell hle
        have hst := yOk_step (high := high) hkz
        rw [← HY.out] at hst
        have HST := Lib.hid hst
        have HFL : Hid ((rows.take (k + 1)).flatten = (rows.take k).flatten ++ rows[k]) := Lib.hid (by rw [List.take_succ_eq_append_getElem hkz, List.flatten_append]; simp)
        unfold maxLen at hmx
        have HR := Lib.hid hr
        generalize rows[k] = zs at *
        generalize (rows.take k).flatten = fl at *
        generalize hz : zs.length = p at *
        have HZ := Lib.hid hz
        have HRB := Lib.hid hrB0
        clear hst hz hr hcell0 hrB0 hl0 hbl
        go_wp2_with fail
        refine (implStackValid B p c' zs high _ HZ.out hrB hle (by omega)).mono ?_
        rintro e w' ⟨rfl, rfl⟩
        cases hso : stackOk zs high with
        | false =>
          have HF : Hid (yardOk high rows = false) := Lib.hid (by rw [HT.out, HST.out, hso]; rfl)
          clear hso
          go_wp2_with fail
          go_ret
          exact ⟨by rw [HF.out]; rfl, hb⟩
        | true =>
          have HS2 : Hid (yOk high [] rows = (dOk fl zs && yOk high ((rows.take (k + 1)).flatten) (rows.drop (k + 1)))) := Lib.hid (by rw [HST.out, hso]; rfl)
          obtain ⟨a1, a2, a3, a4⟩ := stackOk_parts hso
          have HID := Lib.hid (sOk_ids a1)
          have hp5 : p ≤ 5 := by have := HZ.out; omega
          clear a1 a2 a3 a4 hso
          go_wp2_with fail
          go_loopw [28, 7] (fun i _ wr2 => ∃ (j m2 : Nat), j ≤ p ∧ i = .int .i64 j ∧ m2 ≤ 5 * k + j ∧ Hid (dOk fl zs = dOk (fl ++ zs.take j) (zs.drop j)) ∧ MapI Tryz.prog 3 wr2 w1.heap.size m2 (seenF (fl ++ zs.take j)) ∧ Blk wr2 w.heap.size 25 [.int .i64 high, .slice (some ⟨b, o, none⟩) n c] ∧ RdV wr2 B (ints zs) ∧ Below w.heap.size w wr2) (fun i _ _ => p - (intOf i).toNat)
          case atStart => exact ⟨0, m, Nat.zero_le _, rfl, by omega, Lib.hid (by simp), by simpa using hM, P1, hrB, hb⟩
          case round =>
            clear c0 c1 hM P1 hb hle hrB hPlt hl hcell
            obtain ⟨j, m2, hj, rfl, hm2, HD, hM, P1, hrB, hb2⟩ := hrel
            by_cases hltj : j < p
            · have hjz : j < zs.length := by rw [HZ.out]; exact hltj
              have hjl : j < (ints zs).length := by rw [ints_len]; exact hjz
              obtain ⟨b2, o2, rfl, hl2, hc2⟩ := hrB.pos hjl
              have h1 := hc2 j hjl
              rw [ints_at] at h1
              have hst := dOk_step (p := fl) hjz
              rw [← HD.out] at hst
              have HST2 := Lib.hid hst
              have HPUT := Lib.hid (seenF_put (fl ++ zs.take j) zs[j])
              have HGET := Lib.hid (seenF_get (fl ++ zs.take j) zs[j])
              have HTK : Hid (fl ++ zs.take (j + 1) = fl ++ zs.take j ++ [zs[j]]) := Lib.hid (by rw [List.take_succ_eq_append_getElem hjz, List.append_assoc])
              obtain ⟨y1, y2⟩ := HID.out zs[j] (List.getElem_mem hjz)
              have hwf := idWf y1 y2
              generalize zs[j] = y at *
              clear hc2 hst y1 y2
              have HM := Lib.hid hM
              have hm3 : m2 < maxLen := by unfold maxLen; omega
              go_wp2_with (at_lookup; refine mapI_look _ rfl _ _ 86 rfl 3 4 Tryz.underlying3 Tryz.underlying86 (.bool false) (zeroBool _) w1.heap.size _ _ rfl hM y rfl hwf ?_)
              rw [HGET.out]
              cases hhas : hasI (fl ++ zs.take j) y with
              | true =>
                have HF : Hid (yardOk high rows = false) := Lib.hid (by rw [HT.out, HS2.out, HST2.out, hhas]; rfl)
                clear hhas
                go_wp2_with fail
                go_ret
                exact ⟨by rw [HF.out]; rfl, hb2⟩
              | false =>
                have HD2 : Hid (dOk fl zs = dOk (fl ++ zs.take (j + 1)) (zs.drop (j + 1))) := Lib.hid (by rw [HST2.out, hhas]; rfl)
                clear hhas
                go_wp2_with (refine mapI_set _ rfl (.tmp 35) (.tmp 36) _ 86 (.inl rfl) 3 4 Tryz.underlying3 Tryz.underlying86 w1.heap.size _ _ rfl hM hm3 y (.bool true) rfl rfl hwf ?_; intro w4 hM4 hg4)
                rw [HPUT.out, ← HTK.out] at hM4
                have hb4 : Below w.heap.size w w4 := hb2.grown hg4 hb2.size (fun k hk => by injection hk with hk; have := HSZ.out; omega)
                have hne : w.heap.size ≠ w1.heap.size := by have := HSZ.out; omega
                have P4 := P1.only hg4 hne
                have R4 := HRB.out.below hb4
                go_roundw
                case rel => exact ⟨j + 1, _, by omega, by go_num, by split <;> omega, HD2, hM4, P4, R4, hb4⟩
                case measure => simp [intOf]; omega
            · have hend : dOk (fl ++ zs.take j) (zs.drop j) = true := dOk_end (by rw [HZ.out]; omega)
              have HE : Hid (yOk high [] rows = yOk high ((rows.take (k + 1)).flatten) (rows.drop (k + 1))) := Lib.hid (by rw [HS2.out, HD.out, hend]; rfl)
              have htl : zs.take j = zs := List.take_of_length_le (by rw [HZ.out]; omega)
              rw [htl, ← HFL.out] at hM
              clear hend htl
              go_wp2_with fail
              go_roundw
              case rel => exact ⟨k + 1, m2, by omega, by go_num, by omega, HE, hM, P1, hb2⟩
              case measure => simp [intOf]; omega
      · have hend : yOk high ((rows.take k).flatten) (rows.drop k) = true := yOk_end (by rw [HN.out]; omega)
        have HE := Lib.hid (HT.out.trans (HY.out.trans hend))
        clear hend
        go_wp2_with fail
        go_ret
        exact ⟨by rw [HE.out]; rfl, hb⟩
end Go.Proofs.YtbkfhcbecejomaaGreat
end
section
/- YardIds: both programs return as many ids as the yard has boxes, in new memory. -/
namespace Go.Proofs.YtbkfhcbecejomaaGreat
open Go Go.ChangeShapes Go.WideShapes Go.ChangeAt Go.RowKit
set_option linter.unusedVariables false
/-- numbers put at their places, one by one -/
def insAll (zs : List Int) : List Int := zs.foldl insL []
theorem insAll_snoc (zs : List Int) (x : Int) : insAll (zs ++ [x]) = insL (insAll zs) x := by simp [insAll]
theorem insAll_len (zs : List Int) : (insAll zs).length = zs.length := by
  have h : ∀ (zs acc : List Int), (zs.foldl insL acc).length = acc.length + zs.length := by
    intro zs
    induction zs with
    | nil => intro acc; rfl
    | cons a r ih => intro acc; rw [List.foldl_cons, ih, insL_len, List.length_cons]; omega
  have := h zs []
  simpa [insAll] using this
theorem insAll_mem (zs : List Int) (b : Int) : b ∈ insAll zs ↔ b ∈ zs := by
  have h : ∀ (zs acc : List Int), b ∈ zs.foldl insL acc ↔ b ∈ acc ∨ b ∈ zs := by
    intro zs
    induction zs with
    | nil => intro acc; simp
    | cons a r ih =>
      intro acc
      rw [List.foldl_cons, ih, insL_mem, List.mem_cons]
      constructor
      · rintro ((h | h) | h)
        · exact .inr (.inl h)
        · exact .inl h
        · exact .inr (.inr h)
      · rintro (h | h | h)
        · exact .inl (.inr h)
        · exact .inl (.inl h)
        · exact .inr h
  have := h zs []
  simpa [insAll] using this
theorem srtI_len (zs : List Int) : (srtI zs).length = zs.length := by simp [srtI]
theorem srtI_mem (zs : List Int) (b : Int) : b ∈ srtI zs ↔ b ∈ zs := by simp [srtI]
/-- the ids of a yard, as each program gives them -/
def idsA (high : Int) (rows : List (List Int)) : List Int := if yardOk high rows then srtI rows.flatten else []
def idsB (high : Int) (rows : List (List Int)) : List Int := if yardOk high rows then insAll rows.flatten else []
theorem yard_tot {high : Int} {rows : List (List Int)} (h : yardOk high rows = true) : rows.flatten.length ≤ 25 := by
  obtain ⟨_, h1, _, _, h2, _⟩ := yardOk_parts h
  have gen : ∀ l : List (List Int), (∀ s ∈ l, s.length ≤ 5) → l.flatten.length ≤ 5 * l.length := by
    intro l
    induction l with
    | nil => intro _; simp
    | cons a r ih =>
      intro hl
      have h3 := ih (fun s hs => hl s (List.mem_cons_of_mem _ hs))
      have h4 := hl a (List.mem_cons_self ..)
      rw [List.flatten_cons, List.length_append, List.length_cons]
      omega
  have := gen rows h2
  omega
theorem ids_len (high : Int) (rows : List (List Int)) : (idsA high rows).length = (idsB high rows).length ∧ (idsA high rows).length ≤ 25 := by
  unfold idsA idsB
  cases h : yardOk high rows with
  | true =>
    have := yard_tot h
    simp only [if_pos]
    rw [srtI_len, insAll_len]
    exact ⟨rfl, this⟩
  | false => simp
/-- ids in memory of the call's own -/
def IdsOut (w : World) (zs : List Int) : Ending → World → Prop :=
  RVal fun u w' => ∃ B d, u = .slice B zs.length d ∧ w'.ownsRow w.heap.size 3 1 (.slice B zs.length d) zs.length (ints zs) ∧ Below w.heap.size w w'
theorem idsOut_mk {w w' : World} {zs : List Int} {v : Value} (h : w'.ownsRow w.heap.size 3 1 v zs.length (ints zs)) (hb : Below w.heap.size w w') : IdsOut w zs (.returned v) w' := by
  obtain ⟨B, d, rfl, _, _⟩ := own_slice h
  exact RVal.mk ⟨B, d, rfl, h, hb⟩
set_option maxHeartbeats 1000000 in
theorem implYardIds (high : Int) (A : Option Addr) (n c : Nat) (rows : List (List Int)) (w : World) (hn : rows.length = n) (hr : RdRR w A (intss rows)) (hm : n ≤ 1048576) :
    Calls Tryz.prog 9 #[.agg #[.int .i64 high, .slice A n c]] w (IdsOut w (idsA high rows)) := by
  have HN := Lib.hid hn
  clear hn
  have hal : Below w.heap.size w (w.alloc (.cells #[.int .i64 high, .slice A n c] 25)) := (Below.refl _ _).alloc (Nat.le_refl _) _
  have hP : Blk (w.alloc (.cells #[.int .i64 high, .slice A n c] 25)) w.heap.size 25 [.int .i64 high, .slice A n c] := Blk.new _ _ _
  have h1 := hr.below hal
  go_enter Tryz.func9, Tryz.ntmps9
  go_wp2_with fail
  generalize w.alloc (.cells #[.int .i64 high, .slice A n c] 25) = w1 at *
  refine (implYardValid high A n c rows w1 HN.out h1 (by omega)).mono ?_
  rintro e w2 ⟨rfl, b2⟩
  have HB2 := Lib.hid (below_trans hal b2)
  have P2 := hP.later b2
  have x1 := P2.cellAt 1 (by simp)
  simp only [List.getElem_cons_zero, List.getElem_cons_succ] at x1
  have hlt := P2.lt
  clear hal hP b2 h1
  cases hok : yardOk high rows with
  | false =>
    have HI : Hid (idsA high rows = []) := Lib.hid (by simp [idsA, hok])
    clear hok
    go_wp2_with fail
    go_ret
    rw [HI.out]
    exact idsOut_mk (World.ownsRow_nil _ _ _ _) HB2.out
  | true =>
    have HI : Hid (idsA high rows = srtI rows.flatten) := Lib.hid (by simp [idsA, hok])
    have HT := Lib.hid (yard_tot hok)
    have hcc := concat_int A n c rows w2 HN.out (hr.below HB2.out) hm (by have := HT.out; omega)
    have HFL := Lib.hid (rfl : rows.flatten = rows.flatten)
    have HLN := Lib.hid (srtI_len rows.flatten)
    generalize hfl : rows.flatten = zs at *
    clear hok
    generalize hz : zs.length = p at *
    have HZ := Lib.hid hz
    have hp : p ≤ 25 := HT.out
    clear hz hfl
    go_wp2_with fail
    refine hcc.mono ?_
    rintro e w3 ⟨_, rfl, B3, d3, rfl, O3, b3⟩
    have O3 := Lib.hid O3
    have HB3 := Lib.hid (below_trans HB2.out b3)
    clear b3
    go_wp2_with fail
    refine (values_any B3 p d3 w3).mono ?_
    rintro e w4 ⟨rfl, rfl⟩
    have hal4 : Below w3.heap.size w3 (w3.alloc (.cells #[.slice B3 p d3] 29)) := (Below.refl _ _).alloc (Nat.le_refl _) _
    have hQ4 : Blk (w3.alloc (.cells #[.slice B3 p d3] 29)) w3.heap.size 29 [.slice B3 p d3] := Blk.new _ _ _
    have c4 := hQ4.cellAt 0 (by simp)
    simp only [List.getElem_cons_zero] at c4
    have l4 := hQ4.lt
    have hs := sorted_vals w3.heap.size B3 p d3 zs HZ.out (by omega) _ c4 l4 ((own_rd O3.out).below hal4)
    have HB4 := Lib.hid (below_trans HB3.out hal4)
    clear hal4 hQ4
    go_wp2_with fail
    refine hs.mono ?_
    rintro e w5 ⟨v5, rfl, O5, b5⟩
    have hsz : w.heap.size ≤ (w3.alloc (.cells #[.slice B3 p d3] 29)).heap.size := HB4.out.size
    have HB5 := Lib.hid (below_trans HB4.out b5)
    have O5 := Lib.hid (own_base O5 hsz)
    clear b5
    go_wp2_with fail
    go_ret
    rw [HI.out]
    exact idsOut_mk (by rw [HLN.out]; exact O5.out) HB5.out
set_option maxHeartbeats 4000000 in
theorem specYardIds (high : Int) (A : Option Addr) (n c : Nat) (rows : List (List Int)) (w : World) (hn : rows.length = n) (hr : RdRR w A (intss rows)) (hm : n ≤ 1048576) :
    Calls Tryz.prog 30 #[.agg #[.int .i64 high, .slice A n c]] w (IdsOut w (idsB high rows)) := by
  have HN := Lib.hid hn
  clear hn
  have hal : Below w.heap.size w ((w.alloc (.cells #[.int .i64 high, .slice A n c] 25)).alloc (.cells #[] 3)) := ((Below.refl _ _).alloc (Nat.le_refl _) _).alloc (by simp) _
  have hP : Blk ((w.alloc (.cells #[.int .i64 high, .slice A n c] 25)).alloc (.cells #[] 3)) w.heap.size 25 [.int .i64 high, .slice A n c] := (Blk.new _ _ _).alloc _
  have hO : ((w.alloc (.cells #[.int .i64 high, .slice A n c] 25)).alloc (.cells #[] 3)).ownsRow (w.heap.size + 1) 3 1 (.slice (some ⟨w.heap.size + 1, 0, none⟩) 0 0) 0 [] := by
    have := Blk.new (w.alloc (.cells #[.int .i64 high, .slice A n c] 25)) 3 []
    simp only [World.size_alloc] at this
    exact own_of_blk this (Nat.le_refl _) rfl (by decide)
  have h1 := hr.below hal
  go_enter Tryz.func30, Tryz.ntmps30
  go_wp2_with fail
  generalize (w.alloc (.cells #[.int .i64 high, .slice A n c] 25)).alloc (.cells #[] 3) = w1 at *
  have x0 := hP.cellAt 0 (by simp)
  have x1 := hP.cellAt 1 (by simp)
  simp only [List.getElem_cons_zero, List.getElem_cons_succ] at x0 x1
  have lx := hP.lt
  go_wp2_with fail
  refine (specYardValid high A n c rows w1 HN.out h1 (by omega)).mono ?_
  rintro e w2 ⟨rfl, b2⟩
  have HB2 := Lib.hid (below_trans hal b2)
  have P2 := hP.later b2
  have O2 := own_later hO b2
  clear hal hP b2 h1 hO x0 x1
  cases hok : yardOk high rows with
  | false =>
    have HI : Hid (idsB high rows = []) := Lib.hid (by simp [idsB, hok])
    have O2 := Lib.hid O2
    clear hok
    go_wp2_with fail
    go_ret
    rw [HI.out]
    exact idsOut_mk (own_base O2.out (by omega)) HB2.out
  | true =>
    have HI : Hid (idsB high rows = insAll rows.flatten) := Lib.hid (by simp [idsB, hok])
    have HT := Lib.hid (yard_tot hok)
    have hn5 : n ≤ 5 := by have := (yardOk_parts hok).2.1; have := HN.out; omega
    clear hok
    go_wp2_with fail
    go_loopw [3, 4, 5] (fun all i _ wr => ∃ (k : Nat) (m : Nat) (v : Value), k ≤ n ∧ i = .int .i64 k ∧ all = v ∧ m = lenK rows k ∧ wr.ownsRow (w.heap.size + 1) 3 1 v m (ints (insAll (rows.take k).flatten)) ∧ Blk wr w.heap.size 25 [.int .i64 high, .slice A n c] ∧ Below w.heap.size w wr) (fun _ i _ _ => n - (intOf i).toNat)
    case atStart => exact ⟨0, 0, _, Nat.zero_le _, rfl, rfl, rfl, O2, P2, HB2.out⟩
    case round =>
      clear O2 P2
      obtain ⟨k, m, v, hk, rfl, rfl, hmk, hO, P1, hb⟩ := hrel
      have HMK := Lib.hid hmk
      have c0 := P1.cellAt 0 (by simp)
      have c1 := P1.cellAt 1 (by simp)
      simp only [List.getElem_cons_zero, List.getElem_cons_succ] at c0 c1
      have hPlt := P1.lt
      clear hmk
      by_cases hlt : k < n
      · have hkz : k < rows.length := by rw [HN.out]; exact hlt
        have hkl : k < (intss rows).length := by rw [intss_len]; exact hkz
        obtain ⟨b, o, rfl, hl0, B, c', hcell0, hle, hmx, hrB0⟩ := hr.pos hkl
        rw [intss_at] at hrB0
        simp only [intss_at, ints_len] at hcell0 hle
        have hmx2 : c' ≤ 9223372036854775807 := by unfold maxLen at hmx; omega
        have HST := Lib.hid (lenK_step hkz)
        have hs25 : lenK rows (k + 1) ≤ 25 := Nat.le_trans (lenK_le _ _) HT.out
        have HF2 : Hid ((rows.take (k + 1)).flatten = (rows.take k).flatten ++ rows[k]) := Lib.hid (by rw [List.take_succ_eq_append_getElem hkz, List.flatten_append]; simp)
        have HLF : Hid ((rows.take k).flatten.length = m) := Lib.hid HMK.out.symm
        generalize rows[k] = zs at *
        generalize hz : zs.length = p at *
        generalize hfl : (rows.take k).flatten = fl at *
        have HZ := Lib.hid hz
        have HRB := Lib.hid hrB0
        have HC0 := Lib.hid hcell0
        have HBL := Lib.hid hl0
        have hmp : m + p ≤ 25 := by have h3 := HMK.out; have h4 := HST.out; omega
        have hki : (k : Int) < (n : Int) := by omega
        clear hz hfl hrB0 hs25
        have P2 := P1
        have O2 := hO
        have hb2 := hb
        go_wp2_with fail
        go_loopw [3, 5] (fun all i wr2 => ∃ (j : Nat) (v2 : Value), j ≤ p ∧ i = .int .i64 j ∧ all = v2 ∧ wr2.ownsRow (w.heap.size + 1) 3 1 v2 (m + j) (ints (insAll (fl ++ zs.take j))) ∧ Blk wr2 w.heap.size 25 [.int .i64 high, .slice (some ⟨b, o, none⟩) n c] ∧ Below w.heap.size w wr2) (fun _ i _ => p - (intOf i).toNat)
        case atStart => exact ⟨0, _, Nat.zero_le _, rfl, rfl, by simpa using O2, P2, hb2⟩
        case round =>
          clear O2 P2 hb2 hO P1 hb hPlt c0 c1
          obtain ⟨j, v2, hj, rfl, rfl, hO2, P2, hb2⟩ := hrel
          have c0 := P2.cellAt 0 (by simp)
          have c1 := P2.cellAt 1 (by simp)
          simp only [List.getElem_cons_zero, List.getElem_cons_succ] at c0 c1
          have hPlt := P2.lt
          have hbl : b < w.heap.size := HBL.out
          have hl : b < wr.heap.size := Nat.lt_of_lt_of_le hbl hb2.size
          have hcell := (hb2.cell (p := ⟨b, o + k, none⟩) hbl).trans HC0.out
          have hrB := HRB.out.below hb2
          by_cases hltj : j < p
          · have hjz : j < zs.length := by rw [HZ.out]; exact hltj
            have hjl : j < (ints zs).length := by rw [ints_len]; exact hjz
            obtain ⟨b2, o2, rfl, hl2, hc2⟩ := hrB.pos hjl
            have h1 := hc2 j hjl
            rw [ints_at] at h1
            have HTK : Hid (ints (insAll (fl ++ zs.take (j + 1))) = ints (insL (insAll (fl ++ zs.take j)) zs[j])) := Lib.hid (by rw [List.take_succ_eq_append_getElem hjz, ← List.append_assoc, insAll_snoc])
            have hal : (insAll (fl ++ zs.take j)).length = m + j := by have := hO2.1; rw [ints_len] at this; omega
            obtain ⟨A3, c3, rfl, hA3, hA4⟩ := own_slice hO2
            have hH := fun y => l4Sorted_any A3 (m + j) c3 (insAll (fl ++ zs.take j)) y wr hal hA3 (own_rd hO2) (by omega)
            generalize zs[j] = y at *
            have hji : (j : Int) < (p : Int) := by omega
            have HP2 := Lib.hid P2
            have HB2 := Lib.hid hb2
            clear hc2 hal hO2
            go_wp2_with fail
            refine (hH y).mono ?_
            rintro e w4 ⟨_, rfl, B4, d4, rfl, hown4, hb4⟩
            rw [← HTK.out] at hown4
            have hown5 := own_base hown4 (show w.heap.size + 1 ≤ wr.heap.size from hPlt)
            have P4 := HP2.out.later hb4
            have B4' := below_trans HB2.out hb4
            clear hH hown4 hb4
            go_wp2_with fail
            go_roundw
            case rel => exact ⟨j + 1, _, by omega, by go_num, rfl, hown5, P4, B4'⟩
            case measure => simp [intOf]; omega
          · have htl : zs.take j = zs := List.take_of_length_le (by rw [HZ.out]; omega)
            rw [htl, ← HF2.out, show m + j = lenK rows (k + 1) from by have h3 := HMK.out; have h4 := HST.out; omega] at hO2
            clear htl
            have HO2 := Lib.hid hO2
            clear hO2
            go_wp2_with fail
            go_roundw
            case rel => exact ⟨k + 1, _, _, by omega, by go_num, rfl, rfl, HO2.out, P2, hb2⟩
            case measure => simp [intOf]; omega
      · obtain rfl : k = n := by omega
        have htl : rows.take k = rows := List.take_of_length_le (by rw [HN.out]; exact Nat.le_refl _)
        have HE : Hid (m = (insAll rows.flatten).length) := Lib.hid (by rw [HMK.out, insAll_len]; unfold lenK; rw [htl])
        rw [htl, HE.out] at hO
        have HO := Lib.hid hO
        clear hO htl
        go_wp2_with fail
        go_ret
        rw [HI.out]
        exact idsOut_mk (own_base HO.out (by omega)) hb
end Go.Proofs.YtbkfhcbecejomaaGreat
end
section
/- Lists of Box: their cells; copying, comparing, measuring. -/
namespace Go.Proofs.YtbkfhcbecejomaaGreat
open Go Go.ChangeShapes Go.WideShapes Go.ChangeAt Go.RowKit
theorem set_5 (l r : List Value) (a0 a1 a2 a3 a4 c0 c1 c2 c3 c4 : Value) (i : Nat) (hl : l.length = i) : (((((l ++ ([a0, a1, a2, a3, a4] ++ r)).set i c0).set (i + 1) c1).set (i + 1 + 1) c2).set (i + 1 + 1 + 1) c3).set (i + 1 + 1 + 1 + 1) c4 = l ++ ([c0, c1, c2, c3, c4] ++ r) := by
  subst hl
  simp [Nat.add_assoc]
def boxC (x : BoxV) : List Value := [.int .i64 x.f0, .int .i64 x.f1, .int .i64 x.f2, .int .i64 x.f3, .bool x.f4]
theorem boxC_len (x : BoxV) : (boxC x).length = 5 := rfl
/-- the cells of a list -/
def boxs (zs : List BoxV) : List Value := cellsOf boxC zs
theorem boxs_len (zs : List BoxV) : (boxs zs).length = zs.length * 5 := cellsOf_len _ _ boxC_len zs
theorem RdV.boxAt {w : World} {A : Option Addr} {zs : List BoxV} (h : RdV w A (boxs zs)) {j : Nat} (hj : j < zs.length) : ∃ b o, A = some ⟨b, o, none⟩ ∧ b < w.heap.size ∧ w.cell? ⟨b, o + j * 5, none⟩ = some (.int .i64 (zs[j]).f0) ∧ w.cell? ⟨b, o + j * 5 + 1, none⟩ = some (.int .i64 (zs[j]).f1) ∧ w.cell? ⟨b, o + j * 5 + 2, none⟩ = some (.int .i64 (zs[j]).f2) ∧ w.cell? ⟨b, o + j * 5 + 3, none⟩ = some (.int .i64 (zs[j]).f3) ∧ w.cell? ⟨b, o + j * 5 + 4, none⟩ = some (.bool (zs[j]).f4) := by
  obtain ⟨b, o, hA, hl, hc⟩ := RdV.fieldAt boxC_len h hj (by decide)
  exact ⟨b, o, hA, hl, hc 0 _ rfl, hc 1 _ rfl, hc 2 _ rfl, hc 3 _ rfl, hc 4 _ rfl⟩
theorem box_info : (Tryz.prog.info? 79).map (fun i => (i.zero, i.size, i.bytes)) = some (some (.agg #[.int .i64 0, .int .i64 0, .int .i64 0, .int .i64 0, .bool false]), 5, 40) := by kernel_rfl
theorem make_box (n : Nat) (hn : n ≤ 1048576) (w : World) : (Instr.makeSlice 28 (.int .i64 (n : Int)) (.int .i64 (n : Int))).run Tryz.prog w = .ok (.slice (some ⟨w.heap.size, 0, none⟩) n n) (w.alloc (.cells ((List.replicate n [.int .i64 0, .int .i64 0, .int .i64 0, .int .i64 0, .bool false]).flatten).toArray 79)) :=
  run_make_rowk (P := Tryz.prog) 28 79 (.agg #[.int .i64 0, .int .i64 0, .int .i64 0, .int .i64 0, .bool false]) [.int .i64 0, .int .i64 0, .int .i64 0, .int .i64 0, .bool false] 40 5 Tryz.underlying28 box_info rfl rfl (by decide) n (by omega) (by omega) w
end Go.Proofs.YtbkfhcbecejomaaGreat
end
section
/- Boxes: numbers in a range, a valid box, the place of a box: both programs return the plain word. -/
namespace Go.Proofs.YtbkfhcbecejomaaGreat
open Go Go.ChangeShapes Go.WideShapes Go.ChangeAt Go.RowKit
set_option linter.unusedVariables false
theorem within_inI (a lo hi : Int) (w : World) : Calls Tryz.prog 56 #[.int .i64 a, .int .i64 lo, .int .i64 hi] w fun r w' => r = .returned (.bool (inI a lo hi)) ∧ w = w' := by
  by_cases h : lo ≤ a ∧ a ≤ hi
  · rw [show inI a lo hi = true from by simp [inI, h]]; exact within_true a lo hi w h.1 h.2
  · rw [show inI a lo hi = false from by simp [inI]; omega]; exact within_false a lo hi w (by omega)
theorem l1In_inI (a lo hi : Int) (w : World) : Calls Tryz.prog 63 #[.int .i64 a, .int .i64 lo, .int .i64 hi] w fun r w' => r = .returned (.bool (inI a lo hi)) ∧ w = w' := by
  by_cases h : lo ≤ a ∧ a ≤ hi
  · rw [show inI a lo hi = true from by simp [inI, h]]; exact l1In_true a lo hi w h.1 h.2
  · rw [show inI a lo hi = false from by simp [inI]; omega]; exact l1In_false a lo hi w (by omega)
theorem isId_inI (a : Int) (w : World) : Calls Tryz.prog 58 #[.int .i64 a] w fun r w' => r = .returned (.bool (inI a 1 999)) ∧ w = w' := by
  by_cases h : 1 ≤ a ∧ a ≤ 999
  · rw [show inI a 1 999 = true from by simp [inI, h]]; exact isId_true a w h.1 h.2
  · rw [show inI a 1 999 = false from by simp [inI]; omega]; exact isId_false a w (by omega)
set_option maxHeartbeats 1000000 in
theorem specBoxValid (x : BoxV) (w : World) : Calls Tryz.prog 94 #[.agg #[.int .i64 x.f0, .int .i64 x.f1, .int .i64 x.f2, .int .i64 x.f3, .bool x.f4]] w fun e w' => e = .returned (.bool (bOk x)) ∧ Below w.heap.size w w' := by
  obtain ⟨y0, y1, y2, y3, y4⟩ := x
  dsimp only
  have h1 := fun W => l1In_inI y0 1 999 W
  have h2 := fun W => l1In_inI y1 1 30 W
  have h3 := fun W => l1In_inI y2 0 3 W
  have h4 := fun W => l1In_inI y3 0 6 W
  cases q1 : inI y0 1 999 with
  | false =>
    have HB : Hid (bOk ⟨y0, y1, y2, y3, y4⟩ = false) := Lib.hid (by simp [bOk, q1])
    rw [q1] at h1
    clear q1
    go_enter Tryz.func94, Tryz.ntmps94
    go_wp2_with (go_at_call 63; (first | (with_reducible refine (h1 _).mono ?_) | (with_reducible refine (h2 _).mono ?_) | (with_reducible refine (h3 _).mono ?_) | (with_reducible refine (h4 _).mono ?_)); rintro e w' ⟨rfl, rfl⟩)
    go_ret
    exact ⟨by rw [HB.out]; rfl, (Below.refl _ _).alloc (Nat.le_refl _) _⟩
  | true =>
    rw [q1] at h1
    cases q2 : inI y1 1 30 with
    | false =>
      have HB : Hid (bOk ⟨y0, y1, y2, y3, y4⟩ = false) := Lib.hid (by simp [bOk, q2])
      rw [q2] at h2
      clear q1 q2
      go_enter Tryz.func94, Tryz.ntmps94
      go_wp2_with (go_at_call 63; (first | (with_reducible refine (h1 _).mono ?_) | (with_reducible refine (h2 _).mono ?_) | (with_reducible refine (h3 _).mono ?_) | (with_reducible refine (h4 _).mono ?_)); rintro e w' ⟨rfl, rfl⟩)
      go_ret
      exact ⟨by rw [HB.out]; rfl, (Below.refl _ _).alloc (Nat.le_refl _) _⟩
    | true =>
      rw [q2] at h2
      cases q3 : inI y2 0 3 with
      | false =>
        have HB : Hid (bOk ⟨y0, y1, y2, y3, y4⟩ = false) := Lib.hid (by simp [bOk, q3])
        rw [q3] at h3
        clear q1 q2 q3
        go_enter Tryz.func94, Tryz.ntmps94
        go_wp2_with (go_at_call 63; (first | (with_reducible refine (h1 _).mono ?_) | (with_reducible refine (h2 _).mono ?_) | (with_reducible refine (h3 _).mono ?_) | (with_reducible refine (h4 _).mono ?_)); rintro e w' ⟨rfl, rfl⟩)
        go_ret
        exact ⟨by rw [HB.out]; rfl, (Below.refl _ _).alloc (Nat.le_refl _) _⟩
      | true =>
        rw [q3] at h3
        cases q4 : inI y3 0 6 with
        | false =>
          have HB : Hid (bOk ⟨y0, y1, y2, y3, y4⟩ = false) := Lib.hid (by simp [bOk, q4])
          rw [q4] at h4
          clear q1 q2 q3 q4
          go_enter Tryz.func94, Tryz.ntmps94
          go_wp2_with (go_at_call 63; (first | (with_reducible refine (h1 _).mono ?_) | (with_reducible refine (h2 _).mono ?_) | (with_reducible refine (h3 _).mono ?_) | (with_reducible refine (h4 _).mono ?_)); rintro e w' ⟨rfl, rfl⟩)
          go_ret
          exact ⟨by rw [HB.out]; rfl, (Below.refl _ _).alloc (Nat.le_refl _) _⟩
        | true =>
          have HB : Hid (bOk ⟨y0, y1, y2, y3, y4⟩ = true) := Lib.hid (by simp [bOk, q1, q2, q3, q4])
          rw [q4] at h4
          clear q1 q2 q3 q4
          go_enter Tryz.func94, Tryz.ntmps94
          go_wp2_with (go_at_call 63; (first | (with_reducible refine (h1 _).mono ?_) | (with_reducible refine (h2 _).mono ?_) | (with_reducible refine (h3 _).mono ?_) | (with_reducible refine (h4 _).mono ?_)); rintro e w' ⟨rfl, rfl⟩)
          go_ret
          exact ⟨by rw [HB.out]; rfl, (Below.refl _ _).alloc (Nat.le_refl _) _⟩
set_option maxHeartbeats 1000000 in
theorem implBoxValid (x : BoxV) (w : World) : Calls Tryz.prog 82 #[.agg #[.int .i64 x.f0, .int .i64 x.f1, .int .i64 x.f2, .int .i64 x.f3, .bool x.f4]] w fun e w' => e = .returned (.bool (bOk x)) ∧ Below w.heap.size w w' := by
  obtain ⟨y0, y1, y2, y3, y4⟩ := x
  dsimp only
  have h1 := fun W => isId_inI y0 W
  have h2 := fun W => within_inI y1 1 30 W
  have h3 := fun W => within_inI y2 0 3 W
  have h4 := fun W => within_inI y3 0 6 W
  cases q1 : inI y0 1 999 with
  | false =>
    have HB : Hid (bOk ⟨y0, y1, y2, y3, y4⟩ = false) := Lib.hid (by simp [bOk, q1])
    rw [q1] at h1
    clear q1
    go_enter Tryz.func82, Tryz.ntmps82
    go_wp2_with (first | (go_at_call 58; refine (h1 _).mono ?_; rintro e w' ⟨rfl, rfl⟩) | (go_at_call 56; (first | (with_reducible refine (h2 _).mono ?_) | (with_reducible refine (h3 _).mono ?_) | (with_reducible refine (h4 _).mono ?_)); rintro e w' ⟨rfl, rfl⟩))
    go_ret
    exact ⟨by rw [HB.out]; rfl, (Below.refl _ _).alloc (Nat.le_refl _) _⟩
  | true =>
    rw [q1] at h1
    cases q2 : inI y1 1 30 with
    | false =>
      have HB : Hid (bOk ⟨y0, y1, y2, y3, y4⟩ = false) := Lib.hid (by simp [bOk, q2])
      rw [q2] at h2
      clear q1 q2
      go_enter Tryz.func82, Tryz.ntmps82
      go_wp2_with (first | (go_at_call 58; refine (h1 _).mono ?_; rintro e w' ⟨rfl, rfl⟩) | (go_at_call 56; (first | (with_reducible refine (h2 _).mono ?_) | (with_reducible refine (h3 _).mono ?_) | (with_reducible refine (h4 _).mono ?_)); rintro e w' ⟨rfl, rfl⟩))
      go_ret
      exact ⟨by rw [HB.out]; rfl, (Below.refl _ _).alloc (Nat.le_refl _) _⟩
    | true =>
      rw [q2] at h2
      cases q3 : inI y2 0 3 with
      | false =>
        have HB : Hid (bOk ⟨y0, y1, y2, y3, y4⟩ = false) := Lib.hid (by simp [bOk, q3])
        rw [q3] at h3
        clear q1 q2 q3
        go_enter Tryz.func82, Tryz.ntmps82
        go_wp2_with (first | (go_at_call 58; refine (h1 _).mono ?_; rintro e w' ⟨rfl, rfl⟩) | (go_at_call 56; (first | (with_reducible refine (h2 _).mono ?_) | (with_reducible refine (h3 _).mono ?_) | (with_reducible refine (h4 _).mono ?_)); rintro e w' ⟨rfl, rfl⟩))
        go_ret
        exact ⟨by rw [HB.out]; rfl, (Below.refl _ _).alloc (Nat.le_refl _) _⟩
      | true =>
        rw [q3] at h3
        cases q4 : inI y3 0 6 with
        | false =>
          have HB : Hid (bOk ⟨y0, y1, y2, y3, y4⟩ = false) := Lib.hid (by simp [bOk, q4])
          rw [q4] at h4
          clear q1 q2 q3 q4
          go_enter Tryz.func82, Tryz.ntmps82
          go_wp2_with (first | (go_at_call 58; refine (h1 _).mono ?_; rintro e w' ⟨rfl, rfl⟩) | (go_at_call 56; (first | (with_reducible refine (h2 _).mono ?_) | (with_reducible refine (h3 _).mono ?_) | (with_reducible refine (h4 _).mono ?_)); rintro e w' ⟨rfl, rfl⟩))
          go_ret
          exact ⟨by rw [HB.out]; rfl, (Below.refl _ _).alloc (Nat.le_refl _) _⟩
        | true =>
          have HB : Hid (bOk ⟨y0, y1, y2, y3, y4⟩ = true) := Lib.hid (by simp [bOk, q1, q2, q3, q4])
          rw [q4] at h4
          clear q1 q2 q3 q4
          go_enter Tryz.func82, Tryz.ntmps82
          go_wp2_with (first | (go_at_call 58; refine (h1 _).mono ?_; rintro e w' ⟨rfl, rfl⟩) | (go_at_call 56; (first | (with_reducible refine (h2 _).mono ?_) | (with_reducible refine (h3 _).mono ?_) | (with_reducible refine (h4 _).mono ?_)); rintro e w' ⟨rfl, rfl⟩))
          go_ret
          exact ⟨by rw [HB.out]; rfl, (Below.refl _ _).alloc (Nat.le_refl _) _⟩
set_option maxHeartbeats 1000000 in
theorem l2Find_any (A : Option Addr) (n c : Nat) (zs : List BoxV) (x : Int) (w : World) (hn : zs.length = n) (hr : RdV w A (boxs zs)) (hm : n ≤ 9223372036854775806) :
    Calls Tryz.prog 31 #[.slice A n c, .int .i64 x] w fun e w' => e = .returned (.int .i64 (idxI (findF zs x))) ∧ w = w' := by
  have HN := Lib.hid hn
  clear hn
  go_enter Tryz.func31, Tryz.ntmps31
  go_wp2
  go_loop [5] (fun i => ∃ k : Nat, k ≤ n ∧ i = .int .i64 k ∧ Hid (∀ y ∈ zs.take k, y.f0 ≠ x)) (fun i => n - (intOf i).toNat)
  case atStart => exact ⟨0, Nat.zero_le _, rfl, Lib.hid (by simp)⟩
  case round =>
    obtain ⟨k, hk, rfl, HJ⟩ := hrel
    by_cases hlt : k < n
    · have hkz : k < zs.length := by rw [HN.out]; exact hlt
      obtain ⟨b, o, rfl, hl, c0, c1, c2, c3, c4⟩ := hr.boxAt hkz
      obtain ⟨HY, HS⟩ := findF_step hkz HJ.out
      have HY := Lib.hid HY
      have HS := Lib.hid HS
      generalize zs[k] = y at *
      clear c1 c2 c3 c4
      by_cases hxy : y.f0 = x
      · have HT := Lib.hid (HY.out hxy)
        have hd : (y.f0 == x) = true := by simp [hxy]
        clear hxy HY HS
        go_wp2
        go_ret
        exact ⟨by rw [HT.out]; rfl, rfl⟩
      · have HT := Lib.hid (HS.out hxy)
        have hd : (y.f0 == x) = false := by simpa using hxy
        clear hxy HY HS
        go_wp2
        go_round
        case rel => exact ⟨k + 1, by omega, by go_num, HT⟩
        case measure => simp [intOf]; omega
    · obtain rfl : k = n := by omega
      have HT := Lib.hid (findF_end (by rw [HN.out]; exact HJ.out))
      go_wp2
      go_ret
      exact ⟨by rw [HT.out]; rfl, rfl⟩
set_option maxHeartbeats 1000000 in
theorem boxAt1_any (x : BoxV) (B : Nat) (id : Int) (w : World) (hB : w.cell? ⟨B, 0, none⟩ = some (.int .i64 id)) (hl : B < w.heap.size) :
    Calls Tryz.prog 60 #[.agg #[.int .i64 x.f0, .int .i64 x.f1, .int .i64 x.f2, .int .i64 x.f3, .bool x.f4], .pointer (some ⟨B, 0, none⟩)] w fun e w' => e = .returned (.bool (isF id x)) ∧ Below w.heap.size w w' := by
  obtain ⟨y0, y1, y2, y3, y4⟩ := x
  have HB : Hid (isF id ⟨y0, y1, y2, y3, y4⟩ = (y0 == id)) := Lib.hid (by unfold isF; by_cases h : y0 = id <;> simp [h])
  dsimp only
  have hne : B ≠ w.heap.size := by omega
  go_enter Tryz.func60, Tryz.ntmps60
  go_wp2
  go_ret
  exact ⟨by rw [HB.out]; rfl, (Below.refl _ _).alloc (Nat.le_refl _) _⟩
set_option maxHeartbeats 1000000 in
theorem indexBox_any (A : Option Addr) (n c B : Nat) (zs : List BoxV) (id : Int) (w : World) (hn : zs.length = n) (hr : RdV w A (boxs zs)) (hB : w.cell? ⟨B, 0, none⟩ = some (.int .i64 id)) (hBl : B < w.heap.size) (hm : n ≤ 9223372036854775806) :
    Calls Tryz.prog 59 #[.slice A n c, .func (.func 60) #[] #[.pointer (some ⟨B, 0, none⟩)]] w fun e w' => e = .returned (.int .i64 (idxI (findF zs id))) ∧ Below w.heap.size w w' := by
  have HN := Lib.hid hn
  clear hn
  go_enter Tryz.func59, Tryz.ntmps59
  go_wp2_with fail
  go_loopw [8, 5] (fun i _ wr => ∃ k : Nat, k ≤ n ∧ i = .int .i64 k ∧ Hid (∀ y ∈ zs.take k, y.f0 ≠ id) ∧ Below w.heap.size w wr) (fun i _ _ => n - (intOf i).toNat)
  case atStart => exact ⟨0, Nat.zero_le _, rfl, Lib.hid (by simp), Below.refl _ _⟩
  case round =>
    obtain ⟨k, hk, rfl, HJ, hb⟩ := hrel
    by_cases hlt : k < n
    · have hkz : k < zs.length := by rw [HN.out]; exact hlt
      obtain ⟨b, o, rfl, hl, c0, c1, c2, c3, c4⟩ := (hr.below hb).boxAt hkz
      obtain ⟨HY, HS⟩ := findF_step hkz HJ.out
      have HY := Lib.hid HY
      have HS := Lib.hid HS
      have hcall := boxAt1_any (zs[k]) B id wr ((hb.cell (p := ⟨B, 0, none⟩) hBl).trans hB) (Nat.lt_of_lt_of_le hBl hb.size)
      generalize zs[k] = y at *
      obtain ⟨y0, y1, y2, y3, y4⟩ := y
      dsimp only at c0 c1 c2 c3 c4 HY HS hcall
      by_cases hxy : y0 = id
      · have HT := Lib.hid (HY.out hxy)
        rw [show isF id ⟨y0, y1, y2, y3, y4⟩ = true from isF_iff.2 hxy] at hcall
        clear hxy HY HS
        go_wp2_with (go_at_call 60; refine hcall.mono ?_; rintro e w2 ⟨rfl, hb2⟩)
        go_ret
        exact ⟨by rw [HT.out]; rfl, below_trans hb hb2⟩
      · have HT := Lib.hid (HS.out hxy)
        rw [show isF id ⟨y0, y1, y2, y3, y4⟩ = false from decide_eq_false hxy] at hcall
        clear hxy HY HS
        go_wp2_with (go_at_call 60; refine hcall.mono ?_; rintro e w2 ⟨rfl, hb2⟩)
        go_roundw
        case rel => exact ⟨k + 1, by omega, by go_num, HT, below_trans hb hb2⟩
        case measure => simp [intOf]; omega
    · obtain rfl : k = n := by omega
      have HT := Lib.hid (findF_end (by rw [HN.out]; exact HJ.out))
      go_wp2_with fail
      go_ret
      exact ⟨by rw [HT.out]; rfl, hb⟩
theorem boxAt_any (A : Option Addr) (n c : Nat) (zs : List BoxV) (id : Int) (w : World) (hn : zs.length = n) (hr : RdV w A (boxs zs)) (hm : n ≤ 9223372036854775806) :
    Calls Tryz.prog 22 #[.slice A n c, .int .i64 id] w fun e w' => e = .returned (.int .i64 (idxI (findF zs id))) ∧ Below w.heap.size w w' := by
  have hal : Below w.heap.size w (w.alloc (.cells #[.int .i64 id] 3)) := (Below.refl _ _).alloc (Nat.le_refl _) _
  have hB : (w.alloc (.cells #[.int .i64 id] 3)).cell? ⟨w.heap.size, 0, none⟩ = some (.int .i64 id) := (Blk.new w 3 [.int .i64 id]).cellAt 0 (by simp)
  have hcall := indexBox_any A n c w.heap.size zs id _ hn (hr.below hal) hB (by simp) hm
  clear hB hn hr
  go_enter Tryz.func22, Tryz.ntmps22
  go_wp2_with (go_at_call 59; refine hcall.mono ?_; rintro e w2 ⟨rfl, hb2⟩)
  go_ret
  exact ⟨rfl, below_trans hal hb2⟩
end Go.Proofs.YtbkfhcbecejomaaGreat
end
section
/- Deeds of papers, plain laws. -/
namespace Go.Proofs.YtbkfhcbecejomaaGreat
set_option linter.unusedVariables false
theorem papOk_iff {hs : List HoldV} {ls : List Int} : papOk hs ls = true ↔ holdGo ls 0 hs = true ∧ leftGo 0 ls = true ∧ hs.length ≤ 12 ∧ ls.length ≤ 12 := by
  simp only [papOk, Bool.and_eq_true, decide_eq_true_eq]
  constructor
  · rintro ⟨⟨h1, h2⟩, h3, h4⟩; exact ⟨h1, h2, by omega, by omega⟩
  · rintro ⟨h1, h2, h3, h4⟩; exact ⟨⟨h1, h2⟩, by omega, by omega⟩
/-- marks 0 to 7 and a mark 0 to 2 -/
theorem bit_facts {x m : Int} (h0 : 0 ≤ x) (h7 : x ≤ 7) (m0 : 0 ≤ m) (m2 : m ≤ 2) :
    (bitM x m = false → 1 ≤ x + powM m ∧ x + powM m ≤ 7 ∧ bitM (x + powM m) m = true) ∧ (bitM x m = true → 0 ≤ x - powM m ∧ x - powM m ≤ 7 ∧ bitM (x - powM m) m = false ∧ x ≠ 0) ∧ 1 ≤ powM m := by
  have hm : m = 0 ∨ m = 1 ∨ m = 2 := by omega
  have hx : x = 0 ∨ x = 1 ∨ x = 2 ∨ x = 3 ∨ x = 4 ∨ x = 5 ∨ x = 6 ∨ x = 7 := by omega
  rcases hm with rfl | rfl | rfl <;> rcases hx with rfl | rfl | rfl | rfl | rfl | rfl | rfl | rfl <;> decide
/-- the other marks stay -/
theorem bit_other {x m k : Int} (h0 : 0 ≤ x) (h7 : x ≤ 7) (m0 : 0 ≤ m) (m2 : m ≤ 2) (k0 : 0 ≤ k) (k2 : k ≤ 2) (hk : k ≠ m) :
    (bitM x m = false → bitM (x + powM m) k = bitM x k) ∧ (bitM x m = true → bitM (x - powM m) k = bitM x k) := by
  have hm : m = 0 ∨ m = 1 ∨ m = 2 := by omega
  have hkk : k = 0 ∨ k = 1 ∨ k = 2 := by omega
  have hx : x = 0 ∨ x = 1 ∨ x = 2 ∨ x = 3 ∨ x = 4 ∨ x = 5 ∨ x = 6 ∨ x = 7 := by omega
  rcases hm with rfl | rfl | rfl <;> rcases hkk with rfl | rfl | rfl <;> first | exact absurd rfl hk | (rcases hx with rfl | rfl | rfl | rfl | rfl | rfl | rfl | rfl <;> decide)
theorem bit_zero (m : Int) : bitM 0 m = false := by simp [bitM]
theorem holdGo_left {hs : List HoldV} {ls : List Int} {x last : Int} (h : holdGo ls last hs = true) (hx : marksOf hs x = 0) : holdGo (insL ls x) last hs = true := by
  obtain ⟨h1, h2⟩ := holdGo_iff.1 h
  refine holdGo_iff.2 ⟨fun a ha => ?_, h2⟩
  obtain ⟨b1, b2, b3, b4⟩ := h1 a ha
  refine ⟨b1, b2, fun hm => ?_, b4⟩
  rcases insL_mem.1 hm with e | hm
  · have := marksOf_eq h ha e
    omega
  · exact b3 hm
theorem leftGo_ins {ls : List Int} {x : Int} (h : leftGo 0 ls = true) (hx : 1 ≤ x ∧ x ≤ 999) (hn : x ∉ ls) : leftGo 0 (insL ls x) = true := by
  obtain ⟨h1, h2⟩ := leftGo_iff.1 h
  refine leftGo_iff.2 ⟨fun b hb => ?_, insL_asc h2 hn⟩
  rcases insL_mem.1 hb with rfl | hb
  · exact ⟨hx, by omega⟩
  · exact h1 b hb
theorem idI_iff2 {x : Int} : idI x = true ↔ 1 ≤ x ∧ x ≤ 999 := by simp [idI]
theorem hasI_iff2 {ls : List Int} {x : Int} : hasI ls x = true ↔ x ∈ ls := by simp [hasI]
theorem hasI_no2 {ls : List Int} {x : Int} : hasI ls x = false ↔ x ∉ ls := by simp [hasI]
theorem markOk_iff {k m : Int} : markOk k m = true ↔ k = 2 ∨ (0 ≤ m ∧ m ≤ 2) := by simp [markOk]
/-- the four ways of a deed -/
theorem pdo_ways {p : PapV} (h : papOkV p = true) (k x m : Int) :
    (pdo p k x m = (p, false) ∧ ¬ (idI x = true ∧ hasI p.ls x = false ∧ ((k = 0 ∧ (0 ≤ m ∧ m ≤ 2) ∧ bitM (marksOf p.hs x) m = false ∧ ¬ (marksOf p.hs x = 0 ∧ p.hs.length = 12)) ∨ (k = 1 ∧ (0 ≤ m ∧ m ≤ 2) ∧ bitM (marksOf p.hs x) m = true) ∨ (k = 2 ∧ marksOf p.hs x = 0 ∧ p.ls.length < 12)))) ∨
    (k = 0 ∧ idI x = true ∧ hasI p.ls x = false ∧ 0 ≤ m ∧ m ≤ 2 ∧ bitM (marksOf p.hs x) m = false ∧ ¬ (marksOf p.hs x = 0 ∧ p.hs.length = 12) ∧ pdo p k x m = (⟨setH p.hs x (marksOf p.hs x + powM m), p.ls⟩, true) ∧ papOk (setH p.hs x (marksOf p.hs x + powM m)) p.ls = true) ∨
    (k = 1 ∧ idI x = true ∧ hasI p.ls x = false ∧ 0 ≤ m ∧ m ≤ 2 ∧ bitM (marksOf p.hs x) m = true ∧ pdo p k x m = (⟨setH p.hs x (marksOf p.hs x - powM m), p.ls⟩, true) ∧ papOk (setH p.hs x (marksOf p.hs x - powM m)) p.ls = true) ∨
    (k = 2 ∧ idI x = true ∧ hasI p.ls x = false ∧ marksOf p.hs x = 0 ∧ p.ls.length < 12 ∧ pdo p k x m = (⟨p.hs, insL p.ls x⟩, true) ∧ papOk p.hs (insL p.ls x) = true) := by
  obtain ⟨h1, h2, h3, h4⟩ := papOk_iff.1 h
  obtain ⟨g0, g7⟩ := marksOf_range h1 x
  by_cases hid : ((idI x && !hasI p.ls x) && markOk k m) = true
  · have hid2 := hid
    simp only [Bool.and_eq_true, Bool.not_eq_true'] at hid2
    obtain ⟨⟨hx, hl⟩, hmk⟩ := hid2
    have hx' := idI_iff2.1 hx
    have hl' := hasI_no2.1 hl
    unfold pdo
    rw [if_pos hid]
    by_cases k0 : k = 0
    · have hm := (markOk_iff.1 hmk).resolve_left (by omega)
      obtain ⟨b1, b2, b3⟩ := bit_facts g0 g7 hm.1 hm.2
      rw [if_pos k0]
      by_cases hb : (bitM (marksOf p.hs x) m || (decide (marksOf p.hs x = 0) && decide (p.hs.length = 12))) = true
      · rw [if_pos hb]
        refine .inl ⟨rfl, fun hc => ?_⟩
        obtain ⟨_, _, hc⟩ := hc
        simp only [Bool.or_eq_true, Bool.and_eq_true, decide_eq_true_eq] at hb
        rcases hc with ⟨_, _, hc1, hc2⟩ | ⟨hc, _⟩ | ⟨hc, _⟩
        · rcases hb with hb | hb
          · rw [hb] at hc1; cases hc1
          · exact hc2 hb
        · omega
        · omega
      · rw [if_neg hb]
        have hb1 : bitM (marksOf p.hs x) m = false := by
          cases hbb : bitM (marksOf p.hs x) m with
          | false => rfl
          | true => rw [hbb] at hb; simp at hb
        have hb2 : ¬ (marksOf p.hs x = 0 ∧ p.hs.length = 12) := fun e => hb (by simp [e.1, e.2])
        refine .inr (.inl ⟨k0, hx, hl, hm.1, hm.2, hb1, hb2, rfl, papOk_iff.2 ⟨(setH_ok h1).2 (.inr ⟨hx', hl', (b1 hb1).1, (b1 hb1).2.1⟩), h2, ?_, h4⟩⟩)
        have hlen := setH_len (x := x) (m := marksOf p.hs x + powM m) h1
        have hne : marksOf p.hs x + powM m ≠ 0 := by have := (b1 hb1).1; omega
        rw [if_neg hne] at hlen
        by_cases hz : marksOf p.hs x = 0
        · rw [if_pos hz] at hlen
          have : p.hs.length ≠ 12 := fun e => hb2 ⟨hz, e⟩
          omega
        · rw [if_neg hz] at hlen
          omega
    · rw [if_neg k0]
      by_cases k1 : k = 1
      · have hm := (markOk_iff.1 hmk).resolve_left (by omega)
        obtain ⟨b1, b2, b3⟩ := bit_facts g0 g7 hm.1 hm.2
        rw [if_pos k1]
        cases hb : bitM (marksOf p.hs x) m with
        | false =>
          rw [if_neg (by simp)]
          refine .inl ⟨rfl, fun hc => ?_⟩
          obtain ⟨_, _, hc⟩ := hc
          rcases hc with ⟨hc, _⟩ | ⟨_, _, hc⟩ | ⟨hc, _⟩
          · omega
          · cases hc
          · omega
        | true =>
          rw [if_pos rfl]
          refine .inr (.inr (.inl ⟨k1, hx, hl, hm.1, hm.2, rfl, rfl, papOk_iff.2 ⟨(setH_ok h1).2 ?_, h2, ?_, h4⟩⟩))
          · by_cases hz : marksOf p.hs x - powM m = 0
            · exact .inl hz
            · have := b2 hb
              exact .inr ⟨hx', hl', by omega, this.2.1⟩
          · have hlen := setH_len (x := x) (m := marksOf p.hs x - powM m) h1
            rw [if_neg (b2 hb).2.2.2] at hlen
            split at hlen <;> omega
      · rw [if_neg k1]
        by_cases k2 : k = 2
        · rw [if_pos k2]
          by_cases hb : (decide (marksOf p.hs x = 0) && decide (p.ls.length < 12)) = true
          · rw [if_pos hb]
            simp only [Bool.and_eq_true, decide_eq_true_eq] at hb
            exact .inr (.inr (.inr ⟨k2, hx, hl, hb.1, hb.2, rfl, papOk_iff.2 ⟨holdGo_left h1 hb.1, leftGo_ins h2 hx' hl', h3, by rw [insL_len]; omega⟩⟩))
          · rw [if_neg hb]
            refine .inl ⟨rfl, fun hc => ?_⟩
            obtain ⟨_, _, hc⟩ := hc
            rcases hc with ⟨hc, _⟩ | ⟨hc, _⟩ | ⟨_, hc1, hc2⟩
            · omega
            · omega
            · exact hb (by simp [hc1, hc2])
        · rw [if_neg k2]
          refine .inl ⟨rfl, fun hc => ?_⟩
          obtain ⟨_, _, hc⟩ := hc
          rcases hc with ⟨hc, _⟩ | ⟨hc, _⟩ | ⟨hc, _⟩ <;> omega
  · unfold pdo
    rw [if_neg hid]
    refine .inl ⟨rfl, fun hc => hid ?_⟩
    obtain ⟨hx, hl, hc⟩ := hc
    simp only [Bool.and_eq_true, Bool.not_eq_true']
    refine ⟨⟨hx, hl⟩, markOk_iff.2 ?_⟩
    rcases hc with ⟨_, hc, _⟩ | ⟨_, hc, _⟩ | ⟨hc, _⟩
    · exact .inr hc
    · exact .inr hc
    · exact .inl hc
theorem pdo_ok {p : PapV} (h : papOkV p = true) (k x m : Int) : papOkV (pdo p k x m).1 = true := by
  rcases pdo_ways h k x m with ⟨e, _⟩ | ⟨_, _, _, _, _, _, _, e, hk⟩ | ⟨_, _, _, _, _, _, e, hk⟩ | ⟨_, _, _, _, _, e, hk⟩ <;> rw [e]
  · exact h
  · exact hk
  · exact hk
  · exact hk
/-- the reference's way -/
def sdo (p : PapV) (k x m : Int) : PapV × Bool :=
  if k = 0 ∧ markOk k m = true ∧ hasI p.ls x = false ∧ bitM (marksOf p.hs x) m = false then
    if papOk (setH p.hs x (marksOf p.hs x + powM m)) p.ls then (⟨setH p.hs x (marksOf p.hs x + powM m), p.ls⟩, true) else (p, false)
  else if k = 1 ∧ markOk k m = true ∧ bitM (marksOf p.hs x) m = true then
    if papOk (setH p.hs x (marksOf p.hs x - powM m)) p.ls then (⟨setH p.hs x (marksOf p.hs x - powM m), p.ls⟩, true) else (p, false)
  else if k = 2 ∧ hasI p.ls x = false ∧ marksOf p.hs x = 0 then
    if papOk p.hs (insL p.ls x) then (⟨p.hs, insL p.ls x⟩, true) else (p, false)
  else (p, false)
theorem sdo_eq {p : PapV} (h : papOkV p = true) (k x m : Int) : sdo p k x m = pdo p k x m := by
  obtain ⟨h1, h2, h3, h4⟩ := papOk_iff.1 h
  obtain ⟨g0, g7⟩ := marksOf_range h1 x
  rcases pdo_ways h k x m with ⟨e, hno⟩ | ⟨k0, hx, hl, m0, m2, hb, hz, e, hk⟩ | ⟨k1, hx, hl, m0, m2, hb, e, hk⟩ | ⟨k2, hx, hl, hz, h12, e, hk⟩
  · rw [e]
    unfold sdo
    by_cases c0 : k = 0 ∧ markOk k m = true ∧ hasI p.ls x = false ∧ bitM (marksOf p.hs x) m = false
    · rw [if_pos c0]
      obtain ⟨k0, hmk, hl, hb⟩ := c0
      have hm := (markOk_iff.1 hmk).resolve_left (by omega)
      obtain ⟨b1, _, _⟩ := bit_facts g0 g7 hm.1 hm.2
      rw [if_neg]
      intro hk
      obtain ⟨q1, _, q3, _⟩ := papOk_iff.1 hk
      have hne : marksOf p.hs x + powM m ≠ 0 := by have := (b1 hb).1; omega
      have hq := (setH_ok h1).1 q1
      rcases hq with hq | ⟨hq, _⟩
      · exact hne hq
      refine hno ⟨idI_iff2.2 hq, hl, .inl ⟨k0, hm, hb, fun hc => ?_⟩⟩
      have hlen := setH_len (x := x) (m := marksOf p.hs x + powM m) h1
      rw [if_neg hne, if_pos hc.1] at hlen
      omega
    · rw [if_neg c0]
      by_cases c1 : k = 1 ∧ markOk k m = true ∧ bitM (marksOf p.hs x) m = true
      · exfalso
        obtain ⟨k1, hmk, hb⟩ := c1
        have hm := (markOk_iff.1 hmk).resolve_left (by omega)
        obtain ⟨_, b2, _⟩ := bit_facts g0 g7 hm.1 hm.2
        obtain ⟨a, ha, hax, _⟩ := marksOf_mem (b2 hb).2.2.2
        obtain ⟨a1, _, a3, _⟩ := (holdGo_iff.1 h1).1 a ha
        rw [hax] at a1 a3
        exact hno ⟨idI_iff2.2 a1, hasI_no2.2 a3, .inr (.inl ⟨k1, hm, hb⟩)⟩
      · rw [if_neg c1]
        by_cases c2 : k = 2 ∧ hasI p.ls x = false ∧ marksOf p.hs x = 0
        · rw [if_pos c2]
          obtain ⟨k2, hl, hz⟩ := c2
          rw [if_neg]
          intro hk
          obtain ⟨_, q2, _, q4⟩ := papOk_iff.1 hk
          rw [insL_len] at q4
          have hx := (leftGo_iff.1 q2).1 x (insL_mem.2 (.inl rfl))
          exact hno ⟨idI_iff2.2 hx.1, hl, .inr (.inr ⟨k2, hz, by omega⟩)⟩
        · rw [if_neg c2]
  · rw [e]
    unfold sdo
    rw [if_pos ⟨k0, markOk_iff.2 (.inr ⟨m0, m2⟩), hl, hb⟩, if_pos hk]
  · rw [e]
    unfold sdo
    rw [if_neg (by intro c; omega), if_pos ⟨k1, markOk_iff.2 (.inr ⟨m0, m2⟩), hb⟩, if_pos hk]
  · rw [e]
    unfold sdo
    rw [if_neg (by intro c; omega), if_neg (by intro c; omega), if_pos ⟨k2, hl, hz⟩, if_pos hk]
/-- deeds, one after the other -/
structure DeedV where
  k : Int
  x : Int
  m : Int
def prun (p : PapV) : List DeedV → PapV × List Bool
  | [] => (p, [])
  | d :: r => ((prun (pdo p d.k d.x d.m).1 r).1, (pdo p d.k d.x d.m).2 :: (prun (pdo p d.k d.x d.m).1 r).2)
theorem prun_len (p : PapV) (ds : List DeedV) : (prun p ds).2.length = ds.length := by
  induction ds generalizing p with
  | nil => rfl
  | cons d r ih => simp [prun, ih]
theorem prun_app (p : PapV) (a b : List DeedV) : prun p (a ++ b) = ((prun (prun p a).1 b).1, (prun p a).2 ++ (prun (prun p a).1 b).2) := by
  induction a generalizing p with
  | nil => rfl
  | cons d r ih => simp [prun, ih]
theorem prun_snoc (p : PapV) (a : List DeedV) (d : DeedV) : prun p (a ++ [d]) = ((pdo (prun p a).1 d.k d.x d.m).1, (prun p a).2 ++ [(pdo (prun p a).1 d.k d.x d.m).2]) := by
  rw [prun_app]
  rfl
theorem prun_ok {p : PapV} (h : papOkV p = true) (ds : List DeedV) : papOkV (prun p ds).1 = true := by
  induction ds generalizing p with
  | nil => exact h
  | cons d r ih => exact ih (pdo_ok h d.k d.x d.m)
end Go.Proofs.YtbkfhcbecejomaaGreat
end
section
/- A region that draws its order, whose operations only read and whose callees leave what lay there as it was: one walk serves every order. -/
namespace Go.Proofs.YtbkfhcbecejomaaGreat
open Go Go.ChangeShapes Go.WideShapes Go.ChangeAt Go.RowKit
/-- a later world: nothing has turned that lay in w -/
structure BelW (w : World) where
  W : World
  ok : Below w.heap.size w W
instance (w : World) : Inhabited (BelW w) := ⟨⟨w, Below.refl _ _⟩⟩
theorem wp_region_below {P : Program} {id : Nat} {Q : Exit → Act → World → Prop} {a : Act} {w : World} {l : List Oper} (hm : P.follows .mixedOrders = true) (hB : Region.lexB .any l.toArray = true)
    (h : wpQuiet P l.toArray (fun w' => ∃ p : BelW w, w' = p.W) (fun a' => ∀ w', (∃ p : BelW w, w' = p.W) → Q .normal a' w') l a) : (Code.region id l.toArray true).wp P Q a w :=
  wp_region_quiet (C := fun w' => ∃ p : BelW w, w' = p.W) hm hB ⟨⟨_, Below.drew (Below.refl _ _)⟩, rfl⟩ (by simpa using h)
theorem calls_below {P : Program} {f : FuncId} {args : Array Value} {w : World} {p : BelW w} {v : Value} (h : Calls P f args p.W fun e w' => e = .returned v ∧ Below p.W.heap.size p.W w') :
    Calls P f args p.W fun e w'' => e = .returned v ∧ ∃ p' : BelW w, w'' = p'.W :=
  h.mono fun _ _ ⟨he, hb⟩ => ⟨he, ⟨_, below_trans p.ok hb⟩, rfl⟩
theorem calls_same {P : Program} {f : FuncId} {args : Array Value} {w : World} {p : BelW w} {v : Value} (h : Calls P f args p.W fun e w' => e = .returned v ∧ p.W = w') :
    Calls P f args p.W fun e w'' => e = .returned v ∧ ∃ p' : BelW w, w'' = p'.W :=
  h.mono fun _ _ ⟨he, hb⟩ => ⟨he, p, hb.symm⟩
theorem BelW.cell {w : World} (p : BelW w) {a : Addr} {v : Value} (hl : a.block < w.heap.size) (h : w.cell? a = some v) : p.W.cell? a = some v := (p.ok.cell (p := a) hl).trans h
theorem Blk.belw {w : World} {g : Nat} {t : TypeId} {cs : List Value} (h : Blk w g t cs) (p : BelW w) : Blk p.W g t cs := h.later p.ok
end Go.Proofs.YtbkfhcbecejomaaGreat
end
