/- The text of a yard, the program. -/
import Derived.Test.YtcdjgbechigepaaDoorYtS
import Derived.Test.YtcdjgbechigepaaDoorYdV
import Derived.Test.YtcdjgbechigepaaDoorItoa
import Derived.Test.YtcdjgbechigepaaDoorJoin
import Derived.Test.YtcdjgbechigepaaDoorOwnStep
import Derived.Lib.SmallJoins
namespace Go.Proofs.YtcdjgbechigepaaDoor
open Go Go.Shelf Go.ChangeShapes Go.WideShapes Go.ChangeAt Go.RowKit
set_option linter.unusedVariables false
/-- the table that Itoa reads -/
def TabW (w : World) : Prop := Lib.TabIs Tryd.prog w "internal/strconv.uint64pow10" .u64 Lib.pow10Tab
theorem gTab : Tryd.prog.globalNamed "internal/strconv.uint64pow10" = some 5 := by kernel_rfl
theorem TabW.later {w w' : World} (h : TabW w) (hb : Below w.heap.size w w') : TabW w' := Go.Joins.var_stays gTab h hb (Nat.le_refl _)
theorem string_infoT : (Tryd.prog.info? 9).map (fun i => (i.zero, i.size, i.bytes)) = some (some (.string ⟨#[]⟩), 1, 16) := by kernel_rfl
theorem string_infoU : Info Tryd.prog 9 (.string ⟨#[]⟩) 1 16 := Info.mk' string_infoT rfl (by decide) (by decide)
theorem join_rd (b o c : Nat) (xs : List ByteArray) (n : Nat) (hn : xs.length = n) (h0 : 0 < n) (sep : List UInt8) (w : World) (hr : RdV w (some ⟨b, o, none⟩) (strs xs)) (hc : n ≤ c) (hm : n ≤ 1000000) (hlen : (Lib.join (xs.map (·.data.toList)) sep).length ≤ 1000000000) :
    Calls Tryd.prog 34 #[.slice (some ⟨b, o, none⟩) n c, .string (txt sep)] w fun e w' => e = .returned (.string (txt (Lib.join (xs.map (·.data.toList)) sep))) ∧ Below w.heap.size w w' := by
  subst hn
  obtain ⟨b', o', e, hlt, hcl⟩ := hr.pos (k := 0) (by rw [strs_len]; exact h0)
  injection e with e
  injection e with e1 e2
  subst e1 e2
  have := Any.strings_Join Tryd.lays156 Tryd.Builder_Extra_156 b o c xs (txt sep) w (fun j x hj => by
    have hjl : j < (strs xs).length := by rw [strs_len]; exact (List.getElem?_eq_some_iff.1 hj).1
    rw [hcl j hjl, strs_at]
    obtain ⟨h1, h2⟩ := List.getElem?_eq_some_iff.1 hj
    rw [h2]) hlt (by omega) hc (by show (Lib.join _ (sep.toArray.toList)).length ≤ _; rw [List.toList_toArray]; omega)
  have e : (txt sep).data.toList = sep := by simp
  rw [e] at this
  exact this
def wordsT (zs : List Int) : List ByteArray := zs.map fun x => txt (Lib.itoa x)
theorem wordsT_data (zs : List Int) : (wordsT zs).map (·.data.toList) = zs.map Lib.itoa := by
  simp [wordsT, txt]
theorem wordsT_at {zs : List Int} {k : Nat} (h : k < (strs (wordsT zs)).length) : (strs (wordsT zs))[k] = .string (txt (Lib.itoa (zs[k]'(by simpa [strs, wordsT] using h)))) := by simp [strs, wordsT]
set_option maxHeartbeats 2000000 in
theorem implIdsText (A : Option Addr) (n c : Nat) (zs : List Int) (w : World) (hn : zs.length = n) (hr : RdV w A (ints zs)) (h5 : n ≤ 5) (hx : ∀ x ∈ zs, 1 ≤ x ∧ x ≤ 999) (ht : TabW w) :
    Calls Tryd.prog 33 #[.slice A n c] w fun e w' => e = .returned (.string (txt (Lib.join (zs.map Lib.itoa) [44]))) ∧ Below w.heap.size w w' := by
  have hmk := run_make_row' (P := Tryd.prog) 38 9 (.string ⟨#[]⟩) 16 Tryd.underlying38 string_infoT rfl .i64 .i64 n (by omega) (by omega)
  have hil : (strs (wordsT zs)).length = n := by rw [strs_len, wordsT, List.length_map]; exact hn
  have Hil := Lib.hid hil
  rw [made_one, ← hil, ← cpV_zero] at hmk
  rw [hil] at hmk
  have HN := Lib.hid hn
  have HX := Lib.hid hx
  have HT := Lib.hid ht
  clear hil hn hx ht
  go_enter Tryd.func33, Tryd.ntmps33
  go_wp2_with fail
  go_loopw [11, 4, 5] (fun i _ _ wr => ∃ k : Nat, k ≤ n ∧ i = .int .i64 k ∧ Blk wr w.heap.size 9 (cpV (.string ⟨#[]⟩) (strs (wordsT zs)) k) ∧ Below w.heap.size w wr) (fun i _ _ _ => n - (intOf i).toNat)
  case atStart => exact ⟨0, Nat.zero_le _, rfl, Blk.new _ _ _, (Below.refl _ _).alloc (Nat.le_refl _) _⟩
  case round =>
    obtain ⟨k, hk, rfl, hblk, hb⟩ := hrel
    by_cases hlt : k < n
    · have hkz : k < zs.length := by rw [HN.out]; exact hlt
      have hkl : k < (strs (wordsT zs)).length := by rw [Hil.out]; exact hlt
      obtain ⟨b, off, rfl, hlb, hc⟩ := (hr.below hb).pos (k := k) (by rw [ints_len]; exact hkz)
      have hsrc := hc k (by rw [ints_len]; exact hkz)
      rw [ints_at] at hsrc
      have hv := HX.out zs[k] (List.getElem_mem hkz)
      have HW := Lib.hid (wordsT_at hkl)
      generalize zs[k] = x at *
      have HBL := Lib.hid hblk
      have HB := Lib.hid hb
      have hI := fun (W : World) (hW : Below w.heap.size w W) => itoa_any x (by omega) (by omega) W (HT.out.later hW)
      have hki : (k : Int) < (n : Int) := by omega
      clear hc hmk hblk hb
      go_wp2_with fail
      refine (hI _ HB.out).mono ?_
      rintro e w2 ⟨rfl, b2⟩
      have hblk := HBL.out.later b2
      have HB2 := Lib.hid (below_trans HB.out b2)
      have hdst : w2.cell? ⟨w.heap.size, k, none⟩ = some ((cpV (.string ⟨#[]⟩) (strs (wordsT zs)) k)[k]'(by rw [cpV_len _ _ _ (by omega)]; exact hkl)) := hblk.cellAt k _
      have hset := hblk.set_ k (strs (wordsT zs))[k]
      rw [cpV_set _ _ _ hkl, HW.out] at hset
      have hfz : w2.frozen? ⟨w.heap.size, k, none⟩ = false := hblk.frozen k
      generalize ((cpV (.string ⟨#[]⟩) (strs (wordsT zs)) k)[k]'(by rw [cpV_len _ _ _ (by omega)]; exact hkl)) = y at hdst
      clear b2 hI hblk
      go_wp2_with fail
      go_roundw
      case rel => exact ⟨k + 1, by omega, by go_num, hset, HB2.out.setCell (Nat.le_refl _) _⟩
      case measure => simp [intOf]; omega
    · obtain rfl : k = n := by omega
      have hk2 : k = (strs (wordsT zs)).length := Hil.out.symm
      have hblk2 : Blk wr w.heap.size 9 (strs (wordsT zs)) := by rw [← cpV_all (.string ⟨#[]⟩) (strs (wordsT zs)), ← hk2]; exact hblk
      have hlen : (Lib.join ((wordsT zs).map (·.data.toList)) [44]).length ≤ 1000000000 := by
        rw [wordsT_data]
        have h1 := join_len (sep := [44]) (m := 3) (xs := zs.map Lib.itoa) (fun y hy => by
          obtain ⟨x, hx, rfl⟩ := List.mem_map.1 hy
          exact (itoa_len (HX.out x hx)).2)
        rw [List.length_map, HN.out] at h1
        simp only [List.length_cons, List.length_nil] at h1
        omega
      have hj := join_any w.heap.size k (wordsT zs) k (by rw [wordsT, List.length_map]; exact HN.out) [44] wr hblk2 (Nat.le_refl _) (by omega) hlen
      rw [wordsT_data] at hj
      have HB := Lib.hid hb
      clear hblk hblk2 hlen hmk hk2 hb
      generalize hjl : Lib.join (zs.map Lib.itoa) [44] = l at *
      have HJL := Lib.hid hjl
      clear hjl
      go_wp2_with fail
      refine hj.mono ?_
      rintro e w2 ⟨rfl, b2⟩
      have HB2 := Lib.hid (below_trans HB.out b2)
      clear b2 hj
      go_wp2_with fail
      go_ret
      exact ⟨by rw [HJL.out]; rfl, HB2.out⟩
theorem ids_empty {zs : List Int} (hx : ∀ x ∈ zs, 1 ≤ x ∧ x ≤ 999) : rowT zs = if (Lib.join (zs.map Lib.itoa) [44]).isEmpty = true then [45] else Lib.join (zs.map Lib.itoa) [44] := by
  unfold rowT
  by_cases h : zs = []
  · subst h
    rfl
  · have := join_pos (sep := [44]) (xs := zs.map Lib.itoa) (by simpa using h) (fun y hy => by
      obtain ⟨x, hxm, rfl⟩ := List.mem_map.1 hy
      exact (itoa_len (hx x hxm)).1)
    rw [if_neg h, if_neg]
    intro e
    rw [List.isEmpty_iff] at e
    rw [e] at this
    simp at this
def stacksT (rows : List (List Int)) : List ByteArray := rows.map fun s => txt (rowT s)
theorem stacksT_data (rows : List (List Int)) : (stacksT rows).map (·.data.toList) = rows.map rowT := by simp [stacksT, txt]
theorem stacksT_step {rows : List (List Int)} {k : Nat} (h : k < rows.length) : strs (stacksT (rows.take (k + 1))) = strs (stacksT (rows.take k)) ++ [.string (txt (rowT rows[k]))] := by
  rw [List.take_succ_eq_append_getElem h]
  unfold stacksT strs
  rw [List.map_append, List.map_append]
  rfl
set_option maxHeartbeats 4000000 in
set_option maxRecDepth 100000 in
theorem implYardText (high : Int) (A : Option Addr) (n c : Nat) (rows : List (List Int)) (w : World) (hn : rows.length = n) (hr : RdRR w A (intss rows)) (hm : n ≤ 1048576) (ht : TabW w) :
    Calls Tryd.prog 15 #[.agg #[.int .i64 high, .slice A n c]] w fun e w' => e = .returned (.string (txt (yardT high rows))) ∧ Below w.heap.size w w' := by
  have HN := Lib.hid hn
  have HTB := Lib.hid ht
  clear hn ht
  have hal : Below w.heap.size w (w.alloc (.cells #[.int .i64 high, .slice A n c] 24)) := (Below.refl _ _).alloc (Nat.le_refl _) _
  have hP : Blk (w.alloc (.cells #[.int .i64 high, .slice A n c] 24)) w.heap.size 24 [.int .i64 high, .slice A n c] := Blk.new _ _ _
  have hV := fun W (hW : Below w.heap.size w W) => implYardValid high A n c rows W HN.out (hr.below hW) (by omega)
  go_enter Tryd.func15, Tryd.ntmps15
  go_wp2_with fail
  generalize w.alloc (.cells #[.int .i64 high, .slice A n c] 24) = w1 at *
  refine (hV _ hal).mono ?_
  rintro e w2 ⟨rfl, b2⟩
  have HB2 := Lib.hid (below_trans hal b2)
  have P2 := hP.later b2
  clear hal hP b2 hV
  cases hok : yardOk high rows with
  | false =>
    have HT : Hid (yardT high rows = []) := Lib.hid (by simp [yardT, hok])
    clear hok P2
    go_wp2_with fail
    go_ret
    exact ⟨by rw [HT.out]; rfl, HB2.out⟩
  | true =>
    obtain ⟨h1, h2, h3⟩ := yard_each hok
    have hn1 : 1 ≤ n := by have := (yardOk_parts hok).1; rw [HN.out] at this; exact this
    have HR2 := Lib.hid h2
    have HR3 := Lib.hid h3
    rw [HN.out] at h1
    have HT : Hid (yardT high rows = Lib.join (rows.map rowT) [32]) := Lib.hid (by simp [yardT, hok])
    clear hok h2 h3
    have x0 := P2.cellAt 0 (by simp)
    have x1 := P2.cellAt 1 (by simp)
    simp only [List.getElem_cons_zero, List.getElem_cons_succ] at x0 x1
    have xl := P2.lt
    go_wp2_with fail
    clear x0 x1 xl P2
    go_loopw [3, 13, 5, 6] (fun o i _ _ wr => ∃ (k : Nat) (xs : List Value), k ≤ n ∧ i = .int .i64 k ∧ Hid (xs = strs (stacksT (rows.take k))) ∧ wr.ownsRow w2.heap.size 9 1 o k xs ∧ Hid (Below w2.heap.size w2 wr)) (fun _ i _ _ _ => n - (intOf i).toNat)
    case atStart => exact ⟨0, [], Nat.zero_le _, rfl, Lib.hid rfl, World.ownsRow_nil _ _ _ _, Lib.hid (Below.refl _ _)⟩
    case round =>
      obtain ⟨k, xs, hk, rfl, HXS, hown, HB⟩ := hrel
      have HB3 := Lib.hid (below_trans HB2.out HB.out)
      by_cases hlt : k < n
      · have hki : (k : Int) < (n : Int) := by omega
        have hkz : k < rows.length := by rw [HN.out]; exact hlt
        have hkl : k < (intss rows).length := by rw [intss_len]; exact hkz
        obtain ⟨b1, o1, rfl, hl, B, c', hcell, hle, hmx, hrB⟩ := (hr.below HB3.out).pos hkl
        rw [intss_at] at hrB
        simp only [intss_at, ints_len] at hcell
        have hz5 := HR2.out rows[k] (List.getElem_mem hkz)
        have hzx := HR3.out rows[k] (List.getElem_mem hkz)
        have HIE := Lib.hid (ids_empty hzx)
        have HST := Lib.hid (stacksT_step hkz)
        generalize rows[k] = zs at *
        have hL := fun W (hW : Below wr.heap.size wr W) => implIdsText B zs.length c' zs W rfl (hrB.below hW) hz5 hzx (HTB.out.later (below_trans HB3.out hW))
        generalize zs.length = p at *
        generalize Lib.join (zs.map Lib.itoa) [44] = ids at *
        generalize rowT zs = ds at *
        have HO := Lib.hid hown
        clear hown
        go_wp2_with fail
        refine (hL _ (Below.refl _ _)).mono ?_
        rintro e w3 ⟨rfl, b3⟩
        have HBW := Lib.hid (below_trans HB.out b3)
        have HO3 := Lib.hid (own_later HO.out b3)
        clear b3 hL HO
        have hsz : w2.heap.size ≤ w3.heap.size := HBW.out.size
        obtain ⟨OB, od, rfl, _, _⟩ := own_slice HO3.out
        cases hie : ids.isEmpty with
        | true =>
          have HD : Hid (ds = [45]) := Lib.hid (by rw [HIE.out, hie]; rfl)
          have HX2 : Hid (xs ++ [.string (txt [45])] = strs (stacksT (rows.take (k + 1)))) := Lib.hid (by rw [HST.out, HXS.out, HD.out])
          clear HIE HST HXS
          go_wp2_with (at_builtin; refine append_new rfl (.tmp 21) (.tmp 23) 38 rfl 9 _ _ _ Tryd.underlying38 string_infoU w2.heap.size w3 (.slice OB k od) k xs rfl HO3.out [.string (txt [45])] rfl rfl (by simp [Value.oneCell']) (by omega) hsz ?_; intro v' w6 hown6 hg6 hblk6)
          go_roundw
          case rel => exact ⟨k + 1, _, by omega, by go_num, HX2, hown6, Lib.hid (below_append HBW.out hg6 HO3.out rfl)⟩
          case measure => simp [intOf]; omega
        | false =>
          have HD : Hid (ds = ids) := Lib.hid (by rw [HIE.out, hie]; rfl)
          have HX2 : Hid (xs ++ [.string (txt ids)] = strs (stacksT (rows.take (k + 1)))) := Lib.hid (by rw [HST.out, HXS.out, HD.out])
          clear HIE HST HXS
          go_wp2_with (at_builtin; refine append_new rfl (.tmp 21) (.tmp 23) 38 rfl 9 _ _ _ Tryd.underlying38 string_infoU w2.heap.size w3 (.slice OB k od) k xs rfl HO3.out [.string (txt ids)] rfl rfl (by simp [Value.oneCell']) (by omega) hsz ?_; intro v' w6 hown6 hg6 hblk6)
          go_roundw
          case rel => exact ⟨k + 1, _, by omega, by go_num, HX2, hown6, Lib.hid (below_append HBW.out hg6 HO3.out rfl)⟩
          case measure => simp [intOf]; omega
      · obtain rfl : k = n := by omega
        have hxs := HXS.out
        rw [List.take_of_length_le (by rw [HN.out]; exact Nat.le_refl _)] at hxs
        obtain ⟨OB, od, rfl, hkd, hod⟩ := own_slice hown
        have hrd := own_rd hown
        rw [hxs] at hrd
        obtain ⟨g, go, rfl, _, _⟩ := hrd.pos (k := 0) (by rw [strs_len, stacksT, List.length_map, HN.out]; omega)
        have hlen : (Lib.join ((stacksT rows).map (·.data.toList)) [32]).length ≤ 1000000000 := by
          rw [stacksT_data]
          have h4 := join_len (sep := [32]) (m := 21) (xs := rows.map rowT) (fun y hy => by
            obtain ⟨s, hs, rfl⟩ := List.mem_map.1 hy
            exact rowT_len (HR3.out s hs) (HR2.out s hs))
          rw [List.length_map, HN.out] at h4
          simp only [List.length_cons, List.length_nil] at h4
          omega
        have hj := join_rd g go od (stacksT rows) k (by rw [stacksT, List.length_map]; exact HN.out) (by omega) [32] wr hrd hkd (by omega) hlen
        rw [stacksT_data, ← HT.out] at hj
        clear hlen hrd hxs HXS hown
        generalize hyt : yardT high rows = l at *
        have HL := Lib.hid hyt
        clear hyt
        go_wp2_with fail
        refine hj.mono ?_
        rintro e w4 ⟨rfl, b4⟩
        have HB4 := Lib.hid (below_trans HB3.out b4)
        clear b4 hj
        go_wp2_with fail
        go_ret
        exact ⟨by rw [HL.out]; rfl, HB4.out⟩
end Go.Proofs.YtcdjgbechigepaaDoor
