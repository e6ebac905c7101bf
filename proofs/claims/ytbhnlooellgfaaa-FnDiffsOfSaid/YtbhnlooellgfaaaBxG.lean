/- The library's Delete on lists of boxes. -/
import Derived.Test.YtbhnlooellgfaaaBxT
import Derived.Test.YtbhnlooellgfaaaSpl
import Derived.Deep.RegionLaw
namespace Go.Proofs.Ytbhnlooellgfaaa
open Go Go.ChangeShapes Go.WideShapes Go.ChangeAt Go.RowKit
set_option linter.unusedVariables false
theorem box_size : (Try.prog.info? 40).map (·.size) = some 5 := by kernel_rfl
theorem add_lit' (b o j : Nat) : (⟨b, o, none⟩ : Addr).add j = ⟨b, o + j, none⟩ := by unfold Addr.add; split <;> simp_all
theorem blk_src {w : World} {g : Nat} {t : TypeId} {a cs b : List Value} (h : Blk w g t (a ++ (cs ++ b))) : ∀ j v, cs[j]? = some v → w.cell? ((⟨g, a.length, none⟩ : Addr).add j) = some v := by
  intro j v hj
  obtain ⟨hl, rfl⟩ := List.getElem?_eq_some_iff.1 hj
  rw [add_lit', h.cell, List.getElem?_append_right (by omega), Nat.add_sub_cancel_left, List.getElem?_append_left hl, List.getElem?_eq_getElem hl]
theorem box_zero (w : World) : (zeroValue 40).run Try.prog w = .ok (.agg #[.int .i64 0, .int .i64 0, .int .i64 0, .int .i64 0, .bool false]) w := by
  obtain ⟨i0, hi0, hinf⟩ := Option.map_eq_some_iff.1 box_info
  simp only [Prod.mk.injEq] at hinf
  simp [zeroValue, typeInfo, hi0, hinf.1]
/-- without the element i -/
def delB (zs : List BoxV) (i : Nat) : List BoxV := zs.take i ++ zs.drop (i + 1)
def DelOutB (w : World) (base : Nat) (A : Option Addr) (n c i : Nat) (zs : List BoxV) : Ending → World → Prop :=
  RVal fun u w' => u = .slice A (n - 1) c ∧ w'.ownsRow base 40 5 (.slice A (n - 1) c) (n - 1) (boxs (delB zs i)) ∧ w.grownBy w' (Value.slice A n c).ownBlock
set_option maxRecDepth 100000 in
set_option maxHeartbeats 4000000 in
theorem deleteB_k (A : Option Addr) (n c i k : Nat) (hk : k = i + 1) (zs : List BoxV) (base : Nat) (w : World) (hn : zs.length = n) (h : w.ownsRow base 40 5 (.slice A n c) n (boxs zs)) (hi : i < n) (hm : n ≤ 1048576) :
    Calls Try.prog 47 #[.slice A n c, .int .i64 i, .int .i64 k] w (DelOutB w base A n c i zs) := by
  have HN := Lib.hid hn
  obtain ⟨_, _, e, hnc, hcm⟩ := own_slice h
  injection e with e1 _ e3
  subst e1 e3
  have hci : (c : Int) ≤ 9223372036854775807 := by unfold maxLen at hcm; omega
  rcases own_blk h with ⟨_, hn0, _⟩ | ⟨g, sp, rfl, hbg, hblk, hsp, _, _⟩
  · omega
  have hT : (boxs (zs.take i)).length = i * 5 := by rw [boxs_len, List.length_take, hn, Nat.min_eq_left (by omega)]
  have hX : (boxs [zs[i]'(by omega)]).length = 5 := by rw [boxs_len]; rfl
  have hD : (boxs (zs.drop (i + 1))).length = (n - 1 - i) * 5 := by rw [boxs_len, List.length_drop, hn]; omega
  have hone := boxs_cell (zs.drop (i + 1))
  have hsplit : boxs zs = boxs (zs.take i) ++ (boxs [zs[i]'(by omega)] ++ boxs (zs.drop (i + 1))) := by
    rw [← boxs_append, ← boxs_append]
    congr 1
    show zs = zs.take i ++ (zs[i]'(by omega) :: zs.drop (i + 1))
    rw [← List.drop_eq_getElem_cons, List.take_append_drop]
  have hdl : boxs (delB zs i) = boxs (zs.take i) ++ boxs (zs.drop (i + 1)) := boxs_append _ _
  generalize boxs (zs.take i) = T at *
  generalize boxs [zs[i]'(by omega)] = X at *
  generalize boxs (zs.drop (i + 1)) = D at *
  obtain ⟨p, q, hpq, hp, hq⟩ : ∃ p q, X ++ D = p ++ q ∧ p.length = D.length ∧ q.length = 5 := ⟨(X ++ D).take D.length, (X ++ D).drop D.length, by rw [List.take_append_drop], by rw [List.length_take, List.length_append]; omega, by rw [List.length_drop, List.length_append]; omega⟩
  have hB0 : Blk w.drew g 40 ((T ++ X) ++ (D ++ sp)) := by rw [hsplit, ← List.append_assoc T, List.append_assoc] at hblk; exact hblk
  have hB0' : Blk w.drew g 40 (T ++ (p ++ (q ++ sp))) := by rw [hsplit, hpq, List.append_assoc, List.append_assoc] at hblk; exact hblk
  have hTX : (T ++ X).length = (i + 1) * 5 := by rw [List.length_append]; omega
  obtain ⟨i0, hi0, hinf⟩ := Option.map_eq_some_iff.1 box_info
  simp only [Prod.mk.injEq] at hinf
  obtain ⟨hz0, hzs, hzb⟩ := hinf
  have hsrcS : ∀ a k, (a = ⟨g, (i + 1) * 5, none⟩ ∨ n - 1 - i = 0) → Src Try.prog i0.size 24 (.slice (some a) (n - 1 - i) k) (n - 1 - i) D w.drew := fun a k ha => by
    rw [hzs]
    refine Src.ofSlice w.drew Try.underlying24 a (n - 1 - i) k D hD ?_ hone
    rcases ha with rfl | h0
    · rw [← hTX]; exact blk_src (b := sp) hB0
    · intro s v hs
      obtain rfl : D = [] := List.eq_nil_of_length_eq_zero (by rw [hD, h0, Nat.zero_mul])
      simp at hs
  have hap : ∀ ty a k, (a = ⟨g, (i + 1) * 5, none⟩ ∨ n - 1 - i = 0) → (Builtin.append_ #[24, 24] ty #[.slice (some ⟨g, 0, none⟩) i c, .slice (some a) (n - 1 - i) k]).run Try.prog w.drew = .ok (.slice (some ⟨g, 0, none⟩) (n - 1) c) (w.drew.setCells g (i * 5) D) := fun ty a k ha => by
    have := run_append_room_src (P := Try.prog) w.drew 24 24 ty 40 i0 Try.underlying24 hi0 g 0 i c _ (n - 1 - i) D (hsrcS a k ha) (by omega) (fun s hs => by rw [hzs, Nat.zero_add]; exact blk_some hB0' _ (by simp only [List.length_append]; omega)) (fun s _ => hB0'.frozen _)
    rw [hzs, Nat.zero_add, show i + (n - 1 - i) = n - 1 from by omega] at this
    exact this
  have hB1 : Blk (w.drew.setCells g (i * 5) D) g 40 (T ++ (D ++ (q ++ sp))) := hB0'.setCells_ _ hT hp
  have hg1 : w.grownBy (w.drew.setCells g (i * 5) D) (some g) := World.grownBy.trans (b := w.drew) ⟨rfl, rfl, rfl, Nat.le_refl _, fun _ _ _ => rfl⟩ (grown_setCells g D (i * 5) w.drew)
  generalize w.drew.setCells g (i * 5) D = W1 at *
  have hB1' : Blk W1 g 40 ((T ++ D) ++ (q ++ sp)) := by rw [List.append_assoc]; exact hB1
  have hTD : (T ++ D).length = (n - 1) * 5 := by rw [List.length_append]; omega
  have hcl : ∀ ty k, (Builtin.clear_ #[24] ty #[.slice (some ⟨g, (n - 1) * 5, none⟩) 1 k]).run Try.prog W1 = .ok (.tuple #[]) (W1.setCells g ((n - 1) * 5) (List.replicate 1 [Value.int .i64 0, Value.int .i64 0, Value.int .i64 0, Value.int .i64 0, Value.bool false]).flatten) := fun ty k =>
    run_clear_k W1 24 40 ty (.agg #[.int .i64 0, .int .i64 0, .int .i64 0, .int .i64 0, .bool false]) [.int .i64 0, .int .i64 0, .int .i64 0, .int .i64 0, .bool false] Try.underlying24 box_zero rfl (by decide) (by simp [Value.oneCell']) g ((n - 1) * 5) 1 k (by omega) (fun s hs => blk_some hB1' _ (by rw [List.length_append, hTD, List.length_append, hq]; simp only [List.length_cons, List.length_nil] at hs; omega)) (fun s _ => hB1'.frozen _)
  have hZ : ((List.replicate 1 [Value.int .i64 0, Value.int .i64 0, Value.int .i64 0, Value.int .i64 0, Value.bool false]).flatten).length = 5 := by simp
  generalize (List.replicate 1 [Value.int .i64 0, Value.int .i64 0, Value.int .i64 0, Value.int .i64 0, Value.bool false]).flatten = Z at *
  have hB2 : Blk (W1.setCells g ((n - 1) * 5) Z) g 40 ((T ++ D) ++ (Z ++ sp)) := hB1'.setCells_ _ hTD (by omega)
  have hg2 := grown_setCells g Z ((n - 1) * 5) W1
  generalize W1.setCells g ((n - 1) * 5) Z = W2 at *
  have HF : Hid (W2.ownsRow base 40 5 (.slice (some ⟨g, 0, none⟩) (n - 1) c) (n - 1) (boxs (delB zs i))) := Lib.hid (by rw [hdl]; exact own_mk (sp := Z ++ sp) hB2 hbg hTD (by rw [List.length_append, hZ, hsp]; omega) (by omega) hcm)
  have HG : Hid (w.grownBy W2 (some g)) := Lib.hid (World.grownBy.trans hg1 hg2)
  have hki : ¬ ((i : Int) = (k : Int)) := by omega
  have hkn : (k : Int) ≤ (n : Int) := by omega
  have hkn' : k ≤ n := by omega
  have hik : (i : Int) ≤ (k : Int) := by omega
  have hik' : i ≤ k := by omega
  have hic : (i : Int) ≤ (c : Int) := by omega
  have hic' : i ≤ c := by omega
  have hb4 : ¬ (c = n - 1) := by omega
  have hnn : n - (n - 1) = 1 := by omega
  have hnj : n - 1 ≤ n := by omega
  have hnji : ((n - 1 : Nat) : Int) ≤ (n : Int) := by omega
  have HK := Lib.hid hk
  clear hn hD hone hsplit hT hpq hp hq hB0 hB0' hi0 hz0 hzs hzb hsrcS hB1 hg1 hB1' hZ hB2 hg2 hblk hsp h hTX hTD hdl hX
  by_cases hck : c = k
  · obtain rfl : n = c := by omega
    subst hck
    have hni : n - 1 = i := by omega
    have hap2 : ∀ ty k, (Builtin.append_ #[24, 24] ty #[.slice (some ⟨g, 0, none⟩) i n, .slice (some ⟨g, 0, none⟩) 0 k]).run Try.prog w.drew = .ok (.slice (some ⟨g, 0, none⟩) (n - 1) n) W1 := fun ty k => by
      have := hap ty ⟨g, 0, none⟩ k (.inr (by omega))
      rw [show n - 1 - i = 0 from by omega] at this
      exact this
    clear hap hk hni
    go_enter Try.func47, Try.ntmps47
    go_wp2_with fail
    go_region_law (refine step_append_runE rfl (.tmp 22) (.tmp 25) 24 24 rfl (.slice (some ⟨g, 0, none⟩) i (n)) (.slice (some ⟨g, 0, none⟩) 0 0) (by simp [Act.eval, Act.put]) (by simp [Act.eval, Act.put]) (hap2 _ _) ?_)
    go_wp2_with (refine wpList_clear_runE _ rfl _ 24 rfl _ rfl (hcl _ _) ?_)
    go_ret
    exact RVal.mk ⟨by simp, by simpa using HF.out, HG.out⟩
  · have hap2 : ∀ ty q, (Builtin.append_ #[24, 24] ty #[.slice (some ⟨g, 0, none⟩) i c, .slice (some ⟨g, k * 5, none⟩) (n - k) q]).run Try.prog w.drew = .ok (.slice (some ⟨g, 0, none⟩) (n - 1) c) W1 := fun ty q => by rw [show n - k = n - 1 - i from by omega, hk]; exact hap ty _ q (.inl rfl)
    clear hap hk
    go_enter Try.func47, Try.ntmps47
    go_wp2_with fail
    go_region_law (refine step_append_runE rfl (.tmp 22) (.tmp 25) 24 24 rfl (.slice (some ⟨g, 0, none⟩) i (c)) (.slice (some ⟨g, k * 5, none⟩) (n - k) (c - k)) (by simp [Act.eval, Act.put]) (by simp [Act.eval, Act.put]) (hap2 _ _) ?_)
    go_wp2_with (refine wpList_clear_runE _ rfl _ 24 rfl _ rfl (hcl _ _) ?_)
    go_ret
    exact RVal.mk ⟨by simp, by simpa using HF.out, HG.out⟩
theorem deleteB_one (A : Option Addr) (n c i : Nat) (zs : List BoxV) (base : Nat) (w : World) (hn : zs.length = n) (h : w.ownsRow base 40 5 (.slice A n c) n (boxs zs)) (hi : i < n) (hm : n ≤ 1048576) :
    Calls Try.prog 47 #[.slice A n c, .int .i64 i, .int .i64 ((i : Int) + 1)] w (DelOutB w base A n c i zs) := by
  have := deleteB_k A n c i (i + 1) rfl zs base w hn h hi hm
  rwa [Int.natCast_add, show ((1 : Nat) : Int) = 1 from rfl] at this
theorem deleteB_any (g n c i : Nat) (zs : List BoxV) (base : Nat) (w : World) (hn : zs.length = n) (h : w.ownsRow base 40 5 (.slice (some ⟨g, 0, none⟩) n c) n (boxs zs)) (hi : i < n) (hm : n ≤ 1048576) :
    Calls Try.prog 47 #[.slice (some ⟨g, 0, none⟩) n c, .int .i64 i, .int .i64 ((i : Int) + 1)] w fun e w' => e = .returned (.slice (some ⟨g, 0, none⟩) (n - 1) c) ∧ w'.ownsRow base 40 5 (.slice (some ⟨g, 0, none⟩) (n - 1) c) (n - 1) (boxs (zs.take i ++ zs.drop (i + 1))) ∧ w.grownBy w' (some g) := by
  refine (deleteB_one (some ⟨g, 0, none⟩) n c i zs base w hn h hi hm).mono ?_
  rintro e w' ⟨_, rfl, rfl, h1, h2⟩
  exact ⟨rfl, h1, h2⟩
end Go.Proofs.Ytbhnlooellgfaaa
