/- What stands between the bytes sep of a text, the reference (l1Cut). -/
import Derived.Test.YtcdjgbechigepaaDoorSpl
import Derived.Test.YtcdjgbechigepaaDoorYtI
namespace Go.Proofs.YtcdjgbechigepaaDoor
open Go Go.ChangeShapes Go.WideShapes Go.ChangeAt Go.RowKit
set_option linter.unusedVariables false
/-- h ahead of the first piece -/
def glue (h : List UInt8) (l : List (List UInt8)) : List (List UInt8) := (h ++ l.headD []) :: l.tail
theorem glue_sep {c : UInt8} {s : List UInt8} {k : Nat} (hk : k < s.length) (h : List UInt8) (hc : s[k] = c) : glue h (cutB c (s.drop k)) = h :: cutB c (s.drop (k + 1)) := by
  rw [List.drop_eq_getElem_cons hk, cutB, if_pos hc]
  simp [glue]
theorem glue_byte {c : UInt8} {s : List UInt8} {k : Nat} (hk : k < s.length) (h : List UInt8) (hc : ¬ s[k] = c) : glue h (cutB c (s.drop k)) = glue (h ++ [s[k]]) (cutB c (s.drop (k + 1))) := by
  rw [List.drop_eq_getElem_cons hk, cutB, if_neg hc]
  simp [glue]
theorem glue_nil (c : UInt8) (s : List UInt8) : glue [] (cutB c s) = cutB c s := by
  unfold glue
  rw [List.nil_append, cutB_head]
theorem piece_step {s : List UInt8} {k f : Nat} (hk : k < s.length) (hf : f ≤ k) : (s.take (k + 1)).drop f = (s.take k).drop f ++ [s[k]] := by
  rw [List.take_succ_eq_append_getElem hk, List.drop_append_of_le_length (by rw [List.length_take]; omega)]
/-- s[a:b] -/
theorem run_piece {P : Program} (t : TypeId) (ht : P.underlying t = some .string) (l : List UInt8) (a b : Nat) (hab : a ≤ b) (hb : b ≤ l.length) (w : World) :
    (Instr.slice t (.string (txt l)) (some (.int .i64 (a : Int))) (some (.int .i64 (b : Int))) none).run P w = .ok (.string (txt ((l.take b).drop a))) w := by
  rw [run_slice_string (P := P) w t (txt l) .i64 .i64 (a : Int) (b : Int) ht (by omega) (by omega) (by rw [txt_size]; omega)]
  rw [show ((a : Int).toNat) = a from by omega, show ((b : Int).toNat) = b from by omega, cut_mk]
theorem pieces_snoc (done : List (List UInt8)) (x : List UInt8) : strs ((done ++ [x]).map txt) = strs (done.map txt) ++ [.string (txt x)] := by simp [strs]
set_option maxHeartbeats 4000000 in
theorem specCut_at (s : List UInt8) (c : UInt8) (hs : s.length ≤ 4294967296) (S : ByteArray) (hS : S = txt s) (w : World) : Calls Tryd.prog 18 #[.string S, .int .u8 ((c.toNat : Nat) : Int)] w
    (RVal fun u w' => w'.ownsRow w.heap.size 9 1 u (cutB c s).length (strs ((cutB c s).map txt)) ∧ Below w.heap.size w w') := by
  have HL : Hid (S.size = s.length) := Lib.hid (by rw [hS]; exact txt_size s)
  have HG : Hid (∀ k (h : k < S.size) (h' : k < s.length), S[k] = s[k]) := Lib.hid (by subst hS; exact fun k h h' => str_get (txt s) k h)
  have hpc : ∀ (a b : Nat), a ≤ b → b ≤ s.length → ∀ w, (Instr.slice 9 (.string S) (some (.int .i64 (a : Int))) (some (.int .i64 (b : Int))) none).run Tryd.prog w = .ok (.string (txt ((s.take b).drop a))) w := by
    subst hS
    exact fun a b h1 h2 w => run_piece (P := Tryd.prog) 9 Tryd.underlying9 s a b h1 h2 w
  have hfr : ∀ (a : Nat) (h : a ≤ s.length) (w : World), (Instr.slice 9 (.string S) (some (.int .i64 (a : Int))) none none).run Tryd.prog w = .ok (.string (txt (s.drop a))) w := by
    subst hS
    exact fun a h w => run_from (P := Tryd.prog) 9 Tryd.underlying9 (txt s) a (by rw [txt_size]; exact h) w
  clear hS
  go_enter Tryd.func18, Tryd.ntmps18
  go_wp2_with fail
  go_loopw [5, 6, 7] (fun o f i wr => ∃ (k from_ : Nat) (done : List (List UInt8)), k ≤ s.length ∧ from_ ≤ k ∧ done.length ≤ k ∧ i = .int .i64 k ∧ f = .int .i64 from_ ∧ wr.ownsRow w.heap.size 9 1 o done.length (strs (done.map txt)) ∧ Below w.heap.size w wr ∧ Hid (cutB c s = done ++ glue ((s.take k).drop from_) (cutB c (s.drop k)))) (fun _ _ i _ => s.length - (intOf i).toNat)
  case atStart =>
    exact ⟨0, 0, [], Nat.zero_le _, Nat.le_refl _, Nat.le_refl _, rfl, rfl, own_of_blk (cs := []) (Blk.new w 9 []) (Nat.le_refl _) rfl (by decide), below_new (Below.refl _ _) _, Lib.hid (by simp [glue_nil])⟩
  case round =>
    obtain ⟨k, from_, done, hk, hf, hd, rfl, rfl, ho, hb, HC⟩ := hrel
    obtain ⟨OB, od, rfl, _, _⟩ := own_slice ho
    have hsz := hb.size
    have HO := Lib.hid ho
    by_cases hlt : k < s.length
    · have hkS : k < S.size := by rw [HL.out]; exact hlt
      have hki : (k : Int) < (S.size : Int) := by omega
      have hSk : S.size = s.length := HL.out
      have hgk := HG.out k hkS hlt
      by_cases hx : s[k] = c
      · have hn : ((S[k].toNat : Nat) : Int) = ((c.toNat : Nat) : Int) := by rw [hgk, hx]
        have HC2 : Hid (cutB c s = done ++ [(s.take k).drop from_] ++ cutB c (s.drop (k + 1))) := Lib.hid (by rw [HC.out, glue_sep hlt _ hx]; simp)
        have hp := fun (w : World) => hpc from_ k hf hk w
        generalize (s.take k).drop from_ = x at *
        have HGK := Lib.hid hgk
        clear hx hgk hpc hfr
        go_wp2_with (at_builtin; refine append_new rfl (.tmp 20) (.tmp 25) 38 rfl 9 _ _ _ Tryd.underlying38 string_infoU w.heap.size wr (.slice OB done.length od) done.length (strs (done.map txt)) rfl HO.out [.string (txt x)] rfl rfl (by simp [Value.oneCell']) (by omega) hsz ?_; intro v' w6 hown6 hg6 hblk6)
        go_roundw
        case rel =>
          refine ⟨k + 1, k + 1, done ++ [x], by omega, Nat.le_refl _, by simp; omega, by go_num, by go_num, ?_, below_append hb hg6 HO.out rfl, Lib.hid ?_⟩
          · rw [pieces_snoc, List.length_append]; exact hown6
          · rw [HC2.out, show (s.take (k + 1)).drop (k + 1) = [] from List.drop_of_length_le (by rw [List.length_take]; omega), glue_nil]
        case measure => simp [intOf]; omega
      · have hn : ¬ ((S[k].toNat : Nat) : Int) = ((c.toNat : Nat) : Int) := by
          rw [hgk]
          exact fun h => hx (UInt8.toNat_inj.1 (by omega))
        have HC2 : Hid (cutB c s = done ++ glue ((s.take (k + 1)).drop from_) (cutB c (s.drop (k + 1)))) := Lib.hid (by rw [HC.out, glue_byte hlt _ hx, piece_step hlt hf])
        clear hx hgk hpc hfr
        go_wp2_with fail
        go_roundw
        case rel => exact ⟨k + 1, from_, done, by omega, by omega, by omega, by go_num, rfl, HO.out, hb, HC2⟩
        case measure => simp [intOf]; omega
    · obtain rfl : k = s.length := by omega
      have hSk : S.size = s.length := HL.out
      have HC2 : Hid (cutB c s = done ++ [s.drop from_]) := Lib.hid (by rw [HC.out, List.take_of_length_le (Nat.le_refl _), List.drop_of_length_le (Nat.le_refl _)]; simp [glue, cutB])
      have hp := fun (w : World) => hfr from_ hf w
      generalize s.drop from_ = x at *
      clear hpc hfr
      go_wp2_with (at_builtin; refine append_new rfl (.tmp 29) (.tmp 33) 38 rfl 9 _ _ _ Tryd.underlying38 string_infoU w.heap.size wr (.slice OB done.length od) done.length (strs (done.map txt)) rfl HO.out [.string (txt x)] rfl rfl (by simp [Value.oneCell']) (by omega) hsz ?_; intro v' w6 hown6 hg6 hblk6)
      go_ret
      rw [HC2.out, pieces_snoc, List.length_append]
      exact RVal.mk ⟨hown6, below_append hb hg6 HO.out rfl⟩
theorem specCut (s : List UInt8) (c : UInt8) (hs : s.length ≤ 4294967296) (w : World) : Calls Tryd.prog 18 #[.string (txt s), .int .u8 ((c.toNat : Nat) : Int)] w
    (RVal fun u w' => w'.ownsRow w.heap.size 9 1 u (cutB c s).length (strs ((cutB c s).map txt)) ∧ Below w.heap.size w w') := specCut_at s c hs _ rfl w
end Go.Proofs.YtcdjgbechigepaaDoor
