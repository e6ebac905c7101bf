/- What the program holds while it reads a segment: the segment so far, and a part that is being read. -/
import Derived.Test.YtljbbhipdfnppaaSegRC
namespace Go.Proofs.Ytljbbhipdfnppaa
open Go Go.ChangeShapes Go.WideShapes Go.ChangeAt Go.RowKit
/-- bytes as cells -/
def pB (p : List UInt8) : List Value := p.map fun b => .int .u8 (b.toNat : Int)
theorem pB_len (p : List UInt8) : (pB p).length = p.length := by simp [pB]
theorem pB_snoc (p : List UInt8) (c : UInt8) : pB (p ++ [c]) = pB p ++ [.int .u8 (c.toNat : Int)] := by simp [pB]
theorem pB_one (p : List UInt8) : ∀ u ∈ pB p, u.oneCell' = true := by
  intro u hu
  simp only [pB, List.mem_map] at hu
  obtain ⟨z, _, rfl⟩ := hu
  rfl
theorem push_all (p : List UInt8) : ∀ (acc : List UInt8), (p.map fun b => (b.toNat : Int)).foldl (fun r n => r.push (UInt8.ofNat n.toNat)) (txt acc) = txt (acc ++ p) := by
  induction p with
  | nil => intro acc; simp
  | cons c p ih =>
    intro acc
    simp only [List.map_cons, List.foldl_cons]
    have e : (txt acc).push (UInt8.ofNat ((c.toNat : Int)).toNat) = txt (acc ++ [c]) := by
      rw [Int.toNat_natCast, UInt8.ofNat_toNat]
      show ByteArray.mk (acc.toArray.push c) = _
      simp
    rw [e, ih]
    simp
/-- string(part) -/
theorem run_tostr (w : World) (A : Option Addr) (n c : Nat) (p : List UInt8) (hr : RdV w A (pB p)) (hn : p.length = n) : (convert 22 9 (.slice A n c)).run Try.prog w = .ok (.string (txt p)) w := by
  rw [run_convert_bytes_string w 22 9 5 A n c Try.underlying22 Try.underlying5 Try.underlying9]
  cases A with
  | none =>
    rcases hr with h | ⟨b, off, h, _⟩
    · have : p = [] := List.eq_nil_of_length_eq_zero (by rw [← pB_len, h]; rfl)
      subst this
      rfl
    · cases h
  | some a =>
    have hl := run_bytesToString (P := Try.prog) w a n c (p.map fun b => (b.toNat : Int)) (by
      have hc : ∀ j v, (pB p)[j]? = some v → w.cell? (a.add j) = some v := by
        intro j v hj
        have hjl := (List.getElem?_eq_some_iff.1 hj).1
        obtain ⟨b, off, e, _, hcell⟩ := hr.pos hjl
        injection e with e
        subst e
        have := hcell j hjl
        rw [(List.getElem?_eq_some_iff.1 hj).2] at this
        have he : (⟨b, off, none⟩ : Addr).add j = ⟨b, off + j, none⟩ := by unfold Addr.add; split <;> simp_all
        rw [he]
        exact this
      have := run_loadCells_list (P := Try.prog) (w := w) a (pB p) hc
      rw [pB_len, hn] at this
      rw [this]
      simp [pB])
    rw [hl]
    have := push_all p []
    simp only [List.nil_append] at this
    rw [← this]
    rfl
/-- the state: the result's cell, the segment so far, the part -/
def RI (w wr : World) (tg : List UInt8) (v vp : Value) (E : List (List (List UInt8))) (p : List UInt8) : Prop :=
  ∃ mid, w.heap.size + 2 ≤ mid ∧ OwnRR wr (w.heap.size + 2) mid 28 9 v (elsC E) ∧ mid ≤ wr.heap.size ∧ wr.ownsRow mid 5 1 vp p.length (pB p) ∧ Blk wr (w.heap.size + 1) 25 [.string (txt tg), v] ∧ Blk wr w.heap.size 25 [.string ⟨#[]⟩, .slice none 0 0] ∧ Below w.heap.size w wr
section
variable {w wr : World} {tg : List UInt8} {v vp : Value} {E : List (List (List UInt8))} {p : List UInt8}
theorem RI.form (h : RI w wr tg v vp E p) : ∃ A c, v = .slice A E.length c ∧ E.length ≤ c ∧ c ≤ maxLen := by
  obtain ⟨mid, _, h1, _⟩ := h
  obtain ⟨A, c, e, e1, e2⟩ := h1.len
  rw [elsC_len] at e e1
  exact ⟨A, c, e, e1, e2⟩
theorem RI.part (h : RI w wr tg v vp E p) : ∃ A c, vp = .slice A p.length c := by
  obtain ⟨mid, _, _, _, h2, _⟩ := h
  obtain ⟨A, c, e, _⟩ := own_slice h2
  exact ⟨A, c, e⟩
theorem RI.conv {A : Option Addr} {n c : Nat} (h : RI w wr tg v (.slice A n c) E p) (hn : p.length = n) : (convert 22 9 (.slice A n c)).run Try.prog wr.drew = .ok (.string (txt p)) wr.drew := by
  obtain ⟨mid, _, _, _, h2, _⟩ := h
  rw [hn] at h2
  exact run_tostr _ A n c p ((own_rd h2).drew) hn
theorem RI.seg (h : RI w wr tg v vp E p) : Blk wr (w.heap.size + 1) 25 [.string (txt tg), v] := by
  obtain ⟨_, _, _, _, _, h, _⟩ := h; exact h
theorem RI.res (h : RI w wr tg v vp E p) : Blk wr w.heap.size 25 [.string ⟨#[]⟩, .slice none 0 0] := by
  obtain ⟨_, _, _, _, _, _, h, _⟩ := h; exact h
theorem RI.bel (h : RI w wr tg v vp E p) : Below w.heap.size w wr := by
  obtain ⟨_, _, _, _, _, _, _, h⟩ := h; exact h
theorem RI.rows (h : RI w wr tg v vp E p) : OwnRR wr (w.heap.size + 2) wr.heap.size 28 9 v (elsC E) := by
  obtain ⟨mid, _, h1, h2, _⟩ := h
  exact h1.hi h2 (Nat.le_refl _)
/-- what lies below the rows stays -/
theorem RI.keep {w8 : World} {row : Option Nat} (h : RI w wr tg v vp E p) (hg : wr.grownBy w8 row) (hr : ∀ b, row = some b → w.heap.size + 2 ≤ b) :
    Blk w8 (w.heap.size + 1) 25 [.string (txt tg), v] ∧ Blk w8 w.heap.size 25 [.string ⟨#[]⟩, .slice none 0 0] ∧ Below w.heap.size w w8 :=
  ⟨(hg.block _ h.seg.lt (fun e => by have := hr _ e.symm; omega)).trans h.seg, (hg.block _ h.res.lt (fun e => by have := hr _ e.symm; omega)).trans h.res, h.bel.grown hg h.bel.size (fun b e => by have := hr b e; omega)⟩
/-- a byte more in the part -/
theorem RI.grow (h : RI w wr tg v vp E p) : ∃ mid, mid ≤ wr.heap.size ∧ wr.ownsRow mid 5 1 vp p.length (pB p) ∧
    ∀ (v' : Value) (w8 : World) (c : UInt8), w8.ownsRow mid 5 1 v' (p.length + 1) (pB p ++ [.int .u8 (c.toNat : Int)]) → wr.grownBy w8 vp.ownBlock → RI w w8 tg v v' E (p ++ [c]) := by
  have h0 := h
  obtain ⟨mid, hm, h1, h2, h3, h4, h5, h6⟩ := h
  refine ⟨mid, h2, h3, fun v' w8 c ho hg => ?_⟩
  obtain ⟨k1, k2, k3⟩ := h0.keep hg (fun b e => by have := (h3.lt b e).1; omega)
  refine ⟨mid, hm, ?_, Nat.le_trans h2 hg.size, by rw [pB_snoc, List.length_append]; exact ho, k1, k2, k3⟩
  exact h1.out (lo' := mid) (hi' := wr.heap.size) (out_of_grown hg (fun b e => h3.lt b e)) (.inl (Nat.le_refl _))
/-- the part becomes the last element's -/
theorem RI.flush {E0 : List (List (List UInt8))} {L : List (List UInt8)} (h : RI w wr tg v vp (E0 ++ [L]) p) : ∃ g c B c', v = .slice (some ⟨g, 0, none⟩) (E0.length + 1) c ∧ g < wr.heap.size ∧ w.heap.size + 2 ≤ g ∧ wr.cell? ⟨g, E0.length, none⟩ = some (.slice B L.length c') ∧ wr.ownsRow (w.heap.size + 2) 9 1 (.slice B L.length c') L.length (elC L) ∧
    ∀ (w8 : World) (u : Value), wr.drew.grownBy w8 (Value.ownBlock (.slice B L.length c')) → w8.ownsRow (w.heap.size + 2) 9 1 u (L.length + 1) (elC L ++ [.string (txt p)]) → (u.ownBlock = Value.ownBlock (.slice B L.length c') ∨ u.ownBlock = some (wr.heap.size + 1)) →
      w8.cell? ⟨g, E0.length, none⟩ = some (.slice B L.length c') ∧ w8.frozen? ⟨g, E0.length, none⟩ = false ∧ w8.cell? ⟨w.heap.size + 1, 0, none⟩ = some (.string (txt tg)) ∧ w8.cell? ⟨w.heap.size + 1, 1, none⟩ = some v ∧ RI w (w8.setCell ⟨g, E0.length, none⟩ u) tg v (.slice none 0 0) (E0 ++ [L ++ [p]]) [] := by
  have h0 := h
  obtain ⟨mid, hm, h1, h2, h3, h4, h5, h6⟩ := h
  have h1' := h1.hi h2 (Nat.le_refl _)
  obtain ⟨g, c, B, c', hv, hg1, hg2, hcell, hfz, hown, hne, hput⟩ := els_put h1'
  refine ⟨g, c, B, c', hv, hg2, hg1, hcell, hown.row, fun w8 u hgr0 ho hb => ?_⟩
  have hgr : wr.grownBy w8 (Value.ownBlock (.slice B L.length c')) := ⟨hgr0.os, hgr0.tape, hgr0.output, hgr0.size, hgr0.block⟩
  have hput' := hput w8 u (L ++ [p]) hgr (by rw [elC_snoc, List.length_append]; exact ho) (by
    rcases hb with e | e
    · exact .inl e
    · exact .inr ⟨_, e, Nat.le_succ _⟩)
  obtain ⟨p1, p2⟩ := hput'
  obtain ⟨k1, k2, k3⟩ := h0.keep hgr (fun b e => (hown.row.lt b e).1)
  have hbl := hgr.block g hg2 (fun e => hne g e.symm rfl)
  have c0 := k1.cellAt 0 (by simp)
  have c1 := k1.cellAt 1 (by simp)
  simp only [List.getElem_cons_zero, List.getElem_cons_succ] at c0 c1
  refine ⟨(World.cell?_of_block hbl).trans hcell, (World.frozen?_of_block hbl).trans hfz, c0, c1, _, ?_, p1, Nat.le_refl _, World.ownsRow_nil _ _ _ _, k1.far (p := ⟨g, _, none⟩) (by show w.heap.size + 1 ≠ g; omega) u, k2.far (p := ⟨g, _, none⟩) (by show w.heap.size ≠ g; omega) u, k3.setCell (p := ⟨g, _, none⟩) (by show w.heap.size ≤ g; omega) u⟩
  have := p2.size
  omega
/-- a new element -/
theorem RI.push (h : RI w wr tg v vp E p) : ∃ hs, wr.ownsRow (w.heap.size + 2) 28 1 v E.length hs ∧
    ∀ (v' : Value) (w8 : World), w8.ownsRow (w.heap.size + 2) 28 1 v' (E.length + 1) (hs ++ [.slice none 0 0]) → wr.grownBy w8 v.ownBlock → (v'.ownBlock = v.ownBlock ∨ v'.ownBlock = some (wr.heap.size + 1)) →
      w8.cell? ⟨w.heap.size + 1, 1, none⟩ = some v ∧ w8.frozen? ⟨w.heap.size + 1, 1, none⟩ = false ∧ RI w (w8.setCell ⟨w.heap.size + 1, 1, none⟩ v') tg v' (.slice none 0 0) (E ++ [[]]) [] := by
  have h0 := h
  obtain ⟨mid, hm, h1, h2, h3, h4, h5, h6⟩ := h
  obtain ⟨hs, hrow, hsn⟩ := els_snoc (u := .slice none 0 0) (L := []) h1 (World.ownsRow_nil _ _ _ _) (fun g e => by simp [Value.ownBlock] at e)
  refine ⟨hs, hrow, fun v' w8 ho hg hb => ?_⟩
  obtain ⟨k1, k2, k3⟩ := h0.keep hg (fun b e => (hrow.lt b e).1)
  have hnew := hsn v' w8 ho hg hb
  have c1 := k1.cellAt 1 (by simp)
  simp only [List.getElem_cons_zero, List.getElem_cons_succ] at c1
  have hset := k1.set_ 1 v'
  simp only [List.set_cons_zero, List.set_cons_succ] at hset
  refine ⟨c1, k1.frozen 1, _, ?_, hnew.set_far (w.heap.size + 1) 1 v' (by omega) (Nat.le_refl _), Nat.le_refl _, World.ownsRow_nil _ _ _ _, hset, k2.far (p := ⟨w.heap.size + 1, 1, none⟩) (by simp) v', k3.setCell (p := ⟨w.heap.size + 1, 1, none⟩) (by simp) v'⟩
  have := hg.size
  simp only [World.setCell, Array.size_modify]
  omega
end
end Go.Proofs.Ytljbbhipdfnppaa
