/- strings.Join, by the shelf's contract. -/
import Derived.Ground.NamesProg
import Derived.Shelf.Strings.OnBuilder
import Derived.Test.YtljbbhipdfnppaaStr
import Derived.Test.YtljbbhipdfnppaaRR
import Derived.Test.YtljbbhipdfnppaaProg
namespace Go.Proofs.Ytljbbhipdfnppaa
open Go Go.Shelf Go.ChangeShapes Go.WideShapes Go.ChangeAt Go.RowKit
def Try.lays156_ren : Go.Shelf.Ren := ⟨fun | 156 => 39 | 165 => 61 | 166 => 62 | 169 => 60 | 240 => 67 | 241 => 68 | 276 => 70 | 277 => 71 | n => n, fun | 31 => 28 | 9 => 9 | 3 => 3 | 4 => 4 | 0 => 0 | 20 => 20 | 72 => 67 | 76 => 73 | 70 => 65 | 37 => 22 | 75 => 69 | 127 => 76 | 164 => 77 | 5 => 5 | 80 => 71 | n => n, fun | n => n⟩
theorem Try.lays156 : Go.Proofs.Lays.n156 Try.prog Try.lays156_ren := {
  mixed := by kernel_rfl
  f156 := Try.func39.trans (congrArg some (by kernel_rfl))
  f165 := Try.func61.trans (congrArg some (by kernel_rfl))
  f166 := Try.func62.trans (congrArg some (by kernel_rfl))
  f169 := Try.func60.trans (congrArg some (by kernel_rfl))
  f240 := Try.func67.trans (congrArg some (by kernel_rfl))
  f241 := Try.func68.trans (congrArg some (by kernel_rfl))
  f276 := Try.func70.trans (congrArg some (by kernel_rfl))
  f277 := Try.func71.trans (congrArg some (by kernel_rfl))
  t0 := Try.underlying0
  a0 := Try.isAgg0
  z0 := Try.sizeOf0
  v0 := Try.zeroValue0
  t3 := Try.underlying3
  a3 := Try.isAgg3
  z3 := Try.sizeOf3
  v3 := Try.zeroValue3
  t4 := Try.underlying4
  a4 := Try.isAgg4
  z4 := Try.sizeOf4
  v4 := Try.zeroValue4
  t9 := Try.underlying9
  a9 := Try.isAgg9
  z9 := Try.sizeOf9
  v9 := Try.zeroValue9
  t20 := Try.underlying20
  a20 := Try.isAgg20
  z20 := Try.sizeOf20
  v20 := Try.zeroValue20
  t31 := Try.underlying28
  a31 := Try.isAgg28
  z31 := Try.sizeOf28
  v31 := Try.zeroValue28
  t37 := Try.underlying22
  a37 := Try.isAgg22
  z37 := Try.sizeOf22
  v37 := Try.zeroValue22
  t70 := Try.underlying65
  a70 := Try.isAgg65
  z70 := Try.sizeOf65
  v70 := Try.zeroValue65
  t72 := Try.underlying67
  a72 := Try.isAgg67
  z72 := Try.sizeOf67
  v72 := Try.zeroValue67
  t75 := Try.underlying69
  a75 := Try.isAgg69
  z75 := Try.sizeOf69
  v75 := Try.zeroValue69
  t76 := Try.underlying73
  a76 := Try.isAgg73
  z76 := Try.sizeOf73
  v76 := Try.zeroValue73
  t127 := Try.underlying76
  a127 := Try.isAgg76
  z127 := Try.sizeOf76
  v127 := Try.zeroValue76
  t164 := Try.underlying77
  a164 := Try.isAgg77
  z164 := Try.sizeOf77
  v164 := Try.zeroValue77 }
theorem Try.Builder_Extra_156 : Builder.Extra Try.prog Try.lays156_ren := { sizeBuilder := by kernel_rfl, liesBuilder := by kernel_rfl, t5 := Try.underlying5, a5 := Try.isAgg5, z5 := Try.sizeOf5, v5 := Try.zeroValue5, infoByte := by kernel_rfl, cellsByte := by kernel_rfl, sizeByte := by kernel_rfl, neB5 := by decide }
theorem join_any (g c : Nat) (xs : List ByteArray) (n : Nat) (hn : xs.length = n) (sep : List UInt8) (w : World) (hb : Blk w g 9 (strs xs)) (hc : n ≤ c) (hm : n ≤ 1000000) (hlen : (Lib.join (xs.map (·.data.toList)) sep).length ≤ 1000000000) :
    Calls Try.prog 39 #[.slice (some ⟨g, 0, none⟩) n c, .string (txt sep)] w fun e w' => e = .returned (.string (txt (Lib.join (xs.map (·.data.toList)) sep))) ∧ Below w.heap.size w w' := by
  subst hn
  have := Any.strings_Join Try.lays156 Try.Builder_Extra_156 g 0 c xs (txt sep) w (fun j x hj => by
    rw [Nat.zero_add, hb.cell, strs, List.getElem?_map, hj]; rfl) hb.lt (by omega) hc (by show (Lib.join _ (sep.toArray.toList)).length ≤ _; rw [List.toList_toArray]; omega)
  have e : (txt sep).data.toList = sep := by simp
  rw [e] at this
  exact this
end Go.Proofs.Ytljbbhipdfnppaa
