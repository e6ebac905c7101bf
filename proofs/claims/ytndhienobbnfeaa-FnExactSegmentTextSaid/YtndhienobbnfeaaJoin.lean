/- strings.Join, by the shelf's contract. -/
import Derived.Ground.NamesProg
import Derived.Shelf.Strings.OnBuilder
import Derived.Test.YtndhienobbnfeaaStr
import Derived.Test.YtndhienobbnfeaaRR
import Derived.Test.YtndhienobbnfeaaProg
namespace Go.Proofs.Ytndhienobbnfeaa
open Go Go.Shelf Go.ChangeShapes Go.WideShapes Go.ChangeAt Go.RowKit
def Try.lays156_ren : Go.Shelf.Ren := ⟨fun | 156 => 54 | 165 => 74 | 166 => 75 | 169 => 41 | 240 => 63 | 241 => 80 | 276 => 78 | 277 => 82 | n => n, fun | 31 => 38 | 9 => 9 | 3 => 3 | 4 => 4 | 0 => 0 | 20 => 20 | 72 => 50 | 76 => 81 | 70 => 48 | 37 => 24 | 75 => 53 | 127 => 71 | 164 => 83 | 5 => 5 | 80 => 55 | n => n, fun | n => n⟩
theorem Try.lays156 : Go.Proofs.Lays.n156 Try.prog Try.lays156_ren := {
  mixed := by kernel_rfl
  f156 := Try.func54.trans (congrArg some (by kernel_rfl))
  f165 := Try.func74.trans (congrArg some (by kernel_rfl))
  f166 := Try.func75.trans (congrArg some (by kernel_rfl))
  f169 := Try.func41.trans (congrArg some (by kernel_rfl))
  f240 := Try.func63.trans (congrArg some (by kernel_rfl))
  f241 := Try.func80.trans (congrArg some (by kernel_rfl))
  f276 := Try.func78.trans (congrArg some (by kernel_rfl))
  f277 := Try.func82.trans (congrArg some (by kernel_rfl))
  t0 := Try.underlying0
  a0 := Try.isAgg0
  z0 := Try.sizeOf0
  v0 := Try.zeroValue0
  t3 := Try.underlying3
  a3 := Try.isAgg3
  z3 := Try.sizeOf3
  v3 := Try.zeroValue3
  t4 := Try.underlying4
  a4 := Try.isAgg4
  z4 := Try.sizeOf4
  v4 := Try.zeroValue4
  t9 := Try.underlying9
  a9 := Try.isAgg9
  z9 := Try.sizeOf9
  v9 := Try.zeroValue9
  t20 := Try.underlying20
  a20 := Try.isAgg20
  z20 := Try.sizeOf20
  v20 := Try.zeroValue20
  t31 := Try.underlying38
  a31 := Try.isAgg38
  z31 := Try.sizeOf38
  v31 := Try.zeroValue38
  t37 := Try.underlying24
  a37 := Try.isAgg24
  z37 := Try.sizeOf24
  v37 := Try.zeroValue24
  t70 := Try.underlying48
  a70 := Try.isAgg48
  z70 := Try.sizeOf48
  v70 := Try.zeroValue48
  t72 := Try.underlying50
  a72 := Try.isAgg50
  z72 := Try.sizeOf50
  v72 := Try.zeroValue50
  t75 := Try.underlying53
  a75 := Try.isAgg53
  z75 := Try.sizeOf53
  v75 := Try.zeroValue53
  t76 := Try.underlying81
  a76 := Try.isAgg81
  z76 := Try.sizeOf81
  v76 := Try.zeroValue81
  t127 := Try.underlying71
  a127 := Try.isAgg71
  z127 := Try.sizeOf71
  v127 := Try.zeroValue71
  t164 := Try.underlying83
  a164 := Try.isAgg83
  z164 := Try.sizeOf83
  v164 := Try.zeroValue83 }
theorem Try.Builder_Extra_156 : Builder.Extra Try.prog Try.lays156_ren := { sizeBuilder := by kernel_rfl, liesBuilder := by kernel_rfl, t5 := Try.underlying5, a5 := Try.isAgg5, z5 := Try.sizeOf5, v5 := Try.zeroValue5, infoByte := by kernel_rfl, cellsByte := by kernel_rfl, sizeByte := by kernel_rfl, neB5 := by decide }
theorem join_any (g c : Nat) (xs : List ByteArray) (n : Nat) (hn : xs.length = n) (sep : List UInt8) (w : World) (hb : Blk w g 9 (strs xs)) (hc : n ≤ c) (hm : n ≤ 1000000) (hlen : (Lib.join (xs.map (·.data.toList)) sep).length ≤ 1000000000) :
    Calls Try.prog 54 #[.slice (some ⟨g, 0, none⟩) n c, .string (txt sep)] w fun e w' => e = .returned (.string (txt (Lib.join (xs.map (·.data.toList)) sep))) ∧ Below w.heap.size w w' := by
  subst hn
  have := Any.strings_Join Try.lays156 Try.Builder_Extra_156 g 0 c xs (txt sep) w (fun j x hj => by
    rw [Nat.zero_add, hb.cell, strs, List.getElem?_map, hj]; rfl) hb.lt (by omega) hc (by show (Lib.join _ (sep.toArray.toList)).length ≤ _; rw [List.toList_toArray]; omega)
  have e : (txt sep).data.toList = sep := by simp
  rw [e] at this
  exact this
end Go.Proofs.Ytndhienobbnfeaa
