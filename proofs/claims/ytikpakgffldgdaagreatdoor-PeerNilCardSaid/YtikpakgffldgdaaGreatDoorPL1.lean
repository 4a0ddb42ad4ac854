/- The library's writing method of a builder, at this program's numbers. -/
import Derived.Shelf.Strings.Builder1
import Derived.Shelf.Strings.BuilderK
import Derived.Test.YtikpakgffldgdaaGreatDoorPShelf
namespace Go.Proofs
open Go.Shelf Go.RowKit
def Tryz.l166r : Go.Shelf.Ren := ⟨fun | 166 => 178 | 240 => 229 | 276 => 269 | n => n, fun | 70 => 339 | 9 => 9 | 0 => 0 | 72 => 341 | 37 => 144 | 3 => 3 | 4 => 4 | 5 => 5 | 20 => 20 | 75 => 245 | 80 => 81 | 164 => 459 | n => n, fun | n => n⟩
theorem Tryz.l166 : Go.Proofs.Lays.n166 Tryz.prog Tryz.l166r := {
  mixed := by kernel_rfl
  f166 := Tryz.func178.trans (congrArg some (by kernel_rfl))
  f240 := Tryz.func229.trans (congrArg some (by kernel_rfl))
  f276 := Tryz.func269.trans (congrArg some (by kernel_rfl))
  t0 := Tryz.underlying0
  a0 := Tryz.isAgg0
  z0 := Tryz.sizeOf0
  v0 := Tryz.zeroValue0
  t3 := Tryz.underlying3
  a3 := Tryz.isAgg3
  z3 := Tryz.sizeOf3
  v3 := Tryz.zeroValue3
  t4 := Tryz.underlying4
  a4 := Tryz.isAgg4
  z4 := Tryz.sizeOf4
  v4 := Tryz.zeroValue4
  t9 := Tryz.underlying9
  a9 := Tryz.isAgg9
  z9 := Tryz.sizeOf9
  v9 := Tryz.zeroValue9
  t20 := Tryz.underlying20
  a20 := Tryz.isAgg20
  z20 := Tryz.sizeOf20
  v20 := Tryz.zeroValue20
  t37 := Tryz.underlying144
  a37 := Tryz.isAgg144
  z37 := Tryz.sizeOf144
  v37 := Tryz.zeroValue144
  t70 := Tryz.underlying339
  a70 := Tryz.isAgg339
  z70 := Tryz.sizeOf339
  v70 := Tryz.zeroValue339
  t72 := Tryz.underlying341
  a72 := Tryz.isAgg341
  z72 := Tryz.sizeOf341
  v72 := Tryz.zeroValue341
  t75 := Tryz.underlying245
  a75 := Tryz.isAgg245
  z75 := Tryz.sizeOf245
  v75 := Tryz.zeroValue245
  t164 := Tryz.underlying459
  a164 := Tryz.isAgg459
  z164 := Tryz.sizeOf459
  v164 := Tryz.zeroValue459 }
theorem Tryz.x166 : Builder.Extra Tryz.prog Tryz.l166r := {
  sizeBuilder := by kernel_rfl
  liesBuilder := by kernel_rfl
  t5 := Tryz.underlying5
  a5 := Tryz.isAgg5
  z5 := Tryz.sizeOf5
  v5 := Tryz.zeroValue5
  infoByte := by kernel_rfl
  cellsByte := by kernel_rfl
  sizeByte := by kernel_rfl
  neB5 := by decide }
theorem Tryz.WriteString (B b : Nat) (bs : List Value) (s : ByteArray) (w : World) (h : Lib.IsBuilderF 341 5 B b bs w) (hlen : bs.length + s.size ≤ 140737488355328) (hBw : B ≤ w.heap.size) :
    Calls Tryz.prog 178 #[.pointer (some ⟨b, 0, none⟩), .string s] w fun e w' => e = .returned (.tuple #[.int .i64 s.size, .nilIface]) ∧ (Lib.BuilderAtF 341 5 B b (.pointer (some ⟨b, 0, none⟩)) (bs ++ Lib.strCells s) w' ∧ Below B w w' ∧ Lib.OthersKept 5 (some b) w w') :=
  Any.Builder_WriteString_k Tryz.l166 Tryz.x166 B b bs s w h hlen hBw
end Go.Proofs
