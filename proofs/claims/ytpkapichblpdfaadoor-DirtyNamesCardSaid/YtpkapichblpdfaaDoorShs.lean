/- Written by the kit's lay-shelf.mjs and lay-plain.mjs at this claim's program: the library's contract on slices.Sort. -/
import Derived.Shelf.Sort.Plain
import Derived.Shelf.Slices.In.SortNone
import Derived.Test.YtpkapichblpdfaaDoorProg
namespace Go.Proofs
open Go.Shelf
def Tryd.lays189_ren : Go.Shelf.Ren := ⟨fun | 189 => 26 | 125 => 35 | 257 => 34 | 128 => 47 | 129 => 48 | 294 => 38 | 295 => 39 | 296 => 40 | 297 => 41 | 298 => 42 | 299 => 43 | 216 => 44 | 300 => 45 | 301 => 46 | 328 => 53 | 329 => 54 | 330 => 55 | 331 => 56 | 332 => 57 | 215 => 58 | 343 => 63 | n => n, fun | 28 => 44 | 3 => 3 | 46 => 38 | 0 => 0 | 51 => 75 | 53 => 22 | 4 => 4 | 183 => 67 | 182 => 66 | 131 => 72 | 5 => 5 | 9 => 9 | 218 => 81 | 222 => 85 | 228 => 91 | 229 => 92 | n => n, fun | n => n⟩
theorem Tryd.lays189 : Go.Proofs.Lays.n189 Tryd.prog Tryd.lays189_ren := {
  mixed := by kernel_rfl
  f125 := Tryd.func35.trans (congrArg some (by kernel_rfl))
  f128 := Tryd.func47.trans (congrArg some (by kernel_rfl))
  f129 := Tryd.func48.trans (congrArg some (by kernel_rfl))
  f189 := Tryd.func26.trans (congrArg some (by kernel_rfl))
  f215 := Tryd.func58.trans (congrArg some (by kernel_rfl))
  f216 := Tryd.func44.trans (congrArg some (by kernel_rfl))
  f257 := Tryd.func34.trans (congrArg some (by kernel_rfl))
  f294 := Tryd.func38.trans (congrArg some (by kernel_rfl))
  f295 := Tryd.func39.trans (congrArg some (by kernel_rfl))
  f296 := Tryd.func40.trans (congrArg some (by kernel_rfl))
  f297 := Tryd.func41.trans (congrArg some (by kernel_rfl))
  f298 := Tryd.func42.trans (congrArg some (by kernel_rfl))
  f299 := Tryd.func43.trans (congrArg some (by kernel_rfl))
  f300 := Tryd.func45.trans (congrArg some (by kernel_rfl))
  f301 := Tryd.func46.trans (congrArg some (by kernel_rfl))
  f328 := Tryd.func53.trans (congrArg some (by kernel_rfl))
  f329 := Tryd.func54.trans (congrArg some (by kernel_rfl))
  f330 := Tryd.func55.trans (congrArg some (by kernel_rfl))
  f331 := Tryd.func56.trans (congrArg some (by kernel_rfl))
  f332 := Tryd.func57.trans (congrArg some (by kernel_rfl))
  f343 := Tryd.func63.trans (congrArg some (by kernel_rfl))
  t0 := Tryd.underlying0
  a0 := Tryd.isAgg0
  z0 := Tryd.sizeOf0
  v0 := Tryd.zeroValue0
  t3 := Tryd.underlying3
  a3 := Tryd.isAgg3
  z3 := Tryd.sizeOf3
  v3 := Tryd.zeroValue3
  t4 := Tryd.underlying4
  a4 := Tryd.isAgg4
  z4 := Tryd.sizeOf4
  v4 := Tryd.zeroValue4
  t5 := Tryd.underlying5
  a5 := Tryd.isAgg5
  z5 := Tryd.sizeOf5
  v5 := Tryd.zeroValue5
  t9 := Tryd.underlying9
  a9 := Tryd.isAgg9
  z9 := Tryd.sizeOf9
  v9 := Tryd.zeroValue9
  t28 := Tryd.underlying44
  a28 := Tryd.isAgg44
  z28 := Tryd.sizeOf44
  v28 := Tryd.zeroValue44
  t46 := Tryd.underlying38
  a46 := Tryd.isAgg38
  z46 := Tryd.sizeOf38
  v46 := Tryd.zeroValue38
  t51 := Tryd.underlying75
  a51 := Tryd.isAgg75
  z51 := Tryd.sizeOf75
  v51 := Tryd.zeroValue75
  t53 := Tryd.underlying22
  a53 := Tryd.isAgg22
  z53 := Tryd.sizeOf22
  v53 := Tryd.zeroValue22
  t131 := Tryd.underlying72
  a131 := Tryd.isAgg72
  z131 := Tryd.sizeOf72
  v131 := Tryd.zeroValue72
  t182 := Tryd.underlying66
  a182 := Tryd.isAgg66
  z182 := Tryd.sizeOf66
  v182 := Tryd.zeroValue66
  t183 := Tryd.underlying67
  a183 := Tryd.isAgg67
  z183 := Tryd.sizeOf67
  v183 := Tryd.zeroValue67
  t218 := Tryd.underlying81
  a218 := Tryd.isAgg81
  z218 := Tryd.sizeOf81
  v218 := Tryd.zeroValue81
  t222 := Tryd.underlying85
  a222 := Tryd.isAgg85
  z222 := Tryd.sizeOf85
  v222 := Tryd.zeroValue85
  t228 := Tryd.underlying91
  a228 := Tryd.isAgg91
  z228 := Tryd.sizeOf91
  v228 := Tryd.zeroValue91
  t229 := Tryd.underlying92
  a229 := Tryd.isAgg92
  z229 := Tryd.sizeOf92
  v229 := Tryd.zeroValue92 }
open Go.Sort Go.RowKit in
theorem Tryd.slices_Sort_int (blk off cap : Nat) (zs : List Int) (w : World) (hH : Holds (Value.int .i64) w blk off zs.toArray) (hblk : blk < w.heap.size) (hsz : zs.length < 4611686018427387904) :
    Calls Tryd.prog 26 #[.slice (some ⟨blk, off, none⟩) zs.length cap] w fun e w' =>
      e = .returned (.tuple #[]) ∧ ∃ n os, w' = grow (putRow (Value.int .i64) (Sort.ahead w n) blk off (zs.mergeSort fun x y => decide (x ≤ y)).toArray) os := Any.slices_Sort_int Tryd.lays189 blk off cap zs w hH hblk hsz
theorem Tryd.slices_Sort_int_none (p : Option Addr) (cap : Nat) (w : World) :
    Calls Tryd.prog 26 #[.slice p 0 cap] w fun e w' => e = .returned (.tuple #[]) ∧ w' = w := Any.slices_Sort_int_none Tryd.lays189 p cap w
end Go.Proofs
