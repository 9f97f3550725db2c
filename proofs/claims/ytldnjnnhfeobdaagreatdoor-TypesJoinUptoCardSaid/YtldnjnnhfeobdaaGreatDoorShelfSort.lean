/- The shelf, slices.Sort at ints (laid by the kit's tool). No condition. -/
import Derived.Shelf.Sort.Plain
import Derived.Test.YtldnjnnhfeobdaaGreatDoorShelfP
set_option linter.all false
set_option linter.unusedSimpArgs false
set_option linter.unusedVariables false
namespace Go.Proofs
open Go.Shelf
def Tryz.lays189_ren : Go.Shelf.Ren := ⟨fun | 189 => 89 | 125 => 131 | 257 => 130 | 128 => 172 | 129 => 173 | 294 => 163 | 295 => 164 | 296 => 165 | 297 => 166 | 298 => 167 | 299 => 168 | 216 => 169 | 300 => 170 | 301 => 171 | 328 => 201 | 329 => 202 | 330 => 203 | 331 => 204 | 332 => 205 | 215 => 206 | 343 => 232 | n => n, fun | 28 => 24 | 3 => 3 | 46 => 37 | 0 => 0 | 51 => 204 | 53 => 206 | 4 => 4 | 183 => 197 | 182 => 196 | 131 => 201 | 5 => 5 | 9 => 9 | 218 => 223 | 222 => 227 | 228 => 251 | 229 => 252 | n => n, fun | n => n⟩
theorem Tryz.lays189 : Go.Proofs.Lays.n189 Tryz.prog Tryz.lays189_ren := {
 mixed := by kernel_rfl
 f125 := Tryz.func131.trans (congrArg some (by kernel_rfl))
 f128 := Tryz.func172.trans (congrArg some (by kernel_rfl))
 f129 := Tryz.func173.trans (congrArg some (by kernel_rfl))
 f189 := Tryz.func89.trans (congrArg some (by kernel_rfl))
 f215 := Tryz.func206.trans (congrArg some (by kernel_rfl))
 f216 := Tryz.func169.trans (congrArg some (by kernel_rfl))
 f257 := Tryz.func130.trans (congrArg some (by kernel_rfl))
 f294 := Tryz.func163.trans (congrArg some (by kernel_rfl))
 f295 := Tryz.func164.trans (congrArg some (by kernel_rfl))
 f296 := Tryz.func165.trans (congrArg some (by kernel_rfl))
 f297 := Tryz.func166.trans (congrArg some (by kernel_rfl))
 f298 := Tryz.func167.trans (congrArg some (by kernel_rfl))
 f299 := Tryz.func168.trans (congrArg some (by kernel_rfl))
 f300 := Tryz.func170.trans (congrArg some (by kernel_rfl))
 f301 := Tryz.func171.trans (congrArg some (by kernel_rfl))
 f328 := Tryz.func201.trans (congrArg some (by kernel_rfl))
 f329 := Tryz.func202.trans (congrArg some (by kernel_rfl))
 f330 := Tryz.func203.trans (congrArg some (by kernel_rfl))
 f331 := Tryz.func204.trans (congrArg some (by kernel_rfl))
 f332 := Tryz.func205.trans (congrArg some (by kernel_rfl))
 f343 := Tryz.func232.trans (congrArg some (by kernel_rfl))
 t0 := Tryz.underlying0
 a0 := Tryz.isAgg0
 z0 := Tryz.sizeOf0
 v0 := Tryz.zeroValue0
 t3 := Tryz.underlying3
 a3 := Tryz.isAgg3
 z3 := Tryz.sizeOf3
 v3 := Tryz.zeroValue3
 t4 := Tryz.underlying4
 a4 := Tryz.isAgg4
 z4 := Tryz.sizeOf4
 v4 := Tryz.zeroValue4
 t5 := Tryz.underlying5
 a5 := Tryz.isAgg5
 z5 := Tryz.sizeOf5
 v5 := Tryz.zeroValue5
 t9 := Tryz.underlying9
 a9 := Tryz.isAgg9
 z9 := Tryz.sizeOf9
 v9 := Tryz.zeroValue9
 t28 := Tryz.underlying24
 a28 := Tryz.isAgg24
 z28 := Tryz.sizeOf24
 v28 := Tryz.zeroValue24
 t46 := Tryz.underlying37
 a46 := Tryz.isAgg37
 z46 := Tryz.sizeOf37
 v46 := Tryz.zeroValue37
 t51 := Tryz.underlying204
 a51 := Tryz.isAgg204
 z51 := Tryz.sizeOf204
 v51 := Tryz.zeroValue204
 t53 := Tryz.underlying206
 a53 := Tryz.isAgg206
 z53 := Tryz.sizeOf206
 v53 := Tryz.zeroValue206
 t131 := Tryz.underlying201
 a131 := Tryz.isAgg201
 z131 := Tryz.sizeOf201
 v131 := Tryz.zeroValue201
 t182 := Tryz.underlying196
 a182 := Tryz.isAgg196
 z182 := Tryz.sizeOf196
 v182 := Tryz.zeroValue196
 t183 := Tryz.underlying197
 a183 := Tryz.isAgg197
 z183 := Tryz.sizeOf197
 v183 := Tryz.zeroValue197
 t218 := Tryz.underlying223
 a218 := Tryz.isAgg223
 z218 := Tryz.sizeOf223
 v218 := Tryz.zeroValue223
 t222 := Tryz.underlying227
 a222 := Tryz.isAgg227
 z222 := Tryz.sizeOf227
 v222 := Tryz.zeroValue227
 t228 := Tryz.underlying251
 a228 := Tryz.isAgg251
 z228 := Tryz.sizeOf251
 v228 := Tryz.zeroValue251
 t229 := Tryz.underlying252
 a229 := Tryz.isAgg252
 z229 := Tryz.sizeOf252
 v229 := Tryz.zeroValue252 }
open Go.Sort Go.RowKit in
theorem Tryz.slices_Sort_int (blk off cap : Nat) (zs : List Int) (w : World) (hH : Holds (Value.int .i64) w blk off zs.toArray) (hblk : blk < w.heap.size) (hsz : zs.length < 4611686018427387904) :
  Calls Tryz.prog 89 #[.slice (some ⟨blk, off, none⟩) zs.length cap] w fun e w' =>
   e = .returned (.tuple #[]) ∧ ∃ n os, w' = grow (putRow (Value.int .i64) (Sort.ahead w n) blk off (zs.mergeSort fun x y => decide (x ≤ y)).toArray) os := Any.slices_Sort_int Tryz.lays189 blk off cap zs w hH hblk hsz
end Go.Proofs
