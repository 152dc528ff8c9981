/- The contract of the library sort of ints, at this program (printed by lay-shelf.mjs and lay-plain.mjs). No condition. -/
import Derived.Shelf.Sort.Plain
import Derived.Shelf.Slices.In.SortNone
import Derived.Test.YtfpghcdjfiggiaaProg
namespace Go.Proofs.Ytfpghcdjfiggiaa.V
open Go.Shelf
def lays189_ren : Go.Shelf.Ren := ⟨fun | 189 => 159 | 125 => 177 | 257 => 176 | 128 => 190 | 129 => 191 | 294 => 181 | 295 => 182 | 296 => 183 | 297 => 184 | 298 => 185 | 299 => 186 | 216 => 187 | 300 => 188 | 301 => 189 | 328 => 192 | 329 => 193 | 330 => 194 | 331 => 195 | 332 => 196 | 215 => 197 | 343 => 198 | n => n, fun | 28 => 42 | 3 => 3 | 46 => 100 | 0 => 0 | 51 => 243 | 53 => 245 | 4 => 4 | 183 => 237 | 182 => 236 | 131 => 151 | 5 => 5 | 9 => 9 | 218 => 246 | 222 => 250 | 228 => 252 | 229 => 253 | n => n, fun | n => n⟩
theorem lays189 : Go.Proofs.Lays.n189 Try.prog lays189_ren := {
  mixed := by kernel_rfl
  f125 := Try.func177.trans (congrArg some (by kernel_rfl))
  f128 := Try.func190.trans (congrArg some (by kernel_rfl))
  f129 := Try.func191.trans (congrArg some (by kernel_rfl))
  f189 := Try.func159.trans (congrArg some (by kernel_rfl))
  f215 := Try.func197.trans (congrArg some (by kernel_rfl))
  f216 := Try.func187.trans (congrArg some (by kernel_rfl))
  f257 := Try.func176.trans (congrArg some (by kernel_rfl))
  f294 := Try.func181.trans (congrArg some (by kernel_rfl))
  f295 := Try.func182.trans (congrArg some (by kernel_rfl))
  f296 := Try.func183.trans (congrArg some (by kernel_rfl))
  f297 := Try.func184.trans (congrArg some (by kernel_rfl))
  f298 := Try.func185.trans (congrArg some (by kernel_rfl))
  f299 := Try.func186.trans (congrArg some (by kernel_rfl))
  f300 := Try.func188.trans (congrArg some (by kernel_rfl))
  f301 := Try.func189.trans (congrArg some (by kernel_rfl))
  f328 := Try.func192.trans (congrArg some (by kernel_rfl))
  f329 := Try.func193.trans (congrArg some (by kernel_rfl))
  f330 := Try.func194.trans (congrArg some (by kernel_rfl))
  f331 := Try.func195.trans (congrArg some (by kernel_rfl))
  f332 := Try.func196.trans (congrArg some (by kernel_rfl))
  f343 := Try.func198.trans (congrArg some (by kernel_rfl))
  t0 := Try.underlying0
  a0 := Try.isAgg0
  z0 := Try.sizeOf0
  v0 := Try.zeroValue0
  t3 := Try.underlying3
  a3 := Try.isAgg3
  z3 := Try.sizeOf3
  v3 := Try.zeroValue3
  t4 := Try.underlying4
  a4 := Try.isAgg4
  z4 := Try.sizeOf4
  v4 := Try.zeroValue4
  t5 := Try.underlying5
  a5 := Try.isAgg5
  z5 := Try.sizeOf5
  v5 := Try.zeroValue5
  t9 := Try.underlying9
  a9 := Try.isAgg9
  z9 := Try.sizeOf9
  v9 := Try.zeroValue9
  t28 := Try.underlying42
  a28 := Try.isAgg42
  z28 := Try.sizeOf42
  v28 := Try.zeroValue42
  t46 := Try.underlying100
  a46 := Try.isAgg100
  z46 := Try.sizeOf100
  v46 := Try.zeroValue100
  t51 := Try.underlying243
  a51 := Try.isAgg243
  z51 := Try.sizeOf243
  v51 := Try.zeroValue243
  t53 := Try.underlying245
  a53 := Try.isAgg245
  z53 := Try.sizeOf245
  v53 := Try.zeroValue245
  t131 := Try.underlying151
  a131 := Try.isAgg151
  z131 := Try.sizeOf151
  v131 := Try.zeroValue151
  t182 := Try.underlying236
  a182 := Try.isAgg236
  z182 := Try.sizeOf236
  v182 := Try.zeroValue236
  t183 := Try.underlying237
  a183 := Try.isAgg237
  z183 := Try.sizeOf237
  v183 := Try.zeroValue237
  t218 := Try.underlying246
  a218 := Try.isAgg246
  z218 := Try.sizeOf246
  v218 := Try.zeroValue246
  t222 := Try.underlying250
  a222 := Try.isAgg250
  z222 := Try.sizeOf250
  v222 := Try.zeroValue250
  t228 := Try.underlying252
  a228 := Try.isAgg252
  z228 := Try.sizeOf252
  v228 := Try.zeroValue252
  t229 := Try.underlying253
  a229 := Try.isAgg253
  z229 := Try.sizeOf253
  v229 := Try.zeroValue253 }
open Go.Sort Go.RowKit in
theorem slices_Sort_int (blk off cap : Nat) (zs : List Int) (w : World) (hH : Holds (Value.int .i64) w blk off zs.toArray) (hblk : blk < w.heap.size) (hsz : zs.length < 4611686018427387904) :
    Calls Try.prog 159 #[.slice (some ⟨blk, off, none⟩) zs.length cap] w fun e w' =>
      e = .returned (.tuple #[]) ∧ ∃ n os, w' = grow (putRow (Value.int .i64) (Sort.ahead w n) blk off (zs.mergeSort fun x y => decide (x ≤ y)).toArray) os := Any.slices_Sort_int lays189 blk off cap zs w hH hblk hsz
open Go.RowKit Go.Sort in
theorem slices_Sort_int_none (p : Option Addr) (cap : Nat) (w : World) :
    Calls Try.prog 159 #[.slice p 0 cap] w fun e w' => e = .returned (.tuple #[]) ∧ w' = w := Any.slices_Sort_int_none lays189 p cap w
end Go.Proofs.Ytfpghcdjfiggiaa.V
