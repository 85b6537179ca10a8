/-
  Contracts of the shelf, laid at this seat's program by lay-shelf.mjs and lay-plain.mjs. FOR THE SEAT Ythjabeoafdohjaa ALONE.
-/
import Derived.Shelf.Sort.Plain
import Derived.Shelf.Slices.In.SortNone2
import Derived.Test.YthjabeoafdohjaaProg
namespace Go.Proofs
open Go.Shelf
def Try.lays192_ren : Go.Shelf.Ren := ⟨fun | 192 => 129 | 190 => 169 | 125 => 165 | 258 => 207 | 128 => 195 | 129 => 196 | 302 => 223 | 303 => 224 | 304 => 225 | 305 => 226 | 306 => 227 | 307 => 228 | 308 => 229 | 309 => 230 | 310 => 231 | 333 => 239 | 329 => 240 | 330 => 241 | 334 => 242 | 335 => 243 | 336 => 244 | 344 => 245 | n => n, fun | 31 => 25 | 0 => 0 | 9 => 9 | 3 => 3 | 46 => 139 | 51 => 156 | 53 => 158 | 4 => 4 | 183 => 180 | 182 => 179 | 131 => 165 | 5 => 5 | 218 => 192 | 222 => 176 | 228 => 195 | 229 => 190 | n => n, fun | n => n⟩
theorem Try.lays192 : Go.Proofs.Lays.n192 Try.prog Try.lays192_ren := {
  mixed := by kernel_rfl
  f125 := Try.func165.trans (congrArg some (by kernel_rfl))
  f128 := Try.func195.trans (congrArg some (by kernel_rfl))
  f129 := Try.func196.trans (congrArg some (by kernel_rfl))
  f190 := Try.func169.trans (congrArg some (by kernel_rfl))
  f192 := Try.func129.trans (congrArg some (by kernel_rfl))
  f258 := Try.func207.trans (congrArg some (by kernel_rfl))
  f302 := Try.func223.trans (congrArg some (by kernel_rfl))
  f303 := Try.func224.trans (congrArg some (by kernel_rfl))
  f304 := Try.func225.trans (congrArg some (by kernel_rfl))
  f305 := Try.func226.trans (congrArg some (by kernel_rfl))
  f306 := Try.func227.trans (congrArg some (by kernel_rfl))
  f307 := Try.func228.trans (congrArg some (by kernel_rfl))
  f308 := Try.func229.trans (congrArg some (by kernel_rfl))
  f309 := Try.func230.trans (congrArg some (by kernel_rfl))
  f310 := Try.func231.trans (congrArg some (by kernel_rfl))
  f329 := Try.func240.trans (congrArg some (by kernel_rfl))
  f330 := Try.func241.trans (congrArg some (by kernel_rfl))
  f333 := Try.func239.trans (congrArg some (by kernel_rfl))
  f334 := Try.func242.trans (congrArg some (by kernel_rfl))
  f335 := Try.func243.trans (congrArg some (by kernel_rfl))
  f336 := Try.func244.trans (congrArg some (by kernel_rfl))
  f344 := Try.func245.trans (congrArg some (by kernel_rfl))
  t0 := Try.underlying0
  a0 := Try.isAgg0
  z0 := Try.sizeOf0
  v0 := Try.zeroValue0
  t3 := Try.underlying3
  a3 := Try.isAgg3
  z3 := Try.sizeOf3
  v3 := Try.zeroValue3
  t4 := Try.underlying4
  a4 := Try.isAgg4
  z4 := Try.sizeOf4
  v4 := Try.zeroValue4
  t5 := Try.underlying5
  a5 := Try.isAgg5
  z5 := Try.sizeOf5
  v5 := Try.zeroValue5
  t9 := Try.underlying9
  a9 := Try.isAgg9
  z9 := Try.sizeOf9
  v9 := Try.zeroValue9
  t31 := Try.underlying25
  a31 := Try.isAgg25
  z31 := Try.sizeOf25
  v31 := Try.zeroValue25
  t46 := Try.underlying139
  a46 := Try.isAgg139
  z46 := Try.sizeOf139
  v46 := Try.zeroValue139
  t51 := Try.underlying156
  a51 := Try.isAgg156
  z51 := Try.sizeOf156
  v51 := Try.zeroValue156
  t53 := Try.underlying158
  a53 := Try.isAgg158
  z53 := Try.sizeOf158
  v53 := Try.zeroValue158
  t131 := Try.underlying165
  a131 := Try.isAgg165
  z131 := Try.sizeOf165
  v131 := Try.zeroValue165
  t182 := Try.underlying179
  a182 := Try.isAgg179
  z182 := Try.sizeOf179
  v182 := Try.zeroValue179
  t183 := Try.underlying180
  a183 := Try.isAgg180
  z183 := Try.sizeOf180
  v183 := Try.zeroValue180
  t218 := Try.underlying192
  a218 := Try.isAgg192
  z218 := Try.sizeOf192
  v218 := Try.zeroValue192
  t222 := Try.underlying176
  a222 := Try.isAgg176
  z222 := Try.sizeOf176
  v222 := Try.zeroValue176
  t228 := Try.underlying195
  a228 := Try.isAgg195
  z228 := Try.sizeOf195
  v228 := Try.zeroValue195
  t229 := Try.underlying190
  a229 := Try.isAgg190
  z229 := Try.sizeOf190
  v229 := Try.zeroValue190 }
open Go.Sort Go.RowKit in
theorem Try.sort_Strings (blk off cap : Nat) (ss : List (List UInt8)) (w : World) (hH : Holds encStr w blk off ss.toArray) (hblk : blk < w.heap.size) (hsz : ss.length < 4611686018427387904) :
    Calls Try.prog 129 #[.slice (some ⟨blk, off, none⟩) ss.length cap] w fun e w' =>
      e = .returned (.tuple #[]) ∧ ∃ n os, w' = grow (putRow encStr (Sort.ahead w n) blk off (ss.mergeSort fun x y => decide (x ≤ y)).toArray) os := Any.sort_Strings Try.lays192 blk off cap ss w hH hblk hsz
open Go.RowKit Go.Sort in
/-- .. and plain. (LAID: no walk: one application.) -/
theorem Try.sort_Strings_none (p : Option Addr) (cap : Nat) (w : World) :
    Calls Try.prog 129 #[.slice p 0 cap] w fun e w' => e = .returned (.tuple #[]) ∧ w' = w := Any.sort_Strings_none Try.lays192 p cap w
end Go.Proofs
