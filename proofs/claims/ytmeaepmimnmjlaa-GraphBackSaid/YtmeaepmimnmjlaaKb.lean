/- Shelf Range Iter Iter2 Back Help Dfs DomT RangeX Meet Block Domin -/
import Derived.Shelf.Small.Bits
import Derived.Shelf.Strconv.Itoa0
import Derived.Shelf.Sort.Plain
import Derived.Ground.Names2Prog
import Derived.Shelf.Slices.Clone
import Derived.Shelf.Slices.CompactI
import Derived.Shelf.Slices.SearchI
import Derived.Shelf.Slices.Cells
import Derived.Shelf.Slices.In.SortNone
import Derived.Ground.SlgnProg
import Derived.Shelf.SlicesE.Clone
import Derived.Test.YtmeaepmimnmjlaaProg
import Derived.RangeFuncNested
import Derived.RangeFuncBox
import Derived.RangeFuncLeaves
import Derived.BigFrameIn
import Derived.Test.YtmeaepmimnmjlaaKa
import Derived.RangeFuncBound
import Derived.RangeFuncCalls
import Derived.Shelf.Abstract
import Derived.Shelf.RegionOpen
import Derived.WalkKit
import Derived.OwnWalkIn
import Derived.TacticsInMore
import Derived.LoopNIn
import Derived.LoopIn
import Derived.WalkSpells
import Derived.Test.YtmeaepmimnmjlaaPGbx2
import Derived.Sort.BigQuietIn
import Derived.Maps.AppendAt
import Init.Data.List.Lemmas
import Derived.Scope
/-
  DERIVED: THE SHELF's CONTRACTS AT THIS DUMP, IN PLAIN WORDS (tools/lay-plain.mjs out of 'TryShelf.lean', which tools/lay-shelf.mjs wrote): THE SAME DECLARATIONS UNDER THE SAME NAMES: 'import', 'namespace', 'open', 'def', 'theorem' AND NOTHING ELSE: no command of the shelf's: FOR A HAND-IN. Each laying: the table of numbers ('.._ren') and one theorem, a field a fact of the dump's own or the kernel's comparison; each contract: ONE APPLICATION.
-/
namespace Go.Proofs
open Go.Shelf
def Try.lays128_ren : Go.Shelf.Ren := ⟨fun | 128 => 80 | n => n, fun | 51 => 103 | 3 => 3 | 4 => 4 | 46 => 93 | 5 => 5 | 9 => 9 | n => n, fun | n => n⟩
theorem Try.lays128 : Go.Proofs.Lays.n128 Try.prog Try.lays128_ren := {
  mixed := by kernel_rfl
  f128 := Try.func80.trans (congrArg some (by kernel_rfl))
  t3 := Try.underlying3
  a3 := Try.isAgg3
  z3 := Try.sizeOf3
  v3 := Try.zeroValue3
  t4 := Try.underlying4
  a4 := Try.isAgg4
  z4 := Try.sizeOf4
  v4 := Try.zeroValue4
  t5 := Try.underlying5
  a5 := Try.isAgg5
  z5 := Try.sizeOf5
  v5 := Try.zeroValue5
  t9 := Try.underlying9
  a9 := Try.isAgg9
  z9 := Try.sizeOf9
  v9 := Try.zeroValue9
  t46 := Try.underlying93
  a46 := Try.isAgg93
  z46 := Try.sizeOf93
  v46 := Try.zeroValue93
  t51 := Try.underlying103
  a51 := Try.isAgg103
  z51 := Try.sizeOf103
  v51 := Try.zeroValue103 }
/-- bits.Len32: "Len32 returns the minimum number of bits required to represent x; the result is 0 for x == 0.": IT RETURNS 'Lib.bitLen x'; the world is as it was. ('h0', 'h1': x is a uint32.) (LAID: no walk: one application.) -/
theorem Try.bits_Len32 (x : Int) (w : World) (h0 : 0 ≤ x) (h1 : x ≤ 4294967295) :
    Calls Try.prog 80 #[.int .u32 x] w fun e w' => e = .returned (.int .i64 (Lib.bitLen x.toNat)) ∧ w' = w := Any.bits_Len32 Try.lays128 x w h0 h1
def Try.lays125_ren : Go.Shelf.Ren := ⟨fun | 125 => 70 | 128 => 80 | 129 => 81 | n => n, fun | 46 => 93 | 3 => 3 | 51 => 103 | 53 => 105 | 4 => 4 | 5 => 5 | 9 => 9 | n => n, fun | n => n⟩
theorem Try.lays125 : Go.Proofs.Lays.n125 Try.prog Try.lays125_ren := {
  mixed := by kernel_rfl
  f125 := Try.func70.trans (congrArg some (by kernel_rfl))
  f128 := Try.func80.trans (congrArg some (by kernel_rfl))
  f129 := Try.func81.trans (congrArg some (by kernel_rfl))
  t3 := Try.underlying3
  a3 := Try.isAgg3
  z3 := Try.sizeOf3
  v3 := Try.zeroValue3
  t4 := Try.underlying4
  a4 := Try.isAgg4
  z4 := Try.sizeOf4
  v4 := Try.zeroValue4
  t5 := Try.underlying5
  a5 := Try.isAgg5
  z5 := Try.sizeOf5
  v5 := Try.zeroValue5
  t9 := Try.underlying9
  a9 := Try.isAgg9
  z9 := Try.sizeOf9
  v9 := Try.zeroValue9
  t46 := Try.underlying93
  a46 := Try.isAgg93
  z46 := Try.sizeOf93
  v46 := Try.zeroValue93
  t51 := Try.underlying103
  a51 := Try.isAgg103
  z51 := Try.sizeOf103
  v51 := Try.zeroValue103
  t53 := Try.underlying105
  a53 := Try.isAgg105
  z53 := Try.sizeOf105
  v53 := Try.zeroValue105 }
/-- bits.Len: "Len returns the minimum number of bits required to represent x; the result is 0 for x == 0.": IT RETURNS 'Lib.bitLen x'; the world is as it was. (A uint has 64 bits in the model.) ITS CALLEE bits.Len64 IS MET BY ITS OWN CONTRACT OFF THE SHELF (lay that first). (LAID: no walk: one application.) -/
theorem Try.bits_Len (x : Int) (w : World) (h0 : 0 ≤ x) (h1 : x ≤ 18446744073709551615) :
    Calls Try.prog 70 #[.int .u64 x] w fun e w' => e = .returned (.int .i64 (Lib.bitLen x.toNat)) ∧ w' = w := Any.bits_Len Try.lays125 x w h0 h1
def Try.lays129_ren : Go.Shelf.Ren := ⟨fun | 129 => 81 | n => n, fun | 53 => 105 | 3 => 3 | 4 => 4 | 46 => 93 | 5 => 5 | 9 => 9 | n => n, fun | n => n⟩
theorem Try.lays129 : Go.Proofs.Lays.n129 Try.prog Try.lays129_ren := {
  mixed := by kernel_rfl
  f129 := Try.func81.trans (congrArg some (by kernel_rfl))
  t3 := Try.underlying3
  a3 := Try.isAgg3
  z3 := Try.sizeOf3
  v3 := Try.zeroValue3
  t4 := Try.underlying4
  a4 := Try.isAgg4
  z4 := Try.sizeOf4
  v4 := Try.zeroValue4
  t5 := Try.underlying5
  a5 := Try.isAgg5
  z5 := Try.sizeOf5
  v5 := Try.zeroValue5
  t9 := Try.underlying9
  a9 := Try.isAgg9
  z9 := Try.sizeOf9
  v9 := Try.zeroValue9
  t46 := Try.underlying93
  a46 := Try.isAgg93
  z46 := Try.sizeOf93
  v46 := Try.zeroValue93
  t53 := Try.underlying105
  a53 := Try.isAgg105
  z53 := Try.sizeOf105
  v53 := Try.zeroValue105 }
/-- bits.Len64: "Len64 returns the minimum number of bits required to represent x; the result is 0 for x == 0.": IT RETURNS 'Lib.bitLen x'; the world is as it was. ('h0', 'h1': x is a uint64.) (LAID: no walk: one application.) -/
theorem Try.bits_Len64 (x : Int) (w : World) (h0 : 0 ≤ x) (h1 : x ≤ 18446744073709551615) :
    Calls Try.prog 81 #[.int .u64 x] w fun e w' => e = .returned (.int .i64 (Lib.bitLen x.toNat)) ∧ w' = w := Any.bits_Len64 Try.lays129 x w h0 h1
def Try.lays189_ren : Go.Shelf.Ren := ⟨fun | 189 => 63 | 125 => 70 | 257 => 69 | 128 => 80 | 129 => 81 | 294 => 71 | 295 => 72 | 296 => 73 | 297 => 74 | 298 => 75 | 299 => 76 | 216 => 77 | 300 => 78 | 301 => 79 | 328 => 82 | 329 => 83 | 330 => 84 | 331 => 85 | 332 => 86 | 215 => 87 | 343 => 88 | n => n, fun | 28 => 26 | 3 => 3 | 46 => 93 | 0 => 0 | 51 => 103 | 53 => 105 | 4 => 4 | 183 => 96 | 182 => 95 | 131 => 100 | 5 => 5 | 9 => 9 | 218 => 106 | 222 => 110 | 228 => 112 | 229 => 113 | n => n, fun | n => n⟩
theorem Try.lays189 : Go.Proofs.Lays.n189 Try.prog Try.lays189_ren := {
  mixed := by kernel_rfl
  f125 := Try.func70.trans (congrArg some (by kernel_rfl))
  f128 := Try.func80.trans (congrArg some (by kernel_rfl))
  f129 := Try.func81.trans (congrArg some (by kernel_rfl))
  f189 := Try.func63.trans (congrArg some (by kernel_rfl))
  f215 := Try.func87.trans (congrArg some (by kernel_rfl))
  f216 := Try.func77.trans (congrArg some (by kernel_rfl))
  f257 := Try.func69.trans (congrArg some (by kernel_rfl))
  f294 := Try.func71.trans (congrArg some (by kernel_rfl))
  f295 := Try.func72.trans (congrArg some (by kernel_rfl))
  f296 := Try.func73.trans (congrArg some (by kernel_rfl))
  f297 := Try.func74.trans (congrArg some (by kernel_rfl))
  f298 := Try.func75.trans (congrArg some (by kernel_rfl))
  f299 := Try.func76.trans (congrArg some (by kernel_rfl))
  f300 := Try.func78.trans (congrArg some (by kernel_rfl))
  f301 := Try.func79.trans (congrArg some (by kernel_rfl))
  f328 := Try.func82.trans (congrArg some (by kernel_rfl))
  f329 := Try.func83.trans (congrArg some (by kernel_rfl))
  f330 := Try.func84.trans (congrArg some (by kernel_rfl))
  f331 := Try.func85.trans (congrArg some (by kernel_rfl))
  f332 := Try.func86.trans (congrArg some (by kernel_rfl))
  f343 := Try.func88.trans (congrArg some (by kernel_rfl))
  t0 := Try.underlying0
  a0 := Try.isAgg0
  z0 := Try.sizeOf0
  v0 := Try.zeroValue0
  t3 := Try.underlying3
  a3 := Try.isAgg3
  z3 := Try.sizeOf3
  v3 := Try.zeroValue3
  t4 := Try.underlying4
  a4 := Try.isAgg4
  z4 := Try.sizeOf4
  v4 := Try.zeroValue4
  t5 := Try.underlying5
  a5 := Try.isAgg5
  z5 := Try.sizeOf5
  v5 := Try.zeroValue5
  t9 := Try.underlying9
  a9 := Try.isAgg9
  z9 := Try.sizeOf9
  v9 := Try.zeroValue9
  t28 := Try.underlying26
  a28 := Try.isAgg26
  z28 := Try.sizeOf26
  v28 := Try.zeroValue26
  t46 := Try.underlying93
  a46 := Try.isAgg93
  z46 := Try.sizeOf93
  v46 := Try.zeroValue93
  t51 := Try.underlying103
  a51 := Try.isAgg103
  z51 := Try.sizeOf103
  v51 := Try.zeroValue103
  t53 := Try.underlying105
  a53 := Try.isAgg105
  z53 := Try.sizeOf105
  v53 := Try.zeroValue105
  t131 := Try.underlying100
  a131 := Try.isAgg100
  z131 := Try.sizeOf100
  v131 := Try.zeroValue100
  t182 := Try.underlying95
  a182 := Try.isAgg95
  z182 := Try.sizeOf95
  v182 := Try.zeroValue95
  t183 := Try.underlying96
  a183 := Try.isAgg96
  z183 := Try.sizeOf96
  v183 := Try.zeroValue96
  t218 := Try.underlying106
  a218 := Try.isAgg106
  z218 := Try.sizeOf106
  v218 := Try.zeroValue106
  t222 := Try.underlying110
  a222 := Try.isAgg110
  z222 := Try.sizeOf110
  v222 := Try.zeroValue110
  t228 := Try.underlying112
  a228 := Try.isAgg112
  z228 := Try.sizeOf112
  v228 := Try.zeroValue112
  t229 := Try.underlying113
  a229 := Try.isAgg113
  z229 := Try.sizeOf113
  v229 := Try.zeroValue113 }
open Go.Sort Go.RowKit in
theorem Try.slices_Sort_int (blk off cap : Nat) (zs : List Int) (w : World) (hH : Holds (Value.int .i64) w blk off zs.toArray) (hblk : blk < w.heap.size) (hsz : zs.length < 4611686018427387904) :
    Calls Try.prog 63 #[.slice (some ⟨blk, off, none⟩) zs.length cap] w fun e w' =>
      e = .returned (.tuple #[]) ∧ ∃ n os, w' = grow (putRow (Value.int .i64) (Sort.ahead w n) blk off (zs.mergeSort fun x y => decide (x ≤ y)).toArray) os := Any.slices_Sort_int Try.lays189 blk off cap zs w hH hblk hsz
def Try.laysNm215_ren : Go.Shelf.Ren := ⟨fun | 15 => 64 | n => n, fun | 22 => 26 | 3 => 3 | 4 => 4 | n => n, fun | n => n⟩
theorem Try.laysNm215 : Go.Proofs.Lays2.n15 Try.prog Try.laysNm215_ren := {
  mixed := by kernel_rfl
  f15 := Try.func64.trans (congrArg some (by kernel_rfl))
  t3 := Try.underlying3
  a3 := Try.isAgg3
  z3 := Try.sizeOf3
  v3 := Try.zeroValue3
  t4 := Try.underlying4
  a4 := Try.isAgg4
  z4 := Try.sizeOf4
  v4 := Try.zeroValue4
  t22 := Try.underlying26
  a22 := Try.isAgg26
  z22 := Try.sizeOf26
  v22 := Try.zeroValue26
  i3 := by kernel_rfl }
open Go.RowKit Go.Lib in
/-- slices.Clone at []int: "Clone returns a copy of the slice. The elements are copied using assignment, so this is a shallow clone. The result may have additional unused capacity. The result preserves the nilness of s.": OF A SLICE THAT IS NOT nil IT RETURNS A SLICE THAT IS NOT nil, OF THE SAME ELEMENTS, IN MEMORY OF THE CALL's OWN: in the how-to's words (6f): 'w'.ownsRow B e 1 v' n cells': v' begins at the head of a row among the blocks from B on (B: the heap's size at the call), not frozen, whose first cells are the elements · 'Below B w w'': below B all is as it was. The capacity is whatever the run-time gives. 'zs': what the cells behind the slice's address hold; 'zs.take n': its elements. (LAID: no walk: one application.) -/
theorem Try.slices_Clone_int (b off n c : Nat) (zs : List Int) (w : World) (hz : n ≤ zs.length) (hbig : n * 8 ≤ 140737488355328) (hc : ∀ j, j < zs.length → w.cell? ⟨b, off + j, none⟩ = some (.int .i64 (zs.getD j 0))) :
    Calls Try.prog 64 #[.slice (some ⟨b, off, none⟩) n c] w fun e w' => ∃ v', e = .returned v' ∧ w'.ownsRow w.heap.size 3 1 v' n ((zs.take n).map (Value.int .i64)) ∧ v' ≠ .slice none 0 0 ∧ Below w.heap.size w w' := Any.slices_Clone_int Try.laysNm215 b off n c zs w hz hbig hc
open Go.RowKit Go.Lib in
/-- The same at nil: nil comes back; the world is as it was. (LAID: no walk: one application.) -/
theorem Try.slices_Clone_int_nil (n c : Nat) (w : World) :
    Calls Try.prog 64 #[.slice none n c] w fun e w' => e = .returned (.slice none 0 0) ∧ w' = w := Any.slices_Clone_int_nil Try.laysNm215 n c w
open Go.RowKit Go.Lib in
/-- The same at a slice of length 0 that is not nil, WHATEVER ITS ADDRESS (no cell is asked for): a slice that is not nil and owns nothing comes back. (LAID: no walk: one application.) -/
theorem Try.slices_Clone_int_zero (a : Addr) (c : Nat) (w : World) :
    Calls Try.prog 64 #[.slice (some a) 0 c] w fun e w' => ∃ v', e = .returned v' ∧ w'.ownsRow w.heap.size 3 1 v' 0 [] ∧ v' ≠ .slice none 0 0 ∧ Below w.heap.size w w' := Any.slices_Clone_int_zero Try.laysNm215 a c w
def Try.laysNm220_ren : Go.Shelf.Ren := ⟨fun | 20 => 65 | n => n, fun | 22 => 26 | 3 => 3 | 4 => 4 | 0 => 0 | n => n, fun | n => n⟩
theorem Try.laysNm220 : Go.Proofs.Lays2.n20 Try.prog Try.laysNm220_ren := {
  mixed := by kernel_rfl
  f20 := Try.func65.trans (congrArg some (by kernel_rfl))
  t0 := Try.underlying0
  a0 := Try.isAgg0
  z0 := Try.sizeOf0
  v0 := Try.zeroValue0
  t3 := Try.underlying3
  a3 := Try.isAgg3
  z3 := Try.sizeOf3
  v3 := Try.zeroValue3
  t4 := Try.underlying4
  a4 := Try.isAgg4
  z4 := Try.sizeOf4
  v4 := Try.zeroValue4
  t22 := Try.underlying26
  a22 := Try.isAgg26
  z22 := Try.sizeOf26
  v22 := Try.zeroValue26
  i3 := by kernel_rfl }
open Go.RowKit Go.Lib Go.Sort in
/-- slices.Compact at []int, over an array: the library's two loops are walked. (LAID: no walk: one application.) -/
theorem Try.slices_Compact_int_arr (blk off cap : Nat) (d : Array Int) (w : World) (hH : Holds encI w blk off d) (hsz : d.size ≤ 9223372036854775807) (hcap : d.size ≤ cap) :
    Calls Try.prog 65 #[.slice (some ⟨blk, off, none⟩) d.size cap] w fun e w' => e = .returned (.slice (some ⟨blk, off, none⟩) (compactUpTo d d.size).length cap) ∧ ∃ q, w' = putRow encI (Sort.ahead w q) blk off (compactUpTo d d.size ++ List.replicate (d.size - (compactUpTo d d.size).length) 0).toArray := Any.slices_Compact_int_arr Try.laysNm220 blk off cap d w hH hsz hcap
open Go.RowKit Go.Lib Go.Sort in
/-- slices.Compact at []int: "Compact replaces consecutive runs of equal elements with a single copy. This is like the uniq command found on Unix. Compact modifies the contents of the slice s and returns the modified slice, which may have a smaller length. Compact zeroes the elements between the new length and the original length. The result preserves the nilness of s.": IT RETURNS THE SLICE CUT TO 'Lib.compact zs'; ITS CELLS HOLD 'Lib.compact zs', THEN ZERO VALUES up to the old length; all else is as it was, but for the count of draws. IN THE WORDS OF slices.Sort's CONTRACT ('Holds', 'putRow'): so the everyday 'slices.Sort(xs); xs = slices.Compact(xs)' goes from the one contract to the other. It asks 'zs.length ≤ cap' (every slice's: the reslicing 's[:k]' looks at it). Length 0, nil: '.._empty'. (LAID: no walk: one application.) -/
theorem Try.slices_Compact_int (blk off cap : Nat) (zs : List Int) (w : World) (hH : Holds (Value.int .i64) w blk off zs.toArray) (hsz : zs.length ≤ 9223372036854775807) (hcap : zs.length ≤ cap) :
    Calls Try.prog 65 #[.slice (some ⟨blk, off, none⟩) zs.length cap] w fun e w' => e = .returned (.slice (some ⟨blk, off, none⟩) (Lib.compact zs).length cap) ∧ ∃ q, w' = putRow (Value.int .i64) (Sort.ahead w q) blk off (Lib.compact zs ++ List.replicate (zs.length - (Lib.compact zs).length) 0).toArray := Any.slices_Compact_int Try.laysNm220 blk off cap zs w hH hsz hcap
open Go.RowKit Go.Lib Go.Sort in
/-- The same at a slice of length 0, a nil one too: it comes back as it is. (LAID: no walk: one application.) -/
theorem Try.slices_Compact_int_empty (a : Option Addr) (cap : Nat) (w : World) :
    Calls Try.prog 65 #[.slice a 0 cap] w fun e w' => e = .returned (.slice a 0 cap) ∧ w' = w := Any.slices_Compact_int_empty Try.laysNm220 a cap w
def Try.laysNm237_ren : Go.Shelf.Ren := ⟨fun | 37 => 87 | n => n, fun | 3 => 3 | 4 => 4 | n => n, fun | n => n⟩
theorem Try.laysNm237 : Go.Proofs.Lays2.n37 Try.prog Try.laysNm237_ren := {
  mixed := by kernel_rfl
  f37 := Try.func87.trans (congrArg some (by kernel_rfl))
  t3 := Try.underlying3
  a3 := Try.isAgg3
  z3 := Try.sizeOf3
  v3 := Try.zeroValue3
  t4 := Try.underlying4
  a4 := Try.isAgg4
  z4 := Try.sizeOf4
  v4 := Try.zeroValue4 }
open Go.RowKit Go.Lib in
/-- cmp.isNaN[int]: 'x != x': false. (LAID: no walk: one application.) -/
theorem Try.cmp_isNaN_int2 (x : Int) (w : World) :
    Calls Try.prog 87 #[.int .i64 x] w fun e w' => e = .returned (.bool false) ∧ w' = w := Any.cmp_isNaN_int2 Try.laysNm237 x w
def Try.laysNm231_ren : Go.Shelf.Ren := ⟨fun | 31 => 77 | 37 => 87 | n => n, fun | 3 => 3 | 4 => 4 | n => n, fun | n => n⟩
theorem Try.laysNm231 : Go.Proofs.Lays2.n31 Try.prog Try.laysNm231_ren := {
  mixed := by kernel_rfl
  f31 := Try.func77.trans (congrArg some (by kernel_rfl))
  f37 := Try.func87.trans (congrArg some (by kernel_rfl))
  t3 := Try.underlying3
  a3 := Try.isAgg3
  z3 := Try.sizeOf3
  v3 := Try.zeroValue3
  t4 := Try.underlying4
  a4 := Try.isAgg4
  z4 := Try.sizeOf4
  v4 := Try.zeroValue4 }
open Go.RowKit Go.Lib in
/-- cmp.Less[int]: "Less reports whether x is less than y.": 'x < y'; the world is as it was. (LAID: no walk: one application.) -/
theorem Try.cmp_Less_int2 (x y : Int) (w : World) :
    Calls Try.prog 77 #[.int .i64 x, .int .i64 y] w fun e w' => e = .returned (.bool (decide (x < y))) ∧ w' = w := Any.cmp_Less_int2 Try.laysNm231 x y w
open Go.RowKit Go.Lib Go.Sort in
/-- slices.Compact at []int, of an argument: the slice cut to 'Lib.compact (elements)'; the n cells hold that, then zeros. (LAID: no walk: one application.) -/
theorem Try.slices_Compact_int_cells (b off n c : Nat) (zs : List Int) (w : World) (hz : n ≤ zs.length) (hbig : n ≤ 9223372036854775807) (hcap : n ≤ c) (hc : ∀ j, j < zs.length → w.cell? ⟨b, off + j, none⟩ = some (.int .i64 (zs.getD j 0))) (hf : ∀ j, j < n → w.frozen? ⟨b, off + j, none⟩ = false) :
    Calls Try.prog 65 #[.slice (some ⟨b, off, none⟩) n c] w fun e w' => e = .returned (.slice (some ⟨b, off, none⟩) (Lib.compact (zs.take n)).length c) ∧ ∃ q, w' = (w.drewN q).setCells b off ((Lib.compact (zs.take n) ++ List.replicate (n - (Lib.compact (zs.take n)).length) 0).map (Value.int .i64)) := Any.slices_Compact_int_cells Try.laysNm220 b off n c zs w hz hbig hcap hc hf
open Go.RowKit Go.Sort in
/-- .. and plain. (LAID: no walk: one application.) -/
theorem Try.slices_Sort_int_none (p : Option Addr) (cap : Nat) (w : World) :
    Calls Try.prog 63 #[.slice p 0 cap] w fun e w' => e = .returned (.tuple #[]) ∧ w' = w := Any.slices_Sort_int_none Try.lays189 p cap w
def Try.laysSlE041_f64_ren : Go.Shelf.Ren := ⟨fun | 41 => 64 | n => n, fun | 22 => 26 | 23 => 3 | 4 => 4 | n => n, fun | n => n⟩
theorem Try.laysSlE041_f64 : Go.Proofs.SlLaysE0.n41 Try.prog Try.laysSlE041_f64_ren := {
  mixed := by kernel_rfl
  f41 := ⟨Try.f64.name, by decide, Try.func64.trans (congrArg some (by kernel_rfl))⟩
  t4 := Try.underlying4
  a4 := Try.isAgg4
  z4 := Try.sizeOf4
  v4 := Try.zeroValue4
  t22 := Try.underlying26
  a22 := Try.isAgg26
  z22 := Try.sizeOf26
  v22 := Try.zeroValue26 }
open Go.RowKit Go.Lib in
/-- slices.Clone: "Clone returns a copy of the slice. The elements are copied using assignment, so this is a shallow clone. The result may have additional unused capacity. The result preserves the nilness of s.": OF A SLICE THAT IS NOT nil IT RETURNS A SLICE THAT IS NOT nil, OF THE SAME CELLS, IN MEMORY OF THE CALL's OWN ('ownsRow': the how-to's 6f); below the heap's size at the call all is as it was. (LAID AT THE INSTANCE 'slices.Clone[[]int,int]': no walk: one application.) -/
theorem Try.slices_Clone (i0 : TypeInfo) (z : Value) (size bytes : Nat) (hi : Try.prog.info? 3 = some i0) (hz0 : i0.zero = some z) (hz1 : i0.size = size) (hz2 : i0.bytes = bytes) (hzs : z.cells.size = size) (hsz : 0 < size) (z23 : ∀ w, (Go.sizeOf 3).run Try.prog w = .ok size w) (b off n c : Nat) (news : List Value) (w : World) (hl : news.length = n * size) (hn : n ≤ maxLen) (hbig : n * bytes ≤ 140737488355328) (hc : ∀ j u, news[j]? = some u → w.cell? ⟨b, off + j, none⟩ = some u) (h1 : ∀ u ∈ news, u.oneCell' = true) :
    Calls Try.prog 64 #[.slice (some ⟨b, off, none⟩) n c] w fun e w' => ∃ v', e = .returned v' ∧ w'.ownsRow w.heap.size 3 size v' n news ∧ v' ≠ .slice none 0 0 ∧ Below w.heap.size w w' := AnyE.slices_Clone Try.laysSlE041_f64 i0 z size bytes hi hz0 hz1 hz2 hzs hsz z23 b off n c news w hl hn hbig hc h1
open Go.RowKit Go.Lib in
/-- The same at nil: nil comes back; the world is as it was; nothing is asked of the element's type. (LAID AT THE INSTANCE 'slices.Clone[[]int,int]': no walk: one application.) -/
theorem Try.slices_Clone_nil (n c : Nat) (w : World) :
    Calls Try.prog 64 #[.slice none n c] w fun e w' => e = .returned (.slice none 0 0) ∧ w' = w := AnyE.slices_Clone_nil Try.laysSlE041_f64 n c w
end Go.Proofs
/- A range over a function of whole numbers whose variable is a slot: the round's frame is told outright. Outside of a round and within one. -/
namespace Go.Proofs.Ytmeaepmimnmjlaa.Range
open Go.RowKit
set_option linter.unusedVariables false
/-- the variable's slot is filled -/
theorem assign_in {F : Fence} {n : Nat} {P : Program} {id p q : Nat} {t : TypeId} {pos : String} {ts : Array Value} {v : Value} {W : World} {K : Act → World → Prop} (hp : p < ts.size) (h : K { tmps := (ts.setIfInBounds p v).setIfInBounds q v, defers := [] } W) :
    (Code.region id #[{ dst := some q, op := .assign (.tmp p), type := t, pos := pos, after := #[], guard := none }] false).wpIn F n P (Exit.then K (fun _ _ _ => False)) { tmps := (#[p].zip #[v]).foldl (fun t (p, v) => t.setIfInBounds p v) ts, defers := [] } W := by
  refine wpIn_region_list (wpListIn_plain rfl fun K' hK' => BigFrame.wpIn_assign (.tmp p) rfl (hK' _ _ (wpListIn_nil ?_)))
  have e : (Act.mk ((#[p].zip #[v]).foldl (fun t (p, v) => t.setIfInBounds p v) ts) []).eval (.tmp p) = v := by
    show ((#[p].zip #[v]).foldl (fun t (p, v) => t.setIfInBounds p v) ts).getD p undef = v
    simp [Array.getD_eq_getD_getElem?, hp]
  rw [e]
  show K _ W
  have e2 : (Act.mk ((#[p].zip #[v]).foldl (fun t (p, v) => t.setIfInBounds p v) ts) []).put (some q) v = { tmps := (ts.setIfInBounds p v).setIfInBounds q v, defers := [] } := by
    simp [Act.put]
  exact e2 ▸ h
/-- a range that is no part of a round -/
theorem rangeH {F : Fence} {n : Nat} {P : Program} {g : Operand} {p q id : Nat} {t : TypeId} {pos : String} {body : Code} {Q : Exit → Act → World → Prop} {a : Act} {w : World} (n₀ : Nat)
    (hro : F.round = none) (h1 : 1 ≤ n) {gf : Nat} {lb : Array Value} (hg : a.eval g = .func (.func gf) #[] lb) (hFg : F.fn gf) (eg : ∀ args w, (callFunc gf args).run P w = .ok (.enter gf args) w) (hp : p < a.tmps.size)
    {S Sp : List Int → Prop} {N : Nat} {w0 : World} (hseq : SeqStopsK F (n - 1) P gf lb (fun x : Int => #[Value.int .i64 x]) (Below n₀) S Sp N w0)
    (hn₀ : n₀ ≤ w.heap.size) (hb0 : Below w0.heap.size w0 w)
    (I : List Int → World → Prop) (Ix : Code → List Int → World → Prop) (hI : OwnFrom w.heap.size I) (hIx : ∀ c, OwnFrom w.heap.size (Ix c)) (h0 : I [] w)
    (hbody : ∀ (l : Nat) (pre : List Int) (x : Int) (W : World), w.heap.size ≤ l → (∃ r, W.heap[l]? = some (.loop r)) → I pre W → pre.length < N →
      body.wpIn (F.inRound l) (n - 1 - 1) P (ownPostG w.heap.size (Below n₀) I Ix (pre ++ [x]) W) { tmps := (a.tmps.setIfInBounds p (.int .i64 x)).setIfInBounds q (.int .i64 x), defers := [] } W)
    (hdone : ∀ (D : Nat) (xs : List Int) (W : World), w.heap.size ≤ D → S xs → I xs W → W.heap[D]? = some (.deferred (some [])) → Q .normal { a with defers := { target := .collected D, args := #[] } :: a.defers } W)
    (hstop : ∀ (D : Nat) (c : Code) (pre : List Int) (W : World), w.heap.size ≤ D → Sp pre → Ix c pre W → W.heap[D]? = some (.deferred (some [])) → c.wpIn F n P Q { a with defers := { target := .collected D, args := #[] } :: a.defers } W) :
    (Code.rangeFunc g #[p] (Code.region id #[{ dst := some q, op := .assign (.tmp p), type := t, pos := pos, after := #[], guard := none }] false) body).wpIn F n P Q a w :=
  wpIn_rangeFunc_ownH hro h1 hg hFg eg hseq belowK_t (belowK_b hn₀) hb0 (fun _ => rfl) I Ix hI hIx h0
    (fun x a' _ => a' = { tmps := (a.tmps.setIfInBounds p (.int .i64 x)).setIfInBounds q (.int .i64 x), defers := [] }) (fun _ _ _ _ _ _ hs _ _ => hs)
    (fun l pre x W K hi hK => assign_in hp (hK _ W (KeepsFrom.refl _ _) (Below.refl _ _) hi rfl))
    (fun l pre x a' W hl hr hi e hN => by subst e; exact hbody l pre x W hl hr hi hN) hdone hstop
/-- a range that is no part of a round; what its body keeps is the caller's choice -/
theorem rangeHK {F : Fence} {n : Nat} {P : Program} {g : Operand} {p q id : Nat} {t : TypeId} {pos : String} {body : Code} {Q : Exit → Act → World → Prop} {a : Act} {w : World} (Kp : World → World → Prop) (hKt : ∀ {A B C : World}, Kp A B → Kp B C → Kp A C) (hKr : ∀ W, Kp W W)
    (hro : F.round = none) (h1 : 1 ≤ n) {gf : Nat} {lb : Array Value} (hg : a.eval g = .func (.func gf) #[] lb) (hFg : F.fn gf) (eg : ∀ args w, (callFunc gf args).run P w = .ok (.enter gf args) w) (hp : p < a.tmps.size)
    {S Sp : List Int → Prop} {N : Nat} {w0 : World} (hseq : SeqStopsK F (n - 1) P gf lb (fun x : Int => #[Value.int .i64 x]) Kp S Sp N w0)
    (hKb : ∀ (W : World) (l : Nat) (o o' : Obj), w.heap.size ≤ l → W.heap[l]? = some o → o.isCells = false → o.isWalk = false → Kp W (W.putObj l o')) (hb0 : Below w0.heap.size w0 w)
    (I : List Int → World → Prop) (Ix : Code → List Int → World → Prop) (hI : OwnFrom w.heap.size I) (hIx : ∀ c, OwnFrom w.heap.size (Ix c)) (h0 : I [] w)
    (hbody : ∀ (l : Nat) (pre : List Int) (x : Int) (W : World), w.heap.size ≤ l → (∃ r, W.heap[l]? = some (.loop r)) → I pre W → pre.length < N →
      body.wpIn (F.inRound l) (n - 1 - 1) P (ownPostG w.heap.size Kp I Ix (pre ++ [x]) W) { tmps := (a.tmps.setIfInBounds p (.int .i64 x)).setIfInBounds q (.int .i64 x), defers := [] } W)
    (hdone : ∀ (D : Nat) (xs : List Int) (W : World), w.heap.size ≤ D → S xs → I xs W → W.heap[D]? = some (.deferred (some [])) → Q .normal { a with defers := { target := .collected D, args := #[] } :: a.defers } W)
    (hstop : ∀ (D : Nat) (c : Code) (pre : List Int) (W : World), w.heap.size ≤ D → Sp pre → Ix c pre W → W.heap[D]? = some (.deferred (some [])) → c.wpIn F n P Q { a with defers := { target := .collected D, args := #[] } :: a.defers } W) :
    (Code.rangeFunc g #[p] (Code.region id #[{ dst := some q, op := .assign (.tmp p), type := t, pos := pos, after := #[], guard := none }] false) body).wpIn F n P Q a w :=
  wpIn_rangeFunc_ownH hro h1 hg hFg eg hseq hKt hKb hb0 (fun _ => rfl) I Ix hI hIx h0
    (fun x a' _ => a' = { tmps := (a.tmps.setIfInBounds p (.int .i64 x)).setIfInBounds q (.int .i64 x), defers := [] }) (fun _ _ _ _ _ _ hs _ _ => hs)
    (fun l pre x W K hi hK => assign_in hp (hK _ W (KeepsFrom.refl _ _) (hKr _) hi rfl))
    (fun l pre x a' W hl hr hi e hN => by subst e; exact hbody l pre x W hl hr hi hN) hdone hstop
/-- a range that is no part of a round, within its block: all came, or a round left by 'break' -/
theorem rangeHB {F : Fence} {n : Nat} {P : Program} {g : Operand} {p q id bid : Nat} {t : TypeId} {pos : String} {body : Code} {Q : Exit → Act → World → Prop} {a : Act} {w : World} (n₀ : Nat)
    (hro : F.round = none) (h1 : 1 ≤ n) {gf : Nat} {lb : Array Value} (hg : a.eval g = .func (.func gf) #[] lb) (hFg : F.fn gf) (eg : ∀ args w, (callFunc gf args).run P w = .ok (.enter gf args) w) (hp : p < a.tmps.size)
    {S Sp : List Int → Prop} {N : Nat} {w0 : World} (hseq : SeqStopsK F (n - 1) P gf lb (fun x : Int => #[Value.int .i64 x]) (Below n₀) S Sp N w0)
    (hn₀ : n₀ ≤ w.heap.size) (hb0 : Below w0.heap.size w0 w)
    (I Ib : List Int → World → Prop) (hI : OwnFrom w.heap.size I) (hIb : OwnFrom w.heap.size Ib) (h0 : I [] w)
    (hbody : ∀ (l : Nat) (pre : List Int) (x : Int) (W : World), w.heap.size ≤ l → (∃ r, W.heap[l]? = some (.loop r)) → I pre W → pre.length < N →
      body.wpIn (F.inRound l) (n - 1 - 1) P (ownPostG w.heap.size (Below n₀) I (fun c xs W => c = .exit bid ∧ Ib xs W) (pre ++ [x]) W) { tmps := (a.tmps.setIfInBounds p (.int .i64 x)).setIfInBounds q (.int .i64 x), defers := [] } W)
    (hend : ∀ (D : Nat) (xs : List Int) (W : World), w.heap.size ≤ D → (S xs ∧ I xs W ∨ Sp xs ∧ Ib xs W) → W.heap[D]? = some (.deferred (some [])) → Q .normal { a with defers := { target := .collected D, args := #[] } :: a.defers } W) :
    (Code.rangeFunc g #[p] (Code.region id #[{ dst := some q, op := .assign (.tmp p), type := t, pos := pos, after := #[], guard := none }] false) body).wpIn F n P (Exit.inBlock bid Q) a w :=
  rangeH n₀ hro h1 hg hFg eg hp hseq hn₀ hb0 I (fun c xs W => c = .exit bid ∧ Ib xs W) hI (fun c s W W' row hs hg hr => ⟨hs.1, hIb s W W' row hs.2 hg hr⟩) h0 hbody
    (fun D xs W hD hs hi hK => hend D xs W hD (.inl ⟨hs, hi⟩) hK)
    (fun D c pre W hD hs hi hK => by
      obtain ⟨rfl, hi⟩ := hi
      refine wpIn_exit ?_
      show (if bid = bid then Q .normal _ W else _)
      rw [if_pos rfl]
      exact hend D pre W hD (.inr ⟨hs, hi⟩) hK)
/-- a range within a round -/
theorem rangeN {F : Fence} {n : Nat} {P : Program} {g : Operand} {p q id : Nat} {t : TypeId} {pos : String} {body : Code} {Q : Exit → Act → World → Prop} {a : Act} {w : World} (n₀ : Nat)
    {l₀ : Nat} {r₀ : Loop} (hro : F.round = some l₀) (hl₀ : w.heap[l₀]? = some (.loop r₀)) (h1 : 1 ≤ n) {gf : Nat} {lb : Array Value} (hg : a.eval g = .func (.func gf) #[] lb) (hFg : F.fn gf) (eg : ∀ args w, (callFunc gf args).run P w = .ok (.enter gf args) w) (hp : p < a.tmps.size)
    {S Sp : List Int → Prop} {N : Nat} {w0 : World} (hseq : SeqStopsK F (n - 1) P gf lb (fun x : Int => #[Value.int .i64 x]) (Below n₀) S Sp N w0)
    (hn₀ : n₀ ≤ w.heap.size) (hb0 : Below w0.heap.size w0 w)
    (I : List Int → World → Prop) (Ix : Code → List Int → World → Prop) (hI : OwnFrom w.heap.size I) (hIx : ∀ c, OwnFrom w.heap.size (Ix c)) (h0 : I [] w)
    (hbody : ∀ (l : Nat) (pre : List Int) (x : Int) (W : World), w.heap.size ≤ l → (∃ r, W.heap[l]? = some (.loop r)) → I pre W → pre.length < N →
      body.wpIn (F.inRound l) (n - 1 - 1) P (ownPostG w.heap.size (Below n₀) I Ix (pre ++ [x]) W) { tmps := (a.tmps.setIfInBounds p (.int .i64 x)).setIfInBounds q (.int .i64 x), defers := [] } W)
    (hdone : ∀ (xs : List Int) (W : World), S xs → I xs W → Q .normal a W)
    (hstop : ∀ (c : Code) (pre : List Int) (W : World), Sp pre → Ix c pre W → c.wpIn F n P Q a W) :
    (Code.rangeFunc g #[p] (Code.region id #[{ dst := some q, op := .assign (.tmp p), type := t, pos := pos, after := #[], guard := none }] false) body).wpIn F n P Q a w :=
  wpIn_rangeFunc_ownN hro hl₀ h1 hg hFg eg hseq belowK_t (belowK_b hn₀) hb0 (fun _ => rfl) I Ix hI hIx h0
    (fun x a' _ => a' = { tmps := (a.tmps.setIfInBounds p (.int .i64 x)).setIfInBounds q (.int .i64 x), defers := [] }) (fun _ _ _ _ _ _ hs _ _ => hs)
    (fun l pre x W K hi hK => assign_in hp (hK _ W (KeepsFrom.refl _ _) (Below.refl _ _) hi rfl))
    (fun l pre x a' W hl hr hi e hN => by subst e; exact hbody l pre x W hl hr hi hN) hdone hstop
/-! ### two variables -/
theorem assign2_in {F : Fence} {n : Nat} {P : Program} {id id' p q p' q' : Nat} {t t' : TypeId} {pos pos' : String} {ts : Array Value} {v v' : Value} {W : World} {K : Act → World → Prop} (hp : p < ts.size) (hp' : p' < ts.size) (h1 : p ≠ p') (h2 : q ≠ p') (h : K { tmps := (((ts.setIfInBounds p v).setIfInBounds p' v').setIfInBounds q v).setIfInBounds q' v', defers := [] } W) :
    ((Code.region id #[{ dst := some q, op := .assign (.tmp p), type := t, pos := pos, after := #[], guard := none }] false).seq (Code.region id' #[{ dst := some q', op := .assign (.tmp p'), type := t', pos := pos', after := #[], guard := none }] false)).wpIn F n P (Exit.then K (fun _ _ _ => False)) { tmps := (#[p, p'].zip #[v, v']).foldl (fun t (p, v) => t.setIfInBounds p v) ts, defers := [] } W := by
  refine wpIn_seq (wpIn_region_list (wpListIn_plain rfl fun K' hK' => BigFrame.wpIn_assign (.tmp p) rfl (hK' _ _ (wpListIn_nil ?_))))
  show Code.wpIn F n P _ _ _ W
  refine wpIn_region_list (wpListIn_plain rfl fun K' hK' => BigFrame.wpIn_assign (.tmp p') rfl (hK' _ _ (wpListIn_nil ?_)))
  have e : (Act.mk ((#[p, p'].zip #[v, v']).foldl (fun t (p, v) => t.setIfInBounds p v) ts) []).eval (.tmp p) = v := by
    show ((#[p, p'].zip #[v, v']).foldl (fun t (p, v) => t.setIfInBounds p v) ts).getD p undef = v
    simp [Array.getD_eq_getD_getElem?, hp, Ne.symm h1]
  rw [e]
  have e2 : (Act.mk ((#[p, p'].zip #[v, v']).foldl (fun t (p, v) => t.setIfInBounds p v) ts) []).put (some q) v = { tmps := ((ts.setIfInBounds p v).setIfInBounds p' v').setIfInBounds q v, defers := [] } := by
    simp [Act.put]
  rw [e2]
  have e3 : (Act.mk (((ts.setIfInBounds p v).setIfInBounds p' v').setIfInBounds q v) []).eval (.tmp p') = v' := by
    show (((ts.setIfInBounds p v).setIfInBounds p' v').setIfInBounds q v).getD p' undef = v'
    simp [Array.getD_eq_getD_getElem?, hp', h2]
  rw [e3]
  show K _ W
  exact h
/-- a range over pairs of whole numbers that is no part of a round, within its block -/
theorem range2HB {F : Fence} {n : Nat} {P : Program} {g : Operand} {p q p' q' id id' : Nat} {t t' : TypeId} {pos pos' : String} {body : Code} {Q : Exit → Act → World → Prop} {a : Act} {w : World} (n₀ : Nat)
    (hro : F.round = none) (h1 : 1 ≤ n) {gf : Nat} {lb : Array Value} (hg : a.eval g = .func (.func gf) #[] lb) (hFg : F.fn gf) (eg : ∀ args w, (callFunc gf args).run P w = .ok (.enter gf args) w) (hp : p < a.tmps.size) (hp' : p' < a.tmps.size) (hpp : p ≠ p') (hqp : q ≠ p')
    {S Sp : List (Int × Int) → Prop} {N : Nat} {w0 : World} (hseq : SeqStopsK F (n - 1) P gf lb (fun x : Int × Int => #[Value.int .i64 x.1, Value.int .i64 x.2]) (Below n₀) S Sp N w0)
    (hn₀ : n₀ ≤ w.heap.size) (hb0 : Below w0.heap.size w0 w)
    (I : List (Int × Int) → World → Prop) (Ix : Code → List (Int × Int) → World → Prop) (hI : OwnFrom w.heap.size I) (hIx : ∀ c, OwnFrom w.heap.size (Ix c)) (h0 : I [] w)
    (hbody : ∀ (l : Nat) (pre : List (Int × Int)) (x : Int × Int) (W : World), w.heap.size ≤ l → (∃ r, W.heap[l]? = some (.loop r)) → I pre W → pre.length < N →
      body.wpIn (F.inRound l) (n - 1 - 1) P (ownPostG w.heap.size (Below n₀) I Ix (pre ++ [x]) W) { tmps := (((a.tmps.setIfInBounds p (.int .i64 x.1)).setIfInBounds p' (.int .i64 x.2)).setIfInBounds q (.int .i64 x.1)).setIfInBounds q' (.int .i64 x.2), defers := [] } W)
    (hdone : ∀ (D : Nat) (xs : List (Int × Int)) (W : World), w.heap.size ≤ D → S xs → I xs W → W.heap[D]? = some (.deferred (some [])) → Q .normal { a with defers := { target := .collected D, args := #[] } :: a.defers } W)
    (hstop : ∀ (D : Nat) (c : Code) (pre : List (Int × Int)) (W : World), w.heap.size ≤ D → Sp pre → Ix c pre W → W.heap[D]? = some (.deferred (some [])) → c.wpIn F n P Q { a with defers := { target := .collected D, args := #[] } :: a.defers } W) :
    (Code.rangeFunc g #[p, p'] ((Code.region id #[{ dst := some q, op := .assign (.tmp p), type := t, pos := pos, after := #[], guard := none }] false).seq (Code.region id' #[{ dst := some q', op := .assign (.tmp p'), type := t', pos := pos', after := #[], guard := none }] false)) body).wpIn F n P Q a w :=
  wpIn_rangeFunc_ownH hro h1 hg hFg eg hseq belowK_t (belowK_b hn₀) hb0 (fun _ => rfl) I Ix hI hIx h0
    (fun x a' _ => a' = { tmps := (((a.tmps.setIfInBounds p (.int .i64 x.1)).setIfInBounds p' (.int .i64 x.2)).setIfInBounds q (.int .i64 x.1)).setIfInBounds q' (.int .i64 x.2), defers := [] }) (fun _ _ _ _ _ _ hs _ _ => hs)
    (fun l pre x W K hi hK => assign2_in hp hp' hpp hqp (hK _ W (KeepsFrom.refl _ _) (Below.refl _ _) hi rfl))
    (fun l pre x a' W hl hr hi e hN => by subst e; exact hbody l pre x W hl hr hi hN) hdone hstop
/-! ### what lies below n is kept, but for one block -/
def KBut (n g : Nat) (W W' : World) : Prop := W.heap.size ≤ W'.heap.size ∧ ∀ k, k < n → k ≠ g → W'.heap[k]? = W.heap[k]?
theorem KBut.refl (n g : Nat) (W : World) : KBut n g W W := ⟨Nat.le_refl _, fun _ _ _ => rfl⟩
theorem KBut.trans {n g : Nat} {A B C : World} (h : KBut n g A B) (k : KBut n g B C) : KBut n g A C := ⟨Nat.le_trans h.1 k.1, fun i hi hg => (k.2 i hi hg).trans (h.2 i hi hg)⟩
theorem KBut.of_below {n g : Nat} {A B : World} (h : Below n A B) : KBut n g A B := ⟨h.size, fun i hi _ => h.block i hi⟩
theorem KBut.set {n g : Nat} {A B : World} (h : KBut n g A B) (j : Nat) (u : Value) : KBut n g A (B.setCell ⟨g, j, none⟩ u) := ⟨by simpa using h.1, fun i hi hg => (Below.heap_setCell B ⟨g, j, none⟩ u i (by simpa using hg)).trans (h.2 i hi hg)⟩
theorem KBut.put {n g : Nat} {w : World} (hn : n ≤ w.heap.size) (W : World) (l : Nat) (o o' : Obj) (hl : w.heap.size ≤ l) (h : W.heap[l]? = some o) (hc : o.isCells = false) (hw : o.isWalk = false) : KBut n g W (W.putObj l o') := KBut.of_below (belowK_b hn W l o o' hl h hc hw)
theorem KBut.blk {n g k : Nat} {W W' : World} {o : Obj} (h : KBut n g W W') (hb : W.heap[k]? = some o) (hk : k < n) (hg : k ≠ g) : W'.heap[k]? = some o := (h.2 k hk hg).trans hb
theorem KBut.own {β : Type} {n g B : Nat} {w₀ : World} (hn : n ≤ w₀.heap.size) (hB : n ≤ B) : OwnFrom B (fun (_ : β) W => KBut n g w₀ W) := fun _ X Y row hs hg hr => ⟨Nat.le_trans hs.1 hg.size, fun k hk hne =>
  (hg.block k (by have := hs.1; omega) (fun e => by have := (hr k e.symm).1; omega)).trans (hs.2 k hk hne)⟩
end Go.Proofs.Ytmeaepmimnmjlaa.Range
/- The iterator over what dominates: graph.Doms' value, and what a range over it goes over. For every world. -/
namespace Go.Proofs.Ytmeaepmimnmjlaa.PGb
open Go.RowKit Go.Shelf Go.Proofs.Ytmeaepmimnmjlaa.Lit Go.Proofs.Ytmeaepmimnmjlaa.OwnCells Go.Proofs.YtmeaepmimnmjlaaW.PrintWords Go.Proofs.YtmeaepmimnmjlaaW.PrintLast Go.Proofs.YtmeaepmimnmjlaaW.PrintMore
attribute [local go_sem] Oper.semAt_some
set_option linter.unusedVariables false
set_option linter.unusedSimpArgs false
/-- what is gone over: from b up, as long as there are numbers -/
def doms (l : List Int) : Nat → Int → List Int
  | 0, _ => []
  | k + 1, b => if 0 ≤ b ∧ b < (l.length : Int) then b :: doms l k (rd l b) else []
theorem doms_len (l : List Int) : ∀ k b, (doms l k b).length ≤ k
  | 0, _ => Nat.le_refl _
  | k + 1, b => by
    unfold doms
    split
    · rw [List.length_cons]; have := doms_len l k (rd l b); omega
    · simp
theorem R_empty {α : Type} (d : Kd α) (e : Nat) (w : World) : d.R e (w.alloc (.cells #[] e)) w.heap.size (fun _ => True) (.slice (some ⟨w.heap.size, 0, none⟩) 0 0) [] :=
  ⟨fun _ _ => trivial, [], ⟨by simp, .inr ⟨w.heap.size, 0, #[], rfl, Nat.le_refl _, heap_alloc_new w _, Nat.le_refl _, by decide, by simp, by simp⟩⟩, Reps.none _ _⟩
theorem R_lo {α : Type} {d : Kd α} {e n0 : Nat} {w : World} {P : Option Addr} {n c : Nat} {l : List α} (h : d.R e w n0 (fun _ => True) (.slice P n c) l) (ad : Addr) (hp : P = some ad) : n0 ≤ ad.block := by
  subst hp
  obtain ⟨_, rows, ⟨_, (h | ⟨b, c, segs, he, hb, _⟩)⟩, _⟩ := h
  · cases h.1
  · cases he
    exact hb
set_option maxHeartbeats 1000000 in
set_option maxRecDepth 100000 in
theorem clone_ints (A : Option Addr) (c : Nat) (l : List Int) (w : World) (hA : (Kd.int .i64).C w A l.length l) (hl : l.length * 8 ≤ 140737488355328) :
    Calls Try.prog 64 #[.slice A l.length c] w fun e w' => ∃ v, e = .returned v ∧ (Kd.int .i64).R 3 w' w.heap.size (fun _ => True) v l ∧ Below w.heap.size w w' := by
  cases A with
  | none =>
    have h0 : l = [] := by
      cases l with
      | nil => rfl
      | cons x r => obtain ⟨ad, he, _⟩ := hA.2.2 (by simp); cases he
    subst h0
    have he := fun w => Lib.run_eql_slice_nil (P := Try.prog) w 26 3 none 0 c 0 0 Try.underlying26
    go_enter Try.func64, Try.ntmps64
    go_wp2
    go_ret
    exact ⟨_, rfl, Kd.R_nil _ _ _ _ _, Below.refl _ _⟩
  | some ad =>
    have HA := Aside0.mk hA
    clear hA
    have he := fun w => Lib.run_eql_slice_nil (P := Try.prog) w 26 3 (some ad) l.length c 0 0 Try.underlying26
    go_enter Try.func64, Try.ntmps64
    have HR := Aside0.mk (R_empty (Kd.int .i64) 3 w)
    have HL := Aside0.mk hl
    clear hl
    go_wp2_with (first | (at_builtin; refine Kd.R_append_rows (Kd.int .i64) (Rr := (Kd.int .i64).K w) (w0 := w) w.heap.size rfl _ _ 26 3 (.int .i64 0) 8 rfl Try.underlying26 (by kernel_rfl) rfl (by decide) (by decide) _ [] l (some ad) l.length c (fun _ => True) (fun _ => False) rfl rfl HR.out ?hA (fun x cs h => h) (fun k hk => hk.elim) (fun _ _ => trivial) (below_alloc (Below.refl _ _) _) (by simp) (by have := HL.out; simp; omega) ?_; (case hA => exact Kd.C_below HA.out (below_alloc (Below.refl _ _) _)); intro v1 w1 h1 h2 _ _) | go_in)
    go_ret
    exact ⟨_, rfl, h1, h2⟩
/-- the function value: two boxes, the numbers in memory that nobody else has -/
structure Seq (w : World) (base B1 B2 : Nat) (P : Option Addr) (d : Nat) (l : List Int) (b : Int) : Prop where
  b1 : w.heap[B1]? = some (.cells #[.int .i64 b] 3 (0, 0))
  b2 : w.heap[B2]? = some (.cells #[.slice P l.length d] 26 (0, 0))
  row : (Kd.int .i64).C w P l.length l
  lo1 : base ≤ B1
  lo2 : base ≤ B2
  lo : ∀ ad, P = some ad → base ≤ ad.block
theorem Seq.below {w w1 : World} {base B1 B2 : Nat} {P : Option Addr} {d : Nat} {l : List Int} {b : Int} (h : Seq w base B1 B2 P d l b) (hb : Below w.heap.size w w1) : Seq w1 base B1 B2 P d l b := ⟨blk_below h.b1 hb, blk_below h.b2 hb, Kd.C_below h.row hb, h.lo1, h.lo2, h.lo⟩
set_option maxHeartbeats 1000000 in
set_option maxRecDepth 100000 in
theorem above_calls (base : Nat) (P : Option Addr) (d : Nat) (l : List Int) (b : Int) (w : World) (hP : (Kd.int .i64).C w P l.length l) (hbs : base ≤ w.heap.size) (hlo : ∀ ad, P = some ad → base ≤ ad.block) :
    Calls Try.prog 57 #[.slice P l.length d, .int .i64 b] w fun e w' => ∃ B1 B2, e = .returned (.func (.func 68) #[] #[.pointer (some ⟨B1, 0, none⟩), .pointer (some ⟨B2, 0, none⟩)]) ∧ Seq w' base B1 B2 P d l b ∧ Below w.heap.size w w' := by
  go_enter Try.func57, Try.ntmps57
  go_wp2_with (fail)
  go_ret
  refine ⟨w.heap.size + 1, w.heap.size, by simp, ⟨?_, ?_, Kd.C_below hP (e4 _ _ _), by omega, hbs, hlo⟩, e4 _ _ _⟩
  · have := blk_new (w.alloc (.cells #[.slice P l.length d] 26)) (.cells #[.int .i64 b] 3)
    rw [World.size_alloc] at this
    exact this
  · exact blk_alloc (blk_new w _) _
set_option maxHeartbeats 1000000 in
set_option maxRecDepth 100000 in
theorem doms_calls (A0 A1 A2 A3 A4 : Option Addr) (c0 c1 c2 c3 c4 n0 n1 n2 n4 : Nat) (l : List Int) (b : Int) (w : World) (hA : (Kd.int .i64).C w A3 l.length l) (hl : l.length * 8 ≤ 140737488355328) :
    Calls Try.prog 58 #[.agg #[.slice A0 n0 c0, .slice A1 n1 c1, .slice A2 n2 c2, .slice A3 l.length c3, .slice A4 n4 c4], .int .i64 b] w fun e w' => ∃ B1 B2 P d, e = .returned (.func (.func 68) #[] #[.pointer (some ⟨B1, 0, none⟩), .pointer (some ⟨B2, 0, none⟩)]) ∧ Seq w' w.heap.size B1 B2 P d l b ∧ Below w.heap.size w w' := by
  have HA := Aside0.mk hA
  have HL := Aside0.mk hl
  clear hA hl
  go_enter Try.func58, Try.ntmps58
  go_wp2_with (fail)
  have hb := below_alloc (Below.refl _ w) (.cells #[.slice A0 n0 c0, .slice A1 n1 c1, .slice A2 n2 c2, .slice A3 l.length c3, .slice A4 n4 c4] 29)
  refine (clone_ints A3 c3 l _ (Kd.C_below HA.out hb) HL.out).mono ?_
  rintro e w2 ⟨v, rfl, hR, hb2⟩
  obtain ⟨P, d, rfl, _, hC⟩ := Kd.R_reads hR
  have HC := Aside0.mk hC
  have hlo : ∀ ad, P = some ad → w.heap.size ≤ ad.block := fun ad hp => by
    have := R_lo hR ad hp
    rw [World.size_alloc] at this
    omega
  have HLo := Aside0.mk hlo
  clear hlo
  have HB := Aside0.mk (below_then hb hb.size hb2)
  clear hb hb2 hR hC
  go_wp2_with (fail)
  refine (above_calls w.heap.size P d l b w2 HC.out HB.out.size HLo.out).mono ?_
  rintro e w3 ⟨B1, B2, rfl, hS, hb3⟩
  go_wp2_with (fail)
  go_ret
  exact ⟨B1, B2, P, d, rfl, hS, HB.out.trans (hb3.mono HB.out.size)⟩
end Go.Proofs.Ytmeaepmimnmjlaa.PGb
/- What a range over the iterator goes over. For every world, for every loop body that keeps what lay below. -/
namespace Go.Proofs.Ytmeaepmimnmjlaa.PGb
open Go.RowKit Go.Shelf Go.Proofs.Ytmeaepmimnmjlaa.Lit Go.Proofs.Ytmeaepmimnmjlaa.OwnCells Go.Proofs.YtmeaepmimnmjlaaW.PrintWords Go.Proofs.YtmeaepmimnmjlaaW.PrintLast Go.Proofs.YtmeaepmimnmjlaaW.PrintMore
attribute [local go_sem] Oper.semAt_some
set_option linter.unusedVariables false
set_option linter.unusedSimpArgs false
theorem wrapN {n : Nat} (h : n < 9223372036854775807) : wrap64 ((n : Int) + 1) = ((n + 1 : Nat) : Int) := by unfold wrap64; omega
set_option maxRecDepth 100000 in
set_option maxHeartbeats 4000000 in
theorem above1_inK (Kp : World → World → Prop) (hKt : ∀ {A B C : World}, Kp A B → Kp B C → Kp A C) (F : Fence) (n : Nat) (h19 : F.fn 68) (hro : F.round = none) (hn : 1 ≤ n) (lp B1 B2 base : Nat) (P : Option Addr) (d : Nat) (l : List Int) (b : Int) (hl : l.length < 9223372036854775807) (w3 : World) (hS : ∀ W', Kp w3 W' → Seq W' base B1 B2 P d l b) (J Jx : List Int → World → Prop)
    (hY : ∀ pre x W, J pre W → pre.length < (doms l l.length b).length → YieldAt F (n - 1) Try.prog lp #[.int .i64 x] W fun e W' =>
      (e = .returned (.bool true) ∧ J (pre ++ [x]) W' ∧ Kp W W') ∨ (e = .returned (.bool false) ∧ Jx (pre ++ [x]) W'))
    (W : World) (hW : Kp w3 W) (h0 : J [] W) :
    CallsIn F n Try.prog 68 #[.func (.yield lp) #[] #[], .pointer (some ⟨B1, 0, none⟩), .pointer (some ⟨B2, 0, none⟩)] W fun e W' => (∃ v, e = .returned v) ∧
      ((∃ ys, ys = doms l l.length b ∧ J ys W') ∨ (∃ pre, pre <+: doms l l.length b ∧ Jx pre W')) := by
  have c1 := blk_cell (hS W hW).b1 0
  have c2 := blk_cell (hS W hW).b2 0
  replace c1 : W.cell? ⟨B1, 0, none⟩ = some (.int .i64 b) := c1
  replace c2 : W.cell? ⟨B2, 0, none⟩ = some (.slice P l.length d) := c2
  refine callsIn_of_wp Try.func68 rfl h19 ?_ hro
  simp only [Try.ntmps68, List.size_toArray, List.length_cons, List.length_nil, Nat.reduceAdd, Nat.reduceSub, Array.replicate_succ, Array.replicate_zero, List.push_toArray, List.append_toArray, List.nil_append, List.cons_append]
  gi_wp2
  clear c1 c2
  gi_loopw [4, 8] (fun t i wr => ∃ (k : Nat) (a : Int) (pre : List Int), k ≤ l.length ∧ t = .int .i64 a ∧ i = .int .i64 k ∧ pre.length = k ∧ pre ++ doms l (l.length - k) a = doms l l.length b ∧ J pre wr ∧ Kp w3 wr) (fun _ i _ => l.length - (intOf i).toNat)
  case atStart => exact ⟨0, b, [], Nat.zero_le _, rfl, rfl, rfl, by simp, h0, hW⟩
  case round =>
    obtain ⟨k, a, pre, hk, rfl, rfl, hpl, hpd, hJ, hB⟩ := hrel
    have c2 : wr.cell? ⟨B2, 0, none⟩ = some (.slice P l.length d) := blk_cell (hS wr hB).b2 0
    by_cases hkl : k < l.length
    · by_cases ha0 : a < 0
      · have he : doms l (l.length - k) a = [] := by
          obtain ⟨m, hm⟩ : ∃ m, l.length - k = m + 1 := ⟨l.length - k - 1, by omega⟩
          rw [hm, doms, if_neg (by omega)]
        rw [he, List.append_nil] at hpd
        gi_wp2
        refine ⟨fun _ h => (by cases h), ?_⟩
        gi_wp2
        refine bodyPost_ret (results_none rfl _ _ _) rfl ?_
        exact ⟨⟨_, rfl⟩, .inl ⟨pre, hpd, hJ⟩⟩
      · by_cases hal : (l.length : Int) ≤ a
        · have he : doms l (l.length - k) a = [] := by
            obtain ⟨m, hm⟩ : ∃ m, l.length - k = m + 1 := ⟨l.length - k - 1, by omega⟩
            rw [hm, doms, if_neg (by omega)]
          rw [he, List.append_nil] at hpd
          gi_wp2
          refine ⟨fun _ h => (by cases h), ?_⟩
          gi_wp2
          refine bodyPost_ret (results_none rfl _ _ _) rfl ?_
          exact ⟨⟨_, rfl⟩, .inl ⟨pre, hpd, hJ⟩⟩
        · have he : doms l (l.length - k) a = a :: doms l (l.length - (k + 1)) (rd l a) := by
            obtain ⟨m, hm⟩ : ∃ m, l.length - k = m + 1 := ⟨l.length - k - 1, by omega⟩
            rw [hm, doms, if_pos (by omega), show l.length - (k + 1) = m by omega]
          rw [he] at hpd
          obtain ⟨fn, tmps, assign, body, hy, hR⟩ := hY pre a wr hJ (by rw [← hpd]; simp)
          gi_wp2
          refine hR.mono ?_
          rintro e W3 (⟨rfl, hJ3, hk3⟩ | ⟨rfl, hJx3⟩)
          · have hB3 := hKt hB hk3
            have c2' : W3.cell? ⟨B2, 0, none⟩ = some (.slice P l.length d) := blk_cell (hS W3 hB3).b2 0
            obtain ⟨ad, rfl, hc⟩ := Kd.at_int (hS W3 hB3).row a (by omega) (by omega)
            gi_wp2
            go_roundw
            case rel => exact ⟨k + 1, rd l a, pre ++ [a], by omega, rfl, by go_num, by simp [hpl], by rw [List.append_assoc]; exact hpd, hJ3, hB3⟩
            case measure => simp [intOf]; omega
          · gi_wp2
            refine bodyPost_ret (results_none rfl _ _ _) rfl ?_
            exact ⟨⟨_, rfl⟩, .inr ⟨pre ++ [a], ⟨doms l (l.length - (k + 1)) (rd l a), by rw [List.append_assoc]; exact hpd⟩, hJx3⟩⟩
    · obtain rfl : k = l.length := by omega
      rw [Nat.sub_self, doms, List.append_nil] at hpd
      gi_wp2
      go_end0
      exact ⟨⟨_, rfl⟩, .inl ⟨pre, hpd, hJ⟩⟩
theorem above_stopsK (Kp : World → World → Prop) (hKt : ∀ {A B C : World}, Kp A B → Kp B C → Kp A C) (F : Fence) (n : Nat) (h19 : F.fn 68) (hro : F.round = none) (hn : 1 ≤ n) (B1 B2 base : Nat) (P : Option Addr) (d : Nat) (l : List Int) (b : Int) (hl : l.length < 9223372036854775807) (w3 : World) (hS : ∀ W', Kp w3 W' → Seq W' base B1 B2 P d l b) (w : World) (hb : ∀ W, Below w.heap.size w W → Kp w3 W) :
    SeqStopsK F n Try.prog 68 #[.pointer (some ⟨B1, 0, none⟩), .pointer (some ⟨B2, 0, none⟩)] (fun x : Int => #[Value.int .i64 x]) Kp (fun ys => ys = doms l l.length b) (fun pre => pre <+: doms l l.length b) (doms l l.length b).length w := fun lp J Jx W hW _ _ hY h0 =>
  above1_inK Kp hKt F n h19 hro hn lp B1 B2 base P d l b hl w3 hS J Jx hY W (hb W hW) h0
/-- what a range over the function value goes over -/
theorem above_stops (F : Fence) (n : Nat) (h19 : F.fn 68) (hro : F.round = none) (hn : 1 ≤ n) (B1 B2 n₀ base : Nat) (P : Option Addr) (d : Nat) (l : List Int) (b : Int) (hl : l.length < 9223372036854775807) (w3 : World) (hS : ∀ W', Below n₀ w3 W' → Seq W' base B1 B2 P d l b) (w : World) (hb : Below n₀ w3 w) (hn₀ : n₀ ≤ w.heap.size) :
    SeqStopsK F n Try.prog 68 #[.pointer (some ⟨B1, 0, none⟩), .pointer (some ⟨B2, 0, none⟩)] (fun x : Int => #[Value.int .i64 x]) (Below n₀) (fun ys => ys = doms l l.length b) (fun pre => pre <+: doms l l.length b) (doms l l.length b).length w :=
  above_stopsK (Below n₀) (fun h k => h.trans k) F n h19 hro hn B1 B2 base P d l b hl w3 hS w (fun W hW => hb.trans (hW.mono hn₀))
end Go.Proofs.Ytmeaepmimnmjlaa.PGb
/- slices.Backward: what a range over its value goes over. For every world, for every loop body that keeps what lay below. -/
namespace Go.Proofs.Ytmeaepmimnmjlaa.PGb
open Go.RowKit Go.Shelf Go.Proofs.Ytmeaepmimnmjlaa.Lit Go.Proofs.Ytmeaepmimnmjlaa.OwnCells Go.Proofs.YtmeaepmimnmjlaaW.PrintWords Go.Proofs.YtmeaepmimnmjlaaW.PrintLast Go.Proofs.YtmeaepmimnmjlaaW.PrintMore
attribute [local go_sem] Oper.semAt_some
set_option linter.unusedVariables false
set_option linter.unusedSimpArgs false
/-- what is gone over: from the last place down -/
def back (l : List Int) : Nat → List (Int × Int)
  | 0 => []
  | k + 1 => ((k : Int), rd l (k : Int)) :: back l k
theorem back_len (l : List Int) : ∀ k, (back l k).length = k
  | 0 => rfl
  | k + 1 => by rw [back, List.length_cons, back_len l k]
set_option maxHeartbeats 1000000 in
set_option maxRecDepth 100000 in
theorem backward_calls (A : Option Addr) (c : Nat) (l : List Int) (w : World) :
    Calls Try.prog 50 #[.slice A l.length c] w fun e w' => e = .returned (.func (.func 67) #[] #[.pointer (some ⟨w.heap.size, 0, none⟩)]) ∧ w' = w.alloc (.cells #[.slice A l.length c] 26) := by
  go_enter Try.func50, Try.ntmps50
  go_wp2_with (fail)
  go_ret
  exact ⟨rfl, rfl⟩
set_option maxRecDepth 100000 in
set_option maxHeartbeats 4000000 in
theorem back1_in (F : Fence) (n : Nat) (h20 : F.fn 67) (hro : F.round = none) (hn : 1 ≤ n) (lp B n₀ : Nat) (A : Option Addr) (c : Nat) (l : List Int) (hl : l.length < 9223372036854775807) (w3 : World) (hS : ∀ W', Below n₀ w3 W' → Boxed W' B 26 (.slice A l.length c) ∧ (Kd.int .i64).C W' A l.length l) (J Jx : List (Int × Int) → World → Prop)
    (hY : ∀ pre x W, J pre W → pre.length < l.length → YieldAt F (n - 1) Try.prog lp #[.int .i64 x.1, .int .i64 x.2] W fun e W' =>
      (e = .returned (.bool true) ∧ J (pre ++ [x]) W' ∧ Below n₀ W W') ∨ (e = .returned (.bool false) ∧ Jx (pre ++ [x]) W'))
    (W : World) (hW : Below n₀ w3 W) (h0 : J [] W) :
    CallsIn F n Try.prog 67 #[.func (.yield lp) #[] #[], .pointer (some ⟨B, 0, none⟩)] W fun e W' => (∃ v, e = .returned v) ∧
      ((∃ ys, ys = back l l.length ∧ J ys W') ∨ (∃ pre, pre <+: back l l.length ∧ Jx pre W')) := by
  have c2 := (hS W hW).1.cell
  refine callsIn_of_wp Try.func67 rfl h20 ?_ hro
  simp only [Try.ntmps67, List.size_toArray, List.length_cons, List.length_nil, Nat.reduceAdd, Nat.reduceSub, Array.replicate_succ, Array.replicate_zero, List.push_toArray, List.append_toArray, List.nil_append, List.cons_append]
  gi_wp2
  clear c2
  gi_loopw [3] (fun i wr => ∃ (k : Nat) (pre : List (Int × Int)), k ≤ l.length ∧ i = .int .i64 ((k : Int) - 1) ∧ pre.length + k = l.length ∧ pre ++ back l k = back l l.length ∧ J pre wr ∧ Below n₀ w3 wr) (fun i _ => (intOf i + 1).toNat)
  case atStart => exact ⟨l.length, [], Nat.le_refl _, rfl, by simp, rfl, h0, hW⟩
  case round =>
    obtain ⟨k, pre, hk, rfl, hpl, hpd, hJ, hB⟩ := hrel
    have c2 := (hS wr hB).1.cell
    cases k with
    | zero =>
      gi_wp2
      rw [back, List.append_nil] at hpd
      go_end0
      exact ⟨⟨_, rfl⟩, .inl ⟨pre, hpd, hJ⟩⟩
    | succ k =>
      have hk1 : ((k + 1 : Nat) : Int) - 1 = (k : Int) := by omega
      rw [hk1]
      obtain ⟨ad, rfl, hc⟩ := Kd.at_int (hS wr hB).2 (k : Int) (by omega) (by omega)
      rw [Int.toNat_natCast] at hc
      obtain ⟨fn, tmps, assign, body, hy, hR⟩ := hY pre ((k : Int), rd l (k : Int)) wr hJ (by omega)
      simp only at hy hR
      rw [back] at hpd
      have h0k : (0 : Int) ≤ (k : Int) := by omega
      have hkl : (k : Int) < (l.length : Int) := by omega
      gi_wp2
      refine hR.mono ?_
      rintro e W3 (⟨rfl, hJ3, hk3⟩ | ⟨rfl, hJx3⟩)
      · gi_wp2
        go_roundw
        case rel => exact ⟨k, pre ++ [((k : Int), rd l (k : Int))], by omega, by first | rfl | go_num, by simp; omega, by rw [List.append_assoc]; exact hpd, hJ3, hB.trans hk3⟩
        case measure => simp [intOf]
      · gi_wp2
        refine bodyPost_ret (results_none rfl _ _ _) rfl ?_
        exact ⟨⟨_, rfl⟩, .inr ⟨pre ++ [((k : Int), rd l (k : Int))], ⟨back l k, by rw [List.append_assoc]; exact hpd⟩, hJx3⟩⟩
/-- what a range over the value of slices.Backward goes over -/
theorem back_stops (F : Fence) (n : Nat) (h20 : F.fn 67) (hro : F.round = none) (hn : 1 ≤ n) (B n₀ : Nat) (A : Option Addr) (c : Nat) (l : List Int) (hl : l.length < 9223372036854775807) (w3 : World) (hS : ∀ W', Below n₀ w3 W' → Boxed W' B 26 (.slice A l.length c) ∧ (Kd.int .i64).C W' A l.length l) (w : World) (hb : Below n₀ w3 w) (hn₀ : n₀ ≤ w.heap.size) :
    SeqStopsK F n Try.prog 67 #[.pointer (some ⟨B, 0, none⟩)] (fun x : Int × Int => #[Value.int .i64 x.1, Value.int .i64 x.2]) (Below n₀) (fun ys => ys = back l l.length) (fun pre => pre <+: back l l.length) l.length w := fun lp J Jx W hW _ _ hY h0 =>
  back1_in F n h20 hro hn lp B n₀ A c l hl w3 hS J Jx hY W (hb.trans (hW.mono hn₀)) h0
end Go.Proofs.Ytmeaepmimnmjlaa.PGb
/- Small lemmas for the walks over function values. -/
namespace Go.Proofs.Ytmeaepmimnmjlaa.Ask
open Go.Proofs.Ytmeaepmimnmjlaa.PGb Go.RowKit Go.Shelf Go.Proofs.Ytmeaepmimnmjlaa.Lit Go.Proofs.Ytmeaepmimnmjlaa.OwnCells Go.Proofs.YtmeaepmimnmjlaaW.PrintWords Go.Proofs.YtmeaepmimnmjlaaW.PrintLast Go.Proofs.YtmeaepmimnmjlaaW.PrintMore
attribute [local go_sem] Oper.semAt_some
theorem run_store_fn (P : Program) (w : World) (a : Addr) (m : Mode) (f : Fn) (x y : Array Value) : (store a (.func f x y) m).run P w = stored P w a (.func f x y) m := run_store P w a _ m rfl
attribute [local go_sem] run_store_fn
theorem run_equalIn_fn (n : Nat) (w : World) (f : Fn) (x y : Array Value) : (Op.equalIn (n + 1) 80 (.func f x y) .nilFunc).run Try.prog w = .ok false w := by
  simp [Op.equalIn, run_underlying Try.underlying80]
theorem run_eql_fn (w : World) (f : Fn) (x y : Array Value) : (binOp .eql 80 (.func f x y) .nilFunc).run Try.prog w = .ok (.bool false) w := by
  have h := run_equalIn_fn 9999 w f x y
  simp only [binOp]
  simp [Op.equal, Op.maxDepth, h]
attribute [local go_sem] run_eql_fn
set_option linter.unusedVariables false
set_option linter.unusedSimpArgs false
theorem seq_set {w : World} {base B1 B2 g : Nat} {P : Option Addr} {d : Nat} {l : List Int} {b : Int} (h : Seq w base B1 B2 P d l b) (hg : g < base) {k : Nat} (u : Value) : Seq (w.setCell ⟨g, k, none⟩ u) base B1 B2 P d l b :=
  ⟨blk_far h.b1 (by have := h.lo1; simp; omega) u, blk_far h.b2 (by have := h.lo2; simp; omega) u, Kd.C_keep 0 h.row ((KeepBut.refl w g none).set_ k u) (fun ad e _ => by have := h.lo ad e; omega), h.lo1, h.lo2, h.lo⟩
theorem row_slice {w : World} {base k : Nat} {e size : Nat} {v : Value} {xs : List Value} (h : w.ownsRow base e size v k xs) : ∃ A c, v = .slice A k c := by
  rcases h.2 with ⟨rfl, rfl, _⟩ | ⟨g, cap, cur, rfl, _⟩
  · exact ⟨_, _, rfl⟩
  · exact ⟨_, _, rfl⟩
theorem row_C {w : World} {base : Nat} {A : Option Addr} {c : Nat} {l : List Int} (h : w.ownsRow base 3 1 (.slice A l.length c) l.length (l.map (Value.int .i64))) : (Kd.int .i64).C w A l.length l ∧ l.length ≤ c := by
  have hR : (Kd.int .i64).R 3 w base (fun _ => True) (.slice A l.length c) l := Kd.R_of_own h (fun _ _ => trivial)
  obtain ⟨_, h1, h2⟩ := Kd.R_reads' hR
  exact ⟨h2, h1⟩
theorem quietD {l r n : Nat} {P : Program} {f : FuncId} {args : Array Value} {w : World} {v : Value} (h : Calls P f args (w.drewN n) fun e w' => e = .returned v ∧ Drawn0 (w.drewN n) w') : CallsIn (Fence.wide.inRound l) r P f args (w.drewN n) fun e w'' => e = .returned v ∧ ∃ m, w'' = w.drewN m :=
  CallsIn.quiet_of (CallsIn.inRound l (callsIn_wide.2 (h.mono fun e w' ⟨h1, h2⟩ => ⟨h1, h2.out⟩)))
theorem quietW {r n : Nat} {P : Program} {f : FuncId} {args : Array Value} {w : World} {v : Value} (h : Calls P f args (w.drewN n) fun e w' => e = .returned v ∧ Drawn0 (w.drewN n) w') : CallsIn Fence.wide r P f args (w.drewN n) fun e w'' => e = .returned v ∧ ∃ m, w'' = w.drewN m :=
  CallsIn.quiet_of (callsIn_wide.2 (h.mono fun e w' ⟨h1, h2⟩ => ⟨h1, h2.out⟩))
theorem from_drewN (B : Nat) (W : World) (k : Nat) : KeepsFrom B W (W.drewN k) := ⟨Nat.le_refl _, fun _ _ _ h _ => h⟩
theorem blk_in {n g : Nat} {W W' : World} {o : Obj} (hb : Below n W W') (h : W.heap[g]? = some o) (hg : g < n) : W'.heap[g]? = some o := (hb.block g hg).trans h
theorem from_below {B : Nat} {W W' : World} (hb : Below W.heap.size W W') : KeepsFrom B W W' := ⟨hb.size, fun k o _ hk _ => blk_in hb hk (blk_lt hk)⟩
theorem row_below {w w1 : World} {base : Nat} {v : Value} {l : List Int} (h : w.ownsRow base 3 1 v l.length (l.map (Value.int .i64))) (hb : Below w.heap.size w w1) : w1.ownsRow base 3 1 v l.length (l.map (Value.int .i64)) :=
  Kd.own_of_R (h1 := fun _ => rfl) (Kd.R_below (d := Kd.int .i64) (Kd.R_of_own h (ok := fun _ => True) (fun _ _ => trivial)) hb)
theorem results_cell1 {fn : Func} {p : Tmp} (h : fn.results = #[.cell p 4]) (tmps : Array Value) (w : World) (ad : Addr) (v : Bool) (hp : tmps.getD p undef = .pointer (some ad)) (hc : w.cell? ad = some (.bool v)) : (results fn tmps).run Try.prog w = .ok (.bool v) w := by
  have hp' : tmps[p]?.getD undef = .pointer (some ad) := gdq _ _ _ hp
  simp [results, h, hp', asAddr]
  go_simp
end Go.Proofs.Ytmeaepmimnmjlaa.Ask
/- Going through a graph depth first, step by step: what comes out, and in which order. No program in sight. -/
namespace Go.Proofs.Ytmeaepmimnmjlaa.Dfs
set_option linter.unusedVariables false
/-- what may come behind a block -/
def nb (nx : List (List Int)) (b : Int) : List Int := nx.getD b.toNat []
/-- every block is one -/
structure Wf (nx : List (List Int)) : Prop where
  pos : 0 < nx.length
  in_ : ∀ b c, c ∈ nb nx b → 0 ≤ c ∧ c < nx.length
/-- a way leads from a to b -/
inductive Reach (nx : List (List Int)) : Int → Int → Prop
  | refl (a : Int) : Reach nx a a
  | step {a b c : Int} : Reach nx a b → c ∈ nb nx b → Reach nx a c
theorem Reach.trans {nx : List (List Int)} {a b c : Int} (h : Reach nx a b) (k : Reach nx b c) : Reach nx a c := by
  induction k with
  | refl => exact h
  | step _ hm ih => exact .step ih hm
theorem Reach.bound {nx : List (List Int)} (hw : Wf nx) {a b : Int} (h : Reach nx a b) (ha : 0 ≤ a ∧ a < nx.length) : 0 ≤ b ∧ b < nx.length := by
  induction h with
  | refl => exact ha
  | step _ hm _ => exact hw.in_ _ _ hm
/-- the state: what is open (the top first, with how much of its list is done), what is marked, what is written -/
structure DS where
  st : List (Int × Nat)
  mks : List Bool
  out : List Int
def dstep (nx : List (List Int)) (s : DS) : DS :=
  match s.st with
  | [] => s
  | (b, d) :: r => match (nb nx b)[d]? with
    | none => { s with st := r, out := s.out ++ [b] }
    | some c => if s.mks.getD c.toNat false = true then { s with st := (b, d + 1) :: r } else { st := (c, 0) :: (b, d + 1) :: r, mks := s.mks.set c.toNat true, out := s.out }
def dinit (n : Nat) : DS := { st := [(0, 0)], mks := (List.replicate n false).set 0 true, out := [] }
/-- how much is to be done yet -/
def todo (nx : List (List Int)) (mk : List Bool) : Nat → Nat
  | 0 => 0
  | k + 1 => todo nx mk k + (if mk.getD k false = true then 0 else (nx.getD k []).length + 2)
def open_ (nx : List (List Int)) : List (Int × Nat) → Nat
  | [] => 0
  | (b, d) :: r => ((nb nx b).length - d + 1) + open_ nx r
def meas (nx : List (List Int)) (s : DS) : Nat := todo nx s.mks nx.length + open_ nx s.st
theorem todo_set_ge (nx : List (List Int)) (mk : List Bool) (c : Nat) : ∀ k, k ≤ c → todo nx (mk.set c true) k = todo nx mk k
  | 0, _ => rfl
  | k + 1, h => by
    unfold todo
    rw [todo_set_ge nx mk c k (by omega)]
    have : (mk.set c true).getD k false = mk.getD k false := by
      simp only [List.getD_eq_getElem?_getD, List.getElem?_set]
      rw [if_neg (by omega)]
    rw [this]
theorem todo_set (nx : List (List Int)) (mk : List Bool) (c : Nat) (hc : mk.getD c false = false) (hl : c < mk.length) : ∀ k, c < k → todo nx (mk.set c true) k + (nx.getD c []).length + 2 = todo nx mk k
  | 0, h => by omega
  | k + 1, h => by
    unfold todo
    by_cases hk : c = k
    · subst hk
      rw [todo_set_ge nx mk c c (Nat.le_refl _)]
      have h1 : (mk.set c true).getD c false = true := by
        simp [List.getD_eq_getElem?_getD, hl]
      rw [if_pos h1, if_neg (by rw [hc]; exact Bool.false_ne_true)]
      omega
    · have := todo_set nx mk c hc hl k (by omega)
      have h1 : (mk.set c true).getD k false = mk.getD k false := by
        simp only [List.getD_eq_getElem?_getD, List.getElem?_set]
        rw [if_neg (by omega)]
      rw [h1]
      omega
/-- the invariant -/
structure Inv (nx : List (List Int)) (s : DS) : Prop where
  len : s.mks.length = nx.length
  mem : ∀ b : Int, 0 ≤ b → (s.mks.getD b.toNat false = true ↔ b ∈ s.out ∨ ∃ d, (b, d) ∈ s.st)
  nodup : (s.out ++ s.st.map Prod.fst).Nodup
  bound : ∀ b, (b ∈ s.out ∨ ∃ d, (b, d) ∈ s.st) → 0 ≤ b ∧ b < nx.length
  chain : ∀ pre b d a e r, s.st = pre ++ (b, d) :: (a, e) :: r → b ∈ nb nx a
  last : ∀ pre b d, s.st = pre ++ [(b, d)] → b = 0
  zero : 0 ∈ s.out ∨ ∃ d, ((0 : Int), d) ∈ s.st
  reach : ∀ b, (b ∈ s.out ∨ ∃ d, (b, d) ∈ s.st) → Reach nx 0 b
  done : ∀ b d, (b, d) ∈ s.st → ∀ j c, j < d → (nb nx b)[j]? = some c → s.mks.getD c.toNat false = true
  edge : ∀ pre b post, s.out = pre ++ b :: post → ∀ c, c ∈ nb nx b → c ∈ pre ∨ (Reach nx c b ∧ s.mks.getD c.toNat false = true)
  par : ∀ pre b post, s.out = pre ++ b :: post → b ≠ 0 → ∃ a, b ∈ nb nx a ∧ (a ∈ post ∨ ∃ d, (a, d) ∈ s.st)
theorem inv_init (nx : List (List Int)) (hw : Wf nx) : Inv nx (dinit nx.length) := by
  have hp := hw.pos
  refine ⟨by simp [dinit], fun b hb => ?_, by simp [dinit], ?_, ?_, ?_, .inr ⟨0, by simp [dinit]⟩, ?_, ?_, ?_, ?_⟩
  · simp only [dinit, List.not_mem_nil, List.mem_singleton, Prod.mk.injEq, false_or]
    rw [List.getD_eq_getElem?_getD, List.getElem?_set]
    by_cases h : 0 = b.toNat
    · rw [if_pos h, if_pos (by simpa using hp)]
      simp; omega
    · rw [if_neg h, List.getElem?_replicate]
      constructor
      · intro hx; split at hx <;> simp at hx
      · rintro ⟨d, rfl, _⟩; exact absurd rfl h
  · rintro b (h | ⟨d, h⟩)
    · simp [dinit] at h
    · simp [dinit] at h; omega
  · intro pre b d a e r h
    have := congrArg List.length h
    simp [dinit] at this; omega
  · intro pre b d h
    cases pre with
    | nil => simp [dinit] at h; exact h.1.symm
    | cons x y => have := congrArg List.length h; simp [dinit] at this
  · rintro b (h | ⟨d, h⟩)
    · simp [dinit] at h
    · simp [dinit] at h; rw [h.1]; exact .refl _
  · intro b d h j c hj
    simp [dinit] at h; omega
  · intro pre b post h
    simp [dinit] at h
  · intro pre b post h
    simp [dinit] at h
/-- what lies below on the stack leads to what lies above -/
theorem stack_reach {nx : List (List Int)} {s : DS} (hi : Inv nx s) : ∀ (l : List (Int × Nat)) (pre : List (Int × Nat)) (b : Int) (d : Nat), s.st = pre ++ (b, d) :: l → ∀ a e, (a, e) ∈ l → Reach nx a b
  | [], _, _, _, _, _, _, h => by cases h
  | (x, f) :: l, pre, b, d, hs, a, e, h => by
    have hx : Reach nx x b := .step (.refl x) (hi.chain pre b d x f l hs)
    rcases List.mem_cons.1 h with h | h
    · cases h; exact hx
    · exact (stack_reach hi l (pre ++ [(b, d)]) x f (by simp [hs]) a e h).trans hx
theorem getD_set {l : List Bool} {c x : Nat} (hc : c < l.length) : (l.set c true).getD x false = if c = x then true else l.getD x false := by
  simp only [List.getD_eq_getElem?_getD, List.getElem?_set]
  by_cases h : c = x
  · rw [if_pos h, if_pos h]; rw [if_pos (by omega)]; rfl
  · rw [if_neg h, if_neg h]
theorem snoc_split {α : Type} {l pre post : List α} {b x : α} (h : l ++ [b] = pre ++ x :: post) : (post = [] ∧ pre = l ∧ x = b) ∨ ∃ post', post = post' ++ [b] ∧ l = pre ++ x :: post' := by
  rcases List.eq_nil_or_concat post with rfl | ⟨p', y, rfl⟩
  · left
    have := List.append_inj' h rfl
    exact ⟨rfl, this.1.symm, by have := this.2; simp at this; exact this.symm⟩
  · right
    rw [List.concat_eq_append] at h ⊢
    have h' : l ++ [b] = (pre ++ x :: p') ++ [y] := by rw [h]; simp
    have := List.append_inj' h' rfl
    have hy : b = y := by have := this.2; simpa using this
    exact ⟨p', by rw [hy], this.1⟩
theorem dstep_nil {nx : List (List Int)} {s : DS} (h : s.st = []) : dstep nx s = s := by unfold dstep; rw [h]
theorem dstep_none {nx : List (List Int)} {s : DS} {b : Int} {d : Nat} {r : List (Int × Nat)} (h : s.st = (b, d) :: r) (hg : (nb nx b)[d]? = none) : dstep nx s = { st := r, mks := s.mks, out := s.out ++ [b] } := by unfold dstep; rw [h]; simp only [hg]
theorem dstep_seen {nx : List (List Int)} {s : DS} {b c : Int} {d : Nat} {r : List (Int × Nat)} (h : s.st = (b, d) :: r) (hg : (nb nx b)[d]? = some c) (hm : s.mks.getD c.toNat false = true) : dstep nx s = { st := (b, d + 1) :: r, mks := s.mks, out := s.out } := by unfold dstep; rw [h]; simp only [hg]; rw [if_pos hm]
theorem dstep_new {nx : List (List Int)} {s : DS} {b c : Int} {d : Nat} {r : List (Int × Nat)} (h : s.st = (b, d) :: r) (hg : (nb nx b)[d]? = some c) (hm : ¬ s.mks.getD c.toNat false = true) : dstep nx s = { st := (c, 0) :: (b, d + 1) :: r, mks := s.mks.set c.toNat true, out := s.out } := by unfold dstep; rw [h]; simp only [hg]; rw [if_neg hm]
theorem inv_step (nx : List (List Int)) (hw : Wf nx) (s : DS) (hi : Inv nx s) : Inv nx (dstep nx s) := by
  cases hst : s.st with
  | nil => rw [dstep_nil hst]; exact hi
  | cons t r =>
    obtain ⟨b, d⟩ := t
    have hbs : (b, d) ∈ s.st := by rw [hst]; exact List.mem_cons_self
    have hbb := hi.bound b (.inr ⟨d, hbs⟩)
    cases hg : (nb nx b)[d]? with
    | none =>
      rw [dstep_none hst hg]
      have hdl : (nb nx b).length ≤ d := List.getElem?_eq_none_iff.1 hg
      have hm : ∀ x : Int, (x ∈ s.out ++ [b] ∨ ∃ e, (x, e) ∈ r) ↔ (x ∈ s.out ∨ ∃ e, (x, e) ∈ s.st) := by
        intro x
        rw [hst]
        constructor
        · rintro (h | ⟨e, h⟩)
          · rcases List.mem_append.1 h with h | h
            · exact .inl h
            · rw [List.mem_singleton.1 h]; exact .inr ⟨d, List.mem_cons_self⟩
          · exact .inr ⟨e, List.mem_cons_of_mem _ h⟩
        · rintro (h | ⟨e, h⟩)
          · exact .inl (List.mem_append_left _ h)
          · rcases List.mem_cons.1 h with h | h
            · cases h; exact .inl (by simp)
            · exact .inr ⟨e, h⟩
      refine ⟨hi.len, fun x hx => (hi.mem x hx).trans (hm x).symm, ?_, fun x hx => hi.bound x ((hm x).1 hx), ?_, ?_, (hm 0).2 hi.zero, fun x hx => hi.reach x ((hm x).1 hx), ?_, ?_, ?_⟩
      · have := hi.nodup
        rw [hst] at this
        simpa [List.append_assoc] using this
      · intro pre x e a f rr h
        exact hi.chain ((b, d) :: pre) x e a f rr (by rw [hst]; simp at h; rw [h]; simp)
      · intro pre x e h
        exact hi.last ((b, d) :: pre) x e (by rw [hst]; simp at h; rw [h]; simp)
      · intro x e h j c hj hc
        exact hi.done x e (by rw [hst]; exact List.mem_cons_of_mem _ h) j c hj hc
      · intro pre x post h c hc
        rcases snoc_split h with ⟨rfl, rfl, rfl⟩ | ⟨post', rfl, h'⟩
        · obtain ⟨j, hj⟩ := List.getElem?_of_mem hc
          have hjl : j < (nb nx x).length := (List.getElem?_eq_some_iff.1 hj).1
          have hmk := hi.done x d hbs j c (by omega) hj
          rcases (hi.mem c (hw.in_ _ _ hc).1).1 hmk with h1 | ⟨e, h1⟩
          · exact .inl h1
          · refine .inr ⟨?_, hmk⟩
            rw [hst] at h1
            rcases List.mem_cons.1 h1 with h2 | h2
            · cases h2; exact .refl _
            · exact stack_reach hi r [] x d (by rw [hst]; rfl) c e h2
        · exact hi.edge pre x post' h' c hc
      · intro pre x post h hx
        rcases snoc_split h with ⟨rfl, rfl, rfl⟩ | ⟨post', rfl, h'⟩
        · cases r with
          | nil => exact absurd (hi.last [] x d (by rw [hst]; rfl)) hx
          | cons y r' =>
            obtain ⟨a, e⟩ := y
            exact ⟨a, hi.chain [] x d a e r' (by rw [hst]; rfl), .inr ⟨e, List.mem_cons_self⟩⟩
        · obtain ⟨a, ha, h1 | ⟨e, h1⟩⟩ := hi.par pre x post' h' hx
          · exact ⟨a, ha, .inl (List.mem_append_left _ h1)⟩
          · rw [hst] at h1
            rcases List.mem_cons.1 h1 with h2 | h2
            · cases h2; exact ⟨b, ha, .inl (by simp)⟩
            · exact ⟨a, ha, .inr ⟨e, h2⟩⟩
    | some c =>
      have hcb : c ∈ nb nx b := List.mem_of_getElem? hg
      have hc0 := hw.in_ _ _ hcb
      by_cases hmk : s.mks.getD c.toNat false = true
      · rw [dstep_seen hst hg hmk]
        have hm : ∀ x : Int, (x ∈ s.out ∨ ∃ e, (x, e) ∈ (b, d + 1) :: r) ↔ (x ∈ s.out ∨ ∃ e, (x, e) ∈ s.st) := by
          intro x
          rw [hst]
          constructor
          · rintro (h | ⟨e, h⟩)
            · exact .inl h
            · rcases List.mem_cons.1 h with h | h
              · cases h; exact .inr ⟨d, List.mem_cons_self⟩
              · exact .inr ⟨e, List.mem_cons_of_mem _ h⟩
          · rintro (h | ⟨e, h⟩)
            · exact .inl h
            · rcases List.mem_cons.1 h with h | h
              · cases h; exact .inr ⟨d + 1, List.mem_cons_self⟩
              · exact .inr ⟨e, List.mem_cons_of_mem _ h⟩
        refine ⟨hi.len, fun x hx => (hi.mem x hx).trans (hm x).symm, ?_, fun x hx => hi.bound x ((hm x).1 hx), ?_, ?_, (hm 0).2 hi.zero, fun x hx => hi.reach x ((hm x).1 hx), ?_, hi.edge, ?_⟩
        · have := hi.nodup
          rw [hst] at this
          simpa using this
        · intro pre x e a f rr h
          cases pre with
          | nil =>
            simp at h
            obtain ⟨⟨rfl, rfl⟩, h⟩ := h
            exact hi.chain [] b d a f rr (by rw [hst, h]; rfl)
          | cons y pre' =>
            simp at h
            exact hi.chain ((b, d) :: pre') x e a f rr (by rw [hst, h.2]; rfl)
        · intro pre x e h
          cases pre with
          | nil =>
            simp at h
            obtain ⟨⟨rfl, rfl⟩, h⟩ := h
            exact hi.last [] b d (by rw [hst, h]; rfl)
          | cons y pre' =>
            simp at h
            exact hi.last ((b, d) :: pre') x e (by rw [hst, h.2]; rfl)
        · intro x e h j c' hj hc
          rcases List.mem_cons.1 h with h | h
          · cases h
            by_cases hjd : j = d
            · subst hjd
              rw [hg] at hc; cases hc; exact hmk
            · exact hi.done b d hbs j c' (by omega) hc
          · exact hi.done x e (by rw [hst]; exact List.mem_cons_of_mem _ h) j c' hj hc
        · intro pre x post h hx
          obtain ⟨a, ha, h1 | ⟨e, h1⟩⟩ := hi.par pre x post h hx
          · exact ⟨a, ha, .inl h1⟩
          · rw [hst] at h1
            rcases List.mem_cons.1 h1 with h2 | h2
            · cases h2; exact ⟨b, ha, .inr ⟨d + 1, List.mem_cons_self⟩⟩
            · exact ⟨a, ha, .inr ⟨e, List.mem_cons_of_mem _ h2⟩⟩
      · rw [dstep_new hst hg hmk]
        have hcl : c.toNat < s.mks.length := by rw [hi.len]; omega
        have hcn : ¬ (c ∈ s.out ∨ ∃ e, (c, e) ∈ s.st) := fun h => hmk ((hi.mem c hc0.1).2 h)
        have hm : ∀ x : Int, (x ∈ s.out ∨ ∃ e, (x, e) ∈ (c, 0) :: (b, d + 1) :: r) ↔ (x = c ∨ (x ∈ s.out ∨ ∃ e, (x, e) ∈ s.st)) := by
          intro x
          rw [hst]
          constructor
          · rintro (h | ⟨e, h⟩)
            · exact .inr (.inl h)
            · rcases List.mem_cons.1 h with h | h
              · cases h; exact .inl rfl
              · rcases List.mem_cons.1 h with h | h
                · cases h; exact .inr (.inr ⟨d, List.mem_cons_self⟩)
                · exact .inr (.inr ⟨e, List.mem_cons_of_mem _ h⟩)
          · rintro (rfl | h | ⟨e, h⟩)
            · exact .inr ⟨0, List.mem_cons_self⟩
            · exact .inl h
            · rcases List.mem_cons.1 h with h | h
              · cases h; exact .inr ⟨d + 1, by simp⟩
              · exact .inr ⟨e, by simp [h]⟩
        have hmono : ∀ x, s.mks.getD x false = true → (s.mks.set c.toNat true).getD x false = true := by
          intro x h
          rw [getD_set hcl]; split
          · rfl
          · exact h
        refine ⟨by rw [List.length_set]; exact hi.len, fun x hx => ?_, ?_, fun x hx => ?_, ?_, ?_, (hm 0).2 (.inr hi.zero), fun x hx => ?_, ?_, ?_, ?_⟩
        · rw [hm, getD_set hcl]
          by_cases hxc : c.toNat = x.toNat
          · rw [if_pos hxc]
            exact ⟨fun _ => .inl (by omega), fun _ => rfl⟩
          · rw [if_neg hxc, hi.mem x hx]
            exact ⟨.inr, fun h => h.resolve_left (fun e => hxc (by rw [e]))⟩
        · have h0 := hi.nodup
          rw [hst] at h0
          have h1 : c ∉ s.out := fun h => hcn (.inl h)
          have h2 : c ∉ ((b, d) :: r).map Prod.fst := fun h => by
            obtain ⟨⟨y, e⟩, hy, he⟩ := List.mem_map.1 h
            exact hcn (.inr ⟨e, by rw [hst]; cases he; exact hy⟩)
          simp only [List.map_cons] at h0 h2 ⊢
          rw [List.nodup_append] at h0 ⊢
          refine ⟨h0.1, List.nodup_cons.2 ⟨h2, h0.2.1⟩, fun x hx y hy hxy => ?_⟩
          rcases List.mem_cons.1 hy with rfl | hy
          · exact h1 (hxy ▸ hx)
          · exact h0.2.2 x hx y hy hxy
        · rcases (hm x).1 hx with rfl | h
          · exact hc0
          · exact hi.bound x h
        · intro pre x e a f rr h
          cases pre with
          | nil =>
            simp at h
            obtain ⟨⟨rfl, _⟩, ⟨rfl, _⟩, _⟩ := h
            exact hcb
          | cons y pre' =>
            cases pre' with
            | nil =>
              simp at h
              obtain ⟨_, ⟨rfl, rfl⟩, h⟩ := h
              exact hi.chain [] b d a f rr (by rw [hst, h]; rfl)
            | cons z pre2 =>
              simp at h
              exact hi.chain ((b, d) :: pre2) x e a f rr (by rw [hst, h.2.2]; rfl)
        · intro pre x e h
          cases pre with
          | nil => simp at h
          | cons y pre' =>
            cases pre' with
            | nil =>
              simp at h
              obtain ⟨_, ⟨rfl, rfl⟩, h⟩ := h
              exact hi.last [] b d (by rw [hst, h]; rfl)
            | cons z pre2 =>
              simp at h
              exact hi.last ((b, d) :: pre2) x e (by rw [hst, h.2.2]; rfl)
        · rcases (hm x).1 hx with rfl | h
          · exact .step (hi.reach b (.inr ⟨d, hbs⟩)) hcb
          · exact hi.reach x h
        · intro x e h j c' hj hc
          rcases List.mem_cons.1 h with h | h
          · cases h; omega
          · rcases List.mem_cons.1 h with h | h
            · cases h
              by_cases hjd : j = d
              · subst hjd
                rw [hg] at hc; cases hc
                rw [getD_set hcl, if_pos rfl]
              · exact hmono _ (hi.done b d hbs j c' (by omega) hc)
            · exact hmono _ (hi.done x e (by rw [hst]; exact List.mem_cons_of_mem _ h) j c' hj hc)
        · intro pre x post h c' hc'
          rcases hi.edge pre x post h c' hc' with h1 | ⟨h1, h2⟩
          · exact .inl h1
          · exact .inr ⟨h1, hmono _ h2⟩
        · intro pre x post h hx
          obtain ⟨a, ha, h1 | ⟨e, h1⟩⟩ := hi.par pre x post h hx
          · exact ⟨a, ha, .inl h1⟩
          · rw [hst] at h1
            rcases List.mem_cons.1 h1 with h2 | h2
            · cases h2; exact ⟨b, ha, .inr ⟨d + 1, by simp⟩⟩
            · exact ⟨a, ha, .inr ⟨e, by simp [h2]⟩⟩
/-- each step leaves less to be done -/
theorem meas_step (nx : List (List Int)) (hw : Wf nx) (s : DS) (hi : Inv nx s) (hne : s.st ≠ []) : meas nx (dstep nx s) < meas nx s := by
  cases hst : s.st with
  | nil => exact absurd hst hne
  | cons t r =>
    obtain ⟨b, d⟩ := t
    cases hg : (nb nx b)[d]? with
    | none => rw [dstep_none hst hg]; unfold meas; rw [hst]; simp only [open_]; omega
    | some c =>
      have hdl : d < (nb nx b).length := (List.getElem?_eq_some_iff.1 hg).1
      have hc0 := hw.in_ _ _ (List.mem_of_getElem? hg)
      by_cases hmk : s.mks.getD c.toNat false = true
      · rw [dstep_seen hst hg hmk]; unfold meas; rw [hst]; simp only [open_]; omega
      · rw [dstep_new hst hg hmk]; unfold meas; rw [hst]; simp only [open_]
        have hcl : c.toNat < s.mks.length := by rw [hi.len]; omega
        have := todo_set nx s.mks c.toNat (by simpa using hmk) hcl nx.length (by omega)
        have he : (nb nx c).length = (nx.getD c.toNat []).length := rfl
        omega
/-- k steps -/
def steps (nx : List (List Int)) : Nat → DS → DS
  | 0, s => s
  | k + 1, s => steps nx k (dstep nx s)
theorem steps_inv (nx : List (List Int)) (hw : Wf nx) : ∀ (k : Nat) (s : DS), Inv nx s → Inv nx (steps nx k s)
  | 0, _, h => h
  | k + 1, s, h => steps_inv nx hw k _ (inv_step nx hw s h)
theorem steps_nil (nx : List (List Int)) : ∀ (k : Nat) (s : DS), s.st = [] → steps nx k s = s
  | 0, _, _ => rfl
  | k + 1, s, h => by
    unfold steps
    rw [dstep_nil h]
    exact steps_nil nx k s h
theorem steps_end (nx : List (List Int)) (hw : Wf nx) : ∀ (k : Nat) (s : DS), Inv nx s → meas nx s ≤ k → (steps nx k s).st = []
  | 0, s, hi, h => by
    cases hst : s.st with
    | nil => exact hst
    | cons t r =>
      obtain ⟨b, d⟩ := t
      have : 0 < meas nx s := by unfold meas; rw [hst]; simp only [open_]; omega
      omega
  | k + 1, s, hi, h => by
    cases hst : s.st with
    | nil => rw [steps_nil nx (k + 1) s hst]; exact hst
    | cons t r =>
      have := meas_step nx hw s hi (by rw [hst]; simp)
      exact steps_end nx hw k _ (inv_step nx hw s hi) (by omega)
/-- the blocks that are reached, each behind what was first gone into from it -/
def post (nx : List (List Int)) : List Int := (steps nx (meas nx (dinit nx.length)) (dinit nx.length)).out
theorem steps_add (nx : List (List Int)) : ∀ (a b : Nat) (s : DS), steps nx (a + b) s = steps nx b (steps nx a s)
  | 0, b, s => by rw [Nat.zero_add]; rfl
  | a + 1, b, s => by
    rw [Nat.add_right_comm]
    exact steps_add nx a b (dstep nx s)
theorem steps_stable (nx : List (List Int)) (hw : Wf nx) {s : DS} (hi : Inv nx s) {k k' : Nat} (h : meas nx s ≤ k) (h' : k ≤ k') : steps nx k' s = steps nx k s := by
  obtain ⟨j, rfl⟩ : ∃ j, k' = k + j := ⟨k' - k, by omega⟩
  rw [steps_add, steps_nil nx j _ (steps_end nx hw k s hi h)]
/-- it leads to the answer -/
structure Tgt (nx : List (List Int)) (s : DS) : Prop where
  out : ∀ k, meas nx s ≤ k → (steps nx k s).out = post nx
theorem tgt_init (nx : List (List Int)) (hw : Wf nx) : Tgt nx (dinit nx.length) := ⟨fun k hk => by
  rw [steps_stable nx hw (inv_init nx hw) (Nat.le_refl _) hk]; rfl⟩
theorem tgt_step (nx : List (List Int)) (hw : Wf nx) {s : DS} (hi : Inv nx s) (h : Tgt nx s) : Tgt nx (dstep nx s) := ⟨fun k hk => by
  have hi' := inv_step nx hw s hi
  rw [← steps_stable nx hw hi' hk (Nat.le_max_left k (meas nx s))]
  have := h.out (max k (meas nx s) + 1) (by have := Nat.le_max_right k (meas nx s); omega)
  exact this⟩
theorem tgt_end (nx : List (List Int)) {s : DS} (h : Tgt nx s) (hs : s.st = []) : s.out = post nx := by
  have := h.out (meas nx s) (Nat.le_refl _)
  rw [steps_nil nx _ s hs] at this
  exact this
theorem nodup_le : ∀ (n : Nat) (l : List Int), l.Nodup → (∀ x ∈ l, 0 ≤ x ∧ x < n) → l.length ≤ n
  | 0, l, _, h => by
    cases l with
    | nil => exact Nat.le_refl _
    | cons x r => have := h x List.mem_cons_self; omega
  | n + 1, l, hn, h => by
    by_cases hm : (n : Int) ∈ l
    · have h1 := nodup_le n (l.erase (n : Int)) (hn.erase _) (fun x hx => by
        have h2 := (hn.mem_erase_iff).1 hx
        have := h x h2.2
        have := h2.1
        omega)
      rw [List.length_erase_of_mem hm] at h1
      omega
    · have := nodup_le n l hn (fun x hx => by
        have h1 := h x hx
        have : x ≠ (n : Int) := fun e => hm (e ▸ hx)
        omega)
      omega
theorem inv_len {nx : List (List Int)} {s : DS} (hi : Inv nx s) : s.out.length + s.st.length ≤ nx.length := by
  have := nodup_le nx.length _ hi.nodup (fun x hx => by
    rcases List.mem_append.1 hx with h | h
    · exact hi.bound x (.inl h)
    · obtain ⟨⟨y, e⟩, h1, rfl⟩ := List.mem_map.1 h
      exact hi.bound y (.inr ⟨e, h1⟩))
  simpa using this
/-! ### what comes out -/
theorem post_state (nx : List (List Int)) (hw : Wf nx) : ∃ s, Inv nx s ∧ s.st = [] ∧ s.out = post nx :=
  ⟨_, steps_inv nx hw (meas nx (dinit nx.length)) _ (inv_init nx hw), steps_end nx hw _ _ (inv_init nx hw) (Nat.le_refl _), rfl⟩
theorem post_nodup (nx : List (List Int)) (hw : Wf nx) : (post nx).Nodup := by
  obtain ⟨s, hi, hs, ho⟩ := post_state nx hw
  have := hi.nodup
  rw [hs] at this
  rw [← ho]; simpa using this
theorem post_edge (nx : List (List Int)) (hw : Wf nx) {pre r : List Int} {b c : Int} (h : post nx = pre ++ b :: r) (hc : c ∈ nb nx b) : (c ∈ pre ∨ Reach nx c b) ∧ c ∈ post nx := by
  obtain ⟨s, hi, hs, ho⟩ := post_state nx hw
  rw [← ho] at h ⊢
  rcases hi.edge pre b r h c hc with h1 | ⟨h1, h2⟩
  · exact ⟨.inl h1, by rw [h]; exact List.mem_append_left _ h1⟩
  · refine ⟨.inr h1, ?_⟩
    rcases (hi.mem c (hw.in_ _ _ hc).1).1 h2 with h3 | ⟨d, h3⟩
    · exact h3
    · rw [hs] at h3; cases h3
theorem post_zero (nx : List (List Int)) (hw : Wf nx) : (0 : Int) ∈ post nx := by
  obtain ⟨s, hi, hs, ho⟩ := post_state nx hw
  rcases hi.zero with h | ⟨d, h⟩
  · rw [← ho]; exact h
  · rw [hs] at h; cases h
theorem post_mem (nx : List (List Int)) (hw : Wf nx) (b : Int) : b ∈ post nx ↔ Reach nx 0 b := by
  constructor
  · intro h
    obtain ⟨s, hi, hs, ho⟩ := post_state nx hw
    exact hi.reach b (.inl (ho ▸ h))
  · intro h
    induction h with
    | refl => exact post_zero nx hw
    | step _ hm ih =>
      obtain ⟨pre, r, he⟩ := List.append_of_mem ih
      exact (post_edge nx hw he hm).2
theorem post_par (nx : List (List Int)) (hw : Wf nx) {pre r : List Int} {b : Int} (h : post nx = pre ++ b :: r) (hb : b ≠ 0) : ∃ a, b ∈ nb nx a ∧ a ∈ r := by
  obtain ⟨s, hi, hs, ho⟩ := post_state nx hw
  rw [← ho] at h
  obtain ⟨a, ha, h1 | ⟨d, h1⟩⟩ := hi.par pre b r h hb
  · exact ⟨a, ha, h1⟩
  · rw [hs] at h1; cases h1
theorem post_last (nx : List (List Int)) (hw : Wf nx) : ∃ l, post nx = l ++ [0] := by
  have h0 := post_zero nx hw
  rcases List.eq_nil_or_concat (post nx) with h | ⟨l, y, h⟩
  · rw [h] at h0; cases h0
  · rw [List.concat_eq_append] at h
    by_cases hy : y = 0
    · exact ⟨l, by rw [h, hy]⟩
    · obtain ⟨a, _, ha⟩ := post_par nx hw (pre := l) (r := []) h hy
      cases ha
theorem post_bound (nx : List (List Int)) (hw : Wf nx) {b : Int} (h : b ∈ post nx) : 0 ≤ b ∧ b < nx.length :=
  ((post_mem nx hw b).1 h).bound hw ⟨Int.le_refl _, by have := hw.pos; omega⟩
theorem post_length (nx : List (List Int)) (hw : Wf nx) : (post nx).length ≤ nx.length := nodup_le _ _ (post_nodup nx hw) (fun x hx => post_bound nx hw hx)
end Go.Proofs.Ytmeaepmimnmjlaa.Dfs
/- What dominates what, by going through the blocks again and again until nothing changes: that it ends, and what it ends with. No program in sight. -/
namespace Go.Proofs.Ytmeaepmimnmjlaa.DomT
set_option linter.unusedVariables false
/-- the way up: u b is the block above b (below 0: none) -/
inductive Anc (u : Int → Int) : Int → Int → Prop
  | refl (x : Int) : Anc u x x
  | step {x y : Int} : 0 ≤ u x → Anc u (u x) y → Anc u x y
theorem Anc.trans {u : Int → Int} {x y z : Int} (h : Anc u x y) (k : Anc u y z) : Anc u x z := by
  induction h with
  | refl => exact k
  | step h0 _ ih => exact .step h0 (ih k)
/-- two on the way up from one: one is on the way up from the other -/
theorem Anc.two {u : Int → Int} {x y z : Int} (h : Anc u x y) (k : Anc u x z) : Anc u y z ∨ Anc u z y := by
  induction h with
  | refl => exact .inl k
  | step h0 h1 ih =>
    cases k with
    | refl => exact .inr (.step h0 h1)
    | step _ k1 => exact ih k1
def Proc (u : Int → Int) (b : Int) : Prop := b = 0 ∨ 0 ≤ u b
/-- reached from block 0 without going through d -/
inductive AR (E : Int → Int → Prop) (d : Int) : Int → Prop
  | zero : d ≠ 0 → AR E d 0
  | step {a b : Int} : AR E d a → E a b → b ≠ d → AR E d b
/-- the edges that lead on in the order -/
inductive FP (E : Int → Int → Prop) (pos : Int → Nat) : Int → Int → Prop
  | refl (a : Int) : FP E pos a a
  | step {a b c : Int} : FP E pos a b → E b c → pos b < pos c → FP E pos a c
theorem FP.trans {E : Int → Int → Prop} {pos : Int → Nat} {a b c : Int} (h : FP E pos a b) (k : FP E pos b c) : FP E pos a c := by
  induction k with
  | refl => exact h
  | step _ h1 h2 ih => exact .step ih h1 h2
theorem FP.le {E : Int → Int → Prop} {pos : Int → Nat} {a b : Int} (h : FP E pos a b) : pos a ≤ pos b := by
  induction h with
  | refl => exact Nat.le_refl _
  | step _ _ h2 ih => omega
/-- what is known of the graph -/
structure Gr (S : Int → Prop) (pos : Int → Nat) (E : Int → Int → Prop) : Prop where
  zero : S 0
  pos0 : pos 0 = 0
  inj : ∀ a b, S a → S b → pos a = pos b → a = b
  src : ∀ a b, E a b → S b → S a
  nonneg : ∀ b, S b → 0 ≤ b
  par : ∀ b, S b → b ≠ 0 → ∃ a, E a b ∧ pos a < pos b
/-- what is known on the way, where the blocks ahead of place i have been looked at in this round -/
structure InP (S : Int → Prop) (pos : Int → Nat) (E : Int → Int → Prop) (i : Nat) (u : Int → Int) : Prop where
  z : u 0 < 0
  a : ∀ b, S b → b ≠ 0 → 0 ≤ u b → S (u b) ∧ pos (u b) < pos b ∧ Proc u (u b)
  pr : ∀ b, S b → pos b < i → Proc u b
  m : ∀ b, S b → b ≠ 0 → 0 ≤ u b → ∀ y, (∀ a, E a b → Proc u a → Anc u a y) → pos y ≤ pos (u b)
  fp : ∀ b, S b → b ≠ 0 → 0 ≤ u b → ∃ a, FP E pos (u b) a ∧ E a b ∧ pos a < pos b
  k : ∀ c, S c → c ≠ 0 → pos c < i → ∀ a, E a c → pos a < pos c → Anc u a (u c)
  l : ∀ x, S x → Proc u x → ∀ d, ¬ AR E d x → Anc u x d
variable {S : Int → Prop} {pos : Int → Nat} {E : Int → Int → Prop} {i : Nat} {u : Int → Int}
theorem InP.up (h : InP S pos E i u) {x y : Int} (hxy : Anc u x y) : S x → Proc u x → S y ∧ Proc u y ∧ pos y ≤ pos x ∧ (pos y = pos x → y = x) := by
  induction hxy with
  | refl x => exact fun hs hp => ⟨hs, hp, Nat.le_refl _, fun _ => rfl⟩
  | step h0 h1 ih =>
    rename_i x y
    intro hs hp
    have hx0 : x ≠ 0 := fun e => by rw [e] at h0; have := h.z; omega
    obtain ⟨a1, a2, a3⟩ := h.a x hs hx0 h0
    obtain ⟨b1, b2, b3, _⟩ := ih a1 a3
    exact ⟨b1, b2, by omega, fun e => by omega⟩
theorem InP.zero_up (g : Gr S pos E) (h : InP S pos E i u) : ∀ (n : Nat) (x : Int), pos x ≤ n → S x → Proc u x → Anc u x 0
  | n, x, hn, hs, hp => by
    by_cases hx : x = 0
    · rw [hx]; exact .refl _
    · have h0 : 0 ≤ u x := hp.resolve_left hx
      obtain ⟨a1, a2, a3⟩ := h.a x hs hx h0
      cases n with
      | zero => omega
      | succ n => exact .step h0 (InP.zero_up g h n (u x) (by omega) a1 a3)
theorem InP.pos_up (h : InP S pos E i u) {x y z : Int} (hs : S x) (hp : Proc u x) (hy : Anc u x y) (hz : Anc u x z) (hle : pos z ≤ pos y) : Anc u y z := by
  rcases hy.two hz with h1 | h1
  · exact h1
  · obtain ⟨sz, pz, _, _⟩ := h.up hz hs hp
    obtain ⟨_, _, l, e⟩ := h.up h1 sz pz
    have := e (by omega)
    rw [this]; exact .refl _
theorem InP.fpath (h : InP S pos E i u) {x y : Int} (hxy : Anc u x y) : S x → Proc u x → FP E pos y x := by
  induction hxy with
  | refl x => exact fun _ _ => .refl _
  | step h0 h1 ih =>
    rename_i x y
    intro hs hp
    have hx0 : x ≠ 0 := fun e => by rw [e] at h0; have := h.z; omega
    obtain ⟨a1, a2, a3⟩ := h.a x hs hx0 h0
    obtain ⟨a, f1, f2, f3⟩ := h.fp x hs hx0 h0
    exact ((ih a1 a3).trans f1).step f2 f3
/-- along edges that lead on: what lies above lies beyond o, or above o -/
theorem InP.along (g : Gr S pos E) (h : InP S pos E i u) {o z : Int} (hf : FP E pos o z) : S z → pos z < i → ∀ y, Anc u z y → pos o < pos y ∨ Anc u o y := by
  induction hf with
  | refl => exact fun _ _ y hy => .inr hy
  | step hf h1 h2 ih =>
    rename_i a z
    intro hs hi y hy
    have hz0 : z ≠ 0 := fun e => by rw [e, g.pos0] at h2; omega
    cases hy with
    | refl => exact .inl (by have := hf.le; omega)
    | step h0 hy' =>
      exact ih (g.src _ _ h1 hs) (by omega) y ((h.k z hs hz0 hi a h1 h2).trans hy')
/-- where the ways up from all that are looked at meet -/
def IsMeet (u : Int → Int) (P : Int → Prop) (m : Int) : Prop := (∀ a, P a → Anc u a m) ∧ ∀ y, (∀ a, P a → Anc u a y) → Anc u m y
def upd (u : Int → Int) (c m : Int) : Int → Int := fun x => if x = c then m else u x
theorem upd_same (u : Int → Int) (c m : Int) : upd u c m c = m := if_pos rfl
theorem upd_ne (u : Int → Int) {c x : Int} (m : Int) (h : x ≠ c) : upd u c m x = u x := if_neg h
section step
variable {c m : Int}
/-- an earlier answer lies below the new one -/
theorem InP.mono (g : Gr S pos E) (h : InP S pos E i u) (hc : S c) (hc0 : c ≠ 0) (hi : pos c = i) (hm : IsMeet u (fun a => E a c ∧ Proc u a) m) (ho : 0 ≤ u c) : Anc u (u c) m := by
  obtain ⟨a, f1, f2, f3⟩ := h.fp c hc hc0 ho
  have sa := g.src _ _ f2 hc
  have pa := h.pr a sa (by omega)
  rcases h.along g f1 sa (by omega) m (hm.1 a ⟨f2, pa⟩) with h1 | h1
  · have := h.m c hc hc0 ho m (fun a' e p => hm.1 a' ⟨e, p⟩)
    omega
  · exact h1
theorem InP.shrink (h : InP S pos E i u) (hc0 : c ≠ 0) (hmo : 0 ≤ u c → Anc u (u c) m) {x y : Int} (hxy : Anc (upd u c m) x y) : S x → Proc u x → (S m ∧ Proc u m) → Anc u x y := by
  induction hxy with
  | refl x => exact fun _ _ _ => .refl _
  | step h0 h1 ih =>
    rename_i x y
    intro hs hp hsm
    by_cases hxc : x = c
    · subst hxc
      have ho : 0 ≤ u x := hp.resolve_left hc0
      rw [upd_same] at ih
      exact .step ho ((hmo ho).trans (ih hsm.1 hsm.2 hsm))
    · rw [upd_ne u m hxc] at h0 ih
      have hx0 : x ≠ 0 := fun e => by rw [e] at h0; have := h.z; omega
      obtain ⟨a1, a2, a3⟩ := h.a x hs hx0 h0
      exact .step h0 (ih a1 a3 hsm)
theorem InP.keep (h : InP S pos E i u) {x y : Int} (hxy : Anc u x y) : S x → Proc u x → pos x < pos c → Anc (upd u c m) x y := by
  induction hxy with
  | refl x => exact fun _ _ _ => .refl _
  | step h0 h1 ih =>
    rename_i x y
    intro hs hp hlt
    have hxc : x ≠ c := fun e => by rw [e] at hlt; omega
    have hx0 : x ≠ 0 := fun e => by rw [e] at h0; have := h.z; omega
    obtain ⟨a1, a2, a3⟩ := h.a x hs hx0 h0
    refine .step (by rw [upd_ne u m hxc]; exact h0) ?_
    rw [upd_ne u m hxc]
    exact ih a1 a3 (by omega)
theorem Anc.split {x y : Int} (hxy : Anc u x y) : Anc (upd u c m) x y ∨ (Anc (upd u c m) x c ∧ Anc u c y) := by
  induction hxy with
  | refl x => exact .inl (.refl _)
  | step h0 h1 ih =>
    rename_i x y
    by_cases hxc : x = c
    · subst hxc; exact .inr ⟨.refl _, .step h0 h1⟩
    · have e := upd_ne u m hxc
      rcases ih with h2 | ⟨h2, h3⟩
      · exact .inl (.step (by rw [e]; exact h0) (by rw [e]; exact h2))
      · exact .inr ⟨.step (by rw [e]; exact h0) (by rw [e]; exact h2), h3⟩
theorem AR.forward (g : Gr S pos E) {d c x : Int} (h : AR E d c) (hf : FP E pos c x) (hlt : pos d < pos c) : AR E d x := by
  induction hf with
  | refl => exact h
  | step hf h1 h2 ih =>
    refine .step ih h1 (fun e => ?_)
    have := hf.le
    rw [e] at h2
    omega
/-- one block looked at -/
theorem InP.next (g : Gr S pos E) (h : InP S pos E i u) (hc : S c) (hc0 : c ≠ 0) (hi : pos c = i) (hm : IsMeet u (fun a => E a c ∧ Proc u a) m) : InP S pos E (i + 1) (upd u c m) ∧ 0 ≤ m ∧ S m ∧ pos m < pos c ∧ (0 ≤ u c → pos m ≤ pos (u c) ∧ (pos m = pos (u c) → m = u c)) := by
  obtain ⟨p, hp1, hp2⟩ := g.par c hc hc0
  have sp := g.src _ _ hp1 hc
  have pp := h.pr p sp (by omega)
  have hpm := hm.1 p ⟨hp1, pp⟩
  obtain ⟨sm, pm, lm, _⟩ := h.up hpm sp pp
  have m0 := g.nonneg m sm
  have hmo := fun ho => h.mono g hc hc0 hi hm ho
  have hmc : m ≠ c := fun e => by rw [e] at lm; omega
  have hpr : ∀ x, Proc u x → Proc (upd u c m) x := fun x hx => by
    by_cases hxc : x = c
    · right; rw [hxc, upd_same]; exact m0
    · rcases hx with h1 | h1
      · exact .inl h1
      · right; rw [upd_ne u m hxc]; exact h1
  have hpr' : ∀ x, x ≠ c → Proc (upd u c m) x → Proc u x := fun x hxc hx => by
    rcases hx with h1 | h1
    · exact .inl h1
    · right; rw [upd_ne u m hxc] at h1; exact h1
  have hdc : ∀ d, ¬ AR E d c → Anc (upd u c m) c d := fun d hd => by
    by_cases hdc : d = c
    · rw [hdc]; exact .refl _
    · have h1 : Anc u m d := hm.2 d (fun a ⟨ea, pa⟩ => h.l a (g.src _ _ ea hc) pa d (fun har => hd (.step har ea (Ne.symm hdc))))
      exact .step (by rw [upd_same]; exact m0) (by rw [upd_same]; exact h.keep h1 sm pm (by omega))
  refine ⟨⟨by rw [upd_ne u m (Ne.symm hc0)]; exact h.z, ?_, ?_, ?_, ?_, ?_, ?_⟩, m0, sm, by omega, fun ho => ?_⟩
  · intro b hb hb0 h0
    by_cases hbc : b = c
    · subst hbc
      rw [upd_same]
      exact ⟨sm, by omega, hpr m pm⟩
    · rw [upd_ne u m hbc] at h0 ⊢
      obtain ⟨a1, a2, a3⟩ := h.a b hb hb0 h0
      exact ⟨a1, a2, hpr _ a3⟩
  · intro b hb hlt
    by_cases hbc : b = c
    · right; rw [hbc, upd_same]; exact m0
    · refine hpr b (h.pr b hb ?_)
      rcases Nat.lt_or_ge (pos b) i with h1 | h1
      · exact h1
      · exact absurd (g.inj b c hb hc (by omega)) hbc
  · intro b hb hb0 h0 y hy
    have hy' : ∀ a, E a b → Proc u a → Anc u a y := fun a ea pa => h.shrink hc0 hmo (hy a ea (hpr a pa)) (g.src _ _ ea hb) pa ⟨sm, pm⟩
    by_cases hbc : b = c
    · subst hbc
      rw [upd_same]
      exact (h.up (hm.2 y (fun a ⟨ea, pa⟩ => hy' a ea pa)) sm pm).2.2.1
    · rw [upd_ne u m hbc] at h0 ⊢
      exact h.m b hb hb0 h0 y hy'
  · intro b hb hb0 h0
    by_cases hbc : b = c
    · subst hbc
      rw [upd_same]
      exact ⟨p, h.fpath hpm sp pp, hp1, hp2⟩
    · rw [upd_ne u m hbc] at h0 ⊢
      exact h.fp b hb hb0 h0
  · intro c' hc' hc0' hlt a ea hlt'
    have sa := g.src _ _ ea hc'
    by_cases hcc : c' = c
    · subst hcc
      rw [upd_same]
      have pa := h.pr a sa (by omega)
      exact h.keep (hm.1 a ⟨ea, pa⟩) sa pa (by omega)
    · have hlt2 : pos c' < i := by
        rcases Nat.lt_or_ge (pos c') i with h1 | h1
        · exact h1
        · exact absurd (g.inj c' c hc' hc (by omega)) hcc
      rw [upd_ne u m hcc]
      exact h.keep (h.k c' hc' hc0' hlt2 a ea hlt') sa (h.pr a sa (by omega)) (by omega)
  · intro x hx hpx d hd
    by_cases hxc : x = c
    · subst hxc; exact hdc d hd
    · have px := hpr' x hxc hpx
      have h1 := h.l x hx px d hd
      rcases Anc.split (c := c) (m := m) h1 with h2 | ⟨h2, h3⟩
      · exact h2
      · refine h2.trans (hdc d (fun har => ?_))
        -- c lies on the way up from x
        have h4 : Anc u x c := h.shrink hc0 hmo h2 hx px ⟨sm, pm⟩
        obtain ⟨_, pc, _, _⟩ := h.up h4 hx px
        obtain ⟨_, _, l3, e3⟩ := h.up h3 hc pc
        by_cases hdc' : d = c
        · subst hdc'
          -- a block is not reached without itself
          cases har with
          | zero h0 => exact h0 rfl
          | step _ _ h0 => exact h0 rfl
        · exact hd (har.forward g (h.fpath h4 hx px) (by
            rcases Nat.lt_or_ge (pos d) (pos c) with h5 | h5
            · exact h5
            · exact absurd (e3 (by omega)) hdc'))
  · have h1 := hmo ho
    obtain ⟨a1, a2, a3⟩ := h.a c hc hc0 ho
    obtain ⟨_, _, l1, e1⟩ := h.up h1 a1 a3
    exact ⟨l1, e1⟩
end step
/-- the beginning -/
theorem InP.start (g : Gr S pos E) (h : ∀ b, S b → u b < 0) : InP S pos E 1 u := by
  have hp : ∀ b, S b → Proc u b → b = 0 := fun b hs hb => hb.resolve_right (fun h0 => by have := h b hs; omega)
  refine ⟨h 0 g.zero, fun b hs _ h0 => absurd h0 (by have := h b hs; omega), fun b hb hlt => .inl (g.inj b 0 hb g.zero (by have := g.pos0; omega)), fun b hs _ h0 => absurd h0 (by have := h b hs; omega), fun b hs _ h0 => absurd h0 (by have := h b hs; omega), fun c hc hc0 hlt => absurd (g.inj c 0 hc g.zero (by have := g.pos0; omega)) hc0, fun x hx hpx d hd => ?_⟩
  rw [hp x hx hpx] at hd ⊢
  by_cases h0 : d = 0
  · rw [h0]; exact .refl _
  · exact absurd (.zero h0) hd
/-- the next round -/
theorem InP.again (g : Gr S pos E) {n : Nat} (h : InP S pos E n u) (hn : 1 ≤ n) : InP S pos E 1 u :=
  ⟨h.z, h.a, fun b hb hlt => h.pr b hb (by omega), h.m, h.fp, fun c hc hc0 hlt => absurd (g.inj c 0 hc g.zero (by have := g.pos0; omega)) hc0, h.l⟩
/-- what it ends with -/
theorem InP.final (g : Gr S pos E) {n : Nat} (h : InP S pos E n u) (hall : ∀ b, S b → Proc u b) (hf : ∀ c, S c → c ≠ 0 → ∀ a, E a c → Anc u a (u c)) : ∀ x, S x → ∀ d, Anc u x d ↔ ¬ AR E d x := by
  intro x hx d
  refine ⟨fun ha har => ?_, h.l x hx (hall x hx) d⟩
  induction har with
  | zero h0 =>
    cases ha with
    | refl => exact h0 rfl
    | step h1 _ => have := h.z; omega
  | step har e hne ih =>
    rename_i a b
    have sa := g.src _ _ e hx
    cases ha with
    | refl => exact hne rfl
    | step h1 h2 =>
      by_cases hb0 : b = 0
      · rw [hb0] at h1; have := h.z; omega
      · exact ih sa ((hf b hx hb0 a e).trans h2)
end Go.Proofs.Ytmeaepmimnmjlaa.DomT
/- A range over a function whose variable lies in a box of its own in each round. -/
namespace Go.Proofs.Ytmeaepmimnmjlaa.Ask
open Go.RowKit Go.Shelf Go.Proofs.Ytmeaepmimnmjlaa.PGb Go.Proofs.Ytmeaepmimnmjlaa.Lit Go.Proofs.Ytmeaepmimnmjlaa.OwnCells Go.Proofs.YtmeaepmimnmjlaaW.PrintWords Go.Proofs.YtmeaepmimnmjlaaW.PrintLast Go.Proofs.YtmeaepmimnmjlaaW.PrintMore
set_option linter.unusedVariables false
set_option linter.unusedSimpArgs false
theorem wpIn_run {F : Fence} {n : Nat} {P : Program} {o : Oper} {a : Act} {w w' : World} {v : Value} {K : Act → World → Prop} {Q : Exit → Act → World → Prop} (hF : ∀ f, F.fn f) (hd : ∀ c, o.op ≠ .defer c) (hrun : (execOp a.eval o).run P w = .ok (.value v) w') (h : K (a.put o.dst v) w') : o.wpIn F n P a w K Q := by
  refine ⟨fun f _ => hF f, ?_⟩
  have e : o.semAt F.round a.eval = execOp a.eval o := by
    cases F.round with
    | none => exact Oper.semAt_none _ _
    | some l => exact Oper.semAt_some l _ _ hd
  rw [e, hrun]
  exact h
theorem wpIn_skp {F : Fence} {n : Nat} {P : Program} {o : Oper} {a : Act} {w w' : World} {K : Act → World → Prop} {Q : Exit → Act → World → Prop} (hF : ∀ f, F.fn f) (hd : ∀ c, o.op ≠ .defer c) (hrun : (execOp a.eval o).run P w = .ok .skip w') (h : K (a.put o.dst undef) w') : o.wpIn F n P a w K Q := by
  refine ⟨fun f _ => hF f, ?_⟩
  have e : o.semAt F.round a.eval = execOp a.eval o := by
    cases F.round with
    | none => exact Oper.semAt_none _ _
    | some l => exact Oper.semAt_some l _ _ hd
  rw [e, hrun]
  exact h
theorem assignX_in {F : Fence} (hF : ∀ f, F.fn f) {n : Nat} {id p q : Nat} {pos pos' : String} {aft : Array Edge} {ts : Array Value} {v : Int} {W : World} {K : Act → World → Prop} (hp : p < ts.size) (hq : q < ts.size) (hpq : p ≠ q) (h : K { tmps := (ts.setIfInBounds p (.int .i64 v)).setIfInBounds q (.pointer (some ⟨W.heap.size, 0, none⟩)), defers := [] } (W.alloc (.cells #[.int .i64 v] 3))) :
    (Code.region id #[{ dst := some q, op := .alloc 3, type := 0, pos := pos, after := #[], guard := none }, { dst := none, op := .store 3 (.tmp q) (.tmp p), type := 0, pos := pos', after := aft, guard := none }] false).wpIn F n Try.prog (Exit.then K (fun _ _ _ => False)) { tmps := (#[p].zip #[Value.int .i64 v]).foldl (fun t (p, v) => t.setIfInBounds p v) ts, defers := [] } W := by
  refine wpIn_region_list (wpListIn_plain rfl fun K' hK' => wpIn_run hF (by intro c h; cases h) (v := .pointer (some ⟨W.heap.size, 0, none⟩)) (w' := W.alloc (.cells #[.int .i64 0] 3)) ?_ (hK' _ _ (wpListIn_plain rfl fun K2 hK2 => wpIn_skp hF (by intro c h; cases h) (w' := W.alloc (.cells #[.int .i64 v] 3)) ?_ (hK2 _ _ (wpListIn_nil ?_)))))
  · unfold execOp
    go_simp
  · have e1 : ((#[p].zip #[Value.int .i64 v]).foldl (fun t (p, v) => t.setIfInBounds p v) ts) = ts.setIfInBounds p (.int .i64 v) := by simp
    rw [e1]
    have x1 := gdq _ _ _ (show ((Act.mk (ts.setIfInBounds p (.int .i64 v)) []).put (some q) (.pointer (some ⟨W.heap.size, 0, none⟩))).tmps.getD q undef = .pointer (some ⟨W.heap.size, 0, none⟩) from by simp [Act.put, Array.getD_eq_getD_getElem?, hq])
    have x2 := gdq _ _ _ (show ((Act.mk (ts.setIfInBounds p (.int .i64 v)) []).put (some q) (.pointer (some ⟨W.heap.size, 0, none⟩))).tmps.getD p undef = .int .i64 v from by simp [Act.put, Array.getD_eq_getD_getElem?, hp, Ne.symm hpq])
    revert x1 x2
    generalize ((Act.mk (ts.setIfInBounds p (.int .i64 v)) []).put (some q) (.pointer (some ⟨W.heap.size, 0, none⟩))) = a2
    intro x1 x2
    clear h hK' hK2
    unfold execOp
    go_simp
  · show K _ _
    have e2 : (((Act.mk ((#[p].zip #[Value.int .i64 v]).foldl (fun t (p, v) => t.setIfInBounds p v) ts) []).put (some q) (.pointer (some ⟨W.heap.size, 0, none⟩))).put none undef) = { tmps := (ts.setIfInBounds p (.int .i64 v)).setIfInBounds q (.pointer (some ⟨W.heap.size, 0, none⟩)), defers := [] } := by
      simp [Act.put]
    exact e2 ▸ h
/-- a range that is no part of a round, within its block; its variable boxed -/
theorem rangeXB {n : Nat} {g : Operand} {p q id bid : Nat} {pos pos' : String} {aft : Array Edge} {body : Code} {Q : Exit → Act → World → Prop} {a : Act} {w : World} (n₀ : Nat)
    (h1 : 1 ≤ n) {gf : Nat} {lb : Array Value} (hg : a.eval g = .func (.func gf) #[] lb) (eg : ∀ args w, (callFunc gf args).run Try.prog w = .ok (.enter gf args) w) (hp : p < a.tmps.size) (hq : q < a.tmps.size) (hpq : p ≠ q)
    {S Sp : List Int → Prop} {N : Nat} {w0 : World} (hseq : SeqStopsK Fence.wide (n - 1) Try.prog gf lb (fun x : Int => #[Value.int .i64 x]) (Below n₀) S Sp N w0)
    (hn₀ : n₀ ≤ w.heap.size) (hb0 : Below w0.heap.size w0 w)
    (I Ib : List Int → World → Prop) (hI : OwnFrom w.heap.size I) (hIb : OwnFrom w.heap.size Ib) (h0 : I [] w) (hIs : ∀ pre W, I pre W → w.heap.size ≤ W.heap.size)
    (hbody : ∀ (l : Nat) (pre : List Int) (x : Int) (Bx : Nat) (W : World), w.heap.size ≤ l → (∃ r, W.heap[l]? = some (.loop r)) → I pre W → w.heap.size ≤ Bx → Boxed W Bx 3 (.int .i64 x) → pre.length < N →
      body.wpIn (Fence.wide.inRound l) (n - 1 - 1) Try.prog (ownPostG w.heap.size (Below n₀) I (fun c xs W => c = .exit bid ∧ Ib xs W) (pre ++ [x]) W) { tmps := (a.tmps.setIfInBounds p (.int .i64 x)).setIfInBounds q (.pointer (some ⟨Bx, 0, none⟩)), defers := [] } W)
    (hend : ∀ (D : Nat) (xs : List Int) (W : World), w.heap.size ≤ D → (S xs ∧ I xs W ∨ Sp xs ∧ Ib xs W) → W.heap[D]? = some (.deferred (some [])) → Q .normal { a with defers := { target := .collected D, args := #[] } :: a.defers } W) :
    (Code.rangeFunc g #[p] (Code.region id #[{ dst := some q, op := .alloc 3, type := 0, pos := pos, after := #[], guard := none }, { dst := none, op := .store 3 (.tmp q) (.tmp p), type := 0, pos := pos', after := aft, guard := none }] false) body).wpIn Fence.wide n Try.prog (Exit.inBlock bid Q) a w :=
  wpIn_rangeFunc_ownH rfl h1 hg trivial eg hseq belowK_t (belowK_b hn₀) hb0 (fun _ => rfl) I (fun c xs W => c = .exit bid ∧ Ib xs W) hI (fun c s W W' row hs hg hr => ⟨hs.1, hIb s W W' row hs.2 hg hr⟩) h0
    (fun x a' W => ∃ Bx, w.heap.size ≤ Bx ∧ Boxed W Bx 3 (.int .i64 x) ∧ a' = { tmps := (a.tmps.setIfInBounds p (.int .i64 x)).setIfInBounds q (.pointer (some ⟨Bx, 0, none⟩)), defers := [] })
    (fun x a' _ X Y row hs hg hr => by obtain ⟨Bx, h1, h2, h3⟩ := hs; exact ⟨Bx, h1, boxed_own Bx 3 (fun (_ : Unit) => Value.int .i64 x) () X Y row h2 hg (fun r e => (hr r e).2), h3⟩)
    (fun l pre x W K hi hK => assignX_in (fun _ => trivial) hp hq hpq (hK _ _ ((KeepsOthers.alloc _ _).from _) ((Below.refl _ W).alloc (by have := hIs pre W hi; omega) _) (hI.alloc _ hi) ⟨W.heap.size, hIs pre W hi, Boxed.new W 3 _, rfl⟩))
    (fun l pre x a' W hl hr hi e hN => by obtain ⟨Bx, h1, h2, rfl⟩ := e; exact hbody l pre x Bx W hl hr hi h1 h2 hN)
    (fun D xs W hD hs hi hK => hend D xs W hD (.inl ⟨hs, hi⟩) hK)
    (fun D c pre W hD hs hi hK => by
      obtain ⟨rfl, hi⟩ := hi
      refine wpIn_exit ?_
      show (if bid = bid then Q .normal _ W else _)
      rw [if_pos rfl]
      exact hend D pre W hD (.inr ⟨hs, hi⟩) hK)
end Go.Proofs.Ytmeaepmimnmjlaa.Ask
/- graph.meet: for every world. -/
namespace Go.Proofs.Ytmeaepmimnmjlaa.Ask
open Go.RowKit Go.Shelf Go.Proofs.Ytmeaepmimnmjlaa.PGb Go.Proofs.Ytmeaepmimnmjlaa.Lit Go.Proofs.Ytmeaepmimnmjlaa.OwnCells Go.Proofs.YtmeaepmimnmjlaaW.PrintWords Go.Proofs.YtmeaepmimnmjlaaW.PrintLast Go.Proofs.YtmeaepmimnmjlaaW.PrintMore
attribute [local go_sem] Oper.semAt_some
attribute [local go_sem] run_store_fn
attribute [local go_sem] run_eql_fn
set_option linter.unusedVariables false
set_option linter.unusedSimpArgs false
theorem scope_wide {n : Nat} {P : Program} {c : Code} {Q : Exit → Act → World → Prop} {a : Act} {w : World} (h : c.wpIn Fence.wide n P (Exit.noGoto Q) a w) : (Code.scope c).wpIn Fence.wide n P Q a w := wpIn_wide.2 (wp_scope_straight (wpIn_wide.1 h))
/-- the first on the way up from a that lies on the way up from b too -/
def firstIn (D : List Int) : List Int → Int
  | [] => 0
  | x :: r => if x ∈ D then x else firstIn D r
theorem firstIn_append (D : List Int) : ∀ (l r : List Int), (∀ x ∈ l, x ∉ D) → firstIn D (l ++ r) = firstIn D r
  | [], _, _ => rfl
  | x :: l, r, h => by
    rw [List.cons_append, firstIn, if_neg (h x List.mem_cons_self), firstIn_append D l r (fun y hy => h y (List.mem_cons_of_mem _ hy))]
def meetOf (l : List Int) (a b : Int) : Int := firstIn (doms l l.length b) (doms l l.length a)
def NoneIn (D l : List Int) : Prop := ∀ x ∈ l, x ∉ D
def HitIn (D l : List Int) : Prop := ∃ ys x, l = ys ++ [x] ∧ NoneIn D ys ∧ x ∈ D
set_option maxRecDepth 100000 in
set_option maxHeartbeats 4000000 in
theorem meet_calls (A : Option Addr) (c : Nat) (l : List Int) (a b : Int) (w : World) (hA : (Kd.int .i64).C w A l.length l) (hl : l.length < 9223372036854775807) :
    Calls Try.prog 66 #[.slice A l.length c, .int .i64 a, .int .i64 b] w fun e w' => e = .returned (.int .i64 (meetOf l a b)) ∧ Below w.heap.size w w' := by
  have HA := Aside0.mk hA
  have HL := Aside0.mk hl
  clear hA hl
  refine (callsIn_wide (n := 10)).1 ?_
  refine callsIn_of_wp_marks Try.func66 rfl trivial ?_ rfl
  simp only [Try.ntmps66, List.size_toArray, List.length_cons, List.length_nil, Nat.reduceAdd, Nat.reduceSub, Array.replicate_succ, Array.replicate_zero, List.push_toArray, List.append_toArray, List.nil_append, List.cons_append]
  gi_wp2_with (fail)
  refine scope_wide ?_
  gi_wp2_with (fail)
  refine wpIn_label ?_
  gi_wp2_with (fail)
  refine ⟨trivial, ?_⟩
  obtain ⟨W1, hW1⟩ : ∃ W1, ((w.alloc (.cells #[.slice A l.length c] 26)).alloc (.cells #[.int .i64 b] 3)).alloc (.cells #[.int .i64 0] 3) = W1 := ⟨_, rfl⟩
  have g3 : Boxed W1 w.heap.size 26 (.slice A l.length c) := by
    rw [← hW1]; exact ((Boxed.new w 26 _).alloc _).alloc _
  have g5 : Boxed W1 (w.heap.size + 1) 3 (.int .i64 b) := by
    rw [← hW1]
    have := (Boxed.new (w.alloc (.cells #[.slice A l.length c] 26)) 3 (.int .i64 b)).alloc (.cells #[.int .i64 0] 3)
    simpa using this
  have g7 : Boxed W1 (w.heap.size + 1 + 1) 3 (.int .i64 0) := by
    rw [← hW1]
    have := Boxed.new ((w.alloc (.cells #[.slice A l.length c] 26)).alloc (.cells #[.int .i64 b] 3)) 3 (.int .i64 0)
    simpa using this
  have hb1 : Below w.heap.size w W1 := by
    rw [← hW1]; exact below_alloc (below_alloc (below_alloc (Below.refl _ w) _) _) _
  have hs1 : W1.heap.size = w.heap.size + 3 := by rw [← hW1]; simp
  have hC1 := Kd.C_below HA.out hb1
  rw [hW1]
  clear hW1
  refine (callsIn_wide.2 (above_calls 0 A c l a W1 hC1 (Nat.zero_le _) (fun _ _ => Nat.zero_le _))).mono ?_
  rintro e W2 ⟨B1, B2, rfl, hS, hb12⟩
  have hb2 := hb1.trans (hb12.mono (by omega))
  replace g3 := blk_below g3 hb12
  replace g5 := blk_below g5 hb12
  replace g7 := blk_below g7 hb12
  have hs2 : w.heap.size + 3 ≤ W2.heap.size := by have := hb12.size; omega
  have hC2 := Kd.C_below hC1 hb12
  clear hC1 hb1 hb12 hs1
  gi_wp2_with (fail)
  obtain ⟨n0, hn0⟩ : ∃ n, W2.heap.size = n := ⟨_, rfl⟩
  rw [hn0] at hs2
  obtain ⟨D, hD⟩ : ∃ D, doms l l.length b = D := ⟨_, rfl⟩
  have hM : meetOf l a b = firstIn D (doms l l.length a) := by rw [← hD]; rfl
  refine rangeXB n0 (by decide) rfl (enters_of Try.func68 (by kernel_rfl) rfl) (by simp) (by simp) (by decide)
    (above_stops Fence.wide 9 trivial rfl (by decide) B1 B2 n0 0 A c l a HL.out W2 (fun W' h => hS.below (h.mono (by omega))) W2 (Below.refl _ _) (by omega)) (by omega) (Below.refl _ _)
    (fun pre W => Below n0 W2 W ∧ NoneIn D pre)
    (fun pre W => Boxed W (w.heap.size + 1 + 1) 3 (.int .i64 (pre.getLast?.getD 0)) ∧ (Below w.heap.size w W ∧ HitIn D pre))
    (OwnFrom.and (ownFrom_below (by omega) (by omega)) (ownFrom_pure _ _))
    (OwnFrom.and (Own.from (boxed_own _ _ _) _) (OwnFrom.and (ownFrom_below (by omega) (by omega)) (ownFrom_pure _ _)))
    ⟨Below.refl _ _, fun _ h => by cases h⟩ (fun pre W h => by have := h.1.size; omega) ?body ?rest
  case body =>
    rintro lp pre x Bx W hlp ⟨r, hr⟩ ⟨hB, hpre⟩ hBx bX hlt
    simp only [List.setIfInBounds_toArray, List.set_cons_succ, List.set_cons_zero]
    have k3 := Boxed.cell (blk_in hB g3 (by omega))
    have k5 := Boxed.cell (blk_in hB g5 (by omega))
    have hCW := Kd.C_below hC2 (hB.mono (by omega))
    have hsz := hB.size
    gi_wp2_with (fail)
    refine ⟨trivial, ?_⟩
    refine (CallsIn.inRound lp (callsIn_wide.2 (above_calls 0 A c l b W hCW (Nat.zero_le _) (fun _ _ => Nat.zero_le _)))).mono ?_
    rintro e W3 ⟨B3, B4, rfl, hS3, hb3⟩
    have hr3 := blk_below hr hb3
    have bX3 : Boxed W3 Bx 3 (.int .i64 x) := blk_below bX hb3
    have hB3 := hB.trans (hb3.mono (by omega))
    have g7W := blk_in hB3 g7 (by omega)
    have hK3 : KeepsFrom W2.heap.size W W3 := from_below hb3
    have hbw3 : Below n0 W W3 := hb3.mono (by omega)
    have hsz3 := hb3.size
    clear k3 k5 hCW
    gi_wp2_with (fail)
    obtain ⟨n1, hn1⟩ : ∃ n, W3.heap.size = n := ⟨_, rfl⟩
    have hBx1 : Bx < n1 := by have := blk_lt bX3; omega
    refine Range.rangeN n1 (l₀ := lp) (r₀ := r) rfl hr3 (by decide) rfl trivial (enters_of Try.func68 (by kernel_rfl) rfl) (by simp)
      ((above_stops Fence.wide 7 trivial rfl (by decide) B3 B4 n1 0 A c l b HL.out W3 (fun W' h => hS3.below (h.mono (by omega))) W3 (Below.refl _ _) (by omega)).inRound lp) (by omega) (Below.refl _ _)
      (fun pre' W' => Below n1 W3 W' ∧ x ∉ pre')
      (fun c pre' W' => Boxed W' (w.heap.size + 1 + 1) 3 (.int .i64 x) ∧ (Below w.heap.size w W' ∧ (KeepsFrom W2.heap.size W W' ∧ (c = .exit 0 ∧ x ∈ pre'))))
      (OwnFrom.and (ownFrom_below (by omega) (by omega)) (ownFrom_pure _ _))
      (fun c => OwnFrom.and (Own.from (boxed_own _ _ (fun _ => Value.int .i64 x)) _) (OwnFrom.and (ownFrom_below (by omega) (by omega)) (OwnFrom.and (ownFrom_keepsFrom (by omega)) (ownFrom_pure _ _))))
      ⟨Below.refl _ _, by simp⟩ ?body3 ?done3 ?stop3
    case body3 =>
      rintro lp2 pre' y W' hlp2 - ⟨hB', hnx⟩ hlt'
      simp only [List.setIfInBounds_toArray, List.set_cons_succ, List.set_cons_zero]
      have bX' := blk_in hB' bX3 hBx1
      have kx := Boxed.cell bX'
      have g7' := blk_in hB' g7W (by omega)
      have k7 := Boxed.cell g7'
      have f7 := Boxed.frozen g7'
      have HN := Aside0.mk hnx
      clear hnx
      by_cases hxy : x = y
      · subst hxy
        gi_wp2_with (fail)
        exact ⟨(KeepsOthers.setCell _ _ _).from _, Boxed.set (W := W') (.int .i64 x) g7', (hb2.trans ((hB3.trans (hB'.mono (by omega))).mono (by omega))).setCell (p := ⟨w.heap.size + 1 + 1, 0, none⟩) (by simp; omega) _, (hK3.trans (from_below (by rw [hn1]; exact hB'))).trans ((KeepsOthers.setCell _ _ _).from _), rfl, by simp⟩
      · gi_wp2_with (fail)
        refine ⟨KeepsFrom.refl _ _, Below.refl _ _, hB', ?_⟩
        have := HN.out
        simp only [List.mem_append, List.mem_singleton]
        intro h
        rcases h with h | h
        · exact this h
        · exact hxy h
    case done3 =>
      rintro zs W' rfl ⟨hB', hnx⟩
      have HN := Aside0.mk hnx
      have HB' := Aside0.mk hB'
      clear hnx hB'
      gi_wp2_with (fail)
      refine ⟨hK3.trans (from_below (by rw [hn1]; exact HB'.out)), hbw3.trans (HB'.out.mono (by omega)), hB3.trans (HB'.out.mono (by omega)), ?_⟩
      intro z hz
      rcases List.mem_append.1 hz with h | h
      · exact hpre z h
      · rw [List.mem_singleton.1 h, ← hD]; exact HN.out
    case stop3 =>
      rintro c' pre' W' hpx ⟨hx', hBw, hKw, rfl, hmem⟩
      gi_wp2_with (fail)
      refine ⟨hKw, rfl, by simpa using hx', hBw, pre, x, rfl, hpre, ?_⟩
      rw [← hD]; exact hpx.subset hmem
  case rest =>
    rintro Dd xs W hDd hends hK
    obtain ⟨v, hv, hBW, hval⟩ : ∃ v : Int, Boxed W (w.heap.size + 1 + 1) 3 (.int .i64 v) ∧ Below w.heap.size w W ∧ v = meetOf l a b := by
      rcases hends with ⟨e, hB, hpre⟩ | ⟨he, hx, hB, ys, x, rfl, hys, hxD⟩
      · refine ⟨0, blk_in hB g7 (by omega), hb2.trans (hB.mono (by omega)), ?_⟩
        have := firstIn_append D xs [] hpre
        rw [List.append_nil] at this
        rw [hM, ← e, this]; rfl
      · refine ⟨x, by simpa using hx, hB, ?_⟩
        obtain ⟨r, hr⟩ := he
        rw [hM, ← hr, List.append_assoc, firstIn_append D ys _ hys]
        simp [firstIn, hxD]
    clear hends
    have kv := hv.cell
    have hDw : w.heap.size ≤ Dd := by omega
    gi_wp2_with (fail)
    refine ⟨by simp, .inl ⟨_, _, rfl, run_takeDeferred hK, ?_⟩⟩
    refine ⟨_, results_tmp rfl _ _ _, by rw [hM]; rfl, hBW.trans (belowK_b (w := w) (Nat.le_refl _) W Dd _ _ hDw hK rfl rfl)⟩
end Go.Proofs.Ytmeaepmimnmjlaa.Ask
/- graph.Block: for every world. -/
namespace Go.Proofs.Ytmeaepmimnmjlaa.Ask
open Go.RowKit Go.Shelf Go.Proofs.Ytmeaepmimnmjlaa.PGb Go.Proofs.Ytmeaepmimnmjlaa.Lit Go.Proofs.Ytmeaepmimnmjlaa.OwnCells Go.Proofs.YtmeaepmimnmjlaaW.PrintWords Go.Proofs.YtmeaepmimnmjlaaW.PrintLast Go.Proofs.YtmeaepmimnmjlaaW.PrintMore
attribute [local go_sem] Oper.semAt_some
attribute [local go_sem] run_store_fn
attribute [local go_sem] run_eql_fn
set_option linter.unusedVariables false
set_option linter.unusedSimpArgs false
theorem results_cellI {fn : Func} {p : Tmp} (h : fn.results = #[.cell p 3]) (tmps : Array Value) (w : World) (ad : Addr) (v : Int) (hp : tmps.getD p undef = .pointer (some ad)) (hc : w.cell? ad = some (.int .i64 v)) : (results fn tmps).run Try.prog w = .ok (.int .i64 v) w := by
  have hp' : tmps[p]?.getD undef = .pointer (some ad) := gdq _ _ _ hp
  simp [results, h, hp', asAddr]
  go_simp
/-- the block in which an instruction stands -/
def blockAt (pc : Int) : List (Int × Int) → Int
  | [] => -1
  | x :: r => if x.2 ≤ pc then x.1 else blockAt pc r
def NoneLe (pc : Int) (l : List (Int × Int)) : Prop := ∀ x ∈ l, ¬ x.2 ≤ pc
def Hit (pc : Int) (l : List (Int × Int)) : Prop := ∃ ys x, l = ys ++ [x] ∧ NoneLe pc ys ∧ x.2 ≤ pc
theorem blockAt_append (pc : Int) : ∀ (l r : List (Int × Int)), NoneLe pc l → blockAt pc (l ++ r) = blockAt pc r
  | [], _, _ => rfl
  | x :: l, r, h => by
    rw [List.cons_append, blockAt, if_neg (h x List.mem_cons_self), blockAt_append pc l r (fun y hy => h y (List.mem_cons_of_mem _ hy))]
set_option maxRecDepth 100000 in
set_option maxHeartbeats 4000000 in
theorem block_calls (A0 A1 A2 A3 A4 : Option Addr) (c0 c1 c2 c3 c4 n1 n2 n3 n4 : Nat) (l : List Int) (pc : Int) (w : World) (hA : (Kd.int .i64).C w A0 l.length l) (hl : l.length < 9223372036854775807) :
    Calls Try.prog 21 #[.agg #[.slice A0 l.length c0, .slice A1 n1 c1, .slice A2 n2 c2, .slice A3 n3 c3, .slice A4 n4 c4], .int .i64 pc] w fun e w' => e = .returned (.int .i64 (blockAt pc (back l l.length))) ∧ Below w.heap.size w w' := by
  have HA := Aside0.mk hA
  have HL := Aside0.mk hl
  clear hA hl
  refine (callsIn_wide (n := 10)).1 ?_
  refine callsIn_of_wp_marks Try.func21 rfl trivial ?_ rfl
  simp only [Try.ntmps21, List.size_toArray, List.length_cons, List.length_nil, Nat.reduceAdd, Nat.reduceSub, Array.replicate_succ, Array.replicate_zero, List.push_toArray, List.append_toArray, List.nil_append, List.cons_append]
  gi_wp2_with (fail)
  refine ⟨trivial, ?_⟩
  refine (callsIn_wide.2 (backward_calls A0 c0 l _)).mono ?_
  rintro e w1 ⟨rfl, rfl⟩
  obtain ⟨W1, hW1⟩ : ∃ W1, ((w.alloc (.cells #[.slice A0 l.length c0, .slice A1 n1 c1, .slice A2 n2 c2, .slice A3 n3 c3, .slice A4 n4 c4] 29)).alloc (.cells #[.int .i64 pc] 3)).alloc (.cells #[.int .i64 0] 3) = W1 := ⟨_, rfl⟩
  have g3 : Boxed W1 (w.heap.size + 1) 3 (.int .i64 pc) := by
    rw [← hW1]
    have := (Boxed.new (w.alloc (.cells #[.slice A0 l.length c0, .slice A1 n1 c1, .slice A2 n2 c2, .slice A3 n3 c3, .slice A4 n4 c4] 29)) 3 (.int .i64 pc)).alloc (.cells #[.int .i64 0] 3)
    simpa using this
  have g4 : Boxed W1 (w.heap.size + 1 + 1) 3 (.int .i64 0) := by
    rw [← hW1]
    have := Boxed.new ((w.alloc (.cells #[.slice A0 l.length c0, .slice A1 n1 c1, .slice A2 n2 c2, .slice A3 n3 c3, .slice A4 n4 c4] 29)).alloc (.cells #[.int .i64 pc] 3)) 3 (.int .i64 0)
    simpa using this
  have hb1 : Below w.heap.size w W1 := by
    rw [← hW1]; exact below_alloc (below_alloc (below_alloc (Below.refl _ w) _) _) _
  have hs1 : W1.heap.size = w.heap.size + 3 := by rw [← hW1]; simp
  rw [hW1]
  clear hW1
  have g5 : Boxed (W1.alloc (.cells #[.slice A0 l.length c0] 26)) W1.heap.size 26 (.slice A0 l.length c0) := Boxed.new W1 26 _
  have g3' := g3.alloc (.cells #[.slice A0 l.length c0] 26)
  have g4' := g4.alloc (.cells #[.slice A0 l.length c0] 26)
  have hC1 := Kd.C_below HA.out (below_alloc hb1 (.cells #[.slice A0 l.length c0] 26))
  have hb2 : Below w.heap.size w (W1.alloc (.cells #[.slice A0 l.length c0] 26)) := below_alloc hb1 _
  have hs2 : (W1.alloc (.cells #[.slice A0 l.length c0] 26)).heap.size = w.heap.size + 4 := by simp [hs1]
  clear g3 g4 hb1
  revert g5 g3' g4' hC1 hb2 hs2
  generalize W1.alloc (.cells #[.slice A0 l.length c0] 26) = W2
  intro g5 g3 g4 hC1 hb2 hs2
  rw [hs1] at g5 ⊢
  clear hs1
  gi_wp2_with (fail)
  refine Range.range2HB (w.heap.size + 4) rfl (by decide) rfl trivial (enters_of Try.func67 (by kernel_rfl) rfl) (by simp) (by simp) (by decide) (by decide)
    (back_stops Fence.wide 9 trivial rfl (by decide) (w.heap.size + 3) (w.heap.size + 4) A0 c0 l HL.out W2 (fun W' h => ⟨blk_in h g5 (by omega), Kd.C_below hC1 (h.mono (by omega))⟩) W2 (Below.refl _ _) (by omega)) (by omega) (Below.refl _ _)
    (fun pre W => Below (w.heap.size + 4) W2 W ∧ NoneLe pc pre)
    (fun c pre W => Boxed W (w.heap.size + 1 + 1) 3 (.int .i64 ((pre.getLast?.getD (0, 0)).1)) ∧ (Below w.heap.size w W ∧ (c = .ret ∧ Hit pc pre)))
    (OwnFrom.and (ownFrom_below (by omega) (by omega)) (ownFrom_pure _ _))
    (fun c => OwnFrom.and (Own.from (boxed_own _ _ _) _) (OwnFrom.and (ownFrom_below (by omega) (by omega)) (ownFrom_pure _ _)))
    ⟨Below.refl _ _, fun _ h => by cases h⟩ ?body ?done ?stop
  case body =>
    rintro lp pre x W hlp - ⟨hB, hpre⟩ hlt
    simp only [List.setIfInBounds_toArray, List.set_cons_succ, List.set_cons_zero]
    have k3 := Boxed.cell (blk_in hB g3 (by omega))
    have g4W := blk_in hB g4 (by omega)
    have k4 := Boxed.cell g4W
    have f4 := Boxed.frozen g4W
    by_cases hx : x.2 ≤ pc
    · gi_wp2_with (fail)
      exact ⟨(KeepsOthers.setCell _ _ _).from _, by simpa using Boxed.set (W := W) (.int .i64 x.1) g4W, (hb2.trans (hB.mono (by omega))).setCell (p := ⟨w.heap.size + 1 + 1, 0, none⟩) (by simp; omega) _, rfl, pre, x, rfl, hpre, hx⟩
    · have hx' : pc < x.2 := by omega
      gi_wp2_with (fail)
      refine ⟨KeepsFrom.refl _ _, Below.refl _ _, hB, ?_⟩
      intro y hy
      rcases List.mem_append.1 hy with h | h
      · exact hpre y h
      · rw [List.mem_singleton.1 h]; exact Int.not_le.2 hx
  case done =>
    rintro D xs W hD rfl ⟨hB, hpre⟩ hK
    have g4W := blk_in hB g4 (by omega)
    have k4 := Boxed.cell g4W
    have f4 := Boxed.frozen g4W
    gi_wp2_with (fail)
    have hx : Boxed (W.setCell ⟨w.heap.size + 1 + 1, 0, none⟩ (.int .i64 (-1))) (w.heap.size + 1 + 1) 3 (.int .i64 (-1)) := Boxed.set (W := W) (.int .i64 (-1)) g4W
    have hK' : (W.setCell ⟨w.heap.size + 1 + 1, 0, none⟩ (.int .i64 (-1))).heap[D]? = some (.deferred (some [])) := (Below.heap_setCell W ⟨w.heap.size + 1 + 1, 0, none⟩ (.int .i64 (-1)) D (by simp; omega)).trans hK
    have hx2 : Boxed ((W.setCell ⟨w.heap.size + 1 + 1, 0, none⟩ (.int .i64 (-1))).putObj D (.deferred none)) (w.heap.size + 1 + 1) 3 (.int .i64 (-1)) := (World.putObj_heap_other (by omega)).trans hx
    refine ⟨by simp, .inl ⟨_, _, rfl, run_takeDeferred hK', ?_⟩⟩
    refine ⟨_, results_cellI rfl _ _ ⟨w.heap.size + 1 + 1, 0, none⟩ (-1) rfl hx2.cell, ?_, ?_⟩
    · have := blockAt_append pc (back l l.length) [] hpre
      rw [List.append_nil] at this
      rw [this]; rfl
    · exact ((hb2.trans (hB.mono (by omega))).setCell (p := ⟨w.heap.size + 1 + 1, 0, none⟩) (by simp; omega) _).trans (belowK_b (w := w) (Nat.le_refl _) _ D _ _ (by omega) hK' rfl rfl)
  case stop =>
    rintro D c pre W hD hpx ⟨hx, hB, rfl, ys, x, rfl, hys, hxp⟩ hK
    gi_wp2_with (fail)
    have hx2 : Boxed (W.putObj D (.deferred none)) (w.heap.size + 1 + 1) 3 (.int .i64 x.1) := (World.putObj_heap_other (by omega)).trans (by have h := hx; simp only [List.getLast?_append, List.getLast?_singleton, Option.some_or, Option.getD_some] at h; exact h)
    refine ⟨by simp, .inl ⟨_, _, rfl, run_takeDeferred hK, ?_⟩⟩
    refine ⟨_, results_cellI rfl _ _ ⟨w.heap.size + 1 + 1, 0, none⟩ x.1 rfl hx2.cell, ?_, ?_⟩
    · obtain ⟨r, hr⟩ := hpx
      rw [← hr, List.append_assoc, blockAt_append pc ys _ hys]
      simp [blockAt, hxp]
    · exact hB.trans (belowK_b (w := w) (Nat.le_refl _) _ D _ _ (by omega) hK rfl rfl)
end Go.Proofs.Ytmeaepmimnmjlaa.Ask
/- graph.Dominates: for every world. -/
namespace Go.Proofs.Ytmeaepmimnmjlaa.Ask
open Go.RowKit Go.Shelf Go.Proofs.Ytmeaepmimnmjlaa.PGb Go.Proofs.Ytmeaepmimnmjlaa.Lit Go.Proofs.Ytmeaepmimnmjlaa.OwnCells Go.Proofs.YtmeaepmimnmjlaaW.PrintWords Go.Proofs.YtmeaepmimnmjlaaW.PrintLast Go.Proofs.YtmeaepmimnmjlaaW.PrintMore
attribute [local go_sem] Oper.semAt_some
attribute [local go_sem] run_store_fn
attribute [local go_sem] run_eql_fn
set_option linter.unusedVariables false
set_option linter.unusedSimpArgs false
set_option maxRecDepth 100000 in
set_option maxHeartbeats 4000000 in
theorem dominates_calls (A0 A1 A2 A3 A4 : Option Addr) (c0 c1 c2 c3 c4 n0 n1 n2 n4 : Nat) (l : List Int) (a b : Int) (w : World) (hA : (Kd.int .i64).C w A3 l.length l) (hl : l.length < 9223372036854775807) :
    Calls Try.prog 29 #[.agg #[.slice A0 n0 c0, .slice A1 n1 c1, .slice A2 n2 c2, .slice A3 l.length c3, .slice A4 n4 c4], .int .i64 a, .int .i64 b] w fun e w' => e = .returned (.bool (decide (a ∈ doms l l.length b))) ∧ Below w.heap.size w w' := by
  have HA := Aside0.mk hA
  have HL := Aside0.mk hl
  clear hA hl
  refine (callsIn_wide (n := 10)).1 ?_
  refine callsIn_of_wp_marks Try.func29 rfl trivial ?_ rfl
  simp only [Try.ntmps29, List.size_toArray, List.length_cons, List.length_nil, Nat.reduceAdd, Nat.reduceSub, Array.replicate_succ, Array.replicate_zero, List.push_toArray, List.append_toArray, List.nil_append, List.cons_append]
  gi_wp2_with (fail)
  refine ⟨trivial, ?_⟩
  obtain ⟨W1, hW1⟩ : ∃ W1, ((w.alloc (.cells #[.slice A0 n0 c0, .slice A1 n1 c1, .slice A2 n2 c2, .slice A3 l.length c3, .slice A4 n4 c4] 29)).alloc (.cells #[.int .i64 a] 3)).alloc (.cells #[.bool false] 4) = W1 := ⟨_, rfl⟩
  have g3 : Boxed W1 (w.heap.size + 1) 3 (.int .i64 a) := by
    rw [← hW1]
    have := (Boxed.new (w.alloc (.cells #[.slice A0 n0 c0, .slice A1 n1 c1, .slice A2 n2 c2, .slice A3 l.length c3, .slice A4 n4 c4] 29)) 3 (.int .i64 a)).alloc (.cells #[.bool false] 4)
    simpa using this
  have g4 : Boxed W1 (w.heap.size + 1 + 1) 4 (.bool false) := by
    rw [← hW1]
    have := Boxed.new ((w.alloc (.cells #[.slice A0 n0 c0, .slice A1 n1 c1, .slice A2 n2 c2, .slice A3 l.length c3, .slice A4 n4 c4] 29)).alloc (.cells #[.int .i64 a] 3)) 4 (.bool false)
    simpa using this
  have hb1 : Below w.heap.size w W1 := by
    rw [← hW1]; exact below_alloc (below_alloc (below_alloc (Below.refl _ w) _) _) _
  have hs1 : W1.heap.size = w.heap.size + 3 := by rw [← hW1]; simp
  have hC1 := Kd.C_below HA.out hb1
  rw [hW1]
  clear hW1
  refine (callsIn_wide.2 (above_calls 0 A3 c3 l b W1 hC1 (Nat.zero_le _) (fun _ _ => Nat.zero_le _))).mono ?_
  rintro e W2 ⟨B1, B2, rfl, hS, hb12⟩
  have hb2 := hb1.trans (hb12.mono (by omega))
  replace g3 := blk_below g3 hb12
  replace g4 := blk_below g4 hb12
  have hs2 : w.heap.size + 3 ≤ W2.heap.size := by have := hb12.size; omega
  clear hC1 hb1 hb12 hs1
  gi_wp2_with (fail)
  obtain ⟨n0, hn0⟩ : ∃ n, W2.heap.size = n := ⟨_, rfl⟩
  rw [hn0] at hs2
  refine Range.rangeH n0 rfl (by decide) rfl trivial (enters_of Try.func68 (by kernel_rfl) rfl) (by simp)
    (above_stops Fence.wide 9 trivial rfl (by decide) B1 B2 n0 0 A3 c3 l b HL.out W2 (fun W' h => hS.below (h.mono (by omega))) W2 (Below.refl _ _) (by omega)) (by omega) (Below.refl _ _)
    (fun pre W => Below n0 W2 W ∧ a ∉ pre)
    (fun c pre W => Boxed W (w.heap.size + 1 + 1) 4 (.bool true) ∧ (Below w.heap.size w W ∧ (c = .ret ∧ a ∈ pre)))
    (OwnFrom.and (ownFrom_below (by omega) (by omega)) (ownFrom_pure _ _))
    (fun c => OwnFrom.and (Own.from (boxed_own _ _ (fun _ => Value.bool true)) _) (OwnFrom.and (ownFrom_below (by omega) (by omega)) (ownFrom_pure _ _)))
    ⟨Below.refl _ _, by simp⟩ ?body ?done ?stop
  case body =>
    rintro lp pre x W hlp - ⟨hB, hpre⟩ hlt
    simp only [List.setIfInBounds_toArray, List.set_cons_succ, List.set_cons_zero]
    have k3 := Boxed.cell (blk_in hB g3 (by omega))
    have g4W := blk_in hB g4 (by omega)
    have k4 := Boxed.cell g4W
    have f4 := Boxed.frozen g4W
    have HP := Aside0.mk hpre
    clear hpre
    by_cases hx : x = a
    · gi_wp2_with (fail)
      exact ⟨(KeepsOthers.setCell _ _ _).from _, Boxed.set (W := W) (.bool true) g4W, (hb2.trans (hB.mono (by omega))).setCell (p := ⟨w.heap.size + 1 + 1, 0, none⟩) (by simp; omega) _, rfl, by simp [hx]⟩
    · gi_wp2_with (fail)
      refine ⟨KeepsFrom.refl _ _, Below.refl _ _, hB, ?_⟩
      have := HP.out
      simp only [List.mem_append, List.mem_singleton]
      intro h
      rcases h with h | h
      · exact this h
      · exact hx h.symm
  case done =>
    rintro D xs W hD rfl ⟨hB, hpre⟩ hK
    have g4W := blk_in hB g4 (by omega)
    have k4 := Boxed.cell g4W
    have f4 := Boxed.frozen g4W
    have HP := Aside0.mk hpre
    clear hpre
    gi_wp2_with (fail)
    have hx : Boxed (W.setCell ⟨w.heap.size + 1 + 1, 0, none⟩ (.bool false)) (w.heap.size + 1 + 1) 4 (.bool false) := Boxed.set (W := W) (.bool false) g4W
    have hK' : (W.setCell ⟨w.heap.size + 1 + 1, 0, none⟩ (.bool false)).heap[D]? = some (.deferred (some [])) := (Below.heap_setCell W ⟨w.heap.size + 1 + 1, 0, none⟩ (.bool false) D (by simp; omega)).trans hK
    have hx2 : Boxed ((W.setCell ⟨w.heap.size + 1 + 1, 0, none⟩ (.bool false)).putObj D (.deferred none)) (w.heap.size + 1 + 1) 4 (.bool false) := (World.putObj_heap_other (by omega)).trans hx
    refine ⟨by simp, .inl ⟨_, _, rfl, run_takeDeferred hK', ?_⟩⟩
    refine ⟨_, results_cell1 rfl _ _ ⟨w.heap.size + 1 + 1, 0, none⟩ false rfl hx2.cell, ?_, ?_⟩
    · have := HP.out
      simp [this]
    · exact ((hb2.trans (hB.mono (by omega))).setCell (p := ⟨w.heap.size + 1 + 1, 0, none⟩) (by simp; omega) _).trans (belowK_b (w := w) (Nat.le_refl _) _ D _ _ (by omega) hK' rfl rfl)
  case stop =>
    rintro D c pre W hD hpx ⟨hx, hB, rfl, hm⟩ hK
    gi_wp2_with (fail)
    have hx2 : Boxed (W.putObj D (.deferred none)) (w.heap.size + 1 + 1) 4 (.bool true) := (World.putObj_heap_other (by omega)).trans hx
    refine ⟨by simp, .inl ⟨_, _, rfl, run_takeDeferred hK, ?_⟩⟩
    refine ⟨_, results_cell1 rfl _ _ ⟨w.heap.size + 1 + 1, 0, none⟩ true rfl hx2.cell, ?_, ?_⟩
    · rw [decide_eq_true (hpx.subset hm)]
    · exact hB.trans (belowK_b (w := w) (Nat.le_refl _) _ D _ _ (by omega) hK rfl rfl)
end Go.Proofs.Ytmeaepmimnmjlaa.Ask
