/-
  DERIVED: THE SHELF's CONTRACTS AT THIS DUMP, IN PLAIN WORDS (tools/lay-plain.mjs out of 'TryShelf.lean', which tools/lay-shelf.mjs wrote): THE SAME DECLARATIONS UNDER THE SAME NAMES: 'import', 'namespace', 'open', 'def', 'theorem' AND NOTHING ELSE: no command of the shelf's: FOR A HAND-IN. Each laying: the table of numbers ('.._ren') and one theorem, a field a fact of the dump's own or the kernel's comparison; each contract: ONE APPLICATION.
-/
import Derived.Ground.SlgmProg
import Derived.Shelf.SortM.Plain
import Derived.Shelf.SortM.SortNone
import Derived.Test.YtadfjndjmfnmgaaProg
namespace Go.Proofs
open Go.Shelf
def Try.laysSlM5_f176_ren : Go.Shelf.Ren := ⟨fun | 5 => 176 | 8 => 203 | 7 => 202 | 19 => 218 | 20 => 219 | 10 => 210 | 11 => 211 | 12 => 212 | 13 => 213 | 14 => 214 | 15 => 215 | 16 => 178 | 17 => 216 | 18 => 217 | 30 => 221 | 31 => 222 | 32 => 223 | 33 => 224 | 34 => 225 | 35 => 200 | 40 => 227 | n => n, fun | 23 => 26 | 25 => 2 | 3 => 3 | 32 => 174 | 22 => 26 | 0 => 0 | 44 => 208 | 46 => 188 | 4 => 4 | 36 => 202 | 35 => 201 | 41 => 128 | 5 => 5 | 9 => 9 | 53 => 210 | 57 => 214 | 63 => 216 | 64 => 217 | n => n, fun | n => n⟩
theorem Try.laysSlM5_f176 : Go.Proofs.SlLaysM.n5 Try.prog Try.laysSlM5_f176_ren := {
  mixed := by kernel_rfl
  f5 := ⟨Try.f176.name, by decide, Try.func176.trans (congrArg some (by kernel_rfl))⟩
  f7 := ⟨Try.f202.name, by decide, Try.func202.trans (congrArg some (by kernel_rfl))⟩
  f8 := Try.func203.trans (congrArg some (by kernel_rfl))
  f10 := ⟨Try.f210.name, by decide, Try.func210.trans (congrArg some (by kernel_rfl))⟩
  f11 := ⟨Try.f211.name, by decide, Try.func211.trans (congrArg some (by kernel_rfl))⟩
  f12 := ⟨Try.f212.name, by decide, Try.func212.trans (congrArg some (by kernel_rfl))⟩
  f13 := ⟨Try.f213.name, by decide, Try.func213.trans (congrArg some (by kernel_rfl))⟩
  f14 := ⟨Try.f214.name, by decide, Try.func214.trans (congrArg some (by kernel_rfl))⟩
  f15 := ⟨Try.f215.name, by decide, Try.func215.trans (congrArg some (by kernel_rfl))⟩
  f16 := ⟨Try.f178.name, by decide, Try.func178.trans (congrArg some (by kernel_rfl))⟩
  f17 := ⟨Try.f216.name, by decide, Try.func216.trans (congrArg some (by kernel_rfl))⟩
  f18 := ⟨Try.f217.name, by decide, Try.func217.trans (congrArg some (by kernel_rfl))⟩
  f19 := Try.func218.trans (congrArg some (by kernel_rfl))
  f20 := Try.func219.trans (congrArg some (by kernel_rfl))
  f30 := ⟨Try.f221.name, by decide, Try.func221.trans (congrArg some (by kernel_rfl))⟩
  f31 := Try.func222.trans (congrArg some (by kernel_rfl))
  f32 := Try.func223.trans (congrArg some (by kernel_rfl))
  f33 := ⟨Try.f224.name, by decide, Try.func224.trans (congrArg some (by kernel_rfl))⟩
  f34 := ⟨Try.f225.name, by decide, Try.func225.trans (congrArg some (by kernel_rfl))⟩
  f35 := ⟨Try.f200.name, by decide, Try.func200.trans (congrArg some (by kernel_rfl))⟩
  f40 := ⟨Try.f227.name, by decide, Try.func227.trans (congrArg some (by kernel_rfl))⟩
  t0 := Try.underlying0
  a0 := Try.isAgg0
  z0 := Try.sizeOf0
  v0 := Try.zeroValue0
  t3 := Try.underlying3
  a3 := Try.isAgg3
  z3 := Try.sizeOf3
  v3 := Try.zeroValue3
  t4 := Try.underlying4
  a4 := Try.isAgg4
  z4 := Try.sizeOf4
  v4 := Try.zeroValue4
  t5 := Try.underlying5
  a5 := Try.isAgg5
  z5 := Try.sizeOf5
  v5 := Try.zeroValue5
  t9 := Try.underlying9
  a9 := Try.isAgg9
  z9 := Try.sizeOf9
  v9 := Try.zeroValue9
  t22 := Try.underlying26
  a22 := Try.isAgg26
  z22 := Try.sizeOf26
  v22 := Try.zeroValue26
  t23 := Try.underlying26
  a23 := Try.isAgg26
  z23 := Try.sizeOf26
  v23 := Try.zeroValue26
  t25 := Try.underlying2
  a25 := Try.isAgg2
  z25 := Try.sizeOf2
  v25 := Try.zeroValue2
  t32 := Try.underlying174
  a32 := Try.isAgg174
  z32 := Try.sizeOf174
  v32 := Try.zeroValue174
  t35 := Try.underlying201
  a35 := Try.isAgg201
  z35 := Try.sizeOf201
  v35 := Try.zeroValue201
  t36 := Try.underlying202
  a36 := Try.isAgg202
  z36 := Try.sizeOf202
  v36 := Try.zeroValue202
  t41 := Try.underlying128
  a41 := Try.isAgg128
  z41 := Try.sizeOf128
  v41 := Try.zeroValue128
  t44 := Try.underlying208
  a44 := Try.isAgg208
  z44 := Try.sizeOf208
  v44 := Try.zeroValue208
  t46 := Try.underlying188
  a46 := Try.isAgg188
  z46 := Try.sizeOf188
  v46 := Try.zeroValue188
  t53 := Try.underlying210
  a53 := Try.isAgg210
  z53 := Try.sizeOf210
  v53 := Try.zeroValue210
  t57 := Try.underlying214
  a57 := Try.isAgg214
  z57 := Try.sizeOf214
  v57 := Try.zeroValue214
  t63 := Try.underlying216
  a63 := Try.isAgg216
  z63 := Try.sizeOf216
  v63 := Try.zeroValue216
  t64 := Try.underlying217
  a64 := Try.isAgg217
  z64 := Try.sizeOf217
  v64 := Try.zeroValue217 }
open Go.Sort Go.RowKit in
theorem Try.slices_Sort_int (blk off cap : Nat) (zs : List Int) (w : World) (hH : Holds (Value.int .i64) w blk off zs.toArray) (hblk : blk < w.heap.size) (hsz : zs.length < 4611686018427387904) :
    Calls Try.prog 176 #[.slice (some ⟨blk, off, none⟩) zs.length cap] w fun e w' =>
      e = .returned (.tuple #[]) ∧ ∃ n os, w' = grow (putRow (Value.int .i64) (Sort.ahead w n) blk off (zs.mergeSort fun x y => decide (x ≤ y)).toArray) os := AnyM.slices_Sort_int Try.laysSlM5_f176 blk off cap zs w hH hblk hsz
open Go.RowKit Go.Sort in
/-- .. and plain. (LAID AT THE INSTANCE 'slices.Sort[[]int64,int64]': no walk: one application.) -/
theorem Try.slices_Sort_int_none (p : Option Addr) (cap : Nat) (w : World) :
    Calls Try.prog 176 #[.slice p 0 cap] w fun e w' => e = .returned (.tuple #[]) ∧ w' = w := AnyM.slices_Sort_int_none Try.laysSlM5_f176 p cap w
end Go.Proofs
