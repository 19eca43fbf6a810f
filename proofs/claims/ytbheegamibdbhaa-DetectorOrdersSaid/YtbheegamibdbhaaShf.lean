/-
  DERIVED: THE SHELF's CONTRACTS AT THIS DUMP, IN PLAIN WORDS (tools/lay-plain.mjs out of 'TryCut.lean', which tools/lay-shelf.mjs wrote): THE SAME DECLARATIONS UNDER THE SAME NAMES: 'import', 'namespace', 'open', 'def', 'theorem' AND NOTHING ELSE: no command of the shelf's: FOR A HAND-IN. Each laying: the table of numbers ('.._ren') and one theorem, a field a fact of the dump's own or the kernel's comparison; each contract: ONE APPLICATION.
-/
import Derived.Ground.GgsProg
import Derived.Shelf.GgSortFunc.Insertion
import Derived.Shelf.GgSortFunc.Tiny
import Derived.Shelf.GgSortFunc.Compose
import Derived.Ground.GgtProg
import Derived.Shelf.GgSortMore.Stable
import Derived.Test.YtbheegamibdbhaaProg
namespace Go.Proofs
open Go.Shelf
def Try.laysGt8_ren : Go.Shelf.Ren := ⟨fun | 8 => 31 | 13 => 40 | 14 => 41 | 16 => 43 | 15 => 42 | 29 => 57 | 30 => 58 | 42 => 59 | 49 => 60 | n => n, fun | 20 => 20 | 26 => 63 | 36 => 79 | 0 => 0 | 38 => 81 | 42 => 85 | 3 => 3 | 4 => 4 | 47 => 96 | 17 => 17 | 33 => 76 | 34 => 77 | 89 => 111 | 12 => 12 | 56 => 103 | 82 => 104 | 5 => 5 | 83 => 105 | 84 => 106 | 85 => 107 | 86 => 108 | 87 => 109 | n => n, fun | n => n⟩
theorem Try.laysGt8 : Go.Proofs.LaysGt.n8 Try.prog Try.laysGt8_ren := {
  mixed := by kernel_rfl
  f8 := Try.func31.trans (congrArg some (by kernel_rfl))
  f13 := Try.func40.trans (congrArg some (by kernel_rfl))
  f14 := Try.func41.trans (congrArg some (by kernel_rfl))
  f15 := Try.func42.trans (congrArg some (by kernel_rfl))
  f16 := Try.func43.trans (congrArg some (by kernel_rfl))
  f29 := Try.func57.trans (congrArg some (by kernel_rfl))
  f30 := Try.func58.trans (congrArg some (by kernel_rfl))
  f42 := Try.func59.trans (congrArg some (by kernel_rfl))
  f49 := Try.func60.trans (congrArg some (by kernel_rfl))
  t0 := Try.underlying0
  a0 := Try.isAgg0
  z0 := Try.sizeOf0
  v0 := Try.zeroValue0
  i0 := by kernel_rfl
  t3 := Try.underlying3
  a3 := Try.isAgg3
  z3 := Try.sizeOf3
  v3 := Try.zeroValue3
  i3 := by kernel_rfl
  t4 := Try.underlying4
  a4 := Try.isAgg4
  z4 := Try.sizeOf4
  v4 := Try.zeroValue4
  i4 := by kernel_rfl
  t5 := Try.underlying5
  a5 := Try.isAgg5
  z5 := Try.sizeOf5
  v5 := Try.zeroValue5
  i5 := by kernel_rfl
  t12 := Try.underlying12
  a12 := Try.isAgg12
  z12 := Try.sizeOf12
  v12 := Try.zeroValue12
  i12 := by kernel_rfl
  t17 := Try.underlying17
  a17 := Try.isAgg17
  z17 := Try.sizeOf17
  v17 := Try.zeroValue17
  i17 := by kernel_rfl
  t20 := Try.underlying20
  a20 := Try.isAgg20
  z20 := Try.sizeOf20
  v20 := Try.zeroValue20
  i20 := by kernel_rfl
  t26 := Try.underlying63
  a26 := Try.isAgg63
  z26 := Try.sizeOf63
  v26 := Try.zeroValue63
  i26 := by kernel_rfl
  t33 := Try.underlying76
  a33 := Try.isAgg76
  z33 := Try.sizeOf76
  v33 := Try.zeroValue76
  i33 := by kernel_rfl
  t34 := Try.underlying77
  a34 := Try.isAgg77
  z34 := Try.sizeOf77
  v34 := Try.zeroValue77
  i34 := by kernel_rfl
  t36 := Try.underlying79
  a36 := Try.isAgg79
  z36 := Try.sizeOf79
  v36 := Try.zeroValue79
  i36 := by kernel_rfl
  t38 := Try.underlying81
  a38 := Try.isAgg81
  z38 := Try.sizeOf81
  v38 := Try.zeroValue81
  i38 := by kernel_rfl
  t42 := Try.underlying85
  a42 := Try.isAgg85
  z42 := Try.sizeOf85
  v42 := Try.zeroValue85
  i42 := by kernel_rfl
  t47 := Try.underlying96
  a47 := Try.isAgg96
  z47 := Try.sizeOf96
  v47 := Try.zeroValue96
  i47 := by kernel_rfl
  t56 := Try.underlying103
  a56 := Try.isAgg103
  z56 := Try.sizeOf103
  v56 := Try.zeroValue103
  i56 := by kernel_rfl
  t82 := Try.underlying104
  a82 := Try.isAgg104
  z82 := Try.sizeOf104
  v82 := Try.zeroValue104
  i82 := by kernel_rfl
  t83 := Try.underlying105
  a83 := Try.isAgg105
  z83 := Try.sizeOf105
  v83 := Try.zeroValue105
  i83 := by kernel_rfl
  t84 := Try.underlying106
  a84 := Try.isAgg106
  z84 := Try.sizeOf106
  v84 := Try.zeroValue106
  i84 := by kernel_rfl
  t85 := Try.underlying107
  a85 := Try.isAgg107
  z85 := Try.sizeOf107
  v85 := Try.zeroValue107
  i85 := by kernel_rfl
  t86 := Try.underlying108
  a86 := Try.isAgg108
  z86 := Try.sizeOf108
  v86 := Try.zeroValue108
  i86 := by kernel_rfl
  t87 := Try.underlying109
  a87 := Try.isAgg109
  z87 := Try.sizeOf109
  v87 := Try.zeroValue109
  i87 := by kernel_rfl
  t89 := Try.underlying111
  a89 := Try.isAgg111
  z89 := Try.sizeOf111
  v89 := Try.zeroValue111
  i89 := by kernel_rfl }
end Go.Proofs
