/- The shelf's contracts at this seat's dump, in plain words (laid by the kit's tools). -/
import Derived.Test.YtncmnmbapalonaaGreatRows
import Derived.WalkKit
import Derived.ProofKit
import Derived.OpenShut
import Derived.BigQuiet
import Derived.Lib.Hide
import Derived.Deep.QuietTactic
import Derived.Outline
import Derived.Shelf.Small.Bits
import Derived.Shelf.Strconv.Itoa0
import Derived.Shelf.Sort.Plain
import Derived.Shelf.GgSortFunc.Tiny
namespace Go.Proofs.YtncmnmbapalonaaGreat
open Go.ChangeShapes Go.WideShapes Go.ChangeAt Go.RowKit
open Go.Shelf
set_option linter.unusedVariables false
def laid_laysGg6_ren : Go.Shelf.Ren := ⟨fun | 6 => 93 | 10 => 106 | 11 => 107 | 12 => 108 | 13 => 92 | 14 => 109 | 24 => 104 | 25 => 105 | 26 => 125 | 27 => 126 | 28 => 127 | 29 => 128 | 30 => 129 | 31 => 130 | 32 => 131 | 33 => 132 | 34 => 134 | 35 => 135 | 36 => 136 | 37 => 137 | 38 => 138 | 39 => 139 | n => n, fun | 20 => 20 | 26 => 80 | 35 => 104 | 0 => 0 | 37 => 106 | 3 => 3 | 41 => 87 | 44 => 110 | 49 => 98 | 51 => 100 | 4 => 4 | 54 => 122 | 53 => 121 | 58 => 57 | 5 => 5 | 9 => 9 | 60 => 130 | 64 => 115 | 66 => 133 | 67 => 128 | 17 => 17 | 32 => 101 | 33 => 102 | 82 => 148 | 12 => 12 | 75 => 141 | 76 => 142 | 77 => 143 | 78 => 144 | 79 => 145 | 80 => 146 | n => n, fun | n => n⟩
theorem laid_laysGg6 : Go.Proofs.LaysGg.n6 Tryz.prog laid_laysGg6_ren := {
  mixed := by kernel_rfl
  f6 := Tryz.func93.trans (congrArg some (by kernel_rfl))
  f10 := Tryz.func106.trans (congrArg some (by kernel_rfl))
  f11 := Tryz.func107.trans (congrArg some (by kernel_rfl))
  f12 := Tryz.func108.trans (congrArg some (by kernel_rfl))
  f13 := Tryz.func92.trans (congrArg some (by kernel_rfl))
  f14 := Tryz.func109.trans (congrArg some (by kernel_rfl))
  f24 := Tryz.func104.trans (congrArg some (by kernel_rfl))
  f25 := Tryz.func105.trans (congrArg some (by kernel_rfl))
  f26 := Tryz.func125.trans (congrArg some (by kernel_rfl))
  f27 := Tryz.func126.trans (congrArg some (by kernel_rfl))
  f28 := Tryz.func127.trans (congrArg some (by kernel_rfl))
  f29 := Tryz.func128.trans (congrArg some (by kernel_rfl))
  f30 := Tryz.func129.trans (congrArg some (by kernel_rfl))
  f31 := Tryz.func130.trans (congrArg some (by kernel_rfl))
  f32 := Tryz.func131.trans (congrArg some (by kernel_rfl))
  f33 := Tryz.func132.trans (congrArg some (by kernel_rfl))
  f34 := Tryz.func134.trans (congrArg some (by kernel_rfl))
  f35 := Tryz.func135.trans (congrArg some (by kernel_rfl))
  f36 := Tryz.func136.trans (congrArg some (by kernel_rfl))
  f37 := Tryz.func137.trans (congrArg some (by kernel_rfl))
  f38 := Tryz.func138.trans (congrArg some (by kernel_rfl))
  f39 := Tryz.func139.trans (congrArg some (by kernel_rfl))
  t0 := Tryz.underlying0
  a0 := Tryz.isAgg0
  z0 := Tryz.sizeOf0
  v0 := Tryz.zeroValue0
  i0 := by kernel_rfl
  t3 := Tryz.underlying3
  a3 := Tryz.isAgg3
  z3 := Tryz.sizeOf3
  v3 := Tryz.zeroValue3
  i3 := by kernel_rfl
  t4 := Tryz.underlying4
  a4 := Tryz.isAgg4
  z4 := Tryz.sizeOf4
  v4 := Tryz.zeroValue4
  i4 := by kernel_rfl
  t5 := Tryz.underlying5
  a5 := Tryz.isAgg5
  z5 := Tryz.sizeOf5
  v5 := Tryz.zeroValue5
  i5 := by kernel_rfl
  t9 := Tryz.underlying9
  a9 := Tryz.isAgg9
  z9 := Tryz.sizeOf9
  v9 := Tryz.zeroValue9
  i9 := by kernel_rfl
  t12 := Tryz.underlying12
  a12 := Tryz.isAgg12
  z12 := Tryz.sizeOf12
  v12 := Tryz.zeroValue12
  i12 := by kernel_rfl
  t17 := Tryz.underlying17
  a17 := Tryz.isAgg17
  z17 := Tryz.sizeOf17
  v17 := Tryz.zeroValue17
  i17 := by kernel_rfl
  t20 := Tryz.underlying20
  a20 := Tryz.isAgg20
  z20 := Tryz.sizeOf20
  v20 := Tryz.zeroValue20
  i20 := by kernel_rfl
  t26 := Tryz.underlying80
  a26 := Tryz.isAgg80
  z26 := Tryz.sizeOf80
  v26 := Tryz.zeroValue80
  i26 := by kernel_rfl
  t32 := Tryz.underlying101
  a32 := Tryz.isAgg101
  z32 := Tryz.sizeOf101
  v32 := Tryz.zeroValue101
  i32 := by kernel_rfl
  t33 := Tryz.underlying102
  a33 := Tryz.isAgg102
  z33 := Tryz.sizeOf102
  v33 := Tryz.zeroValue102
  i33 := by kernel_rfl
  t35 := Tryz.underlying104
  a35 := Tryz.isAgg104
  z35 := Tryz.sizeOf104
  v35 := Tryz.zeroValue104
  i35 := by kernel_rfl
  t37 := Tryz.underlying106
  a37 := Tryz.isAgg106
  z37 := Tryz.sizeOf106
  v37 := Tryz.zeroValue106
  i37 := by kernel_rfl
  t41 := Tryz.underlying87
  a41 := Tryz.isAgg87
  z41 := Tryz.sizeOf87
  v41 := Tryz.zeroValue87
  i41 := by kernel_rfl
  t44 := Tryz.underlying110
  a44 := Tryz.isAgg110
  z44 := Tryz.sizeOf110
  v44 := Tryz.zeroValue110
  i44 := by kernel_rfl
  t49 := Tryz.underlying98
  a49 := Tryz.isAgg98
  z49 := Tryz.sizeOf98
  v49 := Tryz.zeroValue98
  i49 := by kernel_rfl
  t51 := Tryz.underlying100
  a51 := Tryz.isAgg100
  z51 := Tryz.sizeOf100
  v51 := Tryz.zeroValue100
  i51 := by kernel_rfl
  t53 := Tryz.underlying121
  a53 := Tryz.isAgg121
  z53 := Tryz.sizeOf121
  v53 := Tryz.zeroValue121
  i53 := by kernel_rfl
  t54 := Tryz.underlying122
  a54 := Tryz.isAgg122
  z54 := Tryz.sizeOf122
  v54 := Tryz.zeroValue122
  i54 := by kernel_rfl
  t58 := Tryz.underlying57
  a58 := Tryz.isAgg57
  z58 := Tryz.sizeOf57
  v58 := Tryz.zeroValue57
  i58 := by kernel_rfl
  t60 := Tryz.underlying130
  a60 := Tryz.isAgg130
  z60 := Tryz.sizeOf130
  v60 := Tryz.zeroValue130
  i60 := by kernel_rfl
  t64 := Tryz.underlying115
  a64 := Tryz.isAgg115
  z64 := Tryz.sizeOf115
  v64 := Tryz.zeroValue115
  i64 := by kernel_rfl
  t66 := Tryz.underlying133
  a66 := Tryz.isAgg133
  z66 := Tryz.sizeOf133
  v66 := Tryz.zeroValue133
  i66 := by kernel_rfl
  t67 := Tryz.underlying128
  a67 := Tryz.isAgg128
  z67 := Tryz.sizeOf128
  v67 := Tryz.zeroValue128
  i67 := by kernel_rfl
  t75 := Tryz.underlying141
  a75 := Tryz.isAgg141
  z75 := Tryz.sizeOf141
  v75 := Tryz.zeroValue141
  i75 := by kernel_rfl
  t76 := Tryz.underlying142
  a76 := Tryz.isAgg142
  z76 := Tryz.sizeOf142
  v76 := Tryz.zeroValue142
  i76 := by kernel_rfl
  t77 := Tryz.underlying143
  a77 := Tryz.isAgg143
  z77 := Tryz.sizeOf143
  v77 := Tryz.zeroValue143
  i77 := by kernel_rfl
  t78 := Tryz.underlying144
  a78 := Tryz.isAgg144
  z78 := Tryz.sizeOf144
  v78 := Tryz.zeroValue144
  i78 := by kernel_rfl
  t79 := Tryz.underlying145
  a79 := Tryz.isAgg145
  z79 := Tryz.sizeOf145
  v79 := Tryz.zeroValue145
  i79 := by kernel_rfl
  t80 := Tryz.underlying146
  a80 := Tryz.isAgg146
  z80 := Tryz.sizeOf146
  v80 := Tryz.zeroValue146
  i80 := by kernel_rfl
  t82 := Tryz.underlying148
  a82 := Tryz.isAgg148
  z82 := Tryz.sizeOf148
  v82 := Tryz.zeroValue148
  i82 := by kernel_rfl }
end Go.Proofs.YtncmnmbapalonaaGreat
