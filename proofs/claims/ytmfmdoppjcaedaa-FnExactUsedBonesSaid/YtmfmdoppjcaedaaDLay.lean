/- The library's functions by the kit's contracts, laid at this dump. No condition. -/
import Derived.Test.YtmfmdoppjcaedaaFwSort
import Derived.Test.YtmfmdoppjcaedaaProg
import Derived.KernelRfl
namespace Go.Proofs
open Go.Shelf
def Try.lay_sortInt64_ren : Go.Shelf.Ren := ⟨fun | 53 => 41 | 64 => 73 | 63 => 72 | 78 => 102 | 79 => 103 | 70 => 93 | 71 => 94 | 72 => 95 | 73 => 96 | 74 => 97 | 75 => 98 | 59 => 99 | 76 => 100 | 77 => 101 | 88 => 112 | 89 => 113 | 90 => 114 | 91 => 115 | 92 => 116 | 68 => 117 | 96 => 120 | n => n, fun | 22 => 39 | 23 => 2 | 3 => 3 | 51 => 122 | 0 => 0 | 67 => 150 | 69 => 152 | 4 => 4 | 61 => 142 | 60 => 141 | 44 => 147 | 5 => 5 | 9 => 9 | 75 => 159 | 79 => 163 | 83 => 165 | 84 => 166 | n => n, fun | n => n⟩
theorem Try.lay_sortInt64 : Go.Proofs.SlLaysN.n53 Try.prog Try.lay_sortInt64_ren := {
  mixed := by kernel_rfl
  f53 := ⟨Try.f41.name, by decide, Try.func41.trans (congrArg some (by kernel_rfl))⟩
  f59 := ⟨Try.f99.name, by decide, Try.func99.trans (congrArg some (by kernel_rfl))⟩
  f63 := ⟨Try.f72.name, by decide, Try.func72.trans (congrArg some (by kernel_rfl))⟩
  f64 := Try.func73.trans (congrArg some (by kernel_rfl))
  f68 := ⟨Try.f117.name, by decide, Try.func117.trans (congrArg some (by kernel_rfl))⟩
  f70 := ⟨Try.f93.name, by decide, Try.func93.trans (congrArg some (by kernel_rfl))⟩
  f71 := ⟨Try.f94.name, by decide, Try.func94.trans (congrArg some (by kernel_rfl))⟩
  f72 := ⟨Try.f95.name, by decide, Try.func95.trans (congrArg some (by kernel_rfl))⟩
  f73 := ⟨Try.f96.name, by decide, Try.func96.trans (congrArg some (by kernel_rfl))⟩
  f74 := ⟨Try.f97.name, by decide, Try.func97.trans (congrArg some (by kernel_rfl))⟩
  f75 := ⟨Try.f98.name, by decide, Try.func98.trans (congrArg some (by kernel_rfl))⟩
  f76 := ⟨Try.f100.name, by decide, Try.func100.trans (congrArg some (by kernel_rfl))⟩
  f77 := ⟨Try.f101.name, by decide, Try.func101.trans (congrArg some (by kernel_rfl))⟩
  f78 := Try.func102.trans (congrArg some (by kernel_rfl))
  f79 := Try.func103.trans (congrArg some (by kernel_rfl))
  f88 := ⟨Try.f112.name, by decide, Try.func112.trans (congrArg some (by kernel_rfl))⟩
  f89 := Try.func113.trans (congrArg some (by kernel_rfl))
  f90 := Try.func114.trans (congrArg some (by kernel_rfl))
  f91 := ⟨Try.f115.name, by decide, Try.func115.trans (congrArg some (by kernel_rfl))⟩
  f92 := ⟨Try.f116.name, by decide, Try.func116.trans (congrArg some (by kernel_rfl))⟩
  f96 := ⟨Try.f120.name, by decide, Try.func120.trans (congrArg some (by kernel_rfl))⟩
  t0 := Try.underlying0
  a0 := Try.isAgg0
  z0 := Try.sizeOf0
  v0 := Try.zeroValue0
  t3 := Try.underlying3
  a3 := Try.isAgg3
  z3 := Try.sizeOf3
  v3 := Try.zeroValue3
  t4 := Try.underlying4
  a4 := Try.isAgg4
  z4 := Try.sizeOf4
  v4 := Try.zeroValue4
  t5 := Try.underlying5
  a5 := Try.isAgg5
  z5 := Try.sizeOf5
  v5 := Try.zeroValue5
  t9 := Try.underlying9
  a9 := Try.isAgg9
  z9 := Try.sizeOf9
  v9 := Try.zeroValue9
  t22 := Try.underlying39
  a22 := Try.isAgg39
  z22 := Try.sizeOf39
  v22 := Try.zeroValue39
  t23 := Try.underlying2
  a23 := Try.isAgg2
  z23 := Try.sizeOf2
  v23 := Try.zeroValue2
  t44 := Try.underlying147
  a44 := Try.isAgg147
  z44 := Try.sizeOf147
  v44 := Try.zeroValue147
  t51 := Try.underlying122
  a51 := Try.isAgg122
  z51 := Try.sizeOf122
  v51 := Try.zeroValue122
  t60 := Try.underlying141
  a60 := Try.isAgg141
  z60 := Try.sizeOf141
  v60 := Try.zeroValue141
  t61 := Try.underlying142
  a61 := Try.isAgg142
  z61 := Try.sizeOf142
  v61 := Try.zeroValue142
  t67 := Try.underlying150
  a67 := Try.isAgg150
  z67 := Try.sizeOf150
  v67 := Try.zeroValue150
  t69 := Try.underlying152
  a69 := Try.isAgg152
  z69 := Try.sizeOf152
  v69 := Try.zeroValue152
  t75 := Try.underlying159
  a75 := Try.isAgg159
  z75 := Try.sizeOf159
  v75 := Try.zeroValue159
  t79 := Try.underlying163
  a79 := Try.isAgg163
  z79 := Try.sizeOf163
  v79 := Try.zeroValue163
  t83 := Try.underlying165
  a83 := Try.isAgg165
  z83 := Try.sizeOf165
  v83 := Try.zeroValue165
  t84 := Try.underlying166
  a84 := Try.isAgg166
  z84 := Try.sizeOf166
  v84 := Try.zeroValue166 }
def Try.lay_compactInt64_ren : Go.Shelf.Ren := ⟨fun | 43 => 42 | n => n, fun | 22 => 39 | 23 => 2 | 3 => 3 | 4 => 4 | 0 => 0 | n => n, fun | n => n⟩
theorem Try.lay_compactInt64 : Go.Proofs.SlLaysN.n43 Try.prog Try.lay_compactInt64_ren := {
  mixed := by kernel_rfl
  f43 := ⟨Try.f42.name, by decide, Try.func42.trans (congrArg some (by kernel_rfl))⟩
  t0 := Try.underlying0
  a0 := Try.isAgg0
  z0 := Try.sizeOf0
  v0 := Try.zeroValue0
  t3 := Try.underlying3
  a3 := Try.isAgg3
  z3 := Try.sizeOf3
  v3 := Try.zeroValue3
  t4 := Try.underlying4
  a4 := Try.isAgg4
  z4 := Try.sizeOf4
  v4 := Try.zeroValue4
  t22 := Try.underlying39
  a22 := Try.isAgg39
  z22 := Try.sizeOf39
  v22 := Try.zeroValue39
  t23 := Try.underlying2
  a23 := Try.isAgg2
  z23 := Try.sizeOf2
  v23 := Try.zeroValue2
  i23 := by kernel_rfl }
end Go.Proofs
namespace Go.Fw.D
open Go.Fw Go.Proofs
set_option maxRecDepth 4000 in
theorem ok_sortInt64 : FxOK Try.prog 41 m_sortInt64 := FxOK.sort Go.Proofs.Try.lay_sortInt64 (by kernel_rfl) Try.func41 (by kernel_rfl) (by kernel_rfl)
set_option maxRecDepth 4000 in
theorem ok_compactInt64 : FxOK Try.prog 42 m_compactInt64 := FxOK.compact Go.Proofs.Try.lay_compactInt64 (by kernel_rfl) Try.func42 (by kernel_rfl) (by kernel_rfl)
end Go.Fw.D
