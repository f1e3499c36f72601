/- The library's functions by the kit's contracts, laid at this dump. No condition. -/
import Derived.Test.YtobcfldhacdpiaaGreatFwSort
import Derived.Test.YtobcfldhacdpiaaGreatProg
import Derived.KernelRfl
namespace Go.Proofs
open Go.Shelf
def Tryz.lay_sortInt64_ren : Go.Shelf.Ren := ⟨fun | 53 => 87 | 64 => 133 | 63 => 132 | 78 => 179 | 79 => 180 | 70 => 170 | 71 => 171 | 72 => 172 | 73 => 173 | 74 => 174 | 75 => 175 | 59 => 176 | 76 => 177 | 77 => 178 | 88 => 197 | 89 => 198 | 90 => 199 | 91 => 200 | 92 => 201 | 68 => 202 | 96 => 209 | n => n, fun | 22 => 65 | 23 => 2 | 3 => 3 | 51 => 193 | 0 => 0 | 67 => 240 | 69 => 242 | 4 => 4 | 61 => 233 | 60 => 232 | 44 => 237 | 5 => 5 | 9 => 9 | 75 => 255 | 79 => 259 | 83 => 268 | 84 => 269 | n => n, fun | n => n⟩
theorem Tryz.lay_sortInt64 : Go.Proofs.SlLaysN.n53 Tryz.prog Tryz.lay_sortInt64_ren := {
  mixed := by kernel_rfl
  f53 := ⟨Tryz.f87.name, by decide, Tryz.func87.trans (congrArg some (by kernel_rfl))⟩
  f59 := ⟨Tryz.f176.name, by decide, Tryz.func176.trans (congrArg some (by kernel_rfl))⟩
  f63 := ⟨Tryz.f132.name, by decide, Tryz.func132.trans (congrArg some (by kernel_rfl))⟩
  f64 := Tryz.func133.trans (congrArg some (by kernel_rfl))
  f68 := ⟨Tryz.f202.name, by decide, Tryz.func202.trans (congrArg some (by kernel_rfl))⟩
  f70 := ⟨Tryz.f170.name, by decide, Tryz.func170.trans (congrArg some (by kernel_rfl))⟩
  f71 := ⟨Tryz.f171.name, by decide, Tryz.func171.trans (congrArg some (by kernel_rfl))⟩
  f72 := ⟨Tryz.f172.name, by decide, Tryz.func172.trans (congrArg some (by kernel_rfl))⟩
  f73 := ⟨Tryz.f173.name, by decide, Tryz.func173.trans (congrArg some (by kernel_rfl))⟩
  f74 := ⟨Tryz.f174.name, by decide, Tryz.func174.trans (congrArg some (by kernel_rfl))⟩
  f75 := ⟨Tryz.f175.name, by decide, Tryz.func175.trans (congrArg some (by kernel_rfl))⟩
  f76 := ⟨Tryz.f177.name, by decide, Tryz.func177.trans (congrArg some (by kernel_rfl))⟩
  f77 := ⟨Tryz.f178.name, by decide, Tryz.func178.trans (congrArg some (by kernel_rfl))⟩
  f78 := Tryz.func179.trans (congrArg some (by kernel_rfl))
  f79 := Tryz.func180.trans (congrArg some (by kernel_rfl))
  f88 := ⟨Tryz.f197.name, by decide, Tryz.func197.trans (congrArg some (by kernel_rfl))⟩
  f89 := Tryz.func198.trans (congrArg some (by kernel_rfl))
  f90 := Tryz.func199.trans (congrArg some (by kernel_rfl))
  f91 := ⟨Tryz.f200.name, by decide, Tryz.func200.trans (congrArg some (by kernel_rfl))⟩
  f92 := ⟨Tryz.f201.name, by decide, Tryz.func201.trans (congrArg some (by kernel_rfl))⟩
  f96 := ⟨Tryz.f209.name, by decide, Tryz.func209.trans (congrArg some (by kernel_rfl))⟩
  t0 := Tryz.underlying0
  a0 := Tryz.isAgg0
  z0 := Tryz.sizeOf0
  v0 := Tryz.zeroValue0
  t3 := Tryz.underlying3
  a3 := Tryz.isAgg3
  z3 := Tryz.sizeOf3
  v3 := Tryz.zeroValue3
  t4 := Tryz.underlying4
  a4 := Tryz.isAgg4
  z4 := Tryz.sizeOf4
  v4 := Tryz.zeroValue4
  t5 := Tryz.underlying5
  a5 := Tryz.isAgg5
  z5 := Tryz.sizeOf5
  v5 := Tryz.zeroValue5
  t9 := Tryz.underlying9
  a9 := Tryz.isAgg9
  z9 := Tryz.sizeOf9
  v9 := Tryz.zeroValue9
  t22 := Tryz.underlying65
  a22 := Tryz.isAgg65
  z22 := Tryz.sizeOf65
  v22 := Tryz.zeroValue65
  t23 := Tryz.underlying2
  a23 := Tryz.isAgg2
  z23 := Tryz.sizeOf2
  v23 := Tryz.zeroValue2
  t44 := Tryz.underlying237
  a44 := Tryz.isAgg237
  z44 := Tryz.sizeOf237
  v44 := Tryz.zeroValue237
  t51 := Tryz.underlying193
  a51 := Tryz.isAgg193
  z51 := Tryz.sizeOf193
  v51 := Tryz.zeroValue193
  t60 := Tryz.underlying232
  a60 := Tryz.isAgg232
  z60 := Tryz.sizeOf232
  v60 := Tryz.zeroValue232
  t61 := Tryz.underlying233
  a61 := Tryz.isAgg233
  z61 := Tryz.sizeOf233
  v61 := Tryz.zeroValue233
  t67 := Tryz.underlying240
  a67 := Tryz.isAgg240
  z67 := Tryz.sizeOf240
  v67 := Tryz.zeroValue240
  t69 := Tryz.underlying242
  a69 := Tryz.isAgg242
  z69 := Tryz.sizeOf242
  v69 := Tryz.zeroValue242
  t75 := Tryz.underlying255
  a75 := Tryz.isAgg255
  z75 := Tryz.sizeOf255
  v75 := Tryz.zeroValue255
  t79 := Tryz.underlying259
  a79 := Tryz.isAgg259
  z79 := Tryz.sizeOf259
  v79 := Tryz.zeroValue259
  t83 := Tryz.underlying268
  a83 := Tryz.isAgg268
  z83 := Tryz.sizeOf268
  v83 := Tryz.zeroValue268
  t84 := Tryz.underlying269
  a84 := Tryz.isAgg269
  z84 := Tryz.sizeOf269
  v84 := Tryz.zeroValue269 }
end Go.Proofs
namespace Go.Fw.Z
open Go.Fw Go.Proofs
set_option maxRecDepth 4000 in
theorem ok_sortInt64 : FxOK Tryz.prog 87 m_sortInt64 := FxOK.sort Go.Proofs.Tryz.lay_sortInt64 (by kernel_rfl) Tryz.func87 (by kernel_rfl) (by kernel_rfl)
end Go.Fw.Z
