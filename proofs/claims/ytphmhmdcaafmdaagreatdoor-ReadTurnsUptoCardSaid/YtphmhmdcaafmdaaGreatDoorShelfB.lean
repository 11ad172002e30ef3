import Derived.Shelf.SlGeneric
import Derived.Shelf.SlSortCmp.WholeK
import Derived.Shelf.SlSortCmp.NoneTotal
import Derived.Ground.SlsfProg
import Derived.Test.YtphmhmdcaafmdaaGreatDoorProg
namespace Go.Proofs
open Go.Shelf
def Tryz.laysSortNode_ren : Go.Shelf.Ren:=⟨fun | 6 => 30 | 15 => 65 | 14 => 64 | 28 => 128 | 29 => 129 | 20 => 120 | 21 => 121 | 22 => 122 | 23 => 123 | 24 => 124 | 25 => 125 | 26 => 126 | 27 => 127 | 46 => 173 | 47 => 174 | 48 => 175 | 49 => 176 | 50 => 177 | 57 => 217 | n => n,fun | 22 => 23 | 24 => 29 | 25 => 81 | 3 => 3 | 39 => 123 | 0 => 0 | 53 => 197 | 55 => 200 | 4 => 4 | 46 => 207 | 45 => 206 | 50 => 154 | 5 => 5 | 9 => 9 | 66 => 270 | 70 => 274 | 76 => 306 | 77 => 307 | n => n,fun | n => n⟩
theorem Tryz.laysSortNode : Go.Proofs.SlLaysF0.n6 Tryz.prog Tryz.laysSortNode_ren:={
  mixed:=by kernel_rfl
  f6:=⟨Tryz.f30.name,by decide,Tryz.func30.trans (congrArg some (by kernel_rfl))⟩
  f14:=⟨Tryz.f64.name,by decide,Tryz.func64.trans (congrArg some (by kernel_rfl))⟩
  f15:=Tryz.func65.trans (congrArg some (by kernel_rfl))
  f20:=⟨Tryz.f120.name,by decide,Tryz.func120.trans (congrArg some (by kernel_rfl))⟩
  f21:=⟨Tryz.f121.name,by decide,Tryz.func121.trans (congrArg some (by kernel_rfl))⟩
  f22:=⟨Tryz.f122.name,by decide,Tryz.func122.trans (congrArg some (by kernel_rfl))⟩
  f23:=⟨Tryz.f123.name,by decide,Tryz.func123.trans (congrArg some (by kernel_rfl))⟩
  f24:=⟨Tryz.f124.name,by decide,Tryz.func124.trans (congrArg some (by kernel_rfl))⟩
  f25:=⟨Tryz.f125.name,by decide,Tryz.func125.trans (congrArg some (by kernel_rfl))⟩
  f26:=⟨Tryz.f126.name,by decide,Tryz.func126.trans (congrArg some (by kernel_rfl))⟩
  f27:=⟨Tryz.f127.name,by decide,Tryz.func127.trans (congrArg some (by kernel_rfl))⟩
  f28:=Tryz.func128.trans (congrArg some (by kernel_rfl))
  f29:=Tryz.func129.trans (congrArg some (by kernel_rfl))
  f46:=⟨Tryz.f173.name,by decide,Tryz.func173.trans (congrArg some (by kernel_rfl))⟩
  f47:=Tryz.func174.trans (congrArg some (by kernel_rfl))
  f48:=Tryz.func175.trans (congrArg some (by kernel_rfl))
  f49:=⟨Tryz.f176.name,by decide,Tryz.func176.trans (congrArg some (by kernel_rfl))⟩
  f50:=⟨Tryz.f177.name,by decide,Tryz.func177.trans (congrArg some (by kernel_rfl))⟩
  f57:=⟨Tryz.f217.name,by decide,Tryz.func217.trans (congrArg some (by kernel_rfl))⟩
  t0:=Tryz.underlying0
  a0:=Tryz.isAgg0
  z0:=Tryz.sizeOf0
  v0:=Tryz.zeroValue0
  t3:=Tryz.underlying3
  a3:=Tryz.isAgg3
  z3:=Tryz.sizeOf3
  v3:=Tryz.zeroValue3
  t4:=Tryz.underlying4
  a4:=Tryz.isAgg4
  z4:=Tryz.sizeOf4
  v4:=Tryz.zeroValue4
  t5:=Tryz.underlying5
  a5:=Tryz.isAgg5
  z5:=Tryz.sizeOf5
  v5:=Tryz.zeroValue5
  t9:=Tryz.underlying9
  a9:=Tryz.isAgg9
  z9:=Tryz.sizeOf9
  v9:=Tryz.zeroValue9
  t22:=Tryz.underlying23
  a22:=Tryz.isAgg23
  z22:=Tryz.sizeOf23
  v22:=Tryz.zeroValue23
  t25:=Tryz.underlying81
  a25:=Tryz.isAgg81
  z25:=Tryz.sizeOf81
  v25:=Tryz.zeroValue81
  t39:=Tryz.underlying123
  a39:=Tryz.isAgg123
  z39:=Tryz.sizeOf123
  v39:=Tryz.zeroValue123
  t45:=Tryz.underlying206
  a45:=Tryz.isAgg206
  z45:=Tryz.sizeOf206
  v45:=Tryz.zeroValue206
  t46:=Tryz.underlying207
  a46:=Tryz.isAgg207
  z46:=Tryz.sizeOf207
  v46:=Tryz.zeroValue207
  t50:=Tryz.underlying154
  a50:=Tryz.isAgg154
  z50:=Tryz.sizeOf154
  v50:=Tryz.zeroValue154
  t53:=Tryz.underlying197
  a53:=Tryz.isAgg197
  z53:=Tryz.sizeOf197
  v53:=Tryz.zeroValue197
  t55:=Tryz.underlying200
  a55:=Tryz.isAgg200
  z55:=Tryz.sizeOf200
  v55:=Tryz.zeroValue200
  t66:=Tryz.underlying270
  a66:=Tryz.isAgg270
  z66:=Tryz.sizeOf270
  v66:=Tryz.zeroValue270
  t70:=Tryz.underlying274
  a70:=Tryz.isAgg274
  z70:=Tryz.sizeOf274
  v70:=Tryz.zeroValue274
  t76:=Tryz.underlying306
  a76:=Tryz.isAgg306
  z76:=Tryz.sizeOf306
  v76:=Tryz.zeroValue306
  t77:=Tryz.underlying307
  a77:=Tryz.isAgg307
  z77:=Tryz.sizeOf307
  v77:=Tryz.zeroValue307 }
end Go.Proofs
