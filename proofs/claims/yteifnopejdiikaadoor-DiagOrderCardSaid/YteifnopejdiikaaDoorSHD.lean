/-
  Contracts of the library's, laid at this seat's program by the kit's tool. No conditions.
-/
import Derived.Shelf.SlLaysF0
import Derived.Shelf.SlLaysC2
import Derived.Test.YteifnopejdiikaaDoorProg
namespace Go.Proofs
open Go.Shelf
def Tryd.sortD_ren:Go.Shelf.Ren:=⟨fun|6=>21|15=>33|14=>32|28=>53|29=>54|20=>45|21=>46|22=>47|23=>48|24=>49|25=>50|26=>51|27=>52|46=>63|47=>64|48=>65|49=>66|50=>67|57=>73|n=>n,fun|22=>44|24=>45|25=>47|3=>3|39=>71|0=>0|53=>98|55=>100|4=>4|46=>91|45=>90|50=>95|5=>5|9=>9|66=>120|70=>124|76=>130|77=>131|n=>n,fun|n=>n⟩
theorem Tryd.sortD:Go.Proofs.SlLaysF0.n6 Tryd.prog Tryd.sortD_ren:={
 mixed:=by kernel_rfl
 f6:=⟨Tryd.f21.name,by decide,Tryd.func21.trans (congrArg some (by kernel_rfl))⟩
 f14:=⟨Tryd.f32.name,by decide,Tryd.func32.trans (congrArg some (by kernel_rfl))⟩
 f15:=Tryd.func33.trans (congrArg some (by kernel_rfl))
 f20:=⟨Tryd.f45.name,by decide,Tryd.func45.trans (congrArg some (by kernel_rfl))⟩
 f21:=⟨Tryd.f46.name,by decide,Tryd.func46.trans (congrArg some (by kernel_rfl))⟩
 f22:=⟨Tryd.f47.name,by decide,Tryd.func47.trans (congrArg some (by kernel_rfl))⟩
 f23:=⟨Tryd.f48.name,by decide,Tryd.func48.trans (congrArg some (by kernel_rfl))⟩
 f24:=⟨Tryd.f49.name,by decide,Tryd.func49.trans (congrArg some (by kernel_rfl))⟩
 f25:=⟨Tryd.f50.name,by decide,Tryd.func50.trans (congrArg some (by kernel_rfl))⟩
 f26:=⟨Tryd.f51.name,by decide,Tryd.func51.trans (congrArg some (by kernel_rfl))⟩
 f27:=⟨Tryd.f52.name,by decide,Tryd.func52.trans (congrArg some (by kernel_rfl))⟩
 f28:=Tryd.func53.trans (congrArg some (by kernel_rfl))
 f29:=Tryd.func54.trans (congrArg some (by kernel_rfl))
 f46:=⟨Tryd.f63.name,by decide,Tryd.func63.trans (congrArg some (by kernel_rfl))⟩
 f47:=Tryd.func64.trans (congrArg some (by kernel_rfl))
 f48:=Tryd.func65.trans (congrArg some (by kernel_rfl))
 f49:=⟨Tryd.f66.name,by decide,Tryd.func66.trans (congrArg some (by kernel_rfl))⟩
 f50:=⟨Tryd.f67.name,by decide,Tryd.func67.trans (congrArg some (by kernel_rfl))⟩
 f57:=⟨Tryd.f73.name,by decide,Tryd.func73.trans (congrArg some (by kernel_rfl))⟩
 t0:=Tryd.underlying0
 a0:=Tryd.isAgg0
 z0:=Tryd.sizeOf0
 v0:=Tryd.zeroValue0
 t3:=Tryd.underlying3
 a3:=Tryd.isAgg3
 z3:=Tryd.sizeOf3
 v3:=Tryd.zeroValue3
 t4:=Tryd.underlying4
 a4:=Tryd.isAgg4
 z4:=Tryd.sizeOf4
 v4:=Tryd.zeroValue4
 t5:=Tryd.underlying5
 a5:=Tryd.isAgg5
 z5:=Tryd.sizeOf5
 v5:=Tryd.zeroValue5
 t9:=Tryd.underlying9
 a9:=Tryd.isAgg9
 z9:=Tryd.sizeOf9
 v9:=Tryd.zeroValue9
 t22:=Tryd.underlying44
 a22:=Tryd.isAgg44
 z22:=Tryd.sizeOf44
 v22:=Tryd.zeroValue44
 t25:=Tryd.underlying47
 a25:=Tryd.isAgg47
 z25:=Tryd.sizeOf47
 v25:=Tryd.zeroValue47
 t39:=Tryd.underlying71
 a39:=Tryd.isAgg71
 z39:=Tryd.sizeOf71
 v39:=Tryd.zeroValue71
 t45:=Tryd.underlying90
 a45:=Tryd.isAgg90
 z45:=Tryd.sizeOf90
 v45:=Tryd.zeroValue90
 t46:=Tryd.underlying91
 a46:=Tryd.isAgg91
 z46:=Tryd.sizeOf91
 v46:=Tryd.zeroValue91
 t50:=Tryd.underlying95
 a50:=Tryd.isAgg95
 z50:=Tryd.sizeOf95
 v50:=Tryd.zeroValue95
 t53:=Tryd.underlying98
 a53:=Tryd.isAgg98
 z53:=Tryd.sizeOf98
 v53:=Tryd.zeroValue98
 t55:=Tryd.underlying100
 a55:=Tryd.isAgg100
 z55:=Tryd.sizeOf100
 v55:=Tryd.zeroValue100
 t66:=Tryd.underlying120
 a66:=Tryd.isAgg120
 z66:=Tryd.sizeOf120
 v66:=Tryd.zeroValue120
 t70:=Tryd.underlying124
 a70:=Tryd.isAgg124
 z70:=Tryd.sizeOf124
 v70:=Tryd.zeroValue124
 t76:=Tryd.underlying130
 a76:=Tryd.isAgg130
 z76:=Tryd.sizeOf130
 v76:=Tryd.zeroValue130
 t77:=Tryd.underlying131
 a77:=Tryd.isAgg131
 z77:=Tryd.sizeOf131
 v77:=Tryd.zeroValue131}
def Tryd.cmpE_ren:Go.Shelf.Ren:=⟨fun|5=>37|7=>57|n=>n,fun|22=>29|3=>3|4=>4|n=>n,fun|n=>n⟩
theorem Tryd.cmpE:Go.Proofs.SlLaysC2.n5 Tryd.prog Tryd.cmpE_ren:={
 mixed:=by kernel_rfl
 f5:=⟨Tryd.f37.name,by decide,Tryd.func37.trans (congrArg some (by kernel_rfl))⟩
 f7:=⟨Tryd.f57.name,by decide,Tryd.func57.trans (congrArg some (by kernel_rfl))⟩
 t3:=Tryd.underlying3
 a3:=Tryd.isAgg3
 z3:=Tryd.sizeOf3
 v3:=Tryd.zeroValue3
 t4:=Tryd.underlying4
 a4:=Tryd.isAgg4
 z4:=Tryd.sizeOf4
 v4:=Tryd.zeroValue4
 t22:=Tryd.underlying29
 a22:=Tryd.isAgg29
 z22:=Tryd.sizeOf29
 v22:=Tryd.zeroValue29}
end Go.Proofs
