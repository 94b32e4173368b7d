/- Parts of the proof. -/
import Derived.Shelf.SlSortCmp.WholeK
import Derived.Test.YthfhilggbbobmaaGreatDoorProg
set_option linter.all false
set_option maxHeartbeats 20000000
namespace Go.Proofs.YthfhilggbbobmaaGreatDoor
end Go.Proofs.YthfhilggbbobmaaGreatDoor
section
namespace Go.Proofs
open Go.Shelf
def Tryz.vi:Go.Shelf.Ren:=⟨fun|14=>433|20=>449|21=>450|22=>451|23=>452|24=>453|25=>454|26=>455|27=>456|46=>461|47=>444|48=>445|49=>462|50=>463|15=>409|57=>466|28=>432|29=>335|n=>n,fun|24=>417|22=>412|3=>3|25=>439|4=>4|0=>0|46=>446|45=>445|50=>259|66=>461|39=>202|55=>35|70=>465|76=>477|77=>478|53=>380|5=>5|9=>9|n=>n,fun|n=>n⟩
theorem Tryz.Tt:Go.Proofs.SlLaysF0.n14 Tryz.prog Tryz.vi:={
 mixed:=by kernel_rfl
 f14:=⟨Tryz.f433.name,by decide,Tryz.func433.trans (congrArg some (by kernel_rfl))⟩
 f15:=Tryz.func409.trans (congrArg some (by kernel_rfl))
 f20:=⟨Tryz.f449.name,by decide,Tryz.func449.trans (congrArg some (by kernel_rfl))⟩
 f21:=⟨Tryz.f450.name,by decide,Tryz.func450.trans (congrArg some (by kernel_rfl))⟩
 f22:=⟨Tryz.f451.name,by decide,Tryz.func451.trans (congrArg some (by kernel_rfl))⟩
 f23:=⟨Tryz.f452.name,by decide,Tryz.func452.trans (congrArg some (by kernel_rfl))⟩
 f24:=⟨Tryz.f453.name,by decide,Tryz.func453.trans (congrArg some (by kernel_rfl))⟩
 f25:=⟨Tryz.f454.name,by decide,Tryz.func454.trans (congrArg some (by kernel_rfl))⟩
 f26:=⟨Tryz.f455.name,by decide,Tryz.func455.trans (congrArg some (by kernel_rfl))⟩
 f27:=⟨Tryz.f456.name,by decide,Tryz.func456.trans (congrArg some (by kernel_rfl))⟩
 f28:=Tryz.func432.trans (congrArg some (by kernel_rfl))
 f29:=Tryz.func335.trans (congrArg some (by kernel_rfl))
 f46:=⟨Tryz.f461.name,by decide,Tryz.func461.trans (congrArg some (by kernel_rfl))⟩
 f47:=Tryz.func444.trans (congrArg some (by kernel_rfl))
 f48:=Tryz.func445.trans (congrArg some (by kernel_rfl))
 f49:=⟨Tryz.f462.name,by decide,Tryz.func462.trans (congrArg some (by kernel_rfl))⟩
 f50:=⟨Tryz.f463.name,by decide,Tryz.func463.trans (congrArg some (by kernel_rfl))⟩
 f57:=⟨Tryz.f466.name,by decide,Tryz.func466.trans (congrArg some (by kernel_rfl))⟩
 t0:=Tryz.underlying0
 a0:=Tryz.isAgg0
 z0:=Tryz.sizeOf0
 v0:=Tryz.zeroValue0
 t3:=Tryz.underlying3
 a3:=Tryz.isAgg3
 z3:=Tryz.sizeOf3
 v3:=Tryz.zeroValue3
 t4:=Tryz.underlying4
 a4:=Tryz.isAgg4
 z4:=Tryz.sizeOf4
 v4:=Tryz.zeroValue4
 t5:=Tryz.underlying5
 a5:=Tryz.isAgg5
 z5:=Tryz.sizeOf5
 v5:=Tryz.zeroValue5
 t9:=Tryz.underlying9
 a9:=Tryz.isAgg9
 z9:=Tryz.sizeOf9
 v9:=Tryz.zeroValue9
 t22:=Tryz.underlying412
 a22:=Tryz.isAgg412
 z22:=Tryz.sizeOf412
 v22:=Tryz.zeroValue412
 t25:=Tryz.underlying439
 a25:=Tryz.isAgg439
 z25:=Tryz.sizeOf439
 v25:=Tryz.zeroValue439
 t39:=Tryz.underlying202
 a39:=Tryz.isAgg202
 z39:=Tryz.sizeOf202
 v39:=Tryz.zeroValue202
 t45:=Tryz.underlying445
 a45:=Tryz.isAgg445
 z45:=Tryz.sizeOf445
 v45:=Tryz.zeroValue445
 t46:=Tryz.underlying446
 a46:=Tryz.isAgg446
 z46:=Tryz.sizeOf446
 v46:=Tryz.zeroValue446
 t50:=Tryz.underlying259
 a50:=Tryz.isAgg259
 z50:=Tryz.sizeOf259
 v50:=Tryz.zeroValue259
 t53:=Tryz.underlying380
 a53:=Tryz.isAgg380
 z53:=Tryz.sizeOf380
 v53:=Tryz.zeroValue380
 t55:=Tryz.underlying35
 a55:=Tryz.isAgg35
 z55:=Tryz.sizeOf35
 v55:=Tryz.zeroValue35
 t66:=Tryz.underlying461
 a66:=Tryz.isAgg461
 z66:=Tryz.sizeOf461
 v66:=Tryz.zeroValue461
 t70:=Tryz.underlying465
 a70:=Tryz.isAgg465
 z70:=Tryz.sizeOf465
 v70:=Tryz.zeroValue465
 t76:=Tryz.underlying477
 a76:=Tryz.isAgg477
 z76:=Tryz.sizeOf477
 v76:=Tryz.zeroValue477
 t77:=Tryz.underlying478
 a77:=Tryz.isAgg478
 z77:=Tryz.sizeOf478
 v77:=Tryz.zeroValue478}
end Go.Proofs
end
namespace Go.Proofs.YthfhilggbbobmaaGreatDoor
end Go.Proofs.YthfhilggbbobmaaGreatDoor
