/- Parts of the proof. -/
import Derived.Shelf.Small.Strs
import Derived.Shelf.Small.Wraps
import Derived.Shelf.Utf8.AppendRune
import Derived.Shelf.Strconv.Atoi
import Derived.Shelf.Strconv.Itoa3
import Derived.Shelf.Sort.Plain
import Derived.Shelf.Slices.In.SortNone
import Derived.Test.YthfhilggbbobmaaGreatDoorProg
set_option linter.all false
set_option maxHeartbeats 20000000
namespace Go.Proofs.YthfhilggbbobmaaGreatDoor
end Go.Proofs.YthfhilggbbobmaaGreatDoor
section
namespace Go.Proofs
open Go.Shelf
def Tryz.EN:Go.Shelf.Ren:=⟨fun|242=>420|278=>440|n=>n,fun|37=>306|21=>21|51=>380|4=>4|5=>5|46=>202|n=>n,fun|n=>n⟩
theorem Tryz.RY:Go.Proofs.Lays.n242 Tryz.prog Tryz.EN:=by constructor<;>intros<;>kernel_rfl
def Tryz.wb:Go.Shelf.Ren:=⟨fun|169=>249|n=>n,fun|70=>311|9=>9|0=>0|72=>313|37=>306|127=>385|3=>3|5=>5|n=>n,fun|n=>n⟩
theorem Tryz.RV:Go.Proofs.Lays.n169 Tryz.prog Tryz.wb:=by constructor<;>intros<;>kernel_rfl
theorem Tryz.ti:Builder.Extra Tryz.prog Tryz.wb:={
 sizeBuilder:=by kernel_rfl
 liesBuilder:=by kernel_rfl
 t5:=Tryz.underlying5
 a5:=Tryz.isAgg5
 z5:=Tryz.sizeOf5
 v5:=Tryz.zeroValue5
 infoByte:=by kernel_rfl
 cellsByte:=by kernel_rfl
 sizeByte:=by kernel_rfl
 neB5:=by decide}
def Tryz.EH:Go.Shelf.Ren:=⟨fun|137=>217|217=>327|266=>395|n=>n,fun|9=>9|5=>5|3=>3|n=>n,fun|n=>n⟩
theorem Tryz.RU:Go.Proofs.Lays.n137 Tryz.prog Tryz.EH:=by constructor<;>intros<;>kernel_rfl
open Go.RowKit in
theorem Tryz.strings_IndexByte(s:ByteArray)(c:Int)(w:World):
 Calls Tryz.prog 217 #[.string s,.int .u8 c] w fun e w'=>e=.returned (.int .i64 (Lib.indexByte s.data.toList c.toNat.toUInt8))/\w'=w:=Any.strings_IndexByte Tryz.RU s c w
open Go.RowKit in
theorem Tryz.Builder_String_any_k(B b:Nat)(l:List UInt8)(w:World)(h:Lib.IsBuilderF 313 5 B b (Lib.byteCells l) w)(a:B<=w.heap.size):
 Calls Tryz.prog 249 #[.pointer (some ⟨b,0,none⟩)] w fun e w'=>e=.returned (.string ⟨l.toArray⟩)/\(Lib.IsBuilderF 313 5 B b (Lib.byteCells l) w'/\Below B w w'/\Lib.OthersKept 5 (some b) w w'):=Any.Builder_String_any_k Tryz.RV Tryz.ti B b l w h a
def Tryz.EK:Go.Shelf.Ren:=⟨fun|172=>393|244=>418|245=>419|247=>435|279=>436|280=>437|281=>438|282=>439|287=>457|316=>458|171=>35|205=>459|321=>464|322=>465|243=>80|246=>145|283=>237|284=>238|285=>239|286=>240|129=>335|317=>334|318=>336|319=>337|320=>338|337=>399|338=>343|n=>n,fun|9=>9|3=>3|75=>315|76=>316|4=>4|5=>5|167=>453|37=>306|0=>0|85=>454|2=>2|168=>456|53=>35|175=>472|46=>202|210=>475|127=>385|145=>485|143=>483|21=>21|171=>304|173=>307|212=>379|51=>380|20=>20|213=>381|232=>443|233=>427|80=>297|n=>n,fun|15=>4|16=>5|17=>0|18=>3|19=>1|n=>n⟩
theorem Tryz.RX:Go.Proofs.Lays.n172 Tryz.prog Tryz.EK:=by constructor<;>intros<;>kernel_rfl
open Go.RowKit in
theorem Tryz.strconv_Atoi(s:ByteArray)(n:Int)(a:s.size<=18)(h:Lib.atoi s.data.toList=some n)(w:World):
 Calls Tryz.prog 393 #[.string s] w fun e w'=>e=.returned (.tuple #[.int .i64 n,.nilIface])/\∃t,w'=Lib.bytesWorld w 5 t:=Any.strconv_Atoi Tryz.RX s n a h w
def Tryz.EI:Go.Shelf.Ren:=⟨fun|171=>35|243=>80|246=>145|283=>237|284=>238|285=>239|286=>240|129=>335|317=>334|318=>336|319=>337|320=>338|337=>399|338=>343|n=>n,fun|3=>3|9=>9|2=>2|4=>4|171=>304|0=>0|53=>35|37=>306|5=>5|173=>307|212=>379|51=>380|20=>20|213=>381|46=>202|232=>443|233=>427|n=>n,fun|17=>0|18=>3|19=>1|n=>n⟩
theorem Tryz.RW:Go.Proofs.Lays.n171 Tryz.prog Tryz.EI:=by constructor<;>intros<;>kernel_rfl
open Go.RowKit Go.Sort Go.Lib in
theorem Tryz.strconv_Itoa_small(i:Nat)(hi:i<100)(w:World):
 Calls Tryz.prog 35 #[.int .i64 i] w fun e w'=>e=.returned (.string ⟨(Lib.decDigits i).toArray⟩)/\w'=w:=Any.strconv_Itoa_small Tryz.RW i hi w
def Tryz.EL:Go.Shelf.Ren:=⟨fun|189=>368|125=>409|257=>408|128=>432|129=>335|294=>423|295=>424|296=>425|297=>426|298=>427|299=>428|216=>429|300=>430|301=>431|328=>443|329=>444|330=>445|331=>446|332=>447|215=>448|343=>460|n=>n,fun|28=>171|3=>3|46=>202|0=>0|51=>380|53=>35|4=>4|183=>446|182=>445|131=>259|5=>5|9=>9|218=>461|222=>465|228=>477|229=>478|n=>n,fun|n=>n⟩
theorem Tryz.Jw:Go.Proofs.Lays.n189 Tryz.prog Tryz.EL:=by constructor<;>intros<;>kernel_rfl
open Go.Sort Go.RowKit in
theorem Tryz.slices_Sort_int(ce off a:Nat)(c:List Int)(w:World)(f:Holds (Value.int .i64) w ce off c.toArray)(b:ce<w.heap.size)(d:c.length<4611686018427387904):
 Calls Tryz.prog 368 #[.slice (some ⟨ce,off,none⟩) c.length a] w fun e w'=>
  e=.returned (.tuple #[])/\∃n os,w'=grow (putRow (Value.int .i64) (Sort.ahead w n) ce off (c.mergeSort fun x y=>decide (x<=y)).toArray) os:=Any.slices_Sort_int Tryz.Jw ce off a c w f b d
open Go.RowKit Go.Sort in
theorem Tryz.slices_Sort_int_none(p:Option Addr)(a:Nat)(w:World):
 Calls Tryz.prog 368 #[.slice p 0 a] w fun e w'=>e=.returned (.tuple #[])/\w'=w:=Any.slices_Sort_int_none Tryz.Jw p a w
end Go.Proofs
end
namespace Go.Proofs.YthfhilggbbobmaaGreatDoor
end Go.Proofs.YthfhilggbbobmaaGreatDoor
