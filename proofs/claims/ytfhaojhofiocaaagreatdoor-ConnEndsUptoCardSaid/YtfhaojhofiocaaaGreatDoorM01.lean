/- Lemmas for the last texts. -/
import Derived.Test.YtfhaojhofiocaaaGreatDoorM00
import Derived.Shelf.Strings.Builder1
import Derived.Shelf.Strings.Builder2
import Derived.Shelf.Strings.OnBuilder
import Derived.Shelf.Small.Utf8
import Derived.Shelf.Small.Bits
import Derived.Shelf.Small.Strs
import Derived.Shelf.Small.Wraps
import Derived.Shelf.Strings.BuilderF
import Derived.Shelf.Strings.BuilderK
import Derived.Shelf.Utf8.RuneCount
import Derived.Shelf.Strings.Builder2Cap
import Derived.Shelf.Strconv.Itoa0
import Derived.Shelf.Strconv.Itoa1
import Derived.Shelf.LaysM
import Derived.Shelf.Strconv.Itoa2
import Derived.Shelf.Strconv.Itoa3
import Derived.Shelf.Strings.Search1
import Derived.Shelf.Strings.Search2
import Derived.Shelf.Strings.Search3
import Derived.Shelf.Strings.Cut
import Derived.Shelf.Strings.Count
import Derived.Shelf.Strings.Shaped
import Derived.Shelf.Sort.Plain
import Derived.Shelf.Strings.Prefix
import Derived.Shelf.Strings.Split
import Derived.Shelf.Strings.SplitShaped
import Derived.Shelf.Unicode.Decode
import Derived.Shelf.Strings.Runes
import Derived.Shelf.Strings.RuneCount
import Derived.Shelf.Strings.IndexAny
import Derived.Shelf.Strings.AsciiSet
import Derived.Shelf.Strings.IndexAnyAll
import Derived.Shelf.Strings.Explode
import Derived.Shelf.Unicode.DecodeSlow
import Derived.Shelf.Unicode.DecodeAny
import Derived.Shelf.Strings.BuilderCap
import Derived.Shelf.Slices.Turned
import Derived.Ground.Names2Prog
import Derived.Shelf.Slices.Clone
import Derived.Shelf.Slices.SearchI
import Derived.Shelf.Slices.In.SortNone
import Derived.Test.YtfhaojhofiocaaaGreatDoorProg
import Derived.Test.YtfhaojhofiocaaaGreatDoorRows
import Derived.WalkKit
import Derived.ProofKit
import Derived.OpenShut
import Derived.ShutString
import Derived.JoinedCond
import Derived.SizedLaws
import Derived.HandedShaped
import Derived.WalkSpells
import Derived.WalkLawsBesides
import Derived.Lib.Hide
import Derived.StillTailTactics
import Derived.Deep.RegionLaw
namespace Go.Proofs
open Go.Shelf
def Tryz.lays169_ren:Go.Shelf.Ren:=⟨λ|169=>161|n=>n,λ|70=>259|9=>9|0=>0|72=>261|37=>176|127=>285|3=>3|5=>5|n=>n,λ|n=>n⟩
theorem Tryz.lays169:Go.Proofs.Lays.n169 Tryz.prog Tryz.lays169_ren:=by constructor<;>first|kernel_rfl|(intro _;kernel_rfl)
theorem Tryz.Builder_Extra_169:Builder.Extra Tryz.prog Tryz.lays169_ren:=by constructor<;>first|kernel_rfl|(intro _;kernel_rfl)|decide|(constructor<;>first|kernel_rfl|(intro _;kernel_rfl)|decide)
open Go.RowKit in
theorem Tryz.Builder_String_any(B b:Nat)(l:jE)(w:World)(h:Lib.IsBuilder 261 5 B b (Lib.byteCells l) w)(a:B<=w.heap.size):
 Calls Tryz.prog 161 #[.pointer b] w λe w'=>e=jC (.string ⟨l.toArray⟩)/\Below B w w':=Any.Builder_String_any Tryz.lays169 Tryz.Builder_Extra_169 B b l w h a
def Tryz.lays156_ren:Go.Shelf.Ren:=⟨λ|156=>250|165=>274|166=>160|169=>161|240=>191|241=>286|276=>212|277=>297|n=>n,λ|31=>108|9=>9|3=>3|4=>4|0=>0|20=>20|72=>261|76=>264|70=>259|37=>176|75=>263|127=>285|164=>308|5=>5|80=>39|n=>n,λ|n=>n⟩
theorem Tryz.lays156:Go.Proofs.Lays.n156 Tryz.prog Tryz.lays156_ren:=by constructor<;>first|kernel_rfl|(intro _;kernel_rfl)
theorem Tryz.Builder_Extra_156:Builder.Extra Tryz.prog Tryz.lays156_ren:=by constructor<;>first|kernel_rfl|(intro _;kernel_rfl)|decide|(constructor<;>first|kernel_rfl|(intro _;kernel_rfl)|decide)
open Go.RowKit in
theorem Tryz.strings_Join_none(a:Option Addr)(c:Nat)(b:ByteArray)(w:World):
 Calls Tryz.prog 250 #[.slice a 0 c,.string b] w λe w'=>e=jC (.string ⟨#[]⟩)/\w'=w:=Any.strings_Join_none Tryz.lays156 Tryz.Builder_Extra_156 a c b w
open Go.RowKit in
theorem Tryz.strings_Join(h o c:Nat)(d:List ByteArray)(a:ByteArray)(w:World)(b:∀(j:Nat) x,d[j]? = some x->w.cell? ⟨h,o+j,none⟩=some (.string x))(i:h<w.heap.size)(k:d.length<=140737488355328)(f:d.length<=c)(g:(Lib.join (d.map (·.data.toList)) a.data.toList).length<=140737488355328):
 Calls Tryz.prog 250 #[.slice (some ⟨h,o,none⟩) d.length c,.string a] w λe w'=>e=jC (.string ⟨(Lib.join (d.map (·.data.toList)) a.data.toList).toArray⟩)/\w w':=Any.strings_Join Tryz.lays156 Tryz.Builder_Extra_156 h o c d a w b i k f g
def Tryz.lays119_ren:Go.Shelf.Ren:=⟨λ|119=>275|n=>n,λ|21=>21|4=>4|n=>n,λ|n=>n⟩
theorem Tryz.lays119:Go.Proofs.Lays.n119 Tryz.prog Tryz.lays119_ren:=by constructor<;>first|kernel_rfl|(intro _;kernel_rfl)
theorem Tryz.utf8_ValidRune(r:Int)(w:World):
 Calls Tryz.prog 275 #[.int .i32 r] w λe w'=>e=jC (.bool (Lib.validRune r))/\w'=w:=Any.utf8_ValidRune Tryz.lays119 r w
def Tryz.lays125_ren:Go.Shelf.Ren:=⟨λ|125=>100|128=>145|129=>124|n=>n,λ|46=>193|3=>3|51=>34|53=>93|4=>4|5=>5|9=>9|n=>n,λ|n=>n⟩
theorem Tryz.lays125:Go.Proofs.Lays.n125 Tryz.prog Tryz.lays125_ren:=by constructor<;>first|kernel_rfl|(intro _;kernel_rfl)
theorem Tryz.bits_Len(x:Int)(w:World)(a:0<=x)(h1:x<=18446744073709551615):
 Calls Tryz.prog 100 #[jB x] w λe w'=>e=jC (jA (Lib.bitLen x.toNat))/\w'=w:=Any.bits_Len Tryz.lays125 x w a h1
def Tryz.lays137_ren:Go.Shelf.Ren:=⟨λ|137=>111|217=>106|266=>149|n=>n,λ|9=>9|5=>5|3=>3|n=>n,λ|n=>n⟩
theorem Tryz.lays137:Go.Proofs.Lays.n137 Tryz.prog Tryz.lays137_ren:=by constructor<;>first|kernel_rfl|(intro _;kernel_rfl)
open Go.RowKit in
theorem Tryz.strings_IndexByte(s:ByteArray)(c:Int)(w:World):
 Calls Tryz.prog 111 #[.string s,.int .u8 c] w λe w'=>e=jC (jA (Lib.indexByte s.data.toList c.toNat.toUInt8))/\w'=w:=Any.strings_IndexByte Tryz.lays137 s c w
def Tryz.lays210_ren:Go.Shelf.Ren:=⟨λ|210=>216|206=>228|n=>n,λ|9=>9|4=>4|3=>3|n=>n,λ|n=>n⟩
def Tryz.lays103_ren:Go.Shelf.Ren:=⟨λ|103=>204|210=>216|206=>228|n=>n,λ|9=>9|4=>4|24=>199|3=>3|n=>n,λ|n=>n⟩
theorem Tryz.lays103:Go.Proofs.Lays.n103 Tryz.prog Tryz.lays103_ren:=by constructor<;>first|kernel_rfl|(intro _;kernel_rfl)
open Go.RowKit in
theorem Tryz.strings_CutPrefix(s p:ByteArray)(w:World):
 Calls Tryz.prog 204 #[.string s,.string p] w λe w'=>e=jC (.tuple #[.string ⟨(Lib.trimPrefix s.data.toList p.data.toList).toArray⟩,.bool (Lib.hasPrefix s.data.toList p.data.toList)])/\w'=w:=Any.strings_CutPrefix Tryz.lays103 s p w
def Tryz.lays104_ren:Go.Shelf.Ren:=⟨λ|104=>110|211=>151|207=>182|n=>n,λ|9=>9|4=>4|24=>199|3=>3|n=>n,λ|n=>n⟩
theorem Tryz.lays104:Go.Proofs.Lays.n104 Tryz.prog Tryz.lays104_ren:=by constructor<;>first|kernel_rfl|(intro _;kernel_rfl)
open Go.RowKit in
theorem Tryz.strings_CutSuffix(s p:ByteArray)(w:World)(a:s.size<=9223372036854775807):
 Calls Tryz.prog 110 #[.string s,.string p] w λe w'=>e=jC (.tuple #[.string ⟨(Lib.trimSuffix s.data.toList p.data.toList).toArray⟩,.bool (Lib.hasSuffix s.data.toList p.data.toList)])/\w'=w:=Any.strings_CutSuffix Tryz.lays104 s p w a
def Tryz.lays215_ren:Go.Shelf.Ren:=⟨λ|215=>180|n=>n,λ|3=>3|4=>4|n=>n,λ|n=>n⟩
def Tryz.laysM246_ren:Go.Shelf.Ren:=⟨λ|246=>59|283=>84|284=>85|285=>86|286=>87|129=>124|317=>123|318=>125|319=>126|320=>127|337=>162|338=>163|n=>n,λ|2=>2|3=>3|9=>9|4=>4|171=>173|0=>0|53=>93|37=>176|5=>5|173=>177|212=>231|51=>34|20=>20|213=>232|46=>193|232=>286|233=>287|n=>n,λ|17=>1|18=>2|19=>3|n=>n⟩
def Tryz.laysM243_ren:Go.Shelf.Ren:=⟨λ|243=>41|246=>59|283=>84|284=>85|285=>86|286=>87|129=>124|317=>123|318=>125|319=>126|320=>127|337=>162|338=>163|n=>n,λ|3=>3|9=>9|2=>2|4=>4|171=>173|0=>0|53=>93|37=>176|5=>5|173=>177|212=>231|51=>34|20=>20|213=>232|46=>193|232=>286|233=>287|n=>n,λ|17=>1|18=>2|19=>3|n=>n⟩
def Tryz.laysM171_ren:Go.Shelf.Ren:=⟨λ|171=>31|243=>41|246=>59|283=>84|284=>85|285=>86|286=>87|129=>124|317=>123|318=>125|319=>126|320=>127|337=>162|338=>163|n=>n,λ|3=>3|9=>9|2=>2|4=>4|171=>173|0=>0|53=>93|37=>176|5=>5|173=>177|212=>231|51=>34|20=>20|213=>232|46=>193|232=>286|233=>287|n=>n,λ|17=>1|18=>2|19=>3|n=>n⟩
theorem Tryz.laysM171:Go.Proofs.LaysM.n171 Tryz.prog Tryz.laysM171_ren:=by constructor<;>first|kernel_rfl|(intro _;kernel_rfl)|(constructor<;>first|kernel_rfl|(intro _;kernel_rfl))
open Go.RowKit Go.Sort Go.Lib in
theorem Tryz.strconv_Itoa (n:Int) (b:-9223372036854775808<=n) (h1:n<=9223372036854775807) (w:World) (a:Lib.TabIs Tryz.prog w "internal/strconv.uint64pow10" .u64 Lib.pow10Tab):
 Calls Tryz.prog 31 #[jA n] w λe w'=>e=jC (.string ⟨(Lib.itoa n).toArray⟩)/\∃k os,w'=grow (w.drewN k) os:=Any.strconv_Itoa Tryz.laysM171 n b h1 w a
def Tryz.lays219_ren:Go.Shelf.Ren:=⟨λ|219=>76|217=>106|225=>107|224=>108|267=>109|266=>149|314=>150|n=>n,λ|9=>9|3=>3|4=>4|5=>5|46=>193|146=>251|51=>34|n=>n,λ|1=>0|n=>n⟩
def Tryz.lays143_ren:Go.Shelf.Ren:=⟨λ|143=>53|219=>76|217=>106|225=>107|224=>108|267=>109|266=>149|314=>150|n=>n,λ|9=>9|3=>3|4=>4|5=>5|46=>193|146=>251|51=>34|n=>n,λ|1=>0|n=>n⟩
theorem Tryz.lays143:Go.Proofs.Lays.n143 Tryz.prog Tryz.lays143_ren:=by constructor<;>first|kernel_rfl|(intro _;kernel_rfl)
open Go.RowKit Go.Lib in
theorem Tryz.strings_Index(s a:ByteArray)(m:Int)(w:World)(c:s.size<4294967281)(b:w.cell? (0:)=some (jA m)):
 Calls Tryz.prog 53 #[.string s,.string a] w λe w'=>e=jC (jA (Lib.index s.data.toList a.data.toList))/\w'=w:=Any.strings_Index Tryz.lays143 s a m w c b
def Tryz.lays144_ren:Go.Shelf.Ren:=⟨λ|144=>247|143=>53|219=>76|217=>106|225=>107|224=>108|267=>109|266=>149|314=>150|n=>n,λ|9=>9|4=>4|3=>3|5=>5|46=>193|146=>251|51=>34|n=>n,λ|1=>0|n=>n⟩
theorem Tryz.lays144:Go.Proofs.Lays.n144 Tryz.prog Tryz.lays144_ren:=by constructor<;>first|kernel_rfl|(intro _;kernel_rfl)
open Go.RowKit Go.Lib in
theorem Tryz.strings_Contains(s a:ByteArray)(m:Int)(w:World)(c:s.size<4294967281)(b:w.cell? (0:)=some (jA m)):
 Calls Tryz.prog 247 #[.string s,.string a] w λe w'=>e=jC (.bool (Lib.contains s.data.toList a.data.toList))/\w'=w:=Any.strings_Contains Tryz.lays144 s a m w c b
def Tryz.lays145_ren:Go.Shelf.Ren:=⟨λ|145=>73|220=>105|219=>76|217=>106|225=>107|224=>108|267=>109|266=>149|314=>150|n=>n,λ|9=>9|4=>4|59=>154|3=>3|5=>5|46=>193|146=>251|51=>34|n=>n,λ|1=>0|n=>n⟩
theorem Tryz.lays145:Go.Proofs.Lays.n145 Tryz.prog Tryz.lays145_ren:=by constructor<;>first|kernel_rfl|(intro _;kernel_rfl)
open Go.RowKit Go.Lib in
theorem Tryz.strings_Cut(s a:ByteArray)(m:Int)(w:World)(c:s.size<4294967281)(b:w.cell? (0:)=some (jA m)):
 Calls Tryz.prog 73 #[.string s,.string a] w λe w'=>e=jC (.tuple #[.string ⟨(Lib.cut s.data.toList a.data.toList).1.toArray⟩,.string ⟨(Lib.cut s.data.toList a.data.toList).2.1.toArray⟩,.bool (Lib.cut s.data.toList a.data.toList).2.2])/\∃n,w'=w.drewN n:=Any.strings_Cut Tryz.lays145 s a m w c b
def Tryz.lays189_ren:Go.Shelf.Ren:=⟨λ|189=>69|125=>100|257=>99|128=>145|129=>124|294=>136|295=>137|296=>138|297=>139|298=>140|299=>141|216=>142|300=>143|301=>144|328=>175|329=>176|330=>177|331=>178|332=>179|215=>180|343=>200|n=>n,λ|28=>54|3=>3|46=>193|0=>0|51=>34|53=>93|4=>4|183=>241|182=>240|131=>238|5=>5|9=>9|218=>273|222=>181|228=>294|229=>295|n=>n,λ|n=>n⟩
theorem Tryz.lays189:Go.Proofs.Lays.n189 Tryz.prog Tryz.lays189_ren:=by constructor<;>first|kernel_rfl|(intro _;kernel_rfl)
open Go.Sort Go.RowKit in
theorem Tryz.slices_Sort_int(blk a cap:Nat)(c:List Int)(w:World)(f:Holds (Value.int .i64) w blk a c.toArray)(b:blk<w.heap.size)(d:c.length<4611686018427387904):
 Calls Tryz.prog 69 #[.slice (some ⟨blk,a,none⟩) c.length cap] w λe w'=>
  e=jC (.tuple #[])/\∃n os,w'=grow (putRow (Value.int .i64) (Sort.ahead w n) blk a (c.mergeSort λx y=>decide (x<=y)).toArray) os:=Any.slices_Sort_int Tryz.lays189 blk a cap c w f b d
def Tryz.lays99_ren:Go.Shelf.Ren:=⟨λ|99=>248|206=>228|n=>n,λ|9=>9|4=>4|3=>3|n=>n,λ|n=>n⟩
theorem Tryz.lays99:Go.Proofs.Lays.n99 Tryz.prog Tryz.lays99_ren:=by constructor<;>first|kernel_rfl|(intro _;kernel_rfl)
open Go.RowKit Go.Lib in
theorem Tryz.strings_HasPrefix(s p:ByteArray)(w:World):
 Calls Tryz.prog 248 #[.string s,.string p] w λe w'=>e=jC (.bool (Lib.hasPrefix s.data.toList p.data.toList))/\w'=w:=Any.strings_HasPrefix Tryz.lays99 s p w
def Tryz.lays100_ren:Go.Shelf.Ren:=⟨λ|100=>249|207=>182|n=>n,λ|9=>9|4=>4|3=>3|n=>n,λ|n=>n⟩
theorem Tryz.lays100:Go.Proofs.Lays.n100 Tryz.prog Tryz.lays100_ren:=by constructor<;>first|kernel_rfl|(intro _;kernel_rfl)
open Go.RowKit Go.Lib in
theorem Tryz.strings_HasSuffix(s p:ByteArray)(w:World)(a:s.size<=9223372036854775807):
 Calls Tryz.prog 249 #[.string s,.string p] w λe w'=>e=jC (.bool (Lib.hasSuffix s.data.toList p.data.toList))/\w'=w:=Any.strings_HasSuffix Tryz.lays100 s p w a
def Tryz.lays102_ren:Go.Shelf.Ren:=⟨λ|102=>255|209=>276|207=>182|n=>n,λ|9=>9|4=>4|3=>3|n=>n,λ|n=>n⟩
theorem Tryz.lays102:Go.Proofs.Lays.n102 Tryz.prog Tryz.lays102_ren:=by constructor<;>first|kernel_rfl|(intro _;kernel_rfl)
open Go.RowKit Go.Lib in
theorem Tryz.strings_TrimSuffix(s p:ByteArray)(w:World)(a:s.size<=9223372036854775807):
 Calls Tryz.prog 255 #[.string s,.string p] w λe w'=>e=jC (.string ⟨(Lib.trimSuffix s.data.toList p.data.toList).toArray⟩)/\w'=w:=Any.strings_TrimSuffix Tryz.lays102 s p w a
def Tryz.lays221_ren:Go.Shelf.Ren:=⟨λ|221=>70|268=>101|138=>102|143=>53|195=>146|197=>147|218=>148|219=>76|260=>181|217=>106|225=>107|224=>108|267=>109|266=>149|314=>150|n=>n,λ|9=>9|3=>3|31=>108|4=>4|0=>0|105=>249|21=>21|5=>5|46=>193|119=>297|139=>300|138=>299|146=>251|51=>34|n=>n,λ|1=>0|3=>4|4=>5|n=>n⟩
def Tryz.lays146_ren:Go.Shelf.Ren:=⟨λ|146=>49|221=>70|268=>101|138=>102|143=>53|195=>146|197=>147|218=>148|219=>76|260=>181|217=>106|225=>107|224=>108|267=>109|266=>149|314=>150|n=>n,λ|9=>9|31=>108|3=>3|4=>4|0=>0|105=>249|21=>21|5=>5|46=>193|119=>297|139=>300|138=>299|146=>251|51=>34|n=>n,λ|1=>0|3=>4|4=>5|n=>n⟩
theorem Tryz.lays146:Go.Proofs.Lays.n146 Tryz.prog Tryz.lays146_ren:=by constructor<;>first|kernel_rfl|(intro _;kernel_rfl)
open Go.RowKit Go.Lib in
theorem Tryz.strings_Split(s a:ByteArray)(m:Int)(w:World)(c:s.size<4294967281)(b:w.cell? (0:)=some (jA m))(h1:1<=a.size):
 Calls Tryz.prog 49 #[.string s,.string a] w λe w'=>
  e=jC (.slice w.heap.size (Lib.countB s a+1) (Lib.countB s a+1))/\w'=w.alloc (.cells ((Lib.splitB a 0 (Lib.countB s a) s).map Value.string).toArray 9):=Any.strings_Split Tryz.lays146 (by kernel_rfl) s a m w c b h1
def Tryz.laysM146_ren:Go.Shelf.Ren:=⟨λ|146=>49|221=>70|268=>101|138=>102|143=>53|195=>146|197=>147|218=>148|219=>76|260=>181|217=>106|225=>107|224=>108|267=>109|266=>149|314=>150|n=>n,λ|9=>9|31=>108|3=>3|4=>4|0=>0|105=>249|21=>21|5=>5|46=>193|119=>297|139=>300|138=>299|146=>251|51=>34|n=>n,λ|1=>0|3=>4|4=>5|n=>n⟩
theorem Tryz.laysM146:Go.Proofs.LaysM.n146 Tryz.prog Tryz.laysM146_ren:=by constructor<;>first|kernel_rfl|(intro _;kernel_rfl)|decide|exact λw h=>Go.Proofs.cell_of_shapedOpen_int (zero:=#[jA 0]) (t:=3) h (of_decide_eq_true (by kernel_rfl)) (by kernel_rfl) rfl (by kernel_rfl) (by kernel_rfl) Tryz.underlying3|(constructor<;>first|kernel_rfl|(intro _;kernel_rfl)|decide|exact λw h=>Go.Proofs.cell_of_shapedOpen_int (zero:=#[jA 0]) (t:=3) h (of_decide_eq_true (by kernel_rfl)) (by kernel_rfl) rfl (by kernel_rfl) (by kernel_rfl) Tryz.underlying3)
def Tryz.lays152_ren:Go.Shelf.Ren:=⟨λ|152=>251|137=>111|119=>275|224=>108|225=>107|217=>106|266=>149|n=>n,λ|9=>9|21=>21|3=>3|4=>4|5=>5|0=>0|46=>193|n=>n,λ|n=>n⟩
theorem Tryz.lays152:Go.Proofs.Lays.n152 Tryz.prog Tryz.lays152_ren:=by constructor<;>first|kernel_rfl|(intro _;kernel_rfl)
open Go.RowKit Go.Lib in
theorem Tryz.strings_IndexRune_ascii(s:ByteArray)(r:Int)(w:World)(a:0<=r)(h1:r<128):
 Calls Tryz.prog 251 #[.string s,.int .i32 r] w λe w'=>e=jC (jA (Lib.indexByte s.data.toList r.toNat.toUInt8))/\w'=w:=Any.strings_IndexRune_ascii Tryz.lays152 s r w a h1
def Tryz.lays226_ren:Go.Shelf.Ren:=⟨λ|226=>252|n=>n,λ|3=>3|4=>4|n=>n,λ|n=>n⟩
theorem Tryz.lays226:Go.Proofs.Lays.n226 Tryz.prog Tryz.lays226_ren:=by constructor<;>first|kernel_rfl|(intro _;kernel_rfl)
open Go.RowKit Go.Lib in
theorem Tryz.strings_shouldUseASCIISet(n:Int)(w:World):
 Calls Tryz.prog 252 #[jA n] w λe w'=>e=jC (.bool (decide (8<n)))/\w'=w:=Any.strings_shouldUseASCIISet Tryz.lays226 n w
def Tryz.lays153_ren:Go.Shelf.Ren:=⟨λ|153=>229|152=>251|226=>252|227=>253|228=>254|137=>111|119=>275|224=>108|225=>107|217=>106|266=>149|n=>n,λ|9=>9|3=>3|4=>4|5=>5|21=>21|117=>329|116=>328|0=>0|46=>193|124=>348|n=>n,λ|n=>n⟩
theorem Tryz.lays153:Go.Proofs.Lays.n153 Tryz.prog Tryz.lays153_ren:=by constructor<;>first|kernel_rfl|(intro _;kernel_rfl)
open Go.RowKit Go.Lib in
theorem Tryz.strings_IndexAny_long(d:∀w,(zeroValue 328).run Tryz.prog w=.ok (.agg (Array.replicate 256 (.bool false))) w)(s a:ByteArray)(w:World)(h2:2<=a.size)(g:8<s.size)(h:s.size<4294967281)(f:a.size<4294967281)(c:∀(j:Nat) b,a.data.toList[j]? = some b->b.toNat<128):
 Calls Tryz.prog 229 #[.string s,.string a] w λe w'=>e=jC (jA (Lib.indexAny s.data.toList a.data.toList))/\w'=((w.alloc (.cells (Lib.setCells a.data.toList) 328)).alloc (.cells (Lib.setCells a.data.toList) 328)):=Any.strings_IndexAny_long Tryz.lays153 d (by kernel_rfl) s a w h2 g h f c
def Tryz.lays110_ren:Go.Shelf.Ren:=⟨λ|110=>94|109=>133|n=>n,λ|31=>108|9=>9|4=>4|3=>3|0=>0|n=>n,λ|n=>n⟩
theorem Tryz.lays110:Go.Proofs.Lays.n110 Tryz.prog Tryz.lays110_ren:=by constructor<;>first|kernel_rfl|(intro _;kernel_rfl)
open Go.Lib in
theorem Tryz.slices_Contains_string(b a n c:Nat)(d:List ByteArray)(x:ByteArray)(w:World)(h:n<=d.length)(f:n<=9223372036854775807)(g:∀j,j<d.length->w.cell? ⟨b,a+j,none⟩=some (.string (d.getD j ByteArray.empty))):
 Calls Tryz.prog 94 #[.slice (some ⟨b,a,none⟩) n c,.string x] w λe w'=>e=jC (.bool (Lib.containsS (d.take n) x))/\w'=w:=Any.slices_Contains_string Tryz.lays110 b a n c d x w h f g
open Go.Lib in
theorem Tryz.slices_Contains_string_empty(a:Option Addr)(c:Nat)(x:ByteArray)(w:World):
 Calls Tryz.prog 94 #[.slice a 0 c,.string x] w λe w'=>e=jC (.bool false)/\w'=w:=Any.slices_Contains_string_empty Tryz.lays110 a c x w
open Go.RowKit Go.Sort in
theorem Tryz.slices_Sort_int_none(p:Option Addr)(cap:Nat)(w:World):
 Calls Tryz.prog 69 #[.slice p 0 cap] w λe w'=>e=jC (.tuple #[])/\w'=w:=Any.slices_Sort_int_none Tryz.lays189 p cap w
end Go.Proofs
namespace Go.Proofs.YtfhaojhofiocaaaGreatDoor
open Go.RowKit
section
open Go.ChangeShapes Go.WideShapes Go.ChangeAt
theorem own:ownKnob Tryz.prog.godebug=none:=by kernel_rfl
theorem zx6:laidOutB Tryz.prog=true:=by kernel_rfl
theorem zpZ{H:Type}{l:List (DataW H)}(a:Rows.uptoSmall H l=true):Rows.uptoBulkAll l<=1048576:=Zp a
section
variable {H:Type} {enc:TypeId × Value->H} {P:Program}
theorem zgT(hl:laidOutB P=true){W W':World}(hb:W W'):∀{f:List TypeId} {e:List Value} {b:List (DataW H)} {a:List MemPlace},
 (∀t∈f,P.readableRec t=true/\t<P.types.size)->DataW.TrodAll enc P W 0 (λ_=>true) true f e b a->(∀x∈a,x.block<W.heap.size)->
 ∀sp:Nat->Bool,(∀p∈a,sp p.block=true)->DataW.TrodAll enc P W' 0 sp true f e b a
 | [],e,b,a,_,h,_,sp,_=>by
  cases e <;> cases b <;> first|exact h|cases h
 |t::f,[],b,a,_,h,_,_,_=>by cases b <;> cases h
 |t::f,v::e,[],a,_,h,_,_,_=>by cases h
 |t::f,v::e,d::b,a,j,h,g,sp,k=>by
  obtain⟨p,q,h1,h2,rfl⟩:=h;obtain⟨r1,r2⟩:=j t (by simp)
  exact⟨p,q,WideElems.Trod_stays hl r1 r2 h1 (λx c=>hb.same (g x (by simp[c]))) (λx c=>k x (by simp[c])),
   zgT hl hb (λl i=>j l (by simp[i])) h2 (λx c=>g x (by simp[c])) sp (λx c=>k x (by simp[c])),rfl⟩
theorem zvQ{f:Func}{s:ChangeSpec}{apart fresh e j:Bool}{W W':World}{args:Array Value}{m y:List (DataW H)}{a:List MemPlace}{z:TypeId}
 (hl:laidOutB P=true) (D:∀t∈f.params.toList,P.readableRec t=true/\t<P.types.size) (d:f.resultTypes=#[z]) (l:P.underlying z=some .bool) (c:s.vars=[])
 (x:DataW.Whole enc P f.params.toList s.vars apart W args.toList m y a) (hb:W W')
 (k:s.fn H (m++y)={results:=[.lit (.bool true)],args:=m}):
 s.post enc P f apart fresh e j W args (.bool true) W':=by
 have o:=x;have i:∀p∈a,p.block<W.heap.size:=λp g=>o.lt p g
 have r:∀p∈a,(λb=>decide (b<W.heap.size)) p.block=true:=λp g=>by simpa using i p g
 obtain⟨p,q,B,A,n,C,E⟩:=x;rw[c]at A;obtain⟨rfl,rfl⟩:=trodVars_none A;rw[QO]at n;subst n;have h:∀sp:Nat->Bool,(∀p∈a,sp p.block=true)->DataW.TrodAll enc P W' 0 sp true f.params.toList args.toList m a:=zgT hl hb D B i
 have u:∀(b:Nat) (sp:Nat->Bool) (w:Bool),DataW.TrodAll enc P W' b sp w f.resultTypes.toList ((Value.bool true).resultList f.resultTypes.size) [.lit (.bool true)] []:=λb sp w=>by
  rw[d];exact trodAll_cons_mk (shut_bool l true) trodAll_mk0
 refine⟨m,[],a,[],a,[],o,?_,?_,?_,World.keptBut_mono (λp g=>⟨g,Or.inr (Or.inl g)⟩) (hb.frame (·∈a)),λ_=>?_⟩
 ·rw[k];exact u _ _ _
 ·rw[k];exact h _ r
 ·rw[k,c];exact rfl
 ·refine⟨ok_one (by rw[d]) (by first|rfl|(rw[d];rfl)) (okWide_bool_mk l true),.lit (.bool true)::m,[],a,⟨a,[],?_,by rw[c];exact rfl,by simp,?_,?_⟩,?_⟩
  ·rw[d]
   exact trodAll_cons_mk (shut_bool l true) (h _ (λ_ _=>rfl))
  ·intro b v g
   rw[hb.frozen (i _ g)];exact C b v g
  ·exact E
  ·intro p g _;exact g
end
end
theorem zae{k:IntKind}{a b:Int}(h:a=b):jC (.int k a)=jC (.int k b):=by rw[h]
theorem zsc{a b:ByteArray}(h:a=b):jC (.string a)=jC (.string b):=by rw[h]
theorem zaQ{a b:Bool}(h:a=b):jC (.bool a)=jC (.bool b):=by rw[h]
theorem zad{P:Program}{b:Func}{R:Ending->World->Prop}{a:Act}{w:World}{v:Value}(d:R (jC v) w)(e:(results b a.tmps).run P w=.ok v w:=by unfold results;go_simp;try rfl)(c:a.defers=[]:=by rfl):bodyPost P b R .ret a w:=QD e c d
theorem zak{w:World}{g:Nat}{cs:Array Value}{t:TypeId}{m:Nat × Nat}(h:w.heap[g]? = some (.cells cs t m))(j:Nat):w.cell? ⟨g,j,none⟩=cs[j]? := Qo _ _ j _ _ _ h
def bs(l:jE):ByteArray:=⟨l.toArray⟩
theorem zam(l:jE):(bs l).data.toList=l:=rfl
theorem zeT(s:ByteArray):bs s.data.toList=s:=rfl
theorem zah(l:jE):(bs l).size=l.length:=rfl
theorem zgk(l:jE):(bs l).toList=l:=by rw[Xc];rfl
theorem zbq(a b:jE):bs a++bs b=bs (a++b):=by
 show (bs a).append (bs b)=_
 apply ByteArray.ext
 have h:((bs a)++(bs b)).data=(bs a).data++(bs b).data:=by simp
 exact h.trans (by simp[bs])
attribute [go_sem] zah zgk zam zbq
theorem zeg{p:UInt8->Bool}(h:(List.range 256).all (λn=>p (UInt8.ofNat n))=true)(b:UInt8):p b=true:=by
 have:=Zv.1 h b.toNat (ZQ.2 b.toNat_lt)
 simpa using this
def zd1(b:UInt8):Value:=.int .u8 b.toNat
theorem zaH(s:ByteArray)(k:Nat)(h:k<s.size):s.data.toList.drop k=s[k]::s.data.toList.drop (k+1):=by
 rw[Zb (by simpa using h)];rfl
theorem zhH(s:ByteArray)(k:Nat)(h:k<s.size):s.data.toList.take (k+1)=s.data.toList.take k++[s[k]]:=by
 rw[Qu (by simpa using h)];rfl
def BytesAt(w:World)(g:Nat)(l:jE):Prop:=
 g<w.heap.size/\∀j (a:j<l.length),w.cell? ⟨g,j,none⟩=some (.int .u8 (l[j].toNat:Int))/\w.frozen? ⟨g,j,none⟩=false
theorem BytesAt.cell{w:World}{g:Nat}{l:jE}(h:BytesAt w g l){j:Nat}(a:j<l.length):w.cell? ⟨g,j,none⟩=some (.int .u8 (l[j].toNat:Int)):=(h.2 j a).1
theorem BytesAt.free{w:World}{g:Nat}{l:jE}(h:BytesAt w g l){j:Nat}(a:j<l.length):w.frozen? ⟨g,j,none⟩=false:=(h.2 j a).2
theorem ztq(w:World)(s:ByteArray)(c:Nat)(f:s.size<=c)(e:TypeId):
 BytesAt (w.drew.alloc (.cells (bytesRow s c) e ((bytesRow s c).size,(bytesRow s c).size+1))) w.heap.size s.data.toList:=by
 have d:(bytesRow s c).size=c:=by
  have:s.data.size=s.size:=rfl;simp[bytesRow];omega
 refine⟨by simp,λj b=>⟨?_,?_⟩⟩
 ·have a:j<s.data.size:=by simpa using b
  have:=World.cell?_alloc_mark w.drew (bytesRow s c) e ((bytesRow s c).size,(bytesRow s c).size+1) j;rw[show w.drew.heap.size=w.heap.size from rfl]at this;rw[this,bytesRow_at s c j a];simp
 ·have:=World.frozen?_alloc_mark w.drew (bytesRow s c) e (bytesRow s c).size ((bytesRow s c).size+1) j
  rw[show w.drew.heap.size=w.heap.size from rfl]at this;have a:j<s.size:=by simpa using b
  rw[this,d];simp;omega
theorem BytesAt.set{w:World}{g:Nat}{l:jE}(h:BytesAt w g l){k:Nat}(b:k<l.length)(x:UInt8):BytesAt (w.setCell ⟨g,k,none⟩ (.int .u8 x.toNat)) g (l.set k x):=by
 refine⟨by simpa[World.setCell]using h.1,λj c=>?_⟩;have a:j<l.length:=by simpa using c
 by_cases e:k=j
 ·subst e
  refine⟨?_,by rw[World.frozen?_setCell];exact h.free b⟩;rw[Zx _ _ _ (h.cell b)];simp
 ·refine⟨?_,by rw[World.frozen?_setCell];exact h.free a⟩
  rw[QQ _ _ _ _ (by intro q;cases q;exact e rfl),h.cell a];simp[e]
theorem zbd(g j:Nat):(⟨g,0,none⟩:Addr).add j=⟨g,j,none⟩:=by unfold Addr.add;split <;> simp_all
theorem zcW{P:Program}{w:World}{g:Nat}{l:jE}(h:BytesAt w g l)(src dst e:TypeId)(n c:Nat)(i:n=l.length)
 (f:P.underlying src=some (.slice e)) (d:P.underlying e=some (.int .u8)) (a:P.underlying dst=some .string):
 (convert src dst (.slice g n c)).run P w=.ok (.string (bs l)) w:=by
 subst i;exact run_convert_bytes_back w src dst e ⟨g,0,none⟩ c l f d a (λj b=>by rw[zbd];exact h.cell b)
theorem zgm{P:Program}{w:World}{base n:Nat}{v:Value}{l:jE}(src dst e:TypeId)(h:w.ownsRow base e 1 v n (l.map zd1))
 (d:P.underlying src=some (.slice e)) (f:P.underlying e=some (.int .u8)) (c:P.underlying dst=some .string):
 (convert src dst v).run P w=.ok (.string (bs l)) w:=by
 have a:n=l.length:=by have:=h.1;simp at this;omega
 rcases h.2 with ⟨rfl,r⟩|⟨g,cap,k,rfl,hb,s,m,i,o,b⟩
 ·have:l=[]:=QA (by omega)
  subst this;exact run_convert_bytes_nil w src e d f 0 0 dst c
 ·subst a
  refine run_convert_bytes_back w src dst e ⟨g,0,none⟩ cap l d f c (λj q=>?_);exact h.cells (g:=g) rfl j _ (by simp[Qe q,zd1])
theorem ziI{x:ByteArray}{l:jE}(h:x.data.toList=l):x=bs l:=by subst h;rfl
theorem zd6(w:World)(a:List Value)(t:TypeId):∀j u,a[j]? = some u->(w.alloc (.cells a.toArray t)).cell? ((⟨w.heap.size,0,none⟩:Addr).add j)=some u:=λj u h=>by
 rw[zbd,Qo (w.alloc (.cells a.toArray t)) w.heap.size j a.toArray t (0,0) (Qv w _)]
 simpa using h
def OwnB(w:World)(base:Nat)(v:Value)(l:jE):Prop:=w.ownsRow base 5 1 v l.length (l.map zd1)
theorem OwnB.nil(w:World)(base:Nat):OwnB w base (jD 0 0) []:=ZH w base 5 1
theorem OwnB.string{w:World}{base:Nat}{v:Value}{l:jE}(h:OwnB w base v l):(convert 176 9 v).run Tryz.prog w=.ok (.string (bs l)) w:=
 zgm 176 9 5 h Tryz.underlying176 Tryz.underlying5 Tryz.underlying9
theorem znW:(Tryz.prog.info? 5).map (λi=>(i.zero,i.size,i.bytes))=some (some (.int .u8 0),1,1):=by kernel_rfl
section
variable {P:Program} {ops:Array Oper} {rest:List Oper} {o:Oper} {a:Act} {Q:Exit->Act->World->Prop} {w:World}
theorem zek(d:o.guard=none)(x:Operand)(src dst e:TypeId)(i:o.op=.convert src dst x)
 (k:P.underlying src=some .string) (f:P.underlying dst=some (.slice e)) (m:P.underlying e=some (.int .u8)) (s:ByteArray) (l:a.eval x=.string s)
 (h:∀(c:Nat) (w':World),s.size<=c->BytesAt w' w.heap.size s.data.toList->w w'->w'.heap.size=w.heap.size+1->
  wpList P ops Q rest (a.put o.dst (.slice w.heap.size s.size c)) w'):wpList P ops Q (o::rest) a w:=by
 refine Z3 d λK g=>?_
 have j:=run_bytes_of_string (P:=P) w src dst e s k f m;unfold Oper.wp execOp;simp only[i,Xj,Sem.run_pure,ZY,l,j];have b:=grownCap_ge w s.size 0 e;exact g _ _ (h _ _ b (ztq w s _ b e) (((Qi _ w).drew).alloc (Qd _) _) (by simp))
theorem zkh{K:Act->World->Prop}(s x:Operand)(t:TypeId)(L:o.op=.call {callee:=.builtin .append,args:=#[s,x],argTypes:=#[t,t]})
 (base:Nat) (e:TypeId) (i:TypeInfo) (z:Value) (size b:Nat) (G:P.underlying t=some (.slice e)) (O:P.info? e=some i) (J:i.zero=some z)
 (l:i.size=size) (B:i.bytes=b) (E:z.cells.size=size) (A:0<size)
 (v:Value) (n:Nat) (C:List Value) (N:a.eval s=v) (j:w.ownsRow base e size v n C) (d:base<=w.heap.size)
 (f:List Value) (m c:Nat) (S:a.eval x=.slice w.heap.size m c) (hl:f.length=m*size) (h1:∀u∈f,u.oneCell'=true)
 (y:n+m<=maxLen) (g:(n+m)*b<=140737488355328)
 (h:∀v' w',w'.ownsRow base e size v' (n+m) (C++f)->Below base w w'->base<=w'.heap.size->K (a.put o.dst v') w'):
 o.wp P a (w.alloc (.cells f.toArray e)) K Q:=by
 have q:=j.alloc (.cells f.toArray e);refine wp_append_own (P:=P) (w.alloc (.cells f.toArray e)) s x t L base e i z size b G O J l B E A v n C N q ⟨w.heap.size,0,none⟩ m c f S hl (zd6 w f e) h1 y g (by simp;omega) ?_;intro v' w' D H _;have F:Below base w (w.alloc (.cells f.toArray e)):=(Qi _ _).alloc d _;have r:=F.grown H (by simp;omega) (λk I=>(j.lt k I).1);exact h v' w' D r (Ql d r.size)
end
section
variable {ops:Array Oper} {rest:List Oper} {o:Oper} {a:Act} {Q:Exit->Act->World->Prop} {w:World}
theorem znr{K:Act->World->Prop}(s x:Operand)(y:o.op=.call {callee:=.builtin .append,args:=#[s,x],argTypes:=#[176,176]})
 (base:Nat) (v:Value) (l:jE) (A:a.eval s=v) (f:OwnB w base v l) (e:base<=w.heap.size)
 (r:List Value) (d:jE) (D:r=d.map zd1) (m c:Nat) (C:a.eval x=.slice w.heap.size m c) (hl:d.length=m)
 (g:l.length+m<=140737488355328)
 (h:∀v' w',OwnB w' base v' (l++d)->Below base w w'->base<=w'.heap.size->K (a.put o.dst v') w'):
 o.wp Tryz.prog a (w.alloc (.cells r.toArray 5)) K Q:=by
 subst D;subst hl
 obtain⟨t,B,j,k,n⟩:=ZG znW
 refine zkh s x 176 y base 5 t (.int .u8 0) 1 1 Tryz.underlying176 B j k n rfl (by decide) v l.length (l.map zd1) A f e (d.map zd1) d.length c C (by simp)
  (λu z=>by obtain⟨b,_,rfl⟩:=QS.1 z;rfl) (by unfold maxLen;omega) (by omega) ?_
 intro v' w' q hb i;exact h v' w' (by unfold OwnB;rw[Qb,Q2];exact q) hb i
theorem zag(g:o.guard=none)(s x:Operand)(k:o.op=.call {callee:=.builtin .append,args:=#[s,x],argTypes:=#[176,176]})
 (base:Nat) (v:Value) (l:jE) (q:a.eval s=v) (f:OwnB w base v l) (e:base<=w.heap.size)
 (i:List Value) (b:jE) (t:i=b.map zd1) (m c:Nat) (r:a.eval x=.slice w.heap.size m c) (hl:b.length=m)
 (d:l.length+m<=140737488355328)
 (h:∀v' w',OwnB w' base v' (l++b)->Below base w w'->base<=w'.heap.size->wpList Tryz.prog ops Q rest (a.put o.dst v') w'):
 wpList Tryz.prog ops Q (o::rest) a (w.alloc (.cells i.toArray 5)):=
 Z3 g λ_ j=>znr s x k base v l q f e i b t m c r hl d λv' w' h1 h2 n=>j _ _ (h v' w' h1 h2 n)
end
theorem zbb(w:World)(o:Obj)(g:Nat)(h:w.heap.size=g):(w.alloc o).heap[g]? = some o:=by rw[<-h];exact Qv w o
structure Set4 where
 a:Int
 b:Int
 c:Int
 d:Int
deriving DecidableEq
def Set4.zero:Set4:=⟨0,0,0,0⟩
def Set4.word(s:Set4)(k:Nat):Int:=if k=0 then s.a else if k=1 then s.b else if k=2 then s.c else s.d
def hasB(s:Set4)(x:UInt8):Bool:=s.word (x.toNat / 64) / 2 ^ (x.toNat % 64) % 2==1
inductive Tree where
 |node (kind:Int) (set:Set4) (kids:List Tree)
def zhO(k:Int):Int:=if k=4\/k=5 then 2 else if k=6 then 1 else if k=1\/k=2\/k=3\/k=7\/k=8 then 0 else -1
def badT(k:Int)(s:Set4)(n:Nat):Bool:=zhO k != n||(k==3)==(decide (s=Set4.zero))
mutual
def chk:Tree->Int->Int->Int × Int
 |.node k s b,a,n=>
  if 80<n+1 then (n+1,2)else if 20<a then (n+1,11)else if badT k s b.length=true then (n+1,1)else chkL b (a+1) (n+1)
def chkL:List Tree->Int->Int->Int × Int
 | [],_,n=>(n,0)
 |t::b,a,n=>if (chk t a n).2≠0 then chk t a n else chkL b a (chk t a n).1
end
mutual
def Fine:Tree->Prop
 |.node k s a=>badT k s a.length=false/\zfL a
def zfL:List Tree->Prop
 | []=>True
 |t::a=>Fine t/\zfL a
end
mutual
theorem zkE:∀(t:Tree) (a n:Int),(chk t a n).2=0->Fine t
 |.node k s b,a,n,h=>by
  rw[chk]at h
  by_cases c1:80<n+1
  ·rw[Qj c1]at h;exact absurd (show (2:Int)=0 from h) (by decide)
  ·rw[Qf c1]at h
   by_cases c2:20<a
   ·rw[Qj c2]at h;exact absurd (show (11:Int)=0 from h) (by decide)
   ·rw[Qf c2]at h
    cases c3:badT k s b.length with
    |true=>rw[c3,Qj rfl]at h;exact absurd (show (1:Int)=0 from h) (by decide)
    |false=>
     rw[c3,Qf (by decide)]at h;rw[Fine];exact⟨c3,zmQ b _ _ h⟩
theorem zmQ:∀(b:List Tree) (a n:Int),(chkL b a n).2=0->zfL b
 | [],_,_,_=>by rw[zfL];trivial
 |t::b,a,n,h=>by
  rw[chkL]at h
  by_cases c:(chk t a n).2≠0
  ·rw[Qj c]at h;exact absurd h c
  ·rw[Qf c]at h
   rw[zfL];exact⟨zkE t a n (ZZ.1 c),zmQ b _ _ h⟩
end
inductive zkP:Int->List Tree->Prop
 |none:zkP 1 []
 |empty:zkP 2 []
 |byte:zkP 3 []
 |cat (a b:Tree):Fine a->Fine b->zkP 4 [a,b]
 |alt (a b:Tree):Fine a->Fine b->zkP 5 [a,b]
 |star (a:Tree):Fine a->zkP 6 [a]
 |begin:zkP 7 []
 |finish:zkP 8 []
theorem zqU{k:Int}{s:Set4}{e:List Tree}(h:Fine (.node k s e)):zkP k e:=by
 rw[Fine]at h;obtain⟨h1,h2⟩:=h;unfold badT at h1
 have d:zhO k=e.length:=by
  cases f:(zhO k != (e.length:Int))with
  |true=>rw[f]at h1;simp at h1
  |false=>simpa using f
 unfold zhO at d
 by_cases c1:k=4\/k=5
 ·rw[Qj c1]at d
  match e,d,h2 with
  | [a,b],_,h2=>
   rw[zfL,zfL]at h2
   rcases c1 with rfl|rfl
   ·exact .cat a b h2.1 h2.2.1
   ·exact .alt a b h2.1 h2.2.1
  | [],d,_=>exact absurd d (by decide)
  | [a],d,_=>exact absurd d (by simp)
  |a::b::c::r,d,_=>simp only[Qq]at d;omega
 ·rw[Qf c1]at d
  by_cases c2:k=6
  ·rw[Qj c2]at d
   subst c2
   match e,d,h2 with
   | [a],_,h2=>rw[zfL]at h2;exact .star a h2.1
   | [],d,_=>exact absurd d (by decide)
   |a::b::r,d,_=>simp only[Qq]at d;omega
  ·rw[Qf c2]at d
   by_cases c3:k=1\/k=2\/k=3\/k=7\/k=8
   ·rw[Qj c3]at d
    have:e=[]:=QA (by omega);subst this
    rcases c3 with rfl|rfl|rfl|rfl|rfl
    ·exact .none
    ·exact .empty
    ·exact .byte
    ·exact .begin
    ·exact .finish
   ·rw[Qf c3]at d;omega
inductive M (l:List UInt8):Tree->Nat->Nat->Prop
 |empty (s:Set4) (i:Nat):i<=l.length->M l (.node 2 s []) i i
 |byte (s:Set4) (i:Nat) (x:UInt8):l[i]? = some x->hasB s x=true->M l (.node 3 s []) i (i+1)
 |cat (s:Set4) (a b:Tree) (i j k:Nat):M l a i j->M l b j k->M l (.node 4 s [a,b]) i k
 |altl (s:Set4) (a b:Tree) (i j:Nat):M l a i j->M l (.node 5 s [a,b]) i j
 |altr (s:Set4) (a b:Tree) (i j:Nat):M l b i j->M l (.node 5 s [a,b]) i j
 |nil (s:Set4) (a:Tree) (i:Nat):i<=l.length->M l (.node 6 s [a]) i i
 |more (s:Set4) (a:Tree) (i j k:Nat):M l (.node 6 s [a]) i j->M l a j k->M l (.node 6 s [a]) i k
 |begin (s:Set4):M l (.node 7 s []) 0 0
 |finish (s:Set4):M l (.node 8 s []) l.length l.length
theorem M.le{l:jE}{t:Tree}{i j:Nat}(h:M l t i j):i<=j/\j<=l.length:=by
 induction h with
 |empty s i h=>exact⟨Qd _,h⟩
 |byte s i x h _=>have:=(Qy.1 h).1;omega
 |cat s a b i j k _ _ h1 h2=>omega
 |altl s a b i j _ h=>exact h
 |altr s a b i j _ h=>exact h
 |nil s a i h=>exact⟨Qd _,h⟩
 |more s a i j k _ _ h1 h2=>omega
 |begin s=>omega
 |finish s=>omega
