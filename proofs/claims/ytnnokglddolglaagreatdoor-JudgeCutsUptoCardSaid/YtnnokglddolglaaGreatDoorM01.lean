/- Lemmas for the last texts. -/
import Derived.Test.YtnnokglddolglaaGreatDoorM00
import Derived.Shelf.Strings.Builder1
import Derived.Shelf.Strings.Builder2
import Derived.Shelf.Strings.OnBuilder
import Derived.Shelf.Small.Utf8
import Derived.Shelf.Small.Bits
import Derived.Shelf.Small.Strs
import Derived.Shelf.Small.Wraps
import Derived.Shelf.Strings.BuilderF
import Derived.Shelf.Strings.BuilderK
import Derived.Shelf.Utf8.RuneCount
import Derived.Shelf.Strings.Builder2Cap
import Derived.Shelf.Strconv.Itoa0
import Derived.Shelf.Strconv.Itoa1
import Derived.Shelf.LaysM
import Derived.Shelf.Strconv.Itoa2
import Derived.Shelf.Strconv.Itoa3
import Derived.Shelf.Strconv.Itoa4
import Derived.Shelf.Strings.Search1
import Derived.Shelf.Strings.Search2
import Derived.Shelf.Strings.Search3
import Derived.Shelf.Strings.Cut
import Derived.Shelf.Strings.Count
import Derived.Shelf.Strings.Shaped
import Derived.Shelf.Sort.Plain
import Derived.Shelf.Strings.Prefix
import Derived.Shelf.Strings.Split
import Derived.Shelf.Strings.SplitShaped
import Derived.Shelf.Unicode.Decode
import Derived.Shelf.Strings.Runes
import Derived.Shelf.Strings.RuneCount
import Derived.Shelf.Strings.IndexAny
import Derived.Shelf.Strings.AsciiSet
import Derived.Shelf.Strings.IndexAnyAll
import Derived.Shelf.Strings.Explode
import Derived.Shelf.Unicode.DecodeSlow
import Derived.Shelf.Unicode.DecodeAny
import Derived.Shelf.Strings.BuilderCap
import Derived.Shelf.Slices.Turned
import Derived.Shelf.Slices.Equal
import Derived.Ground.Names2Prog
import Derived.Shelf.Slices.Clone
import Derived.Shelf.Slices.SearchI
import Derived.Shelf.Slices.In.SortNone
import Derived.Shelf.Slices.Empties2
import Derived.Test.YtnnokglddolglaaGreatDoorProg
import Derived.Test.YtnnokglddolglaaGreatDoorRows
import Derived.WalkKit
import Derived.ProofKit
import Derived.OpenShut
import Derived.ShutString
import Derived.JoinedCond
import Derived.SizedLaws
import Derived.HandedShaped
namespace Go.Proofs
open Go.Shelf
def Tryz.lays169_ren:Go.Shelf.Ren:=⟨λ|169=>63|n=>n,λ|70=>139|9=>9|0=>0|72=>142|37=>140|127=>174|3=>3|5=>5|n=>n,λ|n=>n⟩
theorem Tryz.lays169:Go.Proofs.Lays.n169 Tryz.prog Tryz.lays169_ren:=by constructor<;>first|kernel_rfl|(intro _;kernel_rfl)
theorem Tryz.Builder_Extra_169:Builder.Extra Tryz.prog Tryz.lays169_ren:=by constructor<;>first|kernel_rfl|(intro _;kernel_rfl)|decide|(constructor<;>first|kernel_rfl|(intro _;kernel_rfl)|decide)
open Go.RowKit in
theorem Tryz.Builder_String_any(B b:Nat)(l:jE)(w:World)(h:Lib.IsBuilder 142 5 B b (Lib.byteCells l) w)(a:B<=w.heap.size):
 Calls Tryz.prog 63 #[.pointer b] w λe w'=>e=jC (.string ⟨l.toArray⟩)/\Below B w w':=Any.Builder_String_any Tryz.lays169 Tryz.Builder_Extra_169 B b l w h a
def Tryz.lays156_ren:Go.Shelf.Ren:=⟨λ|156=>211|165=>256|166=>62|169=>63|240=>95|241=>285|276=>130|277=>305|n=>n,λ|31=>125|9=>9|3=>3|4=>4|0=>0|20=>20|72=>142|76=>145|70=>139|37=>140|75=>144|127=>174|164=>218|5=>5|80=>147|n=>n,λ|n=>n⟩
theorem Tryz.lays156:Go.Proofs.Lays.n156 Tryz.prog Tryz.lays156_ren:=by constructor<;>first|kernel_rfl|(intro _;kernel_rfl)
theorem Tryz.Builder_Extra_156:Builder.Extra Tryz.prog Tryz.lays156_ren:=by constructor<;>first|kernel_rfl|(intro _;kernel_rfl)|decide|(constructor<;>first|kernel_rfl|(intro _;kernel_rfl)|decide)
open Go.RowKit in
theorem Tryz.strings_Join_none(a:Option Addr)(c:Nat)(b:ByteArray)(w:World):
 Calls Tryz.prog 211 #[.slice a 0 c,.string b] w λe w'=>e=jC (.string ⟨#[]⟩)/\w'=w:=Any.strings_Join_none Tryz.lays156 Tryz.Builder_Extra_156 a c b w
open Go.RowKit in
theorem Tryz.strings_Join(g o c:Nat)(xs:List ByteArray)(a:ByteArray)(w:World)(b:∀(j:Nat) x,xs[j]? = some x->w.cell? ⟨g,o+j,none⟩=some (.string x))(h:g<w.heap.size)(i:xs.length<=140737488355328)(d:xs.length<=c)(f:(Lib.join (xs.map (·.data.toList)) a.data.toList).length<=140737488355328):
 Calls Tryz.prog 211 #[.slice (some ⟨g,o,none⟩) xs.length c,.string a] w λe w'=>e=jC (.string ⟨(Lib.join (xs.map (·.data.toList)) a.data.toList).toArray⟩)/\w w':=Any.strings_Join Tryz.lays156 Tryz.Builder_Extra_156 g o c xs a w b h i d f
def Tryz.lays119_ren:Go.Shelf.Ren:=⟨λ|119=>274|n=>n,λ|21=>21|4=>4|n=>n,λ|n=>n⟩
theorem Tryz.lays119:Go.Proofs.Lays.n119 Tryz.prog Tryz.lays119_ren:=by constructor<;>first|kernel_rfl|(intro _;kernel_rfl)
theorem Tryz.utf8_ValidRune(r:Int)(w:World):
 Calls Tryz.prog 274 #[.int .i32 r] w λe w'=>e=jC (.bool (Lib.validRune r))/\w'=w:=Any.utf8_ValidRune Tryz.lays119 r w
def Tryz.lays125_ren:Go.Shelf.Ren:=⟨λ|125=>184|128=>231|129=>170|n=>n,λ|46=>213|3=>3|51=>30|53=>180|4=>4|5=>5|9=>9|n=>n,λ|n=>n⟩
theorem Tryz.lays125:Go.Proofs.Lays.n125 Tryz.prog Tryz.lays125_ren:=by constructor<;>first|kernel_rfl|(intro _;kernel_rfl)
theorem Tryz.bits_Len(x:Int)(w:World)(a:0<=x)(h1:x<=18446744073709551615):
 Calls Tryz.prog 184 #[jB x] w λe w'=>e=jC (jA (Lib.bitLen x.toNat))/\w'=w:=Any.bits_Len Tryz.lays125 x w a h1
def Tryz.lays137_ren:Go.Shelf.Ren:=⟨λ|137=>122|217=>124|266=>164|n=>n,λ|9=>9|5=>5|3=>3|n=>n,λ|n=>n⟩
theorem Tryz.lays137:Go.Proofs.Lays.n137 Tryz.prog Tryz.lays137_ren:=by constructor<;>first|kernel_rfl|(intro _;kernel_rfl)
open Go.RowKit in
theorem Tryz.strings_IndexByte(s:ByteArray)(c:Int)(w:World):
 Calls Tryz.prog 122 #[.string s,.int .u8 c] w λe w'=>e=jC (jA (Lib.indexByte s.data.toList c.toNat.toUInt8))/\w'=w:=Any.strings_IndexByte Tryz.lays137 s c w
def Tryz.lays210_ren:Go.Shelf.Ren:=⟨λ|210=>152|206=>189|n=>n,λ|9=>9|4=>4|3=>3|n=>n,λ|n=>n⟩
def Tryz.lays103_ren:Go.Shelf.Ren:=⟨λ|103=>114|210=>152|206=>189|n=>n,λ|9=>9|4=>4|24=>70|3=>3|n=>n,λ|n=>n⟩
theorem Tryz.lays103:Go.Proofs.Lays.n103 Tryz.prog Tryz.lays103_ren:=by constructor<;>first|kernel_rfl|(intro _;kernel_rfl)
open Go.RowKit in
theorem Tryz.strings_CutPrefix(s p:ByteArray)(w:World):
 Calls Tryz.prog 114 #[.string s,.string p] w λe w'=>e=jC (.tuple #[.string ⟨(Lib.trimPrefix s.data.toList p.data.toList).toArray⟩,.bool (Lib.hasPrefix s.data.toList p.data.toList)])/\w'=w:=Any.strings_CutPrefix Tryz.lays103 s p w
def Tryz.lays104_ren:Go.Shelf.Ren:=⟨λ|104=>128|211=>166|207=>212|n=>n,λ|9=>9|4=>4|24=>70|3=>3|n=>n,λ|n=>n⟩
theorem Tryz.lays104:Go.Proofs.Lays.n104 Tryz.prog Tryz.lays104_ren:=by constructor<;>first|kernel_rfl|(intro _;kernel_rfl)
open Go.RowKit in
theorem Tryz.strings_CutSuffix(s p:ByteArray)(w:World)(a:s.size<=9223372036854775807):
 Calls Tryz.prog 128 #[.string s,.string p] w λe w'=>e=jC (.tuple #[.string ⟨(Lib.trimSuffix s.data.toList p.data.toList).toArray⟩,.bool (Lib.hasSuffix s.data.toList p.data.toList)])/\w'=w:=Any.strings_CutSuffix Tryz.lays104 s p w a
def Tryz.lays215_ren:Go.Shelf.Ren:=⟨λ|215=>273|n=>n,λ|3=>3|4=>4|n=>n,λ|n=>n⟩
def Tryz.laysM246_ren:Go.Shelf.Ren:=⟨λ|246=>98|283=>132|284=>133|285=>134|286=>135|129=>170|317=>169|318=>171|319=>172|320=>173|337=>214|338=>215|n=>n,λ|2=>2|3=>3|9=>9|4=>4|171=>221|0=>0|53=>180|37=>140|5=>5|173=>224|212=>267|51=>30|20=>20|213=>268|46=>213|232=>324|233=>325|n=>n,λ|17=>1|18=>2|19=>3|n=>n⟩
def Tryz.laysM243_ren:Go.Shelf.Ren:=⟨λ|243=>91|246=>98|283=>132|284=>133|285=>134|286=>135|129=>170|317=>169|318=>171|319=>172|320=>173|337=>214|338=>215|n=>n,λ|3=>3|9=>9|2=>2|4=>4|171=>221|0=>0|53=>180|37=>140|5=>5|173=>224|212=>267|51=>30|20=>20|213=>268|46=>213|232=>324|233=>325|n=>n,λ|17=>1|18=>2|19=>3|n=>n⟩
def Tryz.laysM171_ren:Go.Shelf.Ren:=⟨λ|171=>58|243=>91|246=>98|283=>132|284=>133|285=>134|286=>135|129=>170|317=>169|318=>171|319=>172|320=>173|337=>214|338=>215|n=>n,λ|3=>3|9=>9|2=>2|4=>4|171=>221|0=>0|53=>180|37=>140|5=>5|173=>224|212=>267|51=>30|20=>20|213=>268|46=>213|232=>324|233=>325|n=>n,λ|17=>1|18=>2|19=>3|n=>n⟩
theorem Tryz.laysM171:Go.Proofs.LaysM.n171 Tryz.prog Tryz.laysM171_ren:=by constructor<;>first|kernel_rfl|(intro _;kernel_rfl)|(constructor<;>first|kernel_rfl|(intro _;kernel_rfl))
open Go.RowKit Go.Sort Go.Lib in
theorem Tryz.strconv_Itoa (n:Int) (b:-9223372036854775808<=n) (h1:n<=9223372036854775807) (w:World) (a:Lib.TabIs Tryz.prog w "internal/strconv.uint64pow10" .u64 Lib.pow10Tab):
 Calls Tryz.prog 58 #[jA n] w λe w'=>e=jC (.string ⟨(Lib.itoa n).toArray⟩)/\∃k os,w'=grow (w.drewN k) os:=Any.strconv_Itoa Tryz.laysM171 n b h1 w a
def Tryz.lays219_ren:Go.Shelf.Ren:=⟨λ|219=>92|217=>124|225=>125|224=>126|267=>127|266=>164|314=>165|n=>n,λ|9=>9|3=>3|4=>4|5=>5|46=>213|146=>263|51=>30|n=>n,λ|1=>0|n=>n⟩
def Tryz.lays143_ren:Go.Shelf.Ren:=⟨λ|143=>59|219=>92|217=>124|225=>125|224=>126|267=>127|266=>164|314=>165|n=>n,λ|9=>9|3=>3|4=>4|5=>5|46=>213|146=>263|51=>30|n=>n,λ|1=>0|n=>n⟩
theorem Tryz.lays143:Go.Proofs.Lays.n143 Tryz.prog Tryz.lays143_ren:=by constructor<;>first|kernel_rfl|(intro _;kernel_rfl)
open Go.RowKit Go.Lib in
theorem Tryz.strings_Index(s a:ByteArray)(m:Int)(w:World)(c:s.size<4294967281)(b:w.cell? (0:)=some (jA m)):
 Calls Tryz.prog 59 #[.string s,.string a] w λe w'=>e=jC (jA (Lib.index s.data.toList a.data.toList))/\w'=w:=Any.strings_Index Tryz.lays143 s a m w c b
def Tryz.lays144_ren:Go.Shelf.Ren:=⟨λ|144=>208|143=>59|219=>92|217=>124|225=>125|224=>126|267=>127|266=>164|314=>165|n=>n,λ|9=>9|4=>4|3=>3|5=>5|46=>213|146=>263|51=>30|n=>n,λ|1=>0|n=>n⟩
theorem Tryz.lays144:Go.Proofs.Lays.n144 Tryz.prog Tryz.lays144_ren:=by constructor<;>first|kernel_rfl|(intro _;kernel_rfl)
open Go.RowKit Go.Lib in
theorem Tryz.strings_Contains(s a:ByteArray)(m:Int)(w:World)(c:s.size<4294967281)(b:w.cell? (0:)=some (jA m)):
 Calls Tryz.prog 208 #[.string s,.string a] w λe w'=>e=jC (.bool (Lib.contains s.data.toList a.data.toList))/\w'=w:=Any.strings_Contains Tryz.lays144 s a m w c b
def Tryz.lays145_ren:Go.Shelf.Ren:=⟨λ|145=>78|220=>110|219=>92|217=>124|225=>125|224=>126|267=>127|266=>164|314=>165|n=>n,λ|9=>9|4=>4|59=>161|3=>3|5=>5|46=>213|146=>263|51=>30|n=>n,λ|1=>0|n=>n⟩
theorem Tryz.lays145:Go.Proofs.Lays.n145 Tryz.prog Tryz.lays145_ren:=by constructor<;>first|kernel_rfl|(intro _;kernel_rfl)
open Go.RowKit Go.Lib in
theorem Tryz.strings_Cut(s a:ByteArray)(m:Int)(w:World)(c:s.size<4294967281)(b:w.cell? (0:)=some (jA m)):
 Calls Tryz.prog 78 #[.string s,.string a] w λe w'=>e=jC (.tuple #[.string ⟨(Lib.cut s.data.toList a.data.toList).1.toArray⟩,.string ⟨(Lib.cut s.data.toList a.data.toList).2.1.toArray⟩,.bool (Lib.cut s.data.toList a.data.toList).2.2])/\∃n,w'=w.drewN n:=Any.strings_Cut Tryz.lays145 s a m w c b
def Tryz.lays189_ren:Go.Shelf.Ren:=⟨λ|189=>145|125=>184|257=>183|128=>231|129=>170|294=>222|295=>223|296=>224|297=>225|298=>226|299=>227|216=>228|300=>229|301=>230|328=>268|329=>269|330=>270|331=>271|332=>272|215=>273|343=>294|n=>n,λ|28=>31|3=>3|46=>213|0=>0|51=>30|53=>180|4=>4|183=>298|182=>297|131=>295|5=>5|9=>9|218=>333|222=>272|228=>363|229=>364|n=>n,λ|n=>n⟩
theorem Tryz.lays189:Go.Proofs.Lays.n189 Tryz.prog Tryz.lays189_ren:=by constructor<;>first|kernel_rfl|(intro _;kernel_rfl)
open Go.Sort Go.RowKit in
theorem Tryz.slices_Sort_int(blk off cap:Nat)(b:List Int)(w:World)(d:Holds (Value.int .i64) w blk off b.toArray)(a:blk<w.heap.size)(c:b.length<4611686018427387904):
 Calls Tryz.prog 145 #[.slice (some ⟨blk,off,none⟩) b.length cap] w λe w'=>
  e=jC (.tuple #[])/\∃n os,w'=grow (putRow (Value.int .i64) (Sort.ahead w n) blk off (b.mergeSort λx y=>decide (x<=y)).toArray) os:=Any.slices_Sort_int Tryz.lays189 blk off cap b w d a c
def Tryz.lays99_ren:Go.Shelf.Ren:=⟨λ|99=>209|206=>189|n=>n,λ|9=>9|4=>4|3=>3|n=>n,λ|n=>n⟩
theorem Tryz.lays99:Go.Proofs.Lays.n99 Tryz.prog Tryz.lays99_ren:=by constructor<;>first|kernel_rfl|(intro _;kernel_rfl)
open Go.RowKit Go.Lib in
theorem Tryz.strings_HasPrefix(s p:ByteArray)(w:World):
 Calls Tryz.prog 209 #[.string s,.string p] w λe w'=>e=jC (.bool (Lib.hasPrefix s.data.toList p.data.toList))/\w'=w:=Any.strings_HasPrefix Tryz.lays99 s p w
def Tryz.lays100_ren:Go.Shelf.Ren:=⟨λ|100=>210|207=>212|n=>n,λ|9=>9|4=>4|3=>3|n=>n,λ|n=>n⟩
theorem Tryz.lays100:Go.Proofs.Lays.n100 Tryz.prog Tryz.lays100_ren:=by constructor<;>first|kernel_rfl|(intro _;kernel_rfl)
open Go.RowKit Go.Lib in
theorem Tryz.strings_HasSuffix(s p:ByteArray)(w:World)(a:s.size<=9223372036854775807):
 Calls Tryz.prog 210 #[.string s,.string p] w λe w'=>e=jC (.bool (Lib.hasSuffix s.data.toList p.data.toList))/\w'=w:=Any.strings_HasSuffix Tryz.lays100 s p w a
def Tryz.lays102_ren:Go.Shelf.Ren:=⟨λ|102=>237|209=>275|207=>212|n=>n,λ|9=>9|4=>4|3=>3|n=>n,λ|n=>n⟩
theorem Tryz.lays102:Go.Proofs.Lays.n102 Tryz.prog Tryz.lays102_ren:=by constructor<;>first|kernel_rfl|(intro _;kernel_rfl)
open Go.RowKit Go.Lib in
theorem Tryz.strings_TrimSuffix(s p:ByteArray)(w:World)(a:s.size<=9223372036854775807):
 Calls Tryz.prog 237 #[.string s,.string p] w λe w'=>e=jC (.string ⟨(Lib.trimSuffix s.data.toList p.data.toList).toArray⟩)/\w'=w:=Any.strings_TrimSuffix Tryz.lays102 s p w a
def Tryz.lays221_ren:Go.Shelf.Ren:=⟨λ|221=>109|268=>149|138=>150|143=>59|195=>186|197=>187|218=>188|219=>92|260=>232|217=>124|225=>125|224=>126|267=>127|266=>164|314=>165|n=>n,λ|9=>9|3=>3|31=>125|4=>4|0=>0|105=>283|21=>21|5=>5|46=>213|119=>338|139=>341|138=>340|146=>263|51=>30|n=>n,λ|1=>0|3=>4|4=>5|n=>n⟩
def Tryz.lays146_ren:Go.Shelf.Ren:=⟨λ|146=>77|221=>109|268=>149|138=>150|143=>59|195=>186|197=>187|218=>188|219=>92|260=>232|217=>124|225=>125|224=>126|267=>127|266=>164|314=>165|n=>n,λ|9=>9|31=>125|3=>3|4=>4|0=>0|105=>283|21=>21|5=>5|46=>213|119=>338|139=>341|138=>340|146=>263|51=>30|n=>n,λ|1=>0|3=>4|4=>5|n=>n⟩
theorem Tryz.lays146:Go.Proofs.Lays.n146 Tryz.prog Tryz.lays146_ren:=by constructor<;>first|kernel_rfl|(intro _;kernel_rfl)
open Go.RowKit Go.Lib in
theorem Tryz.strings_Split(s a:ByteArray)(m:Int)(w:World)(c:s.size<4294967281)(b:w.cell? (0:)=some (jA m))(h1:1<=a.size):
 Calls Tryz.prog 77 #[.string s,.string a] w λe w'=>
  e=jC (.slice w.heap.size (Lib.countB s a+1) (Lib.countB s a+1))/\w'=w.alloc (.cells ((Lib.splitB a 0 (Lib.countB s a) s).map Value.string).toArray 9):=Any.strings_Split Tryz.lays146 (by kernel_rfl) s a m w c b h1
def Tryz.laysM146_ren:Go.Shelf.Ren:=⟨λ|146=>77|221=>109|268=>149|138=>150|143=>59|195=>186|197=>187|218=>188|219=>92|260=>232|217=>124|225=>125|224=>126|267=>127|266=>164|314=>165|n=>n,λ|9=>9|31=>125|3=>3|4=>4|0=>0|105=>283|21=>21|5=>5|46=>213|119=>338|139=>341|138=>340|146=>263|51=>30|n=>n,λ|1=>0|3=>4|4=>5|n=>n⟩
theorem Tryz.laysM146:Go.Proofs.LaysM.n146 Tryz.prog Tryz.laysM146_ren:=by constructor<;>first|kernel_rfl|(intro _;kernel_rfl)|decide|exact λw h=>Go.Proofs.cell_of_shapedOpen_int (zero:=#[jA 0]) (t:=3) h (of_decide_eq_true (by kernel_rfl)) (by kernel_rfl) rfl (by kernel_rfl) (by kernel_rfl) Tryz.underlying3|(constructor<;>first|kernel_rfl|(intro _;kernel_rfl)|decide|exact λw h=>Go.Proofs.cell_of_shapedOpen_int (zero:=#[jA 0]) (t:=3) h (of_decide_eq_true (by kernel_rfl)) (by kernel_rfl) rfl (by kernel_rfl) (by kernel_rfl) Tryz.underlying3)
def Tryz.lays152_ren:Go.Shelf.Ren:=⟨λ|152=>233|137=>122|119=>274|224=>126|225=>125|217=>124|266=>164|n=>n,λ|9=>9|21=>21|3=>3|4=>4|5=>5|0=>0|46=>213|n=>n,λ|n=>n⟩
theorem Tryz.lays152:Go.Proofs.Lays.n152 Tryz.prog Tryz.lays152_ren:=by constructor<;>first|kernel_rfl|(intro _;kernel_rfl)
open Go.RowKit Go.Lib in
theorem Tryz.strings_IndexRune_ascii(s:ByteArray)(r:Int)(w:World)(a:0<=r)(h1:r<128):
 Calls Tryz.prog 233 #[.string s,.int .i32 r] w λe w'=>e=jC (jA (Lib.indexByte s.data.toList r.toNat.toUInt8))/\w'=w:=Any.strings_IndexRune_ascii Tryz.lays152 s r w a h1
def Tryz.lays226_ren:Go.Shelf.Ren:=⟨λ|226=>234|n=>n,λ|3=>3|4=>4|n=>n,λ|n=>n⟩
theorem Tryz.lays226:Go.Proofs.Lays.n226 Tryz.prog Tryz.lays226_ren:=by constructor<;>first|kernel_rfl|(intro _;kernel_rfl)
open Go.RowKit Go.Lib in
theorem Tryz.strings_shouldUseASCIISet(n:Int)(w:World):
 Calls Tryz.prog 234 #[jA n] w λe w'=>e=jC (.bool (decide (8<n)))/\w'=w:=Any.strings_shouldUseASCIISet Tryz.lays226 n w
def Tryz.lays153_ren:Go.Shelf.Ren:=⟨λ|153=>190|152=>233|226=>234|227=>235|228=>236|137=>122|119=>274|224=>126|225=>125|217=>124|266=>164|n=>n,λ|9=>9|3=>3|4=>4|5=>5|21=>21|117=>307|116=>306|0=>0|46=>213|124=>343|n=>n,λ|n=>n⟩
theorem Tryz.lays153:Go.Proofs.Lays.n153 Tryz.prog Tryz.lays153_ren:=by constructor<;>first|kernel_rfl|(intro _;kernel_rfl)
open Go.RowKit Go.Lib in
theorem Tryz.strings_IndexAny_long(d:∀w,(zeroValue 306).run Tryz.prog w=.ok (.agg (Array.replicate 256 (.bool false))) w)(s a:ByteArray)(w:World)(h2:2<=a.size)(g:8<s.size)(h:s.size<4294967281)(f:a.size<4294967281)(c:∀(j:Nat) b,a.data.toList[j]? = some b->b.toNat<128):
 Calls Tryz.prog 190 #[.string s,.string a] w λe w'=>e=jC (jA (Lib.indexAny s.data.toList a.data.toList))/\w'=((w.alloc (.cells (Lib.setCells a.data.toList) 306)).alloc (.cells (Lib.setCells a.data.toList) 306)):=Any.strings_IndexAny_long Tryz.lays153 d (by kernel_rfl) s a w h2 g h f c
def Tryz.lays107_ren:Go.Shelf.Ren:=⟨λ|107=>10|108=>31|n=>n,λ|28=>31|3=>3|4=>4|0=>0|n=>n,λ|n=>n⟩
def Tryz.lays110_ren:Go.Shelf.Ren:=⟨λ|110=>90|109=>123|n=>n,λ|31=>125|9=>9|4=>4|3=>3|0=>0|n=>n,λ|n=>n⟩
theorem Tryz.lays110:Go.Proofs.Lays.n110 Tryz.prog Tryz.lays110_ren:=by constructor<;>first|kernel_rfl|(intro _;kernel_rfl)
open Go.Lib in
theorem Tryz.slices_Contains_string(b off n c:Nat)(a:List ByteArray)(x:ByteArray)(w:World)(g:n<=a.length)(d:n<=9223372036854775807)(f:∀j,j<a.length->w.cell? ⟨b,off+j,none⟩=some (.string (a.getD j ByteArray.empty))):
 Calls Tryz.prog 90 #[.slice (some ⟨b,off,none⟩) n c,.string x] w λe w'=>e=jC (.bool (Lib.containsS (a.take n) x))/\w'=w:=Any.slices_Contains_string Tryz.lays110 b off n c a x w g d f
open Go.Lib in
theorem Tryz.slices_Contains_string_empty(a:Option Addr)(c:Nat)(x:ByteArray)(w:World):
 Calls Tryz.prog 90 #[.slice a 0 c,.string x] w λe w'=>e=jC (.bool false)/\w'=w:=Any.slices_Contains_string_empty Tryz.lays110 a c x w
def Tryz.lays111_ren:Go.Shelf.Ren:=⟨λ|111=>30|n=>n,λ|28=>31|3=>3|4=>4|0=>0|n=>n,λ|n=>n⟩
theorem Tryz.lays111:Go.Proofs.Lays.n111 Tryz.prog Tryz.lays111_ren:=by constructor<;>first|kernel_rfl|(intro _;kernel_rfl)
open Go.RowKit Go.Lib in
theorem Tryz.slices_Equal_int(g i n c l h m d:Nat)(xs f:List Int)(w:World)(r:n<=xs.length)(p:m<=f.length)(b:n<=9223372036854775807)(a:m<=9223372036854775807)(o:∀j,j<xs.length->w.cell? ⟨g,i+j,none⟩=some (jA (xs.getD j 0)))(k:∀j,j<f.length->w.cell? ⟨l,h+j,none⟩=some (jA (f.getD j 0))):
 Calls Tryz.prog 30 #[.slice (some ⟨g,i,none⟩) n c,.slice (some ⟨l,h,none⟩) m d] w λe w'=>e=jC (.bool (xs.take n==f.take m))/\∃q,w'=w.drewN q:=Any.slices_Equal_int Tryz.lays111 g i n c l h m d xs f w r p b a o k
open Go.RowKit Go.Lib in
theorem Tryz.slices_Equal_int_empty(b f:Option Addr)(c m d:Nat)(w:World)(a:m<=9223372036854775807):
 Calls Tryz.prog 30 #[.slice b 0 c,.slice f m d] w λe w'=>e=jC (.bool (decide (m=0)))/\w'=w:=Any.slices_Equal_int_empty Tryz.lays111 b f c m d w a
open Go.RowKit Go.Sort in
theorem Tryz.slices_Sort_int_none(p:Option Addr)(cap:Nat)(w:World):
 Calls Tryz.prog 145 #[.slice p 0 cap] w λe w'=>e=jC (.tuple #[])/\w'=w:=Any.slices_Sort_int_none Tryz.lays189 p cap w
open Go.RowKit Go.Lib in
theorem Tryz.slices_Equal_int_lens(b f:Option Addr)(n c m d:Nat)(w:World)(a:n≠m):
 Calls Tryz.prog 30 #[.slice b n c,.slice f m d] w λe w'=>e=jC (.bool false)/\w'=w:=Any.slices_Equal_int_lens Tryz.lays111 b f n c m d w a
end Go.Proofs
namespace Go.Proofs.YtnnokglddolglaaGreatDoor
open Go.RowKit
section
open Go.ChangeShapes Go.WideShapes Go.ChangeAt
theorem own:ownKnob Tryz.prog.godebug=none:=by kernel_rfl
theorem zx1:laidOutB Tryz.prog=true:=by kernel_rfl
theorem zqh{H:Type}{l:List (DataW H)}(a:Rows.uptoSmall H l=true):Rows.uptoBulkAll l<=1048576:=Zr a
section
variable {H:Type} {enc:TypeId × Value->H} {P:Program}
theorem zgM(hl:laidOutB P=true){W W':World}(hb:W W'):∀{f:List TypeId} {e:List Value} {b:List (DataW H)} {a:List MemPlace},
 (∀t∈f,P.readableRec t=true/\t<P.types.size)->DataW.TrodAll enc P W 0 (λ_=>true) true f e b a->(∀x∈a,x.block<W.heap.size)->
 ∀sp:Nat->Bool,(∀p∈a,sp p.block=true)->DataW.TrodAll enc P W' 0 sp true f e b a
 | [],e,b,a,_,h,_,sp,_=>by
  cases e <;> cases b <;> first|exact h|cases h
 |t::f,[],b,a,_,h,_,_,_=>by cases b <;> cases h
 |t::f,v::e,[],a,_,h,_,_,_=>by cases h
 |t::f,v::e,d::b,a,j,h,g,sp,k=>by
  obtain⟨p,q,h1,h2,rfl⟩:=h;obtain⟨l,n⟩:=j t (by simp)
  exact⟨p,q,WideElems.Trod_stays hl l n h1 (λx c=>hb.same (g x (by simp[c]))) (λx c=>k x (by simp[c])),
   zgM hl hb (λm i=>j m (by simp[i])) h2 (λx c=>g x (by simp[c])) sp (λx c=>k x (by simp[c])),rfl⟩
theorem zvM{f:Func}{s:ChangeSpec}{apart fresh e j:Bool}{W W':World}{args:Array Value}{m x:List (DataW H)}{a:List MemPlace}{y:TypeId}
 (hl:laidOutB P=true) (C:∀t∈f.params.toList,P.readableRec t=true/\t<P.types.size) (d:f.resultTypes=#[y]) (l:P.underlying y=some .bool) (c:s.vars=[])
 (w:DataW.Whole enc P f.params.toList s.vars apart W args.toList m x a) (hb:W W')
 (k:s.fn H (m++x)={results:=[.lit (.bool true)],args:=m}):
 s.post enc P f apart fresh e j W args (.bool true) W':=by
 have o:=w;have i:∀p∈a,p.block<W.heap.size:=λp g=>o.lt p g
 have r:∀p∈a,(λb=>decide (b<W.heap.size)) p.block=true:=λp g=>by simpa using i p g
 obtain⟨p,q,A,z,n,B,D⟩:=w;rw[c]at z;obtain⟨rfl,rfl⟩:=trodVars_none z;rw[QE]at n;subst n;have h:∀sp:Nat->Bool,(∀p∈a,sp p.block=true)->DataW.TrodAll enc P W' 0 sp true f.params.toList args.toList m a:=zgM hl hb C A i
 have u:∀(b:Nat) (sp:Nat->Bool) (v:Bool),DataW.TrodAll enc P W' b sp v f.resultTypes.toList ((Value.bool true).resultList f.resultTypes.size) [.lit (.bool true)] []:=λb sp v=>by
  rw[d];exact trodAll_cons_mk (shut_bool l true) trodAll_mk0
 refine⟨m,[],a,[],a,[],o,?_,?_,?_,World.keptBut_mono (λp g=>⟨g,Or.inr (Or.inl g)⟩) (hb.frame (·∈a)),λ_=>?_⟩
 ·rw[k];exact u _ _ _
 ·rw[k];exact h _ r
 ·rw[k,c];exact rfl
 ·refine⟨ok_one (by rw[d]) (by first|rfl|(rw[d];rfl)) (okWide_bool_mk l true),.lit (.bool true)::m,[],a,⟨a,[],?_,by rw[c];exact rfl,by simp,?_,?_⟩,?_⟩
  ·rw[d]
   exact trodAll_cons_mk (shut_bool l true) (h _ (λ_ _=>rfl))
  ·intro b off g
   rw[hb.frozen (i _ g)];exact B b off g
  ·exact D
  ·intro p g _;exact g
end
end
