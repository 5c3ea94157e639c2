/- Lemmas for the last texts. -/
import Derived.Test.YtnnokglddolglaaGreatDoorM00
import Derived.Shelf.Strings.Builder1
import Derived.Shelf.Strings.Builder2
import Derived.Shelf.Strings.OnBuilder
import Derived.Shelf.Small.Utf8
import Derived.Shelf.Small.Bits
import Derived.Shelf.Small.Strs
import Derived.Shelf.Small.Wraps
import Derived.Shelf.Strings.BuilderF
import Derived.Shelf.Strings.BuilderK
import Derived.Shelf.Utf8.RuneCount
import Derived.Shelf.Strings.Builder2Cap
import Derived.Shelf.Strconv.Itoa0
import Derived.Shelf.Strconv.Itoa1
import Derived.Shelf.LaysM
import Derived.Shelf.Strconv.Itoa2
import Derived.Shelf.Strconv.Itoa3
import Derived.Shelf.Strconv.Itoa4
import Derived.Shelf.Strings.Search1
import Derived.Shelf.Strings.Search2
import Derived.Shelf.Strings.Search3
import Derived.Shelf.Strings.Cut
import Derived.Shelf.Strings.Count
import Derived.Shelf.Strings.Shaped
import Derived.Shelf.Sort.Plain
import Derived.Shelf.Strings.Prefix
import Derived.Shelf.Strings.Split
import Derived.Shelf.Strings.SplitShaped
import Derived.Shelf.Unicode.Decode
import Derived.Shelf.Strings.Runes
import Derived.Shelf.Strings.RuneCount
import Derived.Shelf.Strings.IndexAny
import Derived.Shelf.Strings.AsciiSet
import Derived.Shelf.Strings.IndexAnyAll
import Derived.Shelf.Strings.Explode
import Derived.Shelf.Unicode.DecodeSlow
import Derived.Shelf.Unicode.DecodeAny
import Derived.Shelf.Strings.BuilderCap
import Derived.Shelf.Slices.Turned
import Derived.Shelf.Slices.Equal
import Derived.Ground.Names2Prog
import Derived.Shelf.Slices.Clone
import Derived.Shelf.Slices.SearchI
import Derived.Shelf.Slices.In.SortNone
import Derived.Shelf.Slices.Empties2
import Derived.Test.YtnnokglddolglaaGreatDoorProg
import Derived.Test.YtnnokglddolglaaGreatDoorRows
import Derived.WalkKit
import Derived.ProofKit
import Derived.OpenShut
import Derived.ShutString
import Derived.JoinedCond
import Derived.SizedLaws
import Derived.HandedShaped
import Derived.WalkSpells
import Derived.WalkLawsBesides
import Derived.Lib.Hide
import Derived.StillTailTactics
import Derived.Deep.RegionLaw
namespace Go.Proofs
open Go.Shelf
def Tryz.lays156_ren:Go.Shelf.Ren:=⟨λ|156=>211|165=>256|166=>62|169=>63|240=>95|241=>285|276=>130|277=>305|n=>n,λ|31=>125|9=>9|3=>3|4=>4|0=>0|20=>20|72=>142|76=>145|70=>139|37=>140|75=>144|127=>174|164=>218|5=>5|80=>147|n=>n,λ|n=>n⟩
theorem Tryz.lays156:Go.Proofs.Lays.n156 Tryz.prog Tryz.lays156_ren:=by constructor<;>first|kernel_rfl|(intro _;kernel_rfl)
theorem Tryz.Builder_Extra_156:Builder.Extra Tryz.prog Tryz.lays156_ren:=by constructor<;>first|kernel_rfl|(intro _;kernel_rfl)|decide|(constructor<;>first|kernel_rfl|(intro _;kernel_rfl)|decide)
open Go.RowKit in
theorem Tryz.strings_Join_none(a:Option Addr)(c:Nat)(b:ByteArray)(w:World):
 Calls Tryz.prog 211 #[.slice a 0 c,.string b] w λe w'=>e=.returned (.string ⟨#[]⟩)/\w'=w:=Any.strings_Join_none Tryz.lays156 Tryz.Builder_Extra_156 a c b w
open Go.RowKit in
theorem Tryz.strings_Join(h o c:Nat)(d:List ByteArray)(a:ByteArray)(w:World)(b:∀(j:Nat) x,d[j]? = some x->w.cell? ⟨h,o+j,none⟩=some (.string x))(i:h<w.heap.size)(k:d.length<=140737488355328)(f:d.length<=c)(g:(Lib.join (d.map (·.data.toList)) a.data.toList).length<=140737488355328):
 Calls Tryz.prog 211 #[.slice (some ⟨h,o,none⟩) d.length c,.string a] w λe w'=>e=.returned (.string ⟨(Lib.join (d.map (·.data.toList)) a.data.toList).toArray⟩)/\Below w.heap.size w w':=Any.strings_Join Tryz.lays156 Tryz.Builder_Extra_156 h o c d a w b i k f g
def Tryz.lays119_ren:Go.Shelf.Ren:=⟨λ|119=>274|n=>n,λ|21=>21|4=>4|n=>n,λ|n=>n⟩
theorem Tryz.lays119:Go.Proofs.Lays.n119 Tryz.prog Tryz.lays119_ren:=by constructor<;>first|kernel_rfl|(intro _;kernel_rfl)
theorem Tryz.utf8_ValidRune(r:Int)(w:World):
 Calls Tryz.prog 274 #[.int .i32 r] w λe w'=>e=.returned (.bool (Lib.validRune r))/\w'=w:=Any.utf8_ValidRune Tryz.lays119 r w
def Tryz.lays125_ren:Go.Shelf.Ren:=⟨λ|125=>184|128=>231|129=>170|n=>n,λ|46=>213|3=>3|51=>30|53=>180|4=>4|5=>5|9=>9|n=>n,λ|n=>n⟩
theorem Tryz.lays125:Go.Proofs.Lays.n125 Tryz.prog Tryz.lays125_ren:=by constructor<;>first|kernel_rfl|(intro _;kernel_rfl)
theorem Tryz.bits_Len(x:Int)(w:World)(a:0<=x)(h1:x<=18446744073709551615):
 Calls Tryz.prog 184 #[.int .u64 x] w λe w'=>e=.returned (.int .i64 (Lib.bitLen x.toNat))/\w'=w:=Any.bits_Len Tryz.lays125 x w a h1
def Tryz.lays137_ren:Go.Shelf.Ren:=⟨λ|137=>122|217=>124|266=>164|n=>n,λ|9=>9|5=>5|3=>3|n=>n,λ|n=>n⟩
theorem Tryz.lays137:Go.Proofs.Lays.n137 Tryz.prog Tryz.lays137_ren:=by constructor<;>first|kernel_rfl|(intro _;kernel_rfl)
open Go.RowKit in
theorem Tryz.strings_IndexByte(s:ByteArray)(c:Int)(w:World):
 Calls Tryz.prog 122 #[.string s,.int .u8 c] w λe w'=>e=.returned (.int .i64 (Lib.indexByte s.data.toList c.toNat.toUInt8))/\w'=w:=Any.strings_IndexByte Tryz.lays137 s c w
def Tryz.lays210_ren:Go.Shelf.Ren:=⟨λ|210=>152|206=>189|n=>n,λ|9=>9|4=>4|3=>3|n=>n,λ|n=>n⟩
def Tryz.lays103_ren:Go.Shelf.Ren:=⟨λ|103=>114|210=>152|206=>189|n=>n,λ|9=>9|4=>4|24=>70|3=>3|n=>n,λ|n=>n⟩
theorem Tryz.lays103:Go.Proofs.Lays.n103 Tryz.prog Tryz.lays103_ren:=by constructor<;>first|kernel_rfl|(intro _;kernel_rfl)
open Go.RowKit in
theorem Tryz.strings_CutPrefix(s p:ByteArray)(w:World):
 Calls Tryz.prog 114 #[.string s,.string p] w λe w'=>e=.returned (.tuple #[.string ⟨(Lib.trimPrefix s.data.toList p.data.toList).toArray⟩,.bool (Lib.hasPrefix s.data.toList p.data.toList)])/\w'=w:=Any.strings_CutPrefix Tryz.lays103 s p w
def Tryz.lays104_ren:Go.Shelf.Ren:=⟨λ|104=>128|211=>166|207=>212|n=>n,λ|9=>9|4=>4|24=>70|3=>3|n=>n,λ|n=>n⟩
theorem Tryz.lays104:Go.Proofs.Lays.n104 Tryz.prog Tryz.lays104_ren:=by constructor<;>first|kernel_rfl|(intro _;kernel_rfl)
open Go.RowKit in
theorem Tryz.strings_CutSuffix(s p:ByteArray)(w:World)(a:s.size<=9223372036854775807):
 Calls Tryz.prog 128 #[.string s,.string p] w λe w'=>e=.returned (.tuple #[.string ⟨(Lib.trimSuffix s.data.toList p.data.toList).toArray⟩,.bool (Lib.hasSuffix s.data.toList p.data.toList)])/\w'=w:=Any.strings_CutSuffix Tryz.lays104 s p w a
def Tryz.lays215_ren:Go.Shelf.Ren:=⟨λ|215=>273|n=>n,λ|3=>3|4=>4|n=>n,λ|n=>n⟩
def Tryz.laysM246_ren:Go.Shelf.Ren:=⟨λ|246=>98|283=>132|284=>133|285=>134|286=>135|129=>170|317=>169|318=>171|319=>172|320=>173|337=>214|338=>215|n=>n,λ|2=>2|3=>3|9=>9|4=>4|171=>221|0=>0|53=>180|37=>140|5=>5|173=>224|212=>267|51=>30|20=>20|213=>268|46=>213|232=>324|233=>325|n=>n,λ|17=>1|18=>2|19=>3|n=>n⟩
def Tryz.laysM243_ren:Go.Shelf.Ren:=⟨λ|243=>91|246=>98|283=>132|284=>133|285=>134|286=>135|129=>170|317=>169|318=>171|319=>172|320=>173|337=>214|338=>215|n=>n,λ|3=>3|9=>9|2=>2|4=>4|171=>221|0=>0|53=>180|37=>140|5=>5|173=>224|212=>267|51=>30|20=>20|213=>268|46=>213|232=>324|233=>325|n=>n,λ|17=>1|18=>2|19=>3|n=>n⟩
def Tryz.laysM171_ren:Go.Shelf.Ren:=⟨λ|171=>58|243=>91|246=>98|283=>132|284=>133|285=>134|286=>135|129=>170|317=>169|318=>171|319=>172|320=>173|337=>214|338=>215|n=>n,λ|3=>3|9=>9|2=>2|4=>4|171=>221|0=>0|53=>180|37=>140|5=>5|173=>224|212=>267|51=>30|20=>20|213=>268|46=>213|232=>324|233=>325|n=>n,λ|17=>1|18=>2|19=>3|n=>n⟩
theorem Tryz.laysM171:Go.Proofs.LaysM.n171 Tryz.prog Tryz.laysM171_ren:=by constructor<;>first|kernel_rfl|(intro _;kernel_rfl)|(constructor<;>first|kernel_rfl|(intro _;kernel_rfl))
open Go.RowKit Go.Sort Go.Lib in
theorem Tryz.strconv_Itoa (n:Int) (b:-9223372036854775808<=n) (h1:n<=9223372036854775807) (w:World) (a:Lib.TabIs Tryz.prog w "internal/strconv.uint64pow10" .u64 Lib.pow10Tab):
 Calls Tryz.prog 58 #[.int .i64 n] w λe w'=>e=.returned (.string ⟨(Lib.itoa n).toArray⟩)/\∃k os,w'=grow (w.drewN k) os:=Any.strconv_Itoa Tryz.laysM171 n b h1 w a
def Tryz.lays219_ren:Go.Shelf.Ren:=⟨λ|219=>92|217=>124|225=>125|224=>126|267=>127|266=>164|314=>165|n=>n,λ|9=>9|3=>3|4=>4|5=>5|46=>213|146=>263|51=>30|n=>n,λ|1=>0|n=>n⟩
def Tryz.lays144_ren:Go.Shelf.Ren:=⟨λ|144=>208|143=>59|219=>92|217=>124|225=>125|224=>126|267=>127|266=>164|314=>165|n=>n,λ|9=>9|4=>4|3=>3|5=>5|46=>213|146=>263|51=>30|n=>n,λ|1=>0|n=>n⟩
theorem Tryz.lays144:Go.Proofs.Lays.n144 Tryz.prog Tryz.lays144_ren:=by constructor<;>first|kernel_rfl|(intro _;kernel_rfl)
open Go.RowKit Go.Lib in
theorem Tryz.strings_Contains(s a:ByteArray)(m:Int)(w:World)(c:s.size<4294967281)(b:w.cell? ⟨0,0,none⟩=some (.int .i64 m)):
 Calls Tryz.prog 208 #[.string s,.string a] w λe w'=>e=.returned (.bool (Lib.contains s.data.toList a.data.toList))/\w'=w:=Any.strings_Contains Tryz.lays144 s a m w c b
def Tryz.lays145_ren:Go.Shelf.Ren:=⟨λ|145=>78|220=>110|219=>92|217=>124|225=>125|224=>126|267=>127|266=>164|314=>165|n=>n,λ|9=>9|4=>4|59=>161|3=>3|5=>5|46=>213|146=>263|51=>30|n=>n,λ|1=>0|n=>n⟩
theorem Tryz.lays145:Go.Proofs.Lays.n145 Tryz.prog Tryz.lays145_ren:=by constructor<;>first|kernel_rfl|(intro _;kernel_rfl)
open Go.RowKit Go.Lib in
theorem Tryz.strings_Cut(s a:ByteArray)(m:Int)(w:World)(c:s.size<4294967281)(b:w.cell? ⟨0,0,none⟩=some (.int .i64 m)):
 Calls Tryz.prog 78 #[.string s,.string a] w λe w'=>e=.returned (.tuple #[.string ⟨(Lib.cut s.data.toList a.data.toList).1.toArray⟩,.string ⟨(Lib.cut s.data.toList a.data.toList).2.1.toArray⟩,.bool (Lib.cut s.data.toList a.data.toList).2.2])/\∃n,w'=w.drewN n:=Any.strings_Cut Tryz.lays145 s a m w c b
def Tryz.lays189_ren:Go.Shelf.Ren:=⟨λ|189=>145|125=>184|257=>183|128=>231|129=>170|294=>222|295=>223|296=>224|297=>225|298=>226|299=>227|216=>228|300=>229|301=>230|328=>268|329=>269|330=>270|331=>271|332=>272|215=>273|343=>294|n=>n,λ|28=>31|3=>3|46=>213|0=>0|51=>30|53=>180|4=>4|183=>298|182=>297|131=>295|5=>5|9=>9|218=>333|222=>272|228=>363|229=>364|n=>n,λ|n=>n⟩
theorem Tryz.lays189:Go.Proofs.Lays.n189 Tryz.prog Tryz.lays189_ren:=by constructor<;>first|kernel_rfl|(intro _;kernel_rfl)
open Go.Sort Go.RowKit in
theorem Tryz.slices_Sort_int(blk a cap:Nat)(c:List Int)(w:World)(f:Holds (Value.int .i64) w blk a c.toArray)(b:blk<w.heap.size)(d:c.length<4611686018427387904):
 Calls Tryz.prog 145 #[.slice (some ⟨blk,a,none⟩) c.length cap] w λe w'=>
  e=.returned (.tuple #[])/\∃n os,w'=grow (putRow (Value.int .i64) (Sort.ahead w n) blk a (c.mergeSort λx y=>decide (x<=y)).toArray) os:=Any.slices_Sort_int Tryz.lays189 blk a cap c w f b d
def Tryz.lays99_ren:Go.Shelf.Ren:=⟨λ|99=>209|206=>189|n=>n,λ|9=>9|4=>4|3=>3|n=>n,λ|n=>n⟩
theorem Tryz.lays99:Go.Proofs.Lays.n99 Tryz.prog Tryz.lays99_ren:=by constructor<;>first|kernel_rfl|(intro _;kernel_rfl)
open Go.RowKit Go.Lib in
theorem Tryz.strings_HasPrefix(s p:ByteArray)(w:World):
 Calls Tryz.prog 209 #[.string s,.string p] w λe w'=>e=.returned (.bool (Lib.hasPrefix s.data.toList p.data.toList))/\w'=w:=Any.strings_HasPrefix Tryz.lays99 s p w
def Tryz.lays100_ren:Go.Shelf.Ren:=⟨λ|100=>210|207=>212|n=>n,λ|9=>9|4=>4|3=>3|n=>n,λ|n=>n⟩
theorem Tryz.lays100:Go.Proofs.Lays.n100 Tryz.prog Tryz.lays100_ren:=by constructor<;>first|kernel_rfl|(intro _;kernel_rfl)
open Go.RowKit Go.Lib in
theorem Tryz.strings_HasSuffix(s p:ByteArray)(w:World)(a:s.size<=9223372036854775807):
 Calls Tryz.prog 210 #[.string s,.string p] w λe w'=>e=.returned (.bool (Lib.hasSuffix s.data.toList p.data.toList))/\w'=w:=Any.strings_HasSuffix Tryz.lays100 s p w a
def Tryz.lays102_ren:Go.Shelf.Ren:=⟨λ|102=>237|209=>275|207=>212|n=>n,λ|9=>9|4=>4|3=>3|n=>n,λ|n=>n⟩
theorem Tryz.lays102:Go.Proofs.Lays.n102 Tryz.prog Tryz.lays102_ren:=by constructor<;>first|kernel_rfl|(intro _;kernel_rfl)
open Go.RowKit Go.Lib in
theorem Tryz.strings_TrimSuffix(s p:ByteArray)(w:World)(a:s.size<=9223372036854775807):
 Calls Tryz.prog 237 #[.string s,.string p] w λe w'=>e=.returned (.string ⟨(Lib.trimSuffix s.data.toList p.data.toList).toArray⟩)/\w'=w:=Any.strings_TrimSuffix Tryz.lays102 s p w a
def Tryz.lays221_ren:Go.Shelf.Ren:=⟨λ|221=>109|268=>149|138=>150|143=>59|195=>186|197=>187|218=>188|219=>92|260=>232|217=>124|225=>125|224=>126|267=>127|266=>164|314=>165|n=>n,λ|9=>9|3=>3|31=>125|4=>4|0=>0|105=>283|21=>21|5=>5|46=>213|119=>338|139=>341|138=>340|146=>263|51=>30|n=>n,λ|1=>0|3=>4|4=>5|n=>n⟩
def Tryz.lays146_ren:Go.Shelf.Ren:=⟨λ|146=>77|221=>109|268=>149|138=>150|143=>59|195=>186|197=>187|218=>188|219=>92|260=>232|217=>124|225=>125|224=>126|267=>127|266=>164|314=>165|n=>n,λ|9=>9|31=>125|3=>3|4=>4|0=>0|105=>283|21=>21|5=>5|46=>213|119=>338|139=>341|138=>340|146=>263|51=>30|n=>n,λ|1=>0|3=>4|4=>5|n=>n⟩
theorem Tryz.lays146:Go.Proofs.Lays.n146 Tryz.prog Tryz.lays146_ren:=by constructor<;>first|kernel_rfl|(intro _;kernel_rfl)
open Go.RowKit Go.Lib in
theorem Tryz.strings_Split(s a:ByteArray)(m:Int)(w:World)(c:s.size<4294967281)(b:w.cell? ⟨0,0,none⟩=some (.int .i64 m))(h1:1<=a.size):
 Calls Tryz.prog 77 #[.string s,.string a] w λe w'=>
  e=.returned (.slice (some ⟨w.heap.size,0,none⟩) (Lib.countB s a+1) (Lib.countB s a+1))/\w'=w.alloc (.cells ((Lib.splitB a 0 (Lib.countB s a) s).map Value.string).toArray 9):=Any.strings_Split Tryz.lays146 (by kernel_rfl) s a m w c b h1
def Tryz.laysM146_ren:Go.Shelf.Ren:=⟨λ|146=>77|221=>109|268=>149|138=>150|143=>59|195=>186|197=>187|218=>188|219=>92|260=>232|217=>124|225=>125|224=>126|267=>127|266=>164|314=>165|n=>n,λ|9=>9|31=>125|3=>3|4=>4|0=>0|105=>283|21=>21|5=>5|46=>213|119=>338|139=>341|138=>340|146=>263|51=>30|n=>n,λ|1=>0|3=>4|4=>5|n=>n⟩
theorem Tryz.laysM146:Go.Proofs.LaysM.n146 Tryz.prog Tryz.laysM146_ren:=by constructor<;>first|kernel_rfl|(intro _;kernel_rfl)|decide|exact λw h=>Go.Proofs.cell_of_shapedOpen_int (zero:=#[.int .i64 0]) (t:=3) h (of_decide_eq_true (by kernel_rfl)) (by kernel_rfl) rfl (by kernel_rfl) (by kernel_rfl) Tryz.underlying3|(constructor<;>first|kernel_rfl|(intro _;kernel_rfl)|decide|exact λw h=>Go.Proofs.cell_of_shapedOpen_int (zero:=#[.int .i64 0]) (t:=3) h (of_decide_eq_true (by kernel_rfl)) (by kernel_rfl) rfl (by kernel_rfl) (by kernel_rfl) Tryz.underlying3)
def Tryz.lays152_ren:Go.Shelf.Ren:=⟨λ|152=>233|137=>122|119=>274|224=>126|225=>125|217=>124|266=>164|n=>n,λ|9=>9|21=>21|3=>3|4=>4|5=>5|0=>0|46=>213|n=>n,λ|n=>n⟩
theorem Tryz.lays152:Go.Proofs.Lays.n152 Tryz.prog Tryz.lays152_ren:=by constructor<;>first|kernel_rfl|(intro _;kernel_rfl)
open Go.RowKit Go.Lib in
theorem Tryz.strings_IndexRune_ascii(s:ByteArray)(r:Int)(w:World)(a:0<=r)(h1:r<128):
 Calls Tryz.prog 233 #[.string s,.int .i32 r] w λe w'=>e=.returned (.int .i64 (Lib.indexByte s.data.toList r.toNat.toUInt8))/\w'=w:=Any.strings_IndexRune_ascii Tryz.lays152 s r w a h1
def Tryz.lays226_ren:Go.Shelf.Ren:=⟨λ|226=>234|n=>n,λ|3=>3|4=>4|n=>n,λ|n=>n⟩
theorem Tryz.lays226:Go.Proofs.Lays.n226 Tryz.prog Tryz.lays226_ren:=by constructor<;>first|kernel_rfl|(intro _;kernel_rfl)
open Go.RowKit Go.Lib in
theorem Tryz.strings_shouldUseASCIISet(n:Int)(w:World):
 Calls Tryz.prog 234 #[.int .i64 n] w λe w'=>e=.returned (.bool (decide (8<n)))/\w'=w:=Any.strings_shouldUseASCIISet Tryz.lays226 n w
def Tryz.lays153_ren:Go.Shelf.Ren:=⟨λ|153=>190|152=>233|226=>234|227=>235|228=>236|137=>122|119=>274|224=>126|225=>125|217=>124|266=>164|n=>n,λ|9=>9|3=>3|4=>4|5=>5|21=>21|117=>307|116=>306|0=>0|46=>213|124=>343|n=>n,λ|n=>n⟩
theorem Tryz.lays153:Go.Proofs.Lays.n153 Tryz.prog Tryz.lays153_ren:=by constructor<;>first|kernel_rfl|(intro _;kernel_rfl)
open Go.RowKit Go.Lib in
theorem Tryz.strings_IndexAny_long(d:∀w,(zeroValue 306).run Tryz.prog w=.ok (.agg (Array.replicate 256 (.bool false))) w)(s a:ByteArray)(w:World)(h2:2<=a.size)(g:8<s.size)(h:s.size<4294967281)(f:a.size<4294967281)(c:∀(j:Nat) b,a.data.toList[j]? = some b->b.toNat<128):
 Calls Tryz.prog 190 #[.string s,.string a] w λe w'=>e=.returned (.int .i64 (Lib.indexAny s.data.toList a.data.toList))/\w'=((w.alloc (.cells (Lib.setCells a.data.toList) 306)).alloc (.cells (Lib.setCells a.data.toList) 306)):=Any.strings_IndexAny_long Tryz.lays153 d (by kernel_rfl) s a w h2 g h f c
def Tryz.lays110_ren:Go.Shelf.Ren:=⟨λ|110=>90|109=>123|n=>n,λ|31=>125|9=>9|4=>4|3=>3|0=>0|n=>n,λ|n=>n⟩
theorem Tryz.lays110:Go.Proofs.Lays.n110 Tryz.prog Tryz.lays110_ren:=by constructor<;>first|kernel_rfl|(intro _;kernel_rfl)
open Go.Lib in
theorem Tryz.slices_Contains_string(b a n c:Nat)(d:List ByteArray)(x:ByteArray)(w:World)(h:n<=d.length)(f:n<=9223372036854775807)(g:∀j,j<d.length->w.cell? ⟨b,a+j,none⟩=some (.string (d.getD j ByteArray.empty))):
 Calls Tryz.prog 90 #[.slice (some ⟨b,a,none⟩) n c,.string x] w λe w'=>e=.returned (.bool (Lib.containsS (d.take n) x))/\w'=w:=Any.slices_Contains_string Tryz.lays110 b a n c d x w h f g
open Go.RowKit Go.Sort in
theorem Tryz.slices_Sort_int_none(p:Option Addr)(cap:Nat)(w:World):
 Calls Tryz.prog 145 #[.slice p 0 cap] w λe w'=>e=.returned (.tuple #[])/\w'=w:=Any.slices_Sort_int_none Tryz.lays189 p cap w
end Go.Proofs
namespace Go.Proofs.YtnnokglddolglaaGreatDoor
open Go.RowKit
section
open Go.ChangeShapes Go.WideShapes Go.ChangeAt
theorem own:ownKnob Tryz.prog.godebug=none:=by kernel_rfl
theorem zoj:laidOutB Tryz.prog=true:=by kernel_rfl
theorem zgp{H:Type}{l:List (DataW H)}(a:Rows.uptoSmall H l=true):Rows.uptoBulkAll l<=1048576:=Zq a
section
variable {H:Type} {enc:TypeId × Value->H} {P:Program}
theorem zg3(hl:laidOutB P=true){W W':World}(hb:Below W.heap.size W W'):∀{f:List TypeId} {e:List Value} {b:List (DataW H)} {a:List MemPlace},
 (∀t∈f,P.readableRec t=true/\t<P.types.size)->DataW.TrodAll enc P W 0 (λ_=>true) true f e b a->(∀x∈a,x.block<W.heap.size)->
 ∀sp:Nat->Bool,(∀p∈a,sp p.block=true)->DataW.TrodAll enc P W' 0 sp true f e b a
 | [],e,b,a,_,h,_,sp,_=>by
  cases e <;> cases b <;> first|exact h|cases h
 |t::f,[],b,a,_,h,_,_,_=>by cases b <;> cases h
 |t::f,v::e,[],a,_,h,_,_,_=>by cases h
 |t::f,v::e,d::b,a,j,h,g,sp,k=>by
  obtain⟨p,q,h1,h2,rfl⟩:=h;obtain⟨l,n⟩:=j t (by simp)
  exact⟨p,q,WideElems.Trod_stays hl l n h1 (λx c=>hb.same (g x (by simp[c]))) (λx c=>k x (by simp[c])),
   zg3 hl hb (λm i=>j m (by simp[i])) h2 (λx c=>g x (by simp[c])) sp (λx c=>k x (by simp[c])),rfl⟩
theorem zlw{f:Func}{s:ChangeSpec}{apart fresh e j:Bool}{W W':World}{args:Array Value}{m y:List (DataW H)}{a:List MemPlace}{z:TypeId}
 (hl:laidOutB P=true) (D:∀t∈f.params.toList,P.readableRec t=true/\t<P.types.size) (d:f.resultTypes=#[z]) (l:P.underlying z=some .bool) (c:s.vars=[])
 (x:DataW.Whole enc P f.params.toList s.vars apart W args.toList m y a) (hb:Below W.heap.size W W')
 (k:s.fn H (m++y)={results:=[.lit (.bool true)],args:=m}):
 s.post enc P f apart fresh e j W args (.bool true) W':=by
 have o:=x;have i:∀p∈a,p.block<W.heap.size:=λp g=>o.lt p g
 have r:∀p∈a,(λb=>decide (b<W.heap.size)) p.block=true:=λp g=>by simpa using i p g
 obtain⟨p,q,B,A,n,C,E⟩:=x;rw[c]at A;obtain⟨rfl,rfl⟩:=trodVars_none A;rw[QI]at n;subst n;have h:∀sp:Nat->Bool,(∀p∈a,sp p.block=true)->DataW.TrodAll enc P W' 0 sp true f.params.toList args.toList m a:=zg3 hl hb D B i
 have u:∀(b:Nat) (sp:Nat->Bool) (w:Bool),DataW.TrodAll enc P W' b sp w f.resultTypes.toList ((Value.bool true).resultList f.resultTypes.size) [.lit (.bool true)] []:=λb sp w=>by
  rw[d];exact trodAll_cons_mk (shut_bool l true) trodAll_mk0
 refine⟨m,[],a,[],a,[],o,?_,?_,?_,World.keptBut_mono (λp g=>⟨g,Or.inr (Or.inl g)⟩) (hb.frame (·∈a)),λ_=>?_⟩
 ·rw[k];exact u _ _ _
 ·rw[k];exact h _ r
 ·rw[k,c];exact rfl
 ·refine⟨ok_one (by rw[d]) (by first|rfl|(rw[d];rfl)) (okWide_bool_mk l true),.lit (.bool true)::m,[],a,⟨a,[],?_,by rw[c];exact rfl,by simp,?_,?_⟩,?_⟩
  ·rw[d]
   exact trodAll_cons_mk (shut_bool l true) (h _ (λ_ _=>rfl))
  ·intro b v g
   rw[hb.frozen (i _ g)];exact C b v g
  ·exact E
  ·intro p g _;exact g
end
end
theorem zac{k:IntKind}{a b:Int}(h:a=b):Ending.returned (.int k a)=.returned (.int k b):=by rw[h]
theorem zs0{a b:ByteArray}(h:a=b):Ending.returned (.string a)=.returned (.string b):=by rw[h]
theorem zaI{a b:Bool}(h:a=b):Ending.returned (.bool a)=.returned (.bool b):=by rw[h]
def bs(l:List UInt8):ByteArray:=⟨l.toArray⟩
theorem zae(l:List UInt8):(bs l).data.toList=l:=rfl
theorem zdZ(s:ByteArray):bs s.data.toList=s:=rfl
theorem zaj(l:List UInt8):(bs l).size=l.length:=rfl
theorem zgs(l:List UInt8):(bs l).toList=l:=by rw[Xl];rfl
theorem zmI(a b:List UInt8):bs a++bs b=bs (a++b):=by
 show (bs a).append (bs b)=_
 apply ByteArray.ext
 have h:((bs a)++(bs b)).data=(bs a).data++(bs b).data:=by simp
 exact h.trans (by simp[bs])
attribute [go_sem] zaj zgs zae zmI
theorem zcs{p:UInt8->Bool}(h:(List.range 256).all (λn=>p (UInt8.ofNat n))=true)(b:UInt8):p b=true:=by
 have:=Zn.1 h b.toNat (ZX.2 b.toNat_lt)
 simpa using this
def zd6(b:UInt8):Value:=.int .u8 b.toNat
theorem zaG(s:ByteArray)(k:Nat)(h:k<s.size):s.data.toList.drop k=s[k]::s.data.toList.drop (k+1):=by
 rw[Zf (by simpa using h)];rfl
theorem zhT(s:ByteArray)(k:Nat)(h:k<s.size):s.data.toList.take (k+1)=s.data.toList.take k++[s[k]]:=by
 rw[Qq (by simpa using h)];rfl
def BytesAt(w:World)(g:Nat)(l:List UInt8):Prop:=
 g<w.heap.size/\∀j (a:j<l.length),w.cell? ⟨g,j,none⟩=some (.int .u8 (l[j].toNat:Int))/\w.frozen? ⟨g,j,none⟩=false
theorem BytesAt.cell{w:World}{g:Nat}{l:List UInt8}(h:BytesAt w g l){j:Nat}(a:j<l.length):w.cell? ⟨g,j,none⟩=some (.int .u8 (l[j].toNat:Int)):=(h.2 j a).1
theorem BytesAt.free{w:World}{g:Nat}{l:List UInt8}(h:BytesAt w g l){j:Nat}(a:j<l.length):w.frozen? ⟨g,j,none⟩=false:=(h.2 j a).2
theorem zub(w:World)(s:ByteArray)(c:Nat)(f:s.size<=c)(e:TypeId):
 BytesAt (w.drew.alloc (.cells (bytesRow s c) e ((bytesRow s c).size,(bytesRow s c).size+1))) w.heap.size s.data.toList:=by
 have d:(bytesRow s c).size=c:=by
  have:s.data.size=s.size:=rfl;simp[bytesRow];omega
 refine⟨by simp,λj b=>⟨?_,?_⟩⟩
 ·have a:j<s.data.size:=by simpa using b
  have:=World.cell?_alloc_mark w.drew (bytesRow s c) e ((bytesRow s c).size,(bytesRow s c).size+1) j;rw[show w.drew.heap.size=w.heap.size from rfl]at this;rw[this,bytesRow_at s c j a];simp
 ·have:=World.frozen?_alloc_mark w.drew (bytesRow s c) e (bytesRow s c).size ((bytesRow s c).size+1) j
  rw[show w.drew.heap.size=w.heap.size from rfl]at this;have a:j<s.size:=by simpa using b
  rw[this,d];simp;omega
theorem BytesAt.set{w:World}{g:Nat}{l:List UInt8}(h:BytesAt w g l){k:Nat}(b:k<l.length)(x:UInt8):BytesAt (w.setCell ⟨g,k,none⟩ (.int .u8 x.toNat)) g (l.set k x):=by
 refine⟨by simpa[World.setCell]using h.1,λj c=>?_⟩;have a:j<l.length:=by simpa using c
 by_cases e:k=j
 ·subst e
  refine⟨?_,by rw[World.frozen?_setCell];exact h.free b⟩;rw[Zz _ _ _ (h.cell b)];simp
 ·refine⟨?_,by rw[World.frozen?_setCell];exact h.free a⟩
  rw[QQ _ _ _ _ (by intro q;cases q;exact e rfl),h.cell a];simp[e]
theorem zbq(g j:Nat):(⟨g,0,none⟩:Addr).add j=⟨g,j,none⟩:=by unfold Addr.add;split <;> simp_all
theorem zcW{P:Program}{w:World}{g:Nat}{l:List UInt8}(h:BytesAt w g l)(src dst e:TypeId)(n c:Nat)(i:n=l.length)
 (f:P.underlying src=some (.slice e)) (d:P.underlying e=some (.int .u8)) (a:P.underlying dst=some .string):
 (convert src dst (.slice (some ⟨g,0,none⟩) n c)).run P w=.ok (.string (bs l)) w:=by
 subst i;exact run_convert_bytes_back w src dst e ⟨g,0,none⟩ c l f d a (λj b=>by rw[zbq];exact h.cell b)
theorem zgu{P:Program}{w:World}{base n:Nat}{v:Value}{l:List UInt8}(src dst e:TypeId)(h:w.ownsRow base e 1 v n (l.map zd6))
 (d:P.underlying src=some (.slice e)) (f:P.underlying e=some (.int .u8)) (c:P.underlying dst=some .string):
 (convert src dst v).run P w=.ok (.string (bs l)) w:=by
 have a:n=l.length:=by have:=h.1;simp at this;omega
 rcases h.2 with ⟨rfl,q⟩|⟨g,cap,k,rfl,hb,r,m,i,o,b⟩
 ·have:l=[]:=QA (by omega)
  subst this;exact run_convert_bytes_nil w src e d f 0 0 dst c
 ·subst a
  refine run_convert_bytes_back w src dst e ⟨g,0,none⟩ cap l d f c (λj p=>?_);exact h.cells (g:=g) rfl j _ (by simp[Qc p,zd6])
theorem zg5{x:ByteArray}{l:List UInt8}(h:x.data.toList=l):x=bs l:=by subst h;rfl
theorem zeb(w:World)(a:List Value)(t:TypeId):∀j u,a[j]? = some u->(w.alloc (.cells a.toArray t)).cell? ((⟨w.heap.size,0,none⟩:Addr).add j)=some u:=λj u h=>by
 rw[zbq,Qf (w.alloc (.cells a.toArray t)) w.heap.size j a.toArray t (0,0) (Qp w _)]
 simpa using h
def OwnB(w:World)(base:Nat)(v:Value)(l:List UInt8):Prop:=w.ownsRow base 5 1 v l.length (l.map zd6)
theorem OwnB.nil(w:World)(base:Nat):OwnB w base (.slice none 0 0) []:=ZI w base 5 1
theorem OwnB.string{w:World}{base:Nat}{v:Value}{l:List UInt8}(h:OwnB w base v l):(convert 140 9 v).run Tryz.prog w=.ok (.string (bs l)) w:=
 zgu 140 9 5 h Tryz.underlying140 Tryz.underlying5 Tryz.underlying9
theorem zoD:(Tryz.prog.info? 5).map (λi=>(i.zero,i.size,i.bytes))=some (some (.int .u8 0),1,1):=by kernel_rfl
section
variable {P:Program} {ops:Array Oper} {rest:List Oper} {o:Oper} {a:Act} {Q:Exit->Act->World->Prop} {w:World}
theorem zer(d:o.guard=none)(x:Operand)(src dst e:TypeId)(i:o.op=.convert src dst x)
 (k:P.underlying src=some .string) (f:P.underlying dst=some (.slice e)) (m:P.underlying e=some (.int .u8)) (s:ByteArray) (l:a.eval x=.string s)
 (h:∀(c:Nat) (w':World),s.size<=c->BytesAt w' w.heap.size s.data.toList->Below w.heap.size w w'->w'.heap.size=w.heap.size+1->
  wpList P ops Q rest (a.put o.dst (.slice (some ⟨w.heap.size,0,none⟩) s.size c)) w'):wpList P ops Q (o::rest) a w:=by
 refine Xs d λK g=>?_
 have j:=run_bytes_of_string (P:=P) w src dst e s k f m;unfold Oper.wp execOp;simp only[i,Xz,Sem.run_pure,Xg,l,j];have b:=grownCap_ge w s.size 0 e;exact g _ _ (h _ _ b (zub w s _ b e) (((Qg _ w).drew).alloc (Qd _) _) (by simp))
theorem zkW{K:Act->World->Prop}(s x:Operand)(t:TypeId)(J:o.op=.call {callee:=.builtin .append,args:=#[s,x],argTypes:=#[t,t]})
 (base:Nat) (e:TypeId) (i:TypeInfo) (z:Value) (size b:Nat) (F:P.underlying t=some (.slice e)) (N:P.info? e=some i) (I:i.zero=some z)
 (l:i.size=size) (A:i.bytes=b) (D:z.cells.size=size) (y:0<size)
 (v:Value) (n:Nat) (B:List Value) (L:a.eval s=v) (j:w.ownsRow base e size v n B) (d:base<=w.heap.size)
 (f:List Value) (m c:Nat) (O:a.eval x=.slice (some ⟨w.heap.size,0,none⟩) m c) (hl:f.length=m*size) (h1:∀u∈f,u.oneCell'=true)
 (r:n+m<=maxLen) (g:(n+m)*b<=140737488355328)
 (h:∀v' w',w'.ownsRow base e size v' (n+m) (B++f)->Below base w w'->base<=w'.heap.size->K (a.put o.dst v') w'):
 o.wp P a (w.alloc (.cells f.toArray e)) K Q:=by
 have p:=j.alloc (.cells f.toArray e);refine wp_append_own (P:=P) (w.alloc (.cells f.toArray e)) s x t J base e i z size b F N I l A D y v n B L p ⟨w.heap.size,0,none⟩ m c f O hl (zeb w f e) h1 r g (by simp;omega) ?_;intro v' w' C G _;have E:Below base w (w.alloc (.cells f.toArray e)):=(Qg _ _).alloc d _;have q:=E.grown G (by simp;omega) (λk H=>(j.lt k H).1);exact h v' w' C q (Qn d q.size)
end
section
variable {ops:Array Oper} {rest:List Oper} {o:Oper} {a:Act} {Q:Exit->Act->World->Prop} {w:World}
theorem zoc{K:Act->World->Prop}(s x:Operand)(t:o.op=.call {callee:=.builtin .append,args:=#[s,x],argTypes:=#[140,140]})
 (base:Nat) (v:Value) (l:List UInt8) (z:a.eval s=v) (f:OwnB w base v l) (e:base<=w.heap.size)
 (q:List Value) (d:List UInt8) (C:q=d.map zd6) (m c:Nat) (B:a.eval x=.slice (some ⟨w.heap.size,0,none⟩) m c) (hl:d.length=m)
 (g:l.length+m<=140737488355328)
 (h:∀v' w',OwnB w' base v' (l++d)->Below base w w'->base<=w'.heap.size->K (a.put o.dst v') w'):
 o.wp Tryz.prog a (w.alloc (.cells q.toArray 5)) K Q:=by
 subst C;subst hl
 obtain⟨r,A,j,k,n⟩:=ZC zoD
 refine zkW s x 140 t base 5 r (.int .u8 0) 1 1 Tryz.underlying140 A j k n rfl (by decide) v l.length (l.map zd6) z f e (d.map zd6) d.length c B (by simp)
  (λu y=>by obtain⟨b,_,rfl⟩:=QO.1 y;rfl) (by unfold maxLen;omega) (by omega) ?_
 intro v' w' p hb i;exact h v' w' (by unfold OwnB;rw[Qa,QU];exact p) hb i
theorem zaf(g:o.guard=none)(s x:Operand)(k:o.op=.call {callee:=.builtin .append,args:=#[s,x],argTypes:=#[140,140]})
 (base:Nat) (v:Value) (l:List UInt8) (p:a.eval s=v) (f:OwnB w base v l) (e:base<=w.heap.size)
 (i:List Value) (b:List UInt8) (r:i=b.map zd6) (m c:Nat) (q:a.eval x=.slice (some ⟨w.heap.size,0,none⟩) m c) (hl:b.length=m)
 (d:l.length+m<=140737488355328)
 (h:∀v' w',OwnB w' base v' (l++b)->Below base w w'->base<=w'.heap.size->wpList Tryz.prog ops Q rest (a.put o.dst v') w'):
 wpList Tryz.prog ops Q (o::rest) a (w.alloc (.cells i.toArray 5)):=
 Xs g λ_ j=>zoc s x k base v l p f e i b r m c q hl d λv' w' h1 h2 n=>j _ _ (h v' w' h1 h2 n)
end
