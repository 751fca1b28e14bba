import Derived.Shelf.SlSortCmp.NoneTotal
import Derived.Shelf.Strings.OnBuilder
import Derived.Shelf.Strings.Trim
import Derived.Shelf.Small.Wraps
import Derived.Shelf.Utf8.RuneCount
import Derived.Shelf.Strconv.Itoa3
import Derived.Shelf.Strconv.ErrVarAll
import Derived.Shelf.Strconv.ParseUintEmpty
import Derived.Shelf.Strconv.ParseUint10b64
import Derived.Shelf.Strconv.ParseUint10b32
import Derived.Shelf.Strconv.ParseUint10b16
import Derived.Shelf.Strconv.ParseUint10b8
import Derived.Shelf.Strings.Shaped
import Derived.Shelf.Sort.Plain
import Derived.Shelf.GgSortFunc.Tiny
import Derived.Shelf.Strings.SplitShaped
import Derived.Shelf.Strings.Runes
import Derived.Shelf.Strings.AsciiSet
import Derived.Shelf.Strings.Explode
import Derived.Shelf.Strings.Repeat
import Derived.Shelf.Unicode.DecodeLast
import Derived.Shelf.Strings.BuilderCap
import Derived.Shelf.Slices.Clone
import Derived.Shelf.Slices.SearchI
import Derived.Shelf.Slices.In.SortNone
import Derived.Shelf.SlSortFuncK.WholeK
import Derived.Shelf.SlicesE.Clone
import Derived.Test.YtbcmmbeadgiiiaaGreatDoorProg
set_option linter.all false
namespace Go.Proofs
set_option maxRecDepth 100000
set_option maxHeartbeats 16000000
open Go.Shelf
def Tryz.lays169_ren:Go.Shelf.Ren:=⟨fun|169=>85|n=>n,fun|70=>155|9=>9|0=>0|72=>157|37=>153|127=>234|3=>3|5=>5|n=>n,fun|n=>n⟩
def Tryz.lays169:Go.Proofs.Lays.n169 Tryz.prog Tryz.lays169_ren:=by repeat' first|kernel_rfl|decide|exact λ_=>rfl|constructor
def Tryz.Builder_Extra_169:Builder.Extra Tryz.prog Tryz.lays169_ren:=by repeat' first|kernel_rfl|decide|exact λ_=>rfl|constructor
def Tryz.lays156_ren:Go.Shelf.Ren:=⟨fun|156=>38|165=>83|166=>84|169=>85|240=>143|241=>144|276=>206|277=>207|n=>n,fun|31=>88|9=>9|3=>3|4=>4|0=>0|20=>20|72=>157|76=>159|70=>155|37=>153|75=>40|127=>234|164=>183|5=>5|80=>93|n=>n,fun|n=>n⟩
def Tryz.lays156:Go.Proofs.Lays.n156 Tryz.prog Tryz.lays156_ren:=by repeat' first|kernel_rfl|decide|exact λ_=>rfl|constructor
def Tryz.Builder_Extra_156:Builder.Extra Tryz.prog Tryz.lays156_ren:=by repeat' first|kernel_rfl|decide|exact λ_=>rfl|constructor
open Go.RowKit in
def Tryz.strings_Join(bk o c:Nat)(xs:List ByteArray)(sep:ByteArray)(w:World)(VH:∀(j:Nat) x,xs[j]? =some x->w.cell? ⟨bk,o+j,none⟩=some (.string x))(Vb:bk<w.heap.size)(hN:xs.length<=140737488355328)(Ci:xs.length<=c)(hlen:(Lib.join (xs.map (·.data.toList)) sep.data.toList).length<=140737488355328):
  Calls Tryz.prog 38 #[.slice (some ⟨bk,o,none⟩) xs.length c,.string sep] w λe w'=>e= .returned (.string ⟨(Lib.join (xs.map (·.data.toList)) sep.data.toList).toArray⟩)∧Below w.heap.size w w':=Any.strings_Join Tryz.lays156 Tryz.Builder_Extra_156 bk o c xs sep w VH Vb hN Ci hlen
def Tryz.lays160_ren:Go.Shelf.Ren:=⟨fun|160=>164|232=>228|231=>227|227=>229|234=>231|233=>230|236=>233|235=>232|228=>282|271=>284|151=>283|197=>267|120=>320|152=>319|260=>309|137=>163|119=>333|224=>311|225=>310|217=>226|266=>281|n=>n,fun|9=>9|4=>4|3=>3|5=>5|117=>304|116=>303|0=>0|124=>307|21=>21|105=>334|46=>150|119=>394|139=>397|138=>396|n=>n,fun|3=>6|4=>7|n=>n⟩
def Tryz.lays160:Go.Proofs.Lays.n160 Tryz.prog Tryz.lays160_ren:=by repeat' first|kernel_rfl|decide|exact λ_=>rfl|constructor
open Go.RowKit in
def Tryz.strings_Trim_one(s:ByteArray)(c:UInt8)(hc:c.toNat<128)(w:World)(hs:s.size<=9223372036854775807):
  Calls Tryz.prog 164 #[.string s,.string ⟨#[c]⟩] w λe w'=>e= .returned (.string ⟨(Lib.trimB s.data.toList c).toArray⟩)∧(w'=w∨w'=w.drew):=Any.strings_Trim_one Tryz.lays160 s c hc w hs
def Tryz.lays125_ren:Go.Shelf.Ren:=⟨fun|125=>108|128=>176|129=>177|n=>n,fun|46=>150|3=>3|51=>80|53=>87|4=>4|5=>5|9=>9|n=>n,fun|n=>n⟩
def Tryz.lays125:Go.Proofs.Lays.n125 Tryz.prog Tryz.lays125_ren:=by repeat' first|kernel_rfl|decide|exact λ_=>rfl|constructor
def Tryz.bits_Len(x:Int)(w:World)(h0:0<=x)(h1:x<=18446744073709551615):
  Calls Tryz.prog 108 #[.int .u64 x] w λe w'=>e= .returned (.int .i64 (Lib.bitLen x.toNat))∧w'=w:=Any.bits_Len Tryz.lays125 x w h0 h1
def Tryz.lays137_ren:Go.Shelf.Ren:=⟨fun|137=>163|217=>226|266=>281|n=>n,fun|9=>9|5=>5|3=>3|n=>n,fun|n=>n⟩
def Tryz.lays137:Go.Proofs.Lays.n137 Tryz.prog Tryz.lays137_ren:=by repeat' first|kernel_rfl|decide|exact λ_=>rfl|constructor
open Go.RowKit in
def Tryz.strings_IndexByte(s:ByteArray)(c:Int)(w:World):
  Calls Tryz.prog 163 #[.string s,.int .u8 c] w λe w'=>e= .returned (.int .i64 (Lib.indexByte s.data.toList c.toNat.toUInt8))∧w'=w:=Any.strings_IndexByte Tryz.lays137 s c w
def Tryz.lays103_ren:Go.Shelf.Ren:=⟨fun|103=>94|210=>158|206=>204|n=>n,fun|9=>9|4=>4|24=>135|3=>3|n=>n,fun|n=>n⟩
def Tryz.lays103:Go.Proofs.Lays.n103 Tryz.prog Tryz.lays103_ren:=by repeat' first|kernel_rfl|decide|exact λ_=>rfl|constructor
open Go.RowKit in
def Tryz.strings_CutPrefix(s p:ByteArray)(w:World):
  Calls Tryz.prog 94 #[.string s,.string p] w λe w'=>e= .returned (.tuple #[.string ⟨(Lib.trimPrefix s.data.toList p.data.toList).toArray⟩,.bool (Lib.hasPrefix s.data.toList p.data.toList)])∧w'=w:=Any.strings_CutPrefix Tryz.lays103 s p w
open Go.RowKit in
def Tryz.Builder_String_any_k(B b:Nat)(l:List UInt8)(w:World)(h:Lib.IsBuilderF 157 5 B b (Lib.byteCells l) w)(hBw:B<=w.heap.size):
  Calls Tryz.prog 85 #[.pointer (some ⟨b,0,none⟩)] w λe w'=>e= .returned (.string ⟨l.toArray⟩)∧(Lib.IsBuilderF 157 5 B b (Lib.byteCells l) w'∧Below B w w'∧Lib.OthersKept 5 (some b) w w'):=Any.Builder_String_any_k Tryz.lays169 Tryz.Builder_Extra_169 B b l w h hBw
def Tryz.laysM171_ren:Go.Shelf.Ren:=⟨fun|171=>113|243=>188|246=>248|283=>291|284=>292|285=>293|286=>294|129=>177|317=>322|318=>323|319=>324|320=>325|337=>334|338=>335|n=>n,fun|3=>3|9=>9|2=>2|4=>4|171=>363|0=>0|53=>87|37=>153|5=>5|173=>365|212=>389|51=>80|20=>20|213=>390|46=>150|232=>401|233=>402|n=>n,fun|17=>5|18=>8|19=>9|n=>n⟩
def Tryz.laysM171:Go.Proofs.LaysM.n171 Tryz.prog Tryz.laysM171_ren:=by repeat' first|kernel_rfl|decide|exact λ_=>rfl|constructor
open Go.RowKit Go.Sort Go.Lib in
def Tryz.strconv_Itoa(n:Int)(h0: -9223372036854775808<=n)(h1:n<=9223372036854775807)(w:World)(zzp:Lib.TabIs Tryz.prog w "internal/strconv.uint64pow10" .u64 Lib.pow10Tab):
  Calls Tryz.prog 113 #[.int .i64 n] w λe w'=>e= .returned (.string ⟨(Lib.itoa n).toArray⟩)∧∃k os,w'=grow (w.drewN k) os:=Any.strconv_Itoa Tryz.laysM171 n h0 h1 w zzp
def Tryz.laysM316_ren:Go.Shelf.Ren:=⟨fun|316=>134|n=>n,fun|9=>9|3=>3|4=>4|37=>153|0=>0|127=>234|5=>5|n=>n,fun|n=>n⟩
def Tryz.laysM316:Go.Proofs.LaysM.n316 Tryz.prog Tryz.laysM316_ren:=by repeat' first|kernel_rfl|decide|exact λ_=>rfl|constructor
open Go.RowKit in
def Tryz.stringslite_Clone(s:ByteArray)(w:World)(ztM:s.size<=281474976710656):
  Calls Tryz.prog 134 #[.string s] w λe w'=>e= .returned (.string s)∧Below w.heap.size w w':=Any.stringslite_Clone Tryz.laysM316 s w ztM
def Tryz.laysC172_ren:Go.Shelf.Ren:=⟨fun|172=>87|244=>146|245=>147|247=>211|279=>212|280=>213|281=>214|282=>215|287=>270|316=>134|171=>113|205=>271|321=>313|322=>314|243=>188|246=>248|283=>291|284=>292|285=>293|286=>294|129=>177|317=>322|318=>323|319=>324|320=>325|337=>334|338=>335|n=>n,fun|9=>9|3=>3|75=>40|76=>159|4=>4|5=>5|167=>279|37=>153|0=>0|85=>280|2=>2|168=>282|53=>87|175=>336|46=>150|210=>339|127=>234|145=>378|143=>376|21=>21|171=>363|173=>365|212=>389|51=>80|20=>20|213=>390|232=>401|233=>402|80=>93|n=>n,fun|15=>2|16=>3|17=>5|18=>8|19=>9|n=>n⟩
def Tryz.laysC172:Go.Proofs.LaysC.n172 Tryz.prog Tryz.laysC172_ren:=by repeat' first|kernel_rfl|decide|exact λ_=>rfl|constructor
open Go.RowKit in
def Tryz.strconv_Atoi_ok(s:ByteArray)(zng:s.size<=9223372036854775806)(v:Int)(h:Lib.atoiAll s.data.toList= .ok v)(w:World):
  Calls Tryz.prog 87 #[.string s] w λe w'=>e= .returned (.tuple #[.int .i64 v,.nilIface])∧(w'=w∨∃t,w'=Lib.bytesWorld w 5 t):=Any.strconv_Atoi_ok Tryz.laysC172 s zng v h w
open Go.RowKit in
def Tryz.strconv_Atoi_range(s:ByteArray)(ztM:s.size<=281474976710656)(h:Lib.atoiAll s.data.toList= .range)(ev:Value)(w:World)(hv:w.cell? ⟨3,0,none⟩=some ev)(Oy:ev= .nilIface∨∃te pe,ev= .iface te pe):
  Calls Tryz.prog 87 #[.string s] w λe w'=>∃N,e= .returned (.tuple #[.int .i64 (Lib.atoiSat s.data.toList),.iface 282 (.pointer (some ⟨N,0,none⟩))])∧w.heap.size<=N∧w'.heap[N]? =some (.cells #[.string ⟨#[65,116,111,105]⟩,.string s,ev] 339 (0,0))∧Below w.heap.size w w':=Any.strconv_Atoi_range Tryz.laysC172 s ztM h ev w hv Oy
def Tryz.lays189_ren:Go.Shelf.Ren:=⟨fun|189=>189|125=>108|257=>249|128=>176|129=>177|294=>295|295=>296|296=>297|297=>298|298=>299|299=>300|216=>301|300=>302|301=>303|328=>326|329=>287|330=>288|331=>327|332=>328|215=>199|343=>336|n=>n,fun|28=>23|3=>3|46=>150|0=>0|51=>80|53=>87|4=>4|183=>315|182=>314|131=>169|5=>5|9=>9|218=>360|222=>37|228=>386|229=>358|n=>n,fun|n=>n⟩
def Tryz.lays189:Go.Proofs.Lays.n189 Tryz.prog Tryz.lays189_ren:=by repeat' first|kernel_rfl|decide|exact λ_=>rfl|constructor
open Go.Sort Go.RowKit in
def Tryz.slices_Sort_int(vH off cap:Nat)(zs:List Int)(w:World)(hH:Holds (Value.int .i64) w vH off zs.toArray)(hblk:vH<w.heap.size)(uF:zs.length<4611686018427387904):
  Calls Tryz.prog 189 #[.slice (some ⟨vH,off,none⟩) zs.length cap] w λe w'=>
   e= .returned (.tuple #[])∧∃n os,w'=grow (putRow (Value.int .i64) (Sort.ahead w n) vH off (zs.mergeSort λx y=>decide (x<=y)).toArray) os:=Any.slices_Sort_int Tryz.lays189 vH off cap zs w hH hblk uF
def Tryz.laysGg6_ren:Go.Shelf.Ren:=⟨fun|6=>51|10=>105|11=>106|12=>107|13=>108|14=>109|24=>176|25=>177|26=>178|27=>179|28=>180|29=>181|30=>182|31=>183|32=>184|33=>185|34=>234|35=>235|36=>236|37=>237|38=>238|39=>285|n=>n,fun|20=>20|26=>124|35=>186|0=>0|37=>188|3=>3|41=>150|44=>193|49=>80|51=>87|4=>4|54=>258|53=>257|58=>169|5=>5|9=>9|60=>308|64=>37|66=>357|67=>358|17=>17|32=>183|33=>184|82=>414|12=>12|75=>409|76=>297|77=>410|78=>234|79=>411|80=>412|n=>n,fun|n=>n⟩
def Tryz.laysGg6:Go.Proofs.LaysGg.n6 Tryz.prog Tryz.laysGg6_ren:=by repeat' first|kernel_rfl|decide|exact λ_=>rfl|constructor
def Tryz.lays99_ren:Go.Shelf.Ren:=⟨fun|99=>136|206=>204|n=>n,fun|9=>9|4=>4|3=>3|n=>n,fun|n=>n⟩
def Tryz.lays99:Go.Proofs.Lays.n99 Tryz.prog Tryz.lays99_ren:=by repeat' first|kernel_rfl|decide|exact λ_=>rfl|constructor
open Go.RowKit Go.Lib in
def Tryz.strings_HasPrefix(s p:ByteArray)(w:World):
  Calls Tryz.prog 136 #[.string s,.string p] w λe w'=>e= .returned (.bool (Lib.hasPrefix s.data.toList p.data.toList))∧w'=w:=Any.strings_HasPrefix Tryz.lays99 s p w
def Tryz.lays101_ren:Go.Shelf.Ren:=⟨fun|101=>88|208=>148|206=>204|n=>n,fun|9=>9|4=>4|3=>3|n=>n,fun|n=>n⟩
def Tryz.lays101:Go.Proofs.Lays.n101 Tryz.prog Tryz.lays101_ren:=by repeat' first|kernel_rfl|decide|exact λ_=>rfl|constructor
open Go.RowKit Go.Lib in
def Tryz.strings_TrimPrefix(s p:ByteArray)(w:World):
  Calls Tryz.prog 88 #[.string s,.string p] w λe w'=>e= .returned (.string ⟨(Lib.trimPrefix s.data.toList p.data.toList).toArray⟩)∧w'=w:=Any.strings_TrimPrefix Tryz.lays101 s p w
def Tryz.lays146_ren:Go.Shelf.Ren:=⟨fun|146=>86|221=>145|268=>208|138=>209|143=>210|195=>266|197=>267|218=>268|219=>269|260=>309|217=>226|225=>310|224=>311|267=>312|266=>281|314=>331|n=>n,fun|9=>9|31=>88|3=>3|4=>4|0=>0|105=>334|21=>21|5=>5|46=>150|119=>394|139=>397|138=>396|146=>225|51=>80|n=>n,fun|1=>1|3=>6|4=>7|n=>n⟩
def Tryz.lays146:Go.Proofs.Lays.n146 Tryz.prog Tryz.lays146_ren:=by repeat' first|kernel_rfl|decide|exact λ_=>rfl|constructor
open Go.RowKit Go.Lib in
def Tryz.strings_Split(s sep:ByteArray)(m:Int)(w:World)(hs:s.size<4294967281)(hm:w.cell? ⟨1,0,none⟩=some (.int .i64 m))(h1:1<=sep.size):
  Calls Tryz.prog 86 #[.string s,.string sep] w λe w'=>
   e= .returned (.slice (some ⟨w.heap.size,0,none⟩) (Lib.countB s sep+1) (Lib.countB s sep+1))∧w'=w.alloc (.cells ((Lib.splitB sep 0 (Lib.countB s sep) s).map Value.string).toArray 9):=Any.strings_Split Tryz.lays146 (by kernel_rfl) s sep m w hs hm h1
def Tryz.lays212_ren:Go.Shelf.Ren:=⟨fun|212=>80|263=>138|264=>139|n=>n,fun|46=>150|51=>80|146=>225|53=>87|148=>227|n=>n,fun|n=>n⟩
def Tryz.lays212:Go.Proofs.Lays.n212 Tryz.prog Tryz.lays212_ren:=by repeat' first|kernel_rfl|decide|exact λ_=>rfl|constructor
open Go.RowKit Go.Lib in
def Tryz.bits_Mul(x y:Nat)(hx:x<18446744073709551616)(hy:y<18446744073709551616)(w:World):
  Calls Tryz.prog 80 #[.int .u64 x,.int .u64 y] w λe w'=>e= .returned (.tuple #[.int .u64 ((x*y/18446744073709551616:Nat):Int),.int .u64 ((x*y % 18446744073709551616:Nat):Int)])∧w'=w:=Any.bits_Mul Tryz.lays212 x y hx hy w
def Tryz.lays105_ren:Go.Shelf.Ren:=⟨fun|105=>79|212=>80|99=>136|165=>83|166=>84|170=>137|169=>85|263=>138|264=>139|206=>204|240=>143|241=>144|276=>206|277=>207|n=>n,fun|9=>9|3=>3|4=>4|20=>20|0=>0|46=>150|109=>151|5=>5|72=>157|76=>159|51=>80|146=>225|53=>87|148=>227|70=>155|37=>153|75=>40|127=>234|164=>183|80=>93|n=>n,fun|n=>n⟩
def Tryz.lays105:Go.Proofs.Lays.n105 Tryz.prog Tryz.lays105_ren:=by repeat' first|kernel_rfl|decide|exact λ_=>rfl|constructor
def Tryz.Builder_Extra_105:Builder.Extra Tryz.prog Tryz.lays105_ren:=by repeat' first|kernel_rfl|decide|exact λ_=>rfl|constructor
open Go.RowKit Go.Lib in
def Tryz.strings_Repeat(s:ByteArray)(c:Nat)(w:World)(hc:c<=9223372036854775807)(hlen:s.size*c<=140737488355328):
  Calls Tryz.prog 79 #[.string s,.int .i64 c] w λe w'=>e= .returned (.string ⟨(Lib.repeatL s.data.toList c).toArray⟩)∧Below w.heap.size w w':=Any.strings_Repeat Tryz.lays105 Tryz.Builder_Extra_105 s c w hc hlen
def Tryz.laysNm215_ren:Go.Shelf.Ren:=⟨fun|15=>48|n=>n,fun|22=>23|3=>3|4=>4|n=>n,fun|n=>n⟩
def Tryz.laysNm215:Go.Proofs.Lays2.n15 Tryz.prog Tryz.laysNm215_ren:=by repeat' first|kernel_rfl|decide|exact λ_=>rfl|constructor
open Go.RowKit Go.Lib in
def Tryz.slices_Clone_int(b off n c:Nat)(zs:List Int)(w:World)(hz:n<=zs.length)(zqI:n*8<=140737488355328)(hc:∀j,j<zs.length->w.cell? ⟨b,off+j,none⟩=some (.int .i64 (zs.getD j 0))):
  Calls Tryz.prog 48 #[.slice (some ⟨b,off,none⟩) n c] w λe w'=>∃v',e= .returned v'∧w'.ownsRow w.heap.size 3 1 v' n ((zs.take n).map (Value.int .i64))∧v'≠ .slice none 0 0∧Below w.heap.size w w':=Any.slices_Clone_int Tryz.laysNm215 b off n c zs w hz zqI hc
def Tryz.sortFound_ren:Go.Shelf.Ren:=⟨fun|6=>132|15=>108|14=>201|28=>176|29=>177|20=>257|21=>258|22=>259|23=>260|24=>261|25=>262|26=>263|27=>264|46=>306|47=>287|48=>288|49=>307|50=>308|57=>330|n=>n,fun|22=>73|24=>146|25=>221|3=>3|39=>150|0=>0|53=>80|55=>87|4=>4|46=>315|45=>314|50=>169|5=>5|9=>9|66=>360|70=>37|76=>386|77=>358|n=>n,fun|n=>n⟩
def Tryz.sortFound:Go.Proofs.SlLaysF0.n6 Tryz.prog Tryz.sortFound_ren:= {
 mixed:=by kernel_rfl
 f6:=⟨Tryz.f132.name,by decide,Tryz.func132.trans (congrArg some (by kernel_rfl))⟩
 f14:=⟨Tryz.f201.name,by decide,Tryz.func201.trans (congrArg some (by kernel_rfl))⟩
 f15:=Tryz.func108.trans (congrArg some (by kernel_rfl))
 f20:=⟨Tryz.f257.name,by decide,Tryz.func257.trans (congrArg some (by kernel_rfl))⟩
 f21:=⟨Tryz.f258.name,by decide,Tryz.func258.trans (congrArg some (by kernel_rfl))⟩
 f22:=⟨Tryz.f259.name,by decide,Tryz.func259.trans (congrArg some (by kernel_rfl))⟩
 f23:=⟨Tryz.f260.name,by decide,Tryz.func260.trans (congrArg some (by kernel_rfl))⟩
 f24:=⟨Tryz.f261.name,by decide,Tryz.func261.trans (congrArg some (by kernel_rfl))⟩
 f25:=⟨Tryz.f262.name,by decide,Tryz.func262.trans (congrArg some (by kernel_rfl))⟩
 f26:=⟨Tryz.f263.name,by decide,Tryz.func263.trans (congrArg some (by kernel_rfl))⟩
 f27:=⟨Tryz.f264.name,by decide,Tryz.func264.trans (congrArg some (by kernel_rfl))⟩
 f28:=Tryz.func176.trans (congrArg some (by kernel_rfl))
 f29:=Tryz.func177.trans (congrArg some (by kernel_rfl))
 f46:=⟨Tryz.f306.name,by decide,Tryz.func306.trans (congrArg some (by kernel_rfl))⟩
 f47:=Tryz.func287.trans (congrArg some (by kernel_rfl))
 f48:=Tryz.func288.trans (congrArg some (by kernel_rfl))
 f49:=⟨Tryz.f307.name,by decide,Tryz.func307.trans (congrArg some (by kernel_rfl))⟩
 f50:=⟨Tryz.f308.name,by decide,Tryz.func308.trans (congrArg some (by kernel_rfl))⟩
 f57:=⟨Tryz.f330.name,by decide,Tryz.func330.trans (congrArg some (by kernel_rfl))⟩
 t0:=Tryz.underlying0
 a0:=Tryz.isAgg0
 z0:=Tryz.sizeOf0
 v0:=Tryz.zeroValue0
 t3:=Tryz.underlying3
 a3:=Tryz.isAgg3
 z3:=Tryz.sizeOf3
 v3:=Tryz.zeroValue3
 t4:=Tryz.underlying4
 a4:=Tryz.isAgg4
 z4:=Tryz.sizeOf4
 v4:=Tryz.zeroValue4
 t5:=Tryz.underlying5
 a5:=Tryz.isAgg5
 z5:=Tryz.sizeOf5
 v5:=Tryz.zeroValue5
 t9:=Tryz.underlying9
 a9:=Tryz.isAgg9
 z9:=Tryz.sizeOf9
 v9:=Tryz.zeroValue9
 t22:=Tryz.underlying73
 a22:=Tryz.isAgg73
 z22:=Tryz.sizeOf73
 v22:=Tryz.zeroValue73
 t25:=Tryz.underlying221
 a25:=Tryz.isAgg221
 z25:=Tryz.sizeOf221
 v25:=Tryz.zeroValue221
 t39:=Tryz.underlying150
 a39:=Tryz.isAgg150
 z39:=Tryz.sizeOf150
 v39:=Tryz.zeroValue150
 t45:=Tryz.underlying314
 a45:=Tryz.isAgg314
 z45:=Tryz.sizeOf314
 v45:=Tryz.zeroValue314
 t46:=Tryz.underlying315
 a46:=Tryz.isAgg315
 z46:=Tryz.sizeOf315
 v46:=Tryz.zeroValue315
 t50:=Tryz.underlying169
 a50:=Tryz.isAgg169
 z50:=Tryz.sizeOf169
 v50:=Tryz.zeroValue169
 t53:=Tryz.underlying80
 a53:=Tryz.isAgg80
 z53:=Tryz.sizeOf80
 v53:=Tryz.zeroValue80
 t55:=Tryz.underlying87
 a55:=Tryz.isAgg87
 z55:=Tryz.sizeOf87
 v55:=Tryz.zeroValue87
 t66:=Tryz.underlying360
 a66:=Tryz.isAgg360
 z66:=Tryz.sizeOf360
 v66:=Tryz.zeroValue360
 t70:=Tryz.underlying37
 a70:=Tryz.isAgg37
 z70:=Tryz.sizeOf37
 v70:=Tryz.zeroValue37
 t76:=Tryz.underlying386
 a76:=Tryz.isAgg386
 z76:=Tryz.sizeOf386
 v76:=Tryz.zeroValue386
 t77:=Tryz.underlying358
 a77:=Tryz.isAgg358
 z77:=Tryz.sizeOf358
 v77:=Tryz.zeroValue358 }
def Tryz.insFar_ren:Go.Shelf.Ren:=⟨fun|20=>255|n=>n,fun|24=>211|22=>207|3=>3|25=>214|4=>4|0=>0|n=>n,fun|n=>n⟩
def Tryz.insFar:Go.Proofs.SlLaysF0.n20 Tryz.prog Tryz.insFar_ren:= {
 mixed:=by kernel_rfl
 f20:=⟨Tryz.f255.name,by decide,Tryz.func255.trans (congrArg some (by kernel_rfl))⟩
 t0:=Tryz.underlying0
 a0:=Tryz.isAgg0
 z0:=Tryz.sizeOf0
 v0:=Tryz.zeroValue0
 t3:=Tryz.underlying3
 a3:=Tryz.isAgg3
 z3:=Tryz.sizeOf3
 v3:=Tryz.zeroValue3
 t4:=Tryz.underlying4
 a4:=Tryz.isAgg4
 z4:=Tryz.sizeOf4
 v4:=Tryz.zeroValue4
 t22:=Tryz.underlying207
 a22:=Tryz.isAgg207
 z22:=Tryz.sizeOf207
 v22:=Tryz.zeroValue207
 t25:=Tryz.underlying214
 a25:=Tryz.isAgg214
 z25:=Tryz.sizeOf214
 v25:=Tryz.zeroValue214 }
end Go.Proofs
