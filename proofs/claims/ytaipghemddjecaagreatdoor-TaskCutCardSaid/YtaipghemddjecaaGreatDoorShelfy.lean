import Derived.Shelf.Strings.Builder1
import Derived.Shelf.Strings.Builder2
import Derived.Shelf.Strings.OnBuilder
import Derived.Shelf.Small.Bits
import Derived.Shelf.Small.Strs
import Derived.Shelf.Strconv.Itoa0
import Derived.Shelf.Strconv.Itoa1
import Derived.Shelf.LaysM
import Derived.Shelf.Strconv.Itoa2
import Derived.Shelf.Strconv.Itoa3
import Derived.Shelf.Strings.Search1
import Derived.Shelf.Sort.Plain
import Derived.Shelf.Slices.In.SortNone
import Derived.Test.YtaipghemddjecaaGreatDoorProg
namespace Go.Proofs
set_option maxHeartbeats 40000000
set_option maxRecDepth 100000
open Go.Shelf
def Tryz.lays156_ren:Go.Shelf.Ren:=⟨fun|156=>29|165=>59|166=>60|169=>61|240=>80|241=>81|276=>96|277=>97|n=>n,fun|31=>60|9=>9|3=>3|4=>4|0=>0|20=>20|72=>85|76=>89|70=>83|37=>38|75=>88|127=>115|164=>129|5=>5|80=>91|n=>n,fun|n=>n⟩
theorem Tryz.lays156:Go.Proofs.Lays.n156 Tryz.prog Tryz.lays156_ren:={
  mixed:=by kernel_rfl
  f156:=Tryz.func29.trans (congrArg some (by kernel_rfl))
  f165:=Tryz.func59.trans (congrArg some (by kernel_rfl))
  f166:=Tryz.func60.trans (congrArg some (by kernel_rfl))
  f169:=Tryz.func61.trans (congrArg some (by kernel_rfl))
  f240:=Tryz.func80.trans (congrArg some (by kernel_rfl))
  f241:=Tryz.func81.trans (congrArg some (by kernel_rfl))
  f276:=Tryz.func96.trans (congrArg some (by kernel_rfl))
  f277:=Tryz.func97.trans (congrArg some (by kernel_rfl))
  t0:=Tryz.underlying0
  a0:=Tryz.isAgg0
  z0:=Tryz.sizeOf0
  v0:=Tryz.zeroValue0
  t3:=Tryz.underlying3
  a3:=Tryz.isAgg3
  z3:=Tryz.sizeOf3
  v3:=Tryz.zeroValue3
  t4:=Tryz.underlying4
  a4:=Tryz.isAgg4
  z4:=Tryz.sizeOf4
  v4:=Tryz.zeroValue4
  t9:=Tryz.underlying9
  a9:=Tryz.isAgg9
  z9:=Tryz.sizeOf9
  v9:=Tryz.zeroValue9
  t20:=Tryz.underlying20
  a20:=Tryz.isAgg20
  z20:=Tryz.sizeOf20
  v20:=Tryz.zeroValue20
  t31:=Tryz.underlying60
  a31:=Tryz.isAgg60
  z31:=Tryz.sizeOf60
  v31:=Tryz.zeroValue60
  t37:=Tryz.underlying38
  a37:=Tryz.isAgg38
  z37:=Tryz.sizeOf38
  v37:=Tryz.zeroValue38
  t70:=Tryz.underlying83
  a70:=Tryz.isAgg83
  z70:=Tryz.sizeOf83
  v70:=Tryz.zeroValue83
  t72:=Tryz.underlying85
  a72:=Tryz.isAgg85
  z72:=Tryz.sizeOf85
  v72:=Tryz.zeroValue85
  t75:=Tryz.underlying88
  a75:=Tryz.isAgg88
  z75:=Tryz.sizeOf88
  v75:=Tryz.zeroValue88
  t76:=Tryz.underlying89
  a76:=Tryz.isAgg89
  z76:=Tryz.sizeOf89
  v76:=Tryz.zeroValue89
  t127:=Tryz.underlying115
  a127:=Tryz.isAgg115
  z127:=Tryz.sizeOf115
  v127:=Tryz.zeroValue115
  t164:=Tryz.underlying129
  a164:=Tryz.isAgg129
  z164:=Tryz.sizeOf129
  v164:=Tryz.zeroValue129 }
theorem Tryz.Builder_Extra_156:Builder.Extra Tryz.prog Tryz.lays156_ren:={
  sizeBuilder:=by kernel_rfl
  liesBuilder:=by kernel_rfl
  t5:=Tryz.underlying5
  a5:=Tryz.isAgg5
  z5:=Tryz.sizeOf5
  v5:=Tryz.zeroValue5
  infoByte:=by kernel_rfl
  cellsByte:=by kernel_rfl
  sizeByte:=by kernel_rfl
  neB5:=by decide }
open Go.RowKit in
theorem Tryz.strings_Join_none(a:Option Addr)(c:Nat)(sep:ByteArray)(w:World):
    Calls Tryz.prog 29 #[.slice a 0 c,.string sep] w fun e w'=>e=.returned (.string ⟨#[]⟩)∧w'=w:=Any.strings_Join_none Tryz.lays156 Tryz.Builder_Extra_156 a c sep w
open Go.RowKit in
theorem Tryz.strings_Join(bk o c:Nat)(xs:List ByteArray)(sep:ByteArray)(w:World)(hcells:∀ (j:Nat) x,xs[j]?=some x→w.cell? ⟨bk,o+j,none⟩=some (.string x))(hbk:bk<w.heap.size)(hN:xs.length≤140737488355328)(hcap:xs.length≤c)(hlen:(Lib.join (xs.map (·.data.toList)) sep.data.toList).length≤140737488355328):
    Calls Tryz.prog 29 #[.slice (some ⟨bk,o,none⟩) xs.length c,.string sep] w fun e w'=>e=.returned (.string ⟨(Lib.join (xs.map (·.data.toList)) sep.data.toList).toArray⟩)∧Below w.heap.size w w':=Any.strings_Join Tryz.lays156 Tryz.Builder_Extra_156 bk o c xs sep w hcells hbk hN hcap hlen
def Tryz.laysM171_ren:Go.Shelf.Ren:=⟨fun|171=>14|243=>33|246=>62|283=>82|284=>83|285=>84|286=>85|129=>99|317=>98|318=>100|319=>101|320=>102|337=>117|338=>118|n=>n,fun|3=>3|9=>9|2=>2|4=>4|171=>116|0=>0|53=>117|37=>38|5=>5|173=>120|212=>133|51=>134|20=>20|213=>135|46=>128|232=>152|233=>153|n=>n,fun|17=>0|18=>2|19=>3|n=>n⟩
theorem Tryz.laysM171:Go.Proofs.LaysM.n171 Tryz.prog Tryz.laysM171_ren:={
  mixed:=by kernel_rfl
  f129:=Tryz.func99.trans (congrArg some (by kernel_rfl))
  f171:=Tryz.func14.trans (congrArg some (by kernel_rfl))
  f243:=Tryz.func33.trans (congrArg some (by kernel_rfl))
  f246:=Tryz.func62.trans (congrArg some (by kernel_rfl))
  f283:=Tryz.func82.trans (congrArg some (by kernel_rfl))
  f284:=Tryz.func83.trans (congrArg some (by kernel_rfl))
  f285:=Tryz.func84.trans (congrArg some (by kernel_rfl))
  f286:=Tryz.func85.trans (congrArg some (by kernel_rfl))
  f317:=Tryz.func98.trans (congrArg some (by kernel_rfl))
  f318:=Tryz.func100.trans (congrArg some (by kernel_rfl))
  f319:=Tryz.func101.trans (congrArg some (by kernel_rfl))
  f320:=Tryz.func102.trans (congrArg some (by kernel_rfl))
  f337:=Tryz.func117.trans (congrArg some (by kernel_rfl))
  f338:=Tryz.func118.trans (congrArg some (by kernel_rfl))
  t0:=Tryz.underlying0
  a0:=Tryz.isAgg0
  z0:=Tryz.sizeOf0
  v0:=Tryz.zeroValue0
  t2:=Tryz.underlying2
  a2:=Tryz.isAgg2
  z2:=Tryz.sizeOf2
  v2:=Tryz.zeroValue2
  t3:=Tryz.underlying3
  a3:=Tryz.isAgg3
  z3:=Tryz.sizeOf3
  v3:=Tryz.zeroValue3
  t4:=Tryz.underlying4
  a4:=Tryz.isAgg4
  z4:=Tryz.sizeOf4
  v4:=Tryz.zeroValue4
  t5:=Tryz.underlying5
  a5:=Tryz.isAgg5
  z5:=Tryz.sizeOf5
  v5:=Tryz.zeroValue5
  t9:=Tryz.underlying9
  a9:=Tryz.isAgg9
  z9:=Tryz.sizeOf9
  v9:=Tryz.zeroValue9
  t20:=Tryz.underlying20
  a20:=Tryz.isAgg20
  z20:=Tryz.sizeOf20
  v20:=Tryz.zeroValue20
  t37:=Tryz.underlying38
  a37:=Tryz.isAgg38
  z37:=Tryz.sizeOf38
  v37:=Tryz.zeroValue38
  t46:=Tryz.underlying128
  a46:=Tryz.isAgg128
  z46:=Tryz.sizeOf128
  v46:=Tryz.zeroValue128
  t51:=Tryz.underlying134
  a51:=Tryz.isAgg134
  z51:=Tryz.sizeOf134
  v51:=Tryz.zeroValue134
  t53:=Tryz.underlying117
  a53:=Tryz.isAgg117
  z53:=Tryz.sizeOf117
  v53:=Tryz.zeroValue117
  t171:=Tryz.underlying116
  a171:=Tryz.isAgg116
  z171:=Tryz.sizeOf116
  v171:=Tryz.zeroValue116
  t173:=Tryz.underlying120
  a173:=Tryz.isAgg120
  z173:=Tryz.sizeOf120
  v173:=Tryz.zeroValue120
  t212:=Tryz.underlying133
  a212:=Tryz.isAgg133
  z212:=Tryz.sizeOf133
  v212:=Tryz.zeroValue133
  t213:=Tryz.underlying135
  a213:=Tryz.isAgg135
  z213:=Tryz.sizeOf135
  t232:=Tryz.underlying152
  a232:=Tryz.isAgg152
  z232:=Tryz.sizeOf152
  v232:=Tryz.zeroValue152
  t233:=Tryz.underlying153
  a233:=Tryz.isAgg153
  z233:=Tryz.sizeOf153
  v233:=Tryz.zeroValue153
  g17:=by kernel_rfl
  g18:=by kernel_rfl
  g19:=by kernel_rfl
  i0:=by kernel_rfl
  i2:=by kernel_rfl
  i3:=by kernel_rfl
  i4:=by kernel_rfl
  i5:=by kernel_rfl
  i9:=by kernel_rfl
  i20:=by kernel_rfl
  i37:=by kernel_rfl
  i46:=by kernel_rfl
  i51:=by kernel_rfl
  i53:=by kernel_rfl
  i171:=by kernel_rfl
  i173:=by kernel_rfl
  i212:=by kernel_rfl
  i232:=by kernel_rfl
  i233:=by kernel_rfl
  m17:=by kernel_rfl
  m18:=by kernel_rfl
  m19:=by kernel_rfl }
open Go.RowKit Go.Sort Go.Lib in
theorem Tryz.strconv_Itoa(n:Int)(h0:-9223372036854775808≤n)(h1:n≤9223372036854775807)(w:World)(htab:Lib.TabIs Tryz.prog w "internal/strconv.uint64pow10" .u64 Lib.pow10Tab):
    Calls Tryz.prog 14 #[.int .i64 n] w fun e w'=>e=.returned (.string ⟨(Lib.itoa n).toArray⟩) ∧ ∃ k os,w'=grow (w.drewN k) os:=Any.strconv_Itoa Tryz.laysM171 n h0 h1 w htab
def Tryz.lays171_ren:Go.Shelf.Ren:=⟨fun|171=>14|243=>33|246=>62|283=>82|284=>83|285=>84|286=>85|129=>99|317=>98|318=>100|319=>101|320=>102|337=>117|338=>118|n=>n,fun|3=>3|9=>9|2=>2|4=>4|171=>116|0=>0|53=>117|37=>38|5=>5|173=>120|212=>133|51=>134|20=>20|213=>135|46=>128|232=>152|233=>153|n=>n,fun|17=>0|18=>2|19=>3|n=>n⟩
theorem Tryz.lays171:Go.Proofs.Lays.n171 Tryz.prog Tryz.lays171_ren:={
  mixed:=by kernel_rfl
  f129:=Tryz.func99.trans (congrArg some (by kernel_rfl))
  f171:=Tryz.func14.trans (congrArg some (by kernel_rfl))
  f243:=Tryz.func33.trans (congrArg some (by kernel_rfl))
  f246:=Tryz.func62.trans (congrArg some (by kernel_rfl))
  f283:=Tryz.func82.trans (congrArg some (by kernel_rfl))
  f284:=Tryz.func83.trans (congrArg some (by kernel_rfl))
  f285:=Tryz.func84.trans (congrArg some (by kernel_rfl))
  f286:=Tryz.func85.trans (congrArg some (by kernel_rfl))
  f317:=Tryz.func98.trans (congrArg some (by kernel_rfl))
  f318:=Tryz.func100.trans (congrArg some (by kernel_rfl))
  f319:=Tryz.func101.trans (congrArg some (by kernel_rfl))
  f320:=Tryz.func102.trans (congrArg some (by kernel_rfl))
  f337:=Tryz.func117.trans (congrArg some (by kernel_rfl))
  f338:=Tryz.func118.trans (congrArg some (by kernel_rfl))
  t0:=Tryz.underlying0
  a0:=Tryz.isAgg0
  z0:=Tryz.sizeOf0
  v0:=Tryz.zeroValue0
  t2:=Tryz.underlying2
  a2:=Tryz.isAgg2
  z2:=Tryz.sizeOf2
  v2:=Tryz.zeroValue2
  t3:=Tryz.underlying3
  a3:=Tryz.isAgg3
  z3:=Tryz.sizeOf3
  v3:=Tryz.zeroValue3
  t4:=Tryz.underlying4
  a4:=Tryz.isAgg4
  z4:=Tryz.sizeOf4
  v4:=Tryz.zeroValue4
  t5:=Tryz.underlying5
  a5:=Tryz.isAgg5
  z5:=Tryz.sizeOf5
  v5:=Tryz.zeroValue5
  t9:=Tryz.underlying9
  a9:=Tryz.isAgg9
  z9:=Tryz.sizeOf9
  v9:=Tryz.zeroValue9
  t20:=Tryz.underlying20
  a20:=Tryz.isAgg20
  z20:=Tryz.sizeOf20
  v20:=Tryz.zeroValue20
  t37:=Tryz.underlying38
  a37:=Tryz.isAgg38
  z37:=Tryz.sizeOf38
  v37:=Tryz.zeroValue38
  t46:=Tryz.underlying128
  a46:=Tryz.isAgg128
  z46:=Tryz.sizeOf128
  v46:=Tryz.zeroValue128
  t51:=Tryz.underlying134
  a51:=Tryz.isAgg134
  z51:=Tryz.sizeOf134
  v51:=Tryz.zeroValue134
  t53:=Tryz.underlying117
  a53:=Tryz.isAgg117
  z53:=Tryz.sizeOf117
  v53:=Tryz.zeroValue117
  t171:=Tryz.underlying116
  a171:=Tryz.isAgg116
  z171:=Tryz.sizeOf116
  v171:=Tryz.zeroValue116
  t173:=Tryz.underlying120
  a173:=Tryz.isAgg120
  z173:=Tryz.sizeOf120
  v173:=Tryz.zeroValue120
  t212:=Tryz.underlying133
  a212:=Tryz.isAgg133
  z212:=Tryz.sizeOf133
  v212:=Tryz.zeroValue133
  t213:=Tryz.underlying135
  a213:=Tryz.isAgg135
  z213:=Tryz.sizeOf135
  t232:=Tryz.underlying152
  a232:=Tryz.isAgg152
  z232:=Tryz.sizeOf152
  v232:=Tryz.zeroValue152
  t233:=Tryz.underlying153
  a233:=Tryz.isAgg153
  z233:=Tryz.sizeOf153
  v233:=Tryz.zeroValue153
  g17:=by kernel_rfl
  g18:=by kernel_rfl
  g19:=by kernel_rfl }
open Go.RowKit Go.Sort Go.Lib in
theorem Tryz.strconv_Itoa_small(i:Nat)(hi:i<100)(w:World):
    Calls Tryz.prog 14 #[.int .i64 i] w fun e w'=>e=.returned (.string ⟨(Lib.decDigits i).toArray⟩)∧w'=w:=Any.strconv_Itoa_small Tryz.lays171 i hi w
def Tryz.lays190_ren:Go.Shelf.Ren:=⟨fun|190=>76|125=>93|258=>92|128=>116|129=>99|302=>107|303=>108|304=>109|305=>110|306=>111|307=>112|308=>113|309=>114|310=>115|333=>124|329=>125|330=>126|334=>127|335=>128|336=>129|344=>131|n=>n,fun|31=>60|9=>9|3=>3|46=>128|0=>0|51=>134|53=>117|4=>4|183=>139|182=>138|131=>81|5=>5|218=>146|222=>150|228=>154|229=>155|n=>n,fun|n=>n⟩
theorem Tryz.lays190:Go.Proofs.Lays.n190 Tryz.prog Tryz.lays190_ren:={
  mixed:=by kernel_rfl
  f125:=Tryz.func93.trans (congrArg some (by kernel_rfl))
  f128:=Tryz.func116.trans (congrArg some (by kernel_rfl))
  f129:=Tryz.func99.trans (congrArg some (by kernel_rfl))
  f190:=Tryz.func76.trans (congrArg some (by kernel_rfl))
  f258:=Tryz.func92.trans (congrArg some (by kernel_rfl))
  f302:=Tryz.func107.trans (congrArg some (by kernel_rfl))
  f303:=Tryz.func108.trans (congrArg some (by kernel_rfl))
  f304:=Tryz.func109.trans (congrArg some (by kernel_rfl))
  f305:=Tryz.func110.trans (congrArg some (by kernel_rfl))
  f306:=Tryz.func111.trans (congrArg some (by kernel_rfl))
  f307:=Tryz.func112.trans (congrArg some (by kernel_rfl))
  f308:=Tryz.func113.trans (congrArg some (by kernel_rfl))
  f309:=Tryz.func114.trans (congrArg some (by kernel_rfl))
  f310:=Tryz.func115.trans (congrArg some (by kernel_rfl))
  f329:=Tryz.func125.trans (congrArg some (by kernel_rfl))
  f330:=Tryz.func126.trans (congrArg some (by kernel_rfl))
  f333:=Tryz.func124.trans (congrArg some (by kernel_rfl))
  f334:=Tryz.func127.trans (congrArg some (by kernel_rfl))
  f335:=Tryz.func128.trans (congrArg some (by kernel_rfl))
  f336:=Tryz.func129.trans (congrArg some (by kernel_rfl))
  f344:=Tryz.func131.trans (congrArg some (by kernel_rfl))
  t0:=Tryz.underlying0
  a0:=Tryz.isAgg0
  z0:=Tryz.sizeOf0
  v0:=Tryz.zeroValue0
  t3:=Tryz.underlying3
  a3:=Tryz.isAgg3
  z3:=Tryz.sizeOf3
  v3:=Tryz.zeroValue3
  t4:=Tryz.underlying4
  a4:=Tryz.isAgg4
  z4:=Tryz.sizeOf4
  v4:=Tryz.zeroValue4
  t5:=Tryz.underlying5
  a5:=Tryz.isAgg5
  z5:=Tryz.sizeOf5
  v5:=Tryz.zeroValue5
  t9:=Tryz.underlying9
  a9:=Tryz.isAgg9
  z9:=Tryz.sizeOf9
  v9:=Tryz.zeroValue9
  t31:=Tryz.underlying60
  a31:=Tryz.isAgg60
  z31:=Tryz.sizeOf60
  v31:=Tryz.zeroValue60
  t46:=Tryz.underlying128
  a46:=Tryz.isAgg128
  z46:=Tryz.sizeOf128
  v46:=Tryz.zeroValue128
  t51:=Tryz.underlying134
  a51:=Tryz.isAgg134
  z51:=Tryz.sizeOf134
  v51:=Tryz.zeroValue134
  t53:=Tryz.underlying117
  a53:=Tryz.isAgg117
  z53:=Tryz.sizeOf117
  v53:=Tryz.zeroValue117
  t131:=Tryz.underlying81
  a131:=Tryz.isAgg81
  z131:=Tryz.sizeOf81
  v131:=Tryz.zeroValue81
  t182:=Tryz.underlying138
  a182:=Tryz.isAgg138
  z182:=Tryz.sizeOf138
  v182:=Tryz.zeroValue138
  t183:=Tryz.underlying139
  a183:=Tryz.isAgg139
  z183:=Tryz.sizeOf139
  v183:=Tryz.zeroValue139
  t218:=Tryz.underlying146
  a218:=Tryz.isAgg146
  z218:=Tryz.sizeOf146
  v218:=Tryz.zeroValue146
  t222:=Tryz.underlying150
  a222:=Tryz.isAgg150
  z222:=Tryz.sizeOf150
  v222:=Tryz.zeroValue150
  t228:=Tryz.underlying154
  a228:=Tryz.isAgg154
  z228:=Tryz.sizeOf154
  v228:=Tryz.zeroValue154
  t229:=Tryz.underlying155
  a229:=Tryz.isAgg155
  z229:=Tryz.sizeOf155
  v229:=Tryz.zeroValue155 }
open Go.Sort Go.RowKit in
theorem Tryz.slices_Sort_string(blk off cap:Nat)(ss:List (List UInt8))(w:World)(hH:Holds encStr w blk off ss.toArray)(hblk:blk<w.heap.size)(hsz:ss.length<4611686018427387904):
    Calls Tryz.prog 76 #[.slice (some ⟨blk,off,none⟩) ss.length cap] w fun e w'=>
      e=.returned (.tuple #[]) ∧ ∃ n os,w'=grow (putRow encStr (Sort.ahead w n) blk off (ss.mergeSort fun x y=>decide (x≤y)).toArray) os:=Any.slices_Sort_string Tryz.lays190 blk off cap ss w hH hblk hsz
open Go.RowKit Go.Sort in
theorem Tryz.slices_Sort_string_none(p:Option Addr)(cap:Nat)(w:World):
    Calls Tryz.prog 76 #[.slice p 0 cap] w fun e w'=>e=.returned (.tuple #[])∧w'=w:=Any.slices_Sort_string_none Tryz.lays190 p cap w
end Go.Proofs
