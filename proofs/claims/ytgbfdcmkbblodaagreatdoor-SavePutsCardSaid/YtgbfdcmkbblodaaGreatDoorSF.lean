/-
  Contracts of the library's functions at this program, laid out of the shelf by its own program.
-/
import Derived.Shelf.Strings.Builder1
import Derived.Shelf.Strings.Builder2
import Derived.Shelf.Strings.OnBuilder
import Derived.Shelf.Strings.Trim
import Derived.Shelf.Small.Utf8
import Derived.Shelf.Small.Bits
import Derived.Shelf.Small.Strs
import Derived.Shelf.Strings.BuilderF
import Derived.Shelf.Strings.BuilderK
import Derived.Shelf.Utf8.RuneCount
import Derived.Shelf.Strconv.Atoi
import Derived.Shelf.Strconv.Itoa0
import Derived.Shelf.Strconv.Itoa1
import Derived.Shelf.LaysM
import Derived.Shelf.Strconv.Itoa2
import Derived.Shelf.Strconv.Itoa3
import Derived.Shelf.Strings.Search1
import Derived.Shelf.Strings.Search2
import Derived.Shelf.Strings.Search3
import Derived.Shelf.Strings.Count
import Derived.Shelf.Strings.Shaped
import Derived.Shelf.Strings.Split
import Derived.Shelf.Strings.SplitShaped
import Derived.Shelf.Unicode.Decode
import Derived.Shelf.Strings.Runes
import Derived.Shelf.Strings.RuneCount
import Derived.Shelf.Strings.AsciiSet
import Derived.Shelf.Strings.Explode
import Derived.Shelf.Unicode.DecodeSlow
import Derived.Shelf.Unicode.DecodeAny
import Derived.Shelf.Unicode.DecodeLast
import Derived.Ground.Names2Prog
import Derived.Shelf.Slices.SearchI
import Derived.Ground.SlgnProg
import Derived.Shelf.SlicesE.Clone
import Derived.Ground.SlsfProg
import Derived.Shelf.SlSortCmp.Insertion
import Derived.Shelf.SlSortCmp.SiftDown1
import Derived.Shelf.SlSortCmp.HeapSort1
import Derived.Shelf.SlSortCmp.Insertion1
import Derived.Shelf.SlSortCmp.Median1
import Derived.Shelf.SlSortCmp.Pivot1
import Derived.Shelf.SlSortCmp.ReverseRange1
import Derived.Shelf.SlSortCmp.PartitionEqual1
import Derived.Test.YtgbfdcmkbblodaaGreatDoorProg
namespace Go.Proofs
open Go.Shelf Tryz
def Tryz.lays156_ren:Go.Shelf.Ren:=⟨fun|156=>137|165=>170|166=>171|169=>172|240=>197|241=>198|276=>225|277=>226|n=>n,fun|31=>65|9=>9|3=>3|4=>4|0=>0|20=>20|72=>232|76=>236|70=>230|37=>141|75=>235|127=>261|164=>290|5=>5|80=>88|n=>n,fun|n=>n⟩
theorem Tryz.lays156:Go.Proofs.Lays.n156 prog Tryz.lays156_ren:={
  mixed:=by kernel_rfl
  f156:=func137.trans (congrArg some (by kernel_rfl))
  f165:=func170.trans (congrArg some (by kernel_rfl))
  f166:=func171.trans (congrArg some (by kernel_rfl))
  f169:=func172.trans (congrArg some (by kernel_rfl))
  f240:=func197.trans (congrArg some (by kernel_rfl))
  f241:=func198.trans (congrArg some (by kernel_rfl))
  f276:=func225.trans (congrArg some (by kernel_rfl))
  f277:=func226.trans (congrArg some (by kernel_rfl))
  t0:=underlying0
  a0:=isAgg0
  z0:=sizeOf0
  v0:=zeroValue0
  t3:=underlying3
  a3:=isAgg3
  z3:=sizeOf3
  v3:=zeroValue3
  t4:=underlying4
  a4:=isAgg4
  z4:=sizeOf4
  v4:=zeroValue4
  t9:=underlying9
  a9:=isAgg9
  z9:=sizeOf9
  v9:=zeroValue9
  t20:=underlying20
  a20:=isAgg20
  z20:=sizeOf20
  v20:=zeroValue20
  t31:=underlying65
  a31:=isAgg65
  z31:=sizeOf65
  v31:=zeroValue65
  t37:=underlying141
  a37:=isAgg141
  z37:=sizeOf141
  v37:=zeroValue141
  t70:=underlying230
  a70:=isAgg230
  z70:=sizeOf230
  v70:=zeroValue230
  t72:=underlying232
  a72:=isAgg232
  z72:=sizeOf232
  v72:=zeroValue232
  t75:=underlying235
  a75:=isAgg235
  z75:=sizeOf235
  v75:=zeroValue235
  t76:=underlying236
  a76:=isAgg236
  z76:=sizeOf236
  v76:=zeroValue236
  t127:=underlying261
  a127:=isAgg261
  z127:=sizeOf261
  v127:=zeroValue261
  t164:=underlying290
  a164:=isAgg290
  z164:=sizeOf290
  v164:=zeroValue290}
theorem Tryz.Builder_Extra_156:Builder.Extra prog Tryz.lays156_ren:={
  sizeBuilder:=by kernel_rfl
  liesBuilder:=by kernel_rfl
  t5:=underlying5
  a5:=isAgg5
  z5:=sizeOf5
  v5:=zeroValue5
  infoByte:=by kernel_rfl
  cellsByte:=by kernel_rfl
  sizeByte:=by kernel_rfl
  neB5:=by decide}
open Go.RowKit in
/--strings.Join: "Join concatenates the elements of its first argument to create a single string. The separator string sep is placed between elements in the resulting string.":HOWEVER MANY ELEMENTS. Below the heap's end the world is as it was. (LAID:no walk:one application.) -/
theorem Tryz.strings_Join (bk o c:Nat) (xs:List ByteArray) (sep:ByteArray) (w:World) (hcells: ∀(j:Nat) x,xs[j]? =some x→w.cell? ⟨bk,o+j,none⟩=some (.string x)) (hbk:bk<w.heap.size) (hN:xs.length≤140737488355328) (hcap:xs.length≤c) (hlen:(Lib.join (xs.map (·.data.toList)) sep.data.toList).length≤140737488355328):
    Calls prog 137 #[.slice (some ⟨bk,o,none⟩) xs.length c,.string sep] w fun e w'=>e= .returned (.string ⟨(Lib.join (xs.map (·.data.toList)) sep.data.toList).toArray⟩)∧Below w.heap.size w w':=Any.strings_Join Tryz.lays156 Tryz.Builder_Extra_156 bk o c xs sep w hcells hbk hN hcap hlen
def Tryz.lays161_ren:Go.Shelf.Ren:=⟨fun|161=>184|231=>205|227=>207|233=>208|235=>210|228=>234|197=>231|151=>235|260=>261|152=>266|137=>287|119=>288|224=>264|225=>263|217=>262|266=>285|n=>n,fun|9=>9|4=>4|3=>3|5=>5|117=>270|116=>269|0=>0|124=>273|105=>295|21=>21|119=>341|46=>148|139=>344|138=>343|n=>n,fun|3=>1|4=>2|n=>n⟩
theorem Tryz.lays161:Go.Proofs.Lays.n161 prog Tryz.lays161_ren:={
  mixed:=by kernel_rfl
  f119:=func288.trans (congrArg some (by kernel_rfl))
  f137:=func287.trans (congrArg some (by kernel_rfl))
  f151:=func235.trans (congrArg some (by kernel_rfl))
  f152:=func266.trans (congrArg some (by kernel_rfl))
  f161:=func184.trans (congrArg some (by kernel_rfl))
  f197:=func231.trans (congrArg some (by kernel_rfl))
  f217:=func262.trans (congrArg some (by kernel_rfl))
  f224:=func264.trans (congrArg some (by kernel_rfl))
  f225:=func263.trans (congrArg some (by kernel_rfl))
  f227:=func207.trans (congrArg some (by kernel_rfl))
  f228:=func234.trans (congrArg some (by kernel_rfl))
  f231:=func205.trans (congrArg some (by kernel_rfl))
  f233:=func208.trans (congrArg some (by kernel_rfl))
  f235:=func210.trans (congrArg some (by kernel_rfl))
  f260:=func261.trans (congrArg some (by kernel_rfl))
  f266:=func285.trans (congrArg some (by kernel_rfl))
  t0:=underlying0
  a0:=isAgg0
  z0:=sizeOf0
  v0:=zeroValue0
  t3:=underlying3
  a3:=isAgg3
  z3:=sizeOf3
  v3:=zeroValue3
  t4:=underlying4
  a4:=isAgg4
  z4:=sizeOf4
  v4:=zeroValue4
  t5:=underlying5
  a5:=isAgg5
  z5:=sizeOf5
  v5:=zeroValue5
  t9:=underlying9
  a9:=isAgg9
  z9:=sizeOf9
  v9:=zeroValue9
  t21:=underlying21
  a21:=isAgg21
  z21:=sizeOf21
  v21:=zeroValue21
  t46:=underlying148
  a46:=isAgg148
  z46:=sizeOf148
  v46:=zeroValue148
  t105:=underlying295
  a105:=isAgg295
  z105:=sizeOf295
  v105:=zeroValue295
  t116:=underlying269
  a116:=isAgg269
  z116:=sizeOf269
  t117:=underlying270
  a117:=isAgg270
  z117:=sizeOf270
  v117:=zeroValue270
  t119:=underlying341
  a119:=isAgg341
  z119:=sizeOf341
  t124:=underlying273
  a124:=isAgg273
  z124:=sizeOf273
  v124:=zeroValue273
  t138:=underlying343
  a138:=isAgg343
  z138:=sizeOf343
  v138:=zeroValue343
  t139:=underlying344
  a139:=isAgg344
  z139:=sizeOf344
  v139:=zeroValue344
  g3:=by kernel_rfl
  g4:=by kernel_rfl}
open Go.RowKit in
/--strings.TrimLeft: "TrimLeft returns a slice of the string s with all leading Unicode code points contained in cutset removed.":AT A cutset OF ONE ASCII BYTE. The world is as it was. (LAID:no walk:one application.) -/
def Tryz.lays160_ren:Go.Shelf.Ren:=⟨fun|160=>177|232=>206|231=>205|227=>207|234=>209|233=>208|236=>211|235=>210|228=>234|271=>236|151=>235|197=>231|120=>267|152=>266|260=>261|137=>287|119=>288|224=>264|225=>263|217=>262|266=>285|n=>n,fun|9=>9|4=>4|3=>3|5=>5|117=>270|116=>269|0=>0|124=>273|21=>21|105=>295|46=>148|119=>341|139=>344|138=>343|n=>n,fun|3=>1|4=>2|n=>n⟩
theorem Tryz.lays160:Go.Proofs.Lays.n160 prog Tryz.lays160_ren:={
  mixed:=by kernel_rfl
  f119:=func288.trans (congrArg some (by kernel_rfl))
  f120:=func267.trans (congrArg some (by kernel_rfl))
  f137:=func287.trans (congrArg some (by kernel_rfl))
  f151:=func235.trans (congrArg some (by kernel_rfl))
  f152:=func266.trans (congrArg some (by kernel_rfl))
  f160:=func177.trans (congrArg some (by kernel_rfl))
  f197:=func231.trans (congrArg some (by kernel_rfl))
  f217:=func262.trans (congrArg some (by kernel_rfl))
  f224:=func264.trans (congrArg some (by kernel_rfl))
  f225:=func263.trans (congrArg some (by kernel_rfl))
  f227:=func207.trans (congrArg some (by kernel_rfl))
  f228:=func234.trans (congrArg some (by kernel_rfl))
  f231:=func205.trans (congrArg some (by kernel_rfl))
  f232:=func206.trans (congrArg some (by kernel_rfl))
  f233:=func208.trans (congrArg some (by kernel_rfl))
  f234:=func209.trans (congrArg some (by kernel_rfl))
  f235:=func210.trans (congrArg some (by kernel_rfl))
  f236:=func211.trans (congrArg some (by kernel_rfl))
  f260:=func261.trans (congrArg some (by kernel_rfl))
  f266:=func285.trans (congrArg some (by kernel_rfl))
  f271:=func236.trans (congrArg some (by kernel_rfl))
  t0:=underlying0
  a0:=isAgg0
  z0:=sizeOf0
  v0:=zeroValue0
  t3:=underlying3
  a3:=isAgg3
  z3:=sizeOf3
  v3:=zeroValue3
  t4:=underlying4
  a4:=isAgg4
  z4:=sizeOf4
  v4:=zeroValue4
  t5:=underlying5
  a5:=isAgg5
  z5:=sizeOf5
  v5:=zeroValue5
  t9:=underlying9
  a9:=isAgg9
  z9:=sizeOf9
  v9:=zeroValue9
  t21:=underlying21
  a21:=isAgg21
  z21:=sizeOf21
  v21:=zeroValue21
  t46:=underlying148
  a46:=isAgg148
  z46:=sizeOf148
  v46:=zeroValue148
  t105:=underlying295
  a105:=isAgg295
  z105:=sizeOf295
  v105:=zeroValue295
  t116:=underlying269
  a116:=isAgg269
  z116:=sizeOf269
  t117:=underlying270
  a117:=isAgg270
  z117:=sizeOf270
  v117:=zeroValue270
  t119:=underlying341
  a119:=isAgg341
  z119:=sizeOf341
  t124:=underlying273
  a124:=isAgg273
  z124:=sizeOf273
  v124:=zeroValue273
  t138:=underlying343
  a138:=isAgg343
  z138:=sizeOf343
  v138:=zeroValue343
  t139:=underlying344
  a139:=isAgg344
  z139:=sizeOf344
  v139:=zeroValue344
  g3:=by kernel_rfl
  g4:=by kernel_rfl}
open Go.RowKit in
/--strings.Trim: "Trim returns a slice of the string s with all leading and trailing Unicode code points contained in cutset removed.":AT A cutset OF ONE ASCII BYTE. THE WORLD BEHIND IT:as it was,or (where s is not empty)with ONE DRAW MORE off the tape:the statement 'return trimLeftByte(trimRightByte(s,c),c)' draws its order of evaluation. (LAID:no walk:one application.) -/
def Tryz.lays172_ren:Go.Shelf.Ren:=⟨fun|172=>212|244=>237|245=>238|247=>268|279=>269|280=>270|281=>271|282=>272|287=>289|316=>290|171=>292|205=>291|321=>295|322=>296|243=>297|246=>299|283=>301|284=>302|285=>303|286=>304|129=>258|317=>306|318=>307|319=>308|320=>309|337=>311|338=>312|n=>n,fun|9=>9|3=>3|75=>235|76=>236|4=>4|5=>5|167=>325|37=>141|0=>0|85=>326|2=>2|168=>328|53=>146|175=>347|46=>148|210=>351|127=>261|145=>360|143=>358|21=>21|171=>362|173=>364|212=>367|51=>143|20=>20|213=>368|232=>370|233=>371|80=>88|n=>n,fun|15=>3|16=>4|17=>5|18=>6|19=>7|n=>n⟩
theorem Tryz.lays172:Go.Proofs.Lays.n172 prog Tryz.lays172_ren:={
  mixed:=by kernel_rfl
  f129:=func258.trans (congrArg some (by kernel_rfl))
  f171:=func292.trans (congrArg some (by kernel_rfl))
  f172:=func212.trans (congrArg some (by kernel_rfl))
  f205:=func291.trans (congrArg some (by kernel_rfl))
  f243:=func297.trans (congrArg some (by kernel_rfl))
  f244:=func237.trans (congrArg some (by kernel_rfl))
  f245:=func238.trans (congrArg some (by kernel_rfl))
  f246:=func299.trans (congrArg some (by kernel_rfl))
  f247:=func268.trans (congrArg some (by kernel_rfl))
  f279:=func269.trans (congrArg some (by kernel_rfl))
  f280:=func270.trans (congrArg some (by kernel_rfl))
  f281:=func271.trans (congrArg some (by kernel_rfl))
  f282:=func272.trans (congrArg some (by kernel_rfl))
  f283:=func301.trans (congrArg some (by kernel_rfl))
  f284:=func302.trans (congrArg some (by kernel_rfl))
  f285:=func303.trans (congrArg some (by kernel_rfl))
  f286:=func304.trans (congrArg some (by kernel_rfl))
  f287:=func289.trans (congrArg some (by kernel_rfl))
  f316:=func290.trans (congrArg some (by kernel_rfl))
  f317:=func306.trans (congrArg some (by kernel_rfl))
  f318:=func307.trans (congrArg some (by kernel_rfl))
  f319:=func308.trans (congrArg some (by kernel_rfl))
  f320:=func309.trans (congrArg some (by kernel_rfl))
  f321:=func295.trans (congrArg some (by kernel_rfl))
  f322:=func296.trans (congrArg some (by kernel_rfl))
  f337:=func311.trans (congrArg some (by kernel_rfl))
  f338:=func312.trans (congrArg some (by kernel_rfl))
  t0:=underlying0
  a0:=isAgg0
  z0:=sizeOf0
  v0:=zeroValue0
  t2:=underlying2
  a2:=isAgg2
  z2:=sizeOf2
  v2:=zeroValue2
  t3:=underlying3
  a3:=isAgg3
  z3:=sizeOf3
  v3:=zeroValue3
  t4:=underlying4
  a4:=isAgg4
  z4:=sizeOf4
  v4:=zeroValue4
  t5:=underlying5
  a5:=isAgg5
  z5:=sizeOf5
  v5:=zeroValue5
  t9:=underlying9
  a9:=isAgg9
  z9:=sizeOf9
  v9:=zeroValue9
  t20:=underlying20
  a20:=isAgg20
  z20:=sizeOf20
  v20:=zeroValue20
  t21:=underlying21
  a21:=isAgg21
  z21:=sizeOf21
  v21:=zeroValue21
  t37:=underlying141
  a37:=isAgg141
  z37:=sizeOf141
  v37:=zeroValue141
  t46:=underlying148
  a46:=isAgg148
  z46:=sizeOf148
  v46:=zeroValue148
  t51:=underlying143
  a51:=isAgg143
  z51:=sizeOf143
  v51:=zeroValue143
  t53:=underlying146
  a53:=isAgg146
  z53:=sizeOf146
  v53:=zeroValue146
  t75:=underlying235
  a75:=isAgg235
  z75:=sizeOf235
  v75:=zeroValue235
  t76:=underlying236
  a76:=isAgg236
  z76:=sizeOf236
  v76:=zeroValue236
  t85:=underlying326
  a85:=isAgg326
  z85:=sizeOf326
  v85:=zeroValue326
  t127:=underlying261
  a127:=isAgg261
  z127:=sizeOf261
  v127:=zeroValue261
  t143:=underlying358
  a143:=isAgg358
  z143:=sizeOf358
  v143:=zeroValue358
  t145:=underlying360
  a145:=isAgg360
  z145:=sizeOf360
  v145:=zeroValue360
  t167:=underlying325
  a167:=isAgg325
  z167:=sizeOf325
  v167:=zeroValue325
  t168:=underlying328
  a168:=isAgg328
  z168:=sizeOf328
  v168:=zeroValue328
  t171:=underlying362
  a171:=isAgg362
  z171:=sizeOf362
  v171:=zeroValue362
  t173:=underlying364
  a173:=isAgg364
  z173:=sizeOf364
  v173:=zeroValue364
  t175:=underlying347
  a175:=isAgg347
  z175:=sizeOf347
  v175:=zeroValue347
  t210:=underlying351
  a210:=isAgg351
  z210:=sizeOf351
  v210:=zeroValue351
  t212:=underlying367
  a212:=isAgg367
  z212:=sizeOf367
  v212:=zeroValue367
  t213:=underlying368
  a213:=isAgg368
  z213:=sizeOf368
  t232:=underlying370
  a232:=isAgg370
  z232:=sizeOf370
  v232:=zeroValue370
  t233:=underlying371
  a233:=isAgg371
  z233:=sizeOf371
  v233:=zeroValue371
  g15:=by kernel_rfl
  g16:=by kernel_rfl
  g17:=by kernel_rfl
  g18:=by kernel_rfl
  g19:=by kernel_rfl}
open Go.RowKit in
/--strconv.Atoi: "Atoi is equivalent to ParseInt(s, 10, 0), converted to type int.":AT A DECIMAL NUMERAL OF AT MOST 18 BYTES:its value,and a nil error. The world behind the call:the one new row that the library's '[]byte(s)' lays. (LAID:no walk:one application.) -/
theorem Tryz.strconv_Atoi (s:ByteArray) (n:Int) (hl:s.size≤18) (h:Lib.atoi s.data.toList=some n) (w:World):
    Calls prog 212 #[.string s] w fun e w'=>e= .returned (.tuple #[.int .i64 n,.nilIface])∧ ∃t,w'=Lib.bytesWorld w 5 t:=Any.strconv_Atoi Tryz.lays172 s n hl h w
def Tryz.lays146_ren:Go.Shelf.Ren:=⟨fun|146=>152|221=>176|268=>202|138=>203|143=>204|195=>230|197=>231|218=>232|219=>233|260=>261|217=>262|225=>263|224=>264|267=>265|266=>285|314=>286|n=>n,fun|9=>9|31=>65|3=>3|4=>4|0=>0|105=>295|21=>21|5=>5|46=>148|119=>341|139=>344|138=>343|146=>345|51=>143|n=>n,fun|1=>0|3=>1|4=>2|n=>n⟩
theorem Tryz.lays146:Go.Proofs.Lays.n146 prog Tryz.lays146_ren:={
  mixed:=by kernel_rfl
  f138:=func203.trans (congrArg some (by kernel_rfl))
  f143:=func204.trans (congrArg some (by kernel_rfl))
  f146:=func152.trans (congrArg some (by kernel_rfl))
  f195:=func230.trans (congrArg some (by kernel_rfl))
  f197:=func231.trans (congrArg some (by kernel_rfl))
  f217:=func262.trans (congrArg some (by kernel_rfl))
  f218:=func232.trans (congrArg some (by kernel_rfl))
  f219:=func233.trans (congrArg some (by kernel_rfl))
  f221:=func176.trans (congrArg some (by kernel_rfl))
  f224:=func264.trans (congrArg some (by kernel_rfl))
  f225:=func263.trans (congrArg some (by kernel_rfl))
  f260:=func261.trans (congrArg some (by kernel_rfl))
  f266:=func285.trans (congrArg some (by kernel_rfl))
  f267:=func265.trans (congrArg some (by kernel_rfl))
  f268:=func202.trans (congrArg some (by kernel_rfl))
  f314:=func286.trans (congrArg some (by kernel_rfl))
  t0:=underlying0
  a0:=isAgg0
  z0:=sizeOf0
  v0:=zeroValue0
  t3:=underlying3
  a3:=isAgg3
  z3:=sizeOf3
  v3:=zeroValue3
  t4:=underlying4
  a4:=isAgg4
  z4:=sizeOf4
  v4:=zeroValue4
  t5:=underlying5
  a5:=isAgg5
  z5:=sizeOf5
  v5:=zeroValue5
  t9:=underlying9
  a9:=isAgg9
  z9:=sizeOf9
  v9:=zeroValue9
  t21:=underlying21
  a21:=isAgg21
  z21:=sizeOf21
  v21:=zeroValue21
  t31:=underlying65
  a31:=isAgg65
  z31:=sizeOf65
  v31:=zeroValue65
  t46:=underlying148
  a46:=isAgg148
  z46:=sizeOf148
  v46:=zeroValue148
  t51:=underlying143
  a51:=isAgg143
  z51:=sizeOf143
  v51:=zeroValue143
  t105:=underlying295
  a105:=isAgg295
  z105:=sizeOf295
  v105:=zeroValue295
  t119:=underlying341
  a119:=isAgg341
  z119:=sizeOf341
  t138:=underlying343
  a138:=isAgg343
  z138:=sizeOf343
  v138:=zeroValue343
  t139:=underlying344
  a139:=isAgg344
  z139:=sizeOf344
  v139:=zeroValue344
  t146:=underlying345
  a146:=isAgg345
  z146:=sizeOf345
  v146:=zeroValue345
  g1:=by kernel_rfl
  g3:=by kernel_rfl
  g4:=by kernel_rfl}
open Go.RowKit Go.Lib in
/--strings.Split. (LAID:no walk:one application.) -/
theorem Tryz.strings_Split (s sep:ByteArray) (m:Int) (w:World) (hs:s.size<4294967281) (hm:w.cell? ⟨0,0,none⟩=some (.int .i64 m)) (h1:1≤sep.size):
    Calls prog 152 #[.string s,.string sep] w fun e w'=>
      e= .returned (.slice (some ⟨w.heap.size,0,none⟩) (Lib.countB s sep+1) (Lib.countB s sep+1))∧w'=w.alloc (.cells ((Lib.splitB sep 0 (Lib.countB s sep) s).map Value.string).toArray 9):=Any.strings_Split Tryz.lays146 (by kernel_rfl) s sep m w hs hm h1
end Go.Proofs
