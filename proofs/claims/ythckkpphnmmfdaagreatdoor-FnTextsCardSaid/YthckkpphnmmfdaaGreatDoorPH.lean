import Derived.Shelf.Strconv.Itoa3
import Derived.Shelf.Strconv.AtoiAll
import Derived.Shelf.Strings.Split
import Derived.Shelf.Strings.Replace
import Derived.Shelf.Strings.OnBuilder
import Derived.Test.YthckkpphnmmfdaaGreatDoorMH
import Derived.Test.YthckkpphnmmfdaaGreatDoorPD
import Derived.Test.YthckkpphnmmfdaaGreatDoorPG
import Derived.Lib.AtoiAllCases
import Derived.Lib.AppendIntMem
import Derived.WalkKit
import Derived.BigCall
namespace Go.Proofs
open Go.Shelf
def Tryz.laysM171_ren:Go.Shelf.Ren:=⟨λ| 171=>90|243=>120|246=>162|283=>200|284=>201|285=>202|286=>203|129=>230|317=>229|318=>231|319=>232|320=>233|337=>246|338=>247|n=>n,λ| 3=>3|9=>9|2=>2|4=>4|171=>230|0=>0|53=>231|37=>44|5=>5|173=>234|212=>263|51=>264|20=>20|213=>265|46=>203|232=>293|233=>294|n=>n,λ| 17=>0|18=>6|19=>7|n=>n⟩
theorem uk:Go.Proofs.LaysM.n171 Tryz.prog Tryz.laysM171_ren:={
 mixed:=by kernel_rfl
 f129:=Tryz.func230.trans (congrArg some (by kernel_rfl))
 f171:=Tryz.func90.trans (congrArg some (by kernel_rfl))
 f243:=Tryz.func120.trans (congrArg some (by kernel_rfl))
 f246:=Tryz.func162.trans (congrArg some (by kernel_rfl))
 f283:=Tryz.func200.trans (congrArg some (by kernel_rfl))
 f284:=Tryz.func201.trans (congrArg some (by kernel_rfl))
 f285:=Tryz.func202.trans (congrArg some (by kernel_rfl))
 f286:=Tryz.func203.trans (congrArg some (by kernel_rfl))
 f317:=Tryz.func229.trans (congrArg some (by kernel_rfl))
 f318:=Tryz.func231.trans (congrArg some (by kernel_rfl))
 f319:=Tryz.func232.trans (congrArg some (by kernel_rfl))
 f320:=Tryz.func233.trans (congrArg some (by kernel_rfl))
 f337:=Tryz.func246.trans (congrArg some (by kernel_rfl))
 f338:=Tryz.func247.trans (congrArg some (by kernel_rfl))
 t0:=Tryz.underlying0
 a0:=Tryz.isAgg0
 z0:=Tryz.sizeOf0
 v0:=Tryz.zeroValue0
 t2:=Tryz.underlying2
 a2:=Tryz.isAgg2
 z2:=Tryz.sizeOf2
 v2:=Tryz.zeroValue2
 t3:=Tryz.underlying3
 a3:=Tryz.isAgg3
 z3:=Tryz.sizeOf3
 v3:=Tryz.zeroValue3
 t4:=Tryz.underlying4
 a4:=Tryz.isAgg4
 z4:=Tryz.sizeOf4
 v4:=Tryz.zeroValue4
 t5:=Tryz.underlying5
 a5:=Tryz.isAgg5
 z5:=Tryz.sizeOf5
 v5:=Tryz.zeroValue5
 t9:=Tryz.underlying9
 a9:=Tryz.isAgg9
 z9:=Tryz.sizeOf9
 v9:=Tryz.zeroValue9
 t20:=Tryz.underlying20
 a20:=Tryz.isAgg20
 z20:=Tryz.sizeOf20
 v20:=Tryz.zeroValue20
 t37:=Tryz.underlying44
 a37:=Tryz.isAgg44
 z37:=Tryz.sizeOf44
 v37:=Tryz.zeroValue44
 t46:=Tryz.underlying203
 a46:=Tryz.isAgg203
 z46:=Tryz.sizeOf203
 v46:=Tryz.zeroValue203
 t51:=Tryz.underlying264
 a51:=Tryz.isAgg264
 z51:=Tryz.sizeOf264
 v51:=Tryz.zeroValue264
 t53:=Tryz.underlying231
 a53:=Tryz.isAgg231
 z53:=Tryz.sizeOf231
 v53:=Tryz.zeroValue231
 t171:=Tryz.underlying230
 a171:=Tryz.isAgg230
 z171:=Tryz.sizeOf230
 v171:=Tryz.zeroValue230
 t173:=Tryz.underlying234
 a173:=Tryz.isAgg234
 z173:=Tryz.sizeOf234
 v173:=Tryz.zeroValue234
 t212:=Tryz.underlying263
 a212:=Tryz.isAgg263
 z212:=Tryz.sizeOf263
 v212:=Tryz.zeroValue263
 t213:=Tryz.underlying265
 a213:=Tryz.isAgg265
 z213:=Tryz.sizeOf265
 t232:=Tryz.underlying293
 a232:=Tryz.isAgg293
 z232:=Tryz.sizeOf293
 v232:=Tryz.zeroValue293
 t233:=Tryz.underlying294
 a233:=Tryz.isAgg294
 z233:=Tryz.sizeOf294
 v233:=Tryz.zeroValue294
 g17:=by kernel_rfl
 g18:=by kernel_rfl
 g19:=by kernel_rfl
 i0:=by kernel_rfl
 i2:=by kernel_rfl
 i3:=by kernel_rfl
 i4:=by kernel_rfl
 i5:=by kernel_rfl
 i9:=by kernel_rfl
 i20:=by kernel_rfl
 i37:=by kernel_rfl
 i46:=by kernel_rfl
 i51:=by kernel_rfl
 i53:=by kernel_rfl
 i171:=by kernel_rfl
 i173:=by kernel_rfl
 i212:=by kernel_rfl
 i232:=by kernel_rfl
 i233:=by kernel_rfl
 m17:=by kernel_rfl
 m18:=by kernel_rfl
 m19:=by kernel_rfl }
def Tryz.laysC172_ren:Go.Shelf.Ren:=⟨λ| 172=>125|244=>169|245=>170|247=>209|279=>210|280=>211|281=>212|282=>213|287=>238|316=>239|171=>90|205=>240|321=>250|322=>251|243=>120|246=>162|283=>200|284=>201|285=>202|286=>203|129=>230|317=>229|318=>231|319=>232|320=>233|337=>246|338=>247|n=>n,λ| 9=>9|3=>3|75=>138|76=>139|4=>4|5=>5|167=>238|37=>44|0=>0|85=>239|2=>2|168=>241|53=>231|175=>271|46=>203|210=>275|127=>229|145=>290|143=>288|21=>21|171=>230|173=>234|212=>263|51=>264|20=>20|213=>265|232=>293|233=>294|80=>187|n=>n,λ| 15=>4|16=>5|17=>0|18=>6|19=>7|n=>n⟩
theorem jY:Go.Proofs.LaysC.n172 Tryz.prog Tryz.laysC172_ren:={
 mixed:=by kernel_rfl
 f129:=Tryz.func230.trans (congrArg some (by kernel_rfl))
 f171:=Tryz.func90.trans (congrArg some (by kernel_rfl))
 f172:=Tryz.func125.trans (congrArg some (by kernel_rfl))
 f205:=Tryz.func240.trans (congrArg some (by kernel_rfl))
 f243:=Tryz.func120.trans (congrArg some (by kernel_rfl))
 f244:=Tryz.func169.trans (congrArg some (by kernel_rfl))
 f245:=Tryz.func170.trans (congrArg some (by kernel_rfl))
 f246:=Tryz.func162.trans (congrArg some (by kernel_rfl))
 f247:=Tryz.func209.trans (congrArg some (by kernel_rfl))
 f279:=Tryz.func210.trans (congrArg some (by kernel_rfl))
 f280:=Tryz.func211.trans (congrArg some (by kernel_rfl))
 f281:=Tryz.func212.trans (congrArg some (by kernel_rfl))
 f282:=Tryz.func213.trans (congrArg some (by kernel_rfl))
 f283:=Tryz.func200.trans (congrArg some (by kernel_rfl))
 f284:=Tryz.func201.trans (congrArg some (by kernel_rfl))
 f285:=Tryz.func202.trans (congrArg some (by kernel_rfl))
 f286:=Tryz.func203.trans (congrArg some (by kernel_rfl))
 f287:=Tryz.func238.trans (congrArg some (by kernel_rfl))
 f316:=Tryz.func239.trans (congrArg some (by kernel_rfl))
 f317:=Tryz.func229.trans (congrArg some (by kernel_rfl))
 f318:=Tryz.func231.trans (congrArg some (by kernel_rfl))
 f319:=Tryz.func232.trans (congrArg some (by kernel_rfl))
 f320:=Tryz.func233.trans (congrArg some (by kernel_rfl))
 f321:=Tryz.func250.trans (congrArg some (by kernel_rfl))
 f322:=Tryz.func251.trans (congrArg some (by kernel_rfl))
 f337:=Tryz.func246.trans (congrArg some (by kernel_rfl))
 f338:=Tryz.func247.trans (congrArg some (by kernel_rfl))
 t0:=Tryz.underlying0
 a0:=Tryz.isAgg0
 z0:=Tryz.sizeOf0
 v0:=Tryz.zeroValue0
 t2:=Tryz.underlying2
 a2:=Tryz.isAgg2
 z2:=Tryz.sizeOf2
 v2:=Tryz.zeroValue2
 t3:=Tryz.underlying3
 a3:=Tryz.isAgg3
 z3:=Tryz.sizeOf3
 v3:=Tryz.zeroValue3
 t4:=Tryz.underlying4
 a4:=Tryz.isAgg4
 z4:=Tryz.sizeOf4
 v4:=Tryz.zeroValue4
 t5:=Tryz.underlying5
 a5:=Tryz.isAgg5
 z5:=Tryz.sizeOf5
 v5:=Tryz.zeroValue5
 t9:=Tryz.underlying9
 a9:=Tryz.isAgg9
 z9:=Tryz.sizeOf9
 v9:=Tryz.zeroValue9
 t20:=Tryz.underlying20
 a20:=Tryz.isAgg20
 z20:=Tryz.sizeOf20
 v20:=Tryz.zeroValue20
 t21:=Tryz.underlying21
 a21:=Tryz.isAgg21
 z21:=Tryz.sizeOf21
 v21:=Tryz.zeroValue21
 t37:=Tryz.underlying44
 a37:=Tryz.isAgg44
 z37:=Tryz.sizeOf44
 v37:=Tryz.zeroValue44
 t46:=Tryz.underlying203
 a46:=Tryz.isAgg203
 z46:=Tryz.sizeOf203
 v46:=Tryz.zeroValue203
 t51:=Tryz.underlying264
 a51:=Tryz.isAgg264
 z51:=Tryz.sizeOf264
 v51:=Tryz.zeroValue264
 t53:=Tryz.underlying231
 a53:=Tryz.isAgg231
 z53:=Tryz.sizeOf231
 v53:=Tryz.zeroValue231
 t75:=Tryz.underlying138
 a75:=Tryz.isAgg138
 z75:=Tryz.sizeOf138
 v75:=Tryz.zeroValue138
 t76:=Tryz.underlying139
 a76:=Tryz.isAgg139
 z76:=Tryz.sizeOf139
 v76:=Tryz.zeroValue139
 t85:=Tryz.underlying239
 a85:=Tryz.isAgg239
 z85:=Tryz.sizeOf239
 v85:=Tryz.zeroValue239
 t127:=Tryz.underlying229
 a127:=Tryz.isAgg229
 z127:=Tryz.sizeOf229
 v127:=Tryz.zeroValue229
 t143:=Tryz.underlying288
 a143:=Tryz.isAgg288
 z143:=Tryz.sizeOf288
 v143:=Tryz.zeroValue288
 t145:=Tryz.underlying290
 a145:=Tryz.isAgg290
 z145:=Tryz.sizeOf290
 v145:=Tryz.zeroValue290
 t167:=Tryz.underlying238
 a167:=Tryz.isAgg238
 z167:=Tryz.sizeOf238
 v167:=Tryz.zeroValue238
 t168:=Tryz.underlying241
 a168:=Tryz.isAgg241
 z168:=Tryz.sizeOf241
 v168:=Tryz.zeroValue241
 t171:=Tryz.underlying230
 a171:=Tryz.isAgg230
 z171:=Tryz.sizeOf230
 v171:=Tryz.zeroValue230
 t173:=Tryz.underlying234
 a173:=Tryz.isAgg234
 z173:=Tryz.sizeOf234
 v173:=Tryz.zeroValue234
 t175:=Tryz.underlying271
 a175:=Tryz.isAgg271
 z175:=Tryz.sizeOf271
 v175:=Tryz.zeroValue271
 t210:=Tryz.underlying275
 a210:=Tryz.isAgg275
 z210:=Tryz.sizeOf275
 v210:=Tryz.zeroValue275
 t212:=Tryz.underlying263
 a212:=Tryz.isAgg263
 z212:=Tryz.sizeOf263
 v212:=Tryz.zeroValue263
 t213:=Tryz.underlying265
 a213:=Tryz.isAgg265
 z213:=Tryz.sizeOf265
 t232:=Tryz.underlying293
 a232:=Tryz.isAgg293
 z232:=Tryz.sizeOf293
 v232:=Tryz.zeroValue293
 t233:=Tryz.underlying294
 a233:=Tryz.isAgg294
 z233:=Tryz.sizeOf294
 v233:=Tryz.zeroValue294
 g15:=by kernel_rfl
 g16:=by kernel_rfl
 g17:=by kernel_rfl
 g18:=by kernel_rfl
 g19:=by kernel_rfl
 t80:=Tryz.underlying187
 a80:=Tryz.isAgg187
 z80:=Tryz.sizeOf187
 v80:=Tryz.zeroValue187
 i0:=by kernel_rfl
 i2:=by kernel_rfl
 i3:=by kernel_rfl
 i4:=by kernel_rfl
 i5:=by kernel_rfl
 i9:=by kernel_rfl
 i20:=by kernel_rfl
 i21:=by kernel_rfl
 i37:=by kernel_rfl
 i46:=by kernel_rfl
 i51:=by kernel_rfl
 i53:=by kernel_rfl
 i75:=by kernel_rfl
 i76:=by kernel_rfl
 i80:=by kernel_rfl
 i85:=by kernel_rfl
 i127:=by kernel_rfl
 i143:=by kernel_rfl
 i145:=by kernel_rfl
 i167:=by kernel_rfl
 i168:=by kernel_rfl
 i171:=by kernel_rfl
 i173:=by kernel_rfl
 i175:=by kernel_rfl
 i210:=by kernel_rfl
 i212:=by kernel_rfl
 i232:=by kernel_rfl
 i233:=by kernel_rfl
 m15:=by kernel_rfl
 m16:=by kernel_rfl
 m17:=by kernel_rfl
 m18:=by kernel_rfl
 m19:=by kernel_rfl
 c0:=by kernel_rfl
 c2:=by kernel_rfl
 c3:=by kernel_rfl
 c4:=by kernel_rfl
 c5:=by kernel_rfl
 c9:=by kernel_rfl
 c20:=by kernel_rfl
 c21:=by kernel_rfl
 c37:=by kernel_rfl
 c46:=by kernel_rfl
 c51:=by kernel_rfl
 c53:=by kernel_rfl
 c75:=by kernel_rfl
 c76:=by kernel_rfl
 c80:=by kernel_rfl
 c85:=by kernel_rfl
 c127:=by kernel_rfl
 c143:=by kernel_rfl
 c145:=by kernel_rfl
 c167:=by kernel_rfl
 c168:=by kernel_rfl
 c171:=by kernel_rfl
 c173:=by kernel_rfl
 c175:=by kernel_rfl
 c210:=by kernel_rfl
 c212:=by kernel_rfl
 c213:=by kernel_rfl
 c232:=by kernel_rfl
 c233:=by kernel_rfl }
def Tryz.lays146_ren:Go.Shelf.Ren:=⟨λ| 146=>96|221=>124|268=>168|138=>163|143=>164|195=>204|197=>165|218=>205|219=>206|260=>207|217=>234|225=>235|224=>236|267=>237|266=>248|314=>249|n=>n,λ| 9=>9|31=>72|3=>3|4=>4|0=>0|105=>190|21=>21|5=>5|46=>203|119=>267|139=>270|138=>269|146=>285|51=>264|n=>n,λ| 1=>1|3=>2|4=>3|n=>n⟩
theorem xA:Go.Proofs.Lays.n146 Tryz.prog Tryz.lays146_ren:={
 mixed:=by kernel_rfl
 f138:=Tryz.func163.trans (congrArg some (by kernel_rfl))
 f143:=Tryz.func164.trans (congrArg some (by kernel_rfl))
 f146:=Tryz.func96.trans (congrArg some (by kernel_rfl))
 f195:=Tryz.func204.trans (congrArg some (by kernel_rfl))
 f197:=Tryz.func165.trans (congrArg some (by kernel_rfl))
 f217:=Tryz.func234.trans (congrArg some (by kernel_rfl))
 f218:=Tryz.func205.trans (congrArg some (by kernel_rfl))
 f219:=Tryz.func206.trans (congrArg some (by kernel_rfl))
 f221:=Tryz.func124.trans (congrArg some (by kernel_rfl))
 f224:=Tryz.func236.trans (congrArg some (by kernel_rfl))
 f225:=Tryz.func235.trans (congrArg some (by kernel_rfl))
 f260:=Tryz.func207.trans (congrArg some (by kernel_rfl))
 f266:=Tryz.func248.trans (congrArg some (by kernel_rfl))
 f267:=Tryz.func237.trans (congrArg some (by kernel_rfl))
 f268:=Tryz.func168.trans (congrArg some (by kernel_rfl))
 f314:=Tryz.func249.trans (congrArg some (by kernel_rfl))
 t0:=Tryz.underlying0
 a0:=Tryz.isAgg0
 z0:=Tryz.sizeOf0
 v0:=Tryz.zeroValue0
 t3:=Tryz.underlying3
 a3:=Tryz.isAgg3
 z3:=Tryz.sizeOf3
 v3:=Tryz.zeroValue3
 t4:=Tryz.underlying4
 a4:=Tryz.isAgg4
 z4:=Tryz.sizeOf4
 v4:=Tryz.zeroValue4
 t5:=Tryz.underlying5
 a5:=Tryz.isAgg5
 z5:=Tryz.sizeOf5
 v5:=Tryz.zeroValue5
 t9:=Tryz.underlying9
 a9:=Tryz.isAgg9
 z9:=Tryz.sizeOf9
 v9:=Tryz.zeroValue9
 t21:=Tryz.underlying21
 a21:=Tryz.isAgg21
 z21:=Tryz.sizeOf21
 v21:=Tryz.zeroValue21
 t31:=Tryz.underlying72
 a31:=Tryz.isAgg72
 z31:=Tryz.sizeOf72
 v31:=Tryz.zeroValue72
 t46:=Tryz.underlying203
 a46:=Tryz.isAgg203
 z46:=Tryz.sizeOf203
 v46:=Tryz.zeroValue203
 t51:=Tryz.underlying264
 a51:=Tryz.isAgg264
 z51:=Tryz.sizeOf264
 v51:=Tryz.zeroValue264
 t105:=Tryz.underlying190
 a105:=Tryz.isAgg190
 z105:=Tryz.sizeOf190
 v105:=Tryz.zeroValue190
 t119:=Tryz.underlying267
 a119:=Tryz.isAgg267
 z119:=Tryz.sizeOf267
 t138:=Tryz.underlying269
 a138:=Tryz.isAgg269
 z138:=Tryz.sizeOf269
 v138:=Tryz.zeroValue269
 t139:=Tryz.underlying270
 a139:=Tryz.isAgg270
 z139:=Tryz.sizeOf270
 v139:=Tryz.zeroValue270
 t146:=Tryz.underlying285
 a146:=Tryz.isAgg285
 z146:=Tryz.sizeOf285
 v146:=Tryz.zeroValue285
 g1:=by kernel_rfl
 g3:=by kernel_rfl
 g4:=by kernel_rfl }
def Tryz.lays155_ren:Go.Shelf.Ren:=⟨λ| 155=>91|154=>121|138=>163|165=>159|143=>164|166=>160|197=>165|169=>161|195=>204|218=>205|240=>198|241=>199|219=>206|260=>207|276=>227|277=>228|217=>234|225=>235|224=>236|267=>237|266=>248|314=>249|n=>n,λ| 9=>9|3=>3|4=>4|72=>185|0=>0|76=>139|105=>190|21=>21|5=>5|70=>183|20=>20|37=>44|75=>138|127=>229|164=>258|46=>203|119=>267|139=>270|138=>269|146=>285|51=>264|80=>187|n=>n,λ| 1=>1|3=>2|4=>3|n=>n⟩
theorem xz:Go.Proofs.Lays.n155 Tryz.prog Tryz.lays155_ren:={
 mixed:=by kernel_rfl
 f138:=Tryz.func163.trans (congrArg some (by kernel_rfl))
 f143:=Tryz.func164.trans (congrArg some (by kernel_rfl))
 f154:=Tryz.func121.trans (congrArg some (by kernel_rfl))
 f155:=Tryz.func91.trans (congrArg some (by kernel_rfl))
 f165:=Tryz.func159.trans (congrArg some (by kernel_rfl))
 f166:=Tryz.func160.trans (congrArg some (by kernel_rfl))
 f169:=Tryz.func161.trans (congrArg some (by kernel_rfl))
 f195:=Tryz.func204.trans (congrArg some (by kernel_rfl))
 f197:=Tryz.func165.trans (congrArg some (by kernel_rfl))
 f217:=Tryz.func234.trans (congrArg some (by kernel_rfl))
 f218:=Tryz.func205.trans (congrArg some (by kernel_rfl))
 f219:=Tryz.func206.trans (congrArg some (by kernel_rfl))
 f224:=Tryz.func236.trans (congrArg some (by kernel_rfl))
 f225:=Tryz.func235.trans (congrArg some (by kernel_rfl))
 f240:=Tryz.func198.trans (congrArg some (by kernel_rfl))
 f241:=Tryz.func199.trans (congrArg some (by kernel_rfl))
 f260:=Tryz.func207.trans (congrArg some (by kernel_rfl))
 f266:=Tryz.func248.trans (congrArg some (by kernel_rfl))
 f267:=Tryz.func237.trans (congrArg some (by kernel_rfl))
 f276:=Tryz.func227.trans (congrArg some (by kernel_rfl))
 f277:=Tryz.func228.trans (congrArg some (by kernel_rfl))
 f314:=Tryz.func249.trans (congrArg some (by kernel_rfl))
 t0:=Tryz.underlying0
 a0:=Tryz.isAgg0
 z0:=Tryz.sizeOf0
 v0:=Tryz.zeroValue0
 t3:=Tryz.underlying3
 a3:=Tryz.isAgg3
 z3:=Tryz.sizeOf3
 v3:=Tryz.zeroValue3
 t4:=Tryz.underlying4
 a4:=Tryz.isAgg4
 z4:=Tryz.sizeOf4
 v4:=Tryz.zeroValue4
 t5:=Tryz.underlying5
 a5:=Tryz.isAgg5
 z5:=Tryz.sizeOf5
 v5:=Tryz.zeroValue5
 t9:=Tryz.underlying9
 a9:=Tryz.isAgg9
 z9:=Tryz.sizeOf9
 v9:=Tryz.zeroValue9
 t20:=Tryz.underlying20
 a20:=Tryz.isAgg20
 z20:=Tryz.sizeOf20
 v20:=Tryz.zeroValue20
 t21:=Tryz.underlying21
 a21:=Tryz.isAgg21
 z21:=Tryz.sizeOf21
 v21:=Tryz.zeroValue21
 t37:=Tryz.underlying44
 a37:=Tryz.isAgg44
 z37:=Tryz.sizeOf44
 v37:=Tryz.zeroValue44
 t46:=Tryz.underlying203
 a46:=Tryz.isAgg203
 z46:=Tryz.sizeOf203
 v46:=Tryz.zeroValue203
 t51:=Tryz.underlying264
 a51:=Tryz.isAgg264
 z51:=Tryz.sizeOf264
 v51:=Tryz.zeroValue264
 t70:=Tryz.underlying183
 a70:=Tryz.isAgg183
 z70:=Tryz.sizeOf183
 v70:=Tryz.zeroValue183
 t72:=Tryz.underlying185
 a72:=Tryz.isAgg185
 z72:=Tryz.sizeOf185
 v72:=Tryz.zeroValue185
 t75:=Tryz.underlying138
 a75:=Tryz.isAgg138
 z75:=Tryz.sizeOf138
 v75:=Tryz.zeroValue138
 t76:=Tryz.underlying139
 a76:=Tryz.isAgg139
 z76:=Tryz.sizeOf139
 v76:=Tryz.zeroValue139
 t105:=Tryz.underlying190
 a105:=Tryz.isAgg190
 z105:=Tryz.sizeOf190
 v105:=Tryz.zeroValue190
 t119:=Tryz.underlying267
 a119:=Tryz.isAgg267
 z119:=Tryz.sizeOf267
 t127:=Tryz.underlying229
 a127:=Tryz.isAgg229
 z127:=Tryz.sizeOf229
 v127:=Tryz.zeroValue229
 t138:=Tryz.underlying269
 a138:=Tryz.isAgg269
 z138:=Tryz.sizeOf269
 v138:=Tryz.zeroValue269
 t139:=Tryz.underlying270
 a139:=Tryz.isAgg270
 z139:=Tryz.sizeOf270
 v139:=Tryz.zeroValue270
 t146:=Tryz.underlying285
 a146:=Tryz.isAgg285
 z146:=Tryz.sizeOf285
 v146:=Tryz.zeroValue285
 t164:=Tryz.underlying258
 a164:=Tryz.isAgg258
 z164:=Tryz.sizeOf258
 v164:=Tryz.zeroValue258
 g1:=by kernel_rfl
 g3:=by kernel_rfl
 g4:=by kernel_rfl }
theorem ld:Builder.Extra Tryz.prog Tryz.lays155_ren:={
 sizeBuilder:=by kernel_rfl
 liesBuilder:=by kernel_rfl
 t5:=Tryz.underlying5
 a5:=Tryz.isAgg5
 z5:=Tryz.sizeOf5
 v5:=Tryz.zeroValue5
 infoByte:=by kernel_rfl
 cellsByte:=by kernel_rfl
 sizeByte:=by kernel_rfl
 neB5:=by decide }
def Tryz.lays156_ren:Go.Shelf.Ren:=⟨λ| 156=>119|165=>159|166=>160|169=>161|240=>198|241=>199|276=>227|277=>228|n=>n,λ| 31=>72|9=>9|3=>3|4=>4|0=>0|20=>20|72=>185|76=>139|70=>183|37=>44|75=>138|127=>229|164=>258|5=>5|80=>187|n=>n,λ| n=>n⟩
theorem pk:Go.Proofs.Lays.n156 Tryz.prog Tryz.lays156_ren:={
 mixed:=by kernel_rfl
 f156:=Tryz.func119.trans (congrArg some (by kernel_rfl))
 f165:=Tryz.func159.trans (congrArg some (by kernel_rfl))
 f166:=Tryz.func160.trans (congrArg some (by kernel_rfl))
 f169:=Tryz.func161.trans (congrArg some (by kernel_rfl))
 f240:=Tryz.func198.trans (congrArg some (by kernel_rfl))
 f241:=Tryz.func199.trans (congrArg some (by kernel_rfl))
 f276:=Tryz.func227.trans (congrArg some (by kernel_rfl))
 f277:=Tryz.func228.trans (congrArg some (by kernel_rfl))
 t0:=Tryz.underlying0
 a0:=Tryz.isAgg0
 z0:=Tryz.sizeOf0
 v0:=Tryz.zeroValue0
 t3:=Tryz.underlying3
 a3:=Tryz.isAgg3
 z3:=Tryz.sizeOf3
 v3:=Tryz.zeroValue3
 t4:=Tryz.underlying4
 a4:=Tryz.isAgg4
 z4:=Tryz.sizeOf4
 v4:=Tryz.zeroValue4
 t9:=Tryz.underlying9
 a9:=Tryz.isAgg9
 z9:=Tryz.sizeOf9
 v9:=Tryz.zeroValue9
 t20:=Tryz.underlying20
 a20:=Tryz.isAgg20
 z20:=Tryz.sizeOf20
 v20:=Tryz.zeroValue20
 t31:=Tryz.underlying72
 a31:=Tryz.isAgg72
 z31:=Tryz.sizeOf72
 v31:=Tryz.zeroValue72
 t37:=Tryz.underlying44
 a37:=Tryz.isAgg44
 z37:=Tryz.sizeOf44
 v37:=Tryz.zeroValue44
 t70:=Tryz.underlying183
 a70:=Tryz.isAgg183
 z70:=Tryz.sizeOf183
 v70:=Tryz.zeroValue183
 t72:=Tryz.underlying185
 a72:=Tryz.isAgg185
 z72:=Tryz.sizeOf185
 v72:=Tryz.zeroValue185
 t75:=Tryz.underlying138
 a75:=Tryz.isAgg138
 z75:=Tryz.sizeOf138
 v75:=Tryz.zeroValue138
 t76:=Tryz.underlying139
 a76:=Tryz.isAgg139
 z76:=Tryz.sizeOf139
 v76:=Tryz.zeroValue139
 t127:=Tryz.underlying229
 a127:=Tryz.isAgg229
 z127:=Tryz.sizeOf229
 v127:=Tryz.zeroValue229
 t164:=Tryz.underlying258
 a164:=Tryz.isAgg258
 z164:=Tryz.sizeOf258
 v164:=Tryz.zeroValue258 }
theorem gN:Builder.Extra Tryz.prog Tryz.lays156_ren:={
 sizeBuilder:=by kernel_rfl
 liesBuilder:=by kernel_rfl
 t5:=Tryz.underlying5
 a5:=Tryz.isAgg5
 z5:=Tryz.sizeOf5
 v5:=Tryz.zeroValue5
 infoByte:=by kernel_rfl
 cellsByte:=by kernel_rfl
 sizeByte:=by kernel_rfl
 neB5:=by decide }
end Go.Proofs
namespace Go.Proofs.YthckkpphnmmfdaaGreatDoor
open Go.AM
set_option maxRecDepth 20000
def chn (L:List Part):Prop:=∀ i,∀ h:i+1<L.length,L[i].kind≠L[i+1].kind
theorem Cx:chn []:=λi h=>by simp at h
theorem G9 {p:Part} {L:List Part} (h:chn (p::L)):chn L/\∀ h0:0<L.length,p.kind≠L[0].kind:=by
 refine ⟨λi hi=>?_,λh0=>?_⟩
 ·have:=h (i+1) (by simp;omega)
  simpa using this
 ·have:=h 0 (by simp;omega)
  simpa using this
theorem mt {L:List Part} {p:Part} (h:chn L) (hp:∀ h:0<L.length,(L[L.length - 1]'(by omega)).kind≠p.kind):chn (L++[p]):=by
 intro i hi;simp at hi;by_cases c:i+1<L.length
 ·rw [List.getElem_append_left (by omega),List.getElem_append_left c];exact h i c
 ·have h0:0<L.length:=by omega
  have:=hp h0;rw [List.getElem_append_left (by omega),List.getElem_append_right (by omega)];have e:i=L.length - 1:=by omega
  subst e
  simpa using this
theorem Jt {L:List Part} {i:Nat} {p:Part} (h:chn L) (hi:i<L.length) (hk:p.kind=L[i].kind):chn (L.set i p):=by
 intro j hj;simp at hj;have h1:=h j hj;rw [List.getElem_set,List.getElem_set]
 split
 ·rename_i e;subst e
  rw [if_neg (by omega),hk];exact h1
 ·split
  ·rename_i e;subst e;rw [hk];exact h1
  ·exact h1
def Gh (L:List Part):Prop:=∀ h:0<L.length,(L[L.length - 1]'(by omega)).kind=1
theorem sy {L:List Part} {p:Part}:(((L++[p])[(L++[p]).length - 1]'(by simp))).kind=p.kind:=by simp
theorem vl {L:List Part} {P:List Int} {D:Int} (h:chn L) (hl:Gh L):chn (aA L P D):=by
 unfold aA
 split
 ·split
  ·rw [List.nil_append]
   exact mt h λh0=>by rw [hl h0];simp
  ·simpa using h
 ·have h1:chn (L++[⟨2,0,P⟩]):=mt h λh0=>by rw [hl h0];simp
  split
  ·rw [<- List.append_assoc]
   exact mt h1 λh0=>by rw [sy];simp
  ·simpa using h1
theorem Gm {L:List Part} {n:Int} (h:chn L):chn (bJ L n)/\Gh (bJ L n):=by
 unfold bJ
 split
 ·rename_i h0
  split
  ·rename_i hk
   refine ⟨Jt h (by omega) hk.symm,λh1=>?_⟩;simp
  ·rename_i hk
   refine ⟨mt h λ_=>hk,λh1=>?_⟩;rw [sy]
 ·exact ⟨mt (L:=[]) Cx (λh=>by simp at h),λ_=>rfl⟩
theorem u4 (o:List Part):∀ (i:Nat),i<=o.length->chn (aY (o.take i)).1/\Gh (aY (o.take i)).1
 | 0, _ => by
   simp only [aY,List.take_zero,List.foldl_nil];exact ⟨Cx,λh=>by simp at h⟩
 | i + 1, hi => by
   obtain ⟨h1,h2⟩:=u4 o i (by omega);rw [gp (show i<o.length by omega)];generalize aY (o.take i)=s at h1 h2;unfold cA
   split
   ·exact ⟨h1,h2⟩
   ·split
    ·exact ⟨h1,h2⟩
    ·split
     ·exact Gm (vl h1 h2)
     ·exact ⟨h1,h2⟩
theorem AA (o:List Part):chn (normal o):=by
 obtain ⟨h1,h2⟩:=u4 o o.length (Nat.le_refl _);rw [List.take_length] at h1 h2;exact vl h1 h2
def tV:At->List Part->List Part
 | .k,[]=>[⟨1,1,[]⟩]
 | .k,p::l=>if p.kind=1 then ⟨1,p.n+1,[]⟩::l else ⟨1,1,[]⟩::p::l
 | .d,[]=>[⟨3,1,[]⟩]
 | .d,p::l=>if p.kind=3 then ⟨3,p.n+1,[]⟩::l else ⟨3,1,[]⟩::p::l
 | .p c,[]=>[⟨2,0,[c]⟩]
 | .p c,p::l=>if p.kind=2 then ⟨2,0,c::p.signs⟩::l else ⟨2,0,[c]⟩::p::l
def grp (l:List At):List Part:=l.foldr tV []
theorem GC {L:List Part} (h:∀ h0:0<L.length,L[0].kind≠1):∀ n:Nat,(List.replicate (n+1) At.k).foldr tV L=⟨1,(n:Int)+1,[]⟩::L
 | 0 => by
   cases L with
   |nil=>rfl
   |cons p l=>have:=h (by simp);simp at this;simp [tV,this]
 | n + 1 => by
   rw [List.replicate_succ,List.foldr_cons,GC h n];simp [tV]
theorem GD {L:List Part} (h:∀ h0:0<L.length,L[0].kind≠3):∀ n:Nat,(List.replicate (n+1) At.d).foldr tV L=⟨3,(n:Int)+1,[]⟩::L
 | 0 => by
   cases L with
   |nil=>rfl
   |cons p l=>have:=h (by simp);simp at this;simp [tV,this]
 | n + 1 => by
   rw [List.replicate_succ,List.foldr_cons,GD h n];simp [tV]
theorem GB {L:List Part} (h:∀ h0:0<L.length,L[0].kind≠2):∀ (Q:List Int) (c:Int),((c::Q).map At.p).foldr tV L=⟨2,0,c::Q⟩::L
 | [], c => by
   cases L with
   |nil=>rfl
   |cons p l=>have:=h (by simp);simp at this;simp [tV,this]
 | d :: Q, c => by
   rw [List.map_cons,List.foldr_cons,GB h Q d];simp [tV]
theorem vk:∀ {L:List Part},(∀ q∈L,Shp q)->chn L->grp (aj L)=L
 | [],_,_=>rfl
 | p :: L, hs, hc => by
   obtain ⟨h1,h2⟩:=G9 hc;have ih:=vk (λq hq=>hs q (List.mem_cons_of_mem _ hq)) h1;have hp:=hs p (List.mem_cons_self ..);unfold grp at ih ⊢;rw [aj,List.foldr_append,ih];have hpos:=hp.pos;have hn:=hp.n;unfold ats;obtain ⟨kd,n,sg⟩:=p;by_cases k2:kd=2
   ·subst k2
    obtain ⟨e1,-⟩:=hp.put rfl;simp only at e1;subst e1;simp only [if_true]
    cases sg with
    |nil=>simp [psz] at hpos
    |cons c Q=>exact GB (λh0=>by have:=h2 h0;simpa using this.symm) Q c
   ·have e1:=hp.run k2
    simp only at e1 hn;subst e1;have hz:psz ⟨kd,n,[]⟩=n.toNat:=by simp [psz]
    rw [hz] at hpos;obtain ⟨m,hm⟩:∃ m,n.toNat=m+1:=⟨n.toNat - 1,by omega⟩;have hnm:n=(m:Int)+1:=by omega
    rw [hz,hm,if_neg k2];by_cases k3:kd=3
    ·subst k3
     simp only [if_true];rw [GD (λh0=>by have:=h2 h0;simpa using this.symm),hnm]
    ·have k1:kd=1:=by rcases hp.k with h|h|h<;>simp only at h<;>omega
     subst k1;rw [if_neg (by simp),GC (λh0=>by have:=h2 h0;simpa using this.symm),hnm]
theorem u5:∀ (l:List At) (P:List Int) (n:Nat),nA [] 0 (nA P n l)=nA P n l
 | [], P, n => by
   have h2:=Cc n P 0 [];rw [List.append_nil,Nat.zero_add] at h2;rw [nA,Ca,List.nil_append,h2,nA]
 | .k :: l, P, n => by
   rw [nA,Ca,Cc,List.nil_append,Nat.zero_add,nA,u5 l]
 | .p c::l,P,n=>by rw [nA,u5 l]
 | .d::l,P,n=>by rw [nA,u5 l]
theorem gX {o:List Part} (h:∀ p∈o,am p):normal o=grp (gG (aj o)):=by
 rw [<- dS h,vk (kL h) (AA o)]
theorem tP {o:List Part} (h:aX o):normal (normal o)=normal o:=by
 have h2:=(pC h).1;rw [gX h2.1.1,dS h.1.1,gX h.1.1];unfold gG;rw [u5]
theorem tT {o:List Part} (h:aX o):aZ (normal o):=by
 have h2:=(pC h).1;refine ⟨h2,?_⟩;unfold a8;rw [if_pos h2,tP h]
theorem dA {o:List Part} (h:aX o):aZ (a8 o):=by
 have e:a8 o=normal o:=by unfold a8;rw [if_pos h]
 rw [e];exact tT h
theorem r8:∀ (l:List (List Part)) (v v':List Part),aZ v->fd l v=some v'->aZ v'
 | [],v,v',h,e=>by simp only [fd,Option.some.injEq] at e;exact e ▸ h
 | a :: l, v, v', h, e => by
   rw [fd] at e
   split at e
   ·rename_i ht
    refine r8 l _ v' ?_ e;unfold ae at ht ⊢
    split at ht
    ·rename_i h1
     split at ht
     ·rename_i h2
      rw [if_pos h1,if_pos h2];have hi:=vS h1.1 h1.2.1 h1.2.2;have hk:=J0 hi;simp only;refine ⟨h2.2,?_⟩;unfold a8;rw [if_pos h2.2,gX h2.2.1.1,dS hk.2];unfold gG;rw [u5];exact (gX hk.2).symm
     ·simp at ht
    ·simp at ht
   ·cases e
theorem A6 {l:List (List Part)} {b:List Part} (h:(gP l b).2=true):aZ (gP l b).1:=by
 unfold gP at h ⊢
 split at h
 ·rename_i hb
  rw [if_pos hb]
  cases e:fd l (a8 b) with
  |none=>rw [e] at h;simp at h
  |some v=>exact r8 l _ v (dA hb) e
 ·simp at h
def jc (x:UInt8):Prop:=48<=x.toNat/\x.toNat<=57
def ms (a:Nat) (l:List UInt8):Nat:=l.foldl (λa x=>a*10+(x.toNat - 48)) a
def DS (l:List UInt8):Nat:=ms 0 l
theorem DR (l:List UInt8) (x:UInt8):DS (l++[x])=DS l*10+(x.toNat - 48):=by simp [DS,ms]
theorem ru {m:Nat} (h:m<10):(UInt8.ofNat (48+m)).toNat=48+m:=by simp;omega
theorem Ct:∀ m:Nat,∀ x∈Lib.decDigits m,jc x:=by
 intro m
 induction m using Nat.strongRecOn with
 | ind m ih =>
   intro x hx;by_cases h:m<10
   ·rw [ik h] at hx
    rw [List.mem_singleton.1 hx];unfold jc;rw [ru h];omega
   ·rw [kf h] at hx
    rcases List.mem_append.1 hx with hx|hx
    ·exact ih (m / 10) (by omega) x hx
    ·rw [List.mem_singleton.1 hx]
     have h2:m % 10<10:=Nat.mod_lt _ (by omega);unfold jc;rw [ru h2];omega
theorem zt:∀ m:Nat,DS (Lib.decDigits m)=m:=by
 intro m
 induction m using Nat.strongRecOn with
 | ind m ih =>
   by_cases h:m<10
   ·rw [ik h]
    show 0*10+((UInt8.ofNat (48+m)).toNat - 48)=m
    rw [ru h];omega
   ·rw [kf h,DR,ih (m / 10) (by omega),ru (Nat.mod_lt _ (by omega))]
    omega
theorem Bk:∀ (k m:Nat),m<10 ^ (k+1)->(Lib.decDigits m).length<=k+1:=by
 intro k
 induction k with
 |zero=>intro m h;rw [ik (by omega)];simp
 | succ k ih =>
   intro m h;by_cases h9:m<10
   ·rw [ik h9];simp
   ·rw [kf h9]
    have:=ih (m / 10) (by rw [Nat.pow_succ] at h;omega);simp;omega
theorem Bj (m:Nat):Lib.decDigits m≠[]:=by
 by_cases h:m<10
 ·rw [ik h];simp
 ·rw [kf h];simp
theorem l0 {n:Int} (h:0<=n/\n<=1000000000):aJ n=Lib.decDigits n.toNat:=by unfold aJ;rw [if_pos h]
theorem qf (n:Int):∀ x∈aJ n,jc x:=by
 unfold aJ
 split
 ·exact Ct _
 ·simp
theorem iZ (n:Int) {c:UInt8} (hc:¬ jc c):c ∉ aJ n:=λh=>hc (qf n c h)
open Classical in
noncomputable def bv (l:List UInt8):Int×Bool:=if ∃ m:Nat,m<=1000000000/\Lib.decDigits m=l then ((DS l:Int),true) else (0,false)
theorem bK {n:Int} (h:0<=n/\n<=1000000000):bv (aJ n)=(n,true):=by
 rw [l0 h];unfold bv;rw [if_pos ⟨n.toNat,by omega,rfl⟩,zt]
 congr 1
 omega
theorem rN {l:List UInt8} (h:∀ m:Nat,m<=1000000000->Lib.decDigits m≠l):bv l=(0,false):=by
 unfold bv;rw [if_neg]
 rintro ⟨m,h1,h2⟩
 exact h m h1 h2
theorem zZ {l:List UInt8} {v:Int} (h:aJ v=l) (hl:l≠[]):bv l=(v,true):=by
 by_cases hv:0<=v/\v<=1000000000
 ·rw [<- h,bK hv]
 ·unfold aJ at h;rw [if_neg hv] at h;exact absurd h.symm hl
theorem uU:∀ (l:List UInt8) (a:Nat),(∀ x∈l,jc x)->ms a l<=100000000000->Lib.parseUint10 a l=.ok (ms a l)
 | [],a,_,_=>by simp [Lib.parseUint10,ms]
 | x :: l, a, h, hb => by
   have hx:48<=x.toNat/\x.toNat<=57:=h x (by simp);have e:ms a (x::l)=ms (a*10+(x.toNat - 48)) l:=by simp [ms]
   rw [e] at hb ⊢
   have hge:∀ (l:List UInt8) (a:Nat),a<=ms a l:=by
    intro l
    induction l with
    |nil=>intro a;simp [ms]
    |cons y l ih=>intro a;have:=ih (a*10+(y.toNat - 48));simp only [ms,List.foldl_cons] at this ⊢;omega
   have:=hge l (a*10+(x.toNat - 48));unfold Lib.parseUint10;rw [if_pos hx,if_neg (by omega),if_neg (by omega)];exact uU l _ (λy hy=>h y (by simp [hy])) hb
theorem zB {m:Nat} (h:m<=1000000000):Lib.atoiAll (Lib.decDigits m)=.ok (m:Int):=by
 have hd:=Ct m
 have hp:Lib.parseMag (Lib.decDigits m)=.ok m:=by
  unfold Lib.parseMag;rw [if_neg (Bj m)];have e:=zt m;unfold DS at e;rw [uU _ 0 hd (by rw [e];omega),e]
 cases hl:Lib.decDigits m with
 |nil=>exact absurd hl (Bj m)
 | cons c r =>
   rw [hl] at hp hd;have hc:=hd c (by simp);unfold jc at hc;rw [Lib.atoiAll_plain c r (by omega) (by omega),hp];unfold Lib.signless;simp;omega
theorem vU {l:List UInt8} {v:Int} (h:Lib.atoiAll l=.ok v):(aJ v=l->bv l=(v,true))/\(¬ aJ v=l->bv l=(0,false)):=by
 refine ⟨λe=>zZ e (λe=>by subst e;cases h),λe=>rN λm hm h2=>?_⟩;subst h2;rw [zB hm] at h
 cases h
 exact e (by rw [l0 (by omega),Int.toNat_natCast])
theorem oc {l:List UInt8} (h:∀ v,Lib.atoiAll l≠.ok v):bv l=(0,false):=rN λm hm e=>h m (by rw [<- e,zB hm])
def dr {α β:Type} (f:α->Option β):List α->Option (List β)
 | []=>some []
 | x :: l => match f x with
   |none=>none
   |some y=>(dr f l).map (y :: ·)
theorem u7 {α β:Type} {f:α->Option β} {W:List α} {i:Nat} (h:i<W.length):dr f (W.drop i)=(f W[i]).bind λy=>(dr f (W.drop (i+1))).map (y :: ·):=by
 rw [List.drop_eq_getElem_cons h,dr]
 cases f W[i]<;>rfl
theorem pE {α β:Type} {f:α->Option β}:∀ {W:List α} {l:List β},dr f W=some l->W.length=l.length/\∀ i,∀ h:i<W.length,∀ h':i<l.length,f W[i]=some l[i]
 | [],l,h=>by simp [dr] at h;subst h;simp
 | x :: W, l, h => by
   unfold dr at h
   cases hx:f x with
   |none=>rw [hx] at h;cases h
   | some y =>
     rw [hx] at h
     cases hW:dr f W with
     |none=>rw [hW] at h;cases h
     | some r =>
       rw [hW] at h
       cases h
       obtain ⟨h1,h2⟩:=pE hW;refine ⟨by simp [h1],λi hi hi'=>?_⟩
       cases i with
       |zero=>simpa using hx
       |succ i=>simpa using h2 i (by simpa using hi) (by simpa using hi')
theorem l7 {α β:Type} {f:α->Option β} {g:β->α}:∀ {l:List β},(∀ y∈l,f (g y)=some y)->dr f (l.map g)=some l
 | [],_=>rfl
 | y :: l, h => by
   rw [List.map_cons,dr,h y (by simp),l7 (λz hz=>h z (by simp [hz]))];rfl
def gD (l:List Int):List UInt8:=Lib.join (l.map aJ) [46]
open Classical in
noncomputable def dE (l:List Int):List UInt8:=if cr l then (if l=[] then [45] else gD l) else []
open Classical in
noncomputable def fT (x:List UInt8):Option Int:=if (bv x).2=true then some (bv x).1 else none
open Classical in
noncomputable def kE (x:List UInt8):Option Int:=if (bv x).2=true/\dN (bv x).1 then some (bv x).1 else none
noncomputable def dg (s:List UInt8):Option (List Int):=dr fT (aK 46 s)
noncomputable def fE (s:List UInt8):Option (List Int):=if s=[45] then some [] else dr kE (aK 46 s)
def qU {α:Type}:Option (List α)->List α×Bool
 |some l=>(l,true)
 |none=>([],false)
noncomputable def cu (s:List UInt8):List Int×Bool:=qU (fE s)
theorem RK (n:Int):(46:UInt8) ∉ aJ n:=iZ n (by unfold jc;decide)
theorem L1 (n:Int):(32:UInt8) ∉ aJ n:=iZ n (by unfold jc;decide)
theorem ip {l:List Int} (h:l≠[]):aK 46 (gD l)=l.map aJ:=iq 46 _ (by simpa using h) (λw hw=>by
 obtain ⟨n,-,rfl⟩:=List.mem_map.1 hw;exact RK n)
theorem kD {n:Int} (h:dN n):0<=n/\n<=1000000000:=by unfold dN at h;omega
theorem oA {l:List Int} (h:∀ n∈l,0<=n/\n<=1000000000) (hl:l≠[]):dg (gD l)=some l:=by
 unfold dg;rw [ip hl,l7 λn hn=>by unfold fT;rw [bK (h n hn)];simp]
theorem xZ {l:List Int} (hl:l≠[]):gD l≠[45]:=λe=>by
 have h:=ip hl;rw [e] at h
 cases l with
 |nil=>exact hl rfl
 | cons n l =>
   have h1:aK 46 [45]=[[45]]:=by decide
   rw [h1] at h;simp at h;have:=qf n 45 (by rw [<- h.1];simp);unfold jc at this;exact absurd this (by decide)
theorem m9 {l:List Int} (h:cr l):cu (dE l)=(l,true):=by
 unfold cu dE fE;rw [if_pos h];by_cases hl:l=[]
 ·rw [if_pos hl,if_pos rfl,hl]
  rfl
 ·rw [if_neg hl,if_neg (xZ hl),ip hl,l7 λn hn=>by
   unfold kE;rw [bK (kD (h n hn)),if_pos ⟨rfl,h n hn⟩]]
  rfl
def aW (p:Part):List UInt8:=if p.kind=1 then 107::aJ p.n else if p.kind=2 then 112::gD p.signs else 100::aJ p.n
open Classical in
noncomputable def bo (o:List Part):List UInt8:=if aX o then (if a8 o=[] then [45] else Lib.join ((a8 o).map aW) [32]) else []
noncomputable def uv (x:List UInt8):Option Part:=match x with
 | []=>none
 |c::y=>if y=[] then none else if c=112 then (fE y).map (λl=>⟨2,0,l⟩) else (fT y).map λn=>⟨if c=107 then 1 else if c=100 then 3 else 0,n,[]⟩
noncomputable def fM (x:List UInt8):Option Part:=match x with
 | []=>none
 |c::y=>(dg y).map λl=>if c=107 then ⟨1,l.getD 0 0,[]⟩ else if c=100 then ⟨3,l.getD 0 0,[]⟩ else ⟨2,0,l⟩
theorem yJ {α β:Type} {f:α->Option β} {W:List α} {l:List β} (h:dr f W=some l):l.length=W.length:=(pE h).1.symm
theorem yl {y:List UInt8} {l:List Int} (h:dg y=some l):0<l.length:=by
 have:=yJ h;have:=mI 46 y;have:0<(aK 46 y).length:=List.length_pos_iff.2 this;omega
theorem yK {α β:Type} {f g:α->Option β} {P:β->Prop} (p1:∀ x y,f x=some y->P y->g x=some y) (p2:∀ x y,f x=some y->¬ P y->g x=none) (p3:∀ x,f x=none->g x=none) :
 ∀ W:List α,(∀ l,dr f W=some l->(∀ y∈l,P y)->dr g W=some l)/\(∀ l,dr f W=some l->¬ (∀ y∈l,P y)->dr g W=none)/\(dr f W=none->dr g W=none)
 | [] => by
   refine ⟨λl h _=>by simpa only [dr] using h,λl h hn=>?_,λh=>by simp [dr] at h⟩;simp only [dr,Option.some.injEq] at h;subst h;exact absurd (λy hy=>absurd hy List.not_mem_nil) hn
 | x :: W => by
   obtain ⟨h1,h2,h3⟩:=yK p1 p2 p3 W
   cases e:f x with
   |none=>simp [dr,e,p3 x e]
   | some y =>
     by_cases hs:P y
     ·simp only [dr,e,p1 x y e hs]
      cases hW:dr f W with
      | none =>
        rw [h3 hW];refine ⟨λl h=>by simp at h,λl h=>by simp at h,λ_=>rfl⟩
      | some r =>
        refine ⟨λl h ho=>?_,λl h hn=>?_,λh=>by simp at h⟩
        ·simp only [Option.map_some,Option.some.injEq] at h
         subst h;rw [h1 r hW (λn hn=>ho n (by simp [hn]))];rfl
        ·simp only [Option.map_some,Option.some.injEq] at h
         subst h;rw [h2 r hW (λhr=>hn λn hm=>(List.mem_cons.1 hm).elim (λe=>e ▸ hs) (λhm=>hr n hm))];rfl
     ·simp only [dr,e,p2 x y e hs]
      refine ⟨λl h ho=>?_,λl h hn=>True.intro,λh=>True.intro⟩
      cases hW:dr f W with
      |none=>rw [hW] at h;simp at h
      | some r =>
        rw [hW] at h;simp only [Option.map_some,Option.some.injEq] at h;subst h;exact absurd (ho y (List.mem_cons_self ..)) hs
theorem si {x:List UInt8} {y:Int} (h:fT x=some y):(bv x).2=true/\y=(bv x).1:=by
 unfold fT at h
 split at h
 ·rename_i hc;exact ⟨hc,(Option.some.inj h).symm⟩
 ·exact absurd h (by simp)
theorem Ax {x:List UInt8} (h:fT x=none):¬ (bv x).2=true:=λhc=>by
 unfold fT at h;rw [if_pos hc] at h;exact absurd h (by simp)
theorem Db (W:List (List UInt8)):(∀ l,dr fT W=some l->cr l->dr kE W=some l)/\(∀ l,dr fT W=some l->¬ cr l->dr kE W=none)/\(dr fT W=none->dr kE W=none):=
 yK (P:=dN) (λx y h hp=>by
  obtain ⟨h1,h2⟩:=si h;rw [h2] at hp ⊢;unfold kE;rw [if_pos ⟨h1,hp⟩]) (λx y h hp=>by
  obtain ⟨h1,h2⟩:=si h;rw [h2] at hp;unfold kE;rw [if_neg λh=>hp h.2]) (λx h=>by
  unfold kE;rw [if_neg λhc=>Ax h hc.1]) W
theorem tH {s:List UInt8} (hs:s≠[45]):(∀ l,dg s=some l->cr l->cu s=(l,true))/\(∀ l,dg s=some l->¬ cr l->cu s=([],false))/\(dg s=none->cu s=([],false)):=by
 obtain ⟨h1,h2,h3⟩:=Db (aK 46 s);unfold dg cu fE;rw [if_neg hs];exact ⟨λl h ho=>by rw [h1 l h ho];rfl,λl h ho=>by rw [h2 l h ho];rfl,λh=>by rw [h3 h];rfl⟩
theorem vT:cu [45]=([],true):=by unfold cu fE;rw [if_pos rfl];rfl
theorem sj {o:List Part} (h:aZ o):∀ p∈o,Shp p/\p.n<=200:=by
 have e:a8 o=normal o:=by unfold a8;rw [if_pos h.1]
 intro p hp;have h1:=h.1.1.1 p hp;refine ⟨?_,h1.bounds.2.2.1⟩;rw [<- h.2,e] at hp;exact kL h.1.1.1 p hp
theorem BW {p:Part} (h:Shp p) (hn:p.n<=200):0<=p.n/\p.n<=1000000000:=by have:=h.n;omega
theorem BV {p:Part} (h:Shp p) (h2:p.kind=2):p.signs≠[]:=λe=>by
 have:=h.pos;have h0:=(h.put h2).1;unfold psz at this;simp [e,h0] at this
theorem Aj {l:List Int} (h:cr l) (hl:l≠[]):dE l=gD l:=by unfold dE;rw [if_pos h,if_neg hl]
theorem rM {l:List Int} (h:cr l) (hl:l≠[]):fE (gD l)=some l:=by
 unfold fE
 rw [if_neg (xZ hl), ip hl, l7 λn hn => by
     unfold kE;rw [bK (kD (h n hn)),if_pos ⟨rfl,h n hn⟩]]
theorem nN {n:Int} (h:0<=n/\n<=1000000000):aJ n≠[]:=by rw [l0 h];exact Bj _
theorem CN {l:List Int} (h:∀ n∈l,0<=n/\n<=1000000000) (hl:l≠[]):gD l≠[]:=λe=>by
 have h':=ip hl;rw [e] at h'
 cases l with
 |nil=>exact hl rfl
 | cons n l =>
   have h1:aK 46 []=[[]]:=rfl;rw [h1] at h';simp at h';exact nN (h n (by simp)) h'.1
theorem uX {n:Int} (h:0<=n/\n<=1000000000):fT (aJ n)=some n:=by unfold fT;rw [bK h];simp
theorem p9 {n:Int} (h:0<=n/\n<=1000000000):dg (aJ n)=some [n]:=by
 have e:aJ n=gD [n]:=by unfold gD;rw [List.map_singleton,Lib.join_one]
 rw [e];exact oA (λm hm=>by rw [List.mem_singleton.1 hm];exact h) (by simp)
theorem rE {p:Part} (h:Shp p) (hn:p.n<=200):uv (aW p)=some p:=by
 obtain ⟨k,n,s⟩:=p;have h0:=BW h hn;rcases h.k with hk|hk|hk<;>simp only at hk h0<;>subst hk
 ·have hs:s=[]:=h.run (by simp)
  subst hs;simp [aW,uv,nN h0,uX h0]
 ·have hp:=h.put rfl
  simp only at hp;have hs:s≠[]:=BV h rfl;have hn0:n=0:=hp.1;subst hn0;have h1:=CN (λm hm=>kD (hp.2 m hm)) hs;simp [aW,uv,h1,rM hp.2 hs]
 ·have hs:s=[]:=h.run (by simp)
  subst hs;simp [aW,uv,nN h0,uX h0]
theorem rF {p:Part} (h:Shp p) (hn:p.n<=200):fM (aW p)=some p:=by
 obtain ⟨k,n,s⟩:=p;have h0:=BW h hn;rcases h.k with hk|hk|hk<;>simp only at hk h0<;>subst hk
 ·have hs:s=[]:=h.run (by simp)
  subst hs;simp [aW,fM,p9 h0]
 ·have hp:=h.put rfl
  simp only at hp;have hs:s≠[]:=BV h rfl;have hn0:n=0:=hp.1;subst hn0;simp [aW,fM,oA (λm hm=>kD (hp.2 m hm)) hs]
 ·have hs:s=[]:=h.run (by simp)
  subst hs;simp [aW,fM,p9 h0]
theorem sC {c:UInt8} {sep:UInt8}:∀ {l:List (List UInt8)},c≠sep->(∀ w∈l,c ∉ w)->c ∉ Lib.join l [sep]
 | [],_,_=>by simp [Lib.join_nil]
 | [w],_,h=>by rw [Lib.join_one];exact h w (by simp)
 | w :: v :: r, hc, h => by
   have e:Lib.join (w::v::r) [sep]=w++sep::Lib.join (v::r) [sep]:=by
    rw [Lib.join_cons,Lib.join_cons];simp [Lib.joinTail]
   rw [e];intro hm;rcases List.mem_append.1 hm with hm|hm
   ·exact h w (by simp) hm
   ·rcases List.mem_cons.1 hm with hm|hm
    ·exact hc hm
    ·exact sC (l:=v::r) hc (λu hu=>h u (by simp [hu])) hm
theorem xY {c:UInt8} (hc:¬ jc c) (h46:c≠46) (l:List Int):c ∉ gD l:=sC h46 λw hw=>by
 obtain ⟨n,-,rfl⟩:=List.mem_map.1 hw;exact iZ n hc
theorem qb {c:UInt8} (hc:¬ jc c) (h46:c≠46) (h1:c≠107) (h2:c≠112) (h3:c≠100) (p:Part):c ∉ aW p:=by
 unfold aW
 split
 ·simp [h1,iZ p.n hc]
 ·split
  ·simp [h2,xY hc h46]
  ·simp [h3,iZ p.n hc]
theorem LR (p:Part):(32:UInt8) ∉ aW p:=qb (by unfold jc;decide) (by decide) (by decide) (by decide) (by decide) p
theorem LQ (p:Part):(44:UInt8) ∉ aW p:=qb (by unfold jc;decide) (by decide) (by decide) (by decide) (by decide) p
theorem jv {o:List Part} (h:aZ o):bo o=if o=[] then [45] else Lib.join (o.map aW) [32]:=by
 unfold bo;rw [if_pos h.1,h.2]
theorem jJ {o:List Part} (h:aX o):bo (a8 o)=bo o:=by
 have h1:=dA h;rw [jv h1];unfold bo;rw [if_pos h]
theorem IB {p:Part} {l:List UInt8}:aW p≠45::l:=by
 unfold aW
 (repeat' split)<;>simp
theorem kJ {o:List Part} (h:aZ o) (ho:o≠[]):bo o≠[45]/\aK 32 (bo o)=o.map aW:=by
 have e:bo o=Lib.join (o.map aW) [32]:=by rw [jv h,if_neg ho]
 have hs:aK 32 (bo o)=o.map aW:=by
  rw [e]
  exact iq 32 _ (by simpa using ho) (λw hw=>by
   obtain ⟨p,-,rfl⟩:=List.mem_map.1 hw;exact LR p)
 refine ⟨λe2=>?_,hs⟩;rw [e2] at hs;have h1:aK 32 [45]=[[45]]:=by decide
 rw [h1] at hs
 cases o with
 |nil=>exact ho rfl
 | cons p o =>
   simp at hs;exact IB hs.1.symm
open Classical in
noncomputable def cK (s:List UInt8):List Part×Bool:=if h:∃ o,aZ o/\bo o=s then (h.choose,true) else ([],false)
theorem kI {o:List Part} {f:List UInt8->Option Part} (hf:∀ p,Shp p->p.n<=200->f (aW p)=some p) (h:aZ o) (ho:o≠[]):dr f (aK 32 (bo o))=some o:=by
 rw [(kJ h ho).2,l7 λp hp=>hf p (sj h p hp).1 (sj h p hp).2]
theorem fu:aZ []:=by
 have hp:cG []:=⟨by simp,by simp⟩;have:aX []:=⟨hp,by simp [aL,bU,hp,bW],by simp [cE,bU,hp,bW]⟩;refine ⟨this,?_⟩;unfold a8;rw [if_pos this];rfl
theorem kK:bo []=[45]:=by rw [jv fu,if_pos rfl]
theorem Au {a b:List Part} (ha:aZ a) (hb:aZ b) (h:bo a=bo b):a=b:=by
 by_cases h1:a=[]
 ·subst h1
  by_cases h2:b=[]
  ·exact h2.symm
  ·rw [kK] at h;exact absurd h.symm (kJ hb h2).1
 ·by_cases h2:b=[]
  ·subst h2;rw [kK] at h;exact absurd h (kJ ha h1).1
  ·have e1:=kI (f:=uv) (λp h hn=>rE h hn) ha h1
   rw [h,kI (f:=uv) (λp h hn=>rE h hn) hb h2] at e1;exact (Option.some.inj e1).symm
theorem iP {o:List Part} (h:aZ o):cK (bo o)=(o,true):=by
 unfold cK;have hx:∃ o',aZ o'/\bo o'=bo o:=⟨o,h,rfl⟩;rw [dif_pos hx];rw [Au hx.choose_spec.1 h hx.choose_spec.2]
theorem ux {s:List UInt8} (h:∀ o,aZ o->bo o≠s):cK s=([],false):=by
 unfold cK;rw [dif_neg]
 rintro ⟨o,h1,h2⟩
 exact h o h1 h2
theorem zY:cK [45]=([],true):=by
 have:=iP fu
 rwa [kK] at this
theorem lN (s:List UInt8):aZ (cK s).1:=by
 unfold cK
 split
 ·rename_i h;exact h.choose_spec.1
 ·exact fu
theorem xF {s:List UInt8} {o:List Part} {f:List UInt8->Option Part} (hf:∀ p,Shp p->p.n<=200->f (aW p)=some p) (hs:s≠[45]) (h:aZ o) (e:bo o=s):dr f (aK 32 s)=some o:=by
 subst e;refine kI hf h λe=>hs ?_
 rw [e,kK]
theorem xK {s:List UInt8} {f:List UInt8->Option Part} (hf:∀ p,Shp p->p.n<=200->f (aW p)=some p) (hs:s≠[45]) (h:dr f (aK 32 s)=none):cK s=([],false):=
 ux λo ho e=>by rw [xF hf hs ho e] at h;cases h
theorem Fr {s:List UInt8} {out:List Part} (hs:s≠[45]) (h:dr fM (aK 32 s)=some out):(aX out/\bo out=s->cK s=(a8 out,true))/\(¬ (aX out/\bo out=s)->cK s=([],false)):=
 ⟨λ⟨h1,h2⟩=>by rw [<- h2,<- jJ h1,iP (dA h1)],λhn=>ux λo ho e=>hn (by
  rw [xF (λp h hn=>rF h hn) hs ho e] at h
  cases h
  exact ⟨ho.1,e⟩)⟩
open Go.AM Go.RowKit
def uD (ev:Value):Prop:=ev=.nilIface\/∃ t p,ev=.iface t p
def ED (w:World):Prop:=(∃ ev,w.cell? ⟨Tryz.laysC172_ren.g 15,0,none⟩=some ev/\uD ev)/\(∃ ev,w.cell? ⟨Tryz.laysC172_ren.g 16,0,none⟩=some ev/\uD ev)
def LT (w:World):Prop:=
 Lib.TabIs Tryz.prog w "internal/strconv.uint64pow10" .u64 Lib.pow10Tab ∧ (∃ m, w.cell? ⟨1, 0, none⟩ = some (.int .i64 m)) ∧ ED w
theorem pV {w w':World} (h:BelowF (λc=>c<w.heap.size) w w') {a:Addr} {v:Value} (hc:w.cell? a=some v):w'.cell? a=some v:=by
 unfold World.cell? at hc ⊢
 cases hb:w.heap[a.block]? with
 |none=>rw [hb] at hc;cases hc
 |some o=>rw [h.block _ (dl hb),hb];rw [hb] at hc;exact hc
theorem EM {P:Program} {w w':World} (h:BelowF (λc=>c<w.heap.size) w w') {n:String} {cs:Array Value} (hc:w.var? P n=some cs):w'.var? P n=some cs:=by
 unfold World.var? at hc ⊢
 cases hg:P.globalNamed n with
 |none=>rw [hg] at hc;cases hc
 | some g =>
   rw [hg] at hc;simp only [Option.bind_some] at hc ⊢
   cases hb:w.heap[g]? with
   |none=>rw [hb] at hc;cases hc
   |some o=>rw [h.block _ (dl hb),hb];rw [hb] at hc;exact hc
theorem ED.stay:LSt ED:=λ_w _w' h ⟨⟨e1,h3,h4⟩,⟨e2,h5,h6⟩⟩=>⟨⟨e1,pV h h3,h4⟩,⟨e2,pV h h5,h6⟩⟩
theorem LT.stay:LSt LT:=λw w' h ⟨h1,⟨m,h2⟩,h3⟩=>⟨EM h h1,⟨m,pV h h2⟩,ED.stay w w' h h3⟩
theorem PO {xs:Array Value} (h:xs.size=1):∃ a,xs = #[a]:=by
 obtain ⟨l⟩:=xs
 match l,h with
 | [a],_=>exact ⟨a,rfl⟩
theorem PN {xs:Array Value} (h:xs.size=2):∃ a b,xs = #[a,b]:=by
 obtain ⟨l⟩:=xs
 match l,h with
 | [a,b],_=>exact ⟨a,b,rfl⟩
theorem R5 {xs:Array Value} (h:xs.size=3):∃ a b c,xs = #[a,b,c]:=by
 obtain ⟨l⟩:=xs
 match l,h with
 | [a,b,c],_=>exact ⟨a,b,c,rfl⟩
theorem ym {w:World} {v u:Value} (h:RdV w v (.c (.v u))):v=u:=by cases h;rfl
theorem sD (c:UInt8):∀ (a b:List UInt8),c ∉ a->Lib.index (a++c::b) [c]=(a.length:Int)
 | [],b,_=>by simp [Lib.index,List.isPrefixOf]
 | x :: a, b, h => by
   have hx:c≠x:=λe=>h (by simp [e])
   have ih:=sD c a b (λe=>h (by simp [e]));have hp:([c]:List UInt8).isPrefixOf (x::(a++c::b))=false:=by simp [List.isPrefixOf,hx]
   rw [List.cons_append,Lib.index,hp,ih];have hn:¬ (((a.length:Int) == -1)=true):=by rw [beq_iff_eq];omega
   simp only [Bool.false_eq_true,if_false,if_neg hn,List.length_cons];omega
theorem zd (c:UInt8) (l:List UInt8) (h:c∈l):∃ a b,l=a++c::b/\c ∉ a:=by
 induction l with
 |nil=>simp at h
 | cons x l ih =>
   by_cases hx:x=c
   ·exact ⟨[],l,by simp [hx],by simp⟩
   ·obtain ⟨a,b,h1,h2⟩:=ih (by rcases List.mem_cons.1 h with h|h;exact absurd h.symm hx;exact h)
    exact ⟨x::a,b,by simp [h1],λe=>by rcases List.mem_cons.1 e with e|e;exact hx e.symm;exact h2 e⟩
theorem Ad (c:UInt8):∀ (n:Nat) (l:List UInt8),l.length<=n->Lib.splitK [c] 0 (Lib.count l [c]) l=aK c l:=by
 intro n
 induction n with
 | zero =>
   intro l hl;have:l=[]:=List.length_eq_zero_iff.1 (by omega);subst this;rw [Lib.count_one];rfl
 | succ n ih =>
   intro l hl;by_cases hc:c∈l
   ·obtain ⟨a,b,rfl,ha⟩:=zd c l hc
    have hi:=sD c a b ha;have hd:(a++c::b).drop (a.length+1)=b:=by simp
    rw [Lib.count_hit (by simp) hi,Nat.add_comm,Lib.splitK,hi];have hn:¬ (((a.length:Int) == -1)=true):=by rw [beq_iff_eq];omega
    rw [if_neg hn,nI c a b ha];simp only [Int.toNat_natCast,List.length_singleton,Nat.add_zero,hd];simp at hl;rw [ih b (by omega)];simp
   ·have h0:Lib.count l [c]=0:=by rw [Lib.count_one];exact List.count_eq_zero.2 hc
    rw [h0,pr c l hc];rfl
theorem og (s:List UInt8) (c:UInt8):Lib.splitB (bs [c]) 0 (Lib.countB (bs s) (bs [c])) (bs s)=(aK c s).map bs:=by
 have h:=Lib.splitB_data (bs [c]) 0 (Lib.countB (bs s) (bs [c])) (bs s);have hc:Lib.countB (bs s) (bs [c])=Lib.count s [c]:=rfl;rw [dh,dh,hc,Ad c s.length s (Nat.le_refl _)] at h;rw [<- h,List.map_map,hc]
 conv=>lhs;rw [<- List.map_id (Lib.splitB (bs [c]) 0 (Lib.count s [c]) (bs s))]
 exact List.map_congr_left λx _=>(mT x).symm
theorem wh (c d:UInt8):∀ (n:Nat) (l:List UInt8),l.length<=n->Lib.replaceK [c] [d] (Lib.count l [c]) l=l.map λx=>if x=c then d else x:=by
 intro n
 induction n with
 | zero =>
   intro l hl;have:l=[]:=List.length_eq_zero_iff.1 (by omega);subst this;rw [Lib.count_one];rfl
 | succ n ih =>
   intro l hl
   have hno:∀ a:List UInt8,c ∉ a->(a.map λx=>if x=c then d else x)=a:=λa ha=>by
    conv=>rhs;rw [<- List.map_id a]
    exact List.map_congr_left λx hx=>by rw [if_neg (λe=>ha (by rw [<- e];exact hx))];rfl
   by_cases hc:c∈l
   ·obtain ⟨a,b,rfl,ha⟩:=zd c l hc
    have hi:=sD c a b ha;have hd:(a++c::b).drop (a.length+1)=b:=by simp
    rw [Lib.count_hit (by simp) hi,Nat.add_comm,Lib.replaceK_hit _ _ _ _ _ hi];simp at hl;simp only [List.length_singleton,hd,ih b (by omega),List.map_append,List.map_cons,hno a ha];simp
   ·have h0:Lib.count l [c]=0:=by rw [Lib.count_one];exact List.count_eq_zero.2 hc
    rw [h0,hno l hc];rfl
theorem yk (s:List UInt8) (c d:UInt8) (h:c≠d):Lib.replaceAll s [c] [d]=s.map λx=>if x=c then d else x:=by
 unfold Lib.replaceAll Lib.replace;have hn:¬ (([c]:List UInt8) == [d])=true:=by rw [beq_iff_eq];simpa using h
 rw [if_neg hn];exact wh c d s.length s (Nat.le_refl _)
theorem Ms (n:Int) (h0:0<=n) (h1:n<=9223372036854775807):bZ Tryz.prog LT 90 [.c (vi n)] (.one (.c (vs (Lib.itoa n)) 1)):=by
 refine ⟨⟨_,Tryz.func90,by kernel_rfl,by kernel_rfl⟩,λw hL xs hxs hargs=>?_⟩;obtain ⟨a,rfl⟩:=PO hxs;obtain rfl:=ym (hargs 0 _ rfl);refine (Any.strconv_Itoa uk n (by omega) h1 w hL.1).mono ?_
 rintro e w' ⟨rfl,k,os,rfl⟩
 exact ⟨_,rfl,Lib.below_grow _ _ (Nat.le_refl _) k os,rfl,rfl⟩
theorem uP (s:List UInt8) (c d:UInt8) (hcd:c≠d) (hl:s.length<=2 ^ 31):bZ Tryz.prog LT 91 [.c (vs s),.c (vs [c]),.c (vs [d])] (.one (.c (vs (s.map λx=>if x=c then d else x)) 1)):=by
 refine ⟨⟨_,Tryz.func91,by kernel_rfl,by kernel_rfl⟩,λw hL xs hxs hargs=>?_⟩;obtain ⟨a,b,f,rfl⟩:=R5 hxs;obtain rfl:=ym (hargs 0 _ rfl);obtain rfl:=ym (hargs 1 _ rfl);obtain rfl:=ym (hargs 2 _ rfl);obtain ⟨m,hm⟩:=hL.2.1;have hc:=Lib.countB_le (bs [c]) (by rw [bL];simp) (bs s).size (bs s) (Nat.le_refl _);refine (Any.strings_ReplaceAll xz ld (bs s) (bs [c]) (bs [d]) m w (by rw [bL];omega) hm (by rw [bL];simp) (by rw [bL] at hc ⊢;rw [bL];simp;omega)).mono ?_
 rintro e w' ⟨rfl,hb⟩
 refine ⟨_,rfl,hb,?_,rfl⟩;simp only [dh,yk s c d hcd];rfl
theorem BU (s:List UInt8) (c:UInt8) (hl:s.length<=2 ^ 31):bZ Tryz.prog LT 96 [.c (vs s),.c (vs [c])] (.one (.c (.s ((aK c s).map wR)) 1)):=by
 refine ⟨⟨_,Tryz.func96,by kernel_rfl,by kernel_rfl⟩,λw hL xs hxs hargs=>?_⟩;obtain ⟨a,b,rfl⟩:=PN hxs;obtain rfl:=ym (hargs 0 _ rfl);obtain rfl:=ym (hargs 1 _ rfl);obtain ⟨m,hm⟩:=hL.2.1;refine (Any.strings_Split xA (by kernel_rfl) (bs s) (bs [c]) m w (by rw [bL];omega) hm (by rw [bL];simp)).mono ?_
 rintro e w' ⟨rfl,rfl⟩
 rw [og]
 have hlen:Lib.countB (bs s) (bs [c])+1=(aK c s).length:=by
  have h1:=Lib.splitB_all (bs [c]) (by rw [bL];simp) 0 _ (bs s) rfl;rw [og] at h1
  simpa using h1.symm
 have hcl:=Lib.countB_le (bs [c]) (by rw [bL];simp) (bs s).size (bs s) (Nat.le_refl _);rw [bL] at hcl;rw [hlen];have hb:(w.alloc (.cells (((aK c s).map bs).map Value.string).toArray (Tryz.lays146_ren.t 9))).heap[w.heap.size]? = some (.cells (((aK c s).map bs).map Value.string).toArray (Tryz.lays146_ren.t 9) (0,0)):=y0 w _;refine ⟨_,rfl,(Below.refl _ w).alloc (Nat.le_refl _) _,by simp,by simp [wR],.inr ⟨w.heap.size,0,(aK c s).length,_,_,λ_ _ _=>False,by simp,⟨Nat.le_refl _,dl hb⟩,hb,by simp,by unfold maxLen;omega,by simp,λ_ _ _ h=>h.elim,λ_ _ _ _ _ h=>h.elim,λi j row d hi hj=>?_⟩⟩;rw [List.getElem?_map] at hi
 cases hw:(aK c s)[i]? with
 |none=>rw [hw] at hi;cases hi
 | some x =>
   rw [hw] at hi
   cases hi
   unfold wR at hj
   match j,hj with
   | 0, hj =>
     cases hj
     have:(((aK c s).map bs).map Value.string).toArray.getD (0+(i*1+0)) undef=.string (bs x):=by simp [hw]
     rw [this];exact .plain rfl
theorem Gn (l:List (List UInt8)) (c:UInt8) (hl:l.length<=2 ^ 40) (hj:(Lib.join l [c]).length<=140737488355328):bZ Tryz.prog LT 119 [.c (.s (l.map wR)),.c (vs [c])] (.one (.c (vs (Lib.join l [c])) 1)):=by
 refine ⟨⟨_,Tryz.func119,by kernel_rfl,by kernel_rfl⟩,λw hL xs hxs hargs=>?_⟩;obtain ⟨a,b,rfl⟩:=PN hxs;have h0:Rd w false (λ_=>True) a (.s (l.map wR)):=hargs 0 _ rfl;obtain rfl:=ym (hargs 1 _ rfl);by_cases hn:l=[]
 ·subst hn
  obtain ⟨x,y,rfl⟩:=h0.empty_slice;refine (Any.strings_Join_none pk gN x y (bs [c]) w).mono ?_
  rintro e w' ⟨rfl,rfl⟩
  exact ⟨_,rfl,Below.refl _ _,rfl,rfl⟩
 generalize hr:l.map wR=rows at h0
 cases h0 with
 |empty a cap h=>exact absurd (List.map_eq_nil_iff.1 hr) hn
 | slice b off cap sz cs T fr rows F hcap hmax hsz hS hb hfit hown hF hd hlen hrd =>
   subst hr
   have hsz1:sz=1:=by
    cases l with
    |nil=>exact absurd rfl hn
    |cons x l=>have:=hlen (wR x) (by simp);rw [eZ] at this;exact this.symm
   subst hsz1
   have hcells:∀ (j:Nat) x,(l.map bs)[j]? = some x->w.cell? ⟨b,off+j,none⟩=some (.string x):=λj x hj=>by
    rw [List.getElem?_map] at hj
    cases hx:l[j]? with
    |none=>rw [hx] at hj;cases hj
    | some y =>
      rw [hx] at hj
      cases hj
      have h1:=hrd j 0 (wR y) (vs y) (by rw [List.getElem?_map,hx];rfl) rfl;have hjl:j<l.length:=(List.getElem?_eq_some_iff.1 hx).1;simp only [List.length_map] at hfit;have h2:off+(j*1+0)<cs.size:=by omega
      have e3:off+(j*1+0)=off+j:=by omega
      rw [e3] at h1 h2;unfold World.cell?;rw [hb];generalize hv:cs.getD (off+j) undef=v at h1
      cases h1
      rw [Array.getD_eq_getD_getElem?,Array.getElem?_eq_getElem h2] at hv;simp at hv;simp [h2,hv]
   have hd2:(l.map bs).map (·.data.toList)=l:=by
    rw [List.map_map]
    conv=>rhs;rw [<- List.map_id l]
    exact List.map_congr_left λx _=>dh x
   have:=Any.strings_Join pk gN b off cap (l.map bs) (bs [c]) w hcells (dl hb) (by rw [List.length_map];omega) (by rw [List.length_map] at hcap ⊢;exact hcap) (by rw [hd2,dh];exact hj);rw [hd2,dh] at this;simp only [List.length_map] at this ⊢;refine this.mono ?_
   rintro e w' ⟨rfl,hB⟩
   exact ⟨_,rfl,hB,rfl,rfl⟩
set_option maxRecDepth 100000
set_option maxHeartbeats 4000000
theorem bD (n:Int):bZ Tryz.prog LT 48 [.c (vi n)] (.one (.c (vs (aJ n)) 1)):=by
 refine bZ.intro' ag LT.stay Tryz.func48 (by kernel_rfl) rfl rfl rfl (Nat.le_of_ble_eq_true rfl) (λw0 base hE=>?_);simp;refine aa.pure (cQ n 0 1000000000) (by simp) ?_;by_cases h:0<=n/\n<=1000000000
 ·have e:Lib.itoa n=aJ n:=by unfold Lib.itoa aJ;rw [if_neg (by omega),if_pos h]
  simp [h];refine ac hE (Ms n (by omega) (by omega)) (by simp) ?_;simp [e]
 ·have e:aJ n=[]:=by unfold aJ;rw [if_neg h]
  simp [h,e];rfl
theorem LT.below {w w':World} (h:Below w.heap.size w w') (hL:LT w):LT w':=LT.stay w w' ⟨h.os,h.tape,h.output,h.size,h.block⟩ hL
theorem rL {s:List UInt8} (h:s≠[]):(bs s).toList.isEmpty=false:=by
 have e:(bs s).toList=s:=by rw [ByteArray.toList_eq,dh]
 rw [e]
 cases s with
 |nil=>exact absurd rfl h
 |cons x l=>rfl
theorem KU (s r:ByteArray) (v:Int) (w:World) (hs:s.toList.isEmpty=false) (hb:(r.toList == s.toList)=true)
 (A:Calls Tryz.prog 125 #[.string s] w λe w'=>e=.returned (.tuple #[.int .i64 v,.nilIface])/\Below w.heap.size w w')
 (N:∀ W,Below w.heap.size w W->Calls Tryz.prog 48 #[.int .i64 v] W λe w'=>e=.returned (.string r)/\Below w.heap.size w w') :
 Calls Tryz.prog 97 #[.string s] w λe w'=>e=.returned (.tuple #[.int .i64 v,.bool true])/\Below w.heap.size w w':=by
 go_enter Tryz.func97,Tryz.ntmps97
 go_wp2_with (go_at_call 125;refine A.mono ?_;rintro e w1 ⟨rfl,h1⟩)
 go_wp2_with (go_at_call 48;refine (N _ h1).mono ?_;rintro e w2 ⟨rfl,h2⟩)
 go_ret2
 exact ⟨rfl,h2⟩
theorem OJ (s r:ByteArray) (v:Int) (w:World) (hs:s.toList.isEmpty=false) (hb:(r.toList == s.toList)=false)
 (A:Calls Tryz.prog 125 #[.string s] w λe w'=>e=.returned (.tuple #[.int .i64 v,.nilIface])/\Below w.heap.size w w')
 (N:∀ W,Below w.heap.size w W->Calls Tryz.prog 48 #[.int .i64 v] W λe w'=>e=.returned (.string r)/\Below w.heap.size w w') :
 Calls Tryz.prog 97 #[.string s] w λe w'=>e=.returned (.tuple #[.int .i64 0,.bool false])/\Below w.heap.size w w':=by
 go_enter Tryz.func97,Tryz.ntmps97
 go_wp2_with (go_at_call 125;refine A.mono ?_;rintro e w1 ⟨rfl,h1⟩)
 go_wp2_with (go_at_call 48;refine (N _ h1).mono ?_;rintro e w2 ⟨rfl,h2⟩)
 go_ret2
 exact ⟨rfl,h2⟩
theorem EQ (s:ByteArray) (v:Int) (w:World)
 (A:Calls Tryz.prog 125 #[.string s] w λe w'=>(∃ t p,e=.returned (.tuple #[.int .i64 v,.iface t p]))/\Below w.heap.size w w') :
 Calls Tryz.prog 97 #[.string s] w λe w'=>e=.returned (.tuple #[.int .i64 0,.bool false])/\Below w.heap.size w w':=by
 go_enter Tryz.func97,Tryz.ntmps97
 go_wp2_with (go_at_call 125;refine A.mono ?_;rintro e w1 ⟨⟨t,p,rfl⟩,h1⟩)
 go_ret2
 exact ⟨rfl,h1⟩
theorem np (s:List UInt8) (hl:s.length<=2 ^ 31):bZ Tryz.prog LT 97 [.c (vs s)] (.tup [.c (vi (bv s).1) 1,.c (.v (.bool (bv s).2)) 1]):=by
 refine ⟨⟨_,Tryz.func97,by kernel_rfl,by kernel_rfl⟩,λw hL xs hxs hargs=>?_⟩;obtain ⟨a,rfl⟩:=PO hxs;obtain rfl:=ym (hargs 0 _ rfl);have hL0:=hL;obtain ⟨_,_,⟨e1,hv1,he1⟩,⟨e2,hv2,he2⟩⟩:=hL
 have hend:∀ (x:Int) (b:Bool),bv s=(x,b)->(Calls Tryz.prog 97 #[.string (bs s)] w λe w'=>e=.returned (.tuple #[.int .i64 x,.bool b])/\Below w.heap.size w w')->Calls Tryz.prog 97 #[.string (bs s)] w λe w'=>∃ v,e=.returned v/\Below w.heap.size w w'/\xB w' (λc=>w.heap.size<=c/\c<w'.heap.size) v (.tup [.c (vi (bv s).1) 1,.c (.v (.bool (bv s).2)) 1]):=λx b e hc=>by
  refine hc.mono ?_
  rintro _ w' ⟨rfl,hb⟩
  refine ⟨_,rfl,hb,_,λ_ _=>False,rfl,rfl,λ_ _ h=>h.elim,λ_ _ _ h=>h.elim,λj t hj=>?_⟩;rw [e] at hj
  match j,hj with
  |0,hj=>cases hj;exact ⟨rfl,rfl⟩
  |1,hj=>cases hj;exact ⟨rfl,rfl⟩
 have hsz:(bs s).size<=281474976710656:=by rw [bL];omega
 have hN:∀ v:Int,∀ W,Below w.heap.size w W->Calls Tryz.prog 48 #[.int .i64 v] W λe w'=>e=.returned (.string (bs (aJ v)))/\Below w.heap.size w w':=λv W hb=>by
  refine ((bD v).2 W (LT.below hb hL0) #[.int .i64 v] rfl (λi vd hi=>?_)).mono ?_
  ·match i,hi with
   |0,hi=>cases hi;exact .plain rfl
  ·rintro e w' ⟨u,rfl,h1,h2⟩
   obtain ⟨rfl,-⟩:=h2;exact ⟨rfl,hb.trans (h1.mono hb.size)⟩
 cases h:Lib.atoiAll s with
 | ok v =>
   have hs:s≠[]:=λe=>by subst e;cases h
   have hn:=vU h
   have hA:Calls Tryz.prog 125 #[.string (bs s)] w λe w'=>e=.returned (.tuple #[.int .i64 v,.nilIface])/\Below w.heap.size w w':=by
    refine (Any.strconv_Atoi_ok jY (bs s) (by omega) v (by rw [dh];exact h) w).mono ?_
    rintro e w' ⟨rfl,rfl|⟨t,rfl⟩⟩
    ·exact ⟨rfl,Below.refl _ _⟩
    ·exact ⟨rfl,Lib.bytesWorld_below _ _ _⟩
   by_cases hq:aJ v=s
   ·exact hend v true (hn.1 hq) (KU (bs s) (bs (aJ v)) v w (rL hs) (by rw [hq,v1];simp [dc]) hA (hN v))
   ·exact hend 0 false (hn.2 hq) (OJ (bs s) (bs (aJ v)) v w (rL hs) (by rw [v1,bQ,eL];exact hq) hA (hN v))
 | «syntax» =>
   refine hend 0 false (oc λv e=>by rw [h] at e;cases e) (EQ (bs s) 0 w ?_);refine (Any.strconv_Atoi_syntax jY (bs s) hsz (by rw [dh];exact h) e1 w hv1 he1).mono ?_
   rintro e w' ⟨N,rfl,-,-,hb⟩
   exact ⟨⟨_,_,rfl⟩,hb⟩
 | range =>
   refine hend 0 false (oc λv e=>by rw [h] at e;cases e) (EQ (bs s) (Lib.atoiSat (bs s).data.toList) w ?_);refine (Any.strconv_Atoi_range jY (bs s) hsz (by rw [dh];exact h) e2 w hv2 he2).mono ?_
   rintro e w' ⟨N,rfl,-,-,hb⟩
   exact ⟨⟨_,_,rfl⟩,hb⟩
end Go.Proofs.YthckkpphnmmfdaaGreatDoor
