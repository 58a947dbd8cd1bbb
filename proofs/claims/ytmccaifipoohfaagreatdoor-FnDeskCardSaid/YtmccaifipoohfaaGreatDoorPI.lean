import Derived.Shelf.Strconv.Itoa3
import Derived.Shelf.Strconv.AtoiAll
import Derived.Shelf.Strings.Split
import Derived.Shelf.Strings.Replace
import Derived.Shelf.Strings.OnBuilder
import Derived.Test.YtmccaifipoohfaaGreatDoorMH
import Derived.Test.YtmccaifipoohfaaGreatDoorPE
import Derived.Test.YtmccaifipoohfaaGreatDoorPH
import Derived.Lib.AtoiAllCases
import Derived.Lib.AppendIntMem
import Derived.WalkKit
import Derived.BigCall
namespace Go.Proofs
open Go.Shelf
def Tryz.laysM171_ren:Go.Shelf.Ren:=⟨λ| 171=>172|243=>249|246=>304|283=>327|284=>328|285=>329|286=>330|129=>343|317=>342|318=>344|319=>345|320=>346|337=>351|338=>352|n=>n,λ| 3=>3|9=>9|2=>2|4=>4|171=>288|0=>0|53=>289|37=>22|5=>5|173=>292|212=>310|51=>243|20=>20|213=>311|46=>163|232=>320|233=>321|n=>n,λ| 17=>5|18=>6|19=>7|n=>n⟩
theorem Jc:Go.Proofs.LaysM.n171 Tryz.prog Tryz.laysM171_ren:={
 mixed:=ah
 f129:=Tryz.func343.trans (aO some ah)
 f171:=Tryz.func172.trans (aO some ah)
 f243:=Tryz.func249.trans (aO some ah)
 f246:=Tryz.func304.trans (aO some ah)
 f283:=Tryz.func327.trans (aO some ah)
 f284:=Tryz.func328.trans (aO some ah)
 f285:=Tryz.func329.trans (aO some ah)
 f286:=Tryz.func330.trans (aO some ah)
 f317:=Tryz.func342.trans (aO some ah)
 f318:=Tryz.func344.trans (aO some ah)
 f319:=Tryz.func345.trans (aO some ah)
 f320:=Tryz.func346.trans (aO some ah)
 f337:=Tryz.func351.trans (aO some ah)
 f338:=Tryz.func352.trans (aO some ah)
 t0:=Tryz.underlying0
 a0:=Tryz.isAgg0
 z0:=Tryz.sizeOf0
 v0:=Tryz.zeroValue0
 t2:=Tryz.underlying2
 a2:=Tryz.isAgg2
 z2:=Tryz.sizeOf2
 v2:=Tryz.zeroValue2
 t3:=Tryz.underlying3
 a3:=Tryz.isAgg3
 z3:=Tryz.sizeOf3
 v3:=Tryz.zeroValue3
 t4:=Tryz.underlying4
 a4:=Tryz.isAgg4
 z4:=Tryz.sizeOf4
 v4:=Tryz.zeroValue4
 t5:=Tryz.underlying5
 a5:=Tryz.isAgg5
 z5:=Tryz.sizeOf5
 v5:=Tryz.zeroValue5
 t9:=Tryz.underlying9
 a9:=Tryz.isAgg9
 z9:=Tryz.sizeOf9
 v9:=Tryz.zeroValue9
 t20:=Tryz.underlying20
 a20:=Tryz.isAgg20
 z20:=Tryz.sizeOf20
 v20:=Tryz.zeroValue20
 t37:=Tryz.underlying22
 a37:=Tryz.isAgg22
 z37:=Tryz.sizeOf22
 v37:=Tryz.zeroValue22
 t46:=Tryz.underlying163
 a46:=Tryz.isAgg163
 z46:=Tryz.sizeOf163
 v46:=Tryz.zeroValue163
 t51:=Tryz.underlying243
 a51:=Tryz.isAgg243
 z51:=Tryz.sizeOf243
 v51:=Tryz.zeroValue243
 t53:=Tryz.underlying289
 a53:=Tryz.isAgg289
 z53:=Tryz.sizeOf289
 v53:=Tryz.zeroValue289
 t171:=Tryz.underlying288
 a171:=Tryz.isAgg288
 z171:=Tryz.sizeOf288
 v171:=Tryz.zeroValue288
 t173:=Tryz.underlying292
 a173:=Tryz.isAgg292
 z173:=Tryz.sizeOf292
 v173:=Tryz.zeroValue292
 t212:=Tryz.underlying310
 a212:=Tryz.isAgg310
 z212:=Tryz.sizeOf310
 v212:=Tryz.zeroValue310
 t213:=Tryz.underlying311
 a213:=Tryz.isAgg311
 z213:=Tryz.sizeOf311
 t232:=Tryz.underlying320
 a232:=Tryz.isAgg320
 z232:=Tryz.sizeOf320
 v232:=Tryz.zeroValue320
 t233:=Tryz.underlying321
 a233:=Tryz.isAgg321
 z233:=Tryz.sizeOf321
 v233:=Tryz.zeroValue321
 g17:=ah
 g18:=ah
 g19:=ah
 i0:=ah
 i2:=ah
 i3:=ah
 i4:=ah
 i5:=ah
 i9:=ah
 i20:=ah
 i37:=ah
 i46:=ah
 i51:=ah
 i53:=ah
 i171:=ah
 i173:=ah
 i212:=ah
 i232:=ah
 i233:=ah
 m17:=ah
 m18:=ah
 m19:=ah}
def Tryz.laysC172_ren:Go.Shelf.Ren:=⟨λ| 172=>180|244=>263|245=>264|247=>311|279=>312|280=>313|281=>314|282=>315|287=>335|316=>336|171=>172|205=>337|321=>349|322=>350|243=>249|246=>304|283=>327|284=>328|285=>329|286=>330|129=>343|317=>342|318=>344|319=>345|320=>346|337=>351|338=>352|n=>n,λ| 9=>9|3=>3|75=>198|76=>199|4=>4|5=>5|167=>277|37=>22|0=>0|85=>278|2=>2|168=>280|53=>289|175=>295|46=>163|210=>299|127=>284|145=>318|143=>316|21=>21|171=>288|173=>292|212=>310|51=>243|20=>20|213=>311|232=>320|233=>321|80=>266|n=>n,λ| 15=>1|16=>2|17=>5|18=>6|19=>7|n=>n⟩
theorem sZ:Go.Proofs.LaysC.n172 Tryz.prog Tryz.laysC172_ren:={
 mixed:=ah
 f129:=Tryz.func343.trans (aO some ah)
 f171:=Tryz.func172.trans (aO some ah)
 f172:=Tryz.func180.trans (aO some ah)
 f205:=Tryz.func337.trans (aO some ah)
 f243:=Tryz.func249.trans (aO some ah)
 f244:=Tryz.func263.trans (aO some ah)
 f245:=Tryz.func264.trans (aO some ah)
 f246:=Tryz.func304.trans (aO some ah)
 f247:=Tryz.func311.trans (aO some ah)
 f279:=Tryz.func312.trans (aO some ah)
 f280:=Tryz.func313.trans (aO some ah)
 f281:=Tryz.func314.trans (aO some ah)
 f282:=Tryz.func315.trans (aO some ah)
 f283:=Tryz.func327.trans (aO some ah)
 f284:=Tryz.func328.trans (aO some ah)
 f285:=Tryz.func329.trans (aO some ah)
 f286:=Tryz.func330.trans (aO some ah)
 f287:=Tryz.func335.trans (aO some ah)
 f316:=Tryz.func336.trans (aO some ah)
 f317:=Tryz.func342.trans (aO some ah)
 f318:=Tryz.func344.trans (aO some ah)
 f319:=Tryz.func345.trans (aO some ah)
 f320:=Tryz.func346.trans (aO some ah)
 f321:=Tryz.func349.trans (aO some ah)
 f322:=Tryz.func350.trans (aO some ah)
 f337:=Tryz.func351.trans (aO some ah)
 f338:=Tryz.func352.trans (aO some ah)
 t0:=Tryz.underlying0
 a0:=Tryz.isAgg0
 z0:=Tryz.sizeOf0
 v0:=Tryz.zeroValue0
 t2:=Tryz.underlying2
 a2:=Tryz.isAgg2
 z2:=Tryz.sizeOf2
 v2:=Tryz.zeroValue2
 t3:=Tryz.underlying3
 a3:=Tryz.isAgg3
 z3:=Tryz.sizeOf3
 v3:=Tryz.zeroValue3
 t4:=Tryz.underlying4
 a4:=Tryz.isAgg4
 z4:=Tryz.sizeOf4
 v4:=Tryz.zeroValue4
 t5:=Tryz.underlying5
 a5:=Tryz.isAgg5
 z5:=Tryz.sizeOf5
 v5:=Tryz.zeroValue5
 t9:=Tryz.underlying9
 a9:=Tryz.isAgg9
 z9:=Tryz.sizeOf9
 v9:=Tryz.zeroValue9
 t20:=Tryz.underlying20
 a20:=Tryz.isAgg20
 z20:=Tryz.sizeOf20
 v20:=Tryz.zeroValue20
 t21:=Tryz.underlying21
 a21:=Tryz.isAgg21
 z21:=Tryz.sizeOf21
 v21:=Tryz.zeroValue21
 t37:=Tryz.underlying22
 a37:=Tryz.isAgg22
 z37:=Tryz.sizeOf22
 v37:=Tryz.zeroValue22
 t46:=Tryz.underlying163
 a46:=Tryz.isAgg163
 z46:=Tryz.sizeOf163
 v46:=Tryz.zeroValue163
 t51:=Tryz.underlying243
 a51:=Tryz.isAgg243
 z51:=Tryz.sizeOf243
 v51:=Tryz.zeroValue243
 t53:=Tryz.underlying289
 a53:=Tryz.isAgg289
 z53:=Tryz.sizeOf289
 v53:=Tryz.zeroValue289
 t75:=Tryz.underlying198
 a75:=Tryz.isAgg198
 z75:=Tryz.sizeOf198
 v75:=Tryz.zeroValue198
 t76:=Tryz.underlying199
 a76:=Tryz.isAgg199
 z76:=Tryz.sizeOf199
 v76:=Tryz.zeroValue199
 t85:=Tryz.underlying278
 a85:=Tryz.isAgg278
 z85:=Tryz.sizeOf278
 v85:=Tryz.zeroValue278
 t127:=Tryz.underlying284
 a127:=Tryz.isAgg284
 z127:=Tryz.sizeOf284
 v127:=Tryz.zeroValue284
 t143:=Tryz.underlying316
 a143:=Tryz.isAgg316
 z143:=Tryz.sizeOf316
 v143:=Tryz.zeroValue316
 t145:=Tryz.underlying318
 a145:=Tryz.isAgg318
 z145:=Tryz.sizeOf318
 v145:=Tryz.zeroValue318
 t167:=Tryz.underlying277
 a167:=Tryz.isAgg277
 z167:=Tryz.sizeOf277
 v167:=Tryz.zeroValue277
 t168:=Tryz.underlying280
 a168:=Tryz.isAgg280
 z168:=Tryz.sizeOf280
 v168:=Tryz.zeroValue280
 t171:=Tryz.underlying288
 a171:=Tryz.isAgg288
 z171:=Tryz.sizeOf288
 v171:=Tryz.zeroValue288
 t173:=Tryz.underlying292
 a173:=Tryz.isAgg292
 z173:=Tryz.sizeOf292
 v173:=Tryz.zeroValue292
 t175:=Tryz.underlying295
 a175:=Tryz.isAgg295
 z175:=Tryz.sizeOf295
 v175:=Tryz.zeroValue295
 t210:=Tryz.underlying299
 a210:=Tryz.isAgg299
 z210:=Tryz.sizeOf299
 v210:=Tryz.zeroValue299
 t212:=Tryz.underlying310
 a212:=Tryz.isAgg310
 z212:=Tryz.sizeOf310
 v212:=Tryz.zeroValue310
 t213:=Tryz.underlying311
 a213:=Tryz.isAgg311
 z213:=Tryz.sizeOf311
 t232:=Tryz.underlying320
 a232:=Tryz.isAgg320
 z232:=Tryz.sizeOf320
 v232:=Tryz.zeroValue320
 t233:=Tryz.underlying321
 a233:=Tryz.isAgg321
 z233:=Tryz.sizeOf321
 v233:=Tryz.zeroValue321
 g15:=ah
 g16:=ah
 g17:=ah
 g18:=ah
 g19:=ah
 t80:=Tryz.underlying266
 a80:=Tryz.isAgg266
 z80:=Tryz.sizeOf266
 v80:=Tryz.zeroValue266
 i0:=ah
 i2:=ah
 i3:=ah
 i4:=ah
 i5:=ah
 i9:=ah
 i20:=ah
 i21:=ah
 i37:=ah
 i46:=ah
 i51:=ah
 i53:=ah
 i75:=ah
 i76:=ah
 i80:=ah
 i85:=ah
 i127:=ah
 i143:=ah
 i145:=ah
 i167:=ah
 i168:=ah
 i171:=ah
 i173:=ah
 i175:=ah
 i210:=ah
 i212:=ah
 i232:=ah
 i233:=ah
 m15:=ah
 m16:=ah
 m17:=ah
 m18:=ah
 m19:=ah
 c0:=ah
 c2:=ah
 c3:=ah
 c4:=ah
 c5:=ah
 c9:=ah
 c20:=ah
 c21:=ah
 c37:=ah
 c46:=ah
 c51:=ah
 c53:=ah
 c75:=ah
 c76:=ah
 c80:=ah
 c85:=ah
 c127:=ah
 c143:=ah
 c145:=ah
 c167:=ah
 c168:=ah
 c171:=ah
 c173:=ah
 c175:=ah
 c210:=ah
 c212:=ah
 c213:=ah
 c232:=ah
 c233:=ah}
def Tryz.lays146_ren:Go.Shelf.Ren:=⟨λ| 146=>83|221=>179|268=>260|138=>261|143=>262|195=>308|197=>296|218=>309|219=>310|260=>323|217=>331|225=>332|224=>333|267=>334|266=>347|314=>348|n=>n,λ| 9=>9|31=>23|3=>3|4=>4|0=>0|105=>264|21=>21|5=>5|46=>163|119=>304|139=>307|138=>306|146=>313|51=>243|n=>n,λ| 1=>0|3=>3|4=>4|n=>n⟩
theorem NI:Go.Proofs.Lays.n146 Tryz.prog Tryz.lays146_ren:={
 mixed:=ah
 f138:=Tryz.func261.trans (aO some ah)
 f143:=Tryz.func262.trans (aO some ah)
 f146:=Tryz.func83.trans (aO some ah)
 f195:=Tryz.func308.trans (aO some ah)
 f197:=Tryz.func296.trans (aO some ah)
 f217:=Tryz.func331.trans (aO some ah)
 f218:=Tryz.func309.trans (aO some ah)
 f219:=Tryz.func310.trans (aO some ah)
 f221:=Tryz.func179.trans (aO some ah)
 f224:=Tryz.func333.trans (aO some ah)
 f225:=Tryz.func332.trans (aO some ah)
 f260:=Tryz.func323.trans (aO some ah)
 f266:=Tryz.func347.trans (aO some ah)
 f267:=Tryz.func334.trans (aO some ah)
 f268:=Tryz.func260.trans (aO some ah)
 f314:=Tryz.func348.trans (aO some ah)
 t0:=Tryz.underlying0
 a0:=Tryz.isAgg0
 z0:=Tryz.sizeOf0
 v0:=Tryz.zeroValue0
 t3:=Tryz.underlying3
 a3:=Tryz.isAgg3
 z3:=Tryz.sizeOf3
 v3:=Tryz.zeroValue3
 t4:=Tryz.underlying4
 a4:=Tryz.isAgg4
 z4:=Tryz.sizeOf4
 v4:=Tryz.zeroValue4
 t5:=Tryz.underlying5
 a5:=Tryz.isAgg5
 z5:=Tryz.sizeOf5
 v5:=Tryz.zeroValue5
 t9:=Tryz.underlying9
 a9:=Tryz.isAgg9
 z9:=Tryz.sizeOf9
 v9:=Tryz.zeroValue9
 t21:=Tryz.underlying21
 a21:=Tryz.isAgg21
 z21:=Tryz.sizeOf21
 v21:=Tryz.zeroValue21
 t31:=Tryz.underlying23
 a31:=Tryz.isAgg23
 z31:=Tryz.sizeOf23
 v31:=Tryz.zeroValue23
 t46:=Tryz.underlying163
 a46:=Tryz.isAgg163
 z46:=Tryz.sizeOf163
 v46:=Tryz.zeroValue163
 t51:=Tryz.underlying243
 a51:=Tryz.isAgg243
 z51:=Tryz.sizeOf243
 v51:=Tryz.zeroValue243
 t105:=Tryz.underlying264
 a105:=Tryz.isAgg264
 z105:=Tryz.sizeOf264
 v105:=Tryz.zeroValue264
 t119:=Tryz.underlying304
 a119:=Tryz.isAgg304
 z119:=Tryz.sizeOf304
 t138:=Tryz.underlying306
 a138:=Tryz.isAgg306
 z138:=Tryz.sizeOf306
 v138:=Tryz.zeroValue306
 t139:=Tryz.underlying307
 a139:=Tryz.isAgg307
 z139:=Tryz.sizeOf307
 v139:=Tryz.zeroValue307
 t146:=Tryz.underlying313
 a146:=Tryz.isAgg313
 z146:=Tryz.sizeOf313
 v146:=Tryz.zeroValue313
 g1:=ah
 g3:=ah
 g4:=ah}
def Tryz.lays155_ren:Go.Shelf.Ren:=⟨λ| 155=>157|154=>239|138=>261|165=>294|143=>262|166=>295|197=>296|169=>297|195=>308|218=>309|240=>321|241=>322|219=>310|260=>323|276=>339|277=>340|217=>331|225=>332|224=>333|267=>334|266=>347|314=>348|n=>n,λ| 9=>9|3=>3|4=>4|72=>262|0=>0|76=>199|105=>264|21=>21|5=>5|70=>260|20=>20|37=>22|75=>198|127=>284|164=>301|46=>163|119=>304|139=>307|138=>306|146=>313|51=>243|80=>266|n=>n,λ| 1=>0|3=>3|4=>4|n=>n⟩
theorem NH:Go.Proofs.Lays.n155 Tryz.prog Tryz.lays155_ren:={
 mixed:=ah
 f138:=Tryz.func261.trans (aO some ah)
 f143:=Tryz.func262.trans (aO some ah)
 f154:=Tryz.func239.trans (aO some ah)
 f155:=Tryz.func157.trans (aO some ah)
 f165:=Tryz.func294.trans (aO some ah)
 f166:=Tryz.func295.trans (aO some ah)
 f169:=Tryz.func297.trans (aO some ah)
 f195:=Tryz.func308.trans (aO some ah)
 f197:=Tryz.func296.trans (aO some ah)
 f217:=Tryz.func331.trans (aO some ah)
 f218:=Tryz.func309.trans (aO some ah)
 f219:=Tryz.func310.trans (aO some ah)
 f224:=Tryz.func333.trans (aO some ah)
 f225:=Tryz.func332.trans (aO some ah)
 f240:=Tryz.func321.trans (aO some ah)
 f241:=Tryz.func322.trans (aO some ah)
 f260:=Tryz.func323.trans (aO some ah)
 f266:=Tryz.func347.trans (aO some ah)
 f267:=Tryz.func334.trans (aO some ah)
 f276:=Tryz.func339.trans (aO some ah)
 f277:=Tryz.func340.trans (aO some ah)
 f314:=Tryz.func348.trans (aO some ah)
 t0:=Tryz.underlying0
 a0:=Tryz.isAgg0
 z0:=Tryz.sizeOf0
 v0:=Tryz.zeroValue0
 t3:=Tryz.underlying3
 a3:=Tryz.isAgg3
 z3:=Tryz.sizeOf3
 v3:=Tryz.zeroValue3
 t4:=Tryz.underlying4
 a4:=Tryz.isAgg4
 z4:=Tryz.sizeOf4
 v4:=Tryz.zeroValue4
 t5:=Tryz.underlying5
 a5:=Tryz.isAgg5
 z5:=Tryz.sizeOf5
 v5:=Tryz.zeroValue5
 t9:=Tryz.underlying9
 a9:=Tryz.isAgg9
 z9:=Tryz.sizeOf9
 v9:=Tryz.zeroValue9
 t20:=Tryz.underlying20
 a20:=Tryz.isAgg20
 z20:=Tryz.sizeOf20
 v20:=Tryz.zeroValue20
 t21:=Tryz.underlying21
 a21:=Tryz.isAgg21
 z21:=Tryz.sizeOf21
 v21:=Tryz.zeroValue21
 t37:=Tryz.underlying22
 a37:=Tryz.isAgg22
 z37:=Tryz.sizeOf22
 v37:=Tryz.zeroValue22
 t46:=Tryz.underlying163
 a46:=Tryz.isAgg163
 z46:=Tryz.sizeOf163
 v46:=Tryz.zeroValue163
 t51:=Tryz.underlying243
 a51:=Tryz.isAgg243
 z51:=Tryz.sizeOf243
 v51:=Tryz.zeroValue243
 t70:=Tryz.underlying260
 a70:=Tryz.isAgg260
 z70:=Tryz.sizeOf260
 v70:=Tryz.zeroValue260
 t72:=Tryz.underlying262
 a72:=Tryz.isAgg262
 z72:=Tryz.sizeOf262
 v72:=Tryz.zeroValue262
 t75:=Tryz.underlying198
 a75:=Tryz.isAgg198
 z75:=Tryz.sizeOf198
 v75:=Tryz.zeroValue198
 t76:=Tryz.underlying199
 a76:=Tryz.isAgg199
 z76:=Tryz.sizeOf199
 v76:=Tryz.zeroValue199
 t105:=Tryz.underlying264
 a105:=Tryz.isAgg264
 z105:=Tryz.sizeOf264
 v105:=Tryz.zeroValue264
 t119:=Tryz.underlying304
 a119:=Tryz.isAgg304
 z119:=Tryz.sizeOf304
 t127:=Tryz.underlying284
 a127:=Tryz.isAgg284
 z127:=Tryz.sizeOf284
 v127:=Tryz.zeroValue284
 t138:=Tryz.underlying306
 a138:=Tryz.isAgg306
 z138:=Tryz.sizeOf306
 v138:=Tryz.zeroValue306
 t139:=Tryz.underlying307
 a139:=Tryz.isAgg307
 z139:=Tryz.sizeOf307
 v139:=Tryz.zeroValue307
 t146:=Tryz.underlying313
 a146:=Tryz.isAgg313
 z146:=Tryz.sizeOf313
 v146:=Tryz.zeroValue313
 t164:=Tryz.underlying301
 a164:=Tryz.isAgg301
 z164:=Tryz.sizeOf301
 v164:=Tryz.zeroValue301
 g1:=ah
 g3:=ah
 g4:=ah}
theorem vk:Builder.Extra Tryz.prog Tryz.lays155_ren:={
 sizeBuilder:=ah
 liesBuilder:=ah
 t5:=Tryz.underlying5
 a5:=Tryz.isAgg5
 z5:=Tryz.sizeOf5
 v5:=Tryz.zeroValue5
 infoByte:=ah
 cellsByte:=ah
 sizeByte:=ah
 neB5:=ag}
def Tryz.lays156_ren:Go.Shelf.Ren:=⟨λ| 156=>250|165=>294|166=>295|169=>297|240=>321|241=>322|276=>339|277=>340|n=>n,λ| 31=>23|9=>9|3=>3|4=>4|0=>0|20=>20|72=>262|76=>199|70=>260|37=>22|75=>198|127=>284|164=>301|5=>5|80=>266|n=>n,λ| n=>n⟩
theorem Bv:Go.Proofs.Lays.n156 Tryz.prog Tryz.lays156_ren:={
 mixed:=ah
 f156:=Tryz.func250.trans (aO some ah)
 f165:=Tryz.func294.trans (aO some ah)
 f166:=Tryz.func295.trans (aO some ah)
 f169:=Tryz.func297.trans (aO some ah)
 f240:=Tryz.func321.trans (aO some ah)
 f241:=Tryz.func322.trans (aO some ah)
 f276:=Tryz.func339.trans (aO some ah)
 f277:=Tryz.func340.trans (aO some ah)
 t0:=Tryz.underlying0
 a0:=Tryz.isAgg0
 z0:=Tryz.sizeOf0
 v0:=Tryz.zeroValue0
 t3:=Tryz.underlying3
 a3:=Tryz.isAgg3
 z3:=Tryz.sizeOf3
 v3:=Tryz.zeroValue3
 t4:=Tryz.underlying4
 a4:=Tryz.isAgg4
 z4:=Tryz.sizeOf4
 v4:=Tryz.zeroValue4
 t9:=Tryz.underlying9
 a9:=Tryz.isAgg9
 z9:=Tryz.sizeOf9
 v9:=Tryz.zeroValue9
 t20:=Tryz.underlying20
 a20:=Tryz.isAgg20
 z20:=Tryz.sizeOf20
 v20:=Tryz.zeroValue20
 t31:=Tryz.underlying23
 a31:=Tryz.isAgg23
 z31:=Tryz.sizeOf23
 v31:=Tryz.zeroValue23
 t37:=Tryz.underlying22
 a37:=Tryz.isAgg22
 z37:=Tryz.sizeOf22
 v37:=Tryz.zeroValue22
 t70:=Tryz.underlying260
 a70:=Tryz.isAgg260
 z70:=Tryz.sizeOf260
 v70:=Tryz.zeroValue260
 t72:=Tryz.underlying262
 a72:=Tryz.isAgg262
 z72:=Tryz.sizeOf262
 v72:=Tryz.zeroValue262
 t75:=Tryz.underlying198
 a75:=Tryz.isAgg198
 z75:=Tryz.sizeOf198
 v75:=Tryz.zeroValue198
 t76:=Tryz.underlying199
 a76:=Tryz.isAgg199
 z76:=Tryz.sizeOf199
 v76:=Tryz.zeroValue199
 t127:=Tryz.underlying284
 a127:=Tryz.isAgg284
 z127:=Tryz.sizeOf284
 v127:=Tryz.zeroValue284
 t164:=Tryz.underlying301
 a164:=Tryz.isAgg301
 z164:=Tryz.sizeOf301
 v164:=Tryz.zeroValue301 }
theorem oq:Builder.Extra Tryz.prog Tryz.lays156_ren:={
 sizeBuilder:=ah
 liesBuilder:=ah
 t5:=Tryz.underlying5
 a5:=Tryz.isAgg5
 z5:=Tryz.sizeOf5
 v5:=Tryz.zeroValue5
 infoByte:=ah
 cellsByte:=ah
 sizeByte:=ah
 neB5:=ag}
end Go.Proofs
namespace Go.Proofs.YtmccaifipoohfaaGreatDoor
open Go.AM
set_option maxRecDepth 20000
def chn(L:List Part):Prop:=∀i,∀h:i+1<L.length,L[i].kind≠L[i+1].kind
theorem XX:chn []:=λi h=>iz
theorem acE{p:Part}{L:List Part}(h:chn (p::L)):chn L/\∀h0:0<L.length,p.kind≠L[0].kind:=by
 refine⟨λi hi=>?_,λh0=>?_⟩
 ·have:=h (i+1) aJ
  exact mS
 ·have:=h 0 aJ
  exact mS
theorem wS{L:List Part}{p:Part}(h:chn L)(hp:∀h:0<L.length,(L[L.length-1]' aa).kind≠p.kind):chn (L++[p]):=by
 intro i hi;simp at hi;by_cases c:i+1<L.length
 ·rw[pS aa,pS c];exact h i c
 ·have h0:0<L.length:=by omega
  have:=hp h0;rw[pS aa,afe aa];have e:i=L.length-1:=aa;subst e;exact mS
theorem aeH{L:List Part}{i:Nat}{p:Part}(h:chn L)(hi:i<L.length)(hk:p.kind=L[i].kind):chn (L.set i p):=by
 intro j hj;simp at hj;have h1:=h j hj;rw[tc,tc]
 split
 ·rename_i e;subst e
  rw[aj aa,hk];exact h1
 ·split
  ·rename_i e;subst e;rw[hk];exact h1
  ·exact h1
def abS(L:List Part):Prop:=∀h:0<L.length,(L[L.length-1]' aa).kind=1
theorem GJ{L:List Part}{p:Part}:(((L++[p])[(L++[p]).length-1]' ab)).kind=p.kind:=ab
theorem Kd{L:List Part}{P:List Int}{D:Int}(h:chn L)(hl:abS L):chn (bH L P D):=by
 unfold bH
 split
 ·split
  ·rw[gb]
   exact wS h λh0=>by rw[hl h0];simp
  ·simpa using h
 ·have h1:chn (L++[⟨2,0,P⟩]):=wS h λh0=>by rw[hl h0];simp
  split
  ·rw[<-bf]
   exact wS h1 λh0=>by rw[GJ];simp
  ·simpa using h1
theorem abZ{L:List Part}{n:Int}(h:chn L):chn (eE L n)/\abS (eE L n):=by
 unfold eE
 split
 ·rename_i h0
  split
  ·rename_i hk
   refine⟨aeH h aa hk.symm,λh1=>?_⟩;simp
  ·rename_i hk
   refine⟨wS h λ_=>hk,λh1=>?_⟩;rw[GJ]
 ·exact⟨wS (L:=[]) XX (λh=>iz),λ_=>rfl⟩
theorem JW(o:List Part):∀(i:Nat),i<=o.length->chn (cq (o.take i)).1/\abS (cq (o.take i)).1
 | 0, _ => by
   simp only[cq,adi,List.foldl_nil];exact⟨XX,λh=>iz⟩
 | i + 1, hi => by
   obtain⟨h1,h2⟩:=JW o i aa;rw[nz (show i<o.length from aa)];generalize cq (o.take i)=s at h1 h2;unfold fC
   split
   ·exact⟨h1,h2⟩
   ·split
    ·exact⟨h1,h2⟩
    ·split
     ·exact abZ (Kd h1 h2)
     ·exact⟨h1,h2⟩
theorem QU(o:List Part):chn (normal o):=by
 obtain⟨h1,h2⟩:=JW o o.length (aw _);rw[dH]at h1 h2;exact Kd h1 h2
def Pj:At->List Part->List Part
 | .k,[]=>[⟨1,1,[]⟩]
 | .k,p::l=>if p.kind=1 then⟨1,p.n+1,[]⟩::l else⟨1,1,[]⟩::p::l
 | .d,[]=>[⟨3,1,[]⟩]
 | .d,p::l=>if p.kind=3 then⟨3,p.n+1,[]⟩::l else⟨3,1,[]⟩::p::l
 | .p c,[]=>[⟨2,0,[c]⟩]
 | .p c,p::l=>if p.kind=2 then⟨2,0,c::p.signs⟩::l else⟨2,0,[c]⟩::p::l
def grp(l:List At):List Part:=l.foldr Pj []
theorem ack{L:List Part}(h:∀h0:0<L.length,L[0].kind≠1):∀n:Nat,(List.replicate (n+1) At.k).foldr Pj L=⟨1,(n:Int)+1,[]⟩::L
 | 0 => by
   exact LQ
 | n + 1 => by
   rw[bo,aaf,ack h n];simp[Pj]
theorem acl{L:List Part}(h:∀h0:0<L.length,L[0].kind≠3):∀n:Nat,(List.replicate (n+1) At.d).foldr Pj L=⟨3,(n:Int)+1,[]⟩::L
 | 0 => by
   exact LQ
 | n + 1 => by
   rw[bo,aaf,acl h n];simp[Pj]
theorem acj{L:List Part}(h:∀h0:0<L.length,L[0].kind≠2):∀(Q:List Int) (c:Int),((c::Q).map At.p).foldr Pj L=⟨2,0,c::Q⟩::L
 | [], c => by
   exact LQ
 | d :: Q, c => by
   rw[bR,aaf,acj h Q d];simp[Pj]
theorem Kc:∀{L:List Part},(∀q∈L,Shp q)->chn L->grp (aZ L)=L
 | [],_,_=>rfl
 | p :: L, hs, hc => by
   obtain⟨h1,h2⟩:=acE hc;have ih:=Kc (λq hq=>hs q (aD _ hq)) h1;have hp:=hs p (aN ..);unfold grp at ih⊢;rw[aZ,List.foldr_append,ih];have hpos:=hp.pos;have hn:=hp.n;unfold ats;obtain⟨kd,n,sg⟩:=p;by_cases k2:kd=2
   ·subst k2
    obtain⟨e1,-⟩:=hp.put rfl;simp only at e1;subst e1;simp only[dF]
    cases sg with
    |nil=>simp[psz]at hpos
    |cons c Q=>exact acj (λh0=>Lj) Q c
   ·have e1:=hp.run k2
    simp only at e1 hn;subst e1;have hz:psz ⟨kd,n,[]⟩=n.toNat:=by simp[psz]
    rw[hz]at hpos;obtain⟨m,hm⟩:∃m,n.toNat=m+1:=⟨n.toNat-1,aa⟩;have hnm:n=(m:Int)+1:=aa;rw[hz,hm,aj k2];by_cases k3:kd=3
    ·subst k3
     simp only[dF];rw[acl (λh0=>Lj),hnm]
    ·have k1:kd=1:=by rcases hp.k with h|h|h<;>simp only at h<;>omega
     subst k1;rw[aj ab,ack (λh0=>Lj),hnm]
theorem JX:∀(l:List At) (P:List Int) (n:Nat),nA [] 0 (nA P n l)=nA P n l
 | [], P, n => by
   have h2:=XB n P 0 [];rw[bg,eC]at h2;rw[nA,Xz,gb,h2,nA]
 | .k :: l, P, n => by
   rw[nA,Xz,XB,gb,eC,nA,JX l]
 | .p c::l,P,n=>by rw[nA,JX l]
 | .d::l,P,n=>by rw[nA,JX l]
theorem oN{o:List Part}(h:∀p∈o,aS p):normal o=grp (nY (aZ o)):=by
 rw[<-jv h,Kc (uK h) (QU o)]
theorem IL{o:List Part}(h:cg o):normal (normal o)=normal o:=by
 have h2:=(tu h).1;rw[oN h2.1.1,jv h.1.1,oN h.1.1];unfold nY;rw[JX]
theorem IN{o:List Part}(h:cg o):cu (normal o):=by
 have h2:=(tu h).1;refine⟨h2,?_⟩;unfold cS;rw[ai h2,IL h]
theorem iX{o:List Part}(h:cg o):cu (cS o):=by
 have e:cS o=normal o:=by unfold cS;rw[ai h]
 rw[e];exact IN h
theorem Gl:∀(l:List (List Part)) (v v':List Part),cu v->lH l v=some v'->cu v'
 | [],v,v',h,e=>by simp only[lH,cR]at e;exact e ▸ h
 | a :: l, v, v', h, e => by
   rw[lH]at e
   split at e
   ·rename_i ht
    refine Gl l _ v' ?_ e;unfold aI at ht⊢
    split at ht
    ·rename_i h1
     split at ht
     ·rename_i h2
      rw[ai h1,ai h2];have hi:=DW h1.1 h1.2.1 h1.2.2;have hk:=afi hi;simp only;refine⟨h2.2,?_⟩;unfold cS;rw[ai h2.2,oN h2.2.1.1,jv hk.2];unfold nY;rw[JX];exact(oN hk.2).symm
     ·simp at ht
    ·simp at ht
   ·cases e
theorem Rw{l:List (List Part)}{b:List Part}(h:(mQ l b).2=true):cu (mQ l b).1:=by
 unfold mQ at h⊢
 split at h
 ·rename_i hb
  rw[ai hb]
  cases e:lH l (cS b)with
  |none=>rw[e]at h;simp at h
  |some v=>exact Gl l _ v (iX hb) e
 ·simp at h
def mE(x:UInt8):Prop:=48<=x.toNat/\x.toNat<=57
def qd(a:Nat)(l:List UInt8):Nat:=l.foldl (λa x=>a*10+(x.toNat-48)) a
def sU(l:List UInt8):Nat:=qd 0 l
theorem Km(l:List UInt8)(x:UInt8):sU (l++[x])=sU l*10+(x.toNat-48):=by simp[sU,qd]
theorem Fg{m:Nat}(h:m<10):(UInt8.ofNat (48+m)).toNat=48+m:=aJ
theorem Nj:∀m:Nat,∀x∈Lib.decDigits m,mE x:=by
 intro m
 induction m using Nat.strongRecOn with
 | ind m ih =>
   intro x hx;by_cases h:m<10
   ·rw[u9 h]at hx
    rw[eU.1 hx];unfold mE;rw[Fg h];omega
   ·rw[tL h]at hx
    rcases aG.1 hx with hx|hx
    ·exact ih (m / 10) aa x hx
    ·rw[eU.1 hx]
     have h2:m % 10<10:=Du _ aa;unfold mE;rw[Fg h2];omega
theorem wL:∀m:Nat,sU (Lib.decDigits m)=m:=by
 intro m
 induction m using Nat.strongRecOn with
 | ind m ih =>
   by_cases h:m<10
   ·rw[u9 h]
    show 0*10+((UInt8.ofNat (48+m)).toNat-48)=m
    rw[Fg h];omega
   ·rw[tL h,Km,ih (m / 10) aa,Fg (Du _ aa)]
    omega
theorem Hm:∀(k m:Nat),m<10^(k+1)->(Lib.decDigits m).length<=k+1:=by
 intro k
 induction k with
 |zero=>intro m h;rw[u9 aa];simp
 | succ k ih =>
   intro m h;by_cases h9:m<10
   ·rw[u9 h9];simp
   ·rw[tL h9]
    have:=ih (m / 10) (by rw[Nat.pow_succ]at h;omega);simp;omega
theorem Ni(m:Nat):Lib.decDigits m≠[]:=by
 by_cases h:m<10
 ·rw[u9 h];simp
 ·rw[tL h];simp
theorem pJ{n:Int}(h:0<=n/\n<=1000000000):aW n=Lib.decDigits n.toNat:=by unfold aW;rw[ai h]
theorem CW(n:Int):∀x∈aW n,mE x:=by
 unfold aW
 split
 ·exact Nj _
 ·simp
theorem oM(n:Int){c:UInt8}(hc:¬mE c):c∉aW n:=λh=>hc (CW n c h)
open Classical in
noncomputable def bm(l:List UInt8):Int×Bool:=if ∃m:Nat,m<=1000000000/\Lib.decDigits m=l then((sU l:Int),true)else(0,false)
theorem eu{n:Int}(h:0<=n/\n<=1000000000):bm (aW n)=(n,true):=by
 rw[pJ h];unfold bm;rw[ai ⟨n.toNat,aa,rfl⟩,wL]
 congr 1
 omega
theorem CA{l:List UInt8}(h:(bm l).2=true):(0<=(bm l).1/\(bm l).1<=1000000000)/\aW (bm l).1=l:=by
 unfold bm at h⊢;by_cases hm:∃m:Nat,m<=1000000000/\Lib.decDigits m=l
 ·rw[ai hm]
  obtain⟨m,h1,rfl⟩:=hm;rw[wL];refine⟨aa,?_⟩;rw[pJ aa,bp]
 ·rw[aj hm]at h
  cases h
theorem qZ{l:List UInt8}(h:∀m:Nat,m<=1000000000->Lib.decDigits m≠l):bm l=(0,false):=by
 unfold bm;rw[aj]
 rintro⟨m,h1,h2⟩
 exact h m h1 h2
theorem NZ{l:List UInt8}{x:UInt8}(hx:x∈l)(hd:¬mE x):bm l=(0,false):=qZ λm _ e=>hd (Nj m x (by rw[e];exact hx))
theorem CB{l:List UInt8}(h:l.length=0\/10<l.length):bm l=(0,false):=qZ λm hm e=>by
 subst e;rcases h with h|h
 ·exact Ni m (List.length_eq_zero_iff.1 h)
 ·have:=Hm 9 m aa;omega
theorem FI{l:List UInt8}{v:Int}(h:aW v=l)(hl:l≠[]):bm l=(v,true):=by
 by_cases hv:0<=v/\v<=1000000000
 ·rw[<-h,eu hv]
 ·unfold aW at h;rw[aj hv]at h;exact absurd h.symm hl
theorem Iu{l:List UInt8}(hl:l≠[]):(aW (sU l)=l->bm l=((sU l:Int),true))/\(¬aW (sU l)=l->bm l=(0,false)):=
 ⟨λh=>FI h hl,λh=>qZ λm hm e=>h (by subst e;rw[wL,pJ aa,bp])⟩
theorem JO:∀(l:List UInt8) (a:Nat),(∀x∈l,mE x)->qd a l<=100000000000->Lib.parseUint10 a l=.ok (qd a l)
 | [],a,_,_=>by simp[Lib.parseUint10,qd]
 | x :: l, a, h, hb => by
   have hx:48<=x.toNat/\x.toNat<=57:=h x ab;have e:qd a (x::l)=qd (a*10+(x.toNat-48)) l:=by simp[qd]
   rw[e]at hb⊢
   have hge:∀(l:List UInt8) (a:Nat),a<=qd a l:=by
    intro l
    induction l with
    |nil=>intro a;simp[qd]
    |cons y l ih=>intro a;have:=ih (a*10+(y.toNat-48));simp only[qd,nf]at this⊢;omega
   have:=hge l (a*10+(x.toNat-48));unfold Lib.parseUint10;rw[ai hx,aj aa,aj aa];exact JO l _ (λy hy=>h y (by simp[hy])) hb
theorem PU{m:Nat}(h:m<=1000000000):Lib.atoiAll (Lib.decDigits m)=.ok (m:Int):=by
 have hd:=Nj m
 have hp:Lib.parseMag (Lib.decDigits m)=.ok m:=by
  unfold Lib.parseMag;rw[aj (Ni m)];have e:=wL m;unfold sU at e;rw[JO _ 0 hd (by rw[e];omega),e]
 cases hl:Lib.decDigits m with
 |nil=>exact absurd hl (Ni m)
 | cons c r =>
   rw[hl]at hp hd;have hc:=hd c ab;unfold mE at hc;rw[Lib.atoiAll_plain c r aa aa,hp];unfold Lib.signless;simp;omega
theorem KZ{l:List UInt8}{v:Int}(h:Lib.atoiAll l=.ok v):(aW v=l->bm l=(v,true))/\(¬aW v=l->bm l=(0,false)):=by
 refine⟨λe=>FI e (λe=>by subst e;cases h),λe=>qZ λm hm h2=>?_⟩;subst h2;rw[PU hm]at h
 cases h
 exact e (by rw[pJ aa,bp])
theorem zF{l:List UInt8}(h:∀v,Lib.atoiAll l≠.ok v):bm l=(0,false):=qZ λm hm e=>h m (by rw[<-e,PU hm])
def fI{α β:Type}(f:α->Option β):List α->Option (List β)
 | []=>some []
 | x :: l => match f x with
   |none=>none
   |some y=>(fI f l).map (y :: ·)
theorem xN{α β:Type}{f:α->Option β}{W:List α}{i:Nat}(h:i<W.length):fI f (W.drop i)=(f W[i]).bind λy=>(fI f (W.drop (i+1))).map (y :: ·):=by
 rw[bj h,fI]
 cases f W[i]<;>rfl
theorem tv{α β:Type}{f:α->Option β}:∀{W:List α}{l:List β},fI f W=some l->W.length=l.length/\∀i,∀h:i<W.length,∀h':i<l.length,f W[i]=some l[i]
 | [],l,h=>by simp[fI]at h;subst h;simp
 | x :: W, l, h => by
   unfold fI at h
   cases hx:f x with
   |none=>rw[hx]at h;cases h
   | some y =>
     rw[hx]at h
     cases hW:fI f W with
     |none=>rw[hW]at h;cases h
     | some r =>
       rw[hW]at h
       cases h
       obtain⟨h1,h2⟩:=tv hW;refine⟨nR,λi hi hi'=>?_⟩
       cases i with
       |zero=>simpa using hx
       |succ i=>simpa using h2 i fR (by simpa using hi')
theorem wk{α β:Type}{f:α->Option β}{g:β->α}:∀{l:List β},(∀y∈l,f (g y)=some y)->fI f (l.map g)=some l
 | [],_=>rfl
 | y :: l, h => by
   rw[bR,fI,h y ab,wk (λz hz=>h z (by simp[hz]))];rfl
def lU(l:List Int):List UInt8:=Lib.join (l.map aW) [46]
open Classical in
noncomputable def dC(l:List Int):List UInt8:=if dQ l then(if l=[]then [45]else lU l)else []
open Classical in
noncomputable def kA(x:List UInt8):Option Int:=if(bm x).2=true then some (bm x).1 else none
open Classical in
noncomputable def jr(x:List UInt8):Option Int:=if(bm x).2=true/\jM (bm x).1 then some (bm x).1 else none
noncomputable def iB(s:List UInt8):Option (List Int):=fI kA (bc 46 s)
noncomputable def eP(s:List UInt8):Option (List Int):=if s=[45]then some []else fI jr (bc 46 s)
def uF{α:Type}:Option (List α)->List α×Bool
 |some l=>(l,true)
 |none=>([],false)
noncomputable def dW(s:List UInt8):List Int×Bool:=uF (eP s)
theorem amq(n:Int):(46:UInt8)∉aW n:=oM n xh
theorem ahd(n:Int):(32:UInt8)∉aW n:=oM n xh
theorem pB{l:List Int}(h:l≠[]):bc 46 (lU l)=l.map aW:=pC 46 _ nS (λw hw=>by
 obtain⟨n,-,rfl⟩:=cH.1 hw;exact amq n)
theorem uz{n:Int}(h:jM n):0<=n/\n<=1000000000:=by unfold jM at h;omega
theorem Au{l:List Int}(h:∀n∈l,0<=n/\n<=1000000000)(hl:l≠[]):iB (lU l)=some l:=by
 unfold iB;rw[pB hl,wk λn hn=>by unfold kA;rw[eu (h n hn)];simp]
theorem Oh{l:List Int}(hl:l≠[]):lU l≠[45]:=λe=>by
 have h:=pB hl;rw[e]at h
 cases l with
 |nil=>exact hl rfl
 | cons n l =>
   have h1:bc 46 [45]=[[45]]:=ag;rw[h1]at h;simp at h;have:=CW n 45 (by rw[<-h.1];simp);unfold mE at this;exact absurd this ag
theorem yv{l:List Int}(h:dQ l):dW (dC l)=(l,true):=by
 unfold dW dC eP;rw[ai h];by_cases hl:l=[]
 ·rw[ai hl,ai rfl,hl]
  rfl
 ·rw[aj hl,aj (Oh hl),pB hl,wk λn hn=>by
   unfold jr;rw[eu (uz (h n hn)),ai ⟨rfl,h n hn⟩]]
  rfl
theorem abM{W:List (List UInt8)}{l:List Int}{f:List UInt8->Option Int}(hf:∀x y,f x=some y->(bm x).2=true/\y=(bm x).1)(h:fI f W=some l):l.map aW=W:=by
 obtain⟨h1,h2⟩:=tv h
 apply mc
 ·simp[h1]
 ·intro i hi hi'
  have:=hf _ _ (h2 i hi' fR);simp only[oG];rw[this.2];exact(CA this.1).2
theorem vW{x:List UInt8}{y:Int}(h:jr x=some y):(bm x).2=true/\y=(bm x).1/\jM y:=by
 unfold jr at h
 split at h
 ·rename_i hc;have e:=jy h;rw[<-e];exact⟨hc.1,rfl,hc.2⟩
 ·exact absurd h ab
theorem FF{s:List UInt8}{l:List Int}(h:eP s=some l):dQ l/\dC l=s:=by
 unfold eP at h;by_cases hs:s=[45]
 ·rw[ai hs]at h
  cases h
  have h0:dQ []:=λn hn=>absurd hn j7
  refine⟨h0,?_⟩;unfold dC;rw[ai h0,ai rfl,hs]
 ·rw[aj hs]at h
  have hW:=abM (λx y hxy=>⟨(vW hxy).1,(vW hxy).2.1⟩) h
  have hok:dQ l:=λn hn=>by
   obtain⟨h1,h2⟩:=tv h;obtain⟨i,hi,rfl⟩:=bC hn;exact(vW (h2 i aa hi)).2.2
  have hl:l≠[]:=λe=>ld 46 s (by rw[<-hW,e];rfl)
  refine⟨hok,?_⟩;unfold dC;rw[ai hok,aj hl];unfold lU;rw[hW,GM]
def bE(p:Part):List UInt8:=if p.kind=1 then 107::aW p.n else if p.kind=2 then 112::lU p.signs else 100::aW p.n
open Classical in
noncomputable def cJ(o:List Part):List UInt8:=if cg o then(if cS o=[]then [45]else Lib.join ((cS o).map bE) [32])else []
noncomputable def kz(x:List UInt8):Option Part:=match x with
 | []=>none
 |c::y=>if y=[]then none else if c=112 then(eP y).map (λl=>⟨2,0,l⟩)else(kA y).map λn=>⟨if c=107 then 1 else if c=100 then 3 else 0,n,[]⟩
noncomputable def mK(x:List UInt8):Option Part:=match x with
 | []=>none
 |c::y=>(iB y).map λl=>if c=107 then⟨1,l.getD 0 0,[]⟩else if c=100 then⟨3,l.getD 0 0,[]⟩else⟨2,0,l⟩
theorem GE{α β:Type}{f:α->Option β}{W:List α}{l:List β}(h:fI f W=some l):l.length=W.length:=(tv h).1.symm
theorem Ov{y:List UInt8}{l:List Int}(h:iB y=some l):0<l.length:=by
 have:=GE h;have:=ld 46 y;have:0<(bc 46 y).length:=ca.2 this;omega
theorem OR{α β:Type}{f g:α->Option β}{P:β->Prop}(p1:∀x y,f x=some y->P y->g x=some y)(p2:∀x y,f x=some y->¬P y->g x=none)(p3:∀x,f x=none->g x=none) :
 ∀W:List α,(∀l,fI f W=some l->(∀y∈l,P y)->fI g W=some l)/\(∀l,fI f W=some l->¬(∀y∈l,P y)->fI g W=none)/\(fI f W=none->fI g W=none)
 | [] => by
   refine⟨λl h _=>by simpa only[fI]using h,λl h hn=>?_,λh=>by simp[fI]at h⟩;simp only[fI,cR]at h;subst h;exact absurd (λy hy=>absurd hy j7) hn
 | x :: W => by
   obtain⟨h1,h2,h3⟩:=OR p1 p2 p3 W
   cases e:f x with
   |none=>simp[fI,e,p3 x e]
   | some y =>
     by_cases hs:P y
     ·simp only[fI,e,p1 x y e hs]
      cases hW:fI f W with
      | none =>
        rw[h3 hW];refine⟨λl h=>iz,λl h=>iz,λ_=>rfl⟩
      | some r =>
        refine⟨λl h ho=>?_,λl h hn=>?_,λh=>iz⟩
        ·simp only[eM,cR]at h
         subst h;rw[h1 r hW (λn hn=>ho n (by simp[hn]))];rfl
        ·simp only[eM,cR]at h
         subst h;rw[h2 r hW (λhr=>hn λn hm=>(aQ.1 hm).elim (λe=>e ▸ hs) (λhm=>hr n hm))];rfl
     ·simp only[fI,e,p2 x y e hs]
      refine⟨λl h ho=>?_,λl h hn=>True.intro,λh=>True.intro⟩
      cases hW:fI f W with
      |none=>rw[hW]at h;simp at h
      | some r =>
        rw[hW]at h;simp only[eM,cR]at h;subst h;exact absurd (ho y (aN ..)) hs
theorem Gt{x:List UInt8}{y:Int}(h:kA x=some y):(bm x).2=true/\y=(bm x).1:=by
 unfold kA at h
 split at h
 ·rename_i hc;exact⟨hc,(jy h).symm⟩
 ·exact absurd h ab
theorem QQ{x:List UInt8}(h:kA x=none):¬(bm x).2=true:=λhc=>by
 unfold kA at h;rw[ai hc]at h;exact absurd h ab
theorem YT(W:List (List UInt8)):(∀l,fI kA W=some l->dQ l->fI jr W=some l)/\(∀l,fI kA W=some l->¬dQ l->fI jr W=none)/\(fI kA W=none->fI jr W=none):=
 OR (P:=jM) (λx y h hp=>by
  obtain⟨h1,h2⟩:=Gt h;rw[h2]at hp⊢;unfold jr;rw[ai ⟨h1,hp⟩]) (λx y h hp=>by
  obtain⟨h1,h2⟩:=Gt h;rw[h2]at hp;unfold jr;rw[aj λh=>hp h.2]) (λx h=>by
  unfold jr;rw[aj λhc=>QQ h hc.1]) W
theorem It{s:List UInt8}(hs:s≠[45]):(∀l,iB s=some l->dQ l->dW s=(l,true))/\(∀l,iB s=some l->¬dQ l->dW s=([],false))/\(iB s=none->dW s=([],false)):=by
 obtain⟨h1,h2,h3⟩:=YT (bc 46 s);unfold iB dW eP;rw[aj hs];exact⟨λl h ho=>by rw[h1 l h ho];rfl,λl h ho=>by rw[h2 l h ho];rfl,λh=>by rw[h3 h];rfl⟩
theorem zE:dW [45]=([],true):=by unfold dW eP;rw[ai rfl];rfl
theorem AD{o:List Part}(h:cu o):∀p∈o,Shp p/\p.n<=200:=by
 have e:cS o=normal o:=by unfold cS;rw[ai h.1]
 intro p hp;have h1:=h.1.1.1 p hp;refine⟨?_,h1.bounds.2.2.1⟩;rw[<-h.2,e]at hp;exact uK h.1.1.1 p hp
theorem Xi{p:Part}(h:Shp p)(hn:p.n<=200):0<=p.n/\p.n<=1000000000:=by have:=h.n;omega
theorem E4{p:Part}(h:Shp p)(h2:p.kind=2):p.signs≠[]:=λe=>by
 have:=h.pos;have h0:=(h.put h2).1;unfold psz at this;simp[e,h0]at this
theorem uy{l:List Int}(h:dQ l)(hl:l≠[]):dC l=lU l:=by unfold dC;rw[ai h,aj hl]
theorem FG{l:List Int}(h:dQ l)(hl:l≠[]):eP (lU l)=some l:=by
 unfold eP
 rw [aj (Oh hl), pB hl, wk λn hn => by
     unfold jr;rw[eu (uz (h n hn)),ai ⟨rfl,h n hn⟩]]
theorem Gs{n:Int}(h:0<=n/\n<=1000000000):aW n≠[]:=by rw[pJ h];exact Ni _
theorem Yq{l:List Int}(h:∀n∈l,0<=n/\n<=1000000000)(hl:l≠[]):lU l≠[]:=λe=>by
 have h':=pB hl;rw[e]at h'
 cases l with
 |nil=>exact hl rfl
 | cons n l =>
   have h1:bc 46 []=[[]]:=rfl;rw[h1]at h';simp at h';exact Gs (h n ab) h'.1
theorem YM{n:Int}(h:0<=n/\n<=1000000000):kA (aW n)=some n:=by unfold kA;rw[eu h];simp
theorem Ou{n:Int}(h:0<=n/\n<=1000000000):iB (aW n)=some [n]:=by
 have e:aW n=lU [n]:=by unfold lU;rw[NP,kr]
 rw[e];exact Au (λm hm=>by rw[eU.1 hm];exact h) ab
theorem ue{p:Part}(h:Shp p)(hn:p.n<=200):kz (bE p)=some p:=by
 obtain⟨k,n,s⟩:=p;have h0:=Xi h hn;rcases h.k with hk|hk|hk<;>simp only at hk h0<;>subst hk
 ·exact T3
 ·have hp:=h.put rfl
  simp only at hp;have hs:s≠[]:=E4 h rfl;have hn0:n=0:=hp.1;subst hn0;have h1:=Yq (λm hm=>uz (hp.2 m hm)) hs;simp[bE,kz,h1,FG hp.2 hs]
 ·exact T3
theorem Fy{p:Part}(h:Shp p)(hn:p.n<=200):mK (bE p)=some p:=by
 obtain⟨k,n,s⟩:=p;have h0:=Xi h hn;rcases h.k with hk|hk|hk<;>simp only at hk h0<;>subst hk
 ·exact Tj
 ·have hp:=h.put rfl
  simp only at hp;have hs:s≠[]:=E4 h rfl;have hn0:n=0:=hp.1;subst hn0;simp[bE,mK,Au (λm hm=>uz (hp.2 m hm)) hs]
 ·exact Tj
theorem wq{c:UInt8}{sep:UInt8}:∀{l:List (List UInt8)},c≠sep->(∀w∈l,c∉w)->c∉Lib.join l [sep]
 | [],_,_=>D7
 | [w],_,h=>by rw[kr];exact h w ab
 | w :: v :: r, hc, h => by
   have e:Lib.join (w::v::r) [sep]=w++sep::Lib.join (v::r) [sep]:=by
    exact LA
   rw[e];intro hm;rcases aG.1 hm with hm|hm
   ·exact h w ab hm
   ·rcases aQ.1 hm with hm|hm
    ·exact hc hm
    ·exact wq (l:=v::r) hc (λu hu=>h u (by simp[hu])) hm
theorem Og{c:UInt8}(hc:¬mE c)(h46:c≠46)(l:List Int):c∉lU l:=wq h46 λw hw=>by
 obtain⟨n,-,rfl⟩:=cH.1 hw;exact oM n hc
theorem wc{c:UInt8}(hc:¬mE c)(h46:c≠46)(h1:c≠107)(h2:c≠112)(h3:c≠100)(p:Part):c∉bE p:=by
 unfold bE
 split
 ·simp[h1,oM p.n hc]
 ·split
  ·simp[h2,Og hc h46]
  ·simp[h3,oM p.n hc]
theorem ag3(p:Part):(32:UInt8)∉bE p:=wc xh ag ag ag ag p
theorem ag2(p:Part):(44:UInt8)∉bE p:=wc xh ag ag ag ag p
theorem adV(p:Part):bE p≠[]:=by unfold bE;(repeat' split)<;>simp
theorem wg{o:List Part}(h:cu o):cJ o=if o=[]then [45]else Lib.join (o.map bE) [32]:=by
 unfold cJ;rw[ai h.1,h.2]
theorem IK{o:List Part}(h:cg o):cJ (cS o)=cJ o:=by
 have h1:=iX h;rw[wg h1];unfold cJ;rw[ai h]
theorem adW{p:Part}{l:List UInt8}:bE p≠45::l:=by
 unfold bE
 (repeat' split)<;>simp
theorem uI{o:List Part}(h:cu o)(ho:o≠[]):cJ o≠[45]/\bc 32 (cJ o)=o.map bE:=by
 have e:cJ o=Lib.join (o.map bE) [32]:=by rw[wg h,aj ho]
 have hs:bc 32 (cJ o)=o.map bE:=by
  rw[e]
  exact pC 32 _ (by simpa using ho) (λw hw=>by
   obtain⟨p,-,rfl⟩:=cH.1 hw;exact ag3 p)
 refine⟨λe2=>?_,hs⟩;rw[e2]at hs;have h1:bc 32 [45]=[[45]]:=ag;rw[h1]at hs
 cases o with
 |nil=>exact ho rfl
 | cons p o =>
   simp at hs;exact adW hs.1.symm
open Classical in
noncomputable def eg(s:List UInt8):List Part×Bool:=if h:∃o,cu o/\cJ o=s then(h.choose,true)else([],false)
theorem uH{o:List Part}{f:List UInt8->Option Part}(hf:∀p,Shp p->p.n<=200->f (bE p)=some p)(h:cu o)(ho:o≠[]):fI f (bc 32 (cJ o))=some o:=by
 rw[(uI h ho).2,wk λp hp=>hf p (AD h p hp).1 (AD h p hp).2]
theorem oP:cu []:=by
 have hp:gk []:=⟨ab,ab⟩;have:cg []:=⟨hp,by simp[bO,eI,hp,dN],by simp[fH,eI,hp,dN]⟩;refine⟨this,?_⟩;unfold cS;rw[ai this];rfl
theorem uJ:cJ []=[45]:=by rw[wg oP,ai rfl]
theorem QM{a b:List Part}(ha:cu a)(hb:cu b)(h:cJ a=cJ b):a=b:=by
 by_cases h1:a=[]
 ·subst h1
  by_cases h2:b=[]
  ·exact h2.symm
  ·rw[uJ]at h;exact absurd h.symm (uI hb h2).1
 ·by_cases h2:b=[]
  ·subst h2;rw[uJ]at h;exact absurd h (uI ha h1).1
  ·have e1:=uH (f:=kz) (λp h hn=>ue h hn) ha h1
   rw[h,uH (f:=kz) (λp h hn=>ue h hn) hb h2]at e1;exact(jy e1).symm
theorem oJ{o:List Part}(h:cu o):eg (cJ o)=(o,true):=by
 unfold eg;have hx:∃o',cu o'/\cJ o'=cJ o:=⟨o,h,rfl⟩;rw[dif_pos hx];rw[QM hx.choose_spec.1 h hx.choose_spec.2]
theorem BF{s:List UInt8}(h:∀o,cu o->cJ o≠s):eg s=([],false):=by
 unfold eg;rw[Qk]
 rintro⟨o,h1,h2⟩
 exact h o h1 h2
theorem FH:eg [45]=([],true):=by
 have:=oJ oP
 rwa[uJ]at this
theorem vM(s:List UInt8):cu (eg s).1:=by
 unfold eg
 split
 ·rename_i h;exact h.choose_spec.1
 ·exact oP
theorem Fw{s:List UInt8}{o:List Part}{f:List UInt8->Option Part}(hf:∀p,Shp p->p.n<=200->f (bE p)=some p)(hs:s≠[45])(h:cu o)(e:cJ o=s):fI f (bc 32 s)=some o:=by
 subst e;refine uH hf h λe=>hs ?_
 rw[e,uJ]
theorem Cz{s:List UInt8}{f:List UInt8->Option Part}(hf:∀p,Shp p->p.n<=200->f (bE p)=some p)(hs:s≠[45])(h:fI f (bc 32 s)=none):eg s=([],false):=
 BF λo ho e=>by rw[Fw hf hs ho e]at h;cases h
theorem aa1{s:List UInt8}{out:List Part}(hs:s≠[45])(h:fI kz (bc 32 s)=some out):(cu out/\cJ out=s->eg s=(out,true))/\(¬(cu out/\cJ out=s)->eg s=([],false)):=
 ⟨λ⟨h1,h2⟩=>by rw[<-h2,oJ h1],λhn=>BF λo ho e=>hn (by
  rw[Fw (λp h hn=>ue h hn) hs ho e]at h
  cases h
  exact⟨ho,e⟩)⟩
theorem aa2{s:List UInt8}{out:List Part}(hs:s≠[45])(h:fI mK (bc 32 s)=some out):(cg out/\cJ out=s->eg s=(cS out,true))/\(¬(cg out/\cJ out=s)->eg s=([],false)):=
 ⟨λ⟨h1,h2⟩=>by rw[<-h2,<-IK h1,oJ (iX h1)],λhn=>BF λo ho e=>hn (by
  rw[Fw (λp h hn=>Fy h hn) hs ho e]at h
  cases h
  exact⟨ho.1,e⟩)⟩
open Go.AM Go.RowKit
def Ju(ev:Value):Prop:=ev=.nilIface\/∃t p,ev=.iface t p
def aaa(w:World):Prop:=(∃ev,w.cell? ⟨Tryz.laysC172_ren.g 15,0,none⟩=some ev/\Ju ev)/\(∃ev,w.cell? ⟨Tryz.laysC172_ren.g 16,0,none⟩=some ev/\Ju ev)
def LT(w:World):Prop:=
 Lib.TabIs Tryz.prog w "internal/strconv.uint64pow10" .u64 Lib.pow10Tab ∧ (∃ m, w.cell? ⟨0, 0, none⟩ = some (.int .i64 m)) ∧ aaa w
theorem Ck{w w':World}(h:BelowF (λc=>c<w.heap.size) w w'){a:Addr}{v:Value}(hc:w.cell? a=some v):w'.cell? a=some v:=by
 unfold World.cell? at hc⊢
 cases hb:w.heap[a.block]? with
 |none=>rw[hb]at hc;cases hc
 |some o=>rw[h.block _ (gd hb),hb];rw[hb]at hc;exact hc
theorem aap{P:Program}{w w':World}(h:BelowF (λc=>c<w.heap.size) w w'){n:String}{cs:Array Value}(hc:w.var? P n=some cs):w'.var? P n=some cs:=by
 unfold World.var? at hc⊢
 cases hg:P.globalNamed n with
 |none=>rw[hg]at hc;cases hc
 | some g =>
   rw[hg]at hc;simp only[Ya]at hc⊢
   cases hb:w.heap[g]? with
   |none=>rw[hb]at hc;cases hc
   |some o=>rw[h.block _ (gd hb),hb];rw[hb]at hc;exact hc
theorem aaa.stay:LSt aaa:=λ_w _w' h ⟨⟨e1,h3,h4⟩,⟨e2,h5,h6⟩⟩=>⟨⟨e1,Ck h h3,h4⟩,⟨e2,Ck h h5,h6⟩⟩
theorem LT.stay:LSt LT:=λw w' h ⟨h1,⟨m,h2⟩,h3⟩=>⟨aap h h1,⟨m,Ck h h2⟩,aaa.stay w w' h h3⟩
theorem aeP{xs:Array Value}(h:xs.size=1):∃a,xs = #[a]:=by
 obtain⟨l⟩:=xs
 match l,h with
 | [a],_=>exact⟨a,rfl⟩
theorem ahV{xs:Array Value}(h:xs.size=2):∃a b,xs = #[a,b]:=by
 obtain⟨l⟩:=xs
 match l,h with
 | [a,b],_=>exact⟨a,b,rfl⟩
theorem amE{xs:Array Value}(h:xs.size=3):∃a b c,xs = #[a,b,c]:=by
 obtain⟨l⟩:=xs
 match l,h with
 | [a,b,c],_=>exact⟨a,b,c,rfl⟩
theorem ME{w:World}{v u:Value}(h:RdV w v (.c (.v u))):v=u:=by cases h;rfl
theorem GO(c:UInt8):∀(a b:List UInt8),c∉a->Lib.index (a++c::b) [c]=(a.length:Int)
 | [],b,_=>by simp[Lib.index,List.isPrefixOf]
 | x :: a, b, h => by
   have hx:c≠x:=λe=>h (by simp[e])
   have ih:=GO c a b (λe=>h (by simp[e]));have hp:([c]:List UInt8).isPrefixOf (x::(a++c::b))=false:=by simp[List.isPrefixOf,hx]
   rw[bU,Lib.index,hp,ih];have hn:¬(((a.length:Int) == -1)=true):=by rw[kt];omega
   simp only[mJ,dO,aj hn,bu];omega
theorem Pp(c:UInt8)(l:List UInt8)(h:c∈l):∃a b,l=a++c::b/\c∉a:=by
 induction l with
 |nil=>simp at h
 | cons x l ih =>
   by_cases hx:x=c
   ·exact⟨[],l,by simp[hx],ab⟩
   ·obtain⟨a,b,h1,h2⟩:=ih (by rcases aQ.1 h with h|h;exact absurd h.symm hx;exact h)
    exact⟨x::a,b,nR,λe=>by rcases aQ.1 e with e|e;exact hx e.symm;exact h2 e⟩
theorem Qw(c:UInt8):∀(n:Nat) (l:List UInt8),l.length<=n->Lib.splitK [c] 0 (Lib.count l [c]) l=bc c l:=by
 intro n
 induction n with
 | zero =>
   exact Ua
 | succ n ih =>
   intro l hl;by_cases hc:c∈l
   ·obtain⟨a,b,rfl,ha⟩:=Pp c l hc
    have hi:=GO c a b ha;have hd:(a++c::b).drop (a.length+1)=b:=ab;rw[Lib.count_hit ab hi,Dw,Lib.splitK,hi];have hn:¬(((a.length:Int) == -1)=true):=by rw[kt];omega
    rw[aj hn,uv c a b ha];simp only[bp,ku,oF,hd];simp at hl;rw[ih b aa];simp
   ·have h0:Lib.count l [c]=0:=by rw[Lib.count_one];exact List.count_eq_zero.2 hc
    rw[h0,xB c l hc];rfl
theorem zY(s:List UInt8)(c:UInt8):Lib.splitB (bs [c]) 0 (Lib.countB (bs s) (bs [c])) (bs s)=(bc c s).map bs:=by
 have h:=Lib.splitB_data (bs [c]) 0 (Lib.countB (bs s) (bs [c])) (bs s);have hc:Lib.countB (bs s) (bs [c])=Lib.count s [c]:=rfl;rw[fF,fF,hc,Qw c s.length s (aw _)]at h;rw[<-h,Dy,hc]
 conv=>lhs;rw[<-tX (Lib.splitB (bs [c]) 0 (Lib.count s [c]) (bs s))]
 exact gn λx _=>(oh x).symm
theorem MD(c d:UInt8):∀(n:Nat) (l:List UInt8),l.length<=n->Lib.replaceK [c] [d] (Lib.count l [c]) l=l.map λx=>if x=c then d else x:=by
 intro n
 induction n with
 | zero =>
   exact Ua
 | succ n ih =>
   intro l hl
   have hno:∀a:List UInt8,c∉a->(a.map λx=>if x=c then d else x)=a:=λa ha=>by
    conv=>rhs;rw[<-tX a]
    exact gn λx hx=>by rw[aj (λe=>ha (by rw[<-e];exact hx))];rfl
   by_cases hc:c∈l
   ·obtain⟨a,b,rfl,ha⟩:=Pp c l hc
    have hi:=GO c a b ha;have hd:(a++c::b).drop (a.length+1)=b:=ab;rw[Lib.count_hit ab hi,Dw,Lib.replaceK_hit _ _ _ _ _ hi];simp at hl;simp only[ku,hd,ih b aa,iJ,bR,hno a ha];simp
   ·have h0:Lib.count l [c]=0:=by rw[Lib.count_one];exact List.count_eq_zero.2 hc
    rw[h0,hno l hc];rfl
theorem Oq(s:List UInt8)(c d:UInt8)(h:c≠d):Lib.replaceAll s [c] [d]=s.map λx=>if x=c then d else x:=by
 unfold Lib.replaceAll Lib.replace;have hn:¬(([c]:List UInt8) == [d])=true:=by rw[kt];simpa using h
 rw[aj hn];exact MD c d s.length s (aw _)
theorem aht(n:Int)(h0:0<=n)(h1:n<=9223372036854775807):dZ Tryz.prog LT 172 [.c (vi n)] (.one (.c (vs (Lib.itoa n)) 1)):=by
 refine⟨⟨_,Tryz.func172,ah,ah⟩,λw hL xs hxs hargs=>?_⟩;obtain⟨a,rfl⟩:=aeP hxs;obtain rfl:=ME (hargs 0 _ rfl);refine(Any.strconv_Itoa Jc n aa h1 w hL.1).mono ?_
 rintro e w' ⟨rfl,k,os,rfl⟩
 exact⟨_,rfl,Lib.below_grow _ _ (aw _) k os,rfl,rfl⟩
theorem JG(s:List UInt8)(c d:UInt8)(hcd:c≠d)(hl:s.length<=2^31):dZ Tryz.prog LT 157 [.c (vs s),.c (vs [c]),.c (vs [d])] (.one (.c (vs (s.map λx=>if x=c then d else x)) 1)):=by
 refine⟨⟨_,Tryz.func157,ah,ah⟩,λw hL xs hxs hargs=>?_⟩;obtain⟨a,b,f,rfl⟩:=amE hxs;obtain rfl:=ME (hargs 0 _ rfl);obtain rfl:=ME (hargs 1 _ rfl);obtain rfl:=ME (hargs 2 _ rfl);obtain⟨m,hm⟩:=hL.2.1;have hc:=Lib.countB_le (bs [c]) zH (bs s).size (bs s) (aw _);refine(Any.strings_ReplaceAll NH vk (bs s) (bs [c]) (bs [d]) m w (by rw[cO];omega) hm zH (by rw[cO]at hc⊢;rw[cO];simp;omega)).mono ?_
 rintro e w' ⟨rfl,hb⟩
 refine⟨_,rfl,hb,?_,rfl⟩;simp only[fF,Oq s c d hcd];rfl
theorem Mn(s:List UInt8)(c:UInt8)(hl:s.length<=2^31):dZ Tryz.prog LT 83 [.c (vs s),.c (vs [c])] (.one (.c (.s ((bc c s).map wR)) 1)):=by
 refine⟨⟨_,Tryz.func83,ah,ah⟩,λw hL xs hxs hargs=>?_⟩;obtain⟨a,b,rfl⟩:=ahV hxs;obtain rfl:=ME (hargs 0 _ rfl);obtain rfl:=ME (hargs 1 _ rfl);obtain⟨m,hm⟩:=hL.2.1;refine(Any.strings_Split NI ah (bs s) (bs [c]) m w (by rw[cO];omega) hm zH).mono ?_
 rintro e w' ⟨rfl,rfl⟩
 rw[zY]
 have hlen:Lib.countB (bs s) (bs [c])+1=(bc c s).length:=by
  have h1:=Lib.splitB_all (bs [c]) zH 0 _ (bs s) rfl;rw[zY]at h1
  simpa using h1.symm
 have hcl:=Lib.countB_le (bs [c]) zH (bs s).size (bs s) (aw _);rw[cO]at hcl;rw[hlen];have hb:(w.alloc (.cells (((bc c s).map bs).map Value.string).toArray (Tryz.lays146_ren.t 9))).heap[w.heap.size]? = some (.cells (((bc c s).map bs).map Value.string).toArray (Tryz.lays146_ren.t 9) (0,0)):=tJ w _;refine⟨_,rfl,(Below.refl _ w).alloc (aw _) _,ab,by simp[wR],.inr ⟨w.heap.size,0,(bc c s).length,_,_,λ_ _ _=>False,ab,⟨aw _,gd hb⟩,hb,ab,me,ab,λ_ _ _ h=>h.elim,λ_ _ _ _ _ h=>h.elim,λi j row d hi hj=>?_⟩⟩;rw[bX]at hi
 cases hw:(bc c s)[i]? with
 |none=>rw[hw]at hi;cases hi
 | some x =>
   rw[hw]at hi
   cases hi
   unfold wR at hj
   match j,hj with
   | 0, hj =>
     cases hj
     have:(((bc c s).map bs).map Value.string).toArray.getD (0+(i*1+0)) undef=.string (bs x):=by simp[hw]
     rw[this];exact .plain rfl
theorem ab0(l:List (List UInt8))(c:UInt8)(hl:l.length<=2^40)(hj:(Lib.join l [c]).length<=140737488355328):dZ Tryz.prog LT 250 [.c (.s (l.map wR)),.c (vs [c])] (.one (.c (vs (Lib.join l [c])) 1)):=by
 refine⟨⟨_,Tryz.func250,ah,ah⟩,λw hL xs hxs hargs=>?_⟩;obtain⟨a,b,rfl⟩:=ahV hxs;have h0:Rd w false (λ_=>True) a (.s (l.map wR)):=hargs 0 _ rfl;obtain rfl:=ME (hargs 1 _ rfl);by_cases hn:l=[]
 ·subst hn
  obtain⟨x,y,rfl⟩:=h0.empty_slice;refine(Any.strings_Join_none Bv oq x y (bs [c]) w).mono ?_
  rintro e w' ⟨rfl,rfl⟩
  exact⟨_,rfl,Below.refl _ _,rfl,rfl⟩
 generalize hr:l.map wR=rows at h0
 cases h0 with
 |empty a cap h=>exact absurd (List.map_eq_nil_iff.1 hr) hn
 | slice b off cap sz cs T fr rows F hcap hmax hsz hS hb hfit hown hF hd hlen hrd =>
   subst hr
   have hsz1:sz=1:=by
    cases l with
    |nil=>exact absurd rfl hn
    |cons x l=>have:=hlen (wR x) ab;rw[gV]at this;exact this.symm
   subst hsz1
   have hcells:∀(j:Nat) x,(l.map bs)[j]? = some x->w.cell? ⟨b,off+j,none⟩=some (.string x):=λj x hj=>by
    rw[bX]at hj
    cases hx:l[j]? with
    |none=>rw[hx]at hj;cases hj
    | some y =>
      rw[hx]at hj
      cases hj
      have h1:=hrd j 0 (wR y) (vs y) (by rw[bX,hx];rfl) rfl;have hjl:j<l.length:=(az.1 hx).1;simp only[fA]at hfit;have h2:off+(j*1+0)<cs.size:=aa;have e3:off+(j*1+0)=off+j:=aa;rw[e3]at h1 h2;unfold World.cell?;rw[hb];generalize hv:cs.getD (off+j) undef=v at h1
      cases h1
      rw[aT,yW h2]at hv;simp at hv;simp[h2,hv]
   have hd2:(l.map bs).map (·.data.toList)=l:=by
    rw[Dy]
    conv=>rhs;rw[<-tX l]
    exact gn λx _=>fF x
   have:=Any.strings_Join Bv oq b off cap (l.map bs) (bs [c]) w hcells (gd hb) (by rw[fA];omega) (by rw[fA]at hcap⊢;exact hcap) (by rw[hd2,fF];exact hj);rw[hd2,fF]at this;simp only[fA]at this⊢;refine this.mono ?_
   rintro e w' ⟨rfl,hB⟩
   exact⟨_,rfl,hB,rfl,rfl⟩
set_option maxRecDepth 100000
set_option maxHeartbeats 4000000
theorem cK(n:Int):dZ Tryz.prog LT 70 [.c (vi n)] (.one (.c (vs (aW n)) 1)):=by
 refine dZ.intro' au LT.stay Tryz.func70 ah rfl rfl rfl (ao rfl) (λw0 base hE=>?_);simp;refine ae.pure (cr n 0 1000000000) ab ?_;by_cases h:0<=n/\n<=1000000000
 ·have e:Lib.itoa n=aW n:=by unfold Lib.itoa aW;rw[aj aa,ai h]
  simp[h];refine aE hE (aht n aa aa) ab ?_;simp[e]
 ·have e:aW n=[]:=by unfold aW;rw[aj h]
  simp[h,e];rfl
theorem LT.below{w w':World}(h:Below w.heap.size w w')(hL:LT w):LT w':=LT.stay w w' ⟨h.os,h.tape,h.output,h.size,h.block⟩ hL
theorem FE{s:List UInt8}(h:s≠[]):(bs s).toList.isEmpty=false:=by
 have e:(bs s).toList=s:=by rw[Qj,fF]
 rw[e]
 cases s with
 |nil=>exact absurd rfl h
 |cons x l=>rfl
theorem agc(s r:ByteArray)(v:Int)(w:World)(hs:s.toList.isEmpty=false)(hb:(r.toList==s.toList)=true)
 (A:Calls Tryz.prog 180 #[.string s] w λe w'=>e=.returned (.tuple #[.int .i64 v,.nilIface])/\Below w.heap.size w w')
 (N:∀W,Below w.heap.size w W->Calls Tryz.prog 70 #[.int .i64 v] W λe w'=>e=.returned (.string r)/\Below w.heap.size w w') :
 Calls Tryz.prog 84 #[.string s] w λe w'=>e=.returned (.tuple #[.int .i64 v,.bool true])/\Below w.heap.size w w':=by
 go_enter Tryz.func84,Tryz.ntmps84
 go_wp2_with (go_at_call 180;refine A.mono ?_;rintro e w1 ⟨rfl,h1⟩)
 go_wp2_with (go_at_call 70;refine(N _ h1).mono ?_;rintro e w2 ⟨rfl,h2⟩)
 go_ret2
 exact⟨rfl,h2⟩
theorem ajB(s r:ByteArray)(v:Int)(w:World)(hs:s.toList.isEmpty=false)(hb:(r.toList==s.toList)=false)
 (A:Calls Tryz.prog 180 #[.string s] w λe w'=>e=.returned (.tuple #[.int .i64 v,.nilIface])/\Below w.heap.size w w')
 (N:∀W,Below w.heap.size w W->Calls Tryz.prog 70 #[.int .i64 v] W λe w'=>e=.returned (.string r)/\Below w.heap.size w w') :
 Calls Tryz.prog 84 #[.string s] w λe w'=>e=.returned (.tuple #[.int .i64 0,.bool false])/\Below w.heap.size w w':=by
 go_enter Tryz.func84,Tryz.ntmps84
 go_wp2_with (go_at_call 180;refine A.mono ?_;rintro e w1 ⟨rfl,h1⟩)
 go_wp2_with (go_at_call 70;refine(N _ h1).mono ?_;rintro e w2 ⟨rfl,h2⟩)
 go_ret2
 exact⟨rfl,h2⟩
theorem aaw(s:ByteArray)(v:Int)(w:World)
 (A:Calls Tryz.prog 180 #[.string s] w λe w'=>(∃t p,e=.returned (.tuple #[.int .i64 v,.iface t p]))/\Below w.heap.size w w') :
 Calls Tryz.prog 84 #[.string s] w λe w'=>e=.returned (.tuple #[.int .i64 0,.bool false])/\Below w.heap.size w w':=by
 go_enter Tryz.func84,Tryz.ntmps84
 go_wp2_with (go_at_call 180;refine A.mono ?_;rintro e w1 ⟨⟨t,p,rfl⟩,h1⟩)
 go_ret2
 exact⟨rfl,h1⟩
theorem yE(s:List UInt8)(hl:s.length<=2^31):dZ Tryz.prog LT 84 [.c (vs s)] (.tup [.c (vi (bm s).1) 1,.c (.v (.bool (bm s).2)) 1]):=by
 refine⟨⟨_,Tryz.func84,ah,ah⟩,λw hL xs hxs hargs=>?_⟩;obtain⟨a,rfl⟩:=aeP hxs;obtain rfl:=ME (hargs 0 _ rfl);have hL0:=hL;obtain⟨_,_,⟨e1,hv1,he1⟩,⟨e2,hv2,he2⟩⟩:=hL
 have hend:∀(x:Int) (b:Bool),bm s=(x,b)->(Calls Tryz.prog 84 #[.string (bs s)] w λe w'=>e=.returned (.tuple #[.int .i64 x,.bool b])/\Below w.heap.size w w')->Calls Tryz.prog 84 #[.string (bs s)] w λe w'=>∃v,e=.returned v/\Below w.heap.size w w'/\Jd w' (λc=>w.heap.size<=c/\c<w'.heap.size) v (.tup [.c (vi (bm s).1) 1,.c (.v (.bool (bm s).2)) 1]):=λx b e hc=>by
  refine hc.mono ?_
  rintro _ w' ⟨rfl,hb⟩
  refine⟨_,rfl,hb,_,λ_ _=>False,rfl,rfl,λ_ _ h=>h.elim,λ_ _ _ h=>h.elim,λj t hj=>?_⟩;rw[e]at hj
  match j,hj with
  |0,hj=>cases hj;exact⟨rfl,rfl⟩
  |1,hj=>cases hj;exact⟨rfl,rfl⟩
 have hsz:(bs s).size<=281474976710656:=by rw[cO];omega
 have hN:∀v:Int,∀W,Below w.heap.size w W->Calls Tryz.prog 70 #[.int .i64 v] W λe w'=>e=.returned (.string (bs (aW v)))/\Below w.heap.size w w':=λv W hb=>by
  refine((cK v).2 W (LT.below hb hL0) #[.int .i64 v] rfl (λi vd hi=>?_)).mono ?_
  ·match i,hi with
   |0,hi=>cases hi;exact .plain rfl
  ·rintro e w' ⟨u,rfl,h1,h2⟩
   obtain⟨rfl,-⟩:=h2;exact⟨rfl,hb.trans (h1.mono hb.size)⟩
 cases h:Lib.atoiAll s with
 | ok v =>
   have hs:s≠[]:=λe=>by subst e;cases h
   have hn:=KZ h
   have hA:Calls Tryz.prog 180 #[.string (bs s)] w λe w'=>e=.returned (.tuple #[.int .i64 v,.nilIface])/\Below w.heap.size w w':=by
    refine(Any.strconv_Atoi_ok sZ (bs s) aa v (by rw[fF];exact h) w).mono ?_
    rintro e w' ⟨rfl,rfl|⟨t,rfl⟩⟩
    ·exact⟨rfl,Below.refl _ _⟩
    ·exact⟨rfl,Lib.bytesWorld_below _ _ _⟩
   by_cases hq:aW v=s
   ·exact hend v true (hn.1 hq) (agc (bs s) (bs (aW v)) v w (FE hs) (by rw[hq,Mm];simp[dc]) hA (hN v))
   ·exact hend 0 false (hn.2 hq) (ajB (bs s) (bs (aW v)) v w (FE hs) (by rw[Mm,e8,gZ];exact hq) hA (hN v))
 | «syntax» =>
   refine hend 0 false (zF λv e=>by rw[h]at e;cases e) (aaw (bs s) 0 w ?_);refine(Any.strconv_Atoi_syntax sZ (bs s) hsz (by rw[fF];exact h) e1 w hv1 he1).mono ?_
   rintro e w' ⟨N,rfl,-,-,hb⟩
   exact⟨⟨_,_,rfl⟩,hb⟩
 | range =>
   refine hend 0 false (zF λv e=>by rw[h]at e;cases e) (aaw (bs s) (Lib.atoiSat (bs s).data.toList) w ?_);refine(Any.strconv_Atoi_range sZ (bs s) hsz (by rw[fF];exact h) e2 w hv2 he2).mono ?_
   rintro e w' ⟨N,rfl,-,-,hb⟩
   exact⟨⟨_,_,rfl⟩,hb⟩
set_option maxRecDepth 20000
set_option maxHeartbeats 6400000
attribute [local simp] kD iu cO gZ gV
theorem aej{l:List (List UInt8)}{B:Nat}(h:∀w∈l,w.length<=B):Lib.lens l<=B*l.length:=by
 induction l with
 |nil=>simp[Lib.lens]
 | cons x l ih =>
   have h1:=h x ab;have h2:=ih λw hw=>h w (by simp[hw])
   have e:Lib.lens (x::l)=x.length+Lib.lens l:=by simp[Lib.lens]
   rw[e,bu,Nat.mul_succ];omega
theorem Fb{l:List (List UInt8)}{B:Nat}{c:UInt8}(h:∀w∈l,w.length<=B):(Lib.join l [c]).length<=(B+1)*l.length:=by
 cases l with
 |nil=>simp[Io]
 | cons x l =>
   rw[Lib.join_length];have:=aej h;rw[fG];simp at this⊢;omega
theorem bQ(n:Int):(aW n).length<=10:=by
 unfold aW
 split
 ·exact Hm 9 _ aa
 ·simp
theorem th(l:List Int):(lU l).length<=11*l.length:=by
 have h:=Fb (l:=l.map aW) (B:=10) (c:=46) (λw hw=>by obtain⟨n,-,rfl⟩:=cH.1 hw;exact bQ n)
 simpa[lU]using h
theorem AZ(l:List Int)(hl:l.length<=2^40):dZ Tryz.prog LT 173 [.c (.s (l.map aX))] (.one (.c (vs (lU l)) 1)):=by
 refine dZ.intro' au LT.stay Tryz.func173 ah rfl rfl rfl (ao rfl) (λw0 base hE=>?_);simp;refine aF hE (λx:Nat×Hd=>x.1<=l.length) (λx=>⟨20,0,[(8,.v (.int .i64 x.1)),(7,.v (.int .i64 l.length)),(6,.ro (l.map aX)),(3,.sl 5000 x.2 1 0 x.1)],[(5000,.rows x.2 1 (((l.take x.1).map aW).map wR) true)]⟩) (λx=>l.length-x.1) (0,none) ab ab (λx hx=>Ent.refl ?_);obtain⟨i,H⟩:=x;simp only at hx⊢;by_cases hlt:i<l.length
 ·simp[hlt]
  refine aE hE (cK l[i]) ab ?_;simp;intro b;have e1:i=min i l.length:=aa;refine⟨e1,aa,λH2=>Ent.refl ⟨i+1,aa,aa,H2,?_⟩⟩;simp;exact⟨bL aa,mg (f:=wR ∘ aW) hlt⟩
 ·have e:i=l.length:=by omega
  subst e;simp;refine aE hE (ab0 (l.map aW) 46 uq (by have:=th l;unfold lU at this;omega)) ab ?_;simp[lU]
theorem wv(l:List Int)(hl:l.length<=2^40):dZ Tryz.prog LT 71 [.c (.s (l.map aX))] (.one (.c (vs (dC l)) 1)):=by
 refine dZ.intro' au LT.stay Tryz.func71 ah rfl rfl rfl (ao rfl) (λw0 base hE=>?_);simp;refine ae.pure (ln l hl) ab ?_;by_cases h:dQ l
 ·by_cases h0:l=[]
  ·have e:dC l=[45]:=by unfold dC;rw[ai h,ai h0]
   have h0':(l.length:Int)=0:=by rw[h0];rfl
   simp[h,h0',e]
  ·have e:dC l=lU l:=uy h h0
   have h0':¬(l.length:Int)=0:=by have:=ca.2 h0;omega
   simp[h,h0,e];refine aE hE (AZ l hl) ab ?_;simp
 ·have e:dC l=[]:=by unfold dC;rw[aj h]
  simp[h,e]
theorem tG(s:List UInt8)(hl:s.length<=2^31):dZ Tryz.prog LT 155 [.c (vs s)] (.tup [.c (.s ((uF (iB s)).1.map aX)) 1,.c (.v (.bool (uF (iB s)).2)) 1]):=by
 refine dZ.intro' au LT.stay Tryz.func155 ah rfl rfl rfl (ao rfl) (λw0 base hE=>?_);simp;refine aE hE (Mn s 46 hl) ab ?_;simp;intro H;obtain⟨W,hW⟩:∃W,bc 46 s=W:=⟨_,rfl⟩;have hlen:=(dK 46 s).1;have hw:=(dK 46 s).2;have hrd:iB s=fI kA W:=by unfold iB;rw[hW]
 rw[hW]at hlen hw⊢
 refine aF hE (λx:Nat×List Int×Hd=>x.1<=W.length/\x.2.1.length=x.1/\iB s=(fI kA (W.drop x.1)).map (x.2.1 ++ ·)) (λx=>⟨29,0,[(12,.v (.int .i64 x.1)),(11,.v (.int .i64 W.length)),(10,.sl 160 H 1 0 W.length),(4,.sl 5000 x.2.2 1 0 x.2.1.length),(3,.v (.bool false)),(2,.nil)],
  [(160,.rows H 1 (W.map wR) true),(5000,.rows x.2.2 1 (x.2.1.map aX) true)]⟩) (λx=>W.length-x.1) (0,[],none) ⟨ab,ab,by simp[hrd]⟩ ab (λx hi=>Ent.refl ?_)
 obtain⟨i,out,K⟩:=x;obtain⟨h1,h2,h3⟩:=hi;simp only at h1 h2 h3⊢;by_cases hlt:i<W.length
 ·have hx:=hw W[i] (ak hlt)
  have hst:iB s=(kA W[i]).bind λy=>(fI kA (W.drop (i+1))).map λr=>out++(y::r):=by
   rw[h3,xN hlt]
   cases kA W[i]<;>simp[zA]
  simp[hlt,wR];refine aE hE (yE W[i] aa) ab ?_;by_cases hok:(bm W[i]).2=true
  ·have hn:kA W[i]=some (bm W[i]).1:=by unfold kA;rw[ai hok]
   simp[hok];intro b;refine⟨aa,λH1=>Ent.refl ⟨i+1,out++[(bm W[i]).1],⟨aa,aJ,?_⟩,aa,H1,?_⟩⟩
   ·rw[hst,hn];simp
   ·exact pf
  ·have hn:kA W[i]=none:=by unfold kA;rw[aj hok]
   have hr:iB s=none:=by rw[hst,hn];rfl
   have hok':(bm W[i]).2=false:=by simpa using hok
   simp[hok',hr,uF]
 ·have e:i=W.length:=by omega
  have hm:iB s=some out:=by rw[h3,jT aa];simp[fI]
  simp[hlt,hm,uF]
theorem aea{α β:Type}{f:α->Option β}{W:List α}{l:List β}(h:fI f W=some l):l.length<=W.length:=Nat.le_of_eq (GE h)
theorem Gi{s:List UInt8}{l:List Int}(h:iB s=some l):l.length<=s.length+1:=cG (aea h) (dK 46 s).1
theorem wu(s:List UInt8)(hl:s.length<=2^31):dZ Tryz.prog LT 59 [.c (vs s)] (.tup [.c (.s ((dW s).1.map aX)) 1,.c (.v (.bool (dW s).2)) 1]):=by
 refine dZ.intro' au LT.stay Tryz.func59 ah rfl rfl rfl (ao rfl) (λw0 base hE=>?_);by_cases hs:s=[45]
 ·subst hs
  simp[zE]
 ·obtain⟨t1,t2,t3⟩:=It hs
  simp[hs];refine aE hE (tG s hl) ab ?_
  cases hr:iB s with
  |none=>simp[uF,t3 hr]
  | some l =>
    have hll:=Gi hr;simp[uF];intro H;refine ae.pure (ln l aa) ab ?_;by_cases ho:dQ l
    ·simp[ho,t1 l hr ho]
    ·simp[ho,t2 l hr ho]
theorem Xu{p:Part}(h:aS p):(bE p).length<=2201:=by
 have hb:=h.bounds;have h1:=bQ p.n;have h2:=th p.signs;unfold bE
 split
 ·simp;omega
 ·split<;>simp<;>omega
theorem tq(o:List Part):(cJ o).length<=2500000:=by
 unfold cJ
 split
 ·rename_i h
  split
  ·simp
  ·have h1:=(iX h).1
   have h2:=Fb (l:=(cS o).map bE) (B:=2201) (c:=32) (λw hw=>by obtain⟨p,hp,rfl⟩:=cH.1 hw;exact Xu (h1.1.1 p hp));have h3:=h1.1.2;simp at h2;omega
 ·simp
end Go.Proofs.YtmccaifipoohfaaGreatDoor
