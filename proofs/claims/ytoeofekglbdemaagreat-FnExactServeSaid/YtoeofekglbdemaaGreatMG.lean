import Derived.Test.YtoeofekglbdemaaGreatME
import Derived.Test.YtoeofekglbdemaaGreatRows
import Derived.IntWalk
import Derived.ProofKit
import Derived.Deep.Slices
import Derived.Test.YtoeofekglbdemaaGreatMF
namespace Go.Proofs.YtoeofekglbdemaaGreat
open Go.AM
def ti2 : TI:={ n:=1,zero:=[.v (.int .i64 0)],bytes:=8,kind:=some .i64 }
def ti3 : TI:={ n:=1,zero:=[.v (.int .i64 0)],bytes:=8,kind:=some .i64 }
def ti4 : TI:={ n:=1,zero:=[.v (.bool false)],bytes:=1,boo:=true }
def ti5 : TI:={ n:=1,zero:=[.v (.int .u8 0)],bytes:=1,kind:=some .u8 }
def ti6 : TI:={ n:=1,zero:=[.v (.int .u8 0)],bytes:=1,kind:=some .u8 }
def ti7 : TI:={ agg:=true,n:=4,zero:=[.v (.int .i64 0),.v (.int .i64 0),.v (.bool false),.v (.int .u8 0)],fields:=[(0,1),(1,1),(2,1),(3,1)],fagg:=[false,false,false,false],bytes:=24,pln:=true }
def ti8 : TI:={ agg:=true,n:=4,zero:=[.v (.int .i64 0),.v (.int .i64 0),.v (.bool false),.v (.int .u8 0)],fields:=[(0,1),(1,1),(2,1),(3,1)],fagg:=[false,false,false,false],bytes:=24,pln:=true }
def ti9 : TI:={ n:=1,zero:=[.v (.string ⟨#[]⟩)],bytes:=16,str:=true }
def ti10 : TI:={ n:=1,zero:=[.v (.string ⟨#[]⟩)],bytes:=16,str:=true }
def ti11 : TI:={ n:=1,zero:=[.v (.string ⟨#[]⟩)],bytes:=16,str:=true }
def ti12 : TI:={ n:=1,zero:=[.v (.int .u64 0)],bytes:=8,kind:=some .u64 }
def ti13 : TI:={ agg:=true,n:=2,zero:=[.v (.string ⟨#[]⟩),.v (.int .u64 0)],fields:=[(0,1),(1,1)],fagg:=[false,false],bytes:=24,pln:=true }
def ti14 : TI:={ agg:=true,n:=2,zero:=[.v (.string ⟨#[]⟩),.v (.int .u64 0)],fields:=[(0,1),(1,1)],fagg:=[false,false],bytes:=24,pln:=true }
def ti21 : TI:={ n:=1,zero:=[.v (.int .i32 0)],bytes:=4,kind:=some .i32 }
def ti22 : TI:={ n:=1,zero:=[.nil],sl:=some 182,bytes:=24,pln:=false }
def ti23 : TI:={ n:=1,zero:=[.nil],sl:=some 187,bytes:=24,pln:=false }
def ti24 : TI:={ agg:=true,n:=4,zero:=[.v (.bool false),.nil,.nil,.v (.int .i64 0)],fields:=[(0,1),(1,1),(2,1),(3,1)],fagg:=[false,false,false,false],bytes:=64,pln:=false }
def ti25 : TI:={ agg:=true,n:=4,zero:=[.v (.bool false),.nil,.nil,.v (.int .i64 0)],fields:=[(0,1),(1,1),(2,1),(3,1)],fagg:=[false,false,false,false],bytes:=64,pln:=false }
def ti26 : TI:={ n:=1,zero:=[.nil],sl:=some 3,bytes:=24,pln:=false }
def ti27 : TI:={ n:=1,zero:=[.nil],sl:=some 155,bytes:=24,pln:=false }
def ti28 : TI:={ n:=1,zero:=[.nil],sl:=some 164,bytes:=24,pln:=false }
def ti29 : TI:={ agg:=true,n:=8,zero:=[.v (.bool false),.nil,.nil,.v (.int .i64 0),.nil,.nil,.nil,.v (.int .i64 0)],fields:=[(0,4),(4,1),(5,1),(6,1),(7,1)],fagg:=[true,false,false,false,false],bytes:=144,pln:=false }
def ti30 : TI:={ agg:=true,n:=8,zero:=[.v (.bool false),.nil,.nil,.v (.int .i64 0),.nil,.nil,.nil,.v (.int .i64 0)],fields:=[(0,4),(4,1),(5,1),(6,1),(7,1)],fagg:=[true,false,false,false,false],bytes:=144,pln:=false }
def ti32 : TI:={ n:=1,zero:=[.nil],sl:=some 139,bytes:=24,pln:=false }
def ti33 : TI:={ n:=1,zero:=[.nil],sl:=some 145,bytes:=24,pln:=false }
def ti34 : TI:={ agg:=true,n:=4,zero:=[.v (.bool false),.nil,.nil,.v (.int .i64 0)],fields:=[(0,1),(1,1),(2,1),(3,1)],fagg:=[false,false,false,false],bytes:=64,pln:=false }
def ti35 : TI:={ agg:=true,n:=4,zero:=[.v (.bool false),.nil,.nil,.v (.int .i64 0)],fields:=[(0,1),(1,1),(2,1),(3,1)],fagg:=[false,false,false,false],bytes:=64,pln:=false }
def ti36 : TI:={ n:=1,zero:=[.nil],sl:=some 93,bytes:=24,pln:=false }
def ti37 : TI:={ n:=1,zero:=[.nil],sl:=some 76,bytes:=24,pln:=false }
def ti38 : TI:={ agg:=true,n:=8,zero:=[.v (.bool false),.nil,.nil,.v (.int .i64 0),.nil,.nil,.nil,.v (.int .i64 0)],fields:=[(0,4),(4,1),(5,1),(6,1),(7,1)],fagg:=[true,false,false,false,false],bytes:=144,pln:=false }
def ti39 : TI:={ agg:=true,n:=8,zero:=[.v (.bool false),.nil,.nil,.v (.int .i64 0),.nil,.nil,.nil,.v (.int .i64 0)],fields:=[(0,4),(4,1),(5,1),(6,1),(7,1)],fagg:=[true,false,false,false,false],bytes:=144,pln:=false }
def ti59 : TI:={ n:=1,zero:=[.nil],sl:=some 5,bytes:=24,pln:=false }
def ti61 : TI:={ n:=1,zero:=[.nil],sl:=some 67,bytes:=24,pln:=false }
def ti65 : TI:={ n:=1,zero:=[.nil],sl:=some 234,bytes:=24,pln:=false }
def ti66 : TI:={ agg:=true,n:=7,zero:=[.v (.int .i64 0),.v (.string ⟨#[]⟩),.v (.int .i64 0),.v (.int .i64 0),.v (.int .i64 0),.nil,.nil],fields:=[(0,1),(1,1),(2,1),(3,1),(4,1),(5,1),(6,1)],fagg:=[false,false,false,false,false,false,false],bytes:=96,pln:=false }
def ti67 : TI:={ agg:=true,n:=7,zero:=[.v (.int .i64 0),.v (.string ⟨#[]⟩),.v (.int .i64 0),.v (.int .i64 0),.v (.int .i64 0),.nil,.nil],fields:=[(0,1),(1,1),(2,1),(3,1),(4,1),(5,1),(6,1)],fagg:=[false,false,false,false,false,false,false],bytes:=96,pln:=false }
def ti69 : TI:={ n:=1,zero:=[.nil],sl:=some 74,bytes:=24,pln:=false }
def ti72 : TI:={ n:=1,zero:=[.nil],sl:=some 134,bytes:=24,pln:=false }
def ti73 : TI:={ agg:=true,n:=4,zero:=[.v (.int .i64 0),.v (.int .i64 0),.nil,.nil],fields:=[(0,1),(1,1),(2,1),(3,1)],fagg:=[false,false,false,false],bytes:=64,pln:=false }
def ti74 : TI:={ agg:=true,n:=4,zero:=[.v (.int .i64 0),.v (.int .i64 0),.nil,.nil],fields:=[(0,1),(1,1),(2,1),(3,1)],fagg:=[false,false,false,false],bytes:=64,pln:=false }
def ti75 : TI:={ agg:=true,n:=15,zero:=[.v (.int .i64 0),.v (.string ⟨#[]⟩),.v (.int .i64 0),.v (.int .i64 0),.v (.int .i64 0),.nil,.nil,.v (.int .i64 0),.v (.int .i64 0),.v (.int .i64 0),.v (.int .i64 0),.v (.int .i64 0),.v (.int .i64 0),.nil,.nil],fields:=[(0,7),(7,1),(8,1),(9,1),(10,1),(11,4)],fagg:=[true,false,false,false,false,true],bytes:=192,pln:=false }
def ti76 : TI:={ agg:=true,n:=15,zero:=[.v (.int .i64 0),.v (.string ⟨#[]⟩),.v (.int .i64 0),.v (.int .i64 0),.v (.int .i64 0),.nil,.nil,.v (.int .i64 0),.v (.int .i64 0),.v (.int .i64 0),.v (.int .i64 0),.v (.int .i64 0),.v (.int .i64 0),.nil,.nil],fields:=[(0,7),(7,1),(8,1),(9,1),(10,1),(11,4)],fagg:=[true,false,false,false,false,true],bytes:=192,pln:=false }
def ti84 : TI:={ n:=1,zero:=[.nil],sl:=some 9,bytes:=24,pln:=false }
def ti92 : TI:={ agg:=true,n:=2,zero:=[.v (.string ⟨#[]⟩),.nil],fields:=[(0,1),(1,1)],fagg:=[false,false],bytes:=40,pln:=false }
def ti93 : TI:={ agg:=true,n:=2,zero:=[.v (.string ⟨#[]⟩),.nil],fields:=[(0,1),(1,1)],fagg:=[false,false],bytes:=40,pln:=false }
def ti123 : TI:={ agg:=true,n:=3,zero:=[.nil,.v (.int .i64 0),.v (.int .i64 0)],fields:=[(0,1),(1,1),(2,1)],fagg:=[false,false,false],bytes:=40,pln:=false }
def ti124 : TI:={ agg:=true,n:=3,zero:=[.nil,.v (.int .i64 0),.v (.int .i64 0)],fields:=[(0,1),(1,1),(2,1)],fagg:=[false,false,false],bytes:=40,pln:=false }
def ti133 : TI:={ agg:=true,n:=3,zero:=[.v (.int .i64 0),.v (.int .i64 0),.nil],fields:=[(0,1),(1,1),(2,1)],fagg:=[false,false,false],bytes:=40,pln:=false }
def ti134 : TI:={ agg:=true,n:=3,zero:=[.v (.int .i64 0),.v (.int .i64 0),.nil],fields:=[(0,1),(1,1),(2,1)],fagg:=[false,false,false],bytes:=40,pln:=false }
def ti137 : TI:={ n:=1,zero:=[.nil],sl:=some 217,bytes:=24,pln:=false }
def ti138 : TI:={ agg:=true,n:=5,zero:=[.v (.string ⟨#[]⟩),.v (.int .i64 0),.nil,.nil,.nil],fields:=[(0,1),(1,1),(2,1),(3,1),(4,1)],fagg:=[false,false,false,false,false],bytes:=96,pln:=false }
def ti139 : TI:={ agg:=true,n:=5,zero:=[.v (.string ⟨#[]⟩),.v (.int .i64 0),.nil,.nil,.nil],fields:=[(0,1),(1,1),(2,1),(3,1),(4,1)],fagg:=[false,false,false,false,false],bytes:=96,pln:=false }
def ti142 : TI:={ agg:=true,n:=4,zero:=[.v (.int .i64 0),.v (.int .i64 0),.v (.bool false),.nil],fields:=[(0,1),(1,1),(2,1),(3,1)],fagg:=[false,false,false,false],bytes:=48,pln:=false }
def ti143 : TI:={ agg:=true,n:=4,zero:=[.v (.int .i64 0),.v (.int .i64 0),.v (.bool false),.nil],fields:=[(0,1),(1,1),(2,1),(3,1)],fagg:=[false,false,false,false],bytes:=48,pln:=false }
def ti144 : TI:={ agg:=true,n:=6,zero:=[.v (.int .i64 0),.v (.string ⟨#[]⟩),.v (.int .i64 0),.v (.int .i64 0),.v (.bool false),.nil],fields:=[(0,1),(1,1),(2,4)],fagg:=[false,false,true],bytes:=72,pln:=false }
def ti145 : TI:={ agg:=true,n:=6,zero:=[.v (.int .i64 0),.v (.string ⟨#[]⟩),.v (.int .i64 0),.v (.int .i64 0),.v (.bool false),.nil],fields:=[(0,1),(1,1),(2,4)],fagg:=[false,false,true],bytes:=72,pln:=false }
def ti155 : TI:={ agg:=true,n:=2,zero:=[.v (.string ⟨#[]⟩),.nil],fields:=[(0,1),(1,1)],fagg:=[false,false],bytes:=40,pln:=false }
def ti157 : TI:={ n:=1,zero:=[.nil],sl:=some 295,bytes:=24,pln:=false }
def ti158 : TI:={ agg:=true,n:=7,zero:=[.v (.int .i64 0),.v (.string ⟨#[]⟩),.v (.int .i64 0),.v (.int .i64 0),.v (.int .i64 0),.nil,.nil],fields:=[(0,1),(1,1),(2,1),(3,1),(4,1),(5,1),(6,1)],fagg:=[false,false,false,false,false,false,false],bytes:=96,pln:=false }
def ti159 : TI:={ agg:=true,n:=7,zero:=[.v (.int .i64 0),.v (.string ⟨#[]⟩),.v (.int .i64 0),.v (.int .i64 0),.v (.int .i64 0),.nil,.nil],fields:=[(0,1),(1,1),(2,1),(3,1),(4,1),(5,1),(6,1)],fagg:=[false,false,false,false,false,false,false],bytes:=96,pln:=false }
def ti160 : TI:={ n:=1,zero:=[.nil],sl:=some 280,bytes:=24,pln:=false }
def ti161 : TI:={ agg:=true,n:=4,zero:=[.v (.int .i64 0),.v (.int .i64 0),.nil,.nil],fields:=[(0,1),(1,1),(2,1),(3,1)],fagg:=[false,false,false,false],bytes:=64,pln:=false }
def ti162 : TI:={ agg:=true,n:=4,zero:=[.v (.int .i64 0),.v (.int .i64 0),.nil,.nil],fields:=[(0,1),(1,1),(2,1),(3,1)],fagg:=[false,false,false,false],bytes:=64,pln:=false }
def ti163 : TI:={ agg:=true,n:=15,zero:=[.v (.int .i64 0),.v (.string ⟨#[]⟩),.v (.int .i64 0),.v (.int .i64 0),.v (.int .i64 0),.nil,.nil,.v (.int .i64 0),.v (.int .i64 0),.v (.int .i64 0),.v (.int .i64 0),.v (.int .i64 0),.v (.int .i64 0),.nil,.nil],fields:=[(0,7),(7,1),(8,1),(9,1),(10,1),(11,4)],fagg:=[true,false,false,false,false,true],bytes:=192,pln:=false }
def ti164 : TI:={ agg:=true,n:=15,zero:=[.v (.int .i64 0),.v (.string ⟨#[]⟩),.v (.int .i64 0),.v (.int .i64 0),.v (.int .i64 0),.nil,.nil,.v (.int .i64 0),.v (.int .i64 0),.v (.int .i64 0),.v (.int .i64 0),.v (.int .i64 0),.v (.int .i64 0),.nil,.nil],fields:=[(0,7),(7,1),(8,1),(9,1),(10,1),(11,4)],fagg:=[true,false,false,false,false,true],bytes:=192,pln:=false }
def ti180 : TI:={ n:=1,zero:=[.nil],sl:=some 284,bytes:=24,pln:=false }
def ti181 : TI:={ agg:=true,n:=5,zero:=[.v (.string ⟨#[]⟩),.v (.int .i64 0),.nil,.nil,.nil],fields:=[(0,1),(1,1),(2,1),(3,1),(4,1)],fagg:=[false,false,false,false,false],bytes:=96,pln:=false }
def ti182 : TI:={ agg:=true,n:=5,zero:=[.v (.string ⟨#[]⟩),.v (.int .i64 0),.nil,.nil,.nil],fields:=[(0,1),(1,1),(2,1),(3,1),(4,1)],fagg:=[false,false,false,false,false],bytes:=96,pln:=false }
def ti184 : TI:={ agg:=true,n:=4,zero:=[.v (.int .i64 0),.v (.int .i64 0),.v (.bool false),.nil],fields:=[(0,1),(1,1),(2,1),(3,1)],fagg:=[false,false,false,false],bytes:=48,pln:=false }
def ti185 : TI:={ agg:=true,n:=4,zero:=[.v (.int .i64 0),.v (.int .i64 0),.v (.bool false),.nil],fields:=[(0,1),(1,1),(2,1),(3,1)],fagg:=[false,false,false,false],bytes:=48,pln:=false }
def ti186 : TI:={ agg:=true,n:=6,zero:=[.v (.int .i64 0),.v (.string ⟨#[]⟩),.v (.int .i64 0),.v (.int .i64 0),.v (.bool false),.nil],fields:=[(0,1),(1,1),(2,4)],fagg:=[false,false,true],bytes:=72,pln:=false }
def ti187 : TI:={ agg:=true,n:=6,zero:=[.v (.int .i64 0),.v (.string ⟨#[]⟩),.v (.int .i64 0),.v (.int .i64 0),.v (.bool false),.nil],fields:=[(0,1),(1,1),(2,4)],fagg:=[false,false,true],bytes:=72,pln:=false }
def ti216 : TI:={ agg:=true,n:=3,zero:=[.v (.int .i64 0),.v (.int .i64 0),.v (.int .i64 0)],fields:=[(0,1),(1,1),(2,1)],fagg:=[false,false,false],bytes:=24,pln:=true,ieq:=true }
def ti217 : TI:={ agg:=true,n:=3,zero:=[.v (.int .i64 0),.v (.int .i64 0),.v (.int .i64 0)],fields:=[(0,1),(1,1),(2,1)],fagg:=[false,false,false],bytes:=24,pln:=true,ieq:=true }
def ti233 : TI:={ agg:=true,n:=3,zero:=[.v (.int .i64 0),.v (.int .i64 0),.nil],fields:=[(0,1),(1,1),(2,1)],fagg:=[false,false,false],bytes:=40,pln:=false }
def ti234 : TI:={ agg:=true,n:=3,zero:=[.v (.int .i64 0),.v (.int .i64 0),.nil],fields:=[(0,1),(1,1),(2,1)],fagg:=[false,false,false],bytes:=40,pln:=false }
def ti247 : TI:={ n:=1,zero:=[.nil],sl:=some 65,bytes:=24,pln:=false }
def ti253 : TI:={ n:=1,zero:=[.v (.int .u64 0)],bytes:=8,kind:=some .u64 }
def ti279 : TI:={ agg:=true,n:=3,zero:=[.v (.int .i64 0),.v (.int .i64 0),.nil],fields:=[(0,1),(1,1),(2,1)],fagg:=[false,false,false],bytes:=40,pln:=false }
def ti280 : TI:={ agg:=true,n:=3,zero:=[.v (.int .i64 0),.v (.int .i64 0),.nil],fields:=[(0,1),(1,1),(2,1)],fagg:=[false,false,false],bytes:=40,pln:=false }
def ti284 : TI:={ agg:=true,n:=3,zero:=[.v (.int .i64 0),.v (.int .i64 0),.v (.int .i64 0)],fields:=[(0,1),(1,1),(2,1)],fagg:=[false,false,false],bytes:=24,pln:=true,ieq:=true }
def ti295 : TI:={ agg:=true,n:=3,zero:=[.v (.int .i64 0),.v (.int .i64 0),.nil],fields:=[(0,1),(1,1),(2,1)],fagg:=[false,false,false],bytes:=40,pln:=false }
def ti308 : TI:={ agg:=true,n:=3,zero:=[.nil,.nil,.v (.int .i64 0)],fields:=[(0,1),(1,1),(2,1)],fagg:=[false,false,false],bytes:=56,pln:=false }
def ti309 : TI:={ agg:=true,n:=3,zero:=[.nil,.nil,.v (.int .i64 0)],fields:=[(0,1),(1,1),(2,1)],fagg:=[false,false,false],bytes:=56,pln:=false }
def ti322 : TI:={ agg:=true,n:=1,zero:=[.nil],fields:=[(0,1)],fagg:=[false],bytes:=24,pln:=false }
def ti323 : TI:={ agg:=true,n:=1,zero:=[.nil],fields:=[(0,1)],fagg:=[false],bytes:=24,pln:=false }
def ti327 : TI:={ agg:=true,n:=3,zero:=[.nil,.v (.int .i64 0),.v (.int .i64 0)],fields:=[(0,1),(1,1),(2,1)],fagg:=[false,false,false],bytes:=40,pln:=false }
def ti328 : TI:={ agg:=true,n:=3,zero:=[.nil,.v (.int .i64 0),.v (.int .i64 0)],fields:=[(0,1),(1,1),(2,1)],fagg:=[false,false,false],bytes:=40,pln:=false }
def ti338 : TI:={ n:=1,zero:=[.v (.int .u32 0)],bytes:=4,kind:=some .u32 }
def ti339 : TI:={ n:=1,zero:=[.v (.int .u8 0)],bytes:=1,kind:=some .u8 }
def ti340 : TI:={ n:=1,zero:=[.v (.int .u8 0)],bytes:=1,kind:=some .u8 }
def ti343 : TI:={ n:=1,zero:=[.v (.int .i32 0)],bytes:=4,kind:=some .i32 }
def ti344 : TI:={ n:=1,zero:=[.v (.int .i32 0)],bytes:=4,kind:=some .i32 }
def ttab : List (Nat × TI):=[(2,ti2),(3,ti3),(4,ti4),(5,ti5),(6,ti6),(7,ti7),(8,ti8),(9,ti9),(10,ti10),(11,ti11),(12,ti12),(13,ti13),(14,ti14),(21,ti21),(22,ti22),(23,ti23),(24,ti24),(25,ti25),(26,ti26),(27,ti27),(28,ti28),(29,ti29),(30,ti30),(32,ti32),(33,ti33),(34,ti34),(35,ti35),(36,ti36),(37,ti37),(38,ti38),(39,ti39),(59,ti59),(61,ti61),(65,ti65),(66,ti66),(67,ti67),(69,ti69),(72,ti72),(73,ti73),(74,ti74),(75,ti75),(76,ti76),(84,ti84),(92,ti92),(93,ti93),(123,ti123),(124,ti124),(133,ti133),(134,ti134),(137,ti137),(138,ti138),(139,ti139),(142,ti142),(143,ti143),(144,ti144),(145,ti145),(155,ti155),(157,ti157),(158,ti158),(159,ti159),(160,ti160),(161,ti161),(162,ti162),(163,ti163),(164,ti164),(180,ti180),(181,ti181),(182,ti182),(184,ti184),(185,ti185),(186,ti186),(187,ti187),(216,ti216),(217,ti217),(233,ti233),(234,ti234),(247,ti247),(253,ti253),(279,ti279),(280,ti280),(284,ti284),(295,ti295),(308,ti308),(309,ti309),(322,ti322),(323,ti323),(327,ti327),(328,ti328),(338,ti338),(339,ti339),(340,ti340),(343,ti343),(344,ti344)]
def tt : Nat→Option TI:=lookT ttab
theorem tt_2 : tt 2 = some ti2:=rfl
theorem tt_3 : tt 3 = some ti3:=rfl
theorem tt_4 : tt 4 = some ti4:=rfl
theorem tt_5 : tt 5 = some ti5:=rfl
theorem tt_6 : tt 6 = some ti6:=rfl
theorem tt_7 : tt 7 = some ti7:=rfl
theorem tt_8 : tt 8 = some ti8:=rfl
theorem tt_9 : tt 9 = some ti9:=rfl
theorem tt_10 : tt 10 = some ti10:=rfl
theorem tt_11 : tt 11 = some ti11:=rfl
theorem tt_12 : tt 12 = some ti12:=rfl
theorem tt_13 : tt 13 = some ti13:=rfl
theorem tt_14 : tt 14 = some ti14:=rfl
theorem tt_21 : tt 21 = some ti21:=rfl
theorem tt_22 : tt 22 = some ti22:=rfl
theorem tt_23 : tt 23 = some ti23:=rfl
theorem tt_24 : tt 24 = some ti24:=rfl
theorem tt_25 : tt 25 = some ti25:=rfl
theorem tt_26 : tt 26 = some ti26:=rfl
theorem tt_27 : tt 27 = some ti27:=rfl
theorem tt_28 : tt 28 = some ti28:=rfl
theorem tt_29 : tt 29 = some ti29:=rfl
theorem tt_30 : tt 30 = some ti30:=rfl
theorem tt_32 : tt 32 = some ti32:=rfl
theorem tt_33 : tt 33 = some ti33:=rfl
theorem tt_34 : tt 34 = some ti34:=rfl
theorem tt_35 : tt 35 = some ti35:=rfl
theorem tt_36 : tt 36 = some ti36:=rfl
theorem tt_37 : tt 37 = some ti37:=rfl
theorem tt_38 : tt 38 = some ti38:=rfl
theorem tt_39 : tt 39 = some ti39:=rfl
theorem tt_59 : tt 59 = some ti59:=rfl
theorem tt_61 : tt 61 = some ti61:=rfl
theorem tt_65 : tt 65 = some ti65:=rfl
theorem tt_66 : tt 66 = some ti66:=rfl
theorem tt_67 : tt 67 = some ti67:=rfl
theorem tt_69 : tt 69 = some ti69:=rfl
theorem tt_72 : tt 72 = some ti72:=rfl
theorem tt_73 : tt 73 = some ti73:=rfl
theorem tt_74 : tt 74 = some ti74:=rfl
theorem tt_75 : tt 75 = some ti75:=rfl
theorem tt_76 : tt 76 = some ti76:=rfl
theorem tt_84 : tt 84 = some ti84:=rfl
theorem tt_92 : tt 92 = some ti92:=rfl
theorem tt_93 : tt 93 = some ti93:=rfl
theorem tt_123 : tt 123 = some ti123:=rfl
theorem tt_124 : tt 124 = some ti124:=rfl
theorem tt_133 : tt 133 = some ti133:=rfl
theorem tt_134 : tt 134 = some ti134:=rfl
theorem tt_137 : tt 137 = some ti137:=rfl
theorem tt_138 : tt 138 = some ti138:=rfl
theorem tt_139 : tt 139 = some ti139:=rfl
theorem tt_142 : tt 142 = some ti142:=rfl
theorem tt_143 : tt 143 = some ti143:=rfl
theorem tt_144 : tt 144 = some ti144:=rfl
theorem tt_145 : tt 145 = some ti145:=rfl
theorem tt_155 : tt 155 = some ti155:=rfl
theorem tt_157 : tt 157 = some ti157:=rfl
theorem tt_158 : tt 158 = some ti158:=rfl
theorem tt_159 : tt 159 = some ti159:=rfl
theorem tt_160 : tt 160 = some ti160:=rfl
theorem tt_161 : tt 161 = some ti161:=rfl
theorem tt_162 : tt 162 = some ti162:=rfl
theorem tt_163 : tt 163 = some ti163:=rfl
theorem tt_164 : tt 164 = some ti164:=rfl
theorem tt_180 : tt 180 = some ti180:=rfl
theorem tt_181 : tt 181 = some ti181:=rfl
theorem tt_182 : tt 182 = some ti182:=rfl
theorem tt_184 : tt 184 = some ti184:=rfl
theorem tt_185 : tt 185 = some ti185:=rfl
theorem tt_186 : tt 186 = some ti186:=rfl
theorem tt_187 : tt 187 = some ti187:=rfl
theorem tt_216 : tt 216 = some ti216:=rfl
theorem tt_217 : tt 217 = some ti217:=rfl
theorem tt_233 : tt 233 = some ti233:=rfl
theorem tt_234 : tt 234 = some ti234:=rfl
theorem tt_247 : tt 247 = some ti247:=rfl
theorem tt_253 : tt 253 = some ti253:=rfl
theorem tt_279 : tt 279 = some ti279:=rfl
theorem tt_280 : tt 280 = some ti280:=rfl
theorem tt_284 : tt 284 = some ti284:=rfl
theorem tt_295 : tt 295 = some ti295:=rfl
theorem tt_308 : tt 308 = some ti308:=rfl
theorem tt_309 : tt 309 = some ti309:=rfl
theorem tt_322 : tt 322 = some ti322:=rfl
theorem tt_323 : tt 323 = some ti323:=rfl
theorem tt_327 : tt 327 = some ti327:=rfl
theorem tt_328 : tt 328 = some ti328:=rfl
theorem tt_338 : tt 338 = some ti338:=rfl
theorem tt_339 : tt 339 = some ti339:=rfl
theorem tt_340 : tt 340 = some ti340:=rfl
theorem tt_343 : tt 343 = some ti343:=rfl
theorem tt_344 : tt 344 = some ti344:=rfl
theorem ttab_ok : (ttab.all fun p=>tiCheck Tryz.prog p.1 p.2) = true:=by kernel_rfl
theorem tt_ok : ∀ t ti,tt t = some ti→TIok Tryz.prog t ti:=table_ok ttab_ok
theorem eok {w0 : World} {F G : Nat→Prop} {l : Bool} : EOk ⟨Tryz.prog,tt,w0,⟨F,G,l,fun _=>True⟩⟩:=⟨tt_ok,fun _ _=>trivial⟩
attribute [simp] ti2 ti3 ti4 ti5 ti6 ti7 ti8 ti9 ti10 ti11 ti12 ti13 ti14 ti21 ti22 ti23 ti24 ti25 ti26 ti27 ti28 ti29 ti30 ti32 ti33 ti34 ti35 ti36 ti37 ti38 ti39 ti59 ti61 ti65 ti66 ti67 ti69 ti72 ti73 ti74 ti75 ti76 ti84 ti92 ti93 ti123 ti124 ti133 ti134 ti137 ti138 ti139 ti142 ti143 ti144 ti145 ti155 ti157 ti158 ti159 ti160 ti161 ti162 ti163 ti164 ti180 ti181 ti182 ti184 ti185 ti186 ti187 ti216 ti217 ti233 ti234 ti247 ti253 ti279 ti280 ti284 ti295 ti308 ti309 ti322 ti323 ti327 ti328 ti338 ti339 ti340 ti343 ti344 tt_2 tt_3 tt_4 tt_5 tt_6 tt_7 tt_8 tt_9 tt_10 tt_11 tt_12 tt_13 tt_14 tt_21 tt_22 tt_23 tt_24 tt_25 tt_26 tt_27 tt_28 tt_29 tt_30 tt_32 tt_33 tt_34 tt_35 tt_36 tt_37 tt_38 tt_39 tt_59 tt_61 tt_65 tt_66 tt_67 tt_69 tt_72 tt_73 tt_74 tt_75 tt_76 tt_84 tt_92 tt_93 tt_123 tt_124 tt_133 tt_134 tt_137 tt_138 tt_139 tt_142 tt_143 tt_144 tt_145 tt_155 tt_157 tt_158 tt_159 tt_160 tt_161 tt_162 tt_163 tt_164 tt_180 tt_181 tt_182 tt_184 tt_185 tt_186 tt_187 tt_216 tt_217 tt_233 tt_234 tt_247 tt_253 tt_279 tt_280 tt_284 tt_295 tt_308 tt_309 tt_322 tt_323 tt_327 tt_328 tt_338 tt_339 tt_340 tt_343 tt_344
end Go.Proofs.YtoeofekglbdemaaGreat
namespace Go.AM
abbrev vi (n : Int) : CD:=.v (.int .i64 n)
noncomputable abbrev vb (p : Prop) : CD:=.v (.bool (dc p))
abbrev intR (n : Int) : List CD:=[vi n]
theorem dc_congr {p q : Prop} (h : p ↔ q) : dc p = dc q:=by rw [propext h]
theorem take_next {α : Type} {a b : List α} {i : Nat} (h : i < a.length) (h' : i < b.length) (ht : a.take i = b.take i) (he : a[i] = b[i]) : a.take (i + 1) = b.take (i + 1):=by
 rw [← List.take_append_getElem h,← List.take_append_getElem h',ht,he]
theorem take_all {α : Type} {a b : List α} {i : Nat} (h : a.length≤i) (hl : a.length = b.length) (ht : a.take i = b.take i) : a = b:=by
 rwa [List.take_of_length_le h,List.take_of_length_le (by omega)] at ht
theorem ne_at {α : Type} {a b : List α} {i : Nat} (h : i < a.length) (h' : i < b.length) (he : a[i]≠b[i]) : a≠b:=by
 rintro rfl;exact he rfl
theorem i64_nat {n : Nat} (h : n≤9223372036854775807) : Go.IntKind.i64.wrap (n : Int) = n:=Go.IntWalk.i64_in _ (by omega)
theorem i64_suc {n : Nat} (h : n < 9223372036854775807) : Go.IntKind.i64.wrap ((n : Int) + 1) = ((n + 1 : Nat) : Int):=by rw [Go.IntWalk.i64_in _ (by omega)];omega
@[simp] theorem tn_add {a b : Nat} : ((a : Int) + (b : Int)).toNat = a + b:=by omega
@[simp] theorem tn_suc {a n : Nat} : ((a : Int) + (OfNat.ofNat n : Int)).toNat = a + n:=by
  show ((a : Int) + ((n : Nat) : Int)).toNat = a + n
  omega
@[simp] theorem nn_add {a b : Nat} : (0 : Int)≤(a : Int) + (b : Int):=by omega
@[simp] theorem nn_suc {a n : Nat} : (0 : Int)≤(a : Int) + (OfNat.ofNat n : Int):=by
  show (0 : Int)≤(a : Int) + ((n : Nat) : Int)
  omega
@[simp] theorem cut_map {α : Type} {f : α→List CD} {l : List α} : cut (l.map f) 0 l.length = l.map f:=cut_len (by simp)
attribute [simp] cut_len
@[simp] theorem nat_lt0 {n : Nat} : ((n : Int) < 0) = False:=by simp
open Go.RowKit Go.WideShapes Go.ChangeShapes
def contig (P : Program) : Nat→List Field→Option Nat
 | o,[]=>some o
 | o,f :: fs=>if f.offset = o then contig P (o + P.cellsOf f.type) fs else none
def okT (P : Program) : Nat→TypeId→Bool
 | 0,_=>false
 | D + 1,t=>match P.underlying t with
   | some .bool=>true
   | some (.int _)=>true
   | some .string=>true
   | some (.slice e)=>decide (0 < P.cellsOf e) && okT P D e
   | some (.struct fs)=>(contig P 0 fs.toList == some (P.cellsOf t)) && fs.toList.all fun f=>okT P D f.type
   | _=>false
def Fits (P : Program) : Nat→TypeId→List CD→Prop
 | 0,_,_=>False
 | D + 1,t,ds=>match P.underlying t with
   | some .bool=>∃ b,ds = [.v (.bool b)]
   | some (.int k)=>∃ n,ds = [.v (.int k n)]∧(Lit.int k n).wf = true
   | some .string=>∃ s : ByteArray,ds = [.v (.string s)]∧s.size≤maxLen
   | some (.slice e)=>∃ rows,ds = [.s rows]∧rows.length≤maxLen∧∀ row∈rows,row.length = P.cellsOf e∧Fits P D e row
   | some (.struct fs)=>ds.length = P.cellsOf t∧∀ f∈fs.toList,Fits P D f.type ((ds.drop f.offset).take (P.cellsOf f.type))
   | _=>False
def Reads (w : World) (cs : List Value) (ds : List CD) : Prop:=ds.length = cs.length∧∀ (j : Nat) (u : Value) (d : CD),cs[j]? = some u→ds[j]? = some d→Rd w false (fun _=>True) u d
theorem Reads.one {w : World} {u : Value} {d : CD} (h : Rd w false (fun _=>True) u d) : Reads w [u] [d]:=by
 refine ⟨rfl,fun j u' d' hu hd=>?_⟩
 cases j with
 | zero=>simp at hu hd;subst hu;subst hd;exact h
 | succ j=>simp at hu
theorem reads_fields {P : Program} {w : World} {D : Nat} {cs : List Value} : ∀ (fs : List Field) (o m : Nat),contig P o fs = some m → m ≤ cs.length →
 (∀ f ∈ fs,∃ ds,Reads w ((cs.drop f.offset).take (P.cellsOf f.type)) ds ∧ Fits P D f.type ds) →
 ∃ ds,o≤m∧Reads w ((cs.drop o).take (m - o)) ds∧∀ f∈fs,o≤f.offset∧Fits P D f.type ((ds.drop (f.offset - o)).take (P.cellsOf f.type))
 | [],o,m,hc,_,_=>by
   simp only [contig,Option.some.injEq] at hc;subst hc;exact ⟨[],Nat.le_refl _,by simp [Reads],by simp⟩
 | f :: fs,o,m,hc,hm,hx=>by
   simp only [contig] at hc
   split at hc
   ·rename_i ho
    obtain ⟨ds,h1,h2,h3⟩:=reads_fields fs _ m hc hm (fun g hg=>hx g (List.mem_cons_of_mem _ hg));obtain ⟨d1,h4,h5⟩:=hx f (List.mem_cons_self ..);have hl : d1.length = P.cellsOf f.type:=by rw [h4.1];simp;omega
    refine ⟨d1 ++ ds,by omega,⟨?_,fun j u d hu hd=>?_⟩,fun g hg=>?_⟩
    ·have:=h2.1
     simp at this ⊢;omega
    ·by_cases hj : j < P.cellsOf f.type
     ·rw [List.getElem?_append_left (by omega)] at hd
      refine h4.2 j u d ?_ hd;rw [List.getElem?_take,if_pos hj,ho];rw [List.getElem?_take] at hu
      split at hu
      ·exact hu
      ·simp at hu
     ·rw [List.getElem?_append_right (by omega),hl] at hd
      refine h2.2 _ u d ?_ hd;rw [List.getElem?_take] at hu ⊢
      split at hu
      ·rw [if_pos (by omega)]
       rw [List.getElem?_drop] at hu ⊢;rw [← hu]
       congr 1
       omega
      ·simp at hu
    ·rcases List.mem_cons.1 hg with rfl | hg
     ·refine ⟨by omega,?_⟩
      rw [ho,Nat.sub_self,List.drop_zero,List.take_append_of_le_length (by omega),List.take_of_length_le (by omega)];exact h5
     ·obtain ⟨h6,h7⟩:=h3 g hg
      refine ⟨by omega,?_⟩
      have : (d1 ++ ds).drop (g.offset - o) = ds.drop (g.offset - (o + P.cellsOf f.type)):=by
       rw [List.drop_append,List.drop_of_length_le (by omega),hl,List.nil_append]
       congr 1
       omega
      rw [this];exact h7
   ·simp at hc
theorem open_data {H : Type} {enc : TypeId × Value→H} {P : Program} {w : World} {base : Nat} {spare : Nat→Bool} {held : Bool} :
 ∀ (D : Nat) (t : TypeId) (cs : List Value) (x : DataW H × List MemPlace) (fuel : Nat),okT P D t = true→DataW.trod enc P w base spare held fuel t cs = some x→∃ ds,Reads w cs ds∧Fits P D t ds:=by
 intro D
 induction D with
 | zero=>intro t cs x fuel h;simp [okT] at h
 | succ D ih=>
   intro t cs x fuel hok h;unfold okT at hok
   split at hok
   ·rename_i hu
    obtain ⟨b,rfl,-⟩:=DataW.trod_bool hu h;exact ⟨[.v (.bool b)],Reads.one (.plain rfl),by simp [Fits,hu]⟩
   ·rename_i k hu
    obtain ⟨n,rfl,-,hw⟩:=DataW.trod_int hu h;exact ⟨[.v (.int k n)],Reads.one (.plain rfl),by simp [Fits,hu,hw]⟩
   ·rename_i hu
    obtain ⟨s,rfl,-,hs⟩:=DataW.trod_string hu h;exact ⟨[.v (.string s)],Reads.one (.plain rfl),by simp [Fits,hu,hs]⟩
   ·rename_i e hu
    simp only [Bool.and_eq_true,decide_eq_true_eq] at hok;obtain ⟨hpos,hok⟩:=hok;rcases DataW.trod_slice hu h with ⟨rfl,-⟩ | ⟨a,len,cap,elems,rest,n,-,rfl,-,-,hlc,hcm,hel,hi,-⟩
    ·exact ⟨[.s []],Reads.one (.empty _ _ (fun h=>by simp at h)),by simp [Fits,hu]⟩
    ·have each : ∀ i,i < len→∃ p : List Value × List CD,w.cells? base (a.add (i * P.cellsOf e)) (P.cellsOf e) = some p.1∧Reads w p.1 p.2∧Fits P D e p.2:=by
      intro i hlt;have h1:=hi i hlt;rw [List.getElem?_eq_getElem (by omega)] at h1;obtain ⟨c,h2,h3⟩:=Option.bind_eq_some_iff.1 h1;obtain ⟨ds,h4,h5⟩:=ih e c _ n hok h3;exact ⟨(c,ds),h2,h4,h5⟩
     by_cases hl0 : len = 0
     ·subst hl0
      exact ⟨[.s []],Reads.one (.empty _ _ (fun h=>by simp at h)),by simp [Fits,hu]⟩
     ·obtain ⟨f,hf⟩:=Go.Deep.choose_lt each
      have cell : ∀ i j,i < len→j < P.cellsOf e→w.cell? (a.add (i * P.cellsOf e + j)) = (f i).1[j]?∧(f i).1.length = P.cellsOf e:=by
       intro i j hlt hj;obtain ⟨-,h2,h3⟩:=World.cells?_some (hf i hlt).1;exact ⟨by rw [← h3 j hj,Go.Deep.add_add],h2⟩
      obtain ⟨b,off,spot⟩:=a
      have hb : ∃ cs T fr,w.heap[b]? = some (.cells cs T fr)∧spot = none:=by
       obtain ⟨h1,h2⟩:=cell 0 0 (by omega) hpos;rw [List.getElem?_eq_getElem (by omega)] at h1;unfold World.cell? at h1;rw [block_add] at h1
       split at h1
       ·rename_i c T fr hh
        refine ⟨c,T,fr,hh,?_⟩
        cases spot with
        | none=>rfl
        | some s=>simp [Addr.add] at h1
       ·simp at h1
      obtain ⟨c,T,fr,hb,rfl⟩:=hb
      have at' : ∀ i j,i < len→j < P.cellsOf e→c[off + (i * P.cellsOf e + j)]? = (f i).1[j]?:=by
       intro i j hlt hj;rw [← (cell i j hlt hj).1,add_plain];simp [World.cell?,hb]
      have hrows : ((List.range len).map fun i=>(f i).2).length = len:=by simp
      have hrd:=Rd.slice (w:=w) (x:=false) (S:=fun _=>True) b off cap (P.cellsOf e) c T fr ((List.range len).map fun i=>(f i).2) (fun _ _ _=>True)
       (by rw [hrows];exact hlc) hcm hpos trivial hb (by
        rw [hrows];obtain ⟨m,rfl⟩ : ∃ m,len = m + 1:=⟨len - 1,by omega⟩;have h1:=at' m (P.cellsOf e - 1) (by omega) (by omega);rw [List.getElem?_eq_getElem (by rw [(cell m (P.cellsOf e - 1) (by omega) (by omega)).2];omega)] at h1;have h2:=(Array.getElem?_eq_some_iff.1 h1).1;rw [Nat.succ_mul];omega) (fun h=>by simp at h) (fun _ _ _ _=>⟨trivial,fun h=>by simp at h⟩) (fun h=>by simp at h)
       (fun row hrow=>by
        simp only [List.mem_map,List.mem_range] at hrow;obtain ⟨i,hlt,rfl⟩:=hrow;rw [(hf i hlt).2.1.1];exact (cell i 0 hlt hpos).2)
       (fun i j row d h1 h2=>by
        have hlt : i < len:=by have:=(List.getElem?_eq_some_iff.1 h1).1;omega
        simp only [List.getElem?_map,List.getElem?_range hlt,Option.map_some,Option.some.injEq] at h1;subst h1
        have hj : j < P.cellsOf e:=by
         have:=(List.getElem?_eq_some_iff.1 h2).1;rw [(hf i hlt).2.1.1,(cell i 0 hlt hpos).2] at this;exact this
        have h3:=at' i j hlt hj;rw [List.getElem?_eq_getElem (by rw [(cell i j hlt hj).2];exact hj)] at h3
        have h4 : c.getD (off + (i * P.cellsOf e + j)) undef = (f i).1[j]'(by rw [(cell i j hlt hj).2];exact hj):=by
         rw [Array.getD_eq_getD_getElem?,h3];rfl
        rw [h4];exact (hf i hlt).2.1.2 j _ d (List.getElem?_eq_getElem _) h2)
      rw [hrows] at hrd;refine ⟨[.s ((List.range len).map fun i=>(f i).2)],Reads.one hrd,?_⟩;simp only [Fits,hu];refine ⟨_,rfl,by rw [hrows];omega,fun row hrow=>?_⟩;simp only [List.mem_map,List.mem_range] at hrow;obtain ⟨i,hlt,rfl⟩:=hrow;exact ⟨by rw [(hf i hlt).2.1.1];exact (cell i 0 hlt hpos).2,(hf i hlt).2.2⟩
   ·rename_i fs hu
    simp only [Bool.and_eq_true,beq_iff_eq,List.all_eq_true] at hok;obtain ⟨hc,hall⟩:=hok;obtain ⟨xs,n,-,-,hcl,hxl,hi⟩:=DataW.trod_struct hu h
    obtain ⟨ds,-,h1,h2⟩:=reads_fields (w:=w) (D:=D) (cs:=cs) fs.toList 0 _ hc (by omega) (fun f hf=>by
     obtain ⟨i,hlt,rfl⟩:=List.getElem_of_mem hf;have hlt' : i < fs.size:=by simpa using hlt
     have h3:=hi i fs[i] (by simp [hlt']);rw [List.getElem?_eq_getElem (by omega)] at h3;exact ih _ _ _ n (hall _ hf) h3)
    rw [List.drop_zero,Nat.sub_zero,List.take_of_length_le (by omega)] at h1;refine ⟨ds,h1,?_⟩;simp only [Fits,hu];refine ⟨by rw [h1.1,hcl],fun f hf=>?_⟩;have:=(h2 f hf).2
    rwa [Nat.sub_zero] at this
   ·simp at hok
def FitsV (P : Program) (D : Nat) (t : TypeId) : VD→Prop
 | .c d=>Fits P D t [d]
 | .agg ds=>(∃ fs,P.underlying t = some (.struct fs))∧Fits P D t ds
theorem open_arg {H : Type} {enc : TypeId × Value→H} {P : Program} {w : World} {base b0 : Nat} {spare : Nat→Bool} {held : Bool} {r : Reach} {D : Nat} {t : TypeId} {v : Value} {d : DataW H} {ps : List MemPlace}
 (hok : okT P D t = true) (hval : Value.okWide P w r b0 t v) (h : DataW.Trod enc P w base spare held t v d ps) : ∃ vd,RdV w v vd∧FitsV P D t vd:=by
 obtain ⟨fuel,hf⟩:=h;obtain ⟨ds,hr,hfit⟩:=open_data D t _ _ fuel hok hf
 have one : v.cells = #[v]→(∀ fs,P.underlying t≠some (.struct fs))→∃ vd,RdV w v vd∧FitsV P D t vd:=by
  intro hc _;rw [hc] at hr;obtain ⟨hl,hr⟩:=hr
  cases ds with
  | nil=>simp at hl
  | cons d ds=>
    cases ds with
    | nil=>exact ⟨.c d,hr 0 v d rfl rfl,hfit⟩
    | cons _ _=>simp at hl
 cases D with
 | zero=>simp [okT] at hok
 | succ D=>
   unfold okT at hok
   split at hok
   ·rename_i hu
    obtain ⟨b,rfl⟩:=okWide_bool hu hval;exact one rfl (fun fs h=>by rw [hu] at h;simp at h)
   ·rename_i k hu
    obtain ⟨n,rfl⟩:=okWide_int hu hval;exact one rfl (fun fs h=>by rw [hu] at h;simp at h)
   ·rename_i hu
    obtain ⟨s,rfl⟩:=okWide_string hu hval;exact one rfl (fun fs h=>by rw [hu] at h;simp at h)
   ·rename_i e hu
    obtain ⟨a,l,c,rfl⟩:=okWide_slice hu hval;exact one rfl (fun fs h=>by rw [hu] at h;simp at h)
   ·rename_i fs hu
    obtain ⟨cs,rfl,-⟩:=okWide_struct hu hval;obtain ⟨hl,hr⟩:=hr;refine ⟨.agg ds,⟨cs,rfl,by simpa [Value.cells] using hl.symm,fun j d hd=>?_⟩,⟨fs,hu⟩,hfit⟩
    have hj : j < cs.size:=by
     have:=(List.getElem?_eq_some_iff.1 hd).1;simp [Value.cells] at hl;omega
    have:=hr j cs[j] d (by simp [Value.cells,hj]) hd
    simpa [hj] using this
   ·simp at hok
def Opens (P : Program) (D : Nat) (w : World) : List TypeId→List Value→List VD→Prop
 | [],[],[]=>True
 | t :: ts,v :: vs,d :: ds=>(RdV w v d∧FitsV P D t d)∧Opens P D w ts vs ds
 | _,_,_=>False
theorem open_args {H : Type} {enc : TypeId × Value→H} {P : Program} {w : World} {base b0 : Nat} {spare : Nat→Bool} {held : Bool} {r : Reach} {D : Nat} :
 ∀ (ts : List TypeId) (vs : List Value) (ds : List (DataW H)) (ps : List MemPlace),(ts.all fun t => okT P D t) = true → (∀ (j : Nat) t v,ts[j]? = some t → vs[j]? = some v → Value.okWide P w r b0 t v) →
   DataW.TrodAll enc P w base spare held ts vs ds ps→∃ vds,Opens P D w ts vs vds
 | [],vs,ds,ps,_,_,h=>by
   obtain ⟨rfl,-,-⟩:=trodAll_nil h;exact ⟨[],trivial⟩
 | t :: ts,vs,ds,ps,hok,hval,h=>by
   obtain ⟨v,vs1,d,ds1,a,b,rfl,rfl,rfl,h1,h2⟩:=trodAll_cons h;simp only [List.all_cons,Bool.and_eq_true] at hok;obtain ⟨vds,h3⟩:=open_args ts vs1 ds1 b hok.2 (fun j t v ht hv=>hval (j + 1) t v (by simpa using ht) (by simpa using hv)) h2;obtain ⟨vd,h4,h5⟩:=open_arg hok.1 (hval 0 t v rfl rfl) h1;exact ⟨vd :: vds,⟨h4,h5⟩,h3⟩
theorem Opens.reads {P : Program} {D : Nat} {w : World} : ∀ (ts : List TypeId) (vs : List Value) (vds : List VD),Opens P D w ts vs vds→vs.length = vds.length∧∀ (i : Nat) vd,vds[i]? = some vd→RdV w (vs.toArray.getD i undef) vd
 | [],[],[],_=>⟨rfl,fun i vd h=>by simp at h⟩
 | t :: ts,v :: vs,d :: ds,h=>by
   obtain ⟨h1,h2⟩:=Opens.reads ts vs ds h.2;refine ⟨by simp [h1],fun i vd hi=>?_⟩
   cases i with
   | zero=>simp at hi;subst hi;simpa using h.1.1
   | succ i=>simpa using h2 i vd (by simpa using hi)
theorem stay_args {H : Type} {enc : TypeId × Value→H} {P : Program} (hl : laidOutB P = true) {W W' : World} (hb : Below W.heap.size W W') {sp : Nat→Bool} :
 ∀ (ts : List TypeId) (vs : List Value) (ds : List (DataW H)) (ps : List MemPlace),(ts.all fun t => P.readableRec t && decide (t < P.types.size)) = true → DataW.TrodAll enc P W 0 (fun _ => true) true ts vs ds ps →
   (∀ x∈ps,x.block < W.heap.size)→(∀ x∈ps,sp x.block = true)→DataW.TrodAll enc P W' 0 sp true ts vs ds ps
 | [],vs,ds,ps,_,h,_,_=>by
   obtain ⟨rfl,rfl,rfl⟩:=trodAll_nil h;rfl
 | t :: ts,vs,ds,ps,hok,h,hlt,hsp=>by
   obtain ⟨v,vs1,d,ds1,a,b,rfl,rfl,rfl,h1,h2⟩:=trodAll_cons h;simp only [List.all_cons,Bool.and_eq_true,decide_eq_true_eq] at hok;refine ⟨a,b,WideElems.Trod_stays hl hok.1.1 hok.1.2 h1 (fun x hx=>hb.same (hlt x (by simp [hx]))) (fun x hx=>hsp x (by simp [hx])),stay_args hl hb ts vs1 ds1 b (by simpa using hok.2) h2 (fun x hx=>hlt x (by simp [hx])) (fun x hx=>hsp x (by simp [hx])),rfl⟩
theorem law_postX {L : World→Prop} {H : Type} {enc : TypeId × Value→H} {P : Program} (hlaid : laidOutB P = true) {f : FuncId} {fn : Func} {s : ChangeSpec} {apart fresh handsOn : Bool} {D : Nat} {bt : TypeId}
 (hv : s.vars = []) (hres : fn.resultTypes = #[bt]) (hbt : P.underlying bt = some .bool) (hokT : (fn.params.toList.all fun t=>okT P D t) = true) (hread : (fn.params.toList.all fun t=>P.readableRec t && decide (t < P.types.size)) = true)
 (hs : ∀ ds : List (DataW H),ds.length = fn.params.toList.length→s.fn H ds = { results:=[.lit (.bool true)],args:=ds })
 {W : World} {args : Array Value} {r : Reach} {b0 : Nat} {ds gs : List (DataW H)} {before : List MemPlace}
 (hval : ∀ (j : Nat) t v,fn.params[j]? = some t→args[j]? = some v→Value.okWide P W r b0 t v)
 (hW : DataW.Whole enc P fn.params.toList s.vars apart W args.toList ds gs before)
 (hLW : L W) (hwalk : ∀ vds,Opens P D W fn.params.toList args.toList vds→PureX P L f vds (.one (.c (.v (.bool true)) 1))) :
 Calls P f args W fun e W'=>∃ v,e = .returned v∧s.post enc P fn apart fresh handsOn false W args v W':=by
 have hW0:=hW;obtain ⟨p,q,hA,hV,rfl,hfz,hnd⟩:=hW;rw [hv] at hV;obtain ⟨rfl,rfl⟩:=trodVars_none hV;obtain ⟨vds,ho⟩:=open_args (D:=D) fn.params.toList args.toList ds p hokT (fun j t v ht hv=>hval j t v (by simpa using ht) (by simpa using hv)) hA;obtain ⟨hl,hr⟩:=Opens.reads _ _ _ ho
 have hlen : ds.length = fn.params.toList.length:=by
  have : ∀ (ts : List TypeId) (vs : List Value) (ds : List (DataW H)) (ps : List MemPlace),DataW.TrodAll enc P W 0 (fun _=>true) true ts vs ds ps→ds.length = ts.length:=by
   intro ts
   induction ts with
   | nil=>intro vs ds ps h;obtain ⟨-,rfl,-⟩:=trodAll_nil h;rfl
   | cons t ts ih=>
     intro vs ds ps h;obtain ⟨v,vs1,d,ds1,a,b,rfl,rfl,rfl,h1,h2⟩:=trodAll_cons h;simp [ih _ _ _ h2]
  exact this _ _ _ _ hA
 refine ((hwalk vds ho).2 W hLW args (by simpa using hl) (fun i vd hi=>by simpa using hr i vd hi)).mono ?_
 rintro e W' ⟨v,rfl,hb,hrr⟩
 have hv1 : v = .bool true:=hrr.1;subst hv1;have hs':=hs ds hlen;refine ⟨_,rfl,ds,[],p,[],p,[],by simpa using hW0,?_,?_,?_,?_,fun h=>by cases h⟩
 ·rw [List.append_nil,hs',hres]
  exact trodAll_mk1 (shut_bool hbt true)
 ·rw [List.append_nil,hs']
  have hlt : ∀ x∈p,x.block < W.heap.size:=fun x hx=>hW0.lt x (by simp [hx])
  exact stay_args hlaid hb _ _ _ _ hread hA hlt (fun x hx=>by simpa using hlt x hx)
 ·rw [hv]
  have : (s.fn H (ds ++ [])).vars = []:=by rw [List.append_nil,hs']
  rw [this];exact rfl
 ·exact hb.frame _
theorem law_post {H : Type} {enc : TypeId × Value→H} {P : Program} (hlaid : laidOutB P = true) {f : FuncId} {fn : Func} {s : ChangeSpec} {apart fresh handsOn : Bool} {D : Nat} {bt : TypeId}
 (hv : s.vars = []) (hres : fn.resultTypes = #[bt]) (hbt : P.underlying bt = some .bool) (hokT : (fn.params.toList.all fun t=>okT P D t) = true) (hread : (fn.params.toList.all fun t=>P.readableRec t && decide (t < P.types.size)) = true)
 (hs : ∀ ds : List (DataW H),ds.length = fn.params.toList.length→s.fn H ds = { results:=[.lit (.bool true)],args:=ds })
 {W : World} {args : Array Value} {r : Reach} {b0 : Nat} {ds gs : List (DataW H)} {before : List MemPlace}
 (hval : ∀ (j : Nat) t v,fn.params[j]? = some t→args[j]? = some v→Value.okWide P W r b0 t v)
 (hW : DataW.Whole enc P fn.params.toList s.vars apart W args.toList ds gs before)
 (hwalk : ∀ vds,Opens P D W fn.params.toList args.toList vds→PureC P f vds (.one (.c (.v (.bool true)) 1))) :
 Calls P f args W fun e W'=>∃ v,e = .returned v∧s.post enc P fn apart fresh handsOn false W args v W':=
 law_postX hlaid hv hres hbt hokT hread hs hval hW trivial hwalk
theorem wf_i64 {n : Int} (h : (Lit.int .i64 n).wf = true) : -9223372036854775808≤n∧n≤9223372036854775807:=by
 have : IntKind.i64.min = -9223372036854775808:=rfl;have h2 : IntKind.i64.max = 9223372036854775807:=rfl;simp only [Lit.wf,Bool.and_eq_true,decide_eq_true_eq] at h;omega
section
variable {P : Program} {D : Nat} {t e : TypeId} {vd : VD} {ds : List CD}
theorem fits_int {k : IntKind} (hu : P.underlying t = some (.int k)) (h : Fits P D t ds) : ∃ n,ds = [.v (.int k n)]∧(Lit.int k n).wf = true:=by
 cases D with
 | zero=>exact h.elim
 | succ D=>simpa only [Fits,hu] using h
theorem fits_bool (hu : P.underlying t = some .bool) (h : Fits P D t ds) : ∃ b,ds = [.v (.bool b)]:=by
 cases D with
 | zero=>exact h.elim
 | succ D=>simpa only [Fits,hu] using h
theorem fits_string (hu : P.underlying t = some .string) (h : Fits P D t ds) : ∃ s : ByteArray,ds = [.v (.string s)]∧s.size≤maxLen:=by
 cases D with
 | zero=>exact h.elim
 | succ D=>simpa only [Fits,hu] using h
theorem fits_slice (hu : P.underlying t = some (.slice e)) (h : Fits P D t ds) : ∃ rows,ds = [.s rows]∧rows.length≤maxLen∧∃ D',∀ row∈rows,row.length = P.cellsOf e∧Fits P D' e row:=by
 cases D with
 | zero=>exact h.elim
 | succ D=>
   simp only [Fits,hu] at h;obtain ⟨rows,h1,h2,h3⟩:=h;exact ⟨rows,h1,h2,D,h3⟩
theorem fits_struct {fs : Array Field} (hu : P.underlying t = some (.struct fs)) (h : Fits P D t ds) : ds.length = P.cellsOf t∧∃ D',∀ f∈fs.toList,Fits P D' f.type ((ds.drop f.offset).take (P.cellsOf f.type)):=by
 cases D with
 | zero=>exact h.elim
 | succ D=>
   simp only [Fits,hu] at h;exact ⟨h.1,D,h.2⟩
theorem fitsV_c {de : TypeDesc} (hu : P.underlying t = some de) (hn : ∀ fs,de≠.struct fs) (h : FitsV P D t vd) : ∃ d,vd = .c d∧Fits P D t [d]:=by
 cases vd with
 | c d=>exact ⟨d,rfl,h⟩
 | agg ds=>
   obtain ⟨⟨fs,h1⟩,-⟩:=h;rw [hu] at h1;simp only [Option.some.injEq] at h1;exact absurd h1 (hn fs)
theorem rows_map {α : Type} {f : α→List CD} {ok : α→Prop} : ∀ (rows : List (List CD)),(∀ row∈rows,∃ x,row = f x∧ok x)→∃ l : List α,rows = l.map f∧∀ x∈l,ok x
 | [],_=>⟨[],rfl,by simp⟩
 | row :: rows,h=>by
   obtain ⟨x,h1,h2⟩:=h row (List.mem_cons_self ..);obtain ⟨l,h3,h4⟩:=rows_map rows (fun r hr=>h r (List.mem_cons_of_mem _ hr));exact ⟨x :: l,by rw [h1,h3];rfl,by simpa using ⟨h2,h4⟩⟩
end
theorem Opens.nil {P : Program} {D : Nat} {w : World} {vs : List Value} {vds : List VD} (h : Opens P D w [] vs vds) : vds = []:=by
 cases vs with
 | nil=>cases vds with
   | nil=>rfl
   | cons _ _=>exact h.elim
 | cons _ _=>exact h.elim
theorem Opens.cons {P : Program} {D : Nat} {w : World} {t : TypeId} {ts : List TypeId} {vs : List Value} {vds : List VD} (h : Opens P D w (t :: ts) vs vds) :
 ∃ vd vds',vds = vd :: vds'∧FitsV P D t vd∧∃ vs',Opens P D w ts vs' vds':=by
 cases vs with
 | nil=>cases vds<;>exact h.elim
 | cons v vs=>cases vds with
   | nil=>exact h.elim
   | cons d ds=>exact ⟨d,ds,rfl,h.1.2,vs,h.2⟩
def markL {α : Type} (mk : α→Int→α) (cn : α→Nat) : List α→Int→List α
 | [],_=>[]
 | a :: l,k=>mk a k :: markL mk cn l (k + cn a)
def cntL {α : Type} (cn : α→Nat) : List α→Nat
 | []=>0
 | a :: l=>cn a + cntL cn l
section
variable {α : Type} {mk : α→Int→α} {cn : α→Nat}
theorem markL_length : ∀ (l : List α) (k : Int),(markL mk cn l k).length = l.length
 | [],_=>rfl
 | a :: l,k=>by simp [markL,markL_length l]
theorem cntL_append : ∀ (l m : List α),cntL cn (l ++ m) = cntL cn l + cntL cn m
 | [],m=>by simp [cntL]
 | a :: l,m=>by simp [cntL,cntL_append l m];omega
theorem markL_append : ∀ (l m : List α) (k : Int),markL mk cn (l ++ m) k = markL mk cn l k ++ markL mk cn m (k + cntL cn l)
 | [],m,k=>by simp [markL,cntL]
 | a :: l,m,k=>by
   simp only [List.cons_append,markL,markL_append l m,cntL];rw [show k + (cn a : Int) + (cntL cn l : Nat) = k + ((cn a + cntL cn l : Nat) : Int) by omega]
theorem cntL_take_suc {l : List α} {i : Nat} (h : i < l.length) : cntL cn (l.take (i + 1)) = cntL cn (l.take i) + cn l[i]:=by
 rw [← List.take_append_getElem h,cntL_append];simp [cntL]
theorem cntL_take_le : ∀ (l : List α) (i : Nat),cntL cn (l.take i)≤cntL cn l
 | [],i=>by simp
 | a :: l,0=>by simp [cntL]
 | a :: l,i + 1=>by simp only [List.take_succ_cons,cntL];have:=cntL_take_le l i;omega
theorem cntL_cell_le {l : List α} {i : Nat} (h : i < l.length) : cntL cn (l.take i) + cn l[i]≤cntL cn l:=by
 rw [← cntL_take_suc h];exact cntL_take_le l (i + 1)
theorem markL_get {l : List α} {k : Int} {i : Nat} (h : i < l.length) : (markL mk cn l k)[i]? = some (mk l[i] (k + cntL cn (l.take i))):=by
 induction l generalizing k i with
 | nil=>simp at h
 | cons a l ih=>
   cases i with
   | zero=>simp [markL,cntL]
   | succ i=>
     simp only [markL,List.getElem?_cons_succ,List.take_succ_cons,cntL,List.getElem_cons_succ];rw [ih (by simpa using h)]
     congr 2
     omega
def marked (mk : α→Int→α) (cn : α→Nat) (f : α→List CD) (l : List α) (k : Int) (i : Nat) : List (List CD):=(markL mk cn (l.take i) k ++ l.drop i).map f
variable {f : α→List CD} {l : List α} {k : Int} {i : Nat}
theorem marked_0 : marked mk cn f l k 0 = l.map f:=by simp [marked,markL]
theorem marked_length : (marked mk cn f l k i).length = l.length:=by simp [marked,markL_length];omega
theorem marked_all (h : l.length≤i) : marked mk cn f l k i = (markL mk cn l k).map f:=by
 simp [marked,List.take_of_length_le h,List.drop_of_length_le h]
theorem marked_row (h : i < l.length) : (marked mk cn f l k i).set i (f l[i]) = marked mk cn f l k i:=by
 unfold marked
 apply List.ext_getElem?
 intro j;rw [List.getElem?_set]
 split
 ·rename_i hj
  subst hj;have hl : (markL mk cn (l.take i) k).length = i:=by rw [markL_length];simp;omega
  rw [if_pos (by simp [markL_length];omega)];simp only [List.map_append];rw [List.getElem?_append_right (by simp [hl])];simp [hl,h]
 ·rfl
theorem marked_set (h : i < l.length) {r : List CD} (hr : r = f (mk l[i] (k + cntL cn (l.take i)))) : (marked mk cn f l k i).set i r = marked mk cn f l k (i + 1):=by
 subst hr;unfold marked;have hl : (markL mk cn (l.take i) k).length = i:=by rw [markL_length];simp;omega
 rw [← List.take_append_getElem h,markL_append,List.drop_eq_getElem_cons h];simp only [List.map_append,List.map_cons,markL,List.map_nil,List.append_assoc];rw [List.set_append_right _ _ (by simp [hl])];simp [hl]
end
theorem modify_set {xs : List (List CD)} {i : Nat} {a : List CD} {g : List CD→List CD} : (xs.set i a).modify i g = xs.set i (g a):=by
 apply List.ext_getElem?
 intro j;rw [List.getElem?_modify,List.getElem?_set,List.getElem?_set];by_cases h : i = j
 ·subst h
  by_cases h2 : i < xs.length<;>simp [h2]
 ·simp [h]
theorem setC_set {xs : List (List CD)} {i j : Nat} {a : List CD} {d : CD} : setC (xs.set i a) i j d = xs.set i (a.set j d):=modify_set
abbrev intM (_ : Int) (k : Int) : Int:=k
abbrev one {α : Type} (_ : α) : Nat:=1
theorem cntL_one {α : Type} : ∀ (l : List α),cntL one l = l.length
 | []=>rfl
 | a :: l=>by simp [cntL,one,cntL_one l];omega
end Go.AM
namespace Go.Proofs.YtoeofekglbdemaaGreat
open Go.AM
set_option maxRecDepth 20000
def i64r (n : Int) : Prop:=-9223372036854775808≤n∧n≤9223372036854775807
def sumN {α : Type} (f : α→Nat) : List α→Nat
 | []=>0
 | a :: l=>f a + sumN f l
theorem sumN_drop {α : Type} {f : α→Nat} : ∀ {l : List α} {i : Nat} (h : i < l.length),sumN f (l.drop i) = f l[i] + sumN f (l.drop (i + 1))
 | a :: l,0,_=>rfl
 | a :: l,i + 1,h=>by simpa using sumN_drop (l:=l) (i:=i) (by simpa using h)
theorem sumN_mem {α : Type} {f : α→Nat} : ∀ {l : List α} {a : α},a∈l→f a≤sumN f l
 | b :: l,a,h=>by
   simp only [sumN];rcases List.mem_cons.1 h with rfl | h
   ·omega
   ·have:=sumN_mem (f:=f) h;omega
def nL {α : Type} (f : α→Nat) (l : List α) : Nat:=l.length + sumN f l
theorem nL_len {α : Type} {f : α→Nat} {l : List α} {B : Nat} (h : nL f l≤B) : l.length≤B:=by unfold nL at h;omega
theorem nL_mem {α : Type} {f : α→Nat} {l : List α} {B : Nat} (h : nL f l≤B) {a : α} (ha : a∈l) : f a≤B:=by have:=sumN_mem (f:=f) ha;unfold nL at h;omega
theorem nL_at {α : Type} {f : α→Nat} {l : List α} {B : Nat} (h : nL f l≤B) {i : Nat} (hi : i < l.length) : f l[i]≤B:=nL_mem h (List.getElem_mem hi)
def szR (n left : Nat) : Int:=if n≤left then ((left - n : Nat) : Int) else -1
theorem szR_ok {n left : Nat} (h : n≤left) : szR n left = ((left - n : Nat) : Int):=by simp [szR,h]
theorem szR_no {n left : Nat} (h : ¬ n≤left) : szR n left = -1:=by simp [szR,h]
theorem cntL_le {α : Type} {cn n : α→Nat} (h : ∀ a,cn a≤11 * (1 + n a)) : ∀ l : List α,cntL cn l≤11 * nL n l
 | []=>by simp [cntL]
 | a :: l=>by
   have h1:=h a;have h2:=cntL_le h l;unfold nL at h2 ⊢;simp only [cntL,List.length_cons,sumN];omega
theorem cntL_le0 {α : Type} {cn : α→Nat} (h : ∀ a,cn a≤11) : ∀ l : List α,cntL cn l≤11 * l.length
 | []=>by simp [cntL]
 | a :: l=>by
   have h1:=h a;have h2:=cntL_le0 h l;simp only [cntL,List.length_cons];omega
theorem markL_cell {α : Type} {mk : α→Int→α} {cn : α→Nat} {l : List α} {k : Int} {i : Nat} (h : i < l.length) : (markL mk cn l k)[i]'(by rw [markL_length];exact h) = mk l[i] (k + cntL cn (l.take i)):=by
 have:=markL_get (mk:=mk) (cn:=cn) (k:=k) h;rw [List.getElem?_eq_getElem (by rw [markL_length];exact h)] at this;exact Option.some.inj this
noncomputable def markB (k : Int) : Bool:=dc (k.tmod 3 = 0)
def digs (n : Nat) : List UInt8:=if h : n < 10 then [UInt8.ofNat (48 + n)] else digs (n / 10) ++ [UInt8.ofNat (48 + n % 10)]
termination_by n
decreasing_by omega
def markT (k : Int) : ByteArray:=⟨(109 :: digs k.toNat).toArray⟩
structure Part where
 kind : Int
 n : Int
 signs : List Int
 deriving Inhabited
def Part.row (x : Part) : List CD:=[vi x.kind,vi x.n,.s (x.signs.map intR)]
def Part.res (x : Part) : List (CD × Nat):=[(vi x.kind,1),(vi x.n,1),(.s (x.signs.map intR),1)]
@[simp] theorem Part.row_len {x : Part} : x.row.length = 3:=rfl
def Part.fits (x : Part) : Prop:=i64r x.kind∧i64r x.n∧(x.signs.length≤9223372036854775807∧∀ n∈x.signs,i64r n)
def nPart (x : Part) : Nat:=x.signs.length
noncomputable def Part.mark (x : Part) (k : Int) : Part:=⟨k,k + 1,markL intM one x.signs (k + 1 + 1)⟩
def Part.cnt (x : Part) : Nat:=2 + (x.signs.length)
theorem Part.cnt_le (x : Part) : x.cnt≤11 * (1 + nPart x):=by
 unfold Part.cnt;simp only [nPart];omega
noncomputable def Part.markT (x : Part) (k : Int) : Part:=⟨x.kind,x.n,markL intM one x.signs (k)⟩
def Part.cntT (x : Part) : Nat:=x.signs.length
theorem Part.cntT_le (x : Part) : x.cntT≤11 * nPart x:=by
 unfold Part.cntT;simp only [nPart];omega
structure Entry where
 client : Int
 seq : Int
 o : List Part
def Entry.row (x : Entry) : List CD:=[vi x.client,vi x.seq,.s (x.o.map Part.row)]
def Entry.res (x : Entry) : List (CD × Nat):=[(vi x.client,1),(vi x.seq,1),(.s (x.o.map Part.row),3)]
@[simp] theorem Entry.row_len {x : Entry} : x.row.length = 3:=rfl
def Entry.fits (x : Entry) : Prop:=i64r x.client∧i64r x.seq∧(x.o.length≤9223372036854775807∧∀ y∈x.o,y.fits)
def nEntry (x : Entry) : Nat:=nL nPart x.o
noncomputable def Entry.mark (x : Entry) (k : Int) : Entry:=⟨k,k + 1,markL Part.mark Part.cnt x.o (k + 1 + 1)⟩
def Entry.cnt (x : Entry) : Nat:=2 + (cntL Part.cnt x.o)
theorem Entry.cnt_le (x : Entry) : x.cnt≤11 * (1 + nEntry x):=by
 unfold Entry.cnt;have h0:=cntL_le Part.cnt_le x.o;simp only [nEntry];omega
noncomputable def Entry.markT (x : Entry) (k : Int) : Entry:=⟨x.client,x.seq,markL Part.mark Part.cnt x.o (k)⟩
def Entry.cntT (x : Entry) : Nat:=cntL Part.cnt x.o
theorem Entry.cntT_le (x : Entry) : x.cntT≤11 * nEntry x:=by
 unfold Entry.cntT;have h0:=cntL_le Part.cnt_le x.o;simp only [nEntry];omega
structure Seen where
 client : Int
 seq : Int
 rev : Int
def Seen.row (x : Seen) : List CD:=[vi x.client,vi x.seq,vi x.rev]
def Seen.res (x : Seen) : List (CD × Nat):=[(vi x.client,1),(vi x.seq,1),(vi x.rev,1)]
@[simp] theorem Seen.row_len {x : Seen} : x.row.length = 3:=rfl
def Seen.fits (x : Seen) : Prop:=i64r x.client∧i64r x.seq∧i64r x.rev
noncomputable def Seen.mark (_x : Seen) (k : Int) : Seen:=⟨k,k + 1,k + 1 + 1⟩
def Seen.cnt (_x : Seen) : Nat:=3
theorem Seen.cnt_le (x : Seen) : x.cnt≤11 * 1:=by
 unfold Seen.cnt;omega
structure Doc where
 name : ByteArray
 fr : Int
 text : List Int
 list : List Entry
 seen : List Seen
def Doc.row (x : Doc) : List CD:=[.v (.string x.name),vi x.fr,.s (x.text.map intR),.s (x.list.map Entry.row),.s (x.seen.map Seen.row)]
def Doc.res (x : Doc) : List (CD × Nat):=[(.v (.string x.name),1),(vi x.fr,1),(.s (x.text.map intR),1),(.s (x.list.map Entry.row),3),(.s (x.seen.map Seen.row),3)]
@[simp] theorem Doc.row_len {x : Doc} : x.row.length = 5:=rfl
def Doc.fits (x : Doc) : Prop:=x.name.size≤9223372036854775807∧i64r x.fr∧(x.text.length≤9223372036854775807∧∀ n∈x.text,i64r n)∧(x.list.length≤9223372036854775807∧∀ y∈x.list,y.fits)∧(x.seen.length≤9223372036854775807∧∀ y∈x.seen,y.fits)
def nDoc (x : Doc) : Nat:=x.name.size + (x.text.length + (nL nEntry x.list + (x.seen.length)))
noncomputable def Doc.mark (x : Doc) (k : Int) : Doc:=⟨markT (k),k + 1,markL intM one x.text (k + 1 + 1),markL Entry.mark Entry.cnt x.list (k + 1 + 1 + (x.text.length : Nat)),markL Seen.mark Seen.cnt x.seen (k + 1 + 1 + (x.text.length : Nat) + (cntL Entry.cnt x.list : Nat))⟩
def Doc.cnt (x : Doc) : Nat:=2 + (x.text.length + (cntL Entry.cnt x.list + (cntL Seen.cnt x.seen)))
theorem Doc.cnt_le (x : Doc) : x.cnt≤11 * (1 + nDoc x):=by
 unfold Doc.cnt;have h0:=cntL_le Entry.cnt_le x.list;have h1:=cntL_le0 (fun a=>by have:=Seen.cnt_le a;omega) x.seen;simp only [nDoc];omega
noncomputable def Doc.markT (x : Doc) (k : Int) : Doc:=⟨x.name,x.fr,markL intM one x.text (k),markL Entry.mark Entry.cnt x.list (k + (x.text.length : Nat)),markL Seen.mark Seen.cnt x.seen (k + (x.text.length : Nat) + (cntL Entry.cnt x.list : Nat))⟩
def Doc.cntT (x : Doc) : Nat:=x.text.length + (cntL Entry.cnt x.list + (cntL Seen.cnt x.seen))
theorem Doc.cntT_le (x : Doc) : x.cntT≤11 * nDoc x:=by
 unfold Doc.cntT;have h0:=cntL_le Entry.cnt_le x.list;have h1:=cntL_le0 (fun a=>by have:=Seen.cnt_le a;omega) x.seen;simp only [nDoc];omega
structure Ring where
 cap : Int
 next : Int
 out : Bool
 list : List Entry
def Ring.row (x : Ring) : List CD:=[vi x.cap,vi x.next,.v (.bool x.out),.s (x.list.map Entry.row)]
def Ring.res (x : Ring) : List (CD × Nat):=[(vi x.cap,1),(vi x.next,1),(.v (.bool x.out),1),(.s (x.list.map Entry.row),3)]
@[simp] theorem Ring.row_len {x : Ring} : x.row.length = 4:=rfl
def Ring.fits (x : Ring) : Prop:=i64r x.cap∧i64r x.next∧True∧(x.list.length≤9223372036854775807∧∀ y∈x.list,y.fits)
def nRing (x : Ring) : Nat:=nL nEntry x.list
noncomputable def Ring.mark (x : Ring) (k : Int) : Ring:=⟨k,k + 1,markB (k + 1 + 1),markL Entry.mark Entry.cnt x.list (k + 1 + 1 + 1)⟩
def Ring.cnt (x : Ring) : Nat:=3 + (cntL Entry.cnt x.list)
theorem Ring.cnt_le (x : Ring) : x.cnt≤11 * (1 + nRing x):=by
 unfold Ring.cnt;have h0:=cntL_le Entry.cnt_le x.list;simp only [nRing];omega
noncomputable def Ring.markT (x : Ring) (k : Int) : Ring:=⟨x.cap,x.next,x.out,markL Entry.mark Entry.cnt x.list (k)⟩
def Ring.cntT (x : Ring) : Nat:=cntL Entry.cnt x.list
theorem Ring.cntT_le (x : Ring) : x.cntT≤11 * nRing x:=by
 unfold Ring.cntT;have h0:=cntL_le Entry.cnt_le x.list;simp only [nRing];omega
structure Sub where
 id : Int
 doc : ByteArray
 r : Ring
def Sub.row (x : Sub) : List CD:=[vi x.id,.v (.string x.doc),vi x.r.cap,vi x.r.next,.v (.bool x.r.out),.s (x.r.list.map Entry.row)]
def Sub.res (x : Sub) : List (CD × Nat):=[(vi x.id,1),(.v (.string x.doc),1),(vi x.r.cap,1),(vi x.r.next,1),(.v (.bool x.r.out),1),(.s (x.r.list.map Entry.row),3)]
@[simp] theorem Sub.row_len {x : Sub} : x.row.length = 6:=rfl
def Sub.fits (x : Sub) : Prop:=i64r x.id∧x.doc.size≤9223372036854775807∧x.r.fits
def nSub (x : Sub) : Nat:=x.doc.size + (nRing x.r)
noncomputable def Sub.mark (x : Sub) (k : Int) : Sub:=⟨k,markT (k + 1),⟨k + 1 + 1,k + 1 + 1 + 1,markB (k + 1 + 1 + 1 + 1),markL Entry.mark Entry.cnt x.r.list (k + 1 + 1 + 1 + 1 + 1)⟩⟩
def Sub.cnt (x : Sub) : Nat:=5 + (cntL Entry.cnt x.r.list)
theorem Sub.cnt_le (x : Sub) : x.cnt≤11 * (1 + nSub x):=by
 unfold Sub.cnt;have h0:=cntL_le Entry.cnt_le x.r.list;simp only [nSub,nRing];omega
noncomputable def Sub.markT (x : Sub) (k : Int) : Sub:=⟨x.id,x.doc,⟨x.r.cap,x.r.next,x.r.out,markL Entry.mark Entry.cnt x.r.list (k)⟩⟩
def Sub.cntT (x : Sub) : Nat:=cntL Entry.cnt x.r.list
theorem Sub.cntT_le (x : Sub) : x.cntT≤11 * nSub x:=by
 unfold Sub.cntT;have h0:=cntL_le Entry.cnt_le x.r.list;simp only [nSub,nRing];omega
structure Hub where
 shut : Bool
 docs : List Doc
 subs : List Sub
 last : Int
def Hub.row (x : Hub) : List CD:=[.v (.bool x.shut),.s (x.docs.map Doc.row),.s (x.subs.map Sub.row),vi x.last]
def Hub.res (x : Hub) : List (CD × Nat):=[(.v (.bool x.shut),1),(.s (x.docs.map Doc.row),5),(.s (x.subs.map Sub.row),6),(vi x.last,1)]
@[simp] theorem Hub.row_len {x : Hub} : x.row.length = 4:=rfl
def Hub.fits (x : Hub) : Prop:=True∧(x.docs.length≤9223372036854775807∧∀ y∈x.docs,y.fits)∧(x.subs.length≤9223372036854775807∧∀ y∈x.subs,y.fits)∧i64r x.last
def nHub (x : Hub) : Nat:=nL nDoc x.docs + (nL nSub x.subs)
noncomputable def Hub.markT (x : Hub) (k : Int) : Hub:=⟨x.shut,markL Doc.mark Doc.cnt x.docs (k),markL Sub.mark Sub.cnt x.subs (k + (cntL Doc.cnt x.docs : Nat)),x.last⟩
def Hub.cntT (x : Hub) : Nat:=cntL Doc.cnt x.docs + (cntL Sub.cnt x.subs)
theorem Hub.cntT_le (x : Hub) : x.cntT≤11 * nHub x:=by
 unfold Hub.cntT;have h0:=cntL_le Doc.cnt_le x.docs;have h1:=cntL_le Sub.cnt_le x.subs;simp only [nHub];omega
structure Call where
 kind : Int
 doc : ByteArray
 client : Int
 seq : Int
 n : Int
 o : List Part
 text : List Int
def Call.row (x : Call) : List CD:=[vi x.kind,.v (.string x.doc),vi x.client,vi x.seq,vi x.n,.s (x.o.map Part.row),.s (x.text.map intR)]
def Call.res (x : Call) : List (CD × Nat):=[(vi x.kind,1),(.v (.string x.doc),1),(vi x.client,1),(vi x.seq,1),(vi x.n,1),(.s (x.o.map Part.row),3),(.s (x.text.map intR),1)]
@[simp] theorem Call.row_len {x : Call} : x.row.length = 7:=rfl
def Call.fits (x : Call) : Prop:=i64r x.kind∧x.doc.size≤9223372036854775807∧i64r x.client∧i64r x.seq∧i64r x.n∧(x.o.length≤9223372036854775807∧∀ y∈x.o,y.fits)∧(x.text.length≤9223372036854775807∧∀ n∈x.text,i64r n)
def nCall (x : Call) : Nat:=x.doc.size + (nL nPart x.o + (x.text.length))
noncomputable def Call.mark (x : Call) (k : Int) : Call:=⟨k,markT (k + 1),k + 1 + 1,k + 1 + 1 + 1,k + 1 + 1 + 1 + 1,markL Part.mark Part.cnt x.o (k + 1 + 1 + 1 + 1 + 1),markL intM one x.text (k + 1 + 1 + 1 + 1 + 1 + (cntL Part.cnt x.o : Nat))⟩
def Call.cnt (x : Call) : Nat:=5 + (cntL Part.cnt x.o + (x.text.length))
theorem Call.cnt_le (x : Call) : x.cnt≤11 * (1 + nCall x):=by
 unfold Call.cnt;have h0:=cntL_le Part.cnt_le x.o;simp only [nCall];omega
noncomputable def Call.markT (x : Call) (k : Int) : Call:=⟨x.kind,x.doc,x.client,x.seq,x.n,markL Part.mark Part.cnt x.o (k),markL intM one x.text (k + (cntL Part.cnt x.o : Nat))⟩
def Call.cntT (x : Call) : Nat:=cntL Part.cnt x.o + (x.text.length)
theorem Call.cntT_le (x : Call) : x.cntT≤11 * nCall x:=by
 unfold Call.cntT;have h0:=cntL_le Part.cnt_le x.o;simp only [nCall];omega
structure Answer where
 code : Int
 rev : Int
 text : List Int
 list : List Entry
def Answer.row (x : Answer) : List CD:=[vi x.code,vi x.rev,.s (x.text.map intR),.s (x.list.map Entry.row)]
def Answer.res (x : Answer) : List (CD × Nat):=[(vi x.code,1),(vi x.rev,1),(.s (x.text.map intR),1),(.s (x.list.map Entry.row),3)]
@[simp] theorem Answer.row_len {x : Answer} : x.row.length = 4:=rfl
def Answer.fits (x : Answer) : Prop:=i64r x.code∧i64r x.rev∧(x.text.length≤9223372036854775807∧∀ n∈x.text,i64r n)∧(x.list.length≤9223372036854775807∧∀ y∈x.list,y.fits)
def nAnswer (x : Answer) : Nat:=x.text.length + (nL nEntry x.list)
noncomputable def Answer.mark (x : Answer) (k : Int) : Answer:=⟨k,k + 1,markL intM one x.text (k + 1 + 1),markL Entry.mark Entry.cnt x.list (k + 1 + 1 + (x.text.length : Nat))⟩
def Answer.cnt (x : Answer) : Nat:=2 + (x.text.length + (cntL Entry.cnt x.list))
theorem Answer.cnt_le (x : Answer) : x.cnt≤11 * (1 + nAnswer x):=by
 unfold Answer.cnt;have h0:=cntL_le Entry.cnt_le x.list;simp only [nAnswer];omega
noncomputable def Answer.markT (x : Answer) (k : Int) : Answer:=⟨x.code,x.rev,markL intM one x.text (k),markL Entry.mark Entry.cnt x.list (k + (x.text.length : Nat))⟩
def Answer.cntT (x : Answer) : Nat:=x.text.length + (cntL Entry.cnt x.list)
theorem Answer.cntT_le (x : Answer) : x.cntT≤11 * nAnswer x:=by
 unfold Answer.cntT;have h0:=cntL_le Entry.cnt_le x.list;simp only [nAnswer];omega
structure Task where
 c : Call
 pc : Int
 inv : Int
 lin : Int
 rs : Int
 a : Answer
def Task.row (x : Task) : List CD:=[vi x.c.kind,.v (.string x.c.doc),vi x.c.client,vi x.c.seq,vi x.c.n,.s (x.c.o.map Part.row),.s (x.c.text.map intR),vi x.pc,vi x.inv,vi x.lin,vi x.rs,vi x.a.code,vi x.a.rev,.s (x.a.text.map intR),.s (x.a.list.map Entry.row)]
def Task.res (x : Task) : List (CD × Nat):=[(vi x.c.kind,1),(.v (.string x.c.doc),1),(vi x.c.client,1),(vi x.c.seq,1),(vi x.c.n,1),(.s (x.c.o.map Part.row),3),(.s (x.c.text.map intR),1),(vi x.pc,1),(vi x.inv,1),(vi x.lin,1),(vi x.rs,1),(vi x.a.code,1),(vi x.a.rev,1),(.s (x.a.text.map intR),1),(.s (x.a.list.map Entry.row),3)]
@[simp] theorem Task.row_len {x : Task} : x.row.length = 15:=rfl
def Task.fits (x : Task) : Prop:=x.c.fits∧i64r x.pc∧i64r x.inv∧i64r x.lin∧i64r x.rs∧x.a.fits
def nTask (x : Task) : Nat:=nCall x.c + (nAnswer x.a)
noncomputable def Task.mark (x : Task) (k : Int) : Task:=⟨⟨k,markT (k + 1),k + 1 + 1,k + 1 + 1 + 1,k + 1 + 1 + 1 + 1,markL Part.mark Part.cnt x.c.o (k + 1 + 1 + 1 + 1 + 1),markL intM one x.c.text (k + 1 + 1 + 1 + 1 + 1 + (cntL Part.cnt x.c.o : Nat))⟩,k + 1 + 1 + 1 + 1 + 1 + (cntL Part.cnt x.c.o : Nat) + (x.c.text.length : Nat),k + 1 + 1 + 1 + 1 + 1 + (cntL Part.cnt x.c.o : Nat) + (x.c.text.length : Nat) + 1,k + 1 + 1 + 1 + 1 + 1 + (cntL Part.cnt x.c.o : Nat) + (x.c.text.length : Nat) + 1 + 1,k + 1 + 1 + 1 + 1 + 1 + (cntL Part.cnt x.c.o : Nat) + (x.c.text.length : Nat) + 1 + 1 + 1,⟨k + 1 + 1 + 1 + 1 + 1 + (cntL Part.cnt x.c.o : Nat) + (x.c.text.length : Nat) + 1 + 1 + 1 + 1,k + 1 + 1 + 1 + 1 + 1 + (cntL Part.cnt x.c.o : Nat) + (x.c.text.length : Nat) + 1 + 1 + 1 + 1 + 1,markL intM one x.a.text (k + 1 + 1 + 1 + 1 + 1 + (cntL Part.cnt x.c.o : Nat) + (x.c.text.length : Nat) + 1 + 1 + 1 + 1 + 1 + 1),markL Entry.mark Entry.cnt x.a.list (k + 1 + 1 + 1 + 1 + 1 + (cntL Part.cnt x.c.o : Nat) + (x.c.text.length : Nat) + 1 + 1 + 1 + 1 + 1 + 1 + (x.a.text.length : Nat))⟩⟩
def Task.cnt (x : Task) : Nat:=11 + (cntL Part.cnt x.c.o + (x.c.text.length + (x.a.text.length + (cntL Entry.cnt x.a.list))))
theorem Task.cnt_le (x : Task) : x.cnt≤11 * (1 + nTask x):=by
 unfold Task.cnt;have h0:=cntL_le Part.cnt_le x.c.o;have h1:=cntL_le Entry.cnt_le x.a.list;simp only [nTask,nCall,nAnswer];omega
noncomputable def Task.markT (x : Task) (k : Int) : Task:=⟨⟨x.c.kind,x.c.doc,x.c.client,x.c.seq,x.c.n,markL Part.mark Part.cnt x.c.o (k),markL intM one x.c.text (k + (cntL Part.cnt x.c.o : Nat))⟩,x.pc,x.inv,x.lin,x.rs,⟨x.a.code,x.a.rev,markL intM one x.a.text (k + (cntL Part.cnt x.c.o : Nat) + (x.c.text.length : Nat)),markL Entry.mark Entry.cnt x.a.list (k + (cntL Part.cnt x.c.o : Nat) + (x.c.text.length : Nat) + (x.a.text.length : Nat))⟩⟩
def Task.cntT (x : Task) : Nat:=cntL Part.cnt x.c.o + (x.c.text.length + (x.a.text.length + (cntL Entry.cnt x.a.list)))
theorem Task.cntT_le (x : Task) : x.cntT≤11 * nTask x:=by
 unfold Task.cntT;have h0:=cntL_le Part.cnt_le x.c.o;have h1:=cntL_le Entry.cnt_le x.a.list;simp only [nTask,nCall,nAnswer];omega
structure Queue where
 doc : ByteArray
 list : List Int
def Queue.row (x : Queue) : List CD:=[.v (.string x.doc),.s (x.list.map intR)]
def Queue.res (x : Queue) : List (CD × Nat):=[(.v (.string x.doc),1),(.s (x.list.map intR),1)]
@[simp] theorem Queue.row_len {x : Queue} : x.row.length = 2:=rfl
def Queue.fits (x : Queue) : Prop:=x.doc.size≤9223372036854775807∧(x.list.length≤9223372036854775807∧∀ n∈x.list,i64r n)
def nQueue (x : Queue) : Nat:=x.doc.size + (x.list.length)
noncomputable def Queue.mark (x : Queue) (k : Int) : Queue:=⟨markT (k),markL intM one x.list (k + 1)⟩
def Queue.cnt (x : Queue) : Nat:=1 + (x.list.length)
theorem Queue.cnt_le (x : Queue) : x.cnt≤11 * (1 + nQueue x):=by
 unfold Queue.cnt;simp only [nQueue];omega
noncomputable def Queue.markT (x : Queue) (k : Int) : Queue:=⟨x.doc,markL intM one x.list (k)⟩
def Queue.cntT (x : Queue) : Nat:=x.list.length
theorem Queue.cntT_le (x : Queue) : x.cntT≤11 * nQueue x:=by
 unfold Queue.cntT;simp only [nQueue];omega
structure Wld where
 h : Hub
 locks : List Int
 queues : List Queue
 tasks : List Task
 step : Int
def Wld.row (x : Wld) : List CD:=[.v (.bool x.h.shut),.s (x.h.docs.map Doc.row),.s (x.h.subs.map Sub.row),vi x.h.last,.s (x.locks.map intR),.s (x.queues.map Queue.row),.s (x.tasks.map Task.row),vi x.step]
def Wld.res (x : Wld) : List (CD × Nat):=[(.v (.bool x.h.shut),1),(.s (x.h.docs.map Doc.row),5),(.s (x.h.subs.map Sub.row),6),(vi x.h.last,1),(.s (x.locks.map intR),1),(.s (x.queues.map Queue.row),2),(.s (x.tasks.map Task.row),15),(vi x.step,1)]
@[simp] theorem Wld.row_len {x : Wld} : x.row.length = 8:=rfl
def Wld.fits (x : Wld) : Prop:=x.h.fits∧(x.locks.length≤9223372036854775807∧∀ n∈x.locks,i64r n)∧(x.queues.length≤9223372036854775807∧∀ y∈x.queues,y.fits)∧(x.tasks.length≤9223372036854775807∧∀ y∈x.tasks,y.fits)∧i64r x.step
def nWorld (x : Wld) : Nat:=nHub x.h + (x.locks.length + (nL nQueue x.queues + (nL nTask x.tasks)))
noncomputable def Wld.markT (x : Wld) (k : Int) : Wld:=⟨⟨x.h.shut,markL Doc.mark Doc.cnt x.h.docs (k),markL Sub.mark Sub.cnt x.h.subs (k + (cntL Doc.cnt x.h.docs : Nat)),x.h.last⟩,markL intM one x.locks (k + (cntL Doc.cnt x.h.docs : Nat) + (cntL Sub.cnt x.h.subs : Nat)),markL Queue.mark Queue.cnt x.queues (k + (cntL Doc.cnt x.h.docs : Nat) + (cntL Sub.cnt x.h.subs : Nat) + (x.locks.length : Nat)),markL Task.mark Task.cnt x.tasks (k + (cntL Doc.cnt x.h.docs : Nat) + (cntL Sub.cnt x.h.subs : Nat) + (x.locks.length : Nat) + (cntL Queue.cnt x.queues : Nat)),x.step⟩
def Wld.cntT (x : Wld) : Nat:=cntL Doc.cnt x.h.docs + (cntL Sub.cnt x.h.subs + (x.locks.length + (cntL Queue.cnt x.queues + (cntL Task.cnt x.tasks))))
theorem Wld.cntT_le (x : Wld) : x.cntT≤11 * nWorld x:=by
 unfold Wld.cntT;have h0:=cntL_le Doc.cnt_le x.h.docs;have h1:=cntL_le Sub.cnt_le x.h.subs;have h2:=cntL_le Queue.cnt_le x.queues;have h3:=cntL_le Task.cnt_le x.tasks;simp only [nWorld,nHub];omega
theorem mix : Tryz.prog.follows .mixedOrders = true:=by kernel_rfl
theorem szIntS_c (l : List Int) (hl : l.length≤9223372036854775807) (left : Nat) (hf : left≤2 ^ 20) : PureC Tryz.prog 49 [.c (.s (l.map intR)),.c (vi left)] (.one (.c (vi (szR l.length left)) 1)):=by
 refine PureC.intro' tt_ok Tryz.func49 (by kernel_rfl) rfl rfl rfl (Nat.le_of_ble_eq_true rfl) (fun w0 base=>?_);have hw : IntKind.i64.wrap ((left : Int) - (l.length : Int)) = (left : Int) - l.length:=IntWalk.i64_in _ (by omega);simp [hw];by_cases h : l.length≤left
 ·have hz : ¬ (left : Int) - l.length < 0:=by omega
  simp [hz,szR_ok h];omega
 ·have hz : (left : Int) - l.length < 0:=by omega
  simp [hz,szR_no h]
theorem toIntS_c (l : List Int) (hl : l.length≤2 ^ 40) : PureC Tryz.prog 21 [.c (.s (l.map intR))] (.one (.c (.s (l.map intR)) 1)):=by
 refine PureC.intro' tt_ok Tryz.func21 (by kernel_rfl) rfl rfl rfl (Nat.le_of_ble_eq_true rfl) (fun w0 base=>?_);simp;refine ⟨by omega,fun b=>?_⟩
 refine LoopT.intro eok (fun i : Nat=>i≤l.length) (fun i=>⟨22,0,[(4,.v (.int .i64 i)),(3,.sl 112 (some (b,0,l.length)) 1 0 l.length),(0,.ro (l.map intR))],
  [(112,.rows (some (b,0,l.length)) 1 (fillR intR [.v (.int .i64 0)] l i) true)]⟩) (fun i=>l.length - i) 0 (by simp) (by simp [fillR_0]) (fun i hi=>?_)
 by_cases h : i < l.length
 ·simp [h,fillR_length hi]
  exact ⟨i + 1,by omega,by omega,i64_suc (by omega),fillR_set (f:=intR) h⟩
 ·have : i = l.length:=by omega
  subst this;simp [fillR_all,cut]
theorem eqIntS_c (a b : List Int) (hl : a.length≤2 ^ 40) : PureC Tryz.prog 23 [.c (.s (a.map intR)),.c (.s (b.map intR))] (.one (.c (vb (a = b)) 1)):=by
 refine PureC.intro' tt_ok Tryz.func23 (by kernel_rfl) rfl rfl rfl (Nat.le_of_ble_eq_true rfl) (fun w0 base=>?_);by_cases h : a.length = b.length
 ·simp [h]
  refine LoopT.intro eok (fun i : Nat=>i≤a.length∧a.take i = b.take i) (fun i=>⟨26,0,[(5,.v (.int .i64 i)),(1,.ro (b.map intR)),(0,.ro (a.map intR))],[]⟩) (fun i=>a.length - i) 0 (by simp) (by simp) (fun i hi=>?_);by_cases hlt : i < a.length
  ·simp [hlt]
   have hlt' : i < b.length:=by omega
   refine DrawT.quiet eok mix (by kernel_rfl) ?_;simp [hlt,hlt'];refine Br.mk (fun h1=>?_) (fun h1=>?_)
   ·simp
    exact ⟨i + 1,⟨by omega,take_next hlt hlt' hi.2 (of_yes h1)⟩,by omega,i64_suc (by omega)⟩
   ·simp [dc_no]
    exact ne_at hlt hlt' (fun he=>of_no h1 (by rw [he]))
  ·simp [hlt,dc_yes]
   exact take_all (by omega) (by omega) hi.2
 ·have hz : ¬ (a.length : Int) = b.length:=by omega
  simp [hz,dc_no];exact fun h2=>absurd (by rw [h2]) h
theorem markIntS_c (l : List Int) (k : Int) (h0 : 0≤k) (hk : k + l.length≤4611686018427387904) : MarkC Tryz.prog 24 (.c (.s (l.map intR)) 1) k (k + l.length) (.c (.s ((markL intM one l k).map intR)) 1):=by
 refine MarkC.intro tt_ok Tryz.func24 (by kernel_rfl) rfl rfl rfl (by decide) (fun w0 base=>?_);simp;intro H;refine LoopT.introG eok (fun i : Nat=>i≤l.length) (fun i=>⟨19,0,[(5,.v (.int .i64 i)),(1,.v (.int .i64 (k + i))),(0,.ml 0 H 1 l.length)],[(0,.rows H 1 (marked intM one intR l k i) true)]⟩) (fun i=>l.length - i) 0 (by simp) (by simp [marked_0]) (fun i hi=>Ent.refl ?_);by_cases h : i < l.length
 ·simp [h,marked_length]
  refine Ent.refl ⟨i + 1,by omega,by omega,?_⟩;have e1 : Go.IntKind.i64.wrap (k + (i : Int) + 1) = k + ((i + 1 : Nat) : Int):=by rw [Go.IntWalk.i64_in _ (by omega)];omega
  have e2 : Go.IntKind.i64.wrap ((i : Int) + 1) = ((i + 1 : Nat) : Int):=i64_suc (by omega);simp [e1,e2];refine marked_set h ?_;simp [intR,cntL_one];omega
 ·have : i = l.length:=by omega
  subst this;simp [marked_all,markL_length]
theorem heldIntS_c (l : List Int) (k : Int) (h0 : 0≤k) (hk : k + l.length≤4611686018427387904) : PureC Tryz.prog 69 [.c (.s ((markL intM one l k).map intR)),.c (vi k)] (.one (.c (vi (k + l.length)) 1)):=by
 refine PureC.intro' tt_ok Tryz.func69 (by kernel_rfl) rfl rfl rfl (Nat.le_of_ble_eq_true rfl) (fun w0 base=>?_);simp;refine LoopT.intro eok (fun i : Nat=>i≤l.length) (fun i=>⟨21,0,[(5,.v (.int .i64 i)),(1,.v (.int .i64 (k + i))),(0,.ro ((markL intM one l k).map intR))],[]⟩) (fun i=>l.length - i) 0 (by simp) (by simp) (fun i hi=>?_);by_cases h : i < l.length
 ·have e1 : Go.IntKind.i64.wrap (k + (i : Int) + 1) = k + ((i + 1 : Nat) : Int):=by rw [Go.IntWalk.i64_in _ (by omega)];omega
  have e2 : Go.IntKind.i64.wrap ((i : Int) + 1) = ((i + 1 : Nat) : Int):=i64_suc (by omega)
  have hm : (markL intM one l k)[i]'(by rw [markL_length];exact h) = k + i:=by
   rw [markL_cell h,cntL_one,List.length_take,Nat.min_eq_left (by omega)]
  simp [h,markL_length,hm];refine ⟨i + 1,by omega,by omega,?_,?_⟩
  ·exact e2
  ·exact e1
 ·have : i = l.length:=by omega
  subst this;simp [markL_length]
end Go.Proofs.YtoeofekglbdemaaGreat
