import Derived.Test.YtoldjebobgocpaaGreatMG
import Derived.Test.YtoldjebobgocpaaGreatRows
import Derived.Test.YtoldjebobgocpaaGreatME
import Derived.IntWalk
import Derived.ProofKit
import Derived.Deep.Slices
import Derived.Test.YtoldjebobgocpaaGreatMF
namespace Go.Proofs.YtoldjebobgocpaaGreat
open Go.AM
def ti2 : TI:={ n:=1,zero:=[.v (.int .i64 0)],bytes:=8,kind:=some .i64 }
def ti3 : TI:={ n:=1,zero:=[.v (.int .i64 0)],bytes:=8,kind:=some .i64 }
def ti4 : TI:={ n:=1,zero:=[.v (.bool false)],bytes:=1,boo:=true }
def ti5 : TI:={ n:=1,zero:=[.v (.int .u8 0)],bytes:=1,kind:=some .u8 }
def ti6 : TI:={ n:=1,zero:=[.v (.int .u8 0)],bytes:=1,kind:=some .u8 }
def ti7 : TI:={ agg:=true,n:=4,zero:=[.v (.int .i64 0),.v (.int .i64 0),.v (.bool false),.v (.int .u8 0)],fields:=[(0,1),(1,1),(2,1),(3,1)],fagg:=[false,false,false,false],bytes:=24,pln:=true }
def ti8 : TI:={ agg:=true,n:=4,zero:=[.v (.int .i64 0),.v (.int .i64 0),.v (.bool false),.v (.int .u8 0)],fields:=[(0,1),(1,1),(2,1),(3,1)],fagg:=[false,false,false,false],bytes:=24,pln:=true }
def ti9 : TI:={ n:=1,zero:=[.v (.string ⟨#[]⟩)],bytes:=16,str:=true }
def JZ : TI:={ n:=1,zero:=[.v (.string ⟨#[]⟩)],bytes:=16,str:=true }
def JY : TI:={ n:=1,zero:=[.v (.string ⟨#[]⟩)],bytes:=16,str:=true }
def JX : TI:={ n:=1,zero:=[.v (.int .u64 0)],bytes:=8,kind:=some .u64 }
def JW : TI:={ agg:=true,n:=2,zero:=[.v (.string ⟨#[]⟩),.v (.int .u64 0)],fields:=[(0,1),(1,1)],fagg:=[false,false],bytes:=24,pln:=true }
def JV : TI:={ agg:=true,n:=2,zero:=[.v (.string ⟨#[]⟩),.v (.int .u64 0)],fields:=[(0,1),(1,1)],fagg:=[false,false],bytes:=24,pln:=true }
def JU : TI:={ n:=1,zero:=[.v (.int .i32 0)],bytes:=4,kind:=some .i32 }
def JT : TI:={ n:=1,zero:=[.nil],sl:=some 227,bytes:=24,pln:=false }
def JS : TI:={ n:=1,zero:=[.nil],sl:=some 232,bytes:=24,pln:=false }
def JR : TI:={ agg:=true,n:=4,zero:=[.v (.bool false),.nil,.nil,.v (.int .i64 0)],fields:=[(0,1),(1,1),(2,1),(3,1)],fagg:=[false,false,false,false],bytes:=64,pln:=false }
def JQ : TI:={ agg:=true,n:=4,zero:=[.v (.bool false),.nil,.nil,.v (.int .i64 0)],fields:=[(0,1),(1,1),(2,1),(3,1)],fagg:=[false,false,false,false],bytes:=64,pln:=false }
def JP : TI:={ n:=1,zero:=[.nil],sl:=some 3,bytes:=24,pln:=false }
def JO : TI:={ n:=1,zero:=[.nil],sl:=some 201,bytes:=24,pln:=false }
def JN : TI:={ n:=1,zero:=[.nil],sl:=some 210,bytes:=24,pln:=false }
def JM : TI:={ agg:=true,n:=8,zero:=[.v (.bool false),.nil,.nil,.v (.int .i64 0),.nil,.nil,.nil,.v (.int .i64 0)],fields:=[(0,4),(4,1),(5,1),(6,1),(7,1)],fagg:=[true,false,false,false,false],bytes:=144,pln:=false }
def JL : TI:={ agg:=true,n:=8,zero:=[.v (.bool false),.nil,.nil,.v (.int .i64 0),.nil,.nil,.nil,.v (.int .i64 0)],fields:=[(0,4),(4,1),(5,1),(6,1),(7,1)],fagg:=[true,false,false,false,false],bytes:=144,pln:=false }
def JK : TI:={ n:=1,zero:=[.nil],sl:=some 89,bytes:=24,pln:=false }
def JJ : TI:={ n:=1,zero:=[.nil],sl:=some 159,bytes:=24,pln:=false }
def JI : TI:={ agg:=true,n:=4,zero:=[.v (.bool false),.nil,.nil,.v (.int .i64 0)],fields:=[(0,1),(1,1),(2,1),(3,1)],fagg:=[false,false,false,false],bytes:=64,pln:=false }
def JH : TI:={ agg:=true,n:=4,zero:=[.v (.bool false),.nil,.nil,.v (.int .i64 0)],fields:=[(0,1),(1,1),(2,1),(3,1)],fagg:=[false,false,false,false],bytes:=64,pln:=false }
def JG : TI:={ n:=1,zero:=[.nil],sl:=some 166,bytes:=24,pln:=false }
def JF : TI:={ n:=1,zero:=[.nil],sl:=some 74,bytes:=24,pln:=false }
def JE : TI:={ agg:=true,n:=8,zero:=[.v (.bool false),.nil,.nil,.v (.int .i64 0),.nil,.nil,.nil,.v (.int .i64 0)],fields:=[(0,4),(4,1),(5,1),(6,1),(7,1)],fagg:=[true,false,false,false,false],bytes:=144,pln:=false }
def JD : TI:={ agg:=true,n:=8,zero:=[.v (.bool false),.nil,.nil,.v (.int .i64 0),.nil,.nil,.nil,.v (.int .i64 0)],fields:=[(0,4),(4,1),(5,1),(6,1),(7,1)],fagg:=[true,false,false,false,false],bytes:=144,pln:=false }
def JC : TI:={ n:=1,zero:=[.nil],sl:=some 5,bytes:=24,pln:=false }
def JB : TI:={ n:=1,zero:=[.nil],sl:=some 65,bytes:=24,pln:=false }
def JA : TI:={ n:=1,zero:=[.nil],sl:=some 291,bytes:=24,pln:=false }
def Jz : TI:={ agg:=true,n:=7,zero:=[.v (.int .i64 0),.v (.string ⟨#[]⟩),.v (.int .i64 0),.v (.int .i64 0),.v (.int .i64 0),.nil,.nil],fields:=[(0,1),(1,1),(2,1),(3,1),(4,1),(5,1),(6,1)],fagg:=[false,false,false,false,false,false,false],bytes:=96,pln:=false }
def Jy : TI:={ agg:=true,n:=7,zero:=[.v (.int .i64 0),.v (.string ⟨#[]⟩),.v (.int .i64 0),.v (.int .i64 0),.v (.int .i64 0),.nil,.nil],fields:=[(0,1),(1,1),(2,1),(3,1),(4,1),(5,1),(6,1)],fagg:=[false,false,false,false,false,false,false],bytes:=96,pln:=false }
def Jx : TI:={ n:=1,zero:=[.nil],sl:=some 72,bytes:=24,pln:=false }
def Jw : TI:={ n:=1,zero:=[.nil],sl:=some 151,bytes:=24,pln:=false }
def Jv : TI:={ agg:=true,n:=4,zero:=[.v (.int .i64 0),.v (.int .i64 0),.nil,.nil],fields:=[(0,1),(1,1),(2,1),(3,1)],fagg:=[false,false,false,false],bytes:=64,pln:=false }
def Ju : TI:={ agg:=true,n:=4,zero:=[.v (.int .i64 0),.v (.int .i64 0),.nil,.nil],fields:=[(0,1),(1,1),(2,1),(3,1)],fagg:=[false,false,false,false],bytes:=64,pln:=false }
def Jt : TI:={ agg:=true,n:=15,zero:=[.v (.int .i64 0),.v (.string ⟨#[]⟩),.v (.int .i64 0),.v (.int .i64 0),.v (.int .i64 0),.nil,.nil,.v (.int .i64 0),.v (.int .i64 0),.v (.int .i64 0),.v (.int .i64 0),.v (.int .i64 0),.v (.int .i64 0),.nil,.nil],fields:=[(0,7),(7,1),(8,1),(9,1),(10,1),(11,4)],fagg:=[true,false,false,false,false,true],bytes:=192,pln:=false }
def Js : TI:={ agg:=true,n:=15,zero:=[.v (.int .i64 0),.v (.string ⟨#[]⟩),.v (.int .i64 0),.v (.int .i64 0),.v (.int .i64 0),.nil,.nil,.v (.int .i64 0),.v (.int .i64 0),.v (.int .i64 0),.v (.int .i64 0),.v (.int .i64 0),.v (.int .i64 0),.nil,.nil],fields:=[(0,7),(7,1),(8,1),(9,1),(10,1),(11,4)],fagg:=[true,false,false,false,false,true],bytes:=192,pln:=false }
def Jr : TI:={ n:=1,zero:=[.nil],sl:=some 9,bytes:=24,pln:=false }
def Jq : TI:={ n:=1,zero:=[.nil],sl:=some 188,bytes:=24,pln:=false }
def Jp : TI:={ agg:=true,n:=5,zero:=[.v (.string ⟨#[]⟩),.v (.int .i64 0),.nil,.nil,.nil],fields:=[(0,1),(1,1),(2,1),(3,1),(4,1)],fagg:=[false,false,false,false,false],bytes:=96,pln:=false }
def rA : TI:={ agg:=true,n:=5,zero:=[.v (.string ⟨#[]⟩),.v (.int .i64 0),.nil,.nil,.nil],fields:=[(0,1),(1,1),(2,1),(3,1),(4,1)],fagg:=[false,false,false,false,false],bytes:=96,pln:=false }
def Jo : TI:={ n:=1,zero:=[.nil],sl:=some 103,bytes:=24,pln:=false }
def Jn : TI:={ agg:=true,n:=6,zero:=[.v (.string ⟨#[]⟩),.v (.int .i64 0),.nil,.nil,.nil,.nil],fields:=[(0,5),(5,1)],fagg:=[true,false],bytes:=120,pln:=false }
def Jm : TI:={ agg:=true,n:=6,zero:=[.v (.string ⟨#[]⟩),.v (.int .i64 0),.nil,.nil,.nil,.nil],fields:=[(0,5),(5,1)],fagg:=[true,false],bytes:=120,pln:=false }
def Jl : TI:={ agg:=true,n:=4,zero:=[.v (.int .i64 0),.v (.int .i64 0),.v (.int .i64 0),.nil],fields:=[(0,1),(1,1),(2,1),(3,1)],fagg:=[false,false,false,false],bytes:=48,pln:=false }
def Jk : TI:={ agg:=true,n:=4,zero:=[.v (.int .i64 0),.v (.int .i64 0),.v (.int .i64 0),.nil],fields:=[(0,1),(1,1),(2,1),(3,1)],fagg:=[false,false,false,false],bytes:=48,pln:=false }
def Df : TI:={ agg:=true,n:=7,zero:=[.v (.int .i64 0),.v (.int .i64 0),.v (.int .i64 0),.nil,.v (.bool false),.nil,.nil],fields:=[(0,1),(1,1),(2,1),(3,1),(4,1),(5,1),(6,1)],fagg:=[false,false,false,false,false,false,false],bytes:=104,pln:=false }
def De : TI:={ agg:=true,n:=7,zero:=[.v (.int .i64 0),.v (.int .i64 0),.v (.int .i64 0),.nil,.v (.bool false),.nil,.nil],fields:=[(0,1),(1,1),(2,1),(3,1),(4,1),(5,1),(6,1)],fagg:=[false,false,false,false,false,false,false],bytes:=104,pln:=false }
def Dd : TI:={ agg:=true,n:=3,zero:=[.nil,.v (.int .i64 0),.v (.int .i64 0)],fields:=[(0,1),(1,1),(2,1)],fagg:=[false,false,false],bytes:=40,pln:=false }
def Dc : TI:={ agg:=true,n:=3,zero:=[.nil,.v (.int .i64 0),.v (.int .i64 0)],fields:=[(0,1),(1,1),(2,1)],fagg:=[false,false,false],bytes:=40,pln:=false }
def Db : TI:={ agg:=true,n:=3,zero:=[.v (.int .i64 0),.v (.int .i64 0),.nil],fields:=[(0,1),(1,1),(2,1)],fagg:=[false,false,false],bytes:=40,pln:=false }
def Da : TI:={ agg:=true,n:=3,zero:=[.v (.int .i64 0),.v (.int .i64 0),.nil],fields:=[(0,1),(1,1),(2,1)],fagg:=[false,false,false],bytes:=40,pln:=false }
def C9 : TI:={ agg:=true,n:=4,zero:=[.v (.int .i64 0),.v (.int .i64 0),.v (.bool false),.nil],fields:=[(0,1),(1,1),(2,1),(3,1)],fagg:=[false,false,false,false],bytes:=48,pln:=false }
def C8 : TI:={ agg:=true,n:=4,zero:=[.v (.int .i64 0),.v (.int .i64 0),.v (.bool false),.nil],fields:=[(0,1),(1,1),(2,1),(3,1)],fagg:=[false,false,false,false],bytes:=48,pln:=false }
def C7 : TI:={ agg:=true,n:=6,zero:=[.v (.int .i64 0),.v (.string ⟨#[]⟩),.v (.int .i64 0),.v (.int .i64 0),.v (.bool false),.nil],fields:=[(0,1),(1,1),(2,4)],fagg:=[false,false,true],bytes:=72,pln:=false }
def C6 : TI:={ agg:=true,n:=6,zero:=[.v (.int .i64 0),.v (.string ⟨#[]⟩),.v (.int .i64 0),.v (.int .i64 0),.v (.bool false),.nil],fields:=[(0,1),(1,1),(2,4)],fagg:=[false,false,true],bytes:=72,pln:=false }
def C5 : TI:={ agg:=true,n:=2,zero:=[.v (.string ⟨#[]⟩),.nil],fields:=[(0,1),(1,1)],fagg:=[false,false],bytes:=40,pln:=false }
def C4 : TI:={ agg:=true,n:=2,zero:=[.v (.string ⟨#[]⟩),.nil],fields:=[(0,1),(1,1)],fagg:=[false,false],bytes:=40,pln:=false }
def C3 : TI:={ agg:=true,n:=3,zero:=[.v (.int .i64 0),.v (.int .i64 0),.v (.int .i64 0)],fields:=[(0,1),(1,1),(2,1)],fagg:=[false,false,false],bytes:=24,pln:=true,ieq:=true }
def lN : TI:={ agg:=true,n:=3,zero:=[.v (.int .i64 0),.v (.int .i64 0),.v (.int .i64 0)],fields:=[(0,1),(1,1),(2,1)],fagg:=[false,false,false],bytes:=24,pln:=true,ieq:=true }
def C2 : TI:={ n:=1,zero:=[.nil],sl:=some 63,bytes:=24,pln:=false }
def C1 : TI:={ agg:=true,n:=2,zero:=[.v (.string ⟨#[]⟩),.nil],fields:=[(0,1),(1,1)],fagg:=[false,false],bytes:=40,pln:=false }
def CZ : TI:={ n:=1,zero:=[.nil],sl:=some 354,bytes:=24,pln:=false }
def CY : TI:={ agg:=true,n:=7,zero:=[.v (.int .i64 0),.v (.string ⟨#[]⟩),.v (.int .i64 0),.v (.int .i64 0),.v (.int .i64 0),.nil,.nil],fields:=[(0,1),(1,1),(2,1),(3,1),(4,1),(5,1),(6,1)],fagg:=[false,false,false,false,false,false,false],bytes:=96,pln:=false }
def CX : TI:={ agg:=true,n:=7,zero:=[.v (.int .i64 0),.v (.string ⟨#[]⟩),.v (.int .i64 0),.v (.int .i64 0),.v (.int .i64 0),.nil,.nil],fields:=[(0,1),(1,1),(2,1),(3,1),(4,1),(5,1),(6,1)],fagg:=[false,false,false,false,false,false,false],bytes:=96,pln:=false }
def CW : TI:={ n:=1,zero:=[.nil],sl:=some 337,bytes:=24,pln:=false }
def CV : TI:={ agg:=true,n:=4,zero:=[.v (.int .i64 0),.v (.int .i64 0),.nil,.nil],fields:=[(0,1),(1,1),(2,1),(3,1)],fagg:=[false,false,false,false],bytes:=64,pln:=false }
def CU : TI:={ agg:=true,n:=4,zero:=[.v (.int .i64 0),.v (.int .i64 0),.nil,.nil],fields:=[(0,1),(1,1),(2,1),(3,1)],fagg:=[false,false,false,false],bytes:=64,pln:=false }
def CT : TI:={ agg:=true,n:=15,zero:=[.v (.int .i64 0),.v (.string ⟨#[]⟩),.v (.int .i64 0),.v (.int .i64 0),.v (.int .i64 0),.nil,.nil,.v (.int .i64 0),.v (.int .i64 0),.v (.int .i64 0),.v (.int .i64 0),.v (.int .i64 0),.v (.int .i64 0),.nil,.nil],fields:=[(0,7),(7,1),(8,1),(9,1),(10,1),(11,4)],fagg:=[true,false,false,false,false,true],bytes:=192,pln:=false }
def CS : TI:={ agg:=true,n:=15,zero:=[.v (.int .i64 0),.v (.string ⟨#[]⟩),.v (.int .i64 0),.v (.int .i64 0),.v (.int .i64 0),.nil,.nil,.v (.int .i64 0),.v (.int .i64 0),.v (.int .i64 0),.v (.int .i64 0),.v (.int .i64 0),.v (.int .i64 0),.nil,.nil],fields:=[(0,7),(7,1),(8,1),(9,1),(10,1),(11,4)],fagg:=[true,false,false,false,false,true],bytes:=192,pln:=false }
def CQ : TI:={ n:=1,zero:=[.nil],sl:=some 341,bytes:=24,pln:=false }
def CO : TI:={ agg:=true,n:=5,zero:=[.v (.string ⟨#[]⟩),.v (.int .i64 0),.nil,.nil,.nil],fields:=[(0,1),(1,1),(2,1),(3,1),(4,1)],fagg:=[false,false,false,false,false],bytes:=96,pln:=false }
def CN : TI:={ agg:=true,n:=5,zero:=[.v (.string ⟨#[]⟩),.v (.int .i64 0),.nil,.nil,.nil],fields:=[(0,1),(1,1),(2,1),(3,1),(4,1)],fagg:=[false,false,false,false,false],bytes:=96,pln:=false }
def CM : TI:={ agg:=true,n:=4,zero:=[.v (.int .i64 0),.v (.int .i64 0),.v (.bool false),.nil],fields:=[(0,1),(1,1),(2,1),(3,1)],fagg:=[false,false,false,false],bytes:=48,pln:=false }
def CK : TI:={ agg:=true,n:=4,zero:=[.v (.int .i64 0),.v (.int .i64 0),.v (.bool false),.nil],fields:=[(0,1),(1,1),(2,1),(3,1)],fagg:=[false,false,false,false],bytes:=48,pln:=false }
def CJ : TI:={ agg:=true,n:=6,zero:=[.v (.int .i64 0),.v (.string ⟨#[]⟩),.v (.int .i64 0),.v (.int .i64 0),.v (.bool false),.nil],fields:=[(0,1),(1,1),(2,4)],fagg:=[false,false,true],bytes:=72,pln:=false }
def CI : TI:={ agg:=true,n:=6,zero:=[.v (.int .i64 0),.v (.string ⟨#[]⟩),.v (.int .i64 0),.v (.int .i64 0),.v (.bool false),.nil],fields:=[(0,1),(1,1),(2,4)],fagg:=[false,false,true],bytes:=72,pln:=false }
def CH : TI:={ agg:=true,n:=3,zero:=[.v (.int .i64 0),.v (.int .i64 0),.nil],fields:=[(0,1),(1,1),(2,1)],fagg:=[false,false,false],bytes:=40,pln:=false }
def CG : TI:={ agg:=true,n:=3,zero:=[.v (.int .i64 0),.v (.int .i64 0),.nil],fields:=[(0,1),(1,1),(2,1)],fagg:=[false,false,false],bytes:=40,pln:=false }
def CF : TI:={ n:=1,zero:=[.v (.int .u64 0)],bytes:=8,kind:=some .u64 }
def CE : TI:={ agg:=true,n:=1,zero:=[.nil],fields:=[(0,1)],fagg:=[false],bytes:=24,pln:=false }
def CC : TI:={ agg:=true,n:=1,zero:=[.nil],fields:=[(0,1)],fagg:=[false],bytes:=24,pln:=false }
def CB : TI:={ agg:=true,n:=3,zero:=[.v (.int .i64 0),.v (.int .i64 0),.nil],fields:=[(0,1),(1,1),(2,1)],fagg:=[false,false,false],bytes:=40,pln:=false }
def CA : TI:={ agg:=true,n:=3,zero:=[.v (.int .i64 0),.v (.int .i64 0),.nil],fields:=[(0,1),(1,1),(2,1)],fagg:=[false,false,false],bytes:=40,pln:=false }
def Cz : TI:={ agg:=true,n:=3,zero:=[.v (.int .i64 0),.v (.int .i64 0),.v (.int .i64 0)],fields:=[(0,1),(1,1),(2,1)],fagg:=[false,false,false],bytes:=24,pln:=true,ieq:=true }
def Cy : TI:={ agg:=true,n:=3,zero:=[.v (.int .i64 0),.v (.int .i64 0),.nil],fields:=[(0,1),(1,1),(2,1)],fagg:=[false,false,false],bytes:=40,pln:=false }
def Cx : TI:={ agg:=true,n:=3,zero:=[.nil,.v (.int .i64 0),.v (.int .i64 0)],fields:=[(0,1),(1,1),(2,1)],fagg:=[false,false,false],bytes:=40,pln:=false }
def Cw : TI:={ agg:=true,n:=3,zero:=[.nil,.v (.int .i64 0),.v (.int .i64 0)],fields:=[(0,1),(1,1),(2,1)],fagg:=[false,false,false],bytes:=40,pln:=false }
def Ct : TI:={ agg:=true,n:=3,zero:=[.nil,.nil,.v (.int .i64 0)],fields:=[(0,1),(1,1),(2,1)],fagg:=[false,false,false],bytes:=56,pln:=false }
def Cs : TI:={ agg:=true,n:=3,zero:=[.nil,.nil,.v (.int .i64 0)],fields:=[(0,1),(1,1),(2,1)],fagg:=[false,false,false],bytes:=56,pln:=false }
def Cr : TI:={ n:=1,zero:=[.v (.int .u32 0)],bytes:=4,kind:=some .u32 }
def Cq : TI:={ n:=1,zero:=[.v (.int .u8 0)],bytes:=1,kind:=some .u8 }
def Cp : TI:={ n:=1,zero:=[.v (.int .u8 0)],bytes:=1,kind:=some .u8 }
def Co : TI:={ n:=1,zero:=[.v (.int .i32 0)],bytes:=4,kind:=some .i32 }
def Cn : TI:={ n:=1,zero:=[.v (.int .i32 0)],bytes:=4,kind:=some .i32 }
def MA : List (Nat × TI):=[(2,ti2),(3,ti3),(4,ti4),(5,ti5),(6,ti6),(7,ti7),(8,ti8),(9,ti9),(10,JZ),(11,JY),(12,JX),(13,JW),(14,JV),(21,JU),(22,JT),(23,JS),(24,JR),(25,JQ),(26,JP),(27,JO),(28,JN),(29,JM),(30,JL),(32,JK),(33,JJ),(34,JI),(35,JH),(36,JG),(37,JF),(38,JE),(39,JD),(57,JC),(59,JB),(63,JA),(64,Jz),(65,Jy),(67,Jx),(70,Jw),(71,Jv),(72,Ju),(73,Jt),(74,Js),(82,Jr),(87,Jq),(88,Jp),(89,rA),(90,Jo),(91,Jn),(92,Jm),(94,Jl),(95,Jk),(102,Df),(103,De),(140,Dd),(141,Dc),(150,Db),(151,Da),(156,C9),(157,C8),(158,C7),(159,C6),(165,C5),(166,C4),(187,C3),(188,lN),(197,C2),(201,C1),(203,CZ),(204,CY),(205,CX),(206,CW),(207,CV),(208,CU),(209,CT),(210,CS),(225,CQ),(226,CO),(227,CN),(229,CM),(230,CK),(231,CJ),(232,CI),(290,CH),(291,CG),(302,CF),(323,CE),(324,CC),(336,CB),(337,CA),(341,Cz),(354,Cy),(359,Cx),(360,Cw),(362,Ct),(363,Cs),(381,Cr),(382,Cq),(383,Cp),(386,Co),(387,Cn)]
def tt : Nat->Option TI:=vY MA
theorem P0 : tt 2 = some ti2:=rfl
theorem PZ : tt 3 = some ti3:=rfl
theorem PY : tt 4 = some ti4:=rfl
theorem PX : tt 5 = some ti5:=rfl
theorem PW : tt 6 = some ti6:=rfl
theorem PU : tt 7 = some ti7:=rfl
theorem PT : tt 8 = some ti8:=rfl
theorem PS : tt 9 = some ti9:=rfl
theorem Nh : tt 10 = some JZ:=rfl
theorem Ng : tt 11 = some JY:=rfl
theorem Nf : tt 12 = some JX:=rfl
theorem Nd : tt 13 = some JW:=rfl
theorem Nc : tt 14 = some JV:=rfl
theorem Nb : tt 21 = some JU:=rfl
theorem Na : tt 22 = some JT:=rfl
theorem M9 : tt 23 = some JS:=rfl
theorem M8 : tt 24 = some JR:=rfl
theorem M7 : tt 25 = some JQ:=rfl
theorem M6 : tt 26 = some JP:=rfl
theorem M5 : tt 27 = some JO:=rfl
theorem M4 : tt 28 = some JN:=rfl
theorem M3 : tt 29 = some JM:=rfl
theorem M2 : tt 30 = some JL:=rfl
theorem M1 : tt 32 = some JK:=rfl
theorem M0 : tt 33 = some JJ:=rfl
theorem MZ : tt 34 = some JI:=rfl
theorem MY : tt 35 = some JH:=rfl
theorem MX : tt 36 = some JG:=rfl
theorem MW : tt 37 = some JF:=rfl
theorem MV : tt 38 = some JE:=rfl
theorem MU : tt 39 = some JD:=rfl
theorem MT : tt 57 = some JC:=rfl
theorem MS : tt 59 = some JB:=rfl
theorem MR : tt 63 = some JA:=rfl
theorem MQ : tt 64 = some Jz:=rfl
theorem MP : tt 65 = some Jy:=rfl
theorem MO : tt 67 = some Jx:=rfl
theorem MN : tt 70 = some Jw:=rfl
theorem MM : tt 71 = some Jv:=rfl
theorem ML : tt 72 = some Ju:=rfl
theorem MK : tt 73 = some Jt:=rfl
theorem MJ : tt 74 = some Js:=rfl
theorem MI : tt 82 = some Jr:=rfl
theorem MH : tt 87 = some Jq:=rfl
theorem MG : tt 88 = some Jp:=rfl
theorem y5 : tt 89 = some rA:=rfl
theorem MF : tt 90 = some Jo:=rfl
theorem ME : tt 91 = some Jn:=rfl
theorem MD : tt 92 = some Jm:=rfl
theorem MC : tt 94 = some Jl:=rfl
theorem MB : tt 95 = some Jk:=rfl
theorem Jf : tt 102 = some Df:=rfl
theorem Je : tt 103 = some De:=rfl
theorem Jd : tt 140 = some Dd:=rfl
theorem Jc : tt 141 = some Dc:=rfl
theorem Jb : tt 150 = some Db:=rfl
theorem Ja : tt 151 = some Da:=rfl
theorem I9 : tt 156 = some C9:=rfl
theorem I8 : tt 157 = some C8:=rfl
theorem I7 : tt 158 = some C7:=rfl
theorem I6 : tt 159 = some C6:=rfl
theorem I5 : tt 165 = some C5:=rfl
theorem I4 : tt 166 = some C4:=rfl
theorem I3 : tt 187 = some C3:=rfl
theorem tI : tt 188 = some lN:=rfl
theorem I2 : tt 197 = some C2:=rfl
theorem I1 : tt 201 = some C1:=rfl
theorem I0 : tt 203 = some CZ:=rfl
theorem IZ : tt 204 = some CY:=rfl
theorem IY : tt 205 = some CX:=rfl
theorem IX : tt 206 = some CW:=rfl
theorem IW : tt 207 = some CV:=rfl
theorem IV : tt 208 = some CU:=rfl
theorem IU : tt 209 = some CT:=rfl
theorem IT : tt 210 = some CS:=rfl
theorem IS : tt 225 = some CQ:=rfl
theorem IR : tt 226 = some CO:=rfl
theorem IQ : tt 227 = some CN:=rfl
theorem IP : tt 229 = some CM:=rfl
theorem IO : tt 230 = some CK:=rfl
theorem IN : tt 231 = some CJ:=rfl
theorem IM : tt 232 = some CI:=rfl
theorem IL : tt 290 = some CH:=rfl
theorem IK : tt 291 = some CG:=rfl
theorem IJ : tt 302 = some CF:=rfl
theorem II : tt 323 = some CE:=rfl
theorem IH : tt 324 = some CC:=rfl
theorem IG : tt 336 = some CB:=rfl
theorem IF : tt 337 = some CA:=rfl
theorem IE : tt 341 = some Cz:=rfl
theorem ID : tt 354 = some Cy:=rfl
theorem IC : tt 359 = some Cx:=rfl
theorem IB : tt 360 = some Cw:=rfl
theorem IA : tt 362 = some Ct:=rfl
theorem Iz : tt 363 = some Cs:=rfl
theorem Iy : tt 381 = some Cr:=rfl
theorem Ix : tt 382 = some Cq:=rfl
theorem Iw : tt 383 = some Cp:=rfl
theorem Iv : tt 386 = some Co:=rfl
theorem Iu : tt 387 = some Cn:=rfl
theorem FZ : (MA.all λp=>pu Tryz.prog p.1 p.2) = true:=by kernel_rfl
theorem ag : ∀ t ti,tt t = some ti->TIok Tryz.prog t ti:=Dg FZ
theorem eok {w0 : World} {F G : Nat->Prop} {l : Bool} : EOk ⟨Tryz.prog,tt,w0,⟨F,G,l,λ_=>True⟩⟩:=⟨ag,λ_ _=>trivial⟩
attribute [simp] ti2 ti3 ti4 ti5 ti6 ti7 ti8 ti9 JZ JY JX JW JV JU JT JS JR JQ JP JO JN JM JL JK JJ JI JH JG JF JE JD JC JB JA Jz Jy Jx Jw Jv Ju Jt Js Jr Jq Jp rA Jo Jn Jm Jl Jk Df De Dd Dc Db Da C9 C8 C7 C6 C5 C4 C3 lN C2 C1 CZ CY CX CW CV CU CT CS CQ CO CN CM CK CJ CI CH CG CF CE CC CB CA Cz Cy Cx Cw Ct Cs Cr Cq Cp Co Cn P0 PZ PY PX PW PU PT PS Nh Ng Nf Nd Nc Nb Na M9 M8 M7 M6 M5 M4 M3 M2 M1 M0 MZ MY MX MW MV MU MT MS MR MQ MP MO MN MM ML MK MJ MI MH MG y5 MF ME MD MC MB Jf Je Jd Jc Jb Ja I9 I8 I7 I6 I5 I4 I3 tI I2 I1 I0 IZ IY IX IW IV IU IT IS IR IQ IP IO IN IM IL IK IJ II IH IG IF IE ID IC IB IA Iz Iy Ix Iw Iv Iu
end Go.Proofs.YtoldjebobgocpaaGreat
namespace Go.AM
abbrev vi (n : Int) : CD:=.v (.int .i64 n)
noncomputable abbrev vb (p : Prop) : CD:=.v (.bool (dc p))
abbrev al (n : Int) : List CD:=[vi n]
theorem qU {p q : Prop} (h : p ↔ q) : dc p = dc q:=by rw [propext h]
theorem bC {α : Type} {a b : List α} {i : Nat} (h : i < a.length) (h' : i < b.length) (ht : a.take i = b.take i) (he : a[i] = b[i]) : a.take (i + 1) = b.take (i + 1):=by
 rw [<- List.take_append_getElem h,<- List.take_append_getElem h',ht,he]
theorem bT {α : Type} {a b : List α} {i : Nat} (h : a.length<=i) (hl : a.length = b.length) (ht : a.take i = b.take i) : a = b:=by
 rwa [List.take_of_length_le h,List.take_of_length_le (by omega)] at ht
theorem en {α : Type} {a b : List α} {i : Nat} (h : i < a.length) (h' : i < b.length) (he : a[i]≠b[i]) : a≠b:=by
 rintro rfl;exact he rfl
theorem co {n : Nat} (h : n<=9223372036854775807) : Go.IntKind.i64.wrap (n : Int) = n:=Go.IntWalk.i64_in _ (by omega)
theorem ah {n : Nat} (h : n < 9223372036854775807) : Go.IntKind.i64.wrap ((n : Int) + 1) = ((n + 1 : Nat) : Int):=by rw [Go.IntWalk.i64_in _ (by omega)];omega
@[simp] theorem P4 {a b : Nat} : ((a : Int) + (b : Int)).toNat = a + b:=by omega
@[simp] theorem P2 {a n : Nat} : ((a : Int) + (OfNat.ofNat n : Int)).toNat = a + n := by
  show ((a : Int) + ((n : Nat) : Int)).toNat = a + n
  omega
@[simp] theorem Ql {a b : Nat} : (0 : Int)<=(a : Int) + (b : Int):=by omega
@[simp] theorem Qk {a n : Nat} : (0 : Int) <= (a : Int) + (OfNat.ofNat n : Int) := by
  show (0 : Int)<=(a : Int) + ((n : Nat) : Int)
  omega
@[simp] theorem Pz {α : Type} {f : α->List CD} {l : List α} : cut (l.map f) 0 l.length = l.map f:=pE (by simp)
attribute [simp] pE
@[simp] theorem Py {n : Nat} : ((n : Int) < 0) = False:=by simp
open Go.RowKit Go.WideShapes Go.ChangeShapes
def qX (P : Program) : Nat->List Field->Option Nat
 | o,[]=>some o
 | o,f :: fs=>if f.offset = o then qX P (o + P.cellsOf f.type) fs else none
def okT (P : Program) : Nat->TypeId->Bool
 | 0,_=>false
 | D + 1, t => match P.underlying t with
   | some .bool=>true
   | some (.int _)=>true
   | some .string=>true
   | some (.slice e)=>decide (0 < P.cellsOf e) && okT P D e
   | some (.struct fs)=>(qX P 0 fs.toList == some (P.cellsOf t)) && fs.toList.all λf=>okT P D f.type
   | _=>false
def cY (P : Program) : Nat->TypeId->List CD->Prop
 | 0,_,_=>False
 | D + 1, t, ds => match P.underlying t with
   | some .bool=>∃ b,ds = [.v (.bool b)]
   | some (.int k)=>∃ n,ds = [.v (.int k n)]/\(Lit.int k n).wf = true
   | some .string=>∃ s : ByteArray,ds = [.v (.string s)]/\s.size<=maxLen
   | some (.slice e)=>∃ rows,ds = [.s rows]/\rows.length<=maxLen/\∀ row∈rows,row.length = P.cellsOf e/\cY P D e row
   | some (.struct fs)=>ds.length = P.cellsOf t/\∀ f∈fs.toList,cY P D f.type ((ds.drop f.offset).take (P.cellsOf f.type))
   | _=>False
def jk (w : World) (cs : List Value) (ds : List CD) : Prop:=ds.length = cs.length/\∀ (j : Nat) (u : Value) (d : CD),cs[j]? = some u->ds[j]? = some d->Rd w false (λ_=>True) u d
theorem jk.one {w : World} {u : Value} {d : CD} (h : Rd w false (λ_=>True) u d) : jk w [u] [d]:=by
 refine ⟨rfl,λj u' d' hu hd=>?_⟩
 cases j with
 | zero=>simp at hu hd;subst hu;subst hd;exact h
 | succ j=>simp at hu
theorem mK {P : Program} {w : World} {D : Nat} {cs : List Value} : ∀ (fs : List Field) (o m : Nat),qX P o fs = some m -> m <= cs.length ->
 (∀ f ∈ fs,∃ ds,jk w ((cs.drop f.offset).take (P.cellsOf f.type)) ds /\ cY P D f.type ds) ->
 ∃ ds,o<=m/\jk w ((cs.drop o).take (m - o)) ds/\∀ f∈fs,o<=f.offset/\cY P D f.type ((ds.drop (f.offset - o)).take (P.cellsOf f.type))
 | [], o, m, hc, _, _ => by
   simp only [qX,Option.some.injEq] at hc;subst hc;exact ⟨[],Nat.le_refl _,by simp [jk],by simp⟩
 | f :: fs, o, m, hc, hm, hx => by
   simp only [qX] at hc
   split at hc
   ·rename_i ho
    obtain ⟨ds,h1,h2,h3⟩:=mK fs _ m hc hm (λg hg=>hx g (List.mem_cons_of_mem _ hg));obtain ⟨d1,h4,h5⟩:=hx f (List.mem_cons_self ..);have hl : d1.length = P.cellsOf f.type:=by rw [h4.1];simp;omega
    refine ⟨d1 ++ ds,by omega,⟨?_,λj u d hu hd=>?_⟩,λg hg=>?_⟩
    ·have:=h2.1
     simp at this ⊢;omega
    ·by_cases hj : j < P.cellsOf f.type
     ·rw [List.getElem?_append_left (by omega)] at hd
      refine h4.2 j u d ?_ hd;rw [List.getElem?_take,if_pos hj,ho];rw [List.getElem?_take] at hu
      split at hu
      ·exact hu
      ·simp at hu
     ·rw [List.getElem?_append_right (by omega),hl] at hd
      refine h2.2 _ u d ?_ hd;rw [List.getElem?_take] at hu ⊢
      split at hu
      ·rw [if_pos (by omega)]
       rw [List.getElem?_drop] at hu ⊢;rw [<- hu]
       congr 1
       omega
      ·simp at hu
    ·rcases List.mem_cons.1 hg with rfl | hg
     ·refine ⟨by omega,?_⟩
      rw [ho,Nat.sub_self,List.drop_zero,List.take_append_of_le_length (by omega),List.take_of_length_le (by omega)];exact h5
     ·obtain ⟨h6,h7⟩:=h3 g hg
      refine ⟨by omega,?_⟩
      have : (d1 ++ ds).drop (g.offset - o) = ds.drop (g.offset - (o + P.cellsOf f.type)):=by
       rw [List.drop_append,List.drop_of_length_le (by omega),hl,List.nil_append]
       congr 1
       omega
      rw [this];exact h7
   ·simp at hc
theorem Ah {H : Type} {enc : TypeId × Value->H} {P : Program} {w : World} {base : Nat} {spare : Nat->Bool} {held : Bool} :
 ∀ (D : Nat) (t : TypeId) (cs : List Value) (x : DataW H × List MemPlace) (fuel : Nat),okT P D t = true->DataW.trod enc P w base spare held fuel t cs = some x->∃ ds,jk w cs ds/\cY P D t ds:=by
 intro D
 induction D with
 | zero=>intro t cs x fuel h;simp [okT] at h
 | succ D ih =>
   intro t cs x fuel hok h;unfold okT at hok
   split at hok
   ·rename_i hu
    obtain ⟨b,rfl,-⟩:=DataW.trod_bool hu h;exact ⟨[.v (.bool b)],jk.one (.plain rfl),by simp [cY,hu]⟩
   ·rename_i k hu
    obtain ⟨n,rfl,-,hw⟩:=DataW.trod_int hu h;exact ⟨[.v (.int k n)],jk.one (.plain rfl),by simp [cY,hu,hw]⟩
   ·rename_i hu
    obtain ⟨s,rfl,-,hs⟩:=DataW.trod_string hu h;exact ⟨[.v (.string s)],jk.one (.plain rfl),by simp [cY,hu,hs]⟩
   ·rename_i e hu
    simp only [Bool.and_eq_true,decide_eq_true_eq] at hok;obtain ⟨hpos,hok⟩:=hok;rcases DataW.trod_slice hu h with ⟨rfl,-⟩ | ⟨a,len,cap,elems,rest,n,-,rfl,-,-,hlc,hcm,hel,hi,-⟩
    ·exact ⟨[.s []],jk.one (.empty _ _ (λh=>by simp at h)),by simp [cY,hu]⟩
    ·have each : ∀ i,i < len->∃ p : List Value × List CD,w.cells? base (a.add (i * P.cellsOf e)) (P.cellsOf e) = some p.1/\jk w p.1 p.2/\cY P D e p.2:=by
      intro i hlt;have h1:=hi i hlt;rw [List.getElem?_eq_getElem (by omega)] at h1;obtain ⟨c,h2,h3⟩:=Option.bind_eq_some_iff.1 h1;obtain ⟨ds,h4,h5⟩:=ih e c _ n hok h3;exact ⟨(c,ds),h2,h4,h5⟩
     by_cases hl0 : len = 0
     ·subst hl0
      exact ⟨[.s []],jk.one (.empty _ _ (λh=>by simp at h)),by simp [cY,hu]⟩
     ·obtain ⟨f,hf⟩:=Go.Deep.choose_lt each
      have cell : ∀ i j,i < len->j < P.cellsOf e->w.cell? (a.add (i * P.cellsOf e + j)) = (f i).1[j]?/\(f i).1.length = P.cellsOf e:=by
       intro i j hlt hj;obtain ⟨-,h2,h3⟩:=World.cells?_some (hf i hlt).1;exact ⟨by rw [<- h3 j hj,Go.Deep.add_add],h2⟩
      obtain ⟨b,off,spot⟩:=a
      have hb : ∃ cs T fr,w.heap[b]? = some (.cells cs T fr)/\spot = none:=by
       obtain ⟨h1,h2⟩:=cell 0 0 (by omega) hpos;rw [List.getElem?_eq_getElem (by omega)] at h1;unfold World.cell? at h1;rw [block_add] at h1
       split at h1
       ·rename_i c T fr hh
        refine ⟨c,T,fr,hh,?_⟩
        cases spot with
        | none=>rfl
        | some s=>simp [Addr.add] at h1
       ·simp at h1
      obtain ⟨c,T,fr,hb,rfl⟩:=hb
      have at' : ∀ i j,i < len->j < P.cellsOf e->c[off + (i * P.cellsOf e + j)]? = (f i).1[j]?:=by
       intro i j hlt hj;rw [<- (cell i j hlt hj).1,cP];simp [World.cell?,hb]
      have hrows : ((List.range len).map λi=>(f i).2).length = len:=by simp
      have hrd:=Rd.slice (w:=w) (x:=false) (S:=λ_=>True) b off cap (P.cellsOf e) c T fr ((List.range len).map λi=>(f i).2) (λ_ _ _=>True)
       (by rw [hrows];exact hlc) hcm hpos trivial hb (by
        rw [hrows];obtain ⟨m,rfl⟩ : ∃ m,len = m + 1:=⟨len - 1,by omega⟩;have h1:=at' m (P.cellsOf e - 1) (by omega) (by omega);rw [List.getElem?_eq_getElem (by rw [(cell m (P.cellsOf e - 1) (by omega) (by omega)).2];omega)] at h1;have h2:=(Array.getElem?_eq_some_iff.1 h1).1;rw [Nat.succ_mul];omega) (λh=>by simp at h) (λ_ _ _ _=>⟨trivial,λh=>by simp at h⟩) (λh=>by simp at h)
       (λrow hrow=>by
        simp only [List.mem_map,List.mem_range] at hrow;obtain ⟨i,hlt,rfl⟩:=hrow;rw [(hf i hlt).2.1.1];exact (cell i 0 hlt hpos).2)
       (λi j row d h1 h2=>by
        have hlt : i < len:=by have:=(List.getElem?_eq_some_iff.1 h1).1;omega
        simp only [List.getElem?_map,List.getElem?_range hlt,Option.map_some,Option.some.injEq] at h1;subst h1
        have hj : j < P.cellsOf e:=by
         have:=(List.getElem?_eq_some_iff.1 h2).1;rw [(hf i hlt).2.1.1,(cell i 0 hlt hpos).2] at this;exact this
        have h3:=at' i j hlt hj;rw [List.getElem?_eq_getElem (by rw [(cell i j hlt hj).2];exact hj)] at h3
        have h4 : c.getD (off + (i * P.cellsOf e + j)) undef = (f i).1[j]'(by rw [(cell i j hlt hj).2];exact hj):=by
         rw [Array.getD_eq_getD_getElem?,h3];rfl
        rw [h4];exact (hf i hlt).2.1.2 j _ d (List.getElem?_eq_getElem _) h2)
      rw [hrows] at hrd;refine ⟨[.s ((List.range len).map λi=>(f i).2)],jk.one hrd,?_⟩;simp only [cY,hu];refine ⟨_,rfl,by rw [hrows];omega,λrow hrow=>?_⟩;simp only [List.mem_map,List.mem_range] at hrow;obtain ⟨i,hlt,rfl⟩:=hrow;exact ⟨by rw [(hf i hlt).2.1.1];exact (cell i 0 hlt hpos).2,(hf i hlt).2.2⟩
   ·rename_i fs hu
    simp only [Bool.and_eq_true,beq_iff_eq,List.all_eq_true] at hok;obtain ⟨hc,hall⟩:=hok;obtain ⟨xs,n,-,-,hcl,hxl,hi⟩:=DataW.trod_struct hu h
    obtain ⟨ds,-,h1,h2⟩:=mK (w:=w) (D:=D) (cs:=cs) fs.toList 0 _ hc (by omega) (λf hf=>by
     obtain ⟨i,hlt,rfl⟩:=List.getElem_of_mem hf;have hlt' : i < fs.size:=by simpa using hlt
     have h3:=hi i fs[i] (by simp [hlt']);rw [List.getElem?_eq_getElem (by omega)] at h3;exact ih _ _ _ n (hall _ hf) h3)
    rw [List.drop_zero,Nat.sub_zero,List.take_of_length_le (by omega)] at h1;refine ⟨ds,h1,?_⟩;simp only [cY,hu];refine ⟨by rw [h1.1,hcl],λf hf=>?_⟩;have:=(h2 f hf).2
    rwa [Nat.sub_zero] at this
   ·simp at hok
def xe (P : Program) (D : Nat) (t : TypeId) : VD->Prop
 | .c d=>cY P D t [d]
 | .agg ds=>(∃ fs,P.underlying t = some (.struct fs))/\cY P D t ds
theorem DK {H : Type} {enc : TypeId × Value->H} {P : Program} {w : World} {base b0 : Nat} {spare : Nat->Bool} {held : Bool} {r : Reach} {D : Nat} {t : TypeId} {v : Value} {d : DataW H} {ps : List MemPlace}
 (hok : okT P D t = true) (hval : Value.okWide P w r b0 t v) (h : DataW.Trod enc P w base spare held t v d ps) : ∃ vd,RdV w v vd/\xe P D t vd:=by
 obtain ⟨fuel,hf⟩:=h;obtain ⟨ds,hr,hfit⟩:=Ah D t _ _ fuel hok hf
 have one : v.cells = #[v]->(∀ fs,P.underlying t≠some (.struct fs))->∃ vd,RdV w v vd/\xe P D t vd:=by
  intro hc _;rw [hc] at hr;obtain ⟨hl,hr⟩:=hr
  cases ds with
  | nil=>simp at hl
  | cons d ds =>
    cases ds with
    | nil=>exact ⟨.c d,hr 0 v d rfl rfl,hfit⟩
    | cons _ _=>simp at hl
 cases D with
 | zero=>simp [okT] at hok
 | succ D =>
   unfold okT at hok
   split at hok
   ·rename_i hu
    obtain ⟨b,rfl⟩:=okWide_bool hu hval;exact one rfl (λfs h=>by rw [hu] at h;simp at h)
   ·rename_i k hu
    obtain ⟨n,rfl⟩:=okWide_int hu hval;exact one rfl (λfs h=>by rw [hu] at h;simp at h)
   ·rename_i hu
    obtain ⟨s,rfl⟩:=okWide_string hu hval;exact one rfl (λfs h=>by rw [hu] at h;simp at h)
   ·rename_i e hu
    obtain ⟨a,l,c,rfl⟩:=okWide_slice hu hval;exact one rfl (λfs h=>by rw [hu] at h;simp at h)
   ·rename_i fs hu
    obtain ⟨cs,rfl,-⟩:=okWide_struct hu hval;obtain ⟨hl,hr⟩:=hr;refine ⟨.agg ds,⟨cs,rfl,by simpa [Value.cells] using hl.symm,λj d hd=>?_⟩,⟨fs,hu⟩,hfit⟩
    have hj : j < cs.size:=by
     have:=(List.getElem?_eq_some_iff.1 hd).1;simp [Value.cells] at hl;omega
    have:=hr j cs[j] d (by simp [Value.cells,hj]) hd
    simpa [hj] using this
   ·simp at hok
def iI (P : Program) (D : Nat) (w : World) : List TypeId->List Value->List VD->Prop
 | [],[],[]=>True
 | t :: ts,v :: vs,d :: ds=>(RdV w v d/\xe P D t d)/\iI P D w ts vs ds
 | _,_,_=>False
theorem sP {H : Type} {enc : TypeId × Value->H} {P : Program} {w : World} {base b0 : Nat} {spare : Nat->Bool} {held : Bool} {r : Reach} {D : Nat} :
 ∀ (ts : List TypeId) (vs : List Value) (ds : List (DataW H)) (ps : List MemPlace), (ts.all λt => okT P D t) = true -> (∀ (j : Nat) t v, ts[j]? = some t -> vs[j]? = some v -> Value.okWide P w r b0 t v) ->
   DataW.TrodAll enc P w base spare held ts vs ds ps->∃ vds,iI P D w ts vs vds
 | [], vs, ds, ps, _, _, h => by
   obtain ⟨rfl,-,-⟩:=trodAll_nil h;exact ⟨[],trivial⟩
 | t :: ts, vs, ds, ps, hok, hval, h => by
   obtain ⟨v,vs1,d,ds1,a,b,rfl,rfl,rfl,h1,h2⟩:=trodAll_cons h;simp only [List.all_cons,Bool.and_eq_true] at hok;obtain ⟨vds,h3⟩:=sP ts vs1 ds1 b hok.2 (λj t v ht hv=>hval (j + 1) t v (by simpa using ht) (by simpa using hv)) h2;obtain ⟨vd,h4,h5⟩:=DK hok.1 (hval 0 t v rfl rfl) h1;exact ⟨vd :: vds,⟨h4,h5⟩,h3⟩
theorem pb {P : Program} {D : Nat} {w : World} : ∀ (ts : List TypeId) (vs : List Value) (vds : List VD),iI P D w ts vs vds->vs.length = vds.length/\∀ (i : Nat) vd,vds[i]? = some vd->RdV w (vs.toArray.getD i undef) vd
 | [],[],[],_=>⟨rfl,λi vd h=>by simp at h⟩
 | t :: ts, v :: vs, d :: ds, h => by
   obtain ⟨h1,h2⟩:=pb ts vs ds h.2;refine ⟨by simp [h1],λi vd hi=>?_⟩
   cases i with
   | zero=>simp at hi;subst hi;simpa using h.1.1
   | succ i=>simpa using h2 i vd (by simpa using hi)
theorem sA {H : Type} {enc : TypeId × Value->H} {P : Program} (hl : laidOutB P = true) {W W' : World} (hb : Below W.heap.size W W') {sp : Nat->Bool} :
 ∀ (ts : List TypeId) (vs : List Value) (ds : List (DataW H)) (ps : List MemPlace), (ts.all λt => P.readableRec t && decide (t < P.types.size)) = true -> DataW.TrodAll enc P W 0 (λ_ => true) true ts vs ds ps ->
   (∀ x∈ps,x.block < W.heap.size)->(∀ x∈ps,sp x.block = true)->DataW.TrodAll enc P W' 0 sp true ts vs ds ps
 | [], vs, ds, ps, _, h, _, _ => by
   obtain ⟨rfl,rfl,rfl⟩:=trodAll_nil h;rfl
 | t :: ts, vs, ds, ps, hok, h, hlt, hsp => by
   obtain ⟨v,vs1,d,ds1,a,b,rfl,rfl,rfl,h1,h2⟩:=trodAll_cons h;simp only [List.all_cons,Bool.and_eq_true,decide_eq_true_eq] at hok;refine ⟨a,b,WideElems.Trod_stays hl hok.1.1 hok.1.2 h1 (λx hx=>hb.same (hlt x (by simp [hx]))) (λx hx=>hsp x (by simp [hx])),sA hl hb ts vs1 ds1 b (by simpa using hok.2) h2 (λx hx=>hlt x (by simp [hx])) (λx hx=>hsp x (by simp [hx])),rfl⟩
theorem Av {L : World->Prop} {H : Type} {enc : TypeId × Value->H} {P : Program} (hlaid : laidOutB P = true) {f : FuncId} {fn : Func} {s : ChangeSpec} {apart fresh handsOn : Bool} {D : Nat} {bt : TypeId}
 (hv : s.vars = []) (hres : fn.resultTypes = #[bt]) (hbt : P.underlying bt = some .bool) (hokT : (fn.params.toList.all λt=>okT P D t) = true) (hread : (fn.params.toList.all λt=>P.readableRec t && decide (t < P.types.size)) = true)
 (hs : ∀ ds : List (DataW H),ds.length = fn.params.toList.length->s.fn H ds = { results:=[.lit (.bool true)],args:=ds })
 {W : World} {args : Array Value} {r : Reach} {b0 : Nat} {ds gs : List (DataW H)} {before : List MemPlace}
 (hval : ∀ (j : Nat) t v,fn.params[j]? = some t->args[j]? = some v->Value.okWide P W r b0 t v)
 (hW : DataW.Whole enc P fn.params.toList s.vars apart W args.toList ds gs before)
 (hLW : L W) (hwalk : ∀ vds,iI P D W fn.params.toList args.toList vds->ny P L f vds (.one (.c (.v (.bool true)) 1))) :
 Calls P f args W λe W'=>∃ v,e = .returned v/\s.post enc P fn apart fresh handsOn false W args v W':=by
 have hW0:=hW;obtain ⟨p,q,hA,hV,rfl,hfz,hnd⟩:=hW;rw [hv] at hV;obtain ⟨rfl,rfl⟩:=trodVars_none hV;obtain ⟨vds,ho⟩:=sP (D:=D) fn.params.toList args.toList ds p hokT (λj t v ht hv=>hval j t v (by simpa using ht) (by simpa using hv)) hA;obtain ⟨hl,hr⟩:=pb _ _ _ ho
 have hlen : ds.length = fn.params.toList.length:=by
  have : ∀ (ts : List TypeId) (vs : List Value) (ds : List (DataW H)) (ps : List MemPlace),DataW.TrodAll enc P W 0 (λ_=>true) true ts vs ds ps->ds.length = ts.length:=by
   intro ts
   induction ts with
   | nil=>intro vs ds ps h;obtain ⟨-,rfl,-⟩:=trodAll_nil h;rfl
   | cons t ts ih =>
     intro vs ds ps h;obtain ⟨v,vs1,d,ds1,a,b,rfl,rfl,rfl,h1,h2⟩:=trodAll_cons h;simp [ih _ _ _ h2]
  exact this _ _ _ _ hA
 refine ((hwalk vds ho).2 W hLW args (by simpa using hl) (λi vd hi=>by simpa using hr i vd hi)).mono ?_
 rintro e W' ⟨v,rfl,hb,hrr⟩
 have hv1 : v = .bool true:=hrr.1;subst hv1;have hs':=hs ds hlen;refine ⟨_,rfl,ds,[],p,[],p,[],by simpa using hW0,?_,?_,?_,?_,λh=>by cases h⟩
 ·rw [List.append_nil,hs',hres]
  exact trodAll_mk1 (shut_bool hbt true)
 ·rw [List.append_nil,hs']
  have hlt : ∀ x∈p,x.block < W.heap.size:=λx hx=>hW0.lt x (by simp [hx])
  exact sA hlaid hb _ _ _ _ hread hA hlt (λx hx=>by simpa using hlt x hx)
 ·rw [hv]
  have : (s.fn H (ds ++ [])).vars = []:=by rw [List.append_nil,hs']
  rw [this];exact rfl
 ·exact hb.frame _
theorem D0 {H : Type} {enc : TypeId × Value->H} {P : Program} (hlaid : laidOutB P = true) {f : FuncId} {fn : Func} {s : ChangeSpec} {apart fresh handsOn : Bool} {D : Nat} {bt : TypeId}
 (hv : s.vars = []) (hres : fn.resultTypes = #[bt]) (hbt : P.underlying bt = some .bool) (hokT : (fn.params.toList.all λt=>okT P D t) = true) (hread : (fn.params.toList.all λt=>P.readableRec t && decide (t < P.types.size)) = true)
 (hs : ∀ ds : List (DataW H),ds.length = fn.params.toList.length->s.fn H ds = { results:=[.lit (.bool true)],args:=ds })
 {W : World} {args : Array Value} {r : Reach} {b0 : Nat} {ds gs : List (DataW H)} {before : List MemPlace}
 (hval : ∀ (j : Nat) t v,fn.params[j]? = some t->args[j]? = some v->Value.okWide P W r b0 t v)
 (hW : DataW.Whole enc P fn.params.toList s.vars apart W args.toList ds gs before)
 (hwalk : ∀ vds,iI P D W fn.params.toList args.toList vds->ac P f vds (.one (.c (.v (.bool true)) 1))) :
 Calls P f args W λe W'=>∃ v,e = .returned v/\s.post enc P fn apart fresh handsOn false W args v W':=
 Av hlaid hv hres hbt hokT hread hs hval hW trivial hwalk
theorem Is {n : Int} (h : (Lit.int .i64 n).wf = true) : -9223372036854775808<=n/\n<=9223372036854775807:=by
 have : IntKind.i64.min = -9223372036854775808:=rfl;have h2 : IntKind.i64.max = 9223372036854775807:=rfl;simp only [Lit.wf,Bool.and_eq_true,decide_eq_true_eq] at h;omega
section
variable {P : Program} {D : Nat} {t e : TypeId} {vd : VD} {ds : List CD}
theorem EG {k : IntKind} (hu : P.underlying t = some (.int k)) (h : cY P D t ds) : ∃ n,ds = [.v (.int k n)]/\(Lit.int k n).wf = true:=by
 cases D with
 | zero=>exact h.elim
 | succ D=>simpa only [cY,hu] using h
theorem ta (hu : P.underlying t = some .bool) (h : cY P D t ds) : ∃ b,ds = [.v (.bool b)]:=by
 cases D with
 | zero=>exact h.elim
 | succ D=>simpa only [cY,hu] using h
theorem iy (hu : P.underlying t = some .string) (h : cY P D t ds) : ∃ s : ByteArray,ds = [.v (.string s)]/\s.size<=maxLen:=by
 cases D with
 | zero=>exact h.elim
 | succ D=>simpa only [cY,hu] using h
theorem eD (hu : P.underlying t = some (.slice e)) (h : cY P D t ds) : ∃ rows,ds = [.s rows]/\rows.length<=maxLen/\∃ D',∀ row∈rows,row.length = P.cellsOf e/\cY P D' e row:=by
 cases D with
 | zero=>exact h.elim
 | succ D =>
   simp only [cY,hu] at h;obtain ⟨rows,h1,h2,h3⟩:=h;exact ⟨rows,h1,h2,D,h3⟩
theorem ce {fs : Array Field} (hu : P.underlying t = some (.struct fs)) (h : cY P D t ds) : ds.length = P.cellsOf t/\∃ D',∀ f∈fs.toList,cY P D' f.type ((ds.drop f.offset).take (P.cellsOf f.type)):=by
 cases D with
 | zero=>exact h.elim
 | succ D =>
   simp only [cY,hu] at h;exact ⟨h.1,D,h.2⟩
theorem fG {α : Type} {f : α->List CD} {ok : α->Prop} : ∀ (rows : List (List CD)),(∀ row∈rows,∃ x,row = f x/\ok x)->∃ l : List α,rows = l.map f/\∀ x∈l,ok x
 | [],_=>⟨[],rfl,by simp⟩
 | row :: rows, h => by
   obtain ⟨x,h1,h2⟩:=h row (List.mem_cons_self ..);obtain ⟨l,h3,h4⟩:=fG rows (λr hr=>h r (List.mem_cons_of_mem _ hr));exact ⟨x :: l,by rw [h1,h3];rfl,by simpa using ⟨h2,h4⟩⟩
end
theorem iI.nil {P : Program} {D : Nat} {w : World} {vs : List Value} {vds : List VD} (h : iI P D w [] vs vds) : vds = []:=by
 cases vs with
 | nil => cases vds with
   | nil=>rfl
   | cons _ _=>exact h.elim
 | cons _ _=>exact h.elim
theorem iI.cons {P : Program} {D : Nat} {w : World} {t : TypeId} {ts : List TypeId} {vs : List Value} {vds : List VD} (h : iI P D w (t :: ts) vs vds) :
 ∃ vd vds',vds = vd :: vds'/\xe P D t vd/\∃ vs',iI P D w ts vs' vds':=by
 cases vs with
 | nil=>cases vds<;>exact h.elim
 | cons v vs => cases vds with
   | nil=>exact h.elim
   | cons d ds=>exact ⟨d,ds,rfl,h.1.2,vs,h.2⟩
section
variable {α : Type} {mk : α->Int->α} {cn : α->Nat}
variable {f : α->List CD} {l : List α} {k : Int} {i : Nat}
end
abbrev one {α : Type} (_ : α) : Nat:=1
end Go.AM
namespace Go.Proofs.YtoldjebobgocpaaGreat
open Go.AM
set_option maxRecDepth 20000
def dV (n : Int) : Prop:=-9223372036854775808<=n/\n<=9223372036854775807
def a8 {α : Type} (f : α->Nat) : List α->Nat
 | []=>0
 | a :: l=>f a + a8 f l
theorem fW {α : Type} {f : α->Nat} : ∀ {l : List α} {i : Nat} (h : i < l.length),a8 f (l.drop i) = f l[i] + a8 f (l.drop (i + 1))
 | a :: l,0,_=>rfl
 | a :: l,i + 1,h=>by simpa using fW (l:=l) (i:=i) (by simpa using h)
theorem vu {α : Type} {f : α->Nat} : ∀ {l : List α} {a : α},a∈l->f a<=a8 f l
 | b :: l, a, h => by
   simp only [a8];rcases List.mem_cons.1 h with rfl | h
   ·omega
   ·have:=vu (f:=f) h;omega
def nL {α : Type} (f : α->Nat) (l : List α) : Nat:=l.length + a8 f l
theorem aA {α : Type} {f : α->Nat} {l : List α} {B : Nat} (h : nL f l<=B) : l.length<=B:=by unfold nL at h;omega
theorem bZ {α : Type} {f : α->Nat} {l : List α} {B : Nat} (h : nL f l<=B) {a : α} (ha : a∈l) : f a<=B:=by have:=vu (f:=f) ha;unfold nL at h;omega
theorem ci {α : Type} {f : α->Nat} {l : List α} {B : Nat} (h : nL f l<=B) {i : Nat} (hi : i < l.length) : f l[i]<=B:=bZ h (List.getElem_mem hi)
def szR (n left : Nat) : Int:=if n<=left then ((left - n : Nat) : Int) else -1
theorem bu {n left : Nat} (h : n<=left) : szR n left = ((left - n : Nat) : Int):=by simp [szR,h]
theorem aH {n left : Nat} (h : ¬ n<=left) : szR n left = -1:=by simp [szR,h]
structure Part where
 kind : Int
 n : Int
 signs : List Int
 deriving Inhabited
def Part.row (x : Part) : List CD:=[vi x.kind,vi x.n,.s (x.signs.map al)]
def Part.res (x : Part) : List (CD × Nat):=[(vi x.kind,1),(vi x.n,1),(.s (x.signs.map al),1)]
@[simp] theorem Part.row_len {x : Part} : x.row.length = 3:=rfl
def Part.fits (x : Part) : Prop:=dV x.kind/\dV x.n/\(x.signs.length<=9223372036854775807/\∀ n∈x.signs,dV n)
def ar (x : Part) : Nat:=x.signs.length
structure Entry where
 client : Int
 seq : Int
 o : List Part
def Entry.row (x : Entry) : List CD:=[vi x.client,vi x.seq,.s (x.o.map Part.row)]
def Entry.res (x : Entry) : List (CD × Nat):=[(vi x.client,1),(vi x.seq,1),(.s (x.o.map Part.row),3)]
@[simp] theorem Entry.row_len {x : Entry} : x.row.length = 3:=rfl
def Entry.fits (x : Entry) : Prop:=dV x.client/\dV x.seq/\(x.o.length<=9223372036854775807/\∀ y∈x.o,y.fits)
def am (x : Entry) : Nat:=nL ar x.o
structure Seen where
 client : Int
 seq : Int
 rev : Int
def Seen.row (x : Seen) : List CD:=[vi x.client,vi x.seq,vi x.rev]
def Seen.res (x : Seen) : List (CD × Nat):=[(vi x.client,1),(vi x.seq,1),(vi x.rev,1)]
@[simp] theorem Seen.row_len {x : Seen} : x.row.length = 3:=rfl
def Seen.fits (x : Seen) : Prop:=dV x.client/\dV x.seq/\dV x.rev
structure Doc where
 name : ByteArray
 fr : Int
 text : List Int
 list : List Entry
 seen : List Seen
def Doc.row (x : Doc) : List CD:=[.v (.string x.name),vi x.fr,.s (x.text.map al),.s (x.list.map Entry.row),.s (x.seen.map Seen.row)]
def Doc.res (x : Doc) : List (CD × Nat):=[(.v (.string x.name),1),(vi x.fr,1),(.s (x.text.map al),1),(.s (x.list.map Entry.row),3),(.s (x.seen.map Seen.row),3)]
@[simp] theorem Doc.row_len {x : Doc} : x.row.length = 5:=rfl
def Doc.fits (x : Doc) : Prop:=x.name.size<=9223372036854775807/\dV x.fr/\(x.text.length<=9223372036854775807/\∀ n∈x.text,dV n)/\(x.list.length<=9223372036854775807/\∀ y∈x.list,y.fits)/\(x.seen.length<=9223372036854775807/\∀ y∈x.seen,y.fits)
def bf (x : Doc) : Nat:=x.name.size + (x.text.length + (nL am x.list + (x.seen.length)))
structure Ring where
 cap : Int
 next : Int
 out : Bool
 list : List Entry
def Ring.row (x : Ring) : List CD:=[vi x.cap,vi x.next,.v (.bool x.out),.s (x.list.map Entry.row)]
def Ring.res (x : Ring) : List (CD × Nat):=[(vi x.cap,1),(vi x.next,1),(.v (.bool x.out),1),(.s (x.list.map Entry.row),3)]
@[simp] theorem Ring.row_len {x : Ring} : x.row.length = 4:=rfl
def Ring.fits (x : Ring) : Prop:=dV x.cap/\dV x.next/\True/\(x.list.length<=9223372036854775807/\∀ y∈x.list,y.fits)
def bE (x : Ring) : Nat:=nL am x.list
structure Sub where
 id : Int
 doc : ByteArray
 r : Ring
def Sub.row (x : Sub) : List CD:=[vi x.id,.v (.string x.doc),vi x.r.cap,vi x.r.next,.v (.bool x.r.out),.s (x.r.list.map Entry.row)]
def Sub.res (x : Sub) : List (CD × Nat):=[(vi x.id,1),(.v (.string x.doc),1),(vi x.r.cap,1),(vi x.r.next,1),(.v (.bool x.r.out),1),(.s (x.r.list.map Entry.row),3)]
@[simp] theorem Sub.row_len {x : Sub} : x.row.length = 6:=rfl
def Sub.fits (x : Sub) : Prop:=dV x.id/\x.doc.size<=9223372036854775807/\x.r.fits
def bN (x : Sub) : Nat:=x.doc.size + (bE x.r)
structure Hub where
 shut : Bool
 docs : List Doc
 subs : List Sub
 last : Int
def Hub.row (x : Hub) : List CD:=[.v (.bool x.shut),.s (x.docs.map Doc.row),.s (x.subs.map Sub.row),vi x.last]
def Hub.res (x : Hub) : List (CD × Nat):=[(.v (.bool x.shut),1),(.s (x.docs.map Doc.row),5),(.s (x.subs.map Sub.row),6),(vi x.last,1)]
@[simp] theorem Hub.row_len {x : Hub} : x.row.length = 4:=rfl
def Hub.fits (x : Hub) : Prop:=True/\(x.docs.length<=9223372036854775807/\∀ y∈x.docs,y.fits)/\(x.subs.length<=9223372036854775807/\∀ y∈x.subs,y.fits)/\dV x.last
def bq (x : Hub) : Nat:=nL bf x.docs + (nL bN x.subs)
structure Call where
 kind : Int
 doc : ByteArray
 client : Int
 seq : Int
 n : Int
 o : List Part
 text : List Int
def Call.row (x : Call) : List CD:=[vi x.kind,.v (.string x.doc),vi x.client,vi x.seq,vi x.n,.s (x.o.map Part.row),.s (x.text.map al)]
def Call.res (x : Call) : List (CD × Nat):=[(vi x.kind,1),(.v (.string x.doc),1),(vi x.client,1),(vi x.seq,1),(vi x.n,1),(.s (x.o.map Part.row),3),(.s (x.text.map al),1)]
@[simp] theorem Call.row_len {x : Call} : x.row.length = 7:=rfl
def Call.fits (x : Call) : Prop:=dV x.kind/\x.doc.size<=9223372036854775807/\dV x.client/\dV x.seq/\dV x.n/\(x.o.length<=9223372036854775807/\∀ y∈x.o,y.fits)/\(x.text.length<=9223372036854775807/\∀ n∈x.text,dV n)
def db (x : Call) : Nat:=x.doc.size + (nL ar x.o + (x.text.length))
structure Answer where
 code : Int
 rev : Int
 text : List Int
 list : List Entry
def Answer.row (x : Answer) : List CD:=[vi x.code,vi x.rev,.s (x.text.map al),.s (x.list.map Entry.row)]
def Answer.res (x : Answer) : List (CD × Nat):=[(vi x.code,1),(vi x.rev,1),(.s (x.text.map al),1),(.s (x.list.map Entry.row),3)]
@[simp] theorem Answer.row_len {x : Answer} : x.row.length = 4:=rfl
def Answer.fits (x : Answer) : Prop:=dV x.code/\dV x.rev/\(x.text.length<=9223372036854775807/\∀ n∈x.text,dV n)/\(x.list.length<=9223372036854775807/\∀ y∈x.list,y.fits)
def bK (x : Answer) : Nat:=x.text.length + (nL am x.list)
structure Task where
 c : Call
 pc : Int
 inv : Int
 lin : Int
 rs : Int
 a : Answer
def Task.row (x : Task) : List CD:=[vi x.c.kind,.v (.string x.c.doc),vi x.c.client,vi x.c.seq,vi x.c.n,.s (x.c.o.map Part.row),.s (x.c.text.map al),vi x.pc,vi x.inv,vi x.lin,vi x.rs,vi x.a.code,vi x.a.rev,.s (x.a.text.map al),.s (x.a.list.map Entry.row)]
def Task.res (x : Task) : List (CD × Nat):=[(vi x.c.kind,1),(.v (.string x.c.doc),1),(vi x.c.client,1),(vi x.c.seq,1),(vi x.c.n,1),(.s (x.c.o.map Part.row),3),(.s (x.c.text.map al),1),(vi x.pc,1),(vi x.inv,1),(vi x.lin,1),(vi x.rs,1),(vi x.a.code,1),(vi x.a.rev,1),(.s (x.a.text.map al),1),(.s (x.a.list.map Entry.row),3)]
@[simp] theorem Task.row_len {x : Task} : x.row.length = 15:=rfl
def Task.fits (x : Task) : Prop:=x.c.fits/\dV x.pc/\dV x.inv/\dV x.lin/\dV x.rs/\x.a.fits
def da (x : Task) : Nat:=db x.c + (bK x.a)
structure Queue where
 doc : ByteArray
 list : List Int
def Queue.row (x : Queue) : List CD:=[.v (.string x.doc),.s (x.list.map al)]
def Queue.res (x : Queue) : List (CD × Nat):=[(.v (.string x.doc),1),(.s (x.list.map al),1)]
@[simp] theorem Queue.row_len {x : Queue} : x.row.length = 2:=rfl
def Queue.fits (x : Queue) : Prop:=x.doc.size<=9223372036854775807/\(x.list.length<=9223372036854775807/\∀ n∈x.list,dV n)
def cJ (x : Queue) : Nat:=x.doc.size + (x.list.length)
structure Wld where
 h : Hub
 locks : List Int
 queues : List Queue
 tasks : List Task
 step : Int
def Wld.row (x : Wld) : List CD:=[.v (.bool x.h.shut),.s (x.h.docs.map Doc.row),.s (x.h.subs.map Sub.row),vi x.h.last,.s (x.locks.map al),.s (x.queues.map Queue.row),.s (x.tasks.map Task.row),vi x.step]
def Wld.res (x : Wld) : List (CD × Nat):=[(.v (.bool x.h.shut),1),(.s (x.h.docs.map Doc.row),5),(.s (x.h.subs.map Sub.row),6),(vi x.h.last,1),(.s (x.locks.map al),1),(.s (x.queues.map Queue.row),2),(.s (x.tasks.map Task.row),15),(vi x.step,1)]
@[simp] theorem Wld.row_len {x : Wld} : x.row.length = 8:=rfl
def Wld.fits (x : Wld) : Prop:=x.h.fits/\(x.locks.length<=9223372036854775807/\∀ n∈x.locks,dV n)/\(x.queues.length<=9223372036854775807/\∀ y∈x.queues,y.fits)/\(x.tasks.length<=9223372036854775807/\∀ y∈x.tasks,y.fits)/\dV x.step
def cI (x : Wld) : Nat:=bq x.h + (x.locks.length + (nL cJ x.queues + (nL da x.tasks)))
structure Rep where
 client : Int
 seq : Int
 rev : Int
 text : List Int
 has : Bool
 sent : List Part
 buf : List Part
def Rep.row (x : Rep) : List CD:=[vi x.client,vi x.seq,vi x.rev,.s (x.text.map al),.v (.bool x.has),.s (x.sent.map Part.row),.s (x.buf.map Part.row)]
def Rep.res (x : Rep) : List (CD × Nat):=[(vi x.client,1),(vi x.seq,1),(vi x.rev,1),(.s (x.text.map al),1),(.v (.bool x.has),1),(.s (x.sent.map Part.row),3),(.s (x.buf.map Part.row),3)]
@[simp] theorem Rep.row_len {x : Rep} : x.row.length = 7:=rfl
def Rep.fits (x : Rep) : Prop:=dV x.client/\dV x.seq/\dV x.rev/\(x.text.length<=9223372036854775807/\∀ n∈x.text,dV n)/\True/\(x.sent.length<=9223372036854775807/\∀ y∈x.sent,y.fits)/\(x.buf.length<=9223372036854775807/\∀ y∈x.buf,y.fits)
def NG (x : Rep) : Nat:=x.text.length + (nL ar x.sent + (nL ar x.buf))
structure Net where
 d : Doc
 reps : List Rep
def Net.row (x : Net) : List CD:=[.v (.string x.d.name),vi x.d.fr,.s (x.d.text.map al),.s (x.d.list.map Entry.row),.s (x.d.seen.map Seen.row),.s (x.reps.map Rep.row)]
def Net.res (x : Net) : List (CD × Nat):=[(.v (.string x.d.name),1),(vi x.d.fr,1),(.s (x.d.text.map al),1),(.s (x.d.list.map Entry.row),3),(.s (x.d.seen.map Seen.row),3),(.s (x.reps.map Rep.row),7)]
@[simp] theorem Net.row_len {x : Net} : x.row.length = 6:=rfl
def Net.fits (x : Net) : Prop:=x.d.fits/\(x.reps.length<=9223372036854775807/\∀ y∈x.reps,y.fits)
def Qn (x : Net) : Nat:=bf x.d + (nL NG x.reps)
structure Event where
 kind : Int
 who : Int
 n : Int
 o : List Part
def Event.row (x : Event) : List CD:=[vi x.kind,vi x.who,vi x.n,.s (x.o.map Part.row)]
def Event.res (x : Event) : List (CD × Nat):=[(vi x.kind,1),(vi x.who,1),(vi x.n,1),(.s (x.o.map Part.row),3)]
@[simp] theorem Event.row_len {x : Event} : x.row.length = 4:=rfl
def Event.fits (x : Event) : Prop:=dV x.kind/\dV x.who/\dV x.n/\(x.o.length<=9223372036854775807/\∀ y∈x.o,y.fits)
structure Desk where
 h : Hub
 n : Net
def Desk.row (x : Desk) : List CD:=[.v (.bool x.h.shut),.s (x.h.docs.map Doc.row),.s (x.h.subs.map Sub.row),vi x.h.last,.v (.string x.n.d.name),vi x.n.d.fr,.s (x.n.d.text.map al),.s (x.n.d.list.map Entry.row),.s (x.n.d.seen.map Seen.row),.s (x.n.reps.map Rep.row)]
def Desk.res (x : Desk) : List (CD × Nat):=[(.v (.bool x.h.shut),1),(.s (x.h.docs.map Doc.row),5),(.s (x.h.subs.map Sub.row),6),(vi x.h.last,1),(.v (.string x.n.d.name),1),(vi x.n.d.fr,1),(.s (x.n.d.text.map al),1),(.s (x.n.d.list.map Entry.row),3),(.s (x.n.d.seen.map Seen.row),3),(.s (x.n.reps.map Rep.row),7)]
@[simp] theorem Desk.row_len {x : Desk} : x.row.length = 10:=rfl
def Desk.fits (x : Desk) : Prop:=x.h.fits/\x.n.fits
theorem mix : Tryz.prog.follows .mixedOrders = true:=by kernel_rfl
theorem i6 (l : List Int) (hl : l.length<=9223372036854775807) (left : Nat) (hf : left<=2 ^ 20) : ac Tryz.prog 63 [.c (.s (l.map al)),.c (vi left)] (.one (.c (vi (szR l.length left)) 1)):=by
 refine ai ag Tryz.func63 (by kernel_rfl) rfl rfl rfl (Nat.le_of_ble_eq_true rfl) (λw0 base=>?_);have hw : IntKind.i64.wrap ((left : Int) - (l.length : Int)) = (left : Int) - l.length:=IntWalk.i64_in _ (by omega);simp [hw];by_cases h : l.length<=left
 ·have hz : ¬ (left : Int) - l.length < 0:=by omega
  simp [hz,bu h];omega
 ·have hz : (left : Int) - l.length < 0:=by omega
  simp [hz,aH h]
theorem i5 (l : List Int) (hl : l.length<=2 ^ 40) : ac Tryz.prog 20 [.c (.s (l.map al))] (.one (.c (.s (l.map al)) 1)):=by
 refine ai ag Tryz.func20 (by kernel_rfl) rfl rfl rfl (Nat.le_of_ble_eq_true rfl) (λw0 base=>?_);simp;refine ⟨by omega,λb=>?_⟩
 refine ak.intro eok (λi : Nat=>i<=l.length) (λi=>⟨22,0,[(4,.v (.int .i64 i)),(3,.sl 112 (some (b,0,l.length)) 1 0 l.length),(0,.ro (l.map al))],
  [(112,.rows (some (b,0,l.length)) 1 (go al [.v (.int .i64 0)] l i) true)]⟩) (λi=>l.length - i) 0 (by simp) (by simp [iz]) (λi hi=>?_)
 by_cases h : i < l.length
 ·simp [h,dB hi]
  exact ⟨i + 1,by omega,by omega,ah (by omega),fl (f:=al) h⟩
 ·have : i = l.length:=by omega
  subst this;simp [fm,cut]
theorem je (a b : List Int) (hl : a.length<=2 ^ 40) : ac Tryz.prog 22 [.c (.s (a.map al)),.c (.s (b.map al))] (.one (.c (vb (a = b)) 1)):=by
 refine ai ag Tryz.func22 (by kernel_rfl) rfl rfl rfl (Nat.le_of_ble_eq_true rfl) (λw0 base=>?_);by_cases h : a.length = b.length
 ·simp [h]
  refine ak.intro eok (λi : Nat=>i<=a.length/\a.take i = b.take i) (λi=>⟨26,0,[(5,.v (.int .i64 i)),(1,.ro (b.map al)),(0,.ro (a.map al))],[]⟩) (λi=>a.length - i) 0 (by simp) (by simp) (λi hi=>?_);by_cases hlt : i < a.length
  ·simp [hlt]
   have hlt' : i < b.length:=by omega
   refine aD.quiet eok mix (by kernel_rfl) ?_;simp [hlt,hlt'];refine Br.mk (λh1=>?_) (λh1=>?_)
   ·simp
    exact ⟨i + 1,⟨by omega,bC hlt hlt' hi.2 (ee h1)⟩,by omega,ah (by omega)⟩
   ·simp [bb]
    exact en hlt hlt' (λhe=>fR h1 (by rw [he]))
  ·simp [hlt,dN]
   exact bT (by omega) (by omega) hi.2
 ·have hz : ¬ (a.length : Int) = b.length:=by omega
  simp [hz,bb];exact λh2=>absurd (by rw [h2]) h
end Go.Proofs.YtoldjebobgocpaaGreat
