import Derived.Test.YtdeimojjhhdeaaaGreatDoorPJ
import Derived.Test.YtdeimojjhhdeaaaGreatDoorPK
import Derived.Test.YtdeimojjhhdeaaaGreatDoorPF
import Derived.Test.YtdeimojjhhdeaaaGreatDoorPL
import Derived.Test.YtdeimojjhhdeaaaGreatDoorPI
import Derived.Test.YtdeimojjhhdeaaaGreatDoorPH
import Derived.Test.YtdeimojjhhdeaaaGreatDoorPE
import Derived.Test.YtdeimojjhhdeaaaGreatDoorMH
import Derived.Shelf.RegionOpenPlain
import Derived.Test.YtdeimojjhhdeaaaGreatDoorPG
namespace Go.Proofs.YtdeimojjhhdeaaaGreatDoor
open Go.AM
set_option maxRecDepth 20000
set_option maxHeartbeats 6400000
def ML(r:Int×Int):List UInt8:=32::(aV r.1++42::aV r.2)
def rY(L:List (Int×Int)):List UInt8:=[111,107]++(L.map ML).flatten
def okS(b:ByteArray):ByteArray:=bs [111,107,32]++b
def zA:ByteArray:=bs [110,111,100,111,99]
def E7:ByteArray:=bs [111,108,100]
def fZ:ByteArray:=bs [119,104,97,116]
def KJ:ByteArray:=bs [98,97,100]
def zz:ByteArray:=bs [111,107]
def KH:ByteArray:=bs [98,117,115,121]
def jr:ByteArray:=bs [105,110,118,97,108,105,100]
def uM:List UInt8:=[116,101,120,116]
def Jx:List UInt8:=[119,104,111]
def qC:List UInt8:=[98,97,99,107]
def Ow:List UInt8:=[114,101,112]
def Mp:List UInt8:=[114,101,112,115]
def kF:List UInt8:=[115,101,116,116,108,101]
noncomputable def jF(d:Doc)(w0:List UInt8)(n:Int):ByteArray:=
 if w0=uM then okS (mY (cS d))else if w0=Jx then bs (rY (qz (er d)))
 else if(fv d n).2=true then okS (bs (jH (cD (fv d n).1)))else E7
noncomputable def j9(h:Hub)(w0 w1:List UInt8)(n:Int):ByteArray:=
 if dG h.docs (bs w1)<0 then zA else jF (h.docs.getD (dG h.docs (bs w1)).toNat Doc.zero) w0 n
theorem MY(W:List (List UInt8))(k:Nat) : -1<=aL W k/\aL W k<=1000000000:=by
 unfold aL
 split
 ·rename_i h
  unfold bc at h⊢
  split
  ·rename_i h2
   obtain⟨m,hm,he⟩:=h2;rw[<-he,vN];simp;omega
  ·rename_i h2
   rw[ak h2]at h;exact absurd h.2 ab
 ·omega
noncomputable def vc(n:Net)(k:Int):ByteArray:=match n.reps[k.toNat]? with
 |some r=>okS (mY (fN r))
 |none=>jr
theorem IB{n:Net}{k:Int}(h:(n.reps.length:Int)<=k):vc n k=jr:=by
 unfold vc;rw[Ej aa]
theorem IC{n:Net}{k:Nat}(h:k<n.reps.length):vc n k=okS (mY (fN n.reps[k])):=by
 unfold vc;rw[bm,au h]
noncomputable def np(d:Desk)(s:List UInt8)(W:List (List UInt8)):Desk×ByteArray:=
 if s=kF then(⟨d.h,(jE d.n).1⟩,if(jE d.n).2=true then zz else KH)
 else if W.length=2/\(W.getD 0 []=uM\/W.getD 0 []=Jx)then(d,j9 d.h (W.getD 0 []) (W.getD 1 []) (-1))
 else if W.length=3/\W.getD 0 []=qC/\0<=aL W 2 then(d,j9 d.h (W.getD 0 []) (W.getD 1 []) (aL W 2))
 else if W.length=2/\W.getD 0 []=Ow/\0<=aL W 1 then(d,vc d.n (aL W 1))
 else if W.length=2/\W.getD 0 []=Mp/\0<=aL W 1 then(if(gX gV [] (aL W 1)).2=true then(⟨d.h,(gX gV [] (aL W 1)).1⟩,zz)else(d,jr))
 else(d,fZ)
theorem aeU{d:Desk}{s x0 x1:List UInt8}(hn:¬s=kF):np d s [x0,x1]=if x0=uM\/x0=Jx then(d,j9 d.h x0 x1 (-1))
 else if x0=Ow/\0<=aL [x0,x1] 1 then(d,vc d.n (aL [x0,x1] 1))
 else if x0=Mp/\0<=aL [x0,x1] 1 then(if(gX gV [] (aL [x0,x1] 1)).2=true then(⟨d.h,(gX gV [] (aL [x0,x1] 1)).1⟩,zz)else(d,jr))
 else(d,fZ):=by
 simp[np,hn]
theorem aeT{d:Desk}{s x0 x1 x2:List UInt8}(hn:¬s=kF):np d s [x0,x1,x2]=if x0=qC/\0<=aL [x0,x1,x2] 2 then(d,j9 d.h x0 x1 (aL [x0,x1,x2] 2))else(d,fZ):=by
 unfold np;rw[ak hn,ak ab];by_cases c:x0=qC/\0<=aL [x0,x1,x2] 2
 ·rw[al c,al ⟨rfl,c⟩]
  rfl
 ·rw[ak c,ak (λq=>c q.2),ak ab,ak ab]
theorem aeS{d:Desk}{s:List UInt8}{W:List (List UInt8)}(h2:¬W.length=2)(h3:¬W.length=3):np d s W=if s=kF then(⟨d.h,(jE d.n).1⟩,if(jE d.n).2=true then zz else KH)else(d,fZ):=by
 simp[np,h2,h3]
noncomputable def oW(d:Desk)(s:List UInt8):Desk×ByteArray:=
 if(da s).2=true then(⟨(fDo d.h (da s).1).1,d.n⟩,bs (ib (fDo d.h (da s).1).2))
 else if(dL s).2=true then(⟨d.h,(dR d.n (dL s).1).1⟩,bs (mm (dR d.n (dL s).1).2))
 else np d s (bf 32 s)
open Classical in
noncomputable def sw(d:Desk)(s:List UInt8):Desk×ByteArray:=
 if ¬(bI d.h/\gz d.n)then(d,KJ)else if s=[]\/s.head? = some 35 then(d,bs [])else oW d s
theorem xV{d:Desk}{s:List UInt8}(h:¬(bI d.h/\gz d.n)):sw d s=(d,KJ):=by unfold sw;rw[al h]
theorem nk{d:Desk}{s:List UInt8}(h:bI d.h/\gz d.n)(c:s=[]\/s.head? = some 35):sw d s=(d,bs []):=by
 unfold sw;rw[ak (λn=>n h),al c]
theorem tW{d:Desk}{s:List UInt8}(h:bI d.h/\gz d.n)(c:¬(s=[]\/s.head? = some 35)):sw d s=oW d s:=by
 unfold sw;rw[ak (λn=>n h),ak c]
theorem vS{d:Desk}{s:List UInt8}(h:(da s).2=true):oW d s=(⟨(fDo d.h (da s).1).1,d.n⟩,bs (ib (fDo d.h (da s).1).2)):=by unfold oW;rw[al h]
theorem An{d:Desk}{s:List UInt8}(h:¬(da s).2=true)(h2:(dL s).2=true):oW d s=(⟨d.h,(dR d.n (dL s).1).1⟩,bs (mm (dR d.n (dL s).1).2)):=by
 unfold oW;rw[ak h,al h2]
theorem Cq{d:Desk}{s:List UInt8}(h:¬(da s).2=true)(h2:¬(dL s).2=true):oW d s=np d s (bf 32 s):=by
 unfold oW;rw[ak h,ak h2]
theorem MJ(w:List Int):(qz w).length<=w.length:=by
 cases w with
 |nil=>simp[qz]
 | cons x l =>
   obtain⟨L,n,h1,-,-,h4⟩:=zB (w:=x::l) l.length ab;rw[show(x::l).take (l.length+1)=x::l from aD ab]at h1;rw[h1];simp;omega
theorem vO(d:Doc):(er d).length<=120000:=by
 unfold er
 split
 ·rename_i h
  have ht:=h.2.2.1.1;exact xd JG _
 ·simp
theorem Mn{L:List (Int×Int)}{i:Nat}(h:i<L.length):rY (L.take (i+1))=rY (L.take i)++ML L[i]:=by
 unfold rY;rw[<-bY h,eY,List.flatten_append];simp
theorem Z4(r:Int×Int):(ML r).length<=22:=by
 have h1:=bZ r.1;have h2:=bZ r.2;unfold ML;simp;omega
theorem Mo(L:List (Int×Int)):(rY L).length<=2+22*L.length:=by
 unfold rY
 induction L with
 |nil=>simp
 | cons r L ih =>
   have:=Z4 r;simp at ih⊢;omega
theorem aaQ(o:List Part)(t:List Int):nL aM (mv o t).1<=2^40:=by
 unfold mv
 split
 ·rename_i h
  have h1:=(sa (FH (tT h))).1;have h2:=nd h1.1.1;have h3:=h1.1.2
  show nL aM (normal (il (normal o) t).1)<=2^40
  omega
 ·exact gA
theorem Fa(d:Doc)(rev:Int):nL aM (fv d rev).1<=2^40:=by
 unfold fv
 split
 ·exact aaQ _ _
 ·exact gA
def xX(d:Desk):Prop:=eG d.h<=2^28/\fj d.n<=2^26
theorem aaw(n:Int):fj (gX gV [] n).1<=2^24:=by
 by_cases h:(gY gV []).2=true/\1<=n/\n<=4
 ·rw[vK h]
  have hn:=PW gV [];have hk:=IL [] n.toNat;have h4:n.toNat*(([]:List Int).length+3)<=4*3:=az _ aa;have hs:gV.size=3:=rfl
  have hd:cO (gY gV []).1<=2^21:=by
   unfold gY
   split
   ·simp only
    rw[hn,hs]
    decide
   ·exact dz _
  unfold fj;exact gT
 ·rw[yE h]
  exact dz _
theorem yh{s:List UInt8}(h:(da s).2=true):cOk (da s).1/\cr (da s).1.o/\aW (da s).1=s/\jO (da s).1<=2^28:=by
 unfold da at h⊢
 split
 ·rename_i hx
  obtain⟨⟨h1,h2⟩,h3⟩:=hx.choose_spec;exact⟨h1,h2,h3,cT (abM h1.1) ag⟩
 ·rename_i hx
  rw[On hx]at h
  cases h
theorem BM{s:List UInt8}(h:(dL s).2=true):kJ (dL s).1/\cr (dL s).1.o/\bO (dL s).1=s/\mo (dL s).1<=2^40:=by
 unfold dL at h⊢
 split
 ·rename_i hx
  obtain⟨⟨h1,h2⟩,h3⟩:=hx.choose_spec;refine⟨h1,h2,h3,?_⟩;have a:=nd h2.1.1.1;have b:=h2.1.1.2
  show nL aM hx.choose.o<=2^40
  omega
 ·rename_i hx
  rw[On hx]at h
  cases h
theorem XN{n:Net}(h:fj n<=2^26):fj (jE n).1<=2^26:=by
 unfold jE
 split
 ·exact zC (aC _) h 6
 ·exact dz _
theorem NK{d:Desk}(s:List UInt8)(h:xX d):xX (sw d s).1:=by
 unfold sw oW np;have hd:=(VP d.h (da s).1).1;have hn:=vL (dL s).1 (aC _) h.2;have hs:=XN h.2;have hr:=aaw (aL (bf 32 s) 1)
 split
 ·exact h
 split
 ·exact h
 split
 ·exact⟨by show eG (fDo d.h (da s).1).1<=2^28;have:=h.1;omega,h.2⟩
 split
 ·exact⟨h.1,hn⟩
 split
 ·exact⟨h.1,hs⟩
 split
 ·exact h
 split
 ·exact h
 split
 ·exact h
 split
 ·split
  ·exact⟨h.1,by show fj (gX gV [] (aL (bf 32 s) 1)).1<=2^26;omega⟩
  ·exact h
 ·exact h
attribute [local simp] kf ia cP gM gH fo
theorem zZ(h:Hub)(hl:eG h<=2^28)(W:List (List UInt8))(h2:2<=W.length)(hWl:W.length<=2^31)(hWw:∀w∈W,w.length<=2^31) :
 dt Tryz.prog LT 37 [.agg h.row,.c (.s (W.map wR))] (.one (.c (.v (.string (j9 h (W.getD 0 []) (W.getD 1 []) (aL W 2)))) 1)):=by
 refine Qm LT.stay rfl ?_;refine BB.intro aq Tryz.func37 ai rfl rfl rfl (aj rfl) (λw0 base o eok=>?_);have p0:0<W.length:=aa;have p1:1<W.length:=aa;have q1:(1:Int)<W.length:=aa;obtain⟨x0,hx0⟩:∃x,W[0]=x:=⟨_,rfl⟩;obtain⟨x1,hx1⟩:∃x,W[1]=x:=⟨_,rfl⟩;have g0:W.getD 0 []=x0:=by simp[List.getD,p0,hx0]
 have g1:W.getD 1 []=x1:=by simp[List.getD,p1,hx1]
 rw[g0,g1];simp[Hub.row];intro b2;refine cg.quiet eok mix ai ?_;simp[p1,q1,hx1,wR];refine⟨_,_,(j6 h aa (bs x1)).up,bV,?_⟩;simp;rcases gE h.docs (bs x1)with⟨k,hk,e,hd⟩|e;rotate_left
 ·simp[e,j9,zA]
 obtain⟨d,hd0⟩:∃d,h.docs[k]=d:=⟨_,rfl⟩;have hdn:cO d<=2^28:=JF;have hget:h.docs.getD k Doc.zero=d:=by simp[List.getD,hk,hd0]
 have hsay:j9 h x0 (x1) (aL W 2)=jF d x0 (aL W 2):=by
  unfold j9;rw[e,ak aa,bm,hget]
 rw[hsay];have hk0:¬(k:Int)<0:=aa;simp[e,hk0,hk,hd0,Doc.row];intro b6;simp[p0,hx0,wR];by_cases t0:x0=uM
 ·have e0:jF d x0 (aL W 2)=okS (mY (cS d)):=by unfold jF;rw[al t0]
  rw[e0];have hlen:(cS d).length<=2^30:=nK d _;have hsz:=tc (cS d);rw[uM]at t0;simp[t0];refine ae.ro (nj d aa) aS ?_;simp;refine ae.ro (FK (cS d) aa) ab ?_;simp[okS];omega
 have t0':¬x0=[116,101,120,116]:=t0;by_cases t1:x0=Jx
 ·have e0:jF d x0 (aL W 2)=bs (rY (qz (er d))):=by unfold jF;rw[ak t0,al t1]
  rw[e0];have t1':x0=[119,104,111]:=t1;simp[t1'];refine iF (A9 d aa) aS ?_
  rintro _ rfl
  simp;have hwl:=vO d;refine ae.ro (Pv (er d) aa) ab ?_;have hrl:=MJ (er d);generalize qz (er d)=L at hrl⊢;simp;refine aE eok (λi:Nat=>i<=L.length) (λi=>⟨70,0,[(39,.v (.int .i64 i)),(38,.v (.int .i64 L.length)),(37,.ro (L.map oJ)),(7,.v (.string (bs (rY (L.take i)))))],phs o⟩) (λi=>L.length-i) 0 ab (by simp[rY]) (λi hi=>Ent.refl ?_);by_cases c:i<L.length
  rotate_left
  ·have he:L.take i=L:=aD aa
   simp[c,he]
  have hs:=Mn c;have hwl:=Mo (L.take i);obtain⟨r,hr⟩:∃r,L[i]=r:=⟨_,rfl⟩;rw[hr]at hs;have htl:(L.take i).length<=i:=by rw[gk];omega
  have n1:=bZ r.1;have n2:=bZ r.2;have e1:Go.IntKind.i64.wrap ((i:Int)+1)=((i+1:Nat):Int):=aZ aa;simp[c,hr,oJ];have q1:1+(aV r.1).length<=140737488355328:=aa;have q2:(aV r.1).length<=140737488355326:=aa;have q3:(aV r.1).length+1+1+(aV r.2).length<=140737488355328:=aa;have q4:(rY (L.take i)).length+((aV r.1).length+((aV r.2).length+1)+1)<=140737488355328:=aa
  refine drw eok mix [0,1,2,3,7,8,9] [4,5,6,10,11,12,13] (.c 7 4 8 119 (.c 7 5 0 119 (.c 7 6 0 119 (.c 7 10 1 118 (.c 7 11 0 118 (.c 7 12 64 54 (.c 7 13 54 0 (.l 7 0) .s) .s) .s) .s) (.c 7 10 1 118 (.c 7 6 0 118 (.c 7 11 0 118 (.c 7 12 64 54 (.c 7 13 54 0 (.l 7 0) .s) .s) .s) .s) .s)) (.c 7 10 1 118 (.c 7 5 0 118 (.c 7 6 0 118 (.c 7 11 0 118 (.c 7 12 64 54 (.c 7 13 54 0 (.l 7 0) .s) .s) .s) .s) .s) .s)) .s) ?_;simp
  try intros
  refine aB eok (cj r.1) ab ?_;simp
  try intros
  rw[Trc];refine⟨?_,?_⟩
  ·skip
   simp[q1]
   try intros
   rw[Trc];refine⟨?_,?_⟩
   ·skip
    simp[q2]
    try intros
    refine aB eok (cj r.2) ab ?_;simp[q3,q4]
    try intros
    refine Ent.refl ⟨i+1,aa,aa,?_⟩;simp[e1,hs,ML]
   ·skip
    simp
    try intros
    refine aB eok (cj r.2) ab ?_;simp[q2,q3,q4]
    try intros
    refine Ent.refl ⟨i+1,aa,aa,?_⟩;simp[e1,hs,ML]
  ·skip
   simp
   try intros
   refine aB eok (cj r.2) ab ?_;simp[q1,q2,q3,q4]
   try intros
   refine Ent.refl ⟨i+1,aa,aa,?_⟩;simp[e1,hs,ML]
 have t1':¬x0=[119,104,111]:=t1;have e0:jF d x0 (aL W 2)=if(fv d (aL W 2)).2=true then okS (bs (jH (cD (fv d (aL W 2)).1)))else E7:=by unfold jF;rw[ak t0,ak t1]
 rw[e0];have hrn:=Fa d (aL W 2);have hrv:=FP d aa (aL W 2);generalize fv d (aL W 2)=R at hrn hrv⊢;obtain⟨r,ok⟩:=R;simp only at hrn hrv⊢;simp[t0',t1'];refine drw eok mix [0,1] [2,3,4,5,6,7,8] (.c 2 2 1 2 (.c 2 3 2 0 (.c 2 4 0 0 (.c 2 5 0 0 (.c 2 6 0 0 (.c 2 7 0 0 (.c 2 8 0 0 (.l 2 0) .s) .s) .s) .s) .s) .s) .s) ?_;simp
 try intros
 refine aB eok (df W 2 aa hWl hWw) ab ?_;simp
 try intros
 refine iF hrv aS ?_;rintro _ rfl;simp
 try intros
 cases ok with
 |false=>simp[E7]
 | true =>
   have hle:=kt r;simp;refine aB eok (pI r hrn) ab ?_;simp[okS];omega
end Go.Proofs.YtdeimojjhhdeaaaGreatDoor
namespace Go.Proofs.YtdeimojjhhdeaaaGreatDoor
open Go.AM Go.RowKit
set_option maxRecDepth 100000
set_option maxHeartbeats 4000000
set_option linter.unusedVariables false
set_option linter.unusedSimpArgs false
theorem K7(w:World)(us xs:List Value)(n i b o C bv ov Cv:Nat)(cs cv:Array Value)(T Tv:TypeId)(hul:us.length=n*5)(hxl:xs.length=5)(hi:i<n)(hroom:n+1<=C)(hC:C<=maxLen)
 (hb:w.heap[b]? = some (.cells cs T (0,0))) (hfit:o+C*5<=cs.size) (hcs:∀j,j<n*5->cs.getD (o+j) undef=us.getD j undef) (h1:∀v∈us,v.oneCell'=true)
 (hbv:w.heap[bv]? = some (.cells cv Tv (0,0))) (hCv:1<=Cv) (hfv:ov+Cv*5<=cv.size) (hcv:∀j,j<5->cv.getD (ov+j) undef=xs.getD j undef) (h1v:∀v∈xs,v.oneCell'=true) (hne:bv≠b) :
 Calls Tryz.prog 225 #[.slice (some ⟨b,o,none⟩) n C,.int .i64 i,.slice (some ⟨bv,ov,none⟩) 1 Cv] w λe w'=>
  e=.returned (.slice (some ⟨b,o,none⟩) (n+1) C)/\Placed w w' (some b) b o C (n+1) 5 (us.take (i*5)++xs++us.drop (i*5)):=by
 have u0:=bM Tryz.underlying37;have mixed:Tryz.prog.follows .mixedOrders=true:=ai;obtain⟨i0,z0,hi0,hzs,hzb,hz0,hzc,-⟩:=(aq 44 _ Qu).info;have hzs:i0.size=5:=hzs;have hC63:C<=9223372036854775807:=Dg;have hz1:¬((1:Int)=0):=aa;have hz2:¬((i:Int)=(n:Int)):=aa;have hdl:(us.drop (i*5)).length=(n-i)*5:=Df
 have hov:∀lb cb,(callFunc 312 #[.slice (some ⟨bv,ov,none⟩) 1 Cv,.slice (some ⟨b,o+(i*5+5),none⟩) lb cb]).run Tryz.prog w=.ok (.value (.bool false)) w:=λlb cb=>by
  rw[run_callFunc_extern Tryz.func312 ai ai ai (e:=Extern.SlicesOverlaps.overlaps #[37,37] #[4]) ai,
   Lib.run_overlaps_apart w 37 4 44 Tryz.underlying37 5 Tryz.sizeOf44 ⟨bv,ov,none⟩ ⟨b,o+(i*5+5),none⟩ 1 Cv lb cb hne Tv T cv.size cs.size (by simp[World.shape?,hbv]) (by simp[World.shape?,hb]) aa De De]
  rfl
 have hmm:(n+1)*5<=C*5:=az _ hroom;have hii:i*5+5<=n*5:=by have:=az 5 (show i+1<=n from aa);omega
 have e1:(i+1)*5=i*5+5:=cL i 5;have e2:(n+1)*5=n*5+5:=cL n 5;have e3:(n-i)*5=n*5-i*5:=YB n i 5;obtain⟨cs1,hcs1⟩:∃c,c=(cs.toList.take (o+(i+1)*5)++us.drop (i*5)++cs.toList.drop (o+(i+1)*5+(us.drop (i*5)).length)).toArray:=⟨_,rfl⟩;obtain⟨s1,g1⟩:=gp cs (o+(i+1)*5) (us.drop (i*5)) aa;rw[<-hcs1]at s1 g1
 have hcp1:∀(W:World),W.heap=w.heap->∀ty dl dc sl sc,Nat.min sl dl=n-i->(Builtin.copy_ #[37,37] ty #[.slice (some ⟨b,o+(i*5+5),none⟩) dl dc,.slice (some ⟨b,o+i*5,none⟩) sl sc]).run Tryz.prog W=.ok (goInt (n-i:Nat)) (W.setRow b cs1):=λW hW ty dl dc sl sc hm=>by
  have hb':W.heap[b]? = some (.cells cs T (0,0)):=by rw[hW];exact hb
  rw[hcs1,e1]
  exact mB Tryz.underlying37 hi0 hb' ⟨b,o+i*5,none⟩ (us.drop (i*5)) (n-i) hm (by rw[hdl,hzs])
   (λj v hj=>by
    rw[iU];refine lK hb' (o:=o+i*5) (vs:=us.drop (i*5)) (λj hj=>?_) aa j v hj;rw[jB,hcs _ aa];simp[bu])
   (λv hv=>h1 v (bD hv)) aa
 obtain⟨cs2,hcs2⟩:∃c,c=(cs1.toList.take (o+i*5)++xs++cs1.toList.drop (o+i*5+xs.length)).toArray:=⟨_,rfl⟩;obtain⟨s2,g2⟩:=gp cs1 (o+i*5) xs aa;rw[<-hcs2]at s2 g2
 have hcp2:∀(W:World),W.heap[b]? = some (.cells cs1 T (0,0))->W.heap[bv]? = some (.cells cv Tv (0,0))->∀ty dl dc,0<dl->(Builtin.copy_ #[37,37] ty #[.slice (some ⟨b,o+i*5,none⟩) dl dc,.slice (some ⟨bv,ov,none⟩) 1 Cv]).run Tryz.prog W=.ok (goInt (1:Nat)) (W.setRow b cs2):=λW hW hWv ty dl dc hm=>by
  rw[hcs2]
  exact mB Tryz.underlying37 hi0 hW ⟨bv,ov,none⟩ xs 1 qN oe
   (λj v hj=>by
    rw[iU];exact lK hWv (λj hj=>hcv j aa) aa j v hj)
   h1v aa
 have hw1:IntKind.i64.wrap ((i:Int)+1)=(i:Int)+1:=sM;have hb1:(0:Int)<=(i:Int)+1:=aa;have hin:i<=n:=aa;have htn:((i:Int)+1).toNat=i+1:=aa;have hb2:¬(C=i+1):=aa;have hb3:(i:Int)<=(n:Int)+1:=aa;have hb4:¬(C=i):=aa
 go_enter Tryz.func225,Tryz.ntmps225
 go_wp2_with (simp only[hov])
 have hE:=hcp1 w.drew rfl 3 (n-i) (C-(i+1)) (n+1-i) (C-i) qN;have hE2:=hcp2 (w.drew.setRow b cs1) (by simp[gG w.drew b cs cs1 T (0,0) hb]) (by rw[jJ w.drew b bv cs1 hne];exact hbv) 3 (n+1-i) (C-i) aa
 have hP:Placed w ((w.drew.setRow b cs1).setRow b cs2) (some b) b o C (n+1) 5 (us.take (i*5)++xs++us.drop (i*5)):=by
  refine⟨⟨cs2,T,gG _ b cs1 cs2 T (0,0) (gG w.drew b cs cs1 T (0,0) hb),aa,λj hj=>?_⟩,hroom,hC,ab,⟨rfl,rfl,rfl⟩,.inr rfl,λc _ hc=>?_⟩
  ·rw[g2,g1]
   have hl:(us.take (i*5)).length=i*5:=aI;simp only[bu];rw[cU];by_cases c1:j<i*5
   ·exact Ta
   ·rw[br aa,hl]
    by_cases c2:j<i*5+5
    ·rw[al aa,cq aa]
     congr 2
     omega
    ·exact Tc
  ·rw[jJ _ b c _ hc,jJ _ b c _ hc];rfl
 clear hcs1 hcs2
 go_region
 go_wp2
 go_ret
 all_goals exact⟨rfl,hP⟩
theorem yz(w:World)(a:Option Addr)(n C bv ov Cv:Nat)(r:Value)(w1:World)(hnC:n<=C)(hC:C<=maxLen)
 (hr:∀ty,(Builtin.append_ #[37,37] ty #[.slice a n C,.slice (some ⟨bv,ov,none⟩) 1 Cv]).run Tryz.prog w=.ok r w1) :
 Calls Tryz.prog 225 #[.slice a n C,.int .i64 n,.slice (some ⟨bv,ov,none⟩) 1 Cv] w λe w'=>e=.returned r/\w'=w1:=by
 have u0:=bM Tryz.underlying37;have mixed:Tryz.prog.follows .mixedOrders=true:=ai;have hC63:C<=9223372036854775807:=Dg;have hz1:¬((1:Int)=0):=aa
 cases a with
 | none =>
   exact QP
 | some q =>
   exact QP
theorem Nl(w:World)(us xs:List Value)(n i b o C bv ov Cv:Nat)(cs cv:Array Value)(T Tv:TypeId)(hul:us.length=n*5)(hxl:xs.length=5)(hi:i<n)(hnc:n<=C)(hroom:C<n+1)(hbig:(n+1)*GX.bytes<=140737488355328)
 (hb:w.heap[b]? = some (.cells cs T (0,0))) (hfit:o+C*5<=cs.size) (hcs:∀j,j<n*5->cs.getD (o+j) undef=us.getD j undef) (h1:∀v∈us,v.oneCell'=true)
 (hbv:w.heap[bv]? = some (.cells cv Tv (0,0))) (hCv:1<=Cv) (hfv:ov+Cv*5<=cv.size) (hcv:∀j,j<5->cv.getD (ov+j) undef=xs.getD j undef) (h1v:∀v∈xs,v.oneCell'=true) :
 Calls Tryz.prog 225 #[.slice (some ⟨b,o,none⟩) n C,.int .i64 i,.slice (some ⟨bv,ov,none⟩) 1 Cv] w λe w'=>
  ∃nC,e=.returned (.slice (some ⟨w.heap.size,0,none⟩) (n+1) nC)/\Placed w w' (some b) w.heap.size 0 nC (n+1) 5 (us.take (i*5)++xs++us.drop (i*5)):=by
 have u0:=bM Tryz.underlying37;have mixed:Tryz.prog.follows .mixedOrders=true:=ai;obtain⟨i0,z0,hi0,hzs,hzb,hz0,hzc,-⟩:=(aq 44 _ Qu).info;have hzz:=nI hzc;have hzs:i0.size=5:=hzs;have hzb:i0.bytes=GX.bytes:=hzb;have hby:0<GX.bytes:=ag;have hzz:z0.cells.size=5:=hzz;have hnb:(n+1)<=140737488355328:=cT (dY _ hby) hbig;have hz1:¬((1:Int)=0):=aa;have hz2:¬((i:Int)=(n:Int)):=aa;have hz3:(C:Int)<(n:Int)+1:=aa;have hmm:n*5<=C*5:=az _ hnc;have hii:i*5+5<=n*5:=by have:=az 5 (show i+1<=n from aa);omega
 have e1:(i+1)*5=i*5+5:=cL i 5;have e2:(n+1)*5=n*5+5:=cL n 5;have e3:(n-i)*5=n*5-i*5:=YB n i 5;have hdl:(us.drop (i*5)).length=(n-i)*5:=Df;have htl:(us.take (i*5)).length=i*5:=aI;have hbw:b<w.heap.size:=gq hb;have hvw:bv<w.heap.size:=gq hbv;have hkk:(n:Int)+1-(i:Int)=((n+1-i:Nat):Int):=aa;have hik:i+(n+1-i)=n+1:=aa
 have hold:(Builtin.firstCells i0.size i (.slice (some ⟨b,o,none⟩) i C)).run Tryz.prog w.drew=.ok (us.take (i*5)).toArray w.drew:=by
  rw[hzs]
  exact xq w.drew 5 i ⟨b,o,none⟩ i C (us.take (i*5)) (by rw[htl]) (λj v hj=>by
   rw[iU]
   exact lK (w:=w.drew) (o:=o) (vs:=us.take (i*5)) (cs:=cs) (T:=T) hb (λj hj=>by
    rw[hcs _ aa];rw[htl]at hj;simp only[bu,ez,al hj]) aa j v hj)
 have hrz:∀ty,(Builtin.append_ #[37,3] ty #[.slice (some ⟨b,o,none⟩) i C,.int .i64 ((n:Int)+1-(i:Int))]).run Tryz.prog w =
  .ok (.slice (some ⟨w.heap.size,0,none⟩) (n+1) (grownCap w (n+1) C 44)) (w.drew.alloc (.cells ((us.take (i*5)).toArray++Builtin.zeroCells z0.cells (n+1-i)++Builtin.zeroCells z0.cells (grownCap w (n+1) C 44-(n+1))) 44)):=λty=>by
  have h:=aiQ w 37 3 ty 44 i0 z0 .i64 .i64 Tryz.underlying37 Tryz.underlying3 hi0 hz0 (some ⟨b,o,none⟩) i C (us.take (i*5)) hold (n+1-i) aa aa aa aa (by rw[hzb];have:=az GX.bytes (show n+1-i<=n+1 from aa);omega) (by rw[hzb,hik];exact rQ hroom hbig);rw[hik]at h;rw[hkk];exact h
 obtain⟨G,hG⟩:∃G,G=grownCap w (n+1) C 44:=⟨_,rfl⟩;obtain⟨ROW,hROW⟩:∃ROW:Array Value,ROW=(us.take (i*5)).toArray++Builtin.zeroCells z0.cells (n+1-i)++Builtin.zeroCells z0.cells (G-(n+1)):=⟨_,rfl⟩;rw[<-hG]at hrz;rw[<-hROW]at hrz;have hGn:n+1<=G:=by rw[hG];exact oa w _ _ _
 have hGm:G<=maxLen:=by rw[hG];exact gw w (n+1) C 44 lk
 have hG63:G<=9223372036854775807:=by unfold maxLen at hGm;omega
 have hRs:ROW.size=G*5:=by
  exact S9
 have hGK:(n+1)*5<=G*5:=az _ hGn
 have hRg:∀j,j<i*5->ROW.getD j undef=us.getD j undef:=by
  exact Um
 obtain⟨W1,hW1⟩:∃W1,W1=w.drew.alloc (.cells ROW 44):=⟨_,rfl⟩;rw[<-hW1]at hrz;have hN:W1.heap[w.heap.size]? = some (.cells ROW 44 (0,0)):=by rw[hW1];exact sr w.drew _
 have hO:∀c,c<w.heap.size->W1.heap[c]? = w.heap[c]?:=λc hc=>by rw[hW1];exact sq w.drew _ hc
 have hS:W1.heap.size=w.heap.size+1:=by rw[hW1];simp
 obtain⟨cs1,hcs1⟩:∃c,c=(ROW.toList.take (i*5)++xs++ROW.toList.drop (i*5+xs.length)).toArray:=⟨_,rfl⟩;obtain⟨s1,g1⟩:=gp ROW (i*5) xs aa;rw[<-hcs1]at s1 g1
 have hcpA:=mB (P:=Tryz.prog) (w:=W1) (ty:=3) Tryz.underlying37 hi0 (dl:=n+1-i) (dc:=G-i) (o:=i*5) hN ⟨bv,ov,none⟩ (sl:=1) (sc:=Cv) xs 1 qN oe
  (λj v hj=>by
   rw[iU];exact lK (by rw[hO _ hvw];exact hbv) (λj hj=>hcv j aa) aa j v hj) h1v aa
 rw[<-hcs1]at hcpA;have hN1:(W1.setRow w.heap.size cs1).heap[w.heap.size]? = some (.cells cs1 44 (0,0)):=gG _ _ _ _ _ _ hN;obtain⟨cs2,hcs2⟩:∃c,c=(cs1.toList.take (i*5+5)++us.drop (i*5)++cs1.toList.drop (i*5+5+(us.drop (i*5)).length)).toArray:=⟨_,rfl⟩;obtain⟨s2,g2⟩:=gp cs1 (i*5+5) (us.drop (i*5)) aa;rw[<-hcs2]at s2 g2;have hbN:b≠w.heap.size:=aa
 have hcpB:=mB (P:=Tryz.prog) (w:=(W1.setRow w.heap.size cs1).drew) (ty:=3) Tryz.underlying37 hi0 (dl:=n-i) (dc:=G-(i+1)) (o:=i*5+5) hN1 ⟨b,o+i*5,none⟩ (sl:=n-i) (sc:=C-i) (us.drop (i*5)) (n-i) qN (by rw[hdl,hzs])
  (λj v hj=>by
   rw[iU]
   have hb':(W1.setRow w.heap.size cs1).drew.heap[b]? = some (.cells cs T (0,0)):=by
    exact RY
   refine lK hb' (o:=o+i*5) (vs:=us.drop (i*5)) (λj hj=>?_) aa j v hj;rw[jB,hcs _ aa];simp[bu])
  (λv hv=>h1 v (bD hv)) aa
 rw[<-hcs2]at hcpB
 have hP:Placed w ((W1.setRow w.heap.size cs1).drew.setRow w.heap.size cs2) (some b) w.heap.size 0 G (n+1) 5 (us.take (i*5)++xs++us.drop (i*5)):=by
  refine⟨⟨cs2,44,gG _ _ cs1 cs2 _ (0,0) hN1,aa,λj hj=>?_⟩,hGn,hGm,?_,?_,.inl (aC _),λc hc hne=>?_⟩
  ·rw[dN,g2,g1]
   simp only[bu];rw[cU];by_cases c1:j<i*5
   ·exact TK
   ·rw[br aa,htl]
    by_cases c2:j<i*5+5
    ·exact Rc
    ·exact SL
  ·simp[hS]
  ·rw[hW1];exact⟨rfl,rfl,rfl⟩
  ·exact SI
 have hw1:IntKind.i64.wrap ((i:Int)+1)=(i:Int)+1:=sM;have hb1:(0:Int)<=(i:Int)+1:=aa;have hin:i<=n:=aa;have htn:((i:Int)+1).toNat=i+1:=aa;have hGi:¬(G=i):=aa;have hGim:¬(G=i+1):=aa;have hci:¬(C=i):=aa;have hb3:(i:Int)<=(n:Int):=aa
 clear hkk hik hold hROW hG hcs1 hcs2 hN hN1 hO hS hRs hRg hW1
 go_enter Tryz.func225,Tryz.ntmps225
 go_wp2_with (first
  |(at_builtin;refine Lib.wpList_append_run _ rfl _ _ _ _ rfl _ _ rfl rfl _ _ (hrz _) ?_)
  |(at_builtin;refine rX _ rfl _ _ 37 37 rfl _ _ rfl rfl hcpA ?_))
 go_region
 go_wp2
 go_ret
 all_goals exact⟨_,rfl,hP⟩
theorem Nm:L9 Tryz.prog 225 5 GX.bytes:=by
 refine⟨⟨_,Tryz.func225,ai,ai⟩,λw us xs n i s v ob bv0 hul hxl hi hbig hs hv hap=>?_⟩;obtain⟨i0,z0,hi0,hzs,hzb,hz0,hzc,-⟩:=(aq 44 _ Qu).info;have hzz:=nI hzc;have hzs:i0.size=5:=hzs;have hzb:i0.bytes=GX.bytes:=hzb;have hby:0<GX.bytes:=ag;have hzz:z0.cells.size=5:=hzz;have hnb:(n+1)<=140737488355328:=cT (dY _ hby) hbig;rcases hv with⟨h0,-⟩|⟨bv,ov,Cv,cv,Tv,rfl,rfl,hbv,hCv,hCvm,hfv,hcv,h1v⟩
 ·omega
 have hcellv:∀j v,xs[j]? = some v->w.cell? (Addr.add ⟨bv,ov,none⟩ j)=some v:=λj v hj=>by
  exact Rp
 have fresh:∀(C0 nC:Nat) (rest:Array Value) (ob:Option Nat),n+1<=nC->nC<=maxLen->rest.size=(nC-(n+1))*5 ->
  Placed w (w.drew.alloc (.cells (us.toArray++xs.toArray++rest) 44)) ob w.heap.size 0 nC (n+1) 5 (us.take (n*5)++xs++us.drop (n*5)):=by
  intro C0 nC rest ob h1 h2 h3;have e:nC*5=n*5+5+(nC-(n+1))*5:=by rw[<-cL,<-ff];congr 1;omega
  refine⟨⟨_,_,sr w.drew _,by simp[hul,hxl,h3];omega,λj hj=>?_⟩,h1,h2,ab,⟨rfl,rfl,rfl⟩,.inl (aC _),λc hc _=>sq w.drew _ hc⟩;rw[aD aa,bE aa,cu,dN];have e2:(n+1)*5=n*5+5:=cL n 5;simp only[aT,bu];rw[eF aI,List.append_toArray,mO]
 rcases hs with⟨rfl,rfl,a,rfl⟩|⟨b,o,C,cs,T,rfl,rfl,hb,hnC,hCm,hfit,hcs,h1⟩
 ·obtain rfl:i=0:=by omega
  have hun:us=[]:=aF aa;subst hun;have hrun:=λty=>nM (P:=Tryz.prog) (w:=w) (ty:=ty) Tryz.underlying37 hi0 hz0 a ⟨bv,ov,none⟩ 1 Cv xs oe hcellv aa aa (by rw[hzb];omega)
  refine(yz w a 0 0 bv ov Cv _ _ (aC _) lk hrun).mono ?_
  rintro e w' ⟨rfl,rfl⟩
  have hge:=oa w 1 0 44;have hcm:=gw w 1 0 44 lk;refine⟨_,_,_,rfl,?_⟩;have:=fresh 0 (grownCap w 1 0 44) (Builtin.zeroCells z0.cells (grownCap w 1 0 44-1)) none hge hcm Dd;exact lr
 ·by_cases hin:i=n
  ·subst hin
   by_cases hroom:i+1<=C
   ·have hmm:(i+1)*5<=C*5:=az _ hroom
    have e2:(i+1)*5=i*5+5:=cL i 5;have hrun:=λty=>Go.AM.run_append_room (P:=Tryz.prog) (ty:=ty) (c:=Cv) (n:=i) (m:=1) Tryz.underlying37 hi0 hb ⟨bv,ov,none⟩ xs oe hcellv h1v hroom (by rw[hzs];exact hfit)
    refine(yz w _ i C bv ov Cv _ _ hnC hCm hrun).mono ?_
    rintro e w' ⟨rfl,rfl⟩
    obtain⟨g0,g⟩:=gp cs (o+i*i0.size) xs (by rw[hzs];omega);refine⟨_,_,_,rfl,⟨_,_,gG w b cs _ T (0,0) hb,by rw[g0];exact hfit,λj hj=>?_⟩,hroom,hCm,ab,⟨rfl,rfl,rfl⟩,.inr rfl,λc _ hc=>jJ w b c _ hc⟩;rw[g,hzs,aD aa,bE aa,cu];by_cases c1:j<i*5
    ·exact SF
    ·exact SP
   ·have hrun:=λty=>GU (P:=Tryz.prog) w 37 ty 44 i0 z0 Tryz.underlying37 hi0 hz0 ⟨b,o,none⟩ i C us (by rw[hzs];exact hul) (λj v hj=>by
     rw[iU];have:=az 5 hnC;exact lK hb (λj hj=>hcs j aa) aa j v hj) ⟨bv,ov,none⟩ 1 Cv xs oe hcellv aa aa (by rw[hzb];exact rQ aa hbig)
    refine(yz w _ i C bv ov Cv _ _ hnC hCm hrun).mono ?_
    rintro e w' ⟨rfl,rfl⟩
    have hge:=oa w (i+1) C 44;have hcm:=gw w (i+1) C 44 lk;exact⟨_,_,_,rfl,fresh C _ _ _ hge hcm Dd⟩
  ·by_cases hroom:n+1<=C
   ·refine(K7 w us xs n i b o C bv ov Cv cs cv T Tv hul hxl aa hroom hCm hb hfit hcs h1 hbv hCv hfv (λj hj=>hcv j aa) h1v (λh=>hap b rfl fH)).mono ?_
    rintro e w' ⟨rfl,hp⟩
    exact⟨_,_,_,rfl,hp⟩
   ·refine(Nl w us xs n i b o C bv ov Cv cs cv T Tv hul hxl aa hnC aa hbig hb hfit hcs h1 hbv hCv hfv (λj hj=>hcv j aa) h1v).mono ?_
    rintro e w' ⟨nC,rfl,hp⟩
    exact⟨_,_,_,rfl,hp⟩
open Go.AM
set_option maxRecDepth 20000
set_option maxHeartbeats 6400000
theorem xH(room rev:Int)(hr : -4611686018427387904<=rev/\rev<=4611686018427387904):ar Tryz.prog 229 [.c (vi room),.c (vi rev)] (.tup [.agg (iq room rev).1.res,.c (.v (.bool (iq room rev).2)) 1]):=by
 refine pci aq Tryz.func229 (λw0 base=>?_);have ew:Go.IntKind.i64.wrap (rev+1)=rev+1:=ah _ aa;simp[ew];intro b4 b6;refine ae.pure (iz (fS room rev) (by rw[va];omega)) (by simp[fS,Ring.row]) ?_;exact Uq
theorem FL(r:Ring)(hl:eJ r<=2^30)(e:Entry)(he:ba e<=2^29):ar Tryz.prog 227 [.agg r.row,.agg e.row] (.one (.agg (fw r e).res)):=by
 refine pci aq Tryz.func227 (λw0 base=>?_);have hno:=@Ab r e;have hfull:=@vH r e;have hroom:=@vG r e;have hle:=bB (f:=ba) (B:=2^30) (l:=r.list) yV;have he1:nL ba [e]<=2^30:=by simp[nL,dW];omega
 simp[Ring.row,Entry.row];intro b2 b3 b4;refine ae.pure (qo r hl) eS ?_;simp[Ring.res];intro H b5;refine ae.pure (iz r aa) eS ?_;by_cases c1:dw r
 rotate_left
 ·exact DF
 simp[c1];refine ae.pure (ow e aa) ix ?_;by_cases c2:dr e
 rotate_left
 ·simp[aH c2,hno (λh=>c2 h.2.1)]
 simp[c2]
 cases c3:r.out with
 |true=>simp[hno (λh=>by rw[c3]at h;exact absurd h.2.2 ab),c3]
 |false=>
 simp;by_cases c4:(r.list.length:Int)=r.cap
 ·have e1:=hfull ⟨c1,c2,c3⟩ c4
  simp[c4,e1]
 have e1:=hroom ⟨c1,c2,c3⟩ c4;simp[c4];refine drw eok mix [0,1,2,6] [3,4,5,7] (.c 4 3 2 13 (.c 4 4 0 13 (.c 4 5 4 9 (.c 4 7 9 0 (.l 4 0) .s) .s) .s) .s) ?_;simp
 try intros
 refine ae.pure (oB [e] he1) ix ?_;simp;exact SH
theorem A8(r:Ring)(hl:eJ r<=2^30)(rev:Int)(hr : -4611686018427387904<=rev/\rev<=4611686018427387904):ar Tryz.prog 232 [.agg r.row,.c (vi rev)] (.tup [.agg (ed r rev).1.res,.c (.v (.bool (ed r rev).2)) 1]):=by
 refine pci aq Tryz.func232 (λw0 base=>?_);have hno:=@vF r rev;have hyes:=@uB r rev;simp[Ring.row];intro b2 b4;refine ae.pure (iz r aa) eS ?_;by_cases c1:dw r
 rotate_left
 ·simp[aH c1,hno c1,Ring.res,Ring.zero]
 simp[c1];have hc:=xH r.cap rev hr;exact Tj
theorem pJ(h:Hub)(hl:eG h<=2^40)(id:Int):ar Tryz.prog 230 [.agg h.row,.c (vi id)] (.one (.c (vi (iL h.subs id)) 1)):=by
 refine pci aq Tryz.func230 (λw0 base=>?_);obtain⟨sh,docs,l,last⟩:=h;have hle:=bB (jP hl).2;simp only at hle;simp[Hub.row];intro b2 b3;refine inl aq Tryz.func317 20000 (λw1 F=>?_);simp
 refine aU.intro eok (λi:Nat=>i<=l.length/\∀j,j<i->∀hj:j<l.length,¬l[j].id=id) (λi=>⟨19,20000,[(8,.v (.int .i64 i)),(7,.v (.int .i64 l.length)),(0,.ro (l.map Sub.row)),(1,.clo 318 [.p 48 b3 0])],
  [(48,.vars b3 3 [.v (.int .i64 id)])]⟩) (λi=>l.length-i) 0 ab ab (λi hi=>?_)
 by_cases hlt:i<l.length
 ·simp[hlt]
  refine inl aq Tryz.func318 40000 (λw2 F2=>?_);simp[Sub.row];exact QK
 ·exact Rw
theorem HG(h:Hub)(hl:eG h<=2^30):ar Tryz.prog 116 [.agg h.row] (.tup [.agg (fA h).1.res,.c (vi (fA h).2) 1]):=by
 refine pci aq Tryz.func116 (λw0 base=>?_);simp[Hub.row];intro b1 b2;refine ae.pure (fW h hl) bV ?_;by_cases c1:bI h
 rotate_left
 ·simp[aH c1,Co c1,Hub.res,Hub.zero]
 simp[c1]
 cases c2:h.shut with
 |true=>simp[xP c1 c2,Hub.res,Hub.zero]
 |false=>
 have e:=Ag c1 wh;simp;refine ae.pure (iI h hl) qI ?_;simp[Hub.res,e]
theorem yB(h:Hub)(hl:eG h<=2^28)(name:ByteArray)(room:Int):ar Tryz.prog 113 [.agg h.row,.c (.v (.string name)),.c (vi room)]
 (.tup [.agg (bL h name room).1.res,.c (vi (bL h name room).2.1) 1,.c (vi (bL h name room).2.2) 1]):=by
 refine pci aq Tryz.func113 (λw0 base=>?_);have hls:=bB (jP hl).2;simp[Hub.row];intro b3 b6;refine ae.pure (j6 h aa name) bV ?_;simp;refine ae.pure (fW h aa) bV ?_;by_cases c1:bI h
 rotate_left
 ·simp[aH c1,lI (λh=>c1 h.1),Hub.res,Hub.zero]
 simp[c1];refine ae.pure (bW room 1 6) ab ?_;by_cases c2:1<=room/\room<=6
 rotate_left
 ·simp[aH c2,lI (λh=>c2 h.2),Hub.res,Hub.zero]
 simp[c2]
 cases c3:h.shut with
 |true=>simp[qg ⟨c1,c2⟩ c3,Hub.res,Hub.zero]
 |false=>
 simp;rcases gE h.docs name with⟨k,hk,e,-⟩|e;rotate_left
 ·simp[e,qi ⟨c1,c2⟩ qG e,Hub.res,Hub.zero]
 have hk0:¬(k:Int)<0:=aa;have hat:=su ⟨c1,c2⟩ qG hk e;simp[e,hk0];have hlast:=c1.2.2.1;by_cases c4:h.subs.length=6
 ·have c4':(h.subs.length:Int)=6:=by omega
  rw[al (.inl c4)]at hat;simp[c4',hat,Hub.res,Hub.zero]
 have c4':¬(h.subs.length:Int)=6:=aa;simp[c4'];by_cases c5:h.last=1000000000
 ·rw[al (.inr c5)]at hat
  simp[c5,hat,Hub.res,Hub.zero]
 rw[ak (λh=>h.elim c4 c5)]at hat;have ew:Go.IntKind.i64.wrap (h.last+1)=h.last+1:=ah _ aa;have hh:=dD (lH c1 hk);obtain⟨d,hd⟩:∃d,h.docs[k]=d:=⟨_,rfl⟩;rw[hd]at hat hh;simp[c5];refine ae.pure (iI h aa) (by simp[Hub.row,c3]) ?_;simp[Hub.res,ew,c3,hk,hd,Doc.row];intro H1 H2 b10;refine ae.pure (cY d) aS ?_;simp;have hc:=xH room (aA d) aa;generalize iq room (aA d)=R at hc hat;obtain⟨⟨cp,nx,ot,ls⟩,ok⟩:=R;refine ae.pure hc ab ?_;simp[Ring.res];intro H11 H12 b11;refine⟨aa,λH=>?_⟩;refine drw eok mix [0,1,2,4,5] [3] (.c 5 3 16 15 (.l 5 15) .s) ?_;simp
 try intros
 rw[hat];simp[c3,Sub.row]
 try (rintro row (⟨a,-,rfl⟩|rfl)<;>rfl)
theorem CY(h:Hub)(hl:eG h<=2^28)(id:Int):ar Tryz.prog 115 [.agg h.row,.c (vi id)]
 (.tup [.agg (cI h id).1.res,.c (.s ((cI h id).2.1.map aN)) 1,.c (vi (cI h id).2.2.1) 1,.c (vi (cI h id).2.2.2) 1]):=by
 refine pci aq Tryz.func115 (λw0 base=>?_);have hls:=bB (jP hl).2;simp[Hub.row];intro b2 b4;refine ae.pure (pJ h aa id) bV ?_;simp;refine ae.pure (fW h aa) bV ?_;by_cases c1:bI h
 rotate_left
 ·simp[aH c1,xQ c1,Hub.res,Hub.zero]
 simp[c1];rcases mU h.subs id with⟨k,hk,e,-⟩|e;rotate_left
 ·simp[e,uE c1 e,Hub.res,Hub.zero]
 have hk0:¬(k:Int)<0:=aa;obtain⟨hro,j,hj,ej⟩:=w7 c1 hk;have hat:=xR c1 hk e hj ej;have hm:=eA (f:=eM) (jP hl).2 hk;have hdn:=eA (f:=cO) (jP hl).1 hj;have hh:=dD (lH c1 hj);unfold eM at hm;have hmod:=wU hk;obtain⟨s,hs⟩:∃s,h.subs[k]=s:=⟨_,rfl⟩;obtain⟨d,hd⟩:∃d,h.docs[j]=d:=⟨_,rfl⟩;rw[hs]at hat hm hmod ej;rw[hd]at hat hdn hh;have hc:=A8 s.r aa (aA d) aa;generalize ed s.r (aA d)=R at hc hat;obtain⟨r,ok⟩:=R;simp only at hat hc;simp[e,hk0];refine jx (λx:Nat=>[(9,.p 144 x 0)]) (λx=>[(144,.vars x 44 [.v (.string d.name),.v (.int .i64 d.fr),.ro (d.text.map aN),.ro (d.list.map Entry.row),.ro (d.seen.map Seen.row)])]) [1,2,4,5,6,7,8] ?_ ?_
 ·refine drw eok mix [0,1,2,3,4,5,6,7,8] [9,10,11,12,13] (.c 9 9 65 446 (.c 9 10 128 318 (.c 9 11 0 318 (.c 9 12 0 318 (.c 9 13 318 0 (.l 9 0) .s) .s) (.c 9 12 0 318 (.c 9 11 0 318 (.c 9 13 318 0 (.l 9 0) .s) .s) .s)) (.c 9 12 0 446 (.c 9 10 128 318 (.c 9 11 0 318 (.c 9 13 318 0 (.l 9 0) .s) .s) .s) .s)) (.c 9 12 0 511 (.c 9 9 65 446 (.c 9 10 128 318 (.c 9 11 0 318 (.c 9 13 318 0 (.l 9 0) .s) .s) .s) .s) .s)) ?_
  simp[hk,hs,Sub.row]
  try intros
  repeat' first
   |(refine ae.pure (j6 h aa s.doc) bV ?_;simp[hj,hd,Doc.row,ej];try intros)
   |(rw[Trc];refine⟨?_,?_⟩<;>(try simp[hk,hs,hj,hd,Sub.row,Doc.row])<;>try intros)
 rintro b9
 simp;refine ae.pure (iI h aa) bV ?_;simp[Hub.res];intro H1 H2 b10;refine drw eok mix [0,1,2,3,4,5,6,7,8,9,15,16] [10,11,12,13,14,17] (.c 12 10 4 4091 (.c 12 11 8 4083 (.c 12 12 0 4083 (.c 12 13 0 4083 (.c 12 14 0 4083 (.c 12 17 4081 2 (.l 12 2) .s) .s) .s) .s) .s) .s) ?_;simp[hk,hs,Sub.row]
 try intros
 refine ae.pure (cY d) aS ?_;simp
 try intros
 refine ae.pure (hc) eS ?_;simp[Ring.res,hk]
 try intros
 refine drw eok mix [0,1,3,8] [2,4,5,6,7] (.c 4 2 4 11 (.c 4 4 2 9 (.c 4 5 8 1 (.c 4 6 0 1 (.c 4 7 0 1 (.l 4 1) .s) .s) .s) .s) .s) ?_;simp
 try intros
 refine ae.pure (nj d aa) aS ?_;simp
 try intros
 refine ae.pure (cY d) aS ?_;simp
 try intros
 rw[hat];simp[hmod r];exact AY
theorem Pz(h:Hub)(hl:eG h<=2^28)(_c1:bI h)(c:Call):ar Tryz.prog 112 [.agg h.row,.agg c.row] (.one (.agg (rf h c).res)):=by
 refine pci aq Tryz.func112 (λw0 base=>?_);simp[Hub.row,Call.row];intro b2 b3 b4;refine ae.pure (j6 h aa c.doc) bV ?_;simp
 cases c3:h.shut with
 |true=>simp[Gb c3,Answer.res,fX]
 |false=>
 simp;rcases gE h.docs c.doc with⟨k,hk,e,-⟩|e;rotate_left
 ·simp[e,Gc qG e,Answer.res,fX]
 have hk0:¬(k:Int)<0:=aa;have hat:=NG (c:=c) qG hk e;have hdn:=eA (f:=cO) (jP hl).1 hk;obtain⟨d,hd⟩:∃d,h.docs[k]=d:=⟨_,rfl⟩;rw[hd]at hat hdn;simp[e,hk0];by_cases c4:c.kind=4
 ·rw[al c4]at hat
  simp[c4];refine drw eok mix [0,1,2,3,4,6,7,8,9,10] [5,11,12,13] (.c 10 5 32 991 (.c 10 11 1 990 (.c 10 12 0 990 (.c 10 13 990 0 (.l 10 0) .s) .s) .s) .s) ?_;simp[hk,hd,Doc.row]
  try intros
  refine ae.pure (nj d aa) qF ?_;simp
  try intros
  refine ae.pure (cY d) qF ?_;simp
  try intros
  rw[hat];simp[Answer.res]
 rw[ak c4]at hat;have hf:=Cf d aa c.n;exact UL
theorem LD{name:ByteArray}{t:List Int}:cf (ju name t)↔mn name/\el t:=by
 constructor
 ·rintro⟨h1,-,h3,-⟩
  exact⟨h1,h3⟩
 ·rintro⟨h1,h2⟩
  exact⟨h1,by simp[ju],h2,by simp[ju],by simp[ju],by simp[ju,bj],λi hi=>by simp[ju]at hi⟩
theorem HL(h:Hub)(hl:eG h<=2^28)(name:ByteArray)(hs:name.size<=2^28)(t:List Int)(ht:t.length<=2^28):ar Tryz.prog 110 [.agg h.row,.c (.v (.string name)),.c (.s (t.map aN))]
 (.tup [.agg (eP h name t).1.res,.c (vi (eP h name t).2) 1]):=by
 refine pci aq Tryz.func110 (λw0 base=>?_);have hld:=bB (jP hl).1;have hdn:=zX name t hs ht;unfold gY at hdn;simp[Hub.row];intro b3 b6;refine ae.pure (fW h aa) bV ?_;by_cases c1:bI h
 rotate_left
 ·simp[aH c1,mH (λh=>c1 h.1),Hub.res,Hub.zero]
 simp[c1];refine ae.pure (tL name aa) ab ?_;by_cases d1:mn name
 rotate_left
 ·simp[aH d1,mH (λh=>d1 (LD.1 h.2).1),Hub.res,Hub.zero]
 simp[d1];refine ae.pure (lF t aa) ab ?_;by_cases d2:el t
 rotate_left
 ·simp[aH d2,mH (λh=>d2 (LD.1 h.2).2),Hub.res,Hub.zero]
 have c0:cf (ju name t):=LD.2 ⟨d1,d2⟩;rw[al c0]at hdn;simp[d2]
 cases c2:h.shut with
 |true=>simp[xS ⟨c1,c0⟩ c2,Hub.res,Hub.zero]
 |false=>
 have c2':¬h.shut=true:=wh;simp;refine ae.pure (j6 h aa name) qI ?_;simp;by_cases c3:0<=dG h.docs name
 ·simp[c3,xT ⟨c1,c0⟩ c2' c3,Hub.res,Hub.zero]
 simp[c3];by_cases c4:h.docs.length=5
 ·have c4':(h.docs.length:Int)=5:=by omega
  simp[c4',xU ⟨c1,c0⟩ c2' c3 c4,Hub.res,Hub.zero]
 have c4':¬(h.docs.length:Int)=5:=aa;have hat:=Ah ⟨c1,c0⟩ c2' c3 c4;rw[xe]at hat;have hal:=vP (ju name t).name h.docs;have hon:=λ{k:Nat} h1 h2=>vQ (name:=(ju name t).name) (l:=h.docs) (k:=k) h1 h2
 rw[show(ju name t).name=name from rfl]at hat hal hon;generalize ir name h.docs=a at hat hal hon;simp[c4'];refine ae.pure hdn ab ?_;simp[Doc.res,ju];intro G1 G2 G3 b8;refine ae.pure (iI h aa) qI ?_;simp[Hub.res,c2];intro K1 K2 b10
 refine aE eok (λk:Nat=>k<=a) (λk=>⟨76,0,[(11,.v (.int .i64 k)),(1,.v (.string name)),(6,.p 96 b6 0),(8,.p 128 b8 0),(10,.p 160 b10 0)],
  [(160, .vars b10 40 [.v (.bool false), .sl 801 K1 5 0 h.docs.length, .sl 802 K2 6 0 h.subs.length, .v (.int .i64 h.last)]),(96, .vars b6 40 [.v (.bool false), .nil, .nil, .v (.int .i64 0)]),
   (128,.vars b8 44 [.v (.string name),.v (.int .i64 0),.sl 738 G1 1 0 t.length,.sl 739 G2 3 0 0,.sl 740 G3 3 0 0]),(738,.rows G1 1 (t.map aN) true),(739,.rows G2 3 [] true),(740,.rows G3 3 [] true),
   (801,.rows K1 5 (h.docs.map Doc.row) true),(802,.rows K2 6 (h.subs.map Sub.row) true)]⟩) (λk=>h.docs.length-k) 0 ab ab (λk hk=>Ent.refl ?_)
 have hdz:Doc.row ⟨name,0,t,[],[]⟩=[.v (.string name),.v (.int .i64 0),.s (t.map aN),.s [],.s []]:=rfl;by_cases hlt:k<h.docs.length
 ·obtain⟨x,hx⟩:∃x,h.docs[k]=x:=⟨_,rfl⟩
  have hiff:=hon hk hlt;rw[hx]at hiff;simp[hlt,hx,Doc.row];by_cases s:sLt x.name name
  ·simp[s]
   exact Ent.refl ⟨k+1,by have:=hiff.1 s;omega,aa,by simp;exact aZ aa⟩
  have hka:k=a:=by
   have:¬k<a:=λh=>s (hiff.2 h)
   omega
  subst hka;simp[aH s];intro b72;refine pQ Nm ag (n:=h.docs.length) (rows:=h.docs.map Doc.row) (row:=[.v (.string name),.v (.int .i64 0),.s (t.map aN),.s [],.s []]) (k:=801) (kv:=1152) (own:=true) (ownv:=true) (i:=k) ab ab ab ag aI aI (λH6=>?_);simp[hat,c2,ju,hdz];have hm:min k h.docs.length=k:=aa;refine⟨by rw[hm];omega,?_,?_⟩
  ·rintro row (h|rfl|h)
   ·exact Xi (bN h)
   ·rfl
   ·exact Xi (bD h)
  ·rw[Ec (by simp[hm];omega)]
 have hka:k=h.docs.length:=aa;have hka2:a=h.docs.length:=aa;subst hka2;subst hka;simp;intro b72;refine pQ Nm ag (n:=h.docs.length) (rows:=h.docs.map Doc.row) (row:=[.v (.string name),.v (.int .i64 0),.s (t.map aN),.s [],.s []]) (k:=801) (kv:=1152) (own:=true) (ownv:=true) (i:=h.docs.length) ab ab ab ag ab aI (λH6=>?_);simp[hat,c2,ju,hdz];refine⟨?_,?_⟩
 ·rintro row (h|rfl|h)
  ·exact Xi (bN h)
  ·rfl
  ·exact Xi (bD h)
 ·rw[aD ab,bE ab]
theorem CX(h:Hub)(hl:eG h<=2^28)(name:ByteArray)(client seq base:Int)(o:List Part)(ho:nL aM o<=2^40) :
 ar Tryz.prog 111 [.agg h.row,.c (.v (.string name)),.c (vi client),.c (vi seq),.c (vi base),.c (.s (o.map Part.row))]
 (.tup [.agg (dh h name client seq base o).1.res,.c (vi (dh h name client seq base o).2.1) 1,.c (vi (dh h name client seq base o).2.2) 1]):=by
 refine pci aq Tryz.func111 (λw0 bs=>?_);have hls:=bB (jP hl).2;simp[Hub.row];intro b6 b12;refine ae.pure (j6 h aa name) bV ?_;simp;refine ae.pure (fW h aa) bV ?_;by_cases c1:bI h
 rotate_left
 ·simp[aH c1,xN c1,Hub.res,Hub.zero]
 simp[c1]
 cases c2:h.shut with
 |true=>simp[uC c1 c2,Hub.res,Hub.zero]
 |false=>
 have c2':¬h.shut=true:=wh;simp;rcases gE h.docs name with⟨k,hk,e,-⟩|e;rotate_left
 ·simp[e,uD c1 c2' e,Hub.res,Hub.zero]
 have hk0:¬(k:Int)<0:=aa;have hat:=xO (client:=client) (seq:=seq) (base:=base) (o:=o) c1 c2' hk e;have hdn:=eA (f:=cO) (jP hl).1 hk;have hdo:=lH c1 hk;have hDn:=xb (client:=client) (seq:=seq) (base:=base) (o:=o) hdo;have hok:=F0 (client:=client) (seq:=seq) (base:=base) (o:=o) hdo;obtain⟨d,hd⟩:∃d,h.docs[k]=d:=⟨_,rfl⟩;rw[hd]at hat hdn hDn hok;have hc:=tI d hdn client seq base o ho;generalize dv d client seq base o=S at hc hat hDn hok;obtain⟨D,rev,code⟩:=S;simp only at hc hat hDn hok;simp[e,hk0,hk,hd,Doc.row];refine ae.pure hc aS ?_;simp[Doc.res];intro H1 H2 H3 b16;by_cases c3:code=0
 rotate_left
 ·rw[ak c3]at hat
  simp[c3,hat,Hub.res,Hub.zero]
 rw[al c3]at hat;have hok:=hok c3;simp[c3];refine ae.pure (iI h aa) qI ?_;simp[Hub.res,c2,hk];intro K1 K2 b19;refine drw eok mix [0,2,3,4,5,6] [1,7,8] (.c 6 1 32 31 (.c 6 7 1 30 (.c 6 8 0 30 (.l 6 30) .s) .s) .s) ?_;simp[hk,hd,Doc.row]
 try intros
 refine ae.pure (cY D) qF ?_;simp
 try intros
 refine ae.pure (cY d) qF ?_;simp
 try intros
 by_cases c5:aA D=aA d
 ·have hcm:jb h name k d D=⟨h.shut,h.docs.set k D,h.subs,h.last⟩:=by unfold jb;rw[ak aa]
  rw[hcm]at hat;simp[c5,hat,c2];exact⟨wL,rfl⟩
 rcases hok with rfl|⟨e,he1,he2⟩
 ·exact absurd rfl c5
 have hcm:jb h name k d D=⟨h.shut,h.docs.set k D,h.subs.map (je name e),h.last⟩:=by unfold jb;rw[al aa,he2]
 rw[hcm]at hat;have hgt:aA d<aA D:=aa;have hmem:e∈D.list:=GV he2;have hpos:0<D.list.length:=qx hmem;obtain⟨m,hm⟩:∃m,D.list.length=m+1:=⟨D.list.length-1,aa⟩;have hml:m<D.list.length:=aa
 have hme:D.list[m]=e:=by
  exact SO
 have hDl:nL ba D.list<=2^24:=by unfold cO at hDn;omega
 have hen:=hQ (f:=ba) hDl hmem;have hlen24:=bB hDl;have ew:Go.IntKind.i64.wrap ((D.list.length:Int)-1)=(m:Int):=by rw[ah _ aa];omega
 have em:Go.IntKind.i64.wrap (m:Int)=m:=gb aa;simp[hgt]
 refine aE eok (λi:Nat=>i<=h.subs.length) (λi=>⟨103,0,[(75,.v (.int .i64 i)),(74,.v (.int .i64 h.subs.length)),(73,.sl 914 K2 6 0 h.subs.length),(19,.p 304 b19 0),(16,.p 256 b16 0),(17,.v (.int .i64 rev)),(1,.v (.string name)),(12,.p 192 b12 0)],
  [(304, .vars b19 40 [.v (.bool false), .sl 913 K1 5 0 h.docs.length, .sl 914 K2 6 0 h.subs.length, .v (.int .i64 h.last)]),(192, .vars b12 40 [.v (.bool false), .nil, .nil, .v (.int .i64 0)]),
   (256,.vars b16 44 [.v (.string D.name),.v (.int .i64 D.fr),.sl 770 H1 1 0 D.text.length,.sl 771 H2 3 0 D.list.length,.sl 772 H3 3 0 D.seen.length]),
   (771,.lent H2 3 (D.list.map Entry.row)),(913,.rows K1 5 ((h.docs.set k D).map Doc.row) true),(914,.rows K2 6 ((kN name e h.subs i).map Sub.row) true)]⟩) (λi=>h.subs.length-i) 0 ab (by simp[BF];rfl) (λi hi=>Ent.refl ?_)
 have htl:=yg name e h.subs i;by_cases hlt:i<h.subs.length
 ·have hti:=AJ (name:=name) (e:=e) hlt
  have hlt':i<(kN name e h.subs i).length:=aa;have hsk:=BG (name:=name) (e:=e) hlt;have hsu:=yf (name:=name) (e:=e) hlt;have hmd:=wU hlt' (fw h.subs[i].r e);have hmn:=eA (f:=eM) (jP hl).2 hlt;unfold eM at hmn;rw[hti]at hmd;obtain⟨s,hs⟩:∃s,h.subs[i]=s:=⟨_,rfl⟩;rw[hs]at hti hsk hsu hmd hmn;simp[hlt,htl,hti,Sub.row];intro b21;by_cases c6:s.doc=name
  rotate_left
  ·simp[c6]
   refine Ent.refl ⟨i+1,aa,aa,?_⟩;rw[<-hsk c6];simp;exact aZ aa
  have htell:je name e s=⟨s.id,s.doc,fw s.r e⟩:=by unfold je;rw[al c6]
  rw[htell]at hsu;rw[hsu]at hmd;have hpc:=FL s.r aa e aa;generalize fw s.r e=R at hpc hmd;simp[c6];have hmm:(m:Int)<(m:Int)+1:=aa;refine drw eok mix [0,1,2,3,4,5,6,7,8,9,10,11,12,14,15] [13,16] (.c 15 13 1028 31739 (.c 15 16 31737 2 (.l 15 2) .s) .s) ?_;simp[hlt,hm,em,hme,hmm,Entry.row]
  try intros
  refine ae.pure (hpc) (by simp[Ring.row,Entry.row,Entry.row]) ?_;simp[Ring.res,hlt,htl]
  try intros
  refine Ent.refl ⟨i+1,aa,aa,?_⟩;rw[<-hmd];simp;exact aZ aa
 have hie:i=h.subs.length:=aa;subst hie;rw[Et];simp[hat,c2];exact wL
theorem Xw(h:Hub)(hl:eG h<=2^28)(c:Call)(hc:jO c<=2^28)(n6:¬c.kind=6):ar Tryz.prog 30 [.agg h.row,.agg c.row] (.tup [.agg (fDo h c).1.res,.agg (fDo h c).2.res]):=by
 refine pci aq Tryz.func30 (λw0 base=>?_);have hcn:c.doc.size<=2^28/\nL aM c.o<=2^28/\c.text.length<=2^28:=by unfold jO at hc;omega
 simp[Hub.row,Call.row];intro b2 b3 b4 b5;refine ae.pure (fW h aa) bV ?_;by_cases c1:bI h
 rotate_left
 ·exact Tm
 simp[c1];refine ae.pure (pK c aa) di ?_;by_cases c2:eQ c
 rotate_left
 ·exact Tl
 simp[c2];intro b6 b7;have hk:c.kind=1\/c.kind=2\/(c.kind=3\/c.kind=4)\/c.kind=5\/c.kind=6\/c.kind=7\/c.kind=8:=by have:=c2.1;omega
 rcases hk with k|k|k|k|k|k|k
 ·-- kind 1
  have hat:=ae2 ⟨c1,c2⟩ k;have hd:=HL h aa c.doc hcn.1 c.text hcn.2.2;generalize eP h c.doc c.text=R at hd hat;exact QT
 ·-- kind 2
  have hat:=ae1 ⟨c1,c2⟩ k;have hd:=CX h aa c.doc c.client c.seq c.n c.o aa;generalize dh h c.doc c.client c.seq c.n c.o=R at hd hat;obtain⟨X,rev,code⟩:=R;exact JV
 ·-- kinds 3,4
  have hat:=abg ⟨c1,c2⟩ k;have hd:=Pz h aa c1 c;generalize rf h c=A at hd hat;have k1:¬c.kind=1:=aa;have k2:¬c.kind=2:=aa;have fin:∀_:c.kind=3\/(¬c.kind=3/\c.kind=4),True:=λ_=>trivial
  rcases k with k|k
  ·exact QW
  ·exact QW
 ·-- kind 5
  have hat:=ae0 ⟨c1,c2⟩ k;have hd:=yB h aa c.doc c.n;generalize bL h c.doc c.n=R at hd hat;obtain⟨X,rev,code⟩:=R;exact JV
 ·exact absurd k n6
 ·-- kind 7
  have hat:=aeZ ⟨c1,c2⟩ k;have hd:=CY h aa c.client;generalize cI h c.client=R at hd hat;obtain⟨X,text,rev,code⟩:=R;exact JV
 ·-- kind 8
  have hat:=aeY ⟨c1,c2⟩ k;have hd:=HG h aa;generalize fA h=R at hd hat;exact QT
theorem FM(r:Ring)(hl:eJ r<=2^30)(n:Int):jm Tryz.prog 231 [.agg r.row,.c (vi n)] (λrr=>rr=.tup [.agg (dx r n).1.res,.c (.s ((dx r n).2.1.map Entry.row)) 3,.c (vi (dx r n).2.2) 1]):=by
 refine jm.intro aq Tryz.func231 ai rfl rfl rfl (aj rfl) (λw0 base o=>?_);have hno:=@Ac r n;have hout:=@rG r n;have hyes:=@oz r n;have hnl:nL ba r.list<=2^30:=yV;have hle:=bB hnl;simp[Ring.row];intro b2 b4;refine ae.ro (qo r hl) eS ?_;simp[Ring.res];intro b7;refine ae.ro (iz r aa) eS ?_;by_cases c1:dw r
 rotate_left
 ·exact DF
 simp[c1];by_cases c2:1<=n
 rotate_left
 ·have c2':n<1:=by omega
  simp[c2',hno (λh=>c2 h.2)]
 have c2':¬n<1:=aa;simp[c2'];have hnx:=c1.2.2.1
 cases c3:r.out with
 |true=>simp[hout ⟨c1,c2⟩ c3,c3]
 |false=>
 simp;obtain⟨m,rfl⟩:∃m:Nat,n=m:=⟨n.toNat,aa⟩;obtain⟨k,hk0⟩:∃k:Nat,min m r.list.length=k:=⟨_,rfl⟩;have hk:k<=r.list.length:=aa;have e1:=hyes ⟨c1,c2⟩ c3 (k:=k) aI;have ew:Go.IntKind.i64.wrap (r.next+(k:Int))=r.next+k:=ah _ aa;have cd:=nZ (l:=r.list) (k:=k) hk;have ct:=Bn (l:=r.list) (k:=k) hk;rw[By,hk0];simp[hk,ew,cd,ct];rw[e1];simp[c3]
theorem HI(h:Hub)(hl:eG h<=2^28)(id n:Int):jm Tryz.prog 114 [.agg h.row,.c (vi id),.c (vi n)]
 (λrr=>rr=.tup [.agg (eB h id n).1.res,.c (.s ((eB h id n).2.1.map Entry.row)) 3,.c (vi (eB h id n).2.2) 1]):=by
 refine jm.intro aq Tryz.func114 ai rfl rfl rfl (aj rfl) (λw0 base o=>?_);have hls:=bB (jP hl).2;simp[Hub.row];intro b3 b6;refine ae.ro (pJ h aa id) bV ?_;simp;refine ae.ro (fW h aa) bV ?_;by_cases c1:bI h
 rotate_left
 ·simp[aH c1,oP (λh=>c1 h.1),Hub.res,Hub.zero]
 simp[c1];by_cases c2:1<=n
 rotate_left
 ·have c2':n<1:=by omega
  simp[c2',oP (λh=>c2 h.2),Hub.res,Hub.zero]
 have c2':¬n<1:=aa;simp[c2'];rcases mU h.subs id with⟨k,hk,e,-⟩|e;rotate_left
 ·simp[e,rH ⟨c1,c2⟩ e,Hub.res,Hub.zero]
 have hk0:¬(k:Int)<0:=aa;have hat:=rh ⟨c1,c2⟩ hk e;have hm:=eA (f:=eM) (jP hl).2 hk;unfold eM at hm;have hmod:=wU hk;obtain⟨s,hs⟩:∃s,h.subs[k]=s:=⟨_,rfl⟩;rw[hs]at hat hm hmod;have hc:=FM s.r aa n;generalize dx s.r n=R at hc hat;obtain⟨r,list,code⟩:=R;simp only at hat hc;simp[e,hk0,hk,hs,Sub.row];refine iF hc eS ?_
 rintro _ rfl
 simp[Ring.res];intro b10;by_cases c3:code=0
 rotate_left
 ·rw[ak c3]at hat
  simp[c3,hat,Hub.res,Hub.zero]
 rw[al c3]at hat;simp[c3];refine ae.pure (iI h aa) bV ?_;simp[Hub.res,hk]
 try intros
 rw[hat];simp[hmod r]
set_option maxHeartbeats 12800000
attribute [local simp] kf ia cP gM gH fo
theorem Gq(d:Desk)(hb:xX d):ar Tryz.prog 27 [.agg d.row] (.one (.agg d.res)):=by
 refine pci aq Tryz.func27 (λw0 base=>?_);have h1:=hb.1;have h2:=hb.2;simp[Desk.row];intro b1 b2;refine drw eok mix [0,1,3,4] [2,5,6,7] (.c 4 2 4 11 (.c 4 5 1 10 (.c 4 6 0 10 (.c 4 7 10 0 (.l 4 0) .s) .s) .s) .s) ?_;simp
 try intros
 refine ae.pure (iI d.h aa) bV ?_;simp[Hub.res]
 try intros
 refine ae.pure (xg d.n aa) iN ?_;simp[Net.res]
 try intros
 simp[Desk.res]
end Go.Proofs.YtdeimojjhhdeaaaGreatDoor
namespace Go.AM
open Go.RowKit
def AB(P:Program)(f:Nat)(args:List VD)(post:AV->AH->Prop):Prop:=
 Mb P f/\∀(w:World) (xs:Array Value),xs.size=args.length->(∀i vd,args[i]? = some vd->RdV w (xs.getD i undef) vd) ->
  Calls P f xs w λe w'=>∃v av h E,e=.returned v/\post av h/\av.q=true/\(∀k,(h.get k).q=true)/\Below w.heap.size w w'/\VRel w' h.M av v /\
   HRel ⟨λc=>c<w.heap.size,λc=>c<w.heap.size,false,λ_=>True⟩ h w' E
theorem vC:∀(hN h:AH) (k:Nat),AH.get (hN++h) k=if k∈hN.map (·.1)then hN.get k else h.get k
 | [],h,k=>ab
 | (j, o) :: hN, h, k => by
   rw[dE,bU,bU,vC hN h k];by_cases e:k=j
   ·simp[e]
   ·simp only[bK,aR,e,false_or,dy]
theorem Lk:∀(h:AH) {k:Nat},k∉h.map (·.1)->h.get k=.dead
 | [],_,_=>rfl
 | (j, o) :: l, k, hk => by
   simp only[bK,aR,not_or]at hk;rw[bU,ak hk.1];exact Lk l hk.2
theorem we{E:Env}{f:Nat}{args:List VD}{post:AV->AH->Prop}(hc:AB E.P f args post){avs:List AV}{st:ASt}{dst:Option Nat}{K:ASt->Prop}(hin:rn E.rd st.h avs args)
 (hout:∀av hN,post av hN->cG { st with h:=hN++st.h } dst av K):ae E f avs st dst K:=by
 refine⟨hc.1,λa w hR xs hs hx=>?_⟩;obtain⟨Es,hH⟩:=hR.heap;obtain⟨hl,hr⟩:=jR hH hR.rd avs args hx hin;refine(hc.2 w xs aa hr).mono ?_
 rintro e w' ⟨v,av,hN,EN,rfl,hp,hq,hqo,hb,hv,HN⟩
 have hlow:∀k b,(hN.get k).blk=some b->w.heap.size<=b:=λk b h=>rT (HN.low k b h).1
 have hMo:∀c,(AH.M (hN++st.h)) c->hN.M c\/st.h.M c:=by
  rintro c ⟨k,hk⟩
  rw[vC]at hk
  split at hk
  ·exact .inl ⟨k,hk⟩
  ·exact .inr ⟨k,hk⟩
 have t:Tr st.h.M w (AH.M (hN++st.h)) w':=⟨hb.size,λb hlt _=>hb.block b hlt,λb hlt hM=>(hMo b hM).elim (λ⟨k,hk⟩=>by have:=hlow k b hk;omega) id⟩
 have HX:HRel E.base (hN++st.h) w' (λk c=>if k∈hN.map (·.1)then EN k c else Es k c):=by
  refine⟨λk=>?_,λk k' b h1 h2=>?_,λk b h1=>?_,λk c hc=>?_,λk k' c h1 h2=>?_,λk c hc hM=>?_⟩
  ·rw[vC]
   split
   ·refine(HN.obj k).quiet (hqo k) (λc hc hn hM=>?_)
    rcases hMo c hM with h|⟨j,hj⟩
    ·exact hn h
    ·have:=(HN.elow k c hc).1
     have:=hH.lt hj;omega
   ·exact(hH.obj k).tr t (λb hk=>hb.block b (hH.lt hk)) (λc hc _=>hc)
  ·rw[vC]at h1 h2
   split at h1<;>split at h2
   ·exact HN.inj _ _ _ h1 h2
   ·have:=hlow _ _ h1;have:=hH.lt h2;omega
   ·have:=hlow _ _ h2;have:=hH.lt h1;omega
   ·exact hH.inj _ _ _ h1 h2
  ·rw[vC]at h1
   split at h1
   ·exact hR.newer (hlow _ _ h1)
   ·exact hH.low _ _ h1
  ·split at hc
   ·exact⟨(hR.newer (rT (HN.elow k c hc).1)).2,(HN.elow k c hc).2⟩
   ·exact⟨(hH.elow k c hc).1,cH (hH.elow k c hc).2 hb.size⟩
  ·split at h1<;>split at h2
   ·exact HN.einj _ _ _ h1 h2
   ·have:=(HN.elow k c h1).1;have:=(hH.elow k' c h2).2;omega
   ·have:=(HN.elow k' c h2).1;have:=(hH.elow k c h1).2;omega
   ·exact hH.einj _ _ _ h1 h2
  ·split at hc
   ·rcases hMo c hM with h|⟨j,hj⟩
    ·exact HN.em k c hc h
    ·have:=(HN.elow k c hc).1
     have:=hH.lt hj;omega
   ·rcases hMo c hM with⟨j,hj⟩|h
    ·have:=(hH.elow k c hc).2
     have:=hlow _ _ hj;omega
    ·exact hH.em k c hc h
 have hv':VRel w' (AH.M (hN++st.h)) av v:=hv.quiet hq;obtain⟨av',h3,h1,h2,h4,h5⟩:=(hR.move HX t ⟨hb.os,hb.tape,hb.output⟩).put hv' (hout av hN hp);exact⟨v,av',h3,rfl,h1,h2,h4,h5⟩
theorem HRel.some{base:Bs}{h hN:AH}{w:World}{E:Nat->Nat->Prop}(H:HRel base h w E)(hg:∀k∈hN.map (·.1),hN.get k=h.get k)(_hq:∀k,(hN.get k).q=true) :
 HRel base hN w (λk c=>k∈hN.map (·.1)/\E k c):=by
 have hb:∀k b,(hN.get k).blk=Option.some b->k∈hN.map (·.1)/\(h.get k).blk=Option.some b:=by
  intro k b hk;by_cases hm:k∈hN.map (·.1)
  ·exact⟨hm,by rw[<-hg k hm];exact hk⟩
  ·rw[Lk hN hm]at hk;cases hk
 have hM:∀c,hN.M c->h.M c:=λc ⟨k,hk⟩=>⟨k,(hb k c hk).2⟩
 refine⟨λk=>?_,λk k' b h1 h2=>H.inj _ _ _ (hb _ _ h1).2 (hb _ _ h2).2,λk b h1=>H.low _ _ (hb _ _ h1).2,λk c hc=>H.elow k c hc.2,λk k' c h1 h2=>H.einj _ _ _ h1.2 h2.2,λk c hc hm=>H.em k c hc.2 (hM c hm)⟩;by_cases hm:k∈hN.map (·.1)
 ·rw[hg k hm]
  exact(H.obj k).mono (λc _ hc=>hM c hc) (λc hc=>⟨hm,hc⟩)
 ·rw[Lk hN hm]
  trivial
def Hn(x:AV)(K:AV->Prop):Prop:=
 match x with
 | .sl k (some (b,o,C)) sz off len=>if 70000<=k then ∀H',(H'=some (b,o+off*sz,C-off)\/len=0/\H'=none)->K (.ml k H' sz len)else K x
 |x=>K x
def MQ(l:List AV)(K:List AV->Prop):Prop:=
 match l with
 | []=>K []
 |a::l=>Hn a λa'=>MQ l λl'=>K (a'::l')
def ON(x:AV)(K:AV->Prop):Prop:=
 match x with
 | .agg l=>MQ l λl'=>K (.agg l')
 |x=>Hn x K
def vf(l:List AV)(K:List AV->Prop):Prop:=
 match l with
 | []=>K []
 |a::l=>ON a λa'=>vf l λl'=>K (a'::l')
theorem Fe{w:World}{M:Nat->Prop}{x:AV}{u:Value}(h:VRel w M x u){K:AV->Prop}(hk:Hn x K):∃x',VRel w M x' u/\K x':=by
 unfold Hn at hk
 split at hk
 ·rename_i k b o C sz off len
  split at hk
  ·rename_i h7
   have hm:MlS k sz len:=.free h7
   cases h with
   | sl _ _ _ _ _ _ hs =>
     rcases hs with⟨rfl,hC⟩|⟨rfl,hp,a,rfl⟩
     ·refine⟨_,.ml _ _ _ _ _ (.inl ⟨hm,?_⟩),hk (Option.some (b,o+off*sz,C-off)) (.inl rfl)⟩
      exact y9
     ·have hs:SlV none sz 0 0 (.slice a 0 0):=⟨⟨a,rfl⟩,rfl⟩
      exact⟨_,.ml _ _ _ _ _ (.inl ⟨hm,hs⟩),hk none (.inr ⟨rfl,rfl⟩)⟩
  ·exact⟨_,h,hk⟩
 ·exact⟨_,h,hk⟩
theorem Ff{w:World}{M:Nat->Prop}:∀(l:List AV) {us:Nat->Value}(_:∀i av,l[i]? = some av->VRel w M av (us i)) {K:List AV->Prop}(_:MQ l K),
 ∃l',l'.length=l.length/\(∀i av,l'[i]? = some av->VRel w M av (us i))/\K l'
 | [],us,h,K,hk=>⟨[],rfl,h,hk⟩
 | a :: l, us, h, K, hk => by
   unfold MQ at hk;obtain⟨a',h1,hk⟩:=Fe (h 0 a rfl) hk;obtain⟨l',h2,h3,hk⟩:=Ff l (us:=λi=>us (i+1)) (λi av hi=>h (i+1) av eT) hk;exact TQ
theorem OM{w:World}{M:Nat->Prop}{x:AV}{u:Value}(h:VRel w M x u){K:AV->Prop}(hk:ON x K):∃x',VRel w M x' u/\K x':=by
 unfold ON at hk
 split at hk
 ·rename_i l
  cases h with
  | agg _ xs hs hl =>
    obtain⟨l',h1,h2,h3⟩:=Ff l (us:=λi=>xs.getD i undef) hl hk;exact⟨_,.agg l' xs aa h2,h3⟩
 ·exact Fe h hk
theorem BW{w:World}{M:Nat->Prop}:∀(l:List AV) {us:Nat->Value}(_:∀i av,l[i]? = some av->VRel w M av (us i)) {K:List AV->Prop}(_:vf l K),
 ∃l',l'.length=l.length/\(∀i av,l'[i]? = some av->VRel w M av (us i))/\K l'
 | [],us,h,K,hk=>⟨[],rfl,h,hk⟩
 | a :: l, us, h, K, hk => by
   unfold vf at hk;obtain⟨a',h1,hk⟩:=OM (h 0 a rfl) hk;obtain⟨l',h2,h3,hk⟩:=BW l (us:=λi=>us (i+1)) (λi av hi=>h (i+1) av eT) hk;exact TQ
def uw:List AV->AV
 | [x]=>x
 |l=>.tup l
def abR(E:Env)(rs:List ResultVar)(post:AV->AH->Prop):Exit->ASt->Prop
 | .normal,st=>jw E st rs λl=>vf l λl=>∃hN:AH,post (uw l) hN/\AV.qL l=true/\qH hN=true/\∀p∈hN,st.h.get p.1=p.2
 | .ret,st=>jw E st rs λl=>vf l λl=>∃hN:AH,post (uw l) hN/\AV.qL l=true/\qH hN=true/\∀p∈hN,st.h.get p.1=p.2
 |_,_=>False
theorem aa5:∀(h:AH) {k:Nat},k∈h.map (·.1)->(k,h.get k)∈h
 | (j, o) :: l, k, hk => by
   rw[bU]
   split
   ·rename_i e;subst e;exact aP ..
   ·rename_i e
    simp only[bK,aR]at hk;exact aG _ (aa5 l (hk.resolve_left e))
theorem AB.intro {P : Program} {T : Nat → Option TI} (hT : ∀ t ti, T t = some ti → TIok P t ti) {f : Nat} {fn : Func} {c : Code} (hf : P.funcs[f]? = some fn) (hname : (fn.name == "runtime.NumGoroutine") = false) (hb : fn.body = some c)
 {n:Nat}{rs:List ResultVar}(hnt:fn.ntmps=n) (hrs:fn.results=⟨rs⟩) {args:List VD}{post:AV->AH->Prop}(hn:args.length<=n) (kb:Nat)
 (h:∀w0 b,jA ⟨P,T,w0,⟨b,b,false,λ_=>True⟩⟩ c (abR ⟨P,T,w0,⟨b,b,false,λ_=>True⟩⟩ rs post) { n:=n,kb:=kb,t:=rL 0 args,h:=[] }):AB P f args post:=by
 subst hnt;have hrs':fn.results.toList=rs:=qO;subst hrs';refine⟨⟨fn,hf,hname,pj⟩,λw xs hs hx=>oc hf hb ?_⟩
 let bs:Bs:=⟨λc=>c<w.heap.size,λc=>c<w.heap.size,false,λ_=>True⟩
 have hE:EOk ⟨P,T,w,bs⟩:=⟨hT,λw' hb=>trivial⟩;have hM:∀b,¬AH.M [] b:=JQ
 have hR:Rep w bs { n:=fn.ntmps,kb:=kb,t:=rL 0 args,h:=[] } { tmps:=xs++Array.replicate (fn.ntmps-xs.size) undef,defers:=[] } w:=by
  exact Ku
 refine kL (eW hE c _ _ _ w hR (h w (λc=>c<w.heap.size))) ?_
 rintro e a' w' ⟨st',hq,hR'⟩
 have key:(jw ⟨P,T,w,bs⟩ st' fn.results.toList λl=>vf l λl=>∃hN:AH,post (uw l) hN/\AV.qL l=true/\qH hN=true/\∀p∈hN,st'.h.get p.1=p.2)->a'.defers=[]/\∃v,(results fn a'.tmps).run P w'=.ok v w' /\
  ∃v' av h E,Ending.returned v=.returned v'/\post av h/\av.q=true/\(∀k,(h.get k).q=true)/\Below w.heap.size w w'/\VRel w' h.M av v'/\HRel bs h w' E:=by
  intro hq;obtain⟨vs,l,h1,h2,h3,h4⟩:=jv hE hR' fn.results.toList hq;obtain⟨l',hl',h3',hN,hp,hql,hqh,hg⟩:=BW l h3 h4;obtain⟨Es,hH⟩:=hR'.heap
  have hqa:(uw l').q=true:=by
   unfold uw
   split
   ·simpa[AV.qL]using hql
   ·simpa[AV.q]using hql
  refine⟨hR'.dfr,if vs.length=1 then vs.getD 0 undef else .tuple vs.toArray,?_,_,uw l',hN,_,rfl,hp,hqa,A0 hN hqh,⟨hR'.below.os,hR'.below.tape,hR'.below.output,hR'.below.size,hR'.below.block⟩,?_,
   hH.some (λk hk=>(hg _ (aa5 hN hk)).symm) (A0 hN hqh)⟩
  ·have h1':(fn.results.toList.mapM (nc a'.tmps)).run P w'=.ok vs w':=h1
   rw[p8,yc];simp only[gj,Sem.run_map,h1',dT,ic]
   cases vs with
   |nil=>simp
   |cons v vs=>cases vs<;>simp
  ·by_cases h:vs.length=1
   ·rw[al h]
    obtain⟨x,rfl⟩:∃x,l'=[x]:=List.length_eq_one_iff.1 aa;exact(h3' 0 x rfl).quiet (by simpa[AV.qL]using hql)
   ·rw[ak h]
    have e:uw l'=.tup l':=by
     unfold uw
     split
     ·simp at hl';omega
     ·rfl
    rw[e];refine .tup _ _ aI (λi av hi=>?_);have:=(h3' i av hi).quiet (w':=w') (M':=hN.M) (n9 l' hql i av hi)
    simpa using this
 cases e with
 |normal=>exact key hq
 |ret=>exact key hq
 |_=>exact hq.elim
theorem aee{E:Env}{rs:List ResultVar}{post:AV->AH->Prop}{st:ASt}:abR E rs post .normal st=jw E st rs λl=>vf l λl=>∃hN:AH,post (uw l) hN/\AV.qL l=true/\qH hN=true/\∀p∈hN,st.h.get p.1=p.2:=(rfl)
theorem aed{E:Env}{rs:List ResultVar}{post:AV->AH->Prop}{st:ASt}:abR E rs post .ret st=jw E st rs λl=>vf l λl=>∃hN:AH,post (uw l) hN/\AV.qL l=true/\qH hN=true/\∀p∈hN,st.h.get p.1=p.2:=(rfl)
end Go.AM
