import Derived.Test.YtmccaifipoohfaaGreatDoorME
namespace Go.AM
open Go.RowKit
def RV.cells:RV->List (CD×Nat)
 | .c d sz=>[(d,sz)]
 | .agg ts=>ts
def AV.key:AV->Option Nat
 | .sl k _ _ _ _=>some k
 | .ml k _ _ _=>some k
 |_=>none
theorem SlV.some_of{H:Hd}{sz len:Nat}{u:Value}(h:SlV H sz 0 len u)(hl:0<len):∃b o C,H=some (b,o,C)/\u=.slice (some ⟨b,o,none⟩) len C/\len<=C:=by
 cases H with
 |none=>obtain⟨_,h0⟩:=h;omega
 | some q =>
   obtain⟨b,o,C⟩:=q;rcases h with⟨rfl,h2⟩|⟨rfl,_⟩
   ·exact⟨b,o,C,rfl,ab,aa⟩
   ·omega
def rdW(w0:World)(F:Nat->Prop)(u:Value)(d:CD):Prop:=Rd w0 false F u d
theorem agS{P:Program}{T:Nat->Option TI}{w0:World}{F G:Nat->Prop}{l:Bool}{L:World->Prop}:Env.rd ⟨P,T,w0,⟨F,G,l,L⟩⟩=rdW w0 F:=(rfl)
theorem aax{P:Program}{T:Nat->Option TI}{w0:World}{F G:Nat->Prop}{l:Bool}{L:World->Prop}:Env.tight ⟨P,T,w0,⟨F,G,l,L⟩⟩=⟨P,T,w0,⟨F,G,false,L⟩⟩:=(rfl)
def cvC(u:Value):CD->AV
 | .v x=>.v x
 | .s rows=>.cv u rows.length
 | .h ..=>.any
def cvL(us:Nat->Value):Nat->List CD->List AV
 |_,[]=>[]
 |j,d::ds=>cvC (us j) d::cvL us (j+1) ds
def Cm(us:Nat->Nat->Value):Nat->List VD->List (Nat×AV)
 |_,[]=>[]
 |i,.c d::l=>(i,cvC (us i 0) d)::Cm us (i+1) l
 |i,.agg ds::l=>(i,.agg (cvL (us i) 0 ds))::Cm us (i+1) l
def rdC(R:Value->CD->Prop)(u:Value):CD->Prop
 | .s rows=>R u (.s rows)
 |_=>True
def rdL(R:Value->CD->Prop)(us:Nat->Value):Nat->List CD->Prop
 |_,[]=>True
 |j,d::ds=>rdC R (us j) d/\rdL R us (j+1) ds
def rdA(R:Value->CD->Prop)(us:Nat->Nat->Value):Nat->List VD->Prop
 |_,[]=>True
 |i,.c d::l=>rdC R (us i 0) d/\rdA R us (i+1) l
 |i,.agg ds::l=>rdL R (us i) 0 ds/\rdA R us (i+1) l
theorem XT(us:Nat->Value):∀(ds:List CD) (j i:Nat),(cvL us j ds)[i]? = (ds[i]?).map (cvC (us (j+i)))
 | [],j,i=>by simp[cvL]
 | d :: ds, j, i => by
   cases i with
   |zero=>rfl
   |succ i=>simp only[cvL,qO];rw[XT us ds (j+1) i,show j+1+i=j+(i+1)from aa]
theorem Hu(us:Nat->Value):∀(ds:List CD) (j:Nat),(cvL us j ds).length=ds.length
 | [],_=>rfl
 |d::ds,j=>by simp[cvL,Hu us ds (j+1)]
theorem PY(us:Nat->Nat->Value):∀(l:List VD) (k i:Nat),cI (Cm us k l) i=if k<=i then(match l[i-k]? with|some (.c d)=>cvC (us i 0) d|some (.agg ds)=>.agg (cvL (us i) 0 ds)|none=>.any)else .any
 | [],k,i=>by simp[Cm,cI]
 | v :: l, k, i => by
   by_cases h:i=k
   ·subst h;cases v<;>simp[Cm,cI]
   ·have e:cI (Cm us k (v::l)) i=cI (Cm us (k+1) l) i:=by cases v<;>simp[Cm,cI,h]
    rw[e,PY us l (k+1) i];exact Sy
theorem XU{w:World}{M F:Nat->Prop}{u:Value}{d:CD}(h:Rd w false F u d)(hh:∀k H sz len,d≠.h k H sz len):VRel w M (cvC u d) u:=by
 cases d with
 |v x=>cases h with|plain hp=>exact .v _ hp
 | s rows =>
   refine .cv _ _ ?_;exact Ud
 |h k H sz len=>exact absurd rfl (hh k H sz len)
theorem abm{R:Value->CD->Prop}{us:Nat->Value}:∀(ds:List CD) (j:Nat),(∀(i:Nat) (d:CD),ds[i]? = some d->R (us (j+i)) d)->rdL R us j ds
 | [],_,_=>trivial
 | d :: ds, j, h => by
   refine⟨?_,abm ds (j+1) (λi d' hi=>by rw[show j+1+i=j+(i+1)from aa];exact h (i+1) d' fR)⟩
   cases d with
   |s rows=>exact h 0 _ rfl
   |_=>trivial
theorem abn{R:Value->CD->Prop}{us:Nat->Nat->Value}:∀(l:List VD) (k:Nat),(∀(i:Nat) (v:VD),l[i]? = some v->(∀d,v=.c d->R (us (k+i) 0) d)/\(∀ds,v=.agg ds->∀(j:Nat) (d:CD),ds[j]? = some d->R (us (k+i) j) d))->rdA R us k l
 | [],_,_=>trivial
 | v :: l, k, h => by
   have hl:=abn l (k+1) (λi v' hi=>by rw[show k+1+i=k+(i+1)from aa];exact h (i+1) v' fR);have h0:=h 0 v rfl
   cases v with
   | c d =>
     refine⟨?_,hl⟩;have:=h0.1 d rfl
     cases d with
     |s rows=>exact this
     |_=>trivial
   | agg ds =>
     refine⟨abm ds 0 (λi d hi=>?_),hl⟩;rw[eC];exact h0.2 ds rfl i d hi
def noH:CD->Bool
 | .h ..=>false
 |_=>true
def VD.noH:VD->Bool
 | .c d=>AM.noH d
 | .agg ds=>ds.all AM.noH
theorem dZ.introL {P : Program} {T : Nat → Option TI} (hT : ∀ t ti, T t = some ti → TIok P t ti) {L : World → Prop} (hL : LSt L) {f : Nat} {fn : Func} {c : Code} (hf : P.funcs[f]? = some fn) (hname : (fn.name == "runtime.NumGoroutine") = false) (hb : fn.body = some c)
 {n:Nat}{rs:List ResultVar}(hnt:fn.ntmps=n) (hrs:fn.results=⟨rs⟩) {args:List VD}{res:RR}(hn:args.length<=n) (hno:args.all VD.noH=true)
 (h:∀w0 b us,EOk ⟨P,T,w0,⟨b,b,true,L⟩⟩->rdA (rdW w0 b) us 0 args->jV ⟨P,T,w0,⟨b,b,true,L⟩⟩ c (Bk ⟨P,T,w0,⟨b,b,true,L⟩⟩ rs res) { n:=n,kb:=0,t:=Cm us 0 args,h:=[] }):dZ P L f args res:=by
 subst hnt;have hrs':fn.results.toList=rs:=qj;subst hrs';refine⟨⟨fn,hf,hname,pd⟩,λw hw xs hs hx=>nd hf hb ?_⟩
 let bs:Bs:=⟨λc=>c<w.heap.size,λc=>c<w.heap.size,true,L⟩
 have hE:EOk ⟨P,T,w,bs⟩:=⟨hT,λw' hb=>hL w w' hb hw⟩;have hM:∀b,¬AH.M [] b:=by rintro b ⟨k,hk⟩;simp[AObj.blk]at hk
 let us (i j:Nat):Value:=match xs.getD i undef with
  | .agg ys=>ys.getD j undef
  |y=>y
 have hargs:∀(i:Nat) (v:VD),args[i]? = some v->(∀d,v=.c d->xs.getD i undef=us i 0/\Rd w false (λ_=>True) (us i 0) d)/\(∀ds,v=.agg ds->∃ys:Array Value,xs.getD i undef=.agg ys/\ys.size=ds.length/\(∀j,us i j=ys.getD j undef)/\∀(j:Nat) (d:CD),ds[j]? = some d->Rd w false (λ_=>True) (us i j) d):=by
  intro i v hi;have h1:=hx i v hi
  constructor
  ·rintro d rfl
   have h2:Rd w false (λ_=>True) (xs.getD i undef) d:=h1
   have e:us i 0=xs.getD i undef:=by
    simp only[us];generalize xs.getD i undef=y at h2;have h2':=h2
    cases h2 with
    |plain hp=>cases y<;>simp[plain]at hp<;>rfl
    |empty=>rfl
    |slice=>rfl
    | h k H sz len =>
      obtain⟨a,c,rfl⟩:=h2'.mlv.slice;rfl
   rw[e];exact⟨rfl,h2⟩
  ·rintro ds rfl
   obtain⟨ys,e1,e2,e3⟩:=h1;have e4:∀j,us i j=ys.getD j undef:=λj=>by simp only[us,e1]
   exact⟨ys,e1,e2,e4,λj d hj=>by rw[e4];exact e3 j d hj⟩
 have hrd:rdA (rdW w λc=>c<w.heap.size) us 0 args:=by
  refine abn args 0 (λi v hi=>?_);obtain⟨h1,h2⟩:=hargs i v hi;rw[eC];refine⟨λd hd=>((h1 d hd).2.within).map (λ_ _ _=>rfl) (λc hc _=>hc.2),λds hds j d hj=>?_⟩;obtain⟨ys,-,-,-,h3⟩:=h2 ds hds;exact((h3 j d hj).within).map (λ_ _ _=>rfl) (λc hc _=>hc.2)
 have nh:∀(d:CD),AM.noH d=true->∀k H sz len,d≠.h k H sz len:=by
  intro d hd k H sz len e;subst e;simp[AM.noH]at hd
 have hR:Rep w bs { n:=fn.ntmps,kb:=0,t:=Cm us 0 args,h:=[] } { tmps:=xs++Array.replicate (fn.ntmps-xs.size) undef,defers:=[] } w:=by
  refine⟨rfl,aJ,λi=>?_,⟨λ_ _=>False,λk=>trivial,λk k' b hk=>xr,λk b hk=>xr,λk c hc=>hc.elim,λk k' c hc=>hc.elim,λk c hc=>hc.elim⟩,BelowF.refl _ _,λb hb=>hb.elim id id⟩
  show VRel w (AH.M []) (cI (Cm us 0 args) i) _
  rw[PY,ai (fe i),mH]
  cases hv:args[i]? with
  |none=>exact .any _
  | some v =>
    have hlt:i<xs.size:=Lv
    have e:(xs++Array.replicate (fn.ntmps-xs.size) undef).getD i undef=xs.getD i undef:=by
     exact L5
    show VRel w (AH.M []) _ ((xs++Array.replicate (fn.ntmps-xs.size) undef).getD i undef)
    rw[e];obtain⟨h1,h2⟩:=hargs i v hv;have hnv:=dI.1 hno v (a8 hv)
    cases v with
    | c d =>
      obtain⟨e1,e2⟩:=h1 d rfl;rw[e1];exact XU e2 (nh d (by simpa[VD.noH]using hnv))
    | agg ds =>
      obtain⟨ys,e1,e2,e3,e4⟩:=h2 ds rfl;rw[e1];refine .agg _ _ (by rw[Hu];omega) (λj av hj=>?_);rw[XT,eC,bn]at hj;obtain⟨d,hd,rfl⟩:=hj;rw[<-e3];exact XU (e4 j d hd) (nh d (dI.1 (by simpa[VD.noH]using hnv) d (a8 hd)))
 refine kV (fl hE c _ _ _ w hR (h w (λc=>c<w.heap.size) us hE hrd)) ?_
 rintro e a' w' ⟨st',hq,hR'⟩
 have key:jR ⟨P,T,w,bs⟩ st' fn.results.toList (MC st'.h res)->a'.defers=[]/\∃v,(results fn a'.tmps).run P w'=.ok v w'/\∃v',Ending.returned v=.returned v'/\Below w.heap.size w w'/\Jd w' (λc=>w.heap.size<=c/\c<w'.heap.size) v' res:=by
  exact W8
 cases e with
 |normal=>exact key hq
 |ret=>exact key hq
 |_=>exact hq.elim
theorem aH.introL {P : Program} {T : Nat → Option TI} (hT : ∀ t ti, T t = some ti → TIok P t ti) {f : Nat} {fn : Func} {c : Code} (hf : P.funcs[f]? = some fn) (hname : (fn.name == "runtime.NumGoroutine") = false) (hb : fn.body = some c)
 {n:Nat}{rs:List ResultVar}(hnt:fn.ntmps=n) (hrs:fn.results=⟨rs⟩) {args:List VD}{res:RR}(hn:args.length<=n) (hno:args.all VD.noH=true)
 (h:∀w0 b us,rdA (rdW w0 b) us 0 args->jV ⟨P,T,w0,⟨b,b,true,λ_=>True⟩⟩ c (Bk ⟨P,T,w0,⟨b,b,true,λ_=>True⟩⟩ rs res) { n:=n,kb:=0,t:=Cm us 0 args,h:=[] }):aH P f args res:=
 dZ.introL hT LSt.true hf hname hb hnt hrs hn hno (λw0 b us _=>h w0 b us)
def hv(v:AV):AV:=bif v.q then v else .any
section rules
variable {P:Program}{T:Nat->Option TI}{w0:World}{base:Bs}{E:Env}{Q:Exit->ASt->Prop}{K:ASt->Prop}{st:ASt}{h:AH}{l:List AV}{t t':CD×Nat}{ts ts':List (CD×Nat)}{ks:List Nat}{KA:AH->Prop}{KL:AH->List Nat->Prop}{KI:List AV->AH->Prop}{key k sz off len:Nat}{H:Hd}{u:Value}{rows:List (List CD)}
theorem amx:hv (.v u)=.v u:=(rfl)
theorem ahz:hv .any=.any:=(rfl)
theorem akc:hv .un=.un:=(rfl)
theorem ahx:hv .nil=.nil:=(rfl)
theorem akf:hv (.ro rows)=.any:=(rfl)
theorem ake{row:List CD}:hv (.rp row)=.any:=(rfl)
theorem akd:hv (.sl k H sz off len)=.sl k H sz off len:=(rfl)
theorem akh:hv (.cv u len)=.cv u len:=(rfl)
theorem akg:hv (.ml k H sz len)=.ml k H sz len:=(rfl)
theorem amy{b c:Nat}:hv (.p k b c)=.p k b c:=(rfl)
theorem amz{r c:Nat}:hv (.e k H sz r c)=.e k H sz r c:=(rfl)
theorem ahA:hv (.agg l)=bif AV.qL l then .agg l else .any:=(rfl)
theorem ahw:hv (.tup l)=bif AV.qL l then .tup l else .any:=(rfl)
theorem ahy{f:Nat}:hv (.clo f l)=bif AV.qL l then .clo f l else .any:=(rfl)
theorem q_v:AV.q (.v u)=true:=(rfl)
theorem ajP:AV.q .any=true:=(rfl)
theorem amk:AV.q .un=true:=(rfl)
theorem ajN:AV.q .nil=true:=(rfl)
theorem amn:AV.q (.ro rows)=false:=(rfl)
theorem amm{row:List CD}:AV.q (.rp row)=false:=(rfl)
theorem aml:AV.q (.sl k H sz off len)=true:=(rfl)
theorem amp:AV.q (.cv u len)=true:=(rfl)
theorem amo:AV.q (.ml k H sz len)=true:=(rfl)
theorem q_p{b c:Nat}:AV.q (.p k b c)=true:=(rfl)
theorem q_e{r c:Nat}:AV.q (.e k H sz r c)=true:=(rfl)
theorem ajQ:AV.q (.agg l)=AV.qL l:=(rfl)
theorem ajM:AV.q (.tup l)=AV.qL l:=(rfl)
theorem ajO{f:Nat}:AV.q (.clo f l)=AV.qL l:=(rfl)
theorem agU:AV.qL []=true:=(rfl)
theorem adP{a:AV}:AV.qL (a::l)=(a.q&&AV.qL l):=(rfl)
theorem abo{n kb:Nat}{t:List (Nat×AV)}:ASt.quiet ⟨n,kb,t,h⟩=(qT t=true/\qH h=true):=(rfl)
theorem agT:qT []=true:=(rfl)
theorem adO{i:Nat}{v:AV}{t:List (Nat×AV)}:qT ((i,v)::t)=(v.q&&qT t):=(rfl)
theorem agV:qH []=true:=(rfl)
theorem adQ{i:Nat}{o:AObj}:qH ((i,o)::h)=(o.q&&qH h):=(rfl)
theorem ad2:AObj.q .dead=true:=(rfl)
theorem adZ{b:Nat}{T:TypeId}:AObj.q (.vars b T l)=AV.qL l:=(rfl)
theorem ad1{own:Bool}:AObj.q (.rows H sz rows own)=own:=(rfl)
theorem Ro{a:AV}:List.headD (a::l) .any=a:=(rfl)
variable {rs:List ResultVar}{r:Int}{x:AV}{a':RV}
theorem aef{β:Type}{Inv:β->Prop}{I:β->ASt}{μ:β->Nat}{x:β}:XE E Inv I μ x Q .normal st=Ent E st λst'=>∃x',Inv x'/\μ x'<μ x/\Ij st' (I x'):=(rfl)
theorem aee{β:Type}{Inv:β->Prop}{I:β->ASt}{μ:β->Nat}{x:β}:XE E Inv I μ x Q .ret st=Q .ret st:=(rfl)
theorem aeg{β:Type}{Inv:β->Prop}{I:β->ASt}{μ:β->Nat}{x:β}{i:Nat}:XE E Inv I μ x Q (.exit i) st=Q (.exit i) st:=(rfl)
end rules
attribute [simp ↓] agS aax Ro aef aee aeg
attribute [simp] amx ahz akc ahx akf ake akd akh akg amy amz ahA ahw ahy q_v ajP amk ajN amn amm aml amp amo q_p q_e ajQ ajM ajO agU adP abo agT adO agV adQ ad2 adZ ad1 cvC cvL Cm rdC rdL rdA nu
open Go.RowKit
theorem Ent.kill{E:Env}{st:ASt}{S:ASt->Prop}(k:Nat)(h:Ent E { st with h:=(k,.dead)::st.h } S):Ent E st S:=by
 intro a w hR;obtain⟨Es,HH⟩:=hR.heap;exact h a w (hR.move (HH.kill k) (Tr.kill HH k) ⟨rfl,rfl,rfl⟩).rep
def Rf(E:Env)(rs:List ResultVar)(R:AV->AH->Prop):Exit->ASt->Prop
 | .normal, st => jR E st rs λl => match l with
   | [x]=>R x st.h
   |l=>R (.tup l) st.h
 | .ret, st => jR E st rs λl => match l with
   | [x]=>R x st.h
   |l=>R (.tup l) st.h
 |_,_=>False
def Cl:Nat->List AV->List (Nat×AV)
 |_,[]=>[]
 |i,v::l=>(i,v)::Cl (i+1) l
theorem PX:∀(l:List AV) (k i:Nat),cI (Cl k l) i=if k<=i then(match l[i-k]? with|some v=>v|none=>.any)else .any
 | [],k,i=>by simp[Cl,cI]
 | v :: l, k, i => by
   unfold Cl cI;by_cases h:i=k
   ·subst h;simp
   ·rw[aj h,PX l (k+1) i]
    exact Sy
theorem Jh {P : Program} {T : Nat → Option TI} {w0 : World} {base : Bs} (hE0 : EOk ⟨P, T, w0, base⟩) {f : Nat} {fn : Func} {c : Code} (hf : P.funcs[f]? = some fn) (hname : (fn.name == "runtime.NumGoroutine") = false) (hb : fn.body = some c)
 {n:Nat}{rs:List ResultVar}(hnt:fn.ntmps=n) (hrs:fn.results=⟨rs⟩) {args:List AV}(hn:args.length<=n) (kb':Nat) {st:ASt}{dst:Option Nat}{K:ASt->Prop}
 (h:∀w1 F,EOk ⟨P,T,w1,⟨F,base.G,base.loose,base.L⟩⟩->jV ⟨P,T,w1,⟨F,base.G,base.loose,base.L⟩⟩ c (Rf ⟨P,T,w1,⟨F,base.G,base.loose,base.L⟩⟩ rs λav h'=>cX ⟨st.n,st.kb,st.t,h'⟩ dst av K) ⟨n,kb',Cl 0 args,st.h⟩):ae ⟨P,T,w0,base⟩ f args st dst K:=by
 subst hnt;have hrs':fn.results.toList=rs:=qj;subst hrs';refine⟨⟨fn,hf,hname,pd⟩,λa w hR xs hs hx=>nd hf hb ?_⟩
 let bs:Bs:=⟨λb=>b<w.heap.size/\¬st.h.M b,base.G,base.loose,base.L⟩
 obtain⟨Es,HH⟩:=hR.heap;have hE:EOk ⟨P,T,w,bs⟩:=⟨hE0.1,λw' hb=>hE0.2 w' (hR.below.trans ⟨hb.os,hb.tape,hb.output,hb.size,λb hF=>hb.block b ⟨hR.base_le b (.inl hF),λ⟨q,hq⟩=>(HH.low q b hq).1 hF⟩⟩)⟩
 have hR0:Rep w bs ⟨fn.ntmps,kb',Cl 0 args,st.h⟩ { tmps:=xs++Array.replicate (fn.ntmps-xs.size) undef,defers:=[] } w:=by
  exact W0
 refine kV (fl hE c _ _ _ w hR0 (h w _ hE)) ?_
 rintro e a' w' ⟨st',hq,hR'⟩
 obtain⟨E',H'⟩:=hR'.heap;have t:Tr st.h.M w st'.h.M w':=⟨hR'.below.size,λb hb hM=>hR'.below.block b ⟨hb,hM⟩,λb hb ⟨k,hk⟩=>aR λhM=>(H'.low k b hk).1 ⟨hb,hM⟩⟩
 have hRo:Rep w0 base ⟨st.n,st.kb,st.t,st'.h⟩ a w':=by
  refine⟨hR.dfr,hR.size,λi=>(hR.tmp i).tr t,⟨E',H'.obj,H'.inj,λk b hk=>⟨λhF=>?_,(H'.low k b hk).2⟩,H'.elow,H'.einj,H'.em⟩,hR.below.trans ⟨hR'.below.os,hR'.below.tape,hR'.below.output,hR'.below.size,λb hF=>?_⟩,λb hb=>dU (hR.base_le b hb) hR'.below.size⟩
  ·obtain⟨q,hq⟩:=t.mono b (hR.base_le b (.inl hF)) ⟨k,hk⟩
   exact(HH.low q b hq).1 hF
  ·exact Ti
 have key:(jR ⟨P,T,w,bs⟩ st' fn.results.toList λl=>match l with | [x]=>cX ⟨st.n,st.kb,st.t,st'.h⟩ dst x K|l=>cX ⟨st.n,st.kb,st.t,st'.h⟩ dst (.tup l) K)->a'.defers=[]/\∃v,(results fn a'.tmps).run P w'=.ok v w' /\
  ∃v' av h',Ending.returned v=.returned v'/\K (st.aft dst av h')/\Rep w0 base (st.aft dst av h') (a.put dst v') w'/\(base.loose=false->Tr st.h.M w h'.M w')/\VRel w' h'.M av v':=by
  intro hq;obtain⟨vs,l,h1,h2,h3,h4⟩:=jQ hE hR' fn.results.toList hq;have h1':(fn.results.toList.mapM (qz a'.tmps)).run P w'=.ok vs w':=h1
  have hrun:(results fn a'.tmps).run P w'=.ok (if vs.length=1 then vs.getD 0 undef else .tuple vs.toArray) w':=by
   exact WS
  refine⟨hR'.dfr,_,hrun,?_⟩
  have fin:∀(av:AV) (v:Value),VRel w' st'.h.M av v->cX ⟨st.n,st.kb,st.t,st'.h⟩ dst av K->∃v' av h',Ending.returned v=.returned v'/\K (st.aft dst av h')/\Rep w0 base (st.aft dst av h') (a.put dst v') w'/\(base.loose=false->Tr st.h.M w h'.M w')/\VRel w' h'.M av v':=by
   intro av v hv hK;obtain⟨g1,g2⟩:=hRo.put hv hK;have e:(({ st with h:=st'.h }:ASt).aft dst av st'.h)=st.aft dst av st'.h:=by unfold ASt.aft;cases dst<;>rfl
   have e2:(⟨st.n,st.kb,st.t,st'.h⟩:ASt).aft dst av st'.h=st.aft dst av st'.h:=e;rw[show(⟨st.n,st.kb,st.t,st'.h⟩:ASt).h=st'.h from rfl,e2]at g1 g2;exact⟨v,av,st'.h,rfl,g1,g2,λ_=>t,hv⟩
  split at h4
  ·rename_i x
   rw[ai nT];exact fin x _ (h3 0 x rfl) h4
  ·rename_i hne
   have hl:¬vs.length=1:=by
    exact TP
   rw[aj hl];exact fin (.tup l) _ (.tup l vs.toArray nT (λi av hi=>by simpa using h3 i av hi)) h4
 cases e with
 |normal=>exact key hq
 |ret=>exact key hq
 |_=>exact hq.elim
theorem NO {P : Program} {T : Nat → Option TI} (hT : ∀ t ti, T t = some ti → TIok P t ti) {w0 : World} {base : Bs} {f : Nat} {fn : Func} {c : Code} (hf : P.funcs[f]? = some fn) (hname : (fn.name == "runtime.NumGoroutine") = false) (hb : fn.body = some c)
 {n:Nat}{rs:List ResultVar}(hnt:fn.ntmps=n) (hrs:fn.results=⟨rs⟩) {args:List AV}(hn:args.length<=n) (kb':Nat) {st:ASt}{dst:Option Nat}{K:ASt->Prop}
 (h:∀w1 F,jV ⟨P,T,w1,⟨F,base.G,base.loose,base.L⟩⟩ c (Rf ⟨P,T,w1,⟨F,base.G,base.loose,base.L⟩⟩ rs λav h'=>cX ⟨st.n,st.kb,st.t,h'⟩ dst av K) ⟨n,kb',Cl 0 args,st.h⟩)
 (hL:base.L=λ_=>True:=by rfl):ae ⟨P,T,w0,base⟩ f args st dst K:=
 Jh ⟨hT,λ_ _=>by show base.L _;rw[hL];trivial⟩ hf hname hb hnt hrs hn kb' (λw1 F _=>h w1 F)
theorem cF.ent{E:Env}{id:Nat}{ops:List Oper}{Q:Exit->ASt->Prop}{st:ASt}(h:Ent E st (cF E id ops Q)):cF E id ops Q st:=by
 intro a w hR;obtain⟨st',hs,hR'⟩:=h a w hR;exact hs a w hR'
theorem cF.open{E:Env}{id:Nat}{ops:List Oper}{Q:Exit->ASt->Prop}{st:ASt}(hFG:∀b,E.base.F b->E.base.G b){k i j k' sz sz':Nat}{H:Hd}{rows srows:List (List CD)}{row:List CD}(hk:st.h.get k=.rows H sz rows true)
 (hi:rows[i]? = some row) (hj:row[j]? = some (.s srows)) (hk':st.h.get k'=.dead) (hz:0<sz') (hr:∀r∈srows,r.length=sz') (hq:st.quiet)
 (h:∀H',cF E id ops Q { st with h:=(k',.rows H' sz' srows true)::(k,.rows H sz (qy rows i j (.h k' H' sz' srows.length)) true)::st.h }) (h7:k'<70000:=by first|decide|omega|assumption):cF E id ops Q st:=
 cF.ent (Ent.open hFG hk hi hj hk' hz hr hq (λH'=>Ent.refl (h H')) h7)
theorem aj6{E:Env}{rs:List ResultVar}{R:AV->AH->Prop}{st:ASt}:Rf E rs R .normal st=jR E st rs λl=>match l with | [x]=>R x st.h|l=>R (.tup l) st.h:=(rfl)
theorem aj5{E:Env}{rs:List ResultVar}{R:AV->AH->Prop}{st:ASt}:Rf E rs R .ret st=jR E st rs λl=>match l with | [x]=>R x st.h|l=>R (.tup l) st.h:=(rfl)
theorem akI{E:Env}{st:ASt}{K:ASt->Prop}{d:Option Nat}{t:TypeId}{p:String}{af:Array Edge}{g:Option (Nat×Bool)}{f:Nat}{l:List Operand} :
 aOp E ⟨d,.makeFunc (.func f) #[] ⟨l⟩,t,p,af,g⟩ st K=cX st d (.clo f (l.map st.ev)) K:=by
 simp[aOp,Dn]
theorem ajX{k b c:Nat}{F:AV->Prop}:DP (.p k b c) F=F (.p k b c):=(rfl)
theorem ajY{k sz r c:Nat}{H:Hd}{F:AV->Prop}:DP (.e k H sz r c) F=F (.e k H sz r c):=(rfl)
theorem ahe{row:List CD}{F:AV->Prop}:DP (.rp row) F=F (.rp row):=(rfl)
theorem ad8{f:Nat}{l:List AV}{F:AV->Prop}:DP (.clo f l) F=F (.clo f l):=(rfl)
attribute [simp ↓] akI ajX ajY ahe ad8 aj6 aj5
attribute [simp] Cl
def svT(t:List (Nat×AV))(F:List (Nat×AV)->Prop):Prop:=F t
@[congr] theorem ame {t t':List (Nat×AV)} {F:List (Nat×AV)->Prop} (h:t=t'):svT t F=svT t' F:=gq
theorem adD{F:List (Nat×AV)->Prop}:svT [] F=F []:=(rfl)
theorem aa5{p:Nat×AV}{t:List (Nat×AV)}{F:List (Nat×AV)->Prop}:svT (p::t) F=svT t λt'=>F (p::t'):=(rfl)
def Yv(o:Oper)(G:List Nat):PV->PV
 | []=>[]
 |p::l=>bif eB o p.1 && !G.contains p.1 then p::Yv o G l else Yv o G l
def Yu(o:Oper)(G:List Nat):PV->PV
 | []=>[]
 |p::l=>bif !eB o p.1 && !G.contains p.1 then p::Yu o G l else Yu o G l
def Yt(G:List Nat):PV->PV
 | []=>[]
 |p::l=>bif !G.contains p.1 then p::Yt G l else Yt G l
theorem Xl(o:Oper)(G:List Nat):∀pv:PV,pv.filter (λp=>eB o p.1 && !G.contains p.1)=Yv o G pv
 | []=>rfl
 |p::l=>by rw[Yd,Yv,Xl o G l];cases eB o p.1 && !G.contains p.1<;>rfl
theorem Xk(o:Oper)(G:List Nat):∀pv:PV,pv.filter (λp=>!eB o p.1 && !G.contains p.1)=Yu o G pv
 | []=>rfl
 |p::l=>by rw[Yd,Yu,Xk o G l];cases !eB o p.1 && !G.contains p.1<;>rfl
theorem Xj(G:List Nat):∀pv:PV,pv.filter (λp=>!G.contains p.1)=Yt G pv
 | []=>rfl
 |p::l=>by rw[Yd,Yt,Xj G l];cases !G.contains p.1<;>rfl
def ixs(pv:PV):List Nat:=pv.map (·.1)
def pick{α:Type}:List Bool->List α->List α
 |true::m,a::l=>a::pick m l
 |false::m,_::l=>pick m l
 |_,_=>[]
theorem JB(o:Oper)(G:List Nat):∀pv:PV,Yv o G pv=pick ((ixs pv).map λi=>eB o i && !G.contains i) pv
 | []=>rfl
 | p :: l => by
   simp only[Yv,ixs,bR,JB o G l]
   cases eB o p.1 && !G.contains p.1<;>rfl
theorem JA(o:Oper)(G:List Nat):∀pv:PV,Yu o G pv=pick ((ixs pv).map λi=>!eB o i && !G.contains i) pv
 | []=>rfl
 | p :: l => by
   simp only[Yu,ixs,bR,JA o G l]
   cases !eB o p.1 && !G.contains p.1<;>rfl
theorem Jz(G:List Nat):∀pv:PV,Yt G pv=pick ((ixs pv).map λi=>!G.contains i) pv
 | []=>rfl
 | p :: l => by
   simp only[Yt,ixs,bR,Jz G l]
   cases !G.contains p.1<;>rfl
def Bm(l:List (Oper×Nat×AV))(F:Oper->AV->Prop):Prop:=
 match l with
 | []=>True
 |p::l=>F p.1 p.2.2/\Bm l F
theorem X5{F:Oper->AV->Prop}:∀l:List (Oper×Nat×AV),Bm l F=∀p∈l,F p.1 p.2.2
 | []=>by simp[Bm]
 |p::l=>by simp[Bm,X5 l]
def sk(E:Env)(all:List Oper)(n kb:Nat)(h:AH):List Oper->List (Nat×AV)->List (Oper×Nat×AV)->(List (Nat×AV)->List (Oper×Nat×AV)->Prop)->Prop
 | [],vt,pv,K=>K vt pv
 |o::rest,vt,pv,K=>iD E all o ⟨n,kb,vt,h⟩ λv=>sk E all n kb h rest ((o.dst.getD 0,v)::vt) ((o,o.dst.getD 0,v)::pv) K
def rL(pv:PV):List (Oper×Nat×AV):=pv.map λp=>(p.2.1,p.2.1.dst.getD 0,p.2.2)
theorem tp{α β:Type}(f:α->β):∀(m:List Bool) (l:List α),pick m (l.map f)=(pick m l).map f
 | [],_=>by simp[pick]
 |true::m,[]=>rfl
 |false::m,[]=>rfl
 |true::m,a::l=>by simp[pick,tp f m l]
 |false::m,a::l=>by simp[pick,tp f m l]
theorem Gj{α:Type}{a:α}:∀(m:List Bool) (l:List α),a∈pick m l->a∈l
 | [],_,h=>by simp[pick]at h
 |true::m,[],h=>by simp[pick]at h
 |false::m,[],h=>by simp[pick]at h
 | true :: m, b :: l, h => by
   simp only[pick,aQ]at h⊢;exact h.imp id (Gj m l)
 | false :: m, b :: l, h => by
   simp only[pick]at h;exact aD _ (Gj m l h)
theorem Ox:∀(pv:PV),(∀p∈pv,p.2.1.dst.isSome=true)->pvT pv=(rL pv).map λp=>(p.2.1,p.2.2)
 | [],_=>rfl
 | p :: l, h => by
   have h1:=h p (aN ..);have h2:=Ox l (λq hq=>h q (aD _ hq));obtain⟨i,o,v⟩:=p
   cases hd:o.dst with
   |none=>simp[hd]at h1
   | some d =>
     unfold pvT at h2⊢;simp only[List.filterMap_cons,hd,eM,h2,rL,bR,oE]
theorem P8{E:Env}{ops:List Oper}{n kb:Nat}{t:List (Nat×AV)}{h:AH}{K:PV->Prop}{K':List (Nat×AV)->List (Oper×Nat×AV)->Prop}:∀(l:List Nat) (pv:PV),(∀p∈pv,p.2.1=bD ops p.1)->(∀i∈l,(bD ops i).dst.isSome=true) ->
 (∀pv':PV,ixs pv'=l.reverse++ixs pv->(∀p∈pv',p.2.1=bD ops p.1)->K pv'=K' (pvT pv'++t) (rL pv')) ->
 zt E ops ⟨n,kb,t,h⟩ pv (l.map λi=>(i,bD ops i)) K=sk E ops n kb h (l.map (bD ops)) (pvT pv++t) (rL pv) K'
 | [], pv, hp, _, hk => by
   simp only[jb,zt,sk];exact hk pv rfl hp
 | i :: l, pv, hp, hl, hk => by
   obtain⟨d,hd⟩:=pR.1 (hl i (aN ..));simp only[bR,zt,sk];refine aO _ ?_
   funext v
   have e1:pvT ((i,bD ops i,v)::pv)=((bD ops i).dst.getD 0,v)::pvT pv:=by simp[pvT,hd]
   have e2:rL ((i,bD ops i,v)::pv)=(bD ops i,(bD ops i).dst.getD 0,v)::rL pv:=rfl;rw[P8 l ((i,bD ops i,v)::pv) (λp hp'=>?_) (λj hj=>hl j (aD _ hj)) (λpv' h1 h2=>hk pv' (by rw[h1];simp[ixs]) h2),e1,e2]
   ·rfl
   ·rcases aQ.1 hp' with rfl|hp'
    ·rfl
    ·exact hp p hp'
def RE(n:Nat)(ops:List Oper)(pre:List Nat):Bool:=pre.all λi=>match (bD ops i).dst with|some d=>decide (d<n)|none=>false
section rules
variable {E:Env}{all rest:List Oper}{n kb d:Nat}{t vt:List (Nat×AV)}{h:AH}{pv:List (Oper×Nat×AV)}{K:ASt->Prop}{KP:List (Nat×AV)->List (Oper×Nat×AV)->Prop}{op:Op}{ty:TypeId}{p:String}{af:Array Edge}{D N R:List Bool}{plan:List (List Bool×List Bool)}{o:Oper}{st:ASt}{KV:AV->Prop}
theorem aiu:sk E all n kb h [] vt pv KP=KP vt pv:=(rfl)
theorem ae8:sk E all n kb h (⟨some d,op,ty,p,af,none⟩::rest) vt pv KP=lJ E ⟨n,kb,vt,h⟩ op λv=>sk E all n kb h rest ((d,v)::vt) ((⟨some d,op,ty,p,af,none⟩,d,v)::pv) KP:=(rfl)
theorem ac8{j:Nat}{b:Bool}:sk E all n kb h (⟨some d,op,ty,p,af,some (j,b)⟩::rest) vt pv KP=Nw (oC all j) λs=>DO (cI vt s) b (ph (lJ E ⟨n,kb,vt,h⟩ op λv=>sk E all n kb h rest ((d,v)::vt) ((⟨some d,op,ty,p,af,some (j,b)⟩,d,v)::pv) KP)) (ph (sk E all n kb h rest ((d,.un)::vt) ((⟨some d,op,ty,p,af,some (j,b)⟩,d,.un)::pv) KP)):=by
 simp only[sk,iD,Nw,DO]
 cases oC all j with
 |none=>rfl
 |some s=>rfl
@[congr] theorem alK {l l':List (Oper×Nat×AV)} {F:Oper->AV->Prop} (h:l=l'):Bm l F=Bm l' F:=gq
theorem acQ{F:Oper->AV->Prop}:Bm [] F=True:=(rfl)
theorem ZT{o:Oper}{i:Nat}{v:AV}{l:List (Oper×Nat×AV)}{F:Oper->AV->Prop}:Bm ((o,i,v)::l) F=(F o v/\Bm l F):=(rfl)
theorem Yn{dd:Option Nat}:iD E all ⟨dd,op,ty,p,af,none⟩ st KV=lJ E st op KV:=(rfl)
theorem ag8:bD (o::rest) 0=o:=(rfl)
theorem ag7{i:Nat}:bD (o::rest) (i+1)=bD rest i:=by simp[bD]
theorem agZ{α:Type}{m:List Bool}{a:α}{l:List α}:pick (true::m) (a::l)=a::pick m l:=(rfl)
theorem ag0{α:Type}{m:List Bool}{a:α}{l:List α}:pick (false::m) (a::l)=pick m l:=(rfl)
theorem ag1{α:Type}{l:List α}:pick [] l=[]:=by cases l<;>rfl
end rules
attribute [simp ↓] aiu ae8 ac8 Yn ag8 ag7 agZ ag0 ag1
attribute [simp] adD aa5 acQ ZT
open Go.RowKit
theorem nN.refl:∀a:AV,nN a a:=by
 intro a
 cases a<;>first|rfl|trivial|exact .inl rfl
theorem ALe.refl:∀l:List AV,ALe l l
 | []=>trivial
 |a::l=>⟨nN.refl a,ALe.refl l⟩
theorem k9.refl:∀o:AObj,k9 o o:=by
 intro o
 cases o with
 |dead=>trivial
 |vars b T cells=>exact⟨rfl,rfl,ALe.refl _⟩
 |rows=>exact .inl rfl
 |lent=>rfl
 |part=>rfl
def Bt(st st':ASt):Prop:=st.n=st'.n/\st.kb=st'.kb/\wkT st.t st'.t/\∀k,k9 (st.h.get k) (st'.h.get k)
theorem Bt.rep{w0:World}{base:Bs}{st st':ASt}{a:Act}{w:World}(h:Bt st st')(hR:Rep w0 base st a w):Rep w0 base st' a w:=by
 obtain⟨hn,hkb,ht,hob⟩:=h;have ht:∀p∈st'.t,nN (cI st.t p.1) p.2:=by rw[Qp];exact ht
 obtain⟨E,H⟩:=hR.heap;exact Xc
def XC{β:Type}(Inv:β->Prop)(I:β->ASt)(μ:β->Nat)(x:β)(Q:Exit->ASt->Prop):Exit->ASt->Prop
 | .normal,st=>∃x',Inv x'/\μ x'<μ x/\Bt st (I x')
 |e,st=>Q e st
theorem Bw{E:Env}(hE:EOk E){body:Code}{Q:Exit->ASt->Prop}{st:ASt}{β:Type}(Inv:β->Prop)(I:β->ASt)(μ:β->Nat)(x0:β)(h0:Inv x0)(hw:Bt st (I x0))
 (hr:∀x,Inv x->jV E body (XC Inv I μ x Q) (I x)):bk E body Q st:=by
 intro a w hR;refine wp_loop_ghost (λn a w=>∃x,Inv x/\μ x=n/\Rep E.w0 E.base (I x) a w) (μ x0) ⟨x0,h0,rfl,hw.rep hR⟩ ?_
 rintro n a w ⟨x,hx,rfl,hR⟩
 refine kV (fl hE body _ _ a w hR (hr x hx)) ?_
 rintro e a' w' ⟨st',hq,hR'⟩
 cases e with
 | normal =>
   exact Td
 |_=>exact⟨st',hq,hR'⟩
theorem aec{β:Type}{Inv:β->Prop}{I:β->ASt}{μ:β->Nat}{x:β}{st:ASt}{Q:Exit->ASt->Prop}:XC Inv I μ x Q .normal st=∃x',Inv x'/\μ x'<μ x/\Bt st (I x'):=(rfl)
theorem aeb{β:Type}{Inv:β->Prop}{I:β->ASt}{μ:β->Nat}{x:β}{st:ASt}{Q:Exit->ASt->Prop}:XC Inv I μ x Q .ret st=Q .ret st:=(rfl)
theorem aed{β:Type}{Inv:β->Prop}{I:β->ASt}{μ:β->Nat}{x:β}{st:ASt}{Q:Exit->ASt->Prop}{l:Nat}:XC Inv I μ x Q (.exit l) st=Q (.exit l) st:=(rfl)
attribute [simp ↓] aec aeb aed
def xa(base:Bs)(h h':AH):Prop:=∀w E,HRel base h w E->∃E',HRel base h' w E'/\Tr h.M w h'.M w
theorem xa.refl{base:Bs}(h:AH):xa base h h:=λ_ E H=>⟨E,H,Tr.refl _ _⟩
theorem xa.trans{base:Bs}{h h' h'':AH}(a:xa base h h')(b:xa base h' h''):xa base h h'':=λw E H=>by
 obtain⟨E1,H1,t1⟩:=a w E H;obtain⟨E2,H2,t2⟩:=b w E1 H1;exact⟨E2,H2,t1.trans t2⟩
theorem xa.ent{E:Env}{st:ASt}{S:ASt->Prop}{h':AH}(he:xa E.base st.h h')(h:Ent E { st with h:=h' } S):Ent E st S:=by
 intro a w hR;obtain⟨Es,HH⟩:=hR.heap;obtain⟨E',H',t⟩:=he w Es HH;exact h a w (hR.move H' t ⟨rfl,rfl,rfl⟩).rep
theorem Qh{base:Bs}{h:AH}{kx b:Nat}{T:TypeId}{cells:List AV}{j k sz off len:Nat}{H:Hd}{rows:List (List CD)}{own:Bool}(hx:h.get kx=.vars b T cells)(hj:cells[j]? = some (.sl k H sz off len))
 (hk:h.get k=.rows H sz rows own) (hl:off+len<=rows.length):xa base h ((kx,.vars b T (cells.set j (.ro (cut rows off len))))::(k,.dead)::h):=by
 intro w Es HH;have hne:kx≠k:=by rintro rfl;rw[hx]at hk;cases hk
 have ho:=HH.obj kx;rw[hx]at ho;obtain⟨cs,hb,hs,hv⟩:=ho;obtain⟨d,h',o,E',S',⟨rfl,rfl⟩,FR⟩:=zx HH (hv j _ hj) (K:=λd h' _=>d=.s (cut rows off len)/\h'=(k,.dead)::h) (by rw[ah0,hk];exact⟨rfl,rfl,hl,rfl,rfl⟩);have hg:AH.get ((k,AObj.dead)::h) kx=.vars b T cells:=by rw[cW,aj hne,hx]
 have hMM:∀c,AH.M ((kx,AObj.vars b T (cells.set j (.ro (cut rows off len))))::(k,.dead)::h) c->AH.M ((k,.dead)::h) c:=by
  intro c hc;rcases p7.1 hc with h1|⟨q,_,hq⟩
  ·exact⟨kx,by rw[hg];exact h1⟩
  ·exact⟨q,hq⟩
 have hblk:∀c,(AObj.vars b T (cells.set j (.ro (cut rows off len)))).blk=some c->w.heap.size<=c\/(AH.get ((k,AObj.dead)::h) kx).blk=some c:=λc hc=>.inr (by rw[hg];exact hc)
 have t2:=Tr.upd FR.rel (k:=kx) (o':=.vars b T (cells.set j (.ro (cut rows off len)))) (aw _) (λ_ _ _=>rfl) hblk;have t:=FR.tr.trans t2;refine⟨_,FR.rel.upd (k:=kx) (o':=.vars b T (cells.set j (.ro (cut rows off len)))) (Ek:=λ_=>False) (aw _) (λ_ _ _=>rfl) (λc hc=>⟨HH.low kx c (by rw[hx];exact hc),hblk c hc⟩) ?_ (λ_ hc=>hc.elim),t⟩;refine⟨cs,hb,by simp[hs],λi av hi=>?_⟩;rw[zz]at hi;by_cases hij:j=i
 ·subst hij
  rw[ai rfl]at hi
  split at hi
  ·simp at hi
   subst hi;refine .ro _ _ (Rd.map FR.rd.weaken (λ_ _ _=>rfl) (λc hc _ hM=>FR.off c hc (hMM c hM)))
  ·simp at hi
 ·rw[aj hij]at hi
  exact(hv i av hi).tr t
theorem Il {P : Program} {T : Nat → Option TI} {w0 : World} {base : Bs} (hE0 : EOk ⟨P, T, w0, base⟩) {f : Nat} {fn : Func} {c : Code} (hf : P.funcs[f]? = some fn) (hname : (fn.name == "runtime.NumGoroutine") = false) (hb : fn.body = some c)
 {n:Nat}{rs:List ResultVar}(hnt:fn.ntmps=n) (hrs:fn.results=⟨rs⟩) {args:List AV}(hn:args.length<=n) (kb':Nat) {st:ASt}{dst:Option Nat}{K:ASt->Prop}
 (h:∀w1 F,EOk ⟨P,T,w1,⟨F,base.G,base.loose,base.L⟩⟩->jV ⟨P,T,w1,⟨F,base.G,base.loose,base.L⟩⟩ c (Rf ⟨P,T,w1,⟨F,base.G,base.loose,base.L⟩⟩ rs λav h'=>∃h'',xa base h' h''/\cX ⟨st.n,st.kb,st.t,h''⟩ dst av K) ⟨n,kb',Cl 0 args,st.h⟩):ae ⟨P,T,w0,base⟩ f args st dst K:=by
 subst hnt;have hrs':fn.results.toList=rs:=qj;subst hrs';refine⟨⟨fn,hf,hname,pd⟩,λa w hR xs hs hx=>nd hf hb ?_⟩
 let bs:Bs:=⟨λb=>b<w.heap.size/\¬st.h.M b,base.G,base.loose,base.L⟩
 obtain⟨Es,HH⟩:=hR.heap;have hE:EOk ⟨P,T,w,bs⟩:=⟨hE0.1,λw' hb=>hE0.2 w' (hR.below.trans ⟨hb.os,hb.tape,hb.output,hb.size,λb hF=>hb.block b ⟨hR.base_le b (.inl hF),λ⟨q,hq⟩=>(HH.low q b hq).1 hF⟩⟩)⟩
 have hR0:Rep w bs ⟨fn.ntmps,kb',Cl 0 args,st.h⟩ { tmps:=xs++Array.replicate (fn.ntmps-xs.size) undef,defers:=[] } w:=by
  exact W0
 refine kV (fl hE c _ _ _ w hR0 (h w _ hE)) ?_
 rintro e a' w' ⟨st',hq,hR'⟩
 obtain⟨E',H'⟩:=hR'.heap;have t:Tr st.h.M w st'.h.M w':=⟨hR'.below.size,λb hb hM=>hR'.below.block b ⟨hb,hM⟩,λb hb ⟨k,hk⟩=>aR λhM=>(H'.low k b hk).1 ⟨hb,hM⟩⟩
 have HB:HRel base st'.h w' E':=⟨H'.obj,H'.inj,λk b hk=>⟨λhF=>by
  obtain⟨q,hq⟩:=t.mono b (hR.base_le b (.inl hF)) ⟨k,hk⟩;exact(HH.low q b hq).1 hF,(H'.low k b hk).2⟩,H'.elow,H'.einj,H'.em⟩
 have key:(jR ⟨P,T,w,bs⟩ st' fn.results.toList λl=>match l with | [x]=>∃h'',xa base st'.h h''/\cX ⟨st.n,st.kb,st.t,h''⟩ dst x K|l=>∃h'',xa base st'.h h''/\cX ⟨st.n,st.kb,st.t,h''⟩ dst (.tup l) K)->a'.defers=[]/\∃v,(results fn a'.tmps).run P w'=.ok v w' /\
  ∃v' av h',Ending.returned v=.returned v'/\K (st.aft dst av h')/\Rep w0 base (st.aft dst av h') (a.put dst v') w'/\(base.loose=false->Tr st.h.M w h'.M w')/\VRel w' h'.M av v':=by
  intro hq;obtain⟨vs,l,h1,h2,h3,h4⟩:=jQ hE hR' fn.results.toList hq;have h1':(fn.results.toList.mapM (qz a'.tmps)).run P w'=.ok vs w':=h1
  have hrun:(results fn a'.tmps).run P w'=.ok (if vs.length=1 then vs.getD 0 undef else .tuple vs.toArray) w':=by
   exact WS
  refine⟨hR'.dfr,_,hrun,?_⟩
  have fin:∀(av:AV) (v:Value),VRel w' st'.h.M av v->(∃h'',xa base st'.h h''/\cX ⟨st.n,st.kb,st.t,h''⟩ dst av K)->∃v' av h',Ending.returned v=.returned v'/\K (st.aft dst av h')/\Rep w0 base (st.aft dst av h') (a.put dst v') w'/\(base.loose=false->Tr st.h.M w h'.M w')/\VRel w' h'.M av v':=by
   rintro av v hv ⟨h'',he,hK⟩
   obtain⟨E2,H2,t2⟩:=he w' E' HB;have tt2:=t.trans t2
   have hRo:Rep w0 base ⟨st.n,st.kb,st.t,h''⟩ a w':=by
    refine⟨hR.dfr,hR.size,λi=>(hR.tmp i).tr tt2,⟨E2,H2⟩,hR.below.trans ⟨hR'.below.os,hR'.below.tape,hR'.below.output,hR'.below.size,λb hF=>?_⟩,λb hb=>dU (hR.base_le b hb) hR'.below.size⟩;exact Ti
   obtain⟨g1,g2⟩:=hRo.put (hv.tr t2) hK;have e2:(⟨st.n,st.kb,st.t,h''⟩:ASt).aft dst av h''=st.aft dst av h'':=by unfold ASt.aft;cases dst<;>rfl
   rw[show(⟨st.n,st.kb,st.t,h''⟩:ASt).h=h'' from rfl,e2]at g1 g2;exact⟨v,av,h'',rfl,g1,g2,λ_=>tt2,hv.tr t2⟩
  split at h4
  ·rename_i x
   rw[ai nT];exact fin x _ (h3 0 x rfl) h4
  ·rename_i hne
   have hl:¬vs.length=1:=by
    exact TP
   rw[aj hl];exact fin (.tup l) _ (.tup l vs.toArray nT (λi av hi=>by simpa using h3 i av hi)) h4
 cases e with
 |normal=>exact key hq
 |ret=>exact key hq
 |_=>exact hq.elim
theorem Ji {P : Program} {T : Nat → Option TI} (hT : ∀ t ti, T t = some ti → TIok P t ti) {w0 : World} {base : Bs} {f : Nat} {fn : Func} {c : Code} (hf : P.funcs[f]? = some fn) (hname : (fn.name == "runtime.NumGoroutine") = false) (hb : fn.body = some c)
 {n:Nat}{rs:List ResultVar}(hnt:fn.ntmps=n) (hrs:fn.results=⟨rs⟩) {args:List AV}(hn:args.length<=n) (kb':Nat) {st:ASt}{dst:Option Nat}{K:ASt->Prop}
 (h:∀w1 F,jV ⟨P,T,w1,⟨F,base.G,base.loose,base.L⟩⟩ c (Rf ⟨P,T,w1,⟨F,base.G,base.loose,base.L⟩⟩ rs λav h'=>∃h'',xa base h' h''/\cX ⟨st.n,st.kb,st.t,h''⟩ dst av K) ⟨n,kb',Cl 0 args,st.h⟩)
 (hL:base.L=λ_=>True:=by rfl):ae ⟨P,T,w0,base⟩ f args st dst K:=
 Il ⟨hT,λ_ _=>by show base.L _;rw[hL];trivial⟩ hf hname hb hnt hrs hn kb' (λw1 F _=>h w1 F)
def Gh(all:List Oper)(rem:List Nat)(i:Nat):Bool:=rem.all λr=>!eB (bD all i) r
theorem cF.cut{E:Env}{id:Nat}{ops:List Oper}{Q:Exit->ASt->Prop}{st:ASt}{β:Type}(I:β->ASt)
 (h:cF E id ops (λe st'=>e=.normal/\∃x,Bt st' (I x)) st) (hK:∀x,Q .normal (I x)):cF E id ops Q st:=by
 intro a w hR;refine kV (h a w hR) ?_
 rintro e a' w' ⟨st',⟨rfl,x,hx⟩,hR'⟩
 exact⟨I x,hK x,hx.rep hR'⟩
def DF(h h':AH)(ks:List Nat):Prop:=∀q,q∉ks->k9 (h.get q) (h'.get q)
theorem aan{n kb n' kb':Nat}{t t':List (Nat×AV)}{h h':AH}:Bt ⟨n,kb,t,h⟩ ⟨n',kb',t',h'⟩=(n=n'/\kb=kb'/\wkT t t'/\DF h h' []):=by
 simp[Bt,DF]
theorem ahq{h h':AH}{k:Nat}{o:AObj}{ks:List Nat}(hk:k∉ks):DF h ((k,o)::h') ks=(k9 (h.get k) o/\DF h h' (k::ks)):=by
 apply propext
 constructor
 ·intro hl
  refine⟨by have:=hl k hk;rwa[cW,ai rfl]at this,λq hq=>?_⟩;simp only[aQ,not_or]at hq;have:=hl q hq.2
  rwa[cW,aj hq.1]at this
 ·rintro⟨h1,h2⟩ q hq
  rw[cW]
  split
  ·rename_i e;subst e;exact h1
  ·rename_i e;exact h2 q (by simp[e,hq])
theorem aem{h h':AH}{k:Nat}{o:AObj}{ks:List Nat}(hk:k∈ks):DF h ((k,o)::h') ks=DF h h' ks:=by
 exact Wb
theorem ahr{h h':AH}{k:Nat}{o:AObj}{ks:List Nat}(hk:k∈ks):DF ((k,o)::h) h' ks=DF h h' ks:=by
 exact Wb
theorem Y2{h:AH}{ks:List Nat}:DF h h ks=True:=by
 simp only[eq_iff_iff,iff_true];exact λq _=>k9.refl _
attribute [simp] aan Y2
attribute [simp] ahq aem ahr
theorem ahX{k k':IntKind}{a b:Int}{F:AV->Prop}:NB (.v (.int k a)) (.v (.int k' b)) F=F (.v (.int k (if b<a then b else a))):=(rfl)
theorem Ib{k k':IntKind}{a b:Nat}{F:AV->Prop}:NB (.v (.int k a)) (.v (.int k' b)) F=F (.v (.int k ((min a b:Nat):Int))):=by
 rw[ahX];have:(if(b:Int)<(a:Int)then(b:Int)else(a:Int))=((min a b:Nat):Int):=by split<;>omega
 rw[this]
inductive OT where
 |leaf (R:List Bool)
 |stop
 |child (i:Nat) (D N:List Bool) (sub next:OT)
theorem B7{rem:List Nat}{i n:Nat}(h:i∈rem)(hn:rem.length<=n):(rem.filter (· != i)).length<=n-1:=by
 have:(rem.filter (· != i)).length<rem.length:=by
  rw[Im];exact⟨i,h,ab⟩
 omega
section rules
variable {E:Env}{all:List Oper}{n kb:Nat}{vt:List (Nat×AV)}{pv:List (Oper×Nat×AV)}{K:ASt->Prop}{st:ASt}{R D N:List Bool}{i:Nat}{sub next:OT}
end rules
open Go.RowKit
def MP(o:Oper):Bool:=o.guard.isNone&&o.dst.isSome&&match o.op with
 | .move _=>true
 | .assign _=>true
 | .extract _ _=>true
 |_=>false
def aki(all:List Oper)(i:Nat):Bool:=(List.range all.length).all λj=>j==i || eB (bD all j) i || eB (bD all i) j || (bD all i).apart all.toArray (bD all j)
def Pi(all:List Oper)(pre tail rem:List Nat)(i:Nat):Bool:=
 Gh all rem i&&MP (bD all i)&&aki all i&&pre.all (λk=>!eB (bD all i) k || tail.any λt=>!rem.contains t&&eB (bD all t) k)
def vz(all:List Oper)(pre tail rem:List Nat):List Nat:=
 match rem.find? (Pi all pre tail rem)with
 |some i=>[i]
 |none=>rem.filter (Gh all rem)
theorem OV{E:Env}(_hE:EOk E){st:ASt}{a:Act}{w:World}(hR:Rep E.w0 E.base st a w){o:Oper}(hl:MP o=true){K:ASt->Prop}(h:aOp E o st K) :
 ∃v,(∀w,(execOp a.eval o).run E.P w=.ok (.value v) w)/\vC E.w0 E.base st a w o.dst v w K:=by
 have hv:=λx=>VRel.ev hR x
 have put:∀{r:Value}{av:AV},VRel w st.h.M av r->cX st o.dst av K->vC E.w0 E.base st a w o.dst r w K:=by
  intro r av h1 h2;obtain⟨h3,h4⟩:=hR.put h1 h2;exact⟨_,_,h3,h4,λ_=>Tr.refl _ _,h1⟩
 unfold MP at hl;simp only[aM]at hl;obtain⟨-,hl⟩:=hl;unfold aOp at h
 split at hl
 ·rename_i x ho
  rw[ho]at h;exact⟨_,λw=>by simp[execOp,ho],put (hv x) h⟩
 ·rename_i x ho
  rw[ho]at h;exact⟨_,λw=>by simp[execOp,ho],put (hv x) h⟩
 ·rename_i x i ho
  rw[ho]at h;have h:je (st.ev x) i λv=>cX st o.dst v K:=h
  have hx:=hv x;unfold je at h
  split at h
  ·rename_i l hg
   rw[hg]at hx;generalize hu:a.eval x=u at hx
   cases hx with
   | tup l xs hs hl =>
     split at h
     ·rename_i v hv'
      have hlt:i<xs.size:=by rw[hs];exact(az.1 hv').1
      refine⟨xs.getD i undef,λw=>?_,put (hl i v hv') h⟩;simp[execOp,ho,hu,Instr.extract,hlt]
     ·exact ec
  ·exact h.elim
 ·cases hl
def leT(t:List (Nat×AV)):List (Nat×AV)->List Nat->Prop
 | [],_=>True
 |(i,v)::l,ks=>(i∈ks\/nN (cI t i) v)/\leT t l (i::ks)
theorem XH{t:List (Nat×AV)}:∀(l:List (Nat×AV)) (ks:List Nat),leT t l ks->∀i,i∉ks->nN (cI t i) (cI l i)
 | [],_,_,i,_=>trivial
 | (j, v) :: l, ks, h, i, hi => by
   by_cases e:i=j
   ·subst e
    rw[ade];exact h.1.resolve_left hi
   ·rw[Sg e]
    exact XH l (j::ks) h.2 i (by simp[e,hi])
def Qg(st st':ASt):Prop:=st.n=st'.n/\st.kb=st'.kb/\leT st.t st'.t []/\∀k,k9 (st.h.get k) (st'.h.get k)
theorem Qg.rep{w0:World}{base:Bs}{st st':ASt}{a:Act}{w:World}(h:Qg st st')(hR:Rep w0 base st a w):Rep w0 base st' a w:=by
 have key:∀i,Rep w0 base ⟨st'.n,st'.kb,[(i,cI st'.t i)],st'.h⟩ a w:=λi=>Bt.rep ⟨h.1,h.2.1,⟨XH _ _ h.2.2.1 i ab,trivial⟩,h.2.2.2⟩ hR
 exact⟨(key 0).dfr,(key 0).size,λi=>by have:=(key i).tmp i;simpa[cI]using this,(key 0).heap,(key 0).below,(key 0).base_le⟩
theorem ael{t:List (Nat×AV)}{ks:List Nat}:leT t [] ks=True:=(rfl)
theorem abQ{t l:List (Nat×AV)}{ks:List Nat}{i:Nat}{v:AV}:leT t ((i,v)::l) ks=((i∈ks\/nN (cI t i) v)/\leT t l (i::ks)):=(rfl)
theorem aam{n kb n' kb':Nat}{t t':List (Nat×AV)}{h h':AH}:Qg ⟨n,kb,t,h⟩ ⟨n',kb',t',h'⟩=(n=n'/\kb=kb'/\leT t t' []/\DF h h' []):=by
 simp[Qg,DF]
theorem abR{h:AH}{ks:List Nat}:DF h [] ks=True:=by
 simp only[eq_iff_iff,iff_true];exact λq _=>trivial
def Ys(t:List (Nat×AV)):List Nat->List (Nat×AV)
 | []=>[]
 |s::l=>(s,cI t s)::Ys t l
theorem abf{t:List (Nat×AV)}:Ys t []=[]:=(rfl)
theorem Yr{t:List (Nat×AV)}{s:Nat}{l:List Nat}:Ys t (s::l)=(s,cI t s)::Ys t l:=(rfl)
attribute [simp] ael abQ aam abR abf Yr
theorem jS{E:Env}{id:Nat}{ops:List Oper}{Q:Exit->ASt->Prop}{n kb:Nat}{t:List (Nat×AV)}{h:AH}{β:Type}(I:β->List (Nat×AV))(J:β->AH)(keep:List Nat)
 (h1:cF E id ops (λe st'=>e=.normal/\∃x,Qg st' ⟨n,kb,I x++Ys t keep,J x++h⟩) ⟨n,kb,t,h⟩) (hK:∀x,Q .normal ⟨n,kb,I x++Ys t keep,J x++h⟩):cF E id ops Q ⟨n,kb,t,h⟩:=by
 intro a w hR;refine kV (h1 a w hR) ?_
 rintro e a' w' ⟨st',⟨rfl,x,hx⟩,hR'⟩
 exact⟨_,hK x,hx.rep hR'⟩
@[simp] theorem aiM {all:List Oper} {pre tail:List Nat}:vz all pre tail []=[]:=(rfl)
theorem rG{E:Env}{st:ASt}{S:ASt->Prop}(s k:Nat){sz off len:Nat}{H:Hd}{rows:List (List CD)}{own:Bool}(hs:cI st.t s=.sl k H sz off len)(hk:st.h.get k=.rows H sz rows own)(hl:off+len<=rows.length)
 (h:Ent E { st with t:=(s,.ro (cut rows off len))::st.t,h:=(k,.dead)::st.h } S):Ent E st S:=by
 intro a w hR;obtain⟨Es,HH⟩:=hR.heap;have hv:=hR.tmp s;rw[hs]at hv;obtain⟨d,h',o,E',S',⟨rfl,rfl⟩,FR⟩:=zx HH hv (K:=λd h' _=>d=.s (cut rows off len)/\h'=(k,.dead)::st.h) (by rw[ah0,hk];exact⟨rfl,rfl,hl,rfl,rfl⟩);have m:=(hR.move FR.rel FR.tr ⟨rfl,rfl,rfl⟩).rep;refine h a w ⟨m.dfr,m.size,λi=>?_,m.heap,m.below,m.base_le⟩
 show VRel w _ (cI ((s,.ro _)::st.t) i) _
 by_cases hi:i=s
 ·subst hi
  rw[ade];exact .ro _ _ (Rd.map FR.rd.weaken (λ_ _ _=>rfl) (λc hc _ hM=>FR.off c hc hM))
 ·rw[Sg hi]
  exact m.tmp i
theorem ahY{P:Program}{T:Nat->Option TI}{w0:World}{base:Bs}{t:Nat}{s:ByteArray}{k:IntKind}{i:Nat}{F:AV->Prop} :
 Ja ⟨P,T,w0,base⟩ t (.v (.string s)) (.v (.int k (i:Int))) F=(Env.isStr ⟨P,T,w0,base⟩ t/\∃h:i<s.size,F (.v (.int .u8 (s[i]'h).toNat))):=by
 simp[Ja]
attribute [simp ↓] ahY
end Go.AM
