import Derived.Test.YtklblkobegcljaaGreatPH
import Derived.Test.YtklblkobegcljaaGreatPA
import Derived.Test.YtklblkobegcljaaGreatNA
import Derived.Test.YtklblkobegcljaaGreatPE
import Derived.Test.YtklblkobegcljaaGreatPG
namespace Go.AM
open Go.RowKit
theorem E4{E:Env}{f:Nat}{args args':List AV}{st:ASt}{dst:Option Nat}{K:ASt->Prop}(hl:args'.length=args.length)
 (hle:∀(i:Nat) (av av':AV),args[i]? = some av->args'[i]? = some av'->∀(w:World) (M:Nat->Prop) (x:Value),VRel w M av x->VRel w M av' x) (h:ag E f args' st dst K):ag E f args st dst K:=by
 refine⟨h.1,λa w hR xs hs hx=>h.2 a w hR xs aa (λi av' hi=>?_)⟩;have hlt:i<args.length:=by rw[<-hl];exact(an.1 hi).1
 exact hle i _ av' (ak hlt) hi w _ _ (hx i _ (ak hlt))
theorem abh{w:World}{M:Nat->Prop}{k b o C sz off len:Nat}{H:Hd}{x:Value}(h7:70000<=k)(hH:H=some (b,o+off*sz,C-off)\/len=0/\H=none)(hC:off<=C)(h0:0<len)
 (h:VRel w M (.ml k H sz len) x):VRel w M (.sl k (some (b,o,C)) sz off len) x:=by
 cases h with
 | ml _ _ _ _ _ h =>
   rcases h with⟨-,h⟩|⟨-,h,-⟩
   ·rcases hH with rfl|⟨rfl,-⟩
    ·rcases h with⟨rfl,h2⟩|⟨rfl,h2,-⟩
     ·exact .sl _ _ _ _ _ _ (.inl ⟨ab,aa⟩)
     ·omega
    ·omega
   ·exact absurd (.free h7) h
theorem ag.hd{E:Env}{f:Nat}{args:List AV}{st:ASt}{dst:Option Nat}{K:ASt->Prop}(hfn:xe E.P f){k sz:Nat}{H:Hd}{rows:List (List CD)}{own:Bool}(hk:st.h.get k=.rows H sz rows own)(hne:rows≠[])
 (h:∀b o C,H=some (b,o,C)->rows.length<=C->ag E f args st dst K):ag E f args st dst K:=by
 refine⟨hfn,λa w hR xs hs hx=>?_⟩;obtain⟨Es,hH⟩:=hR.heap;have ho:=hH.obj k;rw[hk]at ho
 cases H with
 |none=>exact absurd ho hne
 | some q =>
   obtain⟨b,o,C⟩:=q;have hC:rows.length<=C:=by obtain⟨_,_,_,_,h2,_⟩:=ho;exact h2
   exact(h b o C rfl hC).2 a w hR xs hs hx
theorem Rc{k sz len:Nat}(h:70000<=k):MlS k sz len=True:=GQ (.free h)
theorem NL{K:List AV->Prop}:p7 [] K=K []:=(rfl)
theorem Hn{a:AV}{l:List AV}{K:List AV->Prop}:p7 (a::l) K=Hr a λa'=>p7 l λl'=>K (a'::l'):=(rfl)
theorem QN{K:List AV->Prop}:Ft [] K=K []:=(rfl)
theorem NK{a:AV}{l:List AV}{K:List AV->Prop}:Ft (a::l) K=Ar a λa'=>Ft l λl'=>K (a'::l'):=(rfl)
theorem QO{l:List AV}{K:AV->Prop}:Hr (.agg l) K=Ft l λl'=>K (.agg l'):=(rfl)
theorem XG{u:Value}{K:AV->Prop}:Hr (.v u) K=K (.v u):=(rfl)
theorem T5{k sz len:Nat}{H:Hd}{K:AV->Prop}:Hr (.ml k H sz len) K=K (.ml k H sz len):=(rfl)
theorem XF{u:Value}{K:AV->Prop}:Ar (.v u) K=K (.v u):=(rfl)
theorem QM{K:AV->Prop}:Ar .nil K=K .nil:=(rfl)
theorem TZ{k sz len:Nat}{H:Hd}{K:AV->Prop}:Ar (.ml k H sz len) K=K (.ml k H sz len):=(rfl)
theorem T4{k b o C sz off len:Nat}{K:AV->Prop}(h:70000<=k):Ar (.sl k (some (b,o,C)) sz off len) K=∀H',(H'=some (b,o+off*sz,C-off)\/len=0/\H'=none)->K (.ml k H' sz len):=by
 show(if 70000<=k then _ else _)=_
 rw[ao h]
theorem T3{k sz off len:Nat}{H:Hd}{K:AV->Prop}(h:k<70000):Ar (.sl k H sz off len) K=K (.sl k H sz off len):=by
 cases H with
 |none=>rfl
 | some q =>
   obtain⟨b,o,C⟩:=q
   show(if 70000<=k then _ else _)=_
   rw[au aa]
theorem NU{x:AV}:pF [x]=x:=(rfl)
theorem NT{x y:AV}{l:List AV}:pF (x::y::l)=.tup (x::y::l):=(rfl)
attribute [simp ↓] Ve Vd NL Hn QN NK QO XG T5 XF QM TZ T4 T3
attribute [simp] NU NT Rc
def IJ(E:Env)(rs:List ResultVar)(rr:RR):Exit->ASt->Prop
 | .normal,st=>Ent E st λst=>gu E st rs (sZ st.h rr)
 | .ret,st=>Ent E st λst=>gu E st rs (sZ st.h rr)
 |_,_=>False
theorem EX {P : Program} {T : Nat → Option TI} (hT : ∀ t ti, T t = some ti → TIok P t ti) {L : World → Prop} (hL : LSt L) {f : Nat} {fn : Func} {c : Code} (hf : P.funcs[f]? = some fn) (hname : (fn.name == "runtime.NumGoroutine") = false) (hb : fn.body = some c)
 {n:Nat}{rs:List ResultVar}(hnt:fn.ntmps=n) (hrs:fn.results=⟨rs⟩) {args:List VD}{res:RR}(hn:args.length<=n) (kb:Nat)
 (h:∀w0 b,EOk ⟨P,T,w0,⟨b,b,false,L⟩⟩->gM ⟨P,T,w0,⟨b,b,false,L⟩⟩ c (IJ ⟨P,T,w0,⟨b,b,false,L⟩⟩ rs res) { n:=n,kb:=kb,t:=mZ 0 args,h:=[] }):mV P L f args res:=by
 subst hnt;have hrs':fn.results.toList=rs:=kY;subst hrs';refine⟨⟨fn,hf,hname,ka⟩,λw hw xs hs hx=>iJ hf hb ?_⟩
 let bs:Bs:=⟨λc=>c<w.heap.size,λc=>c<w.heap.size,false,L⟩
 have hE:EOk ⟨P,T,w,bs⟩:=⟨hT,λw' hb=>hL w w' hb hw⟩;have hM:∀b,¬AH.M [] b:=Cm
 have hR:Rep w bs { n:=fn.ntmps,kb:=kb,t:=mZ 0 args,h:=[] } { tmps:=xs++Array.replicate (fn.ntmps-xs.size) undef,defers:=[] } w:=by
  exact Dv
 refine gz (dq hE c _ _ _ w hR (h w (λc=>c<w.heap.size) hE)) ?_
 rintro e a' w' ⟨st0,hq,hR0⟩
 have key:(Ent ⟨P,T,w,bs⟩ st0 λst=>gu ⟨P,T,w,bs⟩ st fn.results.toList (sZ st.h res))->a'.defers=[]/\∃v,(results fn a'.tmps).run P w'=.ok v w'/\∃v',Ending.returned v=.returned v'/\Below w.heap.size w w'/\EV w' (λc=>w.heap.size<=c/\c<w'.heap.size) v' res:=by
  intro hq;obtain⟨st',hq,hR'⟩:=hq a' w' hR0;obtain⟨vs,l,h1,h2,h3,h4⟩:=fT hE hR' fn.results.toList hq;obtain⟨Es,hH⟩:=hR'.heap;refine⟨hR'.dfr,if vs.length=1 then vs.getD 0 undef else .tuple vs.toArray,?_,_,rfl,⟨hR'.below.os,hR'.below.tape,hR'.below.output,hR'.below.size,hR'.below.block⟩,?_⟩
  ·have h1':(fn.results.toList.mapM (jy a'.tmps)).run P w'=.ok vs w':=h1
   exact yf
  ·have low:∀c,((∃k,Es k c)\/st'.h.M c)->w.heap.size<=c/\c<w'.heap.size:=by
    rintro c (⟨k,hk⟩|⟨k,hk⟩)
    ·exact⟨oe (hH.elow k c hk).1,(hH.elow k c hk).2⟩
    ·exact⟨oe (hH.low k c hk).1,hH.lt hk⟩
   cases res with
   | one r =>
     unfold sZ at h4;simp only at h4
     split at h4
     ·rename_i x
      obtain⟨h',E',S,-,hr,O⟩:=qQ hH (h3 0 x rfl) h4;rw[ao l8];exact sj.mono hr (λc hc=>low c (O.own c hc).1)
     ·exact h4.elim
   | tup rs =>
     obtain⟨hne,h4⟩:=h4;obtain⟨h',E',S,F,-,hl,hF,hd,hr,O⟩:=pt l rs hH h3 h4;rw[au aa];exact⟨vs.toArray,F,rfl,aM,λj c hc=>low c (O.own c (hF j c hc)).1,hd,λj t hj=>by simpa using hr j t hj⟩
 cases e with
 |normal=>exact key hq
 |ret=>exact key hq
 |_=>exact hq.elim
theorem SG{E:Env}{rs:List ResultVar}{rr:RR}{st:ASt}:IJ E rs rr .normal st=Ent E st λst=>gu E st rs (sZ st.h rr):=(rfl)
theorem SF{E:Env}{rs:List ResultVar}{rr:RR}{st:ASt}:IJ E rs rr .ret st=Ent E st λst=>gu E st rs (sZ st.h rr):=(rfl)
attribute [simp ↓] SG SF
end Go.AM
namespace Go.Proofs.YtklblkobegcljaaGreat
open Go.AM
set_option maxRecDepth 20000
set_option maxHeartbeats 6400000
theorem abg{α:Type}{f:α->List CD}{l:List α}{k:Nat}{t:α}(hk:k<l.length)(ht:l[k]=t)(g:List CD->List CD):(l.map f).modify k g=(l.map f).set k (g (f t)):=by
 subst ht
 apply tE
 intro j;rw[iw,eA];by_cases h:k=j
 ·subst h
  simp[hk]
 ·simp[h]
def QU(r:Ring)(k:Nat)(av:AV)(hN:AH):Prop:=∃b o C H1,r.list.length<=C/\(H1=some (b,o+k*3,C-k)\/r.list.length-k=0/\H1=none) /\
 av=.tup [.agg [.v (.int .i64 r.cap),.v (.int .i64 (r.next+k)),.v (.bool false),.ml 80179 H1 3 (r.list.length-k)],.ml 80179 (some (b,o,k)) 3 k,.v (.int .i64 0)] /\
 hN=[(80179,.rows (some (b,o,C)) 3 (r.list.map Entry.row) true)]
theorem zf(r:Ring)(hl:cV r<=2^30)(n:Nat)(c1:cl r)(c2:1<=n)(c3:r.out=false)(hne:r.list≠[]){k:Nat}(hk0:min n r.list.length=k) :
 nJ Tryz.prog 204 [.agg r.row,.c (vi n)] (QU r k):=by
 refine nJ.intro aw Tryz.func204 al rfl rfl rfl (ai rfl) 80000 (λw0 base=>?_);have hnl:nL aX r.list<=2^30:=tK;have hle:=aY hnl;simp[Ring.row];intro b2 b4;refine ag.pure (mQ r hl) dH ?_;simp[Ring.res];intro H b7;refine ag.hd (fH r aa).1 (k:=80179) (sz:=3) (H:=H) (rows:=r.list.map Entry.row) (own:=true) ab (by simpa using hne) ?_
 rintro b o C rfl hC
 simp at hC;refine ag.ro (fH r aa) dH ?_;have c2':¬(n:Int)<1:=aa;have hk:k<=r.list.length:=aa;have hnx:=c1.2.2.1;have ew:Go.IntKind.i64.wrap (r.next+(k:Int))=r.next+k:=ae _ aa;simp[c1,c2',c3,IP,hk0,hk,ew];exact⟨⟨_,⟨b,o,C,_,hC,.inl rfl,rfl,rfl⟩,ab,ab⟩,λh0=>⟨_,⟨b,o,C,_,hC,.inr ⟨h0,rfl⟩,rfl,rfl⟩,ab,ab⟩⟩
def vc(s:Sub)(r:Ring)(H:Hd)(len:Nat):List CD:=[.v (.int .i64 s.id),.v (.string s.doc),.v (.int .i64 r.cap),.v (.int .i64 r.next),.v (.bool r.out),.h 80179 H 3 len]
def UI(h:Hub)(i:Nat)(s:Sub)(k:Nat)(av:AV)(hN:AH):Prop:=∃b o C H1 Hd Hs,s.r.list.length<=C/\(H1=some (b,o+k*3,C-k)\/s.r.list.length-k=0/\H1=none) /\
 av=.tup [.agg [.v (.bool h.shut),.sl 10753 Hd 5 0 h.docs.length,.sl 10754 Hs 6 0 h.subs.length,.v (.int .i64 h.last)],.ml 80179 (some (b,o,k)) 3 k,.v (.int .i64 0)] /\
 hN=[(10753,.rows Hd 5 (h.docs.map Doc.row) true),(10754,.rows Hs 6 ((h.subs.map Sub.row).set i (vc s ⟨s.r.cap,s.r.next+k,false,[]⟩ H1 (s.r.list.length-k))) true),(80179,.rows (some (b,o,C)) 3 (s.r.list.map Entry.row) true)]
theorem AD(h:Hub)(hl:dh h<=2^28)(id:Int)(n:Nat)(c1:bC h)(c2:1<=n){i:Nat}(hi:i<h.subs.length)(e:fk h.subs id=i){s:Sub}(hs:h.subs[i]=s)(c3:s.r.out=false)(hne:s.r.list≠[]){k:Nat}(hk0:min n s.r.list.length=k) :
 nJ Tryz.prog 144 [.agg h.row,.c (vi id),.c (vi n)] (UI h i s k):=by
 refine nJ.intro aw Tryz.func144 al rfl rfl rfl (ai rfl) 10000 (λw0 base=>?_);have hm:=cH (f:=dp) (ic hl).2 hi;rw[hs]at hm;unfold dp at hm;have hro:=(rP c1 hi).1;rw[hs]at hro;have c2':¬(n:Int)<1:=aa;have hi0:¬(i:Int)<0:=aa;simp[Hub.row];intro b3 b6;refine ag.pure (mj h aa id) bj ?_;simp[e];refine ag.pure (dZ h aa) bj ?_;simp[c1,c2',hi0,hi,hs,Sub.row];refine nM (zf s.r aa n hro c2 c3 hne hk0) dH ?_
 rintro _ _ ⟨b,o,C,H1,hC,hH1,rfl,rfl⟩
 simp;intro b10;refine ag.pure (eE h aa) bj ?_;simp[Hub.res,hi];intro Hd Hs b13;have hm2:=λg=>abg (f:=Sub.row) hi hs g
 refine⟨_,⟨b,o,C,H1,Hd,Hs,hC,hH1,rfl,rfl⟩,ab,?_⟩;simp[hm2,Sub.row,vc]
 rintro a x (⟨rfl,rfl⟩|⟨rfl,rfl⟩|⟨rfl,rfl⟩)<;>simp
def YQ(h:Hub)(i:Nat)(s:Sub)(k:Nat)(av:AV)(hN:AH):Prop:=∃b o C H1 Hd Hs,s.r.list.length<=C/\(H1=some (b,o+k*3,C-k)\/s.r.list.length-k=0/\H1=none) /\
 av=.tup [.agg [.v (.bool h.shut),.sl 10753 Hd 5 0 h.docs.length,.sl 10754 Hs 6 0 h.subs.length,.v (.int .i64 h.last)],.agg [.v (.int .i64 0),.v (.int .i64 0),.nil,.ml 80179 (some (b,o,k)) 3 k]] /\
 hN=[(10753,.rows Hd 5 (h.docs.map Doc.row) true),(10754,.rows Hs 6 ((h.subs.map Sub.row).set i (vc s ⟨s.r.cap,s.r.next+k,false,[]⟩ H1 (s.r.list.length-k))) true),(80179,.rows (some (b,o,C)) 3 (s.r.list.map Entry.row) true)]
theorem RA(h:Hub)(hl:dh h<=2^28)(c:Call)(hc:dP c<=2^28)(n6:c.kind=6)(c1:bC h)(cc:dA c){n:Nat}(hn:c.n=n)(c2:1<=n){i:Nat}(hi:i<h.subs.length)(e:fk h.subs c.client=i){s:Sub}(hs:h.subs[i]=s)(c3:s.r.out=false)(hne:s.r.list≠[]){k:Nat}(hk0:min n s.r.list.length=k) :
 nJ Tryz.prog 85 [.agg h.row,.agg c.row] (YQ h i s k):=by
 refine nJ.intro aw Tryz.func85 al rfl rfl rfl (ai rfl) 20000 (λw0 base=>?_);have hp:=AD h hl c.client n c1 c2 hi e hs c3 hne hk0;rw[<-hn]at hp;simp[Hub.row,Call.row];intro b2 b3 b4 b5;refine ag.ro (dZ h aa) bj ?_;simp[c1];refine ag.ro (kD c aa) jq ?_;simp[cc];intro b6 b7;simp[n6];refine nM hp bj ?_
 rintro _ _ ⟨b,o,C,H1,Hd,Hs,hC,hH1,rfl,rfl⟩
 simp;refine drw eok mix [0,1] [2,3] (.c 2 2 2 1 (.c 2 3 1 0 (.l 2 0) .s) .s) ?_;simp
 try intros
 refine⟨_,⟨b,o,C,H1,Hd,Hs,hC,hH1,rfl,rfl⟩,ab,?_⟩;simp[vc]
 rintro a x (⟨rfl,rfl⟩|⟨rfl,rfl⟩|⟨rfl,rfl⟩)<;>simp
theorem zg(r:Ring)(n:Nat)(c1:cl r)(c2:1<=n)(c3:r.out=false)(he:r.list=[]) :
 ar Tryz.prog 204 [.agg r.row,.c (vi n)] (.tup [.agg r.res,.c (.s []) 3,.c (vi 0) 1]):=by
 refine EX aw LSt.true Tryz.func204 al rfl rfl rfl (ai rfl) 80000 (λw0 base _=>?_);have hnl:cV r<=2^30:=by unfold cV;rw[he];simp[nL,cw]
 have h1:=mQ r hnl;have h2:=fH r aa;have hnx:=c1.2.2.1;obtain⟨cap,next,out,list⟩:=r;simp only at he c3 hnx;subst he c3;have c2':¬(n:Int)<1:=aa;have ew:Go.IntKind.i64.wrap next=next:=ae _ aa;have hn0:¬(n:Int)<0:=aa
 have hmin:∀F:AV->Prop,AO (.v (.int .i64 (n:Int))) (.v (.int .i64 0)) F=F (.v (.int .i64 0)):=λF=>by
  show F (.v (.int .i64 (if(0:Int)<n then 0 else n)))=_
  rw[ao aa]
 simp[Ring.row];intro b2 b4;refine ag.pure h1 dH ?_;simp[Ring.res];intro H b7;refine ag.ro h2 dH ?_
 cases H with
 | none =>
   simp[c1,c2',ew,hmin];refine Ent.refl ?_;simp
 | some q =>
   obtain⟨b,o,C⟩:=q;simp[c1,c2',ew,hmin];refine Ent.refl ?_;simp
theorem AE(h:Hub)(hl:dh h<=2^28)(id:Int)(n:Nat)(c1:bC h)(c2:1<=n){i:Nat}(hi:i<h.subs.length)(e:fk h.subs id=i){s:Sub}(hs:h.subs[i]=s)(c3:s.r.out=false)(he:s.r.list=[]) :
 ar Tryz.prog 144 [.agg h.row,.c (vi id),.c (vi n)] (.tup [.agg h.res,.c (.s []) 3,.c (vi 0) 1]):=by
 refine pci aw Tryz.func144 (λw0 base=>?_);have hro:=(rP c1 hi).1;rw[hs]at hro;have c2':¬(n:Int)<1:=aa;have hi0:¬(i:Int)<0:=aa;have hm2:=λg=>abg (f:=Sub.row) hi hs g
 have hset:(h.subs.map Sub.row).set i s.row=h.subs.map Sub.row:=by
  rw[<-wS,<-hs,List.set_getElem_self]
 simp[Hub.row];intro b3 b6;refine ag.ro (mj h aa id) bj ?_;simp[e];refine ag.ro (dZ h aa) bj ?_;simp[c1,c2',hi0,hi,hs,Sub.row];refine ag.pure (zg s.r n hro c2 c3 he) dH ?_;simp[Ring.res,he];intros;refine ag.pure (eE h aa) bj ?_;simp[Hub.res,hi];intros;have hr:s.row=[vi s.id,.v (.string s.doc),vi s.r.cap,vi s.r.next,.v (.bool s.r.out),.s []]:=by simp[Sub.row,he]
 rw[hr]at hset;simp[hm2,Sub.row,he,hset]
def vf(h:Hub)(c:Call):Prop:=bC h/\dA c/\c.kind=6/\1<=c.n/\∃i:Nat,∃hi:i<h.subs.length,fk h.subs c.client=i/\h.subs[i].r.out=false/\h.subs[i].r.list≠[]
theorem Ow(h:Hub)(hl:dh h<=2^28)(c:Call)(hc:dP c<=2^28)(n6:c.kind=6)(hns:¬vf h c):ar Tryz.prog 85 [.agg h.row,.agg c.row] (.tup [.agg (fDo h c).1.res,.agg (fDo h c).2.res]):=by
 refine pci aw Tryz.func85 (λw0 base=>?_);have hcn:c.doc.size<=2^28/\nL a9 c.o<=2^28/\c.text.length<=2^28:=xw;simp[Hub.row,Call.row];intro b2 b3 b4 b5;refine ag.ro (dZ h aa) bj ?_;by_cases c1:bC h
 rotate_left
 ·exact Jh
 simp[c1];refine ag.ro (kD c aa) jq ?_;by_cases c2:dA c
 rotate_left
 ·exact Jg
 simp[c2];intro b6 b7;have hat:=M0 ⟨c1,c2⟩ n6;by_cases z:(df h c.client c.n).2.2=0
 rotate_left
 ·rw[au z]at hat
  have hd:=sD h aa c.client c.n;generalize df h c.client c.n=R at hd hat z;obtain⟨X,list,code⟩:=R;simp only at hd hat z;simp[n6];refine lL hd bj ?_
  rintro _ rfl
  simp[Hub.res]
  try intros
  exact Du
 rw[ao z]at hat;have hn1:1<=c.n:=aW λq=>by rw[lJ (λa=>q a.2)]at z;simp at z
 rcases kc h.subs c.client with⟨i,hi,e,-⟩|e;rotate_left
 ·rw[n7 ⟨c1,hn1⟩ e]at z;simp at z
 obtain⟨n,hn⟩:∃n:Nat,c.n=n:=⟨c.n.toNat,aa⟩;obtain⟨s,hs⟩:∃s,h.subs[i]=s:=⟨_,rfl⟩;have hro:=(rP c1 hi).1;have hpo:=nG ⟨c1,hn1⟩ hi e;rw[hs]at hpo hro
 have c3:s.r.out=false:=by
  cases ho:s.r.out with
  |false=>rfl
  | true =>
    rw[nZ ⟨hro,hn1⟩ ho]at hpo;rw[hpo]at z;simp at z
 have he:s.r.list=[]:=aW λq=>hns ⟨c1,c2,n6,hn1,i,hi,e,by rw[hs];exact c3,by rw[hs];exact q⟩
 have hrp:=lr ⟨hro,hn1⟩ c3 (k:=0) (by rw[he];simp);have hre:(⟨s.r.cap,s.r.next+((0:Nat):Int),s.r.out,s.r.list.drop 0⟩:Ring)=s.r:=ab;rw[hre]at hrp;rw[hrp,ao rfl]at hpo
 have hse:h.subs.set i ⟨s.id,s.doc,s.r⟩=h.subs:=by
  have:(⟨s.id,s.doc,s.r⟩:Sub)=h.subs[i]:=by rw[hs]
  rw[this,List.set_getElem_self]
 rw[hpo]at hat;simp only[hse,he,List.take_nil]at hat;have hp:=AE h hl c.client n c1 aa hi e hs c3 he;rw[<-hn]at hp;simp[n6];refine ag.pure hp bj ?_;simp[Hub.res];intros;exact Do
theorem Ov(h:Hub)(hl:dh h<=2^28)(c:Call)(hc:dP c<=2^28)(hns:¬vf h c):ar Tryz.prog 85 [.agg h.row,.agg c.row] (.tup [.agg (fDo h c).1.res,.agg (fDo h c).2.res]):=by
 by_cases n6:c.kind=6
 ·exact Ow h hl c hc n6 hns
 ·exact Bz h hl c hc n6
theorem NA{h:Hub}{c:Call}(sh:vf h c):∃(n i k:Nat) (hi:i<h.subs.length),c.n=n/\1<=n/\fk h.subs c.client=i/\h.subs[i].r.out=false/\h.subs[i].r.list ≠ []/\min n h.subs[i].r.list.length=k /\
 fDo h c=(⟨h.shut,h.docs,h.subs.set i ⟨h.subs[i].id,h.subs[i].doc,⟨h.subs[i].r.cap,h.subs[i].r.next+k,false,h.subs[i].r.list.drop k⟩⟩,h.last⟩,⟨0,0,[],h.subs[i].r.list.take k⟩):=by
 obtain⟨c1,c2,n6,hn1,i,hi,e,c3,hne⟩:=sh;obtain⟨n,hn⟩:∃n:Nat,c.n=n:=⟨c.n.toNat,aa⟩;refine⟨n,i,min n h.subs[i].r.list.length,hi,hn,aa,e,c3,hne,rfl,?_⟩;have hro:=(rP c1 hi).1;have hpo:=nG ⟨c1,hn1⟩ hi e;have hrp:=lr ⟨hro,hn1⟩ c3 (k:=min n h.subs[i].r.list.length) (by rw[hn];simp);rw[hrp,ao rfl]at hpo;rw[M0 ⟨c1,c2⟩ n6,hpo,ao rfl,c3]
end Go.Proofs.YtklblkobegcljaaGreat
namespace Go.AM
open Go.RowKit
theorem VS:∀(l:List Value),AV.qL (l.map .is)=true
 | []=>rfl
 |_::l=>by simp[AV.q,VS l]
theorem yV:∀(o:gv) (i:Nat),qH (iG i o)=true
 | [],_=>rfl
 |q::l,i=>by simp[iG,phO,AObj.q,VS,yV l]
@[simp] theorem adV (o:gv):qH (phs o)=true:=yV o _
theorem EY {P : Program} {Ty : Nat → Option TI} (hT : ∀ t ti, Ty t = some ti → TIok P t ti) {f : Nat} {fn : Func} {c : Code} (hf : P.funcs[f]? = some fn) (hname : (fn.name == "runtime.NumGoroutine") = false) (hb : fn.body = some c)
 {n:Nat}{rs:List ResultVar}(hnt:fn.ntmps=n) (hrs:fn.results=⟨rs⟩) {args:List VD}{R:RR->Prop}(hn:args.length<=n)
 (h:∀w0 base o,gM ⟨P,Ty,w0,⟨base,base,true,λ_=>True⟩⟩ c (zK ⟨P,Ty,w0,⟨base,base,false,λ_=>True⟩⟩ o rs R) { n:=n,kb:=0,t:=mZ 0 args,h:=phs o }):lK P f args R:=by
 subst hnt;have hrs':fn.results.toList=rs:=kY;subst hrs';refine⟨⟨fn,hf,hname,ka⟩,λw o xs ho hs hx=>iJ hf hb ?_⟩;have hE:EOk ⟨P,Ty,w,⟨λc=>c<w.heap.size/\o.off c,λc=>c<w.heap.size/\o.off c,true,λ_=>True⟩⟩:=⟨hT,λw' hb=>trivial⟩
 have hR:=Hy ho (n:=fn.ntmps) (xs:=xs) (t:=mZ 0 args) aa (λq=>by
  rw[qJ,ao (iu q),jf]
  split
  ·exact Cw
  ·exact .any _)
 refine gz (dq hE c _ _ _ w hR.loose (h w _ o)) ?_
 rintro e a' w' ⟨st',hq,hR'⟩
 cases e with
 |normal=>exact DP hT ho hR'.loose hq
 |ret=>exact DP hT ho hR'.loose hq
 |_=>exact hq.elim
end Go.AM
namespace Go.Proofs.YtklblkobegcljaaGreat
open Go.AM
set_option maxRecDepth 20000
set_option maxHeartbeats 1600000
theorem w4(p q:Entry)(hl:aX p<=2^40):ar Tryz.prog 163 [.agg p.row,.agg q.row] (.one (.c (vb (p=q)) 1)):=by
 refine pci aw Tryz.func163 (λw0 base=>?_);obtain⟨k1,n1,s1⟩:=p;obtain⟨k2,n2,s2⟩:=q;simp[Entry.row];intro b1 b2;by_cases h1:k1=k2
 ·by_cases h2:n1=n2
  ·simp[h1,h2]
   refine ag.pure (sx s1 s2 hl) ab ?_;simp
  ·simp[h1,h2]
 ·simp[h1]
theorem xa(p q:Entry)(hl:aX p<=2^40):ar Tryz.prog 192 [.agg p.row,.agg q.row] (.one (.c (vb (p=q)) 1)):=by
 refine pci aw Tryz.func192 (λw0 base=>?_);obtain⟨k1,n1,s1⟩:=p;obtain⟨k2,n2,s2⟩:=q;simp[Entry.row];intro b1 b2;by_cases h1:k1=k2
 ·by_cases h2:n1=n2
  ·simp[h1,h2]
   refine ag.pure (pe s1 s2 hl) ab ?_;simp
  ·simp[h1,h2]
 ·simp[h1]
theorem vF(a b:List Entry)(hs:nL aX a<=2^40):ar Tryz.prog 191 [.c (.s (a.map Entry.row)),.c (.s (b.map Entry.row)),.c (.v (.func (.func 192) #[] #[]))] (.one (.c (vb (a=b)) 1)):=by
 have hl:=aY hs;refine pci aw Tryz.func191 (λw0 base=>?_);by_cases h:a.length=b.length
 ·simp[h]
  refine aU.intro eok (λi:Nat=>i<=a.length/\a.take i=b.take i) (λi=>⟨32,0,[(17,.v (.int .i64 i)),(16,.v (.int .i64 b.length)),(15,.ro (a.map Entry.row)),(2,.v (.func (.func 192) #[] #[])),(1,.ro (b.map Entry.row))],[]⟩) (λi=>a.length-i) 0 ab ab (λi hi=>?_);by_cases hlt:i<a.length
  ·have hlt':i<b.length:=by omega
   simp[hlt,hlt',Entry.row];intro b1 b2;refine ag.pure (xa a[i] b[i] (gF hs (aj hlt))) fe ?_;exact l9
  ·exact Cs
 ·exact jw
theorem gV(p q:Answer)(hl:cq p<=2^40):ar Tryz.prog 134 [.agg p.row,.agg q.row] (.one (.c (vb (p=q)) 1)):=by
 refine pci aw Tryz.func134 (λw0 base=>?_);obtain⟨n1,f1,t1,l1⟩:=p;obtain⟨n2,f2,t2,l2⟩:=q;unfold cq at hl;simp only at hl;simp[Answer.row];intro b1 b2;by_cases h1:n1=n2
 rotate_left
 ·simp[h1]
 by_cases h2:f1=f2
 rotate_left
 ·simp[h1,h2]
 simp[h1,h2];refine ag.pure (rI t1 t2 aa) ab ?_;by_cases h3:t1=t2
 rotate_left
 ·simp[h3]
 simp[h3];refine ag.pure (vF l1 l2 aa) ab ?_;simp
theorem gT(p q:Answer)(hl:cq p<=2^40):ar Tryz.prog 110 [.agg p.row,.agg q.row] (.one (.c (vb (p=q)) 1)):=by
 refine pci aw Tryz.func110 (λw0 base=>?_);obtain⟨n1,f1,t1,l1⟩:=p;obtain⟨n2,f2,t2,l2⟩:=q;unfold cq at hl;simp only at hl;simp[Answer.row];intro b1 b2;by_cases h1:n1=n2
 rotate_left
 ·simp[h1]
 by_cases h2:f1=f2
 rotate_left
 ·simp[h1,h2]
 simp[h1,h2];refine ag.pure (vY t1 t2 aa) ab ?_;by_cases h3:t1=t2
 rotate_left
 ·simp[h3]
 subst h3;by_cases h4:l1.length=l2.length
 rotate_left
 ·have h42:¬(l1.length:Int)=l2.length:=by omega
  have h43:¬l1=l2:=λh=>h4 en
  simp[h42,h43]
 simp[h4]
 refine aU.intro eok (λi:Nat=>i<=l1.length/\l1.take i=l2.take i) (λi=>⟨53,0,[(2,.p 32 b1 0),(3,.p 48 b2 0),(39,.v (.int .i64 i)),(38,.v (.int .i64 l2.length)),(37,.ro (l1.map Entry.row))],
  [(32,.vars b1 64 [.v (.int .i64 n2),.v (.int .i64 f2),.ro (t1.map aI),.ro (l1.map Entry.row)]),(48,.vars b2 64 [.v (.int .i64 n2),.v (.int .i64 f2),.ro (t1.map aI),.ro (l2.map Entry.row)])]⟩) (λi=>l1.length-i) 0 ab ab (λi hi=>?_)
 by_cases hlt:i<l1.length
 ·have hlt':i<l2.length:=by omega
  have hll:=aY (f:=aX) (B:=2^40) (l:=l1) aa;have hm:=gF (f:=aX) (B:=2^40) (l:=l1) aa (aj hlt);simp[hlt,hlt',Entry.row];intro b6;refine aZ.quiet eok mix al ?_;simp[hlt',Entry.row];refine⟨_,_,w4 l1[i] l2[i] hm,fe,?_⟩;simp;by_cases h6:l1[i]=l2[i]
  ·simp[h6]
   exact⟨i+1,⟨aa,rG hlt hlt' hi.2 h6⟩,aa,aQ aa⟩
  ·have h7:=Bl hlt hlt' h6
   simp[h6,h7]
 have hlt':¬i<l2.length:=aa;have hll:=Fc aa h4 hi.2;subst hll;simp[hlt']
theorem Ou(s:ByteArray)(hl:s.size<=2^40):ar Tryz.prog 84 [.c (.v (.string s))] (.one (.c (vi (fnv s)) 1)):=by
 refine pci aw Tryz.func84 (λw0 base=>?_);exact Md
theorem Ny(s:ByteArray)(hl:s.size<=2^40):ar Tryz.prog 67 [.c (.v (.string s))] (.one (.c (vi (fnv s)) 1)):=by
 refine pci aw Tryz.func67 (λw0 base=>?_);exact Md
theorem kB(s:ByteArray)(hl:s.size<=2^40)(n:Nat)(h1:1<=n)(hn:n<=2^40):ar Tryz.prog 34 [.c (.v (.string s)),.c (vi n)] (.one (.c (vi (bS s n)) 1)):=by
 refine pci aw Tryz.func34 (λw0 base=>?_);have e:=(i6 s h1).1;have c1:¬(n:Int)<1:=aa;have c2:¬(n:Int)=0:=aa;have c3:¬n=0:=aa;simp[c1];refine ag.pure (Ou s hl) ab ?_;simp[c3,e]
theorem me(s:ByteArray)(hl:s.size<=2^40)(n:Nat)(h1:1<=n)(hn:n<=2^40):ar Tryz.prog 26 [.c (.v (.string s)),.c (vi n)] (.one (.c (vi (bS s n)) 1)):=by
 refine pci aw Tryz.func26 (λw0 base=>?_);have e:=(i6 s h1).1;have c1:¬(n:Int)<1:=aa;have c2:¬(n:Int)=0:=aa;have c3:¬n=0:=aa;simp[c1];refine ag.pure (Ny s hl) ab ?_;simp[c3,e]
set_option maxHeartbeats 6400000
theorem sS{p q:Prop}(h:p↔q):vb p=vb q:=by unfold vb;rw[propext h]
theorem oY{t:Task}{B:Nat}(h:dj t<=B):dP t.c<=B/\cq t.a<=B:=by unfold dj at h;omega
theorem D6(t:Task)(hl:dj t<=2^36):ar Tryz.prog 77 [.agg t.row] (.one (.c (vb (fC t)) 1)):=by
 refine pci aw Tryz.func77 (λw0 base=>?_);obtain⟨n1,n2⟩:=oY hl;obtain⟨c,pc,inv,lin,rs,a⟩:=t;simp only at n1 n2;have n2':cq a<=2^40:=aa;have hx:∀p:Prop,(fC ⟨c,pc,inv,lin,rs,a⟩->p)->¬p->dc (fC ⟨c,pc,inv,lin,rs,a⟩)=false:=λp h1 h2=>az (λh=>h2 (h1 h))
 simp[Task.row];intro b1;refine ag.pure (kD c aa) jq ?_;by_cases c1:dA c
 rotate_left
 ·simp[az c1,hx _ (λh=>h.1) c1]
 simp[c1];refine ag.pure (bT inv 0 1000000) ab ?_;by_cases c2:0<=inv/\inv<=1000000
 rotate_left
 ·simp[az c2,hx _ (λh=>h.2.1) c2]
 simp[c2];by_cases p0:pc=0
 ·subst p0
  by_cases l1:lin = -1
  rotate_left
  ·exact rA
  subst l1;by_cases l2:rs = -1
  rotate_left
  ·exact rB
  subst l2;simp;refine ag.pure (gV a Answer.zero n2') qY ?_;exact LG
 by_cases p1:pc=1
 ·subst p1
  simp;refine ag.pure (dY c.kind) ab ?_;by_cases d1:cO c.kind
  rotate_left
  ·simp[az d1,hx _ (λh=>h.2.2.2.1 rfl) d1]
  simp[d1];by_cases l1:lin = -1
  rotate_left
  ·exact rA
  subst l1;by_cases l2:rs = -1
  rotate_left
  ·exact rB
  subst l2;simp;refine ag.pure (gV a Answer.zero n2') qY ?_;exact LI
 by_cases p2:pc=2
 ·subst p2
  by_cases d1:c.kind=2
  rotate_left
  ·simp[d1,hx _ (λh=>h.2.2.2.2.1 rfl) d1]
  simp[d1];by_cases l1:lin = -1
  rotate_left
  ·exact rA
  subst l1;by_cases l2:rs = -1
  rotate_left
  ·exact rB
  subst l2;simp;refine ag.pure (gV a Answer.zero n2') qY ?_;exact LH
 by_cases p34:pc=3\/pc=4
 rotate_left
 ·have h3:¬pc=3:=λh=>p34 (.inl h)
  have h4:¬pc=4:=λh=>p34 (.inr h)
  have h:dc (fC ⟨c,pc,inv,lin,rs,a⟩)=false:=az (λh=>by have:=h.2.2.1;simp only at this;omega);simp[p0,p1,p2,h3,h4,h]
 have hb0:oE ⟨c,pc,inv,lin,rs,a⟩↔(a=⟨11,0,[],[]⟩/\c.kind=2)/\lin = -1:=by unfold oE;simp[and_assoc]
 have fin3:pc=3->(oE ⟨c,pc,inv,lin,rs,a⟩\/(inv<=lin/\lin<=1000000))->(fC ⟨c,pc,inv,lin,rs,a⟩↔rs = -1):=λhp hb=>
  ⟨λh=>h.2.2.2.2.2.2.2.1 hp,λh=>⟨c1,c2,gh,λh=>absurd h p1,λh=>absurd h p2,λh=>xv,λ_=>hb,λ_=>h,λh4=>xu⟩⟩
 have fin4:pc=4->(oE ⟨c,pc,inv,lin,rs,a⟩\/(inv<=lin/\lin<=1000000))->(fC ⟨c,pc,inv,lin,rs,a⟩↔(inv<=rs/\rs<=1000000)/\lin<=rs):=λhp hb=>
  ⟨λh=>h.2.2.2.2.2.2.2.2 hp,λh=>⟨c1,c2,gh,λh=>absurd h p1,λh=>absurd h p2,λh=>xv,λ_=>hb,λh4=>xu,λ_=>h⟩⟩
 have finn:¬(oE ⟨c,pc,inv,lin,rs,a⟩\/(inv<=lin/\lin<=1000000))->dc (fC ⟨c,pc,inv,lin,rs,a⟩)=false:=λhb=>az (λh=>hb (h.2.2.2.2.2.2.1 gh))
 clear hx
 generalize oE ⟨c,pc,inv,lin,rs,a⟩=BZ at fin3 fin4 finn hb0;generalize fC ⟨c,pc,inv,lin,rs,a⟩=TK at fin3 fin4 finn⊢;obtain⟨M,hM⟩:∃M,(if inv<lin then lin else inv)=M:=⟨_,rfl⟩;have hmx:(M<=rs/\rs<=1000000)↔(inv<=rs/\rs<=1000000)/\lin<=rs:=by rw[<-hM];split<;>omega
 rcases p34 with rfl|rfl
 ·simp
  refine ag.pure (gV a ⟨11,0,[],[]⟩ n2') lZ ?_;by_cases e1:a=⟨11,0,[],[]⟩
  rotate_left
  ·have hZ:¬BZ:=λh=>e1 (hb0.1 h).1.1
   simp[e1];exact Cr
  simp[e1];by_cases e2:c.kind=2
  rotate_left
  ·have hZ:¬BZ:=λh=>e2 (hb0.1 h).1.2
   simp[e2];exact Cr
  by_cases e3:lin = -1
  rotate_left
  ·have hZ:¬BZ:=λh=>e3 (hb0.1 h).2
   simp[e2,e3];exact Cr
  exact Js
 ·simp
  refine ag.pure (gV a ⟨11,0,[],[]⟩ n2') lZ ?_;by_cases e1:a=⟨11,0,[],[]⟩
  rotate_left
  ·have hZ:¬BZ:=λh=>e1 (hb0.1 h).1.1
   simp[e1];exact Ds
  simp[e1];by_cases e2:c.kind=2
  rotate_left
  ·have hZ:¬BZ:=λh=>e2 (hb0.1 h).1.2
   simp[e2];exact Ds
  by_cases e3:lin = -1
  rotate_left
  ·have hZ:¬BZ:=λh=>e3 (hb0.1 h).2
   simp[e2,e3];exact Ds
  have hZ:BZ:=hb0.2 ⟨⟨e1,e2⟩,e3⟩;simp[e2,GQ e3];have hB:BZ\/(inv<=lin/\lin<=1000000):=.inl hZ;rw[SO,hM];simp;refine ag.pure (bT rs M 1000000) ab ?_;have e:vb (M<=rs/\rs<=1000000)=vb TK:=sS (hmx.trans (fin4 rfl hB).symm);rw[e];simp
theorem Dx(t:Task)(hl:dj t<=2^36):ar Tryz.prog 59 [.agg t.row] (.one (.c (vb (fC t)) 1)):=by
 refine pci aw Tryz.func59 (λw0 base=>?_);obtain⟨n1,n2⟩:=oY hl;obtain⟨c,pc,inv,lin,rs,a⟩:=t;simp only at n1 n2;have n2':cq a<=2^40:=aa;have hx:∀p:Prop,(fC ⟨c,pc,inv,lin,rs,a⟩->p)->¬p->dc (fC ⟨c,pc,inv,lin,rs,a⟩)=false:=λp h1 h2=>az (λh=>h2 (h1 h))
 simp[Task.row];intro b1;refine ag.pure (ua c aa) jq ?_;by_cases c1:dA c
 rotate_left
 ·simp[az c1,hx _ (λh=>h.1) c1]
 simp[c1];refine ag.pure (cG inv 0 1000000) ab ?_;by_cases c2:0<=inv/\inv<=1000000
 rotate_left
 ·simp[az c2,hx _ (λh=>h.2.1) c2]
 simp[c2];refine ag.pure (cG pc 0 4) ab ?_;by_cases c3:0<=pc/\pc<=4
 rotate_left
 ·simp[az c3,hx _ (λh=>h.2.2.1) c3]
 simp[c3];by_cases p0:pc=0
 ·subst p0
  by_cases l1:lin = -1
  rotate_left
  ·exact rA
  subst l1;by_cases l2:rs = -1
  rotate_left
  ·exact rB
  subst l2;simp;refine ag.pure (gT a Answer.zero n2') qY ?_;exact LG
 by_cases p1:pc=1
 ·subst p1
  simp;refine ag.pure (pW c.kind) ab ?_;by_cases d1:cO c.kind
  rotate_left
  ·simp[az d1,hx _ (λh=>h.2.2.2.1 rfl) d1]
  simp[d1];by_cases l1:lin = -1
  rotate_left
  ·exact rA
  subst l1;by_cases l2:rs = -1
  rotate_left
  ·exact rB
  subst l2;simp;refine ag.pure (gT a Answer.zero n2') qY ?_;exact LI
 by_cases p2:pc=2
 ·subst p2
  by_cases d1:c.kind=2
  rotate_left
  ·simp[d1,hx _ (λh=>h.2.2.2.2.1 rfl) d1]
  simp[d1];by_cases l1:lin = -1
  rotate_left
  ·exact rA
  subst l1;by_cases l2:rs = -1
  rotate_left
  ·exact rB
  subst l2;simp;refine ag.pure (gT a Answer.zero n2') qY ?_;exact LH
 by_cases p34:pc=3\/pc=4
 rotate_left
 ·exfalso;omega
 have hb0:oE ⟨c,pc,inv,lin,rs,a⟩↔(a=⟨11,0,[],[]⟩/\c.kind=2)/\lin = -1:=by unfold oE;simp[and_assoc]
 have fin3:pc=3->(oE ⟨c,pc,inv,lin,rs,a⟩\/(inv<=lin/\lin<=1000000))->(fC ⟨c,pc,inv,lin,rs,a⟩↔rs = -1):=λhp hb=>
  ⟨λh=>h.2.2.2.2.2.2.2.1 hp,λh=>⟨c1,c2,gh,λh=>absurd h p1,λh=>absurd h p2,λh=>xv,λ_=>hb,λ_=>h,λh4=>xu⟩⟩
 have fin4:pc=4->(oE ⟨c,pc,inv,lin,rs,a⟩\/(inv<=lin/\lin<=1000000))->(fC ⟨c,pc,inv,lin,rs,a⟩↔(inv<=rs/\rs<=1000000)/\lin<=rs):=λhp hb=>
  ⟨λh=>h.2.2.2.2.2.2.2.2 hp,λh=>⟨c1,c2,gh,λh=>absurd h p1,λh=>absurd h p2,λh=>xv,λ_=>hb,λh4=>xu,λ_=>h⟩⟩
 have finn:¬(oE ⟨c,pc,inv,lin,rs,a⟩\/(inv<=lin/\lin<=1000000))->dc (fC ⟨c,pc,inv,lin,rs,a⟩)=false:=λhb=>az (λh=>hb (h.2.2.2.2.2.2.1 gh))
 clear hx
 generalize oE ⟨c,pc,inv,lin,rs,a⟩=BZ at fin3 fin4 finn hb0;generalize fC ⟨c,pc,inv,lin,rs,a⟩=TK at fin3 fin4 finn⊢;rcases p34 with rfl|rfl
 ·simp
  refine ag.pure (gT a ⟨11,0,[],[]⟩ n2') lZ ?_;by_cases e1:a=⟨11,0,[],[]⟩
  rotate_left
  ·have hZ:¬BZ:=λh=>e1 (hb0.1 h).1.1
   simp[e1];exact Cq
  simp[e1];by_cases e2:c.kind=2
  rotate_left
  ·have hZ:¬BZ:=λh=>e2 (hb0.1 h).1.2
   simp[e2];exact Cq
  by_cases e3:lin = -1
  rotate_left
  ·have hZ:¬BZ:=λh=>e3 (hb0.1 h).2
   simp[e2,e3];exact Cq
  exact Js
 ·simp
  refine ag.pure (gT a ⟨11,0,[],[]⟩ n2') lZ ?_;by_cases e1:a=⟨11,0,[],[]⟩
  rotate_left
  ·have hZ:¬BZ:=λh=>e1 (hb0.1 h).1.1
   simp[e1];exact Dt
  simp[e1];by_cases e2:c.kind=2
  rotate_left
  ·have hZ:¬BZ:=λh=>e2 (hb0.1 h).1.2
   simp[e2];exact Dt
  by_cases e3:lin = -1
  rotate_left
  ·have hZ:¬BZ:=λh=>e3 (hb0.1 h).2
   simp[e2,e3];exact Dt
  have hZ:BZ:=hb0.2 ⟨⟨e1,e2⟩,e3⟩;simp[e2,GQ e3];have hB:BZ\/(inv<=lin/\lin<=1000000):=.inl hZ;refine ag.pure (cG rs inv 1000000) ab ?_;by_cases r1:inv<=rs/\rs<=1000000
  rotate_left
  ·have h:¬TK:=λh=>r1 ((fin4 rfl hB).1 h).1
   simp[az r1,az h]
  simp[r1];by_cases r2:lin<=rs
  ·have h:TK:=(fin4 rfl hB).2 ⟨r1,r2⟩
   simp[r2,h]
  ·have h:¬TK:=λh=>r2 ((fin4 rfl hB).1 h).2
   simp[r2,az h]
theorem ui{l:List Int}{n:Int}{i:Nat}(h:i<l.length)(ha:n∉l.take i)(hi:¬n=l[i]):n∉l.take (i+1):=by
 rw[<-bb h];simp only[aO,List.mem_singleton,not_or];exact⟨ha,hi⟩
theorem pb(l:List Int)(hl:l.length<=2^40)(n:Int):ar Tryz.prog 135 [.c (.s (l.map aI)),.c (vi n)] (.one (.c (vb (n∈l)) 1)):=by
 refine pci aw Tryz.func135 (λw0 base=>?_);simp;refine inl aw Tryz.func193 20000 (λw1 F=>?_);simp;refine aU.intro eok (λi:Nat=>i<=l.length/\n∉l.take i) (λi=>⟨19,20000,[(8,.v (.int .i64 i)),(7,.v (.int .i64 l.length)),(0,.ro (l.map aI)),(1,.v (.int .i64 n))],[]⟩) (λi=>l.length-i) 0 ab ab (λi hi=>?_);by_cases hlt:i<l.length
 ·simp[hlt]
  by_cases c:n=l[i]
  ·have h:n∈l:=by rw[c];exact aj hlt
   have h0:(0:Int)<=i:=aa;simp[c,h0]
  ·simp[c]
   exact⟨i+1,⟨aa,ui hlt hi.2 c⟩,aa,aQ aa⟩
 ·exact Kl
theorem rH(l:List Int)(hl:l.length<=2^40)(n:Int):ar Tryz.prog 114 [.c (.s (l.map aI)),.c (vi n)] (.one (.c (vb (n∈l)) 1)):=by
 refine pci aw Tryz.func114 (λw0 base=>?_);simp;refine aU.intro eok (λi:Nat=>i<=l.length/\n∉l.take i) (λi=>⟨17,0,[(9,.v (.int .i64 i)),(8,.v (.int .i64 l.length)),(7,.ro (l.map aI)),(1,.v (.int .i64 n))],[]⟩) (λi=>l.length-i) 0 ab ab (λi hi=>?_);by_cases hlt:i<l.length
 ·simp[hlt]
  by_cases c:l[i]=n
  ·have h:n∈l:=by rw[<-c];exact aj hlt
   simp[c,h]
  ·simp[c]
   exact⟨i+1,⟨aa,ui hlt hi.2 (λh=>c h.symm)⟩,aa,aQ aa⟩
 ·exact Kl
theorem Nx{tasks:List Task}{step:Int}{m:List Int}(h:cz step [] (tasks.flatMap gB)=some m):∀h' l q,ld ⟨h',l,q,tasks,step⟩:=by
 intro h' l q;unfold ld;simp only;rw[h];rfl
theorem AB(w:Wld)(hl:w.tasks.length<=2^30):ar Tryz.prog 79 [.c (.s (w.tasks.map Task.row)),.c (vi w.step)] (.one (.c (vb (ld w)) 1)):=by
 refine pci aw Tryz.func79 (λw0 base=>?_);obtain⟨hh,lk,qs,tasks,step⟩:=w;simp only at hl;simp
 refine aH eok (λx:Nat×List Int×Hd=>x.1<=tasks.length/\cz step [] ((tasks.take x.1).flatMap gB)=some x.2.1) (λx=>⟨44,0,[(12,.v (.int .i64 x.1)),(11,.v (.int .i64 tasks.length)),(10,.ro (tasks.map Task.row)),(1,.v (.int .i64 step)),(5,.sl 5000 x.2.2 1 0 x.2.1.length)],
  [(5000,.rows x.2.2 1 (x.2.1.map aI) true)]⟩) (λx=>tasks.length-x.1) (0,[],none) tM ab (λx hi=>Ent.refl ?_)
 obtain⟨i,met,H⟩:=x;obtain⟨hi,hr⟩:=hi;simp only at hi hr⊢
 have hml:met.length<=3*tasks.length:=by
  exact JS
 by_cases hlt:i<tasks.length
 rotate_left
 ·exact Kw
 have hsuc:cz step [] ((tasks.take (i+1)).flatMap gB)=cz step met (gB tasks[i]):=by
  rw[yv hlt,dS,hr];rfl
 have hno:=λhn=>yF (w:=⟨hh,lk,qs,tasks,step⟩) hlt hr hn
 simp only at hno;obtain⟨t,ht⟩:∃t,tasks[i]=t:=⟨_,rfl⟩;rw[ht]at hsuc hno;obtain⟨told,htold⟩:∃l,gB t=l:=⟨_,rfl⟩;have hrow:[[CD.v (.int .i64 t.inv)],[CD.v (.int .i64 t.lin)],[CD.v (.int .i64 t.rs)]]=told.map aI:=xt;have htl:told.length=3:=xt;rw[htold]at hsuc hno;simp[hlt,ht,Task.row];intro b7 b22;rw[hrow]
 refine aH eok (λx:Nat×List Int×Hd=>x.1<=3/\cz step met (told.take x.1)=some x.2.1) (λx=>⟨44,0,[(24,.v (.int .i64 x.1)),(23,.v (.int .i64 3)),(22,.sl 352 (some (b22,0,3)) 1 0 3),(12,.v (.int .i64 i)),(11,.v (.int .i64 tasks.length)),(10,.ro (tasks.map Task.row)),(1,.v (.int .i64 step)),(5,.sl 5000 x.2.2 1 0 x.2.1.length)],
  [(352,.rows (some (b22,0,3)) 1 (told.map aI) true),(5000,.rows x.2.2 1 (x.2.1.map aI) true)]⟩) (λx=>3-x.1) (0,met,H) tM ab (λx hi=>Ent.refl ?_)
 obtain⟨j,m,G⟩:=x;obtain⟨hj,hm⟩:=hi;simp only at hj hm⊢
 have hmm:m.length<=met.length+3:=by
  have:=kf _ _ _ hm;simp at this;omega
 by_cases hjt:j<3
 rotate_left
 ·exact Ju
 have hj':(j:Int)<3:=aa;have hjl:j<told.length:=aa;obtain⟨o1,o2,o3⟩:=tW hjl hm;simp[hj',hjl];generalize told[j]=n at o1 o2 o3⊢;by_cases c1:n = -1
 ·exact Jd
 simp[c1];by_cases c2:step<=n
 ·have h:=hno (o3 c1 (.inl c2))
  simp[c2,az h]
 simp[c2];refine ag.pure (pb m aa n) ab ?_;exact JA
theorem dn{w:Wld}{B:Nat}(h:bL w<=B):dh w.h<=B/\w.locks.length<=B/\nL cR w.queues<=B/\nL dj w.tasks<=B:=by unfold bL at h;omega
theorem vp{t:Task}{B:Nat}(h:dj t<=B):t.c.doc.size<=B:=by unfold dj dP at h;omega
theorem Fh(w:Wld)(hl:bL w<=2^30):ar Tryz.prog 61 [.agg w.row] (.one (.c (vb (ld w)) 1)):=by
 refine pci aw Tryz.func61 (λw0 base=>?_);obtain⟨-,-,-,n4⟩:=dn hl;obtain⟨hh,lk,qs,tasks,step⟩:=w;have hl:=aY n4;simp only at hl;simp[Wld.row];intro b1 b8
 refine aH eok (λx:Nat×List Int×Hd=>x.1<=tasks.length/\cz step [] ((tasks.take x.1).flatMap gB)=some x.2.1) (λx=>⟨45,0,[(12,.v (.int .i64 x.1)),(11,.v (.int .i64 tasks.length)),(10,.ro (tasks.map Task.row)),(1,.p 16 b1 0),(3,.sl 128 x.2.2 1 0 x.2.1.length)],
  [(16, .vars b1 39 [.v (.bool hh.shut), .ro (hh.docs.map Doc.row), .ro (hh.subs.map Sub.row), .v (.int .i64 hh.last), .ro (lk.map aI), .ro (qs.map Queue.row), .ro (tasks.map Task.row), .v (.int .i64 step)]),
   (128,.rows x.2.2 1 (x.2.1.map aI) true)]⟩) (λx=>tasks.length-x.1) (0,[],some (b8,0,0)) tM ab (λx hi=>Ent.refl ?_)
 obtain⟨i,met,H⟩:=x;obtain⟨hi,hr⟩:=hi;simp only at hi hr⊢
 have hml:met.length<=3*tasks.length:=by
  exact JS
 by_cases hlt:i<tasks.length
 rotate_left
 ·exact Kw
 have hsuc:cz step [] ((tasks.take (i+1)).flatMap gB)=cz step met (gB tasks[i]):=by
  rw[yv hlt,dS,hr];rfl
 have hno:=λhn=>yF (w:=⟨hh,lk,qs,tasks,step⟩) hlt hr hn
 simp only at hno;obtain⟨t,ht⟩:∃t,tasks[i]=t:=⟨_,rfl⟩;rw[ht]at hsuc hno;obtain⟨told,htold⟩:∃l,gB t=l:=⟨_,rfl⟩;have hrow:[[CD.v (.int .i64 t.inv)],[CD.v (.int .i64 t.lin)],[CD.v (.int .i64 t.rs)]]=told.map aI:=xt;have htl:told.length=3:=xt;rw[htold]at hsuc hno;simp[hlt,ht,Task.row];intro b5 b22;rw[hrow]
 refine aH eok (λx:Nat×List Int×Hd=>x.1<=3/\cz step met (told.take x.1)=some x.2.1) (λx=>⟨45,0,[(24,.v (.int .i64 x.1)),(23,.v (.int .i64 3)),(22,.sl 352 (some (b22,0,3)) 1 0 3),(12,.v (.int .i64 i)),(11,.v (.int .i64 tasks.length)),(10,.ro (tasks.map Task.row)),(1,.p 16 b1 0),(3,.sl 128 x.2.2 1 0 x.2.1.length)],
  [(16, .vars b1 39 [.v (.bool hh.shut), .ro (hh.docs.map Doc.row), .ro (hh.subs.map Sub.row), .v (.int .i64 hh.last), .ro (lk.map aI), .ro (qs.map Queue.row), .ro (tasks.map Task.row), .v (.int .i64 step)]),
   (352,.rows (some (b22,0,3)) 1 (told.map aI) true),(128,.rows x.2.2 1 (x.2.1.map aI) true)]⟩) (λx=>3-x.1) (0,met,H) tM ab (λx hi=>Ent.refl ?_)
 obtain⟨j,m,G⟩:=x;obtain⟨hj,hm⟩:=hi;simp only at hj hm⊢
 have hmm:m.length<=met.length+3:=by
  have:=kf _ _ _ hm;simp at this;omega
 by_cases hjt:j<3
 rotate_left
 ·exact Ju
 have hj':(j:Int)<3:=aa;have hjl:j<told.length:=aa;obtain⟨o1,o2,o3⟩:=tW hjl hm;simp[hj',hjl];generalize told[j]=n at o1 o2 o3⊢;by_cases c1:n = -1
 ·exact Jd
 simp[c1];by_cases c2:step<=n
 ·have h:=hno (o3 c1 (.inl c2))
  simp[c2,az h]
 simp[c2];refine ag.pure (rH m aa n) ab ?_;exact JA
theorem Fj(w:Wld)(hl:bL w<=2^30)(hn:1<=w.locks.length):ar Tryz.prog 62 [.agg w.row] (.one (.c (vb (rO w)) 1)):=by
 refine pci aw Tryz.func62 (λw0 base=>?_);obtain⟨-,n2,-,n4⟩:=dn hl;obtain⟨hh,lk,qs,tasks,step⟩:=w;have hle:=aY n4;simp only at hle n2 hn n4;simp[Wld.row];intro b1
 refine aH eok (λi:Nat=>i<=lk.length/\∀s,s<i->D0 tasks lk s) (λi=>⟨76,0,[(10,.v (.int .i64 i)),(9,.v (.int .i64 lk.length)),(8,.ro (lk.map aI)),(1,.p 16 b1 0)],
  [(16,.vars b1 39 [.v (.bool hh.shut),.ro (hh.docs.map Doc.row),.ro (hh.subs.map Sub.row),.v (.int .i64 hh.last),.ro (lk.map aI),.ro (qs.map Queue.row),.ro (tasks.map Task.row),.v (.int .i64 step)])]⟩) (λi=>lk.length-i) 0 ab ab (λi hi=>Ent.refl ?_)
 by_cases hlt:i<lk.length
 ·obtain⟨x,hx⟩:∃x,lk[i]=x:=⟨_,rfl⟩
  have hno:(¬(lk[i] = -1\/∃k:Nat,∃hk:k<tasks.length,lk[i]=k/\tasks[k].pc=1/\bS tasks[k].c.doc lk.length=i))->dc (rO ⟨hh,lk,qs,tasks,step⟩)=false:=λh=>az (λh'=>h (h'.1 i hlt))
  rw[hx]at hno;have ew:Go.IntKind.i64.wrap ((tasks.length:Int)-1)=(tasks.length:Int)-1:=ae _ aa;simp[hlt,hx];by_cases c0:x = -1
  ·simp[c0]
   exact Ent.refl ⟨i+1,⟨aa,jh hi.2 (λ_=>.inl (by rw[hx,c0]))⟩,aa,by simp;exact aQ aa⟩
  simp[c0];refine aZ.quiet eok mix al ?_;simp[ew];refine⟨_,_,cG x 0 ((tasks.length:Int)-1),ab,?_⟩;by_cases c1:0<=x/\x<=(tasks.length:Int)-1
  rotate_left
  ·have h:=hno (λh=>h.elim c0 (λ⟨k,hk,e,_⟩=>c1 aa))
   simp[az c1,h]
  obtain⟨k,rfl⟩:∃k:Nat,x=k:=⟨x.toNat,aa⟩;have hk:k<tasks.length:=aa;obtain⟨t,ht⟩:∃t,tasks[k]=t:=⟨_,rfl⟩;have hm:=vp (cH n4 hk);rw[ht]at hm;simp[c1,hk,ht,Task.row];by_cases c2:t.pc=1
  rotate_left
  ·have h:=hno (λh=>h.elim c0 (λ⟨k',hk',e,h2,_⟩=>c2 (by obtain rfl:k=k':=(by omega);rwa[ht]at h2)))
   simp[c2,h]
  simp[c2,hk,ht,Task.row];refine⟨_,_,me t.c.doc aa lk.length hn aa,ab,?_⟩;by_cases c3:bS t.c.doc lk.length=i
  rotate_left
  ·have h:=hno (λh=>h.elim c0 (λ⟨k',hk',e,h2,h3⟩=>c3 (by obtain rfl:k=k':=(by omega);rwa[ht]at h3)))
   have c3':¬(bS t.c.doc lk.length:Int)=i:=aa;simp[c3',h]
  have c3':(bS t.c.doc lk.length:Int)=i:=aa;simp[c3'];exact Ent.refl ⟨i+1,⟨aa,jh hi.2 (λ_=>.inr ⟨k,hk,hx,by rw[ht];exact c2,by rw[ht];exact c3⟩)⟩,aa,by simp;exact aQ aa⟩
 have hall:∀s,D0 tasks lk s:=λs=>by
  by_cases h:s<lk.length
  ·exact hi.2 s aa
  ·exact λh'=>absurd h' h
 simp[hlt]
 refine aH eok (λi:Nat=>i<=tasks.length/\∀s,s<i->ur tasks lk s) (λi=>⟨76,0,[(52,.v (.int .i64 i)),(51,.v (.int .i64 tasks.length)),(50,.ro (tasks.map Task.row)),(1,.p 16 b1 0)],
  [(16,.vars b1 39 [.v (.bool hh.shut),.ro (hh.docs.map Doc.row),.ro (hh.subs.map Sub.row),.v (.int .i64 hh.last),.ro (lk.map aI),.ro (qs.map Queue.row),.ro (tasks.map Task.row),.v (.int .i64 step)])]⟩) (λi=>tasks.length-i) 0 ab ab (λi hi=>Ent.refl ?_)
 by_cases hlt:i<tasks.length
 ·obtain⟨t,ht⟩:∃t,tasks[i]=t:=⟨_,rfl⟩
  have hm:=vp (cH n4 hlt);rw[ht]at hm;simp[hlt,ht,Task.row];intro b6;refine aZ.quiet eok mix al ?_;simp;by_cases c1:t.pc=1
  rotate_left
  ·simp[c1]
   exact Ent.refl ⟨i+1,⟨aa,jh hi.2 (λ_ h=>absurd h (by rw[ht];exact c1))⟩,aa,by simp;exact aQ aa⟩
  simp[c1];refine⟨_,_,me t.c.doc aa lk.length hn aa,ab,?_⟩;have hs:bS t.c.doc lk.length<lk.length:=(i6 t.c.doc hn).2;simp[hs];by_cases c2:lk[bS t.c.doc lk.length]=(i:Int)
  rotate_left
  ·have h:¬rO ⟨hh,lk,qs,tasks,step⟩:=λh=>c2 (by
    have:=h.2 i hlt (by simp only[ht];exact c1);simp only[ht]at this;rw[ak hs]at this;exact jC this)
   simp[c2,az h]
  simp[c2];exact Ent.refl ⟨i+1,⟨aa,jh hi.2 (λ_ h=>by rw[ht,ak hs,c2])⟩,aa,by simp;exact aQ aa⟩
 have h:rO ⟨hh,lk,qs,tasks,step⟩:=⟨hall,λs=>by
  by_cases h:s<tasks.length
  ·exact hi.2 s aa
  ·exact λh'=>absurd h' h⟩
 simp[hlt,h]
theorem Eb(w:Wld)(hl:bL w<=2^30):ar Tryz.prog 80 [.agg w.row] (.one (.c (vb (eV w)) 1)):=by
 refine pci aw Tryz.func80 (λw0 base=>?_);obtain⟨nh,n2,n3,n4⟩:=dn hl;obtain⟨hh,lk,qs,tasks,step⟩:=w;have hle:=aY n4;have hlq:=aY n3;simp only at hle hlq n2 n3 n4 nh;have ew:Go.IntKind.i64.wrap ((tasks.length:Int)-1)=(tasks.length:Int)-1:=ae _ aa;simp[Wld.row];intro b1
 refine aH eok (λx:Nat×List Int×Hd=>x.1<=qs.length/\dF ⟨hh,lk,qs,tasks,step⟩ x.1=some x.2.1/\x.2.1.length<=2*x.1) (λx=>⟨111,0,[(13,.v (.int .i64 x.1)),(12,.v (.int .i64 qs.length)),(11,.ro (qs.map Queue.row)),(1,.p 16 b1 0),(3,.sl 5000 x.2.2 1 0 x.2.1.length)],
  [(16, .vars b1 39 [.v (.bool hh.shut), .ro (hh.docs.map Doc.row), .ro (hh.subs.map Sub.row), .v (.int .i64 hh.last), .ro (lk.map aI), .ro (qs.map Queue.row), .ro (tasks.map Task.row), .v (.int .i64 step)]),
   (5000,.rows x.2.2 1 (x.2.1.map aI) true)]⟩) (λx=>qs.length-x.1) (0,[],none) (by simp[dF]) ab (λx hi=>Ent.refl ?_)
 obtain⟨i,all,H⟩:=x;obtain⟨hi,hr,hal⟩:=hi;simp only at hi hr hal⊢;by_cases hlt:i<qs.length
 ·obtain⟨q,hq⟩:∃q,qs[i]=q:=⟨_,rfl⟩
  have hbad:¬hI hh qs i->¬eV ⟨hh,lk,qs,tasks,step⟩:=λh=>fL (w:=⟨hh,lk,qs,tasks,step⟩) hlt (gE (w:=⟨hh,lk,qs,tasks,step⟩) hlt h)
  simp[hlt,hq,Queue.row];intro b5;refine aZ.quiet eok mix al ?_;simp;have hprev:0=i\/0<i:=aa;obtain⟨prev,hcase⟩:∃prev:Prop,prev=∀h:0<i,sLt qs[i-1].doc q.doc:=⟨_,rfl⟩;have hat:∀(_:1<=q.list.length/\q.list.length<=2) (_:0<=bq hh.docs q.doc) (_:∀h:0<i,sLt qs[i-1].doc q.doc),hI hh qs i:=λs2 s3 s1=>λ_=>by rw[hq];exact⟨s1,s2,s3⟩
  cases i with
  |zero=>
  replace hat:=λs2 s3=>hat s2 s3 (λh=>absurd h aa)
  simp;refine⟨_,_,bT q.list.length 1 2,ab,?_⟩;by_cases s2:1<=q.list.length/\q.list.length<=2
  rotate_left
  ·exact yd
  have s2':1<=(q.list.length:Int)/\(q.list.length:Int)<=2:=aa;simp[s2'];refine⟨_,_,eS hh aa q.doc,bj,?_⟩;by_cases s3:0<=bq hh.docs q.doc
  rotate_left
  ·exact yb
  have s3':¬bq hh.docs q.doc<0:=aa;have hsuc:=jl (w:=⟨hh,lk,qs,tasks,step⟩) hlt hr (hat s2 s3);have hbad2:db tasks q.doc all q.list=none->¬eV ⟨hh,lk,qs,tasks,step⟩:=λh=>fL (w:=⟨hh,lk,qs,tasks,step⟩) hlt xr
  simp only[hq]at hsuc;simp[s3']
  refine aH eok (λx:Nat×List Int×Hd=>x.1<=q.list.length/\db tasks q.doc all (q.list.take x.1)=some x.2.1) (λx=>⟨111,0,[(50,.v (.int .i64 x.1)),(49,.v (.int .i64 q.list.length)),(48,.ro (q.list.map aI)),(5,.p 80 b5 0),(13,.v (.int .i64 0)),(12,.v (.int .i64 qs.length)),(11,.ro (qs.map Queue.row)),(1,.p 16 b1 0),(3,.sl 5000 x.2.2 1 0 x.2.1.length)],
   [(16, .vars b1 39 [.v (.bool hh.shut), .ro (hh.docs.map Doc.row), .ro (hh.subs.map Sub.row), .v (.int .i64 hh.last), .ro (lk.map aI), .ro (qs.map Queue.row), .ro (tasks.map Task.row), .v (.int .i64 step)]),(80, .vars b5 104 [.v (.string q.doc), .ro (q.list.map aI)]),
    (5000,.rows x.2.2 1 (x.2.1.map aI) true)]⟩) (λx=>q.list.length-x.1) (0,all,H) tL ab (λx hi=>Ent.refl ?_)
  obtain⟨j,m,G⟩:=x;obtain⟨hj,hm⟩:=hi;simp only at hj hm⊢
  have hml:m.length<=2*qs.length:=by
   exact xS
  by_cases hjt:j<q.list.length
  rotate_left
  ·exact LJ
  obtain⟨o1,o2⟩:=mf hjt hm;obtain⟨x,hx⟩:∃x,q.list[j]=x:=⟨_,rfl⟩;rw[hx]at o1 o2;simp[hjt,hx];refine aZ.quiet eok mix al ?_;simp[ew];refine⟨_,_,bT x 0 ((tasks.length:Int)-1),ab,?_⟩;by_cases c1:0<=x/\x<=(tasks.length:Int)-1
  rotate_left
  ·exact ya
  obtain⟨k,rfl⟩:∃k:Nat,x=k:=⟨x.toNat,aa⟩;have hk:k<tasks.length:=aa;obtain⟨t,ht⟩:∃t,tasks[k]=t:=⟨_,rfl⟩
  have hmay:kr tasks q.doc k↔t.pc=2/\t.c.doc=q.doc:=by
   exact ye
  simp[c1,hk,ht,Task.row];by_cases c2:t.pc=2
  rotate_left
  ·exact xX
  simp[c2,hk,ht,Task.row];by_cases c3:t.c.doc=q.doc
  rotate_left
  ·exact xW
  simp[c3];refine⟨_,_,pb m aa k,ab,?_⟩;by_cases c4:(k:Int)∈m
  ·exact CS
  simp[az c4];intro b40;refine⟨aa,λG'=>Ent.refl ⟨j+1,m++[(k:Int)],⟨aa,o1 ⟨hmay.2 ⟨c2,c3⟩,c4⟩⟩,aa,G',?_⟩⟩;simp;exact aQ aa
  |succ p=>
  have hp1:p<qs.length:=aa;have ek:Go.IntKind.i64.wrap (p:Int)=p:=fh aa;have hp0:(0:Int)<(p:Int)+1:=aa;obtain⟨y,hy⟩:∃y,qs[p]=y:=⟨_,rfl⟩;simp[ek,hp0,hp1,hy,Queue.row];by_cases s1:sLt y.doc q.doc
  rotate_left
  ·exact Lh
  replace hat:=λs2 s3=>hat s2 s3 (λ_=>xx)
  simp[s1];refine⟨_,_,bT q.list.length 1 2,ab,?_⟩;by_cases s2:1<=q.list.length/\q.list.length<=2
  rotate_left
  ·exact yd
  have s2':1<=(q.list.length:Int)/\(q.list.length:Int)<=2:=aa;simp[s2'];refine⟨_,_,eS hh aa q.doc,bj,?_⟩;by_cases s3:0<=bq hh.docs q.doc
  rotate_left
  ·exact yb
  have s3':¬bq hh.docs q.doc<0:=aa;have hsuc:=jl (w:=⟨hh,lk,qs,tasks,step⟩) hlt hr (hat s2 s3);have hbad2:db tasks q.doc all q.list=none->¬eV ⟨hh,lk,qs,tasks,step⟩:=λh=>fL (w:=⟨hh,lk,qs,tasks,step⟩) hlt xr
  simp only[hq]at hsuc;simp[s3']
  refine aH eok (λx:Nat×List Int×Hd=>x.1<=q.list.length/\db tasks q.doc all (q.list.take x.1)=some x.2.1) (λx=>⟨111,0,[(50,.v (.int .i64 x.1)),(49,.v (.int .i64 q.list.length)),(48,.ro (q.list.map aI)),(5,.p 80 b5 0),(13,.v (.int .i64 ((p:Int)+1))),(12,.v (.int .i64 qs.length)),(11,.ro (qs.map Queue.row)),(1,.p 16 b1 0),(3,.sl 5000 x.2.2 1 0 x.2.1.length)],
   [(16, .vars b1 39 [.v (.bool hh.shut), .ro (hh.docs.map Doc.row), .ro (hh.subs.map Sub.row), .v (.int .i64 hh.last), .ro (lk.map aI), .ro (qs.map Queue.row), .ro (tasks.map Task.row), .v (.int .i64 step)]),(80, .vars b5 104 [.v (.string q.doc), .ro (q.list.map aI)]),
    (5000,.rows x.2.2 1 (x.2.1.map aI) true)]⟩) (λx=>q.list.length-x.1) (0,all,H) tL ab (λx hi=>Ent.refl ?_)
  obtain⟨j,m,G⟩:=x;obtain⟨hj,hm⟩:=hi;simp only at hj hm⊢
  have hml:m.length<=2*qs.length:=by
   exact xS
  by_cases hjt:j<q.list.length
  rotate_left
  ·exact LN
  obtain⟨o1,o2⟩:=mf hjt hm;obtain⟨x,hx⟩:∃x,q.list[j]=x:=⟨_,rfl⟩;rw[hx]at o1 o2;simp[hjt,hx];refine aZ.quiet eok mix al ?_;simp[ew];refine⟨_,_,bT x 0 ((tasks.length:Int)-1),ab,?_⟩;by_cases c1:0<=x/\x<=(tasks.length:Int)-1
  rotate_left
  ·exact ya
  obtain⟨k,rfl⟩:∃k:Nat,x=k:=⟨x.toNat,aa⟩;have hk:k<tasks.length:=aa;obtain⟨t,ht⟩:∃t,tasks[k]=t:=⟨_,rfl⟩
  have hmay:kr tasks q.doc k↔t.pc=2/\t.c.doc=q.doc:=by
   exact ye
  simp[c1,hk,ht,Task.row];by_cases c2:t.pc=2
  rotate_left
  ·exact xX
  simp[c2,hk,ht,Task.row];by_cases c3:t.c.doc=q.doc
  rotate_left
  ·exact xW
  simp[c3];refine⟨_,_,pb m aa k,ab,?_⟩;exact Jy
 have hie:i=qs.length:=aa;subst hie;simp
 refine aH eok (λk:Nat=>k<=tasks.length/\∀j,j<k->∀hj:j<tasks.length,tasks[j].pc=2->(j:Int)∈all) (λk=>⟨111,0,[(96,.v (.int .i64 k)),(95,.v (.int .i64 tasks.length)),(94,.ro (tasks.map Task.row)),(3,.sl 5000 H 1 0 all.length)],
  [(5000,.rows H 1 (all.map aI) true)]⟩) (λk=>tasks.length-k) 0 ab ab (λk hk=>Ent.refl ?_)
 by_cases hlt:k<tasks.length
 ·obtain⟨t,ht⟩:∃t,tasks[k]=t:=⟨_,rfl⟩
  simp[hlt,ht,Task.row];intro b9;by_cases c1:t.pc=2
  rotate_left
  ·exact LB
  simp[c1];refine ag.pure (pb all aa k) ab ?_;exact L5
 exact KO
theorem DC(w:Wld)(hl:bL w<=2^30):ar Tryz.prog 63 [.agg w.row] (.one (.c (vb (eV w)) 1)):=by
 refine pci aw Tryz.func63 (λw0 base=>?_);obtain⟨nh,n2,n3,n4⟩:=dn hl;obtain⟨hh,lk,qs,tasks,step⟩:=w;have hle:=aY n4;have hlq:=aY n3;simp only at hle hlq n2 n3 n4 nh;have ew:Go.IntKind.i64.wrap ((tasks.length:Int)-1)=(tasks.length:Int)-1:=ae _ aa;simp[Wld.row];intro b1 b10
 refine aH eok (λx:Nat×List Int×Hd=>x.1<=qs.length/\dF ⟨hh,lk,qs,tasks,step⟩ x.1=some x.2.1/\x.2.1.length<=2*x.1) (λx=>⟨112,0,[(14,.v (.int .i64 x.1)),(13,.v (.int .i64 qs.length)),(12,.ro (qs.map Queue.row)),(1,.p 16 b1 0),(3,.sl 160 x.2.2 1 0 x.2.1.length)],
  [(16, .vars b1 39 [.v (.bool hh.shut), .ro (hh.docs.map Doc.row), .ro (hh.subs.map Sub.row), .v (.int .i64 hh.last), .ro (lk.map aI), .ro (qs.map Queue.row), .ro (tasks.map Task.row), .v (.int .i64 step)]),
   (160,.rows x.2.2 1 (x.2.1.map aI) true)]⟩) (λx=>qs.length-x.1) (0,[],some (b10,0,0)) (by simp[dF]) ab (λx hi=>Ent.refl ?_)
 obtain⟨i,all,H⟩:=x;obtain⟨hi,hr,hal⟩:=hi;simp only at hi hr hal⊢;by_cases hlt:i<qs.length
 ·obtain⟨q,hq⟩:∃q,qs[i]=q:=⟨_,rfl⟩
  have hbad:¬hI hh qs i->¬eV ⟨hh,lk,qs,tasks,step⟩:=λh=>fL (w:=⟨hh,lk,qs,tasks,step⟩) hlt (gE (w:=⟨hh,lk,qs,tasks,step⟩) hlt h)
  simp[hlt,hq,Queue.row];intro b5;refine aZ.quiet eok mix al ?_;simp;have hprev:0=i\/0<i:=aa;obtain⟨prev,hcase⟩:∃prev:Prop,prev=∀h:0<i,sLt qs[i-1].doc q.doc:=⟨_,rfl⟩;have hat:∀(_:1<=q.list.length/\q.list.length<=2) (_:0<=bq hh.docs q.doc) (_:∀h:0<i,sLt qs[i-1].doc q.doc),hI hh qs i:=λs2 s3 s1=>λ_=>by rw[hq];exact⟨s1,s2,s3⟩
  cases i with
  |zero=>
  replace hat:=λs2 s3=>hat s2 s3 (λh=>absurd h aa)
  simp;refine⟨_,_,cG q.list.length 1 2,ab,?_⟩;by_cases s2:1<=q.list.length/\q.list.length<=2
  rotate_left
  ·exact yd
  have s2':1<=(q.list.length:Int)/\(q.list.length:Int)<=2:=aa;simp[s2'];refine⟨_,_,fE hh aa q.doc,bj,?_⟩;by_cases s3:0<=bq hh.docs q.doc
  rotate_left
  ·exact yb
  have s3':¬bq hh.docs q.doc<0:=aa;have hsuc:=jl (w:=⟨hh,lk,qs,tasks,step⟩) hlt hr (hat s2 s3);have hbad2:db tasks q.doc all q.list=none->¬eV ⟨hh,lk,qs,tasks,step⟩:=λh=>fL (w:=⟨hh,lk,qs,tasks,step⟩) hlt xr
  simp only[hq]at hsuc;simp[s3']
  refine aH eok (λx:Nat×List Int×Hd=>x.1<=q.list.length/\db tasks q.doc all (q.list.take x.1)=some x.2.1) (λx=>⟨112,0,[(51,.v (.int .i64 x.1)),(50,.v (.int .i64 q.list.length)),(49,.ro (q.list.map aI)),(5,.p 80 b5 0),(14,.v (.int .i64 0)),(13,.v (.int .i64 qs.length)),(12,.ro (qs.map Queue.row)),(1,.p 16 b1 0),(3,.sl 160 x.2.2 1 0 x.2.1.length)],
   [(16, .vars b1 39 [.v (.bool hh.shut), .ro (hh.docs.map Doc.row), .ro (hh.subs.map Sub.row), .v (.int .i64 hh.last), .ro (lk.map aI), .ro (qs.map Queue.row), .ro (tasks.map Task.row), .v (.int .i64 step)]),(80, .vars b5 104 [.v (.string q.doc), .ro (q.list.map aI)]),
    (160,.rows x.2.2 1 (x.2.1.map aI) true)]⟩) (λx=>q.list.length-x.1) (0,all,H) tL ab (λx hi=>Ent.refl ?_)
  obtain⟨j,m,G⟩:=x;obtain⟨hj,hm⟩:=hi;simp only at hj hm⊢
  have hml:m.length<=2*qs.length:=by
   exact xS
  by_cases hjt:j<q.list.length
  rotate_left
  ·exact LJ
  obtain⟨o1,o2⟩:=mf hjt hm;obtain⟨x,hx⟩:∃x,q.list[j]=x:=⟨_,rfl⟩;rw[hx]at o1 o2;simp[hjt,hx];refine aZ.quiet eok mix al ?_;simp[ew];refine⟨_,_,cG x 0 ((tasks.length:Int)-1),ab,?_⟩;by_cases c1:0<=x/\x<=(tasks.length:Int)-1
  rotate_left
  ·exact ya
  obtain⟨k,rfl⟩:∃k:Nat,x=k:=⟨x.toNat,aa⟩;have hk:k<tasks.length:=aa;obtain⟨t,ht⟩:∃t,tasks[k]=t:=⟨_,rfl⟩
  have hmay:kr tasks q.doc k↔t.pc=2/\t.c.doc=q.doc:=by
   exact ye
  simp[c1,hk,ht,Task.row];by_cases c2:t.pc=2
  rotate_left
  ·exact xX
  simp[c2,hk,ht,Task.row];by_cases c3:t.c.doc=q.doc
  rotate_left
  ·exact xW
  simp[c3];refine⟨_,_,rH m aa k,ab,?_⟩;by_cases c4:(k:Int)∈m
  ·exact CS
  simp[az c4];intro b40;refine⟨aa,λG'=>Ent.refl ⟨j+1,m++[(k:Int)],⟨aa,o1 ⟨hmay.2 ⟨c2,c3⟩,c4⟩⟩,aa,G',?_⟩⟩;simp;exact aQ aa
  |succ p=>
  have hp1:p<qs.length:=aa;have ek:Go.IntKind.i64.wrap (p:Int)=p:=fh aa;have hp0:(0:Int)<(p:Int)+1:=aa;obtain⟨y,hy⟩:∃y,qs[p]=y:=⟨_,rfl⟩;simp[ek,hp0,hp1,hy,Queue.row];by_cases s1:sLt y.doc q.doc
  rotate_left
  ·exact Lh
  replace hat:=λs2 s3=>hat s2 s3 (λ_=>xx)
  simp[s1];refine⟨_,_,cG q.list.length 1 2,ab,?_⟩;by_cases s2:1<=q.list.length/\q.list.length<=2
  rotate_left
  ·exact yd
  have s2':1<=(q.list.length:Int)/\(q.list.length:Int)<=2:=aa;simp[s2'];refine⟨_,_,fE hh aa q.doc,bj,?_⟩;by_cases s3:0<=bq hh.docs q.doc
  rotate_left
  ·exact yb
  have s3':¬bq hh.docs q.doc<0:=aa;have hsuc:=jl (w:=⟨hh,lk,qs,tasks,step⟩) hlt hr (hat s2 s3);have hbad2:db tasks q.doc all q.list=none->¬eV ⟨hh,lk,qs,tasks,step⟩:=λh=>fL (w:=⟨hh,lk,qs,tasks,step⟩) hlt xr
  simp only[hq]at hsuc;simp[s3']
  refine aH eok (λx:Nat×List Int×Hd=>x.1<=q.list.length/\db tasks q.doc all (q.list.take x.1)=some x.2.1) (λx=>⟨112,0,[(51,.v (.int .i64 x.1)),(50,.v (.int .i64 q.list.length)),(49,.ro (q.list.map aI)),(5,.p 80 b5 0),(14,.v (.int .i64 ((p:Int)+1))),(13,.v (.int .i64 qs.length)),(12,.ro (qs.map Queue.row)),(1,.p 16 b1 0),(3,.sl 160 x.2.2 1 0 x.2.1.length)],
   [(16, .vars b1 39 [.v (.bool hh.shut), .ro (hh.docs.map Doc.row), .ro (hh.subs.map Sub.row), .v (.int .i64 hh.last), .ro (lk.map aI), .ro (qs.map Queue.row), .ro (tasks.map Task.row), .v (.int .i64 step)]),(80, .vars b5 104 [.v (.string q.doc), .ro (q.list.map aI)]),
    (160,.rows x.2.2 1 (x.2.1.map aI) true)]⟩) (λx=>q.list.length-x.1) (0,all,H) tL ab (λx hi=>Ent.refl ?_)
  obtain⟨j,m,G⟩:=x;obtain⟨hj,hm⟩:=hi;simp only at hj hm⊢
  have hml:m.length<=2*qs.length:=by
   exact xS
  by_cases hjt:j<q.list.length
  rotate_left
  ·exact LN
  obtain⟨o1,o2⟩:=mf hjt hm;obtain⟨x,hx⟩:∃x,q.list[j]=x:=⟨_,rfl⟩;rw[hx]at o1 o2;simp[hjt,hx];refine aZ.quiet eok mix al ?_;simp[ew];refine⟨_,_,cG x 0 ((tasks.length:Int)-1),ab,?_⟩;by_cases c1:0<=x/\x<=(tasks.length:Int)-1
  rotate_left
  ·exact ya
  obtain⟨k,rfl⟩:∃k:Nat,x=k:=⟨x.toNat,aa⟩;have hk:k<tasks.length:=aa;obtain⟨t,ht⟩:∃t,tasks[k]=t:=⟨_,rfl⟩
  have hmay:kr tasks q.doc k↔t.pc=2/\t.c.doc=q.doc:=by
   exact ye
  simp[c1,hk,ht,Task.row];by_cases c2:t.pc=2
  rotate_left
  ·exact xX
  simp[c2,hk,ht,Task.row];by_cases c3:t.c.doc=q.doc
  rotate_left
  ·exact xW
  simp[c3];refine⟨_,_,rH m aa k,ab,?_⟩;exact Jy
 have hie:i=qs.length:=aa;subst hie;simp
 refine aH eok (λk:Nat=>k<=tasks.length/\∀j,j<k->∀hj:j<tasks.length,tasks[j].pc=2->(j:Int)∈all) (λk=>⟨112,0,[(97,.v (.int .i64 k)),(96,.v (.int .i64 tasks.length)),(95,.ro (tasks.map Task.row)),(3,.sl 160 H 1 0 all.length)],
  [(160,.rows H 1 (all.map aI) true)]⟩) (λk=>tasks.length-k) 0 ab ab (λk hk=>Ent.refl ?_)
 by_cases hlt:k<tasks.length
 ·obtain⟨t,ht⟩:∃t,tasks[k]=t:=⟨_,rfl⟩
  simp[hlt,ht,Task.row];intro b9;by_cases c1:t.pc=2
  rotate_left
  ·exact LB
  simp[c1];refine ag.pure (rH all aa k) ab ?_;exact L5
 exact KO
end Go.Proofs.YtklblkobegcljaaGreat
