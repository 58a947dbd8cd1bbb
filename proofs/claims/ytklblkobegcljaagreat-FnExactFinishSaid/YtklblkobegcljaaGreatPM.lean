import Derived.Test.YtklblkobegcljaaGreatPL
import Derived.Test.YtklblkobegcljaaGreatPH
import Derived.Test.YtklblkobegcljaaGreatPK
import Derived.Test.YtklblkobegcljaaGreatPI
import Derived.Test.YtklblkobegcljaaGreatMF
import Derived.Test.YtklblkobegcljaaGreatNA
namespace Go.Proofs.YtklblkobegcljaaGreat
open Go.AM
set_option maxRecDepth 20000
set_option maxHeartbeats 6400000
theorem Ij(w:Wld)(hl:bY w<=2^30)(k:Int)(hy:(eU w k).2=false):ar Tryz.prog 8 [.agg w.row,.c (vi k)] (.tup [.agg Wld.zero.res,.c (.v (.bool false)) 1]):=by
 refine pci aw Tryz.func8 (λw0 base=>?_);have hle:=aS (bI hl).2.2.2;simp[Wld.row];intro b2 b4;refine ag.ro (hQ w aa) bS ?_;by_cases c1:bo w
 rotate_left
 ·simp[az c1,Wld.res,Wld.zero,Hub.zero]
 simp[c1];by_cases c3:0<=k/\k<=(w.tasks.length:Int)-1
 ·obtain⟨k,rfl⟩:∃n:Nat,k=n:=⟨k.toNat,aa⟩
  have hk:k<w.tasks.length:=aa;refine ag.ro (jV w aa c1 k hk) bS ?_
  have hno:¬(¬w.step=1000000/\iG w w.tasks[k]):=λc=>by
   have:=(jt c1 c.1 hk).2 c.2;rw[hy]at this;cases this
  simp[az hno,Wld.res,Wld.zero,Hub.zero]
 ·refine inl aw Tryz.func32 20000 (λw3 F3=>?_)
  simp;intro b5;by_cases c2:w.step=1000000
  ·simp[c2,Wld.res,Wld.zero,Hub.zero]
  simp[c2];refine ag.pure (bZ k 0 ((w.tasks.length:Int)-1)) (by simp;exact(ae _ aa).symm) ?_;simp[az c3,Wld.res,Wld.zero,Hub.zero]
def Js(w:Wld)(k:Int):Prop:=bo w/\¬w.step=1000000/\∃n:Nat,k=n/\OK w n
theorem AI(w:Wld)(hl:bY w<=2^30)(k:Int)(hns:¬Js w k):ar Tryz.prog 8 [.agg w.row,.c (vi k)] (.tup [.agg (eU w k).1.res,.c (.v (.bool (eU w k).2)) 1]):=by
 have c0:(eU w k).2=true->bo w/\¬w.step=1000000/\(0<=k/\k<=(w.tasks.length:Int)-1):=λhy=>aT λc=>DG
 cases hy:(eU w k).2 with
 | true =>
   obtain⟨h1,h2,h3⟩:=c0 hy;obtain⟨n,rfl⟩:∃n:Nat,k=n:=⟨k.toNat,aa⟩;exact J3 w hl n hy (λh=>hns ⟨h1,h2,n,rfl,h⟩)
 | false =>
   have e:(eU w k).1=Wld.zero:=by
    by_cases c:bo w/\¬w.step=1000000/\(0<=k/\k<=(w.tasks.length:Int)-1)
    ·obtain⟨n,rfl⟩:∃n:Nat,k=n:=⟨k.toNat,aa⟩
     have hk:n<w.tasks.length:=aa;rw[mq c.1 c.2.1 hk]at hy⊢;unfold kr at hy⊢
     repeat' split
     all_goals first|rfl|(rename_i h1 h2 h3;simp[h1,h2,h3]at hy)|(rename_i h1 h2;simp[h1,h2]at hy)|(rename_i h1 h2 h3;simp[h1,h2,h3]at hy)
    ·rw[nE c]
   rw[e];exact Ij w hl k hy
set_option maxHeartbeats 12800000
def mn(picks:List Int):Nat->Nat->Wld->Prop
 |0,_,_=>False
 |f+1,n,w=>¬cL w=0/\if cL (bk w (dZ picks n (cL w)))=0 then ∃k,(bn w)[dZ picks n (cL w)]? = some k/\Js w k else mn picks f (n+1) (bk w (dZ picks n (cL w)))
theorem IA{picks:List Int}{f n:Nat}{w:Wld}(h:¬cL w=0)(h2:¬cL (bk w (dZ picks n (cL w)))=0):mn picks (f+1) n w=mn picks f (n+1) (bk w (dZ picks n (cL w))):=by
 rw[mn,aq h2];simp[h]
theorem AO{picks:List Int}{f n:Nat}{w:Wld}(h:¬cL w=0)(h2:cL (bk w (dZ picks n (cL w)))=0):mn picks (f+1) n w=∃k,(bn w)[dZ picks n (cL w)]? = some k/\Js w k:=by
 rw[mn,an h2];simp[h]
theorem FY(w:Wld)(hw:bY w<=2^20)(picks:List Int)(hm:cL w=0) :
 ar Tryz.prog 14 [.agg w.row,.c (.s (picks.map aG))] (.tup [.agg w.res,.c (vi 0) 1]):=by
 refine pci aw Tryz.func14 (λwz base=>?_);have hwn:bY w<=2^30:=aa;have c3:=qo w hwn;have c4:=m6 w hwn;obtain⟨-,-,n3,n4⟩:=bI hwn;have hlt:=aS n4;have hlq:=aS n3
 have hal:(bn w).length<=w.tasks.length:=by
  exact sS
 have hsl:(ba w).length<=w.queues.length:=by
  exact sQ
 have wsum:=ae (((bn w).length:Int)+((ba w).length:Int)) aa;simp[Wld.row];intro b2 b4;refine ag.pure (iA w aa) bS ?_;simp[Wld.res];intro H1 H2 H3 H4 H5 b6
 refine aE eok (λ_:Unit=>True)
  (λ_=>⟨68,0,[(7,.v (.int .i64 0)),(6,.p 96 b6 0),(4,.p 64 b4 0),(1,.ro (picks.map aG))],
   (96,.vars b6 39 [.v (.bool w.h.shut),.sl 209 H1 5 0 w.h.docs.length,.sl 210 H2 6 0 w.h.subs.length,.v (.int .i64 w.h.last),.sl 212 H3 1 0 w.locks.length,.sl 213 H4 2 0 w.queues.length,.sl 214 H5 15 0 w.tasks.length,.v (.int .i64 w.step)])::(64,.vars b4 39 [.v (.bool false),.nil,.nil,.v (.int .i64 0),.nil,.nil,.nil,.v (.int .i64 0)]) ::
   (209,.rows H1 5 (w.h.docs.map Doc.row) true)::(210,.rows H2 6 (w.h.subs.map Sub.row) true)::(212,.rows H3 1 (w.locks.map aG) true)::(213,.rows H4 2 (w.queues.map Queue.row) true)::(214,.rows H5 15 (w.tasks.map Task.row) true)::[]⟩) (λ_=>0)
  () trivial ab (λ_ _=>Ent.refl ?_)
 simp;refine aY.quiet eok mix al ?_;simp;refine⟨_,_,c3,bS,?_⟩;simp;refine⟨_,_,c4,bS,?_⟩;have hz:((bn w).length:Int)+((ba w).length:Int)=0:=nX;simp[wsum];simp[hz]
inductive Md where
 |ro
 |pick (H1 H2 H3 H4 H5:Hd)
 |serve (H1 H2 H3 H4 H5:Hd)
theorem FZ(w0:Wld)(hw0:bY w0<=2^20)(picks:List Int)(_hpl:picks.length<=2^40)(_hp:∀p∈picks,gl p)(hns:¬mn picks 1000001 0 w0) :
 ar Tryz.prog 14 [.agg w0.row,.c (.s (picks.map aG))] (.tup [.agg (eZ w0 picks).1.res,.c (vi (eZ w0 picks).2) 1]):=by
 by_cases hm0:cL w0=0
 ·have e:eZ w0 picks=(w0,(0:Int)):=by unfold eZ;rw[kn hm0];rfl
  rw[e];exact FY w0 hw0 picks hm0
 obtain⟨wok0,wst0⟩:=l7 hm0;have hs0:=wok0.2.2.2.2.1;have ht:=pD hw0;refine pci aw Tryz.func14 (λwz base=>?_);simp[Wld.row];intro b2 b4;refine ag.ro (iA w0 aa) bS ?_;simp[Wld.res];intro b6
 refine aE eok (λx:Wld×Nat×Md=>rN x.1 x.2.1/\x.2.1<=1000000/\x.1.step=w0.step+x.2.1/\x.1.step<=1000000/\eZ w0 picks=mC picks (1000001-x.2.1) x.2.1 x.1/\(x.2.2=.ro/\¬cL x.1=0/\¬mn picks (1000001-x.2.1) x.2.1 x.1\/x.2.2≠.ro/\cL x.1=0))
  (λx=>match x.2.2 with
   | .ro => ⟨68, 0, [(7, .v (.int .i64 x.2.1)), (6, .p 96 b6 0), (4, .p 64 b4 0), (1, .ro (picks.map aG))],
     (96,.vars b6 39 [.v (.bool x.1.h.shut),.ro (x.1.h.docs.map Doc.row),.ro (x.1.h.subs.map Sub.row),.v (.int .i64 x.1.h.last),.ro (x.1.locks.map aG),.ro (x.1.queues.map Queue.row),.ro (x.1.tasks.map Task.row),.v (.int .i64 x.1.step)])::(64,.vars b4 39 [.v (.bool false),.nil,.nil,.v (.int .i64 0),.nil,.nil,.nil,.v (.int .i64 0)])::[]⟩
   | .pick H1 H2 H3 H4 H5 => ⟨68, 0, [(7, .v (.int .i64 x.2.1)), (6, .p 96 b6 0), (4, .p 64 b4 0), (1, .ro (picks.map aG))],
     (96,.vars b6 39 [.v (.bool x.1.h.shut),.sl 817 H1 5 0 x.1.h.docs.length,.sl 818 H2 6 0 x.1.h.subs.length,.v (.int .i64 x.1.h.last),.sl 820 H3 1 0 x.1.locks.length,.sl 821 H4 2 0 x.1.queues.length,.sl 822 H5 15 0 x.1.tasks.length,.v (.int .i64 x.1.step)])::(64,.vars b4 39 [.v (.bool false),.nil,.nil,.v (.int .i64 0),.nil,.nil,.nil,.v (.int .i64 0)])::(817,.rows H1 5 (x.1.h.docs.map Doc.row) true)::(818,.rows H2 6 (x.1.h.subs.map Sub.row) true)::(820,.rows H3 1 (x.1.locks.map aG) true)::(821,.rows H4 2 (x.1.queues.map Queue.row) true)::(822,.rows H5 15 (x.1.tasks.map Task.row) true)::[]⟩
   | .serve H1 H2 H3 H4 H5 => ⟨68, 0, [(7, .v (.int .i64 x.2.1)), (6, .p 96 b6 0), (4, .p 64 b4 0), (1, .ro (picks.map aG))],
     (96,.vars b6 39 [.v (.bool x.1.h.shut),.sl 1009 H1 5 0 x.1.h.docs.length,.sl 1010 H2 6 0 x.1.h.subs.length,.v (.int .i64 x.1.h.last),.sl 1012 H3 1 0 x.1.locks.length,.sl 1013 H4 2 0 x.1.queues.length,.sl 1014 H5 15 0 x.1.tasks.length,.v (.int .i64 x.1.step)])::(64,.vars b4 39 [.v (.bool false),.nil,.nil,.v (.int .i64 0),.nil,.nil,.nil,.v (.int .i64 0)])::(1009,.rows H1 5 (x.1.h.docs.map Doc.row) true)::(1010,.rows H2 6 (x.1.h.subs.map Sub.row) true)::(1012,.rows H3 1 (x.1.locks.map aG) true)::(1013,.rows H4 2 (x.1.queues.map Queue.row) true)::(1014,.rows H5 15 (x.1.tasks.map Task.row) true)::[]⟩) (λx=>1000001-x.2.1)
  (w0,0,.ro) ⟨ht,ab,ab,hs0.2,rfl,.inl ⟨rfl,hm0,hns⟩⟩ ab (λx hx=>Ent.refl ?_)
 obtain⟨w,n,md⟩:=x;obtain⟨x1,x2,x3,x4,x5,x6⟩:=hx;simp only at x1 x2 x3 x4 x5 x6;have hwn:=wW x1 aa;have c3:=qo w hwn;have c4:=m6 w hwn;obtain⟨-,-,n3,n4⟩:=bI hwn;have hlt:=aS n4;have hlq:=aS n3
 have hal:(bn w).length<=w.tasks.length:=by
  exact sS
 have hsl:(ba w).length<=w.queues.length:=by
  exact sQ
 have wsum:=ae (((bn w).length:Int)+((ba w).length:Int)) aa
 cases md with
 | pick H1 H2 H3 H4 H5 =>
   exact N9
 | serve H1 H2 H3 H4 H5 =>
   exact N9
 | ro =>
   obtain⟨hm,hsh⟩:¬cL w=0/\¬mn picks (1000001-n) n w:=by
    exact D8
   simp;refine aY.quiet eok mix al ?_;simp;refine⟨_,_,c3,bS,?_⟩;simp;refine⟨_,_,c4,bS,?_⟩;simp[wsum];have hz:¬((bn w).length:Int)+((ba w).length:Int)=0:=nX;obtain⟨wok,wst⟩:=l7 hm;have hn1:1000001-n=(1000001-(n+1))+1:=aa;rw[hn1,pF hm]at x5;rw[hn1]at hsh;have hgo:=λh2=>@IA picks (1000001-(n+1)) n w hm h2
   have hla:=λh2=>@AO picks (1000001-(n+1)) n w hm h2
   have hmz:(cL w:Int)=((bn w).length:Int)+((ba w).length:Int):=by unfold cL;omega
   have hpl:=nj picks n (show 0<cL w from aa);have yT:=pE x1 hm hpl;have ys:=m8 hm hpl;have wn:=ae ((n:Int)+1) aa;simp[hz];by_cases hpk:n<picks.length
   ·have e1:(Go.IntKind.i64.wrap (picks[n].tmod (((bn w).length:Int)+((ba w).length:Int))+(((bn w).length:Int)+((ba w).length:Int)))).tmod (((bn w).length:Int)+((ba w).length:Int))=((dZ picks n (cL w):Nat):Int):=by
     exact EX
    simp[hpk,e1,hz];generalize dZ picks n (cL w)=p at hpl yT ys x5 hgo hla;by_cases ha:p<(bn w).length
    ·simp[ha]
     obtain⟨k,hk,hke,hky⟩:=mc ha;have ey:bk w p=(eU w k).1:=pN;by_cases hmy:cL (bk w p)=0
     ·rw[hla hmy]at hsh
      have hc:=AI w hwn k (λh=>hsh ⟨k,by rw[aj ha,hke],h⟩);rw[hky,<-ey]at hc
      clear hgo hla
      generalize bk w p=y at yT ys x5 hc hmy;exact E5
     ·rw[hgo hmy]at hsh
      have hc:=lN w hwn k hky;rw[<-ey]at hc
      clear hgo hla
      generalize bk w p=y at yT ys x5 hc hmy hsh;exact LA
    have hs:p-(bn w).length<(ba w).length:=pM;have wsub:Go.IntKind.i64.wrap (((p:Nat):Int)-((bn w).length:Int))=((p-(bn w).length:Nat):Int):=by rw[ae _ aa];omega
    have ey:bk w p=(ia w (ba w)[p-(bn w).length]).1:=by unfold bk;rw[cw aa,aj hs]
    generalize p-(bn w).length=jj at hs wsub ey;have hc:=kF w hwn (ba w)[jj];rw[<-ey]at hc
    try simp only[nU]at wsub
    simp[ha];by_cases hmy:cL (bk w p)=0
    ·clear hgo hla
     generalize bk w p=y at yT ys x5 hc hmy;exact E7
    ·rw[hgo hmy]at hsh
     clear hgo hla
     generalize bk w p=y at yT ys x5 hc hmy hsh;exact LC
   have e1:dZ picks n (cL w)=0:=by unfold dZ;rw[cw aa]
   rw[e1]at hpl yT ys x5 hgo hla;simp[hpk];by_cases ha:0<(bn w).length
   ·simp[ha,hz]
    obtain⟨k,hk,hke,hky⟩:=mc ha;have ey:bk w 0=(eU w k).1:=pN;by_cases hmy:cL (bk w 0)=0
    ·rw[hla hmy]at hsh
     have hc:=AI w hwn k (λh=>hsh ⟨k,by rw[aj ha,hke],h⟩);rw[hky,<-ey]at hc
     clear hgo hla
     generalize bk w 0=y at yT ys x5 hc hmy;exact E5
    ·rw[hgo hmy]at hsh
     have hc:=lN w hwn k hky;rw[<-ey]at hc
     clear hgo hla
     generalize bk w 0=y at yT ys x5 hc hmy hsh;exact LA
   have hs:0-(bn w).length<(ba w).length:=pM;have wsub:Go.IntKind.i64.wrap ((0:Int)-((bn w).length:Int))=((0-(bn w).length:Nat):Int):=by rw[ae _ aa];omega
   have ey:bk w 0=(ia w (ba w)[0-(bn w).length]).1:=by unfold bk;rw[cw aa,aj hs]
   generalize 0-(bn w).length=jj at hs wsub ey;have hc:=kF w hwn (ba w)[jj];rw[<-ey]at hc
   try simp only[nU]at wsub
   simp[ha,hz];by_cases hmy:cL (bk w 0)=0
   ·clear hgo hla
    generalize bk w 0=y at yT ys x5 hc hmy;exact E7
   ·rw[hgo hmy]at hsh
    clear hgo hla
    generalize bk w 0=y at yT ys x5 hc hmy hsh;exact LC
def V3(x:Wld)(u:Value)(av:AV)(hN:AH):Prop:=∃i k s t,x.h.subs[i]? = some s/\x.tasks[k]? = some t/\SQ x u i k s t av hN
inductive Mh where
 |ro
 |sh (i k:Nat) (s:Sub) (t:Task) (b o C:Nat) (Ha Hb Hc Hs Hl Hq Ht:Hd)
def Mh.ok(w:Wld):Mh->Prop
 | .ro=>True
 | .sh i k s t b o C Ha Hb _ _ _ _ _=>w.h.subs[i]? = some s/\w.tasks[k]? = some t/\Two t.a.list.length s.r.list.length b o C Ha Hb
theorem F4(w0:Wld)(hw0:bY w0<=2^20)(picks:List Int)(_hpl:picks.length<=2^40)(_hp:∀p∈picks,gl p)(hns:mn picks 1000001 0 w0) :
 mI Tryz.prog 14 [.agg w0.row,.c (.s (picks.map aG))] (V3 (eZ w0 picks).1 (.int .i64 (eZ w0 picks).2)):=by
 have hm0:¬cL w0=0:=λh=>by rw[mn]at hns;exact hns.1 h
 obtain⟨wok0,wst0⟩:=l7 hm0;have hs0:=wok0.2.2.2.2.1;have ht:=pD hw0;refine mI.intro aw Tryz.func14 al rfl rfl rfl (ai rfl) 0 (λwz base=>?_);simp[Wld.row];intro b2 b4;refine ag.ro (iA w0 aa) bS ?_;simp[Wld.res];intro b6
 refine aE eok (λx:Wld×Nat×Mh=>rN x.1 x.2.1/\x.2.1<=1000000/\x.1.step=w0.step+x.2.1/\x.1.step<=1000000/\eZ w0 picks=mC picks (1000001-x.2.1) x.2.1 x.1/\(x.2.2=.ro/\¬cL x.1=0/\mn picks (1000001-x.2.1) x.2.1 x.1\/x.2.2≠.ro/\cL x.1=0)/\x.2.2.ok x.1)
  (λx=>match x.2.2 with
   | .ro => ⟨68, 0, [(7, .v (.int .i64 x.2.1)), (6, .p 96 b6 0), (4, .p 64 b4 0), (1, .ro (picks.map aG))],
     (96,.vars b6 39 [.v (.bool x.1.h.shut),.ro (x.1.h.docs.map Doc.row),.ro (x.1.h.subs.map Sub.row),.v (.int .i64 x.1.h.last),.ro (x.1.locks.map aG),.ro (x.1.queues.map Queue.row),.ro (x.1.tasks.map Task.row),.v (.int .i64 x.1.step)])::(64,.vars b4 39 [.v (.bool false),.nil,.nil,.v (.int .i64 0),.nil,.nil,.nil,.v (.int .i64 0)])::[]⟩
   | .sh i k s t b o C Ha Hb Hc Hs Hl Hq Ht => ⟨68, 0, [(7, .v (.int .i64 x.2.1)), (6, .p 96 b6 0), (4, .p 64 b4 0), (1, .ro (picks.map aG))],
     (96,.vars b6 39 [.v (.bool x.1.h.shut),.sl 10753 Hc 5 0 x.1.h.docs.length,.sl 10754 Hs 6 0 x.1.h.subs.length,.v (.int .i64 x.1.h.last),.sl 40324 Hl 1 0 x.1.locks.length,.sl 40325 Hq 2 0 x.1.queues.length,.sl 40326 Ht 15 0 x.1.tasks.length,.v (.int .i64 x.1.step)])::(64,.vars b4 39 [.v (.bool false),.nil,.nil,.v (.int .i64 0),.nil,.nil,.nil,.v (.int .i64 0)])::(10753,.rows Hc 5 (x.1.h.docs.map Doc.row) true)::(10754,.rows Hs 6 ((x.1.h.subs.map Sub.row).set i (iu Hb s)) true)::(40324,.rows Hl 1 (x.1.locks.map aG) true)::(40325,.rows Hq 2 (x.1.queues.map Queue.row) true)::(40326,.rows Ht 15 ((x.1.tasks.map Task.row).set k (eu Ha t)) true)::(80179,.rows (some (b,o,C)) 3 ((t.a.list++s.r.list).map Entry.row) true)::[]⟩) (λx=>1000001-x.2.1)
  (w0,0,.ro) ⟨ht,ab,ab,hs0.2,rfl,.inl ⟨rfl,hm0,hns⟩,trivial⟩ ab (λx hx=>Ent.refl ?_)
 obtain⟨w,n,md⟩:=x;obtain⟨x1,x2,x3,x4,x5,x6,x7⟩:=hx;simp only at x1 x2 x3 x4 x5 x6 x7;have hwn:=wW x1 aa;have c3:=qo w hwn;have c4:=m6 w hwn;obtain⟨-,-,n3,n4⟩:=bI hwn;have hlt:=aS n4;have hlq:=aS n3
 have hal:(bn w).length<=w.tasks.length:=by
  exact sS
 have hsl:(ba w).length<=w.queues.length:=by
  exact sQ
 have wsum:=ae (((bn w).length:Int)+((ba w).length:Int)) aa
 cases md with
 | sh i k s t b o C Ha Hb Hc Hs Hl Hq Ht =>
   have hm:cL w=0:=by rcases x6 with x6|x6;cases x6.1;exact x6.2
   rw[kn hm]at x5;rw[x5];obtain⟨hri,hrj,T⟩:=x7;have hz:((bn w).length:Int)+((ba w).length:Int)=0:=nX;simp;refine drw eok mix [0,2] [1,3,4,5] (.c 2 1 2 1 (.c 2 3 1 0 (.c 2 4 0 0 (.c 2 5 0 0 (.l 2 0) .s) .s) .s) .s) ?_;simp
   try intros
   refine lT eok c3 ⟨zX hri hrj T ab ab ab ab ab ab,trivial⟩ ?_;simp
   try intros
   refine lT eok c4 ⟨zX hri hrj T ab ab ab ab ab ab,trivial⟩ ?_;simp
   try intros
   simp[wsum];simp[hz];refine⟨_,⟨i,k,s,t,hri,hrj,b,o,C,Ha,Hb,Hc,Hs,Hl,Hq,Ht,T,rfl,rfl⟩,ab,?_⟩;simp
   rintro a x (⟨rfl,rfl⟩|⟨rfl,rfl⟩|⟨rfl,rfl⟩|⟨rfl,rfl⟩|⟨rfl,rfl⟩|⟨rfl,rfl⟩)<;>simp
 | ro =>
   obtain⟨hm,hsh⟩:¬cL w=0/\mn picks (1000001-n) n w:=by
    exact D8
   simp;refine aY.quiet eok mix al ?_;simp;refine⟨_,_,c3,bS,?_⟩;simp;refine⟨_,_,c4,bS,?_⟩;simp[wsum];have hz:¬((bn w).length:Int)+((ba w).length:Int)=0:=nX;obtain⟨wok,wst⟩:=l7 hm;have hn1:1000001-n=(1000001-(n+1))+1:=aa;rw[hn1,pF hm]at x5;rw[hn1]at hsh;have hgo:=λh2=>@IA picks (1000001-(n+1)) n w hm h2
   have hla:=λh2=>@AO picks (1000001-(n+1)) n w hm h2
   have hmz:(cL w:Int)=((bn w).length:Int)+((ba w).length:Int):=by unfold cL;omega
   have hpl:=nj picks n (show 0<cL w from aa);have yT:=pE x1 hm hpl;have ys:=m8 hm hpl;have wn:=ae ((n:Int)+1) aa;simp[hz];by_cases hpk:n<picks.length
   ·have e1:(Go.IntKind.i64.wrap (picks[n].tmod (((bn w).length:Int)+((ba w).length:Int))+(((bn w).length:Int)+((ba w).length:Int)))).tmod (((bn w).length:Int)+((ba w).length:Int))=((dZ picks n (cL w):Nat):Int):=by
     exact EX
    simp[hpk,e1,hz];generalize dZ picks n (cL w)=p at hpl yT ys x5 hgo hla;by_cases ha:p<(bn w).length
    ·simp[ha]
     obtain⟨k,hk,hke,hky⟩:=mc ha;have ey:bk w p=(eU w k).1:=pN;by_cases hmy:cL (bk w p)=0
     ·rw[hla hmy]at hsh
      obtain⟨k',hk1,sh1⟩:=hsh;rw[aj ha,hke]at hk1;have hkk:=fO hk1;subst hkk;obtain⟨c1,hst,k',hk2,hk',shd,p0⟩:=sh1;have hkk:k'=k:=aa;subst hkk;obtain⟨n',i,kk,s,hi,hn',c2,e,hss,c3',hne,hk0,hcut⟩:=Db c1 hst hk' rfl p0 shd;have hh:=AJ w aa k' c1 hst hk' rfl p0 shd hi hn' c2 e (fO ((aj hi).symm.trans hss)) c3' hne hk0;have hri:(kS w k' i kk s w.tasks[k']).h.subs[i]? = some (jE s kk):=by simp[kS,hi]
      have hrj:(kS w k' i kk s w.tasks[k']).tasks[k']? = some (gJ w.tasks[k'] w.step s kk):=by simp[kS,hk']
      rw[hcut]at ey;simp only at ey;rw[<-ey]at hh hri hrj;generalize jE s kk=s1 at hh hri;generalize gJ w.tasks[k'] w.step s kk=t1 at hh hrj
      clear hgo hla
      generalize bk w p=y at yT ys x5 hh hri hrj hmy;exact Ok
     ·rw[hgo hmy]at hsh
      have hc:=lN w hwn k hky;rw[<-ey]at hc
      clear hgo hla
      generalize bk w p=y at yT ys x5 hc hmy hsh;exact LB
    have hs:p-(bn w).length<(ba w).length:=pM;have wsub:Go.IntKind.i64.wrap (((p:Nat):Int)-((bn w).length:Int))=((p-(bn w).length:Nat):Int):=by rw[ae _ aa];omega
    have ey:bk w p=(ia w (ba w)[p-(bn w).length]).1:=by unfold bk;rw[cw aa,aj hs]
    by_cases hmy:cL (bk w p)=0
    ·exact MA
    generalize p-(bn w).length=jj at hs wsub ey;have hc:=kF w hwn (ba w)[jj];rw[<-ey]at hc
    try simp only[nU]at wsub
    simp[ha];rw[hgo hmy]at hsh
    clear hgo hla
    generalize bk w p=y at yT ys x5 hc hmy hsh;exact LD
   have e1:dZ picks n (cL w)=0:=by unfold dZ;rw[cw aa]
   rw[e1]at hpl yT ys x5 hgo hla;simp[hpk];by_cases ha:0<(bn w).length
   ·simp[ha,hz]
    obtain⟨k,hk,hke,hky⟩:=mc ha;have ey:bk w 0=(eU w k).1:=pN;by_cases hmy:cL (bk w 0)=0
    ·rw[hla hmy]at hsh
     obtain⟨k',hk1,sh1⟩:=hsh;rw[aj ha,hke]at hk1;have hkk:=fO hk1;subst hkk;obtain⟨c1,hst,k',hk2,hk',shd,p0⟩:=sh1;have hkk:k'=k:=aa;subst hkk;obtain⟨n',i,kk,s,hi,hn',c2,e,hss,c3',hne,hk0,hcut⟩:=Db c1 hst hk' rfl p0 shd;have hh:=AJ w aa k' c1 hst hk' rfl p0 shd hi hn' c2 e (fO ((aj hi).symm.trans hss)) c3' hne hk0;have hri:(kS w k' i kk s w.tasks[k']).h.subs[i]? = some (jE s kk):=by simp[kS,hi]
     have hrj:(kS w k' i kk s w.tasks[k']).tasks[k']? = some (gJ w.tasks[k'] w.step s kk):=by simp[kS,hk']
     rw[hcut]at ey;simp only at ey;rw[<-ey]at hh hri hrj;generalize jE s kk=s1 at hh hri;generalize gJ w.tasks[k'] w.step s kk=t1 at hh hrj
     clear hgo hla
     generalize bk w 0=y at yT ys x5 hh hri hrj hmy;exact Ok
    ·rw[hgo hmy]at hsh
     have hc:=lN w hwn k hky;rw[<-ey]at hc
     clear hgo hla
     generalize bk w 0=y at yT ys x5 hc hmy hsh;exact LB
   have hs:0-(bn w).length<(ba w).length:=pM;have wsub:Go.IntKind.i64.wrap ((0:Int)-((bn w).length:Int))=((0-(bn w).length:Nat):Int):=by rw[ae _ aa];omega
   have ey:bk w 0=(ia w (ba w)[0-(bn w).length]).1:=by unfold bk;rw[cw aa,aj hs]
   by_cases hmy:cL (bk w 0)=0
   ·exact MA
   generalize 0-(bn w).length=jj at hs wsub ey;have hc:=kF w hwn (ba w)[jj];rw[<-ey]at hc
   try simp only[nU]at wsub
   simp[ha,hz];rw[hgo hmy]at hsh
   clear hgo hla
   generalize bk w 0=y at yT ys x5 hc hmy hsh;exact LD
theorem Zl{r M q:Int}(_h0:0<M)(h1:r<0)(h2 : -M<r)(h3:(r+M).tmod M=q):r+M=q:=by
 rw[<-h3,fA aa,Int.emod_eq_of_lt aa aa]
theorem Zk{r M q:Int}(h0:0<M)(h1:0<=r)(h2:r<M)(h3:(r+M).tmod M=q):r=q:=by
 rw[<-h3,fA aa,Int.add_emod_right,Int.emod_eq_of_lt aa aa]
theorem Fl(w:Wld)(hw:bY w<=2^20)(picks:List Int)(hm:cL w=0) :
 ar Tryz.prog 12 [.agg w.row,.c (.s (picks.map aG))] (.tup [.agg w.res,.c (vi 0) 1]):=by
 refine pci aw Tryz.func12 (λwz base=>?_);have hwn:bY w<=2^30:=aa;have c2:=jT w hwn;have c3:=zW w hwn;have c4:=vn w hwn;obtain⟨-,-,n3,n4⟩:=bI hwn;have hlt:=aS n4;have hlq:=aS n3
 have hal:(bn w).length<=w.tasks.length:=by
  exact sS
 have hsl:(ba w).length<=w.queues.length:=by
  exact sQ
 have wsum:=ae (((bn w).length:Int)+((ba w).length:Int)) aa;simp[Wld.row];intro b2 b4;refine ag.pure (tc w aa) bS ?_;simp[Wld.res];intro H1 H2 H3 H4 H5 b6
 refine aE eok (λ_:Unit=>True)
  (λ_=>⟨71,0,[(7,.v (.int .i64 0)),(6,.p 96 b6 0),(4,.p 64 b4 0),(1,.ro (picks.map aG))],
   (96,.vars b6 39 [.v (.bool w.h.shut),.sl 209 H1 5 0 w.h.docs.length,.sl 210 H2 6 0 w.h.subs.length,.v (.int .i64 w.h.last),.sl 212 H3 1 0 w.locks.length,.sl 213 H4 2 0 w.queues.length,.sl 214 H5 15 0 w.tasks.length,.v (.int .i64 w.step)])::(64,.vars b4 39 [.v (.bool false),.nil,.nil,.v (.int .i64 0),.nil,.nil,.nil,.v (.int .i64 0)])::(209,.rows H1 5 (w.h.docs.map Doc.row) true)::(210,.rows H2 6 (w.h.subs.map Sub.row) true)::(212,.rows H3 1 (w.locks.map aG) true)::(213,.rows H4 2 (w.queues.map Queue.row) true)::(214,.rows H5 15 (w.tasks.map Task.row) true)::[]⟩) (λ_=>0)
  () trivial ab (λ_ _=>Ent.refl ?_)
 simp;refine ag.ro c2 bS ?_;by_cases wok:bo w
 rotate_left
 ·simp[az wok]
 simp[wok];refine ag.ro c3 bS ?_;simp;refine ag.ro c4 bS ?_;have hz:((bn w).length:Int)+((ba w).length:Int)=0:=nX;simp[wsum];simp[hz]
theorem Fm(w0:Wld)(hw0:bY w0<=2^20)(picks:List Int)(_hpl:picks.length<=2^40)(_hp:∀p∈picks,gl p) :
 ar Tryz.prog 12 [.agg w0.row,.c (.s (picks.map aG))] (.tup [.agg (eZ w0 picks).1.res,.c (vi (eZ w0 picks).2) 1]):=by
 by_cases hm0:cL w0=0
 ·have e:eZ w0 picks=(w0,(0:Int)):=by unfold eZ;rw[kn hm0];rfl
  rw[e];exact Fl w0 hw0 picks hm0
 obtain⟨wok0,wst0⟩:=l7 hm0;have hs0:=wok0.2.2.2.2.1;have ht:=pD hw0;refine pci aw Tryz.func12 (λwz base=>?_);simp[Wld.row];intro b2 b4;refine ag.ro (tc w0 aa) bS ?_;simp[Wld.res];intro b6
 refine aE eok (λx:Wld×Nat×Md=>rN x.1 x.2.1/\x.2.1<=1000000/\x.1.step=w0.step+x.2.1/\x.1.step<=1000000/\eZ w0 picks=mC picks (1000001-x.2.1) x.2.1 x.1/\(x.2.2=.ro/\¬cL x.1=0\/x.2.2≠.ro/\cL x.1=0))
  (λx=>match x.2.2 with
   | .ro => ⟨71, 0, [(7, .v (.int .i64 x.2.1)), (6, .p 96 b6 0), (4, .p 64 b4 0), (1, .ro (picks.map aG))],
     (96,.vars b6 39 [.v (.bool x.1.h.shut),.ro (x.1.h.docs.map Doc.row),.ro (x.1.h.subs.map Sub.row),.v (.int .i64 x.1.h.last),.ro (x.1.locks.map aG),.ro (x.1.queues.map Queue.row),.ro (x.1.tasks.map Task.row),.v (.int .i64 x.1.step)])::(64,.vars b4 39 [.v (.bool false),.nil,.nil,.v (.int .i64 0),.nil,.nil,.nil,.v (.int .i64 0)])::[]⟩
   | .pick H1 H2 H3 H4 H5 => ⟨71, 0, [(7, .v (.int .i64 x.2.1)), (6, .p 96 b6 0), (4, .p 64 b4 0), (1, .ro (picks.map aG))],
     (96,.vars b6 39 [.v (.bool x.1.h.shut),.sl 833 H1 5 0 x.1.h.docs.length,.sl 834 H2 6 0 x.1.h.subs.length,.v (.int .i64 x.1.h.last),.sl 836 H3 1 0 x.1.locks.length,.sl 837 H4 2 0 x.1.queues.length,.sl 838 H5 15 0 x.1.tasks.length,.v (.int .i64 x.1.step)])::(64,.vars b4 39 [.v (.bool false),.nil,.nil,.v (.int .i64 0),.nil,.nil,.nil,.v (.int .i64 0)])::(833,.rows H1 5 (x.1.h.docs.map Doc.row) true)::(834,.rows H2 6 (x.1.h.subs.map Sub.row) true)::(836,.rows H3 1 (x.1.locks.map aG) true)::(837,.rows H4 2 (x.1.queues.map Queue.row) true)::(838,.rows H5 15 (x.1.tasks.map Task.row) true)::[]⟩
   | .serve H1 H2 H3 H4 H5 => ⟨71, 0, [(7, .v (.int .i64 x.2.1)), (6, .p 96 b6 0), (4, .p 64 b4 0), (1, .ro (picks.map aG))],
     (96,.vars b6 39 [.v (.bool x.1.h.shut),.sl 1025 H1 5 0 x.1.h.docs.length,.sl 1026 H2 6 0 x.1.h.subs.length,.v (.int .i64 x.1.h.last),.sl 1028 H3 1 0 x.1.locks.length,.sl 1029 H4 2 0 x.1.queues.length,.sl 1030 H5 15 0 x.1.tasks.length,.v (.int .i64 x.1.step)])::(64,.vars b4 39 [.v (.bool false),.nil,.nil,.v (.int .i64 0),.nil,.nil,.nil,.v (.int .i64 0)])::(1025,.rows H1 5 (x.1.h.docs.map Doc.row) true)::(1026,.rows H2 6 (x.1.h.subs.map Sub.row) true)::(1028,.rows H3 1 (x.1.locks.map aG) true)::(1029,.rows H4 2 (x.1.queues.map Queue.row) true)::(1030,.rows H5 15 (x.1.tasks.map Task.row) true)::[]⟩) (λx=>1000001-x.2.1)
  (w0,0,.ro) ⟨ht,ab,ab,hs0.2,rfl,.inl ⟨rfl,hm0⟩⟩ ab (λx hx=>Ent.refl ?_)
 obtain⟨w,n,md⟩:=x;obtain⟨x1,x2,x3,x4,x5,x6⟩:=hx;simp only at x1 x2 x3 x4 x5 x6;have hwn:=wW x1 aa;have c2:=jT w hwn;have c3:=zW w hwn;have c4:=vn w hwn;obtain⟨-,-,n3,n4⟩:=bI hwn;have hlt:=aS n4;have hlq:=aS n3
 have hal:(bn w).length<=w.tasks.length:=by
  exact sS
 have hsl:(ba w).length<=w.queues.length:=by
  exact sQ
 have wsum:=ae (((bn w).length:Int)+((ba w).length:Int)) aa
 cases md with
 | pick H1 H2 H3 H4 H5 =>
   exact Oe
 | serve H1 H2 H3 H4 H5 =>
   exact Oe
 | ro =>
   have hm:¬cL w=0:=by
    exact D8
   obtain⟨wok,wst⟩:=l7 hm;simp;refine ag.ro c2 bS ?_;simp[wok];refine ag.ro c3 bS ?_;simp;refine ag.ro c4 bS ?_;simp[wsum];have hz:¬((bn w).length:Int)+((ba w).length:Int)=0:=nX;have hn1:1000001-n=(1000001-(n+1))+1:=aa;rw[hn1,pF hm]at x5;have hmz:(cL w:Int)=((bn w).length:Int)+((ba w).length:Int):=by unfold cL;omega
   have hpl:=nj picks n (show 0<cL w from aa);have yT:=pE x1 hm hpl;have ys:=m8 hm hpl;have wn:=ae ((n:Int)+1) aa;simp[hz];by_cases hpk:n<picks.length
   ·have hm0:(0:Int)<cL w:=by omega
    have e0:((dZ picks n (cL w):Nat):Int)=picks[n] % (cL w:Int):=by
     unfold dZ;rw[aj hpk];have h3:=Int.emod_nonneg picks[n] (show(cL w:Int)≠0 from aa);exact i9
    have h1:=Int.lt_tmod_of_pos picks[n] hm0;have h2:=Int.tmod_lt_of_pos picks[n] hm0;have h4:=Pe picks[n] hm0;rw[<-e0]at h4;have h5:=nj picks n (show 0<cL w from aa);rw[hmz]at h1 h2 h4;by_cases hneg:picks[n].tmod (((bn w).length:Int)+((ba w).length:Int))<0
    ·have e1:Go.IntKind.i64.wrap (picks[n].tmod (((bn w).length:Int)+((ba w).length:Int))+(((bn w).length:Int)+((ba w).length:Int)))=((dZ picks n (cL w):Nat):Int):=by
      rw[ae _ aa];exact Zl aa hneg aa h4
     simp[hpk,hneg,e1,hz];exact OG
    ·have e1:picks[n].tmod (((bn w).length:Int)+((ba w).length:Int))=((dZ picks n (cL w):Nat):Int):=by
      exact Zk aa aa aa h4
     simp[hpk,e1,hz];exact OG
   have e1:dZ picks n (cL w)=0:=by unfold dZ;rw[cw aa]
   rw[e1]at hpl yT ys x5;simp[hpk];by_cases ha:0<(bn w).length
   ·simp[ha,hz]
    obtain⟨k,hk,hke,hky⟩:=mc ha;have ey:bk w 0=(eU w k).1:=pN;have hc:=uv w hwn k;rw[hky,<-ey]at hc;generalize bk w 0=y at yT ys x5 hc;by_cases hmy:cL y=0
    ·skip
     exact E5
    ·skip
     refine drw eok mix [0,1,2,3,4] [5,6,7,8,9] (.c 5 5 17 14 (.c 5 6 0 14 (.c 5 7 0 14 (.c 5 8 0 14 (.c 5 9 14 0 (.l 5 0) .s) .s) .s) .s) .s) ?_;simp[ha,hke];exact Ox
   have hs:0-(bn w).length<(ba w).length:=pM;have wsub:Go.IntKind.i64.wrap ((0:Int)-((bn w).length:Int))=((0-(bn w).length:Nat):Int):=by rw[ae _ aa];omega
   have ey:bk w 0=(ia w (ba w)[0-(bn w).length]).1:=by unfold bk;rw[cw aa,aj hs]
   generalize 0-(bn w).length=jj at hs wsub ey;have hc:=xu w hwn (ba w)[jj];rw[<-ey]at hc;generalize bk w 0=y at yT ys x5 hc
   try simp only[nU]at wsub
   simp[ha,hz];by_cases hmy:cL y=0
   ·skip
    exact E7
   ·skip
    refine drw eok mix [0,1,2,3,4,5,6,7] [8,9,10,11,12] (.c 8 8 129 126 (.c 8 9 0 126 (.c 8 10 0 126 (.c 8 11 0 126 (.c 8 12 126 0 (.l 8 0) .s) .s) .s) .s) .s) ?_;simp[hs,wsub,vk];exact Ox
theorem OJ{R:Value->CD->Prop}{h:AH}{x:Wld}{i k:Nat}{s:Sub}{t:Task}(hi:x.h.subs[i]? = some s)(hk:x.tasks[k]? = some t){b o C:Nat}{Ha Hb Hc Hs Hl Hq Ht:Hd}(T:Two t.a.list.length s.r.list.length b o C Ha Hb){sh:Bool}{la sp:Int}{nd ns nl nq nt:Nat}
 (e:sh=x.h.shut/\nd=x.h.docs.length/\ns=x.h.subs.length/\la=x.h.last/\nl=x.locks.length/\nq=x.queues.length/\nt=x.tasks.length/\sp=x.step)
 (g1:h.get 10753=.rows Hc 5 (x.h.docs.map Doc.row) true) (g2:h.get 10754=.rows Hs 6 ((x.h.subs.map Sub.row).set i (iu Hb s)) true) (g3:h.get 40324=.rows Hl 1 (x.locks.map aG) true) (g4:h.get 40325=.rows Hq 2 (x.queues.map Queue.row) true)
 (g5:h.get 40326=.rows Ht 15 ((x.tasks.map Task.row).set k (eu Ha t)) true) (g6:h.get 80179=.rows (some (b,o,C)) 3 ((t.a.list++s.r.list).map Entry.row) true) :
 Px R h (.agg [.v (.bool sh),.sl 10753 Hc 5 0 nd,.sl 10754 Hs 6 0 ns,.v (.int .i64 la),.sl 40324 Hl 1 0 nl,.sl 40325 Hq 2 0 nq,.sl 40326 Ht 15 0 nt,.v (.int .i64 sp)]) (.agg x.row):=by
 obtain⟨rfl,rfl,rfl,rfl,rfl,rfl,rfl,rfl⟩:=e;exact zX hi hk T g1 g2 g3 g4 g5 g6
theorem vq(w:Wld)(_:w.fits)(n:bY w<=2^20)(l:List Int)(f:l.length<=9223372036854775807/\∀x∈l,gl x)(n1:l.length<=2^20):ar Tryz.prog 12 [.agg w.row,.c (.s (l.map aG))] (.tup [.agg (eZ w l).1.res,.c (vi (eZ w l).2) 1]):=Fm w n l aa f.2
theorem HU(a0:Wld)(f0:a0.fits)(a1:List Int)(f1:(a1.length<=9223372036854775807/\∀n∈a1,gl n))(hsh:mn a1 1000001 0 a0):ar Tryz.prog 4 [.agg a0.row,.c (.s (a1.map aG))] (.one (.c (.v (.bool true)) 1)):=by
 refine ar.introL aw Tryz.func4 al rfl rfl rfl (ai rfl) rfl (λw0 base us=>?_);simp[Wld.row];intro u0 u1 u2 u3 u4 u5;intro b2;by_cases hbig1:1048576<(a1.length:Int)
 ·simp[hbig1]
 have n1:a1.length<=2^20:=aa;simp[hbig1];refine ag.pure (Co a0 f0 (2^20) aa) uW ?_;by_cases k1:bY a0<=2^20
 rotate_left
 ·rw[fq k1];simp
 rw[dY k1];obtain⟨m1,hm1⟩:∃m,2^20-bY a0=m:=⟨_,rfl⟩;rw[hm1];have n0:bY a0<=2^20:=aa;simp;have hs:=vq a0 f0 n0 a1 f1 n1;have hb:=Dc a0 f0 n0 a1 f1 n1;have hh:=F4 a0 n0 a1 aa f1.2 hsh;have hok:=(l7 (w:=a0) (λh=>by rw[mn]at hsh;exact hsh.1 h)).1;have hnn:=F0 a0 0 aa (pD n0) hok.2.2.2.2.1.1 hok.2.2.2.2.1.2 a1 aa f1.2;generalize eZ a0 a1=r at hs hb hh hnn;obtain⟨r0,r1⟩:=r;simp only at hs hb hh hnn;have:=Wld.cntT_le a0;have:=Wld.cntT_le r0;refine ag.pure (kz a0 aa) uW ?_;simp[Wld.res];intro X1 X2 X3 X4 X5;refine ag.pure (gG a1 aa) (by simp[u5]) ?_;simp;intro X6;refine ag.pure hs bS ?_;simp[Wld.res];intro W1 W2 W3 W4 W5 b6;refine ag.pure (kz a0 aa) uW ?_
 simp[Wld.res];intro Y1 Y2 Y3 Y4 Y5 b8;refine ag.pure (gG a1 aa) (by simp[u5]) ?_;simp;intro Y6;refine mv hh bS ?_
 rintro _ _ ⟨i,k,s1,t1,hri,hrj,b,o,C,Ha,Hb,Hc,Hs,Hl,Hq,Ht,T,rfl,rfl⟩
 simp;intro b9;refine lT eok (kM r0 r0 aa) ⟨zX hri hrj T ab ab ab ab ab ab,⟨dw ab,dw ab,dw ab,dw ab,dw ab,dw ab,dw ab,dw ab,trivial⟩,trivial⟩ ?_;simp;refine wi eok mix al ?_;simp;refine⟨_,_,kz a0 aa,uW,?_⟩;simp[Wld.res];refine⟨_,_,kM a0 a0 aa,bS,?_⟩;simp;refine ag.pure (gG a1 aa) (by simp[u5]) ?_;simp
 try intros
 refine ag.pure (mu a1 a1 aa) ab ?_;simp;refine ag.mark (rB a0 1 aa aa aa) rfl (λ_ h=>h) ab ?_;obtain⟨m2,hm2⟩:∃c,1+((a0.cntT:Nat):Int)=c:=⟨_,rfl⟩;have zm2:¬m2<0:=aa;simp[Wld.markT,Wld.res,hm2];refine ag.mark (fh a1 m2 aa aa) rfl (λ_ h=>h) ab ?_;obtain⟨m4,hm4⟩:∃c,m2+((a1.length:Nat):Int)=c:=⟨_,rfl⟩;have zm4:¬m4<0:=aa;simp[hm4,zm4];refine lT eok (kM r0 r0 aa) ⟨zX hri hrj T ab ab ab ab ab ab,⟨dw ab,dw ab,dw ab,dw ab,dw ab,dw ab,dw ab,dw ab,trivial⟩,trivial⟩ ?_;simp
 obtain⟨hr,hhr⟩:∃hr:AH,hr=(160,.vars b9 39 [.v (.bool r0.h.shut),.sl 10753 Hc 5 0 r0.h.docs.length,.sl 10754 Hs 6 0 r0.h.subs.length,.v (.int .i64 r0.h.last),.sl 40324 Hl 1 0 r0.locks.length,.sl 40325 Hq 2 0 r0.queues.length,.sl 40326 Ht 15 0 r0.tasks.length,.v (.int .i64 r0.step)])::(96,.vars b6 39 [.v (.bool r0.h.shut),.sl 481 W1 5 0 r0.h.docs.length,.sl 482 W2 6 0 r0.h.subs.length,.v (.int .i64 r0.h.last),.sl 484 W3 1 0 r0.locks.length,.sl 485 W4 2 0 r0.queues.length,.sl 486 W5 15 0 r0.tasks.length,.v (.int .i64 r0.step)])::(32,.vars b2 30 [.v (.bool a0.h.shut),.cv (us 0 1) a0.h.docs.length,.cv (us 0 2) a0.h.subs.length,.v (.int .i64 a0.h.last),.cv (us 0 4) a0.locks.length,.cv (us 0 5) a0.queues.length,.cv (us 0 6) a0.tasks.length,.v (.int .i64 a0.step)]) ::
  (481,.rows W1 5 (r0.h.docs.map Doc.row) true)::(482,.rows W2 6 (r0.h.subs.map Sub.row) true)::(484,.rows W3 1 (r0.locks.map aG) true)::(485,.rows W4 2 (r0.queues.map Queue.row) true)::(486,.rows W5 15 (r0.tasks.map Task.row) true)::[]:=⟨_,rfl⟩
 have hlow:low hr:=by
  subst hhr;intro p hp;simp only[aX,List.not_mem_nil,or_false]at hp;rcases hp with rfl|rfl|rfl|rfl|rfl|rfl|rfl|rfl<;>exact⟨ai rfl,rfl⟩
 have hqr:qH hr=true:=by subst hhr;simp
 refine FG (hr:=hr) r0 hri hrj T (k:=1) aa aa aa ab hlow hqr ab (by subst hhr;simp) ab ab ab ab ab ab ?_;intro s2 t2 o6 h2i h2j l1 l2;have T2:Two t2.a.list.length s2.r.list.length b o C Ha Hb:=by rw[l1,l2];exact T
 obtain⟨m3,hm3⟩:∃c,1+((r0.cntT:Nat):Int)=c:=⟨_,rfl⟩;have zm3:¬m3<0:=aa;subst hhr;simp[hm3];refine lT eok (oB r0 1 aa aa aa) ⟨OJ h2i h2j T2 (by simp[Wld.markT,aK]) ab ab ab ab ab ab,dw ab,trivial⟩ ?_;simp[hm3,zm3];refine ag.pure (kz a0 aa) uW ?_;simp[Wld.res];intro Z1 Z2 Z3 Z4 Z5;refine ag.pure (gG a1 aa) (by simp[u5]) ?_;simp;intro Z6;refine ag.fz 1505 si ?_;simp;refine ag.fz 1506 si ?_;simp;refine ag.fz 1508 si ?_;simp;refine ag.fz 1509 si ?_;simp;refine ag.fz 1510 si ?_;simp;refine ag.fz 1536 si ?_;simp;refine gR hnn bS ?_
 rintro _ rfl
 simp[Wld.res];intro b14;refine lT eok (kM r0 r0 aa) ⟨⟨dw ab,dw ab,dw ab,dw ab,dw ab,dw ab,dw ab,dw ab,trivial⟩,⟨dw ab,dw ab,dw ab,dw ab,dw ab,dw ab,dw ab,dw ab,trivial⟩,trivial⟩ ?_;simp;refine lT eok (oB r0 1 aa aa aa) ⟨OJ h2i h2j T2 (by simp[Wld.markT,aK]) ab ab ab ab ab ab,dw ab,trivial⟩ ?_;simp[hm3,zm3]
end Go.Proofs.YtklblkobegcljaaGreat
