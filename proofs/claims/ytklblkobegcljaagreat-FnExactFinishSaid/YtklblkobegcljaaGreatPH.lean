import Derived.Test.YtklblkobegcljaaGreatPG
import Derived.Test.YtklblkobegcljaaGreatPE
import Derived.Test.YtklblkobegcljaaGreatNA
import Derived.Test.YtklblkobegcljaaGreatPF
namespace Go.Proofs.YtklblkobegcljaaGreat
open Go.AM
set_option maxRecDepth 20000
noncomputable def bK(name:ByteArray):List Queue->Nat
 | []=>0
 |x::l=>open Classical in if sLt x.doc name then bK name l+1 else 0
theorem l6(name:ByteArray):∀l:List Queue,bK name l<=l.length
 | []=>by simp[bK]
 | x :: l => by
   unfold bK
   split
   ·have:=l6 name l;simp;omega
   ·omega
theorem jU{name:ByteArray}:∀{l:List Queue}{k:Nat},k<=bK name l->∀hk:k<l.length,sLt l[k].doc name↔k<bK name l
 | x :: l, 0, _, _ => by
   unfold bK
   split
   ·rename_i h;simpa using h
   ·rename_i h;simpa using h
 | x :: l, k + 1, h, hk => by
   unfold bK at h⊢
   split at h
   ·rename_i hx
    rw[an hx];have:=jU (name:=name) (l:=l) (k:=k) aa va;simp only[yk];rw[this];omega
   ·omega
theorem ix(l:List Queue)(name:ByteArray):(∃k:Nat,∃h:k<l.length,dR l name=k/\l[k].doc=name)\/dR l name = -1:=by
 rcases jw (λq:Queue=>q.doc=name) l with⟨k,h,e,hp,-⟩|⟨e,-⟩
 ·exact .inl ⟨k,h,e,hp⟩
 ·exact .inr e
noncomputable def mH(w:Wld)(k:Nat)(t:Task):Wld:=⟨(fDo w.h t.c).1,w.locks,w.queues,w.tasks.set k ⟨t.c,3,t.inv,w.step,t.rs,(fDo w.h t.c).2⟩,w.step⟩
noncomputable def Uv(w:Wld)(k:Nat)(t:Task):Wld:=⟨w.h,w.locks,
 (match w.queues[(dR w.queues t.c.doc).toNat]? with
  |some q=>if 0<=dR w.queues t.c.doc then w.queues.set (dR w.queues t.c.doc).toNat ⟨q.doc,q.list++[(k:Int)]⟩else w.queues.take (bK t.c.doc w.queues)++⟨t.c.doc,[(k:Int)]⟩::w.queues.drop (bK t.c.doc w.queues)
  |none=>w.queues.take (bK t.c.doc w.queues)++⟨t.c.doc,[(k:Int)]⟩::w.queues.drop (bK t.c.doc w.queues)),
 w.tasks.set k ⟨t.c,2,t.inv,t.lin,t.rs,t.a⟩,w.step⟩
def ad5(w:Wld)(name:ByteArray):Prop:=∃i:Nat,∃h:i<w.queues.length,dR w.queues name=i/\w.queues[i].list.length=2
open Classical in
noncomputable def ma(w:Wld)(k:Nat)(t:Task):Wld:=
 if t.c.kind≠2\/w.h.shut=true\/bE w.h.docs t.c.doc<0 then mH ⟨w.h,w.locks.set (bX t.c.doc w.locks.length) (-1),w.queues,w.tasks,w.step⟩ k t
 else if ad5 w t.c.doc then⟨w.h,w.locks.set (bX t.c.doc w.locks.length) (-1),w.queues,w.tasks.set k ⟨t.c,3,t.inv,t.lin,t.rs,⟨11,0,[],[]⟩⟩,w.step⟩
 else Uv ⟨w.h,w.locks.set (bX t.c.doc w.locks.length) (-1),w.queues,w.tasks,w.step⟩ k t
def eg(w:Wld)(n:Int):Wld:=⟨w.h,w.locks,w.queues,w.tasks,n⟩
open Classical in
noncomputable def kr(w:Wld)(k:Nat)(t:Task):Wld×Bool:=
 if t.pc=0 then
  (if cW t.c.kind then
   (if w.locks[bX t.c.doc w.locks.length]? = some (-1)then(⟨w.h,w.locks.set (bX t.c.doc w.locks.length) (k:Int),w.queues,w.tasks.set k ⟨t.c,1,t.inv,t.lin,t.rs,t.a⟩,w.step+1⟩,true)else(Wld.zero,false))
   else(eg (mH w k t) (w.step+1),true))
 else if t.pc=1 then(eg (ma w k t) (w.step+1),true)
 else if t.pc=3 then(⟨w.h,w.locks,w.queues,w.tasks.set k ⟨t.c,4,t.inv,t.lin,w.step,t.a⟩,w.step+1⟩,true)
 else(Wld.zero,false)
open Classical in
noncomputable def eU(w:Wld)(k:Int):Wld×Bool:=
 if bo w/\¬w.step=1000000/\0<=k then(match w.tasks[k.toNat]? with|some t=>kr w k.toNat t|none=>(Wld.zero,false))else(Wld.zero,false)
theorem nE{w:Wld}{k:Int}(h:¬(bo w/\¬w.step=1000000/\(0<=k/\k<=(w.tasks.length:Int)-1))):eU w k=(Wld.zero,false):=by
 unfold eU
 split
 ·rename_i h1
  have hb:¬(0<=k/\k<=(w.tasks.length:Int)-1):=λhb=>h ⟨h1.1,h1.2.1,hb⟩
  have h2:=h1.2.2;have:w.tasks[k.toNat]? = none:=by rw[List.getElem?_eq_none_iff];omega
  rw[this]
 ·rfl
theorem mq{w:Wld}{k:Nat}(h:bo w)(hs:¬w.step=1000000)(hk:k<w.tasks.length):eU w k=kr w k w.tasks[k]:=by
 unfold eU;rw[an ⟨h,hs,aa⟩];simp[hk]
theorem kJ{w:Wld}{k:Nat}{t:Task}(h0:t.pc=0)(h1:cW t.c.kind)(h2:w.locks[bX t.c.doc w.locks.length]? = some (-1)) :
 kr w k t=(⟨w.h,w.locks.set (bX t.c.doc w.locks.length) (k:Int),w.queues,w.tasks.set k ⟨t.c,1,t.inv,t.lin,t.rs,t.a⟩,w.step+1⟩,true):=by unfold kr;rw[an h0,an h1,an h2]
theorem oF{w:Wld}{k:Nat}{t:Task}(h0:t.pc=0)(h1:cW t.c.kind)(h2:¬w.locks[bX t.c.doc w.locks.length]? = some (-1)):kr w k t=(Wld.zero,false):=by unfold kr;rw[an h0,an h1,aq h2]
theorem ju{w:Wld}{k:Nat}{t:Task}(h0:t.pc=0)(h1:¬cW t.c.kind):kr w k t=(eg (mH w k t) (w.step+1),true):=by unfold kr;rw[an h0,aq h1]
theorem iT{w:Wld}{k:Nat}{t:Task}(h0:t.pc=1):kr w k t=(eg (ma w k t) (w.step+1),true):=by unfold kr;rw[aq aa,an h0]
theorem kI{w:Wld}{k:Nat}{t:Task}(h0:t.pc=3):kr w k t=(⟨w.h,w.locks,w.queues,w.tasks.set k ⟨t.c,4,t.inv,t.lin,w.step,t.a⟩,w.step+1⟩,true):=by unfold kr;rw[aq aa,aq aa,an h0]
theorem oG{w:Wld}{k:Nat}{t:Task}(h0:¬t.pc=0)(h1:¬t.pc=1)(h3:¬t.pc=3):kr w k t=(Wld.zero,false):=by unfold kr;rw[aq h0,aq h1,aq h3]
theorem na{w:Wld}{k:Nat}{t:Task}(q:¬t.c.kind=2\/w.h.shut=true\/bE w.h.docs t.c.doc<0):ma w k t=mH ⟨w.h,w.locks.set (bX t.c.doc w.locks.length) (-1),w.queues,w.tasks,w.step⟩ k t:=by unfold ma;rw[an q]
theorem nc{w:Wld}{k:Nat}{t:Task}(q:¬(¬t.c.kind=2\/w.h.shut=true\/bE w.h.docs t.c.doc<0)){i:Nat}(hi:i<w.queues.length)(e:dR w.queues t.c.doc=i)(f:w.queues[i].list.length=2) :
 ma w k t=⟨w.h,w.locks.set (bX t.c.doc w.locks.length) (-1),w.queues,w.tasks.set k ⟨t.c,3,t.inv,t.lin,t.rs,⟨11,0,[],[]⟩⟩,w.step⟩:=by unfold ma;rw[aq q,an ⟨i,hi,e,f⟩]
theorem m9{w:Wld}{k:Nat}{t:Task}(q:¬(¬t.c.kind=2\/w.h.shut=true\/bE w.h.docs t.c.doc<0)){i:Nat}(hi:i<w.queues.length)(e:dR w.queues t.c.doc=i)(f:¬w.queues[i].list.length=2) :
 ma w k t=⟨w.h,w.locks.set (bX t.c.doc w.locks.length) (-1),w.queues.set i ⟨w.queues[i].doc,w.queues[i].list++[(k:Int)]⟩,w.tasks.set k ⟨t.c,2,t.inv,t.lin,t.rs,t.a⟩,w.step⟩:=by
 unfold ma;rw[aq q,aq]
 ·unfold Uv
  simp[e,hi]
 ·rintro⟨j,hj,e',f'⟩
  have:j=i:=aa;subst this;exact f f'
theorem oI{w:Wld}{k:Nat}{t:Task}(q:¬(¬t.c.kind=2\/w.h.shut=true\/bE w.h.docs t.c.doc<0))(e:dR w.queues t.c.doc = -1) :
 ma w k t=⟨w.h,w.locks.set (bX t.c.doc w.locks.length) (-1),w.queues.take (bK t.c.doc w.queues)++⟨t.c.doc,[(k:Int)]⟩::w.queues.drop (bK t.c.doc w.queues),w.tasks.set k ⟨t.c,2,t.inv,t.lin,t.rs,t.a⟩,w.step⟩:=by
 unfold ma;rw[aq q,aq]
 ·unfold Uv
  simp only[e]
  split
  ·rw[aq aa]
  ·rfl
 ·rintro⟨j,hj,e',f'⟩
  omega
def iG(w:Wld)(t:Task):Prop:=(t.pc=0/\cW t.c.kind->w.locks[bX t.c.doc w.locks.length]? = some (-1))/\¬t.pc=2/\¬t.pc=4
theorem jt{w:Wld}{k:Nat}(h:bo w)(hs:¬w.step=1000000)(hk:k<w.tasks.length):(eU w k).2=true↔iG w w.tasks[k]:=by
 rw[mq h hs hk];have hp:=(h.1 _ (ak hk)).2.2.1;generalize w.tasks[k]=t at hp;unfold iG;by_cases c0:t.pc=0
 ·by_cases c1:cW t.c.kind
  ·by_cases c2:w.locks[bX t.c.doc w.locks.length]? = some (-1)
   ·rw[kJ c0 c1 c2];simp[c0,c2]
   ·rw[oF c0 c1 c2];simp[c0,c1,c2]
  ·rw[ju c0 c1];simp[c0,c1]
 ·by_cases c1:t.pc=1
  ·rw[iT c1];simp[c1]
  ·by_cases c3:t.pc=3
   ·rw[kI c3];simp[c3]
   ·rw[oG c0 c1 c3]
    have:t.pc=2\/t.pc=4:=aa;rcases this with e|e<;>simp[e]
open Classical in
noncomputable def iF(w:Wld)(i:Nat):List Int:=((List.range i).filter λk:Nat=>decide (∃h:k<w.tasks.length,iG w w.tasks[k])).map (λk:Nat=>(k:Int))
open Classical in
noncomputable def bn(w:Wld):List Int:=if bo w/\¬w.step=1000000 then iF w w.tasks.length else []
theorem De{w:Wld}(h:bo w/\¬w.step=1000000):bn w=iF w w.tasks.length:=by unfold bn;rw[an h]
theorem vW{w:Wld}(h:¬(bo w/\¬w.step=1000000)):bn w=[]:=by unfold bn;rw[aq h]
theorem GD(w:Wld):iF w 0=[]:=by simp[iF]
theorem IV{w:Wld}{i:Nat}(h:i<w.tasks.length)(ha:iG w w.tasks[i]):iF w (i+1)=iF w i++[(i:Int)]:=by
 classical
 unfold iF;rw[List.range_succ,List.filter_append,fR];have:decide (∃h:i<w.tasks.length,iG w w.tasks[i])=true:=decide_eq_true ⟨h,ha⟩;simp[this]
theorem Kz{w:Wld}{i:Nat}(h:i<w.tasks.length)(ha:¬iG w w.tasks[i]):iF w (i+1)=iF w i:=by
 classical
 unfold iF;rw[List.range_succ,List.filter_append,fR];have:decide (∃h:i<w.tasks.length,iG w w.tasks[i])=false:=decide_eq_false λhb=>ha hb.2
 simp[this]
theorem IW(w:Wld)(i:Nat):(iF w i).length<=i:=by
 unfold iF;rw[qX];exact dP (zD _ _) ab
open Classical in
noncomputable def lj(w:Wld)(i:Nat):List Int:=if bo w/\¬w.step=1000000 then iF w i else []
theorem An(w:Wld):lj w 0=[]:=by unfold lj;split<;>simp[GD]
theorem CM(w:Wld):lj w w.tasks.length=bn w:=(rfl)
theorem CJ{w:Wld}{i:Nat}(h:i<w.tasks.length)(ha:(eU w i).2=true):lj w (i+1)=lj w i++[(i:Int)]:=by
 by_cases c:bo w/\¬w.step=1000000
 ·unfold lj
  rw[an c,an c];exact IV h ((jt c.1 c.2 h).1 ha)
 ·rw[nE (λh=>c ⟨h.1,h.2.1⟩)]at ha
  cases ha
theorem Hz{w:Wld}{i:Nat}(h:i<w.tasks.length)(ha:(eU w i).2=false):lj w (i+1)=lj w i:=by
 unfold lj
 split
 ·rename_i c
  exact Kz h (λhb=>by rw[(jt c.1 c.2 h).2 hb]at ha;cases ha)
 ·rfl
theorem CK(w:Wld)(i:Nat):(lj w i).length<=i:=by
 unfold lj
 split
 ·exact IW w i
 ·simp
set_option maxHeartbeats 3200000
set_option maxHeartbeats 6400000
theorem AL{d:Doc}(h:bV d):(fe d).length<=200:=by
 have h9:=(re h (rev:=aD d) (by have:=dt h;omega) (Int.le_refl _)).2.2.1.1;unfold fe;exact h9
theorem s9{α:Type}{f:α->Nat}(a:α)(l:List α):nL f (a::l)=nL f l+f a+1:=by
 simp only[nL,cK,cI];omega
theorem Av{α:Type}{f:α->Nat}:nL f ([]:List α)=0:=(rfl)
theorem SW{r:Ring}(h:cF r):dh r<=2^21:=by
 obtain⟨h1,h2,h3,h4,-⟩:=h;have hb:nL aZ r.list<=r.list.length*(2^18+1):=Aw (λe he=>FB (h1 e he).2.2.1);have hc:=ao (2^18+1) (show r.list.length<=6 from aa);unfold dh;omega
theorem OI{h:Hub}(c:bJ h){s:Sub}(hs:s∈h.subs):dC s<=2^22:=by
 obtain⟨i,hi,rfl⟩:=eO hs;obtain⟨-,h2,-,k,hk,e,-⟩:=c.2.2.2.2 i hi;have h3:=SW h2
 have h4:h.subs[i].doc.size<=8:=by
  rcases fo h.docs h.subs[i].doc with⟨j,hj,e',hn⟩|e'
  ·rw[<-hn];exact(jd c hj).1.1.2
  ·omega
 unfold dC;omega
theorem ke{h:Hub}(c:bJ h):dk h<=2^27/\nL cN h.docs<=2^26/\nL dC h.subs<=2^25:=by
 have h1:nL cN h.docs<=h.docs.length*(2^23+1):=Aw (λd hd=>by
  obtain⟨i,hi,rfl⟩:=eO hd;exact vZ (jd c hi))
 have h2:nL dC h.subs<=h.subs.length*(2^22+1):=Aw (λs hs=>OI c hs);have h3:=ao (2^23+1) c.1;have h4:=ao (2^22+1) c.2.1;unfold dk;omega
theorem pA:dk Hub.zero=0:=(rfl)
theorem Km(h:Hub)(name:ByteArray)(t:List Int):dk (dM h name t).1<=2^28:=by
 unfold dM
 split
 ·rename_i c
  have h1:=ke c.1;have h2:=vZ c.2
  repeat' split
  ·exact l0
  ·exact l0
  ·exact l0
  ·have h3:nL cN (uI (ib name t) h.docs)=nL cN h.docs+cN (ib name t)+1:=by
    rw[tp,iS,s9];have h4:=iS (f:=cN) (h.docs.take (fV (ib name t).name h.docs)) (h.docs.drop (fV (ib name t).name h.docs));rw[dV]at h4;omega
   unfold dk;exact i9
 ·exact l0
theorem PH(name:ByteArray)(e:Entry)(s:Sub):dC (gH name e s)<=dC s+aZ e+1:=by
 unfold gH
 split
 ·have:=IE s.r e
  unfold dC;exact i9
 ·omega
theorem Ip{h:Hub}(c:bJ h)(name:ByteArray)(k:Nat)(d0:Doc){d:Doc}(hd:cN d<=2^24):dk (gE h name k d0 d)<=2^28:=by
 have h1:=ke c;have h2:=Au (f:=cN) h.docs k d;unfold gE
 have h3:∀e,d.list.getLast? = some e->nL dC (h.subs.map (gH name e))<=6*(20971521+1):=by
  intro e he;have h5:aZ e<=2^24:=dP (gA (eB hd).1 (BF he)) (aH _)
  have h4:nL dC (h.subs.map (gH name e))<=(h.subs.map (gH name e)).length*(20971521+1):=Aw (λs hs=>by
   rw[cE]at hs;obtain⟨s0,hs0,rfl⟩:=hs;have h6:=PH name e s0;have h7:=OI c hs0;omega)
  rw[qX]at h4;exact dP h4 (ao _ c.2.1)
 unfold dk;simp only
 split
 ·split
  ·rename_i e he
   have:=h3 e he;omega
  ·omega
 ·omega
theorem Gj(h:Hub)(name:ByteArray)(client seq base:Int)(o:List Part):dk (cu h name client seq base o).1<=2^28:=by
 unfold cu
 split
 ·rename_i c
  split
  ·exact l0
  ·split
   ·rename_i d0 hd0
    have hd:bV d0:=by
     obtain⟨hi,rfl⟩:=au.1 hd0;exact jd c hi
    repeat' split
    ·exact Ip c _ _ _ (wZ hd)
    ·exact l0
    ·exact l0
   ·exact l0
 ·exact l0
theorem yy(h:Hub)(name:ByteArray)(room:Int):dk (bC h name room).1<=2^28:=by
 unfold bC
 split
 ·rename_i c
  have h1:=ke c.1
  repeat' split
  all_goals first|(rw[pA];omega)|skip
  rename_i hi _
  have h3:name.size<=8:=by
   rcases fo h.docs name with⟨j,hj,e',hn⟩|e'
   ·rw[<-hn];exact(jd c.1 hj).1.1.2
   ·omega
  unfold dk;simp only[iS,s9,Av,dC,AT];omega
 ·exact l0
theorem Kl(h:Hub)(id n:Int):dk (dr h id n).1<=2^28/\nL aZ (dr h id n).2.1<=2^24:=by
 unfold dr
 split
 ·rename_i c
  have h1:=ke c.1
  split
  ·rename_i s hs
   have hm:=aO hs;have h2:=OI c.1 hm;have h3:=IF s.r n
   repeat' split
   ·have h4:=Au (f:=dC) h.subs (fJ h.subs id).toNat ⟨s.id,s.doc,(cG s.r n).1⟩
    have h5:dC ⟨s.id,s.doc,(cG s.r n).1⟩=s.doc.size+dh (cG s.r n).1:=rfl;have h6:dC s=s.doc.size+dh s.r:=rfl;unfold dk;exact i9
   ·exact y7
   ·exact y7
  ·exact y7
 ·exact y7
theorem Gk(h:Hub)(id:Int):dk (bU h id).1<=2^28/\(bU h id).2.1.length<=200:=by
 unfold bU
 split
 ·rename_i c
  have h1:=ke c
  split
  ·rename_i s hs
   have hm:=aO hs;have h2:=OI c hm
   split
   ·split
    ·rename_i d hd
     obtain⟨hi,rfl⟩:=au.1 hd;have h3:=AL (jd c hi);have h4:=Au (f:=dC) h.subs (fJ h.subs id).toNat ⟨s.id,s.doc,(di s.r (aD h.docs[(bE h.docs s.doc).toNat])).1⟩
     have h5:dh (di s.r (aD h.docs[(bE h.docs s.doc).toNat])).1=0:=by
      unfold di
      split
      ·exact AT _ _
      ·rfl
     refine⟨?_,h3⟩;unfold dk;simp only;have h7:dC ⟨s.id,s.doc,(di s.r (aD h.docs[(bE h.docs s.doc).toNat])).1⟩=s.doc.size+dh (di s.r (aD h.docs[(bE h.docs s.doc).toNat])).1:=rfl;have h6:dC s=s.doc.size+dh s.r:=rfl;omega
    ·exact y8
   ·exact y8
  ·exact y8
 ·exact y8
theorem Kk(h:Hub):dk (eG h).1<=2^28:=by
 unfold eG
 repeat' split
 all_goals first|(rw[pA];omega)|skip
 rename_i c _
 have:=(ke c).1;unfold dk at this⊢;exact i9
theorem Gx(x:Int):cH (eV x)=0:=(rfl)
theorem Xg{h:Hub}(c:bJ h)(x:Call):cH (oH h x)<=2^24:=by
 unfold oH
 repeat' split
 all_goals first|(rw[Gx];omega)|skip
 ·rename_i d hd _ _
  obtain⟨hi,rfl⟩:=au.1 hd;have h3:=AL (jd c hi);unfold cH;simp only[Av];omega
 ·rename_i d hd _ _
  obtain⟨hi,rfl⟩:=au.1 hd;have h3:=(eB (vZ (jd c hi))).1;generalize h.docs[(bE h.docs x.doc).toNat]=d at h3;unfold cH;simp only[iN,cQ];unfold lA
  repeat' split
  all_goals first|(simp only[Av];omega)|skip
  have h4:=iS (f:=aZ) (d.list.take (x.n-d.fr).toNat) (d.list.drop (x.n-d.fr).toNat);rw[dV]at h4;exact i9
theorem ad9(h:Hub)(c:Call):(dk (fDo h c).1<=dk h\/dk (fDo h c).1<=2^28)/\cH (fDo h c).2<=2^24:=by
 have hz:∀x y:Int,cH ⟨x,y,[],[]⟩=0:=λ_ _=>rfl
 unfold fDo
 split
 ·rename_i ok
  have h1:=Km h c.doc c.text;have h2:=Gj h c.doc c.client c.seq c.n c.o;have h3:=yy h c.doc c.n;have h4:=Kl h c.client c.n;have h5:=Gk h c.client;have h6:=Kk h;have h7:=Xg ok.1 c
  repeat' split
  all_goals simp only[Gx,hz]
  all_goals first|omega|skip
  ·refine⟨.inr h4.1,?_⟩
   unfold cH;simp only[iN];omega
  ·refine⟨.inr h5.1,?_⟩
   unfold cH;simp only[Av];omega
 ·simp only[Gx];omega
theorem oR{l:List Task}{k:Nat}{row:List CD}(h:row.length=15):∀r∈(l.map Task.row).set k row,r.length=15:=by
 exact EI
theorem OO{l:List Int}{k:Nat}{row:List CD}(h:row.length=1):∀r∈(l.map aG).set k row,r.length=1:=by
 exact EI
theorem j9{α:Type}{f:α->List CD}{l:List α}{k:Nat}{t:α}(hk:k<l.length)(ht:l[k]=t)(g:List CD->List CD):(l.map f).modify k g=(l.map f).set k (g (f t)):=by
 refine eA ab (λj h1 h2=>?_);simp only[List.getElem_modify,pg,jz]
 split
 ·rename_i e;subst e;rw[ht]
 ·rfl
theorem SV{l:List Queue}{k:Nat}{row:List CD}(h:row.length=2):∀r∈(l.map Queue.row).set k row,r.length=2:=by
 exact EI
theorem Fu{l:List Queue}{r:List CD}(h:r∈l.map Queue.row):r.length=2:=by
 rw[cE]at h;obtain⟨x,-,rfl⟩:=h;rfl
theorem Ti(d:CD):AV.one (toAV d)=true:=by cases d<;>rfl
def S7(l:List Queue)(qr:List (List CD)):Prop:=qr.length=l.length/\∀j,∀h:j<l.length,∃d,qr[j]? = some [.v (.string l[j].doc),d]
theorem s6(l:List Queue):S7 l (l.map Queue.row):=⟨ab,λj h=>⟨.s (l[j].list.map aG),by simp[h,Queue.row]⟩⟩
theorem CE{l:List Queue}{i:Nat}(hi:i<l.length)(d:CD):S7 l ((l.map Queue.row).set i [.v (.string l[i].doc),d]):=by
 refine⟨ab,λj h=>?_⟩;by_cases e:i=j
 ·subst e;exact⟨d,by simp[h]⟩
 ·exact⟨.s (l[j].list.map aG),by simp[h,Queue.row,e]⟩
theorem kE(ds ss ls ts:List (List CD))(sh:Bool)(last step:Int){qr:List (List CD)}{l:List Queue}(hq:S7 l qr)(hle:l.length<=2^40)(name:ByteArray) :
 ar Tryz.prog 69 [.agg [.v (.bool sh),.s ds,.s ss,.v (.int .i64 last),.s ls,.s qr,.s ts,.v (.int .i64 step)],.c (.v (.string name))] (.one (.c (vi (dR l name)) 1)):=by
 refine pci aw Tryz.func69 (λw0 base=>?_);obtain⟨hq1,hq2⟩:=hq;simp[hq1];intro b2;refine aV.intro eok (λi:Nat=>i<=l.length/\∀j,j<i->∀hj:j<l.length,¬l[j].doc=name) (λi=>⟨21,0,[(10,.v (.int .i64 i)),(9,.v (.int .i64 l.length)),(8,.ro qr),(1,.v (.string name))],[]⟩) (λi=>l.length-i) 0 ab ab (λi hi=>?_);by_cases hlt:i<l.length
 ·obtain⟨d,hd⟩:=hq2 i hlt
  obtain⟨hd1,hd2⟩:=au.1 hd;simp[hlt,hq1,hd2,Ti];intro b;by_cases c:l[i].doc=name
  ·have e:dR l name=i:=vT hlt c hi.2
   simp[c,e]
  ·simp[c]
   exact⟨i+1,⟨aa,λj hj hjl=>by
    by_cases hji:j=i
    ·subst hji;exact c
    ·exact hi.2 j aa hjl⟩,aa,aR aa⟩
 ·have e:dR l name = -1:=pG (λj hj=>hi.2 j aa hj)
  simp[hlt,e]
theorem uv(w:Wld)(hl:bY w<=2^30)(k:Int):ar Tryz.prog 6 [.agg w.row,.c (vi k)] (.tup [.agg (eU w k).1.res,.c (.v (.bool (eU w k).2)) 1]):=by
 refine ar.introL aw Tryz.func6 al rfl rfl rfl (ai rfl) rfl (λw0 base us hrd=>?_);have hno:=@nE w k;have hat:=@mq w;have hwo:=jT w aa;have hcp:=tc w aa;obtain⟨nh,n2,n3,n4⟩:=bI hl;have hle:=aS n4;have hlq:=aS n3;simp[Wld.row]at hrd;obtain⟨r1,r2,r3,r4,r5⟩:=hrd;simp[Wld.row];intro b2 b4;refine ag.pure hwo pO ?_;by_cases c1:bo w
 rotate_left
 ·exact Ed
 have hhb:=(ke c1.2.1).1;simp[c1];by_cases c2:w.step=1000000
 ·exact Ea
 simp[c2];refine ag.pure (cS k 0 ((w.tasks.length:Int)-1)) (by simp;exact(ae _ aa).symm) ?_;by_cases c3:0<=k/\k<=(w.tasks.length:Int)-1
 rotate_left
 ·simp[az c3,hno (λh=>c3 h.2.2),Wld.res,Wld.zero,Hub.zero]
 obtain⟨k,rfl⟩:∃n:Nat,k=n:=⟨k.toNat,aa⟩;have hk:k<w.tasks.length:=aa;rw[hat c1 c2 hk];simp[c3];refine ag.pure hcp pO ?_;have htk:=(c1.1 _ (ak hk));obtain⟨t,ht⟩:∃t,w.tasks[k]=t:=⟨_,rfl⟩;rw[ht]at htk⊢;have hpc:=htk.2.2.1;have hm:=λg=>j9 (f:=Task.row) hk ht g
 have ew:Go.IntKind.i64.wrap (w.step+1)=w.step+1:=ae _ so;have hdsz:=htk.1.2.1;have hdo:=SO w.h aa t.c sm;have hs1:=(jF t.c.doc c1.2.2.1.1);simp[Wld.res,hk,ht,Task.row];intro H1 H2 H3 H4 H5 b6;by_cases p0:t.pc=0
 ·simp[p0,hk,ht,Task.row]
  refine ag.pure (rf t.c.kind) ab ?_;by_cases d:cW t.c.kind
  rotate_left
  ·rw[ju p0 d]
   simp[az d];generalize hR:fDo w.h t.c=R at hdo;obtain⟨h',a'⟩:=R;refine dI aw Tryz.func25 al rfl rfl rfl (ai rfl) 20000 rfl ab ?_;refine dS (λx:(Hd×Hd×Hd×Hd)×Nat×Nat=>[(4,.p 20064 x.2.1 0),(5,.p 20080 x.2.2 0)]) (λx=>[(20064,.vars x.2.1 35 [.v (.bool h'.shut),.sl 20305 x.1.1 5 0 h'.docs.length,.sl 20306 x.1.2.1 6 0 h'.subs.length,.v (.int .i64 h'.last)]),(20080,.vars x.2.2 64 [.v (.int .i64 a'.code),.v (.int .i64 a'.rev),.sl 20310 x.1.2.2.1 1 0 a'.text.length,.sl 20311 x.1.2.2.2 3 0 a'.list.length]),(20305,.rows x.1.1 5 (h'.docs.map Doc.row) true),(20306,.rows x.1.2.1 6 (h'.subs.map Sub.row) true),(20310,.rows x.1.2.2.1 1 (a'.text.map aG) true),(20311,.rows x.1.2.2.2 3 (a'.list.map Entry.row) true)]) [0,1] ?_ ?_
   ·exact zr
   rintro⟨⟨K1,K2,K3,K4⟩,e1,e2⟩
   simp;refine drw eok mix [0,1,2,3,4,5,6,7] [8] (.c 8 8 253 2 (.l 8 2) .s) ?_;simp[hk,Task.row,hm]
   try intros
   refine drw eok mix [0,1,2,3,4,5,6,7,8,9,10] [11] (.c 11 11 2045 2 (.l 11 2) .s) ?_;simp[hk,bf]
   try intros
   simp[ew,eg,mH,hR,Task.row];exact λr hr=>oR rfl r hr
  simp[d];refine drw eok mix [0,1,2,3,4,5,6,7] [8,9] (.c 8 8 9 246 (.c 8 9 246 0 (.l 8 0) .s) .s) ?_;simp[hk,ht,Task.row]
  try intros
  refine ag.pure (mV t.c.doc aa w.locks.length aa aa) ab ?_;simp
  try intros
  have hs2:=hs1.2;simp[hs2];by_cases f:w.locks[bX t.c.doc w.locks.length] = -1
  rotate_left
  ·rw[oF p0 d (by rw[aj hs2];simpa using f)]
   simp[f,Wld.zero,Hub.zero]
  rw[kJ p0 d (by rw[aj hs2];simpa using f)];simp[f,hs2,hm,hk,Task.row,ew];exact Ec
 by_cases p1:t.pc=1
 ·rw[iT p1]
  simp[p1];refine dI aw Tryz.func27 al rfl rfl rfl (ai rfl) 30000 rfl ab ?_;have hs2:=hs1.2;simp[hk];refine drw eok mix [0,1,2,3,4,5,6,7,8,9,10,11,12,13] [14,15,16] (.c 14 14 33 16350 (.c 14 15 16350 0 (.c 14 16 0 0 (.l 14 0) .s) .s) .s) ?_;simp[hk,ht,Task.row]
  try intros
  refine ag.pure (mV t.c.doc aa w.locks.length aa aa) ab ?_;simp
  try intros
  simp[hs2];have hdoc:=fY w.h aa t.c.doc;obtain⟨q0,hq0⟩:∃q:Prop,q=(¬t.c.kind=2\/w.h.shut=true\/bE w.h.docs t.c.doc<0):=⟨_,rfl⟩;refine dS (λ_:Unit=>[(53,.v (.bool (dc q0)))]) (λ_=>[]) [0,1,4] ?_ ?_
  ·exact mS
  intro _;by_cases q:q0
  ·rw[na sk]
   simp[q];generalize hR:fDo w.h t.c=R at hdo;obtain⟨h',a'⟩:=R;refine dI aw Tryz.func25 al rfl rfl rfl (ai rfl) 40000 rfl ab ?_;refine dS (λx:(Hd×Hd×Hd×Hd)×Nat×Nat=>[(4,.p 40064 x.2.1 0),(5,.p 40080 x.2.2 0)]) (λx=>[(40064,.vars x.2.1 35 [.v (.bool h'.shut),.sl 40305 x.1.1 5 0 h'.docs.length,.sl 40306 x.1.2.1 6 0 h'.subs.length,.v (.int .i64 h'.last)]),(40080,.vars x.2.2 64 [.v (.int .i64 a'.code),.v (.int .i64 a'.rev),.sl 40310 x.1.2.2.1 1 0 a'.text.length,.sl 40311 x.1.2.2.2 3 0 a'.list.length]),(40305,.rows x.1.1 5 (h'.docs.map Doc.row) true),(40306,.rows x.1.2.1 6 (h'.subs.map Sub.row) true),(40310,.rows x.1.2.2.1 1 (a'.text.map aG) true),(40311,.rows x.1.2.2.2 3 (a'.list.map Entry.row) true)]) [0,1] ?_ ?_
   ·exact zr
   rintro⟨⟨K1,K2,K3,K4⟩,e1,e2⟩
   simp;refine drw eok mix [0,1,2,3,4,5,6,7] [8] (.c 8 8 253 2 (.l 8 2) .s) ?_;simp[hk,Task.row,hm]
   try intros
   refine drw eok mix [0,1,2,3,4,5,6,7,8,9,10] [11] (.c 11 11 2045 2 (.l 11 2) .s) ?_;simp[hk,bf]
   try intros
   simp[ew,eg,mH,hR,Task.row];exact Ec
  have q':¬(¬t.c.kind=2\/w.h.shut=true\/bE w.h.docs t.c.doc<0):=sk;have hi1:∀x:Int,aG x=[CD.v (.int .i64 x)]:=λ_=>rfl
  simp[az q];rcases ix w.queues t.c.doc with⟨i,hi,eq,hd⟩|eq
  ·have hrow:∀d,lK (w.queues.map Queue.row) i 1 d=(w.queues.map Queue.row).set i [.v (.string w.queues[i].doc),d]:=λd=>j9 (f:=Queue.row) hi rfl _
   by_cases f:w.queues[i].list.length=2
   ·rw[nc q' hi eq f]
    have f':(w.queues[i].list.length:Int)=2:=aa;refine drw eok mix [0,1,2,3,4,5,6,7] [8,9] (.c 8 8 33 222 (.c 8 9 222 0 (.l 8 0) .s) .s) ?_;simp[hk,ht,Task.row]
    try intros
    refine ag.pure (kE (w.h.docs.map Doc.row) (w.h.subs.map Sub.row) ((w.locks.map aG).set (bX t.c.doc w.locks.length) [.v (.int .i64 (-1))]) (w.tasks.map Task.row) w.h.shut w.h.last w.step (s6 w.queues) aa t.c.doc) ab ?_;simp
    try intros
    simp[eq,hi,Queue.row,f',hk,Task.row,hm,bf,eg,ew,hi1];exact Ec
   have f':¬(w.queues[i].list.length:Int)=2:=aa;have hqa:=(aT (p:=il w.h w.queues i) λhn=>gf hi (gY hi hn) c1.2.2.2.2.2.2.2) hi;have hpos:0<w.queues[i].list.length:=hqa.2.1.1;have hle2:=hqa.2.1.2;rw[m9 q' hi eq f];refine aY.open (λ_ h=>h) (k:=453) (i:=i) (j:=1) (k':=60000) (sz':=1) (sz:=2) (H:=H4) (rows:=w.queues.map Queue.row) (srows:=w.queues[i].list.map aG) (row:=w.queues[i].row) ab (by simp[hi]) rfl ab ah i5 ab (λG=>?_);refine drw eok mix [0,1,2,3,4,5,6,7] [8,9] (.c 8 8 33 222 (.c 8 9 222 0 (.l 8 0) .s) .s) ?_;simp[hk,ht,Task.row,hrow]
   try intros
   refine ag.pure (kE (w.h.docs.map Doc.row) (w.h.subs.map Sub.row) ((w.locks.map aG).set (bX t.c.doc w.locks.length) [.v (.int .i64 (-1))]) (w.tasks.map Task.row) w.h.shut w.h.last w.step (CE hi (.h 60000 G 1 w.queues[i].list.length)) aa t.c.doc) ab ?_;simp
   try intros
   simp[eq,hi,f'];refine dI aw Tryz.func70 al rfl rfl rfl (ai rfl) 50000 rfl ab ?_;simp[hk,ht,Task.row,hm];refine ag.pure (kE (w.h.docs.map Doc.row) (w.h.subs.map Sub.row) ((w.locks.map aG).set (bX t.c.doc w.locks.length) [.v (.int .i64 (-1))]) ((w.tasks.map Task.row).set k (Task.row ⟨t.c,2,t.inv,t.lin,t.rs,t.a⟩)) w.h.shut w.h.last w.step (CE hi (.h 60000 G 1 w.queues[i].list.length)) aa t.c.doc) lW ?_;simp[eq];refine drw eok mix [0,1,2,3,4,5,6,7,8,9,10,11,12,13,16,17] [14,15,18] (.c 16 14 4 65531 (.c 16 15 8 65523 (.c 16 18 65521 2 (.l 16 2) .s) .s) .s) ?_;simp[hi,hpos,bf]
   try intros
   simp[Queue.row,Task.row,eg,ew,hi1];exact⟨aa,λr hr=>OO rfl r hr,λr hr=>SV rfl r hr,λr hr=>oR rfl r hr⟩
  rw[oI q' eq];refine drw eok mix [0,1,2,3,4,5,6,7] [8,9] (.c 8 8 33 222 (.c 8 9 222 0 (.l 8 0) .s) .s) ?_;simp[hk,ht,Task.row]
  try intros
  refine ag.pure (kE (w.h.docs.map Doc.row) (w.h.subs.map Sub.row) ((w.locks.map aG).set (bX t.c.doc w.locks.length) [.v (.int .i64 (-1))]) (w.tasks.map Task.row) w.h.shut w.h.last w.step (s6 w.queues) aa t.c.doc) ab ?_;simp
  try intros
  simp[eq];refine dI aw Tryz.func70 al rfl rfl rfl (ai rfl) 50000 rfl ab ?_;simp[hk,ht,Task.row,hm];refine ag.pure (kE (w.h.docs.map Doc.row) (w.h.subs.map Sub.row) ((w.locks.map aG).set (bX t.c.doc w.locks.length) [.v (.int .i64 (-1))]) ((w.tasks.map Task.row).set k (Task.row ⟨t.c,2,t.inv,t.lin,t.rs,t.a⟩)) w.h.shut w.h.last w.step (s6 w.queues) aa t.c.doc) lW ?_;have hal:=l6 t.c.doc w.queues;have hon:=λ{k:Nat} h1 h2=>jU (name:=t.c.doc) (l:=w.queues) (k:=k) h1 h2
  generalize bK t.c.doc w.queues=a at hal hon;simp[eq]
  refine aE eok (λm:Nat=>m<=a) (λm=>⟨96,50000,[(6,.v (.int .i64 m)),(0,.p 96 b6 0),(1,.v (.int .i64 k)),(4,.v (.string t.c.doc))],
   [(454, .rows H5 15 ((w.tasks.map Task.row).set k (Task.row ⟨t.c,2,t.inv,t.lin,t.rs,t.a⟩)) true),(452, .rows H3 1 ((w.locks.map aG).set (bX t.c.doc w.locks.length) [.v (.int .i64 (-1))]) true),
    (96,.vars b6 39 [.v (.bool w.h.shut),.sl 449 H1 5 0 w.h.docs.length,.sl 450 H2 6 0 w.h.subs.length,.v (.int .i64 w.h.last),.sl 452 H3 1 0 w.locks.length,.sl 453 H4 2 0 w.queues.length,.sl 454 H5 15 0 w.tasks.length,.v (.int .i64 w.step)]),
    (453,.rows H4 2 (w.queues.map Queue.row) true),(450,.rows H2 6 (w.h.subs.map Sub.row) true),(449,.rows H1 5 (w.h.docs.map Doc.row) true),
    (64,.vars b4 39 [.v (.bool false),.nil,.nil,.v (.int .i64 0),.nil,.nil,.nil,.v (.int .i64 0)]),
    (32,.vars b2 39 [.v (.bool w.h.shut),.cv (us 0 1) w.h.docs.length,.cv (us 0 2) w.h.subs.length,.v (.int .i64 w.h.last),.cv (us 0 4) w.locks.length,.cv (us 0 5) w.queues.length,.cv (us 0 6) w.tasks.length,.v (.int .i64 w.step)])]⟩) (λm=>w.queues.length-m) 0 ab lW (λm hmm=>Ent.refl ?_)
  by_cases hlt:m<w.queues.length
  ·obtain⟨x,hx⟩:∃x,w.queues[m]=x:=⟨_,rfl⟩
   have hiff:=hon hmm hlt;rw[hx]at hiff;simp[hlt,hx,Queue.row];by_cases s:sLt x.doc t.c.doc
   ·exact vj
   have hka:m=a:=by
    exact D1
   subst hka;have hmn:min m w.queues.length=m:=aa;have hc1:cut (w.queues.map Queue.row) 0 m=(w.queues.map Queue.row).take m:=by rw[fu];simp
   have hc2:cut (w.queues.map Queue.row) m (w.queues.length-m)=(w.queues.map Queue.row).drop m:=by rw[fu,aB ab]
   simp[az s,hc1,hc2,hmn,eg,ew,Queue.row,hi1,Task.row];refine⟨aa,aa,aa,aa,aa,aa,λr hr=>OO rfl r hr,aa,?_,?_,λr hr=>oR rfl r hr⟩
   ·rintro row (h|rfl|h)
    ·exact Fu (br h)
    ·rfl
    ·exact Fu (a8 h)
   ·exact(v3 (by simp[hmn];omega)).symm
  have hka:m=w.queues.length:=aa;have hka2:a=w.queues.length:=aa;subst hka2;subst hka;have hz:cut (w.queues.map Queue.row) w.queues.length 0=[]:=by rw[fu];simp
  simp[hz,eg,ew,Queue.row,hi1,Task.row];refine⟨aa,aa,λr hr=>OO rfl r hr,?_,λr hr=>oR rfl r hr⟩
  rintro row (⟨a,-,rfl⟩|rfl)<;>rfl
 by_cases p3:t.pc=3
 ·rw[kI p3]
  simp[p3,hm,bf,Task.row,hk,ew];exact λr hr=>oR rfl r hr
 ·rw[oG p0 p1 p3]
  simp[p0,p1,p3,Wld.zero,Hub.zero]
set_option maxHeartbeats 3200000
theorem zW(w:Wld)(hl:bY w<=2^30):ar Tryz.prog 49 [.agg w.row] (.one (.c (.s ((bn w).map aG)) 1)):=by
 refine pci aw Tryz.func49 (λw0 base=>?_);have hle:=aS (bI hl).2.2.2;simp[Wld.row];intro b1 b3
 refine aE eok (λx:Nat×Hd=>x.1<=w.tasks.length) (λx=>⟨27,0,[(11,.v (.int .i64 x.1)),(10,.v (.int .i64 w.tasks.length)),(1,.p 16 b1 0),(3,.sl 112 x.2 1 0 (lj w x.1).length)],
  [(16, .vars b1 39 [.v (.bool w.h.shut), .ro (w.h.docs.map Doc.row), .ro (w.h.subs.map Sub.row), .v (.int .i64 w.h.last), .ro (w.locks.map aG), .ro (w.queues.map Queue.row), .ro (w.tasks.map Task.row), .v (.int .i64 w.step)]),
   (112,.rows x.2 1 ((lj w x.1).map aG) true)]⟩) (λx=>w.tasks.length-x.1) (0,some (b3,0,0)) ab (by simp[An]) (λx hx=>Ent.refl ?_)
 obtain⟨i,H⟩:=x;simp only at hx⊢;have hol:=CK w i;have e1:Go.IntKind.i64.wrap ((i:Int)+1)=((i+1:Nat):Int):=aR aa;by_cases hlt:i<w.tasks.length
 ·have hp:=uv w hl i
  have hyes:=@CJ w i hlt;have hno:=@Hz w i hlt;generalize eU w i=R at hp hyes hno;obtain⟨X,ok⟩:=R;simp only at hp hyes hno;simp[hlt];refine ag.pure hp bS ?_;simp[Wld.res];intros
  cases ok with
  | true =>
    have ho:=hyes rfl;simp;exact MG
  | false =>
    have ho:=hno rfl;simp;refine Ent.refl ⟨i+1,aa,aa,H,?_⟩;simp[ho,e1]
 ·have e:i=w.tasks.length:=by omega
  subst e;rw[CM];simp
theorem jV(w:Wld)(hl:bY w<=2^30)(c:bo w)(k:Nat)(hk:k<w.tasks.length):ar Tryz.prog 32 [.agg w.row,.c (vi k)] (.one (.c (vb (¬w.step=1000000/\iG w w.tasks[k])) 1)):=by
 refine pci aw Tryz.func32 (λw0 base=>?_);have hle:=aS (bI hl).2.2.2;obtain⟨t,ht⟩:∃t,w.tasks[k]=t:=⟨_,rfl⟩;have htk:=c.1 _ (ak hk);rw[ht]at htk⊢;have hdsz:=htk.1.2.1;have hpc:=htk.2.2.1;have hs1:=(jF t.c.doc c.2.2.1.1).2;have hlk:=c.2.2.1;simp[Wld.row];intro b2;by_cases c2:w.step=1000000
 ·simp[c2]
 simp[c2];refine ag.pure (bZ k 0 ((w.tasks.length:Int)-1)) (by simp;exact(ae _ aa).symm) ?_;have c3:0<=(k:Int)/\(k:Int)<=(w.tasks.length:Int)-1:=aa;simp[c3,hk,ht,Task.row];intro b5;by_cases p0:t.pc=0
 rotate_left
 ·by_cases p2:t.pc=2
  ·simp[p2,iG]
  by_cases p4:t.pc=4
  ·simp[p4,iG]
  simp[p0,p2,p4,iG]
 simp[p0];refine ag.pure (eC t.c.kind) ab ?_;by_cases d:cW t.c.kind
 rotate_left
 ·simp[p0,iG,d]
 simp[d];refine aY.quiet eok mix al ?_;simp;refine⟨_,_,lv t.c.doc aa w.locks.length aa aa,ab,?_⟩;simp[hs1,iG,p0,d]
theorem qo(w:Wld)(hl:bY w<=2^30):ar Tryz.prog 52 [.agg w.row] (.one (.c (.s ((bn w).map aG)) 1)):=by
 refine pci aw Tryz.func52 (λw0 base=>?_);have hle:=aS (bI hl).2.2.2;simp[Wld.row];intro b1;refine ag.pure (hQ w aa) bS ?_;by_cases c1:bo w
 rotate_left
 ·simp[az c1,vW (λh=>c1 h.1)]
 simp[c1]
 refine aE eok (λx:Nat×Hd=>x.1<=w.tasks.length) (λx=>⟨23,0,[(11,.v (.int .i64 x.1)),(10,.v (.int .i64 w.tasks.length)),(1,.p 16 b1 0),(3,.sl 5000 x.2 1 0 (lj w x.1).length)],
  [(16, .vars b1 39 [.v (.bool w.h.shut), .ro (w.h.docs.map Doc.row), .ro (w.h.subs.map Sub.row), .v (.int .i64 w.h.last), .ro (w.locks.map aG), .ro (w.queues.map Queue.row), .ro (w.tasks.map Task.row), .v (.int .i64 w.step)]),
   (5000,.rows x.2 1 ((lj w x.1).map aG) true)]⟩) (λx=>w.tasks.length-x.1) (0,none) ab (by simp[An]) (λx hx=>Ent.refl ?_)
 obtain⟨i,H⟩:=x;simp only at hx⊢;have hol:=CK w i;have e1:Go.IntKind.i64.wrap ((i:Int)+1)=((i+1:Nat):Int):=aR aa;by_cases hlt:i<w.tasks.length
 ·have hy:¬w.step=1000000/\iG w w.tasks[i]->lj w (i+1)=lj w i++[(i:Int)]:=λa=>CJ hlt ((jt c1 a.1 hlt).2 a.2)
  have hn:¬(¬w.step=1000000/\iG w w.tasks[i])->lj w (i+1)=lj w i:=by
   intro a;refine Hz hlt ?_;by_cases c2:w.step=1000000
   ·rw[nE (λh=>h.2.1 c2)]
   ·cases h:(eU w i).2 with
    |false=>rfl
    |true=>exact absurd ⟨c2,(jt c1 c2 hlt).1 h⟩ a
  simp[hlt];refine ag.pure (jV w hl c1 i hlt) bS ?_;by_cases a:¬w.step=1000000/\iG w w.tasks[i]
  ·have ho:=hy a
   simp[a];exact MG
  ·have ho:=hn a
   simp[az a];refine Ent.refl ⟨i+1,aa,aa,H,?_⟩;simp[ho,e1]
 ·have e:i=w.tasks.length:=by omega
  subst e;rw[CM];simp
open Classical in
noncomputable def ba(w:Wld):List ByteArray:=if bo w/\¬w.step=1000000 then w.queues.map Queue.doc else []
theorem oE{w:Wld}(h:bo w/\¬w.step=1000000):ba w=w.queues.map Queue.doc:=by unfold ba;rw[an h]
theorem nD{w:Wld}(h:¬(bo w/\¬w.step=1000000)):ba w=[]:=by unfold ba;rw[aq h]
theorem m6(w:Wld)(hl:bY w<=2^30):ar Tryz.prog 53 [.agg w.row] (.one (.c (.s ((ba w).map vk)) 1)):=by
 refine pci aw Tryz.func53 (λw0 base=>?_);have hno:=@nD w;have hyes:=@oE w;have hlq:=aS (bI hl).2.2.1;simp[Wld.row];intro b1;refine ag.pure (hQ w hl) bS ?_;by_cases c1:bo w
 rotate_left
 ·exact sK
 simp[c1];by_cases c2:w.step=1000000
 ·simp[c2,hno (λh=>h.2 c2)]
 rw[hyes ⟨c1,c2⟩];simp[c2];refine aE eok (λx:Nat×Hd=>x.1<=w.queues.length) (λx=>⟨28,0,[(17,.v (.int .i64 x.1)),(16,.v (.int .i64 w.queues.length)),(15,.ro (w.queues.map Queue.row)),(3,.sl 5000 x.2 1 0 x.1)],[(5000,.rows x.2 1 ((w.queues.take x.1).map λq=>vk q.doc) true)]⟩) (λx=>w.queues.length-x.1) (0,none) ab ab (λx hx=>Ent.refl ?_);exact Od
theorem vn(w:Wld)(hl:bY w<=2^30):ar Tryz.prog 50 [.agg w.row] (.one (.c (.s ((ba w).map vk)) 1)):=by
 refine pci aw Tryz.func50 (λw0 base=>?_);have hno:=@nD w;have hyes:=@oE w;have hlq:=aS (bI hl).2.2.1;simp[Wld.row];intro b1 b6;refine ag.pure (jT w hl) bS ?_;by_cases c1:bo w
 rotate_left
 ·exact sK
 simp[c1];by_cases c2:w.step=1000000
 ·simp[c2,hno (λh=>h.2 c2)]
 rw[hyes ⟨c1,c2⟩];simp[c2];refine aE eok (λx:Nat×Hd=>x.1<=w.queues.length) (λx=>⟨30,0,[(19,.v (.int .i64 x.1)),(18,.v (.int .i64 w.queues.length)),(17,.ro (w.queues.map Queue.row)),(3,.sl 96 x.2 1 0 x.1)],[(96,.rows x.2 1 ((w.queues.take x.1).map λq=>vk q.doc) true)]⟩) (λx=>w.queues.length-x.1) (0,some (b6,0,0)) ab ab (λx hx=>Ent.refl ?_);exact Od
theorem Yd{a b:UInt8}:a<b↔a.toNat<b.toNat:=UInt8.lt_iff_toNat_lt
theorem Dh:∀x:List UInt8,Go.Op.bytesLess x x=false
 | []=>rfl
 | a :: x => by
   have h:¬a<a:=by rw[Yd];omega
   rw[Go.Op.bytesLess,Dh x];simp[h]
theorem IQ:∀x y z:List UInt8,Go.Op.bytesLess x y=true->Go.Op.bytesLess y z=true->Go.Op.bytesLess x z=true
 | [],[],_,h,_=>by simp[Go.Op.bytesLess]at h
 |_::_,[],_,h,_=>by simp[Go.Op.bytesLess]at h
 |_,_::_,[],_,h=>by simp[Go.Op.bytesLess]at h
 | [],_::_,_::_,_,_=>rfl
 | a :: x, b :: y, c :: z, h1, h2 => by
   rw[Go.Op.bytesLess]at h1 h2⊢;simp only[gF,aI,cf,mJ]at h1 h2⊢;rcases h1 with h1|⟨rfl,h1⟩
   ·rcases h2 with h2|⟨rfl,h2⟩
    ·rw[Yd]at h1 h2⊢;exact .inl aa
    ·exact .inl h1
   ·rcases h2 with h2|⟨rfl,h2⟩
    ·exact .inl h2
    ·exact .inr ⟨rfl,IQ x y z h1 h2⟩
theorem nv(a:ByteArray):¬sLt a a:=by unfold sLt;rw[Dh];simp
theorem P2{a b c:ByteArray}(h1:sLt a b)(h2:sLt b c):sLt a c:=IQ _ _ _ h1 h2
theorem A3{l:List Doc}{name:ByteArray}:0<=bE l name↔∃d∈l,d.name=name:=by
 constructor
 ·intro h
  rcases fo l name with⟨k,hk,-,hn⟩|e
  ·exact⟨_,ak hk,hn⟩
  ·omega
 ·rintro⟨d,hd,hn⟩
  rcases jw (λd:Doc=>d.name=name) l with⟨k,hk,e,-⟩|⟨-,h⟩
  ·unfold bE;omega
  ·obtain⟨i,hi,rfl⟩:=eO hd
   exact absurd hn (h i hi)
theorem vx{tasks:List Task}{doc:ByteArray}:∀(l all m:List Int),cR tasks doc all l=some m->∀k∈l,jH tasks doc k
 | [],_,_,_,k,hk=>by cases hk
 | a :: l, all, m, h, k, hk => by
   unfold cR at h
   split at h
   ·rename_i c
    rcases aX.1 hk with rfl|hk
    ·exact c.1
    ·exact vx l _ m h k hk
   ·cases h
theorem rq{w:Wld}(c:fc w){i:Nat}(hi:i<w.queues.length):il w.h w.queues i/\∀k∈w.queues[i].list,jH w.tasks w.queues[i].doc k:=by
 have h1:dB w (i+1)≠none:=λh=>gf hi h c
 by_cases hq:il w.h w.queues i
 rotate_left
 ·exact absurd (gY hi hq) h1
 refine⟨hq,?_⟩
 cases e:dB w i with
 |none=>exact absurd (lh e 1) h1
 | some all =>
   rw[iR hi e hq]at h1
   cases e2:cR w.tasks w.queues[i].doc all w.queues[i].list with
   |none=>exact absurd e2 h1
   |some m=>exact vx _ _ m e2
open Classical in
noncomputable def ou(l:List Queue)(i:Nat)(q:Queue)(rest:List Int):List Queue:=if rest=[]then l.eraseIdx i else l.set i ⟨q.doc,rest⟩
open Classical in
noncomputable def ia(w:Wld)(name:ByteArray):Wld×Bool:=
 if bo w/\¬w.step=1000000/\0<=dR w.queues name then
  (match w.queues[(dR w.queues name).toNat]? with
   | some q => (match w.tasks[(q.list.headD 0).toNat]? with
     |some t=>(eg (mH ⟨w.h,w.locks,ou w.queues (dR w.queues name).toNat q q.list.tail,w.tasks,w.step⟩ (q.list.headD 0).toNat t) (w.step+1),true)
     |none=>(Wld.zero,false))
   |none=>(Wld.zero,false))
 else(Wld.zero,false)
theorem Da{w:Wld}{name:ByteArray}(h:¬(bo w/\¬w.step=1000000/\0<=dR w.queues name)):ia w name=(Wld.zero,false):=by unfold ia;rw[aq h]
theorem p8{w:Wld}(c:bo w){i:Nat}(hi:i<w.queues.length):∃k:Nat,∃_:k<w.tasks.length,∃rest,w.queues[i].list=(k:Int)::rest/\rest.length<=1:=by
 obtain⟨hq,hw⟩:=rq c.2.2.2.2.2.2.2 hi;obtain⟨-,⟨h1,h2⟩,-⟩:=hq hi
 cases e:w.queues[i].list with
 |nil=>rw[e]at h1;simp at h1
 | cons a rest =>
   rw[e]at hw h2;obtain⟨k,hk,rfl,-⟩:=hw a (aJ ..);exact⟨k,hk,rest,rfl,lZ⟩
theorem tl{w:Wld}{name:ByteArray}(c:bo w)(s:¬w.step=1000000){i:Nat}(hi:i<w.queues.length)(e:dR w.queues name=i){k:Nat}(hk:k<w.tasks.length){rest:List Int}(hl:w.queues[i].list=(k:Int)::rest) :
 ia w name=(eg (mH ⟨w.h,w.locks,ou w.queues i w.queues[i] rest,w.tasks,w.step⟩ k w.tasks[k]) (w.step+1),true):=by
 unfold ia;rw[an ⟨c,s,aa⟩];simp[e,hi,hl,hk]
theorem HK{α:Type}{f:α->Nat}:∀(l:List α) (i:Nat),nL f (l.eraseIdx i)<=nL f l
 | [],_=>ab
 |a::l,0=>by rw[List.eraseIdx_cons_zero,s9];omega
 | a :: l, i + 1 => by
   have:=HK (f:=f) l i;rw[List.eraseIdx_cons_succ,s9,s9];omega
theorem PS(l:List Queue)(i:Nat)(q:Queue)(rest:List Int):nL ca (ou l i q rest)<=nL ca l+q.doc.size+rest.length:=by
 unfold ou
 split
 ·have:=HK (f:=ca) l i;omega
 ·have h1:=Au (f:=ca) l i ⟨q.doc,rest⟩
  have h2:ca ⟨q.doc,rest⟩=q.doc.size+rest.length:=rfl;omega
theorem JC{w:Wld}(c:bo w){i:Nat}(hi:i<w.queues.length):w.queues[i].doc.size<=8:=by
 obtain⟨hq,-⟩:=rq c.2.2.2.2.2.2.2 hi;obtain⟨-,-,h3⟩:=hq hi;rcases fo w.h.docs w.queues[i].doc with⟨j,hj,e',hn⟩|e'
 ·rw[<-hn];exact(jd c.2.1 hj).1.1.2
 ·omega
theorem Q3{w:Wld}{name:ByteArray}(c:bo w)(s:¬w.step=1000000){i:Nat}(hi:i<w.queues.length)(e:dR w.queues name=i):(ia w name).2=true/\(ia w name).1.step=w.step+1:=by
 obtain⟨k,hk,rest,hl,hr⟩:=p8 c hi;rw[tl c s hi e hk hl];exact⟨rfl,rfl⟩
noncomputable def cL(w:Wld):Nat:=(bn w).length+(ba w).length
def dZ(picks:List Int)(n m:Nat):Nat:=match picks[n]? with
 |some p=>(p % (m:Int)).toNat
 |none=>0
theorem nj(picks:List Int)(n:Nat){m:Nat}(h:0<m):dZ picks n m<m:=by
 unfold dZ
 split
 ·rename_i p _
  have h1:=Int.emod_nonneg p (show(m:Int)≠0 from aa);have h2:=Int.emod_lt_of_pos p (show(0:Int)<m from aa);omega
 ·exact h
noncomputable def bk(w:Wld)(p:Nat):Wld:=match (bn w)[p]? with
 |some k=>(eU w k).1
 | none => match (ba w)[p - (bn w).length]? with
   |some s=>(ia w s).1
   |none=>w
noncomputable def mC(picks:List Int):Nat->Nat->Wld->Wld×Int
 |0,n,w=>(w,n)
 |f+1,n,w=>if cL w=0 then(w,n)else mC picks f (n+1) (bk w (dZ picks n (cL w)))
noncomputable def eZ(w:Wld)(picks:List Int):Wld×Int:=mC picks 1000001 0 w
theorem kn{picks:List Int}{f n:Nat}{w:Wld}(h:cL w=0):mC picks f n w=(w,(n:Int)):=by
 cases f with
 |zero=>rfl
 |succ f=>rw[mC,an h]
theorem pF{picks:List Int}{f n:Nat}{w:Wld}(h:¬cL w=0):mC picks (f+1) n w=mC picks f (n+1) (bk w (dZ picks n (cL w))):=by rw[mC,aq h]
theorem l7{w:Wld}(h:¬cL w=0):bo w/\¬w.step=1000000:=by
 refine aT λc=>h ?_
 unfold cL;rw[vW c,nD c];rfl
theorem mc{w:Wld}{p:Nat}(h:p<(bn w).length):∃k:Nat,∃_:k<w.tasks.length,(bn w)[p]=(k:Int)/\(eU w k).2=true:=by
 have hc:bo w/\¬w.step=1000000:=aT λc=>by rw[vW c]at h;simp at h
 have hm:=ak h;generalize (bn w)[p]=x at hm⊢;rw[De hc]at hm;unfold iF at hm;rw[cE]at hm;obtain⟨k,hk,e⟩:=hm;rw[cl]at hk;obtain⟨h1,h2⟩:∃h:k<w.tasks.length,iG w w.tasks[k]:=by simpa using hk.2
 exact⟨k,h1,e.symm,(jt hc.1 hc.2 h1).2 h2⟩
theorem Cx{w:Wld}{p:Nat}(h:p<(ba w).length):∃i:Nat,∃_:i<w.queues.length,dR w.queues (ba w)[p]=i:=by
 have hc:bo w/\¬w.step=1000000:=aT λc=>by rw[nD c]at h;simp at h
 have hm:=ak h;generalize (ba w)[p]=s at hm;rw[oE hc,cE]at hm;obtain⟨q,hq,rfl⟩:=hm;rcases ix w.queues q.doc with⟨k,hk,e,-⟩|e
 ·exact⟨k,hk,e⟩
 ·exfalso
  obtain⟨j,hj,rfl⟩:=eO hq;rcases jw (λq':Queue=>q'.doc=w.queues[j].doc) w.queues with⟨k,hk,e',-⟩|⟨-,hn⟩
  ·unfold dR at e;omega
  ·exact hn j hj rfl
theorem Ki{w:Wld}{k:Int}(h:(eU w k).2=true):(eU w k).1.step=w.step+1:=by
 by_cases c:bo w/\¬w.step=1000000/\(0<=k/\k<=(w.tasks.length:Int)-1)
 rotate_left
 ·rw[nE c]at h;cases h
 obtain⟨c,hs,h1,h2⟩:=c;obtain⟨k,rfl⟩:∃n:Nat,k=n:=⟨k.toNat,aa⟩;have hk:k<w.tasks.length:=aa;rw[mq c hs hk]at h⊢;by_cases p0:w.tasks[k].pc=0
 ·by_cases d:cW w.tasks[k].c.kind
  ·by_cases f:w.locks[bX w.tasks[k].c.doc w.locks.length]? = some (-1)
   ·rw[kJ p0 d f]
   ·rw[oF p0 d f]at h;cases h
  ·rw[ju p0 d];rfl
 ·by_cases p1:w.tasks[k].pc=1
  ·rw[iT p1];rfl
  ·by_cases p3:w.tasks[k].pc=3
   ·rw[kI p3]
   ·rw[oG p0 p1 p3]at h;cases h
theorem m8{w:Wld}(h:¬cL w=0){p:Nat}(hp:p<cL w):(bk w p).step=w.step+1:=by
 obtain⟨c,s⟩:=l7 h;unfold bk;by_cases ha:p<(bn w).length
 ·obtain⟨k,hk,e,hy⟩:=mc ha
  rw[aj ha];simp only[e];exact Ki hy
 ·have hs:p-(bn w).length<(ba w).length:=by unfold cL at hp;omega
  obtain⟨i,hi,e⟩:=Cx hs;rw[cw aa,aj hs];exact(Q3 c s hi e).2
def rN(w:Wld)(i:Nat):Prop:=dk w.h<=2^28/\w.locks.length<=2^20/\nL ca w.queues<=2^20+32*i/\(∀t∈w.tasks,dq t<=2^25)/\nL dq w.tasks<=2^29
theorem wW{w:Wld}{i:Nat}(h:rN w i)(hi:i<=2^20):bY w<=2^30:=by
 obtain⟨h1,h2,h3,-,h5⟩:=h;unfold bY;omega
theorem pD{w:Wld}(h:bY w<=2^20):rN w 0:=by
 obtain⟨n1,n2,n3,n4⟩:=bI h;exact⟨aa,n2,aa,λt ht=>by have:=gA n4 ht;omega,aa⟩
theorem tj{w:Wld}(c:bo w){i:Nat}(h:rN w i){h':Hub}{lk:List Int}{qs:List Queue}{t':Task}{k:Nat}{st:Int}(h1:dk h'<=2^28)(h2:lk.length=w.locks.length)(h3:nL ca qs<=nL ca w.queues+32)
 (h4:dq t'<=2^25):rN ⟨h',lk,qs,w.tasks.set k t',st⟩ (i+1):=by
 obtain⟨-,g2,g3,g4,-⟩:=h
 have hm:∀t∈w.tasks.set k t',dq t<=2^25:=by
  intro t ht;rcases iH ht with ht|rfl
  ·exact g4 t ht
  ·exact h4
 refine⟨h1,?_,?_,hm,?_⟩
 ·show lk.length<=_;omega
 ·show nL ca qs<=_;omega
 ·show nL dq (w.tasks.set k t')<=_
  have h5:nL dq (w.tasks.set k t')<=(w.tasks.set k t').length*(2^25+1):=Aw hm;rw[List.length_set]at h5;have h6:=ao (2^25+1) c.2.2.2.1;omega
theorem wX{w:Wld}(c:bo w){i:Nat}(h:rN w i){k:Nat}(hk:k<w.tasks.length){lk:List Int}{qs:List Queue}(h2:lk.length=w.locks.length)(h3:nL ca qs<=nL ca w.queues+32)(n:Int) :
 rN (eg (mH ⟨w.h,lk,qs,w.tasks,w.step⟩ k w.tasks[k]) n) (i+1):=by
 have h1:=ad9 w.h w.tasks[k].c;have h4:=Bd (c.1 _ (ak hk)).1;have h5:dq ⟨w.tasks[k].c,3,w.tasks[k].inv,w.step,w.tasks[k].rs,(fDo w.h w.tasks[k].c).2⟩=dX w.tasks[k].c+cH (fDo w.h w.tasks[k].c).2:=rfl;have h6:dk (fDo w.h w.tasks[k].c).1<=2^28:=by have:=h.1;omega
 have h7:dq ⟨w.tasks[k].c,3,w.tasks[k].inv,w.step,w.tasks[k].rs,(fDo w.h w.tasks[k].c).2⟩<=2^25:=aa;exact tj c h h6 h2 h3 h7
theorem Q0{w:Wld}{i:Nat}(h:rN w i){k:Int}(hy:(eU w k).2=true):rN (eU w k).1 (i+1):=by
 by_cases c:bo w/\¬w.step=1000000/\(0<=k/\k<=(w.tasks.length:Int)-1)
 rotate_left
 ·rw[nE c]at hy;cases hy
 obtain⟨c,hs,h1,h2⟩:=c;obtain⟨k,rfl⟩:∃n:Nat,k=n:=⟨k.toNat,aa⟩;have hk:k<w.tasks.length:=aa;rw[mq c hs hk]at hy⊢
 have hold:∀pc rs:Int,dq ⟨w.tasks[k].c,pc,w.tasks[k].inv,w.tasks[k].lin,rs,w.tasks[k].a⟩<=2^25:=λ_ _=>by
  have ho:dq w.tasks[k]<=2^25:=h.2.2.2.1 _ (ak hk);exact ho
 by_cases p0:w.tasks[k].pc=0
 ·by_cases d:cW w.tasks[k].c.kind
  ·by_cases f:w.locks[bX w.tasks[k].c.doc w.locks.length]? = some (-1)
   ·rw[kJ p0 d f];exact tj c h h.1 ab aa (hold _ _)
   ·rw[oF p0 d f]at hy;cases hy
  ·rw[ju p0 d];exact wX c h hk rfl aa _
 ·by_cases p1:w.tasks[k].pc=1
  ·rw[iT p1]
   have h2:=c.1 _ (ak hk);have hd:=h2.1.2.1;by_cases q:¬w.tasks[k].c.kind=2\/w.h.shut=true\/bE w.h.docs w.tasks[k].c.doc<0
   ·rw[na q];exact wX c h hk ab aa _
   ·rcases ix w.queues w.tasks[k].c.doc with⟨j,hj,e,hn⟩|e
    ·by_cases f:w.queues[j].list.length=2
     ·rw[nc q hj e f]
      have h5:=Bd h2.1;have h4:dq ⟨w.tasks[k].c,3,w.tasks[k].inv,w.tasks[k].lin,w.tasks[k].rs,⟨11,0,[],[]⟩⟩=dX w.tasks[k].c:=rfl;have h6:dq ⟨w.tasks[k].c,3,w.tasks[k].inv,w.tasks[k].lin,w.tasks[k].rs,⟨11,0,[],[]⟩⟩<=2^25:=aa;exact tj c h h.1 ab (Nat.le_add_right _ _) h6
     ·rw[m9 q hj e f]
      have hqa:=(rq c.2.2.2.2.2.2.2 hj).1 hj;have h3:=Au (f:=ca) w.queues j ⟨w.queues[j].doc,w.queues[j].list++[(k:Int)]⟩;have h4:ca ⟨w.queues[j].doc,w.queues[j].list++[(k:Int)]⟩=w.queues[j].doc.size+(w.queues[j].list.length+1):=by unfold ca;simp
      have h6:w.queues[j].doc.size<=8:=by rw[hn];exact hd
      have h5:=hqa.2.1.2;have h7:nL ca (w.queues.set j ⟨w.queues[j].doc,w.queues[j].list++[(k:Int)]⟩)<=nL ca w.queues+32:=aa;exact tj c h h.1 ab h7 (hold _ _)
    ·rw[oI q e]
     have h3:=iS (f:=ca) (w.queues.take (bK w.tasks[k].c.doc w.queues)) (w.queues.drop (bK w.tasks[k].c.doc w.queues));rw[dV]at h3;have h4:ca ⟨w.tasks[k].c.doc,[(k:Int)]⟩=w.tasks[k].c.doc.size+1:=rfl
     have h7:nL ca (w.queues.take (bK w.tasks[k].c.doc w.queues)++⟨w.tasks[k].c.doc,[(k:Int)]⟩::w.queues.drop (bK w.tasks[k].c.doc w.queues))<=nL ca w.queues+32:=by
      simp only[iS,s9];omega
     exact tj c h h.1 ab h7 (hold _ _)
  ·by_cases p3:w.tasks[k].pc=3
   ·rw[kI p3];exact tj c h h.1 rfl aa (hold _ _)
   ·rw[oG p0 p1 p3]at hy;cases hy
theorem pE{w:Wld}{i:Nat}(h:rN w i)(hm:¬cL w=0){p:Nat}(hp:p<cL w):rN (bk w p) (i+1):=by
 obtain⟨c,s⟩:=l7 hm;unfold bk;by_cases ha:p<(bn w).length
 ·obtain⟨k,hk,e,hy⟩:=mc ha
  rw[aj ha];simp only[e];exact Q0 h hy
 ·have hs:p-(bn w).length<(ba w).length:=by unfold cL at hp;omega
  obtain⟨j,hj,e⟩:=Cx hs;rw[cw aa,aj hs];obtain⟨k,hk,rest,hl,hr⟩:=p8 c hj;have h2:=PS w.queues j w.queues[j] rest;have h3:=JC c hj;simp only;rw[tl c s hj e hk hl];exact wX c h hk rfl aa _
theorem IB(picks:List Int):∀(f n:Nat) (w:Wld),rN w n->n+f<=1000001->∃m,rN (mC picks f n w).1 m/\m<=2^20
 |0,n,w,h,hn=>⟨n,h,aa⟩
 | f + 1, n, w, h, hn => by
   by_cases hm:cL w=0
   ·rw[kn hm];exact⟨n,h,aa⟩
   ·rw[pF hm]
    exact IB picks f (n+1) _ (pE h hm (nj picks n aa)) aa
theorem Dc(w:Wld)(_:w.fits)(h:bY w<=2^20)(picks:List Int)(_:picks.length<=9223372036854775807/\∀n∈picks,gl n)(_:picks.length<=2^20):bY (eZ w picks).1<=2^36:=by
 obtain⟨m,h1,h2⟩:=IB picks 1000001 0 w (pD h) aa;have:=wW h1 h2;unfold eZ;omega
def qD(l:List Int):List Int:=l.filter λn=>decide (n≠-1)
theorem pZ{step:Int}:∀(l met:List Int),(cC step met l).isSome=true↔(∀n∈qD l,n<step)/\(qD l).Nodup/\∀n∈qD l,n∉met
 | [],met=>by simp[cC,qD]
 | n :: l, met => by
   unfold cC;by_cases h:n = -1
   ·have e:qD (n::l)=qD l:=by simp[qD,h]
    rw[an h,e];exact pZ l met
   ·have e:qD (n::l)=n::qD l:=by simp[qD,h]
    rw[aq h,e];by_cases h2:n ≥ step\/n∈met
    ·rw[an h2]
     simp only[Option.isSome_none,tE,false_iff]
     rintro⟨h3,-,h4⟩
     rcases h2 with h2|h2
     ·have:=h3 n (aJ ..);omega
     ·exact h4 n (aJ ..) h2
    ·rw[aq h2,pZ l (met++[n]),qW]
     constructor
     ·rintro⟨h3,h4,h5⟩
      refine⟨λm hm=>?_,⟨λhm=>h5 n hm ab,h4⟩,λm hm=>?_⟩
      ·rcases aX.1 hm with rfl|hm
       ·omega
       ·exact h3 m hm
      ·rcases aX.1 hm with rfl|hm
       ·exact λh=>h2 (.inr h)
       ·exact λh=>h5 m hm (by simp[h])
     ·rintro⟨h3,⟨h4,h5⟩,h6⟩
      refine⟨λm hm=>h3 m (aC _ hm),h5,λm hm hc=>?_⟩;rcases aP.1 hc with hc|hc
      ·exact h6 m (aC _ hm) hc
      ·simp at hc;subst hc;exact h4 hm
def E9(tasks:List Task)(step:Int):Prop:=(∀n∈qD (tasks.flatMap gn),n<step)/\(qD (tasks.flatMap gn)).Nodup
theorem xt{w:Wld}:j6 w↔E9 w.tasks w.step:=by
 unfold j6 E9;rw[pZ];simp
def aai(docs:List Doc)(q:Queue):Prop:=(1<=q.list.length/\q.list.length<=2)/\∃d∈docs,d.name=q.doc
def zs(a b:Queue):Prop:=sLt a.doc b.doc
def lV(l:List Queue):List Int:=l.flatMap Queue.list
structure QIn(docs:List Doc)(queues:List Queue)(tasks:List Task):Prop where
 one:∀q∈queues,aai docs q
 ord:queues.Pairwise zs
 may:∀q∈queues,∀k∈q.list,jH tasks q.doc k
 nodup:(lV queues).Nodup
 all:∀k,∀hk:k<tasks.length,tasks[k].pc=2->(k:Int)∈lV queues
theorem vw{tasks:List Task}{doc:ByteArray}:∀(l all m:List Int),cR tasks doc all l=some m↔(∀k∈l,jH tasks doc k)/\l.Nodup/\(∀k∈l,k∉all)/\m=all++l
 | [],all,m=>by simp[cR];exact⟨λh=>h.symm,λh=>h.symm⟩
 | k :: l, all, m => by
   unfold cR;by_cases h:jH tasks doc k/\k∉all
   ·rw[an h,vw l (all++[k]) m,qW]
    constructor
    ·rintro⟨h1,h2,h3,h4⟩
     refine⟨λj hj=>?_,⟨λhm=>h3 k hm ab,h2⟩,λj hj=>?_,by rw[h4];simp⟩
     ·rcases aX.1 hj with rfl|hj
      ·exact h.1
      ·exact h1 j hj
     ·rcases aX.1 hj with rfl|hj
      ·exact h.2
      ·exact λhc=>h3 j hj (by simp[hc])
    ·rintro⟨h1,⟨h2,h3⟩,h4,h5⟩
     refine⟨λj hj=>h1 j (aC _ hj),h3,λj hj hc=>?_,by rw[h5];simp⟩;rcases aP.1 hc with hc|hc
     ·exact h4 j (aC _ hj) hc
     ·simp at hc;subst hc;exact h2 hj
   ·rw[aq h]
    simp only[reduceCtorEq,false_iff]
    rintro⟨h1,-,h3,-⟩
    exact h ⟨h1 k (aJ ..),h3 k (aJ ..)⟩
theorem GY{l:List Queue}{i:Nat}(h:i<l.length):lV (l.take (i+1))=lV (l.take i)++l[i].list:=by
 unfold lV;rw[<-bd h,Dt];simp
theorem oS{w:Wld}:∀(i:Nat),i<=w.queues.length->∀all,dB w i=some all↔(∀j,j<i->il w.h w.queues j)/\(∀q∈w.queues.take i,∀k∈q.list,jH w.tasks q.doc k)/\(lV (w.queues.take i)).Nodup/\all=lV (w.queues.take i)
 |0,_,all=>by simp[dB,lV];try exact⟨λh=>h.symm,λh=>h.symm⟩
 | i + 1, hi, all => by
   have hlt:i<w.queues.length:=aa;have ih:=oS (w:=w) i aa;have hmem:∀q,q∈w.queues.take (i+1)↔q∈w.queues.take i\/q=w.queues[i]:=λq=>by rw[<-bd hlt,aP];simp
   rw[GY hlt];by_cases hq:il w.h w.queues i
   rotate_left
   ·rw[gY hlt hq]
    simp only[reduceCtorEq,false_iff]
    rintro⟨h,-⟩
    exact hq (h i aa)
   have hupto:(∀j,j<i+1->il w.h w.queues j)↔∀j,j<i->il w.h w.queues j:=by
    constructor
    ·exact λh j hj=>h j aa
    ·intro h j hj
     by_cases e:j=i
     ·subst e;exact hq
     ·exact h j aa
   rw[hupto]
   cases e:dB w i with
   | none =>
     have hn:=lh e 1;rw[hn];simp only[reduceCtorEq,false_iff]
     rintro⟨h1,h2,h3,h4⟩
     have:dB w i=some (lV (w.queues.take i)):=(ih _).2 ⟨h1,λq hqm=>h2 q ((hmem q).2 (.inl hqm)),(List.nodup_append.1 h3).1,rfl⟩;rw[e]at this
     cases this
   | some m =>
     obtain⟨h1,h2,h3,h4⟩:=(ih m).1 e;rw[iR hlt e hq,vw,h4,List.nodup_append]
     constructor
     ·rintro⟨g1,g2,g3,g4⟩
      refine⟨h1,λq hqm=>?_,⟨h3,g2,λa ha b hb hab=>?_⟩,g4⟩
      ·rcases(hmem q).1 hqm with hqm|rfl
       ·exact h2 q hqm
       ·exact g1
      ·subst hab;exact g3 a hb ha
     ·rintro⟨-,g2,⟨g3,g4,g5⟩,g6⟩
      exact⟨g2 _ ((hmem _).2 (.inr rfl)),g4,λk hk hc=>g5 k hc k hk rfl,g6⟩
theorem mW{w:Wld}:fc w↔QIn w.h.docs w.queues w.tasks:=by
 unfold fc
 constructor
 ·rintro⟨all,h1,h2⟩
  obtain⟨g1,g2,g3,g4⟩:=(oS w.queues.length (aH _) all).1 h1;rw[cU]at g2 g3 g4;subst g4;refine⟨λq hq=>?_,wD (R:=zs) (λ_ _ _=>P2) λi hi h0=>(g1 i hi hi).1 h0,g2,g3,h2⟩;obtain⟨i,hi,rfl⟩:=eO hq;obtain⟨-,k2,k3⟩:=g1 i hi hi;exact⟨k2,A3.1 k3⟩
 ·rintro⟨h1,h2,h3,h4,h5⟩
  refine⟨lV w.queues,(oS w.queues.length (aH _) _).2 ⟨λj _ hj=>?_,?_,?_,?_⟩,h5⟩
  ·obtain⟨k1,k2⟩:=h1 _ (ak hj)
   exact⟨λh0=>Dk h2 j hj h0,k1,A3.2 k2⟩
  ·rw[cU];exact h3
  ·rw[cU];exact h4
  ·rw[cU]
structure WIn(w:Wld):Prop where
 tasks:∀t∈w.tasks,fI t
 hub:bJ w.h
 nlock:1<=w.locks.length/\w.locks.length<=4
 ntask:w.tasks.length<=10
 step:0<=w.step/\w.step<=1000000
 steps:E9 w.tasks w.step
 locks:qe w
 queues:QIn w.h.docs w.queues w.tasks
theorem xn{w:Wld}:bo w↔WIn w:=by
 constructor
 ·rintro⟨h1,h2,h3,h4,h5,h6,h7,h8⟩
  exact⟨h1,h2,h3,h4,h5,xt.1 h6,h7,mW.1 h8⟩
 ·rintro⟨h1,h2,h3,h4,h5,h6,h7,h8⟩
  exact⟨h1,h2,h3,h4,h5,xt.2 h6,h7,mW.2 h8⟩
theorem Ah{w:Wld}(W:WIn w){i:Nat}(hi:i<w.queues.length){k:Nat}(hk:k<w.tasks.length){rest:List Int}(hl:w.queues[i].list=(k:Int)::rest):w.tasks[k].pc=2/\w.tasks[k].c.doc=w.queues[i].doc:=by
 obtain⟨j,hj,e,h1,h2⟩:=W.queues.may _ (ak hi) (k:Int) (by rw[hl];simp);have:j=k:=aa;subst this;exact⟨h1,h2⟩
end Go.Proofs.YtklblkobegcljaaGreat
