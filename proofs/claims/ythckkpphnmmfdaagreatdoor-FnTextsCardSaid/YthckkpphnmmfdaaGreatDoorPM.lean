import Derived.Test.YthckkpphnmmfdaaGreatDoorPL
import Derived.Test.YthckkpphnmmfdaaGreatDoorPJ
import Derived.Test.YthckkpphnmmfdaaGreatDoorPE
import Derived.Test.YthckkpphnmmfdaaGreatDoorPF
import Derived.Test.YthckkpphnmmfdaaGreatDoorPA
import Derived.Test.YthckkpphnmmfdaaGreatDoorNA
import Derived.Test.YthckkpphnmmfdaaGreatDoorPK
import Derived.Test.YthckkpphnmmfdaaGreatDoorPG
namespace Go.Proofs.YthckkpphnmmfdaaGreatDoor
open Go.AM
set_option maxRecDepth 20000
set_option maxHeartbeats 6400000
theorem Pa {l:List Doc} {row:List CD} (h:row∈l.map Doc.row):row.length=5:=by
 rw [List.mem_map] at h;obtain ⟨a,-,rfl⟩:=h;rfl
theorem DX {l:List Doc} {k:Nat}:cut (l.map Doc.row) 0 k=(l.take k).map Doc.row:=by rw [d8,List.drop_zero,List.map_take]
theorem DY {l:List Doc} {k:Nat}:cut (l.map Doc.row) k (l.length - k)=(l.drop k).map Doc.row:=by
 rw [d8,List.map_drop,List.take_of_length_le (by simp)]
noncomputable def f5 (name:ByteArray) (e:Entry) (l:List Sub) (i:Nat):List Sub:=(l.take i).map (fG name e)++l.drop i
theorem xH (name:ByteArray) (e:Entry) (l:List Sub):f5 name e l 0=l:=by simp [f5]
theorem zW (name:ByteArray) (e:Entry) (l:List Sub):f5 name e l l.length=l.map (fG name e):=by simp [f5]
theorem rK (name:ByteArray) (e:Entry) (l:List Sub) (i:Nat):(f5 name e l i).length=l.length:=by simp [f5];omega
theorem uw {name:ByteArray} {e:Entry} {l:List Sub} {i:Nat} (h:i<l.length):(f5 name e l i)[i]'(by rw [rK];exact h)=l[i]:=by
 unfold f5;rw [List.getElem_append_right (by simp;omega)];simp [Nat.min_eq_left (Nat.le_of_lt h)]
theorem rJ {name:ByteArray} {e:Entry} {l:List Sub} {i:Nat} (h:i<l.length):(f5 name e l i).set i (fG name e l[i])=f5 name e l (i+1):=by
 unfold f5;rw [List.set_append_right _ _ (by simp;omega),List.drop_eq_getElem_cons h];simp only [List.length_map,List.length_take,Nat.min_eq_left (Nat.le_of_lt h),Nat.sub_self,List.set_cons_zero];rw [<- List.take_append_getElem h,List.map_append];simp
theorem xI {name:ByteArray} {e:Entry} {l:List Sub} {i:Nat} (h:i<l.length) (hn:¬ l[i].doc=name):f5 name e l i=f5 name e l (i+1):=by
 rw [<- rJ h];have:fG name e l[i]=l[i]:=by unfold fG;rw [if_neg hn]
 rw [this];refine List.ext_getElem (by simp) (λj h1 h2=>?_);rw [List.getElem_set]
 split
 ·rename_i ej;subst ej;exact uw h
 ·rfl
theorem ib (h:Hub) (hl:ja h<=2 ^ 28) (name:ByteArray) (hs:name.size<=2 ^ 28) (t:List Int) (ht:t.length<=2 ^ 28):au Tryz.prog 101 [.agg h.row,.c (.v (.string name)),.c (.s (t.map bc))]
 (.tup [.agg (bE h name t).1.res,.c (vi (bE h name t).2) 1]):=by
 refine pci ag Tryz.func101 (λw0 base=>?_);have hld:=cF (lC hl).1;have hdn:=oq name t hs ht;unfold eJ at hdn;simp [Hub.row];intro b3 b6;by_cases c0:aR (dZ name t)
 rotate_left
 ·rw [if_neg c0] at hdn
  refine aa.pure hdn (by simp) ?_;simp [Doc.res,Doc.zero];intros;refine aa.pure (eB h (by omega)) (by simp [Hub.row]) ?_;by_cases c1:aH h
  ·simp [c1,mq (λh=>c0 h.2),Hub.res,Hub.zero]
  ·simp [ah c1,mq (λh=>c0 h.2),Hub.res,Hub.zero]
 rw [if_pos c0] at hdn;refine aa.pure hdn (by simp) ?_;simp [Doc.res,dZ];intro H1 H2 H3 b8;refine aa.pure (eB h (by omega)) (by simp [Hub.row]) ?_;by_cases c1:aH h
 rotate_left
 ·simp [ah c1,mq (λh=>c1 h.1),Hub.res,Hub.zero]
 simp [c1]
 cases c2:h.shut with
 |true=>simp [tZ ⟨c1,c0⟩ c2,Hub.res,Hub.zero]
 |false=>
 have c2':¬ h.shut=true:=by rw [c2];simp
 simp;refine aa.pure (dv h (by omega) name) (by simp [Hub.row,c2]) ?_;simp;by_cases c3:0<=bY h.docs name
 ·simp [c3,t6 ⟨c1,c0⟩ c2' c3,Hub.res,Hub.zero]
 simp [c3];by_cases c4:h.docs.length=5
 ·have c4':(h.docs.length:Int)=5:=by omega
  simp [c4',t7 ⟨c1,c0⟩ c2' c3 c4,Hub.res,Hub.zero]
 have c4':¬ (h.docs.length:Int)=5:=by omega
 have hat:=wX ⟨c1,c0⟩ c2' c3 c4;rw [vp] at hat;have hal:=qC (dZ name t).name h.docs;have hon:=λ{k:Nat} h1 h2=>qD (name:=(dZ name t).name) (l:=h.docs) (k:=k) h1 h2
 rw [show (dZ name t).name=name from rfl] at hat hal hon;generalize ep name h.docs=a at hat hal hon;simp [c4'];refine aa.pure (cP h (by omega)) (by simp [Hub.row,c2]) ?_;simp [Hub.res,c2];intro K1 K2 b10
 refine ar eok (λk:Nat=>k<=a) (λk=>⟨81,0,[(11,.v (.int .i64 k)),(1,.v (.string name)),(6,.p 96 b6 0),(8,.p 128 b8 0),(10,.p 160 b10 0)],
  [(160, .vars b10 48 [.v (.bool false), .sl 721 K1 5 0 h.docs.length, .sl 722 K2 6 0 h.subs.length, .v (.int .i64 h.last)]), (96, .vars b6 48 [.v (.bool false), .nil, .nil, .v (.int .i64 0)]),
   (128,.vars b8 55 [.v (.string name),.v (.int .i64 0),.sl 258 H1 1 0 t.length,.sl 259 H2 3 0 0,.sl 260 H3 3 0 0]),
   (258,.rows H1 1 (t.map bc) true),(259,.rows H2 3 [] true),(260,.rows H3 3 [] true),
   (721,.rows K1 5 (h.docs.map Doc.row) true),(722,.rows K2 6 (h.subs.map Sub.row) true)]⟩) (λk=>h.docs.length - k) 0 (by simp) (by simp) (λk hk=>Ent.refl ?_)
 by_cases hlt:k<h.docs.length
 ·obtain ⟨x,hx⟩:∃ x,h.docs[k]=x:=⟨_,rfl⟩
  have hiff:=hon hk hlt;rw [hx] at hiff;simp [hlt,hx,Doc.row];by_cases s:sLt x.name name
  ·simp [s]
   exact Ent.refl ⟨k+1,by have:=hiff.1 s;omega,by omega,by simp;exact aB (by omega)⟩
  have hka:k=a:=by
   have:¬ k<a:=λh=>s (hiff.2 h)
   omega
  subst hka;have hm:min k h.docs.length=k:=by omega
  simp [ah s,DX,DY,hat,c2,hm,dZ];refine ⟨by omega,by omega,by omega,by omega,by omega,by omega,by omega,?_,?_⟩
  ·rintro row (h|rfl|h)
   ·exact Pa (List.mem_of_mem_take h)
   ·rfl
   ·exact Pa (List.mem_of_mem_drop h)
  ·rw [xd (by simp [hm];omega)]
   rfl
 have hka:k=h.docs.length:=by omega
 have hka2:a=h.docs.length:=by omega
 subst hka2;have hm:min k h.docs.length=k:=by omega
 subst hka;have hz:cut (h.docs.map Doc.row) h.docs.length 0=[]:=by rw [d8];simp
 simp [hat,c2,dZ,hz];refine ⟨by omega,by omega,?_,?_⟩
 ·rintro row (⟨a,-,rfl⟩|rfl)<;>rfl
 ·rfl
theorem eR (h:Hub) (hl:ja h<=2 ^ 28) (name:ByteArray) (client seq base:Int) (o:List Part) (ho:nL aC o<=2 ^ 40) :
 au Tryz.prog 138 [.agg h.row,.c (.v (.string name)),.c (vi client),.c (vi seq),.c (vi base),.c (.s (o.map Part.row))]
 (.tup [.agg (bd h name client seq base o).1.res,.c (vi (bd h name client seq base o).2.1) 1,.c (vi (bd h name client seq base o).2.2) 1]):=by
 refine pci ag Tryz.func138 (λw0 bs=>?_);have hls:=cF (lC hl).2;simp [Hub.row];intro b6 b12;refine aa.pure (dv h (by omega) name) (by simp [Hub.row]) ?_;simp;refine aa.pure (eB h (by omega)) (by simp [Hub.row]) ?_;by_cases c1:aH h
 rotate_left
 ·simp [ah c1,nu c1,Hub.res,Hub.zero]
 simp [c1]
 cases c2:h.shut with
 |true=>simp [lF c1 c2,Hub.res,Hub.zero]
 |false=>
 have c2':¬ h.shut=true:=by rw [c2];simp
 simp;rcases cI h.docs name with ⟨k,hk,e,-⟩|e;rotate_left
 ·simp [e,lG c1 c2' e,Hub.res,Hub.zero]
 have hk0:¬ (k:Int)<0:=by omega
 have hat:=nv (client:=client) (seq:=seq) (base:=base) (o:=o) c1 c2' hk e;have hdn:=jy (f:=en) (lC hl).1 hk;have hdo:=dX c1 hk;have hDn:=DI (client:=client) (seq:=seq) (base:=base) (o:=o) hdo;have hok:=A3 (client:=client) (seq:=seq) (base:=base) (o:=o) hdo;obtain ⟨d,hd⟩:∃ d,h.docs[k]=d:=⟨_,rfl⟩;rw [hd] at hat hdn hDn hok;have hc:=kB d hdn client seq base o ho;generalize bf d client seq base o=S at hc hat hDn hok;obtain ⟨D,rev,code⟩:=S;simp only at hc hat hDn hok;simp [e,hk0,hk,hd,Doc.row];refine aa.pure hc (by simp [Doc.row]) ?_;simp [Doc.res];intro H1 H2 H3 b16;by_cases c3:code=0
 rotate_left
 ·rw [if_neg c3] at hat
  simp [c3,hat,Hub.res,Hub.zero]
 rw [if_pos c3] at hat;have hok:=hok c3;simp [c3];refine aa.pure (cP h (by omega)) (by simp [Hub.row,c2]) ?_;simp [Hub.res,c2,hk];intro K1 K2 b19;refine drw eok mix [0,2,3,4,5,6] [1,7,8] (.c 6 1 32 31 (.c 6 7 1 30 (.c 6 8 0 30 (.l 6 30) .s) .s) .s) ?_;simp [hk,hd,Doc.row]
 try intros
 refine aa.pure (aI D) (by simp [Doc.row,Doc.row]) ?_;simp
 try intros
 refine aa.pure (aI d) (by simp [Doc.row,Doc.row]) ?_;simp
 try intros
 by_cases c5:ab D=ab d
 ·have hcm:dT h name k d D=⟨h.shut,h.docs.set k D,h.subs,h.last⟩:=by unfold dT;rw [if_neg (by omega)]
  rw [hcm] at hat;simp [c5,hat,c2];exact ⟨uO,rfl⟩
 rcases hok with rfl|⟨e,he1,he2⟩
 ·exact absurd rfl c5
 have hcm:dT h name k d D=⟨h.shut,h.docs.set k D,h.subs.map (fG name e),h.last⟩:=by unfold dT;rw [if_pos (by omega),he2]
 rw [hcm] at hat;have hmem:e∈D.list:=List.mem_of_getLast? he2;have hpos:0<D.list.length:=List.length_pos_of_mem hmem;obtain ⟨m,hm⟩:∃ m,D.list.length=m+1:=⟨D.list.length - 1,by omega⟩;have hml:m<D.list.length:=by omega
 have hme:D.list[m]=e:=by
  rw [List.getLast?_eq_getElem?,hm,Nat.add_sub_cancel,List.getElem?_eq_getElem hml] at he2;exact Option.some.inj he2
 have hDl:nL ca D.list<=2 ^ 24:=by unfold en at hDn;omega
 have hen:=gf (f:=ca) hDl hmem;have hlen24:=cF hDl;have ew:Go.IntKind.i64.wrap ((D.list.length:Int) - 1)=(m:Int):=by rw [Go.IntWalk.i64_in _ (by omega)];omega
 have em:Go.IntKind.i64.wrap (m:Int)=m:=iM (by omega);simp [c5,hm,em,hme,Entry.row];refine ⟨by omega,λb20=>?_⟩
 refine ar eok (λi:Nat=>i<=h.subs.length) (λi=>⟨107,0,[(86,.v (.int .i64 i)),(85,.v (.int .i64 h.subs.length)),(84,.sl 930 K2 6 0 h.subs.length),(19,.p 304 b19 0),(20,.p 320 b20 0),(17,.v (.int .i64 rev)),(1,.v (.string name)),(12,.p 192 b12 0)],
  [(304, .vars b19 48 [.v (.bool false), .sl 929 K1 5 0 h.docs.length, .sl 930 K2 6 0 h.subs.length, .v (.int .i64 h.last)]), (192, .vars b12 48 [.v (.bool false), .nil, .nil, .v (.int .i64 0)]),
   (320,.vars b20 214 [.v (.int .i64 e.client),.v (.int .i64 e.seq),.ro (e.o.map Part.row)]),
   (929,.rows K1 5 ((h.docs.set k D).map Doc.row) true),(930,.rows K2 6 ((f5 name e h.subs i).map Sub.row) true)]⟩) (λi=>h.subs.length - i) 0 (by simp) (by simp [xH];rfl) (λi hi=>Ent.refl ?_)
 have htl:=rK name e h.subs i;by_cases hlt:i<h.subs.length
 ·have hti:=uw (name:=name) (e:=e) hlt
  have hlt':i<(f5 name e h.subs i).length:=by omega
  have hsk:=xI (name:=name) (e:=e) hlt;have hsu:=rJ (name:=name) (e:=e) hlt;have hmd:=wt hlt' (cV h.subs[i].r e);have hmn:=jy (f:=kM) (lC hl).2 hlt;unfold kM at hmn;rw [hti] at hmd;obtain ⟨s,hs⟩:∃ s,h.subs[i]=s:=⟨_,rfl⟩;rw [hs] at hti hsk hsu hmd hmn;simp [hlt,htl,hti,Sub.row];intro b22;by_cases c6:s.doc=name
  rotate_left
  ·simp [c6]
   refine Ent.refl ⟨i+1,by omega,by omega,?_⟩;rw [<- hsk c6];simp;exact aB (by omega)
  have htell:fG name e s=⟨s.id,s.doc,cV s.r e⟩:=by unfold fG;rw [if_pos c6]
  rw [htell] at hsu;rw [hsu] at hmd;have hpc:=rV s.r (by omega) e (by omega);generalize cV s.r e=R at hpc hmd;simp [c6];refine drw eok mix [0,1,2,3,4,5,7,8] [6,9] (.c 8 6 12 243 (.c 8 9 241 2 (.l 8 2) .s) .s) ?_;simp [hlt]
  try intros
  refine aa.pure (hpc) (by simp [Ring.row,Entry.row]) ?_;simp [Ring.res,hlt,htl]
  try intros
  refine Ent.refl ⟨i+1,by omega,by omega,?_⟩;rw [<- hmd];simp;exact aB (by omega)
 have hie:i=h.subs.length:=by omega
 subst hie;rw [zW];simp [hat,c2];exact uO
theorem GQ {h:Hub} {c:Call} (n:¬ (aH h/\bR c)):fDo h c=(h,cZ 1):=by unfold fDo;rw [if_neg n]
theorem PJ {h:Hub} {c:Call} (y:aH h/\bR c) (k:c.kind=1):fDo h c=if (bE h c.doc c.text).2=0 then ((bE h c.doc c.text).1,cZ 0) else (h,cZ (bE h c.doc c.text).2):=by unfold fDo;rw [if_pos y,if_pos k]
theorem PI {h:Hub} {c:Call} (y:aH h/\bR c) (k:c.kind=2):fDo h c=if (bd h c.doc c.client c.seq c.n c.o).2.2=0 then ((bd h c.doc c.client c.seq c.n c.o).1,⟨0,(bd h c.doc c.client c.seq c.n c.o).2.1,[],[]⟩) else (h,cZ (bd h c.doc c.client c.seq c.n c.o).2.2):=by
 unfold fDo;rw [if_pos y,if_neg (by omega),if_pos k]
theorem MK {h:Hub} {c:Call} (y:aH h/\bR c) (k:c.kind=3\/c.kind=4):fDo h c=(h,nt h c):=by unfold fDo;rw [if_pos y,if_neg (by omega),if_neg (by omega),if_pos k]
theorem PH {h:Hub} {c:Call} (y:aH h/\bR c) (k:c.kind=5):fDo h c=if (aO h c.doc c.n).2.2=0 then ((aO h c.doc c.n).1,⟨0,(aO h c.doc c.n).2.1,[],[]⟩) else (h,cZ (aO h c.doc c.n).2.2):=by
 unfold fDo;rw [if_pos y,if_neg (by omega),if_neg (by omega),if_neg (by omega),if_pos k]
theorem PG {h:Hub} {c:Call} (y:aH h/\bR c) (k:c.kind=6):fDo h c=if (cw h c.client c.n).2.2=0 then ((cw h c.client c.n).1,⟨0,0,[],(cw h c.client c.n).2.1⟩) else (h,cZ (cw h c.client c.n).2.2):=by
 unfold fDo;rw [if_pos y,if_neg (by omega),if_neg (by omega),if_neg (by omega),if_neg (by omega),if_pos k]
theorem PF {h:Hub} {c:Call} (y:aH h/\bR c) (k:c.kind=7):fDo h c=if (bm h c.client).2.2.2=0 then ((bm h c.client).1,⟨0,(bm h c.client).2.2.1,(bm h c.client).2.1,[]⟩) else (h,cZ (bm h c.client).2.2.2):=by
 unfold fDo;rw [if_pos y,if_neg (by omega),if_neg (by omega),if_neg (by omega),if_neg (by omega),if_neg (by omega),if_pos k]
theorem PE {h:Hub} {c:Call} (y:aH h/\bR c) (k:c.kind=8):fDo h c=if (cN h).2=0 then ((cN h).1,cZ 0) else (h,cZ (cN h).2):=by
 unfold fDo;rw [if_pos y,if_neg (by omega),if_neg (by omega),if_neg (by omega),if_neg (by omega),if_neg (by omega),if_neg (by omega)]
theorem Fx (h:Hub) (hl:ja h<=2 ^ 28) (c:Call) (hc:fp c<=2 ^ 28):au Tryz.prog 107 [.agg h.row,.agg c.row] (.tup [.agg (fDo h c).1.res,.agg (fDo h c).2.res]):=by
 refine pci ag Tryz.func107 (λw0 base=>?_);have hcn:c.doc.size<=2 ^ 28/\nL aC c.o<=2 ^ 28/\c.text.length<=2 ^ 28:=by unfold fp at hc;omega
 simp [Hub.row,Call.row];intro b2 b3 b4 b5;refine aa.pure (eB h (by omega)) (by simp [Hub.row]) ?_;by_cases c1:aH h
 rotate_left
 ·simp [ah c1]
  refine aa.pure (cP h (by omega)) (by simp [Hub.row]) ?_;simp [Hub.res,GQ (λh=>c1 h.1),Answer.res,cZ]
 simp [c1];refine aa.pure (ou c (by omega)) (by simp [Call.row]) ?_;by_cases c2:bR c
 rotate_left
 ·simp [ah c2]
  refine aa.pure (cP h (by omega)) (by simp [Hub.row]) ?_;simp [Hub.res,GQ (λh=>c2 h.2),Answer.res,cZ]
 simp [c2];intro b6 b23 b24;have hk:c.kind=1\/c.kind=2\/(c.kind=3\/c.kind=4)\/c.kind=5\/c.kind=6\/c.kind=7\/c.kind=8:=by have:=c2.1;omega
 rcases hk with k|k|k|k|k|k|k
 ·-- kind 1
  have hat:=PJ ⟨c1,c2⟩ k;have hd:=ib h (by omega) c.doc hcn.1 c.text hcn.2.2;generalize bE h c.doc c.text=R at hd hat;obtain ⟨X,code⟩:=R;simp only at hd hat;simp [k];refine aa.pure hd (by simp [Hub.row]) ?_;simp [Hub.res];intros;by_cases z:code=0
  ·rw [if_pos z] at hat
   simp [z,hat,Answer.res,cZ]
  ·rw [if_neg z] at hat
   simp [z];refine aa.pure (cP h (by omega)) (by simp [Hub.row]) ?_;simp [Hub.res,hat,Answer.res,cZ]
 ·-- kind 2
  have hat:=PI ⟨c1,c2⟩ k;have hd:=eR h (by omega) c.doc c.client c.seq c.n c.o (by omega);generalize bd h c.doc c.client c.seq c.n c.o=R at hd hat;obtain ⟨X,rev,code⟩:=R;simp only at hd hat;simp [k];refine aa.pure hd (by simp [Hub.row]) ?_;simp [Hub.res];intros;by_cases z:code=0
  ·rw [if_pos z] at hat
   simp [z,hat,Answer.res]
  ·rw [if_neg z] at hat
   simp [z];refine aa.pure (cP h (by omega)) (by simp [Hub.row]) ?_;simp [Hub.res,hat,Answer.res,cZ]
 ·-- kinds 3, 4
  have hat:=MK ⟨c1,c2⟩ k;have hd:=Ae h (by omega) c1 c;generalize nt h c=A at hd hat;have k1:¬ c.kind=1:=by omega
  have k2:¬ c.kind=2:=by omega
  have fin:∀ _:c.kind=3\/(¬ c.kind=3/\c.kind=4),True:=λ_=>trivial
  rcases k with k|k
  ·simp [k]
   refine drw eok mix [0,2,3] [1,4,5,6] (.c 3 1 4 3 (.c 3 4 3 0 (.c 3 5 0 0 (.c 3 6 0 0 (.l 3 0) .s) .s) .s) .s) ?_;simp
   try intros
   refine aa.pure (cP h (by omega)) (by simp [Hub.row]) ?_;simp [Hub.res]
   try intros
   refine aa.pure (hd) (by simp [Hub.row,Call.row,k]) ?_;simp [Answer.res]
   try intros
   rw [hat];simp
  ·simp [k]
   refine drw eok mix [0,2,3] [1,4,5,6] (.c 3 1 4 3 (.c 3 4 3 0 (.c 3 5 0 0 (.c 3 6 0 0 (.l 3 0) .s) .s) .s) .s) ?_;simp
   try intros
   refine aa.pure (cP h (by omega)) (by simp [Hub.row]) ?_;simp [Hub.res]
   try intros
   refine aa.pure (hd) (by simp [Hub.row,Call.row,k]) ?_;simp [Answer.res]
   try intros
   rw [hat];simp
 ·-- kind 5
  have hat:=PH ⟨c1,c2⟩ k;have hd:=iW h (by omega) c.doc c.n;generalize aO h c.doc c.n=R at hd hat;obtain ⟨X,rev,code⟩:=R;simp only at hd hat;simp [k];refine aa.pure hd (by simp [Hub.row]) ?_;simp [Hub.res];intros;by_cases z:code=0
  ·rw [if_pos z] at hat
   simp [z,hat,Answer.res]
  ·rw [if_neg z] at hat
   simp [z];refine aa.pure (cP h (by omega)) (by simp [Hub.row]) ?_;simp [Hub.res,hat,Answer.res,cZ]
 ·-- kind 6
  have hat:=PG ⟨c1,c2⟩ k;have hd:=nj h (by omega) c.client c.n;generalize cw h c.client c.n=R at hd hat;obtain ⟨X,list,code⟩:=R;simp only at hd hat;simp [k];refine aa.pure hd (by simp [Hub.row]) ?_;simp [Hub.res];intros;by_cases z:code=0
  ·rw [if_pos z] at hat
   simp [z,hat,Answer.res]
  ·rw [if_neg z] at hat
   simp [z];refine aa.pure (cP h (by omega)) (by simp [Hub.row]) ?_;simp [Hub.res,hat,Answer.res,cZ]
 ·-- kind 7
  have hat:=PF ⟨c1,c2⟩ k;have hd:=lk h (by omega) c.client;generalize bm h c.client=R at hd hat;obtain ⟨X,text,rev,code⟩:=R;simp only at hd hat;simp [k];refine aa.pure hd (by simp [Hub.row]) ?_;simp [Hub.res];intros;by_cases z:code=0
  ·rw [if_pos z] at hat
   simp [z,hat,Answer.res]
  ·rw [if_neg z] at hat
   simp [z];refine aa.pure (cP h (by omega)) (by simp [Hub.row]) ?_;simp [Hub.res,hat,Answer.res,cZ]
 ·-- kind 8
  have hat:=PE ⟨c1,c2⟩ k;have hd:=tM h (by omega);generalize cN h=R at hd hat;obtain ⟨X,code⟩:=R;simp only at hd hat;simp [k];refine aa.pure hd (by simp [Hub.row]) ?_;simp [Hub.res];intros;by_cases z:code=0
  ·rw [if_pos z] at hat
   simp [z,hat,Answer.res,cZ]
  ·rw [if_neg z] at hat
   simp [z];refine aa.pure (cP h (by omega)) (by simp [Hub.row]) ?_;simp [Hub.res,hat,Answer.res,cZ]
theorem EN {a b:UInt8}:a<b ↔ a.toNat<b.toNat:=UInt8.lt_iff_toNat_lt
theorem vz:∀ x:List UInt8,Go.Op.bytesLess x x=false
 | []=>rfl
 | a :: x => by
   have h:¬ a<a:=by rw [EN];omega
   rw [Go.Op.bytesLess,vz x];simp [h]
theorem zA:∀ x y z:List UInt8,Go.Op.bytesLess x y=true->Go.Op.bytesLess y z=true->Go.Op.bytesLess x z=true
 | [],[],_,h,_=>by simp [Go.Op.bytesLess] at h
 |_::_,[],_,h,_=>by simp [Go.Op.bytesLess] at h
 |_,_::_,[],_,h=>by simp [Go.Op.bytesLess] at h
 | [],_::_,_::_,_,_=>rfl
 | a :: x, b :: y, c :: z, h1, h2 => by
   rw [Go.Op.bytesLess] at h1 h2 ⊢;simp only [Bool.or_eq_true,Bool.and_eq_true,decide_eq_true_eq,beq_iff_eq] at h1 h2 ⊢;rcases h1 with h1|⟨rfl,h1⟩
   ·rcases h2 with h2|⟨rfl,h2⟩
    ·rw [EN] at h1 h2 ⊢;exact .inl (by omega)
    ·exact .inl h1
   ·rcases h2 with h2|⟨rfl,h2⟩
    ·exact .inl h2
    ·exact .inr ⟨rfl,zA x y z h1 h2⟩
theorem Hi:∀ x y:List UInt8,Go.Op.bytesLess x y=true\/x=y\/Go.Op.bytesLess y x=true
 | [],[]=>.inr (.inl rfl)
 | [],_::_=>.inl rfl
 |_::_,[]=>.inr (.inr rfl)
 | a :: x, b :: y => by
   rw [Go.Op.bytesLess,Go.Op.bytesLess];simp only [Bool.or_eq_true,Bool.and_eq_true,decide_eq_true_eq,beq_iff_eq,List.cons.injEq];by_cases h1:a<b
   ·exact .inl (.inl h1)
   ·by_cases h2:a=b
    ·rcases Hi x y with h|h|h
     ·exact .inl (.inr ⟨h2,h⟩)
     ·exact .inr (.inl ⟨h2,h⟩)
     ·exact .inr (.inr (.inr ⟨h2.symm,h⟩))
    ·have h3:b<a:=by
      rw [EN] at h1 ⊢;have:a.toNat≠b.toNat:=λh=>h2 (UInt8.toNat_inj.1 h)
      omega
     exact .inr (.inr (.inl h3))
theorem Ea {a b:ByteArray} (h:a.toList=b.toList):a=b:=by
 rw [ByteArray.toList_eq,ByteArray.toList_eq] at h;obtain ⟨⟨a⟩⟩:=a;obtain ⟨⟨b⟩⟩:=b;simp only at h;rw [h]
theorem An (a:ByteArray):¬ sLt a a:=by unfold sLt;rw [vz];simp
theorem uL {a b c:ByteArray} (h1:sLt a b) (h2:sLt b c):sLt a c:=zA _ _ _ h1 h2
theorem Il {a b:ByteArray} (h1:¬ sLt a b) (h2:a≠b):sLt b a:=by
 rcases Hi a.toList b.toList with h|h|h
 ·exact absurd h h1
 ·exact absurd (Ea h) h2
 ·exact h
def o3 (a b:Doc):Prop:=sLt a.name b.name
def MR (l:List Doc):Prop:=(∀ d∈l,aR d)/\l.Pairwise o3
def RA (docs:List Doc) (last:Int) (s:Sub):Prop:=(1<=s.id/\s.id<=last)/\bV s.r/\∃ d∈docs,d.name=s.doc/\(s.r.out=false->s.r.next+s.r.list.length=ab d+1)
def BS (a b:Sub):Prop:=a.id<b.id
theorem pS {l:List Doc} (hp:l.Pairwise o3) {k:Nat} (hk:k<l.length):bY l l[k].name=k:=
 rt hk rfl (λj hj hjl e=>by
  have h1:o3 l[j] l[k]:=List.pairwise_iff_getElem.1 hp j k hjl hk hj;unfold o3 at h1;rw [show l[j].name=l[k].name from e] at h1;exact An _ h1)
theorem Cs {l:List Doc} (hp:l.Pairwise o3) {a b:Doc} (ha:a∈l) (hb:b∈l) (h:a.name=b.name):a=b:=by
 obtain ⟨i,hi,rfl⟩:=List.getElem_of_mem ha;obtain ⟨j,hj,rfl⟩:=List.getElem_of_mem hb;have e1:=pS hp hi;have e2:=pS hp hj;rw [h,e2] at e1;have:i=j:=by omega
 subst this;rfl
theorem Bh {l:List Doc} {name:ByteArray}:0<=bY l name ↔ ∃ d∈l,d.name=name:=by
 constructor
 ·intro h
  rcases cI l name with ⟨k,hk,-,hn⟩|e
  ·exact ⟨_,List.getElem_mem hk,hn⟩
  ·omega
 ·rintro ⟨d,hd,hn⟩
  rcases kW (λd:Doc=>d.name=name) l with ⟨k,hk,e,-⟩|⟨-,h⟩
  ·unfold bY;omega
  ·obtain ⟨i,hi,rfl⟩:=List.getElem_of_mem hd
   exact absurd hn (h i hi)
theorem gZ {h:Hub}:aH h ↔ h.docs.length<=5/\h.subs.length<=6/\(0<=h.last/\h.last<=1000000000)/\MR h.docs/\(∀ s∈h.subs,RA h.docs h.last s)/\h.subs.Pairwise BS:=by
 constructor
 ·rintro ⟨h1,h2,h3,h4,h5⟩
  refine ⟨h1,h2,h3,⟨λd hd=>?_,mJ (R:=o3) (λ_ _ _=>uL) λi hi h0=>(h4 i hi).2 h0⟩,λs hs=>?_,mJ (R:=BS) (λ_ _ _=>Int.lt_trans) λi hi h0=>(h5 i hi).2.2.1 h0⟩
  ·obtain ⟨i,hi,rfl⟩:=List.getElem_of_mem hd
   exact (h4 i hi).1
  ·obtain ⟨i,hi,rfl⟩:=List.getElem_of_mem hs
   obtain ⟨g1,g2,-,k,hk,e,g3⟩:=h5 i hi;refine ⟨g1,g2,h.docs[k],List.getElem_mem hk,?_,g3⟩;rcases cI h.docs h.subs[i].doc with ⟨j,hj,e',hn⟩|e'
   ·have:j=k:=by omega
    subst this;exact hn
   ·omega
 ·rintro ⟨h1,h2,h3,⟨h4,h5⟩,h6,h7⟩
  refine ⟨h1,h2,h3,λi hi=>⟨h4 _ (List.getElem_mem hi),λh0=>pX h5 i hi h0⟩,λi hi=>?_⟩;obtain ⟨g1,g2,d,hd,hn,g3⟩:=h6 _ (List.getElem_mem hi);obtain ⟨k,hk,rfl⟩:=List.getElem_of_mem hd;refine ⟨g1,g2,λh0=>pX h7 i hi h0,k,hk,?_,g3⟩;rw [<- hn];exact pS h5 hk
theorem ji {d x:Doc}:∀ {l:List Doc},x∈gi d l ↔ x=d\/x∈l
 | []=>by simp [gi]
 | y :: l => by
   unfold gi
   split
   ·rw [List.mem_cons,ji (l:=l),List.mem_cons]
    constructor
    ·rintro (h|h|h)
     ·exact .inr (.inl h)
     ·exact .inl h
     ·exact .inr (.inr h)
    ·rintro (h|h|h)
     ·exact .inr (.inl h)
     ·exact .inl h
     ·exact .inr (.inr h)
   ·rw [List.mem_cons]
theorem vo {d:Doc}:∀ {l:List Doc},l.Pairwise o3->(∀ x∈l,x.name≠d.name)->(gi d l).Pairwise o3
 | [],_,_=>by simp [gi]
 | y :: l, h, hn => by
   obtain ⟨h1,h2⟩:=List.pairwise_cons.1 h;unfold gi
   split
   ·rename_i hc
    refine List.pairwise_cons.2 ⟨λx hx=>?_,vo h2 (λx hx=>hn x (List.mem_cons_of_mem _ hx))⟩;rcases ji.1 hx with rfl|hx
    ·exact hc
    ·exact h1 x hx
   ·rename_i hc
    have h3:o3 d y:=Il hc (hn y (List.mem_cons_self ..));refine List.pairwise_cons.2 ⟨λx hx=>?_,h⟩;rcases List.mem_cons.1 hx with rfl|hx
    ·exact h3
    ·exact uL h3 (h1 x hx)
theorem sR (d:Doc):∀ l:List Doc,(gi d l).length=l.length+1
 | []=>rfl
 | y :: l => by
   unfold gi
   split
   ·simp [sR d l]
   ·rfl
def iL (a b:List Doc):Prop:=∀ name,(∃ d∈a,d.name=name)->∃ d∈b,d.name=name
theorem IH {h:Hub} (c:aH h) {name:ByteArray} {t:List Int} (hd:aR (dZ name t)) (hi:¬ 0<=bY h.docs name) (hl:¬ h.docs.length=5):aH ⟨h.shut,gi (dZ name t) h.docs,h.subs,h.last⟩:=by
 rw [gZ] at c ⊢;obtain ⟨h1,h2,h3,⟨h4,h5⟩,h6,h7⟩:=c;have hn:∀ x∈h.docs,x.name≠(dZ name t).name:=λx hx e=>hi (Bh.2 ⟨x,hx,e⟩)
 refine ⟨by rw [sR];omega,h2,h3,⟨λd hx=>?_,vo h5 hn⟩,λs hs=>?_,h7⟩
 ·rcases ji.1 hx with rfl|hx
  ·exact hd
  ·exact h4 d hx
 ·obtain ⟨g1,g2,d,hx,g3⟩:=h6 s hs
  exact ⟨g1,g2,d,ji.2 (.inr hx),g3⟩
theorem yh {r:Ring} (h:bV r) {e:Entry} (he:bN e):bV (cV r e)/\((cV r e).out=false->r.out=false/\(cV r e).next=r.next/\(cV r e).list.length=r.list.length+1):=by
 by_cases c:r.out=false
 ·obtain ⟨g1,g2,g3,g4,g5⟩:=h
  by_cases f:(r.list.length:Int)=r.cap
  ·rw [mn ⟨⟨g1,g2,g3,g4,g5⟩,he,c⟩ f]
   exact ⟨⟨by simp,g2,g3,by simp only [List.length_nil];omega,by simp⟩,by simp⟩
  ·rw [mm ⟨⟨g1,g2,g3,g4,g5⟩,he,c⟩ f]
   refine ⟨⟨λx hx=>?_,g2,g3,by simp only [List.length_append,List.length_cons,List.length_nil];omega,by rw [c];simp⟩,λ_=>⟨c,rfl,by simp⟩⟩;rcases List.mem_append.1 hx with hx|hx
   ·exact g1 x hx
   ·simp at hx;subst hx;exact he
 ·rw [oX (λh=>c h.2.2)]
  exact ⟨h,λh=>absurd h c⟩
theorem FB {α β:Type} {R:β->β->Prop} {f:α->β} {l:List α} {k:Nat} {x:α} (hk:k<l.length) (hf:f x=f l[k]) (h:l.Pairwise λa b=>R (f a) (f b)):(l.set k x).Pairwise λa b=>R (f a) (f b):=by
 have h1:(l.map f).Pairwise R:=List.pairwise_map.2 h
 have e:(l.set k x).map f=l.map f:=by
  rw [List.map_set,hf];refine List.ext_getElem (by simp) (λj h1 h2=>?_);rw [List.getElem_set]
  split
  ·rename_i e;subst e;simp
  ·rfl
 rw [<- e] at h1;exact List.pairwise_map.1 h1
theorem AF {α:Type} {l:List α} {k:Nat} {x y:α} (hk:k<l.length) (hy:y∈l) (hne:y≠l[k]):y∈l.set k x:=by
 obtain ⟨j,hj,rfl⟩:=List.getElem_of_mem hy;have hjk:k≠j:=λe=>by subst e;exact hne rfl
 have:(l.set k x)[j]'(by simpa using hj)=l[j]:=by rw [List.getElem_set_ne hjk]
 rw [<- this];exact List.getElem_mem _
theorem sr {α:Type} {l:List α} {k:Nat} {x:α} (hk:k<l.length):x∈l.set k x:=List.mem_set hk x
theorem D0 {h:Hub} (c:aH h) {name:ByteArray} {k:Nat} (hk:k<h.docs.length) (hn:h.docs[k].name=name) {D:Doc} (hD:aR D) (hDn:D.name=h.docs[k].name)
 (hor:D=h.docs[k]\/∃ e,bN e/\ab D=ab h.docs[k]+1/\D.list.getLast? = some e):aH (dT h name k h.docs[k] D)/\iL h.docs (dT h name k h.docs[k] D).docs:=by
 rcases hor with rfl|⟨e,he,hr,hg⟩
 ·have e1:dT h name k h.docs[k] h.docs[k]=h:=by
   unfold dT;rw [if_neg (by omega),List.set_getElem_self]
  rw [e1];exact ⟨c,λ_ h=>h⟩
 ·have e1:dT h name k h.docs[k] D=⟨h.shut,h.docs.set k D,h.subs.map (fG name e),h.last⟩:=by
   unfold dT;rw [if_pos (by omega),hg]
  rw [e1];rw [gZ] at c ⊢;obtain ⟨h1,h2,h3,⟨h4,h5⟩,h6,h7⟩:=c;have hkeep:∀ d∈h.docs,d.name≠name->d∈h.docs.set k D:=λd hd hne=>AF hk hd (λe=>hne (by rw [e,hn]))
  refine ⟨⟨by simpa using h1,by simpa using h2,h3,⟨λd hd=>?_,FB (f:=Doc.name) (R:=sLt) hk hDn h5⟩,λs hs=>?_,?_⟩,?_⟩
  ·rcases List.mem_or_eq_of_mem_set hd with hd|rfl
   ·exact h4 d hd
   ·exact hD
  ·rw [List.mem_map] at hs
   obtain ⟨s,hs,rfl⟩:=hs;obtain ⟨g1,g2,d,hd,hdn,g3⟩:=h6 s hs;unfold fG
   split
   ·rename_i hc
    have hu:d=h.docs[k]:=Cs h5 hd (List.getElem_mem hk) (by rw [hdn,hc,hn]);subst hu;obtain ⟨p1,p2⟩:=yh g2 he;refine ⟨g1,p1,D,sr hk,by rw [hDn,hdn],λho=>?_⟩;obtain ⟨q1,q2,q3⟩:=p2 ho;have:=g3 q1;simp only at q2 q3 ⊢;omega
   ·rename_i hc
    exact ⟨g1,g2,d,hkeep d hd (λe=>hc (by rw [<- hdn,e])),hdn,g3⟩
  ·rw [List.pairwise_map]
   refine h7.imp ?_;intro a b hab;have ea:∀ s:Sub,(fG name e s).id=s.id:=λs=>by unfold fG;split<;>rfl
   unfold BS;rw [ea,ea];exact hab
  ·rintro nm ⟨d,hd,hdn⟩
   by_cases hc:d.name=name
   ·exact ⟨D,sr hk,by rw [hDn,hn,<- hc,hdn]⟩
   ·exact ⟨d,hkeep d hd hc,hdn⟩
theorem vY {h:Hub} (c:aH h) {room:Int} (hr:1<=room/\room<=6) {k:Nat} (hk:k<h.docs.length) (hl:¬ (h.subs.length=6\/h.last=1000000000)) :
 aH ⟨h.shut,h.docs,h.subs++[⟨h.last+1,h.docs[k].name,(eT room (ab h.docs[k])).1⟩],h.last+1⟩:=by
 have hh:=aE (dX c hk);have hring:bV (bC room (ab h.docs[k])):=⟨by simp [bC],hr,by simp only [bC];omega,by simp only [bC,List.length_nil];omega,by simp [bC]⟩;rw [kT hring];rw [gZ] at c ⊢;obtain ⟨h1,h2,h3,h4,h6,h7⟩:=c;refine ⟨h1,by simp only [List.length_append,List.length_cons,List.length_nil];omega,by simp only;omega,h4,λs hs=>?_,?_⟩
 ·rcases List.mem_append.1 hs with hs|hs
  ·obtain ⟨g1,g2⟩:=h6 s hs
   exact ⟨by simp only;omega,g2⟩
  ·simp at hs
   subst hs;exact ⟨by simp only;omega,hring,_,List.getElem_mem hk,rfl,λ_=>by simp [bC]⟩
 ·rw [List.pairwise_append]
  refine ⟨h7,by simp,λa ha b hb=>?_⟩;simp at hb;subst hb;have:=(h6 a ha).1;unfold BS;simp only;omega
theorem uA {h:Hub} (c:aH h) {k:Nat} (hk:k<h.subs.length) {r:Ring} (hr:bV r) (hd:∀ d∈h.docs,d.name=h.subs[k].doc->(h.subs[k].r.out=false->h.subs[k].r.next+h.subs[k].r.list.length=ab d+1)->r.out=false->r.next+r.list.length=ab d+1) :
 aH ⟨h.shut,h.docs,h.subs.set k ⟨h.subs[k].id,h.subs[k].doc,r⟩,h.last⟩:=by
 rw [gZ] at c ⊢;obtain ⟨h1,h2,h3,h4,h6,h7⟩:=c;refine ⟨h1,by simpa using h2,h3,h4,λs hs=>?_,FB (f:=Sub.id) (R:=λa b:Int=>a<b) hk rfl h7⟩;rcases List.mem_or_eq_of_mem_set hs with hs|rfl
 ·exact h6 s hs
 ·obtain ⟨g1,g2,d,hx,hn,g3⟩:=h6 _ (List.getElem_mem hk)
  exact ⟨g1,hr,d,hx,hn,hd d hx hn g3⟩
theorem mp {h:Hub} {name:ByteArray} {t:List Int} (hz:(bE h name t).2=0):aH (bE h name t).1/\iL h.docs (bE h name t).1.docs:=by
 unfold bE at hz ⊢
 split at hz
 ·rename_i c
  rw [if_pos c]
  split at hz
  ·simp at hz
  ·rename_i c1
   rw [if_neg c1]
   split at hz
   ·simp at hz
   ·rename_i c2
    rw [if_neg c2]
    split at hz
    ·simp at hz
    ·rename_i c3
     rw [if_neg c3];exact ⟨IH c.1 c.2 c2 c3,λnm ⟨d,hd,e⟩=>⟨d,ji.2 (.inr hd),e⟩⟩
 ·simp at hz
theorem fU {h:Hub} {name:ByteArray} {client seq base:Int} {o:List Part} (hz:(bd h name client seq base o).2.2=0):aH (bd h name client seq base o).1/\iL h.docs (bd h name client seq base o).1.docs:=by
 by_cases c:aH h
 rotate_left
 ·rw [nu c] at hz;simp at hz
 by_cases s:h.shut=true
 ·rw [lF c s] at hz;simp at hz
 rcases cI h.docs name with ⟨k,hk,e,hn⟩|e;rotate_left
 ·rw [lG c s e] at hz;simp at hz
 rw [nv c s hk e] at hz ⊢
 split at hz
 ·rename_i h0
  rw [if_pos h0];obtain ⟨d1,d2,d3⟩:=jR (dX c hk) h0;refine D0 c hk hn d1 d2 ?_;rcases d3 with d3|⟨e,he,-,-,d3,-⟩
  ·exact .inl d3
  ·rw [d3];exact .inr ⟨e,he,gL (dX c hk) e⟩
 ·rename_i h0;exact absurd hz h0
theorem ka {h:Hub} {name:ByteArray} {room:Int} (hz:(aO h name room).2.2=0):aH (aO h name room).1/\iL h.docs (aO h name room).1.docs:=by
 by_cases c:aH h/\(1<=room/\room<=6)
 rotate_left
 ·rw [hO c] at hz;simp at hz
 by_cases s:h.shut=true
 ·rw [je c s] at hz;simp at hz
 rcases cI h.docs name with ⟨k,hk,e,hn⟩|e;rotate_left
 ·rw [jf c s e] at hz;simp at hz
 rw [ke c s hk e] at hz ⊢
 split at hz
 ·simp at hz
 ·rename_i hl
  rw [if_neg hl];subst hn;exact ⟨vY c.1 c.2 hk hl,λ_ h=>h⟩
theorem qA {h:Hub} {id n:Int} (hz:(cw h id n).2.2=0):aH (cw h id n).1/\iL h.docs (cw h id n).1.docs:=by
 by_cases c:aH h/\1<=n
 rotate_left
 ·rw [mo c] at hz;simp at hz
 rcases iG h.subs id with ⟨k,hk,e,-⟩|e;rotate_left
 ·rw [nB c e] at hz;simp at hz
 rw [qB c hk e] at hz ⊢
 split at hz
 ·rename_i h0
  rw [if_pos h0];refine ⟨?_,λ_ h=>h⟩;have hro:=(wM c.1 hk).1;obtain ⟨g1,g2,g3,g4,g5⟩:=hro;have hsub:=(gZ.1 c.1).2.2.2.2.1 _ (List.getElem_mem hk);obtain ⟨-,-,d0,hd0,hn0,hnx⟩:=hsub;obtain ⟨i0,hi0,rfl⟩:=List.getElem_of_mem hd0;have hh:=aE (dX c.1 hi0)
  cases ho:h.subs[k].r.out with
  |true=>rw [ns ⟨⟨g1,g2,g3,g4,g5⟩,c.2⟩ ho] at h0;simp at h0
  |false=>
  rw [nq ⟨⟨g1,g2,g3,g4,g5⟩,c.2⟩ ho rfl];have hk1:min n.toNat h.subs[k].r.list.length<=h.subs[k].r.list.length:=Nat.min_le_right _ _;have hnx:=hnx ho;generalize min n.toNat h.subs[k].r.list.length=m at hk1;refine uA c.1 hk ⟨λx hx=>g1 x (List.mem_of_mem_drop hx),g2,by simp only;omega,by simp only [List.length_drop];omega,by simp only;rw [ho];simp⟩ ?_;intro d hd hdn hnext _;have:=hnext ho;simp only [List.length_drop];omega
 ·rename_i h0;exact absurd hz h0
theorem nw {h:Hub} {id:Int} (hz:(bm h id).2.2.2=0):aH (bm h id).1/\iL h.docs (bm h id).1.docs:=by
 by_cases c:aH h
 rotate_left
 ·rw [ny c] at hz;simp at hz
 rcases iG h.subs id with ⟨k,hk,e,-⟩|e;rotate_left
 ·rw [lH c e] at hz;simp at hz
 obtain ⟨hro,j,hj,ej⟩:=wM c hk;rw [nz c hk e hj ej];refine ⟨?_,λ_ h=>h⟩;have hh:=aE (dX c hj)
 have hjn:h.docs[j].name=h.subs[k].doc:=by
  rcases cI h.docs h.subs[k].doc with ⟨i,hi,e',hn⟩|e'
  ·have:i=j:=by omega
   subst this;exact hn
  ·omega
 have hring:bV (bC h.subs[k].r.cap (ab h.docs[j])):=⟨by simp [bC],hro.2.1,by simp only [bC];omega,by have:=hro.2.1;simp only [bC,List.length_nil];omega,by simp [bC]⟩;rw [lE hro,kT hring];refine uA c hk hring ?_;intro d hd hdn _ _;have:=Cs (gZ.1 c).2.2.2.1.2 hd (List.getElem_mem hj) (by rw [hdn,hjn]);subst this;simp [bC]
theorem zl {h:Hub} (hz:(cN h).2=0):aH (cN h).1/\iL h.docs (cN h).1.docs:=by
 unfold cN at hz ⊢
 split at hz
 ·rename_i c
  rw [if_pos c]
  split at hz
  ·simp at hz
  ·rename_i c1
   rw [if_neg c1];exact ⟨c,λ_ h=>h⟩
 ·simp at hz
theorem MJ {h:Hub} (c:aH h) (k:Call):aH (fDo h k).1/\iL h.docs (fDo h k).1.docs:=by
 have same:aH h/\iL h.docs h.docs:=⟨c,λ_ h=>h⟩;unfold fDo
 split
 ·split
  ·split
   ·rename_i z;exact mp z
   ·exact same
  ·split
   ·split
    ·rename_i z;exact fU z
    ·exact same
   ·split
    ·exact same
    ·split
     ·split
      ·rename_i z;exact ka z
      ·exact same
     ·split
      ·split
       ·rename_i z;exact qA z
       ·exact same
      ·split
       ·split
        ·rename_i z;exact nw z
        ·exact same
       ·split
        ·rename_i z;exact zl z
        ·exact same
 ·exact same
set_option maxHeartbeats 1600000
set_option maxHeartbeats 6400000
theorem FF {r:Ring} (h:bV r):jx r<=2 ^ 21:=by
 obtain ⟨h1,h2,h3,h4,-⟩:=h;have hb:nL ca r.list<=r.list.length*(2 ^ 18+1):=nn (λe he=>lZ (h1 e he).2.2.1);have hc:=Nat.mul_le_mul_right (2 ^ 18+1) (show r.list.length<=6 by omega);unfold jx;omega
theorem OQ {h:Hub} (c:aH h) {s:Sub} (hs:s∈h.subs):kM s<=2 ^ 22:=by
 obtain ⟨i,hi,rfl⟩:=List.getElem_of_mem hs;obtain ⟨-,h2,-,k,hk,e,-⟩:=c.2.2.2.2 i hi;have h3:=FF h2
 have h4:h.subs[i].doc.size<=8:=by
  rcases cI h.docs h.subs[i].doc with ⟨j,hj,e',hn⟩|e'
  ·rw [<- hn];exact (dX c hj).1.1.2
  ·omega
 unfold kM;omega
theorem rn {h:Hub} (c:aH h):ja h<=2 ^ 27/\nL en h.docs<=2 ^ 26/\nL kM h.subs<=2 ^ 25:=by
 have h1:nL en h.docs<=h.docs.length*(2 ^ 23+1):=nn (λd hd=>by
  obtain ⟨i,hi,rfl⟩:=List.getElem_of_mem hd;exact ij (dX c hi))
 have h2:nL kM h.subs<=h.subs.length*(2 ^ 22+1):=nn (λs hs=>OQ c hs);have h3:=Nat.mul_le_mul_right (2 ^ 23+1) c.1;have h4:=Nat.mul_le_mul_right (2 ^ 22+1) c.2.1;unfold ja;omega
set_option maxHeartbeats 12800000
def LF (p:Hub->Prop) (rr:RR):Prop:=∃ h:Hub,p h/\rr=.one (.agg h.res)
theorem oF {o:List Part} (h:o.length<=44) (hp:∀ p∈o,lY p):nL aC o<=2 ^ 40:=by
 have:=nn (f:=aC) (l:=o) (B:=2 ^ 20) (λp hq=>by have:=hp p hq;unfold lY at this;unfold aC;omega);omega
theorem Cm (l:List UInt8) (hl:l.length<=2 ^ 40) (a:Hub) (ok:aH a):lh Tryz.prog 96 (l.map dL) 105 [.agg a.row] (LF aH):=by
 refine lh.intro ag Tryz.func105 (by kernel_rfl) rfl rfl rfl (Nat.le_of_ble_eq_true rfl) (λw0 base o b u i h hi0 hi1 hu=>?_);have hi1:i<=(l.length:Int):=by simpa using hi1
 have hn:ja a<=2 ^ 28:=Nat.le_trans (rn ok).1 (by decide);simp [Hub.row];intro b3 b4 b5;refine aa.cur (ak l hl 10) hu (by simp) rfl hi0 hi1 (by simp) ?_
 rintro _ i1 h1 ⟨z,hz,rfl⟩ g0 g1
 simp;by_cases z0:z=0
 ·simp [z0]
  refine drw eok mix [0,1,3] [2,4,5,6,7,8,9,10] (.c 3 2 2 5 (.c 3 4 1 4 (.c 3 5 4 0 (.c 3 6 0 0 (.c 3 7 0 0 (.c 3 8 0 0 (.c 3 9 0 0 (.c 3 10 0 0 (.l 3 0) .s) .s) .s) .s) .s) .s) .s) .s) ?_;simp
  try intros
  refine bn (mQ l hl).toN hu (by simp) rfl g0 g1 (by simp) ?_;rintro _ i2 h2 ⟨s,hs,rfl⟩ g0 g1;simp
  try intros
  refine bn (gh l hl 6 (by omega) (by omega)).toN hu (by simp) rfl g0 g1 (by simp) ?_;rintro _ i3 h3 ⟨t,ht,rfl⟩ g0 g1;simp
  try intros
  have ho:=mp (h:=a) (name:=s) (t:=t);have hc:=ib a hn s (by have:=hs.1;omega) t (by have:=ht.1;omega);generalize bE a s t=r at ho hc;obtain ⟨x,code⟩:=r;refine aa.ro hc (by simp [Hub.row]) ?_;simp [Hub.res]
  try intros
  by_cases hz:code=0
  ·simp [hz]
   refine ⟨_,⟨x,(ho hz).1,rfl⟩,?_,ai rfl g0 g1⟩;simp [Hub.res]
  ·simp [hz]
   refine ⟨_,⟨a,ok,rfl⟩,?_,ai rfl g0 g1⟩;simp [Hub.res]
 by_cases z1:z=1
 ·simp [z1]
  refine drw eok mix [0,1,3] [2,4,5,6,7,8,9,10,11,12] (.c 3 2 2 5 (.c 3 4 1 4 (.c 3 5 0 4 (.c 3 6 4 0 (.c 3 7 0 0 (.c 3 8 0 0 (.c 3 9 0 0 (.c 3 10 0 0 (.c 3 11 0 0 (.c 3 12 0 0 (.l 3 0) .s) .s) .s) .s) .s) .s) .s) .s) .s) .s) ?_;simp
  try intros
  refine bn (mQ l hl).toN hu (by simp) rfl g0 g1 (by simp) ?_;rintro _ i2 h2 ⟨s,hs,rfl⟩ g0 g1;simp
  try intros
  refine aa.cur (ak l hl 3) hu (by simp) rfl g0 g1 (by simp) ?_;rintro _ i3 h3 ⟨y,hy,rfl⟩ g0 g1;have wy:=Go.IntWalk.i64_in (1+y) (by have:=hy.1;have:=hy.2;omega);simp
  try intros
  have ho:=ka (h:=a) (name:=s) (room:=1+y);have hc:=iW a hn s (1+y);generalize aO a s (1+y)=r at ho hc;obtain ⟨x,id,code⟩:=r;refine aa.ro hc (by simp [Hub.row,wy]) ?_;simp [Hub.res]
  try intros
  by_cases hz:code=0
  ·simp [hz]
   refine ⟨_,⟨x,(ho hz).1,rfl⟩,?_,ai rfl g0 g1⟩;simp [Hub.res]
  ·simp [hz]
   refine ⟨_,⟨a,ok,rfl⟩,?_,ai rfl g0 g1⟩;simp [Hub.res]
 by_cases z2:z=2
 ·simp [z2]
  refine drw eok mix [0,1,3] [2,4,5,6,7,8,9,10,11,12] (.c 3 2 2 5 (.c 3 4 1 4 (.c 3 5 0 4 (.c 3 6 4 0 (.c 3 7 0 0 (.c 3 8 0 0 (.c 3 9 0 0 (.c 3 10 0 0 (.c 3 11 0 0 (.c 3 12 0 0 (.l 3 0) .s) .s) .s) .s) .s) .s) .s) .s) .s) .s) ?_;simp
  try intros
  refine aa.cur (ak l hl 5) hu (by simp) rfl g0 g1 (by simp) ?_;rintro _ i2 h2 ⟨q,hq,rfl⟩ g0 g1;simp
  try intros
  refine aa.cur (ak l hl 2) hu (by simp) rfl g0 g1 (by simp) ?_;rintro _ i3 h3 ⟨y,hy,rfl⟩ g0 g1;have wy:=Go.IntWalk.i64_in (1+y) (by have:=hy.1;have:=hy.2;omega);simp
  try intros
  have ho:=qA (h:=a) (id:=q) (n:=1+y);have hc:=nj a hn q (1+y);generalize cw a q (1+y)=r at ho hc;obtain ⟨x,es,code⟩:=r;refine aa.ro hc (by simp [Hub.row,wy]) ?_;simp [Hub.res]
  try intros
  by_cases hz:code=0
  ·simp [hz]
   refine ⟨_,⟨x,(ho hz).1,rfl⟩,?_,ai rfl g0 g1⟩;simp [Hub.res]
  ·simp [hz]
   refine ⟨_,⟨a,ok,rfl⟩,?_,ai rfl g0 g1⟩;simp [Hub.res]
 by_cases z3:z=3
 ·simp [z3]
  refine drw eok mix [0,1] [2,3,4,5,6,7,8,9,10] (.c 2 2 1 2 (.c 2 3 2 0 (.c 2 4 0 0 (.c 2 5 0 0 (.c 2 6 0 0 (.c 2 7 0 0 (.c 2 8 0 0 (.c 2 9 0 0 (.c 2 10 0 0 (.l 2 0) .s) .s) .s) .s) .s) .s) .s) .s) .s) ?_;simp
  try intros
  refine aa.cur (ak l hl 5) hu (by simp) rfl g0 g1 (by simp) ?_;rintro _ i2 h2 ⟨q,hq,rfl⟩ g0 g1;simp
  try intros
  have ho:=nw (h:=a) (id:=q);have hc:=lk a hn q;generalize bm a q=r at ho hc;obtain ⟨x,tx,rv,code⟩:=r;refine aa.ro hc (by simp [Hub.row]) ?_;simp [Hub.res]
  try intros
  by_cases hz:code=0
  ·simp [hz]
   refine ⟨_,⟨x,(ho hz).1,rfl⟩,?_,ai rfl g0 g1⟩;simp [Hub.res]
  ·simp [hz]
   refine ⟨_,⟨a,ok,rfl⟩,?_,ai rfl g0 g1⟩;simp [Hub.res]
 simp [z0,z1,z2,z3];by_cases e0:a.docs=[]
 ·simp [e0]
  refine ⟨_,⟨a,ok,rfl⟩,?_,ai rfl g0 g1⟩;simp [Hub.res,e0]
 simp [e0];have hpos:0<a.docs.length:=List.length_pos_iff.2 e0;refine drw eok mix [0,1,2,3,4,5] [6,7,8,9,10] (.c 6 6 9 54 (.c 6 7 16 38 (.c 6 8 0 38 (.c 6 9 0 38 (.c 6 10 38 0 (.l 6 0) .s) .s) (.c 6 9 0 38 (.c 6 8 0 38 (.c 6 10 38 0 (.l 6 0) .s) .s) .s)) (.c 6 9 0 54 (.c 6 7 16 38 (.c 6 8 0 38 (.c 6 10 38 0 (.l 6 0) .s) .s) .s) .s)) (.c 6 9 0 63 (.c 6 6 9 54 (.c 6 7 16 38 (.c 6 8 0 38 (.c 6 10 38 0 (.l 6 0) .s) .s) .s) .s) .s)) ?_;simp
 try intros
 rw [Trc];refine ⟨?_,?_⟩
 ·skip
  simp
  try intros
  refine aa.cur (ak l hl a.docs.length) hu (by simp) rfl g0 g1 (by simp) ?_;rintro _ i2 h2 ⟨kk,hkk,rfl⟩ g0 g1;obtain ⟨k,rfl⟩:∃ k:Nat,kk=(k:Int):=⟨kk.toNat,by have:=hkk.1;omega⟩;have hk:k<a.docs.length:=(by have:=hkk.2.2 (by omega);omega);obtain ⟨d,hd⟩:∃ d,a.docs[k]=d:=⟨_,rfl⟩;simp
  try intros
  rw [Trc];refine ⟨?_,?_⟩
  ·skip
   simp [hk,hd,Doc.row]
   try intros
   rw [Trc];refine ⟨?_,?_⟩
   ·skip
    simp
    try intros
    have dok:aR d:=hd ▸ dX ok hk;have dn:=ij dok;have hh:=aE dok;refine aa.cur (ak l hl 3) hu (by simp) rfl g0 g1 (by simp) ?_
    rintro _ i3 h3 ⟨y,hy,rfl⟩ g0 g1
    have hy1:=hy.1;have hy2:=hy.2.2 (by omega);have wy:=Go.IntWalk.i64_in (1+y) (by omega);simp [wy];have hsb:=it dok (1+y);have hsc:=dt d (by omega) (1+y);generalize aS d (1+y)=q at hsb hsc;obtain ⟨sn,sb⟩:=q;simp only at hsb hsc;refine aa.ro hsc (by simp [Doc.row]) ?_;simp [Seen.res];intro b9;have wl:=Go.IntWalk.i64_in ((d.list.length:Int)+1) (by omega);have wsq:=Go.IntWalk.i64_in (sn.seq+1) (by omega);refine drw eok mix [0,2,3,4,5,6] [1,7,8,9] (.c 6 1 32 31 (.c 6 7 17 14 (.c 6 8 0 14 (.c 6 9 14 0 (.l 6 0) .s) .s) .s) .s) ?_;simp [wl]
    try intros
    refine aa.ro (aI d) (by simp [Doc.row]) ?_;simp
    try intros
    refine aa.cur (ak l hl ((d.list.length:Int)+1)) hu (by simp) rfl g0 g1 (by simp) ?_;rintro _ i4 h4 ⟨bb,hbb,rfl⟩ g0 g1;simp
    try intros
    generalize Go.IntKind.i64.wrap (ab d - bb)=rv;refine drw eok mix [0,1,2,3,4,5,6,7,8,9,10] [11,12,13,14,15,16,17,18] (.c 11 11 7 2040 (.c 11 12 1432 608 (.c 11 13 0 608 (.c 11 14 0 608 (.c 11 15 0 608 (.c 11 16 0 608 (.c 11 17 608 0 (.c 11 18 0 0 (.l 11 0) .s) .s) .s) .s) .s) .s) .s) .s) ?_;simp [wsq]
    try intros
    refine bn (mP l hl d (by omega) rv).toN hu (by simp) rfl g0 g1 (by simp [Doc.row]) ?_;rintro _ i5 h5 ⟨op,⟨hol,hop⟩,rfl⟩ g0 g1;simp
    try intros
    have ho:=fU (h:=a) (name:=d.name) (client:=1+y) (seq:=sn.seq+1) (base:=rv) (o:=op);have hc:=eR a hn d.name (1+y) (sn.seq+1) rv op (oF hol hop);generalize bd a d.name (1+y) (sn.seq+1) rv op=r at ho hc;obtain ⟨x,nr,code⟩:=r;refine aa.ro hc (by simp [Hub.row]) ?_;simp [Hub.res]
    try intros
    by_cases hz:code=0
    ·simp [hz]
     refine ⟨_,⟨x,(ho hz).1,rfl⟩,?_,ai rfl g0 g1⟩;simp [Hub.res]
    ·simp [hz]
     refine ⟨_,⟨a,ok,rfl⟩,?_,ai rfl g0 g1⟩;simp [Hub.res]
   ·skip
    simp
    try intros
    have dok:aR d:=hd ▸ dX ok hk;have dn:=ij dok;have hh:=aE dok;refine aa.cur (ak l hl 3) hu (by simp) rfl g0 g1 (by simp) ?_
    rintro _ i3 h3 ⟨y,hy,rfl⟩ g0 g1
    have hy1:=hy.1;have hy2:=hy.2.2 (by omega);have wy:=Go.IntWalk.i64_in (1+y) (by omega);simp [wy];have hsb:=it dok (1+y);have hsc:=dt d (by omega) (1+y);generalize aS d (1+y)=q at hsb hsc;obtain ⟨sn,sb⟩:=q;simp only at hsb hsc;refine aa.ro hsc (by simp [Doc.row]) ?_;simp [Seen.res];intro b9;have wl:=Go.IntWalk.i64_in ((d.list.length:Int)+1) (by omega);have wsq:=Go.IntWalk.i64_in (sn.seq+1) (by omega);refine drw eok mix [0,2,3,4,5,6] [1,7,8,9] (.c 6 1 32 31 (.c 6 7 17 14 (.c 6 8 0 14 (.c 6 9 14 0 (.l 6 0) .s) .s) .s) .s) ?_;simp [wl]
    try intros
    refine aa.ro (aI d) (by simp [Doc.row]) ?_;simp
    try intros
    refine aa.cur (ak l hl ((d.list.length:Int)+1)) hu (by simp) rfl g0 g1 (by simp) ?_;rintro _ i4 h4 ⟨bb,hbb,rfl⟩ g0 g1;simp
    try intros
    generalize Go.IntKind.i64.wrap (ab d - bb)=rv;refine drw eok mix [0,1,2,3,4,5,6,7,8,9,10] [11,12,13,14,15,16,17,18] (.c 11 11 7 2040 (.c 11 12 1432 608 (.c 11 13 0 608 (.c 11 14 0 608 (.c 11 15 0 608 (.c 11 16 0 608 (.c 11 17 608 0 (.c 11 18 0 0 (.l 11 0) .s) .s) .s) .s) .s) .s) .s) .s) ?_;simp [wsq]
    try intros
    refine bn (mP l hl d (by omega) rv).toN hu (by simp) rfl g0 g1 (by simp [Doc.row]) ?_;rintro _ i5 h5 ⟨op,⟨hol,hop⟩,rfl⟩ g0 g1;simp
    try intros
    have ho:=fU (h:=a) (name:=d.name) (client:=1+y) (seq:=sn.seq+1) (base:=rv) (o:=op);have hc:=eR a hn d.name (1+y) (sn.seq+1) rv op (oF hol hop);generalize bd a d.name (1+y) (sn.seq+1) rv op=r at ho hc;obtain ⟨x,nr,code⟩:=r;refine aa.ro hc (by simp [Hub.row]) ?_;simp [Hub.res]
    try intros
    by_cases hz:code=0
    ·simp [hz]
     refine ⟨_,⟨x,(ho hz).1,rfl⟩,?_,ai rfl g0 g1⟩;simp [Hub.res]
    ·simp [hz]
     refine ⟨_,⟨a,ok,rfl⟩,?_,ai rfl g0 g1⟩;simp [Hub.res]
  ·skip
   simp [hk,hd,Doc.row]
   try intros
   have dok:aR d:=hd ▸ dX ok hk;have dn:=ij dok;have hh:=aE dok;refine aa.cur (ak l hl 3) hu (by simp) rfl g0 g1 (by simp) ?_
   rintro _ i3 h3 ⟨y,hy,rfl⟩ g0 g1
   have hy1:=hy.1;have hy2:=hy.2.2 (by omega);have wy:=Go.IntWalk.i64_in (1+y) (by omega);simp [wy];have hsb:=it dok (1+y);have hsc:=dt d (by omega) (1+y);generalize aS d (1+y)=q at hsb hsc;obtain ⟨sn,sb⟩:=q;simp only at hsb hsc;refine aa.ro hsc (by simp [Doc.row]) ?_;simp [Seen.res];intro b9;have wl:=Go.IntWalk.i64_in ((d.list.length:Int)+1) (by omega);have wsq:=Go.IntWalk.i64_in (sn.seq+1) (by omega);refine drw eok mix [0,2,3,4,5,6] [1,7,8,9] (.c 6 1 32 31 (.c 6 7 17 14 (.c 6 8 0 14 (.c 6 9 14 0 (.l 6 0) .s) .s) .s) .s) ?_;simp [wl]
   try intros
   refine aa.ro (aI d) (by simp [Doc.row]) ?_;simp
   try intros
   refine aa.cur (ak l hl ((d.list.length:Int)+1)) hu (by simp) rfl g0 g1 (by simp) ?_;rintro _ i4 h4 ⟨bb,hbb,rfl⟩ g0 g1;simp
   try intros
   generalize Go.IntKind.i64.wrap (ab d - bb)=rv;refine drw eok mix [0,1,2,3,4,5,6,7,8,9,10] [11,12,13,14,15,16,17,18] (.c 11 11 7 2040 (.c 11 12 1432 608 (.c 11 13 0 608 (.c 11 14 0 608 (.c 11 15 0 608 (.c 11 16 0 608 (.c 11 17 608 0 (.c 11 18 0 0 (.l 11 0) .s) .s) .s) .s) .s) .s) .s) .s) ?_;simp [wsq]
   try intros
   refine bn (mP l hl d (by omega) rv).toN hu (by simp) rfl g0 g1 (by simp [Doc.row]) ?_;rintro _ i5 h5 ⟨op,⟨hol,hop⟩,rfl⟩ g0 g1;simp
   try intros
   have ho:=fU (h:=a) (name:=d.name) (client:=1+y) (seq:=sn.seq+1) (base:=rv) (o:=op);have hc:=eR a hn d.name (1+y) (sn.seq+1) rv op (oF hol hop);generalize bd a d.name (1+y) (sn.seq+1) rv op=r at ho hc;obtain ⟨x,nr,code⟩:=r;refine aa.ro hc (by simp [Hub.row]) ?_;simp [Hub.res]
   try intros
   by_cases hz:code=0
   ·simp [hz]
    refine ⟨_,⟨x,(ho hz).1,rfl⟩,?_,ai rfl g0 g1⟩;simp [Hub.res]
   ·simp [hz]
    refine ⟨_,⟨a,ok,rfl⟩,?_,ai rfl g0 g1⟩;simp [Hub.res]
 ·skip
  simp
  try intros
  refine aa.cur (ak l hl a.docs.length) hu (by simp) rfl g0 g1 (by simp) ?_;rintro _ i2 h2 ⟨kk,hkk,rfl⟩ g0 g1;obtain ⟨k,rfl⟩:∃ k:Nat,kk=(k:Int):=⟨kk.toNat,by have:=hkk.1;omega⟩;have hk:k<a.docs.length:=(by have:=hkk.2.2 (by omega);omega);obtain ⟨d,hd⟩:∃ d,a.docs[k]=d:=⟨_,rfl⟩;simp [hk,hd,Doc.row]
  try intros
  have dok:aR d:=hd ▸ dX ok hk;have dn:=ij dok;have hh:=aE dok;refine aa.cur (ak l hl 3) hu (by simp) rfl g0 g1 (by simp) ?_
  rintro _ i3 h3 ⟨y,hy,rfl⟩ g0 g1
  have hy1:=hy.1;have hy2:=hy.2.2 (by omega);have wy:=Go.IntWalk.i64_in (1+y) (by omega);simp [wy];have hsb:=it dok (1+y);have hsc:=dt d (by omega) (1+y);generalize aS d (1+y)=q at hsb hsc;obtain ⟨sn,sb⟩:=q;simp only at hsb hsc;refine aa.ro hsc (by simp [Doc.row]) ?_;simp [Seen.res];intro b9;have wl:=Go.IntWalk.i64_in ((d.list.length:Int)+1) (by omega);have wsq:=Go.IntWalk.i64_in (sn.seq+1) (by omega);refine drw eok mix [0,2,3,4,5,6] [1,7,8,9] (.c 6 1 32 31 (.c 6 7 17 14 (.c 6 8 0 14 (.c 6 9 14 0 (.l 6 0) .s) .s) .s) .s) ?_;simp [wl]
  try intros
  refine aa.ro (aI d) (by simp [Doc.row]) ?_;simp
  try intros
  refine aa.cur (ak l hl ((d.list.length:Int)+1)) hu (by simp) rfl g0 g1 (by simp) ?_;rintro _ i4 h4 ⟨bb,hbb,rfl⟩ g0 g1;simp
  try intros
  generalize Go.IntKind.i64.wrap (ab d - bb)=rv;refine drw eok mix [0,1,2,3,4,5,6,7,8,9,10] [11,12,13,14,15,16,17,18] (.c 11 11 7 2040 (.c 11 12 1432 608 (.c 11 13 0 608 (.c 11 14 0 608 (.c 11 15 0 608 (.c 11 16 0 608 (.c 11 17 608 0 (.c 11 18 0 0 (.l 11 0) .s) .s) .s) .s) .s) .s) .s) .s) ?_;simp [wsq]
  try intros
  refine bn (mP l hl d (by omega) rv).toN hu (by simp) rfl g0 g1 (by simp [Doc.row]) ?_;rintro _ i5 h5 ⟨op,⟨hol,hop⟩,rfl⟩ g0 g1;simp
  try intros
  have ho:=fU (h:=a) (name:=d.name) (client:=1+y) (seq:=sn.seq+1) (base:=rv) (o:=op);have hc:=eR a hn d.name (1+y) (sn.seq+1) rv op (oF hol hop);generalize bd a d.name (1+y) (sn.seq+1) rv op=r at ho hc;obtain ⟨x,nr,code⟩:=r;refine aa.ro hc (by simp [Hub.row]) ?_;simp [Hub.res]
  try intros
  by_cases hz:code=0
  ·simp [hz]
   refine ⟨_,⟨x,(ho hz).1,rfl⟩,?_,ai rfl g0 g1⟩;simp [Hub.res]
  ·simp [hz]
   refine ⟨_,⟨a,ok,rfl⟩,?_,ai rfl g0 g1⟩;simp [Hub.res]
set_option maxHeartbeats 25600000
theorem AW:aH Hub.zero:=gZ.2 ⟨by simp [Hub.zero],by simp [Hub.zero],by simp [Hub.zero],⟨by simp [Hub.zero],by simp [Hub.zero]⟩,by simp [Hub.zero],by simp [Hub.zero]⟩
theorem yx (h:Hub) (name:ByteArray) (t:List Int):aH (bE h name t).1:=by
 by_cases hz:(bE h name t).2=0
 ·exact (mp hz).1
 ·have:(bE h name t).1=Hub.zero:=by
   revert hz
   unfold bE
   repeat' split
   all_goals simp
  rw [this];exact AW
theorem Dt (l:List UInt8) (hl:l.length<=2 ^ 40) (most:Int) (hm0:0<=most) (hm:most<=1000):lh Tryz.prog 96 (l.map dL) 69 [.c (vi most)] (LF aH):=by
 refine lh.intro ag Tryz.func69 (by kernel_rfl) rfl rfl rfl (Nat.le_of_ble_eq_true rfl) (λw0 base o b u i h hi0 hi1 hu=>?_);have hi1:i<=(l.length:Int):=by simpa using hi1
 simp;intro b4;refine bn (gh l hl 6 (by omega) (by omega)).toN hu (by simp) rfl hi0 hi1 (by simp) ?_
 rintro _ i1 h1 ⟨t,ht,rfl⟩ g0 g1
 simp;have k0:=yx Hub.zero ⟨#[97]⟩ t;have c0:=ib Hub.zero (by simp [ja,Hub.zero,nL,cf]) ⟨#[97]⟩ (by decide) t (by have:=ht.1;omega);generalize bE Hub.zero ⟨#[97]⟩ t=q at k0 c0;obtain ⟨a,code⟩:=q;simp only at k0 c0;refine aa.ro c0 (by simp [Hub.row,Hub.zero]) ?_;simp [Hub.res];intro b5;refine aa.cur (fI l hl 2) hu (by simp) rfl g0 g1 (by simp) ?_
 rintro _ i2 h2 ⟨qq,rfl⟩ g0 g1
 have wm:=Go.IntWalk.i64_in (most+1) (by omega);simp
 cases qq with
 | false =>
   simp [wm];refine aa.cur (ak l hl (most+1)) hu (by simp) rfl g0 g1 (by simp) ?_
   rintro _ i5 h5 ⟨zn,hzn,rfl⟩ g0 g1
   simp;have hzn':=hzn.2.2 (by omega)
   refine ar eok (λx:Hub×Nat×Int×Int=>x.2.1<=1000/\aH x.1/\0<=x.2.2.1/\x.2.2.1<=(l.length:Int))
    (λx=>⟨36,0,[(7,.v (.int .i64 x.2.1)),(5,.p 80 b5 0),(4,.p 64 b4 0),(0,.p 0 b 0)],
     (80,.vars b5 48 [.v (.bool x.1.shut),.ro (x.1.docs.map Doc.row),.ro (x.1.subs.map Sub.row),.v (.int .i64 x.1.last)]) ::
     (64,.vars b4 48 [.v (.bool false),.nil,.nil,.v (.int .i64 0)]) ::
     (0,.vars b 96 (dy u l.length x.2.2.1 x.2.2.2))::phs o⟩) (λx=>x.2.1)
    (a,zn.toNat,i5,h5) ⟨by simp only;omega,k0,g0,g1⟩ (by simp;have:=hzn.1;omega) (λx hx=>Ent.refl ?_)
   obtain ⟨r,n,i6,h6⟩:=x;obtain ⟨x1,x2,g0,g1⟩:=hx;simp only at x1 x2 g0 g1 ⊢;simp;by_cases c:0<n
   rotate_left
   ·have:n=0:=by omega
    subst this;simp;refine ⟨_,⟨r,x2,rfl⟩,?_,ai rfl g0 g1⟩;simp [Hub.res]
   have c':(0:Int)<n:=by omega
   simp [c];refine bn (Cm l hl r x2) hu (by simp) rfl g0 g1 (by simp [Hub.row]) ?_
   rintro _ i7 h7 ⟨r',hr',rfl⟩ g0 g1
   simp [Hub.res];refine Ent.refl ⟨r',n - 1,_,⟨by omega,hr',g0,g1⟩,by omega,?_⟩;have wn:=Go.IntWalk.i64_in ((n:Int) - 1) (by omega);simp [wn];omega
 | true =>
   simp;have hn:ja a<=2 ^ 28:=Nat.le_trans (rn k0).1 (by decide);refine drw eok mix [0,1] [2,3,4,5,6,7] (.c 2 2 1 2 (.c 2 3 2 0 (.c 2 4 0 0 (.c 2 5 0 0 (.c 2 6 0 0 (.c 2 7 0 0 (.l 2 0) .s) .s) .s) .s) .s) .s) ?_;simp
   try intros
   refine bn (gh l hl 4 (by omega) (by omega)).toN hu (by simp) rfl g0 g1 (by simp) ?_;rintro _ i3 h3 ⟨t2,ht2,rfl⟩ g0 g1;simp
   try intros
   have k1:=yx a ⟨#[110,111,116,101,115]⟩ t2;have hc:=ib a hn ⟨#[110,111,116,101,115]⟩ (by decide) t2 (by have:=ht2.1;omega);generalize bE a ⟨#[110,111,116,101,115]⟩ t2=r at k1 hc;obtain ⟨x,code2⟩:=r;simp only at k1 hc;refine aa.ro hc (by simp [Hub.row]) ?_;simp [Hub.res]
   try intros
   simp [wm];refine aa.cur (ak l hl (most+1)) hu (by simp) rfl g0 g1 (by simp) ?_
   rintro _ i5 h5 ⟨zn,hzn,rfl⟩ g0 g1
   simp;have hzn':=hzn.2.2 (by omega)
   refine ar eok (λx:Hub×Nat×Int×Int=>x.2.1<=1000/\aH x.1/\0<=x.2.2.1/\x.2.2.1<=(l.length:Int))
    (λx=>⟨36,0,[(7,.v (.int .i64 x.2.1)),(5,.p 80 b5 0),(4,.p 64 b4 0),(0,.p 0 b 0)],
     (80,.vars b5 48 [.v (.bool x.1.shut),.ro (x.1.docs.map Doc.row),.ro (x.1.subs.map Sub.row),.v (.int .i64 x.1.last)]) ::
     (64,.vars b4 48 [.v (.bool false),.nil,.nil,.v (.int .i64 0)]) ::
     (0,.vars b 96 (dy u l.length x.2.2.1 x.2.2.2))::phs o⟩) (λx=>x.2.1)
    (x,zn.toNat,i5,h5) ⟨by simp only;omega,k1,g0,g1⟩ (by simp;have:=hzn.1;omega) (λx hx=>Ent.refl ?_)
   obtain ⟨r,n,i6,h6⟩:=x;obtain ⟨x1,x2,g0,g1⟩:=hx;simp only at x1 x2 g0 g1 ⊢;simp;by_cases c:0<n
   rotate_left
   ·have:n=0:=by omega
    subst this;simp;refine ⟨_,⟨r,x2,rfl⟩,?_,ai rfl g0 g1⟩;simp [Hub.res]
   have c':(0:Int)<n:=by omega
   simp [c];refine bn (Cm l hl r x2) hu (by simp) rfl g0 g1 (by simp [Hub.row]) ?_
   rintro _ i7 h7 ⟨r',hr',rfl⟩ g0 g1
   simp [Hub.res];refine Ent.refl ⟨r',n - 1,_,⟨by omega,hr',g0,g1⟩,by omega,?_⟩;have wn:=Go.IntWalk.i64_in ((n:Int) - 1) (by omega);simp [wn];omega
theorem Dc (l:List UInt8) (hl:l.length<=2 ^ 40):iy Tryz.prog 21 [.c (.s (l.map dL))] (LF aH):=by
 refine iO ag Tryz.func21 (by kernel_rfl) rfl rfl rfl (Nat.le_of_ble_eq_true rfl) (λw0 base o u hu=>?_);simp;intro b2;refine lj (oQ l hl) hu (by simp) (λb h=>?_);simp;refine bn (Dt l hl 14 (by omega) (by omega)) hu (by simp) rfl (by omega) (by omega) (by simp) ?_
 rintro _ i1 h1 ⟨r,hr,rfl⟩ g0 g1
 simp [Hub.res];refine ⟨_,⟨r,hr,rfl⟩,?_⟩;simp [Hub.res]
end Go.Proofs.YthckkpphnmmfdaaGreatDoor
