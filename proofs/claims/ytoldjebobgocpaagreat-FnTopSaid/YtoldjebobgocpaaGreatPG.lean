import Derived.Test.YtoldjebobgocpaaGreatPF
import Derived.Test.YtoldjebobgocpaaGreatPD
import Derived.Test.YtoldjebobgocpaaGreatPC
import Derived.Test.YtoldjebobgocpaaGreatPA
namespace Go.Proofs.YtoldjebobgocpaaGreat
open Go.AM
set_option maxRecDepth 20000
theorem jM {room rev:Int} (h:aZ (a8 room rev)):dx room rev=(a8 room rev,true):=by unfold dx;rw [if_pos h]
theorem ng {room rev:Int} (h:¬ aZ (a8 room rev)):dx room rev=(Ring.zero,false):=by unfold dx;rw [if_neg h]
theorem mQ (room rev:Int):cR (a8 room rev)=0:=by simp [cR,a8,nL,bV]
theorem uw (room rev:Int):cR (dx room rev).1=0:=by
 unfold dx
 split
 ·exact mQ _ _
 ·simp [Ring.zero,cR,nL,bV]
theorem mf {r:Ring} {e:Entry} (h:¬ (aZ r/\br e/\r.out=false)):bZ r e=r:=by unfold bZ;rw [if_neg h]
theorem j9 {r:Ring} {e:Entry} (h:aZ r/\br e/\r.out=false) (hc:(r.list.length:Int)=r.cap):bZ r e=⟨r.cap,r.next,true,[]⟩:=by unfold bZ;rw [if_pos h,if_pos hc]
theorem j8 {r:Ring} {e:Entry} (h:aZ r/\br e/\r.out=false) (hc:¬ (r.list.length:Int)=r.cap):bZ r e=⟨r.cap,r.next,r.out,r.list++[e]⟩:=by unfold bZ;rw [if_pos h,if_neg hc]
theorem AP (r:Ring) (e:Entry):cR (bZ r e)<=cR r+aS e+1:=by
 unfold bZ
 split
 ·split
  ·simp [cR,nL,bV]
  ·simp only [cR]
   rw [fi];simp [nL,bV];omega
 ·omega
theorem qg {r:Ring} {n:Int} (h:¬ (aZ r/\1<=n)):bj r n=(r,[],1):=by unfold bj;rw [if_neg h]
theorem lc {r:Ring} {n:Int} (h:aZ r/\1<=n) (ho:r.out=true):bj r n=(r,[],9):=by unfold bj;rw [if_pos h,if_pos ho]
theorem k9 {r:Ring} {n:Int} (h:aZ r/\1<=n) (ho:r.out=false) {k:Nat} (hk:k=min n.toNat r.list.length):bj r n=(⟨r.cap,r.next+k,r.out,r.list.drop k⟩,r.list.take k,0):=by
 unfold bj;rw [if_pos h,if_neg (by rw [ho];simp)];subst hk;rcases Nat.le_total n.toNat r.list.length with h1|h1
 ·rw [Nat.min_eq_left h1]
 ·rw [Nat.min_eq_right h1,List.drop_eq_nil_of_le h1,List.drop_eq_nil_of_le (Nat.le_refl _),List.take_of_length_le h1,List.take_of_length_le (Nat.le_refl _)]
theorem AQ (r:Ring) (n:Int):cR (bj r n).1<=cR r/\nL aS (bj r n).2.1<=cR r:=by
 unfold bj
 split
 ·split
  ·simp [nL,bV]
  ·refine ⟨?_,xV (Nat.le_refl _)⟩
   show nL aS (r.list.drop n.toNat)<=nL aS r.list
   have h:=fi (f:=aS) (r.list.take n.toNat) (r.list.drop n.toNat);rw [List.take_append_drop] at h;omega
 ·simp [nL,bV]
theorem jp {r:Ring} {rev:Int} (h:aZ r):bI r rev=dx r.cap rev:=by unfold bI;rw [if_pos h]
theorem nf {r:Ring} {rev:Int} (h:¬ aZ r):bI r rev=(Ring.zero,false):=by unfold bI;rw [if_neg h]
theorem bJ (l:List Doc) (name:ByteArray):(∃ k:Nat,∃ h:k<l.length,az l name=k/\l[k].name=name)\/az l name = -1:=by
 rcases e8 (λd:Doc=>d.name=name) l with ⟨k,h,e,hp,-⟩|⟨e,-⟩
 ·exact .inl ⟨k,h,e,hp⟩
 ·exact .inr e
theorem fW (l:List Sub) (id:Int):(∃ k:Nat,∃ h:k<l.length,eL l id=k/\l[k].id=id)\/eL l id = -1:=by
 rcases e8 (λs:Sub=>s.id=id) l with ⟨k,h,e,hp,-⟩|⟨e,-⟩
 ·exact .inl ⟨k,h,e,hp⟩
 ·exact .inr e
theorem cA {h:Hub} (c:ao h) {k:Nat} (hk:k<h.docs.length):aN h.docs[k]:=(c.2.2.2.1 k hk).1
theorem sQ {h:Hub} (c:ao h) {k:Nat} (hk:k<h.subs.length):aZ h.subs[k].r/\∃ j:Nat,∃ _:j<h.docs.length,az h.docs h.subs[k].doc=j:=by
 obtain ⟨-,h2,-,j,hj,e,-⟩:=c.2.2.2.2 k hk;exact ⟨h2,j,hj,e⟩
theorem gT {h:Hub} {name:ByteArray} {t:List Int} (c:¬ (ao h/\aN (dM name t))):aY h name t=(Hub.zero,1):=by unfold aY;rw [if_neg c]
theorem oS {h:Hub} {name:ByteArray} {t:List Int} (c:ao h/\aN (dM name t)) (s:h.shut=true):aY h name t=(Hub.zero,12):=by unfold aY;rw [if_pos c,if_pos s]
theorem oT {h:Hub} {name:ByteArray} {t:List Int} (c:ao h/\aN (dM name t)) (s:¬ h.shut=true) (i:0<=az h.docs name):aY h name t=(Hub.zero,7):=by unfold aY;rw [if_pos c,if_neg s,if_pos i]
theorem oU {h:Hub} {name:ByteArray} {t:List Int} (c:ao h/\aN (dM name t)) (s:¬ h.shut=true) (i:¬ 0<=az h.docs name) (f:h.docs.length=5):aY h name t=(Hub.zero,10):=by unfold aY;rw [if_pos c,if_neg s,if_neg i,if_pos f]
theorem ql {h:Hub} {name:ByteArray} {t:List Int} (c:ao h/\aN (dM name t)) (s:¬ h.shut=true) (i:¬ 0<=az h.docs name) (f:¬ h.docs.length=5):aY h name t=(⟨h.shut,gk (dM name t) h.docs,h.subs,h.last⟩,0):=by
 unfold aY;rw [if_pos c,if_neg s,if_neg i,if_neg f]
noncomputable def dI (name:ByteArray):List Doc->Nat
 | []=>0
 |x::l=>open Classical in if sLt x.name name then dI name l+1 else 0
theorem oc (d:Doc):∀ l:List Doc,gk d l=l.take (dI d.name l)++d::l.drop (dI d.name l)
 | []=>by simp [gk,dI]
 | x :: l => by
   unfold gk dI
   split
   ·rw [oc d l];simp
   ·simp
theorem nn (name:ByteArray):∀ l:List Doc,dI name l<=l.length
 | []=>by simp [dI]
 | x :: l => by
   unfold dI
   split
   ·have:=nn name l;simp;omega
   ·omega
theorem np {name:ByteArray}:∀ {l:List Doc} {k:Nat},k<=dI name l->∀ hk:k<l.length,sLt l[k].name name ↔ k<dI name l
 | x :: l, 0, _, _ => by
   unfold dI
   split
   ·rename_i h;simpa using h
   ·rename_i h;simpa using h
 | x :: l, k + 1, h, hk => by
   unfold dI at h ⊢
   split at h
   ·rename_i hx
    rw [if_pos hx];have:=np (name:=name) (l:=l) (k:=k) (by omega) (by simpa using hk);simp only [List.getElem_cons_succ];rw [this];omega
   ·omega
theorem ld {h:Hub} {name:ByteArray} {client seq base:Int} {o:List Part} (c:¬ ao h):aF h name client seq base o=(Hub.zero,0,1):=by unfold aF;rw [if_neg c]
theorem jq {h:Hub} {name:ByteArray} {client seq base:Int} {o:List Part} (c:ao h) (s:h.shut=true):aF h name client seq base o=(Hub.zero,0,12):=by unfold aF;rw [if_pos c,if_pos s]
theorem jr {h:Hub} {name:ByteArray} {client seq base:Int} {o:List Part} (c:ao h) (s:¬ h.shut=true) (i:az h.docs name = -1):aF h name client seq base o=(Hub.zero,0,6):=by
 unfold aF;rw [if_pos c,if_neg s,i]
 split
 ·rw [if_neg (by omega)]
 ·rfl
theorem lg {h:Hub} {name:ByteArray} {client seq base:Int} {o:List Part} (c:ao h) (s:¬ h.shut=true) {k:Nat} (hk:k<h.docs.length) (i:az h.docs name=k) :
 aF h name client seq base o=if (bD h.docs[k] client seq base o).2.2=0 then (cB h name k h.docs[k] (bD h.docs[k] client seq base o).1,(bD h.docs[k] client seq base o).2.1,0) else (Hub.zero,0,(bD h.docs[k] client seq base o).2.2):=by
 unfold aF;rw [if_pos c,if_neg s,i];simp only [Int.toNat_natCast];rw [List.getElem?_eq_getElem hk];simp only;rw [if_pos (by omega)]
theorem eO {h:Hub} {name:ByteArray} {room:Int} (c:¬ (ao h/\(1<=room/\room<=6))):au h name room=(Hub.zero,0,1):=by unfold au;rw [if_neg c]
theorem gE {h:Hub} {name:ByteArray} {room:Int} (c:ao h/\(1<=room/\room<=6)) (s:h.shut=true):au h name room=(Hub.zero,0,12):=by unfold au;rw [if_pos c,if_pos s]
theorem gF {h:Hub} {name:ByteArray} {room:Int} (c:ao h/\(1<=room/\room<=6)) (s:¬ h.shut=true) (i:az h.docs name = -1):au h name room=(Hub.zero,0,6):=by
 unfold au;rw [if_pos c,if_neg s,i]
 split
 ·rw [if_neg (by omega)]
 ·rfl
theorem iN {h:Hub} {name:ByteArray} {room:Int} (c:ao h/\(1<=room/\room<=6)) (s:¬ h.shut=true) {k:Nat} (hk:k<h.docs.length) (i:az h.docs name=k) :
 au h name room=if h.subs.length=6\/h.last=1000000000 then (Hub.zero,0,10) else (⟨h.shut,h.docs,h.subs++[⟨h.last+1,name,(dx room (ac h.docs[k])).1⟩],h.last+1⟩,h.last+1,0):=by
 unfold au;rw [if_pos c,if_neg s,i];simp only [Int.toNat_natCast];rw [List.getElem?_eq_getElem hk];simp only;rw [if_pos (by omega)]
theorem jk {h:Hub} {id n:Int} (c:¬ (ao h/\1<=n)):bo h id n=(Hub.zero,[],1):=by unfold bo;rw [if_neg c]
theorem lj {h:Hub} {id n:Int} (c:ao h/\1<=n) (i:eL h.subs id = -1):bo h id n=(Hub.zero,[],8):=by
 unfold bo;rw [if_pos c,i]
 split
 ·rw [if_neg (by omega)]
 ·rfl
theorem ni {h:Hub} {id n:Int} (c:ao h/\1<=n) {k:Nat} (hk:k<h.subs.length) (i:eL h.subs id=k) :
 bo h id n=if (bj h.subs[k].r n).2.2=0 then (⟨h.shut,h.docs,h.subs.set k ⟨h.subs[k].id,h.subs[k].doc,(bj h.subs[k].r n).1⟩,h.last⟩,(bj h.subs[k].r n).2.1,0) else (Hub.zero,[],(bj h.subs[k].r n).2.2):=by
 unfold bo;rw [if_pos c,i];simp only [Int.toNat_natCast];rw [List.getElem?_eq_getElem hk];simp only;rw [if_pos (by omega)]
theorem lh {h:Hub} {id:Int} (c:¬ ao h):aI h id=(Hub.zero,[],0,1):=by unfold aI;rw [if_neg c]
theorem jt {h:Hub} {id:Int} (c:ao h) (i:eL h.subs id = -1):aI h id=(Hub.zero,[],0,8):=by
 unfold aI;rw [if_pos c,i]
 split
 ·rw [if_neg (by omega)]
 ·rfl
theorem li {h:Hub} {id:Int} (c:ao h) {k:Nat} (hk:k<h.subs.length) (i:eL h.subs id=k) {j:Nat} (hj:j<h.docs.length) (e:az h.docs h.subs[k].doc=j) :
 aI h id=(⟨h.shut,h.docs,h.subs.set k ⟨h.subs[k].id,h.subs[k].doc,(bI h.subs[k].r (ac h.docs[j])).1⟩,h.last⟩,cY h.docs[j],ac h.docs[j],0):=by
 unfold aI;rw [if_pos c,i];simp only [Int.toNat_natCast];rw [List.getElem?_eq_getElem hk];simp only;rw [if_pos (by omega),e];simp only [Int.toNat_natCast];rw [List.getElem?_eq_getElem hj]
theorem si {h:Hub} (c:¬ ao h):bS h=(Hub.zero,1):=by unfold bS;rw [if_neg c]
theorem oQ {h:Hub} (c:ao h) (s:h.shut=true):bS h=(Hub.zero,12):=by unfold bS;rw [if_pos c,if_pos s]
theorem qj {h:Hub} (c:ao h) (s:¬ h.shut=true):bS h=(⟨true,h.docs,h.subs,h.last⟩,0):=by unfold bS;rw [if_pos c,if_neg s]
theorem uz {h:Hub} {c:Call} (s:h.shut=true):jx h c=bK 12:=by unfold jx;rw [if_pos s]
theorem uA {h:Hub} {c:Call} (s:¬ h.shut=true) (i:az h.docs c.doc = -1):jx h c=bK 6:=by
 unfold jx;rw [if_neg s,i]
 split
 ·rw [if_neg (by omega)]
 ·rfl
theorem AR {h:Hub} {c:Call} (s:¬ h.shut=true) {k:Nat} (hk:k<h.docs.length) (i:az h.docs c.doc=k) :
 jx h c=if c.kind=4 then ⟨0,ac h.docs[k],cY h.docs[k],[]⟩ else ⟨(fS h.docs[k] c.n).2,0,[],(fS h.docs[k] c.n).1⟩:=by
 unfold jx;rw [if_neg s,i];simp only [Int.toNat_natCast];rw [List.getElem?_eq_getElem hk];simp only;rw [if_pos (by omega)]
theorem nJ {l:List Doc} {i:Nat} {a b c d e:CD}:∀ row∈(l.map Doc.row).set i [a,b,c,d,e],row.length=5:=by
 intro row h;rcases List.mem_or_eq_of_mem_set h with h|rfl
 ·rw [List.mem_map] at h
  obtain ⟨a,-,rfl⟩:=h;rfl
 ·rfl
theorem qY {l:List Sub} {i:Nat} {a b c d e f:CD}:∀ row∈(l.map Sub.row).set i [a,b,c,d,e,f],row.length=6:=by
 intro row h;rcases List.mem_or_eq_of_mem_set h with h|rfl
 ·rw [List.mem_map] at h
  obtain ⟨a,-,rfl⟩:=h;rfl
 ·rfl
set_option maxHeartbeats 3200000
theorem dL (h:Hub) (hl:bX h<=2 ^ 40) (name:ByteArray):ai Tryz.prog 80 [.agg h.row,.c (.v (.string name))] (.one (.c (vi (az h.docs name)) 1)):=by
 refine pci ae Tryz.func80 (λw0 base=>?_);obtain ⟨sh,l,subs,last⟩:=h;unfold bX at hl;simp only at hl;have hle:=aB (f:=cq) (B:=2 ^ 40) (l:=l) (by omega);simp [Hub.row];intro b2 b3;refine inl ae Tryz.func175 20000 (λw1 F=>?_);simp
 refine aq.intro eok (λi:Nat=>i<=l.length/\∀ j,j<i->∀ hj:j<l.length,¬ l[j].name=name) (λi=>⟨19,20000,[(8,.v (.int .i64 i)),(7,.v (.int .i64 l.length)),(0,.ro (l.map Doc.row)),(1,.clo 176 [.p 48 b3 0])],
  [(48,.vars b3 9 [.v (.string name)])]⟩) (λi=>l.length - i) 0 (by simp) (by simp) (λi hi=>?_)
 by_cases hlt:i<l.length
 ·simp [hlt]
  refine inl ae Tryz.func176 40000 (λw2 F2=>?_);simp [Doc.row];intro b;by_cases c:l[i].name=name
  ·have e:az l name=i:=kF hlt c hi.2
   simp [c,e]
  ·simp [c]
   exact ⟨i+1,⟨by omega,λj hj hjl=>by
    by_cases hji:j=i
    ·subst hji;exact c
    ·exact hi.2 j (by omega) hjl⟩,by omega,ah (by omega)⟩
 ·have e:az l name = -1:=iM (λj hj=>hi.2 j (by omega) hj)
  simp [hlt,e]
theorem cF (h:Hub) (hl:bX h<=2 ^ 40) (name:ByteArray):ai Tryz.prog 167 [.agg h.row,.c (.v (.string name))] (.one (.c (vi (az h.docs name)) 1)):=by
 refine pci ae Tryz.func167 (λw0 base=>?_);obtain ⟨sh,l,subs,last⟩:=h;unfold bX at hl;simp only at hl;have hle:=aB (f:=cq) (B:=2 ^ 40) (l:=l) (by omega);simp [Hub.row];intro b2;refine aq.intro eok (λi:Nat=>i<=l.length/\∀ j,j<i->∀ hj:j<l.length,¬ l[j].name=name) (λi=>⟨21,0,[(10,.v (.int .i64 i)),(9,.v (.int .i64 l.length)),(8,.ro (l.map Doc.row)),(1,.v (.string name))],[]⟩) (λi=>l.length - i) 0 (by simp) (by simp) (λi hi=>?_);by_cases hlt:i<l.length
 ·simp [hlt,Doc.row]
  intro b;by_cases c:l[i].name=name
  ·have e:az l name=i:=kF hlt c hi.2
   simp [c,e]
  ·simp [c]
   exact ⟨i+1,⟨by omega,λj hj hjl=>by
    by_cases hji:j=i
    ·subst hji;exact c
    ·exact hi.2 j (by omega) hjl⟩,by omega,ah (by omega)⟩
 ·have e:az l name = -1:=iM (λj hj=>hi.2 j (by omega) hj)
  simp [hlt,e]
theorem ga (r:Ring) (hl:cR r<=2 ^ 40):ai Tryz.prog 200 [.agg r.row] (.one (.c (vb (aZ r)) 1)):=by
 refine pci ae Tryz.func200 (λw0 base=>?_);obtain ⟨cp,nx,out,l⟩:=r;unfold cR at hl;simp only at hl;have hle:=aB hl;simp [Ring.row];intro b1;refine aa.pure (aR cp 1 6) (by simp) ?_;by_cases c1:1<=cp/\cp<=6
 rotate_left
 ·have h:¬ aZ ⟨cp,nx,out,l⟩:=λh=>c1 h.2.1
  simp [ab c1,ab h]
 simp [c1];refine aa.pure (aR nx 1 1000000000) (by simp) ?_;by_cases c2:1<=nx/\nx<=1000000000
 rotate_left
 ·have h:¬ aZ ⟨cp,nx,out,l⟩:=λh=>c2 h.2.2.1
  simp [ab c2,ab h]
 simp [c2];by_cases c3:(l.length:Int)<=cp
 rotate_left
 ·have h:¬ aZ ⟨cp,nx,out,l⟩:=λh=>c3 h.2.2.2.1
  have c3':cp<(l.length:Int):=by omega
  simp [c3',ab h]
 have c3':¬ cp<(l.length:Int):=by omega
 simp [c3']
 have hcase:out=false\/(out=true/\l=[])\/(out=true/\0<l.length):=by
  cases out with
  |false=>exact .inl rfl
  | true =>
    cases l with
    |nil=>exact .inr (.inl ⟨rfl,rfl⟩)
    |cons a l=>exact .inr (.inr ⟨rfl,by simp⟩)
 rcases hcase with rfl|⟨rfl,rfl⟩|⟨rfl,c4⟩
 ·simp
  refine aq.intro eok (λi:Nat=>i<=l.length/\∀ e∈l.take i,br e) (λi=>⟨44,0,[(36,.v (.int .i64 i)),(35,.v (.int .i64 l.length)),(34,.ro (l.map Entry.row))],[]⟩) (λi=>l.length - i) 0 (by simp) (by simp) (λi hi=>?_);by_cases hlt:i<l.length
  ·have hm:=dO hl hlt
   simp [hlt,Entry.row];intro b4;refine aa.pure (kX l[i] (by omega)) (by simp [Entry.row]) ?_;by_cases c5:br l[i]
   ·simp [c5]
    exact ⟨i+1,⟨by omega,iY hlt hi.2 c5⟩,by omega,ah (by omega)⟩
   ·have h:¬ aZ ⟨cp,nx,false,l⟩:=λh=>c5 (h.1 _ (List.getElem_mem hlt))
    simp [ab c5,ab h]
  ·have h:aZ ⟨cp,nx,false,l⟩:=⟨kG (l:=l) (by omega) hi.2,c1,c2,c3,by simp⟩
   simp [hlt,h]
 ·have h:aZ ⟨cp,nx,true,[]⟩:=⟨by simp,c1,c2,c3,by simp⟩
  simp;refine aq.intro eok (λi:Nat=>i=0) (λi=>⟨44,0,[(36,.v (.int .i64 0)),(35,.v (.int .i64 0)),(34,.ro ([]:List (List CD)))],[]⟩) (λi=>0) 0 (by simp) (by simp) (λi hi=>?_);simp [h]
 ·have h:¬ aZ ⟨cp,nx,true,l⟩:=λh=>h.2.2.2.2 ⟨rfl,c4⟩
  have c4':0<(l.length:Int):=by omega
  simp [c4,ab h]
theorem hJ (r:Ring) (hl:cR r<=2 ^ 40):ai Tryz.prog 192 [.agg r.row] (.one (.c (vb (aZ r)) 1)):=by
 refine pci ae Tryz.func192 (λw0 base=>?_);obtain ⟨cp,nx,out,l⟩:=r;unfold cR at hl;simp only at hl;have hle:=aB hl;simp [Ring.row];intro b1
 refine aq.intro eok (λi:Nat=>i<=l.length/\∀ e∈l.take i,br e) (λi=>⟨43,0,[(8,.v (.int .i64 i)),(7,.v (.int .i64 l.length)),(6,.ro (l.map Entry.row)),(1,.p 16 b1 0)],
  [(16,.vars b1 157 [.v (.int .i64 cp),.v (.int .i64 nx),.v (.bool out),.ro (l.map Entry.row)])]⟩) (λi=>l.length - i) 0 (by simp) (by simp) (λi hi=>?_)
 by_cases hlt:i<l.length
 ·have hm:=dO hl hlt
  simp [hlt,Entry.row];intro b4;refine aa.pure (kQ l[i] (by omega)) (by simp [Entry.row]) ?_;by_cases c5:br l[i]
  ·simp [c5]
   exact ⟨i+1,⟨by omega,iY hlt hi.2 c5⟩,by omega,ah (by omega)⟩
  ·have h:¬ aZ ⟨cp,nx,out,l⟩:=λh=>c5 (h.1 _ (List.getElem_mem hlt))
   simp [ab c5,ab h]
 have c0:∀ e∈l,br e:=kG (by omega) hi.2;simp [hlt];refine aa.pure (ba cp 1 6) (by simp) ?_;by_cases c1:1<=cp/\cp<=6
 rotate_left
 ·have h:¬ aZ ⟨cp,nx,out,l⟩:=λh=>c1 h.2.1
  simp [ab c1,ab h]
 simp [c1];refine aa.pure (ba nx 1 1000000000) (by simp) ?_;by_cases c2:1<=nx/\nx<=1000000000
 rotate_left
 ·have h:¬ aZ ⟨cp,nx,out,l⟩:=λh=>c2 h.2.2.1
  simp [ab c2,ab h]
 simp [c2];by_cases c3:(l.length:Int)<=cp
 rotate_left
 ·have h:¬ aZ ⟨cp,nx,out,l⟩:=λh=>c3 h.2.2.2.1
  simp [c3,ab h]
 simp [c3]
 cases out with
 | false =>
   have h:aZ ⟨cp,nx,false,l⟩:=⟨c0,c1,c2,c3,by simp⟩;simp [h]
 | true =>
   by_cases c4:(l.length:Int)=0
   ·have h:aZ ⟨cp,nx,true,l⟩:=⟨c0,c1,c2,c3,λh=>by have:=h.2;simp only at this;omega⟩
    simp [c4,h]
   ·have h:¬ aZ ⟨cp,nx,true,l⟩:=λh=>h.2.2.2.2 ⟨rfl,by simp only;omega⟩
    have c4':¬ l=[]:=λh=>c4 (by rw [h];rfl)
    simp [c4',ab h]
set_option maxHeartbeats 6400000
theorem nY {h:Hub} (h0:∀ i,oV h.docs i) {k:Nat} (hk:k<h.docs.length):0<=ac h.docs[k]/\ac h.docs[k]<=1000000000:=by
 have:=aX (h0 k hk).1;omega
theorem uI {l:List Doc} {d:Doc} (h:0<l.length) (e:l[0]=d) (hd:aN d):oV l 0:=λ_=>⟨by rw [e];exact hd,λh=>absurd h (by omega)⟩
theorem xe {l:List Doc} {d y:Doc} {k:Nat} (h:k+1<l.length) (e:l[k+1]=d) (ey:l[k]=y) (hd:aN d) (hs:sLt y.name d.name):oV l (k+1):=λ_=>⟨by rw [e];exact hd,λ_=>by
 simp only [Nat.add_sub_cancel];rw [e,ey];exact hs⟩
theorem eb {P:Nat->Prop} {i:Nat} (h:∀ j,j<i->P j) (hi:P i):∀ j,j<i+1->P j:=λj hj=>by
 by_cases e:j=i
 ·subst e;exact hi
 ·exact h j (by omega)
theorem dw (h:Hub) (hl:bX h<=2 ^ 30):ai Tryz.prog 104 [.agg h.row] (.one (.c (vb (ao h)) 1)):=by
 refine pci ae Tryz.func104 (λw0 base=>?_);obtain ⟨sh,docs,subs,last⟩:=h;have hl0:=hl;unfold bX at hl;simp only at hl;have hle:=aB (f:=cq) (B:=2 ^ 30) (l:=docs) (by omega);have hls:=aB (f:=dX) (B:=2 ^ 30) (l:=subs) (by omega);simp [Hub.row];intro b1;by_cases c1:docs.length<=5
 rotate_left
 ·have c1':5<(docs.length:Int):=by omega
  have h:¬ ao ⟨sh,docs,subs,last⟩:=λh=>c1 h.1
  simp [c1',ab h]
 have c1':¬ 5<(docs.length:Int):=by omega
 by_cases c2:subs.length<=6
 rotate_left
 ·have c2':6<(subs.length:Int):=by omega
  have h:¬ ao ⟨sh,docs,subs,last⟩:=λh=>c2 h.2.1
  simp [c1',c2',ab h]
 have c2':¬ 6<(subs.length:Int):=by omega
 simp [c1',c2'];refine aa.pure (aR last 0 1000000000) (by simp) ?_;by_cases c3:0<=last/\last<=1000000000
 rotate_left
 ·have h:¬ ao ⟨sh,docs,subs,last⟩:=λh=>c3 h.2.2.1
  simp [ab c3,ab h]
 simp [c3]
 refine aq.intro eok (λi:Nat=>i<=docs.length/\∀ j,j<i->oV docs j) (λi=>⟨119,0,[(27,.v (.int .i64 i)),(26,.v (.int .i64 docs.length)),(25,.ro (docs.map Doc.row)),(1,.p 16 b1 0)],
  [(16,.vars b1 35 [.v (.bool sh),.ro (docs.map Doc.row),.ro (subs.map Sub.row),.v (.int .i64 last)])]⟩) (λi=>docs.length - i) 0 (by simp) (by simp) (λi hi=>?_)
 by_cases hlt:i<docs.length
 ·have hm:=cU (f:=cq) (B:=2 ^ 30) (l:=docs) (by omega) (List.getElem_mem hlt)
  have hno:¬ oV docs i->¬ ao ⟨sh,docs,subs,last⟩:=λh h'=>h (h'.2.2.2.1 i)
  obtain ⟨x,hx⟩:∃ x,docs[i]=x:=⟨_,rfl⟩;rw [hx] at hm;simp [hlt,hx,Doc.row];intro b4;refine am.quiet eok mix (by kernel_rfl) ?_;simp;refine ⟨_,_,fN x (by omega),by simp [Doc.row],?_⟩;by_cases s1:aN x
  rotate_left
  ·have h:=hno (λh=>s1 (by have:=(h hlt).1;rwa [hx] at this))
   simp [ab s1,ab h]
  simp [s1]
  cases i with
  | zero =>
    simp;exact ⟨1,⟨by omega,eb hi.2 (uI hlt hx s1)⟩,by omega,ah (n:=0) (by omega)⟩
  | succ k =>
    have ek:Go.IntKind.i64.wrap (k:Int)=k:=eJ (by omega);have hk1:k<docs.length:=by omega
    have hk0:(0:Int)<(k:Int)+1:=by omega
    obtain ⟨y,hy⟩:∃ y,docs[k]=y:=⟨_,rfl⟩;simp [ek,hk0,hk1,hy,Doc.row];by_cases s4:sLt y.name x.name
    rotate_left
    ·have h:=hno (λh=>s4 (by have:=(h hlt).2 (by omega);rw [hx] at this;simp only [Nat.add_sub_cancel] at this;rwa [hy] at this))
     simp [ab s4,ab h]
    simp [s4];exact ⟨k+2,⟨by omega,eb hi.2 (xe hlt hx hy s1 s4)⟩,by omega,by rw [Go.IntWalk.i64_in _ (by omega)];omega⟩
 have c4:∀ i,oV docs i:=λi=>by
  by_cases h:i<docs.length
  ·exact hi.2 i (by omega)
  ·exact λh'=>absurd h' h
 simp [hlt]
 refine aq.intro eok (λi:Nat=>i<=subs.length/\∀ j,j<i->tn docs last subs j) (λi=>⟨119,0,[(55,.v (.int .i64 i)),(54,.v (.int .i64 subs.length)),(53,.ro (subs.map Sub.row)),(1,.p 16 b1 0)],
  [(16,.vars b1 35 [.v (.bool sh),.ro (docs.map Doc.row),.ro (subs.map Sub.row),.v (.int .i64 last)])]⟩) (λi=>subs.length - i) 0 (by simp) (by simp) (λi hi=>?_)
 by_cases hlt:i<subs.length
 rotate_left
 ·have h:ao ⟨sh,docs,subs,last⟩:=⟨c1,c2,c3,c4,λi=>by
   by_cases h:i<subs.length
   ·exact hi.2 i (by omega)
   ·exact λh'=>absurd h' h⟩
  simp [hlt,h]
 have hm:=cU (f:=dX) (B:=2 ^ 30) (l:=subs) (by omega) (List.getElem_mem hlt);have hno:¬ tn docs last subs i->¬ ao ⟨sh,docs,subs,last⟩:=λh h'=>h (h'.2.2.2.2 i)
 obtain ⟨x,hx⟩:∃ x,subs[i]=x:=⟨_,rfl⟩;rw [hx] at hm;unfold dX at hm;have ew:Go.IntKind.i64.wrap ((i:Int)+1)=((i+1:Nat):Int):=ah (by omega);simp [hlt,hx,Sub.row];intro b6;refine aa.pure (dL ⟨sh,docs,subs,last⟩ (by omega) x.doc) (by simp [Hub.row]) ?_;simp;have noid:¬ (1<=x.id/\x.id<=last)->¬ ao ⟨sh,docs,subs,last⟩:=λs2=>hno (λh=>s2 (by have:=(h hlt).1;rwa [hx] at this))
 have noring:¬ aZ x.r->¬ ao ⟨sh,docs,subs,last⟩:=λs2=>hno (λh=>s2 (by have:=(h hlt).2.1;rwa [hx] at this))
 have nodoc:az docs x.doc = -1->¬ ao ⟨sh,docs,subs,last⟩:=λs2=>hno (λh=>by
  obtain ⟨k,hk,e,-⟩:=(h hlt).2.2.2;rw [hx,s2] at e;omega)
 have noprev:∀ _:0<i,¬ subs[i - 1].id<x.id->¬ ao ⟨sh,docs,subs,last⟩:=λh0 s2=>hno (λh=>s2 (by have:=(h hlt).2.2.1 h0;rwa [hx] at this))
 have hix:=e8 (λd:Doc=>d.name=x.doc) docs
 change (∃ k:Nat,∃ h:k<docs.length,az docs x.doc=k/\_)\/(az docs x.doc = -1/\_) at hix
 have norev:∀ k:Nat,∀ hk:k<docs.length,az docs x.doc=k->x.r.out=false->¬ x.r.next+x.r.list.length=ac docs[k]+1->¬ ao ⟨sh,docs,subs,last⟩:=λk hk e ho s2=>hno (λh=>by
  obtain ⟨k',hk',e',h'⟩:=(h hlt).2.2.2;simp only [hx] at e' h';have:k=k':=by omega
  subst this;exact s2 (h' ho))
 have fin:∀ (s1:1<=x.id/\x.id<=last) (s2:aZ x.r) (s3:∀ _:0<i,subs[i - 1].id<x.id) (k:Nat) (hk:k<docs.length) (e:az docs x.doc=k) (s4:x.r.out=false->x.r.next+x.r.list.length=ac docs[k]+1),∀ j,j<i+1->tn docs last subs j:=
  λs1 s2 s3 k hk e s4=>eb hi.2 (λ_=>by simp only [hx];exact ⟨s1,s2,s3,k,hk,e,s4⟩)
 generalize az docs x.doc=K at hix nodoc norev fin ⊢;refine am.quiet eok mix (by kernel_rfl) ?_;simp;refine ⟨_,_,aR x.id 1 last,by simp,?_⟩;by_cases s1:1<=x.id/\x.id<=last
 rotate_left
 ·simp [ab s1,ab (noid s1)]
 simp [s1]
 cases i with
 | zero =>
   simp;refine ⟨_,_,ga x.r (by omega),by simp [Ring.row],?_⟩;by_cases s2:aZ x.r
   rotate_left
   ·simp [ab s2,ab (noring s2)]
   simp [s2];rcases hix with ⟨k,hk,rfl,-⟩|⟨rfl,-⟩;rotate_left
   ·simp [ab (nodoc rfl)]
   have hk0':¬ (k:Int)<0:=by omega
   simp [hk0'];have sn:=s2.2.2.1;have sl:=s2.2.2.2.1;have sc:=s2.2.1;have hr:=nY (h:=⟨sh,docs,subs,last⟩) c4 hk;simp only at hr;have e1:Go.IntKind.i64.wrap (x.r.next+x.r.list.length)=x.r.next+x.r.list.length:=Go.IntWalk.i64_in _ (by omega);have e2:Go.IntKind.i64.wrap (ac docs[k]+1)=ac docs[k]+1:=Go.IntWalk.i64_in _ (by omega);refine am.quiet eok mix (by kernel_rfl) ?_;simp
   cases ho:x.r.out with
   | true =>
     have hf:=fin s1 s2 (λh=>absurd h (by omega)) k hk rfl (λh=>absurd (ho.symm.trans h) (by simp));simp;exact ⟨1,⟨by omega,hf⟩,by omega,ah (n:=0) (by omega)⟩
   | false =>
     simp [hk];refine ⟨_,_,bu docs[k],by simp [Doc.row],?_⟩;by_cases s4:x.r.next+x.r.list.length=ac docs[k]+1
     ·have hf:=fin s1 s2 (λh=>absurd h (by omega)) k hk rfl (λ_=>s4)
      simp [e2,s4];exact ⟨1,⟨by omega,hf⟩,by omega,ah (n:=0) (by omega)⟩
     ·simp [e1,e2,s4,ab (norev k hk rfl ho s4)]
 | succ m =>
   have hk1:m<subs.length:=by omega
   have ek:Go.IntKind.i64.wrap (m:Int)=m:=eJ (by omega);have hm0:(0:Int)<(m:Int)+1:=by omega
   obtain ⟨y,hy⟩:∃ y,subs[m]=y:=⟨_,rfl⟩;simp [ek,hm0,hk1,hy,Sub.row];by_cases s3:y.id<x.id
   rotate_left
   ·have s3':x.id<=y.id:=by omega
    simp [s3',ab (noprev (by omega) (by simp only [Nat.add_sub_cancel];rwa [hy]))]
   have s3':¬ x.id<=y.id:=by omega
   have hp:∀ _:0<m+1,subs[m+1 - 1].id<x.id:=λ_=>by simp only [Nat.add_sub_cancel];rwa [hy]
   simp [s3'];refine ⟨_,_,ga x.r (by omega),by simp [Ring.row],?_⟩;by_cases s2:aZ x.r
   rotate_left
   ·simp [ab s2,ab (noring s2)]
   simp [s2];rcases hix with ⟨k,hk,rfl,-⟩|⟨rfl,-⟩;rotate_left
   ·simp [ab (nodoc rfl)]
   have hk0':¬ (k:Int)<0:=by omega
   simp [hk0'];have sn:=s2.2.2.1;have sl:=s2.2.2.2.1;have sc:=s2.2.1;have hr:=nY (h:=⟨sh,docs,subs,last⟩) c4 hk;simp only at hr;have e1:Go.IntKind.i64.wrap (x.r.next+x.r.list.length)=x.r.next+x.r.list.length:=Go.IntWalk.i64_in _ (by omega);have e2:Go.IntKind.i64.wrap (ac docs[k]+1)=ac docs[k]+1:=Go.IntWalk.i64_in _ (by omega);refine am.quiet eok mix (by kernel_rfl) ?_;simp
   cases ho:x.r.out with
   | true =>
     have hf:=fin s1 s2 hp k hk rfl (λh=>absurd (ho.symm.trans h) (by simp));simp;exact ⟨m+2,⟨by omega,hf⟩,by omega,by rw [Go.IntWalk.i64_in _ (by omega)];omega⟩
   | false =>
     simp [hk];refine ⟨_,_,bu docs[k],by simp [Doc.row],?_⟩;by_cases s4:x.r.next+x.r.list.length=ac docs[k]+1
     ·have hf:=fin s1 s2 hp k hk rfl (λ_=>s4)
      simp [e2,s4];exact ⟨m+2,⟨by omega,hf⟩,by omega,by rw [Go.IntWalk.i64_in _ (by omega)];omega⟩
     ·simp [e1,e2,s4,ab (norev k hk rfl ho s4)]
theorem dt (h:Hub) (hl:bX h<=2 ^ 30):ai Tryz.prog 96 [.agg h.row] (.one (.c (vb (ao h)) 1)):=by
 refine pci ae Tryz.func96 (λw0 base=>?_);obtain ⟨sh,docs,subs,last⟩:=h;have hl0:=hl;unfold bX at hl;simp only at hl;have hle:=aB (f:=cq) (B:=2 ^ 30) (l:=docs) (by omega);have hls:=aB (f:=dX) (B:=2 ^ 30) (l:=subs) (by omega);simp [Hub.row];intro b1;by_cases c1:docs.length<=5
 rotate_left
 ·have c1':5<(docs.length:Int):=by omega
  have h:¬ ao ⟨sh,docs,subs,last⟩:=λh=>c1 h.1
  simp [c1',ab h]
 have c1':¬ 5<(docs.length:Int):=by omega
 by_cases c2:subs.length<=6
 rotate_left
 ·have c2':6<(subs.length:Int):=by omega
  have h:¬ ao ⟨sh,docs,subs,last⟩:=λh=>c2 h.2.1
  simp [c1',c2',ab h]
 have c2':¬ 6<(subs.length:Int):=by omega
 simp [c1',c2'];refine aa.pure (ba last 0 1000000000) (by simp) ?_;by_cases c3:0<=last/\last<=1000000000
 rotate_left
 ·have h:¬ ao ⟨sh,docs,subs,last⟩:=λh=>c3 h.2.2.1
  simp [ab c3,ab h]
 simp [c3]
 refine aq.intro eok (λi:Nat=>i<=docs.length/\∀ j,j<i->oV docs j) (λi=>⟨119,0,[(27,.v (.int .i64 i)),(26,.v (.int .i64 docs.length)),(25,.ro (docs.map Doc.row)),(1,.p 16 b1 0)],
  [(16,.vars b1 35 [.v (.bool sh),.ro (docs.map Doc.row),.ro (subs.map Sub.row),.v (.int .i64 last)])]⟩) (λi=>docs.length - i) 0 (by simp) (by simp) (λi hi=>?_)
 by_cases hlt:i<docs.length
 ·have hm:=cU (f:=cq) (B:=2 ^ 30) (l:=docs) (by omega) (List.getElem_mem hlt)
  have hno:¬ oV docs i->¬ ao ⟨sh,docs,subs,last⟩:=λh h'=>h (h'.2.2.2.1 i)
  obtain ⟨x,hx⟩:∃ x,docs[i]=x:=⟨_,rfl⟩;rw [hx] at hm;simp [hlt,hx,Doc.row];intro b4;refine am.quiet eok mix (by kernel_rfl) ?_;simp;refine ⟨_,_,fH x (by omega),by simp [Doc.row],?_⟩;by_cases s1:aN x
  rotate_left
  ·have h:=hno (λh=>s1 (by have:=(h hlt).1;rwa [hx] at this))
   simp [ab s1,ab h]
  simp [s1]
  cases i with
  | zero =>
    simp;exact ⟨1,⟨by omega,eb hi.2 (uI hlt hx s1)⟩,by omega,ah (n:=0) (by omega)⟩
  | succ k =>
    have ek:Go.IntKind.i64.wrap (k:Int)=k:=eJ (by omega);have hk1:k<docs.length:=by omega
    have hk0:(0:Int)<(k:Int)+1:=by omega
    obtain ⟨y,hy⟩:∃ y,docs[k]=y:=⟨_,rfl⟩;simp [ek,hk0,hk1,hy,Doc.row];by_cases s4:sLt y.name x.name
    rotate_left
    ·have h:=hno (λh=>s4 (by have:=(h hlt).2 (by omega);rw [hx] at this;simp only [Nat.add_sub_cancel] at this;rwa [hy] at this))
     simp [ab s4,ab h]
    simp [s4];exact ⟨k+2,⟨by omega,eb hi.2 (xe hlt hx hy s1 s4)⟩,by omega,by rw [Go.IntWalk.i64_in _ (by omega)];omega⟩
 have c4:∀ i,oV docs i:=λi=>by
  by_cases h:i<docs.length
  ·exact hi.2 i (by omega)
  ·exact λh'=>absurd h' h
 simp [hlt]
 refine aq.intro eok (λi:Nat=>i<=subs.length/\∀ j,j<i->tn docs last subs j) (λi=>⟨119,0,[(55,.v (.int .i64 i)),(54,.v (.int .i64 subs.length)),(53,.ro (subs.map Sub.row)),(1,.p 16 b1 0)],
  [(16,.vars b1 35 [.v (.bool sh),.ro (docs.map Doc.row),.ro (subs.map Sub.row),.v (.int .i64 last)])]⟩) (λi=>subs.length - i) 0 (by simp) (by simp) (λi hi=>?_)
 by_cases hlt:i<subs.length
 rotate_left
 ·have h:ao ⟨sh,docs,subs,last⟩:=⟨c1,c2,c3,c4,λi=>by
   by_cases h:i<subs.length
   ·exact hi.2 i (by omega)
   ·exact λh'=>absurd h' h⟩
  simp [hlt,h]
 have hm:=cU (f:=dX) (B:=2 ^ 30) (l:=subs) (by omega) (List.getElem_mem hlt);have hno:¬ tn docs last subs i->¬ ao ⟨sh,docs,subs,last⟩:=λh h'=>h (h'.2.2.2.2 i)
 obtain ⟨x,hx⟩:∃ x,subs[i]=x:=⟨_,rfl⟩;rw [hx] at hm;unfold dX at hm;have ew:Go.IntKind.i64.wrap ((i:Int)+1)=((i+1:Nat):Int):=ah (by omega);simp [hlt,hx,Sub.row];intro b6;refine aa.pure (cF ⟨sh,docs,subs,last⟩ (by omega) x.doc) (by simp [Hub.row]) ?_;simp;have noid:¬ (1<=x.id/\x.id<=last)->¬ ao ⟨sh,docs,subs,last⟩:=λs2=>hno (λh=>s2 (by have:=(h hlt).1;rwa [hx] at this))
 have noring:¬ aZ x.r->¬ ao ⟨sh,docs,subs,last⟩:=λs2=>hno (λh=>s2 (by have:=(h hlt).2.1;rwa [hx] at this))
 have nodoc:az docs x.doc = -1->¬ ao ⟨sh,docs,subs,last⟩:=λs2=>hno (λh=>by
  obtain ⟨k,hk,e,-⟩:=(h hlt).2.2.2;rw [hx,s2] at e;omega)
 have noprev:∀ _:0<i,¬ subs[i - 1].id<x.id->¬ ao ⟨sh,docs,subs,last⟩:=λh0 s2=>hno (λh=>s2 (by have:=(h hlt).2.2.1 h0;rwa [hx] at this))
 have hix:=e8 (λd:Doc=>d.name=x.doc) docs
 change (∃ k:Nat,∃ h:k<docs.length,az docs x.doc=k/\_)\/(az docs x.doc = -1/\_) at hix
 have norev:∀ k:Nat,∀ hk:k<docs.length,az docs x.doc=k->x.r.out=false->¬ x.r.next+x.r.list.length=ac docs[k]+1->¬ ao ⟨sh,docs,subs,last⟩:=λk hk e ho s2=>hno (λh=>by
  obtain ⟨k',hk',e',h'⟩:=(h hlt).2.2.2;simp only [hx] at e' h';have:k=k':=by omega
  subst this;exact s2 (h' ho))
 have fin:∀ (s1:1<=x.id/\x.id<=last) (s2:aZ x.r) (s3:∀ _:0<i,subs[i - 1].id<x.id) (k:Nat) (hk:k<docs.length) (e:az docs x.doc=k) (s4:x.r.out=false->x.r.next+x.r.list.length=ac docs[k]+1),∀ j,j<i+1->tn docs last subs j:=
  λs1 s2 s3 k hk e s4=>eb hi.2 (λ_=>by simp only [hx];exact ⟨s1,s2,s3,k,hk,e,s4⟩)
 generalize az docs x.doc=K at hix nodoc norev fin ⊢;refine am.quiet eok mix (by kernel_rfl) ?_;simp;refine ⟨_,_,ba x.id 1 last,by simp,?_⟩;by_cases s1:1<=x.id/\x.id<=last
 rotate_left
 ·simp [ab s1,ab (noid s1)]
 simp [s1];refine ⟨_,_,hJ x.r (by omega),by simp [Ring.row],?_⟩;by_cases s2:aZ x.r
 rotate_left
 ·simp [ab s2,ab (noring s2)]
 simp [s2];rcases hix with ⟨k,hk,rfl,-⟩|⟨rfl,-⟩;rotate_left
 ·simp [ab (nodoc rfl)]
 have hk0':¬ (k:Int)<0:=by omega
 simp [hk0']
 cases i with
 | zero =>
   simp;have sn:=s2.2.2.1;have sl:=s2.2.2.2.1;have sc:=s2.2.1;have hr:=nY (h:=⟨sh,docs,subs,last⟩) c4 hk;simp only at hr;have e1:Go.IntKind.i64.wrap (x.r.next+x.r.list.length)=x.r.next+x.r.list.length:=Go.IntWalk.i64_in _ (by omega);have e2:Go.IntKind.i64.wrap (ac docs[k]+1)=ac docs[k]+1:=Go.IntWalk.i64_in _ (by omega);refine am.quiet eok mix (by kernel_rfl) ?_;simp
   cases ho:x.r.out with
   | true =>
     have hf:=fin s1 s2 (λh=>absurd h (by omega)) k hk rfl (λh=>absurd (ho.symm.trans h) (by simp));simp;exact ⟨1,⟨by omega,hf⟩,by omega,ah (n:=0) (by omega)⟩
   | false =>
     simp [hk];refine ⟨_,_,aO docs[k],by simp [Doc.row],?_⟩;by_cases s4:x.r.next+x.r.list.length=ac docs[k]+1
     ·have hf:=fin s1 s2 (λh=>absurd h (by omega)) k hk rfl (λ_=>s4)
      simp [e2,s4];exact ⟨1,⟨by omega,hf⟩,by omega,ah (n:=0) (by omega)⟩
     ·simp [e1,e2,s4,ab (norev k hk rfl ho s4)]
 | succ m =>
   have hk1:m<subs.length:=by omega
   have ek:Go.IntKind.i64.wrap (m:Int)=m:=eJ (by omega);have hm0:(0:Int)<(m:Int)+1:=by omega
   obtain ⟨y,hy⟩:∃ y,subs[m]=y:=⟨_,rfl⟩;simp [ek,hm0,hk1,hy,Sub.row];by_cases s3:y.id<x.id
   rotate_left
   ·have s3':x.id<=y.id:=by omega
    simp [s3',ab (noprev (by omega) (by simp only [Nat.add_sub_cancel];rwa [hy]))]
   have s3':¬ x.id<=y.id:=by omega
   have hp:∀ _:0<m+1,subs[m+1 - 1].id<x.id:=λ_=>by simp only [Nat.add_sub_cancel];rwa [hy]
   simp [s3'];have sn:=s2.2.2.1;have sl:=s2.2.2.2.1;have sc:=s2.2.1;have hr:=nY (h:=⟨sh,docs,subs,last⟩) c4 hk;simp only at hr;have e1:Go.IntKind.i64.wrap (x.r.next+x.r.list.length)=x.r.next+x.r.list.length:=Go.IntWalk.i64_in _ (by omega);have e2:Go.IntKind.i64.wrap (ac docs[k]+1)=ac docs[k]+1:=Go.IntWalk.i64_in _ (by omega);refine am.quiet eok mix (by kernel_rfl) ?_;simp
   cases ho:x.r.out with
   | true =>
     have hf:=fin s1 s2 hp k hk rfl (λh=>absurd (ho.symm.trans h) (by simp));simp;exact ⟨m+2,⟨by omega,hf⟩,by omega,by rw [Go.IntWalk.i64_in _ (by omega)];omega⟩
   | false =>
     simp [hk];refine ⟨_,_,aO docs[k],by simp [Doc.row],?_⟩;by_cases s4:x.r.next+x.r.list.length=ac docs[k]+1
     ·have hf:=fin s1 s2 hp k hk rfl (λ_=>s4)
      simp [e2,s4];exact ⟨m+2,⟨by omega,hf⟩,by omega,by rw [Go.IntWalk.i64_in _ (by omega)];omega⟩
     ·simp [e1,e2,s4,ab (norev k hk rfl ho s4)]
set_option maxHeartbeats 3200000
theorem pt (r:Ring) (hl:cR r<=2 ^ 30):ai Tryz.prog 212 [.agg r.row] (.one (.agg r.res)):=by
 refine pci ae Tryz.func212 (λw0 base=>?_);unfold cR at hl;simp [Ring.row];intro b1 b2;refine aa.pure (gq r.list hl) (by simp) ?_;simp [Ring.res]
theorem rb (r:Ring) (hl:cR r<=2 ^ 30):ai Tryz.prog 340 [.agg r.row] (.one (.agg r.res)):=by
 refine pci ae Tryz.func340 (λw0 base=>?_);unfold cR at hl;simp [Ring.row];intro b1 b2;refine drw eok mix [0,1,2,3,4,5,6,7] [8,9,10] (.c 8 8 1 254 (.c 8 9 84 170 (.c 8 10 170 0 (.l 8 0) .s) .s) .s) ?_;simp
 try intros
 refine aa.pure (ep r.list hl) (by simp) ?_;simp
 try intros
 simp [Ring.res]
theorem Ik (s:Sub) (hl:dX s<=2 ^ 30):ai Tryz.prog 262 [.agg s.row] (.one (.agg s.res)):=by
 refine pci ae Tryz.func262 (λw0 base=>?_);unfold dX at hl;simp [Sub.row];intro b1 b2;refine drw eok mix [0,1,2,3,4,5] [6,7,8] (.c 6 6 1 62 (.c 6 7 20 42 (.c 6 8 42 0 (.l 6 0) .s) .s) .s) ?_;simp
 try intros
 refine aa.pure (rb s.r (by omega)) (by simp [Ring.row]) ?_;simp [Ring.res]
 try intros
 simp [Sub.res]
theorem bP (h:Hub) (hl:bX h<=2 ^ 30):ai Tryz.prog 113 [.agg h.row] (.one (.agg h.res)):=by
 refine pci ae Tryz.func113 (λw0 base=>?_);obtain ⟨sh,docs,subs,last⟩:=h;unfold bX at hl;simp only at hl;have hle:=aB (f:=cq) (B:=2 ^ 30) (l:=docs) (by omega);have hls:=aB (f:=dX) (B:=2 ^ 30) (l:=subs) (by omega);simp [Hub.row];intro b1 b2 b3
 refine ag eok (λx:Nat×Hd=>x.1<=docs.length) (λx=>⟨47,0,[(16,.v (.int .i64 x.1)),(15,.v (.int .i64 docs.length)),(14,.ro (docs.map Doc.row)),(1,.p 16 b1 0),(2,.p 32 b2 0),(3,.p 48 b3 0)],
  [(48, .vars b3 35 [.v (.bool sh), .sl 5000 x.2 5 0 x.1, .nil, .v (.int .i64 last)]), (32, .vars b2 35 [.v (.bool false), .nil, .nil, .v (.int .i64 0)]),
   (16,.vars b1 35 [.v (.bool sh),.ro (docs.map Doc.row),.ro (subs.map Sub.row),.v (.int .i64 last)]),(5000,.rows x.2 5 ((docs.take x.1).map Doc.row) true)]⟩) (λx=>docs.length - x.1) (0,none) (by simp) (by simp) (λx hi=>Ent.refl ?_)
 obtain ⟨i,H⟩:=x;simp only at hi ⊢;by_cases hlt:i<docs.length
 ·have hm:=cU (f:=cq) (B:=2 ^ 30) (l:=docs) (by omega) (List.getElem_mem hlt)
  have e1:min i docs.length=i:=by omega
  simp [hlt,Doc.row];intro b5;refine drw eok mix [0,1,2,6] [3,4,5,7] (.c 4 3 2 13 (.c 4 4 0 13 (.c 4 5 4 9 (.c 4 7 9 0 (.l 4 0) .s) .s) .s) .s) ?_;simp
  try intros
  refine aa.pure (rC docs[i] hm) (by simp [Doc.row]) ?_;simp [Doc.res]
  try intros
  simp [e1];refine ⟨by omega,λH'=>Ent.refl ⟨i+1,by omega,by omega,H',?_⟩⟩;simp;exact ⟨ah (by omega),da (f:=Doc.row) hlt⟩
 have hm:i=docs.length:=by omega
 subst hm;simp
 refine ag eok (λx:Nat×Hd=>x.1<=subs.length) (λx=>⟨47,0,[(31,.v (.int .i64 x.1)),(30,.v (.int .i64 subs.length)),(29,.ro (subs.map Sub.row)),(2,.p 32 b2 0),(3,.p 48 b3 0)],
  [(48, .vars b3 35 [.v (.bool sh), .sl 5000 H 5 0 docs.length, .sl 5001 x.2 6 0 x.1, .v (.int .i64 last)]), (32, .vars b2 35 [.v (.bool false), .nil, .nil, .v (.int .i64 0)]),
   (5000,.rows H 5 (docs.map Doc.row) true),(5001,.rows x.2 6 ((subs.take x.1).map Sub.row) true)]⟩) (λx=>subs.length - x.1) (0,none) (by simp) (by simp) (λx hi=>Ent.refl ?_)
 obtain ⟨i,H'⟩:=x;simp only at hi ⊢;by_cases hlt:i<subs.length
 ·have hm:=cU (f:=dX) (B:=2 ^ 30) (l:=subs) (by omega) (List.getElem_mem hlt)
  unfold dX at hm;have e1:min i subs.length=i:=by omega
  simp [hlt,Sub.row];intro b7;refine aa.pure (pt subs[i].r (by omega)) (by simp [Ring.row]) ?_;simp [Ring.res];intro H7;simp [e1];intro b8;refine ⟨by omega,λH''=>Ent.refl ⟨i+1,by omega,by omega,H'',?_⟩⟩;simp;exact ⟨ah (by omega),da (f:=Sub.row) hlt⟩
 have hm:i=subs.length:=by omega
 subst hm;simp [Hub.res]
theorem bY (h:Hub) (hl:bX h<=2 ^ 30):ai Tryz.prog 163 [.agg h.row] (.one (.agg h.res)):=by
 refine pci ae Tryz.func163 (λw0 base=>?_);obtain ⟨sh,docs,subs,last⟩:=h;unfold bX at hl;simp only at hl;have hle:=aB (f:=cq) (B:=2 ^ 30) (l:=docs) (by omega);have hls:=aB (f:=dX) (B:=2 ^ 30) (l:=subs) (by omega);simp [Hub.row];intro b1 b2 b3
 refine ag eok (λx:Nat×Hd=>x.1<=docs.length) (λx=>⟨44,0,[(16,.v (.int .i64 x.1)),(15,.v (.int .i64 docs.length)),(14,.ro (docs.map Doc.row)),(1,.p 16 b1 0),(2,.p 32 b2 0),(3,.p 48 b3 0)],
  [(48, .vars b3 35 [.v (.bool sh), .sl 5000 x.2 5 0 x.1, .nil, .v (.int .i64 last)]), (32, .vars b2 35 [.v (.bool false), .nil, .nil, .v (.int .i64 0)]),
   (16,.vars b1 35 [.v (.bool sh),.ro (docs.map Doc.row),.ro (subs.map Sub.row),.v (.int .i64 last)]),(5000,.rows x.2 5 ((docs.take x.1).map Doc.row) true)]⟩) (λx=>docs.length - x.1) (0,none) (by simp) (by simp) (λx hi=>Ent.refl ?_)
 obtain ⟨i,H⟩:=x;simp only at hi ⊢;by_cases hlt:i<docs.length
 ·have hm:=cU (f:=cq) (B:=2 ^ 30) (l:=docs) (by omega) (List.getElem_mem hlt)
  have e1:min i docs.length=i:=by omega
  simp [hlt,Doc.row];intro b5;refine drw eok mix [0,1,2,6] [3,4,5,7] (.c 4 3 2 13 (.c 4 4 0 13 (.c 4 5 4 9 (.c 4 7 9 0 (.l 4 0) .s) .s) .s) .s) ?_;simp
  try intros
  refine aa.pure (nW docs[i] hm) (by simp [Doc.row]) ?_;simp [Doc.res]
  try intros
  simp [e1];refine ⟨by omega,λH'=>Ent.refl ⟨i+1,by omega,by omega,H',?_⟩⟩;simp;exact ⟨ah (by omega),da (f:=Doc.row) hlt⟩
 have hm:i=docs.length:=by omega
 subst hm;simp
 refine ag eok (λx:Nat×Hd=>x.1<=subs.length) (λx=>⟨44,0,[(31,.v (.int .i64 x.1)),(30,.v (.int .i64 subs.length)),(29,.ro (subs.map Sub.row)),(2,.p 32 b2 0),(3,.p 48 b3 0)],
  [(48, .vars b3 35 [.v (.bool sh), .sl 5000 H 5 0 docs.length, .sl 5001 x.2 6 0 x.1, .v (.int .i64 last)]), (32, .vars b2 35 [.v (.bool false), .nil, .nil, .v (.int .i64 0)]),
   (5000,.rows H 5 (docs.map Doc.row) true),(5001,.rows x.2 6 ((subs.take x.1).map Sub.row) true)]⟩) (λx=>subs.length - x.1) (0,none) (by simp) (by simp) (λx hi=>Ent.refl ?_)
 obtain ⟨i,H'⟩:=x;simp only at hi ⊢;by_cases hlt:i<subs.length
 ·have hm:=cU (f:=dX) (B:=2 ^ 30) (l:=subs) (by omega) (List.getElem_mem hlt)
  have e1:min i subs.length=i:=by omega
  simp [hlt,Sub.row];intro b7;refine drw eok mix [0,1,2,6] [3,4,5,7] (.c 4 3 2 13 (.c 4 4 0 13 (.c 4 5 4 9 (.c 4 7 9 0 (.l 4 0) .s) .s) .s) .s) ?_;simp
  try intros
  refine aa.pure (Ik subs[i] hm) (by simp [Sub.row]) ?_;simp [Sub.res]
  try intros
  simp [e1];refine ⟨by omega,λH''=>Ent.refl ⟨i+1,by omega,by omega,H'',?_⟩⟩;simp;exact ⟨ah (by omega),da (f:=Sub.row) hlt⟩
 have hm:i=subs.length:=by omega
 subst hm;simp [Hub.res]
theorem rA {l:List Entry} {k:Nat} (_h:k<=l.length):cut (l.map Entry.row) 0 k=(l.take k).map Entry.row:=by
 rw [cQ,List.drop_zero,List.map_take]
theorem IY {l:List Entry} {row:List CD} (h:row∈l.map Entry.row):row.length=3:=by
 rw [List.mem_map] at h;obtain ⟨a,-,rfl⟩:=h;rfl
theorem oC (room rev:Int) (hr : -4611686018427387904<=rev/\rev<=4611686018427387904):ai Tryz.prog 344 [.c (vi room),.c (vi rev)] (.tup [.agg (dx room rev).1.res,.c (.v (.bool (dx room rev).2)) 1]):=by
 refine pci ae Tryz.func344 (λw0 base=>?_);simp;intro b4;by_cases c1:1000000000<rev
 ·have h:¬ aZ (a8 room rev):=λh=>by have:=h.2.2.1;simp [a8] at this;omega
  simp [c1,ng h,Ring.res,Ring.zero]
 have ew:Go.IntKind.i64.wrap (rev+1)=rev+1:=Go.IntWalk.i64_in _ (by omega);simp [c1,ew];intro b6;refine aa.pure (hJ (a8 room rev) (by rw [mQ];omega)) (by simp [a8,Ring.row]) ?_;by_cases c2:aZ (a8 room rev)
 ·have e:=jM c2
  rw [show a8 room rev=⟨room,rev+1,false,[]⟩ from rfl] at c2;simp [c2,e,Ring.res,a8]
 ·simp [ab c2,ng c2,Ring.res,Ring.zero]
theorem tv (r:Ring) (hl:cR r<=2 ^ 30) (e:Entry) (he:aS e<=2 ^ 30):ai Tryz.prog 342 [.agg r.row,.agg e.row] (.one (.agg (bZ r e).res)):=by
 refine pci ae Tryz.func342 (λw0 base=>?_);have hno:=@mf r e;have hfull:=@j9 r e;have hroom:=@j8 r e;have hle:=aB (f:=aS) (B:=2 ^ 30) (l:=r.list) (by unfold cR at hl;omega);simp [Ring.row,Entry.row];intro b2 b3 b4;refine aa.pure (rb r hl) (by simp [Ring.row]) ?_;simp [Ring.res];intro H b5;refine aa.pure (hJ r (by omega)) (by simp [Ring.row]) ?_;by_cases c1:aZ r
 rotate_left
 ·simp [ab c1,hno (λh=>c1 h.1)]
 simp [c1];refine aa.pure (kQ e (by omega)) (by simp [Entry.row]) ?_;by_cases c2:br e
 rotate_left
 ·simp [ab c2,hno (λh=>c2 h.2.1)]
 simp [c2]
 cases c3:r.out with
 |true=>simp [hno (λh=>by rw [c3] at h;exact absurd h.2.2 (by simp)),c3]
 |false=>
 simp;by_cases c4:(r.list.length:Int)=r.cap
 ·have e1:=hfull ⟨c1,c2,c3⟩ c4
  simp [c4,e1]
 have e1:=hroom ⟨c1,c2,c3⟩ c4;simp [c4];refine drw eok mix [0,1,2,6] [3,4,5,7] (.c 4 3 2 13 (.c 4 4 0 13 (.c 4 5 4 9 (.c 4 7 9 0 (.l 4 0) .s) .s) .s) .s) ?_;simp
 try intros
 refine aa.pure (ud e he) (by simp [Entry.row]) ?_;simp [Entry.res]
 try intros
 refine ⟨by omega,?_⟩;rw [e1];simp [c3,Entry.row]
 try (rintro row (⟨a,-,rfl⟩|rfl)<;>rfl)
theorem tw (r:Ring) (hl:cR r<=2 ^ 30) (n:Int):ai Tryz.prog 346 [.agg r.row,.c (vi n)] (.tup [.agg (bj r n).1.res,.c (.s ((bj r n).2.1.map Entry.row)) 3,.c (vi (bj r n).2.2) 1]):=by
 refine pci ae Tryz.func346 (λw0 base=>?_);have hno:=@qg r n;have hout:=@lc r n;have hyes:=@k9 r n;have hnl:nL aS r.list<=2 ^ 30:=by unfold cR at hl;omega
 have hle:=aB hnl;simp [Ring.row];intro b2 b4;refine aa.pure (rb r hl) (by simp [Ring.row]) ?_;simp [Ring.res];intro H b7;refine aa.pure (hJ r (by omega)) (by simp [Ring.row]) ?_;by_cases c1:aZ r
 rotate_left
 ·simp [ab c1,hno (λh=>c1 h.1)]
 simp [c1];by_cases c2:1<=n
 rotate_left
 ·have c2':n<1:=by omega
  simp [c2',hno (λh=>c2 h.2)]
 have c2':¬ n<1:=by omega
 simp [c2'];have hnx:=c1.2.2.1
 cases c3:r.out with
 |true=>simp [hout ⟨c1,c2⟩ c3,c3]
 |false=>
 simp
 have hdrop:∀ k,nL aS (r.list.drop k)<=2 ^ 30:=λk=>by
  have h:=fi (f:=aS) (r.list.take k) (r.list.drop k);rw [List.take_append_drop] at h;omega
 by_cases c4:(r.list.length:Int)<n
 ·have e1:=hyes ⟨c1,c2⟩ c3 (k:=r.list.length) (by omega)
  have ew:Go.IntKind.i64.wrap (r.next+(r.list.length:Int))=r.next+r.list.length:=Go.IntWalk.i64_in _ (by omega);have cd:=iQ (l:=r.list) (k:=r.list.length) (Nat.le_refl _);have ct:=rA (l:=r.list) (k:=r.list.length) (Nat.le_refl _);rw [List.drop_eq_nil_of_le (Nat.le_refl _)] at cd e1;simp at cd;simp [c4];refine aa.pure (ep [] (by simp [nL,bV])) (by simp [cd]) ?_;simp [ew];intro H2;refine drw eok mix [0,1,2,3,4,8] [5,6,7] (.c 6 5 2 61 (.c 6 6 32 29 (.c 6 7 28 1 (.l 6 1) .s) .s) .s) ?_;simp
  try intros
  refine aa.pure (ep r.list hnl) (by simp) ?_;simp
  try intros
  rw [e1];simp [c3]
 obtain ⟨k,rfl⟩:∃ k:Nat,n=k:=⟨n.toNat,by omega⟩;have hk:k<=r.list.length:=by omega
 have e1:=hyes ⟨c1,c2⟩ c3 (k:=k) (by simp;omega);have ew:Go.IntKind.i64.wrap (r.next+(k:Int))=r.next+k:=Go.IntWalk.i64_in _ (by omega);have cd:=iQ hk;have ct:=rA hk;simp [c4,hk];refine aa.pure (ep (r.list.drop k) (hdrop k)) (by simp [cd]) ?_;simp [ew];intro H2;refine drw eok mix [0,1,2,3,4,8] [5,6,7] (.c 6 5 2 61 (.c 6 6 32 29 (.c 6 7 28 1 (.l 6 1) .s) .s) .s) ?_;simp [hk]
 try intros
 refine aa.pure (ep (r.list.take k) (xV hnl)) (by simp [ct]) ?_;simp [hk]
 try intros
 rw [e1];simp [c3];exact ⟨λrow h=>IY (List.mem_of_mem_drop h),λrow h=>IY (List.mem_of_mem_take h)⟩
theorem qU (r:Ring) (hl:cR r<=2 ^ 30) (rev:Int) (hr : -4611686018427387904<=rev/\rev<=4611686018427387904):ai Tryz.prog 347 [.agg r.row,.c (vi rev)] (.tup [.agg (bI r rev).1.res,.c (.v (.bool (bI r rev).2)) 1]):=by
 refine pci ae Tryz.func347 (λw0 base=>?_);have hno:=@nf r rev;have hyes:=@jp r rev;simp [Ring.row];intro b2 b4;refine aa.pure (hJ r (by omega)) (by simp [Ring.row]) ?_;by_cases c1:aZ r
 rotate_left
 ·simp [ab c1,hno c1,Ring.res,Ring.zero]
 simp [c1];have hc:=oC r.cap rev hr;rw [<- hyes c1] at hc;generalize bI r rev=R at hc ⊢;obtain ⟨R1,R2⟩:=R;refine aa.pure hc (by simp) ?_;simp [Ring.res]
set_option maxHeartbeats 1600000
theorem yo (name:ByteArray) (t:List Int) (h1:name.size<=2 ^ 28) (h2:t.length<=2 ^ 28):ai Tryz.prog 299 [.c (.v (.string name)),.c (.s (t.map ak))] (.tup [.agg (fC name t).1.res,.c (.v (.bool (fC name t).2)) 1]):=by
 refine pci ae Tryz.func299 (λw0 base=>?_);have hn:=IZ name t;simp;intro b4;refine aa.pure (fT t (by omega)) (by simp) ?_;simp;intro H9 b6;refine aa.pure (fN (dM name t) (by omega)) (by simp [Doc.row,dM]) ?_;by_cases c:aN (dM name t)
 ·have e:fC name t=(dM name t,true):=by unfold fC;rw [if_pos c]
  simp [c,e,Doc.res];simp [dM]
 ·have e:fC name t=(Doc.zero,false):=by unfold fC;rw [if_neg c]
  simp [ab c,e,Doc.res,Doc.zero]
theorem xK (name:ByteArray) (t:List Int) (h1:name.size<=2 ^ 28) (h2:t.length<=2 ^ 28):ai Tryz.prog 292 [.c (.v (.string name)),.c (.s (t.map ak))] (.tup [.agg (fC name t).1.res,.c (.v (.bool (fC name t).2)) 1]):=by
 refine pci ae Tryz.func292 (λw0 base=>?_);have hn:=IZ name t;simp;intro b4 b8;refine ⟨by omega,λH9 b6=>?_⟩;refine aa.pure (fH (dM name t) (by omega)) (by simp [Doc.row,dM]) ?_;by_cases c:aN (dM name t)
 ·have e:fC name t=(dM name t,true):=by unfold fC;rw [if_pos c]
  simp [c,e,Doc.res];simp [dM]
 ·have e:fC name t=(Doc.zero,false):=by unfold fC;rw [if_neg c]
  simp [ab c,e,Doc.res,Doc.zero]
set_option maxHeartbeats 6400000
theorem fB {h:Hub} {B:Nat} (hl:bX h<=B):nL cq h.docs<=B/\nL dX h.subs<=B:=by unfold bX at hl;omega
theorem nS {l:List Sub} {k:Nat} (hk:k<l.length) (r:Ring):(l.map Sub.row).modify k (λrow=>eR row 2 [.v (.int .i64 r.cap),.v (.int .i64 r.next),.v (.bool r.out),.s (r.list.map Entry.row)])=(l.set k ⟨l[k].id,l[k].doc,r⟩).map Sub.row:=by
 rw [List.map_set];refine List.ext_getElem (by simp) (λj h1 h2=>?_);rw [List.getElem_modify,List.getElem_set]
 split
 ·rename_i e
  subst e;simp [Sub.row]
 ·simp
theorem pJ (h:Hub) (hl:bX h<=2 ^ 40) (id:Int):ai Tryz.prog 345 [.agg h.row,.c (vi id)] (.one (.c (vi (eL h.subs id)) 1)):=by
 refine pci ae Tryz.func345 (λw0 base=>?_);obtain ⟨sh,docs,l,last⟩:=h;have hle:=aB (fB hl).2;simp only at hle;simp [Hub.row];intro b2;refine aq.intro eok (λi:Nat=>i<=l.length/\∀ j,j<i->∀ hj:j<l.length,¬ l[j].id=id) (λi=>⟨21,0,[(10,.v (.int .i64 i)),(9,.v (.int .i64 l.length)),(8,.ro (l.map Sub.row)),(1,.v (.int .i64 id))],[]⟩) (λi=>l.length - i) 0 (by simp) (by simp) (λi hi=>?_);by_cases hlt:i<l.length
 ·simp [hlt,Sub.row]
  intro b;by_cases c:l[i].id=id
  ·have e:eL l id=i:=kF hlt c hi.2
   simp [c,e]
  ·simp [c]
   exact ⟨i+1,⟨by omega,λj hj hjl=>by
    by_cases hji:j=i
    ·subst hji;exact c
    ·exact hi.2 j (by omega) hjl⟩,by omega,ah (by omega)⟩
 ·have e:eL l id = -1:=iM (λj hj=>hi.2 j (by omega) hj)
  simp [hlt,e]
theorem vw (h:Hub) (hl:bX h<=2 ^ 30):ai Tryz.prog 269 [.agg h.row] (.tup [.agg (bS h).1.res,.c (vi (bS h).2) 1]):=by
 refine pci ae Tryz.func269 (λw0 base=>?_);simp [Hub.row];intro b1 b2;refine aa.pure (dt h hl) (by simp [Hub.row]) ?_;by_cases c1:ao h
 rotate_left
 ·simp [ab c1,si c1,Hub.res,Hub.zero]
 simp [c1]
 cases c2:h.shut with
 |true=>simp [oQ c1 c2,Hub.res,Hub.zero]
 |false=>
 have e:=qj c1 (by rw [c2];simp);simp;refine aa.pure (bY h hl) (by simp [Hub.row,c2]) ?_;simp [Hub.res,e]
theorem jV (h:Hub) (hl:bX h<=2 ^ 28) (name:ByteArray) (room:Int):ai Tryz.prog 266 [.agg h.row,.c (.v (.string name)),.c (vi room)]
 (.tup [.agg (au h name room).1.res,.c (vi (au h name room).2.1) 1,.c (vi (au h name room).2.2) 1]):=by
 refine pci ae Tryz.func266 (λw0 base=>?_);have hls:=aB (fB hl).2;simp [Hub.row];intro b3 b6;refine aa.pure (cF h (by omega) name) (by simp [Hub.row]) ?_;simp;refine aa.pure (dt h (by omega)) (by simp [Hub.row]) ?_;by_cases c1:ao h
 rotate_left
 ·simp [ab c1,eO (λh=>c1 h.1),Hub.res,Hub.zero]
 simp [c1];refine aa.pure (ba room 1 6) (by simp) ?_;by_cases c2:1<=room/\room<=6
 rotate_left
 ·simp [ab c2,eO (λh=>c2 h.2),Hub.res,Hub.zero]
 simp [c2]
 cases c3:h.shut with
 |true=>simp [gE ⟨c1,c2⟩ c3,Hub.res,Hub.zero]
 |false=>
 simp;rcases bJ h.docs name with ⟨k,hk,e,-⟩|e;rotate_left
 ·simp [e,gF ⟨c1,c2⟩ (by rw [c3];simp) e,Hub.res,Hub.zero]
 have hk0:¬ (k:Int)<0:=by omega
 have hat:=iN ⟨c1,c2⟩ (by rw [c3];simp) hk e;simp [e,hk0];have hlast:=c1.2.2.1;by_cases c4:h.subs.length=6
 ·have c4':(h.subs.length:Int)=6:=by omega
  rw [if_pos (.inl c4)] at hat;simp [c4',hat,Hub.res,Hub.zero]
 have c4':¬ (h.subs.length:Int)=6:=by omega
 simp [c4'];by_cases c5:h.last=1000000000
 ·rw [if_pos (.inr c5)] at hat
  simp [c5,hat,Hub.res,Hub.zero]
 rw [if_neg (λh=>h.elim c4 c5)] at hat;have ew:Go.IntKind.i64.wrap (h.last+1)=h.last+1:=Go.IntWalk.i64_in _ (by omega);have hh:=aX (cA c1 hk);obtain ⟨d,hd⟩:∃ d,h.docs[k]=d:=⟨_,rfl⟩;rw [hd] at hat hh;simp [c5,hk,hd,Doc.row];refine aa.pure (aO d) (by simp [Doc.row]) ?_;simp;have hc:=oC room (ac d) (by omega);generalize dx room (ac d)=R at hc hat;obtain ⟨⟨cp,nx,ot,ls⟩,ok⟩:=R;refine aa.pure hc (by simp) ?_;simp [Ring.res];intro H10 b10;refine aa.pure (bY h (by omega)) (by simp [Hub.row,c3]) ?_;simp [Hub.res,ew,c3];intro H1 H2 b12 b13;refine ⟨by omega,λH=>?_⟩;refine drw eok mix [0,1,2,4,5] [3] (.c 5 3 16 15 (.l 5 15) .s) ?_;simp
 try intros
 rw [hat];simp [c3,Sub.row]
 try (rintro row (⟨a,-,rfl⟩|rfl)<;>rfl)
theorem oF (h:Hub) (hl:bX h<=2 ^ 28) (id n:Int):ai Tryz.prog 267 [.agg h.row,.c (vi id),.c (vi n)]
 (.tup [.agg (bo h id n).1.res,.c (.s ((bo h id n).2.1.map Entry.row)) 3,.c (vi (bo h id n).2.2) 1]):=by
 refine pci ae Tryz.func267 (λw0 base=>?_);have hls:=aB (fB hl).2;simp [Hub.row];intro b3 b6;refine aa.pure (pJ h (by omega) id) (by simp [Hub.row]) ?_;simp;refine aa.pure (dt h (by omega)) (by simp [Hub.row]) ?_;by_cases c1:ao h
 rotate_left
 ·simp [ab c1,jk (λh=>c1 h.1),Hub.res,Hub.zero]
 simp [c1];by_cases c2:1<=n
 rotate_left
 ·have c2':n<1:=by omega
  simp [c2',jk (λh=>c2 h.2),Hub.res,Hub.zero]
 have c2':¬ n<1:=by omega
 simp [c2'];rcases fW h.subs id with ⟨k,hk,e,-⟩|e;rotate_left
 ·simp [e,lj ⟨c1,c2⟩ e,Hub.res,Hub.zero]
 have hk0:¬ (k:Int)<0:=by omega
 have hat:=ni ⟨c1,c2⟩ hk e;have hm:=dO (f:=dX) (fB hl).2 hk;unfold dX at hm;have hmod:=nS hk;obtain ⟨s,hs⟩:∃ s,h.subs[k]=s:=⟨_,rfl⟩;rw [hs] at hat hm hmod;have hc:=tw s.r (by omega) n;generalize bj s.r n=R at hc hat;obtain ⟨r,list,code⟩:=R;simp only at hat hc;simp [e,hk0,hk,hs,Sub.row];refine aa.pure hc (by simp [Ring.row]) ?_;simp [Ring.res];intro H10 H11 b10;by_cases c3:code=0
 rotate_left
 ·rw [if_neg c3] at hat
  simp [c3,hat,Hub.res,Hub.zero]
 rw [if_pos c3] at hat;simp [c3];refine aa.pure (bY h (by omega)) (by simp [Hub.row]) ?_;simp [Hub.res,hk]
 try intros
 rw [hat];simp [hmod r];exact qY
theorem mq (h:Hub) (hl:bX h<=2 ^ 28) (id:Int):ai Tryz.prog 268 [.agg h.row,.c (vi id)]
 (.tup [.agg (aI h id).1.res,.c (.s ((aI h id).2.1.map ak)) 1,.c (vi (aI h id).2.2.1) 1,.c (vi (aI h id).2.2.2) 1]):=by
 refine pci ae Tryz.func268 (λw0 base=>?_);have hls:=aB (fB hl).2;simp [Hub.row];intro b2 b4;refine aa.pure (pJ h (by omega) id) (by simp [Hub.row]) ?_;simp;refine aa.pure (dt h (by omega)) (by simp [Hub.row]) ?_;by_cases c1:ao h
 rotate_left
 ·simp [ab c1,lh c1,Hub.res,Hub.zero]
 simp [c1];rcases fW h.subs id with ⟨k,hk,e,-⟩|e;rotate_left
 ·simp [e,jt c1 e,Hub.res,Hub.zero]
 have hk0:¬ (k:Int)<0:=by omega
 obtain ⟨hro,j,hj,ej⟩:=sQ c1 hk;have hat:=li c1 hk e hj ej;have hm:=dO (f:=dX) (fB hl).2 hk;have hdn:=dO (f:=cq) (fB hl).1 hj;have hh:=aX (cA c1 hj);unfold dX at hm;have hmod:=nS hk;obtain ⟨s,hs⟩:∃ s,h.subs[k]=s:=⟨_,rfl⟩;obtain ⟨d,hd⟩:∃ d,h.docs[j]=d:=⟨_,rfl⟩;rw [hs] at hat hm hmod ej;rw [hd] at hat hdn hh;have hc:=qU s.r (by omega) (ac d) (by omega);generalize bI s.r (ac d)=R at hc hat;obtain ⟨r,ok⟩:=R;simp only at hat hc;simp [e,hk0];refine bL (λx:Nat=>[(9,.p 144 x 0)]) (λx=>[(144,.vars x 89 [.v (.string d.name),.v (.int .i64 d.fr),.ro (d.text.map ak),.ro (d.list.map Entry.row),.ro (d.seen.map Seen.row)])]) [1,2,4,5,6,7,8] ?_ ?_
 ·refine drw eok mix [0,1,2,3,4,5,6,7,8] [9,10,11,12,13] (.c 9 9 65 446 (.c 9 10 128 318 (.c 9 11 0 318 (.c 9 12 0 318 (.c 9 13 318 0 (.l 9 0) .s) .s) (.c 9 12 0 318 (.c 9 11 0 318 (.c 9 13 318 0 (.l 9 0) .s) .s) .s)) (.c 9 12 0 446 (.c 9 10 128 318 (.c 9 11 0 318 (.c 9 13 318 0 (.l 9 0) .s) .s) .s) .s)) (.c 9 12 0 511 (.c 9 9 65 446 (.c 9 10 128 318 (.c 9 11 0 318 (.c 9 13 318 0 (.l 9 0) .s) .s) .s) .s) .s)) ?_
  simp [hk,hs,Sub.row]
  try intros
  repeat' first
   |(refine aa.pure (cF h (by omega) s.doc) (by simp [Hub.row]) ?_;simp [hj,hd,Doc.row,ej];try intros)
   |(rw [Trc];refine ⟨?_,?_⟩<;>(try simp [hk,hs,hj,hd,Sub.row,Doc.row])<;>try intros)
 rintro b9
 simp;refine aa.pure (bY h (by omega)) (by simp [Hub.row]) ?_;simp [Hub.res];intro H1 H2 b10;refine drw eok mix [0,1,2,3,4,5,6,7,8,9,15,16] [10,11,12,13,14,17] (.c 12 10 4 4091 (.c 12 11 8 4083 (.c 12 12 0 4083 (.c 12 13 0 4083 (.c 12 14 0 4083 (.c 12 17 4081 2 (.l 12 2) .s) .s) .s) .s) .s) .s) ?_;simp [hk,hs,Sub.row]
 try intros
 refine aa.pure (aO d) (by simp [Doc.row]) ?_;simp
 try intros
 refine aa.pure (hc) (by simp [Ring.row]) ?_;simp [Ring.res,hk]
 try intros
 refine drw eok mix [0,1,3,8] [2,4,5,6,7] (.c 4 2 4 11 (.c 4 4 2 9 (.c 4 5 8 1 (.c 4 6 0 1 (.c 4 7 0 1 (.l 4 1) .s) .s) .s) .s) .s) ?_;simp
 try intros
 refine aa.pure (jW d (by omega)) (by simp [Doc.row]) ?_;simp
 try intros
 refine aa.pure (aO d) (by simp [Doc.row]) ?_;simp
 try intros
 rw [hat];simp [hmod r];exact qY
theorem Bv (h:Hub) (hl:bX h<=2 ^ 28) (_c1:ao h) (c:Call):ai Tryz.prog 265 [.agg h.row,.agg c.row] (.one (.agg (jx h c).res)):=by
 refine pci ae Tryz.func265 (λw0 base=>?_);simp [Hub.row,Call.row];intro b2 b3 b4;refine aa.pure (cF h (by omega) c.doc) (by simp [Hub.row]) ?_;simp
 cases c3:h.shut with
 |true=>simp [uz c3,Answer.res,bK]
 |false=>
 simp;rcases bJ h.docs c.doc with ⟨k,hk,e,-⟩|e;rotate_left
 ·simp [e,uA (by rw [c3];simp) e,Answer.res,bK]
 have hk0:¬ (k:Int)<0:=by omega
 have hat:=AR (c:=c) (by rw [c3];simp) hk e;have hdn:=dO (f:=cq) (fB hl).1 hk;obtain ⟨d,hd⟩:∃ d,h.docs[k]=d:=⟨_,rfl⟩;rw [hd] at hat hdn;simp [e,hk0];by_cases c4:c.kind=4
 ·rw [if_pos c4] at hat
  simp [c4];refine drw eok mix [0,1,2,3,4,6,7,8,9,10] [5,11,12,13] (.c 10 5 32 991 (.c 10 11 1 990 (.c 10 12 0 990 (.c 10 13 990 0 (.l 10 0) .s) .s) .s) .s) ?_;simp [hk,hd,Doc.row]
  try intros
  refine aa.pure (jW d (by omega)) (by simp [Doc.row,Doc.row]) ?_;simp
  try intros
  refine aa.pure (aO d) (by simp [Doc.row,Doc.row]) ?_;simp
  try intros
  rw [hat];simp [Answer.res]
 rw [if_neg c4] at hat;have hf:=zx d (by omega) c.n;generalize fS d c.n=R at hat hf;obtain ⟨list,code⟩:=R;simp only at hat hf;simp [c4];refine drw eok mix [0,1,2,3,4,5,6] [7,8,9,10,11,12] (.c 7 7 5 122 (.c 7 8 0 122 (.c 7 9 0 122 (.c 7 10 0 122 (.c 7 11 122 0 (.c 7 12 0 0 (.l 7 0) .s) .s) .s) .s) .s) .s) ?_;simp [hk,hd,Doc.row]
 try intros
 refine aa.pure (hf) (by simp [Doc.row,Doc.row]) ?_;simp
 try intros
 rw [hat];simp [Answer.res]
end Go.Proofs.YtoldjebobgocpaaGreat
