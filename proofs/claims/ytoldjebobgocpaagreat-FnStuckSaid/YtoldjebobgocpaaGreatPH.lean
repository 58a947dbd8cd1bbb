import Derived.Test.YtoldjebobgocpaaGreatPG
import Derived.Test.YtoldjebobgocpaaGreatPD
import Derived.Test.YtoldjebobgocpaaGreatPF
import Derived.Test.YtoldjebobgocpaaGreatPC
import Derived.Test.YtoldjebobgocpaaGreatMG
namespace Go.Proofs.YtoldjebobgocpaaGreat
open Go.AM
set_option maxRecDepth 20000
set_option maxHeartbeats 6400000
theorem eY {h : Hub} {B : Nat} (hl : cf h<=B) : nL cq h.docs<=B/\nL d7 h.subs<=B:=by unfold cf at hl;omega
theorem mV {l : List Sub} {k : Nat} (hk : k < l.length) (r : Ring) : (l.map Sub.row).modify k (λrow=>eA row 2 [.v (.int .i64 r.cap),.v (.int .i64 r.next),.v (.bool r.out),.s (r.list.map Entry.row)]) = (l.set k ⟨l[k].id,l[k].doc,r⟩).map Sub.row:=by
 rw [List.map_set];refine List.ext_getElem (by simp) (λj h1 h2=>?_);rw [List.getElem_modify,List.getElem_set]
 split
 ·rename_i e
  subst e;simp [Sub.row]
 ·simp
theorem oC (h : Hub) (hl : cf h<=2 ^ 40) (id : Int) : aj Tryz.prog 345 [.agg h.row,.c (vi id)] (.one (.c (vi (el h.subs id)) 1)):=by
 refine pci ae Tryz.func345 (λw0 base=>?_);obtain ⟨sh,docs,l,last⟩:=h;have hle:=aA (eY hl).2;simp only at hle;simp [Hub.row];intro b2;refine au.intro eok (λi : Nat=>i<=l.length/\∀ j,j < i->∀ hj : j < l.length,¬ l[j].id = id) (λi=>⟨21,0,[(10,.v (.int .i64 i)),(9,.v (.int .i64 l.length)),(8,.ro (l.map Sub.row)),(1,.v (.int .i64 id))],[]⟩) (λi=>l.length - i) 0 (by simp) (by simp) (λi hi=>?_);by_cases hlt : i < l.length
 ·simp [hlt,Sub.row]
  intro b;by_cases c : l[i].id = id
  ·have e : el l id = i:=jR hlt c hi.2
   simp [c,e]
  ·simp [c]
   exact ⟨i + 1,⟨by omega,λj hj hjl=>by
    by_cases hji : j = i
    ·subst hji;exact c
    ·exact hi.2 j (by omega) hjl⟩,by omega,ah (by omega)⟩
 ·have e : el l id = -1:=ia (λj hj=>hi.2 j (by omega) hj)
  simp [hlt,e]
theorem tU (h : Hub) (hl : cf h<=2 ^ 30) : aj Tryz.prog 269 [.agg h.row] (.tup [.agg (bW h).1.res,.c (vi (bW h).2) 1]):=by
 refine pci ae Tryz.func269 (λw0 base=>?_);simp [Hub.row];intro b1 b2;refine aa.pure (cX h hl) (by simp [Hub.row]) ?_;by_cases c1 : an h
 rotate_left
 ·simp [ab c1,qP c1,Hub.res,Hub.zero]
 simp [c1]
 cases c2 : h.shut with
 | true=>simp [nK c1 c2,Hub.res,Hub.zero]
 | false=>
 have e:=o8 c1 (by rw [c2];simp);simp;refine aa.pure (bS h hl) (by simp [Hub.row,c2]) ?_;simp [Hub.res,e]
theorem jk (h : Hub) (hl : cf h<=2 ^ 28) (name : ByteArray) (room : Int) : aj Tryz.prog 266 [.agg h.row,.c (.v (.string name)),.c (vi room)]
 (.tup [.agg (aw h name room).1.res,.c (vi (aw h name room).2.1) 1,.c (vi (aw h name room).2.2) 1]):=by
 refine pci ae Tryz.func266 (λw0 base=>?_);have hls:=aA (eY hl).2;simp [Hub.row];intro b3 b6;refine aa.pure (cu h (by omega) name) (by simp [Hub.row]) ?_;simp;refine aa.pure (cX h (by omega)) (by simp [Hub.row]) ?_;by_cases c1 : an h
 rotate_left
 ·simp [ab c1,et (λh=>c1 h.1),Hub.res,Hub.zero]
 simp [c1];refine aa.pure (aZ room 1 6) (by simp) ?_;by_cases c2 : 1<=room/\room<=6
 rotate_left
 ·simp [ab c2,et (λh=>c2 h.2),Hub.res,Hub.zero]
 simp [c2]
 cases c3 : h.shut with
 | true=>simp [f3 ⟨c1,c2⟩ c3,Hub.res,Hub.zero]
 | false=>
 simp;rcases bD h.docs name with ⟨k,hk,e,-⟩ | e;rotate_left
 ·simp [e,f5 ⟨c1,c2⟩ (by rw [c3];simp) e,Hub.res,Hub.zero]
 have hk0 : ¬ (k : Int) < 0:=by omega
 have hat:=ib ⟨c1,c2⟩ (by rw [c3];simp) hk e;simp [e,hk0];have hlast:=c1.2.2.1;by_cases c4 : h.subs.length = 6
 ·have c4' : (h.subs.length : Int) = 6:=by omega
  rw [if_pos (.inl c4)] at hat;simp [c4',hat,Hub.res,Hub.zero]
 have c4' : ¬ (h.subs.length : Int) = 6:=by omega
 simp [c4'];by_cases c5 : h.last = 1000000000
 ·rw [if_pos (.inr c5)] at hat
  simp [c5,hat,Hub.res,Hub.zero]
 rw [if_neg (λh=>h.elim c4 c5)] at hat;have ew : Go.IntKind.i64.wrap (h.last + 1) = h.last + 1:=Go.IntWalk.i64_in _ (by omega);have hh:=aV (ch c1 hk);obtain ⟨d,hd⟩ : ∃ d,h.docs[k] = d:=⟨_,rfl⟩;rw [hd] at hat hh;simp [c5,hk,hd,Doc.row];refine aa.pure (aN d) (by simp [Doc.row]) ?_;simp;have hc:=nw room (ac d) (by omega);generalize cY room (ac d) = R at hc hat;obtain ⟨⟨cp,nx,ot,ls⟩,ok⟩:=R;refine aa.pure hc (by simp) ?_;simp [Ring.res];intro H10 b10;refine aa.pure (bS h (by omega)) (by simp [Hub.row,c3]) ?_;simp [Hub.res,ew,c3];intro H1 H2 b12 b13;refine ⟨by omega,λH=>?_⟩;refine drw eok mix [0,1,2,4,5] [3] (.c 5 3 16 15 (.l 5 15) .s) ?_;simp
 try intros
 rw [hat];simp [c3,Sub.row]
 try (rintro row (⟨a,-,rfl⟩ | rfl)<;>rfl)
theorem nB (h : Hub) (hl : cf h<=2 ^ 28) (id n : Int) : aj Tryz.prog 267 [.agg h.row,.c (vi id),.c (vi n)]
 (.tup [.agg (bC h id n).1.res,.c (.s ((bC h id n).2.1.map Entry.row)) 3,.c (vi (bC h id n).2.2) 1]):=by
 refine pci ae Tryz.func267 (λw0 base=>?_);have hls:=aA (eY hl).2;simp [Hub.row];intro b3 b6;refine aa.pure (oC h (by omega) id) (by simp [Hub.row]) ?_;simp;refine aa.pure (cX h (by omega)) (by simp [Hub.row]) ?_;by_cases c1 : an h
 rotate_left
 ·simp [ab c1,iB (λh=>c1 h.1),Hub.res,Hub.zero]
 simp [c1];by_cases c2 : 1<=n
 rotate_left
 ·have c2' : n < 1:=by omega
  simp [c2',iB (λh=>c2 h.2),Hub.res,Hub.zero]
 have c2' : ¬ n < 1:=by omega
 simp [c2'];rcases fq h.subs id with ⟨k,hk,e,-⟩ | e;rotate_left
 ·simp [e,kz ⟨c1,c2⟩ e,Hub.res,Hub.zero]
 have hk0 : ¬ (k : Int) < 0:=by omega
 have hat:=mu ⟨c1,c2⟩ hk e;have hm:=dy (f:=d7) (eY hl).2 hk;unfold d7 at hm;have hmod:=mV hk;obtain ⟨s,hs⟩ : ∃ s,h.subs[k] = s:=⟨_,rfl⟩;rw [hs] at hat hm hmod;have hc:=rT s.r (by omega) n;generalize bf s.r n = R at hc hat;obtain ⟨r,list,code⟩:=R;simp only at hat hc;simp [e,hk0,hk,hs,Sub.row];refine aa.pure hc (by simp [Ring.row]) ?_;simp [Ring.res];intro H10 H11 b10;by_cases c3 : code = 0
 rotate_left
 ·rw [if_neg c3] at hat
  simp [c3,hat,Hub.res,Hub.zero]
 rw [if_pos c3] at hat;simp [c3];refine aa.pure (bS h (by omega)) (by simp [Hub.row]) ?_;simp [Hub.res,hk]
 try intros
 rw [hat];simp [hmod r];exact pF
theorem lI (h : Hub) (hl : cf h<=2 ^ 28) (id : Int) : aj Tryz.prog 268 [.agg h.row,.c (vi id)]
 (.tup [.agg (aM h id).1.res,.c (.s ((aM h id).2.1.map ak)) 1,.c (vi (aM h id).2.2.1) 1,.c (vi (aM h id).2.2.2) 1]):=by
 refine pci ae Tryz.func268 (λw0 base=>?_);have hls:=aA (eY hl).2;simp [Hub.row];intro b2 b4;refine aa.pure (oC h (by omega) id) (by simp [Hub.row]) ?_;simp;refine aa.pure (cX h (by omega)) (by simp [Hub.row]) ?_;by_cases c1 : an h
 rotate_left
 ·simp [ab c1,ku c1,Hub.res,Hub.zero]
 simp [c1];rcases fq h.subs id with ⟨k,hk,e,-⟩ | e;rotate_left
 ·simp [e,iJ c1 e,Hub.res,Hub.zero]
 have hk0 : ¬ (k : Int) < 0:=by omega
 obtain ⟨hro,j,hj,ej⟩:=rt c1 hk;have hat:=kw c1 hk e hj ej;have hm:=dy (f:=d7) (eY hl).2 hk;have hdn:=dy (f:=cq) (eY hl).1 hj;have hh:=aV (ch c1 hj);unfold d7 at hm;have hmod:=mV hk;obtain ⟨s,hs⟩ : ∃ s,h.subs[k] = s:=⟨_,rfl⟩;obtain ⟨d,hd⟩ : ∃ d,h.docs[j] = d:=⟨_,rfl⟩;rw [hs] at hat hm hmod ej;rw [hd] at hat hdn hh;have hc:=pC s.r (by omega) (ac d) (by omega);generalize bu s.r (ac d) = R at hc hat;obtain ⟨r,ok⟩:=R;simp only at hat hc;simp [e,hk0];refine bM (λx : Nat=>[(9,.p 144 x 0)]) (λx=>[(144,.vars x 89 [.v (.string d.name),.v (.int .i64 d.fr),.ro (d.text.map ak),.ro (d.list.map Entry.row),.ro (d.seen.map Seen.row)])]) [1,2,4,5,6,7,8] ?_ ?_
 ·refine drw eok mix [0,1,2,3,4,5,6,7,8] [9,10,11,12,13] (.c 9 9 65 446 (.c 9 10 128 318 (.c 9 11 0 318 (.c 9 12 0 318 (.c 9 13 318 0 (.l 9 0) .s) .s) (.c 9 12 0 318 (.c 9 11 0 318 (.c 9 13 318 0 (.l 9 0) .s) .s) .s)) (.c 9 12 0 446 (.c 9 10 128 318 (.c 9 11 0 318 (.c 9 13 318 0 (.l 9 0) .s) .s) .s) .s)) (.c 9 12 0 511 (.c 9 9 65 446 (.c 9 10 128 318 (.c 9 11 0 318 (.c 9 13 318 0 (.l 9 0) .s) .s) .s) .s) .s)) ?_
  simp [hk,hs,Sub.row]
  try intros
  repeat' first
   | (refine aa.pure (cu h (by omega) s.doc) (by simp [Hub.row]) ?_;simp [hj,hd,Doc.row,ej];try intros)
   | (rw [Trc];refine ⟨?_,?_⟩<;>(try simp [hk,hs,hj,hd,Sub.row,Doc.row])<;>try intros)
 rintro b9
 simp;refine aa.pure (bS h (by omega)) (by simp [Hub.row]) ?_;simp [Hub.res];intro H1 H2 b10;refine drw eok mix [0,1,2,3,4,5,6,7,8,9,15,16] [10,11,12,13,14,17] (.c 12 10 4 4091 (.c 12 11 8 4083 (.c 12 12 0 4083 (.c 12 13 0 4083 (.c 12 14 0 4083 (.c 12 17 4081 2 (.l 12 2) .s) .s) .s) .s) .s) .s) ?_;simp [hk,hs,Sub.row]
 try intros
 refine aa.pure (aN d) (by simp [Doc.row]) ?_;simp
 try intros
 refine aa.pure (hc) (by simp [Ring.row]) ?_;simp [Ring.res,hk]
 try intros
 refine drw eok mix [0,1,3,8] [2,4,5,6,7] (.c 4 2 4 11 (.c 4 4 2 9 (.c 4 5 8 1 (.c 4 6 0 1 (.c 4 7 0 1 (.l 4 1) .s) .s) .s) .s) .s) ?_;simp
 try intros
 refine aa.pure (jl d (by omega)) (by simp [Doc.row]) ?_;simp
 try intros
 refine aa.pure (aN d) (by simp [Doc.row]) ?_;simp
 try intros
 rw [hat];simp [hmod r];exact pF
theorem zu (h : Hub) (hl : cf h<=2 ^ 28) (_c1 : an h) (c : Call) : aj Tryz.prog 265 [.agg h.row,.agg c.row] (.one (.agg (jQ h c).res)):=by
 refine pci ae Tryz.func265 (λw0 base=>?_);simp [Hub.row,Call.row];intro b2 b3 b4;refine aa.pure (cu h (by omega) c.doc) (by simp [Hub.row]) ?_;simp
 cases c3 : h.shut with
 | true=>simp [sX c3,Answer.res,bJ]
 | false=>
 simp;rcases bD h.docs c.doc with ⟨k,hk,e,-⟩ | e;rotate_left
 ·simp [e,sY (by rw [c3];simp) e,Answer.res,bJ]
 have hk0 : ¬ (k : Int) < 0:=by omega
 have hat:=yO (c:=c) (by rw [c3];simp) hk e;have hdn:=dy (f:=cq) (eY hl).1 hk;obtain ⟨d,hd⟩ : ∃ d,h.docs[k] = d:=⟨_,rfl⟩;rw [hd] at hat hdn;simp [e,hk0];by_cases c4 : c.kind = 4
 ·rw [if_pos c4] at hat
  simp [c4];refine drw eok mix [0,1,2,3,4,6,7,8,9,10] [5,11,12,13] (.c 10 5 32 991 (.c 10 11 1 990 (.c 10 12 0 990 (.c 10 13 990 0 (.l 10 0) .s) .s) .s) .s) ?_;simp [hk,hd,Doc.row]
  try intros
  refine aa.pure (jl d (by omega)) (by simp [Doc.row,Doc.row]) ?_;simp
  try intros
  refine aa.pure (aN d) (by simp [Doc.row,Doc.row]) ?_;simp
  try intros
  rw [hat];simp [Answer.res]
 rw [if_neg c4] at hat;have hf:=xE d (by omega) c.n;generalize f9 d c.n = R at hat hf;obtain ⟨list,code⟩:=R;simp only at hat hf;simp [c4];refine drw eok mix [0,1,2,3,4,5,6] [7,8,9,10,11,12] (.c 7 7 5 122 (.c 7 8 0 122 (.c 7 9 0 122 (.c 7 10 0 122 (.c 7 11 122 0 (.c 7 12 0 0 (.l 7 0) .s) .s) .s) .s) .s) .s) ?_;simp [hk,hd,Doc.row]
 try intros
 refine aa.pure (hf) (by simp [Doc.row,Doc.row]) ?_;simp
 try intros
 rw [hat];simp [Answer.res]
def chn (L : List Part) : Prop:=∀ i,∀ h : i + 1 < L.length,L[i].kind≠L[i + 1].kind
theorem B9 : chn []:=λi h=>by simp at h
theorem GP {p : Part} {L : List Part} (h : chn (p :: L)) : chn L/\∀ h0 : 0 < L.length,p.kind≠L[0].kind:=by
 refine ⟨λi hi=>?_,λh0=>?_⟩
 ·have:=h (i + 1) (by simp;omega)
  simpa using this
 ·have:=h 0 (by simp;omega)
  simpa using this
theorem mA {L : List Part} {p : Part} (h : chn L) (hp : ∀ h : 0 < L.length,(L[L.length - 1]'(by omega)).kind≠p.kind) : chn (L ++ [p]):=by
 intro i hi;simp at hi;by_cases c : i + 1 < L.length
 ·rw [List.getElem_append_left (by omega),List.getElem_append_left c];exact h i c
 ·have h0 : 0 < L.length:=by omega
  have:=hp h0;rw [List.getElem_append_left (by omega),List.getElem_append_right (by omega)];have e : i = L.length - 1:=by omega
  subst e
  simpa using this
theorem I4 {L : List Part} {i : Nat} {p : Part} (h : chn L) (hi : i < L.length) (hk : p.kind = L[i].kind) : chn (L.set i p):=by
 intro j hj;simp at hj;have h1:=h j hj;rw [List.getElem_set,List.getElem_set]
 split
 ·rename_i e;subst e
  rw [if_neg (by omega),hk];exact h1
 ·split
  ·rename_i e;subst e;rw [hk];exact h1
  ·exact h1
def FW (L : List Part) : Prop:=∀ h : 0 < L.length,(L[L.length - 1]'(by omega)).kind = 1
theorem sC {L : List Part} {p : Part} : (((L ++ [p])[(L ++ [p]).length - 1]'(by simp))).kind = p.kind:=by simp
theorem vf {L : List Part} {P : List Int} {D : Int} (h : chn L) (hl : FW L) : chn (aJ L P D):=by
 unfold aJ
 split
 ·split
  ·rw [List.nil_append]
   exact mA h λh0=>by rw [hl h0];simp
  ·simpa using h
 ·have h1 : chn (L ++ [⟨2,0,P⟩]):=mA h λh0=>by rw [hl h0];simp
  split
  ·rw [<- List.append_assoc]
   exact mA h1 λh0=>by rw [sC];simp
  ·simpa using h1
theorem F6 {L : List Part} {n : Int} (h : chn L) : chn (bR L n)/\FW (bR L n):=by
 unfold bR
 split
 ·rename_i h0
  split
  ·rename_i hk
   refine ⟨I4 h (by omega) hk.symm,λh1=>?_⟩;simp
  ·rename_i hk
   refine ⟨mA h λ_=>hk,λh1=>?_⟩;rw [sC]
 ·exact ⟨mA (L:=[]) B9 (λh=>by simp at h),λ_=>rfl⟩
theorem uW (o : List Part) : ∀ (i : Nat),i<=o.length->chn (a9 (o.take i)).1/\FW (a9 (o.take i)).1
 | 0,_=>by
   simp only [a9,List.take_zero,List.foldl_nil];exact ⟨B9,λh=>by simp at h⟩
 | i + 1,hi=>by
   obtain ⟨h1,h2⟩:=uW o i (by omega);rw [ge (show i < o.length by omega)];generalize a9 (o.take i) = s at h1 h2;unfold di
   split
   ·exact ⟨h1,h2⟩
   ·split
    ·exact ⟨h1,h2⟩
    ·split
     ·exact F6 (vf h1 h2)
     ·exact ⟨h1,h2⟩
theorem zR (o : List Part) : chn (normal o):=by
 obtain ⟨h1,h2⟩:=uW o o.length (Nat.le_refl _);rw [List.take_length] at h1 h2;exact vf h1 h2
def ui : At->List Part->List Part
 | .k,[]=>[⟨1,1,[]⟩]
 | .k,p :: l=>if p.kind = 1 then ⟨1,p.n + 1,[]⟩ :: l else ⟨1,1,[]⟩ :: p :: l
 | .d,[]=>[⟨3,1,[]⟩]
 | .d,p :: l=>if p.kind = 3 then ⟨3,p.n + 1,[]⟩ :: l else ⟨3,1,[]⟩ :: p :: l
 | .p c,[]=>[⟨2,0,[c]⟩]
 | .p c,p :: l=>if p.kind = 2 then ⟨2,0,c :: p.signs⟩ :: l else ⟨2,0,[c]⟩ :: p :: l
def grp (l : List At) : List Part:=l.foldr ui []
theorem Gm {L : List Part} (h : ∀ h0 : 0 < L.length,L[0].kind≠1) : ∀ n : Nat,(List.replicate (n + 1) At.k).foldr ui L = ⟨1,(n : Int) + 1,[]⟩ :: L
 | 0=>by
   cases L with
   | nil=>rfl
   | cons p l=>have:=h (by simp);simp at this;simp [ui,this]
 | n + 1=>by
   rw [List.replicate_succ,List.foldr_cons,Gm h n];simp [ui]
theorem Gn {L : List Part} (h : ∀ h0 : 0 < L.length,L[0].kind≠3) : ∀ n : Nat,(List.replicate (n + 1) At.d).foldr ui L = ⟨3,(n : Int) + 1,[]⟩ :: L
 | 0=>by
   cases L with
   | nil=>rfl
   | cons p l=>have:=h (by simp);simp at this;simp [ui,this]
 | n + 1=>by
   rw [List.replicate_succ,List.foldr_cons,Gn h n];simp [ui]
theorem Gl {L : List Part} (h : ∀ h0 : 0 < L.length,L[0].kind≠2) : ∀ (Q : List Int) (c : Int),((c :: Q).map At.p).foldr ui L = ⟨2,0,c :: Q⟩ :: L
 | [],c=>by
   cases L with
   | nil=>rfl
   | cons p l=>have:=h (by simp);simp at this;simp [ui,this]
 | d :: Q,c=>by
   rw [List.map_cons,List.foldr_cons,Gl h Q d];simp [ui]
theorem vc : ∀ {L : List Part},(∀ q∈L,Shp q)->chn L->grp (aU L) = L
 | [],_,_=>rfl
 | p :: L,hs,hc=>by
   obtain ⟨h1,h2⟩:=GP hc;have ih:=vc (λq hq=>hs q (List.mem_cons_of_mem _ hq)) h1;have hp:=hs p (List.mem_cons_self ..);unfold grp at ih ⊢;rw [aU,List.foldr_append,ih];have hpos:=hp.pos;have hn:=hp.n;unfold ats;obtain ⟨kd,n,sg⟩:=p;by_cases k2 : kd = 2
   ·subst k2
    obtain ⟨e1,-⟩:=hp.put rfl;simp only at e1;subst e1;simp only [if_true]
    cases sg with
    | nil=>simp [psz] at hpos
    | cons c Q=>exact Gl (λh0=>by have:=h2 h0;simpa using this.symm) Q c
   ·have e1:=hp.run k2
    simp only at e1 hn;subst e1;have hz : psz ⟨kd,n,[]⟩ = n.toNat:=by simp [psz]
    rw [hz] at hpos;obtain ⟨m,hm⟩ : ∃ m,n.toNat = m + 1:=⟨n.toNat - 1,by omega⟩;have hnm : n = (m : Int) + 1:=by omega
    rw [hz,hm,if_neg k2];by_cases k3 : kd = 3
    ·subst k3
     simp only [if_true];rw [Gn (λh0=>by have:=h2 h0;simpa using this.symm),hnm]
    ·have k1 : kd = 1:=by rcases hp.k with h | h | h<;>simp only at h<;>omega
     subst k1;rw [if_neg (by simp),Gm (λh0=>by have:=h2 h0;simpa using this.symm),hnm]
theorem yf : ∀ (l : List At) (P : List Int) (n : Nat),nA [] 0 (nA P n l) = nA P n l
 | [],P,n=>by
   have h2:=BO n P 0 [];rw [List.append_nil,Nat.zero_add] at h2;rw [nA,BM,List.nil_append,h2,nA]
 | .k :: l,P,n=>by
   rw [nA,BM,BO,List.nil_append,Nat.zero_add,nA,yf l]
 | .p c :: l,P,n=>by rw [nA,yf l]
 | .d :: l,P,n=>by rw [nA,yf l]
theorem ld {o : List Part} (h : ∀ p∈o,ao p) : normal o = grp (lP (aU o)):=by
 rw [<- gX h,vc (sk h) (zR o)]
theorem tY {o : List Part} (h : bN o) : normal (normal o) = normal o:=by
 have h2:=(pI h).1;rw [ld h2.1.1,gX h.1.1,ld h.1.1];unfold lP;rw [yf]
theorem t7 {o : List Part} (h : bN o) : f0 (normal o):=by
 have h2:=(pI h).1;refine ⟨h2,?_⟩;unfold bU;rw [if_pos h2,tY h]
theorem t6 {o : List Part} (h : bN o) : f0 (bU o):=by
 have e : bU o = normal o:=by unfold bU;rw [if_pos h]
 rw [e];exact t7 h
theorem sf : ∀ (l : List (List Part)) (v v' : List Part),f0 v->iL l v = some v'->f0 v'
 | [],v,v',h,e=>by simp only [iL,Option.some.injEq] at e;exact e ▸ h
 | a :: l,v,v',h,e=>by
   rw [iL] at e
   split at e
   ·rename_i ht
    refine sf l _ v' ?_ e;unfold aC at ht ⊢
    split at ht
    ·rename_i h1
     split at ht
     ·rename_i h2
      rw [if_pos h1,if_pos h2];have hi:=rk h1.1 h1.2.1 h1.2.2;have hk:=JA hi;simp only;refine ⟨h2.2,?_⟩;unfold bU;rw [if_pos h2.2,ld h2.2.1.1,gX hk.2];unfold lP;rw [yf];exact (ld hk.2).symm
     ·simp at ht
    ·simp at ht
   ·cases e
theorem AO {l : List (List Part)} {b : List Part} (h : (gl l b).2 = true) : f0 (gl l b).1:=by
 unfold gl at h ⊢
 split at h
 ·rename_i hb
  rw [if_pos hb]
  cases e : iL l (bU b) with
  | none=>rw [e] at h;simp at h
  | some v=>exact sf l _ v (t6 hb) e
 ·simp at h
theorem lC {d : Doc} (h : aL d) (e : Entry) : ac (a8 d e) = ac d + 1/\(a8 d e).list.getLast? = some e:=by
 obtain ⟨h1,h2,h3,h4⟩:=aV h;unfold a8
 split
 ·refine ⟨?_,by simp⟩
  unfold ac;simp only [List.length_append,List.length_cons,List.length_nil];rw [Go.IntWalk.i64_in _ (by omega),Go.IntWalk.i64_in _ (by omega)];omega
 ·refine ⟨?_,?_⟩
  ·unfold ac
   simp only [List.length_append,List.length_cons,List.length_nil,List.length_drop];rw [Go.IntWalk.i64_in _ (by omega),Go.IntWalk.i64_in _ (by omega)];omega
  ·have hl : d.list.length = 8:=by omega
   rw [List.getLast?_drop];rw [if_neg (by rw [List.length_append,List.length_singleton];omega)];simp
theorem kF {α : Type} {R : α->α->Prop} (tr : ∀ a b c,R a b->R b c->R a c) : ∀ {l : List α},(∀ i,∀ h : i < l.length,∀ h0 : 0 < i,R (l[i - 1]'(by omega)) l[i])->l.Pairwise R
 | [],_=>.nil
 | [a],_=>by simp
 | a :: b :: l,h=>by
   have ih:=kF tr (l:=b :: l) (λi hi h0=>by
    have:=h (i + 1) (by simp at hi ⊢;omega) (by omega);obtain ⟨j,rfl⟩ : ∃ j,i = j + 1:=⟨i - 1,by omega⟩
    simpa using this)
   have hab : R a b:=by have:=h 1 (by simp) (by omega);simpa using this
   refine List.pairwise_cons.2 ⟨λc hc=>?_,ih⟩;rcases List.mem_cons.1 hc with rfl | hc
   ·exact hab
   ·exact tr _ _ _ hab ((List.pairwise_cons.1 ih).1 c hc)
theorem ng {α : Type} {R : α->α->Prop} {l : List α} (h : l.Pairwise R) : ∀ i,∀ h : i < l.length,∀ h0 : 0 < i,R (l[i - 1]'(by omega)) l[i]:=
 λi hi h0=>(List.pairwise_iff_getElem.1 h) (i - 1) i (by omega) hi (by omega)
def OQ (R : Int) (s : Seen) : Prop:=(1<=s.client/\s.client<=8)/\(1<=s.seq/\s.seq<=1000000000)/\(1<=s.rev/\s.rev<=R)
theorem qu {d : Doc} : oD d ↔ (∀ s∈d.seen,OQ (ac d) s)/\d.seen.Pairwise λa b=>a.client < b.client:=by
 constructor
 ·intro h
  refine ⟨λs hs=>?_,kF (R:=λa b : Seen=>a.client < b.client) (λ_ _ _=>Int.lt_trans) λi hi h0=>(h i hi).2.2.2 h0⟩;obtain ⟨i,hi,rfl⟩:=List.getElem_of_mem hs;obtain ⟨h1,h2,h3,-⟩:=h i hi;exact ⟨h1,h2,h3⟩
 ·rintro ⟨h1,h2⟩ i hi
  obtain ⟨a,b,c⟩:=h1 _ (List.getElem_mem hi);exact ⟨a,b,c,λh0=>ng h2 i hi h0⟩
theorem l6 {c s r : Int} : ∀ {l : List Seen} {x : Seen},x∈bg c s r l->x = ⟨c,s,r⟩\/x∈l
 | [],x,h=>by simp [bg] at h;exact .inl h
 | y :: l,x,h=>by
   unfold bg at h
   split at h
   ·rcases List.mem_cons.1 h with h | h
    ·exact .inr (by simp [h])
    ·rcases l6 h with h | h
     ·exact .inl h
     ·exact .inr (List.mem_cons_of_mem _ h)
   ·split at h
    ·rcases List.mem_cons.1 h with h | h
     ·exact .inl h
     ·exact .inr (List.mem_cons_of_mem _ h)
    ·rcases List.mem_cons.1 h with h | h
     ·exact .inl h
     ·exact .inr h
theorem rX {c s r : Int} : ∀ {l : List Seen},(l.Pairwise λa b=>a.client < b.client)->(bg c s r l).Pairwise λa b=>a.client < b.client
 | [],_=>by simp [bg]
 | y :: l,h=>by
   obtain ⟨h1,h2⟩:=List.pairwise_cons.1 h;unfold bg
   split
   ·rename_i hc
    refine List.pairwise_cons.2 ⟨λx hx=>?_,rX h2⟩;rcases l6 hx with rfl | hx
    ·exact hc
    ·exact h1 x hx
   ·split
    ·rename_i hc
     exact List.pairwise_cons.2 ⟨λx hx=>by have:=h1 x hx;simp only;omega,h2⟩
    ·refine List.pairwise_cons.2 ⟨λx hx=>?_,h⟩
     rcases List.mem_cons.1 hx with rfl | hx
     ·simp only;omega
     ·have:=h1 x hx;simp only;omega
theorem AU {d : Doc} (h : aL d) {e : Entry} (he : bn e) (hf : ix e.o (cN d)) (hr : ac d < 999999000) : aL (a8 d e):=by
 have hh:=aV h;have hp:=(lC h e).1;obtain ⟨t1,t2⟩:=nI h;obtain ⟨g1,g2,g3,g4,g5,g6,g7⟩:=h
 have hap : (az ((d.list ++ [e]).map Entry.o) d.text).isSome = true:=by
  rw [List.map_append,fE,t1];simp only [Option.bind_some,List.map_cons,List.map_nil,az];rw [if_pos (jf.2 hf)];rfl
 have hse : oD (a8 d e):=by
  rw [qu,hp];obtain ⟨s1,s2⟩:=qu.1 g7;have e1 : (a8 d e).seen = bg e.client e.seq (ac d + 1) d.seen:=by unfold a8;split<;>rfl
  rw [e1];refine ⟨λx hx=>?_,rX s2⟩;rcases l6 hx with rfl | hx
  ·exact ⟨he.1,he.2.1,by simp only;omega⟩
  ·obtain ⟨a,b,c⟩:=s1 x hx
   exact ⟨a,b,by omega⟩
 have hen : ∀ x∈d.list ++ [e],bn x:=λx hx=>by
  rcases List.mem_append.1 hx with hx | hx
  ·exact g5 x hx
  ·simp at hx;subst hx;exact he
 unfold a8 at hse ⊢
 split
 ·rename_i hl
  rw [if_pos hl] at hse;exact ⟨g1,g2,g3,by simp;omega,hen,hap,hse⟩
 ·rename_i hl
  rw [if_neg hl] at hse
  obtain ⟨x,l',hx⟩ : ∃ x l',d.list ++ [e] = x :: l':=by
   cases hd : d.list ++ [e] with
   | nil=>simp at hd
   | cons x l'=>exact ⟨x,l',rfl⟩
  have hlen : l'.length = d.list.length:=by have:=congrArg List.length hx;simp at this;omega
  simp only [hx] at hse hap hen ⊢;simp only [List.getElem_cons_zero,List.drop_one,List.tail_cons] at hse ⊢;rw [List.map_cons,az] at hap
  split at hap
  ·rename_i ha
   exact ⟨g1,by simp only;omega,(ja (jf.1 ha)).1,by simp only;omega,λy hy=>hen y (List.mem_cons_of_mem _ hy),hap,hse⟩
  ·simp at hap
theorem wK (d : Doc) (e : Entry) : (a8 d e).name = d.name:=by unfold a8;split<;>rfl
theorem nJ {d : Doc} {client seq base : Int} {o : List Part} (h : aL d) (hc : (bI d client seq base o).2.2 = 0) :
 aL (bI d client seq base o).1/\(bI d client seq base o).1.name = d.name/\((bI d client seq base o).1 = d\/
  ∃ e,bn e/\e.client = client/\e.seq = seq/\(bI d client seq base o).1 = a8 d e/\ix e.o (cN d)/\ac d < 999999000):=by
 unfold bI at hc ⊢
 split at hc
 ·rename_i hs
  rw [if_pos hs]
  split at hc
  ·rename_i h1
   rw [if_pos h1];exact ⟨h,rfl,.inl rfl⟩
  ·rename_i h1
   rw [if_neg h1]
   split at hc
   ·rename_i h2
    rw [if_pos h2]
    split at hc
    ·rename_i h3
     rw [if_pos h3]
     split at hc
     ·simp at hc
     ·rename_i h4
      rw [if_neg h4]
      have key : f0 (cG d base o).1/\ix (cG d base o).1 (cN d):=by
       unfold cG at h3 ⊢
       split at h3
       ·rename_i c1
        rw [if_pos c1]
        split at h3
        ·simp at h3
        ·rename_i c2
         rw [if_neg c2]
         split at h3
         ·simp at h3
         ·rename_i c3
          rw [if_neg c3]
          split at h3
          ·rename_i c4
           rw [if_pos c4]
           split at h3
           ·rename_i c5
            rw [if_pos c5];exact ⟨AO c5,o7 c1.1 c1.2 (by omega) (by omega) c4 c5⟩
           ·simp at h3
          ·simp at h3
       ·simp at h3
      have he : bn ⟨client,seq,(cG d base o).1⟩:=⟨hs.2.1,hs.2.2.1,key.1⟩;exact ⟨AU h he key.2 (by omega),wK _ _,.inr ⟨_,he,rfl,rfl,rfl,key.2,by omega⟩⟩
    ·rename_i h3;exact absurd hc h3
   ·simp at hc
 ·simp at hc
theorem sR {d : Doc} {client seq base : Int} {o : List Part} (h : aL d) (hc : (bI d client seq base o).2.2 = 0) :
 (bI d client seq base o).1 = d\/∃ e,ac (bI d client seq base o).1 = ac d + 1/\(bI d client seq base o).1.list.getLast? = some e:=by
 obtain ⟨-,-,h1 | ⟨e,-,-,-,h2,-⟩⟩:=nJ h hc
 ·exact .inl h1
 ·rw [h2];exact .inr ⟨e,lC h e⟩
theorem CQ {l : List Doc} {row : List CD} (h : row∈l.map Doc.row) : row.length = 5:=by
 rw [List.mem_map] at h;obtain ⟨a,-,rfl⟩:=h;rfl
theorem DB {l : List Doc} {k : Nat} : cut (l.map Doc.row) 0 k = (l.take k).map Doc.row:=by rw [cJ,List.drop_zero,List.map_take]
theorem DC {l : List Doc} {k : Nat} : cut (l.map Doc.row) k (l.length - k) = (l.drop k).map Doc.row:=by
 rw [cJ,List.map_drop,List.take_of_length_le (by simp)]
noncomputable def fc (name : ByteArray) (e : Entry) (l : List Sub) (i : Nat) : List Sub:=(l.take i).map (cS name e) ++ l.drop i
theorem qi (name : ByteArray) (e : Entry) (l : List Sub) : fc name e l 0 = l:=by simp [fc]
theorem rI (name : ByteArray) (e : Entry) (l : List Sub) : fc name e l l.length = l.map (cS name e):=by simp [fc]
theorem nW (name : ByteArray) (e : Entry) (l : List Sub) (i : Nat) : (fc name e l i).length = l.length:=by simp [fc];omega
theorem pA {name : ByteArray} {e : Entry} {l : List Sub} {i : Nat} (h : i < l.length) : (fc name e l i)[i]'(by rw [nW];exact h) = l[i]:=by
 unfold fc;rw [List.getElem_append_right (by simp;omega)];simp [Nat.min_eq_left (Nat.le_of_lt h)]
theorem nV {name : ByteArray} {e : Entry} {l : List Sub} {i : Nat} (h : i < l.length) : (fc name e l i).set i (cS name e l[i]) = fc name e l (i + 1):=by
 unfold fc;rw [List.set_append_right _ _ (by simp;omega),List.drop_eq_getElem_cons h];simp only [List.length_map,List.length_take,Nat.min_eq_left (Nat.le_of_lt h),Nat.sub_self,List.set_cons_zero];rw [<- List.take_append_getElem h,List.map_append];simp
theorem qj {name : ByteArray} {e : Entry} {l : List Sub} {i : Nat} (h : i < l.length) (hn : ¬ l[i].doc = name) : fc name e l i = fc name e l (i + 1):=by
 rw [<- nV h];have : cS name e l[i] = l[i]:=by unfold cS;rw [if_neg hn]
 rw [this];refine List.ext_getElem (by simp) (λj h1 h2=>?_);rw [List.getElem_set]
 split
 ·rename_i ej;subst ej;exact pA h
 ·rfl
theorem ig (h : Hub) (hl : cf h<=2 ^ 28) (name : ByteArray) (hs : name.size<=2 ^ 28) (t : List Int) (ht : t.length<=2 ^ 28) : aj Tryz.prog 203 [.agg h.row,.c (.v (.string name)),.c (.s (t.map ak))]
 (.tup [.agg (ba h name t).1.res,.c (vi (ba h name t).2) 1]):=by
 refine pci ae Tryz.func203 (λw0 base=>?_);have hld:=aA (eY hl).1;have hdn:=vN name t hs ht;unfold eZ at hdn;simp [Hub.row];intro b3 b6;by_cases c0 : aL (dv name t)
 rotate_left
 ·rw [if_neg c0] at hdn
  refine aa.pure hdn (by simp) ?_;simp [Doc.res,Doc.zero];intros;refine aa.pure (cX h (by omega)) (by simp [Hub.row]) ?_;by_cases c1 : an h
  ·simp [c1,gm (λh=>c0 h.2),Hub.res,Hub.zero]
  ·simp [ab c1,gm (λh=>c0 h.2),Hub.res,Hub.zero]
 rw [if_pos c0] at hdn;refine aa.pure hdn (by simp) ?_;simp [Doc.res,dv];intro H1 H2 H3 b8;refine aa.pure (cX h (by omega)) (by simp [Hub.row]) ?_;by_cases c1 : an h
 rotate_left
 ·simp [ab c1,gm (λh=>c1 h.1),Hub.res,Hub.zero]
 simp [c1]
 cases c2 : h.shut with
 | true=>simp [nN ⟨c1,c0⟩ c2,Hub.res,Hub.zero]
 | false=>
 have c2' : ¬ h.shut = true:=by rw [c2];simp
 simp;refine aa.pure (cu h (by omega) name) (by simp [Hub.row,c2]) ?_;simp;by_cases c3 : 0<=ar h.docs name
 ·simp [c3,nO ⟨c1,c0⟩ c2' c3,Hub.res,Hub.zero]
 simp [c3];by_cases c4 : h.docs.length = 5
 ·have c4' : (h.docs.length : Int) = 5:=by omega
  simp [c4',nP ⟨c1,c0⟩ c2' c3 c4,Hub.res,Hub.zero]
 have c4' : ¬ (h.docs.length : Int) = 5:=by omega
 have hat:=o9 ⟨c1,c0⟩ c2' c3 c4;rw [m7] at hat;have hal:=mw (dv name t).name h.docs;have hon:=λ{k : Nat} h1 h2=>mz (name:=(dv name t).name) (l:=h.docs) (k:=k) h1 h2
 rw [show (dv name t).name = name from rfl] at hat hal hon;generalize dq name h.docs = a at hat hal hon;simp [c4'];refine aa.pure (bS h (by omega)) (by simp [Hub.row,c2]) ?_;simp [Hub.res,c2];intro K1 K2 b10
 refine ag eok (λk : Nat=>k<=a) (λk=>⟨81,0,[(11,.v (.int .i64 k)),(1,.v (.string name)),(6,.p 96 b6 0),(8,.p 128 b8 0),(10,.p 160 b10 0)],
  [(160,.vars b10 35 [.v (.bool false),.sl 721 K1 5 0 h.docs.length,.sl 722 K2 6 0 h.subs.length,.v (.int .i64 h.last)]),(96,.vars b6 35 [.v (.bool false),.nil,.nil,.v (.int .i64 0)]),
   (128,.vars b8 89 [.v (.string name),.v (.int .i64 0),.sl 258 H1 1 0 t.length,.sl 259 H2 3 0 0,.sl 260 H3 3 0 0]),
   (258,.rows H1 1 (t.map ak) true),(259,.rows H2 3 [] true),(260,.rows H3 3 [] true),
   (721,.rows K1 5 (h.docs.map Doc.row) true),(722,.rows K2 6 (h.subs.map Sub.row) true)]⟩) (λk=>h.docs.length - k) 0 (by simp) (by simp) (λk hk=>Ent.refl ?_)
 by_cases hlt : k < h.docs.length
 ·obtain ⟨x,hx⟩ : ∃ x,h.docs[k] = x:=⟨_,rfl⟩
  have hiff:=hon hk hlt;rw [hx] at hiff;simp [hlt,hx,Doc.row];by_cases s : sLt x.name name
  ·simp [s]
   exact Ent.refl ⟨k + 1,by have:=hiff.1 s;omega,by omega,by simp;exact ah (by omega)⟩
  have hka : k = a:=by
   have : ¬ k < a:=λh=>s (hiff.2 h)
   omega
  subst hka;have hm : min k h.docs.length = k:=by omega
  simp [ab s,DB,DC,hat,c2,hm,dv];refine ⟨by omega,by omega,by omega,by omega,by omega,by omega,by omega,?_,?_⟩
  ·rintro row (h | rfl | h)
   ·exact CQ (List.mem_of_mem_take h)
   ·rfl
   ·exact CQ (List.mem_of_mem_drop h)
  ·rw [pe (by simp [hm];omega)]
   rfl
 have hka : k = h.docs.length:=by omega
 have hka2 : a = h.docs.length:=by omega
 subst hka2;have hm : min k h.docs.length = k:=by omega
 subst hka;have hz : cut (h.docs.map Doc.row) h.docs.length 0 = []:=by rw [cJ];simp
 simp [hat,c2,dv,hz];refine ⟨by omega,by omega,?_,?_⟩
 ·rintro row (⟨a,-,rfl⟩ | rfl)<;>rfl
 ·rfl
theorem dK (h : Hub) (hl : cf h<=2 ^ 28) (name : ByteArray) (client seq base : Int) (o : List Part) (ho : nL aF o<=2 ^ 40) :
 aj Tryz.prog 264 [.agg h.row,.c (.v (.string name)),.c (vi client),.c (vi seq),.c (vi base),.c (.s (o.map Part.row))]
 (.tup [.agg (aG h name client seq base o).1.res,.c (vi (aG h name client seq base o).2.1) 1,.c (vi (aG h name client seq base o).2.2) 1]):=by
 refine pci ae Tryz.func264 (λw0 bs=>?_);have hls:=aA (eY hl).2;simp [Hub.row];intro b6 b12;refine aa.pure (cu h (by omega) name) (by simp [Hub.row]) ?_;simp;refine aa.pure (cX h (by omega)) (by simp [Hub.row]) ?_;by_cases c1 : an h
 rotate_left
 ·simp [ab c1,kr c1,Hub.res,Hub.zero]
 simp [c1]
 cases c2 : h.shut with
 | true=>simp [iH c1 c2,Hub.res,Hub.zero]
 | false=>
 have c2' : ¬ h.shut = true:=by rw [c2];simp
 simp;rcases bD h.docs name with ⟨k,hk,e,-⟩ | e;rotate_left
 ·simp [e,iI c1 c2' e,Hub.res,Hub.zero]
 have hk0 : ¬ (k : Int) < 0:=by omega
 have hat:=kt (client:=client) (seq:=seq) (base:=base) (o:=o) c1 c2' hk e;have hdn:=dy (f:=cq) (eY hl).1 hk;have hdo:=ch c1 hk;have hDn:=pY (client:=client) (seq:=seq) (base:=base) (o:=o) hdo;have hok:=sR (client:=client) (seq:=seq) (base:=base) (o:=o) hdo;obtain ⟨d,hd⟩ : ∃ d,h.docs[k] = d:=⟨_,rfl⟩;rw [hd] at hat hdn hDn hok;have hc:=vG d hdn client seq base o ho;generalize bI d client seq base o = S at hc hat hDn hok;obtain ⟨D,rev,code⟩:=S;simp only at hc hat hDn hok;simp [e,hk0,hk,hd,Doc.row];refine aa.pure hc (by simp [Doc.row]) ?_;simp [Doc.res];intro H1 H2 H3 b16;by_cases c3 : code = 0
 rotate_left
 ·rw [if_neg c3] at hat
  simp [c3,hat,Hub.res,Hub.zero]
 rw [if_pos c3] at hat;have hok:=hok c3;simp [c3];refine aa.pure (bS h (by omega)) (by simp [Hub.row,c2]) ?_;simp [Hub.res,c2,hk];intro K1 K2 b19;refine drw eok mix [0,2,3,4,5,6] [1,7,8] (.c 6 1 32 31 (.c 6 7 1 30 (.c 6 8 0 30 (.l 6 30) .s) .s) .s) ?_;simp [hk,hd,Doc.row]
 try intros
 refine aa.pure (aN D) (by simp [Doc.row,Doc.row]) ?_;simp
 try intros
 refine aa.pure (aN d) (by simp [Doc.row,Doc.row]) ?_;simp
 try intros
 by_cases c5 : ac D = ac d
 ·have hcm : ci h name k d D = ⟨h.shut,h.docs.set k D,h.subs,h.last⟩:=by unfold ci;rw [if_neg (by omega)]
  rw [hcm] at hat;simp [c5,hat,c2];exact ⟨mP,rfl⟩
 rcases hok with rfl | ⟨e,he1,he2⟩
 ·exact absurd rfl c5
 have hcm : ci h name k d D = ⟨h.shut,h.docs.set k D,h.subs.map (cS name e),h.last⟩:=by unfold ci;rw [if_pos (by omega),he2]
 rw [hcm] at hat;have hmem : e∈D.list:=List.mem_of_getLast? he2;have hpos : 0 < D.list.length:=List.length_pos_of_mem hmem;obtain ⟨m,hm⟩ : ∃ m,D.list.length = m + 1:=⟨D.list.length - 1,by omega⟩;have hml : m < D.list.length:=by omega
 have hme : D.list[m] = e:=by
  rw [List.getLast?_eq_getElem?,hm,Nat.add_sub_cancel,List.getElem?_eq_getElem hml] at he2;exact Option.some.inj he2
 have hDl : nL aR D.list<=2 ^ 24:=by unfold cq at hDn;omega
 have hen:=dk (f:=aR) hDl hmem;have hlen24:=aA hDl;have ew : Go.IntKind.i64.wrap ((D.list.length : Int) - 1) = (m : Int):=by rw [Go.IntWalk.i64_in _ (by omega)];omega
 have em : Go.IntKind.i64.wrap (m : Int) = m:=eg (by omega);simp [c5,hm,em,hme,Entry.row];refine ⟨by omega,λb20=>?_⟩
 refine ag eok (λi : Nat=>i<=h.subs.length) (λi=>⟨107,0,[(86,.v (.int .i64 i)),(85,.v (.int .i64 h.subs.length)),(84,.sl 930 K2 6 0 h.subs.length),(19,.p 304 b19 0),(20,.p 320 b20 0),(17,.v (.int .i64 rev)),(1,.v (.string name)),(12,.p 192 b12 0)],
  [(304,.vars b19 35 [.v (.bool false),.sl 929 K1 5 0 h.docs.length,.sl 930 K2 6 0 h.subs.length,.v (.int .i64 h.last)]),(192,.vars b12 35 [.v (.bool false),.nil,.nil,.v (.int .i64 0)]),
   (320,.vars b20 151 [.v (.int .i64 e.client),.v (.int .i64 e.seq),.ro (e.o.map Part.row)]),
   (929,.rows K1 5 ((h.docs.set k D).map Doc.row) true),(930,.rows K2 6 ((fc name e h.subs i).map Sub.row) true)]⟩) (λi=>h.subs.length - i) 0 (by simp) (by simp [qi];rfl) (λi hi=>Ent.refl ?_)
 have htl:=nW name e h.subs i;by_cases hlt : i < h.subs.length
 ·have hti:=pA (name:=name) (e:=e) hlt
  have hlt' : i < (fc name e h.subs i).length:=by omega
  have hsk:=qj (name:=name) (e:=e) hlt;have hsu:=nV (name:=name) (e:=e) hlt;have hmd:=mV hlt' (bT h.subs[i].r e);have hmn:=dy (f:=d7) (eY hl).2 hlt;unfold d7 at hmn;rw [hti] at hmd;obtain ⟨s,hs⟩ : ∃ s,h.subs[i] = s:=⟨_,rfl⟩;rw [hs] at hti hsk hsu hmd hmn;simp [hlt,htl,hti,Sub.row];intro b22;by_cases c6 : s.doc = name
  rotate_left
  ·simp [c6]
   refine Ent.refl ⟨i + 1,by omega,by omega,?_⟩;rw [<- hsk c6];simp;exact ah (by omega)
  have htell : cS name e s = ⟨s.id,s.doc,bT s.r e⟩:=by unfold cS;rw [if_pos c6]
  rw [htell] at hsu;rw [hsu] at hmd;have hpc:=rS s.r (by omega) e (by omega);generalize bT s.r e = R at hpc hmd;simp [c6];refine drw eok mix [0,1,2,3,4,5,7,8] [6,9] (.c 8 6 12 243 (.c 8 9 241 2 (.l 8 2) .s) .s) ?_;simp [hlt]
  try intros
  refine aa.pure (hpc) (by simp [Ring.row,Entry.row]) ?_;simp [Ring.res,hlt,htl]
  try intros
  refine Ent.refl ⟨i + 1,by omega,by omega,?_⟩;rw [<- hmd];simp;exact ah (by omega)
 have hie : i = h.subs.length:=by omega
 subst hie;rw [rI];simp [hat,c2];exact mP
theorem aO (k : Int) : aj Tryz.prog 78 [.c (vi k)] (.one (.c (vb (aK k)) 1)):=by
 refine pci ae Tryz.func78 (λw0 base=>?_);simp;refine aa.pure (aP k 1 5) (by simp) ?_;simp [aK]
theorem lY (k : Int) : aj Tryz.prog 69 [.c (vi k)] (.one (.c (vb (aK k)) 1)):=by
 refine pci ae Tryz.func69 (λw0 base=>?_);simp;refine aa.pure (aZ k 1 5) (by simp) ?_;simp [aK]
theorem zy (k : Int) : aj Tryz.prog 207 [.c (vi k)] (.one (.c (vb (1<=k/\k<=8)) 1)):=by
 refine pci ae Tryz.func207 (λw0 base=>?_);simp;refine aa.pure (aZ k 1 8) (by simp) ?_;simp
theorem aE (a b : Call) (ha : dz a<=2 ^ 40) : aj Tryz.prog 215 [.agg a.row,.agg b.row] (.one (.c (vb (a = b)) 1)):=by
 refine pci ae Tryz.func215 (λw0 base=>?_);obtain ⟨a0,a1,a2,a3,a4,a5,a6⟩:=a;obtain ⟨c0,c1,c2,c3,c4,c5,c6⟩:=b;unfold dz at ha;simp only at ha;simp [Call.row];intro b1 b2;by_cases h0 : a0 = c0
 rotate_left
 ·simp [h0]
 subst h0;by_cases h1 : a1 = c1
 rotate_left
 ·simp [h1]
 subst h1;by_cases h2 : a2 = c2
 rotate_left
 ·simp [h2]
 subst h2;by_cases h3 : a3 = c3
 rotate_left
 ·simp [h3]
 subst h3;by_cases h4 : a4 = c4
 rotate_left
 ·simp [h4]
 subst h4;simp;refine aa.pure (lq a5 c5 (by omega)) (by simp) ?_;by_cases h5 : a5 = c5
 rotate_left
 ·simp [h5]
 subst h5;simp;refine aa.pure (mN a6 c6 (by omega)) (by simp) ?_;by_cases h6 : a6 = c6
 ·simp [h6]
 ·simp [h6]
theorem iX (c : Call) (hl : dz c<=2 ^ 36) : aj Tryz.prog 114 [.agg c.row] (.one (.c (vb (bm c)) 1)):=by
 refine pci ae Tryz.func114 (λw0 base=>?_);have hu:=@yW c;have hx : ∀ p : Prop,(bm c->p)->¬ p->dc (bm c) = false:=λp h1 h2=>ab (λh=>h2 (h1 h))
 have hl0:=hl;unfold dz at hl;simp [Call.row];intro b1;refine drw eok mix [0,1] [2,3,4,5,6,7,8,9,10,11,12,13,14,15,16,17,18,19,20,21,22,23,24,25] (.c 2 2 1 2 (.c 2 3 0 2 (.c 2 4 0 2 (.c 2 5 0 2 (.c 2 6 0 2 (.c 2 7 0 2 (.c 2 8 0 2 (.c 2 9 0 2 (.c 2 10 0 2 (.c 2 11 0 2 (.c 2 12 0 2 (.c 2 13 0 2 (.c 2 14 0 2 (.c 2 15 0 2 (.c 2 16 0 2 (.c 2 17 0 2 (.c 2 18 0 2 (.c 2 19 0 2 (.c 2 20 0 2 (.c 2 21 0 2 (.c 2 22 0 2 (.c 2 23 0 2 (.c 2 24 0 2 (.c 2 25 2 0 (.l 2 0) .s) .s) .s) .s) .s) (.c 2 21 0 2 (.c 2 20 0 2 (.c 2 22 0 2 (.c 2 23 0 2 (.c 2 24 0 2 (.c 2 25 2 0 (.l 2 0) .s) .s) .s) .s) (.c 2 22 0 2 (.c 2 20 0 2 (.c 2 23 0 2 (.c 2 24 0 2 (.c 2 25 2 0 (.l 2 0) .s) .s) .s) .s) .s)) .s)) .s) .s) .s) .s) .s) .s) .s) .s) .s) .s) .s) .s) .s) .s) .s) .s) .s) .s) ?_;simp;refine aa.pure (aP c.kind 1 8) (by simp) ?_;by_cases s1 : 1<=c.kind/\c.kind<=8
 rotate_left
 ·simp [ab s1]
  rw [Trc];refine ⟨?_,?_⟩
  ·simp [hx _ (λh=>h.1) s1]
  ·simp
   rw [Trc];refine ⟨?_,?_⟩
   ·simp [hx _ (λh=>h.1) s1]
   ·simp [hx _ (λh=>h.1) s1]
 simp [s1];by_cases s2 : c.doc.size<=8
 rotate_left
 ·have s2' : ¬ (c.doc.size : Int)<=8:=by omega
  simp [s2'];rw [Trc];refine ⟨?_,?_⟩
  ·simp [hx _ (λh=>h.2.1) s2]
  ·simp
   rw [Trc];refine ⟨?_,?_⟩
   ·simp [hx _ (λh=>h.2.1) s2]
   ·simp [hx _ (λh=>h.2.1) s2]
 have s2' : (c.doc.size : Int)<=8:=by omega
 simp [s2'];refine aa.pure (ka c.o (by omega)) (by simp) ?_;by_cases s3 : cT c.o
 rotate_left
 ·simp [ab s3]
  rw [Trc];refine ⟨?_,?_⟩
  ·simp [hx _ (λh=>h.2.2.1) s3]
  ·simp
   rw [Trc];refine ⟨?_,?_⟩
   ·simp [hx _ (λh=>h.2.2.1) s3]
   ·simp [hx _ (λh=>h.2.2.1) s3]
 simp [s3];refine aa.pure (gF c.text (by omega)) (by simp) ?_;by_cases s4 : cC c.text
 rotate_left
 ·simp [ab s4]
  rw [Trc];refine ⟨?_,?_⟩
  ·simp [hx _ (λh=>h.2.2.2.1) s4]
  ·simp
   rw [Trc];refine ⟨?_,?_⟩
   ·simp [hx _ (λh=>h.2.2.2.1) s4]
   ·simp [hx _ (λh=>h.2.2.2.1) s4]
 have fin : ∀ u,aB c = u->vb (c = u) = vb (bm c):=λu h=>by
  subst h;unfold vb
  congr 3
  apply propext
  exact ⟨λh=>hu.2 ⟨s1,s2,s3,s4,h⟩,λh=>(hu.1 h).2.2.2.2⟩
 simp [s4];rw [Trc];refine ⟨?_,?_⟩
 ·simp
  refine inl ae Tryz.func216 20000 (λw1 F=>?_);simp;intro g1 g2 g3;by_cases k1 : c.kind = 1
  ·have h : aK 1:=by unfold aK;omega
   have hu : aB c = ⟨1,c.doc,0,0,0,[],c.text⟩:=by simp [aB,k1,h]
   simp [k1];refine aa.pure (aO 1) (by simp) ?_;simp [h];refine aa.pure (aE c ⟨1,c.doc,0,0,0,[],c.text⟩ (by omega)) (by simp [Call.row,k1]) ?_;rw [fin _ hu];simp
  by_cases k2 : c.kind = 2
  ·have h : aK 2:=by unfold aK;omega
   have hu : aB c = ⟨2,c.doc,c.client,c.seq,c.n,c.o,[]⟩:=by simp [aB,k2,h]
   simp [k2];refine aa.pure (aO 2) (by simp) ?_;simp [h];refine drw eok mix [0,1,2,3,4,5,6,7,8,10,12,14] [9,11,13,15] (.c 12 9 3080 1015 (.c 12 11 772 243 (.c 12 13 194 49 (.c 12 15 49 0 (.l 12 0) .s) .s) .s) .s) ?_;simp
   try intros
   refine aa.pure (aE c ⟨2,c.doc,c.client,c.seq,c.n,c.o,[]⟩ (by omega)) (by simp [Call.row,k2]) ?_;rw [fin _ hu];simp
  by_cases k3 : c.kind = 3
  ·have h : aK 3:=by unfold aK;omega
   have hu : aB c = ⟨3,c.doc,0,0,c.n,[],[]⟩:=by simp [aB,k3,h]
   simp [k3];refine aa.pure (aO 3) (by simp) ?_;simp [h];refine aa.pure (aE c ⟨3,c.doc,0,0,c.n,[],[]⟩ (by omega)) (by simp [Call.row,k3]) ?_;rw [fin _ hu];simp
  by_cases k4 : c.kind = 4
  ·have h : aK 4:=by unfold aK;omega
   have hu : aB c = ⟨4,c.doc,0,0,0,[],[]⟩:=by simp [aB,k4,h]
   simp [k4];refine aa.pure (aO 4) (by simp) ?_;simp [h];refine aa.pure (aE c ⟨4,c.doc,0,0,0,[],[]⟩ (by omega)) (by simp [Call.row,k4]) ?_;rw [fin _ hu];simp
  by_cases k5 : c.kind = 5
  ·have h : aK 5:=by unfold aK;omega
   have hu : aB c = ⟨5,c.doc,0,0,c.n,[],[]⟩:=by simp [aB,k5,h]
   simp [k5];refine aa.pure (aO 5) (by simp) ?_;simp [h];refine aa.pure (aE c ⟨5,c.doc,0,0,c.n,[],[]⟩ (by omega)) (by simp [Call.row,k5]) ?_;rw [fin _ hu];simp
  by_cases k6 : c.kind = 6
  ·have h : ¬ aK 6:=by unfold aK;omega
   have hu : aB c = ⟨6,⟨#[]⟩,c.client,0,c.n,[],[]⟩:=by simp [aB,k6,h]
   simp [k6];refine aa.pure (aO 6) (by simp) ?_;simp [ab h];refine drw eok mix [0,1,2,3,4,6] [5,7] (.c 6 5 50 13 (.c 6 7 13 0 (.l 6 0) .s) .s) ?_;simp
   try intros
   refine aa.pure (aE c ⟨6,⟨#[]⟩,c.client,0,c.n,[],[]⟩ (by omega)) (by simp [Call.row,k6]) ?_;rw [fin _ hu];simp
  by_cases k7 : c.kind = 7
  ·have h : ¬ aK 7:=by unfold aK;omega
   have hu : aB c = ⟨7,⟨#[]⟩,c.client,0,0,[],[]⟩:=by simp [aB,k7,h]
   simp [k7];refine aa.pure (aO 7) (by simp) ?_;simp [ab h];refine aa.pure (aE c ⟨7,⟨#[]⟩,c.client,0,0,[],[]⟩ (by omega)) (by simp [Call.row,k7]) ?_;rw [fin _ hu];simp
  have k8 : c.kind = 8:=by omega
  have h : ¬ aK 8:=by unfold aK;omega
  have hu : aB c = ⟨8,⟨#[]⟩,0,0,0,[],[]⟩:=by simp [aB,k8,h]
  simp [k8];refine aa.pure (aO 8) (by simp) ?_;simp [ab h];refine aa.pure (aE c ⟨8,⟨#[]⟩,0,0,0,[],[]⟩ (by omega)) (by simp [Call.row,k8]) ?_;rw [fin _ hu];simp
 ·simp
  rw [Trc];refine ⟨?_,?_⟩
  ·simp
   refine inl ae Tryz.func216 20000 (λw1 F=>?_);simp;intro g1 g2 g3;by_cases k1 : c.kind = 1
   ·have h : aK 1:=by unfold aK;omega
    have hu : aB c = ⟨1,c.doc,0,0,0,[],c.text⟩:=by simp [aB,k1,h]
    simp [k1];refine aa.pure (aO 1) (by simp) ?_;simp [h];refine aa.pure (aE c ⟨1,c.doc,0,0,0,[],c.text⟩ (by omega)) (by simp [Call.row,k1]) ?_;rw [fin _ hu];simp
   by_cases k2 : c.kind = 2
   ·have h : aK 2:=by unfold aK;omega
    have hu : aB c = ⟨2,c.doc,c.client,c.seq,c.n,c.o,[]⟩:=by simp [aB,k2,h]
    simp [k2];refine aa.pure (aO 2) (by simp) ?_;simp [h];refine drw eok mix [0,1,2,3,4,5,6,7,8,10,12,14] [9,11,13,15] (.c 12 9 3080 1015 (.c 12 11 772 243 (.c 12 13 194 49 (.c 12 15 49 0 (.l 12 0) .s) .s) .s) .s) ?_;simp
    try intros
    refine aa.pure (aE c ⟨2,c.doc,c.client,c.seq,c.n,c.o,[]⟩ (by omega)) (by simp [Call.row,k2]) ?_;rw [fin _ hu];simp
   by_cases k3 : c.kind = 3
   ·have h : aK 3:=by unfold aK;omega
    have hu : aB c = ⟨3,c.doc,0,0,c.n,[],[]⟩:=by simp [aB,k3,h]
    simp [k3];refine aa.pure (aO 3) (by simp) ?_;simp [h];refine aa.pure (aE c ⟨3,c.doc,0,0,c.n,[],[]⟩ (by omega)) (by simp [Call.row,k3]) ?_;rw [fin _ hu];simp
   by_cases k4 : c.kind = 4
   ·have h : aK 4:=by unfold aK;omega
    have hu : aB c = ⟨4,c.doc,0,0,0,[],[]⟩:=by simp [aB,k4,h]
    simp [k4];refine aa.pure (aO 4) (by simp) ?_;simp [h];refine aa.pure (aE c ⟨4,c.doc,0,0,0,[],[]⟩ (by omega)) (by simp [Call.row,k4]) ?_;rw [fin _ hu];simp
   by_cases k5 : c.kind = 5
   ·have h : aK 5:=by unfold aK;omega
    have hu : aB c = ⟨5,c.doc,0,0,c.n,[],[]⟩:=by simp [aB,k5,h]
    simp [k5];refine aa.pure (aO 5) (by simp) ?_;simp [h];refine aa.pure (aE c ⟨5,c.doc,0,0,c.n,[],[]⟩ (by omega)) (by simp [Call.row,k5]) ?_;rw [fin _ hu];simp
   by_cases k6 : c.kind = 6
   ·have h : ¬ aK 6:=by unfold aK;omega
    have hu : aB c = ⟨6,⟨#[]⟩,c.client,0,c.n,[],[]⟩:=by simp [aB,k6,h]
    simp [k6];refine aa.pure (aO 6) (by simp) ?_;simp [ab h];refine drw eok mix [0,1,2,3,4,6] [5,7] (.c 6 5 50 13 (.c 6 7 13 0 (.l 6 0) .s) .s) ?_;simp
    try intros
    refine aa.pure (aE c ⟨6,⟨#[]⟩,c.client,0,c.n,[],[]⟩ (by omega)) (by simp [Call.row,k6]) ?_;rw [fin _ hu];simp
   by_cases k7 : c.kind = 7
   ·have h : ¬ aK 7:=by unfold aK;omega
    have hu : aB c = ⟨7,⟨#[]⟩,c.client,0,0,[],[]⟩:=by simp [aB,k7,h]
    simp [k7];refine aa.pure (aO 7) (by simp) ?_;simp [ab h];refine aa.pure (aE c ⟨7,⟨#[]⟩,c.client,0,0,[],[]⟩ (by omega)) (by simp [Call.row,k7]) ?_;rw [fin _ hu];simp
   have k8 : c.kind = 8:=by omega
   have h : ¬ aK 8:=by unfold aK;omega
   have hu : aB c = ⟨8,⟨#[]⟩,0,0,0,[],[]⟩:=by simp [aB,k8,h]
   simp [k8];refine aa.pure (aO 8) (by simp) ?_;simp [ab h];refine aa.pure (aE c ⟨8,⟨#[]⟩,0,0,0,[],[]⟩ (by omega)) (by simp [Call.row,k8]) ?_;rw [fin _ hu];simp
  ·simp
   refine inl ae Tryz.func216 20000 (λw1 F=>?_);simp;intro g1 g2 g3;by_cases k1 : c.kind = 1
   ·have h : aK 1:=by unfold aK;omega
    have hu : aB c = ⟨1,c.doc,0,0,0,[],c.text⟩:=by simp [aB,k1,h]
    simp [k1];refine aa.pure (aO 1) (by simp) ?_;simp [h];refine aa.pure (aE c ⟨1,c.doc,0,0,0,[],c.text⟩ (by omega)) (by simp [Call.row,k1]) ?_;rw [fin _ hu];simp
   by_cases k2 : c.kind = 2
   ·have h : aK 2:=by unfold aK;omega
    have hu : aB c = ⟨2,c.doc,c.client,c.seq,c.n,c.o,[]⟩:=by simp [aB,k2,h]
    simp [k2];refine aa.pure (aO 2) (by simp) ?_;simp [h];refine drw eok mix [0,1,2,3,4,5,6,7,8,10,12,14] [9,11,13,15] (.c 12 9 3080 1015 (.c 12 11 772 243 (.c 12 13 194 49 (.c 12 15 49 0 (.l 12 0) .s) .s) .s) .s) ?_;simp
    try intros
    refine aa.pure (aE c ⟨2,c.doc,c.client,c.seq,c.n,c.o,[]⟩ (by omega)) (by simp [Call.row,k2]) ?_;rw [fin _ hu];simp
   by_cases k3 : c.kind = 3
   ·have h : aK 3:=by unfold aK;omega
    have hu : aB c = ⟨3,c.doc,0,0,c.n,[],[]⟩:=by simp [aB,k3,h]
    simp [k3];refine aa.pure (aO 3) (by simp) ?_;simp [h];refine aa.pure (aE c ⟨3,c.doc,0,0,c.n,[],[]⟩ (by omega)) (by simp [Call.row,k3]) ?_;rw [fin _ hu];simp
   by_cases k4 : c.kind = 4
   ·have h : aK 4:=by unfold aK;omega
    have hu : aB c = ⟨4,c.doc,0,0,0,[],[]⟩:=by simp [aB,k4,h]
    simp [k4];refine aa.pure (aO 4) (by simp) ?_;simp [h];refine aa.pure (aE c ⟨4,c.doc,0,0,0,[],[]⟩ (by omega)) (by simp [Call.row,k4]) ?_;rw [fin _ hu];simp
   by_cases k5 : c.kind = 5
   ·have h : aK 5:=by unfold aK;omega
    have hu : aB c = ⟨5,c.doc,0,0,c.n,[],[]⟩:=by simp [aB,k5,h]
    simp [k5];refine aa.pure (aO 5) (by simp) ?_;simp [h];refine aa.pure (aE c ⟨5,c.doc,0,0,c.n,[],[]⟩ (by omega)) (by simp [Call.row,k5]) ?_;rw [fin _ hu];simp
   by_cases k6 : c.kind = 6
   ·have h : ¬ aK 6:=by unfold aK;omega
    have hu : aB c = ⟨6,⟨#[]⟩,c.client,0,c.n,[],[]⟩:=by simp [aB,k6,h]
    simp [k6];refine aa.pure (aO 6) (by simp) ?_;simp [ab h];refine drw eok mix [0,1,2,3,4,6] [5,7] (.c 6 5 50 13 (.c 6 7 13 0 (.l 6 0) .s) .s) ?_;simp
    try intros
    refine aa.pure (aE c ⟨6,⟨#[]⟩,c.client,0,c.n,[],[]⟩ (by omega)) (by simp [Call.row,k6]) ?_;rw [fin _ hu];simp
   by_cases k7 : c.kind = 7
   ·have h : ¬ aK 7:=by unfold aK;omega
    have hu : aB c = ⟨7,⟨#[]⟩,c.client,0,0,[],[]⟩:=by simp [aB,k7,h]
    simp [k7];refine aa.pure (aO 7) (by simp) ?_;simp [ab h];refine aa.pure (aE c ⟨7,⟨#[]⟩,c.client,0,0,[],[]⟩ (by omega)) (by simp [Call.row,k7]) ?_;rw [fin _ hu];simp
   have k8 : c.kind = 8:=by omega
   have h : ¬ aK 8:=by unfold aK;omega
   have hu : aB c = ⟨8,⟨#[]⟩,0,0,0,[],[]⟩:=by simp [aB,k8,h]
   simp [k8];refine aa.pure (aO 8) (by simp) ?_;simp [ab h];refine aa.pure (aE c ⟨8,⟨#[]⟩,0,0,0,[],[]⟩ (by omega)) (by simp [Call.row,k8]) ?_;rw [fin _ hu];simp
theorem iP (c : Call) (hl : dz c<=2 ^ 36) : aj Tryz.prog 110 [.agg c.row] (.one (.c (vb (bm c)) 1)):=by
 refine pci ae Tryz.func110 (λw0 base=>?_);have hx : ∀ p : Prop,(bm c->p)->¬ p->dc (bm c) = false:=λp h1 h2=>ab (λh=>h2 (h1 h))
 unfold dz at hl;simp [Call.row];intro b1;refine aa.pure (zy c.kind) (by simp) ?_;by_cases s1 : 1<=c.kind/\c.kind<=8
 rotate_left
 ·simp [ab s1,hx _ (λh=>h.1) s1]
 simp [s1];by_cases s2 : c.doc.size<=8
 rotate_left
 ·have s2' : 8 < (c.doc.size : Int):=by omega
  simp [s2',hx _ (λh=>h.2.1) s2]
 have s2' : ¬ 8 < (c.doc.size : Int):=by omega
 simp [s2'];refine aa.pure (j5 c.o (by omega)) (by simp) ?_;by_cases s3 : cT c.o
 rotate_left
 ·simp [ab s3,hx _ (λh=>h.2.2.1) s3]
 simp [s3];refine aa.pure (iN c.text (by omega)) (by simp) ?_;by_cases s4 : cC c.text
 rotate_left
 ·simp [ab s4,hx _ (λh=>h.2.2.2.1) s4]
 simp [s4];refine aa.pure (lY c.kind) (by simp) ?_
 clear hx
 obtain ⟨kind,doc,client,seq,n,o,text⟩:=c;simp only at s1 s2 s3 s4 s2' ⊢
 have ho : (0 < o.length) = ¬ o = []:=by
  apply propext
  cases o<;>simp
 have ht : (0 < text.length) = ¬ text = []:=by
  apply propext
  cases text<;>simp
 have hk : kind = 1\/kind = 2\/kind = 3\/kind = 4\/kind = 5\/kind = 6\/kind = 7\/kind = 8:=by omega
 unfold vb;rcases hk with rfl | rfl | rfl | rfl | rfl | rfl | rfl | rfl
 ·have hd : aK 1:=by unfold aK;omega
  have e : dc (bm ⟨1,doc,client,seq,n,o,text⟩) = dc (o = []/\seq = 0/\client = 0/\n = 0):=by
   congr 1;apply propext;unfold bm
   constructor
   ·rintro ⟨-,-,-,-,g1,g2,g3,g4,g5⟩;simp_all
   ·intro g;refine ⟨s1,s2,s3,s4,?_,?_,?_,?_,?_⟩<;>simp_all
  rw [e];simp [hd,ho];by_cases e0 : o = []<;>by_cases e1 : seq = 0<;>by_cases e2 : client = 0<;>by_cases e3 : n = 0<;>simp [e0,e1,e2,e3,ho]
 ·have hd : aK 2:=by unfold aK;omega
  have e : dc (bm ⟨2,doc,client,seq,n,o,text⟩) = dc (text = []):=by
   congr 1;apply propext;unfold bm
   constructor
   ·rintro ⟨-,-,-,-,g1,g2,g3,g4,g5⟩;simp_all
   ·intro g;refine ⟨s1,s2,s3,s4,?_,?_,?_,?_,?_⟩<;>simp_all
  rw [e];simp [hd,ht];by_cases e0 : text = []<;>simp [e0,ht]
 ·have hd : aK 3:=by unfold aK;omega
  have e : dc (bm ⟨3,doc,client,seq,n,o,text⟩) = dc (text = []/\o = []/\seq = 0/\client = 0):=by
   congr 1;apply propext;unfold bm
   constructor
   ·rintro ⟨-,-,-,-,g1,g2,g3,g4,g5⟩;simp_all
   ·intro g;refine ⟨s1,s2,s3,s4,?_,?_,?_,?_,?_⟩<;>simp_all
  rw [e];simp [hd,ht];by_cases e0 : text = []<;>by_cases e1 : o = []<;>by_cases e2 : seq = 0<;>by_cases e3 : client = 0<;>simp [e0,e1,e2,e3,ho,ht]
 ·have hd : aK 4:=by unfold aK;omega
  have e : dc (bm ⟨4,doc,client,seq,n,o,text⟩) = dc (text = []/\o = []/\seq = 0/\client = 0/\n = 0):=by
   congr 1;apply propext;unfold bm
   constructor
   ·rintro ⟨-,-,-,-,g1,g2,g3,g4,g5⟩;simp_all
   ·intro g;refine ⟨s1,s2,s3,s4,?_,?_,?_,?_,?_⟩<;>simp_all
  rw [e];simp [hd,ht];by_cases e0 : text = []<;>by_cases e1 : o = []<;>by_cases e2 : seq = 0<;>by_cases e3 : client = 0<;>by_cases e4 : n = 0<;>simp [e0,e1,e2,e3,e4,ho,ht]
 ·have hd : aK 5:=by unfold aK;omega
  have e : dc (bm ⟨5,doc,client,seq,n,o,text⟩) = dc (text = []/\o = []/\seq = 0/\client = 0):=by
   congr 1;apply propext;unfold bm
   constructor
   ·rintro ⟨-,-,-,-,g1,g2,g3,g4,g5⟩;simp_all
   ·intro g;refine ⟨s1,s2,s3,s4,?_,?_,?_,?_,?_⟩<;>simp_all
  rw [e];simp [hd,ht];by_cases e0 : text = []<;>by_cases e1 : o = []<;>by_cases e2 : seq = 0<;>by_cases e3 : client = 0<;>simp [e0,e1,e2,e3,ho,ht]
 ·have hd : ¬ aK 6:=by unfold aK;omega
  have e : dc (bm ⟨6,doc,client,seq,n,o,text⟩) = dc (doc = ⟨#[]⟩/\text = []/\o = []/\seq = 0):=by
   congr 1;apply propext;unfold bm
   constructor
   ·rintro ⟨-,-,-,-,g1,g2,g3,g4,g5⟩;simp_all
   ·intro g;refine ⟨s1,s2,s3,s4,?_,?_,?_,?_,?_⟩<;>simp_all
  rw [e];simp [ab hd];by_cases e0 : doc = ⟨#[]⟩<;>by_cases e1 : text = []<;>by_cases e2 : o = []<;>by_cases e3 : seq = 0<;>simp [e0,e1,e2,e3,ho,ht]
 ·have hd : ¬ aK 7:=by unfold aK;omega
  have e : dc (bm ⟨7,doc,client,seq,n,o,text⟩) = dc (doc = ⟨#[]⟩/\text = []/\o = []/\seq = 0/\n = 0):=by
   congr 1;apply propext;unfold bm
   constructor
   ·rintro ⟨-,-,-,-,g1,g2,g3,g4,g5⟩;simp_all
   ·intro g;refine ⟨s1,s2,s3,s4,?_,?_,?_,?_,?_⟩<;>simp_all
  rw [e];simp [ab hd];by_cases e0 : doc = ⟨#[]⟩<;>by_cases e1 : text = []<;>by_cases e2 : o = []<;>by_cases e3 : seq = 0<;>by_cases e4 : n = 0<;>simp [e0,e1,e2,e3,e4,ho,ht]
 ·have hd : ¬ aK 8:=by unfold aK;omega
  have e : dc (bm ⟨8,doc,client,seq,n,o,text⟩) = dc (doc = ⟨#[]⟩/\text = []/\o = []/\seq = 0/\client = 0/\n = 0):=by
   congr 1;apply propext;unfold bm
   constructor
   ·rintro ⟨-,-,-,-,g1,g2,g3,g4,g5⟩;simp_all
   ·intro g;refine ⟨s1,s2,s3,s4,?_,?_,?_,?_,?_⟩<;>simp_all
  rw [e];simp [ab hd];by_cases e0 : doc = ⟨#[]⟩<;>by_cases e1 : text = []<;>by_cases e2 : o = []<;>by_cases e3 : seq = 0<;>by_cases e4 : client = 0<;>by_cases e5 : n = 0<;>simp [e0,e1,e2,e3,e4,e5,ho,ht]
theorem kA {h : Hub} {c : Call} (n : ¬ (an h/\bm c)) : fDo h c = (h,bJ 1):=by unfold fDo;rw [if_neg n]
theorem JN {h : Hub} {c : Call} (y : an h/\bm c) (k : c.kind = 1) : fDo h c = if (ba h c.doc c.text).2 = 0 then ((ba h c.doc c.text).1,bJ 0) else (h,bJ (ba h c.doc c.text).2):=by unfold fDo;rw [if_pos y,if_pos k]
theorem B5 {h : Hub} {c : Call} (y : an h/\bm c) (k : c.kind = 2) : fDo h c = if (aG h c.doc c.client c.seq c.n c.o).2.2 = 0 then ((aG h c.doc c.client c.seq c.n c.o).1,⟨0,(aG h c.doc c.client c.seq c.n c.o).2.1,[],[]⟩) else (h,bJ (aG h c.doc c.client c.seq c.n c.o).2.2):=by
 unfold fDo;rw [if_pos y,if_neg (by omega),if_pos k]
theorem GE {h : Hub} {c : Call} (y : an h/\bm c) (k : c.kind = 3\/c.kind = 4) : fDo h c = (h,jQ h c):=by unfold fDo;rw [if_pos y,if_neg (by omega),if_neg (by omega),if_pos k]
theorem JM {h : Hub} {c : Call} (y : an h/\bm c) (k : c.kind = 5) : fDo h c = if (aw h c.doc c.n).2.2 = 0 then ((aw h c.doc c.n).1,⟨0,(aw h c.doc c.n).2.1,[],[]⟩) else (h,bJ (aw h c.doc c.n).2.2):=by
 unfold fDo;rw [if_pos y,if_neg (by omega),if_neg (by omega),if_neg (by omega),if_pos k]
theorem JL {h : Hub} {c : Call} (y : an h/\bm c) (k : c.kind = 6) : fDo h c = if (bC h c.client c.n).2.2 = 0 then ((bC h c.client c.n).1,⟨0,0,[],(bC h c.client c.n).2.1⟩) else (h,bJ (bC h c.client c.n).2.2):=by
 unfold fDo;rw [if_pos y,if_neg (by omega),if_neg (by omega),if_neg (by omega),if_neg (by omega),if_pos k]
theorem JK {h : Hub} {c : Call} (y : an h/\bm c) (k : c.kind = 7) : fDo h c = if (aM h c.client).2.2.2 = 0 then ((aM h c.client).1,⟨0,(aM h c.client).2.2.1,(aM h c.client).2.1,[]⟩) else (h,bJ (aM h c.client).2.2.2):=by
 unfold fDo;rw [if_pos y,if_neg (by omega),if_neg (by omega),if_neg (by omega),if_neg (by omega),if_neg (by omega),if_pos k]
theorem JJ {h : Hub} {c : Call} (y : an h/\bm c) (k : c.kind = 8) : fDo h c = if (bW h).2 = 0 then ((bW h).1,bJ 0) else (h,bJ (bW h).2):=by
 unfold fDo;rw [if_pos y,if_neg (by omega),if_neg (by omega),if_neg (by omega),if_neg (by omega),if_neg (by omega),if_neg (by omega)]
theorem Fg (h : Hub) (hl : cf h<=2 ^ 28) (c : Call) (hc : dz c<=2 ^ 28) : aj Tryz.prog 165 [.agg h.row,.agg c.row] (.tup [.agg (fDo h c).1.res,.agg (fDo h c).2.res]):=by
 refine pci ae Tryz.func165 (λw0 base=>?_);have hcn : c.doc.size<=2 ^ 28/\nL aF c.o<=2 ^ 28/\c.text.length<=2 ^ 28:=by unfold dz at hc;omega
 simp [Hub.row,Call.row];intro b2 b3 b4 b5;refine aa.pure (cX h (by omega)) (by simp [Hub.row]) ?_;by_cases c1 : an h
 rotate_left
 ·simp [ab c1]
  refine aa.pure (bS h (by omega)) (by simp [Hub.row]) ?_;simp [Hub.res,kA (λh=>c1 h.1),Answer.res,bJ]
 simp [c1];refine aa.pure (iP c (by omega)) (by simp [Call.row]) ?_;by_cases c2 : bm c
 rotate_left
 ·simp [ab c2]
  refine aa.pure (bS h (by omega)) (by simp [Hub.row]) ?_;simp [Hub.res,kA (λh=>c2 h.2),Answer.res,bJ]
 simp [c2];intro b6 b23 b24;have hk : c.kind = 1\/c.kind = 2\/(c.kind = 3\/c.kind = 4)\/c.kind = 5\/c.kind = 6\/c.kind = 7\/c.kind = 8:=by have:=c2.1;omega
 rcases hk with k | k | k | k | k | k | k
 ·-- kind 1
  have hat:=JN ⟨c1,c2⟩ k;have hd:=ig h (by omega) c.doc hcn.1 c.text hcn.2.2;generalize ba h c.doc c.text = R at hd hat;obtain ⟨X,code⟩:=R;simp only at hd hat;simp [k];refine aa.pure hd (by simp [Hub.row]) ?_;simp [Hub.res];intros;by_cases z : code = 0
  ·rw [if_pos z] at hat
   simp [z,hat,Answer.res,bJ]
  ·rw [if_neg z] at hat
   simp [z];refine aa.pure (bS h (by omega)) (by simp [Hub.row]) ?_;simp [Hub.res,hat,Answer.res,bJ]
 ·-- kind 2
  have hat:=B5 ⟨c1,c2⟩ k;have hd:=dK h (by omega) c.doc c.client c.seq c.n c.o (by omega);generalize aG h c.doc c.client c.seq c.n c.o = R at hd hat;obtain ⟨X,rev,code⟩:=R;simp only at hd hat;simp [k];refine aa.pure hd (by simp [Hub.row]) ?_;simp [Hub.res];intros;by_cases z : code = 0
  ·rw [if_pos z] at hat
   simp [z,hat,Answer.res]
  ·rw [if_neg z] at hat
   simp [z];refine aa.pure (bS h (by omega)) (by simp [Hub.row]) ?_;simp [Hub.res,hat,Answer.res,bJ]
 ·-- kinds 3, 4
  have hat:=GE ⟨c1,c2⟩ k;have hd:=zu h (by omega) c1 c;generalize jQ h c = A at hd hat;have k1 : ¬ c.kind = 1:=by omega
  have k2 : ¬ c.kind = 2:=by omega
  have fin : ∀ _ : c.kind = 3\/(¬ c.kind = 3/\c.kind = 4),True:=λ_=>trivial
  rcases k with k | k
  ·simp [k]
   refine drw eok mix [0,2,3] [1,4,5,6] (.c 3 1 4 3 (.c 3 4 3 0 (.c 3 5 0 0 (.c 3 6 0 0 (.l 3 0) .s) .s) .s) .s) ?_;simp
   try intros
   refine aa.pure (bS h (by omega)) (by simp [Hub.row]) ?_;simp [Hub.res]
   try intros
   refine aa.pure (hd) (by simp [Hub.row,Call.row,k]) ?_;simp [Answer.res]
   try intros
   rw [hat];simp
  ·simp [k]
   refine drw eok mix [0,2,3] [1,4,5,6] (.c 3 1 4 3 (.c 3 4 3 0 (.c 3 5 0 0 (.c 3 6 0 0 (.l 3 0) .s) .s) .s) .s) ?_;simp
   try intros
   refine aa.pure (bS h (by omega)) (by simp [Hub.row]) ?_;simp [Hub.res]
   try intros
   refine aa.pure (hd) (by simp [Hub.row,Call.row,k]) ?_;simp [Answer.res]
   try intros
   rw [hat];simp
 ·-- kind 5
  have hat:=JM ⟨c1,c2⟩ k;have hd:=jk h (by omega) c.doc c.n;generalize aw h c.doc c.n = R at hd hat;obtain ⟨X,rev,code⟩:=R;simp only at hd hat;simp [k];refine aa.pure hd (by simp [Hub.row]) ?_;simp [Hub.res];intros;by_cases z : code = 0
  ·rw [if_pos z] at hat
   simp [z,hat,Answer.res]
  ·rw [if_neg z] at hat
   simp [z];refine aa.pure (bS h (by omega)) (by simp [Hub.row]) ?_;simp [Hub.res,hat,Answer.res,bJ]
 ·-- kind 6
  have hat:=JL ⟨c1,c2⟩ k;have hd:=nB h (by omega) c.client c.n;generalize bC h c.client c.n = R at hd hat;obtain ⟨X,list,code⟩:=R;simp only at hd hat;simp [k];refine aa.pure hd (by simp [Hub.row]) ?_;simp [Hub.res];intros;by_cases z : code = 0
  ·rw [if_pos z] at hat
   simp [z,hat,Answer.res]
  ·rw [if_neg z] at hat
   simp [z];refine aa.pure (bS h (by omega)) (by simp [Hub.row]) ?_;simp [Hub.res,hat,Answer.res,bJ]
 ·-- kind 7
  have hat:=JK ⟨c1,c2⟩ k;have hd:=lI h (by omega) c.client;generalize aM h c.client = R at hd hat;obtain ⟨X,text,rev,code⟩:=R;simp only at hd hat;simp [k];refine aa.pure hd (by simp [Hub.row]) ?_;simp [Hub.res];intros;by_cases z : code = 0
  ·rw [if_pos z] at hat
   simp [z,hat,Answer.res]
  ·rw [if_neg z] at hat
   simp [z];refine aa.pure (bS h (by omega)) (by simp [Hub.row]) ?_;simp [Hub.res,hat,Answer.res,bJ]
 ·-- kind 8
  have hat:=JJ ⟨c1,c2⟩ k;have hd:=tU h (by omega);generalize bW h = R at hd hat;obtain ⟨X,code⟩:=R;simp only at hd hat;simp [k];refine aa.pure hd (by simp [Hub.row]) ?_;simp [Hub.res];intros;by_cases z : code = 0
  ·rw [if_pos z] at hat
   simp [z,hat,Answer.res,bJ]
  ·rw [if_neg z] at hat
   simp [z];refine aa.pure (bS h (by omega)) (by simp [Hub.row]) ?_;simp [Hub.res,hat,Answer.res,bJ]
end Go.Proofs.YtoldjebobgocpaaGreat
