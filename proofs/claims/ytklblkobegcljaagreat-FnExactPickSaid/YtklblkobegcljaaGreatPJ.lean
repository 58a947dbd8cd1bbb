import Derived.Test.YtklblkobegcljaaGreatPI
import Derived.Test.YtklblkobegcljaaGreatPF
import Derived.Test.YtklblkobegcljaaGreatPG
import Derived.Test.YtklblkobegcljaaGreatPE
import Derived.Test.YtklblkobegcljaaGreatNA
import Derived.Test.YtklblkobegcljaaGreatPD
import Derived.Test.YtklblkobegcljaaGreatMH
import Derived.Shelf.RegionOpenPlain
namespace Go.Proofs.YtklblkobegcljaaGreat
open Go.AM
set_option maxRecDepth 20000
set_option maxHeartbeats 6400000
def qi(n i:Nat):List Int:=List.replicate i (-1)++List.replicate (n-i) 0
theorem H8(n:Nat):List.replicate n [CD.v (.int .i64 0)]=(qi n 0).map aI:=by
 unfold qi;simp[aI]
theorem Ia(n:Nat):qi n n=List.replicate n (-1):=by unfold qi;simp
theorem Oo{n i:Nat}(h:i<=n):(qi n i).length=n:=by unfold qi;simp;omega
theorem On{n i:Nat}(h:i<n):(qi n i).set i (-1)=qi n (i+1):=by
 unfold qi;refine eO aM (λj h1 h2=>?_);simp only[iX,List.getElem_append,List.length_replicate,List.getElem_replicate]
 repeat' split
 all_goals omega
theorem TM{l:List Int}{i:Nat}{x:Int}:(l.map aI).set i [.v (.int .i64 x)]=(l.set i x).map aI:=by rw[wS]
theorem Ai{w:Wld}(h:¬∀t∈w.tasks,fC t):¬cS w:=λh'=>h h'.1
theorem lh(w:Wld)(hl:bL w<=2^30):ar Tryz.prog 31 [.agg w.row] (.one (.c (vb (cS w)) 1)):=by
 refine pci aw Tryz.func31 (λw0 base=>?_);have hSt:=AB w (by have:=aY (dn hl).2.2.2;omega);have hQu:=Eb w hl;obtain⟨nh,n2,n3,n4⟩:=dn hl;obtain⟨hh,lk,qs,tasks,step⟩:=w;have hle:=aY n4;simp only at hle n2 n4 nh hSt;simp[Wld.row];intro b1;refine ag.pure (dZ hh aa) bj ?_;by_cases c1:bC hh
 rotate_left
 ·exact Jf
 simp[c1];refine ag.pure (bT lk.length 1 4) ab ?_;by_cases c2:1<=lk.length/\lk.length<=4
 rotate_left
 ·exact Ln
 have c2':1<=(lk.length:Int)/\(lk.length:Int)<=4:=aa;simp[c2'];by_cases c3:tasks.length<=10
 rotate_left
 ·have h:¬cS ⟨hh,lk,qs,tasks,step⟩:=λh=>c3 h.2.2.2.1
  have c3':10<(tasks.length:Int):=aa;simp[c3',az h]
 have c3':¬10<(tasks.length:Int):=aa;simp[c3'];refine ag.pure (bT step 0 1000000) ab ?_;by_cases c4:0<=step/\step<=1000000
 rotate_left
 ·exact Kh
 simp[c4];refine⟨aa,λb=>?_⟩
 refine aH eok (λi:Nat=>i<=lk.length) (λi=>⟨88,0,[(37,.v (.int .i64 i)),(36,.v (.int .i64 lk.length)),(4,.sl 544 (some (b,0,lk.length)) 1 0 lk.length),(3,.v (.int .i64 lk.length)),(1,.p 16 b1 0)],
  [(16, .vars b1 39 [.v (.bool hh.shut), .ro (hh.docs.map Doc.row), .ro (hh.subs.map Sub.row), .v (.int .i64 hh.last), .ro (lk.map aI), .ro (qs.map Queue.row), .ro (tasks.map Task.row), .v (.int .i64 step)]),
   (544,.rows (some (b,0,lk.length)) 1 ((qi lk.length i).map aI) true)]⟩) (λi=>lk.length-i) 0 ab (by simp[H8]) (λi hi=>Ent.refl ?_)
 by_cases hlt:i<lk.length
 ·have hL:=Oo (n:=lk.length) (i:=i) aa
  have hli:i<(qi lk.length i).length:=aa;simp[hlt,hL,TM,On hlt];refine Ent.refl ⟨i+1,aa,aa,?_⟩;exact ng
 have hie:i=lk.length:=aa;subst hie;rw[Ia];simp[-List.map_replicate]
 refine aH eok (λx:Nat×List Int=>x.1<=tasks.length/\(∀t∈tasks.take x.1,fC t)/\qo tasks lk.length x.1 x.2) (λx=>⟨88,0,[(47,.v (.int .i64 x.1)),(46,.v (.int .i64 tasks.length)),(45,.ro (tasks.map Task.row)),(4,.sl 544 (some (b,0,lk.length)) 1 0 lk.length),(3,.v (.int .i64 lk.length)),(1,.p 16 b1 0)],
  [(16, .vars b1 39 [.v (.bool hh.shut), .ro (hh.docs.map Doc.row), .ro (hh.subs.map Sub.row), .v (.int .i64 hh.last), .ro (lk.map aI), .ro (qs.map Queue.row), .ro (tasks.map Task.row), .v (.int .i64 step)]),
   (544,.rows (some (b,0,lk.length)) 1 (x.2.map aI) true)]⟩) (λx=>tasks.length-x.1) (0,List.replicate lk.length (-1)) ⟨ab,ab,Oy _ _⟩ (by simp[-List.map_replicate]) (λx hi=>Ent.refl ?_)
 obtain⟨i,held⟩:=x;obtain⟨hi,htk,hh'⟩:=hi;simp only at hi htk hh'⊢;have hhl:=hh'.1;by_cases hlt:i<tasks.length
 ·obtain⟨t,ht⟩:∃t,tasks[i]=t:=⟨_,rfl⟩
  have hm:=cH n4 hlt;rw[ht]at hm;have hmem:t∈tasks:=by rw[<-ht];exact aj hlt
  simp[hlt,ht,Task.row];intro b7;refine ag.pure (D6 t aa) lY ?_;by_cases d1:fC t
  rotate_left
  ·exact KB
  have htk':=uR hlt htk (by rw[ht];exact d1);simp[d1];by_cases d2:t.pc=1
  rotate_left
  ·simp[d2]
   refine Ent.refl ⟨i+1,held,⟨aa,htk',Oz hh' hlt (by rw[ht];exact d2)⟩,aa,?_⟩;exact ng
  simp[d2];refine ag.pure (kB t.c.doc (by have:=vp hm;omega) lk.length c2.1 aa) ab ?_;obtain⟨s,hs⟩:∃s,bS t.c.doc lk.length=s:=⟨_,rfl⟩;have hsl:s<lk.length:=by rw[<-hs];exact(i6 t.c.doc c2.1).2
  have hsh:s<held.length:=aa;simp[hs,hsl,hsh];by_cases d3:held[s] = -1
  rotate_left
  ·have h:¬cS ⟨hh,lk,qs,tasks,step⟩:=λh=>by
    refine RD (locks:=lk) hh' hlt (by rw[ht];exact d2) (by rw[ht,hs];exact hsh) ?_ h.2.2.2.2.2.2.1.2;simp only[ht,hs];exact d3
   simp[d3,az h]
  simp[d3,hsl,hhl];refine Ent.refl ⟨i+1,held.set s i,⟨aa,htk',RE hh' hlt (by rw[ht];exact d2) (by rw[ht];exact hs) hsh d3⟩,aa,?_⟩;exact ng
 have hie:i=tasks.length:=aa;subst hie;rw[cI]at htk;have he:=RF c2.1 hh';simp;refine ag.pure (rI held lk aa) (by simp[hhl]) ?_;have hW:cS ⟨hh,lk,qs,tasks,step⟩↔ld ⟨hh,lk,qs,tasks,step⟩/\held=lk/\eV ⟨hh,lk,qs,tasks,step⟩:=⟨λh=>⟨h.2.2.2.2.2.1,he.2 h.2.2.2.2.2.2.1,h.2.2.2.2.2.2.2⟩,λh=>⟨htk,c1,c2,c3,c4,h.1,he.1 h.2.1,h.2.2⟩⟩;by_cases d1:held=lk
 rotate_left
 ·have h:¬cS ⟨hh,lk,qs,tasks,step⟩:=λh=>d1 (hW.1 h).2.1
  simp[d1,az h]
 simp[d1];refine ag.pure hSt ab ?_;by_cases d2:ld ⟨hh,lk,qs,tasks,step⟩
 rotate_left
 ·have h:¬cS ⟨hh,lk,qs,tasks,step⟩:=λh=>d2 (hW.1 h).1
  simp[az d2,az h]
 simp[d2];refine ag.pure hQu fc ?_;have e:vb (eV ⟨hh,lk,qs,tasks,step⟩)=vb (cS ⟨hh,lk,qs,tasks,step⟩):=sS ⟨λh=>hW.2 ⟨d2,d1,h⟩,λh=>(hW.1 h).2.2⟩;rw[e];simp
theorem Ak(w:Wld)(hl:bL w<=2^30):ar Tryz.prog 21 [.agg w.row] (.one (.c (vb (cS w)) 1)):=by
 refine pci aw Tryz.func21 (λw0 base=>?_);have hSt:=Fh w hl;have hLo:=Fj w hl;have hQu:=DC w hl;obtain⟨nh,n2,n3,n4⟩:=dn hl;obtain⟨hh,lk,qs,tasks,step⟩:=w;have hle:=aY n4;simp only at hle n2 n4 nh hLo;simp[Wld.row];intro b1
 refine aH eok (λi:Nat=>i<=tasks.length/\∀t∈tasks.take i,fC t) (λi=>⟨48,0,[(8,.v (.int .i64 i)),(7,.v (.int .i64 tasks.length)),(6,.ro (tasks.map Task.row)),(1,.p 16 b1 0)],
  [(16,.vars b1 39 [.v (.bool hh.shut),.ro (hh.docs.map Doc.row),.ro (hh.subs.map Sub.row),.v (.int .i64 hh.last),.ro (lk.map aI),.ro (qs.map Queue.row),.ro (tasks.map Task.row),.v (.int .i64 step)])]⟩) (λi=>tasks.length-i) 0 ab ab (λi hi=>Ent.refl ?_)
 obtain⟨hi,htk⟩:=hi;by_cases hlt:i<tasks.length
 ·obtain⟨t,ht⟩:∃t,tasks[i]=t:=⟨_,rfl⟩
  have hm:=cH n4 hlt;rw[ht]at hm;have hmem:t∈tasks:=by rw[<-ht];exact aj hlt
  simp[hlt,ht,Task.row];intro b7;refine ag.pure (Dx t aa) lY ?_;by_cases d1:fC t
  rotate_left
  ·exact KB
  simp[d1];exact Ent.refl ⟨i+1,⟨aa,uR hlt htk (by rw[ht];exact d1)⟩,aa,by simp;exact aQ aa⟩
 have hie:i=tasks.length:=aa;subst hie;rw[cI]at htk;simp;refine ag.pure (gi hh aa) bj ?_;by_cases c1:bC hh
 rotate_left
 ·exact Jf
 simp[c1];refine ag.pure (cG lk.length 1 4) ab ?_;by_cases c2:1<=lk.length/\lk.length<=4
 rotate_left
 ·exact Ln
 have c2':1<=(lk.length:Int)/\(lk.length:Int)<=4:=aa;simp[c2'];by_cases c3:tasks.length<=10
 rotate_left
 ·have h:¬cS ⟨hh,lk,qs,tasks,step⟩:=λh=>c3 h.2.2.2.1
  have c3':¬(tasks.length:Int)<=10:=aa;simp[c3',az h]
 have c3':(tasks.length:Int)<=10:=aa;simp[c3'];refine ag.pure (cG step 0 1000000) ab ?_;by_cases c4:0<=step/\step<=1000000
 rotate_left
 ·exact Kh
 simp[c4];refine ag.pure hSt fc ?_;by_cases d2:ld ⟨hh,lk,qs,tasks,step⟩
 rotate_left
 ·have h:¬cS ⟨hh,lk,qs,tasks,step⟩:=λh=>d2 h.2.2.2.2.2.1
  simp[az d2,az h]
 simp[d2];refine ag.pure (hLo c2.1) fc ?_;by_cases d3:rO ⟨hh,lk,qs,tasks,step⟩
 rotate_left
 ·have h:¬cS ⟨hh,lk,qs,tasks,step⟩:=λh=>d3 h.2.2.2.2.2.2.1
  simp[az d3,az h]
 simp[d3];refine ag.pure hQu fc ?_;have e:vb (eV ⟨hh,lk,qs,tasks,step⟩)=vb (cS ⟨hh,lk,qs,tasks,step⟩):=sS ⟨λh=>⟨htk,c1,c2,c3,c4,d2,d3,h⟩,λh=>h.2.2.2.2.2.2.2⟩;rw[e];simp
theorem IG(c:Call)(hl:dP c<=2^30):ar Tryz.prog 138 [.agg c.row] (.one (.agg c.res)):=by
 refine pci aw Tryz.func138 (λw0 base=>?_);unfold dP at hl;simp[Call.row];intro b1 b2;refine ag.pure (zC c.o aa) ab ?_;simp;intro H1;refine ag.pure (iV c.text aa) ab ?_;simp[Call.res]
theorem EG(a:Answer)(hl:cq a<=2^30):ar Tryz.prog 139 [.agg a.row] (.one (.agg a.res)):=by
 refine pci aw Tryz.func139 (λw0 base=>?_);unfold cq at hl;simp[Answer.row];intro b1 b2;refine ag.pure (iV a.text aa) ab ?_;simp;intro H1;refine ag.pure (jo a.list aa) ab ?_;simp[Answer.res]
theorem Oi(c:Call)(hl:dP c<=2^30):ar Tryz.prog 117 [.agg c.row] (.one (.agg c.res)):=by
 refine pci aw Tryz.func117 (λw0 base=>?_);unfold dP at hl;have h8:c.text.length*8<=140737488355328:=aa;simp[Call.row];intro b1 b2;refine ag.pure (vv c.o aa) ab ?_;simp[h8];intros;simp[Call.res]
theorem FP(a:Answer)(hl:cq a<=2^30):ar Tryz.prog 118 [.agg a.row] (.one (.agg a.res)):=by
 refine pci aw Tryz.func118 (λw0 base=>?_);unfold cq at hl;have h8:a.text.length*8<=140737488355328:=aa;simp[Answer.row];intro b1 b2;simp[h8];intros;refine ag.pure (gm a.list aa) ab ?_;simp[Answer.res]
theorem Og(t:Task)(hl:dj t<=2^30):ar Tryz.prog 65 [.agg t.row] (.one (.agg t.res)):=by
 refine pci aw Tryz.func65 (λw0 base=>?_);obtain⟨n1,n2⟩:=oY hl;simp[Task.row];intro b1 b2;refine ag.pure (Oi t.c n1) jq ?_;simp[Call.res];intro H1 H2;refine ag.pure (FP t.a n2) lZ ?_;simp[Answer.res];intros;simp[Task.res]
theorem Gt(l:List Task)(hl:nL dj l<=2^30):ar Tryz.prog 83 [.c (.s (l.map Task.row))] (.one (.c (.s (l.map Task.row)) 15)):=by
 refine pci aw Tryz.func83 (λw0 base=>?_);have hle:=aY hl;simp;refine aH eok (λx:Nat×Hd=>x.1<=l.length) (λx=>⟨26,0,[(8,.v (.int .i64 x.1)),(7,.v (.int .i64 l.length)),(6,.ro (l.map Task.row)),(3,.sl 5000 x.2 15 0 x.1)],[(5000,.rows x.2 15 ((l.take x.1).map Task.row) true)]⟩) (λx=>l.length-x.1) (0,none) ab ab (λx hx=>Ent.refl ?_);obtain⟨i,H⟩:=x;simp only at hx⊢;by_cases hlt:i<l.length
 ·obtain⟨n1,n2⟩:=oY (cH hl hlt)
  simp[hlt,Task.row];intro b5;refine ag.pure (IG l[i].c n1) jq ?_;simp[Call.res];intro H1 H2;refine ag.pure (EG l[i].a n2) lZ ?_;simp[Answer.res];intro H3 H4;have e1:min i l.length=i:=aa;simp[e1];intro b6;refine⟨aa,λH2=>Ent.refl ⟨i+1,aa,aa,H2,?_⟩⟩;simp;exact⟨aQ aa,i5 (f:=Task.row) hlt⟩
 ·exact C6
theorem qF(w:Wld)(hl:bL w<=2^30):ar Tryz.prog 33 [.agg w.row] (.one (.agg w.res)):=by
 refine pci aw Tryz.func33 (λw0 base=>?_);obtain⟨nh,n2,n3,n4⟩:=dn hl;obtain⟨hh,lk,qs,tasks,step⟩:=w;have hle:=aY n4;have hlq:=aY n3;simp only at hle hlq n2 n3 n4 nh;simp[Wld.row];intro b1 b2;refine dV (λx:Hd×Hd×Hd×Hd×Nat=>[(3,.p 48 x.2.2.2.2 0)]) (λx=>[(48,.vars x.2.2.2.2 39 [.v (.bool hh.shut),.sl 129 x.1 5 0 hh.docs.length,.sl 130 x.2.1 6 0 hh.subs.length,.v (.int .i64 hh.last),.sl 176 x.2.2.1 1 0 lk.length,.nil,.sl 224 x.2.2.2.1 15 0 tasks.length,.v (.int .i64 step)]),(129,.rows x.1 5 (hh.docs.map Doc.row) true),(130,.rows x.2.1 6 (hh.subs.map Sub.row) true),(176,.rows x.2.2.1 1 (lk.map aI) true),(224,.rows x.2.2.2.1 15 (tasks.map Task.row) true)]) [1,2] ?_ ?_
 ·refine drw eok mix [0,1,3,4,6,7,9,10] [2,5,8,11,12,13] (.c 8 2 64 191 (.c 8 5 16 175 (.c 8 8 4 171 (.c 8 11 1 170 (.c 8 12 0 170 (.c 8 13 170 0 (.l 8 0) .s) .s) (.c 8 12 0 171 (.c 8 11 1 170 (.c 8 13 170 0 (.l 8 0) .s) .s) .s)) (.c 8 12 0 175 (.c 8 8 4 171 (.c 8 11 1 170 (.c 8 13 170 0 (.l 8 0) .s) .s) .s) .s)) (.c 8 12 0 191 (.c 8 5 16 175 (.c 8 8 4 171 (.c 8 11 1 170 (.c 8 13 170 0 (.l 8 0) .s) .s) .s) .s) .s)) (.c 8 12 0 255 (.c 8 2 64 191 (.c 8 5 16 175 (.c 8 8 4 171 (.c 8 11 1 170 (.c 8 13 170 0 (.l 8 0) .s) .s) .s) .s) .s) .s)) ?_
  simp
  try intros
  repeat' first
   |(refine ag.pure (eE hh nh) bj ?_;simp[Hub.res];try intros)
   |(refine ag.pure (iV lk aa) ab ?_;simp;try intros)
   |(refine ag.pure (Gt tasks n4) ab ?_;simp;try intros)
   |(rw[Trc];refine⟨?_,?_⟩<;>(try simp)<;>try intros)
 rintro⟨H1,H2,H3,H4,b3⟩
 simp
 refine aH eok (λx:Nat×Hd=>x.1<=qs.length) (λx=>⟨38,0,[(21,.v (.int .i64 x.1)),(20,.v (.int .i64 qs.length)),(19,.ro (qs.map Queue.row)),(3,.p 48 b3 0),(2,.p 32 b2 0)],
  [(48, .vars b3 39 [.v (.bool hh.shut), .sl 129 H1 5 0 hh.docs.length, .sl 130 H2 6 0 hh.subs.length, .v (.int .i64 hh.last), .sl 176 H3 1 0 lk.length, .sl 5000 x.2 2 0 x.1, .sl 224 H4 15 0 tasks.length, .v (.int .i64 step)]),
   (32,.vars b2 39 [.v (.bool false),.nil,.nil,.v (.int .i64 0),.nil,.nil,.nil,.v (.int .i64 0)]),
   (129,.rows H1 5 (hh.docs.map Doc.row) true),(130,.rows H2 6 (hh.subs.map Sub.row) true),(176,.rows H3 1 (lk.map aI) true),(224,.rows H4 15 (tasks.map Task.row) true),(5000,.rows x.2 2 ((qs.take x.1).map Queue.row) true)]⟩) (λx=>qs.length-x.1) (0,none) ab ab (λx hi=>Ent.refl ?_)
 obtain⟨i,H⟩:=x;simp only at hi⊢;by_cases hlt:i<qs.length
 ·have hm:=cH n3 hlt
  unfold cR at hm;have e1:min i qs.length=i:=aa;simp[hlt,Queue.row];intro b5;refine drw eok mix [0,1,2,3,4,5,10] [6,7,8,9,11] (.c 7 6 2 125 (.c 7 7 8 117 (.c 7 8 0 117 (.c 7 9 32 85 (.c 7 11 85 0 (.l 7 0) .s) .s) .s) .s) .s) ?_;simp
  try intros
  refine ag.pure (iV qs[i].list aa) ab ?_;simp;exact Lk
 have hm:i=qs.length:=aa;subst hm;simp[Wld.res]
theorem Oh(w:Wld)(hl:bL w<=2^30):ar Tryz.prog 23 [.agg w.row] (.one (.agg w.res)):=by
 refine pci aw Tryz.func23 (λw0 base=>?_);obtain⟨nh,n2,n3,n4⟩:=dn hl;obtain⟨hh,lk,qs,tasks,step⟩:=w;have hle:=aY n4;have hlq:=aY n3;simp only at hle hlq n2 n3 n4 nh;have h8:lk.length*8<=140737488355328:=aa;simp[Wld.row];intro b1 b2;refine dV (λx:Hd×Hd×Hd×Nat=>[(3,.p 48 x.2.2.2 0)]) (λx=>[(48,.vars x.2.2.2 39 [.v (.bool hh.shut),.sl 161 x.1 5 0 hh.docs.length,.sl 162 x.2.1 6 0 hh.subs.length,.v (.int .i64 hh.last),.sl 176 x.2.2.1 1 0 lk.length,.nil,.nil,.v (.int .i64 step)]),(161,.rows x.1 5 (hh.docs.map Doc.row) true),(162,.rows x.2.1 6 (hh.subs.map Sub.row) true),(176,.rows x.2.2.1 1 (lk.map aI) true)]) [1,2] ?_ ?_
 ·refine drw eok mix [0,1,4,5,7,8] [2,3,6,9,10,11] (.c 6 2 16 47 (.c 6 3 0 47 (.c 6 6 4 43 (.c 6 9 1 42 (.c 6 10 0 42 (.c 6 11 42 0 (.l 6 0) .s) .s) (.c 6 10 0 43 (.c 6 9 1 42 (.c 6 11 42 0 (.l 6 0) .s) .s) .s)) (.c 6 10 0 47 (.c 6 6 4 43 (.c 6 9 1 42 (.c 6 11 42 0 (.l 6 0) .s) .s) .s) .s)) (.c 6 10 0 47 (.c 6 3 0 47 (.c 6 6 4 43 (.c 6 9 1 42 (.c 6 11 42 0 (.l 6 0) .s) .s) .s) .s) .s)) (.c 6 3 0 63 (.c 6 2 16 47 (.c 6 6 4 43 (.c 6 9 1 42 (.c 6 10 0 42 (.c 6 11 42 0 (.l 6 0) .s) .s) (.c 6 10 0 43 (.c 6 9 1 42 (.c 6 11 42 0 (.l 6 0) .s) .s) .s)) (.c 6 10 0 47 (.c 6 6 4 43 (.c 6 9 1 42 (.c 6 11 42 0 (.l 6 0) .s) .s) .s) .s)) (.c 6 10 0 63 (.c 6 2 16 47 (.c 6 6 4 43 (.c 6 9 1 42 (.c 6 11 42 0 (.l 6 0) .s) .s) .s) .s) .s)) (.c 6 10 0 63 (.c 6 2 16 47 (.c 6 3 0 47 (.c 6 6 4 43 (.c 6 9 1 42 (.c 6 11 42 0 (.l 6 0) .s) .s) .s) .s) (.c 6 3 0 63 (.c 6 2 16 47 (.c 6 6 4 43 (.c 6 9 1 42 (.c 6 11 42 0 (.l 6 0) .s) .s) .s) .s) .s)) .s))) ?_
  simp
  try intros
  repeat' first
   |(refine ag.pure (gb hh nh) bj ?_;simp[Hub.res,h8];try intros)
   |(rw[Trc];refine⟨?_,?_⟩<;>(try simp[h8])<;>try intros)
 rintro⟨H1,H2,H3,b3⟩
 simp
 refine aH eok (λx:Nat×Hd=>x.1<=qs.length) (λx=>⟨54,0,[(21,.v (.int .i64 x.1)),(20,.v (.int .i64 qs.length)),(19,.ro (qs.map Queue.row)),(1,.p 16 b1 0),(3,.p 48 b3 0),(2,.p 32 b2 0)],
  [(48, .vars b3 39 [.v (.bool hh.shut), .sl 161 H1 5 0 hh.docs.length, .sl 162 H2 6 0 hh.subs.length, .v (.int .i64 hh.last), .sl 176 H3 1 0 lk.length, .sl 5000 x.2 2 0 x.1, .nil, .v (.int .i64 step)]),
   (32,.vars b2 39 [.v (.bool false),.nil,.nil,.v (.int .i64 0),.nil,.nil,.nil,.v (.int .i64 0)]),
   (16,.vars b1 39 [.v (.bool hh.shut),.ro (hh.docs.map Doc.row),.ro (hh.subs.map Sub.row),.v (.int .i64 hh.last),.ro (lk.map aI),.ro (qs.map Queue.row),.ro (tasks.map Task.row),.v (.int .i64 step)]),
   (161,.rows H1 5 (hh.docs.map Doc.row) true),(162,.rows H2 6 (hh.subs.map Sub.row) true),(176,.rows H3 1 (lk.map aI) true),(5000,.rows x.2 2 ((qs.take x.1).map Queue.row) true)]⟩) (λx=>qs.length-x.1) (0,none) ab ab (λx hi=>Ent.refl ?_)
 obtain⟨i,H⟩:=x;simp only at hi⊢;by_cases hlt:i<qs.length
 ·have hm:=cH n3 hlt
  unfold cR at hm;have e1:min i qs.length=i:=aa;have q8:qs[i].list.length*8<=140737488355328:=aa;simp[hlt,Queue.row];intro b5;refine drw eok mix [0,1,2,3,5,6,11] [4,7,8,9,10,12] (.c 7 4 0 127 (.c 7 7 2 125 (.c 7 8 8 117 (.c 7 9 0 117 (.c 7 10 32 85 (.c 7 12 85 0 (.l 7 0) .s) .s) .s) .s) .s) .s) ?_;simp[q8];exact Lk
 have hm:i=qs.length:=aa;subst hm;simp
 refine aH eok (λx:Nat×Hd=>x.1<=tasks.length) (λx=>⟨54,0,[(41,.v (.int .i64 x.1)),(40,.v (.int .i64 tasks.length)),(39,.ro (tasks.map Task.row)),(3,.p 48 b3 0),(2,.p 32 b2 0)],
  [(48, .vars b3 39 [.v (.bool hh.shut), .sl 161 H1 5 0 hh.docs.length, .sl 162 H2 6 0 hh.subs.length, .v (.int .i64 hh.last), .sl 176 H3 1 0 lk.length, .sl 5000 H 2 0 qs.length, .sl 5001 x.2 15 0 x.1, .v (.int .i64 step)]),
   (32,.vars b2 39 [.v (.bool false),.nil,.nil,.v (.int .i64 0),.nil,.nil,.nil,.v (.int .i64 0)]),
   (161,.rows H1 5 (hh.docs.map Doc.row) true),(162,.rows H2 6 (hh.subs.map Sub.row) true),(176,.rows H3 1 (lk.map aI) true),(5000,.rows H 2 (qs.map Queue.row) true),(5001,.rows x.2 15 ((tasks.take x.1).map Task.row) true)]⟩) (λx=>tasks.length-x.1) (0,none) ab ab (λx hi=>Ent.refl ?_)
 obtain⟨i,H'⟩:=x;simp only at hi⊢;by_cases hlt:i<tasks.length
 ·have hm:=cH n4 hlt
  have e1:min i tasks.length=i:=aa;simp[hlt,Task.row];intro b7;refine drw eok mix [0,1,2,6] [3,4,5,7] (.c 4 3 2 13 (.c 4 4 0 13 (.c 4 5 4 9 (.c 4 7 9 0 (.l 4 0) .s) .s) .s) .s) ?_;simp
  try intros
  refine ag.pure (Og tasks[i] hm) lY ?_;simp[Task.res]
  try intros
  simp[e1];refine⟨aa,λH''=>Ent.refl ⟨i+1,aa,aa,H'',?_⟩⟩;simp;exact⟨aQ aa,i5 (f:=Task.row) hlt⟩
 have hm:i=tasks.length:=aa;subst hm;simp[Wld.res]
noncomputable def bH(name:ByteArray):List Queue->Nat
 | []=>0
 |x::l=>open Classical in if sLt x.doc name then bH name l+1 else 0
theorem lg(name:ByteArray):∀l:List Queue,bH name l<=l.length
 | []=>by simp[bH]
 | x :: l => by
   unfold bH
   split
   ·have:=lg name l;simp;omega
   ·omega
theorem jm{name:ByteArray}:∀{l:List Queue}{k:Nat},k<=bH name l->∀hk:k<l.length,sLt l[k].doc name↔k<bH name l
 | x :: l, 0, _, _ => by
   unfold bH
   split
   ·rename_i h;simpa using h
   ·rename_i h;simpa using h
 | x :: l, k + 1, h, hk => by
   unfold bH at h⊢
   split at h
   ·rename_i hx
    rw[ao hx];have:=jm (name:=name) (l:=l) (k:=k) aa tQ;simp only[wU];rw[this];omega
   ·omega
theorem kn(l:List Queue)(name:ByteArray):(∃k:Nat,∃h:k<l.length,gU l name=k/\l[k].doc=name)\/gU l name = -1:=by
 rcases jH (λq:Queue=>q.doc=name) l with⟨k,h,e,hp,-⟩|⟨e,-⟩
 ·exact .inl ⟨k,h,e,hp⟩
 ·exact .inr e
noncomputable def qB(w:Wld)(k:Nat)(t:Task):Wld:=⟨(fDo w.h t.c).1,w.locks,w.queues,w.tasks.set k ⟨t.c,3,t.inv,w.step,t.rs,(fDo w.h t.c).2⟩,w.step⟩
noncomputable def R7(w:Wld)(k:Nat)(t:Task):Wld:=⟨w.h,w.locks,
 (match w.queues[(gU w.queues t.c.doc).toNat]? with
  |some q=>if 0<=gU w.queues t.c.doc then w.queues.set (gU w.queues t.c.doc).toNat ⟨q.doc,q.list++[(k:Int)]⟩else w.queues.take (bH t.c.doc w.queues)++⟨t.c.doc,[(k:Int)]⟩::w.queues.drop (bH t.c.doc w.queues)
  |none=>w.queues.take (bH t.c.doc w.queues)++⟨t.c.doc,[(k:Int)]⟩::w.queues.drop (bH t.c.doc w.queues)),
 w.tasks.set k ⟨t.c,2,t.inv,t.lin,t.rs,t.a⟩,w.step⟩
def abN(w:Wld)(name:ByteArray):Prop:=∃i:Nat,∃h:i<w.queues.length,gU w.queues name=i/\w.queues[i].list.length=2
open Classical in
noncomputable def kE(w:Wld)(k:Nat)(t:Task):Wld:=
 if t.c.kind≠2\/w.h.shut=true\/bq w.h.docs t.c.doc<0 then qB ⟨w.h,w.locks.set (bS t.c.doc w.locks.length) (-1),w.queues,w.tasks,w.step⟩ k t
 else if abN w t.c.doc then⟨w.h,w.locks.set (bS t.c.doc w.locks.length) (-1),w.queues,w.tasks.set k ⟨t.c,3,t.inv,t.lin,t.rs,⟨11,0,[],[]⟩⟩,w.step⟩
 else R7 ⟨w.h,w.locks.set (bS t.c.doc w.locks.length) (-1),w.queues,w.tasks,w.step⟩ k t
def fg(w:Wld)(n:Int):Wld:=⟨w.h,w.locks,w.queues,w.tasks,n⟩
open Classical in
noncomputable def jG(w:Wld)(k:Nat)(t:Task):Wld×Bool:=
 if t.pc=0 then
  (if cO t.c.kind then
   (if w.locks[bS t.c.doc w.locks.length]? = some (-1)then(⟨w.h,w.locks.set (bS t.c.doc w.locks.length) (k:Int),w.queues,w.tasks.set k ⟨t.c,1,t.inv,t.lin,t.rs,t.a⟩,w.step+1⟩,true)else(Wld.zero,false))
   else(fg (qB w k t) (w.step+1),true))
 else if t.pc=1 then(fg (kE w k t) (w.step+1),true)
 else if t.pc=3 then(⟨w.h,w.locks,w.queues,w.tasks.set k ⟨t.c,4,t.inv,t.lin,w.step,t.a⟩,w.step+1⟩,true)
 else(Wld.zero,false)
open Classical in
noncomputable def iT(w:Wld)(k:Int):Wld×Bool:=
 if cS w/\¬w.step=1000000/\0<=k then(match w.tasks[k.toNat]? with|some t=>jG w k.toNat t|none=>(Wld.zero,false))else(Wld.zero,false)
theorem uH{w:Wld}{k:Int}(h:¬(cS w/\¬w.step=1000000/\(0<=k/\k<=(w.tasks.length:Int)-1))):iT w k=(Wld.zero,false):=by
 unfold iT
 split
 ·rename_i h1
  have hb:¬(0<=k/\k<=(w.tasks.length:Int)-1):=λhb=>h ⟨h1.1,h1.2.1,hb⟩
  have h2:=h1.2.2;have:w.tasks[k.toNat]? = none:=by rw[List.getElem?_eq_none_iff];omega
  rw[this]
 ·rfl
theorem mM{w:Wld}{k:Nat}(h:cS w)(hs:¬w.step=1000000)(hk:k<w.tasks.length):iT w k=jG w k w.tasks[k]:=by
 unfold iT;rw[ao ⟨h,hs,aa⟩];simp[hk]
theorem lI{w:Wld}{k:Nat}{t:Task}(h0:t.pc=0)(h1:cO t.c.kind)(h2:w.locks[bS t.c.doc w.locks.length]? = some (-1)) :
 jG w k t=(⟨w.h,w.locks.set (bS t.c.doc w.locks.length) (k:Int),w.queues,w.tasks.set k ⟨t.c,1,t.inv,t.lin,t.rs,t.a⟩,w.step+1⟩,true):=by unfold jG;rw[ao h0,ao h1,ao h2]
theorem qz{w:Wld}{k:Nat}{t:Task}(h0:t.pc=0)(h1:cO t.c.kind)(h2:¬w.locks[bS t.c.doc w.locks.length]? = some (-1)):jG w k t=(Wld.zero,false):=by unfold jG;rw[ao h0,ao h1,au h2]
theorem jR{w:Wld}{k:Nat}{t:Task}(h0:t.pc=0)(h1:¬cO t.c.kind):jG w k t=(fg (qB w k t) (w.step+1),true):=by unfold jG;rw[ao h0,au h1]
theorem jn{w:Wld}{k:Nat}{t:Task}(h0:t.pc=1):jG w k t=(fg (kE w k t) (w.step+1),true):=by unfold jG;rw[au aa,ao h0]
theorem lH{w:Wld}{k:Nat}{t:Task}(h0:t.pc=3):jG w k t=(⟨w.h,w.locks,w.queues,w.tasks.set k ⟨t.c,4,t.inv,t.lin,w.step,t.a⟩,w.step+1⟩,true):=by unfold jG;rw[au aa,au aa,ao h0]
theorem qA{w:Wld}{k:Nat}{t:Task}(h0:¬t.pc=0)(h1:¬t.pc=1)(h3:¬t.pc=3):jG w k t=(Wld.zero,false):=by unfold jG;rw[au h0,au h1,au h3]
theorem mn{w:Wld}{k:Nat}{t:Task}(q:¬t.c.kind=2\/w.h.shut=true\/bq w.h.docs t.c.doc<0):kE w k t=qB ⟨w.h,w.locks.set (bS t.c.doc w.locks.length) (-1),w.queues,w.tasks,w.step⟩ k t:=by unfold kE;rw[ao q]
theorem mo{w:Wld}{k:Nat}{t:Task}(q:¬(¬t.c.kind=2\/w.h.shut=true\/bq w.h.docs t.c.doc<0)){i:Nat}(hi:i<w.queues.length)(e:gU w.queues t.c.doc=i)(f:w.queues[i].list.length=2) :
 kE w k t=⟨w.h,w.locks.set (bS t.c.doc w.locks.length) (-1),w.queues,w.tasks.set k ⟨t.c,3,t.inv,t.lin,t.rs,⟨11,0,[],[]⟩⟩,w.step⟩:=by unfold kE;rw[au q,ao ⟨i,hi,e,f⟩]
theorem mm{w:Wld}{k:Nat}{t:Task}(q:¬(¬t.c.kind=2\/w.h.shut=true\/bq w.h.docs t.c.doc<0)){i:Nat}(hi:i<w.queues.length)(e:gU w.queues t.c.doc=i)(f:¬w.queues[i].list.length=2) :
 kE w k t=⟨w.h,w.locks.set (bS t.c.doc w.locks.length) (-1),w.queues.set i ⟨w.queues[i].doc,w.queues[i].list++[(k:Int)]⟩,w.tasks.set k ⟨t.c,2,t.inv,t.lin,t.rs,t.a⟩,w.step⟩:=by
 unfold kE;rw[au q,au]
 ·unfold R7
  simp[e,hi]
 ·rintro⟨j,hj,e',f'⟩
  have:j=i:=aa;subst this;exact f f'
theorem nF{w:Wld}{k:Nat}{t:Task}(q:¬(¬t.c.kind=2\/w.h.shut=true\/bq w.h.docs t.c.doc<0))(e:gU w.queues t.c.doc = -1) :
 kE w k t=⟨w.h,w.locks.set (bS t.c.doc w.locks.length) (-1),w.queues.take (bH t.c.doc w.queues)++⟨t.c.doc,[(k:Int)]⟩::w.queues.drop (bH t.c.doc w.queues),w.tasks.set k ⟨t.c,2,t.inv,t.lin,t.rs,t.a⟩,w.step⟩:=by
 unfold kE;rw[au q,au]
 ·unfold R7
  simp only[e]
  split
  ·rw[au aa]
  ·rfl
 ·rintro⟨j,hj,e',f'⟩
  omega
def n8(w:Wld)(t:Task):Prop:=(t.pc=0/\cO t.c.kind->w.locks[bS t.c.doc w.locks.length]? = some (-1))/\¬t.pc=2/\¬t.pc=4
theorem th{w:Wld}{k:Nat}(h:cS w)(hs:¬w.step=1000000)(hk:k<w.tasks.length):(iT w k).2=true↔n8 w w.tasks[k]:=by
 rw[mM h hs hk];have hp:=(h.1 _ (aj hk)).2.2.1;generalize w.tasks[k]=t at hp;unfold n8;by_cases c0:t.pc=0
 ·by_cases c1:cO t.c.kind
  ·by_cases c2:w.locks[bS t.c.doc w.locks.length]? = some (-1)
   ·rw[lI c0 c1 c2];simp[c0,c2]
   ·rw[qz c0 c1 c2];simp[c0,c1,c2]
  ·rw[jR c0 c1];simp[c0,c1]
 ·by_cases c1:t.pc=1
  ·rw[jn c1];simp[c1]
  ·by_cases c3:t.pc=3
   ·rw[lH c3];simp[c3]
   ·rw[qA c0 c1 c3]
    have:t.pc=2\/t.pc=4:=aa;rcases this with e|e<;>simp[e]
set_option maxHeartbeats 3200000
set_option maxHeartbeats 6400000
theorem zi{d:Doc}(h:bQ d):(eL d).length<=200:=by
 have h9:=(pV h (rev:=aB d) (by have:=dg h;omega) (Int.le_refl _)).2.2.1.1;unfold eL;exact h9
theorem oZ{α:Type}{f:α->Nat}(a:α)(l:List α):nL f (a::l)=nL f l+f a+1:=by
 simp only[nL,cw,cr];omega
theorem y6{α:Type}{f:α->Nat}:nL f ([]:List α)=0:=(rfl)
theorem QI{r:Ring}(h:cl r):cV r<=2^21:=by
 obtain⟨h1,h2,h3,h4,-⟩:=h;have hb:nL aX r.list<=r.list.length*(2^18+1):=Bq (λe he=>DR (h1 e he).2.2.1);have hc:=aq (2^18+1) (show r.list.length<=6 from aa);unfold cV;omega
theorem Ms{h:Hub}(c:bC h){s:Sub}(hs:s∈h.subs):dp s<=2^22:=by
 obtain⟨i,hi,rfl⟩:=fb hs;obtain⟨-,h2,-,k,hk,e,-⟩:=c.2.2.2.2 i hi;have h3:=QI h2
 have h4:h.subs[i].doc.size<=8:=by
  rcases fI h.docs h.subs[i].doc with⟨j,hj,e',hn⟩|e'
  ·rw[<-hn];exact(ja c hj).1.1.2
  ·omega
 unfold dp;omega
theorem ln{h:Hub}(c:bC h):dh h<=2^27/\nL cB h.docs<=2^26/\nL dp h.subs<=2^25:=by
 have h1:nL cB h.docs<=h.docs.length*(2^23+1):=Bq (λd hd=>by
  obtain⟨i,hi,rfl⟩:=fb hd;exact uM (ja c hi))
 have h2:nL dp h.subs<=h.subs.length*(2^22+1):=Bq (λs hs=>Ms c hs);have h3:=aq (2^23+1) c.1;have h4:=aq (2^22+1) c.2.1;unfold dh;omega
theorem oz:dh Hub.zero=0:=(rfl)
theorem Iz(h:Hub)(name:ByteArray)(t:List Int):dh (dD h name t).1<=2^28:=by
 unfold dD
 split
 ·rename_i c
  have h1:=ln c.1;have h2:=uM c.2
  repeat' split
  ·exact k9
  ·exact k9
  ·exact k9
  ·have h3:nL cB (tl (gK name t) h.docs)=nL cB h.docs+cB (gK name t)+1:=by
    rw[rU,ir,oZ];have h4:=ir (f:=cB) (h.docs.take (fw (gK name t).name h.docs)) (h.docs.drop (fw (gK name t).name h.docs));rw[dI]at h4;omega
   unfold dh;exact iD
 ·exact k9
theorem Nq(name:ByteArray)(e:Entry)(s:Sub):dp (gg name e s)<=dp s+aX e+1:=by
 unfold gg
 split
 ·have:=Gl s.r e
  unfold dp;exact iD
 ·omega
theorem F7{h:Hub}(c:bC h)(name:ByteArray)(k:Nat)(d0:Doc){d:Doc}(hd:cB d<=2^24):dh (gd h name k d0 d)<=2^28:=by
 have h1:=ln c;have h2:=vq (f:=cB) h.docs k d;unfold gd
 have h3:∀e,d.list.getLast? = some e->nL dp (h.subs.map (gg name e))<=6*(20971521+1):=by
  intro e he;have h5:aX e<=2^24:=dW (gF (dX hd).1 (Ah he)) (aF _)
  have h4:nL dp (h.subs.map (gg name e))<=(h.subs.map (gg name e)).length*(20971521+1):=Bq (λs hs=>by
   rw[cF]at hs;obtain⟨s0,hs0,rfl⟩:=hs;have h6:=Nq name e s0;have h7:=Ms c hs0;omega)
  rw[xh]at h4;exact dW h4 (aq _ c.2.1)
 unfold dh;simp only
 split
 ·split
  ·rename_i e he
   have:=h3 e he;omega
  ·omega
 ·omega
theorem Ew(h:Hub)(name:ByteArray)(client seq base:Int)(o:List Part):dh (ca h name client seq base o).1<=2^28:=by
 unfold ca
 split
 ·rename_i c
  split
  ·exact k9
  ·split
   ·rename_i d0 hd0
    have hd:bQ d0:=by
     obtain⟨hi,rfl⟩:=an.1 hd0;exact ja c hi
    repeat' split
    ·exact F7 c _ _ _ (vD hd)
    ·exact k9
    ·exact k9
   ·exact k9
 ·exact k9
theorem xb(h:Hub)(name:ByteArray)(room:Int):dh (bp h name room).1<=2^28:=by
 unfold bp
 split
 ·rename_i c
  have h1:=ln c.1
  repeat' split
  all_goals first|(rw[oz];omega)|skip
  rename_i hi _
  have h3:name.size<=8:=by
   rcases fI h.docs name with⟨j,hj,e',hn⟩|e'
   ·rw[<-hn];exact(ja c.1 hj).1.1.2
   ·omega
  unfold dh;simp only[ir,oZ,y6,dp,zo];omega
 ·exact k9
theorem Iy(h:Hub)(id n:Int):dh (df h id n).1<=2^28/\nL aX (df h id n).2.1<=2^24:=by
 unfold df
 split
 ·rename_i c
  have h1:=ln c.1
  split
  ·rename_i s hs
   have hm:=aP hs;have h2:=Ms c.1 hm;have h3:=Gm s.r n
   repeat' split
   ·have h4:=vq (f:=dp) h.subs (fk h.subs id).toNat ⟨s.id,s.doc,(cm s.r n).1⟩
    have h5:dp ⟨s.id,s.doc,(cm s.r n).1⟩=s.doc.size+cV (cm s.r n).1:=rfl;have h6:dp s=s.doc.size+cV s.r:=rfl;unfold dh;exact iD
   ·exact xN
   ·exact xN
  ·exact xN
 ·exact xN
theorem Ex(h:Hub)(id:Int):dh (bP h id).1<=2^28/\(bP h id).2.1.length<=200:=by
 unfold bP
 split
 ·rename_i c
  have h1:=ln c
  split
  ·rename_i s hs
   have hm:=aP hs;have h2:=Ms c hm
   split
   ·split
    ·rename_i d hd
     obtain⟨hi,rfl⟩:=an.1 hd;have h3:=zi (ja c hi);have h4:=vq (f:=dp) h.subs (fk h.subs id).toNat ⟨s.id,s.doc,(cW s.r (aB h.docs[(bq h.docs s.doc).toNat])).1⟩
     have h5:cV (cW s.r (aB h.docs[(bq h.docs s.doc).toNat])).1=0:=by
      unfold cW
      split
      ·exact zo _ _
      ·rfl
     refine⟨?_,h3⟩;unfold dh;simp only;have h7:dp ⟨s.id,s.doc,(cW s.r (aB h.docs[(bq h.docs s.doc).toNat])).1⟩=s.doc.size+cV (cW s.r (aB h.docs[(bq h.docs s.doc).toNat])).1:=rfl;have h6:dp s=s.doc.size+cV s.r:=rfl;omega
    ·exact xQ
   ·exact xQ
  ·exact xQ
 ·exact xQ
theorem Ix(h:Hub):dh (eh h).1<=2^28:=by
 unfold eh
 repeat' split
 all_goals first|(rw[oz];omega)|skip
 rename_i c _
 have:=(ln c).1;unfold dh at this⊢;exact iD
theorem EH(x:Int):cq (eX x)=0:=(rfl)
theorem UU{h:Hub}(c:bC h)(x:Call):cq (nE h x)<=2^24:=by
 unfold nE
 repeat' split
 all_goals first|(rw[EH];omega)|skip
 ·rename_i d hd _ _
  obtain⟨hi,rfl⟩:=an.1 hd;have h3:=zi (ja c hi);unfold cq;simp only[y6];omega
 ·rename_i d hd _ _
  obtain⟨hi,rfl⟩:=an.1 hd;have h3:=(dX (uM (ja c hi))).1;generalize h.docs[(bq h.docs x.doc).toNat]=d at h3;unfold cq;simp only[il,cE];unfold kF
  repeat' split
  all_goals first|(simp only[y6];omega)|skip
  have h4:=ir (f:=aX) (d.list.take (x.n-d.fr).toNat) (d.list.drop (x.n-d.fr).toNat);rw[dI]at h4;exact iD
theorem abR(h:Hub)(c:Call):(dh (fDo h c).1<=dh h\/dh (fDo h c).1<=2^28)/\cq (fDo h c).2<=2^24:=by
 have hz:∀x y:Int,cq ⟨x,y,[],[]⟩=0:=λ_ _=>rfl
 unfold fDo
 split
 ·rename_i ok
  have h1:=Iz h c.doc c.text;have h2:=Ew h c.doc c.client c.seq c.n c.o;have h3:=xb h c.doc c.n;have h4:=Iy h c.client c.n;have h5:=Ex h c.client;have h6:=Ix h;have h7:=UU ok.1 c
  repeat' split
  all_goals simp only[EH,hz]
  all_goals first|omega|skip
  ·refine⟨.inr h4.1,?_⟩
   unfold cq;simp only[il];omega
  ·refine⟨.inr h5.1,?_⟩
   unfold cq;simp only[y6];omega
 ·simp only[EH];omega
theorem vj{l:List Task}{k:Nat}{row:List CD}(h:row.length=15):∀r∈(l.map Task.row).set k row,r.length=15:=by
 exact Dg
theorem Mz{l:List Int}{k:Nat}{row:List CD}(h:row.length=1):∀r∈(l.map aI).set k row,r.length=1:=by
 exact Dg
theorem nv{α:Type}{f:α->List CD}{l:List α}{k:Nat}{t:α}(hk:k<l.length)(ht:l[k]=t)(g:List CD->List CD):(l.map f).modify k g=(l.map f).set k (g (f t)):=by
 refine eO ab (λj h1 h2=>?_);simp only[List.getElem_modify,og,iX]
 split
 ·rename_i e;subst e;rw[ht]
 ·rfl
theorem aa4{l:List Queue}{k:Nat}{row:List CD}(h:row.length=2):∀r∈(l.map Queue.row).set k row,r.length=2:=by
 exact Dg
theorem QQ{l:List Queue}{r:List CD}(h:r∈l.map Queue.row):r.length=2:=by
 rw[cF]at h;obtain⟨x,-,rfl⟩:=h;rfl
theorem Q2(d:CD):AV.one (toAV d)=true:=by cases d<;>rfl
def QR(l:List Queue)(qr:List (List CD)):Prop:=qr.length=l.length/\∀j,∀h:j<l.length,∃d,qr[j]? = some [.v (.string l[j].doc),d]
theorem vk(l:List Queue):QR l (l.map Queue.row):=⟨ab,λj h=>⟨.s (l[j].list.map aI),by simp[h,Queue.row]⟩⟩
theorem Bf{l:List Queue}{i:Nat}(hi:i<l.length)(d:CD):QR l ((l.map Queue.row).set i [.v (.string l[i].doc),d]):=by
 refine⟨ab,λj h=>?_⟩;by_cases e:i=j
 ·subst e;exact⟨d,by simp[h]⟩
 ·exact⟨.s (l[j].list.map aI),by simp[h,Queue.row,e]⟩
theorem lE(ds ss ls ts:List (List CD))(sh:Bool)(last step:Int){qr:List (List CD)}{l:List Queue}(hq:QR l qr)(hle:l.length<=2^40)(name:ByteArray) :
 ar Tryz.prog 69 [.agg [.v (.bool sh),.s ds,.s ss,.v (.int .i64 last),.s ls,.s qr,.s ts,.v (.int .i64 step)],.c (.v (.string name))] (.one (.c (vi (gU l name)) 1)):=by
 refine pci aw Tryz.func69 (λw0 base=>?_);obtain⟨hq1,hq2⟩:=hq;simp[hq1];intro b2;refine aU.intro eok (λi:Nat=>i<=l.length/\∀j,j<i->∀hj:j<l.length,¬l[j].doc=name) (λi=>⟨21,0,[(10,.v (.int .i64 i)),(9,.v (.int .i64 l.length)),(8,.ro qr),(1,.v (.string name))],[]⟩) (λi=>l.length-i) 0 ab ab (λi hi=>?_);by_cases hlt:i<l.length
 ·obtain⟨d,hd⟩:=hq2 i hlt
  obtain⟨hd1,hd2⟩:=an.1 hd;simp[hlt,hq1,hd2,Q2];intro b;by_cases c:l[i].doc=name
  ·have e:gU l name=i:=yo hlt c hi.2
   simp[c,e]
  ·simp[c]
   exact⟨i+1,⟨aa,λj hj hjl=>by
    by_cases hji:j=i
    ·subst hji;exact c
    ·exact hi.2 j aa hjl⟩,aa,aQ aa⟩
 ·have e:gU l name = -1:=rS (λj hj=>hi.2 j aa hj)
  simp[hlt,e]
theorem G6(w:Wld)(hl:bL w<=2^30)(k:Int):ar Tryz.prog 6 [.agg w.row,.c (vi k)] (.tup [.agg (iT w k).1.res,.c (.v (.bool (iT w k).2)) 1]):=by
 refine ar.introL aw Tryz.func6 al rfl rfl rfl (ai rfl) rfl (λw0 base us hrd=>?_);have hno:=@uH w k;have hat:=@mM w;have hwo:=Ak w aa;have hcp:=Oh w aa;obtain⟨nh,n2,n3,n4⟩:=dn hl;have hle:=aY n4;have hlq:=aY n3;simp[Wld.row]at hrd;obtain⟨r1,r2,r3,r4,r5⟩:=hrd;simp[Wld.row];intro b2 b4;refine ag.pure hwo tJ ?_;by_cases c1:cS w
 rotate_left
 ·simp[az c1,hno (λh=>c1 h.1),Wld.res,Wld.zero,Hub.zero]
 have hhb:=(ln c1.2.1).1;simp[c1];by_cases c2:w.step=1000000
 ·simp[c2,hno (λh=>h.2.1 c2),Wld.res,Wld.zero,Hub.zero]
 simp[c2];refine ag.pure (cG k 0 ((w.tasks.length:Int)-1)) (by simp;exact(ae _ aa).symm) ?_;by_cases c3:0<=k/\k<=(w.tasks.length:Int)-1
 rotate_left
 ·simp[az c3,hno (λh=>c3 h.2.2),Wld.res,Wld.zero,Hub.zero]
 obtain⟨k,rfl⟩:∃n:Nat,k=n:=⟨k.toNat,aa⟩;have hk:k<w.tasks.length:=aa;rw[hat c1 c2 hk];simp[c3];refine ag.pure hcp tJ ?_;have htk:=(c1.1 _ (aj hk));obtain⟨t,ht⟩:∃t,w.tasks[k]=t:=⟨_,rfl⟩;rw[ht]at htk⊢;have hpc:=htk.2.2.1;have hm:=λg=>nv (f:=Task.row) hk ht g
 have ew:Go.IntKind.i64.wrap (w.step+1)=w.step+1:=ae _ xq;have hdsz:=htk.1.2.1;have hdo:=QD w.h aa t.c xp;have hs1:=(i6 t.c.doc c1.2.2.1.1);simp[Wld.res,hk,ht,Task.row];intro H1 H2 H3 H4 H5 b6;by_cases p0:t.pc=0
 ·simp[p0,hk,ht,Task.row]
  refine ag.pure (pW t.c.kind) ab ?_;by_cases d:cO t.c.kind
  rotate_left
  ·rw[jR p0 d]
   simp[az d];generalize hR:fDo w.h t.c=R at hdo;obtain⟨h',a'⟩:=R;refine dw aw Tryz.func25 al rfl rfl rfl (ai rfl) 20000 rfl ab ?_;refine dV (λx:(Hd×Hd×Hd×Hd)×Nat×Nat=>[(4,.p 20064 x.2.1 0),(5,.p 20080 x.2.2 0)]) (λx=>[(20064,.vars x.2.1 35 [.v (.bool h'.shut),.sl 20305 x.1.1 5 0 h'.docs.length,.sl 20306 x.1.2.1 6 0 h'.subs.length,.v (.int .i64 h'.last)]),(20080,.vars x.2.2 64 [.v (.int .i64 a'.code),.v (.int .i64 a'.rev),.sl 20310 x.1.2.2.1 1 0 a'.text.length,.sl 20311 x.1.2.2.2 3 0 a'.list.length]),(20305,.rows x.1.1 5 (h'.docs.map Doc.row) true),(20306,.rows x.1.2.1 6 (h'.subs.map Sub.row) true),(20310,.rows x.1.2.2.1 1 (a'.text.map aI) true),(20311,.rows x.1.2.2.2 3 (a'.list.map Entry.row) true)]) [0,1] ?_ ?_
   ·exact Ml
   rintro⟨⟨K1,K2,K3,K4⟩,e1,e2⟩
   simp;refine drw eok mix [0,1,2,3,4,5,6,7] [8] (.c 8 8 253 2 (.l 8 2) .s) ?_;simp[hk,Task.row,hm]
   try intros
   refine drw eok mix [0,1,2,3,4,5,6,7,8,9,10] [11] (.c 11 11 2045 2 (.l 11 2) .s) ?_;simp[hk,bm]
   try intros
   simp[ew,fg,qB,hR,Task.row];exact λr hr=>vj rfl r hr
  simp[d];refine drw eok mix [0,1,2,3,4,5,6,7] [8,9] (.c 8 8 9 246 (.c 8 9 246 0 (.l 8 0) .s) .s) ?_;simp[hk,ht,Task.row]
  try intros
  refine ag.pure (me t.c.doc aa w.locks.length aa aa) ab ?_;simp
  try intros
  have hs2:=hs1.2;simp[hs2];by_cases f:w.locks[bS t.c.doc w.locks.length] = -1
  rotate_left
  ·rw[qz p0 d (by rw[ak hs2];simpa using f)]
   simp[f,Wld.zero,Hub.zero]
  rw[lI p0 d (by rw[ak hs2];simpa using f)];simp[f,hs2,hm,hk,Task.row,ew];exact CI
 by_cases p1:t.pc=1
 ·rw[jn p1]
  simp[p1];refine dw aw Tryz.func27 al rfl rfl rfl (ai rfl) 30000 rfl ab ?_;have hs2:=hs1.2;simp[hk];refine drw eok mix [0,1,2,3,4,5,6,7,8,9,10,11,12,13] [14,15,16] (.c 14 14 33 16350 (.c 14 15 16350 0 (.c 14 16 0 0 (.l 14 0) .s) .s) .s) ?_;simp[hk,ht,Task.row]
  try intros
  refine ag.pure (me t.c.doc aa w.locks.length aa aa) ab ?_;simp
  try intros
  simp[hs2];have hdoc:=fE w.h aa t.c.doc;obtain⟨q0,hq0⟩:∃q:Prop,q=(¬t.c.kind=2\/w.h.shut=true\/bq w.h.docs t.c.doc<0):=⟨_,rfl⟩;refine dV (λ_:Unit=>[(53,.v (.bool (dc q0)))]) (λ_=>[]) [0,1,4] ?_ ?_
  ·exact ma
  intro _;by_cases q:q0
  ·rw[mn qX]
   simp[q];generalize hR:fDo w.h t.c=R at hdo;obtain⟨h',a'⟩:=R;refine dw aw Tryz.func25 al rfl rfl rfl (ai rfl) 40000 rfl ab ?_;refine dV (λx:(Hd×Hd×Hd×Hd)×Nat×Nat=>[(4,.p 40064 x.2.1 0),(5,.p 40080 x.2.2 0)]) (λx=>[(40064,.vars x.2.1 35 [.v (.bool h'.shut),.sl 40305 x.1.1 5 0 h'.docs.length,.sl 40306 x.1.2.1 6 0 h'.subs.length,.v (.int .i64 h'.last)]),(40080,.vars x.2.2 64 [.v (.int .i64 a'.code),.v (.int .i64 a'.rev),.sl 40310 x.1.2.2.1 1 0 a'.text.length,.sl 40311 x.1.2.2.2 3 0 a'.list.length]),(40305,.rows x.1.1 5 (h'.docs.map Doc.row) true),(40306,.rows x.1.2.1 6 (h'.subs.map Sub.row) true),(40310,.rows x.1.2.2.1 1 (a'.text.map aI) true),(40311,.rows x.1.2.2.2 3 (a'.list.map Entry.row) true)]) [0,1] ?_ ?_
   ·exact Ml
   rintro⟨⟨K1,K2,K3,K4⟩,e1,e2⟩
   simp;refine drw eok mix [0,1,2,3,4,5,6,7] [8] (.c 8 8 253 2 (.l 8 2) .s) ?_;simp[hk,Task.row,hm]
   try intros
   refine drw eok mix [0,1,2,3,4,5,6,7,8,9,10] [11] (.c 11 11 2045 2 (.l 11 2) .s) ?_;simp[hk,bm]
   try intros
   simp[ew,fg,qB,hR,Task.row];exact CI
  have q':¬(¬t.c.kind=2\/w.h.shut=true\/bq w.h.docs t.c.doc<0):=qX;have hi1:∀x:Int,aI x=[CD.v (.int .i64 x)]:=λ_=>rfl
  simp[az q];rcases kn w.queues t.c.doc with⟨i,hi,eq,hd⟩|eq
  ·have hrow:∀d,lN (w.queues.map Queue.row) i 1 d=(w.queues.map Queue.row).set i [.v (.string w.queues[i].doc),d]:=λd=>nv (f:=Queue.row) hi rfl _
   by_cases f:w.queues[i].list.length=2
   ·rw[mo q' hi eq f]
    have f':(w.queues[i].list.length:Int)=2:=aa;refine drw eok mix [0,1,2,3,4,5,6,7] [8,9] (.c 8 8 33 222 (.c 8 9 222 0 (.l 8 0) .s) .s) ?_;simp[hk,ht,Task.row]
    try intros
    refine ag.pure (lE (w.h.docs.map Doc.row) (w.h.subs.map Sub.row) ((w.locks.map aI).set (bS t.c.doc w.locks.length) [.v (.int .i64 (-1))]) (w.tasks.map Task.row) w.h.shut w.h.last w.step (vk w.queues) aa t.c.doc) ab ?_;simp
    try intros
    simp[eq,hi,Queue.row,f',hk,Task.row,hm,bm,fg,ew,hi1];exact CI
   have f':¬(w.queues[i].list.length:Int)=2:=aa;have hqa:=(aW (p:=hI w.h w.queues i) λhn=>fL hi (gE hi hn) c1.2.2.2.2.2.2.2) hi;have hpos:0<w.queues[i].list.length:=hqa.2.1.1;have hle2:=hqa.2.1.2;rw[mm q' hi eq f];refine aZ.open (λ_ h=>h) (k:=453) (i:=i) (j:=1) (k':=60000) (sz':=1) (sz:=2) (H:=H4) (rows:=w.queues.map Queue.row) (srows:=w.queues[i].list.map aI) (row:=w.queues[i].row) ab (by simp[hi]) rfl ab ah ju ab (λG=>?_);refine drw eok mix [0,1,2,3,4,5,6,7] [8,9] (.c 8 8 33 222 (.c 8 9 222 0 (.l 8 0) .s) .s) ?_;simp[hk,ht,Task.row,hrow]
   try intros
   refine ag.pure (lE (w.h.docs.map Doc.row) (w.h.subs.map Sub.row) ((w.locks.map aI).set (bS t.c.doc w.locks.length) [.v (.int .i64 (-1))]) (w.tasks.map Task.row) w.h.shut w.h.last w.step (Bf hi (.h 60000 G 1 w.queues[i].list.length)) aa t.c.doc) ab ?_;simp
   try intros
   simp[eq,hi,f'];refine dw aw Tryz.func70 al rfl rfl rfl (ai rfl) 50000 rfl ab ?_;simp[hk,ht,Task.row,hm];refine ag.pure (lE (w.h.docs.map Doc.row) (w.h.subs.map Sub.row) ((w.locks.map aI).set (bS t.c.doc w.locks.length) [.v (.int .i64 (-1))]) ((w.tasks.map Task.row).set k (Task.row ⟨t.c,2,t.inv,t.lin,t.rs,t.a⟩)) w.h.shut w.h.last w.step (Bf hi (.h 60000 G 1 w.queues[i].list.length)) aa t.c.doc) lY ?_;simp[eq];refine drw eok mix [0,1,2,3,4,5,6,7,8,9,10,11,12,13,16,17] [14,15,18] (.c 16 14 4 65531 (.c 16 15 8 65523 (.c 16 18 65521 2 (.l 16 2) .s) .s) .s) ?_;simp[hi,hpos,bm]
   try intros
   simp[Queue.row,Task.row,fg,ew,hi1];exact⟨aa,λr hr=>Mz rfl r hr,λr hr=>aa4 rfl r hr,λr hr=>vj rfl r hr⟩
  rw[nF q' eq];refine drw eok mix [0,1,2,3,4,5,6,7] [8,9] (.c 8 8 33 222 (.c 8 9 222 0 (.l 8 0) .s) .s) ?_;simp[hk,ht,Task.row]
  try intros
  refine ag.pure (lE (w.h.docs.map Doc.row) (w.h.subs.map Sub.row) ((w.locks.map aI).set (bS t.c.doc w.locks.length) [.v (.int .i64 (-1))]) (w.tasks.map Task.row) w.h.shut w.h.last w.step (vk w.queues) aa t.c.doc) ab ?_;simp
  try intros
  simp[eq];refine dw aw Tryz.func70 al rfl rfl rfl (ai rfl) 50000 rfl ab ?_;simp[hk,ht,Task.row,hm];refine ag.pure (lE (w.h.docs.map Doc.row) (w.h.subs.map Sub.row) ((w.locks.map aI).set (bS t.c.doc w.locks.length) [.v (.int .i64 (-1))]) ((w.tasks.map Task.row).set k (Task.row ⟨t.c,2,t.inv,t.lin,t.rs,t.a⟩)) w.h.shut w.h.last w.step (vk w.queues) aa t.c.doc) lY ?_;have hal:=lg t.c.doc w.queues;have hon:=λ{k:Nat} h1 h2=>jm (name:=t.c.doc) (l:=w.queues) (k:=k) h1 h2
  generalize bH t.c.doc w.queues=a at hal hon;simp[eq]
  refine aH eok (λm:Nat=>m<=a) (λm=>⟨96,50000,[(6,.v (.int .i64 m)),(0,.p 96 b6 0),(1,.v (.int .i64 k)),(4,.v (.string t.c.doc))],
   [(454, .rows H5 15 ((w.tasks.map Task.row).set k (Task.row ⟨t.c,2,t.inv,t.lin,t.rs,t.a⟩)) true),(452, .rows H3 1 ((w.locks.map aI).set (bS t.c.doc w.locks.length) [.v (.int .i64 (-1))]) true),
    (96,.vars b6 39 [.v (.bool w.h.shut),.sl 449 H1 5 0 w.h.docs.length,.sl 450 H2 6 0 w.h.subs.length,.v (.int .i64 w.h.last),.sl 452 H3 1 0 w.locks.length,.sl 453 H4 2 0 w.queues.length,.sl 454 H5 15 0 w.tasks.length,.v (.int .i64 w.step)]),
    (453,.rows H4 2 (w.queues.map Queue.row) true),(450,.rows H2 6 (w.h.subs.map Sub.row) true),(449,.rows H1 5 (w.h.docs.map Doc.row) true),
    (64,.vars b4 39 [.v (.bool false),.nil,.nil,.v (.int .i64 0),.nil,.nil,.nil,.v (.int .i64 0)]),
    (32,.vars b2 39 [.v (.bool w.h.shut),.cv (us 0 1) w.h.docs.length,.cv (us 0 2) w.h.subs.length,.v (.int .i64 w.h.last),.cv (us 0 4) w.locks.length,.cv (us 0 5) w.queues.length,.cv (us 0 6) w.tasks.length,.v (.int .i64 w.step)])]⟩) (λm=>w.queues.length-m) 0 ab lY (λm hmm=>Ent.refl ?_)
  by_cases hlt:m<w.queues.length
  ·obtain⟨x,hx⟩:∃x,w.queues[m]=x:=⟨_,rfl⟩
   have hiff:=hon hmm hlt;rw[hx]at hiff;simp[hlt,hx,Queue.row];by_cases s:sLt x.doc t.c.doc
   ·exact tV
   have hka:m=a:=by
    exact Cx
   subst hka;have hmn:min m w.queues.length=m:=aa;have hc1:cut (w.queues.map Queue.row) 0 m=(w.queues.map Queue.row).take m:=by rw[gL];simp
   have hc2:cut (w.queues.map Queue.row) m (w.queues.length-m)=(w.queues.map Queue.row).drop m:=by rw[gL,aC ab]
   simp[az s,hc1,hc2,hmn,fg,ew,Queue.row,hi1,Task.row];refine⟨aa,aa,aa,aa,aa,aa,λr hr=>Mz rfl r hr,aa,?_,?_,λr hr=>vj rfl r hr⟩
   ·rintro row (h|rfl|h)
    ·exact QQ (bu h)
    ·rfl
    ·exact QQ (ba h)
   ·exact(uN (by simp[hmn];omega)).symm
  have hka:m=w.queues.length:=aa;have hka2:a=w.queues.length:=aa;subst hka2;subst hka;have hz:cut (w.queues.map Queue.row) w.queues.length 0=[]:=by rw[gL];simp
  simp[hz,fg,ew,Queue.row,hi1,Task.row];refine⟨aa,aa,λr hr=>Mz rfl r hr,?_,λr hr=>vj rfl r hr⟩
  rintro row (⟨a,-,rfl⟩|rfl)<;>rfl
 by_cases p3:t.pc=3
 ·rw[lH p3]
  simp[p3,hm,bm,Task.row,hk,ew];exact λr hr=>vj rfl r hr
 ·rw[qA p0 p1 p3]
  simp[p0,p1,p3,Wld.zero,Hub.zero]
theorem DV{α:Type}{f:α->Nat}:∀{l:List α}{i:Nat}(h:i<l.length) {x:α}(_:f x=f l[i]),nL f (l.set i x)=nL f l
 | a :: l, 0, h, x, e => by
   have e':f x=f a:=e;rw[sa,oZ,oZ];omega
 | a :: l, i + 1, h, x, e => by
   have:=DV (l:=l) (i:=i) kZ (x:=x) e;rw[sb,oZ,oZ];omega
theorem MZ{w:Wld}(c:cS w){k:Nat}(hk:k<w.tasks.length)(lk:List Int)(qs:List Queue):bL (qB ⟨w.h,lk,qs,w.tasks,w.step⟩ k w.tasks[k])<=dh w.h+lk.length+nL cR qs+nL dj w.tasks+2^29:=by
 have h1:=abR w.h w.tasks[k].c;have h2:=zI (c.1 _ (aj hk)).1;have h3:=vq (f:=dj) w.tasks k ⟨w.tasks[k].c,3,w.tasks[k].inv,w.step,w.tasks[k].rs,(fDo w.h w.tasks[k].c).2⟩;have h4:dj ⟨w.tasks[k].c,3,w.tasks[k].inv,w.step,w.tasks[k].rs,(fDo w.h w.tasks[k].c).2⟩=dP w.tasks[k].c+cq (fDo w.h w.tasks[k].c).2:=rfl;unfold qB bL;exact iD
theorem A5(w:Wld)(n:Int):bL (fg w n)=bL w:=(rfl)
theorem ON{w:Wld}(c:cS w){k:Nat}(hk:k<w.tasks.length):bL (kE w k w.tasks[k])<=bL w+2^29+2^22:=by
 have h2:=c.1 _ (aj hk);have hd:=h2.1.2.1;have hset:∀pc:Int,nL dj (w.tasks.set k ⟨w.tasks[k].c,pc,w.tasks[k].inv,w.tasks[k].lin,w.tasks[k].rs,w.tasks[k].a⟩)=nL dj w.tasks:=λpc=>DV hk rfl
 by_cases q:¬w.tasks[k].c.kind=2\/w.h.shut=true\/bq w.h.docs w.tasks[k].c.doc<0
 ·rw[mn q]
  have:=MZ c hk (w.locks.set (bS w.tasks[k].c.doc w.locks.length) (-1)) w.queues;rw[lT]at this;unfold bL;unfold bL at this;omega
 ·rcases kn w.queues w.tasks[k].c.doc with⟨i,hi,e,hn⟩|e
  ·by_cases f:w.queues[i].list.length=2
   ·rw[mo q hi e f]
    have h3:=vq (f:=dj) w.tasks k ⟨w.tasks[k].c,3,w.tasks[k].inv,w.tasks[k].lin,w.tasks[k].rs,⟨11,0,[],[]⟩⟩;have h4:dj ⟨w.tasks[k].c,3,w.tasks[k].inv,w.tasks[k].lin,w.tasks[k].rs,⟨11,0,[],[]⟩⟩=dP w.tasks[k].c:=rfl;have h5:=zI h2.1;unfold bL;simp only[lT];omega
   ·rw[mm q hi e f]
    have hqa:=(aW (p:=hI w.h w.queues i) λhn=>fL hi (gE hi hn) c.2.2.2.2.2.2.2) hi;have h3:=vq (f:=cR) w.queues i ⟨w.queues[i].doc,w.queues[i].list++[(k:Int)]⟩;have h4:cR ⟨w.queues[i].doc,w.queues[i].list++[(k:Int)]⟩=w.queues[i].doc.size+(w.queues[i].list.length+1):=by unfold cR;simp
    have h6:w.queues[i].doc.size<=8:=by rw[hn];exact hd
    have h5:=hqa.2.1.2;unfold bL;simp only[lT,hset];omega
  ·rw[nF q e]
   have h3:=ir (f:=cR) (w.queues.take (bH w.tasks[k].c.doc w.queues)) (w.queues.drop (bH w.tasks[k].c.doc w.queues));rw[dI]at h3;have h4:cR ⟨w.tasks[k].c.doc,[(k:Int)]⟩=w.tasks[k].c.doc.size+1:=rfl;unfold bL;simp only[lT,hset,ir,oZ];omega
theorem UT(w:Wld)(k:Int):bL (iT w k).1<=bL w+2^30:=by
 by_cases h:cS w/\¬w.step=1000000/\(0<=k/\k<=(w.tasks.length:Int)-1)
 rotate_left
 ·rw[uH h];simp[Wld.zero,Hub.zero,bL,dh,nL,cw]
 obtain⟨c,hs,h1,h2⟩:=h;obtain⟨k,rfl⟩:∃n:Nat,k=n:=⟨k.toNat,aa⟩;have hk:k<w.tasks.length:=aa;rw[mM c hs hk];have hz:bL Wld.zero=0:=rfl;have hset:∀(pc rs:Int),nL dj (w.tasks.set k ⟨w.tasks[k].c,pc,w.tasks[k].inv,w.tasks[k].lin,rs,w.tasks[k].a⟩)=nL dj w.tasks:=λpc rs=>DV hk rfl
 by_cases p0:w.tasks[k].pc=0
 ·by_cases d:cO w.tasks[k].c.kind
  ·by_cases f:w.locks[bS w.tasks[k].c.doc w.locks.length]? = some (-1)
   ·rw[lI p0 d f]
    unfold bL;simp only[lT,hset];omega
   ·rw[qz p0 d f];simp only[hz];omega
  ·rw[jR p0 d]
   have:=MZ c hk w.locks w.queues;simp only[A5];have e:(⟨w.h,w.locks,w.queues,w.tasks,w.step⟩:Wld)=w:=rfl;rw[e]at this;have e2:bL w=dh w.h+(w.locks.length+(nL cR w.queues+(nL dj w.tasks))):=rfl;omega
 ·by_cases p1:w.tasks[k].pc=1
  ·rw[jn p1]
   have:=ON c hk;simp only[A5];omega
  ·by_cases p3:w.tasks[k].pc=3
   ·rw[lH p3]
    unfold bL;simp only[hset];omega
   ·rw[qA p0 p1 p3];simp only[hz];omega
theorem MX(w:Wld)(_:w.fits)(h:bL w<=2^20)(k:Int)(_:gn k):bL (iT w k).1<=2^36:=by
 have:=UT w k;omega
set_option maxHeartbeats 3200000
set_option maxHeartbeats 6400000
theorem VL{a b:UInt8}:a<b↔a.toNat<b.toNat:=UInt8.lt_iff_toNat_lt
theorem BJ:∀x:List UInt8,Go.Op.bytesLess x x=false
 | []=>rfl
 | a :: x => by
   have h:¬a<a:=by rw[VL];omega
   rw[Go.Op.bytesLess,BJ x];simp[h]
theorem Gx:∀x y z:List UInt8,Go.Op.bytesLess x y=true->Go.Op.bytesLess y z=true->Go.Op.bytesLess x z=true
 | [],[],_,h,_=>by simp[Go.Op.bytesLess]at h
 |_::_,[],_,h,_=>by simp[Go.Op.bytesLess]at h
 |_,_::_,[],_,h=>by simp[Go.Op.bytesLess]at h
 | [],_::_,_::_,_,_=>rfl
 | a :: x, b :: y, c :: z, h1, h2 => by
   rw[Go.Op.bytesLess]at h1 h2⊢;simp only[gf,aG,bU,lV]at h1 h2⊢;rcases h1 with h1|⟨rfl,h1⟩
   ·rcases h2 with h2|⟨rfl,h2⟩
    ·rw[VL]at h1 h2⊢;exact .inl aa
    ·exact .inl h1
   ·rcases h2 with h2|⟨rfl,h2⟩
    ·exact .inl h2
    ·exact .inr ⟨rfl,Gx x y z h1 h2⟩
theorem mF(a:ByteArray):¬sLt a a:=by unfold sLt;rw[BJ];simp
theorem NI{a b c:ByteArray}(h1:sLt a b)(h2:sLt b c):sLt a c:=Gx _ _ _ h1 h2
theorem zy{l:List Doc}{name:ByteArray}:0<=bq l name↔∃d∈l,d.name=name:=by
 constructor
 ·intro h
  rcases fI l name with⟨k,hk,-,hn⟩|e
  ·exact⟨_,aj hk,hn⟩
  ·omega
 ·rintro⟨d,hd,hn⟩
  rcases jH (λd:Doc=>d.name=name) l with⟨k,hk,e,-⟩|⟨-,h⟩
  ·unfold bq;omega
  ·obtain⟨i,hi,rfl⟩:=fb hd
   exact absurd hn (h i hi)
def XH(docs:List Doc)(q:Queue):Prop:=(1<=q.list.length/\q.list.length<=2)/\∃d∈docs,d.name=q.doc
def yh(a b:Queue):Prop:=sLt a.doc b.doc
def kX(l:List Queue):List Int:=l.flatMap Queue.list
structure QIn(docs:List Doc)(queues:List Queue)(tasks:List Task):Prop where
 one:∀q∈queues,XH docs q
 ord:queues.Pairwise yh
 may:∀q∈queues,∀k∈q.list,kr tasks q.doc k
 nodup:(kX queues).Nodup
 all:∀k,∀hk:k<tasks.length,tasks[k].pc=2->(k:Int)∈kX queues
theorem uf{tasks:List Task}{doc:ByteArray}:∀(l all m:List Int),db tasks doc all l=some m↔(∀k∈l,kr tasks doc k)/\l.Nodup/\(∀k∈l,k∉all)/\m=all++l
 | [],all,m=>by simp[db];exact⟨λh=>h.symm,λh=>h.symm⟩
 | k :: l, all, m => by
   unfold db;by_cases h:kr tasks doc k/\k∉all
   ·rw[ao h,uf l (all++[k]) m,xg]
    constructor
    ·rintro⟨h1,h2,h3,h4⟩
     refine⟨λj hj=>?_,⟨λhm=>h3 k hm ab,h2⟩,λj hj=>?_,by rw[h4];simp⟩
     ·rcases aV.1 hj with rfl|hj
      ·exact h.1
      ·exact h1 j hj
     ·rcases aV.1 hj with rfl|hj
      ·exact h.2
      ·exact λhc=>h3 j hj (by simp[hc])
    ·rintro⟨h1,⟨h2,h3⟩,h4,h5⟩
     refine⟨λj hj=>h1 j (aD _ hj),h3,λj hj hc=>?_,by rw[h5];simp⟩;rcases aO.1 hc with hc|hc
     ·exact h4 j (aD _ hj) hc
     ·simp at hc;subst hc;exact h2 hj
   ·rw[au h]
    simp only[reduceCtorEq,false_iff]
    rintro⟨h1,-,h3,-⟩
    exact h ⟨h1 k (aK ..),h3 k (aK ..)⟩
theorem E9{l:List Queue}{i:Nat}(h:i<l.length):kX (l.take (i+1))=kX (l.take i)++l[i].list:=by
 unfold kX;rw[<-bb h,BX];simp
theorem nR{w:Wld}:∀(i:Nat),i<=w.queues.length->∀all,dF w i=some all↔(∀j,j<i->hI w.h w.queues j)/\(∀q∈w.queues.take i,∀k∈q.list,kr w.tasks q.doc k)/\(kX (w.queues.take i)).Nodup/\all=kX (w.queues.take i)
 |0,_,all=>by simp[dF,kX];try exact⟨λh=>h.symm,λh=>h.symm⟩
 | i + 1, hi, all => by
   have hlt:i<w.queues.length:=aa;have ih:=nR (w:=w) i aa;have hmem:∀q,q∈w.queues.take (i+1)↔q∈w.queues.take i\/q=w.queues[i]:=λq=>by rw[<-bb hlt,aO];simp
   rw[E9 hlt];by_cases hq:hI w.h w.queues i
   rotate_left
   ·rw[gE hlt hq]
    simp only[reduceCtorEq,false_iff]
    rintro⟨h,-⟩
    exact hq (h i aa)
   have hupto:(∀j,j<i+1->hI w.h w.queues j)↔∀j,j<i->hI w.h w.queues j:=by
    constructor
    ·exact λh j hj=>h j aa
    ·intro h j hj
     by_cases e:j=i
     ·subst e;exact hq
     ·exact h j aa
   rw[hupto]
   cases e:dF w i with
   | none =>
     have hn:=mI e 1;rw[hn];simp only[reduceCtorEq,false_iff]
     rintro⟨h1,h2,h3,h4⟩
     have:dF w i=some (kX (w.queues.take i)):=(ih _).2 ⟨h1,λq hqm=>h2 q ((hmem q).2 (.inl hqm)),(List.nodup_append.1 h3).1,rfl⟩;rw[e]at this
     cases this
   | some m =>
     obtain⟨h1,h2,h3,h4⟩:=(ih m).1 e;rw[jl hlt e hq,uf,h4,List.nodup_append]
     constructor
     ·rintro⟨g1,g2,g3,g4⟩
      refine⟨h1,λq hqm=>?_,⟨h3,g2,λa ha b hb hab=>?_⟩,g4⟩
      ·rcases(hmem q).1 hqm with hqm|rfl
       ·exact h2 q hqm
       ·exact g1
      ·subst hab;exact g3 a hb ha
     ·rintro⟨-,g2,⟨g3,g4,g5⟩,g6⟩
      exact⟨g2 _ ((hmem _).2 (.inr rfl)),g4,λk hk hc=>g5 k hc k hk rfl,g6⟩
theorem ue{w:Wld}:eV w↔QIn w.h.docs w.queues w.tasks:=by
 unfold eV
 constructor
 ·rintro⟨all,h1,h2⟩
  obtain⟨g1,g2,g3,g4⟩:=(nR w.queues.length (aF _) all).1 h1;rw[cI]at g2 g3 g4;subst g4;refine⟨λq hq=>?_,vm (R:=yh) (λ_ _ _=>NI) λi hi h0=>(g1 i hi hi).1 h0,g2,g3,h2⟩;obtain⟨i,hi,rfl⟩:=fb hq;obtain⟨-,k2,k3⟩:=g1 i hi hi;exact⟨k2,zy.1 k3⟩
 ·rintro⟨h1,h2,h3,h4,h5⟩
  refine⟨kX w.queues,(nR w.queues.length (aF _) _).2 ⟨λj _ hj=>?_,?_,?_,?_⟩,h5⟩
  ·obtain⟨k1,k2⟩:=h1 _ (aj hj)
   exact⟨λh0=>BN h2 j hj h0,k1,zy.2 k2⟩
  ·rw[cI];exact h3
  ·rw[cI];exact h4
  ·rw[cI]
open Go.AM Go.RowKit
set_option maxRecDepth 100000
set_option maxHeartbeats 4000000
set_option linter.unusedVariables false
set_option linter.unusedSimpArgs false
set_option maxRecDepth 20000
set_option maxHeartbeats 6400000
theorem aZ.weak{E:Env}{id:Nat}{ops:List Oper}{Q:Exit->ASt->Prop}{st:ASt}(st2:ASt)(hw:Aa st st2)(h2:aZ E id ops Q st2):aZ E id ops Q st:=aZ.ent λ_a _w hR=>⟨st2,h2,hw.rep hR⟩
set_option maxHeartbeats 3200000
theorem lj(w:Wld)(hl:bL w<=2^30)(c:cS w)(k:Nat)(hk:k<w.tasks.length):ar Tryz.prog 32 [.agg w.row,.c (vi k)] (.one (.c (vb (¬w.step=1000000/\n8 w w.tasks[k])) 1)):=by
 refine pci aw Tryz.func32 (λw0 base=>?_);have hle:=aY (dn hl).2.2.2;obtain⟨t,ht⟩:∃t,w.tasks[k]=t:=⟨_,rfl⟩;have htk:=c.1 _ (aj hk);rw[ht]at htk⊢;have hdsz:=htk.1.2.1;have hpc:=htk.2.2.1;have hs1:=(i6 t.c.doc c.2.2.1.1).2;have hlk:=c.2.2.1;simp[Wld.row];intro b2;by_cases c2:w.step=1000000
 ·simp[c2]
 simp[c2];refine ag.pure (bT k 0 ((w.tasks.length:Int)-1)) (by simp;exact(ae _ aa).symm) ?_;have c3:0<=(k:Int)/\(k:Int)<=(w.tasks.length:Int)-1:=aa;simp[c3,hk,ht,Task.row];intro b5;by_cases p0:t.pc=0
 rotate_left
 ·by_cases p2:t.pc=2
  ·simp[p2,n8]
  by_cases p4:t.pc=4
  ·simp[p4,n8]
  simp[p0,p2,p4,n8]
 simp[p0];refine ag.pure (dY t.c.kind) ab ?_;by_cases d:cO t.c.kind
 rotate_left
 ·simp[p0,n8,d]
 simp[d];refine aZ.quiet eok mix al ?_;simp;refine⟨_,_,kB t.c.doc aa w.locks.length aa aa,ab,?_⟩;simp[hs1,n8,p0,d]
end Go.Proofs.YtklblkobegcljaaGreat
