import Derived.Test.YtmfcmlldnjffeaaPC
namespace Go.Proofs.Ytmfcmlldnjffeaa
open Go.AM
set_option maxRecDepth 20000
set_option maxHeartbeats 6400000
def oKb (q:Nat):Nat:=if q=1 then 100000 else 0
def lV (q:Nat):Nat:=if q=0 then 128 else if q=1 then 656 else 100656
theorem iO (w:Wld) (_:w.fits) (nw:be w<=2 ^ 20):ae Try.prog 5 [.agg w.row] (.one (.c (.s ((ci w).map aw)) 1)):=by
 have hl:be w<=2 ^ 30:=by omega
 have hfo:(ci w).map aw=(aF w.tasks w.tasks.length).map nR:=by unfold ci;rw [List.map_map];rfl
 rw [hfo];have hlen:=bi (dB hl).2.2.2;refine pci an Try.func5 (λw0 base=>?_);simp [Wld.row];intro b1 b8
 refine am eok (λx:Nat×Nat×Hd=>x.1<=w.tasks.length/\x.2.1<=2) (λx=>⟨57,oKb x.2.1,[(12,.v (.int .i64 x.1)),(11,.v (.int .i64 w.tasks.length)),(10,.ro (w.tasks.map Task.row)),(3,.sl (lV x.2.1) x.2.2 1 0 (aF w.tasks x.1).length),(1,.p 16 b1 0)],
  [(16,.vars b1 40 [.v (.bool w.h.shut),.ro (w.h.docs.map Doc.row),.ro (w.h.subs.map Sub.row),.v (.int .i64 w.h.last),.ro (w.locks.map aw),.ro (w.queues.map Queue.row),.ro (w.tasks.map Task.row),.v (.int .i64 w.step)]),(lV x.2.1,.rows x.2.2 1 ((aF w.tasks x.1).map nR) true)]⟩) (λx=>w.tasks.length - x.1) (0,0,some (b8,0,0)) ⟨Nat.zero_le _,Nat.zero_le _⟩ (by simp [aF,oKb,lV]) (λx hx=>Ent.refl ?_)
 obtain ⟨i,q,H⟩:=x;obtain ⟨hi,hq⟩:=hx;simp only at hi hq ⊢;obtain ⟨P,hP⟩:∃ P,aF w.tasks i=P:=⟨_,rfl⟩;have hol:=ea w.tasks i
 have hPm:∀ k,∀ h:k<P.length,P[k]<w.tasks.length:=λk h=>by
  have h1:=List.getElem_mem h;generalize P[k]=y at h1;rw [<- hP] at h1;have:=dZ h1;omega
 rw [hP] at hol ⊢;by_cases hlt:i<w.tasks.length
 rotate_left
 ·have he:i=w.tasks.length:=by omega
  subst he;rw [hP];have hc:q=0\/q=1\/q=2:=by omega
  rcases hc with rfl|rfl|rfl<;>simp [lV]
 have hpl:∀ (a:Nat),a∈P->∀ d,d∈nR a->isV d=true:=λa _ d hd=>by rw [List.mem_singleton.1 hd];rfl
 obtain ⟨t,ht⟩:∃ t,w.tasks[i]=t:=⟨_,rfl⟩;have hf:aU w.tasks i=t.lin:=by unfold aU;rw [List.getElem?_eq_getElem hlt,ht]
 have hc:q=0\/q=1\/q=2:=by omega
 rcases hc with rfl|rfl|rfl
 ·simp only [oKb,lV]
  simp [hlt,ht,Task.row];intro b5;by_cases c:t.lin = -1
  ·have ho:aF w.tasks (i+1)=P:=by rw [aF,hf,if_pos c,hP]
   simp [c];refine Ent.refl ⟨i+1,0,⟨by omega,by omega⟩,by omega,H,?_⟩;simp [ho];exact ar (by omega)
  simp [c]
  refine am eok (λj:Nat=>j<=P.length/\∀ k,j<=k->∀ h:k<P.length,aU w.tasks i<aU w.tasks P[k])
   (λj=>⟨57,0,[(6,.v (.int .i64 j)),(5,.p 80 b5 0),(4,.v (.int .i64 i)),(12,.v (.int .i64 i)),(11,.v (.int .i64 w.tasks.length)),(10,.ro (w.tasks.map Task.row)),(3,.sl 128 H 1 0 P.length),(1,.p 16 b1 0)],
   [(80,.vars b5 57 [.v (.int .i64 t.c.kind),.v (.string t.c.doc),.v (.int .i64 t.c.client),.v (.int .i64 t.c.seq),.v (.int .i64 t.c.n),.ro (t.c.o.map Part.row),.ro (t.c.text.map aw),.v (.int .i64 t.pc),.v (.int .i64 t.inv),.v (.int .i64 t.lin),.v (.int .i64 t.rs),.v (.int .i64 t.a.code),.v (.int .i64 t.a.rev),.ro (t.a.text.map aw),.ro (t.a.list.map Entry.row)]),(16,.vars b1 40 [.v (.bool w.h.shut),.ro (w.h.docs.map Doc.row),.ro (w.h.subs.map Sub.row),.v (.int .i64 w.h.last),.ro (w.locks.map aw),.ro (w.queues.map Queue.row),.ro (w.tasks.map Task.row),.v (.int .i64 w.step)]),(128,.rows H 1 (P.map nR) true)]⟩) (λj=>j) P.length ⟨Nat.le_refl _,λk h1 h2=>by omega⟩ (by simp) (λj hj=>Ent.refl ?_)
  obtain ⟨hj1,hj2⟩:=hj
  have hdone:(∀ r,r+1=j->∀ h':r<P.length,¬ aU w.tasks i<aU w.tasks P[r])->aF w.tasks (i+1)=P.take j++i::P.drop j:=λh=>by
   rw [aF,hf,if_neg c,hP,dv hj1 hj2 (λh0 h'=>h (j - 1) (by omega) h')];rfl
  rcases j with _|j
  ·have he:=hdone (λr h=>by omega)
   refine aD.quiet eok mix (by kernel_rfl) ?_;simp;intro b41;simp [cN];refine ⟨hpl,λH1 b48 H2=>⟨hpl,by omega,λH3=>?_⟩⟩;refine Ent.kb 100000 (Ent.refl ⟨i+1,1,⟨by omega,by omega⟩,by omega,H3,?_⟩);simp [he,nR];exact ⟨Go.IntWalk.i64_in _ (by omega),by omega⟩
  have hjP:j<P.length:=by omega
  have hb:=hPm j hjP;have wj2:Go.IntKind.i64.wrap (j:Int)=j:=Go.IntWalk.i64_in _ (by omega);obtain ⟨y,hy⟩:∃ y,P[j]=y:=⟨_,rfl⟩;rw [hy] at hb;obtain ⟨u,hu⟩:∃ u,w.tasks[y]=u:=⟨_,rfl⟩;have hfu:aU w.tasks y=u.lin:=by unfold aU;rw [List.getElem?_eq_getElem hb,hu]
  have k5:(0:Int)<(j:Int)+1:=by omega
  refine aD.quiet eok mix (by kernel_rfl) ?_;simp [k5,wj2,hjP,hy,nR,hb,hu,Task.row];by_cases lt:t.lin<u.lin
  ·simp [lt,wj2]
   refine Ent.refl ⟨j,⟨by omega,λk h1 h2=>?_⟩,by omega,?_⟩
   ·by_cases hk:k=j
    ·subst hk;rw [hy,hf,hfu];exact lt
    ·exact hj2 k (by omega) h2
   ·simp
  ·have he:=hdone (λr hr h'=>by
    obtain rfl:r=j:=by omega
    rw [hy,hf,hfu];exact lt)
   simp [eo lt];intro b41;have hmin:min (j+1) P.length=j+1:=by omega
   simp [cN,fV,hmin];refine ⟨by omega,by omega,hpl,by omega,λH1 b48=>⟨by omega,λH2=>⟨by omega,by omega,by omega,hpl,by omega,λH3=>?_⟩⟩⟩;refine Ent.kb 100000 (Ent.refl ⟨i+1,1,⟨by omega,by omega⟩,by omega,H3,?_⟩);simp [he,nR];exact ⟨Go.IntWalk.i64_in _ (by omega),by omega⟩
 ·simp only [oKb,lV]
  simp [hlt,ht,Task.row];intro b5;by_cases c:t.lin = -1
  ·have ho:aF w.tasks (i+1)=P:=by rw [aF,hf,if_pos c,hP]
   simp [c];refine Ent.refl ⟨i+1,1,⟨by omega,by omega⟩,by omega,H,?_⟩;simp [ho];exact ar (by omega)
  simp [c]
  refine am eok (λj:Nat=>j<=P.length/\∀ k,j<=k->∀ h:k<P.length,aU w.tasks i<aU w.tasks P[k])
   (λj=>⟨57,100000,[(6,.v (.int .i64 j)),(5,.p 100080 b5 0),(4,.v (.int .i64 i)),(12,.v (.int .i64 i)),(11,.v (.int .i64 w.tasks.length)),(10,.ro (w.tasks.map Task.row)),(3,.sl 656 H 1 0 P.length),(1,.p 16 b1 0)],
   [(100080,.vars b5 57 [.v (.int .i64 t.c.kind),.v (.string t.c.doc),.v (.int .i64 t.c.client),.v (.int .i64 t.c.seq),.v (.int .i64 t.c.n),.ro (t.c.o.map Part.row),.ro (t.c.text.map aw),.v (.int .i64 t.pc),.v (.int .i64 t.inv),.v (.int .i64 t.lin),.v (.int .i64 t.rs),.v (.int .i64 t.a.code),.v (.int .i64 t.a.rev),.ro (t.a.text.map aw),.ro (t.a.list.map Entry.row)]),(16,.vars b1 40 [.v (.bool w.h.shut),.ro (w.h.docs.map Doc.row),.ro (w.h.subs.map Sub.row),.v (.int .i64 w.h.last),.ro (w.locks.map aw),.ro (w.queues.map Queue.row),.ro (w.tasks.map Task.row),.v (.int .i64 w.step)]),(656,.rows H 1 (P.map nR) true)]⟩) (λj=>j) P.length ⟨Nat.le_refl _,λk h1 h2=>by omega⟩ (by simp) (λj hj=>Ent.refl ?_)
  obtain ⟨hj1,hj2⟩:=hj
  have hdone:(∀ r,r+1=j->∀ h':r<P.length,¬ aU w.tasks i<aU w.tasks P[r])->aF w.tasks (i+1)=P.take j++i::P.drop j:=λh=>by
   rw [aF,hf,if_neg c,hP,dv hj1 hj2 (λh0 h'=>h (j - 1) (by omega) h')];rfl
  rcases j with _|j
  ·have he:=hdone (λr h=>by omega)
   refine aD.quiet eok mix (by kernel_rfl) ?_;simp;intro b41;simp [cN];refine ⟨hpl,λH1 b48 H2=>⟨hpl,by omega,λH3=>?_⟩⟩;refine Ent.kb 0 (Ent.refl ⟨i+1,2,⟨by omega,by omega⟩,by omega,H3,?_⟩);simp [he,nR];exact ⟨Go.IntWalk.i64_in _ (by omega),by omega⟩
  have hjP:j<P.length:=by omega
  have hb:=hPm j hjP;have wj2:Go.IntKind.i64.wrap (j:Int)=j:=Go.IntWalk.i64_in _ (by omega);obtain ⟨y,hy⟩:∃ y,P[j]=y:=⟨_,rfl⟩;rw [hy] at hb;obtain ⟨u,hu⟩:∃ u,w.tasks[y]=u:=⟨_,rfl⟩;have hfu:aU w.tasks y=u.lin:=by unfold aU;rw [List.getElem?_eq_getElem hb,hu]
  have k5:(0:Int)<(j:Int)+1:=by omega
  refine aD.quiet eok mix (by kernel_rfl) ?_;simp [k5,wj2,hjP,hy,nR,hb,hu,Task.row];by_cases lt:t.lin<u.lin
  ·simp [lt,wj2]
   refine Ent.refl ⟨j,⟨by omega,λk h1 h2=>?_⟩,by omega,?_⟩
   ·by_cases hk:k=j
    ·subst hk;rw [hy,hf,hfu];exact lt
    ·exact hj2 k (by omega) h2
   ·simp
  ·have he:=hdone (λr hr h'=>by
    obtain rfl:r=j:=by omega
    rw [hy,hf,hfu];exact lt)
   simp [eo lt];intro b41;have hmin:min (j+1) P.length=j+1:=by omega
   simp [cN,fV,hmin];refine ⟨by omega,by omega,hpl,by omega,λH1 b48=>⟨by omega,λH2=>⟨by omega,by omega,by omega,hpl,by omega,λH3=>?_⟩⟩⟩;refine Ent.kb 0 (Ent.refl ⟨i+1,2,⟨by omega,by omega⟩,by omega,H3,?_⟩);simp [he,nR];exact ⟨Go.IntWalk.i64_in _ (by omega),by omega⟩
 ·simp only [oKb,lV]
  simp [hlt,ht,Task.row];intro b5;by_cases c:t.lin = -1
  ·have ho:aF w.tasks (i+1)=P:=by rw [aF,hf,if_pos c,hP]
   simp [c];refine Ent.refl ⟨i+1,2,⟨by omega,by omega⟩,by omega,H,?_⟩;simp [ho];exact ar (by omega)
  simp [c]
  refine am eok (λj:Nat=>j<=P.length/\∀ k,j<=k->∀ h:k<P.length,aU w.tasks i<aU w.tasks P[k])
   (λj=>⟨57,0,[(6,.v (.int .i64 j)),(5,.p 80 b5 0),(4,.v (.int .i64 i)),(12,.v (.int .i64 i)),(11,.v (.int .i64 w.tasks.length)),(10,.ro (w.tasks.map Task.row)),(3,.sl 100656 H 1 0 P.length),(1,.p 16 b1 0)],
   [(80,.vars b5 57 [.v (.int .i64 t.c.kind),.v (.string t.c.doc),.v (.int .i64 t.c.client),.v (.int .i64 t.c.seq),.v (.int .i64 t.c.n),.ro (t.c.o.map Part.row),.ro (t.c.text.map aw),.v (.int .i64 t.pc),.v (.int .i64 t.inv),.v (.int .i64 t.lin),.v (.int .i64 t.rs),.v (.int .i64 t.a.code),.v (.int .i64 t.a.rev),.ro (t.a.text.map aw),.ro (t.a.list.map Entry.row)]),(16,.vars b1 40 [.v (.bool w.h.shut),.ro (w.h.docs.map Doc.row),.ro (w.h.subs.map Sub.row),.v (.int .i64 w.h.last),.ro (w.locks.map aw),.ro (w.queues.map Queue.row),.ro (w.tasks.map Task.row),.v (.int .i64 w.step)]),(100656,.rows H 1 (P.map nR) true)]⟩) (λj=>j) P.length ⟨Nat.le_refl _,λk h1 h2=>by omega⟩ (by simp) (λj hj=>Ent.refl ?_)
  obtain ⟨hj1,hj2⟩:=hj
  have hdone:(∀ r,r+1=j->∀ h':r<P.length,¬ aU w.tasks i<aU w.tasks P[r])->aF w.tasks (i+1)=P.take j++i::P.drop j:=λh=>by
   rw [aF,hf,if_neg c,hP,dv hj1 hj2 (λh0 h'=>h (j - 1) (by omega) h')];rfl
  rcases j with _|j
  ·have he:=hdone (λr h=>by omega)
   refine aD.quiet eok mix (by kernel_rfl) ?_;simp;intro b41;simp [cN];refine ⟨hpl,λH1 b48 H2=>⟨hpl,by omega,λH3=>?_⟩⟩;refine Ent.kb 100000 (Ent.refl ⟨i+1,1,⟨by omega,by omega⟩,by omega,H3,?_⟩);simp [he,nR];exact ⟨Go.IntWalk.i64_in _ (by omega),by omega⟩
  have hjP:j<P.length:=by omega
  have hb:=hPm j hjP;have wj2:Go.IntKind.i64.wrap (j:Int)=j:=Go.IntWalk.i64_in _ (by omega);obtain ⟨y,hy⟩:∃ y,P[j]=y:=⟨_,rfl⟩;rw [hy] at hb;obtain ⟨u,hu⟩:∃ u,w.tasks[y]=u:=⟨_,rfl⟩;have hfu:aU w.tasks y=u.lin:=by unfold aU;rw [List.getElem?_eq_getElem hb,hu]
  have k5:(0:Int)<(j:Int)+1:=by omega
  refine aD.quiet eok mix (by kernel_rfl) ?_;simp [k5,wj2,hjP,hy,nR,hb,hu,Task.row];by_cases lt:t.lin<u.lin
  ·simp [lt,wj2]
   refine Ent.refl ⟨j,⟨by omega,λk h1 h2=>?_⟩,by omega,?_⟩
   ·by_cases hk:k=j
    ·subst hk;rw [hy,hf,hfu];exact lt
    ·exact hj2 k (by omega) h2
   ·simp
  ·have he:=hdone (λr hr h'=>by
    obtain rfl:r=j:=by omega
    rw [hy,hf,hfu];exact lt)
   simp [eo lt];intro b41;have hmin:min (j+1) P.length=j+1:=by omega
   simp [cN,fV,hmin];refine ⟨by omega,by omega,hpl,by omega,λH1 b48=>⟨by omega,λH2=>⟨by omega,by omega,by omega,hpl,by omega,λH3=>?_⟩⟩⟩;refine Ent.kb 100000 (Ent.refl ⟨i+1,1,⟨by omega,by omega⟩,by omega,H3,?_⟩);simp [he,nR];exact ⟨Go.IntWalk.i64_in _ (by omega),by omega⟩
end Go.Proofs.Ytmfcmlldnjffeaa
