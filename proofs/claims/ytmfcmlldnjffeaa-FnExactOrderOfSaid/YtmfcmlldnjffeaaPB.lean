import Derived.Test.YtmfcmlldnjffeaaPA
namespace Go.Proofs.Ytmfcmlldnjffeaa
open Go.AM
set_option maxRecDepth 20000
set_option maxHeartbeats 12800000
theorem hZ {X V Z:List Nat} {u k n:Nat} (hk:k<V.length) (hn:n=X.length+k) :
 (X++(bc u V k++Z))[n]? = some u /\ (X++(bc u V k++Z))[n+1]? = some V[k] /\ ((X++(bc u V k++Z)).set n V[k]).set (n+1) u=X++(bc u V (k+1)++Z) /\
 (X++(bc u V (k+1)++Z))[n+1]? = some u/\(X++(bc u V (k+1)++Z))[n]? = some V[k]/\((X++(bc u V (k+1)++Z)).set (n+1) V[k]).set n u=X++(bc u V k++Z):=by
 have e1:X++(bc u V k++Z)=(X++V.take k)++u::(V[k]::(V.drop (k+1)++Z)):=by
  unfold bc;rw [List.drop_eq_getElem_cons hk];simp only [List.append_assoc,List.cons_append]
 have e2:X++(bc u V (k+1)++Z)=(X++V.take k)++V[k]::(u::(V.drop (k+1)++Z)):=by
  unfold bc;rw [<- List.take_append_getElem hk];simp only [List.append_assoc,List.cons_append,List.nil_append]
 have l1:n=(X++V.take k).length:=by rw [List.length_append,List.length_take];omega
 have l2:∀ z:Nat,n+1=((X++V.take k)++[z]).length:=λz=>by rw [List.length_append,<- l1];rfl
 have sh:∀ y z:Nat,∀ B:List Nat,(X++V.take k)++y::(z::B)=((X++V.take k)++[y])++z::B:=λy z B=>by simp
 rw [e1,e2];refine ⟨fS l1,by rw [sh];exact fS (l2 _),?_,by rw [sh];exact fS (l2 _),fS l1,?_⟩
 ·rw [fM l1,sh,fM (l2 _),<- sh]
 ·rw [sh,fM (l2 _),<- sh,fM l1]
theorem jR {X V Z:List Nat} {u k:Nat} (hk:k<=V.length):(X++(bc u V k++Z)).length=X.length+V.length+1+Z.length:=by
 rw [List.length_append,List.length_append,oA hk];omega
theorem gJ {X U V Z:List Nat} {a m:Nat} (ha:X.length=a) (hm:a+U.length=m) :
 (∀ i,∀ h:i<U.length,(X++(U++(V++Z)))[a+i]? = some U[i])/\(∀ i,∀ h:i<V.length,(X++(U++(V++Z)))[m+i]? = some V[i]):=by
 subst ha;subst hm;refine ⟨λi h=>?_,λi h=>?_⟩
 ·rw [List.getElem?_append_right (by omega),Nat.add_sub_cancel_left,List.getElem?_append_left h,List.getElem?_eq_getElem h]
 ·rw [List.getElem?_append_right (by omega),List.getElem?_append_right (by omega),List.getElem?_append_left (by omega)]
  have e:X.length+U.length+i - X.length - U.length=i:=by omega
  rw [e,List.getElem?_eq_getElem h]
theorem ch {S:List Nat} {i x:Nat} (h:S[i]? = some x):∃ hi:i<S.length,S[i]=x:=List.getElem?_eq_some_iff.1 h
theorem nE {x y h:Nat} (hl:x+y<=2 ^ 42) (hh:(x+y) / 2=h):Go.IntKind.i64.wrap (Go.IntKind.u64.wrap (Go.IntKind.i64.wrap ((x:Int)+y)) / 2)=(h:Int):=by
 rw [Go.IntWalk.i64_in ((x:Int)+y) (by omega),Go.IntWalk.u64_in _ (by omega),Go.IntWalk.i64_in _ (by omega)];omega
theorem eq {w0:World} {F0 G0:Nat->Prop} {l0:Bool} {b1:Nat} {w:Wld} {H:Hd} {S:List Nat} {f:Nat->Int} (hf:∀ k,∀ hk:k<w.tasks.length,w.tasks[k].lin=f k) {x y:Nat} (hx:x<w.tasks.length) (hy:y<w.tasks.length)
 {st:ASt} {dst:Option Nat} {K:ASt->Prop} (hs:st.h=sH b1 w H S) (hK:ax ⟨st.n,st.kb,st.t,sH b1 w H S⟩ dst (.v (.int .i64 (mu (f x) (f y)))) K) :
 ag ⟨Try.prog,tt,w0,⟨F0,G0,l0,λ_=>True⟩⟩ 22 [.v (.int .i64 x),.v (.int .i64 y),.p 16 b1 0] st dst K:=by
 obtain ⟨sn,sk,stt,sh⟩:=st;simp only at hs hK;subst hs;obtain ⟨tx,htx⟩:∃ t,w.tasks[x]=t:=⟨_,rfl⟩;obtain ⟨ty,hty⟩:∃ t,w.tasks[y]=t:=⟨_,rfl⟩;have hfx:tx.lin=f x:=htx ▸ hf x hx;have hfy:ty.lin=f y:=hty ▸ hf y hy;refine inl an Try.func22 60000 (λw4 F4=>?_);simp;refine aD.quiet eok mix (by kernel_rfl) ?_;simp [hx,hy,htx,hty,Task.row,hfx,hfy];refine ⟨_,_,r8 (f x) (f y),by simp,?_⟩;simp;exact hK
theorem io {a b:Int}:dc (mu a b<0)=dc (a<b):=by
 unfold mu;by_cases h1:a<b
 ·simp [h1]
 ·by_cases h2:b<a<;>simp [h1,h2]
structure SM (f:Nat->Int) (w:Wld) (X U V Z:List Nat) (a m b L n:Nat):Prop where
 ha:X.length=a
 hm:a+U.length=m
 hb:m+V.length=b
 hU:0<U.length
 hV:0<V.length
 hn:U.length+V.length<=n
 hl:X.length+U.length+V.length+Z.length=L
 hL:L<=2 ^ 40
 su:Srt f U
 sv:Srt f V
 cr:Crs f U V
 iu:∀ x∈U,x<w.tasks.length
 iv:∀ x∈V,x<w.tasks.length
 hf:∀ k,∀ hk:k<w.tasks.length,w.tasks[k].lin=f k
def yH (f:Nat->Int) (n:Nat):Prop:=
 ∀ {w0 : World} {F0 G0 : Nat -> Prop} {l0 : Bool} {b1 : Nat} {w : Wld} {H : Hd} {X U V Z : List Nat} {a m b L : Nat}, SM f w X U V Z a m b L n -> ∀ {st : ASt} {dst : Option Nat} {K : ASt -> Prop}, st.h = sH b1 w H (X ++ (U ++ (V ++ Z))) ->
   (∀ W,Mrg f U V W -> ax ⟨st.n,st.kb,st.t,sH b1 w H (X++(W++Z))⟩ dst (.tup []) K) ->
   ag ⟨Try.prog,tt,w0,⟨F0,G0,l0,λ_=>True⟩⟩ 58 [.sl 5000 H 1 0 L,.v (.int .i64 a),.v (.int .i64 m),.v (.int .i64 b),.clo 22 [.p 16 b1 0]] st dst K
def Lo1 (f:Nat->Int) (u:Nat) (V:List Nat) (x:Nat×Nat):Prop:=x.1<=x.2/\x.2<=V.length/\(∀ t,t+1=x.1->∀ h:t<V.length,f V[t]<f u)/\(∀ t,t=x.2->∀ h:t<V.length,¬ f V[t]<f u)
def Hi1 (f:Nat->Int) (v:Nat) (U:List Nat) (x:Nat×Nat):Prop:=x.1<=x.2/\x.2<=U.length/\(∀ t,t+1=x.1->∀ h:t<U.length,¬ f v<f U[t])/\(∀ t,t=x.2->∀ h:t<U.length,f v<f U[t])
def Gn (f:Nat->Int) (U V:List Nat) (a m N lo hi:Nat) (x:Nat×Nat):Prop:=lo<=x.1/\x.1<=x.2/\x.2<=hi/\(∀ c,c+1=x.1->lo<=c->¬ f (V.getD (N - 1 - c - m) 0)<f (U.getD (c - a) 0))/\(∀ c,c=x.2->c<hi->f (V.getD (N - 1 - c - m) 0)<f (U.getD (c - a) 0))
theorem bk {l:List Nat} {i:Nat} (h:i<l.length):l.getD i 0=l[i]:=by simp [List.getD,h]
def uZ (f:Nat->Int) (n:Nat) (R:List Nat->List Nat->Nat->Nat->Nat->Prop):Prop:=
 ∀ {w0 : World} {F0 G0 : Nat -> Prop} {l0 : Bool} {b1 : Nat} {w : Wld} {H : Hd} {X U V Z : List Nat} {a m b L : Nat}, SM f w X U V Z a m b L n -> R U V a m b -> ∀ {st : ASt} {dst : Option Nat} {K : ASt -> Prop}, st.h = sH b1 w H (X ++ (U ++ (V ++ Z))) ->
   (∀ W,Mrg f U V W -> ax ⟨st.n,st.kb,st.t,sH b1 w H (X++(W++Z))⟩ dst (.tup []) K) ->
   ag ⟨Try.prog,tt,w0,⟨F0,G0,l0,λ_=>True⟩⟩ 58 [.sl 5000 H 1 0 L,.v (.int .i64 a),.v (.int .i64 m),.v (.int .i64 b),.clo 22 [.p 16 b1 0]] st dst K
theorem wY (f:Nat->Int) (n:Nat):uZ f n (λU _ _ _ _=>U.length=1):=by
 intro w0 F0 G0 l0 b1 w H X U V Z a m b L s hP st dst K hs hK;have u1:U.length=1:=hP;obtain ⟨sn,sk,stt,sh⟩:=st;simp only at hs hK;subst hs;obtain ⟨ha,hm,hb,hU,hV,hn,hl,hL,su,sv,cr,iu,iv,hf⟩:=s;refine inl an Try.func58 46000 (λw1 F=>?_);have e1:Go.IntKind.i64.wrap ((m:Int) - a)=(U.length:Int):=by rw [Go.IntWalk.i64_in _ (by omega)];omega
 have e2:Go.IntKind.i64.wrap ((b:Int) - m)=(V.length:Int):=by rw [Go.IntWalk.i64_in _ (by omega)];omega
 obtain ⟨u,rfl⟩:∃ u,U=[u]:=List.length_eq_one_iff.1 u1;have hu:=iu u (List.mem_singleton.2 rfl);obtain ⟨g1,g2⟩:=gJ (V:=V) (Z:=Z) ha hm;obtain ⟨S,hS⟩:∃ S,X++([u]++(V++Z))=S:=⟨_,rfl⟩;rw [hS] at g1 g2 ⊢;have hSL:S.length=L:=by rw [<- hS];simp at hl ⊢;omega
 obtain ⟨ka,fa⟩:=ch (g1 0 (by simp));simp only [Nat.add_zero,List.getElem_cons_zero] at ka fa;have ka':a<L:=by omega
 simp [e1]
 refine am eok (λx:Nat×Nat=>Lo1 f u V x)
  (λx=>⟨220,46000,[(10,.v (.int .i64 (m+x.1:Nat))),(11,.v (.int .i64 (m+x.2:Nat))),(0,.sl 5000 H 1 0 L),(1,.v (.int .i64 a)),(2,.v (.int .i64 m)),(3,.v (.int .i64 b)),(4,.clo 22 [.p 16 b1 0])],
  sH b1 w H S⟩) (λx=>x.2 - x.1) (0,V.length) ⟨Nat.zero_le _,Nat.le_refl _,λt h=>by simp at h,λt h h2=>by simp only at h;omega⟩ (by simp;omega) (λx hx=>Ent.refl ?_)
 obtain ⟨p,q⟩:=x;obtain ⟨x1,x2,x3,x4⟩:=hx;simp only at x1 x2 x3 x4 ⊢;by_cases c:p<q
 ·obtain ⟨t,ht⟩:∃ t,(p+q) / 2=t:=⟨_,rfl⟩
  have c':(m:Int)+p<m+q:=by omega
  have htl:t<V.length:=by omega
  obtain ⟨y,hy⟩:∃ y,V[t]=y:=⟨_,rfl⟩;have hyl:=iv y (hy ▸ List.getElem_mem _);obtain ⟨kt,ft⟩:=ch (g2 t htl);rw [hy] at ft;have kt':m+t<L:=by omega
  have kt2:(m:Int)+t<L:=by omega
  have wm:=nE (x:=m+p) (y:=m+q) (h:=m+t) (by omega) (by omega);simp only [Int.natCast_add] at wm;simp [c,wm];refine ⟨by decide,?_⟩;refine drw eok mix [0,1,2,3,4,5,6,7,8] [9,10] (.c 9 9 273 238 (.c 9 10 0 238 (.l 9 238) .s) .s) ?_;simp [hSL,fa,ft,ka',kt',kt2,nR]
  try intros
  refine eq hf hyl hu rfl ?_;simp
  try intros
  rw [io];by_cases lt:f y<f u
  ·have w1:Go.IntKind.i64.wrap ((m:Int)+t+1)=(m:Int)+(t+1:Nat):=by rw [Go.IntWalk.i64_in _ (by omega)];omega
   simp [lt,w1];refine Ent.refl ⟨t+1,q,⟨by simp only;omega,x2,λr hr h=>?_,x4⟩,by omega,?_⟩
   ·have:r=t:=by simp only at hr;omega
    subst this;rw [hy];exact lt
   ·simp
  ·simp [eo lt]
   refine Ent.refl ⟨p,t,⟨by simp only;omega,by simp only;omega,x3,λr hr h=>?_⟩,by omega,?_⟩
   ·simp only at hr
    subst hr;rw [hy];exact lt
   ·simp
 ·have hpq:p=q:=by omega
  subst hpq;have c':¬ (m:Int)+p<m+p:=by omega
  simp;have w1:Go.IntKind.i64.wrap ((m:Int)+p - 1)=(a:Int)+p:=by rw [Go.IntWalk.i64_in _ (by simp at hm;omega)];simp at hm;omega
  refine am eok (λk:Nat=>k<=p) (λk=>⟨220,46000,[(13,.v (.int .i64 (a+k:Nat))),(10,.v (.int .i64 (m+p:Nat))),(0,.sl 5000 H 1 0 L)],sH b1 w H (X++(bc u V k++Z))⟩) (λk=>p - k) 0 (by omega) (by rw [<- hS];simp [bc]) (λk hk=>Ent.refl ?_);by_cases c2:k<p
  rotate_left
  ·have:k=p:=by omega
   subst this;simp [w1];exact hK _ (pt sv cr (by omega) x3 x4)
  have hkl:k<V.length:=by omega
  obtain ⟨y,hy⟩:∃ y,V[k]=y:=⟨_,rfl⟩;obtain ⟨i1,i2,i3,-,-,-⟩:=hZ (X:=X) (Z:=Z) (u:=u) hkl (n:=a+k) (by omega);have hTl:=jR (X:=X) (Z:=Z) (u:=u) (V:=V) (k:=k) (by omega);obtain ⟨T,hT⟩:∃ T,X++(bc u V k++Z)=T:=⟨_,rfl⟩;rw [hT] at i1 i2 i3 hTl ⊢;rw [hy] at i2 i3;obtain ⟨k1,f1⟩:=ch i1;obtain ⟨k2,f2⟩:=ch i2;have hTL:T.length=L:=by rw [hTl];simp at hl;omega
  have k3:a+k<L:=by omega
  have k4:a+k+1<L:=by omega
  have k5:(a:Int)+k<L:=by omega
  have k6:(a:Int)+k+1<L:=by omega
  have k7:(0:Int)<=(a:Int)+k+1:=by omega
  have k8:((a:Int)+k+1).toNat=a+k+1:=by omega
  have w2:Go.IntKind.i64.wrap ((a:Int)+k+1)=((a+k+1:Nat):Int):=by rw [Go.IntWalk.i64_in _ (by omega)];omega
  simp [w1,c2];refine drw eok mix [0,1,2,3,4,5,6,7,8,9,10,11,12,13,14,16] [15,17] (.c 16 15 51142 14393 (.c 16 17 14393 0 (.l 16 0) .s) .s) ?_;simp [hTL,f1,f2,k3,k4,k5,k6,k7,k8,w2,nR]
  try intros
  have g4:=congrArg (List.map nR) i3;rw [List.map_set,List.map_set] at g4;refine Ent.refl ⟨k+1,by omega,by omega,?_⟩;simp [<- g4,nR]
  try omega
theorem wX (f:Nat->Int) (n:Nat):uZ f n (λU V _ _ _=>¬ U.length=1/\V.length=1):=by
 intro w0 F0 G0 l0 b1 w H X U V Z a m b L s hP st dst K hs hK;obtain ⟨u1,v1⟩:=hP;obtain ⟨sn,sk,stt,sh⟩:=st;simp only at hs hK;subst hs;obtain ⟨ha,hm,hb,hU,hV,hn,hl,hL,su,sv,cr,iu,iv,hf⟩:=s;refine inl an Try.func58 46000 (λw1 F=>?_);have e1:Go.IntKind.i64.wrap ((m:Int) - a)=(U.length:Int):=by rw [Go.IntWalk.i64_in _ (by omega)];omega
 have e2:Go.IntKind.i64.wrap ((b:Int) - m)=(V.length:Int):=by rw [Go.IntWalk.i64_in _ (by omega)];omega
 have u1':¬ (U.length:Int)=1:=by omega
 obtain ⟨v,rfl⟩:∃ v,V=[v]:=List.length_eq_one_iff.1 v1;have hv:=iv v (List.mem_singleton.2 rfl);obtain ⟨g1,g2⟩:=gJ (V:=[v]) (Z:=Z) ha hm;obtain ⟨S,hS⟩:∃ S,X++(U++([v]++Z))=S:=⟨_,rfl⟩;rw [hS] at g1 g2 ⊢;have hSL:S.length=L:=by rw [<- hS];simp at hl ⊢;omega
 obtain ⟨km,fm⟩:=ch (g2 0 (by simp));simp only [Nat.add_zero,List.getElem_cons_zero] at km fm;have km':m<L:=by omega
 simp [e1,e2,u1']
 refine am eok (λx:Nat×Nat=>Hi1 f v U x)
  (λx=>⟨220,46000,[(14,.v (.int .i64 (a+x.1:Nat))),(15,.v (.int .i64 (a+x.2:Nat))),(0,.sl 5000 H 1 0 L),(1,.v (.int .i64 a)),(2,.v (.int .i64 m)),(3,.v (.int .i64 b)),(4,.clo 22 [.p 16 b1 0])],
  sH b1 w H S⟩) (λx=>x.2 - x.1) (0,U.length) ⟨Nat.zero_le _,Nat.le_refl _,λt h=>by simp at h,λt h h2=>by simp only at h;omega⟩ (by simp;omega) (λx hx=>Ent.refl ?_)
 obtain ⟨p,q⟩:=x;obtain ⟨x1,x2,x3,x4⟩:=hx;simp only at x1 x2 x3 x4 ⊢;by_cases c:p<q
 ·obtain ⟨t,ht⟩:∃ t,(p+q) / 2=t:=⟨_,rfl⟩
  have htl:t<U.length:=by omega
  obtain ⟨y,hy⟩:∃ y,U[t]=y:=⟨_,rfl⟩;have hyl:=iu y (hy ▸ List.getElem_mem _);obtain ⟨kt,ft⟩:=ch (g1 t htl);rw [hy] at ft;have kt':a+t<L:=by omega
  have kt2:(a:Int)+t<L:=by omega
  have wm:=nE (x:=a+p) (y:=a+q) (h:=a+t) (by omega) (by omega);simp only [Int.natCast_add] at wm;simp [c,wm];refine ⟨by decide,?_⟩;refine drw eok mix [0,1,2,3,4,5,6,7,8] [9,10,11] (.c 9 9 273 238 (.c 9 10 0 238 (.c 9 11 0 238 (.l 9 238) .s) .s) .s) ?_;simp [hSL,fm,ft,km',kt',kt2,nR]
  try intros
  refine eq hf hv hyl rfl ?_;simp
  try intros
  rw [io];by_cases lt:f v<f y
  ·simp [lt]
   refine Ent.refl ⟨p,t,⟨by simp only;omega,by simp only;omega,x3,λr hr h=>?_⟩,by omega,?_⟩
   ·simp only at hr
    subst hr;rw [hy];exact lt
   ·simp
  ·have w1:Go.IntKind.i64.wrap ((a:Int)+t+1)=(a:Int)+(t+1:Nat):=by rw [Go.IntWalk.i64_in _ (by omega)];omega
   simp [eo lt,w1];refine Ent.refl ⟨t+1,q,⟨by simp only;omega,x2,λr hr h=>?_,x4⟩,by omega,?_⟩
   ·have:r=t:=by simp only at hr;omega
    subst this;rw [hy];exact lt
   ·simp
 ·have hpq:p=q:=by omega
  subst hpq;simp;refine am eok (λk:Nat=>p<=k/\k<=U.length) (λk=>⟨220,46000,[(17,.v (.int .i64 (a+k:Nat))),(14,.v (.int .i64 (a+p:Nat))),(0,.sl 5000 H 1 0 L)],sH b1 w H (X++(bc v U k++Z))⟩) (λk=>k) U.length ⟨by omega,Nat.le_refl _⟩ (by rw [<- hS];simp [bc];omega) (λk hk=>Ent.refl ?_);by_cases c2:p<k
  rotate_left
  ·have:k=p:=by omega
   subst this;simp;exact hK _ (Mrg.back su cr (by omega) x3 x4)
  obtain ⟨j,rfl⟩:∃ j,k=j+1:=⟨k - 1,by omega⟩;have hkl:j<U.length:=by omega
  obtain ⟨y,hy⟩:∃ y,U[j]=y:=⟨_,rfl⟩;obtain ⟨-,-,-,i1,i2,i3⟩:=hZ (X:=X) (Z:=Z) (u:=v) hkl (n:=a+j) (by omega);have hTl:=jR (X:=X) (Z:=Z) (u:=v) (V:=U) (k:=j+1) (by omega);obtain ⟨T,hT⟩:∃ T,X++(bc v U (j+1)++Z)=T:=⟨_,rfl⟩;rw [hT] at i1 i2 i3 hTl ⊢;rw [hy] at i2 i3;obtain ⟨k1,f1⟩:=ch i1;obtain ⟨k2,f2⟩:=ch i2;have hTL:T.length=L:=by rw [hTl];simp at hl;omega
  have k3:a+j<L:=by omega
  have k4:a+(j+1)<L:=by omega
  have k4':a+j+1<L:=by omega
  have k5:(a:Int)+j<L:=by omega
  have k6:(a:Int)+(j+1)<L:=by omega
  have k7:(0:Int)<=(a:Int)+(j+1):=by omega
  have k8:((a:Int)+(j+1)).toNat=a+j+1:=by omega
  have k9:(p:Int)<j+1:=by omega
  have w2:Go.IntKind.i64.wrap ((a:Int)+(j+1) - 1)=((a+j:Nat):Int):=by rw [Go.IntWalk.i64_in _ (by omega)];omega
  simp [k9];refine drw eok mix [0,1,2,3,4,5,6,7,8,9,10,11,12,13,14,16] [15,17] (.c 16 15 51142 14393 (.c 16 17 14393 0 (.l 16 0) .s) .s) ?_;simp [hTL,f1,f2,k3,k4',k5,k6,k7,k8,w2,nR]
  try intros
  have g4:=congrArg (List.map nR) i3;rw [List.map_set,List.map_set] at g4;refine Ent.refl ⟨j,⟨by omega,by omega⟩,by omega,?_⟩;simp [<- g4,nR]
  try omega
theorem wW (f:Nat->Int) (n:Nat) (ih:yH f n):uZ f (n+1) (λU V a m b=>¬ U.length=1/\¬ V.length=1/\(a+b) / 2<m):=by
 intro w0 F0 G0 l0 b1 w H X U V Z a m b L s hP st dst K hs hK;obtain ⟨u1,v1,cM0⟩:=hP;obtain ⟨sn,sk,stt,sh⟩:=st;simp only at hs hK;subst hs;obtain ⟨ha,hm,hb,hU,hV,hn,hl,hL,su,sv,cr,iu,iv,hf⟩:=s;refine inl an Try.func58 46000 (λw1 F=>?_);have e1:Go.IntKind.i64.wrap ((m:Int) - a)=(U.length:Int):=by rw [Go.IntWalk.i64_in _ (by omega)];omega
 have e2:Go.IntKind.i64.wrap ((b:Int) - m)=(V.length:Int):=by rw [Go.IntWalk.i64_in _ (by omega)];omega
 have u1':¬ (U.length:Int)=1:=by omega
 have v1':¬ (V.length:Int)=1:=by omega
 obtain ⟨g1,g2⟩:=gJ (V:=V) (Z:=Z) ha hm;obtain ⟨S,hS⟩:∃ S,X++(U++(V++Z))=S:=⟨_,rfl⟩;rw [hS] at g1 g2 ⊢;have hSL:S.length=L:=by rw [<- hS];simp at hl ⊢;omega
 obtain ⟨M,hM⟩:∃ M,(a+b) / 2=M:=⟨_,rfl⟩;obtain ⟨N,hN⟩:∃ N,M+m=N:=⟨_,rfl⟩;have wm:=nE (x:=a) (y:=b) (h:=M) (by omega) (by omega);have wn:Go.IntKind.i64.wrap ((M:Int)+m)=(N:Int):=by rw [Go.IntWalk.i64_in _ (by omega)];omega
 have wp:Go.IntKind.i64.wrap ((N:Int) - 1)=((N - 1:Nat):Int):=by rw [Go.IntWalk.i64_in _ (by omega)];omega
 have cM:M<m:=by omega
 have cM':(M:Int)<m:=by omega
 have ws:Go.IntKind.i64.wrap ((N:Int) - b)=((N - b:Nat):Int):=by rw [Go.IntWalk.i64_in _ (by omega)];omega
 simp [e1,e2,u1',v1',wm,wn,wp,ws,cM];refine ⟨by decide,?_⟩;obtain ⟨lo,hlo⟩:∃ lo,N - b=lo:=⟨_,rfl⟩;obtain ⟨hi,hhi⟩:∃ hi,M=hi:=⟨_,rfl⟩
 refine am eok (λx:Nat×Nat=>Gn f U V a m N lo hi x)
  (λx=>⟨220,46000,[(20,.v (.int .i64 (x.1:Nat))),(21,.v (.int .i64 (x.2:Nat))),(22,.v (.int .i64 ((N - 1:Nat):Int))),(19,.v (.int .i64 N)),(18,.v (.int .i64 M)),(0,.sl 5000 H 1 0 L),(1,.v (.int .i64 a)),(2,.v (.int .i64 m)),(3,.v (.int .i64 b)),(4,.clo 22 [.p 16 b1 0])],
  sH b1 w H S⟩) (λx=>x.2 - x.1) (lo,hi) ⟨Nat.le_refl _,by simp only;omega,Nat.le_refl _,λt h h2=>by simp only at h;omega,λt h h2=>by simp only at h;omega⟩ (by subst hlo;subst hhi;simp) (λx hx=>Ent.refl ?_)
 obtain ⟨s,r⟩:=x;obtain ⟨x0,x1,x2,x3,x4⟩:=hx;simp only at x0 x1 x2 x3 x4 ⊢;by_cases c:s<r
 ·obtain ⟨t,ht⟩:∃ t,(s+r) / 2=t:=⟨_,rfl⟩
  have tu:t - a<U.length:=by omega
  have tv:N - 1 - t - m<V.length:=by omega
  obtain ⟨y,hy⟩:∃ y,U[t - a]=y:=⟨_,rfl⟩;obtain ⟨z,hz⟩:∃ z,V[N - 1 - t - m]=z:=⟨_,rfl⟩;have hyl:=iu y (hy ▸ List.getElem_mem _);have hzl:=iv z (hz ▸ List.getElem_mem _);obtain ⟨ky,fy⟩:=ch (g1 _ tu);obtain ⟨kz,fz⟩:=ch (g2 _ tv);have ey:a+(t - a)=t:=by omega
  have ez:m+(N - 1 - t - m)=N - 1 - t:=by omega
  simp only [ey] at ky fy;simp only [ez] at kz fz;rw [hy] at fy;rw [hz] at fz;have q1:t<L:=by omega
  have q2:N - 1 - t<L:=by omega
  have q3:((N - 1 - t:Nat):Int)<L:=by omega
  have q4:(t:Int)<L:=by omega
  have wm:=nE (x:=s) (y:=r) (h:=t) (by omega) (by omega);have w4:Go.IntKind.i64.wrap (((N - 1:Nat):Int) - t)=((N - 1 - t:Nat):Int):=by rw [Go.IntWalk.i64_in _ (by omega)];omega
  simp [c,wm];refine ⟨by decide,?_⟩;refine drw eok mix [0,1,2,3,4,5,6,7,8,9,10] [11,12,13] (.c 11 11 1041 1006 (.c 11 12 0 1006 (.c 11 13 0 1006 (.l 11 1006) .s) .s) .s) ?_;simp [hSL,fy,fz,q1,q2,q3,q4,w4,nR]
  try intros
  refine eq hf hzl hyl rfl ?_;simp
  try intros
  rw [io];by_cases lt:f z<f y
  ·simp [lt]
   refine Ent.refl ⟨s,t,⟨x0,by simp only;omega,by simp only;omega,x3,λc0 hr h=>?_⟩,by omega,?_⟩
   ·simp only at hr
    subst hr;rw [bk tu,bk tv,hy,hz];exact lt
   ·simp
  ·have w1:Go.IntKind.i64.wrap ((t:Int)+1)=((t+1:Nat):Int):=by rw [Go.IntWalk.i64_in _ (by omega)];omega
   simp [eo lt,w1];refine Ent.refl ⟨t+1,r,⟨by simp only;omega,by simp only;omega,x2,λc0 hr h=>?_,x4⟩,by omega,?_⟩
   ·have:c0=t:=by simp only at hr;omega
    subst this;rw [bk tu,bk tv,hy,hz];exact lt
   ·simp
 ·have hsr:s=r:=by omega
  subst hsr;obtain ⟨e,he⟩:∃ e,N - s=e:=⟨_,rfl⟩;have w5:Go.IntKind.i64.wrap ((N:Int) - s)=(e:Int):=by rw [Go.IntWalk.i64_in _ (by omega)];omega
  obtain ⟨U1,hU1⟩:∃ l,U.take (s - a)=l:=⟨_,rfl⟩;obtain ⟨U2,hU2⟩:∃ l,U.drop (s - a)=l:=⟨_,rfl⟩;obtain ⟨V1,hV1⟩:∃ l,V.take (M - s)=l:=⟨_,rfl⟩;obtain ⟨V2,hV2⟩:∃ l,V.drop (M - s)=l:=⟨_,rfl⟩;have lU1:U1.length=s - a:=by rw [<- hU1,List.length_take];omega
  have lU2:U2.length=U.length - (s - a):=by rw [<- hU2,List.length_drop]
  have lV1:V1.length=M - s:=by rw [<- hV1,List.length_take];omega
  have lV2:V2.length=V.length - (M - s):=by rw [<- hV2,List.length_drop]
  have sU1:Srt f U1:=hU1 ▸ su.take _;have sU2:Srt f U2:=hU2 ▸ su.drop _;have sV1:Srt f V1:=hV1 ▸ sv.take _;have sV2:Srt f V2:=hV2 ▸ sv.drop _;have mU1:∀ x∈U1,x∈U:=λx h=>List.mem_of_mem_take (hU1 ▸ h)
  have mU2:∀ x∈U2,x∈U:=λx h=>List.mem_of_mem_drop (hU2 ▸ h)
  have mV1:∀ x∈V1,x∈V:=λx h=>List.mem_of_mem_take (hV1 ▸ h)
  have mV2:∀ x∈V2,x∈V:=λx h=>List.mem_of_mem_drop (hV2 ▸ h)
  have cr1:=cr.sub mU1 mV1;have cr2:=cr.sub mU2 mV2;have iU1:∀ x∈U1,x<w.tasks.length:=λx h=>iu x (mU1 x h)
  have iU2:∀ x∈U2,x<w.tasks.length:=λx h=>iu x (mU2 x h)
  have iV1:∀ x∈V1,x<w.tasks.length:=λx h=>iv x (mV1 x h)
  have iV2:∀ x∈V2,x<w.tasks.length:=λx h=>iv x (mV2 x h)
  have eU:U1++U2=U:=by rw [<- hU1,<- hU2,List.take_append_drop]
  have eV:V1++V2=V:=by rw [<- hV1,<- hV2,List.take_append_drop]
  have fin:∀ W1 W2,Mrg f U1 V1 W1->Mrg f U2 V2 W2->Mrg f U V (W1++W2):=λW1 W2 m1 m2=>by
   subst hU1;subst hU2;subst hV1;subst hV2;refine Mrg.parts su sv cr (by omega) (by omega) (λi j h1 h2 h3 h4=>?_) (λi j h1 h2 h3 h4=>?_) m1 m2
   ·have:=x3 (s - 1) (by omega) (by omega)
    have ej:N - 1 - (s - 1) - m=j:=by omega
    have ei:s - 1 - a=i:=by omega
    rw [ej,ei,bk h2,bk h4] at this;exact this
   ·have:=x4 s rfl (by omega)
    have ej:N - 1 - s - m=j:=by omega
    have ei:s - a=i:=by omega
    rw [ej,ei,bk h2,bk h4] at this;exact this
  simp [w5];by_cases c1:s<m/\m<e
  ·have c1':(s:Int)<m:=by omega
   have c2':(m:Int)<e:=by omega
   simp [c1.1,c1',c2'];rw [<- hS,<- eU,<- eV];refine ga (w:=w) (X:=X++U1) (U:=U2) (V:=V1) (Z:=V2++Z) (by simp;omega) (by omega) (by omega) (by omega) (by omega) (by simp;omega) hL (by simp) ?_;simp;by_cases c3:a<s
   ·have c3':(a:Int)<s:=by omega
    by_cases c4:s<M
    ·have c4':(s:Int)<M:=by omega
     simp [c3,c3',c4'];refine ih (w:=w) (X:=X) (U:=U1) (V:=V1) (Z:=U2++(V2++Z)) (a:=a) (m:=s) (b:=M) ⟨ha,by omega,by omega,by omega,by omega,by omega,by simp;omega,hL,sU1,sV1,cr1,iU1,iV1,hf⟩ (by simp) (λW1 hW1=>?_);simp;have lW:=(hW1).2.length_eq;simp only [List.length_append] at lW;by_cases c5:M<e
     ·have c5':(M:Int)<e:=by omega
      by_cases c6:e<b
      ·have c6':(e:Int)<b:=by omega
       simp [c5,c5',c6'];refine ih (w:=w) (X:=X++W1) (U:=U2) (V:=V2) (Z:=Z) (a:=M) (m:=e) (b:=b) ⟨by simp;omega,by omega,by omega,by omega,by omega,by omega,by simp;omega,hL,sU2,sV2,cr2,iU2,iV2,hf⟩ (by simp) (λW2 hW2=>?_);have hq:=hK (W1++W2) (fin _ _ (hW1) hW2)
       simpa using hq
      ·have c6':¬ (e:Int)<b:=by omega
       simp [c5,c5',c6'];have z:V2=[]:=List.length_eq_zero_iff.1 (by omega);have hq:=hK (W1++U2) (fin _ _ (hW1) (by rw [z];exact Mrg.left sU2))
       simpa [z] using hq
     ·have c5':¬ (M:Int)<e:=by omega
      simp [c5,c5'];have z:U2=[]:=List.length_eq_zero_iff.1 (by omega);have hq:=hK (W1++V2) (fin _ _ (hW1) (by rw [z];exact Mrg.right sV2))
      simpa [z] using hq
    ·have c4':¬ (s:Int)<M:=by omega
     simp [c3,c3',c4'];have z1:V1=[]:=List.length_eq_zero_iff.1 (by omega);subst z1;have hz:Mrg f U1 [] U1:=Mrg.left sU1;have lW:=(hz).2.length_eq;simp only [List.length_append] at lW;by_cases c5:M<e
     ·have c5':(M:Int)<e:=by omega
      by_cases c6:e<b
      ·have c6':(e:Int)<b:=by omega
       simp [c5,c5',c6'];refine ih (w:=w) (X:=X++U1) (U:=U2) (V:=V2) (Z:=Z) (a:=M) (m:=e) (b:=b) ⟨by simp;omega,by omega,by omega,by omega,by omega,by omega,by simp;omega,hL,sU2,sV2,cr2,iU2,iV2,hf⟩ (by simp) (λW2 hW2=>?_);have hq:=hK (U1++W2) (fin _ _ (hz) hW2)
       simpa using hq
      ·have c6':¬ (e:Int)<b:=by omega
       simp [c5,c5',c6'];have z:V2=[]:=List.length_eq_zero_iff.1 (by omega);have hq:=hK (U1++U2) (fin _ _ (hz) (by rw [z];exact Mrg.left sU2))
       simpa [z] using hq
     ·have c5':¬ (M:Int)<e:=by omega
      simp [c5,c5'];have z:U2=[]:=List.length_eq_zero_iff.1 (by omega);have hq:=hK (U1++V2) (fin _ _ (hz) (by rw [z];exact Mrg.right sV2))
      simpa [z] using hq
   ·have c3':¬ (a:Int)<s:=by omega
    simp [c3,c3'];have z1:U1=[]:=List.length_eq_zero_iff.1 (by omega);subst z1;have hz:Mrg f [] V1 V1:=Mrg.right sV1;have lW:=(hz).2.length_eq;simp only [List.length_append] at lW;by_cases c5:M<e
    ·have c5':(M:Int)<e:=by omega
     by_cases c6:e<b
     ·have c6':(e:Int)<b:=by omega
      simp [c5,c5',c6'];refine ih (w:=w) (X:=X++V1) (U:=U2) (V:=V2) (Z:=Z) (a:=M) (m:=e) (b:=b) ⟨by simp;omega,by omega,by omega,by omega,by omega,by omega,by simp;omega,hL,sU2,sV2,cr2,iU2,iV2,hf⟩ (by simp) (λW2 hW2=>?_);have hq:=hK (V1++W2) (fin _ _ (hz) hW2)
      simpa using hq
     ·have c6':¬ (e:Int)<b:=by omega
      simp [c5,c5',c6'];have z:V2=[]:=List.length_eq_zero_iff.1 (by omega);have hq:=hK (V1++U2) (fin _ _ (hz) (by rw [z];exact Mrg.left sU2))
      simpa [z] using hq
    ·have c5':¬ (M:Int)<e:=by omega
     simp [c5,c5'];have z:U2=[]:=List.length_eq_zero_iff.1 (by omega);have hq:=hK (V1++V2) (fin _ _ (hz) (by rw [z];exact Mrg.right sV2))
     simpa [z] using hq
  ·have hR:S=X++(U1++(V1++(U2++(V2++Z)))):=by
    rw [<- hS,<- eU,<- eV]
    have:U2=[]\/V1=[]:=by
     by_cases q:s<m
     ·exact .inr (List.length_eq_zero_iff.1 (by omega))
     ·exact .inl (List.length_eq_zero_iff.1 (by omega))
    rcases this with q|q<;>simp [q]
   rw [hR];by_cases c1':s<m
   ·have c2':¬ m<e:=by omega
    have c1'':(s:Int)<m:=by omega
    have c2'':¬ (m:Int)<e:=by omega
    simp [c1',c1'',c2''];by_cases c3:a<s
    ·have c3':(a:Int)<s:=by omega
     by_cases c4:s<M
     ·have c4':(s:Int)<M:=by omega
      simp [c3,c3',c4'];refine ih (w:=w) (X:=X) (U:=U1) (V:=V1) (Z:=U2++(V2++Z)) (a:=a) (m:=s) (b:=M) ⟨ha,by omega,by omega,by omega,by omega,by omega,by simp;omega,hL,sU1,sV1,cr1,iU1,iV1,hf⟩ (by simp) (λW1 hW1=>?_);simp;have lW:=(hW1).2.length_eq;simp only [List.length_append] at lW;by_cases c5:M<e
      ·have c5':(M:Int)<e:=by omega
       by_cases c6:e<b
       ·have c6':(e:Int)<b:=by omega
        simp [c5,c5',c6'];refine ih (w:=w) (X:=X++W1) (U:=U2) (V:=V2) (Z:=Z) (a:=M) (m:=e) (b:=b) ⟨by simp;omega,by omega,by omega,by omega,by omega,by omega,by simp;omega,hL,sU2,sV2,cr2,iU2,iV2,hf⟩ (by simp) (λW2 hW2=>?_);have hq:=hK (W1++W2) (fin _ _ (hW1) hW2)
        simpa using hq
       ·have c6':¬ (e:Int)<b:=by omega
        simp [c5,c5',c6'];have z:V2=[]:=List.length_eq_zero_iff.1 (by omega);have hq:=hK (W1++U2) (fin _ _ (hW1) (by rw [z];exact Mrg.left sU2))
        simpa [z] using hq
      ·have c5':¬ (M:Int)<e:=by omega
       simp [c5,c5'];have z:U2=[]:=List.length_eq_zero_iff.1 (by omega);have hq:=hK (W1++V2) (fin _ _ (hW1) (by rw [z];exact Mrg.right sV2))
       simpa [z] using hq
     ·have c4':¬ (s:Int)<M:=by omega
      simp [c3,c3',c4'];have z1:V1=[]:=List.length_eq_zero_iff.1 (by omega);subst z1;have hz:Mrg f U1 [] U1:=Mrg.left sU1;have lW:=(hz).2.length_eq;simp only [List.length_append] at lW;by_cases c5:M<e
      ·have c5':(M:Int)<e:=by omega
       by_cases c6:e<b
       ·have c6':(e:Int)<b:=by omega
        simp [c5,c5',c6'];refine ih (w:=w) (X:=X++U1) (U:=U2) (V:=V2) (Z:=Z) (a:=M) (m:=e) (b:=b) ⟨by simp;omega,by omega,by omega,by omega,by omega,by omega,by simp;omega,hL,sU2,sV2,cr2,iU2,iV2,hf⟩ (by simp) (λW2 hW2=>?_);have hq:=hK (U1++W2) (fin _ _ (hz) hW2)
        simpa using hq
       ·have c6':¬ (e:Int)<b:=by omega
        simp [c5,c5',c6'];have z:V2=[]:=List.length_eq_zero_iff.1 (by omega);have hq:=hK (U1++U2) (fin _ _ (hz) (by rw [z];exact Mrg.left sU2))
        simpa [z] using hq
      ·have c5':¬ (M:Int)<e:=by omega
       simp [c5,c5'];have z:U2=[]:=List.length_eq_zero_iff.1 (by omega);have hq:=hK (U1++V2) (fin _ _ (hz) (by rw [z];exact Mrg.right sV2))
       simpa [z] using hq
    ·have c3':¬ (a:Int)<s:=by omega
     simp [c3,c3'];have z1:U1=[]:=List.length_eq_zero_iff.1 (by omega);subst z1;have hz:Mrg f [] V1 V1:=Mrg.right sV1;have lW:=(hz).2.length_eq;simp only [List.length_append] at lW;by_cases c5:M<e
     ·have c5':(M:Int)<e:=by omega
      by_cases c6:e<b
      ·have c6':(e:Int)<b:=by omega
       simp [c5,c5',c6'];refine ih (w:=w) (X:=X++V1) (U:=U2) (V:=V2) (Z:=Z) (a:=M) (m:=e) (b:=b) ⟨by simp;omega,by omega,by omega,by omega,by omega,by omega,by simp;omega,hL,sU2,sV2,cr2,iU2,iV2,hf⟩ (by simp) (λW2 hW2=>?_);have hq:=hK (V1++W2) (fin _ _ (hz) hW2)
       simpa using hq
      ·have c6':¬ (e:Int)<b:=by omega
       simp [c5,c5',c6'];have z:V2=[]:=List.length_eq_zero_iff.1 (by omega);have hq:=hK (V1++U2) (fin _ _ (hz) (by rw [z];exact Mrg.left sU2))
       simpa [z] using hq
     ·have c5':¬ (M:Int)<e:=by omega
      simp [c5,c5'];have z:U2=[]:=List.length_eq_zero_iff.1 (by omega);have hq:=hK (V1++V2) (fin _ _ (hz) (by rw [z];exact Mrg.right sV2))
      simpa [z] using hq
   ·have c1'':¬ (s:Int)<m:=by omega
    simp [c1',c1''];by_cases c3:a<s
    ·have c3':(a:Int)<s:=by omega
     by_cases c4:s<M
     ·have c4':(s:Int)<M:=by omega
      simp [c3,c3',c4'];refine ih (w:=w) (X:=X) (U:=U1) (V:=V1) (Z:=U2++(V2++Z)) (a:=a) (m:=s) (b:=M) ⟨ha,by omega,by omega,by omega,by omega,by omega,by simp;omega,hL,sU1,sV1,cr1,iU1,iV1,hf⟩ (by simp) (λW1 hW1=>?_);simp;have lW:=(hW1).2.length_eq;simp only [List.length_append] at lW;by_cases c5:M<e
      ·have c5':(M:Int)<e:=by omega
       by_cases c6:e<b
       ·have c6':(e:Int)<b:=by omega
        simp [c5,c5',c6'];refine ih (w:=w) (X:=X++W1) (U:=U2) (V:=V2) (Z:=Z) (a:=M) (m:=e) (b:=b) ⟨by simp;omega,by omega,by omega,by omega,by omega,by omega,by simp;omega,hL,sU2,sV2,cr2,iU2,iV2,hf⟩ (by simp) (λW2 hW2=>?_);have hq:=hK (W1++W2) (fin _ _ (hW1) hW2)
        simpa using hq
       ·have c6':¬ (e:Int)<b:=by omega
        simp [c5,c5',c6'];have z:V2=[]:=List.length_eq_zero_iff.1 (by omega);have hq:=hK (W1++U2) (fin _ _ (hW1) (by rw [z];exact Mrg.left sU2))
        simpa [z] using hq
      ·have c5':¬ (M:Int)<e:=by omega
       simp [c5,c5'];have z:U2=[]:=List.length_eq_zero_iff.1 (by omega);have hq:=hK (W1++V2) (fin _ _ (hW1) (by rw [z];exact Mrg.right sV2))
       simpa [z] using hq
     ·have c4':¬ (s:Int)<M:=by omega
      simp [c3,c3',c4'];have z1:V1=[]:=List.length_eq_zero_iff.1 (by omega);subst z1;have hz:Mrg f U1 [] U1:=Mrg.left sU1;have lW:=(hz).2.length_eq;simp only [List.length_append] at lW;by_cases c5:M<e
      ·have c5':(M:Int)<e:=by omega
       by_cases c6:e<b
       ·have c6':(e:Int)<b:=by omega
        simp [c5,c5',c6'];refine ih (w:=w) (X:=X++U1) (U:=U2) (V:=V2) (Z:=Z) (a:=M) (m:=e) (b:=b) ⟨by simp;omega,by omega,by omega,by omega,by omega,by omega,by simp;omega,hL,sU2,sV2,cr2,iU2,iV2,hf⟩ (by simp) (λW2 hW2=>?_);have hq:=hK (U1++W2) (fin _ _ (hz) hW2)
        simpa using hq
       ·have c6':¬ (e:Int)<b:=by omega
        simp [c5,c5',c6'];have z:V2=[]:=List.length_eq_zero_iff.1 (by omega);have hq:=hK (U1++U2) (fin _ _ (hz) (by rw [z];exact Mrg.left sU2))
        simpa [z] using hq
      ·have c5':¬ (M:Int)<e:=by omega
       simp [c5,c5'];have z:U2=[]:=List.length_eq_zero_iff.1 (by omega);have hq:=hK (U1++V2) (fin _ _ (hz) (by rw [z];exact Mrg.right sV2))
       simpa [z] using hq
    ·have c3':¬ (a:Int)<s:=by omega
     simp [c3,c3'];have z1:U1=[]:=List.length_eq_zero_iff.1 (by omega);subst z1;have hz:Mrg f [] V1 V1:=Mrg.right sV1;have lW:=(hz).2.length_eq;simp only [List.length_append] at lW;by_cases c5:M<e
     ·have c5':(M:Int)<e:=by omega
      by_cases c6:e<b
      ·have c6':(e:Int)<b:=by omega
       simp [c5,c5',c6'];refine ih (w:=w) (X:=X++V1) (U:=U2) (V:=V2) (Z:=Z) (a:=M) (m:=e) (b:=b) ⟨by simp;omega,by omega,by omega,by omega,by omega,by omega,by simp;omega,hL,sU2,sV2,cr2,iU2,iV2,hf⟩ (by simp) (λW2 hW2=>?_);have hq:=hK (V1++W2) (fin _ _ (hz) hW2)
       simpa using hq
      ·have c6':¬ (e:Int)<b:=by omega
       simp [c5,c5',c6'];have z:V2=[]:=List.length_eq_zero_iff.1 (by omega);have hq:=hK (V1++U2) (fin _ _ (hz) (by rw [z];exact Mrg.left sU2))
       simpa [z] using hq
     ·have c5':¬ (M:Int)<e:=by omega
      simp [c5,c5'];have z:U2=[]:=List.length_eq_zero_iff.1 (by omega);have hq:=hK (V1++V2) (fin _ _ (hz) (by rw [z];exact Mrg.right sV2))
      simpa [z] using hq
theorem wU (f:Nat->Int) (n:Nat) (ih:yH f n):uZ f (n+1) (λU V a m b=>¬ U.length=1/\¬ V.length=1/\¬ (a+b) / 2<m):=by
 intro w0 F0 G0 l0 b1 w H X U V Z a m b L s hP st dst K hs hK;obtain ⟨u1,v1,cM0⟩:=hP;obtain ⟨sn,sk,stt,sh⟩:=st;simp only at hs hK;subst hs;obtain ⟨ha,hm,hb,hU,hV,hn,hl,hL,su,sv,cr,iu,iv,hf⟩:=s;refine inl an Try.func58 46000 (λw1 F=>?_);have e1:Go.IntKind.i64.wrap ((m:Int) - a)=(U.length:Int):=by rw [Go.IntWalk.i64_in _ (by omega)];omega
 have e2:Go.IntKind.i64.wrap ((b:Int) - m)=(V.length:Int):=by rw [Go.IntWalk.i64_in _ (by omega)];omega
 have u1':¬ (U.length:Int)=1:=by omega
 have v1':¬ (V.length:Int)=1:=by omega
 obtain ⟨g1,g2⟩:=gJ (V:=V) (Z:=Z) ha hm;obtain ⟨S,hS⟩:∃ S,X++(U++(V++Z))=S:=⟨_,rfl⟩;rw [hS] at g1 g2 ⊢;have hSL:S.length=L:=by rw [<- hS];simp at hl ⊢;omega
 obtain ⟨M,hM⟩:∃ M,(a+b) / 2=M:=⟨_,rfl⟩;obtain ⟨N,hN⟩:∃ N,M+m=N:=⟨_,rfl⟩;have wm:=nE (x:=a) (y:=b) (h:=M) (by omega) (by omega);have wn:Go.IntKind.i64.wrap ((M:Int)+m)=(N:Int):=by rw [Go.IntWalk.i64_in _ (by omega)];omega
 have wp:Go.IntKind.i64.wrap ((N:Int) - 1)=((N - 1:Nat):Int):=by rw [Go.IntWalk.i64_in _ (by omega)];omega
 have cM:¬ M<m:=by omega
 have cM':¬ (M:Int)<m:=by omega
 simp [e1,e2,u1',v1',wm,wn,wp,cM];refine ⟨by decide,?_⟩;obtain ⟨lo,hlo⟩:∃ lo,a=lo:=⟨_,rfl⟩;obtain ⟨hi,hhi⟩:∃ hi,m=hi:=⟨_,rfl⟩
 refine am eok (λx:Nat×Nat=>Gn f U V a m N lo hi x)
  (λx=>⟨220,46000,[(20,.v (.int .i64 (x.1:Nat))),(21,.v (.int .i64 (x.2:Nat))),(22,.v (.int .i64 ((N - 1:Nat):Int))),(19,.v (.int .i64 N)),(18,.v (.int .i64 M)),(0,.sl 5000 H 1 0 L),(1,.v (.int .i64 a)),(2,.v (.int .i64 m)),(3,.v (.int .i64 b)),(4,.clo 22 [.p 16 b1 0])],
  sH b1 w H S⟩) (λx=>x.2 - x.1) (lo,hi) ⟨Nat.le_refl _,by simp only;omega,Nat.le_refl _,λt h h2=>by simp only at h;omega,λt h h2=>by simp only at h;omega⟩ (by subst hlo;subst hhi;simp) (λx hx=>Ent.refl ?_)
 obtain ⟨s,r⟩:=x;obtain ⟨x0,x1,x2,x3,x4⟩:=hx;simp only at x0 x1 x2 x3 x4 ⊢;by_cases c:s<r
 ·obtain ⟨t,ht⟩:∃ t,(s+r) / 2=t:=⟨_,rfl⟩
  have tu:t - a<U.length:=by omega
  have tv:N - 1 - t - m<V.length:=by omega
  obtain ⟨y,hy⟩:∃ y,U[t - a]=y:=⟨_,rfl⟩;obtain ⟨z,hz⟩:∃ z,V[N - 1 - t - m]=z:=⟨_,rfl⟩;have hyl:=iu y (hy ▸ List.getElem_mem _);have hzl:=iv z (hz ▸ List.getElem_mem _);obtain ⟨ky,fy⟩:=ch (g1 _ tu);obtain ⟨kz,fz⟩:=ch (g2 _ tv);have ey:a+(t - a)=t:=by omega
  have ez:m+(N - 1 - t - m)=N - 1 - t:=by omega
  simp only [ey] at ky fy;simp only [ez] at kz fz;rw [hy] at fy;rw [hz] at fz;have q1:t<L:=by omega
  have q2:N - 1 - t<L:=by omega
  have q3:((N - 1 - t:Nat):Int)<L:=by omega
  have q4:(t:Int)<L:=by omega
  have wm:=nE (x:=s) (y:=r) (h:=t) (by omega) (by omega);have w4:Go.IntKind.i64.wrap (((N - 1:Nat):Int) - t)=((N - 1 - t:Nat):Int):=by rw [Go.IntWalk.i64_in _ (by omega)];omega
  simp [c,wm];refine ⟨by decide,?_⟩;refine drw eok mix [0,1,2,3,4,5,6,7,8,9,10] [11,12,13] (.c 11 11 1041 1006 (.c 11 12 0 1006 (.c 11 13 0 1006 (.l 11 1006) .s) .s) .s) ?_;simp [hSL,fy,fz,q1,q2,q3,q4,w4,nR]
  try intros
  refine eq hf hzl hyl rfl ?_;simp
  try intros
  rw [io];by_cases lt:f z<f y
  ·simp [lt]
   refine Ent.refl ⟨s,t,⟨x0,by simp only;omega,by simp only;omega,x3,λc0 hr h=>?_⟩,by omega,?_⟩
   ·simp only at hr
    subst hr;rw [bk tu,bk tv,hy,hz];exact lt
   ·simp
  ·have w1:Go.IntKind.i64.wrap ((t:Int)+1)=((t+1:Nat):Int):=by rw [Go.IntWalk.i64_in _ (by omega)];omega
   simp [eo lt,w1];refine Ent.refl ⟨t+1,r,⟨by simp only;omega,by simp only;omega,x2,λc0 hr h=>?_,x4⟩,by omega,?_⟩
   ·have:c0=t:=by simp only at hr;omega
    subst this;rw [bk tu,bk tv,hy,hz];exact lt
   ·simp
 ·have hsr:s=r:=by omega
  subst hsr;obtain ⟨e,he⟩:∃ e,N - s=e:=⟨_,rfl⟩;have w5:Go.IntKind.i64.wrap ((N:Int) - s)=(e:Int):=by rw [Go.IntWalk.i64_in _ (by omega)];omega
  obtain ⟨U1,hU1⟩:∃ l,U.take (s - a)=l:=⟨_,rfl⟩;obtain ⟨U2,hU2⟩:∃ l,U.drop (s - a)=l:=⟨_,rfl⟩;obtain ⟨V1,hV1⟩:∃ l,V.take (M - s)=l:=⟨_,rfl⟩;obtain ⟨V2,hV2⟩:∃ l,V.drop (M - s)=l:=⟨_,rfl⟩;have lU1:U1.length=s - a:=by rw [<- hU1,List.length_take];omega
  have lU2:U2.length=U.length - (s - a):=by rw [<- hU2,List.length_drop]
  have lV1:V1.length=M - s:=by rw [<- hV1,List.length_take];omega
  have lV2:V2.length=V.length - (M - s):=by rw [<- hV2,List.length_drop]
  have sU1:Srt f U1:=hU1 ▸ su.take _;have sU2:Srt f U2:=hU2 ▸ su.drop _;have sV1:Srt f V1:=hV1 ▸ sv.take _;have sV2:Srt f V2:=hV2 ▸ sv.drop _;have mU1:∀ x∈U1,x∈U:=λx h=>List.mem_of_mem_take (hU1 ▸ h)
  have mU2:∀ x∈U2,x∈U:=λx h=>List.mem_of_mem_drop (hU2 ▸ h)
  have mV1:∀ x∈V1,x∈V:=λx h=>List.mem_of_mem_take (hV1 ▸ h)
  have mV2:∀ x∈V2,x∈V:=λx h=>List.mem_of_mem_drop (hV2 ▸ h)
  have cr1:=cr.sub mU1 mV1;have cr2:=cr.sub mU2 mV2;have iU1:∀ x∈U1,x<w.tasks.length:=λx h=>iu x (mU1 x h)
  have iU2:∀ x∈U2,x<w.tasks.length:=λx h=>iu x (mU2 x h)
  have iV1:∀ x∈V1,x<w.tasks.length:=λx h=>iv x (mV1 x h)
  have iV2:∀ x∈V2,x<w.tasks.length:=λx h=>iv x (mV2 x h)
  have eU:U1++U2=U:=by rw [<- hU1,<- hU2,List.take_append_drop]
  have eV:V1++V2=V:=by rw [<- hV1,<- hV2,List.take_append_drop]
  have fin:∀ W1 W2,Mrg f U1 V1 W1->Mrg f U2 V2 W2->Mrg f U V (W1++W2):=λW1 W2 m1 m2=>by
   subst hU1;subst hU2;subst hV1;subst hV2;refine Mrg.parts su sv cr (by omega) (by omega) (λi j h1 h2 h3 h4=>?_) (λi j h1 h2 h3 h4=>?_) m1 m2
   ·have:=x3 (s - 1) (by omega) (by omega)
    have ej:N - 1 - (s - 1) - m=j:=by omega
    have ei:s - 1 - a=i:=by omega
    rw [ej,ei,bk h2,bk h4] at this;exact this
   ·have:=x4 s rfl (by omega)
    have ej:N - 1 - s - m=j:=by omega
    have ei:s - a=i:=by omega
    rw [ej,ei,bk h2,bk h4] at this;exact this
  simp [w5];by_cases c1:s<m/\m<e
  ·have c1':(s:Int)<m:=by omega
   have c2':(m:Int)<e:=by omega
   simp [c1.1,c1',c2'];rw [<- hS,<- eU,<- eV];refine ga (w:=w) (X:=X++U1) (U:=U2) (V:=V1) (Z:=V2++Z) (by simp;omega) (by omega) (by omega) (by omega) (by omega) (by simp;omega) hL (by simp) ?_;simp;by_cases c3:a<s
   ·have c3':(a:Int)<s:=by omega
    by_cases c4:s<M
    ·have c4':(s:Int)<M:=by omega
     simp [c3,c3',c4'];refine ih (w:=w) (X:=X) (U:=U1) (V:=V1) (Z:=U2++(V2++Z)) (a:=a) (m:=s) (b:=M) ⟨ha,by omega,by omega,by omega,by omega,by omega,by simp;omega,hL,sU1,sV1,cr1,iU1,iV1,hf⟩ (by simp) (λW1 hW1=>?_);simp;have lW:=(hW1).2.length_eq;simp only [List.length_append] at lW;by_cases c5:M<e
     ·have c5':(M:Int)<e:=by omega
      by_cases c6:e<b
      ·have c6':(e:Int)<b:=by omega
       simp [c5,c5',c6'];refine ih (w:=w) (X:=X++W1) (U:=U2) (V:=V2) (Z:=Z) (a:=M) (m:=e) (b:=b) ⟨by simp;omega,by omega,by omega,by omega,by omega,by omega,by simp;omega,hL,sU2,sV2,cr2,iU2,iV2,hf⟩ (by simp) (λW2 hW2=>?_);have hq:=hK (W1++W2) (fin _ _ (hW1) hW2)
       simpa using hq
      ·have c6':¬ (e:Int)<b:=by omega
       simp [c5,c5',c6'];have z:V2=[]:=List.length_eq_zero_iff.1 (by omega);have hq:=hK (W1++U2) (fin _ _ (hW1) (by rw [z];exact Mrg.left sU2))
       simpa [z] using hq
     ·have c5':¬ (M:Int)<e:=by omega
      simp [c5,c5'];have z:U2=[]:=List.length_eq_zero_iff.1 (by omega);have hq:=hK (W1++V2) (fin _ _ (hW1) (by rw [z];exact Mrg.right sV2))
      simpa [z] using hq
    ·have c4':¬ (s:Int)<M:=by omega
     simp [c3,c3',c4'];have z1:V1=[]:=List.length_eq_zero_iff.1 (by omega);subst z1;have hz:Mrg f U1 [] U1:=Mrg.left sU1;have lW:=(hz).2.length_eq;simp only [List.length_append] at lW;by_cases c5:M<e
     ·have c5':(M:Int)<e:=by omega
      by_cases c6:e<b
      ·have c6':(e:Int)<b:=by omega
       simp [c5,c5',c6'];refine ih (w:=w) (X:=X++U1) (U:=U2) (V:=V2) (Z:=Z) (a:=M) (m:=e) (b:=b) ⟨by simp;omega,by omega,by omega,by omega,by omega,by omega,by simp;omega,hL,sU2,sV2,cr2,iU2,iV2,hf⟩ (by simp) (λW2 hW2=>?_);have hq:=hK (U1++W2) (fin _ _ (hz) hW2)
       simpa using hq
      ·have c6':¬ (e:Int)<b:=by omega
       simp [c5,c5',c6'];have z:V2=[]:=List.length_eq_zero_iff.1 (by omega);have hq:=hK (U1++U2) (fin _ _ (hz) (by rw [z];exact Mrg.left sU2))
       simpa [z] using hq
     ·have c5':¬ (M:Int)<e:=by omega
      simp [c5,c5'];have z:U2=[]:=List.length_eq_zero_iff.1 (by omega);have hq:=hK (U1++V2) (fin _ _ (hz) (by rw [z];exact Mrg.right sV2))
      simpa [z] using hq
   ·have c3':¬ (a:Int)<s:=by omega
    simp [c3,c3'];have z1:U1=[]:=List.length_eq_zero_iff.1 (by omega);subst z1;have hz:Mrg f [] V1 V1:=Mrg.right sV1;have lW:=(hz).2.length_eq;simp only [List.length_append] at lW;by_cases c5:M<e
    ·have c5':(M:Int)<e:=by omega
     by_cases c6:e<b
     ·have c6':(e:Int)<b:=by omega
      simp [c5,c5',c6'];refine ih (w:=w) (X:=X++V1) (U:=U2) (V:=V2) (Z:=Z) (a:=M) (m:=e) (b:=b) ⟨by simp;omega,by omega,by omega,by omega,by omega,by omega,by simp;omega,hL,sU2,sV2,cr2,iU2,iV2,hf⟩ (by simp) (λW2 hW2=>?_);have hq:=hK (V1++W2) (fin _ _ (hz) hW2)
      simpa using hq
     ·have c6':¬ (e:Int)<b:=by omega
      simp [c5,c5',c6'];have z:V2=[]:=List.length_eq_zero_iff.1 (by omega);have hq:=hK (V1++U2) (fin _ _ (hz) (by rw [z];exact Mrg.left sU2))
      simpa [z] using hq
    ·have c5':¬ (M:Int)<e:=by omega
     simp [c5,c5'];have z:U2=[]:=List.length_eq_zero_iff.1 (by omega);have hq:=hK (V1++V2) (fin _ _ (hz) (by rw [z];exact Mrg.right sV2))
     simpa [z] using hq
  ·have hR:S=X++(U1++(V1++(U2++(V2++Z)))):=by
    rw [<- hS,<- eU,<- eV]
    have:U2=[]\/V1=[]:=by
     by_cases q:s<m
     ·exact .inr (List.length_eq_zero_iff.1 (by omega))
     ·exact .inl (List.length_eq_zero_iff.1 (by omega))
    rcases this with q|q<;>simp [q]
   rw [hR];by_cases c1':s<m
   ·have c2':¬ m<e:=by omega
    have c1'':(s:Int)<m:=by omega
    have c2'':¬ (m:Int)<e:=by omega
    simp [c1',c1'',c2''];by_cases c3:a<s
    ·have c3':(a:Int)<s:=by omega
     by_cases c4:s<M
     ·have c4':(s:Int)<M:=by omega
      simp [c3,c3',c4'];refine ih (w:=w) (X:=X) (U:=U1) (V:=V1) (Z:=U2++(V2++Z)) (a:=a) (m:=s) (b:=M) ⟨ha,by omega,by omega,by omega,by omega,by omega,by simp;omega,hL,sU1,sV1,cr1,iU1,iV1,hf⟩ (by simp) (λW1 hW1=>?_);simp;have lW:=(hW1).2.length_eq;simp only [List.length_append] at lW;by_cases c5:M<e
      ·have c5':(M:Int)<e:=by omega
       by_cases c6:e<b
       ·have c6':(e:Int)<b:=by omega
        simp [c5,c5',c6'];refine ih (w:=w) (X:=X++W1) (U:=U2) (V:=V2) (Z:=Z) (a:=M) (m:=e) (b:=b) ⟨by simp;omega,by omega,by omega,by omega,by omega,by omega,by simp;omega,hL,sU2,sV2,cr2,iU2,iV2,hf⟩ (by simp) (λW2 hW2=>?_);have hq:=hK (W1++W2) (fin _ _ (hW1) hW2)
        simpa using hq
       ·have c6':¬ (e:Int)<b:=by omega
        simp [c5,c5',c6'];have z:V2=[]:=List.length_eq_zero_iff.1 (by omega);have hq:=hK (W1++U2) (fin _ _ (hW1) (by rw [z];exact Mrg.left sU2))
        simpa [z] using hq
      ·have c5':¬ (M:Int)<e:=by omega
       simp [c5,c5'];have z:U2=[]:=List.length_eq_zero_iff.1 (by omega);have hq:=hK (W1++V2) (fin _ _ (hW1) (by rw [z];exact Mrg.right sV2))
       simpa [z] using hq
     ·have c4':¬ (s:Int)<M:=by omega
      simp [c3,c3',c4'];have z1:V1=[]:=List.length_eq_zero_iff.1 (by omega);subst z1;have hz:Mrg f U1 [] U1:=Mrg.left sU1;have lW:=(hz).2.length_eq;simp only [List.length_append] at lW;by_cases c5:M<e
      ·have c5':(M:Int)<e:=by omega
       by_cases c6:e<b
       ·have c6':(e:Int)<b:=by omega
        simp [c5,c5',c6'];refine ih (w:=w) (X:=X++U1) (U:=U2) (V:=V2) (Z:=Z) (a:=M) (m:=e) (b:=b) ⟨by simp;omega,by omega,by omega,by omega,by omega,by omega,by simp;omega,hL,sU2,sV2,cr2,iU2,iV2,hf⟩ (by simp) (λW2 hW2=>?_);have hq:=hK (U1++W2) (fin _ _ (hz) hW2)
        simpa using hq
       ·have c6':¬ (e:Int)<b:=by omega
        simp [c5,c5',c6'];have z:V2=[]:=List.length_eq_zero_iff.1 (by omega);have hq:=hK (U1++U2) (fin _ _ (hz) (by rw [z];exact Mrg.left sU2))
        simpa [z] using hq
      ·have c5':¬ (M:Int)<e:=by omega
       simp [c5,c5'];have z:U2=[]:=List.length_eq_zero_iff.1 (by omega);have hq:=hK (U1++V2) (fin _ _ (hz) (by rw [z];exact Mrg.right sV2))
       simpa [z] using hq
    ·have c3':¬ (a:Int)<s:=by omega
     simp [c3,c3'];have z1:U1=[]:=List.length_eq_zero_iff.1 (by omega);subst z1;have hz:Mrg f [] V1 V1:=Mrg.right sV1;have lW:=(hz).2.length_eq;simp only [List.length_append] at lW;by_cases c5:M<e
     ·have c5':(M:Int)<e:=by omega
      by_cases c6:e<b
      ·have c6':(e:Int)<b:=by omega
       simp [c5,c5',c6'];refine ih (w:=w) (X:=X++V1) (U:=U2) (V:=V2) (Z:=Z) (a:=M) (m:=e) (b:=b) ⟨by simp;omega,by omega,by omega,by omega,by omega,by omega,by simp;omega,hL,sU2,sV2,cr2,iU2,iV2,hf⟩ (by simp) (λW2 hW2=>?_);have hq:=hK (V1++W2) (fin _ _ (hz) hW2)
       simpa using hq
      ·have c6':¬ (e:Int)<b:=by omega
       simp [c5,c5',c6'];have z:V2=[]:=List.length_eq_zero_iff.1 (by omega);have hq:=hK (V1++U2) (fin _ _ (hz) (by rw [z];exact Mrg.left sU2))
       simpa [z] using hq
     ·have c5':¬ (M:Int)<e:=by omega
      simp [c5,c5'];have z:U2=[]:=List.length_eq_zero_iff.1 (by omega);have hq:=hK (V1++V2) (fin _ _ (hz) (by rw [z];exact Mrg.right sV2))
      simpa [z] using hq
   ·have c1'':¬ (s:Int)<m:=by omega
    simp [c1',c1''];by_cases c3:a<s
    ·have c3':(a:Int)<s:=by omega
     by_cases c4:s<M
     ·have c4':(s:Int)<M:=by omega
      simp [c3,c3',c4'];refine ih (w:=w) (X:=X) (U:=U1) (V:=V1) (Z:=U2++(V2++Z)) (a:=a) (m:=s) (b:=M) ⟨ha,by omega,by omega,by omega,by omega,by omega,by simp;omega,hL,sU1,sV1,cr1,iU1,iV1,hf⟩ (by simp) (λW1 hW1=>?_);simp;have lW:=(hW1).2.length_eq;simp only [List.length_append] at lW;by_cases c5:M<e
      ·have c5':(M:Int)<e:=by omega
       by_cases c6:e<b
       ·have c6':(e:Int)<b:=by omega
        simp [c5,c5',c6'];refine ih (w:=w) (X:=X++W1) (U:=U2) (V:=V2) (Z:=Z) (a:=M) (m:=e) (b:=b) ⟨by simp;omega,by omega,by omega,by omega,by omega,by omega,by simp;omega,hL,sU2,sV2,cr2,iU2,iV2,hf⟩ (by simp) (λW2 hW2=>?_);have hq:=hK (W1++W2) (fin _ _ (hW1) hW2)
        simpa using hq
       ·have c6':¬ (e:Int)<b:=by omega
        simp [c5,c5',c6'];have z:V2=[]:=List.length_eq_zero_iff.1 (by omega);have hq:=hK (W1++U2) (fin _ _ (hW1) (by rw [z];exact Mrg.left sU2))
        simpa [z] using hq
      ·have c5':¬ (M:Int)<e:=by omega
       simp [c5,c5'];have z:U2=[]:=List.length_eq_zero_iff.1 (by omega);have hq:=hK (W1++V2) (fin _ _ (hW1) (by rw [z];exact Mrg.right sV2))
       simpa [z] using hq
     ·have c4':¬ (s:Int)<M:=by omega
      simp [c3,c3',c4'];have z1:V1=[]:=List.length_eq_zero_iff.1 (by omega);subst z1;have hz:Mrg f U1 [] U1:=Mrg.left sU1;have lW:=(hz).2.length_eq;simp only [List.length_append] at lW;by_cases c5:M<e
      ·have c5':(M:Int)<e:=by omega
       by_cases c6:e<b
       ·have c6':(e:Int)<b:=by omega
        simp [c5,c5',c6'];refine ih (w:=w) (X:=X++U1) (U:=U2) (V:=V2) (Z:=Z) (a:=M) (m:=e) (b:=b) ⟨by simp;omega,by omega,by omega,by omega,by omega,by omega,by simp;omega,hL,sU2,sV2,cr2,iU2,iV2,hf⟩ (by simp) (λW2 hW2=>?_);have hq:=hK (U1++W2) (fin _ _ (hz) hW2)
        simpa using hq
       ·have c6':¬ (e:Int)<b:=by omega
        simp [c5,c5',c6'];have z:V2=[]:=List.length_eq_zero_iff.1 (by omega);have hq:=hK (U1++U2) (fin _ _ (hz) (by rw [z];exact Mrg.left sU2))
        simpa [z] using hq
      ·have c5':¬ (M:Int)<e:=by omega
       simp [c5,c5'];have z:U2=[]:=List.length_eq_zero_iff.1 (by omega);have hq:=hK (U1++V2) (fin _ _ (hz) (by rw [z];exact Mrg.right sV2))
       simpa [z] using hq
    ·have c3':¬ (a:Int)<s:=by omega
     simp [c3,c3'];have z1:U1=[]:=List.length_eq_zero_iff.1 (by omega);subst z1;have hz:Mrg f [] V1 V1:=Mrg.right sV1;have lW:=(hz).2.length_eq;simp only [List.length_append] at lW;by_cases c5:M<e
     ·have c5':(M:Int)<e:=by omega
      by_cases c6:e<b
      ·have c6':(e:Int)<b:=by omega
       simp [c5,c5',c6'];refine ih (w:=w) (X:=X++V1) (U:=U2) (V:=V2) (Z:=Z) (a:=M) (m:=e) (b:=b) ⟨by simp;omega,by omega,by omega,by omega,by omega,by omega,by simp;omega,hL,sU2,sV2,cr2,iU2,iV2,hf⟩ (by simp) (λW2 hW2=>?_);have hq:=hK (V1++W2) (fin _ _ (hz) hW2)
       simpa using hq
      ·have c6':¬ (e:Int)<b:=by omega
       simp [c5,c5',c6'];have z:V2=[]:=List.length_eq_zero_iff.1 (by omega);have hq:=hK (V1++U2) (fin _ _ (hz) (by rw [z];exact Mrg.left sU2))
       simpa [z] using hq
     ·have c5':¬ (M:Int)<e:=by omega
      simp [c5,c5'];have z:U2=[]:=List.length_eq_zero_iff.1 (by omega);have hq:=hK (V1++V2) (fin _ _ (hz) (by rw [z];exact Mrg.right sV2))
      simpa [z] using hq
theorem iN (f:Nat->Int):∀ n,yH f n:=by
 intro n
 induction n with
 |zero=>intro w0 F0 G0 l0 b1 w H X U V Z a m b L s;have:=s.hU;have:=s.hn;omega
 |succ n ih=>
 intro w0 F0 G0 l0 b1 w H X U V Z a m b L s st dst K hs hK;by_cases u1:U.length=1
 ·exact wY f (n+1) s u1 hs hK
 by_cases v1:V.length=1
 ·exact wX f (n+1) s ⟨u1,v1⟩ hs hK
 by_cases cM:(a+b) / 2<m
 ·exact wW f n ih s ⟨u1,v1,cM⟩ hs hK
 ·exact wU f n ih s ⟨u1,v1,cM⟩ hs hK
theorem kQ {w0:World} {F0 G0:Nat->Prop} {l0:Bool} {b1:Nat} {w:Wld} {H:Hd} {f:Nat->Int} {X U Z:List Nat} {a b L:Nat} (ha:X.length=a) (hb:a+U.length=b) (hl:X.length+U.length+Z.length=L) (hL:L<=2 ^ 40)
 (iu:∀ x∈U,x<w.tasks.length) (hf:∀ k,∀ hk:k<w.tasks.length,w.tasks[k].lin=f k) (hup:U.Pairwise (· < ·)) {st:ASt} {dst:Option Nat} {K:ASt->Prop} (hs:st.h=sH b1 w H (X++(U++Z)))
 (hK:∀ W,Srt f W->W.Perm U->ax ⟨st.n,st.kb,st.t,sH b1 w H (X++(W++Z))⟩ dst (.tup []) K) :
 ag ⟨Try.prog,tt,w0,⟨F0,G0,l0,λ_=>True⟩⟩ 57 [.sl 5000 H 1 0 L,.v (.int .i64 a),.v (.int .i64 b),.clo 22 [.p 16 b1 0]] st dst K:=by
 obtain ⟨sn,sk,stt,sh⟩:=st;simp only at hs hK;subst hs;refine inl an Try.func57 47000 (λw1 F=>?_);have wa:Go.IntKind.i64.wrap ((a:Int)+1)=((a+1:Nat):Int):=by rw [Go.IntWalk.i64_in _ (by omega)];omega
 simp [wa]
 refine am eok (λm:Nat=>1<=m/\m<=U.length+1) (λm=>⟨53,47000,[(8,.v (.int .i64 (a+m:Nat))),(0,.sl 5000 H 1 0 L),(1,.v (.int .i64 a)),(2,.v (.int .i64 b)),(3,.clo 22 [.p 16 b1 0])],
  sH b1 w H (X++((aH f [] (U.take m)++U.drop m)++Z))⟩) (λm=>U.length+1 - m) 1 (by omega) (by rw [md];simp) (λm hm=>Ent.refl ?_)
 by_cases hlt:m<U.length
 rotate_left
 ·have hd:aH f [] (U.take m)++U.drop m=aH f [] U:=by rw [List.take_of_length_le (by omega),List.drop_eq_nil_of_le (by omega),List.append_nil]
  have c:¬ (a:Int)+m<b:=by omega
  have c':¬ a+m<b:=by omega
  rw [hd];simp [c];exact hK _ (eT List.Pairwise.nil hup (λp hp=>by cases hp)) (by simpa using eg (f:=f) (O:=U) (P:=[]))
 obtain ⟨P,hP⟩:∃ P,aH f [] (U.take m)=P:=⟨_,rfl⟩;obtain ⟨x,hx⟩:∃ x,U[m]=x:=⟨_,rfl⟩;obtain ⟨R,hR⟩:∃ R,U.drop (m+1)=R:=⟨_,rfl⟩;have hPl:P.length=m:=by rw [<- hP,eW,List.length_take];simp;omega
 have hRl:R.length=U.length - (m+1):=by rw [<- hR,List.length_drop]
 have hst:X++((aH f [] (U.take m)++U.drop m)++Z)=X++(bc x P m++(R++Z)):=by
  rw [hP,List.drop_eq_getElem_cons hlt,hx,hR];have:=oB x P R;rw [hPl] at this;rw [this,List.append_assoc]
 have hPm:∀ k,∀ h:k<P.length,P[k]<w.tasks.length:=λk h=>by
  have h1:=List.getElem_mem h;generalize P[k]=y at h1;rw [<- hP] at h1;rcases ia h1 with h2|h2
  ·cases h2
  ·exact iu y (List.mem_of_mem_take h2)
 have hxm:x<w.tasks.length:=iu x (hx ▸ List.getElem_mem hlt);rw [hst];have c:(a:Int)+m<b:=by omega
 have c':a+m<b:=by omega
 simp [c]
 refine am eok (λj:Nat=>j<=m/\∀ k,j<=k->∀ h:k<P.length,f x<f P[k]) (λj=>⟨53,47000,[(9,.v (.int .i64 (a+j:Nat))),(8,.v (.int .i64 (a+m:Nat))),(0,.sl 5000 H 1 0 L),(1,.v (.int .i64 a)),(2,.v (.int .i64 b)),(3,.clo 22 [.p 16 b1 0])],
  sH b1 w H (X++(bc x P j++(R++Z)))⟩) (λj=>j) m ⟨Nat.le_refl _,λk h1 h2=>by omega⟩ (by simp) (λj hj=>Ent.refl ?_)
 obtain ⟨hj1,hj2⟩:=hj
 have hend:(∀ i,i+1=j->∀ h:i<P.length,¬ f x<f P[i])->X++(bc x P j++(R++Z))=X++((aH f [] (U.take (m+1))++U.drop (m+1))++Z):=λh=>by
  rw [mc hlt,hP,hx,hR,dv (by omega) hj2 (λh0 h'=>h (j - 1) (by omega) h'),List.append_assoc]
 have w3:Go.IntKind.i64.wrap ((a:Int)+m+1)=(a:Int)+(m+1:Nat):=by rw [Go.IntWalk.i64_in _ (by omega)];omega
 rcases j with _|j
 ·have he:=hend (λi h=>by omega)
  rw [he];refine aD.quiet eok mix (by kernel_rfl) ?_;simp;refine Ent.refl ⟨m+1,by omega,by omega,?_⟩;simp [w3]
 have hjP:j<P.length:=by omega
 have hb2:=hPm j hjP;obtain ⟨y,hy⟩:∃ y,P[j]=y:=⟨_,rfl⟩;rw [hy] at hb2;obtain ⟨-,-,-,i1,i2,i3⟩:=hZ (X:=X) (Z:=R++Z) (u:=x) hjP (n:=a+j) (by omega);have hTl:=jR (X:=X) (Z:=R++Z) (u:=x) (V:=P) (k:=j+1) (by omega);obtain ⟨T,hT⟩:∃ T,X++(bc x P (j+1)++(R++Z))=T:=⟨_,rfl⟩;rw [hT] at i1 i2 i3 hTl hend ⊢;rw [hy] at i2 i3;obtain ⟨k1,f1⟩:=ch i1;obtain ⟨k2,f2⟩:=ch i2;have hTL:T.length=L:=by rw [hTl];simp;omega
 have k3:a+j<L:=by omega
 have k4:a+j+1<L:=by omega
 have k5:(a:Int)+j<L:=by omega
 have k6:(a:Int)+(j+1)<L:=by omega
 have k7:(0:Int)<=(a:Int)+(j+1):=by omega
 have k8:((a:Int)+(j+1)).toNat=a+j+1:=by omega
 have k9:(a:Int)<(a:Int)+(j+1):=by omega
 have w2:Go.IntKind.i64.wrap ((a:Int)+(j+1) - 1)=((a+j:Nat):Int):=by rw [Go.IntWalk.i64_in _ (by omega)];omega
 refine drw eok mix [0,1,2,3,4,5,6,7,8,9,10,11,12,13] [14,15,16] (.c 14 14 1569 14814 (.c 14 15 0 14814 (.c 14 16 0 14814 (.l 14 14814) .s) .s) .s) ?_;simp [hTL,f1,f2,k3,k4,k5,k6,k7,k8,k9,w2,nR]
 try intros
 refine eq hf hxm hb2 rfl ?_;simp [k5,k6,k7,k8,k9,w2]
 try intros
 rw [io];by_cases lt:f x<f y
 ·simp [lt]
  refine drw eok mix [0,1,2,3,4,5,6,7,8,9,10,11,12,13,14,16] [15,17] (.c 16 15 51142 14393 (.c 16 17 14393 0 (.l 16 0) .s) .s) ?_;simp [hTL,f1,f2,k3,k4,k5,k6,k7,k8,w2,nR]
  try intros
  have g4:=congrArg (List.map nR) i3;rw [List.map_set,List.map_set] at g4;refine Ent.refl ⟨j,⟨by omega,λk h1 h2=>?_⟩,by omega,?_⟩
  ·by_cases hk:k=j
   ·subst hk;rw [hy];exact lt
   ·exact hj2 k (by omega) h2
  ·simp [<- g4,nR]
 ·have he:=hend (λi hi h'=>by
   obtain rfl:i=j:=by omega
   rw [hy];exact lt)
  simp [eo lt];refine Ent.refl ⟨m+1,by omega,by omega,?_⟩;simp [w3,he]
end Go.Proofs.Ytmfcmlldnjffeaa
