import Derived.Test.YtklblkobegcljaaGreatMA
namespace Go.AM
open Go.RowKit
def r8(v:Option Value)(z n:Nat):Prop:=(v=none/\n=z)\/∃k m,v=some (.int k m)/\0<=m/\n=m.toNat
theorem mG{P:Program}{w:World}{isS:Bool}{len cap l h:Nat}{lo hi:Option Value}(hh:r8 hi len h)(hl:r8 lo 0 l)(h1:l<=h)(h2:h<=cap) :
 (Instr.sliceBounds isS len cap lo hi none).run P w=.ok (l,h,cap) w:=by
 rcases hh with⟨rfl,rfl⟩|⟨k,m,rfl,h0,rfl⟩<;>rcases hl with⟨rfl,rfl⟩|⟨k',m',rfl,h0',rfl⟩
 ·simp[Instr.sliceBounds]
 ·have e:m'<=(h:Int):=by omega
  simp[Instr.sliceBounds,Instr.sliceBound,asIntOf,h0',e]
 ·have e:m<=(cap:Int):=by omega
  cases isS<;>simp[Instr.sliceBounds,Instr.sliceBound,asIntOf,h0,e]
 ·have e:m<=(cap:Int):=by omega
  have e':m'<=((m.toNat:Nat):Int):=aa;have e'':m'<=max m 0:=aa
  cases isS<;>simp[Instr.sliceBounds,Instr.sliceBound,asIntOf,h0,e,h0',e'']
theorem iN{P:Program}{w:World}{T e:Nat}{i:TypeInfo}(hu:P.underlying T=some (.slice e))(hi:P.info? e=some i){len cap l h:Nat}{lo hi':Option Value}{a:Option Addr}
 (hh:r8 hi' len h) (hl:r8 lo 0 l) (h1:l<=h) (h2:h<=cap) :
 (Instr.sliceAt T (.slice a len cap) lo hi' none).run P w=.ok (.slice (if cap=l then a else a.map (·.add (l*i.size))) (h-l) (cap-l)) w:=by
 simp[Instr.sliceAt,bf hu,Instr.slice,mG hh hl h1 h2,dO hi]
theorem mS{w:World}{M:Nat->Prop}{x:Option AV}{v:Option Value}(hn:x=none->v=none)(hx:∀a,x=some a->∃u,v=some u/\VRel w M a u){z:Nat}{K:Nat->Prop}(h:eH x z K) :
 ∃n,r8 v z n/\K n:=by
 unfold eH at h
 split at h
 ·exact⟨z,.inl ⟨hn rfl,rfl⟩,h⟩
 ·obtain⟨u,hu,hr⟩:=hx _ rfl
  cases hr
  exact⟨_,.inr ⟨_,_,hu,h.1,rfl⟩,h.2⟩
 ·exact h.elim
theorem ER{E:Env}(hE:EOk E){w:World}{M:Nat->Prop}{T:Nat}{x:AV}{u:Value}(hx:VRel w M x u){lo hi:Option AV}{vlo vhi:Option Value}
 (hl0:lo=none->vlo=none) (hl:∀a,lo=some a->∃u,vlo=some u/\VRel w M a u) (hh0:hi=none->vhi=none) (hh:∀a,hi=some a->∃u,vhi=some u/\VRel w M a u)
 {K:AV->Prop}(h:kG E T x lo hi K) :
 ∃r av,(Instr.sliceAt T u vlo vhi none).run E.P w=.ok r w/\VRel w M av r/\K av:=by
 unfold kG at h;replace hx:=hx.norm;generalize x.norm=x at h hx
 split at h
 ·rename_i rows
  obtain⟨e,te,i,hu,ht,hi',hs,-,hrl,h⟩:=dM hE h;obtain⟨nh,bh,hnh,h⟩:=mS hh0 hh h;obtain⟨nl,bl,hnl,h⟩:=mS hl0 hl h
  cases hx with
  | ro rows x hr =>
    have hrr:=hr
    cases hr with
    | empty a cap =>
      have e1:nh=0:=by simpa using hnh
      subst e1;have e2:nl=0:=aa;subst e2;refine⟨_,_,iN hu hi' bh bl aa aa,?_,h⟩;exact Kx
    | slice b off cap sz cs T' fr rows F hcap hmax hsz hS hb hfit hown hF hd hlen hr =>
      refine⟨_,_,iN hu hi' bh bl hnl aa,?_,h⟩;refine .ro _ _ (Rd.cut rfl hrr hnl aa hrl _ ?_);intro hne;rw[au aa,hs];simp[eP]
 ·rename_i k H sz off len
  obtain⟨e,te,i,hu,ht,hi',hs,-,hsz,h⟩:=dM hE h;obtain⟨nh,bh,hnh,h⟩:=mS hh0 hh h;obtain⟨nl,bl,hnl,h⟩:=mS hl0 hl h
  cases hx with
  | sl k H sz off len x hx =>
    cases H with
    | none =>
      obtain⟨⟨a,rfl⟩,rfl⟩:=hx;have e1:nh=0:=aa;subst e1;have e2:nl=0:=aa;subst e2;refine⟨_,_,iN hu hi' bh bl aa aa,?_,h⟩;exact .sl _ _ _ _ _ _ ⟨⟨_,rfl⟩,rfl⟩
    | some q =>
      obtain⟨b,o,C⟩:=q;rcases hx with⟨rfl,hC⟩|⟨rfl,hpos,a,rfl⟩
      ·refine⟨_,_,iN hu hi' bh bl hnl aa,?_,h⟩
       refine .sl _ _ _ _ _ _ ?_;by_cases hz:C-off=nl
       ·by_cases hp:nl=0
        ·subst hp
         left
         have hz':off=C:=aa;have hnh':nh=0:=aa;subst hnh';refine⟨by simp[eP],aa⟩
        ·right
         exact⟨aa,aa,_,by rw[show nh-nl=0 from aa,show C-off-nl=0 from aa]⟩
       ·left
        refine⟨?_,aa⟩;rw[au hz,hs,hsz];simp[eP,eN,eF];omega
      ·have e1:nh=0:=by omega
       subst e1;have e2:nl=0:=aa;subst e2;refine⟨_,_,iN hu hi' bh bl aa aa,?_,h⟩;exact .sl _ _ _ _ _ _ (.inr ⟨aa,aa,_,rfl⟩)
 ·rename_i s
  obtain⟨hstr,h⟩:=h;obtain⟨nh,bh,hnh,h⟩:=mS hh0 hh h;obtain⟨nl,bl,hnl,h⟩:=mS hl0 hl h
  cases hx
  unfold Env.isStr at hstr
  split at hstr
  ·rename_i ti hti
   have hu:=(hE.1 _ _ hti).str hstr;refine⟨.string (s.extract nl nh),_,?_,.v _ rfl,h⟩;simp[Instr.sliceAt,bf hu,Instr.slice,mG bh bl hnl hnh]
  ·exact hstr.elim
 ·exact h.elim
theorem jx{P:Program}{w:World}{T e:Nat}{i:TypeInfo}(hu:P.underlying T=some (.slice e))(hi:P.info? e=some i){len cap l:Nat}{h m:Int}{kh km:IntKind}{lo:Option Value}{a:Option Addr}
 (h0:0<=h) (m0:0<=m) (hl:r8 lo 0 l) (h1:l<=h.toNat) (h2:h.toNat<=m.toNat) (h3:m.toNat<=cap) :
 (Instr.sliceAt T (.slice a len cap) lo (some (.int kh h)) (some (.int km m))).run P w=.ok (.slice (if m.toNat=l then a else a.map (·.add (l*i.size))) (h.toNat-l) (m.toNat-l)) w:=by
 have e1:m<=(cap:Int):=aa;have e2:h<=((m.toNat:Nat):Int):=aa;have e2':h<=max m 0:=aa
 have hb:(Instr.sliceBounds true len cap lo (some (.int kh h)) (some (.int km m))).run P w=.ok (l,h.toNat,m.toNat) w:=by
  rcases hl with⟨rfl,rfl⟩|⟨k',m',rfl,h0',rfl⟩
  ·simp[Instr.sliceBounds,Instr.sliceBound,asIntOf,h0,m0,e1,e2']
  ·have e3:m'<=max h 0:=by omega
   simp[Instr.sliceBounds,Instr.sliceBound,asIntOf,h0,m0,h0',e1,e2',e3]
 simp[Instr.sliceAt,bf hu,Instr.slice,hb,dO hi]
theorem Rd.shrink{w:World}{S:Nat->Prop}{a:Option Addr}{n cap cap':Nat}{rows:List (List CD)}(h:Rd w false S (.slice a n cap) (.s rows))(h1:n<=cap')(h2:cap'<=cap):Rd w false S (.slice a n cap') (.s rows):=by
 cases h with
 |empty=>exact .empty _ _ eC
 |slice b off cap sz cs T' fr rows F hcap hmax hsz hS hb hfit hown hF hd hlen hr=>exact .slice b off _ sz cs T' fr rows F h1 aa hsz hS hb hfit eC hF hd hlen hr
theorem kU{x:AV}{z:Nat}{K:Nat->Prop}(h:eH (some x) z K):∃k n,x=.v (.int k n)/\0<=n/\K n.toNat:=by
 unfold eH at h
 split at h
 ·rename_i heq;cases heq
 ·rename_i heq;cases heq;exact⟨_,_,rfl,h.1,h.2⟩
 ·exact cA
theorem AN{E:Env}(hE:EOk E){w:World}{M:Nat->Prop}{T:Nat}{x:AV}{u:Value}(hx:VRel w M x u){lo hi:Option AV}{mx:AV}{vlo vhi:Option Value}{vmx:Value}
 (hl0:lo=none->vlo=none) (hl:∀a,lo=some a->∃u,vlo=some u/\VRel w M a u) (hh:∀a,hi=some a->∃u,vhi=some u/\VRel w M a u) (hm:VRel w M mx vmx)
 {K:AV->Prop}(h:pr E T x lo hi mx K) :
 ∃r av,(Instr.sliceAt T u vlo vhi (some vmx)).run E.P w=.ok r w/\VRel w M av r/\K av:=by
 unfold pr at h;replace hx:=hx.norm;generalize x.norm=x at h hx
 split at h
 ·rename_i rows hv
  obtain⟨e,te,i,hu,ht,hi',hs,-,hrl,hq⟩:=dM hE h
  clear h
  obtain⟨uh,rfl,hh1⟩:=hh hv rfl
  clear hh
  obtain⟨kh,qh,rfl,h0,hq⟩:=kU hq;obtain⟨km,qm,rfl,m0,hnh,hnm,hq⟩:=kU hq;obtain⟨nl,bl,hnl,hq⟩:=mS hl0 hl hq
  cases hh1
  cases hm
  cases hx with
  | ro rows x hr =>
    have hrr:=hr
    cases hr with
    | empty a cap =>
      simp at hnm;refine⟨_,_,jx hu hi' h0 m0 bl aa aa aa,?_,hq⟩;have e3:qh.toNat=0:=aa;have e2:nl=0:=aa;have e4:qm.toNat=0:=aa;rw[e3,e2,e4];exact Kx
    | slice b off cap sz cs T' fr rows F hcap hmax hsz hS hb hfit hown hF hd hlen hr =>
      refine⟨_,_,jx hu hi' h0 m0 bl hnl hnh aa,?_,hq⟩;have:=Rd.cut (cap:=cap) rfl hrr hnl aa hrl (if qm.toNat=nl then some ⟨b,off,none⟩else(some (⟨b,off,none⟩:Addr)).map (·.add (nl*i.size))) (λhne=>by rw[au aa,hs];simp[eP]);replace this:=this.shrink (cap':=qm.toNat-nl) aa aa;exact .ro _ _ this
 ·rename_i k b o C sz off len hv
  obtain⟨e,te,i,hu,ht,hi',hs,-,hsz,rfl,rfl,hq⟩:=dM hE h
  clear h
  obtain⟨uh,rfl,hh1⟩:=hh hv rfl
  clear hh
  obtain⟨kh,qh,rfl,h0,hq⟩:=kU hq;obtain⟨km,qm,rfl,m0,hnh,hnm,hq⟩:=kU hq;obtain rfl:=hl0 rfl
  cases hh1
  cases hm
  cases hx with
  | sl _ _ _ _ _ x hx =>
    rcases hx with⟨rfl,hC⟩|⟨rfl,hpos,a,rfl⟩
    ·refine⟨_,_,jx hu hi' h0 m0 (l:=0) (.inl ⟨rfl,rfl⟩) aa aa aa,?_,hq⟩
     refine .ml _ _ _ _ _ ?_;have hv:SlV (some (b,o,qm.toNat)) sz 0 qh.toNat (.slice (some ⟨b,o+0*sz,none⟩) qh.toNat (qm.toNat-0)):=.inl ⟨rfl,aa⟩
     have e:(if qm.toNat=0 then some (⟨b,o+0*sz,none⟩:Addr)else(some (⟨b,o+0*sz,none⟩:Addr)).map (·.add (0*i.size)))=some ⟨b,o+0*sz,none⟩:=by
      split
      ·rfl
      ·simp[eP]
     rw[e,jf];by_cases hm:MlS k sz qh.toNat
     ·exact .inl ⟨hm,hv⟩
     ·exact .inr ⟨mW λh=>hm (.inl h),hm,_,_,by rw[mW λh=>hm (.inl h)]⟩
    ·omega
 ·rename_i k sz off len hv
  obtain⟨e,te,i,hu,ht,hi',hs,-,hsz,rfl,hq0⟩:=dM hE h
  clear h
  obtain⟨uh,rfl,hh1⟩:=hh hv rfl
  clear hh
  obtain⟨kh,qh,rfl,h0,hq1⟩:=kU hq0
  clear hq0
  obtain⟨km,qm,rfl,m0,hnh,hnm,hq2⟩:=kU hq1
  clear hq1
  obtain rfl:=hl0 rfl
  cases hh1
  cases hm
  cases hx with
  | sl _ _ _ _ _ x hx =>
    obtain⟨⟨a,rfl⟩,rfl⟩:=hx;have e1:qh.toNat=0:=aa;have e2:qm.toNat=0:=aa;refine⟨_,_,jx hu hi' h0 m0 (l:=0) (.inl ⟨rfl,rfl⟩) aa aa aa,?_,hq2⟩;refine .ml _ _ _ _ _ ?_;rw[e1,e2];have hv:SlV none sz 0 0 (.slice (if 0=0 then a else a.map (·.add (0*i.size))) (0-0) (0-0)):=⟨⟨a,rfl⟩,rfl⟩;by_cases hm:MlS k sz 0
    ·exact .inl ⟨hm,hv⟩
    ·exact .inr ⟨rfl,hm,_,_,rfl⟩
 ·exact h.elim
theorem jJ{α β:Type}{f:α->β}{x:Option α}(g:α->Value)(h:x.map f=none):x.map g=none:=by cases x<;>simp_all
theorem yj{w:World}{M:Nat->Prop}{st:ASt}{a:Act}(hv:∀x,VRel w M (st.ev x) (a.eval x)){lo:Option Operand}{y:AV}(hy:lo.map st.ev=some y):∃u,lo.map a.eval=some u/\VRel w M y u:=by
 cases lo with
 |none=>simp at hy
 |some x=>simp at hy;subst hy;exact⟨_,rfl,hv x⟩
theorem IL{w:World}{M:Nat->Prop}{x y:AV}{u v:Value}(hx:VRel w M x u)(hy:VRel w M y v){K:Value->Value->Prop}(h:Pb x y K):x=.v u/\y=.v v/\plain u=true/\plain v=true/\K u v:=by
 unfold Pb at h
 split at h
 ·cases hx;cases hy
  exact⟨rfl,rfl,by assumption,by assumption,h⟩
 ·exact cA
theorem s9:∀(l:List AV) (is:List Int),kz l=some is->l=is.map λi=>.v (.int .i64 i)
 | [],is,h=>by simp[kz]at h;subst h;rfl
 | x :: l, is, h => by
   unfold kz at h
   split at h
   ·rename_i he;cases he
   ·rename_i a l' he
    cases he
    cases hi:kz l with
    |none=>simp[hi]at h
    | some js =>
      simp[hi]at h;subst h;rw[s9 l js hi];rfl
   ·cases h
theorem nr {P : Program} {w : World} (d : Nat) {xs ys : List Int} (hl : xs.length = ys.length) : ∀ (fs : List Field) (k : Nat), fs.map (·.offset) = (List.range xs.length).drop k → (∀ f ∈ fs, f.name ≠ "_" ∧ P.underlying f.type = some (.int .i64)) →
 (Op.eqFields (d+1) ((xs.map λi=>Value.int .i64 i).toArray) ((ys.map λi=>Value.int .i64 i).toArray) fs).run P w=.ok (decide (xs.drop k=ys.drop k)) w
 | [], k, hk, _ => by
   have h1:xs.length<=k:=by
    have:=oI List.length hk;simp at this;omega
   rw[bg h1,bg aa];simp[Op.eqFields]
 | f :: fs, k, hk, hf => by
   obtain⟨h1,h2⟩:=hf f (aK ..)
   have hlt:k<xs.length:=by
    have:=oI List.length hk;simp at this;omega
   have hy:k<ys.length:=aa
   have hd:(List.range xs.length).drop k=k::(List.range xs.length).drop (k+1):=by
    rw[cY oP];simp
   rw[hd]at hk;simp only[bK,Pu]at hk;have ih:=nr d hl fs (k+1) hk.2 (λg hg=>hf g (aD _ hg)) (P:=P) (w:=w);have hag:(isAgg f.type).run P w=.ok false w:=by simp[isAgg,bf h2]
   have p1:(part f.type ((xs.map λi=>Value.int .i64 i).toArray) f.offset).run P w=.ok (.int .i64 xs[k]) w:=by
    rw[hk.1];simp[part,hag,hlt]
   have p2:(part f.type ((ys.map λi=>Value.int .i64 i).toArray) f.offset).run P w=.ok (.int .i64 ys[k]) w:=by
    rw[hk.1];simp[part,hag,hy]
   have hiff:(xs.drop k=ys.drop k)=(xs[k]=ys[k]/\xs.drop (k+1)=ys.drop (k+1)):=by
    rw[cY hlt,cY hy,Pu]
   simp only[Op.eqFields,h1,ne_eq,not_false_eq_true,dk,eM,p1,p2,cM,run_equalIn_int _ _ _ _ _ _ _ h2,hiff];by_cases he:xs[k]=ys[k]
   ·simp[he,ih]
   ·simp[he]
theorem IW{E:Env}(hE:EOk E){w:World}{M:Nat->Prop}{op:BinOp}{T:Nat}{l m:List AV}{u v:Value}(hx:VRel w M (.agg l) u)(hy:VRel w M (.agg m) v){K:AV->Prop}(h:Pj E op T l m K) :
 ∃r av,(binOp op T u v).run E.P w=.ok r w/\(∀a b,(eqGuard op T a b u v).run E.P w=.ok () w)/\VRel w M av r/\K av:=by
 unfold Pj at h
 split at h
 ·rename_i ti hti
  obtain⟨hi,h⟩:=h
  split at h
  ·rename_i a b ha hb
   obtain⟨la,lb,h⟩:=h;obtain⟨fs,hu,hs,hg,ho,hf⟩:=(hE.1 _ _ hti).ieq hi;have hl:=s9 _ _ ha;have hm:=s9 _ _ hb
   have conv:∀{z:List AV}{is:List Int}{q:Value},z=is.map (λi=>AV.v (.int .i64 i))->VRel w M (.agg z) q->q=.agg (is.map λi=>Value.int .i64 i).toArray:=by
    intro z is q hz hq
    cases hq with
    | agg _ xs hs hh =>
      subst hz
      congr 1
      apply Array.ext
      ·simpa using hs
      ·intro i h1 h2
       have hi:i<is.length:=l8;have:=hh i (.v (.int .i64 is[i])) (by simp[hi]);rw[aT,VJ h1]at this;simp only[kM]at this
       have e:xs[i]=.int .i64 is[i]:=by
        generalize xs[i]=q at this
        cases this
        rfl
       simp[e]
   rw[conv hl hx,conv hm hy];have hfo:E.P.fieldsOf T=fs:=by simp[Program.fieldsOf,hu]
   have key:=run_equalIn_agg (P:=E.P) w 9999 T ((a.map λi=>Value.int .i64 i).toArray) ((b.map λi=>Value.int .i64 i).toArray) (by rw[hfo];exact hu) hs;rw[hfo,nr 9998 aa fs.toList 0 (by rw[la];simpa using ho) hf]at key;simp only[kH]at key
   split at h
   ·exact⟨_,_,by rw[run_eql_struct,key];rfl,λx y=>run_eqGuard_agg w _ _ _ _ _ _ hg,.v _ rfl,h⟩
   ·exact⟨_,_,by rw[run_neq_struct,key];rfl,λx y=>run_eqGuard_agg w _ _ _ _ _ _ hg,.v _ rfl,h⟩
   ·exact h.elim
  ·exact h.elim
 ·exact h.elim
theorem GL{E:Env}(hE:EOk E){w:World}{M:Nat->Prop}{op:BinOp}{T:Nat}{x y:AV}{u v:Value}(hx:VRel w M x u)(hy:VRel w M y v){K:AV->Prop}(h:oG E op T x y K) :
 ∃r av,(binOp op T u v).run E.P w=.ok r w/\(∀a b,(eqGuard op T a b u v).run E.P w=.ok () w)/\VRel w M av r/\K av:=by
 unfold oG at h
 split at h
 ·cases hx;cases hy
  rename_i hp _ _
  obtain⟨r,av,h1,h2,h3⟩:=IY hE (w:=w) (M:=M) h;exact⟨r,av,h1,λa b=>Fq _ _ _ _ (by assumption),h2,h3⟩
 ·exact IW hE hx hy h
 ·exact h.elim
theorem qN{w:World}{M:Nat->Prop}{x:AV}{u:Value}(hx:VRel w M x u){K:Bool->Prop}(h:mU x K):∃b,u=.bool b/\K b:=by
 unfold mU at h
 split at h
 ·cases hx;exact⟨_,rfl,h⟩
 ·exact cA
theorem IN{w:World}{M:Nat->Prop}{x:AV}{u:Value}(hx:VRel w M x u){K:AV->Prop}(h:xd x K) :
 K x/\((∃ad,u=.pointer (some ad))\/∃f y z,u=.func (.func f) y z):=by
 cases hx<;>simp only[xd]at h
 case p=>exact⟨h,.inl ⟨_,rfl⟩⟩
 case e=>exact⟨h,.inl ⟨_,rfl⟩⟩
 case rp=>exact⟨h,.inl ⟨_,rfl⟩⟩
 case clo=>exact⟨h,.inr ⟨_,_,_,rfl⟩⟩
 case v hp=>
  cases u
  case func fn y z=>
   cases fn
   case func f=>exact⟨h,.inr ⟨_,_,_,rfl⟩⟩
   all_goals exact h.elim
  all_goals exact h.elim
theorem GJ{E:Env}(hE:EOk E){w:World}{M:Nat->Prop}{s d:Nat}{x:AV}{u:Value}(hx:VRel w M x u){K:AV->Prop}(h:wN E s d x K) :
 ∃r av,(convert s d u).run E.P w=.ok r w/\VRel w M av r/\K av:=by
 obtain⟨hs,h⟩:=h
 have hsd:∃ds,E.P.underlying s=some ds:=by
  unfold Env.known at hs
  split at hs
  ·rename_i ti hti
   have ht:=hE.1 _ _ hti
   cases hg:ti.agg with
   |true=>obtain⟨fs,hu,-⟩:=ht.st hg;exact⟨_,hu⟩
   |false=>obtain⟨-,-,d,hu,-⟩:=ht.nst hg;exact⟨_,hu⟩
  ·exact hs.elim
 obtain⟨ds,hds⟩:=hsd
 split at h
 ·rename_i ti hti
  split at h
  ·rename_i k ki n hk
   cases hx
   have hdd:=(hE.1 _ _ hti).kd k hk;exact⟨.int k (k.wrap n),_,by simp[convert,bf hds,bf hdd,Conv.intToInt],.v _ rfl,h⟩
  ·exact h.elim
 ·exact h.elim
theorem im{w:World}{M E:Nat->Prop}{b o C sz off len:Nat}{rows:List (List CD)}{own:Bool}(h:eY w M E (.rows (some (b,o,C)) sz rows own))
 (hM:M b) {u:Value}(hu:SlV (some (b,o,C)) sz off len u) (hlen:off+len<=rows.length) :
 ∃S,Rd w own S u (.s (cut rows off len))/\∀c,S c->(c=b\/(own=true->E c)/\¬M c):=by
 obtain⟨cs,T,F,hb,hl,hC,hsz,hfit,hrl,hF,hd,hr⟩:=h;have hcl:(cut rows off len).length=len:=jI _ _ _ hlen;rcases hu with⟨rfl,hle⟩|⟨rfl,_,a,rfl⟩
 ·have hm:(off+(C-off))*sz<=C*sz:=aq sz aa
  have hm2:(off+len)*sz<=C*sz:=aq sz hle;rw[eN]at hm hm2
  have:=Rd.slice (w:=w) (x:=own) (S:=λc=>c=b\/(own=true->E c)/\¬M c) b (o+off*sz) (C-off) sz cs T (0,0) (cut rows off len) (λi j c=>F (off+i) j c)
   aa aa hsz (.inl rfl) hb (by rw[hcl];omega) (λ_=>⟨rfl,aa⟩)
   (λi j c hc=>⟨.inr (hF _ _ _ hc),λ_ he=>(hF _ _ _ hc).2 (he ▸ hM)⟩)
   (λho i j i' j' c hc hc'=>by have:=hd ho _ _ _ _ c hc hc';omega)
   (λrow hrow=>by
    obtain⟨i,hi⟩:=dQ hrow;rw[mq]at hi
    split at hi
    ·exact hrl _ (aP hi)
    ·simp at hi)
   (λi j row d hi hj=>by
    rw[mq]at hi
    split at hi
    ·have:=hr (off+i) j row d hi hj
     have e:o+off*sz+(i*sz+j)=o+((off+i)*sz+j):=xJ;rw[e];exact this
    ·simp at hi)
  rw[hcl]at this;exact⟨_,this,λc hc=>hc⟩
 ·have hc0:cut rows off 0=[]:=aA aa
  rw[hc0];exact⟨λ_=>False,.empty _ _ (λ_=>rfl),λ_ hc=>hc.elim⟩
theorem zJ:∀(l:List UInt8) (r:ByteArray),(l.map λb=>((b.toNat:Nat):Int)).foldl (λr n=>r.push (UInt8.ofNat n.toNat)) r=⟨(r.data.toList++l).toArray⟩
 | [],r=>ab
 | b :: l, r => by
   simp only[bK,pQ];rw[zJ l]
   have:(r.push (UInt8.ofNat ((b.toNat:Int)).toNat)).data.toList=r.data.toList++[b]:=by
    cases r
    simp[ByteArray.push]
   rw[this];simp
theorem IH{P:Program}{w:World}{S:Nat->Prop}{u:Value}{l:List UInt8}(h:Rd w false S u (.s (l.map hU))) :
 (Conv.bytesToString u).run P w=.ok (.string ⟨l.toArray⟩) w/\∃a n c,u=.slice a n c:=by
 have e0:=zJ l ByteArray.empty;simp only[ByteArray.empty,ByteArray.emptyWithCapacity]at e0;generalize hrows:l.map hU=rows at h
 cases h with
 | empty a cap h =>
   have:l=[]:=by simpa using hrows
   subst this;refine⟨?_,_,_,_,rfl⟩
   cases a with
   |none=>simp[Conv.bytesToString];rfl
   | some a =>
     have:=run_bytesToString (P:=P) w a 0 cap [] (by simpa using run_loadCells (P:=P) w a 0 (λ_=>undef) (by intro j hj;omega));rw[this];rfl
 | slice b off cap sz cs T fr rows' F hcap hmax hsz hS hb hfit hown hF hd hlen hr =>
   subst hrows;refine⟨?_,_,_,_,rfl⟩
   have hcells:((List.range (l.map hU).length).map λj=>cs.getD (off+j) undef)=(l.map λb=>((b.toNat:Nat):Int)).map (Value.int .u8):=by
    apply eO
    ·simp
    ·intro j h1 h2
     have hj:j<l.length:=l8;have hsz1:sz=1:=by have:=hlen (hU l[j]) (pS (aj hj));simpa[hU]using this.symm
     subst hsz1;have:=hr j 0 (hU l[j]) (.v (.int .u8 l[j].toNat)) (by simp[hj]) (by simp[hU]);simp only[Nat.mul_one,pT]at this;generalize hg:cs.getD (off+j) undef=g at this
     cases this with
     |plain hp=>simp only[og,List.getElem_range,hg]
   have hfit':off+(l.map hU).length<=cs.size:=by
    rcases l with _|⟨b0,l⟩
    ·simp only[jg,il]at hfit⊢;omega
    ·have hsz1:sz=1:=by have:=hlen (hU b0) ab;simpa[hU]using this.symm
     subst hsz1;omega
   have hl:=Bd (P:=P) hb (o:=off) (n:=(l.map hU).length) hfit';rw[hcells]at hl;have:=run_bytesToString (P:=P) w ⟨b,off,none⟩ (l.map hU).length cap _ hl;rw[this];simp only[ByteArray.empty,ByteArray.emptyWithCapacity];rw[e0];rfl
theorem tq{E:Env}(hE:EOk E){w:World}{M S:Nat->Prop}{s d:Nat}{u:Value}{rows:List (List CD)}(hx:Rd w false S u (.s rows)){K:AV->Prop}(h:EO E s d rows K) :
 ∃r av,(convert s d u).run E.P w=.ok r w/\VRel w M av r/\K av:=by
 obtain⟨hd,h⟩:=h;obtain⟨e,te,i,hu,ht,-,-,-,hk,l,rfl,hK⟩:=dM hE h;unfold Env.isStr at hd
 split at hd
 ·rename_i ti hti
  have hds:=(hE.1 _ _ hti).str hd;have hes:=ht.kd _ hk;obtain⟨hb,a,n,c,rfl⟩:=IH (P:=E.P) hx;exact⟨_,_,by rw[run_convert_bytes_string w s d e a n c hu hes hds,hb],.v _ rfl,hK⟩
 ·exact hd.elim
theorem ES{E:Env}(hE:EOk E){h:AH}{w:World}{Es:Nat->Nat->Prop}(H:HRel E.base h w Es){s d:Nat}{x:AV}{u:Value}(hx:VRel w h.M x u){K:AV->Prop}(hk:lR E h s d x K) :
 ∃r av,(convert s d u).run E.P w=.ok r w/\VRel w h.M av r/\K av:=by
 unfold lR at hk
 split at hk
 ·exact GJ hE hx hk
 ·cases hx with|ro rows x hr=>exact tq hE hr hk
 ·rename_i k Hd sz off len
  split at hk
  ·rename_i H' sz' rows own hget
   obtain⟨rfl,rfl,hlen,hk⟩:=hk
   cases hx with
   | sl _ _ _ _ _ _ hx =>
     have ho:=H.obj k;rw[hget]at ho
     cases Hd with
     | none =>
       obtain⟨⟨a,rfl⟩,rfl⟩:=hx;rw[show rows=[]from ho,show cut ([]:List (List CD)) off 0=[]from rq]at hk;exact tq (S:=λ_=>True) hE (.empty _ _ eC) hk
     | some q =>
       obtain⟨b,o,C⟩:=q;obtain⟨S,hrd,-⟩:=im ho ⟨k,iC⟩ hx hlen;exact tq hE hrd.weaken hk
  ·exact hk.elim
 ·exact hk.elim
theorem IS{E:Env}(hE:EOk E){w:World}{M:Nat->Prop}{T:Nat}{x i:AV}{u v:Value}(hx:VRel w M x u)(hi:VRel w M i v){K:AV->Prop}(h:GI E T x i K) :
 ∃r av,(Instr.index T u v).run E.P w=.ok r w/\VRel w M av r/\K av:=by
 unfold GI at h
 split at h
 ·rename_i s k n
  obtain⟨hstr,h0,hlt,h⟩:=h
  cases hx;cases hi
  unfold Env.isStr at hstr
  split at hstr
  ·rename_i ti hti
   have hu:=(hE.1 _ _ hti).str hstr;refine⟨_,_,?_,.v _ rfl,h⟩;simp[Instr.index,asIntOf,bf hu,h0,hlt]
  ·exact hstr.elim
 ·exact h.elim
theorem zY{P:Program}{w:World}{M:Nat->Prop}{x:AV}{u:Value}{i:Nat}(hx:VRel w M x u){K:AV->Prop}(h:fU x i K) :
 ∃r av,(Instr.extract u i).run P w=.ok r w/\VRel w M av r/\K av:=by
 unfold fU at h
 split at h
 ·rename_i l
  split at h
  ·rename_i av hav
   cases hx with
   | tup l xs hs hl =>
     have hlt:i<xs.size:=by rw[hs];exact(an.1 hav).1
     exact⟨xs.getD i undef,av,by simp[Instr.extract,hlt],hl _ _ hav,h⟩
  ·exact h.elim
 ·exact h.elim
theorem Pk{E:Env}{st:ASt}{a:Act}{w:World}(hR:Rep E.w0 E.base st a w){x:AV}{u:Value}(hx:VRel w st.h.M x u){K:AV->Prop}(h:aCv E x K):∃y,VRel w st.h.M y u/\K y:=by
 unfold aCv at h
 split at h
 ·obtain⟨rows,hr,h⟩:=h
  cases hx
  obtain⟨Es,hH⟩:=hR.heap;exact⟨_,.ro _ _ (Rd.map hr (λb hb _=>hR.below.block b hb) (λb hb _=>λ⟨k,hk⟩=>(hH.low k b hk).1 hb)),h⟩
 ·exact⟨_,hx,h⟩
theorem wC{E:Env}(hE:EOk E){st:ASt}{a:Act}{w:World}(hR:Rep E.w0 E.base st a w){o:Oper}{K:AV->Prop}(h:wD E st o.op K) :
 ∃r av,(execOp a.eval o).run E.P w=.ok (.value r) w/\VRel w st.h.M av r/\K av:=by
 have hv:=λx=>VRel.ev hR x
 obtain⟨Es,hH⟩:=hR.heap;unfold wD at h
 split at h
 ·rename_i x ho;exact⟨_,_,by simp[execOp,ho],hv x,h⟩
 ·rename_i x ho;exact⟨_,_,by simp[execOp,ho],hv x,h⟩
 ·rename_i c x y ho
  obtain⟨b,hb,h⟩:=qN (hv c) h
  cases b with
  |true=>exact⟨_,_,by simp[execOp,ho,hb,asBool],hv x,h.1 rfl⟩
  |false=>exact⟨_,_,by simp[execOp,ho,hb,asBool],hv y,h.2 rfl⟩
 ·rename_i T parts ho
  obtain⟨r,av,h1,h2,h3⟩:=ET hE (w:=w) (M:=st.h.M) (vparts:=parts.map λ(i,x)=>(i,a.eval x)) ab (λi p hi=>by
   simp only[bW,aR]at hi;obtain⟨q,hq,rfl⟩:=hi;exact⟨a.eval q.2,by simp at hq⊢;exact⟨q.1,q.2,hq,rfl,rfl⟩,hv _⟩) h
  exact⟨r,av,l7,h2,h3⟩
 ·rename_i T x ho
  unfold pN at h
  split at h
  ·rename_i ti hti
   obtain⟨r,av,h1,h2,h3⟩:=uu hH (hE.1 _ _ hti) (hv x) h;exact⟨r,av,l7,h2,h3⟩
  ·exact h.elim
 ·rename_i x ho
  obtain⟨hK,hcase⟩:=IN (hv x) h;refine⟨_,_,?_,hv x,hK⟩;rcases hcase with⟨ad,hu⟩|⟨f,y,z,hu⟩<;>simp[execOp,ho,hu]
 ·rename_i op T x y ty ho
  obtain⟨r,av,h1,hg,h2,h3⟩:=GL hE (hv x) (hv y) h;exact⟨r,av,by simp[execOp,ho,hg,h1],h2,h3⟩
 ·rename_i T x ho
  obtain⟨b,hb,h⟩:=qN (hv x) h;exact⟨.bool (!b),_,by simp[execOp,ho,hb,Op.unary],.v _ rfl,h⟩
 ·rename_i s d x ho
  obtain⟨r,av,h1,h2,h3⟩:=ES hE hH (hv x) h;exact⟨r,av,l7,h2,h3⟩
 ·rename_i f first caps ho
  obtain⟨hf,h⟩:=h;have hf':first = #[]:=by simpa using hf
  subst hf';exact⟨.func (.func f) #[] (caps.map a.eval),_,by simp[execOp,ho,Instr.makeFunc],.clo _ _ _ ab (uK hR _ _ (by cases caps;simp)),h⟩
 ·rename_i T x lo hi ho
  obtain⟨r,av,h1,h2,h3⟩:=ER hE (hv x) (vlo:=lo.map a.eval) (vhi:=hi.map a.eval) (jJ _) (λy hy=>yj hv hy)
   (jJ _) (λy hy=>yj hv hy) h
  exact⟨r,av,l7,h2,h3⟩
 ·rename_i T x f ho
  unfold pz at h
  split at h
  ·rename_i ti hti
   obtain⟨r,av,h1,h2,h3⟩:=AG (hE.1 _ _ hti) (hv x) h;exact⟨r,av,l7,h2,h3⟩
  ·exact h.elim
 ·rename_i T x f ho
  unfold pw at h
  split at h
  ·rename_i ti hti
   obtain⟨r,av,h1,h2,h3⟩:=Et (hE.1 _ _ hti) (hv x) h;exact⟨r,av,l7,h2,h3⟩
  ·exact h.elim
 ·rename_i T x i ho
  obtain⟨e,te,inf,hu,ht,hi,hs,-,h⟩:=dM hE h;obtain⟨y,hy,h⟩:=Pk hR (hv x) h;obtain⟨r,av,h1,h2,h3⟩:=AA hu hi hs hy (hv i) h;exact⟨r,av,l7,h2,h3⟩
 ·rename_i T x i ho
  obtain⟨r,av,h1,h2,h3⟩:=IS hE (hv x) (hv i) h;exact⟨r,av,l7,h2,h3⟩
 ·rename_i x i ho
  obtain⟨r,av,h1,h2,h3⟩:=zY (P:=E.P) (hv x) h;exact⟨r,av,l7,h2,h3⟩
 ·exact h.elim
theorem br(k j:Nat)(o:AObj)(h:AH):AH.get ((k,o)::h) j=if j=k then o else h.get j:=rfl
theorem pA{k:Nat}{o:AObj}{h:AH}{b:Nat}:AH.M ((k,o)::h) b↔o.blk=some b\/∃j,j≠k/\(h.get j).blk=some b:=by
 constructor
 ·rintro⟨j,hj⟩
  rw[br]at hj
  split at hj
  ·exact .inl hj
  ·rename_i hne;exact .inr ⟨j,hne,hj⟩
 ·rintro(h|⟨j,hne,hj⟩)
  ·exact⟨k,by rw[br,ao rfl];exact h⟩
  ·exact⟨j,by rw[br,au hne];exact hj⟩
theorem Tr.upd{base:Bs}{h:AH}{w w':World}{E:Nat->Nat->Prop}(_H:HRel base h w E){k:Nat}{o':AObj}(hsz:w.heap.size<=w'.heap.size)
 (hfr:∀b,b<w.heap.size->¬h.M b->w'.heap[b]? = w.heap[b]?)
 (hblk:∀b,o'.blk=some b->w.heap.size<=b\/(h.get k).blk=some b):Tr h.M w (AH.M ((k,o')::h)) w':=by
 refine⟨hsz,hfr,λb hb hM=>?_⟩;rcases pA.1 hM with h1|⟨j,-,hj⟩
 ·rcases hblk b h1 with h2|h2
  ·omega
  ·exact⟨k,h2⟩
 ·exact⟨j,hj⟩
theorem HRel.upd{base:Bs}{h:AH}{w w':World}{E:Nat->Nat->Prop}(H:HRel base h w E){k:Nat}{o':AObj}{Ek:Nat->Prop}(hsz:w.heap.size<=w'.heap.size)
 (hfr:∀b,b<w.heap.size->(¬h.M b\/∃j,j≠k/\(h.get j).blk=some b)->w'.heap[b]? = w.heap[b]?)
 (hblk:∀b,o'.blk=some b->(¬base.F b/\¬base.G b)/\(w.heap.size<=b\/(h.get k).blk=some b))
 (hobj:eY w' (AH.M ((k,o')::h)) Ek o')
 (hE:∀c,Ek c->¬base.G c/\c<w'.heap.size/\(∀j,j≠k->¬E j c)/\¬AH.M ((k,o')::h) c) :
 HRel base ((k,o')::h) w' (λj=>if j=k then Ek else E j):=by
 have t:Tr h.M w (AH.M ((k,o')::h)) w':=Tr.upd H hsz (λb hb hM=>hfr b hb (.inl hM)) (λb hb=>(hblk b hb).2);refine⟨λj=>?_,λj j' b hj hj'=>?_,λj b hj=>?_,λj c hc=>?_,λj j' c hc hc'=>?_,λj c hc=>?_⟩
 ·rw[br]
  by_cases hjk:j=k
  ·rw[ao hjk,ao hjk];exact hobj
  ·rw[au hjk,au hjk]
   exact(H.obj j).tr t (λb hb=>hfr b (H.lt hb) (.inr ⟨j,hjk,hb⟩)) (λc hc _=>hc)
 ·rw[br]at hj hj'
  by_cases h1:j=k<;>by_cases h2:j'=k
  ·rw[h1,h2]
  ·rw[ao h1]at hj;rw[au h2]at hj'
   rcases(hblk b hj).2 with h3|h3
   ·have:=H.lt hj';omega
   ·rw[h1];exact H.inj _ _ b h3 hj'
  ·rw[au h1]at hj;rw[ao h2]at hj'
   rcases(hblk b hj').2 with h3|h3
   ·have:=H.lt hj;omega
   ·rw[h2];exact H.inj _ _ b hj h3
  ·rw[au h1]at hj;rw[au h2]at hj'
   exact H.inj _ _ b hj hj'
 ·rw[br]at hj
  split at hj
  ·exact(hblk b hj).1
  ·exact H.low j b hj
 ·split at hc
  ·exact⟨(hE c hc).1,(hE c hc).2.1⟩
  ·exact⟨(H.elow j c hc).1,bV (H.elow j c hc).2 hsz⟩
 ·by_cases h1:j=k<;>by_cases h2:j'=k
  ·rw[h1,h2]
  ·rw[ao h1]at hc;rw[au h2]at hc'
   exact absurd hc' ((hE c hc).2.2.1 j' h2)
  ·rw[au h1]at hc;rw[ao h2]at hc'
   exact absurd hc ((hE c hc').2.2.1 j h1)
  ·rw[au h1]at hc;rw[au h2]at hc'
   exact H.einj _ _ c hc hc'
 ·by_cases h1:j=k
  ·rw[ao h1]at hc;exact(hE c hc).2.2.2
  ·rw[au h1]at hc;exact λhM=>H.em j c hc (t.mono c (H.elow j c hc).2 hM)
theorem HRel.kill{base:Bs}{h:AH}{w:World}{E:Nat->Nat->Prop}(H:HRel base h w E)(k:Nat):HRel base ((k,.dead)::h) w (λj=>if j=k then(λ_=>False)else E j):=
 H.upd (aF _) (λ_ _ _=>rfl) (λb hb=>l6) trivial (λ_ hc=>hc.elim)
theorem Tr.kill{base:Bs}{h:AH}{w:World}{E:Nat->Nat->Prop}(H:HRel base h w E)(k:Nat):Tr h.M w (AH.M ((k,.dead)::h)) w:=
 Tr.upd H (aF _) (λ_ _ _=>rfl) (λb hb=>l6)
theorem s7{base:Bs}{h:AH}{w:World}{E:Nat->Nat->Prop}(H:HRel base h w E){k b:Nat}(hk:(h.get k).blk=some b):¬AH.M ((k,.dead)::h) b:=by
 intro hM;rcases pA.1 hM with h1|⟨j,hne,hj⟩
 ·simp[AObj.blk]at h1
 ·exact hne (H.inj _ _ _ hj hk)
theorem EZ{h:AH}{k b:Nat}(hM:AH.M ((k,.dead)::h) b):h.M b:=by
 exact J1
structure Frz(base:Bs)(h:AH)(w:World)(E:Nat->Nat->Prop)(h':AH)(E':Nat->Nat->Prop)(o:Bool)(S:Nat->Prop)(u:Value)(d:CD):Prop where
 rel:HRel base h' w E'
 tr:Tr h.M w h'.M w
 rd:Rd w o S u d
 off:∀c,S c->¬h'.M c
 own:o=true->∀c,S c->((∃k,E k c)\/h.M c)/\∀j,¬E' j c
 sub:∀j c,E' j c->E j c
theorem tw{base:Bs}{h:AH}{w:World}{E:Nat->Nat->Prop}(H:HRel base h w E){av:AV}{u:Value}(hv:VRel w h.M av u){K:CD->AH->Bool->Prop}(hk:pR h av K) :
 ∃d h' o E' S,K d h' o/\Frz base h w E h' E' o S u d:=by
 unfold pR at hk
 split at hk
 ·cases hv with
  |v u hp=>exact⟨_,_,_,E,λ_=>False,hk,H,Tr.refl _ _,.plain hp,λ_ hc=>hc.elim,λ_ _ hc=>hc.elim,λ_ _ hc=>hc⟩
 ·cases hv
  exact⟨_,_,_,E,λ_=>False,hk,H,Tr.refl _ _,.empty _ _ (λ_=>rfl),λ_ hc=>hc.elim,λ_ _ hc=>hc.elim,λ_ _ hc=>hc⟩
 ·cases hv with
  |ro rows x hr=>exact⟨_,_,_,E,λb=>¬h.M b,hk,H,Tr.refl _ _,hr,λ_ hc=>hc,eC,λ_ _ hc=>hc⟩
 ·rename_i k Hd sz off len
  split at hk
  ·rename_i H' sz' rows own hget
   obtain⟨rfl,rfl,hlen,hK⟩:=hk
   cases hv with
   | sl _ _ _ _ _ x hx =>
     have ho:=H.obj k;rw[hget]at ho
     cases Hd with
     | none =>
       obtain⟨⟨a,rfl⟩,rfl⟩:=hx;have hr0:rows=[]:=ho;subst hr0;refine⟨_,_,_,_,λ_=>False,hK,H.kill k,Tr.kill H k,?_,λ_ hc=>hc.elim,λ_ _ hc=>hc.elim,λj c hc=>?_⟩
       ·rw[show cut ([]:List (List CD)) off 0=[]from rq]
        exact .empty _ _ (λ_=>rfl)
       ·exact ry
     | some q =>
       obtain⟨b,o,C⟩:=q;have hblk:(h.get k).blk=some b:=iC;obtain⟨S,hrd,hS⟩:=im ho ⟨k,hblk⟩ hx hlen;refine⟨_,_,_,_,S,hK,H.kill k,Tr.kill H k,hrd,?_,?_,λj c hc=>?_⟩
       ·intro c hc hM
        rcases hS c hc with rfl|⟨-,hn⟩
        ·exact s7 H hblk hM
        ·exact hn (EZ hM)
       ·intro hown c hc
        rcases hS c hc with rfl|⟨he,hn⟩
        ·refine⟨.inr ⟨k,hblk⟩,λj hj=>?_⟩
         split at hj
         ·exact hj
         ·exact H.em j c hj ⟨k,hblk⟩
        ·refine⟨.inl ⟨k,he hown⟩,λj hj=>?_⟩
         split at hj
         ·exact hj
         ·rename_i hne;exact hne (H.einj _ _ _ hj (he hown))
       ·exact ry
  ·exact hk.elim
 ·obtain⟨hm,hK⟩:=hk
  cases hv with
  | ml _ _ _ _ _ hx =>
    have hs:SlV _ _ 0 _ u:=hx.elim (λh=>h.2) (λh=>absurd hm h.2.1);exact⟨_,_,_,E,λ_=>False,hK,H,Tr.refl _ _,.h _ _ _ _ _ (λ_=>hs) (λ_ hn=>absurd hm hn),λ_ hc=>hc.elim,λ_ _ hc=>hc.elim,λ_ _ hc=>hc⟩
 ·exact hk.elim
def BV(h':AH)(av:AV)(d:CD):Prop:=∀k H sz len,av=.sl k H sz 0 len->(h'.get k).blk=none/\∃rows,d=.s rows/\rows.length=len/\∀row∈rows,row.length=sz
theorem BT{h:AH}{av:AV}{K K':CD->AH->Bool->Prop}(hm:∀d h' o,K d h' o->K' d h' o)(hk:pR h av K):pR h av K':=by
 unfold pR at hk⊢
 split at hk
 ·exact hm _ _ _ hk
 ·exact hm _ _ _ hk
 ·exact hm _ _ _ hk
 ·split at hk
  ·exact⟨hk.1,hk.2.1,hk.2.2.1,hm _ _ _ hk.2.2.2⟩
  ·exact hk.elim
 ·exact⟨hk.1,hm _ _ _ hk.2⟩
 ·exact hk.elim
theorem Pg{base:Bs}{h:AH}{w:World}{E:Nat->Nat->Prop}(H:HRel base h w E){av:AV}{K:CD->AH->Bool->Prop}(hk:pR h av K) :
 pR h av (λd h' o=>K d h' o/\BV h' av d/\(∀q,(h.get q).blk=none->(h'.get q).blk=none)/\(∃E',HRel base h' w E')/\Tr h.M w h'.M w):=by
 unfold pR at hk⊢
 split at hk
 ·exact⟨hk,λ_ _ _ _ e=>(by cases e),λ_ h=>h,⟨E,H⟩,Tr.refl _ _⟩
 ·exact⟨hk,λ_ _ _ _ e=>(by cases e),λ_ h=>h,⟨E,H⟩,Tr.refl _ _⟩
 ·exact⟨hk,λ_ _ _ _ e=>(by cases e),λ_ h=>h,⟨E,H⟩,Tr.refl _ _⟩
 ·rename_i k Hd sz off len
  split at hk
  ·rename_i H' sz' rows own hget
   obtain⟨rfl,rfl,hlen,hK⟩:=hk;refine⟨rfl,rfl,hlen,hK,?_,?_,⟨_,H.kill k⟩,Tr.kill H k⟩
   ·intro k' H2 sz2 len2 e
    injection e with e1 e2 e3 e4 e5
    subst e1;subst e2;subst e3;subst e4;subst e5;refine⟨by rw[br,ao rfl];rfl,cut rows 0 len,rfl,jI _ _ _ hlen,?_⟩;intro row hrow;rw[gL]at hrow;have hm:=ba (bu hrow);have ho:=H.obj k;rw[hget]at ho
    cases Hd with
    |none=>rw[show rows=[]from ho]at hm;simp at hm
    | some q =>
      exact J6
   ·intro q hq
    rw[br]
    split
    ·rfl
    ·exact hq
  ·exact hk.elim
 ·exact⟨hk.1,hk.2,λ_ _ _ _ e=>(by cases e),λ_ h=>h,⟨E,H⟩,Tr.refl _ _⟩
 ·exact hk.elim
theorem BV.mono{h1 h2:AH}{a:AV}{d:CD}(g:BV h1 a d)(hm:∀q,(h1.get q).blk=none->(h2.get q).blk=none):BV h2 a d:=λk H sz len e=>by
 obtain⟨g1,g2⟩:=g k H sz len e;exact⟨hm k g1,g2⟩
theorem zX{base:Bs}{w:World}:∀(l:List AV) {h:AH}{E:Nat->Nat->Prop}(_:HRel base h w E) {K:List CD->AH->Bool->Prop}(_:kK h l K),
 kK h l (λds h' o=>K ds h' o/\(∀(j:Nat) a d,l[j]? = some a->ds[j]? = some d->BV h' a d)/\∀q,(h.get q).blk=none->(h'.get q).blk=none)
 | [],h,E,H,K,hk=>⟨hk,λj a d hj=>oO,λ_ h=>h⟩
 | a :: l, h, E, H, K, hk => by
   unfold kK at hk⊢;refine BT ?_ (Pg H hk)
   rintro d h1 o1 ⟨hk1,g,hm,⟨E1,H1⟩,-⟩
   have:=zX l H1 hk1;refine aFrzL_mono ?_ this
   rintro ds h2 o2 ⟨hk2,gs,hm2⟩
   refine⟨hk2,λj a' d' hj hd=>?_,λq hq=>hm2 q (hm q hq)⟩
   cases j with
   |zero=>simp at hj hd;subst hj;subst hd;exact g.mono hm2
   |succ j=>exact gs j a' d' iZ l0
where
 aFrzL_mono:∀{l:List AV}{h:AH}{K K':List CD->AH->Bool->Prop},(∀d h' o,K d h' o->K' d h' o)->kK h l K->kK h l K'
 | [],h,K,K',hm,hk=>hm _ _ _ hk
 | a :: l, h, K, K', hm, hk => by
   unfold kK at hk⊢;exact BT (λd h' o hk=>aFrzL_mono (λ_ _ _ h=>hm _ _ _ h) hk) hk
structure FrzL(base:Bs)(h:AH)(w:World)(E:Nat->Nat->Prop)(h':AH)(E':Nat->Nat->Prop)(o:Bool)(S:Nat->Nat->Prop)(us:Nat->Value)(ds:List CD):Prop where
 rel:HRel base h' w E'
 tr:Tr h.M w h'.M w
 rd:∀i d,ds[i]? = some d->Rd w o (S i) (us i) d
 off:∀i c,S i c->¬h'.M c
 own:o=true->∀i c,S i c->((∃k,E k c)\/h.M c)/\∀j,¬E' j c
 inj:o=true->∀i i' c,S i c->S i' c->i=i'
 sub:∀j c,E' j c->E j c
theorem el{w:World}{o:Bool}{S:Nat->Prop}{u:Value}{d:CD}(x:Bool)(h:Rd w o S u d)(hx:x=true->o=true):Rd w x S u d:=by
 cases x with
 |false=>exact h.weaken
 |true=>rw[hx rfl]at h;exact h
theorem qS{w:World}{base:Bs}:∀(l:List AV) {h:AH}{E:Nat->Nat->Prop}(_:HRel base h w E) {us:Nat->Value}(_:∀i av,l[i]? = some av->VRel w h.M av (us i)) {K:List CD->AH->Bool->Prop}(_:kK h l K),
 ∃ds h' o E' S,K ds h' o/\ds.length=l.length/\FrzL base h w E h' E' o S us ds
 | [],h,E,H,us,_,K,hk=>⟨[],h,true,E,λ_ _=>False,hk,rfl,H,Tr.refl _ _,λi d hd=>nf,λ_ _ hc=>hc.elim,λ_ _ _ hc=>hc.elim,λ_ _ _ _ hc=>hc.elim,λ_ _ hc=>hc⟩
 | a :: l, h, E, H, us, hv, K, hk => by
   unfold kK at hk;obtain⟨d,h1,o1,E1,S1,hk1,F1⟩:=tw H (hv 0 a rfl) hk;obtain⟨ds,h2,o2,E2,S2,hk2,hl,F2⟩:=qS l F1.rel (us:=λi=>us (i+1)) (λi av hi=>(hv (i+1) av dN).tr F1.tr) hk1;refine⟨d::ds,h2,o1&&o2,E2,λi c=>match i with|0=>S1 c/\c<w.heap.size|i+1=>S2 i c,hk2,by simp[hl],F2.rel,F1.tr.trans F2.tr,?_,?_,?_,?_,λj c hc=>F1.sub j c (F2.sub j c hc)⟩
   ·intro i d' hd
    cases i with
    | zero =>
      simp at hd;subst hd;exact el _ F1.rd.within (λh=>nc)
    |succ i=>exact el _ (F2.rd i d' l0) (λh=>oN)
   ·intro i c hc
    cases i with
    |zero=>exact λhM=>F1.off c hc.1 (F2.tr.mono c hc.2 hM)
    |succ i=>exact F2.off i c hc
   ·intro ho i c hc
    simp at ho
    cases i with
    |zero=>exact⟨(F1.own ho.1 c hc.1).1,λj hj=>(F1.own ho.1 c hc.1).2 j (F2.sub j c hj)⟩
    | succ i =>
      obtain⟨h3,h4⟩:=F2.own ho.2 i c hc;refine⟨?_,h4⟩;rcases h3 with⟨k,hk⟩|hM
      ·exact .inl ⟨k,F1.sub k c hk⟩
      ·obtain⟨j,hj⟩:=hM
       exact .inr (F1.tr.mono c (F1.rel.lt hj) ⟨j,hj⟩)
   ·intro ho i i' c hc hc'
    simp at ho
    have key:∀i,(S1 c/\c<w.heap.size)->S2 i c->False:=by
     intro i h1 h2;rcases(F2.own ho.2 i c h2).1 with⟨k,hk⟩|hM
     ·exact(F1.own ho.1 c h1.1).2 k hk
     ·exact F1.off c h1.1 hM
    cases i<;>cases i'
    ·rfl
    ·exact(key _ hc hc').elim
    ·exact(key _ hc' hc).elim
    ·rw[F2.inj ho.2 _ _ c hc hc']
theorem Rep.put{w0:World}{base:Bs}{st:ASt}{a:Act}{w:World}(hR:Rep w0 base st a w){d:Option Nat}{av:AV}{v:Value}(hv:VRel w st.h.M av v){K:ASt->Prop}(h:bM st d av K) :
 K (st.aft d av st.h)/\Rep w0 base (st.aft d av st.h) (a.put d v) w:=by
 cases d with
 |none=>exact⟨h,hR⟩
 | some d =>
   obtain⟨hd,hK⟩:=h;refine⟨hK,hR.dfr,by simp[Act.put,ASt.aft,hR.size],λi=>?_,hR.heap,hR.below,hR.base_le⟩;have hs:=hR.size
   show VRel w st.h.M (bB ((d,av)::st.t) i) _
   unfold bB
   split
   ·rename_i h;subst h
    have:(a.put (some i) v).tmps.getD i undef=v:=by simp[Act.put];omega
    rw[this];exact hv
   ·rename_i hne
    have:(a.put (some d) v).tmps.getD i undef=a.tmps.getD i undef:=by
     simp[Act.put,Th hne]
    rw[this];exact hR.tmp i
structure Same(w w':World):Prop where
 os:w'.os=w.os
 tape:w'.tape=w.tape
 output:w'.output=w.output
structure Moved(w0:World)(base:Bs)(st:ASt)(a:Act)(w:World)(h':AH)(w':World):Prop where
 rep:Rep w0 base { st with h:=h' } a w'
 tr:Tr st.h.M w h'.M w'
def pO(w0:World)(base:Bs)(st:ASt)(a:Act)(w:World)(d:Option Nat)(r:Value)(w':World)(K:ASt->Prop):Prop:=
 ∃av h',K (st.aft d av h')/\Rep w0 base (st.aft d av h') (a.put d r) w'/\(base.loose=false->Tr st.h.M w h'.M w')/\VRel w' h'.M av r
theorem Moved.put{w0:World}{base:Bs}{st:ASt}{a:Act}{w w':World}{h':AH}(m:Moved w0 base st a w h' w'){d:Option Nat}{av:AV}{v:Value}(hv:VRel w' h'.M av v){K:ASt->Prop}(h:bM { st with h:=h' } d av K) :
 pO w0 base st a w d v w' K:=by
 obtain⟨h1,h2⟩:=m.rep.put hv h
 cases d with
 |none=>exact⟨av,h',h1,h2,λ_=>m.tr,hv⟩
 |some d=>exact⟨av,h',h1,h2,λ_=>m.tr,hv⟩
theorem Rep.move{w0:World}{base:Bs}{st:ASt}{a:Act}{w w':World}(hR:Rep w0 base st a w){h':AH}{E':Nat->Nat->Prop}(H:HRel base h' w' E')(t:Tr st.h.M w h'.M w')(s:Same w w') :
 Moved w0 base st a w h' w':=by
 obtain⟨E,HE⟩:=hR.heap;refine⟨⟨hR.dfr,hR.size,λi=>(hR.tmp i).tr t,⟨E',H⟩,hR.below.trans ⟨s.os,s.tape,s.output,t.size,λk hk=>?_⟩,λb hb=>bV (hR.base_le b hb) t.size⟩,t⟩;refine t.frame k (hR.base_le k (.inl hk)) (λhM=>?_);obtain⟨j,hj⟩:=hM;exact(HE.low j k hj).1 hk
theorem Moved.move{w0:World}{base:Bs}{st:ASt}{a:Act}{w w1 w':World}{h1 h':AH}(m:Moved w0 base st a w h1 w1){E':Nat->Nat->Prop}(H:HRel base h' w' E')(t:Tr h1.M w1 h'.M w')(s:Same w1 w'):Moved w0 base st a w h' w':=by
 have:=m.rep.move H t s;exact⟨this.rep,m.tr.trans t⟩
theorem Moved.lend{w0:World}{base:Bs}{st:ASt}{a:Act}{w w':World}{h1:AH}(m:Moved w0 base st a w h1 w'){k sz:Nat}{H:Hd}{rows:List (List CD)}(_hb:(h1.get k).blk=none)
 (ho:eY w' h1.M (λ_=>False) (.lent H sz rows)):Moved w0 base st a w ((k,.lent H sz rows)::h1) w':=by
 obtain⟨E,HR⟩:=m.rep.heap;have t:Tr h1.M w' (AH.M ((k,.lent H sz rows)::h1)) w':=Tr.upd HR (aF _) (λ_ _ _=>rfl) (λb hb=>l6);exact m.move (HR.upd (k:=k) (o':=.lent H sz rows) (Ek:=λ_=>False) (aF _) (λ_ _ _=>rfl) (λb hb=>l6) (ho.tr t (λb hb=>l6) (λ_ hc _=>hc)) (λ_ hc=>hc.elim)) t ⟨rfl,rfl,rfl⟩
theorem ZE{h:AH}{k sz:Nat}{H:Hd}{rows:List (List CD)}{c:Nat}(hM:AH.M ((k,.lent H sz rows)::h) c):h.M c:=by
 exact J1
theorem Moved.lendL{w0:World}{base:Bs}{st:ASt}{a:Act}{w w':World}:∀(l:List AV) (ds:List CD) {h1:AH}(_:Moved w0 base st a w h1 w') {us:Nat->Value}(_:∀(j:Nat) av d,l[j]? = some av->ds[j]? = some d->BV h1 av d)
 (_:∀(j:Nat) k H sz off len,l[j]? = some (.sl k H sz off len)->SlV H sz off len (us j)) (_:∀(j:Nat) d,ds[j]? = some d->Rd w' false (λb=>¬h1.M b) (us j) d),Moved w0 base st a w (lendL l ds h1) w'
 | [],_,h1,m,us,_,_,_=>by unfold AM.lendL;exact m
 |_::_,[],h1,m,us,_,_,_=>by unfold AM.lendL;exact m
 | av :: l, d :: ds, h1, m, us, hg, hv, hr => by
   unfold AM.lendL
   have rest:∀h2:AH,Moved w0 base st a w h2 w'->(∀q,(h1.get q).blk=none->(h2.get q).blk=none)->(∀c,h2.M c->h1.M c)->Moved w0 base st a w (AM.lendL l ds h2) w':=λh2 m2 hb hM=>
    Moved.lendL l ds m2 (us:=λj=>us (j+1)) (λj av d hj hd=>(hg (j+1) av d iZ l0).mono hb) (λj k H sz off len hj=>hv (j+1) k H sz off len iZ)
     (λj d hd=>(hr (j+1) d l0).map (λ_ _ _=>rfl) (λc hc _ h=>hc (hM c h)))
   unfold uv
   split
   ·rename_i k H sz len rows
    obtain⟨hb,rows',e,hl,hrl⟩:=hg 0 _ _ rfl rfl k H sz len rfl
    injection e with e
    subst e;have hv0:=hv 0 k H sz 0 len rfl;have hr0:=hr 0 _ rfl;refine rest ((k,.lent H sz rows)::h1) (m.lend hb ⟨hrl,λhne=>?_,λx hx=>?_⟩) (λq hq=>by rw[br];split<;>first|rfl|exact hq) (λc hc=>ZE hc)
    ·cases H with
     |none=>exact absurd (aA (by rw[hl];exact hv0.2)) hne
     | some q =>
       obtain⟨b,o,C⟩:=q;rcases hv0 with⟨-,h2⟩|⟨-,h2,-⟩
       ·exact⟨b,o,C,rfl,aa⟩
       ·omega
    ·cases H with
     | none =>
       obtain⟨⟨a',rfl⟩,h0⟩:=hx;exact tT
     | some q =>
       obtain⟨b,o,C⟩:=q;rcases hv0 with⟨h1',h2⟩|⟨-,h2,-⟩
       ·rcases hx with⟨rfl,-⟩|⟨-,h3,-⟩
        ·rw[hl,<-h1'];exact hr0
        ·omega
       ·omega
   ·exact rest h1 m (λ_ h=>h) (λ_ h=>h)
theorem qq(w:World)(o:Obj):(w.alloc o).heap[w.heap.size]? = some o:=heap_alloc_new w o
theorem oA(w:World)(o:Obj){b:Nat}(h:b<w.heap.size):(w.alloc o).heap[b]? = w.heap[b]?:=Below.heap_alloc w o b h
theorem Rep.newer{w0:World}{base:Bs}{st:ASt}{a:Act}{w:World}(hR:Rep w0 base st a w){b:Nat}(h:w.heap.size<=b):¬base.F b/\¬base.G b:=
 ⟨λhf=>by have:=hR.base_le b (.inl hf);omega,λhf=>by have:=hR.base_le b (.inr hf);omega⟩
theorem Rep.newVars{w0:World}{base:Bs}{st:ASt}{a:Act}{w:World}(hR:Rep w0 base st a w)(k:Nat)(T:TypeId)(l:List AV)(cs:Array Value)(hs:cs.size=l.length)
 (hl:∀(j:Nat) (x:AV),l[j]? = some x->VRel w st.h.M x (cs.getD j undef)) :
 Moved w0 base st a w ((k,.vars w.heap.size T l)::st.h) (w.alloc (.cells cs T)):=by
 obtain⟨E,H⟩:=hR.heap
 have t:Tr st.h.M w (AH.M ((k,.vars w.heap.size T l)::st.h)) (w.alloc (.cells cs T)):=
  Tr.upd H ab (λb hb _=>oA w _ hb) (λb hb=>.inl (by simp[AObj.blk]at hb;omega))
 refine hR.move (H.upd (Ek:=λ_=>False) ab (λb hb _=>oA w _ hb) (λb hb=>?_) ⟨cs,qq w _,hs,λj x hj=>(hl j x hj).tr t⟩ (λ_ hc=>hc.elim)) t ⟨rfl,rfl,rfl⟩;simp[AObj.blk]at hb;subst hb;exact⟨hR.newer (aF _),.inl (aF _)⟩
theorem Pv{P:Program}{T:Nat}{ti:TI}(ht:TIok P T ti){w:World}{M:Nat->Prop}{z:Value}(hzc:z.cells.toList=ti.zero.map zv)(j:Nat)(x:AV)(hj:ti.zero[j]? = some x):VRel w M x (z.cells.getD j undef):=by
 have e:z.cells.getD j undef=zv x:=by
  exact Dh
 rw[e];rcases ht.zok x (aP hj)with rfl|⟨u,rfl,hp⟩
 ·exact .nil
 ·exact .v _ hp
theorem iY{ti:TI}{z:Value}(hzc:z.cells.toList=ti.zero.map zv):z.cells.size=ti.zero.length:=by
 have:=oI List.length hzc;exact i4
theorem EU{E:Env}(hE:EOk E){st:ASt}{a:Act}{w:World}(hR:Rep E.w0 E.base st a w){d:Option Nat}{T:Nat}{K:ASt->Prop}(h:vQ E st d T K) :
 ∃r w',(Instr.alloc T true (.tuple #[])).run E.P w=.ok r w'/\pO E.w0 E.base st a w d r w' K:=by
 unfold vQ at h
 split at h
 ·rename_i ti hti
  have ht:=hE.1 _ _ hti;obtain⟨i,z,hi,-,-,hz,hzc,-⟩:=ht.info;refine⟨.pointer (some ⟨w.heap.size,0,none⟩),w.alloc (.cells z.cells T),by simp[Instr.alloc,zeroValue,typeInfo,hi,hz,newVar,newRow],?_⟩;exact(hR.newVars (st.key d) T ti.zero z.cells (iY hzc) (λj x hj=>Pv ht hzc j x hj)).put (.p _ _ _) (h w.heap.size)
 ·exact h.elim
theorem IX{E:Env}{st:ASt}{a:Act}{w:World}(hR:Rep E.w0 E.base st a w){d:Option Nat}{T:Nat}{x:AV}{u:Value}(hx:VRel w st.h.M x u){K:ASt->Prop}(h:GK E st d T x K) :
 ∃r w',(Instr.box T u).run E.P w=.ok r w'/\pO E.w0 E.base st a w d r w' K:=by
 unfold GK at h
 split at h
 ·obtain⟨h1,h⟩:=h
  obtain⟨hs,hc⟩:=rV hx h1;refine⟨.pointer (some ⟨w.heap.size,0,none⟩),w.alloc (.cells u.cells T),by simp[Instr.box,newVar,newRow],?_⟩;exact(hR.newVars (st.key d) T x.cells u.cells hs hc).put (.p _ _ _) (h w.heap.size)
 ·exact h.elim
theorem pD{P:Program}{T:Nat}{ti:TI}(ht:TIok P T ti){w:World}{b o:Nat}{cs:Array Value}{T':TypeId}(hb:w.heap[b]? = some (.cells cs T' (0,0))){u:Value}(hn:u.cells.size=ti.n)
 (h1:∀v∈u.cells.toList,v.oneCell'=true) (hfit:o+ti.n<=cs.size) :
 (storeVar T ⟨b,o,none⟩ u).run P w=.ok () (w.setRow b (cs.toList.take o++u.cells.toList++cs.toList.drop (o+u.cells.size)).toArray):=by
 obtain⟨i,z,hi,hs,-⟩:=ht.info;have:=Pr (P:=P) b o T' u.cells.toList 0 cs w hb aM h1;simp[storeVar,dO hi,hs,hn]at this⊢;exact this
theorem dy(cs:Array Value)(o:Nat)(vs:List Value)(h:o+vs.length<=cs.size) :
 (cs.toList.take o++vs++cs.toList.drop (o+vs.length)).toArray.size=cs.size /\
 ∀j,(cs.toList.take o++vs++cs.toList.drop (o+vs.length)).toArray.getD j undef=if o<=j/\j<o+vs.length then vs.getD (j-o) undef else cs.getD j undef:=by
 refine⟨aM,λj=>?_⟩;have hlo:(cs.toList.take o).length=o:=aM;simp only[aT,gW];by_cases h1:j<o
 ·rw[au aa,bX,cX aa,cN]
  simp[h1]
 ·rw[bX,bd aa,hlo]
  by_cases h2:j<o+vs.length
  ·rw[ao aa,cX aa]
   simp
  ·rw[au aa,bd aa,dR]
   have:o+vs.length+(j-o-vs.length)=j:=aa;rw[this];simp
theorem Same.setRow(w:World)(g:Nat)(cs:Array Value):Same w (w.setRow g cs):=⟨rfl,rfl,rfl⟩
theorem Rep.storeVars{w0:World}{base:Bs}{st:ASt}{a:Act}{w:World}(hR:Rep w0 base st a w){k b c:Nat}{T:TypeId}{cells:List AV}(hget:st.h.get k=.vars b T cells){l:List AV}{us:List Value}
 (hl:us.length=l.length) (hr:∀(j:Nat) (x:AV),l[j]? = some x->VRel w st.h.M x (us.getD j undef)) (hfit:c+l.length<=cells.length) :
 ∃ cs, w.heap[b]? = some (.cells cs T (0, 0)) /\ c + us.length <= cs.size /\
   Moved w0 base st a w ((k,.vars b T (ix cells c l))::st.h) (w.setRow b (cs.toList.take c++us++cs.toList.drop (c+us.length)).toArray):=by
 obtain⟨E,H⟩:=hR.heap;have ho:=H.obj k;rw[hget]at ho;obtain⟨cs,hb,hs,hc⟩:=ho;have hfit':c+us.length<=cs.size:=aa;obtain⟨g1,g2⟩:=dy cs c us hfit';refine⟨cs,hb,hfit',?_⟩
 have hfr:∀b',b'<w.heap.size->(¬st.h.M b'\/∃j,j≠k/\(st.h.get j).blk=some b')->(w.setRow b (cs.toList.take c++us++cs.toList.drop (c+us.length)).toArray).heap[b']? = w.heap[b']?:=by
  intro b' _ h;refine sk w b b' _ (λhe=>?_);subst he;rcases h with h|⟨j,hne,hj⟩
  ·exact h ⟨k,iC⟩
  ·exact hne (H.inj _ _ _ hj iC)
 have t:Tr st.h.M w (AH.M ((k,.vars b T (ix cells c l))::st.h)) (w.setRow b (cs.toList.take c++us++cs.toList.drop (c+us.length)).toArray):=
  Tr.upd H ab (λb' hb' hM=>hfr b' hb' (.inl hM)) (λb' hb'=>.inr (by rw[hget];exact hb'))
 refine hR.move (H.upd (Ek:=λ_=>False) ab hfr (λb' hb'=>?_) ⟨_,dK w b cs _ T (0,0) hb,?_,?_⟩ (λ_ hc=>hc.elim)) t (Same.setRow _ _ _)
 ·have hk:(st.h.get k).blk=some b':=by rw[hget];exact hb'
  exact⟨H.low _ _ hk,.inr hk⟩
 ·rw[g1,lA _ _ _ hfit,hs]
 ·intro j x hj
  rw[p9 _ _ _ hfit]at hj;rw[g2 j]
  split at hj
  ·rename_i hh
   rw[ao aa];exact(hr _ _ hj).tr t
  ·rename_i hh
   rw[au aa];exact(hc _ _ hj).tr t
theorem Rep.newRows{w0:World}{base:Bs}{st:ASt}{a:Act}{w:World}(hR:Rep w0 base st a w){h:AH}{E:Nat->Nat->Prop}{E0:Nat->Nat->Prop}(H0:HRel base st.h w E0)(H:HRel base h w E)(tr:Tr st.h.M w h.M w)
 (k C:Nat) (T:TypeId) (sz:Nat) (hsz:0<sz) (rows:List (List CD)) (own:Bool) (cs:Array Value) (w':World) (hw':w'.heap=w.heap.push (.cells cs T)) (hso:Same w w')
 (hl:rows.length<=C) (hC:C<=maxLen) (hfit:C*sz<=cs.size)
 (hrl:∀row∈rows,row.length=sz) (F:Nat->Nat->Nat->Prop)
 (hr:∀(i j:Nat) (row:List CD) (d:CD),rows[i]? = some row->row[j]? = some d->Rd w own (F i j) (cs.getD (i*sz+j) undef) d)
 (hF:∀i j c,F i j c->¬h.M c) (hown:own=true->∀i j c,F i j c->((∃j,E0 j c)\/st.h.M c\/E k c)/\∀j,j≠k->¬E j c)
 (hinj:own=true->∀i j i' j' c,F i j c->F i' j' c->i=i'/\j=j') :
 Moved w0 base st a w ((k,.rows (some (w.heap.size,0,C)) sz rows own)::h) w':=by
 have hold:∀b,b<w.heap.size->w'.heap[b]? = w.heap[b]?:=λb hb=>by rw[hw',Array.getElem?_push,au aa]
 have hnew:w'.heap[w.heap.size]? = some (.cells cs T):=by rw[hw',Array.getElem?_push,ao rfl]
 have hsize:w'.heap.size=w.heap.size+1:=by rw[hw'];simp
 have t:Tr h.M w (AH.M ((k,.rows (some (w.heap.size,0,C)) sz rows own)::h)) w':=
  Tr.upd H aa (λb hb _=>hold b hb) (λb hb=>.inl (by simp[AObj.blk]at hb;omega))
 refine(hR.move H tr ⟨rfl,rfl,rfl⟩).move (H.upd (Ek:=λc=>own=true/\∃i j,F i j c/\c<w.heap.size) aa (λb hb _=>hold b hb) (λb hb=>?_)
  ⟨cs,T,λi j c=>F i j c/\c<w.heap.size,hnew,hl,hC,hsz,aa,hrl,?_,?_,?_⟩ ?_) t hso
 ·simp[AObj.blk]at hb
  subst hb;exact⟨hR.newer (aF _),.inl (aF _)⟩
 ·rintro i j c ⟨hc,hlt⟩
  exact⟨λho=>⟨ho,i,j,hc,hlt⟩,λhM=>hF i j c hc (t.mono c hlt hM)⟩
 ·rintro ho i j i' j' c ⟨hc,_⟩ ⟨hc',_⟩
  exact hinj ho i j i' j' c hc hc'
 ·intro i j row d hi hj
  rw[cE];exact(hr i j row d hi hj).map (λc hc hlt=>hold c hlt) (λc hc hlt=>⟨hc,hlt⟩)
 ·rintro c ⟨ho,i,j,hc,hlt⟩
  refine⟨?_,aa,(hown ho i j c hc).2,λhM=>hF i j c hc (t.mono c hlt hM)⟩;rcases(hown ho i j c hc).1 with⟨j,hj⟩|⟨j,hj⟩|hk
  ·exact(H0.elow j c hj).1
  ·exact(H0.low j c hj).2
  ·exact(H.elow k c hk).1
structure FrzR(base:Bs)(h:AH)(w:World)(E:Nat->Nat->Prop)(h':AH)(E':Nat->Nat->Prop)(o:Bool)(S:Nat->Nat->Nat->Prop)(us:Nat->Nat->Value)(rs:List (List CD)):Prop where
 rel:HRel base h' w E'
 tr:Tr h.M w h'.M w
 rd:∀i j row d,rs[i]? = some row->row[j]? = some d->Rd w o (S i j) (us i j) d
 off:∀i j c,S i j c->¬h'.M c
 own:o=true->∀i j c,S i j c->((∃k,E k c)\/h.M c)/\∀j,¬E' j c
 inj:o=true->∀i j i' j' c,S i j c->S i' j' c->i=i'/\j=j'
 sub:∀j c,E' j c->E j c
theorem wB{w:World}{base:Bs}{te:TI}:∀(parts:List (Nat×AV)) (i0:Nat) {h:AH}{E:Nat->Nat->Prop}(_:HRel base h w E) {us:Nat->Value}
 (_:∀(i:Nat) (p:Nat×AV),parts[i]? = some p->VRel w h.M p.2 (us i)) {K:List (List CD)->AH->Bool->Prop}(_:sP te h parts i0 K),
 ∃rs h' o E' S,K rs h' o/\rs.length=parts.length/\(∀row∈rs,row.length=te.n)/\(∀(i:Nat) (p:Nat×AV),parts[i]? = some p->p.1=i0+i/\(us i).cells.size=te.n)/\FrzR base h w E h' E' o S (λi j=>(us i).cells.getD j undef) rs
 | [],i0,h,E,H,us,_,K,hk=>⟨[],h,true,E,λ_ _ _=>False,hk,rfl,ab,ab,H,Tr.refl _ _,λi j row d hd=>nf,λ_ _ _ hc=>hc.elim,λ_ _ _ _ hc=>hc.elim,λ_ _ _ _ _ _ hc=>hc.elim,λ_ _ hc=>hc⟩
 | (jj, av) :: parts, i0, h, E, H, us, hv, K, hk => by
   unfold sP at hk;obtain⟨rfl,hn,hone,hk⟩:=hk;obtain⟨hcs,hcr⟩:=rV (hv 0 _ rfl) hone;obtain⟨ds,h1,o1,E1,S1,hk1,hl1,F1⟩:=qS av.cells H (us:=λj=>(us 0).cells.getD j undef) hcr hk;obtain⟨rs,h2,o2,E2,S2,hk2,hl,hlen,hp,F2⟩:=wB parts (jj+1) F1.rel (us:=λi=>us (i+1)) (λi av hi=>(hv (i+1) av dN).tr F1.tr) hk1;refine⟨ds::rs,h2,o1&&o2,E2,λi j c=>match i with|0=>S1 j c/\c<w.heap.size|i+1=>S2 i j c,hk2,by simp[hl],?_,?_,F2.rel,F1.tr.trans F2.tr,?_,?_,?_,?_,λj c hc=>F1.sub j c (F2.sub j c hc)⟩
   ·intro row hrow
    rcases aV.1 hrow with rfl|hm
    ·rw[hl1];exact hn
    ·exact hlen _ hm
   ·intro i p hi
    cases i with
    |zero=>simp at hi;subst hi;exact⟨rfl,hcs.trans hn⟩
    |succ i=>have:=hp i p dN;exact⟨aa,this.2⟩
   ·intro i j row d hi hj
    cases i with
    | zero =>
      simp at hi;subst hi;exact el _ (F1.rd j d hj).within (λh=>nc)
    |succ i=>exact el _ (F2.rd i j row d dN hj) (λh=>oN)
   ·intro i j c hc
    cases i with
    |zero=>exact λhM=>F1.off j c hc.1 (F2.tr.mono c hc.2 hM)
    |succ i=>exact F2.off i j c hc
   ·intro ho i j c hc
    simp at ho
    cases i with
    |zero=>exact⟨(F1.own ho.1 j c hc.1).1,λq hq=>(F1.own ho.1 j c hc.1).2 q (F2.sub q c hq)⟩
    | succ i =>
      obtain⟨h3,h4⟩:=F2.own ho.2 i j c hc;refine⟨?_,h4⟩;rcases h3 with⟨k,hk⟩|⟨q,hq⟩
      ·exact .inl ⟨k,F1.sub k c hk⟩
      ·exact .inr (F1.tr.mono c (F1.rel.lt hq) ⟨q,hq⟩)
   ·intro ho i j i' j' c hc hc'
    simp at ho
    have key:∀i j j',(S1 j c/\c<w.heap.size)->S2 i j' c->False:=by
     intro i j j' h1 h2;rcases(F2.own ho.2 i j' c h2).1 with⟨k,hk⟩|hM
     ·exact(F1.own ho.1 j c h1.1).2 k hk
     ·exact F1.off j c h1.1 hM
    cases i<;>cases i'
    ·exact⟨rfl,F1.inj ho.1 _ _ c hc.1 hc'.1⟩
    ·exact(key _ _ _ hc hc').elim
    ·exact(key _ _ _ hc' hc).elim
    ·have:=F2.inj ho.2 _ _ _ _ c hc hc';exact⟨by rw[this.1],this.2⟩
theorem BE(sz:Nat):∀(vs:List (Nat×Value)) (i0:Nat) (cells:Array Value),(∀(i:Nat) (p:Nat×Value),vs[i]? = some p->p.1=i0+i/\p.2.cells.size=sz)->(i0+vs.length)*sz<=cells.size ->
 ∃ cs, Instr.fill (λi => some (i * sz, sz)) cells vs = some cs /\ cs.size = cells.size /\
   (∀j,j<i0*sz->cs.getD j undef=cells.getD j undef)/\∀(i j:Nat) (p:Nat×Value),vs[i]? = some p->j<sz->cs.getD ((i0+i)*sz+j) undef=p.2.cells.getD j undef
 | [],i0,cells,_,_=>⟨cells,rfl,rfl,λ_ _=>rfl,λi j p hi=>na⟩
 | (jj, v) :: vs, i0, cells, hp, hfit => by
   obtain⟨hj,hs⟩:=hp 0 _ rfl;simp only[pT]at hj hs;subst hj
   have hfit':(jj+1+vs.length)*sz<=cells.size:=by
    have e:jj+1+vs.length=jj+(((jj,v)::vs).length):=aM;rw[e];exact hfit
   have hle:jj*sz+sz<=cells.size:=by
    have:=aq sz (show jj+1<=jj+1+vs.length from aa);rw[eN jj 1,Nat.one_mul]at this;omega
   obtain⟨g1,g2⟩:=vn (jj*sz) v.cells.toList 0 cells aM;rw[MW (λi=>some (i*sz,sz)) cells jj v vs (jj*sz) sz rfl hs hle,oJ];obtain⟨cs,h1,h2,h3,h4⟩:=BE sz vs (jj+1) _ (λi p hi=>by have:=hp (i+1) p dN;exact⟨aa,this.2⟩) (by rw[g1];exact hfit');refine⟨cs,h1,by rw[h2,g1],λj hj=>?_,λi j p hi hj=>?_⟩
   ·have hsm:(jj+1)*sz=jj*sz+sz:=bD jj sz
    rw[h3 j aa,g2 j,au aa]
   ·cases i with
    | zero =>
      simp at hi;subst hi;have hsm:(jj+1)*sz=jj*sz+sz:=bD jj sz;rw[pT,h3 _ aa,g2,ao aM];simp
    | succ i =>
      have:=h4 i j p dN hj;rw[show jj+(i+1)=jj+1+i from aa];exact this
theorem Hu(f:Nat->Value):(Array.range 0).map f = #[]:=oh ab
theorem uU{E:Env}(hE:EOk E){st:ASt}{a:Act}{w:World}(hR:Rep E.w0 E.base st a w){d:Option Nat}{T len:Nat}{parts:List (Nat×AV)}{vparts:Array (Nat×Value)}
 (hl:vparts.toList.length=parts.length) (hp:∀(i:Nat) (p:Nat×AV),parts[i]? = some p->∃v,vparts.toList[i]? = some (p.1,v)/\VRel w st.h.M p.2 v) {K:ASt->Prop}(h:jX E st d T len parts K) :
 ∃r w',(Instr.buildSlice T len vparts).run E.P w=.ok r w'/\pO E.w0 E.base st a w d r w' K:=by
 obtain⟨e,te,i,hu,ht,hi,hs,-,hn,hlen,hcap,h⟩:=dM hE h;obtain⟨E0,H0⟩:=hR.heap
 obtain⟨rs,h',o,E',S,hK,hrl,hlr,hpp,FR⟩:=wB parts 0 H0 (us:=λi=>(vparts.toList.getD i (0,undef)).2) (λi p hi=>by
  obtain⟨v,hv,hr⟩:=hp i p hi
  simpa[hv]using hr) h
 obtain⟨i',z,hi',-,-,hz,hzc,-⟩:=ht.info;have hii:i'=i:=Cp;subst hii
 have hvs:∀(k:Nat) (p:Nat×Value),vparts.toList[k]? = some p->p.1=0+k/\p.2.cells.size=te.n:=by
  intro k p hk;have hlt:k<parts.length:=by rw[<-hl];exact(an.1 hk).1
  obtain⟨v,hv,-⟩:=hp k _ (ak hlt);obtain⟨h1,h2⟩:=hpp k _ (ak hlt);rw[hk]at hv;have hv:=jC hv;subst hv;refine⟨h1,?_⟩
  simpa[hk]using h2
 have hvl:vparts.toList.length=len:=aa;obtain⟨cs,hf,hcs,-,hcr⟩:=BE te.n vparts.toList 0 ((Array.range (len*te.n)).map λi=>z.cells[i % z.cells.size]!) hvs (by rw[hvl];simp);refine⟨.slice (some ⟨w.heap.size,0,none⟩) len len,w.alloc (.cells cs e),?_,?_⟩
 ·have hc':¬(16777216<len*te.n):=by omega
  by_cases hzero:len*te.n=0
  ·have hl0:len=0:=by
    rcases Nat.mul_eq_zero.1 hzero with h|h
    ·exact h
    ·omega
   subst hl0
   have hv0:vparts = #[]:=by
    apply oh
    have:vparts.toList.length=vparts.size:=ab;omega
   subst hv0;have hcs0:cs = #[]:=oh (by rw[hcs];simp);subst hcs0;simp[Instr.buildSlice,bf hu,dO hi,hs,newRow,Instr.fill];rw[Hu]
  ·simp[Instr.buildSlice,bf hu,dO hi,hs,hc',hzero,zeroValue,typeInfo,hi,hz,newRow,hf]
 ·refine(hR.newRows H0 FR.rel FR.tr (st.key d) len e te.n hn rs o cs (w.alloc (.cells cs e)) rfl ⟨rfl,rfl,rfl⟩ aa ?_ (by rw[hcs];simp) hlr S ?_ FR.off ?_ FR.inj).put (.sl _ _ _ _ _ _ ?_) (hK w.heap.size)
  ·have:=bY len hn;simp[maxLen];omega
  ·intro i j row d' hi hj
   have hlt:i<vparts.toList.length:=by rw[hl,<-hrl];exact(an.1 hi).1
   have hjl:j<te.n:=by rw[<-hlr _ (aP hi)];exact(an.1 hj).1
   have:=FR.rd i j row d' hi hj;have hc:=hcr i j _ (ak hlt) hjl;rw[cE]at hc;rw[hc]
   simpa[ak hlt]using this
  ·intro ho i j c hc
   obtain⟨h1,h2⟩:=FR.own ho i j c hc;exact⟨h1.imp id .inl,λj _=>h2 j⟩
  ·exact .inl ⟨ab,aa⟩
theorem PL{P:Program}{T:Nat}{ti:TI}(ht:TIok P T ti){w:World}{z:Value}(hzc:z.cells.toList=ti.zero.map zv)(x:Bool)(S:Nat->Prop)(j:Nat)(d:CD)(hj:(ti.zero.map GX)[j]? = some d):Rd w x S (z.cells.getD j undef) d:=by
 simp only[bW,aR]at hj;obtain⟨av,hj,rfl⟩:=hj
 have e:z.cells.getD j undef=zv av:=by
  exact Dh
 rw[e];rcases ht.zok av (aP hj)with rfl|⟨u,rfl,hp⟩
 ·exact .empty _ _ (λ_=>rfl)
 ·exact .plain hp
theorem Av(z:Array Value)(n sz i j:Nat)(hz:z.size=sz)(hi:i<n)(hj:j<sz):(madeCells z (n*sz)).getD (i*sz+j) undef=z.getD j undef:=by
 have hlt:i*sz+j<n*sz:=by
  have:=aq sz (show i+1<=n from aa);exact tS
 simp only[madeCells,aT];rw[Array.getElem?_map,Array.getElem?_range,ao hlt];simp[hz,hj,u6 hj]
theorem GG{E:Env}(hE:EOk E){st:ASt}{a:Act}{w:World}(hR:Rep E.w0 E.base st a w){d:Option Nat}{T:Nat}{l c:AV}{u v:Value}(hl:VRel w st.h.M l u)(hc:VRel w st.h.M c v){K:ASt->Prop}(h:BR E st d T l c K) :
 ∃r w',(Instr.makeSlice T u v).run E.P w=.ok r w'/\pO E.w0 E.base st a w d r w' K:=by
 obtain⟨e,te,i,hu,ht,hi,hs,hby,hn,hbp,h⟩:=dM hE h;obtain⟨-,-,-,-,h⟩:=IL hl hc h
 split at h
 ·rename_i n m
  obtain⟨rfl,h0,hbytes,h⟩:=h;obtain⟨E0,H0⟩:=hR.heap;obtain⟨i',z,hi',-,-,hz,hzc,-⟩:=ht.info;have hii:i'=i:=Cp;subst hii;obtain⟨N,rfl⟩:=Int.eq_ofNat_of_zero_le h0
  have hNb:N*te.bytes<=140737488355328:=by
   have e:((N*te.bytes:Nat):Int)=(N:Int)*(te.bytes:Int):=Int.natCast_mul _ _;omega
  have hN:N<=140737488355328:=dW (bY N hbp) hNb;have hzs:z.cells.size=te.n:=by rw[iY hzc,ht.zlen]
  have hrun:=run_make (P:=E.P) w T e i' z hu hi hz .i64 .i64 (N:Int) (N:Int) h0 (Int.le_refl _) (by rw[hby];rw[Int.mul_comm];exact Int.le_trans hbytes ah) aa;simp only[cJ]at hrun;refine⟨_,_,hrun,?_⟩;rw[hs];have hlen:(List.replicate N (te.zero.map GX)).length=N:=ab;simp only[cJ]at h
  refine(hR.newRows H0 H0 (Tr.refl _ _) (st.key d) N e te.n hn (List.replicate N (te.zero.map GX)) true (madeCells z.cells (N*te.n)) (w.alloc (.cells (madeCells z.cells (N*te.n)) e)) rfl ⟨rfl,rfl,rfl⟩ aa
   gP (by rw[size_madeCells];exact aF _) ?_ (λ_ _ _=>False) ?_ (λ_ _ _ hc=>hc.elim) (λ_ _ _ _ hc=>hc.elim) (λ_ _ _ _ _ _ hc=>hc.elim)).put (.sl _ _ _ _ _ _ ?_) (h w.heap.size)
  ·intro row hrow
   rw[List.eq_of_mem_replicate hrow];simp[ht.zlen]
  ·intro i j row d' hi hj
   have hiN:i<N:=by rw[<-hlen];exact(an.1 hi).1
   have hrow:=List.eq_of_mem_replicate (aP hi);subst hrow;have hjn:j<te.n:=by rw[<-ht.zlen];simpa using (an.1 hj).1
   rw[Av _ _ _ _ _ hzs hiN hjn];exact PL ht hzc _ _ j d' hj
  ·exact .inl ⟨ab,aa⟩
 ·exact h.elim
end Go.AM
