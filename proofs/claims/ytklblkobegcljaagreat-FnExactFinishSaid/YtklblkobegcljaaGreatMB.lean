import Derived.Test.YtklblkobegcljaaGreatMA
namespace Go.AM
open Go.RowKit
def tC(v:Option Value)(z n:Nat):Prop:=(v=none/\n=z)\/∃k m,v=some (.int k m)/\0<=m/\n=m.toNat
theorem nw{P:Program}{w:World}{isS:Bool}{len cap l h:Nat}{lo hi:Option Value}(hh:tC hi len h)(hl:tC lo 0 l)(h1:l<=h)(h2:h<=cap) :
 (Instr.sliceBounds isS len cap lo hi none).run P w=.ok (l,h,cap) w:=by
 rcases hh with⟨rfl,rfl⟩|⟨k,m,rfl,h0,rfl⟩<;>rcases hl with⟨rfl,rfl⟩|⟨k',m',rfl,h0',rfl⟩
 ·simp[Instr.sliceBounds]
 ·have e:m'<=(h:Int):=by omega
  simp[Instr.sliceBounds,Instr.sliceBound,asIntOf,h0',e]
 ·have e:m<=(cap:Int):=by omega
  cases isS<;>simp[Instr.sliceBounds,Instr.sliceBound,asIntOf,h0,e]
 ·have e:m<=(cap:Int):=by omega
  have e':m'<=((m.toNat:Nat):Int):=aa;have e'':m'<=max m 0:=aa
  cases isS<;>simp[Instr.sliceBounds,Instr.sliceBound,asIntOf,h0,e,h0',e'']
theorem jl{P:Program}{w:World}{T e:Nat}{i:TypeInfo}(hu:P.underlying T=some (.slice e))(hi:P.info? e=some i){len cap l h:Nat}{lo hi':Option Value}{a:Option Addr}
 (hh:tC hi' len h) (hl:tC lo 0 l) (h1:l<=h) (h2:h<=cap) :
 (Instr.sliceAt T (.slice a len cap) lo hi' none).run P w=.ok (.slice (if cap=l then a else a.map (·.add (l*i.size))) (h-l) (cap-l)) w:=by
 simp[Instr.sliceAt,bj hu,Instr.slice,nw hh hl h1 h2,eh hi]
theorem nK{w:World}{M:Nat->Prop}{x:Option AV}{v:Option Value}(hn:x=none->v=none)(hx:∀a,x=some a->∃u,v=some u/\VRel w M a u){z:Nat}{K:Nat->Prop}(h:eW x z K) :
 ∃n,tC v z n/\K n:=by
 unfold eW at h
 split at h
 ·exact⟨z,.inl ⟨hn rfl,rfl⟩,h⟩
 ·obtain⟨u,hu,hr⟩:=hx _ rfl
  cases hr
  exact⟨_,.inr ⟨_,_,hu,h.1,rfl⟩,h.2⟩
 ·exact h.elim
theorem GG{E:Env}(hE:EOk E){w:World}{M:Nat->Prop}{T:Nat}{x:AV}{u:Value}(hx:VRel w M x u){lo hi:Option AV}{vlo vhi:Option Value}
 (hl0:lo=none->vlo=none) (hl:∀a,lo=some a->∃u,vlo=some u/\VRel w M a u) (hh0:hi=none->vhi=none) (hh:∀a,hi=some a->∃u,vhi=some u/\VRel w M a u)
 {K:AV->Prop}(h:lB E T x lo hi K) :
 ∃r av,(Instr.sliceAt T u vlo vhi none).run E.P w=.ok r w/\VRel w M av r/\K av:=by
 unfold lB at h;replace hx:=hx.norm;generalize x.norm=x at h hx
 split at h
 ·rename_i rows
  obtain⟨e,te,i,hu,ht,hi',hs,-,hrl,h⟩:=ed hE h;obtain⟨nh,bh,hnh,h⟩:=nK hh0 hh h;obtain⟨nl,bl,hnl,h⟩:=nK hl0 hl h
  cases hx with
  | ro rows x hr =>
    have hrr:=hr
    cases hr with
    | empty a cap =>
      have e1:nh=0:=by simpa using hnh
      subst e1;have e2:nl=0:=aa;subst e2;refine⟨_,_,jl hu hi' bh bl aa aa,?_,h⟩;exact MO
    | slice b off cap sz cs T' fr rows F hcap hmax hsz hS hb hfit hown hF hd hlen hr =>
      refine⟨_,_,jl hu hi' bh bl hnl aa,?_,h⟩;refine .ro _ _ (Rd.cut rfl hrr hnl aa hrl _ ?_);intro hne;rw[aq aa,hs];simp[fi]
 ·rename_i k H sz off len
  obtain⟨e,te,i,hu,ht,hi',hs,-,hsz,h⟩:=ed hE h;obtain⟨nh,bh,hnh,h⟩:=nK hh0 hh h;obtain⟨nl,bl,hnl,h⟩:=nK hl0 hl h
  cases hx with
  | sl k H sz off len x hx =>
    cases H with
    | none =>
      obtain⟨⟨a,rfl⟩,rfl⟩:=hx;have e1:nh=0:=aa;subst e1;have e2:nl=0:=aa;subst e2;refine⟨_,_,jl hu hi' bh bl aa aa,?_,h⟩;exact .sl _ _ _ _ _ _ ⟨⟨_,rfl⟩,rfl⟩
    | some q =>
      obtain⟨b,o,C⟩:=q;rcases hx with⟨rfl,hC⟩|⟨rfl,hpos,a,rfl⟩
      ·refine⟨_,_,jl hu hi' bh bl hnl aa,?_,h⟩
       refine .sl _ _ _ _ _ _ ?_;by_cases hz:C-off=nl
       ·by_cases hp:nl=0
        ·subst hp
         left
         have hz':off=C:=aa;have hnh':nh=0:=aa;subst hnh';refine⟨by simp[fi],aa⟩
        ·right
         exact⟨aa,aa,_,by rw[show nh-nl=0 from aa,show C-off-nl=0 from aa]⟩
       ·left
        refine⟨?_,aa⟩;rw[aq hz,hs,hsz];simp[fi,fg,et];omega
      ·have e1:nh=0:=by omega
       subst e1;have e2:nl=0:=aa;subst e2;refine⟨_,_,jl hu hi' bh bl aa aa,?_,h⟩;exact .sl _ _ _ _ _ _ (.inr ⟨aa,aa,_,rfl⟩)
 ·rename_i s
  obtain⟨hstr,h⟩:=h;obtain⟨nh,bh,hnh,h⟩:=nK hh0 hh h;obtain⟨nl,bl,hnl,h⟩:=nK hl0 hl h
  cases hx
  unfold Env.isStr at hstr
  split at hstr
  ·rename_i ti hti
   have hu:=(hE.1 _ _ hti).str hstr;refine⟨.string (s.extract nl nh),_,?_,.v _ rfl,h⟩;simp[Instr.sliceAt,bj hu,Instr.slice,nw bh bl hnl hnh]
  ·exact hstr.elim
 ·exact h.elim
theorem j7{P:Program}{w:World}{T e:Nat}{i:TypeInfo}(hu:P.underlying T=some (.slice e))(hi:P.info? e=some i){len cap l:Nat}{h m:Int}{kh km:IntKind}{lo:Option Value}{a:Option Addr}
 (h0:0<=h) (m0:0<=m) (hl:tC lo 0 l) (h1:l<=h.toNat) (h2:h.toNat<=m.toNat) (h3:m.toNat<=cap) :
 (Instr.sliceAt T (.slice a len cap) lo (some (.int kh h)) (some (.int km m))).run P w=.ok (.slice (if m.toNat=l then a else a.map (·.add (l*i.size))) (h.toNat-l) (m.toNat-l)) w:=by
 have e1:m<=(cap:Int):=aa;have e2:h<=((m.toNat:Nat):Int):=aa;have e2':h<=max m 0:=aa
 have hb:(Instr.sliceBounds true len cap lo (some (.int kh h)) (some (.int km m))).run P w=.ok (l,h.toNat,m.toNat) w:=by
  rcases hl with⟨rfl,rfl⟩|⟨k',m',rfl,h0',rfl⟩
  ·simp[Instr.sliceBounds,Instr.sliceBound,asIntOf,h0,m0,e1,e2']
  ·have e3:m'<=max h 0:=by omega
   simp[Instr.sliceBounds,Instr.sliceBound,asIntOf,h0,m0,h0',e1,e2',e3]
 simp[Instr.sliceAt,bj hu,Instr.slice,hb,eh hi]
theorem Rd.shrink{w:World}{S:Nat->Prop}{a:Option Addr}{n cap cap':Nat}{rows:List (List CD)}(h:Rd w false S (.slice a n cap) (.s rows))(h1:n<=cap')(h2:cap'<=cap):Rd w false S (.slice a n cap') (.s rows):=by
 cases h with
 |empty=>exact .empty _ _ eS
 |slice b off cap sz cs T' fr rows F hcap hmax hsz hS hb hfit hown hF hd hlen hr=>exact .slice b off _ sz cs T' fr rows F h1 aa hsz hS hb hfit eS hF hd hlen hr
theorem lS{x:AV}{z:Nat}{K:Nat->Prop}(h:eW (some x) z K):∃k n,x=.v (.int k n)/\0<=n/\K n.toNat:=by
 unfold eW at h
 split at h
 ·rename_i heq;cases heq
 ·rename_i heq;cases heq;exact⟨_,_,rfl,h.1,h.2⟩
 ·exact cM
theorem Ca{E:Env}(hE:EOk E){w:World}{M:Nat->Prop}{T:Nat}{x:AV}{u:Value}(hx:VRel w M x u){lo hi:Option AV}{mx:AV}{vlo vhi:Option Value}{vmx:Value}
 (hl0:lo=none->vlo=none) (hl:∀a,lo=some a->∃u,vlo=some u/\VRel w M a u) (hh:∀a,hi=some a->∃u,vhi=some u/\VRel w M a u) (hm:VRel w M mx vmx)
 {K:AV->Prop}(h:qy E T x lo hi mx K) :
 ∃r av,(Instr.sliceAt T u vlo vhi (some vmx)).run E.P w=.ok r w/\VRel w M av r/\K av:=by
 unfold qy at h;replace hx:=hx.norm;generalize x.norm=x at h hx
 split at h
 ·rename_i rows hv
  obtain⟨e,te,i,hu,ht,hi',hs,-,hrl,hq⟩:=ed hE h
  clear h
  obtain⟨uh,rfl,hh1⟩:=hh hv rfl
  clear hh
  obtain⟨kh,qh,rfl,h0,hq⟩:=lS hq;obtain⟨km,qm,rfl,m0,hnh,hnm,hq⟩:=lS hq;obtain⟨nl,bl,hnl,hq⟩:=nK hl0 hl hq
  cases hh1
  cases hm
  cases hx with
  | ro rows x hr =>
    have hrr:=hr
    cases hr with
    | empty a cap =>
      simp at hnm;refine⟨_,_,j7 hu hi' h0 m0 bl aa aa aa,?_,hq⟩;have e3:qh.toNat=0:=aa;have e2:nl=0:=aa;have e4:qm.toNat=0:=aa;rw[e3,e2,e4];exact MO
    | slice b off cap sz cs T' fr rows F hcap hmax hsz hS hb hfit hown hF hd hlen hr =>
      refine⟨_,_,j7 hu hi' h0 m0 bl hnl hnh aa,?_,hq⟩;have:=Rd.cut (cap:=cap) rfl hrr hnl aa hrl (if qm.toNat=nl then some ⟨b,off,none⟩else(some (⟨b,off,none⟩:Addr)).map (·.add (nl*i.size))) (λhne=>by rw[aq aa,hs];simp[fi]);replace this:=this.shrink (cap':=qm.toNat-nl) aa aa;exact .ro _ _ this
 ·rename_i k b o C sz off len hv
  obtain⟨e,te,i,hu,ht,hi',hs,-,hsz,rfl,rfl,hq⟩:=ed hE h
  clear h
  obtain⟨uh,rfl,hh1⟩:=hh hv rfl
  clear hh
  obtain⟨kh,qh,rfl,h0,hq⟩:=lS hq;obtain⟨km,qm,rfl,m0,hnh,hnm,hq⟩:=lS hq;obtain rfl:=hl0 rfl
  cases hh1
  cases hm
  cases hx with
  | sl _ _ _ _ _ x hx =>
    rcases hx with⟨rfl,hC⟩|⟨rfl,hpos,a,rfl⟩
    ·refine⟨_,_,j7 hu hi' h0 m0 (l:=0) (.inl ⟨rfl,rfl⟩) aa aa aa,?_,hq⟩
     refine .ml _ _ _ _ _ ?_;have hv:SlV (some (b,o,qm.toNat)) sz 0 qh.toNat (.slice (some ⟨b,o+0*sz,none⟩) qh.toNat (qm.toNat-0)):=.inl ⟨rfl,aa⟩
     have e:(if qm.toNat=0 then some (⟨b,o+0*sz,none⟩:Addr)else(some (⟨b,o+0*sz,none⟩:Addr)).map (·.add (0*i.size)))=some ⟨b,o+0*sz,none⟩:=by
      split
      ·rfl
      ·simp[fi]
     rw[e,jO];by_cases hm:MlS k sz qh.toNat
     ·exact .inl ⟨hm,hv⟩
     ·exact .inr ⟨nR λh=>hm (.inl h),hm,_,_,by rw[nR λh=>hm (.inl h)]⟩
    ·omega
 ·rename_i k sz off len hv
  obtain⟨e,te,i,hu,ht,hi',hs,-,hsz,rfl,hq0⟩:=ed hE h
  clear h
  obtain⟨uh,rfl,hh1⟩:=hh hv rfl
  clear hh
  obtain⟨kh,qh,rfl,h0,hq1⟩:=lS hq0
  clear hq0
  obtain⟨km,qm,rfl,m0,hnh,hnm,hq2⟩:=lS hq1
  clear hq1
  obtain rfl:=hl0 rfl
  cases hh1
  cases hm
  cases hx with
  | sl _ _ _ _ _ x hx =>
    obtain⟨⟨a,rfl⟩,rfl⟩:=hx;have e1:qh.toNat=0:=aa;have e2:qm.toNat=0:=aa;refine⟨_,_,j7 hu hi' h0 m0 (l:=0) (.inl ⟨rfl,rfl⟩) aa aa aa,?_,hq2⟩;refine .ml _ _ _ _ _ ?_;rw[e1,e2];have hv:SlV none sz 0 0 (.slice (if 0=0 then a else a.map (·.add (0*i.size))) (0-0) (0-0)):=⟨⟨a,rfl⟩,rfl⟩;by_cases hm:MlS k sz 0
    ·exact .inl ⟨hm,hv⟩
    ·exact .inr ⟨rfl,hm,_,_,rfl⟩
 ·exact h.elim
theorem ku{α β:Type}{f:α->β}{x:Option α}(g:α->Value)(h:x.map f=none):x.map g=none:=by cases x<;>simp_all
theorem zu{w:World}{M:Nat->Prop}{st:ASt}{a:Act}(hv:∀x,VRel w M (st.ev x) (a.eval x)){lo:Option Operand}{y:AV}(hy:lo.map st.ev=some y):∃u,lo.map a.eval=some u/\VRel w M y u:=by
 cases lo with
 |none=>simp at hy
 |some x=>simp at hy;subst hy;exact⟨_,rfl,hv x⟩
theorem KB{w:World}{M:Nat->Prop}{x y:AV}{u v:Value}(hx:VRel w M x u)(hy:VRel w M y v){K:Value->Value->Prop}(h:Rp x y K):x=.v u/\y=.v v/\plain u=true/\plain v=true/\K u v:=by
 unfold Rp at h
 split at h
 ·cases hx;cases hy
  exact⟨rfl,rfl,by assumption,by assumption,h⟩
 ·exact cM
theorem uD:∀(l:List AV) (is:List Int),lr l=some is->l=is.map λi=>.v (.int .i64 i)
 | [],is,h=>by simp[lr]at h;subst h;rfl
 | x :: l, is, h => by
   unfold lr at h
   split at h
   ·rename_i he;cases he
   ·rename_i a l' he
    cases he
    cases hi:lr l with
    |none=>simp[hi]at h
    | some js =>
      simp[hi]at h;subst h;rw[uD l js hi];rfl
   ·cases h
theorem ox {P : Program} {w : World} (d : Nat) {xs ys : List Int} (hl : xs.length = ys.length) : ∀ (fs : List Field) (k : Nat), fs.map (·.offset) = (List.range xs.length).drop k → (∀ f ∈ fs, f.name ≠ "_" ∧ P.underlying f.type = some (.int .i64)) →
 (Op.eqFields (d+1) ((xs.map λi=>Value.int .i64 i).toArray) ((ys.map λi=>Value.int .i64 i).toArray) fs).run P w=.ok (decide (xs.drop k=ys.drop k)) w
 | [], k, hk, _ => by
   have h1:xs.length<=k:=by
    have:=nP List.length hk;simp at this;omega
   rw[bm h1,bm aa];simp[Op.eqFields]
 | f :: fs, k, hk, hf => by
   obtain⟨h1,h2⟩:=hf f (aJ ..)
   have hlt:k<xs.length:=by
    have:=nP List.length hk;simp at this;omega
   have hy:k<ys.length:=aa
   have hd:(List.range xs.length).drop k=k::(List.range xs.length).drop (k+1):=by
    rw[dj pU];simp
   rw[hd]at hk;simp only[bL,List.cons.injEq]at hk;have ih:=ox d hl fs (k+1) hk.2 (λg hg=>hf g (aC _ hg)) (P:=P) (w:=w);have hag:(isAgg f.type).run P w=.ok false w:=by simp[isAgg,bj h2]
   have p1:(part f.type ((xs.map λi=>Value.int .i64 i).toArray) f.offset).run P w=.ok (.int .i64 xs[k]) w:=by
    rw[hk.1];simp[part,hag,hlt]
   have p2:(part f.type ((ys.map λi=>Value.int .i64 i).toArray) f.offset).run P w=.ok (.int .i64 ys[k]) w:=by
    rw[hk.1];simp[part,hag,hy]
   have hiff:(xs.drop k=ys.drop k)=(xs[k]=ys[k]/\xs.drop (k+1)=ys.drop (k+1)):=by
    rw[dj hlt,dj hy,List.cons.injEq]
   simp only[Op.eqFields,h1,ne_eq,not_false_eq_true,du,ff,p1,p2,cZ,run_equalIn_int _ _ _ _ _ _ _ h2,hiff];by_cases he:xs[k]=ys[k]
   ·simp[he,ih]
   ·simp[he]
theorem KN{E:Env}(hE:EOk E){w:World}{M:Nat->Prop}{op:BinOp}{T:Nat}{l m:List AV}{u v:Value}(hx:VRel w M (.agg l) u)(hy:VRel w M (.agg m) v){K:AV->Prop}(h:Rw E op T l m K) :
 ∃r av,(binOp op T u v).run E.P w=.ok r w/\(∀a b,(eqGuard op T a b u v).run E.P w=.ok () w)/\VRel w M av r/\K av:=by
 unfold Rw at h
 split at h
 ·rename_i ti hti
  obtain⟨hi,h⟩:=h
  split at h
  ·rename_i a b ha hb
   obtain⟨la,lb,h⟩:=h;obtain⟨fs,hu,hs,hg,ho,hf⟩:=(hE.1 _ _ hti).ieq hi;have hl:=uD _ _ ha;have hm:=uD _ _ hb
   have conv:∀{z:List AV}{is:List Int}{q:Value},z=is.map (λi=>AV.v (.int .i64 i))->VRel w M (.agg z) q->q=.agg (is.map λi=>Value.int .i64 i).toArray:=by
    intro z is q hz hq
    cases hq with
    | agg _ xs hs hh =>
      subst hz
      congr 1
      apply Array.ext
      ·simpa using hs
      ·intro i h1 h2
       have hi:i<is.length:=lZ;have:=hh i (.v (.int .i64 is[i])) (by simp[hi]);rw[aW,Yb h1]at this;simp only[lH]at this
       have e:xs[i]=.int .i64 is[i]:=by
        generalize xs[i]=q at this
        cases this
        rfl
       simp[e]
   rw[conv hl hx,conv hm hy];have hfo:E.P.fieldsOf T=fs:=by simp[Program.fieldsOf,hu]
   have key:=run_equalIn_agg (P:=E.P) w 9999 T ((a.map λi=>Value.int .i64 i).toArray) ((b.map λi=>Value.int .i64 i).toArray) (by rw[hfo];exact hu) hs;rw[hfo,ox 9998 aa fs.toList 0 (by rw[la];simpa using ho) hf]at key;simp only[jA]at key
   split at h
   ·exact⟨_,_,by rw[run_eql_struct,key];rfl,λx y=>run_eqGuard_agg w _ _ _ _ _ _ hg,.v _ rfl,h⟩
   ·exact⟨_,_,by rw[run_neq_struct,key];rfl,λx y=>run_eqGuard_agg w _ _ _ _ _ _ hg,.v _ rfl,h⟩
   ·exact h.elim
  ·exact h.elim
 ·exact h.elim
theorem I6{E:Env}(hE:EOk E){w:World}{M:Nat->Prop}{op:BinOp}{T:Nat}{x y:AV}{u v:Value}(hx:VRel w M x u)(hy:VRel w M y v){K:AV->Prop}(h:pK E op T x y K) :
 ∃r av,(binOp op T u v).run E.P w=.ok r w/\(∀a b,(eqGuard op T a b u v).run E.P w=.ok () w)/\VRel w M av r/\K av:=by
 unfold pK at h
 split at h
 ·cases hx;cases hy
  rename_i hp _ _
  obtain⟨r,av,h1,h2,h3⟩:=KQ hE (w:=w) (M:=M) h;exact⟨r,av,h1,λa b=>Hn _ _ _ _ (by assumption),h2,h3⟩
 ·exact KN hE hx hy h
 ·exact h.elim
theorem r7{w:World}{M:Nat->Prop}{x:AV}{u:Value}(hx:VRel w M x u){K:Bool->Prop}(h:nN x K):∃b,u=.bool b/\K b:=by
 unfold nN at h
 split at h
 ·cases hx;exact⟨_,rfl,h⟩
 ·exact cM
theorem KD{w:World}{M:Nat->Prop}{x:AV}{u:Value}(hx:VRel w M x u){K:AV->Prop}(h:yA x K) :
 K x/\((∃ad,u=.pointer (some ad))\/∃f y z,u=.func (.func f) y z):=by
 cases hx<;>simp only[yA]at h
 case p=>exact⟨h,.inl ⟨_,rfl⟩⟩
 case e=>exact⟨h,.inl ⟨_,rfl⟩⟩
 case rp=>exact⟨h,.inl ⟨_,rfl⟩⟩
 case clo=>exact⟨h,.inr ⟨_,_,_,rfl⟩⟩
 case v hp=>
  cases u
  case func fn y z=>
   cases fn
   case func f=>exact⟨h,.inr ⟨_,_,_,rfl⟩⟩
   all_goals exact h.elim
  all_goals exact h.elim
theorem I4{E:Env}(hE:EOk E){w:World}{M:Nat->Prop}{s d:Nat}{x:AV}{u:Value}(hx:VRel w M x u){K:AV->Prop}(h:yg E s d x K) :
 ∃r av,(convert s d u).run E.P w=.ok r w/\VRel w M av r/\K av:=by
 obtain⟨hs,h⟩:=h
 have hsd:∃ds,E.P.underlying s=some ds:=by
  unfold Env.known at hs
  split at hs
  ·rename_i ti hti
   have ht:=hE.1 _ _ hti
   cases hg:ti.agg with
   |true=>obtain⟨fs,hu,-⟩:=ht.st hg;exact⟨_,hu⟩
   |false=>obtain⟨-,-,d,hu,-⟩:=ht.nst hg;exact⟨_,hu⟩
  ·exact hs.elim
 obtain⟨ds,hds⟩:=hsd
 split at h
 ·rename_i ti hti
  split at h
  ·rename_i k ki n hk
   cases hx
   have hdd:=(hE.1 _ _ hti).kd k hk;exact⟨.int k (k.wrap n),_,by simp[convert,bj hds,bj hdd,Conv.intToInt],.v _ rfl,h⟩
  ·exact h.elim
 ·exact h.elim
theorem iP{w:World}{M E:Nat->Prop}{b o C sz off len:Nat}{rows:List (List CD)}{own:Bool}(h:fv w M E (.rows (some (b,o,C)) sz rows own))
 (hM:M b) {u:Value}(hu:SlV (some (b,o,C)) sz off len u) (hlen:off+len<=rows.length) :
 ∃S,Rd w own S u (.s (cut rows off len))/\∀c,S c->(c=b\/(own=true->E c)/\¬M c):=by
 obtain⟨cs,T,F,hb,hl,hC,hsz,hfit,hrl,hF,hd,hr⟩:=h;have hcl:(cut rows off len).length=len:=kt _ _ _ hlen;rcases hu with⟨rfl,hle⟩|⟨rfl,_,a,rfl⟩
 ·have hm:(off+(C-off))*sz<=C*sz:=ao sz aa
  have hm2:(off+len)*sz<=C*sz:=ao sz hle;rw[fg]at hm hm2
  have:=Rd.slice (w:=w) (x:=own) (S:=λc=>c=b\/(own=true->E c)/\¬M c) b (o+off*sz) (C-off) sz cs T (0,0) (cut rows off len) (λi j c=>F (off+i) j c)
   aa aa hsz (.inl rfl) hb (by rw[hcl];omega) (λ_=>⟨rfl,aa⟩)
   (λi j c hc=>⟨.inr (hF _ _ _ hc),λ_ he=>(hF _ _ _ hc).2 (he ▸ hM)⟩)
   (λho i j i' j' c hc hc'=>by have:=hd ho _ _ _ _ c hc hc';omega)
   (λrow hrow=>by
    obtain⟨i,hi⟩:=en hrow;rw[nf]at hi
    split at hi
    ·exact hrl _ (aO hi)
    ·simp at hi)
   (λi j row d hi hj=>by
    rw[nf]at hi
    split at hi
    ·have:=hr (off+i) j row d hi hj
     have e:o+off*sz+(i*sz+j)=o+((off+i)*sz+j):=y3;rw[e];exact this
    ·simp at hi)
  rw[hcl]at this;exact⟨_,this,λc hc=>hc⟩
 ·have hc0:cut rows off 0=[]:=aA aa
  rw[hc0];exact⟨λ_=>False,.empty _ _ (λ_=>rfl),λ_ hc=>hc.elim⟩
theorem Be:∀(l:List UInt8) (r:ByteArray),(l.map λb=>((b.toNat:Nat):Int)).foldl (λr n=>r.push (UInt8.ofNat n.toNat)) r=⟨(r.data.toList++l).toArray⟩
 | [],r=>ab
 | b :: l, r => by
   simp only[bL,qY];rw[Be l]
   have:(r.push (UInt8.ofNat ((b.toNat:Int)).toNat)).data.toList=r.data.toList++[b]:=by
    cases r
    simp[ByteArray.push]
   rw[this];simp
theorem Kv{P:Program}{w:World}{S:Nat->Prop}{u:Value}{l:List UInt8}(h:Rd w false S u (.s (l.map iE))) :
 (Conv.bytesToString u).run P w=.ok (.string ⟨l.toArray⟩) w/\∃a n c,u=.slice a n c:=by
 have e0:=Be l ByteArray.empty;simp only[ByteArray.empty,ByteArray.emptyWithCapacity]at e0;generalize hrows:l.map iE=rows at h
 cases h with
 | empty a cap h =>
   have:l=[]:=by simpa using hrows
   subst this;refine⟨?_,_,_,_,rfl⟩
   cases a with
   |none=>simp[Conv.bytesToString];rfl
   | some a =>
     have:=run_bytesToString (P:=P) w a 0 cap [] (by simpa using run_loadCells (P:=P) w a 0 (λ_=>undef) (by intro j hj;omega));rw[this];rfl
 | slice b off cap sz cs T fr rows' F hcap hmax hsz hS hb hfit hown hF hd hlen hr =>
   subst hrows;refine⟨?_,_,_,_,rfl⟩
   have hcells:((List.range (l.map iE).length).map λj=>cs.getD (off+j) undef)=(l.map λb=>((b.toNat:Nat):Int)).map (Value.int .u8):=by
    apply eA
    ·simp
    ·intro j h1 h2
     have hj:j<l.length:=lZ;have hsz1:sz=1:=by have:=hlen (iE l[j]) (ra (ak hj));simpa[iE]using this.symm
     subst hsz1;have:=hr j 0 (iE l[j]) (.v (.int .u8 l[j].toNat)) (by simp[hj]) (by simp[iE]);simp only[Nat.mul_one,nS]at this;generalize hg:cs.getD (off+j) undef=g at this
     cases this with
     |plain hp=>simp only[pg,List.getElem_range,hg]
   have hfit':off+(l.map iE).length<=cs.size:=by
    rcases l with _|⟨b0,l⟩
    ·simp only[jP,iN]at hfit⊢;omega
    ·have hsz1:sz=1:=by have:=hlen (iE b0) ab;simpa[iE]using this.symm
     subst hsz1;omega
   have hl:=CB (P:=P) hb (o:=off) (n:=(l.map iE).length) hfit';rw[hcells]at hl;have:=run_bytesToString (P:=P) w ⟨b,off,none⟩ (l.map iE).length cap _ hl;rw[this];simp only[ByteArray.empty,ByteArray.emptyWithCapacity];rw[e0];rfl
theorem uL{E:Env}(hE:EOk E){w:World}{M S:Nat->Prop}{s d:Nat}{u:Value}{rows:List (List CD)}(hx:Rd w false S u (.s rows)){K:AV->Prop}(h:GE E s d rows K) :
 ∃r av,(convert s d u).run E.P w=.ok r w/\VRel w M av r/\K av:=by
 obtain⟨hd,h⟩:=h;obtain⟨e,te,i,hu,ht,-,-,-,hk,l,rfl,hK⟩:=ed hE h;unfold Env.isStr at hd
 split at hd
 ·rename_i ti hti
  have hds:=(hE.1 _ _ hti).str hd;have hes:=ht.kd _ hk;obtain⟨hb,a,n,c,rfl⟩:=Kv (P:=E.P) hx;exact⟨_,_,by rw[run_convert_bytes_string w s d e a n c hu hes hds,hb],.v _ rfl,hK⟩
 ·exact hd.elim
theorem GH{E:Env}(hE:EOk E){h:AH}{w:World}{Es:Nat->Nat->Prop}(H:HRel E.base h w Es){s d:Nat}{x:AV}{u:Value}(hx:VRel w h.M x u){K:AV->Prop}(hk:mE E h s d x K) :
 ∃r av,(convert s d u).run E.P w=.ok r w/\VRel w h.M av r/\K av:=by
 unfold mE at hk
 split at hk
 ·exact I4 hE hx hk
 ·cases hx with|ro rows x hr=>exact uL hE hr hk
 ·rename_i k Hd sz off len
  split at hk
  ·rename_i H' sz' rows own hget
   obtain⟨rfl,rfl,hlen,hk⟩:=hk
   cases hx with
   | sl _ _ _ _ _ _ hx =>
     have ho:=H.obj k;rw[hget]at ho
     cases Hd with
     | none =>
       obtain⟨⟨a,rfl⟩,rfl⟩:=hx;rw[show rows=[]from ho,show cut ([]:List (List CD)) off 0=[]from sH]at hk;exact uL (S:=λ_=>True) hE (.empty _ _ eS) hk
     | some q =>
       obtain⟨b,o,C⟩:=q;obtain⟨S,hrd,-⟩:=iP ho ⟨k,i7⟩ hx hlen;exact uL hE hrd.weaken hk
  ·exact hk.elim
 ·exact hk.elim
theorem KH{E:Env}(hE:EOk E){w:World}{M:Nat->Prop}{T:Nat}{x i:AV}{u v:Value}(hx:VRel w M x u)(hi:VRel w M i v){K:AV->Prop}(h:I3 E T x i K) :
 ∃r av,(Instr.index T u v).run E.P w=.ok r w/\VRel w M av r/\K av:=by
 unfold I3 at h
 split at h
 ·rename_i s k n
  obtain⟨hstr,h0,hlt,h⟩:=h
  cases hx;cases hi
  unfold Env.isStr at hstr
  split at hstr
  ·rename_i ti hti
   have hu:=(hE.1 _ _ hti).str hstr;refine⟨_,_,?_,.v _ rfl,h⟩;simp[Instr.index,asIntOf,bj hu,h0,hlt]
  ·exact hstr.elim
 ·exact h.elim
theorem Bv{P:Program}{w:World}{M:Nat->Prop}{x:AV}{u:Value}{i:Nat}(hx:VRel w M x u){K:AV->Prop}(h:gu x i K) :
 ∃r av,(Instr.extract u i).run P w=.ok r w/\VRel w M av r/\K av:=by
 unfold gu at h
 split at h
 ·rename_i l
  split at h
  ·rename_i av hav
   cases hx with
   | tup l xs hs hl =>
     have hlt:i<xs.size:=by rw[hs];exact(au.1 hav).1
     exact⟨xs.getD i undef,av,by simp[Instr.extract,hlt],hl _ _ hav,h⟩
  ·exact h.elim
 ·exact h.elim
theorem Rx{E:Env}{st:ASt}{a:Act}{w:World}(hR:Rep E.w0 E.base st a w){x:AV}{u:Value}(hx:VRel w st.h.M x u){K:AV->Prop}(h:aCv E x K):∃y,VRel w st.h.M y u/\K y:=by
 unfold aCv at h
 split at h
 ·obtain⟨rows,hr,h⟩:=h
  cases hx
  obtain⟨Es,hH⟩:=hR.heap;exact⟨_,.ro _ _ (Rd.map hr (λb hb _=>hR.below.block b hb) (λb hb _=>λ⟨k,hk⟩=>(hH.low k b hk).1 hb)),h⟩
 ·exact⟨_,hx,h⟩
theorem xX{E:Env}(hE:EOk E){st:ASt}{a:Act}{w:World}(hR:Rep E.w0 E.base st a w){o:Oper}{K:AV->Prop}(h:xY E st o.op K) :
 ∃r av,(execOp a.eval o).run E.P w=.ok (.value r) w/\VRel w st.h.M av r/\K av:=by
 have hv:=λx=>VRel.ev hR x
 obtain⟨Es,hH⟩:=hR.heap;unfold xY at h
 split at h
 ·rename_i x ho;exact⟨_,_,by simp[execOp,ho],hv x,h⟩
 ·rename_i x ho;exact⟨_,_,by simp[execOp,ho],hv x,h⟩
 ·rename_i c x y ho
  obtain⟨b,hb,h⟩:=r7 (hv c) h
  cases b with
  |true=>exact⟨_,_,by simp[execOp,ho,hb,asBool],hv x,h.1 rfl⟩
  |false=>exact⟨_,_,by simp[execOp,ho,hb,asBool],hv y,h.2 rfl⟩
 ·rename_i T parts ho
  obtain⟨r,av,h1,h2,h3⟩:=GI hE (w:=w) (M:=st.h.M) (vparts:=parts.map λ(i,x)=>(i,a.eval x)) ab (λi p hi=>by
   simp only[ch,aU]at hi;obtain⟨q,hq,rfl⟩:=hi;exact⟨a.eval q.2,by simp at hq⊢;exact⟨q.1,q.2,hq,rfl,rfl⟩,hv _⟩) h
  exact⟨r,av,mQ,h2,h3⟩
 ·rename_i T x ho
  unfold qS at h
  split at h
  ·rename_i ti hti
   obtain⟨r,av,h1,h2,h3⟩:=vG hH (hE.1 _ _ hti) (hv x) h;exact⟨r,av,mQ,h2,h3⟩
  ·exact h.elim
 ·rename_i x ho
  obtain⟨hK,hcase⟩:=KD (hv x) h;refine⟨_,_,?_,hv x,hK⟩;rcases hcase with⟨ad,hu⟩|⟨f,y,z,hu⟩<;>simp[execOp,ho,hu]
 ·rename_i op T x y ty ho
  obtain⟨r,av,h1,hg,h2,h3⟩:=I6 hE (hv x) (hv y) h;exact⟨r,av,by simp[execOp,ho,hg,h1],h2,h3⟩
 ·rename_i T x ho
  obtain⟨b,hb,h⟩:=r7 (hv x) h;exact⟨.bool (!b),_,by simp[execOp,ho,hb,Op.unary],.v _ rfl,h⟩
 ·rename_i s d x ho
  obtain⟨r,av,h1,h2,h3⟩:=GH hE hH (hv x) h;exact⟨r,av,mQ,h2,h3⟩
 ·rename_i f first caps ho
  obtain⟨hf,h⟩:=h;have hf':first = #[]:=by simpa using hf
  subst hf';exact⟨.func (.func f) #[] (caps.map a.eval),_,by simp[execOp,ho,Instr.makeFunc],.clo _ _ _ ab (vX hR _ _ (by cases caps;simp)),h⟩
 ·rename_i T x lo hi ho
  obtain⟨r,av,h1,h2,h3⟩:=GG hE (hv x) (vlo:=lo.map a.eval) (vhi:=hi.map a.eval) (ku _) (λy hy=>zu hv hy)
   (ku _) (λy hy=>zu hv hy) h
  exact⟨r,av,mQ,h2,h3⟩
 ·rename_i T x f ho
  unfold qB at h
  split at h
  ·rename_i ti hti
   obtain⟨r,av,h1,h2,h3⟩:=B5 (hE.1 _ _ hti) (hv x) h;exact⟨r,av,mQ,h2,h3⟩
  ·exact h.elim
 ·rename_i T x f ho
  unfold qA at h
  split at h
  ·rename_i ti hti
   obtain⟨r,av,h1,h2,h3⟩:=Gg (hE.1 _ _ hti) (hv x) h;exact⟨r,av,mQ,h2,h3⟩
  ·exact h.elim
 ·rename_i T x i ho
  obtain⟨e,te,inf,hu,ht,hi,hs,-,h⟩:=ed hE h;obtain⟨y,hy,h⟩:=Rx hR (hv x) h;obtain⟨r,av,h1,h2,h3⟩:=BY hu hi hs hy (hv i) h;exact⟨r,av,mQ,h2,h3⟩
 ·rename_i T x i ho
  obtain⟨r,av,h1,h2,h3⟩:=KH hE (hv x) (hv i) h;exact⟨r,av,mQ,h2,h3⟩
 ·rename_i x i ho
  obtain⟨r,av,h1,h2,h3⟩:=Bv (P:=E.P) (hv x) h;exact⟨r,av,mQ,h2,h3⟩
 ·exact h.elim
theorem bH(k j:Nat)(o:AObj)(h:AH):AH.get ((k,o)::h) j=if j=k then o else h.get j:=rfl
theorem qC{k:Nat}{o:AObj}{h:AH}{b:Nat}:AH.M ((k,o)::h) b↔o.blk=some b\/∃j,j≠k/\(h.get j).blk=some b:=by
 constructor
 ·rintro⟨j,hj⟩
  rw[bH]at hj
  split at hj
  ·exact .inl hj
  ·rename_i hne;exact .inr ⟨j,hne,hj⟩
 ·rintro(h|⟨j,hne,hj⟩)
  ·exact⟨k,by rw[bH,an rfl];exact h⟩
  ·exact⟨j,by rw[bH,aq hne];exact hj⟩
theorem Tr.upd{base:Bs}{h:AH}{w w':World}{E:Nat->Nat->Prop}(_H:HRel base h w E){k:Nat}{o':AObj}(hsz:w.heap.size<=w'.heap.size)
 (hfr:∀b,b<w.heap.size->¬h.M b->w'.heap[b]? = w.heap[b]?)
 (hblk:∀b,o'.blk=some b->w.heap.size<=b\/(h.get k).blk=some b):Tr h.M w (AH.M ((k,o')::h)) w':=by
 refine⟨hsz,hfr,λb hb hM=>?_⟩;rcases qC.1 hM with h1|⟨j,-,hj⟩
 ·rcases hblk b h1 with h2|h2
  ·omega
  ·exact⟨k,h2⟩
 ·exact⟨j,hj⟩
theorem HRel.upd{base:Bs}{h:AH}{w w':World}{E:Nat->Nat->Prop}(H:HRel base h w E){k:Nat}{o':AObj}{Ek:Nat->Prop}(hsz:w.heap.size<=w'.heap.size)
 (hfr:∀b,b<w.heap.size->(¬h.M b\/∃j,j≠k/\(h.get j).blk=some b)->w'.heap[b]? = w.heap[b]?)
 (hblk:∀b,o'.blk=some b->(¬base.F b/\¬base.G b)/\(w.heap.size<=b\/(h.get k).blk=some b))
 (hobj:fv w' (AH.M ((k,o')::h)) Ek o')
 (hE:∀c,Ek c->¬base.G c/\c<w'.heap.size/\(∀j,j≠k->¬E j c)/\¬AH.M ((k,o')::h) c) :
 HRel base ((k,o')::h) w' (λj=>if j=k then Ek else E j):=by
 have t:Tr h.M w (AH.M ((k,o')::h)) w':=Tr.upd H hsz (λb hb hM=>hfr b hb (.inl hM)) (λb hb=>(hblk b hb).2);refine⟨λj=>?_,λj j' b hj hj'=>?_,λj b hj=>?_,λj c hc=>?_,λj j' c hc hc'=>?_,λj c hc=>?_⟩
 ·rw[bH]
  by_cases hjk:j=k
  ·rw[an hjk,an hjk];exact hobj
  ·rw[aq hjk,aq hjk]
   exact(H.obj j).tr t (λb hb=>hfr b (H.lt hb) (.inr ⟨j,hjk,hb⟩)) (λc hc _=>hc)
 ·rw[bH]at hj hj'
  by_cases h1:j=k<;>by_cases h2:j'=k
  ·rw[h1,h2]
  ·rw[an h1]at hj;rw[aq h2]at hj'
   rcases(hblk b hj).2 with h3|h3
   ·have:=H.lt hj';omega
   ·rw[h1];exact H.inj _ _ b h3 hj'
  ·rw[aq h1]at hj;rw[an h2]at hj'
   rcases(hblk b hj').2 with h3|h3
   ·have:=H.lt hj;omega
   ·rw[h2];exact H.inj _ _ b hj h3
  ·rw[aq h1]at hj;rw[aq h2]at hj'
   exact H.inj _ _ b hj hj'
 ·rw[bH]at hj
  split at hj
  ·exact(hblk b hj).1
  ·exact H.low j b hj
 ·split at hc
  ·exact⟨(hE c hc).1,(hE c hc).2.1⟩
  ·exact⟨(H.elow j c hc).1,cg (H.elow j c hc).2 hsz⟩
 ·by_cases h1:j=k<;>by_cases h2:j'=k
  ·rw[h1,h2]
  ·rw[an h1]at hc;rw[aq h2]at hc'
   exact absurd hc' ((hE c hc).2.2.1 j' h2)
  ·rw[aq h1]at hc;rw[an h2]at hc'
   exact absurd hc ((hE c hc').2.2.1 j h1)
  ·rw[aq h1]at hc;rw[aq h2]at hc'
   exact H.einj _ _ c hc hc'
 ·by_cases h1:j=k
  ·rw[an h1]at hc;exact(hE c hc).2.2.2
  ·rw[aq h1]at hc;exact λhM=>H.em j c hc (t.mono c (H.elow j c hc).2 hM)
theorem HRel.kill{base:Bs}{h:AH}{w:World}{E:Nat->Nat->Prop}(H:HRel base h w E)(k:Nat):HRel base ((k,.dead)::h) w (λj=>if j=k then(λ_=>False)else E j):=
 H.upd (aH _) (λ_ _ _=>rfl) (λb hb=>mP) trivial (λ_ hc=>hc.elim)
theorem Tr.kill{base:Bs}{h:AH}{w:World}{E:Nat->Nat->Prop}(H:HRel base h w E)(k:Nat):Tr h.M w (AH.M ((k,.dead)::h)) w:=
 Tr.upd H (aH _) (λ_ _ _=>rfl) (λb hb=>mP)
theorem uB{base:Bs}{h:AH}{w:World}{E:Nat->Nat->Prop}(H:HRel base h w E){k b:Nat}(hk:(h.get k).blk=some b):¬AH.M ((k,.dead)::h) b:=by
 intro hM;rcases qC.1 hM with h1|⟨j,hne,hj⟩
 ·simp[AObj.blk]at h1
 ·exact hne (H.inj _ _ _ hj hk)
theorem GO{h:AH}{k b:Nat}(hM:AH.M ((k,.dead)::h) b):h.M b:=by
 exact Me
structure Frz(base:Bs)(h:AH)(w:World)(E:Nat->Nat->Prop)(h':AH)(E':Nat->Nat->Prop)(o:Bool)(S:Nat->Prop)(u:Value)(d:CD):Prop where
 rel:HRel base h' w E'
 tr:Tr h.M w h'.M w
 rd:Rd w o S u d
 off:∀c,S c->¬h'.M c
 own:o=true->∀c,S c->((∃k,E k c)\/h.M c)/\∀j,¬E' j c
 sub:∀j c,E' j c->E j c
theorem uO{base:Bs}{h:AH}{w:World}{E:Nat->Nat->Prop}(H:HRel base h w E){av:AV}{u:Value}(hv:VRel w h.M av u){K:CD->AH->Bool->Prop}(hk:qZ h av K) :
 ∃d h' o E' S,K d h' o/\Frz base h w E h' E' o S u d:=by
 unfold qZ at hk
 split at hk
 ·cases hv with
  |v u hp=>exact⟨_,_,_,E,λ_=>False,hk,H,Tr.refl _ _,.plain hp,λ_ hc=>hc.elim,λ_ _ hc=>hc.elim,λ_ _ hc=>hc⟩
 ·cases hv
  exact⟨_,_,_,E,λ_=>False,hk,H,Tr.refl _ _,.empty _ _ (λ_=>rfl),λ_ hc=>hc.elim,λ_ _ hc=>hc.elim,λ_ _ hc=>hc⟩
 ·cases hv with
  |ro rows x hr=>exact⟨_,_,_,E,λb=>¬h.M b,hk,H,Tr.refl _ _,hr,λ_ hc=>hc,eS,λ_ _ hc=>hc⟩
 ·rename_i k Hd sz off len
  split at hk
  ·rename_i H' sz' rows own hget
   obtain⟨rfl,rfl,hlen,hK⟩:=hk
   cases hv with
   | sl _ _ _ _ _ x hx =>
     have ho:=H.obj k;rw[hget]at ho
     cases Hd with
     | none =>
       obtain⟨⟨a,rfl⟩,rfl⟩:=hx;have hr0:rows=[]:=ho;subst hr0;refine⟨_,_,_,_,λ_=>False,hK,H.kill k,Tr.kill H k,?_,λ_ hc=>hc.elim,λ_ _ hc=>hc.elim,λj c hc=>?_⟩
       ·rw[show cut ([]:List (List CD)) off 0=[]from sH]
        exact .empty _ _ (λ_=>rfl)
       ·exact sL
     | some q =>
       obtain⟨b,o,C⟩:=q;have hblk:(h.get k).blk=some b:=i7;obtain⟨S,hrd,hS⟩:=iP ho ⟨k,hblk⟩ hx hlen;refine⟨_,_,_,_,S,hK,H.kill k,Tr.kill H k,hrd,?_,?_,λj c hc=>?_⟩
       ·intro c hc hM
        rcases hS c hc with rfl|⟨-,hn⟩
        ·exact uB H hblk hM
        ·exact hn (GO hM)
       ·intro hown c hc
        rcases hS c hc with rfl|⟨he,hn⟩
        ·refine⟨.inr ⟨k,hblk⟩,λj hj=>?_⟩
         split at hj
         ·exact hj
         ·exact H.em j c hj ⟨k,hblk⟩
        ·refine⟨.inl ⟨k,he hown⟩,λj hj=>?_⟩
         split at hj
         ·exact hj
         ·rename_i hne;exact hne (H.einj _ _ _ hj (he hown))
       ·exact sL
  ·exact hk.elim
 ·obtain⟨hm,hK⟩:=hk
  cases hv with
  | ml _ _ _ _ _ hx =>
    have hs:SlV _ _ 0 _ u:=hx.elim (λh=>h.2) (λh=>absurd hm h.2.1);exact⟨_,_,_,E,λ_=>False,hK,H,Tr.refl _ _,.h _ _ _ _ _ (λ_=>hs) (λ_ hn=>absurd hm hn),λ_ hc=>hc.elim,λ_ _ hc=>hc.elim,λ_ _ hc=>hc⟩
 ·exact hk.elim
def Dr(h':AH)(av:AV)(d:CD):Prop:=∀k H sz len,av=.sl k H sz 0 len->(h'.get k).blk=none/\∃rows,d=.s rows/\rows.length=len/\∀row∈rows,row.length=sz
theorem Dp{h:AH}{av:AV}{K K':CD->AH->Bool->Prop}(hm:∀d h' o,K d h' o->K' d h' o)(hk:qZ h av K):qZ h av K':=by
 unfold qZ at hk⊢
 split at hk
 ·exact hm _ _ _ hk
 ·exact hm _ _ _ hk
 ·exact hm _ _ _ hk
 ·split at hk
  ·exact⟨hk.1,hk.2.1,hk.2.2.1,hm _ _ _ hk.2.2.2⟩
  ·exact hk.elim
 ·exact⟨hk.1,hm _ _ _ hk.2⟩
 ·exact hk.elim
theorem Ru{base:Bs}{h:AH}{w:World}{E:Nat->Nat->Prop}(H:HRel base h w E){av:AV}{K:CD->AH->Bool->Prop}(hk:qZ h av K) :
 qZ h av (λd h' o=>K d h' o/\Dr h' av d/\(∀q,(h.get q).blk=none->(h'.get q).blk=none)/\(∃E',HRel base h' w E')/\Tr h.M w h'.M w):=by
 unfold qZ at hk⊢
 split at hk
 ·exact⟨hk,λ_ _ _ _ e=>(by cases e),λ_ h=>h,⟨E,H⟩,Tr.refl _ _⟩
 ·exact⟨hk,λ_ _ _ _ e=>(by cases e),λ_ h=>h,⟨E,H⟩,Tr.refl _ _⟩
 ·exact⟨hk,λ_ _ _ _ e=>(by cases e),λ_ h=>h,⟨E,H⟩,Tr.refl _ _⟩
 ·rename_i k Hd sz off len
  split at hk
  ·rename_i H' sz' rows own hget
   obtain⟨rfl,rfl,hlen,hK⟩:=hk;refine⟨rfl,rfl,hlen,hK,?_,?_,⟨_,H.kill k⟩,Tr.kill H k⟩
   ·intro k' H2 sz2 len2 e
    injection e with e1 e2 e3 e4 e5
    subst e1;subst e2;subst e3;subst e4;subst e5;refine⟨by rw[bH,an rfl];rfl,cut rows 0 len,rfl,kt _ _ _ hlen,?_⟩;intro row hrow;rw[fu]at hrow;have hm:=a8 (br hrow);have ho:=H.obj k;rw[hget]at ho
    cases Hd with
    |none=>rw[show rows=[]from ho]at hm;simp at hm
    | some q =>
      exact Ml
   ·intro q hq
    rw[bH]
    split
    ·rfl
    ·exact hq
  ·exact hk.elim
 ·exact⟨hk.1,hk.2,λ_ _ _ _ e=>(by cases e),λ_ h=>h,⟨E,H⟩,Tr.refl _ _⟩
 ·exact hk.elim
theorem Dr.mono{h1 h2:AH}{a:AV}{d:CD}(g:Dr h1 a d)(hm:∀q,(h1.get q).blk=none->(h2.get q).blk=none):Dr h2 a d:=λk H sz len e=>by
 obtain⟨g1,g2⟩:=g k H sz len e;exact⟨hm k g1,g2⟩
theorem Bu{base:Bs}{w:World}:∀(l:List AV) {h:AH}{E:Nat->Nat->Prop}(_:HRel base h w E) {K:List CD->AH->Bool->Prop}(_:lF h l K),
 lF h l (λds h' o=>K ds h' o/\(∀(j:Nat) a d,l[j]? = some a->ds[j]? = some d->Dr h' a d)/\∀q,(h.get q).blk=none->(h'.get q).blk=none)
 | [],h,E,H,K,hk=>⟨hk,λj a d hj=>pT,λ_ h=>h⟩
 | a :: l, h, E, H, K, hk => by
   unfold lF at hk⊢;refine Dp ?_ (Ru H hk)
   rintro d h1 o1 ⟨hk1,g,hm,⟨E1,H1⟩,-⟩
   have:=Bu l H1 hk1;refine aFrzL_mono ?_ this
   rintro ds h2 o2 ⟨hk2,gs,hm2⟩
   refine⟨hk2,λj a' d' hj hd=>?_,λq hq=>hm2 q (hm q hq)⟩
   cases j with
   |zero=>simp at hj hd;subst hj;subst hd;exact g.mono hm2
   |succ j=>exact gs j a' d' jC mO
where
 aFrzL_mono:∀{l:List AV}{h:AH}{K K':List CD->AH->Bool->Prop},(∀d h' o,K d h' o->K' d h' o)->lF h l K->lF h l K'
 | [],h,K,K',hm,hk=>hm _ _ _ hk
 | a :: l, h, K, K', hm, hk => by
   unfold lF at hk⊢;exact Dp (λd h' o hk=>aFrzL_mono (λ_ _ _ h=>hm _ _ _ h) hk) hk
structure FrzL(base:Bs)(h:AH)(w:World)(E:Nat->Nat->Prop)(h':AH)(E':Nat->Nat->Prop)(o:Bool)(S:Nat->Nat->Prop)(us:Nat->Value)(ds:List CD):Prop where
 rel:HRel base h' w E'
 tr:Tr h.M w h'.M w
 rd:∀i d,ds[i]? = some d->Rd w o (S i) (us i) d
 off:∀i c,S i c->¬h'.M c
 own:o=true->∀i c,S i c->((∃k,E k c)\/h.M c)/\∀j,¬E' j c
 inj:o=true->∀i i' c,S i c->S i' c->i=i'
 sub:∀j c,E' j c->E j c
theorem eJ{w:World}{o:Bool}{S:Nat->Prop}{u:Value}{d:CD}(x:Bool)(h:Rd w o S u d)(hx:x=true->o=true):Rd w x S u d:=by
 cases x with
 |false=>exact h.weaken
 |true=>rw[hx rfl]at h;exact h
theorem sd{w:World}{base:Bs}:∀(l:List AV) {h:AH}{E:Nat->Nat->Prop}(_:HRel base h w E) {us:Nat->Value}(_:∀i av,l[i]? = some av->VRel w h.M av (us i)) {K:List CD->AH->Bool->Prop}(_:lF h l K),
 ∃ds h' o E' S,K ds h' o/\ds.length=l.length/\FrzL base h w E h' E' o S us ds
 | [],h,E,H,us,_,K,hk=>⟨[],h,true,E,λ_ _=>False,hk,rfl,H,Tr.refl _ _,λi d hd=>oe,λ_ _ hc=>hc.elim,λ_ _ _ hc=>hc.elim,λ_ _ _ _ hc=>hc.elim,λ_ _ hc=>hc⟩
 | a :: l, h, E, H, us, hv, K, hk => by
   unfold lF at hk;obtain⟨d,h1,o1,E1,S1,hk1,F1⟩:=uO H (hv 0 a rfl) hk;obtain⟨ds,h2,o2,E2,S2,hk2,hl,F2⟩:=sd l F1.rel (us:=λi=>us (i+1)) (λi av hi=>(hv (i+1) av ee).tr F1.tr) hk1;refine⟨d::ds,h2,o1&&o2,E2,λi c=>match i with|0=>S1 c/\c<w.heap.size|i+1=>S2 i c,hk2,by simp[hl],F2.rel,F1.tr.trans F2.tr,?_,?_,?_,?_,λj c hc=>F1.sub j c (F2.sub j c hc)⟩
   ·intro i d' hd
    cases i with
    | zero =>
      simp at hd;subst hd;exact eJ _ F1.rd.within (λh=>od)
    |succ i=>exact eJ _ (F2.rd i d' mO) (λh=>pS)
   ·intro i c hc
    cases i with
    |zero=>exact λhM=>F1.off c hc.1 (F2.tr.mono c hc.2 hM)
    |succ i=>exact F2.off i c hc
   ·intro ho i c hc
    simp at ho
    cases i with
    |zero=>exact⟨(F1.own ho.1 c hc.1).1,λj hj=>(F1.own ho.1 c hc.1).2 j (F2.sub j c hj)⟩
    | succ i =>
      obtain⟨h3,h4⟩:=F2.own ho.2 i c hc;refine⟨?_,h4⟩;rcases h3 with⟨k,hk⟩|hM
      ·exact .inl ⟨k,F1.sub k c hk⟩
      ·obtain⟨j,hj⟩:=hM
       exact .inr (F1.tr.mono c (F1.rel.lt hj) ⟨j,hj⟩)
   ·intro ho i i' c hc hc'
    simp at ho
    have key:∀i,(S1 c/\c<w.heap.size)->S2 i c->False:=by
     intro i h1 h2;rcases(F2.own ho.2 i c h2).1 with⟨k,hk⟩|hM
     ·exact(F1.own ho.1 c h1.1).2 k hk
     ·exact F1.off c h1.1 hM
    cases i<;>cases i'
    ·rfl
    ·exact(key _ hc hc').elim
    ·exact(key _ hc' hc).elim
    ·rw[F2.inj ho.2 _ _ c hc hc']
theorem Rep.put{w0:World}{base:Bs}{st:ASt}{a:Act}{w:World}(hR:Rep w0 base st a w){d:Option Nat}{av:AV}{v:Value}(hv:VRel w st.h.M av v){K:ASt->Prop}(h:bQ st d av K) :
 K (st.aft d av st.h)/\Rep w0 base (st.aft d av st.h) (a.put d v) w:=by
 cases d with
 |none=>exact⟨h,hR⟩
 | some d =>
   obtain⟨hd,hK⟩:=h;refine⟨hK,hR.dfr,by simp[Act.put,ASt.aft,hR.size],λi=>?_,hR.heap,hR.below,hR.base_le⟩;have hs:=hR.size
   show VRel w st.h.M (bM ((d,av)::st.t) i) _
   unfold bM
   split
   ·rename_i h;subst h
    have:(a.put (some i) v).tmps.getD i undef=v:=by simp[Act.put];omega
    rw[this];exact hv
   ·rename_i hne
    have:(a.put (some d) v).tmps.getD i undef=a.tmps.getD i undef:=by
     simp[Act.put,VB hne]
    rw[this];exact hR.tmp i
structure Same(w w':World):Prop where
 os:w'.os=w.os
 tape:w'.tape=w.tape
 output:w'.output=w.output
structure Moved(w0:World)(base:Bs)(st:ASt)(a:Act)(w:World)(h':AH)(w':World):Prop where
 rep:Rep w0 base { st with h:=h' } a w'
 tr:Tr st.h.M w h'.M w'
def qU(w0:World)(base:Bs)(st:ASt)(a:Act)(w:World)(d:Option Nat)(r:Value)(w':World)(K:ASt->Prop):Prop:=
 ∃av h',K (st.aft d av h')/\Rep w0 base (st.aft d av h') (a.put d r) w'/\(base.loose=false->Tr st.h.M w h'.M w')/\VRel w' h'.M av r
theorem Moved.put{w0:World}{base:Bs}{st:ASt}{a:Act}{w w':World}{h':AH}(m:Moved w0 base st a w h' w'){d:Option Nat}{av:AV}{v:Value}(hv:VRel w' h'.M av v){K:ASt->Prop}(h:bQ { st with h:=h' } d av K) :
 qU w0 base st a w d v w' K:=by
 obtain⟨h1,h2⟩:=m.rep.put hv h
 cases d with
 |none=>exact⟨av,h',h1,h2,λ_=>m.tr,hv⟩
 |some d=>exact⟨av,h',h1,h2,λ_=>m.tr,hv⟩
theorem Rep.move{w0:World}{base:Bs}{st:ASt}{a:Act}{w w':World}(hR:Rep w0 base st a w){h':AH}{E':Nat->Nat->Prop}(H:HRel base h' w' E')(t:Tr st.h.M w h'.M w')(s:Same w w') :
 Moved w0 base st a w h' w':=by
 obtain⟨E,HE⟩:=hR.heap;refine⟨⟨hR.dfr,hR.size,λi=>(hR.tmp i).tr t,⟨E',H⟩,hR.below.trans ⟨s.os,s.tape,s.output,t.size,λk hk=>?_⟩,λb hb=>cg (hR.base_le b hb) t.size⟩,t⟩;refine t.frame k (hR.base_le k (.inl hk)) (λhM=>?_);obtain⟨j,hj⟩:=hM;exact(HE.low j k hj).1 hk
theorem Moved.move{w0:World}{base:Bs}{st:ASt}{a:Act}{w w1 w':World}{h1 h':AH}(m:Moved w0 base st a w h1 w1){E':Nat->Nat->Prop}(H:HRel base h' w' E')(t:Tr h1.M w1 h'.M w')(s:Same w1 w'):Moved w0 base st a w h' w':=by
 have:=m.rep.move H t s;exact⟨this.rep,m.tr.trans t⟩
theorem Moved.lend{w0:World}{base:Bs}{st:ASt}{a:Act}{w w':World}{h1:AH}(m:Moved w0 base st a w h1 w'){k sz:Nat}{H:Hd}{rows:List (List CD)}(_hb:(h1.get k).blk=none)
 (ho:fv w' h1.M (λ_=>False) (.lent H sz rows)):Moved w0 base st a w ((k,.lent H sz rows)::h1) w':=by
 obtain⟨E,HR⟩:=m.rep.heap;have t:Tr h1.M w' (AH.M ((k,.lent H sz rows)::h1)) w':=Tr.upd HR (aH _) (λ_ _ _=>rfl) (λb hb=>mP);exact m.move (HR.upd (k:=k) (o':=.lent H sz rows) (Ek:=λ_=>False) (aH _) (λ_ _ _=>rfl) (λb hb=>mP) (ho.tr t (λb hb=>mP) (λ_ hc _=>hc)) (λ_ hc=>hc.elim)) t ⟨rfl,rfl,rfl⟩
theorem abZ{h:AH}{k sz:Nat}{H:Hd}{rows:List (List CD)}{c:Nat}(hM:AH.M ((k,.lent H sz rows)::h) c):h.M c:=by
 exact Me
theorem Moved.lendL{w0:World}{base:Bs}{st:ASt}{a:Act}{w w':World}:∀(l:List AV) (ds:List CD) {h1:AH}(_:Moved w0 base st a w h1 w') {us:Nat->Value}(_:∀(j:Nat) av d,l[j]? = some av->ds[j]? = some d->Dr h1 av d)
 (_:∀(j:Nat) k H sz off len,l[j]? = some (.sl k H sz off len)->SlV H sz off len (us j)) (_:∀(j:Nat) d,ds[j]? = some d->Rd w' false (λb=>¬h1.M b) (us j) d),Moved w0 base st a w (lendL l ds h1) w'
 | [],_,h1,m,us,_,_,_=>by unfold AM.lendL;exact m
 |_::_,[],h1,m,us,_,_,_=>by unfold AM.lendL;exact m
 | av :: l, d :: ds, h1, m, us, hg, hv, hr => by
   unfold AM.lendL
   have rest:∀h2:AH,Moved w0 base st a w h2 w'->(∀q,(h1.get q).blk=none->(h2.get q).blk=none)->(∀c,h2.M c->h1.M c)->Moved w0 base st a w (AM.lendL l ds h2) w':=λh2 m2 hb hM=>
    Moved.lendL l ds m2 (us:=λj=>us (j+1)) (λj av d hj hd=>(hg (j+1) av d jC mO).mono hb) (λj k H sz off len hj=>hv (j+1) k H sz off len jC)
     (λj d hd=>(hr (j+1) d mO).map (λ_ _ _=>rfl) (λc hc _ h=>hc (hM c h)))
   unfold vH
   split
   ·rename_i k H sz len rows
    obtain⟨hb,rows',e,hl,hrl⟩:=hg 0 _ _ rfl rfl k H sz len rfl
    injection e with e
    subst e;have hv0:=hv 0 k H sz 0 len rfl;have hr0:=hr 0 _ rfl;refine rest ((k,.lent H sz rows)::h1) (m.lend hb ⟨hrl,λhne=>?_,λx hx=>?_⟩) (λq hq=>by rw[bH];split<;>first|rfl|exact hq) (λc hc=>abZ hc)
    ·cases H with
     |none=>exact absurd (aA (by rw[hl];exact hv0.2)) hne
     | some q =>
       obtain⟨b,o,C⟩:=q;rcases hv0 with⟨-,h2⟩|⟨-,h2,-⟩
       ·exact⟨b,o,C,rfl,aa⟩
       ·omega
    ·cases H with
     | none =>
       obtain⟨⟨a',rfl⟩,h0⟩:=hx;exact vg
     | some q =>
       obtain⟨b,o,C⟩:=q;rcases hv0 with⟨h1',h2⟩|⟨-,h2,-⟩
       ·rcases hx with⟨rfl,-⟩|⟨-,h3,-⟩
        ·rw[hl,<-h1'];exact hr0
        ·omega
       ·omega
   ·exact rest h1 m (λ_ h=>h) (λ_ h=>h)
theorem rJ(w:World)(o:Obj):(w.alloc o).heap[w.heap.size]? = some o:=heap_alloc_new w o
theorem pB(w:World)(o:Obj){b:Nat}(h:b<w.heap.size):(w.alloc o).heap[b]? = w.heap[b]?:=Below.heap_alloc w o b h
theorem Rep.newer{w0:World}{base:Bs}{st:ASt}{a:Act}{w:World}(hR:Rep w0 base st a w){b:Nat}(h:w.heap.size<=b):¬base.F b/\¬base.G b:=
 ⟨λhf=>by have:=hR.base_le b (.inl hf);omega,λhf=>by have:=hR.base_le b (.inr hf);omega⟩
theorem Rep.newVars{w0:World}{base:Bs}{st:ASt}{a:Act}{w:World}(hR:Rep w0 base st a w)(k:Nat)(T:TypeId)(l:List AV)(cs:Array Value)(hs:cs.size=l.length)
 (hl:∀(j:Nat) (x:AV),l[j]? = some x->VRel w st.h.M x (cs.getD j undef)) :
 Moved w0 base st a w ((k,.vars w.heap.size T l)::st.h) (w.alloc (.cells cs T)):=by
 obtain⟨E,H⟩:=hR.heap
 have t:Tr st.h.M w (AH.M ((k,.vars w.heap.size T l)::st.h)) (w.alloc (.cells cs T)):=
  Tr.upd H ab (λb hb _=>pB w _ hb) (λb hb=>.inl (by simp[AObj.blk]at hb;omega))
 refine hR.move (H.upd (Ek:=λ_=>False) ab (λb hb _=>pB w _ hb) (λb hb=>?_) ⟨cs,rJ w _,hs,λj x hj=>(hl j x hj).tr t⟩ (λ_ hc=>hc.elim)) t ⟨rfl,rfl,rfl⟩;simp[AObj.blk]at hb;subst hb;exact⟨hR.newer (aH _),.inl (aH _)⟩
theorem RG{P:Program}{T:Nat}{ti:TI}(ht:TIok P T ti){w:World}{M:Nat->Prop}{z:Value}(hzc:z.cells.toList=ti.zero.map zv)(j:Nat)(x:AV)(hj:ti.zero[j]? = some x):VRel w M x (z.cells.getD j undef):=by
 have e:z.cells.getD j undef=zv x:=by
  exact EL
 rw[e];rcases ht.zok x (aO hj)with rfl|⟨u,rfl,hp⟩
 ·exact .nil
 ·exact .v _ hp
theorem jB{ti:TI}{z:Value}(hzc:z.cells.toList=ti.zero.map zv):z.cells.size=ti.zero.length:=by
 have:=nP List.length hzc;exact jD
theorem GJ{E:Env}(hE:EOk E){st:ASt}{a:Act}{w:World}(hR:Rep E.w0 E.base st a w){d:Option Nat}{T:Nat}{K:ASt->Prop}(h:xh E st d T K) :
 ∃r w',(Instr.alloc T true (.tuple #[])).run E.P w=.ok r w'/\qU E.w0 E.base st a w d r w' K:=by
 unfold xh at h
 split at h
 ·rename_i ti hti
  have ht:=hE.1 _ _ hti;obtain⟨i,z,hi,-,-,hz,hzc,-⟩:=ht.info;refine⟨.pointer (some ⟨w.heap.size,0,none⟩),w.alloc (.cells z.cells T),by simp[Instr.alloc,zeroValue,typeInfo,hi,hz,newVar,newRow],?_⟩;exact(hR.newVars (st.key d) T ti.zero z.cells (jB hzc) (λj x hj=>RG ht hzc j x hj)).put (.p _ _ _) (h w.heap.size)
 ·exact h.elim
theorem KO{E:Env}{st:ASt}{a:Act}{w:World}(hR:Rep E.w0 E.base st a w){d:Option Nat}{T:Nat}{x:AV}{u:Value}(hx:VRel w st.h.M x u){K:ASt->Prop}(h:I5 E st d T x K) :
 ∃r w',(Instr.box T u).run E.P w=.ok r w'/\qU E.w0 E.base st a w d r w' K:=by
 unfold I5 at h
 split at h
 ·obtain⟨h1,h⟩:=h
  obtain⟨hs,hc⟩:=tq hx h1;refine⟨.pointer (some ⟨w.heap.size,0,none⟩),w.alloc (.cells u.cells T),by simp[Instr.box,newVar,newRow],?_⟩;exact(hR.newVars (st.key d) T x.cells u.cells hs hc).put (.p _ _ _) (h w.heap.size)
 ·exact h.elim
theorem qG{P:Program}{T:Nat}{ti:TI}(ht:TIok P T ti){w:World}{b o:Nat}{cs:Array Value}{T':TypeId}(hb:w.heap[b]? = some (.cells cs T' (0,0))){u:Value}(hn:u.cells.size=ti.n)
 (h1:∀v∈u.cells.toList,v.oneCell'=true) (hfit:o+ti.n<=cs.size) :
 (storeVar T ⟨b,o,none⟩ u).run P w=.ok () (w.setRow b (cs.toList.take o++u.cells.toList++cs.toList.drop (o+u.cells.size)).toArray):=by
 obtain⟨i,z,hi,hs,-⟩:=ht.info;have:=wm (P:=P) b o T' u.cells.toList 0 cs w hb aN h1;simp[storeVar,eh hi,hs,hn]at this⊢;exact this
theorem dp(cs:Array Value)(o:Nat)(vs:List Value)(h:o+vs.length<=cs.size) :
 (cs.toList.take o++vs++cs.toList.drop (o+vs.length)).toArray.size=cs.size /\
 ∀j,(cs.toList.take o++vs++cs.toList.drop (o+vs.length)).toArray.getD j undef=if o<=j/\j<o+vs.length then vs.getD (j-o) undef else cs.getD j undef:=by
 refine⟨aN,λj=>?_⟩;have hlo:(cs.toList.take o).length=o:=aN;simp only[aW,iz];by_cases h1:j<o
 ·rw[aq aa,cj,cq aa,cA]
  simp[h1]
 ·rw[cj,a9 aa,hlo]
  by_cases h2:j<o+vs.length
  ·rw[an aa,cq aa]
   simp
  ·rw[aq aa,a9 aa,dA]
   have:o+vs.length+(j-o-vs.length)=j:=aa;rw[this];simp
theorem Same.setRow(w:World)(g:Nat)(cs:Array Value):Same w (w.setRow g cs):=⟨rfl,rfl,rfl⟩
theorem Rep.storeVars{w0:World}{base:Bs}{st:ASt}{a:Act}{w:World}(hR:Rep w0 base st a w){k b c:Nat}{T:TypeId}{cells:List AV}(hget:st.h.get k=.vars b T cells){l:List AV}{us:List Value}
 (hl:us.length=l.length) (hr:∀(j:Nat) (x:AV),l[j]? = some x->VRel w st.h.M x (us.getD j undef)) (hfit:c+l.length<=cells.length) :
 ∃ cs, w.heap[b]? = some (.cells cs T (0, 0)) /\ c + us.length <= cs.size /\
   Moved w0 base st a w ((k,.vars b T (iW cells c l))::st.h) (w.setRow b (cs.toList.take c++us++cs.toList.drop (c+us.length)).toArray):=by
 obtain⟨E,H⟩:=hR.heap;have ho:=H.obj k;rw[hget]at ho;obtain⟨cs,hb,hs,hc⟩:=ho;have hfit':c+us.length<=cs.size:=aa;obtain⟨g1,g2⟩:=dp cs c us hfit';refine⟨cs,hb,hfit',?_⟩
 have hfr:∀b',b'<w.heap.size->(¬st.h.M b'\/∃j,j≠k/\(st.h.get j).blk=some b')->(w.setRow b (cs.toList.take c++us++cs.toList.drop (c+us.length)).toArray).heap[b']? = w.heap[b']?:=by
  intro b' _ h;refine tJ w b b' _ (λhe=>?_);subst he;rcases h with h|⟨j,hne,hj⟩
  ·exact h ⟨k,i7⟩
  ·exact hne (H.inj _ _ _ hj i7)
 have t:Tr st.h.M w (AH.M ((k,.vars b T (iW cells c l))::st.h)) (w.setRow b (cs.toList.take c++us++cs.toList.drop (c+us.length)).toArray):=
  Tr.upd H ab (λb' hb' hM=>hfr b' hb' (.inl hM)) (λb' hb'=>.inr (by rw[hget];exact hb'))
 refine hR.move (H.upd (Ek:=λ_=>False) ab hfr (λb' hb'=>?_) ⟨_,dy w b cs _ T (0,0) hb,?_,?_⟩ (λ_ hc=>hc.elim)) t (Same.setRow _ _ _)
 ·have hk:(st.h.get k).blk=some b':=by rw[hget];exact hb'
  exact⟨H.low _ _ hk,.inr hk⟩
 ·rw[g1,mg _ _ _ hfit,hs]
 ·intro j x hj
  rw[rv _ _ _ hfit]at hj;rw[g2 j]
  split at hj
  ·rename_i hh
   rw[an aa];exact(hr _ _ hj).tr t
  ·rename_i hh
   rw[aq aa];exact(hc _ _ hj).tr t
theorem Rep.newRows{w0:World}{base:Bs}{st:ASt}{a:Act}{w:World}(hR:Rep w0 base st a w){h:AH}{E:Nat->Nat->Prop}{E0:Nat->Nat->Prop}(H0:HRel base st.h w E0)(H:HRel base h w E)(tr:Tr st.h.M w h.M w)
 (k C:Nat) (T:TypeId) (sz:Nat) (hsz:0<sz) (rows:List (List CD)) (own:Bool) (cs:Array Value) (w':World) (hw':w'.heap=w.heap.push (.cells cs T)) (hso:Same w w')
 (hl:rows.length<=C) (hC:C<=maxLen) (hfit:C*sz<=cs.size)
 (hrl:∀row∈rows,row.length=sz) (F:Nat->Nat->Nat->Prop)
 (hr:∀(i j:Nat) (row:List CD) (d:CD),rows[i]? = some row->row[j]? = some d->Rd w own (F i j) (cs.getD (i*sz+j) undef) d)
 (hF:∀i j c,F i j c->¬h.M c) (hown:own=true->∀i j c,F i j c->((∃j,E0 j c)\/st.h.M c\/E k c)/\∀j,j≠k->¬E j c)
 (hinj:own=true->∀i j i' j' c,F i j c->F i' j' c->i=i'/\j=j') :
 Moved w0 base st a w ((k,.rows (some (w.heap.size,0,C)) sz rows own)::h) w':=by
 have hold:∀b,b<w.heap.size->w'.heap[b]? = w.heap[b]?:=λb hb=>by rw[hw',Array.getElem?_push,aq aa]
 have hnew:w'.heap[w.heap.size]? = some (.cells cs T):=by rw[hw',Array.getElem?_push,an rfl]
 have hsize:w'.heap.size=w.heap.size+1:=by rw[hw'];simp
 have t:Tr h.M w (AH.M ((k,.rows (some (w.heap.size,0,C)) sz rows own)::h)) w':=
  Tr.upd H aa (λb hb _=>hold b hb) (λb hb=>.inl (by simp[AObj.blk]at hb;omega))
 refine(hR.move H tr ⟨rfl,rfl,rfl⟩).move (H.upd (Ek:=λc=>own=true/\∃i j,F i j c/\c<w.heap.size) aa (λb hb _=>hold b hb) (λb hb=>?_)
  ⟨cs,T,λi j c=>F i j c/\c<w.heap.size,hnew,hl,hC,hsz,aa,hrl,?_,?_,?_⟩ ?_) t hso
 ·simp[AObj.blk]at hb
  subst hb;exact⟨hR.newer (aH _),.inl (aH _)⟩
 ·rintro i j c ⟨hc,hlt⟩
  exact⟨λho=>⟨ho,i,j,hc,hlt⟩,λhM=>hF i j c hc (t.mono c hlt hM)⟩
 ·rintro ho i j i' j' c ⟨hc,_⟩ ⟨hc',_⟩
  exact hinj ho i j i' j' c hc hc'
 ·intro i j row d hi hj
  rw[cQ];exact(hr i j row d hi hj).map (λc hc hlt=>hold c hlt) (λc hc hlt=>⟨hc,hlt⟩)
 ·rintro c ⟨ho,i,j,hc,hlt⟩
  refine⟨?_,aa,(hown ho i j c hc).2,λhM=>hF i j c hc (t.mono c hlt hM)⟩;rcases(hown ho i j c hc).1 with⟨j,hj⟩|⟨j,hj⟩|hk
  ·exact(H0.elow j c hj).1
  ·exact(H0.low j c hj).2
  ·exact(H.elow k c hk).1
structure FrzR(base:Bs)(h:AH)(w:World)(E:Nat->Nat->Prop)(h':AH)(E':Nat->Nat->Prop)(o:Bool)(S:Nat->Nat->Nat->Prop)(us:Nat->Nat->Value)(rs:List (List CD)):Prop where
 rel:HRel base h' w E'
 tr:Tr h.M w h'.M w
 rd:∀i j row d,rs[i]? = some row->row[j]? = some d->Rd w o (S i j) (us i j) d
 off:∀i j c,S i j c->¬h'.M c
 own:o=true->∀i j c,S i j c->((∃k,E k c)\/h.M c)/\∀j,¬E' j c
 inj:o=true->∀i j i' j' c,S i j c->S i' j' c->i=i'/\j=j'
 sub:∀j c,E' j c->E j c
theorem xW{w:World}{base:Bs}{te:TI}:∀(parts:List (Nat×AV)) (i0:Nat) {h:AH}{E:Nat->Nat->Prop}(_:HRel base h w E) {us:Nat->Value}
 (_:∀(i:Nat) (p:Nat×AV),parts[i]? = some p->VRel w h.M p.2 (us i)) {K:List (List CD)->AH->Bool->Prop}(_:ui te h parts i0 K),
 ∃rs h' o E' S,K rs h' o/\rs.length=parts.length/\(∀row∈rs,row.length=te.n)/\(∀(i:Nat) (p:Nat×AV),parts[i]? = some p->p.1=i0+i/\(us i).cells.size=te.n)/\FrzR base h w E h' E' o S (λi j=>(us i).cells.getD j undef) rs
 | [],i0,h,E,H,us,_,K,hk=>⟨[],h,true,E,λ_ _ _=>False,hk,rfl,ab,ab,H,Tr.refl _ _,λi j row d hd=>oe,λ_ _ _ hc=>hc.elim,λ_ _ _ _ hc=>hc.elim,λ_ _ _ _ _ _ hc=>hc.elim,λ_ _ hc=>hc⟩
 | (jj, av) :: parts, i0, h, E, H, us, hv, K, hk => by
   unfold ui at hk;obtain⟨rfl,hn,hone,hk⟩:=hk;obtain⟨hcs,hcr⟩:=tq (hv 0 _ rfl) hone;obtain⟨ds,h1,o1,E1,S1,hk1,hl1,F1⟩:=sd av.cells H (us:=λj=>(us 0).cells.getD j undef) hcr hk;obtain⟨rs,h2,o2,E2,S2,hk2,hl,hlen,hp,F2⟩:=xW parts (jj+1) F1.rel (us:=λi=>us (i+1)) (λi av hi=>(hv (i+1) av ee).tr F1.tr) hk1;refine⟨ds::rs,h2,o1&&o2,E2,λi j c=>match i with|0=>S1 j c/\c<w.heap.size|i+1=>S2 i j c,hk2,by simp[hl],?_,?_,F2.rel,F1.tr.trans F2.tr,?_,?_,?_,?_,λj c hc=>F1.sub j c (F2.sub j c hc)⟩
   ·intro row hrow
    rcases aX.1 hrow with rfl|hm
    ·rw[hl1];exact hn
    ·exact hlen _ hm
   ·intro i p hi
    cases i with
    |zero=>simp at hi;subst hi;exact⟨rfl,hcs.trans hn⟩
    |succ i=>have:=hp i p ee;exact⟨aa,this.2⟩
   ·intro i j row d hi hj
    cases i with
    | zero =>
      simp at hi;subst hi;exact eJ _ (F1.rd j d hj).within (λh=>od)
    |succ i=>exact eJ _ (F2.rd i j row d ee hj) (λh=>pS)
   ·intro i j c hc
    cases i with
    |zero=>exact λhM=>F1.off j c hc.1 (F2.tr.mono c hc.2 hM)
    |succ i=>exact F2.off i j c hc
   ·intro ho i j c hc
    simp at ho
    cases i with
    |zero=>exact⟨(F1.own ho.1 j c hc.1).1,λq hq=>(F1.own ho.1 j c hc.1).2 q (F2.sub q c hq)⟩
    | succ i =>
      obtain⟨h3,h4⟩:=F2.own ho.2 i j c hc;refine⟨?_,h4⟩;rcases h3 with⟨k,hk⟩|⟨q,hq⟩
      ·exact .inl ⟨k,F1.sub k c hk⟩
      ·exact .inr (F1.tr.mono c (F1.rel.lt hq) ⟨q,hq⟩)
   ·intro ho i j i' j' c hc hc'
    simp at ho
    have key:∀i j j',(S1 j c/\c<w.heap.size)->S2 i j' c->False:=by
     intro i j j' h1 h2;rcases(F2.own ho.2 i j' c h2).1 with⟨k,hk⟩|hM
     ·exact(F1.own ho.1 j c h1.1).2 k hk
     ·exact F1.off j c h1.1 hM
    cases i<;>cases i'
    ·exact⟨rfl,F1.inj ho.1 _ _ c hc.1 hc'.1⟩
    ·exact(key _ _ _ hc hc').elim
    ·exact(key _ _ _ hc' hc).elim
    ·have:=F2.inj ho.2 _ _ _ _ c hc hc';exact⟨by rw[this.1],this.2⟩
theorem C7(sz:Nat):∀(vs:List (Nat×Value)) (i0:Nat) (cells:Array Value),(∀(i:Nat) (p:Nat×Value),vs[i]? = some p->p.1=i0+i/\p.2.cells.size=sz)->(i0+vs.length)*sz<=cells.size ->
 ∃ cs, Instr.fill (λi => some (i * sz, sz)) cells vs = some cs /\ cs.size = cells.size /\
   (∀j,j<i0*sz->cs.getD j undef=cells.getD j undef)/\∀(i j:Nat) (p:Nat×Value),vs[i]? = some p->j<sz->cs.getD ((i0+i)*sz+j) undef=p.2.cells.getD j undef
 | [],i0,cells,_,_=>⟨cells,rfl,rfl,λ_ _=>rfl,λi j p hi=>oc⟩
 | (jj, v) :: vs, i0, cells, hp, hfit => by
   obtain⟨hj,hs⟩:=hp 0 _ rfl;simp only[nS]at hj hs;subst hj
   have hfit':(jj+1+vs.length)*sz<=cells.size:=by
    have e:jj+1+vs.length=jj+(((jj,v)::vs).length):=aN;rw[e];exact hfit
   have hle:jj*sz+sz<=cells.size:=by
    have:=ao sz (show jj+1<=jj+1+vs.length from aa);rw[fg jj 1,Nat.one_mul]at this;omega
   obtain⟨g1,g2⟩:=wG (jj*sz) v.cells.toList 0 cells aN;rw[Pf (λi=>some (i*sz,sz)) cells jj v vs (jj*sz) sz rfl hs hle,pL];obtain⟨cs,h1,h2,h3,h4⟩:=C7 sz vs (jj+1) _ (λi p hi=>by have:=hp (i+1) p ee;exact⟨aa,this.2⟩) (by rw[g1];exact hfit');refine⟨cs,h1,by rw[h2,g1],λj hj=>?_,λi j p hi hj=>?_⟩
   ·have hsm:(jj+1)*sz=jj*sz+sz:=bD jj sz
    rw[h3 j aa,g2 j,aq aa]
   ·cases i with
    | zero =>
      simp at hi;subst hi;have hsm:(jj+1)*sz=jj*sz+sz:=bD jj sz;rw[nS,h3 _ aa,g2,an aN];simp
    | succ i =>
      have:=h4 i j p ee hj;rw[show jj+(i+1)=jj+1+i from aa];exact this
theorem JB(f:Nat->Value):(Array.range 0).map f = #[]:=pj ab
theorem wc{E:Env}(hE:EOk E){st:ASt}{a:Act}{w:World}(hR:Rep E.w0 E.base st a w){d:Option Nat}{T len:Nat}{parts:List (Nat×AV)}{vparts:Array (Nat×Value)}
 (hl:vparts.toList.length=parts.length) (hp:∀(i:Nat) (p:Nat×AV),parts[i]? = some p->∃v,vparts.toList[i]? = some (p.1,v)/\VRel w st.h.M p.2 v) {K:ASt->Prop}(h:kP E st d T len parts K) :
 ∃r w',(Instr.buildSlice T len vparts).run E.P w=.ok r w'/\qU E.w0 E.base st a w d r w' K:=by
 obtain⟨e,te,i,hu,ht,hi,hs,-,hn,hlen,hcap,h⟩:=ed hE h;obtain⟨E0,H0⟩:=hR.heap
 obtain⟨rs,h',o,E',S,hK,hrl,hlr,hpp,FR⟩:=xW parts 0 H0 (us:=λi=>(vparts.toList.getD i (0,undef)).2) (λi p hi=>by
  obtain⟨v,hv,hr⟩:=hp i p hi
  simpa[hv]using hr) h
 obtain⟨i',z,hi',-,-,hz,hzc,-⟩:=ht.info;have hii:i'=i:=DW;subst hii
 have hvs:∀(k:Nat) (p:Nat×Value),vparts.toList[k]? = some p->p.1=0+k/\p.2.cells.size=te.n:=by
  intro k p hk;have hlt:k<parts.length:=by rw[<-hl];exact(au.1 hk).1
  obtain⟨v,hv,-⟩:=hp k _ (aj hlt);obtain⟨h1,h2⟩:=hpp k _ (aj hlt);rw[hk]at hv;have hv:=fO hv;subst hv;refine⟨h1,?_⟩
  simpa[hk]using h2
 have hvl:vparts.toList.length=len:=aa;obtain⟨cs,hf,hcs,-,hcr⟩:=C7 te.n vparts.toList 0 ((Array.range (len*te.n)).map λi=>z.cells[i % z.cells.size]!) hvs (by rw[hvl];simp);refine⟨.slice (some ⟨w.heap.size,0,none⟩) len len,w.alloc (.cells cs e),?_,?_⟩
 ·have hc':¬(16777216<len*te.n):=by omega
  by_cases hzero:len*te.n=0
  ·have hl0:len=0:=by
    rcases Nat.mul_eq_zero.1 hzero with h|h
    ·exact h
    ·omega
   subst hl0
   have hv0:vparts = #[]:=by
    apply pj
    have:vparts.toList.length=vparts.size:=ab;omega
   subst hv0;have hcs0:cs = #[]:=pj (by rw[hcs];simp);subst hcs0;simp[Instr.buildSlice,bj hu,eh hi,hs,newRow,Instr.fill];rw[JB]
  ·simp[Instr.buildSlice,bj hu,eh hi,hs,hc',hzero,zeroValue,typeInfo,hi,hz,newRow,hf]
 ·refine(hR.newRows H0 FR.rel FR.tr (st.key d) len e te.n hn rs o cs (w.alloc (.cells cs e)) rfl ⟨rfl,rfl,rfl⟩ aa ?_ (by rw[hcs];simp) hlr S ?_ FR.off ?_ FR.inj).put (.sl _ _ _ _ _ _ ?_) (hK w.heap.size)
  ·have:=cm len hn;simp[maxLen];omega
  ·intro i j row d' hi hj
   have hlt:i<vparts.toList.length:=by rw[hl,<-hrl];exact(au.1 hi).1
   have hjl:j<te.n:=by rw[<-hlr _ (aO hi)];exact(au.1 hj).1
   have:=FR.rd i j row d' hi hj;have hc:=hcr i j _ (aj hlt) hjl;rw[cQ]at hc;rw[hc]
   simpa[aj hlt]using this
  ·intro ho i j c hc
   obtain⟨h1,h2⟩:=FR.own ho i j c hc;exact⟨h1.imp id .inl,λj _=>h2 j⟩
  ·exact .inl ⟨ab,aa⟩
theorem RY{P:Program}{T:Nat}{ti:TI}(ht:TIok P T ti){w:World}{z:Value}(hzc:z.cells.toList=ti.zero.map zv)(x:Bool)(S:Nat->Prop)(j:Nat)(d:CD)(hj:(ti.zero.map Ji)[j]? = some d):Rd w x S (z.cells.getD j undef) d:=by
 simp only[ch,aU]at hj;obtain⟨av,hj,rfl⟩:=hj
 have e:z.cells.getD j undef=zv av:=by
  exact EL
 rw[e];rcases ht.zok av (aO hj)with rfl|⟨u,rfl,hp⟩
 ·exact .empty _ _ (λ_=>rfl)
 ·exact .plain hp
theorem BT(z:Array Value)(n sz i j:Nat)(hz:z.size=sz)(hi:i<n)(hj:j<sz):(madeCells z (n*sz)).getD (i*sz+j) undef=z.getD j undef:=by
 have hlt:i*sz+j<n*sz:=by
  have:=ao sz (show i+1<=n from aa);exact vf
 simp only[madeCells,aW];rw[Array.getElem?_map,Array.getElem?_range,an hlt];simp[hz,hj,pe hj]
theorem I1{E:Env}(hE:EOk E){st:ASt}{a:Act}{w:World}(hR:Rep E.w0 E.base st a w){d:Option Nat}{T:Nat}{l c:AV}{u v:Value}(hl:VRel w st.h.M l u)(hc:VRel w st.h.M c v){K:ASt->Prop}(h:Dn E st d T l c K) :
 ∃r w',(Instr.makeSlice T u v).run E.P w=.ok r w'/\qU E.w0 E.base st a w d r w' K:=by
 obtain⟨e,te,i,hu,ht,hi,hs,hby,hn,hbp,h⟩:=ed hE h;obtain⟨-,-,-,-,h⟩:=KB hl hc h
 split at h
 ·rename_i n m
  obtain⟨rfl,h0,hbytes,h⟩:=h;obtain⟨E0,H0⟩:=hR.heap;obtain⟨i',z,hi',-,-,hz,hzc,-⟩:=ht.info;have hii:i'=i:=DW;subst hii;obtain⟨N,rfl⟩:=Int.eq_ofNat_of_zero_le h0
  have hNb:N*te.bytes<=140737488355328:=by
   have e:((N*te.bytes:Nat):Int)=(N:Int)*(te.bytes:Int):=Int.natCast_mul _ _;omega
  have hN:N<=140737488355328:=dP (cm N hbp) hNb;have hzs:z.cells.size=te.n:=by rw[jB hzc,ht.zlen]
  have hrun:=run_make (P:=E.P) w T e i' z hu hi hz .i64 .i64 (N:Int) (N:Int) h0 (Int.le_refl _) (by rw[hby];rw[Int.mul_comm];exact Int.le_trans hbytes ah) aa;simp only[cV]at hrun;refine⟨_,_,hrun,?_⟩;rw[hs];have hlen:(List.replicate N (te.zero.map Ji)).length=N:=ab;simp only[cV]at h
  refine(hR.newRows H0 H0 (Tr.refl _ _) (st.key d) N e te.n hn (List.replicate N (te.zero.map Ji)) true (madeCells z.cells (N*te.n)) (w.alloc (.cells (madeCells z.cells (N*te.n)) e)) rfl ⟨rfl,rfl,rfl⟩ aa
   ij (by rw[size_madeCells];exact aH _) ?_ (λ_ _ _=>False) ?_ (λ_ _ _ hc=>hc.elim) (λ_ _ _ _ hc=>hc.elim) (λ_ _ _ _ _ _ hc=>hc.elim)).put (.sl _ _ _ _ _ _ ?_) (h w.heap.size)
  ·intro row hrow
   rw[List.eq_of_mem_replicate hrow];simp[ht.zlen]
  ·intro i j row d' hi hj
   have hiN:i<N:=by rw[<-hlen];exact(au.1 hi).1
   have hrow:=List.eq_of_mem_replicate (aO hi);subst hrow;have hjn:j<te.n:=by rw[<-ht.zlen];simpa using (au.1 hj).1
   rw[BT _ _ _ _ _ hzs hiN hjn];exact RY ht hzc _ _ j d' hj
  ·exact .inl ⟨ab,aa⟩
 ·exact h.elim
end Go.AM
