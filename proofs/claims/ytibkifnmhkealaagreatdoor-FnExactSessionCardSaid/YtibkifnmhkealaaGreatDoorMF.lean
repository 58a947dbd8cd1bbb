import Derived.Test.YtibkifnmhkealaaGreatDoorME
namespace Go.AM
open Go.RowKit
def RV.cells:RV->List (CD×Nat)
 | .c d sz=>[(d,sz)]
 | .agg ts=>ts
def AV.key:AV->Option Nat
 | .sl k _ _ _ _=>some k
 | .ml k _ _ _=>some k
 |_=>none
theorem SlV.some_of {H:Hd} {sz len:Nat} {u:Value} (h:SlV H sz 0 len u) (hl:0<len):∃ b o C,H=some (b,o,C)/\u=.slice (some ⟨b,o,none⟩) len C/\len<=C:=by
 cases H with
 |none=>obtain ⟨_,h0⟩:=h;omega
 | some q =>
   obtain ⟨b,o,C⟩:=q;rcases h with ⟨rfl,h2⟩|⟨rfl,_⟩
   ·exact ⟨b,o,C,rfl,by simp,by omega⟩
   ·omega
def rdW (w0:World) (F:Nat->Prop) (u:Value) (d:CD):Prop:=Rd w0 false F u d
theorem OJ {P:Program} {T:Nat->Option TI} {w0:World} {F G:Nat->Prop} {l:Bool} {L:World->Prop}:Env.rd ⟨P,T,w0,⟨F,G,l,L⟩⟩=rdW w0 F:=(rfl)
theorem I0 {P:Program} {T:Nat->Option TI} {w0:World} {F G:Nat->Prop} {l:Bool} {L:World->Prop}:Env.tight ⟨P,T,w0,⟨F,G,l,L⟩⟩=⟨P,T,w0,⟨F,G,false,L⟩⟩:=(rfl)
def cvC (u:Value):CD->AV
 | .v x=>.v x
 | .s rows=>.cv u rows.length
 | .h ..=>.any
def cvL (us:Nat->Value):Nat->List CD->List AV
 |_,[]=>[]
 |j,d::ds=>cvC (us j) d::cvL us (j+1) ds
def uf (us:Nat->Nat->Value):Nat->List VD->List (Nat×AV)
 |_,[]=>[]
 |i,.c d::l=>(i,cvC (us i 0) d)::uf us (i+1) l
 |i,.agg ds::l=>(i,.agg (cvL (us i) 0 ds))::uf us (i+1) l
def rdC (R:Value->CD->Prop) (u:Value):CD->Prop
 | .s rows=>R u (.s rows)
 |_=>True
def rdL (R:Value->CD->Prop) (us:Nat->Value):Nat->List CD->Prop
 |_,[]=>True
 |j,d::ds=>rdC R (us j) d/\rdL R us (j+1) ds
def rdA (R:Value->CD->Prop) (us:Nat->Nat->Value):Nat->List VD->Prop
 |_,[]=>True
 |i,.c d::l=>rdC R (us i 0) d/\rdA R us (i+1) l
 |i,.agg ds::l=>rdL R (us i) 0 ds/\rdA R us (i+1) l
theorem GA (us:Nat->Value):∀ (ds:List CD) (j i:Nat),(cvL us j ds)[i]? = (ds[i]?).map (cvC (us (j+i)))
 | [],j,i=>by simp [cvL]
 | d :: ds, j, i => by
   cases i with
   |zero=>rfl
   |succ i=>simp only [cvL,List.getElem?_cons_succ];rw [GA us ds (j+1) i,show j+1+i=j+(i+1) by omega]
theorem xS (us:Nat->Value):∀ (ds:List CD) (j:Nat),(cvL us j ds).length=ds.length
 | [],_=>rfl
 |d::ds,j=>by simp [cvL,xS us ds (j+1)]
theorem Ed (us:Nat->Nat->Value):∀ (l:List VD) (k i:Nat),aW (uf us k l) i=if k<=i then (match l[i - k]? with|some (.c d)=>cvC (us i 0) d|some (.agg ds)=>.agg (cvL (us i) 0 ds)|none=>.any) else .any
 | [],k,i=>by simp [uf,aW]
 | v :: l, k, i => by
   by_cases h:i=k
   ·subst h;cases v<;>simp [uf,aW]
   ·have e:aW (uf us k (v::l)) i=aW (uf us (k+1) l) i:=by cases v<;>simp [uf,aW,h]
    rw [e,Ed us l (k+1) i];by_cases h1:k+1<=i
    ·rw [if_pos h1,if_pos (by omega),show i - k=(i - (k+1))+1 by omega]
     rfl
    ·rw [if_neg h1,if_neg (by omega)]
theorem GB {w:World} {M F:Nat->Prop} {u:Value} {d:CD} (h:Rd w false F u d) (hh:∀ k H sz len,d≠.h k H sz len):VRel w M (cvC u d) u:=by
 cases d with
 |v x=>cases h with|plain hp=>exact .v _ hp
 | s rows =>
   refine .cv _ _ ?_
   cases h with
   |empty a cap=>exact ⟨a,cap,rfl⟩
   |slice b off cap=>exact ⟨_,cap,rfl⟩
 |h k H sz len=>exact absurd rfl (hh k H sz len)
theorem JL {R:Value->CD->Prop} {us:Nat->Value}:∀ (ds:List CD) (j:Nat),(∀ (i:Nat) (d:CD),ds[i]? = some d->R (us (j+i)) d)->rdL R us j ds
 | [],_,_=>trivial
 | d :: ds, j, h => by
   refine ⟨?_,JL ds (j+1) (λi d' hi=>by rw [show j+1+i=j+(i+1) by omega];exact h (i+1) d' (by simpa using hi))⟩
   cases d with
   |s rows=>exact h 0 _ rfl
   |_=>trivial
theorem JM {R:Value->CD->Prop} {us:Nat->Nat->Value}:∀ (l:List VD) (k:Nat),(∀ (i:Nat) (v:VD),l[i]? = some v->(∀ d,v=.c d->R (us (k+i) 0) d)/\(∀ ds,v=.agg ds->∀ (j:Nat) (d:CD),ds[j]? = some d->R (us (k+i) j) d))->rdA R us k l
 | [],_,_=>trivial
 | v :: l, k, h => by
   have hl:=JM l (k+1) (λi v' hi=>by rw [show k+1+i=k+(i+1) by omega];exact h (i+1) v' (by simpa using hi));have h0:=h 0 v rfl
   cases v with
   | c d =>
     refine ⟨?_,hl⟩;have:=h0.1 d rfl
     cases d with
     |s rows=>exact this
     |_=>trivial
   | agg ds =>
     refine ⟨JL ds 0 (λi d hi=>?_),hl⟩;rw [Nat.zero_add];exact h0.2 ds rfl i d hi
def noH:CD->Bool
 | .h ..=>false
 |_=>true
def VD.noH:VD->Bool
 | .c d=>AM.noH d
 | .agg ds=>ds.all AM.noH
theorem bY.introL {P : Program} {T : Nat → Option TI} (hT : ∀ t ti, T t = some ti → TIok P t ti) {L : World → Prop} (hL : LSt L) {f : Nat} {fn : Func} {c : Code} (hf : P.funcs[f]? = some fn) (hname : (fn.name == "runtime.NumGoroutine") = false) (hb : fn.body = some c)
 {n:Nat} {rs:List ResultVar} (hnt:fn.ntmps=n) (hrs:fn.results=⟨rs⟩) {args:List VD} {res:RR} (hn:args.length<=n) (hno:args.all VD.noH=true)
 (h:∀ w0 b us,EOk ⟨P,T,w0,⟨b,b,true,L⟩⟩->rdA (rdW w0 b) us 0 args->ge ⟨P,T,w0,⟨b,b,true,L⟩⟩ c (s5 ⟨P,T,w0,⟨b,b,true,L⟩⟩ rs res) { n:=n,kb:=0,t:=uf us 0 args,h:=[] }):bY P L f args res:=by
 subst hnt;have hrs':fn.results.toList=rs:=by rw [hrs]
 subst hrs';refine ⟨⟨fn,hf,hname,by rw [hb];rfl⟩,λw hw xs hs hx=>calls_of_wp hf hb ?_⟩
 let bs:Bs:=⟨λc=>c<w.heap.size,λc=>c<w.heap.size,true,L⟩
 have hE:EOk ⟨P,T,w,bs⟩:=⟨hT,λw' hb=>hL w w' hb hw⟩;have hM:∀ b,¬ AH.M [] b:=by rintro b ⟨k,hk⟩;simp [AObj.blk] at hk
 let us (i j:Nat):Value:=match xs.getD i undef with
  | .agg ys=>ys.getD j undef
  |y=>y
 have hargs:∀ (i:Nat) (v:VD),args[i]? = some v->(∀ d,v=.c d->xs.getD i undef=us i 0/\Rd w false (λ_=>True) (us i 0) d)/\(∀ ds,v=.agg ds->∃ ys:Array Value,xs.getD i undef=.agg ys/\ys.size=ds.length/\(∀ j,us i j=ys.getD j undef)/\∀ (j:Nat) (d:CD),ds[j]? = some d->Rd w false (λ_=>True) (us i j) d):=by
  intro i v hi;have h1:=hx i v hi
  constructor
  ·rintro d rfl
   have h2:Rd w false (λ_=>True) (xs.getD i undef) d:=h1
   have e:us i 0=xs.getD i undef:=by
    simp only [us];generalize xs.getD i undef=y at h2;have h2':=h2
    cases h2 with
    |plain hp=>cases y<;>simp [plain] at hp<;>rfl
    |empty=>rfl
    |slice=>rfl
    | h k H sz len =>
      obtain ⟨a,c,rfl⟩:=h2'.mlv.slice;rfl
   rw [e];exact ⟨rfl,h2⟩
  ·rintro ds rfl
   obtain ⟨ys,e1,e2,e3⟩:=h1;have e4:∀ j,us i j=ys.getD j undef:=λj=>by simp only [us,e1]
   exact ⟨ys,e1,e2,e4,λj d hj=>by rw [e4];exact e3 j d hj⟩
 have hrd:rdA (rdW w λc=>c<w.heap.size) us 0 args:=by
  refine JM args 0 (λi v hi=>?_);obtain ⟨h1,h2⟩:=hargs i v hi;rw [Nat.zero_add];refine ⟨λd hd=>((h1 d hd).2.within).map (λ_ _ _=>rfl) (λc hc _=>hc.2),λds hds j d hj=>?_⟩;obtain ⟨ys,-,-,-,h3⟩:=h2 ds hds;exact ((h3 j d hj).within).map (λ_ _ _=>rfl) (λc hc _=>hc.2)
 have nh:∀ (d:CD),AM.noH d=true->∀ k H sz len,d≠.h k H sz len:=by
  intro d hd k H sz len e;subst e;simp [AM.noH] at hd
 have hR:Rep w bs { n:=fn.ntmps,kb:=0,t:=uf us 0 args,h:=[] } { tmps:=xs++Array.replicate (fn.ntmps - xs.size) undef,defers:=[] } w:=by
  refine ⟨rfl,by simp;omega,λi=>?_,⟨λ_ _=>False,λk=>trivial,λk k' b hk=>by simp [AH.get,AObj.blk] at hk,λk b hk=>by simp [AH.get,AObj.blk] at hk,λk c hc=>hc.elim,λk k' c hc=>hc.elim,λk c hc=>hc.elim⟩,BelowF.refl _ _,λb hb=>hb.elim id id⟩
  show VRel w (AH.M []) (aW (uf us 0 args) i) _
  rw [Ed,if_pos (Nat.zero_le i),Nat.sub_zero]
  cases hv:args[i]? with
  |none=>exact .any _
  | some v =>
    have hlt:i<xs.size:=by rw [hs];exact (List.getElem?_eq_some_iff.1 hv).1
    have e:(xs++Array.replicate (fn.ntmps - xs.size) undef).getD i undef=xs.getD i undef:=by
     simp only [Array.getD_eq_getD_getElem?];rw [Array.getElem?_append_left hlt]
    show VRel w (AH.M []) _ ((xs++Array.replicate (fn.ntmps - xs.size) undef).getD i undef)
    rw [e];obtain ⟨h1,h2⟩:=hargs i v hv;have hnv:=List.all_eq_true.1 hno v (List.mem_of_getElem? hv)
    cases v with
    | c d =>
      obtain ⟨e1,e2⟩:=h1 d rfl;rw [e1];exact GB e2 (nh d (by simpa [VD.noH] using hnv))
    | agg ds =>
      obtain ⟨ys,e1,e2,e3,e4⟩:=h2 ds rfl;rw [e1];refine .agg _ _ (by rw [xS];omega) (λj av hj=>?_);rw [GA,Nat.zero_add,Option.map_eq_some_iff] at hj;obtain ⟨d,hd,rfl⟩:=hj;rw [<- e3];exact GB (e4 j d hd) (nh d (List.all_eq_true.1 (by simpa [VD.noH] using hnv) d (List.mem_of_getElem? hd)))
 refine wp_mono (dQ hE c _ _ _ w hR (h w (λc=>c<w.heap.size) us hE hrd)) ?_
 rintro e a' w' ⟨st',hq,hR'⟩
 have key:jr ⟨P,T,w,bs⟩ st' fn.results.toList (yP st'.h res)->a'.defers=[]/\∃ v,(results fn a'.tmps).run P w'=.ok v w'/\∃ v',Ending.returned v=.returned v'/\Below w.heap.size w w'/\Ep w' (λc=>w.heap.size<=c/\c<w'.heap.size) v' res:=by
  intro hq;obtain ⟨vs,l,h1,h2,h3,h4⟩:=gL hE hR' fn.results.toList hq;obtain ⟨Es,hH⟩:=hR'.heap;refine ⟨hR'.dfr,if vs.length=1 then vs.getD 0 undef else .tuple vs.toArray,?_,_,rfl,⟨hR'.below.os,hR'.below.tape,hR'.below.output,hR'.below.size,hR'.below.block⟩,?_⟩
  ·have h1':(fn.results.toList.mapM (kE a'.tmps)).run P w'=.ok vs w':=h1
   rw [kW,Array.mapM_eq_mapM_toList];simp only [Sem.run_bind,Sem.run_map,h1',Result.andThen_ok,Sem.run_pure]
   cases vs with
   |nil=>simp
   |cons v vs=>cases vs<;>simp
  ·have low:∀ c,((∃ k,Es k c)\/st'.h.M c)->w.heap.size<=c/\c<w'.heap.size:=by
    rintro c (⟨k,hk⟩|⟨k,hk⟩)
    ·exact ⟨Nat.le_of_not_lt (hH.elow k c hk).1,(hH.elow k c hk).2⟩
    ·exact ⟨Nat.le_of_not_lt (hH.low k c hk).1,hH.lt hk⟩
   unfold yP at h4
   split at h4
   ·split at h4
    ·rename_i r x
     obtain ⟨h',E',S,-,hr,O⟩:=pr hH (h3 0 x rfl) h4;rw [if_pos (by simpa using h2)];exact nH.mono hr (λc hc=>low c (O.own c hc).1)
    ·exact h4.elim
   ·rename_i rs _
    obtain ⟨hne,h4⟩:=h4;obtain ⟨h',E',S,F,-,hl,hF,hd,hr,O⟩:=nD l rs hH h3 h4;rw [if_neg (by omega)];exact ⟨vs.toArray,F,rfl,by simp;omega,λj c hc=>low c (O.own c (hF j c hc)).1,hd,λj t hj=>by simpa using hr j t hj⟩
 cases e with
 |normal=>exact key hq
 |ret=>exact key hq
 |_=>exact hq.elim
theorem ai.introL {P : Program} {T : Nat → Option TI} (hT : ∀ t ti, T t = some ti → TIok P t ti) {f : Nat} {fn : Func} {c : Code} (hf : P.funcs[f]? = some fn) (hname : (fn.name == "runtime.NumGoroutine") = false) (hb : fn.body = some c)
 {n:Nat} {rs:List ResultVar} (hnt:fn.ntmps=n) (hrs:fn.results=⟨rs⟩) {args:List VD} {res:RR} (hn:args.length<=n) (hno:args.all VD.noH=true)
 (h:∀ w0 b us,rdA (rdW w0 b) us 0 args->ge ⟨P,T,w0,⟨b,b,true,λ_=>True⟩⟩ c (s5 ⟨P,T,w0,⟨b,b,true,λ_=>True⟩⟩ rs res) { n:=n,kb:=0,t:=uf us 0 args,h:=[] }):ai P f args res:=
 bY.introL hT LSt.true hf hname hb hnt hrs hn hno (λw0 b us _=>h w0 b us)
def hv (v:AV):AV:=bif v.q then v else .any
section rules
variable {P:Program} {T:Nat->Option TI} {w0:World} {base:Bs} {E:Env} {Q:Exit->ASt->Prop} {K:ASt->Prop} {st:ASt} {h:AH} {l:List AV} {t t':CD×Nat} {ts ts':List (CD×Nat)} {ks:List Nat} {KA:AH->Prop} {KL:AH->List Nat->Prop} {KI:List AV->AH->Prop} {key k sz off len:Nat} {H:Hd} {u:Value} {rows:List (List CD)}
theorem Ux:hv (.v u)=.v u:=(rfl)
theorem Pw:hv .any=.any:=(rfl)
theorem Si:hv .un=.un:=(rfl)
theorem Pu:hv .nil=.nil:=(rfl)
theorem Sl:hv (.ro rows)=.any:=(rfl)
theorem Sk {row:List CD}:hv (.rp row)=.any:=(rfl)
theorem Sj:hv (.sl k H sz off len)=.sl k H sz off len:=(rfl)
theorem Sn:hv (.cv u len)=.cv u len:=(rfl)
theorem Sm:hv (.ml k H sz len)=.ml k H sz len:=(rfl)
theorem Uy {b c:Nat}:hv (.p k b c)=.p k b c:=(rfl)
theorem Uz {r c:Nat}:hv (.e k H sz r c)=.e k H sz r c:=(rfl)
theorem Px:hv (.agg l)=bif AV.qL l then .agg l else .any:=(rfl)
theorem Pt:hv (.tup l)=bif AV.qL l then .tup l else .any:=(rfl)
theorem Pv {f:Nat}:hv (.clo f l)=bif AV.qL l then .clo f l else .any:=(rfl)
theorem q_v:AV.q (.v u)=true:=(rfl)
theorem RN:AV.q .any=true:=(rfl)
theorem Uk:AV.q .un=true:=(rfl)
theorem RL:AV.q .nil=true:=(rfl)
theorem Un:AV.q (.ro rows)=false:=(rfl)
theorem Um {row:List CD}:AV.q (.rp row)=false:=(rfl)
theorem Ul:AV.q (.sl k H sz off len)=true:=(rfl)
theorem Up:AV.q (.cv u len)=true:=(rfl)
theorem Uo:AV.q (.ml k H sz len)=true:=(rfl)
theorem q_p {b c:Nat}:AV.q (.p k b c)=true:=(rfl)
theorem q_e {r c:Nat}:AV.q (.e k H sz r c)=true:=(rfl)
theorem RO:AV.q (.agg l)=AV.qL l:=(rfl)
theorem RK:AV.q (.tup l)=AV.qL l:=(rfl)
theorem RM {f:Nat}:AV.q (.clo f l)=AV.qL l:=(rfl)
theorem OL:AV.qL []=true:=(rfl)
theorem LO {a:AV}:AV.qL (a::l)=(a.q && AV.qL l):=(rfl)
theorem JN {n kb:Nat} {t:List (Nat×AV)}:ASt.quiet ⟨n,kb,t,h⟩=(qT t=true/\qH h=true):=(rfl)
theorem OK:qT []=true:=(rfl)
theorem LN {i:Nat} {v:AV} {t:List (Nat×AV)}:qT ((i,v)::t)=(v.q && qT t):=(rfl)
theorem OM:qH []=true:=(rfl)
theorem LP {i:Nat} {o:AObj}:qH ((i,o)::h)=(o.q && qH h):=(rfl)
theorem L5:AObj.q .dead=true:=(rfl)
theorem L1 {b:Nat} {T:TypeId}:AObj.q (.vars b T l)=AV.qL l:=(rfl)
theorem L3 {own:Bool}:AObj.q (.rows H sz rows own)=own:=(rfl)
theorem Fl {a:AV}:List.headD (a::l) .any=a:=(rfl)
variable {rs:List ResultVar} {r:Int} {x:AV} {a':RV}
theorem Mj {β:Type} {Inv:β->Prop} {I:β->ASt} {μ:β->Nat} {x:β}:Gq E Inv I μ x Q .normal st=Ent E st λst'=>∃ x',Inv x'/\μ x'<μ x/\yp st' (I x'):=(rfl)
theorem Mi {β:Type} {Inv:β->Prop} {I:β->ASt} {μ:β->Nat} {x:β}:Gq E Inv I μ x Q .ret st=Q .ret st:=(rfl)
theorem Ml {β:Type} {Inv:β->Prop} {I:β->ASt} {μ:β->Nat} {x:β} {i:Nat}:Gq E Inv I μ x Q (.exit i) st=Q (.exit i) st:=(rfl)
end rules
attribute [simp ↓] OJ I0 Fl Mj Mi Ml
attribute [simp] Ux Pw Si Pu Sl Sk Sj Sn Sm Uy Uz Px Pt Pv q_v RN Uk RL Un Um Ul Up Uo q_p q_e RO RK RM OL LO JN OK LN OM LP L5 L1 L3 cvC cvL uf rdC rdL rdA lE
open Go.RowKit
theorem Ent.kill {E:Env} {st:ASt} {S:ASt->Prop} (k:Nat) (h:Ent E { st with h:=(k,.dead)::st.h } S):Ent E st S:=by
 intro a w hR;obtain ⟨Es,HH⟩:=hR.heap;exact h a w (hR.move (HH.kill k) (Tr.kill HH k) ⟨rfl,rfl,rfl⟩).rep
def Fd (E:Env) (rs:List ResultVar) (R:AV->AH->Prop):Exit->ASt->Prop
 | .normal, st => jr E st rs λl => match l with
   | [x]=>R x st.h
   |l=>R (.tup l) st.h
 | .ret, st => jr E st rs λl => match l with
   | [x]=>R x st.h
   |l=>R (.tup l) st.h
 |_,_=>False
def s7:Nat->List AV->List (Nat×AV)
 |_,[]=>[]
 |i,v::l=>(i,v)::s7 (i+1) l
theorem ya:∀ (l:List AV) (k i:Nat),aW (s7 k l) i=if k<=i then (match l[i - k]? with|some v=>v|none=>.any) else .any
 | [],k,i=>by simp [s7,aW]
 | v :: l, k, i => by
   unfold s7 aW;by_cases h:i=k
   ·subst h;simp
   ·rw [if_neg h,ya l (k+1) i]
    by_cases h1:k+1<=i
    ·rw [if_pos h1,if_pos (by omega),show i - k=(i - (k+1))+1 by omega]
     rfl
    ·rw [if_neg h1,if_neg (by omega)]
theorem zs {P : Program} {T : Nat → Option TI} {w0 : World} {base : Bs} (hE0 : EOk ⟨P, T, w0, base⟩) {f : Nat} {fn : Func} {c : Code} (hf : P.funcs[f]? = some fn) (hname : (fn.name == "runtime.NumGoroutine") = false) (hb : fn.body = some c)
 {n:Nat} {rs:List ResultVar} (hnt:fn.ntmps=n) (hrs:fn.results=⟨rs⟩) {args:List AV} (hn:args.length<=n) (kb':Nat) {st:ASt} {dst:Option Nat} {K:ASt->Prop}
 (h:∀ w1 F,EOk ⟨P,T,w1,⟨F,base.G,base.loose,base.L⟩⟩->ge ⟨P,T,w1,⟨F,base.G,base.loose,base.L⟩⟩ c (Fd ⟨P,T,w1,⟨F,base.G,base.loose,base.L⟩⟩ rs λav h'=>bk ⟨st.n,st.kb,st.t,h'⟩ dst av K) ⟨n,kb',s7 0 args,st.h⟩):aa ⟨P,T,w0,base⟩ f args st dst K:=by
 subst hnt;have hrs':fn.results.toList=rs:=by rw [hrs]
 subst hrs';refine ⟨⟨fn,hf,hname,by rw [hb];rfl⟩,λa w hR xs hs hx=>calls_of_wp hf hb ?_⟩
 let bs:Bs:=⟨λb=>b<w.heap.size/\¬ st.h.M b,base.G,base.loose,base.L⟩
 obtain ⟨Es,HH⟩:=hR.heap;have hE:EOk ⟨P,T,w,bs⟩:=⟨hE0.1,λw' hb=>hE0.2 w' (hR.below.trans ⟨hb.os,hb.tape,hb.output,hb.size,λb hF=>hb.block b ⟨hR.base_le b (.inl hF),λ⟨q,hq⟩=>(HH.low q b hq).1 hF⟩⟩)⟩
 have hR0:Rep w bs ⟨fn.ntmps,kb',s7 0 args,st.h⟩ { tmps:=xs++Array.replicate (fn.ntmps - xs.size) undef,defers:=[] } w:=by
  refine ⟨rfl,by simp;omega,λi=>?_,⟨Es,HH.obj,HH.inj,λk b hk=>⟨λhf=>hf.2 ⟨k,hk⟩,(HH.low k b hk).2⟩,HH.elow,HH.einj,HH.em⟩,BelowF.refl _ _,λb hb=>hb.elim (λh=>h.1) (λh=>hR.base_le b (.inr h))⟩
  show VRel w st.h.M (aW (s7 0 args) i) _
  rw [ya,if_pos (Nat.zero_le i),Nat.sub_zero]
  cases hv:args[i]? with
  |none=>exact .any _
  | some v =>
    have hlt:i<xs.size:=by rw [hs];exact (List.getElem?_eq_some_iff.1 hv).1
    have e:(xs++Array.replicate (fn.ntmps - xs.size) undef).getD i undef=xs.getD i undef:=by
     simp only [Array.getD_eq_getD_getElem?];rw [Array.getElem?_append_left hlt]
    show VRel w st.h.M v ((xs++Array.replicate (fn.ntmps - xs.size) undef).getD i undef)
    rw [e];exact hx i v hv
 refine wp_mono (dQ hE c _ _ _ w hR0 (h w _ hE)) ?_
 rintro e a' w' ⟨st',hq,hR'⟩
 obtain ⟨E',H'⟩:=hR'.heap;have t:Tr st.h.M w st'.h.M w':=⟨hR'.below.size,λb hb hM=>hR'.below.block b ⟨hb,hM⟩,λb hb ⟨k,hk⟩=>Classical.byContradiction λhM=>(H'.low k b hk).1 ⟨hb,hM⟩⟩
 have hRo:Rep w0 base ⟨st.n,st.kb,st.t,st'.h⟩ a w':=by
  refine ⟨hR.dfr,hR.size,λi=>(hR.tmp i).tr t,⟨E',H'.obj,H'.inj,λk b hk=>⟨λhF=>?_,(H'.low k b hk).2⟩,H'.elow,H'.einj,H'.em⟩,hR.below.trans ⟨hR'.below.os,hR'.below.tape,hR'.below.output,hR'.below.size,λb hF=>?_⟩,λb hb=>Nat.lt_of_lt_of_le (hR.base_le b hb) hR'.below.size⟩
  ·obtain ⟨q,hq⟩:=t.mono b (hR.base_le b (.inl hF)) ⟨k,hk⟩
   exact (HH.low q b hq).1 hF
  ·exact t.frame b (hR.base_le b (.inl hF)) (λ⟨q,hq⟩=>(HH.low q b hq).1 hF)
 have key:(jr ⟨P,T,w,bs⟩ st' fn.results.toList λl => match l with | [x] => bk ⟨st.n,st.kb,st.t,st'.h⟩ dst x K|l => bk ⟨st.n,st.kb,st.t,st'.h⟩ dst (.tup l) K) -> a'.defers=[] /\ ∃ v,(results fn a'.tmps).run P w'=.ok v w' /\
  ∃ v' av h',Ending.returned v=.returned v'/\K (st.aft dst av h')/\Rep w0 base (st.aft dst av h') (a.put dst v') w'/\(base.loose=false->Tr st.h.M w h'.M w')/\VRel w' h'.M av v':=by
  intro hq;obtain ⟨vs,l,h1,h2,h3,h4⟩:=gL hE hR' fn.results.toList hq;have h1':(fn.results.toList.mapM (kE a'.tmps)).run P w'=.ok vs w':=h1
  have hrun:(results fn a'.tmps).run P w'=.ok (if vs.length=1 then vs.getD 0 undef else .tuple vs.toArray) w':=by
   rw [kW,Array.mapM_eq_mapM_toList];simp only [Sem.run_bind,Sem.run_map,h1',Result.andThen_ok,Sem.run_pure]
   cases vs with
   |nil=>simp
   |cons v vs=>cases vs<;>simp
  refine ⟨hR'.dfr,_,hrun,?_⟩
  have fin:∀ (av:AV) (v:Value),VRel w' st'.h.M av v->bk ⟨st.n,st.kb,st.t,st'.h⟩ dst av K->∃ v' av h',Ending.returned v=.returned v'/\K (st.aft dst av h')/\Rep w0 base (st.aft dst av h') (a.put dst v') w'/\(base.loose=false->Tr st.h.M w h'.M w')/\VRel w' h'.M av v':=by
   intro av v hv hK;obtain ⟨g1,g2⟩:=hRo.put hv hK;have e:(({ st with h:=st'.h }:ASt).aft dst av st'.h)=st.aft dst av st'.h:=by unfold ASt.aft;cases dst<;>rfl
   have e2:(⟨st.n,st.kb,st.t,st'.h⟩:ASt).aft dst av st'.h=st.aft dst av st'.h:=e;rw [show (⟨st.n,st.kb,st.t,st'.h⟩:ASt).h=st'.h from rfl,e2] at g1 g2;exact ⟨v,av,st'.h,rfl,g1,g2,λ_=>t,hv⟩
  split at h4
  ·rename_i x
   rw [if_pos (by simpa using h2)];exact fin x _ (h3 0 x rfl) h4
  ·rename_i hne
   have hl:¬ vs.length=1:=by
    intro h1;rw [h1] at h2;obtain ⟨x,hx⟩:=List.length_eq_one_iff.1 h2.symm;exact hne x hx
   rw [if_neg hl];exact fin (.tup l) _ (.tup l vs.toArray (by simpa using h2) (λi av hi=>by simpa using h3 i av hi)) h4
 cases e with
 |normal=>exact key hq
 |ret=>exact key hq
 |_=>exact hq.elim
theorem Cn {P : Program} {T : Nat → Option TI} (hT : ∀ t ti, T t = some ti → TIok P t ti) {w0 : World} {base : Bs} {f : Nat} {fn : Func} {c : Code} (hf : P.funcs[f]? = some fn) (hname : (fn.name == "runtime.NumGoroutine") = false) (hb : fn.body = some c)
 {n:Nat} {rs:List ResultVar} (hnt:fn.ntmps=n) (hrs:fn.results=⟨rs⟩) {args:List AV} (hn:args.length<=n) (kb':Nat) {st:ASt} {dst:Option Nat} {K:ASt->Prop}
 (h:∀ w1 F,ge ⟨P,T,w1,⟨F,base.G,base.loose,base.L⟩⟩ c (Fd ⟨P,T,w1,⟨F,base.G,base.loose,base.L⟩⟩ rs λav h'=>bk ⟨st.n,st.kb,st.t,h'⟩ dst av K) ⟨n,kb',s7 0 args,st.h⟩)
 (hL:base.L=λ_=>True:=by rfl):aa ⟨P,T,w0,base⟩ f args st dst K:=
 zs ⟨hT,λ_ _=>by show base.L _;rw [hL];trivial⟩ hf hname hb hnt hrs hn kb' (λw1 F _=>h w1 F)
theorem be.ent {E:Env} {id:Nat} {ops:List Oper} {Q:Exit->ASt->Prop} {st:ASt} (h:Ent E st (be E id ops Q)):be E id ops Q st:=by
 intro a w hR;obtain ⟨st',hs,hR'⟩:=h a w hR;exact hs a w hR'
theorem Sc {E:Env} {rs:List ResultVar} {R:AV->AH->Prop} {st:ASt}:Fd E rs R .normal st=jr E st rs λl=>match l with | [x]=>R x st.h|l=>R (.tup l) st.h:=(rfl)
theorem Sb {E:Env} {rs:List ResultVar} {R:AV->AH->Prop} {st:ASt}:Fd E rs R .ret st=jr E st rs λl=>match l with | [x]=>R x st.h|l=>R (.tup l) st.h:=(rfl)
theorem SO {E:Env} {st:ASt} {K:ASt->Prop} {d:Option Nat} {t:TypeId} {p:String} {af:Array Edge} {g:Option (Nat×Bool)} {f:Nat} {l:List Operand} :
 aOp E ⟨d,.makeFunc (.func f) #[] ⟨l⟩,t,p,af,g⟩ st K=bk st d (.clo f (l.map st.ev)) K:=by
 simp [aOp,u7]
theorem RY {k b c:Nat} {F:AV->Prop}:vD (.p k b c) F=F (.p k b c):=(rfl)
theorem RZ {k sz r c:Nat} {H:Hd} {F:AV->Prop}:vD (.e k H sz r c) F=F (.e k H sz r c):=(rfl)
theorem Pa {row:List CD} {F:AV->Prop}:vD (.rp row) F=F (.rp row):=(rfl)
theorem Mc {f:Nat} {l:List AV} {F:AV->Prop}:vD (.clo f l) F=F (.clo f l):=(rfl)
attribute [simp ↓] SO RY RZ Pa Mc Sc Sb
attribute [simp] s7
def svT (t:List (Nat×AV)) (F:List (Nat×AV)->Prop):Prop:=F t
@[congr] theorem Uj {t t':List (Nat×AV)} {F:List (Nat×AV)->Prop} (h:t=t'):svT t F=svT t' F:=by rw [h]
theorem LF {F:List (Nat×AV)->Prop}:svT [] F=F []:=(rfl)
theorem Jz {p:Nat×AV} {t:List (Nat×AV)} {F:List (Nat×AV)->Prop}:svT (p::t) F=svT t λt'=>F (p::t'):=(rfl)
def GZ (o:Oper) (G:List Nat):PV->PV
 | []=>[]
 |p::l=>bif cg o p.1 && !G.contains p.1 then p::GZ o G l else GZ o G l
def GY (o:Oper) (G:List Nat):PV->PV
 | []=>[]
 |p::l=>bif !cg o p.1 && !G.contains p.1 then p::GY o G l else GY o G l
def GX (G:List Nat):PV->PV
 | []=>[]
 |p::l=>bif !G.contains p.1 then p::GX G l else GX G l
theorem F7 (o:Oper) (G:List Nat):∀ pv:PV,pv.filter (λp=>cg o p.1 && !G.contains p.1)=GZ o G pv
 | []=>rfl
 |p::l=>by rw [List.filter_cons,GZ,F7 o G l];cases cg o p.1 && !G.contains p.1<;>rfl
theorem F6 (o:Oper) (G:List Nat):∀ pv:PV,pv.filter (λp=>!cg o p.1 && !G.contains p.1)=GY o G pv
 | []=>rfl
 |p::l=>by rw [List.filter_cons,GY,F6 o G l];cases !cg o p.1 && !G.contains p.1<;>rfl
theorem F5 (G:List Nat):∀ pv:PV,pv.filter (λp=>!G.contains p.1)=GX G pv
 | []=>rfl
 |p::l=>by rw [List.filter_cons,GX,F5 G l];cases !G.contains p.1<;>rfl
def ixs (pv:PV):List Nat:=pv.map (·.1)
def pick {α:Type}:List Bool->List α->List α
 |true::m,a::l=>a::pick m l
 |false::m,_::l=>pick m l
 |_,_=>[]
theorem zI (o:Oper) (G:List Nat):∀ pv:PV,GZ o G pv=pick ((ixs pv).map λi=>cg o i && !G.contains i) pv
 | []=>rfl
 | p :: l => by
   simp only [GZ,ixs,List.map_cons,zI o G l]
   cases cg o p.1 && !G.contains p.1<;>rfl
theorem zH (o:Oper) (G:List Nat):∀ pv:PV,GY o G pv=pick ((ixs pv).map λi=>!cg o i && !G.contains i) pv
 | []=>rfl
 | p :: l => by
   simp only [GY,ixs,List.map_cons,zH o G l]
   cases !cg o p.1 && !G.contains p.1<;>rfl
theorem zG (G:List Nat):∀ pv:PV,GX G pv=pick ((ixs pv).map λi=>!G.contains i) pv
 | []=>rfl
 | p :: l => by
   simp only [GX,ixs,List.map_cons,zG G l]
   cases !G.contains p.1<;>rfl
def s8 (l:List (Oper×Nat×AV)) (F:Oper->AV->Prop):Prop:=
 match l with
 | []=>True
 |p::l=>F p.1 p.2.2/\s8 l F
theorem GI {F:Oper->AV->Prop}:∀ l:List (Oper×Nat×AV),s8 l F = ∀ p∈l,F p.1 p.2.2
 | []=>by simp [s8]
 |p::l=>by simp [s8,GI l]
def lQ (E:Env) (all:List Oper) (n kb:Nat) (h:AH):List Oper->List (Nat×AV)->List (Oper×Nat×AV)->(List (Nat×AV)->List (Oper×Nat×AV)->Prop)->Prop
 | [],vt,pv,K=>K vt pv
 |o::rest,vt,pv,K=>ez E all o ⟨n,kb,vt,h⟩ λv=>lQ E all n kb h rest ((o.dst.getD 0,v)::vt) ((o,o.dst.getD 0,v)::pv) K
def k9 (pv:PV):List (Oper×Nat×AV):=pv.map λp=>(p.2.1,p.2.1.dst.getD 0,p.2.2)
theorem jX {α β:Type} (f:α->β):∀ (m:List Bool) (l:List α),pick m (l.map f)=(pick m l).map f
 | [],_=>by simp [pick]
 |true::m,[]=>rfl
 |false::m,[]=>rfl
 |true::m,a::l=>by simp [pick,jX f m l]
 |false::m,a::l=>by simp [pick,jX f m l]
theorem r9 {α:Type} {a:α}:∀ (m:List Bool) (l:List α),a∈pick m l->a∈l
 | [],_,h=>by simp [pick] at h
 |true::m,[],h=>by simp [pick] at h
 |false::m,[],h=>by simp [pick] at h
 | true :: m, b :: l, h => by
   simp only [pick,List.mem_cons] at h ⊢;exact h.imp id (r9 m l)
 | false :: m, b :: l, h => by
   simp only [pick] at h;exact List.mem_cons_of_mem _ (r9 m l h)
theorem wQ:∀ (pv:PV),(∀ p∈pv,p.2.1.dst.isSome=true)->pvT pv=(k9 pv).map λp=>(p.2.1,p.2.2)
 | [],_=>rfl
 | p :: l, h => by
   have h1:=h p (List.mem_cons_self ..);have h2:=wQ l (λq hq=>h q (List.mem_cons_of_mem _ hq));obtain ⟨i,o,v⟩:=p
   cases hd:o.dst with
   |none=>simp [hd] at h1
   | some d =>
     unfold pvT at h2 ⊢;simp only [List.filterMap_cons,hd,Option.map_some,h2,k9,List.map_cons,Option.getD_some]
theorem Eh {E:Env} {ops:List Oper} {n kb:Nat} {t:List (Nat×AV)} {h:AH} {K:PV -> Prop} {K':List (Nat×AV) -> List (Oper×Nat×AV) -> Prop}:∀ (l:List Nat) (pv:PV),(∀ p ∈ pv,p.2.1=aE ops p.1) -> (∀ i ∈ l,(aE ops i).dst.isSome=true) ->
 (∀ pv':PV,ixs pv'=l.reverse++ixs pv -> (∀ p ∈ pv',p.2.1=aE ops p.1) -> K pv'=K' (pvT pv'++t) (k9 pv')) ->
 ry E ops ⟨n,kb,t,h⟩ pv (l.map λi=>(i,aE ops i)) K=lQ E ops n kb h (l.map (aE ops)) (pvT pv++t) (k9 pv) K'
 | [], pv, hp, _, hk => by
   simp only [List.map_nil,ry,lQ];exact hk pv rfl hp
 | i :: l, pv, hp, hl, hk => by
   obtain ⟨d,hd⟩:=Option.isSome_iff_exists.1 (hl i (List.mem_cons_self ..));simp only [List.map_cons,ry,lQ];refine congrArg _ ?_
   funext v
   have e1:pvT ((i,aE ops i,v)::pv)=((aE ops i).dst.getD 0,v)::pvT pv:=by simp [pvT,hd]
   have e2:k9 ((i,aE ops i,v)::pv)=(aE ops i,(aE ops i).dst.getD 0,v)::k9 pv:=rfl;rw [Eh l ((i,aE ops i,v)::pv) (λp hp'=>?_) (λj hj=>hl j (List.mem_cons_of_mem _ hj)) (λpv' h1 h2=>hk pv' (by rw [h1];simp [ixs]) h2),e1,e2]
   ·rfl
   ·rcases List.mem_cons.1 hp' with rfl|hp'
    ·rfl
    ·exact hp p hp'
def Fu (n:Nat) (ops:List Oper) (pre:List Nat):Bool:=pre.all λi=>match (aE ops i).dst with|some d=>decide (d<n)|none=>false
section rules
variable {E:Env} {all rest:List Oper} {n kb d:Nat} {t vt:List (Nat×AV)} {h:AH} {pv:List (Oper×Nat×AV)} {K:ASt->Prop} {KP:List (Nat×AV)->List (Oper×Nat×AV)->Prop} {op:Op} {ty:TypeId} {p:String} {af:Array Edge} {D N R:List Bool} {plan:List (List Bool×List Bool)} {o:Oper} {st:ASt} {KV:AV->Prop}
theorem Qu:lQ E all n kb h [] vt pv KP=KP vt pv:=(rfl)
theorem M9:lQ E all n kb h (⟨some d,op,ty,p,af,none⟩::rest) vt pv KP=gw E ⟨n,kb,vt,h⟩ op λv=>lQ E all n kb h rest ((d,v)::vt) ((⟨some d,op,ty,p,af,none⟩,d,v)::pv) KP:=(rfl)
theorem Lm {j:Nat} {b:Bool}:lQ E all n kb h (⟨some d,op,ty,p,af,some (j,b)⟩::rest) vt pv KP=B8 (ju all j) λs=>vB (aW vt s) b (ph (gw E ⟨n,kb,vt,h⟩ op λv=>lQ E all n kb h rest ((d,v)::vt) ((⟨some d,op,ty,p,af,some (j,b)⟩,d,v)::pv) KP)) (ph (lQ E all n kb h rest ((d,.un)::vt) ((⟨some d,op,ty,p,af,some (j,b)⟩,d,.un)::pv) KP)):=by
 simp only [lQ,ez,B8,vB]
 cases ju all j with
 |none=>rfl
 |some s=>rfl
@[congr] theorem TM {l l':List (Oper×Nat×AV)} {F:Oper->AV->Prop} (h:l=l'):s8 l F=s8 l' F:=by rw [h]
theorem KZ {F:Oper->AV->Prop}:s8 [] F=True:=(rfl)
theorem Iu {o:Oper} {i:Nat} {v:AV} {l:List (Oper×Nat×AV)} {F:Oper->AV->Prop}:s8 ((o,i,v)::l) F=(F o v/\s8 l F):=(rfl)
theorem GR {dd:Option Nat}:ez E all ⟨dd,op,ty,p,af,none⟩ st KV=gw E st op KV:=(rfl)
theorem OZ:aE (o::rest) 0=o:=(rfl)
theorem OY {i:Nat}:aE (o::rest) (i+1)=aE rest i:=by simp [aE]
theorem OQ {α:Type} {m:List Bool} {a:α} {l:List α}:pick (true::m) (a::l)=a::pick m l:=(rfl)
theorem OR {α:Type} {m:List Bool} {a:α} {l:List α}:pick (false::m) (a::l)=pick m l:=(rfl)
theorem OS {α:Type} {l:List α}:pick [] l=[]:=by cases l<;>rfl
end rules
attribute [simp ↓] Qu M9 Lm GR OZ OY OQ OR OS
attribute [simp] LF Jz KZ Iu
open Go.RowKit
theorem iZ.refl:∀ a:AV,iZ a a:=by
 intro a
 cases a<;>first|rfl|trivial|exact .inl rfl
theorem ALe.refl:∀ l:List AV,ALe l l
 | []=>trivial
 |a::l=>⟨iZ.refl a,ALe.refl l⟩
theorem fN.refl:∀ o:AObj,fN o o:=by
 intro o
 cases o with
 |dead=>trivial
 |vars b T cells=>exact ⟨rfl,rfl,ALe.refl _⟩
 |rows=>exact .inl rfl
 |lent=>rfl
 |part=>rfl
def tc (st st':ASt):Prop:=st.n=st'.n/\st.kb=st'.kb/\wkT st.t st'.t/\∀ k,fN (st.h.get k) (st'.h.get k)
theorem tc.rep {w0:World} {base:Bs} {st st':ASt} {a:Act} {w:World} (h:tc st st') (hR:Rep w0 base st a w):Rep w0 base st' a w:=by
 obtain ⟨hn,hkb,ht,hob⟩:=h;have ht:∀ p∈st'.t,iZ (aW st.t p.1) p.2:=by rw [Ev];exact ht
 obtain ⟨E,H⟩:=hR.heap
 have hblk:∀ k b,(st'.h.get k).blk=some b->(st.h.get k).blk=some b:=by
  intro k b hb;have:=hob k
  revert hb this
  cases st'.h.get k with
  |dead=>intro hb;simp [AObj.blk] at hb
  | vars b' T cells =>
    intro hb hl;obtain ⟨cells',he,-⟩:=fN.vars hl;rw [he];exact hb
  | rows Hd sz rows own =>
    intro hb hl;rcases hl with hl|⟨-,rfl,-⟩
    ·rw [hl];exact hb
    ·simp [AObj.blk] at hb
  |lent Hd sz rows=>intro hb;simp [AObj.blk] at hb
  |part Hd sz rows lo=>intro hb hl;rw [show st.h.get k=_ from hl];exact hb
 have hM:∀ c,st'.h.M c->st.h.M c:=λc ⟨k,hk⟩=>⟨k,hblk k c hk⟩
 have t:Tr st.h.M w st'.h.M w:=⟨Nat.le_refl _,λ_ _ _=>rfl,λb _ hb=>hM b hb⟩;refine ⟨hR.dfr,hR.size.trans hn,λi=>?_,⟨E,λk=>?_,λk k' b hk hk'=>H.inj _ _ b (hblk k b hk) (hblk k' b hk'),λk b hk=>H.low k b (hblk k b hk),H.elow,H.einj,λk c hc hM'=>H.em k c hc (hM c hM')⟩,hR.below,hR.base_le⟩
 ·rcases DG (t:=st'.t) (i:=i) with h|h
  ·rw [h];exact .any _
  ·exact ((hR.tmp i).tr t).le (ht _ h)
 ·have h1:=(H.obj k).tr t (λ_ _=>rfl) (E':=E k) (λc hc _=>hc)
  have h2:=hob k
  revert h1 h2
  generalize st.h.get k=o
  cases st'.h.get k with
  |dead=>intro _ _;trivial
  | vars b T cells =>
    intro h1 h2;obtain ⟨cells',rfl,hl⟩:=fN.vars h2;obtain ⟨cs,g1,g2,g3⟩:=h1;obtain ⟨g4,g5⟩:=ALe.get _ _ hl;refine ⟨cs,g1,by omega,λj av hj=>?_⟩;obtain ⟨av',hj',hle⟩:=g5 j av hj;exact (g3 j av' hj').le hle
  | rows Hd sz rows own =>
    intro h1 h2;rcases h2 with rfl|⟨rfl,rfl,rfl⟩
    ·exact h1
    ·rfl
  |lent Hd sz rows=>intro h1 h2;rw [show o=_ from h2] at h1;exact h1
  |part Hd sz rows lo=>intro h1 h2;rw [show o=_ from h2] at h1;exact h1
def Gn {β:Type} (Inv:β->Prop) (I:β->ASt) (μ:β->Nat) (x:β) (Q:Exit->ASt->Prop):Exit->ASt->Prop
 | .normal,st=>∃ x',Inv x'/\μ x'<μ x/\tc st (I x')
 |e,st=>Q e st
theorem tf {E:Env} (hE:EOk E) {body:Code} {Q:Exit->ASt->Prop} {st:ASt} {β:Type} (Inv:β->Prop) (I:β->ASt) (μ:β->Nat) (x0:β) (h0:Inv x0) (hw:tc st (I x0))
 (hr:∀ x,Inv x->ge E body (Gn Inv I μ x Q) (I x)):az E body Q st:=by
 intro a w hR;refine wp_loop_ghost (λn a w=>∃ x,Inv x/\μ x=n/\Rep E.w0 E.base (I x) a w) (μ x0) ⟨x0,h0,rfl,hw.rep hR⟩ ?_
 rintro n a w ⟨x,hx,rfl,hR⟩
 refine wp_mono (dQ hE body _ _ a w hR (hr x hx)) ?_
 rintro e a' w' ⟨st',hq,hR'⟩
 cases e with
 | normal =>
   obtain ⟨x',h1,h2,h3⟩:=hq;exact ⟨μ x',h2,x',h1,rfl,h3.rep hR'⟩
 |_=>exact ⟨st',hq,hR'⟩
theorem Mg {β:Type} {Inv:β->Prop} {I:β->ASt} {μ:β->Nat} {x:β} {st:ASt} {Q:Exit->ASt->Prop}:Gn Inv I μ x Q .normal st = ∃ x',Inv x'/\μ x'<μ x/\tc st (I x'):=(rfl)
theorem Mf {β:Type} {Inv:β->Prop} {I:β->ASt} {μ:β->Nat} {x:β} {st:ASt} {Q:Exit->ASt->Prop}:Gn Inv I μ x Q .ret st=Q .ret st:=(rfl)
theorem Mh {β:Type} {Inv:β->Prop} {I:β->ASt} {μ:β->Nat} {x:β} {st:ASt} {Q:Exit->ASt->Prop} {l:Nat}:Gn Inv I μ x Q (.exit l) st=Q (.exit l) st:=(rfl)
attribute [simp ↓] Mg Mf Mh
def pu (base:Bs) (h h':AH):Prop:=∀ w E,HRel base h w E->∃ E',HRel base h' w E'/\Tr h.M w h'.M w
theorem pu.refl {base:Bs} (h:AH):pu base h h:=λ_ E H=>⟨E,H,Tr.refl _ _⟩
theorem pu.trans {base:Bs} {h h' h'':AH} (a:pu base h h') (b:pu base h' h''):pu base h h'':=λw E H=>by
 obtain ⟨E1,H1,t1⟩:=a w E H;obtain ⟨E2,H2,t2⟩:=b w E1 H1;exact ⟨E2,H2,t1.trans t2⟩
theorem pu.ent {E:Env} {st:ASt} {S:ASt->Prop} {h':AH} (he:pu E.base st.h h') (h:Ent E { st with h:=h' } S):Ent E st S:=by
 intro a w hR;obtain ⟨Es,HH⟩:=hR.heap;obtain ⟨E',H',t⟩:=he w Es HH;exact h a w (hR.move H' t ⟨rfl,rfl,rfl⟩).rep
theorem Eq {base:Bs} {h:AH} {kx b:Nat} {T:TypeId} {cells:List AV} {j k sz off len:Nat} {H:Hd} {rows:List (List CD)} {own:Bool} (hx:h.get kx=.vars b T cells) (hj:cells[j]? = some (.sl k H sz off len))
 (hk:h.get k=.rows H sz rows own) (hl:off+len<=rows.length):pu base h ((kx,.vars b T (cells.set j (.ro (cut rows off len))))::(k,.dead)::h):=by
 intro w Es HH;have hne:kx≠k:=by rintro rfl;rw [hx] at hk;cases hk
 have ho:=HH.obj kx;rw [hx] at ho;obtain ⟨cs,hb,hs,hv⟩:=ho;obtain ⟨d,h',o,E',S',⟨rfl,rfl⟩,FR⟩:=rA HH (hv j _ hj) (K:=λd h' _=>d=.s (cut rows off len)/\h'=(k,.dead)::h) (by rw [PT,hk];exact ⟨rfl,rfl,hl,rfl,rfl⟩);have hg:AH.get ((k,AObj.dead)::h) kx=.vars b T cells:=by rw [bo,if_neg hne,hx]
 have hMM:∀ c,AH.M ((kx,AObj.vars b T (cells.set j (.ro (cut rows off len))))::(k,.dead)::h) c->AH.M ((k,.dead)::h) c:=by
  intro c hc;rcases nI.1 hc with h1|⟨q,_,hq⟩
  ·exact ⟨kx,by rw [hg];exact h1⟩
  ·exact ⟨q,hq⟩
 have hblk:∀ c,(AObj.vars b T (cells.set j (.ro (cut rows off len)))).blk=some c->w.heap.size<=c\/(AH.get ((k,AObj.dead)::h) kx).blk=some c:=λc hc=>.inr (by rw [hg];exact hc)
 have t2:=Tr.upd FR.rel (k:=kx) (o':=.vars b T (cells.set j (.ro (cut rows off len)))) (Nat.le_refl _) (λ_ _ _=>rfl) hblk;have t:=FR.tr.trans t2;refine ⟨_,FR.rel.upd (k:=kx) (o':=.vars b T (cells.set j (.ro (cut rows off len)))) (Ek:=λ_=>False) (Nat.le_refl _) (λ_ _ _=>rfl) (λc hc=>⟨HH.low kx c (by rw [hx];exact hc),hblk c hc⟩) ?_ (λ_ hc=>hc.elim),t⟩;refine ⟨cs,hb,by simp [hs],λi av hi=>?_⟩;rw [List.getElem?_set] at hi;by_cases hij:j=i
 ·subst hij
  rw [if_pos rfl] at hi
  split at hi
  ·simp at hi
   subst hi;refine .ro _ _ (Rd.map FR.rd.weaken (λ_ _ _=>rfl) (λc hc _ hM=>FR.off c hc (hMM c hM)))
  ·simp at hi
 ·rw [if_neg hij] at hi
  exact (hv i av hi).tr t
theorem yt {P : Program} {T : Nat → Option TI} {w0 : World} {base : Bs} (hE0 : EOk ⟨P, T, w0, base⟩) {f : Nat} {fn : Func} {c : Code} (hf : P.funcs[f]? = some fn) (hname : (fn.name == "runtime.NumGoroutine") = false) (hb : fn.body = some c)
 {n:Nat} {rs:List ResultVar} (hnt:fn.ntmps=n) (hrs:fn.results=⟨rs⟩) {args:List AV} (hn:args.length<=n) (kb':Nat) {st:ASt} {dst:Option Nat} {K:ASt->Prop}
 (h:∀ w1 F,EOk ⟨P,T,w1,⟨F,base.G,base.loose,base.L⟩⟩->ge ⟨P,T,w1,⟨F,base.G,base.loose,base.L⟩⟩ c (Fd ⟨P,T,w1,⟨F,base.G,base.loose,base.L⟩⟩ rs λav h'=>∃ h'',pu base h' h''/\bk ⟨st.n,st.kb,st.t,h''⟩ dst av K) ⟨n,kb',s7 0 args,st.h⟩):aa ⟨P,T,w0,base⟩ f args st dst K:=by
 subst hnt;have hrs':fn.results.toList=rs:=by rw [hrs]
 subst hrs';refine ⟨⟨fn,hf,hname,by rw [hb];rfl⟩,λa w hR xs hs hx=>calls_of_wp hf hb ?_⟩
 let bs:Bs:=⟨λb=>b<w.heap.size/\¬ st.h.M b,base.G,base.loose,base.L⟩
 obtain ⟨Es,HH⟩:=hR.heap;have hE:EOk ⟨P,T,w,bs⟩:=⟨hE0.1,λw' hb=>hE0.2 w' (hR.below.trans ⟨hb.os,hb.tape,hb.output,hb.size,λb hF=>hb.block b ⟨hR.base_le b (.inl hF),λ⟨q,hq⟩=>(HH.low q b hq).1 hF⟩⟩)⟩
 have hR0:Rep w bs ⟨fn.ntmps,kb',s7 0 args,st.h⟩ { tmps:=xs++Array.replicate (fn.ntmps - xs.size) undef,defers:=[] } w:=by
  refine ⟨rfl,by simp;omega,λi=>?_,⟨Es,HH.obj,HH.inj,λk b hk=>⟨λhf=>hf.2 ⟨k,hk⟩,(HH.low k b hk).2⟩,HH.elow,HH.einj,HH.em⟩,BelowF.refl _ _,λb hb=>hb.elim (λh=>h.1) (λh=>hR.base_le b (.inr h))⟩
  show VRel w st.h.M (aW (s7 0 args) i) _
  rw [ya,if_pos (Nat.zero_le i),Nat.sub_zero]
  cases hv:args[i]? with
  |none=>exact .any _
  | some v =>
    have hlt:i<xs.size:=by rw [hs];exact (List.getElem?_eq_some_iff.1 hv).1
    have e:(xs++Array.replicate (fn.ntmps - xs.size) undef).getD i undef=xs.getD i undef:=by
     simp only [Array.getD_eq_getD_getElem?];rw [Array.getElem?_append_left hlt]
    show VRel w st.h.M v ((xs++Array.replicate (fn.ntmps - xs.size) undef).getD i undef)
    rw [e];exact hx i v hv
 refine wp_mono (dQ hE c _ _ _ w hR0 (h w _ hE)) ?_
 rintro e a' w' ⟨st',hq,hR'⟩
 obtain ⟨E',H'⟩:=hR'.heap;have t:Tr st.h.M w st'.h.M w':=⟨hR'.below.size,λb hb hM=>hR'.below.block b ⟨hb,hM⟩,λb hb ⟨k,hk⟩=>Classical.byContradiction λhM=>(H'.low k b hk).1 ⟨hb,hM⟩⟩
 have HB:HRel base st'.h w' E':=⟨H'.obj,H'.inj,λk b hk=>⟨λhF=>by
  obtain ⟨q,hq⟩:=t.mono b (hR.base_le b (.inl hF)) ⟨k,hk⟩;exact (HH.low q b hq).1 hF,(H'.low k b hk).2⟩,H'.elow,H'.einj,H'.em⟩
 have key:(jr ⟨P,T,w,bs⟩ st' fn.results.toList λl => match l with | [x] => ∃ h'',pu base st'.h h'' /\ bk ⟨st.n,st.kb,st.t,h''⟩ dst x K|l => ∃ h'',pu base st'.h h'' /\ bk ⟨st.n,st.kb,st.t,h''⟩ dst (.tup l) K) -> a'.defers=[] /\ ∃ v,(results fn a'.tmps).run P w'=.ok v w' /\
  ∃ v' av h',Ending.returned v=.returned v'/\K (st.aft dst av h')/\Rep w0 base (st.aft dst av h') (a.put dst v') w'/\(base.loose=false->Tr st.h.M w h'.M w')/\VRel w' h'.M av v':=by
  intro hq;obtain ⟨vs,l,h1,h2,h3,h4⟩:=gL hE hR' fn.results.toList hq;have h1':(fn.results.toList.mapM (kE a'.tmps)).run P w'=.ok vs w':=h1
  have hrun:(results fn a'.tmps).run P w'=.ok (if vs.length=1 then vs.getD 0 undef else .tuple vs.toArray) w':=by
   rw [kW,Array.mapM_eq_mapM_toList];simp only [Sem.run_bind,Sem.run_map,h1',Result.andThen_ok,Sem.run_pure]
   cases vs with
   |nil=>simp
   |cons v vs=>cases vs<;>simp
  refine ⟨hR'.dfr,_,hrun,?_⟩
  have fin:∀ (av:AV) (v:Value),VRel w' st'.h.M av v->(∃ h'',pu base st'.h h''/\bk ⟨st.n,st.kb,st.t,h''⟩ dst av K)->∃ v' av h',Ending.returned v=.returned v'/\K (st.aft dst av h')/\Rep w0 base (st.aft dst av h') (a.put dst v') w'/\(base.loose=false->Tr st.h.M w h'.M w')/\VRel w' h'.M av v':=by
   rintro av v hv ⟨h'',he,hK⟩
   obtain ⟨E2,H2,t2⟩:=he w' E' HB;have tt2:=t.trans t2
   have hRo:Rep w0 base ⟨st.n,st.kb,st.t,h''⟩ a w':=by
    refine ⟨hR.dfr,hR.size,λi=>(hR.tmp i).tr tt2,⟨E2,H2⟩,hR.below.trans ⟨hR'.below.os,hR'.below.tape,hR'.below.output,hR'.below.size,λb hF=>?_⟩,λb hb=>Nat.lt_of_lt_of_le (hR.base_le b hb) hR'.below.size⟩;exact t.frame b (hR.base_le b (.inl hF)) (λ⟨q,hq⟩=>(HH.low q b hq).1 hF)
   obtain ⟨g1,g2⟩:=hRo.put (hv.tr t2) hK;have e2:(⟨st.n,st.kb,st.t,h''⟩:ASt).aft dst av h''=st.aft dst av h'':=by unfold ASt.aft;cases dst<;>rfl
   rw [show (⟨st.n,st.kb,st.t,h''⟩:ASt).h=h'' from rfl,e2] at g1 g2;exact ⟨v,av,h'',rfl,g1,g2,λ_=>tt2,hv.tr t2⟩
  split at h4
  ·rename_i x
   rw [if_pos (by simpa using h2)];exact fin x _ (h3 0 x rfl) h4
  ·rename_i hne
   have hl:¬ vs.length=1:=by
    intro h1;rw [h1] at h2;obtain ⟨x,hx⟩:=List.length_eq_one_iff.1 h2.symm;exact hne x hx
   rw [if_neg hl];exact fin (.tup l) _ (.tup l vs.toArray (by simpa using h2) (λi av hi=>by simpa using h3 i av hi)) h4
 cases e with
 |normal=>exact key hq
 |ret=>exact key hq
 |_=>exact hq.elim
theorem zt {P : Program} {T : Nat → Option TI} (hT : ∀ t ti, T t = some ti → TIok P t ti) {w0 : World} {base : Bs} {f : Nat} {fn : Func} {c : Code} (hf : P.funcs[f]? = some fn) (hname : (fn.name == "runtime.NumGoroutine") = false) (hb : fn.body = some c)
 {n:Nat} {rs:List ResultVar} (hnt:fn.ntmps=n) (hrs:fn.results=⟨rs⟩) {args:List AV} (hn:args.length<=n) (kb':Nat) {st:ASt} {dst:Option Nat} {K:ASt->Prop}
 (h:∀ w1 F,ge ⟨P,T,w1,⟨F,base.G,base.loose,base.L⟩⟩ c (Fd ⟨P,T,w1,⟨F,base.G,base.loose,base.L⟩⟩ rs λav h'=>∃ h'',pu base h' h''/\bk ⟨st.n,st.kb,st.t,h''⟩ dst av K) ⟨n,kb',s7 0 args,st.h⟩)
 (hL:base.L=λ_=>True:=by rfl):aa ⟨P,T,w0,base⟩ f args st dst K:=
 yt ⟨hT,λ_ _=>by show base.L _;rw [hL];trivial⟩ hf hname hb hnt hrs hn kb' (λw1 F _=>h w1 F)
def wN (all:List Oper) (rem:List Nat) (i:Nat):Bool:=rem.all λr=>!cg (aE all i) r
theorem be.cut {E:Env} {id:Nat} {ops:List Oper} {Q:Exit->ASt->Prop} {st:ASt} {β:Type} (I:β->ASt)
 (h:be E id ops (λe st'=>e=.normal/\∃ x,tc st' (I x)) st) (hK:∀ x,Q .normal (I x)):be E id ops Q st:=by
 intro a w hR;refine wp_mono (h a w hR) ?_
 rintro e a' w' ⟨st',⟨rfl,x,hx⟩,hR'⟩
 exact ⟨I x,hK x,hx.rep hR'⟩
def vp (h h':AH) (ks:List Nat):Prop:=∀ q,q ∉ ks->fN (h.get q) (h'.get q)
theorem IU {n kb n' kb':Nat} {t t':List (Nat×AV)} {h h':AH}:tc ⟨n,kb,t,h⟩ ⟨n',kb',t',h'⟩=(n=n'/\kb=kb'/\wkT t t'/\vp h h' []):=by
 simp [tc,vp]
theorem Pn {h h':AH} {k:Nat} {o:AObj} {ks:List Nat} (hk:k ∉ ks):vp h ((k,o)::h') ks=(fN (h.get k) o/\vp h h' (k::ks)):=by
 apply propext
 constructor
 ·intro hl
  refine ⟨by have:=hl k hk;rwa [bo,if_pos rfl] at this,λq hq=>?_⟩;simp only [List.mem_cons,not_or] at hq;have:=hl q hq.2
  rwa [bo,if_neg hq.1] at this
 ·rintro ⟨h1,h2⟩ q hq
  rw [bo]
  split
  ·rename_i e;subst e;exact h1
  ·rename_i e;exact h2 q (by simp [e,hq])
theorem Mr {h h':AH} {k:Nat} {o:AObj} {ks:List Nat} (hk:k∈ks):vp h ((k,o)::h') ks=vp h h' ks:=by
 apply propext
 constructor
 ·intro hl q hq
  have:=hl q hq
  rwa [bo,if_neg (by rintro rfl;exact hq hk)] at this
 ·intro hl q hq
  rw [bo,if_neg (by rintro rfl;exact hq hk)];exact hl q hq
theorem Po {h h':AH} {k:Nat} {o:AObj} {ks:List Nat} (hk:k∈ks):vp ((k,o)::h) h' ks=vp h h' ks:=by
 apply propext
 constructor
 ·intro hl q hq
  have:=hl q hq
  rwa [bo,if_neg (by rintro rfl;exact hq hk)] at this
 ·intro hl q hq
  rw [bo,if_neg (by rintro rfl;exact hq hk)];exact hl q hq
theorem HA {h:AH} {ks:List Nat}:vp h h ks=True:=by
 simp only [eq_iff_iff,iff_true];exact λq _=>fN.refl _
attribute [simp] IU HA
attribute [simp] Pn Mr Po
theorem PQ {k k':IntKind} {a b:Int} {F:AV->Prop}:Cc (.v (.int k a)) (.v (.int k' b)) F=F (.v (.int k (if b<a then b else a))):=(rfl)
theorem yg {k k':IntKind} {a b:Nat} {F:AV->Prop}:Cc (.v (.int k a)) (.v (.int k' b)) F=F (.v (.int k ((min a b:Nat):Int))):=by
 rw [PQ];have:(if (b:Int)<(a:Int) then (b:Int) else (a:Int))=((min a b:Nat):Int):=by split<;>omega
 rw [this]
inductive OT where
 |leaf (R:List Bool)
 |stop
 |child (i:Nat) (D N:List Bool) (sub next:OT)
theorem tV {rem:List Nat} {i n:Nat} (h:i∈rem) (hn:rem.length<=n):(rem.filter (· != i)).length<=n - 1:=by
 have:(rem.filter (· != i)).length<rem.length:=by
  rw [List.length_filter_lt_length_iff_exists];exact ⟨i,h,by simp⟩
 omega
section rules
variable {E:Env} {all:List Oper} {n kb:Nat} {vt:List (Nat×AV)} {pv:List (Oper×Nat×AV)} {K:ASt->Prop} {st:ASt} {R D N:List Bool} {i:Nat} {sub next:OT}
end rules
open Go.RowKit
def Bo (o:Oper):Bool:=o.guard.isNone && o.dst.isSome && match o.op with
 | .move _=>true
 | .assign _=>true
 | .extract _ _=>true
 |_=>false
def So (all:List Oper) (i:Nat):Bool:=(List.range all.length).all λj=>j == i || cg (aE all j) i || cg (aE all i) j || (aE all i).apart all.toArray (aE all j)
def DD (all:List Oper) (pre tail rem:List Nat) (i:Nat):Bool:=
 wN all rem i && Bo (aE all i) && So all i && pre.all (λk=>!cg (aE all i) k || tail.any λt=>!rem.contains t && cg (aE all t) k)
def nW (all:List Oper) (pre tail rem:List Nat):List Nat:=
 match rem.find? (DD all pre tail rem) with
 |some i=>[i]
 |none=>rem.filter (wN all rem)
theorem Dm {E:Env} (_hE:EOk E) {st:ASt} {a:Act} {w:World} (hR:Rep E.w0 E.base st a w) {o:Oper} (hl:Bo o=true) {K:ASt->Prop} (h:aOp E o st K) :
 ∃ v,(∀ w,(execOp a.eval o).run E.P w=.ok (.value v) w)/\n8 E.w0 E.base st a w o.dst v w K:=by
 have hv:=λx=>VRel.ev hR x
 have put:∀ {r:Value} {av:AV},VRel w st.h.M av r->bk st o.dst av K->n8 E.w0 E.base st a w o.dst r w K:=by
  intro r av h1 h2;obtain ⟨h3,h4⟩:=hR.put h1 h2;exact ⟨_,_,h3,h4,λ_=>Tr.refl _ _,h1⟩
 unfold Bo at hl;simp only [Bool.and_eq_true] at hl;obtain ⟨-,hl⟩:=hl;unfold aOp at h
 split at hl
 ·rename_i x ho
  rw [ho] at h;exact ⟨_,λw=>by simp [execOp,ho],put (hv x) h⟩
 ·rename_i x ho
  rw [ho] at h;exact ⟨_,λw=>by simp [execOp,ho],put (hv x) h⟩
 ·rename_i x i ho
  rw [ho] at h;have h:eS (st.ev x) i λv=>bk st o.dst v K:=h
  have hx:=hv x;unfold eS at h
  split at h
  ·rename_i l hg
   rw [hg] at hx;generalize hu:a.eval x=u at hx
   cases hx with
   | tup l xs hs hl =>
     split at h
     ·rename_i v hv'
      have hlt:i<xs.size:=by rw [hs];exact (List.getElem?_eq_some_iff.1 hv').1
      refine ⟨xs.getD i undef,λw=>?_,put (hl i v hv') h⟩;simp [execOp,ho,hu,Instr.extract,hlt]
     ·exact h.elim
  ·exact h.elim
 ·cases hl
def leT (t:List (Nat×AV)):List (Nat×AV)->List Nat->Prop
 | [],_=>True
 |(i,v)::l,ks=>(i∈ks\/iZ (aW t i) v)/\leT t l (i::ks)
theorem Gt {t:List (Nat×AV)}:∀ (l:List (Nat×AV)) (ks:List Nat),leT t l ks->∀ i,i ∉ ks->iZ (aW t i) (aW l i)
 | [],_,_,i,_=>trivial
 | (j, v) :: l, ks, h, i, hi => by
   by_cases e:i=j
   ·subst e
    rw [Lq];exact h.1.resolve_left hi
   ·rw [FS e]
    exact Gt l (j::ks) h.2 i (by simp [e,hi])
def Eo (st st':ASt):Prop:=st.n=st'.n/\st.kb=st'.kb/\leT st.t st'.t []/\∀ k,fN (st.h.get k) (st'.h.get k)
theorem Eo.rep {w0:World} {base:Bs} {st st':ASt} {a:Act} {w:World} (h:Eo st st') (hR:Rep w0 base st a w):Rep w0 base st' a w:=by
 have key:∀ i,Rep w0 base ⟨st'.n,st'.kb,[(i,aW st'.t i)],st'.h⟩ a w:=λi=>tc.rep ⟨h.1,h.2.1,⟨Gt _ _ h.2.2.1 i (by simp),trivial⟩,h.2.2.2⟩ hR
 exact ⟨(key 0).dfr,(key 0).size,λi=>by have:=(key i).tmp i;simpa [aW] using this,(key 0).heap,(key 0).below,(key 0).base_le⟩
theorem Mq {t:List (Nat×AV)} {ks:List Nat}:leT t [] ks=True:=(rfl)
theorem Ka {t l:List (Nat×AV)} {ks:List Nat} {i:Nat} {v:AV}:leT t ((i,v)::l) ks=((i∈ks\/iZ (aW t i) v)/\leT t l (i::ks)):=(rfl)
theorem IT {n kb n' kb':Nat} {t t':List (Nat×AV)} {h h':AH}:Eo ⟨n,kb,t,h⟩ ⟨n',kb',t',h'⟩=(n=n'/\kb=kb'/\leT t t' []/\vp h h' []):=by
 simp [Eo,vp]
theorem Kb {h:AH} {ks:List Nat}:vp h [] ks=True:=by
 simp only [eq_iff_iff,iff_true];exact λq _=>trivial
def GW (t:List (Nat×AV)):List Nat->List (Nat×AV)
 | []=>[]
 |s::l=>(s,aW t s)::GW t l
theorem JE {t:List (Nat×AV)}:GW t []=[]:=(rfl)
theorem GV {t:List (Nat×AV)} {s:Nat} {l:List Nat}:GW t (s::l)=(s,aW t s)::GW t l:=(rfl)
attribute [simp] Mq Ka IT Kb JE GV
theorem fw {E:Env} {id:Nat} {ops:List Oper} {Q:Exit->ASt->Prop} {n kb:Nat} {t:List (Nat×AV)} {h:AH} {β:Type} (I:β->List (Nat×AV)) (J:β->AH) (keep:List Nat)
 (h1:be E id ops (λe st'=>e=.normal/\∃ x,Eo st' ⟨n,kb,I x++GW t keep,J x++h⟩) ⟨n,kb,t,h⟩) (hK:∀ x,Q .normal ⟨n,kb,I x++GW t keep,J x++h⟩):be E id ops Q ⟨n,kb,t,h⟩:=by
 intro a w hR;refine wp_mono (h1 a w hR) ?_
 rintro e a' w' ⟨st',⟨rfl,x,hx⟩,hR'⟩
 exact ⟨_,hK x,hx.rep hR'⟩
@[simp] theorem QM {all:List Oper} {pre tail:List Nat}:nW all pre tail []=[]:=(rfl)
theorem lu {E:Env} {st:ASt} {S:ASt->Prop} (s k:Nat) {sz off len:Nat} {H:Hd} {rows:List (List CD)} {own:Bool} (hs:aW st.t s=.sl k H sz off len) (hk:st.h.get k=.rows H sz rows own) (hl:off+len<=rows.length)
 (h:Ent E { st with t:=(s,.ro (cut rows off len))::st.t,h:=(k,.dead)::st.h } S):Ent E st S:=by
 intro a w hR;obtain ⟨Es,HH⟩:=hR.heap;have hv:=hR.tmp s;rw [hs] at hv;obtain ⟨d,h',o,E',S',⟨rfl,rfl⟩,FR⟩:=rA HH hv (K:=λd h' _=>d=.s (cut rows off len)/\h'=(k,.dead)::st.h) (by rw [PT,hk];exact ⟨rfl,rfl,hl,rfl,rfl⟩);have m:=(hR.move FR.rel FR.tr ⟨rfl,rfl,rfl⟩).rep;refine h a w ⟨m.dfr,m.size,λi=>?_,m.heap,m.below,m.base_le⟩
 show VRel w _ (aW ((s,.ro _)::st.t) i) _
 by_cases hi:i=s
 ·subst hi
  rw [Lq];exact .ro _ _ (Rd.map FR.rd.weaken (λ_ _ _=>rfl) (λc hc _ hM=>FR.off c hc hM))
 ·rw [FS hi]
  exact m.tmp i
theorem PR {P:Program} {T:Nat->Option TI} {w0:World} {base:Bs} {t:Nat} {s:ByteArray} {k:IntKind} {i:Nat} {F:AV->Prop} :
 zl ⟨P,T,w0,base⟩ t (.v (.string s)) (.v (.int k (i:Int))) F=(Env.isStr ⟨P,T,w0,base⟩ t/\∃ h:i<s.size,F (.v (.int .u8 (s[i]'h).toNat))):=by
 simp [zl]
attribute [simp ↓] PR
end Go.AM
