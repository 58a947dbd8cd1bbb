import Derived.Test.YthckkpphnmmfdaaGreatDoorPB
import Derived.Test.YthckkpphnmmfdaaGreatDoorNA
namespace Go.Proofs.YthckkpphnmmfdaaGreatDoor
open Go.AM
set_option maxRecDepth 20000
theorem lZ {o:List Part} (h:aX o):nL aC o<=2 ^ 18:=by
 have:=j4 h.1.1;have:=h.1.2;omega
theorem Bc (a b:List Part):nL aC (be a b).1<=2 ^ 18:=by
 unfold be
 split
 ·split
  ·rename_i h;exact lZ h
  ·simp [nL,cf]
 ·simp [nL,cf]
def fi (r:Rep) (b:List Part):Rep:=⟨r.client,r.seq,r.rev,r.text,r.has,r.sent,b⟩
open Classical in
noncomputable def eU (r:Rep) (o:List Part):Rep×Bool:=if ba r/\(be r.buf o).2=true then gn (fi r (be r.buf o).1) else (Rep.zero,false)
theorem qy {r:Rep} {o:List Part} (h:¬ (ba r/\(be r.buf o).2=true)):eU r o=(Rep.zero,false):=by unfold eU;rw [if_neg h]
theorem kV {r:Rep} {o:List Part} (h:ba r/\(be r.buf o).2=true):eU r o=gn (fi r (be r.buf o).1):=by unfold eU;rw [if_pos h]
theorem eg {r:Rep} (h:ba r):gn r=(r,true):=by unfold gn;rw [if_pos h]
theorem iu {r:Rep} (h:¬ ba r):gn r=(Rep.zero,false):=by unfold gn;rw [if_neg h]
theorem B3 {r:Rep} {B:Nat} (h:dG r<=B):dG (gn r).1<=B:=by
 unfold gn
 split
 ·exact h
 ·simp [Rep.zero_n]
theorem DQ {r:Rep} {b:List Part}:dG (fi r b)<=dG r+nL aC b:=by unfold dG fi;simp only;omega
theorem tJ (r:Rep) (hl:dG r<=2 ^ 28) (o:List Part) (ho:nL aC o<=2 ^ 40):au Tryz.prog 146 [.agg r.row,.c (.s (o.map Part.row))] (.tup [.agg (eU r o).1.res,.c (.v (.bool (eU r o).2)) 1]):=by
 refine pci ag Tryz.func146 (λw0 base=>?_);have hbuf:nL aC r.buf<=2 ^ 40:=by unfold dG at hl;omega
 simp [Rep.row];intros;refine aa.pure (tN r.buf o hbuf ho) (by simp) ?_;simp;have hn:=Bc r.buf o;have hno:=qy (r:=r) (o:=o);have hyes:=kV (r:=r) (o:=o);generalize be r.buf o=C at hn hno hyes ⊢;obtain ⟨cb,cok⟩:=C;simp only at hn hno hyes ⊢;intro H1;refine aa.pure (dz r (by omega)) (by simp [Rep.row]) ?_;by_cases c1:ba r
 rotate_left
 ·have e:=hno (λh=>c1 h.1)
  have e2:dc (ba r)=false:=by rw [bQ];exact c1
  simp [e2,e,Rep.res,Rep.zero]
 simp [c1]
 cases cok with
 | false =>
   have e:=hno (by simp);simp [e,Rep.res,Rep.zero]
 | true =>
   have e:=hyes ⟨c1,rfl⟩;simp;refine aa.pure (j6 r (by omega)) (by simp [Rep.row]) ?_;simp [Rep.res];intros;refine inl ag Tryz.func187 20000 (λw1 F=>?_);simp;intros;have hn2:=@DQ r cb;refine aa.pure (dz (fi r cb) (by omega)) (by simp [Rep.row,fi]) ?_;by_cases h:ba (fi r cb)
   ·rw [eg h] at e
    simp [h,e];simp [fi]
   ·rw [iu h] at e
    have e2:dc (ba (fi r cb))=false:=by rw [bQ];exact h
    simp [e2,e,Rep.zero]
set_option maxHeartbeats 1600000
theorem jQ {a b:List Part} (h:¬ (aX a/\aX b/\aL a=aL b)):ae a b=([],[],false):=by unfold ae;rw [if_neg h]
theorem sK {a b:List Part} (h1:aX a) (h2:aX b) (h3:aL a=aL b):(aX (normal (xf a b).1)/\aX (normal (xf a b).2)->ae a b=(normal (xf a b).1,normal (xf a b).2,true))/\(¬ (aX (normal (xf a b).1)/\aX (normal (xf a b).2))->ae a b=([],[],false)):=by
 unfold ae;rw [if_pos ⟨h1,h2,h3⟩];exact ⟨λh=>by rw [if_pos h],λh=>by rw [if_neg h]⟩
theorem Ce {P:Part->Prop} {a b:List Part} (ha:∀ p∈a,P p) (hb:∀ p∈b,P p):∀ p∈a++b,P p:=by
 intro p hp;rcases List.mem_append.1 hp with hp|hp
 ·exact ha p hp
 ·exact hb p hp
theorem HV {X Y L M:List Part} {a b:List Part} (hi:TInv X Y) {r:XR} (hc:eA X Y=some r) (h1:L++(xf X Y).1=(xf a b).1) (h2:M++(xf X Y).2=(xf a b).2):(L++r.1.1)++(xf r.2.1 r.2.2).1=(xf a b).1/\(M++r.1.2)++(xf r.2.1 r.2.2).2=(xf a b).2:=by
 have h:=HT hi hc;rw [<- h1,<- h2,h];simp
theorem ln {w0:World} {bF bG:Nat->Prop} {bl:Bool} {st:ASt} {dst:Option Nat} {K:ASt->Prop} {L:List Part} {P:List Int} {D:Int} {b:Nat} {Hl Hp:Hd} (hL:L.length<=2 ^ 20) (_hP:P.length<=2 ^ 40)
 (g160:st.h.get 640=.vars b 177 [.sl 5000 Hl 3 0 L.length,.sl 5001 Hp 1 0 P.length,.v (.int .i64 D)])
 (g5000:st.h.get 5000=.rows Hl 3 (L.map Part.row) true) (g5001:st.h.get 5001=.rows Hp 1 (P.map bc) true)
 (hK:∀ Hl' h',AH.get h' 640=.vars b 177 [.sl 5000 Hl' 3 0 (aA L P D).length,.nil,.v (.int .i64 0)] -> AH.get h' 5000=.rows Hl' 3 ((aA L P D).map Part.row) true ->
  (∀ q,q<15000->q≠640->q≠5000->q≠5001->AH.get h' q=st.h.get q)->bk ⟨st.n,st.kb,st.t,h'⟩ dst (.tup []) K):aa ⟨Tryz.prog,tt,w0,⟨bF,bG,bl,λ_=>True⟩⟩ 197 [.p 640 b 0] st dst K:=by
 refine inl ag Tryz.func197 20000 (λw1 F=>?_);simp [g160];by_cases hp:P=[]
 ·have hp0:¬ 0<P.length:=by simp [hp]
  simp [hp0,g160];by_cases hd:0<D
  ·simp [hd]
   refine drw eok mix [0,1,2,3,4,5,6,7,8,9,12,13] [10,11,14] (.c 12 10 4 4091 (.c 12 11 128 3963 (.c 12 14 3961 2 (.l 12 2) .s) .s) .s) ?_;simp [g160,g5000];intro b1;refine ⟨by omega,λH=>hK H _ ?_ ?_ ?_⟩
   ·simp [mh hp hd]
   ·simp [mh hp hd,Part.row]
   ·intro q q0 q1 q2 q3
    repeat (first|exact rfl|refine (cj (by omega)).trans ?_)
  ·simp [hd,g160]
   refine hK Hl _ ?_ ?_ ?_
   ·simp [mg hp hd]
   ·simp [mg hp hd,g5000]
   ·intro q q0 q1 q2 q3
    repeat (first|exact rfl|refine (cj (by omega)).trans ?_)
 ·have hp0:0<P.length:=List.length_pos_iff.2 hp
  simp [hp0];refine drw eok mix [0,1,2,3,4,5,6,7,8,9,12,13] [10,11,14] (.c 12 10 4 4091 (.c 12 11 128 3963 (.c 12 14 3961 2 (.l 12 2) .s) .s) .s) ?_;simp [g160,g5000,g5001];intro b1;refine ⟨by omega,λH=>?_⟩;by_cases hd:0<D
  ·simp [hd]
   refine drw eok mix [0,1,2,3,4,5,6,7,8,9,12,13] [10,11,14] (.c 12 10 4 4091 (.c 12 11 128 3963 (.c 12 14 3961 2 (.l 12 2) .s) .s) .s) ?_;simp;intro b2;refine ⟨by omega,λH2=>hK H2 _ ?_ ?_ ?_⟩
   ·simp [mj hp hd]
   ·simp [mj hp hd,Part.row]
   ·intro q q0 q1 q2 q3
    repeat (first|exact rfl|refine (cj (by omega)).trans ?_)
  ·simp [hd]
   refine hK H _ ?_ ?_ ?_
   ·simp [mi hp hd]
   ·simp [mi hp hd,Part.row]
   ·intro q q0 q1 q2 q3
    repeat (first|exact rfl|refine (cj (by omega)).trans ?_)
theorem iV {w0:World} {bF bG:Nat->Prop} {bl:Bool} {st:ASt} {dst:Option Nat} {K:ASt->Prop} {L:List Part} {P:List Int} {D n:Int} {b:Nat} {Hl Hp:Hd} (hL:L.length<=2 ^ 19) (hP:P.length<=2 ^ 40) (hn0:0<n) (hn:n<=200) (hF:∀ q∈aA L P D,0<=q.n/\q.n<=2 ^ 40)
 (g160:st.h.get 640=.vars b 177 [.sl 5000 Hl 3 0 L.length,.sl 5001 Hp 1 0 P.length,.v (.int .i64 D)])
 (g5000:st.h.get 5000=.rows Hl 3 (L.map Part.row) true) (g5001:st.h.get 5001=.rows Hp 1 (P.map bc) true)
 (hK:∀ Hl' h',AH.get h' 640=.vars b 177 [.sl 5000 Hl' 3 0 (bJ (aA L P D) n).length,.nil,.v (.int .i64 0)] -> AH.get h' 5000=.rows Hl' 3 ((bJ (aA L P D) n).map Part.row) true ->
  (∀ q,q<15000->q≠640->q≠5000->q≠5001->AH.get h' q=st.h.get q)->bk ⟨st.n,st.kb,st.t,h'⟩ dst (.tup []) K):aa ⟨Tryz.prog,tt,w0,⟨bF,bG,bl,λ_=>True⟩⟩ 152 [.p 640 b 0,.v (.int .i64 n)] st dst K:=by
 refine inl ag Tryz.func152 30000 (λw1 F=>?_);have n0:¬ n=0:=by omega
 simp [n0];refine ln (L:=L) (P:=P) (D:=D) (Hl:=Hl) (Hp:=Hp) (by omega) hP (by simp [g160]) (by simp [g5000]) (by simp [g5001]) (λHl' h' k160 k5000 k80=>?_);have f1:=fo L P D;generalize aA L P D=F at f1 hF k160 k5000 hK;by_cases hF0:0<F.length
 ·obtain ⟨m,hm⟩:∃ m,F.length=m+1:=⟨F.length - 1,by omega⟩
  have hmlt:m<F.length:=by omega
  have hmm:(m:Int)<m+1:=by omega
  have em:Go.IntKind.i64.wrap (m:Int)=m:=iM (by omega)
  have hk:bJ F n=if F[m].kind=1 then F.set m ⟨1,F[m].n+n,F[m].signs⟩ else F++[⟨1,n,[]⟩]:=by
   have e0:F.length - 1=m:=by omega
   simp [bJ,hF0,e0]
  have hq:=hF _ (List.getElem_mem hmlt);have em2:Go.IntKind.i64.wrap (F[m].n+n)=F[m].n+n:=Go.IntWalk.i64_in _ (by omega);simp [k160,k5000,hm,em,hmm,Part.row];by_cases ck:F[m].kind=1
  ·rw [if_pos ck] at hk
   simp [ck];refine drw eok mix [0,1,2,3,4,5,6,7,8,9,10,11,12,13,14,15,16,17,18] [19] (.c 19 19 524285 2 (.l 19 2) .s) ?_;simp [k160,k5000,hm,em,hmm,Part.row,ck,em2];have hmod:=gg (F:=F) (m:=m) hmlt (g:=λrow=>eh row 1 [CD.v (Value.int IntKind.i64 (F[m].n+n))]) (p:=⟨1,F[m].n+n,F[m].signs⟩) (by simp [Part.row,ck]);refine hK Hl' _ ?_ ?_ ?_
   ·simp [k160,hk,hm]
   ·simp [hk,hmod]
   ·intro q q0 q1 q2 q3
    repeat (first|exact k80 q q0 q1 q2 q3|exact rfl|refine (cj (by omega)).trans ?_)
  ·rw [if_neg ck] at hk
   simp [ck,k160,k5000,hm];intro b1;refine ⟨by omega,λH=>hK H _ ?_ ?_ ?_⟩
   ·simp [hk,hm]
   ·simp [hk,Part.row]
   ·intro q q0 q1 q2 q3
    repeat (first|exact k80 q q0 q1 q2 q3|exact rfl|refine (cj (by omega)).trans ?_)
 ·have hF1:F=[]:=List.eq_nil_of_length_eq_zero (by omega)
  subst hF1;have hk:bJ [] n=[⟨1,n,[]⟩]:=by simp [bJ]
  simp [k160,k5000];intro b1 H;refine hK H _ ?_ ?_ ?_
  ·simp [hk]
  ·simp [hk,Part.row]
  ·intro q q0 q1 q2 q3
   repeat (first|exact k80 q q0 q1 q2 q3|exact rfl|refine (cj (by omega)).trans ?_)
theorem tK {w0:World} {bF bG:Nat->Prop} {bl:Bool} {st:ASt} {dst:Option Nat} {K:ASt->Prop} {L:List Part} {P l:List Int} {D:Int} {b:Nat} {Hl Hp:Hd} (hP:P.length<=2 ^ 40) (hl:l.length<=2 ^ 40)
 (g160:st.h.get 640=.vars b 177 [.sl 5000 Hl 3 0 L.length,.sl 5001 Hp 1 0 P.length,.v (.int .i64 D)]) (g5001:st.h.get 5001=.rows Hp 1 (P.map bc) true)
 (hK:∀ Hp' h',AH.get h' 640=.vars b 177 [.sl 5000 Hl 3 0 L.length,.sl 5001 Hp' 1 0 (P++l).length,.v (.int .i64 D)] -> AH.get h' 5001=.rows Hp' 1 ((P++l).map bc) true -> AH.get h' 5000=st.h.get 5000 ->
  (∀ q,q<15000->q≠640->q≠5000->q≠5001->AH.get h' q=st.h.get q)->bk ⟨st.n,st.kb,st.t,h'⟩ dst (.tup []) K):aa ⟨Tryz.prog,tt,w0,⟨bF,bG,bl,λ_=>True⟩⟩ 153 [.p 640 b 0,.ro (l.map bc)] st dst K:=by
 refine inl ag Tryz.func153 30000 (λw1 F=>?_);simp [g160,g5001];refine ⟨by omega,λH=>hK H _ ?_ ?_ ?_ ?_⟩
 ·simp
 ·simp
 ·simp
 ·intro q q0 q1 q2 q3
  repeat (first|exact rfl|refine (cj (by omega)).trans ?_)
theorem r2 {w0:World} {bF bG:Nat->Prop} {bl:Bool} {st:ASt} {dst:Option Nat} {K:ASt->Prop} {n D:Int} {b:Nat} {x y:AV} (h0:0<=D/\D<=2 ^ 40) (h1:0<=n/\n<=2 ^ 40)
 (g160:st.h.get 640=.vars b 177 [x,y,.v (.int .i64 D)])
 (hK:∀ h',AH.get h' 640=.vars b 177 [x,y,.v (.int .i64 (D+n))]->(∀ q,q≠640->AH.get h' q=st.h.get q)->bk ⟨st.n,st.kb,st.t,h'⟩ dst (.tup []) K):aa ⟨Tryz.prog,tt,w0,⟨bF,bG,bl,λ_=>True⟩⟩ 154 [.p 640 b 0,.v (.int .i64 n)] st dst K:=by
 refine inl ag Tryz.func154 30000 (λw1 F=>?_);have e:Go.IntKind.i64.wrap (D+n)=D+n:=Go.IntWalk.i64_in _ (by omega);simp [g160,e];refine hK _ (by simp) (λq hq=>by simp [hq])
theorem lm {w0:World} {bF bG:Nat->Prop} {bl:Bool} {st:ASt} {dst:Option Nat} {K:ASt->Prop} {L:List Part} {P:List Int} {D:Int} {b:Nat} {Hl Hp:Hd} (hL:L.length<=2 ^ 20) (_hP:P.length<=2 ^ 40)
 (g160:st.h.get 672=.vars b 177 [.sl 5002 Hl 3 0 L.length,.sl 5003 Hp 1 0 P.length,.v (.int .i64 D)])
 (g5000:st.h.get 5002=.rows Hl 3 (L.map Part.row) true) (g5001:st.h.get 5003=.rows Hp 1 (P.map bc) true)
 (hK:∀ Hl' h',AH.get h' 672=.vars b 177 [.sl 5002 Hl' 3 0 (aA L P D).length,.nil,.v (.int .i64 0)] -> AH.get h' 5002=.rows Hl' 3 ((aA L P D).map Part.row) true ->
  (∀ q,q<15000->q≠672->q≠5002->q≠5003->AH.get h' q=st.h.get q)->bk ⟨st.n,st.kb,st.t,h'⟩ dst (.tup []) K):aa ⟨Tryz.prog,tt,w0,⟨bF,bG,bl,λ_=>True⟩⟩ 197 [.p 672 b 0] st dst K:=by
 refine inl ag Tryz.func197 20000 (λw1 F=>?_);simp [g160];by_cases hp:P=[]
 ·have hp0:¬ 0<P.length:=by simp [hp]
  simp [hp0,g160];by_cases hd:0<D
  ·simp [hd]
   refine drw eok mix [0,1,2,3,4,5,6,7,8,9,12,13] [10,11,14] (.c 12 10 4 4091 (.c 12 11 128 3963 (.c 12 14 3961 2 (.l 12 2) .s) .s) .s) ?_;simp [g160,g5000];intro b1;refine ⟨by omega,λH=>hK H _ ?_ ?_ ?_⟩
   ·simp [mh hp hd]
   ·simp [mh hp hd,Part.row]
   ·intro q q0 q1 q2 q3
    repeat (first|exact rfl|refine (cj (by omega)).trans ?_)
  ·simp [hd,g160]
   refine hK Hl _ ?_ ?_ ?_
   ·simp [mg hp hd]
   ·simp [mg hp hd,g5000]
   ·intro q q0 q1 q2 q3
    repeat (first|exact rfl|refine (cj (by omega)).trans ?_)
 ·have hp0:0<P.length:=List.length_pos_iff.2 hp
  simp [hp0];refine drw eok mix [0,1,2,3,4,5,6,7,8,9,12,13] [10,11,14] (.c 12 10 4 4091 (.c 12 11 128 3963 (.c 12 14 3961 2 (.l 12 2) .s) .s) .s) ?_;simp [g160,g5000,g5001];intro b1;refine ⟨by omega,λH=>?_⟩;by_cases hd:0<D
  ·simp [hd]
   refine drw eok mix [0,1,2,3,4,5,6,7,8,9,12,13] [10,11,14] (.c 12 10 4 4091 (.c 12 11 128 3963 (.c 12 14 3961 2 (.l 12 2) .s) .s) .s) ?_;simp;intro b2;refine ⟨by omega,λH2=>hK H2 _ ?_ ?_ ?_⟩
   ·simp [mj hp hd]
   ·simp [mj hp hd,Part.row]
   ·intro q q0 q1 q2 q3
    repeat (first|exact rfl|refine (cj (by omega)).trans ?_)
  ·simp [hd]
   refine hK H _ ?_ ?_ ?_
   ·simp [mi hp hd]
   ·simp [mi hp hd,Part.row]
   ·intro q q0 q1 q2 q3
    repeat (first|exact rfl|refine (cj (by omega)).trans ?_)
theorem lP {w0:World} {bF bG:Nat->Prop} {bl:Bool} {st:ASt} {dst:Option Nat} {K:ASt->Prop} {L:List Part} {P:List Int} {D n:Int} {b:Nat} {Hl Hp:Hd} (hL:L.length<=2 ^ 19) (hP:P.length<=2 ^ 40) (hn0:0<n) (hn:n<=200) (hF:∀ q∈aA L P D,0<=q.n/\q.n<=2 ^ 40)
 (g160:st.h.get 672=.vars b 177 [.sl 5002 Hl 3 0 L.length,.sl 5003 Hp 1 0 P.length,.v (.int .i64 D)])
 (g5000:st.h.get 5002=.rows Hl 3 (L.map Part.row) true) (g5001:st.h.get 5003=.rows Hp 1 (P.map bc) true)
 (hK:∀ Hl' h',AH.get h' 672=.vars b 177 [.sl 5002 Hl' 3 0 (bJ (aA L P D) n).length,.nil,.v (.int .i64 0)] -> AH.get h' 5002=.rows Hl' 3 ((bJ (aA L P D) n).map Part.row) true ->
  (∀ q,q<15000->q≠672->q≠5002->q≠5003->AH.get h' q=st.h.get q)->bk ⟨st.n,st.kb,st.t,h'⟩ dst (.tup []) K):aa ⟨Tryz.prog,tt,w0,⟨bF,bG,bl,λ_=>True⟩⟩ 152 [.p 672 b 0,.v (.int .i64 n)] st dst K:=by
 refine inl ag Tryz.func152 30000 (λw1 F=>?_);have n0:¬ n=0:=by omega
 simp [n0];refine lm (L:=L) (P:=P) (D:=D) (Hl:=Hl) (Hp:=Hp) (by omega) hP (by simp [g160]) (by simp [g5000]) (by simp [g5001]) (λHl' h' k160 k5000 k80=>?_);have f1:=fo L P D;generalize aA L P D=F at f1 hF k160 k5000 hK;by_cases hF0:0<F.length
 ·obtain ⟨m,hm⟩:∃ m,F.length=m+1:=⟨F.length - 1,by omega⟩
  have hmlt:m<F.length:=by omega
  have hmm:(m:Int)<m+1:=by omega
  have em:Go.IntKind.i64.wrap (m:Int)=m:=iM (by omega)
  have hk:bJ F n=if F[m].kind=1 then F.set m ⟨1,F[m].n+n,F[m].signs⟩ else F++[⟨1,n,[]⟩]:=by
   have e0:F.length - 1=m:=by omega
   simp [bJ,hF0,e0]
  have hq:=hF _ (List.getElem_mem hmlt);have em2:Go.IntKind.i64.wrap (F[m].n+n)=F[m].n+n:=Go.IntWalk.i64_in _ (by omega);simp [k160,k5000,hm,em,hmm,Part.row];by_cases ck:F[m].kind=1
  ·rw [if_pos ck] at hk
   simp [ck];refine drw eok mix [0,1,2,3,4,5,6,7,8,9,10,11,12,13,14,15,16,17,18] [19] (.c 19 19 524285 2 (.l 19 2) .s) ?_;simp [k160,k5000,hm,em,hmm,Part.row,ck,em2];have hmod:=gg (F:=F) (m:=m) hmlt (g:=λrow=>eh row 1 [CD.v (Value.int IntKind.i64 (F[m].n+n))]) (p:=⟨1,F[m].n+n,F[m].signs⟩) (by simp [Part.row,ck]);refine hK Hl' _ ?_ ?_ ?_
   ·simp [k160,hk,hm]
   ·simp [hk,hmod]
   ·intro q q0 q1 q2 q3
    repeat (first|exact k80 q q0 q1 q2 q3|exact rfl|refine (cj (by omega)).trans ?_)
  ·rw [if_neg ck] at hk
   simp [ck,k160,k5000,hm];intro b1;refine ⟨by omega,λH=>hK H _ ?_ ?_ ?_⟩
   ·simp [hk,hm]
   ·simp [hk,Part.row]
   ·intro q q0 q1 q2 q3
    repeat (first|exact k80 q q0 q1 q2 q3|exact rfl|refine (cj (by omega)).trans ?_)
 ·have hF1:F=[]:=List.eq_nil_of_length_eq_zero (by omega)
  subst hF1;have hk:bJ [] n=[⟨1,n,[]⟩]:=by simp [bJ]
  simp [k160,k5000];intro b1 H;refine hK H _ ?_ ?_ ?_
  ·simp [hk]
  ·simp [hk,Part.row]
  ·intro q q0 q1 q2 q3
   repeat (first|exact k80 q q0 q1 q2 q3|exact rfl|refine (cj (by omega)).trans ?_)
theorem ng {w0:World} {bF bG:Nat->Prop} {bl:Bool} {st:ASt} {dst:Option Nat} {K:ASt->Prop} {L:List Part} {P l:List Int} {D:Int} {b:Nat} {Hl Hp:Hd} (hP:P.length<=2 ^ 40) (hl:l.length<=2 ^ 40)
 (g160:st.h.get 672=.vars b 177 [.sl 5002 Hl 3 0 L.length,.sl 5003 Hp 1 0 P.length,.v (.int .i64 D)]) (g5001:st.h.get 5003=.rows Hp 1 (P.map bc) true)
 (hK:∀ Hp' h',AH.get h' 672=.vars b 177 [.sl 5002 Hl 3 0 L.length,.sl 5003 Hp' 1 0 (P++l).length,.v (.int .i64 D)] -> AH.get h' 5003=.rows Hp' 1 ((P++l).map bc) true -> AH.get h' 5002=st.h.get 5002 ->
  (∀ q,q<15000->q≠672->q≠5002->q≠5003->AH.get h' q=st.h.get q)->bk ⟨st.n,st.kb,st.t,h'⟩ dst (.tup []) K):aa ⟨Tryz.prog,tt,w0,⟨bF,bG,bl,λ_=>True⟩⟩ 153 [.p 672 b 0,.ro (l.map bc)] st dst K:=by
 refine inl ag Tryz.func153 30000 (λw1 F=>?_);simp [g160,g5001];refine ⟨by omega,λH=>hK H _ ?_ ?_ ?_ ?_⟩
 ·simp
 ·simp
 ·simp
 ·intro q q0 q1 q2 q3
  repeat (first|exact rfl|refine (cj (by omega)).trans ?_)
theorem r1 {w0:World} {bF bG:Nat->Prop} {bl:Bool} {st:ASt} {dst:Option Nat} {K:ASt->Prop} {n D:Int} {b:Nat} {x y:AV} (h0:0<=D/\D<=2 ^ 40) (h1:0<=n/\n<=2 ^ 40)
 (g160:st.h.get 672=.vars b 177 [x,y,.v (.int .i64 D)])
 (hK:∀ h',AH.get h' 672=.vars b 177 [x,y,.v (.int .i64 (D+n))]->(∀ q,q≠672->AH.get h' q=st.h.get q)->bk ⟨st.n,st.kb,st.t,h'⟩ dst (.tup []) K):aa ⟨Tryz.prog,tt,w0,⟨bF,bG,bl,λ_=>True⟩⟩ 154 [.p 672 b 0,.v (.int .i64 n)] st dst K:=by
 refine inl ag Tryz.func154 30000 (λw1 F=>?_);have e:Go.IntKind.i64.wrap (D+n)=D+n:=Go.IntWalk.i64_in _ (by omega);simp [g160,e];refine hK _ (by simp) (λq hq=>by simp [hq])
theorem iA (a b:List Part) (ha:nL aC a<=2 ^ 40) (hb:nL aC b<=2 ^ 40):au Tryz.prog 245 [.c (.s (a.map Part.row)),.c (.s (b.map Part.row))] (.tup [.c (.s ((ae a b).1.map Part.row)) 3,.c (.s ((ae a b).2.1.map Part.row)) 3,.c (.v (.bool (ae a b).2.2)) 1]):=by
 refine pci ag Tryz.func245 (λw0 base=>?_);simp;refine aa.pure (cz a ha) (by simp) ?_;by_cases c1:aX a
 rotate_left
 ·have e:=jQ (a:=a) (b:=b) (λh=>c1 h.1)
  have e2:dc (aX a)=false:=by rw [bQ];exact c1
  simp [e2,e]
 simp [c1];refine aa.pure (cz b hb) (by simp) ?_;by_cases c2:aX b
 rotate_left
 ·have e:=jQ (a:=a) (b:=b) (λh=>c2 h.2.1)
  have e2:dc (aX b)=false:=by rw [bQ];exact c2
  simp [e2,e]
 simp [c2];refine aa.pure (du a ha) (by simp) ?_;simp;refine aa.pure (du b hb) (by simp) ?_;by_cases c3:aL a=aL b
 rotate_left
 ·have e:=jQ (a:=a) (b:=b) (λh=>c3 h.2.2)
  simp [c3,e]
 have hf:=sK c1 c2 c3;simp [c3];intro bx by_ bz bw;have t1:=vN c1;have t2:=vN c2;have la:=c1.1.2;have lb:=c2.1.2;have z0:∀ o:List Part,cur o 0 0=o:=λo=>by rw [sU,List.drop_zero]
 refine ar eok (λx:(Nat×Nat×Nat×Nat)×List Part×List Part×Hd×Hd×Hd×Hd => Cu a x.1.1 x.1.2.1 (cur a x.1.1 x.1.2.1) /\ Cu b x.1.2.2.1 x.1.2.2.2 (cur b x.1.2.2.1 x.1.2.2.2) /\ TInv (cur a x.1.1 x.1.2.1) (cur b x.1.2.2.1 x.1.2.2.2) /\
  (x.2.1++(xf (cur a x.1.1 x.1.2.1) (cur b x.1.2.2.1 x.1.2.2.2)).1=(xf a b).1/\x.2.2.1++(xf (cur a x.1.1 x.1.2.1) (cur b x.1.2.2.1 x.1.2.2.2)).2=(xf a b).2)/\((∀ p∈x.2.1,am p)/\∀ p∈x.2.2.1,am p)/\(x.2.1.length+(tsz (cur a x.1.1 x.1.2.1)+tsz (cur b x.1.2.2.1 x.1.2.2.2))<=800/\x.2.2.1.length+(tsz (cur a x.1.1 x.1.2.1)+tsz (cur b x.1.2.2.1 x.1.2.2.2))<=800))
  (λx=>⟨141,0,[(7,.p 560 bx 0),(8,.p 608 by_ 0),(9,.p 640 bz 0),(10,.p 672 bw 0)],
  [(560, .vars bx 253 [.ro (a.map Part.row), .v (.int .i64 x.1.1), .v (.int .i64 x.1.2.1)]), (608, .vars by_ 253 [.ro (b.map Part.row), .v (.int .i64 x.1.2.2.1), .v (.int .i64 x.1.2.2.2)]),
   (640,.vars bz 177 [.sl 5000 x.2.2.2.1 3 0 (aY x.2.1).1.length,.sl 5001 x.2.2.2.2.1 1 0 (aY x.2.1).2.1.length,.v (.int .i64 (aY x.2.1).2.2)]),
   (672,.vars bw 177 [.sl 5002 x.2.2.2.2.2.1 3 0 (aY x.2.2.1).1.length,.sl 5003 x.2.2.2.2.2.2 1 0 (aY x.2.2.1).2.1.length,.v (.int .i64 (aY x.2.2.1).2.2)]),
   (5000,.rows x.2.2.2.1 3 ((aY x.2.1).1.map Part.row) true),(5001,.rows x.2.2.2.2.1 1 ((aY x.2.1).2.1.map bc) true),(5002,.rows x.2.2.2.2.2.1 3 ((aY x.2.2.1).1.map Part.row) true),(5003,.rows x.2.2.2.2.2.2 1 ((aY x.2.2.1).2.1.map bc) true)]⟩)
  (λx=>tsz (cur a x.1.1 x.1.2.1)+tsz (cur b x.1.2.2.1 x.1.2.2.2)) ((0,0,0,0),[],[],none,none,none,none)
  ⟨⟨c1.1.1,Nat.zero_le _,λ_=>Nat.zero_le _,λ_=>rfl,rfl⟩,⟨c2.1.1,Nat.zero_le _,λ_=>Nat.zero_le _,λ_=>rfl,rfl⟩,by simp only [z0];exact vS c1 c2 c3,by simp [z0],by simp,by simp [z0];omega⟩ (by simp [aY]) (λx hx=>Ent.refl ?_)
 obtain ⟨⟨i,d,j,e⟩,L,M,H,G,H2,G2⟩:=x;obtain ⟨cx,cy,hi,⟨hcx,hcy⟩,⟨hL,hM⟩,hlen,hlen2⟩:=hx;simp only at cx cy hi hcx hcy hL hM hlen hlen2 ⊢;have hB:=pD hL;have hC:=pD hM;obtain ⟨B,hBe⟩:∃ B,aY L=B:=⟨_,rfl⟩;obtain ⟨C,hCe⟩:∃ C,aY M=C:=⟨_,rfl⟩;obtain ⟨BL,BP,BD⟩:=B;obtain ⟨CL,CP,CD_⟩:=C;rw [hBe] at hB;rw [hCe] at hC;obtain ⟨k1,k2,k3,k4,k5⟩:=hB;obtain ⟨l1,l2,l3,l4,l5⟩:=hC;simp only [hBe,hCe];simp only at k1 k2 k3 k4 k5 l1 l2 l3 l4 l5;obtain ⟨X,hX⟩:∃ X,cur a i d=X:=⟨_,rfl⟩;obtain ⟨Y,hY⟩:∃ Y,cur b j e=Y:=⟨_,rfl⟩;rw [hX] at cx hi hcx hcy hlen hlen2;rw [hY] at cy hi hcx hcy hlen hlen2
 obtain ⟨h0,hh0⟩:∃ h0:AH,[(560,.vars bx 253 [.ro (a.map Part.row),.v (.int .i64 i),.v (.int .i64 d)]),(608,.vars by_ 253 [.ro (b.map Part.row),.v (.int .i64 j),.v (.int .i64 e)]),
  (640,.vars bz 177 [.sl 5000 H 3 0 BL.length,.sl 5001 G 1 0 BP.length,.v (.int .i64 BD)]),
  (672,.vars bw 177 [.sl 5002 H2 3 0 CL.length,.sl 5003 G2 1 0 CP.length,.v (.int .i64 CD_)]),
  (5000,.rows H 3 (BL.map Part.row) true),(5001,.rows G 1 (BP.map bc) true),(5002,.rows H2 3 (CL.map Part.row) true),(5003,.rows G2 1 (CP.map bc) true)]=h0:=⟨_,rfl⟩
 have R:CR 560 608 bx by_ h0 h0 a b i d j e X Y:=⟨by decide,by decide,by decide,by rw [<- hh0];simp,by rw [<- hh0];simp,λ_ _ _ _=>rfl,cx,cy⟩;have g5:AH.get h0 5000=.rows H 3 (BL.map Part.row) true:=by rw [<- hh0];simp
 have g6:AH.get h0 5001=.rows G 1 (BP.map bc) true:=by rw [<- hh0];simp
 have g7:AH.get h0 640=.vars bz 177 [.sl 5000 H 3 0 BL.length,.sl 5001 G 1 0 BP.length,.v (.int .i64 BD)]:=by rw [<- hh0];simp
 have g8:AH.get h0 5002=.rows H2 3 (CL.map Part.row) true:=by rw [<- hh0];simp
 have g9:AH.get h0 5003=.rows G2 1 (CP.map bc) true:=by rw [<- hh0];simp
 have g10:AH.get h0 672=.vars bw 177 [.sl 5002 H2 3 0 CL.length,.sl 5003 G2 1 0 CP.length,.v (.int .i64 CD_)]:=by rw [<- hh0];simp
 rw [hh0]
 clear hh0
 simp
 have fin:∀ {i' d' j' e':Nat} {r:XR},Cu a i' d' r.2.1 -> Cu b j' e' r.2.2 -> eA X Y=some r ->
  (Cu a i' d' (cur a i' d') /\ Cu b j' e' (cur b j' e') /\ TInv (cur a i' d') (cur b j' e') /\ ((L++r.1.1)++(xf (cur a i' d') (cur b j' e')).1=(xf a b).1 /\ (M++r.1.2)++(xf (cur a i' d') (cur b j' e')).2=(xf a b).2) /\ ((∀ p ∈ L++r.1.1,am p) /\ ∀ p ∈ M++r.1.2,am p) /\
   ((L++r.1.1).length+(tsz (cur a i' d')+tsz (cur b j' e'))<=800/\(M++r.1.2).length+(tsz (cur a i' d')+tsz (cur b j' e'))<=800))/\tsz (cur a i' d')+tsz (cur b j' e')<tsz (cur a i d)+tsz (cur b j e):=by
  intro i' d' j' e' r hu hv hs;have hn:=fk hi hs;have hcm:=HV hi hs hcx hcy;have hdec:=hn.dec;have h1:=hn.lenx;have h2:=hn.leny;rw [hu.c,hv.c,hX,hY];exact ⟨⟨hu,hv,hn.inv,hcm,⟨Ce hL hn.okx,Ce hM hn.oky⟩,by rw [List.length_append];omega,by rw [List.length_append];omega⟩,hdec⟩
 refine R.kind (by omega) (λh1 i1 d1 R=>?_);have okx:∀ p∈nxt X,am p:=λp hp=>hi.px p (jw hp)
 have oky:∀ p∈nxt Y,am p:=λp hp=>hi.py p (jw hp)
 have hxt:=ie X;have hyf:=ie Y;have hbal:=hi.b
 cases ex:nxt X with
 | nil =>
   rw [ex] at R;simp [hdK];refine R.swap.kind (by omega) (λh2 j1 e1 R=>?_);have R:=R.swap
   cases ey:nxt Y with
   | nil =>
     have hc:xf X Y=([],[]):=HU (by simp [eA,ex,ey]);simp [hdK];rw [hc] at hcx hcy;simp only [List.append_nil] at hcx hcy;have A640:=(R.o 640 (by decide) (by decide) (by decide)).trans g7;have A5000:=(R.o 5000 (by decide) (by decide) (by decide)).trans g5;have A5001:=(R.o 5001 (by decide) (by decide) (by decide)).trans g6;have A672:=(R.o 672 (by decide) (by decide) (by decide)).trans g10;have A5002:=(R.o 5002 (by decide) (by decide) (by decide)).trans g8;have A5003:=(R.o 5003 (by decide) (by decide) (by decide)).trans g9;refine inl ag Tryz.func155 30000 (λw1 F=>?_);simp;refine ln (L:=BL) (P:=BP) (D:=BD) (Hl:=H) (Hp:=G) (by omega) (by omega) A640 A5000 A5001 (λHl' h' k576 k5000 ko=>?_);have hnorm:aA BL BP BD=normal (xf a b).1:=by rw [<- hcx];unfold normal;rw [hBe]
     rw [hnorm] at k576 k5000;have B672:=(ko 672 (by decide) (by decide) (by decide) (by decide)).trans A672;have B5002:=(ko 5002 (by decide) (by decide) (by decide) (by decide)).trans A5002;have B5003:=(ko 5003 (by decide) (by decide) (by decide) (by decide)).trans A5003;simp [k576];refine inl ag Tryz.func155 30000 (λw1 F=>?_);simp;refine lm (L:=CL) (P:=CP) (D:=CD_) (Hl:=H2) (Hp:=G2) (by omega) (by omega) B672 B5002 B5003 (λGl' h'' k672 k5002 ko2=>?_);have hnorm2:aA CL CP CD_=normal (xf a b).2:=by rw [<- hcy];unfold normal;rw [hCe]
     rw [hnorm2] at k672 k5002;have k5000:=(ko2 5000 (by decide) (by decide) (by decide) (by decide)).trans k5000;simp [k672];refine aa.pure (cz (normal (xf a b).1) (by rw [<- hcx];have:=mN hL;omega)) (by simp [k5000]) ?_;by_cases c4:aX (normal (xf a b).1)
     rotate_left
     ·have e:=hf.2 (λh=>c4 h.1)
      have e2:dc (aX (normal (xf a b).1))=false:=by rw [bQ];exact c4
      simp [e2,e]
     simp [c4];refine aa.pure (cz (normal (xf a b).2) (by rw [<- hcy];have:=mN hM;omega)) (by simp [k5002]) ?_;by_cases c5:aX (normal (xf a b).2)
     rotate_left
     ·have e:=hf.2 (λh=>c5 h.2)
      have e2:dc (aX (normal (xf a b).2))=false:=by rw [bQ];exact c5
      simp [e2,e]
     have e:=hf.1 ⟨c4,c5⟩;simp [c5,e,k5000,k5002]
   | cons q y' =>
     rw [ey] at R;have hq:=(dw hi.py ey).1;have hqb:=hq.bounds;have hqs:=e9 hq;have q0:¬ q.kind=0:=by omega
     simp [hdK,q0];refine R.kind (by omega) (λh3 i2 d2 R=>?_);simp only [nxt] at R;simp [nxt,hdK];refine R.swap.kind (by omega) (λh4 j2 e2 R=>?_);have R:=R.swap;rw [<- ey,dW,ey] at R;rw [<- ey,dW,ey];by_cases q2:q.kind=2
     ·simp [hdK,q2]
      refine R.swap.left ?_;simp;refine R.swap.take q2 (Nat.le_refl _) (λh5 R=>?_);have R:=R.swap;have A640:=(R.o 640 (by decide) (by decide) (by decide)).trans g7;have A5000:=(R.o 5000 (by decide) (by decide) (by decide)).trans g5;have A5001:=(R.o 5001 (by decide) (by decide) (by decide)).trans g6;have A672:=(R.o 672 (by decide) (by decide) (by decide)).trans g10;have A5002:=(R.o 5002 (by decide) (by decide) (by decide)).trans g8;have A5003:=(R.o 5003 (by decide) (by decide) (by decide)).trans g9;simp;have hc:eA X Y=some (([⟨1,q.signs.length,[]⟩],[dO q (psz q)]),[],bS q (psz q)::y'):=by simp [eA,ex,ey,q2]
      have hf:=fin R.cx R.cy hc;rw [d7 hq] at hf;have hpsz:psz q=q.signs.length:=by have:=hqb.2.2.2.2.1 q2;unfold psz;omega
      have htk:q.signs.take (psz q)=q.signs:=List.take_of_length_le (by omega);have qpos:=cH ey;have qpos2:0<q.signs.length:=by omega
      rw [<- List.map_take,htk];refine ng (L:=CL) (P:=CP) (D:=CD_) (Hl:=H2) (Hp:=G2) (by omega) (by first|omega|(simp;omega)) A672 A5003 (λP1 h1' B672 B5003 B5002 ko=>?_);have R:=R.rebase (h':=h1') (ko 560 (by decide) (by decide) (by decide) (by decide)) (ko 608 (by decide) (by decide) (by decide) (by decide));have B5002:=B5002.trans A5002;have B640:=(ko 640 (by decide) (by decide) (by decide) (by decide)).trans A640;have B5000:=(ko 5000 (by decide) (by decide) (by decide) (by decide)).trans A5000;have B5001:=(ko 5001 (by decide) (by decide) (by decide) (by decide)).trans A5001;have A640:=B640;have A5000:=B5000;have A5001:=B5001;have A672:=B672;have A5002:=B5002;have A5003:=B5003;simp;have f2:=fH (P:=BP) k3 k4 k5
      refine iV (n:=(psz q:Int)) (L:=BL) (P:=BP) (D:=BD) (Hl:=H) (Hp:=G) (by omega) (by omega) (by omega) (by omega) (λq hq=>by have:=f2 q hq;omega) A640 A5000 A5001 (λL2 h2' B640 B5000 ko=>?_);have R:=R.rebase (h':=h2') (ko 560 (by decide) (by decide) (by decide) (by decide)) (ko 608 (by decide) (by decide) (by decide) (by decide));have B672:=(ko 672 (by decide) (by decide) (by decide) (by decide)).trans A672;have B5002:=(ko 5002 (by decide) (by decide) (by decide) (by decide)).trans A5002;have B5003:=(ko 5003 (by decide) (by decide) (by decide) (by decide)).trans A5003;have A640:=B640;have A5000:=B5000;have A672:=B672;have A5002:=B5002;have A5003:=B5003;simp;refine Ent.kill 5001 (Ent.refl ⟨_,_,_,_,_,_,hf.1,hf.2,L2,none,H2,P1,?_⟩);rw [cB,hBe,cB,hCe]
      simp [cA,q2,hpsz,qpos2,R.gx,R.gy,A640,A5000,A672,A5002,A5003]
     ·exfalso
      have:=cH ey;rw [ex] at hxt;rw [ey] at hyf;simp [frs,q2] at hxt hyf;omega
 | cons p x' =>
   rw [ex] at R;have hp:=(dw hi.px ex).1;have hpb:=hp.bounds;have hps:=e9 hp;have p0:¬ p.kind=0:=by omega
   simp [hdK,p0];refine R.kind (by omega) (λh3 i2 d2 R=>?_);rw [<- ex,dW,ex] at R;rw [<- ex,dW,ex];by_cases p2:p.kind=2
   ·simp [hdK,p2]
    refine R.left ?_;simp;refine R.take p2 (Nat.le_refl _) (λh5 R=>?_);have A640:=(R.o 640 (by decide) (by decide) (by decide)).trans g7;have A5000:=(R.o 5000 (by decide) (by decide) (by decide)).trans g5;have A5001:=(R.o 5001 (by decide) (by decide) (by decide)).trans g6;have A672:=(R.o 672 (by decide) (by decide) (by decide)).trans g10;have A5002:=(R.o 5002 (by decide) (by decide) (by decide)).trans g8;have A5003:=(R.o 5003 (by decide) (by decide) (by decide)).trans g9;simp;have hc:eA X Y=some (([dO p (psz p)],[⟨1,p.signs.length,[]⟩]),bS p (psz p)::x',Y):=by simp [eA,ex,p2]
    have hf:=fin R.cx R.cy hc;rw [d7 hp] at hf;have hpsz:psz p=p.signs.length:=by have:=hpb.2.2.2.2.1 p2;unfold psz;omega
    have htk:p.signs.take (psz p)=p.signs:=List.take_of_length_le (by omega);have ppos:=cH ex;have ppos2:0<p.signs.length:=by omega
    rw [<- List.map_take,htk];refine tK (L:=BL) (P:=BP) (D:=BD) (Hl:=H) (Hp:=G) (by omega) (by first|omega|(simp;omega)) A640 A5001 (λP3 h3' B640 B5001 B5000 ko=>?_);have R:=R.rebase (h':=h3') (ko 560 (by decide) (by decide) (by decide) (by decide)) (ko 608 (by decide) (by decide) (by decide) (by decide));have B5000:=B5000.trans A5000;have B672:=(ko 672 (by decide) (by decide) (by decide) (by decide)).trans A672;have B5002:=(ko 5002 (by decide) (by decide) (by decide) (by decide)).trans A5002;have B5003:=(ko 5003 (by decide) (by decide) (by decide) (by decide)).trans A5003;have A640:=B640;have A5000:=B5000;have A5001:=B5001;have A672:=B672;have A5002:=B5002;have A5003:=B5003;simp;have f4:=fH (P:=CP) l3 l4 l5
    refine lP (n:=(psz p:Int)) (L:=CL) (P:=CP) (D:=CD_) (Hl:=H2) (Hp:=G2) (by omega) (by omega) (by omega) (by omega) (λq hq=>by have:=f4 q hq;omega) A672 A5002 A5003 (λL4 h4' B672 B5002 ko=>?_);have R:=R.rebase (h':=h4') (ko 560 (by decide) (by decide) (by decide) (by decide)) (ko 608 (by decide) (by decide) (by decide) (by decide));have B640:=(ko 640 (by decide) (by decide) (by decide) (by decide)).trans A640;have B5000:=(ko 5000 (by decide) (by decide) (by decide) (by decide)).trans A5000;have B5001:=(ko 5001 (by decide) (by decide) (by decide) (by decide)).trans A5001;have A640:=B640;have A5000:=B5000;have A5001:=B5001;have A672:=B672;have A5002:=B5002;simp;refine Ent.kill 5003 (Ent.refl ⟨_,_,_,_,_,_,hf.1,hf.2,H,P3,L4,none,?_⟩);rw [cB,hBe,cB,hCe]
    simp [cA,p2,hpsz,ppos2,R.gx,R.gy,A640,A5000,A5001,A672,A5002]
   ·simp [hdK,p2]
    refine R.swap.kind (by omega) (λh4 j2 e2 R=>?_);have R:=R.swap
    cases ey:nxt Y with
    | nil =>
      exfalso
      have:=cH ex;rw [ex] at hxt;rw [ey] at hyf;simp [frs,p2] at hxt hyf;omega
    | cons q y' =>
      rw [ey] at R;have hq:=(dw hi.py ey).1;have hqb:=hq.bounds;have hqs:=e9 hq;by_cases q2:q.kind=2
      ·simp [hdK,q2]
       refine R.swap.left ?_;simp;refine R.swap.take q2 (Nat.le_refl _) (λh5 R=>?_);have R:=R.swap;have A640:=(R.o 640 (by decide) (by decide) (by decide)).trans g7;have A5000:=(R.o 5000 (by decide) (by decide) (by decide)).trans g5;have A5001:=(R.o 5001 (by decide) (by decide) (by decide)).trans g6;have A672:=(R.o 672 (by decide) (by decide) (by decide)).trans g10;have A5002:=(R.o 5002 (by decide) (by decide) (by decide)).trans g8;have A5003:=(R.o 5003 (by decide) (by decide) (by decide)).trans g9;simp;have hc:eA X Y=some (([⟨1,q.signs.length,[]⟩],[dO q (psz q)]),p::x',bS q (psz q)::y'):=by simp [eA,ex,ey,q2,p2]
       have hf:=fin R.cx R.cy hc;rw [d7 hq] at hf;have hpsz:psz q=q.signs.length:=by have:=hqb.2.2.2.2.1 q2;unfold psz;omega
       have htk:q.signs.take (psz q)=q.signs:=List.take_of_length_le (by omega);have qpos:=cH ey;have qpos2:0<q.signs.length:=by omega
       rw [<- List.map_take,htk];refine ng (L:=CL) (P:=CP) (D:=CD_) (Hl:=H2) (Hp:=G2) (by omega) (by first|omega|(simp;omega)) A672 A5003 (λP5 h5' B672 B5003 B5002 ko=>?_);have R:=R.rebase (h':=h5') (ko 560 (by decide) (by decide) (by decide) (by decide)) (ko 608 (by decide) (by decide) (by decide) (by decide));have B5002:=B5002.trans A5002;have B640:=(ko 640 (by decide) (by decide) (by decide) (by decide)).trans A640;have B5000:=(ko 5000 (by decide) (by decide) (by decide) (by decide)).trans A5000;have B5001:=(ko 5001 (by decide) (by decide) (by decide) (by decide)).trans A5001;have A640:=B640;have A5000:=B5000;have A5001:=B5001;have A672:=B672;have A5002:=B5002;have A5003:=B5003;simp;have f6:=fH (P:=BP) k3 k4 k5
       refine iV (n:=(psz q:Int)) (L:=BL) (P:=BP) (D:=BD) (Hl:=H) (Hp:=G) (by omega) (by omega) (by omega) (by omega) (λq hq=>by have:=f6 q hq;omega) A640 A5000 A5001 (λL6 h6' B640 B5000 ko=>?_);have R:=R.rebase (h':=h6') (ko 560 (by decide) (by decide) (by decide) (by decide)) (ko 608 (by decide) (by decide) (by decide) (by decide));have B672:=(ko 672 (by decide) (by decide) (by decide) (by decide)).trans A672;have B5002:=(ko 5002 (by decide) (by decide) (by decide) (by decide)).trans A5002;have B5003:=(ko 5003 (by decide) (by decide) (by decide) (by decide)).trans A5003;have A640:=B640;have A5000:=B5000;have A672:=B672;have A5002:=B5002;have A5003:=B5003;simp;refine Ent.kill 5001 (Ent.refl ⟨_,_,_,_,_,_,hf.1,hf.2,L6,none,H2,P5,?_⟩);rw [cB,hBe,cB,hCe]
       simp [cA,q2,hpsz,qpos2,R.gx,R.gy,A640,A5000,A672,A5002,A5003]
      ·simp [hdK,q2]
       refine R.left ?_;simp;refine R.swap.left ?_;simp;refine aa.pure (yR (psz p) (psz q)) (by simp) ?_;have pp:=cH ex;have qp:=cH ey;obtain ⟨n,hn⟩:∃ n,min (psz p) (psz q)=n:=⟨_,rfl⟩;rw [hn];simp;refine R.kind (by omega) (λh5 i3 d3 R=>?_);rw [<- ex,dW,ex] at R;rw [<- ex,dW,ex];simp [hdK];refine R.swap.kind (by omega) (λh6 j3 e3 R=>?_);have R:=R.swap;rw [<- ey,dW,ey] at R;rw [<- ey,dW,ey];simp [hdK];have hc:eA X Y=some ((if q.kind=1 then [dO p n] else [],if p.kind=1 then [dO q n] else []),bS p n::x',bS q n::y'):=by simp [eA,ex,ey,p2,q2,hn]
       obtain ⟨mx,hmx⟩:∃ m,d3+n=m:=⟨_,rfl⟩;obtain ⟨my,hmy⟩:∃ m,e3+n=m:=⟨_,rfl⟩;have ewx:Go.IntKind.i64.wrap ((d3:Int)+(n:Int))=(mx:Int):=by rw [Go.IntWalk.i64_in _ (by have:=R.cx.bnd;omega)];omega
       have ewy:Go.IntKind.i64.wrap ((e3:Int)+(n:Int))=(my:Int):=by rw [Go.IntWalk.i64_in _ (by have:=R.cy.bnd;omega)];omega
       have cxx:=R.cx.add (n:=n) (by omega);have cyy:=R.cy.add (n:=n) (by omega);rw [hmx] at cxx;rw [hmy] at cyy;have hf:=fin cxx cyy hc;have n0:0<n:=by omega
       have ppn:(dO p n).n=n:=by simp [dO,p2]
       have qqn:(dO q n).n=n:=by simp [dO,q2]
       have A640:=(R.o 640 (by decide) (by decide) (by decide)).trans g7;have A5000:=(R.o 5000 (by decide) (by decide) (by decide)).trans g5;have A5001:=(R.o 5001 (by decide) (by decide) (by decide)).trans g6;have A672:=(R.o 672 (by decide) (by decide) (by decide)).trans g10;have A5002:=(R.o 5002 (by decide) (by decide) (by decide)).trans g8;have A5003:=(R.o 5003 (by decide) (by decide) (by decide)).trans g9;by_cases p1:p.kind=1
       ·by_cases q1:q.kind=1
        ·simp only [p1,q1,if_true] at hf
         simp [p1,q1];have f7:=fH (P:=BP) k3 k4 k5;refine iV (n:=(n:Int)) (L:=BL) (P:=BP) (D:=BD) (Hl:=H) (Hp:=G) (by omega) (by omega) (by omega) (by omega) (λq hq=>by have:=f7 q hq;omega) A640 A5000 A5001 (λL7 h7' B640 B5000 ko=>?_);have R:=R.rebase (h':=h7') (ko 560 (by decide) (by decide) (by decide) (by decide)) (ko 608 (by decide) (by decide) (by decide) (by decide));have B672:=(ko 672 (by decide) (by decide) (by decide) (by decide)).trans A672;have B5002:=(ko 5002 (by decide) (by decide) (by decide) (by decide)).trans A5002;have B5003:=(ko 5003 (by decide) (by decide) (by decide) (by decide)).trans A5003;have A640:=B640;have A5000:=B5000;have A672:=B672;have A5002:=B5002;have A5003:=B5003;simp;have f8:=fH (P:=CP) l3 l4 l5
         refine lP (n:=(n:Int)) (L:=CL) (P:=CP) (D:=CD_) (Hl:=H2) (Hp:=G2) (by omega) (by omega) (by omega) (by omega) (λq hq=>by have:=f8 q hq;omega) A672 A5002 A5003 (λL8 h8' B672 B5002 ko=>?_);have R:=R.rebase (h':=h8') (ko 560 (by decide) (by decide) (by decide) (by decide)) (ko 608 (by decide) (by decide) (by decide) (by decide));have B640:=(ko 640 (by decide) (by decide) (by decide) (by decide)).trans A640;have B5000:=(ko 5000 (by decide) (by decide) (by decide) (by decide)).trans A5000;have A640:=B640;have A5000:=B5000;have A672:=B672;have A5002:=B5002;simp [R.gx,R.gy,ewx,ewy];refine Ent.kill 5003 (Ent.kill 5001 (Ent.refl ⟨_,_,_,_,_,_,hf.1,hf.2,L7,none,L8,none,?_⟩));rw [cB,hBe,cB,hCe];simp [cA,p1,q1,ppn,qqn,n0,A640,A5000,A672,A5002]
        ·have q3:q.kind=3:=by omega
         simp only [p1,q1,if_true,if_false,List.append_nil] at hf;simp [p1,q1];refine r1 (n:=(n:Int)) (D:=CD_) (by omega) (by omega) A672 (λh9' B672 ko=>?_);have R:=R.rebase (h':=h9') (ko 560 (by decide)) (ko 608 (by decide));have B5002:=(ko 5002 (by decide)).trans A5002;have B5003:=(ko 5003 (by decide)).trans A5003;have B640:=(ko 640 (by decide)).trans A640;have B5000:=(ko 5000 (by decide)).trans A5000;have B5001:=(ko 5001 (by decide)).trans A5001;have A640:=B640;have A5000:=B5000;have A5001:=B5001;have A672:=B672;have A5002:=B5002;have A5003:=B5003;simp [R.gx,R.gy,ewx,ewy];refine Ent.refl ⟨_,_,_,_,_,_,hf.1,hf.2,H,G,H2,G2,?_⟩;rw [cB,hCe];simp [cA,hBe,q3,qqn,A640,A5000,A5001,A672,A5002,A5003]
       ·have p3:p.kind=3:=by omega
        by_cases q1:q.kind=1
        ·simp only [p1,q1,if_true,if_false,List.append_nil] at hf
         simp [p1,q1];refine r2 (n:=(n:Int)) (D:=BD) (by omega) (by omega) A640 (λh10' B640 ko=>?_);have R:=R.rebase (h':=h10') (ko 560 (by decide)) (ko 608 (by decide));have B5000:=(ko 5000 (by decide)).trans A5000;have B5001:=(ko 5001 (by decide)).trans A5001;have B672:=(ko 672 (by decide)).trans A672;have B5002:=(ko 5002 (by decide)).trans A5002;have B5003:=(ko 5003 (by decide)).trans A5003;have A640:=B640;have A5000:=B5000;have A5001:=B5001;have A672:=B672;have A5002:=B5002;have A5003:=B5003;simp [R.gx,R.gy,ewx,ewy];refine Ent.refl ⟨_,_,_,_,_,_,hf.1,hf.2,H,G,H2,G2,?_⟩;rw [cB,hBe];simp [cA,hCe,p3,ppn,A640,A5000,A5001,A672,A5002,A5003]
        ·simp only [p1,q1,if_false,List.append_nil] at hf
         simp [p1,q1,R.gx,R.gy,ewx,ewy];refine Ent.refl ⟨_,_,_,_,_,_,hf.1,hf.2,H,G,H2,G2,?_⟩;simp [hBe,hCe,A640,A5000,A5001,A672,A5002,A5003]
theorem ah {p:Prop} (h:¬ p):dc p=false:=by rw [bQ];exact h
theorem pR {e:Entry} (hl:ca e<=2 ^ 40):nL aC e.o<=2 ^ 40:=by unfold ca at hl;omega
theorem ic (e:Entry) (hl:ca e<=2 ^ 40):au Tryz.prog 215 [.agg e.row] (.one (.c (vb (bN e)) 1)):=by
 refine pci ag Tryz.func215 (λw0 base=>?_);simp [Entry.row];intros;refine aa.pure (cg e.client 1 8) (by simp) ?_;by_cases c1:1<=e.client/\e.client<=8
 rotate_left
 ·have h:¬ bN e:=λh=>c1 h.1
  simp [ah c1,ah h]
 simp [c1];refine aa.pure (cg e.seq 1 1000000000) (by simp) ?_;by_cases c2:1<=e.seq/\e.seq<=1000000000
 rotate_left
 ·have h:¬ bN e:=λh=>c2 h.2.1
  simp [ah c2,ah h]
 simp [c2];refine aa.pure (kC e.o (pR hl)) (by simp) ?_;by_cases c3:aZ e.o
 ·have h:bN e:=⟨c1,c2,c3⟩
  simp [c3,h]
 ·have h:¬ bN e:=λh=>c3 h.2.2
  simp [ah c3,ah h]
theorem fJ (a b:List Part):nL aC (ae a b).1<=2 ^ 18/\nL aC (ae a b).2.1<=2 ^ 18:=by
 unfold ae
 split
 ·split
  ·rename_i h;exact ⟨lZ h.1,lZ h.2⟩
  ·simp [nL,cf]
 ·simp [nL,cf]
noncomputable def fO (r:Rep) (t:List Int):Rep:=⟨r.client,r.seq,r.rev+1,t,false,bI t.length,r.buf⟩
def ec (r:Rep) (t:List Int) (s b:List Part):Rep:=⟨r.client,r.seq,r.rev+1,t,r.has,s,b⟩
def qu (r:Rep) (e:Entry):Prop:=r.has=true/\e.client=r.client/\e.seq=r.seq
open Classical in
noncomputable def bP (r:Rep) (e:Entry):Rep×Bool:=
 if ba r/\bN e/\dY e.o r.text then
  if qu r e then (if e.o=r.sent then gn (fO r (apply e.o r.text).1) else (Rep.zero,false))
  else if (ae e.o r.sent).2.2=true/\(ae (ae e.o r.sent).1 r.buf).2.2=true then gn (ec r (apply e.o r.text).1 (ae e.o r.sent).2.1 (ae (ae e.o r.sent).1 r.buf).2.1) else (Rep.zero,false)
 else (Rep.zero,false)
theorem jA {r:Rep} {e:Entry} (h:¬ (ba r/\bN e/\dY e.o r.text)):bP r e=(Rep.zero,false):=by unfold bP;rw [if_neg h]
theorem kU {r:Rep} {e:Entry} (h:ba r/\bN e/\dY e.o r.text) (h2:qu r e):(e.o=r.sent->bP r e=gn (fO r (apply e.o r.text).1))/\(¬ e.o=r.sent->bP r e=(Rep.zero,false)):=by
 unfold bP;rw [if_pos h,if_pos h2];exact ⟨λh=>by rw [if_pos h],λh=>by rw [if_neg h]⟩
theorem jS {r:Rep} {e:Entry} (h:ba r/\bN e/\dY e.o r.text) (h2:¬ qu r e) :
 ((ae e.o r.sent).2.2=true /\ (ae (ae e.o r.sent).1 r.buf).2.2=true -> bP r e=gn (ec r (apply e.o r.text).1 (ae e.o r.sent).2.1 (ae (ae e.o r.sent).1 r.buf).2.1)) /\
 (¬ ((ae e.o r.sent).2.2=true/\(ae (ae e.o r.sent).1 r.buf).2.2=true)->bP r e=(Rep.zero,false)):=by
 unfold bP;rw [if_pos h,if_neg h2];exact ⟨λh=>by rw [if_pos h],λh=>by rw [if_neg h]⟩
theorem zG {r:Rep} {t:List Int} (h:t.length<=2 ^ 17):dG (fO r t)<=dG r+2 ^ 18:=by
 have:=pH t.length;unfold dG fO;simp only;omega
theorem u6 {r:Rep} {t:List Int} {s b:List Part} (h:t.length<=2 ^ 17) (hs:nL aC s<=2 ^ 18) (hb:nL aC b<=2 ^ 18):dG (ec r t s b)<=2 ^ 20:=by
 unfold dG ec;simp only;omega
theorem A5 (r:Rep) (e:Entry):dG (bP r e).1<=dG r+2 ^ 20:=by
 have ht:=kl e.o r.text;have h1:=fJ e.o r.sent;have h2:=fJ (ae e.o r.sent).1 r.buf;unfold bP
 split
 ·split
  ·split
   ·exact B3 (by have:=@zG r _ ht;omega)
   ·simp [Rep.zero_n]
  ·split
   ·exact B3 (by have:=@u6 r _ _ _ ht h1.2 h2.2;omega)
   ·simp [Rep.zero_n]
 ·simp [Rep.zero_n]
theorem tI (r:Rep) (hl:dG r<=2 ^ 28) (x:Entry) (hx:ca x<=2 ^ 40):au Tryz.prog 226 [.agg r.row,.agg x.row] (.tup [.agg (bP r x).1.res,.c (.v (.bool (bP r x).2)) 1]):=by
 refine pci ag Tryz.func226 (λw0 base=>?_);have hxo:=pR hx;have hbuf:nL aC r.buf<=2 ^ 40/\nL aC r.sent<=2 ^ 40/\r.text.length<=2 ^ 40:=by unfold dG at hl;omega
 obtain ⟨hbuf,hsent,htext⟩:=hbuf;simp [Rep.row,Entry.row];intros;refine bq.quiet eok mix (by kernel_rfl) ?_;simp;refine ⟨_,_,dz r (by omega),by simp [Rep.row],?_⟩;by_cases c1:ba r
 rotate_left
 ·have e:=jA (r:=r) (e:=x) (λh=>c1 h.1)
  simp [ah c1,e,Rep.res,Rep.zero]
 simp [c1];refine ⟨_,_,ic x hx,by simp [Entry.row],?_⟩;by_cases c2:bN x
 rotate_left
 ·have e:=jA (r:=r) (e:=x) (λh=>c2 h.2.1)
  simp [ah c2,e,Rep.res,Rep.zero]
 simp [c2];refine ⟨_,_,du x.o hxo,by simp,?_⟩;by_cases c3:aL x.o=r.text.length
 rotate_left
 ·have e:=jA (r:=r) (e:=x) (λh=>c3 h.2.2.2.2)
  simp [c3,e,Rep.res,Rep.zero]
 simp [c3];refine aa.pure (eD x.o r.text hxo htext) (by simp) ?_;have hfit:dY x.o r.text:=⟨c2.2.2.1,c1.2.2.2.1,c3⟩;have hyes:=(@et x.o r.text).2 hfit;have hack:=kU (r:=r) (e:=x);have hmove:=jS (r:=r) (e:=x);have ht:=kl x.o r.text;have hall:ba r/\bN x/\dY x.o r.text:=⟨c1,c2,hfit⟩;generalize apply x.o r.text=A at hyes hack hmove ht ⊢;obtain ⟨t,ok⟩:=A;simp only at hyes hack hmove ht ⊢;subst hyes;simp;intro H1;have hrev:=c1.2.2.1;have ew:Go.IntKind.i64.wrap (r.rev+1)=r.rev+1:=Go.IntWalk.i64_in _ (by omega);refine aa.pure (j6 r (by omega)) (by simp [Rep.row]) ?_;simp [Rep.res,ew];intros
 have hcase:qu r x\/r.has=false\/(r.has=true/\x.client≠r.client)\/(r.has=true/\x.client=r.client/\x.seq≠r.seq):=by
  by_cases h1:r.has=true
  ·by_cases h2:x.client=r.client
   ·by_cases h3:x.seq=r.seq
    ·exact .inl ⟨h1,h2,h3⟩
    ·exact .inr (.inr (.inr ⟨h1,h2,h3⟩))
   ·exact .inr (.inr (.inl ⟨h1,h2⟩))
  ·exact .inr (.inl (by simpa using h1))
 rcases hcase with hA|hA|hA|hA
 ·have hm:=hack hall hA
  simp [hA.1,hA.2.1,hA.2.2];refine aa.pure (ni x.o r.sent hxo) (by simp) ?_;by_cases ce:x.o=r.sent
  rotate_left
  ·have e:=hm.2 ce
   simp [ce,e,Rep.zero]
  have e:=hm.1 ce;simp [ce];refine aa.pure (ia t.length) (by simp) ?_;simp;intros;refine inl ag Tryz.func187 20000 (λw1 F=>?_);simp;intros;have hn2:=@zG r t ht;refine aa.pure (dz (fO r t) (by omega)) (by simp [Rep.row,fO]) ?_;by_cases h:ba (fO r t)
  ·rw [eg h] at e
   simp [h,e];simp [fO]
  ·rw [iu h] at e
   simp [ah h,e,Rep.zero]
 all_goals
  have hnA:¬ qu r x:=by
   rintro ⟨a1,a2,a3⟩
   simp_all
  have hm:=hmove hall hnA;have n1:=fJ x.o r.sent;simp [hA];refine aa.pure (iA x.o r.sent hxo hsent) (by simp) ?_;generalize ae x.o r.sent=T1 at hm n1 ⊢;obtain ⟨x1,s1,j1⟩:=T1;simp only at hm n1 ⊢;simp;intros;have n2:=fJ x1 r.buf;refine aa.pure (iA x1 r.buf (by omega) hbuf) (by simp) ?_;generalize ae x1 r.buf=T2 at hm n2 ⊢;obtain ⟨x2,s2,j2⟩:=T2;simp only at hm n2 ⊢;simp;intros
  cases j1 with
  | false =>
    have e:=hm.2 (by simp);simp [e,Rep.zero]
  | true =>
    cases j2 with
    | false =>
      have e:=hm.2 (by simp);simp [e,Rep.zero]
    | true =>
      have e:=hm.1 ⟨rfl,rfl⟩;simp;refine inl ag Tryz.func187 20000 (λw1 F=>?_);simp;intros;have hn2:=@u6 r t s1 s2 ht n1.2 n2.2;refine aa.pure (dz (ec r t s1 s2) (by omega)) (by simp [Rep.row,ec,hA]) ?_;by_cases h:ba (ec r t s1 s2)
      ·rw [eg h] at e
       simp [h,e];simp [ec,hA]
      ·rw [iu h] at e
       simp [ah h,e,Rep.zero]
noncomputable def db:Rep->List Entry->Option Rep
 |r,[]=>some r
 |r,e::l=>if (bP r e).2=true then db (bP r e).1 l else none
open Classical in
noncomputable def fg (r:Rep) (l:List Entry):Rep×Bool:=
 if ba r then match db r l with
  |some x=>(x,true)
  |none=>(Rep.zero,false)
 else (Rep.zero,false)
theorem qx {r:Rep} {e:Entry} (h:(bP r e).2=true):ba r/\ba (bP r e).1:=by
 have key:∀ x:Rep,(gn x).2=true->ba (gn x).1:=by
  intro x hx;by_cases hr:ba x
  ·rw [eg hr];exact hr
  ·rw [iu hr] at hx;simp at hx
 unfold bP at h ⊢
 split
 ·rename_i h1
  rw [if_pos h1] at h;refine ⟨h1.1,?_⟩
  split
  ·rename_i h2
   rw [if_pos h2] at h
   split
   ·rename_i h3;rw [if_pos h3] at h;exact key _ h
   ·rename_i h3;rw [if_neg h3] at h;simp at h
  ·rename_i h2
   rw [if_neg h2] at h
   split
   ·rename_i h3;rw [if_pos h3] at h;exact key _ h
   ·rename_i h3;rw [if_neg h3] at h;simp at h
 ·rename_i h1
  rw [if_neg h1] at h;simp at h
theorem rQ:∀ (l:List Entry) (r x:Rep),db r l=some x->l=[]/\x=r\/ba r/\ba x
 | [],r,x,h=>by simp [db] at h;exact .inl ⟨rfl,h.symm⟩
 | e :: l, r, x, h => by
   unfold db at h
   split at h
   ·rename_i h1
    have h2:=qx h1;rcases rQ l _ x h with ⟨-,rfl⟩|⟨-,h3⟩
    ·exact .inr h2
    ·exact .inr ⟨h2.1,h3⟩
   ·simp at h
theorem wi {r:Rep} (h:ba r):dG r<=2 ^ 20:=by
 have h1:=lZ h.2.2.2.2.1.1;have h2:=lZ h.2.2.2.2.2.1.1;have h3:=h.2.2.2.1.1;unfold dG;omega
theorem vX {l:List Entry} {i:Nat} {u:Rep} (h:i<l.length):db u (l.drop i)=if (bP u l[i]).2=true then db (bP u l[i]).1 (l.drop (i+1)) else none:=by
 rw [List.drop_eq_getElem_cons h,db]
theorem xN {l:List Entry} {i:Nat} {u:Rep} (h:l.length<=i):db u (l.drop i)=some u:=by
 rw [List.drop_eq_nil_of_le h,db]
theorem oi (r:Rep) (hl:dG r<=2 ^ 28) (l:List Entry) (hx:nL ca l<=2 ^ 40):au Tryz.prog 196 [.agg r.row,.c (.s (l.map Entry.row))] (.tup [.agg (fg r l).1.res,.c (.v (.bool (fg r l).2)) 1]):=by
 refine pci ag Tryz.func196 (λw0 base=>?_);have hle:=cF hx
 have hno:db r l=none->fg r l=(Rep.zero,false):=by
  intro h;unfold fg;rw [h]
  split<;>rfl
 have hyes:∀ u,db r l=some u->fg r l=gn u:=by
  intro u h;unfold fg;rw [h];rcases rQ l r u h with ⟨-,rfl⟩|⟨h1,h2⟩
  ·rfl
  ·rw [if_pos h1,eg h2]
 simp [Rep.row];intro b2 b4;refine aa.pure (j6 r (by omega)) (by simp [Rep.row]) ?_;simp [Rep.res];intro H3 H5 H6 b6
 refine ar eok (λx:(Nat×Rep×Nat)×Hd×Hd×Hd=>(x.1.2.2=192\/x.1.2.2=352)/\(x.1.1<=l.length/\db x.1.2.1 (l.drop x.1.1)=db r l)/\dG x.1.2.1<=2 ^ 28) (λx=>⟨34,0,[(15,.v (.int .i64 x.1.1)),(14,.v (.int .i64 l.length)),(13,.ro (l.map Entry.row)),(4,.p 64 b4 0),(6,.p 96 b6 0)],
  [(96, .vars b6 129 [.v (.int .i64 x.1.2.1.client), .v (.int .i64 x.1.2.1.seq), .v (.int .i64 x.1.2.1.rev), .sl (x.1.2.2+3) x.2.1 1 0 x.1.2.1.text.length, .v (.bool x.1.2.1.has), .sl (x.1.2.2+5) x.2.2.1 3 0 x.1.2.1.sent.length, .sl (x.1.2.2+6) x.2.2.2 3 0 x.1.2.1.buf.length]),
   (64,.vars b4 129 [.v (.int .i64 0),.v (.int .i64 0),.v (.int .i64 0),.nil,.v (.bool false),.nil,.nil]),
   (x.1.2.2+3,.rows x.2.1 1 (x.1.2.1.text.map bc) true),(x.1.2.2+5,.rows x.2.2.1 3 (x.1.2.1.sent.map Part.row) true),(x.1.2.2+6,.rows x.2.2.2 3 (x.1.2.1.buf.map Part.row) true)]⟩) (λx=>l.length - x.1.1) ((0,r,192),H3,H5,H6) (by simp;omega) (by simp) (λx hx=>Ent.refl ?_)
 obtain ⟨⟨i,u,k⟩,G3,G5,G6⟩:=x;obtain ⟨hk,⟨hi,hu⟩,hn⟩:=hx;simp only at hk hi hu hn ⊢;by_cases hlt:i<l.length
 ·have hm:=jy hx hlt
  rw [vX hlt] at hu;have hn2:=A5 u l[i];have hok:=qx (r:=u) (e:=l[i]);rcases hk with rfl|rfl
  all_goals
   simp [hlt,Entry.row];intro b8;refine aa.pure (tI u hn l[i] hm) (by simp [Rep.row,Entry.row]) ?_;generalize bP u l[i]=T at hu hn2 hok ⊢;obtain ⟨v,ok⟩:=T;simp only at hu hn2 hok ⊢;simp [Rep.res];intro K3 K5 K6 b9
   cases ok with
   | false =>
     simp only [Bool.false_eq_true,if_false] at hu;have hf:=hno hu.symm;simp [hf,Rep.zero]
   | true =>
     simp only [if_true] at hu;have hv:=wi (hok rfl).2;simp;refine Ent.refl ⟨i+1,v,352,⟨.inr rfl,⟨by omega,hu⟩,by omega⟩,by omega,K3,K5,K6,?_⟩;simp;exact aB (by omega)
 ·rw [xN (by omega)] at hu
  rcases hk with rfl|rfl
  all_goals
   simp [hlt];refine inl ag Tryz.func187 20000 (λw1 F=>?_);simp;intros;refine aa.pure (dz u (by omega)) (by simp [Rep.row]) ?_;have hf:=hyes u hu.symm;by_cases h:ba u
   ·rw [eg h] at hf
    simp [h,hf]
   ·rw [iu h] at hf
    simp [ah h,hf,Rep.zero]
open Classical in
noncomputable def cq (r:Rep):Call×Bool:=if ba r/\r.has=true then (ga r,true) else (Call.zero,false)
theorem qR (r:Rep) (hl:dG r<=2 ^ 20):au Tryz.prog 149 [.agg r.row] (.tup [.agg (cq r).1.res,.c (.v (.bool (cq r).2)) 1]):=by
 refine pci ag Tryz.func149 (λw0 base=>?_);simp [Rep.row];intros;refine aa.pure (dz r (by omega)) (by simp [Rep.row]) ?_;by_cases c1:ba r
 rotate_left
 ·have e:cq r=(Call.zero,false):=by unfold cq;rw [if_neg (λh=>c1 h.1)]
  have e2:dc (ba r)=false:=by rw [bQ];exact c1
  simp [e2,e,Call.res,Call.zero]
 simp [c1]
 cases ch:r.has
 ·have e:cq r=(Call.zero,false):=by unfold cq;rw [if_neg (λh=>by rw [ch] at h;simp at h)]
  simp [e,Call.res,Call.zero]
 ·have e:cq r=(ga r,true):=by unfold cq;rw [if_pos ⟨c1,ch⟩]
  simp;refine aa.pure (va r (by omega)) (by simp [Rep.row,ch]) ?_;simp [e,Call.res,ga]
def F9 (s:ByteArray) (i:Nat):Prop:=∀ h:i<s.size,97<=s[i].toNat/\s[i].toNat<=122
theorem eW {d:Doc} {B:Nat} (h:en d<=B):nL ca d.list<=B/\d.text.length<=B/\d.name.size<=B/\d.seen.length<=B:=by unfold en at h;omega
def Al (d:Doc) (i:Nat):Prop:=∀ h:i<d.seen.length,(1<=d.seen[i].client/\d.seen[i].client<=8)/\(1<=d.seen[i].seq/\d.seen[i].seq<=1000000000)/\(1<=d.seen[i].rev/\d.seen[i].rev<=ab d)/\(∀ h0:0<i,d.seen[i - 1].client<d.seen[i].client)
theorem aE {d:Doc} (h:aR d):ab d=d.fr+d.list.length/\0<=d.fr/\d.fr<=999999000/\d.list.length<=8:=by
 have h1:=h.2.1;have h2:=h.2.2.2.1;refine ⟨?_,h1.1,h1.2,h2⟩;unfold ab;rw [Go.IntWalk.i64_in _ (by omega)]
theorem mF {d:Doc} {rev:Int} (h:¬ (aR d/\d.fr<=rev/\rev<=ab d)):bT d rev=([],false):=by unfold bT;rw [if_neg h]
theorem kz {d:Doc} {rev:Int} (h:aR d/\d.fr<=rev/\rev<=ab d):bT d rev=fX ((d.list.take (rev - d.fr).toNat).map Entry.o) d.text:=by unfold bT;rw [if_pos h]
theorem vq {d:Doc} (n1:nL ca d.list<=2 ^ 30) {o:List Part} {l:List Entry} (hl:∀ e∈l,e∈d.list) (ho:o∈l.map Entry.o):nL aC o<=2 ^ 30:=by
 rw [List.mem_map] at ho;obtain ⟨e,he,rfl⟩:=ho;have:=gf n1 (hl e he);unfold ca at this;omega
theorem uz {α:Type} {f:α->Nat}:∀ (l:List α) (k:Nat),cf f (l.take k)<=cf f l
 | [],k=>by simp [cf]
 |a::l,0=>by simp [cf]
 |a::l,k+1=>by have:=uz l k (f:=f);simp only [List.take_succ_cons,cf];omega
theorem ws {α:Type} {f:α->Nat} {l:List α} {k B:Nat} (h:nL f l<=B):nL f (l.take k)<=B:=by
 have:=uz l k (f:=f);unfold nL at h ⊢;simp;omega
theorem mv:∀ (l:List (List Part)) (t:List Int) (k:Nat),(ao l t).isSome=true->(ao (l.take k) t).isSome=true
 | [],_,_,h=>by simpa using h
 |o::l,t,0,h=>by simp [ao]
 | o :: l, t, k + 1, h => by
   rw [ao] at h;rw [List.take_succ_cons,ao]
   split at h
   ·rename_i hh;rw [if_pos hh];exact mv l _ k h
   ·simp at h
theorem zE {l:List (List Part)} {t u:List Int} (ht:cT t) (h:ao l t=some u):fX l t=(u,true):=by
 unfold fX;rw [if_pos ht,h]
theorem kF (d:Doc) (c:Int):(∃ i,∃ h:i<d.seen.length,d.seen[i].client=c/\(∀ j,j<i->∀ hj:j<d.seen.length,d.seen[j].client≠c)/\aS d c=(d.seen[i],true))\/((∀ j,∀ hj:j<d.seen.length,d.seen[j].client≠c)/\aS d c=(⟨0,0,0⟩,false)):=by
 unfold aS
 cases h:d.seen.find? (λs=>decide (s.client=c)) with
 | none =>
   right
   rw [List.find?_eq_none] at h;exact ⟨λj hj=>by have:=h _ (List.getElem_mem hj);simpa using this,rfl⟩
 | some s =>
   left
   rw [List.find?_eq_some_iff_getElem] at h;obtain ⟨h1,i,hi,h2,h3⟩:=h;refine ⟨i,hi,by rw [h2];simpa using h1,λj hj hjl=>by have:=h3 j hj;simpa using this,by rw [h2]⟩
theorem it {d:Doc} (h:aR d) (c:Int):0<=(aS d c).1.seq/\(aS d c).1.seq<=1000000000/\0<=(aS d c).1.rev/\(aS d c).1.rev<=ab d:=by
 have hh:=aE h;rcases kF d c with ⟨i,hi,-,-,e⟩|⟨-,e⟩
 ·rw [e]
  have:=h.2.2.2.2.2.2 i hi;simp only;omega
 ·rw [e]
  simp only;omega
def eb (r:Rep) (s:Seen):Prop:=if r.seq=s.seq then ¬ (r.has=true/\s.rev<=r.rev) else r.has=true/\r.seq=s.seq+1
def fN (d:Doc) (i:Nat) (r:Rep):Prop:=ba r/\r.client=i+1/\r.rev<=ab d/\((bT d r.rev).2=true->(bT d r.rev).1=r.text)/\eb r (aS d r.client).1
def lz (n:Net):Prop:=aR n.d/\(1<=n.reps.length/\n.reps.length<=4)/\∀ i,∀ h:i<n.reps.length,fN n.d i n.reps[i]
theorem rP (d:Doc) (rev:Int):(bT d rev).1.length<=2 ^ 30:=by
 by_cases h:aR d/\d.fr<=rev/\rev<=ab d
 ·rw [kz h]
  unfold fX
  split
  ·split
   ·rename_i u hu
    have key:∀ (l:List (List Part)) (t:List Int),t.length<=2 ^ 30->∀ u,ao l t=some u->u.length<=2 ^ 30:=by
     intro l
     induction l with
     |nil=>intro t ht u hu;simp [ao] at hu;subst hu;exact ht
     | cons o l ih =>
       intro t ht u hu;rw [ao] at hu
       split at hu
       ·exact ih _ (by have:=kl o t;omega) u hu
       ·simp at hu
    exact key _ _ (by have:=h.1.2.2.1.1;omega) _ hu
   ·simp
  ·simp
 ·rw [mF h];simp
def Doc.zero:Doc:=⟨⟨#[]⟩,0,[],[],[]⟩
def Net.zero:Net:=⟨Doc.zero,[]⟩
theorem Doc.zero_n:en Doc.zero=0:=rfl
theorem Net.zero_n:tQ Net.zero=0:=rfl
def dZ (name:ByteArray) (t:List Int):Doc:=⟨name,0,t,[],[]⟩
open Classical in
noncomputable def eJ (name:ByteArray) (t:List Int):Doc×Bool:=if aR (dZ name t) then (dZ name t,true) else (Doc.zero,false)
theorem MS (name:ByteArray) (t:List Int):en (dZ name t)=name.size+t.length:=by simp [en,dZ,nL,cf]
noncomputable def fe (t:List Int) (k:Nat):List Rep:=(List.range k).map λi:Nat=>(dx ((i:Int)+1) 0 0 t).1
open Classical in
noncomputable def fh (name:ByteArray) (t:List Int) (many:Int):Net×Bool:=if (eJ name t).2=true/\1<=many/\many<=4 then (⟨(eJ name t).1,fe t many.toNat⟩,true) else (Net.zero,false)
theorem yE (t:List Int) (i:Nat):fe t (i+1)=fe t i++[(dx ((i:Int)+1) 0 0 t).1]:=by simp [fe,List.range_succ]
theorem go (t:List Int) (i:Nat):(fe t i).length=i:=by simp [fe]
theorem A8 {name:ByteArray} {t:List Int} {many:Int} (h:¬ ((eJ name t).2=true/\1<=many/\many<=4)):fh name t many=(Net.zero,false):=by unfold fh;rw [if_neg h]
theorem qz {name:ByteArray} {t:List Int} {many:Int} (h:(eJ name t).2=true/\1<=many/\many<=4):fh name t many=(⟨(eJ name t).1,fe t many.toNat⟩,true):=by unfold fh;rw [if_pos h]
theorem aI (d:Doc):au Tryz.prog 137 [.agg d.row] (.one (.c (vi (ab d)) 1)):=by
 refine pci ag Tryz.func137 (λw0 base=>?_);simp [Doc.row,ab]
end Go.Proofs.YthckkpphnmmfdaaGreatDoor
