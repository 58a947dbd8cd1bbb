import Derived.Test.YtdeimojjhhdeaaaGreatDoorPK
import Derived.Test.YtdeimojjhhdeaaaGreatDoorPE
import Derived.Test.YtdeimojjhhdeaaaGreatDoorPF
import Derived.Test.YtdeimojjhhdeaaaGreatDoorPJ
import Derived.Test.YtdeimojjhhdeaaaGreatDoorPI
import Derived.Test.YtdeimojjhhdeaaaGreatDoorPG
import Derived.Test.YtdeimojjhhdeaaaGreatDoorPA
import Derived.Test.YtdeimojjhhdeaaaGreatDoorNA
import Derived.Test.YtdeimojjhhdeaaaGreatDoorPH
import Derived.Test.YtdeimojjhhdeaaaGreatDoorPB
namespace Go.Proofs.YtdeimojjhhdeaaaGreatDoor
open Go.AM
set_option maxRecDepth 20000
theorem gE(l:List Doc)(name:ByteArray):(∃k:Nat,∃h:k<l.length,dG l name=k/\l[k].name=name)\/dG l name = -1:=by
 rcases tV (λd:Doc=>d.name=name) l with⟨k,h,e,hp,-⟩|⟨e,-⟩
 ·exact .inl ⟨k,h,e,hp⟩
 ·exact .inr e
theorem mU(l:List Sub)(id:Int):(∃k:Nat,∃h:k<l.length,iL l id=k/\l[k].id=id)\/iL l id = -1:=by
 rcases tV (λs:Sub=>s.id=id) l with⟨k,h,e,hp,-⟩|⟨e,-⟩
 ·exact .inl ⟨k,h,e,hp⟩
 ·exact .inr e
theorem lH{h:Hub}(c:bI h){k:Nat}(hk:k<h.docs.length):cf h.docs[k]:=(c.2.2.2.1 k hk).1
theorem w7{h:Hub}(c:bI h){k:Nat}(hk:k<h.subs.length):dw h.subs[k].r/\∃j:Nat,∃_:j<h.docs.length,dG h.docs h.subs[k].doc=j:=by
 obtain⟨-,h2,-,j,hj,e,-⟩:=c.2.2.2.2 k hk;exact⟨h2,j,hj,e⟩
theorem mH{h:Hub}{name:ByteArray}{t:List Int}(c:¬(bI h/\cf (ju name t))):eP h name t=(Hub.zero,1):=by unfold eP;rw[ak c]
theorem xS{h:Hub}{name:ByteArray}{t:List Int}(c:bI h/\cf (ju name t))(s:h.shut=true):eP h name t=(Hub.zero,12):=by unfold eP;rw[al c,al s]
theorem xT{h:Hub}{name:ByteArray}{t:List Int}(c:bI h/\cf (ju name t))(s:¬h.shut=true)(i:0<=dG h.docs name):eP h name t=(Hub.zero,7):=by unfold eP;rw[al c,ak s,al i]
theorem xU{h:Hub}{name:ByteArray}{t:List Int}(c:bI h/\cf (ju name t))(s:¬h.shut=true)(i:¬0<=dG h.docs name)(f:h.docs.length=5):eP h name t=(Hub.zero,10):=by unfold eP;rw[al c,ak s,ak i,al f]
theorem Ah{h:Hub}{name:ByteArray}{t:List Int}(c:bI h/\cf (ju name t))(s:¬h.shut=true)(i:¬0<=dG h.docs name)(f:¬h.docs.length=5):eP h name t=(⟨h.shut,yF (ju name t) h.docs,h.subs,h.last⟩,0):=by
 unfold eP;rw[al c,ak s,ak i,ak f]
noncomputable def ir(name:ByteArray):List Doc->Nat
 | []=>0
 |x::l=>open Classical in if sLt x.name name then ir name l+1 else 0
theorem xe(d:Doc):∀l:List Doc,yF d l=l.take (ir d.name l)++d::l.drop (ir d.name l)
 | []=>by simp[yF,ir]
 | x :: l => by
   unfold yF ir
   split
   ·rw[xe d l];simp
   ·simp
theorem vP(name:ByteArray):∀l:List Doc,ir name l<=l.length
 | []=>by simp[ir]
 | x :: l => by
   unfold ir
   split
   ·have:=vP name l;simp;omega
   ·omega
theorem vQ{name:ByteArray}:∀{l:List Doc}{k:Nat},k<=ir name l->∀hk:k<l.length,sLt l[k].name name↔k<ir name l
 | x :: l, 0, _, _ => by
   unfold ir
   split
   ·rename_i h;simpa using h
   ·rename_i h;simpa using h
 | x :: l, k + 1, h, hk => by
   unfold ir at h⊢
   split at h
   ·rename_i hx
    rw[al hx];have:=vQ (name:=name) (l:=l) (k:=k) aa (by simpa using hk);simp only[List.getElem_cons_succ];rw[this];omega
   ·omega
theorem xN{h:Hub}{name:ByteArray}{client seq base:Int}{o:List Part}(c:¬bI h):dh h name client seq base o=(Hub.zero,0,1):=by unfold dh;rw[ak c]
theorem uC{h:Hub}{name:ByteArray}{client seq base:Int}{o:List Part}(c:bI h)(s:h.shut=true):dh h name client seq base o=(Hub.zero,0,12):=by unfold dh;rw[al c,al s]
theorem uD{h:Hub}{name:ByteArray}{client seq base:Int}{o:List Part}(c:bI h)(s:¬h.shut=true)(i:dG h.docs name = -1):dh h name client seq base o=(Hub.zero,0,6):=by
 unfold dh;rw[al c,ak s,i];exact za
theorem xO{h:Hub}{name:ByteArray}{client seq base:Int}{o:List Part}(c:bI h)(s:¬h.shut=true){k:Nat}(hk:k<h.docs.length)(i:dG h.docs name=k) :
 dh h name client seq base o=if(dv h.docs[k] client seq base o).2.2=0 then(jb h name k h.docs[k] (dv h.docs[k] client seq base o).1,(dv h.docs[k] client seq base o).2.1,0)else(Hub.zero,0,(dv h.docs[k] client seq base o).2.2):=by
 unfold dh;rw[al c,ak s,i];simp only[bm];rw[au hk];simp only;rw[al aa]
theorem lI{h:Hub}{name:ByteArray}{room:Int}(c:¬(bI h/\(1<=room/\room<=6))):bL h name room=(Hub.zero,0,1):=by unfold bL;rw[ak c]
theorem qg{h:Hub}{name:ByteArray}{room:Int}(c:bI h/\(1<=room/\room<=6))(s:h.shut=true):bL h name room=(Hub.zero,0,12):=by unfold bL;rw[al c,al s]
theorem qi{h:Hub}{name:ByteArray}{room:Int}(c:bI h/\(1<=room/\room<=6))(s:¬h.shut=true)(i:dG h.docs name = -1):bL h name room=(Hub.zero,0,6):=by
 unfold bL;rw[al c,ak s,i];exact za
theorem su{h:Hub}{name:ByteArray}{room:Int}(c:bI h/\(1<=room/\room<=6))(s:¬h.shut=true){k:Nat}(hk:k<h.docs.length)(i:dG h.docs name=k) :
 bL h name room=if h.subs.length=6\/h.last=1000000000 then(Hub.zero,0,10)else(⟨h.shut,h.docs,h.subs++[⟨h.last+1,name,(iq room (aA h.docs[k])).1⟩],h.last+1⟩,h.last+1,0):=by
 unfold bL;rw[al c,ak s,i];simp only[bm];rw[au hk];simp only;rw[al aa]
theorem oP{h:Hub}{id n:Int}(c:¬(bI h/\1<=n)):eB h id n=(Hub.zero,[],1):=by unfold eB;rw[ak c]
theorem rH{h:Hub}{id n:Int}(c:bI h/\1<=n)(i:iL h.subs id = -1):eB h id n=(Hub.zero,[],8):=by
 unfold eB;rw[al c,i];exact za
theorem rh{h:Hub}{id n:Int}(c:bI h/\1<=n){k:Nat}(hk:k<h.subs.length)(i:iL h.subs id=k) :
 eB h id n=if(dx h.subs[k].r n).2.2=0 then(⟨h.shut,h.docs,h.subs.set k ⟨h.subs[k].id,h.subs[k].doc,(dx h.subs[k].r n).1⟩,h.last⟩,(dx h.subs[k].r n).2.1,0)else(Hub.zero,[],(dx h.subs[k].r n).2.2):=by
 unfold eB;rw[al c,i];simp only[bm];rw[au hk];simp only;rw[al aa]
theorem xQ{h:Hub}{id:Int}(c:¬bI h):cI h id=(Hub.zero,[],0,1):=by unfold cI;rw[ak c]
theorem uE{h:Hub}{id:Int}(c:bI h)(i:iL h.subs id = -1):cI h id=(Hub.zero,[],0,8):=by
 unfold cI;rw[al c,i];exact za
theorem xR{h:Hub}{id:Int}(c:bI h){k:Nat}(hk:k<h.subs.length)(i:iL h.subs id=k){j:Nat}(hj:j<h.docs.length)(e:dG h.docs h.subs[k].doc=j) :
 cI h id=(⟨h.shut,h.docs,h.subs.set k ⟨h.subs[k].id,h.subs[k].doc,(ed h.subs[k].r (aA h.docs[j])).1⟩,h.last⟩,cS h.docs[j],aA h.docs[j],0):=by
 unfold cI;rw[al c,i];simp only[bm];rw[au hk];simp only;rw[al aa,e];simp only[bm];rw[au hj]
theorem Co{h:Hub}(c:¬bI h):fA h=(Hub.zero,1):=by unfold fA;rw[ak c]
theorem xP{h:Hub}(c:bI h)(s:h.shut=true):fA h=(Hub.zero,12):=by unfold fA;rw[al c,al s]
theorem Ag{h:Hub}(c:bI h)(s:¬h.shut=true):fA h=(⟨true,h.docs,h.subs,h.last⟩,0):=by unfold fA;rw[al c,ak s]
theorem Gb{h:Hub}{c:Call}(s:h.shut=true):rf h c=fX 12:=by unfold rf;rw[al s]
theorem Gc{h:Hub}{c:Call}(s:¬h.shut=true)(i:dG h.docs c.doc = -1):rf h c=fX 6:=by
 unfold rf;rw[ak s,i];exact za
theorem NG{h:Hub}{c:Call}(s:¬h.shut=true){k:Nat}(hk:k<h.docs.length)(i:dG h.docs c.doc=k) :
 rf h c=if c.kind=4 then⟨0,aA h.docs[k],cS h.docs[k],[]⟩else⟨(gL h.docs[k] c.n).2,0,[],(gL h.docs[k] c.n).1⟩:=by
 unfold rf;rw[ak s,i];simp only[bm];rw[au hk];simp only;rw[al aa]
theorem wL{l:List Doc}{i:Nat}{a b c d e:CD}:∀row∈(l.map Doc.row).set i [a,b,c,d,e],row.length=5:=by
 exact DY
theorem AY{l:List Sub}{i:Nat}{a b c d e f:CD}:∀row∈(l.map Sub.row).set i [a,b,c,d,e,f],row.length=6:=by
 exact DY
set_option maxHeartbeats 3200000
theorem qo(r:Ring)(hl:eJ r<=2^30):ar Tryz.prog 210 [.agg r.row] (.one (.agg r.res)):=by
 refine pci aq Tryz.func210 (λw0 base=>?_);unfold eJ at hl;simp[Ring.row];intro b1 b2;refine ae.pure (oB r.list hl) ab ?_;simp[Ring.res]
theorem A6(r:Ring)(hl:eJ r<=2^30):ar Tryz.prog 274 [.agg r.row] (.one (.agg r.res)):=by
 refine pci aq Tryz.func274 (λw0 base=>?_);unfold eJ at hl;simp[Ring.row];intro b1 b2;refine drw eok mix [0,1,2,3,4,5,6,7] [8,9,10] (.c 8 8 1 254 (.c 8 9 84 170 (.c 8 10 170 0 (.l 8 0) .s) .s) .s) ?_;simp
 try intros
 refine ae.pure (j5 r.list hl) ab ?_;simp
 try intros
 simp[Ring.res]
theorem aaJ(s:Sub)(hl:eM s<=2^30):ar Tryz.prog 164 [.agg s.row] (.one (.agg s.res)):=by
 refine pci aq Tryz.func164 (λw0 base=>?_);unfold eM at hl;simp[Sub.row];intro b1 b2;refine drw eok mix [0,1,2,3,4,5] [6,7,8] (.c 6 6 1 62 (.c 6 7 20 42 (.c 6 8 42 0 (.l 6 0) .s) .s) .s) ?_;simp
 try intros
 refine ae.pure (A6 s.r aa) eS ?_;simp[Ring.res]
 try intros
 simp[Sub.res]
theorem iI(h:Hub)(hl:eG h<=2^30):ar Tryz.prog 100 [.agg h.row] (.one (.agg h.res)):=by
 refine pci aq Tryz.func100 (λw0 base=>?_);obtain⟨sh,docs,subs,last⟩:=h;unfold eG at hl;simp only at hl;have hle:=bB (f:=cO) (B:=2^30) (l:=docs) aa;have hls:=bB (f:=eM) (B:=2^30) (l:=subs) aa;simp[Hub.row];intro b1 b2 b3
 refine aE eok (λx:Nat×Hd=>x.1<=docs.length) (λx=>⟨47,0,[(16,.v (.int .i64 x.1)),(15,.v (.int .i64 docs.length)),(14,.ro (docs.map Doc.row)),(1,.p 16 b1 0),(2,.p 32 b2 0),(3,.p 48 b3 0)],
  [(48, .vars b3 40 [.v (.bool sh), .sl 5000 x.2 5 0 x.1, .nil, .v (.int .i64 last)]),(32, .vars b2 40 [.v (.bool false), .nil, .nil, .v (.int .i64 0)]),
   (16,.vars b1 40 [.v (.bool sh),.ro (docs.map Doc.row),.ro (subs.map Sub.row),.v (.int .i64 last)]),(5000,.rows x.2 5 ((docs.take x.1).map Doc.row) true)]⟩) (λx=>docs.length-x.1) (0,none) ab ab (λx hi=>Ent.refl ?_)
 obtain⟨i,H⟩:=x;simp only at hi⊢;by_cases hlt:i<docs.length
 ·have hm:=hQ (f:=cO) (B:=2^30) (l:=docs) aa (ao hlt)
  have e1:min i docs.length=i:=aa;simp[hlt,Doc.row];intro b5;refine drw eok mix [0,1,2,6] [3,4,5,7] (.c 4 3 2 13 (.c 4 4 0 13 (.c 4 5 4 9 (.c 4 7 9 0 (.l 4 0) .s) .s) .s) .s) ?_;simp
  try intros
  refine ae.pure (xh docs[i] hm) aS ?_;exact T6
 have hm:i=docs.length:=aa;subst hm;simp
 refine aE eok (λx:Nat×Hd=>x.1<=subs.length) (λx=>⟨47,0,[(31,.v (.int .i64 x.1)),(30,.v (.int .i64 subs.length)),(29,.ro (subs.map Sub.row)),(2,.p 32 b2 0),(3,.p 48 b3 0)],
  [(48, .vars b3 40 [.v (.bool sh), .sl 5000 H 5 0 docs.length, .sl 5001 x.2 6 0 x.1, .v (.int .i64 last)]),(32, .vars b2 40 [.v (.bool false), .nil, .nil, .v (.int .i64 0)]),
   (5000,.rows H 5 (docs.map Doc.row) true),(5001,.rows x.2 6 ((subs.take x.1).map Sub.row) true)]⟩) (λx=>subs.length-x.1) (0,none) ab ab (λx hi=>Ent.refl ?_)
 obtain⟨i,H'⟩:=x;simp only at hi⊢;by_cases hlt:i<subs.length
 ·have hm:=hQ (f:=eM) (B:=2^30) (l:=subs) aa (ao hlt)
  unfold eM at hm;have e1:min i subs.length=i:=aa;simp[hlt,Sub.row];intro b7;refine ae.pure (qo subs[i].r aa) eS ?_;simp[Ring.res];intro H7;simp[e1];intro b8;exact TB
 have hm:i=subs.length:=aa;subst hm;simp[Hub.res]
theorem ja(h:Hub)(hl:eG h<=2^30):ar Tryz.prog 52 [.agg h.row] (.one (.agg h.res)):=by
 refine pci aq Tryz.func52 (λw0 base=>?_);obtain⟨sh,docs,subs,last⟩:=h;unfold eG at hl;simp only at hl;have hle:=bB (f:=cO) (B:=2^30) (l:=docs) aa;have hls:=bB (f:=eM) (B:=2^30) (l:=subs) aa;simp[Hub.row];intro b1 b2 b3
 refine aE eok (λx:Nat×Hd=>x.1<=docs.length) (λx=>⟨44,0,[(16,.v (.int .i64 x.1)),(15,.v (.int .i64 docs.length)),(14,.ro (docs.map Doc.row)),(1,.p 16 b1 0),(2,.p 32 b2 0),(3,.p 48 b3 0)],
  [(48, .vars b3 40 [.v (.bool sh), .sl 5000 x.2 5 0 x.1, .nil, .v (.int .i64 last)]),(32, .vars b2 40 [.v (.bool false), .nil, .nil, .v (.int .i64 0)]),
   (16,.vars b1 40 [.v (.bool sh),.ro (docs.map Doc.row),.ro (subs.map Sub.row),.v (.int .i64 last)]),(5000,.rows x.2 5 ((docs.take x.1).map Doc.row) true)]⟩) (λx=>docs.length-x.1) (0,none) ab ab (λx hi=>Ent.refl ?_)
 obtain⟨i,H⟩:=x;simp only at hi⊢;by_cases hlt:i<docs.length
 ·have hm:=hQ (f:=cO) (B:=2^30) (l:=docs) aa (ao hlt)
  have e1:min i docs.length=i:=aa;simp[hlt,Doc.row];intro b5;refine drw eok mix [0,1,2,6] [3,4,5,7] (.c 4 3 2 13 (.c 4 4 0 13 (.c 4 5 4 9 (.c 4 7 9 0 (.l 4 0) .s) .s) .s) .s) ?_;simp
  try intros
  refine ae.pure (wY docs[i] hm) aS ?_;exact T6
 have hm:i=docs.length:=aa;subst hm;simp
 refine aE eok (λx:Nat×Hd=>x.1<=subs.length) (λx=>⟨44,0,[(31,.v (.int .i64 x.1)),(30,.v (.int .i64 subs.length)),(29,.ro (subs.map Sub.row)),(2,.p 32 b2 0),(3,.p 48 b3 0)],
  [(48, .vars b3 40 [.v (.bool sh), .sl 5000 H 5 0 docs.length, .sl 5001 x.2 6 0 x.1, .v (.int .i64 last)]),(32, .vars b2 40 [.v (.bool false), .nil, .nil, .v (.int .i64 0)]),
   (5000,.rows H 5 (docs.map Doc.row) true),(5001,.rows x.2 6 ((subs.take x.1).map Sub.row) true)]⟩) (λx=>subs.length-x.1) (0,none) ab ab (λx hi=>Ent.refl ?_)
 obtain⟨i,H'⟩:=x;simp only at hi⊢;by_cases hlt:i<subs.length
 ·have hm:=hQ (f:=eM) (B:=2^30) (l:=subs) aa (ao hlt)
  have e1:min i subs.length=i:=aa;simp[hlt,Sub.row];intro b7;refine drw eok mix [0,1,2,6] [3,4,5,7] (.c 4 3 2 13 (.c 4 4 0 13 (.c 4 5 4 9 (.c 4 7 9 0 (.l 4 0) .s) .s) .s) .s) ?_;simp
  try intros
  refine ae.pure (aaJ subs[i] hm) (by simp[Sub.row]) ?_;simp[Sub.res]
  try intros
  simp[e1];exact TB
 have hm:i=subs.length:=aa;subst hm;simp[Hub.res]
theorem Bn{l:List Entry}{k:Nat}(_h:k<=l.length):cut (l.map Entry.row) 0 k=(l.take k).map Entry.row:=by
 rw[gu,fq,eO]
theorem abs{l:List Entry}{row:List CD}(h:row∈l.map Entry.row):row.length=3:=by
 exact Ki
theorem xz(room rev:Int)(hr : -4611686018427387904<=rev/\rev<=4611686018427387904):ar Tryz.prog 183 [.c (vi room),.c (vi rev)] (.tup [.agg (iq room rev).1.res,.c (.v (.bool (iq room rev).2)) 1]):=by
 refine pci aq Tryz.func183 (λw0 base=>?_);simp;intro b4;by_cases c1:1000000000<rev
 ·have h:¬dw (fS room rev):=λh=>by have:=h.2.2.1;simp[fS]at this;omega
  simp[c1,Cl h,Ring.res,Ring.zero]
 have ew:Go.IntKind.i64.wrap (rev+1)=rev+1:=ah _ aa;simp[c1,ew];intro b6;refine ae.pure (mW (fS room rev) (by rw[va];omega)) (by simp[fS,Ring.row]) ?_;exact Uq
theorem EL(r:Ring)(hl:eJ r<=2^30)(e:Entry)(he:ba e<=2^30):ar Tryz.prog 181 [.agg r.row,.agg e.row] (.one (.agg (fw r e).res)):=by
 refine pci aq Tryz.func181 (λw0 base=>?_);have hno:=@Ab r e;have hfull:=@vH r e;have hroom:=@vG r e;have hle:=bB (f:=ba) (B:=2^30) (l:=r.list) yV;simp[Ring.row,Entry.row];intro b2 b3 b4;refine ae.pure (A6 r hl) eS ?_;simp[Ring.res];intro H b5;refine ae.pure (mW r aa) eS ?_;by_cases c1:dw r
 rotate_left
 ·exact DF
 simp[c1];refine ae.pure (oq e aa) ix ?_;by_cases c2:dr e
 rotate_left
 ·simp[aH c2,hno (λh=>c2 h.2.1)]
 simp[c2]
 cases c3:r.out with
 |true=>simp[hno (λh=>by rw[c3]at h;exact absurd h.2.2 ab),c3]
 |false=>
 simp;by_cases c4:(r.list.length:Int)=r.cap
 ·have e1:=hfull ⟨c1,c2,c3⟩ c4
  simp[c4,e1]
 have e1:=hroom ⟨c1,c2,c3⟩ c4;simp[c4];refine drw eok mix [0,1,2,6] [3,4,5,7] (.c 4 3 2 13 (.c 4 4 0 13 (.c 4 5 4 9 (.c 4 7 9 0 (.l 4 0) .s) .s) .s) .s) ?_;simp
 try intros
 refine ae.pure (FD e he) ix ?_;simp[Entry.res];exact SH
theorem EM(r:Ring)(hl:eJ r<=2^30)(n:Int):ar Tryz.prog 185 [.agg r.row,.c (vi n)] (.tup [.agg (dx r n).1.res,.c (.s ((dx r n).2.1.map Entry.row)) 3,.c (vi (dx r n).2.2) 1]):=by
 refine pci aq Tryz.func185 (λw0 base=>?_);have hno:=@Ac r n;have hout:=@rG r n;have hyes:=@oz r n;have hnl:nL ba r.list<=2^30:=yV;have hle:=bB hnl;simp[Ring.row];intro b2 b4;refine ae.pure (A6 r hl) eS ?_;simp[Ring.res];intro H b7;refine ae.pure (mW r aa) eS ?_;by_cases c1:dw r
 rotate_left
 ·exact DF
 simp[c1];by_cases c2:1<=n
 rotate_left
 ·have c2':n<1:=by omega
  simp[c2',hno (λh=>c2 h.2)]
 have c2':¬n<1:=aa;simp[c2'];have hnx:=c1.2.2.1
 cases c3:r.out with
 |true=>simp[hout ⟨c1,c2⟩ c3,c3]
 |false=>
 simp
 have hdrop:∀k,nL ba (r.list.drop k)<=2^30:=λk=>by
  have h:=kz (f:=ba) (r.list.take k) (r.list.drop k);rw[iw]at h;omega
 by_cases c4:(r.list.length:Int)<n
 ·have e1:=hyes ⟨c1,c2⟩ c3 (k:=r.list.length) aa
  have ew:Go.IntKind.i64.wrap (r.next+(r.list.length:Int))=r.next+r.list.length:=ah _ aa;have cd:=nZ (l:=r.list) (k:=r.list.length) (aC _);have ct:=Bn (l:=r.list) (k:=r.list.length) (aC _);rw[bE (aC _)]at cd e1;simp at cd;simp[c4];refine ae.pure (j5 [] (by simp[nL,dW])) (by simp[cd]) ?_;simp[ew];intro H2;refine drw eok mix [0,1,2,3,4,8] [5,6,7] (.c 6 5 2 61 (.c 6 6 32 29 (.c 6 7 28 1 (.l 6 1) .s) .s) .s) ?_;simp
  try intros
  refine ae.pure (j5 r.list hnl) ab ?_;simp
  try intros
  rw[e1];simp[c3]
 obtain⟨k,rfl⟩:∃k:Nat,n=k:=⟨n.toNat,aa⟩;have hk:k<=r.list.length:=aa;have e1:=hyes ⟨c1,c2⟩ c3 (k:=k) aI;have ew:Go.IntKind.i64.wrap (r.next+(k:Int))=r.next+k:=ah _ aa;have cd:=nZ hk;have ct:=Bn hk;simp[c4,hk];refine ae.pure (j5 (r.list.drop k) (hdrop k)) (by simp[cd]) ?_;simp[ew];intro H2;refine drw eok mix [0,1,2,3,4,8] [5,6,7] (.c 6 5 2 61 (.c 6 6 32 29 (.c 6 7 28 1 (.l 6 1) .s) .s) .s) ?_;simp[hk]
 try intros
 refine ae.pure (j5 (r.list.take k) (wQ hnl)) (by simp[ct]) ?_;simp[hk]
 try intros
 rw[e1];simp[c3];exact⟨λrow h=>abs (bD h),λrow h=>abs (bN h)⟩
theorem AQ(r:Ring)(hl:eJ r<=2^30)(rev:Int)(hr : -4611686018427387904<=rev/\rev<=4611686018427387904):ar Tryz.prog 186 [.agg r.row,.c (vi rev)] (.tup [.agg (ed r rev).1.res,.c (.v (.bool (ed r rev).2)) 1]):=by
 refine pci aq Tryz.func186 (λw0 base=>?_);have hno:=@vF r rev;have hyes:=@uB r rev;simp[Ring.row];intro b2 b4;refine ae.pure (mW r aa) eS ?_;by_cases c1:dw r
 rotate_left
 ·simp[aH c1,hno c1,Ring.res,Ring.zero]
 simp[c1];have hc:=xz r.cap rev hr;exact Tj
set_option maxHeartbeats 6400000
theorem jP{h:Hub}{B:Nat}(hl:eG h<=B):nL cO h.docs<=B/\nL eM h.subs<=B:=by unfold eG at hl;omega
theorem wU{l:List Sub}{k:Nat}(hk:k<l.length)(r:Ring):(l.map Sub.row).modify k (λrow=>jX row 2 [.v (.int .i64 r.cap),.v (.int .i64 r.next),.v (.bool r.out),.s (r.list.map Entry.row)])=(l.set k ⟨l[k].id,l[k].doc,r⟩).map Sub.row:=by
 rw[Oq];refine rV ab (λj h1 h2=>?_);rw[List.getElem_modify,AE]
 split
 ·rename_i e
  subst e;simp[Sub.row]
 ·simp
theorem zs(h:Hub)(hl:eG h<=2^40)(id:Int):ar Tryz.prog 184 [.agg h.row,.c (vi id)] (.one (.c (vi (iL h.subs id)) 1)):=by
 refine pci aq Tryz.func184 (λw0 base=>?_);obtain⟨sh,docs,l,last⟩:=h;have hle:=bB (jP hl).2;simp only at hle;simp[Hub.row];intro b2;refine aU.intro eok (λi:Nat=>i<=l.length/\∀j,j<i->∀hj:j<l.length,¬l[j].id=id) (λi=>⟨21,0,[(10,.v (.int .i64 i)),(9,.v (.int .i64 l.length)),(8,.ro (l.map Sub.row)),(1,.v (.int .i64 id))],[]⟩) (λi=>l.length-i) 0 ab ab (λi hi=>?_);by_cases hlt:i<l.length
 ·simp[hlt,Sub.row]
  exact QK
 ·exact Rw
theorem Hf(h:Hub)(hl:eG h<=2^30):ar Tryz.prog 71 [.agg h.row] (.tup [.agg (fA h).1.res,.c (vi (fA h).2) 1]):=by
 refine pci aq Tryz.func71 (λw0 base=>?_);simp[Hub.row];intro b1 b2;refine ae.pure (jg h hl) bV ?_;by_cases c1:bI h
 rotate_left
 ·simp[aH c1,Co c1,Hub.res,Hub.zero]
 simp[c1]
 cases c2:h.shut with
 |true=>simp[xP c1 c2,Hub.res,Hub.zero]
 |false=>
 have e:=Ag c1 wh;simp;refine ae.pure (ja h hl) qI ?_;simp[Hub.res,e]
theorem yn(h:Hub)(hl:eG h<=2^28)(name:ByteArray)(room:Int):ar Tryz.prog 68 [.agg h.row,.c (.v (.string name)),.c (vi room)]
 (.tup [.agg (bL h name room).1.res,.c (vi (bL h name room).2.1) 1,.c (vi (bL h name room).2.2) 1]):=by
 refine pci aq Tryz.func68 (λw0 base=>?_);have hls:=bB (jP hl).2;simp[Hub.row];intro b3 b6;refine ae.pure (jU h aa name) bV ?_;simp;refine ae.pure (jg h aa) bV ?_;by_cases c1:bI h
 rotate_left
 ·simp[aH c1,lI (λh=>c1 h.1),Hub.res,Hub.zero]
 simp[c1];refine ae.pure (dH room 1 6) ab ?_;by_cases c2:1<=room/\room<=6
 rotate_left
 ·simp[aH c2,lI (λh=>c2 h.2),Hub.res,Hub.zero]
 simp[c2]
 cases c3:h.shut with
 |true=>simp[qg ⟨c1,c2⟩ c3,Hub.res,Hub.zero]
 |false=>
 simp;rcases gE h.docs name with⟨k,hk,e,-⟩|e;rotate_left
 ·simp[e,qi ⟨c1,c2⟩ qG e,Hub.res,Hub.zero]
 have hk0:¬(k:Int)<0:=aa;have hat:=su ⟨c1,c2⟩ qG hk e;simp[e,hk0];have hlast:=c1.2.2.1;by_cases c4:h.subs.length=6
 ·have c4':(h.subs.length:Int)=6:=by omega
  rw[al (.inl c4)]at hat;simp[c4',hat,Hub.res,Hub.zero]
 have c4':¬(h.subs.length:Int)=6:=aa;simp[c4'];by_cases c5:h.last=1000000000
 ·rw[al (.inr c5)]at hat
  simp[c5,hat,Hub.res,Hub.zero]
 rw[ak (λh=>h.elim c4 c5)]at hat;have ew:Go.IntKind.i64.wrap (h.last+1)=h.last+1:=ah _ aa;have hh:=dD (lH c1 hk);obtain⟨d,hd⟩:∃d,h.docs[k]=d:=⟨_,rfl⟩;rw[hd]at hat hh;simp[c5,hk,hd,Doc.row];refine ae.pure (cX d) aS ?_;simp;have hc:=xz room (aA d) aa;generalize iq room (aA d)=R at hc hat;obtain⟨⟨cp,nx,ot,ls⟩,ok⟩:=R;refine ae.pure hc ab ?_;simp[Ring.res];intro H10 b10;refine ae.pure (ja h aa) (by simp[Hub.row,c3]) ?_;simp[Hub.res,ew,c3];intro H1 H2 b12 b13;refine⟨aa,λH=>?_⟩;refine drw eok mix [0,1,2,4,5] [3] (.c 5 3 16 15 (.l 5 15) .s) ?_;simp
 try intros
 rw[hat];simp[c3,Sub.row]
 try (rintro row (⟨a,-,rfl⟩|rfl)<;>rfl)
theorem Hg(h:Hub)(hl:eG h<=2^28)(id n:Int):ar Tryz.prog 69 [.agg h.row,.c (vi id),.c (vi n)]
 (.tup [.agg (eB h id n).1.res,.c (.s ((eB h id n).2.1.map Entry.row)) 3,.c (vi (eB h id n).2.2) 1]):=by
 refine pci aq Tryz.func69 (λw0 base=>?_);have hls:=bB (jP hl).2;simp[Hub.row];intro b3 b6;refine ae.pure (zs h aa id) bV ?_;simp;refine ae.pure (jg h aa) bV ?_;by_cases c1:bI h
 rotate_left
 ·simp[aH c1,oP (λh=>c1 h.1),Hub.res,Hub.zero]
 simp[c1];by_cases c2:1<=n
 rotate_left
 ·have c2':n<1:=by omega
  simp[c2',oP (λh=>c2 h.2),Hub.res,Hub.zero]
 have c2':¬n<1:=aa;simp[c2'];rcases mU h.subs id with⟨k,hk,e,-⟩|e;rotate_left
 ·simp[e,rH ⟨c1,c2⟩ e,Hub.res,Hub.zero]
 have hk0:¬(k:Int)<0:=aa;have hat:=rh ⟨c1,c2⟩ hk e;have hm:=eA (f:=eM) (jP hl).2 hk;unfold eM at hm;have hmod:=wU hk;obtain⟨s,hs⟩:∃s,h.subs[k]=s:=⟨_,rfl⟩;rw[hs]at hat hm hmod;have hc:=EM s.r aa n;generalize dx s.r n=R at hc hat;obtain⟨r,list,code⟩:=R;simp only at hat hc;simp[e,hk0,hk,hs,Sub.row];refine ae.pure hc eS ?_;simp[Ring.res];intro H10 H11 b10;by_cases c3:code=0
 rotate_left
 ·rw[ak c3]at hat
  simp[c3,hat,Hub.res,Hub.zero]
 rw[al c3]at hat;simp[c3];refine ae.pure (ja h aa) bV ?_;simp[Hub.res,hk]
 try intros
 rw[hat];simp[hmod r];exact AY
theorem CS(h:Hub)(hl:eG h<=2^28)(id:Int):ar Tryz.prog 70 [.agg h.row,.c (vi id)]
 (.tup [.agg (cI h id).1.res,.c (.s ((cI h id).2.1.map aN)) 1,.c (vi (cI h id).2.2.1) 1,.c (vi (cI h id).2.2.2) 1]):=by
 refine pci aq Tryz.func70 (λw0 base=>?_);have hls:=bB (jP hl).2;simp[Hub.row];intro b2 b4;refine ae.pure (zs h aa id) bV ?_;simp;refine ae.pure (jg h aa) bV ?_;by_cases c1:bI h
 rotate_left
 ·simp[aH c1,xQ c1,Hub.res,Hub.zero]
 simp[c1];rcases mU h.subs id with⟨k,hk,e,-⟩|e;rotate_left
 ·simp[e,uE c1 e,Hub.res,Hub.zero]
 have hk0:¬(k:Int)<0:=aa;obtain⟨hro,j,hj,ej⟩:=w7 c1 hk;have hat:=xR c1 hk e hj ej;have hm:=eA (f:=eM) (jP hl).2 hk;have hdn:=eA (f:=cO) (jP hl).1 hj;have hh:=dD (lH c1 hj);unfold eM at hm;have hmod:=wU hk;obtain⟨s,hs⟩:∃s,h.subs[k]=s:=⟨_,rfl⟩;obtain⟨d,hd⟩:∃d,h.docs[j]=d:=⟨_,rfl⟩;rw[hs]at hat hm hmod ej;rw[hd]at hat hdn hh;have hc:=AQ s.r aa (aA d) aa;generalize ed s.r (aA d)=R at hc hat;obtain⟨r,ok⟩:=R;simp only at hat hc;simp[e,hk0];refine jx (λx:Nat=>[(9,.p 144 x 0)]) (λx=>[(144,.vars x 44 [.v (.string d.name),.v (.int .i64 d.fr),.ro (d.text.map aN),.ro (d.list.map Entry.row),.ro (d.seen.map Seen.row)])]) [1,2,4,5,6,7,8] ?_ ?_
 ·refine drw eok mix [0,1,2,3,4,5,6,7,8] [9,10,11,12,13] (.c 9 9 65 446 (.c 9 10 128 318 (.c 9 11 0 318 (.c 9 12 0 318 (.c 9 13 318 0 (.l 9 0) .s) .s) (.c 9 12 0 318 (.c 9 11 0 318 (.c 9 13 318 0 (.l 9 0) .s) .s) .s)) (.c 9 12 0 446 (.c 9 10 128 318 (.c 9 11 0 318 (.c 9 13 318 0 (.l 9 0) .s) .s) .s) .s)) (.c 9 12 0 511 (.c 9 9 65 446 (.c 9 10 128 318 (.c 9 11 0 318 (.c 9 13 318 0 (.l 9 0) .s) .s) .s) .s) .s)) ?_
  simp[hk,hs,Sub.row]
  try intros
  repeat' first
   |(refine ae.pure (jU h aa s.doc) bV ?_;simp[hj,hd,Doc.row,ej];try intros)
   |(rw[Trc];refine⟨?_,?_⟩<;>(try simp[hk,hs,hj,hd,Sub.row,Doc.row])<;>try intros)
 rintro b9
 simp;refine ae.pure (ja h aa) bV ?_;simp[Hub.res];intro H1 H2 b10;refine drw eok mix [0,1,2,3,4,5,6,7,8,9,15,16] [10,11,12,13,14,17] (.c 12 10 4 4091 (.c 12 11 8 4083 (.c 12 12 0 4083 (.c 12 13 0 4083 (.c 12 14 0 4083 (.c 12 17 4081 2 (.l 12 2) .s) .s) .s) .s) .s) .s) ?_;simp[hk,hs,Sub.row]
 try intros
 refine ae.pure (cX d) aS ?_;simp
 try intros
 refine ae.pure (hc) eS ?_;simp[Ring.res,hk]
 try intros
 refine drw eok mix [0,1,3,8] [2,4,5,6,7] (.c 4 2 4 11 (.c 4 4 2 9 (.c 4 5 8 1 (.c 4 6 0 1 (.c 4 7 0 1 (.l 4 1) .s) .s) .s) .s) .s) ?_;simp
 try intros
 refine ae.pure (kS d aa) aS ?_;simp
 try intros
 refine ae.pure (cX d) aS ?_;simp
 try intros
 rw[hat];simp[hmod r];exact AY
theorem OD(h:Hub)(hl:eG h<=2^28)(_c1:bI h)(c:Call):ar Tryz.prog 67 [.agg h.row,.agg c.row] (.one (.agg (rf h c).res)):=by
 refine pci aq Tryz.func67 (λw0 base=>?_);simp[Hub.row,Call.row];intro b2 b3 b4;refine ae.pure (jU h aa c.doc) bV ?_;simp
 cases c3:h.shut with
 |true=>simp[Gb c3,Answer.res,fX]
 |false=>
 simp;rcases gE h.docs c.doc with⟨k,hk,e,-⟩|e;rotate_left
 ·simp[e,Gc qG e,Answer.res,fX]
 have hk0:¬(k:Int)<0:=aa;have hat:=NG (c:=c) qG hk e;have hdn:=eA (f:=cO) (jP hl).1 hk;obtain⟨d,hd⟩:∃d,h.docs[k]=d:=⟨_,rfl⟩;rw[hd]at hat hdn;simp[e,hk0];by_cases c4:c.kind=4
 ·rw[al c4]at hat
  simp[c4];refine drw eok mix [0,1,2,3,4,6,7,8,9,10] [5,11,12,13] (.c 10 5 32 991 (.c 10 11 1 990 (.c 10 12 0 990 (.c 10 13 990 0 (.l 10 0) .s) .s) .s) .s) ?_;simp[hk,hd,Doc.row]
  try intros
  refine ae.pure (kS d aa) qF ?_;simp
  try intros
  refine ae.pure (cX d) qF ?_;simp
  try intros
  rw[hat];simp[Answer.res]
 rw[ak c4]at hat;have hf:=BR d aa c.n;exact UL
theorem Am{d:Doc}(h:cf d)(e:Entry):aA (dS d e)=aA d+1/\(dS d e).list.getLast? = some e:=by
 obtain⟨h1,h2,h3,h4⟩:=dD h;unfold dS
 split
 ·refine⟨?_,ab⟩
  unfold aA;simp only[dU,bH,jd];rw[ah _ aa,ah _ aa];omega
 ·refine⟨?_,?_⟩
  ·unfold aA
   simp only[dU,bH,jd,gl];rw[ah _ aa,ah _ aa];omega
  ·have hl:d.list.length=8:=by omega
   rw[List.getLast?_drop];rw[ak (by rw[dU,Ei];omega)];simp
theorem ID{α:Type}{R:α->α->Prop}(tr:∀a b c,R a b->R b c->R a c):∀{l:List α},(∀i,∀h:i<l.length,∀h0:0<i,R (l[i-1]' aa) l[i])->l.Pairwise R
 | [],_=>.nil
 | [a],_=>ab
 | a :: b :: l, h => by
   have ih:=ID tr (l:=b::l) (λi hi h0=>by
    have:=h (i+1) (by simp at hi⊢;omega) aa;obtain⟨j,rfl⟩:∃j,i=j+1:=⟨i-1,aa⟩
    simpa using this)
   have hab:R a b:=by have:=h 1 ab aa;simpa using this
   refine iG.2 ⟨λc hc=>?_,ih⟩;rcases aR.1 hc with rfl|hc
   ·exact hab
   ·exact tr _ _ _ hab ((iG.1 ih).1 c hc)
theorem Yi{α:Type}{R:α->α->Prop}{l:List α}(h:l.Pairwise R):∀i,∀h:i<l.length,∀h0:0<i,R (l[i-1]' aa) l[i]:=
 λi hi h0=>(aeG.1 h) (i-1) i aa hi aa
def ajP(R:Int)(s:Seen):Prop:=(1<=s.client/\s.client<=8)/\(1<=s.seq/\s.seq<=1000000000)/\(1<=s.rev/\s.rev<=R)
theorem BU{d:Doc}:zy d↔(∀s∈d.seen,ajP (aA d) s)/\d.seen.Pairwise λa b=>a.client<b.client:=by
 constructor
 ·intro h
  refine⟨λs hs=>?_,ID (R:=λa b:Seen=>a.client<b.client) (λ_ _ _=>Int.lt_trans) λi hi h0=>(h i hi).2.2.2 h0⟩;obtain⟨i,hi,rfl⟩:=fF hs;obtain⟨h1,h2,h3,-⟩:=h i hi;exact⟨h1,h2,h3⟩
 ·rintro⟨h1,h2⟩ i hi
  obtain⟨a,b,c⟩:=h1 _ (ao hi);exact⟨a,b,c,λh0=>Yi h2 i hi h0⟩
theorem uZ{c s r:Int}:∀{l:List Seen}{x:Seen},x∈dZ c s r l->x=⟨c,s,r⟩\/x∈l
 | [],x,h=>by simp[dZ]at h;exact .inl h
 | y :: l, x, h => by
   unfold dZ at h
   split at h
   ·rcases aR.1 h with h|h
    ·exact .inr (by simp[h])
    ·rcases uZ h with h|h
     ·exact .inl h
     ·exact .inr (aG _ h)
   ·split at h
    ·rcases aR.1 h with h|h
     ·exact .inl h
     ·exact .inr (aG _ h)
    ·rcases aR.1 h with h|h
     ·exact .inl h
     ·exact .inr h
theorem E5{c s r:Int}:∀{l:List Seen},(l.Pairwise λa b=>a.client<b.client)->(dZ c s r l).Pairwise λa b=>a.client<b.client
 | [],_=>by simp[dZ]
 | y :: l, h => by
   obtain⟨h1,h2⟩:=iG.1 h;unfold dZ
   split
   ·rename_i hc
    refine iG.2 ⟨λx hx=>?_,E5 h2⟩;rcases uZ hx with rfl|hx
    ·exact hc
    ·exact h1 x hx
   ·split
    ·rename_i hc
     exact iG.2 ⟨λx hx=>by have:=h1 x hx;simp only;omega,h2⟩
    ·refine iG.2 ⟨λx hx=>?_,h⟩
     rcases aR.1 hx with rfl|hx
     ·exact mS
     ·have:=h1 x hx;simp only;omega
theorem PT{d:Doc}(h:cf d){e:Entry}(he:dr e)(hf:iE e.o (cS d))(hr:aA d<999999000):cf (dS d e):=by
 have hh:=dD h;have hp:=(Am h e).1;obtain⟨t1,t2⟩:=xK h;obtain⟨g1,g2,g3,g4,g5,g6,g7⟩:=h
 have hap:(bj ((d.list++[e]).map Entry.o) d.text).isSome=true:=by
  rw[eY,lN,t1];simp only[Option.bind_some,bK,jz,bj];rw[al (mK.2 hf)];rfl
 have hse:zy (dS d e):=by
  rw[BU,hp];obtain⟨s1,s2⟩:=BU.1 g7;have e1:(dS d e).seen=dZ e.client e.seq (aA d+1) d.seen:=by unfold dS;split<;>rfl
  rw[e1];refine⟨λx hx=>?_,E5 s2⟩;rcases uZ hx with rfl|hx
  ·exact⟨he.1,he.2.1,kG⟩
  ·obtain⟨a,b,c⟩:=s1 x hx
   exact⟨a,b,aa⟩
 have hen:∀x∈d.list++[e],dr x:=λx hx=>by
  rcases aO.1 hx with hx|hx
  ·exact g5 x hx
  ·simp at hx;subst hx;exact he
 unfold dS at hse⊢
 split
 ·rename_i hl
  rw[al hl]at hse;exact⟨g1,g2,g3,aI,hen,hap,hse⟩
 ·rename_i hl
  rw[ak hl]at hse
  obtain⟨x,l',hx⟩:∃x l',d.list++[e]=x::l':=by
   cases hd:d.list++[e]with
   |nil=>simp at hd
   |cons x l'=>exact⟨x,l',rfl⟩
  have hlen:l'.length=d.list.length:=by have:=aK List.length hx;simp at this;omega
  simp only[hx]at hse hap hen⊢;simp only[List.getElem_cons_zero,List.drop_one,List.tail_cons]at hse⊢;rw[bK,bj]at hap
  split at hap
  ·rename_i ha
   exact⟨g1,kG,(pP (mK.1 ha)).1,kG,λy hy=>hen y (aG _ hy),hap,hse⟩
  ·simp at hap
theorem LC(d:Doc)(e:Entry):(dS d e).name=d.name:=by unfold dS;split<;>rfl
theorem HQ{d:Doc}{client seq base:Int}{o:List Part}(h:cf d)(hc:(dv d client seq base o).2.2=0) :
 cf (dv d client seq base o).1/\(dv d client seq base o).1.name=d.name/\((dv d client seq base o).1=d\/
  ∃e,dr e/\e.client=client/\e.seq=seq/\(dv d client seq base o).1=dS d e/\iE e.o (cS d)/\aA d<999999000):=by
 unfold dv at hc⊢
 split at hc
 ·rename_i hs
  rw[al hs]
  split at hc
  ·rename_i h1
   rw[al h1];exact⟨h,rfl,.inl rfl⟩
  ·rename_i h1
   rw[ak h1]
   split at hc
   ·rename_i h2
    rw[al h2]
    split at hc
    ·rename_i h3
     rw[al h3]
     split at hc
     ·simp at hc
     ·rename_i h4
      rw[ak h4]
      have key:cr (gd d base o).1/\iE (gd d base o).1 (cS d):=by
       unfold gd at h3⊢
       split at h3
       ·rename_i c1
        rw[al c1]
        split at h3
        ·simp at h3
        ·rename_i c2
         rw[ak c2]
         split at h3
         ·simp at h3
         ·rename_i c3
          rw[ak c3]
          split at h3
          ·rename_i c4
           rw[al c4]
           split at h3
           ·rename_i c5
            rw[al c5];exact⟨PK c5,Af c1.1 c1.2 aa aa c4 c5⟩
           ·simp at h3
          ·simp at h3
       ·simp at h3
      have he:dr ⟨client,seq,(gd d base o).1⟩:=⟨hs.2.1,hs.2.2.1,key.1⟩;exact⟨PT h he key.2 aa,LC _ _,.inr ⟨_,he,rfl,rfl,rfl,key.2,aa⟩⟩
    ·rename_i h3;exact absurd hc h3
   ·simp at hc
 ·simp at hc
theorem F0{d:Doc}{client seq base:Int}{o:List Part}(h:cf d)(hc:(dv d client seq base o).2.2=0) :
 (dv d client seq base o).1=d\/∃e,aA (dv d client seq base o).1=aA d+1/\(dv d client seq base o).1.list.getLast? = some e:=by
 obtain⟨-,-,h1|⟨e,-,-,-,h2,-⟩⟩:=HQ h hc
 ·exact .inl h1
 ·rw[h2];exact .inr ⟨e,Am h e⟩
theorem Xi{l:List Doc}{row:List CD}(h:row∈l.map Doc.row):row.length=5:=by
 exact Ki
theorem X0{l:List Doc}{k:Nat}:cut (l.map Doc.row) 0 k=(l.take k).map Doc.row:=by rw[gu,fq,eO]
theorem X3{l:List Doc}{k:Nat}:cut (l.map Doc.row) k (l.length-k)=(l.drop k).map Doc.row:=by
 rw[gu,sH,aD ab]
noncomputable def kN(name:ByteArray)(e:Entry)(l:List Sub)(i:Nat):List Sub:=(l.take i).map (je name e)++l.drop i
theorem BF(name:ByteArray)(e:Entry)(l:List Sub):kN name e l 0=l:=by simp[kN]
theorem Et(name:ByteArray)(e:Entry)(l:List Sub):kN name e l l.length=l.map (je name e):=by simp[kN]
theorem yg(name:ByteArray)(e:Entry)(l:List Sub)(i:Nat):(kN name e l i).length=l.length:=by simp[kN];omega
theorem AJ{name:ByteArray}{e:Entry}{l:List Sub}{i:Nat}(h:i<l.length):(kN name e l i)[i]'(by rw[yg];exact h)=l[i]:=by
 unfold kN;rw[aeI aI];simp[oZ (aiO h)]
theorem yf{name:ByteArray}{e:Entry}{l:List Sub}{i:Nat}(h:i<l.length):(kN name e l i).set i (je name e l[i])=kN name e l (i+1):=by
 unfold kN;rw[mN _ _ aI,bk h];simp only[eZ,gk,oZ (aiO h),qv,pe];rw[<-bY h,eY];simp
theorem BG{name:ByteArray}{e:Entry}{l:List Sub}{i:Nat}(h:i<l.length)(hn:¬l[i].doc=name):kN name e l i=kN name e l (i+1):=by
 rw[<-yf h];have:je name e l[i]=l[i]:=by unfold je;rw[ak hn]
 rw[this];refine rV ab (λj h1 h2=>?_);rw[AE]
 split
 ·rename_i ej;subst ej;exact AJ h
 ·rfl
theorem Hi(h:Hub)(hl:eG h<=2^28)(name:ByteArray)(hs:name.size<=2^28)(t:List Int)(ht:t.length<=2^28):ar Tryz.prog 65 [.agg h.row,.c (.v (.string name)),.c (.s (t.map aN))]
 (.tup [.agg (eP h name t).1.res,.c (vi (eP h name t).2) 1]):=by
 refine pci aq Tryz.func65 (λw0 base=>?_);have hld:=bB (jP hl).1;have hdn:=zt name t hs ht;unfold gY at hdn;simp[Hub.row];intro b3 b6;by_cases c0:cf (ju name t)
 rotate_left
 ·rw[ak c0]at hdn
  refine ae.pure hdn ab ?_;simp[Doc.res,Doc.zero];intros;refine ae.pure (jg h aa) bV ?_;by_cases c1:bI h
  ·simp[c1,mH (λh=>c0 h.2),Hub.res,Hub.zero]
  ·simp[aH c1,mH (λh=>c0 h.2),Hub.res,Hub.zero]
 rw[al c0]at hdn;refine ae.pure hdn ab ?_;simp[Doc.res,ju];intro H1 H2 H3 b8;refine ae.pure (jg h aa) bV ?_;by_cases c1:bI h
 rotate_left
 ·simp[aH c1,mH (λh=>c1 h.1),Hub.res,Hub.zero]
 simp[c1]
 cases c2:h.shut with
 |true=>simp[xS ⟨c1,c0⟩ c2,Hub.res,Hub.zero]
 |false=>
 have c2':¬h.shut=true:=wh;simp;refine ae.pure (jU h aa name) qI ?_;simp;by_cases c3:0<=dG h.docs name
 ·simp[c3,xT ⟨c1,c0⟩ c2' c3,Hub.res,Hub.zero]
 simp[c3];by_cases c4:h.docs.length=5
 ·have c4':(h.docs.length:Int)=5:=by omega
  simp[c4',xU ⟨c1,c0⟩ c2' c3 c4,Hub.res,Hub.zero]
 have c4':¬(h.docs.length:Int)=5:=aa;have hat:=Ah ⟨c1,c0⟩ c2' c3 c4;rw[xe]at hat;have hal:=vP (ju name t).name h.docs;have hon:=λ{k:Nat} h1 h2=>vQ (name:=(ju name t).name) (l:=h.docs) (k:=k) h1 h2
 rw[show(ju name t).name=name from rfl]at hat hal hon;generalize ir name h.docs=a at hat hal hon;simp[c4'];refine ae.pure (ja h aa) qI ?_;simp[Hub.res,c2];intro K1 K2 b10
 refine aE eok (λk:Nat=>k<=a) (λk=>⟨81,0,[(11,.v (.int .i64 k)),(1,.v (.string name)),(6,.p 96 b6 0),(8,.p 128 b8 0),(10,.p 160 b10 0)],
  [(160, .vars b10 40 [.v (.bool false), .sl 721 K1 5 0 h.docs.length, .sl 722 K2 6 0 h.subs.length, .v (.int .i64 h.last)]),(96, .vars b6 40 [.v (.bool false), .nil, .nil, .v (.int .i64 0)]),
   (128,.vars b8 44 [.v (.string name),.v (.int .i64 0),.sl 258 H1 1 0 t.length,.sl 259 H2 3 0 0,.sl 260 H3 3 0 0]),
   (258,.rows H1 1 (t.map aN) true),(259,.rows H2 3 [] true),(260,.rows H3 3 [] true),
   (721,.rows K1 5 (h.docs.map Doc.row) true),(722,.rows K2 6 (h.subs.map Sub.row) true)]⟩) (λk=>h.docs.length-k) 0 ab ab (λk hk=>Ent.refl ?_)
 by_cases hlt:k<h.docs.length
 ·obtain⟨x,hx⟩:∃x,h.docs[k]=x:=⟨_,rfl⟩
  have hiff:=hon hk hlt;rw[hx]at hiff;simp[hlt,hx,Doc.row];by_cases s:sLt x.name name
  ·simp[s]
   exact Ent.refl ⟨k+1,by have:=hiff.1 s;omega,aa,by simp;exact aZ aa⟩
  have hka:k=a:=by
   have:¬k<a:=λh=>s (hiff.2 h)
   omega
  subst hka;have hm:min k h.docs.length=k:=aa;simp[aH s,X0,X3,hat,c2,hm,ju];refine⟨aa,aa,aa,aa,aa,aa,aa,?_,?_⟩
  ·rintro row (h|rfl|h)
   ·exact Xi (bN h)
   ·rfl
   ·exact Xi (bD h)
  ·rw[Ec (by simp[hm];omega)]
   rfl
 have hka:k=h.docs.length:=aa;have hka2:a=h.docs.length:=aa;subst hka2;have hm:min k h.docs.length=k:=aa;subst hka;have hz:cut (h.docs.map Doc.row) h.docs.length 0=[]:=by rw[gu];simp
 simp[hat,c2,ju,hz];refine⟨aa,aa,?_,?_⟩
 ·rintro row (⟨a,-,rfl⟩|rfl)<;>rfl
 ·rfl
theorem CQ(h:Hub)(hl:eG h<=2^28)(name:ByteArray)(client seq base:Int)(o:List Part)(ho:nL aM o<=2^40) :
 ar Tryz.prog 66 [.agg h.row,.c (.v (.string name)),.c (vi client),.c (vi seq),.c (vi base),.c (.s (o.map Part.row))]
 (.tup [.agg (dh h name client seq base o).1.res,.c (vi (dh h name client seq base o).2.1) 1,.c (vi (dh h name client seq base o).2.2) 1]):=by
 refine pci aq Tryz.func66 (λw0 bs=>?_);have hls:=bB (jP hl).2;simp[Hub.row];intro b6 b12;refine ae.pure (jU h aa name) bV ?_;simp;refine ae.pure (jg h aa) bV ?_;by_cases c1:bI h
 rotate_left
 ·simp[aH c1,xN c1,Hub.res,Hub.zero]
 simp[c1]
 cases c2:h.shut with
 |true=>simp[uC c1 c2,Hub.res,Hub.zero]
 |false=>
 have c2':¬h.shut=true:=wh;simp;rcases gE h.docs name with⟨k,hk,e,-⟩|e;rotate_left
 ·simp[e,uD c1 c2' e,Hub.res,Hub.zero]
 have hk0:¬(k:Int)<0:=aa;have hat:=xO (client:=client) (seq:=seq) (base:=base) (o:=o) c1 c2' hk e;have hdn:=eA (f:=cO) (jP hl).1 hk;have hdo:=lH c1 hk;have hDn:=xb (client:=client) (seq:=seq) (base:=base) (o:=o) hdo;have hok:=F0 (client:=client) (seq:=seq) (base:=base) (o:=o) hdo;obtain⟨d,hd⟩:∃d,h.docs[k]=d:=⟨_,rfl⟩;rw[hd]at hat hdn hDn hok;have hc:=s6 d hdn client seq base o ho;generalize dv d client seq base o=S at hc hat hDn hok;obtain⟨D,rev,code⟩:=S;simp only at hc hat hDn hok;simp[e,hk0,hk,hd,Doc.row];refine ae.pure hc aS ?_;simp[Doc.res];intro H1 H2 H3 b16;by_cases c3:code=0
 rotate_left
 ·rw[ak c3]at hat
  simp[c3,hat,Hub.res,Hub.zero]
 rw[al c3]at hat;have hok:=hok c3;simp[c3];refine ae.pure (ja h aa) qI ?_;simp[Hub.res,c2,hk];intro K1 K2 b19;refine drw eok mix [0,2,3,4,5,6] [1,7,8] (.c 6 1 32 31 (.c 6 7 1 30 (.c 6 8 0 30 (.l 6 30) .s) .s) .s) ?_;simp[hk,hd,Doc.row]
 try intros
 refine ae.pure (cX D) qF ?_;simp
 try intros
 refine ae.pure (cX d) qF ?_;simp
 try intros
 by_cases c5:aA D=aA d
 ·have hcm:jb h name k d D=⟨h.shut,h.docs.set k D,h.subs,h.last⟩:=by unfold jb;rw[ak aa]
  rw[hcm]at hat;simp[c5,hat,c2];exact⟨wL,rfl⟩
 rcases hok with rfl|⟨e,he1,he2⟩
 ·exact absurd rfl c5
 have hcm:jb h name k d D=⟨h.shut,h.docs.set k D,h.subs.map (je name e),h.last⟩:=by unfold jb;rw[al aa,he2]
 rw[hcm]at hat;have hmem:e∈D.list:=GV he2;have hpos:0<D.list.length:=qx hmem;obtain⟨m,hm⟩:∃m,D.list.length=m+1:=⟨D.list.length-1,aa⟩;have hml:m<D.list.length:=aa
 have hme:D.list[m]=e:=by
  exact SO
 have hDl:nL ba D.list<=2^24:=by unfold cO at hDn;omega
 have hen:=hQ (f:=ba) hDl hmem;have hlen24:=bB hDl;have ew:Go.IntKind.i64.wrap ((D.list.length:Int)-1)=(m:Int):=by rw[ah _ aa];omega
 have em:Go.IntKind.i64.wrap (m:Int)=m:=gb aa;simp[c5,hm,em,hme,Entry.row];refine⟨aa,λb20=>?_⟩
 refine aE eok (λi:Nat=>i<=h.subs.length) (λi=>⟨107,0,[(86,.v (.int .i64 i)),(85,.v (.int .i64 h.subs.length)),(84,.sl 930 K2 6 0 h.subs.length),(19,.p 304 b19 0),(20,.p 320 b20 0),(17,.v (.int .i64 rev)),(1,.v (.string name)),(12,.p 192 b12 0)],
  [(304, .vars b19 40 [.v (.bool false), .sl 929 K1 5 0 h.docs.length, .sl 930 K2 6 0 h.subs.length, .v (.int .i64 h.last)]),(192, .vars b12 40 [.v (.bool false), .nil, .nil, .v (.int .i64 0)]),
   (320,.vars b20 128 [.v (.int .i64 e.client),.v (.int .i64 e.seq),.ro (e.o.map Part.row)]),
   (929,.rows K1 5 ((h.docs.set k D).map Doc.row) true),(930,.rows K2 6 ((kN name e h.subs i).map Sub.row) true)]⟩) (λi=>h.subs.length-i) 0 ab (by simp[BF];rfl) (λi hi=>Ent.refl ?_)
 have htl:=yg name e h.subs i;by_cases hlt:i<h.subs.length
 ·have hti:=AJ (name:=name) (e:=e) hlt
  have hlt':i<(kN name e h.subs i).length:=aa;have hsk:=BG (name:=name) (e:=e) hlt;have hsu:=yf (name:=name) (e:=e) hlt;have hmd:=wU hlt' (fw h.subs[i].r e);have hmn:=eA (f:=eM) (jP hl).2 hlt;unfold eM at hmn;rw[hti]at hmd;obtain⟨s,hs⟩:∃s,h.subs[i]=s:=⟨_,rfl⟩;rw[hs]at hti hsk hsu hmd hmn;simp[hlt,htl,hti,Sub.row];intro b22;by_cases c6:s.doc=name
  rotate_left
  ·simp[c6]
   refine Ent.refl ⟨i+1,aa,aa,?_⟩;rw[<-hsk c6];simp;exact aZ aa
  have htell:je name e s=⟨s.id,s.doc,fw s.r e⟩:=by unfold je;rw[al c6]
  rw[htell]at hsu;rw[hsu]at hmd;have hpc:=EL s.r aa e aa;generalize fw s.r e=R at hpc hmd;simp[c6];refine drw eok mix [0,1,2,3,4,5,7,8] [6,9] (.c 8 6 12 243 (.c 8 9 241 2 (.l 8 2) .s) .s) ?_;simp[hlt]
  try intros
  refine ae.pure (hpc) (by simp[Ring.row,Entry.row]) ?_;simp[Ring.res,hlt,htl]
  try intros
  refine Ent.refl ⟨i+1,aa,aa,?_⟩;rw[<-hmd];simp;exact aZ aa
 have hie:i=h.subs.length:=aa;subst hie;rw[Et];simp[hat,c2];exact wL
theorem Lw{h:Hub}{c:Call}(n:¬(bI h/\eQ c)):fDo h c=(h,fX 1):=by unfold fDo;rw[ak n]
theorem ae2{h:Hub}{c:Call}(y:bI h/\eQ c)(k:c.kind=1):fDo h c=if(eP h c.doc c.text).2=0 then((eP h c.doc c.text).1,fX 0)else(h,fX (eP h c.doc c.text).2):=by unfold fDo;rw[al y,al k]
theorem ae1{h:Hub}{c:Call}(y:bI h/\eQ c)(k:c.kind=2):fDo h c=if(dh h c.doc c.client c.seq c.n c.o).2.2=0 then((dh h c.doc c.client c.seq c.n c.o).1,⟨0,(dh h c.doc c.client c.seq c.n c.o).2.1,[],[]⟩)else(h,fX (dh h c.doc c.client c.seq c.n c.o).2.2):=by
 unfold fDo;rw[al y,ak aa,al k]
theorem abg{h:Hub}{c:Call}(y:bI h/\eQ c)(k:c.kind=3\/c.kind=4):fDo h c=(h,rf h c):=by unfold fDo;rw[al y,ak aa,ak aa,al k]
theorem ae0{h:Hub}{c:Call}(y:bI h/\eQ c)(k:c.kind=5):fDo h c=if(bL h c.doc c.n).2.2=0 then((bL h c.doc c.n).1,⟨0,(bL h c.doc c.n).2.1,[],[]⟩)else(h,fX (bL h c.doc c.n).2.2):=by
 unfold fDo;rw[al y,ak aa,ak aa,ak aa,al k]
theorem abf{h:Hub}{c:Call}(y:bI h/\eQ c)(k:c.kind=6):fDo h c=if(eB h c.client c.n).2.2=0 then((eB h c.client c.n).1,⟨0,0,[],(eB h c.client c.n).2.1⟩)else(h,fX (eB h c.client c.n).2.2):=by
 unfold fDo;rw[al y,ak aa,ak aa,ak aa,ak aa,al k]
theorem aeZ{h:Hub}{c:Call}(y:bI h/\eQ c)(k:c.kind=7):fDo h c=if(cI h c.client).2.2.2=0 then((cI h c.client).1,⟨0,(cI h c.client).2.2.1,(cI h c.client).2.1,[]⟩)else(h,fX (cI h c.client).2.2.2):=by
 unfold fDo;rw[al y,ak aa,ak aa,ak aa,ak aa,ak aa,al k]
theorem aeY{h:Hub}{c:Call}(y:bI h/\eQ c)(k:c.kind=8):fDo h c=if(fA h).2=0 then((fA h).1,fX 0)else(h,fX (fA h).2):=by
 unfold fDo;rw[al y,ak aa,ak aa,ak aa,ak aa,ak aa,ak aa]
theorem ZW(h:Hub)(hl:eG h<=2^28)(c:Call)(hc:jO c<=2^28):ar Tryz.prog 16 [.agg h.row,.agg c.row] (.tup [.agg (fDo h c).1.res,.agg (fDo h c).2.res]):=by
 refine pci aq Tryz.func16 (λw0 base=>?_);have hcn:c.doc.size<=2^28/\nL aM c.o<=2^28/\c.text.length<=2^28:=by unfold jO at hc;omega
 simp[Hub.row,Call.row];intro b2 b3 b4 b5;refine ae.pure (jg h aa) bV ?_;by_cases c1:bI h
 rotate_left
 ·simp[aH c1]
  refine ae.pure (ja h aa) bV ?_;simp[Hub.res,Lw (λh=>c1 h.1),Answer.res,fX]
 simp[c1];refine ae.pure (zu c aa) di ?_;by_cases c2:eQ c
 rotate_left
 ·simp[aH c2]
  refine ae.pure (ja h aa) bV ?_;simp[Hub.res,Lw (λh=>c2 h.2),Answer.res,fX]
 simp[c2];intro b6 b23 b24;have hk:c.kind=1\/c.kind=2\/(c.kind=3\/c.kind=4)\/c.kind=5\/c.kind=6\/c.kind=7\/c.kind=8:=by have:=c2.1;omega
 rcases hk with k|k|k|k|k|k|k
 ·-- kind 1
  have hat:=ae2 ⟨c1,c2⟩ k;have hd:=Hi h aa c.doc hcn.1 c.text hcn.2.2;generalize eP h c.doc c.text=R at hd hat;exact QU
 ·-- kind 2
  have hat:=ae1 ⟨c1,c2⟩ k;have hd:=CQ h aa c.doc c.client c.seq c.n c.o aa;generalize dh h c.doc c.client c.seq c.n c.o=R at hd hat;obtain⟨X,rev,code⟩:=R;exact D2
 ·-- kinds 3,4
  have hat:=abg ⟨c1,c2⟩ k;have hd:=OD h aa c1 c;generalize rf h c=A at hd hat;have k1:¬c.kind=1:=aa;have k2:¬c.kind=2:=aa;have fin:∀_:c.kind=3\/(¬c.kind=3/\c.kind=4),True:=λ_=>trivial
  rcases k with k|k
  ·exact QV
  ·exact QV
 ·-- kind 5
  have hat:=ae0 ⟨c1,c2⟩ k;have hd:=yn h aa c.doc c.n;generalize bL h c.doc c.n=R at hd hat;obtain⟨X,rev,code⟩:=R;exact D2
 ·-- kind 6
  have hat:=abf ⟨c1,c2⟩ k;have hd:=Hg h aa c.client c.n;generalize eB h c.client c.n=R at hd hat;obtain⟨X,list,code⟩:=R;exact D2
 ·-- kind 7
  have hat:=aeZ ⟨c1,c2⟩ k;have hd:=CS h aa c.client;generalize cI h c.client=R at hd hat;obtain⟨X,text,rev,code⟩:=R;exact D2
 ·-- kind 8
  have hat:=aeY ⟨c1,c2⟩ k;have hd:=Hf h aa;generalize fA h=R at hd hat;exact QU
set_option maxHeartbeats 1600000
set_option maxHeartbeats 6400000
theorem Vy{α:Type}{f:α->Nat}(a:α)(l:List α):nL f (a::l)=nL f l+f a+1:=by
 simp only[nL,dW,bH];omega
theorem Ft{α:Type}{f:α->Nat}:nL f ([]:List α)=0:=(rfl)
theorem Z5{r:Ring}(h:dw r):eJ r<=2^21:=by
 obtain⟨h1,h2,h3,h4,-⟩:=h;have hb:nL ba r.list<=r.list.length*(2^18+1):=Fu (λe he=>tu (h1 e he).2.2.1);have hc:=az (2^18+1) (show r.list.length<=6 from aa);unfold eJ;omega
theorem Vi{h:Hub}(c:bI h){s:Sub}(hs:s∈h.subs):eM s<=2^22:=by
 obtain⟨i,hi,rfl⟩:=fF hs;obtain⟨-,h2,-,k,hk,e,-⟩:=c.2.2.2.2 i hi;have h3:=Z5 h2
 have h4:h.subs[i].doc.size<=8:=by
  rcases gE h.docs h.subs[i].doc with⟨j,hj,e',hn⟩|e'
  ·rw[<-hn];exact(lH c hj).1.1.2
  ·omega
 unfold eM;omega
theorem w8{h:Hub}(c:bI h):eG h<=2^27/\nL cO h.docs<=2^26/\nL eM h.subs<=2^25:=by
 have h1:nL cO h.docs<=h.docs.length*(2^23+1):=Fu (λd hd=>by
  obtain⟨i,hi,rfl⟩:=fF hd;exact pN (lH c hi))
 have h2:nL eM h.subs<=h.subs.length*(2^22+1):=Fu (λs hs=>Vi c hs);have h3:=az (2^23+1) c.1;have h4:=az (2^22+1) c.2.1;unfold eG;omega
theorem sk:eG Hub.zero=0:=(rfl)
theorem PO(h:Hub)(name:ByteArray)(t:List Int):eG (eP h name t).1<=2^28:=by
 unfold eP
 split
 ·rename_i c
  have h1:=w8 c.1;have h2:=pN c.2
  repeat' split
  ·exact oi
  ·exact oi
  ·exact oi
  ·have h3:nL cO (yF (ju name t) h.docs)=nL cO h.docs+cO (ju name t)+1:=by
    rw[xe,kz,Vy];have h4:=kz (f:=cO) (h.docs.take (ir (ju name t).name h.docs)) (h.docs.drop (ir (ju name t).name h.docs));rw[iw]at h4;omega
   unfold eG;exact gT
 ·exact oi
theorem Wr(name:ByteArray)(e:Entry)(s:Sub):eM (je name e s)<=eM s+ba e+1:=by
 unfold je
 split
 ·have:=ND s.r e
  unfold eM;exact gT
 ·omega
theorem Nt{h:Hub}(c:bI h)(name:ByteArray)(k:Nat)(d0:Doc){d:Doc}(hd:cO d<=2^24):eG (jb h name k d0 d)<=2^28:=by
 have h1:=w8 c;have h2:=Fs (f:=cO) h.docs k d;unfold jb
 have h3:∀e,d.list.getLast? = some e->nL eM (h.subs.map (je name e))<=6*(20971521+1):=by
  intro e he;have h5:ba e<=2^24:=cT (hQ (fc hd).1 (GV he)) (aC _)
  have h4:nL eM (h.subs.map (je name e))<=(h.subs.map (je name e)).length*(20971521+1):=Fu (λs hs=>by
   rw[cM]at hs;obtain⟨s0,hs0,rfl⟩:=hs;have h6:=Wr name e s0;have h7:=Vi c hs0;omega)
  rw[eZ]at h4;exact cT h4 (az _ c.2.1)
 unfold eG;simp only
 split
 ·split
  ·rename_i e he
   have:=h3 e he;omega
  ·omega
 ·omega
theorem Lu(h:Hub)(name:ByteArray)(client seq base:Int)(o:List Part):eG (dh h name client seq base o).1<=2^28:=by
 unfold dh
 split
 ·rename_i c
  split
  ·exact oi
  ·split
   ·rename_i d0 hd0
    have hd:cf d0:=by
     obtain⟨hi,rfl⟩:=aw.1 hd0;exact lH c hi
    repeat' split
    ·exact Nt c _ _ _ (xb hd)
    ·exact oi
    ·exact oi
   ·exact oi
 ·exact oi
theorem C2(h:Hub)(name:ByteArray)(room:Int):eG (bL h name room).1<=2^28:=by
 unfold bL
 split
 ·rename_i c
  have h1:=w8 c.1
  repeat' split
  all_goals first|(rw[sk];omega)|skip
  rename_i hi _
  have h3:name.size<=8:=by
   rcases gE h.docs name with⟨j,hj,e',hn⟩|e'
   ·rw[<-hn];exact(lH c.1 hj).1.1.2
   ·omega
  unfold eG;simp only[kz,Vy,Ft,eM,F5];omega
 ·exact oi
theorem PN(h:Hub)(id n:Int):eG (eB h id n).1<=2^28/\nL ba (eB h id n).2.1<=2^24:=by
 unfold eB
 split
 ·rename_i c
  have h1:=w8 c.1
  split
  ·rename_i s hs
   have hm:=aQ hs;have h2:=Vi c.1 hm;have h3:=NF s.r n
   repeat' split
   ·have h4:=Fs (f:=eM) h.subs (iL h.subs id).toNat ⟨s.id,s.doc,(dx s.r n).1⟩
    have h5:eM ⟨s.id,s.doc,(dx s.r n).1⟩=s.doc.size+eJ (dx s.r n).1:=rfl;have h6:eM s=s.doc.size+eJ s.r:=rfl;unfold eG;exact gT
   ·exact DE
   ·exact DE
  ·exact DE
 ·exact DE
theorem Lv(h:Hub)(id:Int):eG (cI h id).1<=2^28/\(cI h id).2.1.length<=200:=by
 unfold cI
 split
 ·rename_i c
  have h1:=w8 c
  split
  ·rename_i s hs
   have hm:=aQ hs;have h2:=Vi c hm
   split
   ·split
    ·rename_i d hd
     obtain⟨hi,rfl⟩:=aw.1 hd;have h3:=tQ (lH c hi);have h4:=Fs (f:=eM) h.subs (iL h.subs id).toNat ⟨s.id,s.doc,(ed s.r (aA h.docs[(dG h.docs s.doc).toNat])).1⟩
     have h5:eJ (ed s.r (aA h.docs[(dG h.docs s.doc).toNat])).1=0:=by
      unfold ed
      split
      ·exact F5 _ _
      ·rfl
     refine⟨?_,h3⟩;unfold eG;simp only;have h7:eM ⟨s.id,s.doc,(ed s.r (aA h.docs[(dG h.docs s.doc).toNat])).1⟩=s.doc.size+eJ (ed s.r (aA h.docs[(dG h.docs s.doc).toNat])).1:=rfl;have h6:eM s=s.doc.size+eJ s.r:=rfl;omega
    ·exact DH
   ·exact DH
  ·exact DH
 ·exact DH
theorem PM(h:Hub):eG (fA h).1<=2^28:=by
 unfold fA
 repeat' split
 all_goals first|(rw[sk];omega)|skip
 rename_i c _
 have:=(w8 c).1;unfold eG at this⊢;exact gT
theorem LJ(x:Int):lE (fX x)=0:=(rfl)
theorem adR{h:Hub}(c:bI h)(x:Call):lE (rf h x)<=2^24:=by
 unfold rf
 repeat' split
 all_goals first|(rw[LJ];omega)|skip
 ·rename_i d hd _ _
  obtain⟨hi,rfl⟩:=aw.1 hd;have h3:=tQ (lH c hi);unfold lE;simp only[Ft];omega
 ·rename_i d hd _ _
  obtain⟨hi,rfl⟩:=aw.1 hd;have h3:=(fc (pN (lH c hi))).1;generalize h.docs[(dG h.docs x.doc).toNat]=d at h3;unfold lE;simp only[jd,dN];unfold gL
  repeat' split
  all_goals first|(simp only[Ft];omega)|skip
  have h4:=kz (f:=ba) (d.list.take (x.n-d.fr).toNat) (d.list.drop (x.n-d.fr).toNat);rw[iw]at h4;exact gT
theorem VP(h:Hub)(c:Call):(eG (fDo h c).1<=eG h\/eG (fDo h c).1<=2^28)/\lE (fDo h c).2<=2^24:=by
 have hz:∀x y:Int,lE ⟨x,y,[],[]⟩=0:=λ_ _=>rfl
 unfold fDo
 split
 ·rename_i ok
  have h1:=PO h c.doc c.text;have h2:=Lu h c.doc c.client c.seq c.n c.o;have h3:=C2 h c.doc c.n;have h4:=PN h c.client c.n;have h5:=Lv h c.client;have h6:=PM h;have h7:=adR ok.1 c
  repeat' split
  all_goals simp only[LJ,hz]
  all_goals first|omega|skip
  ·refine⟨.inr h4.1,?_⟩
   unfold lE;simp only[jd];omega
  ·refine⟨.inr h5.1,?_⟩
   unfold lE;simp only[Ft];omega
 ·simp only[LJ];omega
end Go.Proofs.YtdeimojjhhdeaaaGreatDoor
namespace Go.AM
open Go.RowKit
def BB(P:Program)(L:World->Prop)(f:Nat)(args:List VD)(R:RR->Prop):Prop:=
 Mb P f/\∀(w:World) (o:ld) (xs:Array Value),o.at w->(∀w',BelowF (λc=>c<w.heap.size/\o.off c) w w'->L w')->xs.size=args.length->(∀i vd,args[i]? = some vd->Oh w o.off (xs.getD i undef) vd) ->
  Calls P f xs w λe w'=>∃v rr,e=.returned v/\R rr/\Below w.heap.size w w'/\Oj w' o.off v rr
theorem Qm{P:Program}{L:World->Prop}(hL:LSt L){f:Nat}{args:List VD}{u:Value}(hu:plain u=true)(hc:BB P L f args (λr=>r=.one (.c (.v u) 1))):dt P L f args (.one (.c (.v u) 1)):=by
 refine⟨hc.1,λw hw xs hs hx=>(hc.2 w [] xs ⟨ab,ab⟩ (λw' hb=>hL w w' ⟨hb.os,hb.tape,hb.output,hb.size,λc hc=>hb.block c ⟨hc,λq hq=>by cases hq⟩⟩ hw) hs (λi vd hi=>?_)).mono ?_⟩
 ·exact Ux
 ·exact Te
theorem Vs{P:Program}{Ty:Nat->Option TI}{L:World->Prop}{fn:Func}{w w':World}{o:ld}(hE:EOk ⟨P,Ty,w,⟨λc=>c<w.heap.size/\o.off c,λc=>c<w.heap.size/\o.off c,false,L⟩⟩)(ho:o.at w){R:RR->Prop}{st':ASt}{a':Act}
 (hR':Rep w ⟨λc=>c<w.heap.size/\o.off c,λc=>c<w.heap.size/\o.off c,false,L⟩ st' a' w')
 (hq:jw ⟨P,Ty,w,⟨λc=>c<w.heap.size/\o.off c,λc=>c<w.heap.size/\o.off c,false,L⟩⟩ st' fn.results.toList λl=>∃rr,R rr/\nQ ⟨P,Ty,w,⟨λc=>c<w.heap.size/\o.off c,λc=>c<w.heap.size/\o.off c,false,L⟩⟩ st'.h l rr/\rq st'.h o) :
 a'.defers=[]/\∃v,(results fn a'.tmps).run P w'=.ok v w'/\∃v' rr,Ending.returned v=.returned v'/\R rr/\Below w.heap.size w w'/\Oj w' o.off v' rr:=by
 let B:Bs:=⟨λc=>c<w.heap.size/\o.off c,λc=>c<w.heap.size/\o.off c,false,L⟩
 obtain⟨vs,l,h1,h2,h3,rr,hRR,h4,hg⟩:=jv hE hR' fn.results.toList hq;obtain⟨Es,hH⟩:=hR'.heap
 refine⟨hR'.dfr,_,Vq h1,_,rr,rfl,hRR,⟨hR'.below.os,hR'.below.tape,hR'.below.output,hR'.below.size,λc hc=>?_⟩,
  M3 (E:=⟨P,Ty,w,B⟩) hH (S:=o.off) (λc hc=>bR λh=>?_) (λk b' o' C sz rows own hgk=>bR λh=>?_) (λv d hd=>?_) h2 h3 h4⟩
 ·by_cases h:o.off c
  ·exact hR'.below.block c ⟨hc,h⟩
  ·exact(wP hH ho hg h).1
 ·obtain⟨-,k,-,hk,-⟩:=wP hH ho hg h
  exact hc ⟨k,hk⟩
 ·obtain⟨-,k',-,hk,b,T,l,he⟩:=wP hH ho hg h
  have:=hH.inj k k' b' (by rw[hgk];rfl) hk;subst this;rw[hgk]at he;cases he
 ·exact Rd.map hd (λc hc _=>hR'.below.block c hc) (λc hc _=>hc.2)
theorem BB.intro {P : Program} {Ty : Nat → Option TI} (hT : ∀ t ti, Ty t = some ti → TIok P t ti) {L : World → Prop} {f : Nat} {fn : Func} {c : Code} (hf : P.funcs[f]? = some fn) (hname : (fn.name == "runtime.NumGoroutine") = false) (hb : fn.body = some c)
 {n:Nat}{rs:List ResultVar}(hnt:fn.ntmps=n) (hrs:fn.results=⟨rs⟩) {args:List VD}{R:RR->Prop}(hn:args.length<=n)
 (h:∀w0 base o,EOk ⟨P,Ty,w0,⟨base,base,false,L⟩⟩->jA ⟨P,Ty,w0,⟨base,base,false,L⟩⟩ c (LO ⟨P,Ty,w0,⟨base,base,false,L⟩⟩ o rs R) { n:=n,kb:=0,t:=rL 0 args,h:=phs o }):BB P L f args R:=by
 subst hnt;have hrs':fn.results.toList=rs:=qO;subst hrs';refine⟨⟨fn,hf,hname,pj⟩,λw o xs ho hL hs hx=>oc hf hb ?_⟩;have hE:EOk ⟨P,Ty,w,⟨λc=>c<w.heap.size/\o.off c,λc=>c<w.heap.size/\o.off c,false,L⟩⟩:=⟨hT,hL⟩
 obtain⟨r1,r2,r3,⟨Er,r4⟩,r5,r6⟩:=aai ho (n:=fn.ntmps) (xs:=xs) (t:=rL 0 args) aa (λq=>by
  rw[Au,al (dz q),nE]
  split
  ·exact QX
  ·exact .any _)
 have hR:Rep w ⟨λc=>c<w.heap.size/\o.off c,λc=>c<w.heap.size/\o.off c,false,L⟩ { n:=fn.ntmps,kb:=0,t:=rL 0 args,h:=phs o } { tmps:=xs++Array.replicate (fn.ntmps-xs.size) undef,defers:=[] } w:=
  ⟨r1,r2,r3,⟨Er,r4.obj,r4.inj,r4.low,r4.elow,r4.einj,r4.em⟩,r5,r6⟩
 refine kL (eW hE c _ _ _ w hR (h w _ o hE)) ?_
 rintro e a' w' ⟨st',hq,hR'⟩
 cases e with
 |normal=>exact Vs hE ho hR' hq
 |ret=>exact Vs hE ho hR' hq
 |_=>exact hq.elim
theorem sG{E:Env}(hE:EOk E){f:Nat}{args:List VD}{rr:RR}(hc:dt E.P E.base.L f args rr){avs:List AV}{st:ASt}{dst:Option Nat}{K:ASt->Prop}(hin:rn E.rd st.h avs args)
 (hout:cG st dst (roR rr) K):ae E f avs st dst K:=by
 refine⟨hc.1,λa w hR xs hs hx=>?_⟩;obtain⟨Es,hH⟩:=hR.heap;obtain⟨hl,hr⟩:=jR hH hR.rd avs args hx hin;refine(hc.2 w (hE.2 w hR.below) xs aa hr).mono ?_
 rintro e w' ⟨v,rfl,hb,hrr⟩
 have t:Tr st.h.M w st.h.M w':=⟨hb.size,λb hlt _=>hb.block b hlt,λb _ h=>h⟩;have H':HRel E.base st.h w' Es:=⟨λk=>(hH.obj k).tr t (λb hk=>hb.block b (hH.lt hk)) (λc hc _=>hc),hH.inj,hH.low,λk c hc=>⟨(hH.elow k c hc).1,cH (hH.elow k c hc).2 hb.size⟩,hH.einj,hH.em⟩;have hv:VRel w' st.h.M (roR rr) v:=D4 hrr (λc hc ⟨k,hk⟩=>Du);obtain⟨av',h3,h1,h2,h4,h5⟩:=(hR.move H' t ⟨hb.os,hb.tape,hb.output⟩).put hv hout;exact⟨v,av',h3,rfl,h1,h2,h4,h5⟩
end Go.AM
namespace Go.Proofs.YtdeimojjhhdeaaaGreatDoor
open Go.AM
set_option maxRecDepth 20000
theorem EZ(l:List (List Part))(t:List Int)(hl:l.length<=2^30)(hs:∀o∈l,nL aM o<=2^40)(ht:t.length<=2^40):ar Tryz.prog 203 [.c (.s (l.map hJ)),.c (.s (t.map aN))] (.tup [.c (.s ((et l t).1.map aN)) 1,.c (.v (.bool (et l t).2)) 1]):=by
 refine pci aq Tryz.func203 (λw0 base=>?_);obtain⟨r,hr⟩:∃r,et l t=r:=⟨_,rfl⟩;have hr':el t->(match bj l t with|some u=>(u,true)|none=>([],false))=r:=λc2=>by rw[<-hr];unfold et;exact(al c2).symm
 have hn:¬el t->r=([],false):=λc2=>by rw[<-hr];unfold et;rw[ak c2]
 rw[hr];simp;intro b;refine⟨aa,λH0=>?_⟩
 refine aU.intro eok (λx:Nat×Nat×Hd×List Int=>x.1<=l.length/\x.2.2.2.length<=2^40/\(el t->(match bj (l.drop x.1) x.2.2.2 with|some u=>(u,true)|none=>([],false))=r)/\(x.1=0->x.2.2.2=t)/\(0<x.1->el t))
  (λx=>⟨34,0,[(16,.v (.int .i64 x.1)),(15,.v (.int .i64 l.length)),(14,.ro (l.map hJ)),(6,.sl x.2.1 x.2.2.1 1 0 x.2.2.2.length),(1,.ro (t.map aN))],[(x.2.1,.rows x.2.2.1 1 (x.2.2.2.map aN) true)]⟩) (λx=>l.length-x.1) (0,176,H0,t) (by simp[ht];exact hr') ab (λx hi=>?_)
 obtain⟨i,K,H,u⟩:=x;simp only at hi⊢;obtain⟨hi1,hi2,hi3,hi4,hi5⟩:=hi;by_cases h:i<l.length
 ·have e:Go.IntKind.i64.wrap ((i:Int)+1)=((i+1:Nat):Int):=aZ aa
  rw[nq h]at hi3;have hlen:=lM l[i] u
  have hok:(apply l[i] u).2=true->el t:=by
   intro hq;rcases Nat.eq_zero_or_pos i with h0|h0
   ·have hu:=hi4 h0
    subst hu;unfold apply at hq
    split at hq
    ·rename_i hf;exact hf.2.1
    ·simp at hq
   ·exact hi5 h0
  simp[h];refine ae.pure (kT l[i] u (hs _ (ao h)) hi2) ab ?_;generalize apply l[i] u=q at hi3 hlen hok;obtain⟨v,ok⟩:=q;simp only at hi3 hlen hok
  cases ok
  ·have hrr:r=([],false):=by
    by_cases c2:el t
    ·have:=hi3 c2
     simp at this;exact this.symm
    ·exact hn c2
   simp[hrr]
  ·simp at hi3 hok
   simp;intro H2;exact⟨i+1,368,H2,v,⟨aa,aa,hi3,λh=>absurd h aa,λ_=>hok⟩,aa,⟨e,rfl,rfl,rfl⟩,.inl rfl⟩
 ·have hd:l.drop i=[]:=bE aa
  rw[hd]at hi3;simp[h];refine ae.pure (lA t ht) ab ?_;by_cases c2:el t
  ·have:=hi3 c2
   simp[bj]at this;simp[c2,<-this]
  ·have e:dc (el t)=false:=by rw[eK];exact c2
   simp[e,hn c2]
theorem xZ:∀(l:List (List Part)) (t u:List Int),bj l t=some u->u.length<=t.length\/u.length<=2^17
 | [],t,u,h=>by simp[bj]at h;subst h;exact .inl (aC _)
 | o :: l, t, u, h => by
   simp only[bj]at h
   split at h
   ·rcases xZ l _ u h with h1|h1
    ·exact .inr (cT h1 (lM o t))
    ·exact .inr h1
   ·simp at h
theorem LS(l:List (List Part))(t:List Int):(et l t).1.length<=t.length+2^17:=by
 unfold et
 split
 ·cases h:bj l t with
  |none=>simp
  |some u=>have:=xZ l t u h;simp only;omega
 ·simp
open Classical in
noncomputable def fN(r:Rep):List Int:=if db r then(et [r.sent,r.buf] r.text).1 else []
theorem HA(r:Rep)(hl:cE r<=2^30):ar Tryz.prog 39 [.agg r.row] (.one (.c (.s ((fN r).map aN)) 1)):=by
 refine pci aq Tryz.func39 (λw0 base=>?_);simp[Rep.row];intros;refine ae.pure (fU r aa) dB ?_;by_cases c1:db r
 rotate_left
 ·exact Tb
 have e:fN r=(et [r.sent,r.buf] r.text).1:=by unfold fN;rw[al c1]
 unfold cE at hl;simp[c1];intro b;refine ae.pure (qd [r.sent,r.buf] r.text ab aI aa) ab ?_;simp[e]
theorem G7(r:Rep)(hl:cE r<=2^30):ar Tryz.prog 94 [.agg r.row] (.one (.c (.s ((fN r).map aN)) 1)):=by
 refine pci aq Tryz.func94 (λw0 base=>?_);simp[Rep.row];intros;refine ae.pure (fT r aa) dB ?_;by_cases c1:db r
 rotate_left
 ·exact Tb
 have e:fN r=(et [r.sent,r.buf] r.text).1:=by unfold fN;rw[al c1]
 unfold cE at hl;simp[c1];intro b;refine ae.pure (EZ [r.sent,r.buf] r.text ab aI aa) ab ?_;simp[e]
end Go.Proofs.YtdeimojjhhdeaaaGreatDoor
