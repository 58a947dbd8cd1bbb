import Derived.Test.YtoldjebobgocpaaPF
import Derived.Test.YtoldjebobgocpaaPG
import Derived.Test.YtoldjebobgocpaaPH
namespace Go.Proofs.Ytoldjebobgocpaa
open Go.AM
set_option maxRecDepth 20000
set_option maxHeartbeats 12800000
theorem l01New_c (l : List UInt8) (_hl : l.length≤2 ^ 40) : NewC Try.prog 74 (l.map byteR) 27:=by
 refine NewC.intro tt_ok Try.func27 (by kernel_rfl) rfl rfl rfl (Nat.le_of_ble_eq_true rfl) (fun w0 base u hu=>?_);simp;refine LoopT.introG eok (fun x : Nat × Int=>x.1≤l.length) (fun x=>⟨32,0,[(4,.v (.int .i64 x.1)),(3,.v (.int .i64 x.2)),(0,.cv u l.length)],[]⟩) (fun x=>l.length - x.1) (0,Go.IntKind.i64.wrap (1621 + (l.length : Int))) (by simp) (by simp) (fun x hx=>Ent.refl ?_);obtain ⟨i,h⟩:=x;simp only at hx ⊢;by_cases c : i < l.length
 ·by_cases c2 : i < 4000
  ·have c2' : (i : Int) < 4000:=by omega
   simp [c,c2'];refine ⟨_,hu,?_⟩;simp [c];refine Ent.refl ⟨i + 1,by omega,by omega,?_⟩;simp;exact i64_suc (by omega)
  ·have c2' : ¬ (i : Int) < 4000:=by omega
   simp [c,c2'];exact fun b=>⟨496,b,⟨rfl,rfl⟩,_,rfl⟩
 ·simp [c]
  exact fun b=>⟨496,b,⟨rfl,rfl⟩,_,rfl⟩
def resR (p : Rep→Prop) (rr : RR) : Prop:=∃ r : Rep,p r∧rr = .one (.agg r.res)
theorem l17Draw_c (l : List UInt8) (hl : l.length≤2 ^ 40) : CurN Try.prog 74 (l.map byteR) 28 [] (resR (repD 3 3)):=by
 refine CurN.intro tt_ok Try.func28 (by kernel_rfl) rfl rfl rfl (Nat.le_of_ble_eq_true rfl) (fun w0 base o b u i h hi0 hi1 hu=>?_);have hi1 : i≤(l.length : Int):=by simpa using hi1
 simp;intro b2;refine ACall.cur (l01Below_c l hl 3) hu (by simp) rfl hi0 hi1 (by simp) ?_
 rintro _ i1 h1 ⟨z1,hz1,rfl⟩ g0 g1
 have wz:=Go.IntWalk.i64_in (1 + z1) (by have:=hz1.1;have:=hz1.2;omega);simp [wz];refine ACall.cur (l01Below_c l hl 4) hu (by simp) rfl g0 g1 (by simp) ?_
 rintro _ i2 h2 ⟨z2,hz2,rfl⟩ g0 g1
 simp;refine ACall.cur (l01Below_c l hl 20) hu (by simp) rfl g0 g1 (by simp) ?_
 rintro _ i3 h3 ⟨z3,hz3,rfl⟩ g0 g1
 simp;refine ACall.curN (l01Signs_c l hl 7 (by omega) (by omega)).toN hu (by simp) rfl g0 g1 (by simp) ?_
 rintro _ i4 h4 ⟨t,ht,rfl⟩ g0 g1
 simp;have hz1':=hz1.2.2 (by omega);have hz2':=hz2.2.2 (by omega);have hz3':=hz3.2.2 (by omega);have hr0:=repD_new (c:=1 + z1) (s:=z2) (v:=z3) (t:=t) (by have:=hz1.1;omega) (by have:=hz2.1;omega) (by have:=hz3.1;omega) (by have:=ht.1;omega) ht.2;have hc0:=specRepNew_i (1 + z1) z2 z3 t (by have:=ht.1;omega);generalize fRepNew (1 + z1) z2 z3 t = q at hr0 hc0;obtain ⟨r0,fine0⟩:=q;simp only at hr0 hc0;refine ACall.ro hc0 (by simp) ?_;simp [Rep.res];intro b3;refine ACall.cur (l01Below_c l hl 4) hu (by simp) rfl g0 g1 (by simp) ?_
 rintro _ i5 h5 ⟨zn,hzn,rfl⟩ g0 g1
 simp;have hzn':=hzn.2.2 (by omega)
 refine LoopT.introG eok (fun x : Rep × Nat × Int × Int=>x.2.1≤3∧repD (3 - x.2.1) (3 - x.2.1) x.1∧0≤x.2.2.1∧x.2.2.1≤(l.length : Int))
  (fun x=>⟨53,0,[(5,.v (.int .i64 x.2.1)),(3,.p 48 b3 0),(2,.p 32 b2 0),(0,.p 0 b 0)],
   (48,.vars b3 26 [.v (.int .i64 x.1.client),.v (.int .i64 x.1.seq),.v (.int .i64 x.1.rev),.ro (x.1.text.map intR),.v (.bool x.1.has),.ro (x.1.sent.map Part.row),.ro (x.1.buf.map Part.row)]) ::
   (32,.vars b2 26 [.v (.int .i64 0),.v (.int .i64 0),.v (.int .i64 0),.nil,.v (.bool false),.nil,.nil]) ::
   (0,.vars b 74 (curA u l.length x.2.2.1 x.2.2.2)) :: phs o⟩) (fun x=>x.2.1)
  (r0,zn.toNat,i5,h5) ⟨by simp only;omega,repD_seq (repD_le hr0 (by omega)) (by omega),g0,g1⟩ (by simp;have:=hzn.1;omega) (fun x hx=>Ent.refl ?_)
 obtain ⟨r,n,i6,h6⟩:=x;obtain ⟨x1,x2,g0,g1⟩:=hx;simp only at x1 x2 g0 g1 ⊢;simp;by_cases c : 0 < n
 rotate_left
 ·have : n = 0:=by omega
  subst this;simp;refine ⟨_,⟨r,x2,rfl⟩,?_,curK_get rfl g0 g1⟩;simp [Rep.res]
 have c' : (0 : Int) < n:=by omega
 simp [c];refine ACall.cur (l01Once_c l hl 3) hu (by simp) rfl g0 g1 (by simp) ?_
 rintro _ i7 h7 ⟨qq,rfl⟩ g0 g1
 cases qq with
 | false=>
   simp;have hn2:=repOk_b x2.1;have hbuf:=opOk_n x2.1.2.2.2.2.2.1.1;have hto:=x2.2.2.2.2.2.1;have hpos:=atoms_to x2.1.2.2.2.2.2.1.1
   refine DrawT.introS eok mix [0,1,2,3] [4,5,6,7,8,9,10,11,12] (.child 4 [true,false,false,false] [false,true,true,true] (.child 5 [false,false,true,false] [false,true,false,true] (.child 6 [false,false,false,true] [false,true,false,false] (.child 7 [false,false,false,false] [false,true,false,false] (.child 8 [false,false,false,false] [false,true,false,false] (.child 9 [false,false,false,false] [false,true,false,false] (.child 10 [false,false,false,false] [false,true,false,false] (.child 11 [false,true,false,false] [false,false,false,false] (.child 12 [false,false,false,false] [false,false,false,false] (.leaf [false,false,false,false]) .stop) .stop) .stop) .stop) .stop) .stop) (.child 10 [false,false,false,false] [false,true,false,true] (.child 6 [false,false,false,true] [false,true,false,false] (.child 7 [false,false,false,false] [false,true,false,false] (.child 8 [false,false,false,false] [false,true,false,false] (.child 9 [false,false,false,false] [false,true,false,false] (.child 11 [false,true,false,false] [false,false,false,false] (.child 12 [false,false,false,false] [false,false,false,false] (.leaf [false,false,false,false]) .stop) .stop) .stop) .stop) .stop) .stop) .stop)) (.child 10 [false,false,false,false] [false,true,true,true] (.child 5 [false,false,true,false] [false,true,false,true] (.child 6 [false,false,false,true] [false,true,false,false] (.child 7 [false,false,false,false] [false,true,false,false] (.child 8 [false,false,false,false] [false,true,false,false] (.child 9 [false,false,false,false] [false,true,false,false] (.child 11 [false,true,false,false] [false,false,false,false] (.child 12 [false,false,false,false] [false,false,false,false] (.leaf [false,false,false,false]) .stop) .stop) .stop) .stop) .stop) .stop) .stop) .stop)) (.child 10 [false,false,false,false] [true,true,true,true] (.child 4 [true,false,false,false] [false,true,true,true] (.child 5 [false,false,true,false] [false,true,false,true] (.child 6 [false,false,false,true] [false,true,false,false] (.child 7 [false,false,false,false] [false,true,false,false] (.child 8 [false,false,false,false] [false,true,false,false] (.child 9 [false,false,false,false] [false,true,false,false] (.child 11 [false,true,false,false] [false,false,false,false] (.child 12 [false,false,false,false] [false,false,false,false] (.leaf [false,false,false,false]) .stop) .stop) .stop) .stop) .stop) .stop) .stop) .stop) .stop)) (by kernel_rfl) ?_
   simp
   try intros
   rw [Tr_child];refine ⟨?_,?_⟩
   ·skip
    simp
    try intros
    refine ACall.ro (specOpTo_c r.buf (by omega)) (by simp) ?_;simp
    try intros
    rw [Tr_child];refine ⟨?_,?_⟩
    ·skip
     simp
     try intros
     refine ACall.curN (l02Draw_c l hl (opTo r.buf) (by omega) (by omega)).toN hu (by simp) rfl g0 g1 (by simp) ?_;rintro _ i5 h5 ⟨ops,⟨hol,-,hod⟩,rfl⟩ g0 g1;have hk:=hod.ok (by omega) (by omega) hol;have hed:=repD_edit x2 hk.1 hk.2.1 hk.2.2;have hok:=(edit_ok x2.1 hk.1 hk.2.1).1;simp
     try intros
     rw [Tr_child];refine ⟨?_,?_⟩
     ·skip
      simp
      try intros
      have hc:=specRepEdit_i r (by omega) ops (by have:=opOk_n hk.1;omega);generalize fRepEdit r ops = q at hc hed hok;obtain ⟨r',fine⟩:=q;simp only at hc hed hok;subst hok;refine ACall.ro hc (by simp [Rep.row]) ?_;simp [Rep.res]
      try intros
      refine Ent.refl ⟨r',n - 1,_,⟨by omega,repD_seq (repD_le hed (by omega)) (by omega),g0,g1⟩,by omega,?_⟩;have wn:=Go.IntWalk.i64_in ((n : Int) - 1) (by omega);simp [wn];omega
     ·skip
      simp
      try intros
      have hc:=specRepEdit_i r (by omega) ops (by have:=opOk_n hk.1;omega);generalize fRepEdit r ops = q at hc hed hok;obtain ⟨r',fine⟩:=q;simp only at hc hed hok;subst hok;refine ACall.ro hc (by simp [Rep.row]) ?_;simp [Rep.res]
      try intros
      refine Ent.refl ⟨r',n - 1,_,⟨by omega,repD_seq (repD_le hed (by omega)) (by omega),g0,g1⟩,by omega,?_⟩;have wn:=Go.IntWalk.i64_in ((n : Int) - 1) (by omega);simp [wn];omega
    ·skip
     simp
     try intros
     refine ACall.curN (l02Draw_c l hl (opTo r.buf) (by omega) (by omega)).toN hu (by simp) rfl g0 g1 (by simp) ?_;rintro _ i5 h5 ⟨ops,⟨hol,-,hod⟩,rfl⟩ g0 g1;have hk:=hod.ok (by omega) (by omega) hol;have hed:=repD_edit x2 hk.1 hk.2.1 hk.2.2;have hok:=(edit_ok x2.1 hk.1 hk.2.1).1;simp
     try intros
     have hc:=specRepEdit_i r (by omega) ops (by have:=opOk_n hk.1;omega);generalize fRepEdit r ops = q at hc hed hok;obtain ⟨r',fine⟩:=q;simp only at hc hed hok;subst hok;refine ACall.ro hc (by simp [Rep.row]) ?_;simp [Rep.res]
     try intros
     refine Ent.refl ⟨r',n - 1,_,⟨by omega,repD_seq (repD_le hed (by omega)) (by omega),g0,g1⟩,by omega,?_⟩;have wn:=Go.IntWalk.i64_in ((n : Int) - 1) (by omega);simp [wn];omega
   ·skip
    simp
    try intros
    refine ACall.ro (specOpTo_c r.buf (by omega)) (by simp) ?_;simp
    try intros
    refine ACall.curN (l02Draw_c l hl (opTo r.buf) (by omega) (by omega)).toN hu (by simp) rfl g0 g1 (by simp) ?_;rintro _ i5 h5 ⟨ops,⟨hol,-,hod⟩,rfl⟩ g0 g1;have hk:=hod.ok (by omega) (by omega) hol;have hed:=repD_edit x2 hk.1 hk.2.1 hk.2.2;have hok:=(edit_ok x2.1 hk.1 hk.2.1).1;simp
    try intros
    have hc:=specRepEdit_i r (by omega) ops (by have:=opOk_n hk.1;omega);generalize fRepEdit r ops = q at hc hed hok;obtain ⟨r',fine⟩:=q;simp only at hc hed hok;subst hok;refine ACall.ro hc (by simp [Rep.row]) ?_;simp [Rep.res]
    try intros
    refine Ent.refl ⟨r',n - 1,_,⟨by omega,repD_seq (repD_le hed (by omega)) (by omega),g0,g1⟩,by omega,?_⟩;have wn:=Go.IntWalk.i64_in ((n : Int) - 1) (by omega);simp [wn];omega
 | true=>
   simp;have hsd:=repD_send x2;have hcs:=specRepSend_i r (repOk_b x2.1);generalize fRepSend r = q at hsd hcs;obtain ⟨rs,cs,fs⟩:=q;simp only at hsd hcs;refine ACall.ro hcs (by simp [Rep.row]) ?_;simp [Rep.res,Call.res];intros
   cases fs with
   | false=>
     simp;have hn2:=repOk_b x2.1;have hbuf:=opOk_n x2.1.2.2.2.2.2.1.1;have hto:=x2.2.2.2.2.2.1;have hpos:=atoms_to x2.1.2.2.2.2.2.1.1
     refine DrawT.introS eok mix [0,1,2,3] [4,5,6,7,8,9,10,11,12] (.child 4 [true,false,false,false] [false,true,true,true] (.child 5 [false,false,true,false] [false,true,false,true] (.child 6 [false,false,false,true] [false,true,false,false] (.child 7 [false,false,false,false] [false,true,false,false] (.child 8 [false,false,false,false] [false,true,false,false] (.child 9 [false,false,false,false] [false,true,false,false] (.child 10 [false,false,false,false] [false,true,false,false] (.child 11 [false,true,false,false] [false,false,false,false] (.child 12 [false,false,false,false] [false,false,false,false] (.leaf [false,false,false,false]) .stop) .stop) .stop) .stop) .stop) .stop) (.child 10 [false,false,false,false] [false,true,false,true] (.child 6 [false,false,false,true] [false,true,false,false] (.child 7 [false,false,false,false] [false,true,false,false] (.child 8 [false,false,false,false] [false,true,false,false] (.child 9 [false,false,false,false] [false,true,false,false] (.child 11 [false,true,false,false] [false,false,false,false] (.child 12 [false,false,false,false] [false,false,false,false] (.leaf [false,false,false,false]) .stop) .stop) .stop) .stop) .stop) .stop) .stop)) (.child 10 [false,false,false,false] [false,true,true,true] (.child 5 [false,false,true,false] [false,true,false,true] (.child 6 [false,false,false,true] [false,true,false,false] (.child 7 [false,false,false,false] [false,true,false,false] (.child 8 [false,false,false,false] [false,true,false,false] (.child 9 [false,false,false,false] [false,true,false,false] (.child 11 [false,true,false,false] [false,false,false,false] (.child 12 [false,false,false,false] [false,false,false,false] (.leaf [false,false,false,false]) .stop) .stop) .stop) .stop) .stop) .stop) .stop) .stop)) (.child 10 [false,false,false,false] [true,true,true,true] (.child 4 [true,false,false,false] [false,true,true,true] (.child 5 [false,false,true,false] [false,true,false,true] (.child 6 [false,false,false,true] [false,true,false,false] (.child 7 [false,false,false,false] [false,true,false,false] (.child 8 [false,false,false,false] [false,true,false,false] (.child 9 [false,false,false,false] [false,true,false,false] (.child 11 [false,true,false,false] [false,false,false,false] (.child 12 [false,false,false,false] [false,false,false,false] (.leaf [false,false,false,false]) .stop) .stop) .stop) .stop) .stop) .stop) .stop) .stop) .stop)) (by kernel_rfl) ?_
     simp
     try intros
     rw [Tr_child];refine ⟨?_,?_⟩
     ·skip
      simp
      try intros
      refine ACall.ro (specOpTo_c r.buf (by omega)) (by simp) ?_;simp
      try intros
      rw [Tr_child];refine ⟨?_,?_⟩
      ·skip
       simp
       try intros
       refine ACall.curN (l02Draw_c l hl (opTo r.buf) (by omega) (by omega)).toN hu (by simp) rfl g0 g1 (by simp) ?_;rintro _ i5 h5 ⟨ops,⟨hol,-,hod⟩,rfl⟩ g0 g1;have hk:=hod.ok (by omega) (by omega) hol;have hed:=repD_edit x2 hk.1 hk.2.1 hk.2.2;have hok:=(edit_ok x2.1 hk.1 hk.2.1).1;simp
       try intros
       rw [Tr_child];refine ⟨?_,?_⟩
       ·skip
        simp
        try intros
        have hc:=specRepEdit_i r (by omega) ops (by have:=opOk_n hk.1;omega);generalize fRepEdit r ops = q at hc hed hok;obtain ⟨r',fine⟩:=q;simp only at hc hed hok;subst hok;refine ACall.ro hc (by simp [Rep.row]) ?_;simp [Rep.res]
        try intros
        refine Ent.refl ⟨r',n - 1,_,⟨by omega,repD_seq (repD_le hed (by omega)) (by omega),g0,g1⟩,by omega,?_⟩;have wn:=Go.IntWalk.i64_in ((n : Int) - 1) (by omega);simp [wn];omega
       ·skip
        simp
        try intros
        have hc:=specRepEdit_i r (by omega) ops (by have:=opOk_n hk.1;omega);generalize fRepEdit r ops = q at hc hed hok;obtain ⟨r',fine⟩:=q;simp only at hc hed hok;subst hok;refine ACall.ro hc (by simp [Rep.row]) ?_;simp [Rep.res]
        try intros
        refine Ent.refl ⟨r',n - 1,_,⟨by omega,repD_seq (repD_le hed (by omega)) (by omega),g0,g1⟩,by omega,?_⟩;have wn:=Go.IntWalk.i64_in ((n : Int) - 1) (by omega);simp [wn];omega
      ·skip
       simp
       try intros
       refine ACall.curN (l02Draw_c l hl (opTo r.buf) (by omega) (by omega)).toN hu (by simp) rfl g0 g1 (by simp) ?_;rintro _ i5 h5 ⟨ops,⟨hol,-,hod⟩,rfl⟩ g0 g1;have hk:=hod.ok (by omega) (by omega) hol;have hed:=repD_edit x2 hk.1 hk.2.1 hk.2.2;have hok:=(edit_ok x2.1 hk.1 hk.2.1).1;simp
       try intros
       have hc:=specRepEdit_i r (by omega) ops (by have:=opOk_n hk.1;omega);generalize fRepEdit r ops = q at hc hed hok;obtain ⟨r',fine⟩:=q;simp only at hc hed hok;subst hok;refine ACall.ro hc (by simp [Rep.row]) ?_;simp [Rep.res]
       try intros
       refine Ent.refl ⟨r',n - 1,_,⟨by omega,repD_seq (repD_le hed (by omega)) (by omega),g0,g1⟩,by omega,?_⟩;have wn:=Go.IntWalk.i64_in ((n : Int) - 1) (by omega);simp [wn];omega
     ·skip
      simp
      try intros
      refine ACall.ro (specOpTo_c r.buf (by omega)) (by simp) ?_;simp
      try intros
      refine ACall.curN (l02Draw_c l hl (opTo r.buf) (by omega) (by omega)).toN hu (by simp) rfl g0 g1 (by simp) ?_;rintro _ i5 h5 ⟨ops,⟨hol,-,hod⟩,rfl⟩ g0 g1;have hk:=hod.ok (by omega) (by omega) hol;have hed:=repD_edit x2 hk.1 hk.2.1 hk.2.2;have hok:=(edit_ok x2.1 hk.1 hk.2.1).1;simp
      try intros
      have hc:=specRepEdit_i r (by omega) ops (by have:=opOk_n hk.1;omega);generalize fRepEdit r ops = q at hc hed hok;obtain ⟨r',fine⟩:=q;simp only at hc hed hok;subst hok;refine ACall.ro hc (by simp [Rep.row]) ?_;simp [Rep.res]
      try intros
      refine Ent.refl ⟨r',n - 1,_,⟨by omega,repD_seq (repD_le hed (by omega)) (by omega),g0,g1⟩,by omega,?_⟩;have wn:=Go.IntWalk.i64_in ((n : Int) - 1) (by omega);simp [wn];omega
   | true=>
     have x3:=hsd rfl;simp;have hn2:=repOk_b x3.1;have hbuf:=opOk_n x3.1.2.2.2.2.2.1.1;have hto:=x3.2.2.2.2.2.1;have hpos:=atoms_to x3.1.2.2.2.2.2.1.1
     refine DrawT.introS eok mix [0,1,2,3] [4,5,6,7,8,9,10,11,12] (.child 4 [true,false,false,false] [false,true,true,true] (.child 5 [false,false,true,false] [false,true,false,true] (.child 6 [false,false,false,true] [false,true,false,false] (.child 7 [false,false,false,false] [false,true,false,false] (.child 8 [false,false,false,false] [false,true,false,false] (.child 9 [false,false,false,false] [false,true,false,false] (.child 10 [false,false,false,false] [false,true,false,false] (.child 11 [false,true,false,false] [false,false,false,false] (.child 12 [false,false,false,false] [false,false,false,false] (.leaf [false,false,false,false]) .stop) .stop) .stop) .stop) .stop) .stop) (.child 10 [false,false,false,false] [false,true,false,true] (.child 6 [false,false,false,true] [false,true,false,false] (.child 7 [false,false,false,false] [false,true,false,false] (.child 8 [false,false,false,false] [false,true,false,false] (.child 9 [false,false,false,false] [false,true,false,false] (.child 11 [false,true,false,false] [false,false,false,false] (.child 12 [false,false,false,false] [false,false,false,false] (.leaf [false,false,false,false]) .stop) .stop) .stop) .stop) .stop) .stop) .stop)) (.child 10 [false,false,false,false] [false,true,true,true] (.child 5 [false,false,true,false] [false,true,false,true] (.child 6 [false,false,false,true] [false,true,false,false] (.child 7 [false,false,false,false] [false,true,false,false] (.child 8 [false,false,false,false] [false,true,false,false] (.child 9 [false,false,false,false] [false,true,false,false] (.child 11 [false,true,false,false] [false,false,false,false] (.child 12 [false,false,false,false] [false,false,false,false] (.leaf [false,false,false,false]) .stop) .stop) .stop) .stop) .stop) .stop) .stop) .stop)) (.child 10 [false,false,false,false] [true,true,true,true] (.child 4 [true,false,false,false] [false,true,true,true] (.child 5 [false,false,true,false] [false,true,false,true] (.child 6 [false,false,false,true] [false,true,false,false] (.child 7 [false,false,false,false] [false,true,false,false] (.child 8 [false,false,false,false] [false,true,false,false] (.child 9 [false,false,false,false] [false,true,false,false] (.child 11 [false,true,false,false] [false,false,false,false] (.child 12 [false,false,false,false] [false,false,false,false] (.leaf [false,false,false,false]) .stop) .stop) .stop) .stop) .stop) .stop) .stop) .stop) .stop)) (by kernel_rfl) ?_
     simp
     try intros
     rw [Tr_child];refine ⟨?_,?_⟩
     ·skip
      simp
      try intros
      refine ACall.ro (specOpTo_c rs.buf (by omega)) (by simp) ?_;simp
      try intros
      rw [Tr_child];refine ⟨?_,?_⟩
      ·skip
       simp
       try intros
       refine ACall.curN (l02Draw_c l hl (opTo rs.buf) (by omega) (by omega)).toN hu (by simp) rfl g0 g1 (by simp) ?_;rintro _ i5 h5 ⟨ops,⟨hol,-,hod⟩,rfl⟩ g0 g1;have hk:=hod.ok (by omega) (by omega) hol;have hed:=repD_edit x3 hk.1 hk.2.1 hk.2.2;have hok:=(edit_ok x3.1 hk.1 hk.2.1).1;simp
       try intros
       rw [Tr_child];refine ⟨?_,?_⟩
       ·skip
        simp
        try intros
        have hc:=specRepEdit_i rs (by omega) ops (by have:=opOk_n hk.1;omega);generalize fRepEdit rs ops = q at hc hed hok;obtain ⟨r',fine⟩:=q;simp only at hc hed hok;subst hok;refine ACall.ro hc (by simp [Rep.row]) ?_;simp [Rep.res]
        try intros
        refine Ent.refl ⟨r',n - 1,_,⟨by omega,repD_seq (repD_le hed (by omega)) (by omega),g0,g1⟩,by omega,?_⟩;have wn:=Go.IntWalk.i64_in ((n : Int) - 1) (by omega);simp [wn];omega
       ·skip
        simp
        try intros
        have hc:=specRepEdit_i rs (by omega) ops (by have:=opOk_n hk.1;omega);generalize fRepEdit rs ops = q at hc hed hok;obtain ⟨r',fine⟩:=q;simp only at hc hed hok;subst hok;refine ACall.ro hc (by simp [Rep.row]) ?_;simp [Rep.res]
        try intros
        refine Ent.refl ⟨r',n - 1,_,⟨by omega,repD_seq (repD_le hed (by omega)) (by omega),g0,g1⟩,by omega,?_⟩;have wn:=Go.IntWalk.i64_in ((n : Int) - 1) (by omega);simp [wn];omega
      ·skip
       simp
       try intros
       refine ACall.curN (l02Draw_c l hl (opTo rs.buf) (by omega) (by omega)).toN hu (by simp) rfl g0 g1 (by simp) ?_;rintro _ i5 h5 ⟨ops,⟨hol,-,hod⟩,rfl⟩ g0 g1;have hk:=hod.ok (by omega) (by omega) hol;have hed:=repD_edit x3 hk.1 hk.2.1 hk.2.2;have hok:=(edit_ok x3.1 hk.1 hk.2.1).1;simp
       try intros
       have hc:=specRepEdit_i rs (by omega) ops (by have:=opOk_n hk.1;omega);generalize fRepEdit rs ops = q at hc hed hok;obtain ⟨r',fine⟩:=q;simp only at hc hed hok;subst hok;refine ACall.ro hc (by simp [Rep.row]) ?_;simp [Rep.res]
       try intros
       refine Ent.refl ⟨r',n - 1,_,⟨by omega,repD_seq (repD_le hed (by omega)) (by omega),g0,g1⟩,by omega,?_⟩;have wn:=Go.IntWalk.i64_in ((n : Int) - 1) (by omega);simp [wn];omega
     ·skip
      simp
      try intros
      refine ACall.ro (specOpTo_c rs.buf (by omega)) (by simp) ?_;simp
      try intros
      refine ACall.curN (l02Draw_c l hl (opTo rs.buf) (by omega) (by omega)).toN hu (by simp) rfl g0 g1 (by simp) ?_;rintro _ i5 h5 ⟨ops,⟨hol,-,hod⟩,rfl⟩ g0 g1;have hk:=hod.ok (by omega) (by omega) hol;have hed:=repD_edit x3 hk.1 hk.2.1 hk.2.2;have hok:=(edit_ok x3.1 hk.1 hk.2.1).1;simp
      try intros
      have hc:=specRepEdit_i rs (by omega) ops (by have:=opOk_n hk.1;omega);generalize fRepEdit rs ops = q at hc hed hok;obtain ⟨r',fine⟩:=q;simp only at hc hed hok;subst hok;refine ACall.ro hc (by simp [Rep.row]) ?_;simp [Rep.res]
      try intros
      refine Ent.refl ⟨r',n - 1,_,⟨by omega,repD_seq (repD_le hed (by omega)) (by omega),g0,g1⟩,by omega,?_⟩;have wn:=Go.IntWalk.i64_in ((n : Int) - 1) (by omega);simp [wn];omega
theorem implSignsSame_c (a b : List Int) (hl : a.length≤2 ^ 40) : PureC Try.prog 12 [.c (.s (a.map intR)),.c (.s (b.map intR))] (.one (.c (vb (a = b)) 1)):=by
 refine PureC.intro' tt_ok Try.func12 (by kernel_rfl) rfl rfl rfl (Nat.le_of_ble_eq_true rfl) (fun w0 base=>?_);simp;refine ACall.pure (slEqInt_c a b hl) (by simp) ?_;simp
theorem implCallSameR_c (a b : Call) (ha : nCall a≤2 ^ 40) : PureC Try.prog 16 [.agg a.row,.agg b.row] (.one (.c (vb (a = b)) 1)):=by
 refine PureC.intro' tt_ok Try.func16 (by kernel_rfl) rfl rfl rfl (Nat.le_of_ble_eq_true rfl) (fun w0 base=>?_);obtain ⟨a0,a1,a2,a3,a4,a5,a6⟩:=a;obtain ⟨c0,c1,c2,c3,c4,c5,c6⟩:=b;unfold nCall at ha;simp only at ha;simp [Call.row];intro b1 b2;by_cases h0 : a0 = c0
 rotate_left
 ·simp [h0]
 subst h0;by_cases h1 : a1 = c1
 rotate_left
 ·simp [h1]
 subst h1;by_cases h2 : a2 = c2
 rotate_left
 ·simp [h2]
 subst h2;by_cases h3 : a3 = c3
 rotate_left
 ·simp [h3]
 subst h3;by_cases h4 : a4 = c4
 rotate_left
 ·simp [h4]
 subst h4;simp;refine ACall.pure (implOpSame_c a5 c5 (by omega)) (by simp) ?_;by_cases h5 : a5 = c5
 rotate_left
 ·simp [h5]
 subst h5;simp;refine ACall.pure (slEqInt_c a6 c6 (by omega)) (by simp) ?_;by_cases h6 : a6 = c6
 ·simp [h6]
 ·simp [h6]
theorem makeRep_c (l : List UInt8) (hl : l.length≤2 ^ 40) : PureN Try.prog 6 [.c (.s (l.map byteR))] (resR (repD 3 3)):=by
 refine PureN.introC tt_ok Try.func6 (by kernel_rfl) rfl rfl rfl (Nat.le_of_ble_eq_true rfl) (fun w0 base o u hu=>?_);simp;intro b2;refine ACall.newC (l01New_c l hl) hu (by simp) (fun b h=>?_);simp;refine ACall.curN (l17Draw_c l hl) hu (by simp) rfl (by omega) (by omega) (by simp) ?_
 rintro _ i1 h1 ⟨r,hr,rfl⟩ g0 g1
 simp [Rep.res];refine ⟨_,⟨r,hr,rfl⟩,?_⟩;simp [Rep.res]
theorem makeOp_c (l : List UInt8) (hl : l.length≤2 ^ 40) (n : Int) (h0 : 0≤n) (h1 : n≤2 ^ 40) : PureN Try.prog 8 [.c (.s (l.map byteR)),.c (vi n)] (resO fun o=>o.length≤42∧opD n o):=by
 refine PureN.introC tt_ok Try.func8 (by kernel_rfl) rfl rfl rfl (Nat.le_of_ble_eq_true rfl) (fun w0 base o u hu=>?_);simp;refine ACall.newC (l01New_c l hl) hu (by simp) (fun b h=>?_);simp;refine ACall.curN (l02Draw_c l hl n h0 h1).toN hu (by simp) rfl (by omega) (by omega) (by simp) ?_
 rintro _ i1 h1 ⟨op,⟨k1,-,k2⟩,rfl⟩ g0 g1
 simp;refine ⟨_,⟨op,⟨k1,k2⟩,rfl⟩,?_⟩;simp
theorem lawFnRep_c (l : List UInt8) (hl : l.length≤9223372036854775807) : PureC Try.prog 3 [.c (.s (l.map byteR))] (.one (.c (.v (.bool true)) 1)):=by
 refine PureN.toC rfl (PureN.intro tt_ok Try.func3 (by kernel_rfl) rfl rfl rfl (Nat.le_of_ble_eq_true rfl) (fun w0 base o=>?_));simp;by_cases hbig : 1048576 < (l.length : Int)
 ·simp [hbig]
 have hl2 : l.length≤2 ^ 40:=by omega
 simp [hbig];refine ACall.pureN (makeRep_c l hl2) (by simp) ?_
 rintro _ ⟨r,hr,rfl⟩
 simp [Rep.res];intro b3;have hb:=repOk_b hr.1;have ht:=rep_text hr.1;have d6:=hr.2.2.2.2.2.1;refine ACall.ro (implRepText_i r (by omega)) (by simp [Rep.row]) ?_;rw [ht.1];simp;refine ACall.pureN (makeOp_c l hl2 (rt r).length (by omega) (by omega)) (by simp) ?_
 rintro _ ⟨ops,⟨k1,k2⟩,rfl⟩
 simp;have hk:=k2.ok (by omega) (by omega) k1;have hon:=opOk_n hk.1;obtain ⟨e1,e2,e3,e4,e5,e6⟩:=edit_ok hr.1 hk.1 (by rw [hk.2.1,ht.2.2]);have hx:=repD_edit hr hk.1 (by rw [hk.2.1,ht.2.2]) (by omega);have hc:=implRepEdit_i r (by omega) ops (by omega);generalize fRepEdit r ops = q at hc e1 e2 hx;obtain ⟨x,ok⟩:=q;simp only at hc e1 e2 hx;subst e1;rw [← e2] at e3 e5;refine ACall.ro hc (by simp [Rep.row]) ?_;simp [Rep.res];intro b6;have hax:=apply_yes.2 e6;have hc2:=implApply_c ops (rt r) (by omega) (by omega);generalize apply ops (rt r) = q at hc2 hax e5;obtain ⟨uu,ok2⟩:=q;simp only at hc2 hax e5;subst hax;refine ACall.ro hc2 (by simp) ?_;simp;refine ACall.ro (implRepOk_i r (by omega)) (by simp [Rep.row]) ?_;have htx:=rep_text e3;have hbx:=repOk_b e3;simp [hr.1];refine ACall.ro (implRepText_i x (by omega)) (by simp [Rep.row]) ?_
 rw [htx.1,e5];simp;have hul : uu.length≤2 ^ 40:=by rw [← e5];have:=htx.2.1.1;omega
 refine ACall.ro (implSignsSame_c uu uu hul) (by simp) ?_;simp;have hc3:=implRepSend_i x (by omega);by_cases sd : repOk x∧x.has = false∧¬ idle x.buf∧x.seq≠999999999
 rotate_left
 ·rw [fRepSend_no sd] at hc3
  refine ACall.ro hc3 (by simp [Rep.row]) ?_;simp [Rep.res,Rep.zero,Call.res,Call.zero];intros
  cases hh : x.has with
  | true=>simp
  | false=>
    have hid : idle x.buf:=Classical.byContradiction fun h=>sd ⟨e3,hh,h,by have:=hx.2.2.1;omega⟩
    simp;refine ACall.ro (implIdle_c x.buf (by have:=opOk_n e3.2.2.2.2.2.1.1;omega)) (by simp) ?_;simp [hid]
 rw [fRepSend_yes sd] at hc3;have hy:=sent_ok e3 sd.2.1 sd.2.2.2;have hyt:=rep_text hy;have hyr:=sent_rt e3 sd.2.1 sd.2.2.2;have hyb:=repOk_b hy;refine ACall.ro hc3 (by simp [Rep.row]) ?_;simp [Rep.res,Call.res];intros;have hc4:=implRepResend_i (sentRep x) (by omega);have er : fRepResend (sentRep x) = (submit (sentRep x),true):=by unfold fRepResend;rw [if_pos ⟨hy,rfl⟩]
 rw [er] at hc4;refine ACall.ro hc4 (by simp [Rep.row]) ?_;simp [Call.res];intros;refine ACall.ro (implRepText_i (sentRep x) (by omega)) (by simp [Rep.row]) ?_;rw [hyt.1,hyr,e5];simp;refine ACall.ro (implSignsSame_c uu uu hul) (by simp) ?_;simp
 have hsn : nCall (submit (sentRep x))≤2 ^ 40:=by
  have:=opOk_n e3.2.2.2.2.2.1.1;have h0 : (⟨#[]⟩ : ByteArray).size = 0:=rfl;unfold nCall submit sentRep;simp;omega
 refine ACall.ro (implCallSameR_c (submit (sentRep x)) (submit (sentRep x)) hsn) (by simp [Call.row]) ?_;have s1 : x.seq = r.seq:=by rw [e2];rfl
 have s2 : x.rev = r.rev:=by rw [e2];rfl
 have wq : Go.IntKind.i64.wrap (r.seq + 1) = r.seq + 1:=Go.IntWalk.i64_in _ (by have:=hr.1.2.1;omega);simp [submit,sentRep,s1,s2,wq];refine ACall.ro (implOpSame_c x.buf x.buf (by have:=opOk_n e3.2.2.2.2.2.1.1;omega)) (by simp) ?_;simp;refine ACall.ro (implRepClean_i (sentRep x) (by omega)) (by simp [Rep.row,sentRep,s1,s2]) ?_;have hcl : ¬ repClean (sentRep x):=fun h=>by have:=h.2.1;simp [sentRep] at this
 simp [hcl]
end Go.Proofs.Ytoldjebobgocpaa
