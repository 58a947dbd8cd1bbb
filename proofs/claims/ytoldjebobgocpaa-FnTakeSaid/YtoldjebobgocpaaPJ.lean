import Derived.Test.YtoldjebobgocpaaPF
import Derived.Test.YtoldjebobgocpaaPH
import Derived.Test.YtoldjebobgocpaaPI
namespace Go.Proofs.Ytoldjebobgocpaa
open Go.AM
set_option maxRecDepth 20000
set_option maxHeartbeats 12800000
theorem l01New_c (l : List UInt8) (_hl : l.length≤2 ^ 40) : NewC Try.prog 74 (l.map byteR) 27:=by
 refine NewC.intro tt_ok Try.func27 (by kernel_rfl) rfl rfl rfl (Nat.le_of_ble_eq_true rfl) (fun w0 base u hu=>?_);simp;refine LoopT.introG eok (fun x : Nat × Int=>x.1≤l.length) (fun x=>⟨32,0,[(4,.v (.int .i64 x.1)),(3,.v (.int .i64 x.2)),(0,.cv u l.length)],[]⟩) (fun x=>l.length - x.1) (0,Go.IntKind.i64.wrap (1621 + (l.length : Int))) (by simp) (by simp) (fun x hx=>Ent.refl ?_);obtain ⟨i,h⟩:=x;simp only at hx ⊢;by_cases c : i < l.length
 ·by_cases c2 : i < 4000
  ·have c2' : (i : Int) < 4000:=by omega
   simp [c,c2'];refine ⟨_,hu,?_⟩;simp [c];refine Ent.refl ⟨i + 1,by omega,by omega,?_⟩;simp;exact i64_suc (by omega)
  ·have c2' : ¬ (i : Int) < 4000:=by omega
   simp [c,c2'];exact fun b=>⟨496,b,⟨rfl,rfl⟩,_,rfl⟩
 ·simp [c]
  exact fun b=>⟨496,b,⟨rfl,rfl⟩,_,rfl⟩
def resR (p : Rep→Prop) (rr : RR) : Prop:=∃ r : Rep,p r∧rr = .one (.agg r.res)
theorem l17Draw_c (l : List UInt8) (hl : l.length≤2 ^ 40) : CurN Try.prog 74 (l.map byteR) 28 [] (resR (repD 3 3)):=by
 refine CurN.intro tt_ok Try.func28 (by kernel_rfl) rfl rfl rfl (Nat.le_of_ble_eq_true rfl) (fun w0 base o b u i h hi0 hi1 hu=>?_);have hi1 : i≤(l.length : Int):=by simpa using hi1
 simp;intro b2;refine ACall.cur (l01Below_c l hl 3) hu (by simp) rfl hi0 hi1 (by simp) ?_
 rintro _ i1 h1 ⟨z1,hz1,rfl⟩ g0 g1
 have wz:=Go.IntWalk.i64_in (1 + z1) (by have:=hz1.1;have:=hz1.2;omega);simp [wz];refine ACall.cur (l01Below_c l hl 4) hu (by simp) rfl g0 g1 (by simp) ?_
 rintro _ i2 h2 ⟨z2,hz2,rfl⟩ g0 g1
 simp;refine ACall.cur (l01Below_c l hl 20) hu (by simp) rfl g0 g1 (by simp) ?_
 rintro _ i3 h3 ⟨z3,hz3,rfl⟩ g0 g1
 simp;refine ACall.curN (l01Signs_c l hl 7 (by omega) (by omega)).toN hu (by simp) rfl g0 g1 (by simp) ?_
 rintro _ i4 h4 ⟨t,ht,rfl⟩ g0 g1
 simp;have hz1':=hz1.2.2 (by omega);have hz2':=hz2.2.2 (by omega);have hz3':=hz3.2.2 (by omega);have hr0:=repD_new (c:=1 + z1) (s:=z2) (v:=z3) (t:=t) (by have:=hz1.1;omega) (by have:=hz2.1;omega) (by have:=hz3.1;omega) (by have:=ht.1;omega) ht.2;have hc0:=specRepNew_i (1 + z1) z2 z3 t (by have:=ht.1;omega);generalize fRepNew (1 + z1) z2 z3 t = q at hr0 hc0;obtain ⟨r0,fine0⟩:=q;simp only at hr0 hc0;refine ACall.ro hc0 (by simp) ?_;simp [Rep.res];intro b3;refine ACall.cur (l01Below_c l hl 4) hu (by simp) rfl g0 g1 (by simp) ?_
 rintro _ i5 h5 ⟨zn,hzn,rfl⟩ g0 g1
 simp;have hzn':=hzn.2.2 (by omega)
 refine LoopT.introG eok (fun x : Rep × Nat × Int × Int=>x.2.1≤3∧repD (3 - x.2.1) (3 - x.2.1) x.1∧0≤x.2.2.1∧x.2.2.1≤(l.length : Int))
  (fun x=>⟨53,0,[(5,.v (.int .i64 x.2.1)),(3,.p 48 b3 0),(2,.p 32 b2 0),(0,.p 0 b 0)],
   (48,.vars b3 26 [.v (.int .i64 x.1.client),.v (.int .i64 x.1.seq),.v (.int .i64 x.1.rev),.ro (x.1.text.map intR),.v (.bool x.1.has),.ro (x.1.sent.map Part.row),.ro (x.1.buf.map Part.row)]) ::
   (32,.vars b2 26 [.v (.int .i64 0),.v (.int .i64 0),.v (.int .i64 0),.nil,.v (.bool false),.nil,.nil]) ::
   (0,.vars b 74 (curA u l.length x.2.2.1 x.2.2.2)) :: phs o⟩) (fun x=>x.2.1)
  (r0,zn.toNat,i5,h5) ⟨by simp only;omega,repD_seq (repD_le hr0 (by omega)) (by omega),g0,g1⟩ (by simp;have:=hzn.1;omega) (fun x hx=>Ent.refl ?_)
 obtain ⟨r,n,i6,h6⟩:=x;obtain ⟨x1,x2,g0,g1⟩:=hx;simp only at x1 x2 g0 g1 ⊢;simp;by_cases c : 0 < n
 rotate_left
 ·have : n = 0:=by omega
  subst this;simp;refine ⟨_,⟨r,x2,rfl⟩,?_,curK_get rfl g0 g1⟩;simp [Rep.res]
 have c' : (0 : Int) < n:=by omega
 simp [c];refine ACall.cur (l01Once_c l hl 3) hu (by simp) rfl g0 g1 (by simp) ?_
 rintro _ i7 h7 ⟨qq,rfl⟩ g0 g1
 cases qq with
 | false=>
   simp;have hn2:=repOk_b x2.1;have hbuf:=opOk_n x2.1.2.2.2.2.2.1.1;have hto:=x2.2.2.2.2.2.1;have hpos:=atoms_to x2.1.2.2.2.2.2.1.1
   refine DrawT.introS eok mix [0,1,2,3] [4,5,6,7,8,9,10,11,12] (.child 4 [true,false,false,false] [false,true,true,true] (.child 5 [false,false,true,false] [false,true,false,true] (.child 6 [false,false,false,true] [false,true,false,false] (.child 7 [false,false,false,false] [false,true,false,false] (.child 8 [false,false,false,false] [false,true,false,false] (.child 9 [false,false,false,false] [false,true,false,false] (.child 10 [false,false,false,false] [false,true,false,false] (.child 11 [false,true,false,false] [false,false,false,false] (.child 12 [false,false,false,false] [false,false,false,false] (.leaf [false,false,false,false]) .stop) .stop) .stop) .stop) .stop) .stop) (.child 10 [false,false,false,false] [false,true,false,true] (.child 6 [false,false,false,true] [false,true,false,false] (.child 7 [false,false,false,false] [false,true,false,false] (.child 8 [false,false,false,false] [false,true,false,false] (.child 9 [false,false,false,false] [false,true,false,false] (.child 11 [false,true,false,false] [false,false,false,false] (.child 12 [false,false,false,false] [false,false,false,false] (.leaf [false,false,false,false]) .stop) .stop) .stop) .stop) .stop) .stop) .stop)) (.child 10 [false,false,false,false] [false,true,true,true] (.child 5 [false,false,true,false] [false,true,false,true] (.child 6 [false,false,false,true] [false,true,false,false] (.child 7 [false,false,false,false] [false,true,false,false] (.child 8 [false,false,false,false] [false,true,false,false] (.child 9 [false,false,false,false] [false,true,false,false] (.child 11 [false,true,false,false] [false,false,false,false] (.child 12 [false,false,false,false] [false,false,false,false] (.leaf [false,false,false,false]) .stop) .stop) .stop) .stop) .stop) .stop) .stop) .stop)) (.child 10 [false,false,false,false] [true,true,true,true] (.child 4 [true,false,false,false] [false,true,true,true] (.child 5 [false,false,true,false] [false,true,false,true] (.child 6 [false,false,false,true] [false,true,false,false] (.child 7 [false,false,false,false] [false,true,false,false] (.child 8 [false,false,false,false] [false,true,false,false] (.child 9 [false,false,false,false] [false,true,false,false] (.child 11 [false,true,false,false] [false,false,false,false] (.child 12 [false,false,false,false] [false,false,false,false] (.leaf [false,false,false,false]) .stop) .stop) .stop) .stop) .stop) .stop) .stop) .stop) .stop)) (by kernel_rfl) ?_
   simp
   try intros
   rw [Tr_child];refine ⟨?_,?_⟩
   ·skip
    simp
    try intros
    refine ACall.ro (specOpTo_c r.buf (by omega)) (by simp) ?_;simp
    try intros
    rw [Tr_child];refine ⟨?_,?_⟩
    ·skip
     simp
     try intros
     refine ACall.curN (l02Draw_c l hl (opTo r.buf) (by omega) (by omega)).toN hu (by simp) rfl g0 g1 (by simp) ?_;rintro _ i5 h5 ⟨ops,⟨hol,-,hod⟩,rfl⟩ g0 g1;have hk:=hod.ok (by omega) (by omega) hol;have hed:=repD_edit x2 hk.1 hk.2.1 hk.2.2;have hok:=(edit_ok x2.1 hk.1 hk.2.1).1;simp
     try intros
     rw [Tr_child];refine ⟨?_,?_⟩
     ·skip
      simp
      try intros
      have hc:=specRepEdit_i r (by omega) ops (by have:=opOk_n hk.1;omega);generalize fRepEdit r ops = q at hc hed hok;obtain ⟨r',fine⟩:=q;simp only at hc hed hok;subst hok;refine ACall.ro hc (by simp [Rep.row]) ?_;simp [Rep.res]
      try intros
      refine Ent.refl ⟨r',n - 1,_,⟨by omega,repD_seq (repD_le hed (by omega)) (by omega),g0,g1⟩,by omega,?_⟩;have wn:=Go.IntWalk.i64_in ((n : Int) - 1) (by omega);simp [wn];omega
     ·skip
      simp
      try intros
      have hc:=specRepEdit_i r (by omega) ops (by have:=opOk_n hk.1;omega);generalize fRepEdit r ops = q at hc hed hok;obtain ⟨r',fine⟩:=q;simp only at hc hed hok;subst hok;refine ACall.ro hc (by simp [Rep.row]) ?_;simp [Rep.res]
      try intros
      refine Ent.refl ⟨r',n - 1,_,⟨by omega,repD_seq (repD_le hed (by omega)) (by omega),g0,g1⟩,by omega,?_⟩;have wn:=Go.IntWalk.i64_in ((n : Int) - 1) (by omega);simp [wn];omega
    ·skip
     simp
     try intros
     refine ACall.curN (l02Draw_c l hl (opTo r.buf) (by omega) (by omega)).toN hu (by simp) rfl g0 g1 (by simp) ?_;rintro _ i5 h5 ⟨ops,⟨hol,-,hod⟩,rfl⟩ g0 g1;have hk:=hod.ok (by omega) (by omega) hol;have hed:=repD_edit x2 hk.1 hk.2.1 hk.2.2;have hok:=(edit_ok x2.1 hk.1 hk.2.1).1;simp
     try intros
     have hc:=specRepEdit_i r (by omega) ops (by have:=opOk_n hk.1;omega);generalize fRepEdit r ops = q at hc hed hok;obtain ⟨r',fine⟩:=q;simp only at hc hed hok;subst hok;refine ACall.ro hc (by simp [Rep.row]) ?_;simp [Rep.res]
     try intros
     refine Ent.refl ⟨r',n - 1,_,⟨by omega,repD_seq (repD_le hed (by omega)) (by omega),g0,g1⟩,by omega,?_⟩;have wn:=Go.IntWalk.i64_in ((n : Int) - 1) (by omega);simp [wn];omega
   ·skip
    simp
    try intros
    refine ACall.ro (specOpTo_c r.buf (by omega)) (by simp) ?_;simp
    try intros
    refine ACall.curN (l02Draw_c l hl (opTo r.buf) (by omega) (by omega)).toN hu (by simp) rfl g0 g1 (by simp) ?_;rintro _ i5 h5 ⟨ops,⟨hol,-,hod⟩,rfl⟩ g0 g1;have hk:=hod.ok (by omega) (by omega) hol;have hed:=repD_edit x2 hk.1 hk.2.1 hk.2.2;have hok:=(edit_ok x2.1 hk.1 hk.2.1).1;simp
    try intros
    have hc:=specRepEdit_i r (by omega) ops (by have:=opOk_n hk.1;omega);generalize fRepEdit r ops = q at hc hed hok;obtain ⟨r',fine⟩:=q;simp only at hc hed hok;subst hok;refine ACall.ro hc (by simp [Rep.row]) ?_;simp [Rep.res]
    try intros
    refine Ent.refl ⟨r',n - 1,_,⟨by omega,repD_seq (repD_le hed (by omega)) (by omega),g0,g1⟩,by omega,?_⟩;have wn:=Go.IntWalk.i64_in ((n : Int) - 1) (by omega);simp [wn];omega
 | true=>
   simp;have hsd:=repD_send x2;have hcs:=specRepSend_i r (repOk_b x2.1);generalize fRepSend r = q at hsd hcs;obtain ⟨rs,cs,fs⟩:=q;simp only at hsd hcs;refine ACall.ro hcs (by simp [Rep.row]) ?_;simp [Rep.res,Call.res];intros
   cases fs with
   | false=>
     simp;have hn2:=repOk_b x2.1;have hbuf:=opOk_n x2.1.2.2.2.2.2.1.1;have hto:=x2.2.2.2.2.2.1;have hpos:=atoms_to x2.1.2.2.2.2.2.1.1
     refine DrawT.introS eok mix [0,1,2,3] [4,5,6,7,8,9,10,11,12] (.child 4 [true,false,false,false] [false,true,true,true] (.child 5 [false,false,true,false] [false,true,false,true] (.child 6 [false,false,false,true] [false,true,false,false] (.child 7 [false,false,false,false] [false,true,false,false] (.child 8 [false,false,false,false] [false,true,false,false] (.child 9 [false,false,false,false] [false,true,false,false] (.child 10 [false,false,false,false] [false,true,false,false] (.child 11 [false,true,false,false] [false,false,false,false] (.child 12 [false,false,false,false] [false,false,false,false] (.leaf [false,false,false,false]) .stop) .stop) .stop) .stop) .stop) .stop) (.child 10 [false,false,false,false] [false,true,false,true] (.child 6 [false,false,false,true] [false,true,false,false] (.child 7 [false,false,false,false] [false,true,false,false] (.child 8 [false,false,false,false] [false,true,false,false] (.child 9 [false,false,false,false] [false,true,false,false] (.child 11 [false,true,false,false] [false,false,false,false] (.child 12 [false,false,false,false] [false,false,false,false] (.leaf [false,false,false,false]) .stop) .stop) .stop) .stop) .stop) .stop) .stop)) (.child 10 [false,false,false,false] [false,true,true,true] (.child 5 [false,false,true,false] [false,true,false,true] (.child 6 [false,false,false,true] [false,true,false,false] (.child 7 [false,false,false,false] [false,true,false,false] (.child 8 [false,false,false,false] [false,true,false,false] (.child 9 [false,false,false,false] [false,true,false,false] (.child 11 [false,true,false,false] [false,false,false,false] (.child 12 [false,false,false,false] [false,false,false,false] (.leaf [false,false,false,false]) .stop) .stop) .stop) .stop) .stop) .stop) .stop) .stop)) (.child 10 [false,false,false,false] [true,true,true,true] (.child 4 [true,false,false,false] [false,true,true,true] (.child 5 [false,false,true,false] [false,true,false,true] (.child 6 [false,false,false,true] [false,true,false,false] (.child 7 [false,false,false,false] [false,true,false,false] (.child 8 [false,false,false,false] [false,true,false,false] (.child 9 [false,false,false,false] [false,true,false,false] (.child 11 [false,true,false,false] [false,false,false,false] (.child 12 [false,false,false,false] [false,false,false,false] (.leaf [false,false,false,false]) .stop) .stop) .stop) .stop) .stop) .stop) .stop) .stop) .stop)) (by kernel_rfl) ?_
     simp
     try intros
     rw [Tr_child];refine ⟨?_,?_⟩
     ·skip
      simp
      try intros
      refine ACall.ro (specOpTo_c r.buf (by omega)) (by simp) ?_;simp
      try intros
      rw [Tr_child];refine ⟨?_,?_⟩
      ·skip
       simp
       try intros
       refine ACall.curN (l02Draw_c l hl (opTo r.buf) (by omega) (by omega)).toN hu (by simp) rfl g0 g1 (by simp) ?_;rintro _ i5 h5 ⟨ops,⟨hol,-,hod⟩,rfl⟩ g0 g1;have hk:=hod.ok (by omega) (by omega) hol;have hed:=repD_edit x2 hk.1 hk.2.1 hk.2.2;have hok:=(edit_ok x2.1 hk.1 hk.2.1).1;simp
       try intros
       rw [Tr_child];refine ⟨?_,?_⟩
       ·skip
        simp
        try intros
        have hc:=specRepEdit_i r (by omega) ops (by have:=opOk_n hk.1;omega);generalize fRepEdit r ops = q at hc hed hok;obtain ⟨r',fine⟩:=q;simp only at hc hed hok;subst hok;refine ACall.ro hc (by simp [Rep.row]) ?_;simp [Rep.res]
        try intros
        refine Ent.refl ⟨r',n - 1,_,⟨by omega,repD_seq (repD_le hed (by omega)) (by omega),g0,g1⟩,by omega,?_⟩;have wn:=Go.IntWalk.i64_in ((n : Int) - 1) (by omega);simp [wn];omega
       ·skip
        simp
        try intros
        have hc:=specRepEdit_i r (by omega) ops (by have:=opOk_n hk.1;omega);generalize fRepEdit r ops = q at hc hed hok;obtain ⟨r',fine⟩:=q;simp only at hc hed hok;subst hok;refine ACall.ro hc (by simp [Rep.row]) ?_;simp [Rep.res]
        try intros
        refine Ent.refl ⟨r',n - 1,_,⟨by omega,repD_seq (repD_le hed (by omega)) (by omega),g0,g1⟩,by omega,?_⟩;have wn:=Go.IntWalk.i64_in ((n : Int) - 1) (by omega);simp [wn];omega
      ·skip
       simp
       try intros
       refine ACall.curN (l02Draw_c l hl (opTo r.buf) (by omega) (by omega)).toN hu (by simp) rfl g0 g1 (by simp) ?_;rintro _ i5 h5 ⟨ops,⟨hol,-,hod⟩,rfl⟩ g0 g1;have hk:=hod.ok (by omega) (by omega) hol;have hed:=repD_edit x2 hk.1 hk.2.1 hk.2.2;have hok:=(edit_ok x2.1 hk.1 hk.2.1).1;simp
       try intros
       have hc:=specRepEdit_i r (by omega) ops (by have:=opOk_n hk.1;omega);generalize fRepEdit r ops = q at hc hed hok;obtain ⟨r',fine⟩:=q;simp only at hc hed hok;subst hok;refine ACall.ro hc (by simp [Rep.row]) ?_;simp [Rep.res]
       try intros
       refine Ent.refl ⟨r',n - 1,_,⟨by omega,repD_seq (repD_le hed (by omega)) (by omega),g0,g1⟩,by omega,?_⟩;have wn:=Go.IntWalk.i64_in ((n : Int) - 1) (by omega);simp [wn];omega
     ·skip
      simp
      try intros
      refine ACall.ro (specOpTo_c r.buf (by omega)) (by simp) ?_;simp
      try intros
      refine ACall.curN (l02Draw_c l hl (opTo r.buf) (by omega) (by omega)).toN hu (by simp) rfl g0 g1 (by simp) ?_;rintro _ i5 h5 ⟨ops,⟨hol,-,hod⟩,rfl⟩ g0 g1;have hk:=hod.ok (by omega) (by omega) hol;have hed:=repD_edit x2 hk.1 hk.2.1 hk.2.2;have hok:=(edit_ok x2.1 hk.1 hk.2.1).1;simp
      try intros
      have hc:=specRepEdit_i r (by omega) ops (by have:=opOk_n hk.1;omega);generalize fRepEdit r ops = q at hc hed hok;obtain ⟨r',fine⟩:=q;simp only at hc hed hok;subst hok;refine ACall.ro hc (by simp [Rep.row]) ?_;simp [Rep.res]
      try intros
      refine Ent.refl ⟨r',n - 1,_,⟨by omega,repD_seq (repD_le hed (by omega)) (by omega),g0,g1⟩,by omega,?_⟩;have wn:=Go.IntWalk.i64_in ((n : Int) - 1) (by omega);simp [wn];omega
   | true=>
     have x3:=hsd rfl;simp;have hn2:=repOk_b x3.1;have hbuf:=opOk_n x3.1.2.2.2.2.2.1.1;have hto:=x3.2.2.2.2.2.1;have hpos:=atoms_to x3.1.2.2.2.2.2.1.1
     refine DrawT.introS eok mix [0,1,2,3] [4,5,6,7,8,9,10,11,12] (.child 4 [true,false,false,false] [false,true,true,true] (.child 5 [false,false,true,false] [false,true,false,true] (.child 6 [false,false,false,true] [false,true,false,false] (.child 7 [false,false,false,false] [false,true,false,false] (.child 8 [false,false,false,false] [false,true,false,false] (.child 9 [false,false,false,false] [false,true,false,false] (.child 10 [false,false,false,false] [false,true,false,false] (.child 11 [false,true,false,false] [false,false,false,false] (.child 12 [false,false,false,false] [false,false,false,false] (.leaf [false,false,false,false]) .stop) .stop) .stop) .stop) .stop) .stop) (.child 10 [false,false,false,false] [false,true,false,true] (.child 6 [false,false,false,true] [false,true,false,false] (.child 7 [false,false,false,false] [false,true,false,false] (.child 8 [false,false,false,false] [false,true,false,false] (.child 9 [false,false,false,false] [false,true,false,false] (.child 11 [false,true,false,false] [false,false,false,false] (.child 12 [false,false,false,false] [false,false,false,false] (.leaf [false,false,false,false]) .stop) .stop) .stop) .stop) .stop) .stop) .stop)) (.child 10 [false,false,false,false] [false,true,true,true] (.child 5 [false,false,true,false] [false,true,false,true] (.child 6 [false,false,false,true] [false,true,false,false] (.child 7 [false,false,false,false] [false,true,false,false] (.child 8 [false,false,false,false] [false,true,false,false] (.child 9 [false,false,false,false] [false,true,false,false] (.child 11 [false,true,false,false] [false,false,false,false] (.child 12 [false,false,false,false] [false,false,false,false] (.leaf [false,false,false,false]) .stop) .stop) .stop) .stop) .stop) .stop) .stop) .stop)) (.child 10 [false,false,false,false] [true,true,true,true] (.child 4 [true,false,false,false] [false,true,true,true] (.child 5 [false,false,true,false] [false,true,false,true] (.child 6 [false,false,false,true] [false,true,false,false] (.child 7 [false,false,false,false] [false,true,false,false] (.child 8 [false,false,false,false] [false,true,false,false] (.child 9 [false,false,false,false] [false,true,false,false] (.child 11 [false,true,false,false] [false,false,false,false] (.child 12 [false,false,false,false] [false,false,false,false] (.leaf [false,false,false,false]) .stop) .stop) .stop) .stop) .stop) .stop) .stop) .stop) .stop)) (by kernel_rfl) ?_
     simp
     try intros
     rw [Tr_child];refine ⟨?_,?_⟩
     ·skip
      simp
      try intros
      refine ACall.ro (specOpTo_c rs.buf (by omega)) (by simp) ?_;simp
      try intros
      rw [Tr_child];refine ⟨?_,?_⟩
      ·skip
       simp
       try intros
       refine ACall.curN (l02Draw_c l hl (opTo rs.buf) (by omega) (by omega)).toN hu (by simp) rfl g0 g1 (by simp) ?_;rintro _ i5 h5 ⟨ops,⟨hol,-,hod⟩,rfl⟩ g0 g1;have hk:=hod.ok (by omega) (by omega) hol;have hed:=repD_edit x3 hk.1 hk.2.1 hk.2.2;have hok:=(edit_ok x3.1 hk.1 hk.2.1).1;simp
       try intros
       rw [Tr_child];refine ⟨?_,?_⟩
       ·skip
        simp
        try intros
        have hc:=specRepEdit_i rs (by omega) ops (by have:=opOk_n hk.1;omega);generalize fRepEdit rs ops = q at hc hed hok;obtain ⟨r',fine⟩:=q;simp only at hc hed hok;subst hok;refine ACall.ro hc (by simp [Rep.row]) ?_;simp [Rep.res]
        try intros
        refine Ent.refl ⟨r',n - 1,_,⟨by omega,repD_seq (repD_le hed (by omega)) (by omega),g0,g1⟩,by omega,?_⟩;have wn:=Go.IntWalk.i64_in ((n : Int) - 1) (by omega);simp [wn];omega
       ·skip
        simp
        try intros
        have hc:=specRepEdit_i rs (by omega) ops (by have:=opOk_n hk.1;omega);generalize fRepEdit rs ops = q at hc hed hok;obtain ⟨r',fine⟩:=q;simp only at hc hed hok;subst hok;refine ACall.ro hc (by simp [Rep.row]) ?_;simp [Rep.res]
        try intros
        refine Ent.refl ⟨r',n - 1,_,⟨by omega,repD_seq (repD_le hed (by omega)) (by omega),g0,g1⟩,by omega,?_⟩;have wn:=Go.IntWalk.i64_in ((n : Int) - 1) (by omega);simp [wn];omega
      ·skip
       simp
       try intros
       refine ACall.curN (l02Draw_c l hl (opTo rs.buf) (by omega) (by omega)).toN hu (by simp) rfl g0 g1 (by simp) ?_;rintro _ i5 h5 ⟨ops,⟨hol,-,hod⟩,rfl⟩ g0 g1;have hk:=hod.ok (by omega) (by omega) hol;have hed:=repD_edit x3 hk.1 hk.2.1 hk.2.2;have hok:=(edit_ok x3.1 hk.1 hk.2.1).1;simp
       try intros
       have hc:=specRepEdit_i rs (by omega) ops (by have:=opOk_n hk.1;omega);generalize fRepEdit rs ops = q at hc hed hok;obtain ⟨r',fine⟩:=q;simp only at hc hed hok;subst hok;refine ACall.ro hc (by simp [Rep.row]) ?_;simp [Rep.res]
       try intros
       refine Ent.refl ⟨r',n - 1,_,⟨by omega,repD_seq (repD_le hed (by omega)) (by omega),g0,g1⟩,by omega,?_⟩;have wn:=Go.IntWalk.i64_in ((n : Int) - 1) (by omega);simp [wn];omega
     ·skip
      simp
      try intros
      refine ACall.ro (specOpTo_c rs.buf (by omega)) (by simp) ?_;simp
      try intros
      refine ACall.curN (l02Draw_c l hl (opTo rs.buf) (by omega) (by omega)).toN hu (by simp) rfl g0 g1 (by simp) ?_;rintro _ i5 h5 ⟨ops,⟨hol,-,hod⟩,rfl⟩ g0 g1;have hk:=hod.ok (by omega) (by omega) hol;have hed:=repD_edit x3 hk.1 hk.2.1 hk.2.2;have hok:=(edit_ok x3.1 hk.1 hk.2.1).1;simp
      try intros
      have hc:=specRepEdit_i rs (by omega) ops (by have:=opOk_n hk.1;omega);generalize fRepEdit rs ops = q at hc hed hok;obtain ⟨r',fine⟩:=q;simp only at hc hed hok;subst hok;refine ACall.ro hc (by simp [Rep.row]) ?_;simp [Rep.res]
      try intros
      refine Ent.refl ⟨r',n - 1,_,⟨by omega,repD_seq (repD_le hed (by omega)) (by omega),g0,g1⟩,by omega,?_⟩;have wn:=Go.IntWalk.i64_in ((n : Int) - 1) (by omega);simp [wn];omega
theorem implSignsSame_c (a b : List Int) (hl : a.length≤2 ^ 40) : PureC Try.prog 12 [.c (.s (a.map intR)),.c (.s (b.map intR))] (.one (.c (vb (a = b)) 1)):=by
 refine PureC.intro' tt_ok Try.func12 (by kernel_rfl) rfl rfl rfl (Nat.le_of_ble_eq_true rfl) (fun w0 base=>?_);simp;refine ACall.pure (slEqInt_c a b hl) (by simp) ?_;simp
theorem makeRep_c (l : List UInt8) (hl : l.length≤2 ^ 40) : PureN Try.prog 6 [.c (.s (l.map byteR))] (resR (repD 3 3)):=by
 refine PureN.introC tt_ok Try.func6 (by kernel_rfl) rfl rfl rfl (Nat.le_of_ble_eq_true rfl) (fun w0 base o u hu=>?_);simp;intro b2;refine ACall.newC (l01New_c l hl) hu (by simp) (fun b h=>?_);simp;refine ACall.curN (l17Draw_c l hl) hu (by simp) rfl (by omega) (by omega) (by simp) ?_
 rintro _ i1 h1 ⟨r,hr,rfl⟩ g0 g1
 simp [Rep.res];refine ⟨_,⟨r,hr,rfl⟩,?_⟩;simp [Rep.res]
def resE (p : Entry→Prop) (rr : RR) : Prop:=∃ e : Entry,p e∧rr = .one (.agg e.res)
theorem makeEntry_c (l : List UInt8) (hl : l.length≤2 ^ 40) (r : Rep) (hr : r.text.length≤7) : PureN Try.prog 19 [.c (.s (l.map byteR)),.agg r.row] (resE fun e=>entryOk e∧e.client = 5∧opFrom e.o = r.text.length∧opTo e.o≤r.text.length + 12):=by
 refine PureN.introC tt_ok Try.func19 (by kernel_rfl) rfl rfl rfl (Nat.le_of_ble_eq_true rfl) (fun w0 base o u hu=>?_);simp [Rep.row];intro b3 b4;refine ACall.newC (l01New_c l hl) hu (by simp) (fun b h=>?_);simp;have g0 : (0 : Int)≤0:=by omega
 have g1 : (0 : Int)≤(l.length : Int):=by omega
 refine DrawT.introS eok mix [0,3,4,5,6] [1,2,7,8,9,10] (.child 1 [false,false,false,false,true] [true,true,true,true,false] (.child 2 [false,false,false,false,false] [true,true,true,true,false] (.child 7 [true,false,false,true,false] [false,true,true,false,false] (.child 8 [false,false,false,false,false] [false,true,true,false,false] (.child 9 [false,false,false,false,false] [false,true,true,false,false] (.child 10 [false,true,true,false,false] [false,false,false,false,false] (.leaf [false,false,false,false,false]) .stop) .stop) .stop) .stop) (.child 7 [true,false,false,true,false] [false,true,true,false,false] (.child 2 [false,false,false,false,false] [false,true,true,false,false] (.child 8 [false,false,false,false,false] [false,true,true,false,false] (.child 9 [false,false,false,false,false] [false,true,true,false,false] (.child 10 [false,true,true,false,false] [false,false,false,false,false] (.leaf [false,false,false,false,false]) .stop) .stop) .stop) (.child 8 [false,false,false,false,false] [false,true,true,false,false] (.child 2 [false,false,false,false,false] [false,true,true,false,false] (.child 9 [false,false,false,false,false] [false,true,true,false,false] (.child 10 [false,true,true,false,false] [false,false,false,false,false] (.leaf [false,false,false,false,false]) .stop) .stop) .stop) .stop)) .stop)) .stop) (by kernel_rfl) ?_
 simp
 try intros
 refine ACall.cur (l01Below_c l hl 9) hu (by simp) rfl g0 g1 (by simp) ?_;rintro _ i2 h2 ⟨y,hy,rfl⟩ g0 g1;have wy:=Go.IntWalk.i64_in (1 + y) (by have:=hy.1;have:=hy.2;omega);have hy2:=hy.2.2 (by omega);have hy1:=hy.1;simp
 try intros
 rw [Tr_child];refine ⟨?_,?_⟩
 ·skip
  simp
  try intros
  refine ACall.curN (l02Draw_c l hl r.text.length (by omega) (by omega)).toN hu (by simp) rfl g0 g1 (by simp) ?_;rintro _ i3 h3 ⟨op,⟨k1,-,k2⟩,rfl⟩ g0 g1;have hk:=k2.ok (by omega) (by omega) k1;simp
  try intros
  refine ACall.ro (specOpNorm_c op (by have:=opOk_n hk.1;omega)) (by simp) ?_;simp
  try intros
  have hn:=opNorm_ok hk.1;refine ⟨_,⟨⟨5,1 + y,opNorm op⟩,⟨⟨by simp,by simp only;omega,isNorm_opNorm hk.1⟩,rfl,by simp only;omega,by simp only;omega⟩,rfl⟩,?_⟩;simp [Entry.res,wy]
 ·skip
  simp
  try intros
  refine ACall.curN (l02Draw_c l hl r.text.length (by omega) (by omega)).toN hu (by simp) rfl g0 g1 (by simp) ?_;rintro _ i3 h3 ⟨op,⟨k1,-,k2⟩,rfl⟩ g0 g1;have hk:=k2.ok (by omega) (by omega) k1;simp
  try intros
  rw [Tr_child];refine ⟨?_,?_⟩
  ·skip
   simp
   try intros
   refine ACall.ro (specOpNorm_c op (by have:=opOk_n hk.1;omega)) (by simp) ?_;simp
   try intros
   have hn:=opNorm_ok hk.1;refine ⟨_,⟨⟨5,1 + y,opNorm op⟩,⟨⟨by simp,by simp only;omega,isNorm_opNorm hk.1⟩,rfl,by simp only;omega,by simp only;omega⟩,rfl⟩,?_⟩;simp [Entry.res,wy]
  ·skip
   simp
   try intros
   refine ACall.ro (specOpNorm_c op (by have:=opOk_n hk.1;omega)) (by simp) ?_;simp
   try intros
   have hn:=opNorm_ok hk.1;refine ⟨_,⟨⟨5,1 + y,opNorm op⟩,⟨⟨by simp,by simp only;omega,isNorm_opNorm hk.1⟩,rfl,by simp only;omega,by simp only;omega⟩,rfl⟩,?_⟩;simp [Entry.res,wy]
theorem lawFnTake_c (l : List UInt8) (hl : l.length≤9223372036854775807) : PureC Try.prog 4 [.c (.s (l.map byteR))] (.one (.c (.v (.bool true)) 1)):=by
 refine PureN.toC rfl (PureN.intro tt_ok Try.func4 (by kernel_rfl) rfl rfl rfl (Nat.le_of_ble_eq_true rfl) (fun w0 base o=>?_));simp;by_cases hbig : 1048576 < (l.length : Int)
 ·simp [hbig]
 have hl2 : l.length≤2 ^ 40:=by omega
 simp [hbig];refine ACall.pureN (makeRep_c l hl2) (by simp) ?_
 rintro _ ⟨r,hr,rfl⟩
 simp [Rep.res];intro b3;have hb:=repOk_b hr.1;have ht:=rep_text hr.1;have d2:=hr.2.1;have d4:=hr.2.2.2.1;have d5:=hr.2.2.2.2.1;have d6:=hr.2.2.2.2.2.1;have d7:=hr.2.2.2.2.2.2;refine ACall.pureN (makeEntry_c l hl2 r d5) (by simp [Rep.row]) ?_
 rintro _ ⟨e,⟨he1,he2,he3,he4⟩,rfl⟩
 simp [Entry.res];intro b4;obtain ⟨k1,k2,k3,k4,k5,k6,k7,k8,k9,k10,k11⟩:=takeO_ok hr.1 he1 he3 (by omega) (by omega) (by omega);have hen:=opOk_n he1.2.2.1;have hsn:=opOk_n hr.1.2.2.2.2.1.1;have hbn:=opOk_n hr.1.2.2.2.2.2.1.1;have hax:=apply_yes.2 k3;have hac:=apply_yes.2 k4;have hc:=implRepTake_i r (by omega) e (by unfold nEntry;omega);have hy:=ack_ok hr.1;have hcy:=implRepTake_i r (by omega) ⟨r.client,r.seq,r.sent⟩ (by unfold nEntry;simp only;omega);generalize fRepTake r ⟨r.client,r.seq,r.sent⟩ = qy at hy hcy;obtain ⟨y,ack⟩:=qy;simp only at hy hcy;generalize fRepTake r e = q at hc k5 k6 k7 k8 k9 k10 k11;obtain ⟨x,ok⟩:=q;simp only at hc k5 k6 k7 k8 k9 k10;subst k5;have htx:=rep_text k9;have hbx:=repOk_b k9;refine ACall.ro hc (by simp [Rep.row,Entry.row]) ?_;simp [Rep.res];intro b5
 have hc2:=implTransform_i e.o r.sent (by omega) (by omega);have hfn:=opOk_n (fTransform_ok k1).okx;generalize fTransform e.o r.sent = q at hc2 k1 k2 k4 k10 k11 hac hfn;obtain ⟨f,f',okf⟩:=q;simp only at hc2 k1 k2 k4 k10 hac hfn;subst k1;refine ACall.ro hc2 (by simp) ?_;simp;have hc3:=implTransform_i f r.buf (by omega) (by omega);have hgn:=opOk_n k4.1;generalize fTransform f r.buf = q at hc3 k2 k4 k10 hac hgn;obtain ⟨g,g',okg⟩:=q;simp only at hc3 k2 k4 k10 hac hgn;subst k2;refine ACall.ro hc3 (by simp) ?_;simp;have hc4:=implApply_c e.o r.text (by omega) (by omega);have htl:=(apply_textOk k3).1.1;generalize apply e.o r.text = q at hc4 hax k6 htl;obtain ⟨t,ok4⟩:=q;simp only at hc4 hax k6 htl;subst hax;refine ACall.ro hc4 (by simp) ?_;simp;refine ACall.ro (implRepText_i r (by omega)) (by simp [Rep.row]) ?_;rw [ht.1];simp
 have hc5:=implApply_c g (rt r) (by omega) (by have:=ht.2.1.1;omega);have hul:=(apply_textOk k4).1.1;generalize apply g (rt r) = q at hc5 hac k10 hul;obtain ⟨uu,ok5⟩:=q;simp only at hc5 hac k10 hul;subst hac;refine ACall.ro hc5 (by simp) ?_;simp;refine ACall.ro (implSignsSame_c x.text t (by rw [k6];omega)) (by simp) ?_;simp [k6];refine ACall.ro (implRepText_i x (by omega)) (by simp [Rep.row,k6]) ?_;rw [htx.1,k10];simp;refine ACall.ro (implSignsSame_c uu uu (by omega)) (by simp) ?_;have wr : Go.IntKind.i64.wrap (r.rev + 1) = r.rev + 1:=Go.IntWalk.i64_in _ (by have:=hr.1.2.2.1;omega);simp [k7,k8,wr]
 cases hh : r.has with
 | false=>simp
 | true=>
   obtain ⟨y1,y2,y3,y4,y5,-⟩:=hy hh (by omega);subst y1;have hty:=rep_text y4;have hby:=repOk_b y4;simp;refine ACall.ro hcy (by simp [Rep.row,Entry.row,hh]) ?_;simp [Rep.res];intro b17;have ct:=implRepText_i y (by omega);rw [hty.1,y5] at ct;have cr:=implRepText_i r (by omega);rw [ht.1] at cr;refine DrawT.quiet eok mix (by kernel_rfl) ?_;simp [y2];refine ⟨_,_,ct,by simp [Rep.row,y2],?_⟩;simp;refine ⟨_,_,cr,by simp [Rep.row,hh],?_⟩;simp;refine ⟨_,_,implSignsSame_c (rt r) (rt r) (by have:=ht.2.1.1;omega),by simp,?_⟩;simp [y3,wr]
end Go.Proofs.Ytoldjebobgocpaa
