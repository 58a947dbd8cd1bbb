import Derived.Test.YtoldjebobgocpaaGreatPN
import Derived.Test.YtoldjebobgocpaaGreatPI
import Derived.Test.YtoldjebobgocpaaGreatPG
import Derived.Test.YtoldjebobgocpaaGreatPJ
import Derived.Test.YtoldjebobgocpaaGreatPM
namespace Go.Proofs.YtoldjebobgocpaaGreat
open Go.AM
set_option maxRecDepth 20000
set_option maxHeartbeats 12800000
def LG (p : Hub->Prop) (rr : RR) : Prop:=∃ h : Hub,p h/\rr = .one (.agg h.res)
theorem oQ {o : List Part} (h : o.length<=44) (hp : ∀ p∈o,mc p) : nL aF o<=2 ^ 40:=by
 have:=nI (f:=aF) (l:=o) (B:=2 ^ 20) (λp hq=>by have:=hp p hq;unfold mc at this;unfold aF;omega);omega
theorem B3 (l : List UInt8) (hl : l.length<=2 ^ 40) (a : Hub) (ok : ak a) : oD Tryz.prog 141 (l.map eA) 206 [.agg a.row] (LG ak):=by
 refine oD.intro ae Tryz.func206 (by kernel_rfl) rfl rfl rfl (Nat.le_of_ble_eq_true rfl) (λw0 base o b u i h hi0 hi1 hu=>?_);have hi1 : i<=(l.length : Int):=by simpa using hi1
 have hn : bW a<=2 ^ 28:=Nat.le_trans (eb ok).1 (by decide);simp [Hub.row];intro b3 b4 b5;refine aa.cur (al l hl 10) hu (by simp) rfl hi0 hi1 (by simp) ?_
 rintro _ i1 h1 ⟨z,hz,rfl⟩ g0 g1
 simp;by_cases z0 : z = 0
 ·simp [z0]
  refine drw eok mix [0,1,3] [2,4,5,6,7,8,9,10] (.c 3 2 2 5 (.c 3 4 1 4 (.c 3 5 4 0 (.c 3 6 0 0 (.c 3 7 0 0 (.c 3 8 0 0 (.c 3 9 0 0 (.c 3 10 0 0 (.l 3 0) .s) .s) .s) .s) .s) .s) .s) .s) ?_;simp
  try intros
  refine bN (mX l hl).toN hu (by simp) rfl g0 g1 (by simp) ?_;rintro _ i2 h2 ⟨s,hs,rfl⟩ g0 g1;simp
  try intros
  refine bN (gW l hl 6 (by omega) (by omega)).toN hu (by simp) rfl g0 g1 (by simp) ?_;rintro _ i3 h3 ⟨t,ht,rfl⟩ g0 g1;simp
  try intros
  have ho:=mt (h:=a) (name:=s) (t:=t);have hc:=ia a hn s (by have:=hs.1;omega) t (by have:=ht.1;omega);generalize aW a s t = r at ho hc;obtain ⟨x,code⟩:=r;refine aa.ro hc (by simp [Hub.row]) ?_;simp [Hub.res]
  try intros
  by_cases hz : code = 0
  ·simp [hz]
   refine ⟨_,⟨x,(ho hz).1,rfl⟩,?_,aj rfl g0 g1⟩;simp [Hub.res]
  ·simp [hz]
   refine ⟨_,⟨a,ok,rfl⟩,?_,aj rfl g0 g1⟩;simp [Hub.res]
 by_cases z1 : z = 1
 ·simp [z1]
  refine drw eok mix [0,1,3] [2,4,5,6,7,8,9,10,11,12] (.c 3 2 2 5 (.c 3 4 1 4 (.c 3 5 0 4 (.c 3 6 4 0 (.c 3 7 0 0 (.c 3 8 0 0 (.c 3 9 0 0 (.c 3 10 0 0 (.c 3 11 0 0 (.c 3 12 0 0 (.l 3 0) .s) .s) .s) .s) .s) .s) .s) .s) .s) .s) ?_;simp
  try intros
  refine bN (mX l hl).toN hu (by simp) rfl g0 g1 (by simp) ?_;rintro _ i2 h2 ⟨s,hs,rfl⟩ g0 g1;simp
  try intros
  refine aa.cur (al l hl 3) hu (by simp) rfl g0 g1 (by simp) ?_;rintro _ i3 h3 ⟨y,hy,rfl⟩ g0 g1;have wy:=Go.IntWalk.i64_in (1 + y) (by have:=hy.1;have:=hy.2;omega);simp
  try intros
  have ho:=kI (h:=a) (name:=s) (room:=1 + y);have hc:=je a hn s (1 + y);generalize ap a s (1 + y) = r at ho hc;obtain ⟨x,id,code⟩:=r;refine aa.ro hc (by simp [Hub.row,wy]) ?_;simp [Hub.res]
  try intros
  by_cases hz : code = 0
  ·simp [hz]
   refine ⟨_,⟨x,(ho hz).1,rfl⟩,?_,aj rfl g0 g1⟩;simp [Hub.res]
  ·simp [hz]
   refine ⟨_,⟨a,ok,rfl⟩,?_,aj rfl g0 g1⟩;simp [Hub.res]
 by_cases z2 : z = 2
 ·simp [z2]
  refine drw eok mix [0,1,3] [2,4,5,6,7,8,9,10,11,12] (.c 3 2 2 5 (.c 3 4 1 4 (.c 3 5 0 4 (.c 3 6 4 0 (.c 3 7 0 0 (.c 3 8 0 0 (.c 3 9 0 0 (.c 3 10 0 0 (.c 3 11 0 0 (.c 3 12 0 0 (.l 3 0) .s) .s) .s) .s) .s) .s) .s) .s) .s) .s) ?_;simp
  try intros
  refine aa.cur (al l hl 5) hu (by simp) rfl g0 g1 (by simp) ?_;rintro _ i2 h2 ⟨q,hq,rfl⟩ g0 g1;simp
  try intros
  refine aa.cur (al l hl 2) hu (by simp) rfl g0 g1 (by simp) ?_;rintro _ i3 h3 ⟨y,hy,rfl⟩ g0 g1;have wy:=Go.IntWalk.i64_in (1 + y) (by have:=hy.1;have:=hy.2;omega);simp
  try intros
  have ho:=qK (h:=a) (id:=q) (n:=1 + y);have hc:=nD a hn q (1 + y);generalize bg a q (1 + y) = r at ho hc;obtain ⟨x,es,code⟩:=r;refine aa.ro hc (by simp [Hub.row,wy]) ?_;simp [Hub.res]
  try intros
  by_cases hz : code = 0
  ·simp [hz]
   refine ⟨_,⟨x,(ho hz).1,rfl⟩,?_,aj rfl g0 g1⟩;simp [Hub.res]
  ·simp [hz]
   refine ⟨_,⟨a,ok,rfl⟩,?_,aj rfl g0 g1⟩;simp [Hub.res]
 by_cases z3 : z = 3
 ·simp [z3]
  refine drw eok mix [0,1] [2,3,4,5,6,7,8,9,10] (.c 2 2 1 2 (.c 2 3 2 0 (.c 2 4 0 0 (.c 2 5 0 0 (.c 2 6 0 0 (.c 2 7 0 0 (.c 2 8 0 0 (.c 2 9 0 0 (.c 2 10 0 0 (.l 2 0) .s) .s) .s) .s) .s) .s) .s) .s) .s) ?_;simp
  try intros
  refine aa.cur (al l hl 5) hu (by simp) rfl g0 g1 (by simp) ?_;rintro _ i2 h2 ⟨q,hq,rfl⟩ g0 g1;simp
  try intros
  have ho:=nR (h:=a) (id:=q);have hc:=lH a hn q;generalize aH a q = r at ho hc;obtain ⟨x,tx,rv,code⟩:=r;refine aa.ro hc (by simp [Hub.row]) ?_;simp [Hub.res]
  try intros
  by_cases hz : code = 0
  ·simp [hz]
   refine ⟨_,⟨x,(ho hz).1,rfl⟩,?_,aj rfl g0 g1⟩;simp [Hub.res]
  ·simp [hz]
   refine ⟨_,⟨a,ok,rfl⟩,?_,aj rfl g0 g1⟩;simp [Hub.res]
 simp [z0,z1,z2,z3];by_cases e0 : a.docs = []
 ·simp [e0]
  refine ⟨_,⟨a,ok,rfl⟩,?_,aj rfl g0 g1⟩;simp [Hub.res,e0]
 simp [e0];have hpos : 0 < a.docs.length:=List.length_pos_iff.2 e0;refine drw eok mix [0,1,2,3,4,5] [6,7,8,9,10] (.c 6 6 9 54 (.c 6 7 16 38 (.c 6 8 0 38 (.c 6 9 0 38 (.c 6 10 38 0 (.l 6 0) .s) .s) (.c 6 9 0 38 (.c 6 8 0 38 (.c 6 10 38 0 (.l 6 0) .s) .s) .s)) (.c 6 9 0 54 (.c 6 7 16 38 (.c 6 8 0 38 (.c 6 10 38 0 (.l 6 0) .s) .s) .s) .s)) (.c 6 9 0 63 (.c 6 6 9 54 (.c 6 7 16 38 (.c 6 8 0 38 (.c 6 10 38 0 (.l 6 0) .s) .s) .s) .s) .s)) ?_;simp
 try intros
 rw [Trc];refine ⟨?_,?_⟩
 ·skip
  simp
  try intros
  refine aa.cur (al l hl a.docs.length) hu (by simp) rfl g0 g1 (by simp) ?_;rintro _ i2 h2 ⟨kk,hkk,rfl⟩ g0 g1;obtain ⟨k,rfl⟩ : ∃ k : Nat,kk = (k : Int):=⟨kk.toNat,by have:=hkk.1;omega⟩;have hk : k < a.docs.length:=(by have:=hkk.2.2 (by omega);omega);obtain ⟨d,hd⟩ : ∃ d,a.docs[k] = d:=⟨_,rfl⟩;simp
  try intros
  rw [Trc];refine ⟨?_,?_⟩
  ·skip
   simp [hk,hd,Doc.row]
   try intros
   rw [Trc];refine ⟨?_,?_⟩
   ·skip
    simp
    try intros
    have dok : aL d:=hd ▸ ch ok hk;have dn:=ig dok;have hh:=aU dok;refine aa.cur (al l hl 3) hu (by simp) rfl g0 g1 (by simp) ?_
    rintro _ i3 h3 ⟨y,hy,rfl⟩ g0 g1
    have hy1:=hy.1;have hy2:=hy.2.2 (by omega);have wy:=Go.IntWalk.i64_in (1 + y) (by omega);simp [wy];have hsb:=jg dok (1 + y);have hsc:=fo d (by omega) (1 + y);generalize ca d (1 + y) = q at hsb hsc;obtain ⟨sn,sb⟩:=q;simp only at hsb hsc;refine aa.ro hsc (by simp [Doc.row]) ?_;simp [Seen.res];intro b9;have wl:=Go.IntWalk.i64_in ((d.list.length : Int) + 1) (by omega);have wsq:=Go.IntWalk.i64_in (sn.seq + 1) (by omega);refine drw eok mix [0,2,3,4,5,6] [1,7,8,9] (.c 6 1 32 31 (.c 6 7 17 14 (.c 6 8 0 14 (.c 6 9 14 0 (.l 6 0) .s) .s) .s) .s) ?_;simp [wl]
    try intros
    refine aa.ro (aP d) (by simp [Doc.row]) ?_;simp
    try intros
    refine aa.cur (al l hl ((d.list.length : Int) + 1)) hu (by simp) rfl g0 g1 (by simp) ?_;rintro _ i4 h4 ⟨bb,hbb,rfl⟩ g0 g1;simp
    try intros
    generalize Go.IntKind.i64.wrap (ac d - bb) = rv;refine drw eok mix [0,1,2,3,4,5,6,7,8,9,10] [11,12,13,14,15,16,17,18] (.c 11 11 7 2040 (.c 11 12 1432 608 (.c 11 13 0 608 (.c 11 14 0 608 (.c 11 15 0 608 (.c 11 16 0 608 (.c 11 17 608 0 (.c 11 18 0 0 (.l 11 0) .s) .s) .s) .s) .s) .s) .s) .s) ?_;simp [wsq]
    try intros
    refine bN (mW l hl d (by omega) rv).toN hu (by simp) rfl g0 g1 (by simp [Doc.row]) ?_;rintro _ i5 h5 ⟨op,⟨hol,hop⟩,rfl⟩ g0 g1;simp
    try intros
    have ho:=fL (h:=a) (name:=d.name) (client:=1 + y) (seq:=sn.seq + 1) (base:=rv) (o:=op);have hc:=eI a hn d.name (1 + y) (sn.seq + 1) rv op (oQ hol hop);generalize aE a d.name (1 + y) (sn.seq + 1) rv op = r at ho hc;obtain ⟨x,nr,code⟩:=r;refine aa.ro hc (by simp [Hub.row]) ?_;simp [Hub.res]
    try intros
    by_cases hz : code = 0
    ·simp [hz]
     refine ⟨_,⟨x,(ho hz).1,rfl⟩,?_,aj rfl g0 g1⟩;simp [Hub.res]
    ·simp [hz]
     refine ⟨_,⟨a,ok,rfl⟩,?_,aj rfl g0 g1⟩;simp [Hub.res]
   ·skip
    simp
    try intros
    have dok : aL d:=hd ▸ ch ok hk;have dn:=ig dok;have hh:=aU dok;refine aa.cur (al l hl 3) hu (by simp) rfl g0 g1 (by simp) ?_
    rintro _ i3 h3 ⟨y,hy,rfl⟩ g0 g1
    have hy1:=hy.1;have hy2:=hy.2.2 (by omega);have wy:=Go.IntWalk.i64_in (1 + y) (by omega);simp [wy];have hsb:=jg dok (1 + y);have hsc:=fo d (by omega) (1 + y);generalize ca d (1 + y) = q at hsb hsc;obtain ⟨sn,sb⟩:=q;simp only at hsb hsc;refine aa.ro hsc (by simp [Doc.row]) ?_;simp [Seen.res];intro b9;have wl:=Go.IntWalk.i64_in ((d.list.length : Int) + 1) (by omega);have wsq:=Go.IntWalk.i64_in (sn.seq + 1) (by omega);refine drw eok mix [0,2,3,4,5,6] [1,7,8,9] (.c 6 1 32 31 (.c 6 7 17 14 (.c 6 8 0 14 (.c 6 9 14 0 (.l 6 0) .s) .s) .s) .s) ?_;simp [wl]
    try intros
    refine aa.ro (aP d) (by simp [Doc.row]) ?_;simp
    try intros
    refine aa.cur (al l hl ((d.list.length : Int) + 1)) hu (by simp) rfl g0 g1 (by simp) ?_;rintro _ i4 h4 ⟨bb,hbb,rfl⟩ g0 g1;simp
    try intros
    generalize Go.IntKind.i64.wrap (ac d - bb) = rv;refine drw eok mix [0,1,2,3,4,5,6,7,8,9,10] [11,12,13,14,15,16,17,18] (.c 11 11 7 2040 (.c 11 12 1432 608 (.c 11 13 0 608 (.c 11 14 0 608 (.c 11 15 0 608 (.c 11 16 0 608 (.c 11 17 608 0 (.c 11 18 0 0 (.l 11 0) .s) .s) .s) .s) .s) .s) .s) .s) ?_;simp [wsq]
    try intros
    refine bN (mW l hl d (by omega) rv).toN hu (by simp) rfl g0 g1 (by simp [Doc.row]) ?_;rintro _ i5 h5 ⟨op,⟨hol,hop⟩,rfl⟩ g0 g1;simp
    try intros
    have ho:=fL (h:=a) (name:=d.name) (client:=1 + y) (seq:=sn.seq + 1) (base:=rv) (o:=op);have hc:=eI a hn d.name (1 + y) (sn.seq + 1) rv op (oQ hol hop);generalize aE a d.name (1 + y) (sn.seq + 1) rv op = r at ho hc;obtain ⟨x,nr,code⟩:=r;refine aa.ro hc (by simp [Hub.row]) ?_;simp [Hub.res]
    try intros
    by_cases hz : code = 0
    ·simp [hz]
     refine ⟨_,⟨x,(ho hz).1,rfl⟩,?_,aj rfl g0 g1⟩;simp [Hub.res]
    ·simp [hz]
     refine ⟨_,⟨a,ok,rfl⟩,?_,aj rfl g0 g1⟩;simp [Hub.res]
  ·skip
   simp [hk,hd,Doc.row]
   try intros
   have dok : aL d:=hd ▸ ch ok hk;have dn:=ig dok;have hh:=aU dok;refine aa.cur (al l hl 3) hu (by simp) rfl g0 g1 (by simp) ?_
   rintro _ i3 h3 ⟨y,hy,rfl⟩ g0 g1
   have hy1:=hy.1;have hy2:=hy.2.2 (by omega);have wy:=Go.IntWalk.i64_in (1 + y) (by omega);simp [wy];have hsb:=jg dok (1 + y);have hsc:=fo d (by omega) (1 + y);generalize ca d (1 + y) = q at hsb hsc;obtain ⟨sn,sb⟩:=q;simp only at hsb hsc;refine aa.ro hsc (by simp [Doc.row]) ?_;simp [Seen.res];intro b9;have wl:=Go.IntWalk.i64_in ((d.list.length : Int) + 1) (by omega);have wsq:=Go.IntWalk.i64_in (sn.seq + 1) (by omega);refine drw eok mix [0,2,3,4,5,6] [1,7,8,9] (.c 6 1 32 31 (.c 6 7 17 14 (.c 6 8 0 14 (.c 6 9 14 0 (.l 6 0) .s) .s) .s) .s) ?_;simp [wl]
   try intros
   refine aa.ro (aP d) (by simp [Doc.row]) ?_;simp
   try intros
   refine aa.cur (al l hl ((d.list.length : Int) + 1)) hu (by simp) rfl g0 g1 (by simp) ?_;rintro _ i4 h4 ⟨bb,hbb,rfl⟩ g0 g1;simp
   try intros
   generalize Go.IntKind.i64.wrap (ac d - bb) = rv;refine drw eok mix [0,1,2,3,4,5,6,7,8,9,10] [11,12,13,14,15,16,17,18] (.c 11 11 7 2040 (.c 11 12 1432 608 (.c 11 13 0 608 (.c 11 14 0 608 (.c 11 15 0 608 (.c 11 16 0 608 (.c 11 17 608 0 (.c 11 18 0 0 (.l 11 0) .s) .s) .s) .s) .s) .s) .s) .s) ?_;simp [wsq]
   try intros
   refine bN (mW l hl d (by omega) rv).toN hu (by simp) rfl g0 g1 (by simp [Doc.row]) ?_;rintro _ i5 h5 ⟨op,⟨hol,hop⟩,rfl⟩ g0 g1;simp
   try intros
   have ho:=fL (h:=a) (name:=d.name) (client:=1 + y) (seq:=sn.seq + 1) (base:=rv) (o:=op);have hc:=eI a hn d.name (1 + y) (sn.seq + 1) rv op (oQ hol hop);generalize aE a d.name (1 + y) (sn.seq + 1) rv op = r at ho hc;obtain ⟨x,nr,code⟩:=r;refine aa.ro hc (by simp [Hub.row]) ?_;simp [Hub.res]
   try intros
   by_cases hz : code = 0
   ·simp [hz]
    refine ⟨_,⟨x,(ho hz).1,rfl⟩,?_,aj rfl g0 g1⟩;simp [Hub.res]
   ·simp [hz]
    refine ⟨_,⟨a,ok,rfl⟩,?_,aj rfl g0 g1⟩;simp [Hub.res]
 ·skip
  simp
  try intros
  refine aa.cur (al l hl a.docs.length) hu (by simp) rfl g0 g1 (by simp) ?_;rintro _ i2 h2 ⟨kk,hkk,rfl⟩ g0 g1;obtain ⟨k,rfl⟩ : ∃ k : Nat,kk = (k : Int):=⟨kk.toNat,by have:=hkk.1;omega⟩;have hk : k < a.docs.length:=(by have:=hkk.2.2 (by omega);omega);obtain ⟨d,hd⟩ : ∃ d,a.docs[k] = d:=⟨_,rfl⟩;simp [hk,hd,Doc.row]
  try intros
  have dok : aL d:=hd ▸ ch ok hk;have dn:=ig dok;have hh:=aU dok;refine aa.cur (al l hl 3) hu (by simp) rfl g0 g1 (by simp) ?_
  rintro _ i3 h3 ⟨y,hy,rfl⟩ g0 g1
  have hy1:=hy.1;have hy2:=hy.2.2 (by omega);have wy:=Go.IntWalk.i64_in (1 + y) (by omega);simp [wy];have hsb:=jg dok (1 + y);have hsc:=fo d (by omega) (1 + y);generalize ca d (1 + y) = q at hsb hsc;obtain ⟨sn,sb⟩:=q;simp only at hsb hsc;refine aa.ro hsc (by simp [Doc.row]) ?_;simp [Seen.res];intro b9;have wl:=Go.IntWalk.i64_in ((d.list.length : Int) + 1) (by omega);have wsq:=Go.IntWalk.i64_in (sn.seq + 1) (by omega);refine drw eok mix [0,2,3,4,5,6] [1,7,8,9] (.c 6 1 32 31 (.c 6 7 17 14 (.c 6 8 0 14 (.c 6 9 14 0 (.l 6 0) .s) .s) .s) .s) ?_;simp [wl]
  try intros
  refine aa.ro (aP d) (by simp [Doc.row]) ?_;simp
  try intros
  refine aa.cur (al l hl ((d.list.length : Int) + 1)) hu (by simp) rfl g0 g1 (by simp) ?_;rintro _ i4 h4 ⟨bb,hbb,rfl⟩ g0 g1;simp
  try intros
  generalize Go.IntKind.i64.wrap (ac d - bb) = rv;refine drw eok mix [0,1,2,3,4,5,6,7,8,9,10] [11,12,13,14,15,16,17,18] (.c 11 11 7 2040 (.c 11 12 1432 608 (.c 11 13 0 608 (.c 11 14 0 608 (.c 11 15 0 608 (.c 11 16 0 608 (.c 11 17 608 0 (.c 11 18 0 0 (.l 11 0) .s) .s) .s) .s) .s) .s) .s) .s) ?_;simp [wsq]
  try intros
  refine bN (mW l hl d (by omega) rv).toN hu (by simp) rfl g0 g1 (by simp [Doc.row]) ?_;rintro _ i5 h5 ⟨op,⟨hol,hop⟩,rfl⟩ g0 g1;simp
  try intros
  have ho:=fL (h:=a) (name:=d.name) (client:=1 + y) (seq:=sn.seq + 1) (base:=rv) (o:=op);have hc:=eI a hn d.name (1 + y) (sn.seq + 1) rv op (oQ hol hop);generalize aE a d.name (1 + y) (sn.seq + 1) rv op = r at ho hc;obtain ⟨x,nr,code⟩:=r;refine aa.ro hc (by simp [Hub.row]) ?_;simp [Hub.res]
  try intros
  by_cases hz : code = 0
  ·simp [hz]
   refine ⟨_,⟨x,(ho hz).1,rfl⟩,?_,aj rfl g0 g1⟩;simp [Hub.res]
  ·simp [hz]
   refine ⟨_,⟨a,ok,rfl⟩,?_,aj rfl g0 g1⟩;simp [Hub.res]
theorem so (l : List UInt8) (_hl : l.length<=2 ^ 40) : Hn Tryz.prog 141 (l.map eA) 107:=by
 refine Hn.intro ae Tryz.func107 (by kernel_rfl) rfl rfl rfl (Nat.le_of_ble_eq_true rfl) (λw0 base u hu=>?_);simp;refine ah eok (λx : Nat × Int=>x.1<=l.length) (λx=>⟨32,0,[(4,.v (.int .i64 x.1)),(3,.v (.int .i64 x.2)),(0,.cv u l.length)],[]⟩) (λx=>l.length - x.1) (0,Go.IntKind.i64.wrap (1621 + (l.length : Int))) (by simp) (by simp) (λx hx=>Ent.refl ?_);obtain ⟨i,h⟩:=x;simp only at hx ⊢;by_cases c : i < l.length
 ·by_cases c2 : i < 4000
  ·have c2' : (i : Int) < 4000:=by omega
   simp [c,c2'];refine ⟨_,hu,?_⟩;simp [c];refine Ent.refl ⟨i + 1,by omega,by omega,?_⟩;simp;exact ag (by omega)
  ·have c2' : ¬ (i : Int) < 4000:=by omega
   simp [c,c2'];exact λb=>⟨496,b,⟨rfl,rfl⟩,_,rfl⟩
 ·simp [c]
  exact λb=>⟨496,b,⟨rfl,rfl⟩,_,rfl⟩
set_option maxHeartbeats 25600000
theorem AK : ak Hub.zero:=gX.2 ⟨by simp [Hub.zero],by simp [Hub.zero],by simp [Hub.zero],⟨by simp [Hub.zero],by simp [Hub.zero]⟩,by simp [Hub.zero],by simp [Hub.zero]⟩
theorem yg (h : Hub) (name : ByteArray) (t : List Int) : ak (aW h name t).1:=by
 by_cases hz : (aW h name t).2 = 0
 ·exact (mt hz).1
 ·have : (aW h name t).1 = Hub.zero:=by
   revert hz
   unfold aW
   repeat' split
   all_goals simp
  rw [this];exact AK
theorem C9 (l : List UInt8) (hl : l.length<=2 ^ 40) (most : Int) (hm0 : 0<=most) (hm : most<=1000) : oD Tryz.prog 141 (l.map eA) 108 [.c (vi most)] (LG ak):=by
 refine oD.intro ae Tryz.func108 (by kernel_rfl) rfl rfl rfl (Nat.le_of_ble_eq_true rfl) (λw0 base o b u i h hi0 hi1 hu=>?_);have hi1 : i<=(l.length : Int):=by simpa using hi1
 simp;intro b4;refine bN (gW l hl 6 (by omega) (by omega)).toN hu (by simp) rfl hi0 hi1 (by simp) ?_
 rintro _ i1 h1 ⟨t,ht,rfl⟩ g0 g1
 simp;have k0:=yg Hub.zero ⟨#[97]⟩ t;have c0:=ia Hub.zero (by simp [bW,Hub.zero,nL,bO]) ⟨#[97]⟩ (by decide) t (by have:=ht.1;omega);generalize aW Hub.zero ⟨#[97]⟩ t = q at k0 c0;obtain ⟨a,code⟩:=q;simp only at k0 c0;refine aa.ro c0 (by simp [Hub.row,Hub.zero]) ?_;simp [Hub.res];intro b5;refine aa.cur (gj l hl 2) hu (by simp) rfl g0 g1 (by simp) ?_
 rintro _ i2 h2 ⟨qq,rfl⟩ g0 g1
 have wm:=Go.IntWalk.i64_in (most + 1) (by omega);simp
 cases qq with
 | false =>
   simp [wm];refine aa.cur (al l hl (most + 1)) hu (by simp) rfl g0 g1 (by simp) ?_
   rintro _ i5 h5 ⟨zn,hzn,rfl⟩ g0 g1
   simp;have hzn':=hzn.2.2 (by omega)
   refine ah eok (λx : Hub × Nat × Int × Int=>x.2.1<=1000/\ak x.1/\0<=x.2.2.1/\x.2.2.1<=(l.length : Int))
    (λx=>⟨36,0,[(7,.v (.int .i64 x.2.1)),(5,.p 80 b5 0),(4,.p 64 b4 0),(0,.p 0 b 0)],
     (80,.vars b5 35 [.v (.bool x.1.shut),.ro (x.1.docs.map Doc.row),.ro (x.1.subs.map Sub.row),.v (.int .i64 x.1.last)]) ::
     (64,.vars b4 35 [.v (.bool false),.nil,.nil,.v (.int .i64 0)]) ::
     (0,.vars b 141 (dv u l.length x.2.2.1 x.2.2.2)) :: phs o⟩) (λx=>x.2.1)
    (a,zn.toNat,i5,h5) ⟨by simp only;omega,k0,g0,g1⟩ (by simp;have:=hzn.1;omega) (λx hx=>Ent.refl ?_)
   obtain ⟨r,n,i6,h6⟩:=x;obtain ⟨x1,x2,g0,g1⟩:=hx;simp only at x1 x2 g0 g1 ⊢;simp;by_cases c : 0 < n
   rotate_left
   ·have : n = 0:=by omega
    subst this;simp;refine ⟨_,⟨r,x2,rfl⟩,?_,aj rfl g0 g1⟩;simp [Hub.res]
   have c' : (0 : Int) < n:=by omega
   simp [c];refine bN (B3 l hl r x2) hu (by simp) rfl g0 g1 (by simp [Hub.row]) ?_
   rintro _ i7 h7 ⟨r',hr',rfl⟩ g0 g1
   simp [Hub.res];refine Ent.refl ⟨r',n - 1,_,⟨by omega,hr',g0,g1⟩,by omega,?_⟩;have wn:=Go.IntWalk.i64_in ((n : Int) - 1) (by omega);simp [wn];omega
 | true =>
   simp;have hn : bW a<=2 ^ 28:=Nat.le_trans (eb k0).1 (by decide);refine drw eok mix [0,1] [2,3,4,5,6,7] (.c 2 2 1 2 (.c 2 3 2 0 (.c 2 4 0 0 (.c 2 5 0 0 (.c 2 6 0 0 (.c 2 7 0 0 (.l 2 0) .s) .s) .s) .s) .s) .s) ?_;simp
   try intros
   refine bN (gW l hl 4 (by omega) (by omega)).toN hu (by simp) rfl g0 g1 (by simp) ?_;rintro _ i3 h3 ⟨t2,ht2,rfl⟩ g0 g1;simp
   try intros
   have k1:=yg a ⟨#[110,111,116,101,115]⟩ t2;have hc:=ia a hn ⟨#[110,111,116,101,115]⟩ (by decide) t2 (by have:=ht2.1;omega);generalize aW a ⟨#[110,111,116,101,115]⟩ t2 = r at k1 hc;obtain ⟨x,code2⟩:=r;simp only at k1 hc;refine aa.ro hc (by simp [Hub.row]) ?_;simp [Hub.res]
   try intros
   simp [wm];refine aa.cur (al l hl (most + 1)) hu (by simp) rfl g0 g1 (by simp) ?_
   rintro _ i5 h5 ⟨zn,hzn,rfl⟩ g0 g1
   simp;have hzn':=hzn.2.2 (by omega)
   refine ah eok (λx : Hub × Nat × Int × Int=>x.2.1<=1000/\ak x.1/\0<=x.2.2.1/\x.2.2.1<=(l.length : Int))
    (λx=>⟨36,0,[(7,.v (.int .i64 x.2.1)),(5,.p 80 b5 0),(4,.p 64 b4 0),(0,.p 0 b 0)],
     (80,.vars b5 35 [.v (.bool x.1.shut),.ro (x.1.docs.map Doc.row),.ro (x.1.subs.map Sub.row),.v (.int .i64 x.1.last)]) ::
     (64,.vars b4 35 [.v (.bool false),.nil,.nil,.v (.int .i64 0)]) ::
     (0,.vars b 141 (dv u l.length x.2.2.1 x.2.2.2)) :: phs o⟩) (λx=>x.2.1)
    (x,zn.toNat,i5,h5) ⟨by simp only;omega,k1,g0,g1⟩ (by simp;have:=hzn.1;omega) (λx hx=>Ent.refl ?_)
   obtain ⟨r,n,i6,h6⟩:=x;obtain ⟨x1,x2,g0,g1⟩:=hx;simp only at x1 x2 g0 g1 ⊢;simp;by_cases c : 0 < n
   rotate_left
   ·have : n = 0:=by omega
    subst this;simp;refine ⟨_,⟨r,x2,rfl⟩,?_,aj rfl g0 g1⟩;simp [Hub.res]
   have c' : (0 : Int) < n:=by omega
   simp [c];refine bN (B3 l hl r x2) hu (by simp) rfl g0 g1 (by simp [Hub.row]) ?_
   rintro _ i7 h7 ⟨r',hr',rfl⟩ g0 g1
   simp [Hub.res];refine Ent.refl ⟨r',n - 1,_,⟨by omega,hr',g0,g1⟩,by omega,?_⟩;have wn:=Go.IntWalk.i64_in ((n : Int) - 1) (by omega);simp [wn];omega
theorem CO (l : List UInt8) (hl : l.length<=2 ^ 40) : di Tryz.prog 29 [.c (.s (l.map eA))] (LG ak):=by
 refine lG ae Tryz.func29 (by kernel_rfl) rfl rfl rfl (Nat.le_of_ble_eq_true rfl) (λw0 base o u hu=>?_);simp;intro b2;refine oE (so l hl) hu (by simp) (λb h=>?_);simp;refine bN (C9 l hl 14 (by omega) (by omega)) hu (by simp) rfl (by omega) (by omega) (by simp) ?_
 rintro _ i1 h1 ⟨r,hr,rfl⟩ g0 g1
 simp [Hub.res];refine ⟨_,⟨r,hr,rfl⟩,?_⟩;simp [Hub.res]
theorem CN (l : List UInt8) (hl : l.length<=2 ^ 40) (n : Int) : di Tryz.prog 31 [.c (.s (l.map eA)),.c (vi n)] (zQ (GW n)):=by
 refine lG ae Tryz.func31 (by kernel_rfl) rfl rfl rfl (Nat.le_of_ble_eq_true rfl) (λw0 base o u hu=>?_);simp;refine oE (so l hl) hu (by simp) (λb h=>?_);simp;refine aa.cur (al l hl n) hu (by simp) rfl (by omega) (by omega) (by simp) ?_
 rintro _ i1 h1 ⟨z,hz,rfl⟩ g0 g1
 simp;refine ⟨_,⟨z,hz,rfl⟩,?_⟩;simp
set_option maxHeartbeats 51200000
def Rv (p : Call->Prop) (rr : RR) : Prop:=∃ c : Call,p c/\rr = .one (.agg c.res)
def tc (c : Call) : Prop:=dy c<=2 ^ 21
def dP (d : Doc) : Prop:=ce d<=2 ^ 30/\(0<=d.fr/\d.fr<=999999000)/\∀ c,0<=(ca d c).1.seq/\(ca d c).1.seq<=1000000000
theorem JQ {d : Doc} (h : aL d) : dP d:=⟨Nat.le_trans (ig h) (by decide),by have:=aU h;omega,λc=>by have:=jg h c;omega⟩
theorem wQ : dP Doc.zero:=⟨by have h0 : (⟨#[]⟩ : ByteArray).size = 0:=rfl;simp [ce,Doc.zero,nL,bO,h0],by simp [Doc.zero],λc=>by simp [ca,Doc.zero]⟩
theorem fN {k cl sq n : Int} {s : ByteArray} {o : List Part} {t : List Int} (hs : s.size<=8) (ho : nL aF o<=2 ^ 20) (ht : t.length<=1000) : tc ⟨k,s,cl,sq,n,o,t⟩:=by unfold tc dy;simp only;omega
theorem uN {o : List Part} (h : o.length<=44) (hp : ∀ p∈o,mc p) : nL aF o<=2 ^ 20:=by
 have:=nI (f:=aF) (l:=o) (B:=4) (λp hq=>by have:=hp p hq;unfold mc at this;unfold aF;omega);omega
theorem C8 (l : List UInt8) (hl : l.length<=2 ^ 40) (a : Hub) (ok : ak a) : oD Tryz.prog 141 (l.map eA) 126 [.agg a.row] (Rv tc):=by
 refine oD.intro ae Tryz.func126 (by kernel_rfl) rfl rfl rfl (Nat.le_of_ble_eq_true rfl) (λw0 base o b u i h hi0 hi1 hu=>?_);have hi1 : i<=(l.length : Int):=by simpa using hi1
 have hn : bW a<=2 ^ 28:=Nat.le_trans (eb ok).1 (by decide);simp [Hub.row];intro b3 b4;refine bN (mX l hl).toN hu (by simp) rfl hi0 hi1 (by simp) ?_
 rintro _ i1 h1 ⟨s,hs,rfl⟩ g0 g1
 have hsz : s.size<=8:=hs.1.2;by_cases e0 : a.docs = []
 case' pos=>
  have e1 : a.docs.length = 0:=by rw [e0];rfl
  simp [e0]
  have e : az a.docs s = -1:=by
   rcases br a.docs s with ⟨k,hk,-,-⟩ | e
   ·omega
   ·exact e
  refine aa.pure (dj a (by omega) s) (by simp [Hub.row,e0]) ?_;rw [e];simp;intro b7;obtain ⟨d,hdz⟩ : ∃ d,d = Doc.zero:=⟨_,rfl⟩;have dp : dP d:=hdz ▸ wQ
  clear e
  generalize s = s2 at hsz ⊢
 case' neg=>
  have hpos : 0 < a.docs.length:=List.length_pos_iff.2 e0;simp [hpos];refine aa.cur (gj l hl 6) hu (by simp) rfl g0 g1 (by simp) ?_
  rintro _ i2 h2 ⟨qq,rfl⟩ g0 g1
  cases qq
  case' true=>
   simp;refine aa.pure (dj a (by omega) s) (by simp [Hub.row]) ?_;simp;intro b7;rcases br a.docs s with ⟨k,hk,e,-⟩ | e
   case' inl=>
    obtain ⟨d,hd⟩ : ∃ d,a.docs[k] = d:=⟨_,rfl⟩;have dp : dP d:=JQ (hd ▸ ch ok hk);simp [e,hk,hd,Doc.row]
   case' inr=>
    obtain ⟨d,hdz⟩ : ∃ d,d = Doc.zero:=⟨_,rfl⟩;have dp : dP d:=hdz ▸ wQ;simp [e]
   all_goals
    clear e
    generalize s = s2 at hsz ⊢
  case' false=>
   simp;refine drw eok mix [0,1,2,3,4,5] [6,7,8,9,10] (.c 6 6 9 54 (.c 6 7 16 38 (.c 6 8 0 38 (.c 6 9 0 38 (.c 6 10 38 0 (.l 6 0) .s) .s) .s) .s) .s) ?_;simp
   try intros
   refine aa.cur (al l hl a.docs.length) hu (by simp) rfl g0 g1 (by simp) ?_;rintro _ i3 h3 ⟨kk,hkk,rfl⟩ g0 g1;obtain ⟨k,rfl⟩ : ∃ k : Nat,kk = (k : Int):=⟨kk.toNat,by have:=hkk.1;omega⟩;have hk : k < a.docs.length:=(by have:=hkk.2.2 (by omega);omega);obtain ⟨d0,hd0⟩ : ∃ d,a.docs[k] = d:=⟨_,rfl⟩;simp [hk,hd0,Doc.row]
   try intros
   have hsz : d0.name.size<=8:=(hd0 ▸ ch ok hk).1.1.2;refine aa.pure (dj a (by omega) d0.name) (by simp [Hub.row]) ?_;simp;intro b7;rcases br a.docs d0.name with ⟨k,hk,e,-⟩ | e
   case' inl=>
    obtain ⟨d,hd⟩ : ∃ d,a.docs[k] = d:=⟨_,rfl⟩;have dp : dP d:=JQ (hd ▸ ch ok hk);simp [e,hk,hd,Doc.row]
   case' inr=>
    obtain ⟨d,hdz⟩ : ∃ d,d = Doc.zero:=⟨_,rfl⟩;have dp : dP d:=hdz ▸ wQ;simp [e]
   all_goals
    clear e
    generalize d0.name = s2 at hsz ⊢
 all_goals
  refine aa.cur (al l hl 14) hu (by simp) rfl g0 g1 (by simp) ?_
  rintro _ i3 h3 ⟨z,hz,rfl⟩ g0 g1
  simp;by_cases z0 : z = 0
  ·simp [z0]
   refine bN (mX l hl).toN hu (by simp) rfl g0 g1 (by simp) ?_
   rintro _ i4 h4 ⟨s2,hs2,rfl⟩ g0 g1
   simp;refine bN (gW l hl 4 (by omega) (by omega)).toN hu (by simp) rfl g0 g1 (by simp) ?_
   rintro _ i5 h5 ⟨t,ht,rfl⟩ g0 g1
   simp;refine ⟨_,⟨(⟨1,s2,0,0,0,[],t⟩ : Call),fN (by have:=hs2.1;omega) (by simp [nL,bO]) (by have:=ht.1;omega),rfl⟩,?_,aj rfl g0 g1⟩;simp [Call.res]
  by_cases z1 : z = 1
  ·simp [z1]
   refine aa.cur (pP l hl d (by have:=dp.1;omega) (by have:=dp.2.1;omega)) hu (by simp) rfl g0 g1 (by first | (simp [Doc.row];done) | simp [Doc.row,hdz,Doc.zero]) ?_
   rintro _ i4 h4 ⟨bs,-,rfl⟩ g0 g1
   simp;refine ⟨_,⟨(⟨3,s2,0,0,bs,[],[]⟩ : Call),fN hsz (by simp [nL,bO]) (by simp),rfl⟩,?_,aj rfl g0 g1⟩;simp [Call.res]
  by_cases z2 : z = 2
  ·simp [z2]
   refine ⟨_,⟨(⟨4,s2,0,0,0,[],[]⟩ : Call),fN hsz (by simp [nL,bO]) (by simp),rfl⟩,?_,aj rfl g0 g1⟩;simp [Call.res]
  by_cases z3 : z = 3
  ·simp [z3]
   refine aa.cur (al l hl 3) hu (by simp) rfl g0 g1 (by simp) ?_
   rintro _ i5 h5 ⟨y,hy,rfl⟩ g0 g1
   have wy:=Go.IntWalk.i64_in (1 + y) (by have:=hy.1;have:=hy.2.2 (by omega);omega);simp [wy];refine ⟨_,⟨(⟨5,s2,0,0,1 + y,[],[]⟩ : Call),fN hsz (by simp [nL,bO]) (by simp),rfl⟩,?_,aj rfl g0 g1⟩;simp [Call.res]
  by_cases z4 : z = 4\/z = 5
  ·have z4' : dc (z = 4) = true\/(dc (z = 4) = false/\dc (z = 5) = true):=by
    rcases z4 with e | e
    ·left;rw [gK];exact e
    ·right;rw [bY,gK];exact ⟨by omega,e⟩
   rcases z4 with e | e
   ·simp [e]
    refine aa.cur (al l hl 3) hu (by simp) rfl g0 g1 (by simp) ?_
    rintro _ i5 h5 ⟨y,hy,rfl⟩ g0 g1
    have wy:=Go.IntWalk.i64_in (1 + y) (by have:=hy.1;have:=hy.2.2 (by omega);omega);simp [wy];refine aa.cur (al l hl 3) hu (by simp) rfl g0 g1 (by simp) ?_
    rintro _ i6 h6 ⟨y2,hy2,rfl⟩ g0 g1
    have wy2:=Go.IntWalk.i64_in (1 + y2) (by have:=hy2.1;have:=hy2.2.2 (by omega);omega);simp [wy2];refine ⟨_,⟨(⟨6,⟨#[]⟩,1 + y,0,1 + y2,[],[]⟩ : Call),fN (by decide) (by simp [nL,bO]) (by simp),rfl⟩,?_,aj rfl g0 g1⟩;simp [Call.res]
   ·simp [e]
    refine aa.cur (al l hl 3) hu (by simp) rfl g0 g1 (by simp) ?_
    rintro _ i5 h5 ⟨y,hy,rfl⟩ g0 g1
    have wy:=Go.IntWalk.i64_in (1 + y) (by have:=hy.1;have:=hy.2.2 (by omega);omega);simp [wy];refine aa.cur (al l hl 3) hu (by simp) rfl g0 g1 (by simp) ?_
    rintro _ i6 h6 ⟨y2,hy2,rfl⟩ g0 g1
    have wy2:=Go.IntWalk.i64_in (1 + y2) (by have:=hy2.1;have:=hy2.2.2 (by omega);omega);simp [wy2];refine ⟨_,⟨(⟨6,⟨#[]⟩,1 + y,0,1 + y2,[],[]⟩ : Call),fN (by decide) (by simp [nL,bO]) (by simp),rfl⟩,?_,aj rfl g0 g1⟩;simp [Call.res]
  by_cases z6 : z = 6
  ·simp [z6]
   refine aa.cur (al l hl 3) hu (by simp) rfl g0 g1 (by simp) ?_
   rintro _ i5 h5 ⟨y,hy,rfl⟩ g0 g1
   have wy:=Go.IntWalk.i64_in (1 + y) (by have:=hy.1;have:=hy.2.2 (by omega);omega);simp [wy];refine ⟨_,⟨(⟨7,⟨#[]⟩,1 + y,0,0,[],[]⟩ : Call),fN (by decide) (by simp [nL,bO]) (by simp),rfl⟩,?_,aj rfl g0 g1⟩;simp [Call.res]
  have z4a : ¬ z = 4:=λe=>z4 (.inl e)
  have z5a : ¬ z = 5:=λe=>z4 (.inr e)
  by_cases z7 : z = 7
  case' pos=>
   simp [z7];refine aa.cur (gj l hl 4) hu (by simp) rfl g0 g1 (by simp) ?_
   rintro _ i5 h5 ⟨sh,rfl⟩ g0 g1
   cases sh
   case' true=>
    simp;refine ⟨_,⟨(⟨8,⟨#[]⟩,0,0,0,[],[]⟩ : Call),fN (by decide) (by simp [nL,bO]) (by simp),rfl⟩,?_,aj rfl g0 g1⟩;simp [Call.res]
   case' false=>simp
  case' neg=>simp [z0,z1,z2,z3,z4a,z5a,z6,z7]
  all_goals
   refine aa.cur (al l hl 3) hu (by simp) rfl g0 g1 (by simp) ?_
   rintro _ i5 h5 ⟨y,hy,rfl⟩ g0 g1
   have hy1:=hy.1;have hy2:=hy.2.2 (by omega);have wy:=Go.IntWalk.i64_in (1 + y) (by omega);simp [wy];have hsb:=dp.2.2 (1 + y);have hsc:=fo d (by have:=dp.1;omega) (1 + y);generalize ca d (1 + y) = q at hsb hsc;obtain ⟨sn,sb⟩:=q;simp only at hsb hsc;refine aa.ro hsc (by first | (simp [Doc.row];done) | simp [Doc.row,hdz,Doc.zero]) ?_;simp [Seen.res];intro b9;have wsq:=Go.IntWalk.i64_in (sn.seq + 1) (by omega);simp [wsq];refine aa.cur (gj l hl 8) hu (by simp) rfl g0 g1 (by simp) ?_
   rintro _ i6 h6 ⟨qq,rfl⟩ g0 g1
   cases qq with
   | false =>
     simp;refine aa.cur (pP l hl d (by have:=dp.1;omega) (by have:=dp.2.1;omega)) hu (by simp) rfl g0 g1 (by first | (simp [Doc.row];done) | simp [Doc.row,hdz,Doc.zero]) ?_
     rintro _ i7 h7 ⟨bs,-,rfl⟩ g0 g1
     simp;refine bN (mW l hl d (by have:=dp.1;omega) bs).toN hu (by simp) rfl g0 g1 (by first | (simp [Doc.row];done) | simp [Doc.row,hdz,Doc.zero]) ?_
     rintro _ i8 h8 ⟨op,⟨hol,hop⟩,rfl⟩ g0 g1
     simp;refine ⟨_,⟨(⟨2,s2,1 + y,sn.seq + 1,bs,op,[]⟩ : Call),fN hsz (uN hol hop) (by simp),rfl⟩,?_,aj rfl g0 g1⟩;simp [Call.res]
   | true =>
     simp;refine aa.cur (al l hl 2) hu (by simp) rfl g0 g1 (by simp) ?_
     rintro _ i9 h9 ⟨y2,hz2,rfl⟩ g0 g1
     have hz1:=hz2.1;have hz3:=hz2.2.2 (by omega);have wy2:=Go.IntWalk.i64_in (1 + y2) (by omega);simp [wy2];refine aa.cur (pP l hl d (by have:=dp.1;omega) (by have:=dp.2.1;omega)) hu (by simp) rfl g0 g1 (by first | (simp [Doc.row];done) | simp [Doc.row,hdz,Doc.zero]) ?_
     rintro _ i7 h7 ⟨bs,-,rfl⟩ g0 g1
     simp;refine bN (mW l hl d (by have:=dp.1;omega) bs).toN hu (by simp) rfl g0 g1 (by first | (simp [Doc.row];done) | simp [Doc.row,hdz,Doc.zero]) ?_
     rintro _ i8 h8 ⟨op,⟨hol,hop⟩,rfl⟩ g0 g1
     simp;refine ⟨_,⟨(⟨2,s2,1 + y,1 + y2,bs,op,[]⟩ : Call),fN hsz (uN hol hop) (by simp),rfl⟩,?_,aj rfl g0 g1⟩;simp [Call.res]
set_option maxHeartbeats 6400000
def JH (p : List Call->Prop) (rr : RR) : Prop:=∃ L : List Call,p L/\rr = .one (.c (.s (L.map Call.row)) 7)
theorem Aw (l : List UInt8) (hl : l.length<=2 ^ 40) (a : Hub) (ok : ak a) : oD Tryz.prog 141 (l.map eA) 109 [.agg a.row,.c (vi 9)] (JH λL=>L.length<=9/\∀ x∈L,tc x):=by
 refine oD.intro ae Tryz.func109 (by kernel_rfl) rfl rfl rfl (Nat.le_of_ble_eq_true rfl) (λw0 base o b u i h hi0 hi1 hu=>?_);have hi1 : i<=(l.length : Int):=by simpa using hi1
 simp [Hub.row];intro b4 H;have e10 : Go.IntKind.i64.wrap 10 = 10:=Go.IntWalk.i64_in _ (by omega);refine aa.cur (al l hl 10) hu (by simp) rfl hi0 hi1 (by simp;exact e10.symm) ?_
 rintro _ i1 h1 ⟨zn,hzn,rfl⟩ g0 g1
 simp;have hzn':=hzn.2.2 (by omega)
 refine ah eok (λx : Nat × List Call × Hub × Hd × Int × Int × Bool=>x.2.1.length + x.1<=9/\(∀ s∈x.2.1,tc s)/\ak x.2.2.1/\0<=x.2.2.2.2.1/\x.2.2.2.2.1<=(l.length : Int))
  (λx=>⟨33,0,[(8,.v (.int .i64 x.1)),(7,.sl 160 x.2.2.2.1 7 0 x.2.1.length),(4,.p 64 b4 0),(0,.p 0 b 0)],(0,.vars b 141 (dv u l.length x.2.2.2.2.1 x.2.2.2.2.2.1)) :: (64,.vars b4 35 [.v (.bool x.2.2.1.shut),.ro (x.2.2.1.docs.map Doc.row),.ro (x.2.2.1.subs.map Sub.row),.v (.int .i64 x.2.2.1.last)]) :: (160,.rows x.2.2.2.1 7 (x.2.1.map Call.row) x.2.2.2.2.2.2) :: phs o⟩)
  (λx=>x.1) (zn.toNat,[],a,some (H,0,0),i1,h1,true) (by simp;exact ⟨by omega,ok,g0,g1⟩) (by simp;have:=hzn.1;omega) (λx hx=>Ent.refl ?_)
 obtain ⟨m,L,a,H',i2,h2,ow⟩:=x;obtain ⟨hx1,hx2,hx3,hx4,hx5⟩:=hx;simp only at hx1 hx2 hx3 hx4 hx5 ⊢;by_cases hm1 : 0 < m
 ·simp [hm1]
  refine bN (C8 l hl a hx3) hu (by simp) rfl hx4 hx5 (by simp [Hub.row]) ?_
  rintro _ i3 h3 ⟨c,hc,rfl⟩ g2 g3
  simp [Call.res];intro b9 b24;have hn:=(eb hx3).1;have hcn : dy c<=2 ^ 28:=by unfold tc at hc;omega
  refine ⟨by omega,λH2=>?_⟩;refine aa.ro (Fk a (by omega) c hcn) (by simp [Hub.row,Call.row]) ?_;simp [Hub.res];have hw2:=Go.IntWalk.i64_in ((m : Int) - 1) (by omega)
  refine Ent.refl ⟨m - 1,L ++ [c],(fDo a c).1,H2,i3,⟨by simp only [List.length_append,List.length_singleton];omega,?_,(oj hx3 c).1,g2,g3⟩,by omega,h3,Or.inl ?_⟩;rotate_left
  ·simp [hw2,Call.row]
   omega
  intro y hy;rcases List.mem_append.1 hy with hy | hy
  ·exact hx2 y hy
  ·simp at hy;subst hy;exact hc
 ·have : m = 0:=by omega
  subst this;simp;refine ⟨_,⟨L,⟨by omega,hx2⟩,rfl⟩,?_,aj rfl hx4 hx5⟩;simp
theorem yu (l : List UInt8) (hl : l.length<=2 ^ 40) (a : Hub) (ok : ak a) : di Tryz.prog 30 [.c (.s (l.map eA)),.agg a.row] (JH λL=>L.length<=9/\∀ x∈L,be x):=by
 refine lG ae Tryz.func30 (by kernel_rfl) rfl rfl rfl (Nat.le_of_ble_eq_true rfl) (λw0 base o u hu=>?_);simp [Hub.row];intro b3;refine oE (so l hl) hu (by simp) (λb h=>?_);simp;intro H;refine bN (Aw l hl a ok) hu (by simp) rfl (by omega) (by omega) (by simp [Hub.row]) ?_
 rintro _ i1 h1 ⟨C,⟨hC1,hC2⟩,rfl⟩ g0 g1
 simp
 refine ah eok (λx : Nat × List Call × Hd × Bool=>x.1<=C.length/\x.2.1.length<=x.1/\(∀ s∈x.2.1,be s))
  (λx=>⟨36,0,[(24,.v (.int .i64 x.1)),(23,.v (.int .i64 C.length)),(22,.ro (C.map Call.row)),(6,.sl 304 x.2.2.1 7 0 x.2.1.length)],(304,.rows x.2.2.1 7 (x.2.1.map Call.row) x.2.2.2) :: phs o⟩)
  (λx=>C.length - x.1) (0,[],some (H,0,0),true) (by simp) (by simp) (λx hx=>Ent.refl ?_)
 obtain ⟨m,L,H',ow⟩:=x;obtain ⟨hx1,hx2,hx3⟩:=hx;simp only at hx1 hx2 hx3 ⊢;by_cases hlt : m < C.length
 ·simp [hlt]
  obtain ⟨c,hc⟩ : ∃ c,C[m] = c:=⟨_,rfl⟩;have hcb:=hC2 c (hc ▸ List.getElem_mem _);have hcn : dy c<=2 ^ 28:=by unfold tc at hcb;omega
  simp [hc,Call.row];intro b8;refine aa.ro (oJ c (by omega)) (by simp [Call.row]) ?_;by_cases q : be c
  ·simp [q]
   intro b32;refine ⟨by omega,λH2=>Ent.refl ⟨m + 1,L ++ [c],⟨by omega,by simp only [List.length_append,List.length_singleton];omega,?_⟩,by omega,H2,Or.inl ?_⟩⟩;rotate_left
   ·simp [Call.row]
    exact ag (by omega)
   intro y hy;rcases List.mem_append.1 hy with hy | hy
   ·exact hx3 y hy
   ·simp at hy;subst hy;exact q
  ·simp [ab q]
   cases ow with
   | true =>
     refine Ent.refl ⟨m + 1,L,⟨by omega,by omega,hx3⟩,by omega,H',Or.inr ?_⟩;simp;exact ag (by omega)
   | false =>
     refine Ent.refl ⟨m + 1,L,⟨by omega,by omega,hx3⟩,by omega,H',Or.inl ?_⟩;simp;exact ag (by omega)
 ·simp [hlt]
  refine ⟨_,⟨L,⟨by omega,hx3⟩,rfl⟩,?_⟩;simp
end Go.Proofs.YtoldjebobgocpaaGreat
namespace Go.AM
open Go.RowKit
mutual
def fz (k : Nat) (H : Hd) (sz : Nat) (rs : List (List CD)) : AV->AV
 | .sl k' H' sz' off len=>if k' = k then (if H' = H/\sz' = sz/\off + len<=rs.length then .ro (cut rs off len) else .any) else .sl k' H' sz' off len
 | .agg l=>.agg (fzL k H sz rs l)
 | .tup l=>.tup (fzL k H sz rs l)
 | .clo f l=>.clo f (fzL k H sz rs l)
 | .any=>.any
 | .un=>.un
 | .nil=>.nil
 | .v u=>.v u
 | .ro r=>.ro r
 | .p a b c=>.p a b c
 | .e a b c d e=>.e a b c d e
 | .rp r=>.rp r
 | .cv u n=>.cv u n
 | .ml a b c d=>.ml a b c d
 | .is u=>.is u
def fzL (k : Nat) (H : Hd) (sz : Nat) (rs : List (List CD)) : List AV->List AV
 | []=>[]
 | a :: l=>fz k H sz rs a :: fzL k H sz rs l
end
theorem o9 (k : Nat) (H : Hd) (sz : Nat) (rs : List (List CD)) : ∀ (l : List AV) (i : Nat),(fzL k H sz rs l)[i]? = l[i]?.map (fz k H sz rs)
 | [],i=>by simp [fzL]
 | a :: l,0=>by simp [fzL]
 | a :: l,i + 1=>by simp [fzL,o9 k H sz rs l i]
theorem o8 (k : Nat) (H : Hd) (sz : Nat) (rs : List (List CD)) : ∀ l : List AV,(fzL k H sz rs l).length = l.length
 | []=>rfl
 | a :: l=>by simp [fzL,o8 k H sz rs l]
def fzO (k : Nat) (H : Hd) (sz : Nat) (rs : List (List CD)) : AObj->AObj
 | .vars b T cells=>.vars b T (fzL k H sz rs cells)
 | o=>o
def fzT (k : Nat) (H : Hd) (sz : Nat) (rs : List (List CD)) (t : List (Nat × AV)) : List (Nat × AV):=t.map λp=>(p.1,fz k H sz rs p.2)
def fzH (k : Nat) (H : Hd) (sz : Nat) (rs : List (List CD)) : AH->AH
 | []=>[]
 | (i,o) :: h=>(i,fzO k H sz rs o) :: fzH k H sz rs h
theorem B5 (k : Nat) (H : Hd) (sz : Nat) (rs : List (List CD)) : ∀ (t : List (Nat × AV)) (i : Nat),aG (fzT k H sz rs t) i = fz k H sz rs (aG t i)
 | [],i=>rfl
 | (j, v) :: t, i => by
   simp only [fzT,List.map_cons,aG]
   split
   ·rfl
   ·exact B5 k H sz rs t i
theorem B6 (k : Nat) (H : Hd) (sz : Nat) (rs : List (List CD)) : ∀ (h : AH) (i : Nat),AH.get (fzH k H sz rs h) i = fzO k H sz rs (AH.get h i)
 | [],i=>rfl
 | (j, o) :: h, i => by
   rw [fzH,aI,aI]
   split
   ·rfl
   ·exact B6 k H sz rs h i
theorem wo (k : Nat) (H : Hd) (sz : Nat) (rs : List (List CD)) (o : AObj) : (fzO k H sz rs o).blk = o.blk:=by cases o<;>rfl
theorem Gm {base : Bs} {h : AH} {w : World} {E : Nat->Nat->Prop} (HH : HRel base h w E) {k : Nat} {H : Hd} {sz : Nat} {rs : List (List CD)} {own : Bool} (hget : h.get k = .rows H sz rs own) {M' : Nat->Prop} (hM : ∀ c,M' c->h.M c/\(h.get k).blk≠some c)
 {av : AV} {u : Value} (hv : VRel w h.M av u) : VRel w M' (fz k H sz rs av) u:=by
 have t : Tr h.M w M' w:=⟨Nat.le_refl _,λ_ _ _=>rfl,λc _ hc=>(hM c hc).1⟩
 induction hv with
 | agg l xs hs _ ih =>
   refine .agg _ _ (by rw [hs,o8]) (λi av hi=>?_);rw [o9] at hi;obtain ⟨a,ha,rfl⟩:=Option.map_eq_some_iff.1 hi;exact ih i a ha
 | tup l xs hs _ ih =>
   refine .tup _ _ (by rw [hs,o8]) (λi av hi=>?_);rw [o9] at hi;obtain ⟨a,ha,rfl⟩:=Option.map_eq_some_iff.1 hi;exact ih i a ha
 | clo f l xs hs _ ih =>
   refine .clo f _ _ (by rw [hs,o8]) (λi av hi=>?_);rw [o9] at hi;obtain ⟨a,ha,rfl⟩:=Option.map_eq_some_iff.1 hi;exact ih i a ha
 | sl k' H' sz' off len x hx =>
   simp only [fz]
   split
   ·split
    ·rename_i hk hc
     obtain ⟨rfl,rfl,hlen⟩:=hc;subst hk;have ho:=HH.obj k';rw [hget] at ho;refine .ro _ _ ?_
     cases H' with
     | none =>
       obtain ⟨⟨a,rfl⟩,rfl⟩:=hx;rw [show rs = [] from ho,show cut ([] : List (List CD)) off 0 = [] from by simp [dz]];exact .empty _ _ (by intro h;cases h)
     | some q =>
       obtain ⟨b,o,C⟩:=q;obtain ⟨S0,hrd,hS0⟩:=gf ho ⟨k',by rw [hget];rfl⟩ hx hlen;refine hrd.weaken.map (λ_ _ _=>rfl) (λc hc _ hm=>?_);rcases hS0 c hc with e | e
       ·exact (hM c hm).2 (by rw [hget,e];rfl)
       ·exact e.2 (hM c hm).1
    ·exact .any _
   ·exact .sl _ _ _ _ _ _ hx
 | any x=>exact .any x
 | un=>exact .un
 | nil=>exact .nil
 | v u h=>exact .v u h
 | ro rows x h=>exact (VRel.ro rows x h).tr t
 | cv u len h=>exact .cv u len h
 | ml k H sz len x h=>exact .ml k H sz len x h
 | is u=>exact .is u
 | p k b c=>exact .p k b c
 | e k b o C sz r c=>exact .e k b o C sz r c
 | rp row b o cs T fr h1 h2 h3 h4=>exact (VRel.rp row b o cs T fr h1 h2 h3 h4).tr t
theorem Rep.freeze {w0 : World} {base : Bs} {st : ASt} {a : Act} {w : World} (hR : Rep w0 base st a w) {k : Nat} {H : Hd} {sz : Nat} {rs : List (List CD)} {own : Bool} (hget : st.h.get k = .rows H sz rs own) :
 Rep w0 base { st with t:=fzT k H sz rs st.t,h:=(k,.dead) :: fzH k H sz rs st.h } a w:=by
 obtain ⟨E,HH⟩:=hR.heap;have hg : ∀ i,AH.get ((k,.dead) :: fzH k H sz rs st.h) i = if i = k then .dead else fzO k H sz rs (st.h.get i):=λi=>by rw [aI,B6]
 have hM : ∀ c,AH.M ((k,.dead) :: fzH k H sz rs st.h) c->st.h.M c/\(st.h.get k).blk≠some c:=by
  rintro c ⟨i,hi⟩
  rw [hg] at hi
  split at hi
  ·cases hi
  ·rename_i hne
   rw [wo] at hi;exact ⟨⟨i,hi⟩,λhk=>hne (HH.inj _ _ c hi hk)⟩
 have t : Tr st.h.M w (AH.M ((k,.dead) :: fzH k H sz rs st.h)) w:=⟨Nat.le_refl _,λ_ _ _=>rfl,λc _ hc=>(hM c hc).1⟩;refine ⟨hR.dfr,hR.size,λi=>?_,⟨λj=>if j = k then (λ_=>False) else E j,λi=>?_,λi j c hi hj=>?_,λi c hi=>?_,λi c hc=>?_,λi j c hi hj=>?_,λi c hc=>?_⟩,hR.below,hR.base_le⟩
 ·show VRel w _ (aG (fzT k H sz rs st.t) i) _
  rw [B5];exact Gm HH hget hM (hR.tmp i)
 ·rw [hg]
  by_cases hik : i = k
  ·rw [if_pos hik,if_pos hik];trivial
  ·rw [if_neg hik,if_neg hik]
   have ho:=HH.obj i
   cases hoi : st.h.get i with
   | vars b T cells =>
     rw [hoi] at ho;obtain ⟨cs,h1,h2,h3⟩:=ho;refine ⟨cs,h1,by rw [h2,o8],λj av hj=>?_⟩;rw [o9] at hj;obtain ⟨x,hx,rfl⟩:=Option.map_eq_some_iff.1 hj;exact Gm HH hget hM (h3 j x hx)
   | dead=>trivial
   | rows H2 sz2 rows2 own2=>rw [hoi] at ho;exact ho.tr t (λ_ _=>rfl) (λc hc _=>hc)
   | lent H2 sz2 rows2=>rw [hoi] at ho;exact ho.tr t (λ_ _=>rfl) (λc hc _=>hc)
   | part H2 sz2 rows2 lo=>rw [hoi] at ho;exact ho.tr t (λ_ _=>rfl) (λc hc _=>hc)
 ·rw [hg] at hi hj
  split at hi
  ·cases hi
  ·split at hj
   ·cases hj
   ·rw [wo] at hi hj;exact HH.inj _ _ c hi hj
 ·rw [hg] at hi
  split at hi
  ·cases hi
  ·rw [wo] at hi;exact HH.low i c hi
 ·split at hc
  ·exact hc.elim
  ·exact HH.elow i c hc
 ·split at hi
  ·exact hi.elim
  ·split at hj
   ·exact hj.elim
   ·exact HH.einj _ _ c hi hj
 ·split at hc
  ·exact hc.elim
  ·exact λhm=>HH.em i c hc (hM c hm).1
theorem au.freeze {E : Env} {id : Nat} {ops : List Oper} {Q : Exit->ASt->Prop} {n kb : Nat} {t : List (Nat × AV)} {h : AH} (k : Nat) {H : Hd} {sz : Nat} {rs : List (List CD)} {own : Bool} (hget : h.get k = .rows H sz rs own)
 (h2 : au E id ops Q ⟨n,kb,fzT k H sz rs t,(k,.dead) :: fzH k H sz rs h⟩) : au E id ops Q ⟨n,kb,t,h⟩:=λa w hR=>h2 a w (hR.freeze (st:=⟨n,kb,t,h⟩) hget)
section rules
variable {k : Nat} {H : Hd} {sz : Nat} {rs : List (List CD)}
theorem IP : fzT k H sz rs [] = []:=(rfl)
theorem Gn {i : Nat} {v : AV} {t : List (Nat × AV)} : fzT k H sz rs ((i,v) :: t) = (i,fz k H sz rs v) :: fzT k H sz rs t:=(rfl)
theorem Gt {i : Nat} {o : AObj} {h : AH} : fzH k H sz rs ((i,o) :: h) = (i,fzO k H sz rs o) :: fzH k H sz rs h:=(rfl)
theorem IS : fzH k H sz rs [] = []:=(rfl)
theorem yS : ∀ (W : dH) (i : Nat),fzH k H sz rs (eT i W) = eT i W
 | [],i=>rfl
 | q :: l, i => by
   have e : ∀ xs : List Value,fzL k H sz rs (xs.map .is) = xs.map .is:=by
    intro xs
    induction xs with
    | nil=>rfl
    | cons x xs ih=>simp [fzL,fz,ih]
   simp [eT,fzH,phO,fzO,e,yS l]
theorem IR {W : dH} : fzH k H sz rs (phs W) = phs W:=yS W _
theorem Gp {b : Nat} {T : TypeId} {l : List AV} : fzO k H sz rs (.vars b T l) = .vars b T (fzL k H sz rs l):=(rfl)
theorem Gq {H' : Hd} {sz' : Nat} {r : List (List CD)} {own : Bool} : fzO k H sz rs (.rows H' sz' r own) = .rows H' sz' r own:=(rfl)
theorem Gr : fzO k H sz rs .dead = .dead:=(rfl)
theorem IQ : fzL k H sz rs [] = []:=by simp [fzL]
theorem Gs {a : AV} {l : List AV} : fzL k H sz rs (a :: l) = fz k H sz rs a :: fzL k H sz rs l:=by rw [fzL]
theorem RQ {u : Value} : fz k H sz rs (.v u) = .v u:=by rw [fz]
theorem MA : fz k H sz rs .any = .any:=by rw [fz]
theorem Pw : fz k H sz rs .un = .un:=by rw [fz]
theorem My : fz k H sz rs .nil = .nil:=by rw [fz]
theorem Pz {r : List (List CD)} : fz k H sz rs (.ro r) = .ro r:=by rw [fz]
theorem Py {r : List CD} : fz k H sz rs (.rp r) = .rp r:=by rw [fz]
theorem PB {u : Value} {n : Nat} : fz k H sz rs (.cv u n) = .cv u n:=by rw [fz]
theorem PA {a c d : Nat} {b : Hd} : fz k H sz rs (.ml a b c d) = .ml a b c d:=by rw [fz]
theorem RT {a b c : Nat} : fz k H sz rs (.p a b c) = .p a b c:=by rw [fz]
theorem RU {a c d e : Nat} {b : Hd} : fz k H sz rs (.e a b c d e) = .e a b c d e:=by rw [fz]
theorem MB {l : List AV} : fz k H sz rs (.agg l) = .agg (fzL k H sz rs l):=by rw [fz]
theorem Mx {l : List AV} : fz k H sz rs (.tup l) = .tup (fzL k H sz rs l):=by rw [fz]
theorem Mz {f : Nat} {l : List AV} : fz k H sz rs (.clo f l) = .clo f (fzL k H sz rs l):=by rw [fz]
theorem Px {k' sz' off len : Nat} {H' : Hd} : fz k H sz rs (.sl k' H' sz' off len) = if k' = k then (if H' = H/\sz' = sz/\off + len<=rs.length then .ro (cut rs off len) else .any) else .sl k' H' sz' off len:=by rw [fz]
end rules
attribute [simp] IP Gn Gt IS IR Gp Gq Gr IQ Gs RQ MA Pw My Pz Py PB PA RT RU MB Mx Mz Px
open Go.RowKit
theorem JI : ∀ (l : List Value),AV.qL (l.map .is) = true
 | []=>rfl
 | _ :: l=>by simp [AV.q,JI l]
theorem rT : ∀ (o : dH) (i : Nat),qH (eT i o) = true
 | [],_=>rfl
 | q :: l,i=>by simp [eT,phO,AObj.q,JI,rT l]
@[simp] theorem RD (o : dH) : qH (phs o) = true:=rT o _
theorem xp {P : Program} {Ty : Nat → Option TI} (hT : ∀ t ti, Ty t = some ti → TIok P t ti) {f : Nat} {fn : Func} {c : Code} (hf : P.funcs[f]? = some fn) (hname : (fn.name == "runtime.NumGoroutine") = false) (hb : fn.body = some c)
 {n : Nat} {rs : List ResultVar} (hnt : fn.ntmps = n) (hrs : fn.results = ⟨rs⟩) {args : List VD} {R : RR->Prop} (hn : args.length<=n)
 (h : ∀ w0 base o,d9 ⟨P,Ty,w0,⟨base,base,true,λ_=>True⟩⟩ c (tj ⟨P,Ty,w0,⟨base,base,false,λ_=>True⟩⟩ o rs R) { n:=n,kb:=0,t:=jy 0 args,h:=phs o }) : di P f args R:=by
 subst hnt;have hrs' : fn.results.toList = rs:=by rw [hrs]
 subst hrs';refine ⟨⟨fn,hf,hname,by rw [hb];rfl⟩,λw o xs ho hs hx=>calls_of_wp hf hb ?_⟩;have hE : EOk ⟨P,Ty,w,⟨λc=>c < w.heap.size/\o.off c,λc=>c < w.heap.size/\o.off c,true,λ_=>True⟩⟩:=⟨hT,λw' hb=>trivial⟩
 have hR:=zW ho (n:=fn.ntmps) (xs:=xs) (t:=jy 0 args) (by omega) (λq=>by
  rw [jx,if_pos (Nat.zero_le q),Nat.sub_zero]
  split
  ·rename_i v hv
   have hlt : q < xs.size:=by rw [hs];exact (List.getElem?_eq_some_iff.1 hv).1
   have e : (xs ++ Array.replicate (fn.ntmps - xs.size) undef).getD q undef = xs.getD q undef:=by
    simp only [Array.getD_eq_getD_getElem?];rw [Array.getElem?_append_left hlt]
   rw [e];exact (hx q v hv).ph
  ·exact .any _)
 refine wp_mono (bM hE c _ _ _ w hR.loose (h w _ o)) ?_
 rintro e a' w' ⟨st',hq,hR'⟩
 cases e with
 | normal=>exact pM hT ho hR'.loose hq
 | ret=>exact pM hT ho hR'.loose hq
 | _=>exact hq.elim
end Go.AM
