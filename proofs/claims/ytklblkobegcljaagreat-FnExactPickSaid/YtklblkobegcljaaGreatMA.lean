import Derived.WalkKit
import Derived.Laws.CopyRow
import Derived.Deep.LoopGhost
import Derived.Deep.Slices
import Derived.IntWalk
import Derived.JoinedOf
import Derived.Laws.Externs
import Derived.Laws.IdiomCopy
import Derived.Lib.AppendZerosOnto
import Derived.Lib.Overlaps
import Derived.Orders
import Derived.ProofKit
import Derived.Shelf.RegionOpenPlain
import Derived.Calls
import Derived.Control
import Derived.Laws.Append
import Derived.Laws.AppendOwn
import Derived.Laws.Entries
import Derived.Laws.Sem
import Derived.Laws.Tables
import Derived.Lib.AppendZeros
theorem ae:type_of% @Go.IntWalk.i64_in:=@Go.IntWalk.i64_in
theorem ai:type_of% @Nat.le_of_ble_eq_true:=@Nat.le_of_ble_eq_true
theorem aj:type_of% @List.getElem_mem:=@List.getElem_mem
theorem ak:type_of% @List.getElem?_eq_getElem:=@List.getElem?_eq_getElem
theorem an:type_of% @List.getElem?_eq_some_iff:=@List.getElem?_eq_some_iff
theorem ao:type_of% @if_pos:=@if_pos
theorem aq:type_of% @Nat.mul_le_mul_right:=@Nat.mul_le_mul_right
theorem au:type_of% @if_neg:=@if_neg
theorem aA:type_of% @List.eq_nil_of_length_eq_zero:=@List.eq_nil_of_length_eq_zero
theorem aC:type_of% @List.take_of_length_le:=@List.take_of_length_le
theorem aD:type_of% @List.mem_cons_of_mem:=@List.mem_cons_of_mem
theorem aF:type_of% @Nat.le_refl:=@Nat.le_refl
theorem aG:type_of% @Bool.and_eq_true:=@Bool.and_eq_true
theorem aK:type_of% @List.mem_cons_self:=@List.mem_cons_self
theorem aO:type_of% @List.mem_append:=@List.mem_append
theorem aP:type_of% @List.mem_of_getElem?:=@List.mem_of_getElem?
theorem aR:type_of% @Option.map_eq_some_iff:=@Option.map_eq_some_iff
theorem aS:type_of% @List.getD_eq_getElem?_getD:=@List.getD_eq_getElem?_getD
theorem aT:type_of% @Array.getD_eq_getD_getElem?:=@Array.getD_eq_getD_getElem?
theorem aV:type_of% @List.mem_cons:=@List.mem_cons
theorem aW:type_of% @Classical.byContradiction:=@Classical.byContradiction
theorem ba:type_of% @List.mem_of_mem_drop:=@List.mem_of_mem_drop
theorem bb:type_of% @List.take_append_getElem:=@List.take_append_getElem
theorem bd:type_of% @List.getElem?_append_right:=@List.getElem?_append_right
theorem bf:type_of% @Go.run_underlying:=@Go.run_underlying
theorem bg:type_of% @List.drop_eq_nil_of_le:=@List.drop_eq_nil_of_le
theorem bu:type_of% @List.mem_of_mem_take:=@List.mem_of_mem_take
theorem bD:type_of% @Nat.succ_mul:=@Nat.succ_mul
theorem bI:type_of% @List.append_nil:=@List.append_nil
theorem bJ:type_of% @List.replicate_succ:=@List.replicate_succ
theorem bK:type_of% @List.map_cons:=@List.map_cons
theorem bU:type_of% @decide_eq_true_eq:=@decide_eq_true_eq
theorem bV:type_of% @Nat.lt_of_lt_of_le:=@Nat.lt_of_lt_of_le
theorem bW:type_of% @List.getElem?_map:=@List.getElem?_map
theorem bX:type_of% @List.append_assoc:=@List.append_assoc
theorem bY:type_of% @Nat.le_mul_of_pos_right:=@Nat.le_mul_of_pos_right
theorem cf:type_of% @Bool.not_eq_true':=@Bool.not_eq_true'
theorem cg:type_of% @List.all_eq_true:=@List.all_eq_true
theorem cj:type_of% @List.mem_filter:=@List.mem_filter
theorem cr:type_of% @List.length_cons:=@List.length_cons
theorem cE:type_of% @Nat.zero_add:=@Nat.zero_add
theorem cF:type_of% @List.mem_map:=@List.mem_map
theorem cI:type_of% @List.take_length:=@List.take_length
theorem cJ:type_of% @Int.toNat_natCast:=@Int.toNat_natCast
theorem cM:type_of% @Go.Result.andThen_ok:=@Go.Result.andThen_ok
theorem cN:type_of% @List.getElem?_take:=@List.getElem?_take
theorem cX:type_of% @List.getElem?_append_left:=@List.getElem?_append_left
theorem cY:type_of% @List.drop_eq_getElem_cons:=@List.drop_eq_getElem_cons
theorem da:type_of% @List.cons_append:=@List.cons_append
theorem dk:type_of% @if_true:=@if_true
theorem dm:type_of% @if_false:=@if_false
theorem dr:type_of% @Go.grownCap_le_maxLen:=@Go.grownCap_le_maxLen
theorem du:type_of% @Array.getElem?_append_left:=@Array.getElem?_append_left
theorem dx:type_of% @Go.Addr.add_lit:=@Go.Addr.add_lit
theorem dI:type_of% @List.take_append_drop:=@List.take_append_drop
theorem dJ:type_of% @List.set_append_right:=@List.set_append_right
theorem dK:type_of% @Go.setRow_heap:=@Go.setRow_heap
theorem dQ:type_of% @List.getElem?_of_mem:=@List.getElem?_of_mem
theorem dR:type_of% @List.getElem?_drop:=@List.getElem?_drop
theorem dT:type_of% @Nat.min_eq_left:=@Nat.min_eq_left
theorem dW:type_of% @Nat.le_trans:=@Nat.le_trans
theorem eu:type_of% @List.length_pos_iff:=@List.length_pos_iff
theorem ez:type_of% @Option.some.injEq:=@Option.some.injEq
theorem eA:type_of% @List.getElem?_set:=@List.getElem?_set
theorem eF:type_of% @Nat.add_assoc:=@Nat.add_assoc
theorem eG:type_of% @List.map_take:=@List.map_take
theorem eK:type_of% @List.length_append:=@List.length_append
theorem eM:type_of% @Go.Sem.run_bind:=@Go.Sem.run_bind
theorem eN:type_of% @Nat.add_mul:=@Nat.add_mul
theorem eO:type_of% @List.ext_getElem:=@List.ext_getElem
theorem eZ:type_of% @List.mem_range:=@List.mem_range
theorem fb:type_of% @List.getElem_of_mem:=@List.getElem_of_mem
theorem fp:type_of% @Go.Sem.run_pure:=@Go.Sem.run_pure
theorem fq:type_of% @Option.map_some:=@Option.map_some
theorem ft:type_of% @Go.IntWalk.i64_in:=@Go.IntWalk.i64_in
theorem fB:type_of% @List.getElem_append_right:=@List.getElem_append_right
theorem fN:type_of% @Option.bind_some:=@Option.bind_some
theorem fO:type_of% @List.pairwise_cons:=@List.pairwise_cons
theorem fQ:type_of% @List.mem_filterMap:=@List.mem_filterMap
theorem fZ:type_of% @List.getElem?_cons_succ:=@List.getElem?_cons_succ
theorem gf:type_of% @Bool.or_eq_true:=@Bool.or_eq_true
theorem gz:type_of% @Go.wp_mono:=@Go.wp_mono
theorem gO:type_of% @Nat.lt_or_ge:=@Nat.lt_or_ge
theorem gW:type_of% @List.getElem?_toArray:=@List.getElem?_toArray
theorem ij:type_of% @List.nil_append:=@List.nil_append
theorem ik:type_of% @List.map_append:=@List.map_append
theorem il:type_of% @List.length_nil:=@List.length_nil
theorem iu:type_of% @Nat.zero_le:=@Nat.zero_le
theorem iw:type_of% @List.getElem?_modify:=@List.getElem?_modify
theorem iJ:type_of% @Go.calls_of_wp:=@Go.calls_of_wp
theorem iW:type_of% @List.length_drop:=@List.length_drop
theorem iX:type_of% @List.getElem_set:=@List.getElem_set
theorem jf:type_of% @Nat.sub_zero:=@Nat.sub_zero
theorem jg:type_of% @List.map_nil:=@List.map_nil
theorem jC:type_of% @Option.some.inj:=@Option.some.inj
theorem kH:type_of% @List.drop_zero:=@List.drop_zero
theorem kM:type_of% @Option.getD_some:=@Option.getD_some
theorem kV:type_of% @Go.grownCap_ge:=@Go.grownCap_ge
theorem kW:type_of% @List.mem_or_eq_of_mem_set:=@List.mem_or_eq_of_mem_set
theorem lv:type_of% @List.take_succ_cons:=@List.take_succ_cons
theorem lM:type_of% @Option.isSome_iff_exists:=@Option.isSome_iff_exists
theorem lS:type_of% @Go.run_firstCells_some:=@Go.run_firstCells_some
theorem lT:type_of% @List.length_set:=@List.length_set
theorem lV:type_of% @beq_iff_eq:=@beq_iff_eq
theorem mW:type_of% @Nat.eq_zero_of_not_pos:=@Nat.eq_zero_of_not_pos
theorem mX:type_of% @List.length_pos_of_mem:=@List.length_pos_of_mem
theorem oc:type_of% @List.contains_iff_mem:=@List.contains_iff_mem
theorem od:type_of% @Array.getElem?_toList:=@Array.getElem?_toList
theorem oe:type_of% @Nat.le_of_not_lt:=@Nat.le_of_not_lt
theorem og:type_of% @List.getElem_map:=@List.getElem_map
theorem oh:type_of% @Array.eq_empty_of_size_eq_zero:=@Array.eq_empty_of_size_eq_zero
theorem oI:type_of% @congrArg:=@congrArg
theorem pQ:type_of% @List.foldl_cons:=@List.foldl_cons
theorem pS:type_of% @List.mem_map_of_mem:=@List.mem_map_of_mem
theorem pT:type_of% @Nat.add_zero:=@Nat.add_zero
theorem qV:type_of% @Go.run_append_grow:=@Go.run_append_grow
theorem r9:type_of% @Nat.add_sub_cancel:=@Nat.add_sub_cancel
theorem sa:type_of% @List.set_cons_zero:=@List.set_cons_zero
theorem sb:type_of% @List.set_cons_succ:=@List.set_cons_succ
theorem sd:type_of% @Int.tmod_eq_emod_of_nonneg:=@Int.tmod_eq_emod_of_nonneg
theorem se:type_of% @Array.all_eq_true':=@Array.all_eq_true'
theorem sk:type_of% @Go.setRow_other:=@Go.setRow_other
theorem sQ:type_of% @List.pairwise_iff_getElem:=@List.pairwise_iff_getElem
theorem sR:type_of% @Array.mapM_eq_mapM_toList:=@Array.mapM_eq_mapM_toList
theorem tC:type_of% @Go.growslice_fits:=@Go.growslice_fits
theorem tD:type_of% @Nat.sub_mul:=@Nat.sub_mul
theorem tE:type_of% @List.ext_getElem?:=@List.ext_getElem?
theorem tF:type_of% @List.map_drop:=@List.map_drop
theorem tG:type_of% @List.getElem_append_left:=@List.getElem_append_left
theorem u5:type_of% @Go.Lib.run_append_grow_zeros:=@Go.Lib.run_append_grow_zeros
theorem u6:type_of% @Nat.mod_eq_of_lt:=@Nat.mod_eq_of_lt
theorem wQ:type_of% @eq_iff_iff:=@eq_iff_iff
theorem wS:type_of% @List.map_set:=@List.map_set
theorem wU:type_of% @List.getElem_cons_succ:=@List.getElem_cons_succ
theorem wW:type_of% @List.drop_of_length_le:=@List.drop_of_length_le
theorem xg:type_of% @List.nodup_cons:=@List.nodup_cons
theorem xh:type_of% @List.length_map:=@List.length_map
theorem yt:type_of% @Nat.div_lt_iff_lt_mul:=@Nat.div_lt_iff_lt_mul
theorem Af:type_of% @List.length_filter_lt_length_iff_exists:=@List.length_filter_lt_length_iff_exists
theorem Ag:type_of% @Go.Lib.run_overlaps_apart:=@Go.Lib.run_overlaps_apart
theorem Ah:type_of% @List.mem_of_getLast?:=@List.mem_of_getLast?
theorem AX:type_of% @Go.Lib.wpList_append_run:=@Go.Lib.wpList_append_run
theorem BW:type_of% @List.map_congr_left:=@List.map_congr_left
theorem BX:type_of% @List.flatMap_append:=@List.flatMap_append
theorem BY:type_of% @List.append_toArray:=@List.append_toArray
theorem E5:type_of% @Int.add_assoc:=@Int.add_assoc
theorem E6:type_of% @Nat.mod_lt:=@Nat.mod_lt
theorem E7:type_of% @Bool.false_eq_true:=@Bool.false_eq_true
theorem E8:type_of% @Array.any_eq_true':=@Array.any_eq_true'
theorem GO:type_of% @Go.run_callFunc_extern:=@Go.run_callFunc_extern
theorem GP:type_of% @List.findIdx?_eq_some_iff_getElem:=@List.findIdx?_eq_some_iff_getElem
theorem GQ:type_of% @eq_true:=@eq_true
theorem GR:type_of% @Nat.mul_comm:=@Nat.mul_comm
theorem Nj:type_of% @forall_eq_or_imp:=@forall_eq_or_imp
theorem Nk:type_of% @List.length_take:=@List.length_take
theorem Nl:type_of% @List.filter_cons:=@List.filter_cons
theorem Pr:type_of% @Go.run_storeCells_at:=@Go.run_storeCells_at
theorem Ps:type_of% @Nat.div_add_mod:=@Nat.div_add_mod
theorem Pt:type_of% @List.foldr_cons:=@List.foldr_cons
theorem Pu:type_of% @List.cons.injEq:=@List.cons.injEq
theorem Th:type_of% @Ne.symm:=@Ne.symm
theorem Ti:type_of% @Array.getElem?_append_right:=@Array.getElem?_append_right
theorem Tj:type_of% @List.mapM_cons:=@List.mapM_cons
theorem VH:type_of% @List.mem_of_find?_eq_some:=@List.mem_of_find?_eq_some
theorem VI:type_of% @List.findIdx?_eq_none_iff:=@List.findIdx?_eq_none_iff
theorem VJ:type_of% @Array.getElem?_eq_getElem:=@Array.getElem?_eq_getElem
theorem Z0:type_of% @Nat.le_of_lt:=@Nat.le_of_lt
theorem Mr{p:Prop}(h:p:=by
 refine ag.pure (DB d hl' base o ho) (by simp[Doc.row]) ?_;have hvn:=vE d base o;generalize eJ d base o=R at e hvn⊢;obtain⟨v,code⟩:=R;simp only at e hvn⊢;simp;intro H1;by_cases c7:code=0
 rotate_left
 ·simp only[c7,if_false]at e
  simp[c7,e,Doc.res,Doc.zero]
 simp only[c7,if_true]at e;simp[c7];refine ag.pure (cC d) (by simp[Doc.row]) ?_;by_cases c8:999999000<=aB d
 ·simp only[c8,if_true]at e
  simp[c8,e,Doc.res,Doc.zero]
 simp only[c8,if_false]at e;simp[c8];refine ag.pure (vu d hl') (by simp[Doc.row]) ?_;simp[Doc.res];intro H2 H3 H4 b17 b87;refine⟨by omega,λH5=>?_⟩;refine ag.pure (cC ⟨d.name,d.fr,d.text,d.list++[⟨client,seq,v⟩],d.seen⟩) (by simp[Doc.row,Entry.row]) ?_
 have hr:aB ⟨d.name,d.fr,d.text,d.list++[⟨client,seq,v⟩],d.seen⟩=aB d+1:=by
  unfold aB;simp only[List.length_append,List.length_cons,List.length_nil];have h1:=hh.1;unfold aB at h1;rw[h1,Go.IntWalk.i64_in _ (by omega)];omega
 have hrr:=hr;rw[hrr];simp;intro b93;obtain⟨sp,hspd⟩:∃sp:Nat->List Seen×Bool,sp=λi=>sy client seq (aB d+1) (d.seen.take i):=⟨_,rfl⟩
 have hs0:sp 0=([],false):=by rw[hspd];simp[sy]
 have hsuc:∀i,∀h:i<d.seen.length,sp (i+1)=iM client seq (aB d+1) (sp i) d.seen[i]:=λi h=>by rw[hspd];exact A7 h
 have hspl:∀i,i<=d.seen.length->(sp i).1.length<=2*i:=λi h=>by rw[hspd];exact hsl i h
 have hall:vX client seq (aB d+1) (sp d.seen.length)=cT client seq (aB d+1) d.seen:=by rw[hspd];simp only[List.take_length];exact hasc
 clear hspd
 refine aH eok (λx:Nat×Hd=>x.1<=d.seen.length) (λx=>⟨162,0,[(97,.v (.int .i64 x.1)),(96,.v (.int .i64 d.seen.length)),(95,.sl 1300 H4 3 0 d.seen.length),(20,.v (.bool (sp x.1).2)),(19,.sl 1488 x.2 3 0 (sp x.1).1.length),(1,.v (.int .i64 client)),(2,.v (.int .i64 seq)),(18,.v (.int .i64 (aB d+1))),(17,.p 272 b17 0),(10,.p 160 b10 0)],
  [(272, .vars b17 119 [.v (.string d.name), .v (.int .i64 d.fr), .sl 1298 H2 1 0 d.text.length, .sl 1299 H5 3 0 (d.list.length+1), .sl 1300 H4 3 0 d.seen.length]),
   (160,.vars b10 119 [.v (.string ⟨#[]⟩),.v (.int .i64 0),.nil,.nil,.nil]),
   (1298,.rows H2 1 (d.text.map aI) true),(1299,.rows H5 3 ((d.list++([⟨client,seq,v⟩]:List Entry)).map Entry.row) true),(1300,.rows H4 3 (d.seen.map Seen.row) true),(1488,.rows x.2 3 ((sp x.1).1.map Seen.row) true)]⟩) (λx=>d.seen.length-x.1) (0,some (b93,0,0)) (by simp) (by simp[Entry.row,hs0]) (λx hi=>Ent.refl ?_)
 obtain⟨i,H⟩:=x;simp only at hi⊢;have hLl:=hspl i hi;by_cases hlt:i<d.seen.length
 ·have hsu:=hsuc i hlt
  generalize sp i=st at hLl hsu⊢;obtain⟨L,done⟩:=st;simp only at hLl⊢;obtain⟨x,hx⟩:∃x,d.seen[i]=x:=⟨_,rfl⟩;rw[hx]at hsu;simp[hlt,hx,Seen.row];intro b22;unfold iM at hsu;by_cases k1:x.client=client
  ·simp only[k1,if_true]at hsu
   simp[k1];exact Ent.refl ⟨i+1,by omega,by omega,H,by simp[Entry.row,hsu];exact aQ (by omega)⟩
  simp only[k1,if_false]at hsu;simp[k1];by_cases k2:done=false/\client<x.client
  ·obtain⟨rfl,k2⟩:=k2
   simp only[k2,and_self,if_true]at hsu;simp[k2];intro b118;refine⟨by omega,λH6 b122=>⟨by omega,λH7=>Ent.refl ⟨i+1,by omega,by omega,H7,?_⟩⟩⟩;simp[Seen.row,Entry.row,hsu];exact aQ (by omega)
  ·simp only[k2,if_false]at hsu
   have k3:done=true\/done=false/\¬client<x.client:=by
    cases done with
    |true=>exact .inl rfl
    |false=>exact .inr ⟨rfl,λh=>k2 ⟨rfl,h⟩⟩
   rcases k3 with rfl|⟨rfl,k3⟩
   ·simp
    intro b122;refine⟨by omega,λH7=>Ent.refl ⟨i+1,by omega,by omega,H7,?_⟩⟩;simp[Seen.row,Entry.row,hsu];exact aQ (by omega)
   ·simp[k3]
    intro b122;refine⟨by omega,λH7=>Ent.refl ⟨i+1,by omega,by omega,H7,?_⟩⟩;simp[Seen.row,Entry.row,hsu];exact aQ (by omega)
 ·obtain rfl:i=d.seen.length:=by omega
  generalize sp d.seen.length=st at hLl hall⊢;obtain⟨L,done⟩:=st;simp only at hLl⊢;unfold vX at hall
  cases done with
  | true =>
    simp only[if_true]at hall;simp;by_cases c9:d.list.length<8
    ·have c9':¬8<(d.list.length:Int)+1:=by omega
     simp[c9',e,cK,c9,<-hall,Entry.row,Seen.row];exact iq
    ·have hpd:cK d ⟨client,seq,v⟩=⟨d.name,d.fr+1,(apply ((d.list++([⟨client,seq,v⟩]:List Entry))[0]'(by simp)).o d.text).1,(d.list++([⟨client,seq,v⟩]:List Entry)).drop 1,cT client seq (aB d+1) d.seen⟩:=by unfold cK;rw[if_neg c9]
     obtain⟨e0,l',hd⟩:∃e0 l',d.list=e0::l':=by
      cases h:d.list with
      |nil=>rw[h]at c9;simp at c9
      |cons a l=>exact⟨a,l,rfl⟩
     have hm0:nL a9 e0.o<=2^40:=by
      have:=gF n1 (a:=e0) (by rw[hd];simp);unfold aX at this;omega
     have hll:d.list.length=l'.length+1:=by rw[hd];simp
     have c9':8<(l'.length:Int)+1+1:=by omega
     have c90:0<(l'.length:Int)+1+1:=by omega
     have ef:Go.IntKind.i64.wrap (d.fr+1)=d.fr+1:=Go.IntWalk.i64_in _ (by omega);have hpd2:cK d ⟨client,seq,v⟩=⟨d.name,d.fr+1,(apply e0.o d.text).1,l'++([⟨client,seq,v⟩]:List Entry),cT client seq (aB d+1) d.seen⟩:=by rw[hpd];simp[hd]
     simp[c9',hd,Entry.row];refine drw eok mix [0,1,2,3,4,5,6,11] [7,8,9,10,12] (.c 8 7 10 245 (.c 8 8 0 245 (.c 8 9 0 245 (.c 8 10 0 245 (.c 8 12 245 0 (.l 8 0) .s) .s) .s) .s) .s) ?_;simp[c90]
     try intros
     refine ag.pure (lz e0.o d.text hm0 (by omega)) (by simp) ?_;simp
     try intros
     simp[ef];have hlen1:1+(l'.length+1)<=l'.length+1+1:=by omega
     simp[e,hpd2,<-hall,Entry.row,cut,hlen1];exact⟨iq,(List.take_of_length_le (by simp)).symm⟩
  | false =>
    simp only[Bool.false_eq_true,if_false]at hall;simp;intro b132;refine⟨by omega,λH6=>?_⟩;by_cases c9:d.list.length<8
    ·have c9':¬8<(d.list.length:Int)+1:=by omega
     simp[c9',e,cK,c9,<-hall,Entry.row,Seen.row];exact⟨iq,yR⟩
    ·have hpd:cK d ⟨client,seq,v⟩=⟨d.name,d.fr+1,(apply ((d.list++([⟨client,seq,v⟩]:List Entry))[0]'(by simp)).o d.text).1,(d.list++([⟨client,seq,v⟩]:List Entry)).drop 1,cT client seq (aB d+1) d.seen⟩:=by unfold cK;rw[if_neg c9]
     obtain⟨e0,l',hd⟩:∃e0 l',d.list=e0::l':=by
      cases h:d.list with
      |nil=>rw[h]at c9;simp at c9
      |cons a l=>exact⟨a,l,rfl⟩
     have hm0:nL a9 e0.o<=2^40:=by
      have:=gF n1 (a:=e0) (by rw[hd];simp);unfold aX at this;omega
     have hll:d.list.length=l'.length+1:=by rw[hd];simp
     have c9':8<(l'.length:Int)+1+1:=by omega
     have c90:0<(l'.length:Int)+1+1:=by omega
     have ef:Go.IntKind.i64.wrap (d.fr+1)=d.fr+1:=Go.IntWalk.i64_in _ (by omega);have hpd2:cK d ⟨client,seq,v⟩=⟨d.name,d.fr+1,(apply e0.o d.text).1,l'++([⟨client,seq,v⟩]:List Entry),cT client seq (aB d+1) d.seen⟩:=by rw[hpd];simp[hd]
     simp[c9',hd,Entry.row];refine drw eok mix [0,1,2,3,4,5,6,11] [7,8,9,10,12] (.c 8 7 10 245 (.c 8 8 0 245 (.c 8 9 0 245 (.c 8 10 0 245 (.c 8 12 245 0 (.l 8 0) .s) .s) .s) .s) .s) ?_;simp[c90]
     try intros
     refine ag.pure (lz e0.o d.text hm0 (by omega)) (by simp) ?_;simp
     try intros
     simp[ef];have hlen1:1+(l'.length+1)<=l'.length+1+1:=by omega
     simp[e,hpd2,<-hall,Seen.row,Entry.row,cut,hlen1];exact⟨iq,(List.take_of_length_le (by simp)).symm,yR⟩):p:=h
theorem Dw{p:Prop}(h:p:=by
 simp;refine inl aw Tryz.func190 20000 (λw1 F=>?_);simp;intro g1 g2 g3;by_cases k1:c.kind=1
 ·have h:cO 1:=by unfold cO;omega
  have hu:eB c=⟨1,c.doc,0,0,0,[],c.text⟩:=by simp[eB,k1,h]
  simp[k1];refine ag.pure (dY 1) (by simp) ?_;simp[h];refine ag.pure (eW c ⟨1,c.doc,0,0,0,[],c.text⟩ (by omega)) (by simp[Call.row,k1]) ?_;rw[fin _ hu];simp
 by_cases k2:c.kind=2
 ·have h:cO 2:=by unfold cO;omega
  have hu:eB c=⟨2,c.doc,c.client,c.seq,c.n,c.o,[]⟩:=by simp[eB,k2,h]
  simp[k2];refine ag.pure (dY 2) (by simp) ?_;simp[h];refine drw eok mix [0,1,2,3,4,5,6,7,8,10,12,14] [9,11,13,15] (.c 12 9 3080 1015 (.c 12 11 772 243 (.c 12 13 194 49 (.c 12 15 49 0 (.l 12 0) .s) .s) .s) .s) ?_;simp
  try intros
  refine ag.pure (eW c ⟨2,c.doc,c.client,c.seq,c.n,c.o,[]⟩ (by omega)) (by simp[Call.row,k2]) ?_;rw[fin _ hu];simp
 by_cases k3:c.kind=3
 ·have h:cO 3:=by unfold cO;omega
  have hu:eB c=⟨3,c.doc,0,0,c.n,[],[]⟩:=by simp[eB,k3,h]
  simp[k3];refine ag.pure (dY 3) (by simp) ?_;simp[h];refine ag.pure (eW c ⟨3,c.doc,0,0,c.n,[],[]⟩ (by omega)) (by simp[Call.row,k3]) ?_;rw[fin _ hu];simp
 by_cases k4:c.kind=4
 ·have h:cO 4:=by unfold cO;omega
  have hu:eB c=⟨4,c.doc,0,0,0,[],[]⟩:=by simp[eB,k4,h]
  simp[k4];refine ag.pure (dY 4) (by simp) ?_;simp[h];refine ag.pure (eW c ⟨4,c.doc,0,0,0,[],[]⟩ (by omega)) (by simp[Call.row,k4]) ?_;rw[fin _ hu];simp
 by_cases k5:c.kind=5
 ·have h:cO 5:=by unfold cO;omega
  have hu:eB c=⟨5,c.doc,0,0,c.n,[],[]⟩:=by simp[eB,k5,h]
  simp[k5];refine ag.pure (dY 5) (by simp) ?_;simp[h];refine ag.pure (eW c ⟨5,c.doc,0,0,c.n,[],[]⟩ (by omega)) (by simp[Call.row,k5]) ?_;rw[fin _ hu];simp
 by_cases k6:c.kind=6
 ·have h:¬cO 6:=by unfold cO;omega
  have hu:eB c=⟨6,⟨#[]⟩,c.client,0,c.n,[],[]⟩:=by simp[eB,k6,h]
  simp[k6];refine ag.pure (dY 6) (by simp) ?_;simp[az h];refine drw eok mix [0,1,2,3,4,6] [5,7] (.c 6 5 50 13 (.c 6 7 13 0 (.l 6 0) .s) .s) ?_;simp
  try intros
  refine ag.pure (eW c ⟨6,⟨#[]⟩,c.client,0,c.n,[],[]⟩ (by omega)) (by simp[Call.row,k6]) ?_;rw[fin _ hu];simp
 by_cases k7:c.kind=7
 ·have h:¬cO 7:=by unfold cO;omega
  have hu:eB c=⟨7,⟨#[]⟩,c.client,0,0,[],[]⟩:=by simp[eB,k7,h]
  simp[k7];refine ag.pure (dY 7) (by simp) ?_;simp[az h];refine ag.pure (eW c ⟨7,⟨#[]⟩,c.client,0,0,[],[]⟩ (by omega)) (by simp[Call.row,k7]) ?_;rw[fin _ hu];simp
 have k8:c.kind=8:=by omega
 have h:¬cO 8:=by unfold cO;omega
 have hu:eB c=⟨8,⟨#[]⟩,0,0,0,[],[]⟩:=by simp[eB,k8,h]
 simp[k8];refine ag.pure (dY 8) (by simp) ?_;simp[az h];refine ag.pure (eW c ⟨8,⟨#[]⟩,0,0,0,[],[]⟩ (by omega)) (by simp[Call.row,k8]) ?_;rw[fin _ hu];simp):p:=h
theorem ma{p:Prop}(h:p:=by
 by_cases q1:t.c.kind=2
 ·cases q2:w.h.shut with
  | true =>
    have hq:q0:=by rw[hq0];exact .inr (.inl q2)
    refine aZ.quiet eok mix (by kernel_rfl) ?_;simp[hk,ht,Task.row,q1,hq]
  | false =>
    have hq:q0↔bq w.h.docs t.c.doc<0:=by rw[hq0,q1,q2];simp
    refine aZ.quiet eok mix (by kernel_rfl) ?_;simp[hk,ht,Task.row,q1];refine⟨_,_,hdoc,by simp[Hub.row,q2],?_⟩;simp[hq]
 ·have hq:q0:=by rw[hq0];exact .inl q1
  refine aZ.quiet eok mix (by kernel_rfl) ?_;simp[hk,ht,Task.row,q1,hq]):p:=h
theorem Mq{p:Prop}(h:p:=by
 refine Br.mk (λh1=>?_) (λh1=>?_)
 ·simp
  exact⟨i+1,⟨by omega,rG hlt hlt' hi.2 (HD h1)⟩,by omega,aQ (by omega)⟩
 ·simp[iU]
  exact Bl hlt hlt' (MF h1)):p:=h
theorem Mp{p:Prop}(h:p:=by
 have hblk:∀k b,(st'.h.get k).blk=some b->(st.h.get k).blk=some b:=by
  intro k b hb;have:=hob k
  revert hb this
  cases st'.h.get k with
  |dead=>intro hb;simp[AObj.blk]at hb
  | vars b' T cells =>
    intro hb hl;obtain⟨cells',he,-⟩:=fj.vars hl;rw[he];exact hb
  | rows Hd sz rows own =>
    intro hb hl;rcases hl with hl|⟨-,rfl,-⟩
    ·rw[hl];exact hb
    ·simp[AObj.blk]at hb
  |lent Hd sz rows=>intro hb;simp[AObj.blk]at hb
  |part Hd sz rows lo=>intro hb hl;rw[show st.h.get k=_ from hl];exact hb
 have hM:∀c,st'.h.M c->st.h.M c:=λc ⟨k,hk⟩=>⟨k,hblk k c hk⟩
 have t:Tr st.h.M w st'.h.M w:=⟨Nat.le_refl _,λ_ _ _=>rfl,λb _ hb=>hM b hb⟩;refine⟨hR.dfr,hR.size.trans hn,λi=>?_,⟨E,λk=>?_,λk k' b hk hk'=>H.inj _ _ b (hblk k b hk) (hblk k' b hk'),λk b hk=>H.low k b (hblk k b hk),H.elow,H.einj,λk c hc hM'=>H.em k c hc (hM c hM')⟩,hR.below,hR.base_le⟩
 ·rcases RO (t:=st'.t) (i:=i)with h|h
  ·rw[h];exact .any _
  ·exact((hR.tmp i).tr t).le (ht _ h)
 ·have h1:=(H.obj k).tr t (λ_ _=>rfl) (E':=E k) (λc hc _=>hc)
  have h2:=hob k
  revert h1 h2
  generalize st.h.get k=o
  cases st'.h.get k with
  |dead=>intro _ _;trivial
  | vars b T cells =>
    intro h1 h2;obtain⟨cells',rfl,hl⟩:=fj.vars h2;obtain⟨cs,g1,g2,g3⟩:=h1;obtain⟨g4,g5⟩:=ALe.get _ _ hl;refine⟨cs,g1,by omega,λj av hj=>?_⟩;obtain⟨av',hj',hle⟩:=g5 j av hj;exact(g3 j av' hj').le hle
  | rows Hd sz rows own =>
    intro h1 h2;rcases h2 with rfl|⟨rfl,rfl,rfl⟩
    ·exact h1
    ·rfl
  |lent Hd sz rows=>intro h1 h2;rw[show o=_ from h2]at h1;exact h1
  |part Hd sz rows lo=>intro h1 h2;rw[show o=_ from h2]at h1;exact h1):p:=h
theorem Mo{p:Prop}(h:p:=by
 by_cases w1:inv<=lin/\lin<=1000000
 rotate_left
 ·simp[az w1,finn (λh=>h.elim hZ w1)]
 have hB:BZ\/(inv<=lin/\lin<=1000000):=.inr w1;simp[w1];by_cases r1:rs = -1
 ·have h:TK:=(fin3 rfl hB).2 r1
  simp[r1,h]
 ·have h:¬TK:=λh=>r1 ((fin3 rfl hB).1 h)
  simp[r1,az h]):p:=h
theorem Dv{p:Prop}(h:p:=by
 refine⟨rfl,by simp;omega,λi=>?_,⟨λ_ _=>False,λk=>trivial,λk k' b hk=>by simp[AH.get,AObj.blk]at hk,λk b hk=>by simp[AH.get,AObj.blk]at hk,λk c hc=>hc.elim,λk k' c hc=>hc.elim,λk c hc=>hc.elim⟩,BelowF.refl _ _,λb hb=>hb.elim id id⟩
 show VRel w (AH.M []) (bB (mZ 0 args) i) _
 rw[qJ,if_pos (Nat.zero_le i),Nat.sub_zero]
 split
 ·rename_i v hv
  have hlt:i<xs.size:=by rw[hs];exact(List.getElem?_eq_some_iff.1 hv).1
  have e:(xs++Array.replicate (fn.ntmps-xs.size) undef).getD i undef=xs.getD i undef:=by
   simp only[Array.getD_eq_getD_getElem?];rw[Array.getElem?_append_left hlt]
  rw[e];exact(hx i v hv).rel.tr ⟨Nat.le_refl _,λ_ _ _=>rfl,λb _ h=>hM b h⟩
 ·exact .any _):p:=h
theorem Mn{p:Prop}(h:p:=by
 intro hq;obtain⟨vs,l,h1,h2,h3,h4⟩:=fT hE hR' fn.results.toList hq;obtain⟨Es,hH⟩:=hR'.heap;refine⟨hR'.dfr,if vs.length=1 then vs.getD 0 undef else .tuple vs.toArray,?_,_,rfl,⟨hR'.below.os,hR'.below.tape,hR'.below.output,hR'.below.size,hR'.below.block⟩,?_⟩
 ·have h1':(fn.results.toList.mapM (jy a'.tmps)).run P w'=.ok vs w':=h1
  rw[mH,Array.mapM_eq_mapM_toList];simp only[Sem.run_bind,Sem.run_map,h1',Result.andThen_ok,Sem.run_pure]
  cases vs with
  |nil=>simp
  |cons v vs=>cases vs<;>simp
 ·have low:∀c,((∃k,Es k c)\/st'.h.M c)->w.heap.size<=c/\c<w'.heap.size:=by
   rintro c (⟨k,hk⟩|⟨k,hk⟩)
   ·exact⟨Nat.le_of_not_lt (hH.elow k c hk).1,(hH.elow k c hk).2⟩
   ·exact⟨Nat.le_of_not_lt (hH.low k c hk).1,hH.lt hk⟩
  unfold sZ at h4
  split at h4
  ·split at h4
   ·rename_i r x
    obtain⟨h',E',S,-,hr,O⟩:=qQ hH (h3 0 x rfl) h4;rw[if_pos (by simpa using h2)];exact sj.mono hr (λc hc=>low c (O.own c hc).1)
   ·exact h4.elim
  ·rename_i rs _
   obtain⟨hne,h4⟩:=h4;obtain⟨h',E',S,F,-,hl,hF,hd,hr,O⟩:=pt l rs hH h3 h4;rw[if_neg (by omega)];exact⟨vs.toArray,F,rfl,by simp;omega,λj c hc=>low c (O.own c (hF j c hc)).1,hd,λj t hj=>by simpa using hr j t hj⟩):p:=h
theorem Mm{p:Prop}(h:p:=by
 obtain⟨n1,n2,n3,n4⟩:=dX hl;simp[Doc.row];intro b2 b4
 refine aU.intro eok (λi:Nat=>i<=d.seen.length/\∀j,j<i->∀hj:j<d.seen.length,d.seen[j].client≠c) (λi=>⟨22,0,[(11,.v (.int .i64 i)),(10,.v (.int .i64 d.seen.length)),(9,.ro (d.seen.map Seen.row)),(1,.v (.int .i64 c)),(4,.p 64 b4 0)],
  [(64,.vars b4 196 [.v (.int .i64 0),.v (.int .i64 0),.v (.int .i64 0)])]⟩) (λi=>d.seen.length-i) 0 (by simp) (by simp) (λi hi=>?_)
 by_cases hlt:i<d.seen.length
 ·simp[hlt,Seen.row]
  intro b7;by_cases hc:d.seen[i].client=c
  ·have e:fF d c=(d.seen[i],true):=by
    rcases oU d c with⟨i',h,h1,h2,h3⟩|⟨h1,_⟩
    ·have:i'=i:=by
      rcases Nat.lt_trichotomy i' i with hh|hh|hh
      ·exact absurd h1 (hi.2 i' hh h)
      ·exact hh
      ·exact absurd hc (h2 i hh hlt)
     subst this;exact h3
    ·exact absurd hc (h1 i hlt)
   simp[hc,e,Seen.res]
  ·simp[hc]
   refine⟨i+1,⟨by omega,λj hj hjl=>?_⟩,by omega,aQ (by omega)⟩;by_cases hji:j=i
   ·subst hji;exact hc
   ·exact hi.2 j (by omega) hjl
 ·have e:fF d c=(⟨0,0,0⟩,false):=by
   rcases oU d c with⟨i',h,h1,h2,h3⟩|⟨_,h⟩
   ·exact absurd h1 (hi.2 i' (by omega) h)
   ·exact h
  simp[hlt,e,Seen.res]):p:=h
theorem Ml{p:Prop}(h:p:=by
 refine drw eok mix [0,1,2,3,4,5,6,7,8,9,10,11] [12,13,14,15,16,17,18,19] (.c 12 12 257 3838 (.c 12 13 0 3838 (.c 12 14 0 3838 (.c 12 15 0 3838 (.c 12 16 0 3838 (.c 12 17 0 3838 (.c 12 18 3838 0 (.c 12 19 0 0 (.l 12 0) .s) .s) .s) (.c 12 17 0 3838 (.c 12 16 0 3838 (.c 12 18 3838 0 (.c 12 19 0 0 (.l 12 0) .s) .s) .s) .s)) .s) .s) .s) (.c 12 16 0 4095 (.c 12 12 257 3838 (.c 12 13 0 3838 (.c 12 14 0 3838 (.c 12 15 0 3838 (.c 12 17 0 3838 (.c 12 18 3838 0 (.c 12 19 0 0 (.l 12 0) .s) .s) .s) .s) .s) .s) (.c 12 17 0 4095 (.c 12 12 257 3838 (.c 12 13 0 3838 (.c 12 14 0 3838 (.c 12 15 0 3838 (.c 12 18 3838 0 (.c 12 19 0 0 (.l 12 0) .s) .s) .s) .s) .s) .s) .s)) (.c 12 17 0 4095 (.c 12 12 257 3838 (.c 12 13 0 3838 (.c 12 14 0 3838 (.c 12 15 0 3838 (.c 12 16 0 3838 (.c 12 18 3838 0 (.c 12 19 0 0 (.l 12 0) .s) .s) .s) .s) .s) .s) (.c 12 16 0 4095 (.c 12 12 257 3838 (.c 12 13 0 3838 (.c 12 14 0 3838 (.c 12 15 0 3838 (.c 12 18 3838 0 (.c 12 19 0 0 (.l 12 0) .s) .s) .s) .s) .s) .s) .s)) .s))) ?_
 simp[hk,ht,Task.row]
 try intros
 repeat' first
  |(refine ag.pure (hdo) (by simp[Hub.row,Call.row]) ?_;simp[Hub.res,Answer.res];try intros)
  |(rw[Trc];refine⟨?_,?_⟩<;>(try simp[hk,ht,Task.row])<;>try intros)
 all_goals
  exact⟨_,_,_,_,_,_,⟨rfl,rfl⟩,⟨rfl,rfl,rfl⟩,⟨rfl,rfl,rfl⟩,rfl,rfl,rfl,rfl⟩):p:=h
theorem rE{p:Prop}(h:p:=by
 go_wp2_with (at_builtin;refine Lib.wpList_append_run _ rfl _ _ _ _ rfl _ _ rfl rfl _ _ (hr _) ?_)
 go_ret
 exact⟨rfl,rfl⟩):p:=h
theorem Du{p:Prop}(h:p:=by
 simp[z];refine drw eok mix [0,2,3,4] [1,5,6] (.c 4 1 8 7 (.c 4 5 0 7 (.c 4 6 7 0 (.l 4 0) .s) .s) .s) ?_;simp
 try intros
 refine ag.pure (eE h (by omega)) (by simp[Hub.row]) ?_;simp[Hub.res]
 try intros
 rw[hat];simp[Answer.res,eX]):p:=h
theorem nn{p:Prop}(h:p:=by
 congr 1;apply propext;unfold dA
 constructor
 ·rintro⟨-,-,-,-,g1,g2,g3,g4,g5⟩;simp_all
 ·intro g;refine⟨s1,s2,s3,s4,?_,?_,?_,?_,?_⟩<;>simp_all):p:=h
theorem Dt{p:Prop}(h:p:=by
 refine ag.pure (cG lin inv 1000000) (by simp) ?_;by_cases w1:inv<=lin/\lin<=1000000
 rotate_left
 ·simp[az w1,finn (λh=>h.elim hZ w1)]
 have hB:BZ\/(inv<=lin/\lin<=1000000):=.inr w1;simp[w1];refine ag.pure (cG rs inv 1000000) (by simp) ?_;by_cases r1:inv<=rs/\rs<=1000000
 rotate_left
 ·have h:¬TK:=λh=>r1 ((fin4 rfl hB).1 h).1
  simp[az r1,az h]
 simp[r1];by_cases r2:lin<=rs
 ·have h:TK:=(fin4 rfl hB).2 ⟨r1,r2⟩
  simp[r2,h]
 ·have h:¬TK:=λh=>r2 ((fin4 rfl hB).1 h).2
  simp[r2,az h]):p:=h
theorem jw{p:Prop}(h:p:=by
 have hz:¬(a.length:Int)=b.length:=by omega
 simp[hz,iU];exact λh2=>absurd (by rw[h2]) h):p:=h
theorem Mj{p:Prop}(h:p:=by
 obtain⟨Es,H⟩:=hR.heap;have t:Tr st.h.M w st.h.M { w with drawn:=w.drawn+1 }:=⟨Nat.le_refl _,λ_ _ _=>rfl,λ_ _ h=>h⟩;have hR1:Rep E.w0 E.base st a { w with drawn:=w.drawn+1 }:=(hR.move (h':=st.h) (E':=Es) ⟨λk=>(H.obj k).tr t (λ_ _=>rfl) (λ_ hc _=>hc),H.inj,H.low,H.elow,H.einj,H.em⟩ t ⟨rfl,rfl,rfl⟩).rep;refine⟨hR1.dfr,hR1.size,λs=>?_,hR1.heap,hR1.below,hR1.base_le⟩;by_cases hs:∃p∈fM pv,p.1=s
 ·obtain⟨p,hp,rfl⟩:=hs
  have hany:∀q∈fM pv,q.2=.any:=by
   intro q hq;unfold fM at hq;rw[List.mem_filterMap]at hq;obtain⟨x,-,hx⟩:=hq;rw[Option.map_eq_some_iff]at hx;obtain⟨d,-,rfl⟩:=hx;rfl
  show VRel _ st.h.M (bB (fM pv++st.t) p.1) _
  rw[ie (v:=.any) (by have:=hany p hp;rw[<-this];exact hp) (λq hq _=>hany q hq)];exact .any _
 ·show VRel _ st.h.M (bB (fM pv++st.t) s) _
  rw[jP (λp hp he=>hs ⟨p,hp,he⟩)];exact hR1.tmp s):p:=h
theorem Mi{p:Prop}(h:p:=by
 show VRel w st.h.M (bB (tn 0 args) i) _
 rw[Gz,if_pos (Nat.zero_le i),Nat.sub_zero]
 cases hv:args[i]? with
 |none=>exact .any _
 | some v =>
   have hlt:i<xs.size:=by rw[hs];exact(List.getElem?_eq_some_iff.1 hv).1
   have e:(xs++Array.replicate (fn.ntmps-xs.size) undef).getD i undef=xs.getD i undef:=by
    simp only[Array.getD_eq_getD_getElem?];rw[Array.getElem?_append_left hlt]
   show VRel w st.h.M v ((xs++Array.replicate (fn.ntmps-xs.size) undef).getD i undef)
   rw[e];exact hx i v hv):p:=h
theorem TF{p:Prop}(h:p:=by
 by_cases r1:rs = -1
 ·have h:TK:=(fin3 rfl hB).2 r1
  simp[r1,h]
 ·have h:¬TK:=λh=>r1 ((fin3 rfl hB).1 h)
  simp[r1,az h]):p:=h
theorem yg{p:Prop}(h:p:=by
 simp only at hd hat;simp[k];refine ag.pure hd (by simp[Hub.row]) ?_;simp[Hub.res];intros;by_cases z:code=0
 ·rw[if_pos z]at hat
  simp[z,hat,Answer.res]
 ·rw[if_neg z]at hat
  simp[z];refine ag.pure (gb h (by omega)) (by simp[Hub.row]) ?_;simp[Hub.res,hat,Answer.res,eX]):p:=h
theorem Mh{p:Prop}(h:p:=by
 by_cases s1:bQ x
 rotate_left
 ·have h:=hno (λh=>s1 (by have:=(h hlt).1;rwa[hx]at this))
  simp[az s1,az h]
 simp[s1]
 cases i with
 | zero =>
   simp;exact⟨1,⟨by omega,jh hi.2 (IF hlt hx s1)⟩,by omega,aQ (n:=0) (by omega)⟩
 | succ k =>
   have ek:Go.IntKind.i64.wrap (k:Int)=k:=fh (by omega);have hk1:k<docs.length:=by omega
   have hk0:(0:Int)<(k:Int)+1:=by omega
   obtain⟨y,hy⟩:∃y,docs[k]=y:=⟨_,rfl⟩;simp[ek,hk0,hk1,hy,Doc.row];by_cases s4:sLt y.name x.name
   rotate_left
   ·have h:=hno (λh=>s4 (by have:=(h hlt).2 (by omega);rw[hx]at this;simp only[Nat.add_sub_cancel]at this;rwa[hy]at this))
    simp[az s4,az h]
   simp[s4];exact⟨k+2,⟨by omega,jh hi.2 (OV hlt hx hy s1 s4)⟩,by omega,by rw[Go.IntWalk.i64_in _ (by omega)];omega⟩):p:=h
theorem yf{p:Prop}(h:p:=by
 rw[mH,Array.mapM_eq_mapM_toList];simp only[Sem.run_bind,Sem.run_map,h1',Result.andThen_ok,Sem.run_pure]
 cases vs with
 |nil=>simp
 |cons v vs=>cases vs<;>simp):p:=h
theorem Ds{p:Prop}(h:p:=by
 refine ag.pure (bT lin inv 1000000) (by simp) ?_;by_cases w1:inv<=lin/\lin<=1000000
 rotate_left
 ·simp[az w1,finn (λh=>h.elim hZ w1)]
 have hB:BZ\/(inv<=lin/\lin<=1000000):=.inr w1;simp[w1];rw[SO,hM];simp;refine ag.pure (bT rs M 1000000) (by simp) ?_;have e:vb (M<=rs/\rs<=1000000)=vb TK:=sS (hmx.trans (fin4 rfl hB).symm);rw[e];simp):p:=h
theorem Mg{p:Prop}(h:p:=by
 generalize hR:fDo w.h t.c=R at hdo;obtain⟨h',a'⟩:=R;refine inl aw Tryz.func36 50000 (λw3 F3=>?_);simp[hk];refine aZ.freeze 321 (H:=H1) (sz:=5) (rs:=w.h.docs.map Doc.row) (own:=true) (by simp) ?_;simp;refine aZ.freeze 322 (H:=H2) (sz:=6) (rs:=w.h.subs.map Sub.row) (own:=true) (by simp) ?_;simp;refine drw eok mix [0,1,2,3,4,5,6,7,8,9,14,15,17,18] [10,11,12,13,16,19] (.c 14 10 272 16111 (.c 14 11 0 16111 (.c 14 12 0 16111 (.c 14 13 0 16111 (.c 14 16 12004 4107 (.c 14 19 4105 2 (.l 14 2) .s) .s) .s) .s) .s) .s) ?_;simp[hk,ht,Task.row]
 try intros
 refine lL hdo (by simp[Hub.row,Call.row]) ?_;rintro _ rfl;simp[Hub.res,Answer.res,hk,Task.row,hm,bm]
 try intros
 simp[ew,fg,qB,hR,Task.row]):p:=h
theorem rD{p:Prop}(h:p:=by
 have:i=l.length:=by omega
 subst this;simp only[List.drop_length,cw,szR,Nat.zero_le,if_true,Nat.sub_zero]at hx;simp[hx]):p:=h
theorem TE{p:Prop}(h:p:=by
 rw[if_neg z]at hat;simp[z];refine ag.pure (gb h (by omega)) (by simp[Hub.row]) ?_;simp[Hub.res,hat,Answer.res,eX]):p:=h
theorem ye{p:Prop}(h:p:=by
 constructor
 ·rintro⟨k',hk',e,h1,h2⟩
  have:k=k':=by omega
  subst this;rw[ht]at h1 h2;exact⟨h1,h2⟩
 ·rintro⟨h1,h2⟩
  exact⟨k,hk,rfl,by rw[ht];exact h1,by rw[ht];exact h2⟩):p:=h
theorem Mf{p:Prop}(h:p:=by
 generalize hR:fDo w.h t.c=R at hdo;obtain⟨h',a'⟩:=R;refine inl aw Tryz.func36 50000 (λw3 F3=>?_);simp[hk];refine drw eok mix [0,1,2,3,4,5,6,7,8,9,14,15,17,18] [10,11,12,13,16,19] (.c 14 10 272 16111 (.c 14 11 0 16111 (.c 14 12 0 16111 (.c 14 13 0 16111 (.c 14 16 12004 4107 (.c 14 19 4105 2 (.l 14 2) .s) .s) .s) .s) .s) .s) ?_;simp[hk,ht,Task.row]
 try intros
 refine ag.pure hdo (by simp[Hub.row,Call.row]) ?_;simp[Hub.res,Answer.res,hk,Task.row,hm,bm]
 try intros
 simp[ew,fg,qB,hR,Task.row]
 first|exact FM rfl|exact⟨N4 rfl,FM rfl⟩):p:=h
theorem Me{p:Prop}(h:p:=by
 simp only[Array.getD_eq_getD_getElem?];rw[Array.getElem?_append_left hlt]):p:=h
theorem Dr{p:Prop}(h:p:=by
 have:=OK (l:=List.range ops.length) (p:=λj=>!on L j) (q:=λj=>!on (L.setIfInBounds i true) j) (λx _ hx=>by
  simp only[Bool.not_eq_true']at hx⊢;rw[hset]at hx
  split at hx
  ·simp at hx
  ·exact hx) (List.mem_range.2 hilt) (by simp[hioff]) (by simp[hset])
 omega):p:=h
theorem Md{p:Prop}(h:p:=by
 simp;refine aU.intro eok (λi:Nat=>i<=s.size) (λi=>⟨20,0,[(4,.v (.int .i64 i)),(3,.v (.int .i64 (mK s i))),(0,.v (.string s))],[]⟩) (λi=>s.size-i) 0 (by simp) (by simp[mK]) (λi hi=>?_);by_cases hlt:i<s.size
 ·have e:=OB hlt
  unfold yn at e;have ec:Go.IntKind.i64.wrap (s[i].toNat:Int)=s[i].toNat:=fh (by have:=s[i].toNat_lt;omega);simp[hlt,ec];exact⟨i+1,by omega,by omega,aQ (by omega),e.symm⟩
 ·have e:mK s i=fnv s:=by unfold fnv;congr 1;omega
  simp[hlt,e]):p:=h
theorem yd{p:Prop}(h:p:=by
 have s2':¬(1<=(q.list.length:Int)/\(q.list.length:Int)<=2):=by omega
 have h:=hbad (λh=>s2 (by have:=(h hlt).2.1;rwa[hq]at this));simp[az s2',az h]):p:=h
theorem Mc{p:Prop}(h:p:=by
 have hle:a'+n<=t.length:=by have:=hin.2.1 (by omega);omega
 have hst:lQ t (L,(a':Int)) o[i]=(L++(t.drop a').take n,(a':Int)+n):=by simp[lQ,k1,hn]
 rw[hst]at hs;obtain⟨m,hm⟩:∃m,(t.drop a').take n=m:=⟨_,rfl⟩;have hcut:cut (t.map aI) a' n=m.map aI:=by rw[gL,<-hm];simp
 have hlen2:m.length=n:=by rw[<-hm];simp;omega
 rw[hm]at hs;simp[k1,hn,ea,hle,hcut];refine⟨by omega,λH2=>⟨i+1,by omega,by omega,H2,?_⟩⟩;rw[hs];simp[e]):p:=h
theorem nm{p:Prop}(h:p:=by
 have:r = -1:=by rw[<-hr];exact eU (by omega)
 rw[eU k1];simp[this]):p:=h
theorem Mb{p:Prop}(h:p:=by
 obtain⟨O,hdis⟩:=O1.trans H O2;refine⟨h2,E2,_,λj c=>match j with|0=>S1 c|j+1=>F2 j c,hk2,by simp[hl2],?_,?_,?_,O⟩
 ·intro j c hc
  cases j with
  |zero=>exact .inl hc
  |succ j=>exact .inr (hF2 j c hc)
 ·intro j j' c hc hc'
  cases j<;>cases j'
  ·rfl
  ·exact(hdis c hc (hF2 _ c hc')).elim
  ·exact(hdis c hc' (hF2 _ c hc)).elim
  ·rw[hd2 _ _ c hc hc']
 ·intro j t' hj
  cases j with
  |zero=>simp at hj;subst hj;exact hr1
  |succ j=>exact hr2 j t' (by simpa using hj)):p:=h
theorem Dq{p:Prop}(h:p:=by
 cases h:d.list with
 |nil=>rw[h]at c9;simp at c9
 |cons a l=>exact⟨a,l,rfl⟩):p:=h
theorem Dp{p:Prop}(h:p:=by
 have hw:IntKind.i64.wrap ((left:Int)-(x.doc.size:Int))=(left:Int)-x.doc.size:=IntWalk.i64_in _ (by omega);have hz:(left:Int)-x.doc.size<0:=by omega
 have:r = -1:=by rw[<-hr];exact eU (by omega)
 simp[hw,hz,this]):p:=h
theorem oT{p:Prop}(h:p:=by
 have:i=l.length:=by omega
 subst this;simp[BF,cut]
 try exact λa _=>rfl):p:=h
theorem Ma{p:Prop}(h:p:=by
 simp[c]
 exact⟨i+1,⟨by omega,λj hj hjl=>by
  by_cases hji:j=i
  ·subst hji;exact c
  ·exact hi.2 j (by omega) hjl⟩,by omega,aQ (by omega)⟩):p:=h
theorem L9{p:Prop}(h:p:=by
 simp[hlt];by_cases h1:(s[i].toNat:Int)<97
 ·have hno:¬mJ s:=λh=>by have:=(h.2 i hlt).1;omega
  simp[h1,az hno]
 ·by_cases h2:122<(s[i].toNat:Int)
  ·have hno:¬mJ s:=λh=>by have:=(h.2 i hlt).2;omega
   simp[h1,h2,hlt,az hno]
  ·simp[h1,h2,hlt]
   refine⟨i+1,⟨by omega,λj hj=>?_⟩,by omega,aQ (by omega)⟩;by_cases hji:j=i
   ·subst hji;exact λ_=>by omega
   ·exact hi.2 j (by omega)):p:=h
theorem L5{p:Prop}(h:p:=by
 by_cases c2:(k:Int)∈all
 rotate_left
 ·have h:¬eV ⟨hh,lk,qs,tasks,step⟩:=by
   rintro⟨all',e,h⟩
   simp only at e h;rw[hr]at e;obtain rfl:=Option.some.inj e;exact c2 (h k hlt (by rw[ht];exact c1))
  simp[az c2,az h]
 simp[c2];exact Ent.refl ⟨k+1,⟨by omega,jh (P:=λj=>∀hj:j<tasks.length,tasks[j].pc=2->(j:Int)∈all) hk.2 (λ_ _=>c2)⟩,by omega,by simp;exact aQ (by omega)⟩):p:=h
theorem L3{p:Prop}(h:p:=by
 simp only[hZs];refine drw eok mix [0,1,2,3,4,5,6,7,8,9,10,11,12,13,16,17] [14,15,18] (.c 16 14 4 65531 (.c 16 15 8 65523 (.c 16 18 65521 2 (.l 16 2) .s) .s) .s) ?_;simp[hZl,hml,hml2,bm,V2]
 try intros
 simp[hk,hm,fg,ew,Task.row,hi1,hZt,Queue.row]
 first
  |exact⟨N4 rfl,VV rfl,FM rfl⟩
  | (refine ⟨N4 rfl, VV rfl, ?_, FM rfl⟩
     rw[List.take_of_length_le (by simp),List.drop_eq_nil_of_le (by simp)])):p:=h
theorem L1{p:Prop}(h:p:=by
 intro n
 induction n with
 |zero=>intro i h;omega
 | succ n ih =>
   intro i hi hlt
   cases ho:on L i with
   |true=>rfl
   | false =>
     exfalso
     have:i∈Region.ready .any ops.toArray L:=(oq hL).2 ⟨hlt,ho,λk hk=>by
      simp only[cP,Array.any_eq_true',Bool.and_eq_true,beq_iff_eq]at hk;obtain⟨e,he,hb,rfl⟩:=hk;have:=D.back i hlt e he hb;exact ih e.on (by omega) (by omega)⟩
     rw[hr]at this;simp at this):p:=h
theorem oS{p:Prop}(h:p:=by
 have:r = -1:=by rw[<-hr];exact eU (by omega)
 rw[eU k0];simp[this]):p:=h
theorem Do{p:Prop}(h:p:=by
 refine drw eok mix [0,1] [2,3] (.c 2 2 2 1 (.c 2 3 1 0 (.l 2 0) .s) .s) ?_;simp
 try intros
 rw[hat];simp[Answer.res]):p:=h
theorem Dn{p:Prop}(h:p:=by
 intro j hj;rw[hROW];simp only[Array.getD_eq_getD_getElem?];rw[Array.getElem?_append_left (by simp[gY];omega),Array.getElem?_append_left (by simp;omega)];simp[List.getElem?_take,hj,List.getD_eq_getElem?_getD]):p:=h
theorem L0{p:Prop}(h:p:=by
 have hsz:(1<=(s.size:Int)/\(s.size:Int)<=8)↔(1<=s.size/\s.size<=8):=by omega
 by_cases h3:1<=s.size/\s.size<=8
 ·have hy:mJ s:=⟨h3,λj hj=>hi.2 j (by omega) hj⟩
  have h4:=hsz.2 h3;simp[h4,hy]
 ·have hno:¬mJ s:=λh=>h3 h.1
  have h4:¬(1<=(s.size:Int)/\(s.size:Int)<=8):=λh=>h3 (hsz.1 h)
  simp[az h4,az hno]):p:=h
theorem LZ{p:Prop}(h:p:=by
 generalize kF d c.n=R at hat hf;obtain⟨list,code⟩:=R;simp only at hat hf;simp[c4];refine drw eok mix [0,1,2,3,4,5,6] [7,8,9,10,11,12] (.c 7 7 5 122 (.c 7 8 0 122 (.c 7 9 0 122 (.c 7 10 0 122 (.c 7 11 122 0 (.c 7 12 0 0 (.l 7 0) .s) .s) .s) .s) .s) .s) ?_;simp[hk,hd,Doc.row]
 try intros
 refine ag.pure (hf) (by simp[Doc.row,Doc.row]) ?_;simp
 try intros
 rw[hat];simp[Answer.res]):p:=h
theorem yc{p:Prop}(h:p:=by
 by_cases hn:0<=p.n/\p.n<=200
 ·simp[hn]
 ·have e:dc (0<=p.n/\p.n<=200)=false:=by rw[iU];exact hn
  simp[hn]):p:=h
theorem tV{p:Prop}(h:p:=by
 simp[s];exact Ent.refl ⟨m+1,by have:=hiff.1 s;omega,by omega,by simp;exact aQ (by omega)⟩):p:=h
theorem yb{p:Prop}(h:p:=by
 have h:=hbad (λh=>s3 (by have:=(h hlt).2.2;rwa[hq]at this));have s3':bq hh.docs q.doc<0:=by omega
 simp[s3',az h]):p:=h
theorem Dm{p:Prop}(h:p:=by
 have:=gF n1 (a:=e0) (by rw[hd];simp);unfold aX at this;omega):p:=h
theorem Dl{p:Prop}(h:p:=by exact Fc (by omega) (by omega) hi.2):p:=h
theorem LY{p:Prop}(h:p:=by
 refine⟨λp hp=>?_,λp hp q hq heq=>?_⟩
 ·rcases List.mem_cons.1 hp with rfl|hp
  ·exact⟨hip,rfl⟩
  ·exact hpv.op p hp
 ·rcases List.mem_cons.1 hp with rfl|hp<;>rcases List.mem_cons.1 hq with rfl|hq
  ·rfl
  ·have:=hlt _ (hdone q hq);simp only at heq;omega
  ·have:=hlt _ (hdone p hp);simp only at heq;omega
  ·exact hpv.one p hp q hq heq):p:=h
theorem nk{p:Prop}(h:p:=by
 have:i=l.length:=by omega
 subst this;simp[aJ]):p:=h
theorem LX{p:Prop}(h:p:=by
 simp only[hZs];refine drw eok mix [0,1,2,3,4,5,6,7,8,9,10,11,12,13,16,17] [14,15,18] (.c 16 14 4 65531 (.c 16 15 8 65523 (.c 16 18 65521 2 (.l 16 2) .s) .s) .s) ?_;simp[hZl,hml,hml2,bm,V2]
 try intros
 simp[hk,hm,fg,ew,Task.row,hi1,hZt,Queue.row]
 all_goals rw[List.take_of_length_le (by simp),List.drop_eq_nil_of_le (by simp)]):p:=h
theorem LW{p:Prop}(h:p:=by
 simp[Hub.res]
 try intros
 refine ag.pure (hd) (by simp[Hub.row,Call.row,k]) ?_;simp[Answer.res]
 try intros
 rw[hat];simp):p:=h
theorem Dk{p:Prop}(h:p:=by
 simp only[yielded,hd',Option.bind_some];simp only[Array.getD_eq_getD_getElem?]at hu
 cases hx:a.tmps[d]? with
 |none=>rfl
 |some v=>rw[hx]at hu;simp at hu;subst hu;rfl):p:=h
theorem oR{p:Prop}(h:p:=by
 refine⟨i+1,by omega,by omega,?_⟩;simp[e,hs,hpc];omega):p:=h
theorem LV{p:Prop}(h:p:=by
 cases hq:Region.ready .any ops.toArray L with
 |nil=>rfl
 | cons i l =>
   obtain⟨h1,h2,-⟩:=(oq hL).1 (show i∈Region.ready .any ops.toArray L by rw[hq];simp);have:i∈(List.range ops.length).filter λi=>!on L i:=List.mem_filter.2 ⟨List.mem_range.2 h1,by simp[h2]⟩
   have:=List.length_pos_of_mem this;omega):p:=h
theorem ya{p:Prop}(h:p:=by
 have h:=hbad2 (o2 (λh=>by obtain⟨⟨k,hk,e,-⟩,-⟩:=h;exact c1 (by omega)));simp[az c1,az h]):p:=h
theorem Dj{p:Prop}(h:p:=by
 cases j with
 |zero=>rfl
 |succ j=>simp only[lOf,List.getElem?_cons_succ];rw[D2 Hs ts (key+1) j];simp only[show key+1+j=key+(j+1) by omega]):p:=h
theorem tU{p:Prop}(h:p:=by
 rw[hm1];have:r=(m1:Int):=by rw[<-hr,dL (by omega)];omega
 simp[this]):p:=h
theorem LU{p:Prop}(h:p:=by
 have hw:IntKind.i64.wrap ((left:Int)-(l.length:Int))=(left:Int)-l.length:=IntWalk.i64_in _ (by omega);simp[hw];by_cases h:l.length<=left
 ·have hz:¬(left:Int)-l.length<0:=by omega
  simp[hz,dL h];omega
 ·have hz:(left:Int)-l.length<0:=by omega
  simp[hz,eU h]):p:=h
theorem xZ{p:Prop}(h:p:=by exact aQ (by omega)):p:=h
theorem rC{p:Prop}(h:p:=by exact rT (p:=λ_ _ K=>K _) (λ_ _=>qa _) K h):p:=h
theorem Di{p:Prop}(h:p:=by
 rw[if_neg (by omega),if_neg (by omega),List.getElem?_append_left (by omega),List.getElem?_take,if_pos c1,hRg j c1];simp[List.getD_eq_getElem?_getD]):p:=h
theorem LS{p:Prop}(h:p:=by
 rintro rfl
 rw[hp2]at hs;rcases D.use _ hp1 d hs i (D.hpre i hip).1 hd with⟨-,hdep⟩|⟨hn,-⟩
 ·simp only[cP,Array.any_eq_true',Bool.and_eq_true,beq_iff_eq]at hdep
  obtain⟨e,he1,he2,he3⟩:=hdep;have:=D.back _ (D.hpre _ hp1).1 e he1 he2;omega
 ·exact hn hip):p:=h
theorem LR{p:Prop}(h:p:=by
 try intros
 rw[hat];simp[Answer.res,eX]):p:=h
theorem LQ{p:Prop}(h:p:=by
 by_cases s4:x.r.next+x.r.list.length=aB docs[k]+1
 ·have hf:=fin s1 s2 (λh=>absurd h (by omega)) k hk rfl (λ_=>s4)
  simp[e2,s4];exact⟨1,⟨by omega,hf⟩,by omega,aQ (n:=0) (by omega)⟩
 ·simp[e1,e2,s4,az (norev k hk rfl ho s4)]):p:=h
theorem Dh{p:Prop}(h:p:=by
 have:=congrArg (λl:List Value=>l[j]?) hzc;simp only[Array.getElem?_toList,List.getElem?_map,hj,Option.map_some]at this;simp[this]):p:=h
theorem tT{p:Prop}(h:p:=by
 rw[List.eq_nil_of_length_eq_zero h0];exact .empty _ _ (by intro h;cases h)):p:=h
theorem LP{p:Prop}(h:p:=by
 by_cases s4:x.r.next+x.r.list.length=aB docs[k]+1
 ·have hf:=fin s1 s2 hp k hk rfl (λ_=>s4)
  simp[e2,s4];exact⟨m+2,⟨by omega,hf⟩,by omega,by rw[Go.IntWalk.i64_in _ (by omega)];omega⟩
 ·simp[e1,e2,s4,az (norev k hk rfl ho s4)]):p:=h
theorem LO{p:Prop}(h:p:=by
 by_cases c:bQ (gK name t)
 ·have e:lu name t=(gK name t,true):=by unfold lu;rw[if_pos c]
  simp[c,e,Doc.res];simp[gK]
 ·have e:lu name t=(Doc.zero,false):=by unfold lu;rw[if_neg c]
  simp[az c,e,Doc.res,Doc.zero]):p:=h
theorem tS{p:Prop}(h:p:=by
 have e:(i+1)*sz=i*sz+sz:=Nat.succ_mul i sz;omega):p:=h
theorem Dg{p:Prop}(h:p:=by
 intro r hr;rcases List.mem_or_eq_of_mem_set hr with h1|h1
 ·rw[List.mem_map]at h1
  obtain⟨x,-,rfl⟩:=h1;rfl
 ·rw[h1];exact h):p:=h
theorem LN{p:Prop}(h:p:=by
 have hje:j=q.list.length:=by omega
 subst hje;rw[List.take_length]at hm;simp;refine Ent.refl ⟨p+2,m,⟨by omega,by rw[hsuc,hm],?_⟩,by omega,G,?_⟩
 ·have:=mg _ _ _ hm
  omega
 ·simp
  exact(by rw[Go.IntWalk.i64_in _ (by omega)];omega)):p:=h
theorem xY{p:Prop}(h:p:=by exact .empty _ _ (by intro h;cases h)):p:=h
theorem LM{p:Prop}(h:p:=by
 simp;exact⟨i+1,⟨by omega,uR h hi.2 (HD h1)⟩,by omega,aQ (by omega)⟩):p:=h
theorem nj{p:Prop}(h:p:=by exact⟨l,rfl,by simpa[mL]using h1,hl⟩):p:=h
theorem TD{p:Prop}(h:p:=by exact⟨m+2,⟨by omega,hf⟩,by omega,by rw[Go.IntWalk.i64_in _ (by omega)];omega⟩):p:=h
theorem LL{p:Prop}(h:p:=by
 cases hdep:cP (bc ops i) q.1 with
 |false=>rfl
 | true =>
   exfalso
   by_cases hg:q.1∈G
   ·exact hqG (List.mem_append.2 (.inr hg))
   ·exact hqG (List.mem_append.2 (.inl (List.mem_map.2 ⟨q,List.mem_filter.2 ⟨hq,by simp[hdep,hg]⟩,rfl⟩)))):p:=h
theorem Df{p:Prop}(h:p:=by
 rw[if_neg (by omega),if_pos (by omega),List.getElem?_append_right (by omega),List.getElem?_drop,List.getElem?_drop]
 congr 2
 omega):p:=h
theorem rB{p:Prop}(h:p:=by simp[l2,hx _ (λh=>(h.2.2.2.2.2.1 (by simp)).2.1) l2]):p:=h
theorem De{p:Prop}(h:p:=by
 rw[if_neg (by omega),if_neg (by omega),List.getElem?_append_left (by omega),List.getElem?_take,if_pos c1,hcs j (by omega)];simp):p:=h
theorem Dd{p:Prop}(h:p:=by
 rw[hROW];simp only[Array.size_append,List.size_toArray,gY,hzz,htl];rw[<-Nat.add_mul,<-Nat.add_mul]
 congr 1
 omega):p:=h
theorem LK{p:Prop}(h:p:=by
 rw[hOf,Ei Hs ts (key+1) q];by_cases h:key+1<=q
 ·rw[if_pos h,if_pos (by omega),show q-key=(q-(key+1))+1 by omega,List.getElem?_cons_succ]
 ·rw[if_neg h]
  split
  ·have:q=key:=by omega
   subst this;simp
  ·rfl):p:=h
theorem TC{p:Prop}(h:p:=by
 refine⟨by omega,λH2=>⟨i+1,by omega,by omega,H2,?_⟩⟩;rw[hs];simp[e]):p:=h
theorem rA{p:Prop}(h:p:=by simp[l1,hx _ (λh=>(h.2.2.2.2.2.1 (by simp)).1) l1]):p:=h
theorem LJ{p:Prop}(h:p:=by
 have hje:j=q.list.length:=by omega
 subst hje;rw[List.take_length]at hm;simp;refine Ent.refl ⟨1,m,⟨by omega,by rw[hsuc,hm],?_⟩,by omega,G,?_⟩
 ·have:=mg _ _ _ hm
  omega
 ·simp
  exact aQ (n:=0) (by omega)):p:=h
theorem LI{p:Prop}(h:p:=by
 have e:vb (a=Answer.zero)=vb (fC ⟨c,1,inv,-1,-1,a⟩):=sS ⟨λh=>⟨c1,c2,by simp,λ_=>d1,by simp,λ_=>⟨rfl,rfl,h⟩,by simp,by simp,by simp⟩,λh=>(h.2.2.2.2.2.1 (by simp)).2.2⟩;rw[e];simp):p:=h
theorem LH{p:Prop}(h:p:=by
 have e:vb (a=Answer.zero)=vb (fC ⟨c,2,inv,-1,-1,a⟩):=sS ⟨λh=>⟨c1,c2,by simp,by simp,λ_=>d1,λ_=>⟨rfl,rfl,h⟩,by simp,by simp,by simp⟩,λh=>(h.2.2.2.2.2.1 (by simp)).2.2⟩;rw[e];simp):p:=h
theorem Dc{p:Prop}(h:p:=by
 intro row h;rcases List.mem_or_eq_of_mem_set h with h|rfl
 ·rw[List.mem_map]at h
  obtain⟨a,-,rfl⟩:=h;rfl
 ·rfl):p:=h
theorem LG{p:Prop}(h:p:=by
 have e:vb (a=Answer.zero)=vb (fC ⟨c,0,inv,-1,-1,a⟩):=sS ⟨λh=>⟨c1,c2,by simp,by simp,by simp,λ_=>⟨rfl,rfl,h⟩,by simp,by simp,by simp⟩,λh=>(h.2.2.2.2.2.1 (by simp)).2.2⟩;rw[e];simp):p:=h
theorem LF{p:Prop}(h:p:=by
 by_cases c2:cl (eD room rev)
 ·have e:=Eu c2
  rw[show eD room rev=⟨room,rev+1,false,[]⟩from rfl]at c2;simp[c2,e,Ring.res,eD]
 ·simp[az c2,wt c2,Ring.res,Ring.zero]):p:=h
theorem LD{p:Prop}(h:p:=by
 have h:=I.pend p hp hiG;rw[hpo]at h;refine qO (st:={ st with t:=pvT pv++st.t,h:=st2.h }) (λs hs=>?_) rfl h
 show bB (sl.map λs=>(s,bB full s)) s=bB full s
 rw[uC,if_pos (List.mem_append.2 hs)]):p:=h
theorem LC{p:Prop}(h:p:=by
 unfold pvT;rw[List.mem_filterMap]
 constructor
 ·rintro⟨p,hp,h⟩
  rw[Option.map_eq_some_iff]at h;obtain⟨d,hd,he⟩:=h
  cases he
  exact⟨p,hp,hd,rfl⟩
 ·rintro⟨p,hp,hd,rfl⟩
  exact⟨p,hp,by rw[hd];rfl⟩):p:=h
theorem LB{p:Prop}(h:p:=by
 simp[c1];exact Ent.refl ⟨k+1,⟨by omega,jh (P:=λj=>∀hj:j<tasks.length,tasks[j].pc=2->(j:Int)∈all) hk.2 (λ_ h=>absurd h (by rw[ht];exact c1))⟩,by omega,by simp;exact aQ (by omega)⟩):p:=h
theorem Db{p:Prop}(h:p:=by
 rw[List.mem_map]at h;obtain⟨a,-,rfl⟩:=h;rfl):p:=h
theorem LA{p:Prop}(h:p:=by
 simp;intro H1 b;have e1:i=min i l.length:=by omega
 refine⟨e1,by omega,λH2=>Ent.refl ⟨i+1,by omega,by omega,H2,?_⟩⟩;simp;exact⟨aQ (by omega),i5 (f:=λe:Entry=>iy e.o) hlt⟩):p:=h
theorem Da{p:Prop}(h:p:=by
 rw[if_pos (by omega)];simp only[List.getD_eq_getElem?_getD];rw[List.getElem?_append_right (by omega)]
 congr 2
 omega):p:=h
theorem Lz{p:Prop}(h:p:=by
 have hne:¬i=m:=λh=>hmi h.symm
 have s:sLt w.queues[m].doc t.c.doc:=(hon hmm hlt).2 (by omega);simp[hlt,Queue.row,hne,s];exact Ent.refl ⟨m+1,by omega,by omega,by simp;exact aQ (by omega)⟩):p:=h
theorem C9{p:Prop}(h:p:=by
 rw[if_pos (by omega),List.getElem?_append_right (by omega),List.getElem?_drop,List.getElem?_drop]
 congr 2
 omega):p:=h
theorem C8{p:Prop}(h:p:=by
 rw[setRow_other _ _ c _ hne]
 show(W1.setRow w.heap.size cs1).heap[c]? = _
 rw[setRow_other _ _ c _ hne,hO c hc]):p:=h
theorem C7{p:Prop}(h:p:=by
 rw[if_neg (by omega),hcs j c1];simp only[List.getD_eq_getElem?_getD];rw[List.getElem?_append_left (by omega)]):p:=h
theorem Ly{p:Prop}(h:p:=by
 have h:=hno (k+1) (λh=>s4 (by have:=(h hlt).2.2.2 (by omega);rw[hx]at this;simp only[Nat.add_sub_cancel]at this;rwa[hy]at this));have s4':x.client<=y.client:=by omega
 simp[s4',az h]):p:=h
theorem rz{p:Prop}(h:p:=by rw[<-hx];unfold szR;split<;>split<;>omega):p:=h
theorem Lx{p:Prop}(h:p:=by
 cases H' with
 |none=>intro hk;simp[AObj.blk]at hk
 | some q =>
   obtain⟨b',o,C⟩:=q
   rintro hk ⟨cs,T,F,hb,_⟩
   simp only[AObj.blk,Option.some.injEq]at hk;subst hk;exact fo hb):p:=h
theorem Lw{p:Prop}(h:p:=by
 apply propext
 constructor
 ·intro hl q hq
  have:=hl q hq
  rwa[br,if_neg (by rintro rfl;exact hq hk)]at this
 ·intro hl q hq
  rw[br,if_neg (by rintro rfl;exact hq hk)];exact hl q hq):p:=h
theorem Lv{p:Prop}(h:p:=by
 exfalso
 have:(rows[r]).drop c=[]:=List.drop_eq_nil_of_le (by omega);rw[this]at h;unfold gl at h
 split at h
 ·rename_i hg
  have hn:=h.1;have hz:=ht.npos;simp at hn;omega
 ·exact h):p:=h
theorem C6{p:Prop}(h:p:=by
 have e:l.length=i:=by omega
 simp[hlt];rw[List.take_of_length_le (by simp;omega)];simp[cut,e]):p:=h
theorem Lu{p:Prop}(h:p:=by
 rw[List.getElem?_eq_getElem (by rw[aJ];exact hp)]at hg;rw[gI (by rw[mu];exact Nat.le_refl _),Re,B6 (by rw[aJ];exact hp),Option.some.inj hg]):p:=h
theorem oQ{p:Prop}(h:p:=by simp[az c1,az h]):p:=h
theorem Lt{p:Prop}(h:p:=by
 by_cases h2:a2=b2
 rotate_left
 ·simp[h2]
 subst h2
 try simp
 refine ag.pure (zu a3 b3 (by omega)) (by simp) ?_;simp;by_cases h3:a3=b3
 rotate_left
 ·simp[h3]
 subst h3
 try simp):p:=h
theorem Ls{p:Prop}(h:p:=by
 obtain⟨q1,q2⟩:=hpv.op q hq;rcases D.use i hip s hs' q.1 (D.hpre _ q1).1 (by rw[<-q2];exact hqd)with⟨-,h⟩|⟨h,-⟩
 ·exact I.val q hq (hidep _ h) s hqd
 ·exact absurd q1 h):p:=h
theorem Lr{p:Prop}(h:p:=by
 rcases List.mem_append.1 hj with hj|hj
 ·obtain⟨p,hp,rfl⟩:=hall j hj
  exact⟨p,List.mem_cons_of_mem _ hp,rfl⟩
 ·simp at hj;subst hj;exact⟨_,List.mem_cons_self ..,rfl⟩):p:=h
theorem xX{p:Prop}(h:p:=by
 have h:=hbad2 (o2 (λh=>c2 (hmay.1 h.1).1));simp[c2,az h]):p:=h
theorem xW{p:Prop}(h:p:=by
 have h:=hbad2 (o2 (λh=>c3 (hmay.1 h.1).2));simp[c3,az h]):p:=h
theorem Lq{p:Prop}(h:p:=by
 have hf:=fin s1 s2 (λh=>absurd h (by omega)) k hk rfl (λh=>absurd (ho.symm.trans h) (by simp));simp;exact⟨1,⟨by omega,hf⟩,by omega,aQ (n:=0) (by omega)⟩):p:=h
theorem Lp{p:Prop}(h:p:=by
 simp[Doc.res]
 try intros
 simp[e1];refine⟨by omega,λH'=>Ent.refl ⟨i+1,by omega,by omega,H',?_⟩⟩;simp;exact⟨aQ (by omega),i5 (f:=Doc.row) hlt⟩):p:=h
theorem Lo{p:Prop}(h:p:=by
 have h:bC ⟨sh,docs,subs,last⟩:=⟨c1,c2,c3,c4,λi=>by
  by_cases h:i<subs.length
  ·exact hi.2 i (by omega)
  ·exact λh'=>absurd h' h⟩
 simp[hlt,h]):p:=h
theorem C5{p:Prop}(h:p:=by
 show(W1.setRow w.heap.size cs1).heap[b]? = _
 rw[setRow_other _ _ _ _ hbN,hO _ hbw];exact hb):p:=h
theorem Ln{p:Prop}(h:p:=by
 have h:¬cS ⟨hh,lk,qs,tasks,step⟩:=λh=>c2 h.2.2.1
 have c2':¬(1<=(lk.length:Int)/\(lk.length:Int)<=4):=by omega
 simp[az c2',az h]):p:=h
theorem C4{p:Prop}(h:p:=by
 simp[c5];exact⟨i+1,⟨by omega,uR hlt hi.2 c5⟩,by omega,aQ (by omega)⟩):p:=h
theorem Lm{p:Prop}(h:p:=by
 rcases List.mem_cons.1 hp with rfl|hp
 ·exact key _ hip rfl (Nat.le_refl _) h2
 ·exact key p (hpv.op p hp).1 (hpv.op p hp).2 (Nat.le_of_lt (hlt _ (hdone p hp))) (hval p hp)):p:=h
theorem C3{p:Prop}(h:p:=by
 cases L with
 |nil=>rfl
 |cons p l=>have:=h (by simp);simp at this;simp[Gb,this]):p:=h
theorem C2{p:Prop}(h:p:=by
 intro h1;rw[h1]at h2;obtain⟨x,hx⟩:=List.length_eq_one_iff.1 h2.symm;exact hne x hx):p:=h
theorem xV{p:Prop}(h:p:=by
 by_cases h2:a2=b2
 rotate_left
 ·simp[h2]
 subst h2
 try simp):p:=h
theorem Ll{p:Prop}(h:p:=by
 obtain⟨a1,a2⟩:=hpv.op p hp;obtain⟨b1,b2⟩:=hpv.op q hq;rw[a2]at h1;rw[b2]at h2;exact hpv.one p hp q hq (D.dst _ (D.hpre _ a1).1 _ (D.hpre _ b1).1 d h1 h2)):p:=h
theorem Lk{p:Prop}(h:p:=by
 try intros
 simp[e1];refine⟨by omega,λH'=>Ent.refl ⟨i+1,by omega,by omega,H',?_⟩⟩;simp;exact⟨aQ (by omega),i5 (f:=Queue.row) hlt⟩):p:=h
theorem CZ{p:Prop}(h:p:=by
 cases hs:fu x y with
 |none=>rfl
 |some r=>have:=(gA hi hs).dec;omega):p:=h
theorem CY{p:Prop}(h:p:=by
 rw[ym]at hi;obtain⟨a,ha,rfl⟩:=Option.map_eq_some_iff.1 hi;exact ih i a ha):p:=h
theorem Lj{p:Prop}(h:p:=by exact⟨k+2,⟨by omega,fin (λ_=>by simp only[Nat.add_sub_cancel];rw[hy];exact s4) s2 s3⟩,by omega,by rw[Go.IntWalk.i64_in _ (by omega)];omega⟩):p:=h
theorem Li{p:Prop}(h:p:=by
 rcases jH (λq:Queue=>q.doc=t.c.doc) w.queues with⟨j,hj,e,-⟩|⟨-,hn⟩
 ·have e':gU w.queues t.c.doc=j:=e
  omega
 ·exact hn):p:=h
theorem Lh{p:Prop}(h:p:=by
 have h:=hbad (λh=>s1 (by have:=(h hlt).1 (by omega);rw[hq]at this;simp only[Nat.add_sub_cancel]at this;rwa[hy]at this));simp[az s1,az h]):p:=h
theorem ry{p:Prop}(h:p:=by
 split at hc
 ·exact hc.elim
 ·exact hc):p:=h
theorem CX{p:Prop}(h:p:=by
 rw[hm0];have:r=(m0:Int):=by rw[<-hr,dL (by omega)];omega
 simp[this]):p:=h
theorem Lg{p:Prop}(h:p:=by
 cases H with
 |none=>obtain⟨⟨a,rfl⟩,_⟩:=hx;rfl
 | some q =>
   obtain⟨b,o,C⟩:=q;rcases hx with⟨rfl,_⟩|⟨_,_,a,rfl⟩<;>rfl):p:=h
theorem CW{p:Prop}(h:p:=by
 rw[Addr.add_lit];exact fJ hbv (λj hj=>hcv j (by omega)) (by omega) j v hj):p:=h
theorem CV{p:Prop}(h:p:=by simp[Hub.res,R8 (λh=>c1 h.1),Answer.res,eX]):p:=h
theorem CU{p:Prop}(h:p:=by simp[Hub.res,R8 (λh=>c2 h.2),Answer.res,eX]):p:=h
theorem Lf{p:Prop}(h:p:=by
 refine⟨a'::l',by simp[h2],λi av hi=>?_,hk⟩
 cases i with
 |zero=>simp at hi;subst hi;exact h1
 |succ i=>exact h3 i av (by simpa using hi)):p:=h
theorem Le{p:Prop}(h:p:=by
 rw[e];simp[hd,ht];by_cases e0:text=[]<;>by_cases e1:o=[]<;>by_cases e2:seq=0<;>by_cases e3:client=0<;>simp[e0,e1,e2,e3,ho,ht]):p:=h
theorem CT{p:Prop}(h:p:=by
 have:r = -1:=by rw[<-hr];exact eU (by omega)
 rw[eU k2];simp[this]):p:=h
theorem CS{p:Prop}(h:p:=by
 have h:=hbad2 (o2 (λh=>h.2 c4));simp[c4,az h]):p:=h
theorem Ld{p:Prop}(h:p:=by
 refine Ent.refl ⟨i+1,by omega,by omega,?_⟩;simp[dB,hs,hpc];refine⟨by omega,?_⟩;refine gG h ?_;rw[hq0];subst hq1 hq2 hq3;rfl):p:=h
theorem Lc{p:Prop}(h:p:=by
 by_cases c3:ku e.o
 ·have h:cZ e:=⟨c1,c2,c3⟩
  simp[c3,h]
 ·have h:¬cZ e:=λh=>c3 h.2.2
  simp[az c3,az h]):p:=h
theorem Lb{p:Prop}(h:p:=by
 rcases(h8 i hi).2 s hs k hk with h|h
 ·exact absurd hd h
 ·split at h
  ·rename_i hp;exact .inl ⟨hp,h⟩
  ·rename_i hp;exact .inr ⟨hp,h⟩):p:=h
theorem La{p:Prop}(h:p:=by
 have ha:=pq (by omega) hi.2;simp[h];refine Gr ?_;unfold fG;exact⟨λh=>by have:=h.2;omega,λh=>⟨ha,by omega⟩⟩):p:=h
theorem K9{p:Prop}(h:p:=by
 refine⟨by omega,λH''=>Ent.refl ⟨i+1,by omega,by omega,H'',?_⟩⟩;simp;exact⟨aQ (by omega),i5 (f:=Sub.row) hlt⟩):p:=h
theorem K8{p:Prop}(h:p:=by
 refine⟨by omega,λH2=>Ent.refl ⟨i+1,by omega,by omega,H2,?_⟩⟩;simp;exact⟨aQ (by omega),i5 (f:=Entry.row) hlt⟩):p:=h
theorem CQ{p:Prop}(h:p:=by rw[if_neg (by omega),if_pos (by omega),List.getElem?_append_left (by omega)]):p:=h
theorem K7{p:Prop}(h:p:=by
 have hq':=(List.mem_filter.1 hq).1;have hq2:=(List.mem_filter.1 hq).2;simp only[Bool.and_eq_true]at hq2;exact I.val q hq' (hidep _ hq2.1) d hd):p:=h
theorem CO{p:Prop}(h:p:=by
 have ih:=sV a b (by simpa[frA]using h);rw[tA];simp[frA,toA];omega):p:=h
theorem K6{p:Prop}(h:p:=by
 rw[if_pos h1,if_pos (by omega),show i-k=(i-(k+1))+1 by omega];rfl):p:=h
theorem K5{p:Prop}(h:p:=by
 split
 ·rename_i h;subst h;exact .inr (List.mem_cons_self ..)
 ·rcases ih with h|h
  ·exact .inl h
  ·exact .inr (List.mem_cons_of_mem _ h)):p:=h
theorem CN{p:Prop}(h:p:=by
 cases D with
 |zero=>exact h.elim
 |succ D=>simpa only[fV,hu]using h):p:=h
theorem xU{p:Prop}(h:p:=by exact one rfl (λfs h=>by rw[hu]at h;simp at h)):p:=h
theorem K0{p:Prop}(h:p:=by
 have:=Nat.mul_le_mul_right te.n (show i+1<=rows.length by omega);have e:(i+1)*te.n=i*te.n+te.n:=Nat.succ_mul i te.n;omega):p:=h
theorem CM{p:Prop}(h:p:=by exact⟨v,av,by simpa[Instr.loadAt,Instr.sureAddr]using h1,h2,h3⟩):p:=h
theorem KZ{p:Prop}(h:p:=by
 rw[<-hyes c1]at hc;generalize cW r rev=R at hc⊢;obtain⟨R1,R2⟩:=R;refine ag.pure hc (by simp) ?_;simp[Ring.res]):p:=h
theorem CK{p:Prop}(h:p:=by
 rw[if_pos (by omega),List.getElem?_append_left (by omega)]
 congr 2
 omega):p:=h
theorem KY{p:Prop}(h:p:=by
 cases H with
 |none=>cases hb
 |some q=>obtain⟨b',o,C⟩:=q;obtain⟨cs,T,F,h1,-⟩:=h;cases hb;exact⟨cs,T,h1⟩):p:=h
theorem KX{p:Prop}(h:p:=by
 have c2':6<(subs.length:Int):=by omega
 have h:¬bC ⟨sh,docs,subs,last⟩:=λh=>c2 h.2.1
 simp[c1',c2',az h]):p:=h
theorem KW{p:Prop}(h:p:=by
 intro q hq d hd he;obtain⟨q1,q2⟩:=hpv.op q hq;rw[q2]at hd;have:=D.dst _ (D.hpre _ q1).1 i hilt d hd he;exact hip (this ▸ q1)):p:=h
theorem CJ{p:Prop}(h:p:=by exact⟨_,_,_,rfl,fresh C _ _ _ hge hcm (by rw[gY,hzz])⟩):p:=h
theorem KU{p:Prop}(h:p:=by
 have hp':=(List.mem_filter.1 hp).1;have hlt:=(D.hpre _ (hpv.op p hp').1).1;exact I.val p hp' (hon (p.1+1) p.1 (by omega) hlt) d hd):p:=h
theorem xT{p:Prop}(h:p:=by
 split at h
 ·exact⟨_,h,rfl⟩
 ·exact h.elim):p:=h
theorem KT{p:Prop}(h:p:=by
 have c1':5<(docs.length:Int):=by omega
 have h:¬bC ⟨sh,docs,subs,last⟩:=λh=>c1 h.1
 simp[c1',az h]):p:=h
theorem KS{p:Prop}(h:p:=by
 have e:=lq (a:=a) (b:=b) (λh=>c2 h.2.1);have e2:dc (dv b)=false:=by rw[iU];exact c2
 simp[e2,e]):p:=h
theorem KR{p:Prop}(h:p:=by
 have h0:=dt Entry.cnt_le x.list;have h1:=uP (λa=>by have:=Seen.cnt_le a;omega) x.seen;simp only[cB];omega):p:=h
theorem cA{p:Prop}(h:p:=by exact h.elim):p:=h
theorem KQ{p:Prop}(h:p:=by
 have e:=lq (a:=a) (b:=b) (λh=>c1 h.1);have e2:dc (dv a)=false:=by rw[iU];exact c1
 simp[e2,e]):p:=h
theorem KO{p:Prop}(h:p:=by
 have h:eV ⟨hh,lk,qs,tasks,step⟩:=⟨all,hr,λj hj=>hk.2 j (by simp only at hj;omega) hj⟩;simp[hlt,h]):p:=h
theorem KN{p:Prop}(h:p:=by
 have:q'=p:=hpv.one q' hq' p hp (by rw[hqi,hpi]);subst this;rw[hpd]at hd';cases hd';rw[hd,QS hdlt];exact q.val):p:=h
theorem KM{p:Prop}(h:p:=by
 intro i j row d hi hj;exact(h9 i j row d hi hj).map (λc hc hl=>t.frame c hl (h7 i j c hc).2) (λc hc hl=>⟨hc,hl⟩)):p:=h
theorem rv{p:Prop}(h:p:=by simp[az c2,az h]):p:=h
theorem KK{p:Prop}(h:p:=by
 intro h1 h2 h3 j hj;by_cases hji:j=i
 ·subst hji;intro hh;rw[hx];exact⟨s1,h2,h3,h1⟩
 ·exact hi.2 j (by omega)):p:=h
theorem xS{p:Prop}(h:p:=by
 have:=mg _ _ _ hm;simp at this;omega):p:=h
theorem CI{p:Prop}(h:p:=by exact⟨λr hr=>Mz rfl r hr,λr hr=>vj rfl r hr⟩):p:=h
theorem tR{p:Prop}(h:p:=by
 split
 ·rw[if_neg (by omega)]
 ·rfl):p:=h
theorem KJ{p:Prop}(h:p:=by
 intro s2 s hne;unfold ASt.aft
 split
 ·rfl
 ·rename_i d hd
  simp only[bB];rw[if_neg (λhe=>hne (by rw[hd,he]))]):p:=h
theorem xR{p:Prop}(h:p:=by
 simp at this;obtain⟨x,-,rfl⟩:=this;rfl):p:=h
theorem KH{p:Prop}(h:p:=by
 refine IZ (I.rep.move hrel q.tr q.same).rep r (λs hs=>?_);rw[hd]at hs;cases hs;exact I.mask p hp hiG d hpd):p:=h
theorem KG{p:Prop}(h:p:=by
 refine⟨by omega,λH=>?_⟩;refine Ent.refl ⟨i+1,by omega,by omega,Hl,H,?_⟩;rw[hs];simp[fY,c2,e]):p:=h
theorem KF{p:Prop}(h:p:=by
 have s3':x.id<=y.id:=by omega
 simp[s3',az (noprev (by omega) (by simp only[Nat.add_sub_cancel];rwa[hy]))]):p:=h
theorem CH{p:Prop}(h:p:=by
 simp at e2;subst e2;exact⟨⟨n0,n1,n2⟩,rfl,k0,k1,k2⟩):p:=h
theorem KE{p:Prop}(h:p:=by
 have e:=hf.2 (λh=>c4 h.1);have e2:dc (dv (normal (xf a b).1))=false:=by rw[iU];exact c4
 simp[e2,e]):p:=h
theorem KD{p:Prop}(h:p:=by
 have e:=hf.2 (λh=>c5 h.2);have e2:dc (dv (normal (xf a b).2))=false:=by rw[iU];exact c5
 simp[e2,e]):p:=h
theorem KC{p:Prop}(h:p:=by
 rintro i j c ⟨hc,hl⟩
 exact⟨λho=>hE c ((h7 i j c hc).1 ho) hl,λhM=>(h7 i j c hc).2 (t.mono c hl hM)⟩):p:=h
theorem KB{p:Prop}(h:p:=by
 have h:¬cS ⟨hh,lk,qs,tasks,step⟩:=Ai (λh=>d1 (h t hmem));simp[az d1,az h]):p:=h
theorem Kz{p:Prop}(h:p:=by
 have h0:=dt Part.cnt_le x.c.o;have h1:=dt Entry.cnt_le x.a.list;simp only[dj,dP,cq];omega):p:=h
theorem Ky{p:Prop}(h:p:=by
 rw[List.getLast?_eq_getElem?,hm,Nat.add_sub_cancel,List.getElem?_eq_getElem hml]at he2;exact Option.some.inj he2):p:=h
theorem k9{p:Prop}(h:p:=by rw[oz];omega):p:=h
theorem xQ{p:Prop}(h:p:=by simp only[oz,List.length_nil];omega):p:=h
theorem Kx{p:Prop}(h:p:=by exact .ro _ _ (by simpa[cut]using Rd.empty (w:=w) (x:=false) (S:=λb=>¬M b) _ _ (by intro h;cases h))):p:=h
theorem Kw{p:Prop}(h:p:=by
 have:i=tasks.length:=by omega
 subst this;rw[List.take_length]at hr;have h:=Nx hr hh lk qs;simp[h]):p:=h
theorem Kv{p:Prop}(h:p:=by
 refine⟨?_,h2⟩;rcases h1 with⟨q,hq⟩|⟨q,hq⟩
 ·exact(H0.elow q c hq).1
 ·exact(H0.low q c hq).2):p:=h
theorem Ku{p:Prop}(h:p:=by
 have h:¬bQ d:=λh=>c4 h.2.2.2.1
 have c4':8<(d.list.length:Int):=by omega
 simp[c4',az h]):p:=h
theorem Kt{p:Prop}(h:p:=by
 try intros
 refine⟨by omega,?_⟩;rw[e1];simp[c3,Entry.row]
 try (rintro row (⟨a,-,rfl⟩|rfl)<;>rfl)):p:=h
theorem CG{p:Prop}(h:p:=by
 have e0:F.length-1=m:=by omega
 simp[dE,hF0,e0]):p:=h
theorem Ks{p:Prop}(h:p:=by
 rcases h7 i hi k hk with(h|h)|h
 ·exact h
 ·rw[hd]at h;cases h
 ·rw[hd,hd']at h;exact absurd rfl h):p:=h
theorem Kr{p:Prop}(h:p:=by
 rw[iP,hBe,iP,hCe];simp[fY,q2,hpsz,qpos2,R.gx,R.gy,A640,A5000,A672,A5002,A5003]):p:=h
theorem Kq{p:Prop}(h:p:=by
 rw[oW (hs i hilt (by rw[hset];simp))];exact(I.frame s (λk hk hkon=>hs k hk (hmono k hkon))).tr q.tr):p:=h
theorem Kp{p:Prop}(h:p:=by
 rcases hc with hc|hc
 ·rcases hM c hc with rfl|hc
  ·exact .inr hXb
  ·exact .inl hc
 ·exact .inr hc.1):p:=h
theorem Ko{p:Prop}(h:p:=by
 obtain⟨h1,h2⟩:=hF1E i' j' c hc;rcases hM c hm with rfl|h
 ·exact h2 rfl
 ·exact(hF i j c h1).2 h):p:=h
theorem Kn{p:Prop}(h:p:=by
 simp only[Array.getD_eq_getD_getElem?]at h2⊢;rw[Array.getElem?_eq_getElem hsz]at h2⊢
 simpa using h2):p:=h
theorem CF{p:Prop}(h:p:=by
 rintro e w' ⟨nC,rfl,hp⟩
 exact⟨_,_,_,rfl,hp⟩):p:=h
theorem CE{p:Prop}(h:p:=by rw[setRow_other _ b c _ hc,setRow_other _ b c _ hc];rfl):p:=h
theorem CC{p:Prop}(h:p:=by
 rw[<-List.take_append_getElem h,List.foldl_append];rfl):p:=h
theorem Km{p:Prop}(h:p:=by
 cases hg:ti.agg with
 |true=>rfl
 |false=>obtain⟨h1,-⟩:=ht.nst hg;rw[h1]at hf;simp at hf):p:=h
theorem Kl{p:Prop}(h:p:=by
 have h:n∉l:=by have:=hi.2;rwa[List.take_of_length_le (by omega)]at this
 simp[hlt,az h]):p:=h
theorem Kk{p:Prop}(h:p:=by
 rw[Fu _ (λp hp=>hsome p (yW _ _ hp)),ou];unfold mY;rw[ou,List.map_map]):p:=h
theorem Kj{p:Prop}(h:p:=by
 unfold cut
 split
 ·rename_i h
  rw[List.take_of_length_le (by have:=h.2;simp at this;omega)]
 ·simp):p:=h
theorem Ki{p:Prop}(h:p:=by
 have:=vH n1 (l:=L) (λe he=>by rw[<-hL]at he;exact List.mem_of_mem_drop he) hq;omega):p:=h
theorem ru{p:Prop}(h:p:=by
 rw[eU hk];simp[<-hx]):p:=h
theorem Kh{p:Prop}(h:p:=by
 have h:¬cS ⟨hh,lk,qs,tasks,step⟩:=λh=>c4 h.2.2.2.2.1
 simp[az c4,az h]):p:=h
theorem Kg{p:Prop}(h:p:=by
 obtain⟨q,hq',hqk⟩:=hall k hkp;exact hq ⟨q,hq',by rw[(hpv.op q hq').2,hqk];exact hkd⟩):p:=h
theorem Kf{p:Prop}(h:p:=by
 simp only[hg]at hk⊢;exact je (je (TQ λrow=>we ti (row.drop c))) K hk):p:=h
theorem Ke{p:Prop}(h:p:=by
 subst he;rcases h with h|⟨j,hne,hj⟩
 ·exact h ⟨k,hbk⟩
 ·exact hne (H'.inj _ _ _ hj hbk)):p:=h
theorem Kd{p:Prop}(h:p:=by
 cases j with
 |zero=>simp at hj;subst hj;exact hv1
 |succ j=>exact hv2 j x (by simpa using hj)):p:=h
theorem CB{p:Prop}(h:p:=by
 rintro e w' ⟨rfl,hp⟩
 exact⟨_,_,_,rfl,hp⟩):p:=h
theorem xP{p:Prop}(h:p:=by simp[az c1,hno (λh=>c1 h.1)]):p:=h
theorem Kc{p:Prop}(h:p:=by
 have h:=hno i (λh=>s1 (by have:=(h hlt).1;rwa[hx]at this));simp[az s1,az h]):p:=h
theorem Kb{p:Prop}(h:p:=by
 have h0:=dt Part.cnt_le x.sent;have h1:=dt Part.cnt_le x.buf;simp only[Ra];omega):p:=h
theorem Ka{p:Prop}(h:p:=by
 intro i;unfold on;simp only[Array.getD_eq_getD_getElem?,Array.getElem?_replicate]
 split<;>rfl):p:=h
theorem xO{p:Prop}(h:p:=by exact List.take_of_length_le (by simp)):p:=h
theorem J9{p:Prop}(h:p:=by
 have h:bQ d:=⟨c1,c2,c3,c4,c5,c6,λj hj=>hi.2 j (by omega) hj⟩;simp[hlt,h]):p:=h
theorem CA{p:Prop}(h:p:=by simp only[fieldAt,wF];cases ti.fields[f]?<;>rfl):p:=h
theorem J8{p:Prop}(h:p:=by
 have h:¬bC ⟨sh,docs,subs,last⟩:=λh=>c3 h.2.2.1
 simp[az c3,az h]):p:=h
theorem i4{p:Prop}(h:p:=by simpa using this):p:=h
theorem J7{p:Prop}(h:p:=by
 by_cases h2:55296<=n/\n<=57343<;>simp[h2,sY,h]
 try (rw[vJ];omega)):p:=h
theorem J6{p:Prop}(h:p:=by
 obtain⟨b,o,C⟩:=q;obtain⟨cs,T,F,-,-,-,-,-,hrl,-⟩:=ho;exact hrl _ hm):p:=h
theorem J5{p:Prop}(h:p:=by
 cases l with
 |nil=>rfl
 |cons b l=>simp only[nU,Bool.and_eq_true]at h;exact h.2):p:=h
theorem J4{p:Prop}(h:p:=by
 have e:dc (0<=n/\n<=1114111)=false:=by rw[iU];exact h
 simp[sY,h]):p:=h
theorem xN{p:Prop}(h:p:=by simp only[oz,y6];omega):p:=h
theorem J3{p:Prop}(h:p:=by exact⟨1,⟨by omega,fin (by simp) s2 s3⟩,by omega,aQ (n:=0) (by omega)⟩):p:=h
theorem J2{p:Prop}(h:p:=by
 have e:bq l name = -1:=rS (λj hj=>hi.2 j (by omega) hj);simp[hlt,e]):p:=h
theorem J1{p:Prop}(h:p:=by
 rcases pA.1 hM with h1|⟨j,_,hj⟩
 ·simp[AObj.blk]at h1
 ·exact⟨j,hj⟩):p:=h
theorem J0{p:Prop}(h:p:=by
 rename_i x y _ hargs
 rw[ha x (by rw[hargs];simp),ha y (by rw[hargs];simp)];exact h):p:=h
theorem JZ{p:Prop}(h:p:=by
 exfalso
 have:=hQ ex;rw[ex]at hxt;rw[ey]at hyf;simp[frs,p2]at hxt hyf;omega):p:=h
theorem JY{p:Prop}(h:p:=by
 exfalso
 have:=hQ ey;rw[ex]at hxt;rw[ey]at hyf;simp[frs,q2]at hxt hyf;omega):p:=h
theorem JX{p:Prop}(h:p:=by
 refine Ent.refl ⟨i+1,by omega,by omega,Hl,Hp,?_⟩;rw[hs];simp[fY,c3,e]):p:=h
theorem JW{p:Prop}(h:p:=by
 try intros
 refine ag.pure (yx x.list (by omega)) (by simp) ?_;simp
 try intros):p:=h
theorem JV{p:Prop}(h:p:=by exact⟨[.s []],pP.one (.empty _ _ (λh=>by simp at h)),by simp[fV,hu]⟩):p:=h
theorem JU{p:Prop}(h:p:=by
 have e:fk l id = -1:=rS (λj hj=>hi.2 j (by omega) hj);simp[hlt,e]):p:=h
theorem Cz{p:Prop}(h:p:=by
 rw[Nat.add_mul,Nat.one_mul]at this;exact this):p:=h
theorem iD{p:Prop}(h:p:=by
 simp only;omega):p:=h
theorem JT{p:Prop}(h:p:=by
 by_cases h:i<docs.length
 ·exact hi.2 i (by omega)
 ·exact λh'=>absurd h' h):p:=h
theorem JS{p:Prop}(h:p:=by
 have:=kf _ _ _ hr;have h2:=Fa (tasks.take i);simp at this h2;omega):p:=h
theorem JR{p:Prop}(h:p:=by
 rw[hm3];have:r=(m3:Int):=by rw[<-hr,dL (by omega)];omega
 simp[this]):p:=h
theorem JQ{p:Prop}(h:p:=by
 split at this
 ·rename_i d hd;exact⟨d,hd,by simpa using this⟩
 ·simp at this):p:=h
theorem Cy{p:Prop}(h:p:=by rw[aaV rfl];simp[frA,toA]at ih⊢;omega):p:=h
theorem xM{p:Prop}(h:p:=by exact .inl ⟨by simp,by omega⟩):p:=h
theorem JP{p:Prop}(h:p:=by
 rcases List.mem_cons.1 h with rfl|h
 ·rw[if_neg k];omega
 ·have:=ih h;omega):p:=h
theorem JO{p:Prop}(h:p:=by
 have:r = -1:=by rw[<-hr];exact eU (by omega)
 rw[eU k3];simp[this]):p:=h
theorem Cx{p:Prop}(h:p:=by
 have:¬m<a:=λh=>s (hiff.2 h)
 omega):p:=h
theorem JN{p:Prop}(h:p:=by exact t.frame b (hR.base_le b (.inl hF)) (λ⟨q,hq⟩=>(HH.low q b hq).1 hF)):p:=h
theorem JM{p:Prop}(h:p:=by
 have e:=v9 (d:=d) (rev:=rev) (λh=>c1 h.1);simp[az c1,e]):p:=h
theorem JL{p:Prop}(h:p:=by
 have e:=v9 (d:=d) (rev:=rev) (λh=>c2 h.2);simp[az c2,e]):p:=h
theorem JK{p:Prop}(h:p:=by rw[<-hrl q (List.mem_of_getElem? g)];exact(List.getElem?_eq_some_iff.1 hj).1):p:=h
theorem xL{p:Prop}(h:p:=by simp at hq;subst hq;simp;omega):p:=h
theorem JJ{p:Prop}(h:p:=by
 obtain⟨x',h1,h2,h3⟩:=hq;exact⟨μ x',h2,x',h1,rfl,h3.rep hR'⟩):p:=h
theorem JI{p:Prop}(h:p:=by
 have e:=A0 (d:=d) (rev:=rev) (λh=>c1 h.1);simp[az c1,e]):p:=h
theorem JH{p:Prop}(h:p:=by
 have e:=A0 (d:=d) (rev:=rev) (λh=>c2 h.2);simp[az c2,e]):p:=h
theorem JG{p:Prop}(h:p:=by
 rintro e w' ⟨v,rr,rfl,h1,hb,hr⟩
 exact⟨v,rr,rfl,h _ h1,hb,hr⟩):p:=h
theorem JF{p:Prop}(h:p:=by simp[az c1,zp (d:=d) (base:=base) (o:=o) (λh=>c1 h.1)]):p:=h
theorem JE{p:Prop}(h:p:=by simp[az c2,zp (d:=d) (base:=base) (o:=o) (λh=>c2 h.2)]):p:=h
theorem JD{p:Prop}(h:p:=by simp[execOp,ho,resolve,hc,hu,Deferred.ofValue,invoke,oV h.1]):p:=h
theorem JC{p:Prop}(h:p:=by
 by_cases h:a.length=b.length
 ·simp[h]
  refine aU.intro eok (λi:Nat=>i<=a.length/\a.take i=b.take i) (λi=>⟨26,0,[(13,.v (.int .i64 i)),(12,.v (.int .i64 b.length)),(1,.ro (b.map aI)),(0,.ro (a.map aI))],[]⟩) (λi=>a.length-i) 0 (by simp) (by simp) (λi hi=>?_);by_cases hlt:i<a.length
  ·have hlt':i<b.length:=by omega
   simp[hlt'];refine aZ.quiet eok mix (by kernel_rfl) ?_;simp[hlt,hlt'];exact Mq
  ·have hlt':¬i<b.length:=by omega
   simp[hlt',vJ];exact Dl
 ·exact jw):p:=h
theorem Cw{p:Prop}(h:p:=by
 rename_i v hv
 have hlt:q<xs.size:=by rw[hs];exact(List.getElem?_eq_some_iff.1 hv).1
 have e:(xs++Array.replicate (fn.ntmps-xs.size) undef).getD q undef=xs.getD q undef:=by
  exact Me
 rw[e];exact(hx q v hv).ph):p:=h
theorem Ct{p:Prop}(h:p:=by
 simp only at hd hat;simp[k];refine ag.pure hd (by simp[Hub.row]) ?_;simp[Hub.res];intros;by_cases z:code=0
 ·rw[if_pos z]at hat
  simp[z];exact Do
 ·rw[if_neg z]at hat
  exact Du):p:=h
theorem JB{p:Prop}(h:p:=by
 obtain⟨X,code⟩:=R;simp only at hd hat;simp[k];refine ag.pure hd (by simp[Hub.row]) ?_;simp[Hub.res];intros;by_cases z:code=0
 ·rw[if_pos z]at hat
  simp[z];refine drw eok mix [0,1] [2,3] (.c 2 2 2 1 (.c 2 3 1 0 (.l 2 0) .s) .s) ?_;simp;exact LR
 ·rw[if_neg z]at hat
  exact Du):p:=h
theorem JA{p:Prop}(h:p:=by
 by_cases c3:n∈m
 ·have h:=hno (o3 c1 (.inr c3))
  simp[c3,az h]
 simp[az c3];intro b40;refine⟨by omega,λG'=>Ent.refl ⟨j+1,m++[n],⟨by omega,o2 c1 (λh=>h.elim (λh=>c2 h) c3)⟩,by omega,G',?_⟩⟩;simp;exact xZ):p:=h
theorem Cs{p:Prop}(h:p:=by
 have hlt':¬i<b.length:=by omega
 simp[hlt',vJ];exact Dl):p:=h
theorem Jz{p:Prop}(h:p:=by
 refine⟨rfl,by simp;omega,λi=>?_,⟨Es,HH.obj,HH.inj,λk b hk=>⟨λhf=>hf.2 ⟨k,hk⟩,(HH.low k b hk).2⟩,HH.elow,HH.einj,HH.em⟩,BelowF.refl _ _,λb hb=>hb.elim (λh=>h.1) (λh=>hR.base_le b (.inr h))⟩;exact Mi):p:=h
theorem Jy{p:Prop}(h:p:=by
 by_cases c4:(k:Int)∈m
 ·exact CS
 simp[az c4];intro b40;refine⟨by omega,λG'=>Ent.refl ⟨j+1,m++[(k:Int)],⟨by omega,o1 ⟨hmay.2 ⟨c2,c3⟩,c4⟩⟩,by omega,G',?_⟩⟩;simp;exact xZ):p:=h
theorem Jx{p:Prop}(h:p:=by
 simp[k];refine drw eok mix [0,2,3] [1,4,5,6] (.c 3 1 4 3 (.c 3 4 3 0 (.c 3 5 0 0 (.c 3 6 0 0 (.l 3 0) .s) .s) .s) .s) ?_;simp
 try intros
 refine ag.pure (eE h (by omega)) (by simp[Hub.row]) ?_;exact LW):p:=h
theorem Jw{p:Prop}(h:p:=by
 simp[k];refine drw eok mix [0,2,3] [1,4,5,6] (.c 3 1 4 3 (.c 3 4 3 0 (.c 3 5 0 0 (.c 3 6 0 0 (.l 3 0) .s) .s) .s) .s) ?_;simp
 try intros
 refine ag.pure (gb h (by omega)) (by simp[Hub.row]) ?_;exact LW):p:=h
theorem Jv{p:Prop}(h:p:=by
 obtain⟨X,code⟩:=R;simp only at hd hat;simp[k];refine ag.pure hd (by simp[Hub.row]) ?_;simp[Hub.res];intros;by_cases z:code=0
 ·rw[if_pos z]at hat
  simp[z,hat,Answer.res,eX]
 ·exact TE):p:=h
theorem Ju{p:Prop}(h:p:=by
 have:j=3:=by omega
 subst this;rw[List.take_of_length_le (by omega)]at hm;simp;refine Ent.refl ⟨i+1,m,⟨by omega,by rw[hsuc,hm]⟩,by omega,G,?_⟩;simp;exact xZ):p:=h
theorem ni{p:Prop}(h:p:=by
 simp[hlt,vJ];exact Dl):p:=h
theorem Jt{p:Prop}(h:p:=by
 obtain⟨⟨a,rfl⟩,rfl⟩:=hx;rw[show rows=[]from ho,show cut ([]:List (List CD)) off 0=[]from by simp[gL]];exact xY):p:=h
theorem Js{p:Prop}(h:p:=by
 have hZ:BZ:=hb0.2 ⟨⟨e1,e2⟩,e3⟩;simp[e2,eq_true e3];have hB:BZ\/(inv<=lin/\lin<=1000000):=.inl hZ;exact TF):p:=h
theorem Jr{p:Prop}(h:p:=by
 by_cases hc:C=n
 ·subst hc
  go_enter Tryz.func197,Tryz.ntmps197
  exact rE
 ·go_enter Tryz.func197,Tryz.ntmps197
  exact rE):p:=h
theorem Jq{p:Prop}(h:p:=by
 by_cases hc:C=n
 ·subst hc
  go_enter Tryz.func236,Tryz.ntmps236
  exact rE
 ·go_enter Tryz.func236,Tryz.ntmps236
  exact rE):p:=h
theorem Jp{p:Prop}(h:p:=by
 by_cases hc:C=n
 ·subst hc
  go_enter Tryz.func88,Tryz.ntmps88
  exact rE
 ·go_enter Tryz.func88,Tryz.ntmps88
  exact rE):p:=h
theorem Jo{p:Prop}(h:p:=by
 have hst:lQ t (L,(a':Int)) o[i]=(L++o[i].signs,(a':Int)):=by simp[lQ,k2]
 rw[hst]at hs;simp[k2];exact TC):p:=h
theorem ng{p:Prop}(h:p:=by
 simp;exact xZ):p:=h
theorem Cr{p:Prop}(h:p:=by
 refine ag.pure (bT lin inv 1000000) (by simp) ?_;exact Mo):p:=h
theorem Cq{p:Prop}(h:p:=by
 refine ag.pure (cG lin inv 1000000) (by simp) ?_;exact Mo):p:=h
theorem Jn{p:Prop}(h:p:=by
 simp;refine Br.mk (λh1=>?_) (λh1=>?_)
 ·exact LM
 ·simp[iU]
  exact λhp=>Nc h (MF h1) hp.1):p:=h
theorem Jm{p:Prop}(h:p:=by
 intro b;by_cases c:l[i].name=name
 ·have e:bq l name=i:=yo hlt c hi.2
  simp[c,e]
 ·exact Ma):p:=h
theorem Jl{p:Prop}(h:p:=by
 intro b;by_cases c:l[i].id=id
 ·have e:fk l id=i:=yo hlt c hi.2
  simp[c,e]
 ·exact Ma):p:=h
theorem Jk{p:Prop}(h:p:=by
 simp;refine Br.mk (λh1=>?_) (λh1=>?_)
 ·exact LM
 ·simp[iU]
  exact Nc h (MF h1)):p:=h
theorem Jj{p:Prop}(h:p:=by
 intro i j hi hj;have:=Nat.mul_le_mul_right sz (show i+1<=rows.length by omega);exact tS):p:=h
theorem Ji{p:Prop}(h:p:=by
 have hf:=fin s1 s2 hp k hk rfl (λh=>absurd (ho.symm.trans h) (by simp));simp;exact TD):p:=h
theorem Jh{p:Prop}(h:p:=by
 simp[az c1];refine ag.pure (eE h (by omega)) (by simp[Hub.row]) ?_;exact CV):p:=h
theorem Jg{p:Prop}(h:p:=by
 simp[az c2];refine ag.pure (eE h (by omega)) (by simp[Hub.row]) ?_;exact CU):p:=h
theorem Jf{p:Prop}(h:p:=by
 have h:¬cS ⟨hh,lk,qs,tasks,step⟩:=λh=>c1 h.2.1
 exact oQ):p:=h
theorem l9{p:Prop}(h:p:=by
 simp;exact Mq):p:=h
theorem Je{p:Prop}(h:p:=by
 by_cases h1:k+1<=i
 ·exact K6
 ·rw[if_neg h1,if_neg (by omega)]):p:=h
theorem Jd{p:Prop}(h:p:=by
 simp[c1];refine Ent.refl ⟨j+1,m,⟨by omega,o1 c1⟩,by omega,G,?_⟩;exact ng):p:=h
theorem eC{p:Prop}(h:p:=by intro h;cases h):p:=h
theorem tQ{p:Prop}(h:p:=by simpa using hk):p:=h
theorem aa{p:Prop}(h:p:=by omega):p:=h
theorem aM{p:Prop}(h:p:=by simp;omega):p:=h
theorem ab{p:Prop}(h:p:=by simp):p:=h
theorem adf{p:Prop}(h:p:=by simpa[Instr.loadAt,Instr.sureAddr]using iO (P:=P) ht hb (o:=c) (by omega)):p:=h
theorem gQ{p:Prop}(h:p:=by simp at h):p:=h
theorem xK{p:Prop}(h:p:=by simp at h⊢;omega):p:=h
theorem dN{p:Prop}(h:p:=by simpa using hi):p:=h
theorem xJ{p:Prop}(h:p:=by rw[Nat.add_mul];omega):p:=h
theorem oP{p:Prop}(h:p:=by simpa using hlt):p:=h
theorem l8{p:Prop}(h:p:=by simpa using h2):p:=h
theorem rq{p:Prop}(h:p:=by simp[gL]):p:=h
theorem iC{p:Prop}(h:p:=by rw[hget];rfl):p:=h
theorem l7{p:Prop}(h:p:=by simp[execOp,ho,h1]):p:=h
theorem l6{p:Prop}(h:p:=by simp[AObj.blk]at hb):p:=h
theorem oO{p:Prop}(h:p:=by simp at hj):p:=h
theorem iZ{p:Prop}(h:p:=by simpa using hj):p:=h
theorem l0{p:Prop}(h:p:=by simpa using hd):p:=h
theorem nf{p:Prop}(h:p:=by simp at hd):p:=h
theorem nc{p:Prop}(h:p:=by simp at h;exact h.1):p:=h
theorem oN{p:Prop}(h:p:=by simp at h;exact h.2):p:=h
theorem na{p:Prop}(h:p:=by simp at hi):p:=h
theorem Cp{p:Prop}(h:p:=by rw[hi]at hi';exact(Option.some.inj hi').symm):p:=h
theorem ah{p:Prop}(h:p:=by decide):p:=h
theorem gP{p:Prop}(h:p:=by unfold maxLen;omega):p:=h
theorem tP{p:Prop}(h:p:=by rw[<-hrl _ (List.mem_of_getElem? hi)];exact(List.getElem?_eq_some_iff.1 hj).1):p:=h
theorem xI{p:Prop}(h:p:=by rw[hsz];exact hN.len):p:=h
theorem xH{p:Prop}(h:p:=by rw[<-hnl _ (List.mem_of_getElem? hi')];exact(List.getElem?_eq_some_iff.1 hj').1):p:=h
theorem kZ{p:Prop}(h:p:=by simpa using h):p:=h
theorem oM{p:Prop}(h:p:=by simp[Builtin.len_,run_underlying hu,goInt]):p:=h
theorem oL{p:Prop}(h:p:=by cases hq:c.args;simp_all):p:=h
theorem Co{p:Prop}(h:p:=by cases hq:c.argTypes;simp_all):p:=h
theorem rn{p:Prop}(h:p:=by simp[Region.wanted,hg,hy,hbw]):p:=h
theorem xG{p:Prop}(h:p:=by cases b<;>cases want<;>simp_all):p:=h
theorem Cn{p:Prop}(h:p:=by simp[Region.wanted,hg,hy]):p:=h
theorem ka{p:Prop}(h:p:=by rw[hb];rfl):p:=h
theorem Cm{p:Prop}(h:p:=by rintro b ⟨k,hk⟩;simp[AH.get,AObj.blk]at hk):p:=h
theorem j9{p:Prop}(h:p:=by simp[h1]):p:=h
theorem xF{p:Prop}(h:p:=by have:=hH.lt hk;omega):p:=h
theorem tO{p:Prop}(h:p:=by simp[ha]at h):p:=h
theorem j8{p:Prop}(h:p:=by cases h):p:=h
theorem xE{p:Prop}(h:p:=by rw[hu]at hu';cases hu'):p:=h
theorem m9{p:Prop}(h:p:=by simpa using hx):p:=h
theorem Jc{p:Prop}(h:p:=by simp only[yielded,hd',Option.bind_some,getD_some hu]):p:=h
theorem Cl{p:Prop}(h:p:=by rw[hset];split<;>simp[hj]):p:=h
theorem Jb{p:Prop}(h:p:=by have:=I.g _ hg;rw[hpi,hioff]at this;simp at this):p:=h
theorem xD{p:Prop}(h:p:=by unfold ASt.aft;split<;>rfl):p:=h
theorem en{p:Prop}(h:p:=by rw[h]):p:=h
theorem j7{p:Prop}(h:p:=by simp[ig]):p:=h
theorem rm{p:Prop}(h:p:=by simp[ig,M1]):p:=h
theorem iB{p:Prop}(h:p:=by rw[hx]):p:=h
theorem xC{p:Prop}(h:p:=by simpa[AObj.q]using hq):p:=h
theorem xB{p:Prop}(h:p:=by unfold ASt.aft;cases dst<;>rfl):p:=h
theorem kY{p:Prop}(h:p:=by rw[hrs]):p:=h
theorem Ck{p:Prop}(h:p:=by show base.L _;rw[hL];trivial):p:=h
theorem al{p:Prop}(h:p:=by kernel_rfl):p:=h
theorem ade{p:Prop}(h:p:=by rw[Go.IntWalk.i64_in _ (by omega)];omega):p:=h
theorem jv{p:Prop}(h:p:=by simp[aN]):p:=h
theorem m8{p:Prop}(h:p:=by simp[US]):p:=h
theorem fX{p:Prop}(h:p:=by simp[Part.row]):p:=h
theorem rk{p:Prop}(h:p:=by rw[<-hr];unfold szR;split<;>split<;>omega):p:=h
theorem rj{p:Prop}(h:p:=by simp[hr0];omega):p:=h
theorem oK{p:Prop}(h:p:=by simp[qd,aN]):p:=h
theorem eI{p:Prop}(h:p:=by simp[bN,h]):p:=h
theorem ju{p:Prop}(h:p:=by simp[aI]):p:=h
theorem ff{p:Prop}(h:p:=by simp[aJ]):p:=h
theorem xA{p:Prop}(h:p:=by simp[bE,hP,hD]):p:=h
theorem xz{p:Prop}(h:p:=by simp[Part.row,ck]):p:=h
theorem gh{p:Prop}(h:p:=by simp only;omega):p:=h
theorem adc{p:Prop}(h:p:=by rw[o1 ky R.ne.symm (by omega)];exact R.gy):p:=h
theorem adb{p:Prop}(h:p:=by rw[o1 q q1 (by omega)];exact R.o q q1 q2 q3):p:=h
theorem jt{p:Prop}(h:p:=by rw[<-hh0];simp):p:=h
theorem Cj{p:Prop}(h:p:=by first|omega|(simp;omega)):p:=h
theorem fe{p:Prop}(h:p:=by simp[Entry.row]):p:=h
theorem ada{p:Prop}(h:p:=by rw[IntWalk.i64_in _ (by omega)];omega):p:=h
theorem bo{p:Prop}(h:p:=by simp[Doc.row]):p:=h
theorem j6{p:Prop}(h:p:=by simp[dB]):p:=h
theorem xy{p:Prop}(h:p:=by have:=(h hlt).2.1;rwa[hx]at this):p:=h
theorem tN{p:Prop}(h:p:=by simpa[frA]using h):p:=h
theorem ri{p:Prop}(h:p:=by unfold maxLen at hC;omega):p:=h
theorem rh{p:Prop}(h:p:=by rw[List.length_drop,hul,Nat.sub_mul]):p:=h
theorem rf{p:Prop}(h:p:=by simp[World.frozen?,hbv]):p:=h
theorem ac9{p:Prop}(h:p:=by have:=Nat.mul_le_mul_right 3 (show i+1<=n by omega);omega):p:=h
theorem re{p:Prop}(h:p:=by rw[hdl,hzs]):p:=h
theorem jr{p:Prop}(h:p:=by simp only[Nat.min_def];split<;>omega):p:=h
theorem gZ{p:Prop}(h:p:=by rw[hxl,hzs]):p:=h
theorem rb{p:Prop}(h:p:=by rw[IntKind.wrap_i64];omega):p:=h
theorem Ci{p:Prop}(h:p:=by simp[setRow_heap w.drew b cs cs1 T (0,0) hb]):p:=h
theorem Ch{p:Prop}(h:p:=by rw[setRow_other w.drew b bv cs1 hne];exact hbv):p:=h
theorem Cg{p:Prop}(h:p:=by rw[hzb,hik];exact growslice_fits hroom hbig):p:=h
theorem Cf{p:Prop}(h:p:=by rw[hG];exact grownCap_ge w _ _ _):p:=h
theorem Ce{p:Prop}(h:p:=by rw[hW1];exact qq w.drew _):p:=h
theorem Cd{p:Prop}(h:p:=by rw[hW1];exact oA w.drew _ hc):p:=h
theorem Cc{p:Prop}(h:p:=by rw[<-Nat.succ_mul,<-Nat.add_mul];congr 1;omega):p:=h
theorem ac8{p:Prop}(h:p:=by rw[hzb];exact growslice_fits (by omega) hbig):p:=h
theorem dH{p:Prop}(h:p:=by simp[Ring.row]):p:=h
theorem jq{p:Prop}(h:p:=by simp[Call.row]):p:=h
theorem lZ{p:Prop}(h:p:=by simp[Answer.row]):p:=h
theorem lY{p:Prop}(h:p:=by simp[Task.row]):p:=h
theorem ra{p:Prop}(h:p:=by simp[dB,Task.row]):p:=h
theorem bj{p:Prop}(h:p:=by simp[Hub.row]):p:=h
theorem ac7{p:Prop}(h:p:=by rw[BitVec.ofInt_natCast,BitVec.toNat_ofNat];exact Nat.mod_eq_of_lt (by omega)):p:=h
theorem tM{p:Prop}(h:p:=by simp[cz]):p:=h
theorem tL{p:Prop}(h:p:=by simp[db]):p:=h
theorem Ja{p:Prop}(h:p:=by rw[<-List.drop_eq_getElem_cons hj,List.take_append_drop]):p:=h
theorem xx{p:Prop}(h:p:=by simp only[Nat.add_sub_cancel];rwa[hy]):p:=h
theorem tK{p:Prop}(h:p:=by unfold cV at hl;omega):p:=h
theorem qZ{p:Prop}(h:p:=by rw[c2];simp):p:=h
theorem m7{p:Prop}(h:p:=by simp[Hub.row,c2]):p:=h
theorem m6{p:Prop}(h:p:=by rw[c3];simp):p:=h
theorem m5{p:Prop}(h:p:=by simp[Doc.row,Doc.row]):p:=h
theorem Cb{p:Prop}(h:p:=by have:=h2 h0;simpa using this.symm):p:=h
theorem ac6{p:Prop}(h:p:=by simp;exact aQ (by omega)):p:=h
theorem ac5{p:Prop}(h:p:=by have:=Nat.mul_le_mul_right 5 (show i+1<=n by omega);omega):p:=h
theorem xw{p:Prop}(h:p:=by unfold dP at hc;omega):p:=h
theorem iA{p:Prop}(h:p:=by rw[fz]):p:=h
theorem qY{p:Prop}(h:p:=by simp[Answer.row,Answer.zero]):p:=h
theorem xv{p:Prop}(h:p:=by simp only at h;omega):p:=h
theorem xu{p:Prop}(h:p:=by simp only at h4;omega):p:=h
theorem xt{p:Prop}(h:p:=by rw[<-htold];rfl):p:=h
theorem xr{p:Prop}(h:p:=by rw[hsuc];simp only;rw[hq];exact h):p:=h
theorem fc{p:Prop}(h:p:=by simp[Wld.row]):p:=h
theorem tJ{p:Prop}(h:p:=by simp[Wld.row,r1,r2,r3,r4,r5]):p:=h
theorem ac4{p:Prop}(h:p:=by simp;exact(Go.IntWalk.i64_in _ (by omega)).symm):p:=h
theorem xq{p:Prop}(h:p:=by have:=c1.2.2.2.2.1;omega):p:=h
theorem xp{p:Prop}(h:p:=by have:=zI htk.1;omega):p:=h
theorem qX{p:Prop}(h:p:=by rw[<-hq0];exact q):p:=h
theorem ac3{p:Prop}(h:p:=by have:=Nat.mul_le_mul_right 2 (show i+1<=n by omega);omega):p:=h
theorem Ca{p:Prop}(h:p:=by rw[uH c]at hy;simp at hy):p:=h
theorem qW{p:Prop}(h:p:=by simp[ASt.quiet,qT,qH,AV.q,AV.qL,AObj.q]):p:=h
theorem xo{p:Prop}(h:p:=by subst hZ;simp;try omega):p:=h
theorem ac2{p:Prop}(h:p:=by subst hZ;rw[List.getElem_append_right (by rw[List.length_take];exact Nat.min_le_left _ _)];simp[Nat.min_eq_left hal]):p:=h
theorem m4{p:Prop}(h:p:=by rw[List.length_take];exact Nat.min_le_left _ _):p:=h
theorem xn{p:Prop}(h:p:=by have:=nv (f:=λx:List CD=>x) hZm hZe (λrow=>row.set 1 d);rw[List.map_id']at this;exact this):p:=h
theorem ac1{p:Prop}(h:p:=by subst hZ;rw[List.set_append_right _ _ (by rw[List.length_take];exact Nat.min_le_left _ _)];simp[Nat.min_eq_left hal]):p:=h
theorem xk{p:Prop}(h:p:=by rw[List.getElem?_eq_getElem hZm,hZe]):p:=h
theorem fW{p:Prop}(h:p:=by simp[hR]):p:=h
theorem lX{p:Prop}(h:p:=by simp[Uq hl6]):p:=h
theorem B9{p:Prop}(h:p:=by simp[z1,z2,z3,z4,z5,z6,hq6]):p:=h
theorem I9{p:Prop}(h:p:=by simp[hr0,aN,g0,gk,g1,g2,g3,g4,g5,gr,fj.refl]):p:=h
theorem B8{p:Prop}(h:p:=by simp[oi hl6,mB hl6]):p:=h
theorem B7{p:Prop}(h:p:=by simp[z2,z3,z4,z5,z6,hqr]):p:=h
theorem eQ{p:Prop}(h:p:=by simp[z1,z2,z3,z4,z6,hqr]):p:=h
theorem lW{p:Prop}(h:p:=by simp[Wld.row,u0,u1,u2,u3,u4]):p:=h
theorem tI{p:Prop}(h:p:=by simp;exact⟨rfl,rfl,rfl,rfl⟩):p:=h
theorem I8{p:Prop}(h:p:=by simp[aJ,Wld.row,Wld.markT,hc1,zc1,hc2,zc2]):p:=h
namespace Go.AM
open Go.RowKit
inductive CD where
 |v (u:Value)
 |s (rows:List (List CD))
 |h (k:Nat) (H:Option (Nat×Nat×Nat)) (sz len:Nat)
 deriving Inhabited
def plain:Value->Bool
 | .bool _ | .int _ _ | .string _=>true
 | .slice none 0 0=>true
 | .func (.func _) f c=>f.size==0&&c.size==0
 |_=>false
abbrev Hd:=Option (Nat×Nat×Nat)
def SlV:Hd->(sz off len:Nat)->Value->Prop
 |none,_,_,len,x=>(∃a,x=.slice a 0 0)/\len=0
 |some (b,o,C),sz,off,len,x=>(x=.slice (some ⟨b,o+off*sz,none⟩) len (C-off)/\off+len<=C)\/(len=0/\0<off/\∃a,x=.slice a 0 0)
def MlS(k sz len:Nat):Prop:=0<len\/(sz=1/\50000<=k)\/70000<=k
instance {k sz len:Nat}:Decidable (MlS k sz len):=inferInstanceAs (Decidable (0<len\/(sz=1/\50000<=k)\/70000<=k))
theorem MlS.pos{k sz len:Nat}(h:0<len):MlS k sz len:=.inl h
theorem MlS.key{k len:Nat}(h:50000<=k):MlS k 1 len:=.inr (.inl ⟨rfl,h⟩)
theorem MlS.free{k sz len:Nat}(h:70000<=k):MlS k sz len:=.inr (.inr h)
def HdE:Hd->Hd->Prop
 |some (b,o,_),some (b',o',_)=>b=b'/\o=o'
 |none,none=>True
 |_,_=>False
theorem Td(H:Hd):HdE H H:=by
 cases H with
 |none=>trivial
 |some q=>exact⟨rfl,rfl⟩
theorem HdE.some_of{b o C:Nat}{H:Hd}(h:HdE (some (b,o,C)) H):∃C',H=some (b,o,C'):=by
 cases H with
 |none=>exact h.elim
 |some q=>obtain⟨b',o',C'⟩:=q;obtain⟨rfl,rfl⟩:=h;exact⟨C',rfl⟩
def MlV(k:Nat)(H:Hd)(sz len:Nat)(x:Value):Prop:=(MlS k sz len/\SlV H sz 0 len x)\/(len=0/\¬MlS k sz len/\∃a c,x=.slice a 0 c)
theorem MlV.slice{k:Nat}{H:Hd}{sz len:Nat}{x:Value}(h:MlV k H sz len x):∃a c,x=.slice a len c:=by
 rcases h with⟨hp,hs⟩|⟨rfl,-,a,c,rfl⟩
 ·cases H with
  |none=>obtain⟨⟨a,rfl⟩,rfl⟩:=hs;exact⟨_,_,rfl⟩
  | some q =>
    obtain⟨b,o,C⟩:=q;rcases hs with⟨rfl,_⟩|⟨rfl,_⟩
    ·exact⟨_,_,rfl⟩
    ·omega
 ·exact⟨a,c,rfl⟩
inductive Rd(w:World)(x:Bool):(Nat->Prop)->Value->CD->Prop
 |plain {S:Nat->Prop}{u:Value}(h:plain u=true):Rd w x S u (.v u)
 |h {S:Nat->Prop}(k:Nat) (H:Hd) (sz len:Nat) (u:Value) (h:MlS k sz len->SlV H sz 0 len u) (he:len=0->¬MlS k sz len->Rd w x S u (.s [])):Rd w x S u (.h k H sz len)
 |empty {S:Nat->Prop}(a:Option Addr) (cap:Nat) (h:x=true->cap=0):Rd w x S (.slice a 0 cap) (.s [])
 |slice {S:Nat->Prop}(b off cap sz:Nat) (cs:Array Value) (T:TypeId) (fr:Nat×Nat) (rows:List (List CD)) (F:Nat->Nat->Nat->Prop)
  (hcap:rows.length<=cap) (hmax:cap<=maxLen) (hsz:0<sz) (hS:S b) (hb:w.heap[b]? = some (.cells cs T fr)) (hfit:off+rows.length*sz<=cs.size)
  (hown:x=true->fr=(0,0)/\off+cap*sz<=cs.size)
  (hF:∀i j c,F i j c->S c/\(x=true->c≠b))
  (hd:x=true->∀i j i' j' c,F i j c->F i' j' c->i=i'/\j=j')
  (hlen:∀row∈rows,row.length=sz)
  (hr:∀i j row d,rows[i]? = some row->row[j]? = some d->Rd w x (F i j) (cs.getD (off+(i*sz+j)) undef) d) :
  Rd w x S (.slice (some ⟨b,off,none⟩) rows.length cap) (.s rows)
theorem Rd.empty_slice{w:World}{x:Bool}{S:Nat->Prop}{u:Value}(h:Rd w x S u (.s [])):∃a c,u=.slice a 0 c:=by
 cases h with
 |empty a cap h=>exact⟨a,cap,rfl⟩
 |slice b off cap=>exact⟨_,cap,rfl⟩
theorem Rd.mlv{w:World}{x:Bool}{S:Nat->Prop}{u:Value}{k:Nat}{H:Hd}{sz len:Nat}(h:Rd w x S u (.h k H sz len)):MlV k H sz len u:=by
 cases h with
 | h _ _ _ _ _ h he =>
   by_cases h0:MlS k sz len
   ·exact .inl ⟨h0,h h0⟩
   ·have hl:len=0:=mW (λh=>h0 (.inl h))
    exact .inr ⟨hl,h0,(he hl h0).empty_slice⟩
theorem fo{w:World}{b:Nat}{o:Obj}(h:w.heap[b]? = some o):b<w.heap.size:=by
 rcases gO b w.heap.size with h'|h'
 ·exact h'
 ·simp[Array.getElem?_eq_none h']at h
theorem Rd.map{w w':World}{x:Bool}{S S':Nat->Prop}{u:Value}{d:CD}(h:Rd w x S u d)
 (hw:∀b,S b->b<w.heap.size->w'.heap[b]? = w.heap[b]?) (hS:∀b,S b->b<w.heap.size->S' b):Rd w' x S' u d:=by
 induction h generalizing S' with
 |plain h=>exact .plain h
 |h k H sz len u h he ih=>exact .h k H sz len u h (λh0 h1=>ih h0 h1 hw hS)
 |empty a cap h=>exact .empty a cap h
 | slice b off cap sz cs T fr rows F hcap hmax hsz hSb hb hfit hown hF hd hlen hr ih =>
   have hlt:=fo hb;refine .slice b off cap sz cs T fr rows (λi j c=>F i j c/\c<w.heap.size) hcap hmax hsz (hS b hSb hlt) ((hw b hSb hlt).trans hb) hfit hown ?_ ?_ hlen ?_
   ·rintro i j c ⟨hc,hl⟩
    exact⟨hS c (hF i j c hc).1 hl,(hF i j c hc).2⟩
   ·rintro hx i j i' j' c ⟨hc,_⟩ ⟨hc',_⟩
    exact hd hx i j i' j' c hc hc'
   ·intro i j row d h1 h2
    exact ih i j row d h1 h2 (λc hc hl=>hw c (hF i j c hc).1 hl) (λc hc hl=>⟨hc,hl⟩)
theorem Rd.weaken{w:World}{x:Bool}{S:Nat->Prop}{u:Value}{d:CD}(h:Rd w x S u d):Rd w false S u d:=by
 induction h with
 |plain h=>exact .plain h
 |h k H sz len u h he ih=>exact .h k H sz len u h ih
 |empty a cap h=>exact .empty a cap eC
 | slice b off cap sz cs T fr rows F hcap hmax hsz hSb hb hfit hown hF hd hlen hr ih =>
   exact .slice b off cap sz cs T fr rows F hcap hmax hsz hSb hb hfit eC (λi j c hc=>⟨(hF i j c hc).1,eC⟩) eC hlen ih
theorem Rd.within{w:World}{x:Bool}{S:Nat->Prop}{u:Value}{d:CD}(h:Rd w x S u d):Rd w x (λb=>S b/\b<w.heap.size) u d:=
 h.map (λ_ _ _=>rfl) (λ_ hs hl=>⟨hs,hl⟩)
inductive AV where
 |any|un|nil
 |v (u:Value)
 |ro (rows:List (List CD))
 |sl (k:Nat) (H:Hd) (sz off len:Nat)
 |p (k b c:Nat)
 |e (k:Nat) (H:Hd) (sz r c:Nat)
 |rp (row:List CD)
 |agg (l:List AV)
 |tup (l:List AV)
 |clo (f:Nat) (l:List AV)
 |cv (u:Value) (len:Nat)
 |ml (k:Nat) (H:Hd) (sz len:Nat)
 |is (u:Value)
 deriving Inhabited
inductive VRel(w:World)(M:Nat->Prop):AV->Value->Prop
 |any (x:Value):VRel w M .any x
 |un:VRel w M .un undef
 |nil:VRel w M .nil (.slice none 0 0)
 |v (u:Value) (h:plain u=true):VRel w M (.v u) u
 |ro (rows:List (List CD)) (x:Value) (h:Rd w false (λb=>¬M b) x (.s rows)):VRel w M (.ro rows) x
 |sl (k:Nat) (H:Hd) (sz off len:Nat) (x:Value) (h:SlV H sz off len x):VRel w M (.sl k H sz off len) x
 |cv (u:Value) (len:Nat) (h:∃a c,u=.slice a len c):VRel w M (.cv u len) u
 |ml (k:Nat) (H:Hd) (sz len:Nat) (x:Value) (h:MlV k H sz len x):VRel w M (.ml k H sz len) x
 |is (u:Value):VRel w M (.is u) u
 |p (k b c:Nat):VRel w M (.p k b c) (.pointer (some ⟨b,c,none⟩))
 |e (k b o C sz r c:Nat):VRel w M (.e k (some (b,o,C)) sz r c) (.pointer (some ⟨b,o+r*sz+c,none⟩))
 |rp (row:List CD) (b o:Nat) (cs:Array Value) (T:TypeId) (fr:Nat×Nat) (hM:¬M b) (hb:w.heap[b]? = some (.cells cs T fr)) (hfit:o+row.length<=cs.size)
  (hr:∀j d,row[j]? = some d->Rd w false (λb=>¬M b) (cs.getD (o+j) undef) d):VRel w M (.rp row) (.pointer (some ⟨b,o,none⟩))
 |agg (l:List AV) (xs:Array Value) (hs:xs.size=l.length) (h:∀i av,l[i]? = some av->VRel w M av (xs.getD i undef)):VRel w M (.agg l) (.agg xs)
 |tup (l:List AV) (xs:Array Value) (hs:xs.size=l.length) (h:∀i av,l[i]? = some av->VRel w M av (xs.getD i undef)):VRel w M (.tup l) (.tuple xs)
 |clo (f:Nat) (l:List AV) (xs:Array Value) (hs:xs.size=l.length) (h:∀i av,l[i]? = some av->VRel w M av (xs.getD i undef)):VRel w M (.clo f l) (.func (.func f) #[] xs)
structure Tr(M:Nat->Prop)(w:World)(M':Nat->Prop)(w':World):Prop where
 size:w.heap.size<=w'.heap.size
 frame:∀b,b<w.heap.size->¬M b->w'.heap[b]? = w.heap[b]?
 mono:∀b,b<w.heap.size->M' b->M b
theorem Tr.refl(M:Nat->Prop)(w:World):Tr M w M w:=⟨aF _,λ_ _ _=>rfl,λ_ _ h=>h⟩
theorem Tr.trans{M M' M'':Nat->Prop}{w w' w'':World}(h:Tr M w M' w')(k:Tr M' w' M'' w''):Tr M w M'' w'':=
 ⟨dW h.size k.size,λb hb hM=>(k.frame b (bV hb h.size) (λh'=>hM (h.mono b hb h'))).trans (h.frame b hb hM),
  λb hb hM=>h.mono b hb (k.mono b (bV hb h.size) hM)⟩
theorem Rd.tr{M M':Nat->Prop}{w w':World}{x:Bool}{u:Value}{d:CD}(h:Rd w x (λb=>¬M b) u d)(t:Tr M w M' w'):Rd w' x (λb=>¬M' b) u d:=
 h.map (λb hb hl=>t.frame b hl hb) (λb hb hl hM=>hb (t.mono b hl hM))
theorem VRel.tr{M M':Nat->Prop}{w w':World}{av:AV}{x:Value}(h:VRel w M av x)(t:Tr M w M' w'):VRel w' M' av x:=by
 induction h with
 |any x=>exact .any x
 |un=>exact .un
 |nil=>exact .nil
 |v u h=>exact .v u h
 |ro rows x h=>exact .ro rows x (h.tr t)
 |sl k H sz off len x h=>exact .sl k H sz off len x h
 |cv u len h=>exact .cv u len h
 |ml k H sz len x h=>exact .ml k H sz len x h
 |is u=>exact .is u
 |p k b c=>exact .p k b c
 |e k b o C sz r c=>exact .e k b o C sz r c
 | rp row b o cs T fr hM hb hfit hr =>
   have hlt:=fo hb;exact .rp row b o cs T fr (λh=>hM (t.mono b hlt h)) ((t.frame b hlt hM).trans hb) hfit (λj d hj=>(hr j d hj).tr t)
 |agg l xs hs _ ih=>exact .agg l xs hs ih
 |tup l xs hs _ ih=>exact .tup l xs hs ih
 |clo f l xs hs _ ih=>exact .clo f l xs hs ih
inductive AObj where
 |dead
 |vars (b:Nat) (T:TypeId) (cells:List AV)
 |rows (H:Hd) (sz:Nat) (rows:List (List CD)) (own:Bool)
 |lent (H:Hd) (sz:Nat) (rows:List (List CD))
 |part (H:Hd) (sz:Nat) (rows:List (List CD)) (lo:Nat)
 deriving Inhabited
def AObj.blk:AObj->Option Nat
 | .dead=>none
 | .vars b _ _=>some b
 | .rows (some (b,_,_)) _ _ _=>some b
 | .rows none _ _ _=>none
 | .lent _ _ _=>none
 | .part (some (b,_,_)) _ _ _=>some b
 | .part none _ _ _=>none
abbrev AH:=List (Nat×AObj)
def AH.get:AH->Nat->AObj
 | [],_=>.dead
 |(k,o)::h,j=>if j=k then o else AH.get h j
def AH.M(h:AH)(b:Nat):Prop:=∃k,(h.get k).blk=some b
def eY(w:World)(M E:Nat->Prop):AObj->Prop
 | .dead=>True
 | .vars b T cells=>∃cs,w.heap[b]? = some (.cells cs T (0,0))/\cs.size=cells.length/\∀j av,cells[j]? = some av->VRel w M av (cs.getD j undef)
 | .rows none _ rows _=>rows=[]
 | .rows (some (b,o,C)) sz rows own=>∃(cs:Array Value) (T:TypeId) (F:Nat->Nat->Nat->Prop),w.heap[b]? = some (.cells cs T (0,0))/\rows.length<=C/\C<=maxLen/\0<sz/\o+C*sz<=cs.size /\
  (∀row∈rows,row.length=sz)/\(∀i j c,F i j c->(own=true->E c)/\¬M c)/\(own=true->∀i j i' j' c,F i j c->F i' j' c->i=i'/\j=j') /\
  (∀i j row d,rows[i]? = some row->row[j]? = some d->Rd w own (F i j) (cs.getD (o+(i*sz+j)) undef) d)
 | .lent H sz rows=>(∀row∈rows,row.length=sz)/\(rows≠[]->∃b o C,H=some (b,o,C)/\rows.length<=C)/\∀x,SlV H sz 0 rows.length x->Rd w false (λb=>¬M b) x (.s rows)
 | .part none _ rows _=>rows=[]
 | .part (some (b,o,C)) sz rows lo=>∃(cs:Array Value) (T:TypeId) (F:Nat->Nat->Nat->Prop),w.heap[b]? = some (.cells cs T (0,0))/\rows.length<=C/\C<=maxLen/\0<sz/\o+C*sz<=cs.size /\
  (∀row∈rows,row.length=sz)/\(∀i j c,F i j c->(lo<=i->E c)/\¬M c)/\(∀i j i' j' c,lo<=i->lo<=i'->F i j c->F i' j' c->i=i'/\j=j') /\
  (∀i j row d,rows[i]? = some row->row[j]? = some d->Rd w (decide (lo<=i)) (F i j) (cs.getD (o+(i*sz+j)) undef) d)
structure Bs where
 F:Nat->Prop
 G:Nat->Prop
 loose:Bool:=false
 L:World->Prop:=λ_=>True
structure BelowF(F:Nat->Prop)(w w':World):Prop where
 os:w'.os=w.os
 tape:w'.tape=w.tape
 output:w'.output=w.output
 size:w.heap.size<=w'.heap.size
 block:∀k,F k->w'.heap[k]? = w.heap[k]?
theorem BelowF.refl(F:Nat->Prop)(w:World):BelowF F w w:=⟨rfl,rfl,rfl,aF _,λ_ _=>rfl⟩
theorem BelowF.trans{F:Nat->Prop}{a b c:World}(h:BelowF F a b)(k:BelowF F b c):BelowF F a c:=
 ⟨k.os.trans h.os,k.tape.trans h.tape,k.output.trans h.output,dW h.size k.size,λi hi=>(k.block i hi).trans (h.block i hi)⟩
structure HRel(base:Bs)(h:AH)(w:World)(E:Nat->Nat->Prop):Prop where
 obj:∀k,eY w h.M (E k) (h.get k)
 inj:∀k k' b,(h.get k).blk=some b->(h.get k').blk=some b->k=k'
 low:∀k b,(h.get k).blk=some b->¬base.F b/\¬base.G b
 elow:∀k c,E k c->¬base.G c/\c<w.heap.size
 einj:∀k k' c,E k c->E k' c->k=k'
 em:∀k c,E k c->¬h.M c
structure ASt where
 n:Nat
 kb:Nat
 t:List (Nat×AV)
 h:AH
def bB:List (Nat×AV)->Nat->AV
 | [],_=>.any
 |(k,o)::h,j=>if j=k then o else bB h j
structure Rep(w0:World)(base:Bs)(st:ASt)(a:Act)(w:World):Prop where
 dfr:a.defers=[]
 size:a.tmps.size=st.n
 tmp:∀i,VRel w st.h.M (bB st.t i) (a.tmps.getD i undef)
 heap:∃E,HRel base st.h w E
 below:BelowF base.F w0 w
 base_le:∀b,base.F b\/base.G b->b<w.heap.size
theorem HRel.lt{base:Bs}{h:AH}{w:World}{E:Nat->Nat->Prop}(H:HRel base h w E){k b:Nat}(hk:(h.get k).blk=some b):b<w.heap.size:=by
 have:=H.obj k
 revert hk this
 cases h.get k with
 |dead=>intro hk;simp[AObj.blk]at hk
 | vars b' T cells =>
   rintro hk ⟨cs,hb,_⟩
   simp only[AObj.blk,ez]at hk;subst hk;exact fo hb
 | rows H' sz rows own =>
   exact Lx
 |lent=>intro hk;simp[AObj.blk]at hk
 | part H' sz rows lo =>
   exact Lx
theorem eY.tr{M M' E E':Nat->Prop}{w w':World}{o:AObj}(h:eY w M E o)(t:Tr M w M' w')(hb:∀b,o.blk=some b->w'.heap[b]? = w.heap[b]?)
 (hE:∀c,E c->c<w.heap.size->E' c):eY w' M' E' o:=by
 cases o with
 |dead=>exact h
 | vars b T cells =>
   obtain⟨cs,h1,h2,h3⟩:=h;exact⟨cs,(hb b rfl).trans h1,h2,λj av hj=>(h3 j av hj).tr t⟩
 | rows H sz rows own =>
   cases H with
   |none=>exact h
   | some q =>
     obtain⟨b,o,C⟩:=q;obtain⟨cs,T,F,h1,h2,h3,h4,h5,h6,h7,h8,h9⟩:=h;refine⟨cs,T,λi j c=>F i j c/\c<w.heap.size,(hb b rfl).trans h1,h2,h3,h4,h5,h6,?_,?_,?_⟩
     ·exact KC
     ·rintro ho i j i' j' c ⟨hc,_⟩ ⟨hc',_⟩
      exact h8 ho i j i' j' c hc hc'
     ·exact KM
 | lent H sz rows =>
   obtain⟨h1,h2,h3⟩:=h;exact⟨h1,h2,λx hx=>(h3 x hx).tr t⟩
 | part H sz rows lo =>
   cases H with
   |none=>exact h
   | some q =>
     obtain⟨b,o,C⟩:=q;obtain⟨cs,T,F,h1,h2,h3,h4,h5,h6,h7,h8,h9⟩:=h;refine⟨cs,T,λi j c=>F i j c/\c<w.heap.size,(hb b rfl).trans h1,h2,h3,h4,h5,h6,?_,?_,?_⟩
     ·exact KC
     ·rintro i j i' j' c ho ho' ⟨hc,_⟩ ⟨hc',_⟩
      exact h8 i j i' j' c ho ho' hc hc'
     ·exact KM
structure TI where
 agg:Bool:=false
 n:Nat:=1
 zero:List AV
 fields:List (Nat×Nat):=[]
 fagg:List Bool:=[]
 sl:Option Nat:=none
 bytes:Nat
 kind:Option IntKind:=none
 pln:Bool:=true
 str:Bool:=false
 boo:Bool:=false
 ieq:Bool:=false
structure Env where
 P:Program
 T:Nat->Option TI
 w0:World
 base:Bs
def cAV:Value->AV
 | .int k n=>.v (.int k n)
 | .bool b=>.v (.bool b)
 | .string s=>.v (.string s)
 | .slice none 0 0=>.nil
 |_=>.any
def ASt.ev(st:ASt):Operand->AV
 | .tmp t=>bB st.t t
 | .const v=>cAV v
 | .func f=>.v (.func (.func f) #[] #[])
 | .global _=>.any
def toAV:CD->AV
 | .v u=>.v u
 | .s rows=>.ro rows
 | .h k H sz len=>.ml k H sz len
def GX:AV->CD
 | .v u=>.v u
 |_=>.s []
def bM(st:ASt)(d:Option Nat)(v:AV)(K:ASt->Prop):Prop:=
 match d with
 |none=>K st
 |some d=>d<st.n/\K { st with t:=(d,v)::st.t }
def ASt.aft(st:ASt)(d:Option Nat)(av:AV)(h:AH):ASt:=
 match d with
 |none=>{ st with h:=h }
 |some d=>{ st with h:=h,t:=(d,av)::st.t }
def ASt.key(st:ASt)(d:Option Nat):Nat:=
 match d with
 |none=>st.kb
 |some d=>st.kb+16*d
def Env.isBool(E:Env)(T:Nat):Prop:=
 match E.T T with
 |some ti=>ti.boo=true
 |none=>False
def Env.isStr(E:Env)(T:Nat):Prop:=
 match E.T T with
 |some ti=>ti.str=true
 |none=>False
def Env.known(E:Env)(T:Nat):Prop:=
 match E.T T with
 |some _=>True
 |none=>False
def ig(tb:Prop)(op:BinOp)(x y:Value)(K:AV->Prop):Prop:=
 match op,x,y with
 | .add,.int k a,.int k' b=>k=k'/\K (.v (.int k (k.wrap (a+b))))
 | .sub,.int k a,.int k' b=>k=k'/\K (.v (.int k (k.wrap (a-b))))
 | .mul,.int k a,.int k' b=>k=k'/\K (.v (.int k (k.wrap (a*b))))
 | .quo,.int k a,.int k' b=>k=k'/\b≠0/\K (.v (.int k (k.wrap (a.tdiv b))))
 | .rem,.int k a,.int k' b=>k=k'/\b≠0/\K (.v (.int k (a.tmod b)))
 | .and,.int k a,.int k' b=>k=k'/\K (.v (.int k (bits .and k a b)))
 | .or,.int k a,.int k' b=>k=k'/\K (.v (.int k (bits .or k a b)))
 | .xor,.int k a,.int k' b=>k=k'/\K (.v (.int k (bits .xor k a b)))
 | .shl,.int k a,.int _ b=>0<=b/\b<=k.bits/\K (.v (.int k (k.wrap (a*2^b.toNat))))
 | .shr,.int k a,.int _ b=>0<=b/\b<=k.bits/\K (.v (.int k (a / 2^b.toNat)))
 | .lss,.int k a,.int k' b=>k=k'/\K (.v (.bool (decide (a<b))))
 | .leq,.int k a,.int k' b=>k=k'/\K (.v (.bool (decide (a<=b))))
 | .gtr,.int k a,.int k' b=>k=k'/\K (.v (.bool (decide (b<a))))
 | .geq,.int k a,.int k' b=>k=k'/\K (.v (.bool (decide (b<=a))))
 | .eql,.int k a,.int k' b=>k=k'/\K (.v (.bool (decide (a=b))))
 | .neq,.int k a,.int k' b=>k=k'/\K (.v (.bool (!decide (a=b))))
 | .eql,.bool a,.bool b=>tb/\K (.v (.bool (a==b)))
 | .neq,.bool a,.bool b=>tb/\K (.v (.bool (!(a==b))))
 | .add,.string a,.string b=>a.size+b.size<=140737488355328/\K (.v (.string (a++b)))
 | .eql,.string a,.string b=>K (.v (.bool (a.toList==b.toList)))
 | .neq,.string a,.string b=>K (.v (.bool (!(a.toList==b.toList))))
 | .lss,.string a,.string b=>K (.v (.bool (Op.bytesLess a.toList b.toList)))
 | .geq,.string a,.string b=>K (.v (.bool (!Op.bytesLess a.toList b.toList)))
 | .gtr,.string a,.string b=>K (.v (.bool (!(Op.bytesLess a.toList b.toList || a.toList==b.toList))))
 | .leq,.string a,.string b=>K (.v (.bool (Op.bytesLess a.toList b.toList || a.toList==b.toList)))
 |_,_,_=>False
def gl(ti:TI)(row:List CD)(K:AV->Prop):Prop:=
 if ti.agg then ti.n<=row.length/\K (.agg ((row.take ti.n).map toAV))
 else match row with
  |d::_=>K (toAV d)
  | []=>False
def kt(ti:TI)(cells:List AV)(c:Nat)(K:AV->Prop):Prop:=
 if ti.agg then c+ti.n<=cells.length/\K (.agg ((cells.drop c).take ti.n))
 else match cells[c]? with
  |some av=>K av
  |none=>False
def loadAt(ti:TI)(h:AH)(x:AV)(K:AV->Prop):Prop:=
 match x with
 | .p k b c => match h.get k with
   | .vars b' _ cells=>b=b'/\kt ti cells c K
   |_=>False
 | .e k H sz r c => match h.get k with
   | .rows H' sz' rows _=>HdE H H'/\sz=sz'/\r<rows.length/\∀row,rows[r]? = some row->gl ti (row.drop c) K
   | .lent H' sz' rows=>H=H'/\sz=sz'/\r<rows.length/\∀row,rows[r]? = some row->gl ti (row.drop c) K
   |_=>False
 | .rp row=>gl ti row K
 |_=>False
def pN(E:Env)(h:AH)(T:Nat)(x:AV)(K:AV->Prop):Prop:=
 match E.T T with
 |some ti=>loadAt ti h x K
 |none=>False
def indexAt(te:TI)(x i:AV)(K:AV->Prop):Prop:=
 match x,i with
 | .ro rows,.v (.int _ n)=>0<=n/\n<rows.length/\∀row,rows[n.toNat]? = some row->row.length=te.n/\K (.rp row)
 | .sl k H sz off len,.v (.int _ n)=>0<=n/\n<len/\sz=te.n/\K (.e k H sz (off+n.toNat) 0)
 | .ml k H sz len,.v (.int _ n)=>0<=n/\n<len/\sz=te.n/\K (.e k H sz n.toNat 0)
 |_,_=>False
def ei(E:Env)(T:Nat)(K:Nat->TI->Prop):Prop:=
 match E.T T with
 | some ti => match ti.sl with
   | some e => match E.T e with
     |some te=>K e te
     |none=>False
   |none=>False
 |none=>False
def si(E:Env)(T:Nat)(x:AV)(K:AV->Prop):Prop:=
 match x with
 | .ro rows=>ei E T λ_ _=>K (.v (.int .i64 rows.length))
 | .sl _ _ _ _ len=>ei E T λ_ _=>K (.v (.int .i64 len))
 | .cv _ len=>ei E T λ_ _=>K (.v (.int .i64 len))
 | .ml _ _ _ len=>ei E T λ_ _=>K (.v (.int .i64 len))
 | .nil=>ei E T λ_ _=>K (.v (.int .i64 0))
 | .v (.slice none 0 0)=>ei E T λ_ _=>K (.v (.int .i64 0))
 | .v (.string s)=>E.isStr T/\K (.v (.int .i64 s.size))
 |_=>False
def fieldAt(ti:TI)(f:Nat)(x:AV)(K:AV->Prop):Prop:=
 match ti.fields[f]? with
 | some (off, _) => match x with
   | .p k b c=>K (.p k b (c+off))
   | .e k H sz r c=>K (.e k H sz r (c+off))
   | .rp row=>off<=row.length/\K (.rp (row.drop off))
   |_=>False
 |none=>False
def pz(E:Env)(T f:Nat)(x:AV)(K:AV->Prop):Prop:=
 match E.T T with
 |some ti=>fieldAt ti f x K
 |none=>False
def ix{α:Type}:List α->Nat->List α->List α
 |l,_,[]=>l
 | [],_,_::_=>[]
 |_::l,0,v::vs=>v::ix l 0 vs
 |x::l,c+1,v::vs=>x::ix l c (v::vs)
def AV.cells:AV->List AV
 | .agg l=>l
 |x=>[x]
def AV.one:AV->Bool
 | .nil=>true
 |AV.v _=>true
 | .ro _=>true
 | .sl ..=>true
 | .p ..=>true
 |AV.e ..=>true
 | .rp _=>true
 | .clo ..=>true
 | .cv ..=>true
 | .ml ..=>true
 |_=>false
def nD(fields:List (Nat×Nat))(cells:List AV)(parts:List (Nat×AV))(K:List AV->Prop):Prop:=
 match parts with
 | []=>K cells
 | (i, v) :: rest => match fields[i]? with
   |some (off,n)=>v.cells.length=n/\off+n<=cells.length/\(v.cells.all AV.one)=true/\nD fields (ix cells off v.cells) rest K
   |none=>False
def oa(E:Env)(T:Nat)(parts:List (Nat×AV))(K:AV->Prop):Prop:=
 match E.T T with
 |some ti=>ti.agg=true/\nD ti.fields ti.zero parts (λl=>K (.agg l))
 |none=>False
def wN(E:Env)(s d:Nat)(x:AV)(K:AV->Prop):Prop:=
 E.known s/\match E.T d with
 | some ti => match ti.kind, x with
   |some k,.v (.int _ n)=>K (.v (.int k (k.wrap n)))
   |_,_=>False
 |none=>False
def cut{α:Type}(rows:List α)(off len:Nat):List α:=if off=0/\len=rows.length then rows else(rows.drop off).take len
def hU(b:UInt8):List CD:=[.v (.int .u8 b.toNat)]
def EO(E:Env)(s d:Nat)(rows:List (List CD))(K:AV->Prop):Prop:=
 E.isStr d/\ei E s λ_ te=>te.kind=some .u8/\∃l:List UInt8,rows=l.map hU/\K (.v (.string ⟨l.toArray⟩))
def lR(E:Env)(h:AH)(s d:Nat)(x:AV)(K:AV->Prop):Prop:=
 match x with
 | .v u=>wN E s d (.v u) K
 | .ro rows=>EO E s d rows K
 | .sl k H sz off len => match h.get k with
   | .rows H' sz' rows _=>H=H'/\sz=sz'/\off+len<=rows.length/\EO E s d (cut rows off len) K
   |_=>False
 |_=>False
def AO(x y:AV)(K:AV->Prop):Prop:=
 match x,y with
 | .v (.int k a),.v (.int _ b)=>K (.v (.int k (if b<a then b else a)))
 |_,_=>False
def GF(x y:AV)(K:AV->Prop):Prop:=
 match x,y with
 | .v (.int k a),.v (.int _ b)=>K (.v (.int k (if a<b then b else a)))
 |_,_=>False
def AV.norm:AV->AV
 | .ml k H sz len=>if MlS k sz len then .sl k H sz 0 len else .any
 | .v (.slice none 0 0)=>.nil
 |x=>x
theorem VRel.norm{w:World}{M:Nat->Prop}{s:AV}{u:Value}(h:VRel w M s u):VRel w M s.norm u:=by
 unfold AV.norm
 split
 ·split
  ·rename_i h0
   cases h with
   | ml _ _ _ _ _ h =>
     rcases h with⟨_,h⟩|⟨_,h,_⟩
     ·exact .sl _ _ _ _ _ _ h
     ·exact absurd h0 h
  ·exact .any _
 ·cases h;exact .nil
 ·exact h
def eH(x:Option AV)(z:Nat)(K:Nat->Prop):Prop:=
 match x with
 |none=>K z
 |some (.v (.int _ n))=>0<=n/\K n.toNat
 |_=>False
def kG(E:Env)(T:Nat)(x:AV)(lo hi:Option AV)(K:AV->Prop):Prop:=
 match x.norm with
 | .ro rows=>ei E T λ_ te=>(∀row∈rows,row.length=te.n)/\eH hi rows.length λh=>h<=rows.length/\eH lo 0 λl=>l<=h/\K (.ro (cut rows l (h-l)))
 | .sl k H sz off len=>ei E T λ_ te=>sz=te.n/\eH hi len λh=>h<=len/\eH lo 0 λl=>l<=h/\K (.sl k H sz (off+l) (h-l))
 | .v (.string s)=>E.isStr T/\eH hi s.size λh=>h<=s.size/\eH lo 0 λl=>l<=h/\K (.v (.string (s.extract l h)))
 |_=>False
def pr(E:Env)(T:Nat)(x:AV)(lo hi:Option AV)(mx:AV)(K:AV->Prop):Prop:=
 match x.norm,hi with
 | .ro rows,some hv=>ei E T λ_ te=>(∀row∈rows,row.length=te.n)/\eH (some hv) 0 λh=>eH (some mx) 0 λm=>h<=m/\m<=rows.length/\eH lo 0 λl=>l<=h/\K (.ro (cut rows l (h-l)))
 | .sl k (some (b,o,_)) sz off len,some hv=>ei E T λ_ te=>sz=te.n/\off=0/\lo=none/\eH (some hv) 0 λh=>eH (some mx) 0 λm=>h<=m/\m<=len/\K (.ml k (some (b,o,m)) sz h)
 | .sl k none sz _ len,some hv=>ei E T λ_ te=>sz=te.n/\lo=none/\eH (some hv) 0 λh=>eH (some mx) 0 λm=>h<=m/\m<=len/\K (.ml k none sz 0)
 |_,_=>False
def GI(E:Env)(T:Nat)(x i:AV)(K:AV->Prop):Prop:=
 match x,i with
 | .v (.string s),.v (.int _ n)=>E.isStr T/\0<=n/\∃h:n.toNat<s.size,K (.v (.int .u8 (s[n.toNat]'h).toNat))
 |_,_=>False
def mU(x:AV)(K:Bool->Prop):Prop:=
 match x with
 | .v (.bool b)=>K b
 |_=>False
def xd(x:AV)(K:AV->Prop):Prop:=
 match x with
 | .p ..=>K x
 |AV.e ..=>K x
 | .rp _=>K x
 | .clo ..=>K x
 | .v (.func (.func f) a b)=>K (.v (.func (.func f) a b))
 |_=>False
def fU(x:AV)(i:Nat)(K:AV->Prop):Prop:=
 match x with
 | .tup l => match l[i]? with
   |some v=>K v
   |none=>False
 |_=>False
def pj(ti:TI)(f:Nat)(x:AV)(K:AV->Prop):Prop:=
 match ti.fields[f]?,ti.fagg[f]?,x with
 | some (off, n), some b, .agg l => if b then off + n <= l.length /\ K (.agg ((l.drop off).take n)) else match l[off]? with
   |some v=>K v
   |none=>False
 |_,_,_=>False
def pw(E:Env)(T f:Nat)(x:AV)(K:AV->Prop):Prop:=
 match E.T T with
 |some ti=>pj ti f x K
 |none=>False
def Pb(x y:AV)(K:Value->Value->Prop):Prop:=
 match x,y with
 | .v a,.v b=>K a b
 |_,_=>False
def kz:List AV->Option (List Int)
 | []=>some []
 | .v (.int .i64 a)::l=>(kz l).map (a :: ·)
 |_=>none
def Pj(E:Env)(op:BinOp)(T:Nat)(l m:List AV)(K:AV->Prop):Prop:=
 match E.T T with
 | some ti => ti.ieq = true /\ match kz l, kz m with
   | some a, some b => a.length = ti.n /\ b.length = ti.n /\ match op with
     | .eql=>K (.v (.bool (decide (a=b))))
     | .neq=>K (.v (.bool (!decide (a=b))))
     |_=>False
   |_,_=>False
 |none=>False
def oG(E:Env)(op:BinOp)(T:Nat)(x y:AV)(K:AV->Prop):Prop:=
 match x,y with
 | .v a,.v b=>ig (E.isBool T) op a b K
 | .agg l,.agg m=>Pj E op T l m K
 |_,_=>False
def aCv(E:Env)(x:AV)(K:AV->Prop):Prop:=
 match x with
 | .cv u _=>∃rows,Rd E.w0 false E.base.F u (.s rows)/\K (.ro rows)
 |x=>K x
def wD(E:Env)(st:ASt)(op:Op)(K:AV->Prop):Prop:=
 match op with
 | .move x | .assign x=>K (st.ev x)
 | .pick c a b=>mU (st.ev c) λt=>(t=true->K (st.ev a))/\(t=false->K (st.ev b))
 | .build T parts=>oa E T (parts.toList.map λq=>(q.1,st.ev q.2)) K
 | .load T x=>pN E st.h T (st.ev x) K
 | .nilCheck x=>xd (st.ev x) K
 | .binOp op T x y _=>oG E op T (st.ev x) (st.ev y) K
 | .unOp .not _ x=>mU (st.ev x) λb=>K (.v (.bool (!b)))
 | .convert s d x=>lR E st.h s d (st.ev x) K
 | .makeFunc (.func f) first caps=>first.toList=[]/\K (.clo f (caps.toList.map st.ev))
 | .slice T x lo hi none=>kG E T (st.ev x) (lo.map st.ev) (hi.map st.ev) K
 | .fieldAddr T x f=>pz E T f (st.ev x) K
 | .field T x f=>pw E T f (st.ev x) K
 | .indexAddr T x i=>ei E T λ_ te=>aCv E (st.ev x) λv=>indexAt te v (st.ev i) K
 | .index T x i=>GI E T (st.ev x) (st.ev i) K
 | .extract x i=>fU (st.ev x) i K
 |_=>False
def pR(h:AH)(x:AV)(K:CD->AH->Bool->Prop):Prop:=
 match x with
 | .v u=>K (.v u) h true
 | .nil=>K (.s []) h true
 | .ro rows=>K (.s rows) h false
 | .sl k H sz off len => match h.get k with
   | .rows H' sz' rows own=>H=H'/\sz=sz'/\off+len<=rows.length/\K (.s (cut rows off len)) ((k,.dead)::h) own
   |_=>False
 | .ml k H sz len=>MlS k sz len/\K (.h k H sz len) h true
 |_=>False
def kK(h:AH)(l:List AV)(K:List CD->AH->Bool->Prop):Prop:=
 match l with
 | []=>K [] h true
 |a::l=>pR h a λd h' o=>kK h' l λds h'' o'=>K (d::ds) h'' (o&&o')
def uv(a:AV)(d:CD)(h:AH):AH:=
 match a,d with
 | .sl k H sz 0 _,.s rows=>(k,.lent H sz rows)::h
 |_,_=>h
def lendL:List AV->List CD->AH->AH
 |a::l,d::ds,h=>lendL l ds (uv a d h)
 |_,_,h=>h
def Eh(own:Bool)(H:Hd)(sz:Nat)(rows:List (List CD))(n:Nat):AObj:=if own then .part H sz rows n else .dead
def n9(E:Env)(st:ASt)(T:Nat)(x y:AV)(K:ASt->Prop):Prop:=
 match E.T T with
 | some ti => y.cells.length = ti.n /\ (y.cells.all AV.one) = true /\ match x with
   | .p k b c => match st.h.get k with
     | .vars b' T' cells=>b=b'/\c+y.cells.length<=cells.length/\K { st with h:=(k,.vars b T' (ix cells c y.cells))::st.h }
     |_=>False
   | .e k H sz r c => kK st.h y.cells λds h o => match h.get k with
     | .rows H' sz' rows own=>HdE H H'/\sz=sz'/\r<rows.length/\c+ds.length<=sz /\
      K { st with h:=lendL y.cells ds ((k,.rows H' sz (if c=0/\ds.length=sz then rows.set r ds else rows.modify r λrow=>ix row c ds) (own&&o))::h) }
     |_=>False
   |_=>False
 |none=>False
def isV:CD->Bool
 | .v _=>true
 |_=>false
def nI(te:TI)(h:AH)(x:AV)(K:List (List CD)->AH->Bool->Prop):Prop:=
 match x with
 | .nil=>K [] h true
 | .ro rows=>(∀row∈rows,row.length=te.n)/\(te.pln=true->∀row∈rows,∀d∈row,isV d=true)/\K rows h te.pln
 | .sl k H sz off len => match h.get k with
   | .rows H' sz' rows own=>H=H'/\sz=sz'/\sz=te.n/\off+len<=rows.length /\
    if te.pln then(∀row∈rows,∀d∈row,isV d=true)/\K (cut rows off len) h true else K (cut rows off len) ((k,Eh own H sz rows (off+len))::h) own
   | .part H' sz' rows lo=>H=H'/\sz=sz'/\sz=te.n/\off+len<=rows.length/\te.pln=false/\lo<=off/\K (cut rows off len) ((k,.part H sz rows (off+len))::h) true
   |_=>False
 |_=>False
def gR(E:Env)(st:ASt)(dst:Option Nat)(T:Nat)(s x:AV)(K:ASt->Prop):Prop:=
 ei E T λ_ te=>0<te.bytes/\0<te.n /\
  match s.norm with
  | .nil=>nI te st.h x λnews h o=>news.length*te.bytes<=140737488355328 /\
   ∀H,bM { st with h:=(st.key dst,.rows H te.n news o)::h } dst (.sl (st.key dst) H te.n 0 news.length) K
  | .sl k H0 sz off len => nI te st.h x λnews h o => match h.get k with
    | .rows H' sz' rows own=>H0=H'/\sz=sz'/\sz=te.n/\off=0/\len=rows.length/\(len+news.length)*te.bytes<=140737488355328 /\
     ∀H,bM { st with h:=(k,.rows H te.n (rows++news) (own&&o))::h } dst (.sl k H te.n 0 (len+news.length)) K
    |_=>False
  |_=>False
def sP(te:TI)(h:AH)(parts:List (Nat×AV))(i:Nat)(K:List (List CD)->AH->Bool->Prop):Prop:=
 match parts with
 | []=>K [] h true
 |(j,v)::rest=>j=i/\v.cells.length=te.n/\(v.cells.all AV.one)=true /\
  kK h v.cells λds h' o=>sP te h' rest (i+1) λrs h'' o'=>K (ds::rs) h'' (o&&o')
def jX(E:Env)(st:ASt)(dst:Option Nat)(T len:Nat)(parts:List (Nat×AV))(K:ASt->Prop):Prop:=
 ei E T λ_ te=>0<te.n/\len=parts.length/\len*te.n<=16777216/\sP te st.h parts 0 λrs h o=>
  ∀b,bM { st with h:=(st.key dst,.rows (some (b,0,len)) te.n rs o)::h } dst (.sl (st.key dst) (some (b,0,len)) te.n 0 len) K
def BR(E:Env)(st:ASt)(dst:Option Nat)(T:Nat)(l c:AV)(K:ASt->Prop):Prop:=
 ei E T λ_ te=>0<te.n/\0<te.bytes/\Pb l c λx y=>match x,y with
  | .int .i64 n,.int .i64 m=>n=m/\0<=n/\n*te.bytes<=140737488355328 /\
   ∀b,bM { st with h:=(st.key dst,.rows (some (b,0,n.toNat)) te.n (List.replicate n.toNat (te.zero.map GX)) true)::st.h } dst (.sl (st.key dst) (some (b,0,n.toNat)) te.n 0 n.toNat) K
  |_,_=>False
def vQ(E:Env)(st:ASt)(dst:Option Nat)(T:Nat)(K:ASt->Prop):Prop:=
 match E.T T with
 |some ti=>∀b,bM { st with h:=(st.key dst,.vars b T ti.zero)::st.h } dst (.p (st.key dst) b 0) K
 |none=>False
def GK(E:Env)(st:ASt)(dst:Option Nat)(T:Nat)(x:AV)(K:ASt->Prop):Prop:=
 match E.T T with
 |some _=>(x.cells.all AV.one)=true/\∀b,bM { st with h:=(st.key dst,.vars b T x.cells)::st.h } dst (.p (st.key dst) b 0) K
 |none=>False
def xe (P : Program) (f : Nat) : Prop := ∃ fn, P.funcs[f]? = some fn ∧ (fn.name == "runtime.NumGoroutine") = false ∧ fn.body.isNone = false
def ag(E:Env)(f:Nat)(args:List AV)(st:ASt)(dst:Option Nat)(K:ASt->Prop):Prop:=
 xe E.P f/\∀a w,Rep E.w0 E.base st a w->∀xs:Array Value,xs.size=args.length->(∀i av,args[i]? = some av->VRel w st.h.M av (xs.getD i undef)) ->
  Calls E.P f xs w λe w'=>∃v av h',e=.returned v/\K (st.aft dst av h')/\Rep E.w0 E.base (st.aft dst av h') (a.put dst v) w'/\(E.base.loose=false->Tr st.h.M w h'.M w')/\VRel w' h'.M av v
def SU(E:Env)(st:ASt)(dst:Option Nat)(c:Call)(K:ASt->Prop):Prop:=
 match c.callee,c.args.toList,c.argTypes.toList with
 | .builtin .len,[x],[T]=>si E T (st.ev x) λv=>bM st dst v K
 | .builtin .min,[x,y],_=>AO (st.ev x) (st.ev y) λv=>bM st dst v K
 | .builtin .max,[x,y],_=>GF (st.ev x) (st.ev y) λv=>bM st dst v K
 | .builtin .append,[s,x],[T,T']=>T=T'/\gR E st dst T (st.ev s) (st.ev x) K
 | .value (.func f),args,_=>ag E f (args.map st.ev) st dst K
 | .value (.tmp t), args, _ => match bB st.t t with
   | .clo f caps=>ag E f (args.map st.ev++caps) st dst K
   | .v (.func (.func f) _ _)=>ag E f (args.map st.ev) st dst K
   |_=>False
 |_,_,_=>False
def aOp(E:Env)(o:Oper)(st:ASt)(K:ASt->Prop):Prop:=
 match o.op with
 | .alloc T=>vQ E st o.dst T K
 | .box T x=>GK E st o.dst T (st.ev x) K
 | .buildSlice T len parts=>jX E st o.dst T len (parts.toList.map λq=>(q.1,st.ev q.2)) K
 | .makeSlice T l c=>BR E st o.dst T (st.ev l) (st.ev c) K
 | .store T x y=>n9 E st T (st.ev x) (st.ev y) λst'=>bM st' o.dst .un K
 | .slice T x lo hi (some mx)=>pr E T (st.ev x) (lo.map st.ev) (hi.map st.ev) (st.ev mx) λv=>bM st o.dst v K
 | .call c=>SU E st o.dst c K
 |op=>wD E st op λv=>bM st o.dst v K
def kJ(all:List Oper)(j:Nat):Option Nat:=(all[j]?).bind (·.dst)
def SN(all:List Oper)(o:Oper)(st:ASt)(run skip:Prop):Prop:=
 match o.guard with
 |none=>run
 | some (j, want) => match kJ all j with
   | some d => match bB st.t d with
     | .v (.bool b)=>(b=want->run)/\(b = !want->skip)
     | .un=>skip
     |_=>False
   |none=>False
def tv(E:Env)(all:List Oper):List Oper->(ASt->Prop)->ASt->Prop
 | [],K,st=>K st
 |o::rest,K,st=>SN all o st (aOp E o st (tv E all rest K)) (bM st o.dst .un (tv E all rest K))
def aU(E:Env)(body:Code)(Q:Exit->ASt->Prop)(st:ASt):Prop:=
 ∀a w,Rep E.w0 E.base st a w->(Code.loop body).wp E.P (λe a' w'=>∃st',Q e st'/\Rep E.w0 E.base st' a' w') a w
def aZ(E:Env)(id:Nat)(ops:List Oper)(Q:Exit->ASt->Prop)(st:ASt):Prop:=
 ∀a w,Rep E.w0 E.base st a w->(Code.region id ops.toArray true).wp E.P (λe a' w'=>∃st',Q e st'/\Rep E.w0 E.base st' a' w') a w
def QF(K:ASt->Prop)(Q:Exit->ASt->Prop):Exit->ASt->Prop
 | .normal,st=>K st
 |e,st=>Q e st
def EK(id:Nat)(Q:Exit->ASt->Prop):Exit->ASt->Prop
 | .exit j,st=>if j=id then Q .normal st else Q (.exit j) st
 |e,st=>Q e st
def gM(E:Env):Code->(Exit->ASt->Prop)->ASt->Prop
 | .skip,Q,st=>Q .normal st
 | .region id ops draw,Q,st=>if draw then aZ E id ops.toList Q st else tv E ops.toList ops.toList (Q .normal) st
 | .seq x y,Q,st=>gM E x (QF (gM E y Q) Q) st
 | .cond c x y,Q,st=>mU (st.ev c) λb=>(b=true->gM E x Q st)/\(b=false->gM E y Q st)
 | .block id x,Q,st=>gM E x (EK id Q) st
 | .loop x,Q,st=>aU E x Q st
 | .exit id,Q,st=>Q (.exit id) st
 | .ret,Q,st=>Q .ret st
 |_,_,_=>False
def zv:AV->Value
 | .v u=>u
 |_=>.slice none 0 0
structure TIok(P:Program)(t:Nat)(ti:TI):Prop where
 info:∃i z,P.info? t=some i/\i.size=ti.n/\i.bytes=ti.bytes/\i.zero=some z/\z.cells.toList=ti.zero.map zv/\(ti.agg=true->∃cs,z=.agg cs)
 zok:∀av∈ti.zero,av=.nil\/∃u,av=.v u/\plain u=true
 zlen:ti.zero.length=ti.n
 npos:0<ti.n
 st:ti.agg=true->∃fs:Array Field,P.underlying t=some (.struct fs)/\fs.toList.mapM (λf=>(P.info? f.type).map λi=>(f.offset,i.size))=some ti.fields /\
  ∀p∈ti.fields,0<p.2/\p.1+p.2<=ti.n
 nst:ti.agg=false->ti.fields=[]/\ti.n=1/\∃d,P.underlying t=some d/\(∀fs,d≠.struct fs)/\(∀n e,d≠.array n e)
 fa:∀fs,P.underlying t=some (.struct fs)->∀(i:Nat) (b:Bool),ti.fagg[i]? = some b->∃f:Field,fs.toList[i]? = some f/\if b then ∃gs,P.underlying f.type=some (.struct gs)else ∃d,P.underlying f.type=some d/\(∀gs,d≠.struct gs)/\(∀n e,d≠.array n e)
 sl:∀e,ti.sl=some e->P.underlying t=some (.slice e)
 kd:∀k,ti.kind=some k->P.underlying t=some (.int k)
 str:ti.str=true->P.underlying t=some .string
 boo:ti.boo=true->P.underlying t=some .bool
 ieq : ti.ieq = true → ∃ fs : Array Field, P.underlying t = some (.struct fs) ∧ P.stoodInHeld t = false ∧ P.eqGuardType P.depth t = false ∧ fs.toList.map (·.offset) = List.range ti.n ∧ ∀ f ∈ fs.toList, f.name ≠ "_" ∧ P.underlying f.type = some (.int .i64)
theorem y9{P:Program}:∀(fs:List Field) (ps:List (Nat×Nat)),fs.mapM (λf=>(P.info? f.type).map λi=>(f.offset,i.size))=some ps ->
 ∀(k:Nat) (p:Nat×Nat),ps[k]? = some p->∃(f:Field) (j:TypeInfo),fs[k]? = some f/\f.offset=p.1/\P.info? f.type=some j/\j.size=p.2
 | [],ps,h,k,p,hk=>by simp at h;subst h;simp at hk
 | f :: fs, ps, h, k, p, hk => by
   simp only[Tj,Option.bind_eq_bind,Option.pure_def]at h
   cases hi:P.info? f.type with
   |none=>simp[hi]at h
   | some i =>
     cases hr:fs.mapM (λf=>(P.info? f.type).map λi=>(f.offset,i.size))with
     |none=>simp[hi,hr]at h
     | some rest =>
       simp[hi,hr]at h;subst h
       cases k with
       |zero=>simp at hk;subst hk;exact⟨f,i,rfl,rfl,hi,rfl⟩
       |succ k=>simpa using y9 fs rest hr k p tQ
def EOk(E:Env):Prop:=(∀t ti,E.T t=some ti->TIok E.P t ti)/\∀w,BelowF E.base.F E.w0 w->E.base.L w
theorem Bg{u:Value}(h:plain u=true):u.oneCell'=true:=by
 cases u<;>simp[plain,Value.oneCell']at h⊢
theorem VRel.ev{w0:World}{base:Bs}{st:ASt}{a:Act}{w:World}(hR:Rep w0 base st a w)(x:Operand):VRel w st.h.M (st.ev x) (a.eval x):=by
 cases x with
 |tmp t=>exact hR.tmp t
 | const v =>
   show VRel w st.h.M (cAV v) v
   cases v with
   |int k n=>exact .v _ rfl
   |bool b=>exact .v _ rfl
   |string s=>exact .v _ rfl
   | slice a l c =>
     unfold cAV
     split<;>first|exact .any _|(rename_i heq;first|(cases heq;exact .nil)|(exfalso;simp at heq))
   |_=>exact .any _
 |global g=>exact .any _
 |func f=>exact .v _ rfl
theorem rX{w:World}{b:Nat}{cs:Array Value}{T:TypeId}{fr:Nat×Nat}(hb:w.heap[b]? = some (.cells cs T fr)){j:Nat}(hj:j<cs.size) :
 w.cell? ⟨b,j,none⟩=some (cs.getD j undef):=by
 simp[World.cell?,hb,hj]
theorem eP(b o n:Nat):(⟨b,o,none⟩:Addr).add n=⟨b,o+n,none⟩:=by
 unfold Addr.add;split<;>simp_all
theorem Bd{P:Program}{w:World}{b:Nat}{cs:Array Value}{T:TypeId}{fr:Nat×Nat}(hb:w.heap[b]? = some (.cells cs T fr)){o n:Nat}(hj:o+n<=cs.size) :
 (loadCells ⟨b,o,none⟩ n).run P w=.ok ((List.range n).map λj=>cs.getD (o+j) undef).toArray w:=by
 rw[run_loadCells w ⟨b,o,none⟩ n (λj=>cs.getD (o+j) undef) (λj hj'=>by rw[eP];exact rX hb aa)]
theorem p5{P:Program}{t:TypeId}{fs:Array Field}(h:P.underlying t=some (.struct fs))(w:World):(isAgg t).run P w=.ok true w:=by
 simp[isAgg,bf h]
theorem pE{P:Program}{t:TypeId}{d:TypeDesc}(h:P.underlying t=some d)(h1:∀fs,d≠.struct fs)(h2:∀n e,d≠.array n e)(w:World) :
 (isAgg t).run P w=.ok false w:=by
 cases d<;>first|(exact absurd rfl (h1 _))|(exact absurd rfl (h2 _ _))|simp[isAgg,bf h]
theorem dO{P:Program}{t:TypeId}{i:TypeInfo}(h:P.info? t=some i)(w:World):(sizeOf t).run P w=.ok i.size w:=by
 simp[sizeOf,typeInfo,h]
theorem iO{P:Program}{T:Nat}{ti:TI}(ht:TIok P T ti){w:World}{b o:Nat}{cs:Array Value}{T':TypeId}{fr:Nat×Nat}
 (hb:w.heap[b]? = some (.cells cs T' fr)) (hfit:o+ti.n<=cs.size) :
 (loadVar T ⟨b,o,none⟩).run P w=.ok (if ti.agg then .agg ((List.range ti.n).map λj=>cs.getD (o+j) undef).toArray else cs.getD o undef) w:=by
 obtain⟨i,z,hi,hs,-⟩:=ht.info
 cases hg:ti.agg with
 | true =>
   obtain⟨fs,hf,-⟩:=ht.st hg;simp[loadVar,p5 hf,dO hi,hs,Bd hb hfit]
 | false =>
   obtain⟨-,hn,d,hd,h1,h2⟩:=ht.nst hg;have:=rX hb (show o<cs.size from aa);simp[loadVar,pE hd h1 h2,this]
theorem ji{w:World}{M:Nat->Prop}{u:Value}{d:CD}(h:Rd w false (λb=>¬M b) u d):VRel w M (toAV d) u:=by
 cases d with
 |v u'=>cases h with|plain h=>exact .v _ h
 |s rows=>exact .ro _ _ h
 |h k H sz len=>exact .ml _ _ _ _ _ h.mlv
theorem nT{w:World}{M:Nat->Prop}{b o:Nat}{cs:Array Value}{T:TypeId}{fr:Nat×Nat}{row:List CD}(hfit:o+row.length<=cs.size)
 (hr:∀j d,row[j]? = some d->Rd w false (λb=>¬M b) (cs.getD (o+j) undef) d) {P:Program}{t:Nat}{ti:TI}(ht:TIok P t ti)
 (hb:w.heap[b]? = some (.cells cs T fr)) {K:AV->Prop}(h:gl ti row K) :
 ∃v av,(loadVar t ⟨b,o,none⟩).run P w=.ok v w/\VRel w M av v/\K av:=by
 unfold gl at h
 split at h
 ·rename_i hg
  obtain⟨hn,hK⟩:=h;refine⟨_,_,iO ht hb aa,?_,hK⟩;rw[ao hg];refine .agg _ _ aM ?_;intro j av hj;simp only[bW,aR,cN]at hj;obtain⟨d,hd,rfl⟩:=hj
  split at hd
  ·rename_i hlt
   have:=ji (hr j d hd)
   simpa[hlt]using this
  ·exact absurd hd ab
 ·rename_i hg
  cases row with
  |nil=>exact h.elim
  | cons d rest =>
    have hag:ti.agg=false:=by simpa using hg
    obtain⟨-,hn,-⟩:=ht.nst hag;refine⟨_,_,iO ht hb (by simp at hfit;omega),?_,h⟩;rw[hag]
    simpa using ji (hr 0 d rfl)
theorem Rd.slice_inv{w:World}{x:Bool}{S:Nat->Prop}{b off n cap:Nat}{rows:List (List CD)}(h:Rd w x S (.slice (some ⟨b,off,none⟩) n cap) (.s rows))(hne:rows≠[]) :
 ∃ (sz : Nat) (cs : Array Value) (T : TypeId) (fr : Nat × Nat) (F : Nat -> Nat -> Nat -> Prop), S b /\ w.heap[b]? = some (.cells cs T fr) /\ off + rows.length * sz <= cs.size /\ (∀ row ∈ rows, row.length = sz) /\ (∀ i j c, F i j c -> S c) /\
   ∀i j row d,rows[i]? = some row->row[j]? = some d->Rd w x (F i j) (cs.getD (off+(i*sz+j)) undef) d:=by
 generalize hu:Value.slice (some ⟨b,off,none⟩) n cap=u at h
 cases h with
 |empty=>exact absurd rfl hne
 | slice b' off' cap' sz cs T fr rows F hcap hmax hsz hS hb hfit hown hF hd hlen hr =>
   injection hu with h1 h2 h3
   injection h1 with h1
   injection h1 with h4 h5 h6
   subst h4;subst h5;exact⟨sz,cs,T,fr,F,hS,hb,hfit,hlen,λi j c hc=>(hF i j c hc).1,hr⟩
theorem uu{w:World}{base:Bs}{hp:AH}{Es:Nat->Nat->Prop}(hH:HRel base hp w Es){P:Program}{t:Nat}{ti:TI}(ht:TIok P t ti){x:AV}{u:Value}
 (hx:VRel w hp.M x u) {K:AV->Prop}(h:loadAt ti hp x K) :
 ∃v av,(Instr.loadAt t u).run P w=.ok v w/\VRel w hp.M av v/\K av:=by
 unfold loadAt at h
 split at h
 ·rename_i k b c
  cases hx
  have ho:=hH.obj k
  split at h
  ·rename_i b' T cells hget
   obtain⟨rfl,h⟩:=h;rw[hget]at ho;obtain⟨cs,hb,hs,hc⟩:=ho;unfold kt at h
   split at h
   ·rename_i hg
    obtain⟨hn,hK⟩:=h;refine⟨_,_,by simpa[Instr.loadAt,Instr.sureAddr]using iO (P:=P) ht hb (o:=c) aa,?_,hK⟩;rw[ao hg];refine .agg _ _ aM ?_;intro j av hj;rw[cN]at hj
    split at hj
    ·rename_i hlt
     rw[dR]at hj
     simpa[hlt]using hc _ _ hj
    ·exact absurd hj ab
   ·rename_i hg
    have hag:ti.agg=false:=by simpa using hg
    obtain⟨-,hn,-⟩:=ht.nst hag
    split at h
    ·rename_i av hav
     have hlt:c<cells.length:=(an.1 hav).1;refine⟨_,_,by simpa[Instr.loadAt,Instr.sureAddr]using iO (P:=P) ht hb (o:=c) aa,?_,h⟩;rw[hag]
     simpa using hc _ _ hav
    ·exact h.elim
  ·exact h.elim
 ·rename_i k H sz r c
  have ho:=hH.obj k
  split at h
  ·rename_i H' sz' rows own hget
   obtain⟨hHd,rfl,hlt,h⟩:=h;rw[hget]at ho
   cases hx with
   | e k b o C1 sz r c =>
     obtain⟨C,rfl⟩:=hHd.some_of;obtain⟨cs,T',F,hb,hlen,hC,hsz,hfit,hrl,hF,hd,hr⟩:=ho;have hrow:rows[r]? = some rows[r]:=ak hlt;have h:=h _ hrow
     have hle:r*sz+sz<=C*sz:=by
      have:=aq sz (show r+1<=C from aa);exact Cz
     have hl:(rows[r]).length=sz:=hrl _ (aj hlt);by_cases hc:c<=sz
     ·have:=nT (M:=hp.M) (b:=b) (o:=o+r*sz+c) (cs:=cs) (row:=(rows[r]).drop c) (w:=w) (by simp only[iW,hl];omega) ?_ ht hb h
      ·obtain⟨v,av,h1,h2,h3⟩:=this
       exact CM
      ·intro j d hj
       rw[dR]at hj;have:=(hr r (c+j) _ d hrow hj).weaken.map (λ_ _ _=>rfl) (λq hq _=>(hF _ _ _ hq).2);have e:o+r*sz+c+j=o+(r*sz+(c+j)):=aa;rw[e];exact this
     ·exact Lv
  ·rename_i H' sz' rows hget
   obtain⟨rfl,rfl,hlt,h⟩:=h;rw[hget]at ho;obtain⟨hrl,hex,hrd⟩:=ho;have hne:rows≠[]:=λe=>by rw[e]at hlt;simp at hlt
   obtain⟨b0,o0,C0,rfl,hC⟩:=hex hne
   cases hx with
   | e =>
     have hRd:=hrd (.slice (some ⟨b0,o0+0*sz,none⟩) rows.length (C0-0)) (.inl ⟨rfl,aa⟩);obtain⟨sz2,cs,T',fr,F,hS,hb,hfit,hlen,hF,hr⟩:=hRd.slice_inv hne;have hrow:rows[r]? = some rows[r]:=ak hlt;have h:=h _ hrow;have hl:(rows[r]).length=sz:=hrl _ (aj hlt);have hsz2:sz2=sz:=by rw[<-hl,hlen _ (aj hlt)]
     subst hsz2
     have hle:r*sz2+sz2<=rows.length*sz2:=by
      have:=aq sz2 (show r+1<=rows.length from aa);exact Cz
     have hfit2:o0+r*sz2+sz2<=cs.size:=aa;by_cases hc:c<=sz2
     ·have:=nT (M:=hp.M) (b:=b0) (o:=o0+r*sz2+c) (cs:=cs) (row:=(rows[r]).drop c) (w:=w) (by simp only[iW,hl];omega) ?_ ht hb h
      ·obtain⟨v,av,h1,h2,h3⟩:=this
       exact CM
      ·intro j d hj
       rw[dR]at hj;have:=(hr r (c+j) _ d hrow hj).map (λ_ _ _=>rfl) (λq hq _=>hF _ _ _ hq);have e:o0+r*sz2+c+j=o0+0*sz2+(r*sz2+(c+j)):=aa;rw[e];exact this
     ·exact Lv
  ·exact h.elim
 ·rename_i row
  cases hx with
  | rp row b o cs T fr hM hb hfit hr =>
    obtain⟨v,av,h1,h2,h3⟩:=nT hfit hr ht hb h;exact CM
 ·exact h.elim
theorem dM{E:Env}(hE:EOk E){T:Nat}{K:Nat->TI->Prop}(h:ei E T K) :
 ∃e te i,E.P.underlying T=some (.slice e)/\TIok E.P e te/\E.P.info? e=some i/\i.size=te.n/\i.bytes=te.bytes/\K e te:=by
 unfold ei at h
 split at h
 ·rename_i ti hti
  split at h
  ·rename_i e he
   split at h
   ·rename_i te hte
    obtain⟨i,z,hi,h1,h2,-⟩:=(hE.1 _ _ hte).info;exact⟨e,te,i,(hE.1 _ _ hti).sl e he,hE.1 _ _ hte,hi,h1,h2,h⟩
   ·exact h.elim
  ·exact h.elim
 ·exact h.elim
theorem AA{P:Program}{w:World}{M:Nat->Prop}{T e:Nat}{te:TI}{i:TypeInfo}(hu:P.underlying T=some (.slice e))(hi:P.info? e=some i)(hs:i.size=te.n)
 {x y:AV}{u v:Value}(hx:VRel w M x u) (hy:VRel w M y v) {K:AV->Prop}(h:indexAt te x y K) :
 ∃r av,(Instr.indexAt T u v).run P w=.ok r w/\VRel w M av r/\K av:=by
 unfold indexAt at h
 split at h
 ·rename_i rows k n
  obtain⟨h0,hn,h⟩:=h
  cases hy
  cases hx with
  | ro rows x hr =>
    cases hr with
    |empty a cap=>simp at hn;omega
    | slice b off cap sz cs T' fr rows F hcap hmax hsz hS hb hfit hown hF hd hlen hr =>
      have hlt:n.toNat<rows.length:=aa;have hrow:rows[n.toNat]? = some rows[n.toNat]:=ak hlt;obtain⟨hl,hK⟩:=h _ hrow;have hl':=hlen _ (aj hlt)
      have hle:n.toNat*sz+sz<=rows.length*sz:=by
       have:=aq sz (show n.toNat+1<=rows.length from aa);exact Cz
      refine⟨.pointer (some ⟨b,off+n.toNat*sz,none⟩),_,?_,.rp _ b _ cs T' fr hS hb aa ?_,hK⟩
      ·have e:te.n=sz:=by omega
       simp[Instr.indexAt,bf hu,asIntOf,h0,hn,dO hi,hs,eP,e]
      ·intro j d hj
       have:=(hr n.toNat j _ d hrow hj).map (λ_ _ _=>rfl) (λq hq _=>(hF _ _ _ hq).1);have e:off+n.toNat*sz+j=off+(n.toNat*sz+j):=aa;rw[e];exact this
 ·rename_i k H sz off len ki n
  obtain⟨h0,hn,hsz,hK⟩:=h
  cases hy
  cases hx with
  | sl k H sz off len x hx =>
    cases H with
    |none=>obtain⟨_,rfl⟩:=hx;simp at hn;omega
    | some q =>
      obtain⟨b,o,C⟩:=q;rcases hx with⟨rfl,hC⟩|⟨rfl,_⟩
      ·refine⟨.pointer (some ⟨b,o+(off+n.toNat)*sz+0,none⟩),_,?_,.e k b o C sz _ 0,hK⟩
       simp[Instr.indexAt,bf hu,asIntOf,h0,hn,dO hi,hs,eP,hsz,eN,eF]
      ·simp at hn;omega
 ·rename_i k H sz len ki n
  obtain⟨h0,hn,hsz,hK⟩:=h
  cases hy
  cases hx with
  | ml k H sz len x hx =>
    rcases hx with⟨-,hx⟩|⟨rfl,-⟩
    ·cases H with
     |none=>obtain⟨_,rfl⟩:=hx;simp at hn;omega
     | some q =>
       obtain⟨b,o,C⟩:=q;rcases hx with⟨rfl,hC⟩|⟨rfl,_⟩
       ·refine⟨.pointer (some ⟨b,o+n.toNat*sz+0,none⟩),_,?_,.e k b o C sz _ 0,hK⟩
        simp[Instr.indexAt,bf hu,asIntOf,h0,hn,dO hi,hs,eP,hsz]
       ·simp at hn;omega
    ·simp at hn;omega
 ·exact h.elim
theorem AG{P:Program}{w:World}{M:Nat->Prop}{T f:Nat}{ti:TI}(ht:TIok P T ti){x:AV}{u:Value}(hx:VRel w M x u){K:AV->Prop}(h:fieldAt ti f x K) :
 ∃r av,(Instr.fieldAt T u f).run P w=.ok r w/\VRel w M av r/\K av:=by
 unfold fieldAt at h
 split at h
 ·rename_i off n hf
  have hag:ti.agg=true:=by
   exact Km
  obtain⟨fs,hu,hmap,hfs⟩:=ht.st hag;obtain⟨g,j,hg,ho,hj,hn⟩:=y9 _ _ hmap _ _ hf;have hpos:=(hfs _ (aP hf)).1;simp only[od]at hg;simp only at ho hn hpos
  have hrun:∀b o,(Instr.fieldAt T (.pointer (some ⟨b,o,none⟩)) f).run P w=.ok (.pointer (some ⟨b,o+off,none⟩)) w:=by
   intro b o;simp[Instr.fieldAt,bf hu,hg,Instr.sureAddr,fieldPlace,dO hj,hn,ho,eP];omega
  split at h
  ·cases hx;exact⟨_,_,hrun _ _,.p _ _ _,h⟩
  ·cases hx with
   | e k b o C sz r c =>
     exact⟨_,_,hrun _ _,by rw[eF];exact .e _ _ _ _ _ _ _,h⟩
  ·cases hx with
   | rp row b o cs T' fr hM hb hfit hr =>
     obtain⟨hle,hK⟩:=h;refine⟨_,_,hrun _ _,.rp _ b _ cs T' fr hM hb (by simp only[iW];omega) ?_,hK⟩;intro j d hj;rw[dR]at hj;rw[eF];exact hr _ _ hj
  ·exact h.elim
 ·exact h.elim
theorem Et{P:Program}{w:World}{M:Nat->Prop}{T f:Nat}{ti:TI}(ht:TIok P T ti){x:AV}{u:Value}(hx:VRel w M x u){K:AV->Prop}(h:pj ti f x K) :
 ∃r av,(Instr.field T u f).run P w=.ok r w/\VRel w M av r/\K av:=by
 unfold pj at h
 split at h
 ·rename_i off n b l hf hb
  have hag:ti.agg=true:=by
   exact Km
  obtain⟨fs,hu,hmap,hfs⟩:=ht.st hag;obtain⟨g,j,hg,ho,hj,hn⟩:=y9 _ _ hmap _ _ hf;obtain⟨g',hg',hag'⟩:=ht.fa fs hu f b hb;rw[hg]at hg'
  cases hg'
  simp only[od]at hg;simp only at ho hn
  cases hx with
  | agg l xs hs hl =>
    cases b with
    | true =>
      obtain⟨gs,hgs⟩:=hag';obtain⟨hle,hK⟩:=h;refine⟨.agg (xs.extract off (off+n)),_,?_,.agg _ _ ?_ ?_,hK⟩
      ·simp[Instr.field,bf hu,hg,asAgg,part,p5 hgs,dO hj,hn,ho]
      ·simp;omega
      ·intro i av hi
       rw[cN]at hi
       split at hi
       ·rename_i hlt
        rw[dR]at hi;have:=hl _ _ hi
        have e:(xs.extract off (off+n)).getD i undef=xs.getD (off+i) undef:=by
         simp only[aT];rw[Array.getElem?_extract,ao aa]
        rw[e];exact this
       ·exact absurd hi ab
    | false =>
      obtain⟨d,hd,h1,h2⟩:=hag';simp only[E7,dm]at h
      split at h
      ·rename_i v hv
       have hlt:off<xs.size:=by rw[hs];exact(an.1 hv).1
       refine⟨xs.getD off undef,v,?_,hl _ _ hv,h⟩;simp[Instr.field,bf hu,hg,asAgg,part,pE hd h1 h2,ho,hlt]
      ·exact cA
 ·exact h.elim
theorem Fq{P:Program}{w:World}(op:BinOp)(T:TypeId)(x y:Operand){a b:Value}(ha:plain a=true):(eqGuard op T x y a b).run P w=.ok () w:=by
 unfold eqGuard
 cases a<;>simp[plain]at ha<;>(repeat' split)<;>simp_all
theorem IY{E:Env}(hE:EOk E){w:World}{M:Nat->Prop}{op:BinOp}{T:Nat}{x y:Value}{K:AV->Prop}(h:ig (E.isBool T) op x y K) :
 ∃r av,(binOp op T x y).run E.P w=.ok r w/\VRel w M av r/\K av:=by
 unfold ig at h
 have hB:E.isBool T->E.P.underlying T=some .bool:=by
  intro hb;unfold Env.isBool at hb
  split at hb
  ·rename_i ti hti;exact(hE.1 _ _ hti).boo hb
  ·exact hb.elim
 split at h
 all_goals first
  |exact h.elim
  |(obtain⟨rfl,h⟩:=h;refine⟨_,_,?_,.v _ rfl,h⟩;simp[binOp,Op.intArith,Op.intBits,Op.intCmp,bits];done)
  |(obtain⟨rfl,h⟩:=h;refine⟨_,_,?_,.v _ rfl,h⟩;simp[binOp,Op.intCmp];rfl)
  |(obtain⟨rfl,h0,h⟩:=h;refine⟨_,_,?_,.v _ rfl,h⟩;simp[binOp,Op.intDiv,h0];done)
  |(obtain⟨h0,h1,h⟩:=h;refine⟨_,_,?_,.v _ rfl,h⟩;simp only[binOp];rw[shift_shl _ _ _ _ h0 h1];rfl)
  |(obtain⟨h0,h1,h⟩:=h;refine⟨_,_,?_,.v _ rfl,h⟩;simp only[binOp];rw[shift_shr _ _ _ _ h0 h1];rfl)
  |(obtain⟨hb,h⟩:=h;refine⟨_,_,?_,.v _ rfl,h⟩;exact run_eql_bool _ _ _ _ (hB hb))
  |(obtain⟨hb,h⟩:=h;refine⟨_,_,?_,.v _ rfl,h⟩;exact run_neq_bool _ _ _ _ (hB hb))
  |(refine⟨_,_,?_,.v _ rfl,h⟩;simp[binOp,Op.stringOp];done)
  | (rename_i a b; obtain ⟨hs, h⟩ := h; refine ⟨_, _, ?_, .v _ rfl, h⟩
     simp[binOp,Op.stringOp];omega)
theorem uK{w0:World}{base:Bs}{st:ASt}{a:Act}{w:World}(hR:Rep w0 base st a w)(l:List Operand)(xs:Array Value)(hx:xs=(l.map a.eval).toArray) :
 ∀i av,(l.map st.ev)[i]? = some av->VRel w st.h.M av (xs.getD i undef):=by
 intro i av hi;subst hx;simp only[bW,aR]at hi;obtain⟨x,hx,rfl⟩:=hi;have:(l.map a.eval).toArray.getD i undef=a.eval x:=by simp[hx]
 rw[this];exact VRel.ev hR x
theorem rV{w:World}{M:Nat->Prop}{av:AV}{u:Value}(h:VRel w M av u)(h1:av.cells.all AV.one=true) :
 u.cells.size=av.cells.length/\∀(j:Nat) (a:AV),av.cells[j]? = some a->VRel w M a (u.cells.getD j undef):=by
 cases h with
 |agg l xs hs hl=>exact⟨hs,hl⟩
 |any x=>simp[AV.cells,AV.one]at h1
 |un=>simp[AV.cells,AV.one]at h1
 |is u=>simp[AV.cells,AV.one]at h1
 |tup l xs hs hl=>simp[AV.cells,AV.one]at h1
 |nil=>exact⟨rfl,λj a hj=>by rcases j with _|j<;>simp[AV.cells]at hj;subst hj;exact .nil⟩
 | v u hp =>
   have e:u.cells = #[u]:=by cases u<;>simp[plain]at hp<;>rfl
   rw[e];exact⟨rfl,λj a hj=>by rcases j with _|j<;>simp[AV.cells]at hj;subst hj;exact .v _ hp⟩
 | ro rows x hr =>
   have e:u.cells = #[u]:=by cases hr<;>rfl
   rw[e];exact⟨rfl,λj a hj=>by rcases j with _|j<;>simp[AV.cells]at hj;subst hj;exact .ro _ _ hr⟩
 | sl k H sz off len x hx =>
   have e:u.cells = #[u]:=by
    exact Lg
   rw[e];exact⟨rfl,λj a hj=>by rcases j with _|j<;>simp[AV.cells]at hj;subst hj;exact .sl _ _ _ _ _ _ hx⟩
 | cv u len h =>
   have e:u.cells = #[u]:=by obtain⟨a,c,rfl⟩:=h;rfl
   rw[e];exact⟨rfl,λj a hj=>by rcases j with _|j<;>simp[AV.cells]at hj;subst hj;exact .cv _ _ h⟩
 | ml k H sz len x h =>
   have e:u.cells = #[u]:=by obtain⟨a,c,rfl⟩:=h.slice;rfl
   rw[e];exact⟨rfl,λj a hj=>by rcases j with _|j<;>simp[AV.cells]at hj;subst hj;exact .ml _ _ _ _ _ h⟩
 |p k b c=>exact⟨rfl,λj a hj=>by rcases j with _|j<;>simp[AV.cells]at hj;subst hj;exact .p _ _ _⟩
 |e k b o C sz r c=>exact⟨rfl,λj a hj=>by rcases j with _|j<;>simp[AV.cells]at hj;subst hj;exact .e _ _ _ _ _ _ _⟩
 |rp row b o cs T fr hM hb hfit hr=>exact⟨rfl,λj a hj=>by rcases j with _|j<;>simp[AV.cells]at hj;subst hj;exact .rp _ _ _ _ _ _ hM hb hfit hr⟩
 |clo f l xs hs hl=>exact⟨rfl,λj a hj=>by rcases j with _|j<;>simp[AV.cells]at hj;subst hj;exact .clo _ _ _ hs hl⟩
theorem FB{w:World}{M:Nat->Prop}{av:AV}{u:Value}(h:VRel w M av u)(h1:av.one=true):u.oneCell'=true:=by
 cases h with
 |any x=>simp[AV.one]at h1
 |un=>simp[AV.one]at h1
 |is=>simp[AV.one]at h1
 |tup=>simp[AV.one]at h1
 |agg=>simp[AV.one]at h1
 |v u hp=>exact Bg hp
 |ro rows x hr=>cases hr<;>rfl
 |cv u len h=>obtain⟨a,c,rfl⟩:=h;rfl
 |ml k H sz len x h=>obtain⟨a,c,rfl⟩:=h.slice;rfl
 | sl k H sz off len x hx =>
   exact Lg
 |_=>rfl
theorem lA{α:Type}:∀(l:List α) (c:Nat) (vs:List α),c+vs.length<=l.length->(ix l c vs).length=l.length
 |l,_,[],_=>by cases l<;>simp[ix]
 | [],_,_::_,h=>gQ
 |_::l,0,v::vs,h=>by simp only[ix,cr];rw[lA l 0 vs (by simp at h;omega)]
 |_::l,c+1,v::vs,h=>by simp only[ix,cr];rw[lA l c (v::vs) xK]
theorem p9{α:Type}:∀(l:List α) (c:Nat) (vs:List α),c+vs.length<=l.length->∀j,(ix l c vs)[j]? = if c<=j/\j<c+vs.length then vs[j-c]? else l[j]?
 | l, c, [], _, j => by
   have:¬(c<=j/\j<c+([]:List α).length):=ab;rw[au this];cases l<;>simp[ix]
 | [],_,_::_,h,_=>gQ
 | x :: l, 0, v :: vs, h, j => by
   simp only[ix]
   cases j with
   |zero=>simp
   | succ j =>
     have:=p9 l 0 vs (by simp at h;omega) j;simp only[fZ,this];simp
 | x :: l, c + 1, v :: vs, h, j => by
   simp only[ix]
   cases j with
   |zero=>simp
   | succ j =>
     have:=p9 l c (v::vs) xK j;simp only[fZ,this];have e:j+1-(c+1)=j-c:=aa;rw[e];by_cases hh:c<=j/\j<c+(v::vs).length
     ·rw[ao hh,ao (by simp at hh⊢;omega)]
     ·rw[au hh,au (by simp at hh⊢;omega)]
theorem vn(c:Nat):∀(l:List Value) (k:Nat) (cs:Array Value),c+k+l.length<=cs.size ->
 ((l.zipIdx k).foldl (λ(cs:Array Value) (p:Value×Nat)=>cs.setIfInBounds (c+p.2) p.1) cs).size=cs.size /\
 ∀j,((l.zipIdx k).foldl (λ(cs:Array Value) (p:Value×Nat)=>cs.setIfInBounds (c+p.2) p.1) cs).getD j undef=if c+k<=j/\j<c+k+l.length then l.getD (j-(c+k)) undef else cs.getD j undef
 | [], k, cs, _ => by
   refine⟨rfl,λj=>?_⟩;rw[au ab];rfl
 | x :: l, k, cs, h => by
   simp only[List.zipIdx_cons,pQ];obtain⟨h1,h2⟩:=vn c l (k+1) (cs.setIfInBounds (c+k) x) xK;refine⟨by simpa using h1,λj=>?_⟩;rw[h2 j];by_cases hj:c+(k+1)<=j/\j<c+(k+1)+l.length
   ·rw[ao hj,ao aM]
    have e:j-(c+k)=(j-(c+(k+1)))+1:=aa;rw[e];rfl
   ·rw[au hj]
    by_cases he:j=c+k
    ·subst he
     simp at h;rw[ao ab];simp;omega
    ·rw[au aM]
     simp[Th he]
theorem MW(place:Nat->Option (Nat×Nat))(cells:Array Value)(i:Nat)(v:Value)(rest:List (Nat×Value))(off n:Nat)(hp:place i=some (off,n))(hs:v.cells.size=n)(hf:off+n<=cells.size) :
 Instr.fill place cells ((i,v)::rest)=Instr.fill place (v.cells.zipIdx.foldl (λcs (c,j)=>cs.setIfInBounds (off+j) c) cells) rest:=by
 simp[Instr.fill,hp,hs];intro h;omega
theorem oJ(v:Array Value)(off:Nat)(cells:Array Value) :
 v.zipIdx.foldl (λcs (c,j)=>cs.setIfInBounds (off+j) c) cells=(v.toList.zipIdx 0).foldl (λ(cs:Array Value) (p:Value×Nat)=>cs.setIfInBounds (off+p.2) p.1) cells:=by
 rw[<-Array.foldl_toList];simp
theorem zk{w:World}{M:Nat->Prop}(place:Nat->Option (Nat×Nat))(fields:List (Nat×Nat))(hpl:∀i off n,fields[i]? = some (off,n)->place i=some (off,n)){K:List AV->Prop} :
 ∀(parts:List (Nat×AV)) (vparts:List (Nat×Value)) (acells:List AV) (cells:Array Value),vparts.length=parts.length ->
 (∀(i:Nat) (p:Nat×AV),parts[i]? = some p->∃v,vparts[i]? = some (p.1,v)/\VRel w M p.2 v) ->
 cells.size=acells.length->(∀(j:Nat) (a:AV),acells[j]? = some a->VRel w M a (cells.getD j undef))->nD fields acells parts K ->
 ∃l cs,Instr.fill place cells vparts=some cs/\cs.size=l.length/\(∀(j:Nat) (a:AV),l[j]? = some a->VRel w M a (cs.getD j undef))/\K l
 | [], vparts, acells, cells, hl, _, hs, hc, h => by
   have:vparts=[]:=aA (by simpa using hl);subst this;exact⟨acells,cells,rfl,hs,hc,h⟩
 | (i, av) :: rest, vparts, acells, cells, hl, hp, hs, hc, h => by
   cases vparts with
   |nil=>simp at hl
   | cons q vrest =>
     unfold nD at h
     split at h
     ·rename_i off n hf
      obtain⟨hn,hfit,hone,h⟩:=h;obtain⟨v,hv,hr⟩:=hp 0 _ rfl;simp only[List.getElem?_cons_zero,ez]at hv;subst hv;obtain⟨hcs,hcr⟩:=rV hr hone;have hsize:v.cells.size=n:=by rw[hcs,hn]
      obtain⟨g1,g2⟩:=vn off v.cells.toList 0 cells aM
      have:=zk place fields hpl rest vrest (ix acells off av.cells) (v.cells.zipIdx.foldl (λcs (c,j)=>cs.setIfInBounds (off+j) c) cells) (by simpa using hl)
       (λi p hi=>hp (i+1) p dN) ?_ ?_ h
      ·obtain⟨l,cs,h1,h2⟩:=this
       exact⟨l,cs,by rw[MW place cells i v vrest off n (hpl _ _ _ hf) hsize aa];exact h1,h2⟩
      ·rw[oJ,g1,lA _ _ _ aa,hs]
      ·intro j a hj
       rw[p9 _ _ _ aa]at hj;rw[oJ,g2 j];by_cases hh:off<=j/\j<off+av.cells.length
       ·rw[ao hh]at hj
        rw[ao aM];have:=hcr _ _ hj;exact i4
       ·rw[au hh]at hj
        rw[au aM];exact hc j a hj
     ·exact cA
theorem ET{E:Env}(hE:EOk E){w:World}{M:Nat->Prop}{T:Nat}{parts:List (Nat×AV)}{vparts:Array (Nat×Value)}(hl:vparts.toList.length=parts.length)
 (hp:∀(i:Nat) (p:Nat×AV),parts[i]? = some p->∃v,vparts.toList[i]? = some (p.1,v)/\VRel w M p.2 v) {K:AV->Prop}(h:oa E T parts K) :
 ∃r av,(Instr.build T vparts).run E.P w=.ok r w/\VRel w M av r/\K av:=by
 unfold oa at h
 split at h
 ·rename_i ti hti
  obtain⟨hag,h⟩:=h;have ht:=hE.1 _ _ hti;obtain⟨fs,hu,hmap,-⟩:=ht.st hag;obtain⟨i,z,hi,hs,hb,hz,hzc,-⟩:=ht.info
  have hsz:z.cells.size=ti.zero.length:=by
   have:=oI List.length hzc;exact i4
  obtain⟨l,cs,h1,h2,h3,h4⟩:=zk (w:=w) (M:=M) (ti.fields.toArray[·]?) ti.fields ab parts vparts.toList ti.zero z.cells hl hp hsz (λj a hj=>by
   have e:z.cells.getD j undef=zv a:=by
    exact Dh
   rw[e];rcases ht.zok a (aP hj)with rfl|⟨u,rfl,hp⟩
   ·exact .nil
   ·exact .v _ hp) h
  refine⟨.agg cs,.agg l,run_build w T vparts cs ?_,.agg _ _ h2 h3,h4⟩;unfold Program.built;simp only[hi,hu,hz,hmap];exact h1
 ·exact h.elim
theorem gL{α:Type}(rows:List α)(off len:Nat):cut rows off len=(rows.drop off).take len:=by
 unfold cut
 split
 ·rename_i h
  obtain⟨rfl,rfl⟩:=h;simp
 ·rfl
theorem mq{α:Type}(rows:List α)(off len i:Nat):(cut rows off len)[i]? = if i<len then rows[off+i]? else none:=by
 rw[gL,cN]
 split
 ·rw[dR]
 ·rfl
theorem jI{α:Type}(rows:List α)(off len:Nat)(h:off+len<=rows.length):(cut rows off len).length=len:=by
 rw[gL,Nk,iW];omega
theorem Rd.cut{w:World}{S:Nat->Prop}{b off cap:Nat}{n:Nat}{rows:List (List CD)}{u:Value}{l h sz:Nat}(hu:u=.slice (some ⟨b,off,none⟩) n cap)(hr:Rd w false S u (.s rows))(hlh:l<=h)(hh:h<=rows.length)
 (hrl:∀row∈rows,row.length=sz) (a:Option Addr) (ha:h-l≠0->a=some ⟨b,off+l*sz,none⟩):Rd w false S (.slice a (h-l) (cap-l)) (.s (cut rows l (h-l))):=by
 by_cases hz:h-l=0
 ·rw[hz]
  have:AM.cut rows l 0=[]:=aA (jI _ _ _ aa);rw[this];exact .empty _ _ eC
 ·have ha:=ha hz
  cases hr with
  |empty a' c=>simp at hh;omega
  | slice b' off' cap' sz' cs T fr rows F hcap hmax hsz hS hb hfit hown hF hd hlen hr =>
    cases hu
    subst ha;have hrow:=hlen _ (aj (show l<rows.length from aa));have hrow':=hrl _ (aj (show l<rows.length from aa));have e:sz'=sz:=aa;subst e;have hcl:(AM.cut rows l (h-l)).length=h-l:=jI _ _ _ aa
    have:=Rd.slice (w:=w) (x:=false) (S:=S) b (off+l*sz') (cap-l) sz' cs T fr (AM.cut rows l (h-l)) (λi j c=>F (l+i) j c) aa aa hsz hS hb ?_ eC
     (λi j c hc=>⟨(hF _ _ _ hc).1,eC⟩) eC ?_ ?_
    ·rw[hcl]at this;exact this
    ·have:=aq sz' (show l+(h-l)<=rows.length from aa)
     rw[eN]at this;rw[hcl];omega
    ·intro row hm
     obtain⟨i,hi⟩:=dQ hm;rw[mq]at hi
     split at hi
     ·exact hlen _ (aP hi)
     ·simp at hi
    ·intro i j row d hi hj
     rw[mq]at hi
     split at hi
     ·have:=hr (l+i) j row d hi hj
      have e:off+l*sz'+(i*sz'+j)=off+((l+i)*sz'+j):=xJ;rw[e];exact this
     ·simp at hi
end Go.AM
