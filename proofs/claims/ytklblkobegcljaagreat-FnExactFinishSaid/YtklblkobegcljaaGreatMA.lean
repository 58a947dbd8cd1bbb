import Derived.WalkKit
import Derived.Laws.CopyRow
import Derived.Deep.LoopGhost
import Derived.Deep.Slices
import Derived.IntWalk
import Derived.JoinedOf
import Derived.Laws.Externs
import Derived.Laws.IdiomCopy
import Derived.Lib.AppendZerosOnto
import Derived.Lib.Overlaps
import Derived.Orders
import Derived.ProofKit
import Derived.Shelf.RegionOpenPlain
import Derived.Calls
import Derived.Control
import Derived.Laws.Append
import Derived.Laws.AppendOwn
import Derived.Laws.Entries
import Derived.Laws.Sem
import Derived.Laws.Tables
import Derived.Lib.AppendZeros
theorem ae:type_of% @Go.IntWalk.i64_in:=@Go.IntWalk.i64_in
theorem ai:type_of% @Nat.le_of_ble_eq_true:=@Nat.le_of_ble_eq_true
theorem aj:type_of% @List.getElem?_eq_getElem:=@List.getElem?_eq_getElem
theorem ak:type_of% @List.getElem_mem:=@List.getElem_mem
theorem an:type_of% @if_pos:=@if_pos
theorem ao:type_of% @Nat.mul_le_mul_right:=@Nat.mul_le_mul_right
theorem aq:type_of% @if_neg:=@if_neg
theorem au:type_of% @List.getElem?_eq_some_iff:=@List.getElem?_eq_some_iff
theorem aA:type_of% @List.eq_nil_of_length_eq_zero:=@List.eq_nil_of_length_eq_zero
theorem aB:type_of% @List.take_of_length_le:=@List.take_of_length_le
theorem aC:type_of% @List.mem_cons_of_mem:=@List.mem_cons_of_mem
theorem aH:type_of% @Nat.le_refl:=@Nat.le_refl
theorem aI:type_of% @Bool.and_eq_true:=@Bool.and_eq_true
theorem aJ:type_of% @List.mem_cons_self:=@List.mem_cons_self
theorem aL:type_of% @List.getD_eq_getElem?_getD:=@List.getD_eq_getElem?_getD
theorem aO:type_of% @List.mem_of_getElem?:=@List.mem_of_getElem?
theorem aP:type_of% @List.mem_append:=@List.mem_append
theorem aT:type_of% @Classical.byContradiction:=@Classical.byContradiction
theorem aU:type_of% @Option.map_eq_some_iff:=@Option.map_eq_some_iff
theorem aW:type_of% @Array.getD_eq_getD_getElem?:=@Array.getD_eq_getD_getElem?
theorem aX:type_of% @List.mem_cons:=@List.mem_cons
theorem a8:type_of% @List.mem_of_mem_drop:=@List.mem_of_mem_drop
theorem a9:type_of% @List.getElem?_append_right:=@List.getElem?_append_right
theorem bd:type_of% @List.take_append_getElem:=@List.take_append_getElem
theorem bj:type_of% @Go.run_underlying:=@Go.run_underlying
theorem bm:type_of% @List.drop_eq_nil_of_le:=@List.drop_eq_nil_of_le
theorem br:type_of% @List.mem_of_mem_take:=@List.mem_of_mem_take
theorem bD:type_of% @Nat.succ_mul:=@Nat.succ_mul
theorem bL:type_of% @List.map_cons:=@List.map_cons
theorem bO:type_of% @List.append_nil:=@List.append_nil
theorem bP:type_of% @List.replicate_succ:=@List.replicate_succ
theorem cf:type_of% @decide_eq_true_eq:=@decide_eq_true_eq
theorem cg:type_of% @Nat.lt_of_lt_of_le:=@Nat.lt_of_lt_of_le
theorem ch:type_of% @List.getElem?_map:=@List.getElem?_map
theorem cj:type_of% @List.append_assoc:=@List.append_assoc
theorem cl:type_of% @List.mem_filter:=@List.mem_filter
theorem cm:type_of% @Nat.le_mul_of_pos_right:=@Nat.le_mul_of_pos_right
theorem cq:type_of% @List.getElem?_append_left:=@List.getElem?_append_left
theorem cw:type_of% @List.getElem?_eq_none:=@List.getElem?_eq_none
theorem cz:type_of% @Bool.not_eq_true':=@Bool.not_eq_true'
theorem cA:type_of% @List.getElem?_take:=@List.getElem?_take
theorem cB:type_of% @List.all_eq_true:=@List.all_eq_true
theorem cE:type_of% @List.mem_map:=@List.mem_map
theorem cI:type_of% @List.length_cons:=@List.length_cons
theorem cQ:type_of% @Nat.zero_add:=@Nat.zero_add
theorem cU:type_of% @List.take_length:=@List.take_length
theorem cV:type_of% @Int.toNat_natCast:=@Int.toNat_natCast
theorem cZ:type_of% @Go.Result.andThen_ok:=@Go.Result.andThen_ok
theorem dj:type_of% @List.drop_eq_getElem_cons:=@List.drop_eq_getElem_cons
theorem dn:type_of% @List.cons_append:=@List.cons_append
theorem du:type_of% @if_true:=@if_true
theorem dv:type_of% @if_false:=@if_false
theorem dy:type_of% @Go.setRow_heap:=@Go.setRow_heap
theorem dz:type_of% @Go.Addr.add_lit:=@Go.Addr.add_lit
theorem dA:type_of% @List.getElem?_drop:=@List.getElem?_drop
theorem dE:type_of% @Go.grownCap_le_maxLen:=@Go.grownCap_le_maxLen
theorem dG:type_of% @Array.getElem?_append_left:=@Array.getElem?_append_left
theorem dP:type_of% @Nat.le_trans:=@Nat.le_trans
theorem dU:type_of% @List.map_take:=@List.map_take
theorem dV:type_of% @List.take_append_drop:=@List.take_append_drop
theorem dW:type_of% @List.set_append_right:=@List.set_append_right
theorem en:type_of% @List.getElem?_of_mem:=@List.getElem?_of_mem
theorem ep:type_of% @Nat.min_eq_left:=@Nat.min_eq_left
theorem et:type_of% @Nat.add_assoc:=@Nat.add_assoc
theorem eA:type_of% @List.ext_getElem:=@List.ext_getElem
theorem eN:type_of% @List.length_pos_iff:=@List.length_pos_iff
theorem eO:type_of% @List.getElem_of_mem:=@List.getElem_of_mem
theorem eP:type_of% @Option.some.injEq:=@Option.some.injEq
theorem eQ:type_of% @List.getElem?_set:=@List.getElem?_set
theorem fb:type_of% @List.length_append:=@List.length_append
theorem ff:type_of% @Go.Sem.run_bind:=@Go.Sem.run_bind
theorem fg:type_of% @Nat.add_mul:=@Nat.add_mul
theorem fw:type_of% @List.mem_range:=@List.mem_range
theorem fA:type_of% @Int.tmod_eq_emod_of_nonneg:=@Int.tmod_eq_emod_of_nonneg
theorem fN:type_of% @Go.Sem.run_pure:=@Go.Sem.run_pure
theorem fO:type_of% @Option.some.inj:=@Option.some.inj
theorem fQ:type_of% @Option.map_some:=@Option.map_some
theorem fR:type_of% @List.map_append:=@List.map_append
theorem fS:type_of% @Go.IntWalk.i64_in:=@Go.IntWalk.i64_in
theorem fX:type_of% @List.getElem_append_right:=@List.getElem_append_right
theorem gh:type_of% @Option.bind_some:=@Option.bind_some
theorem gi:type_of% @List.pairwise_cons:=@List.pairwise_cons
theorem gj:type_of% @List.mem_filterMap:=@List.mem_filterMap
theorem gB:type_of% @List.getElem?_cons_succ:=@List.getElem?_cons_succ
theorem gF:type_of% @Bool.or_eq_true:=@Bool.or_eq_true
theorem gT:type_of% @Go.wp_mono:=@Go.wp_mono
theorem ig:type_of% @Nat.lt_or_ge:=@Nat.lt_or_ge
theorem iq:type_of% @List.length_drop:=@List.length_drop
theorem iz:type_of% @List.getElem?_toArray:=@List.getElem?_toArray
theorem iH:type_of% @List.mem_or_eq_of_mem_set:=@List.mem_or_eq_of_mem_set
theorem iM:type_of% @List.nil_append:=@List.nil_append
theorem iN:type_of% @List.length_nil:=@List.length_nil
theorem iU:type_of% @Nat.zero_le:=@Nat.zero_le
theorem iV:type_of% @List.getElem?_modify:=@List.getElem?_modify
theorem jg:type_of% @Go.calls_of_wp:=@Go.calls_of_wp
theorem jz:type_of% @List.getElem_set:=@List.getElem_set
theorem jA:type_of% @List.drop_zero:=@List.drop_zero
theorem jO:type_of% @Nat.sub_zero:=@Nat.sub_zero
theorem jP:type_of% @List.map_nil:=@List.map_nil
theorem lH:type_of% @Option.getD_some:=@Option.getD_some
theorem lU:type_of% @Go.grownCap_ge:=@Go.grownCap_ge
theorem me:type_of% @List.take_succ_cons:=@List.take_succ_cons
theorem mw:type_of% @Option.isSome_iff_exists:=@Option.isSome_iff_exists
theorem mz:type_of% @List.map_drop:=@List.map_drop
theorem mF:type_of% @Go.run_firstCells_some:=@Go.run_firstCells_some
theorem mJ:type_of% @beq_iff_eq:=@beq_iff_eq
theorem nP:type_of% @congrArg:=@congrArg
theorem nR:type_of% @Nat.eq_zero_of_not_pos:=@Nat.eq_zero_of_not_pos
theorem nS:type_of% @Nat.add_zero:=@Nat.add_zero
theorem nT:type_of% @List.length_pos_of_mem:=@List.length_pos_of_mem
theorem nU:type_of% @Int.zero_sub:=@Int.zero_sub
theorem oN:type_of% @List.eraseIdx_eq_take_drop_succ:=@List.eraseIdx_eq_take_drop_succ
theorem pb:type_of% @List.contains_iff_mem:=@List.contains_iff_mem
theorem pd:type_of% @Array.getElem?_toList:=@Array.getElem?_toList
theorem pe:type_of% @Nat.mod_eq_of_lt:=@Nat.mod_eq_of_lt
theorem pf:type_of% @Nat.le_of_not_lt:=@Nat.le_of_not_lt
theorem pg:type_of% @List.getElem_map:=@List.getElem_map
theorem pj:type_of% @Array.eq_empty_of_size_eq_zero:=@Array.eq_empty_of_size_eq_zero
theorem qW:type_of% @List.nodup_cons:=@List.nodup_cons
theorem qX:type_of% @List.length_map:=@List.length_map
theorem qY:type_of% @List.foldl_cons:=@List.foldl_cons
theorem ra:type_of% @List.mem_map_of_mem:=@List.mem_map_of_mem
theorem sf:type_of% @Go.run_append_grow:=@Go.run_append_grow
theorem tD:type_of% @Nat.add_sub_cancel:=@Nat.add_sub_cancel
theorem tE:type_of% @Bool.false_eq_true:=@Bool.false_eq_true
theorem tF:type_of% @Array.all_eq_true':=@Array.all_eq_true'
theorem tJ:type_of% @Go.setRow_other:=@Go.setRow_other
theorem uj:type_of% @List.pairwise_iff_getElem:=@List.pairwise_iff_getElem
theorem uk:type_of% @Array.mapM_eq_mapM_toList:=@Array.mapM_eq_mapM_toList
theorem uR:type_of% @Go.growslice_fits:=@Go.growslice_fits
theorem uS:type_of% @Nat.sub_mul:=@Nat.sub_mul
theorem uT:type_of% @List.ext_getElem?:=@List.ext_getElem?
theorem uU:type_of% @List.getElem_append_left:=@List.getElem_append_left
theorem wk:type_of% @Go.Lib.run_append_grow_zeros:=@Go.Lib.run_append_grow_zeros
theorem wm:type_of% @Go.run_storeCells_at:=@Go.run_storeCells_at
theorem yi:type_of% @eq_iff_iff:=@eq_iff_iff
theorem yj:type_of% @List.map_set:=@List.map_set
theorem yk:type_of% @List.getElem_cons_succ:=@List.getElem_cons_succ
theorem ym:type_of% @List.drop_of_length_le:=@List.drop_of_length_le
theorem zC:type_of% @Nat.div_lt_iff_lt_mul:=@Nat.div_lt_iff_lt_mul
theorem zD:type_of% @List.length_filter_le:=@List.length_filter_le
theorem BC:type_of% @List.length_filter_lt_length_iff_exists:=@List.length_filter_lt_length_iff_exists
theorem BE:type_of% @Go.Lib.run_overlaps_apart:=@Go.Lib.run_overlaps_apart
theorem BF:type_of% @List.mem_of_getLast?:=@List.mem_of_getLast?
theorem Cj:type_of% @Go.Lib.wpList_append_run:=@Go.Lib.wpList_append_run
theorem Ds:type_of% @List.map_congr_left:=@List.map_congr_left
theorem Dt:type_of% @List.flatMap_append:=@List.flatMap_append
theorem Du:type_of% @List.append_toArray:=@List.append_toArray
theorem Dv:type_of% @Array.length_toList:=@Array.length_toList
theorem GT:type_of% @Int.add_assoc:=@Int.add_assoc
theorem GU:type_of% @Nat.mod_lt:=@Nat.mod_lt
theorem GV:type_of% @List.set_cons_zero:=@List.set_cons_zero
theorem GW:type_of% @List.set_cons_succ:=@List.set_cons_succ
theorem GX:type_of% @Array.any_eq_true':=@Array.any_eq_true'
theorem I9:type_of% @Go.run_callFunc_extern:=@Go.run_callFunc_extern
theorem Ja:type_of% @List.findIdx?_eq_some_iff_getElem:=@List.findIdx?_eq_some_iff_getElem
theorem Jb:type_of% @eq_true:=@eq_true
theorem Jc:type_of% @Nat.mul_comm:=@Nat.mul_comm
theorem PA:type_of% @forall_eq_or_imp:=@forall_eq_or_imp
theorem PB:type_of% @List.length_take:=@List.length_take
theorem PC:type_of% @List.filter_cons:=@List.filter_cons
theorem RE:type_of% @Nat.div_add_mod:=@Nat.div_add_mod
theorem RF:type_of% @List.foldr_cons:=@List.foldr_cons
theorem VB:type_of% @Ne.symm:=@Ne.symm
theorem VC:type_of% @Array.getElem?_append_right:=@Array.getElem?_append_right
theorem VE:type_of% @List.tail_cons:=@List.tail_cons
theorem VF:type_of% @List.mapM_cons:=@List.mapM_cons
theorem X9:type_of% @List.mem_of_find?_eq_some:=@List.mem_of_find?_eq_some
theorem Ya:type_of% @List.findIdx?_eq_none_iff:=@List.findIdx?_eq_none_iff
theorem Yb:type_of% @Array.getElem?_eq_getElem:=@Array.getElem?_eq_getElem
theorem Yw:type_of% @List.drop_one:=@List.drop_one
theorem acl:type_of% @Nat.le_of_lt:=@Nat.le_of_lt
theorem OH{p:Prop}(h:p:=by
 refine ag.pure (Ff d hl' base o ho) (by simp[Doc.row]) ?_;have hvn:=w4 d base o;generalize eY d base o=R at e hvn⊢;obtain⟨v,code⟩:=R;simp only at e hvn⊢;simp;intro H1;by_cases c7:code=0
 rotate_left
 ·simp only[c7,if_false]at e
  simp[c7,e,Doc.res,Doc.zero]
 simp only[c7,if_true]at e;simp[c7];refine ag.pure (cO d) (by simp[Doc.row]) ?_;by_cases c8:999999000<=aD d
 ·simp only[c8,if_true]at e
  simp[c8,e,Doc.res,Doc.zero]
 simp only[c8,if_false]at e;simp[c8];refine ag.pure (wK d hl') (by simp[Doc.row]) ?_;simp[Doc.res];intro H2 H3 H4 b17 b87;refine⟨by omega,λH5=>?_⟩;refine ag.pure (cO ⟨d.name,d.fr,d.text,d.list++[⟨client,seq,v⟩],d.seen⟩) (by simp[Doc.row,Entry.row]) ?_
 have hr:aD ⟨d.name,d.fr,d.text,d.list++[⟨client,seq,v⟩],d.seen⟩=aD d+1:=by
  unfold aD;simp only[List.length_append,List.length_cons,List.length_nil];have h1:=hh.1;unfold aD at h1;rw[h1,Go.IntWalk.i64_in _ (by omega)];omega
 have hrr:=hr;rw[hrr];simp;intro b93;obtain⟨sp,hspd⟩:∃sp:Nat->List Seen×Bool,sp=λi=>tR client seq (aD d+1) (d.seen.take i):=⟨_,rfl⟩
 have hs0:sp 0=([],false):=by rw[hspd];simp[tR]
 have hsuc:∀i,∀h:i<d.seen.length,sp (i+1)=jk client seq (aD d+1) (sp i) d.seen[i]:=λi h=>by rw[hspd];exact Cs h
 have hspl:∀i,i<=d.seen.length->(sp i).1.length<=2*i:=λi h=>by rw[hspd];exact hsl i h
 have hall:xv client seq (aD d+1) (sp d.seen.length)=df client seq (aD d+1) d.seen:=by rw[hspd];simp only[List.take_length];exact hasc
 clear hspd
 refine aE eok (λx:Nat×Hd=>x.1<=d.seen.length) (λx=>⟨162,0,[(97,.v (.int .i64 x.1)),(96,.v (.int .i64 d.seen.length)),(95,.sl 1300 H4 3 0 d.seen.length),(20,.v (.bool (sp x.1).2)),(19,.sl 1488 x.2 3 0 (sp x.1).1.length),(1,.v (.int .i64 client)),(2,.v (.int .i64 seq)),(18,.v (.int .i64 (aD d+1))),(17,.p 272 b17 0),(10,.p 160 b10 0)],
  [(272, .vars b17 119 [.v (.string d.name), .v (.int .i64 d.fr), .sl 1298 H2 1 0 d.text.length, .sl 1299 H5 3 0 (d.list.length+1), .sl 1300 H4 3 0 d.seen.length]),
   (160,.vars b10 119 [.v (.string ⟨#[]⟩),.v (.int .i64 0),.nil,.nil,.nil]),
   (1298,.rows H2 1 (d.text.map aG) true),(1299,.rows H5 3 ((d.list++([⟨client,seq,v⟩]:List Entry)).map Entry.row) true),(1300,.rows H4 3 (d.seen.map Seen.row) true),(1488,.rows x.2 3 ((sp x.1).1.map Seen.row) true)]⟩) (λx=>d.seen.length-x.1) (0,some (b93,0,0)) (by simp) (by simp[Entry.row,hs0]) (λx hi=>Ent.refl ?_)
 obtain⟨i,H⟩:=x;simp only at hi⊢;have hLl:=hspl i hi;by_cases hlt:i<d.seen.length
 ·have hsu:=hsuc i hlt
  generalize sp i=st at hLl hsu⊢;obtain⟨L,done⟩:=st;simp only at hLl⊢;obtain⟨x,hx⟩:∃x,d.seen[i]=x:=⟨_,rfl⟩;rw[hx]at hsu;simp[hlt,hx,Seen.row];intro b22;unfold jk at hsu;by_cases k1:x.client=client
  ·simp only[k1,if_true]at hsu
   simp[k1];exact Ent.refl ⟨i+1,by omega,by omega,H,by simp[Entry.row,hsu];exact aR (by omega)⟩
  simp only[k1,if_false]at hsu;simp[k1];by_cases k2:done=false/\client<x.client
  ·obtain⟨rfl,k2⟩:=k2
   simp only[k2,and_self,if_true]at hsu;simp[k2];intro b118;refine⟨by omega,λH6 b122=>⟨by omega,λH7=>Ent.refl ⟨i+1,by omega,by omega,H7,?_⟩⟩⟩;simp[Seen.row,Entry.row,hsu];exact aR (by omega)
  ·simp only[k2,if_false]at hsu
   have k3:done=true\/done=false/\¬client<x.client:=by
    cases done with
    |true=>exact .inl rfl
    |false=>exact .inr ⟨rfl,λh=>k2 ⟨rfl,h⟩⟩
   rcases k3 with rfl|⟨rfl,k3⟩
   ·simp
    intro b122;refine⟨by omega,λH7=>Ent.refl ⟨i+1,by omega,by omega,H7,?_⟩⟩;simp[Seen.row,Entry.row,hsu];exact aR (by omega)
   ·simp[k3]
    intro b122;refine⟨by omega,λH7=>Ent.refl ⟨i+1,by omega,by omega,H7,?_⟩⟩;simp[Seen.row,Entry.row,hsu];exact aR (by omega)
 ·obtain rfl:i=d.seen.length:=by omega
  generalize sp d.seen.length=st at hLl hall⊢;obtain⟨L,done⟩:=st;simp only at hLl⊢;unfold xv at hall
  cases done with
  | true =>
    simp only[if_true]at hall;simp;by_cases c9:d.list.length<8
    ·have c9':¬8<(d.list.length:Int)+1:=by omega
     simp[c9',e,cX,c9,<-hall,Entry.row,Seen.row];exact iQ
    ·have hpd:cX d ⟨client,seq,v⟩=⟨d.name,d.fr+1,(apply ((d.list++([⟨client,seq,v⟩]:List Entry))[0]'(by simp)).o d.text).1,(d.list++([⟨client,seq,v⟩]:List Entry)).drop 1,df client seq (aD d+1) d.seen⟩:=by unfold cX;rw[if_neg c9]
     obtain⟨e0,l',hd⟩:∃e0 l',d.list=e0::l':=by
      cases h:d.list with
      |nil=>rw[h]at c9;simp at c9
      |cons a l=>exact⟨a,l,rfl⟩
     have hm0:nL bc e0.o<=2^40:=by
      have:=gA n1 (a:=e0) (by rw[hd];simp);unfold aZ at this;omega
     have hll:d.list.length=l'.length+1:=by rw[hd];simp
     have c9':8<(l'.length:Int)+1+1:=by omega
     have c90:0<(l'.length:Int)+1+1:=by omega
     have ef:Go.IntKind.i64.wrap (d.fr+1)=d.fr+1:=Go.IntWalk.i64_in _ (by omega);have hpd2:cX d ⟨client,seq,v⟩=⟨d.name,d.fr+1,(apply e0.o d.text).1,l'++([⟨client,seq,v⟩]:List Entry),df client seq (aD d+1) d.seen⟩:=by rw[hpd];simp[hd]
     simp[c9',hd,Entry.row];refine drw eok mix [0,1,2,3,4,5,6,11] [7,8,9,10,12] (.c 8 7 10 245 (.c 8 8 0 245 (.c 8 9 0 245 (.c 8 10 0 245 (.c 8 12 245 0 (.l 8 0) .s) .s) .s) .s) .s) ?_;simp[c90]
     try intros
     refine ag.pure (mf e0.o d.text hm0 (by omega)) (by simp) ?_;simp
     try intros
     simp[ef];have hlen1:1+(l'.length+1)<=l'.length+1+1:=by omega
     simp[e,hpd2,<-hall,Entry.row,cut,hlen1];exact⟨iQ,(List.take_of_length_le (by simp)).symm⟩
  | false =>
    simp only[Bool.false_eq_true,if_false]at hall;simp;intro b132;refine⟨by omega,λH6=>?_⟩;by_cases c9:d.list.length<8
    ·have c9':¬8<(d.list.length:Int)+1:=by omega
     simp[c9',e,cX,c9,<-hall,Entry.row,Seen.row];exact⟨iQ,Ad⟩
    ·have hpd:cX d ⟨client,seq,v⟩=⟨d.name,d.fr+1,(apply ((d.list++([⟨client,seq,v⟩]:List Entry))[0]'(by simp)).o d.text).1,(d.list++([⟨client,seq,v⟩]:List Entry)).drop 1,df client seq (aD d+1) d.seen⟩:=by unfold cX;rw[if_neg c9]
     obtain⟨e0,l',hd⟩:∃e0 l',d.list=e0::l':=by
      cases h:d.list with
      |nil=>rw[h]at c9;simp at c9
      |cons a l=>exact⟨a,l,rfl⟩
     have hm0:nL bc e0.o<=2^40:=by
      have:=gA n1 (a:=e0) (by rw[hd];simp);unfold aZ at this;omega
     have hll:d.list.length=l'.length+1:=by rw[hd];simp
     have c9':8<(l'.length:Int)+1+1:=by omega
     have c90:0<(l'.length:Int)+1+1:=by omega
     have ef:Go.IntKind.i64.wrap (d.fr+1)=d.fr+1:=Go.IntWalk.i64_in _ (by omega);have hpd2:cX d ⟨client,seq,v⟩=⟨d.name,d.fr+1,(apply e0.o d.text).1,l'++([⟨client,seq,v⟩]:List Entry),df client seq (aD d+1) d.seen⟩:=by rw[hpd];simp[hd]
     simp[c9',hd,Entry.row];refine drw eok mix [0,1,2,3,4,5,6,11] [7,8,9,10,12] (.c 8 7 10 245 (.c 8 8 0 245 (.c 8 9 0 245 (.c 8 10 0 245 (.c 8 12 245 0 (.l 8 0) .s) .s) .s) .s) .s) ?_;simp[c90]
     try intros
     refine ag.pure (mf e0.o d.text hm0 (by omega)) (by simp) ?_;simp
     try intros
     simp[ef];have hlen1:1+(l'.length+1)<=l'.length+1+1:=by omega
     simp[e,hpd2,<-hall,Seen.row,Entry.row,cut,hlen1];exact⟨iQ,(List.take_of_length_le (by simp)).symm,Ad⟩):p:=h
theorem E8{p:Prop}(h:p:=by
 simp;refine inl aw Tryz.func190 20000 (λw1 F=>?_);simp;intro g1 g2 g3;by_cases k1:c.kind=1
 ·have h:cW 1:=by unfold cW;omega
  have hu:eR c=⟨1,c.doc,0,0,0,[],c.text⟩:=by simp[eR,k1,h]
  simp[k1];refine ag.pure (eC 1) (by simp) ?_;simp[h];refine ag.pure (ft c ⟨1,c.doc,0,0,0,[],c.text⟩ (by omega)) (by simp[Call.row,k1]) ?_;rw[fin _ hu];simp
 by_cases k2:c.kind=2
 ·have h:cW 2:=by unfold cW;omega
  have hu:eR c=⟨2,c.doc,c.client,c.seq,c.n,c.o,[]⟩:=by simp[eR,k2,h]
  simp[k2];refine ag.pure (eC 2) (by simp) ?_;simp[h];refine drw eok mix [0,1,2,3,4,5,6,7,8,10,12,14] [9,11,13,15] (.c 12 9 3080 1015 (.c 12 11 772 243 (.c 12 13 194 49 (.c 12 15 49 0 (.l 12 0) .s) .s) .s) .s) ?_;simp
  try intros
  refine ag.pure (ft c ⟨2,c.doc,c.client,c.seq,c.n,c.o,[]⟩ (by omega)) (by simp[Call.row,k2]) ?_;rw[fin _ hu];simp
 by_cases k3:c.kind=3
 ·have h:cW 3:=by unfold cW;omega
  have hu:eR c=⟨3,c.doc,0,0,c.n,[],[]⟩:=by simp[eR,k3,h]
  simp[k3];refine ag.pure (eC 3) (by simp) ?_;simp[h];refine ag.pure (ft c ⟨3,c.doc,0,0,c.n,[],[]⟩ (by omega)) (by simp[Call.row,k3]) ?_;rw[fin _ hu];simp
 by_cases k4:c.kind=4
 ·have h:cW 4:=by unfold cW;omega
  have hu:eR c=⟨4,c.doc,0,0,0,[],[]⟩:=by simp[eR,k4,h]
  simp[k4];refine ag.pure (eC 4) (by simp) ?_;simp[h];refine ag.pure (ft c ⟨4,c.doc,0,0,0,[],[]⟩ (by omega)) (by simp[Call.row,k4]) ?_;rw[fin _ hu];simp
 by_cases k5:c.kind=5
 ·have h:cW 5:=by unfold cW;omega
  have hu:eR c=⟨5,c.doc,0,0,c.n,[],[]⟩:=by simp[eR,k5,h]
  simp[k5];refine ag.pure (eC 5) (by simp) ?_;simp[h];refine ag.pure (ft c ⟨5,c.doc,0,0,c.n,[],[]⟩ (by omega)) (by simp[Call.row,k5]) ?_;rw[fin _ hu];simp
 by_cases k6:c.kind=6
 ·have h:¬cW 6:=by unfold cW;omega
  have hu:eR c=⟨6,⟨#[]⟩,c.client,0,c.n,[],[]⟩:=by simp[eR,k6,h]
  simp[k6];refine ag.pure (eC 6) (by simp) ?_;simp[az h];refine drw eok mix [0,1,2,3,4,6] [5,7] (.c 6 5 50 13 (.c 6 7 13 0 (.l 6 0) .s) .s) ?_;simp
  try intros
  refine ag.pure (ft c ⟨6,⟨#[]⟩,c.client,0,c.n,[],[]⟩ (by omega)) (by simp[Call.row,k6]) ?_;rw[fin _ hu];simp
 by_cases k7:c.kind=7
 ·have h:¬cW 7:=by unfold cW;omega
  have hu:eR c=⟨7,⟨#[]⟩,c.client,0,0,[],[]⟩:=by simp[eR,k7,h]
  simp[k7];refine ag.pure (eC 7) (by simp) ?_;simp[az h];refine ag.pure (ft c ⟨7,⟨#[]⟩,c.client,0,0,[],[]⟩ (by omega)) (by simp[Call.row,k7]) ?_;rw[fin _ hu];simp
 have k8:c.kind=8:=by omega
 have h:¬cW 8:=by unfold cW;omega
 have hu:eR c=⟨8,⟨#[]⟩,0,0,0,[],[]⟩:=by simp[eR,k8,h]
 simp[k8];refine ag.pure (eC 8) (by simp) ?_;simp[az h];refine ag.pure (ft c ⟨8,⟨#[]⟩,0,0,0,[],[]⟩ (by omega)) (by simp[Call.row,k8]) ?_;rw[fin _ hu];simp):p:=h
theorem mS{p:Prop}(h:p:=by
 by_cases q1:t.c.kind=2
 ·cases q2:w.h.shut with
  | true =>
    have hq:q0:=by rw[hq0];exact .inr (.inl q2)
    refine aY.quiet eok mix (by kernel_rfl) ?_;simp[hk,ht,Task.row,q1,hq]
  | false =>
    have hq:q0↔bE w.h.docs t.c.doc<0:=by rw[hq0,q1,q2];simp
    refine aY.quiet eok mix (by kernel_rfl) ?_;simp[hk,ht,Task.row,q1];refine⟨_,_,hdoc,by simp[Hub.row,q2],?_⟩;simp[hq]
 ·have hq:q0:=by rw[hq0];exact .inl q1
  refine aY.quiet eok mix (by kernel_rfl) ?_;simp[hk,ht,Task.row,q1,hq]):p:=h
theorem zr{p:Prop}(h:p:=by
 refine drw eok mix [0,1,2,3,4,5,6,7,8,9,10,11] [12,13,14,15,16,17,18,19] (.c 12 12 257 3838 (.c 12 13 0 3838 (.c 12 14 0 3838 (.c 12 15 0 3838 (.c 12 16 0 3838 (.c 12 17 0 3838 (.c 12 18 3838 0 (.c 12 19 0 0 (.l 12 0) .s) .s) .s) (.c 12 17 0 3838 (.c 12 16 0 3838 (.c 12 18 3838 0 (.c 12 19 0 0 (.l 12 0) .s) .s) .s) .s)) .s) .s) .s) (.c 12 16 0 4095 (.c 12 12 257 3838 (.c 12 13 0 3838 (.c 12 14 0 3838 (.c 12 15 0 3838 (.c 12 17 0 3838 (.c 12 18 3838 0 (.c 12 19 0 0 (.l 12 0) .s) .s) .s) .s) .s) .s) (.c 12 17 0 4095 (.c 12 12 257 3838 (.c 12 13 0 3838 (.c 12 14 0 3838 (.c 12 15 0 3838 (.c 12 18 3838 0 (.c 12 19 0 0 (.l 12 0) .s) .s) .s) .s) .s) .s) .s)) (.c 12 17 0 4095 (.c 12 12 257 3838 (.c 12 13 0 3838 (.c 12 14 0 3838 (.c 12 15 0 3838 (.c 12 16 0 3838 (.c 12 18 3838 0 (.c 12 19 0 0 (.l 12 0) .s) .s) .s) .s) .s) .s) (.c 12 16 0 4095 (.c 12 12 257 3838 (.c 12 13 0 3838 (.c 12 14 0 3838 (.c 12 15 0 3838 (.c 12 18 3838 0 (.c 12 19 0 0 (.l 12 0) .s) .s) .s) .s) .s) .s) .s)) .s))) ?_
 simp[hk,ht,Task.row]
 try intros
 repeat' first
  |(refine ag.pure (hdo) (by simp[Hub.row,Call.row]) ?_;simp[Hub.res,Answer.res];try intros)
  |(rw[Trc];refine⟨?_,?_⟩<;>(try simp[hk,ht,Task.row])<;>try intros)
 all_goals
  exact⟨_,_,_,_,_,_,⟨rfl,rfl⟩,⟨rfl,rfl,rfl⟩,⟨rfl,rfl,rfl⟩,rfl,rfl,rfl,rfl⟩):p:=h
theorem OG{p:Prop}(h:p:=by
 have hnn:¬((dZ picks n (cL w):Nat):Int)<0:=by omega
 try simp[hnn]
 generalize dZ picks n (cL w)=p at hpl yT ys x5;by_cases ha:p<(bn w).length
 ·simp[ha]
  obtain⟨k,hk,hke,hky⟩:=mc ha;have ey:bk w p=(eU w k).1:=by unfold bk;rw[List.getElem?_eq_getElem ha];simp only[hke]
  have hc:=uv w hwn k;rw[hky,<-ey]at hc;generalize bk w p=y at yT ys x5 hc;by_cases hmy:cL y=0
  ·skip
   refine drw eok mix [0,1,2,3,4] [5,6,7,8,9] (.c 5 5 17 14 (.c 5 6 0 14 (.c 5 7 0 14 (.c 5 8 0 14 (.c 5 9 14 0 (.l 5 0) .s) .s) .s) .s) .s) ?_;simp[ha,hke]
   try intros
   refine ag.pure hc (by simp[Wld.row]) ?_;simp[Wld.res]
   try intros
   rename_i K1 K2 K3 K4 K5
   refine Ent.refl ⟨y,n+1,.pick K1 K2 K3 K4 K5,⟨yT,by omega,by omega,by omega,x5,.inr ⟨by simp,hmy⟩⟩,by omega,?_⟩;simp[wn]
  ·skip
   refine drw eok mix [0,1,2,3,4] [5,6,7,8,9] (.c 5 5 17 14 (.c 5 6 0 14 (.c 5 7 0 14 (.c 5 8 0 14 (.c 5 9 14 0 (.l 5 0) .s) .s) .s) .s) .s) ?_;simp[ha,hke]
   try intros
   refine ag.ro hc (by simp[Wld.row]) ?_;simp[Wld.res]
   try intros
   refine Ent.refl ⟨y,n+1,.ro,⟨yT,by omega,by omega,by omega,x5,.inl ⟨rfl,hmy⟩⟩,by omega,?_⟩;simp[wn]
 have hs:p-(bn w).length<(ba w).length:=by unfold cL at hpl;omega
 have wsub:Go.IntKind.i64.wrap (((p:Nat):Int)-((bn w).length:Int))=((p-(bn w).length:Nat):Int):=by rw[Go.IntWalk.i64_in _ (by omega)];omega
 have ey:bk w p=(ia w (ba w)[p-(bn w).length]).1:=by unfold bk;rw[List.getElem?_eq_none (by omega),List.getElem?_eq_getElem hs]
 generalize p-(bn w).length=jj at hs wsub ey;have hc:=xu w hwn (ba w)[jj];rw[<-ey]at hc;generalize bk w p=y at yT ys x5 hc
 try simp only[Int.zero_sub]at wsub
 simp[ha];by_cases hmy:cL y=0
 ·skip
  refine drw eok mix [0,1,2,3,4,5,6,7] [8,9,10,11,12] (.c 8 8 129 126 (.c 8 9 0 126 (.c 8 10 0 126 (.c 8 11 0 126 (.c 8 12 126 0 (.l 8 0) .s) .s) .s) .s) .s) ?_;simp[hs,wsub,vk]
  try intros
  refine ag.pure hc (by simp[Wld.row]) ?_;simp[Wld.res]
  try intros
  rename_i K1 K2 K3 K4 K5
  refine Ent.refl ⟨y,n+1,.serve K1 K2 K3 K4 K5,⟨yT,by omega,by omega,by omega,x5,.inr ⟨by simp,hmy⟩⟩,by omega,?_⟩;simp[wn]
 ·skip
  refine drw eok mix [0,1,2,3,4,5,6,7] [8,9,10,11,12] (.c 8 8 129 126 (.c 8 9 0 126 (.c 8 10 0 126 (.c 8 11 0 126 (.c 8 12 126 0 (.l 8 0) .s) .s) .s) .s) .s) ?_;simp[hs,wsub,vk]
  try intros
  refine ag.ro hc (by simp[Wld.row]) ?_;simp[Wld.res]
  try intros
  refine Ent.refl ⟨y,n+1,.ro,⟨yT,by omega,by omega,by omega,x5,.inl ⟨rfl,hmy⟩⟩,by omega,?_⟩;simp[wn]):p:=h
theorem OF{p:Prop}(h:p:=by
 refine Br.mk (λh1=>?_) (λh1=>?_)
 ·simp
  exact⟨i+1,⟨by omega,sW hlt hlt' hi.2 (JJ h1)⟩,by omega,aR (by omega)⟩
 ·simp[jx]
  exact CO hlt hlt' (OV h1)):p:=h
theorem OE{p:Prop}(h:p:=by
 have hblk:∀k b,(st'.h.get k).blk=some b->(st.h.get k).blk=some b:=by
  intro k b hb;have:=hob k
  revert hb this
  cases st'.h.get k with
  |dead=>intro hb;simp[AObj.blk]at hb
  | vars b' T cells =>
    intro hb hl;obtain⟨cells',he,-⟩:=fH.vars hl;rw[he];exact hb
  | rows Hd sz rows own =>
    intro hb hl;rcases hl with hl|⟨-,rfl,-⟩
    ·rw[hl];exact hb
    ·simp[AObj.blk]at hb
  |lent Hd sz rows=>intro hb;simp[AObj.blk]at hb
  |part Hd sz rows lo=>intro hb hl;rw[show st.h.get k=_ from hl];exact hb
 have hM:∀c,st'.h.M c->st.h.M c:=λc ⟨k,hk⟩=>⟨k,hblk k c hk⟩
 have t:Tr st.h.M w st'.h.M w:=⟨Nat.le_refl _,λ_ _ _=>rfl,λb _ hb=>hM b hb⟩;refine⟨hR.dfr,hR.size.trans hn,λi=>?_,⟨E,λk=>?_,λk k' b hk hk'=>H.inj _ _ b (hblk k b hk) (hblk k' b hk'),λk b hk=>H.low k b (hblk k b hk),H.elow,H.einj,λk c hc hM'=>H.em k c hc (hM c hM')⟩,hR.below,hR.base_le⟩
 ·rcases Uf (t:=st'.t) (i:=i)with h|h
  ·rw[h];exact .any _
  ·exact((hR.tmp i).tr t).le (ht _ h)
 ·have h1:=(H.obj k).tr t (λ_ _=>rfl) (E':=E k) (λc hc _=>hc)
  have h2:=hob k
  revert h1 h2
  generalize st.h.get k=o
  cases st'.h.get k with
  |dead=>intro _ _;trivial
  | vars b T cells =>
    intro h1 h2;obtain⟨cells',rfl,hl⟩:=fH.vars h2;obtain⟨cs,g1,g2,g3⟩:=h1;obtain⟨g4,g5⟩:=ALe.get _ _ hl;refine⟨cs,g1,by omega,λj av hj=>?_⟩;obtain⟨av',hj',hle⟩:=g5 j av hj;exact(g3 j av' hj').le hle
  | rows Hd sz rows own =>
    intro h1 h2;rcases h2 with rfl|⟨rfl,rfl,rfl⟩
    ·exact h1
    ·rfl
  |lent Hd sz rows=>intro h1 h2;rw[show o=_ from h2]at h1;exact h1
  |part Hd sz rows lo=>intro h1 h2;rw[show o=_ from h2]at h1;exact h1):p:=h
theorem E7{p:Prop}(h:p:=by
 refine drw eok mix [0,1,2,3,4,5,6,7] [8,9,10,11,12] (.c 8 8 129 126 (.c 8 9 0 126 (.c 8 10 0 126 (.c 8 11 0 126 (.c 8 12 126 0 (.l 8 0) .s) .s) .s) .s) .s) ?_;simp[hs,wsub,vk]
 try intros
 refine ag.pure hc (by simp[Wld.row]) ?_;simp[Wld.res]
 try intros
 rename_i K1 K2 K3 K4 K5
 refine Ent.refl ⟨y,n+1,.serve K1 K2 K3 K4 K5,⟨yT,by omega,by omega,by omega,x5,.inr ⟨by simp,hmy⟩⟩,by omega,?_⟩;simp[wn]):p:=h
theorem E6{p:Prop}(h:p:=by
 simp only at hd hat;simp[k];refine ag.pure hd (by simp[Hub.row]) ?_;simp[Hub.res];intros;by_cases z:code=0
 ·rw[if_pos z]at hat
  simp[z];refine drw eok mix [0,1] [2,3] (.c 2 2 2 1 (.c 2 3 1 0 (.l 2 0) .s) .s) ?_;simp
  try intros
  rw[hat];simp[Answer.res]
 ·rw[if_neg z]at hat
  simp[z];refine drw eok mix [0,2,3,4] [1,5,6] (.c 4 1 8 7 (.c 4 5 0 7 (.c 4 6 7 0 (.l 4 0) .s) .s) .s) ?_;simp
  try intros
  refine ag.pure (eI h (by omega)) (by simp[Hub.row]) ?_;simp[Hub.res]
  try intros
  rw[hat];simp[Answer.res,eV]):p:=h
theorem E5{p:Prop}(h:p:=by
 refine drw eok mix [0,1,2,3,4] [5,6,7,8,9] (.c 5 5 17 14 (.c 5 6 0 14 (.c 5 7 0 14 (.c 5 8 0 14 (.c 5 9 14 0 (.l 5 0) .s) .s) .s) .s) .s) ?_;simp[ha,hke]
 try intros
 refine ag.pure hc (by simp[Wld.row]) ?_;simp[Wld.res]
 try intros
 rename_i K1 K2 K3 K4 K5
 refine Ent.refl ⟨y,n+1,.pick K1 K2 K3 K4 K5,⟨yT,by omega,by omega,by omega,x5,.inr ⟨by simp,hmy⟩⟩,by omega,?_⟩;simp[wn]):p:=h
theorem OD{p:Prop}(h:p:=by
 by_cases w1:inv<=lin/\lin<=1000000
 rotate_left
 ·simp[az w1,finn (λh=>h.elim hZ w1)]
 have hB:BZ\/(inv<=lin/\lin<=1000000):=.inr w1;simp[w1];by_cases r1:rs = -1
 ·have h:TK:=(fin3 rfl hB).2 r1
  simp[r1,h]
 ·have h:¬TK:=λh=>r1 ((fin3 rfl hB).1 h)
  simp[r1,az h]):p:=h
theorem E4{p:Prop}(h:p:=by
 refine⟨rfl,by simp;omega,λi=>?_,⟨λ_ _=>False,λk=>trivial,λk k' b hk=>by simp[AH.get,AObj.blk]at hk,λk b hk=>by simp[AH.get,AObj.blk]at hk,λk c hc=>hc.elim,λk k' c hc=>hc.elim,λk c hc=>hc.elim⟩,BelowF.refl _ _,λb hb=>hb.elim id id⟩
 show VRel w (AH.M []) (bM (nW 0 args) i) _
 rw[rX,if_pos (Nat.zero_le i),Nat.sub_zero]
 split
 ·rename_i v hv
  have hlt:i<xs.size:=by rw[hs];exact(List.getElem?_eq_some_iff.1 hv).1
  have e:(xs++Array.replicate (fn.ntmps-xs.size) undef).getD i undef=xs.getD i undef:=by
   simp only[Array.getD_eq_getD_getElem?];rw[Array.getElem?_append_left hlt]
  rw[e];exact(hx i v hv).rel.tr ⟨Nat.le_refl _,λ_ _ _=>rfl,λb _ h=>hM b h⟩
 ·exact .any _):p:=h
theorem OC{p:Prop}(h:p:=by
 simp[z];refine drw eok mix [0,2,3,4] [1,5,6] (.c 4 1 8 7 (.c 4 5 0 7 (.c 4 6 7 0 (.l 4 0) .s) .s) .s) ?_;simp
 try intros
 refine ag.pure (eI h (by omega)) (by simp[Hub.row]) ?_;simp[Hub.res]
 try intros
 rw[hat];simp[Answer.res,eV]):p:=h
theorem OB{p:Prop}(h:p:=by
 intro hq;obtain⟨vs,l,h1,h2,h3,h4⟩:=gq hE hR' fn.results.toList hq;obtain⟨Es,hH⟩:=hR'.heap;refine⟨hR'.dfr,if vs.length=1 then vs.getD 0 undef else .tuple vs.toArray,?_,_,rfl,⟨hR'.below.os,hR'.below.tape,hR'.below.output,hR'.below.size,hR'.below.block⟩,?_⟩
 ·have h1':(fn.results.toList.mapM (j8 a'.tmps)).run P w'=.ok vs w':=h1
  rw[ny,Array.mapM_eq_mapM_toList];simp only[Sem.run_bind,Sem.run_map,h1',Result.andThen_ok,Sem.run_pure]
  cases vs with
  |nil=>simp
  |cons v vs=>cases vs<;>simp
 ·have low:∀c,((∃k,Es k c)\/st'.h.M c)->w.heap.size<=c/\c<w'.heap.size:=by
   rintro c (⟨k,hk⟩|⟨k,hk⟩)
   ·exact⟨Nat.le_of_not_lt (hH.elow k c hk).1,(hH.elow k c hk).2⟩
   ·exact⟨Nat.le_of_not_lt (hH.low k c hk).1,hH.lt hk⟩
  unfold uy at h4
  split at h4
  ·split at h4
   ·rename_i r x
    obtain⟨h',E',S,-,hr,O⟩:=sa hH (h3 0 x rfl) h4;rw[if_pos (by simpa using h2)];exact tI.mono hr (λc hc=>low c (O.own c hc).1)
   ·exact h4.elim
  ·rename_i rs _
   obtain⟨hne,h4⟩:=h4;obtain⟨h',E',S,F,-,hl,hF,hd,hr,O⟩:=qz l rs hH h3 h4;rw[if_neg (by omega)];exact⟨vs.toArray,F,rfl,by simp;omega,λj c hc=>low c (O.own c (hF j c hc)).1,hd,λj t hj=>by simpa using hr j t hj⟩):p:=h
theorem OA{p:Prop}(h:p:=by
 obtain⟨n1,n2,n3,n4⟩:=eB hl;simp[Doc.row];intro b2 b4
 refine aV.intro eok (λi:Nat=>i<=d.seen.length/\∀j,j<i->∀hj:j<d.seen.length,d.seen[j].client≠c) (λi=>⟨22,0,[(11,.v (.int .i64 i)),(10,.v (.int .i64 d.seen.length)),(9,.ro (d.seen.map Seen.row)),(1,.v (.int .i64 c)),(4,.p 64 b4 0)],
  [(64,.vars b4 196 [.v (.int .i64 0),.v (.int .i64 0),.v (.int .i64 0)])]⟩) (λi=>d.seen.length-i) 0 (by simp) (by simp) (λi hi=>?_)
 by_cases hlt:i<d.seen.length
 ·simp[hlt,Seen.row]
  intro b7;by_cases hc:d.seen[i].client=c
  ·have e:fZ d c=(d.seen[i],true):=by
    rcases p6 d c with⟨i',h,h1,h2,h3⟩|⟨h1,_⟩
    ·have:i'=i:=by
      rcases Nat.lt_trichotomy i' i with hh|hh|hh
      ·exact absurd h1 (hi.2 i' hh h)
      ·exact hh
      ·exact absurd hc (h2 i hh hlt)
     subst this;exact h3
    ·exact absurd hc (h1 i hlt)
   simp[hc,e,Seen.res]
  ·simp[hc]
   refine⟨i+1,⟨by omega,λj hj hjl=>?_⟩,by omega,aR (by omega)⟩;by_cases hji:j=i
   ·subst hji;exact hc
   ·exact hi.2 j (by omega) hjl
 ·have e:fZ d c=(⟨0,0,0⟩,false):=by
   rcases p6 d c with⟨i',h,h1,h2,h3⟩|⟨_,h⟩
   ·exact absurd h1 (hi.2 i' (by omega) h)
   ·exact h
  simp[hlt,e,Seen.res]):p:=h
theorem sU{p:Prop}(h:p:=by
 go_wp2_with (at_builtin;refine Lib.wpList_append_run _ rfl _ _ _ _ rfl _ _ rfl rfl _ _ (hr _) ?_)
 go_ret
 exact⟨rfl,rfl⟩):p:=h
theorem zq{p:Prop}(h:p:=by
 simp only at hd hat;simp[k];refine ag.pure hd (by simp[Hub.row]) ?_;simp[Hub.res];intros;by_cases z:code=0
 ·rw[if_pos z]at hat
  simp[z,hat,Answer.res]
 ·rw[if_neg z]at hat
  simp[z];refine ag.pure (gD h (by omega)) (by simp[Hub.row]) ?_;simp[Hub.res,hat,Answer.res,eV]):p:=h
theorem oq{p:Prop}(h:p:=by
 congr 1;apply propext;unfold dx
 constructor
 ·rintro⟨-,-,-,-,g1,g2,g3,g4,g5⟩;simp_all
 ·intro g;refine⟨s1,s2,s3,s4,?_,?_,?_,?_,?_⟩<;>simp_all):p:=h
theorem E3{p:Prop}(h:p:=by
 refine ag.pure (cS lin inv 1000000) (by simp) ?_;by_cases w1:inv<=lin/\lin<=1000000
 rotate_left
 ·simp[az w1,finn (λh=>h.elim hZ w1)]
 have hB:BZ\/(inv<=lin/\lin<=1000000):=.inr w1;simp[w1];refine ag.pure (cS rs inv 1000000) (by simp) ?_;by_cases r1:inv<=rs/\rs<=1000000
 rotate_left
 ·have h:¬TK:=λh=>r1 ((fin4 rfl hB).1 h).1
  simp[az r1,az h]
 simp[r1];by_cases r2:lin<=rs
 ·have h:TK:=(fin4 rfl hB).2 ⟨r1,r2⟩
  simp[r2,h]
 ·have h:¬TK:=λh=>r2 ((fin4 rfl hB).1 h).2
  simp[r2,az h]):p:=h
theorem j5{p:Prop}(h:p:=by
 have hz:¬(a.length:Int)=b.length:=by omega
 simp[hz,jx];exact λh2=>absurd (by rw[h2]) h):p:=h
theorem Oz{p:Prop}(h:p:=by
 obtain⟨Es,H⟩:=hR.heap;have t:Tr st.h.M w st.h.M { w with drawn:=w.drawn+1 }:=⟨Nat.le_refl _,λ_ _ _=>rfl,λ_ _ h=>h⟩;have hR1:Rep E.w0 E.base st a { w with drawn:=w.drawn+1 }:=(hR.move (h':=st.h) (E':=Es) ⟨λk=>(H.obj k).tr t (λ_ _=>rfl) (λ_ hc _=>hc),H.inj,H.low,H.elow,H.einj,H.em⟩ t ⟨rfl,rfl,rfl⟩).rep;refine⟨hR1.dfr,hR1.size,λs=>?_,hR1.heap,hR1.below,hR1.base_le⟩;by_cases hs:∃p∈gg pv,p.1=s
 ·obtain⟨p,hp,rfl⟩:=hs
  have hany:∀q∈gg pv,q.2=.any:=by
   intro q hq;unfold gg at hq;rw[List.mem_filterMap]at hq;obtain⟨x,-,hx⟩:=hq;rw[Option.map_eq_some_iff]at hx;obtain⟨d,-,rfl⟩:=hx;rfl
  show VRel _ st.h.M (bM (gg pv++st.t) p.1) _
  rw[iK (v:=.any) (by have:=hany p hp;rw[<-this];exact hp) (λq hq _=>hany q hq)];exact .any _
 ·show VRel _ st.h.M (bM (gg pv++st.t) s) _
  rw[kG (λp hp he=>hs ⟨p,hp,he⟩)];exact hR1.tmp s):p:=h
theorem Oy{p:Prop}(h:p:=by
 show VRel w st.h.M (bM (uJ 0 args) i) _
 rw[IS,if_pos (Nat.zero_le i),Nat.sub_zero]
 cases hv:args[i]? with
 |none=>exact .any _
 | some v =>
   have hlt:i<xs.size:=by rw[hs];exact(List.getElem?_eq_some_iff.1 hv).1
   have e:(xs++Array.replicate (fn.ntmps-xs.size) undef).getD i undef=xs.getD i undef:=by
    simp only[Array.getD_eq_getD_getElem?];rw[Array.getElem?_append_left hlt]
   show VRel w st.h.M v ((xs++Array.replicate (fn.ntmps-xs.size) undef).getD i undef)
   rw[e];exact hx i v hv):p:=h
theorem Ox{p:Prop}(h:p:=by
 try intros
 refine ag.ro hc (by simp[Wld.row]) ?_;simp[Wld.res]
 try intros
 refine Ent.refl ⟨y,n+1,.ro,⟨yT,by omega,by omega,by omega,x5,.inl ⟨rfl,hmy⟩⟩,by omega,?_⟩;simp[wn]):p:=h
theorem VY{p:Prop}(h:p:=by
 by_cases r1:rs = -1
 ·have h:TK:=(fin3 rfl hB).2 r1
  simp[r1,h]
 ·have h:¬TK:=λh=>r1 ((fin3 rfl hB).1 h)
  simp[r1,az h]):p:=h
theorem Ow{p:Prop}(h:p:=by
 by_cases s1:bV x
 rotate_left
 ·have h:=hno (λh=>s1 (by have:=(h hlt).1;rwa[hx]at this))
  simp[az s1,az h]
 simp[s1]
 cases i with
 | zero =>
   simp;exact⟨1,⟨by omega,jQ hi.2 (Ks hlt hx s1)⟩,by omega,aR (n:=0) (by omega)⟩
 | succ k =>
   have ek:Go.IntKind.i64.wrap (k:Int)=k:=fE (by omega);have hk1:k<docs.length:=by omega
   have hk0:(0:Int)<(k:Int)+1:=by omega
   obtain⟨y,hy⟩:∃y,docs[k]=y:=⟨_,rfl⟩;simp[ek,hk0,hk1,hy,Doc.row];by_cases s4:sLt y.name x.name
   rotate_left
   ·have h:=hno (λh=>s4 (by have:=(h hlt).2 (by omega);rw[hx]at this;simp only[Nat.add_sub_cancel]at this;rwa[hy]at this))
    simp[az s4,az h]
   simp[s4];exact⟨k+2,⟨by omega,jQ hi.2 (Ra hlt hx hy s1 s4)⟩,by omega,by rw[Go.IntWalk.i64_in _ (by omega)];omega⟩):p:=h
theorem sS{p:Prop}(h:p:=by
 by_cases c:bo w/\¬w.step=1000000
 ·rw[De c]
  unfold iF;rw[List.length_map];exact Nat.le_trans (List.length_filter_le _ _) (by simp)
 ·rw[vW c];simp):p:=h
theorem zp{p:Prop}(h:p:=by
 rw[ny,Array.mapM_eq_mapM_toList];simp only[Sem.run_bind,Sem.run_map,h1',Result.andThen_ok,Sem.run_pure]
 cases vs with
 |nil=>simp
 |cons v vs=>cases vs<;>simp):p:=h
theorem EZ{p:Prop}(h:p:=by
 refine ag.pure (bZ lin inv 1000000) (by simp) ?_;by_cases w1:inv<=lin/\lin<=1000000
 rotate_left
 ·simp[az w1,finn (λh=>h.elim hZ w1)]
 have hB:BZ\/(inv<=lin/\lin<=1000000):=.inr w1;simp[w1];rw[Vc,hM];simp;refine ag.pure (bZ rs M 1000000) (by simp) ?_;have e:vb (M<=rs/\rs<=1000000)=vb TK:=um (hmx.trans (fin4 rfl hB).symm);rw[e];simp):p:=h
theorem Ov{p:Prop}(h:p:=by
 generalize hR:fDo w.h t.c=R at hdo;obtain⟨h',a'⟩:=R;refine inl aw Tryz.func36 50000 (λw3 F3=>?_);simp[hk];refine aY.freeze 321 (H:=H1) (sz:=5) (rs:=w.h.docs.map Doc.row) (own:=true) (by simp) ?_;simp;refine aY.freeze 322 (H:=H2) (sz:=6) (rs:=w.h.subs.map Sub.row) (own:=true) (by simp) ?_;simp;refine drw eok mix [0,1,2,3,4,5,6,7,8,9,14,15,17,18] [10,11,12,13,16,19] (.c 14 10 272 16111 (.c 14 11 0 16111 (.c 14 12 0 16111 (.c 14 13 0 16111 (.c 14 16 12004 4107 (.c 14 19 4105 2 (.l 14 2) .s) .s) .s) .s) .s) .s) ?_;simp[hk,ht,Task.row]
 try intros
 refine gR hdo (by simp[Hub.row,Call.row]) ?_;rintro _ rfl;simp[Hub.res,Answer.res,hk,Task.row,hm,bf]
 try intros
 simp[ew,eg,mH,hR,Task.row]):p:=h
theorem VX{p:Prop}(h:p:=by
 rw[if_neg z]at hat;simp[z];refine ag.pure (gD h (by omega)) (by simp[Hub.row]) ?_;simp[Hub.res,hat,Answer.res,eV]):p:=h
theorem EY{p:Prop}(h:p:=by
 simp[c]
 exact⟨i+1,⟨by omega,λj hj hjl=>by
  by_cases hji:j=i
  ·subst hji;exact c
  ·exact hi.2 j (by omega) hjl⟩,by omega,aR (by omega)⟩):p:=h
theorem EX{p:Prop}(h:p:=by
 rw[<-hmz];have hm0:(0:Int)<cL w:=by omega
 have h1:=Int.lt_tmod_of_pos picks[n] hm0;have h2:=Int.tmod_lt_of_pos picks[n] hm0;rw[Go.IntWalk.i64_in _ (by omega),Pe _ hm0];unfold dZ;rw[List.getElem?_eq_getElem hpk];have h3:=Int.emod_nonneg picks[n] (show(cL w:Int)≠0 by omega);simp only;omega):p:=h
theorem sR{p:Prop}(h:p:=by
 have:i=l.length:=by omega
 subst this;simp only[List.drop_length,cK,szR,Nat.zero_le,if_true,Nat.sub_zero]at hx;simp[hx]):p:=h
theorem zo{p:Prop}(h:p:=by
 constructor
 ·rintro⟨k',hk',e,h1,h2⟩
  have:k=k':=by omega
  subst this;rw[ht]at h1 h2;exact⟨h1,h2⟩
 ·rintro⟨h1,h2⟩
  exact⟨k,hk,rfl,by rw[ht];exact h1,by rw[ht];exact h2⟩):p:=h
theorem Ou{p:Prop}(h:p:=by
 generalize hR:fDo w.h t.c=R at hdo;obtain⟨h',a'⟩:=R;refine inl aw Tryz.func36 50000 (λw3 F3=>?_);simp[hk];refine drw eok mix [0,1,2,3,4,5,6,7,8,9,14,15,17,18] [10,11,12,13,16,19] (.c 14 10 272 16111 (.c 14 11 0 16111 (.c 14 12 0 16111 (.c 14 13 0 16111 (.c 14 16 12004 4107 (.c 14 19 4105 2 (.l 14 2) .s) .s) .s) .s) .s) .s) ?_;simp[hk,ht,Task.row]
 try intros
 refine ag.pure hdo (by simp[Hub.row,Call.row]) ?_;simp[Hub.res,Answer.res,hk,Task.row,hm,bf]
 try intros
 simp[ew,eg,mH,hR,Task.row]
 first|exact HT rfl|exact⟨Qr rfl,HT rfl⟩):p:=h
theorem Ot{p:Prop}(h:p:=by
 simp only[Array.getD_eq_getD_getElem?];rw[Array.getElem?_append_left hlt]):p:=h
theorem EW{p:Prop}(h:p:=by
 have:=Q1 (l:=List.range ops.length) (p:=λj=>!on L j) (q:=λj=>!on (L.setIfInBounds i true) j) (λx _ hx=>by
  simp only[Bool.not_eq_true']at hx⊢;rw[hset]at hx
  split at hx
  ·simp at hx
  ·exact hx) (List.mem_range.2 hilt) (by simp[hioff]) (by simp[hset])
 omega):p:=h
theorem Oq{p:Prop}(h:p:=by
 simp;refine aV.intro eok (λi:Nat=>i<=s.size) (λi=>⟨20,0,[(4,.v (.int .i64 i)),(3,.v (.int .i64 (nB s i))),(0,.v (.string s))],[]⟩) (λi=>s.size-i) 0 (by simp) (by simp[nB]) (λi hi=>?_);by_cases hlt:i<s.size
 ·have e:=QS hlt
  unfold zy at e;have ec:Go.IntKind.i64.wrap (s[i].toNat:Int)=s[i].toNat:=fE (by have:=s[i].toNat_lt;omega);simp[hlt,ec];exact⟨i+1,by omega,by omega,aR (by omega),e.symm⟩
 ·have e:nB s i=fnv s:=by unfold fnv;congr 1;omega
  simp[hlt,e]):p:=h
theorem Oo{p:Prop}(h:p:=by
 refine drw eok mix [0,1] [2,3] (.c 2 2 2 1 (.c 2 3 1 0 (.l 2 0) .s) .s) ?_;simp
 try intros
 rw[hat];simp[Answer.res]):p:=h
theorem zn{p:Prop}(h:p:=by
 have s2':¬(1<=(q.list.length:Int)/\(q.list.length:Int)<=2):=by omega
 have h:=hbad (λh=>s2 (by have:=(h hlt).2.1;rwa[hq]at this));simp[az s2',az h]):p:=h
theorem On{p:Prop}(h:p:=by
 have hle:a'+n<=t.length:=by have:=hin.2.1 (by omega);omega
 have hst:mD t (L,(a':Int)) o[i]=(L++(t.drop a').take n,(a':Int)+n):=by simp[mD,k1,hn]
 rw[hst]at hs;obtain⟨m,hm⟩:∃m,(t.drop a').take n=m:=⟨_,rfl⟩;have hcut:cut (t.map aG) a' n=m.map aG:=by rw[fu,<-hm];simp
 have hlen2:m.length=n:=by rw[<-hm];simp;omega
 rw[hm]at hs;simp[k1,hn,ea,hle,hcut];refine⟨by omega,λH2=>⟨i+1,by omega,by omega,H2,?_⟩⟩;rw[hs];simp[e]):p:=h
theorem om{p:Prop}(h:p:=by
 have:r = -1:=by rw[<-hr];exact fq (by omega)
 rw[fq k1];simp[this]):p:=h
theorem Om{p:Prop}(h:p:=by
 obtain⟨O,hdis⟩:=O1.trans H O2;refine⟨h2,E2,_,λj c=>match j with|0=>S1 c|j+1=>F2 j c,hk2,by simp[hl2],?_,?_,?_,O⟩
 ·intro j c hc
  cases j with
  |zero=>exact .inl hc
  |succ j=>exact .inr (hF2 j c hc)
 ·intro j j' c hc hc'
  cases j<;>cases j'
  ·rfl
  ·exact(hdis c hc (hF2 _ c hc')).elim
  ·exact(hdis c hc' (hF2 _ c hc)).elim
  ·rw[hd2 _ _ c hc hc']
 ·intro j t' hj
  cases j with
  |zero=>simp at hj;subst hj;exact hr1
  |succ j=>exact hr2 j t' (by simpa using hj)):p:=h
theorem EV{p:Prop}(h:p:=by
 cases h:d.list with
 |nil=>rw[h]at c9;simp at c9
 |cons a l=>exact⟨a,l,rfl⟩):p:=h
theorem EU{p:Prop}(h:p:=by
 have hw:IntKind.i64.wrap ((left:Int)-(x.doc.size:Int))=(left:Int)-x.doc.size:=IntWalk.i64_in _ (by omega);have hz:(left:Int)-x.doc.size<0:=by omega
 have:r = -1:=by rw[<-hr];exact fq (by omega)
 simp[hw,hz,this]):p:=h
theorem pY{p:Prop}(h:p:=by
 have:i=l.length:=by omega
 subst this;simp[C8,cut]
 try exact λa _=>rfl):p:=h
theorem Ol{p:Prop}(h:p:=by
 simp[hlt];by_cases h1:(s[i].toNat:Int)<97
 ·have hno:¬nz s:=λh=>by have:=(h.2 i hlt).1;omega
  simp[h1,az hno]
 ·by_cases h2:122<(s[i].toNat:Int)
  ·have hno:¬nz s:=λh=>by have:=(h.2 i hlt).2;omega
   simp[h1,h2,hlt,az hno]
  ·simp[h1,h2,hlt]
   refine⟨i+1,⟨by omega,λj hj=>?_⟩,by omega,aR (by omega)⟩;by_cases hji:j=i
   ·subst hji;exact λ_=>by omega
   ·exact hi.2 j (by omega)):p:=h
theorem Ok{p:Prop}(h:p:=by
 refine drw eok mix [0,1,2,3,4] [5,6,7,8,9] (.c 5 5 17 14 (.c 5 6 0 14 (.c 5 7 0 14 (.c 5 8 0 14 (.c 5 9 14 0 (.l 5 0) .s) .s) .s) .s) .s) ?_;simp[ha,hke]
 try intros
 refine mv hh (by simp[Wld.row]) ?_;rintro _ _ ⟨b,o,C,Ha,Hb,Hc,Hs,Hl,Hq,Ht,T,rfl,rfl⟩;simp
 try intros
 refine Ent.refl ⟨y,n+1,.sh i k' s1 t1 b o C Ha Hb Hc Hs Hl Hq Ht,⟨yT,by omega,by omega,by omega,x5,.inr ⟨by simp,hmy⟩,hri,hrj,T⟩,by omega,?_⟩;simp[wn]):p:=h
theorem Oj{p:Prop}(h:p:=by
 by_cases c2:(k:Int)∈all
 rotate_left
 ·have h:¬fc ⟨hh,lk,qs,tasks,step⟩:=by
   rintro⟨all',e,h⟩
   simp only at e h;rw[hr]at e;obtain rfl:=Option.some.inj e;exact c2 (h k hlt (by rw[ht];exact c1))
  simp[az c2,az h]
 simp[c2];exact Ent.refl ⟨k+1,⟨by omega,jQ (P:=λj=>∀hj:j<tasks.length,tasks[j].pc=2->(j:Int)∈all) hk.2 (λ_ _=>c2)⟩,by omega,by simp;exact aR (by omega)⟩):p:=h
theorem Oi{p:Prop}(h:p:=by
 simp[Wld.res]
 try intros
 refine Ent.refl ⟨y,n+1,.ro,⟨yT,by omega,by omega,by omega,x5,.inl ⟨rfl,hmy,hsh⟩,trivial⟩,by omega,?_⟩;simp[wn]):p:=h
theorem sQ{p:Prop}(h:p:=by
 by_cases c:bo w/\¬w.step=1000000
 ·rw[oE c];simp
 ·rw[nD c];simp):p:=h
theorem Oh{p:Prop}(h:p:=by
 simp only[hZs];refine drw eok mix [0,1,2,3,4,5,6,7,8,9,10,11,12,13,16,17] [14,15,18] (.c 16 14 4 65531 (.c 16 15 8 65523 (.c 16 18 65521 2 (.l 16 2) .s) .s) .s) ?_;simp[hZl,hml,hml2,bf,Yv]
 try intros
 simp[hk,hm,eg,ew,Task.row,hi1,hZt,Queue.row]
 first
  |exact⟨Qr rfl,Yn rfl,HT rfl⟩
  | (refine ⟨Qr rfl, Yn rfl, ?_, HT rfl⟩
     rw[List.take_of_length_le (by simp),List.drop_eq_nil_of_le (by simp)])):p:=h
theorem Og{p:Prop}(h:p:=by
 intro n
 induction n with
 |zero=>intro i h;omega
 | succ n ih =>
   intro i hi hlt
   cases ho:on L i with
   |true=>rfl
   | false =>
     exfalso
     have:i∈Region.ready .any ops.toArray L:=(pq hL).2 ⟨hlt,ho,λk hk=>by
      simp only[da,Array.any_eq_true',Bool.and_eq_true,beq_iff_eq]at hk;obtain⟨e,he,hb,rfl⟩:=hk;have:=D.back i hlt e he hb;exact ih e.on (by omega) (by omega)⟩
     rw[hr]at this;simp at this):p:=h
theorem pX{p:Prop}(h:p:=by
 have:r = -1:=by rw[<-hr];exact fq (by omega)
 rw[fq k0];simp[this]):p:=h
theorem Of{p:Prop}(h:p:=by
 simp[Wld.res]
 try intros
 refine Ent.refl ⟨y,n+1,.ro,⟨yT,by omega,by omega,by omega,x5,.inl ⟨rfl,hmy,hsh⟩⟩,by omega,?_⟩;simp[wn]):p:=h
theorem ET{p:Prop}(h:p:=by
 intro j hj;rw[hROW];simp only[Array.getD_eq_getD_getElem?];rw[Array.getElem?_append_left (by simp[gU];omega),Array.getElem?_append_left (by simp;omega)];simp[List.getElem?_take,hj,List.getD_eq_getElem?_getD]):p:=h
theorem Oe{p:Prop}(h:p:=by
 have hm:cL w=0:=by rcases x6 with x6|x6;cases x6.1;exact x6.2
 rw[kn hm]at x5;rw[x5];simp;refine ag.ro c2 (by simp[Wld.row]) ?_;by_cases wok:bo w
 rotate_left
 ·simp[az wok]
 simp[wok];refine ag.ro c3 (by simp[Wld.row]) ?_;simp;refine ag.ro c4 (by simp[Wld.row]) ?_;have hz:((bn w).length:Int)+((ba w).length:Int)=0:=by unfold cL at hm;omega
 simp[wsum];simp[hz]):p:=h
theorem Od{p:Prop}(h:p:=by
 obtain⟨i,H⟩:=x;simp only at hx⊢;by_cases hlt:i<w.queues.length
 ·have e1:min i w.queues.length=i:=by omega
  simp[hlt,Queue.row];intro b5;simp[e1];intro b6;refine⟨by omega,λH2=>Ent.refl ⟨i+1,by omega,by omega,H2,?_⟩⟩;simp;exact⟨aR (by omega),iO (f:=λq:Queue=>vk q.doc) hlt⟩
 ·have e:i=w.queues.length:=by omega
  subst e;simp[Function.comp_def]):p:=h
theorem Oc{p:Prop}(h:p:=by
 have hsz:(1<=(s.size:Int)/\(s.size:Int)<=8)↔(1<=s.size/\s.size<=8):=by omega
 by_cases h3:1<=s.size/\s.size<=8
 ·have hy:nz s:=⟨h3,λj hj=>hi.2 j (by omega) hj⟩
  have h4:=hsz.2 h3;simp[h4,hy]
 ·have hno:¬nz s:=λh=>h3 h.1
  have h4:¬(1<=(s.size:Int)/\(s.size:Int)<=8):=λh=>h3 (hsz.1 h)
  simp[az h4,az hno]):p:=h
theorem Ob{p:Prop}(h:p:=by
 generalize lA d c.n=R at hat hf;obtain⟨list,code⟩:=R;simp only at hat hf;simp[c4];refine drw eok mix [0,1,2,3,4,5,6] [7,8,9,10,11,12] (.c 7 7 5 122 (.c 7 8 0 122 (.c 7 9 0 122 (.c 7 10 0 122 (.c 7 11 122 0 (.c 7 12 0 0 (.l 7 0) .s) .s) .s) .s) .s) .s) ?_;simp[hk,hd,Doc.row]
 try intros
 refine ag.pure (hf) (by simp[Doc.row,Doc.row]) ?_;simp
 try intros
 rw[hat];simp[Answer.res]):p:=h
theorem zm{p:Prop}(h:p:=by
 by_cases hn:0<=p.n/\p.n<=200
 ·simp[hn]
 ·have e:dc (0<=p.n/\p.n<=200)=false:=by rw[jx];exact hn
  simp[hn]):p:=h
theorem vj{p:Prop}(h:p:=by
 simp[s];exact Ent.refl ⟨m+1,by have:=hiff.1 s;omega,by omega,by simp;exact aR (by omega)⟩):p:=h
theorem zk{p:Prop}(h:p:=by
 have h:=hbad (λh=>s3 (by have:=(h hlt).2.2;rwa[hq]at this));have s3':bE hh.docs q.doc<0:=by omega
 simp[s3',az h]):p:=h
theorem ES{p:Prop}(h:p:=by
 have:=gA n1 (a:=e0) (by rw[hd];simp);unfold aZ at this;omega):p:=h
theorem ER{p:Prop}(h:p:=by exact G4 (by omega) (by omega) hi.2):p:=h
theorem Oa{p:Prop}(h:p:=by
 refine⟨λp hp=>?_,λp hp q hq heq=>?_⟩
 ·rcases List.mem_cons.1 hp with rfl|hp
  ·exact⟨hip,rfl⟩
  ·exact hpv.op p hp
 ·rcases List.mem_cons.1 hp with rfl|hp<;>rcases List.mem_cons.1 hq with rfl|hq
  ·rfl
  ·have:=hlt _ (hdone q hq);simp only at heq;omega
  ·have:=hlt _ (hdone p hp);simp only at heq;omega
  ·exact hpv.one p hp q hq heq):p:=h
theorem oj{p:Prop}(h:p:=by
 have:i=l.length:=by omega
 subst this;simp[aK]):p:=h
theorem N9{p:Prop}(h:p:=by
 have hm:cL w=0:=by rcases x6 with x6|x6;cases x6.1;exact x6.2
 rw[kn hm]at x5;rw[x5];simp;refine aY.quiet eok mix (by kernel_rfl) ?_;simp;refine⟨_,_,c3,by simp[Wld.row],?_⟩;simp;refine⟨_,_,c4,by simp[Wld.row],?_⟩;have hz:((bn w).length:Int)+((ba w).length:Int)=0:=by unfold cL at hm;omega
 simp[wsum];simp[hz]):p:=h
theorem N8{p:Prop}(h:p:=by
 simp only[hZs];refine drw eok mix [0,1,2,3,4,5,6,7,8,9,10,11,12,13,16,17] [14,15,18] (.c 16 14 4 65531 (.c 16 15 8 65523 (.c 16 18 65521 2 (.l 16 2) .s) .s) .s) ?_;simp[hZl,hml,hml2,bf,Yv]
 try intros
 simp[hk,hm,eg,ew,Task.row,hi1,hZt,Queue.row]
 all_goals rw[List.take_of_length_le (by simp),List.drop_eq_nil_of_le (by simp)]):p:=h
theorem N7{p:Prop}(h:p:=by
 simp[Hub.res]
 try intros
 refine ag.pure (hd) (by simp[Hub.row,Call.row,k]) ?_;simp[Answer.res]
 try intros
 rw[hat];simp):p:=h
theorem EP{p:Prop}(h:p:=by
 simp only[yielded,hd',Option.bind_some];simp only[Array.getD_eq_getD_getElem?]at hu
 cases hx:a.tmps[d]? with
 |none=>rfl
 |some v=>rw[hx]at hu;simp at hu;subst hu;rfl):p:=h
theorem pW{p:Prop}(h:p:=by
 refine⟨i+1,by omega,by omega,?_⟩;simp[e,hs,hpc];omega):p:=h
theorem N6{p:Prop}(h:p:=by
 cases hq:Region.ready .any ops.toArray L with
 |nil=>rfl
 | cons i l =>
   obtain⟨h1,h2,-⟩:=(pq hL).1 (show i∈Region.ready .any ops.toArray L by rw[hq];simp);have:i∈(List.range ops.length).filter λi=>!on L i:=List.mem_filter.2 ⟨List.mem_range.2 h1,by simp[h2]⟩
   have:=List.length_pos_of_mem this;omega):p:=h
theorem zj{p:Prop}(h:p:=by
 have h:=hbad2 (o2 (λh=>by obtain⟨⟨k,hk,e,-⟩,-⟩:=h;exact c1 (by omega)));simp[az c1,az h]):p:=h
theorem N5{p:Prop}(h:p:=by
 try intros
 rw[hat];simp[Answer.res,eV]):p:=h
theorem EO{p:Prop}(h:p:=by
 cases j with
 |zero=>rfl
 |succ j=>simp only[lOf,List.getElem?_cons_succ];rw[FK Hs ts (key+1) j];simp only[show key+1+j=key+(j+1) by omega]):p:=h
theorem vh{p:Prop}(h:p:=by
 rw[hm1];have:r=(m1:Int):=by rw[<-hr,dY (by omega)];omega
 simp[this]):p:=h
theorem N4{p:Prop}(h:p:=by
 have hw:IntKind.i64.wrap ((left:Int)-(l.length:Int))=(left:Int)-l.length:=IntWalk.i64_in _ (by omega);simp[hw];by_cases h:l.length<=left
 ·have hz:¬(left:Int)-l.length<0:=by omega
  simp[hz,dY h];omega
 ·have hz:(left:Int)-l.length<0:=by omega
  simp[hz,fq h]):p:=h
theorem zi{p:Prop}(h:p:=by exact aR (by omega)):p:=h
theorem sP{p:Prop}(h:p:=by exact tn (p:=λ_ _ K=>K _) (λ_ _=>ry _) K h):p:=h
theorem EM{p:Prop}(h:p:=by
 rw[if_neg (by omega),if_neg (by omega),List.getElem?_append_left (by omega),List.getElem?_take,if_pos c1,hRg j c1];simp[List.getD_eq_getElem?_getD]):p:=h
theorem N3{p:Prop}(h:p:=by
 rintro rfl
 rw[hp2]at hs;rcases D.use _ hp1 d hs i (D.hpre i hip).1 hd with⟨-,hdep⟩|⟨hn,-⟩
 ·simp only[da,Array.any_eq_true',Bool.and_eq_true,beq_iff_eq]at hdep
  obtain⟨e,he1,he2,he3⟩:=hdep;have:=D.back _ (D.hpre _ hp1).1 e he1 he2;omega
 ·exact hn hip):p:=h
theorem N2{p:Prop}(h:p:=by
 by_cases s4:x.r.next+x.r.list.length=aD docs[k]+1
 ·have hf:=fin s1 s2 (λh=>absurd h (by omega)) k hk rfl (λ_=>s4)
  simp[e2,s4];exact⟨1,⟨by omega,hf⟩,by omega,aR (n:=0) (by omega)⟩
 ·simp[e1,e2,s4,az (norev k hk rfl ho s4)]):p:=h
theorem EL{p:Prop}(h:p:=by
 have:=congrArg (λl:List Value=>l[j]?) hzc;simp only[Array.getElem?_toList,List.getElem?_map,hj,Option.map_some]at this;simp[this]):p:=h
theorem vg{p:Prop}(h:p:=by
 rw[List.eq_nil_of_length_eq_zero h0];exact .empty _ _ (by intro h;cases h)):p:=h
theorem N1{p:Prop}(h:p:=by
 by_cases s4:x.r.next+x.r.list.length=aD docs[k]+1
 ·have hf:=fin s1 s2 hp k hk rfl (λ_=>s4)
  simp[e2,s4];exact⟨m+2,⟨by omega,hf⟩,by omega,by rw[Go.IntWalk.i64_in _ (by omega)];omega⟩
 ·simp[e1,e2,s4,az (norev k hk rfl ho s4)]):p:=h
theorem EK{p:Prop}(h:p:=by
 simp[az c1];refine ag.pure (eI h (by omega)) (by simp[Hub.row]) ?_;simp[Hub.res,Gl (λh=>c1 h.1),Answer.res,eV]):p:=h
theorem EJ{p:Prop}(h:p:=by
 simp[az c2];refine ag.pure (eI h (by omega)) (by simp[Hub.row]) ?_;simp[Hub.res,Gl (λh=>c2 h.2),Answer.res,eV]):p:=h
theorem N0{p:Prop}(h:p:=by
 by_cases c:bV (ib name t)
 ·have e:mb name t=(ib name t,true):=by unfold mb;rw[if_pos c]
  simp[c,e,Doc.res];simp[ib]
 ·have e:mb name t=(Doc.zero,false):=by unfold mb;rw[if_neg c]
  simp[az c,e,Doc.res,Doc.zero]):p:=h
theorem vf{p:Prop}(h:p:=by
 have e:(i+1)*sz=i*sz+sz:=Nat.succ_mul i sz;omega):p:=h
theorem EI{p:Prop}(h:p:=by
 intro r hr;rcases List.mem_or_eq_of_mem_set hr with h1|h1
 ·rw[List.mem_map]at h1
  obtain⟨x,-,rfl⟩:=h1;rfl
 ·rw[h1];exact h):p:=h
theorem NZ{p:Prop}(h:p:=by
 have hje:j=q.list.length:=by omega
 subst hje;rw[List.take_length]at hm;simp;refine Ent.refl ⟨p+2,m,⟨by omega,by rw[hsuc,hm],?_⟩,by omega,G,?_⟩
 ·have:=mY _ _ _ hm
  omega
 ·simp
  exact(by rw[Go.IntWalk.i64_in _ (by omega)];omega)):p:=h
theorem zh{p:Prop}(h:p:=by exact .empty _ _ (by intro h;cases h)):p:=h
theorem NY{p:Prop}(h:p:=by
 simp;exact⟨i+1,⟨by omega,v9 h hi.2 (JJ h1)⟩,by omega,aR (by omega)⟩):p:=h
theorem oi{p:Prop}(h:p:=by exact⟨l,rfl,by simpa[mL]using h1,hl⟩):p:=h
theorem VW{p:Prop}(h:p:=by exact⟨m+2,⟨by omega,hf⟩,by omega,by rw[Go.IntWalk.i64_in _ (by omega)];omega⟩):p:=h
theorem NX{p:Prop}(h:p:=by
 cases hdep:da (bg ops i) q.1 with
 |false=>rfl
 | true =>
   exfalso
   by_cases hg:q.1∈G
   ·exact hqG (List.mem_append.2 (.inr hg))
   ·exact hqG (List.mem_append.2 (.inl (List.mem_map.2 ⟨q,List.mem_filter.2 ⟨hq,by simp[hdep,hg]⟩,rfl⟩)))):p:=h
theorem EH{p:Prop}(h:p:=by
 rw[if_neg (by omega),if_pos (by omega),List.getElem?_append_right (by omega),List.getElem?_drop,List.getElem?_drop]
 congr 2
 omega):p:=h
theorem NW{p:Prop}(h:p:=by simp[Hub.res,Gl (λh=>c1 h.1),Answer.res,eV]):p:=h
theorem NV{p:Prop}(h:p:=by simp[Hub.res,Gl (λh=>c2 h.2),Answer.res,eV]):p:=h
theorem sO{p:Prop}(h:p:=by simp[l2,hx _ (λh=>(h.2.2.2.2.2.1 (by simp)).2.1) l2]):p:=h
theorem EG{p:Prop}(h:p:=by
 rw[if_neg (by omega),if_neg (by omega),List.getElem?_append_left (by omega),List.getElem?_take,if_pos c1,hcs j (by omega)];simp):p:=h
theorem EF{p:Prop}(h:p:=by
 rw[hROW];simp only[Array.size_append,List.size_toArray,gU,hzz,htl];rw[<-Nat.add_mul,<-Nat.add_mul]
 congr 1
 omega):p:=h
theorem NU{p:Prop}(h:p:=by
 rw[hOf,F9 Hs ts (key+1) q];by_cases h:key+1<=q
 ·rw[if_pos h,if_pos (by omega),show q-key=(q-(key+1))+1 by omega,List.getElem?_cons_succ]
 ·rw[if_neg h]
  split
  ·have:q=key:=by omega
   subst this;simp
  ·rfl):p:=h
theorem VV{p:Prop}(h:p:=by
 refine⟨by omega,λH2=>⟨i+1,by omega,by omega,H2,?_⟩⟩;rw[hs];simp[e]):p:=h
theorem sN{p:Prop}(h:p:=by simp[l1,hx _ (λh=>(h.2.2.2.2.2.1 (by simp)).1) l1]):p:=h
theorem NT{p:Prop}(h:p:=by
 have hje:j=q.list.length:=by omega
 subst hje;rw[List.take_length]at hm;simp;refine Ent.refl ⟨1,m,⟨by omega,by rw[hsuc,hm],?_⟩,by omega,G,?_⟩
 ·have:=mY _ _ _ hm
  omega
 ·simp
  exact aR (n:=0) (by omega)):p:=h
theorem NS{p:Prop}(h:p:=by
 have e:vb (a=Answer.zero)=vb (fI ⟨c,1,inv,-1,-1,a⟩):=um ⟨λh=>⟨c1,c2,by simp,λ_=>d1,by simp,λ_=>⟨rfl,rfl,h⟩,by simp,by simp,by simp⟩,λh=>(h.2.2.2.2.2.1 (by simp)).2.2⟩;rw[e];simp):p:=h
theorem NR{p:Prop}(h:p:=by
 have e:vb (a=Answer.zero)=vb (fI ⟨c,2,inv,-1,-1,a⟩):=um ⟨λh=>⟨c1,c2,by simp,by simp,λ_=>d1,λ_=>⟨rfl,rfl,h⟩,by simp,by simp,by simp⟩,λh=>(h.2.2.2.2.2.1 (by simp)).2.2⟩;rw[e];simp):p:=h
theorem EE{p:Prop}(h:p:=by
 intro row h;rcases List.mem_or_eq_of_mem_set h with h|rfl
 ·rw[List.mem_map]at h
  obtain⟨a,-,rfl⟩:=h;rfl
 ·rfl):p:=h
theorem NQ{p:Prop}(h:p:=by
 have e:vb (a=Answer.zero)=vb (fI ⟨c,0,inv,-1,-1,a⟩):=um ⟨λh=>⟨c1,c2,by simp,by simp,by simp,λ_=>⟨rfl,rfl,h⟩,by simp,by simp,by simp⟩,λh=>(h.2.2.2.2.2.1 (by simp)).2.2⟩;rw[e];simp):p:=h
theorem NP{p:Prop}(h:p:=by
 by_cases c2:cF (eT room rev)
 ·have e:=Gh c2
  rw[show eT room rev=⟨room,rev+1,false,[]⟩from rfl]at c2;simp[c2,e,Ring.res,eT]
 ·simp[az c2,xP c2,Ring.res,Ring.zero]):p:=h
theorem NO{p:Prop}(h:p:=by
 have h:=I.pend p hp hiG;rw[hpo]at h;refine r8 (st:={ st with t:=pvT pv++st.t,h:=st2.h }) (λs hs=>?_) rfl h
 show bM (sl.map λs=>(s,bM full s)) s=bM full s
 rw[vO,if_pos (List.mem_append.2 hs)]):p:=h
theorem NN{p:Prop}(h:p:=by
 unfold pvT;rw[List.mem_filterMap]
 constructor
 ·rintro⟨p,hp,h⟩
  rw[Option.map_eq_some_iff]at h;obtain⟨d,hd,he⟩:=h
  cases he
  exact⟨p,hp,hd,rfl⟩
 ·rintro⟨p,hp,hd,rfl⟩
  exact⟨p,hp,by rw[hd];rfl⟩):p:=h
theorem NM{p:Prop}(h:p:=by
 simp[c1];exact Ent.refl ⟨k+1,⟨by omega,jQ (P:=λj=>∀hj:j<tasks.length,tasks[j].pc=2->(j:Int)∈all) hk.2 (λ_ h=>absurd h (by rw[ht];exact c1))⟩,by omega,by simp;exact aR (by omega)⟩):p:=h
theorem ED{p:Prop}(h:p:=by
 rw[List.mem_map]at h;obtain⟨a,-,rfl⟩:=h;rfl):p:=h
theorem NL{p:Prop}(h:p:=by
 simp;intro H1 b;have e1:i=min i l.length:=by omega
 refine⟨e1,by omega,λH2=>Ent.refl ⟨i+1,by omega,by omega,H2,?_⟩⟩;simp;exact⟨aR (by omega),iO (f:=λe:Entry=>iX e.o) hlt⟩):p:=h
theorem EC{p:Prop}(h:p:=by
 rw[if_pos (by omega)];simp only[List.getD_eq_getElem?_getD];rw[List.getElem?_append_right (by omega)]
 congr 2
 omega):p:=h
theorem NK{p:Prop}(h:p:=by
 have hne:¬i=m:=λh=>hmi h.symm
 have s:sLt w.queues[m].doc t.c.doc:=(hon hmm hlt).2 (by omega);simp[hlt,Queue.row,hne,s];exact Ent.refl ⟨m+1,by omega,by omega,by simp;exact aR (by omega)⟩):p:=h
theorem EB{p:Prop}(h:p:=by
 rw[if_pos (by omega),List.getElem?_append_right (by omega),List.getElem?_drop,List.getElem?_drop]
 congr 2
 omega):p:=h
theorem EA{p:Prop}(h:p:=by
 rw[setRow_other _ _ c _ hne]
 show(W1.setRow w.heap.size cs1).heap[c]? = _
 rw[setRow_other _ _ c _ hne,hO c hc]):p:=h
theorem Ez{p:Prop}(h:p:=by
 rw[if_neg (by omega),hcs j c1];simp only[List.getD_eq_getElem?_getD];rw[List.getElem?_append_left (by omega)]):p:=h
theorem NJ{p:Prop}(h:p:=by
 have h:=hno (k+1) (λh=>s4 (by have:=(h hlt).2.2.2 (by omega);rw[hx]at this;simp only[Nat.add_sub_cancel]at this;rwa[hy]at this));have s4':x.client<=y.client:=by omega
 simp[s4',az h]):p:=h
theorem sM{p:Prop}(h:p:=by rw[<-hx];unfold szR;split<;>split<;>omega):p:=h
theorem NI{p:Prop}(h:p:=by
 cases H' with
 |none=>intro hk;simp[AObj.blk]at hk
 | some q =>
   obtain⟨b',o,C⟩:=q
   rintro hk ⟨cs,T,F,hb,_⟩
   simp only[AObj.blk,Option.some.injEq]at hk;subst hk;exact fM hb):p:=h
theorem NH{p:Prop}(h:p:=by
 apply propext
 constructor
 ·intro hl q hq
  have:=hl q hq
  rwa[bH,if_neg (by rintro rfl;exact hq hk)]at this
 ·intro hl q hq
  rw[bH,if_neg (by rintro rfl;exact hq hk)];exact hl q hq):p:=h
theorem NG{p:Prop}(h:p:=by
 exfalso
 have:(rows[r]).drop c=[]:=List.drop_eq_nil_of_le (by omega);rw[this]at h;unfold gL at h
 split at h
 ·rename_i hg
  have hn:=h.1;have hz:=ht.npos;simp at hn;omega
 ·exact h):p:=h
theorem Ey{p:Prop}(h:p:=by
 have e:l.length=i:=by omega
 simp[hlt];rw[List.take_of_length_le (by simp;omega)];simp[cut,e]):p:=h
theorem NF{p:Prop}(h:p:=by
 rw[List.getElem?_eq_getElem (by rw[aK];exact hp)]at hg;rw[hJ (by rw[ni];exact Nat.le_refl _),Tu,DB (by rw[aK];exact hp),Option.some.inj hg]):p:=h
theorem pV{p:Prop}(h:p:=by simp[az c1,az h]):p:=h
theorem ND{p:Prop}(h:p:=by
 by_cases h2:a2=b2
 rotate_left
 ·simp[h2]
 subst h2
 try simp
 refine ag.pure (A0 a3 b3 (by omega)) (by simp) ?_;simp;by_cases h3:a3=b3
 rotate_left
 ·simp[h3]
 subst h3
 try simp):p:=h
theorem NC{p:Prop}(h:p:=by
 obtain⟨q1,q2⟩:=hpv.op q hq;rcases D.use i hip s hs' q.1 (D.hpre _ q1).1 (by rw[<-q2];exact hqd)with⟨-,h⟩|⟨h,-⟩
 ·exact I.val q hq (hidep _ h) s hqd
 ·exact absurd q1 h):p:=h
theorem NB{p:Prop}(h:p:=by
 rcases List.mem_append.1 hj with hj|hj
 ·obtain⟨p,hp,rfl⟩:=hall j hj
  exact⟨p,List.mem_cons_of_mem _ hp,rfl⟩
 ·simp at hj;subst hj;exact⟨_,List.mem_cons_self ..,rfl⟩):p:=h
theorem zg{p:Prop}(h:p:=by
 have h:=hbad2 (o2 (λh=>c2 (hmay.1 h.1).1));simp[c2,az h]):p:=h
theorem zf{p:Prop}(h:p:=by
 have h:=hbad2 (o2 (λh=>c3 (hmay.1 h.1).2));simp[c3,az h]):p:=h
theorem NA{p:Prop}(h:p:=by
 have hf:=fin s1 s2 (λh=>absurd h (by omega)) k hk rfl (λh=>absurd (ho.symm.trans h) (by simp));simp;exact⟨1,⟨by omega,hf⟩,by omega,aR (n:=0) (by omega)⟩):p:=h
theorem Nz{p:Prop}(h:p:=by
 simp[Doc.res]
 try intros
 simp[e1];refine⟨by omega,λH'=>Ent.refl ⟨i+1,by omega,by omega,H',?_⟩⟩;simp;exact⟨aR (by omega),iO (f:=Doc.row) hlt⟩):p:=h
theorem Ny{p:Prop}(h:p:=by
 have h:bJ ⟨sh,docs,subs,last⟩:=⟨c1,c2,c3,c4,λi=>by
  by_cases h:i<subs.length
  ·exact hi.2 i (by omega)
  ·exact λh'=>absurd h' h⟩
 simp[hlt,h]):p:=h
theorem Ex{p:Prop}(h:p:=by
 show(W1.setRow w.heap.size cs1).heap[b]? = _
 rw[setRow_other _ _ _ _ hbN,hO _ hbw];exact hb):p:=h
theorem Nx{p:Prop}(h:p:=by
 have h:¬bo ⟨hh,lk,qs,tasks,step⟩:=λh=>c2 h.2.2.1
 have c2':¬(1<=(lk.length:Int)/\(lk.length:Int)<=4):=by omega
 simp[az c2',az h]):p:=h
theorem Ew{p:Prop}(h:p:=by
 simp[c5];exact⟨i+1,⟨by omega,v9 hlt hi.2 c5⟩,by omega,aR (by omega)⟩):p:=h
theorem Nw{p:Prop}(h:p:=by
 rcases List.mem_cons.1 hp with rfl|hp
 ·exact key _ hip rfl (Nat.le_refl _) h2
 ·exact key p (hpv.op p hp).1 (hpv.op p hp).2 (Nat.le_of_lt (hlt _ (hdone p hp))) (hval p hp)):p:=h
theorem Ev{p:Prop}(h:p:=by
 cases L with
 |nil=>rfl
 |cons p l=>have:=h (by simp);simp at this;simp[It,this]):p:=h
theorem Eu{p:Prop}(h:p:=by
 intro h1;rw[h1]at h2;obtain⟨x,hx⟩:=List.length_eq_one_iff.1 h2.symm;exact hne x hx):p:=h
theorem ze{p:Prop}(h:p:=by
 by_cases h2:a2=b2
 rotate_left
 ·simp[h2]
 subst h2
 try simp):p:=h
theorem Nv{p:Prop}(h:p:=by
 obtain⟨a1,a2⟩:=hpv.op p hp;obtain⟨b1,b2⟩:=hpv.op q hq;rw[a2]at h1;rw[b2]at h2;exact hpv.one p hp q hq (D.dst _ (D.hpre _ a1).1 _ (D.hpre _ b1).1 d h1 h2)):p:=h
theorem Nu{p:Prop}(h:p:=by
 try intros
 simp[e1];refine⟨by omega,λH'=>Ent.refl ⟨i+1,by omega,by omega,H',?_⟩⟩;simp;exact⟨aR (by omega),iO (f:=Queue.row) hlt⟩):p:=h
theorem Et{p:Prop}(h:p:=by
 cases hs:fT x y with
 |none=>rfl
 |some r=>have:=(gV hi hs).dec;omega):p:=h
theorem Ep{p:Prop}(h:p:=by
 rw[zx]at hi;obtain⟨a,ha,rfl⟩:=Option.map_eq_some_iff.1 hi;exact ih i a ha):p:=h
theorem Nt{p:Prop}(h:p:=by exact⟨k+2,⟨by omega,fin (λ_=>by simp only[Nat.add_sub_cancel];rw[hy];exact s4) s2 s3⟩,by omega,by rw[Go.IntWalk.i64_in _ (by omega)];omega⟩):p:=h
theorem Ns{p:Prop}(h:p:=by
 rcases jw (λq:Queue=>q.doc=t.c.doc) w.queues with⟨j,hj,e,-⟩|⟨-,hn⟩
 ·have e':dR w.queues t.c.doc=j:=e
  omega
 ·exact hn):p:=h
theorem Nr{p:Prop}(h:p:=by
 have h:=hbad (λh=>s1 (by have:=(h hlt).1 (by omega);rw[hq]at this;simp only[Nat.add_sub_cancel]at this;rwa[hy]at this));simp[az s1,az h]):p:=h
theorem sL{p:Prop}(h:p:=by
 split at hc
 ·exact hc.elim
 ·exact hc):p:=h
theorem Eo{p:Prop}(h:p:=by
 rw[hm0];have:r=(m0:Int):=by rw[<-hr,dY (by omega)];omega
 simp[this]):p:=h
theorem Nq{p:Prop}(h:p:=by
 cases H with
 |none=>obtain⟨⟨a,rfl⟩,_⟩:=hx;rfl
 | some q =>
   obtain⟨b,o,C⟩:=q;rcases hx with⟨rfl,_⟩|⟨_,_,a,rfl⟩<;>rfl):p:=h
theorem En{p:Prop}(h:p:=by
 rw[Addr.add_lit];exact fF hbv (λj hj=>hcv j (by omega)) (by omega) j v hj):p:=h
theorem sK{p:Prop}(h:p:=by simp[az c1,hno (λh=>c1 h.1)]):p:=h
theorem Np{p:Prop}(h:p:=by
 refine⟨a'::l',by simp[h2],λi av hi=>?_,hk⟩
 cases i with
 |zero=>simp at hi;subst hi;exact h1
 |succ i=>exact h3 i av (by simpa using hi)):p:=h
theorem No{p:Prop}(h:p:=by
 rw[e];simp[hd,ht];by_cases e0:text=[]<;>by_cases e1:o=[]<;>by_cases e2:seq=0<;>by_cases e3:client=0<;>simp[e0,e1,e2,e3,ho,ht]):p:=h
theorem Em{p:Prop}(h:p:=by
 have:r = -1:=by rw[<-hr];exact fq (by omega)
 rw[fq k2];simp[this]):p:=h
theorem El{p:Prop}(h:p:=by
 have h:=hbad2 (o2 (λh=>h.2 c4));simp[c4,az h]):p:=h
theorem Nn{p:Prop}(h:p:=by
 refine Ent.refl ⟨i+1,by omega,by omega,?_⟩;simp[dK,hs,hpc];refine⟨by omega,?_⟩;refine gZ h ?_;rw[hq0];subst hq1 hq2 hq3;rfl):p:=h
theorem zd{p:Prop}(h:p:=by rw[setRow_other _ b c _ hc,setRow_other _ b c _ hc];rfl):p:=h
theorem Nm{p:Prop}(h:p:=by
 by_cases c3:lq e.o
 ·have h:dm e:=⟨c1,c2,c3⟩
  simp[c3,h]
 ·have h:¬dm e:=λh=>c3 h.2.2
  simp[az c3,az h]):p:=h
theorem Nl{p:Prop}(h:p:=by
 rcases(h8 i hi).2 s hs k hk with h|h
 ·exact absurd hd h
 ·split at h
  ·rename_i hp;exact .inl ⟨hp,h⟩
  ·rename_i hp;exact .inr ⟨hp,h⟩):p:=h
theorem Nk{p:Prop}(h:p:=by
 have ha:=qx (by omega) hi.2;simp[h];refine IJ ?_;unfold ga;exact⟨λh=>by have:=h.2;omega,λh=>⟨ha,by omega⟩⟩):p:=h
theorem Nj{p:Prop}(h:p:=by
 refine⟨by omega,λH''=>Ent.refl ⟨i+1,by omega,by omega,H'',?_⟩⟩;simp;exact⟨aR (by omega),iO (f:=Sub.row) hlt⟩):p:=h
theorem Ni{p:Prop}(h:p:=by
 refine⟨by omega,λH2=>Ent.refl ⟨i+1,by omega,by omega,H2,?_⟩⟩;simp;exact⟨aR (by omega),iO (f:=Entry.row) hlt⟩):p:=h
theorem Ej{p:Prop}(h:p:=by rw[if_neg (by omega),if_pos (by omega),List.getElem?_append_left (by omega)]):p:=h
theorem Nh{p:Prop}(h:p:=by
 have hq':=(List.mem_filter.1 hq).1;have hq2:=(List.mem_filter.1 hq).2;simp only[Bool.and_eq_true]at hq2;exact I.val q hq' (hidep _ hq2.1) d hd):p:=h
theorem Ei{p:Prop}(h:p:=by
 have ih:=ur a b (by simpa[frA]using h);rw[tA];simp[frA,toA];omega):p:=h
theorem Ng{p:Prop}(h:p:=by
 rw[if_pos h1,if_pos (by omega),show i-k=(i-(k+1))+1 by omega];rfl):p:=h
theorem Nf{p:Prop}(h:p:=by
 split
 ·rename_i h;subst h;exact .inr (List.mem_cons_self ..)
 ·rcases ih with h|h
  ·exact .inl h
  ·exact .inr (List.mem_cons_of_mem _ h)):p:=h
theorem Eh{p:Prop}(h:p:=by
 cases D with
 |zero=>exact h.elim
 |succ D=>simpa only[gm,hu]using h):p:=h
theorem zc{p:Prop}(h:p:=by exact one rfl (λfs h=>by rw[hu]at h;simp at h)):p:=h
theorem Nd{p:Prop}(h:p:=by
 have:=Nat.mul_le_mul_right te.n (show i+1<=rows.length by omega);have e:(i+1)*te.n=i*te.n+te.n:=Nat.succ_mul i te.n;omega):p:=h
theorem Eg{p:Prop}(h:p:=by exact⟨v,av,by simpa[Instr.loadAt,Instr.sureAddr]using h1,h2,h3⟩):p:=h
theorem Nc{p:Prop}(h:p:=by
 rw[<-hyes c1]at hc;generalize di r rev=R at hc⊢;obtain⟨R1,R2⟩:=R;refine ag.pure hc (by simp) ?_;simp[Ring.res]):p:=h
theorem Ef{p:Prop}(h:p:=by
 rw[if_pos (by omega),List.getElem?_append_left (by omega)]
 congr 2
 omega):p:=h
theorem Nb{p:Prop}(h:p:=by
 cases H with
 |none=>cases hb
 |some q=>obtain⟨b',o,C⟩:=q;obtain⟨cs,T,F,h1,-⟩:=h;cases hb;exact⟨cs,T,h1⟩):p:=h
theorem Na{p:Prop}(h:p:=by
 have c2':6<(subs.length:Int):=by omega
 have h:¬bJ ⟨sh,docs,subs,last⟩:=λh=>c2 h.2.1
 simp[c1',c2',az h]):p:=h
theorem M9{p:Prop}(h:p:=by
 intro q hq d hd he;obtain⟨q1,q2⟩:=hpv.op q hq;rw[q2]at hd;have:=D.dst _ (D.hpre _ q1).1 i hilt d hd he;exact hip (this ▸ q1)):p:=h
theorem Ee{p:Prop}(h:p:=by exact⟨_,_,_,rfl,fresh C _ _ _ hge hcm (by rw[gU,hzz])⟩):p:=h
theorem M8{p:Prop}(h:p:=by
 have hp':=(List.mem_filter.1 hp).1;have hlt:=(D.hpre _ (hpv.op p hp').1).1;exact I.val p hp' (hon (p.1+1) p.1 (by omega) hlt) d hd):p:=h
theorem zb{p:Prop}(h:p:=by
 split at h
 ·exact⟨_,h,rfl⟩
 ·exact h.elim):p:=h
theorem M7{p:Prop}(h:p:=by
 have c1':5<(docs.length:Int):=by omega
 have h:¬bJ ⟨sh,docs,subs,last⟩:=λh=>c1 h.1
 simp[c1',az h]):p:=h
theorem M6{p:Prop}(h:p:=by
 have e:=l8 (a:=a) (b:=b) (λh=>c2 h.2.1);have e2:dc (dH b)=false:=by rw[jx];exact c2
 simp[e2,e]):p:=h
theorem M5{p:Prop}(h:p:=by
 have h0:=dF Entry.cnt_le x.list;have h1:=v7 (λa=>by have:=Seen.cnt_le a;omega) x.seen;simp only[cN];omega):p:=h
theorem cM{p:Prop}(h:p:=by exact h.elim):p:=h
theorem M4{p:Prop}(h:p:=by
 have e:=l8 (a:=a) (b:=b) (λh=>c1 h.1);have e2:dc (dH a)=false:=by rw[jx];exact c1
 simp[e2,e]):p:=h
theorem M3{p:Prop}(h:p:=by
 have h:fc ⟨hh,lk,qs,tasks,step⟩:=⟨all,hr,λj hj=>hk.2 j (by simp only at hj;omega) hj⟩;simp[hlt,h]):p:=h
theorem M1{p:Prop}(h:p:=by
 have:q'=p:=hpv.one q' hq' p hp (by rw[hqi,hpi]);subst this;rw[hpd]at hd';cases hd';rw[hd,S8 hdlt];exact q.val):p:=h
theorem M0{p:Prop}(h:p:=by
 intro i j row d hi hj;exact(h9 i j row d hi hj).map (λc hc hl=>t.frame c hl (h7 i j c hc).2) (λc hc hl=>⟨hc,hl⟩)):p:=h
theorem sJ{p:Prop}(h:p:=by simp[az c2,az h]):p:=h
theorem MZ{p:Prop}(h:p:=by
 intro h1 h2 h3 j hj;by_cases hji:j=i
 ·subst hji;intro hh;rw[hx];exact⟨s1,h2,h3,h1⟩
 ·exact hi.2 j (by omega)):p:=h
theorem Ed{p:Prop}(h:p:=by simp[az c1,hno (λh=>c1 h.1),Wld.res,Wld.zero,Hub.zero]):p:=h
theorem za{p:Prop}(h:p:=by
 have:=mY _ _ _ hm;simp at this;omega):p:=h
theorem ve{p:Prop}(h:p:=by exact List.take_of_length_le (by simp)):p:=h
theorem Ec{p:Prop}(h:p:=by exact⟨λr hr=>OO rfl r hr,λr hr=>oR rfl r hr⟩):p:=h
theorem vc{p:Prop}(h:p:=by
 split
 ·rw[if_neg (by omega)]
 ·rfl):p:=h
theorem MY{p:Prop}(h:p:=by
 intro s2 s hne;unfold ASt.aft
 split
 ·rfl
 ·rename_i d hd
  simp only[bM];rw[if_neg (λhe=>hne (by rw[hd,he]))]):p:=h
theorem y9{p:Prop}(h:p:=by
 simp at this;obtain⟨x,-,rfl⟩:=this;rfl):p:=h
theorem MX{p:Prop}(h:p:=by
 refine KR (I.rep.move hrel q.tr q.same).rep r (λs hs=>?_);rw[hd]at hs;cases hs;exact I.mask p hp hiG d hpd):p:=h
theorem MW{p:Prop}(h:p:=by
 refine⟨by omega,λH=>?_⟩;refine Ent.refl ⟨i+1,by omega,by omega,Hl,H,?_⟩;rw[hs];simp[gz,c2,e]):p:=h
theorem MV{p:Prop}(h:p:=by
 have s3':x.id<=y.id:=by omega
 simp[s3',az (noprev (by omega) (by simp only[Nat.add_sub_cancel];rwa[hy]))]):p:=h
theorem Eb{p:Prop}(h:p:=by
 simp at e2;subst e2;exact⟨⟨n0,n1,n2⟩,rfl,k0,k1,k2⟩):p:=h
theorem MU{p:Prop}(h:p:=by
 have e:=hf.2 (λh=>c4 h.1);have e2:dc (dH (normal (xf a b).1))=false:=by rw[jx];exact c4
 simp[e2,e]):p:=h
theorem MT{p:Prop}(h:p:=by
 have e:=hf.2 (λh=>c5 h.2);have e2:dc (dH (normal (xf a b).2))=false:=by rw[jx];exact c5
 simp[e2,e]):p:=h
theorem MS{p:Prop}(h:p:=by
 rintro i j c ⟨hc,hl⟩
 exact⟨λho=>hE c ((h7 i j c hc).1 ho) hl,λhM=>(h7 i j c hc).2 (t.mono c hl hM)⟩):p:=h
theorem MR{p:Prop}(h:p:=by
 have h:¬bo ⟨hh,lk,qs,tasks,step⟩:=BG (λh=>d1 (h t hmem));simp[az d1,az h]):p:=h
theorem MQ{p:Prop}(h:p:=by
 have h0:=dF Part.cnt_le x.c.o;have h1:=dF Entry.cnt_le x.a.list;simp only[dq,dX,cH];omega):p:=h
theorem MP{p:Prop}(h:p:=by
 rw[List.getLast?_eq_getElem?,hm,Nat.add_sub_cancel,List.getElem?_eq_getElem hml]at he2;exact Option.some.inj he2):p:=h
theorem l0{p:Prop}(h:p:=by rw[pA];omega):p:=h
theorem Ea{p:Prop}(h:p:=by simp[c2,hno (λh=>h.2.1 c2),Wld.res,Wld.zero,Hub.zero]):p:=h
theorem y8{p:Prop}(h:p:=by simp only[pA,List.length_nil];omega):p:=h
theorem MO{p:Prop}(h:p:=by exact .ro _ _ (by simpa[cut]using Rd.empty (w:=w) (x:=false) (S:=λb=>¬M b) _ _ (by intro h;cases h))):p:=h
theorem MN{p:Prop}(h:p:=by
 have:i=tasks.length:=by omega
 subst this;rw[List.take_length]at hr;have h:=PO hr hh lk qs;simp[h]):p:=h
theorem MM{p:Prop}(h:p:=by
 refine⟨?_,h2⟩;rcases h1 with⟨q,hq⟩|⟨q,hq⟩
 ·exact(H0.elow q c hq).1
 ·exact(H0.low q c hq).2):p:=h
theorem ML{p:Prop}(h:p:=by
 have h:¬bV d:=λh=>c4 h.2.2.2.1
 have c4':8<(d.list.length:Int):=by omega
 simp[c4',az h]):p:=h
theorem MK{p:Prop}(h:p:=by
 try intros
 refine⟨by omega,?_⟩;rw[e1];simp[c3,Entry.row]
 try (rintro row (⟨a,-,rfl⟩|rfl)<;>rfl)):p:=h
theorem D9{p:Prop}(h:p:=by
 have e0:F.length-1=m:=by omega
 simp[dN,hF0,e0]):p:=h
theorem MJ{p:Prop}(h:p:=by
 rcases h7 i hi k hk with(h|h)|h
 ·exact h
 ·rw[hd]at h;cases h
 ·rw[hd,hd']at h;exact absurd rfl h):p:=h
theorem D8{p:Prop}(h:p:=by
 rcases x6 with x6|x6
 ·exact x6.2
 ·exact absurd rfl x6.1):p:=h
theorem MI{p:Prop}(h:p:=by
 rw[jn,hBe,jn,hCe];simp[gz,q2,hpsz,qpos2,R.gx,R.gy,A640,A5000,A672,A5002,A5003]):p:=h
theorem MH{p:Prop}(h:p:=by
 rw[p9 (hs i hilt (by rw[hset];simp))];exact(I.frame s (λk hk hkon=>hs k hk (hmono k hkon))).tr q.tr):p:=h
theorem MG{p:Prop}(h:p:=by
 intro b5;refine⟨by omega,λH2=>Ent.refl ⟨i+1,by omega,by omega,H2,?_⟩⟩;simp[ho,e1,aG]):p:=h
theorem MF{p:Prop}(h:p:=by
 rcases hc with hc|hc
 ·rcases hM c hc with rfl|hc
  ·exact .inr hXb
  ·exact .inl hc
 ·exact .inr hc.1):p:=h
theorem ME{p:Prop}(h:p:=by
 obtain⟨h1,h2⟩:=hF1E i' j' c hc;rcases hM c hm with rfl|h
 ·exact h2 rfl
 ·exact(hF i j c h1).2 h):p:=h
theorem MD{p:Prop}(h:p:=by
 simp only[Array.getD_eq_getD_getElem?]at h2⊢;rw[Array.getElem?_eq_getElem hsz]at h2⊢
 simpa using h2):p:=h
theorem D7{p:Prop}(h:p:=by
 rintro e w' ⟨nC,rfl,hp⟩
 exact⟨_,_,_,rfl,hp⟩):p:=h
theorem D6{p:Prop}(h:p:=by
 rw[<-List.take_append_getElem h,List.foldl_append];rfl):p:=h
theorem MC{p:Prop}(h:p:=by
 cases hg:ti.agg with
 |true=>rfl
 |false=>obtain⟨h1,-⟩:=ht.nst hg;rw[h1]at hf;simp at hf):p:=h
theorem MB{p:Prop}(h:p:=by
 have h:n∉l:=by have:=hi.2;rwa[List.take_of_length_le (by omega)]at this
 simp[hlt,az h]):p:=h
theorem MA{p:Prop}(h:p:=by
 rw[hla hmy]at hsh;obtain⟨k',hk1,-⟩:=hsh;rw[List.getElem?_eq_none (by omega)]at hk1
 cases hk1):p:=h
theorem Mz{p:Prop}(h:p:=by
 rw[Hu _ (λp hp=>hsome p (Aj _ _ hp)),pr];unfold nV;rw[pr,List.map_map]):p:=h
theorem i9{p:Prop}(h:p:=by
 simp only;omega):p:=h
theorem My{p:Prop}(h:p:=by
 unfold cut
 split
 ·rename_i h
  rw[List.take_of_length_le (by have:=h.2;simp at this;omega)]
 ·simp):p:=h
theorem Mx{p:Prop}(h:p:=by
 have:=w7 n1 (l:=L) (λe he=>by rw[<-hL]at he;exact List.mem_of_mem_drop he) hq;omega):p:=h
theorem sI{p:Prop}(h:p:=by
 rw[fq hk];simp[<-hx]):p:=h
theorem Mw{p:Prop}(h:p:=by
 have h:¬bo ⟨hh,lk,qs,tasks,step⟩:=λh=>c4 h.2.2.2.2.1
 simp[az c4,az h]):p:=h
theorem Mv{p:Prop}(h:p:=by
 obtain⟨q,hq',hqk⟩:=hall k hkp;exact hq ⟨q,hq',by rw[(hpv.op q hq').2,hqk];exact hkd⟩):p:=h
theorem Mu{p:Prop}(h:p:=by
 simp only[hg]at hk⊢;exact jN (jN (V8 λrow=>xG ti (row.drop c))) K hk):p:=h
theorem Mt{p:Prop}(h:p:=by
 subst he;rcases h with h|⟨j,hne,hj⟩
 ·exact h ⟨k,hbk⟩
 ·exact hne (H'.inj _ _ _ hj hbk)):p:=h
theorem Ms{p:Prop}(h:p:=by
 cases j with
 |zero=>simp at hj;subst hj;exact hv1
 |succ j=>exact hv2 j x (by simpa using hj)):p:=h
theorem D5{p:Prop}(h:p:=by
 rintro e w' ⟨rfl,hp⟩
 exact⟨_,_,_,rfl,hp⟩):p:=h
theorem Mr{p:Prop}(h:p:=by
 have h:=hno i (λh=>s1 (by have:=(h hlt).1;rwa[hx]at this));simp[az s1,az h]):p:=h
theorem Mq{p:Prop}(h:p:=by
 have h0:=dF Part.cnt_le x.sent;have h1:=dF Part.cnt_le x.buf;simp only[Tq];omega):p:=h
theorem Mp{p:Prop}(h:p:=by
 intro i;unfold on;simp only[Array.getD_eq_getD_getElem?,Array.getElem?_replicate]
 split<;>rfl):p:=h
theorem Mo{p:Prop}(h:p:=by
 have h:bV d:=⟨c1,c2,c3,c4,c5,c6,λj hj=>hi.2 j (by omega) hj⟩;simp[hlt,h]):p:=h
theorem D4{p:Prop}(h:p:=by simp only[fieldAt,wF];cases ti.fields[f]?<;>rfl):p:=h
theorem Mn{p:Prop}(h:p:=by
 have h:¬bJ ⟨sh,docs,subs,last⟩:=λh=>c3 h.2.2.1
 simp[az c3,az h]):p:=h
theorem jD{p:Prop}(h:p:=by simpa using this):p:=h
theorem Mm{p:Prop}(h:p:=by
 by_cases h2:55296<=n/\n<=57343<;>simp[h2,ux,h]
 try (rw[w9];omega)):p:=h
theorem Ml{p:Prop}(h:p:=by
 obtain⟨b,o,C⟩:=q;obtain⟨cs,T,F,-,-,-,-,-,hrl,-⟩:=ho;exact hrl _ hm):p:=h
theorem Mj{p:Prop}(h:p:=by
 cases l with
 |nil=>rfl
 |cons b l=>simp only[oV,Bool.and_eq_true]at h;exact h.2):p:=h
theorem Mi{p:Prop}(h:p:=by
 have e:dc (0<=n/\n<=1114111)=false:=by rw[jx];exact h
 simp[ux,h]):p:=h
theorem y7{p:Prop}(h:p:=by simp only[pA,Av];omega):p:=h
theorem Mg{p:Prop}(h:p:=by exact⟨1,⟨by omega,fin (by simp) s2 s3⟩,by omega,aR (n:=0) (by omega)⟩):p:=h
theorem Mf{p:Prop}(h:p:=by
 have e:bE l name = -1:=pG (λj hj=>hi.2 j (by omega) hj);simp[hlt,e]):p:=h
theorem Me{p:Prop}(h:p:=by
 rcases qC.1 hM with h1|⟨j,_,hj⟩
 ·simp[AObj.blk]at h1
 ·exact⟨j,hj⟩):p:=h
theorem Mc{p:Prop}(h:p:=by
 rename_i x y _ hargs
 rw[ha x (by rw[hargs];simp),ha y (by rw[hargs];simp)];exact h):p:=h
theorem Mb{p:Prop}(h:p:=by
 exfalso
 have:=iD ex;rw[ex]at hxt;rw[ey]at hyf;simp[frs,p2]at hxt hyf;omega):p:=h
theorem Ma{p:Prop}(h:p:=by
 exfalso
 have:=iD ey;rw[ex]at hxt;rw[ey]at hyf;simp[frs,q2]at hxt hyf;omega):p:=h
theorem L9{p:Prop}(h:p:=by
 refine Ent.refl ⟨i+1,by omega,by omega,Hl,Hp,?_⟩;rw[hs];simp[gz,c3,e]):p:=h
theorem L5{p:Prop}(h:p:=by
 try intros
 refine ag.pure (zI x.list (by omega)) (by simp) ?_;simp
 try intros):p:=h
theorem L3{p:Prop}(h:p:=by exact⟨[.s []],qV.one (.empty _ _ (λh=>by simp at h)),by simp[gm,hu]⟩):p:=h
theorem L1{p:Prop}(h:p:=by
 have e:fJ l id = -1:=pG (λj hj=>hi.2 j (by omega) hj);simp[hlt,e]):p:=h
theorem D3{p:Prop}(h:p:=by
 rw[Nat.add_mul,Nat.one_mul]at this;exact this):p:=h
theorem L0{p:Prop}(h:p:=by
 by_cases h:i<docs.length
 ·exact hi.2 i (by omega)
 ·exact λh'=>absurd h' h):p:=h
theorem LZ{p:Prop}(h:p:=by
 have:=kZ _ _ _ hr;have h2:=GZ (tasks.take i);simp at this h2;omega):p:=h
theorem LY{p:Prop}(h:p:=by
 rw[hm3];have:r=(m3:Int):=by rw[<-hr,dY (by omega)];omega
 simp[this]):p:=h
theorem LX{p:Prop}(h:p:=by
 split at this
 ·rename_i d hd;exact⟨d,hd,by simpa using this⟩
 ·simp at this):p:=h
theorem D2{p:Prop}(h:p:=by rw[adb rfl];simp[frA,toA]at ih⊢;omega):p:=h
theorem y6{p:Prop}(h:p:=by exact .inl ⟨by simp,by omega⟩):p:=h
theorem LW{p:Prop}(h:p:=by
 rcases List.mem_cons.1 h with rfl|h
 ·rw[if_neg k];omega
 ·have:=ih h;omega):p:=h
theorem LV{p:Prop}(h:p:=by
 have:r = -1:=by rw[<-hr];exact fq (by omega)
 rw[fq k3];simp[this]):p:=h
theorem D1{p:Prop}(h:p:=by
 have:¬m<a:=λh=>s (hiff.2 h)
 omega):p:=h
theorem LU{p:Prop}(h:p:=by exact t.frame b (hR.base_le b (.inl hF)) (λ⟨q,hq⟩=>(HH.low q b hq).1 hF)):p:=h
theorem LS{p:Prop}(h:p:=by
 have e:=xC (d:=d) (rev:=rev) (λh=>c1 h.1);simp[az c1,e]):p:=h
theorem LR{p:Prop}(h:p:=by
 have e:=xC (d:=d) (rev:=rev) (λh=>c2 h.2);simp[az c2,e]):p:=h
theorem LQ{p:Prop}(h:p:=by rw[<-hrl q (List.mem_of_getElem? g)];exact(List.getElem?_eq_some_iff.1 hj).1):p:=h
theorem y5{p:Prop}(h:p:=by simp at hq;subst hq;simp;omega):p:=h
theorem LP{p:Prop}(h:p:=by
 obtain⟨x',h1,h2,h3⟩:=hq;exact⟨μ x',h2,x',h1,rfl,h3.rep hR'⟩):p:=h
theorem LO{p:Prop}(h:p:=by
 have e:=Cm (d:=d) (rev:=rev) (λh=>c1 h.1);simp[az c1,e]):p:=h
theorem LN{p:Prop}(h:p:=by
 have e:=Cm (d:=d) (rev:=rev) (λh=>c2 h.2);simp[az c2,e]):p:=h
theorem LM{p:Prop}(h:p:=by
 rintro e w' ⟨v,rr,rfl,h1,hb,hr⟩
 exact⟨v,rr,rfl,h _ h1,hb,hr⟩):p:=h
theorem LL{p:Prop}(h:p:=by simp[az c1,AU (d:=d) (base:=base) (o:=o) (λh=>c1 h.1)]):p:=h
theorem LK{p:Prop}(h:p:=by simp[az c2,AU (d:=d) (base:=base) (o:=o) (λh=>c2 h.2)]):p:=h
theorem LJ{p:Prop}(h:p:=by simp[execOp,ho,resolve,hc,hu,Deferred.ofValue,invoke,p7 h.1]):p:=h
theorem LI{p:Prop}(h:p:=by
 by_cases h:a.length=b.length
 ·simp[h]
  refine aV.intro eok (λi:Nat=>i<=a.length/\a.take i=b.take i) (λi=>⟨26,0,[(13,.v (.int .i64 i)),(12,.v (.int .i64 b.length)),(1,.ro (b.map aG)),(0,.ro (a.map aG))],[]⟩) (λi=>a.length-i) 0 (by simp) (by simp) (λi hi=>?_);by_cases hlt:i<a.length
  ·have hlt':i<b.length:=by omega
   simp[hlt'];refine aY.quiet eok mix (by kernel_rfl) ?_;simp[hlt,hlt'];exact OF
  ·have hlt':¬i<b.length:=by omega
   simp[hlt',w9];exact ER
 ·exact j5):p:=h
theorem D0{p:Prop}(h:p:=by
 rename_i v hv
 have hlt:q<xs.size:=by rw[hs];exact(List.getElem?_eq_some_iff.1 hv).1
 have e:(xs++Array.replicate (fn.ntmps-xs.size) undef).getD q undef=xs.getD q undef:=by
  exact Ot
 rw[e];exact(hx q v hv).ph):p:=h
theorem LH{p:Prop}(h:p:=by
 obtain⟨X,code⟩:=R;simp only at hd hat;simp[k];refine ag.pure hd (by simp[Hub.row]) ?_;simp[Hub.res];intros;by_cases z:code=0
 ·rw[if_pos z]at hat
  simp[z];refine drw eok mix [0,1] [2,3] (.c 2 2 2 1 (.c 2 3 1 0 (.l 2 0) .s) .s) ?_;simp;exact N5
 ·rw[if_neg z]at hat
  exact OC):p:=h
theorem LG{p:Prop}(h:p:=by
 by_cases c3:n∈m
 ·have h:=hno (o3 c1 (.inr c3))
  simp[c3,az h]
 simp[az c3];intro b40;refine⟨by omega,λG'=>Ent.refl ⟨j+1,m++[n],⟨by omega,o2 c1 (λh=>h.elim (λh=>c2 h) c3)⟩,by omega,G',?_⟩⟩;simp;exact zi):p:=h
theorem DZ{p:Prop}(h:p:=by
 have hlt':¬i<b.length:=by omega
 simp[hlt',w9];exact ER):p:=h
theorem LF{p:Prop}(h:p:=by
 refine⟨rfl,by simp;omega,λi=>?_,⟨Es,HH.obj,HH.inj,λk b hk=>⟨λhf=>hf.2 ⟨k,hk⟩,(HH.low k b hk).2⟩,HH.elow,HH.einj,HH.em⟩,BelowF.refl _ _,λb hb=>hb.elim (λh=>h.1) (λh=>hR.base_le b (.inr h))⟩;exact Oy):p:=h
theorem LD{p:Prop}(h:p:=by
 refine drw eok mix [0,1,2,3,4,5,6,7] [8,9,10,11,12] (.c 8 8 129 126 (.c 8 9 0 126 (.c 8 10 0 126 (.c 8 11 0 126 (.c 8 12 126 0 (.l 8 0) .s) .s) .s) .s) .s) ?_;simp[hs,wsub,vk]
 try intros
 refine ag.ro hc (by simp[Wld.row]) ?_;exact Oi):p:=h
theorem LC{p:Prop}(h:p:=by
 refine drw eok mix [0,1,2,3,4,5,6,7] [8,9,10,11,12] (.c 8 8 129 126 (.c 8 9 0 126 (.c 8 10 0 126 (.c 8 11 0 126 (.c 8 12 126 0 (.l 8 0) .s) .s) .s) .s) .s) ?_;simp[hs,wsub,vk]
 try intros
 refine ag.ro hc (by simp[Wld.row]) ?_;exact Of):p:=h
theorem LB{p:Prop}(h:p:=by
 refine drw eok mix [0,1,2,3,4] [5,6,7,8,9] (.c 5 5 17 14 (.c 5 6 0 14 (.c 5 7 0 14 (.c 5 8 0 14 (.c 5 9 14 0 (.l 5 0) .s) .s) .s) .s) .s) ?_;simp[ha,hke]
 try intros
 refine gR hc (by simp[Wld.row]) ?_;rintro _ rfl;exact Oi):p:=h
theorem LA{p:Prop}(h:p:=by
 refine drw eok mix [0,1,2,3,4] [5,6,7,8,9] (.c 5 5 17 14 (.c 5 6 0 14 (.c 5 7 0 14 (.c 5 8 0 14 (.c 5 9 14 0 (.l 5 0) .s) .s) .s) .s) .s) ?_;simp[ha,hke]
 try intros
 refine gR hc (by simp[Wld.row]) ?_;rintro _ rfl;exact Of):p:=h
theorem Lz{p:Prop}(h:p:=by
 by_cases c4:(k:Int)∈m
 ·exact El
 simp[az c4];intro b40;refine⟨by omega,λG'=>Ent.refl ⟨j+1,m++[(k:Int)],⟨by omega,o1 ⟨hmay.2 ⟨c2,c3⟩,c4⟩⟩,by omega,G',?_⟩⟩;simp;exact zi):p:=h
theorem Ly{p:Prop}(h:p:=by
 have hat:=Yr ⟨c1,c2⟩ k;have hd:=yv h (by omega) c.doc c.client c.seq c.n c.o (by omega);generalize cu h c.doc c.client c.seq c.n c.o=R at hd hat;obtain⟨X,rev,code⟩:=R;exact E6):p:=h
theorem Lx{p:Prop}(h:p:=by
 have hat:=Yr ⟨c1,c2⟩ k;have hd:=yo h (by omega) c.doc c.client c.seq c.n c.o (by omega);generalize cu h c.doc c.client c.seq c.n c.o=R at hd hat;obtain⟨X,rev,code⟩:=R;exact zq):p:=h
theorem Lw{p:Prop}(h:p:=by
 simp[k];refine drw eok mix [0,2,3] [1,4,5,6] (.c 3 1 4 3 (.c 3 4 3 0 (.c 3 5 0 0 (.c 3 6 0 0 (.l 3 0) .s) .s) .s) .s) ?_;simp
 try intros
 refine ag.pure (eI h (by omega)) (by simp[Hub.row]) ?_;exact N7):p:=h
theorem Lv{p:Prop}(h:p:=by
 simp[k];refine drw eok mix [0,2,3] [1,4,5,6] (.c 3 1 4 3 (.c 3 4 3 0 (.c 3 5 0 0 (.c 3 6 0 0 (.l 3 0) .s) .s) .s) .s) ?_;simp
 try intros
 refine ag.pure (gD h (by omega)) (by simp[Hub.row]) ?_;exact N7):p:=h
theorem Lu{p:Prop}(h:p:=by
 obtain⟨X,code⟩:=R;simp only at hd hat;simp[k];refine ag.pure hd (by simp[Hub.row]) ?_;simp[Hub.res];intros;by_cases z:code=0
 ·rw[if_pos z]at hat
  simp[z,hat,Answer.res,eV]
 ·exact VX):p:=h
theorem Lt{p:Prop}(h:p:=by
 have:j=3:=by omega
 subst this;rw[List.take_of_length_le (by omega)]at hm;simp;refine Ent.refl ⟨i+1,m,⟨by omega,by rw[hsuc,hm]⟩,by omega,G,?_⟩;simp;exact zi):p:=h
theorem oh{p:Prop}(h:p:=by
 simp[hlt,w9];exact ER):p:=h
theorem Ls{p:Prop}(h:p:=by
 obtain⟨⟨a,rfl⟩,rfl⟩:=hx;rw[show rows=[]from ho,show cut ([]:List (List CD)) off 0=[]from by simp[fu]];exact zh):p:=h
theorem Lr{p:Prop}(h:p:=by
 have hZ:BZ:=hb0.2 ⟨⟨e1,e2⟩,e3⟩;simp[e2,eq_true e3];have hB:BZ\/(inv<=lin/\lin<=1000000):=.inl hZ;exact VY):p:=h
theorem Lq{p:Prop}(h:p:=by
 by_cases hc:C=n
 ·subst hc
  go_enter Tryz.func197,Tryz.ntmps197
  exact sU
 ·go_enter Tryz.func197,Tryz.ntmps197
  exact sU):p:=h
theorem Lp{p:Prop}(h:p:=by
 by_cases hc:C=n
 ·subst hc
  go_enter Tryz.func236,Tryz.ntmps236
  exact sU
 ·go_enter Tryz.func236,Tryz.ntmps236
  exact sU):p:=h
theorem Lo{p:Prop}(h:p:=by
 by_cases hc:C=n
 ·subst hc
  go_enter Tryz.func88,Tryz.ntmps88
  exact sU
 ·go_enter Tryz.func88,Tryz.ntmps88
  exact sU):p:=h
theorem Ln{p:Prop}(h:p:=by
 have hst:mD t (L,(a':Int)) o[i]=(L++o[i].signs,(a':Int)):=by simp[mD,k2]
 rw[hst]at hs;simp[k2];exact VV):p:=h
theorem og{p:Prop}(h:p:=by
 simp;exact zi):p:=h
theorem DY{p:Prop}(h:p:=by
 refine ag.pure (bZ lin inv 1000000) (by simp) ?_;exact OD):p:=h
theorem DX{p:Prop}(h:p:=by
 refine ag.pure (cS lin inv 1000000) (by simp) ?_;exact OD):p:=h
theorem Lm{p:Prop}(h:p:=by
 simp;refine Br.mk (λh1=>?_) (λh1=>?_)
 ·exact NY
 ·simp[jx]
  exact λhp=>Pt h (OV h1) hp.1):p:=h
theorem Ll{p:Prop}(h:p:=by
 intro b;by_cases c:l[i].name=name
 ·have e:bE l name=i:=vT hlt c hi.2
  simp[c,e]
 ·exact EY):p:=h
theorem Lk{p:Prop}(h:p:=by
 intro b;by_cases c:l[i].id=id
 ·have e:fJ l id=i:=vT hlt c hi.2
  simp[c,e]
 ·exact EY):p:=h
theorem Lj{p:Prop}(h:p:=by
 simp;refine Br.mk (λh1=>?_) (λh1=>?_)
 ·exact NY
 ·simp[jx]
  exact Pt h (OV h1)):p:=h
theorem Li{p:Prop}(h:p:=by
 intro i j hi hj;have:=Nat.mul_le_mul_right sz (show i+1<=rows.length by omega);exact vf):p:=h
theorem Lh{p:Prop}(h:p:=by
 have hf:=fin s1 s2 hp k hk rfl (λh=>absurd (ho.symm.trans h) (by simp));simp;exact VW):p:=h
theorem Lg{p:Prop}(h:p:=by
 simp[az c1];refine ag.pure (gD h (by omega)) (by simp[Hub.row]) ?_;exact NW):p:=h
theorem Lf{p:Prop}(h:p:=by
 simp[az c2];refine ag.pure (gD h (by omega)) (by simp[Hub.row]) ?_;exact NV):p:=h
theorem Le{p:Prop}(h:p:=by
 have h:¬bo ⟨hh,lk,qs,tasks,step⟩:=λh=>c1 h.2.1
 exact pV):p:=h
theorem mR{p:Prop}(h:p:=by
 simp;exact OF):p:=h
theorem Ld{p:Prop}(h:p:=by
 by_cases h1:k+1<=i
 ·exact Ng
 ·rw[if_neg h1,if_neg (by omega)]):p:=h
theorem Lc{p:Prop}(h:p:=by
 simp[c1];refine Ent.refl ⟨j+1,m,⟨by omega,o1 c1⟩,by omega,G,?_⟩;exact og):p:=h
theorem eS{p:Prop}(h:p:=by intro h;cases h):p:=h
theorem va{p:Prop}(h:p:=by simpa using hk):p:=h
theorem aa{p:Prop}(h:p:=by omega):p:=h
theorem aN{p:Prop}(h:p:=by simp;omega):p:=h
theorem ab{p:Prop}(h:p:=by simp):p:=h
theorem afA{p:Prop}(h:p:=by simpa[Instr.loadAt,Instr.sureAddr]using jm (P:=P) ht hb (o:=c) (by omega)):p:=h
theorem ik{p:Prop}(h:p:=by simp at h):p:=h
theorem y4{p:Prop}(h:p:=by simp at h⊢;omega):p:=h
theorem ee{p:Prop}(h:p:=by simpa using hi):p:=h
theorem y3{p:Prop}(h:p:=by rw[Nat.add_mul];omega):p:=h
theorem pU{p:Prop}(h:p:=by simpa using hlt):p:=h
theorem lZ{p:Prop}(h:p:=by simpa using h2):p:=h
theorem sH{p:Prop}(h:p:=by simp[fu]):p:=h
theorem i7{p:Prop}(h:p:=by rw[hget];rfl):p:=h
theorem mQ{p:Prop}(h:p:=by simp[execOp,ho,h1]):p:=h
theorem mP{p:Prop}(h:p:=by simp[AObj.blk]at hb):p:=h
theorem pT{p:Prop}(h:p:=by simp at hj):p:=h
theorem jC{p:Prop}(h:p:=by simpa using hj):p:=h
theorem mO{p:Prop}(h:p:=by simpa using hd):p:=h
theorem oe{p:Prop}(h:p:=by simp at hd):p:=h
theorem od{p:Prop}(h:p:=by simp at h;exact h.1):p:=h
theorem pS{p:Prop}(h:p:=by simp at h;exact h.2):p:=h
theorem oc{p:Prop}(h:p:=by simp at hi):p:=h
theorem DW{p:Prop}(h:p:=by rw[hi]at hi';exact(Option.some.inj hi').symm):p:=h
theorem ah{p:Prop}(h:p:=by decide):p:=h
theorem ij{p:Prop}(h:p:=by unfold maxLen;omega):p:=h
theorem u9{p:Prop}(h:p:=by rw[<-hrl _ (List.mem_of_getElem? hi)];exact(List.getElem?_eq_some_iff.1 hj).1):p:=h
theorem y2{p:Prop}(h:p:=by rw[hsz];exact hN.len):p:=h
theorem yZ{p:Prop}(h:p:=by rw[<-hnl _ (List.mem_of_getElem? hi')];exact(List.getElem?_eq_some_iff.1 hj').1):p:=h
theorem mN{p:Prop}(h:p:=by simpa using h):p:=h
theorem pR{p:Prop}(h:p:=by simp[Builtin.len_,run_underlying hu,goInt]):p:=h
theorem pQ{p:Prop}(h:p:=by cases hq:c.args;simp_all):p:=h
theorem DV{p:Prop}(h:p:=by cases hq:c.argTypes;simp_all):p:=h
theorem yY{p:Prop}(h:p:=by simp[Region.wanted,hg]):p:=h
theorem sG{p:Prop}(h:p:=by simp[Region.wanted,hg,hy,hbw]):p:=h
theorem yX{p:Prop}(h:p:=by cases b<;>cases want<;>simp_all):p:=h
theorem DU{p:Prop}(h:p:=by simp[Region.wanted,hg,hy]):p:=h
theorem kX{p:Prop}(h:p:=by rw[hb];rfl):p:=h
theorem DS{p:Prop}(h:p:=by rintro b ⟨k,hk⟩;simp[AH.get,AObj.blk]at hk):p:=h
theorem kW{p:Prop}(h:p:=by simp[h1]):p:=h
theorem yW{p:Prop}(h:p:=by have:=hH.lt hk;omega):p:=h
theorem u7{p:Prop}(h:p:=by simp[ha]at h):p:=h
theorem lY{p:Prop}(h:p:=by cases h):p:=h
theorem yV{p:Prop}(h:p:=by rw[hu]at hu';cases hu'):p:=h
theorem oa{p:Prop}(h:p:=by simpa using hx):p:=h
theorem Lb{p:Prop}(h:p:=by simp only[yielded,hd',Option.bind_some,getD_some hu]):p:=h
theorem DR{p:Prop}(h:p:=by rw[hset];split<;>simp[hj]):p:=h
theorem La{p:Prop}(h:p:=by have:=I.g _ hg;rw[hpi,hioff]at this;simp at this):p:=h
theorem yU{p:Prop}(h:p:=by unfold ASt.aft;split<;>rfl):p:=h
theorem eK{p:Prop}(h:p:=by rw[h]):p:=h
theorem kV{p:Prop}(h:p:=by simp[iL]):p:=h
theorem sF{p:Prop}(h:p:=by simp[iL,Pj]):p:=h
theorem i6{p:Prop}(h:p:=by rw[hx]):p:=h
theorem yS{p:Prop}(h:p:=by simpa[AObj.q]using hq):p:=h
theorem yR{p:Prop}(h:p:=by unfold ASt.aft;cases dst<;>rfl):p:=h
theorem lX{p:Prop}(h:p:=by rw[hrs]):p:=h
theorem DQ{p:Prop}(h:p:=by show base.L _;rw[hL];trivial):p:=h
theorem al{p:Prop}(h:p:=by kernel_rfl):p:=h
theorem afz{p:Prop}(h:p:=by rw[Go.IntWalk.i64_in _ (by omega)];omega):p:=h
theorem jZ{p:Prop}(h:p:=by simp[aQ]):p:=h
theorem n9{p:Prop}(h:p:=by simp[Xf]):p:=h
theorem gw{p:Prop}(h:p:=by simp[Part.row]):p:=h
theorem sE{p:Prop}(h:p:=by rw[<-hr];unfold szR;split<;>split<;>omega):p:=h
theorem sD{p:Prop}(h:p:=by simp[hr0];omega):p:=h
theorem pP{p:Prop}(h:p:=by simp[rA,aQ]):p:=h
theorem eX{p:Prop}(h:p:=by simp[bR,h]):p:=h
theorem i5{p:Prop}(h:p:=by simp[aG]):p:=h
theorem fC{p:Prop}(h:p:=by simp[aK]):p:=h
theorem yQ{p:Prop}(h:p:=by simp[bN,hP,hD]):p:=h
theorem yP{p:Prop}(h:p:=by simp[Part.row,ck]):p:=h
theorem gI{p:Prop}(h:p:=by simp only;omega):p:=h
theorem afy{p:Prop}(h:p:=by rw[o1 ky R.ne.symm (by omega)];exact R.gy):p:=h
theorem afx{p:Prop}(h:p:=by rw[o1 q q1 (by omega)];exact R.o q q1 q2 q3):p:=h
theorem jY{p:Prop}(h:p:=by rw[<-hh0];simp):p:=h
theorem DP{p:Prop}(h:p:=by first|omega|(simp;omega)):p:=h
theorem fB{p:Prop}(h:p:=by simp[Entry.row]):p:=h
theorem afw{p:Prop}(h:p:=by rw[IntWalk.i64_in _ (by omega)];omega):p:=h
theorem bB{p:Prop}(h:p:=by simp[Doc.row]):p:=h
theorem kU{p:Prop}(h:p:=by simp[dK]):p:=h
theorem yO{p:Prop}(h:p:=by have:=(h hlt).2.1;rwa[hx]at this):p:=h
theorem u6{p:Prop}(h:p:=by simpa[frA]using h):p:=h
theorem K9{p:Prop}(h:p:=by rw[<-hlen];exact(List.getElem?_eq_some_iff.1 hq).1):p:=h
theorem sC{p:Prop}(h:p:=by unfold maxLen at hC;omega):p:=h
theorem sB{p:Prop}(h:p:=by rw[List.length_drop,hul,Nat.sub_mul]):p:=h
theorem sA{p:Prop}(h:p:=by simp[World.frozen?,hbv]):p:=h
theorem afv{p:Prop}(h:p:=by have:=Nat.mul_le_mul_right 3 (show i+1<=n by omega);omega):p:=h
theorem sy{p:Prop}(h:p:=by rw[hdl,hzs]):p:=h
theorem jX{p:Prop}(h:p:=by simp only[Nat.min_def];split<;>omega):p:=h
theorem iB{p:Prop}(h:p:=by rw[hxl,hzs]):p:=h
theorem sx{p:Prop}(h:p:=by rw[IntKind.wrap_i64];omega):p:=h
theorem DO{p:Prop}(h:p:=by simp[setRow_heap w.drew b cs cs1 T (0,0) hb]):p:=h
theorem DN{p:Prop}(h:p:=by rw[setRow_other w.drew b bv cs1 hne];exact hbv):p:=h
theorem DM{p:Prop}(h:p:=by rw[hzb,hik];exact growslice_fits hroom hbig):p:=h
theorem DL{p:Prop}(h:p:=by rw[hG];exact grownCap_ge w _ _ _):p:=h
theorem DK{p:Prop}(h:p:=by rw[hW1];exact rJ w.drew _):p:=h
theorem DJ{p:Prop}(h:p:=by rw[hW1];exact pB w.drew _ hc):p:=h
theorem DI{p:Prop}(h:p:=by rw[<-Nat.succ_mul,<-Nat.add_mul];congr 1;omega):p:=h
theorem yN{p:Prop}(h:p:=by rw[hzs];exact hfit):p:=h
theorem afu{p:Prop}(h:p:=by rw[hzb];exact growslice_fits (by omega) hbig):p:=h
theorem dQ{p:Prop}(h:p:=by simp[Ring.row]):p:=h
theorem i4{p:Prop}(h:p:=by simp[Call.row]):p:=h
theorem mM{p:Prop}(h:p:=by simp[Answer.row]):p:=h
theorem lW{p:Prop}(h:p:=by simp[Task.row]):p:=h
theorem sw{p:Prop}(h:p:=by simp[dK,Task.row]):p:=h
theorem bp{p:Prop}(h:p:=by simp[Hub.row]):p:=h
theorem afs{p:Prop}(h:p:=by rw[BitVec.ofInt_natCast,BitVec.toNat_ofNat];exact Nat.mod_eq_of_lt (by omega)):p:=h
theorem uZ{p:Prop}(h:p:=by simp[cC]):p:=h
theorem uY{p:Prop}(h:p:=by simp[cR]):p:=h
theorem K8{p:Prop}(h:p:=by rw[<-List.drop_eq_getElem_cons hj,List.take_append_drop]):p:=h
theorem yM{p:Prop}(h:p:=by simp only[Nat.add_sub_cancel];rwa[hy]):p:=h
theorem uX{p:Prop}(h:p:=by unfold dh at hl;omega):p:=h
theorem su{p:Prop}(h:p:=by rw[c2];simp):p:=h
theorem n8{p:Prop}(h:p:=by simp[Hub.row,c2]):p:=h
theorem n7{p:Prop}(h:p:=by rw[c3];simp):p:=h
theorem nZ{p:Prop}(h:p:=by simp[Doc.row,Doc.row]):p:=h
theorem DH{p:Prop}(h:p:=by have:=h2 h0;simpa using this.symm):p:=h
theorem afr{p:Prop}(h:p:=by simp;exact aR (by omega)):p:=h
theorem sr{p:Prop}(h:p:=by unfold dX at hc;omega):p:=h
theorem sq{p:Prop}(h:p:=by simp[Answer.row,Answer.zero]):p:=h
theorem yL{p:Prop}(h:p:=by simp only at h;omega):p:=h
theorem yK{p:Prop}(h:p:=by simp only at h4;omega):p:=h
theorem yJ{p:Prop}(h:p:=by rw[<-htold];rfl):p:=h
theorem yI{p:Prop}(h:p:=by rw[hsuc];simp only;rw[hq];exact h):p:=h
theorem bS{p:Prop}(h:p:=by simp[Wld.row]):p:=h
theorem pO{p:Prop}(h:p:=by simp[Wld.row,r1,r2,r3,r4,r5]):p:=h
theorem afq{p:Prop}(h:p:=by simp;exact(Go.IntWalk.i64_in _ (by omega)).symm):p:=h
theorem so{p:Prop}(h:p:=by have:=c1.2.2.2.2.1;omega):p:=h
theorem sm{p:Prop}(h:p:=by have:=Bd htk.1;omega):p:=h
theorem sk{p:Prop}(h:p:=by rw[<-hq0];exact q):p:=h
theorem afp{p:Prop}(h:p:=by have:=Nat.mul_le_mul_right 5 (show i+1<=n by omega);omega):p:=h
theorem afo{p:Prop}(h:p:=by rw[hql,fu,List.map_cons,List.drop_one,List.tail_cons];exact List.take_of_length_le (by simp)):p:=h
theorem iZ{p:Prop}(h:p:=by rw[fz]):p:=h
theorem afn{p:Prop}(h:p:=by have:=Nat.mul_le_mul_right 2 (show i+1<=n by omega);omega):p:=h
theorem DG{p:Prop}(h:p:=by rw[nE c]at hy;simp at hy):p:=h
theorem sj{p:Prop}(h:p:=by simp[ASt.quiet,qT,qH,AV.q,AV.qL,AObj.q]):p:=h
theorem yH{p:Prop}(h:p:=by subst hZ;simp;try omega):p:=h
theorem afm{p:Prop}(h:p:=by subst hZ;rw[List.getElem_append_right (by rw[List.length_take];exact Nat.min_le_left _ _)];simp[Nat.min_eq_left hal]):p:=h
theorem nY{p:Prop}(h:p:=by rw[List.length_take];exact Nat.min_le_left _ _):p:=h
theorem yG{p:Prop}(h:p:=by have:=j9 (f:=λx:List CD=>x) hZm hZe (λrow=>row.set 1 d);rw[List.map_id']at this;exact this):p:=h
theorem afl{p:Prop}(h:p:=by subst hZ;rw[List.set_append_right _ _ (by rw[List.length_take];exact Nat.min_le_left _ _)];simp[Nat.min_eq_left hal]):p:=h
theorem yF{p:Prop}(h:p:=by rw[List.getElem?_eq_getElem hZm,hZe]):p:=h
theorem nX{p:Prop}(h:p:=by unfold cL at hm;omega):p:=h
theorem pN{p:Prop}(h:p:=by unfold bk;rw[List.getElem?_eq_getElem ha];simp only[hke]):p:=h
theorem pM{p:Prop}(h:p:=by unfold cL at hpl;omega):p:=h
theorem afk{p:Prop}(h:p:=by unfold bk;rw[List.getElem?_eq_none (by omega),List.getElem?_eq_getElem hs]):p:=h
theorem afj{p:Prop}(h:p:=by unfold dZ;rw[List.getElem?_eq_none (by omega)]):p:=h
theorem gv{p:Prop}(h:p:=by simp[hR]):p:=h
theorem mK{p:Prop}(h:p:=by simp[WH hl6]):p:=h
theorem DF{p:Prop}(h:p:=by simp[z1,z2,z3,z4,z5,z6,hq6]):p:=h
theorem K7{p:Prop}(h:p:=by simp[hr0,aQ,g0,gk,g1,g2,g3,g4,g5,gr,fH.refl]):p:=h
theorem DE{p:Prop}(h:p:=by simp[pn hl6,nn hl6]):p:=h
theorem DD{p:Prop}(h:p:=by simp[z2,z3,z4,z5,z6,hqr]):p:=h
theorem fj{p:Prop}(h:p:=by simp[z1,z2,z3,z4,z6,hqr]):p:=h
theorem uW{p:Prop}(h:p:=by simp[Wld.row,u0,u1,u2,u3,u4]):p:=h
theorem si{p:Prop}(h:p:=by simp;exact⟨rfl,rfl,rfl,rfl⟩):p:=h
theorem yE{p:Prop}(h:p:=by simp[Wld.row,u0,u1,u2,u3,u4,u5,hbig1]):p:=h
theorem DC{p:Prop}(h:p:=by simp[u0,u1,u2,u3,u4,u5,hbig1]):p:=h
theorem yD{p:Prop}(h:p:=by simp[Wld.row,hbig1]):p:=h
theorem K6{p:Prop}(h:p:=by simp[aK,Wld.row,Wld.markT,hbig1,hc1,zc1,hc2,zc2,hc3,zc3]):p:=h
namespace Go.AM
open Go.RowKit
inductive CD where
 |v (u:Value)
 |s (rows:List (List CD))
 |h (k:Nat) (H:Option (Nat×Nat×Nat)) (sz len:Nat)
 deriving Inhabited
def plain:Value->Bool
 | .bool _ | .int _ _ | .string _=>true
 | .slice none 0 0=>true
 | .func (.func _) f c=>f.size==0&&c.size==0
 |_=>false
abbrev Hd:=Option (Nat×Nat×Nat)
def SlV:Hd->(sz off len:Nat)->Value->Prop
 |none,_,_,len,x=>(∃a,x=.slice a 0 0)/\len=0
 |some (b,o,C),sz,off,len,x=>(x=.slice (some ⟨b,o+off*sz,none⟩) len (C-off)/\off+len<=C)\/(len=0/\0<off/\∃a,x=.slice a 0 0)
def MlS(k sz len:Nat):Prop:=0<len\/(sz=1/\50000<=k)\/70000<=k
instance {k sz len:Nat}:Decidable (MlS k sz len):=inferInstanceAs (Decidable (0<len\/(sz=1/\50000<=k)\/70000<=k))
theorem MlS.pos{k sz len:Nat}(h:0<len):MlS k sz len:=.inl h
theorem MlS.key{k len:Nat}(h:50000<=k):MlS k 1 len:=.inr (.inl ⟨rfl,h⟩)
theorem MlS.free{k sz len:Nat}(h:70000<=k):MlS k sz len:=.inr (.inr h)
def HdE:Hd->Hd->Prop
 |some (b,o,_),some (b',o',_)=>b=b'/\o=o'
 |none,none=>True
 |_,_=>False
theorem Vx(H:Hd):HdE H H:=by
 cases H with
 |none=>trivial
 |some q=>exact⟨rfl,rfl⟩
theorem HdE.some_of{b o C:Nat}{H:Hd}(h:HdE (some (b,o,C)) H):∃C',H=some (b,o,C'):=by
 cases H with
 |none=>exact h.elim
 |some q=>obtain⟨b',o',C'⟩:=q;obtain⟨rfl,rfl⟩:=h;exact⟨C',rfl⟩
def MlV(k:Nat)(H:Hd)(sz len:Nat)(x:Value):Prop:=(MlS k sz len/\SlV H sz 0 len x)\/(len=0/\¬MlS k sz len/\∃a c,x=.slice a 0 c)
theorem MlV.slice{k:Nat}{H:Hd}{sz len:Nat}{x:Value}(h:MlV k H sz len x):∃a c,x=.slice a len c:=by
 rcases h with⟨hp,hs⟩|⟨rfl,-,a,c,rfl⟩
 ·cases H with
  |none=>obtain⟨⟨a,rfl⟩,rfl⟩:=hs;exact⟨_,_,rfl⟩
  | some q =>
    obtain⟨b,o,C⟩:=q;rcases hs with⟨rfl,_⟩|⟨rfl,_⟩
    ·exact⟨_,_,rfl⟩
    ·omega
 ·exact⟨a,c,rfl⟩
inductive Rd(w:World)(x:Bool):(Nat->Prop)->Value->CD->Prop
 |plain {S:Nat->Prop}{u:Value}(h:plain u=true):Rd w x S u (.v u)
 |h {S:Nat->Prop}(k:Nat) (H:Hd) (sz len:Nat) (u:Value) (h:MlS k sz len->SlV H sz 0 len u) (he:len=0->¬MlS k sz len->Rd w x S u (.s [])):Rd w x S u (.h k H sz len)
 |empty {S:Nat->Prop}(a:Option Addr) (cap:Nat) (h:x=true->cap=0):Rd w x S (.slice a 0 cap) (.s [])
 |slice {S:Nat->Prop}(b off cap sz:Nat) (cs:Array Value) (T:TypeId) (fr:Nat×Nat) (rows:List (List CD)) (F:Nat->Nat->Nat->Prop)
  (hcap:rows.length<=cap) (hmax:cap<=maxLen) (hsz:0<sz) (hS:S b) (hb:w.heap[b]? = some (.cells cs T fr)) (hfit:off+rows.length*sz<=cs.size)
  (hown:x=true->fr=(0,0)/\off+cap*sz<=cs.size)
  (hF:∀i j c,F i j c->S c/\(x=true->c≠b))
  (hd:x=true->∀i j i' j' c,F i j c->F i' j' c->i=i'/\j=j')
  (hlen:∀row∈rows,row.length=sz)
  (hr:∀i j row d,rows[i]? = some row->row[j]? = some d->Rd w x (F i j) (cs.getD (off+(i*sz+j)) undef) d) :
  Rd w x S (.slice (some ⟨b,off,none⟩) rows.length cap) (.s rows)
theorem Rd.empty_slice{w:World}{x:Bool}{S:Nat->Prop}{u:Value}(h:Rd w x S u (.s [])):∃a c,u=.slice a 0 c:=by
 cases h with
 |empty a cap h=>exact⟨a,cap,rfl⟩
 |slice b off cap=>exact⟨_,cap,rfl⟩
theorem Rd.mlv{w:World}{x:Bool}{S:Nat->Prop}{u:Value}{k:Nat}{H:Hd}{sz len:Nat}(h:Rd w x S u (.h k H sz len)):MlV k H sz len u:=by
 cases h with
 | h _ _ _ _ _ h he =>
   by_cases h0:MlS k sz len
   ·exact .inl ⟨h0,h h0⟩
   ·have hl:len=0:=nR (λh=>h0 (.inl h))
    exact .inr ⟨hl,h0,(he hl h0).empty_slice⟩
theorem fM{w:World}{b:Nat}{o:Obj}(h:w.heap[b]? = some o):b<w.heap.size:=by
 rcases ig b w.heap.size with h'|h'
 ·exact h'
 ·simp[Array.getElem?_eq_none h']at h
theorem Rd.map{w w':World}{x:Bool}{S S':Nat->Prop}{u:Value}{d:CD}(h:Rd w x S u d)
 (hw:∀b,S b->b<w.heap.size->w'.heap[b]? = w.heap[b]?) (hS:∀b,S b->b<w.heap.size->S' b):Rd w' x S' u d:=by
 induction h generalizing S' with
 |plain h=>exact .plain h
 |h k H sz len u h he ih=>exact .h k H sz len u h (λh0 h1=>ih h0 h1 hw hS)
 |empty a cap h=>exact .empty a cap h
 | slice b off cap sz cs T fr rows F hcap hmax hsz hSb hb hfit hown hF hd hlen hr ih =>
   have hlt:=fM hb;refine .slice b off cap sz cs T fr rows (λi j c=>F i j c/\c<w.heap.size) hcap hmax hsz (hS b hSb hlt) ((hw b hSb hlt).trans hb) hfit hown ?_ ?_ hlen ?_
   ·rintro i j c ⟨hc,hl⟩
    exact⟨hS c (hF i j c hc).1 hl,(hF i j c hc).2⟩
   ·rintro hx i j i' j' c ⟨hc,_⟩ ⟨hc',_⟩
    exact hd hx i j i' j' c hc hc'
   ·intro i j row d h1 h2
    exact ih i j row d h1 h2 (λc hc hl=>hw c (hF i j c hc).1 hl) (λc hc hl=>⟨hc,hl⟩)
theorem Rd.weaken{w:World}{x:Bool}{S:Nat->Prop}{u:Value}{d:CD}(h:Rd w x S u d):Rd w false S u d:=by
 induction h with
 |plain h=>exact .plain h
 |h k H sz len u h he ih=>exact .h k H sz len u h ih
 |empty a cap h=>exact .empty a cap eS
 | slice b off cap sz cs T fr rows F hcap hmax hsz hSb hb hfit hown hF hd hlen hr ih =>
   exact .slice b off cap sz cs T fr rows F hcap hmax hsz hSb hb hfit eS (λi j c hc=>⟨(hF i j c hc).1,eS⟩) eS hlen ih
theorem Rd.within{w:World}{x:Bool}{S:Nat->Prop}{u:Value}{d:CD}(h:Rd w x S u d):Rd w x (λb=>S b/\b<w.heap.size) u d:=
 h.map (λ_ _ _=>rfl) (λ_ hs hl=>⟨hs,hl⟩)
inductive AV where
 |any|un|nil
 |v (u:Value)
 |ro (rows:List (List CD))
 |sl (k:Nat) (H:Hd) (sz off len:Nat)
 |p (k b c:Nat)
 |e (k:Nat) (H:Hd) (sz r c:Nat)
 |rp (row:List CD)
 |agg (l:List AV)
 |tup (l:List AV)
 |clo (f:Nat) (l:List AV)
 |cv (u:Value) (len:Nat)
 |ml (k:Nat) (H:Hd) (sz len:Nat)
 |is (u:Value)
 deriving Inhabited
inductive VRel(w:World)(M:Nat->Prop):AV->Value->Prop
 |any (x:Value):VRel w M .any x
 |un:VRel w M .un undef
 |nil:VRel w M .nil (.slice none 0 0)
 |v (u:Value) (h:plain u=true):VRel w M (.v u) u
 |ro (rows:List (List CD)) (x:Value) (h:Rd w false (λb=>¬M b) x (.s rows)):VRel w M (.ro rows) x
 |sl (k:Nat) (H:Hd) (sz off len:Nat) (x:Value) (h:SlV H sz off len x):VRel w M (.sl k H sz off len) x
 |cv (u:Value) (len:Nat) (h:∃a c,u=.slice a len c):VRel w M (.cv u len) u
 |ml (k:Nat) (H:Hd) (sz len:Nat) (x:Value) (h:MlV k H sz len x):VRel w M (.ml k H sz len) x
 |is (u:Value):VRel w M (.is u) u
 |p (k b c:Nat):VRel w M (.p k b c) (.pointer (some ⟨b,c,none⟩))
 |e (k b o C sz r c:Nat):VRel w M (.e k (some (b,o,C)) sz r c) (.pointer (some ⟨b,o+r*sz+c,none⟩))
 |rp (row:List CD) (b o:Nat) (cs:Array Value) (T:TypeId) (fr:Nat×Nat) (hM:¬M b) (hb:w.heap[b]? = some (.cells cs T fr)) (hfit:o+row.length<=cs.size)
  (hr:∀j d,row[j]? = some d->Rd w false (λb=>¬M b) (cs.getD (o+j) undef) d):VRel w M (.rp row) (.pointer (some ⟨b,o,none⟩))
 |agg (l:List AV) (xs:Array Value) (hs:xs.size=l.length) (h:∀i av,l[i]? = some av->VRel w M av (xs.getD i undef)):VRel w M (.agg l) (.agg xs)
 |tup (l:List AV) (xs:Array Value) (hs:xs.size=l.length) (h:∀i av,l[i]? = some av->VRel w M av (xs.getD i undef)):VRel w M (.tup l) (.tuple xs)
 |clo (f:Nat) (l:List AV) (xs:Array Value) (hs:xs.size=l.length) (h:∀i av,l[i]? = some av->VRel w M av (xs.getD i undef)):VRel w M (.clo f l) (.func (.func f) #[] xs)
structure Tr(M:Nat->Prop)(w:World)(M':Nat->Prop)(w':World):Prop where
 size:w.heap.size<=w'.heap.size
 frame:∀b,b<w.heap.size->¬M b->w'.heap[b]? = w.heap[b]?
 mono:∀b,b<w.heap.size->M' b->M b
theorem Tr.refl(M:Nat->Prop)(w:World):Tr M w M w:=⟨aH _,λ_ _ _=>rfl,λ_ _ h=>h⟩
theorem Tr.trans{M M' M'':Nat->Prop}{w w' w'':World}(h:Tr M w M' w')(k:Tr M' w' M'' w''):Tr M w M'' w'':=
 ⟨dP h.size k.size,λb hb hM=>(k.frame b (cg hb h.size) (λh'=>hM (h.mono b hb h'))).trans (h.frame b hb hM),
  λb hb hM=>h.mono b hb (k.mono b (cg hb h.size) hM)⟩
theorem Rd.tr{M M':Nat->Prop}{w w':World}{x:Bool}{u:Value}{d:CD}(h:Rd w x (λb=>¬M b) u d)(t:Tr M w M' w'):Rd w' x (λb=>¬M' b) u d:=
 h.map (λb hb hl=>t.frame b hl hb) (λb hb hl hM=>hb (t.mono b hl hM))
theorem VRel.tr{M M':Nat->Prop}{w w':World}{av:AV}{x:Value}(h:VRel w M av x)(t:Tr M w M' w'):VRel w' M' av x:=by
 induction h with
 |any x=>exact .any x
 |un=>exact .un
 |nil=>exact .nil
 |v u h=>exact .v u h
 |ro rows x h=>exact .ro rows x (h.tr t)
 |sl k H sz off len x h=>exact .sl k H sz off len x h
 |cv u len h=>exact .cv u len h
 |ml k H sz len x h=>exact .ml k H sz len x h
 |is u=>exact .is u
 |p k b c=>exact .p k b c
 |e k b o C sz r c=>exact .e k b o C sz r c
 | rp row b o cs T fr hM hb hfit hr =>
   have hlt:=fM hb;exact .rp row b o cs T fr (λh=>hM (t.mono b hlt h)) ((t.frame b hlt hM).trans hb) hfit (λj d hj=>(hr j d hj).tr t)
 |agg l xs hs _ ih=>exact .agg l xs hs ih
 |tup l xs hs _ ih=>exact .tup l xs hs ih
 |clo f l xs hs _ ih=>exact .clo f l xs hs ih
inductive AObj where
 |dead
 |vars (b:Nat) (T:TypeId) (cells:List AV)
 |rows (H:Hd) (sz:Nat) (rows:List (List CD)) (own:Bool)
 |lent (H:Hd) (sz:Nat) (rows:List (List CD))
 |part (H:Hd) (sz:Nat) (rows:List (List CD)) (lo:Nat)
 deriving Inhabited
def AObj.blk:AObj->Option Nat
 | .dead=>none
 | .vars b _ _=>some b
 | .rows (some (b,_,_)) _ _ _=>some b
 | .rows none _ _ _=>none
 | .lent _ _ _=>none
 | .part (some (b,_,_)) _ _ _=>some b
 | .part none _ _ _=>none
abbrev AH:=List (Nat×AObj)
def AH.get:AH->Nat->AObj
 | [],_=>.dead
 |(k,o)::h,j=>if j=k then o else AH.get h j
def AH.M(h:AH)(b:Nat):Prop:=∃k,(h.get k).blk=some b
def fv(w:World)(M E:Nat->Prop):AObj->Prop
 | .dead=>True
 | .vars b T cells=>∃cs,w.heap[b]? = some (.cells cs T (0,0))/\cs.size=cells.length/\∀j av,cells[j]? = some av->VRel w M av (cs.getD j undef)
 | .rows none _ rows _=>rows=[]
 | .rows (some (b,o,C)) sz rows own=>∃(cs:Array Value) (T:TypeId) (F:Nat->Nat->Nat->Prop),w.heap[b]? = some (.cells cs T (0,0))/\rows.length<=C/\C<=maxLen/\0<sz/\o+C*sz<=cs.size /\
  (∀row∈rows,row.length=sz)/\(∀i j c,F i j c->(own=true->E c)/\¬M c)/\(own=true->∀i j i' j' c,F i j c->F i' j' c->i=i'/\j=j') /\
  (∀i j row d,rows[i]? = some row->row[j]? = some d->Rd w own (F i j) (cs.getD (o+(i*sz+j)) undef) d)
 | .lent H sz rows=>(∀row∈rows,row.length=sz)/\(rows≠[]->∃b o C,H=some (b,o,C)/\rows.length<=C)/\∀x,SlV H sz 0 rows.length x->Rd w false (λb=>¬M b) x (.s rows)
 | .part none _ rows _=>rows=[]
 | .part (some (b,o,C)) sz rows lo=>∃(cs:Array Value) (T:TypeId) (F:Nat->Nat->Nat->Prop),w.heap[b]? = some (.cells cs T (0,0))/\rows.length<=C/\C<=maxLen/\0<sz/\o+C*sz<=cs.size /\
  (∀row∈rows,row.length=sz)/\(∀i j c,F i j c->(lo<=i->E c)/\¬M c)/\(∀i j i' j' c,lo<=i->lo<=i'->F i j c->F i' j' c->i=i'/\j=j') /\
  (∀i j row d,rows[i]? = some row->row[j]? = some d->Rd w (decide (lo<=i)) (F i j) (cs.getD (o+(i*sz+j)) undef) d)
structure Bs where
 F:Nat->Prop
 G:Nat->Prop
 loose:Bool:=false
 L:World->Prop:=λ_=>True
structure BelowF(F:Nat->Prop)(w w':World):Prop where
 os:w'.os=w.os
 tape:w'.tape=w.tape
 output:w'.output=w.output
 size:w.heap.size<=w'.heap.size
 block:∀k,F k->w'.heap[k]? = w.heap[k]?
theorem BelowF.refl(F:Nat->Prop)(w:World):BelowF F w w:=⟨rfl,rfl,rfl,aH _,λ_ _=>rfl⟩
theorem BelowF.trans{F:Nat->Prop}{a b c:World}(h:BelowF F a b)(k:BelowF F b c):BelowF F a c:=
 ⟨k.os.trans h.os,k.tape.trans h.tape,k.output.trans h.output,dP h.size k.size,λi hi=>(k.block i hi).trans (h.block i hi)⟩
structure HRel(base:Bs)(h:AH)(w:World)(E:Nat->Nat->Prop):Prop where
 obj:∀k,fv w h.M (E k) (h.get k)
 inj:∀k k' b,(h.get k).blk=some b->(h.get k').blk=some b->k=k'
 low:∀k b,(h.get k).blk=some b->¬base.F b/\¬base.G b
 elow:∀k c,E k c->¬base.G c/\c<w.heap.size
 einj:∀k k' c,E k c->E k' c->k=k'
 em:∀k c,E k c->¬h.M c
structure ASt where
 n:Nat
 kb:Nat
 t:List (Nat×AV)
 h:AH
def bM:List (Nat×AV)->Nat->AV
 | [],_=>.any
 |(k,o)::h,j=>if j=k then o else bM h j
structure Rep(w0:World)(base:Bs)(st:ASt)(a:Act)(w:World):Prop where
 dfr:a.defers=[]
 size:a.tmps.size=st.n
 tmp:∀i,VRel w st.h.M (bM st.t i) (a.tmps.getD i undef)
 heap:∃E,HRel base st.h w E
 below:BelowF base.F w0 w
 base_le:∀b,base.F b\/base.G b->b<w.heap.size
theorem HRel.lt{base:Bs}{h:AH}{w:World}{E:Nat->Nat->Prop}(H:HRel base h w E){k b:Nat}(hk:(h.get k).blk=some b):b<w.heap.size:=by
 have:=H.obj k
 revert hk this
 cases h.get k with
 |dead=>intro hk;simp[AObj.blk]at hk
 | vars b' T cells =>
   rintro hk ⟨cs,hb,_⟩
   simp only[AObj.blk,eP]at hk;subst hk;exact fM hb
 | rows H' sz rows own =>
   exact NI
 |lent=>intro hk;simp[AObj.blk]at hk
 | part H' sz rows lo =>
   exact NI
theorem fv.tr{M M' E E':Nat->Prop}{w w':World}{o:AObj}(h:fv w M E o)(t:Tr M w M' w')(hb:∀b,o.blk=some b->w'.heap[b]? = w.heap[b]?)
 (hE:∀c,E c->c<w.heap.size->E' c):fv w' M' E' o:=by
 cases o with
 |dead=>exact h
 | vars b T cells =>
   obtain⟨cs,h1,h2,h3⟩:=h;exact⟨cs,(hb b rfl).trans h1,h2,λj av hj=>(h3 j av hj).tr t⟩
 | rows H sz rows own =>
   cases H with
   |none=>exact h
   | some q =>
     obtain⟨b,o,C⟩:=q;obtain⟨cs,T,F,h1,h2,h3,h4,h5,h6,h7,h8,h9⟩:=h;refine⟨cs,T,λi j c=>F i j c/\c<w.heap.size,(hb b rfl).trans h1,h2,h3,h4,h5,h6,?_,?_,?_⟩
     ·exact MS
     ·rintro ho i j i' j' c ⟨hc,_⟩ ⟨hc',_⟩
      exact h8 ho i j i' j' c hc hc'
     ·exact M0
 | lent H sz rows =>
   obtain⟨h1,h2,h3⟩:=h;exact⟨h1,h2,λx hx=>(h3 x hx).tr t⟩
 | part H sz rows lo =>
   cases H with
   |none=>exact h
   | some q =>
     obtain⟨b,o,C⟩:=q;obtain⟨cs,T,F,h1,h2,h3,h4,h5,h6,h7,h8,h9⟩:=h;refine⟨cs,T,λi j c=>F i j c/\c<w.heap.size,(hb b rfl).trans h1,h2,h3,h4,h5,h6,?_,?_,?_⟩
     ·exact MS
     ·rintro i j i' j' c ho ho' ⟨hc,_⟩ ⟨hc',_⟩
      exact h8 i j i' j' c ho ho' hc hc'
     ·exact M0
structure TI where
 agg:Bool:=false
 n:Nat:=1
 zero:List AV
 fields:List (Nat×Nat):=[]
 fagg:List Bool:=[]
 sl:Option Nat:=none
 bytes:Nat
 kind:Option IntKind:=none
 pln:Bool:=true
 str:Bool:=false
 boo:Bool:=false
 ieq:Bool:=false
structure Env where
 P:Program
 T:Nat->Option TI
 w0:World
 base:Bs
def cAV:Value->AV
 | .int k n=>.v (.int k n)
 | .bool b=>.v (.bool b)
 | .string s=>.v (.string s)
 | .slice none 0 0=>.nil
 |_=>.any
def ASt.ev(st:ASt):Operand->AV
 | .tmp t=>bM st.t t
 | .const v=>cAV v
 | .func f=>.v (.func (.func f) #[] #[])
 | .global _=>.any
def toAV:CD->AV
 | .v u=>.v u
 | .s rows=>.ro rows
 | .h k H sz len=>.ml k H sz len
def Ji:AV->CD
 | .v u=>.v u
 |_=>.s []
def bQ(st:ASt)(d:Option Nat)(v:AV)(K:ASt->Prop):Prop:=
 match d with
 |none=>K st
 |some d=>d<st.n/\K { st with t:=(d,v)::st.t }
def ASt.aft(st:ASt)(d:Option Nat)(av:AV)(h:AH):ASt:=
 match d with
 |none=>{ st with h:=h }
 |some d=>{ st with h:=h,t:=(d,av)::st.t }
def ASt.key(st:ASt)(d:Option Nat):Nat:=
 match d with
 |none=>st.kb
 |some d=>st.kb+16*d
def Env.isBool(E:Env)(T:Nat):Prop:=
 match E.T T with
 |some ti=>ti.boo=true
 |none=>False
def Env.isStr(E:Env)(T:Nat):Prop:=
 match E.T T with
 |some ti=>ti.str=true
 |none=>False
def Env.known(E:Env)(T:Nat):Prop:=
 match E.T T with
 |some _=>True
 |none=>False
def iL(tb:Prop)(op:BinOp)(x y:Value)(K:AV->Prop):Prop:=
 match op,x,y with
 | .add,.int k a,.int k' b=>k=k'/\K (.v (.int k (k.wrap (a+b))))
 | .sub,.int k a,.int k' b=>k=k'/\K (.v (.int k (k.wrap (a-b))))
 | .mul,.int k a,.int k' b=>k=k'/\K (.v (.int k (k.wrap (a*b))))
 | .quo,.int k a,.int k' b=>k=k'/\b≠0/\K (.v (.int k (k.wrap (a.tdiv b))))
 | .rem,.int k a,.int k' b=>k=k'/\b≠0/\K (.v (.int k (a.tmod b)))
 | .and,.int k a,.int k' b=>k=k'/\K (.v (.int k (bits .and k a b)))
 | .or,.int k a,.int k' b=>k=k'/\K (.v (.int k (bits .or k a b)))
 | .xor,.int k a,.int k' b=>k=k'/\K (.v (.int k (bits .xor k a b)))
 | .shl,.int k a,.int _ b=>0<=b/\b<=k.bits/\K (.v (.int k (k.wrap (a*2^b.toNat))))
 | .shr,.int k a,.int _ b=>0<=b/\b<=k.bits/\K (.v (.int k (a / 2^b.toNat)))
 | .lss,.int k a,.int k' b=>k=k'/\K (.v (.bool (decide (a<b))))
 | .leq,.int k a,.int k' b=>k=k'/\K (.v (.bool (decide (a<=b))))
 | .gtr,.int k a,.int k' b=>k=k'/\K (.v (.bool (decide (b<a))))
 | .geq,.int k a,.int k' b=>k=k'/\K (.v (.bool (decide (b<=a))))
 | .eql,.int k a,.int k' b=>k=k'/\K (.v (.bool (decide (a=b))))
 | .neq,.int k a,.int k' b=>k=k'/\K (.v (.bool (!decide (a=b))))
 | .eql,.bool a,.bool b=>tb/\K (.v (.bool (a==b)))
 | .neq,.bool a,.bool b=>tb/\K (.v (.bool (!(a==b))))
 | .add,.string a,.string b=>a.size+b.size<=140737488355328/\K (.v (.string (a++b)))
 | .eql,.string a,.string b=>K (.v (.bool (a.toList==b.toList)))
 | .neq,.string a,.string b=>K (.v (.bool (!(a.toList==b.toList))))
 | .lss,.string a,.string b=>K (.v (.bool (Op.bytesLess a.toList b.toList)))
 | .geq,.string a,.string b=>K (.v (.bool (!Op.bytesLess a.toList b.toList)))
 | .gtr,.string a,.string b=>K (.v (.bool (!(Op.bytesLess a.toList b.toList || a.toList==b.toList))))
 | .leq,.string a,.string b=>K (.v (.bool (Op.bytesLess a.toList b.toList || a.toList==b.toList)))
 |_,_,_=>False
def gL(ti:TI)(row:List CD)(K:AV->Prop):Prop:=
 if ti.agg then ti.n<=row.length/\K (.agg ((row.take ti.n).map toAV))
 else match row with
  |d::_=>K (toAV d)
  | []=>False
def ln(ti:TI)(cells:List AV)(c:Nat)(K:AV->Prop):Prop:=
 if ti.agg then c+ti.n<=cells.length/\K (.agg ((cells.drop c).take ti.n))
 else match cells[c]? with
  |some av=>K av
  |none=>False
def loadAt(ti:TI)(h:AH)(x:AV)(K:AV->Prop):Prop:=
 match x with
 | .p k b c => match h.get k with
   | .vars b' _ cells=>b=b'/\ln ti cells c K
   |_=>False
 | .e k H sz r c => match h.get k with
   | .rows H' sz' rows _=>HdE H H'/\sz=sz'/\r<rows.length/\∀row,rows[r]? = some row->gL ti (row.drop c) K
   | .lent H' sz' rows=>H=H'/\sz=sz'/\r<rows.length/\∀row,rows[r]? = some row->gL ti (row.drop c) K
   |_=>False
 | .rp row=>gL ti row K
 |_=>False
def qS(E:Env)(h:AH)(T:Nat)(x:AV)(K:AV->Prop):Prop:=
 match E.T T with
 |some ti=>loadAt ti h x K
 |none=>False
def indexAt(te:TI)(x i:AV)(K:AV->Prop):Prop:=
 match x,i with
 | .ro rows,.v (.int _ n)=>0<=n/\n<rows.length/\∀row,rows[n.toNat]? = some row->row.length=te.n/\K (.rp row)
 | .sl k H sz off len,.v (.int _ n)=>0<=n/\n<len/\sz=te.n/\K (.e k H sz (off+n.toNat) 0)
 | .ml k H sz len,.v (.int _ n)=>0<=n/\n<len/\sz=te.n/\K (.e k H sz n.toNat 0)
 |_,_=>False
def eH(E:Env)(T:Nat)(K:Nat->TI->Prop):Prop:=
 match E.T T with
 | some ti => match ti.sl with
   | some e => match E.T e with
     |some te=>K e te
     |none=>False
   |none=>False
 |none=>False
def tH(E:Env)(T:Nat)(x:AV)(K:AV->Prop):Prop:=
 match x with
 | .ro rows=>eH E T λ_ _=>K (.v (.int .i64 rows.length))
 | .sl _ _ _ _ len=>eH E T λ_ _=>K (.v (.int .i64 len))
 | .cv _ len=>eH E T λ_ _=>K (.v (.int .i64 len))
 | .ml _ _ _ len=>eH E T λ_ _=>K (.v (.int .i64 len))
 | .nil=>eH E T λ_ _=>K (.v (.int .i64 0))
 | .v (.slice none 0 0)=>eH E T λ_ _=>K (.v (.int .i64 0))
 | .v (.string s)=>E.isStr T/\K (.v (.int .i64 s.size))
 |_=>False
def fieldAt(ti:TI)(f:Nat)(x:AV)(K:AV->Prop):Prop:=
 match ti.fields[f]? with
 | some (off, _) => match x with
   | .p k b c=>K (.p k b (c+off))
   | .e k H sz r c=>K (.e k H sz r (c+off))
   | .rp row=>off<=row.length/\K (.rp (row.drop off))
   |_=>False
 |none=>False
def qB(E:Env)(T f:Nat)(x:AV)(K:AV->Prop):Prop:=
 match E.T T with
 |some ti=>fieldAt ti f x K
 |none=>False
def iW{α:Type}:List α->Nat->List α->List α
 |l,_,[]=>l
 | [],_,_::_=>[]
 |_::l,0,v::vs=>v::iW l 0 vs
 |x::l,c+1,v::vs=>x::iW l c (v::vs)
def AV.cells:AV->List AV
 | .agg l=>l
 |x=>[x]
def AV.one:AV->Bool
 | .nil=>true
 |AV.v _=>true
 | .ro _=>true
 | .sl ..=>true
 | .p ..=>true
 |AV.e ..=>true
 | .rp _=>true
 | .clo ..=>true
 | .cv ..=>true
 | .ml ..=>true
 |_=>false
def oD(fields:List (Nat×Nat))(cells:List AV)(parts:List (Nat×AV))(K:List AV->Prop):Prop:=
 match parts with
 | []=>K cells
 | (i, v) :: rest => match fields[i]? with
   |some (off,n)=>v.cells.length=n/\off+n<=cells.length/\(v.cells.all AV.one)=true/\oD fields (iW cells off v.cells) rest K
   |none=>False
def pa(E:Env)(T:Nat)(parts:List (Nat×AV))(K:AV->Prop):Prop:=
 match E.T T with
 |some ti=>ti.agg=true/\oD ti.fields ti.zero parts (λl=>K (.agg l))
 |none=>False
def yg(E:Env)(s d:Nat)(x:AV)(K:AV->Prop):Prop:=
 E.known s/\match E.T d with
 | some ti => match ti.kind, x with
   |some k,.v (.int _ n)=>K (.v (.int k (k.wrap n)))
   |_,_=>False
 |none=>False
def cut{α:Type}(rows:List α)(off len:Nat):List α:=if off=0/\len=rows.length then rows else(rows.drop off).take len
def iE(b:UInt8):List CD:=[.v (.int .u8 b.toNat)]
def GE(E:Env)(s d:Nat)(rows:List (List CD))(K:AV->Prop):Prop:=
 E.isStr d/\eH E s λ_ te=>te.kind=some .u8/\∃l:List UInt8,rows=l.map iE/\K (.v (.string ⟨l.toArray⟩))
def mE(E:Env)(h:AH)(s d:Nat)(x:AV)(K:AV->Prop):Prop:=
 match x with
 | .v u=>yg E s d (.v u) K
 | .ro rows=>GE E s d rows K
 | .sl k H sz off len => match h.get k with
   | .rows H' sz' rows _=>H=H'/\sz=sz'/\off+len<=rows.length/\GE E s d (cut rows off len) K
   |_=>False
 |_=>False
def Cb(x y:AV)(K:AV->Prop):Prop:=
 match x,y with
 | .v (.int k a),.v (.int _ b)=>K (.v (.int k (if b<a then b else a)))
 |_,_=>False
def I0(x y:AV)(K:AV->Prop):Prop:=
 match x,y with
 | .v (.int k a),.v (.int _ b)=>K (.v (.int k (if a<b then b else a)))
 |_,_=>False
def AV.norm:AV->AV
 | .ml k H sz len=>if MlS k sz len then .sl k H sz 0 len else .any
 | .v (.slice none 0 0)=>.nil
 |x=>x
theorem VRel.norm{w:World}{M:Nat->Prop}{s:AV}{u:Value}(h:VRel w M s u):VRel w M s.norm u:=by
 unfold AV.norm
 split
 ·split
  ·rename_i h0
   cases h with
   | ml _ _ _ _ _ h =>
     rcases h with⟨_,h⟩|⟨_,h,_⟩
     ·exact .sl _ _ _ _ _ _ h
     ·exact absurd h0 h
  ·exact .any _
 ·cases h;exact .nil
 ·exact h
def eW(x:Option AV)(z:Nat)(K:Nat->Prop):Prop:=
 match x with
 |none=>K z
 |some (.v (.int _ n))=>0<=n/\K n.toNat
 |_=>False
def lB(E:Env)(T:Nat)(x:AV)(lo hi:Option AV)(K:AV->Prop):Prop:=
 match x.norm with
 | .ro rows=>eH E T λ_ te=>(∀row∈rows,row.length=te.n)/\eW hi rows.length λh=>h<=rows.length/\eW lo 0 λl=>l<=h/\K (.ro (cut rows l (h-l)))
 | .sl k H sz off len=>eH E T λ_ te=>sz=te.n/\eW hi len λh=>h<=len/\eW lo 0 λl=>l<=h/\K (.sl k H sz (off+l) (h-l))
 | .v (.string s)=>E.isStr T/\eW hi s.size λh=>h<=s.size/\eW lo 0 λl=>l<=h/\K (.v (.string (s.extract l h)))
 |_=>False
def qy(E:Env)(T:Nat)(x:AV)(lo hi:Option AV)(mx:AV)(K:AV->Prop):Prop:=
 match x.norm,hi with
 | .ro rows,some hv=>eH E T λ_ te=>(∀row∈rows,row.length=te.n)/\eW (some hv) 0 λh=>eW (some mx) 0 λm=>h<=m/\m<=rows.length/\eW lo 0 λl=>l<=h/\K (.ro (cut rows l (h-l)))
 | .sl k (some (b,o,_)) sz off len,some hv=>eH E T λ_ te=>sz=te.n/\off=0/\lo=none/\eW (some hv) 0 λh=>eW (some mx) 0 λm=>h<=m/\m<=len/\K (.ml k (some (b,o,m)) sz h)
 | .sl k none sz _ len,some hv=>eH E T λ_ te=>sz=te.n/\lo=none/\eW (some hv) 0 λh=>eW (some mx) 0 λm=>h<=m/\m<=len/\K (.ml k none sz 0)
 |_,_=>False
def I3(E:Env)(T:Nat)(x i:AV)(K:AV->Prop):Prop:=
 match x,i with
 | .v (.string s),.v (.int _ n)=>E.isStr T/\0<=n/\∃h:n.toNat<s.size,K (.v (.int .u8 (s[n.toNat]'h).toNat))
 |_,_=>False
def nN(x:AV)(K:Bool->Prop):Prop:=
 match x with
 | .v (.bool b)=>K b
 |_=>False
def yA(x:AV)(K:AV->Prop):Prop:=
 match x with
 | .p ..=>K x
 |AV.e ..=>K x
 | .rp _=>K x
 | .clo ..=>K x
 | .v (.func (.func f) a b)=>K (.v (.func (.func f) a b))
 |_=>False
def gu(x:AV)(i:Nat)(K:AV->Prop):Prop:=
 match x with
 | .tup l => match l[i]? with
   |some v=>K v
   |none=>False
 |_=>False
def qu(ti:TI)(f:Nat)(x:AV)(K:AV->Prop):Prop:=
 match ti.fields[f]?,ti.fagg[f]?,x with
 | some (off, n), some b, .agg l => if b then off + n <= l.length /\ K (.agg ((l.drop off).take n)) else match l[off]? with
   |some v=>K v
   |none=>False
 |_,_,_=>False
def qA(E:Env)(T f:Nat)(x:AV)(K:AV->Prop):Prop:=
 match E.T T with
 |some ti=>qu ti f x K
 |none=>False
def Rp(x y:AV)(K:Value->Value->Prop):Prop:=
 match x,y with
 | .v a,.v b=>K a b
 |_,_=>False
def lr:List AV->Option (List Int)
 | []=>some []
 | .v (.int .i64 a)::l=>(lr l).map (a :: ·)
 |_=>none
def Rw(E:Env)(op:BinOp)(T:Nat)(l m:List AV)(K:AV->Prop):Prop:=
 match E.T T with
 | some ti => ti.ieq = true /\ match lr l, lr m with
   | some a, some b => a.length = ti.n /\ b.length = ti.n /\ match op with
     | .eql=>K (.v (.bool (decide (a=b))))
     | .neq=>K (.v (.bool (!decide (a=b))))
     |_=>False
   |_,_=>False
 |none=>False
def pK(E:Env)(op:BinOp)(T:Nat)(x y:AV)(K:AV->Prop):Prop:=
 match x,y with
 | .v a,.v b=>iL (E.isBool T) op a b K
 | .agg l,.agg m=>Rw E op T l m K
 |_,_=>False
def aCv(E:Env)(x:AV)(K:AV->Prop):Prop:=
 match x with
 | .cv u _=>∃rows,Rd E.w0 false E.base.F u (.s rows)/\K (.ro rows)
 |x=>K x
def xY(E:Env)(st:ASt)(op:Op)(K:AV->Prop):Prop:=
 match op with
 | .move x | .assign x=>K (st.ev x)
 | .pick c a b=>nN (st.ev c) λt=>(t=true->K (st.ev a))/\(t=false->K (st.ev b))
 | .build T parts=>pa E T (parts.toList.map λq=>(q.1,st.ev q.2)) K
 | .load T x=>qS E st.h T (st.ev x) K
 | .nilCheck x=>yA (st.ev x) K
 | .binOp op T x y _=>pK E op T (st.ev x) (st.ev y) K
 | .unOp .not _ x=>nN (st.ev x) λb=>K (.v (.bool (!b)))
 | .convert s d x=>mE E st.h s d (st.ev x) K
 | .makeFunc (.func f) first caps=>first.toList=[]/\K (.clo f (caps.toList.map st.ev))
 | .slice T x lo hi none=>lB E T (st.ev x) (lo.map st.ev) (hi.map st.ev) K
 | .fieldAddr T x f=>qB E T f (st.ev x) K
 | .field T x f=>qA E T f (st.ev x) K
 | .indexAddr T x i=>eH E T λ_ te=>aCv E (st.ev x) λv=>indexAt te v (st.ev i) K
 | .index T x i=>I3 E T (st.ev x) (st.ev i) K
 | .extract x i=>gu (st.ev x) i K
 |_=>False
def qZ(h:AH)(x:AV)(K:CD->AH->Bool->Prop):Prop:=
 match x with
 | .v u=>K (.v u) h true
 | .nil=>K (.s []) h true
 | .ro rows=>K (.s rows) h false
 | .sl k H sz off len => match h.get k with
   | .rows H' sz' rows own=>H=H'/\sz=sz'/\off+len<=rows.length/\K (.s (cut rows off len)) ((k,.dead)::h) own
   |_=>False
 | .ml k H sz len=>MlS k sz len/\K (.h k H sz len) h true
 |_=>False
def lF(h:AH)(l:List AV)(K:List CD->AH->Bool->Prop):Prop:=
 match l with
 | []=>K [] h true
 |a::l=>qZ h a λd h' o=>lF h' l λds h'' o'=>K (d::ds) h'' (o&&o')
def vH(a:AV)(d:CD)(h:AH):AH:=
 match a,d with
 | .sl k H sz 0 _,.s rows=>(k,.lent H sz rows)::h
 |_,_=>h
def lendL:List AV->List CD->AH->AH
 |a::l,d::ds,h=>lendL l ds (vH a d h)
 |_,_,h=>h
def F8(own:Bool)(H:Hd)(sz:Nat)(rows:List (List CD))(n:Nat):AObj:=if own then .part H sz rows n else .dead
def o9(E:Env)(st:ASt)(T:Nat)(x y:AV)(K:ASt->Prop):Prop:=
 match E.T T with
 | some ti => y.cells.length = ti.n /\ (y.cells.all AV.one) = true /\ match x with
   | .p k b c => match st.h.get k with
     | .vars b' T' cells=>b=b'/\c+y.cells.length<=cells.length/\K { st with h:=(k,.vars b T' (iW cells c y.cells))::st.h }
     |_=>False
   | .e k H sz r c => lF st.h y.cells λds h o => match h.get k with
     | .rows H' sz' rows own=>HdE H H'/\sz=sz'/\r<rows.length/\c+ds.length<=sz /\
      K { st with h:=lendL y.cells ds ((k,.rows H' sz (if c=0/\ds.length=sz then rows.set r ds else rows.modify r λrow=>iW row c ds) (own&&o))::h) }
     |_=>False
   |_=>False
 |none=>False
def isV:CD->Bool
 | .v _=>true
 |_=>false
def oL(te:TI)(h:AH)(x:AV)(K:List (List CD)->AH->Bool->Prop):Prop:=
 match x with
 | .nil=>K [] h true
 | .ro rows=>(∀row∈rows,row.length=te.n)/\(te.pln=true->∀row∈rows,∀d∈row,isV d=true)/\K rows h te.pln
 | .sl k H sz off len => match h.get k with
   | .rows H' sz' rows own=>H=H'/\sz=sz'/\sz=te.n/\off+len<=rows.length /\
    if te.pln then(∀row∈rows,∀d∈row,isV d=true)/\K (cut rows off len) h true else K (cut rows off len) ((k,F8 own H sz rows (off+len))::h) own
   | .part H' sz' rows lo=>H=H'/\sz=sz'/\sz=te.n/\off+len<=rows.length/\te.pln=false/\lo<=off/\K (cut rows off len) ((k,.part H sz rows (off+len))::h) true
   |_=>False
 |_=>False
def im(E:Env)(st:ASt)(dst:Option Nat)(T:Nat)(s x:AV)(K:ASt->Prop):Prop:=
 eH E T λ_ te=>0<te.bytes/\0<te.n /\
  match s.norm with
  | .nil=>oL te st.h x λnews h o=>news.length*te.bytes<=140737488355328 /\
   ∀H,bQ { st with h:=(st.key dst,.rows H te.n news o)::h } dst (.sl (st.key dst) H te.n 0 news.length) K
  | .sl k H0 sz off len => oL te st.h x λnews h o => match h.get k with
    | .rows H' sz' rows own=>H0=H'/\sz=sz'/\sz=te.n/\off=0/\len=rows.length/\(len+news.length)*te.bytes<=140737488355328 /\
     ∀H,bQ { st with h:=(k,.rows H te.n (rows++news) (own&&o))::h } dst (.sl k H te.n 0 (len+news.length)) K
    |_=>False
  |_=>False
def ui(te:TI)(h:AH)(parts:List (Nat×AV))(i:Nat)(K:List (List CD)->AH->Bool->Prop):Prop:=
 match parts with
 | []=>K [] h true
 |(j,v)::rest=>j=i/\v.cells.length=te.n/\(v.cells.all AV.one)=true /\
  lF h v.cells λds h' o=>ui te h' rest (i+1) λrs h'' o'=>K (ds::rs) h'' (o&&o')
def kP(E:Env)(st:ASt)(dst:Option Nat)(T len:Nat)(parts:List (Nat×AV))(K:ASt->Prop):Prop:=
 eH E T λ_ te=>0<te.n/\len=parts.length/\len*te.n<=16777216/\ui te st.h parts 0 λrs h o=>
  ∀b,bQ { st with h:=(st.key dst,.rows (some (b,0,len)) te.n rs o)::h } dst (.sl (st.key dst) (some (b,0,len)) te.n 0 len) K
def Dn(E:Env)(st:ASt)(dst:Option Nat)(T:Nat)(l c:AV)(K:ASt->Prop):Prop:=
 eH E T λ_ te=>0<te.n/\0<te.bytes/\Rp l c λx y=>match x,y with
  | .int .i64 n,.int .i64 m=>n=m/\0<=n/\n*te.bytes<=140737488355328 /\
   ∀b,bQ { st with h:=(st.key dst,.rows (some (b,0,n.toNat)) te.n (List.replicate n.toNat (te.zero.map Ji)) true)::st.h } dst (.sl (st.key dst) (some (b,0,n.toNat)) te.n 0 n.toNat) K
  |_,_=>False
def xh(E:Env)(st:ASt)(dst:Option Nat)(T:Nat)(K:ASt->Prop):Prop:=
 match E.T T with
 |some ti=>∀b,bQ { st with h:=(st.key dst,.vars b T ti.zero)::st.h } dst (.p (st.key dst) b 0) K
 |none=>False
def I5(E:Env)(st:ASt)(dst:Option Nat)(T:Nat)(x:AV)(K:ASt->Prop):Prop:=
 match E.T T with
 |some _=>(x.cells.all AV.one)=true/\∀b,bQ { st with h:=(st.key dst,.vars b T x.cells)::st.h } dst (.p (st.key dst) b 0) K
 |none=>False
def xj (P : Program) (f : Nat) : Prop := ∃ fn, P.funcs[f]? = some fn ∧ (fn.name == "runtime.NumGoroutine") = false ∧ fn.body.isNone = false
def ag(E:Env)(f:Nat)(args:List AV)(st:ASt)(dst:Option Nat)(K:ASt->Prop):Prop:=
 xj E.P f/\∀a w,Rep E.w0 E.base st a w->∀xs:Array Value,xs.size=args.length->(∀i av,args[i]? = some av->VRel w st.h.M av (xs.getD i undef)) ->
  Calls E.P f xs w λe w'=>∃v av h',e=.returned v/\K (st.aft dst av h')/\Rep E.w0 E.base (st.aft dst av h') (a.put dst v) w'/\(E.base.loose=false->Tr st.h.M w h'.M w')/\VRel w' h'.M av v
def Vh(E:Env)(st:ASt)(dst:Option Nat)(c:Call)(K:ASt->Prop):Prop:=
 match c.callee,c.args.toList,c.argTypes.toList with
 | .builtin .len,[x],[T]=>tH E T (st.ev x) λv=>bQ st dst v K
 | .builtin .min,[x,y],_=>Cb (st.ev x) (st.ev y) λv=>bQ st dst v K
 | .builtin .max,[x,y],_=>I0 (st.ev x) (st.ev y) λv=>bQ st dst v K
 | .builtin .append,[s,x],[T,T']=>T=T'/\im E st dst T (st.ev s) (st.ev x) K
 | .value (.func f),args,_=>ag E f (args.map st.ev) st dst K
 | .value (.tmp t), args, _ => match bM st.t t with
   | .clo f caps=>ag E f (args.map st.ev++caps) st dst K
   | .v (.func (.func f) _ _)=>ag E f (args.map st.ev) st dst K
   |_=>False
 |_,_,_=>False
def aOp(E:Env)(o:Oper)(st:ASt)(K:ASt->Prop):Prop:=
 match o.op with
 | .alloc T=>xh E st o.dst T K
 | .box T x=>I5 E st o.dst T (st.ev x) K
 | .buildSlice T len parts=>kP E st o.dst T len (parts.toList.map λq=>(q.1,st.ev q.2)) K
 | .makeSlice T l c=>Dn E st o.dst T (st.ev l) (st.ev c) K
 | .store T x y=>o9 E st T (st.ev x) (st.ev y) λst'=>bQ st' o.dst .un K
 | .slice T x lo hi (some mx)=>qy E T (st.ev x) (lo.map st.ev) (hi.map st.ev) (st.ev mx) λv=>bQ st o.dst v K
 | .call c=>Vh E st o.dst c K
 |op=>xY E st op λv=>bQ st o.dst v K
def lE(all:List Oper)(j:Nat):Option Nat:=(all[j]?).bind (·.dst)
def Vb(all:List Oper)(o:Oper)(st:ASt)(run skip:Prop):Prop:=
 match o.guard with
 |none=>run
 | some (j, want) => match lE all j with
   | some d => match bM st.t d with
     | .v (.bool b)=>(b=want->run)/\(b = !want->skip)
     | .un=>skip
     |_=>False
   |none=>False
def uN(E:Env)(all:List Oper):List Oper->(ASt->Prop)->ASt->Prop
 | [],K,st=>K st
 |o::rest,K,st=>Vb all o st (aOp E o st (uN E all rest K)) (bQ st o.dst .un (uN E all rest K))
def aV(E:Env)(body:Code)(Q:Exit->ASt->Prop)(st:ASt):Prop:=
 ∀a w,Rep E.w0 E.base st a w->(Code.loop body).wp E.P (λe a' w'=>∃st',Q e st'/\Rep E.w0 E.base st' a' w') a w
def aY(E:Env)(id:Nat)(ops:List Oper)(Q:Exit->ASt->Prop)(st:ASt):Prop:=
 ∀a w,Rep E.w0 E.base st a w->(Code.region id ops.toArray true).wp E.P (λe a' w'=>∃st',Q e st'/\Rep E.w0 E.base st' a' w') a w
def SR(K:ASt->Prop)(Q:Exit->ASt->Prop):Exit->ASt->Prop
 | .normal,st=>K st
 |e,st=>Q e st
def GA(id:Nat)(Q:Exit->ASt->Prop):Exit->ASt->Prop
 | .exit j,st=>if j=id then Q .normal st else Q (.exit j) st
 |e,st=>Q e st
def ic(E:Env):Code->(Exit->ASt->Prop)->ASt->Prop
 | .skip,Q,st=>Q .normal st
 | .region id ops draw,Q,st=>if draw then aY E id ops.toList Q st else uN E ops.toList ops.toList (Q .normal) st
 | .seq x y,Q,st=>ic E x (SR (ic E y Q) Q) st
 | .cond c x y,Q,st=>nN (st.ev c) λb=>(b=true->ic E x Q st)/\(b=false->ic E y Q st)
 | .block id x,Q,st=>ic E x (GA id Q) st
 | .loop x,Q,st=>aV E x Q st
 | .exit id,Q,st=>Q (.exit id) st
 | .ret,Q,st=>Q .ret st
 |_,_,_=>False
def zv:AV->Value
 | .v u=>u
 |_=>.slice none 0 0
structure TIok(P:Program)(t:Nat)(ti:TI):Prop where
 info:∃i z,P.info? t=some i/\i.size=ti.n/\i.bytes=ti.bytes/\i.zero=some z/\z.cells.toList=ti.zero.map zv/\(ti.agg=true->∃cs,z=.agg cs)
 zok:∀av∈ti.zero,av=.nil\/∃u,av=.v u/\plain u=true
 zlen:ti.zero.length=ti.n
 npos:0<ti.n
 st:ti.agg=true->∃fs:Array Field,P.underlying t=some (.struct fs)/\fs.toList.mapM (λf=>(P.info? f.type).map λi=>(f.offset,i.size))=some ti.fields /\
  ∀p∈ti.fields,0<p.2/\p.1+p.2<=ti.n
 nst:ti.agg=false->ti.fields=[]/\ti.n=1/\∃d,P.underlying t=some d/\(∀fs,d≠.struct fs)/\(∀n e,d≠.array n e)
 fa:∀fs,P.underlying t=some (.struct fs)->∀(i:Nat) (b:Bool),ti.fagg[i]? = some b->∃f:Field,fs.toList[i]? = some f/\if b then ∃gs,P.underlying f.type=some (.struct gs)else ∃d,P.underlying f.type=some d/\(∀gs,d≠.struct gs)/\(∀n e,d≠.array n e)
 sl:∀e,ti.sl=some e->P.underlying t=some (.slice e)
 kd:∀k,ti.kind=some k->P.underlying t=some (.int k)
 str:ti.str=true->P.underlying t=some .string
 boo:ti.boo=true->P.underlying t=some .bool
 ieq : ti.ieq = true → ∃ fs : Array Field, P.underlying t = some (.struct fs) ∧ P.stoodInHeld t = false ∧ P.eqGuardType P.depth t = false ∧ fs.toList.map (·.offset) = List.range ti.n ∧ ∀ f ∈ fs.toList, f.name ≠ "_" ∧ P.underlying f.type = some (.int .i64)
theorem Az{P:Program}:∀(fs:List Field) (ps:List (Nat×Nat)),fs.mapM (λf=>(P.info? f.type).map λi=>(f.offset,i.size))=some ps ->
 ∀(k:Nat) (p:Nat×Nat),ps[k]? = some p->∃(f:Field) (j:TypeInfo),fs[k]? = some f/\f.offset=p.1/\P.info? f.type=some j/\j.size=p.2
 | [],ps,h,k,p,hk=>by simp at h;subst h;simp at hk
 | f :: fs, ps, h, k, p, hk => by
   simp only[VF,Option.bind_eq_bind,Option.pure_def]at h
   cases hi:P.info? f.type with
   |none=>simp[hi]at h
   | some i =>
     cases hr:fs.mapM (λf=>(P.info? f.type).map λi=>(f.offset,i.size))with
     |none=>simp[hi,hr]at h
     | some rest =>
       simp[hi,hr]at h;subst h
       cases k with
       |zero=>simp at hk;subst hk;exact⟨f,i,rfl,rfl,hi,rfl⟩
       |succ k=>simpa using Az fs rest hr k p va
def EOk(E:Env):Prop:=(∀t ti,E.T t=some ti->TIok E.P t ti)/\∀w,BelowF E.base.F E.w0 w->E.base.L w
theorem CF{u:Value}(h:plain u=true):u.oneCell'=true:=by
 cases u<;>simp[plain,Value.oneCell']at h⊢
theorem VRel.ev{w0:World}{base:Bs}{st:ASt}{a:Act}{w:World}(hR:Rep w0 base st a w)(x:Operand):VRel w st.h.M (st.ev x) (a.eval x):=by
 cases x with
 |tmp t=>exact hR.tmp t
 | const v =>
   show VRel w st.h.M (cAV v) v
   cases v with
   |int k n=>exact .v _ rfl
   |bool b=>exact .v _ rfl
   |string s=>exact .v _ rfl
   | slice a l c =>
     unfold cAV
     split<;>first|exact .any _|(rename_i heq;first|(cases heq;exact .nil)|(exfalso;simp at heq))
   |_=>exact .any _
 |global g=>exact .any _
 |func f=>exact .v _ rfl
theorem tv{w:World}{b:Nat}{cs:Array Value}{T:TypeId}{fr:Nat×Nat}(hb:w.heap[b]? = some (.cells cs T fr)){j:Nat}(hj:j<cs.size) :
 w.cell? ⟨b,j,none⟩=some (cs.getD j undef):=by
 simp[World.cell?,hb,hj]
theorem fi(b o n:Nat):(⟨b,o,none⟩:Addr).add n=⟨b,o+n,none⟩:=by
 unfold Addr.add;split<;>simp_all
theorem CB{P:Program}{w:World}{b:Nat}{cs:Array Value}{T:TypeId}{fr:Nat×Nat}(hb:w.heap[b]? = some (.cells cs T fr)){o n:Nat}(hj:o+n<=cs.size) :
 (loadCells ⟨b,o,none⟩ n).run P w=.ok ((List.range n).map λj=>cs.getD (o+j) undef).toArray w:=by
 rw[run_loadCells w ⟨b,o,none⟩ n (λj=>cs.getD (o+j) undef) (λj hj'=>by rw[fi];exact tv hb aa)]
theorem rk{P:Program}{t:TypeId}{fs:Array Field}(h:P.underlying t=some (.struct fs))(w:World):(isAgg t).run P w=.ok true w:=by
 simp[isAgg,bj h]
theorem qI{P:Program}{t:TypeId}{d:TypeDesc}(h:P.underlying t=some d)(h1:∀fs,d≠.struct fs)(h2:∀n e,d≠.array n e)(w:World) :
 (isAgg t).run P w=.ok false w:=by
 cases d<;>first|(exact absurd rfl (h1 _))|(exact absurd rfl (h2 _ _))|simp[isAgg,bj h]
theorem eh{P:Program}{t:TypeId}{i:TypeInfo}(h:P.info? t=some i)(w:World):(sizeOf t).run P w=.ok i.size w:=by
 simp[sizeOf,typeInfo,h]
theorem jm{P:Program}{T:Nat}{ti:TI}(ht:TIok P T ti){w:World}{b o:Nat}{cs:Array Value}{T':TypeId}{fr:Nat×Nat}
 (hb:w.heap[b]? = some (.cells cs T' fr)) (hfit:o+ti.n<=cs.size) :
 (loadVar T ⟨b,o,none⟩).run P w=.ok (if ti.agg then .agg ((List.range ti.n).map λj=>cs.getD (o+j) undef).toArray else cs.getD o undef) w:=by
 obtain⟨i,z,hi,hs,-⟩:=ht.info
 cases hg:ti.agg with
 | true =>
   obtain⟨fs,hf,-⟩:=ht.st hg;simp[loadVar,rk hf,eh hi,hs,CB hb hfit]
 | false =>
   obtain⟨-,hn,d,hd,h1,h2⟩:=ht.nst hg;have:=tv hb (show o<cs.size from aa);simp[loadVar,qI hd h1 h2,this]
theorem jR{w:World}{M:Nat->Prop}{u:Value}{d:CD}(h:Rd w false (λb=>¬M b) u d):VRel w M (toAV d) u:=by
 cases d with
 |v u'=>cases h with|plain h=>exact .v _ h
 |s rows=>exact .ro _ _ h
 |h k H sz len=>exact .ml _ _ _ _ _ h.mlv
theorem oU{w:World}{M:Nat->Prop}{b o:Nat}{cs:Array Value}{T:TypeId}{fr:Nat×Nat}{row:List CD}(hfit:o+row.length<=cs.size)
 (hr:∀j d,row[j]? = some d->Rd w false (λb=>¬M b) (cs.getD (o+j) undef) d) {P:Program}{t:Nat}{ti:TI}(ht:TIok P t ti)
 (hb:w.heap[b]? = some (.cells cs T fr)) {K:AV->Prop}(h:gL ti row K) :
 ∃v av,(loadVar t ⟨b,o,none⟩).run P w=.ok v w/\VRel w M av v/\K av:=by
 unfold gL at h
 split at h
 ·rename_i hg
  obtain⟨hn,hK⟩:=h;refine⟨_,_,jm ht hb aa,?_,hK⟩;rw[an hg];refine .agg _ _ aN ?_;intro j av hj;simp only[ch,aU,cA]at hj;obtain⟨d,hd,rfl⟩:=hj
  split at hd
  ·rename_i hlt
   have:=jR (hr j d hd)
   simpa[hlt]using this
  ·exact absurd hd ab
 ·rename_i hg
  cases row with
  |nil=>exact h.elim
  | cons d rest =>
    have hag:ti.agg=false:=by simpa using hg
    obtain⟨-,hn,-⟩:=ht.nst hag;refine⟨_,_,jm ht hb (by simp at hfit;omega),?_,h⟩;rw[hag]
    simpa using jR (hr 0 d rfl)
theorem Rd.slice_inv{w:World}{x:Bool}{S:Nat->Prop}{b off n cap:Nat}{rows:List (List CD)}(h:Rd w x S (.slice (some ⟨b,off,none⟩) n cap) (.s rows))(hne:rows≠[]) :
 ∃ (sz : Nat) (cs : Array Value) (T : TypeId) (fr : Nat × Nat) (F : Nat -> Nat -> Nat -> Prop), S b /\ w.heap[b]? = some (.cells cs T fr) /\ off + rows.length * sz <= cs.size /\ (∀ row ∈ rows, row.length = sz) /\ (∀ i j c, F i j c -> S c) /\
   ∀i j row d,rows[i]? = some row->row[j]? = some d->Rd w x (F i j) (cs.getD (off+(i*sz+j)) undef) d:=by
 generalize hu:Value.slice (some ⟨b,off,none⟩) n cap=u at h
 cases h with
 |empty=>exact absurd rfl hne
 | slice b' off' cap' sz cs T fr rows F hcap hmax hsz hS hb hfit hown hF hd hlen hr =>
   injection hu with h1 h2 h3
   injection h1 with h1
   injection h1 with h4 h5 h6
   subst h4;subst h5;exact⟨sz,cs,T,fr,F,hS,hb,hfit,hlen,λi j c hc=>(hF i j c hc).1,hr⟩
theorem vG{w:World}{base:Bs}{hp:AH}{Es:Nat->Nat->Prop}(hH:HRel base hp w Es){P:Program}{t:Nat}{ti:TI}(ht:TIok P t ti){x:AV}{u:Value}
 (hx:VRel w hp.M x u) {K:AV->Prop}(h:loadAt ti hp x K) :
 ∃v av,(Instr.loadAt t u).run P w=.ok v w/\VRel w hp.M av v/\K av:=by
 unfold loadAt at h
 split at h
 ·rename_i k b c
  cases hx
  have ho:=hH.obj k
  split at h
  ·rename_i b' T cells hget
   obtain⟨rfl,h⟩:=h;rw[hget]at ho;obtain⟨cs,hb,hs,hc⟩:=ho;unfold ln at h
   split at h
   ·rename_i hg
    obtain⟨hn,hK⟩:=h;refine⟨_,_,by simpa[Instr.loadAt,Instr.sureAddr]using jm (P:=P) ht hb (o:=c) aa,?_,hK⟩;rw[an hg];refine .agg _ _ aN ?_;intro j av hj;rw[cA]at hj
    split at hj
    ·rename_i hlt
     rw[dA]at hj
     simpa[hlt]using hc _ _ hj
    ·exact absurd hj ab
   ·rename_i hg
    have hag:ti.agg=false:=by simpa using hg
    obtain⟨-,hn,-⟩:=ht.nst hag
    split at h
    ·rename_i av hav
     have hlt:c<cells.length:=(au.1 hav).1;refine⟨_,_,by simpa[Instr.loadAt,Instr.sureAddr]using jm (P:=P) ht hb (o:=c) aa,?_,h⟩;rw[hag]
     simpa using hc _ _ hav
    ·exact h.elim
  ·exact h.elim
 ·rename_i k H sz r c
  have ho:=hH.obj k
  split at h
  ·rename_i H' sz' rows own hget
   obtain⟨hHd,rfl,hlt,h⟩:=h;rw[hget]at ho
   cases hx with
   | e k b o C1 sz r c =>
     obtain⟨C,rfl⟩:=hHd.some_of;obtain⟨cs,T',F,hb,hlen,hC,hsz,hfit,hrl,hF,hd,hr⟩:=ho;have hrow:rows[r]? = some rows[r]:=aj hlt;have h:=h _ hrow
     have hle:r*sz+sz<=C*sz:=by
      have:=ao sz (show r+1<=C from aa);exact D3
     have hl:(rows[r]).length=sz:=hrl _ (ak hlt);by_cases hc:c<=sz
     ·have:=oU (M:=hp.M) (b:=b) (o:=o+r*sz+c) (cs:=cs) (row:=(rows[r]).drop c) (w:=w) (by simp only[iq,hl];omega) ?_ ht hb h
      ·obtain⟨v,av,h1,h2,h3⟩:=this
       exact Eg
      ·intro j d hj
       rw[dA]at hj;have:=(hr r (c+j) _ d hrow hj).weaken.map (λ_ _ _=>rfl) (λq hq _=>(hF _ _ _ hq).2);have e:o+r*sz+c+j=o+(r*sz+(c+j)):=aa;rw[e];exact this
     ·exact NG
  ·rename_i H' sz' rows hget
   obtain⟨rfl,rfl,hlt,h⟩:=h;rw[hget]at ho;obtain⟨hrl,hex,hrd⟩:=ho;have hne:rows≠[]:=λe=>by rw[e]at hlt;simp at hlt
   obtain⟨b0,o0,C0,rfl,hC⟩:=hex hne
   cases hx with
   | e =>
     have hRd:=hrd (.slice (some ⟨b0,o0+0*sz,none⟩) rows.length (C0-0)) (.inl ⟨rfl,aa⟩);obtain⟨sz2,cs,T',fr,F,hS,hb,hfit,hlen,hF,hr⟩:=hRd.slice_inv hne;have hrow:rows[r]? = some rows[r]:=aj hlt;have h:=h _ hrow;have hl:(rows[r]).length=sz:=hrl _ (ak hlt);have hsz2:sz2=sz:=by rw[<-hl,hlen _ (ak hlt)]
     subst hsz2
     have hle:r*sz2+sz2<=rows.length*sz2:=by
      have:=ao sz2 (show r+1<=rows.length from aa);exact D3
     have hfit2:o0+r*sz2+sz2<=cs.size:=aa;by_cases hc:c<=sz2
     ·have:=oU (M:=hp.M) (b:=b0) (o:=o0+r*sz2+c) (cs:=cs) (row:=(rows[r]).drop c) (w:=w) (by simp only[iq,hl];omega) ?_ ht hb h
      ·obtain⟨v,av,h1,h2,h3⟩:=this
       exact Eg
      ·intro j d hj
       rw[dA]at hj;have:=(hr r (c+j) _ d hrow hj).map (λ_ _ _=>rfl) (λq hq _=>hF _ _ _ hq);have e:o0+r*sz2+c+j=o0+0*sz2+(r*sz2+(c+j)):=aa;rw[e];exact this
     ·exact NG
  ·exact h.elim
 ·rename_i row
  cases hx with
  | rp row b o cs T fr hM hb hfit hr =>
    obtain⟨v,av,h1,h2,h3⟩:=oU hfit hr ht hb h;exact Eg
 ·exact h.elim
theorem ed{E:Env}(hE:EOk E){T:Nat}{K:Nat->TI->Prop}(h:eH E T K) :
 ∃e te i,E.P.underlying T=some (.slice e)/\TIok E.P e te/\E.P.info? e=some i/\i.size=te.n/\i.bytes=te.bytes/\K e te:=by
 unfold eH at h
 split at h
 ·rename_i ti hti
  split at h
  ·rename_i e he
   split at h
   ·rename_i te hte
    obtain⟨i,z,hi,h1,h2,-⟩:=(hE.1 _ _ hte).info;exact⟨e,te,i,(hE.1 _ _ hti).sl e he,hE.1 _ _ hte,hi,h1,h2,h⟩
   ·exact h.elim
  ·exact h.elim
 ·exact h.elim
theorem BY{P:Program}{w:World}{M:Nat->Prop}{T e:Nat}{te:TI}{i:TypeInfo}(hu:P.underlying T=some (.slice e))(hi:P.info? e=some i)(hs:i.size=te.n)
 {x y:AV}{u v:Value}(hx:VRel w M x u) (hy:VRel w M y v) {K:AV->Prop}(h:indexAt te x y K) :
 ∃r av,(Instr.indexAt T u v).run P w=.ok r w/\VRel w M av r/\K av:=by
 unfold indexAt at h
 split at h
 ·rename_i rows k n
  obtain⟨h0,hn,h⟩:=h
  cases hy
  cases hx with
  | ro rows x hr =>
    cases hr with
    |empty a cap=>simp at hn;omega
    | slice b off cap sz cs T' fr rows F hcap hmax hsz hS hb hfit hown hF hd hlen hr =>
      have hlt:n.toNat<rows.length:=aa;have hrow:rows[n.toNat]? = some rows[n.toNat]:=aj hlt;obtain⟨hl,hK⟩:=h _ hrow;have hl':=hlen _ (ak hlt)
      have hle:n.toNat*sz+sz<=rows.length*sz:=by
       have:=ao sz (show n.toNat+1<=rows.length from aa);exact D3
      refine⟨.pointer (some ⟨b,off+n.toNat*sz,none⟩),_,?_,.rp _ b _ cs T' fr hS hb aa ?_,hK⟩
      ·have e:te.n=sz:=by omega
       simp[Instr.indexAt,bj hu,asIntOf,h0,hn,eh hi,hs,fi,e]
      ·intro j d hj
       have:=(hr n.toNat j _ d hrow hj).map (λ_ _ _=>rfl) (λq hq _=>(hF _ _ _ hq).1);have e:off+n.toNat*sz+j=off+(n.toNat*sz+j):=aa;rw[e];exact this
 ·rename_i k H sz off len ki n
  obtain⟨h0,hn,hsz,hK⟩:=h
  cases hy
  cases hx with
  | sl k H sz off len x hx =>
    cases H with
    |none=>obtain⟨_,rfl⟩:=hx;simp at hn;omega
    | some q =>
      obtain⟨b,o,C⟩:=q;rcases hx with⟨rfl,hC⟩|⟨rfl,_⟩
      ·refine⟨.pointer (some ⟨b,o+(off+n.toNat)*sz+0,none⟩),_,?_,.e k b o C sz _ 0,hK⟩
       simp[Instr.indexAt,bj hu,asIntOf,h0,hn,eh hi,hs,fi,hsz,fg,et]
      ·simp at hn;omega
 ·rename_i k H sz len ki n
  obtain⟨h0,hn,hsz,hK⟩:=h
  cases hy
  cases hx with
  | ml k H sz len x hx =>
    rcases hx with⟨-,hx⟩|⟨rfl,-⟩
    ·cases H with
     |none=>obtain⟨_,rfl⟩:=hx;simp at hn;omega
     | some q =>
       obtain⟨b,o,C⟩:=q;rcases hx with⟨rfl,hC⟩|⟨rfl,_⟩
       ·refine⟨.pointer (some ⟨b,o+n.toNat*sz+0,none⟩),_,?_,.e k b o C sz _ 0,hK⟩
        simp[Instr.indexAt,bj hu,asIntOf,h0,hn,eh hi,hs,fi,hsz]
       ·simp at hn;omega
    ·simp at hn;omega
 ·exact h.elim
theorem B5{P:Program}{w:World}{M:Nat->Prop}{T f:Nat}{ti:TI}(ht:TIok P T ti){x:AV}{u:Value}(hx:VRel w M x u){K:AV->Prop}(h:fieldAt ti f x K) :
 ∃r av,(Instr.fieldAt T u f).run P w=.ok r w/\VRel w M av r/\K av:=by
 unfold fieldAt at h
 split at h
 ·rename_i off n hf
  have hag:ti.agg=true:=by
   exact MC
  obtain⟨fs,hu,hmap,hfs⟩:=ht.st hag;obtain⟨g,j,hg,ho,hj,hn⟩:=Az _ _ hmap _ _ hf;have hpos:=(hfs _ (aO hf)).1;simp only[pd]at hg;simp only at ho hn hpos
  have hrun:∀b o,(Instr.fieldAt T (.pointer (some ⟨b,o,none⟩)) f).run P w=.ok (.pointer (some ⟨b,o+off,none⟩)) w:=by
   intro b o;simp[Instr.fieldAt,bj hu,hg,Instr.sureAddr,fieldPlace,eh hj,hn,ho,fi];omega
  split at h
  ·cases hx;exact⟨_,_,hrun _ _,.p _ _ _,h⟩
  ·cases hx with
   | e k b o C sz r c =>
     exact⟨_,_,hrun _ _,by rw[et];exact .e _ _ _ _ _ _ _,h⟩
  ·cases hx with
   | rp row b o cs T' fr hM hb hfit hr =>
     obtain⟨hle,hK⟩:=h;refine⟨_,_,hrun _ _,.rp _ b _ cs T' fr hM hb (by simp only[iq];omega) ?_,hK⟩;intro j d hj;rw[dA]at hj;rw[et];exact hr _ _ hj
  ·exact h.elim
 ·exact h.elim
theorem Gg{P:Program}{w:World}{M:Nat->Prop}{T f:Nat}{ti:TI}(ht:TIok P T ti){x:AV}{u:Value}(hx:VRel w M x u){K:AV->Prop}(h:qu ti f x K) :
 ∃r av,(Instr.field T u f).run P w=.ok r w/\VRel w M av r/\K av:=by
 unfold qu at h
 split at h
 ·rename_i off n b l hf hb
  have hag:ti.agg=true:=by
   exact MC
  obtain⟨fs,hu,hmap,hfs⟩:=ht.st hag;obtain⟨g,j,hg,ho,hj,hn⟩:=Az _ _ hmap _ _ hf;obtain⟨g',hg',hag'⟩:=ht.fa fs hu f b hb;rw[hg]at hg'
  cases hg'
  simp only[pd]at hg;simp only at ho hn
  cases hx with
  | agg l xs hs hl =>
    cases b with
    | true =>
      obtain⟨gs,hgs⟩:=hag';obtain⟨hle,hK⟩:=h;refine⟨.agg (xs.extract off (off+n)),_,?_,.agg _ _ ?_ ?_,hK⟩
      ·simp[Instr.field,bj hu,hg,asAgg,part,rk hgs,eh hj,hn,ho]
      ·simp;omega
      ·intro i av hi
       rw[cA]at hi
       split at hi
       ·rename_i hlt
        rw[dA]at hi;have:=hl _ _ hi
        have e:(xs.extract off (off+n)).getD i undef=xs.getD (off+i) undef:=by
         simp only[aW];rw[Array.getElem?_extract,an aa]
        rw[e];exact this
       ·exact absurd hi ab
    | false =>
      obtain⟨d,hd,h1,h2⟩:=hag';simp only[tE,dv]at h
      split at h
      ·rename_i v hv
       have hlt:off<xs.size:=by rw[hs];exact(au.1 hv).1
       refine⟨xs.getD off undef,v,?_,hl _ _ hv,h⟩;simp[Instr.field,bj hu,hg,asAgg,part,qI hd h1 h2,ho,hlt]
      ·exact cM
 ·exact h.elim
theorem Hn{P:Program}{w:World}(op:BinOp)(T:TypeId)(x y:Operand){a b:Value}(ha:plain a=true):(eqGuard op T x y a b).run P w=.ok () w:=by
 unfold eqGuard
 cases a<;>simp[plain]at ha<;>(repeat' split)<;>simp_all
theorem KQ{E:Env}(hE:EOk E){w:World}{M:Nat->Prop}{op:BinOp}{T:Nat}{x y:Value}{K:AV->Prop}(h:iL (E.isBool T) op x y K) :
 ∃r av,(binOp op T x y).run E.P w=.ok r w/\VRel w M av r/\K av:=by
 unfold iL at h
 have hB:E.isBool T->E.P.underlying T=some .bool:=by
  intro hb;unfold Env.isBool at hb
  split at hb
  ·rename_i ti hti;exact(hE.1 _ _ hti).boo hb
  ·exact hb.elim
 split at h
 all_goals first
  |exact h.elim
  |(obtain⟨rfl,h⟩:=h;refine⟨_,_,?_,.v _ rfl,h⟩;simp[binOp,Op.intArith,Op.intBits,Op.intCmp,bits];done)
  |(obtain⟨rfl,h⟩:=h;refine⟨_,_,?_,.v _ rfl,h⟩;simp[binOp,Op.intCmp];rfl)
  |(obtain⟨rfl,h0,h⟩:=h;refine⟨_,_,?_,.v _ rfl,h⟩;simp[binOp,Op.intDiv,h0];done)
  |(obtain⟨h0,h1,h⟩:=h;refine⟨_,_,?_,.v _ rfl,h⟩;simp only[binOp];rw[shift_shl _ _ _ _ h0 h1];rfl)
  |(obtain⟨h0,h1,h⟩:=h;refine⟨_,_,?_,.v _ rfl,h⟩;simp only[binOp];rw[shift_shr _ _ _ _ h0 h1];rfl)
  |(obtain⟨hb,h⟩:=h;refine⟨_,_,?_,.v _ rfl,h⟩;exact run_eql_bool _ _ _ _ (hB hb))
  |(obtain⟨hb,h⟩:=h;refine⟨_,_,?_,.v _ rfl,h⟩;exact run_neq_bool _ _ _ _ (hB hb))
  |(refine⟨_,_,?_,.v _ rfl,h⟩;simp[binOp,Op.stringOp];done)
  | (rename_i a b; obtain ⟨hs, h⟩ := h; refine ⟨_, _, ?_, .v _ rfl, h⟩
     simp[binOp,Op.stringOp];omega)
theorem vX{w0:World}{base:Bs}{st:ASt}{a:Act}{w:World}(hR:Rep w0 base st a w)(l:List Operand)(xs:Array Value)(hx:xs=(l.map a.eval).toArray) :
 ∀i av,(l.map st.ev)[i]? = some av->VRel w st.h.M av (xs.getD i undef):=by
 intro i av hi;subst hx;simp only[ch,aU]at hi;obtain⟨x,hx,rfl⟩:=hi;have:(l.map a.eval).toArray.getD i undef=a.eval x:=by simp[hx]
 rw[this];exact VRel.ev hR x
theorem tq{w:World}{M:Nat->Prop}{av:AV}{u:Value}(h:VRel w M av u)(h1:av.cells.all AV.one=true) :
 u.cells.size=av.cells.length/\∀(j:Nat) (a:AV),av.cells[j]? = some a->VRel w M a (u.cells.getD j undef):=by
 cases h with
 |agg l xs hs hl=>exact⟨hs,hl⟩
 |any x=>simp[AV.cells,AV.one]at h1
 |un=>simp[AV.cells,AV.one]at h1
 |is u=>simp[AV.cells,AV.one]at h1
 |tup l xs hs hl=>simp[AV.cells,AV.one]at h1
 |nil=>exact⟨rfl,λj a hj=>by rcases j with _|j<;>simp[AV.cells]at hj;subst hj;exact .nil⟩
 | v u hp =>
   have e:u.cells = #[u]:=by cases u<;>simp[plain]at hp<;>rfl
   rw[e];exact⟨rfl,λj a hj=>by rcases j with _|j<;>simp[AV.cells]at hj;subst hj;exact .v _ hp⟩
 | ro rows x hr =>
   have e:u.cells = #[u]:=by cases hr<;>rfl
   rw[e];exact⟨rfl,λj a hj=>by rcases j with _|j<;>simp[AV.cells]at hj;subst hj;exact .ro _ _ hr⟩
 | sl k H sz off len x hx =>
   have e:u.cells = #[u]:=by
    exact Nq
   rw[e];exact⟨rfl,λj a hj=>by rcases j with _|j<;>simp[AV.cells]at hj;subst hj;exact .sl _ _ _ _ _ _ hx⟩
 | cv u len h =>
   have e:u.cells = #[u]:=by obtain⟨a,c,rfl⟩:=h;rfl
   rw[e];exact⟨rfl,λj a hj=>by rcases j with _|j<;>simp[AV.cells]at hj;subst hj;exact .cv _ _ h⟩
 | ml k H sz len x h =>
   have e:u.cells = #[u]:=by obtain⟨a,c,rfl⟩:=h.slice;rfl
   rw[e];exact⟨rfl,λj a hj=>by rcases j with _|j<;>simp[AV.cells]at hj;subst hj;exact .ml _ _ _ _ _ h⟩
 |p k b c=>exact⟨rfl,λj a hj=>by rcases j with _|j<;>simp[AV.cells]at hj;subst hj;exact .p _ _ _⟩
 |e k b o C sz r c=>exact⟨rfl,λj a hj=>by rcases j with _|j<;>simp[AV.cells]at hj;subst hj;exact .e _ _ _ _ _ _ _⟩
 |rp row b o cs T fr hM hb hfit hr=>exact⟨rfl,λj a hj=>by rcases j with _|j<;>simp[AV.cells]at hj;subst hj;exact .rp _ _ _ _ _ _ hM hb hfit hr⟩
 |clo f l xs hs hl=>exact⟨rfl,λj a hj=>by rcases j with _|j<;>simp[AV.cells]at hj;subst hj;exact .clo _ _ _ hs hl⟩
theorem HD{w:World}{M:Nat->Prop}{av:AV}{u:Value}(h:VRel w M av u)(h1:av.one=true):u.oneCell'=true:=by
 cases h with
 |any x=>simp[AV.one]at h1
 |un=>simp[AV.one]at h1
 |is=>simp[AV.one]at h1
 |tup=>simp[AV.one]at h1
 |agg=>simp[AV.one]at h1
 |v u hp=>exact CF hp
 |ro rows x hr=>cases hr<;>rfl
 |cv u len h=>obtain⟨a,c,rfl⟩:=h;rfl
 |ml k H sz len x h=>obtain⟨a,c,rfl⟩:=h.slice;rfl
 | sl k H sz off len x hx =>
   exact Nq
 |_=>rfl
theorem mg{α:Type}:∀(l:List α) (c:Nat) (vs:List α),c+vs.length<=l.length->(iW l c vs).length=l.length
 |l,_,[],_=>by cases l<;>simp[iW]
 | [],_,_::_,h=>ik
 |_::l,0,v::vs,h=>by simp only[iW,cI];rw[mg l 0 vs (by simp at h;omega)]
 |_::l,c+1,v::vs,h=>by simp only[iW,cI];rw[mg l c (v::vs) y4]
theorem rv{α:Type}:∀(l:List α) (c:Nat) (vs:List α),c+vs.length<=l.length->∀j,(iW l c vs)[j]? = if c<=j/\j<c+vs.length then vs[j-c]? else l[j]?
 | l, c, [], _, j => by
   have:¬(c<=j/\j<c+([]:List α).length):=ab;rw[aq this];cases l<;>simp[iW]
 | [],_,_::_,h,_=>ik
 | x :: l, 0, v :: vs, h, j => by
   simp only[iW]
   cases j with
   |zero=>simp
   | succ j =>
     have:=rv l 0 vs (by simp at h;omega) j;simp only[gB,this];simp
 | x :: l, c + 1, v :: vs, h, j => by
   simp only[iW]
   cases j with
   |zero=>simp
   | succ j =>
     have:=rv l c (v::vs) y4 j;simp only[gB,this];have e:j+1-(c+1)=j-c:=aa;rw[e];by_cases hh:c<=j/\j<c+(v::vs).length
     ·rw[an hh,an (by simp at hh⊢;omega)]
     ·rw[aq hh,aq (by simp at hh⊢;omega)]
theorem wG(c:Nat):∀(l:List Value) (k:Nat) (cs:Array Value),c+k+l.length<=cs.size ->
 ((l.zipIdx k).foldl (λ(cs:Array Value) (p:Value×Nat)=>cs.setIfInBounds (c+p.2) p.1) cs).size=cs.size /\
 ∀j,((l.zipIdx k).foldl (λ(cs:Array Value) (p:Value×Nat)=>cs.setIfInBounds (c+p.2) p.1) cs).getD j undef=if c+k<=j/\j<c+k+l.length then l.getD (j-(c+k)) undef else cs.getD j undef
 | [], k, cs, _ => by
   refine⟨rfl,λj=>?_⟩;rw[aq ab];rfl
 | x :: l, k, cs, h => by
   simp only[List.zipIdx_cons,qY];obtain⟨h1,h2⟩:=wG c l (k+1) (cs.setIfInBounds (c+k) x) y4;refine⟨by simpa using h1,λj=>?_⟩;rw[h2 j];by_cases hj:c+(k+1)<=j/\j<c+(k+1)+l.length
   ·rw[an hj,an aN]
    have e:j-(c+k)=(j-(c+(k+1)))+1:=aa;rw[e];rfl
   ·rw[aq hj]
    by_cases he:j=c+k
    ·subst he
     simp at h;rw[an ab];simp;omega
    ·rw[aq aN]
     simp[VB he]
theorem Pf(place:Nat->Option (Nat×Nat))(cells:Array Value)(i:Nat)(v:Value)(rest:List (Nat×Value))(off n:Nat)(hp:place i=some (off,n))(hs:v.cells.size=n)(hf:off+n<=cells.size) :
 Instr.fill place cells ((i,v)::rest)=Instr.fill place (v.cells.zipIdx.foldl (λcs (c,j)=>cs.setIfInBounds (off+j) c) cells) rest:=by
 simp[Instr.fill,hp,hs];intro h;omega
theorem pL(v:Array Value)(off:Nat)(cells:Array Value) :
 v.zipIdx.foldl (λcs (c,j)=>cs.setIfInBounds (off+j) c) cells=(v.toList.zipIdx 0).foldl (λ(cs:Array Value) (p:Value×Nat)=>cs.setIfInBounds (off+p.2) p.1) cells:=by
 rw[<-Array.foldl_toList];simp
theorem AP{w:World}{M:Nat->Prop}(place:Nat->Option (Nat×Nat))(fields:List (Nat×Nat))(hpl:∀i off n,fields[i]? = some (off,n)->place i=some (off,n)){K:List AV->Prop} :
 ∀(parts:List (Nat×AV)) (vparts:List (Nat×Value)) (acells:List AV) (cells:Array Value),vparts.length=parts.length ->
 (∀(i:Nat) (p:Nat×AV),parts[i]? = some p->∃v,vparts[i]? = some (p.1,v)/\VRel w M p.2 v) ->
 cells.size=acells.length->(∀(j:Nat) (a:AV),acells[j]? = some a->VRel w M a (cells.getD j undef))->oD fields acells parts K ->
 ∃l cs,Instr.fill place cells vparts=some cs/\cs.size=l.length/\(∀(j:Nat) (a:AV),l[j]? = some a->VRel w M a (cs.getD j undef))/\K l
 | [], vparts, acells, cells, hl, _, hs, hc, h => by
   have:vparts=[]:=aA (by simpa using hl);subst this;exact⟨acells,cells,rfl,hs,hc,h⟩
 | (i, av) :: rest, vparts, acells, cells, hl, hp, hs, hc, h => by
   cases vparts with
   |nil=>simp at hl
   | cons q vrest =>
     unfold oD at h
     split at h
     ·rename_i off n hf
      obtain⟨hn,hfit,hone,h⟩:=h;obtain⟨v,hv,hr⟩:=hp 0 _ rfl;simp only[List.getElem?_cons_zero,eP]at hv;subst hv;obtain⟨hcs,hcr⟩:=tq hr hone;have hsize:v.cells.size=n:=by rw[hcs,hn]
      obtain⟨g1,g2⟩:=wG off v.cells.toList 0 cells aN
      have:=AP place fields hpl rest vrest (iW acells off av.cells) (v.cells.zipIdx.foldl (λcs (c,j)=>cs.setIfInBounds (off+j) c) cells) (by simpa using hl)
       (λi p hi=>hp (i+1) p ee) ?_ ?_ h
      ·obtain⟨l,cs,h1,h2⟩:=this
       exact⟨l,cs,by rw[Pf place cells i v vrest off n (hpl _ _ _ hf) hsize aa];exact h1,h2⟩
      ·rw[pL,g1,mg _ _ _ aa,hs]
      ·intro j a hj
       rw[rv _ _ _ aa]at hj;rw[pL,g2 j];by_cases hh:off<=j/\j<off+av.cells.length
       ·rw[an hh]at hj
        rw[an aN];have:=hcr _ _ hj;exact jD
       ·rw[aq hh]at hj
        rw[aq aN];exact hc j a hj
     ·exact cM
theorem GI{E:Env}(hE:EOk E){w:World}{M:Nat->Prop}{T:Nat}{parts:List (Nat×AV)}{vparts:Array (Nat×Value)}(hl:vparts.toList.length=parts.length)
 (hp:∀(i:Nat) (p:Nat×AV),parts[i]? = some p->∃v,vparts.toList[i]? = some (p.1,v)/\VRel w M p.2 v) {K:AV->Prop}(h:pa E T parts K) :
 ∃r av,(Instr.build T vparts).run E.P w=.ok r w/\VRel w M av r/\K av:=by
 unfold pa at h
 split at h
 ·rename_i ti hti
  obtain⟨hag,h⟩:=h;have ht:=hE.1 _ _ hti;obtain⟨fs,hu,hmap,-⟩:=ht.st hag;obtain⟨i,z,hi,hs,hb,hz,hzc,-⟩:=ht.info
  have hsz:z.cells.size=ti.zero.length:=by
   have:=nP List.length hzc;exact jD
  obtain⟨l,cs,h1,h2,h3,h4⟩:=AP (w:=w) (M:=M) (ti.fields.toArray[·]?) ti.fields ab parts vparts.toList ti.zero z.cells hl hp hsz (λj a hj=>by
   have e:z.cells.getD j undef=zv a:=by
    exact EL
   rw[e];rcases ht.zok a (aO hj)with rfl|⟨u,rfl,hp⟩
   ·exact .nil
   ·exact .v _ hp) h
  refine⟨.agg cs,.agg l,run_build w T vparts cs ?_,.agg _ _ h2 h3,h4⟩;unfold Program.built;simp only[hi,hu,hz,hmap];exact h1
 ·exact h.elim
theorem fu{α:Type}(rows:List α)(off len:Nat):cut rows off len=(rows.drop off).take len:=by
 unfold cut
 split
 ·rename_i h
  obtain⟨rfl,rfl⟩:=h;simp
 ·rfl
theorem nf{α:Type}(rows:List α)(off len i:Nat):(cut rows off len)[i]? = if i<len then rows[off+i]? else none:=by
 rw[fu,cA]
 split
 ·rw[dA]
 ·rfl
theorem kt{α:Type}(rows:List α)(off len:Nat)(h:off+len<=rows.length):(cut rows off len).length=len:=by
 rw[fu,PB,iq];omega
theorem Rd.cut{w:World}{S:Nat->Prop}{b off cap:Nat}{n:Nat}{rows:List (List CD)}{u:Value}{l h sz:Nat}(hu:u=.slice (some ⟨b,off,none⟩) n cap)(hr:Rd w false S u (.s rows))(hlh:l<=h)(hh:h<=rows.length)
 (hrl:∀row∈rows,row.length=sz) (a:Option Addr) (ha:h-l≠0->a=some ⟨b,off+l*sz,none⟩):Rd w false S (.slice a (h-l) (cap-l)) (.s (cut rows l (h-l))):=by
 by_cases hz:h-l=0
 ·rw[hz]
  have:AM.cut rows l 0=[]:=aA (kt _ _ _ aa);rw[this];exact .empty _ _ eS
 ·have ha:=ha hz
  cases hr with
  |empty a' c=>simp at hh;omega
  | slice b' off' cap' sz' cs T fr rows F hcap hmax hsz hS hb hfit hown hF hd hlen hr =>
    cases hu
    subst ha;have hrow:=hlen _ (ak (show l<rows.length from aa));have hrow':=hrl _ (ak (show l<rows.length from aa));have e:sz'=sz:=aa;subst e;have hcl:(AM.cut rows l (h-l)).length=h-l:=kt _ _ _ aa
    have:=Rd.slice (w:=w) (x:=false) (S:=S) b (off+l*sz') (cap-l) sz' cs T fr (AM.cut rows l (h-l)) (λi j c=>F (l+i) j c) aa aa hsz hS hb ?_ eS
     (λi j c hc=>⟨(hF _ _ _ hc).1,eS⟩) eS ?_ ?_
    ·rw[hcl]at this;exact this
    ·have:=ao sz' (show l+(h-l)<=rows.length from aa)
     rw[fg]at this;rw[hcl];omega
    ·intro row hm
     obtain⟨i,hi⟩:=en hm;rw[nf]at hi
     split at hi
     ·exact hlen _ (aO hi)
     ·simp at hi
    ·intro i j row d hi hj
     rw[nf]at hi
     split at hi
     ·have:=hr (l+i) j row d hi hj
      have e:off+l*sz'+(i*sz'+j)=off+((l+i)*sz'+j):=y3;rw[e];exact this
     ·simp at hi
end Go.AM
