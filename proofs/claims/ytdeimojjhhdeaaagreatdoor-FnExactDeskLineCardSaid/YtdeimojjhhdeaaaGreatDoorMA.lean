import Derived.WalkKit
import Derived.Laws.CopyRow
import Derived.BigCall
import Derived.Deep.LoopGhost
import Derived.Deep.Slices
import Derived.HandedShaped
import Derived.IntWalk
import Derived.JoinedOf
import Derived.LaidMore
import Derived.Laws.Externs
import Derived.Laws.IdiomCopy
import Derived.Lay
import Derived.Lib.AppendIntMem
import Derived.Lib.AppendZerosOnto
import Derived.Lib.AtoiAllCases
import Derived.Lib.AtoiErrMem
import Derived.Lib.ConvBytes
import Derived.Lib.Hide
import Derived.Lib.ItoaNum
import Derived.Lib.Join
import Derived.Lib.LaidTab
import Derived.Lib.Overlaps
import Derived.Lib.SplitLaws
import Derived.MakeChecks
import Derived.Orders
import Derived.ProofKit
import Derived.SevenTiedAt
import Derived.Shelf.RegionOpenPlain
import Derived.Shelf.Strconv.AtoiAll
import Derived.Shelf.Strconv.Itoa3
import Derived.Shelf.Strings.OnBuilder
import Derived.Shelf.Strings.Replace
import Derived.Shelf.Strings.Split
import Derived.Shelf.Vars
import Derived.Stop.LaidErr
import GoSem.ClaimGoes
import Derived.Calls
import Derived.Control
import Derived.Laws.Append
import Derived.Laws.AppendOwn
import Derived.Laws.Entries
import Derived.Laws.Sem
import Derived.Laws.Tables
theorem ah:type_of% @Go.IntWalk.i64_in:=@Go.IntWalk.i64_in
theorem aj:type_of% @Nat.le_of_ble_eq_true:=@Nat.le_of_ble_eq_true
theorem ak:type_of% @if_neg:=@if_neg
theorem al:type_of% @if_pos:=@if_pos
theorem ao:type_of% @List.getElem_mem:=@List.getElem_mem
theorem au:type_of% @List.getElem?_eq_getElem:=@List.getElem?_eq_getElem
theorem aw:type_of% @List.getElem?_eq_some_iff:=@List.getElem?_eq_some_iff
theorem az:type_of% @Nat.mul_le_mul_right:=@Nat.mul_le_mul_right
theorem aC:type_of% @Nat.le_refl:=@Nat.le_refl
theorem aD:type_of% @List.take_of_length_le:=@List.take_of_length_le
theorem aF:type_of% @List.eq_nil_of_length_eq_zero:=@List.eq_nil_of_length_eq_zero
theorem aG:type_of% @List.mem_cons_of_mem:=@List.mem_cons_of_mem
theorem aJ:type_of% @Bool.and_eq_true:=@Bool.and_eq_true
theorem aK:type_of% @congrArg:=@congrArg
theorem aO:type_of% @List.mem_append:=@List.mem_append
theorem aP:type_of% @List.mem_cons_self:=@List.mem_cons_self
theorem aQ:type_of% @List.mem_of_getElem?:=@List.mem_of_getElem?
theorem aR:type_of% @List.mem_cons:=@List.mem_cons
theorem aT:type_of% @Array.getD_eq_getD_getElem?:=@Array.getD_eq_getD_getElem?
theorem a7:type_of% @Option.map_eq_some_iff:=@Option.map_eq_some_iff
theorem bk:type_of% @List.drop_eq_getElem_cons:=@List.drop_eq_getElem_cons
theorem bm:type_of% @Int.toNat_natCast:=@Int.toNat_natCast
theorem br:type_of% @List.getElem?_append_right:=@List.getElem?_append_right
theorem bu:type_of% @List.getD_eq_getElem?_getD:=@List.getD_eq_getElem?_getD
theorem bD:type_of% @List.mem_of_mem_drop:=@List.mem_of_mem_drop
theorem bE:type_of% @List.drop_eq_nil_of_le:=@List.drop_eq_nil_of_le
theorem bH:type_of% @List.length_cons:=@List.length_cons
theorem bJ:type_of% @List.length_pos_iff:=@List.length_pos_iff
theorem bK:type_of% @List.map_cons:=@List.map_cons
theorem bM:type_of% @Go.run_underlying:=@Go.run_underlying
theorem bN:type_of% @List.mem_of_mem_take:=@List.mem_of_mem_take
theorem bP:type_of% @List.getElem?_map:=@List.getElem?_map
theorem bR:type_of% @Classical.byContradiction:=@Classical.byContradiction
theorem bY:type_of% @List.take_append_getElem:=@List.take_append_getElem
theorem cq:type_of% @List.getElem?_append_left:=@List.getElem?_append_left
theorem cu:type_of% @List.append_nil:=@List.append_nil
theorem cw:type_of% @List.replicate_succ:=@List.replicate_succ
theorem cH:type_of% @Nat.lt_of_lt_of_le:=@Nat.lt_of_lt_of_le
theorem cL:type_of% @Nat.succ_mul:=@Nat.succ_mul
theorem cM:type_of% @List.mem_map:=@List.mem_map
theorem cT:type_of% @Nat.le_trans:=@Nat.le_trans
theorem cU:type_of% @List.append_assoc:=@List.append_assoc
theorem dj:type_of% @decide_eq_true_eq:=@decide_eq_true_eq
theorem dm:type_of% @Bool.not_eq_true':=@Bool.not_eq_true'
theorem dn:type_of% @List.take_length:=@List.take_length
theorem dp:type_of% @List.all_eq_true:=@List.all_eq_true
theorem du:type_of% @List.mem_filter:=@List.mem_filter
theorem dy:type_of% @if_false:=@if_false
theorem dz:type_of% @Nat.zero_le:=@Nat.zero_le
theorem dA:type_of% @if_true:=@if_true
theorem dE:type_of% @List.cons_append:=@List.cons_append
theorem dN:type_of% @Nat.zero_add:=@Nat.zero_add
theorem dP:type_of% @Option.some.injEq:=@Option.some.injEq
theorem dT:type_of% @Go.Result.andThen_ok:=@Go.Result.andThen_ok
theorem dU:type_of% @List.length_append:=@List.length_append
theorem dY:type_of% @Nat.le_mul_of_pos_right:=@Nat.le_mul_of_pos_right
theorem eg:type_of% @Option.map_some:=@Option.map_some
theorem ez:type_of% @List.getElem?_take:=@List.getElem?_take
theorem eF:type_of% @Array.getElem?_append_left:=@Array.getElem?_append_left
theorem eO:type_of% @List.map_take:=@List.map_take
theorem eR:type_of% @List.getElem?_drop:=@List.getElem?_drop
theorem eY:type_of% @List.map_append:=@List.map_append
theorem eZ:type_of% @List.length_map:=@List.length_map
theorem ff:type_of% @Nat.add_mul:=@Nat.add_mul
theorem fp:type_of% @List.getElem?_of_mem:=@List.getElem?_of_mem
theorem fq:type_of% @List.drop_zero:=@List.drop_zero
theorem fE:type_of% @List.map_congr_left:=@List.map_congr_left
theorem fF:type_of% @List.getElem_of_mem:=@List.getElem_of_mem
theorem gf:type_of% @List.mem_singleton:=@List.mem_singleton
theorem gj:type_of% @Go.Sem.run_bind:=@Go.Sem.run_bind
theorem gk:type_of% @List.length_take:=@List.length_take
theorem gl:type_of% @List.length_drop:=@List.length_drop
theorem gw:type_of% @Go.grownCap_le_maxLen:=@Go.grownCap_le_maxLen
theorem gG:type_of% @Go.setRow_heap:=@Go.setRow_heap
theorem gO:type_of% @List.take_succ_eq_append_getElem:=@List.take_succ_eq_append_getElem
theorem gP:type_of% @List.mem_range:=@List.mem_range
theorem gQ:type_of% @List.drop_of_length_le:=@List.drop_of_length_le
theorem ic:type_of% @Go.Sem.run_pure:=@Go.Sem.run_pure
theorem ie:type_of% @Option.some.inj:=@Option.some.inj
theorem ig:type_of% @List.nil_append:=@List.nil_append
theorem iw:type_of% @List.take_append_drop:=@List.take_append_drop
theorem iG:type_of% @List.pairwise_cons:=@List.pairwise_cons
theorem iH:type_of% @List.mem_filterMap:=@List.mem_filterMap
theorem iT:type_of% @List.getElem?_modify:=@List.getElem?_modify
theorem iU:type_of% @Go.Addr.add_lit:=@Go.Addr.add_lit
theorem iX:type_of% @List.getElem?_set:=@List.getElem?_set
theorem iY:type_of% @List.getElem?_cons_succ:=@List.getElem?_cons_succ
theorem jc:type_of% @UInt8.toNat_inj:=@UInt8.toNat_inj
theorem jd:type_of% @List.length_nil:=@List.length_nil
theorem jz:type_of% @List.map_nil:=@List.map_nil
theorem jB:type_of% @Nat.add_assoc:=@Nat.add_assoc
theorem jJ:type_of% @Go.setRow_other:=@Go.setRow_other
theorem jK:type_of% @Go.Lib.join_one:=@Go.Lib.join_one
theorem kc:type_of% @Go.IntWalk.i64_in:=@Go.IntWalk.i64_in
theorem kl:type_of% @Bool.or_eq_true:=@Bool.or_eq_true
theorem kL:type_of% @Go.wp_mono:=@Go.wp_mono
theorem lg:type_of% @List.take_succ_cons:=@List.take_succ_cons
theorem lR:type_of% @beq_iff_eq:=@beq_iff_eq
theorem lS:type_of% @Nat.add_sub_cancel:=@Nat.add_sub_cancel
theorem lT:type_of% @Bool.false_eq_true:=@Bool.false_eq_true
theorem mN:type_of% @List.set_append_right:=@List.set_append_right
theorem mO:type_of% @List.getElem?_toArray:=@List.getElem?_toArray
theorem nt:type_of% @Int.tmod_eq_emod_of_nonneg:=@Int.tmod_eq_emod_of_nonneg
theorem nu:type_of% @Int.tdiv_eq_ediv_of_nonneg:=@Int.tdiv_eq_ediv_of_nonneg
theorem nv:type_of% @Array.getElem?_eq_some_iff:=@Array.getElem?_eq_some_iff
theorem nD:type_of% @Option.getD_some:=@Option.getD_some
theorem nE:type_of% @Nat.sub_zero:=@Nat.sub_zero
theorem nF:type_of% @Nat.add_zero:=@Nat.add_zero
theorem nG:type_of% @List.getElem_map:=@List.getElem_map
theorem oa:type_of% @Go.grownCap_ge:=@Go.grownCap_ge
theorem oc:type_of% @Go.calls_of_wp:=@Go.calls_of_wp
theorem oR:type_of% @Option.isSome_iff_exists:=@Option.isSome_iff_exists
theorem oZ:type_of% @Nat.min_eq_left:=@Nat.min_eq_left
theorem o5:type_of% @List.foldl_cons:=@List.foldl_cons
theorem pe:type_of% @List.set_cons_zero:=@List.set_cons_zero
theorem qv:type_of% @Nat.sub_self:=@Nat.sub_self
theorem qw:type_of% @Nat.eq_zero_of_not_pos:=@Nat.eq_zero_of_not_pos
theorem qx:type_of% @List.length_pos_of_mem:=@List.length_pos_of_mem
theorem qy:type_of% @List.ext_getElem?:=@List.ext_getElem?
theorem rQ:type_of% @Go.growslice_fits:=@Go.growslice_fits
theorem rR:type_of% @List.contains_iff_mem:=@List.contains_iff_mem
theorem rS:type_of% @Array.getElem?_toList:=@Array.getElem?_toList
theorem rT:type_of% @Nat.le_of_not_lt:=@Nat.le_of_not_lt
theorem rU:type_of% @List.not_mem_nil:=@List.not_mem_nil
theorem rV:type_of% @List.ext_getElem:=@List.ext_getElem
theorem rW:type_of% @Array.eq_empty_of_size_eq_zero:=@Array.eq_empty_of_size_eq_zero
theorem sH:type_of% @List.map_drop:=@List.map_drop
theorem sI:type_of% @List.map_id:=@List.map_id
theorem uJ:type_of% @List.mem_map_of_mem:=@List.mem_map_of_mem
theorem uK:type_of% @Nat.lt_or_ge:=@Nat.lt_or_ge
theorem xq:type_of% @Go.run_firstCells_some:=@Go.run_firstCells_some
theorem xr:type_of% @Array.all_eq_true':=@Array.all_eq_true'
theorem yb:type_of% @List.mem_or_eq_of_mem_set:=@List.mem_or_eq_of_mem_set
theorem yc:type_of% @Array.mapM_eq_mapM_toList:=@Array.mapM_eq_mapM_toList
theorem yd:type_of% @Array.getElem?_eq_getElem:=@Array.getElem?_eq_getElem
theorem yN:type_of% @Function.comp_def:=@Function.comp_def
theorem yO:type_of% @List.getElem_append_left:=@List.getElem_append_left
theorem AE:type_of% @List.getElem_set:=@List.getElem_set
theorem BC:type_of% @Go.Lib.join_cons:=@Go.Lib.join_cons
theorem CJ:type_of% @Nat.mul_comm:=@Nat.mul_comm
theorem CK:type_of% @Nat.mod_lt:=@Nat.mod_lt
theorem CM:type_of% @List.map_map:=@List.map_map
theorem Eg:type_of% @Nat.div_lt_iff_lt_mul:=@Nat.div_lt_iff_lt_mul
theorem Eh:type_of% @List.set_getElem_self:=@List.set_getElem_self
theorem Ei:type_of% @List.length_singleton:=@List.length_singleton
theorem Ej:type_of% @List.getElem?_eq_none:=@List.getElem?_eq_none
theorem GS:type_of% @List.length_filter_lt_length_iff_exists:=@List.length_filter_lt_length_iff_exists
theorem GT:type_of% @Go.Lib.join_nil:=@Go.Lib.join_nil
theorem GU:type_of% @Go.run_append_grow:=@Go.run_append_grow
theorem GV:type_of% @List.mem_of_getLast?:=@List.mem_of_getLast?
theorem Mf:type_of% @Int.add_assoc:=@Int.add_assoc
theorem Mg:type_of% @List.set_cons_succ:=@List.set_cons_succ
theorem Mh:type_of% @List.map_singleton:=@List.map_singleton
theorem Mi:type_of% @Go.Lib.hid:=@Go.Lib.hid
theorem Mj:type_of% @Array.any_eq_true':=@Array.any_eq_true'
theorem Ol:type_of% @List.findIdx?_eq_some_iff_getElem:=@List.findIdx?_eq_some_iff_getElem
theorem Om:type_of% @ByteArray.getElem_eq_getElem_data:=@ByteArray.getElem_eq_getElem_data
theorem On:type_of% @dif_neg:=@dif_neg
theorem Oo:type_of% @Nat.add_comm:=@Nat.add_comm
theorem Oq:type_of% @List.map_set:=@List.map_set
theorem Wg:type_of% @forall_eq_or_imp:=@forall_eq_or_imp
theorem Wh:type_of% @Option.bind_none:=@Option.bind_none
theorem Wi:type_of% @Nat.mod_eq_of_lt:=@Nat.mod_eq_of_lt
theorem Wj:type_of% @List.filter_cons:=@List.filter_cons
theorem Wk:type_of% @List.any_eq_true:=@List.any_eq_true
theorem YA:type_of% @Go.run_storeCells_at:=@Go.run_storeCells_at
theorem YB:type_of% @Nat.sub_mul:=@Nat.sub_mul
theorem YC:type_of% @List.drop_append_of_le_length:=@List.drop_append_of_le_length
theorem YD:type_of% @Int.le_refl:=@Int.le_refl
theorem YE:type_of% @UInt8.toNat.inj:=@UInt8.toNat.inj
theorem YF:type_of% @Nat.div_add_mod:=@Nat.div_add_mod
theorem YG:type_of% @List.nodup_cons:=@List.nodup_cons
theorem YH:type_of% @List.foldr_cons:=@List.foldr_cons
theorem YI:type_of% @Array.getElem?_setIfInBounds:=@Array.getElem?_setIfInBounds
theorem ack:type_of% @Ne.symm:=@Ne.symm
theorem acl:type_of% @Array.getElem?_append_right:=@Array.getElem?_append_right
theorem acm:type_of% @List.mapM_cons:=@List.mapM_cons
theorem aeG:type_of% @List.pairwise_iff_getElem:=@List.pairwise_iff_getElem
theorem aeH:type_of% @List.mem_of_find?_eq_some:=@List.mem_of_find?_eq_some
theorem aeI:type_of% @List.getElem_append_right:=@List.getElem_append_right
theorem aeJ:type_of% @List.findIdx?_eq_none_iff:=@List.findIdx?_eq_none_iff
theorem aeK:type_of% @Go.Lib.run_convert_string_bytes:=@Go.Lib.run_convert_string_bytes
theorem aiO:type_of% @Nat.le_of_lt:=@Nat.le_of_lt
theorem aiP:type_of% @Go.MakeChecks.laidMetH_plain:=@Go.MakeChecks.laidMetH_plain
theorem aiQ:type_of% @Go.Lib.run_append_grow_zeros:=@Go.Lib.run_append_grow_zeros
theorem Vg{p:Prop}(h:p:=by
 refine ae.pure (KB d hl' base o ho) (by simp[Doc.row]) ?_;have hvn:=Bf d base o;generalize gd d base o=R at e hvn⊢;obtain⟨v,code⟩:=R;simp only at e hvn⊢;simp;intro H1;by_cases c7:code=0
 rotate_left
 ·simp only[c7,if_false]at e
  simp[c7,e,Doc.res,Doc.zero]
 simp only[c7,if_true]at e;simp[c7];refine ae.pure (cX d) (by simp[Doc.row]) ?_;by_cases c8:999999000<=aA d
 ·simp only[c8,if_true]at e
  simp[c8,e,Doc.res,Doc.zero]
 simp only[c8,if_false]at e;simp[c8];refine ae.pure (wY d hl') (by simp[Doc.row]) ?_;simp[Doc.res];intro H2 H3 H4 b17 b87;refine⟨by omega,λH5=>?_⟩;refine ae.pure (cX ⟨d.name,d.fr,d.text,d.list++[⟨client,seq,v⟩],d.seen⟩) (by simp[Doc.row,Entry.row]) ?_
 have hr:aA ⟨d.name,d.fr,d.text,d.list++[⟨client,seq,v⟩],d.seen⟩=aA d+1:=by
  unfold aA;simp only[List.length_append,List.length_cons,List.length_nil];have h1:=hh.1;unfold aA at h1;rw[h1,Go.IntWalk.i64_in _ (by omega)];omega
 have hrr:=hr;rw[hrr];simp;intro b93;obtain⟨sp,hspd⟩:∃sp:Nat->List Seen×Bool,sp=λi=>xF client seq (aA d+1) (d.seen.take i):=⟨_,rfl⟩
 have hs0:sp 0=([],false):=by rw[hspd];simp[xF]
 have hsuc:∀i,∀h:i<d.seen.length,sp (i+1)=kU client seq (aA d+1) (sp i) d.seen[i]:=λi h=>by rw[hspd];exact Ip h
 have hspl:∀i,i<=d.seen.length->(sp i).1.length<=2*i:=λi h=>by rw[hspd];exact hsl i h
 have hall:BT client seq (aA d+1) (sp d.seen.length)=dZ client seq (aA d+1) d.seen:=by rw[hspd];simp only[List.take_length];exact hasc
 clear hspd
 refine aE eok (λx:Nat×Hd=>x.1<=d.seen.length) (λx=>⟨162,0,[(97,.v (.int .i64 x.1)),(96,.v (.int .i64 d.seen.length)),(95,.sl 1300 H4 3 0 d.seen.length),(20,.v (.bool (sp x.1).2)),(19,.sl 1488 x.2 3 0 (sp x.1).1.length),(1,.v (.int .i64 client)),(2,.v (.int .i64 seq)),(18,.v (.int .i64 (aA d+1))),(17,.p 272 b17 0),(10,.p 160 b10 0)],
  [(272, .vars b17 44 [.v (.string d.name), .v (.int .i64 d.fr), .sl 1298 H2 1 0 d.text.length, .sl 1299 H5 3 0 (d.list.length+1), .sl 1300 H4 3 0 d.seen.length]),
   (160,.vars b10 44 [.v (.string ⟨#[]⟩),.v (.int .i64 0),.nil,.nil,.nil]),
   (1298,.rows H2 1 (d.text.map aN) true),(1299,.rows H5 3 ((d.list++([⟨client,seq,v⟩]:List Entry)).map Entry.row) true),(1300,.rows H4 3 (d.seen.map Seen.row) true),(1488,.rows x.2 3 ((sp x.1).1.map Seen.row) true)]⟩) (λx=>d.seen.length-x.1) (0,some (b93,0,0)) (by simp) (by simp[Entry.row,hs0]) (λx hi=>Ent.refl ?_)
 obtain⟨i,H⟩:=x;simp only at hi⊢;have hLl:=hspl i hi;by_cases hlt:i<d.seen.length
 ·have hsu:=hsuc i hlt
  generalize sp i=st at hLl hsu⊢;obtain⟨L,done⟩:=st;simp only at hLl⊢;obtain⟨x,hx⟩:∃x,d.seen[i]=x:=⟨_,rfl⟩;rw[hx]at hsu;simp[hlt,hx,Seen.row];intro b22;unfold kU at hsu;by_cases k1:x.client=client
  ·simp only[k1,if_true]at hsu
   simp[k1];exact Ent.refl ⟨i+1,by omega,by omega,H,by simp[Entry.row,hsu];exact aZ (by omega)⟩
  simp only[k1,if_false]at hsu;simp[k1];by_cases k2:done=false/\client<x.client
  ·obtain⟨rfl,k2⟩:=k2
   simp only[k2,and_self,if_true]at hsu;simp[k2];intro b118;refine⟨by omega,λH6 b122=>⟨by omega,λH7=>Ent.refl ⟨i+1,by omega,by omega,H7,?_⟩⟩⟩;simp[Seen.row,Entry.row,hsu];exact aZ (by omega)
  ·simp only[k2,if_false]at hsu
   have k3:done=true\/done=false/\¬client<x.client:=by
    cases done with
    |true=>exact .inl rfl
    |false=>exact .inr ⟨rfl,λh=>k2 ⟨rfl,h⟩⟩
   rcases k3 with rfl|⟨rfl,k3⟩
   ·simp
    intro b122;refine⟨by omega,λH7=>Ent.refl ⟨i+1,by omega,by omega,H7,?_⟩⟩;simp[Seen.row,Entry.row,hsu];exact aZ (by omega)
   ·simp[k3]
    intro b122;refine⟨by omega,λH7=>Ent.refl ⟨i+1,by omega,by omega,H7,?_⟩⟩;simp[Seen.row,Entry.row,hsu];exact aZ (by omega)
 ·obtain rfl:i=d.seen.length:=by omega
  generalize sp d.seen.length=st at hLl hall⊢;obtain⟨L,done⟩:=st;simp only at hLl⊢;unfold BT at hall
  cases done with
  | true =>
    simp only[if_true]at hall;simp;by_cases c9:d.list.length<8
    ·have c9':¬8<(d.list.length:Int)+1:=by omega
     simp[c9',e,dS,c9,<-hall,Entry.row,Seen.row];exact kr
    ·have hpd:dS d ⟨client,seq,v⟩=⟨d.name,d.fr+1,(apply ((d.list++([⟨client,seq,v⟩]:List Entry))[0]'(by simp)).o d.text).1,(d.list++([⟨client,seq,v⟩]:List Entry)).drop 1,dZ client seq (aA d+1) d.seen⟩:=by unfold dS;rw[if_neg c9]
     obtain⟨e0,l',hd⟩:∃e0 l',d.list=e0::l':=by
      cases h:d.list with
      |nil=>rw[h]at c9;simp at c9
      |cons a l=>exact⟨a,l,rfl⟩
     have hm0:nL aM e0.o<=2^40:=by
      have:=hQ n1 (a:=e0) (by rw[hd];simp);unfold ba at this;omega
     have hll:d.list.length=l'.length+1:=by rw[hd];simp
     have c9':8<(l'.length:Int)+1+1:=by omega
     have c90:0<(l'.length:Int)+1+1:=by omega
     have ef:Go.IntKind.i64.wrap (d.fr+1)=d.fr+1:=Go.IntWalk.i64_in _ (by omega);have hpd2:dS d ⟨client,seq,v⟩=⟨d.name,d.fr+1,(apply e0.o d.text).1,l'++([⟨client,seq,v⟩]:List Entry),dZ client seq (aA d+1) d.seen⟩:=by rw[hpd];simp[hd]
     simp[c9',hd,Entry.row];refine drw eok mix [0,1,2,3,4,5,6,11] [7,8,9,10,12] (.c 8 7 10 245 (.c 8 8 0 245 (.c 8 9 0 245 (.c 8 10 0 245 (.c 8 12 245 0 (.l 8 0) .s) .s) .s) .s) .s) ?_;simp[c90]
     try intros
     refine ae.pure (kT e0.o d.text hm0 (by omega)) (by simp) ?_;simp
     try intros
     simp[ef];have hlen1:1+(l'.length+1)<=l'.length+1+1:=by omega
     simp[e,hpd2,<-hall,Entry.row,cut,hlen1];exact⟨kr,(List.take_of_length_le (by simp)).symm⟩
  | false =>
    simp only[Bool.false_eq_true,if_false]at hall;simp;intro b132;refine⟨by omega,λH6=>?_⟩;by_cases c9:d.list.length<8
    ·have c9':¬8<(d.list.length:Int)+1:=by omega
     simp[c9',e,dS,c9,<-hall,Entry.row,Seen.row];exact⟨kr,E9⟩
    ·have hpd:dS d ⟨client,seq,v⟩=⟨d.name,d.fr+1,(apply ((d.list++([⟨client,seq,v⟩]:List Entry))[0]'(by simp)).o d.text).1,(d.list++([⟨client,seq,v⟩]:List Entry)).drop 1,dZ client seq (aA d+1) d.seen⟩:=by unfold dS;rw[if_neg c9]
     obtain⟨e0,l',hd⟩:∃e0 l',d.list=e0::l':=by
      cases h:d.list with
      |nil=>rw[h]at c9;simp at c9
      |cons a l=>exact⟨a,l,rfl⟩
     have hm0:nL aM e0.o<=2^40:=by
      have:=hQ n1 (a:=e0) (by rw[hd];simp);unfold ba at this;omega
     have hll:d.list.length=l'.length+1:=by rw[hd];simp
     have c9':8<(l'.length:Int)+1+1:=by omega
     have c90:0<(l'.length:Int)+1+1:=by omega
     have ef:Go.IntKind.i64.wrap (d.fr+1)=d.fr+1:=Go.IntWalk.i64_in _ (by omega);have hpd2:dS d ⟨client,seq,v⟩=⟨d.name,d.fr+1,(apply e0.o d.text).1,l'++([⟨client,seq,v⟩]:List Entry),dZ client seq (aA d+1) d.seen⟩:=by rw[hpd];simp[hd]
     simp[c9',hd,Entry.row];refine drw eok mix [0,1,2,3,4,5,6,11] [7,8,9,10,12] (.c 8 7 10 245 (.c 8 8 0 245 (.c 8 9 0 245 (.c 8 10 0 245 (.c 8 12 245 0 (.l 8 0) .s) .s) .s) .s) .s) ?_;simp[c90]
     try intros
     refine ae.pure (kT e0.o d.text hm0 (by omega)) (by simp) ?_;simp
     try intros
     simp[ef];have hlen1:1+(l'.length+1)<=l'.length+1+1:=by omega
     simp[e,hpd2,<-hall,Seen.row,Entry.row,cut,hlen1];exact⟨kr,(List.take_of_length_le (by simp)).symm,E9⟩):p:=h
theorem Kv{p:Prop}(h:p:=by
 simp;refine inl aq Tryz.func224 20000 (λw1 F=>?_);simp;intro g1 g2 g3;by_cases k1:c.kind=1
 ·have h:ca 1:=by unfold ca;omega
  have hu:fG c=⟨1,c.doc,0,0,0,[],c.text⟩:=by simp[fG,k1,h]
  simp[k1];refine ae.pure (fV 1) (by simp) ?_;simp[h];refine ae.pure (gJ c ⟨1,c.doc,0,0,0,[],c.text⟩ (by omega)) (by simp[Call.row,k1]) ?_;rw[fin _ hu];simp
 by_cases k2:c.kind=2
 ·have h:ca 2:=by unfold ca;omega
  have hu:fG c=⟨2,c.doc,c.client,c.seq,c.n,c.o,[]⟩:=by simp[fG,k2,h]
  simp[k2];refine ae.pure (fV 2) (by simp) ?_;simp[h];refine drw eok mix [0,1,2,3,4,5,6,7,8,10,12,14] [9,11,13,15] (.c 12 9 3080 1015 (.c 12 11 772 243 (.c 12 13 194 49 (.c 12 15 49 0 (.l 12 0) .s) .s) .s) .s) ?_;simp
  try intros
  refine ae.pure (gJ c ⟨2,c.doc,c.client,c.seq,c.n,c.o,[]⟩ (by omega)) (by simp[Call.row,k2]) ?_;rw[fin _ hu];simp
 by_cases k3:c.kind=3
 ·have h:ca 3:=by unfold ca;omega
  have hu:fG c=⟨3,c.doc,0,0,c.n,[],[]⟩:=by simp[fG,k3,h]
  simp[k3];refine ae.pure (fV 3) (by simp) ?_;simp[h];refine ae.pure (gJ c ⟨3,c.doc,0,0,c.n,[],[]⟩ (by omega)) (by simp[Call.row,k3]) ?_;rw[fin _ hu];simp
 by_cases k4:c.kind=4
 ·have h:ca 4:=by unfold ca;omega
  have hu:fG c=⟨4,c.doc,0,0,0,[],[]⟩:=by simp[fG,k4,h]
  simp[k4];refine ae.pure (fV 4) (by simp) ?_;simp[h];refine ae.pure (gJ c ⟨4,c.doc,0,0,0,[],[]⟩ (by omega)) (by simp[Call.row,k4]) ?_;rw[fin _ hu];simp
 by_cases k5:c.kind=5
 ·have h:ca 5:=by unfold ca;omega
  have hu:fG c=⟨5,c.doc,0,0,c.n,[],[]⟩:=by simp[fG,k5,h]
  simp[k5];refine ae.pure (fV 5) (by simp) ?_;simp[h];refine ae.pure (gJ c ⟨5,c.doc,0,0,c.n,[],[]⟩ (by omega)) (by simp[Call.row,k5]) ?_;rw[fin _ hu];simp
 by_cases k6:c.kind=6
 ·have h:¬ca 6:=by unfold ca;omega
  have hu:fG c=⟨6,⟨#[]⟩,c.client,0,c.n,[],[]⟩:=by simp[fG,k6,h]
  simp[k6];refine ae.pure (fV 6) (by simp) ?_;simp[aH h];refine drw eok mix [0,1,2,3,4,6] [5,7] (.c 6 5 50 13 (.c 6 7 13 0 (.l 6 0) .s) .s) ?_;simp
  try intros
  refine ae.pure (gJ c ⟨6,⟨#[]⟩,c.client,0,c.n,[],[]⟩ (by omega)) (by simp[Call.row,k6]) ?_;rw[fin _ hu];simp
 by_cases k7:c.kind=7
 ·have h:¬ca 7:=by unfold ca;omega
  have hu:fG c=⟨7,⟨#[]⟩,c.client,0,0,[],[]⟩:=by simp[fG,k7,h]
  simp[k7];refine ae.pure (fV 7) (by simp) ?_;simp[aH h];refine ae.pure (gJ c ⟨7,⟨#[]⟩,c.client,0,0,[],[]⟩ (by omega)) (by simp[Call.row,k7]) ?_;rw[fin _ hu];simp
 have k8:c.kind=8:=by omega
 have h:¬ca 8:=by unfold ca;omega
 have hu:fG c=⟨8,⟨#[]⟩,0,0,0,[],[]⟩:=by simp[fG,k8,h]
 simp[k8];refine ae.pure (fV 8) (by simp) ?_;simp[aH h];refine ae.pure (gJ c ⟨8,⟨#[]⟩,0,0,0,[],[]⟩ (by omega)) (by simp[Call.row,k8]) ?_;rw[fin _ hu];simp):p:=h
theorem Vf{p:Prop}(h:p:=by
 have hblk:∀k b,(st'.h.get k).blk=some b->(st.h.get k).blk=some b:=by
  intro k b hb;have:=hob k
  revert hb this
  cases st'.h.get k with
  |dead=>intro hb;simp[AObj.blk]at hb
  | vars b' T cells =>
    intro hb hl;obtain⟨cells',he,-⟩:=kj.vars hl;rw[he];exact hb
  | rows Hd sz rows own =>
    intro hb hl;rcases hl with hl|⟨-,rfl,-⟩
    ·rw[hl];exact hb
    ·simp[AObj.blk]at hb
  |lent Hd sz rows=>intro hb;simp[AObj.blk]at hb
  |part Hd sz rows lo=>intro hb hl;rw[show st.h.get k=_ from hl];exact hb
 have hM:∀c,st'.h.M c->st.h.M c:=λc ⟨k,hk⟩=>⟨k,hblk k c hk⟩
 have t:Tr st.h.M w st'.h.M w:=⟨Nat.le_refl _,λ_ _ _=>rfl,λb _ hb=>hM b hb⟩;refine⟨hR.dfr,hR.size.trans hn,λi=>?_,⟨E,λk=>?_,λk k' b hk hk'=>H.inj _ _ b (hblk k b hk) (hblk k' b hk'),λk b hk=>H.low k b (hblk k b hk),H.elow,H.einj,λk c hc hM'=>H.em k c hc (hM c hM')⟩,hR.below,hR.base_le⟩
 ·rcases aa6 (t:=st'.t) (i:=i)with h|h
  ·rw[h];exact .any _
  ·exact((hR.tmp i).tr t).le (ht _ h)
 ·have h1:=(H.obj k).tr t (λ_ _=>rfl) (E':=E k) (λc hc _=>hc)
  have h2:=hob k
  revert h1 h2
  generalize st.h.get k=o
  cases st'.h.get k with
  |dead=>intro _ _;trivial
  | vars b T cells =>
    intro h1 h2;obtain⟨cells',rfl,hl⟩:=kj.vars h2;obtain⟨cs,g1,g2,g3⟩:=h1;obtain⟨g4,g5⟩:=ALe.get _ _ hl;refine⟨cs,g1,by omega,λj av hj=>?_⟩;obtain⟨av',hj',hle⟩:=g5 j av hj;exact(g3 j av' hj').le hle
  | rows Hd sz rows own =>
    intro h1 h2;rcases h2 with rfl|⟨rfl,rfl,rfl⟩
    ·exact h1
    ·rfl
  |lent Hd sz rows=>intro h1 h2;rw[show o=_ from h2]at h1;exact h1
  |part Hd sz rows lo=>intro h1 h2;rw[show o=_ from h2]at h1;exact h1):p:=h
theorem Ve{p:Prop}(h:p:=by
 simp only[if_pos hxk]
 have cases3:∀i' j' c,(if i'=i/\j'=j then S1 c else F i' j' c)->(F i' j' c/\Es k c/\¬st.h.M c)\/(i'=i/\j'=j/\((st.h.get k').blk=some c\/(Es k' c/\¬st.h.M c))):=by
  intro i' j' c hc
  split at hc
  ·rename_i hij
   obtain⟨rfl,rfl⟩:=hij;rcases hS1 c hc with h3|h3
   ·exact .inl ⟨h3,(hF _ _ c h3).1 rfl,(hF _ _ c h3).2⟩
   ·exact .inr ⟨rfl,rfl,h3⟩
  ·exact .inl ⟨hc,(hF _ _ c hc).1 rfl,(hF _ _ c hc).2⟩
 refine⟨cs,T,λi' j' c=>if i'=i/\j'=j then S1 c else F i' j' c,hb,by rw[qX];exact hl,hC,hsz,hfit,E3 hrl,λi' j' c hc=>⟨λ_=>?_,λhm=>?_⟩,λ_ i1 j1 i2 j2 c h1 h2=>?_,?_⟩
 ·rcases cases3 i' j' c hc with h3|⟨-,-,h3|h3⟩
  ·exact .inl h3.2.1
  ·exact .inr (.inr h3)
  ·exact .inr (.inl h3.1)
 ·obtain⟨h4,h5⟩:=hM c hm
  rcases cases3 i' j' c hc with h3|⟨-,-,h3|h3⟩
  ·exact h3.2.2 h4
  ·exact h5 h3
  ·exact h3.2 h4
 ·rcases cases3 i1 j1 c h1 with h3|⟨e1,e2,h3⟩<;>rcases cases3 i2 j2 c h2 with h4|⟨e3,e4,h4⟩
  ·exact hd rfl _ _ _ _ c h3.1 h4.1
  ·rcases h4 with h4|h4
   ·exact absurd h3.2.1 (hnk c h4 k)
   ·exact absurd (HH.einj _ _ c h3.2.1 h4.1) hne
  ·rcases h3 with h3|h3
   ·exact absurd h4.2.1 (hnk c h3 k)
   ·exact absurd (HH.einj _ _ c h4.2.1 h3.1) hne
  ·exact⟨e1.trans e3.symm,e2.trans e4.symm⟩
 ·intro i2 j2 row2 d2 h1 h2
  rcases E4 h1 h2 with⟨rfl,rfl,rfl⟩|⟨hn,row0,h3,h4⟩
  ·rw[hud];exact hr1.map (λ_ _ _=>rfl) (λc hc _=>by simp only[and_self,if_true];exact hc)
  ·exact(hrd _ _ _ _ h3 h4).map (λ_ _ _=>rfl) (λc hc _=>by simp only[if_neg hn];exact hc)):p:=h
theorem Vd{p:Prop}(h:p:=by
 generalize eD d ((i:Int)+1)=Q at hra hsb⊢;obtain⟨sn,so⟩:=Q;simp only at hra hsb⊢;have e1:=hsn sn hsb.1 hsb.2.1;simp[Seen.res];intro b7;by_cases q1:r.seq=sn.seq
 ·by_cases q2:r.has=true
  ·by_cases q3:sn.rev<=r.rev
   ·have h:=hno (λh=>by have:=(hra.1 h).2;unfold o7 at this;rw[if_pos q1]at this;exact this ⟨q2,q3⟩)
    simp[q1,q2,q3,aH h]
   ·have h:oL d i r:=hra.2 ⟨λh=>by simp at h,by unfold o7;rw[if_pos q1];exact λh=>q3 h.2⟩
    simp[q1,q2,q3];refine Ent.refl ⟨i+1,⟨by omega,fin h⟩,by omega,?_⟩;simp;exact ew
  ·have q2':r.has=false:=by simpa using q2
   have h:oL d i r:=hra.2 ⟨λh=>by simp at h,by unfold o7;rw[if_pos q1];exact λh=>q2 h.1⟩;simp[q1,q2'];refine Ent.refl ⟨i+1,⟨by omega,fin h⟩,by omega,?_⟩;simp;exact ew
 ·by_cases q2:r.has=true
  ·by_cases q3:r.seq=sn.seq+1
   ·have h:oL d i r:=hra.2 ⟨λh=>by simp at h,by unfold o7;rw[if_neg q1];exact⟨q2,q3⟩⟩
    have q4:¬sn.seq+1=sn.seq:=by omega
    simp[q2,q3,e1,q4];refine Ent.refl ⟨i+1,⟨by omega,fin h⟩,by omega,?_⟩;simp;exact ew
   ·have h:=hno (λh=>by have:=(hra.1 h).2;unfold o7 at this;rw[if_neg q1]at this;exact q3 this.2)
    simp[q1,q2,q3,e1,aH h]
  ·have q2':r.has=false:=by simpa using q2
   have h:=hno (λh=>by have:=(hra.1 h).2;unfold o7 at this;rw[if_neg q1]at this;exact q2 this.1);simp[q1,q2',aH h]):p:=h
theorem Ku{p:Prop}(h:p:=by
 refine⟨rfl,by simp;omega,λi=>?_,⟨λ_ _=>False,λk=>trivial,λk k' b hk=>by simp[AH.get,AObj.blk]at hk,λk b hk=>by simp[AH.get,AObj.blk]at hk,λk c hc=>hc.elim,λk k' c hc=>hc.elim,λk c hc=>hc.elim⟩,BelowF.refl _ _,λb hb=>hb.elim id id⟩
 show VRel w (AH.M []) (cm (rL 0 args) i) _
 rw[Au,if_pos (Nat.zero_le i),Nat.sub_zero]
 split
 ·rename_i v hv
  have hlt:i<xs.size:=by rw[hs];exact(List.getElem?_eq_some_iff.1 hv).1
  have e:(xs++Array.replicate (fn.ntmps-xs.size) undef).getD i undef=xs.getD i undef:=by
   simp only[Array.getD_eq_getD_getElem?];rw[Array.getElem?_append_left hlt]
  rw[e];exact(hx i v hv).rel.tr ⟨Nat.le_refl _,λ_ _ _=>rfl,λb _ h=>hM b h⟩
 ·exact .any _):p:=h
theorem Vc{p:Prop}(h:p:=by
 generalize eD d ((i:Int)+1)=Q at hra hsb⊢;obtain⟨sn,so⟩:=Q;simp only at hra hsb⊢;have e1:=hsn sn hsb.1 hsb.2.1;simp[Seen.res];intro b7;by_cases q1:r.seq=sn.seq
 ·by_cases q2:r.has=true
  ·by_cases q3:sn.rev<=r.rev
   ·have h:=hno (λh=>by have:=(hra.1 h).2;unfold o7 at this;rw[if_pos q1]at this;exact this ⟨q2,q3⟩)
    simp[q1,q2,q3,aH h]
   ·have h:oL d i r:=hra.2 ⟨λ_=>ht,by unfold o7;rw[if_pos q1];exact λh=>q3 h.2⟩
    simp[q1,q2,q3];refine Ent.refl ⟨i+1,⟨by omega,fin h⟩,by omega,?_⟩;simp;exact ew
  ·have q2':r.has=false:=by simpa using q2
   have h:oL d i r:=hra.2 ⟨λ_=>ht,by unfold o7;rw[if_pos q1];exact λh=>q2 h.1⟩;simp[q1,q2'];refine Ent.refl ⟨i+1,⟨by omega,fin h⟩,by omega,?_⟩;simp;exact ew
 ·by_cases q2:r.has=true
  ·by_cases q3:r.seq=sn.seq+1
   ·have h:oL d i r:=hra.2 ⟨λ_=>ht,by unfold o7;rw[if_neg q1];exact⟨q2,q3⟩⟩
    have q4:¬sn.seq+1=sn.seq:=by omega
    simp[q2,q3,e1,q4];refine Ent.refl ⟨i+1,⟨by omega,fin h⟩,by omega,?_⟩;simp;exact ew
   ·have h:=hno (λh=>by have:=(hra.1 h).2;unfold o7 at this;rw[if_neg q1]at this;exact q3 this.2)
    simp[q1,q2,q3,e1,aH h]
  ·have q2':r.has=false:=by simpa using q2
   have h:=hno (λh=>by have:=(hra.1 h).2;unfold o7 at this;rw[if_neg q1]at this;exact q2 this.1);simp[q1,q2',aH h]):p:=h
theorem qV{p:Prop}(h:p:=by
 refine Br.mk (λh1=>?_) (λh1=>?_)
 ·simp
  exact⟨i+1,⟨by omega,AO hlt hlt' hi.2 (OX h1)⟩,by omega,aZ (by omega)⟩
 ·simp[eK]
  exact M0 hlt hlt' (Vw h1)):p:=h
theorem Vb{p:Prop}(h:p:=by
 have hZ:=hty hz;rw[show dR ⟨⟨n3,f3,t3,l3,s3⟩,r3⟩ ⟨6,i,0,[]⟩=(Z,(dR ⟨⟨n3,f3,t3,l3,s3⟩,r3⟩ ⟨6,i,0,[]⟩).2)from by rw[hZ]]at cZ;generalize (dR ⟨⟨n3,f3,t3,l3,s3⟩,r3⟩ ⟨6,i,0,[]⟩).2=codeZ at cZ;simp[hz];refine ae.pure cZ (by simp[Net.row,Event.row]) ?_;simp[Net.res];intro R2 R3 R4 R5;refine Ent.refl ⟨i+1,944,⟨by simp,by omega⟩,by omega,R2,R3,R4,R5,?_⟩;rw[hsuc2];simp;exact ewi):p:=h
theorem iR{p:Prop}(h:p:=by
 have q1':s≠[]:=λh=>q1 (by rw[q2,h])
 simp[q2,q1',y1 ⟨q1,q2⟩,Call.res]):p:=h
theorem Va{p:Prop}(h:p:=by
 intro hq;obtain⟨vs,l,h1,h2,h3,h4⟩:=jv hE hR' fn.results.toList hq;obtain⟨Es,hH⟩:=hR'.heap;refine⟨hR'.dfr,if vs.length=1 then vs.getD 0 undef else .tuple vs.toArray,?_,_,rfl,⟨hR'.below.os,hR'.below.tape,hR'.below.output,hR'.below.size,hR'.below.block⟩,?_⟩
 ·have h1':(fn.results.toList.mapM (nc a'.tmps)).run P w'=.ok vs w':=h1
  rw[p8,Array.mapM_eq_mapM_toList];simp only[Sem.run_bind,Sem.run_map,h1',Result.andThen_ok,Sem.run_pure]
  cases vs with
  |nil=>simp
  |cons v vs=>cases vs<;>simp
 ·have low:∀c,((∃k,Es k c)\/st'.h.M c)->w.heap.size<=c/\c<w'.heap.size:=by
   rintro c (⟨k,hk⟩|⟨k,hk⟩)
   ·exact⟨Nat.le_of_not_lt (hH.elow k c hk).1,(hH.elow k c hk).2⟩
   ·exact⟨Nat.le_of_not_lt (hH.low k c hk).1,hH.lt hk⟩
  unfold yq at h4
  split at h4
  ·split at h4
   ·rename_i r x
    obtain⟨h',E',S,-,hr,O⟩:=wa hH (h3 0 x rfl) h4;rw[if_pos (by simpa using h2)];exact yM.mono hr (λc hc=>low c (O.own c hc).1)
   ·exact h4.elim
  ·rename_i rs _
   obtain⟨hne,h4⟩:=h4;obtain⟨h',E',S,F,-,hl,hF,hd,hr,O⟩:=ue l rs hH h3 h4;rw[if_neg (by omega)];exact⟨vs.toArray,F,rfl,by simp;omega,λj c hc=>low c (O.own c (hF j c hc)).1,hd,λj t hj=>by simpa using hr j t hj⟩):p:=h
theorem U9{p:Prop}(h:p:=by
 obtain⟨n1,n2,n3,n4⟩:=fc hl;simp[Doc.row];intro b2 b4
 refine aU.intro eok (λi:Nat=>i<=d.seen.length/\∀j,j<i->∀hj:j<d.seen.length,d.seen[j].client≠c) (λi=>⟨22,0,[(11,.v (.int .i64 i)),(10,.v (.int .i64 d.seen.length)),(9,.ro (d.seen.map Seen.row)),(1,.v (.int .i64 c)),(4,.p 64 b4 0)],
  [(64,.vars b4 140 [.v (.int .i64 0),.v (.int .i64 0),.v (.int .i64 0)])]⟩) (λi=>d.seen.length-i) 0 (by simp) (by simp) (λi hi=>?_)
 by_cases hlt:i<d.seen.length
 ·simp[hlt,Seen.row]
  intro b7;by_cases hc:d.seen[i].client=c
  ·have e:eD d c=(d.seen[i],true):=by
    rcases td d c with⟨i',h,h1,h2,h3⟩|⟨h1,_⟩
    ·have:i'=i:=by
      rcases Nat.lt_trichotomy i' i with hh|hh|hh
      ·exact absurd h1 (hi.2 i' hh h)
      ·exact hh
      ·exact absurd hc (h2 i hh hlt)
     subst this;exact h3
    ·exact absurd hc (h1 i hlt)
   simp[hc,e,Seen.res]
  ·simp[hc]
   refine⟨i+1,⟨by omega,λj hj hjl=>?_⟩,by omega,aZ (by omega)⟩;by_cases hji:j=i
   ·subst hji;exact hc
   ·exact hi.2 j (by omega) hjl
 ·have e:eD d c=(⟨0,0,0⟩,false):=by
   rcases td d c with⟨i',h,h1,h2,h3⟩|⟨_,h⟩
   ·exact absurd h1 (hi.2 i' (by omega) h)
   ·exact h
  simp[hlt,e,Seen.res]):p:=h
theorem Kt{p:Prop}(h:p:=by
 simp[z];refine drw eok mix [0,2,3,4] [1,5,6] (.c 4 1 8 7 (.c 4 5 0 7 (.c 4 6 7 0 (.l 4 0) .s) .s) .s) ?_;simp
 try intros
 refine ae.pure (iI h (by omega)) (by simp[Hub.row]) ?_;simp[Hub.res]
 try intros
 rw[hat];simp[Answer.res,fX]):p:=h
theorem qU{p:Prop}(h:p:=by
 congr 1;apply propext;unfold eQ
 constructor
 ·rintro⟨-,-,-,-,g1,g2,g3,g4,g5⟩;simp_all
 ·intro g;refine⟨s1,s2,s3,s4,?_,?_,?_,?_,?_⟩<;>simp_all):p:=h
theorem e8{p:Prop}(h:p:=by simp[q1,y2 (λh=>h.1 q1),Call.none,Call.res]):p:=h
theorem U8{p:Prop}(h:p:=by
 have e:Go.IntKind.i64.wrap ((i:Int)+1)=((i+1:Nat):Int):=aZ (by omega);have hg:=Z0 h;have hs:=ZZ h;have hlen:(o6 t i).length=t.length:=by unfold o6;simp;omega
 generalize o6 t i=U at hg hs hlen;have hu:i<U.length:=by omega
 have hgi:U[i]=t[i]:=by rw[List.getElem?_eq_getElem hu]at hg;exact Option.some.inj hg
 simp[h,hlen,hgi];by_cases c1:t[i]<32
 ·have e1:nw t[i]=63:=by unfold nw;rw[if_pos (Or.inl c1)]
  rw[e1]at hs;simp[c1,h,hlen];refine Ent.refl ⟨i+1,by omega,by omega,H,?_⟩;rw[<-hs];simp[e,aN,List.map_set]
 ·by_cases c2:t[i]=127
  ·have e1:nw t[i]=63:=by unfold nw;rw[if_pos (Or.inr c2)]
   rw[e1]at hs;simp[c2,h,hlen];refine Ent.refl ⟨i+1,by omega,by omega,H,?_⟩;rw[<-hs];simp[e,aN,List.map_set]
  ·have e1:nw t[i]=t[i]:=by unfold nw;rw[if_neg (by omega)]
   rw[e1,<-hgi,List.set_getElem_self]at hs;simp[c1,c2];refine Ent.refl ⟨i+1,by omega,by omega,H,?_⟩;rw[<-hs];simp[e]):p:=h
theorem U7{p:Prop}(h:p:=by
 obtain⟨Es,H⟩:=hR.heap;have t:Tr st.h.M w st.h.M { w with drawn:=w.drawn+1 }:=⟨Nat.le_refl _,λ_ _ _=>rfl,λ_ _ h=>h⟩;have hR1:Rep E.w0 E.base st a { w with drawn:=w.drawn+1 }:=(hR.move (h':=st.h) (E':=Es) ⟨λk=>(H.obj k).tr t (λ_ _=>rfl) (λ_ hc _=>hc),H.inj,H.low,H.elow,H.einj,H.em⟩ t ⟨rfl,rfl,rfl⟩).rep;refine⟨hR1.dfr,hR1.size,λs=>?_,hR1.heap,hR1.below,hR1.base_le⟩;by_cases hs:∃p∈iC pv,p.1=s
 ·obtain⟨p,hp,rfl⟩:=hs
  have hany:∀q∈iC pv,q.2=.any:=by
   intro q hq;unfold iC at hq;rw[List.mem_filterMap]at hq;obtain⟨x,-,hx⟩:=hq;rw[Option.map_eq_some_iff]at hx;obtain⟨d,-,rfl⟩:=hx;rfl
  show VRel _ st.h.M (cm (iC pv++st.t) p.1) _
  rw[ke (v:=.any) (by have:=hany p hp;rw[<-this];exact hp) (λq hq _=>hany q hq)];exact .any _
 ·show VRel _ st.h.M (cm (iC pv++st.t) s) _
  rw[mE (λp hp he=>hs ⟨p,hp,he⟩)];exact hR1.tmp s):p:=h
theorem om{p:Prop}(h:p:=by
 have hz:¬(a.length:Int)=b.length:=by omega
 simp[hz,eK];exact λh2=>absurd (by rw[h2]) h):p:=h
theorem D2{p:Prop}(h:p:=by
 simp only at hd hat;simp[k];refine ae.pure hd (by simp[Hub.row]) ?_;simp[Hub.res];intros;by_cases z:code=0
 ·rw[if_pos z]at hat
  simp[z,hat,Answer.res]
 ·rw[if_neg z]at hat
  simp[z];refine ae.pure (ja h (by omega)) (by simp[Hub.row]) ?_;simp[Hub.res,hat,Answer.res,fX]):p:=h
theorem U6{p:Prop}(h:p:=by
 by_cases s1:cf x
 rotate_left
 ·have h:=hno (λh=>s1 (by have:=(h hlt).1;rwa[hx]at this))
  simp[aH s1,aH h]
 simp[s1]
 cases i with
 | zero =>
   simp;exact⟨1,⟨by omega,yQ hi.2 (PU hlt hx s1)⟩,by omega,aZ (n:=0) (by omega)⟩
 | succ k =>
   have ek:Go.IntKind.i64.wrap (k:Int)=k:=gb (by omega);have hk1:k<docs.length:=by omega
   have hk0:(0:Int)<(k:Int)+1:=by omega
   obtain⟨y,hy⟩:∃y,docs[k]=y:=⟨_,rfl⟩;simp[ek,hk0,hk1,hy,Doc.row];by_cases s4:sLt y.name x.name
   rotate_left
   ·have h:=hno (λh=>s4 (by have:=(h hlt).2 (by omega);rw[hx]at this;simp only[Nat.add_sub_cancel]at this;rwa[hy]at this))
    simp[aH s4,aH h]
   simp[s4];exact⟨k+2,⟨by omega,yQ hi.2 (XX hlt hx hy s1 s4)⟩,by omega,by rw[Go.IntWalk.i64_in _ (by omega)];omega⟩):p:=h
theorem D1{p:Prop}(h:p:=by
 go_wp2_with (at_builtin;refine Lib.wpList_append_run _ rfl _ _ _ _ rfl _ _ rfl rfl _ _ (hr _) ?_)
 go_ret
 exact⟨rfl,rfl⟩):p:=h
theorem iQ{p:Prop}(h:p:=by simp[q1,q2,y2 (λh=>q2 h.2),Call.none,Call.res]):p:=h
theorem U0{p:Prop}(h:p:=by
 refine⟨rfl,by simp;omega,λi=>?_,⟨Es,HH.obj,HH.inj,λk b hk=>⟨λhf=>hf.2 ⟨k,hk⟩,(HH.low k b hk).2⟩,HH.elow,HH.einj,HH.em⟩,BelowF.refl _ _,λb hb=>hb.elim (λh=>h.1) (λh=>hR.base_le b (.inr h))⟩
 show VRel w st.h.M (cm (Bv 0 args) i) _
 rw[N5,if_pos (Nat.zero_le i),Nat.sub_zero]
 cases hv:args[i]? with
 |none=>exact .any _
 | some v =>
   have hlt:i<xs.size:=by rw[hs];exact(List.getElem?_eq_some_iff.1 hv).1
   have e:(xs++Array.replicate (fn.ntmps-xs.size) undef).getD i undef=xs.getD i undef:=by
    simp only[Array.getD_eq_getD_getElem?];rw[Array.getElem?_append_left hlt]
   show VRel w st.h.M v ((xs++Array.replicate (fn.ntmps-xs.size) undef).getD i undef)
   rw[e];exact hx i v hv):p:=h
theorem UZ{p:Prop}(h:p:=by
 have hf:=fin R.cx R.cy hc;rw[fi hq]at hf;have hpsz:psz q=q.signs.length:=by have:=hqb.2.2.2.2.1 q2;unfold psz;omega
 have htk:q.signs.take (psz q)=q.signs:=List.take_of_length_le (by omega);rw[<-List.map_take,htk];refine xC (L:=BL) (P:=BP) (D:=BD) (Hl:=H) (Hp:=G) (by omega) (by omega) (by simp[e7,g7]) (by simp[e6,g6]) (λHp' h' k576 k5001 k5000 ko=>?_);have R:=R.rebase (h':=h') (ko 496 (by decide) (by decide) (by decide) (by decide)) (ko 544 (by decide) (by decide) (by decide) (by decide));simp;refine Ent.refl ⟨_,_,_,_,_,hf.1,hf.2,H,Hp',?_⟩;rw[fM,hBe];simp[fb,q2,R.gx,R.gy,k576,k5001,k5000,e5,g5]):p:=h
theorem Ks{p:Prop}(h:p:=by
 rw[p8,Array.mapM_eq_mapM_toList];simp only[Sem.run_bind,Sem.run_map,h1',Result.andThen_ok,Sem.run_pure]
 cases vs with
 |nil=>simp
 |cons v vs=>cases vs<;>simp):p:=h
theorem UY{p:Prop}(h:p:=by
 by_cases h:0<=k/\k<=12
 ·have hc:k=0\/k=1\/k=2\/k=3\/k=4\/k=5\/k=6\/k=7\/k=8\/k=9\/k=10\/k=11\/k=12:=by omega
  rcases hc with rfl|rfl|rfl|rfl|rfl|rfl|rfl|rfl|rfl|rfl|rfl|rfl|rfl
  all_goals simp[mm]
 ·have e:mm k=[]:=by
   unfold mm;rw[if_neg (by omega)];rw[if_neg (by omega)];rw[if_neg (by omega)];rw[if_neg (by omega)];rw[if_neg (by omega)];rw[if_neg (by omega)];rw[if_neg (by omega)];rw[if_neg (by omega)];rw[if_neg (by omega)];rw[if_neg (by omega)];rw[if_neg (by omega)];rw[if_neg (by omega)];rw[if_neg (by omega)]
  simp[h,e]):p:=h
theorem UX{p:Prop}(h:p:=by
 refine drw eok mix [0,1,2,3,4,5,6,7,8,9,10,11] [12,13,14,15,16,17,18,19,20] (.c 12 12 341 3754 (.c 12 13 0 3754 (.c 12 14 0 3754 (.c 12 15 0 3754 (.c 12 16 0 3754 (.c 12 17 0 3754 (.c 12 18 3754 0 (.c 12 19 0 0 (.c 12 20 0 0 (.l 12 0) .s) .s) .s) .s) .s) .s) .s) .s) (.c 12 17 0 4095 (.c 12 12 341 3754 (.c 12 13 0 3754 (.c 12 14 0 3754 (.c 12 15 0 3754 (.c 12 16 0 3754 (.c 12 18 3754 0 (.c 12 19 0 0 (.c 12 20 0 0 (.l 12 0) .s) .s) .s) .s) .s) .s) .s) .s) .s)) ?_;simp
 try intros
 repeat' first
  |(refine ae.pure (hs) (by simp[Doc.row]) ?_;simp[Doc.res];try intros)
  |(rw[Trc];refine⟨?_,?_⟩<;>(try simp)<;>try intros)):p:=h
theorem acG{p:Prop}(h:p:=by
 rw[if_neg z]at hat;simp[z];refine ae.pure (ja h (by omega)) (by simp[Hub.row]) ?_;simp[Hub.res,hat,Answer.res,fX]):p:=h
theorem D0{p:Prop}(h:p:=by
 simp[hq];refine Ent.refl ⟨i+1,by omega,by omega,?_⟩;simp[hnx];exact aZ (by omega)):p:=h
theorem pz{p:Prop}(h:p:=by exact aZ (by omega)):p:=h
theorem Kr{p:Prop}(h:p:=by
 have:=XL (l:=List.range ops.length) (p:=λj=>!on L j) (q:=λj=>!on (L.setIfInBounds i true) j) (λx _ hx=>by
  simp only[Bool.not_eq_true']at hx⊢;rw[hset]at hx
  split at hx
  ·simp at hx
  ·exact hx) (List.mem_range.2 hilt) (by simp[hioff]) (by simp[hset])
 omega):p:=h
theorem UW{p:Prop}(h:p:=by
 skip
 have hle:a'+n<=t.length:=by have:=hin.2.1 (by omega);omega
 have hst:pY cl t (L,(a':Int)) o[i]=(L++(t.drop a').take n,(a':Int)+n):=by simp[pY,k1,hn]
 rw[hst]at hs;obtain⟨m,hm⟩:∃m,(t.drop a').take n=m:=⟨_,rfl⟩;have hcut:cut (t.map aN) a' n=m.map aN:=by rw[gu,<-hm];simp
 have hlen2:m.length=n:=by rw[<-hm];simp;omega
 rw[hm]at hs;simp[k1,hn,ea,hle,hcut];refine⟨by omega,λH2=>Ent.refl ⟨i+1,by omega,by omega,H2,?_⟩⟩;rw[hs];simp[e]):p:=h
theorem UV{p:Prop}(h:p:=by
 split at hc
 ·exact hc.elim
 ·rename_i h1
  split at hc'
  ·exact hc'.elim
  ·rename_i h2
   split at hc<;>split at hc'
   ·rename_i e1 e2;rw[e1,e2]
   ·rename_i e1 e2
    rcases hc with hc|hc|hc
    ·exact absurd (HH.einj _ _ c hc' hc) e2
    ·exact absurd (HH.einj _ _ c hc' hc) h2
    ·exact absurd hc' (hnk c hc x')
   ·rename_i e1 e2
    rcases hc' with hc'|hc'|hc'
    ·exact absurd (HH.einj _ _ c hc hc') e1
    ·exact absurd (HH.einj _ _ c hc hc') h1
    ·exact absurd hc (hnk c hc' x)
   ·exact HH.einj _ _ c hc hc'):p:=h
theorem UU{p:Prop}(h:p:=by
 have hle:a'+n<=t.length:=by have:=hin.2.1 (by omega);omega
 have hst:oX t (L,(a':Int)) o[i]=(L++(t.drop a').take n,(a':Int)+n):=by simp[oX,k1,hn]
 rw[hst]at hs;obtain⟨m,hm⟩:∃m,(t.drop a').take n=m:=⟨_,rfl⟩;have hcut:cut (t.map aN) a' n=m.map aN:=by rw[gu,<-hm];simp
 have hlen2:m.length=n:=by rw[<-hm];simp;omega
 rw[hm]at hs;simp[k1,hn,ea,hle,hcut];refine⟨by omega,λH2=>⟨i+1,by omega,by omega,H2,?_⟩⟩;rw[hs];simp[e]):p:=h
theorem UT{p:Prop}(h:p:=by
 obtain⟨O,hdis⟩:=O1.trans H O2;refine⟨h2,E2,_,λj c=>match j with|0=>S1 c|j+1=>F2 j c,hk2,by simp[hl2],?_,?_,?_,O⟩
 ·intro j c hc
  cases j with
  |zero=>exact .inl hc
  |succ j=>exact .inr (hF2 j c hc)
 ·intro j j' c hc hc'
  cases j<;>cases j'
  ·rfl
  ·exact(hdis c hc (hF2 _ c hc')).elim
  ·exact(hdis c hc' (hF2 _ c hc)).elim
  ·rw[hd2 _ _ c hc hc']
 ·intro j t' hj
  cases j with
  |zero=>simp at hj;subst hj;exact hr1
  |succ j=>exact hr2 j t' (by simpa using hj)):p:=h
theorem zi{p:Prop}(h:p:=by
 have:i=l.length:=by omega
 subst this;simp only[List.drop_length,dW,szR,Nat.zero_le,if_true,Nat.sub_zero]at hx;simp[hx]):p:=h
theorem Kq{p:Prop}(h:p:=by
 cases h:d.list with
 |nil=>rw[h]at c9;simp at c9
 |cons a l=>exact⟨a,l,rfl⟩):p:=h
theorem US{p:Prop}(h:p:=by
 simp[c]
 exact⟨i+1,⟨by omega,λj hj hjl=>by
  by_cases hji:j=i
  ·subst hji;exact c
  ·exact hi.2 j (by omega) hjl⟩,by omega,aZ (by omega)⟩):p:=h
theorem UR{p:Prop}(h:p:=by
 simp[hlt];by_cases h1:(s[i].toNat:Int)<97
 ·have hno:¬mn s:=λh=>by have:=(h.2 i hlt).1;omega
  simp[h1,aH hno]
 ·by_cases h2:122<(s[i].toNat:Int)
  ·have hno:¬mn s:=λh=>by have:=(h.2 i hlt).2;omega
   simp[h1,h2,hlt,aH hno]
  ·simp[h1,h2,hlt]
   refine⟨i+1,⟨by omega,λj hj=>?_⟩,by omega,aZ (by omega)⟩;by_cases hji:j=i
   ·subst hji;exact λ_=>by omega
   ·exact hi.2 j (by omega)):p:=h
theorem UQ{p:Prop}(h:p:=by
 simp only[Array.getD_eq_getD_getElem?];rw[Array.getElem?_append_left hlt]):p:=h
theorem UP{p:Prop}(h:p:=by
 intro n
 induction n with
 |zero=>intro i h;omega
 | succ n ih =>
   intro i hi hlt
   cases ho:on L i with
   |true=>rfl
   | false =>
     exfalso
     have:i∈Region.ready .any ops.toArray L:=(r7 hL).2 ⟨hlt,ho,λk hk=>by
      simp only[dV,Array.any_eq_true',Bool.and_eq_true,beq_iff_eq]at hk;obtain⟨e,he,hb,rfl⟩:=hk;have:=D.back i hlt e he hb;exact ih e.on (by omega) (by omega)⟩
     rw[hr]at this;simp at this):p:=h
theorem sZ{p:Prop}(h:p:=by
 have:r = -1:=by rw[<-hr];exact iJ (by omega)
 rw[iJ k0];simp[this]):p:=h
theorem UO{p:Prop}(h:p:=by
 obtain⟨j,H3⟩:=x;simp only at hx⊢;by_cases c:j<z
 ·have ej:Go.IntKind.i64.wrap ((j:Int)+1)=((j+1:Nat):Int):=aZ (by omega)
  simp[c];intro b37;refine⟨by omega,λH4=>Ent.refl ⟨j+1,by omega,by omega,H4,?_⟩⟩;simp[ej,aN];exact⟨by omega,by rw[List.replicate_succ']⟩
 ·have:j=z:=by omega
  subst this;simp;refine Ent.refl ⟨i+1,by omega,by omega,H3,?_⟩;rw[hs];simp[e]):p:=h
theorem UN{p:Prop}(h:p:=by
 have hZ:=htn hz;subst hZ;simp[hz];refine Ent.refl ⟨i+1,784,⟨by simp,by omega⟩,by omega,Q2,Q3,Q4,Q5,?_⟩;rw[hsuc2];simp;exact ewi):p:=h
theorem zh{p:Prop}(h:p:=by
 refine λb=>⟨by omega,λH2=>Ent.refl ⟨i+1,by omega,by omega,H2,?_⟩⟩
 rw[hs];simp[e,u8R]):p:=h
theorem UM{p:Prop}(h:p:=by
 have hsz:(1<=(s.size:Int)/\(s.size:Int)<=8)↔(1<=s.size/\s.size<=8):=by omega
 by_cases h3:1<=s.size/\s.size<=8
 ·have hy:mn s:=⟨h3,λj hj=>hi.2 j (by omega) hj⟩
  have h4:=hsz.2 h3;simp[h4,hy]
 ·have hno:¬mn s:=λh=>h3 h.1
  have h4:¬(1<=(s.size:Int)/\(s.size:Int)<=8):=λh=>h3 (hsz.1 h)
  simp[aH h4,aH hno]):p:=h
theorem Kp{p:Prop}(h:p:=by
 simp;refine⟨by omega,λb=>⟨e1,by omega,λH2=>Ent.refl ⟨i+1,by omega,by omega,H2,?_⟩⟩⟩;simp;exact⟨aZ (by omega),by rw[<-hT];exact lu (f:=wR ∘ bp) hlt⟩):p:=h
theorem UL{p:Prop}(h:p:=by
 generalize gL d c.n=R at hat hf;obtain⟨list,code⟩:=R;simp only at hat hf;simp[c4];refine drw eok mix [0,1,2,3,4,5,6] [7,8,9,10,11,12] (.c 7 7 5 122 (.c 7 8 0 122 (.c 7 9 0 122 (.c 7 10 0 122 (.c 7 11 122 0 (.c 7 12 0 0 (.l 7 0) .s) .s) .s) .s) .s) .s) ?_;simp[hk,hd,Doc.row]
 try intros
 refine ae.pure (hf) (by simp[Doc.row,Doc.row]) ?_;simp
 try intros
 rw[hat];simp[Answer.res]):p:=h
theorem wG{p:Prop}(h:p:=by
 have:i=l.length:=by omega
 subst this;simp[I7,cut]
 try exact λa _=>rfl):p:=h
theorem DZ{p:Prop}(h:p:=by
 by_cases hn:0<=p.n/\p.n<=200
 ·simp[hn]
 ·have e:dc (0<=p.n/\p.n<=200)=false:=by rw[eK];exact hn
  simp[hn]):p:=h
theorem Ko{p:Prop}(h:p:=by
 have:=hQ n1 (a:=e0) (by rw[hd];simp);unfold ba at this;omega):p:=h
theorem UK{p:Prop}(h:p:=by
 by_cases c2:l[i].rev=aA d
 ·simp[c2]
  refine⟨i+1,⟨by omega,λr hr=>?_⟩,by omega,aZ (by omega)⟩;rw[<-List.take_append_getElem hlt]at hr;rcases List.mem_append.1 hr with hr|hr
  ·exact hi.2 r hr
  ·simp at hr;subst hr;exact⟨c1,c2⟩
 ·have h3:dc (pG ⟨d,l⟩)=false:=by rw[eK];exact hne (λh=>c2 h.2)
  simp[c2,h3]):p:=h
theorem UJ{p:Prop}(h:p:=by
 refine⟨λp hp=>?_,λp hp q hq heq=>?_⟩
 ·rcases List.mem_cons.1 hp with rfl|hp
  ·exact⟨hip,rfl⟩
  ·exact hpv.op p hp
 ·rcases List.mem_cons.1 hp with rfl|hp<;>rcases List.mem_cons.1 hq with rfl|hq
  ·rfl
  ·have:=hlt _ (hdone q hq);simp only at heq;omega
  ·have:=hlt _ (hdone p hp);simp only at heq;omega
  ·exact hpv.one p hp q hq heq):p:=h
theorem Kn{p:Prop}(h:p:=by
 simp[hns',wR];refine drw eok mix [0,1,2] [3,4,5] (.c 3 3 3 4 (.c 3 4 4 0 (.c 3 5 0 0 (.l 3 0) .s) .s) .s) ?_;simp
 try intros
 refine ae.ro hask (by simp[Desk.row,wR]) ?_;simp
 try intros):p:=h
theorem wD{p:Prop}(h:p:=by
 have:r = -1:=by rw[<-hr];exact iJ (by omega)
 rw[iJ k1];simp[this]):p:=h
theorem UI{p:Prop}(h:p:=by
 refine⟨λk=>(hH.obj k).tr t (λb hk=>hb.block b (hH.lt hk)) (λc hc _=>hc),hH.inj,hH.low,λk c hc=>⟨(hH.elow k c hc).1,Nat.lt_of_lt_of_le (hH.elow k c hc).2 hb.size⟩,hH.einj,
  λk c hc=>⟨hH.em k c hc,λh=>by have:=(hH.elow k c hc).2;omega⟩,λc hc=>⟨hR.newer hc.1,hc.2,λ⟨k,hk⟩=>by have:=hH.lt hk;omega⟩⟩):p:=h
theorem Km{p:Prop}(h:p:=by
 refine drw eok mix [0,1,2,3] [4,5,6] (.c 4 4 3 12 (.c 4 5 8 4 (.c 4 6 4 0 (.l 4 0) .s) .s) .s) ?_;simp
 try intros
 refine aB eok hask (by simp[Hub.row,wR]) ?_;simp
 try intros):p:=h
theorem UH{p:Prop}(h:p:=by
 simp[Hub.res]
 try intros
 refine ae.pure (hd) (by simp[Hub.row,Call.row,k]) ?_;simp[Answer.res]
 try intros
 rw[hat];simp):p:=h
theorem DY{p:Prop}(h:p:=by
 intro row h;rcases List.mem_or_eq_of_mem_set h with h|rfl
 ·rw[List.mem_map]at h
  obtain⟨a,-,rfl⟩:=h;rfl
 ·rfl):p:=h
theorem Kl{p:Prop}(h:p:=by
 simp only[yielded,hd',Option.bind_some];simp only[Array.getD_eq_getD_getElem?]at hu
 cases hx:a.tmps[d]? with
 |none=>rfl
 |some v=>rw[hx]at hu;simp at hu;subst hu;rfl):p:=h
theorem pw{p:Prop}(h:p:=by simp[q2,y2 (λh=>q2 h.2),Call.none,Call.res]):p:=h
theorem UG{p:Prop}(h:p:=by
 cases hq:Region.ready .any ops.toArray L with
 |nil=>rfl
 | cons i l =>
   obtain⟨h1,h2,-⟩:=(r7 hL).1 (show i∈Region.ready .any ops.toArray L by rw[hq];simp);have:i∈(List.range ops.length).filter λi=>!on L i:=List.mem_filter.2 ⟨List.mem_range.2 h1,by simp[h2]⟩
   have:=List.length_pos_of_mem this;omega):p:=h
theorem UF{p:Prop}(h:p:=by
 refine drw eok mix [0,1] [2,3] (.c 2 2 2 1 (.c 2 3 1 0 (.l 2 0) .s) .s) ?_;simp
 try intros
 rw[hat];simp[Answer.res]):p:=h
theorem DX{p:Prop}(h:p:=by exact ZL (by omega) (by omega) hi.2):p:=h
theorem sY{p:Prop}(h:p:=by
 have:i=l.length:=by omega
 subst this;simp[bg]):p:=h
theorem Kk{p:Prop}(h:p:=by
 cases j with
 |zero=>rfl
 |succ j=>simp only[lOf,List.getElem?_cons_succ];rw[KY Hs ts (key+1) j];simp only[show key+1+j=key+(j+1) by omega]):p:=h
theorem UE{p:Prop}(h:p:=by
 have hw:IntKind.i64.wrap ((left:Int)-(l.length:Int))=(left:Int)-l.length:=IntWalk.i64_in _ (by omega);simp[hw];by_cases h:l.length<=left
 ·have hz:¬(left:Int)-l.length<0:=by omega
  simp[hz,gm h];omega
 ·have hz:(left:Int)-l.length<0:=by omega
  simp[hz,iJ h]):p:=h
theorem UD{p:Prop}(h:p:=by
 have hb:=(ho _ (List.getElem_mem hi)).bounds;have k1:=PL (ho _ (List.getElem_mem hi));have k2:=PP (ho _ (List.getElem_mem hi));refine⟨by omega,λhk=>?_,by omega⟩
 have:fK o[i]+fD o[i]=o[i].n:=by
  unfold fK fD;by_cases c1:o[i].kind=1
  ·simp[c1]
  ·simp[c1,hk]
 omega):p:=h
theorem wC{p:Prop}(h:p:=by exact xc (p:=λ_ _ K=>K _) (λ_ _=>vh _) K h):p:=h
theorem wB{p:Prop}(h:p:=by
 refine⟨i+1,by omega,by omega,?_⟩;simp[e,hs,hpc];omega):p:=h
theorem UC{p:Prop}(h:p:=by
 rintro rfl
 rw[hp2]at hs;rcases D.use _ hp1 d hs i (D.hpre i hip).1 hd with⟨-,hdep⟩|⟨hn,-⟩
 ·simp only[dV,Array.any_eq_true',Bool.and_eq_true,beq_iff_eq]at hdep
  obtain⟨e,he1,he2,he3⟩:=hdep;have:=D.back _ (D.hpre _ hp1).1 e he1 he2;omega
 ·exact hn hip):p:=h
theorem UB{p:Prop}(h:p:=by
 by_cases s4:x.r.next+x.r.list.length=aA docs[k]+1
 ·have hf:=fin s1 s2 (λh=>absurd h (by omega)) k hk rfl (λ_=>s4)
  simp[e2,s4];exact⟨1,⟨by omega,hf⟩,by omega,aZ (n:=0) (by omega)⟩
 ·simp[e1,e2,s4,aH (norev k hk rfl ho s4)]):p:=h
theorem Kj{p:Prop}(h:p:=by
 have:=congrArg (λl:List Value=>l[j]?) hzc;simp only[Array.getElem?_toList,List.getElem?_map,hj,Option.map_some]at this;simp[this]):p:=h
theorem Ki{p:Prop}(h:p:=by
 rw[List.mem_map]at h;obtain⟨a,-,rfl⟩:=h;rfl):p:=h
theorem sX{p:Prop}(h:p:=by simp[q1,y2 (λh=>h.1 q1),Event.none,Event.res]):p:=h
theorem zg{p:Prop}(h:p:=by
 rw[List.eq_nil_of_length_eq_zero h0];exact .empty _ _ (by intro h;cases h)):p:=h
theorem DW{p:Prop}(h:p:=by
 simp;refine⟨by omega,by omega,?_⟩;simp[cJ,ca,lQ,iu,IY,Lib.join_one]):p:=h
theorem UA{p:Prop}(h:p:=by
 by_cases s4:x.r.next+x.r.list.length=aA docs[k]+1
 ·have hf:=fin s1 s2 hp k hk rfl (λ_=>s4)
  simp[e2,s4];exact⟨m+2,⟨by omega,hf⟩,by omega,by rw[Go.IntWalk.i64_in _ (by omega)];omega⟩
 ·simp[e1,e2,s4,aH (norev k hk rfl ho s4)]):p:=h
theorem Uz{p:Prop}(h:p:=by
 by_cases c:cf (ju name t)
 ·have e:gY name t=(ju name t,true):=by unfold gY;rw[if_pos c]
  simp[c,e,Doc.res];simp[ju]
 ·have e:gY name t=(Doc.zero,false):=by unfold gY;rw[if_neg c]
  simp[aH c,e,Doc.res,Doc.zero]):p:=h
theorem zf{p:Prop}(h:p:=by
 have e:(i+1)*sz=i*sz+sz:=Nat.succ_mul i sz;omega):p:=h
theorem Uy{p:Prop}(h:p:=by
 simp;exact⟨i+1,⟨by omega,Ef h hi.2 (OX h1)⟩,by omega,aZ (by omega)⟩):p:=h
theorem Ux{p:Prop}(h:p:=by
 have:=hx i vd hi
 cases vd with
 |c d=>exact Rd.map this (λ_ _ _=>rfl) (λ_ _ _ q hq=>by cases hq)
 | agg ds =>
   obtain⟨ys,g1,g2,g3⟩:=this;exact⟨ys,g1,g2,λj d hd=>(g3 j d hd).map (λ_ _ _=>rfl) (λ_ _ _ q hq=>by cases hq)⟩):p:=h
theorem acF{p:Prop}(h:p:=by exact⟨m+2,⟨by omega,hf⟩,by omega,by rw[Go.IntWalk.i64_in _ (by omega)];omega⟩):p:=h
theorem Uw{p:Prop}(h:p:=by
 cases hdep:dV (bo ops i) q.1 with
 |false=>rfl
 | true =>
   exfalso
   by_cases hg:q.1∈G
   ·exact hqG (List.mem_append.2 (.inr hg))
   ·exact hqG (List.mem_append.2 (.inl (List.mem_map.2 ⟨q,List.mem_filter.2 ⟨hq,by simp[hdep,hg]⟩,rfl⟩)))):p:=h
theorem DV{p:Prop}(h:p:=by
 have q1':s≠[]:=λh=>q1 (by rw[q2,h])
 simp[q2,q1',y1 ⟨q1,q2⟩,Event.res]):p:=h
theorem Uv{p:Prop}(h:p:=by
 subst hz;refine Ent.refl ?_;have hs:=u7 h;simp[h];refine Gl hrd ?_;have r0:qz []=[]:=rfl;simp[h,r0];intro b b1 H2;refine Ent.refl ⟨1,by omega,by omega,H2,?_⟩;rw[hs];simp[r0,p6,oJ,aN];exact gb (n:=1) (by omega)):p:=h
theorem Uu{p:Prop}(h:p:=by
 by_cases h1:r.has=true
 ·by_cases h2:x.client=r.client
  ·by_cases h3:x.seq=r.seq
   ·exact .inl ⟨h1,h2,h3⟩
   ·exact .inr (.inr (.inr ⟨h1,h2,h3⟩))
  ·exact .inr (.inr (.inl ⟨h1,h2⟩))
 ·exact .inr (.inl (by simpa using h1))):p:=h
theorem wA{p:Prop}(h:p:=by
 rw[<-List.take_append_getElem h,List.foldl_append];rfl):p:=h
theorem Ut{p:Prop}(h:p:=by
 rw[hOf,Lj Hs ts (key+1) q];by_cases h:key+1<=q
 ·rw[if_pos h,if_pos (by omega),show q-key=(q-(key+1))+1 by omega,List.getElem?_cons_succ]
 ·rw[if_neg h]
  split
  ·have:q=key:=by omega
   subst this;simp
  ·rfl):p:=h
theorem acE{p:Prop}(h:p:=by
 refine⟨by omega,λH2=>⟨i+1,by omega,by omega,H2,?_⟩⟩;rw[hs];simp[e]):p:=h
theorem Us{p:Prop}(h:p:=by
 have e:iW k=[]:=by
  unfold iW;rw[if_neg (by omega)];rw[if_neg (by omega)];rw[if_neg (by omega)];rw[if_neg (by omega)];rw[if_neg (by omega)];rw[if_neg (by omega)];rw[if_neg (by omega)];rw[if_neg (by omega)]
 simp[h,e]):p:=h
theorem Kh{p:Prop}(h:p:=by exact .empty _ _ (by intro h;cases h)):p:=h
theorem Ur{p:Prop}(h:p:=by
 rw[if_neg c]at hs;refine Ent.refl ?_;simp[h];refine Gl hrd ?_;simp[h,hp,e1];refine Gl hrd ?_;simp[hmw,c];refine λb b1=>⟨by omega,λH2=>Ent.refl ⟨i+1,by omega,by omega,H2,?_⟩⟩
 rw[hs];simp[e,oJ,aN]):p:=h
theorem Uq{p:Prop}(h:p:=by
 by_cases c2:dw (fS room rev)
 ·have e:=Ls c2
  rw[show fS room rev=⟨room,rev+1,false,[]⟩from rfl]at c2;simp[c2,e,Ring.res,fS]
 ·simp[aH c2,Cl c2,Ring.res,Ring.zero]):p:=h
theorem DU{p:Prop}(h:p:=by
 rw[hm1];have:r=(m1:Int):=by rw[<-hr,gm (by omega)];omega
 simp[this]):p:=h
theorem Up{p:Prop}(h:p:=by
 have h:=I.pend p hp hiG;rw[hpo]at h;refine v7 (st:={ st with t:=pvT pv++st.t,h:=st2.h }) (λs hs=>?_) rfl h
 show cm (sl.map λs=>(s,cm full s)) s=cm full s
 rw[z8,if_pos (List.mem_append.2 hs)]):p:=h
theorem Uo{p:Prop}(h:p:=by
 unfold pvT;rw[List.mem_filterMap]
 constructor
 ·rintro⟨p,hp,h⟩
  rw[Option.map_eq_some_iff]at h;obtain⟨d,hd,he⟩:=h
  cases he
  exact⟨p,hp,hd,rfl⟩
 ·rintro⟨p,hp,hd,rfl⟩
  exact⟨p,hp,by rw[hd];rfl⟩):p:=h
theorem sW{p:Prop}(h:p:=by exact⟨l,rfl,by simpa[mL]using h1,hl⟩):p:=h
theorem Kg{p:Prop}(h:p:=by
 refine λb10=>⟨by omega,λH2=>Ent.refl ⟨i+1,by omega,by omega,H2,?_⟩⟩
 rw[hs];simp[e,Part.row]):p:=h
theorem Un{p:Prop}(h:p:=by
 simp;intro H1 b;have e1:i=min i l.length:=by omega
 refine⟨e1,by omega,λH2=>Ent.refl ⟨i+1,by omega,by omega,H2,?_⟩⟩;simp;exact⟨aZ (by omega),lu (f:=λe:Entry=>hJ e.o) hlt⟩):p:=h
theorem Kf{p:Prop}(h:p:=by
 simp only at h;have e:((x.toNat:Nat):Int)=x:=by omega
 rw[e]at h;rw[C5,show x % 256=x by omega,h]):p:=h
theorem Um{p:Prop}(h:p:=by
 intro j hj;rw[hROW];simp only[Array.getD_eq_getD_getElem?];rw[Array.getElem?_append_left (by simp[nH];omega),Array.getElem?_append_left (by simp;omega)];simp[List.getElem?_take,hj,List.getD_eq_getElem?_getD]):p:=h
theorem ze{p:Prop}(h:p:=by
 rw[kz,aay];simp only[aM,List.length_nil];omega):p:=h
theorem pt{p:Prop}(h:p:=by simp[q2,y1 ⟨q1,q2⟩,Call.res]):p:=h
theorem zd{p:Prop}(h:p:=by
 have e0:F.length-1=m:=by omega
 simp[dX,hF0,e0]):p:=h
theorem Ul{p:Prop}(h:p:=by
 have h:=hno (k+1) (λh=>s4 (by have:=(h hlt).2.2.2 (by omega);rw[hx]at this;simp only[Nat.add_sub_cancel]at this;rwa[hy]at this));have s4':x.client<=y.client:=by omega
 simp[s4',aH h]):p:=h
theorem DS{p:Prop}(h:p:=by
 refine⟨by omega,Ent.refl ⟨1,by omega,by omega,?_⟩⟩;simp[hn];rfl):p:=h
theorem Uk{p:Prop}(h:p:=by
 by_cases h:1<=n/\n<=200
 ·simp[h,dC,Part.row]
 ·have e:dc (1<=n/\n<=200)=false:=by rw[eK];exact h
  have k:dC n=[]:=by unfold dC;rw[if_neg h]
  simp[e,k]):p:=h
theorem DR{p:Prop}(h:p:=by
 have he:o.take i=o:=List.take_of_length_le (by omega);rw[he];simp[h]):p:=h
theorem Ke{p:Prop}(h:p:=by
 intro q hq';rcases List.mem_append.1 hq' with c|c
 ·exact g3 q c
 ·rw[List.mem_singleton.1 c];exact hq):p:=h
theorem Uj{p:Prop}(h:p:=by
 by_cases h:db (nn r cb)
 ·rw[pS h]at e
  simp[h,e];simp[nn]
 ·rw[ve h]at e
  have e2:dc (db (nn r cb))=false:=by rw[eK];exact h
  simp[e2,e,Rep.zero]):p:=h
theorem Ui{p:Prop}(h:p:=by
 cases H' with
 |none=>intro hk;simp[AObj.blk]at hk
 | some q =>
   obtain⟨b',o,C⟩:=q
   rintro hk ⟨cs,T,F,hb,_⟩
   simp only[AObj.blk,Option.some.injEq]at hk;subst hk;exact gq hb):p:=h
theorem Uh{p:Prop}(h:p:=by
 apply propext
 constructor
 ·intro hl q hq
  have:=hl q hq
  rwa[bU,if_neg (by rintro rfl;exact hq hk)]at this
 ·intro hl q hq
  rw[bU,if_neg (by rintro rfl;exact hq hk)];exact hl q hq):p:=h
theorem Ug{p:Prop}(h:p:=by
 have hst:pY cl t (L,(a':Int)) o[i]=(L,(a':Int)+n):=by simp[pY,k1,k2,hn]
 rw[hst]at hs;simp[k3,hn,ea];refine Ent.refl ⟨i+1,by omega,by omega,H,?_⟩;rw[hs];simp[e]):p:=h
theorem Uf{p:Prop}(h:p:=by
 exfalso
 have:(rows[r]).drop c=[]:=List.drop_eq_nil_of_le (by omega);rw[this]at h;unfold ji at h
 split at h
 ·rename_i hg
  have hn:=h.1;have hz:=ht.npos;simp at hn;omega
 ·exact h):p:=h
theorem Ue{p:Prop}(h:p:=by
 have e:gr k=[]:=by
  unfold gr;rw[if_neg (by omega)];rw[if_neg (by omega)];rw[if_neg (by omega)];rw[if_neg (by omega)];rw[if_neg (by omega)];rw[if_neg (by omega)]
 simp[h,e]):p:=h
theorem Ud{p:Prop}(h:p:=by
 obtain⟨h4,h5⟩:=hM c hm
 split at hc
 ·exact hc
 ·split at hc
  ·rcases hc with hc|hc|hc
   ·exact HH.em _ c hc h4
   ·exact HH.em _ c hc h4
   ·exact h5 hc
  ·exact HH.em x c hc h4):p:=h
theorem Uc{p:Prop}(h:p:=by
 split at hc
 ·exact hc.elim
 ·split at hc
  ·rcases hc with hc|hc|hc
   ·exact HH.elow _ c hc
   ·exact HH.elow _ c hc
   ·exact⟨(HH.low k' c hc).2,HH.lt hc⟩
  ·exact HH.elow x c hc):p:=h
theorem Ub{p:Prop}(h:p:=by
 have:i=reps.length:=by omega
 subst this;simp;refine Ent.refl ⟨r+1,k',⟨hk',by omega⟩,by omega,U2,U3,U4,U5,?_⟩;rw[hsuc];rcases hk' with rfl|rfl|rfl<;>simp<;>exact ew):p:=h
theorem Ua{p:Prop}(h:p:=by
 obtain⟨q1,q2⟩:=hpv.op q hq;rcases D.use i hip s hs' q.1 (D.hpre _ q1).1 (by rw[<-q2];exact hqd)with⟨-,h⟩|⟨h,-⟩
 ·exact I.val q hq (hidep _ h) s hqd
 ·exact absurd q1 h):p:=h
theorem T9{p:Prop}(h:p:=by
 rcases List.mem_append.1 hj with hj|hj
 ·obtain⟨p,hp,rfl⟩:=hall j hj
  exact⟨p,List.mem_cons_of_mem _ hp,rfl⟩
 ·simp at hj;subst hj;exact⟨_,List.mem_cons_self ..,rfl⟩):p:=h
theorem T8{p:Prop}(h:p:=by
 have e:eC r=(Call.zero,false):=by unfold eC;rw[if_neg (λh=>c1 h.1)]
 have e2:dc (db r)=false:=by rw[eK];exact c1
 simp[e2,e,Call.res,Call.zero]):p:=h
theorem DQ{p:Prop}(h:p:=by
 have e2:dc (cz a)=false:=by rw[eK];exact c1
 simp[e2,e]):p:=h
theorem DP{p:Prop}(h:p:=by
 have e2:dc (cz b)=false:=by rw[eK];exact c2
 simp[e2,e]):p:=h
theorem DO{p:Prop}(h:p:=by intro p hp;simp at hp;subst hp;exact q9 hq.1 (Nat.le_refl _)):p:=h
theorem T7{p:Prop}(h:p:=by
 have hf:=fin s1 s2 (λh=>absurd h (by omega)) k hk rfl (λh=>absurd (ho.symm.trans h) (by simp));simp;exact⟨1,⟨by omega,hf⟩,by omega,aZ (n:=0) (by omega)⟩):p:=h
theorem T6{p:Prop}(h:p:=by
 simp[Doc.res]
 try intros
 simp[e1];refine⟨by omega,λH'=>Ent.refl ⟨i+1,by omega,by omega,H',?_⟩⟩;simp;exact⟨aZ (by omega),lu (f:=Doc.row) hlt⟩):p:=h
theorem T5{p:Prop}(h:p:=by
 simp[Rep.res]
 try intros
 simp[e1];refine⟨by omega,λH'=>Ent.refl ⟨i+1,by omega,by omega,H',?_⟩⟩;simp;exact⟨aZ (by omega),lu (f:=Rep.row) hlt⟩):p:=h
theorem T4{p:Prop}(h:p:=by
 have h:bI ⟨sh,docs,subs,last⟩:=⟨c1,c2,c3,c4,λi=>by
  by_cases h:i<subs.length
  ·exact hi.2 i (by omega)
  ·exact λh'=>absurd h' h⟩
 simp[hlt,h]):p:=h
theorem Kd{p:Prop}(h:p:=by
 simp[c5];exact⟨i+1,⟨by omega,Ef hlt hi.2 c5⟩,by omega,aZ (by omega)⟩):p:=h
theorem T3{p:Prop}(h:p:=by
 rcases List.mem_cons.1 hp with rfl|hp
 ·exact key _ hip rfl (Nat.le_refl _) h2
 ·exact key p (hpv.op p hp).1 (hpv.op p hp).2 (Nat.le_of_lt (hlt _ (hdone p hp))) (hval p hp)):p:=h
theorem Kc{p:Prop}(h:p:=by
 cases L with
 |nil=>rfl
 |cons p l=>have:=h (by simp);simp at this;simp[Nv,this]):p:=h
theorem DN{p:Prop}(h:p:=by
 by_cases h2:a2=b2
 rotate_left
 ·simp[h2]
 subst h2
 try simp):p:=h
theorem TZ{p:Prop}(h:p:=by
 obtain⟨a1,a2⟩:=hpv.op p hp;obtain⟨b1,b2⟩:=hpv.op q hq;rw[a2]at h1;rw[b2]at h2;exact hpv.one p hp q hq (D.dst _ (D.hpre _ a1).1 _ (D.hpre _ b1).1 d h1 h2)):p:=h
theorem TY{p:Prop}(h:p:=by
 intro x c hc;rw[hget]at hc
 split at hc
 ·simp[AObj.blk]at hc
 ·rename_i hx
  split at hc
  ·rename_i hx2;subst hx2;rw[hk];exact⟨hx,hc⟩
  ·exact⟨hx,hc⟩):p:=h
theorem zc{p:Prop}(h:p:=by rw[<-hx];unfold szR;split<;>split<;>omega):p:=h
theorem TX{p:Prop}(h:p:=by
 have e:dc (0<=r.rev/\r.rev<=999999999)=false:=by rw[eK];exact c3
 have hn:dc (db r)=false:=by rw[eK];exact λh=>c3 h.2.2.1
 simp[e,hn]):p:=h
theorem TW{p:Prop}(h:p:=by
 have e:dc (0<=r.seq/\r.seq<=999999999)=false:=by rw[eK];exact c2
 have hn:dc (db r)=false:=by rw[eK];exact λh=>c2 h.2.1
 simp[e,hn]):p:=h
theorem Kb{p:Prop}(h:p:=by
 cases hs:ij x y with
 |none=>rfl
 |some r=>have:=(jq hi hs).dec;omega):p:=h
theorem TV{p:Prop}(h:p:=by
 have c12:dc (ik l[i])=false:=by rw[eK];exact c1
 have h3:dc (pG ⟨d,l⟩)=false:=by rw[eK];exact hne (λh=>c1 h.1)
 simp[c12,h3]):p:=h
theorem Ka{p:Prop}(h:p:=by
 intro r hr;rcases List.mem_append.1 hr with hr|hr
 ·exact hL r hr
 ·exact hn.ok r hr):p:=h
theorem TU{p:Prop}(h:p:=by
 have e:dc (1<=r.client/\r.client<=8)=false:=by rw[eK];exact c1
 have hn:dc (db r)=false:=by rw[eK];exact λh=>c1 h.1
 simp[e,hn]):p:=h
theorem TT{p:Prop}(h:p:=by exact⟨k+2,⟨by omega,fin (λ_=>by simp only[Nat.add_sub_cancel];rw[hy];exact s4) s2 s3⟩,by omega,by rw[Go.IntWalk.i64_in _ (by omega)];omega⟩):p:=h
theorem wz{p:Prop}(h:p:=by
 split at hc
 ·exact hc.elim
 ·exact hc):p:=h
theorem J9{p:Prop}(h:p:=by
 have e:dc (cz o)=false:=by rw[eK];exact c1
 simp[e,no (λh=>c1 h.1)]):p:=h
theorem J8{p:Prop}(h:p:=by
 rw[hm0];have:r=(m0:Int):=by rw[<-hr,gm (by omega)];omega
 simp[this]):p:=h
theorem oj{p:Prop}(h:p:=by simp[aH c1,aH h]):p:=h
theorem TS{p:Prop}(h:p:=by
 cases H with
 |none=>obtain⟨⟨a,rfl⟩,_⟩:=hx;rfl
 | some q =>
   obtain⟨b,o,C⟩:=q;rcases hx with⟨rfl,_⟩|⟨_,_,a,rfl⟩<;>rfl):p:=h
theorem TR{p:Prop}(h:p:=by
 have e:=mF (r:=r) (λh=>c1 h.1);have e2:dc (db r)=false:=by rw[eK];exact c1
 simp[e2,e,Rep.res,Rep.zero,Call.res,Call.zero]):p:=h
theorem TQ{p:Prop}(h:p:=by
 refine⟨a'::l',by simp[h2],λi av hi=>?_,hk⟩
 cases i with
 |zero=>simp at hi;subst hi;exact h1
 |succ i=>exact h3 i av (by simpa using hi)):p:=h
theorem TP{p:Prop}(h:p:=by
 rw[e];simp[hd,ht];by_cases e0:text=[]<;>by_cases e1:o=[]<;>by_cases e2:seq=0<;>by_cases e3:client=0<;>simp[e0,e1,e2,e3,ho,ht]):p:=h
theorem TO{p:Prop}(h:p:=by
 refine Ent.refl ⟨i+1,by omega,by omega,?_⟩;simp[gh,hs,hpc];refine⟨by omega,?_⟩;refine nR h ?_;rw[hq0];subst hq1 hq2 hq3;rfl):p:=h
theorem acD{p:Prop}(h:p:=by
 rw[if_pos z]at hat;simp[z];refine drw eok mix [0,1] [2,3] (.c 2 2 2 1 (.c 2 3 1 0 (.l 2 0) .s) .s) ?_;simp
 try intros
 rw[hat];simp[Answer.res,fX]):p:=h
theorem DM{p:Prop}(h:p:=by simp[q1,q2,y2 (λh=>q2 h.2),Event.none,Event.res]):p:=h
theorem TN{p:Prop}(h:p:=by
 have h:¬gz ⟨d,l⟩:=λh=>c2 h.2.1
 have c2':¬(1<=(l.length:Int)/\(l.length:Int)<=4):=by omega
 simp[aH c2',aH h]):p:=h
theorem J7{p:Prop}(h:p:=by
 try intros
 refine Ent.refl ⟨i+1,by omega,by omega,?_⟩;simp[e1,hs,ML]):p:=h
theorem TM{p:Prop}(h:p:=by
 by_cases c3:cr e.o
 ·have h:dr e:=⟨c1,c2,c3⟩
  simp[c3,h]
 ·have h:¬dr e:=λh=>c3 h.2.2
  simp[aH c3,aH h]):p:=h
theorem TL{p:Prop}(h:p:=by
 rcases(h8 i hi).2 s hs k hk with h|h
 ·exact absurd hd h
 ·split at h
  ·rename_i hp;exact .inl ⟨hp,h⟩
  ·rename_i hp;exact .inr ⟨hp,h⟩):p:=h
theorem TK{p:Prop}(h:p:=by
 rw[if_neg (by omega),if_neg (by omega),List.getElem?_append_left (by omega),List.getElem?_take,if_pos c1,hRg j c1];simp[List.getD_eq_getElem?_getD]):p:=h
theorem TJ{p:Prop}(h:p:=by
 have e:i=list.length:=by omega
 have ht:(list.map ka).take list.length=list.map ka:=List.take_of_length_le (by simp);subst e;simp[ht]):p:=h
theorem TH{p:Prop}(h:p:=by
 cases ok with
 |false=>exact .inl rfl
 | true => by_cases h : t = r.text
           ·exact .inr (.inr ⟨rfl,h⟩)
           ·exact .inr (.inl ⟨rfl,h⟩)):p:=h
theorem TG{p:Prop}(h:p:=by
 by_cases h:db (ou r t s1 s2)
 ·rw[pS h]at e
  simp[h,e];simp[ou,hA]
 ·rw[ve h]at e
  simp[aH h,e,Rep.zero]):p:=h
theorem TF{p:Prop}(h:p:=by
 have e:=mF (r:=r) (λh=>ch h.2.1);have ch2:r.has=true:=by simpa using ch
 simp[ch2,e,Rep.res,Rep.zero,Call.res,Call.zero]):p:=h
theorem TD{p:Prop}(h:p:=by
 have ha:=uc (by omega) hi.2;simp[h];refine sA ?_;unfold fL;exact⟨λh=>by have:=h.2;omega,λh=>⟨ha,by omega⟩⟩):p:=h
theorem TB{p:Prop}(h:p:=by
 refine⟨by omega,λH''=>Ent.refl ⟨i+1,by omega,by omega,H'',?_⟩⟩;simp;exact⟨aZ (by omega),lu (f:=Sub.row) hlt⟩):p:=h
theorem TA{p:Prop}(h:p:=by
 refine⟨by omega,λH2=>Ent.refl ⟨i+1,by omega,by omega,H2,?_⟩⟩;simp;exact⟨aZ (by omega),lu (f:=Entry.row) hlt⟩):p:=h
theorem Tz{p:Prop}(h:p:=by
 by_cases hz:code=0
 ·rw[if_pos hz]at e
  simp[hz,e,Rep.row];exact lB
 ·rw[if_neg hz]at e
  simp[hz,e,Rep.row];exact lB):p:=h
theorem Tx{p:Prop}(h:p:=by
 have hq':=(List.mem_filter.1 hq).1;have hq2:=(List.mem_filter.1 hq).2;simp only[Bool.and_eq_true]at hq2;exact I.val q hq' (hidep _ hq2.1) d hd):p:=h
theorem Tw{p:Prop}(h:p:=by
 have e:eC r=(Call.zero,false):=by unfold eC;rw[if_neg (λh=>by rw[ch]at h;simp at h)]
 simp[e,Call.res,Call.zero]):p:=h
theorem J6{p:Prop}(h:p:=by
 have ih:=yk a b (by simpa[frA]using h);rw[tA];simp[frA,toA];omega):p:=h
theorem Tu{p:Prop}(h:p:=by
 rw[if_pos h1,if_pos (by omega),show i-k=(i-(k+1))+1 by omega];rfl):p:=h
theorem Tt{p:Prop}(h:p:=by
 split
 ·rename_i h;subst h;exact .inr (List.mem_cons_self ..)
 ·rcases ih with h|h
  ·exact .inl h
  ·exact .inr (List.mem_cons_of_mem _ h)):p:=h
theorem J5{p:Prop}(h:p:=by
 cases D with
 |zero=>exact h.elim
 |succ D=>simpa only[jn,hu]using h):p:=h
theorem Ts{p:Prop}(h:p:=by
 refine ae.pure hst (by simp[Net.row]) ?_;simp[Net.res];intro G1 G2 G3 G4 b17
 cases okr with
 |true=>simp[zz]
 |false=>simp[KH]):p:=h
theorem DL{p:Prop}(h:p:=by exact one rfl (λfs h=>by rw[hu]at h;simp at h)):p:=h
theorem Tq{p:Prop}(h:p:=by
 rw[List.getD_eq_getElem?_getD]
 cases hx:(bf 32 s)[i]? with
 |none=>simp
 |some x=>have:=hw x (List.mem_of_getElem? hx);simp;omega):p:=h
theorem Tp{p:Prop}(h:p:=by
 have e:fv d rev=([],false):=by unfold fv;rw[if_neg c]
 have c':(fQ d rev).2=false:=by simpa using c
 simp[c',e]):p:=h
theorem To{p:Prop}(h:p:=by
 have:=Nat.mul_le_mul_right te.n (show i+1<=rows.length by omega);have e:(i+1)*te.n=i*te.n+te.n:=Nat.succ_mul i te.n;omega):p:=h
theorem Tn{p:Prop}(h:p:=by
 have e:fQ d rev=([],false):=by unfold fQ;rw[if_neg c]
 have c':(gi d rev).2=false:=by simpa using c
 simp[c',e]):p:=h
theorem Tm{p:Prop}(h:p:=by
 simp[aH c1];refine ae.pure (iI h (by omega)) (by simp[Hub.row]) ?_;simp[Hub.res,Lw (λh=>c1 h.1),Answer.res,fX]):p:=h
theorem Tl{p:Prop}(h:p:=by
 simp[aH c2];refine ae.pure (iI h (by omega)) (by simp[Hub.row]) ?_;simp[Hub.res,Lw (λh=>c2 h.2),Answer.res,fX]):p:=h
theorem J4{p:Prop}(h:p:=by exact⟨v,av,by simpa[Instr.loadAt,Instr.sureAddr]using h1,h2,h3⟩):p:=h
theorem Tk{p:Prop}(h:p:=by
 refine⟨by decide,by decide,λb=>⟨by omega,λH2=>Ent.refl ⟨i+1,by omega,by omega,H2,?_⟩⟩⟩;rw[hs];simp[e,u8R]):p:=h
theorem Tj{p:Prop}(h:p:=by
 rw[<-hyes c1]at hc;generalize ed r rev=R at hc⊢;obtain⟨R1,R2⟩:=R;refine ae.pure hc (by simp) ?_;simp[Ring.res]):p:=h
theorem Ti{p:Prop}(h:p:=by
 by_cases h:db (rM r t)
 ·rw[pS h]at e
  simp[h,e];simp[rM]
 ·rw[ve h]at e
  simp[aH h,e,Rep.zero]):p:=h
theorem Th{p:Prop}(h:p:=by
 cases H with
 |none=>cases hb
 |some q=>obtain⟨b',o,C⟩:=q;obtain⟨cs,T,F,h1,-⟩:=h;cases hb;exact⟨cs,T,h1⟩):p:=h
theorem Tg{p:Prop}(h:p:=by
 have c2':6<(subs.length:Int):=by omega
 have h:¬bI ⟨sh,docs,subs,last⟩:=λh=>c2 h.2.1
 simp[c1',c2',aH h]):p:=h
theorem Tf{p:Prop}(h:p:=by
 intro q hq d hd he;obtain⟨q1,q2⟩:=hpv.op q hq;rw[q2]at hd;have:=D.dst _ (D.hpre _ q1).1 i hilt d hd he;exact hip (this ▸ q1)):p:=h
theorem Te{p:Prop}(h:p:=by
 rintro e w' ⟨v,rr,rfl,rfl,hb,hr⟩
 have h:Rd w' false _ v (.v u):=hr
 cases h with
 |plain h=>exact⟨_,rfl,hb,rfl,hu⟩):p:=h
theorem Td{p:Prop}(h:p:=by
 have hp':=(List.mem_filter.1 hp).1;have hlt:=(D.hpre _ (hpv.op p hp').1).1;exact I.val p hp' (hon (p.1+1) p.1 (by omega) hlt) d hd):p:=h
theorem DK{p:Prop}(h:p:=by
 split at h
 ·exact⟨_,h,rfl⟩
 ·exact h.elim):p:=h
theorem Tc{p:Prop}(h:p:=by
 rw[if_neg (by omega),if_pos (by omega),List.getElem?_append_right (by omega),List.getElem?_drop,List.getElem?_drop]
 congr 2
 omega):p:=h
theorem Tb{p:Prop}(h:p:=by
 have e:fN r=[]:=by unfold fN;rw[if_neg c1]
 have e2:dc (db r)=false:=by rw[eK];exact c1
 simp[e2,e]):p:=h
theorem Ta{p:Prop}(h:p:=by
 rw[if_neg (by omega),if_neg (by omega),List.getElem?_append_left (by omega),List.getElem?_take,if_pos c1,hcs j (by omega)];simp):p:=h
theorem S9{p:Prop}(h:p:=by
 rw[hROW];simp only[Array.size_append,List.size_toArray,nH,hzz,htl];rw[<-Nat.add_mul,<-Nat.add_mul]
 congr 1
 omega):p:=h
theorem S8{p:Prop}(h:p:=by
 have c1':5<(docs.length:Int):=by omega
 have h:¬bI ⟨sh,docs,subs,last⟩:=λh=>c1 h.1
 simp[c1',aH h]):p:=h
theorem dJ{p:Prop}(h:p:=by exact h.elim):p:=h
theorem gA{p:Prop}(h:p:=by simp[nL,dW]):p:=h
theorem S7{p:Prop}(h:p:=by
 have:q'=p:=hpv.one q' hq' p hp (by rw[hqi,hpi]);subst this;rw[hpd]at hd';cases hd';rw[hd,aae hdlt];exact q.val):p:=h
theorem S6{p:Prop}(h:p:=by
 intro i j row d hi hj;exact(h9 i j row d hi hj).map (λc hc hl=>t.frame c hl (h7 i j c hc).2) (λc hc hl=>⟨hc,hl⟩)):p:=h
theorem S5{p:Prop}(h:p:=by
 intro h1 h2 h3 j hj;by_cases hji:j=i
 ·subst hji;intro hh;rw[hx];exact⟨s1,h2,h3,h1⟩
 ·exact hi.2 j (by omega)):p:=h
theorem DJ{p:Prop}(h:p:=by
 split
 ·exact uO _
 ·exact nT):p:=h
theorem zb{p:Prop}(h:p:=by exact List.take_of_length_le (by simp)):p:=h
theorem za{p:Prop}(h:p:=by
 split
 ·rw[if_neg (by omega)]
 ·rfl):p:=h
theorem S4{p:Prop}(h:p:=by
 by_cases k1:o[i].kind=1
 ·simp[k1]
  omega
 ·by_cases k2:o[i].kind=2
  ·simp[k2];omega
  ·simp[k1,k2];omega):p:=h
theorem S3{p:Prop}(h:p:=by
 go_wp2
 refine⟨⟨k+1,by simp,hkn,?_⟩,by simp[intOf];omega⟩;have:=hb.out;rw[<-h3.out]at this;exact this):p:=h
theorem SZ{p:Prop}(h:p:=by
 intro s2 s hne;unfold ASt.aft
 split
 ·rfl
 ·rename_i d hd
  simp only[cm];rw[if_neg (λhe=>hne (by rw[hd,he]))]):p:=h
theorem DI{p:Prop}(h:p:=by
 simp at this;obtain⟨x,-,rfl⟩:=this;rfl):p:=h
theorem gT{p:Prop}(h:p:=by
 simp only;omega):p:=h
theorem SY{p:Prop}(h:p:=by
 refine Qk (I.rep.move hrel q.tr q.same).rep r (λs hs=>?_);rw[hd]at hs;cases hs;exact I.mask p hp hiG d hpd):p:=h
theorem SX{p:Prop}(h:p:=by
 refine⟨by omega,λH=>?_⟩;refine Ent.refl ⟨i+1,by omega,by omega,Hl,H,?_⟩;rw[hs];simp[fb,c2,e]):p:=h
theorem SW{p:Prop}(h:p:=by
 have s3':x.id<=y.id:=by omega
 simp[s3',aH (noprev (by omega) (by simp only[Nat.add_sub_cancel];rwa[hy]))]):p:=h
theorem J3{p:Prop}(h:p:=by
 simp at e2;subst e2;exact⟨⟨n0,n1,n2⟩,rfl,k0,k1,k2⟩):p:=h
theorem SV{p:Prop}(h:p:=by
 have e:=hf.2 (λh=>c4 h.1);have e2:dc (cz (normal (xf a b).1))=false:=by rw[eK];exact c4
 simp[e2,e]):p:=h
theorem SU{p:Prop}(h:p:=by
 have e:=hf.2 (λh=>c5 h.2);have e2:dc (cz (normal (xf a b).2))=false:=by rw[eK];exact c5
 simp[e2,e]):p:=h
theorem SS{p:Prop}(h:p:=by
 rintro i j c ⟨hc,hl⟩
 exact⟨λho=>hE c ((h7 i j c hc).1 ho) hl,λhM=>(h7 i j c hc).2 (t.mono c hl hM)⟩):p:=h
theorem J2{p:Prop}(h:p:=by exact⟨λh=>by rw[if_pos h],λh=>by rw[if_neg h]⟩):p:=h
theorem SR{p:Prop}(h:p:=by
 have h3:pG ⟨d,l⟩:=λr hr=>hi.2 r (by rw[List.take_of_length_le (by omega)];exact hr)
 simp[hlt,h3]):p:=h
theorem SQ{p:Prop}(h:p:=by
 intros
 cases ok with
 |false=>simp at e;simp[e]
 |true=>simp at e;simp[e,mZ,Rep.row,hi];exact lB):p:=h
theorem SP{p:Prop}(h:p:=by
 rw[if_pos (by omega)];simp only[List.getD_eq_getElem?_getD];rw[List.getElem?_append_right (by omega)]
 congr 2
 omega):p:=h
theorem SO{p:Prop}(h:p:=by
 rw[List.getLast?_eq_getElem?,hm,Nat.add_sub_cancel,List.getElem?_eq_getElem hml]at he2;exact Option.some.inj he2):p:=h
theorem oi{p:Prop}(h:p:=by rw[sk];omega):p:=h
theorem DH{p:Prop}(h:p:=by simp only[sk,List.length_nil];omega):p:=h
theorem SN{p:Prop}(h:p:=by exact .ro _ _ (by simpa[cut]using Rd.empty (w:=w) (x:=false) (S:=λb=>¬M b) _ _ (by intro h;cases h))):p:=h
theorem SM{p:Prop}(h:p:=by
 refine⟨?_,h2⟩;rcases h1 with⟨q,hq⟩|⟨q,hq⟩
 ·exact(H0.elow q c hq).1
 ·exact(H0.low q c hq).2):p:=h
theorem SL{p:Prop}(h:p:=by
 rw[if_pos (by omega),List.getElem?_append_right (by omega),List.getElem?_drop,List.getElem?_drop]
 congr 2
 omega):p:=h
theorem SK{p:Prop}(h:p:=by
 have h:¬cf d:=λh=>c4 h.2.2.2.1
 have c4':8<(d.list.length:Int):=by omega
 simp[c4',aH h]):p:=h
theorem SJ{p:Prop}(h:p:=by
 rintro c ⟨x,hx⟩
 obtain⟨h1,h2⟩:=hblk x c hx;exact⟨⟨x,h2⟩,λh3=>h1 (HH.inj _ _ c h2 h3)⟩):p:=h
theorem SI{p:Prop}(h:p:=by
 rw[setRow_other _ _ c _ hne]
 show(W1.setRow w.heap.size cs1).heap[c]? = _
 rw[setRow_other _ _ c _ hne,hO c hc]):p:=h
theorem wy{p:Prop}(h:p:=by simp[tsz]at hx hy⊢;omega):p:=h
theorem SH{p:Prop}(h:p:=by
 try intros
 refine⟨by omega,?_⟩;rw[e1];simp[c3,Entry.row]
 try (rintro row (⟨a,-,rfl⟩|rfl)<;>rfl)):p:=h
theorem SG{p:Prop}(h:p:=by
 rcases h7 i hi k hk with(h|h)|h
 ·exact h
 ·rw[hd]at h;cases h
 ·rw[hd,hd']at h;exact absurd rfl h):p:=h
theorem SF{p:Prop}(h:p:=by
 rw[if_neg (by omega),hcs j c1];simp only[List.getD_eq_getElem?_getD];rw[List.getElem?_append_left (by omega)]):p:=h
theorem SE{p:Prop}(h:p:=by
 rw[fM,hBe,fM,hCe];simp[fb,q2,hpsz,qpos2,R.gx,R.gy,A640,A5000,A672,A5002,A5003]):p:=h
theorem SD{p:Prop}(h:p:=by
 rw[tg (hs i hilt (by rw[hset];simp))];exact(I.frame s (λk hk hkon=>hs k hk (hmono k hkon))).tr q.tr):p:=h
theorem DG{p:Prop}(h:p:=by
 have e:=hm.2 (by simp);simp[e,Rep.zero]):p:=h
theorem SC{p:Prop}(h:p:=by
 have:R=(d,fZ):=by rw[<-hR];unfold A2;rw[if_pos (by omega)]
 subst this;simp[tn,fZ]):p:=h
theorem SB{p:Prop}(h:p:=by
 have e:=mF (r:=r) (λh=>h.2.2.2 cs);simp[ci2,cs,e,Rep.res,Rep.zero,Call.res,Call.zero]):p:=h
theorem SA{p:Prop}(h:p:=by
 rcases hc with hc|hc
 ·rcases hM c hc with rfl|hc
  ·exact .inr hXb
  ·exact .inl hc
 ·exact .inr hc.1):p:=h
theorem y9{p:Prop}(h:p:=by exact .inl ⟨by simp,by omega⟩):p:=h
theorem Sz{p:Prop}(h:p:=by
 obtain⟨h1,h2⟩:=hF1E i' j' c hc;rcases hM c hm with rfl|h
 ·exact h2 rfl
 ·exact(hF i j c h1).2 h):p:=h
theorem Sy{p:Prop}(h:p:=by
 simp only[Array.getD_eq_getD_getElem?]at h2⊢;rw[Array.getElem?_eq_getElem hsz]at h2⊢
 simpa using h2):p:=h
theorem Sx{p:Prop}(h:p:=by
 cases ok with
 |false=>simp at e;simp[e]
 |true=>simp at e;simp[e,mZ,Rep.row];exact lB):p:=h
theorem J1{p:Prop}(h:p:=by
 rw[List.take_of_length_le (by simp;omega)];simp[cut,e]):p:=h
theorem Sw{p:Prop}(h:p:=by
 cases hg:ti.agg with
 |true=>rfl
 |false=>obtain⟨h1,-⟩:=ht.nst hg;rw[h1]at hf;simp at hf):p:=h
theorem Sv{p:Prop}(h:p:=by
 have h:gz ⟨d,l⟩:=⟨c1,c2,λj hj=>hi.2 j (by simp only at hj;omega) hj⟩;simp[hlt,h]):p:=h
theorem Su{p:Prop}(h:p:=by
 have e:=mF (r:=r) (λh=>h.2.2.1 ci);simp[ci,e,Rep.res,Rep.zero,Call.res,Call.zero]):p:=h
theorem St{p:Prop}(h:p:=by
 rw[HV,HV]
 cases hs:jQ x y with
 |none=>rfl
 |some r=>have:=(k9 hi hs).dec;omega):p:=h
theorem Ss{p:Prop}(h:p:=by
 rw[MR _ (λp hp=>hsome p (Fh _ _ hp)),r8];unfold qA;rw[r8,List.map_map]):p:=h
theorem Sr{p:Prop}(h:p:=by
 unfold cut
 split
 ·rename_i h
  rw[List.take_of_length_le (by have:=h.2;simp at this;omega)]
 ·simp):p:=h
theorem Sq{p:Prop}(h:p:=by
 have:=Bl n1 (l:=L) (λe he=>by rw[<-hL]at he;exact List.mem_of_mem_drop he) hq;omega):p:=h
theorem Sp{p:Prop}(h:p:=by
 have e:=hf.2 c4;have e2:dc (cz (normal (cmp a b)))=false:=by rw[eK];exact c4
 simp[e2,e]):p:=h
theorem So{p:Prop}(h:p:=by
 rw[if_neg hse];have hse':¬s=[115,101,116,116,108,101]:=hse;simp[l2',l3',hse',fZ]):p:=h
theorem Sn{p:Prop}(h:p:=by
 split
 ·rename_i h3;rw[if_pos h3]at h;exact key _ h
 ·rename_i h3;rw[if_neg h3]at h;simp at h):p:=h
theorem Sm{p:Prop}(h:p:=by
 unfold fN
 split
 ·have:=LS [r.sent,r.buf] r.text
  unfold cE at hrn;omega
 ·simp):p:=h
theorem Sl{p:Prop}(h:p:=by
 obtain⟨q,hq',hqk⟩:=hall k hkp;exact hq ⟨q,hq',by rw[(hpv.op q hq').2,hqk];exact hkd⟩):p:=h
theorem Sk{p:Prop}(h:p:=by
 rw[if_neg (λh=>t0 h.1)];have t0':¬x0=[98,97,99,107]:=t0;simp[t0',hns',wR,fZ]):p:=h
theorem Sj{p:Prop}(h:p:=by
 simp only[hg]at hk⊢;exact lO (lO (acM λrow=>B8 ti (row.drop c))) K hk):p:=h
theorem Si{p:Prop}(h:p:=by
 subst he;rcases h with h|⟨j,hne,hj⟩
 ·exact h ⟨k,hbk⟩
 ·exact hne (H'.inj _ _ _ hj hbk)):p:=h
theorem Sg{p:Prop}(h:p:=by
 cases j with
 |zero=>simp at hj;subst hj;exact hv1
 |succ j=>exact hv2 j x (by simpa using hj)):p:=h
theorem Sf{p:Prop}(h:p:=by
 intro h j hj hjl;by_cases hji:j=i
 ·subst hji;rw[hr];exact h
 ·exact hi.2 j (by omega) hjl):p:=h
theorem DF{p:Prop}(h:p:=by simp[aH c1,hno (λh=>c1 h.1)]):p:=h
theorem J0{p:Prop}(h:p:=by simp[q2,y2 (λh=>q2 h.2),Event.none,Event.res]):p:=h
theorem Se{p:Prop}(h:p:=by
 have e:=re (r:=r) (e:=x) (λh=>c2 h.2.1);simp[aH c2,e,Rep.res,Rep.zero]):p:=h
theorem Sd{p:Prop}(h:p:=by
 have hn:dc (db r)=false:=by rw[eK];exact λh=>c8 h.2.2.2.2.2.2.2.1
 simp[c8,hn]):p:=h
theorem Sc{p:Prop}(h:p:=by
 intro l hl;have:l=[]:=List.length_eq_zero_iff.1 (by omega);subst this;rw[Lib.count_one];rfl):p:=h
theorem Sb{p:Prop}(h:p:=by
 have h:=hno i (λh=>s1 (by have:=(h hlt).1;rwa[hx]at this));simp[aH s1,aH h]):p:=h
theorem Sa{p:Prop}(h:p:=by
 intro i;unfold on;simp only[Array.getD_eq_getD_getElem?,Array.getElem?_replicate]
 split<;>rfl):p:=h
theorem R9{p:Prop}(h:p:=by
 rcases hS1 c hc with rfl|h3
 ·exact .inl (by rw[hk'];rfl)
 ·exact .inr ⟨h3.1 rfl,h3.2⟩):p:=h
theorem JZ{p:Prop}(h:p:=by
 rw[Lib.join_cons,Lib.join_cons];simp[Lib.joinTail]):p:=h
theorem R8{p:Prop}(h:p:=by
 by_cases hz:code=0
 ·rw[if_pos hz]at e
  simp[hz,e]
 ·rw[if_neg hz]at e
  simp[hz,e]):p:=h
theorem R7{p:Prop}(h:p:=by
 have e:=re (r:=r) (e:=x) (λh=>c1 h.1);simp[aH c1,e,Rep.res,Rep.zero]):p:=h
theorem R6{p:Prop}(h:p:=by
 have h:cf d:=⟨c1,c2,c3,c4,c5,c6,λj hj=>hi.2 j (by omega) hj⟩;simp[hlt,h]):p:=h
theorem R0{p:Prop}(h:p:=by
 have hn:dc (db r)=false:=by rw[eK];exact λh=>c7 h.2.2.2.2.2.2.1
 simp[c7,hn]):p:=h
theorem RZ{p:Prop}(h:p:=by
 have hs:s=[]:=h.run (by simp);subst hs;simp[bp,jL,Fl h0,W2 h0]):p:=h
theorem RY{p:Prop}(h:p:=by
 show(W1.setRow w.heap.size cs1).heap[b]? = _
 rw[setRow_other _ _ _ _ hbN,hO _ hbw];exact hb):p:=h
theorem JY{p:Prop}(h:p:=by simp only[fieldAt,wF];cases ti.fields[f]?<;>rfl):p:=h
theorem RX{p:Prop}(h:p:=by
 have h:¬bI ⟨sh,docs,subs,last⟩:=λh=>c3 h.2.2.1
 simp[aH c3,aH h]):p:=h
theorem RW{p:Prop}(h:p:=by
 have he:i=l.length:=by omega
 subst he;rw[List.drop_length,lJ]at h3;subst h3;simp):p:=h
theorem RU{p:Prop}(h:p:=by
 have hn:dc (db r)=false:=by rw[eK];exact λh=>c6 h.2.2.2.2.2.1
 simp[c6,hn]):p:=h
theorem wx{p:Prop}(h:p:=by simp[aH c2,aH h]):p:=h
theorem RT{p:Prop}(h:p:=by
 exfalso
 have:=ga ex;rw[ex]at hxt;rw[ey]at hyf;simp[tos,frs,p3]at hxt hyf;omega):p:=h
theorem RQ{p:Prop}(h:p:=by
 exfalso
 have:=ga ey;rw[ex]at hxt;rw[ey]at hyf;simp[tos,frs,q2]at hxt hyf;omega):p:=h
theorem lr{p:Prop}(h:p:=by simpa using this):p:=h
theorem RP{p:Prop}(h:p:=by
 have e:=hno (λh=>c2 (by have:=h.2.1;simp only at this;omega));simp[aH c2,e]):p:=h
theorem RO{p:Prop}(h:p:=by
 have hn:dc (db r)=false:=by rw[eK];exact λh=>c5 h.2.2.2.2.1
 simp[c5,hn]):p:=h
theorem RN{p:Prop}(h:p:=by
 intro h1;rw[h1]at h2;obtain⟨x,hx⟩:=List.length_eq_one_iff.1 h2.symm;exact hne x hx):p:=h
theorem RM{p:Prop}(h:p:=by
 by_cases h2:55296<=n/\n<=57343<;>simp[h2,mX,h]
 try (rw[rK];omega)):p:=h
theorem RL{p:Prop}(h:p:=by
 obtain⟨b,o,C⟩:=q;obtain⟨cs,T,F,-,-,-,-,-,hrl,-⟩:=ho;exact hrl _ hm):p:=h
theorem RK{p:Prop}(h:p:=by
 cases l with
 |nil=>rfl
 |cons b l=>simp only[ry,Bool.and_eq_true]at h;exact h.2):p:=h
theorem RJ{p:Prop}(h:p:=by
 have e:dc (0<=n/\n<=1114111)=false:=by rw[eK];exact h
 simp[mX,h]):p:=h
theorem RI{p:Prop}(h:p:=by
 have he:i=w.length:=by omega
 subst he;refine Ent.refl ?_;simp
 rintro _ x y-rfl
 rfl):p:=h
theorem RH{p:Prop}(h:p:=by
 have hn:dc (db r)=false:=by rw[eK];exact λh=>c4 h.2.2.2.1
 simp[c4,hn]):p:=h
theorem DE{p:Prop}(h:p:=by simp only[sk,Ft];omega):p:=h
theorem RG{p:Prop}(h:p:=by exact⟨1,⟨by omega,fin (by simp) s2 s3⟩,by omega,aZ (n:=0) (by omega)⟩):p:=h
theorem RF{p:Prop}(h:p:=by
 have e:dG l name = -1:=Bg (λj hj=>hi.2 j (by omega) hj);simp[hlt,e]):p:=h
theorem RE{p:Prop}(h:p:=by
 have e2:dc (db r)=false:=by rw[eK];exact c1
 simp[e2,e,Rep.res,Rep.zero]):p:=h
theorem RD{p:Prop}(h:p:=by
 rcases wc.1 hM with h1|⟨j,_,hj⟩
 ·simp[AObj.blk]at h1
 ·exact⟨j,hj⟩):p:=h
theorem RC{p:Prop}(h:p:=by
 rename_i x y _ hargs
 rw[ha x (by rw[hargs];simp),ha y (by rw[hargs];simp)];exact h):p:=h
theorem mT{p:Prop}(h:p:=by simp[Rep.zero_n]):p:=h
theorem RB{p:Prop}(h:p:=by
 exfalso
 have:=ga ex;rw[ex]at hxt;rw[ey]at hyf;simp[frs,p2]at hxt hyf;omega):p:=h
theorem RA{p:Prop}(h:p:=by
 exfalso
 have:=ga ey;rw[ex]at hxt;rw[ey]at hyf;simp[frs,q2]at hxt hyf;omega):p:=h
theorem Rz{p:Prop}(h:p:=by
 have e:fO l n=([],false):=by unfold fO;rw[if_neg c]
 simp[c,e]):p:=h
theorem Ry{p:Prop}(h:p:=by
 refine Ent.refl ⟨i+1,by omega,by omega,Hl,Hp,?_⟩;rw[hs];simp[fb,c3,e]):p:=h
theorem Rx{p:Prop}(h:p:=by exact⟨[.s []],uH.one (.empty _ _ (λh=>by simp at h)),by simp[jn,hu]⟩):p:=h
theorem Rw{p:Prop}(h:p:=by
 have e:iL l id = -1:=Bg (λj hj=>hi.2 j (by omega) hj);simp[hlt,e]):p:=h
theorem Rv{p:Prop}(h:p:=by
 have s3':aA d<r.rev:=by omega
 simp[s3',aH (hno (λh=>s3 h.2.2.1))]):p:=h
theorem JX{p:Prop}(h:p:=by
 rw[Nat.add_mul,Nat.one_mul]at this;exact this):p:=h
theorem Ru{p:Prop}(h:p:=by(repeat' split at h)<;>first|(subst h;exact(by assumption:w=_).symm)|omega):p:=h
theorem Rt{p:Prop}(h:p:=by
 by_cases h:i<docs.length
 ·exact hi.2 i (by omega)
 ·exact λh'=>absurd h' h):p:=h
theorem Rs{p:Prop}(h:p:=by
 intro r hr;rcases List.mem_append.1 hr with hr|hr
 ·exact hL r hr
 ·exact hok r hr):p:=h
theorem Rr{p:Prop}(h:p:=by
 split at this
 ·rename_i d hd;exact⟨d,hd,by simpa using this⟩
 ·simp at this):p:=h
theorem y8{p:Prop}(h:p:=by
 rw[iJ hk];simp[<-hx]):p:=h
theorem JW{p:Prop}(h:p:=by rw[ajH rfl];simp[frA,toA]at ih⊢;omega):p:=h
theorem Rq{p:Prop}(h:p:=by
 rcases List.mem_cons.1 h with rfl|h
 ·rw[if_neg k];omega
 ·have:=ih h;omega):p:=h
theorem Rp{p:Prop}(h:p:=by
 rw[Addr.add_lit];exact lK hbv (λj hj=>hcv j (by omega)) (by omega) j v hj):p:=h
theorem DD{p:Prop}(h:p:=by simp[c2,hno (λh=>c2 h.2.1)]):p:=h
theorem Ro{p:Prop}(h:p:=by
 have:r = -1:=by rw[<-hr];exact iJ (by omega)
 rw[iJ k2];simp[this]):p:=h
theorem Rn{p:Prop}(h:p:=by
 have hs:s=[]:=h.run (by simp);subst hs;simp[bp,lU,MN h0]):p:=h
theorem Rm{p:Prop}(h:p:=by exact t.frame b (hR.base_le b (.inl hF)) (λ⟨q,hq⟩=>(HH.low q b hq).1 hF)):p:=h
theorem Rl{p:Prop}(h:p:=by
 have e:mv o t=([],false):=by unfold mv;rw[if_neg c1]
 simp[c1,e]):p:=h
theorem Rk{p:Prop}(h:p:=by
 have e:=vk (d:=d) (rev:=rev) (λh=>c1 h.1);simp[aH c1,e]):p:=h
theorem Rj{p:Prop}(h:p:=by
 have e:=vk (d:=d) (rev:=rev) (λh=>c2 h.2);simp[aH c2,e]):p:=h
theorem Ri{p:Prop}(h:p:=by rw[<-hrl q (List.mem_of_getElem? g)];exact(List.getElem?_eq_some_iff.1 hj).1):p:=h
theorem DC{p:Prop}(h:p:=by simp at hq;subst hq;simp;omega):p:=h
theorem Rh{p:Prop}(h:p:=by
 obtain⟨x',h1,h2,h3⟩:=hq;exact⟨μ x',h2,x',h1,rfl,h3.rep hR'⟩):p:=h
theorem Rg{p:Prop}(h:p:=by
 have e:er d=[]:=by unfold er;rw[if_neg ok]
 simp[ok,e]):p:=h
theorem Rf{p:Prop}(h:p:=by
 have e:=AN (d:=d) (rev:=rev) (λh=>c1 h.1);simp[aH c1,e]):p:=h
theorem Re{p:Prop}(h:p:=by
 have e:=AN (d:=d) (rev:=rev) (λh=>c2 h.2);simp[aH c2,e]):p:=h
theorem Rc{p:Prop}(h:p:=by rw[if_neg (by omega),if_pos (by omega),List.getElem?_append_left (by omega)]):p:=h
theorem Rb{p:Prop}(h:p:=by simp[aH c1,F7 (d:=d) (base:=base) (o:=o) (λh=>c1 h.1)]):p:=h
theorem Ra{p:Prop}(h:p:=by simp[aH c2,F7 (d:=d) (base:=base) (o:=o) (λh=>c2 h.2)]):p:=h
theorem mS{p:Prop}(h:p:=by simp only;omega):p:=h
theorem DB{p:Prop}(h:p:=by exact absurd hw List.not_mem_nil):p:=h
theorem Q9{p:Prop}(h:p:=by
 have e:n7 l=⟨#[]⟩:=by unfold n7;rw[if_neg ok]
 simp[ok,e]):p:=h
theorem Q8{p:Prop}(h:p:=by
 have he:i=l.length:=by omega
 subst he;simp;exact YS (X9 ok)):p:=h
theorem Q7{p:Prop}(h:p:=by simp[execOp,ho,resolve,hc,hu,Deferred.ofValue,invoke,tf h.1]):p:=h
theorem Q6{p:Prop}(h:p:=by
 rw[show dR ⟨⟨nm,fr,tx,ls,sn⟩,rp⟩ ⟨4,i,0,[]⟩=(A,(dR ⟨⟨nm,fr,tx,ls,sn⟩,rp⟩ ⟨4,i,0,[]⟩).2)from by rw[hA]]at cA;generalize (dR ⟨⟨nm,fr,tx,ls,sn⟩,rp⟩ ⟨4,i,0,[]⟩).2=fX at cA
 clear hay han hA
 obtain⟨⟨n1,f1,t1,l1,s1⟩,r1⟩:=A;simp only at cA;rcases hk' with rfl|rfl|rfl
 all_goals
  simp[hlt2,hrp,hrr,Rep.row,hh];refine ae.pure cA (by simp[Net.row,Event.row]) ?_;simp[Net.res];intro O2 O3 O4 O5;refine ae.pure cB (by simp[Net.row,Event.row]) ?_;simp[Net.res];intro P2 P3 P4 P5;refine ae.pure cC (by simp[Net.row,Event.row]) ?_;simp[Net.res];intro Q2 Q3 Q4 Q5 b7;by_cases hz:code=3
  ·exact Vb
  ·exact UN):p:=h
theorem Q1{p:Prop}(h:p:=by
 by_cases h:a.length=b.length
 ·simp[h]
  refine aU.intro eok (λi:Nat=>i<=a.length/\a.take i=b.take i) (λi=>⟨26,0,[(13,.v (.int .i64 i)),(12,.v (.int .i64 b.length)),(1,.ro (b.map aN)),(0,.ro (a.map aN))],[]⟩) (λi=>a.length-i) 0 (by simp) (by simp) (λi hi=>?_);by_cases hlt:i<a.length
  ·have hlt':i<b.length:=by omega
   simp[hlt'];refine cg.quiet eok mix (by kernel_rfl) ?_;simp[hlt,hlt'];exact qV
  ·have hlt':¬i<b.length:=by omega
   simp[hlt',rK];exact DX
 ·exact om):p:=h
theorem JV{p:Prop}(h:p:=by
 simp only at hd hat;simp[k];refine ae.pure hd (by simp[Hub.row]) ?_;simp[Hub.res];intros;by_cases z:code=0
 ·rw[if_pos z]at hat
  simp[z];exact UF
 ·rw[if_neg z]at hat
  exact Kt):p:=h
theorem Q0{p:Prop}(h:p:=by
 have hA:=han (hha.trans hh);subst hA
 clear hay han
 rcases hk' with rfl|rfl|rfl
 all_goals
  simp[hlt2,hrp,hrr,Rep.row,hh];refine ae.pure cB (by simp[Net.row,Event.row]) ?_;simp[Net.res];intro P2 P3 P4 P5;refine ae.pure cC (by simp[Net.row,Event.row]) ?_;simp[Net.res];intro Q2 Q3 Q4 Q5 b7;by_cases hz:code=3
  ·exact Vb
  ·exact UN):p:=h
theorem QZ{p:Prop}(h:p:=by
 have hb:=qj out p;generalize fh out p=r at h3 hc hb;obtain⟨q,k⟩:=r;simp only at h3 hc hb;simp[h,hp,hJ];refine ae.ro hc (by simp) ?_
 cases k with
 | false =>
   simp at h3;simp[<-h3]
 | true =>
   simp at h3;simp;refine Ent.refl ⟨i+1,q,⟨by omega,hb,h3⟩,by omega,?_⟩;simp;exact pz):p:=h
theorem JU{p:Prop}(h:p:=by
 simp;refine⟨by omega,Ent.refl ⟨i+1,by omega,by omega,?_⟩⟩;simp[hn];exact pz):p:=h
theorem QY{p:Prop}(h:p:=by
 refine⟨by omega,λH2=>Ent.refl ⟨i+1,out++[⟨2,0,l⟩],⟨by omega,by simp;omega,?_,?_⟩,by omega,H2,?_⟩⟩
 ·rw[kz,aay]
  simp only[aM];omega
 ·rw[hst,hwd];simp
 ·simp[Part.row]
  exact pz):p:=h
theorem QX{p:Prop}(h:p:=by
 rename_i v hv
 have hlt:q<xs.size:=by rw[hs];exact(List.getElem?_eq_some_iff.1 hv).1
 have e:(xs++Array.replicate (fn.ntmps-xs.size) undef).getD q undef=xs.getD q undef:=by
  exact UQ
 rw[e];exact(hx q v hv).ph):p:=h
theorem QW{p:Prop}(h:p:=by
 simp[k];refine drw eok mix [0,2,3] [1,4,5,6] (.c 3 1 4 3 (.c 3 4 3 0 (.c 3 5 0 0 (.c 3 6 0 0 (.l 3 0) .s) .s) .s) .s) ?_;simp
 try intros
 refine ae.pure (iI h (by omega)) (by simp[Hub.row]) ?_;exact UH):p:=h
theorem QV{p:Prop}(h:p:=by
 simp[k];refine drw eok mix [0,2,3] [1,4,5,6] (.c 3 1 4 3 (.c 3 4 3 0 (.c 3 5 0 0 (.c 3 6 0 0 (.l 3 0) .s) .s) .s) .s) ?_;simp
 try intros
 refine ae.pure (ja h (by omega)) (by simp[Hub.row]) ?_;exact UH):p:=h
theorem QU{p:Prop}(h:p:=by
 obtain⟨X,code⟩:=R;simp only at hd hat;simp[k];refine ae.pure hd (by simp[Hub.row]) ?_;simp[Hub.res];intros;by_cases z:code=0
 ·rw[if_pos z]at hat
  simp[z,hat,Answer.res,fX]
 ·exact acG):p:=h
theorem QT{p:Prop}(h:p:=by
 obtain⟨X,code⟩:=R;simp only at hd hat;simp[k];refine ae.pure hd (by simp[Hub.row]) ?_;simp[Hub.res];intros;by_cases z:code=0
 ·exact acD
 ·rw[if_neg z]at hat
  exact Kt):p:=h
theorem QS{p:Prop}(h:p:=by
 by_cases hk:cF w=i
 ·have hq:=hat.2 hk
  rw[if_pos hk]at hnx;exact D0
 ·have hq:¬iW i=w:=λh=>hk (hat.1 h)
  rw[if_neg hk]at hnx;exact D0):p:=h
theorem QR{p:Prop}(h:p:=by
 by_cases hk:fk w=i
 ·have hq:=hat.2 hk
  rw[if_pos hk]at hnx;exact D0
 ·have hq:¬gr i=w:=λh=>hk (hat.1 h)
  rw[if_neg hk]at hnx;exact D0):p:=h
theorem sV{p:Prop}(h:p:=by
 simp[hlt,rK];exact DX):p:=h
theorem QQ{p:Prop}(h:p:=by
 obtain⟨⟨a,rfl⟩,rfl⟩:=hx;rw[show rows=[]from ho,show cut ([]:List (List CD)) off 0=[]from by simp[gu]];exact Kh):p:=h
theorem QP{p:Prop}(h:p:=by
 by_cases hc:C=n
 ·subst hc
  go_enter Tryz.func225,Tryz.ntmps225
  exact D1
 ·go_enter Tryz.func225,Tryz.ntmps225
  exact D1):p:=h
theorem QO{p:Prop}(h:p:=by
 by_cases hc:C=n
 ·subst hc
  go_enter Tryz.func315,Tryz.ntmps315
  exact D1
 ·go_enter Tryz.func315,Tryz.ntmps315
  exact D1):p:=h
theorem QN{p:Prop}(h:p:=by
 have hst:oX t (L,(a':Int)) o[i]=(L++o[i].signs,(a':Int)):=by simp[oX,k2]
 rw[hst]at hs;simp[k2];exact acE):p:=h
theorem y7{p:Prop}(h:p:=by
 simp[Part.row];exact pz):p:=h
theorem QM{p:Prop}(h:p:=by
 simp;refine Br.mk (λh1=>?_) (λh1=>?_)
 ·exact Uy
 ·simp[eK]
  exact λhp=>Wc h (Vw h1) hp.1):p:=h
theorem QL{p:Prop}(h:p:=by
 intro b;by_cases c:l[i].name=name
 ·have e:dG l name=i:=Lt hlt c hi.2
  simp[c,e]
 ·exact US):p:=h
theorem QK{p:Prop}(h:p:=by
 intro b;by_cases c:l[i].id=id
 ·have e:iL l id=i:=Lt hlt c hi.2
  simp[c,e]
 ·exact US):p:=h
theorem QJ{p:Prop}(h:p:=by
 simp;refine Br.mk (λh1=>?_) (λh1=>?_)
 ·exact Uy
 ·simp[eK]
  exact Wc h (Vw h1)):p:=h
theorem QI{p:Prop}(h:p:=by
 intro i j hi hj;have:=Nat.mul_le_mul_right sz (show i+1<=rows.length by omega);exact zf):p:=h
theorem pr{p:Prop}(h:p:=by
 simp;exact pz):p:=h
theorem QH{p:Prop}(h:p:=by
 have hf:=fin s1 s2 hp k hk rfl (λh=>absurd (ho.symm.trans h) (by simp));simp;exact acF):p:=h
theorem QG{p:Prop}(h:p:=by
 simp;refine Ent.refl ⟨i+1,by omega,by omega,?_⟩;simp[hs];exact pz):p:=h
theorem QF{p:Prop}(h:p:=by
 by_cases h1:k+1<=i
 ·exact Tu
 ·rw[if_neg h1,if_neg (by omega)]):p:=h
theorem QE{p:Prop}(h:p:=by
 refine⟨by omega,?_⟩;refine ae.pure (bQ n) (by simp) ?_;exact JU):p:=h
theorem fI{p:Prop}(h:p:=by intro h;cases h):p:=h
theorem aa{p:Prop}(h:p:=by omega):p:=h
theorem aI{p:Prop}(h:p:=by simp;omega):p:=h
theorem ab{p:Prop}(h:p:=by simp):p:=h
theorem alO{p:Prop}(h:p:=by simpa[Instr.loadAt,Instr.sureAddr]using kX (P:=P) ht hb (o:=c) (by omega)):p:=h
theorem iy{p:Prop}(h:p:=by simp at h):p:=h
theorem DA{p:Prop}(h:p:=by simp at h⊢;omega):p:=h
theorem sU{p:Prop}(h:p:=by simpa using hl):p:=h
theorem eT{p:Prop}(h:p:=by simpa using hi):p:=h
theorem Dz{p:Prop}(h:p:=by rw[Nat.add_mul];omega):p:=h
theorem sT{p:Prop}(h:p:=by simpa using hlt):p:=h
theorem sS{p:Prop}(h:p:=by simpa using h2):p:=h
theorem lq{p:Prop}(h:p:=by rw[hget];rfl):p:=h
theorem pq{p:Prop}(h:p:=by simp[execOp,ho,h1]):p:=h
theorem po{p:Prop}(h:p:=by simp[AObj.blk]at hb):p:=h
theorem sR{p:Prop}(h:p:=by simp at hj):p:=h
theorem ln{p:Prop}(h:p:=by simpa using hj):p:=h
theorem pn{p:Prop}(h:p:=by simpa using hd):p:=h
theorem qS{p:Prop}(h:p:=by simp at hd):p:=h
theorem qR{p:Prop}(h:p:=by simp at h;exact h.1):p:=h
theorem sQ{p:Prop}(h:p:=by simp at h;exact h.2):p:=h
theorem qQ{p:Prop}(h:p:=by simp at hi):p:=h
theorem JT{p:Prop}(h:p:=by rw[hi]at hi';exact(Option.some.inj hi').symm):p:=h
theorem ag{p:Prop}(h:p:=by decide):p:=h
theorem lk{p:Prop}(h:p:=by unfold maxLen;omega):p:=h
theorem y6{p:Prop}(h:p:=by rw[<-hrl _ (List.mem_of_getElem? hi)];exact(List.getElem?_eq_some_iff.1 hj).1):p:=h
theorem Dy{p:Prop}(h:p:=by rw[hsz];exact hN.len):p:=h
theorem Dx{p:Prop}(h:p:=by rw[<-hnl _ (List.mem_of_getElem? hi')];exact(List.getElem?_eq_some_iff.1 hj').1):p:=h
theorem l8{p:Prop}(h:p:=by simpa using h):p:=h
theorem sP{p:Prop}(h:p:=by simp[Builtin.len_,run_underlying hu,goInt]):p:=h
theorem sO{p:Prop}(h:p:=by cases hq:c.args;simp_all):p:=h
theorem JS{p:Prop}(h:p:=by cases hq:c.argTypes;simp_all):p:=h
theorem wv{p:Prop}(h:p:=by simp[Region.wanted,hg,hy,hbw]):p:=h
theorem Dw{p:Prop}(h:p:=by cases b<;>cases want<;>simp_all):p:=h
theorem JR{p:Prop}(h:p:=by simp[Region.wanted,hg,hy]):p:=h
theorem pj{p:Prop}(h:p:=by rw[hb];rfl):p:=h
theorem JQ{p:Prop}(h:p:=by rintro b ⟨k,hk⟩;simp[AH.get,AObj.blk]at hk):p:=h
theorem lj{p:Prop}(h:p:=by simp[h1]):p:=h
theorem y5{p:Prop}(h:p:=by simp[ha]at h):p:=h
theorem kI{p:Prop}(h:p:=by cases h):p:=h
theorem Dv{p:Prop}(h:p:=by rw[hu]at hu';cases hu'):p:=h
theorem qP{p:Prop}(h:p:=by simpa using hx):p:=h
theorem Du{p:Prop}(h:p:=by have:=hH.lt hk;omega):p:=h
theorem QD{p:Prop}(h:p:=by simp only[yielded,hd',Option.bind_some,getD_some hu]):p:=h
theorem JP{p:Prop}(h:p:=by rw[hset];split<;>simp[hj]):p:=h
theorem QC{p:Prop}(h:p:=by have:=I.g _ hg;rw[hpi,hioff]at this;simp at this):p:=h
theorem Dt{p:Prop}(h:p:=by unfold ASt.aft;split<;>rfl):p:=h
theorem fH{p:Prop}(h:p:=by rw[h]):p:=h
theorem mR{p:Prop}(h:p:=by simp[kg]):p:=h
theorem wu{p:Prop}(h:p:=by simp[kg,VS]):p:=h
theorem kH{p:Prop}(h:p:=by rw[hx]):p:=h
theorem Ds{p:Prop}(h:p:=by simpa[AObj.q]using hq):p:=h
theorem JO{p:Prop}(h:p:=by unfold ASt.aft;cases dst<;>rfl):p:=h
theorem qO{p:Prop}(h:p:=by rw[hrs]):p:=h
theorem ai{p:Prop}(h:p:=by kernel_rfl):p:=h
theorem alN{p:Prop}(h:p:=by rw[Go.IntWalk.i64_in _ (by omega)];omega):p:=h
theorem oh{p:Prop}(h:p:=by simp[a8]):p:=h
theorem sN{p:Prop}(h:p:=by simp[adQ]):p:=h
theorem iP{p:Prop}(h:p:=by simp[Part.row]):p:=h
theorem y4{p:Prop}(h:p:=by rw[<-hr];unfold szR;split<;>split<;>omega):p:=h
theorem y3{p:Prop}(h:p:=by simp[hr0];omega):p:=h
theorem wt{p:Prop}(h:p:=by simp[M8,a8]):p:=h
theorem iO{p:Prop}(h:p:=by simp[eH,h]):p:=h
theorem pg{p:Prop}(h:p:=by simp[bg]):p:=h
theorem og{p:Prop}(h:p:=by simp[dF]):p:=h
theorem Dr{p:Prop}(h:p:=by simp[bq,hP,hD]):p:=h
theorem wq{p:Prop}(h:p:=by simp[Part.row,ck]):p:=h
theorem wo{p:Prop}(h:p:=by simp[dX]):p:=h
theorem Dq{p:Prop}(h:p:=by rw[eK];exact h):p:=h
theorem Dp{p:Prop}(h:p:=by have:=f2 q hq;omega):p:=h
theorem kG{p:Prop}(h:p:=by simp only;omega):p:=h
theorem alM{p:Prop}(h:p:=by rw[o1 ky R.ne.symm (by omega)];exact R.gy):p:=h
theorem alL{p:Prop}(h:p:=by rw[o1 q q1 (by omega)];exact R.o q q1 q2 q3):p:=h
theorem gS{p:Prop}(h:p:=by rw[<-hh0];simp):p:=h
theorem Do{p:Prop}(h:p:=by rw[<-ey];exact oky):p:=h
theorem wm{p:Prop}(h:p:=by simp[ey]at yl;omega):p:=h
theorem yZ{p:Prop}(h:p:=by rw[<-hcmp,hcm,List.append_assoc]):p:=h
theorem Dn{p:Prop}(h:p:=by rw[<-ex];exact okx):p:=h
theorem Dm{p:Prop}(h:p:=by simp[ex]at xl;omega):p:=h
theorem Dl{p:Prop}(h:p:=by simp[ex]at xl⊢;omega):p:=h
theorem Dk{p:Prop}(h:p:=by simp[ey]at yl⊢;omega):p:=h
theorem JN{p:Prop}(h:p:=by rw[Go.IntWalk.i64_in _ (by have:=R.cx.bnd;omega)];omega):p:=h
theorem QB{p:Prop}(h:p:=by rw[Go.IntWalk.i64_in _ (by have:=R.cy.bnd;omega)];omega):p:=h
theorem dB{p:Prop}(h:p:=by simp[Rep.row]):p:=h
theorem Dj{p:Prop}(h:p:=by have:=h.2.2.2.2.2.2.2.2;rw[ch]at this;simpa using this):p:=h
theorem Di{p:Prop}(h:p:=by rw[ch];simpa using h):p:=h
theorem wk{p:Prop}(h:p:=by unfold cE at hl;omega):p:=h
theorem JM{p:Prop}(h:p:=by first|omega|(simp;omega)):p:=h
theorem ix{p:Prop}(h:p:=by simp[Entry.row]):p:=h
theorem aS{p:Prop}(h:p:=by simp[Doc.row]):p:=h
theorem Dh{p:Prop}(h:p:=by have:=(h hlt).2.1;rwa[hx]at this):p:=h
theorem yY{p:Prop}(h:p:=by simpa[frA]using h):p:=h
theorem Dg{p:Prop}(h:p:=by unfold maxLen at hC;omega):p:=h
theorem Df{p:Prop}(h:p:=by rw[List.length_drop,hul,Nat.sub_mul]):p:=h
theorem De{p:Prop}(h:p:=by simp[World.frozen?,hbv]):p:=h
theorem alK{p:Prop}(h:p:=by have:=Nat.mul_le_mul_right 3 (show i+1<=n by omega);omega):p:=h
theorem qN{p:Prop}(h:p:=by simp only[Nat.min_def];split<;>omega):p:=h
theorem oe{p:Prop}(h:p:=by rw[hxl,hzs]):p:=h
theorem sM{p:Prop}(h:p:=by rw[IntKind.wrap_i64];omega):p:=h
theorem Dd{p:Prop}(h:p:=by rw[nH,hzz]):p:=h
theorem eS{p:Prop}(h:p:=by simp[Ring.row]):p:=h
theorem bV{p:Prop}(h:p:=by simp[Hub.row]):p:=h
theorem iN{p:Prop}(h:p:=by simp[Net.row]):p:=h
theorem JL{p:Prop}(h:p:=by have:=h2 h0;simpa using this.symm):p:=h
theorem yX{p:Prop}(h:p:=by unfold l0;decide):p:=h
theorem Dc{p:Prop}(h:p:=by simp[Lib.join_nil]):p:=h
theorem yW{p:Prop}(h:p:=by rw[cP];simp):p:=h
theorem alJ{p:Prop}(h:p:=by rw[h3,List.drop_of_length_le (by omega)];simp[fg]):p:=h
theorem wj{p:Prop}(h:p:=by simp;exact⟨rfl,rfl,rfl,rfl⟩):p:=h
theorem wi{p:Prop}(h:p:=by simp;exact⟨rfl,rfl⟩):p:=h
theorem alI{p:Prop}(h:p:=by rw[h4,List.drop_of_length_le (by omega)];simp[fg]):p:=h
theorem qM{p:Prop}(h:p:=by simpa using Int.ofNat.inj h):p:=h
theorem Db{p:Prop}(h:p:=by have:=HN.out;omega):p:=h
theorem JK{p:Prop}(h:p:=by rw[List.length_map];exact hl):p:=h
theorem JJ{p:Prop}(h:p:=by unfold bO;rw[if_neg h]):p:=h
theorem JI{p:Prop}(h:p:=by unfold aW;rw[if_neg h]):p:=h
theorem JH{p:Prop}(h:p:=by unfold aW;rw[if_pos h]):p:=h
theorem di{p:Prop}(h:p:=by simp[Call.row]):p:=h
theorem QA{p:Prop}(h:p:=by have:=c1.1;unfold ca at d;simp only at this;omega):p:=h
theorem qK{p:Prop}(h:p:=by simp[cJ,ca,lQ,iu,wR]):p:=h
theorem Da{p:Prop}(h:p:=by have:=hw w h;omega):p:=h
theorem od{p:Prop}(h:p:=by simp[Event.row]):p:=h
theorem qJ{p:Prop}(h:p:=by unfold gR;omega):p:=h
theorem Qz{p:Prop}(h:p:=by have:=ho _ (List.getElem_mem h);rcases this with q|q;simp[q.2.2];omega):p:=h
theorem JG{p:Prop}(h:p:=by rw[List.length_replicate];omega):p:=h
theorem C9{p:Prop}(h:p:=by simp[ASt.quiet,qT,qH,AV.q,AObj.q]):p:=h
theorem sL{p:Prop}(h:p:=by decide +kernel):p:=h
theorem Qy{p:Prop}(h:p:=by simp[IntKind.wrap,IntKind.bits,IntKind.signed];omega):p:=h
theorem alH{p:Prop}(h:p:=by rw[Int.tdiv_eq_ediv_of_nonneg n0];exact w6 _ (by omega) (by omega)):p:=h
theorem pf{p:Prop}(h:p:=by unfold clS;rw[hw0];simp only[hx1,hx2,hx3,hx4,hx5,t1,t2,t3,t4];simp[ca,k]):p:=h
theorem yV{p:Prop}(h:p:=by unfold eJ at hl;omega):p:=h
theorem wh{p:Prop}(h:p:=by rw[c2];simp):p:=h
theorem qI{p:Prop}(h:p:=by simp[Hub.row,c2]):p:=h
theorem qG{p:Prop}(h:p:=by rw[c3];simp):p:=h
theorem qF{p:Prop}(h:p:=by simp[Doc.row,Doc.row]):p:=h
theorem JF{p:Prop}(h:p:=by rw[<-hd0];exact eA (jP hl).1 hk):p:=h
theorem alG{p:Prop}(h:p:=by have:=Nat.mul_le_mul_right 5 (show i+1<=n by omega);omega):p:=h
theorem lh{p:Prop}(h:p:=by simp[Desk.row]):p:=h
theorem wg{p:Prop}(h:p:=by rw[<-hs0];simp):p:=h
theorem JE{p:Prop}(h:p:=by simpa using (by omega:x.toNat=35)):p:=h
theorem C8{p:Prop}(h:p:=by have:=hset h;simp at this):p:=h
theorem alF{p:Prop}(h:p:=by rw[<-hr];exact Nat.le_trans (eA (B:=2^26) (by unfold fj at h2;omega) hk) (by decide)):p:=h
theorem yU{p:Prop}(h:p:=by simp[Desk.row,u0,u1,u2,u3,u4,u5]):p:=h
namespace Go.AM
open Go.RowKit
inductive CD where
 |v (u:Value)
 |s (rows:List (List CD))
 |h (k:Nat) (H:Option (Nat×Nat×Nat)) (sz len:Nat)
 deriving Inhabited
def plain:Value->Bool
 | .bool _ | .int _ _ | .string _=>true
 | .slice none 0 0=>true
 | .func (.func _) f c=>f.size==0&&c.size==0
 |_=>false
abbrev Hd:=Option (Nat×Nat×Nat)
def SlV:Hd->(sz off len:Nat)->Value->Prop
 |none,_,_,len,x=>(∃a,x=.slice a 0 0)/\len=0
 |some (b,o,C),sz,off,len,x=>(x=.slice (some ⟨b,o+off*sz,none⟩) len (C-off)/\off+len<=C)\/(len=0/\0<off/\∃a,x=.slice a 0 0)
def MlS(k sz len:Nat):Prop:=0<len\/(sz=1/\50000<=k)\/70000<=k
instance {k sz len:Nat}:Decidable (MlS k sz len):=inferInstanceAs (Decidable (0<len\/(sz=1/\50000<=k)\/70000<=k))
theorem MlS.pos{k sz len:Nat}(h:0<len):MlS k sz len:=.inl h
theorem MlS.free{k sz len:Nat}(h:70000<=k):MlS k sz len:=.inr (.inr h)
def HdE:Hd->Hd->Prop
 |some (b,o,_),some (b',o',_)=>b=b'/\o=o'
 |none,none=>True
 |_,_=>False
theorem ach(H:Hd):HdE H H:=by
 cases H with
 |none=>trivial
 |some q=>exact⟨rfl,rfl⟩
theorem HdE.some_of{b o C:Nat}{H:Hd}(h:HdE (some (b,o,C)) H):∃C',H=some (b,o,C'):=by
 cases H with
 |none=>exact h.elim
 |some q=>obtain⟨b',o',C'⟩:=q;obtain⟨rfl,rfl⟩:=h;exact⟨C',rfl⟩
def MlV(k:Nat)(H:Hd)(sz len:Nat)(x:Value):Prop:=(MlS k sz len/\SlV H sz 0 len x)\/(len=0/\¬MlS k sz len/\∃a c,x=.slice a 0 c)
theorem MlV.slice{k:Nat}{H:Hd}{sz len:Nat}{x:Value}(h:MlV k H sz len x):∃a c,x=.slice a len c:=by
 rcases h with⟨hp,hs⟩|⟨rfl,-,a,c,rfl⟩
 ·cases H with
  |none=>obtain⟨⟨a,rfl⟩,rfl⟩:=hs;exact⟨_,_,rfl⟩
  | some q =>
    obtain⟨b,o,C⟩:=q;rcases hs with⟨rfl,_⟩|⟨rfl,_⟩
    ·exact⟨_,_,rfl⟩
    ·omega
 ·exact⟨a,c,rfl⟩
inductive Rd(w:World)(x:Bool):(Nat->Prop)->Value->CD->Prop
 |plain {S:Nat->Prop}{u:Value}(h:plain u=true):Rd w x S u (.v u)
 |h {S:Nat->Prop}(k:Nat) (H:Hd) (sz len:Nat) (u:Value) (h:MlS k sz len->SlV H sz 0 len u) (he:len=0->¬MlS k sz len->Rd w x S u (.s [])):Rd w x S u (.h k H sz len)
 |empty {S:Nat->Prop}(a:Option Addr) (cap:Nat) (h:x=true->cap=0):Rd w x S (.slice a 0 cap) (.s [])
 |slice {S:Nat->Prop}(b off cap sz:Nat) (cs:Array Value) (T:TypeId) (fr:Nat×Nat) (rows:List (List CD)) (F:Nat->Nat->Nat->Prop)
  (hcap:rows.length<=cap) (hmax:cap<=maxLen) (hsz:0<sz) (hS:S b) (hb:w.heap[b]? = some (.cells cs T fr)) (hfit:off+rows.length*sz<=cs.size)
  (hown:x=true->fr=(0,0)/\off+cap*sz<=cs.size)
  (hF:∀i j c,F i j c->S c/\(x=true->c≠b))
  (hd:x=true->∀i j i' j' c,F i j c->F i' j' c->i=i'/\j=j')
  (hlen:∀row∈rows,row.length=sz)
  (hr:∀i j row d,rows[i]? = some row->row[j]? = some d->Rd w x (F i j) (cs.getD (off+(i*sz+j)) undef) d) :
  Rd w x S (.slice (some ⟨b,off,none⟩) rows.length cap) (.s rows)
theorem Rd.empty_slice{w:World}{x:Bool}{S:Nat->Prop}{u:Value}(h:Rd w x S u (.s [])):∃a c,u=.slice a 0 c:=by
 cases h with
 |empty a cap h=>exact⟨a,cap,rfl⟩
 |slice b off cap=>exact⟨_,cap,rfl⟩
theorem Rd.mlv{w:World}{x:Bool}{S:Nat->Prop}{u:Value}{k:Nat}{H:Hd}{sz len:Nat}(h:Rd w x S u (.h k H sz len)):MlV k H sz len u:=by
 cases h with
 | h _ _ _ _ _ h he =>
   by_cases h0:MlS k sz len
   ·exact .inl ⟨h0,h h0⟩
   ·have hl:len=0:=qw (λh=>h0 (.inl h))
    exact .inr ⟨hl,h0,(he hl h0).empty_slice⟩
theorem gq{w:World}{b:Nat}{o:Obj}(h:w.heap[b]? = some o):b<w.heap.size:=by
 rcases uK b w.heap.size with h'|h'
 ·exact h'
 ·simp[Array.getElem?_eq_none h']at h
theorem Rd.map{w w':World}{x:Bool}{S S':Nat->Prop}{u:Value}{d:CD}(h:Rd w x S u d)
 (hw:∀b,S b->b<w.heap.size->w'.heap[b]? = w.heap[b]?) (hS:∀b,S b->b<w.heap.size->S' b):Rd w' x S' u d:=by
 induction h generalizing S' with
 |plain h=>exact .plain h
 |h k H sz len u h he ih=>exact .h k H sz len u h (λh0 h1=>ih h0 h1 hw hS)
 |empty a cap h=>exact .empty a cap h
 | slice b off cap sz cs T fr rows F hcap hmax hsz hSb hb hfit hown hF hd hlen hr ih =>
   have hlt:=gq hb;refine .slice b off cap sz cs T fr rows (λi j c=>F i j c/\c<w.heap.size) hcap hmax hsz (hS b hSb hlt) ((hw b hSb hlt).trans hb) hfit hown ?_ ?_ hlen ?_
   ·rintro i j c ⟨hc,hl⟩
    exact⟨hS c (hF i j c hc).1 hl,(hF i j c hc).2⟩
   ·rintro hx i j i' j' c ⟨hc,_⟩ ⟨hc',_⟩
    exact hd hx i j i' j' c hc hc'
   ·intro i j row d h1 h2
    exact ih i j row d h1 h2 (λc hc hl=>hw c (hF i j c hc).1 hl) (λc hc hl=>⟨hc,hl⟩)
theorem Rd.weaken{w:World}{x:Bool}{S:Nat->Prop}{u:Value}{d:CD}(h:Rd w x S u d):Rd w false S u d:=by
 induction h with
 |plain h=>exact .plain h
 |h k H sz len u h he ih=>exact .h k H sz len u h ih
 |empty a cap h=>exact .empty a cap fI
 | slice b off cap sz cs T fr rows F hcap hmax hsz hSb hb hfit hown hF hd hlen hr ih =>
   exact .slice b off cap sz cs T fr rows F hcap hmax hsz hSb hb hfit fI (λi j c hc=>⟨(hF i j c hc).1,fI⟩) fI hlen ih
theorem Rd.within{w:World}{x:Bool}{S:Nat->Prop}{u:Value}{d:CD}(h:Rd w x S u d):Rd w x (λb=>S b/\b<w.heap.size) u d:=
 h.map (λ_ _ _=>rfl) (λ_ hs hl=>⟨hs,hl⟩)
inductive AV where
 |any|un|nil
 |v (u:Value)
 |ro (rows:List (List CD))
 |sl (k:Nat) (H:Hd) (sz off len:Nat)
 |p (k b c:Nat)
 |e (k:Nat) (H:Hd) (sz r c:Nat)
 |rp (row:List CD)
 |agg (l:List AV)
 |tup (l:List AV)
 |clo (f:Nat) (l:List AV)
 |cv (u:Value) (len:Nat)
 |ml (k:Nat) (H:Hd) (sz len:Nat)
 |is (u:Value)
 deriving Inhabited
inductive VRel(w:World)(M:Nat->Prop):AV->Value->Prop
 |any (x:Value):VRel w M .any x
 |un:VRel w M .un undef
 |nil:VRel w M .nil (.slice none 0 0)
 |v (u:Value) (h:plain u=true):VRel w M (.v u) u
 |ro (rows:List (List CD)) (x:Value) (h:Rd w false (λb=>¬M b) x (.s rows)):VRel w M (.ro rows) x
 |sl (k:Nat) (H:Hd) (sz off len:Nat) (x:Value) (h:SlV H sz off len x):VRel w M (.sl k H sz off len) x
 |cv (u:Value) (len:Nat) (h:∃a c,u=.slice a len c):VRel w M (.cv u len) u
 |ml (k:Nat) (H:Hd) (sz len:Nat) (x:Value) (h:MlV k H sz len x):VRel w M (.ml k H sz len) x
 |is (u:Value):VRel w M (.is u) u
 |p (k b c:Nat):VRel w M (.p k b c) (.pointer (some ⟨b,c,none⟩))
 |e (k b o C sz r c:Nat):VRel w M (.e k (some (b,o,C)) sz r c) (.pointer (some ⟨b,o+r*sz+c,none⟩))
 |rp (row:List CD) (b o:Nat) (cs:Array Value) (T:TypeId) (fr:Nat×Nat) (hM:¬M b) (hb:w.heap[b]? = some (.cells cs T fr)) (hfit:o+row.length<=cs.size)
  (hr:∀j d,row[j]? = some d->Rd w false (λb=>¬M b) (cs.getD (o+j) undef) d):VRel w M (.rp row) (.pointer (some ⟨b,o,none⟩))
 |agg (l:List AV) (xs:Array Value) (hs:xs.size=l.length) (h:∀i av,l[i]? = some av->VRel w M av (xs.getD i undef)):VRel w M (.agg l) (.agg xs)
 |tup (l:List AV) (xs:Array Value) (hs:xs.size=l.length) (h:∀i av,l[i]? = some av->VRel w M av (xs.getD i undef)):VRel w M (.tup l) (.tuple xs)
 |clo (f:Nat) (l:List AV) (xs:Array Value) (hs:xs.size=l.length) (h:∀i av,l[i]? = some av->VRel w M av (xs.getD i undef)):VRel w M (.clo f l) (.func (.func f) #[] xs)
structure Tr(M:Nat->Prop)(w:World)(M':Nat->Prop)(w':World):Prop where
 size:w.heap.size<=w'.heap.size
 frame:∀b,b<w.heap.size->¬M b->w'.heap[b]? = w.heap[b]?
 mono:∀b,b<w.heap.size->M' b->M b
theorem Tr.refl(M:Nat->Prop)(w:World):Tr M w M w:=⟨aC _,λ_ _ _=>rfl,λ_ _ h=>h⟩
theorem Tr.trans{M M' M'':Nat->Prop}{w w' w'':World}(h:Tr M w M' w')(k:Tr M' w' M'' w''):Tr M w M'' w'':=
 ⟨cT h.size k.size,λb hb hM=>(k.frame b (cH hb h.size) (λh'=>hM (h.mono b hb h'))).trans (h.frame b hb hM),
  λb hb hM=>h.mono b hb (k.mono b (cH hb h.size) hM)⟩
theorem Rd.tr{M M':Nat->Prop}{w w':World}{x:Bool}{u:Value}{d:CD}(h:Rd w x (λb=>¬M b) u d)(t:Tr M w M' w'):Rd w' x (λb=>¬M' b) u d:=
 h.map (λb hb hl=>t.frame b hl hb) (λb hb hl hM=>hb (t.mono b hl hM))
theorem VRel.tr{M M':Nat->Prop}{w w':World}{av:AV}{x:Value}(h:VRel w M av x)(t:Tr M w M' w'):VRel w' M' av x:=by
 induction h with
 |any x=>exact .any x
 |un=>exact .un
 |nil=>exact .nil
 |v u h=>exact .v u h
 |ro rows x h=>exact .ro rows x (h.tr t)
 |sl k H sz off len x h=>exact .sl k H sz off len x h
 |cv u len h=>exact .cv u len h
 |ml k H sz len x h=>exact .ml k H sz len x h
 |is u=>exact .is u
 |p k b c=>exact .p k b c
 |e k b o C sz r c=>exact .e k b o C sz r c
 | rp row b o cs T fr hM hb hfit hr =>
   have hlt:=gq hb;exact .rp row b o cs T fr (λh=>hM (t.mono b hlt h)) ((t.frame b hlt hM).trans hb) hfit (λj d hj=>(hr j d hj).tr t)
 |agg l xs hs _ ih=>exact .agg l xs hs ih
 |tup l xs hs _ ih=>exact .tup l xs hs ih
 |clo f l xs hs _ ih=>exact .clo f l xs hs ih
inductive AObj where
 |dead
 |vars (b:Nat) (T:TypeId) (cells:List AV)
 |rows (H:Hd) (sz:Nat) (rows:List (List CD)) (own:Bool)
 |lent (H:Hd) (sz:Nat) (rows:List (List CD))
 |part (H:Hd) (sz:Nat) (rows:List (List CD)) (lo:Nat)
 deriving Inhabited
def AObj.blk:AObj->Option Nat
 | .dead=>none
 | .vars b _ _=>some b
 | .rows (some (b,_,_)) _ _ _=>some b
 | .rows none _ _ _=>none
 | .lent _ _ _=>none
 | .part (some (b,_,_)) _ _ _=>some b
 | .part none _ _ _=>none
abbrev AH:=List (Nat×AObj)
def AH.get:AH->Nat->AObj
 | [],_=>.dead
 |(k,o)::h,j=>if j=k then o else AH.get h j
def AH.M(h:AH)(b:Nat):Prop:=∃k,(h.get k).blk=some b
def gN(w:World)(M E:Nat->Prop):AObj->Prop
 | .dead=>True
 | .vars b T cells=>∃cs,w.heap[b]? = some (.cells cs T (0,0))/\cs.size=cells.length/\∀j av,cells[j]? = some av->VRel w M av (cs.getD j undef)
 | .rows none _ rows _=>rows=[]
 | .rows (some (b,o,C)) sz rows own=>∃(cs:Array Value) (T:TypeId) (F:Nat->Nat->Nat->Prop),w.heap[b]? = some (.cells cs T (0,0))/\rows.length<=C/\C<=maxLen/\0<sz/\o+C*sz<=cs.size /\
  (∀row∈rows,row.length=sz)/\(∀i j c,F i j c->(own=true->E c)/\¬M c)/\(own=true->∀i j i' j' c,F i j c->F i' j' c->i=i'/\j=j') /\
  (∀i j row d,rows[i]? = some row->row[j]? = some d->Rd w own (F i j) (cs.getD (o+(i*sz+j)) undef) d)
 | .lent H sz rows=>(∀row∈rows,row.length=sz)/\(rows≠[]->∃b o C,H=some (b,o,C)/\rows.length<=C)/\∀x,SlV H sz 0 rows.length x->Rd w false (λb=>¬M b) x (.s rows)
 | .part none _ rows _=>rows=[]
 | .part (some (b,o,C)) sz rows lo=>∃(cs:Array Value) (T:TypeId) (F:Nat->Nat->Nat->Prop),w.heap[b]? = some (.cells cs T (0,0))/\rows.length<=C/\C<=maxLen/\0<sz/\o+C*sz<=cs.size /\
  (∀row∈rows,row.length=sz)/\(∀i j c,F i j c->(lo<=i->E c)/\¬M c)/\(∀i j i' j' c,lo<=i->lo<=i'->F i j c->F i' j' c->i=i'/\j=j') /\
  (∀i j row d,rows[i]? = some row->row[j]? = some d->Rd w (decide (lo<=i)) (F i j) (cs.getD (o+(i*sz+j)) undef) d)
structure Bs where
 F:Nat->Prop
 G:Nat->Prop
 loose:Bool:=false
 L:World->Prop:=λ_=>True
structure BelowF(F:Nat->Prop)(w w':World):Prop where
 os:w'.os=w.os
 tape:w'.tape=w.tape
 output:w'.output=w.output
 size:w.heap.size<=w'.heap.size
 block:∀k,F k->w'.heap[k]? = w.heap[k]?
theorem BelowF.refl(F:Nat->Prop)(w:World):BelowF F w w:=⟨rfl,rfl,rfl,aC _,λ_ _=>rfl⟩
theorem BelowF.trans{F:Nat->Prop}{a b c:World}(h:BelowF F a b)(k:BelowF F b c):BelowF F a c:=
 ⟨k.os.trans h.os,k.tape.trans h.tape,k.output.trans h.output,cT h.size k.size,λi hi=>(k.block i hi).trans (h.block i hi)⟩
structure HRel(base:Bs)(h:AH)(w:World)(E:Nat->Nat->Prop):Prop where
 obj:∀k,gN w h.M (E k) (h.get k)
 inj:∀k k' b,(h.get k).blk=some b->(h.get k').blk=some b->k=k'
 low:∀k b,(h.get k).blk=some b->¬base.F b/\¬base.G b
 elow:∀k c,E k c->¬base.G c/\c<w.heap.size
 einj:∀k k' c,E k c->E k' c->k=k'
 em:∀k c,E k c->¬h.M c
structure ASt where
 n:Nat
 kb:Nat
 t:List (Nat×AV)
 h:AH
def cm:List (Nat×AV)->Nat->AV
 | [],_=>.any
 |(k,o)::h,j=>if j=k then o else cm h j
structure Rep(w0:World)(base:Bs)(st:ASt)(a:Act)(w:World):Prop where
 dfr:a.defers=[]
 size:a.tmps.size=st.n
 tmp:∀i,VRel w st.h.M (cm st.t i) (a.tmps.getD i undef)
 heap:∃E,HRel base st.h w E
 below:BelowF base.F w0 w
 base_le:∀b,base.F b\/base.G b->b<w.heap.size
theorem HRel.lt{base:Bs}{h:AH}{w:World}{E:Nat->Nat->Prop}(H:HRel base h w E){k b:Nat}(hk:(h.get k).blk=some b):b<w.heap.size:=by
 have:=H.obj k
 revert hk this
 cases h.get k with
 |dead=>intro hk;simp[AObj.blk]at hk
 | vars b' T cells =>
   rintro hk ⟨cs,hb,_⟩
   simp only[AObj.blk,dP]at hk;subst hk;exact gq hb
 | rows H' sz rows own =>
   exact Ui
 |lent=>intro hk;simp[AObj.blk]at hk
 | part H' sz rows lo =>
   exact Ui
theorem gN.tr{M M' E E':Nat->Prop}{w w':World}{o:AObj}(h:gN w M E o)(t:Tr M w M' w')(hb:∀b,o.blk=some b->w'.heap[b]? = w.heap[b]?)
 (hE:∀c,E c->c<w.heap.size->E' c):gN w' M' E' o:=by
 cases o with
 |dead=>exact h
 | vars b T cells =>
   obtain⟨cs,h1,h2,h3⟩:=h;exact⟨cs,(hb b rfl).trans h1,h2,λj av hj=>(h3 j av hj).tr t⟩
 | rows H sz rows own =>
   cases H with
   |none=>exact h
   | some q =>
     obtain⟨b,o,C⟩:=q;obtain⟨cs,T,F,h1,h2,h3,h4,h5,h6,h7,h8,h9⟩:=h;refine⟨cs,T,λi j c=>F i j c/\c<w.heap.size,(hb b rfl).trans h1,h2,h3,h4,h5,h6,?_,?_,?_⟩
     ·exact SS
     ·rintro ho i j i' j' c ⟨hc,_⟩ ⟨hc',_⟩
      exact h8 ho i j i' j' c hc hc'
     ·exact S6
 | lent H sz rows =>
   obtain⟨h1,h2,h3⟩:=h;exact⟨h1,h2,λx hx=>(h3 x hx).tr t⟩
 | part H sz rows lo =>
   cases H with
   |none=>exact h
   | some q =>
     obtain⟨b,o,C⟩:=q;obtain⟨cs,T,F,h1,h2,h3,h4,h5,h6,h7,h8,h9⟩:=h;refine⟨cs,T,λi j c=>F i j c/\c<w.heap.size,(hb b rfl).trans h1,h2,h3,h4,h5,h6,?_,?_,?_⟩
     ·exact SS
     ·rintro i j i' j' c ho ho' ⟨hc,_⟩ ⟨hc',_⟩
      exact h8 i j i' j' c ho ho' hc hc'
     ·exact S6
structure TI where
 agg:Bool:=false
 n:Nat:=1
 zero:List AV
 fields:List (Nat×Nat):=[]
 fagg:List Bool:=[]
 sl:Option Nat:=none
 bytes:Nat
 kind:Option IntKind:=none
 pln:Bool:=true
 str:Bool:=false
 boo:Bool:=false
 ieq:Bool:=false
structure Env where
 P:Program
 T:Nat->Option TI
 w0:World
 base:Bs
def cAV:Value->AV
 | .int k n=>.v (.int k n)
 | .bool b=>.v (.bool b)
 | .string s=>.v (.string s)
 | .slice none 0 0=>.nil
 |_=>.any
def ASt.ev(st:ASt):Operand->AV
 | .tmp t=>cm st.t t
 | .const v=>cAV v
 | .func f=>.v (.func (.func f) #[] #[])
 | .global _=>.any
def toAV:CD->AV
 | .v u=>.v u
 | .s rows=>.ro rows
 | .h k H sz len=>.ml k H sz len
def Oz:AV->CD
 | .v u=>.v u
 |_=>.s []
def cG(st:ASt)(d:Option Nat)(v:AV)(K:ASt->Prop):Prop:=
 match d with
 |none=>K st
 |some d=>d<st.n/\K { st with t:=(d,v)::st.t }
def ASt.aft(st:ASt)(d:Option Nat)(av:AV)(h:AH):ASt:=
 match d with
 |none=>{ st with h:=h }
 |some d=>{ st with h:=h,t:=(d,av)::st.t }
def ASt.key(st:ASt)(d:Option Nat):Nat:=
 match d with
 |none=>st.kb
 |some d=>st.kb+16*d
def Env.isBool(E:Env)(T:Nat):Prop:=
 match E.T T with
 |some ti=>ti.boo=true
 |none=>False
def Env.isStr(E:Env)(T:Nat):Prop:=
 match E.T T with
 |some ti=>ti.str=true
 |none=>False
def Env.known(E:Env)(T:Nat):Prop:=
 match E.T T with
 |some _=>True
 |none=>False
def kg(tb:Prop)(op:BinOp)(x y:Value)(K:AV->Prop):Prop:=
 match op,x,y with
 | .add,.int k a,.int k' b=>k=k'/\K (.v (.int k (k.wrap (a+b))))
 | .sub,.int k a,.int k' b=>k=k'/\K (.v (.int k (k.wrap (a-b))))
 | .mul,.int k a,.int k' b=>k=k'/\K (.v (.int k (k.wrap (a*b))))
 | .quo,.int k a,.int k' b=>k=k'/\b≠0/\K (.v (.int k (k.wrap (a.tdiv b))))
 | .rem,.int k a,.int k' b=>k=k'/\b≠0/\K (.v (.int k (a.tmod b)))
 | .and,.int k a,.int k' b=>k=k'/\K (.v (.int k (bits .and k a b)))
 | .or,.int k a,.int k' b=>k=k'/\K (.v (.int k (bits .or k a b)))
 | .xor,.int k a,.int k' b=>k=k'/\K (.v (.int k (bits .xor k a b)))
 | .shl,.int k a,.int _ b=>0<=b/\b<=k.bits/\K (.v (.int k (k.wrap (a*2^b.toNat))))
 | .shr,.int k a,.int _ b=>0<=b/\b<=k.bits/\K (.v (.int k (a / 2^b.toNat)))
 | .lss,.int k a,.int k' b=>k=k'/\K (.v (.bool (decide (a<b))))
 | .leq,.int k a,.int k' b=>k=k'/\K (.v (.bool (decide (a<=b))))
 | .gtr,.int k a,.int k' b=>k=k'/\K (.v (.bool (decide (b<a))))
 | .geq,.int k a,.int k' b=>k=k'/\K (.v (.bool (decide (b<=a))))
 | .eql,.int k a,.int k' b=>k=k'/\K (.v (.bool (decide (a=b))))
 | .neq,.int k a,.int k' b=>k=k'/\K (.v (.bool (!decide (a=b))))
 | .eql,.bool a,.bool b=>tb/\K (.v (.bool (a==b)))
 | .neq,.bool a,.bool b=>tb/\K (.v (.bool (!(a==b))))
 | .add,.string a,.string b=>a.size+b.size<=140737488355328/\K (.v (.string (a++b)))
 | .eql,.string a,.string b=>K (.v (.bool (a.toList==b.toList)))
 | .neq,.string a,.string b=>K (.v (.bool (!(a.toList==b.toList))))
 | .lss,.string a,.string b=>K (.v (.bool (Op.bytesLess a.toList b.toList)))
 | .geq,.string a,.string b=>K (.v (.bool (!Op.bytesLess a.toList b.toList)))
 | .gtr,.string a,.string b=>K (.v (.bool (!(Op.bytesLess a.toList b.toList || a.toList==b.toList))))
 | .leq,.string a,.string b=>K (.v (.bool (Op.bytesLess a.toList b.toList || a.toList==b.toList)))
 |_,_,_=>False
def ji(ti:TI)(row:List CD)(K:AV->Prop):Prop:=
 if ti.agg then ti.n<=row.length/\K (.agg ((row.take ti.n).map toAV))
 else match row with
  |d::_=>K (toAV d)
  | []=>False
def nf(ti:TI)(cells:List AV)(c:Nat)(K:AV->Prop):Prop:=
 if ti.agg then c+ti.n<=cells.length/\K (.agg ((cells.drop c).take ti.n))
 else match cells[c]? with
  |some av=>K av
  |none=>False
def loadAt(ti:TI)(h:AH)(x:AV)(K:AV->Prop):Prop:=
 match x with
 | .p k b c => match h.get k with
   | .vars b' _ cells=>b=b'/\nf ti cells c K
   |_=>False
 | .e k H sz r c => match h.get k with
   | .rows H' sz' rows _=>HdE H H'/\sz=sz'/\r<rows.length/\∀row,rows[r]? = some row->ji ti (row.drop c) K
   | .lent H' sz' rows=>H=H'/\sz=sz'/\r<rows.length/\∀row,rows[r]? = some row->ji ti (row.drop c) K
   |_=>False
 | .rp row=>ji ti row K
 |_=>False
def uF(E:Env)(h:AH)(T:Nat)(x:AV)(K:AV->Prop):Prop:=
 match E.T T with
 |some ti=>loadAt ti h x K
 |none=>False
def indexAt(te:TI)(x i:AV)(K:AV->Prop):Prop:=
 match x,i with
 | .ro rows,.v (.int _ n)=>0<=n/\n<rows.length/\∀row,rows[n.toNat]? = some row->row.length=te.n/\K (.rp row)
 | .sl k H sz off len,.v (.int _ n)=>0<=n/\n<len/\sz=te.n/\K (.e k H sz (off+n.toNat) 0)
 | .ml k H sz len,.v (.int _ n)=>0<=n/\n<len/\sz=te.n/\K (.e k H sz n.toNat 0)
 |_,_=>False
def fB(E:Env)(T:Nat)(K:Nat->TI->Prop):Prop:=
 match E.T T with
 | some ti => match ti.sl with
   | some e => match E.T e with
     |some te=>K e te
     |none=>False
   |none=>False
 |none=>False
def xv(E:Env)(T:Nat)(x:AV)(K:AV->Prop):Prop:=
 match x with
 | .ro rows=>fB E T λ_ _=>K (.v (.int .i64 rows.length))
 | .sl _ _ _ _ len=>fB E T λ_ _=>K (.v (.int .i64 len))
 | .cv _ len=>fB E T λ_ _=>K (.v (.int .i64 len))
 | .ml _ _ _ len=>fB E T λ_ _=>K (.v (.int .i64 len))
 | .nil=>fB E T λ_ _=>K (.v (.int .i64 0))
 | .v (.slice none 0 0)=>fB E T λ_ _=>K (.v (.int .i64 0))
 | .v (.string s)=>E.isStr T/\K (.v (.int .i64 s.size))
 |_=>False
def fieldAt(ti:TI)(f:Nat)(x:AV)(K:AV->Prop):Prop:=
 match ti.fields[f]? with
 | some (off, _) => match x with
   | .p k b c=>K (.p k b (c+off))
   | .e k H sz r c=>K (.e k H sz r (c+off))
   | .rp row=>off<=row.length/\K (.rp (row.drop off))
   |_=>False
 |none=>False
def ug(E:Env)(T f:Nat)(x:AV)(K:AV->Prop):Prop:=
 match E.T T with
 |some ti=>fieldAt ti f x K
 |none=>False
def jX{α:Type}:List α->Nat->List α->List α
 |l,_,[]=>l
 | [],_,_::_=>[]
 |_::l,0,v::vs=>v::jX l 0 vs
 |x::l,c+1,v::vs=>x::jX l c (v::vs)
def AV.cells:AV->List AV
 | .agg l=>l
 |x=>[x]
def AV.one:AV->Bool
 | .nil=>true
 |AV.v _=>true
 | .ro _=>true
 | .sl ..=>true
 | .p ..=>true
 |AV.e ..=>true
 | .rp _=>true
 | .clo ..=>true
 | .cv ..=>true
 | .ml ..=>true
 |_=>false
def rb(fields:List (Nat×Nat))(cells:List AV)(parts:List (Nat×AV))(K:List AV->Prop):Prop:=
 match parts with
 | []=>K cells
 | (i, v) :: rest => match fields[i]? with
   |some (off,n)=>v.cells.length=n/\off+n<=cells.length/\(v.cells.all AV.one)=true/\rb fields (jX cells off v.cells) rest K
   |none=>False
def rO(E:Env)(T:Nat)(parts:List (Nat×AV))(K:AV->Prop):Prop:=
 match E.T T with
 |some ti=>ti.agg=true/\rb ti.fields ti.zero parts (λl=>K (.agg l))
 |none=>False
def CG(E:Env)(s d:Nat)(x:AV)(K:AV->Prop):Prop:=
 E.known s/\match E.T d with
 | some ti => match ti.kind, x with
   |some k,.v (.int _ n)=>K (.v (.int k (k.wrap n)))
   |_,_=>False
 |none=>False
def cut{α:Type}(rows:List α)(off len:Nat):List α:=if off=0/\len=rows.length then rows else(rows.drop off).take len
def fR(b:UInt8):List CD:=[.v (.int .u8 b.toNat)]
def LU(E:Env)(s d:Nat)(rows:List (List CD))(K:AV->Prop):Prop:=
 E.isStr d/\fB E s λ_ te=>te.kind=some .u8/\∃l:List UInt8,rows=l.map fR/\K (.v (.string ⟨l.toArray⟩))
def oY(E:Env)(h:AH)(s d:Nat)(x:AV)(K:AV->Prop):Prop:=
 match x with
 | .v u=>CG E s d (.v u) K
 | .ro rows=>LU E s d rows K
 | .sl k H sz off len => match h.get k with
   | .rows H' sz' rows _=>H=H'/\sz=sz'/\off+len<=rows.length/\LU E s d (cut rows off len) K
   |_=>False
 |_=>False
def HZ(x y:AV)(K:AV->Prop):Prop:=
 match x,y with
 | .v (.int k a),.v (.int _ b)=>K (.v (.int k (if b<a then b else a)))
 |_,_=>False
def P9(x y:AV)(K:AV->Prop):Prop:=
 match x,y with
 | .v (.int k a),.v (.int _ b)=>K (.v (.int k (if a<b then b else a)))
 |_,_=>False
def AV.norm:AV->AV
 | .ml k H sz len=>if MlS k sz len then .sl k H sz 0 len else .any
 | .v (.slice none 0 0)=>.nil
 |x=>x
theorem VRel.norm{w:World}{M:Nat->Prop}{s:AV}{u:Value}(h:VRel w M s u):VRel w M s.norm u:=by
 unfold AV.norm
 split
 ·split
  ·rename_i h0
   cases h with
   | ml _ _ _ _ _ h =>
     rcases h with⟨_,h⟩|⟨_,h,_⟩
     ·exact .sl _ _ _ _ _ _ h
     ·exact absurd h0 h
  ·exact .any _
 ·cases h;exact .nil
 ·exact h
def fY(x:Option AV)(z:Nat)(K:Nat->Prop):Prop:=
 match x with
 |none=>K z
 |some (.v (.int _ n))=>0<=n/\K n.toNat
 |_=>False
def nr(E:Env)(T:Nat)(x:AV)(lo hi:Option AV)(K:AV->Prop):Prop:=
 match x.norm with
 | .ro rows=>fB E T λ_ te=>(∀row∈rows,row.length=te.n)/\fY hi rows.length λh=>h<=rows.length/\fY lo 0 λl=>l<=h/\K (.ro (cut rows l (h-l)))
 | .sl k H sz off len=>fB E T λ_ te=>sz=te.n/\fY hi len λh=>h<=len/\fY lo 0 λl=>l<=h/\K (.sl k H sz (off+l) (h-l))
 | .v (.string s)=>E.isStr T/\fY hi s.size λh=>h<=s.size/\fY lo 0 λl=>l<=h/\K (.v (.string (s.extract l h)))
 |_=>False
def ud(E:Env)(T:Nat)(x:AV)(lo hi:Option AV)(mx:AV)(K:AV->Prop):Prop:=
 match x.norm,hi with
 | .ro rows,some hv=>fB E T λ_ te=>(∀row∈rows,row.length=te.n)/\fY (some hv) 0 λh=>fY (some mx) 0 λm=>h<=m/\m<=rows.length/\fY lo 0 λl=>l<=h/\K (.ro (cut rows l (h-l)))
 | .sl k (some (b,o,_)) sz off len,some hv=>fB E T λ_ te=>sz=te.n/\off=0/\lo=none/\fY (some hv) 0 λh=>fY (some mx) 0 λm=>h<=m/\m<=len/\K (.ml k (some (b,o,m)) sz h)
 | .sl k none sz _ len,some hv=>fB E T λ_ te=>sz=te.n/\lo=none/\fY (some hv) 0 λh=>fY (some mx) 0 λm=>h<=m/\m<=len/\K (.ml k none sz 0)
 |_,_=>False
def H8(E:Env)(T:Nat)(x i:AV)(K:AV->Prop):Prop:=
 match x,i with
 | .v (.string s),.v (.int _ n)=>E.isStr T/\0<=n/\∃h:n.toNat<s.size,K (.v (.int .u8 (s[n.toNat]'h).toNat))
 |_,_=>False
def qt(x:AV)(K:Bool->Prop):Prop:=
 match x with
 | .v (.bool b)=>K b
 |_=>False
def C4(x:AV)(K:AV->Prop):Prop:=
 match x with
 | .p ..=>K x
 |AV.e ..=>K x
 | .rp _=>K x
 | .clo ..=>K x
 | .v (.func (.func f) a b)=>K (.v (.func (.func f) a b))
 |_=>False
def iM(x:AV)(i:Nat)(K:AV->Prop):Prop:=
 match x with
 | .tup l => match l[i]? with
   |some v=>K v
   |none=>False
 |_=>False
def tU(ti:TI)(f:Nat)(x:AV)(K:AV->Prop):Prop:=
 match ti.fields[f]?,ti.fagg[f]?,x with
 | some (off, n), some b, .agg l => if b then off + n <= l.length /\ K (.agg ((l.drop off).take n)) else match l[off]? with
   |some v=>K v
   |none=>False
 |_,_,_=>False
def uf(E:Env)(T f:Nat)(x:AV)(K:AV->Prop):Prop:=
 match E.T T with
 |some ti=>tU ti f x K
 |none=>False
def Yj(x y:AV)(K:Value->Value->Prop):Prop:=
 match x,y with
 | .v a,.v b=>K a b
 |_,_=>False
def ng:List AV->Option (List Int)
 | []=>some []
 | .v (.int .i64 a)::l=>(ng l).map (a :: ·)
 |_=>none
def Yr(E:Env)(op:BinOp)(T:Nat)(l m:List AV)(K:AV->Prop):Prop:=
 match E.T T with
 | some ti => ti.ieq = true /\ match ng l, ng m with
   | some a, some b => a.length = ti.n /\ b.length = ti.n /\ match op with
     | .eql=>K (.v (.bool (decide (a=b))))
     | .neq=>K (.v (.bool (!decide (a=b))))
     |_=>False
   |_,_=>False
 |none=>False
def sE(E:Env)(op:BinOp)(T:Nat)(x y:AV)(K:AV->Prop):Prop:=
 match x,y with
 | .v a,.v b=>kg (E.isBool T) op a b K
 | .agg l,.agg m=>Yr E op T l m K
 |_,_=>False
def aCv(E:Env)(x:AV)(K:AV->Prop):Prop:=
 match x with
 | .cv u _=>∃rows,Rd E.w0 false E.base.F u (.s rows)/\K (.ro rows)
 |x=>K x
def Cx(E:Env)(st:ASt)(op:Op)(K:AV->Prop):Prop:=
 match op with
 | .move x | .assign x=>K (st.ev x)
 | .pick c a b=>qt (st.ev c) λt=>(t=true->K (st.ev a))/\(t=false->K (st.ev b))
 | .build T parts=>rO E T (parts.toList.map λq=>(q.1,st.ev q.2)) K
 | .load T x=>uF E st.h T (st.ev x) K
 | .nilCheck x=>C4 (st.ev x) K
 | .binOp op T x y _=>sE E op T (st.ev x) (st.ev y) K
 | .unOp .not _ x=>qt (st.ev x) λb=>K (.v (.bool (!b)))
 | .convert s d x=>oY E st.h s d (st.ev x) K
 | .makeFunc (.func f) first caps=>first.toList=[]/\K (.clo f (caps.toList.map st.ev))
 | .slice T x lo hi none=>nr E T (st.ev x) (lo.map st.ev) (hi.map st.ev) K
 | .fieldAddr T x f=>ug E T f (st.ev x) K
 | .field T x f=>uf E T f (st.ev x) K
 | .indexAddr T x i=>fB E T λ_ te=>aCv E (st.ev x) λv=>indexAt te v (st.ev i) K
 | .index T x i=>H8 E T (st.ev x) (st.ev i) K
 | .extract x i=>iM (st.ev x) i K
 |_=>False
def uI(h:AH)(x:AV)(K:CD->AH->Bool->Prop):Prop:=
 match x with
 | .v u=>K (.v u) h true
 | .nil=>K (.s []) h true
 | .ro rows=>K (.s rows) h false
 | .sl k H sz off len => match h.get k with
   | .rows H' sz' rows own=>H=H'/\sz=sz'/\off+len<=rows.length/\K (.s (cut rows off len)) ((k,.dead)::h) own
   |_=>False
 | .ml k H sz len=>MlS k sz len/\K (.h k H sz len) h true
 |_=>False
def nB(h:AH)(l:List AV)(K:List CD->AH->Bool->Prop):Prop:=
 match l with
 | []=>K [] h true
 |a::l=>uI h a λd h' o=>nB h' l λds h'' o'=>K (d::ds) h'' (o&&o')
def zO(a:AV)(d:CD)(h:AH):AH:=
 match a,d with
 | .sl k H sz 0 _,.s rows=>(k,.lent H sz rows)::h
 |_,_=>h
def lendL:List AV->List CD->AH->AH
 |a::l,d::ds,h=>lendL l ds (zO a d h)
 |_,_,h=>h
def Li(own:Bool)(H:Hd)(sz:Nat)(rows:List (List CD))(n:Nat):AObj:=if own then .part H sz rows n else .dead
def rN(E:Env)(st:ASt)(T:Nat)(x y:AV)(K:ASt->Prop):Prop:=
 match E.T T with
 | some ti => y.cells.length = ti.n /\ (y.cells.all AV.one) = true /\ match x with
   | .p k b c => match st.h.get k with
     | .vars b' T' cells=>b=b'/\c+y.cells.length<=cells.length/\K { st with h:=(k,.vars b T' (jX cells c y.cells))::st.h }
     |_=>False
   | .e k H sz r c => nB st.h y.cells λds h o => match h.get k with
     | .rows H' sz' rows own=>HdE H H'/\sz=sz'/\r<rows.length/\c+ds.length<=sz /\
      K { st with h:=lendL y.cells ds ((k,.rows H' sz (if c=0/\ds.length=sz then rows.set r ds else rows.modify r λrow=>jX row c ds) (own&&o))::h) }
     |_=>False
   |_=>False
 |none=>False
def isV:CD->Bool
 | .v _=>true
 |_=>false
def rm(te:TI)(h:AH)(x:AV)(K:List (List CD)->AH->Bool->Prop):Prop:=
 match x with
 | .nil=>K [] h true
 | .ro rows=>(∀row∈rows,row.length=te.n)/\(te.pln=true->∀row∈rows,∀d∈row,isV d=true)/\K rows h te.pln
 | .sl k H sz off len => match h.get k with
   | .rows H' sz' rows own=>H=H'/\sz=sz'/\sz=te.n/\off+len<=rows.length /\
    if te.pln then(∀row∈rows,∀d∈row,isV d=true)/\K (cut rows off len) h true else K (cut rows off len) ((k,Li own H sz rows (off+len))::h) own
   | .part H' sz' rows lo=>H=H'/\sz=sz'/\sz=te.n/\off+len<=rows.length/\te.pln=false/\lo<=off/\K (cut rows off len) ((k,.part H sz rows (off+len))::h) true
   |_=>False
 |_=>False
def lP(E:Env)(st:ASt)(dst:Option Nat)(T:Nat)(s x:AV)(K:ASt->Prop):Prop:=
 fB E T λ_ te=>0<te.bytes/\0<te.n /\
  match s.norm with
  | .nil=>rm te st.h x λnews h o=>news.length*te.bytes<=140737488355328 /\
   ∀H,cG { st with h:=(st.key dst,.rows H te.n news o)::h } dst (.sl (st.key dst) H te.n 0 news.length) K
  | .sl k H0 sz off len => rm te st.h x λnews h o => match h.get k with
    | .rows H' sz' rows own=>H0=H'/\sz=sz'/\sz=te.n/\off=0/\len=rows.length/\(len+news.length)*te.bytes<=140737488355328 /\
     ∀H,cG { st with h:=(k,.rows H te.n (rows++news) (own&&o))::h } dst (.sl k H te.n 0 (len+news.length)) K
    |_=>False
  |_=>False
def ya(te:TI)(h:AH)(parts:List (Nat×AV))(i:Nat)(K:List (List CD)->AH->Bool->Prop):Prop:=
 match parts with
 | []=>K [] h true
 |(j,v)::rest=>j=i/\v.cells.length=te.n/\(v.cells.all AV.one)=true /\
  nB h v.cells λds h' o=>ya te h' rest (i+1) λrs h'' o'=>K (ds::rs) h'' (o&&o')
def mM(E:Env)(st:ASt)(dst:Option Nat)(T len:Nat)(parts:List (Nat×AV))(K:ASt->Prop):Prop:=
 fB E T λ_ te=>0<te.n/\len=parts.length/\len*te.n<=16777216/\ya te st.h parts 0 λrs h o=>
  ∀b,cG { st with h:=(st.key dst,.rows (some (b,0,len)) te.n rs o)::h } dst (.sl (st.key dst) (some (b,0,len)) te.n 0 len) K
def Jp(E:Env)(st:ASt)(dst:Option Nat)(T:Nat)(l c:AV)(K:ASt->Prop):Prop:=
 fB E T λ_ te=>0<te.n/\0<te.bytes/\Yj l c λx y=>match x,y with
  | .int .i64 n,.int .i64 m=>n=m/\0<=n/\n*te.bytes<=140737488355328 /\
   ∀b,cG { st with h:=(st.key dst,.rows (some (b,0,n.toNat)) te.n (List.replicate n.toNat (te.zero.map Oz)) true)::st.h } dst (.sl (st.key dst) (some (b,0,n.toNat)) te.n 0 n.toNat) K
  |_,_=>False
def Bz(E:Env)(st:ASt)(dst:Option Nat)(T:Nat)(K:ASt->Prop):Prop:=
 match E.T T with
 |some ti=>∀b,cG { st with h:=(st.key dst,.vars b T ti.zero)::st.h } dst (.p (st.key dst) b 0) K
 |none=>False
def Oe(E:Env)(st:ASt)(dst:Option Nat)(T:Nat)(x:AV)(K:ASt->Prop):Prop:=
 match E.T T with
 |some _=>(x.cells.all AV.one)=true/\∀b,cG { st with h:=(st.key dst,.vars b T x.cells)::st.h } dst (.p (st.key dst) b 0) K
 |none=>False
def Mb (P : Program) (f : Nat) : Prop := ∃ fn, P.funcs[f]? = some fn ∧ (fn.name == "runtime.NumGoroutine") = false ∧ fn.body.isNone = false
def ae(E:Env)(f:Nat)(args:List AV)(st:ASt)(dst:Option Nat)(K:ASt->Prop):Prop:=
 Mb E.P f/\∀a w,Rep E.w0 E.base st a w->∀xs:Array Value,xs.size=args.length->(∀i av,args[i]? = some av->VRel w st.h.M av (xs.getD i undef)) ->
  Calls E.P f xs w λe w'=>∃v av h',e=.returned v/\K (st.aft dst av h')/\Rep E.w0 E.base (st.aft dst av h') (a.put dst v) w'/\(E.base.loose=false->Tr st.h.M w h'.M w')/\VRel w' h'.M av v
def ab1(E:Env)(st:ASt)(dst:Option Nat)(c:Call)(K:ASt->Prop):Prop:=
 match c.callee,c.args.toList,c.argTypes.toList with
 | .builtin .len,[x],[T]=>xv E T (st.ev x) λv=>cG st dst v K
 | .builtin .min,[x,y],_=>HZ (st.ev x) (st.ev y) λv=>cG st dst v K
 | .builtin .max,[x,y],_=>P9 (st.ev x) (st.ev y) λv=>cG st dst v K
 | .builtin .append,[s,x],[T,T']=>T=T'/\lP E st dst T (st.ev s) (st.ev x) K
 | .value (.func f),args,_=>ae E f (args.map st.ev) st dst K
 | .value (.tmp t), args, _ => match cm st.t t with
   | .clo f caps=>ae E f (args.map st.ev++caps) st dst K
   | .v (.func (.func f) _ _)=>ae E f (args.map st.ev) st dst K
   |_=>False
 |_,_,_=>False
def aOp(E:Env)(o:Oper)(st:ASt)(K:ASt->Prop):Prop:=
 match o.op with
 | .alloc T=>Bz E st o.dst T K
 | .box T x=>Oe E st o.dst T (st.ev x) K
 | .buildSlice T len parts=>mM E st o.dst T len (parts.toList.map λq=>(q.1,st.ev q.2)) K
 | .makeSlice T l c=>Jp E st o.dst T (st.ev l) (st.ev c) K
 | .store T x y=>rN E st T (st.ev x) (st.ev y) λst'=>cG st' o.dst .un K
 | .slice T x lo hi (some mx)=>ud E T (st.ev x) (lo.map st.ev) (hi.map st.ev) (st.ev mx) λv=>cG st o.dst v K
 | .call c=>ab1 E st o.dst c K
 |op=>Cx E st op λv=>cG st o.dst v K
def nz(all:List Oper)(j:Nat):Option Nat:=(all[j]?).bind (·.dst)
def abV(all:List Oper)(o:Oper)(st:ASt)(run skip:Prop):Prop:=
 match o.guard with
 |none=>run
 | some (j, want) => match nz all j with
   | some d => match cm st.t d with
     | .v (.bool b)=>(b=want->run)/\(b = !want->skip)
     | .un=>skip
     |_=>False
   |none=>False
def yJ(E:Env)(all:List Oper):List Oper->(ASt->Prop)->ASt->Prop
 | [],K,st=>K st
 |o::rest,K,st=>abV all o st (aOp E o st (yJ E all rest K)) (cG st o.dst .un (yJ E all rest K))
def aU(E:Env)(body:Code)(Q:Exit->ASt->Prop)(st:ASt):Prop:=
 ∀a w,Rep E.w0 E.base st a w->(Code.loop body).wp E.P (λe a' w'=>∃st',Q e st'/\Rep E.w0 E.base st' a' w') a w
def cg(E:Env)(id:Nat)(ops:List Oper)(Q:Exit->ASt->Prop)(st:ASt):Prop:=
 ∀a w,Rep E.w0 E.base st a w->(Code.region id ops.toArray true).wp E.P (λe a' w'=>∃st',Q e st'/\Rep E.w0 E.base st' a' w') a w
def Z1(K:ASt->Prop)(Q:Exit->ASt->Prop):Exit->ASt->Prop
 | .normal,st=>K st
 |e,st=>Q e st
def LP(id:Nat)(Q:Exit->ASt->Prop):Exit->ASt->Prop
 | .exit j,st=>if j=id then Q .normal st else Q (.exit j) st
 |e,st=>Q e st
def jA(E:Env):Code->(Exit->ASt->Prop)->ASt->Prop
 | .skip,Q,st=>Q .normal st
 | .region id ops draw,Q,st=>if draw then cg E id ops.toList Q st else yJ E ops.toList ops.toList (Q .normal) st
 | .seq x y,Q,st=>jA E x (Z1 (jA E y Q) Q) st
 | .cond c x y,Q,st=>qt (st.ev c) λb=>(b=true->jA E x Q st)/\(b=false->jA E y Q st)
 | .block id x,Q,st=>jA E x (LP id Q) st
 | .loop x,Q,st=>aU E x Q st
 | .exit id,Q,st=>Q (.exit id) st
 | .ret,Q,st=>Q .ret st
 |_,_,_=>False
def zv:AV->Value
 | .v u=>u
 |_=>.slice none 0 0
structure TIok(P:Program)(t:Nat)(ti:TI):Prop where
 info:∃i z,P.info? t=some i/\i.size=ti.n/\i.bytes=ti.bytes/\i.zero=some z/\z.cells.toList=ti.zero.map zv/\(ti.agg=true->∃cs,z=.agg cs)
 zok:∀av∈ti.zero,av=.nil\/∃u,av=.v u/\plain u=true
 zlen:ti.zero.length=ti.n
 npos:0<ti.n
 st:ti.agg=true->∃fs:Array Field,P.underlying t=some (.struct fs)/\fs.toList.mapM (λf=>(P.info? f.type).map λi=>(f.offset,i.size))=some ti.fields /\
  ∀p∈ti.fields,0<p.2/\p.1+p.2<=ti.n
 nst:ti.agg=false->ti.fields=[]/\ti.n=1/\∃d,P.underlying t=some d/\(∀fs,d≠.struct fs)/\(∀n e,d≠.array n e)
 fa:∀fs,P.underlying t=some (.struct fs)->∀(i:Nat) (b:Bool),ti.fagg[i]? = some b->∃f:Field,fs.toList[i]? = some f/\if b then ∃gs,P.underlying f.type=some (.struct gs)else ∃d,P.underlying f.type=some d/\(∀gs,d≠.struct gs)/\(∀n e,d≠.array n e)
 sl:∀e,ti.sl=some e->P.underlying t=some (.slice e)
 kd:∀k,ti.kind=some k->P.underlying t=some (.int k)
 str:ti.str=true->P.underlying t=some .string
 boo:ti.boo=true->P.underlying t=some .bool
 ieq : ti.ieq = true → ∃ fs : Array Field, P.underlying t = some (.struct fs) ∧ P.stoodInHeld t = false ∧ P.eqGuardType P.depth t = false ∧ fs.toList.map (·.offset) = List.range ti.n ∧ ∀ f ∈ fs.toList, f.name ≠ "_" ∧ P.underlying f.type = some (.int .i64)
theorem Fz{P:Program}:∀(fs:List Field) (ps:List (Nat×Nat)),fs.mapM (λf=>(P.info? f.type).map λi=>(f.offset,i.size))=some ps ->
 ∀(k:Nat) (p:Nat×Nat),ps[k]? = some p->∃(f:Field) (j:TypeInfo),fs[k]? = some f/\f.offset=p.1/\P.info? f.type=some j/\j.size=p.2
 | [],ps,h,k,p,hk=>by simp at h;subst h;simp at hk
 | f :: fs, ps, h, k, p, hk => by
   simp only[acm,Option.bind_eq_bind,Option.pure_def]at h
   cases hi:P.info? f.type with
   |none=>simp[hi]at h
   | some i =>
     cases hr:fs.mapM (λf=>(P.info? f.type).map λi=>(f.offset,i.size))with
     |none=>simp[hi,hr]at h
     | some rest =>
       simp[hi,hr]at h;subst h
       cases k with
       |zero=>simp at hk;subst hk;exact⟨f,i,rfl,rfl,hi,rfl⟩
       |succ k=>simpa using Fz fs rest hr k p (by simpa using hk)
def EOk(E:Env):Prop:=(∀t ti,E.T t=some ti->TIok E.P t ti)/\∀w,BelowF E.base.F E.w0 w->E.base.L w
theorem IE{u:Value}(h:plain u=true):u.oneCell'=true:=by
 cases u<;>simp[plain,Value.oneCell']at h⊢
theorem VRel.ev{w0:World}{base:Bs}{st:ASt}{a:Act}{w:World}(hR:Rep w0 base st a w)(x:Operand):VRel w st.h.M (st.ev x) (a.eval x):=by
 cases x with
 |tmp t=>exact hR.tmp t
 | const v =>
   show VRel w st.h.M (cAV v) v
   cases v with
   |int k n=>exact .v _ rfl
   |bool b=>exact .v _ rfl
   |string s=>exact .v _ rfl
   | slice a l c =>
     unfold cAV
     split<;>first|exact .any _|(rename_i heq;first|(cases heq;exact .nil)|(exfalso;simp at heq))
   |_=>exact .any _
 |global g=>exact .any _
 |func f=>exact .v _ rfl
theorem xj{w:World}{b:Nat}{cs:Array Value}{T:TypeId}{fr:Nat×Nat}(hb:w.heap[b]? = some (.cells cs T fr)){j:Nat}(hj:j<cs.size) :
 w.cell? ⟨b,j,none⟩=some (cs.getD j undef):=by
 simp[World.cell?,hb,hj]
theorem gv(b o n:Nat):(⟨b,o,none⟩:Addr).add n=⟨b,o+n,none⟩:=by
 unfold Addr.add;split<;>simp_all
theorem Iy{P:Program}{w:World}{b:Nat}{cs:Array Value}{T:TypeId}{fr:Nat×Nat}(hb:w.heap[b]? = some (.cells cs T fr)){o n:Nat}(hj:o+n<=cs.size) :
 (loadCells ⟨b,o,none⟩ n).run P w=.ok ((List.range n).map λj=>cs.getD (o+j) undef).toArray w:=by
 rw[run_loadCells w ⟨b,o,none⟩ n (λj=>cs.getD (o+j) undef) (λj hj'=>by rw[gv];exact xj hb aa)]
theorem u9{P:Program}{t:TypeId}{fs:Array Field}(h:P.underlying t=some (.struct fs))(w:World):(isAgg t).run P w=.ok true w:=by
 simp[isAgg,bM h]
theorem uv{P:Program}{t:TypeId}{d:TypeDesc}(h:P.underlying t=some d)(h1:∀fs,d≠.struct fs)(h2:∀n e,d≠.array n e)(w:World) :
 (isAgg t).run P w=.ok false w:=by
 cases d<;>first|(exact absurd rfl (h1 _))|(exact absurd rfl (h2 _ _))|simp[isAgg,bM h]
theorem fm{P:Program}{t:TypeId}{i:TypeInfo}(h:P.info? t=some i)(w:World):(sizeOf t).run P w=.ok i.size w:=by
 simp[sizeOf,typeInfo,h]
theorem kX{P:Program}{T:Nat}{ti:TI}(ht:TIok P T ti){w:World}{b o:Nat}{cs:Array Value}{T':TypeId}{fr:Nat×Nat}
 (hb:w.heap[b]? = some (.cells cs T' fr)) (hfit:o+ti.n<=cs.size) :
 (loadVar T ⟨b,o,none⟩).run P w=.ok (if ti.agg then .agg ((List.range ti.n).map λj=>cs.getD (o+j) undef).toArray else cs.getD o undef) w:=by
 obtain⟨i,z,hi,hs,-⟩:=ht.info
 cases hg:ti.agg with
 | true =>
   obtain⟨fs,hf,-⟩:=ht.st hg;simp[loadVar,u9 hf,fm hi,hs,Iy hb hfit]
 | false =>
   obtain⟨-,hn,d,hd,h1,h2⟩:=ht.nst hg;have:=xj hb (show o<cs.size from aa);simp[loadVar,uv hd h1 h2,this]
theorem lV{w:World}{M:Nat->Prop}{u:Value}{d:CD}(h:Rd w false (λb=>¬M b) u d):VRel w M (toAV d) u:=by
 cases d with
 |v u'=>cases h with|plain h=>exact .v _ h
 |s rows=>exact .ro _ _ h
 |h k H sz len=>exact .ml _ _ _ _ _ h.mlv
theorem rv{w:World}{M:Nat->Prop}{b o:Nat}{cs:Array Value}{T:TypeId}{fr:Nat×Nat}{row:List CD}(hfit:o+row.length<=cs.size)
 (hr:∀j d,row[j]? = some d->Rd w false (λb=>¬M b) (cs.getD (o+j) undef) d) {P:Program}{t:Nat}{ti:TI}(ht:TIok P t ti)
 (hb:w.heap[b]? = some (.cells cs T fr)) {K:AV->Prop}(h:ji ti row K) :
 ∃v av,(loadVar t ⟨b,o,none⟩).run P w=.ok v w/\VRel w M av v/\K av:=by
 unfold ji at h
 split at h
 ·rename_i hg
  obtain⟨hn,hK⟩:=h;refine⟨_,_,kX ht hb aa,?_,hK⟩;rw[al hg];refine .agg _ _ aI ?_;intro j av hj;simp only[bP,a7,ez]at hj;obtain⟨d,hd,rfl⟩:=hj
  split at hd
  ·rename_i hlt
   have:=lV (hr j d hd)
   simpa[hlt]using this
  ·exact absurd hd ab
 ·rename_i hg
  cases row with
  |nil=>exact h.elim
  | cons d rest =>
    have hag:ti.agg=false:=by simpa using hg
    obtain⟨-,hn,-⟩:=ht.nst hag;refine⟨_,_,kX ht hb (by simp at hfit;omega),?_,h⟩;rw[hag]
    simpa using lV (hr 0 d rfl)
theorem Rd.slice_inv{w:World}{x:Bool}{S:Nat->Prop}{b off n cap:Nat}{rows:List (List CD)}(h:Rd w x S (.slice (some ⟨b,off,none⟩) n cap) (.s rows))(hne:rows≠[]) :
 ∃ (sz : Nat) (cs : Array Value) (T : TypeId) (fr : Nat × Nat) (F : Nat -> Nat -> Nat -> Prop), S b /\ w.heap[b]? = some (.cells cs T fr) /\ off + rows.length * sz <= cs.size /\ (∀ row ∈ rows, row.length = sz) /\ (∀ i j c, F i j c -> S c) /\
   ∀i j row d,rows[i]? = some row->row[j]? = some d->Rd w x (F i j) (cs.getD (off+(i*sz+j)) undef) d:=by
 generalize hu:Value.slice (some ⟨b,off,none⟩) n cap=u at h
 cases h with
 |empty=>exact absurd rfl hne
 | slice b' off' cap' sz cs T fr rows F hcap hmax hsz hS hb hfit hown hF hd hlen hr =>
   injection hu with h1 h2 h3
   injection h1 with h1
   injection h1 with h4 h5 h6
   subst h4;subst h5;exact⟨sz,cs,T,fr,F,hS,hb,hfit,hlen,λi j c hc=>(hF i j c hc).1,hr⟩
theorem zN{w:World}{base:Bs}{hp:AH}{Es:Nat->Nat->Prop}(hH:HRel base hp w Es){P:Program}{t:Nat}{ti:TI}(ht:TIok P t ti){x:AV}{u:Value}
 (hx:VRel w hp.M x u) {K:AV->Prop}(h:loadAt ti hp x K) :
 ∃v av,(Instr.loadAt t u).run P w=.ok v w/\VRel w hp.M av v/\K av:=by
 unfold loadAt at h
 split at h
 ·rename_i k b c
  cases hx
  have ho:=hH.obj k
  split at h
  ·rename_i b' T cells hget
   obtain⟨rfl,h⟩:=h;rw[hget]at ho;obtain⟨cs,hb,hs,hc⟩:=ho;unfold nf at h
   split at h
   ·rename_i hg
    obtain⟨hn,hK⟩:=h;refine⟨_,_,by simpa[Instr.loadAt,Instr.sureAddr]using kX (P:=P) ht hb (o:=c) aa,?_,hK⟩;rw[al hg];refine .agg _ _ aI ?_;intro j av hj;rw[ez]at hj
    split at hj
    ·rename_i hlt
     rw[eR]at hj
     simpa[hlt]using hc _ _ hj
    ·exact absurd hj ab
   ·rename_i hg
    have hag:ti.agg=false:=by simpa using hg
    obtain⟨-,hn,-⟩:=ht.nst hag
    split at h
    ·rename_i av hav
     have hlt:c<cells.length:=(aw.1 hav).1;refine⟨_,_,by simpa[Instr.loadAt,Instr.sureAddr]using kX (P:=P) ht hb (o:=c) aa,?_,h⟩;rw[hag]
     simpa using hc _ _ hav
    ·exact h.elim
  ·exact h.elim
 ·rename_i k H sz r c
  have ho:=hH.obj k
  split at h
  ·rename_i H' sz' rows own hget
   obtain⟨hHd,rfl,hlt,h⟩:=h;rw[hget]at ho
   cases hx with
   | e k b o C1 sz r c =>
     obtain⟨C,rfl⟩:=hHd.some_of;obtain⟨cs,T',F,hb,hlen,hC,hsz,hfit,hrl,hF,hd,hr⟩:=ho;have hrow:rows[r]? = some rows[r]:=au hlt;have h:=h _ hrow
     have hle:r*sz+sz<=C*sz:=by
      have:=az sz (show r+1<=C from aa);exact JX
     have hl:(rows[r]).length=sz:=hrl _ (ao hlt);by_cases hc:c<=sz
     ·have:=rv (M:=hp.M) (b:=b) (o:=o+r*sz+c) (cs:=cs) (row:=(rows[r]).drop c) (w:=w) (by simp only[gl,hl];omega) ?_ ht hb h
      ·obtain⟨v,av,h1,h2,h3⟩:=this
       exact J4
      ·intro j d hj
       rw[eR]at hj;have:=(hr r (c+j) _ d hrow hj).weaken.map (λ_ _ _=>rfl) (λq hq _=>(hF _ _ _ hq).2);have e:o+r*sz+c+j=o+(r*sz+(c+j)):=aa;rw[e];exact this
     ·exact Uf
  ·rename_i H' sz' rows hget
   obtain⟨rfl,rfl,hlt,h⟩:=h;rw[hget]at ho;obtain⟨hrl,hex,hrd⟩:=ho;have hne:rows≠[]:=λe=>by rw[e]at hlt;simp at hlt
   obtain⟨b0,o0,C0,rfl,hC⟩:=hex hne
   cases hx with
   | e =>
     have hRd:=hrd (.slice (some ⟨b0,o0+0*sz,none⟩) rows.length (C0-0)) (.inl ⟨rfl,aa⟩);obtain⟨sz2,cs,T',fr,F,hS,hb,hfit,hlen,hF,hr⟩:=hRd.slice_inv hne;have hrow:rows[r]? = some rows[r]:=au hlt;have h:=h _ hrow;have hl:(rows[r]).length=sz:=hrl _ (ao hlt);have hsz2:sz2=sz:=by rw[<-hl,hlen _ (ao hlt)]
     subst hsz2
     have hle:r*sz2+sz2<=rows.length*sz2:=by
      have:=az sz2 (show r+1<=rows.length from aa);exact JX
     have hfit2:o0+r*sz2+sz2<=cs.size:=aa;by_cases hc:c<=sz2
     ·have:=rv (M:=hp.M) (b:=b0) (o:=o0+r*sz2+c) (cs:=cs) (row:=(rows[r]).drop c) (w:=w) (by simp only[gl,hl];omega) ?_ ht hb h
      ·obtain⟨v,av,h1,h2,h3⟩:=this
       exact J4
      ·intro j d hj
       rw[eR]at hj;have:=(hr r (c+j) _ d hrow hj).map (λ_ _ _=>rfl) (λq hq _=>hF _ _ _ hq);have e:o0+r*sz2+c+j=o0+0*sz2+(r*sz2+(c+j)):=aa;rw[e];exact this
     ·exact Uf
  ·exact h.elim
 ·rename_i row
  cases hx with
  | rp row b o cs T fr hM hb hfit hr =>
    obtain⟨v,av,h1,h2,h3⟩:=rv hfit hr ht hb h;exact J4
 ·exact h.elim
theorem fl{E:Env}(hE:EOk E){T:Nat}{K:Nat->TI->Prop}(h:fB E T K) :
 ∃e te i,E.P.underlying T=some (.slice e)/\TIok E.P e te/\E.P.info? e=some i/\i.size=te.n/\i.bytes=te.bytes/\K e te:=by
 unfold fB at h
 split at h
 ·rename_i ti hti
  split at h
  ·rename_i e he
   split at h
   ·rename_i te hte
    obtain⟨i,z,hi,h1,h2,-⟩:=(hE.1 _ _ hte).info;exact⟨e,te,i,(hE.1 _ _ hti).sl e he,hE.1 _ _ hte,hi,h1,h2,h⟩
   ·exact h.elim
  ·exact h.elim
 ·exact h.elim
theorem Hy{P:Program}{w:World}{M:Nat->Prop}{T e:Nat}{te:TI}{i:TypeInfo}(hu:P.underlying T=some (.slice e))(hi:P.info? e=some i)(hs:i.size=te.n)
 {x y:AV}{u v:Value}(hx:VRel w M x u) (hy:VRel w M y v) {K:AV->Prop}(h:indexAt te x y K) :
 ∃r av,(Instr.indexAt T u v).run P w=.ok r w/\VRel w M av r/\K av:=by
 unfold indexAt at h
 split at h
 ·rename_i rows k n
  obtain⟨h0,hn,h⟩:=h
  cases hy
  cases hx with
  | ro rows x hr =>
    cases hr with
    |empty a cap=>simp at hn;omega
    | slice b off cap sz cs T' fr rows F hcap hmax hsz hS hb hfit hown hF hd hlen hr =>
      have hlt:n.toNat<rows.length:=aa;have hrow:rows[n.toNat]? = some rows[n.toNat]:=au hlt;obtain⟨hl,hK⟩:=h _ hrow;have hl':=hlen _ (ao hlt)
      have hle:n.toNat*sz+sz<=rows.length*sz:=by
       have:=az sz (show n.toNat+1<=rows.length from aa);exact JX
      refine⟨.pointer (some ⟨b,off+n.toNat*sz,none⟩),_,?_,.rp _ b _ cs T' fr hS hb aa ?_,hK⟩
      ·have e:te.n=sz:=by omega
       simp[Instr.indexAt,bM hu,asIntOf,h0,hn,fm hi,hs,gv,e]
      ·intro j d hj
       have:=(hr n.toNat j _ d hrow hj).map (λ_ _ _=>rfl) (λq hq _=>(hF _ _ _ hq).1);have e:off+n.toNat*sz+j=off+(n.toNat*sz+j):=aa;rw[e];exact this
 ·rename_i k H sz off len ki n
  obtain⟨h0,hn,hsz,hK⟩:=h
  cases hy
  cases hx with
  | sl k H sz off len x hx =>
    cases H with
    |none=>obtain⟨_,rfl⟩:=hx;simp at hn;omega
    | some q =>
      obtain⟨b,o,C⟩:=q;rcases hx with⟨rfl,hC⟩|⟨rfl,_⟩
      ·refine⟨.pointer (some ⟨b,o+(off+n.toNat)*sz+0,none⟩),_,?_,.e k b o C sz _ 0,hK⟩
       simp[Instr.indexAt,bM hu,asIntOf,h0,hn,fm hi,hs,gv,hsz,ff,jB]
      ·simp at hn;omega
 ·rename_i k H sz len ki n
  obtain⟨h0,hn,hsz,hK⟩:=h
  cases hy
  cases hx with
  | ml k H sz len x hx =>
    rcases hx with⟨-,hx⟩|⟨rfl,-⟩
    ·cases H with
     |none=>obtain⟨_,rfl⟩:=hx;simp at hn;omega
     | some q =>
       obtain⟨b,o,C⟩:=q;rcases hx with⟨rfl,hC⟩|⟨rfl,_⟩
       ·refine⟨.pointer (some ⟨b,o+n.toNat*sz+0,none⟩),_,?_,.e k b o C sz _ 0,hK⟩
        simp[Instr.indexAt,bM hu,asIntOf,h0,hn,fm hi,hs,gv,hsz]
       ·simp at hn;omega
    ·simp at hn;omega
 ·exact h.elim
theorem HO{P:Program}{w:World}{M:Nat->Prop}{T f:Nat}{ti:TI}(ht:TIok P T ti){x:AV}{u:Value}(hx:VRel w M x u){K:AV->Prop}(h:fieldAt ti f x K) :
 ∃r av,(Instr.fieldAt T u f).run P w=.ok r w/\VRel w M av r/\K av:=by
 unfold fieldAt at h
 split at h
 ·rename_i off n hf
  have hag:ti.agg=true:=by
   exact Sw
  obtain⟨fs,hu,hmap,hfs⟩:=ht.st hag;obtain⟨g,j,hg,ho,hj,hn⟩:=Fz _ _ hmap _ _ hf;have hpos:=(hfs _ (aQ hf)).1;simp only[rS]at hg;simp only at ho hn hpos
  have hrun:∀b o,(Instr.fieldAt T (.pointer (some ⟨b,o,none⟩)) f).run P w=.ok (.pointer (some ⟨b,o+off,none⟩)) w:=by
   intro b o;simp[Instr.fieldAt,bM hu,hg,Instr.sureAddr,fieldPlace,fm hj,hn,ho,gv];omega
  split at h
  ·cases hx;exact⟨_,_,hrun _ _,.p _ _ _,h⟩
  ·cases hx with
   | e k b o C sz r c =>
     exact⟨_,_,hrun _ _,by rw[jB];exact .e _ _ _ _ _ _ _,h⟩
  ·cases hx with
   | rp row b o cs T' fr hM hb hfit hr =>
     obtain⟨hle,hK⟩:=h;refine⟨_,_,hrun _ _,.rp _ b _ cs T' fr hM hb (by simp only[gl];omega) ?_,hK⟩;intro j d hj;rw[eR]at hj;rw[jB];exact hr _ _ hj
  ·exact h.elim
 ·exact h.elim
theorem Lr{P:Program}{w:World}{M:Nat->Prop}{T f:Nat}{ti:TI}(ht:TIok P T ti){x:AV}{u:Value}(hx:VRel w M x u){K:AV->Prop}(h:tU ti f x K) :
 ∃r av,(Instr.field T u f).run P w=.ok r w/\VRel w M av r/\K av:=by
 unfold tU at h
 split at h
 ·rename_i off n b l hf hb
  have hag:ti.agg=true:=by
   exact Sw
  obtain⟨fs,hu,hmap,hfs⟩:=ht.st hag;obtain⟨g,j,hg,ho,hj,hn⟩:=Fz _ _ hmap _ _ hf;obtain⟨g',hg',hag'⟩:=ht.fa fs hu f b hb;rw[hg]at hg'
  cases hg'
  simp only[rS]at hg;simp only at ho hn
  cases hx with
  | agg l xs hs hl =>
    cases b with
    | true =>
      obtain⟨gs,hgs⟩:=hag';obtain⟨hle,hK⟩:=h;refine⟨.agg (xs.extract off (off+n)),_,?_,.agg _ _ ?_ ?_,hK⟩
      ·simp[Instr.field,bM hu,hg,asAgg,part,u9 hgs,fm hj,hn,ho]
      ·simp;omega
      ·intro i av hi
       rw[ez]at hi
       split at hi
       ·rename_i hlt
        rw[eR]at hi;have:=hl _ _ hi
        have e:(xs.extract off (off+n)).getD i undef=xs.getD (off+i) undef:=by
         simp only[aT];rw[Array.getElem?_extract,al aa]
        rw[e];exact this
       ·exact absurd hi ab
    | false =>
      obtain⟨d,hd,h1,h2⟩:=hag';simp only[lT,dy]at h
      split at h
      ·rename_i v hv
       have hlt:off<xs.size:=by rw[hs];exact(aw.1 hv).1
       refine⟨xs.getD off undef,v,?_,hl _ _ hv,h⟩;simp[Instr.field,bM hu,hg,asAgg,part,uv hd h1 h2,ho,hlt]
      ·exact dJ
 ·exact h.elim
theorem MK{P:Program}{w:World}(op:BinOp)(T:TypeId)(x y:Operand){a b:Value}(ha:plain a=true):(eqGuard op T x y a b).run P w=.ok () w:=by
 unfold eqGuard
 cases a<;>simp[plain]at ha<;>(repeat' split)<;>simp_all
theorem Qj{E:Env}(hE:EOk E){w:World}{M:Nat->Prop}{op:BinOp}{T:Nat}{x y:Value}{K:AV->Prop}(h:kg (E.isBool T) op x y K) :
 ∃r av,(binOp op T x y).run E.P w=.ok r w/\VRel w M av r/\K av:=by
 unfold kg at h
 have hB:E.isBool T->E.P.underlying T=some .bool:=by
  intro hb;unfold Env.isBool at hb
  split at hb
  ·rename_i ti hti;exact(hE.1 _ _ hti).boo hb
  ·exact hb.elim
 split at h
 all_goals first
  |exact h.elim
  |(obtain⟨rfl,h⟩:=h;refine⟨_,_,?_,.v _ rfl,h⟩;simp[binOp,Op.intArith,Op.intBits,Op.intCmp,bits];done)
  |(obtain⟨rfl,h⟩:=h;refine⟨_,_,?_,.v _ rfl,h⟩;simp[binOp,Op.intCmp];rfl)
  |(obtain⟨rfl,h0,h⟩:=h;refine⟨_,_,?_,.v _ rfl,h⟩;simp[binOp,Op.intDiv,h0];done)
  |(obtain⟨h0,h1,h⟩:=h;refine⟨_,_,?_,.v _ rfl,h⟩;simp only[binOp];rw[shift_shl _ _ _ _ h0 h1];rfl)
  |(obtain⟨h0,h1,h⟩:=h;refine⟨_,_,?_,.v _ rfl,h⟩;simp only[binOp];rw[shift_shr _ _ _ _ h0 h1];rfl)
  |(obtain⟨hb,h⟩:=h;refine⟨_,_,?_,.v _ rfl,h⟩;exact run_eql_bool _ _ _ _ (hB hb))
  |(obtain⟨hb,h⟩:=h;refine⟨_,_,?_,.v _ rfl,h⟩;exact run_neq_bool _ _ _ _ (hB hb))
  |(refine⟨_,_,?_,.v _ rfl,h⟩;simp[binOp,Op.stringOp];done)
  | (rename_i a b; obtain ⟨hs, h⟩ := h; refine ⟨_, _, ?_, .v _ rfl, h⟩
     simp[binOp,Op.stringOp];omega)
theorem Aj{w0:World}{base:Bs}{st:ASt}{a:Act}{w:World}(hR:Rep w0 base st a w)(l:List Operand)(xs:Array Value)(hx:xs=(l.map a.eval).toArray) :
 ∀i av,(l.map st.ev)[i]? = some av->VRel w st.h.M av (xs.getD i undef):=by
 intro i av hi;subst hx;simp only[bP,a7]at hi;obtain⟨x,hx,rfl⟩:=hi;have:(l.map a.eval).toArray.getD i undef=a.eval x:=by simp[hx]
 rw[this];exact VRel.ev hR x
theorem xi{w:World}{M:Nat->Prop}{av:AV}{u:Value}(h:VRel w M av u)(h1:av.cells.all AV.one=true) :
 u.cells.size=av.cells.length/\∀(j:Nat) (a:AV),av.cells[j]? = some a->VRel w M a (u.cells.getD j undef):=by
 cases h with
 |agg l xs hs hl=>exact⟨hs,hl⟩
 |any x=>simp[AV.cells,AV.one]at h1
 |un=>simp[AV.cells,AV.one]at h1
 |is u=>simp[AV.cells,AV.one]at h1
 |tup l xs hs hl=>simp[AV.cells,AV.one]at h1
 |nil=>exact⟨rfl,λj a hj=>by rcases j with _|j<;>simp[AV.cells]at hj;subst hj;exact .nil⟩
 | v u hp =>
   have e:u.cells = #[u]:=by cases u<;>simp[plain]at hp<;>rfl
   rw[e];exact⟨rfl,λj a hj=>by rcases j with _|j<;>simp[AV.cells]at hj;subst hj;exact .v _ hp⟩
 | ro rows x hr =>
   have e:u.cells = #[u]:=by cases hr<;>rfl
   rw[e];exact⟨rfl,λj a hj=>by rcases j with _|j<;>simp[AV.cells]at hj;subst hj;exact .ro _ _ hr⟩
 | sl k H sz off len x hx =>
   have e:u.cells = #[u]:=by
    exact TS
   rw[e];exact⟨rfl,λj a hj=>by rcases j with _|j<;>simp[AV.cells]at hj;subst hj;exact .sl _ _ _ _ _ _ hx⟩
 | cv u len h =>
   have e:u.cells = #[u]:=by obtain⟨a,c,rfl⟩:=h;rfl
   rw[e];exact⟨rfl,λj a hj=>by rcases j with _|j<;>simp[AV.cells]at hj;subst hj;exact .cv _ _ h⟩
 | ml k H sz len x h =>
   have e:u.cells = #[u]:=by obtain⟨a,c,rfl⟩:=h.slice;rfl
   rw[e];exact⟨rfl,λj a hj=>by rcases j with _|j<;>simp[AV.cells]at hj;subst hj;exact .ml _ _ _ _ _ h⟩
 |p k b c=>exact⟨rfl,λj a hj=>by rcases j with _|j<;>simp[AV.cells]at hj;subst hj;exact .p _ _ _⟩
 |e k b o C sz r c=>exact⟨rfl,λj a hj=>by rcases j with _|j<;>simp[AV.cells]at hj;subst hj;exact .e _ _ _ _ _ _ _⟩
 |rp row b o cs T fr hM hb hfit hr=>exact⟨rfl,λj a hj=>by rcases j with _|j<;>simp[AV.cells]at hj;subst hj;exact .rp _ _ _ _ _ _ hM hb hfit hr⟩
 |clo f l xs hs hl=>exact⟨rfl,λj a hj=>by rcases j with _|j<;>simp[AV.cells]at hj;subst hj;exact .clo _ _ _ hs hl⟩
theorem MX{w:World}{M:Nat->Prop}{av:AV}{u:Value}(h:VRel w M av u)(h1:av.one=true):u.oneCell'=true:=by
 cases h with
 |any x=>simp[AV.one]at h1
 |un=>simp[AV.one]at h1
 |is=>simp[AV.one]at h1
 |tup=>simp[AV.one]at h1
 |agg=>simp[AV.one]at h1
 |v u hp=>exact IE hp
 |ro rows x hr=>cases hr<;>rfl
 |cv u len h=>obtain⟨a,c,rfl⟩:=h;rfl
 |ml k H sz len x h=>obtain⟨a,c,rfl⟩:=h.slice;rfl
 | sl k H sz off len x hx =>
   exact TS
 |_=>rfl
theorem oM{α:Type}:∀(l:List α) (c:Nat) (vs:List α),c+vs.length<=l.length->(jX l c vs).length=l.length
 |l,_,[],_=>by cases l<;>simp[jX]
 | [],_,_::_,h=>iy
 |_::l,0,v::vs,h=>by simp only[jX,bH];rw[oM l 0 vs (by simp at h;omega)]
 |_::l,c+1,v::vs,h=>by simp only[jX,bH];rw[oM l c (v::vs) DA]
theorem vg{α:Type}:∀(l:List α) (c:Nat) (vs:List α),c+vs.length<=l.length->∀j,(jX l c vs)[j]? = if c<=j/\j<c+vs.length then vs[j-c]? else l[j]?
 | l, c, [], _, j => by
   have:¬(c<=j/\j<c+([]:List α).length):=ab;rw[ak this];cases l<;>simp[jX]
 | [],_,_::_,h,_=>iy
 | x :: l, 0, v :: vs, h, j => by
   simp only[jX]
   cases j with
   |zero=>simp
   | succ j =>
     have:=vg l 0 vs (by simp at h;omega) j;simp only[iY,this];simp
 | x :: l, c + 1, v :: vs, h, j => by
   simp only[jX]
   cases j with
   |zero=>simp
   | succ j =>
     have:=vg l c (v::vs) DA j;simp only[iY,this];have e:j+1-(c+1)=j-c:=aa;rw[e];by_cases hh:c<=j/\j<c+(v::vs).length
     ·rw[al hh,al (by simp at hh⊢;omega)]
     ·rw[ak hh,ak (by simp at hh⊢;omega)]
theorem A1(c:Nat):∀(l:List Value) (k:Nat) (cs:Array Value),c+k+l.length<=cs.size ->
 ((l.zipIdx k).foldl (λ(cs:Array Value) (p:Value×Nat)=>cs.setIfInBounds (c+p.2) p.1) cs).size=cs.size /\
 ∀j,((l.zipIdx k).foldl (λ(cs:Array Value) (p:Value×Nat)=>cs.setIfInBounds (c+p.2) p.1) cs).getD j undef=if c+k<=j/\j<c+k+l.length then l.getD (j-(c+k)) undef else cs.getD j undef
 | [], k, cs, _ => by
   refine⟨rfl,λj=>?_⟩;rw[ak ab];rfl
 | x :: l, k, cs, h => by
   simp only[List.zipIdx_cons,o5];obtain⟨h1,h2⟩:=A1 c l (k+1) (cs.setIfInBounds (c+k) x) DA;refine⟨by simpa using h1,λj=>?_⟩;rw[h2 j];by_cases hj:c+(k+1)<=j/\j<c+(k+1)+l.length
   ·rw[al hj,al aI]
    have e:j-(c+k)=(j-(c+(k+1)))+1:=aa;rw[e];rfl
   ·rw[ak hj]
    by_cases he:j=c+k
    ·subst he
     simp at h;rw[al ab];simp;omega
    ·rw[ak aI]
     simp[ack he]
theorem VN(place:Nat->Option (Nat×Nat))(cells:Array Value)(i:Nat)(v:Value)(rest:List (Nat×Value))(off n:Nat)(hp:place i=some (off,n))(hs:v.cells.size=n)(hf:off+n<=cells.size) :
 Instr.fill place cells ((i,v)::rest)=Instr.fill place (v.cells.zipIdx.foldl (λcs (c,j)=>cs.setIfInBounds (off+j) c) cells) rest:=by
 simp[Instr.fill,hp,hs];intro h;omega
theorem sJ(v:Array Value)(off:Nat)(cells:Array Value) :
 v.zipIdx.foldl (λcs (c,j)=>cs.setIfInBounds (off+j) c) cells=(v.toList.zipIdx 0).foldl (λ(cs:Array Value) (p:Value×Nat)=>cs.setIfInBounds (off+p.2) p.1) cells:=by
 rw[<-Array.foldl_toList];simp
theorem FY{w:World}{M:Nat->Prop}(place:Nat->Option (Nat×Nat))(fields:List (Nat×Nat))(hpl:∀i off n,fields[i]? = some (off,n)->place i=some (off,n)){K:List AV->Prop} :
 ∀(parts:List (Nat×AV)) (vparts:List (Nat×Value)) (acells:List AV) (cells:Array Value),vparts.length=parts.length ->
 (∀(i:Nat) (p:Nat×AV),parts[i]? = some p->∃v,vparts[i]? = some (p.1,v)/\VRel w M p.2 v) ->
 cells.size=acells.length->(∀(j:Nat) (a:AV),acells[j]? = some a->VRel w M a (cells.getD j undef))->rb fields acells parts K ->
 ∃l cs,Instr.fill place cells vparts=some cs/\cs.size=l.length/\(∀(j:Nat) (a:AV),l[j]? = some a->VRel w M a (cs.getD j undef))/\K l
 | [], vparts, acells, cells, hl, _, hs, hc, h => by
   have:vparts=[]:=aF sU;subst this;exact⟨acells,cells,rfl,hs,hc,h⟩
 | (i, av) :: rest, vparts, acells, cells, hl, hp, hs, hc, h => by
   cases vparts with
   |nil=>simp at hl
   | cons q vrest =>
     unfold rb at h
     split at h
     ·rename_i off n hf
      obtain⟨hn,hfit,hone,h⟩:=h;obtain⟨v,hv,hr⟩:=hp 0 _ rfl;simp only[List.getElem?_cons_zero,dP]at hv;subst hv;obtain⟨hcs,hcr⟩:=xi hr hone;have hsize:v.cells.size=n:=by rw[hcs,hn]
      obtain⟨g1,g2⟩:=A1 off v.cells.toList 0 cells aI
      have:=FY place fields hpl rest vrest (jX acells off av.cells) (v.cells.zipIdx.foldl (λcs (c,j)=>cs.setIfInBounds (off+j) c) cells) sU
       (λi p hi=>hp (i+1) p eT) ?_ ?_ h
      ·obtain⟨l,cs,h1,h2⟩:=this
       exact⟨l,cs,by rw[VN place cells i v vrest off n (hpl _ _ _ hf) hsize aa];exact h1,h2⟩
      ·rw[sJ,g1,oM _ _ _ aa,hs]
      ·intro j a hj
       rw[vg _ _ _ aa]at hj;rw[sJ,g2 j];by_cases hh:off<=j/\j<off+av.cells.length
       ·rw[al hh]at hj
        rw[al aI];have:=hcr _ _ hj;exact lr
       ·rw[ak hh]at hj
        rw[ak aI];exact hc j a hj
     ·exact dJ
theorem LY{E:Env}(hE:EOk E){w:World}{M:Nat->Prop}{T:Nat}{parts:List (Nat×AV)}{vparts:Array (Nat×Value)}(hl:vparts.toList.length=parts.length)
 (hp:∀(i:Nat) (p:Nat×AV),parts[i]? = some p->∃v,vparts.toList[i]? = some (p.1,v)/\VRel w M p.2 v) {K:AV->Prop}(h:rO E T parts K) :
 ∃r av,(Instr.build T vparts).run E.P w=.ok r w/\VRel w M av r/\K av:=by
 unfold rO at h
 split at h
 ·rename_i ti hti
  obtain⟨hag,h⟩:=h;have ht:=hE.1 _ _ hti;obtain⟨fs,hu,hmap,-⟩:=ht.st hag;obtain⟨i,z,hi,hs,hb,hz,hzc,-⟩:=ht.info
  have hsz:z.cells.size=ti.zero.length:=by
   have:=aK List.length hzc;exact lr
  obtain⟨l,cs,h1,h2,h3,h4⟩:=FY (w:=w) (M:=M) (ti.fields.toArray[·]?) ti.fields ab parts vparts.toList ti.zero z.cells hl hp hsz (λj a hj=>by
   have e:z.cells.getD j undef=zv a:=by
    exact Kj
   rw[e];rcases ht.zok a (aQ hj)with rfl|⟨u,rfl,hp⟩
   ·exact .nil
   ·exact .v _ hp) h
  refine⟨.agg cs,.agg l,run_build w T vparts cs ?_,.agg _ _ h2 h3,h4⟩;unfold Program.built;simp only[hi,hu,hz,hmap];exact h1
 ·exact h.elim
theorem gu{α:Type}(rows:List α)(off len:Nat):cut rows off len=(rows.drop off).take len:=by
 unfold cut
 split
 ·rename_i h
  obtain⟨rfl,rfl⟩:=h;simp
 ·rfl
theorem pO{α:Type}(rows:List α)(off len i:Nat):(cut rows off len)[i]? = if i<len then rows[off+i]? else none:=by
 rw[gu,ez]
 split
 ·rw[eR]
 ·rfl
theorem kZ{α:Type}(rows:List α)(off len:Nat)(h:off+len<=rows.length):(cut rows off len).length=len:=by
 rw[gu,gk,gl];omega
theorem Rd.cut{w:World}{S:Nat->Prop}{b off cap:Nat}{n:Nat}{rows:List (List CD)}{u:Value}{l h sz:Nat}(hu:u=.slice (some ⟨b,off,none⟩) n cap)(hr:Rd w false S u (.s rows))(hlh:l<=h)(hh:h<=rows.length)
 (hrl:∀row∈rows,row.length=sz) (a:Option Addr) (ha:h-l≠0->a=some ⟨b,off+l*sz,none⟩):Rd w false S (.slice a (h-l) (cap-l)) (.s (cut rows l (h-l))):=by
 by_cases hz:h-l=0
 ·rw[hz]
  have:AM.cut rows l 0=[]:=aF (kZ _ _ _ aa);rw[this];exact .empty _ _ fI
 ·have ha:=ha hz
  cases hr with
  |empty a' c=>simp at hh;omega
  | slice b' off' cap' sz' cs T fr rows F hcap hmax hsz hS hb hfit hown hF hd hlen hr =>
    cases hu
    subst ha;have hrow:=hlen _ (ao (show l<rows.length from aa));have hrow':=hrl _ (ao (show l<rows.length from aa));have e:sz'=sz:=aa;subst e;have hcl:(AM.cut rows l (h-l)).length=h-l:=kZ _ _ _ aa
    have:=Rd.slice (w:=w) (x:=false) (S:=S) b (off+l*sz') (cap-l) sz' cs T fr (AM.cut rows l (h-l)) (λi j c=>F (l+i) j c) aa aa hsz hS hb ?_ fI
     (λi j c hc=>⟨(hF _ _ _ hc).1,fI⟩) fI ?_ ?_
    ·rw[hcl]at this;exact this
    ·have:=az sz' (show l+(h-l)<=rows.length from aa)
     rw[ff]at this;rw[hcl];omega
    ·intro row hm
     obtain⟨i,hi⟩:=fp hm;rw[pO]at hi
     split at hi
     ·exact hlen _ (aQ hi)
     ·simp at hi
    ·intro i j row d hi hj
     rw[pO]at hi
     split at hi
     ·have:=hr (l+i) j row d hi hj
      have e:off+l*sz'+(i*sz'+j)=off+((l+i)*sz'+j):=Dz;rw[e];exact this
     ·simp at hi
end Go.AM
