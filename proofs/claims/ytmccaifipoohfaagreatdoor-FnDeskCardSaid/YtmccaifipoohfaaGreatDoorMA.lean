import Derived.WalkKit
import Derived.Laws.CopyRow
import Derived.BigCall
import Derived.Deep.LoopGhost
import Derived.Deep.Slices
import Derived.HandedShaped
import Derived.IntWalk
import Derived.JoinedOf
import Derived.LaidMore
import Derived.Laws.Externs
import Derived.Laws.IdiomCopy
import Derived.Lay
import Derived.Lib.AppendIntMem
import Derived.Lib.AppendZerosOnto
import Derived.Lib.AtoiAllCases
import Derived.Lib.AtoiErrMem
import Derived.Lib.ConvBytes
import Derived.Lib.Hide
import Derived.Lib.ItoaNum
import Derived.Lib.Join
import Derived.Lib.LaidTab
import Derived.Lib.Overlaps
import Derived.Lib.SplitLaws
import Derived.MakeChecks
import Derived.Orders
import Derived.ProofKit
import Derived.SevenTiedAt
import Derived.Shelf.RegionOpenPlain
import Derived.Shelf.Strconv.AtoiAll
import Derived.Shelf.Strconv.Itoa3
import Derived.Shelf.Strings.OnBuilder
import Derived.Shelf.Strings.Replace
import Derived.Shelf.Strings.Split
import Derived.Shelf.Vars
import Derived.Stop.LaidErr
import GoSem.ClaimGoes
import Derived.Calls
import Derived.Control
import Derived.Laws.Append
import Derived.Laws.AppendOwn
import Derived.Laws.Entries
import Derived.Laws.Sem
import Derived.Laws.Strings
import Derived.Laws.Tables
theorem ai:type_of% @if_pos:=@if_pos
theorem aj:type_of% @if_neg:=@if_neg
theorem ak:type_of% @List.getElem_mem:=@List.getElem_mem
theorem al:type_of% @Go.IntWalk.i64_in:=@Go.IntWalk.i64_in
theorem ao:type_of% @Nat.le_of_ble_eq_true:=@Nat.le_of_ble_eq_true
theorem aw:type_of% @Nat.le_refl:=@Nat.le_refl
theorem az:type_of% @List.getElem?_eq_some_iff:=@List.getElem?_eq_some_iff
theorem aA:type_of% @Nat.mul_le_mul_right:=@Nat.mul_le_mul_right
theorem aB:type_of% @List.getElem?_eq_getElem:=@List.getElem?_eq_getElem
theorem aC:type_of% @List.take_of_length_le:=@List.take_of_length_le
theorem aD:type_of% @List.mem_cons_of_mem:=@List.mem_cons_of_mem
theorem aG:type_of% @List.mem_append:=@List.mem_append
theorem aL:type_of% @List.eq_nil_of_length_eq_zero:=@List.eq_nil_of_length_eq_zero
theorem aM:type_of% @Bool.and_eq_true:=@Bool.and_eq_true
theorem aN:type_of% @List.mem_cons_self:=@List.mem_cons_self
theorem aO:type_of% @congrArg:=@congrArg
theorem aQ:type_of% @List.mem_cons:=@List.mem_cons
theorem aR:type_of% @Classical.byContradiction:=@Classical.byContradiction
theorem aT:type_of% @Array.getD_eq_getD_getElem?:=@Array.getD_eq_getD_getElem?
theorem a8:type_of% @List.mem_of_getElem?:=@List.mem_of_getElem?
theorem bf:type_of% @List.append_assoc:=@List.append_assoc
theorem bg:type_of% @List.append_nil:=@List.append_nil
theorem bj:type_of% @List.drop_eq_getElem_cons:=@List.drop_eq_getElem_cons
theorem bn:type_of% @Option.map_eq_some_iff:=@Option.map_eq_some_iff
theorem bo:type_of% @List.replicate_succ:=@List.replicate_succ
theorem bp:type_of% @Int.toNat_natCast:=@Int.toNat_natCast
theorem br:type_of% @List.getElem?_append_right:=@List.getElem?_append_right
theorem bu:type_of% @List.length_cons:=@List.length_cons
theorem bC:type_of% @List.getElem_of_mem:=@List.getElem_of_mem
theorem bI:type_of% @List.mem_of_mem_drop:=@List.mem_of_mem_drop
theorem bJ:type_of% @List.getD_eq_getElem?_getD:=@List.getD_eq_getElem?_getD
theorem bK:type_of% @List.drop_eq_nil_of_le:=@List.drop_eq_nil_of_le
theorem bR:type_of% @List.map_cons:=@List.map_cons
theorem bT:type_of% @List.mem_of_mem_take:=@List.mem_of_mem_take
theorem bU:type_of% @List.cons_append:=@List.cons_append
theorem bX:type_of% @List.getElem?_map:=@List.getElem?_map
theorem bZ:type_of% @Go.run_underlying:=@Go.run_underlying
theorem ca:type_of% @List.length_pos_iff:=@List.length_pos_iff
theorem cj:type_of% @List.getElem?_append_left:=@List.getElem?_append_left
theorem cG:type_of% @Nat.le_trans:=@Nat.le_trans
theorem cH:type_of% @List.mem_map:=@List.mem_map
theorem cP:type_of% @List.length_append:=@List.length_append
theorem cR:type_of% @Option.some.injEq:=@Option.some.injEq
theorem da:type_of% @decide_eq_true_eq:=@decide_eq_true_eq
theorem di:type_of% @Nat.succ_mul:=@Nat.succ_mul
theorem dB:type_of% @List.mem_or_eq_of_mem_set:=@List.mem_or_eq_of_mem_set
theorem dF:type_of% @if_true:=@if_true
theorem dG:type_of% @Bool.not_eq_true':=@Bool.not_eq_true'
theorem dH:type_of% @List.take_length:=@List.take_length
theorem dI:type_of% @List.all_eq_true:=@List.all_eq_true
theorem dL:type_of% @List.mem_filter:=@List.mem_filter
theorem dM:type_of% @List.take_append_getElem:=@List.take_append_getElem
theorem dO:type_of% @if_false:=@if_false
theorem dU:type_of% @Nat.lt_of_lt_of_le:=@Nat.lt_of_lt_of_le
theorem dV:type_of% @List.getElem?_drop:=@List.getElem?_drop
theorem eb:type_of% @List.drop_zero:=@List.drop_zero
theorem eC:type_of% @Nat.zero_add:=@Nat.zero_add
theorem eM:type_of% @Option.map_some:=@Option.map_some
theorem eN:type_of% @List.length_nil:=@List.length_nil
theorem eO:type_of% @List.length_drop:=@List.length_drop
theorem eT:type_of% @Go.Result.andThen_ok:=@Go.Result.andThen_ok
theorem eU:type_of% @List.mem_singleton:=@List.mem_singleton
theorem eV:type_of% @List.getElem?_take:=@List.getElem?_take
theorem fe:type_of% @Nat.zero_le:=@Nat.zero_le
theorem fh:type_of% @Nat.le_mul_of_pos_right:=@Nat.le_mul_of_pos_right
theorem fi:type_of% @Array.getElem?_append_left:=@Array.getElem?_append_left
theorem fm:type_of% @List.map_take:=@List.map_take
theorem fu:type_of% @List.pairwise_cons:=@List.pairwise_cons
theorem fA:type_of% @List.length_map:=@List.length_map
theorem fG:type_of% @Nat.add_mul:=@Nat.add_mul
theorem gb:type_of% @List.nil_append:=@List.nil_append
theorem gh:type_of% @List.length_take:=@List.length_take
theorem gn:type_of% @List.map_congr_left:=@List.map_congr_left
theorem gD:type_of% @List.take_append_drop:=@List.take_append_drop
theorem hQ:type_of% @Go.grownCap_le_maxLen:=@Go.grownCap_le_maxLen
theorem ij:type_of% @Go.setRow_heap:=@Go.setRow_heap
theorem iw:type_of% @List.take_succ_eq_append_getElem:=@List.take_succ_eq_append_getElem
theorem ix:type_of% @List.mem_range:=@List.mem_range
theorem iH:type_of% @UInt8.toNat_inj:=@UInt8.toNat_inj
theorem iI:type_of% @Go.Sem.run_bind:=@Go.Sem.run_bind
theorem iJ:type_of% @List.map_append:=@List.map_append
theorem iK:type_of% @Bool.or_eq_true:=@Bool.or_eq_true
theorem iY:type_of% @Nat.add_sub_cancel:=@Nat.add_sub_cancel
theorem iZ:type_of% @List.mem_filterMap:=@List.mem_filterMap
theorem jb:type_of% @List.map_nil:=@List.map_nil
theorem jn:type_of% @List.getElem?_of_mem:=@List.getElem?_of_mem
theorem jo:type_of% @Go.Sem.run_pure:=@Go.Sem.run_pure
theorem jq:type_of% @Go.Addr.add_lit:=@Go.Addr.add_lit
theorem jy:type_of% @Option.some.inj:=@Option.some.inj
theorem jJ:type_of% @List.take_succ_cons:=@List.take_succ_cons
theorem jT:type_of% @List.drop_of_length_le:=@List.drop_of_length_le
theorem jW:type_of% @Nat.add_assoc:=@Nat.add_assoc
theorem j7:type_of% @List.not_mem_nil:=@List.not_mem_nil
theorem kn:type_of% @Go.setRow_other:=@Go.setRow_other
theorem kr:type_of% @Go.Lib.join_one:=@Go.Lib.join_one
theorem kt:type_of% @beq_iff_eq:=@beq_iff_eq
theorem ku:type_of% @List.length_singleton:=@List.length_singleton
theorem kV:type_of% @Go.wp_mono:=@Go.wp_mono
theorem mb:type_of% @List.drop_succ_cons:=@List.drop_succ_cons
theorem mc:type_of% @List.ext_getElem:=@List.ext_getElem
theorem mH:type_of% @Nat.sub_zero:=@Nat.sub_zero
theorem mI:type_of% @List.getElem_cons_zero:=@List.getElem_cons_zero
theorem mJ:type_of% @Bool.false_eq_true:=@Bool.false_eq_true
theorem nd:type_of% @Go.calls_of_wp:=@Go.calls_of_wp
theorem nf:type_of% @List.foldl_cons:=@List.foldl_cons
theorem nK:type_of% @List.getElem?_toArray:=@List.getElem?_toArray
theorem nM:type_of% @ByteArray.size_append:=@ByteArray.size_append
theorem ou:type_of% @List.getElem?_modify:=@List.getElem?_modify
theorem oz:type_of% @Array.getElem?_eq_some_iff:=@Array.getElem?_eq_some_iff
theorem oE:type_of% @Option.getD_some:=@Option.getD_some
theorem oF:type_of% @Nat.add_zero:=@Nat.add_zero
theorem oG:type_of% @List.getElem_map:=@List.getElem_map
theorem o6:type_of% @Go.grownCap_ge:=@Go.grownCap_ge
theorem pz:type_of% @List.getElem_set_ne:=@List.getElem_set_ne
theorem pR:type_of% @Option.isSome_iff_exists:=@Option.isSome_iff_exists
theorem pS:type_of% @List.getElem_append_left:=@List.getElem_append_left
theorem p8:type_of% @Nat.min_eq_left:=@Nat.min_eq_left
theorem qf:type_of% @List.set_cons_zero:=@List.set_cons_zero
theorem qO:type_of% @List.getElem?_cons_succ:=@List.getElem?_cons_succ
theorem rH:type_of% @Nat.eq_zero_of_not_pos:=@Nat.eq_zero_of_not_pos
theorem rI:type_of% @List.length_pos_of_mem:=@List.length_pos_of_mem
theorem rJ:type_of% @List.getElem_cons_succ:=@List.getElem_cons_succ
theorem rK:type_of% @List.find?_cons_of_neg:=@List.find?_cons_of_neg
theorem s6:type_of% @Go.growslice_fits:=@Go.growslice_fits
theorem s7:type_of% @List.getElem?_eq_none:=@List.getElem?_eq_none
theorem s8:type_of% @List.contains_iff_mem:=@List.contains_iff_mem
theorem s9:type_of% @Array.getElem?_toList:=@Array.getElem?_toList
theorem tc:type_of% @List.getElem_set:=@List.getElem_set
theorem td:type_of% @Array.eq_empty_of_size_eq_zero:=@Array.eq_empty_of_size_eq_zero
theorem tW:type_of% @List.take_append_of_le_length:=@List.take_append_of_le_length
theorem tX:type_of% @List.map_id:=@List.map_id
theorem tY:type_of% @List.drop_append_of_le_length:=@List.drop_append_of_le_length
theorem ub:type_of% @Int.le_refl:=@Int.le_refl
theorem vF:type_of% @List.mem_map_of_mem:=@List.mem_map_of_mem
theorem vG:type_of% @Nat.sub_self:=@Nat.sub_self
theorem yk:type_of% @Go.run_firstCells_some:=@Go.run_firstCells_some
theorem ym:type_of% @Nat.eq_zero_or_pos:=@Nat.eq_zero_or_pos
theorem yn:type_of% @List.set_cons_succ:=@List.set_cons_succ
theorem yo:type_of% @List.drop_drop:=@List.drop_drop
theorem yp:type_of% @Int.tmod_eq_emod_of_nonneg:=@Int.tmod_eq_emod_of_nonneg
theorem yq:type_of% @Int.tdiv_eq_ediv_of_nonneg:=@Int.tdiv_eq_ediv_of_nonneg
theorem yr:type_of% @Array.all_eq_true':=@Array.all_eq_true'
theorem yV:type_of% @List.pairwise_iff_getElem:=@List.pairwise_iff_getElem
theorem yW:type_of% @Array.getElem?_eq_getElem:=@Array.getElem?_eq_getElem
theorem zz:type_of% @List.getElem?_set:=@List.getElem?_set
theorem zA:type_of% @Function.comp_def:=@Function.comp_def
theorem zB:type_of% @List.map_drop:=@List.map_drop
theorem Cs:type_of% @Go.Lib.join_cons:=@Go.Lib.join_cons
theorem Du:type_of% @Nat.mod_lt:=@Nat.mod_lt
theorem Dv:type_of% @Nat.lt_or_ge:=@Nat.lt_or_ge
theorem Dw:type_of% @Nat.add_comm:=@Nat.add_comm
theorem Dx:type_of% @List.map_set:=@List.map_set
theorem Dy:type_of% @List.map_map:=@List.map_map
theorem DR:type_of% @List.drop_left':=@List.drop_left'
theorem DS:type_of% @List.cons.injEq:=@List.cons.injEq
theorem Fq:type_of% @Nat.div_lt_iff_lt_mul:=@Nat.div_lt_iff_lt_mul
theorem Fs:type_of% @List.set_getElem_self:=@List.set_getElem_self
theorem Ft:type_of% @List.set_append_right:=@List.set_append_right
theorem Fu:type_of% @List.getElem_set_self:=@List.getElem_set_self
theorem Im:type_of% @List.length_filter_lt_length_iff_exists:=@List.length_filter_lt_length_iff_exists
theorem Io:type_of% @Go.Lib.join_nil:=@Go.Lib.join_nil
theorem Ip:type_of% @Go.run_append_grow:=@Go.run_append_grow
theorem Iq:type_of% @List.mem_of_getLast?:=@List.mem_of_getLast?
theorem KQ:type_of% @Nat.mul_le_mul_left:=@Nat.mul_le_mul_left
theorem NP:type_of% @List.map_singleton:=@List.map_singleton
theorem NQ:type_of% @Go.Lib.hid:=@Go.Lib.hid
theorem NS:type_of% @Array.any_eq_true':=@Array.any_eq_true'
theorem Qi:type_of% @List.findIdx?_eq_some_iff_getElem:=@List.findIdx?_eq_some_iff_getElem
theorem Qj:type_of% @Go.ByteArray.toList_eq:=@Go.ByteArray.toList_eq
theorem Qk:type_of% @dif_neg:=@dif_neg
theorem Ql:type_of% @Nat.mul_comm:=@Nat.mul_comm
theorem Qm:type_of% @List.pairwise_map:=@List.pairwise_map
theorem Qn:type_of% @List.flatten_cons:=@List.flatten_cons
theorem X9:type_of% @forall_eq_or_imp:=@forall_eq_or_imp
theorem Ya:type_of% @Option.bind_some:=@Option.bind_some
theorem Yb:type_of% @Option.bind_none:=@Option.bind_none
theorem Yc:type_of% @Nat.le_of_not_lt:=@Nat.le_of_not_lt
theorem Yd:type_of% @List.filter_cons:=@List.filter_cons
theorem Ye:type_of% @List.any_eq_true:=@List.any_eq_true
theorem aab:type_of% @Go.run_storeCells_at:=@Go.run_storeCells_at
theorem aac:type_of% @Nat.sub_mul:=@Nat.sub_mul
theorem aad:type_of% @Nat.div_add_mod:=@Nat.div_add_mod
theorem aae:type_of% @List.nodup_cons:=@List.nodup_cons
theorem aaf:type_of% @List.foldr_cons:=@List.foldr_cons
theorem aag:type_of% @Array.getElem?_setIfInBounds:=@Array.getElem?_setIfInBounds
theorem adg:type_of% @Ne.symm:=@Ne.symm
theorem adh:type_of% @Array.getElem?_append_right:=@Array.getElem?_append_right
theorem adi:type_of% @List.take_zero:=@List.take_zero
theorem adj:type_of% @List.mapM_cons:=@List.mapM_cons
theorem afd:type_of% @List.mem_of_find?_eq_some:=@List.mem_of_find?_eq_some
theorem afe:type_of% @List.getElem_append_right:=@List.getElem_append_right
theorem aff:type_of% @List.findIdx?_eq_none_iff:=@List.findIdx?_eq_none_iff
theorem afg:type_of% @Go.Lib.run_convert_string_bytes:=@Go.Lib.run_convert_string_bytes
theorem afh:type_of% @Array.mapM_eq_mapM_toList:=@Array.mapM_eq_mapM_toList
theorem aiT:type_of% @Nat.le_of_lt:=@Nat.le_of_lt
theorem aiU:type_of% @Go.Lib.run_append_grow_zeros:=@Go.Lib.run_append_grow_zeros
theorem Xe{p:Prop}(h:p:=by
 refine ae.pure (Mr d hl' base o ho) (by simp[Doc.row]) ?_;have hvn:=B8 d base o;generalize gw d base o=R at e hvn⊢;obtain⟨v,code⟩:=R;simp only at e hvn⊢;simp;intro H1;by_cases c7:code=0
 rotate_left
 ·simp only[c7,if_false]at e
  simp[c7,e,Doc.res,Doc.zero]
 simp only[c7,if_true]at e;simp[c7];refine ae.pure (dn d) (by simp[Doc.row]) ?_;by_cases c8:999999000<=ar d
 ·simp only[c8,if_true]at e
  simp[c8,e,Doc.res,Doc.zero]
 simp only[c8,if_false]at e;simp[c8];refine ae.pure (xQ d hl') (by simp[Doc.row]) ?_;simp[Doc.res];intro H2 H3 H4 b17 b87;refine⟨by omega,λH5=>?_⟩;refine ae.pure (dn ⟨d.name,d.fr,d.text,d.list++[⟨client,seq,v⟩],d.seen⟩) (by simp[Doc.row,Entry.row]) ?_
 have hr:ar ⟨d.name,d.fr,d.text,d.list++[⟨client,seq,v⟩],d.seen⟩=ar d+1:=by
  unfold ar;simp only[List.length_append,List.length_cons,List.length_nil];have h1:=hh.1;unfold ar at h1;rw[h1,Go.IntWalk.i64_in _ (by omega)];omega
 have hrr:=hr;rw[hrr];simp;intro b93;obtain⟨sp,hspd⟩:∃sp:Nat->List Seen×Bool,sp=λi=>yC client seq (ar d+1) (d.seen.take i):=⟨_,rfl⟩
 have hs0:sp 0=([],false):=by rw[hspd];simp[yC]
 have hsuc:∀i,∀h:i<d.seen.length,sp (i+1)=lS client seq (ar d+1) (sp i) d.seen[i]:=λi h=>by rw[hspd];exact Js h
 have hspl:∀i,i<=d.seen.length->(sp i).1.length<=2*i:=λi h=>by rw[hspd];exact hsl i h
 have hall:CK client seq (ar d+1) (sp d.seen.length)=dR client seq (ar d+1) d.seen:=by rw[hspd];simp only[List.take_length];exact hasc
 clear hspd
 refine aF eok (λx:Nat×Hd=>x.1<=d.seen.length) (λx=>⟨162,0,[(97,.v (.int .i64 x.1)),(96,.v (.int .i64 d.seen.length)),(95,.sl 1300 H4 3 0 d.seen.length),(20,.v (.bool (sp x.1).2)),(19,.sl 1488 x.2 3 0 (sp x.1).1.length),(1,.v (.int .i64 client)),(2,.v (.int .i64 seq)),(18,.v (.int .i64 (ar d+1))),(17,.p 272 b17 0),(10,.p 160 b10 0)],
  [(272, .vars b17 33 [.v (.string d.name), .v (.int .i64 d.fr), .sl 1298 H2 1 0 d.text.length, .sl 1299 H5 3 0 (d.list.length+1), .sl 1300 H4 3 0 d.seen.length]),
   (160,.vars b10 33 [.v (.string ⟨#[]⟩),.v (.int .i64 0),.nil,.nil,.nil]),
   (1298,.rows H2 1 (d.text.map aX) true),(1299,.rows H5 3 ((d.list++([⟨client,seq,v⟩]:List Entry)).map Entry.row) true),(1300,.rows H4 3 (d.seen.map Seen.row) true),(1488,.rows x.2 3 ((sp x.1).1.map Seen.row) true)]⟩) (λx=>d.seen.length-x.1) (0,some (b93,0,0)) (by simp) (by simp[Entry.row,hs0]) (λx hi=>Ent.refl ?_)
 obtain⟨i,H⟩:=x;simp only at hi⊢;have hLl:=hspl i hi;by_cases hlt:i<d.seen.length
 ·have hsu:=hsuc i hlt
  generalize sp i=st at hLl hsu⊢;obtain⟨L,done⟩:=st;simp only at hLl⊢;obtain⟨x,hx⟩:∃x,d.seen[i]=x:=⟨_,rfl⟩;rw[hx]at hsu;simp[hlt,hx,Seen.row];intro b22;unfold lS at hsu;by_cases k1:x.client=client
  ·simp only[k1,if_true]at hsu
   simp[k1];exact Ent.refl ⟨i+1,by omega,by omega,H,by simp[Entry.row,hsu];exact bL (by omega)⟩
  simp only[k1,if_false]at hsu;simp[k1];by_cases k2:done=false/\client<x.client
  ·obtain⟨rfl,k2⟩:=k2
   simp only[k2,and_self,if_true]at hsu;simp[k2];intro b118;refine⟨by omega,λH6 b122=>⟨by omega,λH7=>Ent.refl ⟨i+1,by omega,by omega,H7,?_⟩⟩⟩;simp[Seen.row,Entry.row,hsu];exact bL (by omega)
  ·simp only[k2,if_false]at hsu
   have k3:done=true\/done=false/\¬client<x.client:=by
    cases done with
    |true=>exact .inl rfl
    |false=>exact .inr ⟨rfl,λh=>k2 ⟨rfl,h⟩⟩
   rcases k3 with rfl|⟨rfl,k3⟩
   ·simp
    intro b122;refine⟨by omega,λH7=>Ent.refl ⟨i+1,by omega,by omega,H7,?_⟩⟩;simp[Seen.row,Entry.row,hsu];exact bL (by omega)
   ·simp[k3]
    intro b122;refine⟨by omega,λH7=>Ent.refl ⟨i+1,by omega,by omega,H7,?_⟩⟩;simp[Seen.row,Entry.row,hsu];exact bL (by omega)
 ·obtain rfl:i=d.seen.length:=by omega
  generalize sp d.seen.length=st at hLl hall⊢;obtain⟨L,done⟩:=st;simp only at hLl⊢;unfold CK at hall
  cases done with
  | true =>
    simp only[if_true]at hall;simp;by_cases c9:d.list.length<8
    ·have c9':¬8<(d.list.length:Int)+1:=by omega
     simp[c9',e,bW,c9,<-hall,Entry.row,Seen.row];exact lg
    ·have hpd:bW d ⟨client,seq,v⟩=⟨d.name,d.fr+1,(apply ((d.list++([⟨client,seq,v⟩]:List Entry))[0]'(by simp)).o d.text).1,(d.list++([⟨client,seq,v⟩]:List Entry)).drop 1,dR client seq (ar d+1) d.seen⟩:=by unfold bW;rw[if_neg c9]
     obtain⟨e0,l',hd⟩:∃e0 l',d.list=e0::l':=by
      cases h:d.list with
      |nil=>rw[h]at c9;simp at c9
      |cons a l=>exact⟨a,l,rfl⟩
     have hm0:nL aY e0.o<=2^40:=by
      have:=iG n1 (a:=e0) (by rw[hd];simp);unfold cN at this;omega
     have hll:d.list.length=l'.length+1:=by rw[hd];simp
     have c9':8<(l'.length:Int)+1+1:=by omega
     have c90:0<(l'.length:Int)+1+1:=by omega
     have ef:Go.IntKind.i64.wrap (d.fr+1)=d.fr+1:=Go.IntWalk.i64_in _ (by omega);have hpd2:bW d ⟨client,seq,v⟩=⟨d.name,d.fr+1,(apply e0.o d.text).1,l'++([⟨client,seq,v⟩]:List Entry),dR client seq (ar d+1) d.seen⟩:=by rw[hpd];simp[hd]
     simp[c9',hd,Entry.row];refine drw eok mix [0,1,2,3,4,5,6,11] [7,8,9,10,12] (.c 8 7 10 245 (.c 8 8 0 245 (.c 8 9 0 245 (.c 8 10 0 245 (.c 8 12 245 0 (.l 8 0) .s) .s) .s) .s) .s) ?_;simp[c90]
     try intros
     refine ae.pure (lR e0.o d.text hm0 (by omega)) (by simp) ?_;simp
     try intros
     simp[ef];have hlen1:1+(l'.length+1)<=l'.length+1+1:=by omega
     simp[e,hpd2,<-hall,Entry.row,cut,hlen1];exact⟨lg,(List.take_of_length_le (by simp)).symm⟩
  | false =>
    simp only[Bool.false_eq_true,if_false]at hall;simp;intro b132;refine⟨by omega,λH6=>?_⟩;by_cases c9:d.list.length<8
    ·have c9':¬8<(d.list.length:Int)+1:=by omega
     simp[c9',e,bW,c9,<-hall,Entry.row,Seen.row];exact⟨lg,Gf⟩
    ·have hpd:bW d ⟨client,seq,v⟩=⟨d.name,d.fr+1,(apply ((d.list++([⟨client,seq,v⟩]:List Entry))[0]'(by simp)).o d.text).1,(d.list++([⟨client,seq,v⟩]:List Entry)).drop 1,dR client seq (ar d+1) d.seen⟩:=by unfold bW;rw[if_neg c9]
     obtain⟨e0,l',hd⟩:∃e0 l',d.list=e0::l':=by
      cases h:d.list with
      |nil=>rw[h]at c9;simp at c9
      |cons a l=>exact⟨a,l,rfl⟩
     have hm0:nL aY e0.o<=2^40:=by
      have:=iG n1 (a:=e0) (by rw[hd];simp);unfold cN at this;omega
     have hll:d.list.length=l'.length+1:=by rw[hd];simp
     have c9':8<(l'.length:Int)+1+1:=by omega
     have c90:0<(l'.length:Int)+1+1:=by omega
     have ef:Go.IntKind.i64.wrap (d.fr+1)=d.fr+1:=Go.IntWalk.i64_in _ (by omega);have hpd2:bW d ⟨client,seq,v⟩=⟨d.name,d.fr+1,(apply e0.o d.text).1,l'++([⟨client,seq,v⟩]:List Entry),dR client seq (ar d+1) d.seen⟩:=by rw[hpd];simp[hd]
     simp[c9',hd,Entry.row];refine drw eok mix [0,1,2,3,4,5,6,11] [7,8,9,10,12] (.c 8 7 10 245 (.c 8 8 0 245 (.c 8 9 0 245 (.c 8 10 0 245 (.c 8 12 245 0 (.l 8 0) .s) .s) .s) .s) .s) ?_;simp[c90]
     try intros
     refine ae.pure (lR e0.o d.text hm0 (by omega)) (by simp) ?_;simp
     try intros
     simp[ef];have hlen1:1+(l'.length+1)<=l'.length+1+1:=by omega
     simp[e,hpd2,<-hall,Seen.row,Entry.row,cut,hlen1];exact⟨lg,(List.take_of_length_le (by simp)).symm,Gf⟩):p:=h
theorem Xd{p:Prop}(h:p:=by
 refine ae.cur (df l hl 4) hu (by simp) rfl x5 x6 (by simp) ?_
 rintro _ i2 h2 ⟨z,hz,rfl⟩ y5 y6
 simp;have wl:=Go.IntWalk.i64_in (left+1) (by omega);by_cases z0:z=0
 ·simp[z0]
  refine ae.cur (GL l hl 3 (by omega) (by omega)) hu (by simp) rfl y5 y6 (by simp) ?_
  rintro _ i3 h3 ⟨S,hS,rfl⟩ y5 y6
  simp;intro HS;by_cases c1:room<S.length
  ·have wr:=Go.IntWalk.i64_in (room:Int) (by omega)
   simp[c1,wr];have hP:pI fr (⟨2,0,[]⟩:Part):=.inr ⟨rfl,rfl,by simp,by simp[dQ]⟩;have hF:(frs (o++[(⟨2,0,[]⟩:Part)]):Int)+(left:Int)=fr:=by rw[kg];(simp;omega)
   have hT:tos (o++[(⟨2,0,[]⟩:Part)])+(room:Nat)<=frs (o++[(⟨2,0,[]⟩:Part)])+12:=by rw[kg,qX];(simp[psz];omega)
   have hT2:pts (o++[(⟨2,0,[]⟩:Part)])+(room:Nat)<=12:=by rw[ri];(simp[psz];omega)
   have hLf:0<=(left:Int)/\(left:Int)<=fr:=x3;have hRm:(room:Nat)<=12:=x4;have hall:∀q∈o++[(⟨2,0,[]⟩:Part)],pI fr q:=λq hq=>(List.mem_append.1 hq).elim (x2 q) (λh=>by simp at h;subst h;exact hP)
   intro bA;refine⟨by omega,λHB=>?_⟩;by_cases c2:40<(o.length:Int)+1
   ·simp[c2]
    intro bB;refine⟨by omega,λHC=>?_⟩;refine dJ (.c _ 3) ⟨o++[(⟨2,0,[]⟩:Part)]++[⟨1,left,[]⟩],N5 hall hLf hF (by omega) (by omega) (by simp;omega) hf0,rfl⟩ ?_;simp;refine⟨?_,⟨rfl,rfl⟩,cU rfl y5 y6⟩
    rintro row (⟨a,-,rfl⟩|rfl|rfl)<;>rfl
   ·simp[c2]
    refine Ent.refl ⟨o++[(⟨2,0,[]⟩:Part)],left,room,HB,_,⟨by simp;omega,hall,hLf,hRm,y5,y6,hF,hT,hT2⟩,by simp;omega,h3,?_⟩;simp[Part.row]<;>omega
  ·have wr:=Go.IntWalk.i64_in ((room:Int)-S.length) (by omega)
   simp[c1,wr];have hP:pI fr (⟨2,0,S⟩:Part):=.inr ⟨rfl,rfl,by have:=hS.1;simp;omega,hS.2⟩;have hF:(frs (o++[(⟨2,0,S⟩:Part)]):Int)+(left:Int)=fr:=by rw[kg];(simp;omega)
   have hT:tos (o++[(⟨2,0,S⟩:Part)])+((room-S.length):Nat)<=frs (o++[(⟨2,0,S⟩:Part)])+12:=by rw[kg,qX];(simp[psz];omega)
   have hT2:pts (o++[(⟨2,0,S⟩:Part)])+((room-S.length):Nat)<=12:=by rw[ri];(simp[psz];omega)
   have hLf:0<=(left:Int)/\(left:Int)<=fr:=x3;have hRm:((room-S.length):Nat)<=12:=(by omega);have hall:∀q∈o++[(⟨2,0,S⟩:Part)],pI fr q:=λq hq=>(List.mem_append.1 hq).elim (x2 q) (λh=>by simp at h;subst h;exact hP)
   intro bA;refine⟨by omega,λHB=>?_⟩;by_cases c2:40<(o.length:Int)+1
   ·simp[c2]
    intro bB;refine⟨by omega,λHC=>?_⟩;refine dJ (.c _ 3) ⟨o++[(⟨2,0,S⟩:Part)]++[⟨1,left,[]⟩],N5 hall hLf hF (by omega) (by omega) (by simp;omega) hf0,rfl⟩ ?_;simp;refine⟨?_,⟨rfl,rfl⟩,cU rfl y5 y6⟩
    rintro row (⟨a,-,rfl⟩|rfl|rfl)<;>rfl
   ·simp[c2]
    refine Ent.refl ⟨o++[(⟨2,0,S⟩:Part)],left,(room-S.length),HB,_,⟨by simp;omega,hall,hLf,hRm,y5,y6,hF,hT,hT2⟩,by simp;omega,h3,?_⟩;simp[Part.row]<;>omega
 by_cases z1:z=1
 ·simp[z1,wl]
  refine ae.cur (df l hl (left+1)) hu (by simp) rfl y5 y6 (by simp) ?_
  rintro _ i3 h3 ⟨m,hm,rfl⟩ y5 y6
  have hm1:=hm.1;have hm2:=hm.2.2 (by omega);simp;by_cases c1:4<m
  ·have wr:=Go.IntWalk.i64_in (left-4) (by omega)
   simp[c1,wr];have hP:pI fr (⟨3,4,[]⟩:Part):=.inl ⟨.inr rfl,by simp;omega,rfl⟩;have hF:(frs (o++[(⟨3,4,[]⟩:Part)]):Int)+((left-4):Int)=fr:=by rw[kg];(simp[psz];omega)
   have hT:tos (o++[(⟨3,4,[]⟩:Part)])+(room:Nat)<=frs (o++[(⟨3,4,[]⟩:Part)])+12:=by rw[kg,qX];(simp[psz];omega)
   have hT2:pts (o++[(⟨3,4,[]⟩:Part)])+(room:Nat)<=12:=by rw[ri];(simp;omega)
   have hLf:0<=((left-4):Int)/\((left-4):Int)<=fr:=(by omega);have hRm:(room:Nat)<=12:=x4;have hall:∀q∈o++[(⟨3,4,[]⟩:Part)],pI fr q:=λq hq=>(List.mem_append.1 hq).elim (x2 q) (λh=>by simp at h;subst h;exact hP)
   intro bA;refine⟨by omega,λHB=>?_⟩;by_cases c2:40<(o.length:Int)+1
   ·simp[c2]
    intro bB;refine⟨by omega,λHC=>?_⟩;refine dJ (.c _ 3) ⟨o++[(⟨3,4,[]⟩:Part)]++[⟨1,(left-4),[]⟩],N5 hall hLf hF (by omega) (by omega) (by simp;omega) hf0,rfl⟩ ?_;simp;refine⟨?_,⟨rfl,rfl⟩,cU rfl y5 y6⟩
    rintro row (⟨a,-,rfl⟩|rfl|rfl)<;>rfl
   ·simp[c2]
    refine Ent.refl ⟨o++[(⟨3,4,[]⟩:Part)],(left-4),room,HB,_,⟨by simp;omega,hall,hLf,hRm,y5,y6,hF,hT,hT2⟩,by simp;omega,h3,?_⟩;simp[Part.row]<;>omega
  ·have wr:=Go.IntWalk.i64_in (left-m) (by omega)
   simp[c1,wr];have hP:pI fr (⟨3,m,[]⟩:Part):=.inl ⟨.inr rfl,by simp;omega,rfl⟩;have hF:(frs (o++[(⟨3,m,[]⟩:Part)]):Int)+((left-m):Int)=fr:=by rw[kg];(simp[psz];omega)
   have hT:tos (o++[(⟨3,m,[]⟩:Part)])+(room:Nat)<=frs (o++[(⟨3,m,[]⟩:Part)])+12:=by rw[kg,qX];(simp[psz];omega)
   have hT2:pts (o++[(⟨3,m,[]⟩:Part)])+(room:Nat)<=12:=by rw[ri];(simp;omega)
   have hLf:0<=((left-m):Int)/\((left-m):Int)<=fr:=(by omega);have hRm:(room:Nat)<=12:=x4;have hall:∀q∈o++[(⟨3,m,[]⟩:Part)],pI fr q:=λq hq=>(List.mem_append.1 hq).elim (x2 q) (λh=>by simp at h;subst h;exact hP)
   intro bA;refine⟨by omega,λHB=>?_⟩;by_cases c2:40<(o.length:Int)+1
   ·simp[c2]
    intro bB;refine⟨by omega,λHC=>?_⟩;refine dJ (.c _ 3) ⟨o++[(⟨3,m,[]⟩:Part)]++[⟨1,(left-m),[]⟩],N5 hall hLf hF (by omega) (by omega) (by simp;omega) hf0,rfl⟩ ?_;simp;refine⟨?_,⟨rfl,rfl⟩,cU rfl y5 y6⟩
    rintro row (⟨a,-,rfl⟩|rfl|rfl)<;>rfl
   ·simp[c2]
    refine Ent.refl ⟨o++[(⟨3,m,[]⟩:Part)],(left-m),room,HB,_,⟨by simp;omega,hall,hLf,hRm,y5,y6,hF,hT,hT2⟩,by simp;omega,h3,?_⟩;simp[Part.row]<;>omega
 simp[z0,z1,wl];refine ae.cur (df l hl (left+1)) hu (by simp) rfl y5 y6 (by simp) ?_
 rintro _ i3 h3 ⟨m,hm,rfl⟩ y5 y6
 have hm1:=hm.1;have hm2:=hm.2.2 (by omega);have wr:=Go.IntWalk.i64_in (left-m) (by omega);simp[wr];have hP:pI fr (⟨1,m,[]⟩:Part):=.inl ⟨.inl rfl,by simp;omega,rfl⟩;have hF:(frs (o++[(⟨1,m,[]⟩:Part)]):Int)+((left-m):Int)=fr:=by rw[kg];(simp[psz];omega)
 have hT:tos (o++[(⟨1,m,[]⟩:Part)])+(room:Nat)<=frs (o++[(⟨1,m,[]⟩:Part)])+12:=by rw[kg,qX];(simp[psz];omega)
 have hT2:pts (o++[(⟨1,m,[]⟩:Part)])+(room:Nat)<=12:=by rw[ri];(simp;omega)
 have hLf:0<=((left-m):Int)/\((left-m):Int)<=fr:=(by omega);have hRm:(room:Nat)<=12:=x4;have hall:∀q∈o++[(⟨1,m,[]⟩:Part)],pI fr q:=λq hq=>(List.mem_append.1 hq).elim (x2 q) (λh=>by simp at h;subst h;exact hP)
 intro bA;refine⟨by omega,λHB=>?_⟩;by_cases c2:40<(o.length:Int)+1
 ·simp[c2]
  intro bB;refine⟨by omega,λHC=>?_⟩;refine dJ (.c _ 3) ⟨o++[(⟨1,m,[]⟩:Part)]++[⟨1,(left-m),[]⟩],N5 hall hLf hF (by omega) (by omega) (by simp;omega) hf0,rfl⟩ ?_;simp;refine⟨?_,⟨rfl,rfl⟩,cU rfl y5 y6⟩
  rintro row (⟨a,-,rfl⟩|rfl|rfl)<;>rfl
 ·simp[c2]
  refine Ent.refl ⟨o++[(⟨1,m,[]⟩:Part)],(left-m),room,HB,_,⟨by simp;omega,hall,hLf,hRm,y5,y6,hF,hT,hT2⟩,by simp;omega,h3,?_⟩;simp[Part.row]<;>omega):p:=h
theorem Mj{p:Prop}(h:p:=by
 simp;refine inl au Tryz.func163 20000 (λw1 F=>?_);simp;intro g1 g2 g3;by_cases k1:c.kind=1
 ·have h:cD 1:=by unfold cD;omega
  have hu:gp c=⟨1,c.doc,0,0,0,[],c.text⟩:=by simp[gp,k1,h]
  simp[k1];refine ae.pure (gJ 1) (by simp) ?_;simp[h];refine ae.pure (il c ⟨1,c.doc,0,0,0,[],c.text⟩ (by omega)) (by simp[Call.row,k1]) ?_;rw[fin _ hu];simp
 by_cases k2:c.kind=2
 ·have h:cD 2:=by unfold cD;omega
  have hu:gp c=⟨2,c.doc,c.client,c.seq,c.n,c.o,[]⟩:=by simp[gp,k2,h]
  simp[k2];refine ae.pure (gJ 2) (by simp) ?_;simp[h];refine drw eok mix [0,1,2,3,4,5,6,7,8,10,12,14] [9,11,13,15] (.c 12 9 3080 1015 (.c 12 11 772 243 (.c 12 13 194 49 (.c 12 15 49 0 (.l 12 0) .s) .s) .s) .s) ?_;simp
  try intros
  refine ae.pure (il c ⟨2,c.doc,c.client,c.seq,c.n,c.o,[]⟩ (by omega)) (by simp[Call.row,k2]) ?_;rw[fin _ hu];simp
 by_cases k3:c.kind=3
 ·have h:cD 3:=by unfold cD;omega
  have hu:gp c=⟨3,c.doc,0,0,c.n,[],[]⟩:=by simp[gp,k3,h]
  simp[k3];refine ae.pure (gJ 3) (by simp) ?_;simp[h];refine ae.pure (il c ⟨3,c.doc,0,0,c.n,[],[]⟩ (by omega)) (by simp[Call.row,k3]) ?_;rw[fin _ hu];simp
 by_cases k4:c.kind=4
 ·have h:cD 4:=by unfold cD;omega
  have hu:gp c=⟨4,c.doc,0,0,0,[],[]⟩:=by simp[gp,k4,h]
  simp[k4];refine ae.pure (gJ 4) (by simp) ?_;simp[h];refine ae.pure (il c ⟨4,c.doc,0,0,0,[],[]⟩ (by omega)) (by simp[Call.row,k4]) ?_;rw[fin _ hu];simp
 by_cases k5:c.kind=5
 ·have h:cD 5:=by unfold cD;omega
  have hu:gp c=⟨5,c.doc,0,0,c.n,[],[]⟩:=by simp[gp,k5,h]
  simp[k5];refine ae.pure (gJ 5) (by simp) ?_;simp[h];refine ae.pure (il c ⟨5,c.doc,0,0,c.n,[],[]⟩ (by omega)) (by simp[Call.row,k5]) ?_;rw[fin _ hu];simp
 by_cases k6:c.kind=6
 ·have h:¬cD 6:=by unfold cD;omega
  have hu:gp c=⟨6,⟨#[]⟩,c.client,0,c.n,[],[]⟩:=by simp[gp,k6,h]
  simp[k6];refine ae.pure (gJ 6) (by simp) ?_;simp[aK h];refine drw eok mix [0,1,2,3,4,6] [5,7] (.c 6 5 50 13 (.c 6 7 13 0 (.l 6 0) .s) .s) ?_;simp
  try intros
  refine ae.pure (il c ⟨6,⟨#[]⟩,c.client,0,c.n,[],[]⟩ (by omega)) (by simp[Call.row,k6]) ?_;rw[fin _ hu];simp
 by_cases k7:c.kind=7
 ·have h:¬cD 7:=by unfold cD;omega
  have hu:gp c=⟨7,⟨#[]⟩,c.client,0,0,[],[]⟩:=by simp[gp,k7,h]
  simp[k7];refine ae.pure (gJ 7) (by simp) ?_;simp[aK h];refine ae.pure (il c ⟨7,⟨#[]⟩,c.client,0,0,[],[]⟩ (by omega)) (by simp[Call.row,k7]) ?_;rw[fin _ hu];simp
 have k8:c.kind=8:=by omega
 have h:¬cD 8:=by unfold cD;omega
 have hu:gp c=⟨8,⟨#[]⟩,0,0,0,[],[]⟩:=by simp[gp,k8,h]
 simp[k8];refine ae.pure (gJ 8) (by simp) ?_;simp[aK h];refine ae.pure (il c ⟨8,⟨#[]⟩,0,0,0,[],[]⟩ (by omega)) (by simp[Call.row,k8]) ?_;rw[fin _ hu];simp):p:=h
theorem Xc{p:Prop}(h:p:=by
 have hblk:∀k b,(st'.h.get k).blk=some b->(st.h.get k).blk=some b:=by
  intro k b hb;have:=hob k
  revert hb this
  cases st'.h.get k with
  |dead=>intro hb;simp[AObj.blk]at hb
  | vars b' T cells =>
    intro hb hl;obtain⟨cells',he,-⟩:=k9.vars hl;rw[he];exact hb
  | rows Hd sz rows own =>
    intro hb hl;rcases hl with hl|⟨-,rfl,-⟩
    ·rw[hl];exact hb
    ·simp[AObj.blk]at hb
  |lent Hd sz rows=>intro hb;simp[AObj.blk]at hb
  |part Hd sz rows lo=>intro hb hl;rw[show st.h.get k=_ from hl];exact hb
 have hM:∀c,st'.h.M c->st.h.M c:=λc ⟨k,hk⟩=>⟨k,hblk k c hk⟩
 have t:Tr st.h.M w st'.h.M w:=⟨Nat.le_refl _,λ_ _ _=>rfl,λb _ hb=>hM b hb⟩;refine⟨hR.dfr,hR.size.trans hn,λi=>?_,⟨E,λk=>?_,λk k' b hk hk'=>H.inj _ _ b (hblk k b hk) (hblk k' b hk'),λk b hk=>H.low k b (hblk k b hk),H.elow,H.einj,λk c hc hM'=>H.em k c hc (hM c hM')⟩,hR.below,hR.base_le⟩
 ·rcases acm (t:=st'.t) (i:=i)with h|h
  ·rw[h];exact .any _
  ·exact((hR.tmp i).tr t).le (ht _ h)
 ·have h1:=(H.obj k).tr t (λ_ _=>rfl) (E':=E k) (λc hc _=>hc)
  have h2:=hob k
  revert h1 h2
  generalize st.h.get k=o
  cases st'.h.get k with
  |dead=>intro _ _;trivial
  | vars b T cells =>
    intro h1 h2;obtain⟨cells',rfl,hl⟩:=k9.vars h2;obtain⟨cs,g1,g2,g3⟩:=h1;obtain⟨g4,g5⟩:=ALe.get _ _ hl;refine⟨cs,g1,by omega,λj av hj=>?_⟩;obtain⟨av',hj',hle⟩:=g5 j av hj;exact(g3 j av' hj').le hle
  | rows Hd sz rows own =>
    intro h1 h2;rcases h2 with rfl|⟨rfl,rfl,rfl⟩
    ·exact h1
    ·rfl
  |lent Hd sz rows=>intro h1 h2;rw[show o=_ from h2]at h1;exact h1
  |part Hd sz rows lo=>intro h1 h2;rw[show o=_ from h2]at h1;exact h1):p:=h
theorem Xb{p:Prop}(h:p:=by
 generalize cz d ((i:Int)+1)=Q at hra hsb⊢;obtain⟨sn,so⟩:=Q;simp only at hra hsb⊢;have e1:=hsn sn hsb.1 hsb.2.1;simp[Seen.res];intro b7;by_cases q1:r.seq=sn.seq
 ·by_cases q2:r.has=true
  ·by_cases q3:sn.rev<=r.rev
   ·have h:=hno (λh=>by have:=(hra.1 h).2;unfold jB at this;rw[if_pos q1]at this;exact this ⟨q2,q3⟩)
    simp[q1,q2,q3,aK h]
   ·have h:ke d i r:=hra.2 ⟨λh=>by simp at h,by unfold jB;rw[if_pos q1];exact λh=>q3 h.2⟩
    simp[q1,q2,q3];refine Ent.refl ⟨i+1,⟨by omega,fin h⟩,by omega,?_⟩;simp;exact ew
  ·have q2':r.has=false:=by simpa using q2
   have h:ke d i r:=hra.2 ⟨λh=>by simp at h,by unfold jB;rw[if_pos q1];exact λh=>q2 h.1⟩;simp[q1,q2'];refine Ent.refl ⟨i+1,⟨by omega,fin h⟩,by omega,?_⟩;simp;exact ew
 ·by_cases q2:r.has=true
  ·by_cases q3:r.seq=sn.seq+1
   ·have h:ke d i r:=hra.2 ⟨λh=>by simp at h,by unfold jB;rw[if_neg q1];exact⟨q2,q3⟩⟩
    have q4:¬sn.seq+1=sn.seq:=by omega
    simp[q2,q3,e1,q4];refine Ent.refl ⟨i+1,⟨by omega,fin h⟩,by omega,?_⟩;simp;exact ew
   ·have h:=hno (λh=>by have:=(hra.1 h).2;unfold jB at this;rw[if_neg q1]at this;exact q3 this.2)
    simp[q1,q2,q3,e1,aK h]
  ·have q2':r.has=false:=by simpa using q2
   have h:=hno (λh=>by have:=(hra.1 h).2;unfold jB at this;rw[if_neg q1]at this;exact q2 this.1);simp[q1,q2',aK h]):p:=h
theorem Xa{p:Prop}(h:p:=by
 generalize cz d ((i:Int)+1)=Q at hra hsb⊢;obtain⟨sn,so⟩:=Q;simp only at hra hsb⊢;have e1:=hsn sn hsb.1 hsb.2.1;simp[Seen.res];intro b7;by_cases q1:r.seq=sn.seq
 ·by_cases q2:r.has=true
  ·by_cases q3:sn.rev<=r.rev
   ·have h:=hno (λh=>by have:=(hra.1 h).2;unfold jB at this;rw[if_pos q1]at this;exact this ⟨q2,q3⟩)
    simp[q1,q2,q3,aK h]
   ·have h:ke d i r:=hra.2 ⟨λ_=>ht,by unfold jB;rw[if_pos q1];exact λh=>q3 h.2⟩
    simp[q1,q2,q3];refine Ent.refl ⟨i+1,⟨by omega,fin h⟩,by omega,?_⟩;simp;exact ew
  ·have q2':r.has=false:=by simpa using q2
   have h:ke d i r:=hra.2 ⟨λ_=>ht,by unfold jB;rw[if_pos q1];exact λh=>q2 h.1⟩;simp[q1,q2'];refine Ent.refl ⟨i+1,⟨by omega,fin h⟩,by omega,?_⟩;simp;exact ew
 ·by_cases q2:r.has=true
  ·by_cases q3:r.seq=sn.seq+1
   ·have h:ke d i r:=hra.2 ⟨λ_=>ht,by unfold jB;rw[if_neg q1];exact⟨q2,q3⟩⟩
    have q4:¬sn.seq+1=sn.seq:=by omega
    simp[q2,q3,e1,q4];refine Ent.refl ⟨i+1,⟨by omega,fin h⟩,by omega,?_⟩;simp;exact ew
   ·have h:=hno (λh=>by have:=(hra.1 h).2;unfold jB at this;rw[if_neg q1]at this;exact q3 this.2)
    simp[q1,q2,q3,e1,aK h]
  ·have q2':r.has=false:=by simpa using q2
   have h:=hno (λh=>by have:=(hra.1 h).2;unfold jB at this;rw[if_neg q1]at this;exact q2 this.1);simp[q1,q2',aK h]):p:=h
theorem W9{p:Prop}(h:p:=by
 have hZ:=hty hz;rw[show du ⟨⟨n3,f3,t3,l3,s3⟩,r3⟩ ⟨6,i,0,[]⟩=(Z,(du ⟨⟨n3,f3,t3,l3,s3⟩,r3⟩ ⟨6,i,0,[]⟩).2)from by rw[hZ]]at cZ;generalize (du ⟨⟨n3,f3,t3,l3,s3⟩,r3⟩ ⟨6,i,0,[]⟩).2=codeZ at cZ;simp[hz];refine ae.pure cZ (by simp[Net.row,Event.row]) ?_;simp[Net.res];intro R2 R3 R4 R5;refine Ent.refl ⟨i+1,944,⟨by simp,by omega⟩,by omega,R2,R3,R4,R5,?_⟩;rw[hsuc2];simp;exact ewi):p:=h
theorem jg{p:Prop}(h:p:=by
 have q1':s≠[]:=λh=>q1 (by rw[q2,h])
 simp[q2,q1',y1 ⟨q1,q2⟩,Call.res]):p:=h
theorem W8{p:Prop}(h:p:=by
 intro hq;obtain⟨vs,l,h1,h2,h3,h4⟩:=jQ hE hR' fn.results.toList hq;obtain⟨Es,hH⟩:=hR'.heap;refine⟨hR'.dfr,if vs.length=1 then vs.getD 0 undef else .tuple vs.toArray,?_,_,rfl,⟨hR'.below.os,hR'.below.tape,hR'.below.output,hR'.below.size,hR'.below.block⟩,?_⟩
 ·have h1':(fn.results.toList.mapM (qz a'.tmps)).run P w'=.ok vs w':=h1
  rw[uD,Array.mapM_eq_mapM_toList];simp only[Sem.run_bind,Sem.run_map,h1',Result.andThen_ok,Sem.run_pure]
  cases vs with
  |nil=>simp
  |cons v vs=>cases vs<;>simp
 ·have low:∀c,((∃k,Es k c)\/st'.h.M c)->w.heap.size<=c/\c<w'.heap.size:=by
   rintro c (⟨k,hk⟩|⟨k,hk⟩)
   ·exact⟨Nat.le_of_not_lt (hH.elow k c hk).1,(hH.elow k c hk).2⟩
   ·exact⟨Nat.le_of_not_lt (hH.low k c hk).1,hH.lt hk⟩
  unfold MC at h4
  split at h4
  ·split at h4
   ·rename_i r x
    obtain⟨h',E',S,-,hr,O⟩:=w7 hH (h3 0 x rfl) h4;rw[if_pos (by simpa using h2)];exact vl.mono hr (λc hc=>low c (O.own c hc).1)
   ·exact h4.elim
  ·rename_i rs _
   obtain⟨hne,h4⟩:=h4;obtain⟨h',E',S,F,-,hl,hF,hd,hr,O⟩:=vf l rs hH h3 h4;rw[if_neg (by omega)];exact⟨vs.toArray,F,rfl,by simp;omega,λj c hc=>low c (O.own c (hF j c hc)).1,hd,λj t hj=>by simpa using hr j t hj⟩):p:=h
theorem W7{p:Prop}(h:p:=by
 obtain⟨n1,n2,n3,n4⟩:=fq hl;simp[Doc.row];intro b2 b4
 refine bk.intro eok (λi:Nat=>i<=d.seen.length/\∀j,j<i->∀hj:j<d.seen.length,d.seen[j].client≠c) (λi=>⟨22,0,[(11,.v (.int .i64 i)),(10,.v (.int .i64 d.seen.length)),(9,.ro (d.seen.map Seen.row)),(1,.v (.int .i64 c)),(4,.p 64 b4 0)],
  [(64,.vars b4 128 [.v (.int .i64 0),.v (.int .i64 0),.v (.int .i64 0)])]⟩) (λi=>d.seen.length-i) 0 (by simp) (by simp) (λi hi=>?_)
 by_cases hlt:i<d.seen.length
 ·simp[hlt,Seen.row]
  intro b7;by_cases hc:d.seen[i].client=c
  ·have e:cz d c=(d.seen[i],true):=by
    rcases uB d c with⟨i',h,h1,h2,h3⟩|⟨h1,_⟩
    ·have:i'=i:=by
      rcases Nat.lt_trichotomy i' i with hh|hh|hh
      ·exact absurd h1 (hi.2 i' hh h)
      ·exact hh
      ·exact absurd hc (h2 i hh hlt)
     subst this;exact h3
    ·exact absurd hc (h1 i hlt)
   simp[hc,e,Seen.res]
  ·simp[hc]
   refine⟨i+1,⟨by omega,λj hj hjl=>?_⟩,by omega,bL (by omega)⟩;by_cases hji:j=i
   ·subst hji;exact hc
   ·exact hi.2 j (by omega) hjl
 ·have e:cz d c=(⟨0,0,0⟩,false):=by
   rcases uB d c with⟨i',h,h1,h2,h3⟩|⟨_,h⟩
   ·exact absurd h1 (hi.2 i' (by omega) h)
   ·exact h
  simp[hlt,e,Seen.res]):p:=h
theorem EZ{p:Prop}(h:p:=by
 refine ae.cur (df l hl 5) hu (by simp) rfl g0 g1 (by simp) ?_
 rintro _ i5 h5 ⟨y,hy,rfl⟩ g0 g1
 have wy:=Go.IntWalk.i64_in (1+y) (by have:=hy.1;have:=hy.2.2 (by omega);omega);simp[wy];refine⟨_,⟨(⟨5,k,1+y,[]⟩:Event),(Bd (by decide) (by omega) (by have:=hy.1;have:=hy.2.2 (by omega);omega) (by omega)),rfl⟩,?_,cU rfl g0 g1⟩;simp[Event.res]):p:=h
theorem rX{p:Prop}(h:p:=by
 congr 1;apply propext;unfold fE
 constructor
 ·rintro⟨-,-,-,-,g1,g2,g3,g4,g5⟩;simp_all
 ·intro g;refine⟨s1,s2,s3,s4,?_,?_,?_,?_,?_⟩<;>simp_all):p:=h
theorem fB{p:Prop}(h:p:=by simp[q1,y2 (λh=>h.1 q1),Call.none,Call.res]):p:=h
theorem Mi{p:Prop}(h:p:=by
 simp only at hd hat;simp[k];refine ae.pure hd (by simp[Hub.row]) ?_;simp[Hub.res];intros;by_cases z:code=0
 ·rw[if_pos z]at hat
  simp[z];refine drw eok mix [0,1] [2,3] (.c 2 2 2 1 (.c 2 3 1 0 (.l 2 0) .s) .s) ?_;simp
  try intros
  rw[hat];simp[Answer.res]
 ·rw[if_neg z]at hat
  simp[z];refine drw eok mix [0,2,3,4] [1,5,6] (.c 4 1 8 7 (.c 4 5 0 7 (.c 4 6 7 0 (.l 4 0) .s) .s) .s) ?_;simp
  try intros
  refine ae.pure (gY h (by omega)) (by simp[Hub.row]) ?_;simp[Hub.res]
  try intros
  rw[hat];simp[Answer.res,gU]):p:=h
theorem W6{p:Prop}(h:p:=by
 have e:Go.IntKind.i64.wrap ((i:Int)+1)=((i+1:Nat):Int):=bL (by omega);have hg:=abb h;have hs:=aba h;have hlen:(qa t i).length=t.length:=by unfold qa;simp;omega
 generalize qa t i=U at hg hs hlen;have hu:i<U.length:=by omega
 have hgi:U[i]=t[i]:=by rw[List.getElem?_eq_getElem hu]at hg;exact Option.some.inj hg
 simp[h,hlen,hgi];by_cases c1:t[i]<32
 ·have e1:oA t[i]=63:=by unfold oA;rw[if_pos (Or.inl c1)]
  rw[e1]at hs;simp[c1,h,hlen];refine Ent.refl ⟨i+1,by omega,by omega,H,?_⟩;rw[<-hs];simp[e,aX,List.map_set]
 ·by_cases c2:t[i]=127
  ·have e1:oA t[i]=63:=by unfold oA;rw[if_pos (Or.inr c2)]
   rw[e1]at hs;simp[c2,h,hlen];refine Ent.refl ⟨i+1,by omega,by omega,H,?_⟩;rw[<-hs];simp[e,aX,List.map_set]
  ·have e1:oA t[i]=t[i]:=by unfold oA;rw[if_neg (by omega)]
   rw[e1,<-hgi,List.set_getElem_self]at hs;simp[c1,c2];refine Ent.refl ⟨i+1,by omega,by omega,H,?_⟩;rw[<-hs];simp[e]):p:=h
theorem adA{p:Prop}(h:p:=by
 rw[if_neg z]at hat;simp[z];refine drw eok mix [0,2,3,4] [1,5,6] (.c 4 1 8 7 (.c 4 5 0 7 (.c 4 6 7 0 (.l 4 0) .s) .s) .s) ?_;simp
 try intros
 refine ae.pure (gY h (by omega)) (by simp[Hub.row]) ?_;simp[Hub.res]
 try intros
 rw[hat];simp[Answer.res,gU]):p:=h
theorem W5{p:Prop}(h:p:=by
 obtain⟨Es,H⟩:=hR.heap;have t:Tr st.h.M w st.h.M { w with drawn:=w.drawn+1 }:=⟨Nat.le_refl _,λ_ _ _=>rfl,λ_ _ h=>h⟩;have hR1:Rep E.w0 E.base st a { w with drawn:=w.drawn+1 }:=(hR.move (h':=st.h) (E':=Es) ⟨λk=>(H.obj k).tr t (λ_ _=>rfl) (λ_ hc _=>hc),H.inj,H.low,H.elow,H.einj,H.em⟩ t ⟨rfl,rfl,rfl⟩).rep;refine⟨hR1.dfr,hR1.size,λs=>?_,hR1.heap,hR1.below,hR1.base_le⟩;by_cases hs:∃p∈iW pv,p.1=s
 ·obtain⟨p,hp,rfl⟩:=hs
  have hany:∀q∈iW pv,q.2=.any:=by
   intro q hq;unfold iW at hq;rw[List.mem_filterMap]at hq;obtain⟨x,-,hx⟩:=hq;rw[Option.map_eq_some_iff]at hx;obtain⟨d,-,rfl⟩:=hx;rfl
  show VRel _ st.h.M (cI (iW pv++st.t) p.1) _
  rw[kX (v:=.any) (by have:=hany p hp;rw[<-this];exact hp) (λq hq _=>hany q hq)];exact .any _
 ·show VRel _ st.h.M (cI (iW pv++st.t) s) _
  rw[nE (λp hp he=>hs ⟨p,hp,he⟩)];exact hR1.tmp s):p:=h
theorem EY{p:Prop}(h:p:=by
 simp only at hd hat;simp[k];refine ae.pure hd (by simp[Hub.row]) ?_;simp[Hub.res];intros;by_cases z:code=0
 ·rw[if_pos z]at hat
  simp[z,hat,Answer.res]
 ·rw[if_neg z]at hat
  simp[z];refine ae.pure (jw h (by omega)) (by simp[Hub.row]) ?_;simp[Hub.res,hat,Answer.res,gU]):p:=h
theorem W4{p:Prop}(h:p:=by
 by_cases h:a.length=b.length
 ·simp[h]
  refine bk.intro eok (λi:Nat=>i<=a.length/\a.take i=b.take i) (λi=>⟨26,0,[(13,.v (.int .i64 i)),(12,.v (.int .i64 b.length)),(1,.ro (b.map aX)),(0,.ro (a.map aX))],[]⟩) (λi=>a.length-i) 0 (by simp) (by simp) (λi hi=>?_);by_cases hlt:i<a.length
  ·have hlt':i<b.length:=by omega
   simp[hlt'];refine cF.quiet eok mix (by kernel_rfl) ?_;simp[hlt,hlt'];refine Br.mk (λh1=>?_) (λh1=>?_)
   ·simp
    exact⟨i+1,⟨by omega,BG hlt hlt' hi.2 (QO h1)⟩,by omega,bL (by omega)⟩
   ·simp[e8]
    exact OL hlt hlt' (Xw h1)
  ·have hlt':¬i<b.length:=by omega
   simp[hlt',sW];exact N4 (by omega) (by omega) hi.2
 ·have hz:¬(a.length:Int)=b.length:=by omega
  simp[hz,e8];exact λh2=>absurd (by rw[h2]) h):p:=h
theorem W3{p:Prop}(h:p:=by
 by_cases s1:bS x
 rotate_left
 ·have h:=hno (λh=>s1 (by have:=(h hlt).1;rwa[hx]at this))
  simp[aK s1,aK h]
 simp[s1]
 cases i with
 | zero =>
   simp;exact⟨1,⟨by omega,zD hi.2 (RJ hlt hx s1)⟩,by omega,bL (n:=0) (by omega)⟩
 | succ k =>
   have ek:Go.IntKind.i64.wrap (k:Int)=k:=jk (by omega);have hk1:k<docs.length:=by omega
   have hk0:(0:Int)<(k:Int)+1:=by omega
   obtain⟨y,hy⟩:∃y,docs[k]=y:=⟨_,rfl⟩;simp[ek,hk0,hk1,hy,Doc.row];by_cases s4:sLt y.name x.name
   rotate_left
   ·have h:=hno (λh=>s4 (by have:=(h hlt).2 (by omega);rw[hx]at this;simp only[Nat.add_sub_cancel]at this;rwa[hy]at this))
    simp[aK s4,aK h]
   simp[s4];exact⟨k+2,⟨by omega,zD hi.2 (Zt hlt hx hy s1 s4)⟩,by omega,by rw[Go.IntWalk.i64_in _ (by omega)];omega⟩):p:=h
theorem W2{p:Prop}(h:p:=by
 refine ae.ro (ra r.buf (by omega)) (by simp) ?_;simp;refine kU (BY l hl (fH r.buf) (by omega) (by omega)).toN hu (by simp) rfl g0 g1 (by simp) ?_
 rintro _ i5 h5 ⟨ops,⟨hol,hpb,hod⟩,rfl⟩ g0 g1
 simp
 have hn1:nL aY ops<=2^20:=by
  have:=AI (f:=aY) (l:=ops) (B:=4) (λp hq=>by have:=(hpb p hq).2.2.1;unfold aY;omega);omega
 refine⟨_,⟨⟨1,k,0,ops⟩,⟨⟨by unfold lv;exact hn1,by show Pn ops<=12;rw[afs hod.1];exact hod.2.2.2⟩,λhb=>⟨⟨by show(1:Int)<=1;omega,by show(1:Int)<=6;omega⟩,by show 0<=(k:Int)/\(k:Int)<=1000000000;omega,by show(0:Int)<=0/\(0:Int)<=1000000000;omega,(hod.ok (by omega) (hb r (hr ▸ List.getElem_mem hk)) hol).1,λh=>absurd rfl h,λ_=>rfl⟩⟩,rfl⟩,?_,cU rfl g0 g1⟩;simp[Event.res]):p:=h
theorem EX{p:Prop}(h:p:=by
 go_wp2_with (at_builtin;refine Lib.wpList_append_run _ rfl _ _ _ _ rfl _ _ rfl rfl _ _ (hr _) ?_)
 go_ret
 exact⟨rfl,rfl⟩):p:=h
theorem jf{p:Prop}(h:p:=by simp[q1,q2,y2 (λh=>q2 h.2),Call.none,Call.res]):p:=h
theorem W0{p:Prop}(h:p:=by
 refine⟨rfl,by simp;omega,λi=>?_,⟨Es,HH.obj,HH.inj,λk b hk=>⟨λhf=>hf.2 ⟨k,hk⟩,(HH.low k b hk).2⟩,HH.elow,HH.einj,HH.em⟩,BelowF.refl _ _,λb hb=>hb.elim (λh=>h.1) (λh=>hR.base_le b (.inr h))⟩
 show VRel w st.h.M (cI (Cl 0 args) i) _
 rw[PX,if_pos (Nat.zero_le i),Nat.sub_zero]
 cases hv:args[i]? with
 |none=>exact .any _
 | some v =>
   have hlt:i<xs.size:=by rw[hs];exact(List.getElem?_eq_some_iff.1 hv).1
   have e:(xs++Array.replicate (fn.ntmps-xs.size) undef).getD i undef=xs.getD i undef:=by
    simp only[Array.getD_eq_getD_getElem?];rw[Array.getElem?_append_left hlt]
   show VRel w st.h.M v ((xs++Array.replicate (fn.ntmps-xs.size) undef).getD i undef)
   rw[e];exact hx i v hv):p:=h
theorem WZ{p:Prop}(h:p:=by
 have hf:=fin R.cx R.cy hc;rw[fN hq]at hf;have hpsz:psz q=q.signs.length:=by have:=hqb.2.2.2.2.1 q2;unfold psz;omega
 have htk:q.signs.take (psz q)=q.signs:=List.take_of_length_le (by omega);rw[<-List.map_take,htk];refine yz (L:=BL) (P:=BP) (D:=BD) (Hl:=H) (Hp:=G) (by omega) (by omega) (by simp[e7,g7]) (by simp[e6,g6]) (λHp' h' k576 k5001 k5000 ko=>?_);have R:=R.rebase (h':=h') (ko 496 (by decide) (by decide) (by decide) (by decide)) (ko 544 (by decide) (by decide) (by decide) (by decide));simp;refine Ent.refl ⟨_,_,_,_,_,hf.1,hf.2,H,Hp',?_⟩;rw[gv,hBe];simp[fC,q2,R.gx,R.gy,k576,k5001,k5000,e5,g5]):p:=h
theorem WY{p:Prop}(h:p:=by
 by_cases h:0<=k/\k<=12
 ·have hc:k=0\/k=1\/k=2\/k=3\/k=4\/k=5\/k=6\/k=7\/k=8\/k=9\/k=10\/k=11\/k=12:=by omega
  rcases hc with rfl|rfl|rfl|rfl|rfl|rfl|rfl|rfl|rfl|rfl|rfl|rfl|rfl
  all_goals simp[lu]
 ·have e:lu k=[]:=by
   unfold lu;rw[if_neg (by omega)];rw[if_neg (by omega)];rw[if_neg (by omega)];rw[if_neg (by omega)];rw[if_neg (by omega)];rw[if_neg (by omega)];rw[if_neg (by omega)];rw[if_neg (by omega)];rw[if_neg (by omega)];rw[if_neg (by omega)];rw[if_neg (by omega)];rw[if_neg (by omega)];rw[if_neg (by omega)]
  simp[h,e]):p:=h
theorem WX{p:Prop}(h:p:=by
 refine drw eok mix [0,1,2,3,4,5,6,7,8,9,10,11] [12,13,14,15,16,17,18,19,20] (.c 12 12 341 3754 (.c 12 13 0 3754 (.c 12 14 0 3754 (.c 12 15 0 3754 (.c 12 16 0 3754 (.c 12 17 0 3754 (.c 12 18 3754 0 (.c 12 19 0 0 (.c 12 20 0 0 (.l 12 0) .s) .s) .s) .s) .s) .s) .s) .s) (.c 12 17 0 4095 (.c 12 12 341 3754 (.c 12 13 0 3754 (.c 12 14 0 3754 (.c 12 15 0 3754 (.c 12 16 0 3754 (.c 12 18 3754 0 (.c 12 19 0 0 (.c 12 20 0 0 (.l 12 0) .s) .s) .s) .s) .s) .s) .s) .s) .s)) ?_;simp
 try intros
 repeat' first
  |(refine ae.pure (hs) (by simp[Doc.row]) ?_;simp[Doc.res];try intros)
  |(rw[Trc];refine⟨?_,?_⟩<;>(try simp)<;>try intros)):p:=h
theorem Mh{p:Prop}(h:p:=by
 refine kU (Ra l hl d.n hnok) hu (by simp) rfl g0 g1 (by simp[Net.row]) ?_
 rintro _ i2 h2 ⟨e,he,rfl⟩ g0 g1
 simp[Event.res];refine ae.ro (iE e (by have:=he.1.1;omega)) (by simp[Event.row]) ?_;simp;refine⟨_,⟨(bV e),(Zn e),rfl⟩,?_,cU rfl g0 g1⟩;simp):p:=h
theorem adz{p:Prop}(h:p:=by
 rw[if_neg z]at hat;simp[z];refine ae.pure (jw h (by omega)) (by simp[Hub.row]) ?_;simp[Hub.res,hat,Answer.res,gU]):p:=h
theorem EW{p:Prop}(h:p:=by
 simp[hq];refine Ent.refl ⟨i+1,by omega,by omega,?_⟩;simp[hnx];exact bL (by omega)):p:=h
theorem qu{p:Prop}(h:p:=by exact bL (by omega)):p:=h
theorem WW{p:Prop}(h:p:=by
 simp[e];refine ae.cur (df l hl 3) hu (by simp) rfl g0 g1 (by simp) ?_
 rintro _ i5 h5 ⟨y,hy,rfl⟩ g0 g1
 have wy:=Go.IntWalk.i64_in (1+y) (by have:=hy.1;have:=hy.2.2 (by omega);omega);simp[wy];refine ae.cur (df l hl 3) hu (by simp) rfl g0 g1 (by simp) ?_
 rintro _ i6 h6 ⟨y2,hy2,rfl⟩ g0 g1
 have wy2:=Go.IntWalk.i64_in (1+y2) (by have:=hy2.1;have:=hy2.2.2 (by omega);omega);simp[wy2];refine⟨_,⟨(⟨6,⟨#[]⟩,1+y,0,1+y2,[],[]⟩:Call),oi (by decide) (by simp[nL,fX]) (by simp),rfl⟩,?_,cU rfl g0 g1⟩;simp[Call.res]):p:=h
theorem Mg{p:Prop}(h:p:=by
 refine Array.ext (by simp[hs3]) (λj h1 h2'=>?_);simp only[Array.getD_eq_getD_getElem?]at e0 e1 e2;rcases j with _|_|_|j
 ·rw[Array.getElem?_eq_getElem h1]at e0;exact e0
 ·rw[Array.getElem?_eq_getElem h1]at e1;exact e1
 ·rw[Array.getElem?_eq_getElem h1]at e2;exact e2
 ·omega):p:=h
theorem Mf{p:Prop}(h:p:=by
 have:=Zi (l:=List.range ops.length) (p:=λj=>!on L j) (q:=λj=>!on (L.setIfInBounds i true) j) (λx _ hx=>by
  simp only[Bool.not_eq_true']at hx⊢;rw[hset]at hx
  split at hx
  ·simp at hx
  ·exact hx) (List.mem_range.2 hilt) (by simp[hioff]) (by simp[hset])
 omega):p:=h
theorem WV{p:Prop}(h:p:=by
 skip
 have hle:a'+n<=t.length:=by have:=hin.2.1 (by omega);omega
 have hst:qV cl t (L,(a':Int)) o[i]=(L++(t.drop a').take n,(a':Int)+n):=by simp[qV,k1,hn]
 rw[hst]at hs;obtain⟨m,hm⟩:∃m,(t.drop a').take n=m:=⟨_,rfl⟩;have hcut:cut (t.map aX) a' n=m.map aX:=by rw[ir,<-hm];simp
 have hlen2:m.length=n:=by rw[<-hm];simp;omega
 rw[hm]at hs;simp[k1,hn,ea,hle,hcut];refine⟨by omega,λH2=>Ent.refl ⟨i+1,by omega,by omega,H2,?_⟩⟩;rw[hs];simp[e]):p:=h
theorem WU{p:Prop}(h:p:=by
 have hle:a'+n<=t.length:=by have:=hin.2.1 (by omega);omega
 have hst:kT t (L,(a':Int)) o[i]=(L++(t.drop a').take n,(a':Int)+n):=by simp[kT,k1,hn]
 rw[hst]at hs;obtain⟨m,hm⟩:∃m,(t.drop a').take n=m:=⟨_,rfl⟩;have hcut:cut (t.map aX) a' n=m.map aX:=by rw[ir,<-hm];simp
 have hlen2:m.length=n:=by rw[<-hm];simp;omega
 rw[hm]at hs;simp[k1,hn,ea,hle,hcut];refine⟨by omega,λH2=>⟨i+1,by omega,by omega,H2,?_⟩⟩;rw[hs];simp[e]):p:=h
theorem WT{p:Prop}(h:p:=by
 obtain⟨O,hdis⟩:=O1.trans H O2;refine⟨h2,E2,_,λj c=>match j with|0=>S1 c|j+1=>F2 j c,hk2,by simp[hl2],?_,?_,?_,O⟩
 ·intro j c hc
  cases j with
  |zero=>exact .inl hc
  |succ j=>exact .inr (hF2 j c hc)
 ·intro j j' c hc hc'
  cases j<;>cases j'
  ·rfl
  ·exact(hdis c hc (hF2 _ c hc')).elim
  ·exact(hdis c hc' (hF2 _ c hc)).elim
  ·rw[hd2 _ _ c hc hc']
 ·intro j t' hj
  cases j with
  |zero=>simp at hj;subst hj;exact hr1
  |succ j=>exact hr2 j t' (by simpa using hj)):p:=h
theorem WS{p:Prop}(h:p:=by
 rw[uD,Array.mapM_eq_mapM_toList];simp only[Sem.run_bind,Sem.run_map,h1',Result.andThen_ok,Sem.run_pure]
 cases vs with
 |nil=>simp
 |cons v vs=>cases vs<;>simp):p:=h
theorem Me{p:Prop}(h:p:=by
 cases h:d.list with
 |nil=>rw[h]at c9;simp at c9
 |cons a l=>exact⟨a,l,rfl⟩):p:=h
theorem WR{p:Prop}(h:p:=by
 simp[c]
 exact⟨i+1,⟨by omega,λj hj hjl=>by
  by_cases hji:j=i
  ·subst hji;exact c
  ·exact hi.2 j (by omega) hjl⟩,by omega,bL (by omega)⟩):p:=h
theorem WQ{p:Prop}(h:p:=by
 simp[hlt];by_cases h1:(s[i].toNat:Int)<97
 ·have hno:¬jd s:=λh=>by have:=(h.2 i hlt).1;omega
  simp[h1,aK hno]
 ·by_cases h2:122<(s[i].toNat:Int)
  ·have hno:¬jd s:=λh=>by have:=(h.2 i hlt).2;omega
   simp[h1,h2,hlt,aK hno]
  ·simp[h1,h2,hlt]
   refine⟨i+1,⟨by omega,λj hj=>?_⟩,by omega,bL (by omega)⟩;by_cases hji:j=i
   ·subst hji;exact λ_=>by omega
   ·exact hi.2 j (by omega)):p:=h
theorem WO{p:Prop}(h:p:=by
 intro n
 induction n with
 |zero=>intro i h;omega
 | succ n ih =>
   intro i hi hlt
   cases ho:on L i with
   |true=>rfl
   | false =>
     exfalso
     have:i∈Region.ready .any ops.toArray L:=(tl hL).2 ⟨hlt,ho,λk hk=>by
      simp only[eB,Array.any_eq_true',Bool.and_eq_true,beq_iff_eq]at hk;obtain⟨e,he,hb,rfl⟩:=hk;have:=D.back i hlt e he hb;exact ih e.on (by omega) (by omega)⟩
     rw[hr]at this;simp at this):p:=h
theorem WN{p:Prop}(h:p:=by
 obtain⟨j,H3⟩:=x;simp only at hx⊢;by_cases c:j<z
 ·have ej:Go.IntKind.i64.wrap ((j:Int)+1)=((j+1:Nat):Int):=bL (by omega)
  simp[c];intro b37;refine⟨by omega,λH4=>Ent.refl ⟨j+1,by omega,by omega,H4,?_⟩⟩;simp[ej,aX];exact⟨by omega,by rw[List.replicate_succ']⟩
 ·have:j=z:=by omega
  subst this;simp;refine Ent.refl ⟨i+1,by omega,by omega,H3,?_⟩;rw[hs];simp[e]):p:=h
theorem WM{p:Prop}(h:p:=by
 have hi1:i<=(l.length:Int):=by simpa using hi1
 simp[ju];refine ae.cur (df l hl L.length) hu (by simp) rfl hi0 hi1 (by simp) ?_
 rintro _ i1 h1 ⟨x,hx,rfl⟩ g0 g1
 obtain⟨k,rfl⟩:∃k:Nat,x=k:=⟨x.toNat,by have:=hx.1;omega⟩;have hk:k<L.length:=by have:=hx.2.2 (by omega);omega
 simp[hk];refine dJ (.c _ 1) ⟨L[k],List.getElem_mem hk,rfl⟩ ?_;simp;exact cU rfl g0 g1):p:=h
theorem WL{p:Prop}(h:p:=by
 have hZ:=htn hz;subst hZ;simp[hz];refine Ent.refl ⟨i+1,784,⟨by simp,by omega⟩,by omega,Q2,Q3,Q4,Q5,?_⟩;rw[hsuc2];simp;exact ewi):p:=h
theorem zV{p:Prop}(h:p:=by
 refine λb=>⟨by omega,λH2=>Ent.refl ⟨i+1,by omega,by omega,H2,?_⟩⟩
 rw[hs];simp[e,u8R]):p:=h
theorem WK{p:Prop}(h:p:=by
 have hsz:(1<=(s.size:Int)/\(s.size:Int)<=8)↔(1<=s.size/\s.size<=8):=by omega
 by_cases h3:1<=s.size/\s.size<=8
 ·have hy:jd s:=⟨h3,λj hj=>hi.2 j (by omega) hj⟩
  have h4:=hsz.2 h3;simp[h4,hy]
 ·have hno:¬jd s:=λh=>h3 h.1
  have h4:¬(1<=(s.size:Int)/\(s.size:Int)<=8):=λh=>h3 (hsz.1 h)
  simp[aK h4,aK hno]):p:=h
theorem Md{p:Prop}(h:p:=by
 simp;refine⟨by omega,λb=>⟨e1,by omega,λH2=>Ent.refl ⟨i+1,by omega,by omega,H2,?_⟩⟩⟩;simp;exact⟨bL (by omega),by rw[<-hT];exact mg (f:=wR ∘ bE) hlt⟩):p:=h
theorem WJ{p:Prop}(h:p:=by
 generalize fW d c.n=R at hat hf;obtain⟨list,code⟩:=R;simp only at hat hf;simp[c4];refine drw eok mix [0,1,2,3,4,5,6] [7,8,9,10,11,12] (.c 7 7 5 122 (.c 7 8 0 122 (.c 7 9 0 122 (.c 7 10 0 122 (.c 7 11 122 0 (.c 7 12 0 0 (.l 7 0) .s) .s) .s) .s) .s) .s) ?_;simp[hk,hd,Doc.row]
 try intros
 refine ae.pure (hf) (by simp[Doc.row,Doc.row]) ?_;simp
 try intros
 rw[hat];simp[Answer.res]):p:=h
theorem EV{p:Prop}(h:p:=by
 by_cases hn:0<=p.n/\p.n<=200
 ·simp[hn]
 ·have e:dc (0<=p.n/\p.n<=200)=false:=by rw[e8];exact hn
  simp[hn]):p:=h
theorem Mc{p:Prop}(h:p:=by
 have:=iG n1 (a:=e0) (by rw[hd];simp);unfold cN at this;omega):p:=h
theorem WI{p:Prop}(h:p:=by
 by_cases c2:l[i].rev=ar d
 ·simp[c2]
  refine⟨i+1,⟨by omega,λr hr=>?_⟩,by omega,bL (by omega)⟩;rw[<-List.take_append_getElem hlt]at hr;rcases List.mem_append.1 hr with hr|hr
  ·exact hi.2 r hr
  ·simp at hr;subst hr;exact⟨c1,c2⟩
 ·have h3:dc (qD ⟨d,l⟩)=false:=by rw[e8];exact hne (λh=>c2 h.2)
  simp[c2,h3]):p:=h
theorem WH{p:Prop}(h:p:=by
 refine⟨λp hp=>?_,λp hp q hq heq=>?_⟩
 ·rcases List.mem_cons.1 hp with rfl|hp
  ·exact⟨hip,rfl⟩
  ·exact hpv.op p hp
 ·rcases List.mem_cons.1 hp with rfl|hp<;>rcases List.mem_cons.1 hq with rfl|hq
  ·rfl
  ·have:=hlt _ (hdone q hq);simp only at heq;omega
  ·have:=hlt _ (hdone p hp);simp only at heq;omega
  ·exact hpv.one p hp q hq heq):p:=h
theorem Mb{p:Prop}(h:p:=by
 simp[hns',wR];refine drw eok mix [0,1,2] [3,4,5] (.c 3 3 3 4 (.c 3 4 4 0 (.c 3 5 0 0 (.l 3 0) .s) .s) .s) ?_;simp
 try intros
 refine ae.ro hask (by simp[Desk.row,wR]) ?_;simp
 try intros):p:=h
theorem WG{p:Prop}(h:p:=by
 refine⟨λk=>(hH.obj k).tr t (λb hk=>hb.block b (hH.lt hk)) (λc hc _=>hc),hH.inj,hH.low,λk c hc=>⟨(hH.elow k c hc).1,Nat.lt_of_lt_of_le (hH.elow k c hc).2 hb.size⟩,hH.einj,
  λk c hc=>⟨hH.em k c hc,λh=>by have:=(hH.elow k c hc).2;omega⟩,λc hc=>⟨hR.newer hc.1,hc.2,λ⟨k,hk⟩=>by have:=hH.lt hk;omega⟩⟩):p:=h
theorem Ma{p:Prop}(h:p:=by
 refine drw eok mix [0,1,2,3] [4,5,6] (.c 4 4 3 12 (.c 4 5 8 4 (.c 4 6 4 0 (.l 4 0) .s) .s) .s) ?_;simp
 try intros
 refine aE eok hask (by simp[Hub.row,wR]) ?_;simp
 try intros):p:=h
theorem WE{p:Prop}(h:p:=by
 simp[Hub.res]
 try intros
 refine ae.pure (hd) (by simp[Hub.row,Call.row,k]) ?_;simp[Answer.res]
 try intros
 rw[hat];simp):p:=h
theorem EU{p:Prop}(h:p:=by
 intro row h;rcases List.mem_or_eq_of_mem_set h with h|rfl
 ·rw[List.mem_map]at h
  obtain⟨a,-,rfl⟩:=h;rfl
 ·rfl):p:=h
theorem L9{p:Prop}(h:p:=by
 simp only[yielded,hd',Option.bind_some];simp only[Array.getD_eq_getD_getElem?]at hu
 cases hx:a.tmps[d]? with
 |none=>rfl
 |some v=>rw[hx]at hu;simp at hu;subst hu;rfl):p:=h
theorem qt{p:Prop}(h:p:=by simp[q2,y2 (λh=>q2 h.2),Call.none,Call.res]):p:=h
theorem WD{p:Prop}(h:p:=by
 cases hq:Region.ready .any ops.toArray L with
 |nil=>rfl
 | cons i l =>
   obtain⟨h1,h2,-⟩:=(tl hL).1 (show i∈Region.ready .any ops.toArray L by rw[hq];simp);have:i∈(List.range ops.length).filter λi=>!on L i:=List.mem_filter.2 ⟨List.mem_range.2 h1,by simp[h2]⟩
   have:=List.length_pos_of_mem this;omega):p:=h
theorem L5{p:Prop}(h:p:=by
 simp only[Array.getD_eq_getD_getElem?];rw[Array.getElem?_append_left hlt]):p:=h
theorem WC{p:Prop}(h:p:=by
 rintro _ i2 h2 ⟨s,hs,rfl⟩ g0 g1
 obtain⟨x,rfl,hx,hxl⟩:∃x,s=bs x/\(10:UInt8)∉x/\x.length<=20:=by
  simp at hs
  (repeat' rcases hs with rfl|hs)
  all_goals exact⟨_,by first|rfl|exact hs,by decide,by decide⟩
 simp;refine⟨_,⟨x,⟨hx,by omega⟩,rfl⟩,?_,cU rfl g0 g1⟩;simp):p:=h
theorem WB{p:Prop}(h:p:=by
 have hb:=(ho _ (List.getElem_mem hi)).bounds;have k1:=Ry (ho _ (List.getElem_mem hi));have k2:=RC (ho _ (List.getElem_mem hi));refine⟨by omega,λhk=>?_,by omega⟩
 have:fK o[i]+fD o[i]=o[i].n:=by
  unfold fK fD;by_cases c1:o[i].kind=1
  ·simp[c1]
  ·simp[c1,hk]
 omega):p:=h
theorem WA{p:Prop}(h:p:=by
 have hz:¬(a.length:Int)=b.length:=by omega
 simp[hz,e8];exact λh2=>absurd (by rw[h2]) h):p:=h
theorem uu{p:Prop}(h:p:=by
 rw[<-List.take_append_getElem h,List.foldl_append];rfl):p:=h
theorem xz{p:Prop}(h:p:=by exact xY (p:=λ_ _ K=>K _) (λ_ _=>wa _) K h):p:=h
theorem L3{p:Prop}(h:p:=by
 refine⟨_,⟨(⟨2,k,0,[]⟩:Event),(Bd (by decide) (by omega) (by omega) (by omega)),rfl⟩,?_,cU rfl g0 g1⟩;simp[Event.res]):p:=h
theorem Wz{p:Prop}(h:p:=by
 rintro rfl
 rw[hp2]at hs;rcases D.use _ hp1 d hs i (D.hpre i hip).1 hd with⟨-,hdep⟩|⟨hn,-⟩
 ·simp only[eB,Array.any_eq_true',Bool.and_eq_true,beq_iff_eq]at hdep
  obtain⟨e,he1,he2,he3⟩:=hdep;have:=D.back _ (D.hpre _ hp1).1 e he1 he2;omega
 ·exact hn hip):p:=h
theorem mU{p:Prop}(h:p:=by
 simp;exact cU rfl g0 g1):p:=h
theorem Wy{p:Prop}(h:p:=by
 have hlt':¬i<b.length:=by omega
 simp[hlt',sW];exact N4 (by omega) (by omega) hi.2):p:=h
theorem Wx{p:Prop}(h:p:=by
 obtain⟨i,hi,he⟩:=List.getElem_of_mem hm;have hs:i<s.size:=by have:=cO s.data.toList;rw[oh]at this;omega
 have h2:=h.2 i hs;have h3:s[i]=s.data.toList[i]:=by simp[ByteArray.getElem_eq_getElem_data]
 rw[h3,he]at h2;exact absurd h2.1 (by decide)):p:=h
theorem Ww{p:Prop}(h:p:=by
 by_cases s4:x.r.next+x.r.list.length=ar docs[k]+1
 ·have hf:=fin s1 s2 (λh=>absurd h (by omega)) k hk rfl (λ_=>s4)
  simp[e2,s4];exact⟨1,⟨by omega,hf⟩,by omega,bL (n:=0) (by omega)⟩
 ·simp[e1,e2,s4,aK (norev k hk rfl ho s4)]):p:=h
theorem L1{p:Prop}(h:p:=by
 have:=congrArg (λl:List Value=>l[j]?) hzc;simp only[Array.getElem?_toList,List.getElem?_map,hj,Option.map_some]at this;simp[this]):p:=h
theorem LZ{p:Prop}(h:p:=by
 rw[List.mem_map]at h;obtain⟨a,-,rfl⟩:=h;rfl):p:=h
theorem ur{p:Prop}(h:p:=by simp[q1,y2 (λh=>h.1 q1),Event.none,Event.res]):p:=h
theorem zU{p:Prop}(h:p:=by
 rw[List.eq_nil_of_length_eq_zero h0];exact .empty _ _ (by intro h;cases h)):p:=h
theorem ET{p:Prop}(h:p:=by
 simp;refine⟨by omega,by omega,?_⟩;simp[cw,cD,mG,iQ,J7,Lib.join_one]):p:=h
theorem Wv{p:Prop}(h:p:=by
 by_cases s4:x.r.next+x.r.list.length=ar docs[k]+1
 ·have hf:=fin s1 s2 hp k hk rfl (λ_=>s4)
  simp[e2,s4];exact⟨m+2,⟨by omega,hf⟩,by omega,by rw[Go.IntWalk.i64_in _ (by omega)];omega⟩
 ·simp[e1,e2,s4,aK (norev k hk rfl ho s4)]):p:=h
theorem Wu{p:Prop}(h:p:=by
 by_cases c:bS (gF name t)
 ·have e:gz name t=(gF name t,true):=by unfold gz;rw[if_pos c]
  simp[c,e,Doc.res];simp[gF]
 ·have e:gz name t=(Doc.zero,false):=by unfold gz;rw[if_neg c]
  simp[aK c,e,Doc.res,Doc.zero]):p:=h
theorem zT{p:Prop}(h:p:=by
 have e:(i+1)*sz=i*sz+sz:=Nat.succ_mul i sz;omega):p:=h
theorem Wt{p:Prop}(h:p:=by
 simp;exact⟨i+1,⟨by omega,Fp h hi.2 (QO h1)⟩,by omega,bL (by omega)⟩):p:=h
theorem Ws{p:Prop}(h:p:=by
 have:=hx i vd hi
 cases vd with
 |c d=>exact Rd.map this (λ_ _ _=>rfl) (λ_ _ _ q hq=>by cases hq)
 | agg ds =>
   obtain⟨ys,g1,g2,g3⟩:=this;exact⟨ys,g1,g2,λj d hd=>(g3 j d hd).map (λ_ _ _=>rfl) (λ_ _ _ q hq=>by cases hq)⟩):p:=h
theorem ady{p:Prop}(h:p:=by exact⟨m+2,⟨by omega,hf⟩,by omega,by rw[Go.IntWalk.i64_in _ (by omega)];omega⟩):p:=h
theorem Wr{p:Prop}(h:p:=by
 cases hdep:eB (bD ops i) q.1 with
 |false=>rfl
 | true =>
   exfalso
   by_cases hg:q.1∈G
   ·exact hqG (List.mem_append.2 (.inr hg))
   ·exact hqG (List.mem_append.2 (.inl (List.mem_map.2 ⟨q,List.mem_filter.2 ⟨hq,by simp[hdep,hg]⟩,rfl⟩)))):p:=h
theorem ES{p:Prop}(h:p:=by
 have q1':s≠[]:=λh=>q1 (by rw[q2,h])
 simp[q2,q1',y1 ⟨q1,q2⟩,Event.res]):p:=h
theorem Wq{p:Prop}(h:p:=by
 subst hz;refine Ent.refl ?_;have hs:=vY h;simp[h];refine Hs hrd ?_;have r0:rf []=[]:=rfl;simp[h,r0];intro b b1 H2;refine Ent.refl ⟨1,by omega,by omega,H2,?_⟩;rw[hs];simp[r0,re,pF,aX];exact jk (n:=1) (by omega)):p:=h
theorem Wp{p:Prop}(h:p:=by
 by_cases h1:r.has=true
 ·by_cases h2:x.client=r.client
  ·by_cases h3:x.seq=r.seq
   ·exact .inl ⟨h1,h2,h3⟩
   ·exact .inr (.inr (.inr ⟨h1,h2,h3⟩))
  ·exact .inr (.inr (.inl ⟨h1,h2⟩))
 ·exact .inr (.inl (by simpa using h1))):p:=h
theorem Wo{p:Prop}(h:p:=by
 try intros
 rw[hat];simp[Answer.res,gU]):p:=h
theorem adx{p:Prop}(h:p:=by
 refine⟨by omega,λH2=>⟨i+1,by omega,by omega,H2,?_⟩⟩;rw[hs];simp[e]):p:=h
theorem Wn{p:Prop}(h:p:=by
 have e:iU k=[]:=by
  unfold iU;rw[if_neg (by omega)];rw[if_neg (by omega)];rw[if_neg (by omega)];rw[if_neg (by omega)];rw[if_neg (by omega)];rw[if_neg (by omega)];rw[if_neg (by omega)];rw[if_neg (by omega)]
 simp[h,e]):p:=h
theorem Wm{p:Prop}(h:p:=by
 rw[if_neg c]at hs;refine Ent.refl ?_;simp[h];refine Hs hrd ?_;simp[h,hp,e1];refine Hs hrd ?_;simp[hmw,c];refine λb b1=>⟨by omega,λH2=>Ent.refl ⟨i+1,by omega,by omega,H2,?_⟩⟩
 rw[hs];simp[e,pF,aX]):p:=h
theorem Wl{p:Prop}(h:p:=by
 by_cases c2:dy (eF room rev)
 ·have e:=uZ c2
  rw[show eF room rev=⟨room,rev+1,false,[]⟩from rfl]at c2;simp[c2,e,Ring.res,eF]
 ·simp[aK c2,Dd c2,Ring.res,Ring.zero]):p:=h
theorem Wk{p:Prop}(h:p:=by
 have h:=I.pend p hp hiG;rw[hpo]at h;refine wZ (st:={ st with t:=pvT pv++st.t,h:=st2.h }) (λs hs=>?_) rfl h
 show cI (sl.map λs=>(s,cI full s)) s=cI full s
 rw[A4,if_pos (List.mem_append.2 hs)]):p:=h
theorem Wj{p:Prop}(h:p:=by
 unfold pvT;rw[List.mem_filterMap]
 constructor
 ·rintro⟨p,hp,h⟩
  rw[Option.map_eq_some_iff]at h;obtain⟨d,hd,he⟩:=h
  cases he
  exact⟨p,hp,hd,rfl⟩
 ·rintro⟨p,hp,hd,rfl⟩
  exact⟨p,hp,by rw[hd];rfl⟩):p:=h
theorem LY{p:Prop}(h:p:=by
 refine λb10=>⟨by omega,λH2=>Ent.refl ⟨i+1,by omega,by omega,H2,?_⟩⟩
 rw[hs];simp[e,Part.row]):p:=h
theorem Wi{p:Prop}(h:p:=by
 simp;intro H1 b;have e1:i=min i l.length:=by omega
 refine⟨e1,by omega,λH2=>Ent.refl ⟨i+1,by omega,by omega,H2,?_⟩⟩;simp;exact⟨bL (by omega),mg (f:=λe:Entry=>iF e.o) hlt⟩):p:=h
theorem LX{p:Prop}(h:p:=by
 simp only at h;have e:((x.toNat:Nat):Int)=x:=by omega
 rw[e]at h;rw[DU,show x % 256=x by omega,h]):p:=h
theorem Wh{p:Prop}(h:p:=by
 intro j hj;rw[hROW];simp only[Array.getD_eq_getD_getElem?];rw[Array.getElem?_append_left (by simp[oH];omega),Array.getElem?_append_left (by simp;omega)];simp[List.getElem?_take,hj,List.getD_eq_getElem?_getD]):p:=h
theorem zS{p:Prop}(h:p:=by
 rw[lj,abL];simp only[aY,List.length_nil];omega):p:=h
theorem qs{p:Prop}(h:p:=by simp[q2,y1 ⟨q1,q2⟩,Call.res]):p:=h
theorem Wg{p:Prop}(h:p:=by
 unfold l0;generalize fg eY [] 2=R at hc⊢;obtain⟨⟨⟨nm,fr,tx,ls,sn⟩,rp⟩,ok⟩:=R;simp;intro b0;refine ae.pure hc (by simp[eY]) ?_;simp[Net.res];intros;simp[Desk.res,Hub.zero]):p:=h
theorem LW{p:Prop}(h:p:=by
 refine⟨?_,cU rfl g0 g1⟩;intro a ha;rw[<-hset]at ha;obtain⟨p,-,rfl⟩:=List.mem_map.1 ha;rfl):p:=h
theorem zR{p:Prop}(h:p:=by
 have e0:F.length-1=m:=by omega
 simp[eE,hF0,e0]):p:=h
theorem Wf{p:Prop}(h:p:=by
 have h:=hno (k+1) (λh=>s4 (by have:=(h hlt).2.2.2 (by omega);rw[hx]at this;simp only[Nat.add_sub_cancel]at this;rwa[hy]at this));have s4':x.client<=y.client:=by omega
 simp[s4',aK h]):p:=h
theorem ER{p:Prop}(h:p:=by
 have:=xA a b (by simpa[frA]using h);rw[tA];simpa[gg]using this):p:=h
theorem EP{p:Prop}(h:p:=by
 refine⟨by omega,Ent.refl ⟨1,by omega,by omega,?_⟩⟩;simp[hn];rfl):p:=h
theorem We{p:Prop}(h:p:=by
 by_cases h:1<=n/\n<=200
 ·simp[h,dv,Part.row]
 ·have e:dc (1<=n/\n<=200)=false:=by rw[e8];exact h
  have k:dv n=[]:=by unfold dv;rw[if_neg h]
  simp[e,k]):p:=h
theorem EO{p:Prop}(h:p:=by
 have he:o.take i=o:=List.take_of_length_le (by omega);rw[he];simp[h]):p:=h
theorem LV{p:Prop}(h:p:=by
 intro q hq';rcases List.mem_append.1 hq' with c|c
 ·exact g3 q c
 ·rw[List.mem_singleton.1 c];exact hq):p:=h
theorem Wd{p:Prop}(h:p:=by
 by_cases h:cm (jZ r cb)
 ·rw[ka h]at e
  simp[h,e];simp[jZ]
 ·rw[pG h]at e
  have e2:dc (cm (jZ r cb))=false:=by rw[e8];exact h
  simp[e2,e,Rep.zero]):p:=h
theorem Wc{p:Prop}(h:p:=by
 cases H' with
 |none=>intro hk;simp[AObj.blk]at hk
 | some q =>
   obtain⟨b',o,C⟩:=q
   rintro hk ⟨cs,T,F,hb,_⟩
   simp only[AObj.blk,Option.some.injEq]at hk;subst hk;exact gd hb):p:=h
theorem Wb{p:Prop}(h:p:=by
 apply propext
 constructor
 ·intro hl q hq
  have:=hl q hq
  rwa[cW,if_neg (by rintro rfl;exact hq hk)]at this
 ·intro hl q hq
  rw[cW,if_neg (by rintro rfl;exact hq hk)];exact hl q hq):p:=h
theorem LU{p:Prop}(h:p:=by rw[e,dr,fk,ih.fr,<-ax,sp];simp only[aZ,List.append_nil,fk];omega):p:=h
theorem LS{p:Prop}(h:p:=by rw[e,dr,fM,ih.to,<-ay,sq];simp only[aZ,List.append_nil,fM];omega):p:=h
theorem Wa{p:Prop}(h:p:=by
 have hst:qV cl t (L,(a':Int)) o[i]=(L,(a':Int)+n):=by simp[qV,k1,k2,hn]
 rw[hst]at hs;simp[k3,hn,ea];refine Ent.refl ⟨i+1,by omega,by omega,H,?_⟩;rw[hs];simp[e]):p:=h
theorem V9{p:Prop}(h:p:=by
 exfalso
 have:(rows[r]).drop c=[]:=List.drop_eq_nil_of_le (by omega);rw[this]at h;unfold jC at h
 split at h
 ·rename_i hg
  have hn:=h.1;have hz:=ht.npos;simp at hn;omega
 ·exact h):p:=h
theorem V8{p:Prop}(h:p:=by
 have e:gf k=[]:=by
  unfold gf;rw[if_neg (by omega)];rw[if_neg (by omega)];rw[if_neg (by omega)];rw[if_neg (by omega)];rw[if_neg (by omega)];rw[if_neg (by omega)]
 simp[h,e]):p:=h
theorem V7{p:Prop}(h:p:=by
 have:i=reps.length:=by omega
 subst this;simp;refine Ent.refl ⟨r+1,k',⟨hk',by omega⟩,by omega,U2,U3,U4,U5,?_⟩;rw[hsuc];rcases hk' with rfl|rfl|rfl<;>simp<;>exact ew):p:=h
theorem V0{p:Prop}(h:p:=by
 obtain⟨q1,q2⟩:=hpv.op q hq;rcases D.use i hip s hs' q.1 (D.hpre _ q1).1 (by rw[<-q2];exact hqd)with⟨-,h⟩|⟨h,-⟩
 ·exact I.val q hq (hidep _ h) s hqd
 ·exact absurd q1 h):p:=h
theorem VZ{p:Prop}(h:p:=by
 rcases List.mem_append.1 hj with hj|hj
 ·obtain⟨p,hp,rfl⟩:=hall j hj
  exact⟨p,List.mem_cons_of_mem _ hp,rfl⟩
 ·simp at hj;subst hj;exact⟨_,List.mem_cons_self ..,rfl⟩):p:=h
theorem VY{p:Prop}(h:p:=by
 have e:dY r=(Call.zero,false):=by unfold dY;rw[if_neg (λh=>c1 h.1)]
 have e2:dc (cm r)=false:=by rw[e8];exact c1
 simp[e2,e,Call.res,Call.zero]):p:=h
theorem EN{p:Prop}(h:p:=by
 have e2:dc (cg a)=false:=by rw[e8];exact c1
 simp[e2,e]):p:=h
theorem EM{p:Prop}(h:p:=by
 have e2:dc (cg b)=false:=by rw[e8];exact c2
 simp[e2,e]):p:=h
theorem EL{p:Prop}(h:p:=by intro p hp;simp at hp;subst hp;exact sa hq.1 (Nat.le_refl _)):p:=h
theorem VX{p:Prop}(h:p:=by
 have hf:=fin s1 s2 (λh=>absurd h (by omega)) k hk rfl (λh=>absurd (ho.symm.trans h) (by simp));simp;exact⟨1,⟨by omega,hf⟩,by omega,bL (n:=0) (by omega)⟩):p:=h
theorem VW{p:Prop}(h:p:=by
 simp[Doc.res]
 try intros
 simp[e1];refine⟨by omega,λH'=>Ent.refl ⟨i+1,by omega,by omega,H',?_⟩⟩;simp;exact⟨bL (by omega),mg (f:=Doc.row) hlt⟩):p:=h
theorem VV{p:Prop}(h:p:=by
 simp[Rep.res]
 try intros
 simp[e1];refine⟨by omega,λH'=>Ent.refl ⟨i+1,by omega,by omega,H',?_⟩⟩;simp;exact⟨bL (by omega),mg (f:=Rep.row) hlt⟩):p:=h
theorem VU{p:Prop}(h:p:=by
 have h:bq ⟨sh,docs,subs,last⟩:=⟨c1,c2,c3,c4,λi=>by
  by_cases h:i<subs.length
  ·exact hi.2 i (by omega)
  ·exact λh'=>absurd h' h⟩
 simp[hlt,h]):p:=h
theorem LR{p:Prop}(h:p:=by
 simp[c5];exact⟨i+1,⟨by omega,Fp hlt hi.2 c5⟩,by omega,bL (by omega)⟩):p:=h
theorem VT{p:Prop}(h:p:=by
 rcases List.mem_cons.1 hp with rfl|hp
 ·exact key _ hip rfl (Nat.le_refl _) h2
 ·exact key p (hpv.op p hp).1 (hpv.op p hp).2 (Nat.le_of_lt (hlt _ (hdone p hp))) (hval p hp)):p:=h
theorem LQ{p:Prop}(h:p:=by
 cases L with
 |nil=>rfl
 |cons p l=>have:=h (by simp);simp at this;simp[Pj,this]):p:=h
theorem VS{p:Prop}(h:p:=by
 obtain⟨a1,a2⟩:=hpv.op p hp;obtain⟨b1,b2⟩:=hpv.op q hq;rw[a2]at h1;rw[b2]at h2;exact hpv.one p hp q hq (D.dst _ (D.hpre _ a1).1 _ (D.hpre _ b1).1 d h1 h2)):p:=h
theorem VR{p:Prop}(h:p:=by
 have e:dc (0<=r.rev/\r.rev<=999999999)=false:=by rw[e8];exact c3
 have hn:dc (cm r)=false:=by rw[e8];exact λh=>c3 h.2.2.1
 simp[e,hn]):p:=h
theorem VQ{p:Prop}(h:p:=by
 have e:dc (0<=r.seq/\r.seq<=999999999)=false:=by rw[e8];exact c2
 have hn:dc (cm r)=false:=by rw[e8];exact λh=>c2 h.2.1
 simp[e,hn]):p:=h
theorem LP{p:Prop}(h:p:=by
 cases hs:iL x y with
 |none=>rfl
 |some r=>have:=(jL hi hs).dec;omega):p:=h
theorem VP{p:Prop}(h:p:=by
 obtain⟨⟨a,rfl⟩,rfl⟩:=hx;rw[show rows=[]from ho,show cut ([]:List (List CD)) off 0=[]from by simp[ir]];exact .empty _ _ (by intro h;cases h)):p:=h
theorem VO{p:Prop}(h:p:=by
 have c12:dc (iM l[i])=false:=by rw[e8];exact c1
 have h3:dc (qD ⟨d,l⟩)=false:=by rw[e8];exact hne (λh=>c1 h.1)
 simp[c12,h3]):p:=h
theorem LO{p:Prop}(h:p:=by
 intro r hr;rcases List.mem_append.1 hr with hr|hr
 ·exact hL r hr
 ·exact hn.ok r hr):p:=h
theorem VN{p:Prop}(h:p:=by
 have e:dc (1<=r.client/\r.client<=8)=false:=by rw[e8];exact c1
 have hn:dc (cm r)=false:=by rw[e8];exact λh=>c1 h.1
 simp[e,hn]):p:=h
theorem VM{p:Prop}(h:p:=by
 match j,hj with
 |0,hj=>cases hj;exact .cv _ _ ⟨ua,uc,hlen⟩
 |1,hj=>cases hj;exact .v _ rfl
 |2,hj=>cases hj;exact .v _ rfl
 |j+3,hj=>cases hj):p:=h
theorem VL{p:Prop}(h:p:=by exact⟨k+2,⟨by omega,fin (λ_=>by simp only[Nat.add_sub_cancel];rw[hy];exact s4) s2 s3⟩,by omega,by rw[Go.IntWalk.i64_in _ (by omega)];omega⟩):p:=h
theorem xy{p:Prop}(h:p:=by
 split at hc
 ·exact hc.elim
 ·exact hc):p:=h
theorem LN{p:Prop}(h:p:=by
 have e:dc (cg o)=false:=by rw[e8];exact c1
 simp[e,no (λh=>c1 h.1)]):p:=h
theorem pj{p:Prop}(h:p:=by simp[aK c1,aK h]):p:=h
theorem VK{p:Prop}(h:p:=by
 cases H with
 |none=>obtain⟨⟨a,rfl⟩,_⟩:=hx;rfl
 | some q =>
   obtain⟨b,o,C⟩:=q;rcases hx with⟨rfl,_⟩|⟨_,_,a,rfl⟩<;>rfl):p:=h
theorem VJ{p:Prop}(h:p:=by
 have e:=lZ (r:=r) (λh=>c1 h.1);have e2:dc (cm r)=false:=by rw[e8];exact c1
 simp[e2,e,Rep.res,Rep.zero,Call.res,Call.zero]):p:=h
theorem VI{p:Prop}(h:p:=by
 rw[e];simp[hd,ht];by_cases e0:text=[]<;>by_cases e1:o=[]<;>by_cases e2:seq=0<;>by_cases e3:client=0<;>simp[e0,e1,e2,e3,ho,ht]):p:=h
theorem EK{p:Prop}(h:p:=by simp[q1,q2,y2 (λh=>q2 h.2),Event.none,Event.res]):p:=h
theorem VH{p:Prop}(h:p:=by
 have h:¬gS ⟨d,l⟩:=λh=>c2 h.2.1
 have c2':¬(1<=(l.length:Int)/\(l.length:Int)<=4):=by omega
 simp[aK c2',aK h]):p:=h
theorem LM{p:Prop}(h:p:=by
 try intros
 refine Ent.refl ⟨i+1,by omega,by omega,?_⟩;simp[e1,hs,Om]):p:=h
theorem VG{p:Prop}(h:p:=by
 by_cases c3:cu e.o
 ·have h:dq e:=⟨c1,c2,c3⟩
  simp[c3,h]
 ·have h:¬dq e:=λh=>c3 h.2.2
  simp[aK c3,aK h]):p:=h
theorem VF{p:Prop}(h:p:=by
 rcases(h8 i hi).2 s hs k hk with h|h
 ·exact absurd hd h
 ·split at h
  ·rename_i hp;exact .inl ⟨hp,h⟩
  ·rename_i hp;exact .inr ⟨hp,h⟩):p:=h
theorem VE{p:Prop}(h:p:=by
 rw[if_neg (by omega),if_neg (by omega),List.getElem?_append_left (by omega),List.getElem?_take,if_pos c1,hRg j c1];simp[List.getD_eq_getElem?_getD]):p:=h
theorem VC{p:Prop}(h:p:=by
 have e:i=list.length:=by omega
 have ht:(list.map kR).take list.length=list.map kR:=List.take_of_length_le (by simp);subst e;simp[ht]):p:=h
theorem VB{p:Prop}(h:p:=by
 cases ok with
 |false=>exact .inl rfl
 | true => by_cases h : t = r.text
           ·exact .inr (.inr ⟨rfl,h⟩)
           ·exact .inr (.inl ⟨rfl,h⟩)):p:=h
theorem VA{p:Prop}(h:p:=by
 by_cases h:cm (ji r t s1 s2)
 ·rw[ka h]at e
  simp[h,e];simp[ji,hA]
 ·rw[pG h]at e
  simp[aK h,e,Rep.zero]):p:=h
theorem Vz{p:Prop}(h:p:=by
 have e:=lZ (r:=r) (λh=>ch h.2.1);have ch2:r.has=true:=by simpa using ch
 simp[ch2,e,Rep.res,Rep.zero,Call.res,Call.zero]):p:=h
theorem Vy{p:Prop}(h:p:=by
 have ha:=vc (by omega) hi.2;simp[h];refine tM ?_;unfold gk;exact⟨λh=>by have:=h.2;omega,λh=>⟨ha,by omega⟩⟩):p:=h
theorem Vx{p:Prop}(h:p:=by
 refine⟨by omega,λH''=>Ent.refl ⟨i+1,by omega,by omega,H'',?_⟩⟩;simp;exact⟨bL (by omega),mg (f:=Sub.row) hlt⟩):p:=h
theorem Vw{p:Prop}(h:p:=by
 refine⟨by omega,λH2=>Ent.refl ⟨i+1,by omega,by omega,H2,?_⟩⟩;simp;exact⟨bL (by omega),mg (f:=Entry.row) hlt⟩):p:=h
theorem Vv{p:Prop}(h:p:=by
 by_cases hz:code=0
 ·rw[if_pos hz]at e
  simp[hz,e,Rep.row];exact mn
 ·rw[if_neg hz]at e
  simp[hz,e,Rep.row];exact mn):p:=h
theorem Vu{p:Prop}(h:p:=by
 have hq':=(List.mem_filter.1 hq).1;have hq2:=(List.mem_filter.1 hq).2;simp only[Bool.and_eq_true]at hq2;exact I.val q hq' (hidep _ hq2.1) d hd):p:=h
theorem Vt{p:Prop}(h:p:=by
 have e:dY r=(Call.zero,false):=by unfold dY;rw[if_neg (λh=>by rw[ch]at h;simp at h)]
 simp[e,Call.res,Call.zero]):p:=h
theorem LL{p:Prop}(h:p:=by
 have ih:=y4 a b (by simpa[frA]using h);rw[tA];simp[frA,toA];omega):p:=h
theorem Vs{p:Prop}(h:p:=by
 rw[if_pos h1,if_pos (by omega),show i-k=(i-(k+1))+1 by omega];rfl):p:=h
theorem Vr{p:Prop}(h:p:=by
 split
 ·rename_i h;subst h;exact .inr (List.mem_cons_self ..)
 ·rcases ih with h|h
  ·exact .inl h
  ·exact .inr (List.mem_cons_of_mem _ h)):p:=h
theorem EJ{p:Prop}(h:p:=by exact one rfl (λfs h=>by rw[hu]at h;simp at h)):p:=h
theorem Vq{p:Prop}(h:p:=by
 rw[List.getD_eq_getElem?_getD]
 cases hx:(bc 32 s)[i]? with
 |none=>simp
 |some x=>have:=hw x (List.mem_of_getElem? hx);simp;omega):p:=h
theorem Vp{p:Prop}(h:p:=by
 have e:fV d rev=([],false):=by unfold fV;rw[if_neg c]
 have c':(gB d rev).2=false:=by simpa using c
 simp[c',e]):p:=h
theorem Vo{p:Prop}(h:p:=by
 have:=Nat.mul_le_mul_right te.n (show i+1<=rows.length by omega);have e:(i+1)*te.n=i*te.n+te.n:=Nat.succ_mul i te.n;omega):p:=h
theorem Vn{p:Prop}(h:p:=by
 have e:gB d rev=([],false):=by unfold gB;rw[if_neg c]
 have c':(gR d rev).2=false:=by simpa using c
 simp[c',e]):p:=h
theorem LK{p:Prop}(h:p:=by exact⟨v,av,by simpa[Instr.loadAt,Instr.sureAddr]using h1,h2,h3⟩):p:=h
theorem Vm{p:Prop}(h:p:=by
 refine⟨by decide,by decide,λb=>⟨by omega,λH2=>Ent.refl ⟨i+1,by omega,by omega,H2,?_⟩⟩⟩;rw[hs];simp[e,u8R]):p:=h
theorem Vl{p:Prop}(h:p:=by
 rw[<-hyes c1]at hc;generalize eJ r rev=R at hc⊢;obtain⟨R1,R2⟩:=R;refine ae.pure hc (by simp) ?_;simp[Ring.res]):p:=h
theorem LJ{p:Prop}(h:p:=by
 simp only[Array.getD_eq_getD_getElem?];rw[Array.getElem?_append_left hq]):p:=h
theorem Vk{p:Prop}(h:p:=by
 by_cases h:cm (lB r t)
 ·rw[ka h]at e
  simp[h,e];simp[lB]
 ·rw[pG h]at e
  simp[aK h,e,Rep.zero]):p:=h
theorem Vj{p:Prop}(h:p:=by
 cases H with
 |none=>cases hb
 |some q=>obtain⟨b',o,C⟩:=q;obtain⟨cs,T,F,h1,-⟩:=h;cases hb;exact⟨cs,T,h1⟩):p:=h
theorem Vi{p:Prop}(h:p:=by
 have c2':6<(subs.length:Int):=by omega
 have h:¬bq ⟨sh,docs,subs,last⟩:=λh=>c2 h.2.1
 simp[c1',c2',aK h]):p:=h
theorem Vh{p:Prop}(h:p:=by
 intro q hq d hd he;obtain⟨q1,q2⟩:=hpv.op q hq;rw[q2]at hd;have:=D.dst _ (D.hpre _ q1).1 i hilt d hd he;exact hip (this ▸ q1)):p:=h
theorem LI{p:Prop}(h:p:=by
 have:=hx 0 _ rfl;generalize xs.getD 0 undef=y at this
 cases this;rfl):p:=h
theorem Vg{p:Prop}(h:p:=by
 rintro e w' ⟨v,rr,rfl,rfl,hb,hr⟩
 have h:Rd w' false _ v (.v u):=hr
 cases h with
 |plain h=>exact⟨_,rfl,hb,rfl,hu⟩):p:=h
theorem Vf{p:Prop}(h:p:=by
 have hp':=(List.mem_filter.1 hp).1;have hlt:=(D.hpre _ (hpv.op p hp').1).1;exact I.val p hp' (hon (p.1+1) p.1 (by omega) hlt) d hd):p:=h
theorem gM{p:Prop}(h:p:=by
 simp only;omega):p:=h
theorem EI{p:Prop}(h:p:=by
 split at h
 ·exact⟨_,h,rfl⟩
 ·exact h.elim):p:=h
theorem Ve{p:Prop}(h:p:=by
 rw[if_neg (by omega),if_pos (by omega),List.getElem?_append_right (by omega),List.getElem?_drop,List.getElem?_drop]
 congr 2
 omega):p:=h
theorem Vd{p:Prop}(h:p:=by
 have e:fJ r=[]:=by unfold fJ;rw[if_neg c1]
 have e2:dc (cm r)=false:=by rw[e8];exact c1
 simp[e2,e]):p:=h
theorem Vc{p:Prop}(h:p:=by
 rw[if_neg (by omega),if_neg (by omega),List.getElem?_append_left (by omega),List.getElem?_take,if_pos c1,hcs j (by omega)];simp):p:=h
theorem Vb{p:Prop}(h:p:=by
 rw[hROW];simp only[Array.size_append,List.size_toArray,oH,hzz,htl];rw[<-Nat.add_mul,<-Nat.add_mul]
 congr 1
 omega):p:=h
theorem Va{p:Prop}(h:p:=by
 have c1':5<(docs.length:Int):=by omega
 have h:¬bq ⟨sh,docs,subs,last⟩:=λh=>c1 h.1
 simp[c1',aK h]):p:=h
theorem U9{p:Prop}(h:p:=by
 refine ae.ro hst (by simp[Net.row]) ?_;simp[Net.res];intro b17
 cases okr with
 |true=>simp[Ao]
 |false=>simp[Mx]):p:=h
theorem ec{p:Prop}(h:p:=by exact h.elim):p:=h
theorem ib{p:Prop}(h:p:=by simp[nL,fX]):p:=h
theorem U8{p:Prop}(h:p:=by
 have:q'=p:=hpv.one q' hq' p hp (by rw[hqi,hpi]);subst this;rw[hpd]at hd';cases hd';rw[hd,abq hdlt];exact q.val):p:=h
theorem U7{p:Prop}(h:p:=by
 intro i j row d hi hj;exact(h9 i j row d hi hj).map (λc hc hl=>t.frame c hl (h7 i j c hc).2) (λc hc hl=>⟨hc,hl⟩)):p:=h
theorem U6{p:Prop}(h:p:=by
 intro h1 h2 h3 j hj;by_cases hji:j=i
 ·subst hji;intro hh;rw[hx];exact⟨s1,h2,h3,h1⟩
 ·exact hi.2 j (by omega)):p:=h
theorem LH{p:Prop}(h:p:=by rw[agK rfl];simp only[gg,this.2];exact⟨this.1,trivial⟩):p:=h
theorem EH{p:Prop}(h:p:=by
 split
 ·exact vM _
 ·exact oP):p:=h
theorem U0{p:Prop}(h:p:=by
 unfold dC
 split
 ·split
  ·decide
  ·exact Og (by unfold mE;decide) (by decide) l
 ·exact List.not_mem_nil):p:=h
theorem zQ{p:Prop}(h:p:=by exact .inr ⟨rfl,by simp,by simp⟩):p:=h
theorem zP{p:Prop}(h:p:=by
 split
 ·rw[if_neg (by omega)]
 ·rfl):p:=h
theorem UZ{p:Prop}(h:p:=by
 by_cases k1:o[i].kind=1
 ·simp[k1]
  omega
 ·by_cases k2:o[i].kind=2
  ·simp[k2];omega
  ·simp[k1,k2];omega):p:=h
theorem xx{p:Prop}(h:p:=by exact absurd hw List.not_mem_nil):p:=h
theorem UY{p:Prop}(h:p:=by
 go_wp2
 refine⟨⟨k+1,by simp,hkn,?_⟩,by simp[intOf];omega⟩;have:=hb.out;rw[<-h3.out]at this;exact this):p:=h
theorem UX{p:Prop}(h:p:=by
 intro s2 s hne;unfold ASt.aft
 split
 ·rfl
 ·rename_i d hd
  simp only[cI];rw[if_neg (λhe=>hne (by rw[hd,he]))]):p:=h
theorem EG{p:Prop}(h:p:=by
 simp at this;obtain⟨x,-,rfl⟩:=this;rfl):p:=h
theorem UW{p:Prop}(h:p:=by
 refine Sf (I.rep.move hrel q.tr q.same).rep r (λs hs=>?_);rw[hd]at hs;cases hs;exact I.mask p hp hiG d hpd):p:=h
theorem UV{p:Prop}(h:p:=by
 refine⟨by omega,λH=>?_⟩;refine Ent.refl ⟨i+1,by omega,by omega,Hl,H,?_⟩;rw[hs];simp[fC,c2,e]):p:=h
theorem UU{p:Prop}(h:p:=by
 have s3':x.id<=y.id:=by omega
 simp[s3',aK (noprev (by omega) (by simp only[Nat.add_sub_cancel];rwa[hy]))]):p:=h
theorem UT{p:Prop}(h:p:=by
 have e:=hf.2 (λh=>c4 h.1);have e2:dc (cg (normal (xf a b).1))=false:=by rw[e8];exact c4
 simp[e2,e]):p:=h
theorem US{p:Prop}(h:p:=by
 have e:=hf.2 (λh=>c5 h.2);have e2:dc (cg (normal (xf a b).2))=false:=by rw[e8];exact c5
 simp[e2,e]):p:=h
theorem UR{p:Prop}(h:p:=by
 rcases List.mem_or_eq_of_mem_set hr with hr|rfl
 ·have:=hk r hr;omega
 ·have:=hk _ (List.getElem_mem hi);omega):p:=h
theorem UQ{p:Prop}(h:p:=by
 rintro i j c ⟨hc,hl⟩
 exact⟨λho=>hE c ((h7 i j c hc).1 ho) hl,λhM=>(h7 i j c hc).2 (t.mono c hl hM)⟩):p:=h
theorem mT{p:Prop}(h:p:=by exact Nat.zero_le _):p:=h
theorem LG{p:Prop}(h:p:=by exact⟨λh=>by rw[if_pos h],λh=>by rw[if_neg h]⟩):p:=h
theorem UP{p:Prop}(h:p:=by
 have h3:qD ⟨d,l⟩:=λr hr=>hi.2 r (by rw[List.take_of_length_le (by omega)];exact hr)
 simp[hlt,h3]):p:=h
theorem UO{p:Prop}(h:p:=by
 intros
 cases ok with
 |false=>simp at e;simp[e]
 |true=>simp at e;simp[e,j9,Rep.row,hi];exact mn):p:=h
theorem UN{p:Prop}(h:p:=by
 rw[if_pos (by omega)];simp only[List.getD_eq_getElem?_getD];rw[List.getElem?_append_right (by omega)]
 congr 2
 omega):p:=h
theorem UM{p:Prop}(h:p:=by
 rw[List.getLast?_eq_getElem?,hm,Nat.add_sub_cancel,List.getElem?_eq_getElem hml]at he2;exact Option.some.inj he2):p:=h
theorem pg{p:Prop}(h:p:=by rw[tH];omega):p:=h
theorem EF{p:Prop}(h:p:=by simp only[tH,List.length_nil];omega):p:=h
theorem UL{p:Prop}(h:p:=by exact .ro _ _ (by simpa[cut]using Rd.empty (w:=w) (x:=false) (S:=λb=>¬M b) _ _ (by intro h;cases h))):p:=h
theorem UK{p:Prop}(h:p:=by
 refine⟨?_,h2⟩;rcases h1 with⟨q,hq⟩|⟨q,hq⟩
 ·exact(H0.elow q c hq).1
 ·exact(H0.low q c hq).2):p:=h
theorem UJ{p:Prop}(h:p:=by
 rw[if_pos (by omega),List.getElem?_append_right (by omega),List.getElem?_drop,List.getElem?_drop]
 congr 2
 omega):p:=h
theorem UI{p:Prop}(h:p:=by
 have h:¬bS d:=λh=>c4 h.2.2.2.1
 have c4':8<(d.list.length:Int):=by omega
 simp[c4',aK h]):p:=h
theorem UH{p:Prop}(h:p:=by
 rw[setRow_other _ _ c _ hne]
 show(W1.setRow w.heap.size cs1).heap[c]? = _
 rw[setRow_other _ _ c _ hne,hO c hc]):p:=h
theorem xw{p:Prop}(h:p:=by simp[tsz]at hx hy⊢;omega):p:=h
theorem UG{p:Prop}(h:p:=by
 try intros
 refine⟨by omega,?_⟩;rw[e1];simp[c3,Entry.row]
 try (rintro row (⟨a,-,rfl⟩|rfl)<;>rfl)):p:=h
theorem UF{p:Prop}(h:p:=by
 rcases h7 i hi k hk with(h|h)|h
 ·exact h
 ·rw[hd]at h;cases h
 ·rw[hd,hd']at h;exact absurd rfl h):p:=h
theorem UE{p:Prop}(h:p:=by
 rw[if_neg (by omega),hcs j c1];simp only[List.getD_eq_getElem?_getD];rw[List.getElem?_append_left (by omega)]):p:=h
theorem UD{p:Prop}(h:p:=by
 rw[gv,hBe,gv,hCe];simp[fC,q2,hpsz,qpos2,R.gx,R.gy,A640,A5000,A672,A5002,A5003]):p:=h
theorem UC{p:Prop}(h:p:=by
 rw[uE (hs i hilt (by rw[hset];simp))];exact(I.frame s (λk hk hkon=>hs k hk (hmono k hkon))).tr q.tr):p:=h
theorem EE{p:Prop}(h:p:=by
 have e:=hm.2 (by simp);simp[e,Rep.zero]):p:=h
theorem UB{p:Prop}(h:p:=by
 have e:=lZ (r:=r) (λh=>h.2.2.2 cs);simp[ci2,cs,e,Rep.res,Rep.zero,Call.res,Call.zero]):p:=h
theorem UA{p:Prop}(h:p:=by
 rcases hc with hc|hc
 ·rcases hM c hc with rfl|hc
  ·exact .inr hXb
  ·exact .inl hc
 ·exact .inr hc.1):p:=h
theorem Uz{p:Prop}(h:p:=by
 obtain⟨h1,h2⟩:=hF1E i' j' c hc;rcases hM c hm with rfl|h
 ·exact h2 rfl
 ·exact(hF i j c h1).2 h):p:=h
theorem LF{p:Prop}(h:p:=by simp[Hub.res,aco (λh=>c1 h.1),Answer.res,gU]):p:=h
theorem LD{p:Prop}(h:p:=by simp[Hub.res,aco (λh=>c2 h.2),Answer.res,gU]):p:=h
theorem Uy{p:Prop}(h:p:=by
 simp only[Array.getD_eq_getD_getElem?]at h2⊢;rw[Array.getElem?_eq_getElem hsz]at h2⊢
 simpa using h2):p:=h
theorem Ux{p:Prop}(h:p:=by
 cases ok with
 |false=>simp at e;simp[e]
 |true=>simp at e;simp[e,j9,Rep.row];exact mn):p:=h
theorem Uw{p:Prop}(h:p:=by
 rcases p7.1 hm with h1|⟨j,_,hj⟩
 ·simp[AObj.blk]at h1;exact h1 ▸ hMb
 ·exact⟨j,hj⟩):p:=h
theorem LC{p:Prop}(h:p:=by
 rw[List.take_of_length_le (by simp;omega)];simp[cut,e]):p:=h
theorem Uv{p:Prop}(h:p:=by
 cases hg:ti.agg with
 |true=>rfl
 |false=>obtain⟨h1,-⟩:=ht.nst hg;rw[h1]at hf;simp at hf):p:=h
theorem Uu{p:Prop}(h:p:=by
 have h:gS ⟨d,l⟩:=⟨c1,c2,λj hj=>hi.2 j (by simp only at hj;omega) hj⟩;simp[hlt,h]):p:=h
theorem Ut{p:Prop}(h:p:=by rw[e,dr,fk,ih.fr,<-ax];simp only[aZ,List.append_nil];rw[aq,wC];simp):p:=h
theorem Us{p:Prop}(h:p:=by
 have e:=lZ (r:=r) (λh=>h.2.2.1 ci);simp[ci,e,Rep.res,Rep.zero,Call.res,Call.zero]):p:=h
theorem Ur{p:Prop}(h:p:=by
 rw[I7,I7]
 cases hs:jG x y with
 |none=>rfl
 |some r=>have:=(kQ hi hs).dec;omega):p:=h
theorem Uq{p:Prop}(h:p:=by
 rw[Ox _ (λp hp=>hsome p (Gj _ _ hp)),tp];unfold rL;rw[tp,List.map_map]):p:=h
theorem Up{p:Prop}(h:p:=by
 unfold cut
 split
 ·rename_i h
  rw[List.take_of_length_le (by have:=h.2;simp at this;omega)]
 ·simp):p:=h
theorem Uo{p:Prop}(h:p:=by
 have:=Cd n1 (l:=L) (λe he=>by rw[<-hL]at he;exact List.mem_of_mem_drop he) hq;omega):p:=h
theorem Un{p:Prop}(h:p:=by
 have e:=hf.2 c4;have e2:dc (cg (normal (cmp a b)))=false:=by rw[e8];exact c4
 simp[e2,e]):p:=h
theorem zO{p:Prop}(h:p:=by rw[this];simp only[aZ]):p:=h
theorem Um{p:Prop}(h:p:=by
 rw[if_neg hse];have hse':¬s=[115,101,116,116,108,101]:=hse;simp[l2',l3',hse',gN]):p:=h
theorem Ul{p:Prop}(h:p:=by
 split
 ·rename_i h3;rw[if_pos h3]at h;exact key _ h
 ·rename_i h3;rw[if_neg h3]at h;simp at h):p:=h
theorem Uk{p:Prop}(h:p:=by
 unfold fJ
 split
 ·have:=Bl [r.sent,r.buf] r.text
  unfold dX at hrn;omega
 ·simp):p:=h
theorem Uj{p:Prop}(h:p:=by
 obtain⟨q,hq',hqk⟩:=hall k hkp;exact hq ⟨q,hq',by rw[(hpv.op q hq').2,hqk];exact hkd⟩):p:=h
theorem Ui{p:Prop}(h:p:=by
 rw[if_neg (λh=>t0 h.1)];have t0':¬x0=[98,97,99,107]:=t0;simp[t0',hns',wR,gN]):p:=h
theorem Uh{p:Prop}(h:p:=by
 simp only[hg]at hk⊢;exact mC (mC (adG λrow=>C2 ti (row.drop c))) K hk):p:=h
theorem Ug{p:Prop}(h:p:=by
 subst he;rcases h with h|⟨j,hne,hj⟩
 ·exact h ⟨k,hbk⟩
 ·exact hne (H'.inj _ _ _ hj hbk)):p:=h
theorem Uf{p:Prop}(h:p:=by
 cases j with
 |zero=>simp at hj;subst hj;exact hv1
 |succ j=>exact hv2 j x (by simpa using hj)):p:=h
theorem Ue{p:Prop}(h:p:=by
 intro h j hj hjl;by_cases hji:j=i
 ·subst hji;rw[hr];exact h
 ·exact hi.2 j (by omega) hjl):p:=h
theorem ED{p:Prop}(h:p:=by simp[aK c1,hno (λh=>c1 h.1)]):p:=h
theorem LB{p:Prop}(h:p:=by simp[q2,y2 (λh=>q2 h.2),Event.none,Event.res]):p:=h
theorem Ud{p:Prop}(h:p:=by
 cases h with
 |empty a cap=>exact⟨a,cap,rfl⟩
 |slice b off cap=>exact⟨_,cap,rfl⟩):p:=h
theorem Uc{p:Prop}(h:p:=by
 have e:=pL (r:=r) (e:=x) (λh=>c2 h.2.1);simp[aK c2,e,Rep.res,Rep.zero]):p:=h
theorem Ub{p:Prop}(h:p:=by
 have hn:dc (cm r)=false:=by rw[e8];exact λh=>c8 h.2.2.2.2.2.2.2.1
 simp[c8,hn]):p:=h
theorem Ua{p:Prop}(h:p:=by
 intro l hl;have:l=[]:=List.length_eq_zero_iff.1 (by omega);subst this;rw[Lib.count_one];rfl):p:=h
theorem T9{p:Prop}(h:p:=by
 have h:=hno i (λh=>s1 (by have:=(h hlt).1;rwa[hx]at this));simp[aK s1,aK h]):p:=h
theorem T8{p:Prop}(h:p:=by
 intro i;unfold on;simp only[Array.getD_eq_getD_getElem?,Array.getElem?_replicate]
 split<;>rfl):p:=h
theorem LA{p:Prop}(h:p:=by
 rw[Lib.join_cons,Lib.join_cons];simp[Lib.joinTail]):p:=h
theorem T7{p:Prop}(h:p:=by
 by_cases hz:code=0
 ·rw[if_pos hz]at e
  simp[hz,e]
 ·rw[if_neg hz]at e
  simp[hz,e]):p:=h
theorem EC{p:Prop}(h:p:=by exact List.take_of_length_le (by simp)):p:=h
theorem T6{p:Prop}(h:p:=by
 have e:=pL (r:=r) (e:=x) (λh=>c1 h.1);simp[aK c1,e,Rep.res,Rep.zero]):p:=h
theorem T5{p:Prop}(h:p:=by
 have h:bS d:=⟨c1,c2,c3,c4,c5,c6,λj hj=>hi.2 j (by omega) hj⟩;simp[hlt,h]):p:=h
theorem T4{p:Prop}(h:p:=by
 have hn:dc (cm r)=false:=by rw[e8];exact λh=>c7 h.2.2.2.2.2.2.1
 simp[c7,hn]):p:=h
theorem T3{p:Prop}(h:p:=by
 have hs:s=[]:=h.run (by simp);subst hs;simp[bE,kz,Gs h0,YM h0]):p:=h
theorem TZ{p:Prop}(h:p:=by
 simp[hns',wR];refine fw hask (by simp[Desk.row,wR]) ?_
 rintro _ rfl
 simp[Desk.res]):p:=h
theorem TY{p:Prop}(h:p:=by
 show(W1.setRow w.heap.size cs1).heap[b]? = _
 rw[setRow_other _ _ _ _ hbN,hO _ hbw];exact hb):p:=h
theorem Lz{p:Prop}(h:p:=by simp only[fieldAt,wF];cases ti.fields[f]?<;>rfl):p:=h
theorem xv{p:Prop}(h:p:=by(repeat' split)<;>decide):p:=h
theorem TX{p:Prop}(h:p:=by
 have h:¬bq ⟨sh,docs,subs,last⟩:=λh=>c3 h.2.2.1
 simp[aK c3,aK h]):p:=h
theorem TW{p:Prop}(h:p:=by
 have he:i=l.length:=by omega
 subst he;rw[List.drop_length,mz]at h3;subst h3;simp):p:=h
theorem TV{p:Prop}(h:p:=by
 have hn:dc (cm r)=false:=by rw[e8];exact λh=>c6 h.2.2.2.2.2.1
 simp[c6,hn]):p:=h
theorem xu{p:Prop}(h:p:=by simp[aK c2,aK h]):p:=h
theorem TU{p:Prop}(h:p:=by
 cases hx:d.list with
 |nil=>rw[hx]at h0;simp at h0
 |cons y L=>exact⟨y,L,rfl⟩):p:=h
theorem TT{p:Prop}(h:p:=by
 exfalso
 have:=fY ex;rw[ex]at hxt;rw[ey]at hyf;simp[tos,frs,p3]at hxt hyf;omega):p:=h
theorem TS{p:Prop}(h:p:=by
 exfalso
 have:=fY ey;rw[ex]at hxt;rw[ey]at hyf;simp[tos,frs,q2]at hxt hyf;omega):p:=h
theorem TR{p:Prop}(h:p:=by
 have e:=hno (λh=>c2 (by have:=h.2.1;simp only at this;omega));simp[aK c2,e]):p:=h
theorem TQ{p:Prop}(h:p:=by
 have hn:dc (cm r)=false:=by rw[e8];exact λh=>c5 h.2.2.2.2.1
 simp[c5,hn]):p:=h
theorem TP{p:Prop}(h:p:=by
 intro h1;rw[h1]at h2;obtain⟨x,hx⟩:=List.length_eq_one_iff.1 h2.symm;exact hne x hx):p:=h
theorem TO{p:Prop}(h:p:=by
 by_cases h2:55296<=n/\n<=57343<;>simp[h2,jM,h]
 try (rw[sW];omega)):p:=h
theorem TN{p:Prop}(h:p:=by
 obtain⟨b,o,C⟩:=q;obtain⟨cs,T,F,-,-,-,-,-,hrl,-⟩:=ho;exact hrl _ hm):p:=h
theorem TM{p:Prop}(h:p:=by
 cases l with
 |nil=>rfl
 |cons b l=>simp only[sB,Bool.and_eq_true]at h;exact h.2):p:=h
theorem TL{p:Prop}(h:p:=by
 have e:dc (0<=n/\n<=1114111)=false:=by rw[e8];exact h
 simp[jM,h]):p:=h
theorem TK{p:Prop}(h:p:=by
 have he:i=w.length:=by omega
 subst he;refine Ent.refl ?_;simp
 rintro _ x y-rfl
 rfl):p:=h
theorem TJ{p:Prop}(h:p:=by
 have hn:dc (cm r)=false:=by rw[e8];exact λh=>c4 h.2.2.2.1
 simp[c4,hn]):p:=h
theorem EB{p:Prop}(h:p:=by simp only[tH,GA];omega):p:=h
theorem TH{p:Prop}(h:p:=by exact⟨1,⟨by omega,fin (by simp) s2 s3⟩,by omega,bL (n:=0) (by omega)⟩):p:=h
theorem TG{p:Prop}(h:p:=by
 have e:dm l name = -1:=B9 (λj hj=>hi.2 j (by omega) hj);simp[hlt,e]):p:=h
theorem TF{p:Prop}(h:p:=by
 have e2:dc (cm r)=false:=by rw[e8];exact c1
 simp[e2,e,Rep.res,Rep.zero]):p:=h
theorem TD{p:Prop}(h:p:=by
 rcases p7.1 hM with h1|⟨j,_,hj⟩
 ·simp[AObj.blk]at h1
 ·exact⟨j,hj⟩):p:=h
theorem TB{p:Prop}(h:p:=by
 rename_i x y _ hargs
 rw[ha x (by rw[hargs];simp),ha y (by rw[hargs];simp)];exact h):p:=h
theorem nV{p:Prop}(h:p:=by simp[Rep.zero_n]):p:=h
theorem TA{p:Prop}(h:p:=by
 exfalso
 have:=fY ex;rw[ex]at hxt;rw[ey]at hyf;simp[frs,p2]at hxt hyf;omega):p:=h
theorem Tz{p:Prop}(h:p:=by
 exfalso
 have:=fY ey;rw[ex]at hxt;rw[ey]at hyf;simp[frs,q2]at hxt hyf;omega):p:=h
theorem Tx{p:Prop}(h:p:=by
 have e:gA l n=([],false):=by unfold gA;rw[if_neg c]
 simp[c,e]):p:=h
theorem Tw{p:Prop}(h:p:=by
 refine Ent.refl ⟨i+1,by omega,by omega,Hl,Hp,?_⟩;rw[hs];simp[fC,c3,e]):p:=h
theorem Tu{p:Prop}(h:p:=by exact⟨[.s []],vD.one (.empty _ _ (λh=>by simp at h)),by simp[s5,hu]⟩):p:=h
theorem Tt{p:Prop}(h:p:=by
 have e:kI l id = -1:=B9 (λj hj=>hi.2 j (by omega) hj);simp[hlt,e]):p:=h
theorem Ts{p:Prop}(h:p:=by
 have s3':ar d<r.rev:=by omega
 simp[s3',aK (hno (λh=>s3 h.2.2.1))]):p:=h
theorem Ly{p:Prop}(h:p:=by
 rw[Nat.add_mul,Nat.one_mul]at this;exact this):p:=h
theorem Tq{p:Prop}(h:p:=by(repeat' split at h)<;>first|(subst h;exact(by assumption:w=_).symm)|omega):p:=h
theorem Tp{p:Prop}(h:p:=by
 by_cases h:i<docs.length
 ·exact hi.2 i (by omega)
 ·exact λh'=>absurd h' h):p:=h
theorem To{p:Prop}(h:p:=by
 intro r hr;rcases List.mem_append.1 hr with hr|hr
 ·exact hL r hr
 ·exact hok r hr):p:=h
theorem mS{p:Prop}(h:p:=by simpa using this):p:=h
theorem Tn{p:Prop}(h:p:=by
 split at this
 ·rename_i d hd;exact⟨d,hd,by simpa using this⟩
 ·simp at this):p:=h
theorem Lx{p:Prop}(h:p:=by rw[agK rfl];simp[frA,toA]at ih⊢;omega):p:=h
theorem Tm{p:Prop}(h:p:=by
 by_cases q:(apply y.o d.text).2=true
 ·exact q
 ·rw[if_neg q]at hs;cases hs):p:=h
theorem Tl{p:Prop}(h:p:=by
 rcases List.mem_cons.1 h with rfl|h
 ·rw[if_neg k];omega
 ·have:=ih h;omega):p:=h
theorem Tk{p:Prop}(h:p:=by
 rw[Addr.add_lit];exact mA hbv (λj hj=>hcv j (by omega)) (by omega) j v hj):p:=h
theorem EA{p:Prop}(h:p:=by simp[c2,hno (λh=>c2 h.2.1)]):p:=h
theorem Tj{p:Prop}(h:p:=by
 have hs:s=[]:=h.run (by simp);subst hs;simp[bE,mK,Ou h0]):p:=h
theorem Ti{p:Prop}(h:p:=by exact t.frame b (hR.base_le b (.inl hF)) (λ⟨q,hq⟩=>(HH.low q b hq).1 hF)):p:=h
theorem Th{p:Prop}(h:p:=by
 have e:nk o t=([],false):=by unfold nk;rw[if_neg c1]
 simp[c1,e]):p:=h
theorem Tg{p:Prop}(h:p:=by
 have e:=we (d:=d) (rev:=rev) (λh=>c1 h.1);simp[aK c1,e]):p:=h
theorem Tf{p:Prop}(h:p:=by
 have e:=we (d:=d) (rev:=rev) (λh=>c2 h.2);simp[aK c2,e]):p:=h
theorem Te{p:Prop}(h:p:=by rw[<-hrl q (List.mem_of_getElem? g)];exact(List.getElem?_eq_some_iff.1 hj).1):p:=h
theorem Ez{p:Prop}(h:p:=by simp at hq;subst hq;simp;omega):p:=h
theorem Td{p:Prop}(h:p:=by
 obtain⟨x',h1,h2,h3⟩:=hq;exact⟨μ x',h2,x',h1,rfl,h3.rep hR'⟩):p:=h
theorem Tc{p:Prop}(h:p:=by
 rintro(h|h|h)
 ·exact .inr (.inl h)
 ·exact .inl h
 ·exact .inr (.inr h)):p:=h
theorem Tb{p:Prop}(h:p:=by
 have e:et d=[]:=by unfold et;rw[if_neg ok]
 simp[ok,e]):p:=h
theorem Ta{p:Prop}(h:p:=by
 have e:=xb (d:=d) (rev:=rev) (λh=>c1 h.1);simp[aK c1,e]):p:=h
theorem S9{p:Prop}(h:p:=by
 have e:=xb (d:=d) (rev:=rev) (λh=>c2 h.2);simp[aK c2,e]):p:=h
theorem S8{p:Prop}(h:p:=by
 rintro e w' ⟨v,rr,rfl,h1,hb,hr⟩
 exact⟨v,rr,rfl,h _ h1,hb,hr⟩):p:=h
theorem S7{p:Prop}(h:p:=by rw[if_neg (by omega),if_pos (by omega),List.getElem?_append_left (by omega)]):p:=h
theorem S6{p:Prop}(h:p:=by simp[aK c1,Ha (d:=d) (base:=base) (o:=o) (λh=>c1 h.1)]):p:=h
theorem S5{p:Prop}(h:p:=by simp[aK c2,Ha (d:=d) (base:=base) (o:=o) (λh=>c2 h.2)]):p:=h
theorem nU{p:Prop}(h:p:=by simp only;omega):p:=h
theorem S4{p:Prop}(h:p:=by
 have e:oY l=⟨#[]⟩:=by unfold oY;rw[if_neg ok]
 simp[ok,e]):p:=h
theorem S3{p:Prop}(h:p:=by
 have he:i=l.length:=by omega
 subst he;simp;exact aar (ZH ok)):p:=h
theorem SZ{p:Prop}(h:p:=by
 rw[<-List.take_append_getElem h,List.map_append,List.flatten_append];simp):p:=h
theorem SY{p:Prop}(h:p:=by simp[execOp,ho,resolve,hc,hu,Deferred.ofValue,invoke,uC h.1]):p:=h
theorem SX{p:Prop}(h:p:=by
 rw[show du ⟨⟨nm,fr,tx,ls,sn⟩,rp⟩ ⟨4,i,0,[]⟩=(A,(du ⟨⟨nm,fr,tx,ls,sn⟩,rp⟩ ⟨4,i,0,[]⟩).2)from by rw[hA]]at cA;generalize (du ⟨⟨nm,fr,tx,ls,sn⟩,rp⟩ ⟨4,i,0,[]⟩).2=gU at cA
 clear hay han hA
 obtain⟨⟨n1,f1,t1,l1,s1⟩,r1⟩:=A;simp only at cA;rcases hk' with rfl|rfl|rfl
 all_goals
  simp[hlt2,hrp,hrr,Rep.row,hh];refine ae.pure cA (by simp[Net.row,Event.row]) ?_;simp[Net.res];intro O2 O3 O4 O5;refine ae.pure cB (by simp[Net.row,Event.row]) ?_;simp[Net.res];intro P2 P3 P4 P5;refine ae.pure cC (by simp[Net.row,Event.row]) ?_;simp[Net.res];intro Q2 Q3 Q4 Q5 b7;by_cases hz:code=3
  ·exact W9
  ·exact WL):p:=h
theorem SW{p:Prop}(h:p:=by
 have hA:=han (hha.trans hh);subst hA
 clear hay han
 rcases hk' with rfl|rfl|rfl
 all_goals
  simp[hlt2,hrp,hrr,Rep.row,hh];refine ae.pure cB (by simp[Net.row,Event.row]) ?_;simp[Net.res];intro P2 P3 P4 P5;refine ae.pure cC (by simp[Net.row,Event.row]) ?_;simp[Net.res];intro Q2 Q3 Q4 Q5 b7;by_cases hz:code=3
  ·exact W9
  ·exact WL):p:=h
theorem SV{p:Prop}(h:p:=by
 have hb:=ru out p;generalize cQ out p=r at h3 hc hb;obtain⟨q,k⟩:=r;simp only at h3 hc hb;simp[h,hp,iF];refine ae.ro hc (by simp) ?_
 cases k with
 | false =>
   simp at h3;simp[<-h3]
 | true =>
   simp at h3;simp;refine Ent.refl ⟨i+1,q,⟨by omega,hb,h3⟩,by omega,?_⟩;simp;exact qu):p:=h
theorem SU{p:Prop}(h:p:=by
 obtain⟨X,code⟩:=R;simp only at hd hat;simp[k];refine ae.pure hd (by simp[Hub.row]) ?_;simp[Hub.res];intros;by_cases z:code=0
 ·rw[if_pos z]at hat
  simp[z];refine drw eok mix [0,1] [2,3] (.c 2 2 2 1 (.c 2 3 1 0 (.l 2 0) .s) .s) ?_;simp;exact Wo
 ·exact adA):p:=h
theorem Lw{p:Prop}(h:p:=by
 simp;refine⟨by omega,Ent.refl ⟨i+1,by omega,by omega,?_⟩⟩;simp[hn];exact qu):p:=h
theorem SS{p:Prop}(h:p:=by
 refine⟨by omega,λH2=>Ent.refl ⟨i+1,out++[⟨2,0,l⟩],⟨by omega,by simp;omega,?_,?_⟩,by omega,H2,?_⟩⟩
 ·rw[lj,abL]
  simp only[aY];omega
 ·rw[hst,hwd];simp
 ·simp[Part.row]
  exact qu):p:=h
theorem SR{p:Prop}(h:p:=by
 rename_i v hv
 have hlt:q<xs.size:=by rw[hs];exact(List.getElem?_eq_some_iff.1 hv).1
 have e:(xs++Array.replicate (fn.ntmps-xs.size) undef).getD q undef=xs.getD q undef:=by
  exact L5
 rw[e];exact(hx q v hv).ph):p:=h
theorem SQ{p:Prop}(h:p:=by
 simp[k];refine drw eok mix [0,2,3] [1,4,5,6] (.c 3 1 4 3 (.c 3 4 3 0 (.c 3 5 0 0 (.c 3 6 0 0 (.l 3 0) .s) .s) .s) .s) ?_;simp
 try intros
 refine ae.pure (gY h (by omega)) (by simp[Hub.row]) ?_;exact WE):p:=h
theorem SP{p:Prop}(h:p:=by
 simp[k];refine drw eok mix [0,2,3] [1,4,5,6] (.c 3 1 4 3 (.c 3 4 3 0 (.c 3 5 0 0 (.c 3 6 0 0 (.l 3 0) .s) .s) .s) .s) ?_;simp
 try intros
 refine ae.pure (jw h (by omega)) (by simp[Hub.row]) ?_;exact WE):p:=h
theorem SO{p:Prop}(h:p:=by
 obtain⟨X,code⟩:=R;simp only at hd hat;simp[k];refine ae.pure hd (by simp[Hub.row]) ?_;simp[Hub.res];intros;by_cases z:code=0
 ·rw[if_pos z]at hat
  simp[z,hat,Answer.res,gU]
 ·exact adz):p:=h
theorem SM{p:Prop}(h:p:=by
 simp;refine ae.cur (abV l hl) hu (by simp) rfl hi0 hi1 (by simp) ?_
 rintro _ i2 h2 ⟨o,hp,rfl⟩ g0 g1
 simp;intro Ho;refine dJ (.c _ 3) ⟨o,hp,rfl⟩ ?_;exact mU):p:=h
theorem SL{p:Prop}(h:p:=by
 by_cases hk:cY w=i
 ·have hq:=hat.2 hk
  rw[if_pos hk]at hnx;exact EW
 ·have hq:¬iU i=w:=λh=>hk (hat.1 h)
  rw[if_neg hk]at hnx;exact EW):p:=h
theorem SK{p:Prop}(h:p:=by
 by_cases hk:fO w=i
 ·have hq:=hat.2 hk
  rw[if_pos hk]at hnx;exact EW
 ·have hq:¬gf i=w:=λh=>hk (hat.1 h)
  rw[if_neg hk]at hnx;exact EW):p:=h
theorem SJ{p:Prop}(h:p:=by
 by_cases hc:C=n
 ·subst hc
  go_enter Tryz.func164,Tryz.ntmps164
  exact EX
 ·go_enter Tryz.func164,Tryz.ntmps164
  exact EX):p:=h
theorem SI{p:Prop}(h:p:=by
 by_cases hc:C=n
 ·subst hc
  go_enter Tryz.func245,Tryz.ntmps245
  exact EX
 ·go_enter Tryz.func245,Tryz.ntmps245
  exact EX):p:=h
theorem SH{p:Prop}(h:p:=by
 have hst:kT t (L,(a':Int)) o[i]=(L++o[i].signs,(a':Int)):=by simp[kT,k2]
 rw[hst]at hs;simp[k2];exact adx):p:=h
theorem zN{p:Prop}(h:p:=by
 simp[Part.row];exact qu):p:=h
theorem SG{p:Prop}(h:p:=by
 simp;refine Br.mk (λh1=>?_) (λh1=>?_)
 ·exact Wt
 ·simp[e8]
  exact λhp=>X4 h (Xw h1) hp.1):p:=h
theorem SF{p:Prop}(h:p:=by
 intro b;by_cases c:l[i].name=name
 ·have e:dm l name=i:=Ff hlt c hi.2
  simp[c,e]
 ·exact WR):p:=h
theorem SE{p:Prop}(h:p:=by
 intro b;by_cases c:l[i].id=id
 ·have e:kI l id=i:=Ff hlt c hi.2
  simp[c,e]
 ·exact WR):p:=h
theorem pf{p:Prop}(h:p:=by
 simp;exact qu):p:=h
theorem SD{p:Prop}(h:p:=by
 simp;refine Br.mk (λh1=>?_) (λh1=>?_)
 ·exact Wt
 ·simp[e8]
  exact X4 h (Xw h1)):p:=h
theorem SC{p:Prop}(h:p:=by
 intro i j hi hj;have:=Nat.mul_le_mul_right sz (show i+1<=rows.length by omega);exact zT):p:=h
theorem SB{p:Prop}(h:p:=by
 have hf:=fin s1 s2 hp k hk rfl (λh=>absurd (ho.symm.trans h) (by simp));simp;exact ady):p:=h
theorem SA{p:Prop}(h:p:=by
 have:=ih.ap (t.drop m) (by simp only[aZ,List.length_drop];omega);exact zO):p:=h
theorem Sz{p:Prop}(h:p:=by
 simp;refine Ent.refl ⟨i+1,by omega,by omega,?_⟩;simp[hs];exact qu):p:=h
theorem Sy{p:Prop}(h:p:=by
 by_cases h1:k+1<=i
 ·exact Vs
 ·rw[if_neg h1,if_neg (by omega)]):p:=h
theorem Sx{p:Prop}(h:p:=by
 refine⟨by omega,?_⟩;refine ae.pure (bY n) (by simp) ?_;exact Lw):p:=h
theorem iA{p:Prop}(h:p:=by intro h;cases h):p:=h
theorem zM{p:Prop}(h:p:=by simpa using hk):p:=h
theorem aa{p:Prop}(h:p:=by omega):p:=h
theorem aJ{p:Prop}(h:p:=by simp;omega):p:=h
theorem ab{p:Prop}(h:p:=by simp):p:=h
theorem alG{p:Prop}(h:p:=by simpa[Instr.loadAt,Instr.sureAddr]using lW (P:=P) ht hb (o:=c) (by omega)):p:=h
theorem Lv{p:Prop}(h:p:=by rw[hs];exact(List.getElem?_eq_some_iff.1 hv).1):p:=h
theorem iz{p:Prop}(h:p:=by simp at h):p:=h
theorem Ey{p:Prop}(h:p:=by simp at h⊢;omega):p:=h
theorem uq{p:Prop}(h:p:=by simpa using hl):p:=h
theorem fR{p:Prop}(h:p:=by simpa using hi):p:=h
theorem Ex{p:Prop}(h:p:=by rw[Nat.add_mul];omega):p:=h
theorem uo{p:Prop}(h:p:=by simpa using hlt):p:=h
theorem nT{p:Prop}(h:p:=by simpa using h2):p:=h
theorem kG{p:Prop}(h:p:=by rw[hget];rfl):p:=h
theorem qo{p:Prop}(h:p:=by simp[execOp,ho,h1]):p:=h
theorem qn{p:Prop}(h:p:=by simp[AObj.blk]at hb):p:=h
theorem mf{p:Prop}(h:p:=by simpa using hj):p:=h
theorem pe{p:Prop}(h:p:=by simpa using hd):p:=h
theorem ql{p:Prop}(h:p:=by simp at hd):p:=h
theorem rW{p:Prop}(h:p:=by simp at h;exact h.1):p:=h
theorem um{p:Prop}(h:p:=by simp at h;exact h.2):p:=h
theorem Lu{p:Prop}(h:p:=by rw[hi]at hi';exact(Option.some.inj hi').symm):p:=h
theorem ag{p:Prop}(h:p:=by decide):p:=h
theorem me{p:Prop}(h:p:=by unfold maxLen;omega):p:=h
theorem zL{p:Prop}(h:p:=by rw[<-hrl _ (List.mem_of_getElem? hi)];exact(List.getElem?_eq_some_iff.1 hj).1):p:=h
theorem Ew{p:Prop}(h:p:=by rw[hsz];exact hN.len):p:=h
theorem Ev{p:Prop}(h:p:=by rw[<-hnl _ (List.mem_of_getElem? hi')];exact(List.getElem?_eq_some_iff.1 hj').1):p:=h
theorem nS{p:Prop}(h:p:=by simpa using h):p:=h
theorem uk{p:Prop}(h:p:=by simp[Builtin.len_,run_underlying hu,goInt]):p:=h
theorem uj{p:Prop}(h:p:=by cases hq:c.args;simp_all):p:=h
theorem Lt{p:Prop}(h:p:=by cases hq:c.argTypes;simp_all):p:=h
theorem xt{p:Prop}(h:p:=by simp[Region.wanted,hg,hy,hbw]):p:=h
theorem Eu{p:Prop}(h:p:=by cases b<;>cases want<;>simp_all):p:=h
theorem Ls{p:Prop}(h:p:=by simp[Region.wanted,hg,hy]):p:=h
theorem pd{p:Prop}(h:p:=by rw[hb];rfl):p:=h
theorem xr{p:Prop}(h:p:=by simp[AH.get,AObj.blk]at hk):p:=h
theorem nR{p:Prop}(h:p:=by simp[h1]):p:=h
theorem zK{p:Prop}(h:p:=by simp[ha]at h):p:=h
theorem kF{p:Prop}(h:p:=by cases h):p:=h
theorem Et{p:Prop}(h:p:=by rw[hu]at hu';cases hu'):p:=h
theorem zJ{p:Prop}(h:p:=by simpa using hx):p:=h
theorem Sw{p:Prop}(h:p:=by simp only[yielded,hd',Option.bind_some,getD_some hu]):p:=h
theorem Lr{p:Prop}(h:p:=by rw[hset];split<;>simp[hj]):p:=h
theorem Sv{p:Prop}(h:p:=by have:=I.g _ hg;rw[hpi,hioff]at this;simp at this):p:=h
theorem Ep{p:Prop}(h:p:=by unfold ASt.aft;split<;>rfl):p:=h
theorem gq{p:Prop}(h:p:=by rw[h]):p:=h
theorem nP{p:Prop}(h:p:=by simp[kZ]):p:=h
theorem xq{p:Prop}(h:p:=by simp[kZ,XS]):p:=h
theorem lG{p:Prop}(h:p:=by rw[hx]):p:=h
theorem qj{p:Prop}(h:p:=by rw[hrs]):p:=h
theorem ah{p:Prop}(h:p:=by kernel_rfl):p:=h
theorem alF{p:Prop}(h:p:=by rw[Go.IntWalk.i64_in _ (by omega)];omega):p:=h
theorem lF{p:Prop}(h:p:=by simp[Part.row]):p:=h
theorem pb{p:Prop}(h:p:=by simp[dN]):p:=h
theorem Eo{p:Prop}(h:p:=by simp[bH,hP,hD]):p:=h
theorem xp{p:Prop}(h:p:=by simp[Part.row,ck]):p:=h
theorem xo{p:Prop}(h:p:=by simp[eE]):p:=h
theorem En{p:Prop}(h:p:=by rw[e8];exact h):p:=h
theorem Em{p:Prop}(h:p:=by have:=f2 q hq;omega):p:=h
theorem gL{p:Prop}(h:p:=by simp only;omega):p:=h
theorem alE{p:Prop}(h:p:=by rw[o1 ky R.ne.symm (by omega)];exact R.gy):p:=h
theorem alD{p:Prop}(h:p:=by rw[o1 q q1 (by omega)];exact R.o q q1 q2 q3):p:=h
theorem iy{p:Prop}(h:p:=by rw[<-hh0];simp):p:=h
theorem El{p:Prop}(h:p:=by rw[<-ey];exact oky):p:=h
theorem xn{p:Prop}(h:p:=by simp[ey]at yl;omega):p:=h
theorem zI{p:Prop}(h:p:=by rw[<-hcmp,hcm,List.append_assoc]):p:=h
theorem Ej{p:Prop}(h:p:=by rw[<-ex];exact okx):p:=h
theorem Ei{p:Prop}(h:p:=by simp[ex]at xl;omega):p:=h
theorem Eh{p:Prop}(h:p:=by simp[ex]at xl⊢;omega):p:=h
theorem Eg{p:Prop}(h:p:=by simp[ey]at yl⊢;omega):p:=h
theorem Lq{p:Prop}(h:p:=by rw[Go.IntWalk.i64_in _ (by have:=R.cx.bnd;omega)];omega):p:=h
theorem Su{p:Prop}(h:p:=by rw[Go.IntWalk.i64_in _ (by have:=R.cy.bnd;omega)];omega):p:=h
theorem Ef{p:Prop}(h:p:=by have:=h.2.2.2.2.2.2.2.2;rw[ch]at this;simpa using this):p:=h
theorem Ee{p:Prop}(h:p:=by rw[ch];simpa using h):p:=h
theorem ep{p:Prop}(h:p:=by simp[Rep.row]):p:=h
theorem xk{p:Prop}(h:p:=by unfold dX at hl;omega):p:=h
theorem Lp{p:Prop}(h:p:=by rw[List.length_append];omega):p:=h
theorem Lo{p:Prop}(h:p:=by first|omega|(simp;omega)):p:=h
theorem lE{p:Prop}(h:p:=by simp[Entry.row]):p:=h
theorem aV{p:Prop}(h:p:=by simp[Doc.row]):p:=h
theorem Ed{p:Prop}(h:p:=by have:=(h hlt).2.1;rwa[hx]at this):p:=h
theorem qi{p:Prop}(h:p:=by simpa[frA]using h):p:=h
theorem rV{p:Prop}(h:p:=by simp[frA]at h):p:=h
theorem Ec{p:Prop}(h:p:=by unfold maxLen at hC;omega):p:=h
theorem Eb{p:Prop}(h:p:=by rw[List.length_drop,hul,Nat.sub_mul]):p:=h
theorem Ea{p:Prop}(h:p:=by simp[World.frozen?,hbv]):p:=h
theorem alC{p:Prop}(h:p:=by have:=Nat.mul_le_mul_right 3 (show i+1<=n by omega);omega):p:=h
theorem rU{p:Prop}(h:p:=by simp only[Nat.min_def];split<;>omega):p:=h
theorem pa{p:Prop}(h:p:=by rw[hxl,hzs]):p:=h
theorem ui{p:Prop}(h:p:=by rw[IntKind.wrap_i64];omega):p:=h
theorem D9{p:Prop}(h:p:=by rw[oH,hzz]):p:=h
theorem rT{p:Prop}(h:p:=by simp[nL,fX]):p:=h
theorem o9{p:Prop}(h:p:=by unfold B4;omega):p:=h
theorem cM{p:Prop}(h:p:=by simp[Hub.row]):p:=h
theorem iR{p:Prop}(h:p:=by simp[Ring.row]):p:=h
theorem kE{p:Prop}(h:p:=by simp[Net.row]):p:=h
theorem Ln{p:Prop}(h:p:=by generalize cs.getD 0 undef=y at c0;cases c0;rfl):p:=h
theorem Lm{p:Prop}(h:p:=by generalize cs.getD 1 undef=y at c1;cases c1;rfl):p:=h
theorem Ll{p:Prop}(h:p:=by generalize cs.getD 2 undef=y at c2;cases c2;rfl):p:=h
theorem St{p:Prop}(h:p:=by have:=ho _ (List.getElem_mem h);rcases this with q|q;simp[q.2.2];omega):p:=h
theorem Lk{p:Prop}(h:p:=by rw[List.length_replicate];omega):p:=h
theorem xj{p:Prop}(h:p:=by simp;exact⟨rfl,rfl,rfl,rfl⟩):p:=h
theorem xi{p:Prop}(h:p:=by simp;exact⟨rfl,rfl⟩):p:=h
theorem D8{p:Prop}(h:p:=by simp[ASt.quiet,qT,qH,AV.q,AObj.q]):p:=h
theorem ug{p:Prop}(h:p:=by decide +kernel):p:=h
theorem Ss{p:Prop}(h:p:=by simp[IntKind.wrap,IntKind.bits,IntKind.signed];omega):p:=h
theorem alB{p:Prop}(h:p:=by rw[Int.tdiv_eq_ediv_of_nonneg n0];exact w6 _ (by omega) (by omega)):p:=h
theorem Lj{p:Prop}(h:p:=by have:=h2 h0;simpa using this.symm):p:=h
theorem xh{p:Prop}(h:p:=by unfold mE;decide):p:=h
theorem D7{p:Prop}(h:p:=by simp[Lib.join_nil]):p:=h
theorem zH{p:Prop}(h:p:=by rw[cO];simp):p:=h
theorem alA{p:Prop}(h:p:=by rw[h3,List.drop_of_length_le (by omega)];simp[fI]):p:=h
theorem alz{p:Prop}(h:p:=by rw[h4,List.drop_of_length_le (by omega)];simp[fI]):p:=h
theorem rS{p:Prop}(h:p:=by simpa using Int.ofNat.inj h):p:=h
theorem D6{p:Prop}(h:p:=by have:=HN.out;omega):p:=h
theorem Li{p:Prop}(h:p:=by rw[List.length_map];exact hl):p:=h
theorem Lh{p:Prop}(h:p:=by have:=u7 e;simp[kR];omega):p:=h
theorem Lg{p:Prop}(h:p:=by unfold bV;rw[if_neg h]):p:=h
theorem Lf{p:Prop}(h:p:=by unfold aU;rw[if_neg h]):p:=h
theorem Le{p:Prop}(h:p:=by unfold aU;rw[if_pos h]):p:=h
theorem dE{p:Prop}(h:p:=by simp[Call.row]):p:=h
theorem Sr{p:Prop}(h:p:=by have:=c1.1;unfold cD at d;simp only at this;omega):p:=h
theorem rR{p:Prop}(h:p:=by simp[cw,cD,mG,iQ,wR]):p:=h
theorem D5{p:Prop}(h:p:=by have:=hw w h;omega):p:=h
theorem o8{p:Prop}(h:p:=by simp[Event.row]):p:=h
theorem qg{p:Prop}(h:p:=by unfold clS;rw[hw0];simp only[hx1,hx2,hx3,hx4,hx5,t1,t2,t3,t4];simp[cD,k]):p:=h
theorem D4{p:Prop}(h:p:=by unfold iC at hl;omega):p:=h
theorem xg{p:Prop}(h:p:=by rw[c2];simp):p:=h
theorem rQ{p:Prop}(h:p:=by simp[Hub.row,c2]):p:=h
theorem rP{p:Prop}(h:p:=by rw[c3];simp):p:=h
theorem rO{p:Prop}(h:p:=by simp[Doc.row,Doc.row]):p:=h
theorem Ld{p:Prop}(h:p:=by unfold bW;split<;>rfl):p:=h
theorem Sq{p:Prop}(h:p:=by unfold cQ;rw[if_pos ⟨ha,hb,h⟩,if_pos n.1]):p:=h
theorem D3{p:Prop}(h:p:=by simp[tA,gg,kY]):p:=h
theorem Lc{p:Prop}(h:p:=by have:=aav a;simp only[toA,frA,gg];omega):p:=h
theorem DZ{p:Prop}(h:p:=by have:=hev.2.1;omega):p:=h
theorem Lb{p:Prop}(h:p:=by rw[lZ c]at hy;cases hy):p:=h
theorem xe{p:Prop}(h:p:=by simp[gF]):p:=h
theorem La{p:Prop}(h:p:=by rw[ny]at hj;exact hj):p:=h
theorem Sp{p:Prop}(h:p:=by simp only[List.length_append,List.length_cons,List.length_nil];omega):p:=h
theorem zG{p:Prop}(h:p:=by simp[eF]):p:=h
theorem uf{p:Prop}(h:p:=by simp[Hub.zero]):p:=h
theorem lD{p:Prop}(h:p:=by simpa using hi1):p:=h
theorem aly{p:Prop}(h:p:=by have:=hy.1;have:=hy.2.2 (by omega);omega):p:=h
theorem xd{p:Prop}(h:p:=by have:=dp.1;omega):p:=h
theorem xc{p:Prop}(h:p:=by first|(simp[Doc.row];done)|simp[Doc.row,hdz,Doc.zero]):p:=h
theorem K9{p:Prop}(h:p:=by rw[<-hd0];exact iN (kW hl).1 hk):p:=h
theorem alx{p:Prop}(h:p:=by rw[<-hr];exact Nat.le_trans (iN (B:=2^26) (by unfold gT at h2;omega) hk) (by decide)):p:=h
theorem o7{p:Prop}(h:p:=by simp[Desk.row]):p:=h
theorem DY{p:Prop}(h:p:=by have:=hset h;simp at this):p:=h
theorem alw{p:Prop}(h:p:=by have:=Nat.mul_le_mul_right 5 (show i+1<=n by omega);omega):p:=h
namespace Go.AM
open Go.RowKit
inductive CD where
 |v (u:Value)
 |s (rows:List (List CD))
 |h (k:Nat) (H:Option (Nat×Nat×Nat)) (sz len:Nat)
 deriving Inhabited
def plain:Value->Bool
 | .bool _ | .int _ _ | .string _=>true
 | .slice none 0 0=>true
 | .func (.func _) f c=>f.size==0&&c.size==0
 |_=>false
abbrev Hd:=Option (Nat×Nat×Nat)
def SlV:Hd->(sz off len:Nat)->Value->Prop
 |none,_,_,len,x=>(∃a,x=.slice a 0 0)/\len=0
 |some (b,o,C),sz,off,len,x=>(x=.slice (some ⟨b,o+off*sz,none⟩) len (C-off)/\off+len<=C)\/(len=0/\0<off/\∃a,x=.slice a 0 0)
def MlS(k sz len:Nat):Prop:=0<len\/(sz=1/\50000<=k)\/70000<=k
instance {k sz len:Nat}:Decidable (MlS k sz len):=inferInstanceAs (Decidable (0<len\/(sz=1/\50000<=k)\/70000<=k))
theorem MlS.pos{k sz len:Nat}(h:0<len):MlS k sz len:=.inl h
theorem MlS.key{k len:Nat}(h:50000<=k):MlS k 1 len:=.inr (.inl ⟨rfl,h⟩)
theorem MlS.free{k sz len:Nat}(h:70000<=k):MlS k sz len:=.inr (.inr h)
def HdE:Hd->Hd->Prop
 |some (b,o,_),some (b',o',_)=>b=b'/\o=o'
 |none,none=>True
 |_,_=>False
theorem adc(H:Hd):HdE H H:=by
 cases H with
 |none=>trivial
 |some q=>exact⟨rfl,rfl⟩
theorem HdE.some_of{b o C:Nat}{H:Hd}(h:HdE (some (b,o,C)) H):∃C',H=some (b,o,C'):=by
 cases H with
 |none=>exact h.elim
 |some q=>obtain⟨b',o',C'⟩:=q;obtain⟨rfl,rfl⟩:=h;exact⟨C',rfl⟩
def MlV(k:Nat)(H:Hd)(sz len:Nat)(x:Value):Prop:=(MlS k sz len/\SlV H sz 0 len x)\/(len=0/\¬MlS k sz len/\∃a c,x=.slice a 0 c)
theorem MlV.slice{k:Nat}{H:Hd}{sz len:Nat}{x:Value}(h:MlV k H sz len x):∃a c,x=.slice a len c:=by
 rcases h with⟨hp,hs⟩|⟨rfl,-,a,c,rfl⟩
 ·cases H with
  |none=>obtain⟨⟨a,rfl⟩,rfl⟩:=hs;exact⟨_,_,rfl⟩
  | some q =>
    obtain⟨b,o,C⟩:=q;rcases hs with⟨rfl,_⟩|⟨rfl,_⟩
    ·exact⟨_,_,rfl⟩
    ·omega
 ·exact⟨a,c,rfl⟩
inductive Rd(w:World)(x:Bool):(Nat->Prop)->Value->CD->Prop
 |plain {S:Nat->Prop}{u:Value}(h:plain u=true):Rd w x S u (.v u)
 |h {S:Nat->Prop}(k:Nat) (H:Hd) (sz len:Nat) (u:Value) (h:MlS k sz len->SlV H sz 0 len u) (he:len=0->¬MlS k sz len->Rd w x S u (.s [])):Rd w x S u (.h k H sz len)
 |empty {S:Nat->Prop}(a:Option Addr) (cap:Nat) (h:x=true->cap=0):Rd w x S (.slice a 0 cap) (.s [])
 |slice {S:Nat->Prop}(b off cap sz:Nat) (cs:Array Value) (T:TypeId) (fr:Nat×Nat) (rows:List (List CD)) (F:Nat->Nat->Nat->Prop)
  (hcap:rows.length<=cap) (hmax:cap<=maxLen) (hsz:0<sz) (hS:S b) (hb:w.heap[b]? = some (.cells cs T fr)) (hfit:off+rows.length*sz<=cs.size)
  (hown:x=true->fr=(0,0)/\off+cap*sz<=cs.size)
  (hF:∀i j c,F i j c->S c/\(x=true->c≠b))
  (hd:x=true->∀i j i' j' c,F i j c->F i' j' c->i=i'/\j=j')
  (hlen:∀row∈rows,row.length=sz)
  (hr:∀i j row d,rows[i]? = some row->row[j]? = some d->Rd w x (F i j) (cs.getD (off+(i*sz+j)) undef) d) :
  Rd w x S (.slice (some ⟨b,off,none⟩) rows.length cap) (.s rows)
theorem Rd.empty_slice{w:World}{x:Bool}{S:Nat->Prop}{u:Value}(h:Rd w x S u (.s [])):∃a c,u=.slice a 0 c:=by
 cases h with
 |empty a cap h=>exact⟨a,cap,rfl⟩
 |slice b off cap=>exact⟨_,cap,rfl⟩
theorem Rd.mlv{w:World}{x:Bool}{S:Nat->Prop}{u:Value}{k:Nat}{H:Hd}{sz len:Nat}(h:Rd w x S u (.h k H sz len)):MlV k H sz len u:=by
 cases h with
 | h _ _ _ _ _ h he =>
   by_cases h0:MlS k sz len
   ·exact .inl ⟨h0,h h0⟩
   ·have hl:len=0:=rH (λh=>h0 (.inl h))
    exact .inr ⟨hl,h0,(he hl h0).empty_slice⟩
theorem gd{w:World}{b:Nat}{o:Obj}(h:w.heap[b]? = some o):b<w.heap.size:=by
 rcases Dv b w.heap.size with h'|h'
 ·exact h'
 ·simp[Array.getElem?_eq_none h']at h
theorem Rd.map{w w':World}{x:Bool}{S S':Nat->Prop}{u:Value}{d:CD}(h:Rd w x S u d)
 (hw:∀b,S b->b<w.heap.size->w'.heap[b]? = w.heap[b]?) (hS:∀b,S b->b<w.heap.size->S' b):Rd w' x S' u d:=by
 induction h generalizing S' with
 |plain h=>exact .plain h
 |h k H sz len u h he ih=>exact .h k H sz len u h (λh0 h1=>ih h0 h1 hw hS)
 |empty a cap h=>exact .empty a cap h
 | slice b off cap sz cs T fr rows F hcap hmax hsz hSb hb hfit hown hF hd hlen hr ih =>
   have hlt:=gd hb;refine .slice b off cap sz cs T fr rows (λi j c=>F i j c/\c<w.heap.size) hcap hmax hsz (hS b hSb hlt) ((hw b hSb hlt).trans hb) hfit hown ?_ ?_ hlen ?_
   ·rintro i j c ⟨hc,hl⟩
    exact⟨hS c (hF i j c hc).1 hl,(hF i j c hc).2⟩
   ·rintro hx i j i' j' c ⟨hc,_⟩ ⟨hc',_⟩
    exact hd hx i j i' j' c hc hc'
   ·intro i j row d h1 h2
    exact ih i j row d h1 h2 (λc hc hl=>hw c (hF i j c hc).1 hl) (λc hc hl=>⟨hc,hl⟩)
theorem Rd.weaken{w:World}{x:Bool}{S:Nat->Prop}{u:Value}{d:CD}(h:Rd w x S u d):Rd w false S u d:=by
 induction h with
 |plain h=>exact .plain h
 |h k H sz len u h he ih=>exact .h k H sz len u h ih
 |empty a cap h=>exact .empty a cap iA
 | slice b off cap sz cs T fr rows F hcap hmax hsz hSb hb hfit hown hF hd hlen hr ih =>
   exact .slice b off cap sz cs T fr rows F hcap hmax hsz hSb hb hfit iA (λi j c hc=>⟨(hF i j c hc).1,iA⟩) iA hlen ih
theorem Rd.within{w:World}{x:Bool}{S:Nat->Prop}{u:Value}{d:CD}(h:Rd w x S u d):Rd w x (λb=>S b/\b<w.heap.size) u d:=
 h.map (λ_ _ _=>rfl) (λ_ hs hl=>⟨hs,hl⟩)
inductive AV where
 |any|un|nil
 |v (u:Value)
 |ro (rows:List (List CD))
 |sl (k:Nat) (H:Hd) (sz off len:Nat)
 |p (k b c:Nat)
 |e (k:Nat) (H:Hd) (sz r c:Nat)
 |rp (row:List CD)
 |agg (l:List AV)
 |tup (l:List AV)
 |clo (f:Nat) (l:List AV)
 |cv (u:Value) (len:Nat)
 |ml (k:Nat) (H:Hd) (sz len:Nat)
 |is (u:Value)
 deriving Inhabited
inductive VRel(w:World)(M:Nat->Prop):AV->Value->Prop
 |any (x:Value):VRel w M .any x
 |un:VRel w M .un undef
 |nil:VRel w M .nil (.slice none 0 0)
 |v (u:Value) (h:plain u=true):VRel w M (.v u) u
 |ro (rows:List (List CD)) (x:Value) (h:Rd w false (λb=>¬M b) x (.s rows)):VRel w M (.ro rows) x
 |sl (k:Nat) (H:Hd) (sz off len:Nat) (x:Value) (h:SlV H sz off len x):VRel w M (.sl k H sz off len) x
 |cv (u:Value) (len:Nat) (h:∃a c,u=.slice a len c):VRel w M (.cv u len) u
 |ml (k:Nat) (H:Hd) (sz len:Nat) (x:Value) (h:MlV k H sz len x):VRel w M (.ml k H sz len) x
 |is (u:Value):VRel w M (.is u) u
 |p (k b c:Nat):VRel w M (.p k b c) (.pointer (some ⟨b,c,none⟩))
 |e (k b o C sz r c:Nat):VRel w M (.e k (some (b,o,C)) sz r c) (.pointer (some ⟨b,o+r*sz+c,none⟩))
 |rp (row:List CD) (b o:Nat) (cs:Array Value) (T:TypeId) (fr:Nat×Nat) (hM:¬M b) (hb:w.heap[b]? = some (.cells cs T fr)) (hfit:o+row.length<=cs.size)
  (hr:∀j d,row[j]? = some d->Rd w false (λb=>¬M b) (cs.getD (o+j) undef) d):VRel w M (.rp row) (.pointer (some ⟨b,o,none⟩))
 |agg (l:List AV) (xs:Array Value) (hs:xs.size=l.length) (h:∀i av,l[i]? = some av->VRel w M av (xs.getD i undef)):VRel w M (.agg l) (.agg xs)
 |tup (l:List AV) (xs:Array Value) (hs:xs.size=l.length) (h:∀i av,l[i]? = some av->VRel w M av (xs.getD i undef)):VRel w M (.tup l) (.tuple xs)
 |clo (f:Nat) (l:List AV) (xs:Array Value) (hs:xs.size=l.length) (h:∀i av,l[i]? = some av->VRel w M av (xs.getD i undef)):VRel w M (.clo f l) (.func (.func f) #[] xs)
structure Tr(M:Nat->Prop)(w:World)(M':Nat->Prop)(w':World):Prop where
 size:w.heap.size<=w'.heap.size
 frame:∀b,b<w.heap.size->¬M b->w'.heap[b]? = w.heap[b]?
 mono:∀b,b<w.heap.size->M' b->M b
theorem Tr.refl(M:Nat->Prop)(w:World):Tr M w M w:=⟨aw _,λ_ _ _=>rfl,λ_ _ h=>h⟩
theorem Tr.trans{M M' M'':Nat->Prop}{w w' w'':World}(h:Tr M w M' w')(k:Tr M' w' M'' w''):Tr M w M'' w'':=
 ⟨cG h.size k.size,λb hb hM=>(k.frame b (dU hb h.size) (λh'=>hM (h.mono b hb h'))).trans (h.frame b hb hM),
  λb hb hM=>h.mono b hb (k.mono b (dU hb h.size) hM)⟩
theorem Rd.tr{M M':Nat->Prop}{w w':World}{x:Bool}{u:Value}{d:CD}(h:Rd w x (λb=>¬M b) u d)(t:Tr M w M' w'):Rd w' x (λb=>¬M' b) u d:=
 h.map (λb hb hl=>t.frame b hl hb) (λb hb hl hM=>hb (t.mono b hl hM))
theorem VRel.tr{M M':Nat->Prop}{w w':World}{av:AV}{x:Value}(h:VRel w M av x)(t:Tr M w M' w'):VRel w' M' av x:=by
 induction h with
 |any x=>exact .any x
 |un=>exact .un
 |nil=>exact .nil
 |v u h=>exact .v u h
 |ro rows x h=>exact .ro rows x (h.tr t)
 |sl k H sz off len x h=>exact .sl k H sz off len x h
 |cv u len h=>exact .cv u len h
 |ml k H sz len x h=>exact .ml k H sz len x h
 |is u=>exact .is u
 |p k b c=>exact .p k b c
 |e k b o C sz r c=>exact .e k b o C sz r c
 | rp row b o cs T fr hM hb hfit hr =>
   have hlt:=gd hb;exact .rp row b o cs T fr (λh=>hM (t.mono b hlt h)) ((t.frame b hlt hM).trans hb) hfit (λj d hj=>(hr j d hj).tr t)
 |agg l xs hs _ ih=>exact .agg l xs hs ih
 |tup l xs hs _ ih=>exact .tup l xs hs ih
 |clo f l xs hs _ ih=>exact .clo f l xs hs ih
inductive AObj where
 |dead
 |vars (b:Nat) (T:TypeId) (cells:List AV)
 |rows (H:Hd) (sz:Nat) (rows:List (List CD)) (own:Bool)
 |lent (H:Hd) (sz:Nat) (rows:List (List CD))
 |part (H:Hd) (sz:Nat) (rows:List (List CD)) (lo:Nat)
 deriving Inhabited
def AObj.blk:AObj->Option Nat
 | .dead=>none
 | .vars b _ _=>some b
 | .rows (some (b,_,_)) _ _ _=>some b
 | .rows none _ _ _=>none
 | .lent _ _ _=>none
 | .part (some (b,_,_)) _ _ _=>some b
 | .part none _ _ _=>none
abbrev AH:=List (Nat×AObj)
def AH.get:AH->Nat->AObj
 | [],_=>.dead
 |(k,o)::h,j=>if j=k then o else AH.get h j
def AH.M(h:AH)(b:Nat):Prop:=∃k,(h.get k).blk=some b
def iV(w:World)(M E:Nat->Prop):AObj->Prop
 | .dead=>True
 | .vars b T cells=>∃cs,w.heap[b]? = some (.cells cs T (0,0))/\cs.size=cells.length/\∀j av,cells[j]? = some av->VRel w M av (cs.getD j undef)
 | .rows none _ rows _=>rows=[]
 | .rows (some (b,o,C)) sz rows own=>∃(cs:Array Value) (T:TypeId) (F:Nat->Nat->Nat->Prop),w.heap[b]? = some (.cells cs T (0,0))/\rows.length<=C/\C<=maxLen/\0<sz/\o+C*sz<=cs.size /\
  (∀row∈rows,row.length=sz)/\(∀i j c,F i j c->(own=true->E c)/\¬M c)/\(own=true->∀i j i' j' c,F i j c->F i' j' c->i=i'/\j=j') /\
  (∀i j row d,rows[i]? = some row->row[j]? = some d->Rd w own (F i j) (cs.getD (o+(i*sz+j)) undef) d)
 | .lent H sz rows=>(∀row∈rows,row.length=sz)/\(rows≠[]->∃b o C,H=some (b,o,C)/\rows.length<=C)/\∀x,SlV H sz 0 rows.length x->Rd w false (λb=>¬M b) x (.s rows)
 | .part none _ rows _=>rows=[]
 | .part (some (b,o,C)) sz rows lo=>∃(cs:Array Value) (T:TypeId) (F:Nat->Nat->Nat->Prop),w.heap[b]? = some (.cells cs T (0,0))/\rows.length<=C/\C<=maxLen/\0<sz/\o+C*sz<=cs.size /\
  (∀row∈rows,row.length=sz)/\(∀i j c,F i j c->(lo<=i->E c)/\¬M c)/\(∀i j i' j' c,lo<=i->lo<=i'->F i j c->F i' j' c->i=i'/\j=j') /\
  (∀i j row d,rows[i]? = some row->row[j]? = some d->Rd w (decide (lo<=i)) (F i j) (cs.getD (o+(i*sz+j)) undef) d)
structure Bs where
 F:Nat->Prop
 G:Nat->Prop
 loose:Bool:=false
 L:World->Prop:=λ_=>True
structure BelowF(F:Nat->Prop)(w w':World):Prop where
 os:w'.os=w.os
 tape:w'.tape=w.tape
 output:w'.output=w.output
 size:w.heap.size<=w'.heap.size
 block:∀k,F k->w'.heap[k]? = w.heap[k]?
theorem BelowF.refl(F:Nat->Prop)(w:World):BelowF F w w:=⟨rfl,rfl,rfl,aw _,λ_ _=>rfl⟩
theorem BelowF.trans{F:Nat->Prop}{a b c:World}(h:BelowF F a b)(k:BelowF F b c):BelowF F a c:=
 ⟨k.os.trans h.os,k.tape.trans h.tape,k.output.trans h.output,cG h.size k.size,λi hi=>(k.block i hi).trans (h.block i hi)⟩
structure HRel(base:Bs)(h:AH)(w:World)(E:Nat->Nat->Prop):Prop where
 obj:∀k,iV w h.M (E k) (h.get k)
 inj:∀k k' b,(h.get k).blk=some b->(h.get k').blk=some b->k=k'
 low:∀k b,(h.get k).blk=some b->¬base.F b/\¬base.G b
 elow:∀k c,E k c->¬base.G c/\c<w.heap.size
 einj:∀k k' c,E k c->E k' c->k=k'
 em:∀k c,E k c->¬h.M c
structure ASt where
 n:Nat
 kb:Nat
 t:List (Nat×AV)
 h:AH
def cI:List (Nat×AV)->Nat->AV
 | [],_=>.any
 |(k,o)::h,j=>if j=k then o else cI h j
structure Rep(w0:World)(base:Bs)(st:ASt)(a:Act)(w:World):Prop where
 dfr:a.defers=[]
 size:a.tmps.size=st.n
 tmp:∀i,VRel w st.h.M (cI st.t i) (a.tmps.getD i undef)
 heap:∃E,HRel base st.h w E
 below:BelowF base.F w0 w
 base_le:∀b,base.F b\/base.G b->b<w.heap.size
theorem HRel.lt{base:Bs}{h:AH}{w:World}{E:Nat->Nat->Prop}(H:HRel base h w E){k b:Nat}(hk:(h.get k).blk=some b):b<w.heap.size:=by
 have:=H.obj k
 revert hk this
 cases h.get k with
 |dead=>intro hk;simp[AObj.blk]at hk
 | vars b' T cells =>
   rintro hk ⟨cs,hb,_⟩
   simp only[AObj.blk,cR]at hk;subst hk;exact gd hb
 | rows H' sz rows own =>
   exact Wc
 |lent=>intro hk;simp[AObj.blk]at hk
 | part H' sz rows lo =>
   exact Wc
theorem iV.tr{M M' E E':Nat->Prop}{w w':World}{o:AObj}(h:iV w M E o)(t:Tr M w M' w')(hb:∀b,o.blk=some b->w'.heap[b]? = w.heap[b]?)
 (hE:∀c,E c->c<w.heap.size->E' c):iV w' M' E' o:=by
 cases o with
 |dead=>exact h
 | vars b T cells =>
   obtain⟨cs,h1,h2,h3⟩:=h;exact⟨cs,(hb b rfl).trans h1,h2,λj av hj=>(h3 j av hj).tr t⟩
 | rows H sz rows own =>
   cases H with
   |none=>exact h
   | some q =>
     obtain⟨b,o,C⟩:=q;obtain⟨cs,T,F,h1,h2,h3,h4,h5,h6,h7,h8,h9⟩:=h;refine⟨cs,T,λi j c=>F i j c/\c<w.heap.size,(hb b rfl).trans h1,h2,h3,h4,h5,h6,?_,?_,?_⟩
     ·exact UQ
     ·rintro ho i j i' j' c ⟨hc,_⟩ ⟨hc',_⟩
      exact h8 ho i j i' j' c hc hc'
     ·exact U7
 | lent H sz rows =>
   obtain⟨h1,h2,h3⟩:=h;exact⟨h1,h2,λx hx=>(h3 x hx).tr t⟩
 | part H sz rows lo =>
   cases H with
   |none=>exact h
   | some q =>
     obtain⟨b,o,C⟩:=q;obtain⟨cs,T,F,h1,h2,h3,h4,h5,h6,h7,h8,h9⟩:=h;refine⟨cs,T,λi j c=>F i j c/\c<w.heap.size,(hb b rfl).trans h1,h2,h3,h4,h5,h6,?_,?_,?_⟩
     ·exact UQ
     ·rintro i j i' j' c ho ho' ⟨hc,_⟩ ⟨hc',_⟩
      exact h8 i j i' j' c ho ho' hc hc'
     ·exact U7
structure TI where
 agg:Bool:=false
 n:Nat:=1
 zero:List AV
 fields:List (Nat×Nat):=[]
 fagg:List Bool:=[]
 sl:Option Nat:=none
 bytes:Nat
 kind:Option IntKind:=none
 pln:Bool:=true
 str:Bool:=false
 boo:Bool:=false
 ieq:Bool:=false
structure Env where
 P:Program
 T:Nat->Option TI
 w0:World
 base:Bs
def cAV:Value->AV
 | .int k n=>.v (.int k n)
 | .bool b=>.v (.bool b)
 | .string s=>.v (.string s)
 | .slice none 0 0=>.nil
 |_=>.any
def ASt.ev(st:ASt):Operand->AV
 | .tmp t=>cI st.t t
 | .const v=>cAV v
 | .func f=>.v (.func (.func f) #[] #[])
 | .global _=>.any
def toAV:CD->AV
 | .v u=>.v u
 | .s rows=>.ro rows
 | .h k H sz len=>.ml k H sz len
def Qt:AV->CD
 | .v u=>.v u
 |_=>.s []
def cX(st:ASt)(d:Option Nat)(v:AV)(K:ASt->Prop):Prop:=
 match d with
 |none=>K st
 |some d=>d<st.n/\K { st with t:=(d,v)::st.t }
def ASt.aft(st:ASt)(d:Option Nat)(av:AV)(h:AH):ASt:=
 match d with
 |none=>{ st with h:=h }
 |some d=>{ st with h:=h,t:=(d,av)::st.t }
def ASt.key(st:ASt)(d:Option Nat):Nat:=
 match d with
 |none=>st.kb
 |some d=>st.kb+16*d
def Env.isBool(E:Env)(T:Nat):Prop:=
 match E.T T with
 |some ti=>ti.boo=true
 |none=>False
def Env.isStr(E:Env)(T:Nat):Prop:=
 match E.T T with
 |some ti=>ti.str=true
 |none=>False
def Env.known(E:Env)(T:Nat):Prop:=
 match E.T T with
 |some _=>True
 |none=>False
def kZ(tb:Prop)(op:BinOp)(x y:Value)(K:AV->Prop):Prop:=
 match op,x,y with
 | .add,.int k a,.int k' b=>k=k'/\K (.v (.int k (k.wrap (a+b))))
 | .sub,.int k a,.int k' b=>k=k'/\K (.v (.int k (k.wrap (a-b))))
 | .mul,.int k a,.int k' b=>k=k'/\K (.v (.int k (k.wrap (a*b))))
 | .quo,.int k a,.int k' b=>k=k'/\b≠0/\K (.v (.int k (k.wrap (a.tdiv b))))
 | .rem,.int k a,.int k' b=>k=k'/\b≠0/\K (.v (.int k (a.tmod b)))
 | .and,.int k a,.int k' b=>k=k'/\K (.v (.int k (bits .and k a b)))
 | .or,.int k a,.int k' b=>k=k'/\K (.v (.int k (bits .or k a b)))
 | .xor,.int k a,.int k' b=>k=k'/\K (.v (.int k (bits .xor k a b)))
 | .shl,.int k a,.int _ b=>0<=b/\b<=k.bits/\K (.v (.int k (k.wrap (a*2^b.toNat))))
 | .shr,.int k a,.int _ b=>0<=b/\b<=k.bits/\K (.v (.int k (a / 2^b.toNat)))
 | .lss,.int k a,.int k' b=>k=k'/\K (.v (.bool (decide (a<b))))
 | .leq,.int k a,.int k' b=>k=k'/\K (.v (.bool (decide (a<=b))))
 | .gtr,.int k a,.int k' b=>k=k'/\K (.v (.bool (decide (b<a))))
 | .geq,.int k a,.int k' b=>k=k'/\K (.v (.bool (decide (b<=a))))
 | .eql,.int k a,.int k' b=>k=k'/\K (.v (.bool (decide (a=b))))
 | .neq,.int k a,.int k' b=>k=k'/\K (.v (.bool (!decide (a=b))))
 | .eql,.bool a,.bool b=>tb/\K (.v (.bool (a==b)))
 | .neq,.bool a,.bool b=>tb/\K (.v (.bool (!(a==b))))
 | .add,.string a,.string b=>a.size+b.size<=140737488355328/\K (.v (.string (a++b)))
 | .eql,.string a,.string b=>K (.v (.bool (a.toList==b.toList)))
 | .neq,.string a,.string b=>K (.v (.bool (!(a.toList==b.toList))))
 | .lss,.string a,.string b=>K (.v (.bool (Op.bytesLess a.toList b.toList)))
 | .geq,.string a,.string b=>K (.v (.bool (!Op.bytesLess a.toList b.toList)))
 | .gtr,.string a,.string b=>K (.v (.bool (!(Op.bytesLess a.toList b.toList || a.toList==b.toList))))
 | .leq,.string a,.string b=>K (.v (.bool (Op.bytesLess a.toList b.toList || a.toList==b.toList)))
 |_,_,_=>False
def jC(ti:TI)(row:List CD)(K:AV->Prop):Prop:=
 if ti.agg then ti.n<=row.length/\K (.agg ((row.take ti.n).map toAV))
 else match row with
  |d::_=>K (toAV d)
  | []=>False
def n7(ti:TI)(cells:List AV)(c:Nat)(K:AV->Prop):Prop:=
 if ti.agg then c+ti.n<=cells.length/\K (.agg ((cells.drop c).take ti.n))
 else match cells[c]? with
  |some av=>K av
  |none=>False
def loadAt(ti:TI)(h:AH)(x:AV)(K:AV->Prop):Prop:=
 match x with
 | .p k b c => match h.get k with
   | .vars b' _ cells=>b=b'/\n7 ti cells c K
   |_=>False
 | .e k H sz r c => match h.get k with
   | .rows H' sz' rows _=>HdE H H'/\sz=sz'/\r<rows.length/\∀row,rows[r]? = some row->jC ti (row.drop c) K
   | .lent H' sz' rows=>H=H'/\sz=sz'/\r<rows.length/\∀row,rows[r]? = some row->jC ti (row.drop c) K
   |_=>False
 | .rp row=>jC ti row K
 |_=>False
def vB(E:Env)(h:AH)(T:Nat)(x:AV)(K:AV->Prop):Prop:=
 match E.T T with
 |some ti=>loadAt ti h x K
 |none=>False
def indexAt(te:TI)(x i:AV)(K:AV->Prop):Prop:=
 match x,i with
 | .ro rows,.v (.int _ n)=>0<=n/\n<rows.length/\∀row,rows[n.toNat]? = some row->row.length=te.n/\K (.rp row)
 | .sl k H sz off len,.v (.int _ n)=>0<=n/\n<len/\sz=te.n/\K (.e k H sz (off+n.toNat) 0)
 | .ml k H sz len,.v (.int _ n)=>0<=n/\n<len/\sz=te.n/\K (.e k H sz n.toNat 0)
 |_,_=>False
def gi(E:Env)(T:Nat)(K:Nat->TI->Prop):Prop:=
 match E.T T with
 | some ti => match ti.sl with
   | some e => match E.T e with
     |some te=>K e te
     |none=>False
   |none=>False
 |none=>False
def yt(E:Env)(T:Nat)(x:AV)(K:AV->Prop):Prop:=
 match x with
 | .ro rows=>gi E T λ_ _=>K (.v (.int .i64 rows.length))
 | .sl _ _ _ _ len=>gi E T λ_ _=>K (.v (.int .i64 len))
 | .cv _ len=>gi E T λ_ _=>K (.v (.int .i64 len))
 | .ml _ _ _ len=>gi E T λ_ _=>K (.v (.int .i64 len))
 | .nil=>gi E T λ_ _=>K (.v (.int .i64 0))
 | .v (.slice none 0 0)=>gi E T λ_ _=>K (.v (.int .i64 0))
 | .v (.string s)=>E.isStr T/\K (.v (.int .i64 s.size))
 |_=>False
def fieldAt(ti:TI)(f:Nat)(x:AV)(K:AV->Prop):Prop:=
 match ti.fields[f]? with
 | some (off, _) => match x with
   | .p k b c=>K (.p k b (c+off))
   | .e k H sz r c=>K (.e k H sz r (c+off))
   | .rp row=>off<=row.length/\K (.rp (row.drop off))
   |_=>False
 |none=>False
def vj(E:Env)(T f:Nat)(x:AV)(K:AV->Prop):Prop:=
 match E.T T with
 |some ti=>fieldAt ti f x K
 |none=>False
def jU{α:Type}:List α->Nat->List α->List α
 |l,_,[]=>l
 | [],_,_::_=>[]
 |_::l,0,v::vs=>v::jU l 0 vs
 |x::l,c+1,v::vs=>x::jU l c (v::vs)
def AV.cells:AV->List AV
 | .agg l=>l
 |x=>[x]
def AV.one:AV->Bool
 | .nil=>true
 |AV.v _=>true
 | .ro _=>true
 | .sl ..=>true
 | .p ..=>true
 |AV.e ..=>true
 | .rp _=>true
 | .clo ..=>true
 | .cv ..=>true
 | .ml ..=>true
 |_=>false
def se(fields:List (Nat×Nat))(cells:List AV)(parts:List (Nat×AV))(K:List AV->Prop):Prop:=
 match parts with
 | []=>K cells
 | (i, v) :: rest => match fields[i]? with
   |some (off,n)=>v.cells.length=n/\off+n<=cells.length/\(v.cells.all AV.one)=true/\se fields (jU cells off v.cells) rest K
   |none=>False
def sY(E:Env)(T:Nat)(parts:List (Nat×AV))(K:AV->Prop):Prop:=
 match E.T T with
 |some ti=>ti.agg=true/\se ti.fields ti.zero parts (λl=>K (.agg l))
 |none=>False
def Dr(E:Env)(s d:Nat)(x:AV)(K:AV->Prop):Prop:=
 E.known s/\match E.T d with
 | some ti => match ti.kind, x with
   |some k,.v (.int _ n)=>K (.v (.int k (k.wrap n)))
   |_,_=>False
 |none=>False
def cut{α:Type}(rows:List α)(off len:Nat):List α:=if off=0/\len=rows.length then rows else(rows.drop off).take len
def gP(b:UInt8):List CD:=[.v (.int .u8 b.toNat)]
def Ny(E:Env)(s d:Nat)(rows:List (List CD))(K:AV->Prop):Prop:=
 E.isStr d/\gi E s λ_ te=>te.kind=some .u8/\∃l:List UInt8,rows=l.map gP/\K (.v (.string ⟨l.toArray⟩))
def p6(E:Env)(h:AH)(s d:Nat)(x:AV)(K:AV->Prop):Prop:=
 match x with
 | .v u=>Dr E s d (.v u) K
 | .ro rows=>Ny E s d rows K
 | .sl k H sz off len => match h.get k with
   | .rows H' sz' rows _=>H=H'/\sz=sz'/\off+len<=rows.length/\Ny E s d (cut rows off len) K
   |_=>False
 |_=>False
def NB(x y:AV)(K:AV->Prop):Prop:=
 match x,y with
 | .v (.int k a),.v (.int _ b)=>K (.v (.int k (if b<a then b else a)))
 |_,_=>False
def R6(x y:AV)(K:AV->Prop):Prop:=
 match x,y with
 | .v (.int k a),.v (.int _ b)=>K (.v (.int k (if a<b then b else a)))
 |_,_=>False
def AV.norm:AV->AV
 | .ml k H sz len=>if MlS k sz len then .sl k H sz 0 len else .any
 | .v (.slice none 0 0)=>.nil
 |x=>x
theorem VRel.norm{w:World}{M:Nat->Prop}{s:AV}{u:Value}(h:VRel w M s u):VRel w M s.norm u:=by
 unfold AV.norm
 split
 ·split
  ·rename_i h0
   cases h with
   | ml _ _ _ _ _ h =>
     rcases h with⟨_,h⟩|⟨_,h,_⟩
     ·exact .sl _ _ _ _ _ _ h
     ·exact absurd h0 h
  ·exact .any _
 ·cases h;exact .nil
 ·exact h
def gK(x:Option AV)(z:Nat)(K:Nat->Prop):Prop:=
 match x with
 |none=>K z
 |some (.v (.int _ n))=>0<=n/\K n.toNat
 |_=>False
def om(E:Env)(T:Nat)(x:AV)(lo hi:Option AV)(K:AV->Prop):Prop:=
 match x.norm with
 | .ro rows=>gi E T λ_ te=>(∀row∈rows,row.length=te.n)/\gK hi rows.length λh=>h<=rows.length/\gK lo 0 λl=>l<=h/\K (.ro (cut rows l (h-l)))
 | .sl k H sz off len=>gi E T λ_ te=>sz=te.n/\gK hi len λh=>h<=len/\gK lo 0 λl=>l<=h/\K (.sl k H sz (off+l) (h-l))
 | .v (.string s)=>E.isStr T/\gK hi s.size λh=>h<=s.size/\gK lo 0 λl=>l<=h/\K (.v (.string (s.extract l h)))
 |_=>False
def ve(E:Env)(T:Nat)(x:AV)(lo hi:Option AV)(mx:AV)(K:AV->Prop):Prop:=
 match x.norm,hi with
 | .ro rows,some hv=>gi E T λ_ te=>(∀row∈rows,row.length=te.n)/\gK (some hv) 0 λh=>gK (some mx) 0 λm=>h<=m/\m<=rows.length/\gK lo 0 λl=>l<=h/\K (.ro (cut rows l (h-l)))
 | .sl k (some (b,o,_)) sz off len,some hv=>gi E T λ_ te=>sz=te.n/\off=0/\lo=none/\gK (some hv) 0 λh=>gK (some mx) 0 λm=>h<=m/\m<=len/\K (.ml k (some (b,o,m)) sz h)
 | .sl k none sz _ len,some hv=>gi E T λ_ te=>sz=te.n/\lo=none/\gK (some hv) 0 λh=>gK (some mx) 0 λm=>h<=m/\m<=len/\K (.ml k none sz 0)
 |_,_=>False
def Ja(E:Env)(T:Nat)(x i:AV)(K:AV->Prop):Prop:=
 match x,i with
 | .v (.string s),.v (.int _ n)=>E.isStr T/\0<=n/\∃h:n.toNat<s.size,K (.v (.int .u8 (s[n.toNat]'h).toNat))
 |_,_=>False
def rF(x:AV)(K:Bool->Prop):Prop:=
 match x with
 | .v (.bool b)=>K b
 |_=>False
def DP(x:AV)(K:AV->Prop):Prop:=
 match x with
 | .p ..=>K x
 |AV.e ..=>K x
 | .rp _=>K x
 | .clo ..=>K x
 | .v (.func (.func f) a b)=>K (.v (.func (.func f) a b))
 |_=>False
def je(x:AV)(i:Nat)(K:AV->Prop):Prop:=
 match x with
 | .tup l => match l[i]? with
   |some v=>K v
   |none=>False
 |_=>False
def uX(ti:TI)(f:Nat)(x:AV)(K:AV->Prop):Prop:=
 match ti.fields[f]?,ti.fagg[f]?,x with
 | some (off, n), some b, .agg l => if b then off + n <= l.length /\ K (.agg ((l.drop off).take n)) else match l[off]? with
   |some v=>K v
   |none=>False
 |_,_,_=>False
def vh(E:Env)(T f:Nat)(x:AV)(K:AV->Prop):Prop:=
 match E.T T with
 |some ti=>uX ti f x K
 |none=>False
def ZU(x y:AV)(K:Value->Value->Prop):Prop:=
 match x,y with
 | .v a,.v b=>K a b
 |_,_=>False
def n9:List AV->Option (List Int)
 | []=>some []
 | .v (.int .i64 a)::l=>(n9 l).map (a :: ·)
 |_=>none
def Z2(E:Env)(op:BinOp)(T:Nat)(l m:List AV)(K:AV->Prop):Prop:=
 match E.T T with
 | some ti => ti.ieq = true /\ match n9 l, n9 m with
   | some a, some b => a.length = ti.n /\ b.length = ti.n /\ match op with
     | .eql=>K (.v (.bool (decide (a=b))))
     | .neq=>K (.v (.bool (!decide (a=b))))
     |_=>False
   |_,_=>False
 |none=>False
def tS(E:Env)(op:BinOp)(T:Nat)(x y:AV)(K:AV->Prop):Prop:=
 match x,y with
 | .v a,.v b=>kZ (E.isBool T) op a b K
 | .agg l,.agg m=>Z2 E op T l m K
 |_,_=>False
def aCv(E:Env)(x:AV)(K:AV->Prop):Prop:=
 match x with
 | .cv u _=>∃rows,Rd E.w0 false E.base.F u (.s rows)/\K (.ro rows)
 |x=>K x
def Dn(E:Env)(st:ASt)(op:Op)(K:AV->Prop):Prop:=
 match op with
 | .move x | .assign x=>K (st.ev x)
 | .pick c a b=>rF (st.ev c) λt=>(t=true->K (st.ev a))/\(t=false->K (st.ev b))
 | .build T parts=>sY E T (parts.toList.map λq=>(q.1,st.ev q.2)) K
 | .load T x=>vB E st.h T (st.ev x) K
 | .nilCheck x=>DP (st.ev x) K
 | .binOp op T x y _=>tS E op T (st.ev x) (st.ev y) K
 | .unOp .not _ x=>rF (st.ev x) λb=>K (.v (.bool (!b)))
 | .convert s d x=>p6 E st.h s d (st.ev x) K
 | .makeFunc (.func f) first caps=>first.toList=[]/\K (.clo f (caps.toList.map st.ev))
 | .slice T x lo hi none=>om E T (st.ev x) (lo.map st.ev) (hi.map st.ev) K
 | .fieldAddr T x f=>vj E T f (st.ev x) K
 | .field T x f=>vh E T f (st.ev x) K
 | .indexAddr T x i=>gi E T λ_ te=>aCv E (st.ev x) λv=>indexAt te v (st.ev i) K
 | .index T x i=>Ja E T (st.ev x) (st.ev i) K
 | .extract x i=>je (st.ev x) i K
 |_=>False
def vE(h:AH)(x:AV)(K:CD->AH->Bool->Prop):Prop:=
 match x with
 | .v u=>K (.v u) h true
 | .nil=>K (.s []) h true
 | .ro rows=>K (.s rows) h false
 | .sl k H sz off len => match h.get k with
   | .rows H' sz' rows own=>H=H'/\sz=sz'/\off+len<=rows.length/\K (.s (cut rows off len)) ((k,.dead)::h) own
   |_=>False
 | .ml k H sz len=>MlS k sz len/\K (.h k H sz len) h true
 |_=>False
def oD(h:AH)(l:List AV)(K:List CD->AH->Bool->Prop):Prop:=
 match l with
 | []=>K [] h true
 |a::l=>vE h a λd h' o=>oD h' l λds h'' o'=>K (d::ds) h'' (o&&o')
def AN(a:AV)(d:CD)(h:AH):AH:=
 match a,d with
 | .sl k H sz 0 _,.s rows=>(k,.lent H sz rows)::h
 |_,_=>h
def lendL:List AV->List CD->AH->AH
 |a::l,d::ds,h=>lendL l ds (AN a d h)
 |_,_,h=>h
def M4(own:Bool)(H:Hd)(sz:Nat)(rows:List (List CD))(n:Nat):AObj:=if own then .part H sz rows n else .dead
def sX(E:Env)(st:ASt)(T:Nat)(x y:AV)(K:ASt->Prop):Prop:=
 match E.T T with
 | some ti => y.cells.length = ti.n /\ (y.cells.all AV.one) = true /\ match x with
   | .p k b c => match st.h.get k with
     | .vars b' T' cells=>b=b'/\c+y.cells.length<=cells.length/\K { st with h:=(k,.vars b T' (jU cells c y.cells))::st.h }
     |_=>False
   | .e k H sz r c => oD st.h y.cells λds h o => match h.get k with
     | .rows H' sz' rows own=>HdE H H'/\sz=sz'/\r<rows.length/\c+ds.length<=sz /\
      K { st with h:=lendL y.cells ds ((k,.rows H' sz (if c=0/\ds.length=sz then rows.set r ds else rows.modify r λrow=>jU row c ds) (own&&o))::h) }
     |_=>False
   |_=>False
 |none=>False
def isV:CD->Bool
 | .v _=>true
 |_=>false
def sr(te:TI)(h:AH)(x:AV)(K:List (List CD)->AH->Bool->Prop):Prop:=
 match x with
 | .nil=>K [] h true
 | .ro rows=>(∀row∈rows,row.length=te.n)/\(te.pln=true->∀row∈rows,∀d∈row,isV d=true)/\K rows h te.pln
 | .sl k H sz off len => match h.get k with
   | .rows H' sz' rows own=>H=H'/\sz=sz'/\sz=te.n/\off+len<=rows.length /\
    if te.pln then(∀row∈rows,∀d∈row,isV d=true)/\K (cut rows off len) h true else K (cut rows off len) ((k,M4 own H sz rows (off+len))::h) own
   | .part H' sz' rows lo=>H=H'/\sz=sz'/\sz=te.n/\off+len<=rows.length/\te.pln=false/\lo<=off/\K (cut rows off len) ((k,.part H sz rows (off+len))::h) true
   |_=>False
 |_=>False
def j6(E:Env)(st:ASt)(dst:Option Nat)(T:Nat)(s x:AV)(K:ASt->Prop):Prop:=
 gi E T λ_ te=>0<te.bytes/\0<te.n /\
  match s.norm with
  | .nil=>sr te st.h x λnews h o=>news.length*te.bytes<=140737488355328 /\
   ∀H,cX { st with h:=(st.key dst,.rows H te.n news o)::h } dst (.sl (st.key dst) H te.n 0 news.length) K
  | .sl k H0 sz off len => sr te st.h x λnews h o => match h.get k with
    | .rows H' sz' rows own=>H0=H'/\sz=sz'/\sz=te.n/\off=0/\len=rows.length/\(len+news.length)*te.bytes<=140737488355328 /\
     ∀H,cX { st with h:=(k,.rows H te.n (rows++news) (own&&o))::h } dst (.sl k H te.n 0 (len+news.length)) K
    |_=>False
  |_=>False
def yT(te:TI)(h:AH)(parts:List (Nat×AV))(i:Nat)(K:List (List CD)->AH->Bool->Prop):Prop:=
 match parts with
 | []=>K [] h true
 |(j,v)::rest=>j=i/\v.cells.length=te.n/\(v.cells.all AV.one)=true /\
  oD h v.cells λds h' o=>yT te h' rest (i+1) λrs h'' o'=>K (ds::rs) h'' (o&&o')
def nJ(E:Env)(st:ASt)(dst:Option Nat)(T len:Nat)(parts:List (Nat×AV))(K:ASt->Prop):Prop:=
 gi E T λ_ te=>0<te.n/\len=parts.length/\len*te.n<=16777216/\yT te st.h parts 0 λrs h o=>
  ∀b,cX { st with h:=(st.key dst,.rows (some (b,0,len)) te.n rs o)::h } dst (.sl (st.key dst) (some (b,0,len)) te.n 0 len) K
def KF(E:Env)(st:ASt)(dst:Option Nat)(T:Nat)(l c:AV)(K:ASt->Prop):Prop:=
 gi E T λ_ te=>0<te.n/\0<te.bytes/\ZU l c λx y=>match x,y with
  | .int .i64 n,.int .i64 m=>n=m/\0<=n/\n*te.bytes<=140737488355328 /\
   ∀b,cX { st with h:=(st.key dst,.rows (some (b,0,n.toNat)) te.n (List.replicate n.toNat (te.zero.map Qt)) true)::st.h } dst (.sl (st.key dst) (some (b,0,n.toNat)) te.n 0 n.toNat) K
  |_,_=>False
def Cp(E:Env)(st:ASt)(dst:Option Nat)(T:Nat)(K:ASt->Prop):Prop:=
 match E.T T with
 |some ti=>∀b,cX { st with h:=(st.key dst,.vars b T ti.zero)::st.h } dst (.p (st.key dst) b 0) K
 |none=>False
def Qe(E:Env)(st:ASt)(dst:Option Nat)(T:Nat)(x:AV)(K:ASt->Prop):Prop:=
 match E.T T with
 |some _=>(x.cells.all AV.one)=true/\∀b,cX { st with h:=(st.key dst,.vars b T x.cells)::st.h } dst (.p (st.key dst) b 0) K
 |none=>False
def NN (P : Program) (f : Nat) : Prop := ∃ fn, P.funcs[f]? = some fn ∧ (fn.name == "runtime.NumGoroutine") = false ∧ fn.body.isNone = false
def ae(E:Env)(f:Nat)(args:List AV)(st:ASt)(dst:Option Nat)(K:ASt->Prop):Prop:=
 NN E.P f/\∀a w,Rep E.w0 E.base st a w->∀xs:Array Value,xs.size=args.length->(∀i av,args[i]? = some av->VRel w st.h.M av (xs.getD i undef)) ->
  Calls E.P f xs w λe w'=>∃v av h',e=.returned v/\K (st.aft dst av h')/\Rep E.w0 E.base (st.aft dst av h') (a.put dst v) w'/\(E.base.loose=false->Tr st.h.M w h'.M w')/\VRel w' h'.M av v
def acV(E:Env)(st:ASt)(dst:Option Nat)(c:Call)(K:ASt->Prop):Prop:=
 match c.callee,c.args.toList,c.argTypes.toList with
 | .builtin .len,[x],[T]=>yt E T (st.ev x) λv=>cX st dst v K
 | .builtin .min,[x,y],_=>NB (st.ev x) (st.ev y) λv=>cX st dst v K
 | .builtin .max,[x,y],_=>R6 (st.ev x) (st.ev y) λv=>cX st dst v K
 | .builtin .append,[s,x],[T,T']=>T=T'/\j6 E st dst T (st.ev s) (st.ev x) K
 | .value (.func f),args,_=>ae E f (args.map st.ev) st dst K
 | .value (.tmp t), args, _ => match cI st.t t with
   | .clo f caps=>ae E f (args.map st.ev++caps) st dst K
   | .v (.func (.func f) _ _)=>ae E f (args.map st.ev) st dst K
   |_=>False
 |_,_,_=>False
def aOp(E:Env)(o:Oper)(st:ASt)(K:ASt->Prop):Prop:=
 match o.op with
 | .alloc T=>Cp E st o.dst T K
 | .box T x=>Qe E st o.dst T (st.ev x) K
 | .buildSlice T len parts=>nJ E st o.dst T len (parts.toList.map λq=>(q.1,st.ev q.2)) K
 | .makeSlice T l c=>KF E st o.dst T (st.ev l) (st.ev c) K
 | .store T x y=>sX E st T (st.ev x) (st.ev y) λst'=>cX st' o.dst .un K
 | .slice T x lo hi (some mx)=>ve E T (st.ev x) (lo.map st.ev) (hi.map st.ev) (st.ev mx) λv=>cX st o.dst v K
 | .call c=>acV E st o.dst c K
 |op=>Dn E st op λv=>cX st o.dst v K
def oC(all:List Oper)(j:Nat):Option Nat:=(all[j]?).bind (·.dst)
def acS(all:List Oper)(o:Oper)(st:ASt)(run skip:Prop):Prop:=
 match o.guard with
 |none=>run
 | some (j, want) => match oC all j with
   | some d => match cI st.t d with
     | .v (.bool b)=>(b=want->run)/\(b = !want->skip)
     | .un=>skip
     |_=>False
   |none=>False
def zu(E:Env)(all:List Oper):List Oper->(ASt->Prop)->ASt->Prop
 | [],K,st=>K st
 |o::rest,K,st=>acS all o st (aOp E o st (zu E all rest K)) (cX st o.dst .un (zu E all rest K))
def bk(E:Env)(body:Code)(Q:Exit->ASt->Prop)(st:ASt):Prop:=
 ∀a w,Rep E.w0 E.base st a w->(Code.loop body).wp E.P (λe a' w'=>∃st',Q e st'/\Rep E.w0 E.base st' a' w') a w
def cF(E:Env)(id:Nat)(ops:List Oper)(Q:Exit->ASt->Prop)(st:ASt):Prop:=
 ∀a w,Rep E.w0 E.base st a w->(Code.region id ops.toArray true).wp E.P (λe a' w'=>∃st',Q e st'/\Rep E.w0 E.base st' a' w') a w
def abe(K:ASt->Prop)(Q:Exit->ASt->Prop):Exit->ASt->Prop
 | .normal,st=>K st
 |e,st=>Q e st
def Nu(id:Nat)(Q:Exit->ASt->Prop):Exit->ASt->Prop
 | .exit j,st=>if j=id then Q .normal st else Q (.exit j) st
 |e,st=>Q e st
def jV(E:Env):Code->(Exit->ASt->Prop)->ASt->Prop
 | .skip,Q,st=>Q .normal st
 | .region id ops draw,Q,st=>if draw then cF E id ops.toList Q st else zu E ops.toList ops.toList (Q .normal) st
 | .seq x y,Q,st=>jV E x (abe (jV E y Q) Q) st
 | .cond c x y,Q,st=>rF (st.ev c) λb=>(b=true->jV E x Q st)/\(b=false->jV E y Q st)
 | .block id x,Q,st=>jV E x (Nu id Q) st
 | .loop x,Q,st=>bk E x Q st
 | .exit id,Q,st=>Q (.exit id) st
 | .ret,Q,st=>Q .ret st
 |_,_,_=>False
def zv:AV->Value
 | .v u=>u
 |_=>.slice none 0 0
structure TIok(P:Program)(t:Nat)(ti:TI):Prop where
 info:∃i z,P.info? t=some i/\i.size=ti.n/\i.bytes=ti.bytes/\i.zero=some z/\z.cells.toList=ti.zero.map zv/\(ti.agg=true->∃cs,z=.agg cs)
 zok:∀av∈ti.zero,av=.nil\/∃u,av=.v u/\plain u=true
 zlen:ti.zero.length=ti.n
 npos:0<ti.n
 st:ti.agg=true->∃fs:Array Field,P.underlying t=some (.struct fs)/\fs.toList.mapM (λf=>(P.info? f.type).map λi=>(f.offset,i.size))=some ti.fields /\
  ∀p∈ti.fields,0<p.2/\p.1+p.2<=ti.n
 nst:ti.agg=false->ti.fields=[]/\ti.n=1/\∃d,P.underlying t=some d/\(∀fs,d≠.struct fs)/\(∀n e,d≠.array n e)
 fa:∀fs,P.underlying t=some (.struct fs)->∀(i:Nat) (b:Bool),ti.fagg[i]? = some b->∃f:Field,fs.toList[i]? = some f/\if b then ∃gs,P.underlying f.type=some (.struct gs)else ∃d,P.underlying f.type=some d/\(∀gs,d≠.struct gs)/\(∀n e,d≠.array n e)
 sl:∀e,ti.sl=some e->P.underlying t=some (.slice e)
 kd:∀k,ti.kind=some k->P.underlying t=some (.int k)
 str:ti.str=true->P.underlying t=some .string
 boo:ti.boo=true->P.underlying t=some .bool
 ieq : ti.ieq = true → ∃ fs : Array Field, P.underlying t = some (.struct fs) ∧ P.stoodInHeld t = false ∧ P.eqGuardType P.depth t = false ∧ fs.toList.map (·.offset) = List.range ti.n ∧ ∀ f ∈ fs.toList, f.name ≠ "_" ∧ P.underlying f.type = some (.int .i64)
theorem GF{P:Program}:∀(fs:List Field) (ps:List (Nat×Nat)),fs.mapM (λf=>(P.info? f.type).map λi=>(f.offset,i.size))=some ps ->
 ∀(k:Nat) (p:Nat×Nat),ps[k]? = some p->∃(f:Field) (j:TypeInfo),fs[k]? = some f/\f.offset=p.1/\P.info? f.type=some j/\j.size=p.2
 | [],ps,h,k,p,hk=>by simp at h;subst h;simp at hk
 | f :: fs, ps, h, k, p, hk => by
   simp only[adj,Option.bind_eq_bind,Option.pure_def]at h
   cases hi:P.info? f.type with
   |none=>simp[hi]at h
   | some i =>
     cases hr:fs.mapM (λf=>(P.info? f.type).map λi=>(f.offset,i.size))with
     |none=>simp[hi,hr]at h
     | some rest =>
       simp[hi,hr]at h;subst h
       cases k with
       |zero=>simp at hk;subst hk;exact⟨f,i,rfl,rfl,hi,rfl⟩
       |succ k=>simpa using GF fs rest hr k p zM
def EOk(E:Env):Prop:=(∀t ti,E.T t=some ti->TIok E.P t ti)/\∀w,BelowF E.base.F E.w0 w->E.base.L w
theorem JJ{u:Value}(h:plain u=true):u.oneCell'=true:=by
 cases u<;>simp[plain,Value.oneCell']at h⊢
theorem VRel.ev{w0:World}{base:Bs}{st:ASt}{a:Act}{w:World}(hR:Rep w0 base st a w)(x:Operand):VRel w st.h.M (st.ev x) (a.eval x):=by
 cases x with
 |tmp t=>exact hR.tmp t
 | const v =>
   show VRel w st.h.M (cAV v) v
   cases v with
   |int k n=>exact .v _ rfl
   |bool b=>exact .v _ rfl
   |string s=>exact .v _ rfl
   | slice a l c =>
     unfold cAV
     split<;>first|exact .any _|(rename_i heq;first|(cases heq;exact .nil)|(exfalso;simp at heq))
   |_=>exact .any _
 |global g=>exact .any _
 |func f=>exact .v _ rfl
theorem yf{w:World}{b:Nat}{cs:Array Value}{T:TypeId}{fr:Nat×Nat}(hb:w.heap[b]? = some (.cells cs T fr)){j:Nat}(hj:j<cs.size) :
 w.cell? ⟨b,j,none⟩=some (cs.getD j undef):=by
 simp[World.cell?,hb,hj]
theorem hJ(b o n:Nat):(⟨b,o,none⟩:Addr).add n=⟨b,o+n,none⟩:=by
 unfold Addr.add;split<;>simp_all
theorem JE{P:Program}{w:World}{b:Nat}{cs:Array Value}{T:TypeId}{fr:Nat×Nat}(hb:w.heap[b]? = some (.cells cs T fr)){o n:Nat}(hj:o+n<=cs.size) :
 (loadCells ⟨b,o,none⟩ n).run P w=.ok ((List.range n).map λj=>cs.getD (o+j) undef).toArray w:=by
 rw[run_loadCells w ⟨b,o,none⟩ n (λj=>cs.getD (o+j) undef) (λj hj'=>by rw[hJ];exact yf hb aa)]
theorem vZ{P:Program}{t:TypeId}{fs:Array Field}(h:P.underlying t=some (.struct fs))(w:World):(isAgg t).run P w=.ok true w:=by
 simp[isAgg,bZ h]
theorem vv{P:Program}{t:TypeId}{d:TypeDesc}(h:P.underlying t=some d)(h1:∀fs,d≠.struct fs)(h2:∀n e,d≠.array n e)(w:World) :
 (isAgg t).run P w=.ok false w:=by
 cases d<;>first|(exact absurd rfl (h1 _))|(exact absurd rfl (h2 _ _))|simp[isAgg,bZ h]
theorem fS{P:Program}{t:TypeId}{i:TypeInfo}(h:P.info? t=some i)(w:World):(sizeOf t).run P w=.ok i.size w:=by
 simp[sizeOf,typeInfo,h]
theorem lW{P:Program}{T:Nat}{ti:TI}(ht:TIok P T ti){w:World}{b o:Nat}{cs:Array Value}{T':TypeId}{fr:Nat×Nat}
 (hb:w.heap[b]? = some (.cells cs T' fr)) (hfit:o+ti.n<=cs.size) :
 (loadVar T ⟨b,o,none⟩).run P w=.ok (if ti.agg then .agg ((List.range ti.n).map λj=>cs.getD (o+j) undef).toArray else cs.getD o undef) w:=by
 obtain⟨i,z,hi,hs,-⟩:=ht.info
 cases hg:ti.agg with
 | true =>
   obtain⟨fs,hf,-⟩:=ht.st hg;simp[loadVar,vZ hf,fS hi,hs,JE hb hfit]
 | false =>
   obtain⟨-,hn,d,hd,h1,h2⟩:=ht.nst hg;have:=yf hb (show o<cs.size from aa);simp[loadVar,vv hd h1 h2,this]
theorem mL{w:World}{M:Nat->Prop}{u:Value}{d:CD}(h:Rd w false (λb=>¬M b) u d):VRel w M (toAV d) u:=by
 cases d with
 |v u'=>cases h with|plain h=>exact .v _ h
 |s rows=>exact .ro _ _ h
 |h k H sz len=>exact .ml _ _ _ _ _ h.mlv
theorem sy{w:World}{M:Nat->Prop}{b o:Nat}{cs:Array Value}{T:TypeId}{fr:Nat×Nat}{row:List CD}(hfit:o+row.length<=cs.size)
 (hr:∀j d,row[j]? = some d->Rd w false (λb=>¬M b) (cs.getD (o+j) undef) d) {P:Program}{t:Nat}{ti:TI}(ht:TIok P t ti)
 (hb:w.heap[b]? = some (.cells cs T fr)) {K:AV->Prop}(h:jC ti row K) :
 ∃v av,(loadVar t ⟨b,o,none⟩).run P w=.ok v w/\VRel w M av v/\K av:=by
 unfold jC at h
 split at h
 ·rename_i hg
  obtain⟨hn,hK⟩:=h;refine⟨_,_,lW ht hb aa,?_,hK⟩;rw[ai hg];refine .agg _ _ aJ ?_;intro j av hj;simp only[bX,bn,eV]at hj;obtain⟨d,hd,rfl⟩:=hj
  split at hd
  ·rename_i hlt
   have:=mL (hr j d hd)
   simpa[hlt]using this
  ·exact absurd hd ab
 ·rename_i hg
  cases row with
  |nil=>exact h.elim
  | cons d rest =>
    have hag:ti.agg=false:=by simpa using hg
    obtain⟨-,hn,-⟩:=ht.nst hag;refine⟨_,_,lW ht hb (by simp at hfit;omega),?_,h⟩;rw[hag]
    simpa using mL (hr 0 d rfl)
theorem Rd.slice_inv{w:World}{x:Bool}{S:Nat->Prop}{b off n cap:Nat}{rows:List (List CD)}(h:Rd w x S (.slice (some ⟨b,off,none⟩) n cap) (.s rows))(hne:rows≠[]) :
 ∃ (sz : Nat) (cs : Array Value) (T : TypeId) (fr : Nat × Nat) (F : Nat -> Nat -> Nat -> Prop), S b /\ w.heap[b]? = some (.cells cs T fr) /\ off + rows.length * sz <= cs.size /\ (∀ row ∈ rows, row.length = sz) /\ (∀ i j c, F i j c -> S c) /\
   ∀i j row d,rows[i]? = some row->row[j]? = some d->Rd w x (F i j) (cs.getD (off+(i*sz+j)) undef) d:=by
 generalize hu:Value.slice (some ⟨b,off,none⟩) n cap=u at h
 cases h with
 |empty=>exact absurd rfl hne
 | slice b' off' cap' sz cs T fr rows F hcap hmax hsz hS hb hfit hown hF hd hlen hr =>
   injection hu with h1 h2 h3
   injection h1 with h1
   injection h1 with h4 h5 h6
   subst h4;subst h5;exact⟨sz,cs,T,fr,F,hS,hb,hfit,hlen,λi j c hc=>(hF i j c hc).1,hr⟩
theorem AL{w:World}{base:Bs}{hp:AH}{Es:Nat->Nat->Prop}(hH:HRel base hp w Es){P:Program}{t:Nat}{ti:TI}(ht:TIok P t ti){x:AV}{u:Value}
 (hx:VRel w hp.M x u) {K:AV->Prop}(h:loadAt ti hp x K) :
 ∃v av,(Instr.loadAt t u).run P w=.ok v w/\VRel w hp.M av v/\K av:=by
 unfold loadAt at h
 split at h
 ·rename_i k b c
  cases hx
  have ho:=hH.obj k
  split at h
  ·rename_i b' T cells hget
   obtain⟨rfl,h⟩:=h;rw[hget]at ho;obtain⟨cs,hb,hs,hc⟩:=ho;unfold n7 at h
   split at h
   ·rename_i hg
    obtain⟨hn,hK⟩:=h;refine⟨_,_,by simpa[Instr.loadAt,Instr.sureAddr]using lW (P:=P) ht hb (o:=c) aa,?_,hK⟩;rw[ai hg];refine .agg _ _ aJ ?_;intro j av hj;rw[eV]at hj
    split at hj
    ·rename_i hlt
     rw[dV]at hj
     simpa[hlt]using hc _ _ hj
    ·exact absurd hj ab
   ·rename_i hg
    have hag:ti.agg=false:=by simpa using hg
    obtain⟨-,hn,-⟩:=ht.nst hag
    split at h
    ·rename_i av hav
     have hlt:c<cells.length:=(az.1 hav).1;refine⟨_,_,by simpa[Instr.loadAt,Instr.sureAddr]using lW (P:=P) ht hb (o:=c) aa,?_,h⟩;rw[hag]
     simpa using hc _ _ hav
    ·exact h.elim
  ·exact h.elim
 ·rename_i k H sz r c
  have ho:=hH.obj k
  split at h
  ·rename_i H' sz' rows own hget
   obtain⟨hHd,rfl,hlt,h⟩:=h;rw[hget]at ho
   cases hx with
   | e k b o C1 sz r c =>
     obtain⟨C,rfl⟩:=hHd.some_of;obtain⟨cs,T',F,hb,hlen,hC,hsz,hfit,hrl,hF,hd,hr⟩:=ho;have hrow:rows[r]? = some rows[r]:=aB hlt;have h:=h _ hrow
     have hle:r*sz+sz<=C*sz:=by
      have:=aA sz (show r+1<=C from aa);exact Ly
     have hl:(rows[r]).length=sz:=hrl _ (ak hlt);by_cases hc:c<=sz
     ·have:=sy (M:=hp.M) (b:=b) (o:=o+r*sz+c) (cs:=cs) (row:=(rows[r]).drop c) (w:=w) (by simp only[eO,hl];omega) ?_ ht hb h
      ·obtain⟨v,av,h1,h2,h3⟩:=this
       exact LK
      ·intro j d hj
       rw[dV]at hj;have:=(hr r (c+j) _ d hrow hj).weaken.map (λ_ _ _=>rfl) (λq hq _=>(hF _ _ _ hq).2);have e:o+r*sz+c+j=o+(r*sz+(c+j)):=aa;rw[e];exact this
     ·exact V9
  ·rename_i H' sz' rows hget
   obtain⟨rfl,rfl,hlt,h⟩:=h;rw[hget]at ho;obtain⟨hrl,hex,hrd⟩:=ho;have hne:rows≠[]:=λe=>by rw[e]at hlt;simp at hlt
   obtain⟨b0,o0,C0,rfl,hC⟩:=hex hne
   cases hx with
   | e =>
     have hRd:=hrd (.slice (some ⟨b0,o0+0*sz,none⟩) rows.length (C0-0)) (.inl ⟨rfl,aa⟩);obtain⟨sz2,cs,T',fr,F,hS,hb,hfit,hlen,hF,hr⟩:=hRd.slice_inv hne;have hrow:rows[r]? = some rows[r]:=aB hlt;have h:=h _ hrow;have hl:(rows[r]).length=sz:=hrl _ (ak hlt);have hsz2:sz2=sz:=by rw[<-hl,hlen _ (ak hlt)]
     subst hsz2
     have hle:r*sz2+sz2<=rows.length*sz2:=by
      have:=aA sz2 (show r+1<=rows.length from aa);exact Ly
     have hfit2:o0+r*sz2+sz2<=cs.size:=aa;by_cases hc:c<=sz2
     ·have:=sy (M:=hp.M) (b:=b0) (o:=o0+r*sz2+c) (cs:=cs) (row:=(rows[r]).drop c) (w:=w) (by simp only[eO,hl];omega) ?_ ht hb h
      ·obtain⟨v,av,h1,h2,h3⟩:=this
       exact LK
      ·intro j d hj
       rw[dV]at hj;have:=(hr r (c+j) _ d hrow hj).map (λ_ _ _=>rfl) (λq hq _=>hF _ _ _ hq);have e:o0+r*sz2+c+j=o0+0*sz2+(r*sz2+(c+j)):=aa;rw[e];exact this
     ·exact V9
  ·exact h.elim
 ·rename_i row
  cases hx with
  | rp row b o cs T fr hM hb hfit hr =>
    obtain⟨v,av,h1,h2,h3⟩:=sy hfit hr ht hb h;exact LK
 ·exact h.elim
theorem fQ{E:Env}(hE:EOk E){T:Nat}{K:Nat->TI->Prop}(h:gi E T K) :
 ∃e te i,E.P.underlying T=some (.slice e)/\TIok E.P e te/\E.P.info? e=some i/\i.size=te.n/\i.bytes=te.bytes/\K e te:=by
 unfold gi at h
 split at h
 ·rename_i ti hti
  split at h
  ·rename_i e he
   split at h
   ·rename_i te hte
    obtain⟨i,z,hi,h1,h2,-⟩:=(hE.1 _ _ hte).info;exact⟨e,te,i,(hE.1 _ _ hti).sl e he,hE.1 _ _ hte,hi,h1,h2,h⟩
   ·exact h.elim
  ·exact h.elim
 ·exact h.elim
theorem IQ{P:Program}{w:World}{M:Nat->Prop}{T e:Nat}{te:TI}{i:TypeInfo}(hu:P.underlying T=some (.slice e))(hi:P.info? e=some i)(hs:i.size=te.n)
 {x y:AV}{u v:Value}(hx:VRel w M x u) (hy:VRel w M y v) {K:AV->Prop}(h:indexAt te x y K) :
 ∃r av,(Instr.indexAt T u v).run P w=.ok r w/\VRel w M av r/\K av:=by
 unfold indexAt at h
 split at h
 ·rename_i rows k n
  obtain⟨h0,hn,h⟩:=h
  cases hy
  cases hx with
  | ro rows x hr =>
    cases hr with
    |empty a cap=>simp at hn;omega
    | slice b off cap sz cs T' fr rows F hcap hmax hsz hS hb hfit hown hF hd hlen hr =>
      have hlt:n.toNat<rows.length:=aa;have hrow:rows[n.toNat]? = some rows[n.toNat]:=aB hlt;obtain⟨hl,hK⟩:=h _ hrow;have hl':=hlen _ (ak hlt)
      have hle:n.toNat*sz+sz<=rows.length*sz:=by
       have:=aA sz (show n.toNat+1<=rows.length from aa);exact Ly
      refine⟨.pointer (some ⟨b,off+n.toNat*sz,none⟩),_,?_,.rp _ b _ cs T' fr hS hb aa ?_,hK⟩
      ·have e:te.n=sz:=by omega
       simp[Instr.indexAt,bZ hu,asIntOf,h0,hn,fS hi,hs,hJ,e]
      ·intro j d hj
       have:=(hr n.toNat j _ d hrow hj).map (λ_ _ _=>rfl) (λq hq _=>(hF _ _ _ hq).1);have e:off+n.toNat*sz+j=off+(n.toNat*sz+j):=aa;rw[e];exact this
 ·rename_i k H sz off len ki n
  obtain⟨h0,hn,hsz,hK⟩:=h
  cases hy
  cases hx with
  | sl k H sz off len x hx =>
    cases H with
    |none=>obtain⟨_,rfl⟩:=hx;simp at hn;omega
    | some q =>
      obtain⟨b,o,C⟩:=q;rcases hx with⟨rfl,hC⟩|⟨rfl,_⟩
      ·refine⟨.pointer (some ⟨b,o+(off+n.toNat)*sz+0,none⟩),_,?_,.e k b o C sz _ 0,hK⟩
       simp[Instr.indexAt,bZ hu,asIntOf,h0,hn,fS hi,hs,hJ,hsz,fG,jW]
      ·simp at hn;omega
 ·rename_i k H sz len ki n
  obtain⟨h0,hn,hsz,hK⟩:=h
  cases hy
  cases hx with
  | ml k H sz len x hx =>
    rcases hx with⟨-,hx⟩|⟨rfl,-⟩
    ·cases H with
     |none=>obtain⟨_,rfl⟩:=hx;simp at hn;omega
     | some q =>
       obtain⟨b,o,C⟩:=q;rcases hx with⟨rfl,hC⟩|⟨rfl,_⟩
       ·refine⟨.pointer (some ⟨b,o+n.toNat*sz+0,none⟩),_,?_,.e k b o C sz _ 0,hK⟩
        simp[Instr.indexAt,bZ hu,asIntOf,h0,hn,fS hi,hs,hJ,hsz]
       ·simp at hn;omega
    ·simp at hn;omega
 ·exact h.elim
theorem I2{P:Program}{w:World}{M:Nat->Prop}{T f:Nat}{ti:TI}(ht:TIok P T ti){x:AV}{u:Value}(hx:VRel w M x u){K:AV->Prop}(h:fieldAt ti f x K) :
 ∃r av,(Instr.fieldAt T u f).run P w=.ok r w/\VRel w M av r/\K av:=by
 unfold fieldAt at h
 split at h
 ·rename_i off n hf
  have hag:ti.agg=true:=by
   exact Uv
  obtain⟨fs,hu,hmap,hfs⟩:=ht.st hag;obtain⟨g,j,hg,ho,hj,hn⟩:=GF _ _ hmap _ _ hf;have hpos:=(hfs _ (a8 hf)).1;simp only[s9]at hg;simp only at ho hn hpos
  have hrun:∀b o,(Instr.fieldAt T (.pointer (some ⟨b,o,none⟩)) f).run P w=.ok (.pointer (some ⟨b,o+off,none⟩)) w:=by
   intro b o;simp[Instr.fieldAt,bZ hu,hg,Instr.sureAddr,fieldPlace,fS hj,hn,ho,hJ];omega
  split at h
  ·cases hx;exact⟨_,_,hrun _ _,.p _ _ _,h⟩
  ·cases hx with
   | e k b o C sz r c =>
     exact⟨_,_,hrun _ _,by rw[jW];exact .e _ _ _ _ _ _ _,h⟩
  ·cases hx with
   | rp row b o cs T' fr hM hb hfit hr =>
     obtain⟨hle,hK⟩:=h;refine⟨_,_,hrun _ _,.rp _ b _ cs T' fr hM hb (by simp only[eO];omega) ?_,hK⟩;intro j d hj;rw[dV]at hj;rw[jW];exact hr _ _ hj
  ·exact h.elim
 ·exact h.elim
theorem M6{P:Program}{w:World}{M:Nat->Prop}{T f:Nat}{ti:TI}(ht:TIok P T ti){x:AV}{u:Value}(hx:VRel w M x u){K:AV->Prop}(h:uX ti f x K) :
 ∃r av,(Instr.field T u f).run P w=.ok r w/\VRel w M av r/\K av:=by
 unfold uX at h
 split at h
 ·rename_i off n b l hf hb
  have hag:ti.agg=true:=by
   exact Uv
  obtain⟨fs,hu,hmap,hfs⟩:=ht.st hag;obtain⟨g,j,hg,ho,hj,hn⟩:=GF _ _ hmap _ _ hf;obtain⟨g',hg',hag'⟩:=ht.fa fs hu f b hb;rw[hg]at hg'
  cases hg'
  simp only[s9]at hg;simp only at ho hn
  cases hx with
  | agg l xs hs hl =>
    cases b with
    | true =>
      obtain⟨gs,hgs⟩:=hag';obtain⟨hle,hK⟩:=h;refine⟨.agg (xs.extract off (off+n)),_,?_,.agg _ _ ?_ ?_,hK⟩
      ·simp[Instr.field,bZ hu,hg,asAgg,part,vZ hgs,fS hj,hn,ho]
      ·simp;omega
      ·intro i av hi
       rw[eV]at hi
       split at hi
       ·rename_i hlt
        rw[dV]at hi;have:=hl _ _ hi
        have e:(xs.extract off (off+n)).getD i undef=xs.getD (off+i) undef:=by
         simp only[aT];rw[Array.getElem?_extract,ai aa]
        rw[e];exact this
       ·exact absurd hi ab
    | false =>
      obtain⟨d,hd,h1,h2⟩:=hag';simp only[mJ,dO]at h
      split at h
      ·rename_i v hv
       have hlt:off<xs.size:=Lv;refine⟨xs.getD off undef,v,?_,hl _ _ hv,h⟩;simp[Instr.field,bZ hu,hg,asAgg,part,vv hd h1 h2,ho,hlt]
      ·exact ec
 ·exact h.elim
theorem Ol{P:Program}{w:World}(op:BinOp)(T:TypeId)(x y:Operand){a b:Value}(ha:plain a=true):(eqGuard op T x y a b).run P w=.ok () w:=by
 unfold eqGuard
 cases a<;>simp[plain]at ha<;>(repeat' split)<;>simp_all
theorem Se{E:Env}(hE:EOk E){w:World}{M:Nat->Prop}{op:BinOp}{T:Nat}{x y:Value}{K:AV->Prop}(h:kZ (E.isBool T) op x y K) :
 ∃r av,(binOp op T x y).run E.P w=.ok r w/\VRel w M av r/\K av:=by
 unfold kZ at h
 have hB:E.isBool T->E.P.underlying T=some .bool:=by
  intro hb;unfold Env.isBool at hb
  split at hb
  ·rename_i ti hti;exact(hE.1 _ _ hti).boo hb
  ·exact hb.elim
 split at h
 all_goals first
  |exact h.elim
  |(obtain⟨rfl,h⟩:=h;refine⟨_,_,?_,.v _ rfl,h⟩;simp[binOp,Op.intArith,Op.intBits,Op.intCmp,bits];done)
  |(obtain⟨rfl,h⟩:=h;refine⟨_,_,?_,.v _ rfl,h⟩;simp[binOp,Op.intCmp];rfl)
  |(obtain⟨rfl,h0,h⟩:=h;refine⟨_,_,?_,.v _ rfl,h⟩;simp[binOp,Op.intDiv,h0];done)
  |(obtain⟨h0,h1,h⟩:=h;refine⟨_,_,?_,.v _ rfl,h⟩;simp only[binOp];rw[shift_shl _ _ _ _ h0 h1];rfl)
  |(obtain⟨h0,h1,h⟩:=h;refine⟨_,_,?_,.v _ rfl,h⟩;simp only[binOp];rw[shift_shr _ _ _ _ h0 h1];rfl)
  |(obtain⟨hb,h⟩:=h;refine⟨_,_,?_,.v _ rfl,h⟩;exact run_eql_bool _ _ _ _ (hB hb))
  |(obtain⟨hb,h⟩:=h;refine⟨_,_,?_,.v _ rfl,h⟩;exact run_neq_bool _ _ _ _ (hB hb))
  |(refine⟨_,_,?_,.v _ rfl,h⟩;simp[binOp,Op.stringOp];done)
  | (rename_i a b; obtain ⟨hs, h⟩ := h; refine ⟨_, _, ?_, .v _ rfl, h⟩
     simp[binOp,Op.stringOp];omega)
theorem Bc{w0:World}{base:Bs}{st:ASt}{a:Act}{w:World}(hR:Rep w0 base st a w)(l:List Operand)(xs:Array Value)(hx:xs=(l.map a.eval).toArray) :
 ∀i av,(l.map st.ev)[i]? = some av->VRel w st.h.M av (xs.getD i undef):=by
 intro i av hi;subst hx;simp only[bX,bn]at hi;obtain⟨x,hx,rfl⟩:=hi;have:(l.map a.eval).toArray.getD i undef=a.eval x:=by simp[hx]
 rw[this];exact VRel.ev hR x
theorem ye{w:World}{M:Nat->Prop}{av:AV}{u:Value}(h:VRel w M av u)(h1:av.cells.all AV.one=true) :
 u.cells.size=av.cells.length/\∀(j:Nat) (a:AV),av.cells[j]? = some a->VRel w M a (u.cells.getD j undef):=by
 cases h with
 |agg l xs hs hl=>exact⟨hs,hl⟩
 |any x=>simp[AV.cells,AV.one]at h1
 |un=>simp[AV.cells,AV.one]at h1
 |is u=>simp[AV.cells,AV.one]at h1
 |tup l xs hs hl=>simp[AV.cells,AV.one]at h1
 |nil=>exact⟨rfl,λj a hj=>by rcases j with _|j<;>simp[AV.cells]at hj;subst hj;exact .nil⟩
 | v u hp =>
   have e:u.cells = #[u]:=by cases u<;>simp[plain]at hp<;>rfl
   rw[e];exact⟨rfl,λj a hj=>by rcases j with _|j<;>simp[AV.cells]at hj;subst hj;exact .v _ hp⟩
 | ro rows x hr =>
   have e:u.cells = #[u]:=by cases hr<;>rfl
   rw[e];exact⟨rfl,λj a hj=>by rcases j with _|j<;>simp[AV.cells]at hj;subst hj;exact .ro _ _ hr⟩
 | sl k H sz off len x hx =>
   have e:u.cells = #[u]:=by
    exact VK
   rw[e];exact⟨rfl,λj a hj=>by rcases j with _|j<;>simp[AV.cells]at hj;subst hj;exact .sl _ _ _ _ _ _ hx⟩
 | cv u len h =>
   have e:u.cells = #[u]:=by obtain⟨a,c,rfl⟩:=h;rfl
   rw[e];exact⟨rfl,λj a hj=>by rcases j with _|j<;>simp[AV.cells]at hj;subst hj;exact .cv _ _ h⟩
 | ml k H sz len x h =>
   have e:u.cells = #[u]:=by obtain⟨a,c,rfl⟩:=h.slice;rfl
   rw[e];exact⟨rfl,λj a hj=>by rcases j with _|j<;>simp[AV.cells]at hj;subst hj;exact .ml _ _ _ _ _ h⟩
 |p k b c=>exact⟨rfl,λj a hj=>by rcases j with _|j<;>simp[AV.cells]at hj;subst hj;exact .p _ _ _⟩
 |e k b o C sz r c=>exact⟨rfl,λj a hj=>by rcases j with _|j<;>simp[AV.cells]at hj;subst hj;exact .e _ _ _ _ _ _ _⟩
 |rp row b o cs T fr hM hb hfit hr=>exact⟨rfl,λj a hj=>by rcases j with _|j<;>simp[AV.cells]at hj;subst hj;exact .rp _ _ _ _ _ _ hM hb hfit hr⟩
 |clo f l xs hs hl=>exact⟨rfl,λj a hj=>by rcases j with _|j<;>simp[AV.cells]at hj;subst hj;exact .clo _ _ _ hs hl⟩
theorem OG{w:World}{M:Nat->Prop}{av:AV}{u:Value}(h:VRel w M av u)(h1:av.one=true):u.oneCell'=true:=by
 cases h with
 |any x=>simp[AV.one]at h1
 |un=>simp[AV.one]at h1
 |is=>simp[AV.one]at h1
 |tup=>simp[AV.one]at h1
 |agg=>simp[AV.one]at h1
 |v u hp=>exact JJ hp
 |ro rows x hr=>cases hr<;>rfl
 |cv u len h=>obtain⟨a,c,rfl⟩:=h;rfl
 |ml k H sz len x h=>obtain⟨a,c,rfl⟩:=h.slice;rfl
 | sl k H sz off len x hx =>
   exact VK
 |_=>rfl
theorem pH{α:Type}:∀(l:List α) (c:Nat) (vs:List α),c+vs.length<=l.length->(jU l c vs).length=l.length
 |l,_,[],_=>by cases l<;>simp[jU]
 | [],_,_::_,h=>iz
 |_::l,0,v::vs,h=>by simp only[jU,bu];rw[pH l 0 vs (by simp at h;omega)]
 |_::l,c+1,v::vs,h=>by simp only[jU,bu];rw[pH l c (v::vs) Ey]
theorem v8{α:Type}:∀(l:List α) (c:Nat) (vs:List α),c+vs.length<=l.length->∀j,(jU l c vs)[j]? = if c<=j/\j<c+vs.length then vs[j-c]? else l[j]?
 | l, c, [], _, j => by
   have:¬(c<=j/\j<c+([]:List α).length):=ab;rw[aj this];cases l<;>simp[jU]
 | [],_,_::_,h,_=>iz
 | x :: l, 0, v :: vs, h, j => by
   simp only[jU]
   cases j with
   |zero=>simp
   | succ j =>
     have:=v8 l 0 vs (by simp at h;omega) j;simp only[qO,this];simp
 | x :: l, c + 1, v :: vs, h, j => by
   simp only[jU]
   cases j with
   |zero=>simp
   | succ j =>
     have:=v8 l c (v::vs) Ey j;simp only[qO,this];have e:j+1-(c+1)=j-c:=aa;rw[e];by_cases hh:c<=j/\j<c+(v::vs).length
     ·rw[ai hh,ai (by simp at hh⊢;omega)]
     ·rw[aj hh,aj (by simp at hh⊢;omega)]
theorem BS(c:Nat):∀(l:List Value) (k:Nat) (cs:Array Value),c+k+l.length<=cs.size ->
 ((l.zipIdx k).foldl (λ(cs:Array Value) (p:Value×Nat)=>cs.setIfInBounds (c+p.2) p.1) cs).size=cs.size /\
 ∀j,((l.zipIdx k).foldl (λ(cs:Array Value) (p:Value×Nat)=>cs.setIfInBounds (c+p.2) p.1) cs).getD j undef=if c+k<=j/\j<c+k+l.length then l.getD (j-(c+k)) undef else cs.getD j undef
 | [], k, cs, _ => by
   refine⟨rfl,λj=>?_⟩;rw[aj ab];rfl
 | x :: l, k, cs, h => by
   simp only[List.zipIdx_cons,nf];obtain⟨h1,h2⟩:=BS c l (k+1) (cs.setIfInBounds (c+k) x) Ey;refine⟨by simpa using h1,λj=>?_⟩;rw[h2 j];by_cases hj:c+(k+1)<=j/\j<c+(k+1)+l.length
   ·rw[ai hj,ai aJ]
    have e:j-(c+k)=(j-(c+(k+1)))+1:=aa;rw[e];rfl
   ·rw[aj hj]
    by_cases he:j=c+k
    ·subst he
     simp at h;rw[ai ab];simp;omega
    ·rw[aj aJ]
     simp[adg he]
theorem XM(place:Nat->Option (Nat×Nat))(cells:Array Value)(i:Nat)(v:Value)(rest:List (Nat×Value))(off n:Nat)(hp:place i=some (off,n))(hs:v.cells.size=n)(hf:off+n<=cells.size) :
 Instr.fill place cells ((i,v)::rest)=Instr.fill place (v.cells.zipIdx.foldl (λcs (c,j)=>cs.setIfInBounds (off+j) c) cells) rest:=by
 simp[Instr.fill,hp,hs];intro h;omega
theorem ud(v:Array Value)(off:Nat)(cells:Array Value) :
 v.zipIdx.foldl (λcs (c,j)=>cs.setIfInBounds (off+j) c) cells=(v.toList.zipIdx 0).foldl (λ(cs:Array Value) (p:Value×Nat)=>cs.setIfInBounds (off+p.2) p.1) cells:=by
 rw[<-Array.foldl_toList];simp
theorem GX{w:World}{M:Nat->Prop}(place:Nat->Option (Nat×Nat))(fields:List (Nat×Nat))(hpl:∀i off n,fields[i]? = some (off,n)->place i=some (off,n)){K:List AV->Prop} :
 ∀(parts:List (Nat×AV)) (vparts:List (Nat×Value)) (acells:List AV) (cells:Array Value),vparts.length=parts.length ->
 (∀(i:Nat) (p:Nat×AV),parts[i]? = some p->∃v,vparts[i]? = some (p.1,v)/\VRel w M p.2 v) ->
 cells.size=acells.length->(∀(j:Nat) (a:AV),acells[j]? = some a->VRel w M a (cells.getD j undef))->se fields acells parts K ->
 ∃l cs,Instr.fill place cells vparts=some cs/\cs.size=l.length/\(∀(j:Nat) (a:AV),l[j]? = some a->VRel w M a (cs.getD j undef))/\K l
 | [], vparts, acells, cells, hl, _, hs, hc, h => by
   have:vparts=[]:=aL uq;subst this;exact⟨acells,cells,rfl,hs,hc,h⟩
 | (i, av) :: rest, vparts, acells, cells, hl, hp, hs, hc, h => by
   cases vparts with
   |nil=>simp at hl
   | cons q vrest =>
     unfold se at h
     split at h
     ·rename_i off n hf
      obtain⟨hn,hfit,hone,h⟩:=h;obtain⟨v,hv,hr⟩:=hp 0 _ rfl;simp only[List.getElem?_cons_zero,cR]at hv;subst hv;obtain⟨hcs,hcr⟩:=ye hr hone;have hsize:v.cells.size=n:=by rw[hcs,hn]
      obtain⟨g1,g2⟩:=BS off v.cells.toList 0 cells aJ
      have:=GX place fields hpl rest vrest (jU acells off av.cells) (v.cells.zipIdx.foldl (λcs (c,j)=>cs.setIfInBounds (off+j) c) cells) uq
       (λi p hi=>hp (i+1) p fR) ?_ ?_ h
      ·obtain⟨l,cs,h1,h2⟩:=this
       exact⟨l,cs,by rw[XM place cells i v vrest off n (hpl _ _ _ hf) hsize aa];exact h1,h2⟩
      ·rw[ud,g1,pH _ _ _ aa,hs]
      ·intro j a hj
       rw[v8 _ _ _ aa]at hj;rw[ud,g2 j];by_cases hh:off<=j/\j<off+av.cells.length
       ·rw[ai hh]at hj
        rw[ai aJ];have:=hcr _ _ hj;exact mS
       ·rw[aj hh]at hj
        rw[aj aJ];exact hc j a hj
     ·exact ec
theorem NF{E:Env}(hE:EOk E){w:World}{M:Nat->Prop}{T:Nat}{parts:List (Nat×AV)}{vparts:Array (Nat×Value)}(hl:vparts.toList.length=parts.length)
 (hp:∀(i:Nat) (p:Nat×AV),parts[i]? = some p->∃v,vparts.toList[i]? = some (p.1,v)/\VRel w M p.2 v) {K:AV->Prop}(h:sY E T parts K) :
 ∃r av,(Instr.build T vparts).run E.P w=.ok r w/\VRel w M av r/\K av:=by
 unfold sY at h
 split at h
 ·rename_i ti hti
  obtain⟨hag,h⟩:=h;have ht:=hE.1 _ _ hti;obtain⟨fs,hu,hmap,-⟩:=ht.st hag;obtain⟨i,z,hi,hs,hb,hz,hzc,-⟩:=ht.info
  have hsz:z.cells.size=ti.zero.length:=by
   have:=aO List.length hzc;exact mS
  obtain⟨l,cs,h1,h2,h3,h4⟩:=GX (w:=w) (M:=M) (ti.fields.toArray[·]?) ti.fields ab parts vparts.toList ti.zero z.cells hl hp hsz (λj a hj=>by
   have e:z.cells.getD j undef=zv a:=by
    exact L1
   rw[e];rcases ht.zok a (a8 hj)with rfl|⟨u,rfl,hp⟩
   ·exact .nil
   ·exact .v _ hp) h
  refine⟨.agg cs,.agg l,run_build w T vparts cs ?_,.agg _ _ h2 h3,h4⟩;unfold Program.built;simp only[hi,hu,hz,hmap];exact h1
 ·exact h.elim
theorem ir{α:Type}(rows:List α)(off len:Nat):cut rows off len=(rows.drop off).take len:=by
 unfold cut
 split
 ·rename_i h
  obtain⟨rfl,rfl⟩:=h;simp
 ·rfl
theorem qM{α:Type}(rows:List α)(off len i:Nat):(cut rows off len)[i]? = if i<len then rows[off+i]? else none:=by
 rw[ir,eV]
 split
 ·rw[dV]
 ·rfl
theorem oW{α:Type}(rows:List α)(off len:Nat)(h:off+len<=rows.length):(cut rows off len).length=len:=by
 rw[ir,gh,eO];omega
theorem Rd.cut{w:World}{S:Nat->Prop}{b off cap:Nat}{n:Nat}{rows:List (List CD)}{u:Value}{l h sz:Nat}(hu:u=.slice (some ⟨b,off,none⟩) n cap)(hr:Rd w false S u (.s rows))(hlh:l<=h)(hh:h<=rows.length)
 (hrl:∀row∈rows,row.length=sz) (a:Option Addr) (ha:h-l≠0->a=some ⟨b,off+l*sz,none⟩):Rd w false S (.slice a (h-l) (cap-l)) (.s (cut rows l (h-l))):=by
 by_cases hz:h-l=0
 ·rw[hz]
  have:AM.cut rows l 0=[]:=aL (oW _ _ _ aa);rw[this];exact .empty _ _ iA
 ·have ha:=ha hz
  cases hr with
  |empty a' c=>simp at hh;omega
  | slice b' off' cap' sz' cs T fr rows F hcap hmax hsz hS hb hfit hown hF hd hlen hr =>
    cases hu
    subst ha;have hrow:=hlen _ (ak (show l<rows.length from aa));have hrow':=hrl _ (ak (show l<rows.length from aa));have e:sz'=sz:=aa;subst e;have hcl:(AM.cut rows l (h-l)).length=h-l:=oW _ _ _ aa
    have:=Rd.slice (w:=w) (x:=false) (S:=S) b (off+l*sz') (cap-l) sz' cs T fr (AM.cut rows l (h-l)) (λi j c=>F (l+i) j c) aa aa hsz hS hb ?_ iA
     (λi j c hc=>⟨(hF _ _ _ hc).1,iA⟩) iA ?_ ?_
    ·rw[hcl]at this;exact this
    ·have:=aA sz' (show l+(h-l)<=rows.length from aa)
     rw[fG]at this;rw[hcl];omega
    ·intro row hm
     obtain⟨i,hi⟩:=jn hm;rw[qM]at hi
     split at hi
     ·exact hlen _ (a8 hi)
     ·simp at hi
    ·intro i j row d hi hj
     rw[qM]at hi
     split at hi
     ·have:=hr (l+i) j row d hi hj
      have e:off+l*sz'+(i*sz'+j)=off+((l+i)*sz'+j):=Ex;rw[e];exact this
     ·simp at hi
end Go.AM
