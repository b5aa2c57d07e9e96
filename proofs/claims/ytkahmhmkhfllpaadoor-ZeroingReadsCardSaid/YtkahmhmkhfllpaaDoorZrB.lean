/-
 The small functions that the laws of layer 15 reach: what each call returns.
 zeroing.mask.cuts returns the longest runs of the bits of a number.
 zeroing.Check says what is wrong with a state.
 The reference's Check says the same.
 What is asked ahead of a call: ask,and the reference's asked.
 slices.Delete of one cut,and zeroing.mask.down.
 zeroing.mask.down puts bytes down.
-/
import Derived.Test.YtkahmhmkhfllpaaDoorZrA
import Derived.Test.YtkahmhmkhfllpaaDoorCode
set_option linter.unusedSimpArgs false
set_option linter.unusedVariables false
namespace Go.Proofs.YtkahmhmkhfllpaaDoor
open Go Go.Am Go.Pol
theorem wkz_Za {p:Prop} (h:p:=by (((repeat' (first|exact wkl_nil|refine wkl_cons ?_ ?_|exact wk_undef|exact wk_int (by first|rfl|omega)|exact wk_bool rfl|exact wk_yld rfl (by first|decide|simp|omega)|with_reducible refine wk_fn ?_ ?_|with_reducible refine wk_agg ?_|with_reducible refine wk_tup ?_|exact wk_ptr rfl (by first|decide|simp|omega)|exact wk_sl rfl (by first|decide|simp|omega) (by first|rfl|omega|simp) (by first|omega|simp) (by first|omega|simp)|exact wk_plain (by first|exact subH_nil|exact subH_of rfl) (by (first|assumption|exact plain_int|exact plain_bool|exact plain_undef|exact plain_nils|exact plain_nilp|exact plain_nilf|exact plain_str)))));first|done|fail)):p:=h
theorem simx_Za0 {p q:Prop} (hq:q) (h:p=q:=by ((simp +contextual (disch:=first|(simp only [simC];done)|omega) only [simD,condS_d,simK,List.contains_cons,List.contains_nil,sim,simL,simQ,simS,simG,simV,simB,simE,ev_load,ev_store,ev_bslice,ev_build,ev_slA,ev_slS,ev_clear,ev_append,app_eq,app1_ite,src_sl,simA,d_nil,d_op,d_opG,goD_some,goD_ite,goD_iteN,goDG_s,Hp.appD,load_ptr,load_iptr,store_ptr,part_t,part_f,cells_lk,vals_nil,vals_cons,parts_nil,parts_cons,fillL,over,AV.flat,AV.one,AV.cells,pureR_ite,pureR_iteN,bind_ite,map_ite,ldR_ite,stR_ite,clR_ite,goS_ite,goS_iteN,goQ_ite,goQ_iteN,finN,finR,resVs,resV,packV,nchkV,faddrV,fldV,extV,lenV,Hp.app,hasKey,puts,put,List.any_cons,List.any_nil,Option.bind_some,Option.bind_none,Option.map_some,Option.map_none,List.getElem?_cons_succ,List.getElem?_cons_zero,List.set_cons_succ,List.set_cons_zero,List.cons_append,List.nil_append,List.append_nil,List.replicate,List.drop_zero,List.drop_succ_cons,List.take_succ_cons,List.take_zero,List.length_cons,List.length_nil,decide_eq_true_eq,decide_true,decide_false,pick_u1,pick_u2,pick_t1,pick_t2,decide_eq_false_iff_not,Bool.not_true,Bool.not_false,Bool.not_eq_true,Bool.true_eq_false,Bool.false_eq_true,reduceCtorEq,Nat.reduceAdd,Nat.reduceSub,Nat.reduceMul,Nat.reduceLeDiff,Nat.reduceLT,Nat.reduceEqDiff,Nat.reduceBEq,Nat.zero_add,Nat.add_zero,reduceIte,if_true,if_false,and_true,true_and,and_false,false_and,true_implies,false_implies,implies_true,not_true_eq_false,not_false_eq_true,beq_self_eq_true,Bool.or_false,Bool.or_true,Bool.false_or,Bool.true_or,IntWalk.i64_in,Int.toNat_natCast,toNat_succ,Q.o,Q.u,Q.gt,Q.gf,Q.K,Q.bk,Q.mk,Q.q,Q.m,Q.l,Q.la,Q.b,Q.c,Q.f,Q.po,Q.pa,Q.e,Q.n,Q.is,Q.ia,Q.bx,Q.ln,Q.s]);first|done|rfl)):p:=h▸hq
theorem simx_Za1 {p q:Prop} (hq:q) (h:p=q:=by ((simp (config:={ maxSteps:=4000000 }) (disch:=first|(simp only [simC];done)|omega) only [simD,condS_d,simK,List.contains_cons,List.contains_nil,sim,simL,simQ,simS,simG,simV,simB,simE,ev_load,ev_store,ev_bslice,ev_build,ev_slA,ev_slS,ev_clear,ev_append,app_eq,app1_ite,src_sl,simA,d_nil,d_op,d_opG,goD_some,goD_ite,goD_iteN,goDG_s,Hp.appD,load_ptr,load_iptr,store_ptr,part_t,part_f,cells_lk,vals_nil,vals_cons,parts_nil,parts_cons,fillL,over,AV.flat,AV.one,AV.cells,pureR_ite,pureR_iteN,bind_ite,map_ite,ldR_ite,stR_ite,clR_ite,goS_ite,goS_iteN,goQ_ite,goQ_iteN,finN,finR,resVs,resV,packV,nchkV,faddrV,fldV,extV,lenV,Hp.app,hasKey,puts,put,List.any_cons,List.any_nil,Option.bind_some,Option.bind_none,Option.map_some,Option.map_none,List.getElem?_cons_succ,List.getElem?_cons_zero,List.set_cons_succ,List.set_cons_zero,List.cons_append,List.nil_append,List.append_nil,List.replicate,List.drop_zero,List.drop_succ_cons,List.take_succ_cons,List.take_zero,List.length_cons,List.length_nil,decide_eq_true_eq,decide_true,decide_false,pick_u1,pick_u2,pick_t1,pick_t2,decide_eq_false_iff_not,Bool.not_true,Bool.not_false,Bool.not_eq_true,Bool.true_eq_false,Bool.false_eq_true,reduceCtorEq,Nat.reduceAdd,Nat.reduceSub,Nat.reduceMul,Nat.reduceLeDiff,Nat.reduceLT,Nat.reduceEqDiff,Nat.reduceBEq,Nat.zero_add,Nat.add_zero,reduceIte,if_true,if_false,and_true,true_and,and_false,false_and,true_implies,false_implies,implies_true,not_true_eq_false,not_false_eq_true,beq_self_eq_true,Bool.or_false,Bool.or_true,Bool.false_or,Bool.true_or,IntWalk.i64_in,Int.toNat_natCast,toNat_succ,Q.o,Q.u,Q.gt,Q.gf,Q.K,Q.bk,Q.mk,Q.q,Q.m,Q.l,Q.la,Q.b,Q.c,Q.f,Q.po,Q.pa,Q.e,Q.n,Q.is,Q.ia,Q.bx,Q.ln,Q.s,show ((18446744073709551615:Int))=((18446744073709551615:Nat):Int) from rfl,shr_u64]);first|done|rfl)):p:=h▸hq
theorem simx_Za2 {p q:Prop} (hq:q) (h:p=q:=by ((simp (config:={ maxSteps:=4000000 }) (disch:=first|(simp only [simC];done)|omega) only [simD,condS_d,simK,List.contains_cons,List.contains_nil,sim,simL,simQ,simS,simG,simV,simB,simE,ev_load,ev_store,ev_bslice,ev_build,ev_slA,ev_slS,ev_clear,ev_append,app_eq,app1_ite,src_sl,simA,d_nil,d_op,d_opG,goD_some,goD_ite,goD_iteN,goDG_s,Hp.appD,load_ptr,load_iptr,store_ptr,part_t,part_f,cells_lk,vals_nil,vals_cons,parts_nil,parts_cons,fillL,over,AV.flat,AV.one,AV.cells,pureR_ite,pureR_iteN,bind_ite,map_ite,ldR_ite,stR_ite,clR_ite,goS_ite,goS_iteN,goQ_ite,goQ_iteN,finN,finR,resVs,resV,packV,nchkV,faddrV,fldV,extV,lenV,Hp.app,hasKey,puts,put,List.any_cons,List.any_nil,Option.bind_some,Option.bind_none,Option.map_some,Option.map_none,List.getElem?_cons_succ,List.getElem?_cons_zero,List.set_cons_succ,List.set_cons_zero,List.cons_append,List.nil_append,List.append_nil,List.replicate,List.drop_zero,List.drop_succ_cons,List.take_succ_cons,List.take_zero,List.length_cons,List.length_nil,decide_eq_true_eq,decide_true,decide_false,pick_u1,pick_u2,pick_t1,pick_t2,decide_eq_false_iff_not,Bool.not_true,Bool.not_false,Bool.not_eq_true,Bool.true_eq_false,Bool.false_eq_true,reduceCtorEq,Nat.reduceAdd,Nat.reduceSub,Nat.reduceMul,Nat.reduceLeDiff,Nat.reduceLT,Nat.reduceEqDiff,Nat.reduceBEq,Nat.zero_add,Nat.add_zero,reduceIte,if_true,if_false,and_true,true_and,and_false,false_and,true_implies,false_implies,implies_true,not_true_eq_false,not_false_eq_true,beq_self_eq_true,Bool.or_false,Bool.or_true,Bool.false_or,Bool.true_or,IntWalk.i64_in,Int.toNat_natCast,toNat_succ,Q.o,Q.u,Q.gt,Q.gf,Q.K,Q.bk,Q.mk,Q.q,Q.m,Q.l,Q.la,Q.b,Q.c,Q.f,Q.po,Q.pa,Q.e,Q.n,Q.is,Q.ia,Q.bx,Q.ln,Q.s]);first|done|rfl)):p:=h▸hq
theorem simx_Za3 {p q:Prop} (hq:q) (h:p=q:=by ((simp (config:={ maxSteps:=4000000 }) (disch:=first|(simp only [simC];done)|omega) only [simD,condS_d,simK,List.contains_cons,List.contains_nil,sim,simL,simQ,simS,simG,simV,simB,simE,ev_load,ev_store,ev_bslice,ev_build,ev_slA,ev_slS,ev_clear,ev_append,app_eq,app1_ite,src_sl,simA,d_nil,d_op,d_opG,goD_some,goD_ite,goD_iteN,goDG_s,Hp.appD,load_ptr,load_iptr,store_ptr,part_t,part_f,cells_lk,vals_nil,vals_cons,parts_nil,parts_cons,fillL,over,AV.flat,AV.one,AV.cells,pureR_ite,pureR_iteN,bind_ite,map_ite,ldR_ite,stR_ite,clR_ite,goS_ite,goS_iteN,goQ_ite,goQ_iteN,finN,finR,resVs,resV,packV,nchkV,faddrV,fldV,extV,lenV,Hp.app,hasKey,puts,put,List.any_cons,List.any_nil,Option.bind_some,Option.bind_none,Option.map_some,Option.map_none,List.getElem?_cons_succ,List.getElem?_cons_zero,List.set_cons_succ,List.set_cons_zero,List.cons_append,List.nil_append,List.append_nil,List.replicate,List.drop_zero,List.drop_succ_cons,List.take_succ_cons,List.take_zero,List.length_cons,List.length_nil,decide_eq_true_eq,decide_true,decide_false,pick_u1,pick_u2,pick_t1,pick_t2,decide_eq_false_iff_not,Bool.not_true,Bool.not_false,Bool.not_eq_true,Bool.true_eq_false,Bool.false_eq_true,reduceCtorEq,Nat.reduceAdd,Nat.reduceSub,Nat.reduceMul,Nat.reduceLeDiff,Nat.reduceLT,Nat.reduceEqDiff,Nat.reduceBEq,Nat.zero_add,Nat.add_zero,reduceIte,if_true,if_false,and_true,true_and,and_false,false_and,true_implies,false_implies,implies_true,not_true_eq_false,not_false_eq_true,beq_self_eq_true,Bool.or_false,Bool.or_true,Bool.false_or,Bool.true_or,IntWalk.i64_in,Int.toNat_natCast,toNat_succ,Q.o,Q.u,Q.gt,Q.gf,Q.K,Q.bk,Q.mk,Q.q,Q.m,Q.l,Q.la,Q.b,Q.c,Q.f,Q.po,Q.pa,Q.e,Q.n,Q.is,Q.ia,Q.bx,Q.ln,Q.s,h1,h2,h3,hG,iaddrAV,Nat.mul_one,ht]);first|done|rfl)):p:=h▸hq
theorem simx_Za5 {p q:Prop} (hq:q) (h:p=q:=by ((simp (config:={ maxSteps:=4000000 }) (disch:=first|(simp only [simC];done)|omega) only [simD,condS_d,simK,List.contains_cons,List.contains_nil,sim,simL,simQ,simS,simG,simV,simB,simE,ev_load,ev_store,ev_bslice,ev_build,ev_slA,ev_slS,ev_clear,ev_append,app_eq,app1_ite,src_sl,simA,d_nil,d_op,d_opG,goD_some,goD_ite,goD_iteN,goDG_s,Hp.appD,load_ptr,load_iptr,store_ptr,part_t,part_f,cells_lk,vals_nil,vals_cons,parts_nil,parts_cons,fillL,over,AV.flat,AV.one,AV.cells,pureR_ite,pureR_iteN,bind_ite,map_ite,ldR_ite,stR_ite,clR_ite,goS_ite,goS_iteN,goQ_ite,goQ_iteN,finN,finR,resVs,resV,packV,nchkV,faddrV,fldV,extV,lenV,Hp.app,hasKey,puts,put,List.any_cons,List.any_nil,Option.bind_some,Option.bind_none,Option.map_some,Option.map_none,List.getElem?_cons_succ,List.getElem?_cons_zero,List.set_cons_succ,List.set_cons_zero,List.cons_append,List.nil_append,List.append_nil,List.replicate,List.drop_zero,List.drop_succ_cons,List.take_succ_cons,List.take_zero,List.length_cons,List.length_nil,decide_eq_true_eq,decide_true,decide_false,pick_u1,pick_u2,pick_t1,pick_t2,decide_eq_false_iff_not,Bool.not_true,Bool.not_false,Bool.not_eq_true,Bool.true_eq_false,Bool.false_eq_true,reduceCtorEq,Nat.reduceAdd,Nat.reduceSub,Nat.reduceMul,Nat.reduceLeDiff,Nat.reduceLT,Nat.reduceEqDiff,Nat.reduceBEq,Nat.zero_add,Nat.add_zero,reduceIte,if_true,if_false,and_true,true_and,and_false,false_and,true_implies,false_implies,implies_true,not_true_eq_false,not_false_eq_true,beq_self_eq_true,Bool.or_false,Bool.or_true,Bool.false_or,Bool.true_or,IntWalk.i64_in,Int.toNat_natCast,toNat_succ,Q.o,Q.u,Q.gt,Q.gf,Q.K,Q.bk,Q.mk,Q.q,Q.m,Q.l,Q.la,Q.b,Q.c,Q.f,Q.po,Q.pa,Q.e,Q.n,Q.is,Q.ia,Q.bx,Q.ln,Q.s,List.length_map]);first|done|rfl)):p:=h▸hq
theorem simx_Za6 {p q:Prop} (hq:q) (h:p=q:=by ((simp (config:={ maxSteps:=4000000 }) (disch:=first|(simp only [simC];done)|omega) only [simK,List.contains_cons,List.contains_nil,sim,simL,simQ,simS,simG,simV,simB,simE,ev_load,ev_store,ev_bslice,ev_build,ev_slA,ev_slS,ev_clear,ev_append,app_eq,app1_ite,src_sl,simA,d_nil,d_op,d_opG,goD_some,goD_ite,goD_iteN,goDG_s,Hp.appD,load_ptr,load_iptr,store_ptr,part_t,part_f,cells_lk,vals_nil,vals_cons,parts_nil,parts_cons,fillL,over,AV.flat,AV.one,AV.cells,pureR_ite,pureR_iteN,bind_ite,map_ite,ldR_ite,stR_ite,clR_ite,goS_ite,goS_iteN,goQ_ite,goQ_iteN,finN,finR,resVs,resV,packV,nchkV,faddrV,fldV,extV,lenV,Hp.app,hasKey,puts,put,List.any_cons,List.any_nil,Option.bind_some,Option.bind_none,Option.map_some,Option.map_none,List.getElem?_cons_succ,List.getElem?_cons_zero,List.set_cons_succ,List.set_cons_zero,List.cons_append,List.nil_append,List.append_nil,List.replicate,List.drop_zero,List.drop_succ_cons,List.take_succ_cons,List.take_zero,List.length_cons,List.length_nil,decide_eq_true_eq,decide_true,decide_false,pick_u1,pick_u2,pick_t1,pick_t2,decide_eq_false_iff_not,Bool.not_true,Bool.not_false,Bool.not_eq_true,Bool.true_eq_false,Bool.false_eq_true,reduceCtorEq,Nat.reduceAdd,Nat.reduceSub,Nat.reduceMul,Nat.reduceLeDiff,Nat.reduceLT,Nat.reduceEqDiff,Nat.reduceBEq,Nat.zero_add,Nat.add_zero,reduceIte,if_true,if_false,and_true,true_and,and_false,false_and,true_implies,false_implies,implies_true,not_true_eq_false,not_false_eq_true,beq_self_eq_true,Bool.or_false,Bool.or_true,Bool.false_or,Bool.true_or,IntWalk.i64_in,Int.toNat_natCast,toNat_succ,Q.o,Q.u,Q.gt,Q.gf,Q.K,Q.bk,Q.mk,Q.q,Q.m,Q.l,Q.la,Q.b,Q.c,Q.f,Q.po,Q.pa,Q.e,Q.n,Q.is,Q.ia,Q.bx,Q.ln,Q.s,iaddr_map (0,0) cut_len,cutA]);first|done|rfl)):p:=h▸hq
theorem simx_Za7 {p q:Prop} (hq:q) (h:p=q:=by ((simp (config:={ maxSteps:=4000000 }) (disch:=first|(simp only [simC];done)|omega) only [simK,List.contains_cons,List.contains_nil,sim,simL,simQ,simS,simG,simV,simB,simE,ev_load,ev_store,ev_bslice,ev_build,ev_slA,ev_slS,ev_clear,ev_append,app_eq,app1_ite,src_sl,simA,d_nil,d_op,d_opG,goD_some,goD_ite,goD_iteN,goDG_s,Hp.appD,load_ptr,load_iptr,store_ptr,part_t,part_f,cells_lk,vals_nil,vals_cons,parts_nil,parts_cons,fillL,over,AV.flat,AV.one,AV.cells,pureR_ite,pureR_iteN,bind_ite,map_ite,ldR_ite,stR_ite,clR_ite,goS_ite,goS_iteN,goQ_ite,goQ_iteN,finN,finR,resVs,resV,packV,nchkV,faddrV,fldV,extV,lenV,Hp.app,hasKey,puts,put,List.any_cons,List.any_nil,Option.bind_some,Option.bind_none,Option.map_some,Option.map_none,List.getElem?_cons_succ,List.getElem?_cons_zero,List.set_cons_succ,List.set_cons_zero,List.cons_append,List.nil_append,List.append_nil,List.replicate,List.drop_zero,List.drop_succ_cons,List.take_succ_cons,List.take_zero,List.length_cons,List.length_nil,decide_eq_true_eq,decide_true,decide_false,pick_u1,pick_u2,pick_t1,pick_t2,decide_eq_false_iff_not,Bool.not_true,Bool.not_false,Bool.not_eq_true,Bool.true_eq_false,Bool.false_eq_true,reduceCtorEq,Nat.reduceAdd,Nat.reduceSub,Nat.reduceMul,Nat.reduceLeDiff,Nat.reduceLT,Nat.reduceEqDiff,Nat.reduceBEq,Nat.zero_add,Nat.add_zero,reduceIte,if_true,if_false,and_true,true_and,and_false,false_and,true_implies,false_implies,implies_true,not_true_eq_false,not_false_eq_true,beq_self_eq_true,Bool.or_false,Bool.or_true,Bool.false_or,Bool.true_or,IntWalk.i64_in,Int.toNat_natCast,toNat_succ,Q.o,Q.u,Q.gt,Q.gf,Q.K,Q.bk,Q.mk,Q.q,Q.m,Q.l,Q.la,Q.b,Q.c,Q.f,Q.po,Q.pa,Q.e,Q.n,Q.is,Q.ia,Q.bx,Q.ln,Q.s]);first|done|rfl)):p:=h▸hq
theorem simx_Za8 {p q:Prop} (hq:q) (h:p=q:=by ((simp (config:={ maxSteps:=4000000 }) (disch:=first|(simp only [simC];done)|omega) only [simD,condS_d,simK,List.contains_cons,List.contains_nil,sim,simL,simQ,simS,simG,simV,simB,simE,ev_load,ev_store,ev_bslice,ev_build,ev_slA,ev_slS,ev_clear,ev_append,app_eq,app1_ite,src_sl,simA,d_nil,d_op,d_opG,goD_some,goD_ite,goD_iteN,goDG_s,Hp.appD,load_ptr,load_iptr,store_ptr,part_t,part_f,cells_lk,vals_nil,vals_cons,parts_nil,parts_cons,fillL,over,AV.flat,AV.one,AV.cells,pureR_ite,pureR_iteN,bind_ite,map_ite,ldR_ite,stR_ite,clR_ite,goS_ite,goS_iteN,goQ_ite,goQ_iteN,finN,finR,resVs,resV,packV,nchkV,faddrV,fldV,extV,lenV,Hp.app,hasKey,puts,put,List.any_cons,List.any_nil,Option.bind_some,Option.bind_none,Option.map_some,Option.map_none,List.getElem?_cons_succ,List.getElem?_cons_zero,List.set_cons_succ,List.set_cons_zero,List.cons_append,List.nil_append,List.append_nil,List.replicate,List.drop_zero,List.drop_succ_cons,List.take_succ_cons,List.take_zero,List.length_cons,List.length_nil,decide_eq_true_eq,decide_true,decide_false,pick_u1,pick_u2,pick_t1,pick_t2,decide_eq_false_iff_not,Bool.not_true,Bool.not_false,Bool.not_eq_true,Bool.true_eq_false,Bool.false_eq_true,reduceCtorEq,Nat.reduceAdd,Nat.reduceSub,Nat.reduceMul,Nat.reduceLeDiff,Nat.reduceLT,Nat.reduceEqDiff,Nat.reduceBEq,Nat.zero_add,Nat.add_zero,reduceIte,if_true,if_false,and_true,true_and,and_false,false_and,true_implies,false_implies,implies_true,not_true_eq_false,not_false_eq_true,beq_self_eq_true,Bool.or_false,Bool.or_true,Bool.false_or,Bool.true_or,IntWalk.i64_in,Int.toNat_natCast,toNat_succ,Q.o,Q.u,Q.gt,Q.gf,Q.K,Q.bk,Q.mk,Q.q,Q.m,Q.l,Q.la,Q.b,Q.c,Q.f,Q.po,Q.pa,Q.e,Q.n,Q.is,Q.ia,Q.bx,Q.ln,Q.s,List.length_map,lenV]);first|done|rfl)):p:=h▸hq
theorem simx_Za9 {p q:Prop} (hq:q) (h:p=q:=by ((simp (config:={ maxSteps:=4000000 }) (disch:=first|(simp only [simC];done)|omega) only [simK,List.contains_cons,List.contains_nil,sim,simL,simQ,simS,simG,simV,simB,simE,ev_load,ev_store,ev_bslice,ev_build,ev_slA,ev_slS,ev_clear,ev_append,app_eq,app1_ite,src_sl,simA,d_nil,d_op,d_opG,goD_some,goD_ite,goD_iteN,goDG_s,Hp.appD,load_ptr,load_iptr,store_ptr,part_t,part_f,cells_lk,vals_nil,vals_cons,parts_nil,parts_cons,fillL,over,AV.flat,AV.one,AV.cells,pureR_ite,pureR_iteN,bind_ite,map_ite,ldR_ite,stR_ite,clR_ite,goS_ite,goS_iteN,goQ_ite,goQ_iteN,finN,finR,resVs,resV,packV,nchkV,faddrV,fldV,extV,lenV,Hp.app,hasKey,puts,put,List.any_cons,List.any_nil,Option.bind_some,Option.bind_none,Option.map_some,Option.map_none,List.getElem?_cons_succ,List.getElem?_cons_zero,List.set_cons_succ,List.set_cons_zero,List.cons_append,List.nil_append,List.append_nil,List.replicate,List.drop_zero,List.drop_succ_cons,List.take_succ_cons,List.take_zero,List.length_cons,List.length_nil,decide_eq_true_eq,decide_true,decide_false,pick_u1,pick_u2,pick_t1,pick_t2,decide_eq_false_iff_not,Bool.not_true,Bool.not_false,Bool.not_eq_true,Bool.true_eq_false,Bool.false_eq_true,reduceCtorEq,Nat.reduceAdd,Nat.reduceSub,Nat.reduceMul,Nat.reduceLeDiff,Nat.reduceLT,Nat.reduceEqDiff,Nat.reduceBEq,Nat.zero_add,Nat.add_zero,reduceIte,if_true,if_false,and_true,true_and,and_false,false_and,true_implies,false_implies,implies_true,not_true_eq_false,not_false_eq_true,beq_self_eq_true,Bool.or_false,Bool.or_true,Bool.false_or,Bool.true_or,IntWalk.i64_in,Int.toNat_natCast,toNat_succ,Q.o,Q.u,Q.gt,Q.gf,Q.K,Q.bk,Q.mk,Q.q,Q.m,Q.l,Q.la,Q.b,Q.c,Q.f,Q.po,Q.pa,Q.e,Q.n,Q.is,Q.ia,Q.bx,Q.ln,Q.s,iaddr_map (0,0) cut_len,cutA,eqsV,eqL,eq1]);first|done|rfl)):p:=h▸hq
theorem hmix:Tryd.prog.follows .mixedOrders=true:=by kernel_rfl
def tabA:List AV:=Lib.deBruijn64tab.map fun (n:Nat)=>.int .u8 n
def G0:Gl:=fun n=>if n=0 then some tabA else none
theorem plainG:PlainG G0:=fun n cs h=>by
 unfold G0 at h
 split at h
 ·cases h;intro x hx;obtain ⟨n,_,rfl⟩:=List.mem_map.1 hx;exact plain_int
 ·cases h
def cutA (c:Cut):List AV:=[.int .i64 c.1,.int .i64 c.2]
theorem cut_len (c:Cut):(cutA c).length=2:=rfl
def cutsA (l:List Cut):AV:=.isl (l.map cutA)
theorem plain_cut {c:Cut}:Plain (.agg (cutA c)):=plain_agg (PlainL.all ⟨plain_int,plain_int,trivial⟩)
theorem plain_cuts {l:List Cut}:Plain (cutsA l):=plain_isl fun e he=>by obtain ⟨c,_,rfl⟩:=List.mem_map.1 he;exact PlainL.all ⟨plain_int,plain_int,trivial⟩
def pageA (x:Page):List AV:=[.int .i64 x.1,cutsA x.2]
theorem page_len (x:Page):(pageA x).length=2:=rfl
def pagesA (s:List Page):AV:=.isl (s.map pageA)
def stateA (s:List Page):AV:=.agg [pagesA s]
theorem plain_pages {s:List Page}:Plain (pagesA s):=plain_isl fun e he=>by obtain ⟨c,_,rfl⟩:=List.mem_map.1 he;exact PlainL.all ⟨plain_int,plain_cuts,trivial⟩
theorem plain_state {s:List Page}:Plain (stateA s):=plain_agg (PlainL.all ⟨plain_pages,trivial⟩)
theorem plain_fn0 {f:Nat}:Plain (.fn f [] []):=plain_fn (by simp) (by simp)
theorem k_wrong (a n:Int):PureC Tryd.prog G0 79 [.agg [.int .i64 a,.int .i64 n]] (.bool (badCut (a,n))):=by
 refine pure_of hmix b79 plainG ⟨plain_cut (c:=(a,n)),trivial⟩ plain_bool ?_
 rw [c79]
 (refine simx_Za0 ?_;try exact True.intro)
 repeat' (first|exact fin_bool (by simp [badCut, *];done)|intro _|refine ⟨?_,?_⟩)
theorem u64_nat {x:Nat} (h:x < 18446744073709551616):IntKind.u64.wrap (x:Int)=(x:Int):=by rw [IntKind.wrap_u64];omega
theorem k_bytes (a n:Int) (h:badCut (a,n)=false):PureC Tryd.prog G0 59 [.int .i64 a,.int .i64 n] (.int .u64 (runM (a,n):Nat)):=by
 simp only [badCut,decide_eq_false_iff_not] at h
 refine pure_of hmix b59 plainG ⟨plain_int,plain_int,trivial⟩ plain_int ?_
 rw [c59]
 (refine simx_Za1 ?_;try exact True.intro)
 refine ⟨fun h=>absurd h (by omega),fun _=>?_⟩
 have hs:binV .shl (.int .u64 ((18446744073709551615 / 2 ^ (64 - n).toNat:Nat):Int)) (.int .i64 a)=some (.int .u64 ((runM (a,n):Nat):Int)):=by
  obtain ⟨f,rfl⟩:=Int.eq_ofNat_of_zero_le (show 0≤a by omega)
  obtain ⟨m,rfl⟩:=Int.eq_ofNat_of_zero_le (show 0≤n by omega)
  simp only [binV]
  rw [if_neg (by omega),show IntKind.u64.bits=64 from rfl,Nat.min_eq_left (by omega),show ((64:Int) - (m:Int)).toNat=64 - m by omega]
  have e:runM ((f:Int),(m:Int))=(2 ^ m - 1) * 2 ^ f:=by simp only [runM,Int.toNat_natCast]
  rw [e,Int.toNat_natCast,ones_shr m (by omega) (by omega)]
  have h3:(((2 ^ m - 1:Nat):Int) * 2 ^ f)=(((2 ^ m - 1) * 2 ^ f:Nat):Int):=by rw [Int.natCast_mul];simp
  have h2:=run_lt (f:=f) (n:=m) (by omega)
  rw [h3,u64_nat h2]
 rw [hs]
 (refine simx_Za2 ?_;try exact True.intro)
 exact fin_int rfl
theorem tz_key (x a:Nat) (hx:x < 18446744073709551616) (hx0:x ≠ 0) (hlow:x &&& (18446744073709551616 - x)=a) :
  binV .and (.int .u64 x) (.int .u64 (IntKind.u64.wrap (0 - (x:Int))))=some (.int .u64 (a:Nat)):=by
 have e1:IntKind.u64.wrap (0 - (x:Int))=((18446744073709551616 - x:Nat):Int):=by rw [IntKind.wrap_u64];omega
 rw [e1,and_u64 hx (by omega),hlow]
theorem tz_core (x a y idx k:Nat) (h0:x ≠ 0) (h1:binV .and (.int .u64 x) (.int .u64 (IntKind.u64.wrap (0 - (x:Int))))=some (.int .u64 (a:Nat))) (h2:IntKind.u64.wrap ((a:Int) * 285870213051353865)=(y:Int))
  (h3:binV .shr (.int .u64 (y:Int)) (.int .u64 58)=some (.int .u64 (idx:Int))) (hi:idx < 64) (hk:k < 64) (ht:(tabA.drop idx)[0]? = some (.int .u8 k)):PureC Tryd.prog G0 62 [.int .u64 x] (.int .i64 k):=by
 refine pure_of hmix b62 plainG ⟨plain_int,trivial⟩ plain_int ?_
 have hG:G0 0=some tabA:=if_pos rfl
 rw [c62]
 (refine simx_Za3 ?_;try exact True.intro)
 exact ⟨fun h=>absurd h (by omega),fun _=>⟨by omega,fin_int rfl⟩⟩
theorem k_tz0:PureC Tryd.prog G0 62 [.int .u64 0] (.int .i64 64):=by
 refine pure_of hmix b62 plainG ⟨plain_int,trivial⟩ plain_int ?_
 rw [c62]
 (refine simx_Za2 ?_;try exact True.intro)
 exact fin_int rfl
theorem k_tz1 (x k y idx:Nat) (hx:x < 18446744073709551616) (h0:x ≠ 0) (hlow:x &&& (18446744073709551616 - x)=2 ^ k) (hy:2 ^ k * 285870213051353865 % 18446744073709551616=y) (hidx:y / 288230376151711744=idx) (hk:k < 64) (hi:idx < 64) (htab:Lib.deBruijn64tab.getD idx 0=k) :
  PureC Tryd.prog G0 62 [.int .u64 x] (.int .i64 k):=by
 refine tz_core x _ y idx _ h0 (tz_key x _ hx h0 hlow) ?_ ?_ hi hk ?_
 ·rw [IntKind.wrap_u64];omega
 ·have e:(58:Int).toNat=58:=rfl
  have e2:(2:Nat) ^ 58=288230376151711744:=by decide
  rw [shr_u64 (by omega) (by omega),e,e2,hidx]
 ·rw [List.getElem?_drop,tabA,List.getElem?_map,Nat.add_zero]
  have : idx < Lib.deBruijn64tab.length:=hi
  rw [← htab]
  simp [this]
theorem k_tz (x:Nat) (hx:x < 18446744073709551616):PureC Tryd.prog G0 62 [.int .u64 x] (.int .i64 (Lib.ctz 64 x)):=by
 by_cases h0:x=0
 ·subst h0;exact k_tz0
 ·obtain ⟨hlow,hk⟩:=Lib.lowest_bit 64 x h0 hx
  obtain ⟨hi,htab⟩:=Lib.deBruijn64_at _ hk
  exact k_tz1 x _ _ _ hx h0 hlow rfl rfl hk hi htab
def badAt (l:List Cut):Int:=match l.findIdx? badCut with|some i=>i|none=>-1
theorem badAt_first {l:List Cut} {k:Nat} (hk:k < l.length) (h1:∀ j,j < k→badCut (nth (0,0) l j)=false) (h2:badCut (nth (0,0) l k)=true):badAt l=k:=by
 have : l.findIdx? badCut=some k:=by
  rw [List.findIdx?_eq_some_iff_getElem]
  refine ⟨hk,by rw [← nth_get (d:=(0,0)) hk];exact h2,fun j hj=>?_⟩
  rw [← nth_get (d:=(0,0)) (by omega),h1 j hj];simp
 rw [badAt,this]
theorem badAt_none {l:List Cut} (h1:∀ j,j < l.length→badCut (nth (0,0) l j)=false):badAt l = -1:=by
 have : l.findIdx? badCut=none:=by
  rw [List.findIdx?_eq_none_iff]
  intro c hc
  obtain ⟨j,hj,rfl⟩:=List.getElem_of_mem hc
  rw [← nth_get (d:=(0,0)) hj];exact h1 j hj
 rw [badAt,this]
theorem badAt_any {l:List Cut}:decide (0≤badAt l)=l.any badCut:=by
 cases h:l.findIdx? badCut with
 | some i =>
  rw [List.findIdx?_eq_some_iff_getElem] at h
  obtain ⟨hi,h1,_⟩:=h
  have : l.any badCut=true:=List.any_eq_true.2 ⟨_,List.getElem_mem hi,h1⟩
  have h2:l.findIdx? badCut=some i:=by rw [List.findIdx?_eq_some_iff_getElem];exact ⟨hi,h1,‹_›⟩
  simp [badAt,h2,this]
 | none =>
  have : l.any badCut=false:=by rw [List.any_eq_false];intro c hc;rw [List.findIdx?_eq_none_iff.1 h c hc];simp
  simp [badAt,h,this]
theorem k_index (l:List Cut) (hl:l.length < 1000000000000):PureC Tryd.prog G0 88 [cutsA l,.fn 79 [] []] (.int .i64 (badAt l)):=by
 have p0:Plain (.isl (l.map cutA)):=plain_cuts
 have p1:Plain (.fn 79 [] []):=plain_fn0
 refine pure_of hmix b88 plainG ⟨plain_cuts,plain_fn0,trivial⟩ plain_int ?_
 rw [c88,cutsA]
 (refine simx_Za5 ?_;try exact True.intro)
 refine loop_ix (ι:=Nat) (fun k=>(.isl (l.map cutA) :: .fn 79 [] [] :: .undef :: .undef :: .undef :: .undef :: .undef :: .int .i64 l.length :: .int .i64 (k:Nat) :: .undef :: .undef :: .undef :: .undef :: .undef :: .undef :: .undef :: .undef :: .undef :: .undef::[])) (fun _=>⟨[],0⟩) (fun k=>k≤l.length∧∀ j,j < k→badCut (nth (0,0) l j)=false) (fun k=>l.length - k) 0 [] rfl (fun _=>Nat.zero_le _) ⟨Nat.zero_le _,fun j hj=>absurd hj (Nat.not_lt_zero j)⟩ (weak_of (oneOf_of rfl) ?_ wko_nil) fun k hk=>?_
 ·exact wkz_Za
 ·(repeat' (first|with_reducible apply And.intro|refine goCall_pure (k_wrong _ _) ?_|refine goQCall_pure (k_wrong _ _) ?_|refine dcall_pure rfl rfl rfl (k_wrong _ _) ?_|refine goDCall_pure (k_wrong _ _) ?_|(refine go_app2 rfl (by first  | rfl) (by first|decide|omega) ⟨by omega,by omega⟩ ?_)|(refine goD_app2 rfl (by first  | rfl) (by first|decide|omega) ⟨by omega,by omega⟩ ?_)|(refine regD_quiet rfl ?_)|(refine regD_go rfl ?_)|exact chk_ok rfl|exact True.intro|(refine simx_Za6 ?_)|((first|rw [condS_d]|rw [condS_b]|simp only [simD]|rw [goG_b]|rw [goQG_b]|rw [goCG_b]|rw [goQCG_b]|rw [goDG_t]);with_reducible apply And.intro<;>with_reducible intro hsp<;>first|(exfalso;omega)|(try simp only [hsp,decide_true,decide_false,Bool.not_true,Bool.not_false]))|(refine dcall_pivot rfl rfl rfl rfl ?_)|with_reducible intro _|omega))
  ·exact fin_int (badAt_first (by omega) hk.2 ‹_›).symm
  ·exact ⟨k+1,[],⟨by omega,fun j hj=>by
    rcases Nat.lt_or_ge j k with h2|h2
    ·exact hk.2 j h2
    ·obtain rfl:j=k:=by omega
     assumption⟩,by dsimp only;omega,keeps_rn rfl,weak_of (oneOf_of rfl) (by exact wkz_Za) wko_nil⟩
  ·exact fin_int (badAt_none fun j hj=>hk.2 j (by omega)).symm
theorem k_anybad (l:List Cut) (hl:l.length < 1000000000000):PureC Tryd.prog G0 78 [cutsA l,.fn 79 [] []] (.bool (l.any badCut)):=by
 refine pure_of hmix b78 plainG ⟨plain_cuts,plain_fn0,trivial⟩ plain_bool ?_
 rw [c78]
 (repeat' (first|with_reducible apply And.intro|refine goCall_pure (k_index _ hl) ?_|refine goQCall_pure (k_index _ hl) ?_|refine dcall_pure rfl rfl rfl (k_index _ hl) ?_|refine goDCall_pure (k_index _ hl) ?_|(refine go_app2 rfl (by first  | rfl) (by first|decide|omega) ⟨by omega,by omega⟩ ?_)|(refine goD_app2 rfl (by first  | rfl) (by first|decide|omega) ⟨by omega,by omega⟩ ?_)|(refine regD_quiet rfl ?_)|(refine regD_go rfl ?_)|exact chk_ok rfl|exact True.intro|(refine simx_Za7 ?_)|((first|rw [condS_d]|rw [condS_b]|simp only [simD]|rw [goG_b]|rw [goQG_b]|rw [goCG_b]|rw [goQCG_b]|rw [goDG_t]);with_reducible apply And.intro<;>with_reducible intro hsp<;>first|(exfalso;omega)|(try simp only [hsp,decide_true,decide_false,Bool.not_true,Bool.not_false]))|(refine dcall_pivot rfl rfl rfl rfl ?_)|with_reducible intro _|omega))
 exact fin_bool badAt_any
theorem k_equal (l l':List Cut) (hl:l.length < 1000000000000) (hl':l'.length < 1000000000000):PureC Tryd.prog G0 80 [cutsA l,cutsA l'] (.bool (sameL l l')):=by
 have p0:Plain (.isl (l.map cutA)):=plain_cuts
 have p1:Plain (.isl (l'.map cutA)):=plain_cuts
 refine pure_of hmix b80 plainG ⟨plain_cuts,plain_cuts,trivial⟩ plain_bool ?_
 rw [c80,cutsA,cutsA]
 (refine simx_Za8 ?_;try exact True.intro)
 refine ⟨fun hlen=>?_,fun h=>fin_bool (sameL_len (by omega)).symm⟩
 refine loop_ix (ι:=Nat) (fun k=>(.isl (l.map cutA) :: .isl (l'.map cutA) :: .undef :: .undef :: .undef :: .undef :: .undef :: .undef :: .undef :: .undef :: .undef :: .undef :: .int .i64 l.length :: .int .i64 (k:Nat) :: .undef :: .undef :: .undef :: .undef :: .undef :: .undef :: .undef :: .undef :: .undef :: .undef :: .undef :: .undef::[])) (fun _=>⟨[],0⟩) (fun k=>k≤l.length∧l.take k=l'.take k) (fun k=>l.length - k) 0 [] rfl (fun _=>Nat.zero_le _) ⟨Nat.zero_le _,by simp⟩ (weak_of (oneOf_of rfl) ?_ wko_nil) fun k hk=>?_
 ·exact wkz_Za
 ·(repeat' (first|with_reducible apply And.intro|(refine go_app2 rfl (by first  | rfl) (by first|decide|omega) ⟨by omega,by omega⟩ ?_)|(refine goD_app2 rfl (by first  | rfl) (by first|decide|omega) ⟨by omega,by omega⟩ ?_)|(refine regD_quiet rfl ?_)|(refine regD_go rfl ?_)|exact chk_ok rfl|exact True.intro|(refine simx_Za9 ?_)|((first|rw [condS_d]|rw [condS_b]|simp only [simD]|rw [goG_b]|rw [goQG_b]|rw [goCG_b]|rw [goQCG_b]|rw [goDG_t]);with_reducible apply And.intro<;>with_reducible intro hsp<;>first|(exfalso;omega)|(try simp only [hsp,decide_true,decide_false,Bool.not_true,Bool.not_false]))|(refine dcall_pivot rfl rfl rfl rfl ?_)|with_reducible intro _|omega))
  ·have h2:=hsp
   simp only [Bool.and_true,Bool.and_eq_true,beq_iff_eq] at h2
   exact ⟨k+1,[],⟨by omega,take_step (by omega) (by omega) h2 hk.2⟩,by dsimp only;omega,keeps_rn rfl,weak_of (oneOf_of rfl) (by exact wkz_Za) wko_nil⟩
  ·have h2:=hsp
   simp only [Bool.and_true,Bool.and_eq_false_iff,beq_eq_false_iff_ne] at h2
   exact fin_bool (sameL_ne (nth_ne fun h=>by rcases h2 with h2|h2;exact h2 h.1;exact h2 h.2)).symm
  ·exact fin_bool (sameL_all (by omega) (by omega) hk.2).symm
end Go.Proofs.YtkahmhmkhfllpaaDoor
namespace Go.Proofs.YtkahmhmkhfllpaaDoor
open Go Go.Am Go.Pol
theorem simx_Zb1 {p q:Prop} (hq:q) (h:p=q:=by ((simp (config:={ maxSteps:=4000000 }) (disch:=first|(simp only [simC];done)|omega) only [simD,condS_d,simK,List.contains_cons,List.contains_nil,sim,simL,simQ,simS,simG,simV,simB,simE,ev_load,ev_store,ev_bslice,ev_build,ev_slA,ev_slS,ev_clear,ev_append,app_eq,app1_ite,src_sl,simA,d_nil,d_op,d_opG,goD_some,goD_ite,goD_iteN,goDG_s,Hp.appD,load_ptr,load_iptr,store_ptr,part_t,part_f,cells_lk,vals_nil,vals_cons,parts_nil,parts_cons,fillL,over,AV.flat,AV.one,AV.cells,pureR_ite,pureR_iteN,bind_ite,map_ite,ldR_ite,stR_ite,clR_ite,goS_ite,goS_iteN,goQ_ite,goQ_iteN,finN,finR,resVs,resV,packV,nchkV,faddrV,fldV,extV,lenV,Hp.app,hasKey,puts,put,List.any_cons,List.any_nil,Option.bind_some,Option.bind_none,Option.map_some,Option.map_none,List.getElem?_cons_succ,List.getElem?_cons_zero,List.set_cons_succ,List.set_cons_zero,List.cons_append,List.nil_append,List.append_nil,List.replicate,List.drop_zero,List.drop_succ_cons,List.take_succ_cons,List.take_zero,List.length_cons,List.length_nil,decide_eq_true_eq,decide_true,decide_false,pick_u1,pick_u2,pick_t1,pick_t2,decide_eq_false_iff_not,Bool.not_true,Bool.not_false,Bool.not_eq_true,Bool.true_eq_false,Bool.false_eq_true,reduceCtorEq,Nat.reduceAdd,Nat.reduceSub,Nat.reduceMul,Nat.reduceLeDiff,Nat.reduceLT,Nat.reduceEqDiff,Nat.reduceBEq,Nat.zero_add,Nat.add_zero,reduceIte,if_true,if_false,and_true,true_and,and_false,false_and,true_implies,false_implies,implies_true,not_true_eq_false,not_false_eq_true,beq_self_eq_true,Bool.or_false,Bool.or_true,Bool.false_or,Bool.true_or,IntWalk.i64_in,Int.toNat_natCast,toNat_succ,Q.o,Q.u,Q.gt,Q.gf,Q.K,Q.bk,Q.mk,Q.q,Q.m,Q.l,Q.la,Q.b,Q.c,Q.f,Q.po,Q.pa,Q.e,Q.n,Q.is,Q.ia,Q.bx,Q.ln,Q.s,shr_u64,hq,Int.natCast_zero]);first|done|rfl)):p:=h▸hq
theorem simx_Zb2 {p q:Prop} (hq:q) (h:p=q:=by ((simp (config:={ maxSteps:=4000000 }) (disch:=first|(simp only [simC];done)|omega) only [simK,List.contains_cons,List.contains_nil,sim,simL,simQ,simS,simG,simV,simB,simE,ev_load,ev_store,ev_bslice,ev_build,ev_slA,ev_slS,ev_clear,ev_append,app_eq,app1_ite,src_sl,simA,d_nil,d_op,d_opG,goD_some,goD_ite,goD_iteN,goDG_s,Hp.appD,load_ptr,load_iptr,store_ptr,part_t,part_f,cells_lk,vals_nil,vals_cons,parts_nil,parts_cons,fillL,over,AV.flat,AV.one,AV.cells,pureR_ite,pureR_iteN,bind_ite,map_ite,ldR_ite,stR_ite,clR_ite,goS_ite,goS_iteN,goQ_ite,goQ_iteN,finN,finR,resVs,resV,packV,nchkV,faddrV,fldV,extV,lenV,Hp.app,hasKey,puts,put,List.any_cons,List.any_nil,Option.bind_some,Option.bind_none,Option.map_some,Option.map_none,List.getElem?_cons_succ,List.getElem?_cons_zero,List.set_cons_succ,List.set_cons_zero,List.cons_append,List.nil_append,List.append_nil,List.replicate,List.drop_zero,List.drop_succ_cons,List.take_succ_cons,List.take_zero,List.length_cons,List.length_nil,decide_eq_true_eq,decide_true,decide_false,pick_u1,pick_u2,pick_t1,pick_t2,decide_eq_false_iff_not,Bool.not_true,Bool.not_false,Bool.not_eq_true,Bool.true_eq_false,Bool.false_eq_true,reduceCtorEq,Nat.reduceAdd,Nat.reduceSub,Nat.reduceMul,Nat.reduceLeDiff,Nat.reduceLT,Nat.reduceEqDiff,Nat.reduceBEq,Nat.zero_add,Nat.add_zero,reduceIte,if_true,if_false,and_true,true_and,and_false,false_and,true_implies,false_implies,implies_true,not_true_eq_false,not_false_eq_true,beq_self_eq_true,Bool.or_false,Bool.or_true,Bool.false_or,Bool.true_or,IntWalk.i64_in,Int.toNat_natCast,toNat_succ,Q.o,Q.u,Q.gt,Q.gf,Q.K,Q.bk,Q.mk,Q.q,Q.m,Q.l,Q.la,Q.b,Q.c,Q.f,Q.po,Q.pa,Q.e,Q.n,Q.is,Q.ia,Q.bx,Q.ln,Q.s,shr_u64,hq',not_u64,e2]);first|done|rfl)):p:=h▸hq
theorem cell_plain (c:Cut):∀ x ∈ cutA c,Plain x:=PlainL.all ⟨plain_int,plain_int,trivial⟩
theorem l_cuts (m:Nat) (hm:U64 m):LocC Tryd.prog G0 46 [.int .u64 m] [] 0 fun x h1=>x=ownV 0 2 (cutsM m).length∧h1=⟨ownH 0 cutA (cutsM m),1⟩:=by
 refine loc_of hmix b46 ?_
 rw [c46]
 have hm':m < 18446744073709551616:=hm
 (refine simx_Za2 ?_;try exact True.intro)
 refine loop_ix (ι:=Nat) (fun a=>(.int .u64 m :: .undef :: .nils::ownV 0 2 (runs m.testBit a).length :: .int .i64 (a:Nat) :: .undef :: .undef :: .undef :: .undef :: .undef :: .undef :: .undef :: .undef :: .undef :: .undef :: .undef :: .undef :: .undef :: .undef :: .undef :: .undef :: .undef :: .undef :: .undef :: .undef :: .undef :: .undef :: .undef :: .undef :: .undef :: .undef :: .undef :: .undef :: .undef::[])) (fun a=>⟨ownH 0 cutA (runs m.testBit a),1⟩) (fun a=>a < 64∧(a=0∨m.testBit a=false)) (fun a=>64 - a) 0 [] rfl (fun _=>Nat.zero_le _) ⟨by omega,.inl rfl⟩ (weak_of (oneOf_of rfl) ?_ wko_nil) fun a ha=>?_
 ·exact wkz_Za
 obtain ⟨ha,h0⟩:=ha
 have hlen:=runs_length m.testBit a
 by_cases hq:m / 2 ^ a=0
 ·(refine simx_Zb1 ?_;try exact True.intro)
  by_cases hz:(runs m.testBit a).length=0
  ·rw [hz,own_z]
   rw [← cuts_end (by omega) hq,hz,own_z,ownH_z hz]
   exact fin_loc [] rfl (by omega) (oneOf_of rfl) (wk_plain (fun _ _ h=>by cases h) plain_nils) wko_nil
  ·rw [own_s hz,ownH_s hz]
   rw [← cuts_end (by omega) hq,own_s hz,ownH_s hz]
   exact fin_loc [] rfl (by omega) (oneOf_of rfl) (wk_sl rfl (by simp) rfl (by omega) (by omega)) (wko_plain (subH_of rfl) (by simp) rfl rfl (plain_flat cell_plain) wko_nil)
 ·obtain ⟨z,hz⟩:∃ z,Lib.ctz 64 (m / 2 ^ a)=z:=⟨_,rfl⟩
  obtain ⟨n,hn⟩:∃ n,Lib.ctz 64 (cmpl (m / 2 ^ (a+z)))=n:=⟨_,rfl⟩
  obtain ⟨c1,c2,c3,c4,c5,c6⟩:=cut_next hm hq hz hn
  have hq':((m / 2 ^ a:Nat):Int) ≠ 0:=by omega
  have e1:=cuts_step h0 c2 c4 c5
  generalize hL:runs m.testBit a=L at *
  have hd:m / 2 ^ a < 18446744073709551616:=hm.div (2 ^ a)
  have k1:PureC Tryd.prog G0 62 [.int .u64 ((m / 2 ^ a:Nat):Int)] (.int .i64 z):=hz▸k_tz _ hd
  have k2:PureC Tryd.prog G0 62 [.int .u64 ((cmpl (m / 2 ^ (a+z)):Nat):Int)] (.int .i64 n):=hn▸k_tz _ (hm.div (2 ^ (a+z))).cmpl
  have hd2:m / 2 ^ (a+z) < 18446744073709551616:=hm.div (2 ^ (a+z))
  have e2:((a:Int)+(z:Int)).toNat=a+z:=by omega
  by_cases hz:L.length=0
  ·rw [hz,ownH_z hz,own_z]
   have hL0:L=[]:=List.eq_nil_of_length_eq_zero hz
   (repeat' (first|with_reducible apply And.intro|refine goCall_pure (k1) ?_|refine goQCall_pure (k1) ?_|refine dcall_pure rfl rfl rfl (k1) ?_|refine goDCall_pure (k1) ?_|refine goCall_pure (k2) ?_|refine goQCall_pure (k2) ?_|refine dcall_pure rfl rfl rfl (k2) ?_|refine goDCall_pure (k2) ?_|(refine go_app2 rfl (by first  | rfl) (by first|decide|omega) ⟨by omega,by omega⟩ ?_)|(refine goD_app2 rfl (by first  | rfl) (by first|decide|omega) ⟨by omega,by omega⟩ ?_)|(refine regD_quiet rfl ?_)|(refine regD_go rfl ?_)|exact chk_ok rfl|exact True.intro|(refine simx_Zb2 ?_)|((first|rw [condS_d]|rw [condS_b]|simp only [simD]|rw [goG_b]|rw [goQG_b]|rw [goCG_b]|rw [goQCG_b]|rw [goDG_t]);with_reducible apply And.intro<;>with_reducible intro hsp<;>first|(exfalso;omega)|(try simp only [hsp,decide_true,decide_false,Bool.not_true,Bool.not_false]))|(refine dcall_pivot rfl rfl rfl rfl ?_)|with_reducible intro _|omega))
   ·have e:cutsM m=[((a:Int)+z,(n:Int))]:=by
     have e64:a+z+n=64:=by omega
     rw [e64,hL0] at e1;exact e1
    rw [e,own_s (by simp),ownH_s (by simp)]
    exact fin_loc [(0,2)] rfl (by omega) (oneOf_of rfl) (wk_sl rfl (by simp) rfl (by simp) (by simp)) (wko_plain (subH_of rfl) (by simp) rfl rfl (plain_flat (f:=cutA) (l:=[((a:Int)+z,(n:Int))]) cell_plain) wko_nil)
   ·refine ⟨a+z+n,[(0,2)],⟨by omega,.inr (c6 (by omega))⟩,by dsimp only;omega,keeps_rn rfl,?_⟩
    dsimp only
    rw [e1,hL0,own_s (by simp),ownH_s (by simp)]
    exact weak_of (oneOf_of rfl) (by exact wkz_Za) (wko_plain (subH_of rfl) (by simp) rfl rfl (plain_flat (f:=cutA) (l:=[((a:Int)+z,(n:Int))]) cell_plain) wko_nil)
  ·rw [own_s hz,ownH_s hz]
   (repeat' (first|with_reducible apply And.intro|refine goCall_pure (k1) ?_|refine goQCall_pure (k1) ?_|refine dcall_pure rfl rfl rfl (k1) ?_|refine goDCall_pure (k1) ?_|refine goCall_pure (k2) ?_|refine goQCall_pure (k2) ?_|refine dcall_pure rfl rfl rfl (k2) ?_|refine goDCall_pure (k2) ?_|(refine go_app2 rfl (by first|exact flat_len cut_len _|(rw [flat_len cut_len];simp;done)|rfl) (by first|decide|omega) ⟨by omega,by omega⟩ ?_)|(refine goD_app2 rfl (by first|exact flat_len cut_len _|(rw [flat_len cut_len];simp;done)|rfl) (by first|decide|omega) ⟨by omega,by omega⟩ ?_)|(refine regD_quiet rfl ?_)|(refine regD_go rfl ?_)|exact chk_ok rfl|exact True.intro|(refine simx_Zb2 ?_)|((first|rw [condS_d]|rw [condS_b]|simp only [simD]|rw [goG_b]|rw [goQG_b]|rw [goCG_b]|rw [goQCG_b]|rw [goDG_t]);with_reducible apply And.intro<;>with_reducible intro hsp<;>first|(exfalso;omega)|(try simp only [hsp,decide_true,decide_false,Bool.not_true,Bool.not_false]))|(refine dcall_pivot rfl rfl rfl rfl ?_)|with_reducible intro _|omega))
   ·have e:cutsM m=L++[((a:Int)+z,(n:Int))]:=by
     have e64:a+z+n=64:=by omega
     rw [e64] at e1;exact e1
    rw [e,own_s (by simp),ownH_s (by simp)]
    exact fin_loc [(0,2)] rfl (by omega) (oneOf_of rfl) (wk_sl rfl (by simp) (by simp) (by simp) (by simp)) (wko_plain (subH_of rfl) (by simp) rfl (flat_snoc (f:=cutA) (c:=((a:Int)+z,(n:Int)))) (fun x hx=>plain_flat cell_plain x ((flat_snoc (f:=cutA) (l:=L) (c:=((a:Int)+z,(n:Int))))▸hx)) wko_nil)
   ·refine ⟨a+z+n,[(0,2)],⟨by omega,.inr (c6 (by omega))⟩,by dsimp only;omega,keeps_rn rfl,?_⟩
    dsimp only
    rw [e1,own_s (by simp),ownH_s (by simp)]
    exact weak_of (oneOf_of rfl) (by exact wkz_Za) (wko_plain (subH_of rfl) (by simp) rfl (flat_snoc (f:=cutA) (c:=((a:Int)+z,(n:Int)))) (fun x hx=>plain_flat cell_plain x ((flat_snoc (f:=cutA) (l:=L) (c:=((a:Int)+z,(n:Int))))▸hx)) wko_nil)
theorem k_cuts (m:Nat) (hm:U64 m):PureC Tryd.prog G0 46 [.int .u64 m] (cutsA (cutsM m)) :=
 pure_of_loc (l_cuts m hm) plainG ⟨plain_int,trivial⟩ plain_cuts fun r h1 ⟨e1,e2⟩=>by subst e1;subst e2;exact frz_own cut_len cell_plain
end Go.Proofs.YtkahmhmkhfllpaaDoor
namespace Go.Proofs.YtkahmhmkhfllpaaDoor
open Go Go.Am Go.Pol
theorem wkz_Zc {p:Prop} (h:p:=by (((repeat' (first|exact wkl_nil|refine wkl_cons ?_ ?_|exact wk_undef|exact wk_int (by first|rfl|omega)|exact wk_bool rfl|exact wk_yld rfl (by first|decide|simp|omega)|with_reducible refine wk_fn ?_ ?_|with_reducible refine wk_agg ?_|with_reducible refine wk_tup ?_|exact wk_ptr rfl (by first|decide|simp|omega)|exact wk_sl rfl (by first|decide|simp|omega) (by first|rfl|omega|simp) (by first|omega|simp) (by first|omega|simp)|exact wk_int (by rw [take_nth (d:=(0,0)) (by omega),unionM_snoc])|exact wk_int (by simp [lastP,hp])|exact wk_plain (by first|exact subH_nil|exact subH_of rfl) (by (first|assumption|exact plain_int|exact plain_bool|exact plain_undef|exact plain_nils|exact plain_nilp|exact plain_nilf|exact plain_str)))));first|done|fail)):p:=h
theorem simx_Zc1 {p q:Prop} (hq:q) (h:p=q:=by ((simp (config:={ maxSteps:=4000000 }) (disch:=first|(simp only [simC];done)|omega) only [simK,List.contains_cons,List.contains_nil,sim,simL,simQ,simS,simG,simV,simB,simE,ev_load,ev_store,ev_bslice,ev_build,ev_slA,ev_slS,ev_clear,ev_append,app_eq,app1_ite,src_sl,simA,d_nil,d_op,d_opG,goD_some,goD_ite,goD_iteN,goDG_s,Hp.appD,load_ptr,load_iptr,store_ptr,part_t,part_f,cells_lk,vals_nil,vals_cons,parts_nil,parts_cons,fillL,over,AV.flat,AV.one,AV.cells,pureR_ite,pureR_iteN,bind_ite,map_ite,ldR_ite,stR_ite,clR_ite,goS_ite,goS_iteN,goQ_ite,goQ_iteN,finN,finR,resVs,resV,packV,nchkV,faddrV,fldV,extV,lenV,Hp.app,hasKey,puts,put,List.any_cons,List.any_nil,Option.bind_some,Option.bind_none,Option.map_some,Option.map_none,List.getElem?_cons_succ,List.getElem?_cons_zero,List.set_cons_succ,List.set_cons_zero,List.cons_append,List.nil_append,List.append_nil,List.replicate,List.drop_zero,List.drop_succ_cons,List.take_succ_cons,List.take_zero,List.length_cons,List.length_nil,decide_eq_true_eq,decide_true,decide_false,pick_u1,pick_u2,pick_t1,pick_t2,decide_eq_false_iff_not,Bool.not_true,Bool.not_false,Bool.not_eq_true,Bool.true_eq_false,Bool.false_eq_true,reduceCtorEq,Nat.reduceAdd,Nat.reduceSub,Nat.reduceMul,Nat.reduceLeDiff,Nat.reduceLT,Nat.reduceEqDiff,Nat.reduceBEq,Nat.zero_add,Nat.add_zero,reduceIte,if_true,if_false,and_true,true_and,and_false,false_and,true_implies,false_implies,implies_true,not_true_eq_false,not_false_eq_true,beq_self_eq_true,Bool.or_false,Bool.or_true,Bool.false_or,Bool.true_or,IntWalk.i64_in,Int.toNat_natCast,toNat_succ,Q.o,Q.u,Q.gt,Q.gf,Q.K,Q.bk,Q.mk,Q.q,Q.m,Q.l,Q.la,Q.b,Q.c,Q.f,Q.po,Q.pa,Q.e,Q.n,Q.is,Q.ia,Q.bx,Q.ln,Q.s,iaddr_map (0,[]) page_len,pageA,cutsA,List.length_map]);first|done|rfl)):p:=h▸hq
theorem simx_Zc2 {p q:Prop} (hq:q) (h:p=q:=by ((simp (config:={ maxSteps:=4000000 }) (disch:=first|(simp only [simC];done)|omega) only [simK,List.contains_cons,List.contains_nil,sim,simL,simQ,simS,simG,simV,simB,simE,ev_load,ev_store,ev_bslice,ev_build,ev_slA,ev_slS,ev_clear,ev_append,app_eq,app1_ite,src_sl,simA,d_nil,d_op,d_opG,goD_some,goD_ite,goD_iteN,goDG_s,Hp.appD,load_ptr,load_iptr,store_ptr,part_t,part_f,cells_lk,vals_nil,vals_cons,parts_nil,parts_cons,fillL,over,AV.flat,AV.one,AV.cells,pureR_ite,pureR_iteN,bind_ite,map_ite,ldR_ite,stR_ite,clR_ite,goS_ite,goS_iteN,goQ_ite,goQ_iteN,finN,finR,resVs,resV,packV,nchkV,faddrV,fldV,extV,lenV,Hp.app,hasKey,puts,put,List.any_cons,List.any_nil,Option.bind_some,Option.bind_none,Option.map_some,Option.map_none,List.getElem?_cons_succ,List.getElem?_cons_zero,List.set_cons_succ,List.set_cons_zero,List.cons_append,List.nil_append,List.append_nil,List.replicate,List.drop_zero,List.drop_succ_cons,List.take_succ_cons,List.take_zero,List.length_cons,List.length_nil,decide_eq_true_eq,decide_true,decide_false,pick_u1,pick_u2,pick_t1,pick_t2,decide_eq_false_iff_not,Bool.not_true,Bool.not_false,Bool.not_eq_true,Bool.true_eq_false,Bool.false_eq_true,reduceCtorEq,Nat.reduceAdd,Nat.reduceSub,Nat.reduceMul,Nat.reduceLeDiff,Nat.reduceLT,Nat.reduceEqDiff,Nat.reduceBEq,Nat.zero_add,Nat.add_zero,reduceIte,if_true,if_false,and_true,true_and,and_false,false_and,true_implies,false_implies,implies_true,not_true_eq_false,not_false_eq_true,beq_self_eq_true,Bool.or_false,Bool.or_true,Bool.false_or,Bool.true_or,IntWalk.i64_in,Int.toNat_natCast,toNat_succ,Q.o,Q.u,Q.gt,Q.gf,Q.K,Q.bk,Q.mk,Q.q,Q.m,Q.l,Q.la,Q.b,Q.c,Q.f,Q.po,Q.pa,Q.e,Q.n,Q.is,Q.ia,Q.bx,Q.ln,Q.s,iaddr_map (0,0) cut_len,cutA,cutsA,List.length_map,or_u64 u1 u2]);first|done|rfl)):p:=h▸hq
theorem plain_pagecells (x:Page):∀ y ∈ pageA x,Plain y:=PlainL.all ⟨plain_int,plain_cuts,trivial⟩
theorem plain_one {x:AV} (h:Plain x):∀ y ∈ [x],Plain y:=PlainL.all ⟨h,trivial⟩
theorem plain_two {x y:AV} (h:Plain x) (h':Plain y):∀ z ∈ [x,y],Plain z:=PlainL.all ⟨h,h',trivial⟩
set_option maxHeartbeats 2000000 in
set_option maxRecDepth 20000 in
theorem k_check (s:List Page) (hs:s.length≤2000) (hc:∀ p ∈ s,p.2.length≤100):PureC Tryd.prog G0 58 [stateA s] (.int .i64 (checkM s)):=by
 refine pure_of hmix b58 plainG ⟨plain_state,trivial⟩ plain_int ?_
 rw [c58,stateA,pagesA]
 have p0:Plain (.isl (s.map pageA)):=plain_pages
 (refine simx_Za5 ?_;try exact True.intro)
 refine ⟨fun h=>fin_int (check_long (by omega)).symm,fun h1024=>?_⟩
 refine loop_ix (ι:=Nat) (fun k=>(.undef :: .ptr 0 0 :: .undef :: .undef :: .undef :: .undef :: .undef :: .undef :: .undef :: .undef :: .undef :: .undef :: .undef :: .undef :: .undef :: .undef :: .isl (s.map pageA) :: .int .i64 s.length :: .int .i64 (k:Nat) :: .undef :: .undef :: .undef :: .undef :: .undef :: .undef :: .undef :: .undef :: .undef :: .undef :: .undef :: .undef :: .undef :: .undef :: .undef :: .undef :: .undef :: .undef :: .undef :: .undef :: .undef :: .undef :: .undef :: .undef :: .undef :: .undef :: .undef :: .undef :: .undef :: .undef :: .undef :: .undef :: .undef :: .undef :: .undef :: .undef :: .undef :: .undef :: .undef :: .undef :: .undef :: .undef :: .undef :: .undef :: .undef :: .undef :: .undef :: .undef :: .undef :: .undef :: .undef :: .undef :: .undef :: .undef :: .undef :: .undef :: .undef :: .undef :: .undef :: .undef :: .undef :: .undef :: .undef :: .undef :: .undef :: .undef::[])) (fun _=>⟨[(0,.cells [.isl (s.map pageA)])],1⟩) (fun k=>k≤s.length∧(s.take k).all okPage=true) (fun k=>s.length - k) 0 [] rfl (fun _=>Nat.zero_le _) ⟨Nat.zero_le _,by simp⟩ (weak_of (oneOf_of rfl) ?_ (wko_plain (subH_of rfl) (by simp) rfl rfl (plain_one p0) wko_nil)) fun k hk=>?_
 ·exact wkz_Zc
 have hcl:∀ {j},j < s.length→(nth (0,[]) s j).2.length≤100:=fun hj=>hc _ (nth_mem hj)
 (repeat' (first|with_reducible apply And.intro|refine goCall_pure (k_anybad _ (by have:=hcl (j:=k) (by omega);omega)) ?_|refine goQCall_pure (k_anybad _ (by have:=hcl (j:=k) (by omega);omega)) ?_|refine dcall_pure rfl rfl rfl (k_anybad _ (by have:=hcl (j:=k) (by omega);omega)) ?_|refine goDCall_pure (k_anybad _ (by have:=hcl (j:=k) (by omega);omega)) ?_|(refine go_app2 rfl (by first  | rfl) (by first|decide|omega) ⟨by omega,by omega⟩ ?_)|(refine goD_app2 rfl (by first  | rfl) (by first|decide|omega) ⟨by omega,by omega⟩ ?_)|(refine regD_quiet rfl ?_)|(refine regD_go rfl ?_)|exact chk_ok rfl|exact True.intro|(refine simx_Zc1 ?_)|((first|rw [condS_d]|rw [condS_b]|simp only [simD]|rw [goG_b]|rw [goQG_b]|rw [goCG_b]|rw [goQCG_b]|rw [goDG_t]);with_reducible apply And.intro<;>with_reducible intro hsp<;>first|(exfalso;omega)|(try simp only [hsp,decide_true,decide_false,Bool.not_true,Bool.not_false]))|(refine dcall_pivot rfl rfl rfl rfl ?_)|with_reducible intro _|omega))
 ·exact fin_int (check_range (by omega) (show k < s.length by omega) (by simp [okPage, *])).symm
 ·exact ⟨k+1,[],⟨by omega,all_take_step (by omega) hk.2 (by simp [okPage, *];omega)⟩,by dsimp only;omega,keeps_rn rfl,weak_of (oneOf_of rfl) (by exact wkz_Zc) (wko_plain (subH_of rfl) (by simp) rfl rfl (plain_one p0) wko_nil)⟩
 ·exact fin_int (check_range (by omega) (show k < s.length by omega) (by simp only [okPage,Bool.and_eq_false_iff,decide_eq_false_iff_not];omega)).symm
 ·exact fin_int (check_range (by omega) (show k < s.length by omega) (by simp only [okPage,Bool.and_eq_false_iff,decide_eq_false_iff_not];omega)).symm
 have hall:s.all okPage=true:=by
  have:=hk.2
  rwa [List.take_of_length_le (by omega)] at this
 clear hk
 refine loop_ix (ι:=Nat) (fun k=>(.undef :: .ptr 0 0 :: .undef :: .undef :: .undef :: .int .i64 (lastP s k) :: .undef :: .undef :: .undef :: .undef :: .undef :: .undef :: .undef :: .undef :: .undef :: .undef :: .undef :: .undef :: .undef :: .undef :: .undef :: .undef :: .undef :: .undef :: .undef :: .undef :: .undef :: .undef :: .undef :: .undef :: .undef :: .undef :: .undef :: .undef :: .undef :: .undef :: .undef :: .isl (s.map pageA) :: .int .i64 s.length :: .int .i64 (k:Nat) :: .undef :: .undef :: .undef :: .undef :: .undef :: .undef :: .undef :: .undef :: .undef :: .undef :: .undef :: .undef :: .undef :: .undef :: .undef :: .undef :: .undef :: .undef :: .undef :: .undef :: .undef :: .undef :: .undef :: .undef :: .undef :: .undef :: .undef :: .undef :: .undef :: .undef :: .undef :: .undef :: .undef :: .undef :: .undef :: .undef :: .undef :: .undef :: .undef :: .undef :: .undef :: .undef :: .undef :: .undef :: .undef::[])) (fun _=>⟨[(0,.cells [.isl (s.map pageA)])],1⟩) (fun k=>k≤s.length∧okFrom (-1) s=okFrom (lastP s k) (s.drop k)) (fun k=>s.length - k) 0 [] rfl (fun _=>Nat.zero_le _) ⟨Nat.zero_le _,rfl⟩ (weak_of (oneOf_of rfl) ?_ (wko_plain (subH_of rfl) (by simp) rfl rfl (plain_one p0) wko_nil)) fun k hk=>?_
 ·exact wkz_Zc
 (repeat' (first|with_reducible apply And.intro|(refine go_app2 rfl (by first  | rfl) (by first|decide|omega) ⟨by omega,by omega⟩ ?_)|(refine goD_app2 rfl (by first  | rfl) (by first|decide|omega) ⟨by omega,by omega⟩ ?_)|(refine regD_quiet rfl ?_)|(refine regD_go rfl ?_)|exact chk_ok rfl|exact True.intro|(refine simx_Zc1 ?_)|((first|rw [condS_d]|rw [condS_b]|simp only [simD]|rw [goG_b]|rw [goQG_b]|rw [goCG_b]|rw [goQCG_b]|rw [goDG_t]);with_reducible apply And.intro<;>with_reducible intro hsp<;>first|(exfalso;omega)|(try simp only [hsp,decide_true,decide_false,Bool.not_true,Bool.not_false]))|(refine dcall_pivot rfl rfl rfl rfl ?_)|with_reducible intro _|omega))
 ·have hkl:k < s.length:=by omega
  have hpg:okPage (nth (0,[]) s k)=true:=List.all_eq_true.1 hall _ (nth_mem hkl)
  have hlk:=hcl hkl
  generalize hp:nth (0,[]) s k=pg at *
  obtain ⟨pn,cs⟩:=pg
  simp only [okPage,Bool.and_eq_true,decide_eq_true_eq,Bool.not_eq_true',List.any_eq_false] at hpg hlk ⊢
  obtain ⟨⟨hp1,hp2⟩,hp3⟩:=hpg
  have hb:∀ {j},j < cs.length→badCut (nth (0,0) cs j)=false:=fun hj=>by simpa using hp3 _ (nth_mem hj)
  have hu:∀ q,U64 (unionM (cs.take q)):=fun q=>unionM_u64 fun c hc=>by
   have:=hp3 c (List.mem_of_mem_take hc)
   simp only [badCut,decide_eq_true_eq] at this
   omega
  have p1:Plain (.isl (cs.map cutA)):=plain_cuts
  refine loop_ix (ι:=Nat) (fun q=>(.undef :: .ptr 0 0 :: .undef :: .undef :: .undef :: .int .i64 (lastP s k) :: .undef :: .ptr 1 0 :: .int .u64 (unionM (cs.take q):Nat) :: .undef :: .undef :: .undef :: .undef :: .undef :: .undef :: .undef :: .undef :: .undef :: .undef :: .undef :: .undef :: .undef :: .undef :: .undef :: .undef :: .undef :: .undef :: .undef :: .undef :: .undef :: .undef :: .undef :: .undef :: .undef :: .undef :: .undef :: .undef :: .isl (s.map pageA) :: .int .i64 s.length :: .int .i64 (k:Nat) :: .undef :: .undef :: .undef :: .undef :: .isl (cs.map cutA) :: .int .i64 cs.length :: .int .i64 (q:Nat) :: .undef :: .undef :: .undef :: .undef :: .undef :: .undef :: .undef :: .undef :: .undef :: .undef :: .undef :: .undef :: .undef :: .undef :: .undef :: .undef :: .undef :: .undef :: .undef :: .undef :: .undef :: .undef :: .undef :: .undef :: .undef :: .undef :: .undef :: .undef :: .undef :: .undef :: .undef :: .undef :: .undef :: .undef :: .undef :: .undef :: .undef :: .undef::[])) (fun _=>⟨[(0,.cells [.isl (s.map pageA)]),(1,.cells [.int .i64 pn,.isl (cs.map cutA)])],2⟩) (fun q=>q≤cs.length) (fun q=>cs.length - q) 0 [] rfl (fun _=>Nat.zero_le _) (Nat.zero_le _) (weak_of (oneOf_of rfl) ?_ (wko_plain (subH_of rfl) (by simp) rfl rfl (plain_one p0) (wko_plain (subH_of rfl) (by simp) rfl rfl (plain_two plain_int p1) wko_nil))) fun q hq=>?_
  ·exact wkz_Zc
  have u1:unionM (cs.take q) < 18446744073709551616:=hu q
  have kc:=k_cuts (unionM (cs.take q)) (hu q)
  have hcl':=runs_length (unionM (cs.take q)).testBit 64
  have u2:runM ((nth (0,0) cs q).1,(nth (0,0) cs q).2) < 18446744073709551616:=by
   by_cases hh:q < cs.length
   ·exact bad_u64 (hb hh)
   ·have : nth (0,0) cs q=(0,0):=by simp [nth,Nat.not_lt.1 hh]
    rw [this];decide
  (repeat' (first|with_reducible apply And.intro|refine goCall_pure (k_bytes _ _ (hb (j:=q) (by omega))) ?_|refine goQCall_pure (k_bytes _ _ (hb (j:=q) (by omega))) ?_|refine dcall_pure rfl rfl rfl (k_bytes _ _ (hb (j:=q) (by omega))) ?_|refine goDCall_pure (k_bytes _ _ (hb (j:=q) (by omega))) ?_|refine goCall_pure (kc) ?_|refine goQCall_pure (kc) ?_|refine dcall_pure rfl rfl rfl (kc) ?_|refine goDCall_pure (kc) ?_|refine goCall_pure (k_equal (cutsM (unionM (cs.take q))) cs (by unfold cutsM;omega) (by omega)) ?_|refine goQCall_pure (k_equal (cutsM (unionM (cs.take q))) cs (by unfold cutsM;omega) (by omega)) ?_|refine dcall_pure rfl rfl rfl (k_equal (cutsM (unionM (cs.take q))) cs (by unfold cutsM;omega) (by omega)) ?_|refine goDCall_pure (k_equal (cutsM (unionM (cs.take q))) cs (by unfold cutsM;omega) (by omega)) ?_|(refine go_app2 rfl (by first  | rfl) (by first|decide|omega) ⟨by omega,by omega⟩ ?_)|(refine goD_app2 rfl (by first  | rfl) (by first|decide|omega) ⟨by omega,by omega⟩ ?_)|(refine regD_quiet rfl ?_)|(refine regD_go rfl ?_)|exact chk_ok rfl|exact True.intro|(refine simx_Zc2 ?_)|((first|rw [condS_d]|rw [condS_b]|simp only [simD]|rw [goG_b]|rw [goQG_b]|rw [goCG_b]|rw [goQCG_b]|rw [goDG_t]);with_reducible apply And.intro<;>with_reducible intro hsp<;>first|(exfalso;omega)|(try simp only [hsp,decide_true,decide_false,Bool.not_true,Bool.not_false]))|(refine dcall_pivot rfl rfl rfl rfl ?_)|with_reducible intro _|omega))
  ·exact ⟨q+1,[],by omega,by dsimp only;omega,keeps_rn rfl,weak_of (oneOf_of rfl) (by exact wkz_Zc) (wko_plain (subH_of rfl) (by simp) rfl rfl (plain_one p0) (wko_plain (subH_of rfl) (by simp) rfl rfl (plain_two plain_int p1) wko_nil))⟩
  all_goals have hqe:cs.take q=cs:=List.take_of_length_le (by omega)
  ·refine ⟨k+1,[],⟨by omega,form_step hkl hk.2 ?_⟩,by dsimp only;omega,keeps_rn rfl,weak_of (oneOf_of rfl) (by exact wkz_Zc) (wko_plain (subH_of rfl) (by simp) rfl rfl (plain_one p0) wko_nil)⟩
   rw [hp]
   rw [hqe] at hsp
   simp only [okNext,hsp,Bool.and_true,Bool.and_eq_true,decide_eq_true_eq]
   omega
  all_goals refine fin_int (check_form (by omega) hall hkl hk.2 ?_).symm
  all_goals rw [hp]
  all_goals simp only [okNext,Bool.and_eq_false_iff,decide_eq_false_iff_not]
  ·rw [hqe] at hsp;exact .inr hsp
  ·exact .inl (.inr (by omega))
  ·exact .inl (.inl (.inr (by omega)))
  ·exact .inl (.inl (.inl (by omega)))
 ·exact fin_int (check_ok (by omega) hall (by omega) hk.2).symm
end Go.Proofs.YtkahmhmkhfllpaaDoor
namespace Go.Proofs.YtkahmhmkhfllpaaDoor
open Go Go.Am Go.Pol
end Go.Proofs.YtkahmhmkhfllpaaDoor
namespace Go.Proofs.YtkahmhmkhfllpaaDoor
open Go Go.Am Go.Pol
def askM (s:List Page) (a b:Int):Int:=if checkM s=0 then (if okZone a b then 0 else 7) else checkM s
theorem k_ask (s:List Page) (a b:Int) (hs:s.length≤2000) (hc:∀ p ∈ s,p.2.length≤100):PureC Tryd.prog G0 42 [stateA s,.int .i64 a,.int .i64 b] (.int .i64 (askM s a b)):=by
 refine pure_of hmix b42 plainG ⟨plain_state,plain_int,plain_int,trivial⟩ plain_int ?_
 have kc:=k_check s hs hc
 rw [c42]
 rw [stateA] at *
 (repeat' (first|with_reducible apply And.intro|refine goCall_pure (kc) ?_|refine goQCall_pure (kc) ?_|refine dcall_pure rfl rfl rfl (kc) ?_|refine goDCall_pure (kc) ?_|(refine go_app2 rfl (by first  | rfl) (by first|decide|omega) ⟨by omega,by omega⟩ ?_)|(refine goD_app2 rfl (by first  | rfl) (by first|decide|omega) ⟨by omega,by omega⟩ ?_)|(refine regD_quiet rfl ?_)|(refine regD_go rfl ?_)|exact chk_ok rfl|exact True.intro|(refine simx_Za7 ?_)|((first|rw [condS_d]|rw [condS_b]|simp only [simD]|rw [goG_b]|rw [goQG_b]|rw [goCG_b]|rw [goQCG_b]|rw [goDG_t]);with_reducible apply And.intro<;>with_reducible intro hsp<;>first|(exfalso;omega)|(try simp only [hsp,decide_true,decide_false,Bool.not_true,Bool.not_false]))|(refine dcall_pivot rfl rfl rfl rfl ?_)|with_reducible intro _|omega))
 all_goals refine fin_int ?_
 all_goals simp only [askM,okZone, *]
 all_goals simp
 all_goals omega
end Go.Proofs.YtkahmhmkhfllpaaDoor
namespace Go.Proofs.YtkahmhmkhfllpaaDoor
open Go Go.Am Go.Pol
theorem simx_Zf0 {p q:Prop} (hq:q) (h:p=q:=by ((simp (config:={ maxSteps:=4000000 }) (disch:=first|(simp only [simC];done)|omega) only [simK,List.contains_cons,List.contains_nil,sim,simL,simQ,simS,simG,simV,simB,simE,ev_load,ev_store,ev_bslice,ev_build,ev_slA,ev_slS,ev_clear,ev_append,app_eq,app1_ite,src_sl,simA,d_nil,d_op,d_opG,goD_some,goD_ite,goD_iteN,goDG_s,Hp.appD,load_ptr,load_iptr,store_ptr,part_t,part_f,cells_lk,vals_nil,vals_cons,parts_nil,parts_cons,fillL,over,AV.flat,AV.one,AV.cells,pureR_ite,pureR_iteN,bind_ite,map_ite,ldR_ite,stR_ite,clR_ite,goS_ite,goS_iteN,goQ_ite,goQ_iteN,finN,finR,resVs,resV,packV,nchkV,faddrV,fldV,extV,lenV,Hp.app,hasKey,puts,put,List.any_cons,List.any_nil,Option.bind_some,Option.bind_none,Option.map_some,Option.map_none,List.getElem?_cons_succ,List.getElem?_cons_zero,List.set_cons_succ,List.set_cons_zero,List.cons_append,List.nil_append,List.append_nil,List.replicate,List.drop_zero,List.drop_succ_cons,List.take_succ_cons,List.take_zero,List.length_cons,List.length_nil,decide_eq_true_eq,decide_true,decide_false,pick_u1,pick_u2,pick_t1,pick_t2,decide_eq_false_iff_not,Bool.not_true,Bool.not_false,Bool.not_eq_true,Bool.true_eq_false,Bool.false_eq_true,reduceCtorEq,Nat.reduceAdd,Nat.reduceSub,Nat.reduceMul,Nat.reduceLeDiff,Nat.reduceLT,Nat.reduceEqDiff,Nat.reduceBEq,Nat.zero_add,Nat.add_zero,reduceIte,if_true,if_false,and_true,true_and,and_false,false_and,true_implies,false_implies,implies_true,not_true_eq_false,not_false_eq_true,beq_self_eq_true,Bool.or_false,Bool.or_true,Bool.false_or,Bool.true_or,IntWalk.i64_in,Int.toNat_natCast,toNat_succ,Q.o,Q.u,Q.gt,Q.gf,Q.K,Q.bk,Q.mk,Q.q,Q.m,Q.l,Q.la,Q.b,Q.c,Q.f,Q.po,Q.pa,Q.e,Q.n,Q.is,Q.ia,Q.bx,Q.ln,Q.s,evO,bndV,slSV,e1,e2,Option.getD_some,Option.getD_none,hb,h2,Option.isSome_none,Option.isSome_some,h0,Nat.add_one_ne_zero,Nat.sub_zero,Nat.zero_mul]);first|done|rfl)):p:=h▸hq
theorem simx_Zf1 {p q:Prop} (hq:q) (h:p=q:=by ((simp (config:={ maxSteps:=4000000 }) (disch:=first|(simp only [simC];done)|omega) only [simK,List.contains_cons,List.contains_nil,sim,simL,simQ,simS,simG,simV,simB,simE,ev_load,ev_store,ev_bslice,ev_build,ev_slA,ev_slS,ev_clear,ev_append,app_eq,app1_ite,src_sl,simA,d_nil,d_op,d_opG,goD_some,goD_ite,goD_iteN,goDG_s,Hp.appD,load_ptr,load_iptr,store_ptr,part_t,part_f,cells_lk,vals_nil,vals_cons,parts_nil,parts_cons,fillL,over,AV.flat,AV.one,AV.cells,pureR_ite,pureR_iteN,bind_ite,map_ite,ldR_ite,stR_ite,clR_ite,goS_ite,goS_iteN,goQ_ite,goQ_iteN,finN,finR,resVs,resV,packV,nchkV,faddrV,fldV,extV,lenV,Hp.app,hasKey,puts,put,List.any_cons,List.any_nil,Option.bind_some,Option.bind_none,Option.map_some,Option.map_none,List.getElem?_cons_succ,List.getElem?_cons_zero,List.set_cons_succ,List.set_cons_zero,List.cons_append,List.nil_append,List.append_nil,List.replicate,List.drop_zero,List.drop_succ_cons,List.take_succ_cons,List.take_zero,List.length_cons,List.length_nil,decide_eq_true_eq,decide_true,decide_false,pick_u1,pick_u2,pick_t1,pick_t2,decide_eq_false_iff_not,Bool.not_true,Bool.not_false,Bool.not_eq_true,Bool.true_eq_false,Bool.false_eq_true,reduceCtorEq,Nat.reduceAdd,Nat.reduceSub,Nat.reduceMul,Nat.reduceLeDiff,Nat.reduceLT,Nat.reduceEqDiff,Nat.reduceBEq,Nat.zero_add,Nat.add_zero,reduceIte,if_true,if_false,and_true,true_and,and_false,false_and,true_implies,false_implies,implies_true,not_true_eq_false,not_false_eq_true,beq_self_eq_true,Bool.or_false,Bool.or_true,Bool.false_or,Bool.true_or,IntWalk.i64_in,Int.toNat_natCast,toNat_succ,Q.o,Q.u,Q.gt,Q.gf,Q.K,Q.bk,Q.mk,Q.q,Q.m,Q.l,Q.la,Q.b,Q.c,Q.f,Q.po,Q.pa,Q.e,Q.n,Q.is,Q.ia,Q.bx,Q.ln,Q.s,evO,bndV,slSV,e4,h3,clear_sl,Option.getD_some,Option.getD_none,Option.isSome_none,Option.isSome_some,h0,Nat.add_one_ne_zero,Nat.sub_zero,Nat.zero_mul]);first|done|rfl)):p:=h▸hq
theorem simx_Zf2 {p q:Prop} (hq:q) (h:p=q:=by ((simp (config:={ maxSteps:=4000000 }) (disch:=first|(simp only [simC];done)|omega) only [simK,List.contains_cons,List.contains_nil,sim,simL,simQ,simS,simG,simV,simB,simE,ev_load,ev_store,ev_bslice,ev_build,ev_slA,ev_slS,ev_clear,ev_append,app_eq,app1_ite,src_sl,simA,d_nil,d_op,d_opG,goD_some,goD_ite,goD_iteN,goDG_s,Hp.appD,load_ptr,load_iptr,store_ptr,part_t,part_f,cells_lk,vals_nil,vals_cons,parts_nil,parts_cons,fillL,over,AV.flat,AV.one,AV.cells,pureR_ite,pureR_iteN,bind_ite,map_ite,ldR_ite,stR_ite,clR_ite,goS_ite,goS_iteN,goQ_ite,goQ_iteN,finN,finR,resVs,resV,packV,nchkV,faddrV,fldV,extV,lenV,Hp.app,hasKey,puts,put,List.any_cons,List.any_nil,Option.bind_some,Option.bind_none,Option.map_some,Option.map_none,List.getElem?_cons_succ,List.getElem?_cons_zero,List.set_cons_succ,List.set_cons_zero,List.cons_append,List.nil_append,List.append_nil,List.replicate,List.drop_zero,List.drop_succ_cons,List.take_succ_cons,List.take_zero,List.length_cons,List.length_nil,decide_eq_true_eq,decide_true,decide_false,pick_u1,pick_u2,pick_t1,pick_t2,decide_eq_false_iff_not,Bool.not_true,Bool.not_false,Bool.not_eq_true,Bool.true_eq_false,Bool.false_eq_true,reduceCtorEq,Nat.reduceAdd,Nat.reduceSub,Nat.reduceMul,Nat.reduceLeDiff,Nat.reduceLT,Nat.reduceEqDiff,Nat.reduceBEq,Nat.zero_add,Nat.add_zero,reduceIte,if_true,if_false,and_true,true_and,and_false,false_and,true_implies,false_implies,implies_true,not_true_eq_false,not_false_eq_true,beq_self_eq_true,Bool.or_false,Bool.or_true,Bool.false_or,Bool.true_or,IntWalk.i64_in,Int.toNat_natCast,toNat_succ,Q.o,Q.u,Q.gt,Q.gf,Q.K,Q.bk,Q.mk,Q.q,Q.m,Q.l,Q.la,Q.b,Q.c,Q.f,Q.po,Q.pa,Q.e,Q.n,Q.is,Q.ia,Q.bx,Q.ln,Q.s,evO,bndV,slSV,e1,e2,Option.getD_some,Option.getD_none,hb,h2,Option.isSome_none,Option.isSome_some,h0,Nat.add_one_ne_zero,Nat.sub_zero,Nat.zero_mul,hs]);first|done|rfl)):p:=h▸hq
theorem l_delete (l:List Cut) (b:Nat) (hb:b+1 < l.length) (hl:l.length≤64):LocC Tryd.prog G0 81 [.sl 0 0 l.length l.length 2,.int .i64 ((b:Int)+1),.int .i64 ((b:Int)+2)] [(0,.cells (flat cutA l))] 1 fun x h1=>x = .sl 0 0 (l.length - 1) (l.length - 1) 2∧h1=⟨[(0,.cells (flat cutA (l.eraseIdx (b+1))))],1⟩:=by
 refine loc_of hmix b81 ?_
 rw [c81]
 have e1:((b:Int)+1).toNat=b+1:=by omega
 have e2:((b:Int)+2).toNat=b+2:=by omega
 have h0:0 < l.length:=by omega
 have hfl:(flat cutA l).length=l.length * 2:=flat_len cut_len l
 have hlt:∀ src:List AV,src.length≤(l.length - (b+2)) * 2→(over (flat cutA l) (0+(b+1) * 2) src).length=l.length * 2:=fun src hs=>by
  rw [over_eq _ _ _ (by omega)];simp;omega
 have hC:over (flat cutA l) (0+(b+1) * 2) (((flat cutA l).drop ((b+2) * 2)).take ((l.length - (b+2)) * 2))=flat cutA (l.eraseIdx (b+1))++(flat cutA l).drop ((l.length - 1) * 2):=by
  rw [flat_drop cut_len l (b+2),flat_take cut_len (l.drop (b+2)),List.take_of_length_le (l:=l.drop (b+2)) (by simp),over_eq _ _ _ (by rw [flat_len cut_len,flat_len cut_len];simp;omega),Nat.zero_add,flat_take cut_len l,flat_app,← List.eraseIdx_eq_take_drop_succ,flat_len cut_len]
  congr 2
  simp;omega
 have hel:(flat cutA (l.eraseIdx (b+1))).length=(l.length - 1) * 2:=by rw [flat_len cut_len,List.length_eraseIdx_of_lt (by omega)]
 by_cases h2:b+2 < l.length
 ·(repeat' (first|with_reducible apply And.intro|(refine go_app2 rfl (by first  | rfl) (by first|decide|omega) ⟨by omega,by omega⟩ ?_)|(refine goD_app2 rfl (by first  | rfl) (by first|decide|omega) ⟨by omega,by omega⟩ ?_)|(refine regD_quiet rfl ?_)|(refine regD_go rfl ?_)|exact chk_ok rfl|exact True.intro|(refine simx_Zf0 ?_)|((first|rw [condS_d]|rw [condS_b]|simp only [simD]|rw [goG_b]|rw [goQG_b]|rw [goCG_b]|rw [goQCG_b]|rw [goDG_t]);with_reducible apply And.intro<;>with_reducible intro hsp<;>first|(exfalso;omega)|(try simp only [hsp,decide_true,decide_false,Bool.not_true,Bool.not_false]))|(refine dcall_pivot rfl rfl rfl rfl ?_)|with_reducible intro _|omega))
  refine goD_app_in rfl (by omega) (by rw [hfl];omega) ?_
  rw [hC]
  have e3:b+1+(l.length - (b+2))=l.length - 1:=by omega
  have e4:((l.length - 1:Nat):Int).toNat=l.length - 1:=by omega
  have h3:l.length - 1 < l.length:=by omega
  rw [e3]
  (repeat' (first|with_reducible apply And.intro|(refine go_app2 rfl (by first  | rfl) (by first|decide|omega) ⟨by omega,by omega⟩ ?_)|(refine goD_app2 rfl (by first  | rfl) (by first|decide|omega) ⟨by omega,by omega⟩ ?_)|(refine regD_quiet rfl ?_)|(refine regD_go rfl ?_)|exact chk_ok rfl|exact True.intro|(refine simx_Zf1 ?_)|((first|rw [condS_d]|rw [condS_b]|simp only [simD]|rw [goG_b]|rw [goQG_b]|rw [goCG_b]|rw [goQCG_b]|rw [goDG_t]);with_reducible apply And.intro<;>with_reducible intro hsp<;>first|(exfalso;omega)|(try simp only [hsp,decide_true,decide_false,Bool.not_true,Bool.not_false]))|(refine dcall_pivot rfl rfl rfl rfl ?_)|with_reducible intro _|omega))
  ·simp only [List.length_append,List.length_drop,hfl,hel];omega
  ·rw [over_eq _ _ _ (by simp [hfl,hel];omega),List.take_append_of_le_length (by omega),List.take_of_length_le (by omega),List.append_assoc]
   exact fin_loc [] rfl (Nat.le_refl _) (oneOf_of rfl) (wk_sl rfl (by simp) rfl (by omega) (by omega)) (wko_prefix (by simp) rfl (wkl_plain (subH_of rfl) (plain_flat cell_plain)) wko_nil)
 ·have hE:l.eraseIdx (b+1)=l.take (b+1):=by
   rw [List.eraseIdx_eq_take_drop_succ,List.drop_of_length_le (by omega),List.append_nil]
  have hs:∀ at_:At,srcV at_ 2 (.isl [])=some ([],0,[]):=fun _=>rfl
  (repeat' (first|with_reducible apply And.intro|(refine go_app2 rfl (by first  | rfl) (by first|decide|omega) ⟨by omega,by omega⟩ ?_)|(refine goD_app2 rfl (by first  | rfl) (by first|decide|omega) ⟨by omega,by omega⟩ ?_)|(refine regD_quiet rfl ?_)|(refine regD_go rfl ?_)|exact chk_ok rfl|exact True.intro|(refine simx_Zf2 ?_)|((first|rw [condS_d]|rw [condS_b]|simp only [simD]|rw [goG_b]|rw [goQG_b]|rw [goCG_b]|rw [goQCG_b]|rw [goDG_t]);with_reducible apply And.intro<;>with_reducible intro hsp<;>first|(exfalso;omega)|(try simp only [hsp,decide_true,decide_false,Bool.not_true,Bool.not_false]))|(refine dcall_pivot rfl rfl rfl rfl ?_)|with_reducible intro _|omega))
  refine goD_app_in rfl (by omega) (by rw [hfl];omega) ?_
  have e3:b+1+0=l.length - 1:=by omega
  have e4:((l.length - 1:Nat):Int).toNat=l.length - 1:=by omega
  have h3:l.length - 1 < l.length:=by omega
  rw [e3]
  (repeat' (first|with_reducible apply And.intro|(refine go_app2 rfl (by first  | rfl) (by first|decide|omega) ⟨by omega,by omega⟩ ?_)|(refine goD_app2 rfl (by first  | rfl) (by first|decide|omega) ⟨by omega,by omega⟩ ?_)|(refine regD_quiet rfl ?_)|(refine regD_go rfl ?_)|exact chk_ok rfl|exact True.intro|(refine simx_Zf1 ?_)|((first|rw [condS_d]|rw [condS_b]|simp only [simD]|rw [goG_b]|rw [goQG_b]|rw [goCG_b]|rw [goQCG_b]|rw [goDG_t]);with_reducible apply And.intro<;>with_reducible intro hsp<;>first|(exfalso;omega)|(try simp only [hsp,decide_true,decide_false,Bool.not_true,Bool.not_false]))|(refine dcall_pivot rfl rfl rfl rfl ?_)|with_reducible intro _|omega))
  ·rw [show b+1=l.length - 1 by omega] at hE
   rw [over_eq _ _ _ (by simp [hfl];omega),flat_take cut_len,List.append_assoc,hE]
   exact fin_loc [] rfl (Nat.le_refl _) (oneOf_of rfl) (wk_sl rfl (by simp) rfl (by omega) (by omega)) (wko_prefix (by simp) rfl (wkl_plain (subH_of rfl) (plain_flat cell_plain)) wko_nil)
end Go.Proofs.YtkahmhmkhfllpaaDoor
namespace Go.Proofs.YtkahmhmkhfllpaaDoor
open Go Go.Am Go.Pol
theorem wkz_Zg {p:Prop} (h:p:=by (((repeat' (first|exact wkl_nil|refine wkl_cons ?_ ?_|exact wk_undef|exact wk_int (by first|rfl|omega)|exact wk_bool rfl|exact wk_yld rfl (by first|decide|simp|omega)|with_reducible refine wk_fn ?_ ?_|with_reducible refine wk_agg ?_|with_reducible refine wk_tup ?_|exact wk_ptr rfl (by first|decide|simp|omega)|exact wk_sl rfl (by first|decide|simp|omega) (by first|rfl|omega|simp) (by first|omega|simp) (by first|omega|simp)|exact wk_int (by rw [hy.1])|exact wk_int hy.2.symm|exact wk_int (by rw [hn.1])|exact wk_int hn.2.symm|exact wk_plain (by first|exact subH_nil|exact subH_of rfl) (by (first|assumption|exact plain_int|exact plain_bool|exact plain_undef|exact plain_nils|exact plain_nilp|exact plain_nilf|exact plain_str)))));first|done|fail)):p:=h
theorem simx_Zg2 {p q:Prop} (hq:q) (h:p=q:=by ((simp (config:={ maxSteps:=4000000 }) (disch:=first|(simp only [simC];done)|omega) only [simK,List.contains_cons,List.contains_nil,sim,simL,simQ,simS,simG,simV,simB,simE,ev_load,ev_store,ev_bslice,ev_build,ev_slA,ev_slS,ev_clear,ev_append,app_eq,app1_ite,src_sl,simA,d_nil,d_op,d_opG,goD_some,goD_ite,goD_iteN,goDG_s,Hp.appD,load_ptr,load_iptr,store_ptr,part_t,part_f,cells_lk,vals_nil,vals_cons,parts_nil,parts_cons,fillL,over,AV.flat,AV.one,AV.cells,pureR_ite,pureR_iteN,bind_ite,map_ite,ldR_ite,stR_ite,clR_ite,goS_ite,goS_iteN,goQ_ite,goQ_iteN,finN,finR,resVs,resV,packV,nchkV,faddrV,fldV,extV,lenV,Hp.app,hasKey,puts,put,List.any_cons,List.any_nil,Option.bind_some,Option.bind_none,Option.map_some,Option.map_none,List.getElem?_cons_succ,List.getElem?_cons_zero,List.set_cons_succ,List.set_cons_zero,List.cons_append,List.nil_append,List.append_nil,List.replicate,List.drop_zero,List.drop_succ_cons,List.take_succ_cons,List.take_zero,List.length_cons,List.length_nil,decide_eq_true_eq,decide_true,decide_false,pick_u1,pick_u2,pick_t1,pick_t2,decide_eq_false_iff_not,Bool.not_true,Bool.not_false,Bool.not_eq_true,Bool.true_eq_false,Bool.false_eq_true,reduceCtorEq,Nat.reduceAdd,Nat.reduceSub,Nat.reduceMul,Nat.reduceLeDiff,Nat.reduceLT,Nat.reduceEqDiff,Nat.reduceBEq,Nat.zero_add,Nat.add_zero,reduceIte,if_true,if_false,and_true,true_and,and_false,false_and,true_implies,false_implies,implies_true,not_true_eq_false,not_false_eq_true,beq_self_eq_true,Bool.or_false,Bool.or_true,Bool.false_or,Bool.true_or,IntWalk.i64_in,Int.toNat_natCast,toNat_succ,Q.o,Q.u,Q.gt,Q.gf,Q.K,Q.bk,Q.mk,Q.q,Q.m,Q.l,Q.la,Q.b,Q.c,Q.f,Q.po,Q.pa,Q.e,Q.n,Q.is,Q.ia,Q.bx,Q.ln,Q.s,iaddr_sl,flat_get0,flat_get1]);first|done|rfl)):p:=h▸hq
theorem simx_Zg3 {p q:Prop} (hq:q) (h:p=q:=by ((simp (config:={ maxSteps:=4000000 }) (disch:=first|(simp only [simC];done)|omega) only [simK,List.contains_cons,List.contains_nil,sim,simL,simQ,simS,simG,simV,simB,simE,ev_load,ev_store,ev_bslice,ev_build,ev_slA,ev_slS,ev_clear,ev_append,app_eq,app1_ite,src_sl,simA,d_nil,d_op,d_opG,goD_some,goD_ite,goD_iteN,goDG_s,Hp.appD,load_ptr,load_iptr,store_ptr,part_t,part_f,cells_lk,vals_nil,vals_cons,parts_nil,parts_cons,fillL,over,AV.flat,AV.one,AV.cells,pureR_ite,pureR_iteN,bind_ite,map_ite,ldR_ite,stR_ite,clR_ite,goS_ite,goS_iteN,goQ_ite,goQ_iteN,finN,finR,resVs,resV,packV,nchkV,faddrV,fldV,extV,lenV,Hp.app,hasKey,puts,put,List.any_cons,List.any_nil,Option.bind_some,Option.bind_none,Option.map_some,Option.map_none,List.getElem?_cons_succ,List.getElem?_cons_zero,List.set_cons_succ,List.set_cons_zero,List.cons_append,List.nil_append,List.append_nil,List.replicate,List.drop_zero,List.drop_succ_cons,List.take_succ_cons,List.take_zero,List.length_cons,List.length_nil,decide_eq_true_eq,decide_true,decide_false,pick_u1,pick_u2,pick_t1,pick_t2,decide_eq_false_iff_not,Bool.not_true,Bool.not_false,Bool.not_eq_true,Bool.true_eq_false,Bool.false_eq_true,reduceCtorEq,Nat.reduceAdd,Nat.reduceSub,Nat.reduceMul,Nat.reduceLeDiff,Nat.reduceLT,Nat.reduceEqDiff,Nat.reduceBEq,Nat.zero_add,Nat.add_zero,reduceIte,if_true,if_false,and_true,true_and,and_false,false_and,true_implies,false_implies,implies_true,not_true_eq_false,not_false_eq_true,beq_self_eq_true,Bool.or_false,Bool.or_true,Bool.false_or,Bool.true_or,IntWalk.i64_in,Int.toNat_natCast,toNat_succ,Q.o,Q.u,Q.gt,Q.gf,Q.K,Q.bk,Q.mk,Q.q,Q.m,Q.l,Q.la,Q.b,Q.c,Q.f,Q.po,Q.pa,Q.e,Q.n,Q.is,Q.ia,Q.bx,Q.ln,Q.s,iaddr_sl,flat_get0,flat_get1,flat_set,show (b:Int)+1+1=(b:Int)+2 by omega]);first|done|rfl)):p:=h▸hq
theorem iaddr_sl {sz id off len cp sz':Nat} {k:IntKind} {n:Int}:iaddrSV sz (.sl id off len cp sz') (.int k n)=if sz=sz'∧0≤n∧n < (len:Int) then some (.ptr id (off+n.toNat * sz)) else none:=rfl
theorem flat_get (L:List Cut) {k j:Nat} (h:k < L.length) (hj:j < 2):(flat cutA L)[k * 2+j]? = (cutA (nth (0,0) L k))[j]?:=by
 have h1:((flat cutA L).drop (k * 2))[j]? = (flat cutA L)[k * 2+j]?:=List.getElem?_drop
 rw [← h1,flat_drop cut_len,List.drop_eq_getElem_cons h,nth_get h]
 simp only [flat,List.map_cons,List.flatten_cons]
 rw [List.getElem?_append_left (by rw [cut_len];exact hj)]
theorem flat_get0 {L:List Cut} {k:Nat} (h:k < L.length):(flat cutA L)[k * 2]? = some (.int .i64 (nth (0,0) L k).1):=flat_get L (j:=0) h (by omega)
theorem flat_get1 {L:List Cut} {k:Nat} (h:k < L.length):(flat cutA L)[k * 2+1]? = some (.int .i64 (nth (0,0) L k).2):=flat_get L (j:=1) h (by omega)
theorem flat_set (L:List Cut) {b:Nat} {x:Int} (h:b < L.length):(flat cutA L).set (b * 2+1) (.int .i64 x)=flat cutA (L.set b ((nth (0,0) L b).1,x)):=by
 induction L generalizing b with
 | nil=>simp at h
 | cons c L ih =>
  cases b with
  | zero=>simp [flat,cutA,nth]
  | succ b =>
   have:=ih (b:=b) (by simpa using h)
   simp only [flat,List.map_cons,List.flatten_cons,cutA,List.set_cons_succ,List.cons_append,List.nil_append] at this ⊢
   rw [show (b+1) * 2=(b * 2+1)+1 by omega,List.set_cons_succ,this]
   rfl
theorem l_down (m:Nat) (hm:U64 m) (hz:(cutsM m).length ≠ 0):LocC Tryd.prog G0 61 [.int .u64 m] [] 0 fun x h1=>x = .sl 0 0 (downM m).length (downM m).length 2∧h1=⟨[(0,.cells (flat cutA (downM m)))],1⟩:=by
 refine loc_of hmix b61 ?_
 rw [c61]
 have hl:=l_cuts m hm
 rw [own_s hz,ownH_s hz] at hl
 (refine simx_Za2 ?_;try exact True.intro)
 refine goCall_loc [] hl plainG rfl .nil (rnl_plain (PlainL.all ⟨plain_int,trivial⟩)) (by simp) (rn_sl (j:=0) (by simp [back])) (.cons (j:=0) (by simp [back]) (rnl_plain (plain_flat cell_plain)) .nil) rfl ?_
 (refine simx_Za2 ?_;try exact True.intro)
 have hsep:Sep 0 (cutsM m):=runs_sep _
 have hlen:(cutsM m).length≤64:=runs_length m.testBit 64
 refine loop_ix (ι:=List Cut) (fun L=>(.undef :: .undef :: .nils :: .sl 0 0 L.length L.length 2 :: .undef :: .undef :: .undef :: .undef :: .undef :: .undef :: .undef :: .undef :: .undef :: .undef :: .undef :: .undef :: .undef :: .undef :: .undef :: .undef :: .undef :: .undef :: .undef :: .undef :: .undef :: .undef :: .undef :: .undef :: .undef :: .undef :: .undef :: .undef :: .undef :: .undef :: .undef :: .undef :: .undef :: .undef :: .undef :: .undef :: .undef :: .undef :: .undef :: .undef :: .undef :: .undef :: .undef :: .undef :: .undef :: .undef :: .undef :: .undef :: .undef :: .undef :: .undef :: .undef :: .undef :: .undef :: .undef :: .undef :: .undef :: .undef :: .undef :: .undef :: .undef :: .undef::[])) (fun L=>⟨[(0,.cells (flat cutA L))],1⟩) (fun L=>L.length ≠ 0∧Sep 0 L∧mergeL L=downM m∧L.length≤64) (fun L=>L.length) (cutsM m) [] rfl (fun _=>Nat.zero_le _) ⟨hz,hsep,rfl,hlen⟩ (weak_of (oneOf_of rfl) ?_ (wko_plain (subH_of rfl) (by simp) rfl rfl (plain_flat cell_plain) wko_nil)) fun L hL=>?_
 ·exact wkz_Zg
 obtain ⟨h0,hs,hmL,h64⟩:=hL
 (repeat' (first|with_reducible apply And.intro|(refine go_app2 rfl (by first  | rfl) (by first|decide|omega) ⟨by omega,by omega⟩ ?_)|(refine goD_app2 rfl (by first  | rfl) (by first|decide|omega) ⟨by omega,by omega⟩ ?_)|(refine regD_quiet rfl ?_)|(refine regD_go rfl ?_)|exact chk_ok rfl|exact True.intro|(refine simx_Za7 ?_)|((first|rw [condS_d]|rw [condS_b]|simp only [simD]|rw [goG_b]|rw [goQG_b]|rw [goCG_b]|rw [goQCG_b]|rw [goDG_t]);with_reducible apply And.intro<;>with_reducible intro hsp<;>first|(exfalso;omega)|(try simp only [hsp,decide_true,decide_false,Bool.not_true,Bool.not_false]))|(refine dcall_pivot rfl rfl rfl rfl ?_)|with_reducible intro _|omega))
 ·refine loop_ix (ι:=Nat) (fun k=>(.undef :: .undef :: .nils :: .sl 0 0 L.length L.length 2 :: .int .i64 (bestL L k:Nat) :: .int .i64 (leastL L k) :: .undef :: .undef :: .undef :: .undef :: .undef :: .undef :: .undef :: .undef :: .undef :: .int .i64 ((L.length:Int) - 1) :: .int .i64 (k:Nat) :: .undef :: .undef :: .undef :: .undef :: .undef :: .undef :: .undef :: .undef :: .undef :: .undef :: .undef :: .undef :: .undef :: .undef :: .undef :: .undef :: .undef :: .undef :: .undef :: .undef :: .undef :: .undef :: .undef :: .undef :: .undef :: .undef :: .undef :: .undef :: .undef :: .undef :: .undef :: .undef :: .undef :: .undef :: .undef :: .undef :: .undef :: .undef :: .undef :: .undef :: .undef :: .undef :: .undef :: .undef :: .undef :: .undef :: .undef :: .undef :: .undef::[])) (fun _=>⟨[(0,.cells (flat cutA L))],1⟩) (fun k=>k≤L.length - 1) (fun k=>L.length - k) 0 [] rfl (fun _=>Nat.zero_le _) (Nat.zero_le _) (weak_of (oneOf_of rfl) ?_ (wko_plain (subH_of rfl) (by simp) rfl rfl (plain_flat cell_plain) wko_nil)) fun k hk=>?_
  ·exact wkz_Zg
  by_cases hkl:k+1 < L.length
  ·have g1:=hs.at_ (k:=k) (by omega)
   have g2:=hs.at_ (k:=k+1) (by omega)
   (repeat' (first|with_reducible apply And.intro|(refine go_app2 rfl (by first  | rfl) (by first|decide|omega) ⟨by omega,by omega⟩ ?_)|(refine goD_app2 rfl (by first  | rfl) (by first|decide|omega) ⟨by omega,by omega⟩ ?_)|(refine regD_quiet rfl ?_)|(refine regD_go rfl ?_)|exact chk_ok rfl|exact True.intro|(refine simx_Zg2 ?_)|((first|rw [condS_d]|rw [condS_b]|simp only [simD]|rw [goG_b]|rw [goQG_b]|rw [goCG_b]|rw [goQCG_b]|rw [goDG_t]);with_reducible apply And.intro<;>with_reducible intro hsp<;>first|(exfalso;omega)|(try simp only [hsp,decide_true,decide_false,Bool.not_true,Bool.not_false]))|(refine dcall_pivot rfl rfl rfl rfl ?_)|with_reducible intro _|omega))
   ·have hy:=least_yes (l:=L) (k:=k) hsp
    exact ⟨k+1,[],by omega,by dsimp only;omega,keeps_rn rfl,weak_of (oneOf_of rfl) (by exact wkz_Zg) (wko_plain (subH_of rfl) (by simp) rfl rfl (plain_flat cell_plain) wko_nil)⟩
   ·have hn:=least_no (l:=L) (k:=k) hs hkl hsp
    exact ⟨k+1,[],by omega,by dsimp only;omega,keeps_rn rfl,weak_of (oneOf_of rfl) (by exact wkz_Zg) (wko_plain (subH_of rfl) (by simp) rfl rfl (plain_flat cell_plain) wko_nil)⟩
  ·obtain rfl:k=L.length - 1:=by omega
   have hb:4 < L.length→bestL L (L.length - 1)+1 < L.length:=fun h=>by have:=bestL_lt L (L.length - 1) (by omega);omega
   have hle:4 < L.length→leastL L (L.length - 1)=gapL L (bestL L (L.length - 1)):=fun h=>by rw [leastL,if_neg (by omega)]
   have hmg:4 < L.length→merge1 L=(widen L (bestL L (L.length - 1))).eraseIdx (bestL L (L.length - 1)+1):=fun _=>rfl
   have hle2:4 < L.length:=by omega
   generalize bestL L (L.length - 1)=b at *
   generalize leastL L (L.length - 1)=g at *
   have hb:=hb hle2
   have g1:=hs.at_ (k:=b) (by omega)
   have g2:=hs.at_ (k:=b+1) (by omega)
   have hg:=hle hle2
   unfold gapL at hg
   (repeat' (first|with_reducible apply And.intro|(refine go_app2 rfl (by first  | rfl) (by first|decide|omega) ⟨by omega,by omega⟩ ?_)|(refine goD_app2 rfl (by first  | rfl) (by first|decide|omega) ⟨by omega,by omega⟩ ?_)|(refine regD_quiet rfl ?_)|(refine regD_go rfl ?_)|exact chk_ok rfl|exact True.intro|(refine simx_Zg3 ?_)|((first|rw [condS_d]|rw [condS_b]|simp only [simD]|rw [goG_b]|rw [goQG_b]|rw [goCG_b]|rw [goQCG_b]|rw [goDG_t]);with_reducible apply And.intro<;>with_reducible intro hsp<;>first|(exfalso;omega)|(try simp only [hsp,decide_true,decide_false,Bool.not_true,Bool.not_false]))|(refine dcall_pivot rfl rfl rfl rfl ?_)|with_reducible intro _|omega))
   ·rw [flat_len cut_len];omega
   ·have hw:L.set b ((nth (0,0) L b).1,(nth (0,0) L b).2+(g+(nth (0,0) L (b+1)).2))=widen L b:=by
     unfold widen
     congr 2
     omega
    have hwl:=widen_length L b
    have hd:=l_delete (widen L b) b (by omega) (by omega)
    rw [hwl,← hmg hle2] at hd
    have hml:=merge1_length hle2
    have hms:Sep 0 (merge1 L):=by rw [hmg hle2];exact merge_sep L 0 b hs hb
    rw [hw]
    refine goCall_loc [0] hd plainG rfl (.cons (show enter [0] 0 0 from rfl) rfl (rnl_plain (plain_flat cell_plain)) .nil) ⟨rn_sl (show enter [0] 0 0 from rfl),rn_plain plain_int,rn_plain plain_int,trivial⟩ (by simp) (rn_sl (j:=0) (by simp [back])) (.cons (j:=0) (by simp [back]) (rnl_plain (plain_flat cell_plain)) .nil) rfl ?_
    (repeat' (first|with_reducible apply And.intro|(refine go_app2 rfl (by first  | rfl) (by first|decide|omega) ⟨by omega,by omega⟩ ?_)|(refine goD_app2 rfl (by first  | rfl) (by first|decide|omega) ⟨by omega,by omega⟩ ?_)|(refine regD_quiet rfl ?_)|(refine regD_go rfl ?_)|exact chk_ok rfl|exact True.intro|(refine simx_Za7 ?_)|((first|rw [condS_d]|rw [condS_b]|simp only [simD]|rw [goG_b]|rw [goQG_b]|rw [goCG_b]|rw [goQCG_b]|rw [goDG_t]);with_reducible apply And.intro<;>with_reducible intro hsp<;>first|(exfalso;omega)|(try simp only [hsp,decide_true,decide_false,Bool.not_true,Bool.not_false]))|(refine dcall_pivot rfl rfl rfl rfl ?_)|with_reducible intro _|omega))
    refine ⟨merge1 L,[],⟨by omega,hms,by rw [mergeL_step hle2];exact hmL,by omega⟩,by dsimp only;omega,keeps_rn rfl,?_⟩
    dsimp only
    rw [hml]
    exact weak_of (oneOf_of rfl) (by exact wkz_Zg) (wko_plain (subH_of rfl) (by simp) rfl rfl (plain_flat cell_plain) wko_nil)
 ·have e:downM m=L:=by rw [← hmL];exact mergeL_stop (by omega)
  rw [e]
  exact fin_loc [] rfl (Nat.zero_le _) (oneOf_of rfl) (wk_sl rfl (by simp) rfl (by omega) (by omega)) (wko_plain (subH_of rfl) (by simp) rfl rfl (plain_flat cell_plain) wko_nil)
theorem frz_sl {P:Program} {α:Type} {f:α→List AV} {sz m:Nat} (hf:∀ x,(f x).length=sz) (hp:∀ c,∀ x ∈ f c,Plain x) {l:List α}:Weak P (rn []) [.sl 0 0 l.length l.length sz] ⟨[(0,.cells (flat f l))],m⟩ [.isl (l.map f)] ⟨[],0⟩:=by
 refine weak_of (fun i j o o' hi=>by cases hi) ⟨?_,trivial⟩ trivial
 refine wk_frz (cs:=flat f l) rfl (fun j o hj=>by cases hj) subH_nil (by simp) (fun e he=>?_) ?_ fun e he x hx=>?_
 ·obtain ⟨c,_,rfl⟩:=List.mem_map.1 he;exact hf c
 ·rw [List.drop_zero,List.take_of_length_le (by rw [flat_len hf];exact Nat.le_refl _)];rfl
 ·obtain ⟨c,_,rfl⟩:=List.mem_map.1 he;exact hp c x hx
theorem k_down (m:Nat) (hm:U64 m):PureC Tryd.prog G0 61 [.int .u64 m] (cutsA (downM m)):=by
 by_cases hz:(cutsM m).length=0
 ·refine pure_of hmix b61 plainG ⟨plain_int,trivial⟩ plain_cuts ?_
  rw [c61]
  have hl:=l_cuts m hm
  rw [hz,own_z,ownH_z hz] at hl
  (refine simx_Za2 ?_;try exact True.intro)
  refine goCall_loc [] hl plainG rfl .nil (rnl_plain (PlainL.all ⟨plain_int,trivial⟩)) (by simp) (rn_plain plain_nils) .nil rfl ?_
  (refine simx_Za2 ?_;try exact True.intro)
  refine loop_ix (ι:=Unit) (fun _=>(.undef :: .undef :: .nils :: .nils :: .undef :: .undef :: .undef :: .undef :: .undef :: .undef :: .undef :: .undef :: .undef :: .undef :: .undef :: .undef :: .undef :: .undef :: .undef :: .undef :: .undef :: .undef :: .undef :: .undef :: .undef :: .undef :: .undef :: .undef :: .undef :: .undef :: .undef :: .undef :: .undef :: .undef :: .undef :: .undef :: .undef :: .undef :: .undef :: .undef :: .undef :: .undef :: .undef :: .undef :: .undef :: .undef :: .undef :: .undef :: .undef :: .undef :: .undef :: .undef :: .undef :: .undef :: .undef :: .undef :: .undef :: .undef :: .undef :: .undef :: .undef :: .undef :: .undef :: .undef :: .undef :: .undef::[])) (fun _=>⟨[],1⟩) (fun _=>True) (fun _=>0) () [] rfl (fun _=>Nat.zero_le _) trivial (weak_of (oneOf_of rfl) ?_ wko_nil) fun _ _=>?_
  ·exact wkz_Zg
  (repeat' (first|with_reducible apply And.intro|(refine go_app2 rfl (by first  | rfl) (by first|decide|omega) ⟨by omega,by omega⟩ ?_)|(refine goD_app2 rfl (by first  | rfl) (by first|decide|omega) ⟨by omega,by omega⟩ ?_)|(refine regD_quiet rfl ?_)|(refine regD_go rfl ?_)|exact chk_ok rfl|exact True.intro|(refine simx_Za7 ?_)|((first|rw [condS_d]|rw [condS_b]|simp only [simD]|rw [goG_b]|rw [goQG_b]|rw [goCG_b]|rw [goQCG_b]|rw [goDG_t]);with_reducible apply And.intro<;>with_reducible intro hsp<;>first|(exfalso;omega)|(try simp only [hsp,decide_true,decide_false,Bool.not_true,Bool.not_false]))|(refine dcall_pivot rfl rfl rfl rfl ?_)|with_reducible intro _|omega))
  have e:downM m=[]:=by
   have:=List.eq_nil_of_length_eq_zero hz
   rw [downM,this];rfl
  rw [e]
  exact fin_nils rfl
 ·exact pure_of_loc (l_down m hm hz) plainG ⟨plain_int,trivial⟩ plain_cuts fun r h1 ⟨e1,e2⟩=>by subst e1;subst e2;exact frz_sl cut_len cell_plain
end Go.Proofs.YtkahmhmkhfllpaaDoor
