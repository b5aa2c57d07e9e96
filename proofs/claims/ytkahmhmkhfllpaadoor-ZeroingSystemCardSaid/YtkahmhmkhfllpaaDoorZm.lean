/-
 The reference's set.
-/
import Derived.Test.YtkahmhmkhfllpaaDoorZrC
set_option linter.unusedSimpArgs false
set_option linter.unusedVariables false
namespace Go.Pol
theorem mergeN_sep:∀ (n:Nat) (l:List Cut),Sep 0 l→Sep 0 (mergeN n l)
 | 0,_,h=>h
 | n+1,l,h=>by
  unfold mergeN
  split
  ·rename_i h4
   exact mergeN_sep n _ (merge_sep l 0 _ h (by have:=bestL_lt l (l.length - 1) (by omega);omega))
  ·exact h
theorem mergeL_sep {l:List Cut} (h:Sep 0 l):Sep 0 (mergeL l):=mergeN_sep _ _ h
theorem mergeN_length:∀ (n:Nat) (l:List Cut),(mergeN n l).length≤l.length
 | 0,_=>Nat.le_refl _
 | n+1,l=>by
  unfold mergeN
  split
  ·rename_i h4
   have:=mergeN_length n (merge1 l)
   rw [merge1_length h4] at this
   omega
  ·exact Nat.le_refl _
def goodP (p:Page):Prop:=p.2.length≤100∧∀ c ∈ p.2,badCut c=false
theorem good_sep {n:Int} {l:List Cut} (h:Sep 0 l) (hl:l.length≤64):goodP (n,l):=⟨by show l.length≤100;omega,fun c hc=>by
 have:=h.all c hc
 simp only [badCut,decide_eq_false_iff_not];omega⟩
theorem good_down {n:Int} {m:Nat→Bool}:goodP (n,mergeL (runs m 64)):=good_sep (mergeL_sep (runs_sep m)) (Nat.le_trans (mergeN_length _ _) (runs_length m 64))
theorem wFold_good {x:Page} (hx:goodP x):∀ (s:List Page),(∀ p ∈ s,goodP p)→(∀ p ∈ (wFold x s).1,goodP p)∧(wFold x s).1.length≤s.length+(if (wFold x s).2 then 1 else 0):=by
 intro s hs
 suffices h:∀ (s:List Page) (r:List Page × Bool),(∀ p ∈ s,goodP p)→(∀ p ∈ r.1,goodP p)→(∀ p ∈ (s.foldl (fun r p=>wTwo x (wOne x r p) p) r).1,goodP p)∧(r.2=true→(s.foldl (fun r p=>wTwo x (wOne x r p) p) r).2=true∧(s.foldl (fun r p=>wTwo x (wOne x r p) p) r).1.length≤r.1.length+s.length)∧(s.foldl (fun r p=>wTwo x (wOne x r p) p) r).1.length≤r.1.length+s.length+(if (s.foldl (fun r p=>wTwo x (wOne x r p) p) r).2 then 1 else 0) by
  have:=h s ([],decide (x.2.length=0)) hs (fun p hp=>by cases hp)
  exact ⟨this.1,by simpa [wFold] using this.2.2⟩
 intro s
 induction s with
 | nil=>intro r _ hr;exact ⟨hr,fun h=>⟨h,by simp⟩,by simp⟩
 | cons p s ih =>
  intro r hs hr
  rw [List.foldl_cons]
  have hp:=hs p (List.mem_cons_self ..)
  have hs':∀ q ∈ s,goodP q:=fun q hq=>hs q (List.mem_cons_of_mem _ hq)
  have ho:(∀ q ∈ (wOne x r p).1,goodP q):=by
   unfold wOne
   split
   ·intro q hq
    rcases List.mem_append.1 hq with h|h
    ·exact hr q h
    ·simp at h;subst h;exact hx
   ·exact hr
  have ht:(∀ q ∈ (wTwo x (wOne x r p) p).1,goodP q):=by
   unfold wTwo
   split
   ·exact ho
   ·intro q hq
    rcases List.mem_append.1 hq with h|h
    ·exact ho q h
    ·simp at h;subst h;exact hp
  obtain ⟨i1,i2,i3⟩:=ih _ hs' ht
  have l2:(wTwo x (wOne x r p) p).1.length≤(wOne x r p).1.length+1∧(wTwo x (wOne x r p) p).2=(wOne x r p).2:=by
   unfold wTwo;split<;>simp
  have l1:(r.2=true→(wOne x r p).1=r.1∧(wOne x r p).2=true)∧(wOne x r p).1.length≤r.1.length+1∧((wOne x r p).2=false→(wOne x r p).1=r.1):=by
   unfold wOne
   split
   ·rename_i h
    exact ⟨(fun h1=>by rw [h.1] at h1;cases h1),(by simp),(fun h1=>by cases h1)⟩
   ·exact ⟨fun h1=>⟨rfl,h1⟩,(by omega),fun _=>rfl⟩
  refine ⟨i1,fun h=>?_,?_⟩
  ·obtain ⟨e1,e2⟩:=l1.1 h
   obtain ⟨j1,j2⟩:=i2 (by rw [l2.2,e2])
   exact ⟨j1,by simp only [List.length_cons];rw [e1] at l2;omega⟩
  ·simp only [List.length_cons]
   cases hd:(wOne x r p).2 with
   | true =>
    obtain ⟨j1,j2⟩:=i2 (by rw [l2.2,hd])
    rw [j1,if_pos rfl]
    omega
   | false =>
    have e1:=l1.2.2 hd
    rw [e1] at l2
    omega
theorem withS_good {x:Page} (hx:goodP x) {s:List Page} (hs:∀ p ∈ s,goodP p):(∀ p ∈ withS s x,goodP p)∧(withS s x).length≤s.length+1:=by
 obtain ⟨h1,h2⟩:=wFold_good hx s hs
 unfold withS
 split
 ·rename_i h;rw [if_pos h] at h2;exact ⟨h1,h2⟩
 ·rename_i h
  rw [if_neg h] at h2
  refine ⟨fun p hp=>?_,by simp;omega⟩
  rcases List.mem_append.1 hp with h|h
  ·exact h1 p h
  ·simp at h;subst h;exact hx
def setB (f:Nat→Bool) (p:Nat) (a n:Int) (is:Bool):Nat→Bool:=fun b=>if a≤64 * (p:Int)+b∧64 * (p:Int)+b < a+n then is else f b
def setBk (f:Nat→Bool) (p:Nat) (a n:Int) (is:Bool) (k:Nat):Nat→Bool:=fun b=>if b < k∧a≤64 * (p:Int)+b∧64 * (p:Int)+b < a+n then is else f b
theorem setBk_zero (f:Nat→Bool) (p:Nat) (a n:Int) (is:Bool):setBk f p a n is 0=f:=by funext b;simp [setBk]
theorem setBk_yes {f:Nat→Bool} {p:Nat} {a n:Int} {is:Bool} {k:Nat} (h:a≤64 * (p:Int)+k∧64 * (p:Int)+k < a+n):updB (setBk f p a n is k) k is=setBk f p a n is (k+1):=by
 funext b
 simp only [updB,setBk]
 by_cases e:b=k
 ·subst e;rw [if_pos rfl,if_pos ⟨by omega,h⟩]
 ·rw [if_neg e]
  by_cases h2:b < k
  ·simp [h2,show b < k+1 by omega]
  ·simp [h2,show ¬ b < k+1 by omega]
theorem setBk_no {f:Nat→Bool} {p:Nat} {a n:Int} {is:Bool} {k:Nat} (h:¬ (a≤64 * (p:Int)+k∧64 * (p:Int)+k < a+n)):setBk f p a n is k=setBk f p a n is (k+1):=by
 funext b
 simp only [setBk]
 by_cases e:b=k
 ·subst e;rw [if_neg (by omega),if_neg (fun hh=>h hh.2)]
 ·by_cases h2:b < k
  ·simp [h2,show b < k+1 by omega]
  ·simp [h2,show ¬ b < k+1 by omega]
def setOne (a n:Int) (is:Bool) (s:List Page) (p:Nat):List Page:=withS s (p,mergeL (runs (setBk (marksS s p) p a n is 64) 64))
def setN (a n:Int) (is:Bool) (p0:Nat) (s:List Page):Nat→List Page
 | 0=>s
 | j+1=>setOne a n is (setN a n is p0 s j) (p0+j)
theorem setN_good {a n:Int} {is:Bool} {p0:Nat} {s:List Page} (hs:∀ p ∈ s,goodP p):∀ j,(∀ p ∈ setN a n is p0 s j,goodP p)∧(setN a n is p0 s j).length≤s.length+j
 | 0=>⟨hs,Nat.le_refl _⟩
 | j+1=>by
  obtain ⟨h1,h2⟩:=setN_good (a:=a) (n:=n) (is:=is) (p0:=p0) hs j
  obtain ⟨h3,h4⟩:=withS_good (x:=(((p0+j:Nat):Int),mergeL (runs (setBk (marksS (setN a n is p0 s j) ((p0+j:Nat):Int)) (p0+j) a n is 64) 64))) good_down h1
  exact ⟨h3,by show (withS _ _).length≤_;omega⟩
end Go.Pol
namespace Go.Proofs.YtkahmhmkhfllpaaDoor
open Go Go.Am Go.Pol
theorem wez_Zm {p:Prop} (h:p:=by (((try simp only [simK,List.set_cons_succ,List.set_cons_zero,List.contains_cons,List.contains_nil,Nat.reduceBEq,Nat.reduceAdd,Nat.zero_add,Bool.or_false,Bool.or_true,Bool.false_or,Bool.true_or,Bool.false_eq_true,reduceIte,if_true,if_false]);exact weak_of (oneOf_of rfl) wkz_Zk (by (repeat' (first|exact wko_nil|refine wko_plain (subH_of rfl) (by first|decide|omega|simp) rfl (by first|rfl) (by (first|with_reducible assumption|with_reducible apply marksA_plain _|with_reducible apply plain_flat cell_plain|with_reducible apply plain_flat plain_pagecells|with_reducible apply plain_map (fun _=>plain_int)|with_reducible apply plain_map (fun _=>plain_bool)|((repeat' (first|exact plain_all0|refine plain_all2 ?_ ?_|exact plain_int|first|assumption|exact plain_int|exact plain_bool|exact plain_undef|exact plain_nils|exact plain_nilp|exact plain_nilf|exact plain_str|with_reducible apply plain_cuts|with_reducible apply plain_cutsI|with_reducible apply plain_pages|with_reducible apply plain_state|with_reducible apply plain_pagesI|with_reducible apply plain_marksZ));done)|((refine plain_app ?_ ?_)<;>(first|with_reducible assumption|with_reducible apply marksA_plain _|with_reducible apply plain_flat cell_plain|with_reducible apply plain_flat plain_pagecells|with_reducible apply plain_map (fun _=>plain_int)|with_reducible apply plain_map (fun _=>plain_bool)|((repeat' (first|exact plain_all0|refine plain_all2 ?_ ?_|exact plain_int|first|assumption|exact plain_int|exact plain_bool|exact plain_undef|exact plain_nils|exact plain_nilp|exact plain_nilf|exact plain_str|with_reducible apply plain_cuts|with_reducible apply plain_cutsI|with_reducible apply plain_pages|with_reducible apply plain_state|with_reducible apply plain_pagesI|with_reducible apply plain_marksZ));done))))) ?_|refine wko_cells (by first|decide|omega|simp) rfl wkz_Zk ?_|refine wko_loop (by first|decide|omega|simp) rfl (by first|(rw [hF];exact wkz_Zk)|exact wkz_Zk) ?_))));first|done|fail)):p:=h
theorem simx_Zm0 {p q:Prop} (hq:q) (h:p=q:=by ((simp (config:={ maxSteps:=4000000 }) (disch:=first|(simp only [simC];done)|omega) only [simK,List.contains_cons,List.contains_nil,sim,simL,simQ,simS,simG,simV,simB,simE,ev_load,ev_store,ev_bslice,ev_build,ev_slA,ev_slS,ev_clear,ev_append,app_eq,app1_ite,src_sl,simA,d_nil,d_op,d_opG,goD_some,goD_ite,goD_iteN,goDG_s,Hp.appD,load_ptr,load_iptr,store_ptr,part_t,part_f,cells_lk,vals_nil,vals_cons,parts_nil,parts_cons,fillL,over,AV.flat,AV.one,AV.cells,pureR_ite,pureR_iteN,bind_ite,map_ite,ldR_ite,stR_ite,clR_ite,goS_ite,goS_iteN,goQ_ite,goQ_iteN,finN,finR,resVs,resV,packV,nchkV,faddrV,fldV,extV,lenV,Hp.app,hasKey,puts,put,List.any_cons,List.any_nil,Option.bind_some,Option.bind_none,Option.map_some,Option.map_none,List.getElem?_cons_succ,List.getElem?_cons_zero,List.set_cons_succ,List.set_cons_zero,List.cons_append,List.nil_append,List.append_nil,List.replicate,List.drop_zero,List.drop_succ_cons,List.take_succ_cons,List.take_zero,List.length_cons,List.length_nil,decide_eq_true_eq,decide_true,decide_false,pick_u1,pick_u2,pick_t1,pick_t2,decide_eq_false_iff_not,Bool.not_true,Bool.not_false,Bool.not_eq_true,Bool.true_eq_false,Bool.false_eq_true,reduceCtorEq,Nat.reduceAdd,Nat.reduceSub,Nat.reduceMul,Nat.reduceLeDiff,Nat.reduceLT,Nat.reduceEqDiff,Nat.reduceBEq,Nat.zero_add,Nat.add_zero,reduceIte,if_true,if_false,and_true,true_and,and_false,false_and,true_implies,false_implies,implies_true,not_true_eq_false,not_false_eq_true,beq_self_eq_true,Bool.or_false,Bool.or_true,Bool.false_or,Bool.true_or,IntWalk.i64_in,Int.toNat_natCast,toNat_succ,Q.o,Q.u,Q.gt,Q.gf,Q.K,Q.bk,Q.mk,Q.q,Q.m,Q.l,Q.la,Q.b,Q.c,Q.f,Q.po,Q.pa,Q.e,Q.n,Q.is,Q.ia,Q.bx,Q.ln,Q.s,put_own,put_ownA,put_ownN,put_ownM,cells_own,len_own,flat_own,cells_ownV,List.length_map,hq]);first|done|rfl)):p:=h▸hq
theorem simx_Zm1 {p q:Prop} (hq:q) (h:p=q:=by ((simp (config:={ maxSteps:=4000000 }) (disch:=first|(simp only [simC];done)|omega) only [simK,List.contains_cons,List.contains_nil,sim,simL,simQ,simS,simG,simV,simB,simE,ev_load,ev_store,ev_bslice,ev_build,ev_slA,ev_slS,ev_clear,ev_append,app_eq,app1_ite,src_sl,simA,d_nil,d_op,d_opG,goD_some,goD_ite,goD_iteN,goDG_s,Hp.appD,load_ptr,load_iptr,store_ptr,part_t,part_f,cells_lk,vals_nil,vals_cons,parts_nil,parts_cons,fillL,over,AV.flat,AV.one,AV.cells,pureR_ite,pureR_iteN,bind_ite,map_ite,ldR_ite,stR_ite,clR_ite,goS_ite,goS_iteN,goQ_ite,goQ_iteN,finN,finR,resVs,resV,packV,nchkV,faddrV,fldV,extV,lenV,Hp.app,hasKey,puts,put,List.any_cons,List.any_nil,Option.bind_some,Option.bind_none,Option.map_some,Option.map_none,List.getElem?_cons_succ,List.getElem?_cons_zero,List.set_cons_succ,List.set_cons_zero,List.cons_append,List.nil_append,List.append_nil,List.replicate,List.drop_zero,List.drop_succ_cons,List.take_succ_cons,List.take_zero,List.length_cons,List.length_nil,decide_eq_true_eq,decide_true,decide_false,pick_u1,pick_u2,pick_t1,pick_t2,decide_eq_false_iff_not,Bool.not_true,Bool.not_false,Bool.not_eq_true,Bool.true_eq_false,Bool.false_eq_true,reduceCtorEq,Nat.reduceAdd,Nat.reduceSub,Nat.reduceMul,Nat.reduceLeDiff,Nat.reduceLT,Nat.reduceEqDiff,Nat.reduceBEq,Nat.zero_add,Nat.add_zero,reduceIte,if_true,if_false,and_true,true_and,and_false,false_and,true_implies,false_implies,implies_true,not_true_eq_false,not_false_eq_true,beq_self_eq_true,Bool.or_false,Bool.or_true,Bool.false_or,Bool.true_or,IntWalk.i64_in,Int.toNat_natCast,toNat_succ,Q.o,Q.u,Q.gt,Q.gf,Q.K,Q.bk,Q.mk,Q.q,Q.m,Q.l,Q.la,Q.b,Q.c,Q.f,Q.po,Q.pa,Q.e,Q.n,Q.is,Q.ia,Q.bx,Q.ln,Q.s,put_own,put_ownA,put_ownN,put_ownM,cells_own,len_own,flat_own,cells_ownV,c1,c2,List.length_map,marksA_over,marksA_take,marksA_len]);first|done|rfl)):p:=h▸hq
theorem simx_Zm2 {p q:Prop} (hq:q) (h:p=q:=by ((simp (config:={ maxSteps:=4000000 }) (disch:=first|(simp only [simC];done)|omega) only [simK,List.contains_cons,List.contains_nil,sim,simL,simQ,simS,simG,simV,simB,simE,ev_load,ev_store,ev_bslice,ev_build,ev_slA,ev_slS,ev_clear,ev_append,app_eq,app1_ite,src_sl,simA,d_nil,d_op,d_opG,goD_some,goD_ite,goD_iteN,goDG_s,Hp.appD,load_ptr,load_iptr,store_ptr,part_t,part_f,cells_lk,vals_nil,vals_cons,parts_nil,parts_cons,fillL,over,AV.flat,AV.one,AV.cells,pureR_ite,pureR_iteN,bind_ite,map_ite,ldR_ite,stR_ite,clR_ite,goS_ite,goS_iteN,goQ_ite,goQ_iteN,finN,finR,resVs,resV,packV,nchkV,faddrV,fldV,extV,lenV,Hp.app,hasKey,puts,put,List.any_cons,List.any_nil,Option.bind_some,Option.bind_none,Option.map_some,Option.map_none,List.getElem?_cons_succ,List.getElem?_cons_zero,List.set_cons_succ,List.set_cons_zero,List.cons_append,List.nil_append,List.append_nil,List.replicate,List.drop_zero,List.drop_succ_cons,List.take_succ_cons,List.take_zero,List.length_cons,List.length_nil,decide_eq_true_eq,decide_true,decide_false,pick_u1,pick_u2,pick_t1,pick_t2,decide_eq_false_iff_not,Bool.not_true,Bool.not_false,Bool.not_eq_true,Bool.true_eq_false,Bool.false_eq_true,reduceCtorEq,Nat.reduceAdd,Nat.reduceSub,Nat.reduceMul,Nat.reduceLeDiff,Nat.reduceLT,Nat.reduceEqDiff,Nat.reduceBEq,Nat.zero_add,Nat.add_zero,reduceIte,if_true,if_false,and_true,true_and,and_false,false_and,true_implies,false_implies,implies_true,not_true_eq_false,not_false_eq_true,beq_self_eq_true,Bool.or_false,Bool.or_true,Bool.false_or,Bool.true_or,IntWalk.i64_in,Int.toNat_natCast,toNat_succ,Q.o,Q.u,Q.gt,Q.gf,Q.K,Q.bk,Q.mk,Q.q,Q.m,Q.l,Q.la,Q.b,Q.c,Q.f,Q.po,Q.pa,Q.e,Q.n,Q.is,Q.ia,Q.bx,Q.ln,Q.s,put_own,put_ownA,put_ownN,put_ownM,cells_own,len_own,flat_own,cells_ownV,c3,c4,c5,iaddrAV,marksA_len,Nat.mul_one,hfit,marksA_set,hset]);first|done|rfl)):p:=h▸hq
theorem simx_Zm3 {p q:Prop} (hq:q) (h:p=q:=by ((simp (config:={ maxSteps:=4000000 }) (disch:=first|(simp only [simC];done)|omega) only [simK,List.contains_cons,List.contains_nil,sim,simL,simQ,simS,simG,simV,simB,simE,ev_load,ev_store,ev_bslice,ev_build,ev_slA,ev_slS,ev_clear,ev_append,app_eq,app1_ite,src_sl,simA,d_nil,d_op,d_opG,goD_some,goD_ite,goD_iteN,goDG_s,Hp.appD,load_ptr,load_iptr,store_ptr,part_t,part_f,cells_lk,vals_nil,vals_cons,parts_nil,parts_cons,fillL,over,AV.flat,AV.one,AV.cells,pureR_ite,pureR_iteN,bind_ite,map_ite,ldR_ite,stR_ite,clR_ite,goS_ite,goS_iteN,goQ_ite,goQ_iteN,finN,finR,resVs,resV,packV,nchkV,faddrV,fldV,extV,lenV,Hp.app,hasKey,puts,put,List.any_cons,List.any_nil,Option.bind_some,Option.bind_none,Option.map_some,Option.map_none,List.getElem?_cons_succ,List.getElem?_cons_zero,List.set_cons_succ,List.set_cons_zero,List.cons_append,List.nil_append,List.append_nil,List.replicate,List.drop_zero,List.drop_succ_cons,List.take_succ_cons,List.take_zero,List.length_cons,List.length_nil,decide_eq_true_eq,decide_true,decide_false,pick_u1,pick_u2,pick_t1,pick_t2,decide_eq_false_iff_not,Bool.not_true,Bool.not_false,Bool.not_eq_true,Bool.true_eq_false,Bool.false_eq_true,reduceCtorEq,Nat.reduceAdd,Nat.reduceSub,Nat.reduceMul,Nat.reduceLeDiff,Nat.reduceLT,Nat.reduceEqDiff,Nat.reduceBEq,Nat.zero_add,Nat.add_zero,reduceIte,if_true,if_false,and_true,true_and,and_false,false_and,true_implies,false_implies,implies_true,not_true_eq_false,not_false_eq_true,beq_self_eq_true,Bool.or_false,Bool.or_true,Bool.false_or,Bool.true_or,IntWalk.i64_in,Int.toNat_natCast,toNat_succ,Q.o,Q.u,Q.gt,Q.gf,Q.K,Q.bk,Q.mk,Q.q,Q.m,Q.l,Q.la,Q.b,Q.c,Q.f,Q.po,Q.pa,Q.e,Q.n,Q.is,Q.ia,Q.bx,Q.ln,Q.s,put_own,put_ownA,put_ownN,put_ownM,cells_own,len_own,flat_own,cells_ownV,c3,iaddrAV,marksA_len,Nat.mul_one]);first|done|rfl)):p:=h▸hq
theorem simx_Zm4 {p q:Prop} (hq:q) (h:p=q:=by ((simp (config:={ maxSteps:=4000000 }) (disch:=first|(simp only [simC];done)|omega) only [simK,List.contains_cons,List.contains_nil,sim,simL,simQ,simS,simG,simV,simB,simE,ev_load,ev_store,ev_bslice,ev_build,ev_slA,ev_slS,ev_clear,ev_append,app_eq,app1_ite,src_sl,simA,d_nil,d_op,d_opG,goD_some,goD_ite,goD_iteN,goDG_s,Hp.appD,load_ptr,load_iptr,store_ptr,part_t,part_f,cells_lk,vals_nil,vals_cons,parts_nil,parts_cons,fillL,over,AV.flat,AV.one,AV.cells,pureR_ite,pureR_iteN,bind_ite,map_ite,ldR_ite,stR_ite,clR_ite,goS_ite,goS_iteN,goQ_ite,goQ_iteN,finN,finR,resVs,resV,packV,nchkV,faddrV,fldV,extV,lenV,Hp.app,hasKey,puts,put,List.any_cons,List.any_nil,Option.bind_some,Option.bind_none,Option.map_some,Option.map_none,List.getElem?_cons_succ,List.getElem?_cons_zero,List.set_cons_succ,List.set_cons_zero,List.cons_append,List.nil_append,List.append_nil,List.replicate,List.drop_zero,List.drop_succ_cons,List.take_succ_cons,List.take_zero,List.length_cons,List.length_nil,decide_eq_true_eq,decide_true,decide_false,pick_u1,pick_u2,pick_t1,pick_t2,decide_eq_false_iff_not,Bool.not_true,Bool.not_false,Bool.not_eq_true,Bool.true_eq_false,Bool.false_eq_true,reduceCtorEq,Nat.reduceAdd,Nat.reduceSub,Nat.reduceMul,Nat.reduceLeDiff,Nat.reduceLT,Nat.reduceEqDiff,Nat.reduceBEq,Nat.zero_add,Nat.add_zero,reduceIte,if_true,if_false,and_true,true_and,and_false,false_and,true_implies,false_implies,implies_true,not_true_eq_false,not_false_eq_true,beq_self_eq_true,Bool.or_false,Bool.or_true,Bool.false_or,Bool.true_or,IntWalk.i64_in,Int.toNat_natCast,toNat_succ,Q.o,Q.u,Q.gt,Q.gf,Q.K,Q.bk,Q.mk,Q.q,Q.m,Q.l,Q.la,Q.b,Q.c,Q.f,Q.po,Q.pa,Q.e,Q.n,Q.is,Q.ia,Q.bx,Q.ln,Q.s,put_own,put_ownA,put_ownN,put_ownM,cells_own,len_own,flat_own,cells_ownV,c3,marksA_take,marksA_len,List.length_map]);first|done|rfl)):p:=h▸hq
theorem simx_Zm5 {p q:Prop} (hq:q) (h:p=q:=by ((simp (config:={ maxSteps:=4000000 }) (disch:=first|(simp only [simC];done)|omega) only [simK,List.contains_cons,List.contains_nil,sim,simL,simQ,simS,simG,simV,simB,simE,ev_load,ev_store,ev_bslice,ev_build,ev_slA,ev_slS,ev_clear,ev_append,app_eq,app1_ite,src_sl,simA,d_nil,d_op,d_opG,goD_some,goD_ite,goD_iteN,goDG_s,Hp.appD,load_ptr,load_iptr,store_ptr,part_t,part_f,cells_lk,vals_nil,vals_cons,parts_nil,parts_cons,fillL,over,AV.flat,AV.one,AV.cells,pureR_ite,pureR_iteN,bind_ite,map_ite,ldR_ite,stR_ite,clR_ite,goS_ite,goS_iteN,goQ_ite,goQ_iteN,finN,finR,resVs,resV,packV,nchkV,faddrV,fldV,extV,lenV,Hp.app,hasKey,puts,put,List.any_cons,List.any_nil,Option.bind_some,Option.bind_none,Option.map_some,Option.map_none,List.getElem?_cons_succ,List.getElem?_cons_zero,List.set_cons_succ,List.set_cons_zero,List.cons_append,List.nil_append,List.append_nil,List.replicate,List.drop_zero,List.drop_succ_cons,List.take_succ_cons,List.take_zero,List.length_cons,List.length_nil,decide_eq_true_eq,decide_true,decide_false,pick_u1,pick_u2,pick_t1,pick_t2,decide_eq_false_iff_not,Bool.not_true,Bool.not_false,Bool.not_eq_true,Bool.true_eq_false,Bool.false_eq_true,reduceCtorEq,Nat.reduceAdd,Nat.reduceSub,Nat.reduceMul,Nat.reduceLeDiff,Nat.reduceLT,Nat.reduceEqDiff,Nat.reduceBEq,Nat.zero_add,Nat.add_zero,reduceIte,if_true,if_false,and_true,true_and,and_false,false_and,true_implies,false_implies,implies_true,not_true_eq_false,not_false_eq_true,beq_self_eq_true,Bool.or_false,Bool.or_true,Bool.false_or,Bool.true_or,IntWalk.i64_in,Int.toNat_natCast,toNat_succ,Q.o,Q.u,Q.gt,Q.gf,Q.K,Q.bk,Q.mk,Q.q,Q.m,Q.l,Q.la,Q.b,Q.c,Q.f,Q.po,Q.pa,Q.e,Q.n,Q.is,Q.ia,Q.bx,Q.ln,Q.s,put_own,put_ownA,put_ownN,put_ownM,cells_own,len_own,flat_own,cells_ownV,c2,List.length_map]);first|done|rfl)):p:=h▸hq
theorem simx_Zm6 {p q:Prop} (hq:q) (h:p=q:=by ((simp (config:={ maxSteps:=4000000 }) (disch:=first|(simp only [simC];done)|omega) only [simK,List.contains_cons,List.contains_nil,sim,simL,simQ,simS,simG,simV,simB,simE,ev_load,ev_store,ev_bslice,ev_build,ev_slA,ev_slS,ev_clear,ev_append,app_eq,app1_ite,src_sl,simA,d_nil,d_op,d_opG,goD_some,goD_ite,goD_iteN,goDG_s,Hp.appD,load_ptr,load_iptr,store_ptr,part_t,part_f,cells_lk,vals_nil,vals_cons,parts_nil,parts_cons,fillL,over,AV.flat,AV.one,AV.cells,pureR_ite,pureR_iteN,bind_ite,map_ite,ldR_ite,stR_ite,clR_ite,goS_ite,goS_iteN,goQ_ite,goQ_iteN,finN,finR,resVs,resV,packV,nchkV,faddrV,fldV,extV,lenV,Hp.app,hasKey,puts,put,List.any_cons,List.any_nil,Option.bind_some,Option.bind_none,Option.map_some,Option.map_none,List.getElem?_cons_succ,List.getElem?_cons_zero,List.set_cons_succ,List.set_cons_zero,List.cons_append,List.nil_append,List.append_nil,List.replicate,List.drop_zero,List.drop_succ_cons,List.take_succ_cons,List.take_zero,List.length_cons,List.length_nil,decide_eq_true_eq,decide_true,decide_false,pick_u1,pick_u2,pick_t1,pick_t2,decide_eq_false_iff_not,Bool.not_true,Bool.not_false,Bool.not_eq_true,Bool.true_eq_false,Bool.false_eq_true,reduceCtorEq,Nat.reduceAdd,Nat.reduceSub,Nat.reduceMul,Nat.reduceLeDiff,Nat.reduceLT,Nat.reduceEqDiff,Nat.reduceBEq,Nat.zero_add,Nat.add_zero,reduceIte,if_true,if_false,and_true,true_and,and_false,false_and,true_implies,false_implies,implies_true,not_true_eq_false,not_false_eq_true,beq_self_eq_true,Bool.or_false,Bool.or_true,Bool.false_or,Bool.true_or,IntWalk.i64_in,Int.toNat_natCast,toNat_succ,Q.o,Q.u,Q.gt,Q.gf,Q.K,Q.bk,Q.mk,Q.q,Q.m,Q.l,Q.la,Q.b,Q.c,Q.f,Q.po,Q.pa,Q.e,Q.n,Q.is,Q.ia,Q.bx,Q.ln,Q.s,put_own,put_ownA,put_ownN,put_ownM,cells_own,len_own,flat_own,cells_ownV,List.length_map,h0]);first|done|rfl)):p:=h▸hq
def lastPg (a n:Int):Nat:=((a+n+63) / 64).toNat
def refSet (s:List Page) (a n:Int) (is:Bool):List Page:=setN a n is (a / 64).toNat s (lastPg a n - (a / 64).toNat)
set_option maxHeartbeats 1600000 in
set_option maxRecDepth 20000 in
theorem k_set (s:List Page) (a n:Int) (is:Bool) (hs:s.length≤1100) (hc:∀ p ∈ s,p.2.length≤100) (hok:askM s a n=0→s.length≤900∧(∀ p ∈ s,goodP p)∧0≤a∧0≤n∧a+n≤65536) :
  PureC Tryd.prog G0 54 [stateA s,.int .i64 a,.int .i64 n,.bool is] (.tup [if askM s a n=0 then stateA (refSet s a n is) else stateA [],.int .i64 (askM s a n)]):=by
 refine pure_of hmix b54 plainG ⟨plain_state,plain_int,plain_int,plain_bool,trivial⟩ (plain_tup (plain_two (by split<;>exact plain_state) plain_int)) ?_
 rw [c54,marksA_false]
 by_cases h0:askM s a n=0
 ·obtain ⟨hs9,hg,ha,hn,han⟩:=hok h0
  have hka:=k_asked s a n (by omega) hc
  rw [if_pos h0,h0] at *
  obtain ⟨A,rfl⟩:=Int.eq_ofNat_of_zero_le ha
  obtain ⟨M,rfl⟩:=Int.eq_ofNat_of_zero_le hn
  simp only [stateA,pagesA] at hka ⊢
  have hq:IntKind.i64.wrap ((A:Int).tdiv 64)=((A / 64:Nat):Int):=by
   rw [Int.tdiv_eq_ediv_of_nonneg (by omega),IntWalk.i64_in _ (by omega)];omega
  have hlast:lastPg (A:Int) (M:Int)=(A+M+63) / 64:=by unfold lastPg;omega
  have hp0:((A:Int) / 64).toNat=A / 64:=by omega
  have hR:refSet s (A:Int) (M:Int) is=setN A M is (A / 64) s ((A+M+63) / 64 - A / 64):=by unfold refSet;rw [hlast,hp0]
  rw [hR]
  generalize hP0:A / 64=p0 at *
  generalize hJ:(A+M+63) / 64 - p0=J at *
  clear hR hlast hp0
  (repeat' (first|with_reducible apply And.intro|refine goCall_pure (hka) ?_|refine goQCall_pure (hka) ?_|refine dcall_pure rfl rfl rfl (hka) ?_|refine goDCall_pure (hka) ?_|(refine go_app2 rfl (by first  | rfl) (by first|decide|omega) ⟨by omega,by omega⟩ ?_)|(refine goD_app2 rfl (by first  | rfl) (by first|decide|omega) ⟨by omega,by omega⟩ ?_)|(refine regD_quiet rfl ?_)|(refine regD_go rfl ?_)|exact chk_ok rfl|exact True.intro|(refine simx_Zm0 ?_)|((first|rw [condS_d]|rw [condS_b]|simp only [simD]|rw [goG_b]|rw [goQG_b]|rw [goCG_b]|rw [goQCG_b]|rw [goDG_t]);with_reducible apply And.intro<;>with_reducible intro hsp<;>first|(exfalso;omega)|(try simp only [hsp,decide_true,decide_false,Bool.not_true,Bool.not_false]))|(refine dcall_pivot rfl rfl rfl rfl ?_)|with_reducible intro _|omega))
  (refine loop_up [1,2,3,4,8,11] (fun (j:Nat)=>[(11,.int .i64 ((p0:Int)+(j:Nat)))]) (fun (j:Nat)=>⟨[(0,.cells [.isl ((setN A M is p0 s j).map pageA)]),(1,.cells [.nils])],2⟩) (fun (j:Nat)=>j≤J) (fun (j:Nat)=>J - j) (0) [] rfl (fun _=>by first|exact Nat.zero_le _|(dsimp only;omega)) ?_ (by (exact wez_Zm)) ?_)
  ·exact Nat.zero_le _
  intro j hj
  obtain ⟨hg2,hl2⟩:=setN_good (a:=(A:Int)) (n:=(M:Int)) (is:=is) (p0:=p0) hg j
  by_cases hjJ:j < J
  ·have c1:(p0:Int)+j < 1024:=by omega
   have c2:((p0:Int)+j) * 64 < A+M:=by omega
   have hnext:setN A M is p0 s (j+1)=setOne A M is (setN A M is p0 s j) (p0+j):=rfl
   generalize setN A M is p0 s j=T at *
   have hkm:=k_marksZ T ((p0:Int)+j) (by omega) hg2
   have hkw:=fun f=>k_with T ((p0:Int)+j) f (by omega)
   simp only [stateA,pagesA] at hkm hkw
   have hcast:((p0+j:Nat):Int)=(p0:Int)+j:=by omega
   (repeat' (first|with_reducible apply And.intro|refine goCall_pure (hkm) ?_|refine goQCall_pure (hkm) ?_|refine dcall_pure rfl rfl rfl (hkm) ?_|refine goDCall_pure (hkm) ?_|(refine go_app2 rfl (by first  | rfl) (by first|decide|omega) ⟨by omega,by omega⟩ ?_)|(refine goD_app2 rfl (by first  | rfl) (by first|decide|omega) ⟨by omega,by omega⟩ ?_)|(refine regD_quiet rfl ?_)|(refine regD_go rfl ?_)|exact chk_ok rfl|exact True.intro|(refine simx_Zm1 ?_)|((first|rw [condS_d]|rw [condS_b]|simp only [simD]|rw [goG_b]|rw [goQG_b]|rw [goCG_b]|rw [goQCG_b]|rw [goDG_t]);with_reducible apply And.intro<;>with_reducible intro hsp<;>first|(exfalso;omega)|(try simp only [hsp,decide_true,decide_false,Bool.not_true,Bool.not_false]))|(refine dcall_pivot rfl rfl rfl rfl ?_)|with_reducible intro _|omega))
   (refine loop_up [1,2,3,4,8,11,12,13] (fun (b:Nat)=>[(13,.int .i64 (b:Nat))]) (fun (b:Nat)=>⟨[(0,.cells [.isl (T.map pageA)]),(1,.cells [.nils]),(2,.cells (marksA (setBk (marksS T ((p0:Int)+j)) (p0+j) A M is b)))],3⟩) (fun (b:Nat)=>b≤64) (fun (b:Nat)=>64 - b) (0) [] rfl (fun _=>by first|exact Nat.zero_le _|(dsimp only;omega)) ?_ (by rw [setBk_zero];(exact wez_Zm)) ?_)
   ·exact Nat.zero_le _
   intro b hb
   by_cases hb64:b < 64
   ·have c3:(b:Int) < 64:=by omega
    by_cases hin:(A:Int)≤64 * ((p0+j:Nat):Int)+b∧64 * ((p0+j:Nat):Int)+b < A+M
    ·have c4:((p0:Int)+j) * 64+b ≥ A:=by omega
     have c5:((p0:Int)+j) * 64+b < A+M:=by omega
     have hset:=setBk_yes (f:=marksS T ((p0:Int)+j)) (is:=is) hin
     have hfit:b+1≤64:=by omega
     (repeat' (first|with_reducible apply And.intro|(refine go_app2 rfl (by first  | rfl) (by first|decide|omega) ⟨by omega,by omega⟩ ?_)|(refine goD_app2 rfl (by first  | rfl) (by first|decide|omega) ⟨by omega,by omega⟩ ?_)|(refine regD_quiet rfl ?_)|(refine regD_go rfl ?_)|exact chk_ok rfl|exact True.intro|(refine simx_Zm2 ?_)|((first|rw [condS_d]|rw [condS_b]|simp only [simD]|rw [goG_b]|rw [goQG_b]|rw [goCG_b]|rw [goQCG_b]|rw [goDG_t]);with_reducible apply And.intro<;>with_reducible intro hsp<;>first|(exfalso;omega)|(try simp only [hsp,decide_true,decide_false,Bool.not_true,Bool.not_false]))|(refine dcall_pivot rfl rfl rfl rfl ?_)|with_reducible intro _|omega))
     all_goals exact ⟨b+1,[],by omega,(by dsimp only;omega),keeps_rn rfl,(by (exact wez_Zm))⟩
    ·have hset:=setBk_no (f:=marksS T ((p0:Int)+j)) (is:=is) hin
     (repeat' (first|with_reducible apply And.intro|(refine go_app2 rfl (by first  | rfl) (by first|decide|omega) ⟨by omega,by omega⟩ ?_)|(refine goD_app2 rfl (by first  | rfl) (by first|decide|omega) ⟨by omega,by omega⟩ ?_)|(refine regD_quiet rfl ?_)|(refine regD_go rfl ?_)|exact chk_ok rfl|exact True.intro|(refine simx_Zm3 ?_)|((first|rw [condS_d]|rw [condS_b]|simp only [simD]|rw [goG_b]|rw [goQG_b]|rw [goCG_b]|rw [goQCG_b]|rw [goDG_t]);with_reducible apply And.intro<;>with_reducible intro hsp<;>first|(exfalso;omega)|(try simp only [hsp,decide_true,decide_false,Bool.not_true,Bool.not_false]))|(refine dcall_pivot rfl rfl rfl rfl ?_)|with_reducible intro _|omega))
     all_goals first|(exfalso;omega)|skip
     all_goals rw [hset]
     all_goals exact ⟨b+1,[],by omega,(by dsimp only;omega),keeps_rn rfl,(by (exact wez_Zm))⟩
   ·have c3:¬ ((b:Int) < 64):=by omega
    obtain rfl:b=64:=by omega
    (repeat' (first|with_reducible apply And.intro|refine goCall_pure (hkw _) ?_|refine goQCall_pure (hkw _) ?_|refine dcall_pure rfl rfl rfl (hkw _) ?_|refine goDCall_pure (hkw _) ?_|(refine go_app2 rfl (by first  | rfl) (by first|decide|omega) ⟨by omega,by omega⟩ ?_)|(refine goD_app2 rfl (by first  | rfl) (by first|decide|omega) ⟨by omega,by omega⟩ ?_)|(refine regD_quiet rfl ?_)|(refine regD_go rfl ?_)|exact chk_ok rfl|exact True.intro|(refine simx_Zm4 ?_)|((first|rw [condS_d]|rw [condS_b]|simp only [simD]|rw [goG_b]|rw [goQG_b]|rw [goCG_b]|rw [goQCG_b]|rw [goDG_t]);with_reducible apply And.intro<;>with_reducible intro hsp<;>first|(exfalso;omega)|(try simp only [hsp,decide_true,decide_false,Bool.not_true,Bool.not_false]))|(refine dcall_pivot rfl rfl rfl rfl ?_)|with_reducible intro _|omega))
    refine ⟨j+1,[],by omega,by dsimp only;omega,keeps_rn rfl,?_⟩
    dsimp only
    rw [hnext,setOne,hcast]
    (exact wez_Zm)
  ·have c2:¬ (((p0:Int)+j) * 64 < A+M):=by omega
   obtain rfl:j=J:=by omega
   (repeat' (first|with_reducible apply And.intro|(refine go_app2 rfl (by first  | rfl) (by first|decide|omega) ⟨by omega,by omega⟩ ?_)|(refine goD_app2 rfl (by first  | rfl) (by first|decide|omega) ⟨by omega,by omega⟩ ?_)|(refine regD_quiet rfl ?_)|(refine regD_go rfl ?_)|exact chk_ok rfl|exact True.intro|(refine simx_Zm5 ?_)|((first|rw [condS_d]|rw [condS_b]|simp only [simD]|rw [goG_b]|rw [goQG_b]|rw [goCG_b]|rw [goQCG_b]|rw [goDG_t]);with_reducible apply And.intro<;>with_reducible intro hsp<;>first|(exfalso;omega)|(try simp only [hsp,decide_true,decide_false,Bool.not_true,Bool.not_false]))|(refine dcall_pivot rfl rfl rfl rfl ?_)|with_reducible intro _|omega))
   all_goals exact fin_many (wk_tup ⟨wk_agg ⟨wk_plain subH_nil plain_pagesI,trivial⟩,wk_int rfl,trivial⟩)
 ·have hka:=k_asked s a n (by omega) hc
  rw [if_neg h0] at *
  simp only [stateA,pagesA] at hka ⊢
  (repeat' (first|with_reducible apply And.intro|refine goCall_pure (hka) ?_|refine goQCall_pure (hka) ?_|refine dcall_pure rfl rfl rfl (hka) ?_|refine goDCall_pure (hka) ?_|(refine go_app2 rfl (by first  | rfl) (by first|decide|omega) ⟨by omega,by omega⟩ ?_)|(refine goD_app2 rfl (by first  | rfl) (by first|decide|omega) ⟨by omega,by omega⟩ ?_)|(refine regD_quiet rfl ?_)|(refine regD_go rfl ?_)|exact chk_ok rfl|exact True.intro|(refine simx_Zm6 ?_)|((first|rw [condS_d]|rw [condS_b]|simp only [simD]|rw [goG_b]|rw [goQG_b]|rw [goCG_b]|rw [goQCG_b]|rw [goDG_t]);with_reducible apply And.intro<;>with_reducible intro hsp<;>first|(exfalso;omega)|(try simp only [hsp,decide_true,decide_false,Bool.not_true,Bool.not_false]))|(refine dcall_pivot rfl rfl rfl rfl ?_)|with_reducible intro _|omega))
  exact fin_many (wk_tup ⟨wk_agg ⟨wk_nils,trivial⟩,wk_int rfl,trivial⟩)
end Go.Proofs.YtkahmhmkhfllpaaDoor
