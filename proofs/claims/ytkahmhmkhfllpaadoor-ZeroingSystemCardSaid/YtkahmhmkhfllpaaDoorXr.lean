/-
 polderref15.Zeroed;its plain law.
-/
import Derived.Test.YtkahmhmkhfllpaaDoorZm
import Derived.Test.YtkahmhmkhfllpaaDoorZrD
set_option linter.unusedSimpArgs false
set_option linter.unusedVariables false
namespace Go.Pol
theorem wOne_yes {x p:Page} {L:List Page} (h:x.1≤p.1):wOne x (L,false) p=(L++[x],true):=if_pos ⟨rfl,h⟩
theorem wOne_no {x p:Page} {L:List Page} (h:¬ x.1≤p.1):wOne x (L,false) p=(L,false):=if_neg fun hh=>h hh.2
theorem wOne_done {x p:Page} {L:List Page}:wOne x (L,true) p=(L,true):=if_neg fun hh=>by cases hh.1
theorem wTwo_same {x p:Page} {L:List Page} {b:Bool} (h:p.1=x.1):wTwo x (L,b) p=(L,b):=if_pos h
theorem wTwo_other {x p:Page} {L:List Page} {b:Bool} (h:¬ p.1=x.1):wTwo x (L,b) p=(L++[p],b):=if_neg h
theorem wFold_stC {c:Nat→List Cut} {p:Nat} {l:List Cut} (hl:l ≠ []):∀ n,((∀ k,p≤k→k < n→c k=[])∧wFold ((p:Int),l) (stC c n)=(stC (updC c p []) n,false))∨(p < n∧wFold ((p:Int),l) (stC c n)=(stC (updC c p l) n,true))
 | 0=>.inl ⟨fun k h1 h2=>by omega,by simp [stC,wFold,hl]⟩
 | n+1=>by
  by_cases h0:c n=[]
  ·rcases wFold_stC hl n with ⟨h1,h2⟩ | ⟨h1,h2⟩
   ·refine .inl ⟨fun k g1 g2=>?_,?_⟩
    ·by_cases e:k=n
     ·rw [e];exact h0
     ·exact h1 k g1 (by omega)
    ·have : updC c p [] n=[]:=by unfold updC;split;rfl;exact h0
     rw [stC,if_pos h0,h2,stC,if_pos this]
   ·refine .inr ⟨by omega,?_⟩
    have : updC c p l n=[]:=by unfold updC;rw [if_neg (by omega)];exact h0
    rw [stC,if_pos h0,h2,stC,if_pos this]
  ·rw [stC,if_neg h0,wFold_snoc]
   rcases wFold_stC hl n with ⟨h1,h2⟩ | ⟨h1,h2⟩
   ·rw [h2]
    by_cases hnp:n < p
    ·refine .inl ⟨fun k g1 g2=>by omega,?_⟩
     have : updC c p [] n=c n:=if_neg (by omega)
     rw [stC,this,if_neg h0,wOne_no (by dsimp only;omega),wTwo_other (by dsimp only;omega)]
    ·refine .inr ⟨by omega,?_⟩
     rw [wOne_yes (by dsimp only;omega)]
     by_cases e:n=p
     ·subst e
      rw [wTwo_same (show ((n:Int),c n).1=((n:Int),l).1 from rfl),stC,show updC c n l n=l from if_pos rfl,if_neg hl]
      rw [stC_congr (c:=updC c n []) (d:=updC c n l) n fun k hk=>by unfold updC;rw [if_neg (by omega),if_neg (by omega)]]
     ·rw [wTwo_other (by dsimp only;omega),stC,show updC c p l n=c n from if_neg e,if_neg h0,stC_over hl n (by omega) h1]
   ·rw [h2]
    refine .inr ⟨by omega,?_⟩
    have : updC c p l n=c n:=if_neg (by omega)
    rw [wOne_done,wTwo_other (by dsimp only;omega),stC,this,if_neg h0]
theorem wFold_nil {c:Nat→List Cut} {p:Nat}:∀ n,wFold ((p:Int),[]) (stC c n)=(stC (updC c p []) n,true)
 | 0=>by simp [stC,wFold]
 | n+1=>by
  by_cases h0:c n=[]
  ·have : updC c p [] n=[]:=by unfold updC;split;rfl;exact h0
   rw [stC,if_pos h0,wFold_nil n,stC,if_pos this]
  ·rw [stC,if_neg h0,wFold_snoc,wFold_nil n]
   rw [wOne_done]
   by_cases e:n=p
   ·subst e
    rw [wTwo_same (show ((n:Int),c n).1=((n:Int),([]:List Cut)).1 from rfl),stC,show updC c n [] n=[] from if_pos rfl,if_pos rfl]
   ·rw [wTwo_other (by dsimp only;omega),stC,show updC c p [] n=c n from if_neg e,if_neg h0]
theorem withS_stC {c:Nat→List Cut} {p:Nat} {l:List Cut} {n:Nat} (hp:p < n):withS (stC c n) ((p:Int),l)=stC (updC c p l) n:=by
 unfold withS
 by_cases hl:l=[]
 ·subst hl;rw [wFold_nil];rfl
 ·rcases wFold_stC hl n with ⟨h1,h2⟩ | ⟨h1,h2⟩
  ·rw [h2];simp only [Bool.false_eq_true,if_false];exact (stC_over hl n hp h1).symm
  ·rw [h2];rfl
theorem marksP_in:∀ (l:List Cut) (f:Nat→Bool) (b:Nat),marksP f l b=(f b || inCuts l b)
 | [],f,b=>by simp [marksP,inCuts]
 | c::l,f,b=>by
  show marksP (orCut f c) l b=_
  rw [marksP_in l,orCut,Bool.or_assoc]
  rfl
theorem marksS_stC {c:Nat→List Cut} {p:Nat}:∀ n,marksS (stC c n) (p:Int)=if p < n then marksP (fun _=>false) (c p) else fun _=>false
 | 0=>by rw [if_neg (by omega)];rfl
 | n+1=>by
  rw [stC]
  by_cases h0:c n=[]
  ·rw [if_pos h0,marksS_stC n]
   by_cases e:p=n
   ·subst e;rw [if_neg (by omega),if_pos (by omega),h0];rfl
   ·by_cases h:p < n
    ·rw [if_pos h,if_pos (by omega)]
    ·rw [if_neg h,if_neg (by omega)]
  ·rw [if_neg h0,marksS_snoc,marksS_stC n]
   by_cases e:p=n
   ·subst e;rw [if_pos rfl,if_neg (by omega),if_pos (by omega)]
   ·rw [if_neg (by omega)]
    by_cases h:p < n
    ·rw [if_pos h,if_pos (by omega)]
    ·rw [if_neg h,if_neg (by omega)]
theorem setN_stC {a n:Int} {is:Bool} {p0:Nat} {c:Nat→List Cut}:∀ j,p0+j≤1024→setN a n is p0 (stC c 1024) j=stC (fun k=>if p0≤k∧k < p0+j then mergeL (runs (setBk (marksP (fun _=>false) (c k)) k a n is 64) 64) else c k) 1024
 | 0,_=>by
  show stC c 1024=_
  exact stC_congr _ fun k _=>by rw [if_neg (by omega)]
 | j+1,hj=>by
  rw [setN,setN_stC j (by omega),setOne,marksS_stC,if_pos (by omega),if_neg (by omega),withS_stC (by omega)]
  refine stC_congr _ fun k _=>?_
  unfold updC
  by_cases e:k=p0+j
  ·subst e;rw [if_pos rfl,if_pos ⟨by omega,by omega⟩]
  ·rw [if_neg e]
   dsimp only
   by_cases h:p0≤k∧k < p0+j
   ·rw [if_pos h,if_pos ⟨h.1,by omega⟩]
   ·rw [if_neg h,if_neg (by omega)]
end Go.Pol
namespace Go.Proofs.YtkahmhmkhfllpaaDoor
open Go Go.Am Go.Pol
theorem turn_ref {op:Nat→Nat→Nat} {is:Bool} (hop:BitOp op is) {s:List Page} {a n:Int} (hs:Go.Pol.Can (-1) s) (ha:0≤a) (hn:0≤n) (han:a+n≤65536):stateM (turnM op (openM s) a.toNat n.toNat) 1024=refSet s a n is:=by
 obtain ⟨A,rfl⟩:=Int.eq_ofNat_of_zero_le ha
 obtain ⟨B,rfl⟩:=Int.eq_ofNat_of_zero_le hn
 simp only [Int.toNat_natCast]
 have hc:=can_cuts hs
 have key:stateM (turnM op (openM (stC (cutsIn s) 1024)) A B) 1024=refSet (stC (cutsIn s) 1024) A B is:=by
  generalize cutsIn s=c at hc
  have hU:∀ k,U64 (openM (stC c 1024) k):=fun k=>by
   rw [openM_stC]
   split
   ·exact sep_u64 (hc k).1
   ·exact (by decide:(0:Nat) < 18446744073709551616)
  obtain ⟨t1,t2⟩:=turn_bits hop B A _ hU
  have hl:lastPg (A:Int) (B:Int)=(A+B+63) / 64:=by unfold lastPg;omega
  have hp0:((A:Int) / 64).toNat=A / 64:=by omega
  unfold refSet
  rw [hl,hp0,setN_stC _ (by omega),stateM_stC t1]
  refine stC_congr _ fun k hk=>?_
  have hbit:∀ b,b < 64→(turnM op (openM (stC c 1024)) A B k).testBit b=if A≤64 * k+b∧64 * k+b < A+B then is else inCuts (c k) b:=fun b hb=>by
   rw [t2 k b hb,openM_stC,if_pos hk,unionM_bit _ fun d hd=>by have:=(hc k).1.all d hd;omega]
  show mergeL (runs (turnM op (openM (stC c 1024)) A B k).testBit 64)=_
  by_cases h:A / 64≤k∧k < A / 64+((A+B+63) / 64 - A / 64)
  ·rw [if_pos h]
   congr 1
   refine runs_congr 64 fun b hb=>?_
   rw [hbit b hb]
   simp only [setBk,marksP_in,Bool.false_or]
   by_cases h1:A≤64 * k+b∧64 * k+b < A+B
   ·rw [if_pos h1,if_pos ⟨hb,by omega⟩]
   ·rw [if_neg h1,if_neg (fun hh=>h1 (by omega))]
  ·rw [if_neg h,runs_congr (m':=inCuts (c k)) 64 fun b hb=>by rw [hbit b hb,if_neg (by omega)],sep_runs (hc k).1]
   exact mergeL_four (hc k).2
 rwa [can_stC hs] at key
theorem simx_Xr0 {p q:Prop} (hq:q) (h:p=q:=by ((simp (config:={ maxSteps:=4000000 }) (disch:=first|(simp only [simC];done)|omega) only [simK,List.contains_cons,List.contains_nil,sim,simL,simQ,simS,simG,simV,simB,simE,ev_load,ev_store,ev_bslice,ev_build,ev_slA,ev_slS,ev_clear,ev_append,app_eq,app1_ite,src_sl,simA,d_nil,d_op,d_opG,goD_some,goD_ite,goD_iteN,goDG_s,Hp.appD,load_ptr,load_iptr,store_ptr,part_t,part_f,cells_lk,vals_nil,vals_cons,parts_nil,parts_cons,fillL,over,AV.flat,AV.one,AV.cells,pureR_ite,pureR_iteN,bind_ite,map_ite,ldR_ite,stR_ite,clR_ite,goS_ite,goS_iteN,goQ_ite,goQ_iteN,finN,finR,resVs,resV,packV,nchkV,faddrV,fldV,extV,lenV,Hp.app,hasKey,puts,put,List.any_cons,List.any_nil,Option.bind_some,Option.bind_none,Option.map_some,Option.map_none,List.getElem?_cons_succ,List.getElem?_cons_zero,List.set_cons_succ,List.set_cons_zero,List.cons_append,List.nil_append,List.append_nil,List.replicate,List.drop_zero,List.drop_succ_cons,List.take_succ_cons,List.take_zero,List.length_cons,List.length_nil,decide_eq_true_eq,decide_true,decide_false,pick_u1,pick_u2,pick_t1,pick_t2,decide_eq_false_iff_not,Bool.not_true,Bool.not_false,Bool.not_eq_true,Bool.true_eq_false,Bool.false_eq_true,reduceCtorEq,Nat.reduceAdd,Nat.reduceSub,Nat.reduceMul,Nat.reduceLeDiff,Nat.reduceLT,Nat.reduceEqDiff,Nat.reduceBEq,Nat.zero_add,Nat.add_zero,reduceIte,if_true,if_false,and_true,true_and,and_false,false_and,true_implies,false_implies,implies_true,not_true_eq_false,not_false_eq_true,beq_self_eq_true,Bool.or_false,Bool.or_true,Bool.false_or,Bool.true_or,IntWalk.i64_in,Int.toNat_natCast,toNat_succ,Q.o,Q.u,Q.gt,Q.gf,Q.K,Q.bk,Q.mk,Q.q,Q.m,Q.l,Q.la,Q.b,Q.c,Q.f,Q.po,Q.pa,Q.e,Q.n,Q.is,Q.ia,Q.bx,Q.ln,Q.s,put_own,put_ownA,put_ownN,put_ownM,cells_own,len_own,flat_own,cells_ownV]);first|done|rfl)):p:=h▸hq
theorem k_rzeroed (s:List Page) (a n:Int) (hs:s.length≤1100) (hc:∀ p ∈ s,p.2.length≤100) (hok:askM s a n=0→s.length≤900∧(∀ p ∈ s,goodP p)∧0≤a∧0≤n∧a+n≤65536) :
  PureC Tryd.prog G0 34 [stateA s,.int .i64 a,.int .i64 n] (.tup [if askM s a n=0 then stateA (refSet s a n false) else stateA [],.int .i64 (askM s a n)]):=by
 refine pure_of hmix b34 plainG ⟨plain_state,plain_int,plain_int,trivial⟩ (plain_tup (plain_two (by split<;>exact plain_state) plain_int)) ?_
 have hk:=k_set s a n false hs hc hok
 rw [c34]
 by_cases h0:askM s a n=0
 ·rw [if_pos h0] at *
  simp only [stateA,pagesA] at hk ⊢
  (repeat' (first|with_reducible apply And.intro|refine goCall_pure (hk) ?_|refine goQCall_pure (hk) ?_|refine dcall_pure rfl rfl rfl (hk) ?_|refine goDCall_pure (hk) ?_|(refine go_app2 rfl (by first  | rfl) (by first|decide|omega) ⟨by omega,by omega⟩ ?_)|(refine goD_app2 rfl (by first  | rfl) (by first|decide|omega) ⟨by omega,by omega⟩ ?_)|(refine regD_quiet rfl ?_)|(refine regD_go rfl ?_)|exact chk_ok rfl|exact True.intro|(refine simx_Xr0 ?_)|((first|rw [condS_d]|rw [condS_b]|simp only [simD]|rw [goG_b]|rw [goQG_b]|rw [goCG_b]|rw [goQCG_b]|rw [goDG_t]);with_reducible apply And.intro<;>with_reducible intro hsp<;>first|(exfalso;omega)|(try simp only [hsp,decide_true,decide_false,Bool.not_true,Bool.not_false]))|(refine dcall_pivot rfl rfl rfl rfl ?_)|with_reducible intro _|omega))
  exact fin_many (wk_tup ⟨wk_agg ⟨wk_plain subH_nil plain_pagesI,trivial⟩,wk_int rfl,trivial⟩)
 ·rw [if_neg h0] at *
  simp only [stateA,pagesA] at hk ⊢
  (repeat' (first|with_reducible apply And.intro|refine goCall_pure (hk) ?_|refine goQCall_pure (hk) ?_|refine dcall_pure rfl rfl rfl (hk) ?_|refine goDCall_pure (hk) ?_|(refine go_app2 rfl (by first  | rfl) (by first|decide|omega) ⟨by omega,by omega⟩ ?_)|(refine goD_app2 rfl (by first  | rfl) (by first|decide|omega) ⟨by omega,by omega⟩ ?_)|(refine regD_quiet rfl ?_)|(refine regD_go rfl ?_)|exact chk_ok rfl|exact True.intro|(refine simx_Xr0 ?_)|((first|rw [condS_d]|rw [condS_b]|simp only [simD]|rw [goG_b]|rw [goQG_b]|rw [goCG_b]|rw [goQCG_b]|rw [goDG_t]);with_reducible apply And.intro<;>with_reducible intro hsp<;>first|(exfalso;omega)|(try simp only [hsp,decide_true,decide_false,Bool.not_true,Bool.not_false]))|(refine dcall_pivot rfl rfl rfl rfl ?_)|with_reducible intro _|omega))
  exact fin_many (wk_tup ⟨wk_agg ⟨wk_plain subH_nil plain_pagesI,trivial⟩,wk_int rfl,trivial⟩)
end Go.Proofs.YtkahmhmkhfllpaaDoor
