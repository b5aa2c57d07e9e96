/-
 The bytes of all pages,as a block of numbers;zeroing.open.
 zeroing.memory.state puts the bytes of all pages down.
-/
import Derived.Test.YtkahmhmkhfllpaaDoorZrB
set_option linter.unusedSimpArgs false
set_option linter.unusedVariables false
namespace Go.Pol
def updM (M:Nat→Nat) (i x:Nat):Nat→Nat:=fun j=>if j=i then x else M j
def openM:List Page→Nat→Nat:=fun s=>s.foldl (fun M p=>updM M p.1.toNat (M p.1.toNat ||| unionM p.2)) (fun _=>0)
theorem openM_snoc (s:List Page) (p:Page):openM (s++[p])=updM (openM s) p.1.toNat (openM s p.1.toNat ||| unionM p.2):=by simp [openM]
theorem updM_updM (M:Nat→Nat) (i x y:Nat):updM (updM M i x) i y=updM M i y:=by funext j;unfold updM;split<;>rfl
theorem updM_same (M:Nat→Nat) (i:Nat):updM M i (M i)=M:=by funext j;unfold updM;split<;>simp [*]
theorem updM_at (M:Nat→Nat) (i x:Nat):updM M i x i=x:=by simp [updM]
theorem union_u64 {l:List Cut} (h:∀ c ∈ l,badCut c=false):U64 (unionM l):=unionM_u64 fun c hc=>by
 have:=h c hc
 simp only [badCut,decide_eq_false_iff_not] at this
 omega
theorem foldM_u64:∀ (s:List Page) (M:Nat→Nat),(∀ i,U64 (M i))→(∀ p ∈ s,∀ c ∈ p.2,badCut c=false)→∀ i,U64 (s.foldl (fun M p=>updM M p.1.toNat (M p.1.toNat ||| unionM p.2)) M i)
 | [],M,hM,_,i=>hM i
 | p::s,M,hM,h,i=>by
  rw [List.foldl_cons]
  refine foldM_u64 s _ (fun j=>?_) (fun q hq=>h q (List.mem_cons_of_mem _ hq)) i
  unfold updM
  split
  ·exact U64.or (hM _) (union_u64 (h p (List.mem_cons_self ..)))
  ·exact hM j
theorem openM_u64 {s:List Page} (h:∀ p ∈ s,∀ c ∈ p.2,badCut c=false) (i:Nat):U64 (openM s i):=foldM_u64 s _ (fun _=>by unfold U64;omega) h i
end Go.Pol
namespace Go.Proofs.YtkahmhmkhfllpaaDoor
open Go Go.Am Go.Pol
theorem simx_Zh0 {p q:Prop} (hq:q) (h:p=q:=by ((simp (config:={ maxSteps:=4000000 }) (disch:=first|(simp only [simC];done)|omega) only [simD,condS_d,simK,List.contains_cons,List.contains_nil,sim,simL,simQ,simS,simG,simV,simB,simE,ev_load,ev_store,ev_bslice,ev_build,ev_slA,ev_slS,ev_clear,ev_append,app_eq,app1_ite,src_sl,simA,d_nil,d_op,d_opG,goD_some,goD_ite,goD_iteN,goDG_s,Hp.appD,load_ptr,load_iptr,store_ptr,part_t,part_f,cells_lk,vals_nil,vals_cons,parts_nil,parts_cons,fillL,over,AV.flat,AV.one,AV.cells,pureR_ite,pureR_iteN,bind_ite,map_ite,ldR_ite,stR_ite,clR_ite,goS_ite,goS_iteN,goQ_ite,goQ_iteN,finN,finR,resVs,resV,packV,nchkV,faddrV,fldV,extV,lenV,Hp.app,hasKey,puts,put,List.any_cons,List.any_nil,Option.bind_some,Option.bind_none,Option.map_some,Option.map_none,List.getElem?_cons_succ,List.getElem?_cons_zero,List.set_cons_succ,List.set_cons_zero,List.cons_append,List.nil_append,List.append_nil,List.replicate,List.drop_zero,List.drop_succ_cons,List.take_succ_cons,List.take_zero,List.length_cons,List.length_nil,decide_eq_true_eq,decide_true,decide_false,pick_u1,pick_u2,pick_t1,pick_t2,decide_eq_false_iff_not,Bool.not_true,Bool.not_false,Bool.not_eq_true,Bool.true_eq_false,Bool.false_eq_true,reduceCtorEq,Nat.reduceAdd,Nat.reduceSub,Nat.reduceMul,Nat.reduceLeDiff,Nat.reduceLT,Nat.reduceEqDiff,Nat.reduceBEq,Nat.zero_add,Nat.add_zero,reduceIte,if_true,if_false,and_true,true_and,and_false,false_and,true_implies,false_implies,implies_true,not_true_eq_false,not_false_eq_true,beq_self_eq_true,Bool.or_false,Bool.or_true,Bool.false_or,Bool.true_or,IntWalk.i64_in,Int.toNat_natCast,toNat_succ,Q.o,Q.u,Q.gt,Q.gf,Q.K,Q.bk,Q.mk,Q.q,Q.m,Q.l,Q.la,Q.b,Q.c,Q.f,Q.po,Q.pa,Q.e,Q.n,Q.is,Q.ia,Q.bx,Q.ln,Q.s,List.length_map,hfz]);first|done|rfl)):p:=h▸hq
theorem simx_Zh2 {p q:Prop} (hq:q) (h:p=q:=by ((simp (config:={ maxSteps:=4000000 }) (disch:=first|(simp only [simC];done)|omega) only [simK,List.contains_cons,List.contains_nil,sim,simL,simQ,simS,simG,simV,simB,simE,ev_load,ev_store,ev_bslice,ev_build,ev_slA,ev_slS,ev_clear,ev_append,app_eq,app1_ite,src_sl,simA,d_nil,d_op,d_opG,goD_some,goD_ite,goD_iteN,goDG_s,Hp.appD,load_ptr,load_iptr,store_ptr,part_t,part_f,cells_lk,vals_nil,vals_cons,parts_nil,parts_cons,fillL,over,AV.flat,AV.one,AV.cells,pureR_ite,pureR_iteN,bind_ite,map_ite,ldR_ite,stR_ite,clR_ite,goS_ite,goS_iteN,goQ_ite,goQ_iteN,finN,finR,resVs,resV,packV,nchkV,faddrV,fldV,extV,lenV,Hp.app,hasKey,puts,put,List.any_cons,List.any_nil,Option.bind_some,Option.bind_none,Option.map_some,Option.map_none,List.getElem?_cons_succ,List.getElem?_cons_zero,List.set_cons_succ,List.set_cons_zero,List.cons_append,List.nil_append,List.append_nil,List.replicate,List.drop_zero,List.drop_succ_cons,List.take_succ_cons,List.take_zero,List.length_cons,List.length_nil,decide_eq_true_eq,decide_true,decide_false,pick_u1,pick_u2,pick_t1,pick_t2,decide_eq_false_iff_not,Bool.not_true,Bool.not_false,Bool.not_eq_true,Bool.true_eq_false,Bool.false_eq_true,reduceCtorEq,Nat.reduceAdd,Nat.reduceSub,Nat.reduceMul,Nat.reduceLeDiff,Nat.reduceLT,Nat.reduceEqDiff,Nat.reduceBEq,Nat.zero_add,Nat.add_zero,reduceIte,if_true,if_false,and_true,true_and,and_false,false_and,true_implies,false_implies,implies_true,not_true_eq_false,not_false_eq_true,beq_self_eq_true,Bool.or_false,Bool.or_true,Bool.false_or,Bool.true_or,IntWalk.i64_in,Int.toNat_natCast,toNat_succ,Q.o,Q.u,Q.gt,Q.gf,Q.K,Q.bk,Q.mk,Q.q,Q.m,Q.l,Q.la,Q.b,Q.c,Q.f,Q.po,Q.pa,Q.e,Q.n,Q.is,Q.ia,Q.bx,Q.ln,Q.s,iaddr_map (0,0) cut_len,cutA,List.length_map,iaddrAV,arr_get hn,Nat.mul_one,updM_at,or_u64 u1 u2,arr_set,arr_len]);first|done|rfl)):p:=h▸hq
def arr (M:Nat→Nat):List AV:=(List.range 1024).map fun p=>.int .u64 (M p:Nat)
theorem arr_len (M:Nat→Nat):(arr M).length=1024:=by simp [arr]
theorem arr_zero:List.replicate 1024 (AV.int .u64 0)=arr fun _=>0:=by
 have h:∀ n:Nat,List.replicate n (AV.int .u64 0)=(List.range n).map fun _=>AV.int .u64 ((0:Nat):Int):=fun n=>by rw [List.map_const',List.length_range];rfl
 exact h 1024
theorem arr_get {M:Nat→Nat} {i:Nat} (h:i < 1024):(arr M)[i]? = some (.int .u64 (M i:Nat)):=by simp [arr,h]
theorem arr_set (M:Nat→Nat) (i x:Nat):(arr M).set i (.int .u64 (x:Nat))=arr (updM M i x):=by
 refine List.ext_getElem (by simp [arr]) fun j h1 h2=>?_
 simp only [arr,List.getElem_set,List.getElem_map,List.getElem_range,updM]
 by_cases e:i=j
 ·subst e;simp
 ·rw [if_neg e,if_neg (fun h=>e h.symm)]
theorem arr_plain (M:Nat→Nat):∀ x ∈ arr M,Plain x:=fun x hx=>by obtain ⟨p,_,rfl⟩:=List.mem_map.1 hx;exact plain_int
theorem l_open (s:List Page) (hs:s.length≤2000) (hc:∀ p ∈ s,p.2.length≤100) (hg:∀ p ∈ s,0≤p.1∧p.1 < 1024∧∀ c ∈ p.2,badCut c=false):LocC Tryd.prog G0 43 [stateA s] [] 0 fun x h1=>x = .ptr 0 0∧h1=⟨[(0,.cells (arr (openM s)))],1⟩:=by
 refine loc_of hmix b43 ?_
 rw [c43,arr_zero,stateA,pagesA]
 have p0:Plain (.isl (s.map pageA)):=plain_pages
 have hfz:fillL (arr fun _=>0) []=some (arr fun _=>0):=rfl
 (refine simx_Zh0 ?_;try exact True.intro)
 refine loop_ix (ι:=Nat) (fun k=>(.undef :: .undef :: .nilp :: .ptr 0 0 :: .undef :: .undef :: .undef :: .undef :: .undef :: .undef :: .undef :: .isl (s.map pageA) :: .int .i64 s.length :: .int .i64 (k:Nat) :: .undef :: .undef :: .undef :: .undef :: .undef :: .undef :: .undef :: .undef :: .undef :: .undef :: .undef :: .undef :: .undef :: .undef :: .undef :: .undef :: .undef :: .undef :: .undef :: .undef :: .undef :: .undef :: .undef :: .undef :: .undef :: .undef :: .undef::[])) (fun k=>⟨[(0,.cells (arr (openM (s.take k))))],1⟩) (fun k=>k≤s.length) (fun k=>s.length - k) 0 [(0,1)] rfl (fun _=>Nat.zero_le _) (Nat.zero_le _) (weak_of (oneOf_of rfl) ?_ (wko_plain (subH_of rfl) (by simp) rfl rfl (arr_plain _) wko_nil)) fun k hk=>?_
 ·exact wkz_Za
 (repeat' (first|with_reducible apply And.intro|(refine go_app2 rfl (by first  | rfl) (by first|decide|omega) ⟨by omega,by omega⟩ ?_)|(refine goD_app2 rfl (by first  | rfl) (by first|decide|omega) ⟨by omega,by omega⟩ ?_)|(refine regD_quiet rfl ?_)|(refine regD_go rfl ?_)|exact chk_ok rfl|exact True.intro|(refine simx_Zc1 ?_)|((first|rw [condS_d]|rw [condS_b]|simp only [simD]|rw [goG_b]|rw [goQG_b]|rw [goCG_b]|rw [goQCG_b]|rw [goDG_t]);with_reducible apply And.intro<;>with_reducible intro hsp<;>first|(exfalso;omega)|(try simp only [hsp,decide_true,decide_false,Bool.not_true,Bool.not_false]))|(refine dcall_pivot rfl rfl rfl rfl ?_)|with_reducible intro _|omega))
 ·have hkl:k < s.length:=by omega
  have hpg:=hg _ (nth_mem (d:=(0,[])) hkl)
  have hlk:=hc _ (nth_mem (d:=(0,[])) hkl)
  have htk:=take_nth (d:=(0,[])) hkl
  generalize hp:nth (0,[]) s k=pg at *
  obtain ⟨pn,cs⟩:=pg
  dsimp only at *
  obtain ⟨hp1,hp2,hp3⟩:=hpg
  obtain ⟨n,rfl⟩:=Int.eq_ofNat_of_zero_le hp1
  have hn:n < 1024:=by omega
  have p1:Plain (.isl (cs.map cutA)):=plain_cuts
  generalize hM:openM (s.take k)=M at *
  refine loop_ix (ι:=Nat) (fun q=>(.undef :: .undef :: .nilp :: .ptr 0 0 :: .undef :: .ptr 1 0 :: .undef :: .undef :: .undef :: .undef :: .undef :: .isl (s.map pageA) :: .int .i64 s.length :: .int .i64 (k:Nat) :: .undef :: .undef :: .undef :: .undef :: .isl (cs.map cutA) :: .int .i64 cs.length :: .int .i64 (q:Nat) :: .undef :: .undef :: .undef :: .undef :: .undef :: .undef :: .undef :: .undef :: .undef :: .undef :: .undef :: .undef :: .undef :: .undef :: .undef :: .undef :: .undef :: .undef :: .undef :: .undef::[])) (fun q=>⟨[(0,.cells (arr (updM M n (M n ||| unionM (cs.take q))))),(1,.cells [.int .i64 (n:Nat),.isl (cs.map cutA)])],2⟩) (fun q=>q≤cs.length) (fun q=>cs.length - q) 0 [] rfl (fun _=>Nat.zero_le _) (Nat.zero_le _) (weak_of (oneOf_of rfl) ?_ (wko_plain (subH_of rfl) (by simp) rfl (by simp [unionM,updM_same]) (arr_plain _) (wko_plain (subH_of rfl) (by simp) rfl rfl (plain_two plain_int p1) wko_nil))) fun q hq=>?_
  ·exact wkz_Za
  have hb:q < cs.length→badCut (nth (0,0) cs q)=false:=fun h=>hp3 _ (nth_mem h)
  have u1:M n ||| unionM (cs.take q) < 18446744073709551616:=U64.or (hM▸openM_u64 (fun p hp=>(hg p (List.mem_of_mem_take hp)).2.2) n) (union_u64 fun c hc=>hp3 c (List.mem_of_mem_take hc))
  have u2:runM ((nth (0,0) cs q).1,(nth (0,0) cs q).2) < 18446744073709551616:=by
   by_cases hh:q < cs.length
   ·exact bad_u64 (hb hh)
   ·have : nth (0,0) cs q=(0,0):=by simp [nth,Nat.not_lt.1 hh]
    rw [this];decide
  (repeat' (first|with_reducible apply And.intro|refine goCall_pure (k_bytes _ _ (hb (by omega))) ?_|refine goQCall_pure (k_bytes _ _ (hb (by omega))) ?_|refine dcall_pure rfl rfl rfl (k_bytes _ _ (hb (by omega))) ?_|refine goDCall_pure (k_bytes _ _ (hb (by omega))) ?_|(refine go_app2 rfl (by first  | rfl) (by first|decide|omega) ⟨by omega,by omega⟩ ?_)|(refine goD_app2 rfl (by first  | rfl) (by first|decide|omega) ⟨by omega,by omega⟩ ?_)|(refine regD_quiet rfl ?_)|(refine regD_go rfl ?_)|exact chk_ok rfl|exact True.intro|(refine simx_Zh2 ?_)|((first|rw [condS_d]|rw [condS_b]|simp only [simD]|rw [goG_b]|rw [goQG_b]|rw [goCG_b]|rw [goQCG_b]|rw [goDG_t]);with_reducible apply And.intro<;>with_reducible intro hsp<;>first|(exfalso;omega)|(try simp only [hsp,decide_true,decide_false,Bool.not_true,Bool.not_false]))|(refine dcall_pivot rfl rfl rfl rfl ?_)|with_reducible intro _|omega))
  ·refine ⟨q+1,[],by omega,by dsimp only;omega,keeps_rn rfl,weak_of (oneOf_of rfl) (by exact wkz_Za) (wko_plain (subH_of rfl) (by simp) rfl ?_ (arr_plain _) (wko_plain (subH_of rfl) (by simp) rfl rfl (plain_two plain_int p1) wko_nil))⟩
   rw [updM_updM,take_nth (d:=(0,0)) (by omega),unionM_snoc,Nat.or_assoc]
  ·refine ⟨k+1,[],by omega,by dsimp only;omega,keeps_rn rfl,weak_of (oneOf_of rfl) (by exact wkz_Za) (wko_plain (subH_of rfl) (by simp) rfl ?_ (arr_plain _) wko_nil)⟩
   rw [htk,openM_snoc,hM,List.take_of_length_le (show cs.length≤q by omega)]
   rfl
 ·rw [List.take_of_length_le (by omega)]
  exact fin_loc [] rfl (Nat.zero_le _) (oneOf_of rfl) (wk_ptr rfl (by simp)) (wko_plain (subH_of rfl) (by simp) rfl rfl (arr_plain _) wko_nil)
end Go.Proofs.YtkahmhmkhfllpaaDoor
namespace Go.Pol
def stateM (M:Nat→Nat):Nat→List Page
 | 0 => []
 | n+1=>if M n=0 then stateM M n else stateM M n++[((n:Int),downM (M n))]
theorem stateM_length (M:Nat→Nat):∀ n,(stateM M n).length≤n
 | 0=>Nat.le_refl _
 | n+1=>by
  have:=stateM_length M n
  unfold stateM
  split
  ·omega
  ·simp;omega
theorem downM_length (m:Nat):(downM m).length≤64:=by
 have h:=runs_length m.testBit 64
 have : ∀ (n:Nat) (l:List Cut),(mergeN n l).length≤l.length:=by
  intro n
  induction n with
  | zero=>intro l;exact Nat.le_refl _
  | succ n ih =>
   intro l
   unfold mergeN
   split
   ·rename_i h4
    have:=ih (merge1 l)
    rw [merge1_length h4] at this
    omega
   ·exact Nat.le_refl _
 exact Nat.le_trans (this _ _) h
end Go.Pol
namespace Go.Proofs.YtkahmhmkhfllpaaDoor
open Go Go.Am Go.Pol
theorem wkz_Zi {p:Prop} (h:p:=by (((repeat' (first|exact wkl_nil|refine wkl_cons ?_ ?_|exact wk_undef|exact wk_int (by first|rfl|omega)|exact wk_bool rfl|exact wk_yld rfl (by first|decide|simp|omega)|with_reducible refine wk_fn ?_ ?_|with_reducible refine wk_agg ?_|with_reducible refine wk_tup ?_|exact wk_ptr rfl (by first|decide|simp|omega)|exact wk_sl rfl (by first|decide|simp|omega) (by first|rfl|omega|simp) (by first|omega|simp) (by first|omega|simp)|exact wk_sl rfl (by decide) (by simp) (by simp) (by simp)|exact wk_plain (by first|exact subH_nil|exact subH_of rfl) (by (first|assumption|exact plain_int|exact plain_bool|exact plain_undef|exact plain_nils|exact plain_nilp|exact plain_nilf|exact plain_str|with_reducible apply plain_cuts|with_reducible apply plain_cutsI|with_reducible apply plain_pages|with_reducible apply plain_state)))));first|done|fail)):p:=h
theorem wez_Zi {p:Prop} (h:p:=by (((try simp only [simK,List.set_cons_succ,List.set_cons_zero,List.contains_cons,List.contains_nil,Nat.reduceBEq,Nat.reduceAdd,Nat.zero_add,Bool.or_false,Bool.or_true,Bool.false_or,Bool.true_or,Bool.false_eq_true,reduceIte,if_true,if_false]);exact weak_of (oneOf_of rfl) wkz_Zi (by (repeat' (first|exact wko_nil|refine wko_plain (subH_of rfl) (by first|decide|omega|simp) rfl (by first|rfl) (by (first|with_reducible assumption|with_reducible apply arr_plain _|with_reducible apply plain_flat plain_pagecells|with_reducible apply plain_map (fun _=>plain_int)|with_reducible apply plain_map (fun _=>plain_bool)|((repeat' (first|exact plain_all0|refine plain_all2 ?_ ?_|exact plain_int|first|assumption|exact plain_int|exact plain_bool|exact plain_undef|exact plain_nils|exact plain_nilp|exact plain_nilf|exact plain_str|with_reducible apply plain_cuts|with_reducible apply plain_cutsI|with_reducible apply plain_pages|with_reducible apply plain_state));done)|((refine plain_app ?_ ?_)<;>(first|with_reducible assumption|with_reducible apply arr_plain _|with_reducible apply plain_flat plain_pagecells|with_reducible apply plain_map (fun _=>plain_int)|with_reducible apply plain_map (fun _=>plain_bool)|((repeat' (first|exact plain_all0|refine plain_all2 ?_ ?_|exact plain_int|first|assumption|exact plain_int|exact plain_bool|exact plain_undef|exact plain_nils|exact plain_nilp|exact plain_nilf|exact plain_str|with_reducible apply plain_cuts|with_reducible apply plain_cutsI|with_reducible apply plain_pages|with_reducible apply plain_state));done))))) ?_|refine wko_cells (by first|decide|omega|simp) rfl wkz_Zi ?_|refine wko_loop (by first|decide|omega|simp) rfl (by first|(rw [hF];exact wkz_Zi)|exact wkz_Zi) ?_))));first|done|fail)):p:=h
theorem simx_Zi1 {p q:Prop} (hq:q) (h:p=q:=by ((simp (config:={ maxSteps:=4000000 }) (disch:=first|(simp only [simC];done)|omega) only [simK,List.contains_cons,List.contains_nil,sim,simL,simQ,simS,simG,simV,simB,simE,ev_load,ev_store,ev_bslice,ev_build,ev_slA,ev_slS,ev_clear,ev_append,app_eq,app1_ite,src_sl,simA,d_nil,d_op,d_opG,goD_some,goD_ite,goD_iteN,goDG_s,Hp.appD,load_ptr,load_iptr,store_ptr,part_t,part_f,cells_lk,vals_nil,vals_cons,parts_nil,parts_cons,fillL,over,AV.flat,AV.one,AV.cells,pureR_ite,pureR_iteN,bind_ite,map_ite,ldR_ite,stR_ite,clR_ite,goS_ite,goS_iteN,goQ_ite,goQ_iteN,finN,finR,resVs,resV,packV,nchkV,faddrV,fldV,extV,lenV,Hp.app,hasKey,puts,put,List.any_cons,List.any_nil,Option.bind_some,Option.bind_none,Option.map_some,Option.map_none,List.getElem?_cons_succ,List.getElem?_cons_zero,List.set_cons_succ,List.set_cons_zero,List.cons_append,List.nil_append,List.append_nil,List.replicate,List.drop_zero,List.drop_succ_cons,List.take_succ_cons,List.take_zero,List.length_cons,List.length_nil,decide_eq_true_eq,decide_true,decide_false,pick_u1,pick_u2,pick_t1,pick_t2,decide_eq_false_iff_not,Bool.not_true,Bool.not_false,Bool.not_eq_true,Bool.true_eq_false,Bool.false_eq_true,reduceCtorEq,Nat.reduceAdd,Nat.reduceSub,Nat.reduceMul,Nat.reduceLeDiff,Nat.reduceLT,Nat.reduceEqDiff,Nat.reduceBEq,Nat.zero_add,Nat.add_zero,reduceIte,if_true,if_false,and_true,true_and,and_false,false_and,true_implies,false_implies,implies_true,not_true_eq_false,not_false_eq_true,beq_self_eq_true,Bool.or_false,Bool.or_true,Bool.false_or,Bool.true_or,IntWalk.i64_in,Int.toNat_natCast,toNat_succ,Q.o,Q.u,Q.gt,Q.gf,Q.K,Q.bk,Q.mk,Q.q,Q.m,Q.l,Q.la,Q.b,Q.c,Q.f,Q.po,Q.pa,Q.e,Q.n,Q.is,Q.ia,Q.bx,Q.ln,Q.s,iaddrAV,arr_get (show k < 1024 by omega),arr_len,Nat.mul_one,h0,cutsA]);first|done|rfl)):p:=h▸hq
theorem plain_cutsI {l:List Cut}:Plain (.isl (l.map cutA)):=plain_cuts
theorem plain_app {xs ys:List AV} (h:∀ x ∈ xs,Plain x) (h':∀ x ∈ ys,Plain x):∀ x ∈ xs++ys,Plain x:=fun x hx=>(List.mem_append.1 hx).elim (h x) (h' x)
theorem fin_state {k:Nat} {M:Nat→Nat} {S:List Page} {h:Hp} (h0:1≤h.next) (hm:lk h.l 0=some (.cells (arr M))) (hs:(S.length=0∧True)∨lk h.l k=some (.cells (flat pageA S))) (hk:k ≠ 0):finS Tryd.prog 1 (fun x h1=>x=stateA S∧h1=⟨[(0,.cells (arr M))],1⟩) h (some [.agg [ownV k 2 S.length]]):=by
 refine ⟨rn [],stateA S,⟨[(0,.cells (arr M))],1⟩,weak_of (oneOf_of rfl) ⟨wk_agg ⟨?_,trivial⟩,trivial⟩ (wko_plain (fun i o hi=>?_) (by show 0 < 1;omega) hm rfl (arr_plain _) wko_nil),keeps_rn rfl,Nat.le_refl _,rfl,rfl⟩
 ·by_cases hz:S.length=0
  ·rw [hz,own_z]
   cases List.eq_nil_of_length_eq_zero hz
   exact wk_nils
  ·have hs:=hs.resolve_left fun h=>hz h.1
   rw [own_s hz]
   refine wk_frz (cs:=flat pageA S) hs (fun j o hj e=>?_) (fun i o hi=>?_) (by simp) (fun e he=>?_) ?_ fun e he x hx=>?_
   ·simp only [lk] at hj
    split at hj
    ·rename_i e2;subst e2;exact hk e.symm
    ·cases hj
   ·simp only [lk] at hi
    split at hi
    ·rename_i e;subst e;exact ⟨_,hm⟩
    ·cases hi
   ·obtain ⟨c,_,rfl⟩:=List.mem_map.1 he;rfl
   ·rw [List.drop_zero,List.take_of_length_le (by rw [flat_len page_len];exact Nat.le_refl _)];rfl
   ·obtain ⟨c,_,rfl⟩:=List.mem_map.1 he;exact plain_pagecells c x hx
 ·simp only [lk] at hi
  split at hi
  ·rename_i e;subst e;exact ⟨_,hm⟩
  ·cases hi
theorem l_state (M:Nat→Nat) (hM:∀ i,U64 (M i)):LocC Tryd.prog G0 45 [.ptr 0 0] [(0,.cells (arr M))] 1 fun x h1=>x=stateA (stateM M 1024)∧h1=⟨[(0,.cells (arr M))],1⟩:=by
 refine loc_of hmix b45 ?_
 rw [c45]
 (refine simx_Za2 ?_;try exact True.intro)
 (refine loop_up [2,3,6,7] (fun (k:Nat)=>[(7,.int .i64 (k:Nat))]) (fun (k:Nat)=>⟨(0,.cells (arr M))::(1,.cells [.nils])::(2,.cells [ownV 3 2 (stateM M k).length])::ownH 3 pageA (stateM M k),4⟩) (fun (k:Nat)=>k≤1024) (fun (k:Nat)=>1024 - k) (0) [] rfl (fun _=>by first|exact Nat.zero_le _|(dsimp only;omega)) ?_ (by simp only [stateM,List.length_nil,own_z,ownH_z];(exact wez_Zi)) ?_)
 ·exact Nat.zero_le _
 intro k hk
 (refine simx_Za2 ?_;try exact True.intro)
 have hdn:=downM_length (M k)
 have hsl:=stateM_length M k
 have fin:¬ k < 1024→k=1024:=fun h=>by omega
 by_cases h0:M k=0
 ·have hst:stateM M (k+1)=stateM M k:=by rw [stateM,if_pos h0]
  by_cases hz:(stateM M k).length=0
  ·rw [hz,own_z,ownH_z hz]
   (repeat' (first|with_reducible apply And.intro|(refine go_app2 rfl (by first  | rfl) (by first|decide|omega) ⟨by omega,by omega⟩ ?_)|(refine goD_app2 rfl (by first  | rfl) (by first|decide|omega) ⟨by omega,by omega⟩ ?_)|(refine regD_quiet rfl ?_)|(refine regD_go rfl ?_)|exact chk_ok rfl|exact True.intro|(refine simx_Zi1 ?_)|((first|rw [condS_d]|rw [condS_b]|simp only [simD]|rw [goG_b]|rw [goQG_b]|rw [goCG_b]|rw [goQCG_b]|rw [goDG_t]);with_reducible apply And.intro<;>with_reducible intro hsp<;>first|(exfalso;omega)|(try simp only [hsp,decide_true,decide_false,Bool.not_true,Bool.not_false]))|(refine dcall_pivot rfl rfl rfl rfl ?_)|with_reducible intro _|omega))
   ·refine ⟨k+1,[],by omega,by dsimp only;omega,keeps_rn rfl,?_⟩
    dsimp only
    rw [hst,hz,own_z,ownH_z hz]
    (exact wez_Zi)
   ·cases fin (by omega)
    have h:=fin_state (k:=3) (S:=stateM M 1024) (M:=M) (h:=⟨[(0,.cells (arr M)),(1,.cells [.nils]),(2,.cells [.nils])],4⟩) (by simp) rfl (.inl ⟨hz,trivial⟩) (by decide)
    rw [hz,own_z] at h
    exact h
  ·rw [own_s hz,ownH_s hz]
   (repeat' (first|with_reducible apply And.intro|(refine go_app2 rfl (by first|exact flat_len page_len _|(rw [flat_len page_len];simp;done)|rfl) (by first|decide|omega) ⟨by omega,by omega⟩ ?_)|(refine goD_app2 rfl (by first|exact flat_len page_len _|(rw [flat_len page_len];simp;done)|rfl) (by first|decide|omega) ⟨by omega,by omega⟩ ?_)|(refine regD_quiet rfl ?_)|(refine regD_go rfl ?_)|exact chk_ok rfl|exact True.intro|(refine simx_Zi1 ?_)|((first|rw [condS_d]|rw [condS_b]|simp only [simD]|rw [goG_b]|rw [goQG_b]|rw [goCG_b]|rw [goQCG_b]|rw [goDG_t]);with_reducible apply And.intro<;>with_reducible intro hsp<;>first|(exfalso;omega)|(try simp only [hsp,decide_true,decide_false,Bool.not_true,Bool.not_false]))|(refine dcall_pivot rfl rfl rfl rfl ?_)|with_reducible intro _|omega))
   ·refine ⟨k+1,[],by omega,by dsimp only;omega,keeps_rn rfl,?_⟩
    dsimp only
    rw [hst,own_s hz,ownH_s hz]
    (exact wez_Zi)
   ·cases fin (by omega)
    have h:=fin_state (k:=3) (S:=stateM M 1024) (M:=M) (h:=⟨[(0,.cells (arr M)),(1,.cells [.sl 3 0 (stateM M 1024).length (stateM M 1024).length 2]),(2,.cells [.sl 3 0 (stateM M 1024).length (stateM M 1024).length 2]),(3,.cells (flat pageA (stateM M 1024)))],4⟩) (by simp) rfl (.inr rfl) (by decide)
    rw [own_s hz] at h
    exact h
 ·have hst:stateM M (k+1)=stateM M k++[((k:Int),downM (M k))]:=by rw [stateM,if_neg h0]
  by_cases hz:(stateM M k).length=0
  ·rw [hz,own_z,ownH_z hz]
   (repeat' (first|with_reducible apply And.intro|refine goCall_pure (k_down (M k) (hM k)) ?_|refine goQCall_pure (k_down (M k) (hM k)) ?_|refine dcall_pure rfl rfl rfl (k_down (M k) (hM k)) ?_|refine goDCall_pure (k_down (M k) (hM k)) ?_|(refine go_app2 rfl (by first  | rfl) (by first|decide|omega) ⟨by omega,by omega⟩ ?_)|(refine goD_app2 rfl (by first  | rfl) (by first|decide|omega) ⟨by omega,by omega⟩ ?_)|(refine regD_quiet rfl ?_)|(refine regD_go rfl ?_)|exact chk_ok rfl|exact True.intro|(refine simx_Zi1 ?_)|((first|rw [condS_d]|rw [condS_b]|simp only [simD]|rw [goG_b]|rw [goQG_b]|rw [goCG_b]|rw [goQCG_b]|rw [goDG_t]);with_reducible apply And.intro<;>with_reducible intro hsp<;>first|(exfalso;omega)|(try simp only [hsp,decide_true,decide_false,Bool.not_true,Bool.not_false]))|(refine dcall_pivot rfl rfl rfl rfl ?_)|with_reducible intro _|omega))
   ·refine ⟨k+1,[(3,17)],by omega,by dsimp only;omega,keeps_rn rfl,?_⟩
    have hs0:stateM M k=[]:=List.eq_nil_of_length_eq_zero hz
    have hn:(stateM M (k+1)).length ≠ 0:=by rw [hst];simp
    dsimp only
    rw [own_s hn,ownH_s hn,hst,hs0]
    (exact wez_Zi)
   ·cases fin (by omega)
    have h:=fin_state (k:=3) (S:=stateM M 1024) (M:=M) (h:=⟨[(0,.cells (arr M)),(1,.cells [.nils]),(2,.cells [.nils])],4⟩) (by simp) rfl (.inl ⟨hz,trivial⟩) (by decide)
    rw [hz,own_z] at h
    exact h
  ·rw [own_s hz,ownH_s hz]
   (repeat' (first|with_reducible apply And.intro|refine goCall_pure (k_down (M k) (hM k)) ?_|refine goQCall_pure (k_down (M k) (hM k)) ?_|refine dcall_pure rfl rfl rfl (k_down (M k) (hM k)) ?_|refine goDCall_pure (k_down (M k) (hM k)) ?_|(refine go_app2 rfl (by first|exact flat_len page_len _|(rw [flat_len page_len];simp;done)|rfl) (by first|decide|omega) ⟨by omega,by omega⟩ ?_)|(refine goD_app2 rfl (by first|exact flat_len page_len _|(rw [flat_len page_len];simp;done)|rfl) (by first|decide|omega) ⟨by omega,by omega⟩ ?_)|(refine regD_quiet rfl ?_)|(refine regD_go rfl ?_)|exact chk_ok rfl|exact True.intro|(refine simx_Zi1 ?_)|((first|rw [condS_d]|rw [condS_b]|simp only [simD]|rw [goG_b]|rw [goQG_b]|rw [goCG_b]|rw [goQCG_b]|rw [goDG_t]);with_reducible apply And.intro<;>with_reducible intro hsp<;>first|(exfalso;omega)|(try simp only [hsp,decide_true,decide_false,Bool.not_true,Bool.not_false]))|(refine dcall_pivot rfl rfl rfl rfl ?_)|with_reducible intro _|omega))
   ·refine ⟨k+1,[(3,17)],by omega,by dsimp only;omega,keeps_rn rfl,?_⟩
    have hn:(stateM M (k+1)).length ≠ 0:=by rw [hst];simp
    dsimp only
    rw [own_s hn,ownH_s hn,hst,← flat_snoc]
    (exact wez_Zi)
   ·cases fin (by omega)
    have h:=fin_state (k:=3) (S:=stateM M 1024) (M:=M) (h:=⟨[(0,.cells (arr M)),(1,.cells [.sl 3 0 (stateM M 1024).length (stateM M 1024).length 2]),(2,.cells [.sl 3 0 (stateM M 1024).length (stateM M 1024).length 2]),(3,.cells (flat pageA (stateM M 1024)))],4⟩) (by simp) rfl (.inr rfl) (by decide)
    rw [own_s hz] at h
    exact h
end Go.Proofs.YtkahmhmkhfllpaaDoor
