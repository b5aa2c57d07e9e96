/-
 A book and spaces that share nothing: a call.
-/
import Derived.Test.YtphggldkligldaaGreatSnM
set_option linter.unusedSimpArgs false
set_option linter.unusedVariables false
namespace Go.Pol
open Go.Am
structure Cp where
 w:Nat
 s:Nat
 o:Nat
 k:Nat
 i:Nat
 v:Nat
def cpE (x:Cp):List AV:=[.int .u8 (x.w:Nat),.int .u8 (x.s:Nat),.int .u8 (x.o:Nat),.int .u8 (x.k:Nat),.int .u8 (x.i:Nat),.int .u8 (x.v:Nat)]
theorem cpE_len (x:Cp):(cpE x).length=6:=rfl
theorem cp_plain (x:Cp):∀ y ∈ cpE x,Plain y:=fun y hy=>by
 unfold cpE at hy
 simp only [List.mem_cons,List.not_mem_nil,or_false] at hy
 rcases hy with rfl|rfl|rfl|rfl|rfl|rfl<;>exact plain_int
theorem plain_cp (x:Cp):Plain (.agg (cpE x)):=plain_agg (cp_plain x)
def okP (x:Cp):Prop:=x.w < 256∧x.s < 256∧x.o < 256∧x.k < 256∧x.i < 256∧x.v < 256
structure TcG (q:Bk) (A:Nat→Sy):Prop where
 good:GoodB q
 own:OwnB q
 tight:Tight q
 tc:TcR q A
theorem tcg_call {q:Bk} {A A':Nat→Sy} (h:TcG q A) (w:Nat) (hw:w ≠ 13) (x y t v:Int) (ht:TcR (q.call w x y t v []).2 A'):TcG (q.call w x y t v []).2 A':=⟨call_good h.good ..,call_own h.good h.own _ _ _ _ _ _,call_tight h.good h.tight w hw ..,ht⟩
theorem take_neq {q:Bk} {x y:Nat} (h:(q.take (x:Nat) (y:Nat)).2.1=0):x ≠ y:=fun e=>by
 subst e
 unfold Bk.take at h
 split at h
 ·exact absurd h (by decide:¬ (7:Int)=0)
 ·rw [if_pos rfl] at h;exact absurd h (by decide:¬ (2:Int)=0)
theorem revert_neq {q:Bk} {x y:Nat} (h:(q.revert (x:Nat) (y:Nat)).2.1=0):x ≠ y:=fun e=>by
 subst e
 unfold Bk.revert at h
 split at h
 ·exact absurd h (by decide:¬ (7:Int)=0)
 ·rw [if_pos rfl] at h;exact absurd h (by decide:¬ (2:Int)=0)
end Go.Pol
namespace Go.Proofs.YtphggldkligldaaGreat.Sh
open Go Go.Am Go.Pol
theorem wx_Ki {p q:Prop} (hq:q) (h:HidP q→p:=by (intro hQz;((repeat' ((try (conv=>whnf));first|(with_reducible first|refine run_cons ?_|refine runq_cons ?_|refine code_seq ?_|refine code_reg ?_|refine code_cond ?_|refine run_nil ?_|refine runq_nil ?_|refine rund_op rfl ?_|refine rund_nil ?_|refine code_block ?_|refine code_skip ?_|refine code_exit ?_|refine code_ret ?_|refine code_range ?_|refine rund_fast (by decide +kernel) ?_|refine rund_slow (by decide +kernel) ?_|refine br_tt ?_|refine br_ff ?_|refine br_n ?_|refine br_and ?_|refine br_or ?_|refine br_t (by assumption) ?_|refine br_f (by assumption) ?_|refine eq_i64 (by omega) ?_|refine el_tn ?_)|((with_reducible refine br_dt ?_ ?_);focus omega)|((with_reducible refine br_df ?_ ?_);focus omega)|((with_reducible apply br_dq hQz)<;>(try intro hsp hQz))|((with_reducible refine ck_x ?_ ?_);focus (first|omega|rfl|assumption|decide|(simp only [List.length_map,List.length_cons,List.length_nil];omega)))|(with_reducible first|refine eq_tn ?_|refine eq_tn1 ?_|refine eq_tn2 ?_|refine eq_m1 ?_|refine eq_m2 ?_|refine eq_zm ?_|refine eq_z ?_|refine len_map ?_|refine len_sl ?_|refine len_nils ?_|refine len_own' ?_|refine len_isl ?_|refine eq_u8 (by omega) ?_|refine eq_u16 (by omega) ?_)|refine eq_of (by with_reducible assumption) ?_|(with_reducible first|refine eq_rfl ?_|refine ChkX.mk (by kernel_rfl) ?_|refine code_q rfl ?_|refine code_d (by decide +kernel) ?_|refine end_go rfl ?_)|refine cx_b0 c1 rfl rfl rfl rfl rfl rfl rfl rfl (by decide) rfl ?_|refine cx_locS c2 rfl (by decide) ?_|refine cx_L c3 rfl rfl rfl rfl rfl (by decide) rfl ?_|refine len_map ?_|refine len_isl ?_|refine el_of rfl rfl ?_|refine del_own ?_|refine del_own' rfl ?_|refine as_go rfl ?_|refine rd_go rfl ?_|refine rg_end rfl ?_|refine flat_ownX ?_|refine EqLX.mk ?_|((with_reducible apply br_bq hQz)<;>(try intro hsp hQz))|exact hQz.out))<;>(try (conv=>whnf))))):p:=h ⟨hq⟩
theorem wx_Kin {p q:Prop} (hq:q) (h:HidP q→p:=by (intro hQz;((repeat' ((try (conv=>whnf));first|(with_reducible first|refine run_cons ?_|refine runq_cons ?_|refine code_seq ?_|refine code_reg ?_|refine code_cond ?_|refine run_nil ?_|refine runq_nil ?_|refine rund_op rfl ?_|refine rund_nil ?_|refine code_block ?_|refine code_skip ?_|refine code_exit ?_|refine code_ret ?_|refine code_range ?_|refine rund_fast (by decide +kernel) ?_|refine rund_slow (by decide +kernel) ?_|refine br_tt ?_|refine br_ff ?_|refine br_n ?_|refine br_and ?_|refine br_or ?_|refine br_t (by assumption) ?_|refine br_f (by assumption) ?_|refine eq_i64 (by omega) ?_|refine el_tn ?_)|((with_reducible refine br_dt ?_ ?_);focus omega)|((with_reducible refine br_df ?_ ?_);focus omega)|((with_reducible apply br_dq hQz)<;>(try intro hsp hQz))|((with_reducible refine ck_x ?_ ?_);focus (first|omega|rfl|assumption|decide|(simp only [List.length_map,List.length_cons,List.length_nil];omega)))|(with_reducible first|refine eq_tn ?_|refine eq_tn1 ?_|refine eq_tn2 ?_|refine eq_m1 ?_|refine eq_m2 ?_|refine eq_zm ?_|refine eq_z ?_|refine len_map ?_|refine len_sl ?_|refine len_nils ?_|refine len_own' ?_|refine len_isl ?_|refine eq_u8 (by omega) ?_|refine eq_u16 (by omega) ?_)|refine eq_of (by with_reducible assumption) ?_|(with_reducible first|refine eq_rfl ?_|refine ChkX.mk (by kernel_rfl) ?_|refine code_d (by decide +kernel) ?_|refine end_go rfl ?_)|refine cx_b0 c1 rfl rfl rfl rfl rfl rfl rfl rfl (by decide) rfl ?_|refine cx_locS c2 rfl (by decide) ?_|refine cx_L c3 rfl rfl rfl rfl rfl (by decide) rfl ?_|refine dcx_locS c2 rfl rfl ?_|refine len_map ?_|refine len_isl ?_|refine el_of rfl rfl ?_|refine del_own ?_|refine del_own' rfl ?_|refine as_go rfl ?_|refine rd_go rfl ?_|refine rg_end rfl ?_|refine flat_ownX ?_|refine EqLX.mk ?_|((with_reducible apply br_bq hQz)<;>(try intro hsp hQz))|exact hQz.out))<;>(try (conv=>whnf))))):p:=h ⟨hq⟩
theorem pa_cp {x:Cp}:∀ y ∈ [AV.agg (cpE x)],Plain y:=fun y hy=>by obtain rfl:=List.mem_singleton.1 hy;exact plain_cp x
section
variable {q:Bk} {t:TS} {A:Nat→Sy}
theorem l_copy {R1 R2:Nat→Nat→Option Int} {x y:Nat} (hx:x < 4) (hy:y < 4) (hne:x ≠ y) (h1:SpR R1 (A x)) (h2:SpR R2 (A y)):LocL 112 [.int .i64 (x:Nat),.int .i64 (y:Nat)] A (.tup []) (updA A y (cpyN (A x) (A y) 8)):=by
 rcases (show x=0∨x=1∨x=2∨x=3 by omega) with rfl|rfl|rfl|rfl<;>rcases (show y=0∨y=1∨y=2∨y=3 by omega) with rfl|rfl|rfl|rfl
 ·exact absurd rfl hne
 ·exact l_copy01 h1 h2
 ·exact l_copy02 h1 h2
 ·exact l_copy03 h1 h2
 ·exact l_copy10 h1 h2
 ·exact absurd rfl hne
 ·exact l_copy12 h1 h2
 ·exact l_copy13 h1 h2
 ·exact l_copy20 h1 h2
 ·exact l_copy21 h1 h2
 ·exact absurd rfl hne
 ·exact l_copy23 h1 h2
 ·exact l_copy30 h1 h2
 ·exact l_copy31 h1 h2
 ·exact l_copy32 h1 h2
 ·exact absurd rfl hne
set_option maxHeartbeats 3200000 in
theorem l_call_map (g:TcG q A) (h:TOk q.L t) (x:Cp) (hx:okP x) (hw:¬ (2≤x.w % 8)):∃ q' t' A',TcG q' A'∧TOk q'.L t'∧(q'.a=q.a∧q'.n=q.n)∧LocR 45 [.agg (cpE x)] q t A (.tup []) q' t' A':=by
  obtain ⟨b1,b2,b3,b4,b5,b6⟩:=hx
  have f1:((x.s:Nat):Int).tmod 4=((x.s % 4:Nat):Int):=tmn x.s 4
  have f2:((x.o:Nat):Int).tmod 4=((x.o % 4:Nat):Int):=tmn x.o 4
  have f3:((x.k:Nat):Int).tmod 8=((x.k % 8:Nat):Int):=tmn x.k 8
  have f4:((x.w:Nat):Int).tmod 8=((x.w % 8:Nat):Int):=tmn x.w 8
  have f5:((x.i:Nat):Int).tmod 64=((x.i % 64:Nat):Int):=tmn x.i 64
  have l1:x.s % 4 < 4:=Nat.mod_lt _ (by decide)
  have l2:x.o % 4 < 4:=Nat.mod_lt _ (by decide)
  have l3:x.k % 8 < 8:=Nat.mod_lt _ (by decide)
  have l5:x.i % 64 < 64:=Nat.mod_lt _ (by decide)
  generalize x.s % 4=s at *
  generalize x.o % 4=o at *
  generalize x.k % 8=k at *
  generalize x.i % 64=i at *
  generalize x.w % 8=w at *
  obtain ⟨t',k1,c1⟩:=b_Map g.good h (s:Nat) (k:Nat)
  have hca:=call_a (b:=q) 0 (s:Nat) (k:Nat) 0 0 []
  rw [show q.call 0 (s:Nat) (k:Nat) 0 0 []=q.map (s:Nat) (k:Nat) from rfl] at hca
  by_cases he:(q.map (s:Nat) (k:Nat)).1=0
  · have htc:=tc_map g.good g.tc l1 l3 he
    have htg:=tcg_call (A':=updA A s ((A s).com k)) g 0 (by decide) (s:Nat) (k:Nat) 0 0 htc
    rw [show q.call 0 (s:Nat) (k:Nat) 0 0 []=q.map (s:Nat) (k:Nat) from rfl] at htg
    have c2:=p_commit (a:=(k:Nat)) (n:=1) (g.tc.sp s l1).good
    rw [show ((A s).chg ((k:Nat):Int) 1 1 2 2).2=(A s).com k from rfl] at c2
    have c3:=c2
    rw [he] at c1
    refine ⟨_,t',updA A s ((A s).com k),htg,k1,hca,LocR.mk (loc_x hmix b45 rfl ?_) pa_cp plain_none⟩
    unfold c45
    clear htg htc k1 hca he
    unfold tcN bkN rdN cpE
    generalize q.map (s:Nat) (k:Nat)=r at *
    rcases (show s=0∨s=1∨s=2∨s=3 by omega) with rfl|rfl|rfl|rfl
    all_goals first
      | (exfalso;omega)
      | ((rcases (show w = 0 ∨ w = 1 by omega) with rfl | rfl) <;>
          (refine wx_Ki ?_;repeat' (first|with_reducible refine And.intro ?_ ?_|intro hsp)) <;>
          first|exact end_R rfl plain_none rfl rfl rfl rfl rfl rfl rfl rfl rfl rfl rfl rfl rfl|(exfalso;omega))
  · have htc:=tc_no g.good g.own g.tc 0 (s:Nat) (k:Nat) 0 0 [] (by exact he)
    have htg:=tcg_call g 0 (by decide) (s:Nat) (k:Nat) 0 0 htc
    rw [show q.call 0 (s:Nat) (k:Nat) 0 0 []=q.map (s:Nat) (k:Nat) from rfl] at htg
    refine ⟨_,t',A,htg,k1,hca,LocR.mk (loc_x hmix b45 rfl ?_) pa_cp plain_none⟩
    unfold c45
    clear htg htc k1 hca
    unfold tcN bkN rdN cpE
    generalize q.map (s:Nat) (k:Nat)=r at *
    rcases (show w=0∨w=1 by omega) with rfl|rfl
    all_goals
      (refine wx_Ki ?_;repeat' (first|with_reducible refine And.intro ?_ ?_|intro hsp))
      all_goals first|exact end_R rfl plain_none rfl rfl rfl rfl rfl rfl rfl rfl rfl rfl rfl rfl rfl|(exfalso;omega)
set_option maxHeartbeats 3200000 in
theorem l_call_unmap (g:TcG q A) (h:TOk q.L t) (x:Cp) (hx:okP x) (hw:x.w % 8=2):∃ q' t' A',TcG q' A'∧TOk q'.L t'∧(q'.a=q.a∧q'.n=q.n)∧LocR 45 [.agg (cpE x)] q t A (.tup []) q' t' A':=by
  obtain ⟨b1,b2,b3,b4,b5,b6⟩:=hx
  have f1:((x.s:Nat):Int).tmod 4=((x.s % 4:Nat):Int):=tmn x.s 4
  have f2:((x.o:Nat):Int).tmod 4=((x.o % 4:Nat):Int):=tmn x.o 4
  have f3:((x.k:Nat):Int).tmod 8=((x.k % 8:Nat):Int):=tmn x.k 8
  have f4:((x.w:Nat):Int).tmod 8=((x.w % 8:Nat):Int):=tmn x.w 8
  have f5:((x.i:Nat):Int).tmod 64=((x.i % 64:Nat):Int):=tmn x.i 64
  have l1:x.s % 4 < 4:=Nat.mod_lt _ (by decide)
  have l2:x.o % 4 < 4:=Nat.mod_lt _ (by decide)
  have l3:x.k % 8 < 8:=Nat.mod_lt _ (by decide)
  have l5:x.i % 64 < 64:=Nat.mod_lt _ (by decide)
  generalize x.s % 4=s at *
  generalize x.o % 4=o at *
  generalize x.k % 8=k at *
  generalize x.i % 64=i at *
  generalize x.w % 8=w at *
  obtain ⟨t',k1,c1⟩:=b_Unmap g.good h (s:Nat) (k:Nat)
  have hca:=call_a (b:=q) 2 (s:Nat) (k:Nat) 0 0 []
  rw [show q.call 2 (s:Nat) (k:Nat) 0 0 []=q.unmap (s:Nat) (k:Nat) from rfl] at hca
  by_cases he:(q.unmap (s:Nat) (k:Nat)).1=0
  · have htc:=tc_unmap g.good g.tc l1 l3 he
    have htg:=tcg_call (A':=updA A s ((A s).dec k)) g 2 (by decide) (s:Nat) (k:Nat) 0 0 htc
    rw [show q.call 2 (s:Nat) (k:Nat) 0 0 []=q.unmap (s:Nat) (k:Nat) from rfl] at htg
    have c2:=p_decommit (a:=(k:Nat)) (n:=1) (g.tc.sp s l1).good
    rw [show ((A s).chg ((k:Nat):Int) 1 2 1 3).2=(A s).dec k from rfl] at c2
    have c3:=c2
    rw [he] at c1
    refine ⟨_,t',updA A s ((A s).dec k),htg,k1,hca,LocR.mk (loc_x hmix b45 rfl ?_) pa_cp plain_none⟩
    unfold c45
    clear htg htc k1 hca he
    unfold tcN bkN rdN cpE
    generalize q.unmap (s:Nat) (k:Nat)=r at *
    rcases (show s=0∨s=1∨s=2∨s=3 by omega) with rfl|rfl|rfl|rfl
    all_goals first
      | (exfalso;omega)
      | ((rcases (show w = 2 by omega) with rfl) <;>
          (refine wx_Ki ?_;repeat' (first|with_reducible refine And.intro ?_ ?_|intro hsp)) <;>
          first|exact end_R rfl plain_none rfl rfl rfl rfl rfl rfl rfl rfl rfl rfl rfl rfl rfl|(exfalso;omega))
  · have htc:=tc_no g.good g.own g.tc 2 (s:Nat) (k:Nat) 0 0 [] (by exact he)
    have htg:=tcg_call g 2 (by decide) (s:Nat) (k:Nat) 0 0 htc
    rw [show q.call 2 (s:Nat) (k:Nat) 0 0 []=q.unmap (s:Nat) (k:Nat) from rfl] at htg
    refine ⟨_,t',A,htg,k1,hca,LocR.mk (loc_x hmix b45 rfl ?_) pa_cp plain_none⟩
    unfold c45
    clear htg htc k1 hca
    unfold tcN bkN rdN cpE
    generalize q.unmap (s:Nat) (k:Nat)=r at *
    rcases (show w=2 by omega) with rfl
    all_goals
      (refine wx_Ki ?_;repeat' (first|with_reducible refine And.intro ?_ ?_|intro hsp))
      all_goals first|exact end_R rfl plain_none rfl rfl rfl rfl rfl rfl rfl rfl rfl rfl rfl rfl rfl|(exfalso;omega)
set_option maxHeartbeats 3200000 in
theorem l_call_drop (g:TcG q A) (h:TOk q.L t) (x:Cp) (hx:okP x) (hw:x.w % 8=5):∃ q' t' A',TcG q' A'∧TOk q'.L t'∧(q'.a=q.a∧q'.n=q.n)∧LocR 45 [.agg (cpE x)] q t A (.tup []) q' t' A':=by
  obtain ⟨b1,b2,b3,b4,b5,b6⟩:=hx
  have f1:((x.s:Nat):Int).tmod 4=((x.s % 4:Nat):Int):=tmn x.s 4
  have f2:((x.o:Nat):Int).tmod 4=((x.o % 4:Nat):Int):=tmn x.o 4
  have f3:((x.k:Nat):Int).tmod 8=((x.k % 8:Nat):Int):=tmn x.k 8
  have f4:((x.w:Nat):Int).tmod 8=((x.w % 8:Nat):Int):=tmn x.w 8
  have f5:((x.i:Nat):Int).tmod 64=((x.i % 64:Nat):Int):=tmn x.i 64
  have l1:x.s % 4 < 4:=Nat.mod_lt _ (by decide)
  have l2:x.o % 4 < 4:=Nat.mod_lt _ (by decide)
  have l3:x.k % 8 < 8:=Nat.mod_lt _ (by decide)
  have l5:x.i % 64 < 64:=Nat.mod_lt _ (by decide)
  generalize x.s % 4=s at *
  generalize x.o % 4=o at *
  generalize x.k % 8=k at *
  generalize x.i % 64=i at *
  generalize x.w % 8=w at *
  obtain ⟨t',k1,c1⟩:=b_Drop g.good h (s:Nat)
  have hca:=call_a (b:=q) 4 (s:Nat) 0 0 0 []
  rw [show q.call 4 (s:Nat) 0 0 0 []=(q.drop (s:Nat)).2 from rfl] at hca
  by_cases he:(q.drop (s:Nat)).2.1=0
  · have htc:=tc_drop g.good g.tc l1 he
    have htg:=tcg_call (A':=updA A s ((A s).clr 8)) g 4 (by decide) (s:Nat) 0 0 0 htc
    rw [show q.call 4 (s:Nat) 0 0 0 []=(q.drop (s:Nat)).2 from rfl] at htg
    have c3:=l_clear l1 (g.tc.sp s l1).good
    have c2:=c3
    rw [he] at c1
    refine ⟨_,t',updA A s ((A s).clr 8),htg,k1,hca,LocR.mk (loc_x hmix b45 rfl ?_) pa_cp plain_none⟩
    unfold c45
    clear htg htc k1 hca he
    unfold tcN bkN rdN cpE
    generalize q.drop (s:Nat)=r at *
    rcases (show s=0∨s=1∨s=2∨s=3 by omega) with rfl|rfl|rfl|rfl
    all_goals first
      | (exfalso;omega)
      | ((rcases (show w = 5 by omega) with rfl) <;>
          (refine wx_Ki ?_;repeat' (first|with_reducible refine And.intro ?_ ?_|intro hsp)) <;>
          first|exact end_R rfl plain_none rfl rfl rfl rfl rfl rfl rfl rfl rfl rfl rfl rfl rfl|(exfalso;omega))
  · have htc:=tc_no g.good g.own g.tc 4 (s:Nat) 0 0 0 [] (by exact he)
    have htg:=tcg_call g 4 (by decide) (s:Nat) 0 0 0 htc
    rw [show q.call 4 (s:Nat) 0 0 0 []=(q.drop (s:Nat)).2 from rfl] at htg
    refine ⟨_,t',A,htg,k1,hca,LocR.mk (loc_x hmix b45 rfl ?_) pa_cp plain_none⟩
    unfold c45
    clear htg htc k1 hca
    unfold tcN bkN rdN cpE
    generalize q.drop (s:Nat)=r at *
    rcases (show w=5 by omega) with rfl
    all_goals
      (refine wx_Ki ?_;repeat' (first|with_reducible refine And.intro ?_ ?_|intro hsp))
      all_goals first|exact end_R rfl plain_none rfl rfl rfl rfl rfl rfl rfl rfl rfl rfl rfl rfl rfl|(exfalso;omega)
theorem wr_tc {s k i v:Nat} (g:TcG q A) (l1:s < 4) (l3:k < 8) (l5:i < 64) (he:(q.write (s:Nat) ((k:Int) * 64+(i:Nat)) (v:Nat)).1=0):TcR (q.write (s:Nat) ((k:Int) * 64+(i:Nat)) (v:Nat)).2 (updA A s ((A s).write ((k:Int) * 64+(i:Nat)) (v:Nat)).2):=by
 have e:((k:Int) * 64+(i:Nat))=((k * 64+i:Nat):Int):=by omega
 rw [e] at he ⊢
 exact tc_write g.good g.own g.tc l1 l3 l5 he
set_option maxHeartbeats 3200000 in
theorem l_call_write (g:TcG q A) (h:TOk q.L t) (x:Cp) (hx:okP x) (hw:x.w % 8=6∨x.w % 8=7):∃ q' t' A',TcG q' A'∧TOk q'.L t'∧(q'.a=q.a∧q'.n=q.n)∧LocR 45 [.agg (cpE x)] q t A (.tup []) q' t' A':=by
  obtain ⟨b1,b2,b3,b4,b5,b6⟩:=hx
  have f1:((x.s:Nat):Int).tmod 4=((x.s % 4:Nat):Int):=tmn x.s 4
  have f2:((x.o:Nat):Int).tmod 4=((x.o % 4:Nat):Int):=tmn x.o 4
  have f3:((x.k:Nat):Int).tmod 8=((x.k % 8:Nat):Int):=tmn x.k 8
  have f4:((x.w:Nat):Int).tmod 8=((x.w % 8:Nat):Int):=tmn x.w 8
  have f5:((x.i:Nat):Int).tmod 64=((x.i % 64:Nat):Int):=tmn x.i 64
  have l1:x.s % 4 < 4:=Nat.mod_lt _ (by decide)
  have l2:x.o % 4 < 4:=Nat.mod_lt _ (by decide)
  have l3:x.k % 8 < 8:=Nat.mod_lt _ (by decide)
  have l5:x.i % 64 < 64:=Nat.mod_lt _ (by decide)
  generalize x.s % 4=s at *
  generalize x.o % 4=o at *
  generalize x.k % 8=k at *
  generalize x.i % 64=i at *
  generalize x.w % 8=w at *
  obtain ⟨t',k1,c1⟩:=b_Write g.good h (s:Nat) ((k:Int) * 64+(i:Nat)) (x.v:Nat)
  have hca:=call_a (b:=q) 6 (s:Nat) 0 ((k:Int) * 64+(i:Nat)) (x.v:Nat) []
  rw [show q.call 6 (s:Nat) 0 ((k:Int) * 64+(i:Nat)) (x.v:Nat) []=q.write (s:Nat) ((k:Int) * 64+(i:Nat)) (x.v:Nat) from rfl] at hca
  by_cases he:(q.write (s:Nat) ((k:Int) * 64+(i:Nat)) (x.v:Nat)).1=0
  · have htc:=wr_tc g l1 l3 l5 he
    have htg:=tcg_call (A':=updA A s ((A s).write ((k:Int) * 64+(i:Nat)) (x.v:Nat)).2) g 6 (by decide) (s:Nat) 0 ((k:Int) * 64+(i:Nat)) (x.v:Nat) htc
    rw [show q.call 6 (s:Nat) 0 ((k:Int) * 64+(i:Nat)) (x.v:Nat) []=q.write (s:Nat) ((k:Int) * 64+(i:Nat)) (x.v:Nat) from rfl] at htg
    have c2:=p_write (s:=A s) (a:=(k:Int) * 64+(i:Nat)) (b:=(x.v:Nat))
    have c3:=c2
    rw [he] at c1
    refine ⟨_,t',updA A s ((A s).write ((k:Int) * 64+(i:Nat)) (x.v:Nat)).2,htg,k1,hca,LocR.mk (loc_x hmix b45 rfl ?_) pa_cp plain_none⟩
    unfold c45
    clear htg htc k1 hca he
    unfold tcN bkN rdN cpE
    generalize q.write (s:Nat) ((k:Int) * 64+(i:Nat)) (x.v:Nat)=r at *
    rcases (show s=0∨s=1∨s=2∨s=3 by omega) with rfl|rfl|rfl|rfl
    all_goals first
      | (exfalso;omega)
      | ((rcases (show w = 6 ∨ w = 7 by omega) with rfl | rfl) <;>
          (refine wx_Kin ?_;repeat' (first|with_reducible refine And.intro ?_ ?_|intro hsp)) <;>
          first|exact end_R rfl plain_none rfl rfl rfl rfl rfl rfl rfl rfl rfl rfl rfl rfl rfl|(exfalso;omega))
  · have htc:=tc_no g.good g.own g.tc 6 (s:Nat) 0 ((k:Int) * 64+(i:Nat)) (x.v:Nat) [] (by exact he)
    have htg:=tcg_call g 6 (by decide) (s:Nat) 0 ((k:Int) * 64+(i:Nat)) (x.v:Nat) htc
    rw [show q.call 6 (s:Nat) 0 ((k:Int) * 64+(i:Nat)) (x.v:Nat) []=q.write (s:Nat) ((k:Int) * 64+(i:Nat)) (x.v:Nat) from rfl] at htg
    refine ⟨_,t',A,htg,k1,hca,LocR.mk (loc_x hmix b45 rfl ?_) pa_cp plain_none⟩
    unfold c45
    clear htg htc k1 hca
    unfold tcN bkN rdN cpE
    generalize q.write (s:Nat) ((k:Int) * 64+(i:Nat)) (x.v:Nat)=r at *
    rcases (show w=6∨w=7 by omega) with rfl|rfl
    all_goals
      (refine wx_Ki ?_;repeat' (first|with_reducible refine And.intro ?_ ?_|intro hsp))
      all_goals first|exact end_R rfl plain_none rfl rfl rfl rfl rfl rfl rfl rfl rfl rfl rfl rfl rfl|(exfalso;omega)
set_option maxHeartbeats 3200000 in
theorem l_call_take (g:TcG q A) (h:TOk q.L t) (x:Cp) (hx:okP x) (hw:x.w % 8=3):∃ q' t' A',TcG q' A'∧TOk q'.L t'∧(q'.a=q.a∧q'.n=q.n)∧LocR 45 [.agg (cpE x)] q t A (.tup []) q' t' A':=by
  obtain ⟨b1,b2,b3,b4,b5,b6⟩:=hx
  have f1:((x.s:Nat):Int).tmod 4=((x.s % 4:Nat):Int):=tmn x.s 4
  have f2:((x.o:Nat):Int).tmod 4=((x.o % 4:Nat):Int):=tmn x.o 4
  have f3:((x.k:Nat):Int).tmod 8=((x.k % 8:Nat):Int):=tmn x.k 8
  have f4:((x.w:Nat):Int).tmod 8=((x.w % 8:Nat):Int):=tmn x.w 8
  have f5:((x.i:Nat):Int).tmod 64=((x.i % 64:Nat):Int):=tmn x.i 64
  have l1:x.s % 4 < 4:=Nat.mod_lt _ (by decide)
  have l2:x.o % 4 < 4:=Nat.mod_lt _ (by decide)
  have l3:x.k % 8 < 8:=Nat.mod_lt _ (by decide)
  have l5:x.i % 64 < 64:=Nat.mod_lt _ (by decide)
  generalize x.s % 4=s at *
  generalize x.o % 4=o at *
  generalize x.k % 8=k at *
  generalize x.i % 64=i at *
  generalize x.w % 8=w at *
  obtain ⟨t',k1,c1⟩:=b_Take h (s:Nat) (o:Nat)
  have hca:=call_a (b:=q) 3 (s:Nat) (o:Nat) 0 0 []
  rw [show q.call 3 (s:Nat) (o:Nat) 0 0 []=(q.take (s:Nat) (o:Nat)).2 from rfl] at hca
  by_cases he:(q.take (s:Nat) (o:Nat)).2.1=0
  · have htc:=tc_take g.good g.tc l1 l2 he
    have htg:=tcg_call (A':=updA A o (cpyN (A s) (A o) 8)) g 3 (by decide) (s:Nat) (o:Nat) 0 0 htc
    rw [show q.call 3 (s:Nat) (o:Nat) 0 0 []=(q.take (s:Nat) (o:Nat)).2 from rfl] at htg
    have hne:=take_neq he
    have c3:LocL 112 [.int .i64 (s:Nat),.int .i64 (o:Nat)] A (.tup []) (updA A o (cpyN (A s) (A o) 8)):=l_copy (by omega) (by omega) (by omega) (g.tc.sp s (by omega)) (g.tc.sp o (by omega))
    have c2:=c3
    rw [he] at c1
    refine ⟨_,t',updA A o (cpyN (A s) (A o) 8),htg,k1,hca,LocR.mk (loc_x hmix b45 rfl ?_) pa_cp plain_none⟩
    unfold c45
    clear htg htc k1 hca he
    unfold tcN bkN rdN cpE
    generalize q.take (s:Nat) (o:Nat)=r at *
    rcases (show s=0∨s=1∨s=2∨s=3 by omega) with rfl|rfl|rfl|rfl<;>rcases (show o=0∨o=1∨o=2∨o=3 by omega) with rfl|rfl|rfl|rfl
    all_goals first
      | (exfalso;omega)
      | ((rcases (show w = 3 by omega) with rfl) <;>
          (refine wx_Ki ?_;repeat' (first|with_reducible refine And.intro ?_ ?_|intro hsp)) <;>
          first|exact end_R rfl plain_none rfl rfl rfl rfl rfl rfl rfl rfl rfl rfl rfl rfl rfl|(exfalso;omega))
  · have htc:=tc_no g.good g.own g.tc 3 (s:Nat) (o:Nat) 0 0 [] (by exact he)
    have htg:=tcg_call g 3 (by decide) (s:Nat) (o:Nat) 0 0 htc
    rw [show q.call 3 (s:Nat) (o:Nat) 0 0 []=(q.take (s:Nat) (o:Nat)).2 from rfl] at htg
    refine ⟨_,t',A,htg,k1,hca,LocR.mk (loc_x hmix b45 rfl ?_) pa_cp plain_none⟩
    unfold c45
    clear htg htc k1 hca
    unfold tcN bkN rdN cpE
    generalize q.take (s:Nat) (o:Nat)=r at *
    rcases (show w=3 by omega) with rfl
    all_goals
      (refine wx_Ki ?_;repeat' (first|with_reducible refine And.intro ?_ ?_|intro hsp))
      all_goals first|exact end_R rfl plain_none rfl rfl rfl rfl rfl rfl rfl rfl rfl rfl rfl rfl rfl|(exfalso;omega)
set_option maxHeartbeats 3200000 in
theorem l_call_revert (g:TcG q A) (h:TOk q.L t) (x:Cp) (hx:okP x) (hw:x.w % 8=4):∃ q' t' A',TcG q' A'∧TOk q'.L t'∧(q'.a=q.a∧q'.n=q.n)∧LocR 45 [.agg (cpE x)] q t A (.tup []) q' t' A':=by
  obtain ⟨b1,b2,b3,b4,b5,b6⟩:=hx
  have f1:((x.s:Nat):Int).tmod 4=((x.s % 4:Nat):Int):=tmn x.s 4
  have f2:((x.o:Nat):Int).tmod 4=((x.o % 4:Nat):Int):=tmn x.o 4
  have f3:((x.k:Nat):Int).tmod 8=((x.k % 8:Nat):Int):=tmn x.k 8
  have f4:((x.w:Nat):Int).tmod 8=((x.w % 8:Nat):Int):=tmn x.w 8
  have f5:((x.i:Nat):Int).tmod 64=((x.i % 64:Nat):Int):=tmn x.i 64
  have l1:x.s % 4 < 4:=Nat.mod_lt _ (by decide)
  have l2:x.o % 4 < 4:=Nat.mod_lt _ (by decide)
  have l3:x.k % 8 < 8:=Nat.mod_lt _ (by decide)
  have l5:x.i % 64 < 64:=Nat.mod_lt _ (by decide)
  generalize x.s % 4=s at *
  generalize x.o % 4=o at *
  generalize x.k % 8=k at *
  generalize x.i % 64=i at *
  generalize x.w % 8=w at *
  obtain ⟨t',k1,c1⟩:=b_Revert g.good h (s:Nat) (o:Nat)
  have hca:=call_a (b:=q) 5 (s:Nat) (o:Nat) 0 0 []
  rw [show q.call 5 (s:Nat) (o:Nat) 0 0 []=(q.revert (s:Nat) (o:Nat)).2 from rfl] at hca
  by_cases he:(q.revert (s:Nat) (o:Nat)).2.1=0
  · have htc:=tc_revert g.good g.tc l1 l2 he
    have htg:=tcg_call (A':=updA A s (cpyN (A o) (A s) 8)) g 5 (by decide) (s:Nat) (o:Nat) 0 0 htc
    rw [show q.call 5 (s:Nat) (o:Nat) 0 0 []=(q.revert (s:Nat) (o:Nat)).2 from rfl] at htg
    have hne:=revert_neq he
    have c3:LocL 112 [.int .i64 (o:Nat),.int .i64 (s:Nat)] A (.tup []) (updA A s (cpyN (A o) (A s) 8)):=l_copy (by omega) (by omega) (by omega) (g.tc.sp o (by omega)) (g.tc.sp s (by omega))
    have c2:=c3
    rw [he] at c1
    refine ⟨_,t',updA A s (cpyN (A o) (A s) 8),htg,k1,hca,LocR.mk (loc_x hmix b45 rfl ?_) pa_cp plain_none⟩
    unfold c45
    clear htg htc k1 hca he
    unfold tcN bkN rdN cpE
    generalize q.revert (s:Nat) (o:Nat)=r at *
    rcases (show s=0∨s=1∨s=2∨s=3 by omega) with rfl|rfl|rfl|rfl<;>rcases (show o=0∨o=1∨o=2∨o=3 by omega) with rfl|rfl|rfl|rfl
    all_goals first
      | (exfalso;omega)
      | ((rcases (show w = 4 by omega) with rfl) <;>
          (refine wx_Ki ?_;repeat' (first|with_reducible refine And.intro ?_ ?_|intro hsp)) <;>
          first|exact end_R rfl plain_none rfl rfl rfl rfl rfl rfl rfl rfl rfl rfl rfl rfl rfl|(exfalso;omega))
  · have htc:=tc_no g.good g.own g.tc 5 (s:Nat) (o:Nat) 0 0 [] (by exact he)
    have htg:=tcg_call g 5 (by decide) (s:Nat) (o:Nat) 0 0 htc
    rw [show q.call 5 (s:Nat) (o:Nat) 0 0 []=(q.revert (s:Nat) (o:Nat)).2 from rfl] at htg
    refine ⟨_,t',A,htg,k1,hca,LocR.mk (loc_x hmix b45 rfl ?_) pa_cp plain_none⟩
    unfold c45
    clear htg htc k1 hca
    unfold tcN bkN rdN cpE
    generalize q.revert (s:Nat) (o:Nat)=r at *
    rcases (show w=4 by omega) with rfl
    all_goals
      (refine wx_Ki ?_;repeat' (first|with_reducible refine And.intro ?_ ?_|intro hsp))
      all_goals first|exact end_R rfl plain_none rfl rfl rfl rfl rfl rfl rfl rfl rfl rfl rfl rfl rfl|(exfalso;omega)
theorem l_call (g:TcG q A) (h:TOk q.L t) (x:Cp) (hx:okP x):∃ q' t' A',TcG q' A'∧TOk q'.L t'∧(q'.a=q.a∧q'.n=q.n)∧LocR 45 [.agg (cpE x)] q t A (.tup []) q' t' A':=by
 have hlt:x.w % 8 < 8:=Nat.mod_lt _ (by decide)
 by_cases c0:2≤x.w % 8
 ·rcases (show x.w % 8=2∨x.w % 8=3∨x.w % 8=4∨x.w % 8=5∨(x.w % 8=6∨x.w % 8=7) by omega) with c|c|c|c|c
  ·exact l_call_unmap g h x hx c
  ·exact l_call_take g h x hx c
  ·exact l_call_revert g h x hx c
  ·exact l_call_drop g h x hx c
  ·exact l_call_write g h x hx c
 ·exact l_call_map g h x hx c0
end
end Go.Proofs.YtphggldkligldaaGreat.Sh
