/-
 Protect;what Fork,Drop and where refuse;calls on no table.
-/
import Derived.Test.YtphggldkligldaaYp
import Derived.Test.YtphggldkligldaaSnF
set_option linter.unusedSimpArgs false
set_option linter.unusedVariables false
namespace Go.Proofs.Ytphggldkligldaa.Sh
open Go Go.Am Go.Pol
theorem wx_Yq {p q:Prop} (hq:q) (h:HidP q→p:=by (intro hQz;((repeat' ((try (conv=>whnf));first|(with_reducible first|refine run_cons ?_|refine runq_cons ?_|refine code_seq ?_|refine code_reg ?_|refine code_cond ?_|refine run_nil ?_|refine runq_nil ?_|refine rund_op rfl ?_|refine rund_nil ?_|refine code_block ?_|refine code_skip ?_|refine code_exit ?_|refine code_ret ?_|refine code_range ?_|refine rund_fast (by decide +kernel) ?_|refine rund_slow (by decide +kernel) ?_|refine br_tt ?_|refine br_ff ?_|refine br_n ?_|refine br_and ?_|refine br_or ?_|refine br_t (by assumption) ?_|refine br_f (by assumption) ?_|refine eq_i64 (by omega) ?_|refine el_tn ?_)|((with_reducible refine br_dt ?_ ?_);focus omega)|((with_reducible refine br_df ?_ ?_);focus omega)|((with_reducible apply br_dq hQz)<;>(try intro hsp hQz))|((with_reducible refine ck_x ?_ ?_);focus (first|omega|rfl|assumption|decide|(simp only [List.length_map,List.length_cons,List.length_nil];omega)))|(with_reducible first|refine eq_tn ?_|refine eq_tn1 ?_|refine eq_tn2 ?_|refine eq_m1 ?_|refine eq_m2 ?_|refine eq_zm ?_|refine eq_z ?_|refine len_map ?_|refine len_sl ?_|refine len_nils ?_|refine len_own' ?_|refine len_isl ?_|refine eq_u8 (by omega) ?_|refine eq_u16 (by omega) ?_)|refine eq_of (by with_reducible assumption) ?_|(with_reducible first|refine eq_rfl ?_|refine ChkX.mk (by kernel_rfl) ?_|refine code_q rfl ?_|refine code_d (by decide +kernel) ?_|refine end_go rfl ?_)|refine cx_tab (by assumption) rfl rfl rfl rfl rfl (by decide) rfl ?_|(refine cx_in hmix b53 rfl ?_;unfold c53)|refine cx_locV (by assumption) rfl (by omega) ?_|refine len_map ?_|refine len_isl ?_|refine el_of rfl rfl ?_|refine del_own ?_|refine del_own' rfl ?_|refine as_go rfl ?_|refine rd_go rfl ?_|refine rg_end rfl ?_|refine flat_ownX ?_|refine EqLX.mk ?_|((with_reducible apply br_bq hQz)<;>(try intro hsp hQz))|exact hQz.out))<;>(try (conv=>whnf))))):p:=h ⟨hq⟩
theorem wx_Yqn {p q:Prop} (hq:q) (h:HidP q→p:=by (intro hQz;((repeat' ((try (conv=>whnf));first|(with_reducible first|refine run_cons ?_|refine runq_cons ?_|refine code_seq ?_|refine code_reg ?_|refine code_cond ?_|refine run_nil ?_|refine runq_nil ?_|refine rund_op rfl ?_|refine rund_nil ?_|refine code_block ?_|refine code_skip ?_|refine code_exit ?_|refine code_ret ?_|refine code_range ?_|refine rund_fast (by decide +kernel) ?_|refine rund_slow (by decide +kernel) ?_|refine br_tt ?_|refine br_ff ?_|refine br_n ?_|refine br_and ?_|refine br_or ?_|refine br_t (by assumption) ?_|refine br_f (by assumption) ?_|refine eq_i64 (by omega) ?_|refine el_tn ?_)|((with_reducible refine br_dt ?_ ?_);focus omega)|((with_reducible refine br_df ?_ ?_);focus omega)|((with_reducible apply br_dq hQz)<;>(try intro hsp hQz))|((with_reducible refine ck_x ?_ ?_);focus (first|omega|rfl|assumption|decide|(simp only [List.length_map,List.length_cons,List.length_nil];omega)))|(with_reducible first|refine eq_tn ?_|refine eq_tn1 ?_|refine eq_tn2 ?_|refine eq_m1 ?_|refine eq_m2 ?_|refine eq_zm ?_|refine eq_z ?_|refine len_map ?_|refine len_sl ?_|refine len_nils ?_|refine len_own' ?_|refine len_isl ?_|refine eq_u8 (by omega) ?_|refine eq_u16 (by omega) ?_)|refine mlen_of rfl (by with_reducible assumption) ?_|(with_reducible first|refine eq_rfl ?_|refine ChkX.mk (by kernel_rfl) ?_|refine code_d (by decide +kernel) ?_|refine end_go rfl ?_)|refine cx_tab (by assumption) rfl rfl rfl rfl rfl (by decide) rfl ?_|refine cx_pool (by assumption) rfl rfl rfl (by decide) (by first|exact plain_iv|(simp [plain_int,plain_bool];done)|fail) (by first|exact plain_tvE|exact plain_int|fail) rfl ?_|refine dcx_pool (by assumption) rfl rfl rfl (by first|exact plain_iv|(simp [plain_int,plain_bool];done)|fail) (by first|exact plain_tvE|exact plain_int|fail) rfl rfl ?_|(refine cx_in hmix b53 rfl ?_;unfold c53)|refine cx_locV (by assumption) rfl (by omega) ?_|refine cx_pool (by assumption) rfl rfl rfl (by decide) (by first|(simp [plain_int,plain_bool];done)|fail) plain_t2 rfl ?_|refine dcx_pool (by assumption) rfl rfl rfl (by first|(simp [plain_int,plain_bool];done)|fail) plain_t2 rfl rfl ?_|refine len_map ?_|refine len_isl ?_|refine el_of rfl rfl ?_|refine del_own ?_|refine del_own' rfl ?_|refine as_go rfl ?_|refine rd_go rfl ?_|refine rg_end rfl ?_|refine flat_ownX ?_|refine EqLX.mk ?_|((with_reducible apply br_bq hQz)<;>(try intro hsp hQz))|exact hQz.out))<;>(try (conv=>whnf))))):p:=h ⟨hq⟩
section
variable {L:List Vw} {t:TS} {v:Vw} {s:Nat}
theorem t_Protect (h:TOk L t) (hs:s ∈ t.Q v.1) (hu:t.U s=v) (w:Bool) :
  ∃ t' A B,L=A++v::B∧TOk (A++prV w v::B) t'∧LocT 42 [.int .i64 (v.1:Nat),.int .i64 (v.2.1:Nat),.bool w] t (.int .i64 0) t':=by
 obtain ⟨X,Y,A,B,hQ,hL,hX,hY,hsX,hsY⟩:=h.around hs hu
 have hv:v ∈ L:=by rw [hL];simp
 have hok:=h.ok v hv
 have hm:v.1 < t.m:=by rw [h.hm];exact hok.1
 have hfi:=t_find hok.1 hok.2.1 h.keys (h.entry hs hu)
 have hget:=h.get hs
 rw [hu] at hget
 obtain ⟨i1,hput⟩:=p_put h.pool.inv (s:=s) (i:=v.1) ⟨hm,hQ⟩ (num v.1) (num v.2.1) (num v.2.2.1) (bo w)
 have hT:=h.chg (w:=prV w v) (C:=t.C) hu hQ hL hX hY hsX hsY rfl rfl hok.2.2 (fun f=>by
  have:=h.cnt f
  rw [hL,cnt_app,cnt_cons] at this
  rw [cnt_app,cnt_cons];exact this) ⟨i1,h.pool.m_le,h.pool.n_le,h.pool.n_pos⟩
 refine ⟨_,A,B,hL,hT,LocT.mk (loc_x hmix b42 rfl ?_) plain_iib plain_int⟩
 unfold c42
 obtain ⟨va,vk,vf,vw⟩:=v
 have hput':LocP 68 [.int .i64 (s:Nat),.agg [.int .i64 (va:Nat),.int .i64 (vk:Nat),.int .i64 (vf:Nat),.bool w]] t.n t.m (poolS t.n t.m t.V t.W t.V3 t.V4 t.S) (.int .i64 0) (poolS t.n t.m (updV t.V s (num va)) (updV t.W s (num vk)) (updV t.V3 s (num vf)) (updV t.V4 s (bo w)) t.S):=hput
 unfold vwC at hget
 dsimp only at *
 clear hput
 (refine wx_Yqn ?_;repeat' (first|with_reducible refine And.intro ?_ ?_|intro hsp))
 all_goals exact end_tab rfl plain_int rfl rfl rfl rfl rfl
theorem t_Fork_no (a b:Int) (hn:¬ (inR 64 a∧inR 64 b)):LocT 45 [.int .i64 a,.int .i64 b] t (.tup [.int .i64 0,.int .i64 7]) t:=by
 have k1:=k_arenas2 a b
 rw [if_neg hn] at k1
 refine LocT.mk (loc_x hmix b45 rfl ?_) plain_i2 plain_t2
 unfold c45
 (refine wx_Yq ?_;repeat' (first|with_reducible refine And.intro ?_ ?_|intro hsp))
 all_goals exact end_tab rfl plain_t2 rfl rfl rfl rfl rfl
theorem t_Fork_bad (h:TOk L t) {a b:Nat} {e:Int} (ha:a < 64) (hb:b < 64) (he:(e=2∧a=b)∨(e=8∧a ≠ b∧(ofA b L).length ≠ 0)∨(e=5∧a ≠ b∧(ofA b L).length=0∧2000 < L.length+(ofA a L).length)):LocT 45 [.int .i64 (a:Nat),.int .i64 (b:Nat)] t (.tup [.int .i64 0,.int .i64 e]) t:=by
 have k1:=k_arenas2 (a:Nat) (b:Nat)
 rw [if_pos ⟨inR64 ha,inR64 hb⟩] at k1
 have l1:=h.len_q ha
 have l2:=h.len_q hb
 have hml:(t.E.map keyE).length=L.length:=by rw [List.length_map,h.elen]
 have hLl:=h.len
 have l3:(ofA a L).length≤L.length:=List.length_filter_le ..
 refine LocT.mk (loc_x hmix b45 rfl ?_) plain_i2 plain_t2
 unfold c45
 rcases he with ⟨rfl,h1⟩ | ⟨rfl,h1,h2⟩ | ⟨rfl,h1,h2,h3⟩
 all_goals (refine wx_Yqn ?_;repeat' (first|with_reducible refine And.intro ?_ ?_|intro hsp))
 all_goals first|exact end_tab rfl plain_t2 rfl rfl rfl rfl rfl|(exfalso;omega)
theorem plain_tnl {e:Int}:Plain (.tup [.nils,.int .i64 e]):=plain_tup fun x hx=>by
 simp only [List.mem_cons,List.not_mem_nil,or_false] at hx
 rcases hx with rfl|rfl
 ·exact plain_nils
 ·exact plain_int
theorem t_Drop_no (a:Int) (hn:¬ inR 64 a):LocT 30 [.int .i64 a] t (.tup [.nils,.int .i64 7]) t:=by
 have k1:=k_arenas1 a
 rw [if_neg hn] at k1
 refine LocT.mk (loc_x hmix b30 rfl ?_) plain_i1 plain_tnl
 unfold c30
 (refine wx_Yq ?_;repeat' (first|with_reducible refine And.intro ?_ ?_|intro hsp))
 all_goals exact end_tab rfl plain_tnl rfl rfl rfl rfl rfl
theorem t_where_far (a at_:Int) (w:Bool) (hn:¬ inR 65536 at_):LocT 69 [.int .i64 a,.int .i64 at_,.bool w] t (.tup [.int .i64 0,.int .i64 7]) t:=by
 unfold inR at hn
 refine LocT.mk (loc_x hmix b69 rfl ?_) plain_iib plain_t2
 unfold c69
 (refine wx_Yq ?_;repeat' (first|with_reducible refine And.intro ?_ ?_|intro hsp))
 all_goals first|exact end_tab rfl plain_t2 rfl rfl rfl rfl rfl|(exfalso;omega)
theorem t_where_no (a:Int) (at_:Nat) (w:Bool) (hat:at_ < 65536) (hn:¬ inR 64 a):LocT 69 [.int .i64 a,.int .i64 (at_:Nat),.bool w] t (.tup [.int .i64 0,.int .i64 7]) t:=by
 have hq:=q64 (t:=at_) (by omega)
 have hf:=t_Find_no (t:=t) a ((at_ / 64:Nat):Int) fun h=>hn h.1
 refine LocT.mk (loc_x hmix b69 rfl ?_) plain_iib plain_t2
 unfold c69
 (refine wx_Yq ?_;repeat' (first|with_reducible refine And.intro ?_ ?_|intro hsp))
 all_goals first|exact end_tab rfl plain_t2 rfl rfl rfl rfl rfl|(exfalso;omega)
end
end Go.Proofs.Ytphggldkligldaa.Sh
