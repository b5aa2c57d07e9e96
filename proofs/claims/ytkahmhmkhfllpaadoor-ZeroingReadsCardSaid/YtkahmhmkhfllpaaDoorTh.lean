/-
 Counts of both systems.
-/
import Derived.Test.YtkahmhmkhfllpaaDoorVmC
set_option linter.unusedSimpArgs false
set_option linter.unusedVariables false
namespace Go.Pol
open Go.Am
def cntH (G:Nat→Bool):Nat→Nat
 | 0 => 0
 | n+1=>cntH G n+if n % 16=0∧G (n / 16)=true then 1 else 0
theorem cntH_le {G:Nat→Bool}:∀ n,cntH G n≤n
 | 0=>Nat.le_refl _
 | n+1=>by have:=cntH_le (G:=G) n;unfold cntH;split<;>omega
theorem cntH_16 {G:Nat→Bool} {g:Nat}:∀ j,j≤15→cntH G (g * 16+(j+1))=cntH G (g * 16)+if G g=true then 1 else 0
 | 0,_=>by
  show cntH G (g * 16)+(if g * 16 % 16=0∧G (g * 16 / 16)=true then 1 else 0)=_
  rw [show g * 16 / 16=g by omega]
  congr 1
  by_cases h:G g=true
  ·rw [if_pos h,if_pos ⟨by omega,h⟩]
  ·rw [if_neg h,if_neg fun hh=>h hh.2]
 | j+1,h=>by
  show cntH G (g * 16+(j+1))+(if (g * 16+(j+1)) % 16=0∧G ((g * 16+(j+1)) / 16)=true then 1 else 0)=_
  rw [cntH_16 j (by omega),if_neg (c:=(g * 16+(j+1)) % 16=0∧G ((g * 16+(j+1)) / 16)=true) fun h=>by omega];rfl
theorem cntH_G {G:Nat→Bool}:∀ g,cntH G (g * 16)=cntG G g
 | 0=>rfl
 | g+1=>by
  rw [show (g+1) * 16=g * 16+(15+1) by omega,cntH_16 15 (by omega),cntH_G g];rfl
theorem cntK_y {K:Nat→Int} {v:Int} {n:Nat} (h:K n=v):((cntK K v (n+1):Nat):Int)=(cntK K v n:Nat)+1:=by
 show ((cntK K v n+(if K n=v then 1 else 0):Nat):Int)=_;rw [if_pos h];omega
theorem cntK_n {K:Nat→Int} {v:Int} {n:Nat} (h:¬ K n=v):((cntK K v (n+1):Nat):Int)=(cntK K v n:Nat):=by
 show ((cntK K v n+(if K n=v then 1 else 0):Nat):Int)=_;rw [if_neg h];omega
theorem cntH_y {G:Nat→Bool} {n:Nat} (h:fst (n:Nat)) (h2:G (n / 16)=true):((cntH G (n+1):Nat):Int)=(cntH G n:Nat)+1:=by
 obtain ⟨g,e,_⟩:=fst_nat h
 show ((cntH G n+(if n % 16=0∧G (n / 16)=true then 1 else 0):Nat):Int)=_;rw [if_pos ⟨by omega,h2⟩];omega
theorem cntH_n {G:Nat→Bool} {n:Nat} (hn:n < 1024) (h:¬ (fst (n:Nat)∧G (n / 16)=true)):((cntH G (n+1):Nat):Int)=(cntH G n:Nat):=by
 show ((cntH G n+(if n % 16=0∧G (n / 16)=true then 1 else 0):Nat):Int)=_
 rw [if_neg fun h2=>h ⟨⟨by omega,by omega,by rw [Int.tmod_eq_emod_of_nonneg (by omega)];omega⟩,h2.2⟩];omega
theorem counts_plain {s:Sy}:∀ x ∈ s.counts,Plain x:=fun x hx=>by
 simp only [Sy.counts,List.mem_cons,List.not_mem_nil,or_false] at hx
 rcases hx with rfl|rfl|rfl|rfl|rfl<;>exact plain_int
theorem plain_cE {s:Sy} {e:Int}:Plain (.tup [.agg s.counts,.int .i64 e]):=plain_tup fun x hx=>by
 simp only [List.mem_cons,List.not_mem_nil,or_false] at hx
 rcases hx with rfl|rfl
 ·exact plain_agg counts_plain
 ·exact plain_int
theorem plain_5 {a b c d e:Int}:∀ x ∈ [AV.int .i64 a,.int .i64 b,.int .i64 c,.int .i64 d,.int .i64 e],Plain x:=fun x hx=>by
 simp only [List.mem_cons,List.not_mem_nil,or_false] at hx
 rcases hx with rfl|rfl|rfl|rfl|rfl<;>exact plain_int
theorem plain_4 {a b c d:Int}:∀ x ∈ [AV.int .i64 a,.int .i64 b,.int .i64 c,.int .i64 d],Plain x:=fun x hx=>by
 simp only [List.mem_cons,List.not_mem_nil,or_false] at hx
 rcases hx with rfl|rfl|rfl|rfl<;>exact plain_int
end Go.Pol
namespace Go.Proofs.YtkahmhmkhfllpaaDoor
open Go Go.Am Go.Pol
theorem ppx_Th {p:Prop} (h:p:=by ((first|with_reducible assumption|with_reducible apply rlA_plain _|with_reducible apply plain_flat rlA_plain|with_reducible apply stA_plain|with_reducible apply memT_plain|with_reducible apply sys_plain stA_plain|with_reducible apply rfk_plain stA_plain|with_reducible apply b_plain|with_reducible apply a_plain|with_reducible apply plain_5|with_reducible apply plain_4|with_reducible apply plain_map (fun _=>plain_int)|with_reducible apply plain_map (fun _=>plain_bool)|exact prx_Sd|fail);first|done|fail)):p:=h
theorem wkx_Th {p:Prop} (h:p:=by (refine weak_s (by exact oneOf_of rfl) (by exact subH_of rfl) (by intro hs;(repeat' ((try (conv=>whnf));first|with_reducible exact True.intro|with_reducible refine And.intro ?_ ?_|(with_reducible refine WkX.mk ?_;first|exact wvx_Sd|fail)))) (by intro hs;(try dsimp only);(repeat' (first|with_reducible exact wko_nil|refine wko_plain hs (by first|decide|omega|simp) rfl (by first|rfl) (by (first|exact ppx_Th|fail|((refine plain_app ?_ ?_)<;>(first|exact ppx_Th|fail)))) ?_|refine wko_cells (by first|decide|omega|simp) rfl (by repeat' (first|with_reducible exact wkl_nil|with_reducible refine wkl_cons ?_ ?_|(first|exact wvx_Sd|fail))) ?_|refine wko_loop (by first|decide|omega|simp) rfl (by ((try subst hF);(try subst hF2);exact wkl_sd (wkf_sget (by (repeat' ((try (conv=>whnf));first|with_reducible exact True.intro|with_reducible refine And.intro ?_ ?_|(with_reducible refine WkX.mk ?_;first|exact wvx_Sd|fail))))))) ?_|exact wko_nil))))):p:=h
theorem wth {p q:Prop} (hq:q) (h:HidP q→p:=by (intro hQz;((repeat' ((try (conv=>whnf));first|(with_reducible first|refine run_cons ?_|refine runq_cons ?_|refine code_seq ?_|refine code_reg ?_|refine code_cond ?_|refine run_nil ?_|refine runq_nil ?_|refine rund_op rfl ?_|refine rund_nil ?_|refine code_block ?_|refine code_skip ?_|refine code_exit ?_|refine code_ret ?_|refine code_range ?_|refine rund_fast (by decide +kernel) ?_|refine rund_slow (by decide +kernel) ?_|refine br_tt ?_|refine br_ff ?_|refine br_n ?_|refine br_and ?_|refine br_or ?_|refine br_t (by assumption) ?_|refine br_f (by assumption) ?_|refine eq_i64 (by omega) ?_|refine el_tn ?_)|((with_reducible refine br_dt ?_ ?_);focus omega)|((with_reducible refine br_df ?_ ?_);focus omega)|((with_reducible apply br_dq hQz)<;>(try intro hsp hQz))|((with_reducible refine ck_x ?_ ?_);focus (first|omega|rfl|assumption|decide|(simp only [List.length_map,List.length_cons,List.length_nil];omega)))|(with_reducible first|refine eq_tn ?_|refine eq_tn1 ?_|refine eq_tn2 ?_|refine eq_m1 ?_|refine eq_m2 ?_|refine eq_zm ?_|refine eq_z ?_|refine len_map ?_|refine len_sl ?_|refine len_nils ?_|refine len_own' ?_|refine len_isl ?_|refine eq_u8 (by omega) ?_|refine eq_u16 (by omega) ?_)|refine nthK_of (by with_reducible assumption) ?_|refine nthK_of sys_made ?_|refine eq_of (by with_reducible assumption) ?_|(with_reducible first|refine eq_rfl ?_|refine ChkX.mk (by kernel_rfl) ?_|refine code_q rfl ?_|refine code_d (by decide +kernel) ?_|refine end_go rfl ?_)|refine cx_pureS (by assumption) ?_|refine dcx_pureS (by assumption) ?_|refine qcx_pureS (by assumption) ?_|(refine cx_in hmix b36 rfl ?_;unfold c36)|refine len_map ?_|refine len_isl ?_|refine el_of rfl rfl ?_|refine del_own ?_|refine del_own' rfl ?_|refine as_go rfl ?_|refine rd_go rfl ?_|refine rg_end rfl ?_|refine flat_ownX ?_|refine EqLX.mk ?_|((with_reducible apply br_bq hQz)<;>(try intro hsp hQz))|exact hQz.out))<;>(try (conv=>whnf))))):p:=h ⟨hq⟩
section
variable {s:Sy}
set_option maxHeartbeats 800000 in
theorem p_counts (hg:GoodS s):LocS 32 [] s.a (.tup [.agg s.counts,.int .i64 0]) s.a:=by
 refine LocS.mk (loc_x hmix b32 rfl ?_) a_plain a_plain (fun x hx=>by cases hx) plain_cE
 unfold c32
 unfold Sy.a
 (refine wth ?_;repeat' (first|with_reducible refine And.intro ?_ ?_|intro hsp))
 (refine loop_x [0,2,4,5] (fun (i:Nat)=>[(16,.int .i64 (i:Nat))]) (fun (i:Nat)=>⟨[(0,.cells (sysB s.K s.M s.B (stA s.l s.C s.H))),(1,.cells [.int .i64 0,.int .i64 0,.int .i64 0,.int .i64 0,.int .i64 0]),(2,.cells [.int .i64 (cntK s.K 0 i:Nat),.int .i64 (cntK s.K 1 i:Nat),.int .i64 (cntK s.K 2 i:Nat),.int .i64 (cntK s.K 3 i:Nat),.int .i64 (cntH s.G i:Nat)]),(3,.cells [.ptr 2 0,.ptr 2 1,.ptr 2 2,.ptr 2 3])],4⟩) (fun (i:Nat)=>i≤1024) (fun (i:Nat)=>1024 - i) (0) [] rfl (fun _=>by first|exact Nat.zero_le _|(dsimp only;omega)) ?_ (by ((try (conv=>whnf));exact wkx_Th)) ?_)
 ·exact Nat.zero_le _
 rintro i hi
 have c0:=cntK_le (K:=s.K) (v:=0) i
 have c1:=cntK_le (K:=s.K) (v:=1) i
 have c2:=cntK_le (K:=s.K) (v:=2) i
 have c3:=cntK_le (K:=s.K) (v:=3) i
 have c4:=cntH_le (G:=s.G) i
 by_cases hin:i < 1024
 ·have hk:(sysB s.K s.M s.B (stA s.l s.C s.H))[1+i * 66+0]? = some (.int .i64 (s.K i)):=sys_kind (by omega)
  have hh:(sysB s.K s.M s.B (stA s.l s.C s.H))[1+i * 66+1]? = some (.bool (s.M i)):=sys_huge (by omega)
  have z:=k_first (i:Nat)
  have hkk:=hg.kind i
  have e4:∃ d:Int,((cntH s.G (i+1):Nat):Int)=d∧((s.M i=true∧fst (i:Nat))→d=(cntH s.G i:Nat)+1)∧(¬ (s.M i=true∧fst (i:Nat))→d=(cntH s.G i:Nat)) :=
   ⟨_,rfl,fun h=>cntH_y h.2 h.1,fun h=>cntH_n (by omega) fun h2=>h ⟨h2.2,h2.1⟩⟩
  obtain ⟨d,e4,e5,e6⟩:=e4
  have key:s.K i=0∨s.K i=1∨s.K i=2∨s.K i=3:=by omega
  cases hm:s.M i with
  | false =>
   have e6:=e6 (by rw [hm];simp)
   rw [hm] at hh
   rcases key with h|h|h|h
   ·rw [h] at hk
    (refine wth ?_;repeat' (first|with_reducible refine And.intro ?_ ?_|intro hsp))
    all_goals exact next_x (i+1) [] (by (try dsimp only);omega) (by first|omega|(dsimp only;omega)) rfl (by ((try dsimp only);rw [e4,e6,cntK_y h,cntK_n (v:=1) (by omega),cntK_n (v:=2) (by omega),cntK_n (v:=3) (by omega)]);exact wkx_Th)
   ·rw [h] at hk
    (refine wth ?_;repeat' (first|with_reducible refine And.intro ?_ ?_|intro hsp))
    all_goals exact next_x (i+1) [] (by (try dsimp only);omega) (by first|omega|(dsimp only;omega)) rfl (by ((try dsimp only);rw [e4,e6,cntK_y h,cntK_n (v:=0) (by omega),cntK_n (v:=2) (by omega),cntK_n (v:=3) (by omega)]);exact wkx_Th)
   ·rw [h] at hk
    (refine wth ?_;repeat' (first|with_reducible refine And.intro ?_ ?_|intro hsp))
    all_goals exact next_x (i+1) [] (by (try dsimp only);omega) (by first|omega|(dsimp only;omega)) rfl (by ((try dsimp only);rw [e4,e6,cntK_y h,cntK_n (v:=1) (by omega),cntK_n (v:=0) (by omega),cntK_n (v:=3) (by omega)]);exact wkx_Th)
   ·rw [h] at hk
    (refine wth ?_;repeat' (first|with_reducible refine And.intro ?_ ?_|intro hsp))
    all_goals exact next_x (i+1) [] (by (try dsimp only);omega) (by first|omega|(dsimp only;omega)) rfl (by ((try dsimp only);rw [e4,e6,cntK_y h,cntK_n (v:=1) (by omega),cntK_n (v:=2) (by omega),cntK_n (v:=0) (by omega)]);exact wkx_Th)
  | true =>
   rw [hm] at hh
   have h:=hg.huge i hm
   rw [h] at hk
   by_cases hf:fst (i:Nat)
   ·have e5:=e5 ⟨hm,hf⟩
    rw [decide_eq_true hf] at z
    (refine wth ?_;repeat' (first|with_reducible refine And.intro ?_ ?_|intro hsp))
    all_goals exact next_x (i+1) [] (by (try dsimp only);omega) (by first|omega|(dsimp only;omega)) rfl (by ((try dsimp only);rw [e4,e5,cntK_y h,cntK_n (v:=1) (by omega),cntK_n (v:=0) (by omega),cntK_n (v:=3) (by omega)]);exact wkx_Th)
   ·have e6:=e6 fun h=>hf h.2
    rw [decide_eq_false hf] at z
    (refine wth ?_;repeat' (first|with_reducible refine And.intro ?_ ?_|intro hsp))
    all_goals exact next_x (i+1) [] (by (try dsimp only);omega) (by first|omega|(dsimp only;omega)) rfl (by ((try dsimp only);rw [e4,e6,cntK_y h,cntK_n (v:=1) (by omega),cntK_n (v:=0) (by omega),cntK_n (v:=3) (by omega)]);exact wkx_Th)
 ·obtain rfl:i=1024:=by omega
  have e:=cntH_G (G:=s.G) 64
  have e':cntH s.G 1024=cntG s.G 64:=e
  rw [e']
  (refine wth ?_;repeat' (first|with_reducible refine And.intro ?_ ?_|intro hsp))
  all_goals exact end_s rfl plain_cE rfl (sys_plain stA_plain)
end
end Go.Proofs.YtkahmhmkhfllpaaDoor
