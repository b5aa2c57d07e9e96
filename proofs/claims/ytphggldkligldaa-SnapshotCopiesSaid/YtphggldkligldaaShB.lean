/-
 The memory of a pool.
 Looks of a pool.
 tie,untie,least.
 Push,After,Take.
 The calls of a pool,told of lists of slots.
 New.
 New and calls within drawing regions,in any store.
-/
import Derived.Test.YtphggldkligldaaShA
set_option linter.unusedSimpArgs false
set_option linter.unusedVariables false
namespace Go.Proofs.Ytphggldkligldaa.Sh
open Go Go.Am Go.Pol
def z0:PV:=⟨.int .i64 0,plain_int⟩
def w0:PV:=⟨.int .i64 0,plain_int⟩
def b0:PV:=⟨.bool false,plain_bool⟩
def sel (V W V3 V4:Nat→PV) (L N P:Nat→Int) (k:Nat):AV:=if k % 7=0 then (V (k / 7)).1 else if k % 7=1 then (W (k / 7)).1 else if k % 7=2 then (V3 (k / 7)).1 else if k % 7=3 then (V4 (k / 7)).1 else if k % 7=4 then .int .i64 (L (k / 7)) else if k % 7=5 then .int .i64 (N (k / 7)) else .int .i64 (P (k / 7))
def cellsB (n:Nat) (V W V3 V4:Nat→PV) (L N P:Nat→Int):List AV:=memV (n * 7) (sel V W V3 V4 L N P)
theorem plain_q4 {v w v3 v4:PV}:Plain (.agg [v.1,w.1,v3.1,v4.1]):=plain_agg fun x hx=>by
 simp only [List.mem_cons,List.not_mem_nil,or_false] at hx
 rcases hx with rfl|rfl|rfl|rfl
 ·exact v.2
 ·exact w.2
 ·exact v3.2
 ·exact v4.2
theorem plain_zq:Plain (.agg [.int .i64 0,.int .i64 0,.int .i64 0,.bool false]):=plain_agg fun x hx=>by
 simp only [List.mem_cons,List.not_mem_nil,or_false] at hx
 rcases hx with rfl|rfl|rfl|rfl<;>first|exact plain_int|exact plain_bool
section
variable {n m:Nat} {V W V3 V4:Nat→PV} {L N P A B C:Nat→Int} {s:Nat}
theorem cells_len:(cellsB n V W V3 V4 L N P).length=n * 7:=memV_len ..
theorem cells_plain:∀ x ∈ cellsB n V W V3 V4 L N P,Plain x:=memV_plain fun i=>by
 unfold sel
 repeat' split
 all_goals first|exact plainV|exact plain_int
theorem gc0 (h:s < n):(cellsB n V W V3 V4 L N P)[s * 7]? = some ((V s).1):=by rw [cellsB,memV_get (by omega)];unfold sel;rw [if_pos (by omega),show (s * 7) / 7=s by omega]
theorem gc0b (h:s < n):(cellsB n V W V3 V4 L N P)[s * 7+1]? = some ((W s).1):=by rw [cellsB,memV_get (by omega)];unfold sel;rw [if_neg (by omega),if_pos (by omega),show (s * 7+1) / 7=s by omega]
theorem gc0c (h:s < n):(cellsB n V W V3 V4 L N P)[s * 7+2]? = some ((V3 s).1):=by rw [cellsB,memV_get (by omega)];unfold sel;rw [if_neg (by omega),if_neg (by omega),if_pos (by omega),show (s * 7+2) / 7=s by omega]
theorem gc0d (h:s < n):(cellsB n V W V3 V4 L N P)[s * 7+3]? = some ((V4 s).1):=by rw [cellsB,memV_get (by omega)];unfold sel;rw [if_neg (by omega),if_neg (by omega),if_neg (by omega),if_pos (by omega),show (s * 7+3) / 7=s by omega]
theorem gc1 (h:s < n):(cellsB n V W V3 V4 L N P)[s * 7+4]? = some (.int .i64 (L s)):=by rw [cellsB,memV_get (by omega)];unfold sel;rw [if_neg (by omega),if_neg (by omega),if_neg (by omega),if_neg (by omega),if_pos (by omega),show (s * 7+4) / 7=s by omega]
theorem gc2 (h:s < n):(cellsB n V W V3 V4 L N P)[s * 7+5]? = some (.int .i64 (N s)):=by rw [cellsB,memV_get (by omega)];unfold sel;rw [if_neg (by omega),if_neg (by omega),if_neg (by omega),if_neg (by omega),if_neg (by omega),if_pos (by omega),show (s * 7+5) / 7=s by omega]
theorem gc3 (h:s < n):(cellsB n V W V3 V4 L N P)[s * 7+6]? = some (.int .i64 (P s)):=by rw [cellsB,memV_get (by omega)];unfold sel;rw [if_neg (by omega),if_neg (by omega),if_neg (by omega),if_neg (by omega),if_neg (by omega),if_neg (by omega),show (s * 7+6) / 7=s by omega]
theorem sc0 {v:PV}:(cellsB n V W V3 V4 L N P).set (s * 7) (v.1)=cellsB n (updV V s v) W V3 V4 L N P:=by
 rw [cellsB,memV_set,cellsB];refine memV_congr fun k hk=>?_
 have hd:k=k / 7 * 7+k % 7:=by omega
 have hm:k % 7=0∨k % 7=1∨k % 7=2∨k % 7=3∨k % 7=4∨k % 7=5∨k % 7=6:=by omega
 unfold sel
 rcases hm with h|h|h|h|h|h|h
 all_goals (by_cases e:k / 7=s)
 all_goals simp [updV,updI,h,e,z0,w0,b0]
 all_goals omega
theorem sc0z:(cellsB n V W V3 V4 L N P).set (s * 7) (z0.1)=cellsB n (updV V s z0) W V3 V4 L N P:=by
 rw [cellsB,memV_set,cellsB];refine memV_congr fun k hk=>?_
 have hd:k=k / 7 * 7+k % 7:=by omega
 have hm:k % 7=0∨k % 7=1∨k % 7=2∨k % 7=3∨k % 7=4∨k % 7=5∨k % 7=6:=by omega
 unfold sel
 rcases hm with h|h|h|h|h|h|h
 all_goals (by_cases e:k / 7=s)
 all_goals simp [updV,updI,h,e,z0,w0,b0]
 all_goals omega
theorem sc0b {v:PV}:(cellsB n V W V3 V4 L N P).set (s * 7+1) (v.1)=cellsB n V (updV W s v) V3 V4 L N P:=by
 rw [cellsB,memV_set,cellsB];refine memV_congr fun k hk=>?_
 have hd:k=k / 7 * 7+k % 7:=by omega
 have hm:k % 7=0∨k % 7=1∨k % 7=2∨k % 7=3∨k % 7=4∨k % 7=5∨k % 7=6:=by omega
 unfold sel
 rcases hm with h|h|h|h|h|h|h
 all_goals (by_cases e:k / 7=s)
 all_goals simp [updV,updI,h,e,z0,w0,b0]
 all_goals omega
theorem sc0bz:(cellsB n V W V3 V4 L N P).set (s * 7+1) (w0.1)=cellsB n V (updV W s w0) V3 V4 L N P:=by
 rw [cellsB,memV_set,cellsB];refine memV_congr fun k hk=>?_
 have hd:k=k / 7 * 7+k % 7:=by omega
 have hm:k % 7=0∨k % 7=1∨k % 7=2∨k % 7=3∨k % 7=4∨k % 7=5∨k % 7=6:=by omega
 unfold sel
 rcases hm with h|h|h|h|h|h|h
 all_goals (by_cases e:k / 7=s)
 all_goals simp [updV,updI,h,e,z0,w0,b0]
 all_goals omega
theorem sc0c {v:PV}:(cellsB n V W V3 V4 L N P).set (s * 7+2) (v.1)=cellsB n V W (updV V3 s v) V4 L N P:=by
 rw [cellsB,memV_set,cellsB];refine memV_congr fun k hk=>?_
 have hd:k=k / 7 * 7+k % 7:=by omega
 have hm:k % 7=0∨k % 7=1∨k % 7=2∨k % 7=3∨k % 7=4∨k % 7=5∨k % 7=6:=by omega
 unfold sel
 rcases hm with h|h|h|h|h|h|h
 all_goals (by_cases e:k / 7=s)
 all_goals simp [updV,updI,h,e,z0,w0,b0]
 all_goals omega
theorem sc0cz:(cellsB n V W V3 V4 L N P).set (s * 7+2) (w0.1)=cellsB n V W (updV V3 s w0) V4 L N P:=by
 rw [cellsB,memV_set,cellsB];refine memV_congr fun k hk=>?_
 have hd:k=k / 7 * 7+k % 7:=by omega
 have hm:k % 7=0∨k % 7=1∨k % 7=2∨k % 7=3∨k % 7=4∨k % 7=5∨k % 7=6:=by omega
 unfold sel
 rcases hm with h|h|h|h|h|h|h
 all_goals (by_cases e:k / 7=s)
 all_goals simp [updV,updI,h,e,z0,w0,b0]
 all_goals omega
theorem sc0d {v:PV}:(cellsB n V W V3 V4 L N P).set (s * 7+3) (v.1)=cellsB n V W V3 (updV V4 s v) L N P:=by
 rw [cellsB,memV_set,cellsB];refine memV_congr fun k hk=>?_
 have hd:k=k / 7 * 7+k % 7:=by omega
 have hm:k % 7=0∨k % 7=1∨k % 7=2∨k % 7=3∨k % 7=4∨k % 7=5∨k % 7=6:=by omega
 unfold sel
 rcases hm with h|h|h|h|h|h|h
 all_goals (by_cases e:k / 7=s)
 all_goals simp [updV,updI,h,e,z0,w0,b0]
 all_goals omega
theorem sc0dz:(cellsB n V W V3 V4 L N P).set (s * 7+3) (b0.1)=cellsB n V W V3 (updV V4 s b0) L N P:=by
 rw [cellsB,memV_set,cellsB];refine memV_congr fun k hk=>?_
 have hd:k=k / 7 * 7+k % 7:=by omega
 have hm:k % 7=0∨k % 7=1∨k % 7=2∨k % 7=3∨k % 7=4∨k % 7=5∨k % 7=6:=by omega
 unfold sel
 rcases hm with h|h|h|h|h|h|h
 all_goals (by_cases e:k / 7=s)
 all_goals simp [updV,updI,h,e,z0,w0,b0]
 all_goals omega
theorem sc1 {v:Int}:(cellsB n V W V3 V4 L N P).set (s * 7+4) (.int .i64 v)=cellsB n V W V3 V4 (updI L s v) N P:=by
 rw [cellsB,memV_set,cellsB];refine memV_congr fun k hk=>?_
 have hd:k=k / 7 * 7+k % 7:=by omega
 have hm:k % 7=0∨k % 7=1∨k % 7=2∨k % 7=3∨k % 7=4∨k % 7=5∨k % 7=6:=by omega
 unfold sel
 rcases hm with h|h|h|h|h|h|h
 all_goals (by_cases e:k / 7=s)
 all_goals simp [updV,updI,h,e,z0,w0,b0]
 all_goals omega
theorem sc2 {v:Int}:(cellsB n V W V3 V4 L N P).set (s * 7+5) (.int .i64 v)=cellsB n V W V3 V4 L (updI N s v) P:=by
 rw [cellsB,memV_set,cellsB];refine memV_congr fun k hk=>?_
 have hd:k=k / 7 * 7+k % 7:=by omega
 have hm:k % 7=0∨k % 7=1∨k % 7=2∨k % 7=3∨k % 7=4∨k % 7=5∨k % 7=6:=by omega
 unfold sel
 rcases hm with h|h|h|h|h|h|h
 all_goals (by_cases e:k / 7=s)
 all_goals simp [updV,updI,h,e,z0,w0,b0]
 all_goals omega
theorem sc3 {v:Int}:(cellsB n V W V3 V4 L N P).set (s * 7+6) (.int .i64 v)=cellsB n V W V3 V4 L N (updI P s v):=by
 rw [cellsB,memV_set,cellsB];refine memV_congr fun k hk=>?_
 have hd:k=k / 7 * 7+k % 7:=by omega
 have hm:k % 7=0∨k % 7=1∨k % 7=2∨k % 7=3∨k % 7=4∨k % 7=5∨k % 7=6:=by omega
 unfold sel
 rcases hm with h|h|h|h|h|h|h
 all_goals (by_cases e:k / 7=s)
 all_goals simp [updV,updI,h,e,z0,w0,b0]
 all_goals omega
def poolB (n m:Nat) (fr:Int) (V W V3 V4:Nat→PV) (L N P A B C:Nat→Int):List (Nat × AObj):=[(0,.cells [.sl 1 0 n n 7,.sl 2 0 m m 3,.int .i64 fr]),(1,.cells (cellsB n V W V3 V4 L N P)),(2,.cells (endsB m A B C))]
theorem tkV (h:s < n):((cellsB n V W V3 V4 L N P).drop (s * 7)).take 4=[(V s).1,(W s).1,(V3 s).1,(V4 s).1]:=by
 refine List.ext_getElem? fun j=>?_
 rw [List.getElem?_take,List.getElem?_drop]
 match j with
 | 0=>exact gc0 h
 | 1=>exact gc0b h
 | 2=>exact gc0c h
 | 3=>exact gc0d h
 | j+4=>rw [if_neg (by omega)];rfl
end
end Go.Proofs.Ytphggldkligldaa.Sh
namespace Go.Proofs.Ytphggldkligldaa.Sh
open Go Go.Am Go.Pol
theorem wx_Mb {p q:Prop} (hq:q) (h:HidP q→p:=by (intro hQz;((repeat' ((try (conv=>whnf));first|(with_reducible first|refine run_cons ?_|refine runq_cons ?_|refine code_seq ?_|refine code_reg ?_|refine code_cond ?_|refine run_nil ?_|refine runq_nil ?_|refine rund_op rfl ?_|refine rund_nil ?_|refine code_block ?_|refine code_skip ?_|refine code_exit ?_|refine code_ret ?_|refine code_range ?_|refine rund_fast (by decide +kernel) ?_|refine rund_slow (by decide +kernel) ?_|refine br_tt ?_|refine br_ff ?_|refine br_n ?_|refine br_and ?_|refine br_or ?_|refine br_t (by assumption) ?_|refine br_f (by assumption) ?_|refine eq_i64 (by omega) ?_|refine el_tn ?_)|((with_reducible refine br_dt ?_ ?_);focus omega)|((with_reducible refine br_df ?_ ?_);focus omega)|((with_reducible apply br_dq hQz)<;>(try intro hsp hQz))|((with_reducible refine ck_x ?_ ?_);focus (first|omega|rfl|assumption|decide|(simp only [List.length_map,List.length_cons,List.length_nil];omega)))|(with_reducible first|refine eq_tn ?_|refine eq_tn1 ?_|refine eq_tn2 ?_|refine eq_m1 ?_|refine eq_m2 ?_|refine eq_zm ?_|refine eq_z ?_|refine len_map ?_|refine len_sl ?_|refine len_nils ?_|refine len_own' ?_|refine len_isl ?_|refine eq_u8 (by omega) ?_|refine eq_u16 (by omega) ?_)|refine dropK_of (by rw [cells_len];omega) rfl (takeK_of (by rw [List.length_drop,cells_len];omega) (tkV hs) ?_)|refine set1K_of (by rw [cells_len];omega) sc0 ?_|refine set1K_of (by rw [cells_len];omega) sc0b ?_|refine set1K_of (by rw [cells_len];omega) sc0c ?_|refine set1K_of (by rw [cells_len];omega) sc0d ?_|refine set1K_of (by rw [cells_len];omega) sc0z ?_|refine set1K_of (by rw [cells_len];omega) sc0bz ?_|refine set1K_of (by rw [cells_len];omega) sc0cz ?_|refine set1K_of (by rw [cells_len];omega) sc0dz ?_|refine nthK_of (h2) ?_|refine nthK_of (h1) ?_|refine nthK_of (h0) ?_|refine nthK_of (h3) ?_|(with_reducible first|refine eq_rfl ?_|refine ChkX.mk (by kernel_rfl) ?_|refine code_q rfl ?_|refine code_d (by decide +kernel) ?_|refine end_go rfl ?_)|refine cx_pool hu rfl rfl rfl (by decide) (by first|(simp [plain_int,plainV,plainI,plain_q4];done)|fail) plain_int rfl ?_|(refine cx_in hmix b89 rfl ?_;unfold c89)|(refine cx_in hmix b76 rfl ?_;unfold c76)|refine len_map ?_|refine len_isl ?_|refine el_of rfl rfl ?_|refine del_own ?_|refine del_own' rfl ?_|refine as_go rfl ?_|refine rd_go rfl ?_|refine rg_end rfl ?_|refine flat_ownX ?_|refine EqLX.mk ?_|((with_reducible apply br_bq hQz)<;>(try intro hsp hQz))|exact hQz.out))<;>(try (conv=>whnf))))):p:=h ⟨hq⟩
section
variable {n m:Nat} {fr:Int} {V W V3 V4:Nat→PV} {L N P A B C:Nat→Int}
theorem pool_sub {n m:Nat} {fr:Int} {V W V3 V4:Nat→PV} {L N P A B C:Nat→Int} {h:Hp} (h0:∃ o,lk h.l 0=some o) (h1:∃ o,lk h.l 1=some o) (h2:∃ o,lk h.l 2=some o):SubH (rn []) h ⟨poolB n m fr V W V3 V4 L N P A B C,3⟩:=fun i o hi=>by
 simp only [poolB,lk] at hi
 show ∃ o',lk h.l i=some o'
 split at hi
 ·rename_i e;subst e;exact h0
 ·split at hi
  ·rename_i e;subst e;exact h1
  ·split at hi
   ·rename_i e;subst e;exact h2
   ·cases hi
theorem end_pool {top:Bool} {h:Hp} {N0:Nat} {x r:AV} {fr':Int} (hr:WkV Try.prog (rn []) h ⟨poolB n m fr V W V3 V4 L N P A B C,3⟩ x r) (h0:lk h.l 0=some (.cells [.sl 1 0 n n 7,.sl 2 0 m m 3,.int .i64 fr'])) (h1:lk h.l 1=some (.cells (cellsB n V W V3 V4 L N P))) (h2:lk h.l 2=some (.cells (endsB m A B C))) (e:fr'=fr:=by rfl) (hN0:N0≤3:=by decide) :
  EndX top Try.prog N0 h x (fun r' h'=>r'=r∧h'=⟨poolB n m fr V W V3 V4 L N P A B C,3⟩):=by
 subst e
 have hs:SubH (rn []) h ⟨poolB n m fr' V W V3 V4 L N P A B C,3⟩:=fun i o hi=>by
  simp only [poolB,lk] at hi
  show ∃ o',lk h.l i=some o'
  split at hi
  ·rename_i e;subst e;exact ⟨_,h0⟩
  ·split at hi
   ·rename_i e;subst e;exact ⟨_,h1⟩
   ·split at hi
    ·rename_i e;subst e;exact ⟨_,h2⟩
    ·cases hi
 exact end_loc [] rfl hN0 (oneOf_of rfl) hr (wko_cells (show 0 < 3 by decide) h0 (wkl_cons (wk_sl rfl (show 1 < 3 by decide) rfl (Nat.le_refl _) (Nat.le_refl _)) (wkl_cons (wk_sl rfl (show 2 < 3 by decide) rfl (Nat.le_refl _) (Nat.le_refl _)) (wkl_cons (wk_int rfl) wkl_nil)))
  (wko_plain hs (show 1 < 3 by decide) h1 rfl cells_plain (wko_plain hs (show 2 < 3 by decide) h2 rfl ends_plain wko_nil))) ⟨rfl,rfl⟩
theorem cx_pool {f:Nat} {avs:List AV} {fr':Int} {V' W' V3' V4':Nat→PV} {L' N' P' A' B' C':Nat→Int} {a b c nx:Nat} {l:List (Nat × AObj)} {r:AV} {K:AV→Hp→Prop} (hc:LocP f avs n m (poolB n m fr V W V3 V4 L N P A B C) r (poolB n m fr' V' W' V3' V4' L' N' P' A' B' C'))
  (hl0:lk l a=some (.cells [.sl b 0 n n 7,.sl c 0 m m 3,.int .i64 fr])) (hl1:lk l b=some (.cells (cellsB n V W V3 V4 L N P))) (hl2:lk l c=some (.cells (endsB m A B C))) (hlt:a < nx∧b < nx∧c < nx)
  (ha:∀ x ∈ avs,Plain x) (hr:Plain r) (hd:nodB [a,b,c]=true)
  (hk:filtK [a,b,c] l fun l2=>K r ⟨[(a,.cells [.sl b 0 n n 7,.sl c 0 m m 3,.int .i64 fr']),(b,.cells (cellsB n V' W' V3' V4' L' N' P')),(c,.cells (endsB m A' B' C'))]++l2,nx⟩):CallX Try.prog G0 (.fn f [] []) (.ptr a 0::avs) ⟨l,nx⟩ K:=by
 have e0:enter [a,b,c] a 0:=rfl
 have e1:enter [a,b,c] b 1:=rfl
 have e2:enter [a,b,c] c 2:=rfl
 have k0:back [a,b,c] nx 0 a:=rfl
 have k1:back [a,b,c] nx 1 b:=rfl
 have k2:back [a,b,c] nx 2 c:=rfl
 refine cx_loc (l1:=[(a,.cells [.sl b 0 n n 7,.sl c 0 m m 3,.int .i64 fr']),(b,.cells (cellsB n V' W' V3' V4' L' N' P')),(c,.cells (endsB m A' B' C'))]) [a,b,c] hc.out plainG hd
  (.cons e0 hl0 ⟨rn_sl e1,rn_sl e2,rn_plain plain_int,trivial⟩ (.cons e1 hl1 (rnl_plain cells_plain) (.cons e2 hl2 (rnl_plain ends_plain) .nil)))
  ?_ (by intro x hx;simp only [List.mem_cons,List.not_mem_nil,or_false] at hx;omega) (rn_plain hr)
  (.cons k0 ⟨rn_sl k1,rn_sl k2,rn_plain plain_int,trivial⟩ (.cons k1 (rnl_plain cells_plain) (.cons k2 (rnl_plain ends_plain) .nil))) hk
 simp only [List.nil_append,List.append_nil]
 exact ⟨rn_ptr e0,rnl_plain ha⟩
theorem l_used (s:Nat) (hs:s < n) (hl:L s ≠ -1):LocP 72 [.int .i64 (s:Nat)] n m (poolB n m fr V W V3 V4 L N P A B C) (.int .i64 0) (poolB n m fr V W V3 V4 L N P A B C):=by
 refine LocP.mk (loc_x hmix b72 rfl ?_)
 unfold c72
 have h1:=gc1 (V:=V) (W:=W) (V3:=V3) (V4:=V4) (L:=L) (N:=N) (P:=P) hs
 (refine wx_Mb ?_;repeat' (first|with_reducible refine And.intro ?_ ?_|intro hsp))
 exact end_pool (wk_int rfl) rfl rfl rfl
theorem l_has (i:Nat) (hn:0 < n) (hi:i < m):LocP 88 [.int .i64 (i:Nat)] n m (poolB n m fr V W V3 V4 L N P A B C) (.int .i64 0) (poolB n m fr V W V3 V4 L N P A B C):=by
 refine LocP.mk (loc_x hmix b88 rfl ?_)
 unfold c88
 (refine wx_Mb ?_;repeat' (first|with_reducible refine And.intro ?_ ?_|intro hsp))
 all_goals exact end_pool (wk_int rfl) rfl rfl rfl
theorem l_get (s:Nat) (hs:s < n) (hl:L s ≠ -1):LocP 51 [.int .i64 (s:Nat)] n m (poolB n m fr V W V3 V4 L N P A B C) (.tup [.agg [(V s).1,(W s).1,(V3 s).1,(V4 s).1],.int .i64 0]) (poolB n m fr V W V3 V4 L N P A B C):=by
 refine LocP.mk (loc_x hmix b51 rfl ?_)
 unfold c51
 have h0:=gc0 (V:=V) (W:=W) (V3:=V3) (V4:=V4) (L:=L) (N:=N) (P:=P) hs
 have hu:=l_used (m:=m) (fr:=fr) (V:=V) (W:=W) (V3:=V3) (V4:=V4) (N:=N) (P:=P) (A:=A) (B:=B) (C:=C) s hs hl
 (refine wx_Mb ?_;repeat' (first|with_reducible refine And.intro ?_ ?_|intro hsp))
 exact end_pool (wk_tup (wkl_cons (wk_plain (pool_sub ⟨_,rfl⟩ ⟨_,rfl⟩ ⟨_,rfl⟩) (by first|exact plain_q4|exact plain_zq|fail)) (wkl_cons (wk_int rfl) wkl_nil))) rfl rfl rfl
theorem l_put (s:Nat) (v w v3 v4:PV) (hs:s < n) (hl:L s ≠ -1):LocP 68 [.int .i64 (s:Nat),.agg [v.1,w.1,v3.1,v4.1]] n m (poolB n m fr V W V3 V4 L N P A B C) (.int .i64 0) (poolB n m fr (updV V s v) (updV W s w) (updV V3 s v3) (updV V4 s v4) L N P A B C):=by
 refine LocP.mk (loc_x hmix b68 rfl ?_)
 unfold c68
 have h0:=gc0 (V:=V) (W:=W) (V3:=V3) (V4:=V4) (L:=L) (N:=N) (P:=P) hs
 have hu:=l_used (m:=m) (fr:=fr) (V:=V) (W:=W) (V3:=V3) (V4:=V4) (N:=N) (P:=P) (A:=A) (B:=B) (C:=C) s hs hl
 (refine wx_Mb ?_;repeat' (first|with_reducible refine And.intro ?_ ?_|intro hsp))
 all_goals exact end_pool (wk_int rfl) rfl rfl rfl
theorem l_step (s:Nat) (b:Bool) (hs:s < n) (hl:L s ≠ -1):LocP 85 [.int .i64 (s:Nat),.bool b] n m (poolB n m fr V W V3 V4 L N P A B C) (.tup [.int .i64 (if (if b=true then P s else N s) = -1 then 0 else (if b=true then P s else N s)),.int .i64 (if (if b=true then P s else N s) = -1 then 9 else 0)]) (poolB n m fr V W V3 V4 L N P A B C):=by
 refine LocP.mk (loc_x hmix b85 rfl ?_)
 unfold c85
 have h2:=gc2 (V:=V) (W:=W) (V3:=V3) (V4:=V4) (L:=L) (N:=N) (P:=P) hs
 have h3:=gc3 (V:=V) (W:=W) (V3:=V3) (V4:=V4) (L:=L) (N:=N) (P:=P) hs
 have hu:=l_used (m:=m) (fr:=fr) (V:=V) (W:=W) (V3:=V3) (V4:=V4) (N:=N) (P:=P) (A:=A) (B:=B) (C:=C) s hs hl
 cases b
 ·by_cases hq:N s = -1
  ·(refine wx_Mb ?_;repeat' (first|with_reducible refine And.intro ?_ ?_|intro hsp))
   all_goals exact end_pool (wk_ints (by simp [hq]) (by simp [hq])) rfl rfl rfl
  ·(refine wx_Mb ?_;repeat' (first|with_reducible refine And.intro ?_ ?_|intro hsp))
   all_goals exact end_pool (wk_ints (by simp [hq]) (by simp [hq])) rfl rfl rfl
 ·by_cases hq:P s = -1
  ·(refine wx_Mb ?_;repeat' (first|with_reducible refine And.intro ?_ ?_|intro hsp))
   all_goals exact end_pool (wk_ints (by simp [hq]) (by simp [hq])) rfl rfl rfl
  ·(refine wx_Mb ?_;repeat' (first|with_reducible refine And.intro ?_ ?_|intro hsp))
   all_goals exact end_pool (wk_ints (by simp [hq]) (by simp [hq])) rfl rfl rfl
theorem l_len (i:Nat) (hn:0 < n) (hi:i < m):LocP 70 [.int .i64 (i:Nat)] n m (poolB n m fr V W V3 V4 L N P A B C) (.tup [.int .i64 (C i),.int .i64 0]) (poolB n m fr V W V3 V4 L N P A B C):=by
 refine LocP.mk (loc_x hmix b70 rfl ?_)
 unfold c70
 have h2:=ge2 (A:=A) (B:=B) (C:=C) hi
 have hu:=l_has (fr:=fr) (V:=V) (W:=W) (V3:=V3) (V4:=V4) (L:=L) (N:=N) (P:=P) (A:=A) (B:=B) (C:=C) i hn hi
 (refine wx_Mb ?_;repeat' (first|with_reducible refine And.intro ?_ ?_|intro hsp))
 all_goals exact end_pool (wk_ints rfl rfl) rfl rfl rfl
theorem l_end (i:Nat) (b:Bool) (hn:0 < n) (hi:i < m):LocP 75 [.int .i64 (i:Nat),.bool b] n m (poolB n m fr V W V3 V4 L N P A B C) (.tup [.int .i64 (if (if b=true then A i else B i) = -1 then 0 else (if b=true then A i else B i)),.int .i64 (if (if b=true then A i else B i) = -1 then 4 else 0)]) (poolB n m fr V W V3 V4 L N P A B C):=by
 refine LocP.mk (loc_x hmix b75 rfl ?_)
 unfold c75
 have h0:=ge0 (A:=A) (B:=B) (C:=C) hi
 have h1:=ge1 (A:=A) (B:=B) (C:=C) hi
 have hu:=l_has (fr:=fr) (V:=V) (W:=W) (V3:=V3) (V4:=V4) (L:=L) (N:=N) (P:=P) (A:=A) (B:=B) (C:=C) i hn hi
 cases b
 ·by_cases hq:B i = -1
  ·(refine wx_Mb ?_;repeat' (first|with_reducible refine And.intro ?_ ?_|intro hsp))
   all_goals exact end_pool (wk_ints (by simp [hq]) (by simp [hq])) rfl rfl rfl
  ·(refine wx_Mb ?_;repeat' (first|with_reducible refine And.intro ?_ ?_|intro hsp))
   all_goals exact end_pool (wk_ints (by simp [hq]) (by simp [hq])) rfl rfl rfl
 ·by_cases hq:A i = -1
  ·(refine wx_Mb ?_;repeat' (first|with_reducible refine And.intro ?_ ?_|intro hsp))
   all_goals exact end_pool (wk_ints (by simp [hq]) (by simp [hq])) rfl rfl rfl
  ·(refine wx_Mb ?_;repeat' (first|with_reducible refine And.intro ?_ ?_|intro hsp))
   all_goals exact end_pool (wk_ints (by simp [hq]) (by simp [hq])) rfl rfl rfl
end
end Go.Proofs.Ytphggldkligldaa.Sh
namespace Go.Proofs.Ytphggldkligldaa.Sh
open Go Go.Am Go.Pol
theorem plx_Mc {p:Prop} (h:p:=by ((first|assumption|exact plain_int|exact plain_bool|exact plain_undef|exact plain_nils|exact plain_nilp|exact plain_nilf|exact plain_str|with_reducible apply plainV|with_reducible apply plain_q4|fail);first|done|fail)):p:=h
theorem prx_Mc {p:Prop} (h:p:=by (((repeat' (first|exact plain_all0|refine plain_all2 ?_ ?_|exact plain_int|first|assumption|exact plain_int|exact plain_bool|exact plain_undef|exact plain_nils|exact plain_nilp|exact plain_nilf|exact plain_str|with_reducible apply plainV|with_reducible apply plain_q4)));first|done|fail)):p:=h
theorem ppx_Mc {p:Prop} (h:p:=by ((first|with_reducible assumption|with_reducible apply cells_plain|with_reducible apply ends_plain|with_reducible apply plain_map (fun _=>plain_int)|with_reducible apply plain_map (fun _=>plain_bool)|exact prx_Mc|fail);first|done|fail)):p:=h
theorem wkx_Mc {p:Prop} (h:p:=by (refine weak_s (by exact oneOf_of rfl) (by exact subH_of rfl) (by intro hs;(repeat' ((try (conv=>whnf));first|with_reducible exact True.intro|with_reducible refine And.intro ?_ ?_|(with_reducible refine WkX.mk ?_;first|exact wk_int (by first|rfl|omega|(dsimp only;omega))|exact wk_bool rfl|exact wk_ptr rfl (by first|decide|omega|simp)|exact wk_sl rfl (by first|decide|omega|simp) (by first|rfl|omega|simp) (by first|omega|simp) (by first|omega|simp)|exact wk_plain hs plx_Mc)))) (by intro hs;(try dsimp only);(repeat' (first|with_reducible exact wko_nil|refine wko_plain hs (by first|decide|omega|simp) rfl (by first|rfl) (by (first|exact ppx_Mc|fail|((refine plain_app ?_ ?_)<;>(first|exact ppx_Mc|fail)))) ?_|refine wko_cells (by first|decide|omega|simp) rfl (by repeat' (first|with_reducible exact wkl_nil|with_reducible refine wkl_cons ?_ ?_|(first|exact wk_int (by first|rfl|omega|(dsimp only;omega))|exact wk_bool rfl|exact wk_ptr rfl (by first|decide|omega|simp)|exact wk_sl rfl (by first|decide|omega|simp) (by first|rfl|omega|simp) (by first|omega|simp) (by first|omega|simp)|exact wk_plain hs plx_Mc))) ?_|exact wko_nil))))):p:=h
theorem wx_Mc {p q:Prop} (hq:q) (h:HidP q→p:=by (intro hQz;((repeat' ((try (conv=>whnf));first|(with_reducible first|refine run_cons ?_|refine runq_cons ?_|refine code_seq ?_|refine code_reg ?_|refine code_cond ?_|refine run_nil ?_|refine runq_nil ?_|refine rund_op rfl ?_|refine rund_nil ?_|refine code_block ?_|refine code_skip ?_|refine code_exit ?_|refine code_ret ?_|refine code_range ?_|refine rund_fast (by decide +kernel) ?_|refine rund_slow (by decide +kernel) ?_|refine br_tt ?_|refine br_ff ?_|refine br_n ?_|refine br_and ?_|refine br_or ?_|refine br_t (by assumption) ?_|refine br_f (by assumption) ?_|refine eq_i64 (by omega) ?_|refine el_tn ?_)|((with_reducible refine br_dt ?_ ?_);focus omega)|((with_reducible refine br_df ?_ ?_);focus omega)|((with_reducible apply br_dq hQz)<;>(try intro hsp hQz))|((with_reducible refine ck_x ?_ ?_);focus (first|omega|rfl|assumption|decide|(simp only [List.length_map,List.length_cons,List.length_nil];omega)|exact hw))|refine eq_of (hw) ?_|(with_reducible first|refine eq_tn ?_|refine eq_tn1 ?_|refine eq_tn2 ?_|refine eq_m1 ?_|refine eq_m2 ?_|refine eq_zm ?_|refine eq_z ?_|refine len_map ?_|refine len_sl ?_|refine len_nils ?_|refine len_own' ?_|refine len_isl ?_|refine eq_u8 (by omega) ?_|refine eq_u16 (by omega) ?_)|refine set1K_of (by rw [cells_len];omega) sc1 ?_|refine set1K_of (by rw [cells_len];omega) sc2 ?_|refine set1K_of (by rw [cells_len];omega) sc3 ?_|refine set1K_of (by rw [ends_len];omega) se0 ?_|refine set1K_of (by rw [ends_len];omega) se1 ?_|refine set1K_of (by rw [ends_len];omega) se2 ?_|refine nthK_of (ge2 hi) ?_|refine nthK_of (g1 _ _ _ _ _ _) ?_|refine nthK_of (g2 _ _ _ _ _ _) ?_|refine nthK_of (g3 _ _ _ _ _ _) ?_|refine nthK_of (g4 _ _ _ _ _ _) ?_|refine nthK_of (gc1 (by omega)) ?_|refine nthK_of ((gc1 (by omega)).trans (by rw [hl])) ?_|(with_reducible first|refine eq_rfl ?_|refine ChkX.mk (by kernel_rfl) ?_|refine code_q rfl ?_|refine code_d (by decide +kernel) ?_|refine end_go rfl ?_)|refine len_map ?_|refine len_isl ?_|refine el_of rfl rfl ?_|refine del_own ?_|refine del_own' rfl ?_|refine as_go rfl ?_|refine rd_go rfl ?_|refine rg_end rfl ?_|refine flat_ownX ?_|refine EqLX.mk ?_|((with_reducible apply br_bq hQz)<;>(try intro hsp hQz))|exact hQz.out))<;>(try (conv=>whnf))))):p:=h ⟨hq⟩
section
variable {n m:Nat} {fr:Int} {V W V3 V4:Nat→PV} {L N P A B C:Nat→Int}
theorem l_tie (x i:Nat) (p q:Int) (hx:x < n) (hi:i < m) (hp:p = -1∨∃ a:Nat,a < n∧p=(a:Int)) (hq:q = -1∨∃ a:Nat,a < n∧q=(a:Int)) (hC:0≤C i∧C i < 9000) :
  LocP 93 [.int .i64 (x:Nat),.int .i64 (i:Nat),.int .i64 p,.int .i64 q] n m (poolB n m fr V W V3 V4 L N P A B C) (.tup []) (poolB n m fr V W V3 V4 (updI L x i) (tieN N x p q) (tieP P x p q) (tieA A i x p) (tieA B i x q) (updI C i (C i+1))):=by
 refine LocP.mk (loc_x hmix b93 rfl ?_)
 unfold c93
 have hw:IntKind.i64.wrap (C i+1)=C i+1:=IntWalk.i64_in _ (by omega)
 rcases hp with rfl | ⟨a,ha,rfl⟩
 ·rcases hq with rfl | ⟨b,hb,rfl⟩
  ·skip
   skip
   unfold tieN tieP tieA
   simp only [if_true,if_true]
   (refine wx_Mc ?_;repeat' (first|with_reducible refine And.intro ?_ ?_|intro hsp))
   all_goals exact end_pool wk_none rfl rfl rfl
  ·skip
   have q2:¬ ((b:Nat):Int) = -1:=by omega
   unfold tieN tieP tieA
   simp only [if_true,q2,if_false,Int.toNat_natCast]
   (refine wx_Mc ?_;repeat' (first|with_reducible refine And.intro ?_ ?_|intro hsp))
   all_goals exact end_pool wk_none rfl rfl rfl
 ·rcases hq with rfl | ⟨b,hb,rfl⟩
  ·have q1:¬ ((a:Nat):Int) = -1:=by omega
   skip
   unfold tieN tieP tieA
   simp only [q1,if_false,Int.toNat_natCast,if_true]
   (refine wx_Mc ?_;repeat' (first|with_reducible refine And.intro ?_ ?_|intro hsp))
   all_goals exact end_pool wk_none rfl rfl rfl
  ·have q1:¬ ((a:Nat):Int) = -1:=by omega
   have q2:¬ ((b:Nat):Int) = -1:=by omega
   unfold tieN tieP tieA
   simp only [q1,if_false,Int.toNat_natCast,q2,if_false,Int.toNat_natCast]
   (refine wx_Mc ?_;repeat' (first|with_reducible refine And.intro ?_ ?_|intro hsp))
   all_goals exact end_pool wk_none rfl rfl rfl
set_option maxHeartbeats 1600000 in
theorem l_untie (s i:Nat) (p q:Int) (hs:s < n) (hi:i < m) (hLs:L s=(i:Nat)) (hNs:N s=q) (hPs:P s=p) (hp:p = -1∨∃ a:Nat,a < n∧a ≠ s∧p=(a:Int)) (hq:q = -1∨∃ a:Nat,a < n∧q=(a:Int)) (hC:0 < C i∧C i < 9000) :
  LocP 90 [.int .i64 (s:Nat)] n m (poolB n m fr V W V3 V4 L N P A B C) (.tup []) (poolB n m fr V W V3 V4 (updI L s (-1)) (unN N s p q) (unP P s p q) (unA A i p q) (unA B i q p) (updI C i (C i - 1))):=by
 refine LocP.mk (loc_x hmix b90 rfl ?_)
 unfold c90
 have hw:IntKind.i64.wrap (C i - 1)=C i - 1:=IntWalk.i64_in _ (by omega)
 have g1:∀ (V W V3 V4:Nat→PV) (N P:Nat→Int),(cellsB n V W V3 V4 L N P)[s * 7+4]? = some (.int .i64 (i:Nat)):=fun V W V3 V4 N P=>(gc1 hs).trans (by rw [hLs])
 have g2:∀ (V W V3 V4:Nat→PV) (L P:Nat→Int),(cellsB n V W V3 V4 L N P)[s * 7+5]? = some (.int .i64 q):=fun V W V3 V4 L P=>(gc2 hs).trans (by rw [hNs])
 have g3:∀ (V W V3 V4:Nat→PV) (L N:Nat→Int),(cellsB n V W V3 V4 L N P)[s * 7+6]? = some (.int .i64 p):=fun V W V3 V4 L N=>(gc3 hs).trans (by rw [hPs])
 rcases hp with rfl | ⟨a,ha,hne,rfl⟩
 ·rcases hq with rfl | ⟨b,hb,rfl⟩
  ·skip
   unfold unN unP unA
   simp only [if_true,if_true]
   (refine wx_Mc ?_;repeat' (first|with_reducible refine And.intro ?_ ?_|intro hsp))
   all_goals exact end_pool wk_none rfl rfl rfl
  ·have q2:¬ ((b:Nat):Int) = -1:=by omega
   skip
   unfold unN unP unA
   simp only [if_true,q2,if_false,Int.toNat_natCast]
   (refine wx_Mc ?_;repeat' (first|with_reducible refine And.intro ?_ ?_|intro hsp))
   all_goals exact end_pool wk_none rfl rfl rfl
 ·rcases hq with rfl | ⟨b,hb,rfl⟩
  ·have q1:¬ ((a:Nat):Int) = -1:=by omega
   have g4:∀ (V W V3 V4:Nat→PV) (L P:Nat→Int),(cellsB n V W V3 V4 L (updI N a (-1)) P)[s * 7+5]? = some (.int .i64 (-1)):=fun V W V3 V4 L P=>(gc2 hs).trans (by rw [updI_ne (Ne.symm hne),hNs])
   unfold unN unP unA
   simp only [q1,if_false,Int.toNat_natCast,if_true]
   (refine wx_Mc ?_;repeat' (first|with_reducible refine And.intro ?_ ?_|intro hsp))
   all_goals exact end_pool wk_none rfl rfl rfl
  ·have q1:¬ ((a:Nat):Int) = -1:=by omega
   have q2:¬ ((b:Nat):Int) = -1:=by omega
   have g4:∀ (V W V3 V4:Nat→PV) (L P:Nat→Int),(cellsB n V W V3 V4 L (updI N a ((b:Nat):Int)) P)[s * 7+5]? = some (.int .i64 ((b:Nat):Int)):=fun V W V3 V4 L P=>(gc2 hs).trans (by rw [updI_ne (Ne.symm hne),hNs])
   unfold unN unP unA
   simp only [q1,if_false,Int.toNat_natCast,q2,if_false,Int.toNat_natCast]
   (refine wx_Mc ?_;repeat' (first|with_reducible refine And.intro ?_ ?_|intro hsp))
   all_goals exact end_pool wk_none rfl rfl rfl
theorem l_least (f s:Nat) (hf:f≤s) (hs:s < n) (hn:n≤100000) (hu:∀ t,f≤t→t < s→L t ≠ -1) (hl:L s = -1):LocP 92 [] n m (poolB n m (f:Nat) V W V3 V4 L N P A B C) (.int .i64 (s:Nat)) (poolB n m (s:Nat) V W V3 V4 L N P A B C):=by
 refine LocP.mk (loc_x hmix b92 rfl ?_)
 unfold c92
 (refine wx_Mc ?_;repeat' (first|with_reducible refine And.intro ?_ ?_|intro hsp))
 (refine loop_x [0] (fun (k:Nat)=>[]) (fun (k:Nat)=>⟨poolB n m (k:Nat) V W V3 V4 L N P A B C,3⟩) (fun (k:Nat)=>f≤k∧k≤s) (fun (k:Nat)=>s - k) (f) [] rfl (fun _=>by first|exact Nat.zero_le _|(dsimp only;omega)) ?_ (by ((try (conv=>whnf));exact wkx_Mc)) ?_)
 ·exact ⟨Nat.le_refl _,hf⟩
 rintro k ⟨hk1,hk2⟩
 by_cases hks:k < s
 ·have h1:=hu k hk1 hks
  have hw:IntKind.i64.wrap ((k:Int)+1)=((k+1:Nat):Int):=by rw [IntWalk.i64_in _ (by omega)];omega
  (refine wx_Mc ?_;repeat' (first|with_reducible refine And.intro ?_ ?_|intro hsp))
  exact next_x (k+1) [] (by (try dsimp only);omega) (by first|omega|(dsimp only;omega)) rfl (by exact wkx_Mc)
 ·obtain rfl:k=s:=by omega
  (refine wx_Mc ?_;repeat' (first|with_reducible refine And.intro ?_ ?_|intro hsp))
  exact end_pool (wk_int rfl) rfl rfl rfl
end
end Go.Proofs.Ytphggldkligldaa.Sh
namespace Go.Proofs.Ytphggldkligldaa.Sh
open Go Go.Am Go.Pol
theorem wx_Md {p q:Prop} (hq:q) (h:HidP q→p:=by (intro hQz;((repeat' ((try (conv=>whnf));first|(with_reducible first|refine run_cons ?_|refine runq_cons ?_|refine code_seq ?_|refine code_reg ?_|refine code_cond ?_|refine run_nil ?_|refine runq_nil ?_|refine rund_op rfl ?_|refine rund_nil ?_|refine code_block ?_|refine code_skip ?_|refine code_exit ?_|refine code_ret ?_|refine code_range ?_|refine rund_fast (by decide +kernel) ?_|refine rund_slow (by decide +kernel) ?_|refine br_tt ?_|refine br_ff ?_|refine br_n ?_|refine br_and ?_|refine br_or ?_|refine br_t (by assumption) ?_|refine br_f (by assumption) ?_|refine eq_i64 (by omega) ?_|refine el_tn ?_)|((with_reducible refine br_dt ?_ ?_);focus omega)|((with_reducible refine br_df ?_ ?_);focus omega)|((with_reducible apply br_dq hQz)<;>(try intro hsp hQz))|((with_reducible refine ck_x ?_ ?_);focus (first|omega|rfl|assumption|decide|(simp only [List.length_map,List.length_cons,List.length_nil];omega)))|(with_reducible first|refine eq_tn ?_|refine eq_tn1 ?_|refine eq_tn2 ?_|refine eq_m1 ?_|refine eq_m2 ?_|refine eq_zm ?_|refine eq_z ?_|refine len_map ?_|refine len_sl ?_|refine len_nils ?_|refine len_own' ?_|refine len_isl ?_|refine eq_u8 (by omega) ?_|refine eq_u16 (by omega) ?_)|refine nthK_of (ge0 hi) ?_|refine nthK_of (ge1 hi) ?_|refine set1K_of (by rw [cells_len];omega) sc0 ?_|refine set1K_of (by rw [cells_len];omega) sc0b ?_|refine set1K_of (by rw [cells_len];omega) sc0c ?_|refine set1K_of (by rw [cells_len];omega) sc0d ?_|refine set1K_of (by rw [cells_len];omega) sc0z ?_|refine set1K_of (by rw [cells_len];omega) sc0bz ?_|refine set1K_of (by rw [cells_len];omega) sc0cz ?_|refine set1K_of (by rw [cells_len];omega) sc0dz ?_|refine dropK_of (by rw [cells_len];omega) rfl (takeK_of (by rw [List.length_drop,cells_len];omega) (tkV hs) ?_)|(with_reducible first|refine eq_rfl ?_|refine ChkX.mk (by kernel_rfl) ?_|refine code_q rfl ?_|refine code_d (by decide +kernel) ?_|refine end_go rfl ?_)|refine cx_pool ht rfl rfl rfl (by decide) (by first|(simp [plain_int,plainV,plainI,plain_q4];done)|fail) plain_none rfl ?_|refine cx_pool ht rfl rfl rfl (by decide) (by first|(simp [plain_int,plain_bool,plainV,plainI,plain_q4];done)|fail) plain_none rfl ?_|refine cx_pool hh rfl rfl rfl (by decide) (by first|(simp [plain_int,plainV,plainI,plain_q4];done)|fail) plain_int rfl ?_|refine cx_pool hlt rfl rfl rfl (by decide) (by first|(simp [plain_int,plainV,plainI,plain_q4];done)|fail) plain_int rfl ?_|refine len_map ?_|refine len_isl ?_|refine el_of rfl rfl ?_|refine del_own ?_|refine del_own' rfl ?_|refine as_go rfl ?_|refine rd_go rfl ?_|refine rg_end rfl ?_|refine flat_ownX ?_|refine EqLX.mk ?_|((with_reducible apply br_bq hQz)<;>(try intro hsp hQz))|exact hQz.out))<;>(try (conv=>whnf))))):p:=h ⟨hq⟩
theorem wx_Mdn {p q:Prop} (hq:q) (h:HidP q→p:=by (intro hQz;((repeat' ((try (conv=>whnf));first|(with_reducible first|refine run_cons ?_|refine runq_cons ?_|refine code_seq ?_|refine code_reg ?_|refine code_cond ?_|refine run_nil ?_|refine runq_nil ?_|refine rund_op rfl ?_|refine rund_nil ?_|refine code_block ?_|refine code_skip ?_|refine code_exit ?_|refine code_ret ?_|refine code_range ?_|refine rund_fast (by decide +kernel) ?_|refine rund_slow (by decide +kernel) ?_|refine br_tt ?_|refine br_ff ?_|refine br_n ?_|refine br_and ?_|refine br_or ?_|refine br_t (by assumption) ?_|refine br_f (by assumption) ?_|refine eq_i64 (by omega) ?_|refine el_tn ?_)|((with_reducible refine br_dt ?_ ?_);focus omega)|((with_reducible refine br_df ?_ ?_);focus omega)|((with_reducible apply br_dq hQz)<;>(try intro hsp hQz))|((with_reducible refine ck_x ?_ ?_);focus (first|omega|rfl|assumption|decide|(simp only [List.length_map,List.length_cons,List.length_nil];omega)))|(with_reducible first|refine eq_tn ?_|refine eq_tn1 ?_|refine eq_tn2 ?_|refine eq_m1 ?_|refine eq_m2 ?_|refine eq_zm ?_|refine eq_z ?_|refine len_map ?_|refine len_sl ?_|refine len_nils ?_|refine len_own' ?_|refine len_isl ?_|refine eq_u8 (by omega) ?_|refine eq_u16 (by omega) ?_)|refine set1K_of (by rw [cells_len];omega) sc0 ?_|refine set1K_of (by rw [cells_len];omega) sc0b ?_|refine set1K_of (by rw [cells_len];omega) sc0c ?_|refine set1K_of (by rw [cells_len];omega) sc0d ?_|refine set1K_of (by rw [cells_len];omega) sc0z ?_|refine set1K_of (by rw [cells_len];omega) sc0bz ?_|refine set1K_of (by rw [cells_len];omega) sc0cz ?_|refine set1K_of (by rw [cells_len];omega) sc0dz ?_|refine nthK_of (g1 _ _ _ _ _ _) ?_|refine nthK_of (g2 _ _ _ _ _ _) ?_|(with_reducible first|refine eq_rfl ?_|refine ChkX.mk (by kernel_rfl) ?_|refine code_d (by decide +kernel) ?_|refine end_go rfl ?_)|refine cx_pool ht rfl rfl rfl (by decide) (by first|(simp [plain_int,plain_bool,plainV,plainI,plain_q4];done)|fail) plain_none rfl ?_|refine cx_pool hh rfl rfl rfl (by decide) (by first|(simp [plain_int,plainV,plainI,plain_q4];done)|fail) plain_int rfl ?_|refine cx_pool hlt rfl rfl rfl (by decide) (by first|(simp [plain_int,plainV,plainI,plain_q4];done)|fail) plain_int rfl ?_|refine len_map ?_|refine len_isl ?_|refine el_of rfl rfl ?_|refine del_own ?_|refine del_own' rfl ?_|refine as_go rfl ?_|refine rd_go rfl ?_|refine rg_end rfl ?_|refine flat_ownX ?_|refine EqLX.mk ?_|((with_reducible apply br_bq hQz)<;>(try intro hsp hQz))|exact hQz.out))<;>(try (conv=>whnf))))):p:=h ⟨hq⟩
section
variable {n m:Nat} {V W V3 V4:Nat→PV} {L N P A B C:Nat→Int}
theorem l_edge {fr:Int} (x i:Nat) (b:Bool) (p q:Int) (hx:x < n) (hi:i < m) (he:(b=true∧p = -1∧q=A i)∨(b=false∧p=B i∧q = -1)) (hp:p = -1∨∃ a:Nat,a < n∧p=(a:Int)) (hq:q = -1∨∃ a:Nat,a < n∧q=(a:Int)) (hC:0≤C i∧C i < 9000) :
  LocP 94 [.int .i64 (x:Nat),.int .i64 (i:Nat),.bool b] n m (poolB n m fr V W V3 V4 L N P A B C) (.tup []) (poolB n m fr V W V3 V4 (updI L x i) (tieN N x p q) (tieP P x p q) (tieA A i x p) (tieA B i x q) (updI C i (C i+1))):=by
 have ht:=l_tie (n:=n) (m:=m) (fr:=fr) (V:=V) (W:=W) (V3:=V3) (V4:=V4) (L:=L) (N:=N) (P:=P) (A:=A) (B:=B) (C:=C) x i p q hx hi hp hq hC
 refine LocP.mk (loc_x hmix b94 rfl ?_)
 unfold c94
 rcases he with ⟨rfl,rfl,rfl⟩ | ⟨rfl,rfl,rfl⟩
 ·(refine wx_Md ?_;repeat' (first|with_reducible refine And.intro ?_ ?_|intro hsp))
  exact end_pool wk_none rfl rfl rfl
 ·(refine wx_Md ?_;repeat' (first|with_reducible refine And.intro ?_ ?_|intro hsp))
  exact end_pool wk_none rfl rfl rfl
theorem l_push (f s i:Nat) (v w v3 v4:PV) (b:Bool) (p q:Int) (hf:f≤s) (hs:s < n) (hn:n≤100000) (hu:∀ t,f≤t→t < s→L t ≠ -1) (hl:L s = -1) (hi:i < m) (he:(b=true∧p = -1∧q=A i)∨(b=false∧p=B i∧q = -1)) (hp:p = -1∨∃ a:Nat,a < n∧p=(a:Int)) (hq:q = -1∨∃ a:Nat,a < n∧q=(a:Int)) (hC:0≤C i∧C i < 9000) :
  LocP 87 [.int .i64 (i:Nat),.agg [v.1,w.1,v3.1,v4.1],.bool b] n m (poolB n m (f:Nat) V W V3 V4 L N P A B C) (.tup [.int .i64 (s:Nat),.int .i64 0]) (poolB n m (s:Nat) (updV V s v) (updV W s w) (updV V3 s v3) (updV V4 s v4) (updI L s i) (tieN N s p q) (tieP P s p q) (tieA A i s p) (tieA B i s q) (updI C i (C i+1))):=by
 have ht:=l_edge (n:=n) (m:=m) (fr:=(s:Nat)) (V:=updV V s v) (W:=updV W s w) (V3:=updV V3 s v3) (V4:=updV V4 s v4) (L:=L) (N:=N) (P:=P) (A:=A) (B:=B) (C:=C) s i b p q hs hi he hp hq hC
 have hh:=l_has (n:=n) (m:=m) (fr:=(f:Nat)) (V:=V) (W:=W) (V3:=V3) (V4:=V4) (L:=L) (N:=N) (P:=P) (A:=A) (B:=B) (C:=C) i (by omega) hi
 have hlt:=l_least (n:=n) (m:=m) (V:=V) (W:=W) (V3:=V3) (V4:=V4) (L:=L) (N:=N) (P:=P) (A:=A) (B:=B) (C:=C) f s hf hs hn hu hl
 refine LocP.mk (loc_x hmix b87 rfl ?_)
 unfold c87
 (refine wx_Md ?_;repeat' (first|with_reducible refine And.intro ?_ ?_|intro hsp))
 exact end_pool (wk_ints rfl rfl) rfl rfl rfl
theorem l_after (f s x i:Nat) (v w v3 v4:PV) (q:Int) (hf:f≤s) (hs:s < n) (hn:n≤100000) (hu:∀ t,f≤t→t < s→L t ≠ -1) (hl:L s = -1) (hx:x < n) (hi:i < m) (hLx:L x=(i:Nat)) (hNx:N x=q) (hq:q = -1∨∃ a:Nat,a < n∧q=(a:Int)) (hC:0≤C i∧C i < 9000) :
  LocP 86 [.int .i64 (x:Nat),.agg [v.1,w.1,v3.1,v4.1]] n m (poolB n m (f:Nat) V W V3 V4 L N P A B C) (.tup [.int .i64 (s:Nat),.int .i64 0]) (poolB n m (s:Nat) (updV V s v) (updV W s w) (updV V3 s v3) (updV V4 s v4) (updI L s i) (tieN N s (x:Nat) q) (tieP P s (x:Nat) q) (tieA A i s (x:Nat)) (tieA B i s q) (updI C i (C i+1))):=by
 have ht:=l_tie (n:=n) (m:=m) (fr:=(s:Nat)) (V:=updV V s v) (W:=updV W s w) (V3:=updV V3 s v3) (V4:=updV V4 s v4) (L:=L) (N:=N) (P:=P) (A:=A) (B:=B) (C:=C) s i (x:Nat) q hs hi (.inr ⟨x,hx,rfl⟩) hq hC
 have hh:=l_used (n:=n) (m:=m) (fr:=(f:Nat)) (V:=V) (W:=W) (V3:=V3) (V4:=V4) (L:=L) (N:=N) (P:=P) (A:=A) (B:=B) (C:=C) x hx (by omega)
 have hlt:=l_least (n:=n) (m:=m) (V:=V) (W:=W) (V3:=V3) (V4:=V4) (L:=L) (N:=N) (P:=P) (A:=A) (B:=B) (C:=C) f s hf hs hn hu hl
 have g1:∀ (V W V3 V4:Nat→PV) (N P:Nat→Int),(cellsB n V W V3 V4 L N P)[x * 7+4]? = some (.int .i64 (i:Nat)):=fun V W V3 V4 N P=>(gc1 hx).trans (by rw [hLx])
 have g2:∀ (V W V3 V4:Nat→PV) (L P:Nat→Int),(cellsB n V W V3 V4 L N P)[x * 7+5]? = some (.int .i64 q):=fun V W V3 V4 L P=>(gc2 hx).trans (by rw [hNx])
 refine LocP.mk (loc_x hmix b86 rfl ?_)
 unfold c86
 (refine wx_Mdn ?_;repeat' (first|with_reducible refine And.intro ?_ ?_|intro hsp))
 exact end_pool (wk_ints rfl rfl) rfl rfl rfl
theorem l_take (f s i:Nat) (p q:Int) (hs:s < n) (hi:i < m) (hLs:L s=(i:Nat)) (hNs:N s=q) (hPs:P s=p) (hp:p = -1∨∃ a:Nat,a < n∧a ≠ s∧p=(a:Int)) (hq:q = -1∨∃ a:Nat,a < n∧q=(a:Int)) (hC:0 < C i∧C i < 9000) :
  LocP 77 [.int .i64 (s:Nat)] n m (poolB n m (f:Nat) V W V3 V4 L N P A B C) (.tup [.agg [(V s).1,(W s).1,(V3 s).1,(V4 s).1],.int .i64 0]) (poolB n m (min f s:Nat) (updV V s z0) (updV W s w0) (updV V3 s w0) (updV V4 s b0) (updI L s (-1)) (unN N s p q) (unP P s p q) (unA A i p q) (unA B i q p) (updI C i (C i - 1))):=by
 have hh:=l_used (n:=n) (m:=m) (fr:=(f:Nat)) (V:=V) (W:=W) (V3:=V3) (V4:=V4) (L:=L) (N:=N) (P:=P) (A:=A) (B:=B) (C:=C) s hs (by omega)
 have ht:=l_untie (n:=n) (m:=m) (fr:=(f:Nat)) (V:=V) (W:=W) (V3:=V3) (V4:=V4) (L:=L) (N:=N) (P:=P) (A:=A) (B:=B) (C:=C) s i p q hs hi hLs hNs hPs hp hq hC
 refine LocP.mk (loc_x hmix b77 rfl ?_)
 unfold c77
 (refine wx_Md ?_;repeat' (first|with_reducible refine And.intro ?_ ?_|intro hsp))
 exact end_pool (wk_tup (wkl_cons (wk_plain (pool_sub ⟨_,rfl⟩ ⟨_,rfl⟩ ⟨_,rfl⟩) (by first|exact plainV|exact plain_q4|exact plain_nilp|exact plain_zq|fail)) (wkl_cons (wk_int rfl) wkl_nil))) rfl rfl rfl (by omega)
end
end Go.Proofs.Ytphggldkligldaa.Sh
namespace Go.Proofs.Ytphggldkligldaa.Sh
open Go Go.Am Go.Pol
section
variable {n m:Nat} {V W V3 V4:Nat→PV} {Q:Nat→List Nat} {S:PS}
def poolS (n m:Nat) (V W V3 V4:Nat→PV) (S:PS):List (Nat × Go.Am.AObj):=poolB n m (S.fr:Nat) V W V3 V4 S.L S.N S.P S.A S.B S.C
structure Inv (n m:Nat) (V W V3 V4:Nat→PV) (Q:Nat→List Nat) (S:PS):Prop where
 st:St n m S.L S.N S.P S.A S.B S.C Q
 val:∀ s,s < n→S.L s = -1→V s=z0∧W s=w0∧V3 s=w0∧V4 s=b0
 frn:S.fr≤n
 fru:∀ t,t < S.fr→S.L t ≠ -1
theorem Inv.len (h:Inv n m V W V3 V4 Q S) (i:Nat):(Q i).length≤n:=len_le n _ (h.st.nd i) fun x hx=>(h.st.us i x hx).1
theorem lst_lt (h:Inv n m V W V3 V4 Q S) {i:Nat} {X Y:List Nat} (hQ:Q i=X++Y):lst X = -1∨∃ a:Nat,a < n∧lst X=(a:Int):=by
 rcases lst_ge (X:=X) with h1 | ⟨a,h1,h2⟩
 ·exact .inl h1
 ·exact .inr ⟨a,(h.st.us i a (by rw [hQ];exact List.mem_append_left _ h1)).1,h2⟩
theorem hd_lt (h:Inv n m V W V3 V4 Q S) {i:Nat} {X Y:List Nat} (hQ:Q i=X++Y):hd Y = -1∨∃ a:Nat,a < n∧hd Y=(a:Int):=by
 rcases hd_ge (X:=Y) with h1 | ⟨a,h1,h2⟩
 ·exact .inl h1
 ·exact .inr ⟨a,(h.st.us i a (by rw [hQ];exact List.mem_append_right _ h1)).1,h2⟩
theorem Inv.tied (h:Inv n m V W V3 V4 Q S) {x i:Nat} {X Y:List Nat} (v w v3 v4:PV) (hx:freeAt n Q x) (hi:i < m) (hQ:Q i=X++Y) :
  Inv n m (updV V x v) (updV W x w) (updV V3 x v3) (updV V4 x v4) (updQ Q i (X++x::Y)) ⟨x,updI S.L x i,tieN S.N x (lst X) (hd Y),tieP S.P x (lst X) (hd Y),tieA S.A i x (lst X),tieA S.B i x (hd Y),updI S.C i (S.C i+1)⟩:=by
 have hL:=h.st.unused hx.1 hx.2.1
 refine ⟨h.st.tie hx.1 hL hi hQ,fun s hs hl=>?_,Nat.le_of_lt hx.1,fun t ht=>?_⟩
 ·dsimp only at hl
  by_cases e:s=x
  ·subst e;rw [updI_at] at hl;omega
  ·rw [updI_ne e] at hl;rw [updV_ne e,updV_ne e,updV_ne e,updV_ne e];exact h.val s hs hl
 ·dsimp only at ht ⊢
  rw [updI_ne (by omega)]
  exact h.st.usedI (hx.2.2 t ht)
theorem p_push (h:Inv n m V W V3 V4 Q S) (hn:n≤8000) {s i:Nat} (hs:freeAt n Q s) (hi:i < m) (v w v3 v4:PV) (b:Bool) :
  ∃ S',Inv n m (updV V s v) (updV W s w) (updV V3 s v3) (updV V4 s v4) (updQ Q i (if b=true then s::Q i else Q i++[s])) S'∧LocP 87 [.int .i64 (i:Nat),.agg [v.1,w.1,v3.1,v4.1],.bool b] n m (poolS n m V W V3 V4 S) (.tup [.int .i64 (s:Nat),.int .i64 0]) (poolS n m (updV V s v) (updV W s w) (updV V3 s v3) (updV V4 s v4) S'):=by
 have hlen:=h.len i
 have hen:=h.st.en i hi
 have hL:=h.st.unused hs.1 hs.2.1
 have hf:S.fr≤s:=Nat.le_of_not_lt fun hlt=>h.fru s hlt hL
 have hu:∀ t,S.fr≤t→t < s→S.L t ≠ -1:=fun t _ ht=>h.st.usedI (hs.2.2 t ht)
 cases b
 ·have hQ:Q i=Q i++[]:=by simp
  have h1:=h.tied v w v3 v4 hs hi hQ
  exact ⟨_,h1,l_push S.fr s i v w v3 v4 false (lst (Q i)) (hd []) hf hs.1 (by omega) hu hL hi (.inr ⟨rfl,hen.2.1.symm,rfl⟩) (lst_lt h hQ) (.inl rfl) (by rw [hen.2.2];omega)⟩
 ·have hQ:Q i=[]++Q i:=by simp
  have h1:=h.tied v w v3 v4 hs hi hQ
  exact ⟨_,h1,l_push S.fr s i v w v3 v4 true (lst []) (hd (Q i)) hf hs.1 (by omega) hu hL hi (.inl ⟨rfl,rfl,hen.1.symm⟩) (.inl rfl) (hd_lt h hQ) (by rw [hen.2.2];omega)⟩
theorem p_after (h:Inv n m V W V3 V4 Q S) (hn:n≤8000) {s x i:Nat} {X Y:List Nat} (hs:freeAt n Q s) (hx:AtQ m Q x i X Y) (v w v3 v4:PV) :
  ∃ S',Inv n m (updV V s v) (updV W s w) (updV V3 s v3) (updV V4 s v4) (updQ Q i (X++x::s::Y)) S'∧LocP 86 [.int .i64 (x:Nat),.agg [v.1,w.1,v3.1,v4.1]] n m (poolS n m V W V3 V4 S) (.tup [.int .i64 (s:Nat),.int .i64 0]) (poolS n m (updV V s v) (updV W s w) (updV V3 s v3) (updV V4 s v4) S'):=by
 have hlen:=h.len i
 have hen:=h.st.en i hx.i_lt
 have hL:=h.st.unused hs.1 hs.2.1
 have hf:S.fr≤s:=Nat.le_of_not_lt fun hlt=>h.fru s hlt hL
 have hu:∀ t,S.fr≤t→t < s→S.L t ≠ -1:=fun t _ ht=>h.st.usedI (hs.2.2 t ht)
 have hxm:x ∈ Q i:=by rw [hx.eq];simp
 have hxu:=h.st.us i x hxm
 have hQ:Q i=(X++[x])++Y:=by rw [hx.eq];simp
 have h1:=h.tied v w v3 v4 hs hx.i_lt hQ
 have hc:=h.st.ch i X x Y hx.eq
 rw [show (X++[x])++s::Y=X++x::s::Y by simp,lst_snoc] at h1
 exact ⟨_,h1,l_after S.fr s x i v w v3 v4 (hd Y) hf hs.1 (by omega) hu hL hxu.1 hx.i_lt hxu.2 hc.1 (hd_lt h hQ) (by rw [hen.2.2];omega)⟩
theorem un_facts (h:Inv n m V W V3 V4 Q S) {s i:Nat} {X Y:List Nat} (hx:AtQ m Q s i X Y):s < n∧S.L s=(i:Nat)∧S.N s=hd Y∧S.P s=lst X∧(lst X = -1∨∃ a:Nat,a < n∧a ≠ s∧lst X=(a:Int))∧(hd Y = -1∨∃ a:Nat,a < n∧hd Y=(a:Int))∧0 < S.C i∧S.C i≤n:=by
 have hu:=h.st.us i s (by rw [hx.eq];simp)
 have hc:=h.st.ch i X s Y hx.eq
 have hnd:=h.st.nd i
 have hlen:=h.len i
 have hen:=(h.st.en i hx.i_lt).2.2
 rw [hx.eq] at hnd hen hlen
 refine ⟨hu.1,hu.2,hc.1,hc.2,?_,hd_lt h (X:=X++[s]) (by rw [hx.eq];simp),by rw [hen];simp;omega,by rw [hen];omega⟩
 rcases lst_ge (X:=X) with h1 | ⟨a,h1,h2⟩
 ·exact .inl h1
 ·exact .inr ⟨a,(h.st.us i a (by rw [hx.eq];simp [h1])).1,fun e=>(List.nodup_append.1 hnd).2.2 a h1 s (List.mem_cons_self ..) e,h2⟩
theorem p_take (h:Inv n m V W V3 V4 Q S) (hn:n≤8000) {s i:Nat} {X Y:List Nat} (hx:AtQ m Q s i X Y) :
  ∃ S',Inv n m (updV V s z0) (updV W s w0) (updV V3 s w0) (updV V4 s b0) (updQ Q i (X++Y)) S'∧LocP 77 [.int .i64 (s:Nat)] n m (poolS n m V W V3 V4 S) (.tup [.agg [(V s).1,(W s).1,(V3 s).1,(V4 s).1],.int .i64 0]) (poolS n m (updV V s z0) (updV W s w0) (updV V3 s w0) (updV V4 s b0) S'):=by
 obtain ⟨h1,h2,h3,h4,h5,h6,h7,h8⟩:=un_facts h hx
 have hst:=h.st.untie hx.i_lt hx.eq
 refine ⟨⟨min S.fr s,updI S.L s (-1),unN S.N s (lst X) (hd Y),unP S.P s (lst X) (hd Y),unA S.A i (lst X) (hd Y),unA S.B i (hd Y) (lst X),updI S.C i (S.C i - 1)⟩,⟨hst,fun t ht hl=>?_,by have:=h.frn;dsimp only;omega,fun t ht=>?_⟩,l_take S.fr s i (lst X) (hd Y) h1 hx.i_lt h2 h3 h4 h5 h6 ⟨h7,by omega⟩⟩
 ·dsimp only at hl
  by_cases e:t=s
  ·subst e;rw [updV_at,updV_at,updV_at,updV_at];exact ⟨rfl,rfl,rfl,rfl⟩
  ·rw [updI_ne e] at hl;rw [updV_ne e,updV_ne e,updV_ne e,updV_ne e];exact h.val t ht hl
 ·dsimp only at ht ⊢
  rw [updI_ne (by omega)]
  exact h.fru t (by omega)
theorem p_put (h:Inv n m V W V3 V4 Q S) {s i:Nat} {X Y:List Nat} (hx:AtQ m Q s i X Y) (v w v3 v4:PV) :
  Inv n m (updV V s v) (updV W s w) (updV V3 s v3) (updV V4 s v4) Q S∧LocP 68 [.int .i64 (s:Nat),.agg [v.1,w.1,v3.1,v4.1]] n m (poolS n m V W V3 V4 S) (.int .i64 0) (poolS n m (updV V s v) (updV W s w) (updV V3 s v3) (updV V4 s v4) S):=by
 obtain ⟨h1,h2,_⟩:=un_facts h hx
 refine ⟨⟨h.st,fun t ht hl=>?_,h.frn,h.fru⟩,l_put s v w v3 v4 h1 (by omega)⟩
 by_cases e:t=s
 ·subst e;omega
 ·rw [updV_ne e,updV_ne e,updV_ne e,updV_ne e];exact h.val t ht hl
theorem p_get (h:Inv n m V W V3 V4 Q S) {s i:Nat} {X Y:List Nat} (hx:AtQ m Q s i X Y):LocP 51 [.int .i64 (s:Nat)] n m (poolS n m V W V3 V4 S) (.tup [.agg [(V s).1,(W s).1,(V3 s).1,(V4 s).1],.int .i64 0]) (poolS n m V W V3 V4 S):=by
 obtain ⟨h1,h2,_⟩:=un_facts h hx
 exact l_get s h1 (by omega)
theorem p_step (h:Inv n m V W V3 V4 Q S) {s i:Nat} {X Y:List Nat} (hx:AtQ m Q s i X Y) (b:Bool):LocP 85 [.int .i64 (s:Nat),.bool b] n m (poolS n m V W V3 V4 S) (orErr (if b=true then lst X else hd Y) 9) (poolS n m V W V3 V4 S):=by
 obtain ⟨h1,h2,h3,h4,_⟩:=un_facts h hx
 have:=l_step (m:=m) (fr:=S.fr) (V:=V) (W:=W) (V3:=V3) (V4:=V4) (P:=S.P) (N:=S.N) (A:=S.A) (B:=S.B) (C:=S.C) s b h1 (by omega:S.L s ≠ -1)
 rw [h3,h4] at this
 exact this
theorem p_end (h:Inv n m V W V3 V4 Q S) (hn0:0 < n) {i:Nat} (hi:i < m) (b:Bool):LocP 75 [.int .i64 (i:Nat),.bool b] n m (poolS n m V W V3 V4 S) (orErr (if b=true then hd (Q i) else lst (Q i)) 4) (poolS n m V W V3 V4 S):=by
 have he:=h.st.en i hi
 have:=l_end (n:=n) (m:=m) (fr:=S.fr) (V:=V) (W:=W) (V3:=V3) (V4:=V4) (L:=S.L) (P:=S.P) (N:=S.N) (A:=S.A) (B:=S.B) (C:=S.C) i b hn0 hi
 rw [he.1,he.2.1] at this
 exact this
theorem p_len (h:Inv n m V W V3 V4 Q S) (hn0:0 < n) {i:Nat} (hi:i < m):LocP 70 [.int .i64 (i:Nat)] n m (poolS n m V W V3 V4 S) (.tup [.int .i64 ((Q i).length:Nat),.int .i64 0]) (poolS n m V W V3 V4 S):=by
 rw [← (h.st.en i hi).2.2]
 exact l_len i hn0 hi
end
end Go.Proofs.Ytphggldkligldaa.Sh
namespace Go.Proofs.Ytphggldkligldaa.Sh
open Go Go.Am Go.Pol
theorem ppx_Mm {p:Prop} (h:p:=by ((first|with_reducible assumption|with_reducible apply cells_plain|with_reducible apply ends_plain|with_reducible apply of_plain _ _|with_reducible apply memI_plain _ _|with_reducible apply plain_map (fun _=>plain_int)|with_reducible apply plain_map (fun _=>plain_bool)|exact prx_Mc|fail);first|done|fail)):p:=h
theorem wkx_Mm {p:Prop} (h:p:=by (refine weak_s (by exact oneOf_of rfl) (by exact subH_of rfl) (by intro hs;(repeat' ((try (conv=>whnf));first|with_reducible exact True.intro|with_reducible refine And.intro ?_ ?_|(with_reducible refine WkX.mk ?_;first|exact wk_int (by first|rfl|omega|(dsimp only;omega))|exact wk_bool rfl|exact wk_ptr rfl (by first|decide|omega|simp)|exact wk_sl rfl (by first|decide|omega|simp) (by first|rfl|omega|simp) (by first|omega|simp) (by first|omega|simp)|exact wk_plain hs plx_Mc)))) (by intro hs;(try dsimp only);(repeat' (first|with_reducible exact wko_nil|refine wko_plain hs (by first|decide|omega|simp) rfl (by first|rfl) (by (first|exact ppx_Mm|fail|((refine plain_app ?_ ?_)<;>(first|exact ppx_Mm|fail)))) ?_|refine wko_cells (by first|decide|omega|simp) rfl (by repeat' (first|with_reducible exact wkl_nil|with_reducible refine wkl_cons ?_ ?_|(first|exact wk_int (by first|rfl|omega|(dsimp only;omega))|exact wk_bool rfl|exact wk_ptr rfl (by first|decide|omega|simp)|exact wk_sl rfl (by first|decide|omega|simp) (by first|rfl|omega|simp) (by first|omega|simp) (by first|omega|simp)|exact wk_plain hs plx_Mc))) ?_|exact wko_nil))))):p:=h
theorem wx_Mm {p q:Prop} (hq:q) (h:HidP q→p:=by (intro hQz;((repeat' ((try (conv=>whnf));first|(with_reducible first|refine run_cons ?_|refine runq_cons ?_|refine code_seq ?_|refine code_reg ?_|refine code_cond ?_|refine run_nil ?_|refine runq_nil ?_|refine rund_op rfl ?_|refine rund_nil ?_|refine code_block ?_|refine code_skip ?_|refine code_exit ?_|refine code_ret ?_|refine code_range ?_|refine rund_fast (by decide +kernel) ?_|refine rund_slow (by decide +kernel) ?_|refine br_tt ?_|refine br_ff ?_|refine br_n ?_|refine br_and ?_|refine br_or ?_|refine br_t (by assumption) ?_|refine br_f (by assumption) ?_|refine eq_i64 (by omega) ?_|refine el_tn ?_)|((with_reducible refine br_dt ?_ ?_);focus omega)|((with_reducible refine br_df ?_ ?_);focus omega)|((with_reducible apply br_dq hQz)<;>(try intro hsp hQz))|((with_reducible refine ck_x ?_ ?_);focus (first|omega|rfl|assumption|decide|(simp only [List.length_map,List.length_cons,List.length_nil];omega)|exact (cells_make n)|exact (ends_make m)|exact (show ((n:Nat):Int).toNat=n from rfl)|exact (show ((m:Nat):Int).toNat=m from rfl)))|refine eq_of ((cells_make n)) ?_|refine eq_of ((ends_make m)) ?_|refine eq_of ((show ((n:Nat):Int).toNat=n from rfl)) ?_|refine eq_of ((show ((m:Nat):Int).toNat=m from rfl)) ?_|(with_reducible first|refine eq_tn ?_|refine eq_tn1 ?_|refine eq_tn2 ?_|refine eq_m1 ?_|refine eq_m2 ?_|refine eq_zm ?_|refine eq_z ?_|refine len_map ?_|refine len_sl ?_|refine len_nils ?_|refine len_own' ?_|refine len_isl ?_|refine eq_u8 (by omega) ?_|refine eq_u16 (by omega) ?_)|refine set1K_of (by rw [cells_len];omega) sc0 ?_|refine set1K_of (by rw [cells_len];omega) sc0b ?_|refine set1K_of (by rw [cells_len];omega) sc0c ?_|refine set1K_of (by rw [cells_len];omega) sc0d ?_|refine set1K_of (by rw [cells_len];omega) sc0z ?_|refine set1K_of (by rw [cells_len];omega) sc0bz ?_|refine set1K_of (by rw [cells_len];omega) sc0cz ?_|refine set1K_of (by rw [cells_len];omega) sc0dz ?_|refine set1K_of (by rw [cells_len];omega) sc1 ?_|refine set1K_of (by rw [cells_len];omega) sc2 ?_|refine set1K_of (by rw [cells_len];omega) sc3 ?_|refine set1K_of (by rw [ends_len];omega) se0 ?_|refine set1K_of (by rw [ends_len];omega) se1 ?_|refine set1K_of (by rw [ends_len];omega) se2 ?_|(with_reducible first|refine eq_rfl ?_|refine ChkX.mk (by kernel_rfl) ?_|refine code_q rfl ?_|refine code_d (by decide +kernel) ?_|refine end_go rfl ?_)|(refine cx_in hmix b84 rfl ?_;unfold c84)|refine len_map ?_|refine len_isl ?_|refine el_of rfl rfl ?_|refine del_own ?_|refine del_own' rfl ?_|refine as_go rfl ?_|refine rd_go rfl ?_|refine rg_end rfl ?_|refine flat_ownX ?_|refine EqLX.mk ?_|((with_reducible apply br_bq hQz)<;>(try intro hsp hQz))|exact hQz.out))<;>(try (conv=>whnf))))):p:=h ⟨hq⟩
section
theorem cells_make (n:Nat):(List.replicate n [AV.int .i64 0,AV.int .i64 0,AV.int .i64 0,AV.bool false,AV.int .i64 0,AV.int .i64 0,AV.int .i64 0]).flatten=cellsB n (fun _=>z0) (fun _=>w0) (fun _=>w0) (fun _=>b0) (fun _=>0) (fun _=>0) fun _=>0:=by
 refine List.ext_getElem? fun i=>?_
 by_cases hi:i < n * 7
 ·rw [rep_getL (by decide) (by simpa using hi),cellsB,memV_get hi]
  have hm:i % 7=0∨i % 7=1∨i % 7=2∨i % 7=3∨i % 7=4∨i % 7=5∨i % 7=6:=by omega
  unfold sel
  rcases hm with h|h|h|h|h|h|h
  all_goals simp [h,z0,w0,b0]
 ·rw [List.getElem?_eq_none (by rw [rep_lenL];simpa using hi),List.getElem?_eq_none (by rw [cells_len];omega)]
structure GoodP (n m:Nat) (V W V3 V4:Nat→PV) (Q:Nat→List Nat) (S:PS):Prop where
 inv:Inv n m V W V3 V4 Q S
 m_le:m≤64
 n_le:n≤8000
 n_pos:0 < n
theorem good_0 {n m:Nat} (hn:0 < n) (hn2:n≤2000) (hm:m≤64):GoodP n m (fun _=>z0) (fun _=>w0) (fun _=>w0) (fun _=>b0) (fun _=>[]) (S0 n m):=by
 have h:∀ {k s:Nat},s < k→upTo k (-1) s = -1:=fun {k s} hs=>if_pos hs
 refine ⟨⟨⟨fun _ _=>rfl,fun i s hs=>(by cases hs),fun s hs=>.inl ⟨h hs,h hs,h hs⟩,fun _=>List.nodup_nil,fun i X s Y e=>(by simp at e),fun i hi=>⟨h hi,h hi,rfl⟩⟩,fun _ _ _=>⟨rfl,rfl,rfl,rfl⟩,Nat.zero_le _,fun t ht=>(by cases ht)⟩,hm,by omega,hn⟩
theorem updV_z0 (k:Nat):updV (fun _=>z0) k z0=fun _=>z0:=by funext s;unfold updV;split<;>rfl
theorem updV_w0 (k:Nat):updV (fun _=>w0) k w0=fun _=>w0:=by funext s;unfold updV;split<;>rfl
theorem updV_b0 (k:Nat):updV (fun _=>b0) k b0=fun _=>b0:=by funext s;unfold updV;split<;>rfl
set_option maxHeartbeats 4000000 in
theorem l_new (n m:Nat) (h1:1≤n) (h2:n≤2000) (h3:1≤m) (h4:m≤64) :
  LocC Try.prog G0 62 [.int .i64 (n:Nat),.int .i64 (m:Nat)] [] 0 fun x h=>x = .tup [.ptr 0 0,.int .i64 0]∧h=⟨poolS n m (fun _=>z0) (fun _=>w0) (fun _=>w0) (fun _=>b0) (S0 n m),3⟩:=by
 refine loc_x hmix b62 rfl ?_
 unfold c62
 (refine wx_Mm ?_;repeat' (first|with_reducible refine And.intro ?_ ?_|intro hsp))
 (refine loop_x [18] (fun (k:Nat)=>[(5,.ptr 0 0),(19,.int .i64 (k:Nat))]) (fun (k:Nat)=>⟨[(0,.cells [.sl 1 0 n n 7,.sl 2 0 m m 3,.int .i64 0]),(1,.cells (cellsB n (fun _=>z0) (fun _=>w0) (fun _=>w0) (fun _=>b0) (upTo k (-1)) (upTo k (-1)) (upTo k (-1)))),(2,.cells (endsB m (fun _=>0) (fun _=>0) fun _=>0))],3⟩) (fun (k:Nat)=>k≤n) (fun (k:Nat)=>n - k) (0) [(0,5),(1,1),(2,3)] rfl (fun _=>by first|exact Nat.zero_le _|(dsimp only;omega)) ?_ (by ((try (conv=>whnf));(rw [upTo_0]);exact wkx_Mm)) ?_)
 ·exact Nat.zero_le _
 intro k hk
 by_cases hkn:k < n
 ·(refine wx_Mm ?_;repeat' (first|with_reducible refine And.intro ?_ ?_|intro hsp))
  exact next_x (k+1) [] (by (try dsimp only);omega) (by first|omega|(dsimp only;omega)) rfl (by ((try dsimp only);rw [updV_z0,updV_w0,updV_b0,upTo_s]);exact wkx_Mm)
 ·obtain rfl:k=n:=by omega
  (refine wx_Mm ?_;repeat' (first|with_reducible refine And.intro ?_ ?_|intro hsp))
  (refine loop_x [34] (fun (j:Nat)=>[(5,.ptr 0 0),(35,.int .i64 (j:Nat))]) (fun (j:Nat)=>⟨[(0,.cells [.sl 1 0 k k 7,.sl 2 0 m m 3,.int .i64 0]),(1,.cells (cellsB k (fun _=>z0) (fun _=>w0) (fun _=>w0) (fun _=>b0) (upTo k (-1)) (upTo k (-1)) (upTo k (-1)))),(2,.cells (endsB m (upTo j (-1)) (upTo j (-1)) fun _=>0))],3⟩) (fun (j:Nat)=>j≤m) (fun (j:Nat)=>m - j) (0) [] rfl (fun _=>by first|exact Nat.zero_le _|(dsimp only;omega)) ?_ (by ((try (conv=>whnf));(rw [upTo_0]);exact wkx_Mm)) ?_)
  ·exact Nat.zero_le _
  intro j hj
  by_cases hjm:j < m
  ·(refine wx_Mm ?_;repeat' (first|with_reducible refine And.intro ?_ ?_|intro hsp))
   exact next_x (j+1) [] (by (try dsimp only);omega) (by first|omega|(dsimp only;omega)) rfl (by ((try dsimp only);rw [upd_zero,upTo_s]);exact wkx_Mm)
  ·obtain rfl:j=m:=by omega
   (refine wx_Mm ?_;repeat' (first|with_reducible refine And.intro ?_ ?_|intro hsp))
   exact end_pool (wk_tup ⟨wk_ptr rfl (show 0 < 3 by decide),wk_int rfl,trivial⟩) rfl rfl rfl
end
end Go.Proofs.Ytphggldkligldaa.Sh
namespace Go.Proofs.Ytphggldkligldaa.Sh
open Go Go.Am Go.Pol
section
variable {n m:Nat}
theorem cx_new {n m nx:Nat} {l:List (Nat × AObj)} {K:AV→Hp→Prop} (h1:1≤n) (h2:n≤2000) (h3:1≤m) (h4:m≤64) (hk:K (.tup [.ptr nx 0,.int .i64 0]) ⟨[(nx,.cells [.sl (nx+1) 0 n n 7,.sl (nx+2) 0 m m 3,.int .i64 0]),(nx+1,.cells (cellsB n (fun _=>z0) (fun _=>w0) (fun _=>w0) (fun _=>b0) (S0 n m).L (S0 n m).N (S0 n m).P)),(nx+2,.cells (endsB m (S0 n m).A (S0 n m).B (S0 n m).C))]++l,nx+3⟩) :
  CallX Try.prog G0 (.fn 62 [] []) [.int .i64 (n:Nat),.int .i64 (m:Nat)] ⟨l,nx⟩ K:=by
 have k0:back [] nx 0 nx:=rfl
 have k1:back [] nx 1 (nx+1):=rfl
 have k2:back [] nx 2 (nx+2):=rfl
 refine cx_loc (r':=.tup [.ptr nx 0,.int .i64 0]) (l1:=[(nx,.cells [.sl (nx+1) 0 n n 7,.sl (nx+2) 0 m m 3,.int .i64 0]),(nx+1,.cells (cellsB n (fun _=>z0) (fun _=>w0) (fun _=>w0) (fun _=>b0) (S0 n m).L (S0 n m).N (S0 n m).P)),(nx+2,.cells (endsB m (S0 n m).A (S0 n m).B (S0 n m).C))]) [] (l_new n m h1 h2 h3 h4) plainG rfl .nil (rnl_plain (by simp [plain_int])) (by simp) (rn_tup ⟨rn_ptr k0,rn_plain plain_int,trivial⟩)
  (.cons k0 ⟨rn_sl k1,rn_sl k2,rn_plain plain_int,trivial⟩ (.cons k1 (rnl_plain cells_plain) (.cons k2 (rnl_plain ends_plain) .nil))) ?_
 have e:∀ {l:List (Nat × AObj)} {k:List (Nat × AObj)→Prop},k l→filtK [] l k:=fun {l}=>by
  induction l with
  | nil=>exact fun h=>h
  | cons a l ih=>exact fun {k} h=>ih (k:=fun r=>k (a::r)) h
 exact e hk
theorem dcx_pool {f:Nat} {avs:List AV} {fr fr':Int} {V W V3 V4:Nat→PV} {L N P A B C:Nat→Int} {V' W' V3' V4':Nat→PV} {L' N' P' A' B' C':Nat→Int} {a b c:Nat} {h:Hp} {r:AV} {K:AV→Up→List Nat→Prop} (hc:LocP f avs n m (poolB n m fr V W V3 V4 L N P A B C) r (poolB n m fr' V' W' V3' V4' L' N' P' A' B' C'))
  (hl0:lk h.l a=some (.cells [.sl b 0 n n 7,.sl c 0 m m 3,.int .i64 fr])) (hl1:lk h.l b=some (.cells (cellsB n V W V3 V4 L N P))) (hl2:lk h.l c=some (.cells (endsB m A B C)))
  (ha:∀ x ∈ avs,Plain x) (hr:Plain r) (hd:nodB [a,b,c]=true) (hnx':[a,b,c].contains h.next=false)
  (hk:K r [(a,some (.cells [.sl b 0 n n 7,.sl c 0 m m 3,.int .i64 fr'])),(b,some (.cells (cellsB n V' W' V3' V4' L' N' P'))),(c,some (.cells (endsB m A' B' C')))] [a,b,c]):DCallX Try.prog G0 f (.ptr a 0::avs) h K:=by
 have hnx:h.next ∉ [a,b,c]:=fun hm=>by rw [List.contains_eq_mem,decide_eq_false_iff_not] at hnx';exact hnx' hm
 have e0:enter [a,b,c] a 0:=rfl
 have e1:enter [a,b,c] b 1:=rfl
 have e2:enter [a,b,c] c 2:=rfl
 have k0:enterB [a,b,c] 0 a:=rfl
 have k1:enterB [a,b,c] 1 b:=rfl
 have k2:enterB [a,b,c] 2 c:=rfl
 refine dcx_loc (l1:=[(a,.cells [.sl b 0 n n 7,.sl c 0 m m 3,.int .i64 fr']),(b,.cells (cellsB n V' W' V3' V4' L' N' P')),(c,.cells (endsB m A' B' C'))]) [a,b,c] hc.out plainG hd
  (.cons e0 hl0 ⟨rn_sl e1,rn_sl e2,rn_plain plain_int,trivial⟩ (.cons e1 hl1 (rnl_plain cells_plain) (.cons e2 hl2 (rnl_plain ends_plain) .nil)))
  hnx ?_ ?_ ⟨rn_ptr e0,rnl_plain ha⟩ (rn_plain hr)
  (.cons k0 ⟨rn_sl k1,rn_sl k2,rn_plain plain_int,trivial⟩ (.cons k1 (rnl_plain cells_plain) (.cons k2 (rnl_plain ends_plain) .nil))) hk
 ·intro x hx
  simp only [lk]
  split
  ·exact ⟨_,rfl⟩
  ·split
   ·exact ⟨_,rfl⟩
   ·rename_i h1 h2
    rw [if_pos (by simp only [List.mem_cons,List.not_mem_nil,or_false] at hx;omega)];exact ⟨_,rfl⟩
 ·intro j x hx
  have : j < 3:=(List.getElem?_eq_some_iff.1 hx).1
  simp only [poolB,lk]
  split
  ·exact ⟨_,rfl⟩
  ·split
   ·exact ⟨_,rfl⟩
   ·rw [if_pos (by omega)];exact ⟨_,rfl⟩

end
end Go.Proofs.Ytphggldkligldaa.Sh
