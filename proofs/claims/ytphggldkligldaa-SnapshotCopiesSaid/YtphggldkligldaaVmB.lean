/-
 The memory of the two systems;calls over one block.
 The two systems' blocks,by functions of pages.
 refused of both systems.
 The program's make: pages of one kind become another.
 Calls with a function that has one cell of its own;the program's make.
 Reserve,Release,Commit,Decommit,Protect of the program.
 Join and Split of the program.
 make for Join and Split.
 Join and Split of the program.
 The state of both systems,plain;the program's calls over it.
-/
import Derived.Test.YtphggldkligldaaVmA
set_option linter.unusedSimpArgs false
set_option linter.unusedVariables false
namespace Go.Pol
open Go.Am
@[irreducible] def memA (n:Nat) (F:Nat→AV):List AV:=(List.range n).map F
theorem memA_len (n:Nat) (F:Nat→AV):(memA n F).length=n:=by unfold memA;simp
theorem memA_get {n:Nat} {F:Nat→AV} {i:Nat} (h:i < n):(memA n F)[i]? = some (F i):=by unfold memA;simp [h]
theorem memA_congr {n:Nat} {F G:Nat→AV} (h:∀ i,i < n→F i=G i):memA n F=memA n G:=by
 unfold memA;exact List.map_congr_left fun i hi=>h i (List.mem_range.1 hi)
theorem memA_set {n:Nat} {F:Nat→AV} {i:Nat} {v:AV}:(memA n F).set i v=memA n fun j=>if j=i then v else F j:=by
 refine List.ext_getElem? fun j=>?_
 by_cases hj:j < n
 ·rw [memA_get hj]
  by_cases e:i=j
  ·subst e;rw [List.getElem?_set_self (by rw [memA_len];exact hj),if_pos rfl]
  ·rw [List.getElem?_set_ne e,memA_get hj,if_neg fun h=>e h.symm]
 ·rw [List.getElem?_eq_none (by rw [List.length_set,memA_len];omega),List.getElem?_eq_none (by rw [memA_len];omega)]
theorem memA_plain {n:Nat} {F:Nat→AV} (h:∀ i,i < n→Plain (F i)):∀ x ∈ memA n F,Plain x:=fun x hx=>by
 unfold memA at hx
 obtain ⟨i,hi,rfl⟩:=List.mem_map.1 hx
 exact h i (List.mem_range.1 hi)
theorem memA_over {n:Nat}:∀ {vs:List AV} {F:Nat→AV} {o:Nat},over (memA n F) o vs=memA n fun j=>if o≤j∧j < o+vs.length then vs[j - o]?.getD .undef else F j
 | [],F,o=>by
  unfold over
  exact memA_congr fun i _=>by rw [if_neg (by simp)]
 | v::vs,F,o=>by
  unfold over
  rw [memA_set,memA_over]
  refine memA_congr fun j _=>?_
  by_cases h1:o+1≤j∧j < o+1+vs.length
  ·rw [if_pos h1,if_pos (by simp only [List.length_cons];omega)]
   rw [show j - o=(j - (o+1))+1 by omega,List.getElem?_cons_succ]
  ·rw [if_neg h1]
   by_cases h2:j=o
   ·subst h2;rw [if_pos rfl,if_pos (by simp only [List.length_cons];omega),Nat.sub_self];rfl
   ·rw [if_neg h2,if_neg (by simp only [List.length_cons];omega)]
theorem memA_part {n:Nat} {F:Nat→AV} {o k:Nat} (h:o+k≤n):((memA n F).drop o).take k=(List.range k).map fun j=>F (o+j):=by
 refine List.ext_getElem? fun j=>?_
 by_cases hj:j < k
 ·rw [List.getElem?_take_of_lt hj,List.getElem?_drop,memA_get (by omega)]
  simp [hj]
 ·rw [List.getElem?_eq_none (by rw [List.length_take];omega),List.getElem?_eq_none (by simp;omega)]
end Go.Pol
namespace Go.Proofs.Ytphggldkligldaa
open Go Go.Am Go.Pol
structure LocS (f:Nat) (avs:List AV) (cs:List AV) (r:AV) (ds:List AV):Prop where
 out:LocC Try.prog G0 f (.ptr 0 0::avs) [(0,.cells cs)] 1 fun x h1=>x=r∧h1=⟨[(0,.cells ds)],1⟩
 pc:∀ x ∈ cs,Plain x
 pd:∀ x ∈ ds,Plain x
 pa:∀ x ∈ avs,Plain x
 pr:Plain r
theorem end_s {top:Bool} {h:Hp} {x r:AV} {ds:List AV} (hr:x=r) (hp:Plain r) (h0:lk h.l 0=some (.cells ds)) (pd:∀ x ∈ ds,Plain x) :
  EndX top Try.prog 1 h x (fun r' h'=>r'=r∧h'=⟨[(0,.cells ds)],1⟩):=by
 subst hr
 have hs:SubH (rn []) h ⟨[(0,.cells ds)],1⟩:=fun i o hi=>by
  simp only [lk] at hi
  show ∃ o',lk h.l i=some o'
  split at hi
  ·rename_i e;subst e;exact ⟨_,h0⟩
  ·cases hi
 exact end_loc [] rfl (Nat.le_refl _) (oneOf_of rfl) (wk_plain hs hp) (wko_plain hs (show 0 < 1 by decide) h0 rfl pd wko_nil) ⟨rfl,rfl⟩
theorem cx_locS {f:Nat} {avs:List AV} {cs ds:List AV} {a nx:Nat} {l:List (Nat × AObj)} {r:AV} {K:AV→Hp→Prop} (hc:LocS f avs cs r ds)
  (hl0:lk l a=some (.cells cs)) (hlt:a < nx)
  (hk:filtK [a] l fun l2=>K r ⟨[(a,.cells ds)]++l2,nx⟩):CallX Try.prog G0 (.fn f [] []) (.ptr a 0::avs) ⟨l,nx⟩ K:=by
 have e0:enter [a] a 0:=rfl
 have k0:back [a] nx 0 a:=rfl
 refine cx_loc (l1:=[(a,.cells ds)]) [a] hc.out plainG rfl (.cons e0 hl0 (rnl_plain hc.pc) .nil)
  ?_ (by intro x hx;simp only [List.mem_cons,List.not_mem_nil,or_false] at hx;omega) (rn_plain hc.pr)
  (.cons k0 (rnl_plain hc.pd) .nil) hk
 simp only [List.nil_append,List.append_nil]
 exact ⟨rn_ptr e0,rnl_plain hc.pa⟩
theorem dcx_locS {f:Nat} {avs:List AV} {cs ds:List AV} {a:Nat} {h:Hp} {r:AV} {K:AV→Up→List Nat→Prop} (hc:LocS f avs cs r ds)
  (hl0:lk h.l a=some (.cells cs)) (hnx:[a].contains h.next=false)
  (hk:K r [(a,some (.cells ds))] [a]):DCallX Try.prog G0 f (.ptr a 0::avs) h K:=by
 have hnx:h.next ∉ [a]:=fun hm=>by rw [List.contains_eq_mem,decide_eq_false_iff_not] at hnx;exact hnx hm
 have e0:enter [a] a 0:=rfl
 have k0:enterB [a] 0 a:=rfl
 refine dcx_loc (l1:=[(a,.cells ds)]) [a] hc.out plainG rfl (.cons e0 hl0 (rnl_plain hc.pc) .nil) hnx ?_ ?_ ⟨rn_ptr e0,rnl_plain hc.pa⟩ (rn_plain hc.pr)
  (.cons k0 (rnl_plain hc.pd) .nil) hk
 ·intro x hx
  obtain rfl:=List.mem_singleton.1 hx
  exact ⟨.cells ds,if_pos rfl⟩
 ·intro j n hj
  cases j with
  | zero=>exact ⟨_,rfl⟩
  | succ j=>simp at hj
end Go.Proofs.Ytphggldkligldaa
namespace Go.Pol
open Go.Am
def updP (B:Nat→Nat→Int) (p:Nat) (f:Nat→Int):Nat→Nat→Int:=fun q=>if q=p then f else B q
def pageF (K:Nat→Int) (M:Nat→Bool) (B:Nat→Nat→Int) (p j:Nat):AV:=if j=0 then .int .i64 (K p) else if j=1 then .bool (M p) else .int .u8 (B p (j - 2))
def sysF (K:Nat→Int) (M:Nat→Bool) (B:Nat→Nat→Int) (P:List AV) (i:Nat):AV :=
 if i=0 then .bool true else if i < 67585 then pageF K M B ((i - 1) / 66) ((i - 1) % 66) else P[i - 67585]?.getD .undef
@[irreducible] def sysB (K:Nat→Int) (M:Nat→Bool) (B:Nat→Nat→Int) (P:List AV):List AV:=memA 67600 (sysF K M B P)
def refF (K:Nat→Int) (G:Nat→Bool) (B:Nat→Nat→Int) (P:List AV) (i:Nat):AV :=
 if i < 1024 then .int .i64 (K i) else if i < 1088 then .bool (G (i - 1024)) else if i < 66624 then .int .u8 (B ((i - 1088) / 64) ((i - 1088) % 64)) else P[i - 66624]?.getD .undef
@[irreducible] def refK (K:Nat→Int) (G:Nat→Bool) (B:Nat→Nat→Int) (P:List AV):List AV:=memA 66639 (refF K G B P)
section
variable {K:Nat→Int} {M G:Nat→Bool} {B:Nat→Nat→Int} {P:List AV} {p j:Nat} {v:Int} {b:Bool}
theorem sys_len:(sysB K M B P).length=67600:=by unfold sysB;exact memA_len ..
theorem ref_len:(refK K G B P).length=66639:=by unfold refK;exact memA_len ..
theorem sys_made:(sysB K M B P)[0]? = some (.bool true):=by unfold sysB;rw [memA_get (by decide)];rfl
theorem sysF_page (hp:p < 1024) (hj:j < 66):sysF K M B P (1+p * 66+j)=pageF K M B p j:=by
 unfold sysF
 rw [if_neg (by omega),if_pos (by omega),show (1+p * 66+j - 1) / 66=p by omega,show (1+p * 66+j - 1) % 66=j by omega]
theorem sys_kind (hp:p < 1024):(sysB K M B P)[1+p * 66]? = some (.int .i64 (K p)):=by
 unfold sysB;rw [memA_get (by omega),show 1+p * 66=1+p * 66+0 by omega,sysF_page hp (by decide)];rfl
theorem sys_huge (hp:p < 1024):(sysB K M B P)[1+p * 66+1]? = some (.bool (M p)):=by
 unfold sysB;rw [memA_get (by omega),sysF_page hp (by decide)];rfl
theorem sys_byte (hp:p < 1024) (hj:j < 64):(sysB K M B P)[1+p * 66+2+j]? = some (.int .u8 (B p j)):=by
 unfold sysB;rw [memA_get (by omega),Nat.add_assoc (1+p * 66),sysF_page hp (by omega)];unfold pageF
 rw [if_neg (by omega),if_neg (by omega),show 2+j - 2=j by omega]
theorem sys_ext {F:Nat→AV} {K':Nat→Int} {M':Nat→Bool} {B':Nat→Nat→Int} {P':List AV} (h0:F 0 = .bool true) (hp:∀ p,p < 1024→∀ j,j < 66→F (1+p * 66+j)=pageF K' M' B' p j) (hP:∀ i,i < 15→F (67585+i)=P'[i]?.getD .undef):memA 67600 F=sysB K' M' B' P':=by
 unfold sysB
 refine memA_congr fun i hi=>?_
 by_cases h1:i=0
 ·subst h1;exact h0
 ·by_cases h2:i < 67585
  ·have e:i=1+(i - 1) / 66 * 66+(i - 1) % 66:=by omega
   have hq:(i - 1) / 66 < 1024:=by omega
   have hr:(i - 1) % 66 < 66:=by omega
   have e1:=hp _ hq _ hr
   have e2:=sysF_page (K:=K') (M:=M') (B:=B') (P:=P') hq hr
   rw [← e] at e1 e2
   rw [e1,e2]
  ·have e:=hP (i - 67585) (by omega)
   rw [show 67585+(i - 67585)=i by omega] at e
   rw [e];unfold sysF;rw [if_neg h1,if_neg h2]
theorem ref_ext {F:Nat→AV} {K':Nat→Int} {G':Nat→Bool} {B':Nat→Nat→Int} {P':List AV} (hk:∀ p,p < 1024→F p = .int .i64 (K' p)) (hg:∀ g,g < 64→F (1024+g) = .bool (G' g)) (hb:∀ p,p < 1024→∀ j,j < 64→F (1088+p * 64+j) = .int .u8 (B' p j)) (hP:∀ i,i < 15→F (66624+i)=P'[i]?.getD .undef):memA 66639 F=refK K' G' B' P':=by
 unfold refK
 refine memA_congr fun i hi=>?_
 unfold refF
 by_cases h1:i < 1024
 ·rw [if_pos h1,hk i h1]
 ·rw [if_neg h1]
  by_cases h2:i < 1088
  ·rw [if_pos h2]
   have e:=hg (i - 1024) (by omega)
   rw [show 1024+(i - 1024)=i by omega] at e;exact e
  ·rw [if_neg h2]
   by_cases h3:i < 66624
   ·rw [if_pos h3]
    have e1:=hb ((i - 1088) / 64) (by omega) ((i - 1088) % 64) (by omega)
    rw [show 1088+(i - 1088) / 64 * 64+(i - 1088) % 64=i by omega] at e1;exact e1
   ·rw [if_neg h3]
    have e:=hP (i - 66624) (by omega)
    rw [show 66624+(i - 66624)=i by omega] at e;exact e
theorem sysF_plan {i:Nat}:sysF K M B P (67585+i)=P[i]?.getD .undef:=by
 unfold sysF;rw [if_neg (by omega),if_neg (by omega),show 67585+i - 67585=i by omega]
theorem sys_setByte (hp:p < 1024) (hj:j < 64):(sysB K M B P).set (1+p * 66+2+j) (.int .u8 v)=sysB K M (updP B p (updI (B p) j v)) P:=by
 rw [sysB,memA_set]
 refine sys_ext (by rw [if_neg (by omega)];rfl) (fun q hq k hk=>?_) fun i hi=>by rw [if_neg (by omega),sysF_plan]
 rw [sysF_page hq hk];unfold pageF updP
 by_cases h0:k=0
 ·rw [if_neg (by omega),if_pos h0,if_pos h0]
 ·by_cases h1:k=1
  ·rw [if_neg (by omega),if_neg h0,if_neg h0,if_pos h1,if_pos h1]
  ·rw [if_neg h0,if_neg h0,if_neg h1,if_neg h1]
   by_cases h2:q=p
   ·subst h2
    rw [if_pos rfl];unfold updI
    by_cases h3:k=2+j
    ·rw [if_pos (by omega),if_pos (by omega)]
    ·rw [if_neg (by omega),if_neg (by omega)]
   ·rw [if_neg (by omega),if_neg h2]
def pgA (k:Int):List AV:=.int .i64 k :: .bool false::List.replicate 64 (.int .u8 0)
theorem sys_setPage (hp:p < 1024):over (sysB K M B P) (1+p * 66) (pgA v)=sysB (updI K p v) (updB M p false) (updP B p fun _=>0) P:=by
 have hl:(pgA v).length=66:=by simp [pgA]
 rw [sysB,memA_over]
 simp only [hl]
 refine sys_ext (by rw [if_neg (by omega)];rfl) (fun q hq j hj=>?_) fun i hi=>by rw [if_neg (by omega),sysF_plan]
 by_cases h2:q=p
 ·subst h2
  rw [if_pos (by omega),show 1+q * 66+j - (1+q * 66)=j by omega]
  unfold pageF updI updB updP
  rw [if_pos rfl,if_pos rfl,if_pos rfl]
  match j with
  | 0=>rfl
  | 1=>rfl
  | j+2=>rw [if_neg (by omega),if_neg (by omega)];show (List.replicate 64 (AV.int .u8 0))[j]?.getD .undef=_;rw [List.getElem?_replicate,if_pos (by omega)];rfl
 ·rw [if_neg (by omega),sysF_page hq hj];unfold pageF updI updB updP
  rw [if_neg h2,if_neg h2,if_neg h2]
theorem sys_plan (hP:P.length=15):((sysB K M B P).drop 67585).take 15=P:=by
 rw [sysB,memA_part (by decide)]
 refine List.ext_getElem? fun j=>?_
 by_cases hj:j < 15
 ·simp only [List.getElem?_map,List.getElem?_range hj,Option.map_some,sysF_plan]
  rw [List.getElem?_eq_getElem (by omega)];rfl
 ·rw [List.getElem?_eq_none (by simp;omega),List.getElem?_eq_none (by omega)]
theorem sys_setPlan {P':List AV} (hP:P'.length=15):over (sysB K M B P) 67585 P'=sysB K M B P':=by
 rw [sysB,memA_over]
 refine sys_ext (by rw [if_neg (by omega)];rfl) (fun q hq j hj=>by rw [if_neg (by omega),sysF_page hq hj]) fun i hi=>by rw [if_pos (by omega),show 67585+i - 67585=i by omega]
theorem refF_byte (hp:p < 1024) (hj:j < 64):refF K G B P (1088+p * 64+j) = .int .u8 (B p j):=by
 unfold refF;rw [if_neg (by omega),if_neg (by omega),if_pos (by omega),show (1088+p * 64+j - 1088) / 64=p by omega,show (1088+p * 64+j - 1088) % 64=j by omega]
theorem refF_kind (hp:p < 1024):refF K G B P p = .int .i64 (K p):=by unfold refF;rw [if_pos hp]
theorem refF_huge (hp:p < 64):refF K G B P (1024+p) = .bool (G p):=by unfold refF;rw [if_neg (by omega),if_pos (by omega),show 1024+p - 1024=p by omega]
theorem refF_plan {i:Nat}:refF K G B P (66624+i)=P[i]?.getD .undef:=by unfold refF;rw [if_neg (by omega),if_neg (by omega),if_neg (by omega),show 66624+i - 66624=i by omega]
theorem rfk_plan (hP:P.length=15):((refK K G B P).drop 66624).take 15=P:=by
 rw [refK,memA_part (by decide)]
 refine List.ext_getElem? fun j=>?_
 by_cases hj:j < 15
 ·simp only [List.getElem?_map,List.getElem?_range hj,Option.map_some,refF_plan]
  rw [List.getElem?_eq_getElem (by omega)];rfl
 ·rw [List.getElem?_eq_none (by simp;omega),List.getElem?_eq_none (by omega)]
theorem rfk_setPlan {P':List AV} (hP:P'.length=15):over (refK K G B P) 66624 P'=refK K G B P':=by
 rw [refK,memA_over]
 refine ref_ext (fun q hq=>by rw [if_neg (by omega),refF_kind hq]) (fun g hg=>by rw [if_neg (by omega),refF_huge hg]) (fun q hq j hj=>by rw [if_neg (by omega),refF_byte hq hj]) fun i hi=>by rw [if_pos (by omega),show 66624+i - 66624=i by omega]
theorem getD_plain {i:Nat} (hP:∀ x ∈ P,Plain x):Plain (P[i]?.getD .undef):=by
 cases h:P[i]? with
 | none=>exact plain_undef
 | some x=>exact hP x (List.mem_of_getElem? h)
theorem sys_plain (hP:∀ x ∈ P,Plain x):∀ x ∈ sysB K M B P,Plain x:=by
 unfold sysB
 refine memA_plain fun i hi=>?_
 unfold sysF pageF
 split
 ·exact plain_bool
 ·split
  ·split
   ·exact plain_int
   ·split
    ·exact plain_bool
    ·exact plain_int
  ·exact getD_plain hP
theorem rfk_plain (hP:∀ x ∈ P,Plain x):∀ x ∈ refK K G B P,Plain x:=by
 unfold refK
 refine memA_plain fun i hi=>?_
 unfold refF
 split
 ·exact plain_int
 ·split
  ·exact plain_bool
  ·split
   ·exact plain_int
   ·exact getD_plain hP
end
end Go.Pol
namespace Go.Pol
open Go.Am
def C1 (C:Nat→Int) (k:Nat):Nat→Int:=if C k < 1000000 then updI C k (C k+1) else C
def H1 (l:List Rl) (C H:Nat→Int) (k:Nat):Nat→Int:=if C k < 1000000 then (if refL l (k:Nat) (C k+1) then updI H k (H k+1) else H) else H
def isR (l:List Rl) (C:Nat→Int) (k:Nat):Bool:=if C k < 1000000 then refL l (k:Nat) (C k+1) else false
section
variable {K:Nat→Int} {M G:Nat→Bool} {B:Nat→Nat→Int} {P P':List AV} {o:Nat}
theorem sys_planO (h:o=67585) (hP:P.length=15):((sysB K M B P).drop o).take 15=P:=by rw [h];exact sys_plan hP
theorem rfk_planO (h:o=66624) (hP:P.length=15):((refK K G B P).drop o).take 15=P:=by rw [h];exact rfk_plan hP
theorem sys_setPlanO (h:o=67585) (hP:P'.length=15):over (sysB K M B P) o P'=sysB K M B P':=by rw [h];exact sys_setPlan hP
theorem rfk_setPlanO (h:o=66624) (hP:P'.length=15):over (refK K G B P) o P'=refK K G B P':=by rw [h];exact rfk_setPlan hP
end
theorem overK_cons {k:List AV→Prop} {v:AV} {vs cs ds:List AV} {o:Nat} (h:o+(v::vs).length≤cs.length) (e:over cs o (v::vs)=ds) (hk:k ds):set1K cs o v fun cs'=>overK cs' (o+1) vs k:=overK_of (vs:=v::vs) h e hk
end Go.Pol
namespace Go.Proofs.Ytphggldkligldaa
open Go Go.Am Go.Pol
theorem ws {p q:Prop} (hq:q) (h:HidP q→p:=by (intro hQz;((repeat' ((try (conv=>whnf));first|(with_reducible first|refine run_cons ?_|refine runq_cons ?_|refine code_seq ?_|refine code_reg ?_|refine code_cond ?_|refine run_nil ?_|refine runq_nil ?_|refine rund_op rfl ?_|refine rund_nil ?_|refine code_block ?_|refine code_skip ?_|refine code_exit ?_|refine code_ret ?_|refine code_range ?_|refine rund_fast (by decide +kernel) ?_|refine rund_slow (by decide +kernel) ?_|refine br_tt ?_|refine br_ff ?_|refine br_n ?_|refine br_and ?_|refine br_or ?_|refine br_t (by assumption) ?_|refine br_f (by assumption) ?_|refine eq_i64 (by omega) ?_|refine el_tn ?_)|((with_reducible refine br_dt ?_ ?_);focus omega)|((with_reducible refine br_df ?_ ?_);focus omega)|((with_reducible apply br_dq hQz)<;>(try intro hsp hQz))|((with_reducible refine ck_x ?_ ?_);focus (first|omega|rfl|assumption|decide|(simp only [List.length_map,List.length_cons,List.length_nil];omega)))|(with_reducible first|refine eq_tn ?_|refine eq_tn1 ?_|refine eq_tn2 ?_|refine eq_m1 ?_|refine eq_m2 ?_|refine eq_zm ?_|refine eq_z ?_|refine len_map ?_|refine len_sl ?_|refine len_nils ?_|refine len_own' ?_|refine len_isl ?_|refine eq_u8 (by omega) ?_|refine eq_u16 (by omega) ?_)|refine nthK_of (by with_reducible assumption) ?_|refine eq_of (by with_reducible assumption) ?_|refine dropK_of (by rw [sys_len];omega) rfl ?_|refine dropK_of (by rw [ref_len];omega) rfl ?_|refine takeK_of (by rw [List.length_drop,sys_len];omega) (sys_planO (by omega) rfl) ?_|refine takeK_of (by rw [List.length_drop,ref_len];omega) (rfk_planO (by omega) rfl) ?_|refine overK_cons (by first|(rw [sys_len];simp;omega)|fail) (sys_setPlanO (by omega) rfl) ?_|refine overK_cons (by first|(rw [ref_len];simp;omega)|fail) (rfk_setPlanO (by omega) rfl) ?_|(with_reducible first|refine eq_rfl ?_|refine ChkX.mk (by kernel_rfl) ?_|refine code_q rfl ?_|refine code_d (by decide +kernel) ?_|refine end_go rfl ?_)|refine cx_locS (by assumption) rfl (by omega) ?_|refine dcx_locS (by assumption) rfl rfl ?_|refine cx_pureS (by assumption) ?_|refine dcx_pureS (by assumption) ?_|refine qcx_pureS (by assumption) ?_|refine len_map ?_|refine len_isl ?_|refine el_of rfl rfl ?_|refine del_own ?_|refine del_own' rfl ?_|refine as_go rfl ?_|refine rd_go rfl ?_|refine rg_end rfl ?_|refine flat_ownX ?_|refine EqLX.mk ?_|((with_reducible apply br_bq hQz)<;>(try intro hsp hQz))|exact hQz.out))<;>(try (conv=>whnf))))):p:=h ⟨hq⟩
section
variable {K:Nat→Int} {M G:Nat→Bool} {B:Nat→Nat→Int} {l:List Rl} {C H:Nat→Int}
theorem plain_1 {x:AV} (h:Plain x):∀ y ∈ [x],Plain y:=fun y hy=>by obtain rfl:=List.mem_singleton.1 hy;exact h
theorem plain_2 {x z:AV} (h:Plain x) (h':Plain z):∀ y ∈ [x,z],Plain y:=fun y hy=>by
 rcases List.mem_cons.1 hy with rfl|hy
 ·exact h
 ·obtain rfl:=List.mem_singleton.1 hy;exact h'
set_option maxHeartbeats 1600000 in
theorem k_ref (hv:chkS l C H=0) {k:Nat} (hk:k < 7):LocS 80 [.int .i64 (k:Nat)] (sysB K M B (stA l C H)) (.bool (isR l C k)) (sysB K M B (stA l (C1 C k) (H1 l C H k))):=by
 refine LocS.mk (loc_x hmix b80 rfl ?_) (sys_plain stA_plain) (sys_plain stA_plain) (plain_1 plain_int) plain_bool
 have hst:=(chkS_ok hv).2.2 k hk
 unfold c80
 obtain ⟨o,ho⟩:∃ o,o=67585:=⟨_,rfl⟩
 rw [← ho]
 by_cases hC:C k < 1000000
 ·have z:=k_nextS hv hk hC
  unfold C1 H1 isR
  simp only [if_pos hC]
  generalize refL l (k:Nat) (C k+1)=b at *
  generalize (if b=true then updI H k (H k+1) else H)=H' at *
  generalize updI C k (C k+1)=C' at *
  (refine ws ?_;repeat' (first|with_reducible refine And.intro ?_ ?_|intro hsp))
  all_goals exact end_s (by first|rfl|(simp;done)|(congr 1;simp;assumption)|simp [*]) plain_bool rfl (sys_plain stA_plain)
 ·have z:=k_nextF hv hk (show C k=1000000 from Int.le_antisymm hst.2.1 (by omega))
  unfold C1 H1 isR
  simp only [if_neg hC]
  (refine ws ?_;repeat' (first|with_reducible refine And.intro ?_ ?_|intro hsp))
  all_goals exact end_s (by first|rfl|(simp;done)|(congr 1;simp;assumption)|simp [*]) plain_bool rfl (sys_plain stA_plain)
end
end Go.Proofs.Ytphggldkligldaa
namespace Go.Pol
open Go.Am
def setR (K:Nat→Int) (at_ n:Nat) (v:Int):Nat→Int:=fun p=>if at_≤p∧p < at_+n then v else K p
def setM (M:Nat→Bool) (at_ n:Nat) (v:Bool):Nat→Bool:=fun p=>if at_≤p∧p < at_+n then v else M p
def setP (B:Nat→Nat→Int) (at_ n:Nat):Nat→Nat→Int:=fun p=>if at_≤p∧p < at_+n then fun _=>0 else B p
theorem setR_0 {K:Nat→Int} {a:Nat} {v:Int}:setR K a 0 v=K:=by funext p;unfold setR;rw [if_neg (by omega)]
theorem setM_0 {K:Nat→Bool} {a:Nat} {v:Bool}:setM K a 0 v=K:=by funext p;unfold setM;rw [if_neg (by omega)]
theorem setP_0 {K:Nat→Nat→Int} {a:Nat}:setP K a 0=K:=by funext p;unfold setP;rw [if_neg (by omega)]
theorem setR_s {K:Nat→Int} {a i:Nat} {v:Int}:updI (setR K a i v) (a+i) v=setR K a (i+1) v:=by
 funext p;unfold setR updI
 by_cases h:p=a+i
 ·rw [if_pos h,if_pos (by omega)]
 ·rw [if_neg h]
  by_cases h2:a≤p∧p < a+i
  ·exact (if_pos h2).trans (if_pos (by omega)).symm
  ·exact (if_neg h2).trans (if_neg (by omega)).symm
theorem setM_s {K:Nat→Bool} {a i:Nat} {v:Bool}:updB (setM K a i v) (a+i) v=setM K a (i+1) v:=by
 funext p;unfold setM updB
 by_cases h:p=a+i
 ·rw [if_pos h,if_pos (by omega)]
 ·rw [if_neg h]
  by_cases h2:a≤p∧p < a+i
  ·exact (if_pos h2).trans (if_pos (by omega)).symm
  ·exact (if_neg h2).trans (if_neg (by omega)).symm
theorem setP_s {K:Nat→Nat→Int} {a i:Nat}:updP (setP K a i) (a+i) (fun _=>0)=setP K a (i+1):=by
 funext p;unfold setP updP
 by_cases h:p=a+i
 ·rw [if_pos h,if_pos (by omega)]
 ·rw [if_neg h]
  by_cases h2:a≤p∧p < a+i
  ·exact (if_pos h2).trans (if_pos (by omega)).symm
  ·exact (if_neg h2).trans (if_neg (by omega)).symm
def okR (K:Nat→Int) (M:Nat→Bool) (at_ n:Nat) (v:Int):Prop:=∀ i,i < n→K (at_+i)=v∧M (at_+i)=false
instance (K:Nat→Int) (M:Nat→Bool) (at_ n:Nat) (v:Int):Decidable (okR K M at_ n v):=by unfold okR;infer_instance
end Go.Pol
namespace Go.Proofs.Ytphggldkligldaa
open Go Go.Am Go.Pol
theorem plx_Sd {p:Prop} (h:p:=by ((first|assumption|exact plain_int|exact plain_bool|exact plain_undef|exact plain_nils|exact plain_nilp|exact plain_nilf|exact plain_str|with_reducible apply plain_rl|with_reducible apply plain_rls|with_reducible apply plain_pl|with_reducible apply plain_ii|with_reducible apply plain_st|with_reducible apply plain_stE|with_reducible apply plain_zst|with_reducible apply plain_zstE|with_reducible apply plain_irl|with_reducible apply plain_mk|with_reducible apply plain_stB|with_reducible apply plain_zstB|fail);first|done|fail)):p:=h
theorem prx_Sd {p:Prop} (h:p:=by (((repeat' (first|exact plain_all0|refine plain_all2 ?_ ?_|exact plain_int|first|assumption|exact plain_int|exact plain_bool|exact plain_undef|exact plain_nils|exact plain_nilp|exact plain_nilf|exact plain_str|with_reducible apply plain_rl|with_reducible apply plain_rls|with_reducible apply plain_pl|with_reducible apply plain_ii|with_reducible apply plain_st|with_reducible apply plain_stE|with_reducible apply plain_zst|with_reducible apply plain_zstE|with_reducible apply plain_irl|with_reducible apply plain_mk|with_reducible apply plain_stB|with_reducible apply plain_zstB)));first|done|fail)):p:=h
theorem ppx_Sd {p:Prop} (h:p:=by ((first|with_reducible assumption|with_reducible apply rlA_plain _|with_reducible apply plain_flat rlA_plain|with_reducible apply stA_plain|with_reducible apply memT_plain|with_reducible apply sys_plain stA_plain|with_reducible apply rfk_plain stA_plain|with_reducible apply sys_plain hP|with_reducible apply rfk_plain hP|with_reducible apply plain_map (fun _=>plain_int)|with_reducible apply plain_map (fun _=>plain_bool)|exact prx_Sd|fail);first|done|fail)):p:=h
theorem wvx_Sd {p:Prop} (h:p:=by ((first|exact wk_undef|exact wk_int (by first|rfl|omega|(dsimp only;omega))|exact wk_bool rfl|exact wk_ptr rfl (by first|decide|simp|omega)|exact wk_sl rfl (by first|decide|simp|omega) (by first|rfl|omega|simp) (by first|omega|simp) (by first|omega|simp)|exact wk_own rfl (by first|decide|simp|omega)|exact wk_nil0 (by first|rfl|simp)|exact wk_slown rfl (by first|decide|omega|(simp;done)) (by first|omega|(simp;done)) (by first|rfl|omega|(simp;done)|(simp;omega))|exact wk_plain hs plx_Sd|(with_reducible refine wk_fn ?_ ?_<;>repeat' (first|with_reducible exact wkl_nil|with_reducible refine wkl_cons ?_ ?_|exact wk_ptr rfl (by first|decide|simp|omega)))|(with_reducible refine wk_agg ?_;repeat' (first|with_reducible exact wkl_nil|with_reducible refine wkl_cons ?_ ?_|exact wk_int (by first|rfl|omega|(dsimp only;omega))|exact wk_bool rfl))|exact wk_yld rfl (by first|decide|simp|omega)|fail);first|done|fail)):p:=h
theorem wkx_Sd {p:Prop} (h:p:=by (refine weak_s (by exact oneOf_of rfl) (by exact subH_of rfl) (by intro hs;(repeat' ((try (conv=>whnf));first|with_reducible exact True.intro|with_reducible refine And.intro ?_ ?_|(with_reducible refine WkX.mk ?_;first|exact wvx_Sd|fail)))) (by intro hs;(try dsimp only);(repeat' (first|with_reducible exact wko_nil|refine wko_plain hs (by first|decide|omega|simp) rfl (by first|rfl) (by (first|exact ppx_Sd|fail|((refine plain_app ?_ ?_)<;>(first|exact ppx_Sd|fail)))) ?_|refine wko_cells (by first|decide|omega|simp) rfl (by repeat' (first|with_reducible exact wkl_nil|with_reducible refine wkl_cons ?_ ?_|(first|exact wvx_Sd|fail))) ?_|refine wko_loop (by first|decide|omega|simp) rfl (by ((try subst hF);(try subst hF2);exact wkl_sd (wkf_sget (by (repeat' ((try (conv=>whnf));first|with_reducible exact True.intro|with_reducible refine And.intro ?_ ?_|(with_reducible refine WkX.mk ?_;first|exact wvx_Sd|fail))))))) ?_|exact wko_nil))))):p:=h
theorem wm {p q:Prop} (hq:q) (h:HidP q→p:=by (intro hQz;((repeat' ((try (conv=>whnf));first|(with_reducible first|refine run_cons ?_|refine runq_cons ?_|refine code_seq ?_|refine code_reg ?_|refine code_cond ?_|refine run_nil ?_|refine runq_nil ?_|refine rund_op rfl ?_|refine rund_nil ?_|refine code_block ?_|refine code_skip ?_|refine code_exit ?_|refine code_ret ?_|refine code_range ?_|refine rund_fast (by decide +kernel) ?_|refine rund_slow (by decide +kernel) ?_|refine br_tt ?_|refine br_ff ?_|refine br_n ?_|refine br_and ?_|refine br_or ?_|refine br_t (by assumption) ?_|refine br_f (by assumption) ?_|refine eq_i64 (by omega) ?_|refine el_tn ?_)|((with_reducible refine br_dt ?_ ?_);focus omega)|((with_reducible refine br_df ?_ ?_);focus omega)|((with_reducible apply br_dq hQz)<;>(try intro hsp hQz))|((with_reducible refine ck_x ?_ ?_);focus (first|omega|rfl|assumption|decide|(simp only [List.length_map,List.length_cons,List.length_nil];omega)))|(with_reducible first|refine eq_tn ?_|refine eq_tn1 ?_|refine eq_tn2 ?_|refine eq_m1 ?_|refine eq_m2 ?_|refine eq_zm ?_|refine eq_z ?_|refine len_map ?_|refine len_sl ?_|refine len_nils ?_|refine len_own' ?_|refine len_isl ?_|refine eq_u8 (by omega) ?_|refine eq_u16 (by omega) ?_)|refine nthK_of (by with_reducible assumption) ?_|refine nthK_of sys_made ?_|refine eq_of (by with_reducible assumption) ?_|refine overK_cons (by first|(rw [sys_len];simp only [List.length_cons,List.length_nil];omega)|fail) (by assumption) ?_|(with_reducible first|refine eq_rfl ?_|refine ChkX.mk (by kernel_rfl) ?_|refine code_q rfl ?_|refine code_d (by decide +kernel) ?_|refine end_go rfl ?_)|refine cx_locS (by assumption) rfl (by omega) ?_|refine dcx_locS (by assumption) rfl rfl ?_|refine cx_pureS (by assumption) ?_|(refine cx_in hmix b32 rfl ?_;unfold c32)|(refine cx_in hmix b79 rfl ?_;unfold c79)|(refine cx_in hmix b81 rfl ?_;unfold c81)|(refine cx_in hmix b82 rfl ?_;unfold c82)|(refine cx_in hmix b83 rfl ?_;unfold c83)|refine len_map ?_|refine len_isl ?_|refine el_of rfl rfl ?_|refine del_own ?_|refine del_own' rfl ?_|refine as_go rfl ?_|refine rd_go rfl ?_|refine rg_end rfl ?_|refine flat_ownX ?_|refine EqLX.mk ?_|((with_reducible apply br_bq hQz)<;>(try intro hsp hQz))|exact hQz.out))<;>(try (conv=>whnf))))):p:=h ⟨hq⟩
section
variable {K:Nat→Int} {M G:Nat→Bool} {B:Nat→Nat→Int} {l:List Rl} {C H:Nat→Int}
theorem end_all {top:Bool} {P:List AV} (hP:∀ x ∈ P,Plain x) {v:Int} {b:Bool} {nx:Nat} {t:List (Nat × AObj)}:EndX top Try.prog 2 ⟨(0,.cells (sysB K M B P))::(1,.cells [.int .i64 v])::t,nx⟩ (.bool b) (fun x h1=>x = .bool b∧h1=⟨[(0,.cells (sysB K M B P)),(1,.cells [.int .i64 v])],2⟩):=by
 have hs:SubH (rn []) ⟨(0,.cells (sysB K M B P))::(1,.cells [.int .i64 v])::t,nx⟩ ⟨[(0,.cells (sysB K M B P)),(1,.cells [.int .i64 v])],2⟩:=fun i o hi=>by
  simp only [lk] at hi
  show ∃ o',lk ((0,AObj.cells (sysB K M B P))::(1,AObj.cells [.int .i64 v])::t) i=some o'
  simp only [lk]
  split at hi
  ·rename_i e;exact ⟨_,if_pos e⟩
  ·rename_i e0
   split at hi
   ·rename_i e;exact ⟨_,by rw [if_neg e0,if_pos e]⟩
   ·cases hi
 exact end_loc [] rfl (Nat.le_refl _) (oneOf_of rfl) (wk_bool rfl) (wko_plain hs (show 0 < 2 by decide) rfl rfl (sys_plain hP) (wko_plain hs (show 1 < 2 by decide) rfl rfl (plain_1 plain_int) wko_nil)) ⟨rfl,rfl⟩
set_option maxHeartbeats 1600000 in
theorem k_all (P:List AV) (hP:∀ x ∈ P,Plain x) (v:Int) (a n:Nat) (hn:a+n≤1024):LocC Try.prog G0 79 [.ptr 0 0,.int .i64 (a:Nat),.int .i64 (n:Nat),.fn 82 [] [.ptr 1 0]] [(0,.cells (sysB K M B P)),(1,.cells [.int .i64 v])] 2 fun x h1=>x = .bool (decide (okR K M a n v))∧h1=⟨[(0,.cells (sysB K M B P)),(1,.cells [.int .i64 v])],2⟩:=by
 refine loc_x hmix b79 rfl ?_
 unfold c79
 (refine wm ?_;repeat' (first|with_reducible refine And.intro ?_ ?_|intro hsp))
 (refine loop_x [0,1,2,3,10] (fun (i:Nat)=>[(11,.int .i64 (i:Nat))]) (fun (i:Nat)=>⟨[(0,.cells (sysB K M B P)),(1,.cells [.int .i64 v])],2⟩) (fun (i:Nat)=>i≤n∧∀ j,j < i→K (a+j)=v∧M (a+j)=false) (fun (i:Nat)=>n - i) (0) [] rfl (fun _=>by first|exact Nat.zero_le _|(dsimp only;omega)) ?_ (by ((try (conv=>whnf));exact wkx_Sd)) ?_)
 ·exact ⟨Nat.zero_le _,fun j hj=>by omega⟩
 rintro i ⟨hi,h0⟩
 by_cases hin:i < n
 ·have ht:((a:Int)+(i:Int)).toNat=a+i:=by omega
  have hk:(sysB K M B P)[1+((a:Int)+(i:Int)).toNat * 66+0]? = some (.int .i64 (K (a+i))):=by rw [ht];exact sys_kind (by omega)
  have hh:(sysB K M B P)[1+((a:Int)+(i:Int)).toNat * 66+1]? = some (.bool (M (a+i))):=by rw [ht];exact sys_huge (by omega)
  by_cases h1:K (a+i)=v
  ·cases h2:M (a+i) with
   | false =>
    rw [h2] at hh
    (refine wm ?_;repeat' (first|with_reducible refine And.intro ?_ ?_|intro hsp))
    all_goals first|(exfalso;exact absurd h1 (by assumption))|skip
    all_goals exact next_x (i+1) [] ⟨by omega,fun j hj=>if e:j=i then by rw [e];exact ⟨h1,h2⟩ else h0 j (by omega)⟩ (by first|omega|(dsimp only;omega)) rfl (by exact wkx_Sd)
   | true =>
    rw [h2] at hh
    rw [decide_eq_false fun h=>by have:=(h i hin).2;rw [h2] at this;cases this]
    (refine wm ?_;repeat' (first|with_reducible refine And.intro ?_ ?_|intro hsp))
    all_goals first|exact end_all hP|(exfalso;exact absurd h1 (by assumption))
  ·rw [decide_eq_false fun h=>h1 (h i hin).1]
   (refine wm ?_;repeat' (first|with_reducible refine And.intro ?_ ?_|intro hsp))
   all_goals exact end_all hP
 ·have hok:okR K M a n v:=fun j hj=>h0 j (by omega)
  rw [decide_eq_true hok]
  (refine wm ?_;repeat' (first|with_reducible refine And.intro ?_ ?_|intro hsp))
  all_goals exact end_all hP
theorem end_each {top:Bool} {P:List AV} (hP:∀ x ∈ P,Plain x) {v:Int} {nx:Nat} {t:List (Nat × AObj)}:EndX top Try.prog 2 ⟨(0,.cells (sysB K M B P))::(1,.cells [.int .i64 v])::t,nx⟩ (.tup []) (fun x h1=>x = .tup []∧h1=⟨[(0,.cells (sysB K M B P)),(1,.cells [.int .i64 v])],2⟩):=by
 have hs:SubH (rn []) ⟨(0,.cells (sysB K M B P))::(1,.cells [.int .i64 v])::t,nx⟩ ⟨[(0,.cells (sysB K M B P)),(1,.cells [.int .i64 v])],2⟩:=fun i o hi=>by
  simp only [lk] at hi
  show ∃ o',lk ((0,AObj.cells (sysB K M B P))::(1,AObj.cells [.int .i64 v])::t) i=some o'
  simp only [lk]
  split at hi
  ·rename_i e;exact ⟨_,if_pos e⟩
  ·rename_i e0
   split at hi
   ·rename_i e;exact ⟨_,by rw [if_neg e0,if_pos e]⟩
   ·cases hi
 exact end_loc [] rfl (Nat.le_refl _) (oneOf_of rfl) (wk_plain hs (plain_tup fun x hx=>by cases hx)) (wko_plain hs (show 0 < 2 by decide) rfl rfl (sys_plain hP) (wko_plain hs (show 1 < 2 by decide) rfl rfl (plain_1 plain_int) wko_nil)) ⟨rfl,rfl⟩
set_option maxHeartbeats 1600000 in
theorem k_each (P:List AV) (hP:∀ x ∈ P,Plain x) (v:Int) (a n:Nat) (hn:a+n≤1024):LocC Try.prog G0 81 [.ptr 0 0,.int .i64 (a:Nat),.int .i64 (n:Nat),.fn 83 [] [.ptr 1 0]] [(0,.cells (sysB K M B P)),(1,.cells [.int .i64 v])] 2 fun x h1=>x = .tup []∧h1=⟨[(0,.cells (sysB (setR K a n v) (setM M a n false) (setP B a n) P)),(1,.cells [.int .i64 v])],2⟩:=by
 refine loc_x hmix b81 rfl ?_
 unfold c81
 have e0:sysB K M B P=sysB (setR K a 0 v) (setM M a 0 false) (setP B a 0) P:=by rw [setR_0,setM_0,setP_0]
 rw [e0]
 (refine wm ?_;repeat' (first|with_reducible refine And.intro ?_ ?_|intro hsp))
 (refine loop_x [0,1,2,3,9] (fun (i:Nat)=>[(10,.int .i64 (i:Nat))]) (fun (i:Nat)=>⟨[(0,.cells (sysB (setR K a i v) (setM M a i false) (setP B a i) P)),(1,.cells [.int .i64 v])],2⟩) (fun (i:Nat)=>i≤n) (fun (i:Nat)=>n - i) (0) [] rfl (fun _=>by first|exact Nat.zero_le _|(dsimp only;omega)) ?_ (by ((try (conv=>whnf));exact wkx_Sd)) ?_)
 ·exact Nat.zero_le _
 rintro i hi
 by_cases hin:i < n
 ·have ht:((a:Int)+(i:Int)).toNat=a+i:=by omega
  have hs:over (sysB (setR K a i v) (setM M a i false) (setP B a i) P) (1+((a:Int)+(i:Int)).toNat * 66) (pgA v)=sysB (setR K a (i+1) v) (setM M a (i+1) false) (setP B a (i+1)) P:=by
   rw [ht,sys_setPage (by omega),setR_s,setM_s,setP_s]
  have hl:1+((a:Int)+(i:Int)).toNat * 66+66≤67600:=by omega
  (refine wm ?_;repeat' (first|with_reducible refine And.intro ?_ ?_|intro hsp))
  all_goals exact next_x (i+1) [] (by (try dsimp only);omega) (by first|omega|(dsimp only;omega)) rfl (by exact wkx_Sd)
 ·obtain rfl:i=n:=by omega
  (refine wm ?_;repeat' (first|with_reducible refine And.intro ?_ ?_|intro hsp))
  all_goals exact end_each hP
end
end Go.Proofs.Ytphggldkligldaa
namespace Go.Proofs.Ytphggldkligldaa
open Go Go.Am Go.Pol
structure LocT (f g:Nat) (cs ds:List AV) (v x y:Int) (r:AV):Prop where
 out:LocC Try.prog G0 f [.ptr 0 0,.int .i64 x,.int .i64 y,.fn g [] [.ptr 1 0]] [(0,.cells cs),(1,.cells [.int .i64 v])] 2 fun x h1=>x=r∧h1=⟨[(0,.cells ds),(1,.cells [.int .i64 v])],2⟩
theorem cx_two {f g:Nat} {cs ds:List AV} {v x y:Int} {a b nx:Nat} {l:List (Nat × AObj)} {r:AV} {K:AV→Hp→Prop}
  (hc:LocT f g cs ds v x y r)
  (pc:∀ x ∈ cs,Plain x) (pd:∀ x ∈ ds,Plain x) (pr:Plain r)
  (hl0:lk l a=some (.cells cs)) (hl1:lk l b=some (.cells [.int .i64 v])) (hd:nodB [a,b]=true) (hlt:a < nx∧b < nx)
  (hk:filtK [a,b] l fun l2=>K r ⟨[(a,.cells ds),(b,.cells [.int .i64 v])]++l2,nx⟩):CallX Try.prog G0 (.fn f [] []) [.ptr a 0,.int .i64 x,.int .i64 y,.fn g [] [.ptr b 0]] ⟨l,nx⟩ K:=by
 have e0:enter [a,b] a 0:=rfl
 have e1:enter [a,b] b 1:=rfl
 have k0:back [a,b] nx 0 a:=rfl
 have k1:back [a,b] nx 1 b:=rfl
 refine cx_loc (l1:=[(a,.cells ds),(b,.cells [.int .i64 v])]) [a,b] hc.out plainG hd (.cons e0 hl0 (rnl_plain pc) (.cons e1 hl1 (rnl_plain (plain_1 plain_int)) .nil))
  ?_ (by intro x hx;simp only [List.mem_cons,List.not_mem_nil,or_false] at hx;omega) (rn_plain pr)
  (.cons k0 (rnl_plain pd) (.cons k1 (rnl_plain (plain_1 plain_int)) .nil)) hk
 simp only [List.nil_append,List.append_nil]
 exact ⟨rn_ptr e0,rn_plain plain_int,rn_plain plain_int,rn_fn trivial ⟨rn_ptr e1,trivial⟩,trivial⟩
theorem end_3 {top:Bool} {h:Hp} {x r:AV} {ds:List AV} {v w:Int} (hr:x=r) (hp:Plain r) (h0:lk h.l 0=some (.cells ds)) (h1:lk h.l 1=some (.cells [.int .i64 v])) (h2:lk h.l 2=some (.cells [.int .i64 w])) (pd:∀ x ∈ ds,Plain x) :
  EndX top Try.prog 3 h x (fun r' h'=>r'=r∧h'=⟨[(0,.cells ds),(1,.cells [.int .i64 v]),(2,.cells [.int .i64 w])],3⟩):=by
 subst hr
 have hs:SubH (rn []) h ⟨[(0,.cells ds),(1,.cells [.int .i64 v]),(2,.cells [.int .i64 w])],3⟩:=fun i o hi=>by
  simp only [lk] at hi
  show ∃ o',lk h.l i=some o'
  split at hi
  ·rename_i e;subst e;exact ⟨_,h0⟩
  ·split at hi
   ·rename_i e;subst e;exact ⟨_,h1⟩
   ·split at hi
    ·rename_i e;subst e;exact ⟨_,h2⟩
    ·cases hi
 exact end_loc [] rfl (Nat.le_refl _) (oneOf_of rfl) (wk_plain hs hp) (wko_plain hs (show 0 < 3 by decide) h0 rfl pd (wko_plain hs (show 1 < 3 by decide) h1 rfl (plain_1 plain_int) (wko_plain hs (show 2 < 3 by decide) h2 rfl (plain_1 plain_int) wko_nil))) ⟨rfl,rfl⟩
theorem wk {p q:Prop} (hq:q) (h:HidP q→p:=by (intro hQz;((repeat' ((try (conv=>whnf));first|(with_reducible first|refine run_cons ?_|refine runq_cons ?_|refine code_seq ?_|refine code_reg ?_|refine code_cond ?_|refine run_nil ?_|refine runq_nil ?_|refine rund_op rfl ?_|refine rund_nil ?_|refine code_block ?_|refine code_skip ?_|refine code_exit ?_|refine code_ret ?_|refine code_range ?_|refine rund_fast (by decide +kernel) ?_|refine rund_slow (by decide +kernel) ?_|refine br_tt ?_|refine br_ff ?_|refine br_n ?_|refine br_and ?_|refine br_or ?_|refine br_t (by assumption) ?_|refine br_f (by assumption) ?_|refine eq_i64 (by omega) ?_|refine el_tn ?_)|((with_reducible refine br_dt ?_ ?_);focus omega)|((with_reducible refine br_df ?_ ?_);focus omega)|((with_reducible apply br_dq hQz)<;>(try intro hsp hQz))|((with_reducible refine ck_x ?_ ?_);focus (first|omega|rfl|assumption|decide|(simp only [List.length_map,List.length_cons,List.length_nil];omega)))|(with_reducible first|refine eq_tn ?_|refine eq_tn1 ?_|refine eq_tn2 ?_|refine eq_m1 ?_|refine eq_m2 ?_|refine eq_zm ?_|refine eq_z ?_|refine len_map ?_|refine len_sl ?_|refine len_nils ?_|refine len_own' ?_|refine len_isl ?_|refine eq_u8 (by omega) ?_|refine eq_u16 (by omega) ?_)|refine nthK_of sys_made ?_|refine nthK_of (by with_reducible assumption) ?_|refine eq_of (by with_reducible assumption) ?_|(with_reducible first|refine eq_rfl ?_|refine ChkX.mk (by kernel_rfl) ?_|refine code_q rfl ?_|refine code_d (by decide +kernel) ?_|refine end_go rfl ?_)|refine cx_two (by assumption) (sys_plain stA_plain) (sys_plain stA_plain) plain_bool rfl rfl rfl (by omega) ?_|refine cx_two (by assumption) (sys_plain stA_plain) (sys_plain stA_plain) (plain_tup fun x hx=>by cases hx) rfl rfl rfl (by omega) ?_|refine cx_locS (by assumption) rfl (by omega) ?_|(refine cx_in hmix b32 rfl ?_;unfold c32)|refine len_map ?_|refine len_isl ?_|refine el_of rfl rfl ?_|refine del_own ?_|refine del_own' rfl ?_|refine as_go rfl ?_|refine rd_go rfl ?_|refine rg_end rfl ?_|refine flat_ownX ?_|refine EqLX.mk ?_|((with_reducible apply br_bq hQz)<;>(try intro hsp hQz))|exact hQz.out))<;>(try (conv=>whnf))))):p:=h ⟨hq⟩
section
variable {K:Nat→Int} {M G:Nat→Bool} {B:Nat→Nat→Int} {l:List Rl} {C H:Nat→Int}
set_option maxHeartbeats 1600000 in
theorem k_make_range {v w a n:Int} {k:Nat} (h:n < 1∨a < 0∨1024≤a∨1024 - a < n):LocC Try.prog G0 60 [.ptr 0 0,.int .i64 a,.int .i64 n,.agg [.int .i64 (k:Nat),.fn 82 [] [.ptr 1 0],.fn 83 [] [.ptr 2 0]]] [(0,.cells (sysB K M B (stA l C H))),(1,.cells [.int .i64 v]),(2,.cells [.int .i64 w])] 3 fun x h1=>x = .int .i64 7∧h1=⟨[(0,.cells (sysB K M B (stA l C H))),(1,.cells [.int .i64 v]),(2,.cells [.int .i64 w])],3⟩:=by
 refine loc_x hmix b60 rfl ?_
 unfold c60
 (refine wk ?_;repeat' (first|with_reducible refine And.intro ?_ ?_|intro hsp))
 all_goals first|exact end_3 rfl plain_int rfl rfl rfl (sys_plain stA_plain)|(exfalso;omega)
set_option maxHeartbeats 1600000 in
theorem k_make_down {v w:Int} {a n k:Nat} (h1:1≤n) (h2:a+n≤1024) (h:¬ okR K M a n v):LocC Try.prog G0 60 [.ptr 0 0,.int .i64 (a:Nat),.int .i64 (n:Nat),.agg [.int .i64 (k:Nat),.fn 82 [] [.ptr 1 0],.fn 83 [] [.ptr 2 0]]] [(0,.cells (sysB K M B (stA l C H))),(1,.cells [.int .i64 v]),(2,.cells [.int .i64 w])] 3 fun x h1=>x = .int .i64 9∧h1=⟨[(0,.cells (sysB K M B (stA l C H))),(1,.cells [.int .i64 v]),(2,.cells [.int .i64 w])],3⟩:=by
 have z:=LocT.mk (k_all (K:=K) (M:=M) (B:=B) (stA l C H) stA_plain v a n h2)
 rw [decide_eq_false h] at z
 refine loc_x hmix b60 rfl ?_
 unfold c60
 (refine wk ?_;repeat' (first|with_reducible refine And.intro ?_ ?_|intro hsp))
 all_goals first|exact end_3 rfl plain_int rfl rfl rfl (sys_plain stA_plain)|(exfalso;omega)|(exfalso;exact absurd hsp (by simp [*]))|skip
set_option maxHeartbeats 1600000 in
theorem k_make_ref (hv:chkS l C H=0) {v w:Int} {a n k:Nat} (hk:k < 7) (h1:1≤n) (h2:a+n≤1024) (h:okR K M a n v) (hr:isR l C k=true):LocC Try.prog G0 60 [.ptr 0 0,.int .i64 (a:Nat),.int .i64 (n:Nat),.agg [.int .i64 (k:Nat),.fn 82 [] [.ptr 1 0],.fn 83 [] [.ptr 2 0]]] [(0,.cells (sysB K M B (stA l C H))),(1,.cells [.int .i64 v]),(2,.cells [.int .i64 w])] 3 fun x h1=>x = .int .i64 60∧h1=⟨[(0,.cells (sysB K M B (stA l (C1 C k) (H1 l C H k)))),(1,.cells [.int .i64 v]),(2,.cells [.int .i64 w])],3⟩:=by
 have z:=LocT.mk (k_all (K:=K) (M:=M) (B:=B) (stA l C H) stA_plain v a n h2)
 rw [decide_eq_true h] at z
 have z3:=LocT.mk (k_each (K:=K) (M:=M) (B:=B) (stA l (C1 C k) (H1 l C H k)) stA_plain w a n h2)
 have z2:=k_ref (K:=K) (M:=M) (B:=B) hv hk
 rw [hr] at z2
 refine loc_x hmix b60 rfl ?_
 unfold c60
 (refine wk ?_;repeat' (first|with_reducible refine And.intro ?_ ?_|intro hsp))
 all_goals first|exact end_3 rfl plain_int rfl rfl rfl (sys_plain stA_plain)|(exfalso;omega)|(exfalso;exact absurd hsp (by simp [*]))|skip
set_option maxHeartbeats 1600000 in
theorem k_make_ok (hv:chkS l C H=0) {v w:Int} {a n k:Nat} (hk:k < 7) (h1:1≤n) (h2:a+n≤1024) (h:okR K M a n v) (hr:isR l C k=false):LocC Try.prog G0 60 [.ptr 0 0,.int .i64 (a:Nat),.int .i64 (n:Nat),.agg [.int .i64 (k:Nat),.fn 82 [] [.ptr 1 0],.fn 83 [] [.ptr 2 0]]] [(0,.cells (sysB K M B (stA l C H))),(1,.cells [.int .i64 v]),(2,.cells [.int .i64 w])] 3 fun x h1=>x = .int .i64 0∧h1=⟨[(0,.cells (sysB (setR K a n w) (setM M a n false) (setP B a n) (stA l (C1 C k) (H1 l C H k)))),(1,.cells [.int .i64 v]),(2,.cells [.int .i64 w])],3⟩:=by
 have z:=LocT.mk (k_all (K:=K) (M:=M) (B:=B) (stA l C H) stA_plain v a n h2)
 rw [decide_eq_true h] at z
 have z3:=LocT.mk (k_each (K:=K) (M:=M) (B:=B) (stA l (C1 C k) (H1 l C H k)) stA_plain w a n h2)
 have z2:=k_ref (K:=K) (M:=M) (B:=B) hv hk
 rw [hr] at z2
 refine loc_x hmix b60 rfl ?_
 unfold c60
 (refine wk ?_;repeat' (first|with_reducible refine And.intro ?_ ?_|intro hsp))
 all_goals first|exact end_3 rfl plain_int rfl rfl rfl (sys_plain stA_plain)|(exfalso;omega)|(exfalso;exact absurd hsp (by simp [*]))|skip
end
end Go.Proofs.Ytphggldkligldaa
namespace Go.Proofs.Ytphggldkligldaa
open Go Go.Am Go.Pol
structure LocQ (cs ds:List AV) (v w a n k:Int) (r:AV):Prop where
 out:LocC Try.prog G0 60 [.ptr 0 0,.int .i64 a,.int .i64 n,.agg [.int .i64 k,.fn 82 [] [.ptr 1 0],.fn 83 [] [.ptr 2 0]]] [(0,.cells cs),(1,.cells [.int .i64 v]),(2,.cells [.int .i64 w])] 3 fun x h1=>x=r∧h1=⟨[(0,.cells ds),(1,.cells [.int .i64 v]),(2,.cells [.int .i64 w])],3⟩
 pc:∀ x ∈ cs,Plain x
 pd:∀ x ∈ ds,Plain x
 pr:Plain r
theorem cx_make {cs ds:List AV} {v w x y k:Int} {a b c nx:Nat} {l:List (Nat × AObj)} {r:AV} {K:AV→Hp→Prop} (hc:LocQ cs ds v w x y k r)
  (hl0:lk l a=some (.cells cs)) (hl1:lk l b=some (.cells [.int .i64 v])) (hl2:lk l c=some (.cells [.int .i64 w])) (hd:nodB [a,b,c]=true) (hlt:a < nx∧b < nx∧c < nx)
  (hk:filtK [a,b,c] l fun l2=>K r ⟨[(a,.cells ds),(b,.cells [.int .i64 v]),(c,.cells [.int .i64 w])]++l2,nx⟩):CallX Try.prog G0 (.fn 60 [] []) [.ptr a 0,.int .i64 x,.int .i64 y,.agg [.int .i64 k,.fn 82 [] [.ptr b 0],.fn 83 [] [.ptr c 0]]] ⟨l,nx⟩ K:=by
 have e0:enter [a,b,c] a 0:=rfl
 have e1:enter [a,b,c] b 1:=rfl
 have e2:enter [a,b,c] c 2:=rfl
 have k0:back [a,b,c] nx 0 a:=rfl
 have k1:back [a,b,c] nx 1 b:=rfl
 have k2:back [a,b,c] nx 2 c:=rfl
 refine cx_loc (l1:=[(a,.cells ds),(b,.cells [.int .i64 v]),(c,.cells [.int .i64 w])]) [a,b,c] hc.out plainG hd (.cons e0 hl0 (rnl_plain hc.pc) (.cons e1 hl1 (rnl_plain (plain_1 plain_int)) (.cons e2 hl2 (rnl_plain (plain_1 plain_int)) .nil)))
  ?_ (by intro x hx;simp only [List.mem_cons,List.not_mem_nil,or_false] at hx;omega) (rn_plain hc.pr)
  (.cons k0 (rnl_plain hc.pd) (.cons k1 (rnl_plain (plain_1 plain_int)) (.cons k2 (rnl_plain (plain_1 plain_int)) .nil))) hk
 simp only [List.nil_append,List.append_nil]
 exact ⟨rn_ptr e0,rn_plain plain_int,rn_plain plain_int,rn_agg ⟨rn_plain plain_int,rn_fn trivial ⟨rn_ptr e1,trivial⟩,rn_fn trivial ⟨rn_ptr e2,trivial⟩,trivial⟩,trivial⟩
theorem wq {p q:Prop} (hq:q) (h:HidP q→p:=by (intro hQz;((repeat' ((try (conv=>whnf));first|(with_reducible first|refine run_cons ?_|refine runq_cons ?_|refine code_seq ?_|refine code_reg ?_|refine code_cond ?_|refine run_nil ?_|refine runq_nil ?_|refine rund_op rfl ?_|refine rund_nil ?_|refine code_block ?_|refine code_skip ?_|refine code_exit ?_|refine code_ret ?_|refine code_range ?_|refine rund_fast (by decide +kernel) ?_|refine rund_slow (by decide +kernel) ?_|refine br_tt ?_|refine br_ff ?_|refine br_n ?_|refine br_and ?_|refine br_or ?_|refine br_t (by assumption) ?_|refine br_f (by assumption) ?_|refine eq_i64 (by omega) ?_|refine el_tn ?_)|((with_reducible refine br_dt ?_ ?_);focus omega)|((with_reducible refine br_df ?_ ?_);focus omega)|((with_reducible apply br_dq hQz)<;>(try intro hsp hQz))|((with_reducible refine ck_x ?_ ?_);focus (first|omega|rfl|assumption|decide|(simp only [List.length_map,List.length_cons,List.length_nil];omega)))|(with_reducible first|refine eq_tn ?_|refine eq_tn1 ?_|refine eq_tn2 ?_|refine eq_m1 ?_|refine eq_m2 ?_|refine eq_zm ?_|refine eq_z ?_|refine len_map ?_|refine len_sl ?_|refine len_nils ?_|refine len_own' ?_|refine len_isl ?_|refine eq_u8 (by omega) ?_|refine eq_u16 (by omega) ?_)|refine eq_of (by with_reducible assumption) ?_|(with_reducible first|refine eq_rfl ?_|refine ChkX.mk (by kernel_rfl) ?_|refine code_q rfl ?_|refine code_d (by decide +kernel) ?_|refine end_go rfl ?_)|refine cx_make (by assumption) rfl rfl rfl rfl (by omega) ?_|(refine cx_in hmix b61 rfl ?_;unfold c61)|refine len_map ?_|refine len_isl ?_|refine el_of rfl rfl ?_|refine del_own ?_|refine del_own' rfl ?_|refine as_go rfl ?_|refine rd_go rfl ?_|refine rg_end rfl ?_|refine flat_ownX ?_|refine EqLX.mk ?_|((with_reducible apply br_bq hQz)<;>(try intro hsp hQz))|exact hQz.out))<;>(try (conv=>whnf))))):p:=h ⟨hq⟩
section
variable {cs ds:List AV} {a n:Int} {r:AV}
theorem k_reserve (hq:LocQ cs ds 0 1 a n 0 r):LocS 36 [.int .i64 a,.int .i64 n] cs r ds:=by
 refine LocS.mk (loc_x hmix b36 rfl ?_) hq.pc hq.pd (plain_2 plain_int plain_int) hq.pr
 unfold c36
 (refine wq ?_;repeat' (first|with_reducible refine And.intro ?_ ?_|intro hsp))
 all_goals exact end_s rfl hq.pr rfl hq.pd
theorem k_commit (hq:LocQ cs ds 1 2 a n 2 r):LocS 63 [.int .i64 a,.int .i64 n] cs r ds:=by
 refine LocS.mk (loc_x hmix b63 rfl ?_) hq.pc hq.pd (plain_2 plain_int plain_int) hq.pr
 unfold c63
 (refine wq ?_;repeat' (first|with_reducible refine And.intro ?_ ?_|intro hsp))
 all_goals exact end_s rfl hq.pr rfl hq.pd
theorem k_decommit (hq:LocQ cs ds 2 1 a n 3 r):LocS 57 [.int .i64 a,.int .i64 n] cs r ds:=by
 refine LocS.mk (loc_x hmix b57 rfl ?_) hq.pc hq.pd (plain_2 plain_int plain_int) hq.pr
 unfold c57
 (refine wq ?_;repeat' (first|with_reducible refine And.intro ?_ ?_|intro hsp))
 all_goals exact end_s rfl hq.pr rfl hq.pd
theorem plain_iib {a n:Int} {b:Bool}:∀ x ∈ [AV.int .i64 a,.int .i64 n,.bool b],Plain x:=fun x hx=>by
 rcases List.mem_cons.1 hx with rfl|hx
 ·exact plain_int
 ·exact plain_2 plain_int plain_bool x hx
end
end Go.Proofs.Ytphggldkligldaa
namespace Go.Pol
def okC (K:Nat→Int) (a n:Nat):Prop:=∀ i,i < n→K (a+i)=2
instance (K:Nat→Int) (a n:Nat):Decidable (okC K a n):=by unfold okC;infer_instance
def okH (M:Nat→Bool) (a n:Nat):Prop:=∀ i,i < n→M (a+i)=true
instance (M:Nat→Bool) (a n:Nat):Decidable (okH M a n):=by unfold okH;infer_instance
end Go.Pol
namespace Go.Proofs.Ytphggldkligldaa
open Go Go.Am Go.Pol
section
variable {K:Nat→Int} {M G:Nat→Bool} {B:Nat→Nat→Int} {l:List Rl} {C H:Nat→Int}
end
end Go.Proofs.Ytphggldkligldaa
namespace Go.Proofs.Ytphggldkligldaa
open Go Go.Am Go.Pol
section
variable {K:Nat→Int} {M G:Nat→Bool} {B:Nat→Nat→Int} {l:List Rl} {C H:Nat→Int}
end
end Go.Proofs.Ytphggldkligldaa
namespace Go.Pol
def fst (x:Int):Prop:=0≤x∧x < 1024∧x.tmod 16=0
instance (x:Int):Decidable (fst x):=by unfold fst;infer_instance
end Go.Pol
namespace Go.Proofs.Ytphggldkligldaa
open Go Go.Am Go.Pol
theorem wf {p q:Prop} (hq:q) (h:HidP q→p:=by (intro hQz;((repeat' ((try (conv=>whnf));first|(with_reducible first|refine run_cons ?_|refine runq_cons ?_|refine code_seq ?_|refine code_reg ?_|refine code_cond ?_|refine run_nil ?_|refine runq_nil ?_|refine rund_op rfl ?_|refine rund_nil ?_|refine code_block ?_|refine code_skip ?_|refine code_exit ?_|refine code_ret ?_|refine code_range ?_|refine rund_fast (by decide +kernel) ?_|refine rund_slow (by decide +kernel) ?_|refine br_tt ?_|refine br_ff ?_|refine br_n ?_|refine br_and ?_|refine br_or ?_|refine br_t (by assumption) ?_|refine br_f (by assumption) ?_|refine eq_i64 (by omega) ?_|refine el_tn ?_)|((with_reducible refine br_dt ?_ ?_);focus omega)|((with_reducible refine br_df ?_ ?_);focus omega)|((with_reducible apply br_dq hQz)<;>(try intro hsp hQz))|((with_reducible refine ck_x ?_ ?_);focus (first|omega|rfl|assumption|decide|(simp only [List.length_map,List.length_cons,List.length_nil];omega)))|(with_reducible first|refine eq_tn ?_|refine eq_tn1 ?_|refine eq_tn2 ?_|refine eq_m1 ?_|refine eq_m2 ?_|refine eq_zm ?_|refine eq_z ?_|refine len_map ?_|refine len_sl ?_|refine len_nils ?_|refine len_own' ?_|refine len_isl ?_|refine eq_u8 (by omega) ?_|refine eq_u16 (by omega) ?_)|refine nthK_of sys_made ?_|refine nthK_of (by with_reducible assumption) ?_|refine eq_of (by with_reducible assumption) ?_|(with_reducible first|refine eq_rfl ?_|refine ChkX.mk (by kernel_rfl) ?_|refine code_q rfl ?_|refine code_d (by decide +kernel) ?_|refine end_go rfl ?_)|refine cx_pureS (by assumption) ?_|refine dcx_pureS (by assumption) ?_|refine qcx_pureS (by assumption) ?_|refine cx_locS (by assumption) rfl (by omega) ?_|(refine cx_in hmix b32 rfl ?_;unfold c32)|refine len_map ?_|refine len_isl ?_|refine el_of rfl rfl ?_|refine del_own ?_|refine del_own' rfl ?_|refine as_go rfl ?_|refine rd_go rfl ?_|refine rg_end rfl ?_|refine flat_ownX ?_|refine EqLX.mk ?_|((with_reducible apply br_bq hQz)<;>(try intro hsp hQz))|exact hQz.out))<;>(try (conv=>whnf))))):p:=h ⟨hq⟩
section
variable {K:Nat→Int} {M G:Nat→Bool} {B:Nat→Nat→Int} {P ds:List AV} {r:AV}
theorem k_first (x:Int):PureS 33 [.int .i64 x] (.bool (decide (fst x))):=by
 refine PureS.mk (pure_x hmix b33 plainG ⟨plain_int,trivial⟩ plain_bool rfl ?_)
 unfold c33
 (refine wf ?_;repeat' (first|with_reducible refine And.intro ?_ ?_|intro hsp))
 all_goals exact end_bool (by simp [fst, *])
end
end Go.Proofs.Ytphggldkligldaa
namespace Go.Pol
open Go.Am
structure Sy where
 K:Nat→Int
 G:Nat→Bool
 B:Nat→Nat→Int
 l:List Rl
 C:Nat→Int
 H:Nat→Int
def Sy.M (s:Sy) (p:Nat):Bool:=s.G (p / 16)
@[irreducible] def Sy.P (s:Sy):List AV:=stA s.l s.C s.H
@[irreducible] def Sy.a (s:Sy):List AV:=sysB s.K s.M s.B (stA s.l s.C s.H)
@[irreducible] def Sy.b (s:Sy):List AV:=refK s.K s.G s.B (stA s.l s.C s.H)
structure GoodS (s:Sy):Prop where
 hv:chkS s.l s.C s.H=0
 kind:∀ p,0≤s.K p∧s.K p≤3
 huge:∀ p,s.M p=true→s.K p=2
 zero:∀ p,s.K p ≠ 2→s.B p=fun _=>0
 cK:∀ p,1024≤p→s.K p=0
 cB:∀ p j,64≤j→s.B p j=0
def Sy.ref (s:Sy) (k:Nat):Sy:={ s with C:=C1 s.C k,H:=H1 s.l s.C s.H k }
def Sy.chg (s:Sy) (a n v w:Int) (k:Nat):Int × Sy :=
 if n < 1∨a < 0∨1024≤a∨1024 - a < n then (7,s) else
 if okR s.K s.M a.toNat n.toNat v then (if isR s.l s.C k then (60,s.ref k) else (0,{ s.ref k with K:=setR s.K a.toNat n.toNat w,B:=setP s.B a.toNat n.toNat })) else (9,s)
def Sy.join (s:Sy) (a:Int):Int × Sy :=
 if fst a then (if s.M a.toNat then (8,s) else if okC s.K a.toNat 16 then (if isR s.l s.C 5 then (60,s.ref 5) else (0,{ s.ref 5 with G:=updB s.G (a.toNat / 16) true })) else (9,s)) else (7,s)
def Sy.split (s:Sy) (a:Int):Int × Sy :=
 if fst a then (if s.M a.toNat then (if isR s.l s.C 6 then (60,s.ref 6) else (0,{ s.ref 6 with G:=updB s.G (a.toNat / 16) false })) else (9,s)) else (7,s)
theorem chkS_ref {l:List Rl} {C H:Nat→Int} {k:Nat} (h:chkS l C H=0):chkS l (C1 C k) (H1 l C H k)=0:=by
 obtain ⟨h1,h2,h3⟩:=chkS_ok h
 unfold chkS at h ⊢
 by_cases h4:(chkP l).2 ≠ 0
 ·rw [if_pos h4] at h;exact absurd h h4
 ·rw [if_neg h4,if_pos]
  intro j hj
  obtain ⟨a1,a2,a3⟩:=h3 j hj
  unfold okK C1 H1
  by_cases h5:C k < 1000000
  ·simp only [if_pos h5]
   by_cases e:j=k
   ·subst e
    have e1:updI C j (C j+1) j=C j+1:=by simp [updI]
    rw [e1]
    refine ⟨by omega,by omega,?_⟩
    rw [show (C j+1).toNat=(C j).toNat+1 by omega]
    show ((cnt l (j:Nat) (C j).toNat+(if refL l (j:Nat) (((C j).toNat+1:Nat):Int) then 1 else 0):Nat):Int)=_
    rw [show (((C j).toNat+1:Nat):Int)=C j+1 by omega]
    cases refL l (j:Nat) (C j+1) with
    | true=>simp [updI];omega
    | false=>simp;omega
   ·have e1:updI C k (C k+1) j=C j:=by simp [updI,e]
    rw [e1]
    refine ⟨a1,a2,?_⟩
    rw [a3]
    split
    ·simp [updI,e]
    ·rfl
  ·simp only [if_neg h5]
   exact ⟨a1,a2,a3⟩
theorem good_ref {s:Sy} {k:Nat} (h:GoodS s):GoodS (s.ref k):=⟨chkS_ref h.hv,h.kind,h.huge,h.zero,h.cK,h.cB⟩
theorem good_chg {s:Sy} {a n v w:Int} {k:Nat} (h:GoodS s) (hw:0≤w∧w≤3):GoodS (s.chg a n v w k).2:=by
 unfold Sy.chg
 split
 ·exact h
 ·split
  ·rename_i hr hok
   split
   ·exact good_ref h
   ·refine ⟨chkS_ref h.hv,fun p=>?_,fun p hp=>?_,fun p hp=>?_,fun p hp=>?_,fun p j hj=>?_⟩
    ·show 0≤setR s.K _ _ w p∧setR s.K _ _ w p≤3
     unfold setR;split
     ·exact hw
     ·exact h.kind p
    ·show setR s.K _ _ w p=2
     unfold setR;split
     ·rename_i hq
      have:=(hok (p - a.toNat) (by omega)).2
      rw [show a.toNat+(p - a.toNat)=p by omega] at this
      rw [show s.M p=true from hp] at this;cases this
     ·exact h.huge p hp
    ·show setP s.B _ _ p=_
     have hp':setR s.K a.toNat n.toNat w p ≠ 2:=hp
     unfold setR at hp';unfold setP
     split at hp'
     ·rename_i hq;rw [if_pos hq]
     ·rename_i hq;rw [if_neg hq];exact h.zero p hp'
    ·show setR s.K _ _ w p=0
     unfold setR;rw [if_neg (by omega)];exact h.cK p hp
    ·show setP s.B _ _ p j=0
     unfold setP;split
     ·rfl
     ·exact h.cB p j hj
  ·exact h
theorem fst_nat {a:Int} (h:fst a):∃ g:Nat,a=((g * 16:Nat):Int)∧g < 64:=by
 obtain ⟨f1,f2,f3⟩:=h
 rw [Int.tmod_eq_emod_of_nonneg f1] at f3
 exact ⟨a.toNat / 16,by omega,by omega⟩
theorem setM_same {M:Nat→Bool} {a n:Nat} {b:Bool} (h:∀ i,i < n→M (a+i)=b):setM M a n b=M:=by
 funext p;unfold setM
 split
 ·rename_i hq
  have:=h (p - a) (by omega)
  rw [show a+(p - a)=p by omega] at this;exact this.symm
 ·rfl
end Go.Pol
namespace Go.Proofs.Ytphggldkligldaa
open Go Go.Am Go.Pol
section
variable {s:Sy} {a n:Int}
theorem p_make {v w:Int} {k:Nat} (h:GoodS s) (hk:k < 7):LocQ s.a (s.chg a n v w k).2.a v w a n (k:Nat) (.int .i64 (s.chg a n v w k).1):=by
 have pa:∀ x ∈ s.a,Plain x:=by unfold Sy.a;exact sys_plain stA_plain
 have pb:∀ x ∈ (s.chg a n v w k).2.a,Plain x:=by unfold Sy.a;exact sys_plain stA_plain
 refine LocQ.mk ?_ pa pb plain_int
 unfold Sy.chg
 by_cases h1:n < 1∨a < 0∨1024≤a∨1024 - a < n
 ·rw [if_pos h1];unfold Sy.a;exact k_make_range h1
 ·rw [if_neg h1]
  obtain ⟨a',rfl⟩:∃ a':Nat,a=(a':Nat):=⟨a.toNat,by omega⟩
  obtain ⟨n',rfl⟩:∃ n':Nat,n=(n':Nat):=⟨n.toNat,by omega⟩
  simp only [Int.toNat_natCast]
  by_cases h2:okR s.K s.M a' n' v
  ·rw [if_pos h2]
   cases h3:isR s.l s.C k with
   | true=>rw [if_pos rfl];unfold Sy.a Sy.ref;exact k_make_ref h.hv hk (by omega) (by omega) h2 h3
   | false =>
    rw [if_neg (by simp)];unfold Sy.a Sy.ref
    have:=k_make_ok (w:=w) (B:=s.B) h.hv hk (by omega) (by omega) h2 h3
    rw [setM_same fun i hi=>(h2 i hi).2] at this
    exact this
  ·rw [if_neg h2];unfold Sy.a;exact k_make_down (by omega) (by omega) h2
theorem p_reserve (h:GoodS s):LocS 36 [.int .i64 a,.int .i64 n] s.a (.int .i64 (s.chg a n 0 1 0).1) (s.chg a n 0 1 0).2.a:=k_reserve (p_make h (by decide))
theorem p_commit (h:GoodS s):LocS 63 [.int .i64 a,.int .i64 n] s.a (.int .i64 (s.chg a n 1 2 2).1) (s.chg a n 1 2 2).2.a:=k_commit (p_make h (by decide))
theorem p_decommit (h:GoodS s):LocS 57 [.int .i64 a,.int .i64 n] s.a (.int .i64 (s.chg a n 2 1 3).1) (s.chg a n 2 1 3).2.a:=k_decommit (p_make h (by decide))
end
end Go.Proofs.Ytphggldkligldaa
