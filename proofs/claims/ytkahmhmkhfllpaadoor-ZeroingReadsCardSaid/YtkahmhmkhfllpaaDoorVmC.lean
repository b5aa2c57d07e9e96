/-
 Saved states,plain: runs,huge pages,data of a state.
 Loading of states,plain: what is saved is loaded;what is loaded is saved.
 The document's system: page,kinds,set,change and the calls,Join,Split.
 The document's system: change and the calls,Join,Split over the plain state.
 The document's system: Join,Split,bytes,kinds,counts,plans over the plain state.
 Are two states equal? (SamePlan,SameState,Same of the document.)
 New,Plan,Write,Read,Kind of both systems over the plain state.
 Write,Read,Kind of both systems over the plain state.
-/
import Derived.Test.YtkahmhmkhfllpaaDoorVmB
set_option linter.unusedSimpArgs false
set_option linter.unusedVariables false
namespace Go.Pol
open Go.Am
structure Rn where
 p:Int
 n:Int
 k:Int
def rnA (r:Rn):List AV:=[.int .i64 r.p,.int .i64 r.n,.int .i64 r.k]
theorem rn_len (r:Rn):(rnA r).length=3:=rfl
theorem rnA_plain (r:Rn):∀ x ∈ rnA r,Plain x:=fun x hx=>by
 simp only [rnA,List.mem_cons,List.not_mem_nil,or_false] at hx
 rcases hx with rfl|rfl|rfl<;>exact plain_int
@[irreducible] def byA (b:Nat→Int):List AV:=(List.range 64).map fun j=>.int .u8 (b j)
@[simp] theorem by_len (b:Nat→Int):(byA b).length=64:=by unfold byA;simp
theorem byA_plain (b:Nat→Int):∀ x ∈ byA b,Plain x:=fun x hx=>by
 unfold byA at hx
 obtain ⟨i,_,rfl⟩:=List.mem_map.1 hx
 exact plain_int
theorem by_get {b:Nat→Int} {j:Nat} (h:j < 64):(byA b)[j]? = some (.int .u8 (b j)):=by unfold byA;simp [h]
theorem by_set {b:Nat→Int} {j:Nat} {v:Int}:(byA b).set j (.int .u8 v)=byA (updI b j v):=by
 refine List.ext_getElem? fun i=>?_
 by_cases hi:i < 64
 ·by_cases e:j=i
  ·subst e;rw [List.getElem?_set_self (by rw [by_len];exact hi),by_get hi];simp [updI]
  ·rw [List.getElem?_set_ne e,by_get hi,by_get hi];unfold updI;rw [if_neg fun h=>e h.symm]
 ·rw [List.getElem?_eq_none (by rw [List.length_set,by_len];omega),List.getElem?_eq_none (by rw [by_len];omega)]
theorem by_inj {b c:Nat→Int}:byA b=byA c ↔ ∀ j,j < 64→b j=c j:=by
 constructor
 ·intro h j hj
  have:=by_get (b:=b) hj
  rw [h,by_get hj] at this
  injection Option.some.inj this with _ e;exact e.symm
 ·intro h;unfold byA
  exact List.map_congr_left fun j hj=>by rw [h j (List.mem_range.1 hj)]
structure Dt where
 p:Int
 b:Nat→Int
def dtA (d:Dt):List AV:=.int .i64 d.p::byA d.b
theorem dt_len (d:Dt):(dtA d).length=65:=by unfold dtA;rw [List.length_cons,by_len]
theorem dtA_plain (d:Dt):∀ x ∈ dtA d,Plain x:=fun x hx=>by
 rcases List.mem_cons.1 hx with rfl|hx
 ·exact plain_int
 ·exact byA_plain _ x hx
def inA (u:Int):List AV:=[.int .i64 u]
theorem in_len (u:Int):(inA u).length=1:=rfl
theorem inA_plain (u:Int):∀ x ∈ inA u,Plain x:=fun x hx=>by
 obtain rfl:=List.mem_singleton.1 hx;exact plain_int
def bumpV:List Rn→List Rn
 | [] => []
 | [r]=>[⟨r.p,r.n+1,r.k⟩]
 | r::r'::L=>r::bumpV (r'::L)
theorem bump_app:∀ {L:List Rn} {r:Rn},bumpV (L++[r])=L++[⟨r.p,r.n+1,r.k⟩]
 | [],_=>rfl
 | [_],_=>rfl
 | _::b::L,r=>congrArg _ (bump_app (L:=b::L) (r:=r))
def runsTo (K:Nat→Int):Nat→List Rn
 | 0 => []
 | n+1=>if K n=0 then runsTo K n else if 0 < n∧K (n - 1)=K n then bumpV (runsTo K n) else runsTo K n++[⟨(n:Nat),1,K n⟩]
def hugeTo (G:Nat→Bool):Nat→List Int
 | 0 => []
 | n+1=>if n % 16=0∧G (n / 16)=true then hugeTo G n++[((n:Nat):Int)] else hugeTo G n
def zeroB (f:Nat→Int):Prop:=∀ j,j < 64→f j=0
instance (f:Nat→Int):Decidable (zeroB f):=by unfold zeroB;infer_instance
def dataTo (B:Nat→Nat→Int):Nat→List Dt
 | 0 => []
 | n+1=>if zeroB (B n) then dataTo B n else dataTo B n++[⟨(n:Nat),B n⟩]
section
variable {K:Nat→Int} {G:Nat→Bool} {B:Nat→Nat→Int} {n p j:Nat}
theorem runs_last:∀ {n:Nat},0 < n→K (n - 1) ≠ 0→∃ L m,runsTo K n=L++[⟨((n - m:Nat):Int),(m:Nat),K (n - 1)⟩]∧1≤m∧m≤n
 | n+1,_,h=>by
  have h:K n ≠ 0:=h
  by_cases h1:0 < n∧K (n - 1)=K n
  ·obtain ⟨L,m,e,h2,h3⟩:=runs_last h1.1 (by rw [h1.2];exact h)
   refine ⟨L,m+1,?_,by omega,by omega⟩
   show (if K n=0 then _ else if 0 < n∧K (n - 1)=K n then bumpV (runsTo K n) else _)=_
   rw [if_neg h,if_pos h1,e,bump_app,show n+1 - (m+1)=n - m by omega,h1.2]
   rfl
  ·refine ⟨runsTo K n,1,?_,by omega,by omega⟩
   show (if K n=0 then _ else if 0 < n∧K (n - 1)=K n then bumpV (runsTo K n) else _)=_
   rw [if_neg h,if_neg h1,Nat.add_sub_cancel]
   rfl
theorem runs_len:∀ {n:Nat},(runsTo K n).length≤n
 | 0=>Nat.le_refl _
 | n+1=>by
  have:=runs_len (n:=n)
  show List.length (if K n=0 then _ else if 0 < n∧K (n - 1)=K n then bumpV (runsTo K n) else _)≤_
  split
  ·omega
  ·rename_i h0
   split
   ·rename_i h
    obtain ⟨L,m,e,_,_⟩:=runs_last (K:=K) h.1 (by rw [h.2];exact h0)
    rw [e] at this ⊢;rw [bump_app]
    simp only [List.length_append,List.length_cons,List.length_nil] at this ⊢;omega
   ·simp only [List.length_append,List.length_cons,List.length_nil];omega
theorem huge_len:∀ {n:Nat},(hugeTo G n).length≤n
 | 0=>Nat.le_refl _
 | n+1=>by
  have:=huge_len (n:=n)
  show List.length (if n % 16=0∧G (n / 16)=true then _ else _)≤_
  split
  ·simp only [List.length_append,List.length_cons,List.length_nil];omega
  ·omega
theorem data_len:∀ {n:Nat},(dataTo B n).length≤n
 | 0=>Nat.le_refl _
 | n+1=>by
  have:=data_len (n:=n)
  show List.length (if zeroB (B n) then _ else _)≤_
  split
  ·omega
  ·simp only [List.length_append,List.length_cons,List.length_nil];omega
theorem runs_free:∀ {j:Nat},(∀ i,i < j→K (p+i)=0)→runsTo K (p+j)=runsTo K p
 | 0,_=>rfl
 | j+1,h=>by
  show (if K (p+j)=0 then _ else _)=_
  rw [if_pos (h j (by omega))];exact runs_free fun i hi=>h i (by omega)
theorem runs_runV:∀ {j:Nat},(p=0∨K (p - 1) ≠ K p)→K p ≠ 0→(∀ i,i < j+1→K (p+i)=K p)→runsTo K (p+(j+1))=runsTo K p++[⟨(p:Nat),((j+1:Nat):Int),K p⟩]
 | 0,h0,h1,_=>by
  show (if K p=0 then _ else if 0 < p∧K (p - 1)=K p then bumpV (runsTo K p) else _)=_
  rw [if_neg h1,if_neg fun h=>by rcases h0 with h0|h0;exact absurd h.1 (by omega);exact h0 h.2];rfl
 | j+1,h0,h1,h=>by
  have e:=runs_runV (j:=j) h0 h1 fun i hi=>h i (by omega)
  have e1:K (p+(j+1))=K p:=h (j+1) (by omega)
  have e2:K (p+(j+1) - 1)=K p:=h j (by omega)
  show (if K (p+(j+1))=0 then _ else if 0 < p+(j+1)∧K (p+(j+1) - 1)=K (p+(j+1)) then bumpV (runsTo K (p+(j+1))) else _)=_
  rw [if_neg (by rw [e1];exact h1),if_pos ⟨by omega,by rw [e1,e2]⟩,e,bump_app]
  rfl
end
structure Vs where
 R:List Rn
 U:List Int
 D:List Dt
 l:List Rl
 C:Nat→Int
 H:Nat→Int
def vsA (x:Vs):List AV:=.isl (x.R.map rnA) :: .isl (x.U.map inA) :: .isl (x.D.map dtA)::stA x.l x.C x.H
theorem plain_isls {α:Type} {f:α→List AV} {L:List α} (h:∀ a,∀ x ∈ f a,Plain x):Plain (.isl (L.map f)):=plain_isl fun e he=>by
 obtain ⟨b,_,rfl⟩:=List.mem_map.1 he
 exact h b
theorem vsA_plain (x:Vs):∀ y ∈ vsA x,Plain y:=fun y hy=>by
 rcases List.mem_cons.1 hy with rfl|hy
 ·exact plain_isls rnA_plain
 rcases List.mem_cons.1 hy with rfl|hy
 ·exact plain_isls inA_plain
 rcases List.mem_cons.1 hy with rfl|hy
 ·exact plain_isls dtA_plain
 ·exact stA_plain y hy
theorem plain_vs {x:Vs}:Plain (.agg (vsA x)):=plain_agg (vsA_plain x)
def Sy.save (s:Sy):Vs:=⟨runsTo s.K 1024,hugeTo s.G 1024,dataTo s.B 1024,s.l,s.C,s.H⟩
end Go.Pol
namespace Go.Pol
open Go.Am
section fold
variable {σ α:Type} {f:σ→α→Option σ}
def fo (f:σ→α→Option σ):List α→σ→Option σ
 | [],s=>some s
 | a::l,s=>match f s a with|none=>none|some s'=>fo f l s'
def foA (f:σ→α→Option σ) (l:List α) (s:σ) (i:Nat):σ:=(fo f (l.take i) s).getD s
def foI (f:σ→α→Option σ) (l:List α) (s:σ) (i:Nat):Prop:=fo f (l.take i) s=some (foA f l s i)
end fold
structure Sr where
 nx:Int
 la:Int
 K:Nat→Int
def badRn (s:Sr) (r:Rn):Prop:=r.p < s.nx∨r.n < 1∨1024 - r.p < r.n∨r.k < 1∨3 < r.k∨(r.p=s.nx∧r.k=s.la)
instance (s:Sr) (r:Rn):Decidable (badRn s r):=by unfold badRn;infer_instance
def stRV (s:Sr) (r:Rn):Option Sr:=if badRn s r then none else some ⟨r.p+r.n,r.k,setR s.K r.p.toNat r.n.toNat r.k⟩
structure Su where
 lo:Int
 G:Nat→Bool
def stU (K:Nat→Int) (s:Su) (u:Int):Option Su:=if u≤s.lo∨¬ fst u∨¬ okC K u.toNat 16 then none else some ⟨u,updBV s.G (u.toNat / 16) true⟩
structure Sd where
 lo:Int
 B:Nat→Nat→Int
def stD (K:Nat→Int) (s:Sd) (d:Dt):Option Sd:=if d.p≤s.lo∨d.p < 0∨1024≤d.p∨K d.p.toNat ≠ 2∨zeroB d.b then none else some ⟨d.p,updP s.B d.p.toNat d.b⟩
def r0:Sr:=⟨0,0,fun _=>0⟩
def u0:Su:=⟨-1,fun _=>false⟩
def d0:Sd:=⟨-1,fun _ _=>0⟩
def ldP (x:Vs):Option Sy:=match fo stRV x.R r0 with|none=>none|some r=>match fo (stU r.K) x.U u0 with|none=>none|some u=>match fo (stD r.K) x.D d0 with|none=>none|some d=>some ⟨r.K,u.G,d.B,x.l,x.C,x.H⟩
def Vs.cn (x:Vs):Prop:=∀ d,d ∈ x.D→∀ j,64≤j→d.b j=0
section
variable {K K':Nat→Int} {n:Nat}
def cutK (K:Nat→Int) (n:Nat):Nat→Int:=fun p=>if p < n then K p else 0
end
structure Pg (s:Sy):Prop where
 kind:∀ p,0≤s.K p∧s.K p≤3
 huge:∀ p,s.M p=true→s.K p=2
 zero:∀ p,s.K p ≠ 2→s.B p=fun _=>0
 cK:∀ p,1024≤p→s.K p=0
 cB:∀ p j,64≤j→s.B p j=0
def badL (r:Rn):Prop:=r.p < 0∨1024≤r.p∨r.n < 1∨1024 - r.p < r.n∨r.k < 1∨3 < r.k
instance (r:Rn):Decidable (badL r):=by unfold badL;infer_instance
def lyR (K:Nat→Int) (r:Rn):Option (Nat→Int):=if badL r then none else some (setR K r.p.toNat r.n.toNat r.k)
def lyU (K:Nat→Int) (G:Nat→Bool) (u:Int):Option (Nat→Bool):=if ¬ fst u∨¬ okC K u.toNat 16 then none else some (updBV G (u.toNat / 16) true)
def lyD (B:Nat→Nat→Int) (d:Dt):Option (Nat→Nat→Int):=if d.p < 0∨1024≤d.p then none else some (updP B d.p.toNat d.b)
def ldL (x:Vs):Option Sy:=match fo lyR x.R (fun _=>0) with|none=>none|some K=>match fo (lyU K) x.U (fun _=>false) with|none=>none|some G=>match fo lyD x.D (fun _ _=>0) with|none=>none|some B=>some ⟨K,G,B,x.l,x.C,x.H⟩
def Sy.saveR (s:Sy):Vs:={ s.save with D:=dataTo (fun p=>if s.K p=2 then s.B p else fun _=>0) 1024 }
end Go.Pol
namespace Go.Pol
open Go.Am
def okV (K:Nat→Int) (a n:Nat) (v:Int):Prop:=∀ i,i < n→K (a+i)=v
instance (K:Nat→Int) (a n:Nat) (v:Int):Decidable (okV K a n v):=by unfold okV;infer_instance
end Go.Pol
namespace Go.Proofs.YtkahmhmkhfllpaaDoor
open Go Go.Am Go.Pol
theorem wx_Tc {p q:Prop} (hq:q) (h:HidP q→p:=by (intro hQz;((repeat' ((try (conv=>whnf));first|(with_reducible first|refine run_cons ?_|refine runq_cons ?_|refine code_seq ?_|refine code_reg ?_|refine code_cond ?_|refine run_nil ?_|refine runq_nil ?_|refine rund_op rfl ?_|refine rund_nil ?_|refine code_block ?_|refine code_skip ?_|refine code_exit ?_|refine code_ret ?_|refine code_range ?_|refine rund_fast (by decide +kernel) ?_|refine rund_slow (by decide +kernel) ?_|refine br_tt ?_|refine br_ff ?_|refine br_n ?_|refine br_and ?_|refine br_or ?_|refine br_t (by assumption) ?_|refine br_f (by assumption) ?_|refine eq_i64 (by omega) ?_|refine el_tn ?_)|((with_reducible refine br_dt ?_ ?_);focus omega)|((with_reducible refine br_df ?_ ?_);focus omega)|((with_reducible apply br_dq hQz)<;>(try intro hsp hQz))|((with_reducible refine ck_x ?_ ?_);focus (first|omega|rfl|assumption|decide|(simp only [List.length_map,List.length_cons,List.length_nil];omega)))|(with_reducible first|refine eq_tn ?_|refine eq_tn1 ?_|refine eq_tn2 ?_|refine eq_m1 ?_|refine eq_m2 ?_|refine eq_zm ?_|refine eq_z ?_|refine len_map ?_|refine len_sl ?_|refine len_nils ?_|refine len_own' ?_|refine len_isl ?_|refine eq_u8 (by omega) ?_|refine eq_u16 (by omega) ?_)|(with_reducible first|refine eq_rfl ?_|refine ChkX.mk (by kernel_rfl) ?_|refine code_q rfl ?_|refine code_d (by decide +kernel) ?_|refine end_go rfl ?_)|refine len_map ?_|refine len_isl ?_|refine el_of rfl rfl ?_|refine del_own ?_|refine del_own' rfl ?_|refine as_go rfl ?_|refine rd_go rfl ?_|refine rg_end rfl ?_|refine flat_ownX ?_|refine EqLX.mk ?_|((with_reducible apply br_bq hQz)<;>(try intro hsp hQz))|exact hQz.out))<;>(try (conv=>whnf))))):p:=h ⟨hq⟩
theorem r_page (x:Int):PureS 70 [.int .i64 x] (.bool (decide (0≤x∧x < 1024))):=by
 refine PureS.mk (pure_x hmix b70 plainG ⟨plain_int,trivial⟩ plain_bool rfl ?_)
 unfold c70
 (refine wx_Tc ?_;repeat' (first|with_reducible refine And.intro ?_ ?_|intro hsp))
 all_goals exact end_bool (by simp [*])
theorem wc {p q:Prop} (hq:q) (h:HidP q→p:=by (intro hQz;((repeat' ((try (conv=>whnf));first|(with_reducible first|refine run_cons ?_|refine runq_cons ?_|refine code_seq ?_|refine code_reg ?_|refine code_cond ?_|refine run_nil ?_|refine runq_nil ?_|refine rund_op rfl ?_|refine rund_nil ?_|refine code_block ?_|refine code_skip ?_|refine code_exit ?_|refine code_ret ?_|refine code_range ?_|refine rund_fast (by decide +kernel) ?_|refine rund_slow (by decide +kernel) ?_|refine br_tt ?_|refine br_ff ?_|refine br_n ?_|refine br_and ?_|refine br_or ?_|refine br_t (by assumption) ?_|refine br_f (by assumption) ?_|refine eq_i64 (by omega) ?_|refine el_tn ?_)|((with_reducible refine br_dt ?_ ?_);focus omega)|((with_reducible refine br_df ?_ ?_);focus omega)|((with_reducible apply br_dq hQz)<;>(try intro hsp hQz))|((with_reducible refine ck_x ?_ ?_);focus (first|omega|rfl|assumption|decide|(simp only [List.length_map,List.length_cons,List.length_nil];omega)))|(with_reducible first|refine eq_tn ?_|refine eq_tn1 ?_|refine eq_tn2 ?_|refine eq_m1 ?_|refine eq_m2 ?_|refine eq_zm ?_|refine eq_z ?_|refine len_map ?_|refine len_sl ?_|refine len_nils ?_|refine len_own' ?_|refine len_isl ?_|refine eq_u8 (by omega) ?_|refine eq_u16 (by omega) ?_)|refine nthK_of (by with_reducible assumption) ?_|refine eq_of (by with_reducible assumption) ?_|refine set1K_of (by rw [ref_len];omega) (by with_reducible assumption) ?_|refine overK_cons (by first|(rw [ref_len];simp only [List.length_cons,List.length_nil,List.length_replicate];omega)|fail) (by assumption) ?_|(with_reducible first|refine eq_rfl ?_|refine ChkX.mk (by kernel_rfl) ?_|refine code_q rfl ?_|refine code_d (by decide +kernel) ?_|refine end_go rfl ?_)|refine cx_locS (by assumption) rfl (by omega) ?_|refine dcx_locS (by assumption) rfl rfl ?_|refine cx_pureS (by assumption) ?_|refine dcx_pureS (by assumption) ?_|refine qcx_pureS (by assumption) ?_|refine cx_pureS (r_page _) ?_|refine dcx_pureS (r_page _) ?_|refine qcx_pureS (r_page _) ?_|refine len_map ?_|refine len_isl ?_|refine el_of rfl rfl ?_|refine del_own ?_|refine del_own' rfl ?_|refine as_go rfl ?_|refine rd_go rfl ?_|refine rg_end rfl ?_|refine flat_ownX ?_|refine EqLX.mk ?_|((with_reducible apply br_bq hQz)<;>(try intro hsp hQz))|exact hQz.out))<;>(try (conv=>whnf))))):p:=h ⟨hq⟩
section
variable {K:Nat→Int} {M G:Nat→Bool} {B:Nat→Nat→Int} {P:List AV}
theorem plain_3 {x y z:AV} (h1:Plain x) (h2:Plain y) (h3:Plain z):∀ v ∈ [x,y,z],Plain v:=fun v hv=>by
 rcases List.mem_cons.1 hv with rfl|hv
 ·exact h1
 ·exact plain_2 h2 h3 v hv
end
end Go.Proofs.YtkahmhmkhfllpaaDoor
namespace Go.Pol
open Go.Am
end Go.Pol
namespace Go.Proofs.YtkahmhmkhfllpaaDoor
open Go Go.Am Go.Pol
section
variable {s:Sy} {a n:Int}
theorem b_plain:∀ x ∈ s.b,Plain x:=by unfold Sy.b;exact rfk_plain stA_plain
theorem a_plain:∀ x ∈ s.a,Plain x:=by unfold Sy.a;exact sys_plain stA_plain
end
end Go.Proofs.YtkahmhmkhfllpaaDoor
namespace Go.Pol
open Go.Am
def Sy.write (s:Sy) (a b:Int):Int × Sy :=
 if a < 0∨65536≤a then (7,s) else if s.K (a.toNat / 64)=2 then (0,{ s with B:=updP s.B (a.toNat / 64) (updI (s.B (a.toNat / 64)) (a.toNat % 64) b) }) else (61,s)
def Sy.read (s:Sy) (a:Int):Int × Int :=
 if a < 0∨65536≤a then (0,7) else if s.K (a.toNat / 64)=2 then (s.B (a.toNat / 64) (a.toNat % 64),0) else (0,61)
def Sy.kind (s:Sy) (a:Int):List AV :=
 if a < 0∨1024≤a then [.int .i64 0,.bool false,.int .i64 7] else [.int .i64 (s.K a.toNat),.bool (s.M a.toNat),.int .i64 0]
def Sy.new (l:List Rl):Sy:=⟨fun _=>0,fun _=>false,fun _ _=>0,l,fun _=>0,fun _=>0⟩
def Sy.plan (s:Sy) (l:List Rl):Int × Sy:=if (chkP l).2=0 then (0,{ s with l:=l,C:=fun _=>0,H:=fun _=>0 }) else ((chkP l).2,s)
theorem chkS_new {l:List Rl} (h:(chkP l).2=0):chkS l (fun _=>0) (fun _=>0)=0:=by
 unfold chkS
 rw [if_neg (by rw [h];simp),if_pos]
 intro k hk
 exact ⟨Int.le_refl _,by show (0:Int)≤1000000;decide,rfl⟩
theorem good_new {l:List Rl} (h:(chkP l).2=0):GoodS (Sy.new l):=⟨chkS_new h,fun _=>⟨Int.le_refl _,(by show (0:Int)≤3;decide)⟩,fun p hp=>(by cases hp),fun _ _=>rfl,fun _ _=>rfl,fun _ _ _=>rfl⟩
theorem good_write {s:Sy} {a b:Int} (h:GoodS s):GoodS (s.write a b).2:=by
 unfold Sy.write
 split
 ·exact h
 ·split
  ·rename_i hk
   refine ⟨h.hv,h.kind,h.huge,fun p hp=>?_,h.cK,fun p j hj=>?_⟩
   ·show updP s.B _ _ p=_
    unfold updP
    rw [if_neg fun e=>hp (by rw [e];exact hk)]
    exact h.zero p hp
   ·show updP s.B _ _ p j=0
    unfold updP
    split
    ·unfold updI;rw [if_neg (by omega)];exact h.cB _ _ hj
    ·exact h.cB _ _ hj
  ·exact h
def cntK (K:Nat→Int) (v:Int):Nat→Nat
 | 0 => 0
 | n+1=>cntK K v n+if K n=v then 1 else 0
def cntG (G:Nat→Bool):Nat→Nat
 | 0 => 0
 | n+1=>cntG G n+if G n=true then 1 else 0
theorem cntK_le {K:Nat→Int} {v:Int}:∀ n,cntK K v n≤n
 | 0=>Nat.le_refl _
 | n+1=>by have:=cntK_le (K:=K) (v:=v) n;unfold cntK;split<;>omega
def Sy.counts (s:Sy):List AV:=[.int .i64 (cntK s.K 0 1024:Nat),.int .i64 (cntK s.K 1 1024:Nat),.int .i64 (cntK s.K 2 1024:Nat),.int .i64 (cntK s.K 3 1024:Nat),.int .i64 (cntG s.G 64:Nat)]
theorem quo64 {a:Int} (h:0≤a) (h2:a < 100000):IntKind.i64.wrap (a.tdiv 64)=((a.toNat / 64:Nat):Int):=by
 rw [Int.tdiv_eq_ediv_of_nonneg h,IntWalk.i64_in _ ⟨by omega,by omega⟩];omega
theorem rem64 {a:Int} (h:0≤a):a.tmod 64=((a.toNat % 64:Nat):Int):=by
 rw [Int.tmod_eq_emod_of_nonneg h];omega
end Go.Pol
namespace Go.Proofs.YtkahmhmkhfllpaaDoor
open Go Go.Am Go.Pol
section
variable {s:Sy} {a:Int}
end
end Go.Proofs.YtkahmhmkhfllpaaDoor
namespace Go.Pol
open Go.Am
theorem eqL_ints:∀ ks:List (IntKind × Int × Int),∃ t,eqL (List.replicate ks.length 0) (ks.map fun q=>AV.int q.1 q.2.1) (ks.map fun q=>AV.int q.1 q.2.2)=some t∧(t=true ↔ (ks.map fun q=>AV.int q.1 q.2.1)=ks.map fun q=>AV.int q.1 q.2.2)
 | []=>⟨true,rfl,⟨fun _=>rfl,fun _=>rfl⟩⟩
 | (k,a,b)::ks=>by
  obtain ⟨t,h1,h2⟩:=eqL_ints ks
  refine ⟨(a == b) && t,?_,?_⟩
  ·simp only [List.length_cons,List.replicate_succ,List.map_cons,eqL,eq1,if_true,Option.bind_some,h1,Option.map_some]
  ·rw [Bool.and_eq_true,beq_iff_eq,h2,List.map_cons,List.map_cons,List.cons.injEq,AV.int.injEq]
   simp
theorem eq_rn (r r':Rn):∃ t,eqL [0,0,0] (rnA r) (rnA r')=some t∧(t=true ↔ rnA r=rnA r'):=eqL_ints [(.i64,r.p,r'.p),(.i64,r.n,r'.n),(.i64,r.k,r'.k)]
theorem eq_rl (r r':Rl):∃ t,eqL [0,0,0,0] (rlA r) (rlA r')=some t∧(t=true ↔ rlA r=rlA r'):=eqL_ints [(.i64,r.k,r'.k),(.i64,r.f,r'.f),(.i64,r.e,r'.e),(.i64,r.t,r'.t)]
theorem eq_7 (C D:Nat→Int):∃ t,eqL [0,0,0,0,0,0,0] (arr7 C) (arr7 D)=some t∧(t=true ↔ arr7 C=arr7 D):=eqL_ints [(.i64,C 0,D 0),(.i64,C 1,D 1),(.i64,C 2,D 2),(.i64,C 3,D 3),(.i64,C 4,D 4),(.i64,C 5,D 5),(.i64,C 6,D 6)]
theorem eq_dt (d e:Dt):∃ t,eqL (List.replicate 65 0) (dtA d) (dtA e)=some t∧(t=true ↔ dtA d=dtA e):=by
 have h:=eqL_ints ((.i64,d.p,e.p)::(List.range 64).map fun j=>(.u8,d.b j,e.b j))
 have e1:∀ (f:Nat→Int) (g:Nat→IntKind × Int × Int),((List.range 64).map g).map (fun q=>AV.int q.1 q.2.1)=(List.range 64).map fun j=>AV.int (g j).1 (g j).2.1:=fun f g=>by rw [List.map_map];rfl
 simp only [List.length_cons,List.length_map,List.length_range,List.map_cons,List.map_map] at h
 unfold dtA byA
 exact h
theorem maps_eq {α:Type} {f:α→List AV} (d:α) {l m:List α} (hl:l.length=m.length) (h:∀ j,j < l.length→f (nth d l j)=f (nth d m j)):l.map f=m.map f:=by
 refine List.ext_getElem (by simpa using hl) fun j h1 h2=>?_
 simp only [List.getElem_map]
 have:=h j (by simpa using h1)
 rw [nth_get (by simpa using h1),nth_get (by simpa using h2)] at this
 exact this
theorem maps_ne {α:Type} {f:α→List AV} (d:α) {l m:List α} {j:Nat} (hj:j < l.length) (hj2:j < m.length) (h:f (nth d l j) ≠ f (nth d m j)):l.map f ≠ m.map f:=fun e=>h (by
 have:=congrArg (fun x:List (List AV)=>x[j]?) e
 simp only [List.getElem?_map,List.getElem?_eq_getElem hj,List.getElem?_eq_getElem hj2,Option.map_some,Option.some.injEq] at this
 rw [nth_get hj,nth_get hj2];exact this)
theorem maps_len {α:Type} {f:α→List AV} {l m:List α} (h:l.map f=m.map f):l.length=m.length:=by have:=congrArg List.length h;simpa using this
theorem el_row {α:Type} {f:α→List AV} {l:List α} {j sz:Nat} {K:List AV→Prop} {d:α} {row:List AV} (hf:∀ x,(f x).length=sz) (hj:j < l.length) (hx:f (Go.Pol.nth d l j)=row) (hk:K row):ElX (l.map f) j sz K:=el_mapE hf hj rfl (by rw [hx];exact hk)
theorem row_drop {y:List AV}:y.drop 0=y:=rfl
theorem row_take {y:List AV} {n:Nat} (h:y.length=n):y.take n=y:=List.take_of_length_le (by omega)
def sameSt (l:List Rl) (C H:Nat→Int) (l':List Rl) (C' H':Nat→Int):Prop:=l.map rlA=l'.map rlA∧arr7 C=arr7 C'∧arr7 H=arr7 H'
def sameV (x y:Vs):Prop:=(x.R.map rnA=y.R.map rnA∧x.U.map inA=y.U.map inA∧x.D.map dtA=y.D.map dtA)∧sameSt x.l x.C x.H y.l y.C y.H
def dRn:Rn:=⟨0,0,0⟩
def dDt:Dt:=⟨0,fun _=>0⟩
end Go.Pol
namespace Go.Proofs.YtkahmhmkhfllpaaDoor
open Go Go.Am Go.Pol
theorem plx_Tl {p:Prop} (h:p:=by ((first|assumption|exact plain_int|exact plain_bool|exact plain_undef|exact plain_nils|exact plain_nilp|exact plain_nilf|exact plain_str|with_reducible apply plain_rl|with_reducible apply plain_rls|with_reducible apply plain_pl|with_reducible apply plain_ii|with_reducible apply plain_st|with_reducible apply plain_stE|with_reducible apply plain_zst|with_reducible apply plain_zstE|with_reducible apply plain_irl|with_reducible apply plain_mk|with_reducible apply plain_stB|with_reducible apply plain_zstB|with_reducible apply plain_isls rnA_plain|with_reducible apply plain_isls inA_plain|with_reducible apply plain_isls dtA_plain|with_reducible apply plain_vs|fail);first|done|fail)):p:=h
theorem prx_Tl {p:Prop} (h:p:=by (((repeat' (first|exact plain_all0|refine plain_all2 ?_ ?_|exact plain_int|first|assumption|exact plain_int|exact plain_bool|exact plain_undef|exact plain_nils|exact plain_nilp|exact plain_nilf|exact plain_str|with_reducible apply plain_rl|with_reducible apply plain_rls|with_reducible apply plain_pl|with_reducible apply plain_ii|with_reducible apply plain_st|with_reducible apply plain_stE|with_reducible apply plain_zst|with_reducible apply plain_zstE|with_reducible apply plain_irl|with_reducible apply plain_mk|with_reducible apply plain_stB|with_reducible apply plain_zstB|with_reducible apply plain_isls rnA_plain|with_reducible apply plain_isls inA_plain|with_reducible apply plain_isls dtA_plain|with_reducible apply plain_vs)));first|done|fail)):p:=h
theorem ppx_Tl {p:Prop} (h:p:=by ((first|with_reducible assumption|with_reducible apply rlA_plain _|with_reducible apply plain_flat rlA_plain|with_reducible apply stA_plain|with_reducible apply vsA_plain _|with_reducible apply plain_map (fun _=>plain_int)|with_reducible apply plain_map (fun _=>plain_bool)|exact prx_Tl|fail);first|done|fail)):p:=h
theorem wvx_Tl {p:Prop} (h:p:=by ((first|exact wk_undef|exact wk_int (by first|rfl|omega|(dsimp only;omega))|exact wk_bool rfl|exact wk_ptr rfl (by first|decide|simp|omega)|exact wk_sl rfl (by first|decide|simp|omega) (by first|rfl|omega|simp) (by first|omega|simp) (by first|omega|simp)|exact wk_own rfl (by first|decide|simp|omega)|exact wk_nil0 (by first|rfl|simp)|exact wk_slown rfl (by first|decide|omega|(simp;done)) (by first|omega|(simp;done)) (by first|rfl|omega|(simp;done)|(simp;omega))|exact wk_plain hs plx_Tl|(with_reducible refine wk_fn ?_ ?_<;>repeat' (first|with_reducible exact wkl_nil|with_reducible refine wkl_cons ?_ ?_|exact wk_ptr rfl (by first|decide|simp|omega)))|(with_reducible refine wk_agg ?_;repeat' (first|with_reducible exact wkl_nil|with_reducible refine wkl_cons ?_ ?_|exact wk_int (by first|rfl|omega|(dsimp only;omega))|exact wk_bool rfl))|exact wk_yld rfl (by first|decide|simp|omega)|fail);first|done|fail)):p:=h
theorem wkx_Tl {p:Prop} (h:p:=by (refine weak_s (by exact oneOf_of rfl) (by exact subH_of rfl) (by intro hs;(repeat' ((try (conv=>whnf));first|with_reducible exact True.intro|with_reducible refine And.intro ?_ ?_|(with_reducible refine WkX.mk ?_;first|exact wvx_Tl|fail)))) (by intro hs;(try dsimp only);(repeat' (first|with_reducible exact wko_nil|refine wko_plain hs (by first|decide|omega|simp) rfl (by first|rfl) (by (first|exact ppx_Tl|fail|((refine plain_app ?_ ?_)<;>(first|exact ppx_Tl|fail)))) ?_|refine wko_cells (by first|decide|omega|simp) rfl (by repeat' (first|with_reducible exact wkl_nil|with_reducible refine wkl_cons ?_ ?_|(first|exact wvx_Tl|fail))) ?_|refine wko_loop (by first|decide|omega|simp) rfl (by ((try subst hF);(try subst hF2);exact wkl_sd (wkf_sget (by (repeat' ((try (conv=>whnf));first|with_reducible exact True.intro|with_reducible refine And.intro ?_ ?_|(with_reducible refine WkX.mk ?_;first|exact wvx_Tl|fail))))))) ?_|exact wko_nil))))):p:=h
theorem wtl {p q:Prop} (hq:q) (h:HidP q→p:=by (intro hQz;((repeat' ((try (conv=>whnf));first|(with_reducible first|refine run_cons ?_|refine runq_cons ?_|refine code_seq ?_|refine code_reg ?_|refine code_cond ?_|refine run_nil ?_|refine runq_nil ?_|refine rund_op rfl ?_|refine rund_nil ?_|refine code_block ?_|refine code_skip ?_|refine code_exit ?_|refine code_ret ?_|refine code_range ?_|refine rund_fast (by decide +kernel) ?_|refine rund_slow (by decide +kernel) ?_|refine br_tt ?_|refine br_ff ?_|refine br_n ?_|refine br_and ?_|refine br_or ?_|refine br_t (by assumption) ?_|refine br_f (by assumption) ?_|refine eq_i64 (by omega) ?_|refine el_tn ?_)|((with_reducible refine br_dt ?_ ?_);focus omega)|((with_reducible refine br_df ?_ ?_);focus omega)|((with_reducible apply br_dq hQz)<;>(try intro hsp hQz))|((with_reducible refine ck_x ?_ ?_);focus (first|omega|rfl|assumption|decide|(simp only [List.length_map,List.length_cons,List.length_nil];omega)))|(with_reducible first|refine eq_tn ?_|refine eq_tn1 ?_|refine eq_tn2 ?_|refine eq_m1 ?_|refine eq_m2 ?_|refine eq_zm ?_|refine eq_z ?_|refine len_map ?_|refine len_sl ?_|refine len_nils ?_|refine len_own' ?_|refine len_isl ?_|refine eq_u8 (by omega) ?_|refine eq_u16 (by omega) ?_)|refine el_row rl_len (by first|assumption|omega) (by with_reducible assumption) ?_|refine el_row rn_len (by first|assumption|omega) (by with_reducible assumption) ?_|refine el_row dt_len (by first|assumption|omega) (by with_reducible assumption) ?_|refine el_row in_len (by first|assumption|omega) (by with_reducible assumption) ?_|refine eqlx_of (by with_reducible assumption) ?_|refine dropK_of (Nat.zero_le _) row_drop ?_|refine takeK_of (by omega) (row_take (by with_reducible assumption)) ?_|(with_reducible first|refine eq_rfl ?_|refine ChkX.mk (by kernel_rfl) ?_|refine code_q rfl ?_|refine code_d (by decide +kernel) ?_|refine end_go rfl ?_)|refine cx_pureS (by assumption) ?_|refine dcx_pureS (by assumption) ?_|refine qcx_pureS (by assumption) ?_|refine len_map ?_|refine len_isl ?_|refine el_of rfl rfl ?_|refine del_own ?_|refine del_own' rfl ?_|refine as_go rfl ?_|refine rd_go rfl ?_|refine rg_end rfl ?_|refine flat_ownX ?_|refine EqLX.mk ?_|((with_reducible apply br_bq hQz)<;>(try intro hsp hQz))|exact hQz.out))<;>(try (conv=>whnf))))):p:=h ⟨hq⟩
section
variable {l m:List Rl} {C H C' H':Nat→Int}
theorem r_samePlan (hlen:l.length≤100000) {b:Bool} (hb:b=true ↔ l.map rlA=m.map rlA):PureS 55 [.agg [.isl (l.map rlA)],.agg [.isl (m.map rlA)]] (.bool b):=by
 refine PureS.mk (pure_x hmix b55 plainG ⟨plain_pl,plain_pl,trivial⟩ plain_bool rfl ?_)
 unfold c55
 by_cases hl:l.length=m.length
 ·(refine wtl ?_;repeat' (first|with_reducible refine And.intro ?_ ?_|intro hsp))
  all_goals first|(exfalso;omega)|skip
  (refine loop_x [2,3] (fun (i:Nat)=>[(5,.int .i64 (i:Nat))]) (fun (i:Nat)=>⟨[(0,.cells [.isl (l.map rlA)]),(1,.cells [.isl (m.map rlA)])],2⟩) (fun (i:Nat)=>i≤l.length∧∀ j,j < i→rlA (nth dR l j)=rlA (nth dR m j)) (fun (i:Nat)=>l.length - i) (0) [] rfl (fun _=>by first|exact Nat.zero_le _|(dsimp only;omega)) ?_ (by ((try (conv=>whnf));exact wkx_Tl)) ?_)
  ·exact ⟨Nat.zero_le _,fun j hj=>by omega⟩
  rintro i ⟨hi,h0⟩
  by_cases hil:i < l.length
  ·obtain ⟨t,he,ht⟩:=eq_rl (nth dR l i) (nth dR m i)
   have hil2:i < m.length:=by omega
   have hn1:=rl_len (nth dR l i)
   have hn2:=rl_len (nth dR m i)
   have hne:=maps_ne (f:=rlA) dR hil hil2
   generalize g1:rlA (nth dR l i)=r1 at *
   generalize g2:rlA (nth dR m i)=r2 at *
   cases t with
   | true =>
    have e:=ht.1 rfl
    (refine wtl ?_;repeat' (first|with_reducible refine And.intro ?_ ?_|intro hsp))
    all_goals exact next_x (i+1) [] ⟨by omega,fun j hj=>if e2:j=i then by rw [e2,g1,g2];exact e else h0 j (by omega)⟩ (by first|omega|(dsimp only;omega)) rfl (by exact wkx_Tl)
   | false =>
    have hbf:b=false:=by
     cases b with
     | false=>rfl
     | true=>exact absurd (hb.1 rfl) (hne fun e=>by have:=ht.2 e;cases this)
    rw [hbf]
    (refine wtl ?_;repeat' (first|with_reducible refine And.intro ?_ ?_|intro hsp))
    all_goals exact end_bool rfl
  ·have hbt:b=true:=hb.2 (maps_eq dR hl fun j hj=>h0 j (by omega))
   rw [hbt]
   (refine wtl ?_;repeat' (first|with_reducible refine And.intro ?_ ?_|intro hsp))
   all_goals exact end_bool rfl
 ·have hbf:b=false:=by
   cases b with
   | false=>rfl
   | true=>exact absurd (maps_len (hb.1 rfl)) hl
  rw [hbf]
  (refine wtl ?_;repeat' (first|with_reducible refine And.intro ?_ ?_|intro hsp))
  all_goals first|exact end_bool rfl|(exfalso;omega)
theorem r_sameSt (hlen:l.length≤100000) {b:Bool} (hb:b=true ↔ sameSt l C H m C' H'):PureS 35 [.agg (stA l C H),.agg (stA m C' H')] (.bool b):=by
 refine PureS.mk (pure_x hmix b35 plainG ⟨plain_st,plain_st,trivial⟩ plain_bool rfl ?_)
 unfold c35
 obtain ⟨t1,e1,h1⟩:=eq_7 C C'
 obtain ⟨t2,e2,h2⟩:=eq_7 H H'
 unfold arr7 at e1 e2
 obtain ⟨t0,h0⟩:∃ t0:Bool,t0=true ↔ l.map rlA=m.map rlA:=by
  by_cases h:l.map rlA=m.map rlA
  ·exact ⟨true,fun _=>h,fun _=>rfl⟩
  ·exact ⟨false,fun e=>(by cases e),fun e=>absurd e h⟩
 have z:=r_samePlan hlen h0
 have hb2:b=(t0 && t1 && t2):=by
  rw [Bool.eq_iff_iff,hb,Bool.and_eq_true,Bool.and_eq_true,h0,h1,h2];exact ⟨fun h=>⟨⟨h.1,h.2.1⟩,h.2.2⟩,fun h=>⟨h.1.1,h.1.2,h.2⟩⟩
 rw [hb2]
 cases t0 with
 | false =>
  (refine wtl ?_;repeat' (first|with_reducible refine And.intro ?_ ?_|intro hsp))
  all_goals exact end_bool rfl
 | true =>
  cases t1 with
  | false =>
   (refine wtl ?_;repeat' (first|with_reducible refine And.intro ?_ ?_|intro hsp))
   all_goals exact end_bool rfl
  | true =>
   cases t2 with
   | false =>
    (refine wtl ?_;repeat' (first|with_reducible refine And.intro ?_ ?_|intro hsp))
    all_goals exact end_bool rfl
   | true =>
    (refine wtl ?_;repeat' (first|with_reducible refine And.intro ?_ ?_|intro hsp))
    all_goals exact end_bool rfl
set_option maxHeartbeats 800000 in
theorem r_same {x y:Vs} (hR:x.R.length≤100000) (hU:x.U.length≤100000) (hD:x.D.length≤100000) (hlen:x.l.length≤100000) {b:Bool} (hb:b=true ↔ sameV x y):PureS 13 [.agg (vsA x),.agg (vsA y)] (.bool b):=by
 refine PureS.mk (pure_x hmix b13 plainG ⟨plain_vs,plain_vs,trivial⟩ plain_bool rfl ?_)
 unfold c13
 obtain ⟨R,U,D,l,C,H⟩:=x
 obtain ⟨R',U',D',l',C',H'⟩:=y
 dsimp only at hR hU hD hlen
 simp only [vsA,stA]
 obtain ⟨ts,hts⟩:∃ ts:Bool,ts=true ↔ sameSt l C H l' C' H':=by
  by_cases h:sameSt l C H l' C' H'
  ·exact ⟨true,fun _=>h,fun _=>rfl⟩
  ·exact ⟨false,fun e=>(by cases e),fun e=>absurd e h⟩
 have z:=r_sameSt hlen hts
 unfold sameV at hb
 dsimp only at hb
 have no:¬ ((R.map rnA=R'.map rnA∧U.map inA=U'.map inA∧D.map dtA=D'.map dtA)∧sameSt l C H l' C' H')→b=false:=fun h=>by
  cases b with
  | false=>rfl
  | true=>exact absurd (hb.1 rfl) h
 by_cases h1:R.length=R'.length
 case neg =>
  rw [no fun h=>h1 (maps_len h.1.1)]
  (refine wtl ?_;repeat' (first|with_reducible refine And.intro ?_ ?_|intro hsp))
  all_goals first|exact end_bool rfl|(exfalso;omega)
 by_cases h2:U.length=U'.length
 case neg =>
  rw [no fun h=>h2 (maps_len h.1.2.1)]
  (refine wtl ?_;repeat' (first|with_reducible refine And.intro ?_ ?_|intro hsp))
  all_goals first|exact end_bool rfl|(exfalso;omega)
 by_cases h3:D.length=D'.length
 case neg =>
  rw [no fun h=>h3 (maps_len h.1.2.2)]
  (refine wtl ?_;repeat' (first|with_reducible refine And.intro ?_ ?_|intro hsp))
  all_goals first|exact end_bool rfl|(exfalso;omega)
 cases ts with
 | false =>
  rw [no fun h=>by have:=hts.2 h.2;cases this]
  (refine wtl ?_;repeat' (first|with_reducible refine And.intro ?_ ?_|intro hsp))
  all_goals first|exact end_bool rfl|(exfalso;omega)
 | true =>
 (refine wtl ?_;repeat' (first|with_reducible refine And.intro ?_ ?_|intro hsp))
 all_goals first|(exfalso;omega)|skip
 (refine loop_x [2,3] (fun (i:Nat)=>[(5,.int .i64 (i:Nat))]) (fun (i:Nat)=>⟨[(0,.cells [.isl (R.map rnA),.isl (U.map inA),.isl (D.map dtA),.isl (l.map rlA),.int .i64 (C 0),.int .i64 (C 1),.int .i64 (C 2),.int .i64 (C 3),.int .i64 (C 4),.int .i64 (C 5),.int .i64 (C 6),.int .i64 (H 0),.int .i64 (H 1),.int .i64 (H 2),.int .i64 (H 3),.int .i64 (H 4),.int .i64 (H 5),.int .i64 (H 6)]),(1,.cells [.isl (R'.map rnA),.isl (U'.map inA),.isl (D'.map dtA),.isl (l'.map rlA),.int .i64 (C' 0),.int .i64 (C' 1),.int .i64 (C' 2),.int .i64 (C' 3),.int .i64 (C' 4),.int .i64 (C' 5),.int .i64 (C' 6),.int .i64 (H' 0),.int .i64 (H' 1),.int .i64 (H' 2),.int .i64 (H' 3),.int .i64 (H' 4),.int .i64 (H' 5),.int .i64 (H' 6)])],2⟩) (fun (i:Nat)=>i≤R.length∧∀ j,j < i→rnA (nth dRn R j)=rnA (nth dRn R' j)) (fun (i:Nat)=>R.length - i) (0) [] rfl (fun _=>by first|exact Nat.zero_le _|(dsimp only;omega)) ?_ (by ((try (conv=>whnf));exact wkx_Tl)) ?_)
 ·exact ⟨Nat.zero_le _,fun j hj=>by omega⟩
 rintro i ⟨hi,h0⟩
 by_cases hil:i < R.length
 ·obtain ⟨t,he,ht⟩:=eq_rn (nth dRn R i) (nth dRn R' i)
  have hil2:i < R'.length:=by omega
  have hn1:=rn_len (nth dRn R i)
  have hn2:=rn_len (nth dRn R' i)
  have hne:=maps_ne (f:=rnA) dRn hil hil2
  generalize g1:rnA (nth dRn R i)=r1 at *
  generalize g2:rnA (nth dRn R' i)=r2 at *
  cases t with
  | true =>
   have e:=ht.1 rfl
   (refine wtl ?_;repeat' (first|with_reducible refine And.intro ?_ ?_|intro hsp))
   all_goals exact next_x (i+1) [] ⟨by omega,fun j hj=>if e2:j=i then by rw [e2,g1,g2];exact e else h0 j (by omega)⟩ (by first|omega|(dsimp only;omega)) rfl (by exact wkx_Tl)
  | false =>
   rw [no fun h=>hne (fun e=>by have:=ht.2 e;cases this) h.1.1]
   (refine wtl ?_;repeat' (first|with_reducible refine And.intro ?_ ?_|intro hsp))
   all_goals exact end_bool rfl
 have eR:=maps_eq (f:=rnA) dRn h1 fun j hj=>h0 j (by omega)
 (refine wtl ?_;repeat' (first|with_reducible refine And.intro ?_ ?_|intro hsp))
 (refine loop_x [2,3] (fun (i:Nat)=>[(6,.int .i64 (i:Nat))]) (fun (i:Nat)=>⟨[(0,.cells [.isl (R.map rnA),.isl (U.map inA),.isl (D.map dtA),.isl (l.map rlA),.int .i64 (C 0),.int .i64 (C 1),.int .i64 (C 2),.int .i64 (C 3),.int .i64 (C 4),.int .i64 (C 5),.int .i64 (C 6),.int .i64 (H 0),.int .i64 (H 1),.int .i64 (H 2),.int .i64 (H 3),.int .i64 (H 4),.int .i64 (H 5),.int .i64 (H 6)]),(1,.cells [.isl (R'.map rnA),.isl (U'.map inA),.isl (D'.map dtA),.isl (l'.map rlA),.int .i64 (C' 0),.int .i64 (C' 1),.int .i64 (C' 2),.int .i64 (C' 3),.int .i64 (C' 4),.int .i64 (C' 5),.int .i64 (C' 6),.int .i64 (H' 0),.int .i64 (H' 1),.int .i64 (H' 2),.int .i64 (H' 3),.int .i64 (H' 4),.int .i64 (H' 5),.int .i64 (H' 6)])],2⟩) (fun (i:Nat)=>i≤U.length∧∀ j,j < i→inA (nth 0 U j)=inA (nth 0 U' j)) (fun (i:Nat)=>U.length - i) (0) [] rfl (fun _=>by first|exact Nat.zero_le _|(dsimp only;omega)) ?_ (by ((try (conv=>whnf));exact wkx_Tl)) ?_)
 ·exact ⟨Nat.zero_le _,fun j hj=>by omega⟩
 rintro i ⟨hi,h0⟩
 by_cases hil:i < U.length
 ·have hil2:i < U'.length:=by omega
  have hne:=maps_ne (f:=inA) (0:Int) hil hil2
  have hn1:inA (nth 0 U i)=[.int .i64 (nth 0 U i)]:=rfl
  have hn2:inA (nth 0 U' i)=[.int .i64 (nth 0 U' i)]:=rfl
  by_cases e:nth 0 U i=nth 0 U' i
  ·(refine wtl ?_;repeat' (first|with_reducible refine And.intro ?_ ?_|intro hsp))
   all_goals first|(exfalso;exact absurd e (by assumption))|skip
   all_goals exact next_x (i+1) [] ⟨by omega,fun j hj=>if e2:j=i then by rw [e2,e] else h0 j (by omega)⟩ (by first|omega|(dsimp only;omega)) rfl (by exact wkx_Tl)
  ·rw [no fun h=>hne (fun e2=>by rw [hn1,hn2] at e2;injection e2 with e3;injection e3 with _ e4;exact e e4) h.1.2.1]
   (refine wtl ?_;repeat' (first|with_reducible refine And.intro ?_ ?_|intro hsp))
   all_goals first|exact end_bool rfl|(exfalso;exact e (by assumption))
 have eU:=maps_eq (f:=inA) (0:Int) h2 fun j hj=>h0 j (by omega)
 (refine wtl ?_;repeat' (first|with_reducible refine And.intro ?_ ?_|intro hsp))
 (refine loop_x [2,3] (fun (i:Nat)=>[(7,.int .i64 (i:Nat))]) (fun (i:Nat)=>⟨[(0,.cells [.isl (R.map rnA),.isl (U.map inA),.isl (D.map dtA),.isl (l.map rlA),.int .i64 (C 0),.int .i64 (C 1),.int .i64 (C 2),.int .i64 (C 3),.int .i64 (C 4),.int .i64 (C 5),.int .i64 (C 6),.int .i64 (H 0),.int .i64 (H 1),.int .i64 (H 2),.int .i64 (H 3),.int .i64 (H 4),.int .i64 (H 5),.int .i64 (H 6)]),(1,.cells [.isl (R'.map rnA),.isl (U'.map inA),.isl (D'.map dtA),.isl (l'.map rlA),.int .i64 (C' 0),.int .i64 (C' 1),.int .i64 (C' 2),.int .i64 (C' 3),.int .i64 (C' 4),.int .i64 (C' 5),.int .i64 (C' 6),.int .i64 (H' 0),.int .i64 (H' 1),.int .i64 (H' 2),.int .i64 (H' 3),.int .i64 (H' 4),.int .i64 (H' 5),.int .i64 (H' 6)])],2⟩) (fun (i:Nat)=>i≤D.length∧∀ j,j < i→dtA (nth dDt D j)=dtA (nth dDt D' j)) (fun (i:Nat)=>D.length - i) (0) [] rfl (fun _=>by first|exact Nat.zero_le _|(dsimp only;omega)) ?_ (by ((try (conv=>whnf));exact wkx_Tl)) ?_)
 ·exact ⟨Nat.zero_le _,fun j hj=>by omega⟩
 rintro i ⟨hi,h0⟩
 by_cases hil:i < D.length
 ·obtain ⟨t,he,ht⟩:=eq_dt (nth dDt D i) (nth dDt D' i)
  have hil2:i < D'.length:=by omega
  have hn1:=dt_len (nth dDt D i)
  have hn2:=dt_len (nth dDt D' i)
  have hne:=maps_ne (f:=dtA) dDt hil hil2
  generalize g1:dtA (nth dDt D i)=r1 at *
  generalize g2:dtA (nth dDt D' i)=r2 at *
  cases t with
  | true =>
   have e:=ht.1 rfl
   (refine wtl ?_;repeat' (first|with_reducible refine And.intro ?_ ?_|intro hsp))
   all_goals exact next_x (i+1) [] ⟨by omega,fun j hj=>if e2:j=i then by rw [e2,g1,g2];exact e else h0 j (by omega)⟩ (by first|omega|(dsimp only;omega)) rfl (by exact wkx_Tl)
  | false =>
   rw [no fun h=>hne (fun e=>by have:=ht.2 e;cases this) h.1.2.2]
   (refine wtl ?_;repeat' (first|with_reducible refine And.intro ?_ ?_|intro hsp))
   all_goals exact end_bool rfl
 have eD:=maps_eq (f:=dtA) dDt h3 fun j hj=>h0 j (by omega)
 rw [hb.2 ⟨⟨eR,eU,eD⟩,hts.1 rfl⟩]
 (refine wtl ?_;repeat' (first|with_reducible refine And.intro ?_ ?_|intro hsp))
 all_goals exact end_bool rfl
end
end Go.Proofs.YtkahmhmkhfllpaaDoor
namespace Go.Pol
open Go.Am
theorem rep_get {z:List AV} (hz:0 < z.length):∀ {n i:Nat},i < n * z.length→((List.replicate n z).flatten)[i]? = z[i % z.length]?
 | 0,i,h=>by omega
 | n+1,i,h=>by
  rw [List.replicate_succ,List.flatten_cons]
  by_cases hi:i < z.length
  ·rw [List.getElem?_append_left hi,Nat.mod_eq_of_lt hi]
  ·rw [List.getElem?_append_right (by omega),rep_get hz (by rw [Nat.succ_mul] at h;omega)]
   congr 1
   conv=>rhs;rw [show i=(i - z.length)+z.length by omega,Nat.add_mod_right]
theorem rep_len {z:List AV} {n:Nat}:((List.replicate n z).flatten).length=n * z.length:=by simp
def zP:List AV:=.nils::List.replicate 14 (.int .i64 0)
theorem zP_len:zP.length=15:=rfl
theorem zP_get {m:Nat} (h:m < 15):zP[m]? = some (zP[m]?.getD .undef):=by
 rw [List.getElem?_eq_getElem (by rw [zP_len];exact h)];rfl
theorem pg0_len:pg0.length=66:=rfl
theorem pg0_get {j:Nat} (h:j < 66):pg0[j]? = some (pageF (fun _=>0) (fun _=>false) (fun _ _=>0) 0 j):=by
 unfold pageF pg0
 match j with
 | 0=>rfl
 | 1=>rfl
 | j+2=>rw [if_neg (by omega),if_neg (by omega),List.getElem?_cons_succ,List.getElem?_cons_succ,List.getElem?_replicate,if_pos (by omega)]
theorem sysZ_len:sysZ.length=67600:=by unfold sysZ;rw [List.length_cons,List.length_append,rep_len];rfl
theorem sysZ_0:sysZ.set 0 (.bool true)=sysB (fun _=>0) (fun _=>false) (fun _ _=>0) zP:=by
 refine List.ext_getElem? fun i=>?_
 by_cases hi:i < 67600
 ·unfold sysB
  rw [memA_get hi]
  unfold sysZ sysF
  rw [List.set_cons_zero]
  by_cases h0:i=0
  ·rw [if_pos h0,h0];rfl
  ·rw [if_neg h0]
   obtain ⟨k,rfl⟩:∃ k,i=k+1:=⟨i - 1,by omega⟩
   rw [List.getElem?_cons_succ]
   by_cases h1:k+1 < 67585
   ·rw [if_pos h1,List.getElem?_append_left (by rw [rep_len,pg0_len];omega),rep_get (by decide) (by rw [pg0_len];omega),pg0_len,pg0_get (by omega)]
    rw [Nat.add_sub_cancel];rfl
   ·rw [if_neg h1,List.getElem?_append_right (by rw [rep_len,pg0_len];omega),rep_len,pg0_len,show k - 1024 * 66=k+1 - 67585 by omega]
    have hm:k+1 - 67585 < 15:=by omega
    generalize k+1 - 67585=m at *
    exact zP_get hm
 ·rw [List.getElem?_eq_none (by rw [List.length_set,sysZ_len];omega),List.getElem?_eq_none (by rw [sys_len];omega)]
theorem new_a {l:List Rl} {o:Nat} {z:List AV} (hz:z=sysZ) (h:o=67585):over (z.set 0 (.bool true)) o (stA l (fun _=>0) fun _=>0)=(Sy.new l).a:=by
 rw [hz,sysZ_0,sys_setPlanO h rfl];unfold Sy.a;rfl
theorem a_made {s:Sy}:s.a[0]? = some (.bool true):=by unfold Sy.a;exact sys_made
theorem sysZ_lenE {z:List AV} (hz:z=sysZ):z.length=67600:=by rw [hz,sysZ_len]
end Go.Pol
namespace Go.Proofs.YtkahmhmkhfllpaaDoor
open Go Go.Am Go.Pol
theorem filtK_nil:∀ {l:List (Nat × AObj)} {k:List (Nat × AObj)→Prop},k l→filtK [] l k
 | [],_,h=>h
 | a::l,k,h=>filtK_nil (l:=l) (k:=fun r=>k (a::r)) h
structure LocN (f:Nat) (avs:List AV) (e:Int) (ds:List AV):Prop where
 out:LocC Tryd.prog G0 f avs [] 0 fun x h=>x = .tup [.ptr 0 0,.int .i64 e]∧h=⟨[(0,.cells ds)],1⟩
 pd:∀ x ∈ ds,Plain x
 pa:∀ x ∈ avs,Plain x
theorem end_new {top:Bool} {h:Hp} {x:AV} {i:Nat} {cs ds:List AV} {e:Int} (hx:x = .tup [.ptr i 0,.int .i64 e]) (hc:cs=ds) (h0:lk h.l i=some (.cells cs)) (pd:∀ x ∈ ds,Plain x):EndX top Tryd.prog 0 h x (fun r' h'=>r' = .tup [.ptr 0 0,.int .i64 e]∧h'=⟨[(0,.cells ds)],1⟩):=by
 subst hx;subst hc
 have e0:rn [(0,i)] 0=i:=rfl
 have hs:SubH (rn [(0,i)]) h ⟨[(0,.cells cs)],1⟩:=fun j o hj=>by
  simp only [lk] at hj
  split at hj
  ·rename_i e;subst e;exact ⟨_,h0⟩
  ·cases hj
 exact end_loc [(0,i)] rfl (Nat.zero_le _) (oneOf_of rfl) (wk_tup (wkl_cons (wk_ptr e0 (show 0 < 1 by decide)) (wkl_cons (wk_int rfl) wkl_nil))) (wko_plain hs (show 0 < 1 by decide) (by rw [e0];exact h0) rfl pd wko_nil) ⟨rfl,rfl⟩
theorem cx_locN {f nx:Nat} {avs:List AV} {e:Int} {ds:List AV} {l:List (Nat × AObj)} {K:AV→Hp→Prop} (hc:LocN f avs e ds) (hk:K (.tup [.ptr nx 0,.int .i64 e]) ⟨(nx,.cells ds)::l,nx+1⟩):CallX Tryd.prog G0 (.fn f [] []) avs ⟨l,nx⟩ K:=by
 have k0:back [] nx 0 nx:=rfl
 refine cx_loc (r':=.tup [.ptr nx 0,.int .i64 e]) (l1:=[(nx,.cells ds)]) [] hc.out plainG rfl .nil (by simpa using rnl_plain hc.pa) (by simp) (rn_tup ⟨rn_ptr k0,rn_plain plain_int,trivial⟩)
  (.cons k0 (rnl_plain hc.pd) .nil) (filtK_nil hk)
theorem wtf {p q:Prop} (hq:q) (h:HidP q→p:=by (intro hQz;((repeat' ((try (conv=>whnf));first|(with_reducible first|refine run_cons ?_|refine runq_cons ?_|refine code_seq ?_|refine code_reg ?_|refine code_cond ?_|refine run_nil ?_|refine runq_nil ?_|refine rund_op rfl ?_|refine rund_nil ?_|refine code_block ?_|refine code_skip ?_|refine code_exit ?_|refine code_ret ?_|refine code_range ?_|refine rund_fast (by decide +kernel) ?_|refine rund_slow (by decide +kernel) ?_|refine br_tt ?_|refine br_ff ?_|refine br_n ?_|refine br_and ?_|refine br_or ?_|refine br_t (by assumption) ?_|refine br_f (by assumption) ?_|refine eq_i64 (by omega) ?_|refine el_tn ?_)|((with_reducible refine br_dt ?_ ?_);focus omega)|((with_reducible refine br_df ?_ ?_);focus omega)|((with_reducible apply br_dq hQz)<;>(try intro hsp hQz))|((with_reducible refine ck_x ?_ ?_);focus (first|omega|rfl|assumption|decide|(simp only [List.length_map,List.length_cons,List.length_nil];omega)))|(with_reducible first|refine eq_tn ?_|refine eq_tn1 ?_|refine eq_tn2 ?_|refine eq_m1 ?_|refine eq_m2 ?_|refine eq_zm ?_|refine eq_z ?_|refine len_map ?_|refine len_sl ?_|refine len_nils ?_|refine len_own' ?_|refine len_isl ?_|refine eq_u8 (by omega) ?_|refine eq_u16 (by omega) ?_)|refine nthK_of (by with_reducible assumption) ?_|refine nthK_of a_made ?_|refine eq_of (by with_reducible assumption) ?_|refine overK_cons (by first|(simp only [List.length_cons,List.length_nil,List.length_set];omega)|fail) (by with_reducible assumption) ?_|(with_reducible first|refine eq_rfl ?_|refine ChkX.mk (by kernel_rfl) ?_|refine code_q rfl ?_|refine code_d (by decide +kernel) ?_|refine end_go rfl ?_)|refine cx_locS (by assumption) rfl (by omega) ?_|refine dcx_locS (by assumption) rfl rfl ?_|refine cx_pureS (by assumption) ?_|refine dcx_pureS (by assumption) ?_|refine qcx_pureS (by assumption) ?_|(refine cx_in hmix b36 rfl ?_;unfold c36)|refine len_map ?_|refine len_isl ?_|refine el_of rfl rfl ?_|refine del_own ?_|refine del_own' rfl ?_|refine as_go rfl ?_|refine rd_go rfl ?_|refine rg_end rfl ?_|refine flat_ownX ?_|refine EqLX.mk ?_|((with_reducible apply br_bq hQz)<;>(try intro hsp hQz))|exact hQz.out))<;>(try (conv=>whnf))))):p:=h ⟨hq⟩
section
variable {s:Sy} {l:List Rl} {i e:Int}
set_option maxHeartbeats 1600000 in
theorem p_new (hc:chkP l=(i,0)):LocN 24 [.agg [.isl (l.map rlA)]] 0 (Sy.new l).a:=by
 have z:=k_start hc (by have:=(chk_ok hc).2;omega)
 refine LocN.mk (loc_x hmix b24 rfl ?_) a_plain (plain_1 plain_pl)
 unfold c24
 obtain ⟨o,ho⟩:∃ o,o=67585:=⟨_,rfl⟩
 obtain ⟨y,hy⟩:∃ y,y=sysZ:=⟨_,rfl⟩
 rw [← ho,← hy]
 have hl:=sysZ_lenE hy
 have hov:=new_a (l:=l) hy ho
 unfold stA at hov
 (refine wtf ?_;repeat' (first|with_reducible refine And.intro ?_ ?_|intro hsp))
 rw [show Nat.ble (0+1) y.length=true from Nat.ble_eq_true_of_le (by omega)]
 (refine wtf ?_;repeat' (first|with_reducible refine And.intro ?_ ?_|intro hsp))
 refine set1K_of (by omega) rfl ?_
 (refine wtf ?_;repeat' (first|with_reducible refine And.intro ?_ ?_|intro hsp))
 rw [show Nat.ble (o+15) (y.set 0 (.bool true)).length=true from Nat.ble_eq_true_of_le (by rw [List.length_set];omega)]
 (refine wtf ?_;repeat' (first|with_reducible refine And.intro ?_ ?_|intro hsp))
 all_goals exact end_new rfl rfl rfl a_plain
end
end Go.Proofs.YtkahmhmkhfllpaaDoor
namespace Go.Pol
open Go.Am
theorem q64 {t:Nat} (h:t < 100000):IntKind.i64.wrap (((t:Nat):Int).tdiv 64)=((t / 64:Nat):Int):=quo64 (a:=(t:Nat)) (by omega) (by omega)
theorem m64 {t:Nat}:((t:Nat):Int).tmod 64=((t % 64:Nat):Int):=rem64 (a:=(t:Nat)) (by omega)
end Go.Pol
namespace Go.Proofs.YtkahmhmkhfllpaaDoor
open Go Go.Am Go.Pol
theorem wtw {p q:Prop} (hq:q) (h:HidP q→p:=by (intro hQz;((repeat' ((try (conv=>whnf));first|(with_reducible first|refine run_cons ?_|refine runq_cons ?_|refine code_seq ?_|refine code_reg ?_|refine code_cond ?_|refine run_nil ?_|refine runq_nil ?_|refine rund_op rfl ?_|refine rund_nil ?_|refine code_block ?_|refine code_skip ?_|refine code_exit ?_|refine code_ret ?_|refine code_range ?_|refine rund_fast (by decide +kernel) ?_|refine rund_slow (by decide +kernel) ?_|refine br_tt ?_|refine br_ff ?_|refine br_n ?_|refine br_and ?_|refine br_or ?_|refine br_t (by assumption) ?_|refine br_f (by assumption) ?_|refine eq_i64 (by omega) ?_|refine el_tn ?_)|((with_reducible refine br_dt ?_ ?_);focus omega)|((with_reducible refine br_df ?_ ?_);focus omega)|((with_reducible apply br_dq hQz)<;>(try intro hsp hQz))|((with_reducible refine ck_x ?_ ?_);focus (first|omega|rfl|assumption|decide|(simp only [List.length_map,List.length_cons,List.length_nil];omega)))|(with_reducible first|refine eq_tn ?_|refine eq_tn1 ?_|refine eq_tn2 ?_|refine eq_m1 ?_|refine eq_m2 ?_|refine eq_zm ?_|refine eq_z ?_|refine len_map ?_|refine len_sl ?_|refine len_nils ?_|refine len_own' ?_|refine len_isl ?_|refine eq_u8 (by omega) ?_|refine eq_u16 (by omega) ?_)|refine nthK_of (by with_reducible assumption) ?_|refine nthK_of sys_made ?_|refine eq_of (by with_reducible assumption) ?_|refine set1K_of (by rw [sys_len];omega) (by with_reducible assumption) ?_|refine set1K_of (by rw [ref_len];omega) (by with_reducible assumption) ?_|(with_reducible first|refine eq_rfl ?_|refine ChkX.mk (by kernel_rfl) ?_|refine code_q rfl ?_|refine code_d (by decide +kernel) ?_|refine end_go rfl ?_)|refine cx_locS (by assumption) rfl (by omega) ?_|refine dcx_locS (by assumption) rfl rfl ?_|refine cx_pureS (by assumption) ?_|refine dcx_pureS (by assumption) ?_|refine qcx_pureS (by assumption) ?_|(refine cx_in hmix b36 rfl ?_;unfold c36)|(refine cx_in hmix b41 rfl ?_;unfold c41)|(refine cx_in hmix b52 rfl ?_;unfold c52)|refine len_map ?_|refine len_isl ?_|refine el_of rfl rfl ?_|refine del_own ?_|refine del_own' rfl ?_|refine as_go rfl ?_|refine rd_go rfl ?_|refine rg_end rfl ?_|refine flat_ownX ?_|refine EqLX.mk ?_|((with_reducible apply br_bq hQz)<;>(try intro hsp hQz))|exact hQz.out))<;>(try (conv=>whnf))))):p:=h ⟨hq⟩
section
variable {s:Sy} {a b:Int}
theorem plain_wr {a b:Int}:∀ x ∈ [AV.int .i64 a,.int .u8 b],Plain x:=plain_2 plain_int plain_int
set_option maxHeartbeats 400000 in
theorem p_write:LocS 27 [.int .i64 a,.int .u8 b] s.a (.int .i64 (s.write a b).1) (s.write a b).2.a:=by
 refine LocS.mk (loc_x hmix b27 rfl ?_) a_plain a_plain plain_wr plain_int
 unfold c27
 unfold Sy.write
 by_cases h1:a < 0∨65536≤a
 ·rw [if_pos h1];unfold Sy.a
  (refine wtw ?_;repeat' (first|with_reducible refine And.intro ?_ ?_|intro hsp))
  all_goals first|exact end_s rfl plain_int rfl (sys_plain stA_plain)|(exfalso;omega)
 ·rw [if_neg h1]
  obtain ⟨t,rfl⟩:∃ t:Nat,a=(t:Nat):=⟨a.toNat,by omega⟩
  simp only [Int.toNat_natCast]
  have hw:=q64 (t:=t) (by omega)
  have hr:=m64 (t:=t)
  have hk:(sysB s.K s.M s.B (stA s.l s.C s.H))[1+t / 64 * 66+0]? = some (.int .i64 (s.K (t / 64))):=sys_kind (by omega)
  by_cases h2:s.K (t / 64)=2
  ·rw [if_pos h2]
   have hs:(sysB s.K s.M s.B (stA s.l s.C s.H)).set (1+t / 64 * 66+2+t % 64) (.int .u8 b)=sysB s.K s.M (updP s.B (t / 64) (updI (s.B (t / 64)) (t % 64) b)) (stA s.l s.C s.H):=sys_setByte (by omega) (by omega)
   unfold Sy.a
   (refine wtw ?_;repeat' (first|with_reducible refine And.intro ?_ ?_|intro hsp))
   all_goals first|exact end_s rfl plain_int rfl (sys_plain stA_plain)|(exfalso;omega)|trace_state
  ·rw [if_neg h2]
   unfold Sy.a
   (refine wtw ?_;repeat' (first|with_reducible refine And.intro ?_ ?_|intro hsp))
   all_goals first|exact end_s rfl plain_int rfl (sys_plain stA_plain)|(exfalso;exact absurd (by assumption) h2)|(exfalso;exact h2 (by assumption))|trace_state
theorem plain_tui {v e:Int}:Plain (.tup [.int .u8 v,.int .i64 e]):=plain_tup (plain_2 plain_int plain_int)
set_option maxHeartbeats 400000 in
theorem p_read:LocS 16 [.int .i64 a] s.a (.tup [.int .u8 (s.read a).1,.int .i64 (s.read a).2]) s.a:=by
 refine LocS.mk (loc_x hmix b16 rfl ?_) a_plain a_plain (plain_1 plain_int) plain_tui
 unfold c16
 unfold Sy.read
 by_cases h1:a < 0∨65536≤a
 ·rw [if_pos h1];unfold Sy.a
  (refine wtw ?_;repeat' (first|with_reducible refine And.intro ?_ ?_|intro hsp))
  all_goals first|exact end_s rfl plain_tui rfl (sys_plain stA_plain)|(exfalso;omega)
 ·rw [if_neg h1]
  obtain ⟨t,rfl⟩:∃ t:Nat,a=(t:Nat):=⟨a.toNat,by omega⟩
  simp only [Int.toNat_natCast]
  have hw:=q64 (t:=t) (by omega)
  have hr:=m64 (t:=t)
  have hk:(sysB s.K s.M s.B (stA s.l s.C s.H))[1+t / 64 * 66+0]? = some (.int .i64 (s.K (t / 64))):=sys_kind (by omega)
  by_cases h2:s.K (t / 64)=2
  ·rw [if_pos h2]
   have hs:(sysB s.K s.M s.B (stA s.l s.C s.H))[1+t / 64 * 66+2+t % 64]? = some (.int .u8 (s.B (t / 64) (t % 64))):=sys_byte (by omega) (by omega)
   unfold Sy.a
   (refine wtw ?_;repeat' (first|with_reducible refine And.intro ?_ ?_|intro hsp))
   all_goals first|exact end_s rfl plain_tui rfl (sys_plain stA_plain)|(exfalso;omega)|trace_state
  ·rw [if_neg h2]
   unfold Sy.a
   (refine wtw ?_;repeat' (first|with_reducible refine And.intro ?_ ?_|intro hsp))
   all_goals first|exact end_s rfl plain_tui rfl (sys_plain stA_plain)|(exfalso;exact absurd (by assumption) h2)|(exfalso;exact h2 (by assumption))|trace_state
end
end Go.Proofs.YtkahmhmkhfllpaaDoor
