/-
 Saved states,plain: runs,huge pages,data of a state.
 Loading of states,plain: what is saved is loaded;what is loaded is saved.
 The document's system: page,kinds,set,change and the calls,Join,Split.
 The document's system: change and the calls,Join,Split over the plain state.
 The document's system: Join,Split,bytes,kinds,counts,plans over the plain state.
 New,Plan,Write,Read,Kind of both systems over the plain state.
 Write,Read,Kind of both systems over the plain state.
 Counts of both systems.
-/
import Derived.Test.YtphggldkligldaaVmB
set_option linter.unusedSimpArgs false
set_option linter.unusedVariables false
namespace Go.Pol
open Go.Am
structure Rn where
 p:Int
 n:Int
 k:Int
def rnA (r:Rn):List AV:=[.int .i64 r.p,.int .i64 r.n,.int .i64 r.k]
theorem rnA_plain (r:Rn):∀ x ∈ rnA r,Plain x:=fun x hx=>by
 simp only [rnA,List.mem_cons,List.not_mem_nil,or_false] at hx
 rcases hx with rfl|rfl|rfl<;>exact plain_int
@[irreducible] def byA (b:Nat→Int):List AV:=(List.range 64).map fun j=>.int .u8 (b j)
@[simp] theorem by_len (b:Nat→Int):(byA b).length=64:=by unfold byA;simp
theorem byA_plain (b:Nat→Int):∀ x ∈ byA b,Plain x:=fun x hx=>by
 unfold byA at hx
 obtain ⟨i,_,rfl⟩:=List.mem_map.1 hx
 exact plain_int
structure Dt where
 p:Int
 b:Nat→Int
def dtA (d:Dt):List AV:=.int .i64 d.p::byA d.b
theorem dtA_plain (d:Dt):∀ x ∈ dtA d,Plain x:=fun x hx=>by
 rcases List.mem_cons.1 hx with rfl|hx
 ·exact plain_int
 ·exact byA_plain _ x hx
def inA (u:Int):List AV:=[.int .i64 u]
theorem inA_plain (u:Int):∀ x ∈ inA u,Plain x:=fun x hx=>by
 obtain rfl:=List.mem_singleton.1 hx;exact plain_int
def bump:List Rn→List Rn
 | [] => []
 | [r]=>[⟨r.p,r.n+1,r.k⟩]
 | r::r'::L=>r::bump (r'::L)
def runsTo (K:Nat→Int):Nat→List Rn
 | 0 => []
 | n+1=>if K n=0 then runsTo K n else if 0 < n∧K (n - 1)=K n then bump (runsTo K n) else runsTo K n++[⟨(n:Nat),1,K n⟩]
def hugeTo (G:Nat→Bool):Nat→List Int
 | 0 => []
 | n+1=>if n % 16=0∧G (n / 16)=true then hugeTo G n++[((n:Nat):Int)] else hugeTo G n
def zeroB (f:Nat→Int):Prop:=∀ j,j < 64→f j=0
instance (f:Nat→Int):Decidable (zeroB f):=by unfold zeroB;infer_instance
def dataTo (B:Nat→Nat→Int):Nat→List Dt
 | 0 => []
 | n+1=>if zeroB (B n) then dataTo B n else dataTo B n++[⟨(n:Nat),B n⟩]
section
variable {K:Nat→Int} {G:Nat→Bool} {B:Nat→Nat→Int} {n p j:Nat}
end
structure Vs where
 R:List Rn
 U:List Int
 D:List Dt
 l:List Rl
 C:Nat→Int
 H:Nat→Int
def vsA (x:Vs):List AV:=.isl (x.R.map rnA) :: .isl (x.U.map inA) :: .isl (x.D.map dtA)::stA x.l x.C x.H
theorem plain_isls {α:Type} {f:α→List AV} {L:List α} (h:∀ a,∀ x ∈ f a,Plain x):Plain (.isl (L.map f)):=plain_isl fun e he=>by
 obtain ⟨b,_,rfl⟩:=List.mem_map.1 he
 exact h b
theorem vsA_plain (x:Vs):∀ y ∈ vsA x,Plain y:=fun y hy=>by
 rcases List.mem_cons.1 hy with rfl|hy
 ·exact plain_isls rnA_plain
 rcases List.mem_cons.1 hy with rfl|hy
 ·exact plain_isls inA_plain
 rcases List.mem_cons.1 hy with rfl|hy
 ·exact plain_isls dtA_plain
 ·exact stA_plain y hy
theorem plain_vs {x:Vs}:Plain (.agg (vsA x)):=plain_agg (vsA_plain x)
def Sy.save (s:Sy):Vs:=⟨runsTo s.K 1024,hugeTo s.G 1024,dataTo s.B 1024,s.l,s.C,s.H⟩
end Go.Pol
namespace Go.Pol
open Go.Am
section fold
variable {σ α:Type} {f:σ→α→Option σ}
def fo (f:σ→α→Option σ):List α→σ→Option σ
 | [],s=>some s
 | a::l,s=>match f s a with|none=>none|some s'=>fo f l s'
def foA (f:σ→α→Option σ) (l:List α) (s:σ) (i:Nat):σ:=(fo f (l.take i) s).getD s
def foI (f:σ→α→Option σ) (l:List α) (s:σ) (i:Nat):Prop:=fo f (l.take i) s=some (foA f l s i)
end fold
structure Sr where
 nx:Int
 la:Int
 K:Nat→Int
def badRn (s:Sr) (r:Rn):Prop:=r.p < s.nx∨r.n < 1∨1024 - r.p < r.n∨r.k < 1∨3 < r.k∨(r.p=s.nx∧r.k=s.la)
instance (s:Sr) (r:Rn):Decidable (badRn s r):=by unfold badRn;infer_instance
def stR (s:Sr) (r:Rn):Option Sr:=if badRn s r then none else some ⟨r.p+r.n,r.k,setR s.K r.p.toNat r.n.toNat r.k⟩
structure Su where
 lo:Int
 G:Nat→Bool
def stU (K:Nat→Int) (s:Su) (u:Int):Option Su:=if u≤s.lo∨¬ fst u∨¬ okC K u.toNat 16 then none else some ⟨u,updB s.G (u.toNat / 16) true⟩
structure Sd where
 lo:Int
 B:Nat→Nat→Int
def stD (K:Nat→Int) (s:Sd) (d:Dt):Option Sd:=if d.p≤s.lo∨d.p < 0∨1024≤d.p∨K d.p.toNat ≠ 2∨zeroB d.b then none else some ⟨d.p,updP s.B d.p.toNat d.b⟩
def r0:Sr:=⟨0,0,fun _=>0⟩
def u0:Su:=⟨-1,fun _=>false⟩
def d0:Sd:=⟨-1,fun _ _=>0⟩
def ldP (x:Vs):Option Sy:=match fo stR x.R r0 with|none=>none|some r=>match fo (stU r.K) x.U u0 with|none=>none|some u=>match fo (stD r.K) x.D d0 with|none=>none|some d=>some ⟨r.K,u.G,d.B,x.l,x.C,x.H⟩
def Vs.cn (x:Vs):Prop:=∀ d,d ∈ x.D→∀ j,64≤j→d.b j=0
section
variable {K K':Nat→Int} {n:Nat}
def cutK (K:Nat→Int) (n:Nat):Nat→Int:=fun p=>if p < n then K p else 0
end
structure Pg (s:Sy):Prop where
 kind:∀ p,0≤s.K p∧s.K p≤3
 huge:∀ p,s.M p=true→s.K p=2
 zero:∀ p,s.K p ≠ 2→s.B p=fun _=>0
 cK:∀ p,1024≤p→s.K p=0
 cB:∀ p j,64≤j→s.B p j=0
def badL (r:Rn):Prop:=r.p < 0∨1024≤r.p∨r.n < 1∨1024 - r.p < r.n∨r.k < 1∨3 < r.k
instance (r:Rn):Decidable (badL r):=by unfold badL;infer_instance
def lyR (K:Nat→Int) (r:Rn):Option (Nat→Int):=if badL r then none else some (setR K r.p.toNat r.n.toNat r.k)
def lyU (K:Nat→Int) (G:Nat→Bool) (u:Int):Option (Nat→Bool):=if ¬ fst u∨¬ okC K u.toNat 16 then none else some (updB G (u.toNat / 16) true)
def lyD (B:Nat→Nat→Int) (d:Dt):Option (Nat→Nat→Int):=if d.p < 0∨1024≤d.p then none else some (updP B d.p.toNat d.b)
def ldL (x:Vs):Option Sy:=match fo lyR x.R (fun _=>0) with|none=>none|some K=>match fo (lyU K) x.U (fun _=>false) with|none=>none|some G=>match fo lyD x.D (fun _ _=>0) with|none=>none|some B=>some ⟨K,G,B,x.l,x.C,x.H⟩
def Sy.saveR (s:Sy):Vs:={ s.save with D:=dataTo (fun p=>if s.K p=2 then s.B p else fun _=>0) 1024 }
end Go.Pol
namespace Go.Pol
open Go.Am
def okV (K:Nat→Int) (a n:Nat) (v:Int):Prop:=∀ i,i < n→K (a+i)=v
instance (K:Nat→Int) (a n:Nat) (v:Int):Decidable (okV K a n v):=by unfold okV;infer_instance
end Go.Pol
namespace Go.Proofs.Ytphggldkligldaa
open Go Go.Am Go.Pol
section
variable {K:Nat→Int} {M G:Nat→Bool} {B:Nat→Nat→Int} {P:List AV}
end
end Go.Proofs.Ytphggldkligldaa
namespace Go.Pol
open Go.Am
end Go.Pol
namespace Go.Proofs.Ytphggldkligldaa
open Go Go.Am Go.Pol
section
variable {s:Sy} {a n:Int}
theorem b_plain:∀ x ∈ s.b,Plain x:=by unfold Sy.b;exact rfk_plain stA_plain
theorem a_plain:∀ x ∈ s.a,Plain x:=by unfold Sy.a;exact sys_plain stA_plain
end
end Go.Proofs.Ytphggldkligldaa
namespace Go.Pol
open Go.Am
def Sy.write (s:Sy) (a b:Int):Int × Sy :=
 if a < 0∨65536≤a then (7,s) else if s.K (a.toNat / 64)=2 then (0,{ s with B:=updP s.B (a.toNat / 64) (updI (s.B (a.toNat / 64)) (a.toNat % 64) b) }) else (61,s)
def Sy.read (s:Sy) (a:Int):Int × Int :=
 if a < 0∨65536≤a then (0,7) else if s.K (a.toNat / 64)=2 then (s.B (a.toNat / 64) (a.toNat % 64),0) else (0,61)
def Sy.kind (s:Sy) (a:Int):List AV :=
 if a < 0∨1024≤a then [.int .i64 0,.bool false,.int .i64 7] else [.int .i64 (s.K a.toNat),.bool (s.M a.toNat),.int .i64 0]
def Sy.new (l:List Rl):Sy:=⟨fun _=>0,fun _=>false,fun _ _=>0,l,fun _=>0,fun _=>0⟩
def Sy.plan (s:Sy) (l:List Rl):Int × Sy:=if (chkP l).2=0 then (0,{ s with l:=l,C:=fun _=>0,H:=fun _=>0 }) else ((chkP l).2,s)
theorem chkS_new {l:List Rl} (h:(chkP l).2=0):chkS l (fun _=>0) (fun _=>0)=0:=by
 unfold chkS
 rw [if_neg (by rw [h];simp),if_pos]
 intro k hk
 exact ⟨Int.le_refl _,by show (0:Int)≤1000000;decide,rfl⟩
theorem good_new {l:List Rl} (h:(chkP l).2=0):GoodS (Sy.new l):=⟨chkS_new h,fun _=>⟨Int.le_refl _,(by show (0:Int)≤3;decide)⟩,fun p hp=>(by cases hp),fun _ _=>rfl,fun _ _=>rfl,fun _ _ _=>rfl⟩
theorem good_plan {s:Sy} {l:List Rl} (h:GoodS s):GoodS (s.plan l).2:=by
 unfold Sy.plan
 split
 ·exact ⟨chkS_new (by assumption),h.kind,h.huge,h.zero,h.cK,h.cB⟩
 ·exact h
theorem good_write {s:Sy} {a b:Int} (h:GoodS s):GoodS (s.write a b).2:=by
 unfold Sy.write
 split
 ·exact h
 ·split
  ·rename_i hk
   refine ⟨h.hv,h.kind,h.huge,fun p hp=>?_,h.cK,fun p j hj=>?_⟩
   ·show updP s.B _ _ p=_
    unfold updP
    rw [if_neg fun e=>hp (by rw [e];exact hk)]
    exact h.zero p hp
   ·show updP s.B _ _ p j=0
    unfold updP
    split
    ·unfold updI;rw [if_neg (by omega)];exact h.cB _ _ hj
    ·exact h.cB _ _ hj
  ·exact h
def cntK (K:Nat→Int) (v:Int):Nat→Nat
 | 0 => 0
 | n+1=>cntK K v n+if K n=v then 1 else 0
def cntG (G:Nat→Bool):Nat→Nat
 | 0 => 0
 | n+1=>cntG G n+if G n=true then 1 else 0
theorem cntK_le {K:Nat→Int} {v:Int}:∀ n,cntK K v n≤n
 | 0=>Nat.le_refl _
 | n+1=>by have:=cntK_le (K:=K) (v:=v) n;unfold cntK;split<;>omega
def Sy.counts (s:Sy):List AV:=[.int .i64 (cntK s.K 0 1024:Nat),.int .i64 (cntK s.K 1 1024:Nat),.int .i64 (cntK s.K 2 1024:Nat),.int .i64 (cntK s.K 3 1024:Nat),.int .i64 (cntG s.G 64:Nat)]
theorem quo64 {a:Int} (h:0≤a) (h2:a < 100000):IntKind.i64.wrap (a.tdiv 64)=((a.toNat / 64:Nat):Int):=by
 rw [Int.tdiv_eq_ediv_of_nonneg h,IntWalk.i64_in _ ⟨by omega,by omega⟩];omega
theorem rem64 {a:Int} (h:0≤a):a.tmod 64=((a.toNat % 64:Nat):Int):=by
 rw [Int.tmod_eq_emod_of_nonneg h];omega
end Go.Pol
namespace Go.Proofs.Ytphggldkligldaa
open Go Go.Am Go.Pol
section
variable {s:Sy} {a:Int}
end
end Go.Proofs.Ytphggldkligldaa
namespace Go.Pol
open Go.Am
theorem rep_get {z:List AV} (hz:0 < z.length):∀ {n i:Nat},i < n * z.length→((List.replicate n z).flatten)[i]? = z[i % z.length]?
 | 0,i,h=>by omega
 | n+1,i,h=>by
  rw [List.replicate_succ,List.flatten_cons]
  by_cases hi:i < z.length
  ·rw [List.getElem?_append_left hi,Nat.mod_eq_of_lt hi]
  ·rw [List.getElem?_append_right (by omega),rep_get hz (by rw [Nat.succ_mul] at h;omega)]
   congr 1
   conv=>rhs;rw [show i=(i - z.length)+z.length by omega,Nat.add_mod_right]
theorem rep_len {z:List AV} {n:Nat}:((List.replicate n z).flatten).length=n * z.length:=by simp
def zP:List AV:=.nils::List.replicate 14 (.int .i64 0)
theorem zP_len:zP.length=15:=rfl
theorem zP_get {m:Nat} (h:m < 15):zP[m]? = some (zP[m]?.getD .undef):=by
 rw [List.getElem?_eq_getElem (by rw [zP_len];exact h)];rfl
theorem pg0_len:pg0.length=66:=rfl
theorem pg0_get {j:Nat} (h:j < 66):pg0[j]? = some (pageF (fun _=>0) (fun _=>false) (fun _ _=>0) 0 j):=by
 unfold pageF pg0
 match j with
 | 0=>rfl
 | 1=>rfl
 | j+2=>rw [if_neg (by omega),if_neg (by omega),List.getElem?_cons_succ,List.getElem?_cons_succ,List.getElem?_replicate,if_pos (by omega)]
theorem sysZ_len:sysZ.length=67600:=by unfold sysZ;rw [List.length_cons,List.length_append,rep_len];rfl
theorem sysZ_0:sysZ.set 0 (.bool true)=sysB (fun _=>0) (fun _=>false) (fun _ _=>0) zP:=by
 refine List.ext_getElem? fun i=>?_
 by_cases hi:i < 67600
 ·unfold sysB
  rw [memA_get hi]
  unfold sysZ sysF
  rw [List.set_cons_zero]
  by_cases h0:i=0
  ·rw [if_pos h0,h0];rfl
  ·rw [if_neg h0]
   obtain ⟨k,rfl⟩:∃ k,i=k+1:=⟨i - 1,by omega⟩
   rw [List.getElem?_cons_succ]
   by_cases h1:k+1 < 67585
   ·rw [if_pos h1,List.getElem?_append_left (by rw [rep_len,pg0_len];omega),rep_get (by decide) (by rw [pg0_len];omega),pg0_len,pg0_get (by omega)]
    rw [Nat.add_sub_cancel];rfl
   ·rw [if_neg h1,List.getElem?_append_right (by rw [rep_len,pg0_len];omega),rep_len,pg0_len,show k - 1024 * 66=k+1 - 67585 by omega]
    have hm:k+1 - 67585 < 15:=by omega
    generalize k+1 - 67585=m at *
    exact zP_get hm
 ·rw [List.getElem?_eq_none (by rw [List.length_set,sysZ_len];omega),List.getElem?_eq_none (by rw [sys_len];omega)]
theorem new_a {l:List Rl} {o:Nat} {z:List AV} (hz:z=sysZ) (h:o=67585):over (z.set 0 (.bool true)) o (stA l (fun _=>0) fun _=>0)=(Sy.new l).a:=by
 rw [hz,sysZ_0,sys_setPlanO h rfl];unfold Sy.a;rfl
theorem plan_a {s:Sy} {l:List Rl} {o:Nat} (h:o=67585):over s.a o (stA l (fun _=>0) fun _=>0)=(Sy.mk s.K s.G s.B l (fun _=>0) fun _=>0).a:=by
 unfold Sy.a;exact sys_setPlanO h rfl
theorem a_len {s:Sy}:s.a.length=67600:=by unfold Sy.a;exact sys_len
theorem a_made {s:Sy}:s.a[0]? = some (.bool true):=by unfold Sy.a;exact sys_made
theorem sysZ_lenE {z:List AV} (hz:z=sysZ):z.length=67600:=by rw [hz,sysZ_len]
end Go.Pol
namespace Go.Proofs.Ytphggldkligldaa
open Go Go.Am Go.Pol
theorem filtK_nil:∀ {l:List (Nat × AObj)} {k:List (Nat × AObj)→Prop},k l→filtK [] l k
 | [],_,h=>h
 | a::l,k,h=>filtK_nil (l:=l) (k:=fun r=>k (a::r)) h
structure LocN (f:Nat) (avs:List AV) (e:Int) (ds:List AV):Prop where
 out:LocC Try.prog G0 f avs [] 0 fun x h=>x = .tup [.ptr 0 0,.int .i64 e]∧h=⟨[(0,.cells ds)],1⟩
 pd:∀ x ∈ ds,Plain x
 pa:∀ x ∈ avs,Plain x
theorem end_new {top:Bool} {h:Hp} {x:AV} {i:Nat} {cs ds:List AV} {e:Int} (hx:x = .tup [.ptr i 0,.int .i64 e]) (hc:cs=ds) (h0:lk h.l i=some (.cells cs)) (pd:∀ x ∈ ds,Plain x):EndX top Try.prog 0 h x (fun r' h'=>r' = .tup [.ptr 0 0,.int .i64 e]∧h'=⟨[(0,.cells ds)],1⟩):=by
 subst hx;subst hc
 have e0:rn [(0,i)] 0=i:=rfl
 have hs:SubH (rn [(0,i)]) h ⟨[(0,.cells cs)],1⟩:=fun j o hj=>by
  simp only [lk] at hj
  split at hj
  ·rename_i e;subst e;exact ⟨_,h0⟩
  ·cases hj
 exact end_loc [(0,i)] rfl (Nat.zero_le _) (oneOf_of rfl) (wk_tup (wkl_cons (wk_ptr e0 (show 0 < 1 by decide)) (wkl_cons (wk_int rfl) wkl_nil))) (wko_plain hs (show 0 < 1 by decide) (by rw [e0];exact h0) rfl pd wko_nil) ⟨rfl,rfl⟩
theorem cx_locN {f nx:Nat} {avs:List AV} {e:Int} {ds:List AV} {l:List (Nat × AObj)} {K:AV→Hp→Prop} (hc:LocN f avs e ds) (hk:K (.tup [.ptr nx 0,.int .i64 e]) ⟨(nx,.cells ds)::l,nx+1⟩):CallX Try.prog G0 (.fn f [] []) avs ⟨l,nx⟩ K:=by
 have k0:back [] nx 0 nx:=rfl
 refine cx_loc (r':=.tup [.ptr nx 0,.int .i64 e]) (l1:=[(nx,.cells ds)]) [] hc.out plainG rfl .nil (by simpa using rnl_plain hc.pa) (by simp) (rn_tup ⟨rn_ptr k0,rn_plain plain_int,trivial⟩)
  (.cons k0 (rnl_plain hc.pd) .nil) (filtK_nil hk)
theorem wtf {p q:Prop} (hq:q) (h:HidP q→p:=by (intro hQz;((repeat' ((try (conv=>whnf));first|(with_reducible first|refine run_cons ?_|refine runq_cons ?_|refine code_seq ?_|refine code_reg ?_|refine code_cond ?_|refine run_nil ?_|refine runq_nil ?_|refine rund_op rfl ?_|refine rund_nil ?_|refine code_block ?_|refine code_skip ?_|refine code_exit ?_|refine code_ret ?_|refine code_range ?_|refine rund_fast (by decide +kernel) ?_|refine rund_slow (by decide +kernel) ?_|refine br_tt ?_|refine br_ff ?_|refine br_n ?_|refine br_and ?_|refine br_or ?_|refine br_t (by assumption) ?_|refine br_f (by assumption) ?_|refine eq_i64 (by omega) ?_|refine el_tn ?_)|((with_reducible refine br_dt ?_ ?_);focus omega)|((with_reducible refine br_df ?_ ?_);focus omega)|((with_reducible apply br_dq hQz)<;>(try intro hsp hQz))|((with_reducible refine ck_x ?_ ?_);focus (first|omega|rfl|assumption|decide|(simp only [List.length_map,List.length_cons,List.length_nil];omega)))|(with_reducible first|refine eq_tn ?_|refine eq_tn1 ?_|refine eq_tn2 ?_|refine eq_m1 ?_|refine eq_m2 ?_|refine eq_zm ?_|refine eq_z ?_|refine len_map ?_|refine len_sl ?_|refine len_nils ?_|refine len_own' ?_|refine len_isl ?_|refine eq_u8 (by omega) ?_|refine eq_u16 (by omega) ?_)|refine nthK_of (by with_reducible assumption) ?_|refine nthK_of a_made ?_|refine eq_of (by with_reducible assumption) ?_|refine overK_cons (by first|(simp only [List.length_cons,List.length_nil,List.length_set];omega)|fail) (by with_reducible assumption) ?_|(with_reducible first|refine eq_rfl ?_|refine ChkX.mk (by kernel_rfl) ?_|refine code_q rfl ?_|refine code_d (by decide +kernel) ?_|refine end_go rfl ?_)|refine cx_locS (by assumption) rfl (by omega) ?_|refine dcx_locS (by assumption) rfl rfl ?_|refine cx_pureS (by assumption) ?_|refine dcx_pureS (by assumption) ?_|refine qcx_pureS (by assumption) ?_|(refine cx_in hmix b32 rfl ?_;unfold c32)|refine len_map ?_|refine len_isl ?_|refine el_of rfl rfl ?_|refine del_own ?_|refine del_own' rfl ?_|refine as_go rfl ?_|refine rd_go rfl ?_|refine rg_end rfl ?_|refine flat_ownX ?_|refine EqLX.mk ?_|((with_reducible apply br_bq hQz)<;>(try intro hsp hQz))|exact hQz.out))<;>(try (conv=>whnf))))):p:=h ⟨hq⟩
section
variable {s:Sy} {l:List Rl} {i e:Int}
set_option maxHeartbeats 1600000 in
theorem p_new_no (hc:chkP l=(i,e)) (he:e ≠ 0):PureS 14 [.agg [.isl (l.map rlA)]] (.tup [.nilp,.int .i64 e]):=by
 have z:=k_start_no hc he
 refine PureS.mk (pure_x hmix b14 plainG ⟨plain_pl,trivial⟩ (plain_tup (plain_2 plain_nilp plain_int)) rfl ?_)
 unfold c14
 (refine wtf ?_;repeat' (first|with_reducible refine And.intro ?_ ?_|intro hsp))
 all_goals exact end_plain rfl (plain_tup (plain_2 plain_nilp plain_int))
set_option maxHeartbeats 1600000 in
theorem p_new (hc:chkP l=(i,0)):LocN 14 [.agg [.isl (l.map rlA)]] 0 (Sy.new l).a:=by
 have z:=k_start hc (by have:=(chk_ok hc).2;omega)
 refine LocN.mk (loc_x hmix b14 rfl ?_) a_plain (plain_1 plain_pl)
 unfold c14
 obtain ⟨o,ho⟩:∃ o,o=67585:=⟨_,rfl⟩
 obtain ⟨y,hy⟩:∃ y,y=sysZ:=⟨_,rfl⟩
 rw [← ho,← hy]
 have hl:=sysZ_lenE hy
 have hov:=new_a (l:=l) hy ho
 unfold stA at hov
 (refine wtf ?_;repeat' (first|with_reducible refine And.intro ?_ ?_|intro hsp))
 rw [show Nat.ble (0+1) y.length=true from Nat.ble_eq_true_of_le (by omega)]
 (refine wtf ?_;repeat' (first|with_reducible refine And.intro ?_ ?_|intro hsp))
 refine set1K_of (by omega) rfl ?_
 (refine wtf ?_;repeat' (first|with_reducible refine And.intro ?_ ?_|intro hsp))
 rw [show Nat.ble (o+15) (y.set 0 (.bool true)).length=true from Nat.ble_eq_true_of_le (by rw [List.length_set];omega)]
 (refine wtf ?_;repeat' (first|with_reducible refine And.intro ?_ ?_|intro hsp))
 all_goals exact end_new rfl rfl rfl a_plain
set_option maxHeartbeats 1600000 in
theorem p_plan (s:Sy) (l:List Rl):LocS 26 [.agg [.isl (l.map rlA)]] s.a (.int .i64 (s.plan l).1) (s.plan l).2.a:=by
 refine LocS.mk (loc_x hmix b26 rfl ?_) a_plain a_plain (plain_1 plain_pl) plain_int
 unfold c26
 obtain ⟨o,ho⟩:∃ o,o=67585:=⟨_,rfl⟩
 rw [← ho]
 have hc:chkP l=((chkP l).1,(chkP l).2):=rfl
 unfold Sy.plan
 by_cases he:(chkP l).2=0
 ·rw [if_pos he]
  rw [he] at hc
  have z:=k_start hc (by have:=(chk_ok hc).2;omega)
  have hl:=a_len (s:=s)
  have hov:=plan_a (s:=s) (l:=l) ho
  unfold stA at hov
  (refine wtf ?_;repeat' (first|with_reducible refine And.intro ?_ ?_|intro hsp))
  all_goals exact end_s rfl plain_int rfl a_plain
 ·rw [if_neg he]
  have z:=k_start_no hc he
  (refine wtf ?_;repeat' (first|with_reducible refine And.intro ?_ ?_|intro hsp))
  all_goals exact end_s rfl plain_int rfl a_plain
end
end Go.Proofs.Ytphggldkligldaa
namespace Go.Pol
open Go.Am
theorem q64 {t:Nat} (h:t < 100000):IntKind.i64.wrap (((t:Nat):Int).tdiv 64)=((t / 64:Nat):Int):=quo64 (a:=(t:Nat)) (by omega) (by omega)
theorem m64 {t:Nat}:((t:Nat):Int).tmod 64=((t % 64:Nat):Int):=rem64 (a:=(t:Nat)) (by omega)
theorem plain_vb {v:Int} {b:Bool} {e:Int}:∀ x ∈ [AV.int .i64 v,.bool b,.int .i64 e],Plain x:=fun x hx=>by
 simp only [List.mem_cons,List.not_mem_nil,or_false] at hx
 rcases hx with rfl|rfl|rfl
 ·exact plain_int
 ·exact plain_bool
 ·exact plain_int
theorem kind_plain {s:Sy} {a:Int}:∀ x ∈ s.kind a,Plain x:=by unfold Sy.kind;split<;>exact plain_vb
end Go.Pol
namespace Go.Proofs.Ytphggldkligldaa
open Go Go.Am Go.Pol
theorem wtw {p q:Prop} (hq:q) (h:HidP q→p:=by (intro hQz;((repeat' ((try (conv=>whnf));first|(with_reducible first|refine run_cons ?_|refine runq_cons ?_|refine code_seq ?_|refine code_reg ?_|refine code_cond ?_|refine run_nil ?_|refine runq_nil ?_|refine rund_op rfl ?_|refine rund_nil ?_|refine code_block ?_|refine code_skip ?_|refine code_exit ?_|refine code_ret ?_|refine code_range ?_|refine rund_fast (by decide +kernel) ?_|refine rund_slow (by decide +kernel) ?_|refine br_tt ?_|refine br_ff ?_|refine br_n ?_|refine br_and ?_|refine br_or ?_|refine br_t (by assumption) ?_|refine br_f (by assumption) ?_|refine eq_i64 (by omega) ?_|refine el_tn ?_)|((with_reducible refine br_dt ?_ ?_);focus omega)|((with_reducible refine br_df ?_ ?_);focus omega)|((with_reducible apply br_dq hQz)<;>(try intro hsp hQz))|((with_reducible refine ck_x ?_ ?_);focus (first|omega|rfl|assumption|decide|(simp only [List.length_map,List.length_cons,List.length_nil];omega)))|(with_reducible first|refine eq_tn ?_|refine eq_tn1 ?_|refine eq_tn2 ?_|refine eq_m1 ?_|refine eq_m2 ?_|refine eq_zm ?_|refine eq_z ?_|refine len_map ?_|refine len_sl ?_|refine len_nils ?_|refine len_own' ?_|refine len_isl ?_|refine eq_u8 (by omega) ?_|refine eq_u16 (by omega) ?_)|refine nthK_of (by with_reducible assumption) ?_|refine nthK_of sys_made ?_|refine eq_of (by with_reducible assumption) ?_|refine set1K_of (by rw [sys_len];omega) (by with_reducible assumption) ?_|refine set1K_of (by rw [ref_len];omega) (by with_reducible assumption) ?_|(with_reducible first|refine eq_rfl ?_|refine ChkX.mk (by kernel_rfl) ?_|refine code_q rfl ?_|refine code_d (by decide +kernel) ?_|refine end_go rfl ?_)|refine cx_locS (by assumption) rfl (by omega) ?_|refine dcx_locS (by assumption) rfl rfl ?_|refine cx_pureS (by assumption) ?_|refine dcx_pureS (by assumption) ?_|refine qcx_pureS (by assumption) ?_|(refine cx_in hmix b32 rfl ?_;unfold c32)|(refine cx_in hmix b73 rfl ?_;unfold c73)|refine len_map ?_|refine len_isl ?_|refine el_of rfl rfl ?_|refine del_own ?_|refine del_own' rfl ?_|refine as_go rfl ?_|refine rd_go rfl ?_|refine rg_end rfl ?_|refine flat_ownX ?_|refine EqLX.mk ?_|((with_reducible apply br_bq hQz)<;>(try intro hsp hQz))|exact hQz.out))<;>(try (conv=>whnf))))):p:=h ⟨hq⟩
section
variable {s:Sy} {a b:Int}
theorem plain_wr {a b:Int}:∀ x ∈ [AV.int .i64 a,.int .u8 b],Plain x:=plain_2 plain_int plain_int
set_option maxHeartbeats 400000 in
theorem p_write:LocS 64 [.int .i64 a,.int .u8 b] s.a (.int .i64 (s.write a b).1) (s.write a b).2.a:=by
 refine LocS.mk (loc_x hmix b64 rfl ?_) a_plain a_plain plain_wr plain_int
 unfold c64
 unfold Sy.write
 by_cases h1:a < 0∨65536≤a
 ·rw [if_pos h1];unfold Sy.a
  (refine wtw ?_;repeat' (first|with_reducible refine And.intro ?_ ?_|intro hsp))
  all_goals first|exact end_s rfl plain_int rfl (sys_plain stA_plain)|(exfalso;omega)
 ·rw [if_neg h1]
  obtain ⟨t,rfl⟩:∃ t:Nat,a=(t:Nat):=⟨a.toNat,by omega⟩
  simp only [Int.toNat_natCast]
  have hw:=q64 (t:=t) (by omega)
  have hr:=m64 (t:=t)
  have hk:(sysB s.K s.M s.B (stA s.l s.C s.H))[1+t / 64 * 66+0]? = some (.int .i64 (s.K (t / 64))):=sys_kind (by omega)
  by_cases h2:s.K (t / 64)=2
  ·rw [if_pos h2]
   have hs:(sysB s.K s.M s.B (stA s.l s.C s.H)).set (1+t / 64 * 66+2+t % 64) (.int .u8 b)=sysB s.K s.M (updP s.B (t / 64) (updI (s.B (t / 64)) (t % 64) b)) (stA s.l s.C s.H):=sys_setByte (by omega) (by omega)
   unfold Sy.a
   (refine wtw ?_;repeat' (first|with_reducible refine And.intro ?_ ?_|intro hsp))
   all_goals first|exact end_s rfl plain_int rfl (sys_plain stA_plain)|(exfalso;omega)|trace_state
  ·rw [if_neg h2]
   unfold Sy.a
   (refine wtw ?_;repeat' (first|with_reducible refine And.intro ?_ ?_|intro hsp))
   all_goals first|exact end_s rfl plain_int rfl (sys_plain stA_plain)|(exfalso;exact absurd (by assumption) h2)|(exfalso;exact h2 (by assumption))|trace_state
theorem plain_tui {v e:Int}:Plain (.tup [.int .u8 v,.int .i64 e]):=plain_tup (plain_2 plain_int plain_int)
set_option maxHeartbeats 400000 in
theorem p_read:LocS 52 [.int .i64 a] s.a (.tup [.int .u8 (s.read a).1,.int .i64 (s.read a).2]) s.a:=by
 refine LocS.mk (loc_x hmix b52 rfl ?_) a_plain a_plain (plain_1 plain_int) plain_tui
 unfold c52
 unfold Sy.read
 by_cases h1:a < 0∨65536≤a
 ·rw [if_pos h1];unfold Sy.a
  (refine wtw ?_;repeat' (first|with_reducible refine And.intro ?_ ?_|intro hsp))
  all_goals first|exact end_s rfl plain_tui rfl (sys_plain stA_plain)|(exfalso;omega)
 ·rw [if_neg h1]
  obtain ⟨t,rfl⟩:∃ t:Nat,a=(t:Nat):=⟨a.toNat,by omega⟩
  simp only [Int.toNat_natCast]
  have hw:=q64 (t:=t) (by omega)
  have hr:=m64 (t:=t)
  have hk:(sysB s.K s.M s.B (stA s.l s.C s.H))[1+t / 64 * 66+0]? = some (.int .i64 (s.K (t / 64))):=sys_kind (by omega)
  by_cases h2:s.K (t / 64)=2
  ·rw [if_pos h2]
   have hs:(sysB s.K s.M s.B (stA s.l s.C s.H))[1+t / 64 * 66+2+t % 64]? = some (.int .u8 (s.B (t / 64) (t % 64))):=sys_byte (by omega) (by omega)
   unfold Sy.a
   (refine wtw ?_;repeat' (first|with_reducible refine And.intro ?_ ?_|intro hsp))
   all_goals first|exact end_s rfl plain_tui rfl (sys_plain stA_plain)|(exfalso;omega)|trace_state
  ·rw [if_neg h2]
   unfold Sy.a
   (refine wtw ?_;repeat' (first|with_reducible refine And.intro ?_ ?_|intro hsp))
   all_goals first|exact end_s rfl plain_tui rfl (sys_plain stA_plain)|(exfalso;exact absurd (by assumption) h2)|(exfalso;exact h2 (by assumption))|trace_state
set_option maxHeartbeats 400000 in
theorem p_kind:LocS 22 [.int .i64 a] s.a (.tup (s.kind a)) s.a:=by
 refine LocS.mk (loc_x hmix b22 rfl ?_) a_plain a_plain (plain_1 plain_int) (plain_tup kind_plain)
 unfold c22
 unfold Sy.kind
 by_cases h1:a < 0∨1024≤a
 ·rw [if_pos h1];unfold Sy.a
  (refine wtw ?_;repeat' (first|with_reducible refine And.intro ?_ ?_|intro hsp))
  all_goals first|exact end_s rfl (plain_tup plain_vb) rfl (sys_plain stA_plain)|(exfalso;omega)
 ·rw [if_neg h1]
  obtain ⟨t,rfl⟩:∃ t:Nat,a=(t:Nat):=⟨a.toNat,by omega⟩
  simp only [Int.toNat_natCast]
  have hk:(sysB s.K s.M s.B (stA s.l s.C s.H))[1+t * 66+0]? = some (.int .i64 (s.K t)):=sys_kind (by omega)
  have hh:(sysB s.K s.M s.B (stA s.l s.C s.H))[1+t * 66+1]? = some (.bool (s.M t)):=sys_huge (by omega)
  unfold Sy.a
  (refine wtw ?_;repeat' (first|with_reducible refine And.intro ?_ ?_|intro hsp))
  all_goals first|exact end_s rfl (plain_tup plain_vb) rfl (sys_plain stA_plain)|(exfalso;omega)|trace_state
end
end Go.Proofs.Ytphggldkligldaa
namespace Go.Pol
open Go.Am
def cntH (G:Nat→Bool):Nat→Nat
 | 0 => 0
 | n+1=>cntH G n+if n % 16=0∧G (n / 16)=true then 1 else 0
theorem cntH_le {G:Nat→Bool}:∀ n,cntH G n≤n
 | 0=>Nat.le_refl _
 | n+1=>by have:=cntH_le (G:=G) n;unfold cntH;split<;>omega
theorem cntH_16 {G:Nat→Bool} {g:Nat}:∀ j,j≤15→cntH G (g * 16+(j+1))=cntH G (g * 16)+if G g=true then 1 else 0
 | 0,_=>by
  show cntH G (g * 16)+(if g * 16 % 16=0∧G (g * 16 / 16)=true then 1 else 0)=_
  rw [show g * 16 / 16=g by omega]
  congr 1
  by_cases h:G g=true
  ·rw [if_pos h,if_pos ⟨by omega,h⟩]
  ·rw [if_neg h,if_neg fun hh=>h hh.2]
 | j+1,h=>by
  show cntH G (g * 16+(j+1))+(if (g * 16+(j+1)) % 16=0∧G ((g * 16+(j+1)) / 16)=true then 1 else 0)=_
  rw [cntH_16 j (by omega),if_neg (c:=(g * 16+(j+1)) % 16=0∧G ((g * 16+(j+1)) / 16)=true) fun h=>by omega];rfl
theorem cntH_G {G:Nat→Bool}:∀ g,cntH G (g * 16)=cntG G g
 | 0=>rfl
 | g+1=>by
  rw [show (g+1) * 16=g * 16+(15+1) by omega,cntH_16 15 (by omega),cntH_G g];rfl
theorem cntK_y {K:Nat→Int} {v:Int} {n:Nat} (h:K n=v):((cntK K v (n+1):Nat):Int)=(cntK K v n:Nat)+1:=by
 show ((cntK K v n+(if K n=v then 1 else 0):Nat):Int)=_;rw [if_pos h];omega
theorem cntK_n {K:Nat→Int} {v:Int} {n:Nat} (h:¬ K n=v):((cntK K v (n+1):Nat):Int)=(cntK K v n:Nat):=by
 show ((cntK K v n+(if K n=v then 1 else 0):Nat):Int)=_;rw [if_neg h];omega
theorem cntH_y {G:Nat→Bool} {n:Nat} (h:fst (n:Nat)) (h2:G (n / 16)=true):((cntH G (n+1):Nat):Int)=(cntH G n:Nat)+1:=by
 obtain ⟨g,e,_⟩:=fst_nat h
 show ((cntH G n+(if n % 16=0∧G (n / 16)=true then 1 else 0):Nat):Int)=_;rw [if_pos ⟨by omega,h2⟩];omega
theorem cntH_n {G:Nat→Bool} {n:Nat} (hn:n < 1024) (h:¬ (fst (n:Nat)∧G (n / 16)=true)):((cntH G (n+1):Nat):Int)=(cntH G n:Nat):=by
 show ((cntH G n+(if n % 16=0∧G (n / 16)=true then 1 else 0):Nat):Int)=_
 rw [if_neg fun h2=>h ⟨⟨by omega,by omega,by rw [Int.tmod_eq_emod_of_nonneg (by omega)];omega⟩,h2.2⟩];omega
theorem counts_plain {s:Sy}:∀ x ∈ s.counts,Plain x:=fun x hx=>by
 simp only [Sy.counts,List.mem_cons,List.not_mem_nil,or_false] at hx
 rcases hx with rfl|rfl|rfl|rfl|rfl<;>exact plain_int
theorem plain_cE {s:Sy} {e:Int}:Plain (.tup [.agg s.counts,.int .i64 e]):=plain_tup fun x hx=>by
 simp only [List.mem_cons,List.not_mem_nil,or_false] at hx
 rcases hx with rfl|rfl
 ·exact plain_agg counts_plain
 ·exact plain_int
theorem plain_5 {a b c d e:Int}:∀ x ∈ [AV.int .i64 a,.int .i64 b,.int .i64 c,.int .i64 d,.int .i64 e],Plain x:=fun x hx=>by
 simp only [List.mem_cons,List.not_mem_nil,or_false] at hx
 rcases hx with rfl|rfl|rfl|rfl|rfl<;>exact plain_int
theorem plain_4 {a b c d:Int}:∀ x ∈ [AV.int .i64 a,.int .i64 b,.int .i64 c,.int .i64 d],Plain x:=fun x hx=>by
 simp only [List.mem_cons,List.not_mem_nil,or_false] at hx
 rcases hx with rfl|rfl|rfl|rfl<;>exact plain_int
end Go.Pol
namespace Go.Proofs.Ytphggldkligldaa
open Go Go.Am Go.Pol
theorem ppx_Th {p:Prop} (h:p:=by ((first|with_reducible assumption|with_reducible apply rlA_plain _|with_reducible apply plain_flat rlA_plain|with_reducible apply stA_plain|with_reducible apply memT_plain|with_reducible apply sys_plain stA_plain|with_reducible apply rfk_plain stA_plain|with_reducible apply b_plain|with_reducible apply a_plain|with_reducible apply plain_5|with_reducible apply plain_4|with_reducible apply plain_map (fun _=>plain_int)|with_reducible apply plain_map (fun _=>plain_bool)|exact prx_Sd|fail);first|done|fail)):p:=h
theorem wkx_Th {p:Prop} (h:p:=by (refine weak_s (by exact oneOf_of rfl) (by exact subH_of rfl) (by intro hs;(repeat' ((try (conv=>whnf));first|with_reducible exact True.intro|with_reducible refine And.intro ?_ ?_|(with_reducible refine WkX.mk ?_;first|exact wvx_Sd|fail)))) (by intro hs;(try dsimp only);(repeat' (first|with_reducible exact wko_nil|refine wko_plain hs (by first|decide|omega|simp) rfl (by first|rfl) (by (first|exact ppx_Th|fail|((refine plain_app ?_ ?_)<;>(first|exact ppx_Th|fail)))) ?_|refine wko_cells (by first|decide|omega|simp) rfl (by repeat' (first|with_reducible exact wkl_nil|with_reducible refine wkl_cons ?_ ?_|(first|exact wvx_Sd|fail))) ?_|refine wko_loop (by first|decide|omega|simp) rfl (by ((try subst hF);(try subst hF2);exact wkl_sd (wkf_sget (by (repeat' ((try (conv=>whnf));first|with_reducible exact True.intro|with_reducible refine And.intro ?_ ?_|(with_reducible refine WkX.mk ?_;first|exact wvx_Sd|fail))))))) ?_|exact wko_nil))))):p:=h
theorem wth {p q:Prop} (hq:q) (h:HidP q→p:=by (intro hQz;((repeat' ((try (conv=>whnf));first|(with_reducible first|refine run_cons ?_|refine runq_cons ?_|refine code_seq ?_|refine code_reg ?_|refine code_cond ?_|refine run_nil ?_|refine runq_nil ?_|refine rund_op rfl ?_|refine rund_nil ?_|refine code_block ?_|refine code_skip ?_|refine code_exit ?_|refine code_ret ?_|refine code_range ?_|refine rund_fast (by decide +kernel) ?_|refine rund_slow (by decide +kernel) ?_|refine br_tt ?_|refine br_ff ?_|refine br_n ?_|refine br_and ?_|refine br_or ?_|refine br_t (by assumption) ?_|refine br_f (by assumption) ?_|refine eq_i64 (by omega) ?_|refine el_tn ?_)|((with_reducible refine br_dt ?_ ?_);focus omega)|((with_reducible refine br_df ?_ ?_);focus omega)|((with_reducible apply br_dq hQz)<;>(try intro hsp hQz))|((with_reducible refine ck_x ?_ ?_);focus (first|omega|rfl|assumption|decide|(simp only [List.length_map,List.length_cons,List.length_nil];omega)))|(with_reducible first|refine eq_tn ?_|refine eq_tn1 ?_|refine eq_tn2 ?_|refine eq_m1 ?_|refine eq_m2 ?_|refine eq_zm ?_|refine eq_z ?_|refine len_map ?_|refine len_sl ?_|refine len_nils ?_|refine len_own' ?_|refine len_isl ?_|refine eq_u8 (by omega) ?_|refine eq_u16 (by omega) ?_)|refine nthK_of (by with_reducible assumption) ?_|refine nthK_of sys_made ?_|refine eq_of (by with_reducible assumption) ?_|(with_reducible first|refine eq_rfl ?_|refine ChkX.mk (by kernel_rfl) ?_|refine code_q rfl ?_|refine code_d (by decide +kernel) ?_|refine end_go rfl ?_)|refine cx_pureS (by assumption) ?_|refine dcx_pureS (by assumption) ?_|refine qcx_pureS (by assumption) ?_|(refine cx_in hmix b32 rfl ?_;unfold c32)|refine len_map ?_|refine len_isl ?_|refine el_of rfl rfl ?_|refine del_own ?_|refine del_own' rfl ?_|refine as_go rfl ?_|refine rd_go rfl ?_|refine rg_end rfl ?_|refine flat_ownX ?_|refine EqLX.mk ?_|((with_reducible apply br_bq hQz)<;>(try intro hsp hQz))|exact hQz.out))<;>(try (conv=>whnf))))):p:=h ⟨hq⟩
section
variable {s:Sy}
set_option maxHeartbeats 800000 in
theorem p_counts (hg:GoodS s):LocS 13 [] s.a (.tup [.agg s.counts,.int .i64 0]) s.a:=by
 refine LocS.mk (loc_x hmix b13 rfl ?_) a_plain a_plain (fun x hx=>by cases hx) plain_cE
 unfold c13
 unfold Sy.a
 (refine wth ?_;repeat' (first|with_reducible refine And.intro ?_ ?_|intro hsp))
 (refine loop_x [0,2,4,5] (fun (i:Nat)=>[(16,.int .i64 (i:Nat))]) (fun (i:Nat)=>⟨[(0,.cells (sysB s.K s.M s.B (stA s.l s.C s.H))),(1,.cells [.int .i64 0,.int .i64 0,.int .i64 0,.int .i64 0,.int .i64 0]),(2,.cells [.int .i64 (cntK s.K 0 i:Nat),.int .i64 (cntK s.K 1 i:Nat),.int .i64 (cntK s.K 2 i:Nat),.int .i64 (cntK s.K 3 i:Nat),.int .i64 (cntH s.G i:Nat)]),(3,.cells [.ptr 2 0,.ptr 2 1,.ptr 2 2,.ptr 2 3])],4⟩) (fun (i:Nat)=>i≤1024) (fun (i:Nat)=>1024 - i) (0) [] rfl (fun _=>by first|exact Nat.zero_le _|(dsimp only;omega)) ?_ (by ((try (conv=>whnf));exact wkx_Th)) ?_)
 ·exact Nat.zero_le _
 rintro i hi
 have c0:=cntK_le (K:=s.K) (v:=0) i
 have c1:=cntK_le (K:=s.K) (v:=1) i
 have c2:=cntK_le (K:=s.K) (v:=2) i
 have c3:=cntK_le (K:=s.K) (v:=3) i
 have c4:=cntH_le (G:=s.G) i
 by_cases hin:i < 1024
 ·have hk:(sysB s.K s.M s.B (stA s.l s.C s.H))[1+i * 66+0]? = some (.int .i64 (s.K i)):=sys_kind (by omega)
  have hh:(sysB s.K s.M s.B (stA s.l s.C s.H))[1+i * 66+1]? = some (.bool (s.M i)):=sys_huge (by omega)
  have z:=k_first (i:Nat)
  have hkk:=hg.kind i
  have e4:∃ d:Int,((cntH s.G (i+1):Nat):Int)=d∧((s.M i=true∧fst (i:Nat))→d=(cntH s.G i:Nat)+1)∧(¬ (s.M i=true∧fst (i:Nat))→d=(cntH s.G i:Nat)) :=
   ⟨_,rfl,fun h=>cntH_y h.2 h.1,fun h=>cntH_n (by omega) fun h2=>h ⟨h2.2,h2.1⟩⟩
  obtain ⟨d,e4,e5,e6⟩:=e4
  have key:s.K i=0∨s.K i=1∨s.K i=2∨s.K i=3:=by omega
  cases hm:s.M i with
  | false =>
   have e6:=e6 (by rw [hm];simp)
   rw [hm] at hh
   rcases key with h|h|h|h
   ·rw [h] at hk
    (refine wth ?_;repeat' (first|with_reducible refine And.intro ?_ ?_|intro hsp))
    all_goals exact next_x (i+1) [] (by (try dsimp only);omega) (by first|omega|(dsimp only;omega)) rfl (by ((try dsimp only);rw [e4,e6,cntK_y h,cntK_n (v:=1) (by omega),cntK_n (v:=2) (by omega),cntK_n (v:=3) (by omega)]);exact wkx_Th)
   ·rw [h] at hk
    (refine wth ?_;repeat' (first|with_reducible refine And.intro ?_ ?_|intro hsp))
    all_goals exact next_x (i+1) [] (by (try dsimp only);omega) (by first|omega|(dsimp only;omega)) rfl (by ((try dsimp only);rw [e4,e6,cntK_y h,cntK_n (v:=0) (by omega),cntK_n (v:=2) (by omega),cntK_n (v:=3) (by omega)]);exact wkx_Th)
   ·rw [h] at hk
    (refine wth ?_;repeat' (first|with_reducible refine And.intro ?_ ?_|intro hsp))
    all_goals exact next_x (i+1) [] (by (try dsimp only);omega) (by first|omega|(dsimp only;omega)) rfl (by ((try dsimp only);rw [e4,e6,cntK_y h,cntK_n (v:=1) (by omega),cntK_n (v:=0) (by omega),cntK_n (v:=3) (by omega)]);exact wkx_Th)
   ·rw [h] at hk
    (refine wth ?_;repeat' (first|with_reducible refine And.intro ?_ ?_|intro hsp))
    all_goals exact next_x (i+1) [] (by (try dsimp only);omega) (by first|omega|(dsimp only;omega)) rfl (by ((try dsimp only);rw [e4,e6,cntK_y h,cntK_n (v:=1) (by omega),cntK_n (v:=2) (by omega),cntK_n (v:=0) (by omega)]);exact wkx_Th)
  | true =>
   rw [hm] at hh
   have h:=hg.huge i hm
   rw [h] at hk
   by_cases hf:fst (i:Nat)
   ·have e5:=e5 ⟨hm,hf⟩
    rw [decide_eq_true hf] at z
    (refine wth ?_;repeat' (first|with_reducible refine And.intro ?_ ?_|intro hsp))
    all_goals exact next_x (i+1) [] (by (try dsimp only);omega) (by first|omega|(dsimp only;omega)) rfl (by ((try dsimp only);rw [e4,e5,cntK_y h,cntK_n (v:=1) (by omega),cntK_n (v:=0) (by omega),cntK_n (v:=3) (by omega)]);exact wkx_Th)
   ·have e6:=e6 fun h=>hf h.2
    rw [decide_eq_false hf] at z
    (refine wth ?_;repeat' (first|with_reducible refine And.intro ?_ ?_|intro hsp))
    all_goals exact next_x (i+1) [] (by (try dsimp only);omega) (by first|omega|(dsimp only;omega)) rfl (by ((try dsimp only);rw [e4,e6,cntK_y h,cntK_n (v:=1) (by omega),cntK_n (v:=0) (by omega),cntK_n (v:=3) (by omega)]);exact wkx_Th)
 ·obtain rfl:i=1024:=by omega
  have e:=cntH_G (G:=s.G) 64
  have e':cntH s.G 1024=cntG s.G 64:=e
  rw [e']
  (refine wth ?_;repeat' (first|with_reducible refine And.intro ?_ ?_|intro hsp))
  all_goals exact end_s rfl plain_cE rfl (sys_plain stA_plain)
end
end Go.Proofs.Ytphggldkligldaa
