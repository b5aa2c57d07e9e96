/-
 Saved states,plain: runs,huge pages,data of a state.
 Loading of states,plain: what is saved is loaded;what is loaded is saved.
 The document's system: page,kinds,set,change and the calls,Join,Split.
 The document's system: change and the calls,Join,Split over the plain state.
 The document's system: Join,Split,bytes,kinds,counts,plans over the plain state.
 New,Plan,Write,Read,Kind of both systems over the plain state.
 Write,Read,Kind of both systems over the plain state.
 Counts of both systems.
 Calls with a nil plan;acts.
-/
import Derived.Test.YtphggldkligldaaGreatVmB
set_option linter.unusedSimpArgs false
set_option linter.unusedVariables false
set_option maxHeartbeats 1600000
namespace Go.Pol
open Go.Am
structure Rn where
 p:Int
 n:Int
 k:Int
def rnA (r:Rn):List AV:=[.int .i64 r.p,.int .i64 r.n,.int .i64 r.k]
theorem rnA_plain (r:Rn):∀ x ∈ rnA r,Plain x:=fun x hx=>by
 simp only [rnA,List.mem_cons,List.not_mem_nil,or_false] at hx
 rcases hx with rfl|rfl|rfl<;>exact A8
@[irreducible] def byA (b:Nat→Int):List AV:=(List.range 64).map fun j=>.int .u8 (b j)
@[simp] theorem by_len (b:Nat→Int):(byA b).length=64:=by unfold byA;simp
theorem byA_plain (b:Nat→Int):∀ x ∈ byA b,Plain x:=fun x hx=>by
 unfold byA at hx
 obtain ⟨i,_,rfl⟩:=List.mem_map.1 hx
 exact A8
structure Dt where
 p:Int
 b:Nat→Int
def dtA (d:Dt):List AV:=.int .i64 d.p::byA d.b
theorem dtA_plain (d:Dt):∀ x ∈ dtA d,Plain x:=fun x hx=>by
 rcases List.mem_cons.1 hx with rfl|hx
 ·exact A8
 ·exact byA_plain _ x hx
def inA (u:Int):List AV:=[.int .i64 u]
theorem inA_plain (u:Int):∀ x ∈ inA u,Plain x:=fun x hx=>by
 obtain rfl:=List.mem_singleton.1 hx;exact A8
def zeroB (f:Nat→Int):Prop:=∀ j,j < 64→f j=0
instance (f:Nat→Int):Decidable (zeroB f):=by unfold zeroB;infer_instance
section
variable {K:Nat→Int} {G:Nat→Bool} {B:Nat→Nat→Int} {n p j:Nat}
end
structure Vs where
 R:List Rn
 U:List Int
 D:List Dt
 l:List Rl
 C:Nat→Int
 H:Nat→Int
def vsA (x:Vs):List AV:=.isl (x.R.map rnA) :: .isl (x.U.map inA) :: .isl (x.D.map dtA)::stA x.l x.C x.H
theorem AY4 {α:Type} {f:α→List AV} {L:List α} (h:∀ a,∀ x ∈ f a,Plain x):Plain (.isl (L.map f)):=o8 fun e he=>by
 obtain ⟨b,_,rfl⟩:=List.mem_map.1 he
 exact h b
theorem vsA_plain (x:Vs):∀ y ∈ vsA x,Plain y:=fun y hy=>by
 rcases List.mem_cons.1 hy with rfl|hy
 ·exact AY4 rnA_plain
 rcases List.mem_cons.1 hy with rfl|hy
 ·exact AY4 inA_plain
 rcases List.mem_cons.1 hy with rfl|hy
 ·exact AY4 dtA_plain
 ·exact F4 y hy
theorem Y1 {x:Vs}:Plain (.agg (vsA x)):=K8 (vsA_plain x)
end Go.Pol
namespace Go.Pol
open Go.Am
section fold
variable {σ α:Type} {f:σ→α→Option σ}
def fo (f:σ→α→Option σ):List α→σ→Option σ
 | [],s=>some s
 | a::l,s=>match f s a with|none=>none|some s'=>fo f l s'
end fold
structure Sr where
 nx:Int
 la:Int
 K:Nat→Int
def badRn (s:Sr) (r:Rn):Prop:=r.p < s.nx∨r.n < 1∨1024 - r.p < r.n∨r.k < 1∨3 < r.k∨(r.p=s.nx∧r.k=s.la)
instance (s:Sr) (r:Rn):Decidable (badRn s r):=by unfold badRn;infer_instance
structure Sd where
 lo:Int
 B:Nat→Nat→Int
def r0:Sr:=⟨0,0,fun _=>0⟩
def d0:Sd:=⟨-1,fun _ _=>0⟩
section
variable {K K':Nat→Int} {n:Nat}
end
def badL (r:Rn):Prop:=r.p < 0∨1024≤r.p∨r.n < 1∨1024 - r.p < r.n∨r.k < 1∨3 < r.k
instance (r:Rn):Decidable (badL r):=by unfold badL;infer_instance
end Go.Pol
namespace Go.Pol
open Go.Am
def okV (K:Nat→Int) (a n:Nat) (v:Int):Prop:=∀ i,i < n→K (a+i)=v
instance (K:Nat→Int) (a n:Nat) (v:Int):Decidable (okV K a n v):=by unfold okV;infer_instance
end Go.Pol
namespace Go.Proofs.YtphggldkligldaaGreat
open Go Go.Am Go.Pol
open Go.Proofs.YtphggldkligldaaGreat renaming plx_Sd → plx
open Go.Proofs.YtphggldkligldaaGreat renaming ppx_Sd → ppx
theorem wx_Tc {p q:Prop} (hq:q) (h:X5 q→p:=by (intro hQz;((repeat' ((try (conv=>whnf));first|refine sxA ?_|refine sxF ?_|refine sxH ?_|((with_reducible first|apply N9 hQz|apply O1 hQz)<;>(try intro hsp hQz))|exact hQz.out))<;>(try (conv=>whnf))))):p:=h ⟨hq⟩
section
variable {K:Nat→Int} {M G:Nat→Bool} {B:Nat→Nat→Int} {P:List AV}
end
end Go.Proofs.YtphggldkligldaaGreat
namespace Go.Pol
open Go.Am
end Go.Pol
namespace Go.Proofs.YtphggldkligldaaGreat
open Go Go.Am Go.Pol
open Go.Proofs.YtphggldkligldaaGreat renaming plx_Sd → plx
open Go.Proofs.YtphggldkligldaaGreat renaming ppx_Sd → ppx
section
variable {s:Sy} {a n:Int}
theorem Aj1:∀ x ∈ s.b,Plain x:=by unfold Sy.b;exact AU2 F4
theorem G8:∀ x ∈ s.a,Plain x:=by unfold Sy.a;exact G9 F4
end
end Go.Proofs.YtphggldkligldaaGreat
namespace Go.Pol
open Go.Am
def Sy.write (s:Sy) (a b:Int):Int × Sy :=
 if a < 0∨65536≤a then (7,s) else if s.K (a.toNat / 64)=2 then (0,{ s with B:=AL2 s.B (a.toNat / 64) (J9 (s.B (a.toNat / 64)) (a.toNat % 64) b) }) else (61,s)
def Sy.read (s:Sy) (a:Int):Int × Int :=
 if a < 0∨65536≤a then (0,7) else if s.K (a.toNat / 64)=2 then (s.B (a.toNat / 64) (a.toNat % 64),0) else (0,61)
def Sy.kind (s:Sy) (a:Int):List AV :=
 if a < 0∨1024≤a then [.int .i64 0,.bool false,.int .i64 7] else [.int .i64 (s.K a.toNat),.bool (s.M a.toNat),.int .i64 0]
def Sy.new (l:List Rl):Sy:=⟨fun _=>0,fun _=>false,fun _ _=>0,l,fun _=>0,fun _=>0⟩
def Sy.plan (s:Sy) (l:List Rl):Int × Sy:=if (AJ8 l).2=0 then (0,{ s with l:=l,C:=fun _=>0,H:=fun _=>0 }) else ((AJ8 l).2,s)
theorem BQ8 {l:List Rl} (h:(AJ8 l).2=0):BD7 l (fun _=>0) (fun _=>0)=0:=by
 unfold BD7
 rw [if_neg (by rw [h];simp),if_pos]
 intro k hk
 exact ⟨Int.le_refl _,by show (0:Int)≤1000000;decide,rfl⟩
theorem Ar7 {l:List Rl} (h:(AJ8 l).2=0):GoodS (Sy.new l):=⟨BQ8 h,fun _=>⟨Int.le_refl _,(by show (0:Int)≤3;decide)⟩,fun p hp=>(by cases hp),fun _ _=>rfl,fun _ _=>rfl,fun _ _ _=>rfl⟩
theorem good_plan {s:Sy} {l:List Rl} (h:GoodS s):GoodS (s.plan l).2:=by
 unfold Sy.plan
 split
 ·exact ⟨BQ8 (by assumption),h.kind,h.huge,h.zero,h.cK,h.cB⟩
 ·exact h
theorem BV7 {s:Sy} {a b:Int} (h:GoodS s):GoodS (s.write a b).2:=by
 unfold Sy.write
 split
 ·exact h
 ·split
  ·rename_i hk
   refine ⟨h.hv,h.kind,h.huge,fun p hp=>?_,h.cK,fun p j hj=>?_⟩
   ·show AL2 s.B _ _ p=_
    unfold AL2
    rw [if_neg fun e=>hp (by rw [e];exact hk)]
    exact h.zero p hp
   ·show AL2 s.B _ _ p j=0
    unfold AL2
    split
    ·unfold J9;rw [if_neg (by omega)];exact h.cB _ _ hj
    ·exact h.cB _ _ hj
  ·exact h
def AL4 (K:Nat→Int) (v:Int):Nat→Nat
 | 0 => 0
 | n+1=>AL4 K v n+if K n=v then 1 else 0
def cntG (G:Nat→Bool):Nat→Nat
 | 0 => 0
 | n+1=>cntG G n+if G n=true then 1 else 0
theorem Ai4 {K:Nat→Int} {v:Int}:∀ n,AL4 K v n≤n
 | 0=>Nat.le_refl _
 | n+1=>by have:=Ai4 (K:=K) (v:=v) n;unfold AL4;split<;>omega
def Sy.counts (s:Sy):List AV:=[.int .i64 (AL4 s.K 0 1024:Nat),.int .i64 (AL4 s.K 1 1024:Nat),.int .i64 (AL4 s.K 2 1024:Nat),.int .i64 (AL4 s.K 3 1024:Nat),.int .i64 (cntG s.G 64:Nat)]
theorem quo64 {a:Int} (h:0≤a) (h2:a < 100000):IntKind.i64.wrap (a.tdiv 64)=((a.toNat / 64:Nat):Int):=by
 rw [Int.tdiv_eq_ediv_of_nonneg h,IntWalk.i64_in _ ⟨by omega,by omega⟩];omega
theorem rem64 {a:Int} (h:0≤a):a.tmod 64=((a.toNat % 64:Nat):Int):=by
 rw [Int.tmod_eq_emod_of_nonneg h];omega
end Go.Pol
namespace Go.Proofs.YtphggldkligldaaGreat
open Go Go.Am Go.Pol
section
variable {s:Sy} {a:Int}
end
end Go.Proofs.YtphggldkligldaaGreat
namespace Go.Pol
open Go.Am
theorem rep_get {z:List AV} (hz:0 < z.length):∀ {n i:Nat},i < n * z.length→((List.replicate n z).flatten)[i]? = z[i % z.length]?
 | 0,i,h=>by omega
 | n+1,i,h=>by
  rw [List.replicate_succ,List.flatten_cons]
  by_cases hi:i < z.length
  ·rw [List.getElem?_append_left hi,Nat.mod_eq_of_lt hi]
  ·rw [List.getElem?_append_right (by omega),rep_get hz (by rw [Nat.succ_mul] at h;omega)]
   congr 1
   conv=>rhs;rw [show i=(i - z.length)+z.length by omega,Nat.add_mod_right]
theorem Ap6 {z:List AV} {n:Nat}:((List.replicate n z).flatten).length=n * z.length:=by simp
def zP:List AV:=.nils::List.replicate 14 (.int .i64 0)
theorem zP_len:zP.length=15:=rfl
theorem zP_get {m:Nat} (h:m < 15):zP[m]? = some (zP[m]?.getD .undef):=by
 rw [List.getElem?_eq_getElem (by rw [zP_len];exact h)];rfl
theorem Ag0:pg0.length=66:=rfl
theorem pg0_get {j:Nat} (h:j < 66):pg0[j]? = some (Ak5 (fun _=>0) (fun _=>false) (fun _ _=>0) 0 j):=by
 unfold Ak5 pg0
 match j with
 | 0=>rfl
 | 1=>rfl
 | j+2=>rw [if_neg (by omega),if_neg (by omega),List.getElem?_cons_succ,List.getElem?_cons_succ,List.getElem?_replicate,if_pos (by omega)]
theorem BL7:sysZ.length=67600:=by unfold sysZ;rw [List.length_cons,List.length_append,Ap6];rfl
theorem sysZ_0:sysZ.set 0 (.bool true)=sysB (fun _=>0) (fun _=>false) (fun _ _=>0) zP:=by
 refine List.ext_getElem? fun i=>?_
 by_cases hi:i < 67600
 ·unfold sysB
  rw [Q5 hi]
  unfold sysZ sysF
  rw [List.set_cons_zero]
  by_cases h0:i=0
  ·rw [if_pos h0,h0];rfl
  ·rw [if_neg h0]
   obtain ⟨k,rfl⟩:∃ k,i=k+1:=⟨i - 1,by omega⟩
   rw [List.getElem?_cons_succ]
   by_cases h1:k+1 < 67585
   ·rw [if_pos h1,List.getElem?_append_left (by rw [Ap6,Ag0];omega),rep_get (by decide) (by rw [Ag0];omega),Ag0,pg0_get (by omega)]
    rw [Nat.add_sub_cancel];rfl
   ·rw [if_neg h1,List.getElem?_append_right (by rw [Ap6,Ag0];omega),Ap6,Ag0,show k - 1024 * 66=k+1 - 67585 by omega]
    have hm:k+1 - 67585 < 15:=by omega
    generalize k+1 - 67585=m at *
    exact zP_get hm
 ·rw [List.getElem?_eq_none (by rw [List.length_set,BL7];omega),List.getElem?_eq_none (by rw [AR6];omega)]
theorem new_a {l:List Rl} {o:Nat} {z:List AV} (hz:z=sysZ) (h:o=67585):over (z.set 0 (.bool true)) o (stA l (fun _=>0) fun _=>0)=(Sy.new l).a:=by
 rw [hz,sysZ_0,AL7 h rfl];unfold Sy.a;rfl
theorem plan_a {s:Sy} {l:List Rl} {o:Nat} (h:o=67585):over s.a o (stA l (fun _=>0) fun _=>0)=(Sy.mk s.K s.G s.B l (fun _=>0) fun _=>0).a:=by
 unfold Sy.a;exact AL7 h rfl
theorem a_len {s:Sy}:s.a.length=67600:=by unfold Sy.a;exact AR6
theorem a_made {s:Sy}:s.a[0]? = some (.bool true):=by unfold Sy.a;exact AO3
theorem sysZ_lenE {z:List AV} (hz:z=sysZ):z.length=67600:=by rw [hz,BL7]
end Go.Pol
namespace Go.Proofs.YtphggldkligldaaGreat
open Go Go.Am Go.Pol
theorem AJ4:∀ {l:List (Nat × AObj)} {k:List (Nat × AObj)→Prop},k l→AG1 [] l k
 | [],_,h=>h
 | a::l,k,h=>AJ4 (l:=l) (k:=fun r=>k (a::r)) h
structure LocN (f:Nat) (avs:List AV) (e:Int) (ds:List AV):Prop where
 out:AQ1 Tryz.prog G0 f avs [] 0 fun x h=>x = .tup [.ptr 0 0,.int .i64 e]∧h=⟨[(0,.cells ds)],1⟩
 pd:∀ x ∈ ds,Plain x
 pa:∀ x ∈ avs,Plain x
theorem end_new {top:Bool} {h:Hp} {x:AV} {i:Nat} {cs ds:List AV} {e:Int} (hx:x = .tup [.ptr i 0,.int .i64 e]) (hc:cs=ds) (h0:lk h.l i=some (.cells cs)) (pd:∀ x ∈ ds,Plain x):AR3 top Tryz.prog 0 h x (fun r' h'=>r' = .tup [.ptr 0 0,.int .i64 e]∧h'=⟨[(0,.cells ds)],1⟩):=by
 subst hx;subst hc
 have e0:rn [(0,i)] 0=i:=rfl
 have hs:AI3 (rn [(0,i)]) h ⟨[(0,.cells cs)],1⟩:=fun j o hj=>by
  simp only [lk] at hj
  split at hj
  ·rename_i e;subst e;exact ⟨_,h0⟩
  ·cases hj
 exact j6 [(0,i)] rfl (Nat.zero_le _) (L6 rfl) (AI5 (D5 (X9 e0 (show 0 < 1 by decide)) (D5 (L8 rfl) J4))) (E8 hs (show 0 < 1 by decide) (by rw [e0];exact h0) rfl pd J6) ⟨rfl,rfl⟩
theorem cx_locN {f nx:Nat} {avs:List AV} {e:Int} {ds:List AV} {l:List (Nat × AObj)} {K:AV→Hp→Prop} (hc:LocN f avs e ds) (hk:K (.tup [.ptr nx 0,.int .i64 e]) ⟨(nx,.cells ds)::l,nx+1⟩):AB8 Tryz.prog G0 (.fn f [] []) avs ⟨l,nx⟩ K:=by
 have k0:back [] nx 0 nx:=rfl
 refine AA9 (r':=.tup [.ptr nx 0,.int .i64 e]) (l1:=[(nx,.cells ds)]) [] hc.out I7 rfl .nil (by simpa using C8 hc.pa) (by simp) (Aw5 ⟨H8 k0,D6 A8,trivial⟩)
  (.cons k0 (C8 hc.pd) .nil) (AJ4 hk)
theorem wtf {p q:Prop} (hq:q) (h:X5 q→p:=by (intro hQz;((repeat' ((try (conv=>whnf));first|(with_reducible first|refine R3 ?_|refine M6 ?_|refine R9 ?_|refine T9 ?_|refine N8 ?_|refine Y6 ?_|refine Q8 ?_|refine Y5 rfl ?_|refine Q9 ?_|refine K4 ?_|refine M9 ?_|refine N7 ?_|refine S9 ?_|refine K3 ?_|refine M7 (by decide +kernel) ?_|refine L9 (by decide +kernel) ?_|refine AL0 ?_|refine AL1 ?_|refine BC4 ?_|refine AC9 ?_|refine AO0 ?_|refine At9 (by assumption) ?_|refine Au0 (by assumption) ?_|refine AC8 (by omega) ?_|refine AN8 ?_)|((with_reducible refine AO1 ?_ ?_);focus omega)|((with_reducible refine AO2 ?_ ?_);focus omega)|((with_reducible apply N9 hQz)<;>(try intro hsp hQz))|((with_reducible refine BC0 ?_ ?_);focus (first|omega|rfl|assumption|decide|(simp only [List.length_map,List.length_cons,List.length_nil];omega)))|(with_reducible first|refine AN5 ?_|refine AC6 ?_|refine AC5 ?_|refine AN7 ?_|refine AN6 ?_|refine AN3 ?_|refine BA7 ?_|refine K6 ?_|refine AC2 ?_|refine R7 ?_|refine R6 ?_|refine K7 ?_|refine AN4 (by omega) ?_|refine AC4 (by omega) ?_)|refine G5 (by with_reducible assumption) ?_|refine G5 a_made ?_|refine AC7 (by with_reducible assumption) ?_|refine AP0 (by first|(simp only [List.length_cons,List.length_nil,List.length_set];omega)|fail) (by with_reducible assumption) ?_|(with_reducible first|refine AH4 ?_|refine BD8.mk (by kernel_rfl) ?_|refine AJ6 rfl ?_|refine AH6 (by decide +kernel) ?_|refine AH5 rfl ?_)|refine X6 (by assumption) rfl (by omega) ?_|refine Ae1 (by assumption) rfl rfl ?_|refine O5 (by assumption) ?_|refine Y9 (by assumption) ?_|refine Y7 (by assumption) ?_|(refine X4 E9 b82 rfl ?_;unfold c82)|refine K6 ?_|refine K7 ?_|refine Aa0 rfl rfl ?_|refine AB5 ?_|refine Z8 rfl ?_|refine Aa6 rfl ?_|refine AY0 rfl ?_|refine AI8 rfl ?_|refine U9 ?_|refine BK8.mk ?_|((with_reducible apply O1 hQz)<;>(try intro hsp hQz))|exact hQz.out))<;>(try (conv=>whnf))))):p:=h ⟨hq⟩
section
variable {s:Sy} {l:List Rl} {i e:Int}
theorem p_new_no (hc:AJ8 l=(i,e)) (he:e ≠ 0):M5 40 [.agg [.isl (l.map rlA)]] (.tup [.nilp,.int .i64 e]):=by
 have z:=Am8 hc he
 refine M5.mk (V7 E9 b40 I7 ⟨V9,trivial⟩ (G7 (AM2 Z5 A8)) rfl ?_)
 unfold c40
 (refine wtf ?_;repeat' (first|with_reducible refine And.intro ?_ ?_|intro hsp))
 all_goals exact O8 rfl (G7 (AM2 Z5 A8))
theorem p_new (hc:AJ8 l=(i,0)):LocN 40 [.agg [.isl (l.map rlA)]] 0 (Sy.new l).a:=by
 have z:=k_start hc (by have:=(BC1 hc).2;omega)
 refine LocN.mk (D9 E9 b40 rfl ?_) G8 (Y8 V9)
 unfold c40
 obtain ⟨o,ho⟩:∃ o,o=67585:=⟨_,rfl⟩
 obtain ⟨y,hy⟩:∃ y,y=sysZ:=⟨_,rfl⟩
 rw [← ho,← hy]
 have hl:=sysZ_lenE hy
 have hov:=new_a (l:=l) hy ho
 unfold stA at hov
 (refine wtf ?_;repeat' (first|with_reducible refine And.intro ?_ ?_|intro hsp))
 rw [show Nat.ble (0+1) y.length=true from Nat.ble_eq_true_of_le (by omega)]
 (refine wtf ?_;repeat' (first|with_reducible refine And.intro ?_ ?_|intro hsp))
 refine D7 (by omega) rfl ?_
 (refine wtf ?_;repeat' (first|with_reducible refine And.intro ?_ ?_|intro hsp))
 rw [show Nat.ble (o+15) (y.set 0 (.bool true)).length=true from Nat.ble_eq_true_of_le (by rw [List.length_set];omega)]
 (refine wtf ?_;repeat' (first|with_reducible refine And.intro ?_ ?_|intro hsp))
 all_goals exact end_new rfl rfl rfl G8
theorem p_plan (s:Sy) (l:List Rl):AT1 50 [.agg [.isl (l.map rlA)]] s.a (.int .i64 (s.plan l).1) (s.plan l).2.a:=by
 refine AT1.mk (D9 E9 b50 rfl ?_) G8 G8 (Y8 V9) A8
 unfold c50
 obtain ⟨o,ho⟩:∃ o,o=67585:=⟨_,rfl⟩
 rw [← ho]
 have hc:AJ8 l=((AJ8 l).1,(AJ8 l).2):=rfl
 unfold Sy.plan
 by_cases he:(AJ8 l).2=0
 ·rw [if_pos he]
  rw [he] at hc
  have z:=k_start hc (by have:=(BC1 hc).2;omega)
  have hl:=a_len (s:=s)
  have hov:=plan_a (s:=s) (l:=l) ho
  unfold stA at hov
  (refine wtf ?_;repeat' (first|with_reducible refine And.intro ?_ ?_|intro hsp))
  all_goals exact AG9 rfl A8 rfl G8
 ·rw [if_neg he]
  have z:=Am8 hc he
  (refine wtf ?_;repeat' (first|with_reducible refine And.intro ?_ ?_|intro hsp))
  all_goals exact AG9 rfl A8 rfl G8
end
end Go.Proofs.YtphggldkligldaaGreat
namespace Go.Pol
open Go.Am
theorem q64 {t:Nat} (h:t < 100000):IntKind.i64.wrap (((t:Nat):Int).tdiv 64)=((t / 64:Nat):Int):=quo64 (a:=(t:Nat)) (by omega) (by omega)
theorem m64 {t:Nat}:((t:Nat):Int).tmod 64=((t % 64:Nat):Int):=rem64 (a:=(t:Nat)) (by omega)
theorem Aq2 {v:Int} {b:Bool} {e:Int}:∀ x ∈ [AV.int .i64 v,.bool b,.int .i64 e],Plain x:=fun x hx=>by
 simp only [List.mem_cons,List.not_mem_nil,or_false] at hx
 rcases hx with rfl|rfl|rfl
 ·exact A8
 ·exact A9
 ·exact A8
theorem BV4 {s:Sy} {a:Int}:∀ x ∈ s.kind a,Plain x:=by unfold Sy.kind;split<;>exact Aq2
end Go.Pol
namespace Go.Proofs.YtphggldkligldaaGreat
open Go Go.Am Go.Pol
theorem wtw {p q:Prop} (hq:q) (h:X5 q→p:=by (intro hQz;((repeat' ((try (conv=>whnf));first|(with_reducible first|refine R3 ?_|refine M6 ?_|refine R9 ?_|refine T9 ?_|refine N8 ?_|refine Y6 ?_|refine Q8 ?_|refine Y5 rfl ?_|refine Q9 ?_|refine K4 ?_|refine M9 ?_|refine N7 ?_|refine S9 ?_|refine K3 ?_|refine M7 (by decide +kernel) ?_|refine L9 (by decide +kernel) ?_|refine AL0 ?_|refine AL1 ?_|refine BC4 ?_|refine AC9 ?_|refine AO0 ?_|refine At9 (by assumption) ?_|refine Au0 (by assumption) ?_|refine AC8 (by omega) ?_|refine AN8 ?_)|((with_reducible refine AO1 ?_ ?_);focus omega)|((with_reducible refine AO2 ?_ ?_);focus omega)|((with_reducible apply N9 hQz)<;>(try intro hsp hQz))|((with_reducible refine BC0 ?_ ?_);focus (first|omega|rfl|assumption|decide|(simp only [List.length_map,List.length_cons,List.length_nil];omega)))|(with_reducible first|refine AN5 ?_|refine AC6 ?_|refine AC5 ?_|refine AN7 ?_|refine AN6 ?_|refine AN3 ?_|refine BA7 ?_|refine K6 ?_|refine AC2 ?_|refine R7 ?_|refine R6 ?_|refine K7 ?_|refine AN4 (by omega) ?_|refine AC4 (by omega) ?_)|refine G5 (by with_reducible assumption) ?_|refine G5 AO3 ?_|refine AC7 (by with_reducible assumption) ?_|refine D7 (by rw [AR6];omega) (by with_reducible assumption) ?_|refine D7 (by rw [Ap8];omega) (by with_reducible assumption) ?_|(with_reducible first|refine AH4 ?_|refine BD8.mk (by kernel_rfl) ?_|refine AJ6 rfl ?_|refine AH6 (by decide +kernel) ?_|refine AH5 rfl ?_)|refine X6 (by assumption) rfl (by omega) ?_|refine Ae1 (by assumption) rfl rfl ?_|refine O5 (by assumption) ?_|refine Y9 (by assumption) ?_|refine Y7 (by assumption) ?_|(refine X4 E9 b82 rfl ?_;unfold c82)|(refine X4 E9 b160 rfl ?_;unfold c160)|(refine X4 E9 b126 rfl ?_;unfold c126)|refine K6 ?_|refine K7 ?_|refine Aa0 rfl rfl ?_|refine AB5 ?_|refine Z8 rfl ?_|refine Aa6 rfl ?_|refine AY0 rfl ?_|refine AI8 rfl ?_|refine U9 ?_|refine BK8.mk ?_|((with_reducible apply O1 hQz)<;>(try intro hsp hQz))|exact hQz.out))<;>(try (conv=>whnf))))):p:=h ⟨hq⟩
section
variable {s:Sy} {a b:Int}
theorem plain_wr {a b:Int}:∀ x ∈ [AV.int .i64 a,.int .u8 b],Plain x:=AM2 A8 A8
theorem BG2:AT1 114 [.int .i64 a,.int .u8 b] s.a (.int .i64 (s.write a b).1) (s.write a b).2.a:=by
 refine AT1.mk (D9 E9 b114 rfl ?_) G8 G8 plain_wr A8
 unfold c114
 unfold Sy.write
 by_cases h1:a < 0∨65536≤a
 ·rw [if_pos h1];unfold Sy.a
  (refine wtw ?_;repeat' (first|with_reducible refine And.intro ?_ ?_|intro hsp))
  all_goals first|exact AG9 rfl A8 rfl (G9 F4)|(exfalso;omega)
 ·rw [if_neg h1]
  obtain ⟨t,rfl⟩:∃ t:Nat,a=(t:Nat):=⟨a.toNat,by omega⟩
  simp only [Int.toNat_natCast]
  have hw:=q64 (t:=t) (by omega)
  have hr:=m64 (t:=t)
  have hk:(sysB s.K s.M s.B (stA s.l s.C s.H))[1+t / 64 * 66+0]? = some (.int .i64 (s.K (t / 64))):=AT5 (by omega)
  by_cases h2:s.K (t / 64)=2
  ·rw [if_pos h2]
   have hs:(sysB s.K s.M s.B (stA s.l s.C s.H)).set (1+t / 64 * 66+2+t % 64) (.int .u8 b)=sysB s.K s.M (AL2 s.B (t / 64) (J9 (s.B (t / 64)) (t % 64) b)) (stA s.l s.C s.H):=BE6 (by omega) (by omega)
   unfold Sy.a
   (refine wtw ?_;repeat' (first|with_reducible refine And.intro ?_ ?_|intro hsp))
   all_goals first|exact AG9 rfl A8 rfl (G9 F4)|(exfalso;omega)|trace_state
  ·rw [if_neg h2]
   unfold Sy.a
   (refine wtw ?_;repeat' (first|with_reducible refine And.intro ?_ ?_|intro hsp))
   all_goals first|exact AG9 rfl A8 rfl (G9 F4)|(exfalso;exact absurd (by assumption) h2)|(exfalso;exact h2 (by assumption))|trace_state
theorem o7 {v e:Int}:Plain (.tup [.int .u8 v,.int .i64 e]):=G7 (AM2 A8 A8)
theorem p_read:AT1 118 [.int .i64 a] s.a (.tup [.int .u8 (s.read a).1,.int .i64 (s.read a).2]) s.a:=by
 refine AT1.mk (D9 E9 b118 rfl ?_) G8 G8 (Y8 A8) o7
 unfold c118
 unfold Sy.read
 by_cases h1:a < 0∨65536≤a
 ·rw [if_pos h1];unfold Sy.a
  (refine wtw ?_;repeat' (first|with_reducible refine And.intro ?_ ?_|intro hsp))
  all_goals first|exact AG9 rfl o7 rfl (G9 F4)|(exfalso;omega)
 ·rw [if_neg h1]
  obtain ⟨t,rfl⟩:∃ t:Nat,a=(t:Nat):=⟨a.toNat,by omega⟩
  simp only [Int.toNat_natCast]
  have hw:=q64 (t:=t) (by omega)
  have hr:=m64 (t:=t)
  have hk:(sysB s.K s.M s.B (stA s.l s.C s.H))[1+t / 64 * 66+0]? = some (.int .i64 (s.K (t / 64))):=AT5 (by omega)
  by_cases h2:s.K (t / 64)=2
  ·rw [if_pos h2]
   have hs:(sysB s.K s.M s.B (stA s.l s.C s.H))[1+t / 64 * 66+2+t % 64]? = some (.int .u8 (s.B (t / 64) (t % 64))):=sys_byte (by omega) (by omega)
   unfold Sy.a
   (refine wtw ?_;repeat' (first|with_reducible refine And.intro ?_ ?_|intro hsp))
   all_goals first|exact AG9 rfl o7 rfl (G9 F4)|(exfalso;omega)|trace_state
  ·rw [if_neg h2]
   unfold Sy.a
   (refine wtw ?_;repeat' (first|with_reducible refine And.intro ?_ ?_|intro hsp))
   all_goals first|exact AG9 rfl o7 rfl (G9 F4)|(exfalso;exact absurd (by assumption) h2)|(exfalso;exact h2 (by assumption))|trace_state
theorem p_kind:AT1 76 [.int .i64 a] s.a (.tup (s.kind a)) s.a:=by
 refine AT1.mk (D9 E9 b76 rfl ?_) G8 G8 (Y8 A8) (G7 BV4)
 unfold c76
 unfold Sy.kind
 by_cases h1:a < 0∨1024≤a
 ·rw [if_pos h1];unfold Sy.a
  (refine wtw ?_;repeat' (first|with_reducible refine And.intro ?_ ?_|intro hsp))
  all_goals first|exact AG9 rfl (G7 Aq2) rfl (G9 F4)|(exfalso;omega)
 ·rw [if_neg h1]
  obtain ⟨t,rfl⟩:∃ t:Nat,a=(t:Nat):=⟨a.toNat,by omega⟩
  simp only [Int.toNat_natCast]
  have hk:(sysB s.K s.M s.B (stA s.l s.C s.H))[1+t * 66+0]? = some (.int .i64 (s.K t)):=AT5 (by omega)
  have hh:(sysB s.K s.M s.B (stA s.l s.C s.H))[1+t * 66+1]? = some (.bool (s.M t)):=Ap0 (by omega)
  unfold Sy.a
  (refine wtw ?_;repeat' (first|with_reducible refine And.intro ?_ ?_|intro hsp))
  all_goals first|exact AG9 rfl (G7 Aq2) rfl (G9 F4)|(exfalso;omega)|trace_state
end
end Go.Proofs.YtphggldkligldaaGreat
namespace Go.Pol
open Go.Am
def At4 (G:Nat→Bool):Nat→Nat
 | 0 => 0
 | n+1=>At4 G n+if n % 16=0∧G (n / 16)=true then 1 else 0
theorem cntH_le {G:Nat→Bool}:∀ n,At4 G n≤n
 | 0=>Nat.le_refl _
 | n+1=>by have:=cntH_le (G:=G) n;unfold At4;split<;>omega
theorem cntH_16 {G:Nat→Bool} {g:Nat}:∀ j,j≤15→At4 G (g * 16+(j+1))=At4 G (g * 16)+if G g=true then 1 else 0
 | 0,_=>by
  show At4 G (g * 16)+(if g * 16 % 16=0∧G (g * 16 / 16)=true then 1 else 0)=_
  rw [show g * 16 / 16=g by omega]
  congr 1
  by_cases h:G g=true
  ·rw [if_pos h,if_pos ⟨by omega,h⟩]
  ·rw [if_neg h,if_neg fun hh=>h hh.2]
 | j+1,h=>by
  show At4 G (g * 16+(j+1))+(if (g * 16+(j+1)) % 16=0∧G ((g * 16+(j+1)) / 16)=true then 1 else 0)=_
  rw [cntH_16 j (by omega),if_neg (c:=(g * 16+(j+1)) % 16=0∧G ((g * 16+(j+1)) / 16)=true) fun h=>by omega];rfl
theorem cntH_G {G:Nat→Bool}:∀ g,At4 G (g * 16)=cntG G g
 | 0=>rfl
 | g+1=>by
  rw [show (g+1) * 16=g * 16+(15+1) by omega,cntH_16 15 (by omega),cntH_G g];rfl
theorem An6 {K:Nat→Int} {v:Int} {n:Nat} (h:K n=v):((AL4 K v (n+1):Nat):Int)=(AL4 K v n:Nat)+1:=by
 show ((AL4 K v n+(if K n=v then 1 else 0):Nat):Int)=_;rw [if_pos h];omega
theorem AB0 {K:Nat→Int} {v:Int} {n:Nat} (h:¬ K n=v):((AL4 K v (n+1):Nat):Int)=(AL4 K v n:Nat):=by
 show ((AL4 K v n+(if K n=v then 1 else 0):Nat):Int)=_;rw [if_neg h];omega
theorem cntH_y {G:Nat→Bool} {n:Nat} (h:fst (n:Nat)) (h2:G (n / 16)=true):((At4 G (n+1):Nat):Int)=(At4 G n:Nat)+1:=by
 obtain ⟨g,e,_⟩:=fst_nat h
 show ((At4 G n+(if n % 16=0∧G (n / 16)=true then 1 else 0):Nat):Int)=_;rw [if_pos ⟨by omega,h2⟩];omega
theorem cntH_n {G:Nat→Bool} {n:Nat} (hn:n < 1024) (h:¬ (fst (n:Nat)∧G (n / 16)=true)):((At4 G (n+1):Nat):Int)=(At4 G n:Nat):=by
 show ((At4 G n+(if n % 16=0∧G (n / 16)=true then 1 else 0):Nat):Int)=_
 rw [if_neg fun h2=>h ⟨⟨by omega,by omega,by rw [Int.tmod_eq_emod_of_nonneg (by omega)];omega⟩,h2.2⟩];omega
theorem BB7 {s:Sy}:∀ x ∈ s.counts,Plain x:=fun x hx=>by
 simp only [Sy.counts,List.mem_cons,List.not_mem_nil,or_false] at hx
 rcases hx with rfl|rfl|rfl|rfl|rfl<;>exact A8
theorem BN6 {s:Sy} {e:Int}:Plain (.tup [.agg s.counts,.int .i64 e]):=G7 fun x hx=>by
 simp only [List.mem_cons,List.not_mem_nil,or_false] at hx
 rcases hx with rfl|rfl
 ·exact K8 BB7
 ·exact A8
theorem plain_5 {a b c d e:Int}:∀ x ∈ [AV.int .i64 a,.int .i64 b,.int .i64 c,.int .i64 d,.int .i64 e],Plain x:=fun x hx=>by
 simp only [List.mem_cons,List.not_mem_nil,or_false] at hx
 rcases hx with rfl|rfl|rfl|rfl|rfl<;>exact A8
theorem plain_4 {a b c d:Int}:∀ x ∈ [AV.int .i64 a,.int .i64 b,.int .i64 c,.int .i64 d],Plain x:=fun x hx=>by
 simp only [List.mem_cons,List.not_mem_nil,or_false] at hx
 rcases hx with rfl|rfl|rfl|rfl<;>exact A8
end Go.Pol
namespace Go.Proofs.YtphggldkligldaaGreat
open Go Go.Am Go.Pol
theorem ppx_Th {p:Prop} (h:p:=by ((first|with_reducible assumption|(with_reducible first|apply U4 _|apply K9 U4|apply F4|apply AY8|apply G9 F4|apply AU2 F4|apply Aj1|apply G8|apply plain_5|apply plain_4|fail)|exact ppw|fail);first|done|fail)):p:=h
open Go.Proofs.YtphggldkligldaaGreat renaming plx_Sd → plx
open Go.Proofs.YtphggldkligldaaGreat renaming ppx_Th → ppx
theorem wth {p q:Prop} (hq:q) (h:X5 q→p:=by (intro hQz;((repeat' ((try (conv=>whnf));first|(with_reducible first|refine R3 ?_|refine M6 ?_|refine R9 ?_|refine T9 ?_|refine N8 ?_|refine Y6 ?_|refine Q8 ?_|refine Y5 rfl ?_|refine Q9 ?_|refine K4 ?_|refine M9 ?_|refine N7 ?_|refine S9 ?_|refine K3 ?_|refine M7 (by decide +kernel) ?_|refine L9 (by decide +kernel) ?_|refine AL0 ?_|refine AL1 ?_|refine BC4 ?_|refine AC9 ?_|refine AO0 ?_|refine At9 (by assumption) ?_|refine Au0 (by assumption) ?_|refine AC8 (by omega) ?_|refine AN8 ?_)|((with_reducible refine AO1 ?_ ?_);focus omega)|((with_reducible refine AO2 ?_ ?_);focus omega)|((with_reducible apply N9 hQz)<;>(try intro hsp hQz))|((with_reducible refine BC0 ?_ ?_);focus (first|omega|rfl|assumption|decide|(simp only [List.length_map,List.length_cons,List.length_nil];omega)))|(with_reducible first|refine AN5 ?_|refine AC6 ?_|refine AC5 ?_|refine AN7 ?_|refine AN6 ?_|refine AN3 ?_|refine BA7 ?_|refine K6 ?_|refine AC2 ?_|refine R7 ?_|refine R6 ?_|refine K7 ?_|refine AN4 (by omega) ?_|refine AC4 (by omega) ?_)|refine G5 (by with_reducible assumption) ?_|refine G5 AO3 ?_|refine AC7 (by with_reducible assumption) ?_|(with_reducible first|refine AH4 ?_|refine BD8.mk (by kernel_rfl) ?_|refine AJ6 rfl ?_|refine AH6 (by decide +kernel) ?_|refine AH5 rfl ?_)|refine O5 (by assumption) ?_|refine Y9 (by assumption) ?_|refine Y7 (by assumption) ?_|(refine X4 E9 b82 rfl ?_;unfold c82)|refine K6 ?_|refine K7 ?_|refine Aa0 rfl rfl ?_|refine AB5 ?_|refine Z8 rfl ?_|refine Aa6 rfl ?_|refine AY0 rfl ?_|refine AI8 rfl ?_|refine U9 ?_|refine BK8.mk ?_|((with_reducible apply O1 hQz)<;>(try intro hsp hQz))|exact hQz.out))<;>(try (conv=>whnf))))):p:=h ⟨hq⟩
section
variable {s:Sy}
theorem Aq4 (hg:GoodS s):AT1 39 [] s.a (.tup [.agg s.counts,.int .i64 0]) s.a:=by
 refine AT1.mk (D9 E9 b39 rfl ?_) G8 G8 (fun x hx=>by cases hx) BN6
 unfold c39
 unfold Sy.a
 (refine wth ?_;repeat' (first|with_reducible refine And.intro ?_ ?_|intro hsp))
 (refine F6 [0,2,4,5] (fun (i:Nat)=>[(16,.int .i64 (i:Nat))]) (fun (i:Nat)=>⟨[(0,.cells (sysB s.K s.M s.B (stA s.l s.C s.H))),(1,.cells [.int .i64 0,.int .i64 0,.int .i64 0,.int .i64 0,.int .i64 0]),(2,.cells [.int .i64 (AL4 s.K 0 i:Nat),.int .i64 (AL4 s.K 1 i:Nat),.int .i64 (AL4 s.K 2 i:Nat),.int .i64 (AL4 s.K 3 i:Nat),.int .i64 (At4 s.G i:Nat)]),(3,.cells [.ptr 2 0,.ptr 2 1,.ptr 2 2,.ptr 2 3])],4⟩) (fun (i:Nat)=>i≤1024) (fun (i:Nat)=>1024 - i) (0) [] rfl (fun _=>by first|exact Nat.zero_le _|(dsimp only;omega)) ?_ (by ((try (conv=>whnf));exact AD3)) ?_)
 ·exact Nat.zero_le _
 rintro i hi
 have c0:=Ai4 (K:=s.K) (v:=0) i
 have c1:=Ai4 (K:=s.K) (v:=1) i
 have c2:=Ai4 (K:=s.K) (v:=2) i
 have c3:=Ai4 (K:=s.K) (v:=3) i
 have c4:=cntH_le (G:=s.G) i
 by_cases hin:i < 1024
 ·have hk:(sysB s.K s.M s.B (stA s.l s.C s.H))[1+i * 66+0]? = some (.int .i64 (s.K i)):=AT5 (by omega)
  have hh:(sysB s.K s.M s.B (stA s.l s.C s.H))[1+i * 66+1]? = some (.bool (s.M i)):=Ap0 (by omega)
  have z:=k_first (i:Nat)
  have hkk:=hg.kind i
  have e4:∃ d:Int,((At4 s.G (i+1):Nat):Int)=d∧((s.M i=true∧fst (i:Nat))→d=(At4 s.G i:Nat)+1)∧(¬ (s.M i=true∧fst (i:Nat))→d=(At4 s.G i:Nat)) :=
   ⟨_,rfl,fun h=>cntH_y h.2 h.1,fun h=>cntH_n (by omega) fun h2=>h ⟨h2.2,h2.1⟩⟩
  obtain ⟨d,e4,e5,e6⟩:=e4
  have key:s.K i=0∨s.K i=1∨s.K i=2∨s.K i=3:=by omega
  cases hm:s.M i with
  | false =>
   have e6:=e6 (by rw [hm];simp)
   rw [hm] at hh
   rcases key with h|h|h|h
   ·rw [h] at hk
    (refine wth ?_;repeat' (first|with_reducible refine And.intro ?_ ?_|intro hsp))
    all_goals exact F3 (i+1) [] (by (try dsimp only);omega) (by first|omega|(dsimp only;omega)) rfl (by ((try dsimp only);rw [e4,e6,An6 h,AB0 (v:=1) (by omega),AB0 (v:=2) (by omega),AB0 (v:=3) (by omega)]);exact AD3)
   ·rw [h] at hk
    (refine wth ?_;repeat' (first|with_reducible refine And.intro ?_ ?_|intro hsp))
    all_goals exact F3 (i+1) [] (by (try dsimp only);omega) (by first|omega|(dsimp only;omega)) rfl (by ((try dsimp only);rw [e4,e6,An6 h,AB0 (v:=0) (by omega),AB0 (v:=2) (by omega),AB0 (v:=3) (by omega)]);exact AD3)
   ·rw [h] at hk
    (refine wth ?_;repeat' (first|with_reducible refine And.intro ?_ ?_|intro hsp))
    all_goals exact F3 (i+1) [] (by (try dsimp only);omega) (by first|omega|(dsimp only;omega)) rfl (by ((try dsimp only);rw [e4,e6,An6 h,AB0 (v:=1) (by omega),AB0 (v:=0) (by omega),AB0 (v:=3) (by omega)]);exact AD3)
   ·rw [h] at hk
    (refine wth ?_;repeat' (first|with_reducible refine And.intro ?_ ?_|intro hsp))
    all_goals exact F3 (i+1) [] (by (try dsimp only);omega) (by first|omega|(dsimp only;omega)) rfl (by ((try dsimp only);rw [e4,e6,An6 h,AB0 (v:=1) (by omega),AB0 (v:=2) (by omega),AB0 (v:=0) (by omega)]);exact AD3)
  | true =>
   rw [hm] at hh
   have h:=hg.huge i hm
   rw [h] at hk
   by_cases hf:fst (i:Nat)
   ·have e5:=e5 ⟨hm,hf⟩
    rw [decide_eq_true hf] at z
    (refine wth ?_;repeat' (first|with_reducible refine And.intro ?_ ?_|intro hsp))
    all_goals exact F3 (i+1) [] (by (try dsimp only);omega) (by first|omega|(dsimp only;omega)) rfl (by ((try dsimp only);rw [e4,e5,An6 h,AB0 (v:=1) (by omega),AB0 (v:=0) (by omega),AB0 (v:=3) (by omega)]);exact AD3)
   ·have e6:=e6 fun h=>hf h.2
    rw [decide_eq_false hf] at z
    (refine wth ?_;repeat' (first|with_reducible refine And.intro ?_ ?_|intro hsp))
    all_goals exact F3 (i+1) [] (by (try dsimp only);omega) (by first|omega|(dsimp only;omega)) rfl (by ((try dsimp only);rw [e4,e6,An6 h,AB0 (v:=1) (by omega),AB0 (v:=0) (by omega),AB0 (v:=3) (by omega)]);exact AD3)
 ·obtain rfl:i=1024:=by omega
  have e:=cntH_G (G:=s.G) 64
  have e':At4 s.G 1024=cntG s.G 64:=e
  rw [e']
  (refine wth ?_;repeat' (first|with_reducible refine And.intro ?_ ?_|intro hsp))
  all_goals exact AG9 rfl BN6 rfl (G9 F4)
end
end Go.Proofs.YtphggldkligldaaGreat
namespace Go.Am
section
variable {P:Program} {G:Gl}
theorem AQ1.weak {f k:Nat} {args args':List AV} {l0:List (Nat × AObj)} {K:AV→Hp→Prop} (hc:AQ1 P G f args l0 k K) (hw:∀ (c:Cx) (vs:Array Value),AE0 c args' vs→AE0 c args vs):AQ1 P G f args' l0 k K :=
 ⟨hc.1,fun c vs hR hG hm ha=>hc.2 c vs hR hG hm (hw c vs ha)⟩
theorem Aa7.weak {f:Nat} {args args':List AV} {r:AV} (hc:Aa7 P G f args r) (hw:∀ (c:Cx) (vs:Array Value),AE0 c args' vs→AE0 c args vs):Aa7 P G f args' r :=
 fun at_ id=>⟨(hc at_ id).1,fun c vs hR hG hU hat ha=>(hc at_ id).2 c vs hR hG hU hat (hw c vs ha)⟩
def WkA (x y:AV):Prop:=∀ (c:Cx) (v:Value),RR c x v→RR c y v
def BR6:List AV→List AV→Prop
 | [],[]=>True
 | x::xs,y::ys=>WkA x y∧BR6 xs ys
 | _,_=>False
theorem BR6.len:∀ {xs ys:List AV},BR6 xs ys→xs.length=ys.length
 | [],[],_=>rfl
 | [],_::_,h=>h.elim
 | _::_,[],h=>h.elim
 | _::_,_::_,h=>by rw [List.length_cons,List.length_cons,BR6.len h.2]
theorem BR6.at:∀ {xs ys:List AV},BR6 xs ys→∀ {j:Nat} {y:AV},ys[j]? = some y→∃ x,xs[j]? = some x∧WkA x y
 | [],[],_,_,_,e=>by simp at e
 | [],_::_,h,_,_,_=>h.elim
 | _::_,[],h,_,_,_=>h.elim
 | x::_,y::_,h,0,z,e=>by cases e;exact ⟨x,rfl,h.1⟩
 | _::_,_::_,h,j+1,z,e=>BR6.at (j:=j) h.2 (by simpa using e)
theorem BR6.args {xs ys:List AV} (h:BR6 xs ys) (c:Cx) (vs:Array Value) (ha:AE0 c xs vs):AE0 c ys vs :=
 ⟨by rw [ha.1, h.len], fun j y hy => by
  obtain ⟨x,hx,hw⟩:=h.at hy
  obtain ⟨u,hu,hr⟩:=ha.2 j x hx
  exact ⟨u,hu,hw c u hr⟩⟩
theorem wkA_rfl {x:AV}:WkA x x:=fun _ _ h=>h
theorem wkA_nil:WkA .nils (.isl []):=fun c v h=>by
 obtain ⟨A,rfl⟩:=RR_nils.1 h
 exact AB1.2 ⟨A,0,rfl,Nat.le_refl _,Nat.zero_le _,fun hne=>absurd rfl hne⟩
theorem wkA_agg {xs ys:List AV} (h:BR6 xs ys):WkA (.agg xs) (.agg ys):=fun c v hv=>by
 obtain ⟨vs,rfl,hs,hc⟩:=u7.1 hv
 refine u7.2 ⟨vs,rfl,by rw [hs,h.len],fun j y hy=>?_⟩
 obtain ⟨x,hx,hw⟩:=h.at hy
 obtain ⟨u,hu,hr,ho⟩:=hc j x hx
 exact ⟨u,hu,hw c u hr,ho⟩
end
end Go.Am
namespace Go.Pol
open Go.Am
end Go.Pol
namespace Go.Proofs.YtphggldkligldaaGreat
open Go Go.Am Go.Pol
theorem wk_pl:WkA (.agg [.nils]) (.agg [.isl (([]:List Rl).map rlA)]):=wkA_agg ⟨wkA_nil,trivial⟩
theorem plain_npl:Plain (.agg [.nils]):=K8 (Y8 AJ0)
theorem AT1.weak {f:Nat} {avs avs' cs ds:List AV} {r:AV} (hc:AT1 f avs cs r ds) (hw:BR6 avs' avs) (hp:∀ x ∈ avs',Plain x):AT1 f avs' cs r ds :=
 AT1.mk (hc.out.weak (BR6.args (xs:=.ptr 0 0::avs') (ys:=.ptr 0 0::avs) ⟨wkA_rfl,hw⟩)) hc.pc hc.pd hp hc.pr
theorem LocN.weak {f:Nat} {avs avs' ds:List AV} {e:Int} (hc:LocN f avs e ds) (hw:BR6 avs' avs) (hp:∀ x ∈ avs',Plain x):LocN f avs' e ds :=
 LocN.mk (hc.out.weak (BR6.args hw)) hc.pd hp
theorem n_new:LocN 40 [.agg [.nils]] 0 (Sy.new []).a:=(p_new (l:=[]) (i:=(AJ8 []).1) rfl).weak ⟨wk_pl,trivial⟩ (Y8 plain_npl)
end Go.Proofs.YtphggldkligldaaGreat
