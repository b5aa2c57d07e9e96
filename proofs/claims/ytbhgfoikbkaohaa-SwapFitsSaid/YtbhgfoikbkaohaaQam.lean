/-
 Saved states,plain: runs,huge pages,data of a state.
 Loading of states,plain: what is saved is loaded;what is loaded is saved.
 The document's system: page,kinds,set,change and the calls,Join,Split.
 The document's system: change and the calls,Join,Split over the plain state.
 The document's system: Join,Split,bytes,kinds,counts,plans over the plain state.
 Are two states equal? (SamePlan,SameState,Same of the document.)
 New,Plan,Write,Read,Kind of both systems over the plain state.
 Write,Read,Kind of both systems over the plain state.
 Counts of both systems.
 Systems and sums: what stores use. Plain.
 A store of pages in frames and slots,plain: what each call does.
 A store of pages in frames and slots,plain: a touch keeps a good one.
 A store of pages in frames and slots,plain: calls keep a good one.
-/
import Derived.Test.YtbhgfoikbkaohaaVmB
set_option linter.unusedSimpArgs false
set_option linter.unusedVariables false
set_option maxHeartbeats 1600000
namespace Go.Pol
open Go.Am
structure Rn where
 p:Int
 n:Int
 k:Int
def rnA (r:Rn):List AV:=[.int .i64 r.p,.int .i64 r.n,.int .i64 r.k]
theorem AB4 (r:Rn):∀ x ∈ rnA r,Plain x:=fun x hx=>by
 simp only [rnA,List.mem_cons,List.not_mem_nil,or_false] at hx
 rcases hx with rfl|rfl|rfl<;>exact A8
@[irreducible] def byA (b:Nat→Int):List AV:=(List.range 64).map fun j=>.int .u8 (b j)
@[simp] theorem by_len (b:Nat→Int):(byA b).length=64:=by unfold byA;simp
theorem byA_plain (b:Nat→Int):∀ x ∈ byA b,Plain x:=fun x hx=>by
 unfold byA at hx
 obtain ⟨i,_,rfl⟩:=List.mem_map.1 hx
 exact A8
structure Dt where
 p:Int
 b:Nat→Int
def dtA (d:Dt):List AV:=.int .i64 d.p::byA d.b
theorem Ad3 (d:Dt):∀ x ∈ dtA d,Plain x:=fun x hx=>by
 rcases List.mem_cons.1 hx with rfl|hx
 ·exact A8
 ·exact byA_plain _ x hx
def inA (u:Int):List AV:=[.int .i64 u]
theorem Ac0 (u:Int):∀ x ∈ inA u,Plain x:=fun x hx=>by
 obtain rfl:=List.mem_singleton.1 hx;exact A8
def bump:List Rn→List Rn
 | [] => []
 | [r]=>[⟨r.p,r.n+1,r.k⟩]
 | r::r'::L=>r::bump (r'::L)
def BD7 (K:Nat→Int):Nat→List Rn
 | 0 => []
 | n+1=>if K n=0 then BD7 K n else if 0 < n∧K (n - 1)=K n then bump (BD7 K n) else BD7 K n++[⟨(n:Nat),1,K n⟩]
def hugeTo (G:Nat→Bool):Nat→List Int
 | 0 => []
 | n+1=>if n % 16=0∧G (n / 16)=true then hugeTo G n++[((n:Nat):Int)] else hugeTo G n
def zeroB (f:Nat→Int):Prop:=∀ j,j < 64→f j=0
instance (f:Nat→Int):Decidable (zeroB f):=by unfold zeroB;infer_instance
def dataTo (B:Nat→Nat→Int):Nat→List Dt
 | 0 => []
 | n+1=>if zeroB (B n) then dataTo B n else dataTo B n++[⟨(n:Nat),B n⟩]
section
variable {K:Nat→Int} {G:Nat→Bool} {B:Nat→Nat→Int} {n p j:Nat}
end
structure Vs where
 R:List Rn
 U:List Int
 D:List Dt
 l:List Rl
 C:Nat→Int
 H:Nat→Int
def vsA (x:Vs):List AV:=.isl (x.R.map rnA) :: .isl (x.U.map inA) :: .isl (x.D.map dtA)::stA x.l x.C x.H
theorem F9 {α:Type} {f:α→List AV} {L:List α} (h:∀ a,∀ x ∈ f a,Plain x):Plain (.isl (L.map f)):=AI5 fun e he=>by
 obtain ⟨b,_,rfl⟩:=List.mem_map.1 he
 exact h b
theorem AZ9 (x:Vs):∀ y ∈ vsA x,Plain y:=fun y hy=>by
 rcases List.mem_cons.1 hy with rfl|hy
 ·exact F9 AB4
 rcases List.mem_cons.1 hy with rfl|hy
 ·exact F9 Ac0
 rcases List.mem_cons.1 hy with rfl|hy
 ·exact F9 Ad3
 ·exact D5 y hy
theorem Ak0 {x:Vs}:Plain (.agg (vsA x)):=H9 (AZ9 x)
def Sy.save (s:Sy):Vs:=⟨BD7 s.K 1024,hugeTo s.G 1024,dataTo s.B 1024,s.l,s.C,s.H⟩
end Go.Pol
namespace Go.Pol
open Go.Am
section fold
variable {σ α:Type} {f:σ→α→Option σ}
def fo (f:σ→α→Option σ):List α→σ→Option σ
 | [],s=>some s
 | a::l,s=>match f s a with|none=>none|some s'=>fo f l s'
end fold
structure Sr where
 nx:Int
 la:Int
 K:Nat→Int
def badRn (s:Sr) (r:Rn):Prop:=r.p < s.nx∨r.n < 1∨1024 - r.p < r.n∨r.k < 1∨3 < r.k∨(r.p=s.nx∧r.k=s.la)
instance (s:Sr) (r:Rn):Decidable (badRn s r):=by unfold badRn;infer_instance
structure Sd where
 lo:Int
 B:Nat→Nat→Int
def r0:Sr:=⟨0,0,fun _=>0⟩
def d0:Sd:=⟨-1,fun _ _=>0⟩
section
variable {K K':Nat→Int} {n:Nat}
end
def badL (r:Rn):Prop:=r.p < 0∨1024≤r.p∨r.n < 1∨1024 - r.p < r.n∨r.k < 1∨3 < r.k
instance (r:Rn):Decidable (badL r):=by unfold badL;infer_instance
end Go.Pol
namespace Go.Pol
open Go.Am
def okV (K:Nat→Int) (a n:Nat) (v:Int):Prop:=∀ i,i < n→K (a+i)=v
instance (K:Nat→Int) (a n:Nat) (v:Int):Decidable (okV K a n v):=by unfold okV;infer_instance
end Go.Pol
namespace Go.Proofs.Ytbhgfoikbkaohaa
open Go Go.Am Go.Pol
section
variable {K:Nat→Int} {M G:Nat→Bool} {B:Nat→Nat→Int} {P:List AV}
end
end Go.Proofs.Ytbhgfoikbkaohaa
namespace Go.Pol
open Go.Am
end Go.Pol
namespace Go.Proofs.Ytbhgfoikbkaohaa
open Go Go.Am Go.Pol
section
variable {s:Sy} {a n:Int}
theorem AK6:∀ x ∈ s.b,Plain x:=by unfold Sy.b;exact AE3 D5
theorem F3:∀ x ∈ s.a,Plain x:=by unfold Sy.a;exact E8 D5
end
end Go.Proofs.Ytbhgfoikbkaohaa
namespace Go.Pol
open Go.Am
def Sy.write (s:Sy) (a b:Int):Int × Sy :=
 if a < 0∨65536≤a then (7,s) else if s.K (a.toNat / 64)=2 then (0,{ s with B:=AD7 s.B (a.toNat / 64) (E9 (s.B (a.toNat / 64)) (a.toNat % 64) b) }) else (61,s)
def Sy.read (s:Sy) (a:Int):Int × Int :=
 if a < 0∨65536≤a then (0,7) else if s.K (a.toNat / 64)=2 then (s.B (a.toNat / 64) (a.toNat % 64),0) else (0,61)
def Sy.kind (s:Sy) (a:Int):List AV :=
 if a < 0∨1024≤a then [.int .i64 0,.bool false,.int .i64 7] else [.int .i64 (s.K a.toNat),.bool (s.M a.toNat),.int .i64 0]
def Sy.new (l:List Rl):Sy:=⟨fun _=>0,fun _=>false,fun _ _=>0,l,fun _=>0,fun _=>0⟩
def Sy.plan (s:Sy) (l:List Rl):Int × Sy:=if (AF3 l).2=0 then (0,{ s with l:=l,C:=fun _=>0,H:=fun _=>0 }) else ((AF3 l).2,s)
theorem BI3 {l:List Rl} (h:(AF3 l).2=0):Aw1 l (fun _=>0) (fun _=>0)=0:=by
 unfold Aw1
 rw [if_neg (by rw [h];simp),if_pos]
 intro k hk
 exact ⟨Int.le_refl _,by show (0:Int)≤1000000;decide,rfl⟩
theorem Al1 {l:List Rl} (h:(AF3 l).2=0):GoodS (Sy.new l):=⟨BI3 h,fun _=>⟨Int.le_refl _,(by show (0:Int)≤3;decide)⟩,fun p hp=>(by cases hp),fun _ _=>rfl,fun _ _=>rfl,fun _ _ _=>rfl⟩
theorem At0 {s:Sy} {l:List Rl} (h:GoodS s):GoodS (s.plan l).2:=by
 unfold Sy.plan
 split
 ·exact ⟨BI3 (by assumption),h.kind,h.huge,h.zero,h.cK,h.cB⟩
 ·exact h
theorem BM5 {s:Sy} {a b:Int} (h:GoodS s):GoodS (s.write a b).2:=by
 unfold Sy.write
 split
 ·exact h
 ·split
  ·rename_i hk
   refine ⟨h.hv,h.kind,h.huge,fun p hp=>?_,h.cK,fun p j hj=>?_⟩
   ·show AD7 s.B _ _ p=_
    unfold AD7
    rw [if_neg fun e=>hp (by rw [e];exact hk)]
    exact h.zero p hp
   ·show AD7 s.B _ _ p j=0
    unfold AD7
    split
    ·unfold E9;rw [if_neg (by omega)];exact h.cB _ _ hj
    ·exact h.cB _ _ hj
  ·exact h
def AA2 (K:Nat→Int) (v:Int):Nat→Nat
 | 0 => 0
 | n+1=>AA2 K v n+if K n=v then 1 else 0
def cntG (G:Nat→Bool):Nat→Nat
 | 0 => 0
 | n+1=>cntG G n+if G n=true then 1 else 0
theorem Ad5 {K:Nat→Int} {v:Int}:∀ n,AA2 K v n≤n
 | 0=>Nat.le_refl _
 | n+1=>by have:=Ad5 (K:=K) (v:=v) n;unfold AA2;split<;>omega
def Sy.counts (s:Sy):List AV:=[.int .i64 (AA2 s.K 0 1024:Nat),.int .i64 (AA2 s.K 1 1024:Nat),.int .i64 (AA2 s.K 2 1024:Nat),.int .i64 (AA2 s.K 3 1024:Nat),.int .i64 (cntG s.G 64:Nat)]
theorem quo64 {a:Int} (h:0≤a) (h2:a < 100000):IntKind.i64.wrap (a.tdiv 64)=((a.toNat / 64:Nat):Int):=by
 rw [Int.tdiv_eq_ediv_of_nonneg h,IntWalk.i64_in _ ⟨by omega,by omega⟩];omega
theorem rem64 {a:Int} (h:0≤a):a.tmod 64=((a.toNat % 64:Nat):Int):=by
 rw [Int.tmod_eq_emod_of_nonneg h];omega
end Go.Pol
namespace Go.Proofs.Ytbhgfoikbkaohaa
open Go Go.Am Go.Pol
section
variable {s:Sy} {a:Int}
end
end Go.Proofs.Ytbhgfoikbkaohaa
namespace Go.Pol
open Go.Am
end Go.Pol
namespace Go.Proofs.Ytbhgfoikbkaohaa
open Go Go.Am Go.Pol
theorem plx_Tl {p:Prop} (h:p:=by ((first|exact plw|(with_reducible first|apply AF8|apply K6|apply L6|apply r9|apply V9|apply AE6|apply AE5|apply AA5|apply AQ4|apply AY0|apply AB7|apply AE4|apply F9 AB4|apply F9 Ac0|apply F9 Ad3|apply Ak0|fail)|fail);first|done|fail)):p:=h
theorem ppx_Tl {p:Prop} (h:p:=by ((first|with_reducible assumption|(with_reducible first|apply J2 _|apply P8 J2|apply D5|apply AZ9 _|fail)|exact ppw|fail);first|done|fail)):p:=h
open Go.Proofs.Ytbhgfoikbkaohaa renaming plx_Tl → plx
open Go.Proofs.Ytbhgfoikbkaohaa renaming ppx_Tl → ppx
section
variable {l m:List Rl} {C H C' H':Nat→Int}
end
end Go.Proofs.Ytbhgfoikbkaohaa
namespace Go.Pol
open Go.Am
theorem BS9 {z:List AV} (hz:0 < z.length):∀ {n i:Nat},i < n * z.length→((List.replicate n z).flatten)[i]? = z[i % z.length]?
 | 0,i,h=>by omega
 | n+1,i,h=>by
  rw [List.replicate_succ,List.flatten_cons]
  by_cases hi:i < z.length
  ·rw [List.getElem?_append_left hi,Nat.mod_eq_of_lt hi]
  ·rw [List.getElem?_append_right (by omega),BS9 hz (by rw [Nat.succ_mul] at h;omega)]
   congr 1
   conv=>rhs;rw [show i=(i - z.length)+z.length by omega,Nat.add_mod_right]
theorem Aj5 {z:List AV} {n:Nat}:((List.replicate n z).flatten).length=n * z.length:=by simp
def zP:List AV:=.nils::List.replicate 14 (.int .i64 0)
theorem zP_len:zP.length=15:=rfl
theorem zP_get {m:Nat} (h:m < 15):zP[m]? = some (zP[m]?.getD .undef):=by
 rw [List.getElem?_eq_getElem (by rw [zP_len];exact h)];rfl
theorem Ab1:pg0.length=66:=rfl
theorem pg0_get {j:Nat} (h:j < 66):pg0[j]? = some (Af1 (fun _=>0) (fun _=>false) (fun _ _=>0) 0 j):=by
 unfold Af1 pg0
 match j with
 | 0=>rfl
 | 1=>rfl
 | j+2=>rw [if_neg (by omega),if_neg (by omega),List.getElem?_cons_succ,List.getElem?_cons_succ,List.getElem?_replicate,if_pos (by omega)]
theorem BC8:sysZ.length=67600:=by unfold sysZ;rw [List.length_cons,List.length_append,Aj5];rfl
theorem sysZ_0:sysZ.set 0 (.bool true)=sysB (fun _=>0) (fun _=>false) (fun _ _=>0) zP:=by
 refine List.ext_getElem? fun i=>?_
 by_cases hi:i < 67600
 ·unfold sysB
  rw [X3 hi]
  unfold sysZ sysF
  rw [List.set_cons_zero]
  by_cases h0:i=0
  ·rw [if_pos h0,h0];rfl
  ·rw [if_neg h0]
   obtain ⟨k,rfl⟩:∃ k,i=k+1:=⟨i - 1,by omega⟩
   rw [List.getElem?_cons_succ]
   by_cases h1:k+1 < 67585
   ·rw [if_pos h1,List.getElem?_append_left (by rw [Aj5,Ab1];omega),BS9 (by decide) (by rw [Ab1];omega),Ab1,pg0_get (by omega)]
    rw [Nat.add_sub_cancel];rfl
   ·rw [if_neg h1,List.getElem?_append_right (by rw [Aj5,Ab1];omega),Aj5,Ab1,show k - 1024 * 66=k+1 - 67585 by omega]
    have hm:k+1 - 67585 < 15:=by omega
    generalize k+1 - 67585=m at *
    exact zP_get hm
 ·rw [List.getElem?_eq_none (by rw [List.length_set,BC8];omega),List.getElem?_eq_none (by rw [AO3];omega)]
theorem new_a {l:List Rl} {o:Nat} {z:List AV} (hz:z=sysZ) (h:o=67585):over (z.set 0 (.bool true)) o (stA l (fun _=>0) fun _=>0)=(Sy.new l).a:=by
 rw [hz,sysZ_0,AH9 h rfl];unfold Sy.a;rfl
theorem plan_a {s:Sy} {l:List Rl} {o:Nat} (h:o=67585):over s.a o (stA l (fun _=>0) fun _=>0)=(Sy.mk s.K s.G s.B l (fun _=>0) fun _=>0).a:=by
 unfold Sy.a;exact AH9 h rfl
theorem a_len {s:Sy}:s.a.length=67600:=by unfold Sy.a;exact AO3
theorem a_made {s:Sy}:s.a[0]? = some (.bool true):=by unfold Sy.a;exact AL0
theorem BQ3 {z:List AV} (hz:z=sysZ):z.length=67600:=by rw [hz,BC8]
end Go.Pol
namespace Go.Proofs.Ytbhgfoikbkaohaa
open Go Go.Am Go.Pol
theorem AR2:∀ {l:List (Nat × AObj)} {k:List (Nat × AObj)→Prop},k l→AU1 [] l k
 | [],_,h=>h
 | a::l,k,h=>AR2 (l:=l) (k:=fun r=>k (a::r)) h
structure LocN (f:Nat) (avs:List AV) (e:Int) (ds:List AV):Prop where
 out:AV1 Try.prog G0 f avs [] 0 fun x h=>x = .tup [.ptr 0 0,.int .i64 e]∧h=⟨[(0,.cells ds)],1⟩
 pd:∀ x ∈ ds,Plain x
 pa:∀ x ∈ avs,Plain x
theorem end_new {top:Bool} {h:Hp} {x:AV} {i:Nat} {cs ds:List AV} {e:Int} (hx:x = .tup [.ptr i 0,.int .i64 e]) (hc:cs=ds) (h0:lk h.l i=some (.cells cs)) (pd:∀ x ∈ ds,Plain x):AX2 top Try.prog 0 h x (fun r' h'=>r' = .tup [.ptr 0 0,.int .i64 e]∧h'=⟨[(0,.cells ds)],1⟩):=by
 subst hx;subst hc
 have e0:rn [(0,i)] 0=i:=rfl
 have hs:AP3 (rn [(0,i)]) h ⟨[(0,.cells cs)],1⟩:=fun j o hj=>by
  simp only [lk] at hj
  split at hj
  ·rename_i e;subst e;exact ⟨_,h0⟩
  ·cases hj
 exact AG8 [(0,i)] rfl (Nat.zero_le _) (P6 rfl) (AZ5 (D6 (Z8 e0 (show 0 < 1 by decide)) (D6 (K5 rfl) K4))) (I5 hs (show 0 < 1 by decide) (by rw [e0];exact h0) rfl pd K3) ⟨rfl,rfl⟩
theorem cx_locN {f nx:Nat} {avs:List AV} {e:Int} {ds:List AV} {l:List (Nat × AObj)} {K:AV→Hp→Prop} (hc:LocN f avs e ds) (hk:K (.tup [.ptr nx 0,.int .i64 e]) ⟨(nx,.cells ds)::l,nx+1⟩):AH3 Try.prog G0 (.fn f [] []) avs ⟨l,nx⟩ K:=by
 have k0:back [] nx 0 nx:=rfl
 refine AN6 (r':=.tup [.ptr nx 0,.int .i64 e]) (l1:=[(nx,.cells ds)]) [] hc.out I7 rfl .nil (by simpa using D8 hc.pa) (by simp) (BD9 ⟨U5 k0,F5 A8,trivial⟩)
  (.cons k0 (D8 hc.pd) .nil) (AR2 hk)
theorem wtf {p q:Prop} (hq:q) (h:Z7 q→p:=by (intro hQz;((repeat' ((try (conv=>whnf));first|(with_reducible first|refine M7 ?_|refine I8 ?_|refine O1 ?_|refine O5 ?_|refine J5 ?_|refine R3 ?_|refine M5 ?_|refine Q9 rfl ?_|refine M6 ?_|refine G9 ?_|refine J3 ?_|refine J4 ?_|refine O4 ?_|refine G8 ?_|refine I9 (by decide +kernel) ?_|refine I6 (by decide +kernel) ?_|refine AH0 ?_|refine AH1 ?_|refine Av0 ?_|refine l6 ?_|refine AK3 ?_|refine An2 (by assumption) ?_|refine An3 (by assumption) ?_|refine l5 (by omega) ?_|refine AK1 ?_)|((with_reducible refine AK4 ?_ ?_);focus omega)|((with_reducible refine AK5 ?_ ?_);focus omega)|((with_reducible apply U8 hQz)<;>(try intro hsp hQz))|((with_reducible refine Au7 ?_ ?_);focus (first|omega|rfl|assumption|decide|(simp only [List.length_map,List.length_cons,List.length_nil];omega)))|(with_reducible first|refine AJ7 ?_|refine j6 ?_|refine j5 ?_|refine AJ9 ?_|refine AJ8 ?_|refine AJ5 ?_|refine At7 ?_|refine H7 ?_|refine d9 ?_|refine N7 ?_|refine M9 ?_|refine H8 ?_|refine AJ6 (by omega) ?_|refine j4 (by omega) ?_)|refine L9 (by with_reducible assumption) ?_|refine L9 a_made ?_|refine AH5 (by with_reducible assumption) ?_|refine AL7 (by first|(simp only [List.length_cons,List.length_nil,List.length_set];omega)|fail) (by with_reducible assumption) ?_|(with_reducible first|refine AC9 ?_|refine Aw3.mk (by kernel_rfl) ?_|refine AF2 rfl ?_|refine AD1 (by decide +kernel) ?_|refine AD0 rfl ?_)|refine M0 (by assumption) rfl (by omega) ?_|refine AR5 (by assumption) rfl rfl ?_|refine N9 (by assumption) ?_|refine R7 (by assumption) ?_|refine R4 (by assumption) ?_|(refine AC3 F6 b37 rfl ?_;unfold c37)|refine H7 ?_|refine H8 ?_|refine AU3 rfl rfl ?_|refine Y8 ?_|refine T9 rfl ?_|refine AU8 rfl ?_|refine AS5 rfl ?_|refine AE2 rfl ?_|refine P5 ?_|refine BJ5.mk ?_|((with_reducible apply U9 hQz)<;>(try intro hsp hQz))|exact hQz.out))<;>(try (conv=>whnf))))):p:=h ⟨hq⟩
section
variable {s:Sy} {l:List Rl} {i e:Int}
theorem p_new_no (hc:AF3 l=(i,e)) (he:e ≠ 0):K9 29 [.agg [.isl (l.map rlA)]] (.tup [.nilp,.int .i64 e]):=by
 have z:=Ag7 hc he
 refine K9.mk (U2 F6 b29 I7 ⟨L6,trivial⟩ (F4 (AO5 M4 A8)) rfl ?_)
 unfold c29
 (refine wtf ?_;repeat' (first|with_reducible refine And.intro ?_ ?_|intro hsp))
 all_goals exact K8 rfl (F4 (AO5 M4 A8))
theorem p_new (hc:AF3 l=(i,0)):LocN 29 [.agg [.isl (l.map rlA)]] 0 (Sy.new l).a:=by
 have z:=BX1 hc (by have:=(Au8 hc).2;omega)
 refine LocN.mk (H6 F6 b29 rfl ?_) F3 (P9 L6)
 unfold c29
 obtain ⟨o,ho⟩:∃ o,o=67585:=⟨_,rfl⟩
 obtain ⟨y,hy⟩:∃ y,y=sysZ:=⟨_,rfl⟩
 rw [← ho,← hy]
 have hl:=BQ3 hy
 have hov:=new_a (l:=l) hy ho
 unfold stA at hov
 (refine wtf ?_;repeat' (first|with_reducible refine And.intro ?_ ?_|intro hsp))
 rw [show Nat.ble (0+1) y.length=true from Nat.ble_eq_true_of_le (by omega)]
 (refine wtf ?_;repeat' (first|with_reducible refine And.intro ?_ ?_|intro hsp))
 refine AC4 (by omega) rfl ?_
 (refine wtf ?_;repeat' (first|with_reducible refine And.intro ?_ ?_|intro hsp))
 rw [show Nat.ble (o+15) (y.set 0 (.bool true)).length=true from Nat.ble_eq_true_of_le (by rw [List.length_set];omega)]
 (refine wtf ?_;repeat' (first|with_reducible refine And.intro ?_ ?_|intro hsp))
 all_goals exact end_new rfl rfl rfl F3
theorem p_plan (s:Sy) (l:List Rl):AF4 24 [.agg [.isl (l.map rlA)]] s.a (.int .i64 (s.plan l).1) (s.plan l).2.a:=by
 refine AF4.mk (H6 F6 b24 rfl ?_) F3 F3 (P9 L6) A8
 unfold c24
 obtain ⟨o,ho⟩:∃ o,o=67585:=⟨_,rfl⟩
 rw [← ho]
 have hc:AF3 l=((AF3 l).1,(AF3 l).2):=rfl
 unfold Sy.plan
 by_cases he:(AF3 l).2=0
 ·rw [if_pos he]
  rw [he] at hc
  have z:=BX1 hc (by have:=(Au8 hc).2;omega)
  have hl:=a_len (s:=s)
  have hov:=plan_a (s:=s) (l:=l) ho
  unfold stA at hov
  (refine wtf ?_;repeat' (first|with_reducible refine And.intro ?_ ?_|intro hsp))
  all_goals exact AH7 rfl A8 rfl F3
 ·rw [if_neg he]
  have z:=Ag7 hc he
  (refine wtf ?_;repeat' (first|with_reducible refine And.intro ?_ ?_|intro hsp))
  all_goals exact AH7 rfl A8 rfl F3
end
end Go.Proofs.Ytbhgfoikbkaohaa
namespace Go.Pol
open Go.Am
theorem q64 {t:Nat} (h:t < 100000):IntKind.i64.wrap (((t:Nat):Int).tdiv 64)=((t / 64:Nat):Int):=quo64 (a:=(t:Nat)) (by omega) (by omega)
theorem m64 {t:Nat}:((t:Nat):Int).tmod 64=((t % 64:Nat):Int):=rem64 (a:=(t:Nat)) (by omega)
theorem Ak1 {v:Int} {b:Bool} {e:Int}:∀ x ∈ [AV.int .i64 v,.bool b,.int .i64 e],Plain x:=fun x hx=>by
 simp only [List.mem_cons,List.not_mem_nil,or_false] at hx
 rcases hx with rfl|rfl|rfl
 ·exact A8
 ·exact D9
 ·exact A8
theorem BM2 {s:Sy} {a:Int}:∀ x ∈ s.kind a,Plain x:=by unfold Sy.kind;split<;>exact Ak1
end Go.Pol
namespace Go.Proofs.Ytbhgfoikbkaohaa
open Go Go.Am Go.Pol
theorem wtw {p q:Prop} (hq:q) (h:Z7 q→p:=by (intro hQz;((repeat' ((try (conv=>whnf));first|(with_reducible first|refine M7 ?_|refine I8 ?_|refine O1 ?_|refine O5 ?_|refine J5 ?_|refine R3 ?_|refine M5 ?_|refine Q9 rfl ?_|refine M6 ?_|refine G9 ?_|refine J3 ?_|refine J4 ?_|refine O4 ?_|refine G8 ?_|refine I9 (by decide +kernel) ?_|refine I6 (by decide +kernel) ?_|refine AH0 ?_|refine AH1 ?_|refine Av0 ?_|refine l6 ?_|refine AK3 ?_|refine An2 (by assumption) ?_|refine An3 (by assumption) ?_|refine l5 (by omega) ?_|refine AK1 ?_)|((with_reducible refine AK4 ?_ ?_);focus omega)|((with_reducible refine AK5 ?_ ?_);focus omega)|((with_reducible apply U8 hQz)<;>(try intro hsp hQz))|((with_reducible refine Au7 ?_ ?_);focus (first|omega|rfl|assumption|decide|(simp only [List.length_map,List.length_cons,List.length_nil];omega)))|(with_reducible first|refine AJ7 ?_|refine j6 ?_|refine j5 ?_|refine AJ9 ?_|refine AJ8 ?_|refine AJ5 ?_|refine At7 ?_|refine H7 ?_|refine d9 ?_|refine N7 ?_|refine M9 ?_|refine H8 ?_|refine AJ6 (by omega) ?_|refine j4 (by omega) ?_)|refine L9 (by with_reducible assumption) ?_|refine L9 AL0 ?_|refine AH5 (by with_reducible assumption) ?_|refine AC4 (by rw [AO3];omega) (by with_reducible assumption) ?_|refine AC4 (by rw [Aj7];omega) (by with_reducible assumption) ?_|(with_reducible first|refine AC9 ?_|refine Aw3.mk (by kernel_rfl) ?_|refine AF2 rfl ?_|refine AD1 (by decide +kernel) ?_|refine AD0 rfl ?_)|refine M0 (by assumption) rfl (by omega) ?_|refine AR5 (by assumption) rfl rfl ?_|refine N9 (by assumption) ?_|refine R7 (by assumption) ?_|refine R4 (by assumption) ?_|(refine AC3 F6 b37 rfl ?_;unfold c37)|(refine AC3 F6 b55 rfl ?_;unfold c55)|refine H7 ?_|refine H8 ?_|refine AU3 rfl rfl ?_|refine Y8 ?_|refine T9 rfl ?_|refine AU8 rfl ?_|refine AS5 rfl ?_|refine AE2 rfl ?_|refine P5 ?_|refine BJ5.mk ?_|((with_reducible apply U9 hQz)<;>(try intro hsp hQz))|exact hQz.out))<;>(try (conv=>whnf))))):p:=h ⟨hq⟩
section
variable {s:Sy} {a b:Int}
theorem BE4 {a b:Int}:∀ x ∈ [AV.int .i64 a,.int .u8 b],Plain x:=AO5 A8 A8
theorem BV1:AF4 47 [.int .i64 a,.int .u8 b] s.a (.int .i64 (s.write a b).1) (s.write a b).2.a:=by
 refine AF4.mk (H6 F6 b47 rfl ?_) F3 F3 BE4 A8
 unfold c47
 unfold Sy.write
 by_cases h1:a < 0∨65536≤a
 ·rw [if_pos h1];unfold Sy.a
  (refine wtw ?_;repeat' (first|with_reducible refine And.intro ?_ ?_|intro hsp))
  all_goals first|exact AH7 rfl A8 rfl (E8 D5)|(exfalso;omega)
 ·rw [if_neg h1]
  obtain ⟨t,rfl⟩:∃ t:Nat,a=(t:Nat):=⟨a.toNat,by omega⟩
  simp only [Int.toNat_natCast]
  have hw:=q64 (t:=t) (by omega)
  have hr:=m64 (t:=t)
  have hk:(sysB s.K s.M s.B (stA s.l s.C s.H))[1+t / 64 * 66+0]? = some (.int .i64 (s.K (t / 64))):=AP6 (by omega)
  by_cases h2:s.K (t / 64)=2
  ·rw [if_pos h2]
   have hs:(sysB s.K s.M s.B (stA s.l s.C s.H)).set (1+t / 64 * 66+2+t % 64) (.int .u8 b)=sysB s.K s.M (AD7 s.B (t / 64) (E9 (s.B (t / 64)) (t % 64) b)) (stA s.l s.C s.H):=Aw9 (by omega) (by omega)
   unfold Sy.a
   (refine wtw ?_;repeat' (first|with_reducible refine And.intro ?_ ?_|intro hsp))
   all_goals first|exact AH7 rfl A8 rfl (E8 D5)|(exfalso;omega)|trace_state
  ·rw [if_neg h2]
   unfold Sy.a
   (refine wtw ?_;repeat' (first|with_reducible refine And.intro ?_ ?_|intro hsp))
   all_goals first|exact AH7 rfl A8 rfl (E8 D5)|(exfalso;exact absurd (by assumption) h2)|(exfalso;exact h2 (by assumption))|trace_state
theorem AQ2 {v e:Int}:Plain (.tup [.int .u8 v,.int .i64 e]):=F4 (AO5 A8 A8)
theorem p_read:AF4 33 [.int .i64 a] s.a (.tup [.int .u8 (s.read a).1,.int .i64 (s.read a).2]) s.a:=by
 refine AF4.mk (H6 F6 b33 rfl ?_) F3 F3 (P9 A8) AQ2
 unfold c33
 unfold Sy.read
 by_cases h1:a < 0∨65536≤a
 ·rw [if_pos h1];unfold Sy.a
  (refine wtw ?_;repeat' (first|with_reducible refine And.intro ?_ ?_|intro hsp))
  all_goals first|exact AH7 rfl AQ2 rfl (E8 D5)|(exfalso;omega)
 ·rw [if_neg h1]
  obtain ⟨t,rfl⟩:∃ t:Nat,a=(t:Nat):=⟨a.toNat,by omega⟩
  simp only [Int.toNat_natCast]
  have hw:=q64 (t:=t) (by omega)
  have hr:=m64 (t:=t)
  have hk:(sysB s.K s.M s.B (stA s.l s.C s.H))[1+t / 64 * 66+0]? = some (.int .i64 (s.K (t / 64))):=AP6 (by omega)
  by_cases h2:s.K (t / 64)=2
  ·rw [if_pos h2]
   have hs:(sysB s.K s.M s.B (stA s.l s.C s.H))[1+t / 64 * 66+2+t % 64]? = some (.int .u8 (s.B (t / 64) (t % 64))):=sys_byte (by omega) (by omega)
   unfold Sy.a
   (refine wtw ?_;repeat' (first|with_reducible refine And.intro ?_ ?_|intro hsp))
   all_goals first|exact AH7 rfl AQ2 rfl (E8 D5)|(exfalso;omega)|trace_state
  ·rw [if_neg h2]
   unfold Sy.a
   (refine wtw ?_;repeat' (first|with_reducible refine And.intro ?_ ?_|intro hsp))
   all_goals first|exact AH7 rfl AQ2 rfl (E8 D5)|(exfalso;exact absurd (by assumption) h2)|(exfalso;exact h2 (by assumption))|trace_state
theorem BF0:AF4 43 [.int .i64 a] s.a (.tup (s.kind a)) s.a:=by
 refine AF4.mk (H6 F6 b43 rfl ?_) F3 F3 (P9 A8) (F4 BM2)
 unfold c43
 unfold Sy.kind
 by_cases h1:a < 0∨1024≤a
 ·rw [if_pos h1];unfold Sy.a
  (refine wtw ?_;repeat' (first|with_reducible refine And.intro ?_ ?_|intro hsp))
  all_goals first|exact AH7 rfl (F4 Ak1) rfl (E8 D5)|(exfalso;omega)
 ·rw [if_neg h1]
  obtain ⟨t,rfl⟩:∃ t:Nat,a=(t:Nat):=⟨a.toNat,by omega⟩
  simp only [Int.toNat_natCast]
  have hk:(sysB s.K s.M s.B (stA s.l s.C s.H))[1+t * 66+0]? = some (.int .i64 (s.K t)):=AP6 (by omega)
  have hh:(sysB s.K s.M s.B (stA s.l s.C s.H))[1+t * 66+1]? = some (.bool (s.M t)):=Aj1 (by omega)
  unfold Sy.a
  (refine wtw ?_;repeat' (first|with_reducible refine And.intro ?_ ?_|intro hsp))
  all_goals first|exact AH7 rfl (F4 Ak1) rfl (E8 D5)|(exfalso;omega)|trace_state
end
end Go.Proofs.Ytbhgfoikbkaohaa
namespace Go.Pol
open Go.Am
def Am5 (G:Nat→Bool):Nat→Nat
 | 0 => 0
 | n+1=>Am5 G n+if n % 16=0∧G (n / 16)=true then 1 else 0
theorem cntH_le {G:Nat→Bool}:∀ n,Am5 G n≤n
 | 0=>Nat.le_refl _
 | n+1=>by have:=cntH_le (G:=G) n;unfold Am5;split<;>omega
theorem cntH_16 {G:Nat→Bool} {g:Nat}:∀ j,j≤15→Am5 G (g * 16+(j+1))=Am5 G (g * 16)+if G g=true then 1 else 0
 | 0,_=>by
  show Am5 G (g * 16)+(if g * 16 % 16=0∧G (g * 16 / 16)=true then 1 else 0)=_
  rw [show g * 16 / 16=g by omega]
  congr 1
  by_cases h:G g=true
  ·rw [if_pos h,if_pos ⟨by omega,h⟩]
  ·rw [if_neg h,if_neg fun hh=>h hh.2]
 | j+1,h=>by
  show Am5 G (g * 16+(j+1))+(if (g * 16+(j+1)) % 16=0∧G ((g * 16+(j+1)) / 16)=true then 1 else 0)=_
  rw [cntH_16 j (by omega),if_neg (c:=(g * 16+(j+1)) % 16=0∧G ((g * 16+(j+1)) / 16)=true) fun h=>by omega];rfl
theorem cntH_G {G:Nat→Bool}:∀ g,Am5 G (g * 16)=cntG G g
 | 0=>rfl
 | g+1=>by
  rw [show (g+1) * 16=g * 16+(15+1) by omega,cntH_16 15 (by omega),cntH_G g];rfl
theorem Ah5 {K:Nat→Int} {v:Int} {n:Nat} (h:K n=v):((AA2 K v (n+1):Nat):Int)=(AA2 K v n:Nat)+1:=by
 show ((AA2 K v n+(if K n=v then 1 else 0):Nat):Int)=_;rw [if_pos h];omega
theorem Y2 {K:Nat→Int} {v:Int} {n:Nat} (h:¬ K n=v):((AA2 K v (n+1):Nat):Int)=(AA2 K v n:Nat):=by
 show ((AA2 K v n+(if K n=v then 1 else 0):Nat):Int)=_;rw [if_neg h];omega
theorem cntH_y {G:Nat→Bool} {n:Nat} (h:fst (n:Nat)) (h2:G (n / 16)=true):((Am5 G (n+1):Nat):Int)=(Am5 G n:Nat)+1:=by
 obtain ⟨g,e,_⟩:=fst_nat h
 show ((Am5 G n+(if n % 16=0∧G (n / 16)=true then 1 else 0):Nat):Int)=_;rw [if_pos ⟨by omega,h2⟩];omega
theorem cntH_n {G:Nat→Bool} {n:Nat} (hn:n < 1024) (h:¬ (fst (n:Nat)∧G (n / 16)=true)):((Am5 G (n+1):Nat):Int)=(Am5 G n:Nat):=by
 show ((Am5 G n+(if n % 16=0∧G (n / 16)=true then 1 else 0):Nat):Int)=_
 rw [if_neg fun h2=>h ⟨⟨by omega,by omega,by rw [Int.tmod_eq_emod_of_nonneg (by omega)];omega⟩,h2.2⟩];omega
theorem Au3 {s:Sy}:∀ x ∈ s.counts,Plain x:=fun x hx=>by
 simp only [Sy.counts,List.mem_cons,List.not_mem_nil,or_false] at hx
 rcases hx with rfl|rfl|rfl|rfl|rfl<;>exact A8
theorem BE5 {s:Sy} {e:Int}:Plain (.tup [.agg s.counts,.int .i64 e]):=F4 fun x hx=>by
 simp only [List.mem_cons,List.not_mem_nil,or_false] at hx
 rcases hx with rfl|rfl
 ·exact H9 Au3
 ·exact A8
theorem plain_5 {a b c d e:Int}:∀ x ∈ [AV.int .i64 a,.int .i64 b,.int .i64 c,.int .i64 d,.int .i64 e],Plain x:=fun x hx=>by
 simp only [List.mem_cons,List.not_mem_nil,or_false] at hx
 rcases hx with rfl|rfl|rfl|rfl|rfl<;>exact A8
theorem plain_4 {a b c d:Int}:∀ x ∈ [AV.int .i64 a,.int .i64 b,.int .i64 c,.int .i64 d],Plain x:=fun x hx=>by
 simp only [List.mem_cons,List.not_mem_nil,or_false] at hx
 rcases hx with rfl|rfl|rfl|rfl<;>exact A8
end Go.Pol
namespace Go.Proofs.Ytbhgfoikbkaohaa
open Go Go.Am Go.Pol
theorem ppx_Th {p:Prop} (h:p:=by ((first|with_reducible assumption|(with_reducible first|apply J2 _|apply P8 J2|apply D5|apply AF0|apply E8 D5|apply AE3 D5|apply AK6|apply F3|apply plain_5|apply plain_4|fail)|exact ppw|fail);first|done|fail)):p:=h
open Go.Proofs.Ytbhgfoikbkaohaa renaming plx_Sd → plx
open Go.Proofs.Ytbhgfoikbkaohaa renaming ppx_Th → ppx
theorem wth {p q:Prop} (hq:q) (h:Z7 q→p:=by (intro hQz;((repeat' ((try (conv=>whnf));first|(with_reducible first|refine M7 ?_|refine I8 ?_|refine O1 ?_|refine O5 ?_|refine J5 ?_|refine R3 ?_|refine M5 ?_|refine Q9 rfl ?_|refine M6 ?_|refine G9 ?_|refine J3 ?_|refine J4 ?_|refine O4 ?_|refine G8 ?_|refine I9 (by decide +kernel) ?_|refine I6 (by decide +kernel) ?_|refine AH0 ?_|refine AH1 ?_|refine Av0 ?_|refine l6 ?_|refine AK3 ?_|refine An2 (by assumption) ?_|refine An3 (by assumption) ?_|refine l5 (by omega) ?_|refine AK1 ?_)|((with_reducible refine AK4 ?_ ?_);focus omega)|((with_reducible refine AK5 ?_ ?_);focus omega)|((with_reducible apply U8 hQz)<;>(try intro hsp hQz))|((with_reducible refine Au7 ?_ ?_);focus (first|omega|rfl|assumption|decide|(simp only [List.length_map,List.length_cons,List.length_nil];omega)))|(with_reducible first|refine AJ7 ?_|refine j6 ?_|refine j5 ?_|refine AJ9 ?_|refine AJ8 ?_|refine AJ5 ?_|refine At7 ?_|refine H7 ?_|refine d9 ?_|refine N7 ?_|refine M9 ?_|refine H8 ?_|refine AJ6 (by omega) ?_|refine j4 (by omega) ?_)|refine L9 (by with_reducible assumption) ?_|refine L9 AL0 ?_|refine AH5 (by with_reducible assumption) ?_|(with_reducible first|refine AC9 ?_|refine Aw3.mk (by kernel_rfl) ?_|refine AF2 rfl ?_|refine AD1 (by decide +kernel) ?_|refine AD0 rfl ?_)|refine N9 (by assumption) ?_|refine R7 (by assumption) ?_|refine R4 (by assumption) ?_|(refine AC3 F6 b37 rfl ?_;unfold c37)|refine H7 ?_|refine H8 ?_|refine AU3 rfl rfl ?_|refine Y8 ?_|refine T9 rfl ?_|refine AU8 rfl ?_|refine AS5 rfl ?_|refine AE2 rfl ?_|refine P5 ?_|refine BJ5.mk ?_|((with_reducible apply U9 hQz)<;>(try intro hsp hQz))|exact hQz.out))<;>(try (conv=>whnf))))):p:=h ⟨hq⟩
section
variable {s:Sy}
theorem AL6 (hg:GoodS s):AF4 22 [] s.a (.tup [.agg s.counts,.int .i64 0]) s.a:=by
 refine AF4.mk (H6 F6 b22 rfl ?_) F3 F3 (fun x hx=>by cases hx) BE5
 unfold c22
 unfold Sy.a
 (refine wth ?_;repeat' (first|with_reducible refine And.intro ?_ ?_|intro hsp))
 (refine Q5 [0,2,4,5] (fun (i:Nat)=>[(16,.int .i64 (i:Nat))]) (fun (i:Nat)=>⟨[(0,.cells (sysB s.K s.M s.B (stA s.l s.C s.H))),(1,.cells [.int .i64 0,.int .i64 0,.int .i64 0,.int .i64 0,.int .i64 0]),(2,.cells [.int .i64 (AA2 s.K 0 i:Nat),.int .i64 (AA2 s.K 1 i:Nat),.int .i64 (AA2 s.K 2 i:Nat),.int .i64 (AA2 s.K 3 i:Nat),.int .i64 (Am5 s.G i:Nat)]),(3,.cells [.ptr 2 0,.ptr 2 1,.ptr 2 2,.ptr 2 3])],4⟩) (fun (i:Nat)=>i≤1024) (fun (i:Nat)=>1024 - i) (0) [] rfl (fun _=>by first|exact Nat.zero_le _|(dsimp only;omega)) ?_ (by ((try (conv=>whnf));exact l7)) ?_)
 ·exact Nat.zero_le _
 rintro i hi
 have c0:=Ad5 (K:=s.K) (v:=0) i
 have c1:=Ad5 (K:=s.K) (v:=1) i
 have c2:=Ad5 (K:=s.K) (v:=2) i
 have c3:=Ad5 (K:=s.K) (v:=3) i
 have c4:=cntH_le (G:=s.G) i
 by_cases hin:i < 1024
 ·have hk:(sysB s.K s.M s.B (stA s.l s.C s.H))[1+i * 66+0]? = some (.int .i64 (s.K i)):=AP6 (by omega)
  have hh:(sysB s.K s.M s.B (stA s.l s.C s.H))[1+i * 66+1]? = some (.bool (s.M i)):=Aj1 (by omega)
  have z:=k_first (i:Nat)
  have hkk:=hg.kind i
  have e4:∃ d:Int,((Am5 s.G (i+1):Nat):Int)=d∧((s.M i=true∧fst (i:Nat))→d=(Am5 s.G i:Nat)+1)∧(¬ (s.M i=true∧fst (i:Nat))→d=(Am5 s.G i:Nat)) :=
   ⟨_,rfl,fun h=>cntH_y h.2 h.1,fun h=>cntH_n (by omega) fun h2=>h ⟨h2.2,h2.1⟩⟩
  obtain ⟨d,e4,e5,e6⟩:=e4
  have key:s.K i=0∨s.K i=1∨s.K i=2∨s.K i=3:=by omega
  cases hm:s.M i with
  | false =>
   have e6:=e6 (by rw [hm];simp)
   rw [hm] at hh
   rcases key with h|h|h|h
   ·rw [h] at hk
    (refine wth ?_;repeat' (first|with_reducible refine And.intro ?_ ?_|intro hsp))
    all_goals exact I4 (i+1) [] (by (try dsimp only);omega) (by first|omega|(dsimp only;omega)) rfl (by ((try dsimp only);rw [e4,e6,Ah5 h,Y2 (v:=1) (by omega),Y2 (v:=2) (by omega),Y2 (v:=3) (by omega)]);exact l7)
   ·rw [h] at hk
    (refine wth ?_;repeat' (first|with_reducible refine And.intro ?_ ?_|intro hsp))
    all_goals exact I4 (i+1) [] (by (try dsimp only);omega) (by first|omega|(dsimp only;omega)) rfl (by ((try dsimp only);rw [e4,e6,Ah5 h,Y2 (v:=0) (by omega),Y2 (v:=2) (by omega),Y2 (v:=3) (by omega)]);exact l7)
   ·rw [h] at hk
    (refine wth ?_;repeat' (first|with_reducible refine And.intro ?_ ?_|intro hsp))
    all_goals exact I4 (i+1) [] (by (try dsimp only);omega) (by first|omega|(dsimp only;omega)) rfl (by ((try dsimp only);rw [e4,e6,Ah5 h,Y2 (v:=1) (by omega),Y2 (v:=0) (by omega),Y2 (v:=3) (by omega)]);exact l7)
   ·rw [h] at hk
    (refine wth ?_;repeat' (first|with_reducible refine And.intro ?_ ?_|intro hsp))
    all_goals exact I4 (i+1) [] (by (try dsimp only);omega) (by first|omega|(dsimp only;omega)) rfl (by ((try dsimp only);rw [e4,e6,Ah5 h,Y2 (v:=1) (by omega),Y2 (v:=2) (by omega),Y2 (v:=0) (by omega)]);exact l7)
  | true =>
   rw [hm] at hh
   have h:=hg.huge i hm
   rw [h] at hk
   by_cases hf:fst (i:Nat)
   ·have e5:=e5 ⟨hm,hf⟩
    rw [decide_eq_true hf] at z
    (refine wth ?_;repeat' (first|with_reducible refine And.intro ?_ ?_|intro hsp))
    all_goals exact I4 (i+1) [] (by (try dsimp only);omega) (by first|omega|(dsimp only;omega)) rfl (by ((try dsimp only);rw [e4,e5,Ah5 h,Y2 (v:=1) (by omega),Y2 (v:=0) (by omega),Y2 (v:=3) (by omega)]);exact l7)
   ·have e6:=e6 fun h=>hf h.2
    rw [decide_eq_false hf] at z
    (refine wth ?_;repeat' (first|with_reducible refine And.intro ?_ ?_|intro hsp))
    all_goals exact I4 (i+1) [] (by (try dsimp only);omega) (by first|omega|(dsimp only;omega)) rfl (by ((try dsimp only);rw [e4,e6,Ah5 h,Y2 (v:=1) (by omega),Y2 (v:=0) (by omega),Y2 (v:=3) (by omega)]);exact l7)
 ·obtain rfl:i=1024:=by omega
  have e:=cntH_G (G:=s.G) 64
  have e':Am5 s.G 1024=cntG s.G 64:=e
  rw [e']
  (refine wth ?_;repeat' (first|with_reducible refine And.intro ?_ ?_|intro hsp))
  all_goals exact AH7 rfl BE5 rfl (E8 D5)
end
end Go.Proofs.Ytbhgfoikbkaohaa
namespace Go.Proofs.Ytbhgfoikbkaohaa.Sh
end Go.Proofs.Ytbhgfoikbkaohaa.Sh
namespace Go.Pol
open Go.Am Go.Proofs.Ytbhgfoikbkaohaa.Sh
def inR (m x:Int):Prop:=0≤x∧x < m
instance (m x:Int):Decidable (inR m x):=by unfold inR;infer_instance
def Sy.page (s:Sy) (f:Nat) (x:Nat→Int):Sy:={ s with B:=AD7 s.B f fun j=>if j < 64 then x j else 0 }
theorem good_page {s:Sy} {f:Nat} {x:Nat→Int} (h:GoodS s) (hk:s.K f=2):GoodS (s.page f x):=by
 refine ⟨h.hv,h.kind,h.huge,fun p hp=>?_,h.cK,fun p j hj=>?_⟩
 ·show AD7 s.B f _ p=_
  unfold AD7
  rw [if_neg fun e=>hp (by rw [e];exact hk)]
  exact h.zero p hp
 ·show AD7 s.B f _ p j=0
  unfold AD7
  split
  ·show (if j < 64 then x j else 0)=0;rw [if_neg (by omega)]
  ·exact h.cB p j hj
def Sy.turn (s:Sy) (f:Nat) (w:Int) (k:Nat):Sy:={ s.ref k with K:=fun p=>if p=f then w else s.K p,B:=fun p=>if p=f then fun _=>0 else s.B p }
theorem Am8 {s:Sy} {f:Nat} {v w:Int} {k:Nat} (hf:f < 1024) (hk:s.K f=v) (hm:s.M f=false):s.chg (f:Nat) 1 v w k=if isR s.l s.C k then (60,s.ref k) else (0,s.turn f w k):=by
 unfold Sy.chg
 have hok:okR s.K s.M ((f:Nat):Int).toNat (1:Int).toNat v:=fun i hi=>by
  have hi:i < 1:=hi
  rw [show ((f:Nat):Int).toNat+i=f by omega];exact ⟨hk,hm⟩
 have h1:(1:Int).toNat=1:=rfl
 have e1:AV6 s.K ((f:Nat):Int).toNat (1:Int).toNat w=fun p=>if p=f then w else s.K p:=funext fun p=>by
  show (if _ then w else s.K p)=_
  by_cases e:p=f
  ·rw [if_pos e,if_pos (by omega)]
  ·rw [if_neg e,if_neg (by omega)]
 have e2:Aj4 s.B ((f:Nat):Int).toNat (1:Int).toNat=fun p=>if p=f then fun _=>0 else s.B p:=funext fun p=>by
  show (if _ then (fun _=>0) else s.B p)=_
  by_cases e:p=f
  ·rw [if_pos e,if_pos (by omega)]
  ·rw [if_neg e,if_neg (by omega)]
 rw [if_neg (by omega),if_pos hok,e1,e2]
 rfl
theorem AM9 {s:Sy} {f p:Nat} {w:Int} {k:Nat}:(s.turn f w k).K p=if p=f then w else s.K p:=rfl
theorem BP9 {s:Sy} {f p:Nat} {w:Int} {k:Nat}:(s.turn f w k).B p=if p=f then fun _=>0 else s.B p:=rfl
theorem As8 {s:Sy} {f:Nat} {v w:Int} {k:Nat} (h:GoodS s) (hf:f < 1024) (hw:0≤w∧w≤3) (hk:s.K f=v) (hm:s.M f=false):GoodS (s.turn f w k):=by
 refine ⟨Am7 h.hv,fun p=>?_,fun p hp=>?_,fun p hp=>?_,fun p hp=>?_,fun p j hj=>?_⟩
 ·rw [AM9];split
  ·exact hw
  ·exact h.kind p
 ·rw [AM9]
  have hp':s.M p=true:=hp
  rw [if_neg fun e=>by rw [e,hm] at hp';cases hp']
  exact h.huge p hp'
 ·rw [BP9]
  split
  ·rfl
  ·rename_i e
   rw [AM9,if_neg e] at hp
   exact h.zero p hp
 ·rw [AM9,if_neg (by omega)];exact h.cK p hp
 ·rw [BP9];split
  ·rfl
  ·exact h.cB p j hj
theorem write_Kp {s:Sy} {x v:Int} {p:Nat}:(s.write x v).2.K p=s.K p:=by
 unfold Sy.write;split
 ·rfl
 ·split<;>rfl
theorem isR_nilE {C:Nat→Int} {k:Nat}:isR [] C k=false:=by unfold isR AX8;split<;>rfl
theorem plan_K {s:Sy} {l:List Rl}:(s.plan l).2.K=s.K:=by unfold Sy.plan;split<;>rfl
theorem plan_M {s:Sy} {l:List Rl}:(s.plan l).2.M=s.M:=by unfold Sy.plan;split<;>rfl
theorem BI2 {K:Nat→Int} {v:Int}:∀ n,AA2 K v n=((List.range n).filter fun p=>decide (K p=v)).length
 | 0=>rfl
 | n+1=>by
  rw [List.range_succ,List.filter_append,List.length_append,← BI2 n]
  show AA2 K v n+(if K n=v then 1 else 0)=_
  by_cases e:K n=v
  ·rw [if_pos e,List.filter_cons_of_pos (by simpa using e)];rfl
  ·rw [if_neg e,List.filter_cons_of_neg (by simpa using e)];rfl
theorem AG6 {α:Type} {l:List α} {p:α→Bool} (h:∀ f ∈ l,p f=false):(l.filter p).length=0:=by
 rw [List.length_eq_zero_iff,List.filter_eq_nil_iff]
 intro f hf;rw [h f hf];decide
theorem Ac8 {α:Type} {p q r:α→Bool}:∀ {l:List α},(∀ f ∈ l,(r f=true ↔ (p f=true∨q f=true))∧¬ (p f=true∧q f=true))→(l.filter r).length=(l.filter p).length+(l.filter q).length
 | [],_=>rfl
 | f::l,h=>by
  have ih:=Ac8 (l:=l) fun g hg=>h g (List.mem_cons_of_mem _ hg)
  obtain ⟨h1,h2⟩:=h f (List.mem_cons_self ..)
  rw [List.filter_cons,List.filter_cons,List.filter_cons]
  cases hp:p f<;>cases hq:q f<;>cases hr:r f<;>simp_all<;>omega
theorem range_split {a n m:Nat} (h:a+n≤m):List.range m=List.range' 0 a++(List.range' a n++List.range' (a+n) (m - (a+n))):=by
 rw [List.range'_append_1]
 have:=List.range'_append_1 (s:=0) (m:=a) (n:=n+(m - (a+n)))
 rw [Nat.zero_add] at this
 rw [this,List.range_eq_range',show a+(n+(m - (a+n)))=m by omega]
def BC9 (f:Nat→Nat):Nat→Nat
 | 0 => 0
 | n+1=>BC9 f n+f n
theorem BQ4 {f g:Nat→Nat}:∀ {n:Nat},(∀ i,i < n→f i≤g i)→BC9 f n≤BC9 g n
 | 0,_=>Nat.le_refl _
 | n+1,h=>by
  have:=BQ4 (f:=f) (g:=g) (n:=n) fun i hi=>h i (by omega)
  have:=h n (by omega)
  show BC9 f n+f n≤BC9 g n+g n
  omega
theorem Ap3 {f g:Nat→Nat} {n:Nat} (h:∀ i,i < n→f i=g i):BC9 f n=BC9 g n:=Nat.le_antisymm (BQ4 fun i hi=>Nat.le_of_eq (h i hi)) (BQ4 fun i hi=>Nat.le_of_eq (h i hi).symm)
theorem BQ5 {α:Type} {L:List α} {g:α→Nat}:∀ m,BC9 (fun i=>(L.filter fun v=>decide (g v=i)).length) m=(L.filter fun v=>decide (g v < m)).length
 | 0=>by
  rw [AG6]
  ·rfl
  ·intro v _;simp
 | m+1=>by
  show BC9 _ m+_=_
  rw [BQ5 m]
  exact (Ac8 fun v _=>by simp only [decide_eq_true_eq];constructor<;>omega).symm
theorem BQ6 {α:Type} {L:List α} {g:α→Nat} {m:Nat} (h:∀ v ∈ L,g v < m):BC9 (fun i=>(L.filter fun v=>decide (g v=i)).length) m=L.length:=by
 rw [BQ5,List.filter_eq_self.2 fun v hv=>by simpa using h v hv]
theorem Aa9 {a:Nat} {p:Nat→Bool}:∀ n,((List.range' a n).filter p).length=BC9 (fun i=>if p (a+i)=true then 1 else 0) n
 | 0=>rfl
 | n+1=>by
  rw [List.range'_concat,List.filter_append,List.length_append,Aa9 n]
  show _=BC9 _ n+_
  congr 1
  rw [Nat.one_mul]
  show (List.filter p [a+n]).length=if p (a+n)=true then 1 else 0
  by_cases e:p (a+n)=true
  ·rw [List.filter_cons_of_pos e,if_pos e];rfl
  ·rw [List.filter_cons_of_neg e,if_neg e];rfl
theorem new_chg {l:List Rl} {a n:Int} (he:((Sy.new l).chg a n 0 1 0).1=0):(∀ p,((Sy.new l).chg a n 0 1 0).2.K p=if a.toNat≤p∧p < a.toNat+n.toNat then 1 else 0)∧(∀ p,((Sy.new l).chg a n 0 1 0).2.M p=false)∧(∀ p j,((Sy.new l).chg a n 0 1 0).2.B p j=0)∧((Sy.new l).chg a n 0 1 0).2.l=l:=by
 unfold Sy.chg at he ⊢
 split at he
 ·exact absurd he (by decide:¬ (7:Int)=0)
 rename_i c1
 rw [if_neg c1]
 split at he
 ·rename_i c2
  rw [if_pos c2]
  split at he
  ·exact absurd he (by decide:¬ (60:Int)=0)
  ·rename_i c3
   rw [if_neg c3]
   refine ⟨fun p=>?_,fun p=>rfl,fun p j=>?_,rfl⟩
   ·show AV6 (Sy.new l).K _ _ 1 p=_
    unfold AV6;rfl
   ·show Aj4 (Sy.new l).B _ _ p j=0
    unfold Aj4;split<;>rfl
 ·exact absurd he (by decide:¬ (9:Int)=0)
def wrK (s:Sy) (f:Nat) (x:Nat→Int) (k:Nat):Sy:={ s with B:=AD7 s.B f fun j=>if j < k then x j else s.B f j }
theorem wrK_0 {s:Sy} {f:Nat} {x:Nat→Int}:wrK s f x 0=s:=by
 unfold wrK
 have : AD7 s.B f (fun j=>if j < 0 then x j else s.B f j)=s.B:=funext fun p=>by
  unfold AD7
  split
  ·rename_i e;subst e;exact funext fun j=>if_neg (by omega)
  ·rfl
 rw [this]
theorem wrK_K {s:Sy} {f:Nat} {x:Nat→Int} {k:Nat}:(wrK s f x k).K=s.K:=rfl
theorem wrK_s {s:Sy} {f:Nat} {x:Nat→Int} {k:Nat} (hk:s.K f=2) (hf:f < 1024) (hj:k < 64):(wrK s f x k).write ((f:Int) * 64+(k:Nat)) (x k)=(0,wrK s f x (k+1)):=by
 unfold Sy.write
 have h1:((f:Int) * 64+(k:Nat)).toNat / 64=f:=by omega
 have h2:((f:Int) * 64+(k:Nat)).toNat % 64=k:=by omega
 rw [if_neg (by omega),h1,h2,wrK_K,if_pos hk]
 unfold wrK
 dsimp only
 have : AD7 (AD7 s.B f fun j=>if j < k then x j else s.B f j) f (E9 (AD7 s.B f (fun j=>if j < k then x j else s.B f j) f) k (x k))=AD7 s.B f fun j=>if j < k+1 then x j else s.B f j:=funext fun p=>by
  unfold AD7
  by_cases e:p=f
  ·rw [if_pos e,if_pos e,if_pos rfl]
   refine funext fun j=>?_
   unfold E9
   by_cases h3:j=k
   ·subst h3;rw [if_pos rfl,if_pos (by omega)]
   ·rw [if_neg h3]
    show (if j < k then x j else s.B f j)=if j < k+1 then x j else s.B f j
    by_cases h4:j < k
    ·rw [if_pos h4,if_pos (by omega)]
    ·rw [if_neg h4,if_neg (by omega)]
  ·rw [if_neg e,if_neg e,if_neg e]
 rw [this]
theorem wrK_all {s:Sy} (hg:GoodS s) {f:Nat} {x:Nat→Int}:wrK s f x 64=s.page f x:=by
 unfold wrK Sy.page
 have : (fun j=>if j < 64 then x j else s.B f j)=fun j=>if j < 64 then x j else 0:=funext fun j=>by
  by_cases h:j < 64
  ·rw [if_pos h,if_pos h]
  ·rw [if_neg h,if_neg h,hg.cB f j (by omega)]
 rw [this]
theorem read_at {s:Sy} {f k:Nat} (hk:s.K f=2) (hf:f < 1024) (hj:k < 64):s.read ((f:Int) * 64+(k:Nat))=(s.B f k,0):=by
 unfold Sy.read
 rw [if_neg (by omega),show ((f:Int) * 64+(k:Nat)).toNat / 64=f by omega,show ((f:Int) * 64+(k:Nat)).toNat % 64=k by omega,if_pos hk]
theorem BT8 {a n i:Nat} (h:i≤n):List.range' a n=List.range' a i++List.range' (a+i) (n - i):=by
 rw [List.range'_append_1,Nat.add_sub_cancel' h]
def rdK (f:Nat→Int) (k:Nat):Nat→AV:=fun j=>.int .u8 (if j < k then f j else 0)
def bcA (f:Nat→Int):List AV:=memA 64 fun j=>.int .u8 (f j)
theorem rdK_0 {f:Nat→Int}:memA 64 (rdK f 0)=List.replicate 64 (.int .u8 0):=by
 refine List.ext_getElem? fun i=>?_
 by_cases h:i < 64
 ·rw [List.getElem?_replicate,if_pos h,X3 h];unfold rdK;rw [if_neg (by omega)]
 ·rw [List.getElem?_eq_none (by rw [AA0];omega),List.getElem?_eq_none (by rw [List.length_replicate];omega)]
theorem rdK_s {f:Nat→Int} {k:Nat} (hk:k < 64):(memA 64 (rdK f k)).set k (.int .u8 (f k))=memA 64 (rdK f (k+1)):=by
 rw [Ak8]
 refine AA6 fun j _=>?_
 unfold rdK
 split
 ·rename_i e;subst e;rw [if_pos (by omega)]
 ·rename_i e
  by_cases h:j < k
  ·rw [if_pos h,if_pos (by omega)]
  ·rw [if_neg h,if_neg (by omega)]
theorem rdK_all {f:Nat→Int}:memA 64 (rdK f 64)=bcA f:=AA6 fun j hj=>by unfold rdK;rw [if_pos hj]
theorem AI3 {f:Nat→Int} {k:Nat}:∀ x ∈ memA 64 (rdK f k),Plain x:=AL9 fun _ _=>A8
theorem AD2 {f:Nat→Int}:∀ x ∈ bcA f,Plain x:=AL9 fun _ _=>A8
theorem X7 {f:Nat→Int}:(bcA f).length=64:=AA0 _ _
theorem BF1:∀ (a cs:List AV),over (a++cs) a.length cs=a++cs
 | a,[]=>rfl
 | a,v::vs=>by
  show over ((a++v::vs).set a.length v) (a.length+1) vs=a++v::vs
  have e:(a++v::vs).set a.length v=(a++[v])++vs:=by simp
  have h:=BF1 (a++[v]) vs
  rw [List.length_append] at h
  rw [e]
  exact h.trans (by simp)
theorem over_self (cs:List AV):over cs 0 cs=cs:=BF1 [] cs
theorem An4 {f:Nat→Int}:(bcA f).take 64=bcA f:=List.take_of_length_le (by rw [X7];exact Nat.le_refl _)
end Go.Pol
namespace Go.Pol
open Go.Am Go.Proofs.Ytbhgfoikbkaohaa.Sh
structure Sw where
 a:Nat
 n:Nat
 pg:Nat
 sl:Nat
 F:Nat→Int
 T:Nat→Int
 Z:Nat→Int
 D:Nat→Nat→Int
 ins:Int
 outs:Int
 s:Sy
def Sw.heldF (w:Sw) (f:Nat):Prop:=∃ p,p < w.pg∧w.F p=(f:Nat)
def Sw.heldT (w:Sw) (k:Nat):Prop:=∃ p,p < w.pg∧w.T p=(k:Nat)
instance (w:Sw) (f:Nat):Decidable (w.heldF f):=decidable_of_iff (∃ p,p ∈ List.range w.pg∧w.F p=(f:Nat)) (by simp [Sw.heldF])
instance (w:Sw) (f:Nat):Decidable (w.heldT f):=decidable_of_iff (∃ p,p ∈ List.range w.pg∧w.T p=(f:Nat)) (by simp [Sw.heldT])
def Sw.free (w:Sw):Option Nat:=(List.range' w.a w.n).find? fun f=>decide (¬ w.heldF f)
def Sw.slot (w:Sw) (g:Int):Option Nat:=(List.range w.sl).find? fun k=>decide (((k:Nat):Int)=g∨¬ w.heldT k)
def Sw.vicN (w:Sw):Nat→Option Nat
 | 0=>none
 | m+1=>if 0≤w.F m then (match w.vicN m with
  | none=>some m
  | some b=>if w.Z m < w.Z b then some m else some b) else w.vicN m
def Sw.vic (w:Sw):Option Nat:=w.vicN w.pg
def AZ2 (x:Int):Int:=if 1000000000≤x+1 then 1000000000 else x+1
def Sw.put (w:Sw) (v k:Nat):Sw:={ w with D:=AD7 w.D k (w.s.B (w.F v).toNat),T:=E9 w.T v (k:Nat),F:=E9 w.F v (-1),outs:=AZ2 w.outs }
def Sw.brg (w:Sw) (p f:Nat) (now:Int) (x:Nat→Int):Sw:={ w with ins:=if 0≤w.T p then AZ2 w.ins else w.ins,T:=E9 w.T p (-1),F:=E9 w.F p (f:Nat),Z:=E9 w.Z p now,s:=w.s.page f x }
def Sw.got (w:Sw) (p:Nat):Nat→Int:=if 0≤w.T p then w.D (w.T p).toNat else fun _=>0
def Sw.touch (w:Sw) (p:Nat) (now:Int):Int × Sw :=
 if 0≤w.F p then (0,{ w with Z:=E9 w.Z p now }) else
 match w.free with
 | some f=>if w.s.K f=1 then (if (w.s.chg (f:Nat) 1 1 2 2).1=0 then (0,Sw.brg { w with s:=(w.s.chg (f:Nat) 1 1 2 2).2 } p f now (w.got p)) else ((w.s.chg (f:Nat) 1 1 2 2).1,{ w with s:=(w.s.chg (f:Nat) 1 1 2 2).2 }))
  else (0,w.brg p f now (w.got p))
 | none=>match w.slot (w.T p),w.vic with
  | some k,some v=>(0,(w.put v k).brg p (w.F v).toNat now (w.got p))
  | _,_=>(5,w)
def Sw.nums (w:Sw) (t now:Int):Prop:=0≤t∧t < (w.pg:Nat) * 64∧0≤now∧now≤1000000000000
instance (w:Sw) (t now:Int):Decidable (w.nums t now):=by unfold Sw.nums;infer_instance
def Sw.is (w:Sw) (p:Nat):Prop:=0≤w.F p∨0≤w.T p
instance (w:Sw) (p:Nat):Decidable (w.is p):=by unfold Sw.is;infer_instance
def Sw.read (w:Sw) (t now:Int):Int × Int × Sw :=
 if ¬ w.nums t now then (0,7,w) else if ¬ w.is (t.toNat / 64) then (0,0,w) else
 if (w.touch (t.toNat / 64) now).1=0 then (((w.touch (t.toNat / 64) now).2.s.read ((w.touch (t.toNat / 64) now).2.F (t.toNat / 64) * 64+t % 64)).1,((w.touch (t.toNat / 64) now).2.s.read ((w.touch (t.toNat / 64) now).2.F (t.toNat / 64) * 64+t % 64)).2,(w.touch (t.toNat / 64) now).2)
 else (0,(w.touch (t.toNat / 64) now).1,(w.touch (t.toNat / 64) now).2)
def Sw.byte (w:Sw) (t v:Int):Int × Sw:=((w.s.write (w.F (t.toNat / 64) * 64+t % 64) v).1,{ w with s:=(w.s.write (w.F (t.toNat / 64) * 64+t % 64) v).2 })
def Sw.write (w:Sw) (t now v:Int):Int × Sw :=
 if ¬ w.nums t now then (7,w) else
 if (w.touch (t.toNat / 64) now).1=0 then (w.touch (t.toNat / 64) now).2.byte t v else w.touch (t.toNat / 64) now
def Sw.gone (w:Sw) (f:Int):Sw:={ w with s:=(w.s.chg f 1 2 1 3).2 }
def Sw.out (w:Sw) (p:Int):Int × Sw :=
 if ¬ (0≤p∧p < (w.pg:Nat)) then (7,w) else if w.F p.toNat < 0 then (4,w) else match w.slot (-1) with
 | none=>(5,w)
 | some k=>(0,(w.put p.toNat k).gone (w.F p.toNat))
def Sw.fre (w:Sw) (p:Int):Int × Sw :=
 if ¬ (0≤p∧p < (w.pg:Nat)) then (7,w) else if ¬ w.is p.toNat then (4,w) else
 (0,if 0≤w.F p.toNat then Sw.gone { w with F:=E9 w.F p.toNat (-1),T:=E9 w.T p.toNat (-1),Z:=E9 w.Z p.toNat 0 } (w.F p.toNat) else { w with F:=E9 w.F p.toNat (-1),T:=E9 w.T p.toNat (-1),Z:=E9 w.Z p.toNat 0 })
structure D7 (w:Sw):Prop where
 good:GoodS w.s
 rng:1≤w.n∧w.a+w.n≤1024∧1≤w.pg∧w.pg≤256∧w.sl≤256
 kind:∀ f,w.a≤f→f < w.a+w.n→(w.s.K f=1∨w.s.K f=2)∧w.s.M f=false
 far:∀ p,w.pg≤p→w.F p = -1∧w.T p = -1
 fr:∀ p,w.F p = -1∨(w.T p = -1∧∃ f:Nat,w.F p=(f:Nat)∧w.a≤f∧f < w.a+w.n∧w.s.K f=2)
 sl:∀ p,w.T p = -1∨(w.F p = -1∧∃ k:Nat,w.T p=(k:Nat)∧k < w.sl)
 oneF:∀ p q,0≤w.F p→w.F p=w.F q→p=q
 oneT:∀ p q,0≤w.T p→w.T p=w.T q→p=q
 st:∀ p,0≤w.Z p∧w.Z p≤1000000000000
 cnt:0≤w.ins∧w.ins≤1000000000∧0≤w.outs∧w.outs≤1000000000
end Go.Pol
namespace Go.Pol
open Go.Am Go.Proofs.Ytbhgfoikbkaohaa.Sh
section
variable {w:Sw}
theorem C8 {f:Nat→Int} {i:Nat} {v:Int}:E9 f i v i=v:=if_pos rfl
theorem upd_ne {f:Nat→Int} {i j:Nat} {v:Int} (h:j ≠ i):E9 f i v j=f j:=if_neg h
theorem Y7 {f:Nat} (h:w.free=some f):w.a≤f∧f < w.a+w.n∧¬ w.heldF f:=by
 have h1:=List.mem_of_find?_eq_some h
 have h2:=List.find?_some h
 rw [List.mem_range'_1] at h1
 exact ⟨h1.1,h1.2,by simpa using h2⟩
theorem BM7 (h:w.free=none):∀ f,w.a≤f→f < w.a+w.n→w.heldF f:=fun f h1 h2=>by
 have:=List.find?_eq_none.1 h f (List.mem_range'_1.2 ⟨h1,h2⟩)
 simpa using this
theorem AD9 {g:Int} {k:Nat} (h:w.slot g=some k):k < w.sl∧(((k:Nat):Int)=g∨¬ w.heldT k):=by
 have h1:=List.mem_of_find?_eq_some h
 have h2:=List.find?_some h
 exact ⟨List.mem_range.1 h1,by simpa using h2⟩
theorem AK8:∀ m,(∀ v,w.vicN m=some v→v < m∧0≤w.F v∧∀ q,q < m→0≤w.F q→w.Z v < w.Z q∨(w.Z v=w.Z q∧v≤q))∧(w.vicN m=none→∀ q,q < m→w.F q < 0)
 | 0=>⟨fun v h=>(by cases h),fun _ q hq=>(by omega)⟩
 | m+1=>by
  obtain ⟨i1,i2⟩:=AK8 m
  unfold Sw.vicN
  by_cases h0:0≤w.F m
  ·rw [if_pos h0]
   cases hv:w.vicN m with
   | none =>
    refine ⟨fun v h=>?_,fun h=>by cases h⟩
    cases h
    refine ⟨by omega,h0,fun q hq hF=>?_⟩
    by_cases e:q=m
    ·subst e;exact .inr ⟨rfl,Nat.le_refl _⟩
    ·have:=i2 hv q (by omega);omega
   | some b =>
    obtain ⟨j1,j2,j3⟩:=i1 b hv
    dsimp only
    by_cases hlt:w.Z m < w.Z b
    ·rw [if_pos hlt]
     refine ⟨fun v h=>?_,fun h=>by cases h⟩
     cases h
     refine ⟨by omega,h0,fun q hq hF=>?_⟩
     by_cases e:q=m
     ·subst e;exact .inr ⟨rfl,Nat.le_refl _⟩
     ·have:=j3 q (by omega) hF;omega
    ·rw [if_neg hlt]
     refine ⟨fun v h=>?_,fun h=>by cases h⟩
     cases h
     refine ⟨by omega,j2,fun q hq hF=>?_⟩
     by_cases e:q=m
     ·subst e;omega
     ·exact j3 q (by omega) hF
  ·rw [if_neg h0]
   refine ⟨fun v h=>?_,fun h q hq=>?_⟩
   ·obtain ⟨j1,j2,j3⟩:=i1 v h
    refine ⟨by omega,j2,fun q hq hF=>j3 q ?_ hF⟩
    by_cases e:q=m
    ·subst e;exact absurd hF h0
    ·omega
   ·by_cases e:q=m
    ·subst e;omega
    ·exact i2 h q (by omega)
inductive SwT (w:Sw) (p:Nat) (now:Int):Int × Sw→Prop
 | here (h:0≤w.F p):SwT w p now (0,{ w with Z:=E9 w.Z p now })
 | no (f:Nat) (s':Sy) (e:Int) (hn:¬ 0≤w.F p) (hf:w.free=some f) (hk:w.s.K f=1) (hc:w.s.chg (f:Nat) 1 1 2 2=(e,s')) (he:e ≠ 0):SwT w p now (e,{ w with s:=s' })
 | new (f:Nat) (s':Sy) (hn:¬ 0≤w.F p) (hf:w.free=some f) (hs:(w.s.K f ≠ 1∧s'=w.s)∨(w.s.K f=1∧w.s.chg (f:Nat) 1 1 2 2=(0,s'))):SwT w p now (0,Sw.brg { w with s:=s' } p f now (w.got p))
 | full (hn:¬ 0≤w.F p) (hf:w.free=none) (hs:w.slot (w.T p)=none∨w.vic=none):SwT w p now (5,w)
 | swp (k v:Nat) (hn:¬ 0≤w.F p) (hf:w.free=none) (hk:w.slot (w.T p)=some k) (hv:w.vic=some v):SwT w p now (0,(w.put v k).brg p (w.F v).toNat now (w.got p))
theorem AK9 (p:Nat) (now:Int):SwT w p now (w.touch p now):=by
 unfold Sw.touch
 split
 ·rename_i h;exact .here h
 rename_i hn
 cases hf:w.free with
 | some f =>
  dsimp only
  split
  ·rename_i hk
   cases hc:w.s.chg (f:Nat) 1 1 2 2 with
   | mk e s' =>
    dsimp only
    split
    ·rename_i he;subst he;exact .new f s' hn hf (.inr ⟨hk,hc⟩)
    ·rename_i he;exact .no f s' e hn hf hk hc he
  ·rename_i hk;exact .new f w.s hn hf (.inl ⟨hk,rfl⟩)
 | none =>
  dsimp only
  cases hk:w.slot (w.T p) with
  | none=>exact .full hn hf (.inl hk)
  | some k =>
   cases hv:w.vic with
   | none=>exact .full hn hf (.inr hv)
   | some v=>exact .swp k v hn hf hk hv
theorem BB7 {x:Int} (h:0≤x∧x≤1000000000):0≤AZ2 x∧AZ2 x≤1000000000:=by unfold AZ2;split<;>omega
theorem AR0 (h:D7 w) {s':Sy} (hg:GoodS s') (hk:∀ f,w.a≤f→f < w.a+w.n→(s'.K f=1∨s'.K f=2)∧s'.M f=false) (hu:∀ f,w.heldF f→s'.K f=2):D7 { w with s:=s' }:=by
 refine ⟨hg,h.rng,hk,h.far,fun p=>?_,h.sl,h.oneF,h.oneT,h.st,h.cnt⟩
 rcases h.fr p with h1 | ⟨h1,f,h2,h3,h4,h5⟩
 ·exact .inl h1
 ·refine .inr ⟨h1,f,h2,h3,h4,hu f ⟨p,?_,h2⟩⟩
  by_cases hp:p < w.pg
  ·exact hp
  ·have:=(h.far p (by omega)).1;omega
theorem BG5 (h:D7 w) {p f:Nat} {now:Int} {x:Nat→Int} (hp:p < w.pg) (hn:¬ 0≤w.F p) (hf:w.a≤f∧f < w.a+w.n) (hh:¬ w.heldF f) (hk:w.s.K f=2) (hnow:0≤now∧now≤1000000000000):D7 (w.brg p f now x):=by
 have hno:∀ q,w.F q ≠ (f:Nat):=fun q hq=>hh ⟨q,by
  by_cases hp:q < w.pg
  ·exact hp
  ·have:=(h.far q (by omega)).1;omega,hq⟩
 refine ⟨good_page h.good hk,h.rng,h.kind,fun q hq=>?_,fun q=>?_,fun q=>?_,fun q r h1 h2=>?_,fun q r h1 h2=>?_,fun q=>?_,?_⟩
 ·have hq:w.pg≤q:=hq
  exact ⟨(upd_ne (by omega)).trans (h.far q hq).1,(upd_ne (by omega)).trans (h.far q hq).2⟩
 ·show E9 w.F p (f:Nat) q = -1∨(E9 w.T p (-1) q = -1∧∃ g:Nat,E9 w.F p (f:Nat) q=(g:Nat)∧w.a≤g∧g < w.a+w.n∧w.s.K g=2)
  by_cases e:q=p
  ·subst e;rw [C8,C8];exact .inr ⟨rfl,f,rfl,hf.1,hf.2,hk⟩
  ·rw [upd_ne e,upd_ne e];exact h.fr q
 ·show E9 w.T p (-1) q = -1∨(E9 w.F p (f:Nat) q = -1∧∃ k:Nat,E9 w.T p (-1) q=(k:Nat)∧k < w.sl)
  by_cases e:q=p
  ·subst e;rw [C8];exact .inl rfl
  ·rw [upd_ne e,upd_ne e];exact h.sl q
 ·have h1:0≤E9 w.F p (f:Nat) q:=h1
  have h2:E9 w.F p (f:Nat) q=E9 w.F p (f:Nat) r:=h2
  by_cases e:q=p
  ·by_cases e2:r=p
   ·rw [e,e2]
   ·rw [e,C8,upd_ne e2] at h2;exact absurd h2.symm (hno r)
  ·by_cases e2:r=p
   ·rw [upd_ne e,e2,C8] at h2;exact absurd h2 (hno q)
   ·rw [upd_ne e] at h1 h2;rw [upd_ne e2] at h2;exact h.oneF q r h1 h2
 ·have h1:0≤E9 w.T p (-1) q:=h1
  have h2:E9 w.T p (-1) q=E9 w.T p (-1) r:=h2
  by_cases e:q=p
  ·rw [e,C8] at h1;exact absurd h1 (by decide)
  ·by_cases e2:r=p
   ·rw [upd_ne e] at h1 h2;rw [e2,C8] at h2;omega
   ·rw [upd_ne e] at h1 h2;rw [upd_ne e2] at h2;exact h.oneT q r h1 h2
 ·show 0≤E9 w.Z p now q∧E9 w.Z p now q≤1000000000000
  by_cases e:q=p
  ·subst e;rw [C8];exact hnow
  ·rw [upd_ne e];exact h.st q
 ·obtain ⟨c1,c2,c3,c4⟩:=h.cnt
  have:=BB7 ⟨c1,c2⟩
  show 0≤(if 0≤w.T p then AZ2 w.ins else w.ins)∧(if 0≤w.T p then AZ2 w.ins else w.ins)≤1000000000∧0≤w.outs∧w.outs≤1000000000
  split<;>omega
theorem As9 (h:D7 w) {v k:Nat} (hv:v < w.pg) (h0:0≤w.F v) (hk:k < w.sl) (hh:¬ w.heldT k):D7 (w.put v k):=by
 have hno:∀ q,w.T q ≠ (k:Nat):=fun q hq=>hh ⟨q,by
  by_cases hp:q < w.pg
  ·exact hp
  ·have:=(h.far q (by omega)).2;omega,hq⟩
 refine ⟨h.good,h.rng,h.kind,fun q hq=>?_,fun q=>?_,fun q=>?_,fun q r h1 h2=>?_,fun q r h1 h2=>?_,h.st,?_⟩
 ·have hq:w.pg≤q:=hq
  exact ⟨(upd_ne (by omega)).trans (h.far q hq).1,(upd_ne (by omega)).trans (h.far q hq).2⟩
 ·show E9 w.F v (-1) q = -1∨(E9 w.T v (k:Nat) q = -1∧∃ g:Nat,E9 w.F v (-1) q=(g:Nat)∧w.a≤g∧g < w.a+w.n∧w.s.K g=2)
  by_cases e:q=v
  ·subst e;rw [C8];exact .inl rfl
  ·rw [upd_ne e,upd_ne e];exact h.fr q
 ·show E9 w.T v (k:Nat) q = -1∨(E9 w.F v (-1) q = -1∧∃ g:Nat,E9 w.T v (k:Nat) q=(g:Nat)∧g < w.sl)
  by_cases e:q=v
  ·subst e;rw [C8,C8];exact .inr ⟨rfl,k,rfl,hk⟩
  ·rw [upd_ne e,upd_ne e];exact h.sl q
 ·have h1:0≤E9 w.F v (-1) q:=h1
  have h2:E9 w.F v (-1) q=E9 w.F v (-1) r:=h2
  by_cases e:q=v
  ·rw [e,C8] at h1;exact absurd h1 (by decide)
  ·by_cases e2:r=v
   ·rw [upd_ne e] at h1 h2;rw [e2,C8] at h2;omega
   ·rw [upd_ne e] at h1 h2;rw [upd_ne e2] at h2;exact h.oneF q r h1 h2
 ·have h1:0≤E9 w.T v (k:Nat) q:=h1
  have h2:E9 w.T v (k:Nat) q=E9 w.T v (k:Nat) r:=h2
  by_cases e:q=v
  ·by_cases e2:r=v
   ·rw [e,e2]
   ·rw [e,C8,upd_ne e2] at h2;exact absurd h2.symm (hno r)
  ·by_cases e2:r=v
   ·rw [upd_ne e,e2,C8] at h2;exact absurd h2 (hno q)
   ·rw [upd_ne e] at h1 h2;rw [upd_ne e2] at h2;exact h.oneT q r h1 h2
 ·obtain ⟨c1,c2,c3,c4⟩:=h.cnt
  have:=BB7 ⟨c3,c4⟩
  exact ⟨c1,c2,this.1,this.2⟩
end
end Go.Pol
namespace Go.Pol
open Go.Am Go.Proofs.Ytbhgfoikbkaohaa.Sh
section
variable {w:Sw}
theorem AC8 (h:D7 w) {p:Nat} (h0:0≤w.F p):p < w.pg:=by
 by_cases hp:p < w.pg
 ·exact hp
 ·have:=(h.far p (by omega)).1;omega
theorem AM0 (h:D7 w) {p:Nat} (h0:0≤w.T p):p < w.pg:=by
 by_cases hp:p < w.pg
 ·exact hp
 ·have:=(h.far p (by omega)).2;omega
def Sw.off (w:Sw) (p:Nat):Sw:={ w with T:=E9 w.T p (-1) }
theorem good_off (h:D7 w) {p:Nat} (hn:¬ 0≤w.F p):D7 (w.off p):=by
 refine ⟨h.good,h.rng,h.kind,fun q hq=>⟨(h.far q hq).1,?_⟩,fun q=>?_,fun q=>?_,h.oneF,fun q r h1 h2=>?_,h.st,h.cnt⟩
 ·show E9 w.T p (-1) q = -1
  by_cases e:q=p
  ·rw [e,C8]
  ·rw [upd_ne e];exact (h.far q hq).2
 ·show w.F q = -1∨(E9 w.T p (-1) q = -1∧∃ f:Nat,w.F q=(f:Nat)∧w.a≤f∧f < w.a+w.n∧w.s.K f=2)
  by_cases e:q=p
  ·rcases h.fr q with h1 | ⟨h1,h2⟩
   ·exact .inl h1
   ·exact .inr ⟨by rw [e,C8],h2⟩
  ·rw [upd_ne e];exact h.fr q
 ·show E9 w.T p (-1) q = -1∨(w.F q = -1∧∃ k:Nat,E9 w.T p (-1) q=(k:Nat)∧k < w.sl)
  by_cases e:q=p
  ·exact .inl (by rw [e,C8])
  ·rw [upd_ne e];exact h.sl q
 ·have h1:0≤E9 w.T p (-1) q:=h1
  have h2:E9 w.T p (-1) q=E9 w.T p (-1) r:=h2
  by_cases e:q=p
  ·rw [e,C8] at h1;exact absurd h1 (by decide)
  ·by_cases e2:r=p
   ·rw [upd_ne e] at h1 h2;rw [e2,C8] at h2;omega
   ·rw [upd_ne e] at h1 h2;rw [upd_ne e2] at h2;exact h.oneT q r h1 h2
theorem put_brg {p v k f:Nat} {now:Int} {x:Nat→Int} (hne:v ≠ p):(w.put v k).brg p f now x={ ((w.off p).put v k).brg p f now x with ins:=if 0≤w.T p then AZ2 w.ins else w.ins }:=by
 unfold Sw.brg Sw.put Sw.off
 simp only [upd_ne hne.symm,Sw.mk.injEq,true_and,and_true]
 funext q
 by_cases e:q=p
 ·rw [e,C8,C8]
 ·rw [upd_ne e,upd_ne e]
  by_cases e2:q=v
  ·rw [e2,C8,C8]
  ·rw [upd_ne e2,upd_ne e2,upd_ne e]
theorem good_ins (h:D7 w) {i:Int} (hi:0≤i∧i≤1000000000):D7 { w with ins:=i }:=⟨h.good,h.rng,h.kind,h.far,h.fr,h.sl,h.oneF,h.oneT,h.st,hi.1,hi.2,h.cnt.2.2⟩
theorem BM6 (h:D7 w) {p:Nat} {now:Int} (hnow:0≤now∧now≤1000000000000):D7 { w with Z:=E9 w.Z p now }:=⟨h.good,h.rng,h.kind,h.far,h.fr,h.sl,h.oneF,h.oneT,fun q=>by
 show 0≤E9 w.Z p now q∧E9 w.Z p now q≤1000000000000
 by_cases e:q=p
 ·subst e;rw [C8];exact hnow
 ·rw [upd_ne e];exact h.st q,h.cnt⟩
theorem comW (h:D7 w) {f:Nat} (hf:w.a≤f∧f < w.a+w.n) {e:Int} {s':Sy} (hk:w.s.K f=1) (hc:w.s.chg (f:Nat) 1 1 2 2=(e,s')):D7 { w with s:=s' }∧(e=0→s'.K f=2)∧s'.B=(if e=0 then fun p=>if p=f then fun _=>0 else w.s.B p else w.s.B):=by
 have hr:=h.rng
 have hm:=(h.kind f hf.1 hf.2).2
 rw [Am8 (by omega) hk hm] at hc
 have hu:∀ g,w.heldF g→w.s.K g=2:=fun g hg=>by
  obtain ⟨p,_,hp⟩:=hg
  rcases h.fr p with h1 | ⟨_,g',h2,_,_,h3⟩
  ·omega
  ·rw [show g=g' by omega];exact h3
 split at hc
 ·cases hc
  exact ⟨AR0 h (Al0 h.good) h.kind hu,fun h0=>absurd h0 (by decide),by rw [if_neg (by decide)];rfl⟩
 ·cases hc
  refine ⟨AR0 h (As8 h.good (by omega) (by decide) hk hm) (fun g h1 h2=>⟨?_,(h.kind g h1 h2).2⟩) fun g hg=>?_,fun _=>by rw [AM9,if_pos rfl],by rw [if_pos rfl];rfl⟩
  ·rw [AM9];split
   ·exact .inr rfl
   ·exact (h.kind g h1 h2).1
  ·rw [AM9];split
   ·rfl
   ·exact hu g hg
theorem AA4 (h:D7 w) {p:Nat} {now:Int} (hp:p < w.pg) (hnow:0≤now∧now≤1000000000000):D7 (w.touch p now).2:=by
 have hs:=AK9 (w:=w) p now
 generalize w.touch p now=q at hs
 cases hs with
 | here h0=>exact BM6 h hnow
 | no f s' e hn hf hk hc he =>
  obtain ⟨f1,f2,f3⟩:=Y7 hf
  exact (comW h ⟨f1,f2⟩ hk hc).1
 | new f s' hn hf hs =>
  obtain ⟨f1,f2,f3⟩:=Y7 hf
  have hg:D7 { w with s:=s' }∧s'.K f=2:=by
   rcases hs with ⟨h1,rfl⟩ | ⟨h1,h2⟩
   ·exact ⟨h,(h.kind f f1 f2).1.resolve_left h1⟩
   ·obtain ⟨c1,c2,_⟩:=comW h ⟨f1,f2⟩ h1 h2
    exact ⟨c1,c2 rfl⟩
  exact BG5 (w:={ w with s:=s' }) hg.1 hp hn ⟨f1,f2⟩ f3 hg.2 hnow
 | full hn hf hs=>exact h
 | swp k v hn hf hk hv =>
  obtain ⟨v1,v2,v3⟩:=(AK8 (w:=w) w.pg).1 v hv
  obtain ⟨k1,k2⟩:=AD9 hk
  have hne:v ≠ p:=fun e=>hn (e▸v2)
  rw [put_brg hne]
  have ho:=good_off h hn
  have hkh:¬ (w.off p).heldT k:=by
   rintro ⟨q,hq,he⟩
   have he:E9 w.T p (-1) q=(k:Nat):=he
   by_cases e:q=p
   ·rw [e,C8] at he;omega
   ·rw [upd_ne e] at he
    rcases k2 with k2|k2
    ·exact e (h.oneT q p (by omega) (by omega))
    ·exact k2 ⟨q,hq,he⟩
  obtain ⟨f,hf1,hf2,hf3,hf4⟩:∃ f:Nat,w.F v=(f:Nat)∧w.a≤f∧f < w.a+w.n∧w.s.K f=2:=by
   rcases h.fr v with h1 | ⟨_,h2⟩
   ·omega
   ·exact h2
  have hfn:(w.F v).toNat=f:=by omega
  have hp2:=As9 ho v1 v2 k1 hkh
  refine good_ins (BG5 hp2 hp (fun h3=>?_) ⟨by rw [hfn];exact hf2,by rw [hfn];exact hf3⟩ ?_ (by rw [hfn];exact hf4) hnow) ?_
  ·have h3:0≤E9 w.F v (-1) p:=h3
   rw [upd_ne hne.symm] at h3;exact hn h3
  ·rintro ⟨q,hq,he⟩
   have he:E9 w.F v (-1) q=((w.F v).toNat:Nat):=he
   by_cases e:q=v
   ·rw [e,C8] at he;omega
   ·rw [upd_ne e] at he;exact e (h.oneF q v (by omega) (by omega))
  ·obtain ⟨c1,c2,_,_⟩:=h.cnt
   have:=BB7 ⟨c1,c2⟩
   split<;>omega
end
end Go.Pol
