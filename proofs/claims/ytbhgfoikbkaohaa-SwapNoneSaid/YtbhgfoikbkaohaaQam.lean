/-
 Saved states,plain: runs,huge pages,data of a state.
 Loading of states,plain: what is saved is loaded;what is loaded is saved.
 The document's system: page,kinds,set,change and the calls,Join,Split.
 The document's system: change and the calls,Join,Split over the plain state.
 The document's system: Join,Split,bytes,kinds,counts,plans over the plain state.
 Are two states equal? (SamePlan,SameState,Same of the document.)
 New,Plan,Write,Read,Kind of both systems over the plain state.
 Write,Read,Kind of both systems over the plain state.
 Counts of both systems.
 Systems and sums: what stores use. Plain.
 A store of pages in frames and slots,plain: what each call does.
 A store of pages in frames and slots,plain: a touch keeps a good one.
 A store of pages in frames and slots,plain: calls keep a good one.
 A store of pages in frames and slots,plain: what pages have.
-/
import Derived.Test.YtbhgfoikbkaohaaVmB
set_option linter.unusedSimpArgs false
set_option linter.unusedVariables false
set_option maxHeartbeats 1600000
namespace Go.Pol
open Go.Am
structure Rn where
 p:Int
 n:Int
 k:Int
def rnA (r:Rn):List AV:=[.int .i64 r.p,.int .i64 r.n,.int .i64 r.k]
theorem z8 (r:Rn):∀ x ∈ rnA r,Plain x:=fun x hx=>by
 simp only [rnA,List.mem_cons,List.not_mem_nil,or_false] at hx
 rcases hx with rfl|rfl|rfl<;>exact A8
@[irreducible] def byA (b:Nat→Int):List AV:=(List.range 64).map fun j=>.int .u8 (b j)
@[simp] theorem by_len (b:Nat→Int):(byA b).length=64:=by unfold byA;simp
theorem BU2 (b:Nat→Int):∀ x ∈ byA b,Plain x:=fun x hx=>by
 unfold byA at hx
 obtain ⟨i,_,rfl⟩:=List.mem_map.1 hx
 exact A8
structure Dt where
 p:Int
 b:Nat→Int
def dtA (d:Dt):List AV:=.int .i64 d.p::byA d.b
theorem Aa2 (d:Dt):∀ x ∈ dtA d,Plain x:=fun x hx=>by
 rcases List.mem_cons.1 hx with rfl|hx
 ·exact A8
 ·exact BU2 _ x hx
def inA (u:Int):List AV:=[.int .i64 u]
theorem AY9 (u:Int):∀ x ∈ inA u,Plain x:=fun x hx=>by
 obtain rfl:=List.mem_singleton.1 hx;exact A8
def bump:List Rn→List Rn
 | [] => []
 | [r]=>[⟨r.p,r.n+1,r.k⟩]
 | r::r'::L=>r::bump (r'::L)
def Az1 (K:Nat→Int):Nat→List Rn
 | 0 => []
 | n+1=>if K n=0 then Az1 K n else if 0 < n∧K (n - 1)=K n then bump (Az1 K n) else Az1 K n++[⟨(n:Nat),1,K n⟩]
def BR0 (G:Nat→Bool):Nat→List Int
 | 0 => []
 | n+1=>if n % 16=0∧G (n / 16)=true then BR0 G n++[((n:Nat):Int)] else BR0 G n
def zeroB (f:Nat→Int):Prop:=∀ j,j < 64→f j=0
instance (f:Nat→Int):Decidable (zeroB f):=by unfold zeroB;infer_instance
def BT2 (B:Nat→Nat→Int):Nat→List Dt
 | 0 => []
 | n+1=>if zeroB (B n) then BT2 B n else BT2 B n++[⟨(n:Nat),B n⟩]
section
variable {K:Nat→Int} {G:Nat→Bool} {B:Nat→Nat→Int} {n p j:Nat}
end
structure Vs where
 R:List Rn
 U:List Int
 D:List Dt
 l:List Rl
 C:Nat→Int
 H:Nat→Int
def vsA (x:Vs):List AV:=.isl (x.R.map rnA) :: .isl (x.U.map inA) :: .isl (x.D.map dtA)::stA x.l x.C x.H
theorem F5 {α:Type} {f:α→List AV} {L:List α} (h:∀ a,∀ x ∈ f a,Plain x):Plain (.isl (L.map f)):=AG3 fun e he=>by
 obtain ⟨b,_,rfl⟩:=List.mem_map.1 he
 exact h b
theorem AX1 (x:Vs):∀ y ∈ vsA x,Plain y:=fun y hy=>by
 rcases List.mem_cons.1 hy with rfl|hy
 ·exact F5 z8
 rcases List.mem_cons.1 hy with rfl|hy
 ·exact F5 AY9
 rcases List.mem_cons.1 hy with rfl|hy
 ·exact F5 Aa2
 ·exact C8 y hy
theorem Ah1 {x:Vs}:Plain (.agg (vsA x)):=F9 (AX1 x)
def Sy.save (s:Sy):Vs:=⟨Az1 s.K 1024,BR0 s.G 1024,BT2 s.B 1024,s.l,s.C,s.H⟩
end Go.Pol
namespace Go.Pol
open Go.Am
section fold
variable {σ α:Type} {f:σ→α→Option σ}
def fo (f:σ→α→Option σ):List α→σ→Option σ
 | [],s=>some s
 | a::l,s=>match f s a with|none=>none|some s'=>fo f l s'
end fold
structure Sr where
 nx:Int
 la:Int
 K:Nat→Int
def badRn (s:Sr) (r:Rn):Prop:=r.p < s.nx∨r.n < 1∨1024 - r.p < r.n∨r.k < 1∨3 < r.k∨(r.p=s.nx∧r.k=s.la)
instance (s:Sr) (r:Rn):Decidable (badRn s r):=by unfold badRn;infer_instance
structure Sd where
 lo:Int
 B:Nat→Nat→Int
def r0:Sr:=⟨0,0,fun _=>0⟩
def d0:Sd:=⟨-1,fun _ _=>0⟩
section
variable {K K':Nat→Int} {n:Nat}
end
def badL (r:Rn):Prop:=r.p < 0∨1024≤r.p∨r.n < 1∨1024 - r.p < r.n∨r.k < 1∨3 < r.k
instance (r:Rn):Decidable (badL r):=by unfold badL;infer_instance
end Go.Pol
namespace Go.Pol
open Go.Am
def okV (K:Nat→Int) (a n:Nat) (v:Int):Prop:=∀ i,i < n→K (a+i)=v
instance (K:Nat→Int) (a n:Nat) (v:Int):Decidable (okV K a n v):=by unfold okV;infer_instance
end Go.Pol
namespace Go.Proofs.Ytbhgfoikbkaohaa
open Go Go.Am Go.Pol
section
variable {K:Nat→Int} {M G:Nat→Bool} {B:Nat→Nat→Int} {P:List AV}
end
end Go.Proofs.Ytbhgfoikbkaohaa
namespace Go.Pol
open Go.Am
end Go.Pol
namespace Go.Proofs.Ytbhgfoikbkaohaa
open Go Go.Am Go.Pol
section
variable {s:Sy} {a n:Int}
theorem AH8:∀ x ∈ s.b,Plain x:=by unfold Sy.b;exact AC7 C8
theorem H8:∀ x ∈ s.a,Plain x:=by unfold Sy.a;exact D8 C8
end
end Go.Proofs.Ytbhgfoikbkaohaa
namespace Go.Pol
open Go.Am
def Sy.write (s:Sy) (a b:Int):Int × Sy :=
 if a < 0∨65536≤a then (7,s) else if s.K (a.toNat / 64)=2 then (0,{ s with B:=AC2 s.B (a.toNat / 64) (E8 (s.B (a.toNat / 64)) (a.toNat % 64) b) }) else (61,s)
def Sy.read (s:Sy) (a:Int):Int × Int :=
 if a < 0∨65536≤a then (0,7) else if s.K (a.toNat / 64)=2 then (s.B (a.toNat / 64) (a.toNat % 64),0) else (0,61)
def Sy.kind (s:Sy) (a:Int):List AV :=
 if a < 0∨1024≤a then [.int .i64 0,.bool false,.int .i64 7] else [.int .i64 (s.K a.toNat),.bool (s.M a.toNat),.int .i64 0]
def Sy.new (l:List Rl):Sy:=⟨fun _=>0,fun _=>false,fun _ _=>0,l,fun _=>0,fun _=>0⟩
def Sy.plan (s:Sy) (l:List Rl):Int × Sy:=if (AS2 l).2=0 then (0,{ s with l:=l,C:=fun _=>0,H:=fun _=>0 }) else ((AS2 l).2,s)
theorem chkS_new {l:List Rl} (h:(AS2 l).2=0):Ar3 l (fun _=>0) (fun _=>0)=0:=by
 unfold Ar3
 rw [if_neg (by rw [h];simp),if_pos]
 intro k hk
 exact ⟨Int.le_refl _,by show (0:Int)≤1000000;decide,rfl⟩
theorem BB1 {l:List Rl} (h:(AS2 l).2=0):GoodS (Sy.new l):=⟨chkS_new h,fun _=>⟨Int.le_refl _,(by show (0:Int)≤3;decide)⟩,fun p hp=>(by cases hp),fun _ _=>rfl,fun _ _=>rfl,fun _ _ _=>rfl⟩
theorem BG5 {s:Sy} {a b:Int} (h:GoodS s):GoodS (s.write a b).2:=by
 unfold Sy.write
 split
 ·exact h
 ·split
  ·rename_i hk
   refine ⟨h.hv,h.kind,h.huge,fun p hp=>?_,h.cK,fun p j hj=>?_⟩
   ·show AC2 s.B _ _ p=_
    unfold AC2
    rw [if_neg fun e=>hp (by rw [e];exact hk)]
    exact h.zero p hp
   ·show AC2 s.B _ _ p j=0
    unfold AC2
    split
    ·unfold E8;rw [if_neg (by omega)];exact h.cB _ _ hj
    ·exact h.cB _ _ hj
  ·exact h
def Ac5 (K:Nat→Int) (v:Int):Nat→Nat
 | 0 => 0
 | n+1=>Ac5 K v n+if K n=v then 1 else 0
def cntG (G:Nat→Bool):Nat→Nat
 | 0 => 0
 | n+1=>cntG G n+if G n=true then 1 else 0
theorem Aa5 {K:Nat→Int} {v:Int}:∀ n,Ac5 K v n≤n
 | 0=>Nat.le_refl _
 | n+1=>by have:=Aa5 (K:=K) (v:=v) n;unfold Ac5;split<;>omega
def Sy.counts (s:Sy):List AV:=[.int .i64 (Ac5 s.K 0 1024:Nat),.int .i64 (Ac5 s.K 1 1024:Nat),.int .i64 (Ac5 s.K 2 1024:Nat),.int .i64 (Ac5 s.K 3 1024:Nat),.int .i64 (cntG s.G 64:Nat)]
theorem quo64 {a:Int} (h:0≤a) (h2:a < 100000):IntKind.i64.wrap (a.tdiv 64)=((a.toNat / 64:Nat):Int):=by
 rw [Int.tdiv_eq_ediv_of_nonneg h,IntWalk.i64_in _ ⟨by omega,by omega⟩];omega
theorem rem64 {a:Int} (h:0≤a):a.tmod 64=((a.toNat % 64:Nat):Int):=by
 rw [Int.tmod_eq_emod_of_nonneg h];omega
end Go.Pol
namespace Go.Proofs.Ytbhgfoikbkaohaa
open Go Go.Am Go.Pol
section
variable {s:Sy} {a:Int}
end
end Go.Proofs.Ytbhgfoikbkaohaa
namespace Go.Pol
open Go.Am
end Go.Pol
namespace Go.Proofs.Ytbhgfoikbkaohaa
open Go Go.Am Go.Pol
theorem plx_Tl {p:Prop} (h:p:=by ((first|exact plw|(with_reducible first|apply AE2|apply J4|apply O1|apply j5|apply U7|apply AD0|apply AC9|apply AI4|apply AO2|apply AU8|apply AA2|apply AC8|apply F5 z8|apply F5 AY9|apply F5 Aa2|apply Ah1|fail)|fail);first|done|fail)):p:=h
theorem ppx_Tl {p:Prop} (h:p:=by ((first|with_reducible assumption|(with_reducible first|apply I4 _|apply O8 I4|apply C8|apply AX1 _|fail)|exact ppw|fail);first|done|fail)):p:=h
open Go.Proofs.Ytbhgfoikbkaohaa renaming plx_Tl → plx
open Go.Proofs.Ytbhgfoikbkaohaa renaming ppx_Tl → ppx
section
variable {l m:List Rl} {C H C' H':Nat→Int}
end
end Go.Proofs.Ytbhgfoikbkaohaa
namespace Go.Pol
open Go.Am
theorem BM6 {z:List AV} (hz:0 < z.length):∀ {n i:Nat},i < n * z.length→((List.replicate n z).flatten)[i]? = z[i % z.length]?
 | 0,i,h=>by omega
 | n+1,i,h=>by
  rw [List.replicate_succ,List.flatten_cons]
  by_cases hi:i < z.length
  ·rw [List.getElem?_append_left hi,Nat.mod_eq_of_lt hi]
  ·rw [List.getElem?_append_right (by omega),BM6 hz (by rw [Nat.succ_mul] at h;omega)]
   congr 1
   conv=>rhs;rw [show i=(i - z.length)+z.length by omega,Nat.add_mod_right]
theorem Ag6 {z:List AV} {n:Nat}:((List.replicate n z).flatten).length=n * z.length:=by simp
def zP:List AV:=.nils::List.replicate 14 (.int .i64 0)
theorem zP_len:zP.length=15:=rfl
theorem zP_get {m:Nat} (h:m < 15):zP[m]? = some (zP[m]?.getD .undef):=by
 rw [List.getElem?_eq_getElem (by rw [zP_len];exact h)];rfl
theorem AY2:pg0.length=66:=rfl
theorem pg0_get {j:Nat} (h:j < 66):pg0[j]? = some (Ac1 (fun _=>0) (fun _=>false) (fun _ _=>0) 0 j):=by
 unfold Ac1 pg0
 match j with
 | 0=>rfl
 | 1=>rfl
 | j+2=>rw [if_neg (by omega),if_neg (by omega),List.getElem?_cons_succ,List.getElem?_cons_succ,List.getElem?_replicate,if_pos (by omega)]
theorem Ay6:Aq9.length=67600:=by unfold Aq9;rw [List.length_cons,List.length_append,Ag6];rfl
theorem sysZ_0:Aq9.set 0 (.bool true)=sysB (fun _=>0) (fun _=>false) (fun _ _=>0) zP:=by
 refine List.ext_getElem? fun i=>?_
 by_cases hi:i < 67600
 ·unfold sysB
  rw [V3 hi]
  unfold Aq9 sysF
  rw [List.set_cons_zero]
  by_cases h0:i=0
  ·rw [if_pos h0,h0];rfl
  ·rw [if_neg h0]
   obtain ⟨k,rfl⟩:∃ k,i=k+1:=⟨i - 1,by omega⟩
   rw [List.getElem?_cons_succ]
   by_cases h1:k+1 < 67585
   ·rw [if_pos h1,List.getElem?_append_left (by rw [Ag6,AY2];omega),BM6 (by decide) (by rw [AY2];omega),AY2,pg0_get (by omega)]
    rw [Nat.add_sub_cancel];rfl
   ·rw [if_neg h1,List.getElem?_append_right (by rw [Ag6,AY2];omega),Ag6,AY2,show k - 1024 * 66=k+1 - 67585 by omega]
    have hm:k+1 - 67585 < 15:=by omega
    generalize k+1 - 67585=m at *
    exact zP_get hm
 ·rw [List.getElem?_eq_none (by rw [List.length_set,Ay6];omega),List.getElem?_eq_none (by rw [AP8];omega)]
theorem new_a {l:List Rl} {o:Nat} {z:List AV} (hz:z=Aq9) (h:o=67585):over (z.set 0 (.bool true)) o (stA l (fun _=>0) fun _=>0)=(Sy.new l).a:=by
 rw [hz,sysZ_0,AS8 h rfl];unfold Sy.a;rfl
theorem a_made {s:Sy}:s.a[0]? = some (.bool true):=by unfold Sy.a;exact AI0
theorem BK1 {z:List AV} (hz:z=Aq9):z.length=67600:=by rw [hz,Ay6]
end Go.Pol
namespace Go.Proofs.Ytbhgfoikbkaohaa
open Go Go.Am Go.Pol
theorem Ao8:∀ {l:List (Nat × AObj)} {k:List (Nat × AObj)→Prop},k l→AU2 [] l k
 | [],_,h=>h
 | a::l,k,h=>Ao8 (l:=l) (k:=fun r=>k (a::r)) h
structure LocN (f:Nat) (avs:List AV) (e:Int) (ds:List AV):Prop where
 out:AW4 Try.prog G0 f avs [] 0 fun x h=>x = .tup [.ptr 0 0,.int .i64 e]∧h=⟨[(0,.cells ds)],1⟩
 pd:∀ x ∈ ds,Plain x
 pa:∀ x ∈ avs,Plain x
theorem end_new {top:Bool} {h:Hp} {x:AV} {i:Nat} {cs ds:List AV} {e:Int} (hx:x = .tup [.ptr i 0,.int .i64 e]) (hc:cs=ds) (h0:lk h.l i=some (.cells cs)) (pd:∀ x ∈ ds,Plain x):AW5 top Try.prog 0 h x (fun r' h'=>r' = .tup [.ptr 0 0,.int .i64 e]∧h'=⟨[(0,.cells ds)],1⟩):=by
 subst hx;subst hc
 have e0:rn [(0,i)] 0=i:=rfl
 have hs:AM9 (rn [(0,i)]) h ⟨[(0,.cells cs)],1⟩:=fun j o hj=>by
  simp only [lk] at hj
  split at hj
  ·rename_i e;subst e;exact ⟨_,h0⟩
  ·cases hj
 exact AH4 [(0,i)] rfl (Nat.zero_le _) (Q8 rfl) (Ay1 (D5 (AC1 e0 (show 0 < 1 by decide)) (D5 (K7 rfl) N9))) (I6 hs (show 0 < 1 by decide) (by rw [e0];exact h0) rfl pd M7) ⟨rfl,rfl⟩
theorem BT4 {f nx:Nat} {avs:List AV} {e:Int} {ds:List AV} {l:List (Nat × AObj)} {K:AV→Hp→Prop} (hc:LocN f avs e ds) (hk:K (.tup [.ptr nx 0,.int .i64 e]) ⟨(nx,.cells ds)::l,nx+1⟩):AK8 Try.prog G0 (.fn f [] []) avs ⟨l,nx⟩ K:=by
 have k0:back [] nx 0 nx:=rfl
 refine Aa4 (r':=.tup [.ptr nx 0,.int .i64 e]) (l1:=[(nx,.cells ds)]) [] hc.out K3 rfl .nil (by simpa using E5 hc.pa) (by simp) (rn_tup ⟨Y8 k0,F7 A8,trivial⟩)
  (.cons k0 (E5 hc.pd) .nil) (Ao8 hk)
theorem wtf {p q:Prop} (hq:q) (h:Y7 q→p:=by (intro hQz;((repeat' ((try (conv=>whnf));first|(with_reducible first|refine L8 ?_|refine I7 ?_|refine M4 ?_|refine M6 ?_|refine J3 ?_|refine R8 ?_|refine K9 ?_|refine R7 rfl ?_|refine L6 ?_|refine G8 ?_|refine I9 ?_|refine J2 ?_|refine M5 ?_|refine G7 ?_|refine I8 (by decide +kernel) ?_|refine H9 (by decide +kernel) ?_|refine AF4 ?_|refine AF5 ?_|refine Ar4 ?_|refine Z9 ?_|refine AK5 ?_|refine Ak7 (by assumption) ?_|refine Ak8 (by assumption) ?_|refine Z7 (by omega) ?_|refine AK4 ?_)|((with_reducible refine AK6 ?_ ?_);focus omega)|((with_reducible refine AK7 ?_ ?_);focus omega)|((with_reducible apply V7 hQz)<;>(try intro hsp hQz))|((with_reducible refine Ar2 ?_ ?_);focus (first|omega|rfl|assumption|decide|(simp only [List.length_map,List.length_cons,List.length_nil];omega)))|(with_reducible first|refine AK1 ?_|refine Z6 ?_|refine Z5 ?_|refine AK3 ?_|refine AK2 ?_|refine AJ9 ?_|refine Ar1 ?_|refine G5 ?_|refine Y9 ?_|refine M0 ?_|refine L9 ?_|refine G6 ?_|refine AK0 (by omega) ?_|refine Z4 (by omega) ?_)|refine J5 (by with_reducible assumption) ?_|refine J5 a_made ?_|refine AH3 (by with_reducible assumption) ?_|refine AI7 (by first|(simp only [List.length_cons,List.length_nil,List.length_set];omega)|fail) (by with_reducible assumption) ?_|(with_reducible first|refine AB3 ?_|refine Ar6.mk (by kernel_rfl) ?_|refine AD7 rfl ?_|refine AB6 (by decide +kernel) ?_|refine AB4 rfl ?_)|refine S9 (by assumption) rfl (by omega) ?_|refine AP2 (by assumption) rfl rfl ?_|refine O4 (by assumption) ?_|refine Q0 (by assumption) ?_|refine P8 (by assumption) ?_|(refine R4 F6 b37 rfl ?_;unfold c37)|refine G5 ?_|refine G6 ?_|refine AS0 rfl rfl ?_|refine X8 ?_|refine R3 rfl ?_|refine AS5 rfl ?_|refine AQ4 rfl ?_|refine AC6 rfl ?_|refine N7 ?_|refine Ax9.mk ?_|((with_reducible apply V8 hQz)<;>(try intro hsp hQz))|exact hQz.out))<;>(try (conv=>whnf))))):p:=h ⟨hq⟩
section
variable {s:Sy} {l:List Rl} {i e:Int}
theorem p_new (hc:AS2 l=(i,0)):LocN 29 [.agg [.isl (l.map rlA)]] 0 (Sy.new l).a:=by
 have z:=k_start hc (by have:=(BC7 hc).2;omega)
 refine LocN.mk (J6 F6 b29 rfl ?_) H8 (R9 O1)
 unfold c29
 obtain ⟨o,ho⟩:∃ o,o=67585:=⟨_,rfl⟩
 obtain ⟨y,hy⟩:∃ y,y=Aq9:=⟨_,rfl⟩
 rw [← ho,← hy]
 have hl:=BK1 hy
 have hov:=new_a (l:=l) hy ho
 unfold stA at hov
 (refine wtf ?_;repeat' (first|with_reducible refine And.intro ?_ ?_|intro hsp))
 rw [show Nat.ble (0+1) y.length=true from Nat.ble_eq_true_of_le (by omega)]
 (refine wtf ?_;repeat' (first|with_reducible refine And.intro ?_ ?_|intro hsp))
 refine AB0 (by omega) rfl ?_
 (refine wtf ?_;repeat' (first|with_reducible refine And.intro ?_ ?_|intro hsp))
 rw [show Nat.ble (o+15) (y.set 0 (.bool true)).length=true from Nat.ble_eq_true_of_le (by rw [List.length_set];omega)]
 (refine wtf ?_;repeat' (first|with_reducible refine And.intro ?_ ?_|intro hsp))
 all_goals exact end_new rfl rfl rfl H8
end
end Go.Proofs.Ytbhgfoikbkaohaa
namespace Go.Pol
open Go.Am
theorem q64 {t:Nat} (h:t < 100000):IntKind.i64.wrap (((t:Nat):Int).tdiv 64)=((t / 64:Nat):Int):=quo64 (a:=(t:Nat)) (by omega) (by omega)
theorem m64 {t:Nat}:((t:Nat):Int).tmod 64=((t % 64:Nat):Int):=rem64 (a:=(t:Nat)) (by omega)
theorem Ah2 {v:Int} {b:Bool} {e:Int}:∀ x ∈ [AV.int .i64 v,.bool b,.int .i64 e],Plain x:=fun x hx=>by
 simp only [List.mem_cons,List.not_mem_nil,or_false] at hx
 rcases hx with rfl|rfl|rfl
 ·exact A8
 ·exact D7
 ·exact A8
theorem BG2 {s:Sy} {a:Int}:∀ x ∈ s.kind a,Plain x:=by unfold Sy.kind;split<;>exact Ah2
end Go.Pol
namespace Go.Proofs.Ytbhgfoikbkaohaa
open Go Go.Am Go.Pol
theorem wtw {p q:Prop} (hq:q) (h:Y7 q→p:=by (intro hQz;((repeat' ((try (conv=>whnf));first|(with_reducible first|refine L8 ?_|refine I7 ?_|refine M4 ?_|refine M6 ?_|refine J3 ?_|refine R8 ?_|refine K9 ?_|refine R7 rfl ?_|refine L6 ?_|refine G8 ?_|refine I9 ?_|refine J2 ?_|refine M5 ?_|refine G7 ?_|refine I8 (by decide +kernel) ?_|refine H9 (by decide +kernel) ?_|refine AF4 ?_|refine AF5 ?_|refine Ar4 ?_|refine Z9 ?_|refine AK5 ?_|refine Ak7 (by assumption) ?_|refine Ak8 (by assumption) ?_|refine Z7 (by omega) ?_|refine AK4 ?_)|((with_reducible refine AK6 ?_ ?_);focus omega)|((with_reducible refine AK7 ?_ ?_);focus omega)|((with_reducible apply V7 hQz)<;>(try intro hsp hQz))|((with_reducible refine Ar2 ?_ ?_);focus (first|omega|rfl|assumption|decide|(simp only [List.length_map,List.length_cons,List.length_nil];omega)))|(with_reducible first|refine AK1 ?_|refine Z6 ?_|refine Z5 ?_|refine AK3 ?_|refine AK2 ?_|refine AJ9 ?_|refine Ar1 ?_|refine G5 ?_|refine Y9 ?_|refine M0 ?_|refine L9 ?_|refine G6 ?_|refine AK0 (by omega) ?_|refine Z4 (by omega) ?_)|refine J5 (by with_reducible assumption) ?_|refine J5 AI0 ?_|refine AH3 (by with_reducible assumption) ?_|refine AB0 (by rw [AP8];omega) (by with_reducible assumption) ?_|refine AB0 (by rw [Ag8];omega) (by with_reducible assumption) ?_|(with_reducible first|refine AB3 ?_|refine Ar6.mk (by kernel_rfl) ?_|refine AD7 rfl ?_|refine AB6 (by decide +kernel) ?_|refine AB4 rfl ?_)|refine S9 (by assumption) rfl (by omega) ?_|refine AP2 (by assumption) rfl rfl ?_|refine O4 (by assumption) ?_|refine Q0 (by assumption) ?_|refine P8 (by assumption) ?_|(refine R4 F6 b37 rfl ?_;unfold c37)|(refine R4 F6 b55 rfl ?_;unfold c55)|refine G5 ?_|refine G6 ?_|refine AS0 rfl rfl ?_|refine X8 ?_|refine R3 rfl ?_|refine AS5 rfl ?_|refine AQ4 rfl ?_|refine AC6 rfl ?_|refine N7 ?_|refine Ax9.mk ?_|((with_reducible apply V8 hQz)<;>(try intro hsp hQz))|exact hQz.out))<;>(try (conv=>whnf))))):p:=h ⟨hq⟩
section
variable {s:Sy} {a b:Int}
theorem Az7 {a b:Int}:∀ x ∈ [AV.int .i64 a,.int .u8 b],Plain x:=AY1 A8 A8
theorem BO6:AJ6 47 [.int .i64 a,.int .u8 b] s.a (.int .i64 (s.write a b).1) (s.write a b).2.a:=by
 refine AJ6.mk (J6 F6 b47 rfl ?_) H8 H8 Az7 A8
 unfold c47
 unfold Sy.write
 by_cases h1:a < 0∨65536≤a
 ·rw [if_pos h1];unfold Sy.a
  (refine wtw ?_;repeat' (first|with_reducible refine And.intro ?_ ?_|intro hsp))
  all_goals first|exact AP0 rfl A8 rfl (D8 C8)|(exfalso;omega)
 ·rw [if_neg h1]
  obtain ⟨t,rfl⟩:∃ t:Nat,a=(t:Nat):=⟨a.toNat,by omega⟩
  simp only [Int.toNat_natCast]
  have hw:=q64 (t:=t) (by omega)
  have hr:=m64 (t:=t)
  have hk:(sysB s.K s.M s.B (stA s.l s.C s.H))[1+t / 64 * 66+0]? = some (.int .i64 (s.K (t / 64))):=AN3 (by omega)
  by_cases h2:s.K (t / 64)=2
  ·rw [if_pos h2]
   have hs:(sysB s.K s.M s.B (stA s.l s.C s.H)).set (1+t / 64 * 66+2+t % 64) (.int .u8 b)=sysB s.K s.M (AC2 s.B (t / 64) (E8 (s.B (t / 64)) (t % 64) b)) (stA s.l s.C s.H):=As2 (by omega) (by omega)
   unfold Sy.a
   (refine wtw ?_;repeat' (first|with_reducible refine And.intro ?_ ?_|intro hsp))
   all_goals first|exact AP0 rfl A8 rfl (D8 C8)|(exfalso;omega)|trace_state
  ·rw [if_neg h2]
   unfold Sy.a
   (refine wtw ?_;repeat' (first|with_reducible refine And.intro ?_ ?_|intro hsp))
   all_goals first|exact AP0 rfl A8 rfl (D8 C8)|(exfalso;exact absurd (by assumption) h2)|(exfalso;exact h2 (by assumption))|trace_state
theorem AN9 {v e:Int}:Plain (.tup [.int .u8 v,.int .i64 e]):=F8 (AY1 A8 A8)
theorem p_read:AJ6 33 [.int .i64 a] s.a (.tup [.int .u8 (s.read a).1,.int .i64 (s.read a).2]) s.a:=by
 refine AJ6.mk (J6 F6 b33 rfl ?_) H8 H8 (R9 A8) AN9
 unfold c33
 unfold Sy.read
 by_cases h1:a < 0∨65536≤a
 ·rw [if_pos h1];unfold Sy.a
  (refine wtw ?_;repeat' (first|with_reducible refine And.intro ?_ ?_|intro hsp))
  all_goals first|exact AP0 rfl AN9 rfl (D8 C8)|(exfalso;omega)
 ·rw [if_neg h1]
  obtain ⟨t,rfl⟩:∃ t:Nat,a=(t:Nat):=⟨a.toNat,by omega⟩
  simp only [Int.toNat_natCast]
  have hw:=q64 (t:=t) (by omega)
  have hr:=m64 (t:=t)
  have hk:(sysB s.K s.M s.B (stA s.l s.C s.H))[1+t / 64 * 66+0]? = some (.int .i64 (s.K (t / 64))):=AN3 (by omega)
  by_cases h2:s.K (t / 64)=2
  ·rw [if_pos h2]
   have hs:(sysB s.K s.M s.B (stA s.l s.C s.H))[1+t / 64 * 66+2+t % 64]? = some (.int .u8 (s.B (t / 64) (t % 64))):=sys_byte (by omega) (by omega)
   unfold Sy.a
   (refine wtw ?_;repeat' (first|with_reducible refine And.intro ?_ ?_|intro hsp))
   all_goals first|exact AP0 rfl AN9 rfl (D8 C8)|(exfalso;omega)|trace_state
  ·rw [if_neg h2]
   unfold Sy.a
   (refine wtw ?_;repeat' (first|with_reducible refine And.intro ?_ ?_|intro hsp))
   all_goals first|exact AP0 rfl AN9 rfl (D8 C8)|(exfalso;exact absurd (by assumption) h2)|(exfalso;exact h2 (by assumption))|trace_state
theorem p_kind:AJ6 43 [.int .i64 a] s.a (.tup (s.kind a)) s.a:=by
 refine AJ6.mk (J6 F6 b43 rfl ?_) H8 H8 (R9 A8) (F8 BG2)
 unfold c43
 unfold Sy.kind
 by_cases h1:a < 0∨1024≤a
 ·rw [if_pos h1];unfold Sy.a
  (refine wtw ?_;repeat' (first|with_reducible refine And.intro ?_ ?_|intro hsp))
  all_goals first|exact AP0 rfl (F8 Ah2) rfl (D8 C8)|(exfalso;omega)
 ·rw [if_neg h1]
  obtain ⟨t,rfl⟩:∃ t:Nat,a=(t:Nat):=⟨a.toNat,by omega⟩
  simp only [Int.toNat_natCast]
  have hk:(sysB s.K s.M s.B (stA s.l s.C s.H))[1+t * 66+0]? = some (.int .i64 (s.K t)):=AN3 (by omega)
  have hh:(sysB s.K s.M s.B (stA s.l s.C s.H))[1+t * 66+1]? = some (.bool (s.M t)):=Ag1 (by omega)
  unfold Sy.a
  (refine wtw ?_;repeat' (first|with_reducible refine And.intro ?_ ?_|intro hsp))
  all_goals first|exact AP0 rfl (F8 Ah2) rfl (D8 C8)|(exfalso;omega)|trace_state
end
end Go.Proofs.Ytbhgfoikbkaohaa
namespace Go.Pol
open Go.Am
def Aj4 (G:Nat→Bool):Nat→Nat
 | 0 => 0
 | n+1=>Aj4 G n+if n % 16=0∧G (n / 16)=true then 1 else 0
theorem BT6 {G:Nat→Bool}:∀ n,Aj4 G n≤n
 | 0=>Nat.le_refl _
 | n+1=>by have:=BT6 (G:=G) n;unfold Aj4;split<;>omega
theorem BT7 {G:Nat→Bool} {g:Nat}:∀ j,j≤15→Aj4 G (g * 16+(j+1))=Aj4 G (g * 16)+if G g=true then 1 else 0
 | 0,_=>by
  show Aj4 G (g * 16)+(if g * 16 % 16=0∧G (g * 16 / 16)=true then 1 else 0)=_
  rw [show g * 16 / 16=g by omega]
  congr 1
  by_cases h:G g=true
  ·rw [if_pos h,if_pos ⟨by omega,h⟩]
  ·rw [if_neg h,if_neg fun hh=>h hh.2]
 | j+1,h=>by
  show Aj4 G (g * 16+(j+1))+(if (g * 16+(j+1)) % 16=0∧G ((g * 16+(j+1)) / 16)=true then 1 else 0)=_
  rw [BT7 j (by omega),if_neg (c:=(g * 16+(j+1)) % 16=0∧G ((g * 16+(j+1)) / 16)=true) fun h=>by omega];rfl
theorem cntH_G {G:Nat→Bool}:∀ g,Aj4 G (g * 16)=cntG G g
 | 0=>rfl
 | g+1=>by
  rw [show (g+1) * 16=g * 16+(15+1) by omega,BT7 15 (by omega),cntH_G g];rfl
theorem Ae7 {K:Nat→Int} {v:Int} {n:Nat} (h:K n=v):((Ac5 K v (n+1):Nat):Int)=(Ac5 K v n:Nat)+1:=by
 show ((Ac5 K v n+(if K n=v then 1 else 0):Nat):Int)=_;rw [if_pos h];omega
theorem X3 {K:Nat→Int} {v:Int} {n:Nat} (h:¬ K n=v):((Ac5 K v (n+1):Nat):Int)=(Ac5 K v n:Nat):=by
 show ((Ac5 K v n+(if K n=v then 1 else 0):Nat):Int)=_;rw [if_neg h];omega
theorem cntH_y {G:Nat→Bool} {n:Nat} (h:fst (n:Nat)) (h2:G (n / 16)=true):((Aj4 G (n+1):Nat):Int)=(Aj4 G n:Nat)+1:=by
 obtain ⟨g,e,_⟩:=fst_nat h
 show ((Aj4 G n+(if n % 16=0∧G (n / 16)=true then 1 else 0):Nat):Int)=_;rw [if_pos ⟨by omega,h2⟩];omega
theorem cntH_n {G:Nat→Bool} {n:Nat} (hn:n < 1024) (h:¬ (fst (n:Nat)∧G (n / 16)=true)):((Aj4 G (n+1):Nat):Int)=(Aj4 G n:Nat):=by
 show ((Aj4 G n+(if n % 16=0∧G (n / 16)=true then 1 else 0):Nat):Int)=_
 rw [if_neg fun h2=>h ⟨⟨by omega,by omega,by rw [Int.tmod_eq_emod_of_nonneg (by omega)];omega⟩,h2.2⟩];omega
theorem Ap5 {s:Sy}:∀ x ∈ s.counts,Plain x:=fun x hx=>by
 simp only [Sy.counts,List.mem_cons,List.not_mem_nil,or_false] at hx
 rcases hx with rfl|rfl|rfl|rfl|rfl<;>exact A8
theorem Az8 {s:Sy} {e:Int}:Plain (.tup [.agg s.counts,.int .i64 e]):=F8 fun x hx=>by
 simp only [List.mem_cons,List.not_mem_nil,or_false] at hx
 rcases hx with rfl|rfl
 ·exact F9 Ap5
 ·exact A8
theorem plain_5 {a b c d e:Int}:∀ x ∈ [AV.int .i64 a,.int .i64 b,.int .i64 c,.int .i64 d,.int .i64 e],Plain x:=fun x hx=>by
 simp only [List.mem_cons,List.not_mem_nil,or_false] at hx
 rcases hx with rfl|rfl|rfl|rfl|rfl<;>exact A8
theorem plain_4 {a b c d:Int}:∀ x ∈ [AV.int .i64 a,.int .i64 b,.int .i64 c,.int .i64 d],Plain x:=fun x hx=>by
 simp only [List.mem_cons,List.not_mem_nil,or_false] at hx
 rcases hx with rfl|rfl|rfl|rfl<;>exact A8
end Go.Pol
namespace Go.Proofs.Ytbhgfoikbkaohaa
open Go Go.Am Go.Pol
theorem ppx_Th {p:Prop} (h:p:=by ((first|with_reducible assumption|(with_reducible first|apply I4 _|apply O8 I4|apply C8|apply AD4|apply D8 C8|apply AC7 C8|apply AH8|apply H8|apply plain_5|apply plain_4|fail)|exact ppw|fail);first|done|fail)):p:=h
open Go.Proofs.Ytbhgfoikbkaohaa renaming plx_Sd → plx
open Go.Proofs.Ytbhgfoikbkaohaa renaming ppx_Th → ppx
theorem wth {p q:Prop} (hq:q) (h:Y7 q→p:=by (intro hQz;((repeat' ((try (conv=>whnf));first|(with_reducible first|refine L8 ?_|refine I7 ?_|refine M4 ?_|refine M6 ?_|refine J3 ?_|refine R8 ?_|refine K9 ?_|refine R7 rfl ?_|refine L6 ?_|refine G8 ?_|refine I9 ?_|refine J2 ?_|refine M5 ?_|refine G7 ?_|refine I8 (by decide +kernel) ?_|refine H9 (by decide +kernel) ?_|refine AF4 ?_|refine AF5 ?_|refine Ar4 ?_|refine Z9 ?_|refine AK5 ?_|refine Ak7 (by assumption) ?_|refine Ak8 (by assumption) ?_|refine Z7 (by omega) ?_|refine AK4 ?_)|((with_reducible refine AK6 ?_ ?_);focus omega)|((with_reducible refine AK7 ?_ ?_);focus omega)|((with_reducible apply V7 hQz)<;>(try intro hsp hQz))|((with_reducible refine Ar2 ?_ ?_);focus (first|omega|rfl|assumption|decide|(simp only [List.length_map,List.length_cons,List.length_nil];omega)))|(with_reducible first|refine AK1 ?_|refine Z6 ?_|refine Z5 ?_|refine AK3 ?_|refine AK2 ?_|refine AJ9 ?_|refine Ar1 ?_|refine G5 ?_|refine Y9 ?_|refine M0 ?_|refine L9 ?_|refine G6 ?_|refine AK0 (by omega) ?_|refine Z4 (by omega) ?_)|refine J5 (by with_reducible assumption) ?_|refine J5 AI0 ?_|refine AH3 (by with_reducible assumption) ?_|(with_reducible first|refine AB3 ?_|refine Ar6.mk (by kernel_rfl) ?_|refine AD7 rfl ?_|refine AB6 (by decide +kernel) ?_|refine AB4 rfl ?_)|refine O4 (by assumption) ?_|refine Q0 (by assumption) ?_|refine P8 (by assumption) ?_|(refine R4 F6 b37 rfl ?_;unfold c37)|refine G5 ?_|refine G6 ?_|refine AS0 rfl rfl ?_|refine X8 ?_|refine R3 rfl ?_|refine AS5 rfl ?_|refine AQ4 rfl ?_|refine AC6 rfl ?_|refine N7 ?_|refine Ax9.mk ?_|((with_reducible apply V8 hQz)<;>(try intro hsp hQz))|exact hQz.out))<;>(try (conv=>whnf))))):p:=h ⟨hq⟩
section
variable {s:Sy}
theorem p_counts (hg:GoodS s):AJ6 22 [] s.a (.tup [.agg s.counts,.int .i64 0]) s.a:=by
 refine AJ6.mk (J6 F6 b22 rfl ?_) H8 H8 (fun x hx=>by cases hx) Az8
 unfold c22
 unfold Sy.a
 (refine wth ?_;repeat' (first|with_reducible refine And.intro ?_ ?_|intro hsp))
 (refine V4 [0,2,4,5] (fun (i:Nat)=>[(16,.int .i64 (i:Nat))]) (fun (i:Nat)=>⟨[(0,.cells (sysB s.K s.M s.B (stA s.l s.C s.H))),(1,.cells [.int .i64 0,.int .i64 0,.int .i64 0,.int .i64 0,.int .i64 0]),(2,.cells [.int .i64 (Ac5 s.K 0 i:Nat),.int .i64 (Ac5 s.K 1 i:Nat),.int .i64 (Ac5 s.K 2 i:Nat),.int .i64 (Ac5 s.K 3 i:Nat),.int .i64 (Aj4 s.G i:Nat)]),(3,.cells [.ptr 2 0,.ptr 2 1,.ptr 2 2,.ptr 2 3])],4⟩) (fun (i:Nat)=>i≤1024) (fun (i:Nat)=>1024 - i) (0) [] rfl (fun _=>by first|exact Nat.zero_le _|(dsimp only;omega)) ?_ (by ((try (conv=>whnf));exact Y4)) ?_)
 ·exact Nat.zero_le _
 rintro i hi
 have c0:=Aa5 (K:=s.K) (v:=0) i
 have c1:=Aa5 (K:=s.K) (v:=1) i
 have c2:=Aa5 (K:=s.K) (v:=2) i
 have c3:=Aa5 (K:=s.K) (v:=3) i
 have c4:=BT6 (G:=s.G) i
 by_cases hin:i < 1024
 ·have hk:(sysB s.K s.M s.B (stA s.l s.C s.H))[1+i * 66+0]? = some (.int .i64 (s.K i)):=AN3 (by omega)
  have hh:(sysB s.K s.M s.B (stA s.l s.C s.H))[1+i * 66+1]? = some (.bool (s.M i)):=Ag1 (by omega)
  have z:=k_first (i:Nat)
  have hkk:=hg.kind i
  have e4:∃ d:Int,((Aj4 s.G (i+1):Nat):Int)=d∧((s.M i=true∧fst (i:Nat))→d=(Aj4 s.G i:Nat)+1)∧(¬ (s.M i=true∧fst (i:Nat))→d=(Aj4 s.G i:Nat)) :=
   ⟨_,rfl,fun h=>cntH_y h.2 h.1,fun h=>cntH_n (by omega) fun h2=>h ⟨h2.2,h2.1⟩⟩
  obtain ⟨d,e4,e5,e6⟩:=e4
  have key:s.K i=0∨s.K i=1∨s.K i=2∨s.K i=3:=by omega
  cases hm:s.M i with
  | false =>
   have e6:=e6 (by rw [hm];simp)
   rw [hm] at hh
   rcases key with h|h|h|h
   ·rw [h] at hk
    (refine wth ?_;repeat' (first|with_reducible refine And.intro ?_ ?_|intro hsp))
    all_goals exact J8 (i+1) [] (by (try dsimp only);omega) (by first|omega|(dsimp only;omega)) rfl (by ((try dsimp only);rw [e4,e6,Ae7 h,X3 (v:=1) (by omega),X3 (v:=2) (by omega),X3 (v:=3) (by omega)]);exact Y4)
   ·rw [h] at hk
    (refine wth ?_;repeat' (first|with_reducible refine And.intro ?_ ?_|intro hsp))
    all_goals exact J8 (i+1) [] (by (try dsimp only);omega) (by first|omega|(dsimp only;omega)) rfl (by ((try dsimp only);rw [e4,e6,Ae7 h,X3 (v:=0) (by omega),X3 (v:=2) (by omega),X3 (v:=3) (by omega)]);exact Y4)
   ·rw [h] at hk
    (refine wth ?_;repeat' (first|with_reducible refine And.intro ?_ ?_|intro hsp))
    all_goals exact J8 (i+1) [] (by (try dsimp only);omega) (by first|omega|(dsimp only;omega)) rfl (by ((try dsimp only);rw [e4,e6,Ae7 h,X3 (v:=1) (by omega),X3 (v:=0) (by omega),X3 (v:=3) (by omega)]);exact Y4)
   ·rw [h] at hk
    (refine wth ?_;repeat' (first|with_reducible refine And.intro ?_ ?_|intro hsp))
    all_goals exact J8 (i+1) [] (by (try dsimp only);omega) (by first|omega|(dsimp only;omega)) rfl (by ((try dsimp only);rw [e4,e6,Ae7 h,X3 (v:=1) (by omega),X3 (v:=2) (by omega),X3 (v:=0) (by omega)]);exact Y4)
  | true =>
   rw [hm] at hh
   have h:=hg.huge i hm
   rw [h] at hk
   by_cases hf:fst (i:Nat)
   ·have e5:=e5 ⟨hm,hf⟩
    rw [decide_eq_true hf] at z
    (refine wth ?_;repeat' (first|with_reducible refine And.intro ?_ ?_|intro hsp))
    all_goals exact J8 (i+1) [] (by (try dsimp only);omega) (by first|omega|(dsimp only;omega)) rfl (by ((try dsimp only);rw [e4,e5,Ae7 h,X3 (v:=1) (by omega),X3 (v:=0) (by omega),X3 (v:=3) (by omega)]);exact Y4)
   ·have e6:=e6 fun h=>hf h.2
    rw [decide_eq_false hf] at z
    (refine wth ?_;repeat' (first|with_reducible refine And.intro ?_ ?_|intro hsp))
    all_goals exact J8 (i+1) [] (by (try dsimp only);omega) (by first|omega|(dsimp only;omega)) rfl (by ((try dsimp only);rw [e4,e6,Ae7 h,X3 (v:=1) (by omega),X3 (v:=0) (by omega),X3 (v:=3) (by omega)]);exact Y4)
 ·obtain rfl:i=1024:=by omega
  have e:=cntH_G (G:=s.G) 64
  have e':Aj4 s.G 1024=cntG s.G 64:=e
  rw [e']
  (refine wth ?_;repeat' (first|with_reducible refine And.intro ?_ ?_|intro hsp))
  all_goals exact AP0 rfl Az8 rfl (D8 C8)
end
end Go.Proofs.Ytbhgfoikbkaohaa
namespace Go.Proofs.Ytbhgfoikbkaohaa.Sh
end Go.Proofs.Ytbhgfoikbkaohaa.Sh
namespace Go.Pol
open Go.Am Go.Proofs.Ytbhgfoikbkaohaa.Sh
def inR (m x:Int):Prop:=0≤x∧x < m
instance (m x:Int):Decidable (inR m x):=by unfold inR;infer_instance
def Sy.page (s:Sy) (f:Nat) (x:Nat→Int):Sy:={ s with B:=AC2 s.B f fun j=>if j < 64 then x j else 0 }
theorem BR1 {s:Sy} {f:Nat} {x:Nat→Int} (h:GoodS s) (hk:s.K f=2):GoodS (s.page f x):=by
 refine ⟨h.hv,h.kind,h.huge,fun p hp=>?_,h.cK,fun p j hj=>?_⟩
 ·show AC2 s.B f _ p=_
  unfold AC2
  rw [if_neg fun e=>hp (by rw [e];exact hk)]
  exact h.zero p hp
 ·show AC2 s.B f _ p j=0
  unfold AC2
  split
  ·show (if j < 64 then x j else 0)=0;rw [if_neg (by omega)]
  ·exact h.cB p j hj
def Sy.turn (s:Sy) (f:Nat) (w:Int) (k:Nat):Sy:={ s.ref k with K:=fun p=>if p=f then w else s.K p,B:=fun p=>if p=f then fun _=>0 else s.B p }
theorem Ax1 {s:Sy} {f:Nat} {v w:Int} {k:Nat} (hf:f < 1024) (hk:s.K f=v) (hm:s.M f=false):s.chg (f:Nat) 1 v w k=if isR s.l s.C k then (60,s.ref k) else (0,s.turn f w k):=by
 unfold Sy.chg
 have hok:okR s.K s.M ((f:Nat):Int).toNat (1:Int).toNat v:=fun i hi=>by
  have hi:i < 1:=hi
  rw [show ((f:Nat):Int).toNat+i=f by omega];exact ⟨hk,hm⟩
 have h1:(1:Int).toNat=1:=rfl
 have e1:AU7 s.K ((f:Nat):Int).toNat (1:Int).toNat w=fun p=>if p=f then w else s.K p:=funext fun p=>by
  show (if _ then w else s.K p)=_
  by_cases e:p=f
  ·rw [if_pos e,if_pos (by omega)]
  ·rw [if_neg e,if_neg (by omega)]
 have e2:Ag5 s.B ((f:Nat):Int).toNat (1:Int).toNat=fun p=>if p=f then fun _=>0 else s.B p:=funext fun p=>by
  show (if _ then (fun _=>0) else s.B p)=_
  by_cases e:p=f
  ·rw [if_pos e,if_pos (by omega)]
  ·rw [if_neg e,if_neg (by omega)]
 rw [if_neg (by omega),if_pos hok,e1,e2]
 rfl
theorem AN2 {s:Sy} {f p:Nat} {w:Int} {k:Nat}:(s.turn f w k).K p=if p=f then w else s.K p:=rfl
theorem BJ7 {s:Sy} {f p:Nat} {w:Int} {k:Nat}:(s.turn f w k).B p=if p=f then fun _=>0 else s.B p:=rfl
theorem Ao2 {s:Sy} {f:Nat} {v w:Int} {k:Nat} (h:GoodS s) (hf:f < 1024) (hw:0≤w∧w≤3) (hk:s.K f=v) (hm:s.M f=false):GoodS (s.turn f w k):=by
 refine ⟨Aj6 h.hv,fun p=>?_,fun p hp=>?_,fun p hp=>?_,fun p hp=>?_,fun p j hj=>?_⟩
 ·rw [AN2];split
  ·exact hw
  ·exact h.kind p
 ·rw [AN2]
  have hp':s.M p=true:=hp
  rw [if_neg fun e=>by rw [e,hm] at hp';cases hp']
  exact h.huge p hp'
 ·rw [BJ7]
  split
  ·rfl
  ·rename_i e
   rw [AN2,if_neg e] at hp
   exact h.zero p hp
 ·rw [AN2,if_neg (by omega)];exact h.cK p hp
 ·rw [BJ7];split
  ·rfl
  ·exact h.cB p j hj
theorem new_chg {l:List Rl} {a n:Int} (he:((Sy.new l).chg a n 0 1 0).1=0):(∀ p,((Sy.new l).chg a n 0 1 0).2.K p=if a.toNat≤p∧p < a.toNat+n.toNat then 1 else 0)∧(∀ p,((Sy.new l).chg a n 0 1 0).2.M p=false)∧(∀ p j,((Sy.new l).chg a n 0 1 0).2.B p j=0)∧((Sy.new l).chg a n 0 1 0).2.l=l:=by
 unfold Sy.chg at he ⊢
 split at he
 ·exact absurd he (by decide:¬ (7:Int)=0)
 rename_i c1
 rw [if_neg c1]
 split at he
 ·rename_i c2
  rw [if_pos c2]
  split at he
  ·exact absurd he (by decide:¬ (60:Int)=0)
  ·rename_i c3
   rw [if_neg c3]
   refine ⟨fun p=>?_,fun p=>rfl,fun p j=>?_,rfl⟩
   ·show AU7 (Sy.new l).K _ _ 1 p=_
    unfold AU7;rfl
   ·show Ag5 (Sy.new l).B _ _ p j=0
    unfold Ag5;split<;>rfl
 ·exact absurd he (by decide:¬ (9:Int)=0)
def wrK (s:Sy) (f:Nat) (x:Nat→Int) (k:Nat):Sy:={ s with B:=AC2 s.B f fun j=>if j < k then x j else s.B f j }
theorem wrK_0 {s:Sy} {f:Nat} {x:Nat→Int}:wrK s f x 0=s:=by
 unfold wrK
 have : AC2 s.B f (fun j=>if j < 0 then x j else s.B f j)=s.B:=funext fun p=>by
  unfold AC2
  split
  ·rename_i e;subst e;exact funext fun j=>if_neg (by omega)
  ·rfl
 rw [this]
theorem wrK_K {s:Sy} {f:Nat} {x:Nat→Int} {k:Nat}:(wrK s f x k).K=s.K:=rfl
theorem wrK_s {s:Sy} {f:Nat} {x:Nat→Int} {k:Nat} (hk:s.K f=2) (hf:f < 1024) (hj:k < 64):(wrK s f x k).write ((f:Int) * 64+(k:Nat)) (x k)=(0,wrK s f x (k+1)):=by
 unfold Sy.write
 have h1:((f:Int) * 64+(k:Nat)).toNat / 64=f:=by omega
 have h2:((f:Int) * 64+(k:Nat)).toNat % 64=k:=by omega
 rw [if_neg (by omega),h1,h2,wrK_K,if_pos hk]
 unfold wrK
 dsimp only
 have : AC2 (AC2 s.B f fun j=>if j < k then x j else s.B f j) f (E8 (AC2 s.B f (fun j=>if j < k then x j else s.B f j) f) k (x k))=AC2 s.B f fun j=>if j < k+1 then x j else s.B f j:=funext fun p=>by
  unfold AC2
  by_cases e:p=f
  ·rw [if_pos e,if_pos e,if_pos rfl]
   refine funext fun j=>?_
   unfold E8
   by_cases h3:j=k
   ·subst h3;rw [if_pos rfl,if_pos (by omega)]
   ·rw [if_neg h3]
    show (if j < k then x j else s.B f j)=if j < k+1 then x j else s.B f j
    by_cases h4:j < k
    ·rw [if_pos h4,if_pos (by omega)]
    ·rw [if_neg h4,if_neg (by omega)]
  ·rw [if_neg e,if_neg e,if_neg e]
 rw [this]
theorem wrK_all {s:Sy} (hg:GoodS s) {f:Nat} {x:Nat→Int}:wrK s f x 64=s.page f x:=by
 unfold wrK Sy.page
 have : (fun j=>if j < 64 then x j else s.B f j)=fun j=>if j < 64 then x j else 0:=funext fun j=>by
  by_cases h:j < 64
  ·rw [if_pos h,if_pos h]
  ·rw [if_neg h,if_neg h,hg.cB f j (by omega)]
 rw [this]
theorem read_at {s:Sy} {f k:Nat} (hk:s.K f=2) (hf:f < 1024) (hj:k < 64):s.read ((f:Int) * 64+(k:Nat))=(s.B f k,0):=by
 unfold Sy.read
 rw [if_neg (by omega),show ((f:Int) * 64+(k:Nat)).toNat / 64=f by omega,show ((f:Int) * 64+(k:Nat)).toNat % 64=k by omega,if_pos hk]
theorem BN5 {a n i:Nat} (h:i≤n):List.range' a n=List.range' a i++List.range' (a+i) (n - i):=by
 rw [List.range'_append_1,Nat.add_sub_cancel' h]
def rdK (f:Nat→Int) (k:Nat):Nat→AV:=fun j=>.int .u8 (if j < k then f j else 0)
def bcA (f:Nat→Int):List AV:=memA 64 fun j=>.int .u8 (f j)
theorem rdK_0 {f:Nat→Int}:memA 64 (rdK f 0)=List.replicate 64 (.int .u8 0):=by
 refine List.ext_getElem? fun i=>?_
 by_cases h:i < 64
 ·rw [List.getElem?_replicate,if_pos h,V3 h];unfold rdK;rw [if_neg (by omega)]
 ·rw [List.getElem?_eq_none (by rw [l7];omega),List.getElem?_eq_none (by rw [List.length_replicate];omega)]
theorem rdK_s {f:Nat→Int} {k:Nat} (hk:k < 64):(memA 64 (rdK f k)).set k (.int .u8 (f k))=memA 64 (rdK f (k+1)):=by
 rw [Ah8]
 refine o9 fun j _=>?_
 unfold rdK
 split
 ·rename_i e;subst e;rw [if_pos (by omega)]
 ·rename_i e
  by_cases h:j < k
  ·rw [if_pos h,if_pos (by omega)]
  ·rw [if_neg h,if_neg (by omega)]
theorem rdK_all {f:Nat→Int}:memA 64 (rdK f 64)=bcA f:=o9 fun j hj=>by unfold rdK;rw [if_pos hj]
theorem AG1 {f:Nat→Int} {k:Nat}:∀ x ∈ memA 64 (rdK f k),Plain x:=AJ0 fun _ _=>A8
theorem AB7 {f:Nat→Int}:∀ x ∈ bcA f,Plain x:=AJ0 fun _ _=>A8
theorem AA5 {f:Nat→Int}:(bcA f).length=64:=l7 _ _
theorem BA2:∀ (a cs:List AV),over (a++cs) a.length cs=a++cs
 | a,[]=>rfl
 | a,v::vs=>by
  show over ((a++v::vs).set a.length v) (a.length+1) vs=a++v::vs
  have e:(a++v::vs).set a.length v=(a++[v])++vs:=by simp
  have h:=BA2 (a++[v]) vs
  rw [List.length_append] at h
  rw [e]
  exact h.trans (by simp)
theorem over_self (cs:List AV):over cs 0 cs=cs:=BA2 [] cs
theorem Ax2 {f:Nat→Int}:(bcA f).take 64=bcA f:=List.take_of_length_le (by rw [AA5];exact Nat.le_refl _)
end Go.Pol
namespace Go.Pol
open Go.Am Go.Proofs.Ytbhgfoikbkaohaa.Sh
structure Sw where
 a:Nat
 n:Nat
 pg:Nat
 sl:Nat
 F:Nat→Int
 T:Nat→Int
 Z:Nat→Int
 D:Nat→Nat→Int
 ins:Int
 outs:Int
 s:Sy
def Sw.heldF (w:Sw) (f:Nat):Prop:=∃ p,p < w.pg∧w.F p=(f:Nat)
def Sw.heldT (w:Sw) (k:Nat):Prop:=∃ p,p < w.pg∧w.T p=(k:Nat)
instance (w:Sw) (f:Nat):Decidable (w.heldF f):=decidable_of_iff (∃ p,p ∈ List.range w.pg∧w.F p=(f:Nat)) (by simp [Sw.heldF])
instance (w:Sw) (f:Nat):Decidable (w.heldT f):=decidable_of_iff (∃ p,p ∈ List.range w.pg∧w.T p=(f:Nat)) (by simp [Sw.heldT])
def Sw.free (w:Sw):Option Nat:=(List.range' w.a w.n).find? fun f=>decide (¬ w.heldF f)
def Sw.slot (w:Sw) (g:Int):Option Nat:=(List.range w.sl).find? fun k=>decide (((k:Nat):Int)=g∨¬ w.heldT k)
def Sw.vicN (w:Sw):Nat→Option Nat
 | 0=>none
 | m+1=>if 0≤w.F m then (match w.vicN m with
  | none=>some m
  | some b=>if w.Z m < w.Z b then some m else some b) else w.vicN m
def Sw.vic (w:Sw):Option Nat:=w.vicN w.pg
def AV9 (x:Int):Int:=if 1000000000≤x+1 then 1000000000 else x+1
def Sw.put (w:Sw) (v k:Nat):Sw:={ w with D:=AC2 w.D k (w.s.B (w.F v).toNat),T:=E8 w.T v (k:Nat),F:=E8 w.F v (-1),outs:=AV9 w.outs }
def Sw.brg (w:Sw) (p f:Nat) (now:Int) (x:Nat→Int):Sw:={ w with ins:=if 0≤w.T p then AV9 w.ins else w.ins,T:=E8 w.T p (-1),F:=E8 w.F p (f:Nat),Z:=E8 w.Z p now,s:=w.s.page f x }
def Sw.got (w:Sw) (p:Nat):Nat→Int:=if 0≤w.T p then w.D (w.T p).toNat else fun _=>0
def Sw.touch (w:Sw) (p:Nat) (now:Int):Int × Sw :=
 if 0≤w.F p then (0,{ w with Z:=E8 w.Z p now }) else
 match w.free with
 | some f=>if w.s.K f=1 then (if (w.s.chg (f:Nat) 1 1 2 2).1=0 then (0,Sw.brg { w with s:=(w.s.chg (f:Nat) 1 1 2 2).2 } p f now (w.got p)) else ((w.s.chg (f:Nat) 1 1 2 2).1,{ w with s:=(w.s.chg (f:Nat) 1 1 2 2).2 }))
  else (0,w.brg p f now (w.got p))
 | none=>match w.slot (w.T p),w.vic with
  | some k,some v=>(0,(w.put v k).brg p (w.F v).toNat now (w.got p))
  | _,_=>(5,w)
def Sw.nums (w:Sw) (t now:Int):Prop:=0≤t∧t < (w.pg:Nat) * 64∧0≤now∧now≤1000000000000
instance (w:Sw) (t now:Int):Decidable (w.nums t now):=by unfold Sw.nums;infer_instance
def Sw.is (w:Sw) (p:Nat):Prop:=0≤w.F p∨0≤w.T p
instance (w:Sw) (p:Nat):Decidable (w.is p):=by unfold Sw.is;infer_instance
def Sw.read (w:Sw) (t now:Int):Int × Int × Sw :=
 if ¬ w.nums t now then (0,7,w) else if ¬ w.is (t.toNat / 64) then (0,0,w) else
 if (w.touch (t.toNat / 64) now).1=0 then (((w.touch (t.toNat / 64) now).2.s.read ((w.touch (t.toNat / 64) now).2.F (t.toNat / 64) * 64+t % 64)).1,((w.touch (t.toNat / 64) now).2.s.read ((w.touch (t.toNat / 64) now).2.F (t.toNat / 64) * 64+t % 64)).2,(w.touch (t.toNat / 64) now).2)
 else (0,(w.touch (t.toNat / 64) now).1,(w.touch (t.toNat / 64) now).2)
def Sw.byte (w:Sw) (t v:Int):Int × Sw:=((w.s.write (w.F (t.toNat / 64) * 64+t % 64) v).1,{ w with s:=(w.s.write (w.F (t.toNat / 64) * 64+t % 64) v).2 })
def Sw.write (w:Sw) (t now v:Int):Int × Sw :=
 if ¬ w.nums t now then (7,w) else
 if (w.touch (t.toNat / 64) now).1=0 then (w.touch (t.toNat / 64) now).2.byte t v else w.touch (t.toNat / 64) now
def Sw.gone (w:Sw) (f:Int):Sw:={ w with s:=(w.s.chg f 1 2 1 3).2 }
def Sw.out (w:Sw) (p:Int):Int × Sw :=
 if ¬ (0≤p∧p < (w.pg:Nat)) then (7,w) else if w.F p.toNat < 0 then (4,w) else match w.slot (-1) with
 | none=>(5,w)
 | some k=>(0,(w.put p.toNat k).gone (w.F p.toNat))
def Sw.fre (w:Sw) (p:Int):Int × Sw :=
 if ¬ (0≤p∧p < (w.pg:Nat)) then (7,w) else if ¬ w.is p.toNat then (4,w) else
 (0,if 0≤w.F p.toNat then Sw.gone { w with F:=E8 w.F p.toNat (-1),T:=E8 w.T p.toNat (-1),Z:=E8 w.Z p.toNat 0 } (w.F p.toNat) else { w with F:=E8 w.F p.toNat (-1),T:=E8 w.T p.toNat (-1),Z:=E8 w.Z p.toNat 0 })
structure E9 (w:Sw):Prop where
 good:GoodS w.s
 rng:1≤w.n∧w.a+w.n≤1024∧1≤w.pg∧w.pg≤256∧w.sl≤256
 kind:∀ f,w.a≤f→f < w.a+w.n→(w.s.K f=1∨w.s.K f=2)∧w.s.M f=false
 far:∀ p,w.pg≤p→w.F p = -1∧w.T p = -1
 fr:∀ p,w.F p = -1∨(w.T p = -1∧∃ f:Nat,w.F p=(f:Nat)∧w.a≤f∧f < w.a+w.n∧w.s.K f=2)
 sl:∀ p,w.T p = -1∨(w.F p = -1∧∃ k:Nat,w.T p=(k:Nat)∧k < w.sl)
 oneF:∀ p q,0≤w.F p→w.F p=w.F q→p=q
 oneT:∀ p q,0≤w.T p→w.T p=w.T q→p=q
 st:∀ p,0≤w.Z p∧w.Z p≤1000000000000
 cnt:0≤w.ins∧w.ins≤1000000000∧0≤w.outs∧w.outs≤1000000000
end Go.Pol
namespace Go.Pol
open Go.Am Go.Proofs.Ytbhgfoikbkaohaa.Sh
section
variable {w:Sw}
theorem C9 {f:Nat→Int} {i:Nat} {v:Int}:E8 f i v i=v:=if_pos rfl
theorem upd_ne {f:Nat→Int} {i j:Nat} {v:Int} (h:j ≠ i):E8 f i v j=f j:=if_neg h
theorem AD6 {f:Nat} (h:w.free=some f):w.a≤f∧f < w.a+w.n∧¬ w.heldF f:=by
 have h1:=List.mem_of_find?_eq_some h
 have h2:=List.find?_some h
 rw [List.mem_range'_1] at h1
 exact ⟨h1.1,h1.2,by simpa using h2⟩
theorem BG7 (h:w.free=none):∀ f,w.a≤f→f < w.a+w.n→w.heldF f:=fun f h1 h2=>by
 have:=List.find?_eq_none.1 h f (List.mem_range'_1.2 ⟨h1,h2⟩)
 simpa using this
theorem AC4 {g:Int} {k:Nat} (h:w.slot g=some k):k < w.sl∧(((k:Nat):Int)=g∨¬ w.heldT k):=by
 have h1:=List.mem_of_find?_eq_some h
 have h2:=List.find?_some h
 exact ⟨List.mem_range.1 h1,by simpa using h2⟩
theorem AH9:∀ m,(∀ v,w.vicN m=some v→v < m∧0≤w.F v∧∀ q,q < m→0≤w.F q→w.Z v < w.Z q∨(w.Z v=w.Z q∧v≤q))∧(w.vicN m=none→∀ q,q < m→w.F q < 0)
 | 0=>⟨fun v h=>(by cases h),fun _ q hq=>(by omega)⟩
 | m+1=>by
  obtain ⟨i1,i2⟩:=AH9 m
  unfold Sw.vicN
  by_cases h0:0≤w.F m
  ·rw [if_pos h0]
   cases hv:w.vicN m with
   | none =>
    refine ⟨fun v h=>?_,fun h=>by cases h⟩
    cases h
    refine ⟨by omega,h0,fun q hq hF=>?_⟩
    by_cases e:q=m
    ·subst e;exact .inr ⟨rfl,Nat.le_refl _⟩
    ·have:=i2 hv q (by omega);omega
   | some b =>
    obtain ⟨j1,j2,j3⟩:=i1 b hv
    dsimp only
    by_cases hlt:w.Z m < w.Z b
    ·rw [if_pos hlt]
     refine ⟨fun v h=>?_,fun h=>by cases h⟩
     cases h
     refine ⟨by omega,h0,fun q hq hF=>?_⟩
     by_cases e:q=m
     ·subst e;exact .inr ⟨rfl,Nat.le_refl _⟩
     ·have:=j3 q (by omega) hF;omega
    ·rw [if_neg hlt]
     refine ⟨fun v h=>?_,fun h=>by cases h⟩
     cases h
     refine ⟨by omega,j2,fun q hq hF=>?_⟩
     by_cases e:q=m
     ·subst e;omega
     ·exact j3 q (by omega) hF
  ·rw [if_neg h0]
   refine ⟨fun v h=>?_,fun h q hq=>?_⟩
   ·obtain ⟨j1,j2,j3⟩:=i1 v h
    refine ⟨by omega,j2,fun q hq hF=>j3 q ?_ hF⟩
    by_cases e:q=m
    ·subst e;exact absurd hF h0
    ·omega
   ·by_cases e:q=m
    ·subst e;omega
    ·exact i2 h q (by omega)
inductive SwT (w:Sw) (p:Nat) (now:Int):Int × Sw→Prop
 | here (h:0≤w.F p):SwT w p now (0,{ w with Z:=E8 w.Z p now })
 | no (f:Nat) (s':Sy) (e:Int) (hn:¬ 0≤w.F p) (hf:w.free=some f) (hk:w.s.K f=1) (hc:w.s.chg (f:Nat) 1 1 2 2=(e,s')) (he:e ≠ 0):SwT w p now (e,{ w with s:=s' })
 | new (f:Nat) (s':Sy) (hn:¬ 0≤w.F p) (hf:w.free=some f) (hs:(w.s.K f ≠ 1∧s'=w.s)∨(w.s.K f=1∧w.s.chg (f:Nat) 1 1 2 2=(0,s'))):SwT w p now (0,Sw.brg { w with s:=s' } p f now (w.got p))
 | full (hn:¬ 0≤w.F p) (hf:w.free=none) (hs:w.slot (w.T p)=none∨w.vic=none):SwT w p now (5,w)
 | swp (k v:Nat) (hn:¬ 0≤w.F p) (hf:w.free=none) (hk:w.slot (w.T p)=some k) (hv:w.vic=some v):SwT w p now (0,(w.put v k).brg p (w.F v).toNat now (w.got p))
theorem Ac8 (p:Nat) (now:Int):SwT w p now (w.touch p now):=by
 unfold Sw.touch
 split
 ·rename_i h;exact .here h
 rename_i hn
 cases hf:w.free with
 | some f =>
  dsimp only
  split
  ·rename_i hk
   cases hc:w.s.chg (f:Nat) 1 1 2 2 with
   | mk e s' =>
    dsimp only
    split
    ·rename_i he;subst he;exact .new f s' hn hf (.inr ⟨hk,hc⟩)
    ·rename_i he;exact .no f s' e hn hf hk hc he
  ·rename_i hk;exact .new f w.s hn hf (.inl ⟨hk,rfl⟩)
 | none =>
  dsimp only
  cases hk:w.slot (w.T p) with
  | none=>exact .full hn hf (.inl hk)
  | some k =>
   cases hv:w.vic with
   | none=>exact .full hn hf (.inr hv)
   | some v=>exact .swp k v hn hf hk hv
theorem Ax3 {x:Int} (h:0≤x∧x≤1000000000):0≤AV9 x∧AV9 x≤1000000000:=by unfold AV9;split<;>omega
theorem AV3 (h:E9 w) {s':Sy} (hg:GoodS s') (hk:∀ f,w.a≤f→f < w.a+w.n→(s'.K f=1∨s'.K f=2)∧s'.M f=false) (hu:∀ f,w.heldF f→s'.K f=2):E9 { w with s:=s' }:=by
 refine ⟨hg,h.rng,hk,h.far,fun p=>?_,h.sl,h.oneF,h.oneT,h.st,h.cnt⟩
 rcases h.fr p with h1 | ⟨h1,f,h2,h3,h4,h5⟩
 ·exact .inl h1
 ·refine .inr ⟨h1,f,h2,h3,h4,hu f ⟨p,?_,h2⟩⟩
  by_cases hp:p < w.pg
  ·exact hp
  ·have:=(h.far p (by omega)).1;omega
theorem BB2 (h:E9 w) {p f:Nat} {now:Int} {x:Nat→Int} (hp:p < w.pg) (hn:¬ 0≤w.F p) (hf:w.a≤f∧f < w.a+w.n) (hh:¬ w.heldF f) (hk:w.s.K f=2) (hnow:0≤now∧now≤1000000000000):E9 (w.brg p f now x):=by
 have hno:∀ q,w.F q ≠ (f:Nat):=fun q hq=>hh ⟨q,by
  by_cases hp:q < w.pg
  ·exact hp
  ·have:=(h.far q (by omega)).1;omega,hq⟩
 refine ⟨BR1 h.good hk,h.rng,h.kind,fun q hq=>?_,fun q=>?_,fun q=>?_,fun q r h1 h2=>?_,fun q r h1 h2=>?_,fun q=>?_,?_⟩
 ·have hq:w.pg≤q:=hq
  exact ⟨(upd_ne (by omega)).trans (h.far q hq).1,(upd_ne (by omega)).trans (h.far q hq).2⟩
 ·show E8 w.F p (f:Nat) q = -1∨(E8 w.T p (-1) q = -1∧∃ g:Nat,E8 w.F p (f:Nat) q=(g:Nat)∧w.a≤g∧g < w.a+w.n∧w.s.K g=2)
  by_cases e:q=p
  ·subst e;rw [C9,C9];exact .inr ⟨rfl,f,rfl,hf.1,hf.2,hk⟩
  ·rw [upd_ne e,upd_ne e];exact h.fr q
 ·show E8 w.T p (-1) q = -1∨(E8 w.F p (f:Nat) q = -1∧∃ k:Nat,E8 w.T p (-1) q=(k:Nat)∧k < w.sl)
  by_cases e:q=p
  ·subst e;rw [C9];exact .inl rfl
  ·rw [upd_ne e,upd_ne e];exact h.sl q
 ·have h1:0≤E8 w.F p (f:Nat) q:=h1
  have h2:E8 w.F p (f:Nat) q=E8 w.F p (f:Nat) r:=h2
  by_cases e:q=p
  ·by_cases e2:r=p
   ·rw [e,e2]
   ·rw [e,C9,upd_ne e2] at h2;exact absurd h2.symm (hno r)
  ·by_cases e2:r=p
   ·rw [upd_ne e,e2,C9] at h2;exact absurd h2 (hno q)
   ·rw [upd_ne e] at h1 h2;rw [upd_ne e2] at h2;exact h.oneF q r h1 h2
 ·have h1:0≤E8 w.T p (-1) q:=h1
  have h2:E8 w.T p (-1) q=E8 w.T p (-1) r:=h2
  by_cases e:q=p
  ·rw [e,C9] at h1;exact absurd h1 (by decide)
  ·by_cases e2:r=p
   ·rw [upd_ne e] at h1 h2;rw [e2,C9] at h2;omega
   ·rw [upd_ne e] at h1 h2;rw [upd_ne e2] at h2;exact h.oneT q r h1 h2
 ·show 0≤E8 w.Z p now q∧E8 w.Z p now q≤1000000000000
  by_cases e:q=p
  ·subst e;rw [C9];exact hnow
  ·rw [upd_ne e];exact h.st q
 ·obtain ⟨c1,c2,c3,c4⟩:=h.cnt
  have:=Ax3 ⟨c1,c2⟩
  show 0≤(if 0≤w.T p then AV9 w.ins else w.ins)∧(if 0≤w.T p then AV9 w.ins else w.ins)≤1000000000∧0≤w.outs∧w.outs≤1000000000
  split<;>omega
theorem Ao3 (h:E9 w) {v k:Nat} (hv:v < w.pg) (h0:0≤w.F v) (hk:k < w.sl) (hh:¬ w.heldT k):E9 (w.put v k):=by
 have hno:∀ q,w.T q ≠ (k:Nat):=fun q hq=>hh ⟨q,by
  by_cases hp:q < w.pg
  ·exact hp
  ·have:=(h.far q (by omega)).2;omega,hq⟩
 refine ⟨h.good,h.rng,h.kind,fun q hq=>?_,fun q=>?_,fun q=>?_,fun q r h1 h2=>?_,fun q r h1 h2=>?_,h.st,?_⟩
 ·have hq:w.pg≤q:=hq
  exact ⟨(upd_ne (by omega)).trans (h.far q hq).1,(upd_ne (by omega)).trans (h.far q hq).2⟩
 ·show E8 w.F v (-1) q = -1∨(E8 w.T v (k:Nat) q = -1∧∃ g:Nat,E8 w.F v (-1) q=(g:Nat)∧w.a≤g∧g < w.a+w.n∧w.s.K g=2)
  by_cases e:q=v
  ·subst e;rw [C9];exact .inl rfl
  ·rw [upd_ne e,upd_ne e];exact h.fr q
 ·show E8 w.T v (k:Nat) q = -1∨(E8 w.F v (-1) q = -1∧∃ g:Nat,E8 w.T v (k:Nat) q=(g:Nat)∧g < w.sl)
  by_cases e:q=v
  ·subst e;rw [C9,C9];exact .inr ⟨rfl,k,rfl,hk⟩
  ·rw [upd_ne e,upd_ne e];exact h.sl q
 ·have h1:0≤E8 w.F v (-1) q:=h1
  have h2:E8 w.F v (-1) q=E8 w.F v (-1) r:=h2
  by_cases e:q=v
  ·rw [e,C9] at h1;exact absurd h1 (by decide)
  ·by_cases e2:r=v
   ·rw [upd_ne e] at h1 h2;rw [e2,C9] at h2;omega
   ·rw [upd_ne e] at h1 h2;rw [upd_ne e2] at h2;exact h.oneF q r h1 h2
 ·have h1:0≤E8 w.T v (k:Nat) q:=h1
  have h2:E8 w.T v (k:Nat) q=E8 w.T v (k:Nat) r:=h2
  by_cases e:q=v
  ·by_cases e2:r=v
   ·rw [e,e2]
   ·rw [e,C9,upd_ne e2] at h2;exact absurd h2.symm (hno r)
  ·by_cases e2:r=v
   ·rw [upd_ne e,e2,C9] at h2;exact absurd h2 (hno q)
   ·rw [upd_ne e] at h1 h2;rw [upd_ne e2] at h2;exact h.oneT q r h1 h2
 ·obtain ⟨c1,c2,c3,c4⟩:=h.cnt
  have:=Ax3 ⟨c3,c4⟩
  exact ⟨c1,c2,this.1,this.2⟩
end
end Go.Pol
namespace Go.Pol
open Go.Am Go.Proofs.Ytbhgfoikbkaohaa.Sh
section
variable {w:Sw}
theorem AE7 (h:E9 w) {p:Nat} (h0:0≤w.F p):p < w.pg:=by
 by_cases hp:p < w.pg
 ·exact hp
 ·have:=(h.far p (by omega)).1;omega
theorem AJ1 (h:E9 w) {p:Nat} (h0:0≤w.T p):p < w.pg:=by
 by_cases hp:p < w.pg
 ·exact hp
 ·have:=(h.far p (by omega)).2;omega
def Sw.off (w:Sw) (p:Nat):Sw:={ w with T:=E8 w.T p (-1) }
theorem good_off (h:E9 w) {p:Nat} (hn:¬ 0≤w.F p):E9 (w.off p):=by
 refine ⟨h.good,h.rng,h.kind,fun q hq=>⟨(h.far q hq).1,?_⟩,fun q=>?_,fun q=>?_,h.oneF,fun q r h1 h2=>?_,h.st,h.cnt⟩
 ·show E8 w.T p (-1) q = -1
  by_cases e:q=p
  ·rw [e,C9]
  ·rw [upd_ne e];exact (h.far q hq).2
 ·show w.F q = -1∨(E8 w.T p (-1) q = -1∧∃ f:Nat,w.F q=(f:Nat)∧w.a≤f∧f < w.a+w.n∧w.s.K f=2)
  by_cases e:q=p
  ·rcases h.fr q with h1 | ⟨h1,h2⟩
   ·exact .inl h1
   ·exact .inr ⟨by rw [e,C9],h2⟩
  ·rw [upd_ne e];exact h.fr q
 ·show E8 w.T p (-1) q = -1∨(w.F q = -1∧∃ k:Nat,E8 w.T p (-1) q=(k:Nat)∧k < w.sl)
  by_cases e:q=p
  ·exact .inl (by rw [e,C9])
  ·rw [upd_ne e];exact h.sl q
 ·have h1:0≤E8 w.T p (-1) q:=h1
  have h2:E8 w.T p (-1) q=E8 w.T p (-1) r:=h2
  by_cases e:q=p
  ·rw [e,C9] at h1;exact absurd h1 (by decide)
  ·by_cases e2:r=p
   ·rw [upd_ne e] at h1 h2;rw [e2,C9] at h2;omega
   ·rw [upd_ne e] at h1 h2;rw [upd_ne e2] at h2;exact h.oneT q r h1 h2
theorem put_brg {p v k f:Nat} {now:Int} {x:Nat→Int} (hne:v ≠ p):(w.put v k).brg p f now x={ ((w.off p).put v k).brg p f now x with ins:=if 0≤w.T p then AV9 w.ins else w.ins }:=by
 unfold Sw.brg Sw.put Sw.off
 simp only [upd_ne hne.symm,Sw.mk.injEq,true_and,and_true]
 funext q
 by_cases e:q=p
 ·rw [e,C9,C9]
 ·rw [upd_ne e,upd_ne e]
  by_cases e2:q=v
  ·rw [e2,C9,C9]
  ·rw [upd_ne e2,upd_ne e2,upd_ne e]
theorem good_ins (h:E9 w) {i:Int} (hi:0≤i∧i≤1000000000):E9 { w with ins:=i }:=⟨h.good,h.rng,h.kind,h.far,h.fr,h.sl,h.oneF,h.oneT,h.st,hi.1,hi.2,h.cnt.2.2⟩
theorem BG6 (h:E9 w) {p:Nat} {now:Int} (hnow:0≤now∧now≤1000000000000):E9 { w with Z:=E8 w.Z p now }:=⟨h.good,h.rng,h.kind,h.far,h.fr,h.sl,h.oneF,h.oneT,fun q=>by
 show 0≤E8 w.Z p now q∧E8 w.Z p now q≤1000000000000
 by_cases e:q=p
 ·subst e;rw [C9];exact hnow
 ·rw [upd_ne e];exact h.st q,h.cnt⟩
theorem comW (h:E9 w) {f:Nat} (hf:w.a≤f∧f < w.a+w.n) {e:Int} {s':Sy} (hk:w.s.K f=1) (hc:w.s.chg (f:Nat) 1 1 2 2=(e,s')):E9 { w with s:=s' }∧(e=0→s'.K f=2)∧s'.B=(if e=0 then fun p=>if p=f then fun _=>0 else w.s.B p else w.s.B):=by
 have hr:=h.rng
 have hm:=(h.kind f hf.1 hf.2).2
 rw [Ax1 (by omega) hk hm] at hc
 have hu:∀ g,w.heldF g→w.s.K g=2:=fun g hg=>by
  obtain ⟨p,_,hp⟩:=hg
  rcases h.fr p with h1 | ⟨_,g',h2,_,_,h3⟩
  ·omega
  ·rw [show g=g' by omega];exact h3
 split at hc
 ·cases hc
  exact ⟨AV3 h (Ai0 h.good) h.kind hu,fun h0=>absurd h0 (by decide),by rw [if_neg (by decide)];rfl⟩
 ·cases hc
  refine ⟨AV3 h (Ao2 h.good (by omega) (by decide) hk hm) (fun g h1 h2=>⟨?_,(h.kind g h1 h2).2⟩) fun g hg=>?_,fun _=>by rw [AN2,if_pos rfl],by rw [if_pos rfl];rfl⟩
  ·rw [AN2];split
   ·exact .inr rfl
   ·exact (h.kind g h1 h2).1
  ·rw [AN2];split
   ·rfl
   ·exact hu g hg
theorem o8 (h:E9 w) {p:Nat} {now:Int} (hp:p < w.pg) (hnow:0≤now∧now≤1000000000000):E9 (w.touch p now).2:=by
 have hs:=Ac8 (w:=w) p now
 generalize w.touch p now=q at hs
 cases hs with
 | here h0=>exact BG6 h hnow
 | no f s' e hn hf hk hc he =>
  obtain ⟨f1,f2,f3⟩:=AD6 hf
  exact (comW h ⟨f1,f2⟩ hk hc).1
 | new f s' hn hf hs =>
  obtain ⟨f1,f2,f3⟩:=AD6 hf
  have hg:E9 { w with s:=s' }∧s'.K f=2:=by
   rcases hs with ⟨h1,rfl⟩ | ⟨h1,h2⟩
   ·exact ⟨h,(h.kind f f1 f2).1.resolve_left h1⟩
   ·obtain ⟨c1,c2,_⟩:=comW h ⟨f1,f2⟩ h1 h2
    exact ⟨c1,c2 rfl⟩
  exact BB2 (w:={ w with s:=s' }) hg.1 hp hn ⟨f1,f2⟩ f3 hg.2 hnow
 | full hn hf hs=>exact h
 | swp k v hn hf hk hv =>
  obtain ⟨v1,v2,v3⟩:=(AH9 (w:=w) w.pg).1 v hv
  obtain ⟨k1,k2⟩:=AC4 hk
  have hne:v ≠ p:=fun e=>hn (e▸v2)
  rw [put_brg hne]
  have ho:=good_off h hn
  have hkh:¬ (w.off p).heldT k:=by
   rintro ⟨q,hq,he⟩
   have he:E8 w.T p (-1) q=(k:Nat):=he
   by_cases e:q=p
   ·rw [e,C9] at he;omega
   ·rw [upd_ne e] at he
    rcases k2 with k2|k2
    ·exact e (h.oneT q p (by omega) (by omega))
    ·exact k2 ⟨q,hq,he⟩
  obtain ⟨f,hf1,hf2,hf3,hf4⟩:∃ f:Nat,w.F v=(f:Nat)∧w.a≤f∧f < w.a+w.n∧w.s.K f=2:=by
   rcases h.fr v with h1 | ⟨_,h2⟩
   ·omega
   ·exact h2
  have hfn:(w.F v).toNat=f:=by omega
  have hp2:=Ao3 ho v1 v2 k1 hkh
  refine good_ins (BB2 hp2 hp (fun h3=>?_) ⟨by rw [hfn];exact hf2,by rw [hfn];exact hf3⟩ ?_ (by rw [hfn];exact hf4) hnow) ?_
  ·have h3:0≤E8 w.F v (-1) p:=h3
   rw [upd_ne hne.symm] at h3;exact hn h3
  ·rintro ⟨q,hq,he⟩
   have he:E8 w.F v (-1) q=((w.F v).toNat:Nat):=he
   by_cases e:q=v
   ·rw [e,C9] at he;omega
   ·rw [upd_ne e] at he;exact e (h.oneF q v (by omega) (by omega))
  ·obtain ⟨c1,c2,_,_⟩:=h.cnt
   have:=Ax3 ⟨c1,c2⟩
   split<;>omega
end
end Go.Pol
namespace Go.Pol
open Go.Am Go.Proofs.Ytbhgfoikbkaohaa.Sh
section
variable {w:Sw}
def Sw.hs (w:Sw) (p j:Nat):Int:=if 0≤w.F p then w.s.B (w.F p).toNat j else if 0≤w.T p then w.D (w.T p).toNat j else 0
theorem BA1 {s:Sy} {f g j:Nat} {x:Nat→Int}:(s.page f x).B g j=if g=f then (if j < 64 then x j else 0) else s.B g j:=by
 show AC2 s.B f _ g j=_
 unfold AC2
 split<;>rfl
theorem got_hs {p j:Nat} (hn:¬ 0≤w.F p):w.got p j=w.hs p j:=by
 unfold Sw.got Sw.hs
 rw [if_neg hn]
 split<;>rfl
structure TouY (w:Sw) (p:Nat) (now:Int) (q:Int × Sw):Prop where
 e:q.1=0
 fr:0≤q.2.F p
 st:q.2.Z p=now
 hs:∀ r j,j < 64→q.2.hs r j=w.hs r j
 is:∀ r,r ≠ p→(q.2.is r ↔ w.is r)
 z:∀ r,r ≠ p→q.2.Z r=w.Z r
 sz:q.2.pg=w.pg
structure TouN (w:Sw) (q:Int × Sw):Prop where
 e:q.1 ≠ 0
 same:∃ s',q.2={ w with s:=s' }∧s'.K=w.s.K∧s'.M=w.s.M∧s'.B=w.s.B∧s'.G=w.s.G
theorem AU4 (h:E9 w) {p:Nat} (now:Int):TouY w p now (w.touch p now)∨TouN w (w.touch p now):=by
 have hsp:=Ac8 (w:=w) p now
 generalize w.touch p now=q at hsp
 cases hsp with
 | here h0=>exact .inl ⟨rfl,h0,C9,fun _ _ _=>rfl,fun _ _=>Iff.rfl,fun r hr=>upd_ne hr,rfl⟩
 | no f s' e hn hf hk hc he =>
  obtain ⟨f1,f2,_⟩:=AD6 hf
  have hr:=h.rng
  rw [Ax1 (by omega) hk (h.kind f f1 f2).2] at hc
  split at hc
  ·cases hc;exact .inr ⟨he,_,rfl,rfl,rfl,rfl,rfl⟩
  ·cases hc;exact absurd rfl he
 | new f s' hn hf hs =>
  obtain ⟨f1,f2,f3⟩:=AD6 hf
  have hB:∀ g,g ≠ f→s'.B g=w.s.B g:=fun g hg=>by
   rcases hs with ⟨_,rfl⟩ | ⟨h1,h2⟩
   ·rfl
   ·obtain ⟨_,_,c3⟩:=comW h ⟨f1,f2⟩ h1 h2
    rw [c3,if_pos rfl];exact if_neg hg
  refine .inl ⟨rfl,?_,C9,fun r j hj=>?_,fun r hr=>?_,fun r hr=>upd_ne hr,rfl⟩
  ·show 0≤E8 w.F p (f:Nat) p
   rw [C9];omega
  ·show (if 0≤E8 w.F p (f:Nat) r then (s'.page f (w.got p)).B (E8 w.F p (f:Nat) r).toNat j else if 0≤E8 w.T p (-1) r then w.D (E8 w.T p (-1) r).toNat j else 0)=_
   by_cases e:r=p
   ·subst e
    rw [C9,if_pos (by omega),BA1,if_pos (by omega),if_pos hj,got_hs hn]
   ·rw [upd_ne e,upd_ne e]
    unfold Sw.hs
    by_cases h0:0≤w.F r
    ·have hne:(w.F r).toNat ≠ f:=fun e2=>f3 ⟨r,AE7 h h0,by omega⟩
     rw [if_pos h0,if_pos h0,BA1,if_neg hne,hB _ hne]
    ·rw [if_neg h0,if_neg h0]
  ·show (0≤E8 w.F p (f:Nat) r∨0≤E8 w.T p (-1) r) ↔ _
   rw [upd_ne hr,upd_ne hr];exact Iff.rfl
 | full hn hf hs=>exact .inr ⟨(show (5:Int) ≠ 0 by decide),w.s,rfl,rfl,rfl,rfl,rfl⟩
 | swp k v hn hf hk hv =>
  obtain ⟨v1,v2,v3⟩:=(AH9 (w:=w) w.pg).1 v hv
  obtain ⟨k1,k2⟩:=AC4 hk
  have hne:v ≠ p:=fun e=>hn (e▸v2)
  refine .inl ⟨rfl,?_,C9,fun r j hj=>?_,fun r hr=>?_,fun r hr=>upd_ne hr,rfl⟩
  ·show 0≤E8 (E8 w.F v (-1)) p ((w.F v).toNat:Nat) p
   rw [C9];omega
  ·show (if 0≤E8 (E8 w.F v (-1)) p ((w.F v).toNat:Nat) r then (w.s.page (w.F v).toNat (w.got p)).B (E8 (E8 w.F v (-1)) p ((w.F v).toNat:Nat) r).toNat j else if 0≤E8 (E8 w.T v (k:Nat)) p (-1) r then AC2 w.D k (w.s.B (w.F v).toNat) (E8 (E8 w.T v (k:Nat)) p (-1) r).toNat j else 0)=_
   by_cases e:r=p
   ·subst e
    rw [C9,if_pos (by omega),BA1,if_pos (by omega),if_pos hj,got_hs hn]
   ·rw [upd_ne e,upd_ne e]
    by_cases e2:r=v
    ·subst e2
     rw [C9,C9,if_neg (by decide),if_pos (by omega),show ((k:Nat):Int).toNat=k from rfl]
     unfold AC2 Sw.hs
     rw [if_pos rfl,if_pos v2]
    ·rw [upd_ne e2,upd_ne e2]
     unfold Sw.hs
     by_cases h0:0≤w.F r
     ·have hne2:(w.F r).toNat ≠ (w.F v).toNat:=fun e3=>e2 (h.oneF r v h0 (by omega))
      rw [if_pos h0,if_pos h0,BA1,if_neg hne2]
     ·rw [if_neg h0,if_neg h0]
      by_cases h1:0≤w.T r
      ·have hne3:(w.T r).toNat ≠ k:=fun e3=>by
        rcases k2 with k2|k2
        ·exact e (h.oneT r p h1 (by omega))
        ·exact k2 ⟨r,AJ1 h h1,by omega⟩
       rw [if_pos h1,if_pos h1]
       unfold AC2
       rw [if_neg hne3]
      ·rw [if_neg h1,if_neg h1]
  ·show (0≤E8 (E8 w.F v (-1)) p ((w.F v).toNat:Nat) r∨0≤E8 (E8 w.T v (k:Nat)) p (-1) r) ↔ (0≤w.F r∨0≤w.T r)
   rw [upd_ne hr,upd_ne hr]
   by_cases e2:r=v
   ·subst e2;rw [C9,C9];omega
   ·rw [upd_ne e2,upd_ne e2]
end
end Go.Pol
