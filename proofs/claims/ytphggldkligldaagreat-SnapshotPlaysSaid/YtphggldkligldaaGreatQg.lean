/-
 A book of spaces,plain: pages outside of it;what an error keeps;without refusals no frame is idle.
 A book of spaces,plain: views at a place;writes.
 A book of spaces,plain: what a space reads.
 A book of spaces,plain: views that may be written are alone;what a write does.
 A book of spaces,plain: what a space reads after a write.
 A book of spaces,plain: any call keeps a good book;bytes are bytes.
 A book of spaces,plain: what each space has,followed without the book (SnapshotBytes).
 A book of spaces,plain: counts of frames (SnapshotFits,SnapshotCopies,SnapshotBack).
 A book of spaces,plain: what a write takes;a snapshot does not differ (SnapshotCopies).
 A book of spaces,plain: sums;frames that are used are not more than views (TopCopies).
 Spaces that share nothing,plain (TopCopies).
 A book and spaces that share nothing,plain (TopCopies).
 A book of spaces,plain: a new one.
 A book of spaces,plain: filling a page,counting frames,the example.
-/
import Derived.Test.YtphggldkligldaaGreatQf
set_option linter.unusedSimpArgs false
set_option linter.unusedVariables false
namespace Go.Pol
open Go.Am Go.Proofs.YtphggldkligldaaGreat.Sh
section
variable {b:Bk}
def OutB (b:Bk):Prop:=∀ p,¬ (b.a≤p∧p < b.a+b.n)→b.s.K p=0
theorem out_giv (h:K6 b) (ho:OutB b) {G:List Nat} (hG:∀ f ∈ G,f < 1024∧b.s.K f=2∧b.s.M f=false) (hn:G.Nodup) (hr:∀ f ∈ G,b.a≤f∧f < b.a+b.n):∀ p,¬ (b.a≤p∧p < b.a+b.n)→(AI4 b.s G).K p=0:=fun p hp=>by
 rw [((Ae7 h.good hG hn).2.2.1 p fun hg=>hp (hr p hg)).1];exact ho p hp
theorem gone_rng (h:K6 b) (x:Nat):∀ f ∈ AF7 b.L x,b.a≤f∧f < b.a+b.n:=fun f hf=>by
 obtain ⟨h1,⟨v,hv,h2,h3⟩,h4⟩:=An3.1 hf
 obtain ⟨w1,w2,w3⟩:=h.view hv
 exact ⟨h3▸w1,h3▸w2⟩
theorem out_gone (h:K6 b) (ho:OutB b) (x:Nat):∀ p,¬ (b.a≤p∧p < b.a+b.n)→(AI4 b.s (AF7 b.L x)).K p=0:=out_giv h ho (BV6 h x) Aj1 (gone_rng h x)
theorem out_drop (h:K6 b) (ho:OutB b) (x:Int):OutB (b.drop x).2.2:=by
 unfold Bk.drop
 split
 ·exact ho
 ·show OutB { b with L:=noA x.toNat b.L,s:=AI4 b.s (AF7 b.L x.toNat) }
  intro p hp
  dsimp only at hp ⊢
  exact out_gone h ho x.toNat p hp
theorem isR_nilE {C:Nat→Int} {k:Nat}:isR [] C k=false:=by unfold isR AZ6;split<;>rfl
structure Aw1 (b:Bk):Prop where
 l:b.s.l=[]
 no:∀ f,b.a≤f→f < b.a+b.n→b.s.K f=2→0 < cntF b.L f
theorem BN1:∀ {G:List Nat} {s:Sy},s.l=[]→(∀ f ∈ G,f < 1024∧s.K f=2∧s.M f=false)→G.Nodup→(AI4 s G).l=[]∧∀ p,(AI4 s G).K p=if p ∈ G then 1 else s.K p
 | [],s,hl,_,_=>⟨hl,fun p=>by rw [if_neg (by simp)];rfl⟩
 | f::G,s,hl,h,hn=>by
  obtain ⟨hf,hk,hm⟩:=h f (List.mem_cons_self ..)
  rw [List.nodup_cons] at hn
  show (AI4 (s.chg (f:Nat) 1 2 1 3).2 G).l=[]∧∀ p,(AI4 (s.chg (f:Nat) 1 2 1 3).2 G).K p=_
  have hc:s.chg (f:Nat) 1 2 1 3=(0,s.turn f 1 3):=by rw [Av2 hf hk hm,hl,isR_nilE];rfl
  rw [hc]
  obtain ⟨i1,i2⟩:=BN1 (G:=G) (s:=s.turn f 1 3) hl (fun g hgm=>by
   obtain ⟨a1,a2,a3⟩:=h g (List.mem_cons_of_mem _ hgm)
   exact ⟨a1,by rw [AU7,if_neg (fun e:g=f=>hn.1 (e▸hgm))];exact a2,a3⟩) hn.2
  refine ⟨i1,fun p=>?_⟩
  rw [i2,AU7]
  by_cases e:p=f
  ·subst e;rw [if_neg hn.1,if_pos rfl,if_pos (List.mem_cons_self ..)]
  ·rw [if_neg e]
   by_cases e2:p ∈ G
   ·rw [if_pos e2,if_pos (List.mem_cons_of_mem _ e2)]
   ·rw [if_neg e2,if_neg fun hc=>(List.mem_cons.1 hc).elim e e2]
theorem tight_gone (h:K6 b) (ht:Aw1 b) (x:Nat) {L':List Vw} (hc:∀ f,0 < cntF (noA x b.L) f→0 < cntF L' f):Aw1 { b with L:=L',s:=AI4 b.s (AF7 b.L x) }:=by
 obtain ⟨g1,g2⟩:=BN1 ht.l (BV6 h x) Aj1
 refine ⟨g1,fun f h1 h2 hk=>?_⟩
 dsimp only at h1 h2 hk
 rw [g2] at hk
 by_cases e:f ∈ AF7 b.L x
 ·rw [if_pos e] at hk;exact absurd hk (by decide)
 ·rw [if_neg e] at hk
  refine hc f (Classical.byContradiction fun h0=>e (An3.2 ?_))
  have hr:=h.rng
  obtain ⟨u,hu,eu⟩:=AT3.1 (ht.no f h1 h2 hk)
  refine ⟨by omega,⟨u,hu,Classical.byContradiction fun hne=>h0 (AT3.2 ⟨u,As1.2 ⟨hu,hne⟩,eu⟩),eu⟩,by omega⟩
theorem tight_drop (h:K6 b) (ht:Aw1 b) (x:Int):Aw1 (b.drop x).2.2:=by
 unfold Bk.drop
 split
 ·exact ht
 ·show Aw1 { b with L:=noA x.toNat b.L,s:=AI4 b.s (AF7 b.L x.toNat) }
  exact tight_gone h ht x.toNat fun f hf=>hf
end
end Go.Pol
namespace Go.Pol
open Go.Am Go.Proofs.YtphggldkligldaaGreat.Sh
theorem Ac5 {g:Vw→Vw} {A B:List Vw} {v:Vw} (hs:srt (A++v::B)):AR5 g v.1 v.2.1 (A++v::B)=A++g v::B:=by
 have hne:=Al0 hs
 unfold AR5
 rw [List.map_append,List.map_cons,if_pos ⟨rfl,rfl⟩]
 congr 1
 ·conv=>rhs;rw [← List.map_id A]
  exact List.map_congr_left fun w hw=>if_neg (hne.1 w hw)
 ·congr 1
  conv=>rhs;rw [← List.map_id B]
  exact List.map_congr_left fun w hw=>if_neg (hne.2 w hw)
theorem BO2 {A B:List Vw} {v:Vw} (hs:srt (A++v::B)):Aw4 (A++v::B) v.1 v.2.1=A++B:=by
 have hne:=Al0 hs
 unfold Aw4
 rw [List.filter_append,List.filter_cons,if_neg (by simp [atV])]
 congr 1
 ·exact List.filter_eq_self.2 fun w hw=>by simpa using hne.1 w hw
 ·exact List.filter_eq_self.2 fun w hw=>by simpa using hne.2 w hw
section
variable {b:Bk}
end
end Go.Pol
namespace Go.Pol
open Go.Am Go.Proofs.YtphggldkligldaaGreat.Sh
def Bk.rd (b:Bk) (a k j:Nat):Option Int:=(AO1 b.L a k).map fun v=>b.s.B v.2.2.1 j
section
variable {b:Bk}
end
end Go.Pol
namespace Go.Pol
open Go.Am Go.Proofs.YtphggldkligldaaGreat.Sh
def OwnB (b:Bk):Prop:=∀ v ∈ b.L,v.2.2.2=true→∀ w ∈ b.L,w.2.2.1=v.2.2.1→w=v
section
variable {b:Bk}
def Bk.pr (b:Bk) (x k:Nat):Bk:={ b with L:=AR5 (prV true) x k b.L }
def Bk.fr (b:Bk) (x k:Nat) (r:Int × Nat × Sy):Bk:={ b with L:=AR5 (frV r.2.1) x k b.L,s:=r.2.2 }
end
end Go.Pol
namespace Go.Pol
open Go.Am Go.Proofs.YtphggldkligldaaGreat.Sh
section
variable {b:Bk}
end
end Go.Pol
namespace Go.Pol
open Go.Am Go.Proofs.YtphggldkligldaaGreat.Sh
def Bk.call (b:Bk) (w:Nat) (x y t v:Int) (l:List Rl):Int × Bk :=
 if w < 2 then b.map x y else if w=2 then b.unmap x y else if w=3 then (b.take x y).2 else if w=4 then (b.drop x).2 else if w=5 then (b.revert x y).2 else
 if w < 10 then b.write x t v else if w=13 then ((b.s.plan l).1,{ b with s:=(b.s.plan l).2 }) else (0,b)
theorem call_keep {b:Bk} {P:Bk→Prop} (w:Nat) (x y t v:Int) (l:List Rl) (h0:P b) (h1:P (b.map x y).2) (h2:P (b.unmap x y).2) (h3:P (b.take x y).2.2) (h4:P (b.drop x).2.2) (h5:P (b.revert x y).2.2) (h6:P (b.write x t v).2) (h7:P { b with s:=(b.s.plan l).2 }):P (b.call w x y t v l).2:=by
 unfold Bk.call
 split
 ·exact h1
 split
 ·exact h2
 split
 ·exact h3
 split
 ·exact h4
 split
 ·exact h5
 split
 ·exact h6
 split
 ·exact h7
 ·exact h0
theorem plan_K {s:Sy} {l:List Rl}:(s.plan l).2.K=s.K:=by unfold Sy.plan;split<;>rfl
theorem plan_M {s:Sy} {l:List Rl}:(s.plan l).2.M=s.M:=by unfold Sy.plan;split<;>rfl
section
variable {b:Bk}
theorem BK4 (h:K6 b) (l:List Rl):K6 { b with s:=(b.s.plan l).2 }:=by
 refine ⟨good_plan h.good,h.rng,fun f h1 h2=>?_,fun f hf=>?_,h.sr,h.ok,h.len⟩
 ·show ((b.s.plan l).2.K f=1∨(b.s.plan l).2.K f=2)∧(b.s.plan l).2.M f=false
  rw [plan_K,plan_M];exact h.kind f h1 h2
 ·show _∧_∧(b.s.plan l).2.K f=2
  rw [plan_K];exact h.used f hf
theorem call_good (h:K6 b) (w:Nat) (x y t v:Int) (l:List Rl):K6 (b.call w x y t v l).2:=call_keep (P:=K6) w x y t v l h (BE9 h x y) (Az9 h x y) (Ae4 h x y) (Ae5 h x) (At6 h x y) (AN3 h x t v) (BK4 h l)
def ByS (s:Sy):Prop:=∀ p j,0≤s.B p j∧s.B p j < 256
end
end Go.Pol
namespace Go.Pol
open Go.Am Go.Proofs.YtphggldkligldaaGreat.Sh
def hsO:Option Int→Int
 | some v=>v
 | none=>-1
def Bk.hs (b:Bk) (k p:Nat):Int:=hsO (b.rd k (p / 64) (p % 64))
section
variable {b:Bk}
end
end Go.Pol
namespace Go.Pol
open Go.Am Go.Proofs.YtphggldkligldaaGreat.Sh
theorem cntK_len {K:Nat→Int} {v:Int}:∀ n,AR6 K v n=((List.range n).filter fun p=>decide (K p=v)).length
 | 0=>rfl
 | n+1=>by
  rw [List.range_succ,List.filter_append,List.length_append,← cntK_len n]
  show AR6 K v n+(if K n=v then 1 else 0)=_
  by_cases e:K n=v
  ·rw [if_pos e,List.filter_cons_of_pos (by simpa using e)];rfl
  ·rw [if_neg e,List.filter_cons_of_neg (by simpa using e)];rfl
theorem Af1 {α:Type} {l:List α} {p:α→Bool} (h:∀ f ∈ l,p f=false):(l.filter p).length=0:=by
 rw [List.length_eq_zero_iff,List.filter_eq_nil_iff]
 intro f hf;rw [h f hf];decide
theorem BW0 {α:Type} {p q r:α→Bool}:∀ {l:List α},(∀ f ∈ l,(r f=true ↔ (p f=true∨q f=true))∧¬ (p f=true∧q f=true))→(l.filter r).length=(l.filter p).length+(l.filter q).length
 | [],_=>rfl
 | f::l,h=>by
  have ih:=BW0 (l:=l) fun g hg=>h g (List.mem_cons_of_mem _ hg)
  obtain ⟨h1,h2⟩:=h f (List.mem_cons_self ..)
  rw [List.filter_cons,List.filter_cons,List.filter_cons]
  cases hp:p f<;>cases hq:q f<;>cases hr:r f<;>simp_all<;>omega
theorem range_split {a n m:Nat} (h:a+n≤m):List.range m=List.range' 0 a++(List.range' a n++List.range' (a+n) (m - (a+n))):=by
 rw [List.range'_append_1]
 have:=List.range'_append_1 (s:=0) (m:=a) (n:=n+(m - (a+n)))
 rw [Nat.zero_add] at this
 rw [this,List.range_eq_range',show a+(n+(m - (a+n)))=m by omega]
section
variable {b:Bk}
theorem Aj6 (h:K6 b) (ho:OutB b) {v:Int} (hv:v ≠ 0):AR6 b.s.K v 1024=((List.range' b.a b.n).filter fun p=>decide (b.s.K p=v)).length:=by
 have hr:=h.rng
 rw [cntK_len,range_split hr.2,List.filter_append,List.filter_append,List.length_append,List.length_append,Af1 (l:=List.range' 0 b.a),Af1 (l:=List.range' (b.a+b.n) _)]
 ·omega
 ·intro f hf
  rw [List.mem_range'_1] at hf
  rw [ho f (by omega)];simpa using Ne.symm hv
 ·intro f hf
  rw [List.mem_range'_1] at hf
  rw [ho f (by omega)];simpa using Ne.symm hv
theorem fits (h:K6 b) (ho:OutB b):AR6 b.s.K 2 1024=b.used+b.idle∧AR6 b.s.K 1 1024+(b.used+b.idle)=b.n:=by
 have e2:AR6 b.s.K 2 1024=b.used+b.idle:=by
  rw [Aj6 h ho (by decide)]
  refine BW0 fun f hf=>?_
  rw [List.mem_range'_1] at hf
  have:=h.used f
  simp only [decide_eq_true_eq]
  constructor
  ·constructor
   ·intro hk
    by_cases h0:cntF b.L f=0
    ·exact .inr ⟨h0,hk⟩
    ·exact .inl (by omega)
   ·rintro (h1|h1)
    ·exact (this h1).2.2
    ·exact h1.2
  ·rintro ⟨h1,h2,_⟩;omega
 refine ⟨e2,?_⟩
 rw [← e2,Aj6 h ho (by decide),Aj6 h ho (by decide)]
 have:=BW0 (l:=List.range' b.a b.n) (p:=fun p=>decide (b.s.K p=1)) (q:=fun p=>decide (b.s.K p=2)) (r:=fun _=>true) fun f hf=>by
  rw [List.mem_range'_1] at hf
  have:=(h.kind f hf.1 hf.2).1
  simp only [decide_eq_true_eq]
  exact ⟨⟨fun _=>this,fun _=>trivial⟩,fun h2=>by omega⟩
 rw [← this,List.filter_eq_self.2 fun _ _=>rfl,List.length_range']
theorem idle_no (ht:Aw1 b):b.idle=0:=Af1 fun f hf=>by
 rw [List.mem_range'_1] at hf
 have:=ht.no f hf.1 hf.2
 simp only [decide_eq_false_iff_not]
 rintro ⟨h1,h2⟩
 have:=this h2;omega
theorem used_nil (hL:b.L=[]):b.used=0∧b.many=0:=by
 constructor
 ·exact Af1 fun f _=>by rw [hL];rfl
 ·exact Af1 fun f _=>by rw [hL];rfl
def Bk.drops (b:Bk):Nat→Bk
 | 0=>b
 | m+1=>((b.drops m).drop (m:Nat)).2.2
theorem drop_zero (m:Nat) (hm:m < 64):(b.drop (m:Nat)).2.1=0:=by
 unfold Bk.drop
 rw [if_neg (fun hn=>hn ⟨by omega,by omega⟩)]
theorem drop_L (m:Nat) (hm:m < 64):(b.drop (m:Nat)).2.2.L=noA m b.L:=by
 unfold Bk.drop
 rw [if_neg (fun hn=>hn ⟨by omega,by omega⟩)];rfl
theorem BO1 (h:K6 b) (ho:OutB b) (ht:Aw1 b):∀ m,m≤64→K6 (b.drops m)∧OutB (b.drops m)∧Aw1 (b.drops m)∧∀ v ∈ (b.drops m).L,m≤v.1
 | 0,_=>⟨h,ho,ht,fun _ _=>Nat.zero_le _⟩
 | m+1,hm=>by
  obtain ⟨i1,i2,i3,i4⟩:=BO1 h ho ht m (by omega)
  refine ⟨Ae5 i1 (m:Nat),out_drop i1 i2 (m:Nat),tight_drop i1 i3 (m:Nat),fun v hv=>?_⟩
  have hv:v ∈ ((b.drops m).drop (m:Nat)).2.2.L:=hv
  rw [drop_L m (by omega)] at hv
  obtain ⟨h1,h2⟩:=As1.1 hv
  have:=i4 v h1;omega
theorem back (h:K6 b) (ho:OutB b) (ht:Aw1 b):(b.drops 64).used=0∧(b.drops 64).idle=0∧(b.drops 64).many=0∧AR6 (b.drops 64).s.K 2 1024=0∧(b.drops 64).L=[]:=by
 obtain ⟨i1,i2,i3,i4⟩:=BO1 h ho ht 64 (Nat.le_refl _)
 have hL:(b.drops 64).L=[]:=List.eq_nil_iff_forall_not_mem.2 fun v hv=>by
  have:=i4 v hv;have:=(i1.ok v hv).1;omega
 obtain ⟨u1,u2⟩:=used_nil hL
 have u3:=idle_no i3
 exact ⟨u1,u3,u2,by rw [(fits i1 i2).1,u1,u3],hL⟩
end
end Go.Pol
namespace Go.Pol
open Go.Am Go.Proofs.YtphggldkligldaaGreat.Sh
section
variable {b:Bk}
end
end Go.Pol
namespace Go.Pol
open Go.Am Go.Proofs.YtphggldkligldaaGreat.Sh
section
variable {b:Bk}
end
end Go.Pol
namespace Go.Pol
open Go.Am Go.Proofs.YtphggldkligldaaGreat.Sh
structure SpR (R:Nat→Nat→Option Int) (s:Sy):Prop where
 good:GoodS s
 l:s.l=[]
 M:∀ p,s.M p=false
 K:∀ p,8≤p→s.K p=0
 at_:∀ p,p < 8→(s.K p=1∧∀ j,j < 64→R p j=none)∨(s.K p=2∧∀ j,j < 64→R p j=some (s.B p j))
theorem SpR.congr {R R':Nat→Nat→Option Int} {s:Sy} (h:SpR R s) (e:∀ p j,p < 8→j < 64→R' p j=R p j):SpR R' s:=⟨h.good,h.l,h.M,h.K,fun p hp=>(h.at_ p hp).imp (fun h2=>⟨h2.1,fun j hj=>(e p j hp hj).trans (h2.2 j hj)⟩) fun h2=>⟨h2.1,fun j hj=>(e p j hp hj).trans (h2.2 j hj)⟩⟩
section
variable {R:Nat→Nat→Option Int} {s:Sy}
end
end Go.Pol
namespace Go.Pol
open Go.Am Go.Proofs.YtphggldkligldaaGreat.Sh
section
variable {b:Bk} {A:Nat→Sy}
end
end Go.Pol
namespace Go.Pol
open Go.Am Go.Proofs.YtphggldkligldaaGreat.Sh
theorem new_chg {l:List Rl} {a n:Int} (he:((Sy.new l).chg a n 0 1 0).1=0):(∀ p,((Sy.new l).chg a n 0 1 0).2.K p=if a.toNat≤p∧p < a.toNat+n.toNat then 1 else 0)∧(∀ p,((Sy.new l).chg a n 0 1 0).2.M p=false)∧(∀ p j,((Sy.new l).chg a n 0 1 0).2.B p j=0)∧((Sy.new l).chg a n 0 1 0).2.l=l:=by
 unfold Sy.chg at he ⊢
 split at he
 ·exact absurd he (by decide:¬ (7:Int)=0)
 rename_i c1
 rw [if_neg c1]
 split at he
 ·rename_i c2
  rw [if_pos c2]
  split at he
  ·exact absurd he (by decide:¬ (60:Int)=0)
  ·rename_i c3
   rw [if_neg c3]
   refine ⟨fun p=>?_,fun p=>rfl,fun p j=>?_,rfl⟩
   ·show Aa5 (Sy.new l).K _ _ 1 p=_
    unfold Aa5;rfl
   ·show Ak5 (Sy.new l).B _ _ p j=0
    unfold Ak5;split<;>rfl
 ·exact absurd he (by decide:¬ (9:Int)=0)
theorem new_book {l:List Rl} {a n:Int} (hc:(AE7 l).2=0) (hi:0≤a∧1≤n∧a+n≤1024) (he:((Sy.new l).chg a n 0 1 0).1=0) (b:Bk) (hb:b=⟨a.toNat,n.toNat,[],((Sy.new l).chg a n 0 1 0).2⟩):K6 b∧OutB b∧OwnB b∧ByS b.s∧(l=[]→Aw1 b):=by
 obtain ⟨k1,k2,k3,k4⟩:=new_chg he
 subst hb
 refine ⟨⟨Ae6 (BE8 hc) (by decide),⟨by show 1≤n.toNat;omega,by show a.toNat+n.toNat≤1024;omega⟩,fun f h1 h2=>⟨.inl ?_,k2 f⟩,fun f hf=>absurd (show 0 < 0 from hf) (Nat.lt_irrefl 0),List.Pairwise.nil,fun v hv=>(by cases hv),Nat.zero_le _⟩,fun p hp=>?_,fun v hv=>(by cases hv),fun p j=>?_,fun hl=>⟨?_,fun f h1 h2 hk=>?_⟩⟩
 ·show ((Sy.new l).chg a n 0 1 0).2.K f=1
  rw [k1,if_pos ⟨h1,h2⟩]
 ·show ((Sy.new l).chg a n 0 1 0).2.K p=0
  rw [k1,if_neg hp]
 ·show 0≤((Sy.new l).chg a n 0 1 0).2.B p j∧((Sy.new l).chg a n 0 1 0).2.B p j < 256
  rw [k3];decide
 ·exact k4.trans hl
 ·have hk:((Sy.new l).chg a n 0 1 0).2.K f=2:=hk
  rw [k1,if_pos ⟨h1,h2⟩] at hk
  exact absurd hk (by decide)
end Go.Pol
namespace Go.Pol
open Go.Am Go.Proofs.YtphggldkligldaaGreat.Sh
def wrK (s:Sy) (f:Nat) (x:Nat→Int) (k:Nat):Sy:={ s with B:=AZ5 s.B f fun j=>if j < k then x j else s.B f j }
theorem wrK_0 {s:Sy} {f:Nat} {x:Nat→Int}:wrK s f x 0=s:=by
 unfold wrK
 have : AZ5 s.B f (fun j=>if j < 0 then x j else s.B f j)=s.B:=funext fun p=>by
  unfold AZ5
  split
  ·rename_i e;subst e;exact funext fun j=>if_neg (by omega)
  ·rfl
 rw [this]
theorem wrK_K {s:Sy} {f:Nat} {x:Nat→Int} {k:Nat}:(wrK s f x k).K=s.K:=rfl
theorem wrK_s {s:Sy} {f:Nat} {x:Nat→Int} {k:Nat} (hk:s.K f=2) (hf:f < 1024) (hj:k < 64):(wrK s f x k).write ((f:Int) * 64+(k:Nat)) (x k)=(0,wrK s f x (k+1)):=by
 unfold Sy.write
 have h1:((f:Int) * 64+(k:Nat)).toNat / 64=f:=by omega
 have h2:((f:Int) * 64+(k:Nat)).toNat % 64=k:=by omega
 rw [if_neg (by omega),h1,h2,wrK_K,if_pos hk]
 unfold wrK
 dsimp only
 have : AZ5 (AZ5 s.B f fun j=>if j < k then x j else s.B f j) f (Q8 (AZ5 s.B f (fun j=>if j < k then x j else s.B f j) f) k (x k))=AZ5 s.B f fun j=>if j < k+1 then x j else s.B f j:=funext fun p=>by
  unfold AZ5
  by_cases e:p=f
  ·rw [if_pos e,if_pos e,if_pos rfl]
   refine funext fun j=>?_
   unfold Q8
   by_cases h3:j=k
   ·subst h3;rw [if_pos rfl,if_pos (by omega)]
   ·rw [if_neg h3]
    show (if j < k then x j else s.B f j)=if j < k+1 then x j else s.B f j
    by_cases h4:j < k
    ·rw [if_pos h4,if_pos (by omega)]
    ·rw [if_neg h4,if_neg (by omega)]
  ·rw [if_neg e,if_neg e,if_neg e]
 rw [this]
theorem BB2 {s:Sy} (hg:GoodS s) {f:Nat} {x:Nat→Int}:wrK s f x 64=s.page f x:=by
 unfold wrK Sy.page
 have : (fun j=>if j < 64 then x j else s.B f j)=fun j=>if j < 64 then x j else 0:=funext fun j=>by
  by_cases h:j < 64
  ·rw [if_pos h,if_pos h]
  ·rw [if_neg h,if_neg h,hg.cB f j (by omega)]
 rw [this]
theorem BT0 {s:Sy} {f k:Nat} (hk:s.K f=2) (hf:f < 1024) (hj:k < 64):s.read ((f:Int) * 64+(k:Nat))=(s.B f k,0):=by
 unfold Sy.read
 rw [if_neg (by omega),show ((f:Int) * 64+(k:Nat)).toNat / 64=f by omega,show ((f:Int) * 64+(k:Nat)).toNat % 64=k by omega,if_pos hk]
theorem BJ6 {a n i:Nat} (h:i≤n):List.range' a n=List.range' a i++List.range' (a+i) (n - i):=by
 rw [List.range'_append_1,Nat.add_sub_cancel' h]
theorem free_at {L:List Vw} {a n i:Nat} (hi:i < n) (h1:∀ j,j < i→0 < cntF L (a+j)) (h2:cntF L (a+i)=0):BN4 L a n=some (a+i):=by
 unfold BN4
 rw [BJ6 (Nat.le_of_lt hi),List.find?_append]
 have e1:(List.range' a i).find? (fun f=>decide (cntF L f=0))=none:=List.find?_eq_none.2 fun f hf=>by
  rw [List.mem_range'_1] at hf
  have:=h1 (f - a) (by omega)
  rw [show a+(f - a)=f by omega] at this
  simp;omega
 obtain ⟨m,hm⟩:∃ m,n - i=m+1:=⟨n - i - 1,by omega⟩
 rw [e1,hm,List.range'_succ,List.find?_cons,decide_eq_true h2]
 rfl
theorem free_not {L:List Vw} {a n:Nat} (h:∀ j,j < n→0 < cntF L (a+j)):BN4 L a n=none:=List.find?_eq_none.2 fun f hf=>by
 rw [List.mem_range'_1] at hf
 have:=h (f - a) (by omega)
 rw [show a+(f - a)=f by omega] at this
 simp;omega
def Ag6 (p:Nat→Bool) (a i:Nat):Nat:=((List.range' a i).filter p).length
theorem BA3 {p:Nat→Bool} {a i:Nat}:Ag6 p a (i+1)=Ag6 p a i+if p (a+i) then 1 else 0:=by
 unfold Ag6
 rw [BJ6 (Nat.le_add_right i 1),List.filter_append,List.length_append,Nat.add_sub_cancel_left]
 by_cases h:p (a+i)<;>simp [List.range'_succ,h]
theorem Aj7 {p:Nat→Bool} {a i:Nat}:Ag6 p a i≤i:=Nat.le_trans (List.length_filter_le ..) (by rw [List.length_range'];exact Nat.le_refl _)
theorem used_R (b:Bk):b.used=Ag6 (fun f=>decide (0 < cntF b.L f)) b.a b.n:=rfl
theorem idle_R (b:Bk):b.idle=Ag6 (fun f=>decide (cntF b.L f=0∧b.s.K f=2)) b.a b.n:=rfl
theorem many_R (b:Bk):b.many=Ag6 (fun f=>decide (1 < cntF b.L f)) b.a b.n:=rfl
def sh0:Bk:=⟨8,2,[],((Sy.new []).chg 8 2 0 1 0).2⟩
def sh1:Bk:=(sh0.map 0 3).2
def sh2:Bk:=(sh1.write 0 192 7).2
def sh3:Bk:=(sh2.take 0 1).2.2
def sh4:Bk:=(sh3.write 0 192 8).2
def sh5:Bk:=(sh4.take 1 2).2.2
def sh6:Bk:=(sh5.write 2 192 9).2
def sh7:Bk:=(sh6.drop 0).2.2
def sh8:Bk:=(sh7.write 2 192 9).2
set_option maxRecDepth 100000 in
theorem sh_0:((Sy.new []).chg 8 2 0 1 0).1=0:=by decide +kernel
set_option maxRecDepth 100000 in
theorem sh_1:(sh0.map 0 3).1=0:=by decide +kernel
set_option maxRecDepth 100000 in
theorem sh_2:(sh1.write 0 192 7).1=0:=by decide +kernel
set_option maxRecDepth 100000 in
theorem sh_3:(sh2.take 0 1).1=1∧(sh2.take 0 1).2.1=0:=by decide +kernel
set_option maxRecDepth 100000 in
theorem sh_4:(sh3.write 0 192 8).1=0:=by decide +kernel
set_option maxRecDepth 100000 in
theorem sh_r4:sh4.read 1 192=(7,0):=by decide +kernel
set_option maxRecDepth 100000 in
theorem sh_c4:sh4.used=2∧sh4.idle=0∧sh4.many=0:=by decide +kernel
set_option maxRecDepth 100000 in
theorem sh_d4:sh4.differ 0 1=([3],0):=by decide +kernel
set_option maxRecDepth 100000 in
theorem sh_5:(sh4.take 1 2).1=1∧(sh4.take 1 2).2.1=0:=by decide +kernel
set_option maxRecDepth 100000 in
theorem sh_6:(sh5.write 2 192 9).1=5:=by decide +kernel
set_option maxRecDepth 100000 in
theorem sh_7:(sh6.drop 0).1=1∧(sh6.drop 0).2.1=0:=by decide +kernel
set_option maxRecDepth 100000 in
theorem sh_8:(sh7.write 2 192 9).1=0:=by decide +kernel
set_option maxRecDepth 100000 in
theorem sh_r8:sh8.read 1 192=(7,0):=by decide +kernel
end Go.Pol
