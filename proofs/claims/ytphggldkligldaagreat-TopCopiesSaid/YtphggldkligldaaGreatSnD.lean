/-
 A book of spaces,plain: counts of frames (SnapshotFits,SnapshotCopies,SnapshotBack).
 A book of spaces,plain: what a write takes;a snapshot does not differ (SnapshotCopies).
 A book of spaces,plain: sums;frames that are used are not more than views (TopCopies).
-/
import Derived.Test.YtphggldkligldaaGreatSnC
set_option linter.unusedSimpArgs false
set_option linter.unusedVariables false
namespace Go.Pol
open Go.Am Go.Proofs.YtphggldkligldaaGreat.Sh
theorem cntK_len {K:Nat→Int} {v:Int}:∀ n,cntK K v n=((List.range n).filter fun p=>decide (K p=v)).length
 | 0=>rfl
 | n+1=>by
  rw [List.range_succ,List.filter_append,List.length_append,← cntK_len n]
  show cntK K v n+(if K n=v then 1 else 0)=_
  by_cases e:K n=v
  ·rw [if_pos e,List.filter_cons_of_pos (by simpa using e)];rfl
  ·rw [if_neg e,List.filter_cons_of_neg (by simpa using e)];rfl
theorem fil_none {α:Type} {l:List α} {p:α→Bool} (h:∀ f ∈ l,p f=false):(l.filter p).length=0:=by
 rw [List.length_eq_zero_iff,List.filter_eq_nil_iff]
 intro f hf;rw [h f hf];decide
theorem fil_two {α:Type} {p q r:α→Bool}:∀ {l:List α},(∀ f ∈ l,(r f=true ↔ (p f=true∨q f=true))∧¬ (p f=true∧q f=true))→(l.filter r).length=(l.filter p).length+(l.filter q).length
 | [],_=>rfl
 | f::l,h=>by
  have ih:=fil_two (l:=l) fun g hg=>h g (List.mem_cons_of_mem _ hg)
  obtain ⟨h1,h2⟩:=h f (List.mem_cons_self ..)
  rw [List.filter_cons,List.filter_cons,List.filter_cons]
  cases hp:p f<;>cases hq:q f<;>cases hr:r f<;>simp_all<;>omega
theorem range_split {a n m:Nat} (h:a+n≤m):List.range m=List.range' 0 a++(List.range' a n++List.range' (a+n) (m - (a+n))):=by
 rw [List.range'_append_1]
 have:=List.range'_append_1 (s:=0) (m:=a) (n:=n+(m - (a+n)))
 rw [Nat.zero_add] at this
 rw [this,List.range_eq_range',show a+(n+(m - (a+n)))=m by omega]
section
variable {b:Bk}
theorem cnt_frames (h:GoodB b) (ho:OutB b) {v:Int} (hv:v ≠ 0):cntK b.s.K v 1024=((List.range' b.a b.n).filter fun p=>decide (b.s.K p=v)).length:=by
 have hr:=h.rng
 rw [cntK_len,range_split hr.2,List.filter_append,List.filter_append,List.length_append,List.length_append,fil_none (l:=List.range' 0 b.a),fil_none (l:=List.range' (b.a+b.n) _)]
 ·omega
 ·intro f hf
  rw [List.mem_range'_1] at hf
  rw [ho f (by omega)];simpa using Ne.symm hv
 ·intro f hf
  rw [List.mem_range'_1] at hf
  rw [ho f (by omega)];simpa using Ne.symm hv
theorem fits (h:GoodB b) (ho:OutB b):cntK b.s.K 2 1024=b.used+b.idle∧cntK b.s.K 1 1024+(b.used+b.idle)=b.n:=by
 have e2:cntK b.s.K 2 1024=b.used+b.idle:=by
  rw [cnt_frames h ho (by decide)]
  refine fil_two fun f hf=>?_
  rw [List.mem_range'_1] at hf
  have:=h.used f
  simp only [decide_eq_true_eq]
  constructor
  ·constructor
   ·intro hk
    by_cases h0:cntF b.L f=0
    ·exact .inr ⟨h0,hk⟩
    ·exact .inl (by omega)
   ·rintro (h1|h1)
    ·exact (this h1).2.2
    ·exact h1.2
  ·rintro ⟨h1,h2,_⟩;omega
 refine ⟨e2,?_⟩
 rw [← e2,cnt_frames h ho (by decide),cnt_frames h ho (by decide)]
 have:=fil_two (l:=List.range' b.a b.n) (p:=fun p=>decide (b.s.K p=1)) (q:=fun p=>decide (b.s.K p=2)) (r:=fun _=>true) fun f hf=>by
  rw [List.mem_range'_1] at hf
  have:=(h.kind f hf.1 hf.2).1
  simp only [decide_eq_true_eq]
  exact ⟨⟨fun _=>this,fun _=>trivial⟩,fun h2=>by omega⟩
 rw [← this,List.filter_eq_self.2 fun _ _=>rfl,List.length_range']
theorem idle_no (ht:Tight b):b.idle=0:=fil_none fun f hf=>by
 rw [List.mem_range'_1] at hf
 have:=ht.no f hf.1 hf.2
 simp only [decide_eq_false_iff_not]
 rintro ⟨h1,h2⟩
 have:=this h2;omega
theorem used_nil (hL:b.L=[]):b.used=0∧b.many=0:=by
 constructor
 ·exact fil_none fun f _=>by rw [hL];rfl
 ·exact fil_none fun f _=>by rw [hL];rfl
def Bk.drops (b:Bk):Nat→Bk
 | 0=>b
 | m+1=>((b.drops m).drop (m:Nat)).2.2
theorem drop_zero (m:Nat) (hm:m < 64):(b.drop (m:Nat)).2.1=0:=by
 unfold Bk.drop
 rw [if_neg (fun hn=>hn ⟨by omega,by omega⟩)]
theorem drop_L (m:Nat) (hm:m < 64):(b.drop (m:Nat)).2.2.L=noA m b.L:=by
 unfold Bk.drop
 rw [if_neg (fun hn=>hn ⟨by omega,by omega⟩)];rfl
theorem drops_all (h:GoodB b) (ho:OutB b) (ht:Tight b):∀ m,m≤64→GoodB (b.drops m)∧OutB (b.drops m)∧Tight (b.drops m)∧∀ v ∈ (b.drops m).L,m≤v.1
 | 0,_=>⟨h,ho,ht,fun _ _=>Nat.zero_le _⟩
 | m+1,hm=>by
  obtain ⟨i1,i2,i3,i4⟩:=drops_all h ho ht m (by omega)
  refine ⟨good_drop i1 (m:Nat),out_drop i1 i2 (m:Nat),tight_drop i1 i3 (m:Nat),fun v hv=>?_⟩
  have hv:v ∈ ((b.drops m).drop (m:Nat)).2.2.L:=hv
  rw [drop_L m (by omega)] at hv
  obtain ⟨h1,h2⟩:=mem_noA.1 hv
  have:=i4 v h1;omega
theorem back (h:GoodB b) (ho:OutB b) (ht:Tight b):(b.drops 64).used=0∧(b.drops 64).idle=0∧(b.drops 64).many=0∧cntK (b.drops 64).s.K 2 1024=0∧(b.drops 64).L=[]:=by
 obtain ⟨i1,i2,i3,i4⟩:=drops_all h ho ht 64 (Nat.le_refl _)
 have hL:(b.drops 64).L=[]:=List.eq_nil_iff_forall_not_mem.2 fun v hv=>by
  have:=i4 v hv;have:=(i1.ok v hv).1;omega
 obtain ⟨u1,u2⟩:=used_nil hL
 have u3:=idle_no i3
 exact ⟨u1,u3,u2,by rw [(fits i1 i2).1,u1,u3],hL⟩
end
end Go.Pol
namespace Go.Pol
open Go.Am Go.Proofs.YtphggldkligldaaGreat.Sh
section
variable {b:Bk}
def Bk.must (b:Bk) (x t:Int):Prop:=∃ v,fndL b.L x.toNat (t.toNat / 64)=some v∧v.2.2.2=false∧cntF b.L v.2.2.1 ≠ 1
end
end Go.Pol
namespace Go.Pol
open Go.Am Go.Proofs.YtphggldkligldaaGreat.Sh
def sumN (f:Nat→Nat):Nat→Nat
 | 0 => 0
 | n+1=>sumN f n+f n
theorem sum_le {f g:Nat→Nat}:∀ {n:Nat},(∀ i,i < n→f i≤g i)→sumN f n≤sumN g n
 | 0,_=>Nat.le_refl _
 | n+1,h=>by
  have:=sum_le (f:=f) (g:=g) (n:=n) fun i hi=>h i (by omega)
  have:=h n (by omega)
  show sumN f n+f n≤sumN g n+g n
  omega
theorem sum_congr {f g:Nat→Nat} {n:Nat} (h:∀ i,i < n→f i=g i):sumN f n=sumN g n:=Nat.le_antisymm (sum_le fun i hi=>Nat.le_of_eq (h i hi)) (sum_le fun i hi=>Nat.le_of_eq (h i hi).symm)
theorem sum_fil {α:Type} {L:List α} {g:α→Nat}:∀ m,sumN (fun i=>(L.filter fun v=>decide (g v=i)).length) m=(L.filter fun v=>decide (g v < m)).length
 | 0=>by
  rw [fil_none]
  ·rfl
  ·intro v _;simp
 | m+1=>by
  show sumN _ m+_=_
  rw [sum_fil m]
  exact (fil_two fun v _=>by simp only [decide_eq_true_eq];constructor<;>omega).symm
theorem sum_all {α:Type} {L:List α} {g:α→Nat} {m:Nat} (h:∀ v ∈ L,g v < m):sumN (fun i=>(L.filter fun v=>decide (g v=i)).length) m=L.length:=by
 rw [sum_fil,List.filter_eq_self.2 fun v hv=>by simpa using h v hv]
theorem range_sum {a:Nat} {p:Nat→Bool}:∀ n,((List.range' a n).filter p).length=sumN (fun i=>if p (a+i)=true then 1 else 0) n
 | 0=>rfl
 | n+1=>by
  rw [List.range'_concat,List.filter_append,List.length_append,range_sum n]
  show _=sumN _ n+_
  congr 1
  rw [Nat.one_mul]
  show (List.filter p [a+n]).length=if p (a+n)=true then 1 else 0
  by_cases e:p (a+n)=true
  ·rw [List.filter_cons_of_pos e,if_pos e];rfl
  ·rw [List.filter_cons_of_neg e,if_neg e];rfl
theorem cntK_sum {K:Nat→Int} {v:Int}:∀ n,cntK K v n=sumN (fun i=>if K i=v then 1 else 0) n
 | 0=>rfl
 | n+1=>by
  show cntK K v n+(if K n=v then 1 else 0)=sumN _ n+_
  rw [cntK_sum n]
section
variable {b:Bk}
theorem views_all (h:GoodB b):sumN (fun i=>cntF b.L (b.a+i)) b.n=b.L.length:=by
 rw [← sum_all (L:=b.L) (g:=fun v=>v.2.2.1 - b.a) (m:=b.n) fun v hv=>by have:=h.view hv;omega]
 refine sum_congr fun i _=>?_
 unfold cntF
 rw [List.filter_congr fun v hv=>?_]
 have:=h.view hv
 rw [decide_eq_decide];omega
theorem used_sum:b.used=sumN (fun i=>if 0 < cntF b.L (b.a+i) then 1 else 0) b.n:=by
 unfold Bk.used
 rw [range_sum]
 exact sum_congr fun i _=>by simp only [decide_eq_true_eq]
theorem used_le (h:GoodB b):b.used≤b.L.length∧b.used≤b.n:=by
 constructor
 ·rw [used_sum,← views_all h]
  exact sum_le fun i _=>by split<;>omega
 ·have:=List.length_filter_le (fun f=>decide (0 < cntF b.L f)) (List.range' b.a b.n)
  rw [List.length_range'] at this
  exact this
theorem at_one {L:List Vw} (hs:srt L) (a k:Nat):(L.filter fun v=>decide (atV (a,k) v)).length≤1:=by
 have h2:srt (L.filter fun v=>decide (atV (a,k) v)):=hs.sublist List.filter_sublist
 have h3:∀ v ∈ L.filter fun v=>decide (atV (a,k) v),atV (a,k) v:=fun v hv=>by simpa using (List.mem_filter.1 hv).2
 generalize (L.filter fun v=>decide (atV (a,k) v))=M at *
 match M,h2,h3 with
 | [],_,_=>exact Nat.zero_le _
 | [_],_,_=>exact Nat.le_refl _
 | u::w::M,h2,h3 =>
  have hu:=h3 u (List.mem_cons_self ..)
  have hw:=h3 w (List.mem_cons_of_mem _ (List.mem_cons_self ..))
  have h4:bef u w:=(List.pairwise_cons.1 h2).1 w (List.mem_cons_self ..)
  have e1:u.1=w.1:=hu.1.trans hw.1.symm
  have e2:u.2.1=w.2.1:=hu.2.trans hw.2.symm
  unfold bef at h4
  omega
theorem space_le (h:GoodB b) {a:Nat} {K:Nat→Int} (hK:∀ p,fndL b.L a p ≠ none→K p=2):(ofA a b.L).length≤cntK K 2 1024:=by
 rw [cntK_sum,← sum_all (L:=ofA a b.L) (g:=fun v=>v.2.1) (m:=1024) fun v hv=>(h.ok v (mem_ofA.1 hv).1).2.1]
 refine sum_le fun p _=>?_
 have e:(ofA a b.L).filter (fun v=>decide (v.2.1=p))=b.L.filter fun v=>decide (atV (a,p) v):=by
  unfold ofA
  rw [List.filter_filter]
  refine List.filter_congr fun v _=>?_
  by_cases h1:v.1=a<;>by_cases h2:v.2.1=p<;>simp [h1,h2,atV]
 rw [e]
 cases hf:fndL b.L a p with
 | none =>
  rw [fil_none fun v hv=>by simpa using fnd_none hf v hv]
  exact Nat.zero_le _
 | some v =>
  rw [if_pos (hK p (by rw [hf];simp))]
  exact at_one h.sr a p
theorem pages_le (h:GoodB b) {m:Nat} (hm:∀ v ∈ b.L,v.1 < m) {K:Nat→Nat→Int} (hK:∀ a p,a < m→fndL b.L a p ≠ none→K a p=2):b.L.length≤sumN (fun a=>cntK (K a) 2 1024) m:=by
 rw [← sum_all (L:=b.L) (g:=fun v=>v.1) hm]
 exact sum_le fun a ha=>space_le h fun p=>hK a p ha
end
end Go.Pol
