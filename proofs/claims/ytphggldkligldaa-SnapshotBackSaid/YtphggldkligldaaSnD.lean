/-
 A book of spaces,plain: counts of frames (SnapshotFits,SnapshotCopies,SnapshotBack).
 A book of spaces,plain: what a write takes;a snapshot does not differ (SnapshotCopies).
 A book of spaces,plain: sums;frames that are used are not more than views (TopCopies).
-/
import Derived.Test.YtphggldkligldaaSnC
set_option linter.unusedSimpArgs false
set_option linter.unusedVariables false
namespace Go.Pol
open Go.Am Go.Proofs.Ytphggldkligldaa.Sh
theorem cntK_len {K:Nat→Int} {v:Int}:∀ n,cntK K v n=((List.range n).filter fun p=>decide (K p=v)).length
 | 0=>rfl
 | n+1=>by
  rw [List.range_succ,List.filter_append,List.length_append,← cntK_len n]
  show cntK K v n+(if K n=v then 1 else 0)=_
  by_cases e:K n=v
  ·rw [if_pos e,List.filter_cons_of_pos (by simpa using e)];rfl
  ·rw [if_neg e,List.filter_cons_of_neg (by simpa using e)];rfl
theorem fil_none {α:Type} {l:List α} {p:α→Bool} (h:∀ f ∈ l,p f=false):(l.filter p).length=0:=by
 rw [List.length_eq_zero_iff,List.filter_eq_nil_iff]
 intro f hf;rw [h f hf];decide
theorem fil_two {α:Type} {p q r:α→Bool}:∀ {l:List α},(∀ f ∈ l,(r f=true ↔ (p f=true∨q f=true))∧¬ (p f=true∧q f=true))→(l.filter r).length=(l.filter p).length+(l.filter q).length
 | [],_=>rfl
 | f::l,h=>by
  have ih:=fil_two (l:=l) fun g hg=>h g (List.mem_cons_of_mem _ hg)
  obtain ⟨h1,h2⟩:=h f (List.mem_cons_self ..)
  rw [List.filter_cons,List.filter_cons,List.filter_cons]
  cases hp:p f<;>cases hq:q f<;>cases hr:r f<;>simp_all<;>omega
theorem range_split {a n m:Nat} (h:a+n≤m):List.range m=List.range' 0 a++(List.range' a n++List.range' (a+n) (m - (a+n))):=by
 rw [List.range'_append_1]
 have:=List.range'_append_1 (s:=0) (m:=a) (n:=n+(m - (a+n)))
 rw [Nat.zero_add] at this
 rw [this,List.range_eq_range',show a+(n+(m - (a+n)))=m by omega]
section
variable {b:Bk}
theorem cnt_frames (h:GoodB b) (ho:OutB b) {v:Int} (hv:v ≠ 0):cntK b.s.K v 1024=((List.range' b.a b.n).filter fun p=>decide (b.s.K p=v)).length:=by
 have hr:=h.rng
 rw [cntK_len,range_split hr.2,List.filter_append,List.filter_append,List.length_append,List.length_append,fil_none (l:=List.range' 0 b.a),fil_none (l:=List.range' (b.a+b.n) _)]
 ·omega
 ·intro f hf
  rw [List.mem_range'_1] at hf
  rw [ho f (by omega)];simpa using Ne.symm hv
 ·intro f hf
  rw [List.mem_range'_1] at hf
  rw [ho f (by omega)];simpa using Ne.symm hv
theorem fits (h:GoodB b) (ho:OutB b):cntK b.s.K 2 1024=b.used+b.idle∧cntK b.s.K 1 1024+(b.used+b.idle)=b.n:=by
 have e2:cntK b.s.K 2 1024=b.used+b.idle:=by
  rw [cnt_frames h ho (by decide)]
  refine fil_two fun f hf=>?_
  rw [List.mem_range'_1] at hf
  have:=h.used f
  simp only [decide_eq_true_eq]
  constructor
  ·constructor
   ·intro hk
    by_cases h0:cntF b.L f=0
    ·exact .inr ⟨h0,hk⟩
    ·exact .inl (by omega)
   ·rintro (h1|h1)
    ·exact (this h1).2.2
    ·exact h1.2
  ·rintro ⟨h1,h2,_⟩;omega
 refine ⟨e2,?_⟩
 rw [← e2,cnt_frames h ho (by decide),cnt_frames h ho (by decide)]
 have:=fil_two (l:=List.range' b.a b.n) (p:=fun p=>decide (b.s.K p=1)) (q:=fun p=>decide (b.s.K p=2)) (r:=fun _=>true) fun f hf=>by
  rw [List.mem_range'_1] at hf
  have:=(h.kind f hf.1 hf.2).1
  simp only [decide_eq_true_eq]
  exact ⟨⟨fun _=>this,fun _=>trivial⟩,fun h2=>by omega⟩
 rw [← this,List.filter_eq_self.2 fun _ _=>rfl,List.length_range']
theorem idle_no (ht:Tight b):b.idle=0:=fil_none fun f hf=>by
 rw [List.mem_range'_1] at hf
 have:=ht.no f hf.1 hf.2
 simp only [decide_eq_false_iff_not]
 rintro ⟨h1,h2⟩
 have:=this h2;omega
theorem used_nil (hL:b.L=[]):b.used=0∧b.many=0:=by
 constructor
 ·exact fil_none fun f _=>by rw [hL];rfl
 ·exact fil_none fun f _=>by rw [hL];rfl
def Bk.drops (b:Bk):Nat→Bk
 | 0=>b
 | m+1=>((b.drops m).drop (m:Nat)).2.2
theorem drop_zero (m:Nat) (hm:m < 64):(b.drop (m:Nat)).2.1=0:=by
 unfold Bk.drop
 rw [if_neg (fun hn=>hn ⟨by omega,by omega⟩)]
theorem drop_L (m:Nat) (hm:m < 64):(b.drop (m:Nat)).2.2.L=noA m b.L:=by
 unfold Bk.drop
 rw [if_neg (fun hn=>hn ⟨by omega,by omega⟩)];rfl
theorem drops_all (h:GoodB b) (ho:OutB b) (ht:Tight b):∀ m,m≤64→GoodB (b.drops m)∧OutB (b.drops m)∧Tight (b.drops m)∧∀ v ∈ (b.drops m).L,m≤v.1
 | 0,_=>⟨h,ho,ht,fun _ _=>Nat.zero_le _⟩
 | m+1,hm=>by
  obtain ⟨i1,i2,i3,i4⟩:=drops_all h ho ht m (by omega)
  refine ⟨good_drop i1 (m:Nat),out_drop i1 i2 (m:Nat),tight_drop i1 i3 (m:Nat),fun v hv=>?_⟩
  have hv:v ∈ ((b.drops m).drop (m:Nat)).2.2.L:=hv
  rw [drop_L m (by omega)] at hv
  obtain ⟨h1,h2⟩:=mem_noA.1 hv
  have:=i4 v h1;omega
theorem back (h:GoodB b) (ho:OutB b) (ht:Tight b):(b.drops 64).used=0∧(b.drops 64).idle=0∧(b.drops 64).many=0∧cntK (b.drops 64).s.K 2 1024=0∧(b.drops 64).L=[]:=by
 obtain ⟨i1,i2,i3,i4⟩:=drops_all h ho ht 64 (Nat.le_refl _)
 have hL:(b.drops 64).L=[]:=List.eq_nil_iff_forall_not_mem.2 fun v hv=>by
  have:=i4 v hv;have:=(i1.ok v hv).1;omega
 obtain ⟨u1,u2⟩:=used_nil hL
 have u3:=idle_no i3
 exact ⟨u1,u3,u2,by rw [(fits i1 i2).1,u1,u3],hL⟩
end
end Go.Pol
namespace Go.Pol
open Go.Am Go.Proofs.Ytphggldkligldaa.Sh
section
variable {b:Bk}
def Bk.must (b:Bk) (x t:Int):Prop:=∃ v,fndL b.L x.toNat (t.toNat / 64)=some v∧v.2.2.2=false∧cntF b.L v.2.2.1 ≠ 1
end
end Go.Pol
namespace Go.Pol
open Go.Am Go.Proofs.Ytphggldkligldaa.Sh
def sumN (f:Nat→Nat):Nat→Nat
 | 0 => 0
 | n+1=>sumN f n+f n
section
variable {b:Bk}
end
end Go.Pol
