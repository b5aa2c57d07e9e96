/-
 A book of spaces,plain: counts of frames (SnapshotFits,SnapshotCopies,SnapshotBack).
 A book of spaces,plain: what a write takes;a snapshot does not differ (SnapshotCopies).
 A book of spaces,plain: sums;frames that are used are not more than views (TopCopies).
-/
import Derived.Test.YtphggldkligldaaSnC
set_option linter.unusedSimpArgs false
set_option linter.unusedVariables false
namespace Go.Pol
open Go.Am Go.Proofs.Ytphggldkligldaa.Sh
theorem cntK_len {K:Nat→Int} {v:Int}:∀ n,cntK K v n=((List.range n).filter fun p=>decide (K p=v)).length
 | 0=>rfl
 | n+1=>by
  rw [List.range_succ,List.filter_append,List.length_append,← cntK_len n]
  show cntK K v n+(if K n=v then 1 else 0)=_
  by_cases e:K n=v
  ·rw [if_pos e,List.filter_cons_of_pos (by simpa using e)];rfl
  ·rw [if_neg e,List.filter_cons_of_neg (by simpa using e)];rfl
theorem fil_none {α:Type} {l:List α} {p:α→Bool} (h:∀ f ∈ l,p f=false):(l.filter p).length=0:=by
 rw [List.length_eq_zero_iff,List.filter_eq_nil_iff]
 intro f hf;rw [h f hf];decide
theorem fil_two {α:Type} {p q r:α→Bool}:∀ {l:List α},(∀ f ∈ l,(r f=true ↔ (p f=true∨q f=true))∧¬ (p f=true∧q f=true))→(l.filter r).length=(l.filter p).length+(l.filter q).length
 | [],_=>rfl
 | f::l,h=>by
  have ih:=fil_two (l:=l) fun g hg=>h g (List.mem_cons_of_mem _ hg)
  obtain ⟨h1,h2⟩:=h f (List.mem_cons_self ..)
  rw [List.filter_cons,List.filter_cons,List.filter_cons]
  cases hp:p f<;>cases hq:q f<;>cases hr:r f<;>simp_all<;>omega
theorem range_split {a n m:Nat} (h:a+n≤m):List.range m=List.range' 0 a++(List.range' a n++List.range' (a+n) (m - (a+n))):=by
 rw [List.range'_append_1]
 have:=List.range'_append_1 (s:=0) (m:=a) (n:=n+(m - (a+n)))
 rw [Nat.zero_add] at this
 rw [this,List.range_eq_range',show a+(n+(m - (a+n)))=m by omega]
section
variable {b:Bk}
theorem cnt_frames (h:GoodB b) (ho:OutB b) {v:Int} (hv:v ≠ 0):cntK b.s.K v 1024=((List.range' b.a b.n).filter fun p=>decide (b.s.K p=v)).length:=by
 have hr:=h.rng
 rw [cntK_len,range_split hr.2,List.filter_append,List.filter_append,List.length_append,List.length_append,fil_none (l:=List.range' 0 b.a),fil_none (l:=List.range' (b.a+b.n) _)]
 ·omega
 ·intro f hf
  rw [List.mem_range'_1] at hf
  rw [ho f (by omega)];simpa using Ne.symm hv
 ·intro f hf
  rw [List.mem_range'_1] at hf
  rw [ho f (by omega)];simpa using Ne.symm hv
theorem fits (h:GoodB b) (ho:OutB b):cntK b.s.K 2 1024=b.used+b.idle∧cntK b.s.K 1 1024+(b.used+b.idle)=b.n:=by
 have e2:cntK b.s.K 2 1024=b.used+b.idle:=by
  rw [cnt_frames h ho (by decide)]
  refine fil_two fun f hf=>?_
  rw [List.mem_range'_1] at hf
  have:=h.used f
  simp only [decide_eq_true_eq]
  constructor
  ·constructor
   ·intro hk
    by_cases h0:cntF b.L f=0
    ·exact .inr ⟨h0,hk⟩
    ·exact .inl (by omega)
   ·rintro (h1|h1)
    ·exact (this h1).2.2
    ·exact h1.2
  ·rintro ⟨h1,h2,_⟩;omega
 refine ⟨e2,?_⟩
 rw [← e2,cnt_frames h ho (by decide),cnt_frames h ho (by decide)]
 have:=fil_two (l:=List.range' b.a b.n) (p:=fun p=>decide (b.s.K p=1)) (q:=fun p=>decide (b.s.K p=2)) (r:=fun _=>true) fun f hf=>by
  rw [List.mem_range'_1] at hf
  have:=(h.kind f hf.1 hf.2).1
  simp only [decide_eq_true_eq]
  exact ⟨⟨fun _=>this,fun _=>trivial⟩,fun h2=>by omega⟩
 rw [← this,List.filter_eq_self.2 fun _ _=>rfl,List.length_range']
theorem idle_no (ht:Tight b):b.idle=0:=fil_none fun f hf=>by
 rw [List.mem_range'_1] at hf
 have:=ht.no f hf.1 hf.2
 simp only [decide_eq_false_iff_not]
 rintro ⟨h1,h2⟩
 have:=this h2;omega
theorem used_nil (hL:b.L=[]):b.used=0∧b.many=0:=by
 constructor
 ·exact fil_none fun f _=>by rw [hL];rfl
 ·exact fil_none fun f _=>by rw [hL];rfl
def Bk.drops (b:Bk):Nat→Bk
 | 0=>b
 | m+1=>((b.drops m).drop (m:Nat)).2.2
theorem drop_zero (m:Nat) (hm:m < 64):(b.drop (m:Nat)).2.1=0:=by
 unfold Bk.drop
 rw [if_neg (fun hn=>hn ⟨by omega,by omega⟩)]
theorem drop_L (m:Nat) (hm:m < 64):(b.drop (m:Nat)).2.2.L=noA m b.L:=by
 unfold Bk.drop
 rw [if_neg (fun hn=>hn ⟨by omega,by omega⟩)];rfl
theorem drops_all (h:GoodB b) (ho:OutB b) (ht:Tight b):∀ m,m≤64→GoodB (b.drops m)∧OutB (b.drops m)∧Tight (b.drops m)∧∀ v ∈ (b.drops m).L,m≤v.1
 | 0,_=>⟨h,ho,ht,fun _ _=>Nat.zero_le _⟩
 | m+1,hm=>by
  obtain ⟨i1,i2,i3,i4⟩:=drops_all h ho ht m (by omega)
  refine ⟨good_drop i1 (m:Nat),out_drop i1 i2 (m:Nat),tight_drop i1 i3 (m:Nat),fun v hv=>?_⟩
  have hv:v ∈ ((b.drops m).drop (m:Nat)).2.2.L:=hv
  rw [drop_L m (by omega)] at hv
  obtain ⟨h1,h2⟩:=mem_noA.1 hv
  have:=i4 v h1;omega
theorem back (h:GoodB b) (ho:OutB b) (ht:Tight b):(b.drops 64).used=0∧(b.drops 64).idle=0∧(b.drops 64).many=0∧cntK (b.drops 64).s.K 2 1024=0∧(b.drops 64).L=[]:=by
 obtain ⟨i1,i2,i3,i4⟩:=drops_all h ho ht 64 (Nat.le_refl _)
 have hL:(b.drops 64).L=[]:=List.eq_nil_iff_forall_not_mem.2 fun v hv=>by
  have:=i4 v hv;have:=(i1.ok v hv).1;omega
 obtain ⟨u1,u2⟩:=used_nil hL
 have u3:=idle_no i3
 exact ⟨u1,u3,u2,by rw [(fits i1 i2).1,u1,u3],hL⟩
end
end Go.Pol
namespace Go.Pol
open Go.Am Go.Proofs.Ytphggldkligldaa.Sh
theorem fil_same {p q:Nat→Bool} {l:List Nat} (h:∀ f ∈ l,p f=q f):(l.filter p).length=(l.filter q).length:=by rw [List.filter_congr h]
theorem fil_one {p q:Nat→Bool} {l:List Nat} {g:Nat} (hn:l.Nodup) (hg:g ∈ l) (h1:p g=false) (h2:q g=true) (h:∀ f ∈ l,f ≠ g→p f=q f):(l.filter q).length=(l.filter p).length+1:=by
 have:=fil_two (l:=l) (p:=p) (q:=fun f=>decide (f=g)) (r:=q) fun f hf=>by
  by_cases e:f=g
  ·subst e;simp [h1,h2]
  ·rw [h f hf e];simp [e]
 rw [this]
 congr 1
 obtain ⟨A,B,rfl⟩:=List.append_of_mem hg
 have hd:=List.nodup_append.1 hn
 obtain ⟨d1,d2,d3⟩:=hd
 rw [List.nodup_cons] at d2
 rw [List.filter_append,List.filter_cons_of_pos (by simp),List.length_append,List.length_cons]
 rw [fil_none (l:=A) fun f hf=>by simpa using fun e=>d3 f hf g (List.mem_cons_self ..) e,fil_none (l:=B) fun f hf=>by simpa using fun e:f=g=>d2.1 (e▸hf)]
section
variable {b:Bk}
def Bk.must (b:Bk) (x t:Int):Prop:=∃ v,fndL b.L x.toNat (t.toNat / 64)=some v∧v.2.2.2=false∧cntF b.L v.2.2.1 ≠ 1
theorem put_used (x t v:Int):(b.put x t v).2.used=b.used:=by
 unfold Bk.put
 split<;>rfl
theorem write_used (h:GoodB b) (x t v:Int) (he:(b.write x t v).1=0):(b.must x t→(b.write x t v).2.used=b.used+1)∧(¬ b.must x t→(b.write x t v).2.used=b.used):=by
 have hs:=wr_spec (b:=b) x t v
 generalize b.write x t v=q at hs he
 cases hs with
 | no e h'=>exact absurd he h'
 | own u hi hf hw =>
  rw [put_used]
  refine ⟨fun hm=>?_,fun _=>rfl⟩
  obtain ⟨u',h1,h2,_⟩:=hm
  rw [hf] at h1;cases h1;rw [hw] at h2;cases h2
 | pr u hi hf hw h1 =>
  rw [put_used]
  refine ⟨fun hm=>?_,fun _=>?_⟩
  ·obtain ⟨u',h2,_,h3⟩:=hm
   rw [hf] at h2;cases h2;exact absurd h1 h3
  ·obtain ⟨hu,ha⟩:=fnd_some hf
   obtain ⟨A,B,hL⟩:=List.append_of_mem hu
   have hs:=h.sr
   refine fil_same fun f _=>?_
   have : cntF (setL (prV true) x.toNat (t.toNat / 64) b.L) f=cntF b.L f:=by
    rw [← show u.1=x.toNat from ha.1,← show u.2.1=t.toNat / 64 from ha.2,hL] at *
    rw [set_split (hL▸hs),cnt_pr]
   show decide (0 < cntF (setL (prV true) x.toNat (t.toNat / 64) b.L) f)=_
   rw [this]
 | fr u r hi hf hw h1 hr he2 =>
  rw [put_used]
  refine ⟨fun _=>?_,fun hm=>absurd ⟨u,hf,hw,h1⟩ hm⟩
  have tk:=h.tk (b.s.B u.2.2.1)
  rw [← hr] at tk
  obtain ⟨u1,u2,u3,u4,u5⟩:=tk.got he2
  obtain ⟨hu,ha⟩:=fnd_some hf
  obtain ⟨A,B,hL⟩:=List.append_of_mem hu
  have hs:=h.sr
  have key:∀ f,cntF (setL (frV r.2.1) x.toNat (t.toNat / 64) b.L) f+(if u.2.2.1=f then 1 else 0)=cntF b.L f+if r.2.1=f then 1 else 0:=fun f=>by
   rw [← show u.1=x.toNat from ha.1,← show u.2.1=t.toNat / 64 from ha.2]
   rw [hL] at hs ⊢
   rw [set_split hs,cnt_fr]
  have hc0:0 < cntF b.L u.2.2.1:=cnt_posE.2 ⟨u,hu,rfl⟩
  have hne:u.2.2.1 ≠ r.2.1:=fun e3=>by rw [e3] at hc0;omega
  refine fil_one (g:=r.2.1) List.nodup_range' (List.mem_range'_1.2 ⟨u1,u2⟩) (by simpa using u3) ?_ fun f _ hfne=>?_
  ·have:=key r.2.1
   rw [if_neg hne,if_pos rfl] at this
   show decide (0 < cntF (setL (frV r.2.1) x.toNat (t.toNat / 64) b.L) r.2.1)=true
   rw [decide_eq_true_eq];omega
  ·have:=key f
   rw [if_neg (Ne.symm hfne)] at this
   show decide (0 < cntF b.L f)=decide (0 < cntF (setL (frV r.2.1) x.toNat (t.toNat / 64) b.L) f)
   rw [decide_eq_decide]
   by_cases e:u.2.2.1=f
   ·subst e;rw [if_pos rfl] at this;omega
   ·rw [if_neg e] at this;omega
 | full u r hr he2=>exact absurd he he2
theorem differ_no {x y:Int} (hi:inR 64 x∧inR 64 y) (h:∀ k,(fndL b.L x.toNat k).map (fun v=>v.2.2.1)=(fndL b.L y.toNat k).map (fun v=>v.2.2.1)):b.differ x y=([],0):=by
 unfold Bk.differ
 rw [if_neg (fun hn=>hn hi)]
 have : (List.range 1024).filter (fun k=>b.dif x.toNat y.toNat k)=[]:=by
  rw [List.filter_eq_nil_iff]
  intro k _
  have hk:=h k
  unfold Bk.dif
  cases h1:fndL b.L x.toNat k<;>cases h2:fndL b.L y.toNat k<;>rw [h1,h2] at hk
  ·simp
  ·cases hk
  ·cases hk
  ·have hk:=Option.some.inj hk
   dsimp only at hk ⊢
   rw [hk]
   simp [eqB]
 rw [this];rfl
theorem take_same (h:GoodB b) (x y:Int) (he:(b.take x y).2.1=0):(b.take x y).2.2.differ x y=([],0):=by
 obtain ⟨r1,r2,r3,_⟩:=take_rd h x y he
 refine differ_no ⟨r1,r2⟩ fun k=>?_
 have hx0:=r1.1;have hx1:=r1.2;have hy0:=r2.1;have hy1:=r2.2
 have hne:x.toNat ≠ y.toNat:=by omega
 clear r3
 unfold Bk.take at he ⊢
 split at he
 ·exact absurd he (by decide:¬ (7:Int)=0)
 rename_i c1;rw [if_neg c1]
 split at he
 ·exact absurd he (by decide:¬ (2:Int)=0)
 rename_i c2;rw [if_neg c2]
 split at he
 ·exact absurd he (by decide:¬ (8:Int)=0)
 rename_i c3;rw [if_neg c3]
 split at he
 ·exact absurd he (by decide:¬ (5:Int)=0)
 rename_i c4;rw [if_neg c4]
 dsimp only
 have hy:ofA y.toNat b.L=[]:=List.eq_nil_of_length_eq_zero (by omega)
 rw [fnd_frk h.sr hne hy,fnd_frk h.sr hne hy,if_neg hne,if_pos rfl]
 cases fndL b.L x.toNat k<;>simp [wnV,cpV]
theorem revert_same (h:GoodB b) (x y:Int) (he:(b.revert x y).2.1=0):(b.revert x y).2.2.differ x y=([],0):=by
 obtain ⟨r1,r2,r3,_⟩:=revert_rd h x y he
 refine differ_no ⟨r1,r2⟩ fun k=>?_
 have hx0:=r1.1;have hx1:=r1.2;have hy0:=r2.1;have hy1:=r2.2
 have hne:y.toNat ≠ x.toNat:=by omega
 have hs:srt (noA x.toNat b.L):=h.sr.sublist List.filter_sublist
 clear r3
 unfold Bk.revert at he ⊢
 split at he
 ·exact absurd he (by decide:¬ (7:Int)=0)
 rename_i c1;rw [if_neg c1]
 split at he
 ·exact absurd he (by decide:¬ (2:Int)=0)
 rename_i c2;rw [if_neg c2]
 split at he
 ·exact absurd he (by decide:¬ (5:Int)=0)
 rename_i c3;rw [if_neg c3]
 dsimp only
 rw [fnd_frk hs hne ofA_self,fnd_frk hs hne ofA_self,if_pos rfl,if_neg hne]
 cases fndL (noA x.toNat b.L) y.toNat k<;>simp [wnV,cpV]
end
theorem cnt_two {L:List Vw} {k:Nat} (hk:k < L.length):(∃ m,∃ hm:m < L.length,m ≠ k∧(L[m]).2.2.1=(L[k]).2.2.1) ↔ cntF L (L[k]).2.2.1 ≠ 1:=by
 have hsp:L=L.take k++L[k]::L.drop (k+1):=by rw [List.getElem_cons_drop,List.take_append_drop]
 have hc:∀ f,cntF L f=cntF (L.take k) f+((if (L[k]).2.2.1=f then 1 else 0)+cntF (L.drop (k+1)) f):=fun f=>by
  rw [← cnt_cons,← cnt_app,← hsp]
 rw [hc,if_pos rfl]
 constructor
 ·rintro ⟨m,hm,hne,e⟩
  by_cases hlt:m < k
  ·have : 0 < cntF (L.take k) (L[k]).2.2.1:=cnt_posE.2 ⟨L[m],List.mem_take_iff_getElem.2 ⟨m,by omega,rfl⟩,e⟩
   omega
  ·have : 0 < cntF (L.drop (k+1)) (L[k]).2.2.1:=cnt_posE.2 ⟨L[m],List.mem_drop_iff_getElem.2 ⟨m - (k+1),by omega,by congr 1;omega⟩,e⟩
   omega
 ·intro h
  rcases Nat.eq_zero_or_pos (cntF (L.take k) (L[k]).2.2.1) with h0|h0
  ·obtain ⟨v,hv,e⟩:=cnt_posE.1 (show 0 < cntF (L.drop (k+1)) (L[k]).2.2.1 by omega)
   obtain ⟨i,hi,rfl⟩:=List.mem_drop_iff_getElem.1 hv
   exact ⟨k+1+i,by omega,by omega,by first|exact e|(rw [← e];congr 3;omega)⟩
  ·obtain ⟨v,hv,e⟩:=cnt_posE.1 h0
   obtain ⟨i,hi,rfl⟩:=List.mem_take_iff_getElem.1 hv
   exact ⟨i,by omega,by omega,e⟩
end Go.Pol
namespace Go.Pol
open Go.Am Go.Proofs.Ytphggldkligldaa.Sh
def sumN (f:Nat→Nat):Nat→Nat
 | 0 => 0
 | n+1=>sumN f n+f n
theorem sum_le {f g:Nat→Nat}:∀ {n:Nat},(∀ i,i < n→f i≤g i)→sumN f n≤sumN g n
 | 0,_=>Nat.le_refl _
 | n+1,h=>by
  have:=sum_le (f:=f) (g:=g) (n:=n) fun i hi=>h i (by omega)
  have:=h n (by omega)
  show sumN f n+f n≤sumN g n+g n
  omega
theorem sum_congr {f g:Nat→Nat} {n:Nat} (h:∀ i,i < n→f i=g i):sumN f n=sumN g n:=Nat.le_antisymm (sum_le fun i hi=>Nat.le_of_eq (h i hi)) (sum_le fun i hi=>Nat.le_of_eq (h i hi).symm)
theorem sum_fil {α:Type} {L:List α} {g:α→Nat}:∀ m,sumN (fun i=>(L.filter fun v=>decide (g v=i)).length) m=(L.filter fun v=>decide (g v < m)).length
 | 0=>by
  rw [fil_none]
  ·rfl
  ·intro v _;simp
 | m+1=>by
  show sumN _ m+_=_
  rw [sum_fil m]
  exact (fil_two fun v _=>by simp only [decide_eq_true_eq];constructor<;>omega).symm
theorem sum_all {α:Type} {L:List α} {g:α→Nat} {m:Nat} (h:∀ v ∈ L,g v < m):sumN (fun i=>(L.filter fun v=>decide (g v=i)).length) m=L.length:=by
 rw [sum_fil,List.filter_eq_self.2 fun v hv=>by simpa using h v hv]
theorem range_sum {a:Nat} {p:Nat→Bool}:∀ n,((List.range' a n).filter p).length=sumN (fun i=>if p (a+i)=true then 1 else 0) n
 | 0=>rfl
 | n+1=>by
  rw [List.range'_concat,List.filter_append,List.length_append,range_sum n]
  show _=sumN _ n+_
  congr 1
  rw [Nat.one_mul]
  show (List.filter p [a+n]).length=if p (a+n)=true then 1 else 0
  by_cases e:p (a+n)=true
  ·rw [List.filter_cons_of_pos e,if_pos e];rfl
  ·rw [List.filter_cons_of_neg e,if_neg e];rfl
section
variable {b:Bk}
theorem views_all (h:GoodB b):sumN (fun i=>cntF b.L (b.a+i)) b.n=b.L.length:=by
 rw [← sum_all (L:=b.L) (g:=fun v=>v.2.2.1 - b.a) (m:=b.n) fun v hv=>by have:=h.view hv;omega]
 refine sum_congr fun i _=>?_
 unfold cntF
 rw [List.filter_congr fun v hv=>?_]
 have:=h.view hv
 rw [decide_eq_decide];omega
theorem used_sum:b.used=sumN (fun i=>if 0 < cntF b.L (b.a+i) then 1 else 0) b.n:=by
 unfold Bk.used
 rw [range_sum]
 exact sum_congr fun i _=>by simp only [decide_eq_true_eq]
theorem used_le (h:GoodB b):b.used≤b.L.length∧b.used≤b.n:=by
 constructor
 ·rw [used_sum,← views_all h]
  exact sum_le fun i _=>by split<;>omega
 ·have:=List.length_filter_le (fun f=>decide (0 < cntF b.L f)) (List.range' b.a b.n)
  rw [List.length_range'] at this
  exact this
end
end Go.Pol
