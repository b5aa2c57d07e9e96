/-
 Spaces that share nothing,plain (TopCopies).
 A book and spaces that share nothing,plain (TopCopies).
 A book of spaces,plain: a new one.
 A book of spaces,plain: filling a page,counting frames,the example.
-/
import Derived.Test.YtphggldkligldaaSnD
set_option linter.unusedSimpArgs false
set_option linter.unusedVariables false
namespace Go.Pol
open Go.Am Go.Proofs.Ytphggldkligldaa.Sh
structure SpR (R:Nat→Nat→Option Int) (s:Sy):Prop where
 good:GoodS s
 l:s.l=[]
 M:∀ p,s.M p=false
 K:∀ p,8≤p→s.K p=0
 at_:∀ p,p < 8→(s.K p=1∧∀ j,j < 64→R p j=none)∨(s.K p=2∧∀ j,j < 64→R p j=some (s.B p j))
def Sy.com (s:Sy) (p:Nat):Sy:=(s.chg (p:Nat) 1 1 2 2).2
def Sy.dec (s:Sy) (p:Nat):Sy:=(s.chg (p:Nat) 1 2 1 3).2
theorem SpR.congr {R R':Nat→Nat→Option Int} {s:Sy} (h:SpR R s) (e:∀ p j,p < 8→j < 64→R' p j=R p j):SpR R' s:=⟨h.good,h.l,h.M,h.K,fun p hp=>(h.at_ p hp).imp (fun h2=>⟨h2.1,fun j hj=>(e p j hp hj).trans (h2.2 j hj)⟩) fun h2=>⟨h2.1,fun j hj=>(e p j hp hj).trans (h2.2 j hj)⟩⟩
section
variable {R:Nat→Nat→Option Int} {s:Sy}
def Sy.clr (s:Sy):Nat→Sy
 | 0=>s
 | n+1=>(s.clr n).dec n
def cpyK (s1 s2:Sy) (k:Nat):Sy:=if s1.K k=2 then (s2.com k).page k (s1.B k) else s2
def cpyN (s1 s2:Sy):Nat→Sy
 | 0=>s2.clr 8
 | n+1=>cpyK s1 (cpyN s1 s2 n) n
end
end Go.Pol
namespace Go.Pol
open Go.Am Go.Proofs.Ytphggldkligldaa.Sh
structure TcR (b:Bk) (A:Nat→Sy):Prop where
 lt:∀ v ∈ b.L,v.1 < 4∧v.2.1 < 8
 sp:∀ a,a < 4→SpR (b.rd a) (A a)
def updA (A:Nat→Sy) (i:Nat) (s:Sy):Nat→Sy:=fun k=>if k=i then s else A k
section
variable {b:Bk} {A:Nat→Sy}
end
end Go.Pol
namespace Go.Pol
open Go.Am Go.Proofs.Ytphggldkligldaa.Sh
theorem new_chg {l:List Rl} {a n:Int} (he:((Sy.new l).chg a n 0 1 0).1=0):(∀ p,((Sy.new l).chg a n 0 1 0).2.K p=if a.toNat≤p∧p < a.toNat+n.toNat then 1 else 0)∧(∀ p,((Sy.new l).chg a n 0 1 0).2.M p=false)∧(∀ p j,((Sy.new l).chg a n 0 1 0).2.B p j=0)∧((Sy.new l).chg a n 0 1 0).2.l=l:=by
 unfold Sy.chg at he ⊢
 split at he
 ·exact absurd he (by decide:¬ (7:Int)=0)
 rename_i c1
 rw [if_neg c1]
 split at he
 ·rename_i c2
  rw [if_pos c2]
  split at he
  ·exact absurd he (by decide:¬ (60:Int)=0)
  ·rename_i c3
   rw [if_neg c3]
   refine ⟨fun p=>?_,fun p=>rfl,fun p j=>?_,rfl⟩
   ·show setR (Sy.new l).K _ _ 1 p=_
    unfold setR;rfl
   ·show setP (Sy.new l).B _ _ p j=0
    unfold setP;split<;>rfl
 ·exact absurd he (by decide:¬ (9:Int)=0)
theorem new_book {l:List Rl} {a n:Int} (hc:(chkP l).2=0) (hi:0≤a∧1≤n∧a+n≤1024) (he:((Sy.new l).chg a n 0 1 0).1=0) (b:Bk) (hb:b=⟨a.toNat,n.toNat,[],((Sy.new l).chg a n 0 1 0).2⟩):GoodB b∧OutB b∧OwnB b∧ByS b.s∧(l=[]→Tight b):=by
 obtain ⟨k1,k2,k3,k4⟩:=new_chg he
 subst hb
 refine ⟨⟨good_chg (good_new hc) (by decide),⟨by show 1≤n.toNat;omega,by show a.toNat+n.toNat≤1024;omega⟩,fun f h1 h2=>⟨.inl ?_,k2 f⟩,fun f hf=>absurd (show 0 < 0 from hf) (Nat.lt_irrefl 0),List.Pairwise.nil,fun v hv=>(by cases hv),Nat.zero_le _⟩,fun p hp=>?_,fun v hv=>(by cases hv),fun p j=>?_,fun hl=>⟨?_,fun f h1 h2 hk=>?_⟩⟩
 ·show ((Sy.new l).chg a n 0 1 0).2.K f=1
  rw [k1,if_pos ⟨h1,h2⟩]
 ·show ((Sy.new l).chg a n 0 1 0).2.K p=0
  rw [k1,if_neg hp]
 ·show 0≤((Sy.new l).chg a n 0 1 0).2.B p j∧((Sy.new l).chg a n 0 1 0).2.B p j < 256
  rw [k3];decide
 ·exact k4.trans hl
 ·have hk:((Sy.new l).chg a n 0 1 0).2.K f=2:=hk
  rw [k1,if_pos ⟨h1,h2⟩] at hk
  exact absurd hk (by decide)
end Go.Pol
namespace Go.Pol
open Go.Am Go.Proofs.Ytphggldkligldaa.Sh
def wrK (s:Sy) (f:Nat) (x:Nat→Int) (k:Nat):Sy:={ s with B:=updP s.B f fun j=>if j < k then x j else s.B f j }
theorem wrK_0 {s:Sy} {f:Nat} {x:Nat→Int}:wrK s f x 0=s:=by
 unfold wrK
 have : updP s.B f (fun j=>if j < 0 then x j else s.B f j)=s.B:=funext fun p=>by
  unfold updP
  split
  ·rename_i e;subst e;exact funext fun j=>if_neg (by omega)
  ·rfl
 rw [this]
theorem wrK_K {s:Sy} {f:Nat} {x:Nat→Int} {k:Nat}:(wrK s f x k).K=s.K:=rfl
theorem wrK_s {s:Sy} {f:Nat} {x:Nat→Int} {k:Nat} (hk:s.K f=2) (hf:f < 1024) (hj:k < 64):(wrK s f x k).write ((f:Int) * 64+(k:Nat)) (x k)=(0,wrK s f x (k+1)):=by
 unfold Sy.write
 have h1:((f:Int) * 64+(k:Nat)).toNat / 64=f:=by omega
 have h2:((f:Int) * 64+(k:Nat)).toNat % 64=k:=by omega
 rw [if_neg (by omega),h1,h2,wrK_K,if_pos hk]
 unfold wrK
 dsimp only
 have : updP (updP s.B f fun j=>if j < k then x j else s.B f j) f (updI (updP s.B f (fun j=>if j < k then x j else s.B f j) f) k (x k))=updP s.B f fun j=>if j < k+1 then x j else s.B f j:=funext fun p=>by
  unfold updP
  by_cases e:p=f
  ·rw [if_pos e,if_pos e,if_pos rfl]
   refine funext fun j=>?_
   unfold updI
   by_cases h3:j=k
   ·subst h3;rw [if_pos rfl,if_pos (by omega)]
   ·rw [if_neg h3]
    show (if j < k then x j else s.B f j)=if j < k+1 then x j else s.B f j
    by_cases h4:j < k
    ·rw [if_pos h4,if_pos (by omega)]
    ·rw [if_neg h4,if_neg (by omega)]
  ·rw [if_neg e,if_neg e,if_neg e]
 rw [this]
theorem wrK_all {s:Sy} (hg:GoodS s) {f:Nat} {x:Nat→Int}:wrK s f x 64=s.page f x:=by
 unfold wrK Sy.page
 have : (fun j=>if j < 64 then x j else s.B f j)=fun j=>if j < 64 then x j else 0:=funext fun j=>by
  by_cases h:j < 64
  ·rw [if_pos h,if_pos h]
  ·rw [if_neg h,if_neg h,hg.cB f j (by omega)]
 rw [this]
theorem read_at {s:Sy} {f k:Nat} (hk:s.K f=2) (hf:f < 1024) (hj:k < 64):s.read ((f:Int) * 64+(k:Nat))=(s.B f k,0):=by
 unfold Sy.read
 rw [if_neg (by omega),show ((f:Int) * 64+(k:Nat)).toNat / 64=f by omega,show ((f:Int) * 64+(k:Nat)).toNat % 64=k by omega,if_pos hk]
theorem range_cut {a n i:Nat} (h:i≤n):List.range' a n=List.range' a i++List.range' (a+i) (n - i):=by
 rw [List.range'_append_1,Nat.add_sub_cancel' h]
theorem free_at {L:List Vw} {a n i:Nat} (hi:i < n) (h1:∀ j,j < i→0 < cntF L (a+j)) (h2:cntF L (a+i)=0):freeF L a n=some (a+i):=by
 unfold freeF
 rw [range_cut (Nat.le_of_lt hi),List.find?_append]
 have e1:(List.range' a i).find? (fun f=>decide (cntF L f=0))=none:=List.find?_eq_none.2 fun f hf=>by
  rw [List.mem_range'_1] at hf
  have:=h1 (f - a) (by omega)
  rw [show a+(f - a)=f by omega] at this
  simp;omega
 obtain ⟨m,hm⟩:∃ m,n - i=m+1:=⟨n - i - 1,by omega⟩
 rw [e1,hm,List.range'_succ,List.find?_cons,decide_eq_true h2]
 rfl
theorem free_not {L:List Vw} {a n:Nat} (h:∀ j,j < n→0 < cntF L (a+j)):freeF L a n=none:=List.find?_eq_none.2 fun f hf=>by
 rw [List.mem_range'_1] at hf
 have:=h (f - a) (by omega)
 rw [show a+(f - a)=f by omega] at this
 simp;omega
def cntR (p:Nat→Bool) (a i:Nat):Nat:=((List.range' a i).filter p).length
theorem cntR_s {p:Nat→Bool} {a i:Nat}:cntR p a (i+1)=cntR p a i+if p (a+i) then 1 else 0:=by
 unfold cntR
 rw [range_cut (Nat.le_add_right i 1),List.filter_append,List.length_append,Nat.add_sub_cancel_left]
 by_cases h:p (a+i)<;>simp [List.range'_succ,h]
theorem cntR_le {p:Nat→Bool} {a i:Nat}:cntR p a i≤i:=Nat.le_trans (List.length_filter_le ..) (by rw [List.length_range'];exact Nat.le_refl _)
theorem used_R (b:Bk):b.used=cntR (fun f=>decide (0 < cntF b.L f)) b.a b.n:=rfl
theorem idle_R (b:Bk):b.idle=cntR (fun f=>decide (cntF b.L f=0∧b.s.K f=2)) b.a b.n:=rfl
theorem many_R (b:Bk):b.many=cntR (fun f=>decide (1 < cntF b.L f)) b.a b.n:=rfl
def sh0:Bk:=⟨8,2,[],((Sy.new []).chg 8 2 0 1 0).2⟩
def sh1:Bk:=(sh0.map 0 3).2
def sh2:Bk:=(sh1.write 0 192 7).2
def sh3:Bk:=(sh2.take 0 1).2.2
def sh4:Bk:=(sh3.write 0 192 8).2
def sh5:Bk:=(sh4.take 1 2).2.2
def sh6:Bk:=(sh5.write 2 192 9).2
def sh7:Bk:=(sh6.drop 0).2.2
def sh8:Bk:=(sh7.write 2 192 9).2
set_option maxRecDepth 100000 in
theorem sh_0:((Sy.new []).chg 8 2 0 1 0).1=0:=by decide +kernel
set_option maxRecDepth 100000 in
theorem sh_1:(sh0.map 0 3).1=0:=by decide +kernel
set_option maxRecDepth 100000 in
theorem sh_2:(sh1.write 0 192 7).1=0:=by decide +kernel
set_option maxRecDepth 100000 in
theorem sh_3:(sh2.take 0 1).1=1∧(sh2.take 0 1).2.1=0:=by decide +kernel
set_option maxRecDepth 100000 in
theorem sh_4:(sh3.write 0 192 8).1=0:=by decide +kernel
set_option maxRecDepth 100000 in
theorem sh_r4:sh4.read 1 192=(7,0):=by decide +kernel
set_option maxRecDepth 100000 in
theorem sh_c4:sh4.used=2∧sh4.idle=0∧sh4.many=0:=by decide +kernel
set_option maxRecDepth 100000 in
theorem sh_d4:sh4.differ 0 1=([3],0):=by decide +kernel
set_option maxRecDepth 100000 in
theorem sh_5:(sh4.take 1 2).1=1∧(sh4.take 1 2).2.1=0:=by decide +kernel
set_option maxRecDepth 100000 in
theorem sh_6:(sh5.write 2 192 9).1=5:=by decide +kernel
set_option maxRecDepth 100000 in
theorem sh_7:(sh6.drop 0).1=1∧(sh6.drop 0).2.1=0:=by decide +kernel
set_option maxRecDepth 100000 in
theorem sh_8:(sh7.write 2 192 9).1=0:=by decide +kernel
set_option maxRecDepth 100000 in
theorem sh_r8:sh8.read 1 192=(7,0):=by decide +kernel
end Go.Pol
