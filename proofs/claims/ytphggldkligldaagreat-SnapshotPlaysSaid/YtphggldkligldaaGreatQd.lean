/-
 Check of both;Of and Same of the document.
 New and Load.
 Systems in which frames are committed.
 The law's awake.
 The law's ready: a table and a system.
 Several slices of their own that grow: they stand one behind the other at the heap's end. No program in sight.
 A call that makes one block,in a region that draws its order;a call that reads alone. No program in sight.
 Calls over a table and a system: byteOf,all,Write.
-/
import Derived.Test.YtphggldkligldaaGreatShD
set_option linter.unusedSimpArgs false
set_option linter.unusedVariables false
set_option maxHeartbeats 1600000
namespace Go.Pol
open Go.Am
abbrev Rw:=Int × Int × Int × Bool
def rwC (v:Rw):List AV:=[.int .i64 v.1,.int .i64 v.2.1,.int .i64 v.2.2.1,.bool v.2.2.2]
def dW:Rw:=(0,0,0,false)
def rwV (v:Vw):Rw:=((v.1:Nat),(v.2.1:Nat),(v.2.2.1:Nat),v.2.2.2)
theorem rw_len (v:Rw):(rwC v).length=4:=rfl
theorem rw_plain {v:Rw}:∀ x ∈ rwC v,Plain x:=fun x hx=>by
 simp only [rwC,List.mem_cons,List.not_mem_nil,or_false] at hx
 rcases hx with rfl|rfl|rfl|rfl<;>first|exact A8|exact A9
theorem plain_rs {R:List Rw}:Plain (.isl (R.map rwC)):=AD2 fun e he=>by
 obtain ⟨v,_,rfl⟩:=List.mem_map.1 he;exact rw_plain
theorem BK8 {R:List Rw}:Plain (.agg [.isl (R.map rwC)]):=P9 fun x hx=>by
 obtain rfl:=List.mem_singleton.1 hx;exact plain_rs
theorem rw_map (L:List Vw):(L.map rwV).map rwC=L.map vwC:=by rw [List.map_map];rfl
def okW (v:Rw):Prop:=(0≤v.1∧v.1 < 64)∧(0≤v.2.1∧v.2.1 < 1024)∧(0≤v.2.2.1∧v.2.2.1 < 1024)
instance (v:Rw):Decidable (okW v):=by unfold okW;infer_instance
def BP5 (u v:Rw):Prop:=u.1 < v.1∨(u.1=v.1∧u.2.1 < v.2.1)
instance (u v:Rw):Decidable (BP5 u v):=by unfold BP5;infer_instance
inductive ChkR (R:List Rw):Int→Int→Prop
 | big:2000 < R.length→ChkR R 0 5
 | range (k:Nat):R.length≤2000→k < R.length→(∀ j,j < k→okW (nth dW R j))→¬ okW (nth dW R k)→ChkR R (k:Nat) 7
 | pair (k:Nat):R.length≤2000→1≤k→k < R.length→(∀ j,j < R.length→okW (nth dW R j))→(∀ j,j+1 < k→BP5 (nth dW R j) (nth dW R (j+1)))→¬ BP5 (nth dW R (k - 1)) (nth dW R k)→ChkR R (k:Nat) (if BP5 (nth dW R k) (nth dW R (k - 1)) then 6 else 8)
 | ok:R.length≤2000→(∀ j,j < R.length→okW (nth dW R j))→(∀ j,j+1 < R.length→BP5 (nth dW R j) (nth dW R (j+1)))→ChkR R 0 0
theorem ChkR.uniq {R:List Rw} {i e i' e':Int} (h:ChkR R i e) (h':ChkR R i' e'):i=i'∧e=e':=by
 cases h with
 | big h1=>cases h' with
  | big h2=>exact ⟨rfl,rfl⟩
  | range k h2=>omega
  | pair k h2=>omega
  | ok h2=>omega
 | range k h1 h2 h3 h4=>cases h' with
  | big g1=>omega
  | range k' g1 g2 g3 g4 =>
   have : k=k':=by
    rcases Nat.lt_trichotomy k k' with h|h|h
    ·exact absurd (g3 k h) h4
    ·exact h
    ·exact absurd (h3 k' h) g4
   subst this;exact ⟨rfl,rfl⟩
  | pair k' g1 g2 g3 g4=>exact absurd (g4 k h2) h4
  | ok g1 g2=>exact absurd (g2 k h2) h4
 | pair k h1 h2 h3 h4 h5 h6=>cases h' with
  | big g1=>omega
  | range k' g1 g2 g3 g4=>exact absurd (h4 k' g2) g4
  | pair k' g1 g2 g3 g4 g5 g6 =>
   have : k=k':=by
    rcases Nat.lt_trichotomy k k' with h|h|h
    ·have:=g5 (k - 1) (by omega);rw [show k - 1+1=k by omega] at this;exact absurd this h6
    ·exact h
    ·have:=h5 (k' - 1) (by omega);rw [show k' - 1+1=k' by omega] at this;exact absurd this g6
   subst this;exact ⟨rfl,rfl⟩
  | ok g1 g2 g3=>have:=g3 (k - 1) (by omega);rw [show k - 1+1=k by omega] at this;exact absurd this h6
 | ok h1 h2 h3=>cases h' with
  | big g1=>omega
  | range k' g1 g2 g3 g4=>exact absurd (h2 k' g2) g4
  | pair k' g1 g2 g3 g4 g5 g6=>have:=h3 (k' - 1) (by omega);rw [show k' - 1+1=k' by omega] at this;exact absurd this g6
  | ok=>exact ⟨rfl,rfl⟩
end Go.Pol
namespace Go.Proofs.YtphggldkligldaaGreat.Sh
open Go Go.Am Go.Pol
theorem plx_Ba {p:Prop} (h:p:=by ((first|exact plw|(with_reducible first|apply O4|apply M5|apply J3|apply G8|apply plain_rs|apply BK8|fail)|fail);first|done|fail)):p:=h
theorem ppx_Ba {p:Prop} (h:p:=by ((first|with_reducible assumption|(with_reducible first|apply X9|apply K7 AA3|apply rw_plain|fail)|exact ppw|fail);first|done|fail)):p:=h
open Go.Proofs.YtphggldkligldaaGreat.Sh renaming plx_Ba → plx
open Go.Proofs.YtphggldkligldaaGreat.Sh renaming ppx_Ba → ppx
theorem wx_Ba {p q:Prop} (hq:q) (h:R7 q→p:=by (intro hQz;((repeat' ((try (conv=>whnf));first|refine sxA ?_|refine Z9 (d:=dV) K9 (by first|assumption|omega) (by with_reducible assumption) ?_|refine Z9 (d:=dW) rw_len (by first|assumption|omega) (by with_reducible assumption) ?_|refine el_pred (d:=dW) rw_len (by omega) (by with_reducible assumption) ?_|refine sxF ?_|refine AA2 (f:=vwC) (l2:=[(u1,u2,u3,u4)]) K9 (Y7 rfl rfl) (fun hz=>by first|(simp [lk,G5 hz];done)|exact G5 hz) (fun hz=>by first|(simp [lk,j6 hz];done)|exact j6 hz) rfl (by decide) ⟨by omega,by omega⟩ rfl ?_|(refine AA1 (f:=vwC) (l2:=[(u1,u2,u3,u4)]) K9 (Y7 rfl rfl) (fun hz=>by first|(simp [lk,G5 hz];done)|exact G5 hz) rfl (by decide) ⟨by omega,by omega⟩ ?_ ?_<;>intro hzz)|refine G7 (by assumption) ?_|refine L6 (by assumption) ?_|(refine O6 D9 b127 rfl ?_;unfold c127)|(refine O6 D9 b128 rfl ?_;unfold c128)|refine sxH ?_|((with_reducible first|apply L8 hQz|apply L9 hQz)<;>(try intro hsp hQz))|exact hQz.out))<;>(try (conv=>whnf))))):p:=h ⟨hq⟩
section
variable {L A B:List Vw} {v:Vw} {R:List Rw}
def ofI (a:Int) (L:List Vw):List Vw:=L.filter fun v=>decide ((v.1:Int)=a)
theorem BT9 (a:Nat) (L:List Vw):ofI (a:Nat) L=ofA a L:=by unfold ofI ofA;congr 1;funext v;exact decide_eq_decide.2 (by omega)
theorem ofI_nil (a:Int):ofI a []=[]:=rfl
theorem ofI_snoc (a:Int) (v:Vw):ofI a (L++[v])=if (v.1:Int)=a then ofI a L++[v] else ofI a L:=by
 unfold ofI;rw [List.filter_append];by_cases h:(v.1:Int)=a<;>simp [h]
theorem q_of (a:Int) (hl:L.length≤4000):E5 131 [.agg [.isl (L.map vwC)],.int .i64 a] (.isl ((ofI a L).map vwC)):=by
 refine E5.mk (I5 D9 b131 F3 ⟨G8,A8,trivial⟩ J3 rfl ?_)
 unfold c131
 (refine wx_Ba ?_;repeat' (first|with_reducible refine And.intro ?_ ?_|intro hsp))
 (refine H9 [1,2] (fun (i:Nat)=>[(5,AN9 1 4 (ofI a (L.take i)).length),(6,.int .i64 (i:Nat))]) (fun (i:Nat)=>⟨[(0,.cells [.isl (L.map vwC)])]++AE8 1 vwC (ofI a (L.take i)),2⟩) (fun (i:Nat)=>i≤L.length) (fun (i:Nat)=>L.length - i) (0) [] rfl (fun _=>by first|exact Nat.zero_le _|(dsimp only;omega)) ?_ (by ((try (conv=>whnf));(rw [List.take_zero,ofI_nil]);exact wkxQ4)) ?_)
 ·exact Nat.zero_le _
 intro i hi
 have hc:(ofI a (L.take i)).length≤i:=Nat.le_trans (List.length_filter_le ..) (by rw [List.length_take];omega)
 by_cases hia:i < L.length
 ·have ht:=congrArg (ofI a) (d9 (d:=dV) hia)
  rw [ofI_snoc] at ht
  generalize hx:nth dV L i=u at *
  obtain ⟨u1,u2,u3,u4⟩:=u
  dsimp only at ht
  by_cases hf:(u1:Int)=a
  ·rw [if_pos hf] at ht
   (refine wx_Ba ?_;repeat' (first|with_reducible refine And.intro ?_ ?_|intro hsp))
   all_goals exact D8 (i+1) [(1,3)] (by (try dsimp only);omega) (by first|omega|(dsimp only;omega)) rfl (by ((try dsimp only);rw [ht]);exact wkxQ4)
  ·rw [if_neg hf] at ht
   (refine wx_Ba ?_;repeat' (first|with_reducible refine And.intro ?_ ?_|intro hsp))
   all_goals exact D8 (i+1) [] (by (try dsimp only);omega) (by first|omega|(dsimp only;omega)) rfl (by ((try dsimp only);rw [ht]);exact wkxQ4)
 ·(refine wx_Ba ?_;repeat' (first|with_reducible refine And.intro ?_ ?_|intro hsp))
  rw [List.take_of_length_le (by omega)]
  exact AG0 (wk_frzO K9 AA3 fun hz=>by simp [lk,G5 hz])
theorem el_pred {f:Rw→List AV} {l:List Rw} {i sz:Nat} {K:List AV→Prop} {d x:Rw} (hf:∀ x,(f x).length=sz) (hj:i < l.length) (hx:nth d l i=x) (hk:K (f x)):ElX (l.map f) (((i+1:Nat):Int) - 1).toNat sz K:=by
 rw [show (((i+1:Nat):Int) - 1).toNat=i by omega];exact Z9 hf hj hx hk
theorem q_same (hl:L.length≤4000):E5 80 [.isl (L.map vwC),.isl (L.map vwC)] (.bool true):=by
 refine E5.mk (I5 D9 b80 F3 ⟨J3,J3,trivial⟩ A9 rfl ?_)
 unfold c80
 (refine wx_Ba ?_;repeat' (first|with_reducible refine And.intro ?_ ?_|intro hsp))
 (refine H9 [0,1] (fun (i:Nat)=>[(5,.int .i64 (i:Nat))]) (fun (i:Nat)=>⟨[],0⟩) (fun (i:Nat)=>i≤L.length) (fun (i:Nat)=>L.length - i) (0) [] rfl (fun _=>by first|exact Nat.zero_le _|(dsimp only;omega)) ?_ (by ((try (conv=>whnf));exact R3)) ?_)
 ·exact Nat.zero_le _
 intro i hi
 by_cases hia:i < L.length
 ·generalize hx:nth dV L i=u at *
  (refine wx_Ba ?_;repeat' (first|with_reducible refine And.intro ?_ ?_|intro hsp))
  all_goals first|exact D8 (i+1) [] (by (try dsimp only);omega) (by first|omega|(dsimp only;omega)) rfl (by exact R3)|(exfalso;simp at hsp;done)
 ·(refine wx_Ba ?_;repeat' (first|with_reducible refine And.intro ?_ ?_|intro hsp))
  all_goals exact J7 rfl
theorem p_check {i0 e0:Int} (h:ChkR R i0 e0):E5 116 [.agg [.isl (R.map rwC)]] (.tup [.int .i64 i0,.int .i64 e0]):=by
 refine E5.mk (I5 D9 b116 F3 ⟨BK8,trivial⟩ F4 rfl ?_)
 unfold c116
 by_cases hbig:2000 < R.length
 ·obtain ⟨rfl,rfl⟩:=h.uniq (.big hbig)
  (refine wx_Ba ?_;repeat' (first|with_reducible refine And.intro ?_ ?_|intro hsp))
  all_goals exact F6 rfl F4
 ·(refine wx_Ba ?_;repeat' (first|with_reducible refine And.intro ?_ ?_|intro hsp))
  (refine H9 [1,14,15] (fun (i:Nat)=>[(16,.int .i64 (i:Nat))]) (fun (i:Nat)=>⟨[(0,.cells [.isl (R.map rwC)])],1⟩) (fun (i:Nat)=>i≤R.length∧∀ j,j < i→okW (nth dW R j)) (fun (i:Nat)=>R.length - i) (0) [] rfl (fun _=>by first|exact Nat.zero_le _|(dsimp only;omega)) ?_ (by ((try (conv=>whnf));exact R3)) ?_)
  ·exact ⟨Nat.zero_le _,fun j hj=>by omega⟩
  rintro i ⟨hi,hok⟩
  by_cases hil:i < R.length
  ·have hr:=k_right (nth dW R i).1 (nth dW R i).2.1 (nth dW R i).2.2.1 (nth dW R i).2.2.2
   by_cases hbad:okW (nth dW R i)
   ·rw [decide_eq_true (show inR 64 (nth dW R i).1∧inR 1024 (nth dW R i).2.1∧inR 1024 (nth dW R i).2.2.1 from hbad)] at hr
    have hok2:∀ j,j < i+1→okW (nth dW R j):=fun j hj=>by
     rcases Nat.lt_or_ge j i with h1|h1
     ·exact hok j h1
     ·obtain rfl:j=i:=by omega
      exact hbad
    clear hok hbad
    generalize hx:nth dW R i=u at *
    (refine wx_Ba ?_;repeat' (first|with_reducible refine And.intro ?_ ?_|intro hsp))
    all_goals exact D8 (i+1) [] ⟨by omega,hok2⟩ (by first|omega|(dsimp only;omega)) rfl (by exact R3)
   ·rw [decide_eq_false (show ¬ (inR 64 (nth dW R i).1∧inR 1024 (nth dW R i).2.1∧inR 1024 (nth dW R i).2.2.1) from hbad)] at hr
    obtain ⟨rfl,rfl⟩:=h.uniq (.range i (by omega) hil hok hbad)
    clear hok hbad
    generalize hx:nth dW R i=u at *
    (refine wx_Ba ?_;repeat' (first|with_reducible refine And.intro ?_ ?_|intro hsp))
    all_goals exact F6 rfl F4
  ·obtain rfl:i=R.length:=by omega
   (refine wx_Ba ?_;repeat' (first|with_reducible refine And.intro ?_ ?_|intro hsp))
   (refine H9 [1,27,28] (fun (i:Nat)=>[(29,.int .i64 (i:Nat))]) (fun (i:Nat)=>⟨[(0,.cells [.isl (R.map rwC)])],1⟩) (fun (i:Nat)=>i≤R.length∧∀ j,j+1 < i→BP5 (nth dW R j) (nth dW R (j+1))) (fun (i:Nat)=>R.length - i) (0) [] rfl (fun _=>by first|exact Nat.zero_le _|(dsimp only;omega)) ?_ (by ((try (conv=>whnf));exact R3)) ?_)
   ·exact ⟨Nat.zero_le _,fun j hj=>by omega⟩
   rintro i ⟨hi,hbf⟩
   by_cases hil:i < R.length
   ·cases i with
    | zero =>
     generalize hx:nth dW R 0=u at *
     (refine wx_Ba ?_;repeat' (first|with_reducible refine And.intro ?_ ?_|intro hsp))
     all_goals exact D8 1 [] ⟨by omega,fun j hj=>by omega⟩ (by first|omega|(dsimp only;omega)) rfl (by exact R3)
    | succ i =>
     by_cases hb:BP5 (nth dW R i) (nth dW R (i+1))
     ·have hbf2:∀ j,j+1 < i+1+1→BP5 (nth dW R j) (nth dW R (j+1)):=fun j hj=>by
       rcases Nat.lt_or_ge (j+1) (i+1) with h1|h1
       ·exact hbf j h1
       ·obtain rfl:j=i:=by omega
        exact hb
      clear hbf hok
      unfold BP5 at hb
      generalize hx:nth dW R i=u at *
      generalize hy:nth dW R (i+1)=w at *
      (refine wx_Ba ?_;repeat' (first|with_reducible refine And.intro ?_ ?_|intro hsp))
      all_goals exact D8 (i+1+1) [] ⟨by omega,hbf2⟩ (by first|omega|(dsimp only;omega)) rfl (by exact R3)
     ·obtain ⟨rfl,rfl⟩:=h.uniq (.pair (i+1) (by omega) (by omega) hil hok (fun j hj=>hbf j hj) hb)
      clear hbf hok h
      rw [show i+1 - 1=i by omega]
      by_cases h6:BP5 (nth dW R (i+1)) (nth dW R i)
      ·rw [if_pos h6]
       unfold BP5 at hb h6
       generalize hx:nth dW R i=u at *
       generalize hy:nth dW R (i+1)=w at *
       (refine wx_Ba ?_;repeat' (first|with_reducible refine And.intro ?_ ?_|intro hsp))
       all_goals exact F6 rfl F4
      ·rw [if_neg h6]
       unfold BP5 at hb h6
       generalize hx:nth dW R i=u at *
       generalize hy:nth dW R (i+1)=w at *
       (refine wx_Ba ?_;repeat' (first|with_reducible refine And.intro ?_ ?_|intro hsp))
       all_goals exact F6 rfl F4
   ·obtain rfl:i=R.length:=by omega
    obtain ⟨rfl,rfl⟩:=h.uniq (.ok (by omega) hok hbf)
    (refine wx_Ba ?_;repeat' (first|with_reducible refine And.intro ?_ ?_|intro hsp))
    all_goals exact F6 rfl F4
theorem BK7 {v:Rw}:Plain (.agg [.int .i64 v.1,.int .i64 v.2.1,.int .i64 v.2.2.1,.bool v.2.2.2]):=M5
theorem k_before (u w:Rw) (b:Bool) (h:b=decide (BP5 u w)):E5 138 [.agg [.int .i64 u.1,.int .i64 u.2.1,.int .i64 u.2.2.1,.bool u.2.2.2],.agg [.int .i64 w.1,.int .i64 w.2.1,.int .i64 w.2.2.1,.bool w.2.2.2]] (.bool b):=by
 refine E5.mk (I5 D9 b138 F3 ⟨BK7,BK7,trivial⟩ A9 rfl ?_)
 unfold c138
 subst h
 have ht:BP5 u w ↔ u.1 < w.1∨(u.1=w.1∧u.2.1 < w.2.1):=Iff.rfl
 (refine wx_Ba ?_;repeat' (first|with_reducible refine And.intro ?_ ?_|intro hsp))
 all_goals exact J7 (by first|(symm;rw [decide_eq_true_eq,ht];omega)|(symm;rw [decide_eq_false_iff_not,ht];omega)|(by_cases h4:u.2.1 < w.2.1<;>simp [ht,h4]<;>omega))
end
end Go.Proofs.YtphggldkligldaaGreat.Sh
namespace Go.Pol
open Go.Am
theorem insV_last {L:List Vw} (h:srt L) {k:Nat} (hk:k < L.length) {d:Vw}:AZ2 (nth d L k) (L.take k)=L.take (k+1):=by
 rw [d9 (d:=d) hk]
 have h1:=BE5 (v:=nth d L k) (X:=L.take k) (Y:=[]) (fun u hu=>?_) (fun u Y' e=>by cases e)
 ·rwa [List.append_nil] at h1
 ·obtain ⟨i,hi,rfl⟩:=List.mem_iff_getElem.1 hu
  rw [List.length_take] at hi
  rw [List.getElem_take,N8 hk]
  exact (List.pairwise_iff_getElem.1 h) i k (by omega) hk (by omega)
theorem chain {α:Type} {P:Nat→α→Prop} {S:Nat→α→α→Prop} {n:Nat} (x0:α) (h0:P 0 x0) (hs:∀ k x,k < n→P k x→∃ y,P (k+1) y∧S k x y):∃ f:Nat→α,f 0=x0∧(∀ k,k≤n→P k (f k))∧∀ k,k < n→S k (f k) (f (k+1)):=by
 classical
 refine ⟨fun k=>Nat.rec x0 (fun k x=>if h:k < n∧P k x then Classical.choose (hs k x h.1 h.2) else x) k,rfl,?_,?_⟩
 ·intro k
  induction k with
  | zero=>exact fun _=>h0
  | succ k ih =>
   intro hk
   have h1:=ih (by omega)
   show P (k+1) (dite _ _ _)
   rw [dif_pos ⟨by omega,h1⟩]
   exact (Classical.choose_spec (hs k _ (by omega) h1)).1
 ·have key:∀ k,k≤n→P k (Nat.rec x0 (fun k x=>if h:k < n∧P k x then Classical.choose (hs k x h.1 h.2) else x) k):=by
   intro k
   induction k with
   | zero=>exact fun _=>h0
   | succ k ih =>
    intro hk
    have h1:=ih (by omega)
    show P (k+1) (dite _ _ _)
    rw [dif_pos ⟨by omega,h1⟩]
    exact (Classical.choose_spec (hs k _ (by omega) h1)).1
  intro k hk
  have h1:=key k (by omega)
  show S k _ (dite _ _ _)
  rw [dif_pos ⟨hk,h1⟩]
  exact (Classical.choose_spec (hs k _ hk h1)).2
theorem BR3 {L:List Vw} (h:srt L) {k:Nat} (hk:k < L.length):∀ u ∈ L.take k,¬ atV ((nth dV L k).1,(nth dV L k).2.1) u:=fun u hu ha=>by
 obtain ⟨i,hi,rfl⟩:=List.mem_iff_getElem.1 hu
 rw [List.length_take] at hi
 have h1:=(List.pairwise_iff_getElem.1 h) i k (by omega) hk (by omega)
 rw [List.getElem_take,N8 hk] at ha
 unfold bef at h1;unfold atV at ha;omega
end Go.Pol
namespace Go.Proofs.YtphggldkligldaaGreat.Sh
open Go Go.Am Go.Pol
theorem plx_Da {p:Prop} (h:p:=by ((first|exact plw|(with_reducible first|apply O4|apply M5|apply J3|apply G8|fail)|fail);first|done|fail)):p:=h
theorem ppx_Da {p:Prop} (h:p:=by ((first|with_reducible assumption|(with_reducible first|apply G9|apply I7|apply V6|apply T9 _ _|apply X9|apply K7 AA3|fail)|exact ppw|fail);first|done|fail)):p:=h
open Go.Proofs.YtphggldkligldaaGreat.Sh renaming plx_Da → plx
open Go.Proofs.YtphggldkligldaaGreat.Sh renaming ppx_Da → ppx
theorem wx_Da {p q:Prop} (hq:q) (h:R7 q→p:=by (intro hQz;((repeat' ((try (conv=>whnf));first|refine sxA ?_|refine Z9 (d:=dV) K9 (by first|assumption|omega) (by with_reducible assumption) ?_|refine sxF ?_|refine cx_new (n:=2000) (m:=64) (by decide) (by decide) (by decide) (by decide) ?_|refine G7 (by assumption) ?_|refine cx_NT (by assumption) ?_|refine AB3 (by assumption) rfl rfl rfl rfl rfl (by decide) rfl ?_|refine sxH ?_|((with_reducible first|apply L8 hQz|apply L9 hQz)<;>(try intro hsp hQz))|exact hQz.out))<;>(try (conv=>whnf))))):p:=h ⟨hq⟩
def T0:TS:=⟨2000,64,fun _=>z0,fun _=>w0,fun _=>w0,fun _=>b0,fun _=>[],S0 2000 64,fun _=>dV,[],fun _=>0⟩
theorem tok_0:TOk [] T0:=⟨rfl,rfl,good_0 (by decide) (by decide) (by decide),fun a s hs=>(by cases hs),fun a=>rfl,List.nodup_nil,fun p s=>⟨fun h=>(by cases h),fun h=>(by cases h.1)⟩,rfl,fun f=>rfl,fun v hv=>(by cases hv),List.Pairwise.nil,Nat.zero_le _⟩
theorem tab_0 {p m:Nat}:(.ptr p 0 :: .mapr m::List.replicate 1024 (.int .i64 0):List AV)=tabC p m fun _=>0:=by
 unfold tabC
 congr 2
 refine List.ext_getElem? fun i=>?_
 by_cases h:i < 1024
 ·rw [List.getElem?_replicate,if_pos h,V9 h];rfl
 ·rw [List.getElem?_eq_none (by rw [List.length_replicate];omega),List.getElem?_eq_none (by rw [Y4];omega)]
theorem end_newT {top:Bool} {h:Hp} {x r:AV} {t:TS} (a b c d e:Nat) {cs:List AV} (hd:Aa8 [a,b,c,d,e]=true)
  (hr:AG8 (rn [(0,a),(1,b),(2,c),(3,d),(4,e)]) h ⟨tabS t,5⟩→WkV Tryz.prog (rn [(0,a),(1,b),(2,c),(3,d),(4,e)]) h ⟨tabS t,5⟩ x r) (hc:cs=tabC b e t.C) (h0:lk h.l a=some (.cells cs)) (h1:lk h.l b=some (.cells [.sl c 0 t.n t.n 7,.sl d 0 t.m t.m 3,.int .i64 (t.S.fr:Nat)])) (h2:lk h.l c=some (.cells (D6 t.n t.V t.W t.V3 t.V4 t.S.L t.S.N t.S.P))) (h3:lk h.l d=some (.cells (N9 t.m t.S.A t.S.B t.S.C))) (h4:lk h.l e=some (.maps (t.E.map AK9))) :
  AU3 top Tryz.prog 0 h x (fun r' h'=>r'=r∧h'=⟨tabS t,5⟩):=by
 subst hc
 have hs:AG8 (rn [(0,a),(1,b),(2,c),(3,d),(4,e)]) h ⟨tabS t,5⟩:=fun i o hi=>by
  simp only [tabS,lk] at hi
  split at hi
  ·rename_i e;subst e;exact ⟨_,h0⟩
  ·split at hi
   ·rename_i e;subst e;exact ⟨_,h1⟩
   ·split at hi
    ·rename_i e;subst e;exact ⟨_,h2⟩
    ·split at hi
     ·rename_i e;subst e;exact ⟨_,h3⟩
     ·split at hi
      ·rename_i e;subst e;exact ⟨_,h4⟩
      ·cases hi
 refine AA0 [(0,a),(1,b),(2,c),(3,d),(4,e)] rfl (Nat.zero_le _) (P6 ?_) (hr hs) ?_ ⟨rfl,rfl⟩
 ·exact hd
 ·exact AL7 hs (show 0 < 5 by decide) h0 rfl (show 1 < 5 by decide) rfl (show 4 < 5 by decide)
   (I4 (show 1 < 5 by decide) h1 (C8 (AE9 rfl (show 2 < 5 by decide) rfl (Nat.le_refl _) (Nat.le_refl _)) (C8 (AE9 rfl (show 3 < 5 by decide) rfl (Nat.le_refl _) (Nat.le_refl _)) (C8 (K8 rfl) F8)))
   (F5 hs (show 2 < 5 by decide) h2 rfl G9 (F5 hs (show 3 < 5 by decide) h3 rfl I7 (AD6 hs (show 4 < 5 by decide) h4 rfl K3 J8))))
structure LocNT (f:Nat) (avs:List AV) (t:TS):Prop where
 out:AT8 Tryz.prog G0 f avs [] 0 fun x h=>x = .ptr 0 0∧h=⟨tabS t,5⟩
 pa:∀ x ∈ avs,Plain x
structure LocLT (f:Nat) (avs:List AV) (t:TS):Prop where
 out:AT8 Tryz.prog G0 f avs [] 0 fun x h=>x = .tup [.ptr 0 0,.int .i64 0]∧h=⟨tabS t,5⟩
 pa:∀ x ∈ avs,Plain x
def tabN (t:TS) (a b c d e:Nat):List (Nat × AObj):=[(a,.cells (tabC b e t.C)),(b,.cells [.sl c 0 t.n t.n 7,.sl d 0 t.m t.m 3,.int .i64 (t.S.fr:Nat)]),(c,.cells (D6 t.n t.V t.W t.V3 t.V4 t.S.L t.S.N t.S.P)),(d,.cells (N9 t.m t.S.A t.S.B t.S.C)),(e,.maps (t.E.map AK9))]
theorem AD9 {p:Nat→Nat→Prop} {i j i' j':Nat} {C:Nat→Nat} (h:p i i') (h':p j j'):RnL p (tabC i j C) (tabC i' j' C):=⟨F9 h,rn_map h',D5 V6⟩
theorem cx_NT {f nx:Nat} {avs:List AV} {t:TS} {l:List (Nat × AObj)} {K:AV→Hp→Prop} (hc:LocNT f avs t) (hk:K (.ptr nx 0) ⟨tabN t nx (nx+1) (nx+2) (nx+3) (nx+4)++l,nx+5⟩):AG9 Tryz.prog G0 (.fn f [] []) avs ⟨l,nx⟩ K:=by
 have k0:back [] nx 0 nx:=rfl
 have k1:back [] nx 1 (nx+1):=rfl
 have k2:back [] nx 2 (nx+2):=rfl
 have k3:back [] nx 3 (nx+3):=rfl
 have k4:back [] nx 4 (nx+4):=rfl
 refine AG2 (r':=.ptr nx 0) (l1:=tabN t nx (nx+1) (nx+2) (nx+3) (nx+4)) [] hc.out F3 rfl .nil (by simpa using D5 hc.pa) (by simp) (F9 k0)
  (.cons k0 (AD9 k1 k4) (.cons k1 ⟨W9 k2,W9 k3,C9 A8,trivial⟩ (.cons k2 R8 (.cons k3 Y1 (.maps k4 K3 .nil))))) (Af0 hk)
theorem cx_LT {f nx:Nat} {avs:List AV} {t:TS} {l:List (Nat × AObj)} {K:AV→Hp→Prop} (hc:LocLT f avs t) (hk:K (.tup [.ptr nx 0,.int .i64 0]) ⟨tabN t nx (nx+1) (nx+2) (nx+3) (nx+4)++l,nx+5⟩):AG9 Tryz.prog G0 (.fn f [] []) avs ⟨l,nx⟩ K:=by
 have k0:back [] nx 0 nx:=rfl
 have k1:back [] nx 1 (nx+1):=rfl
 have k2:back [] nx 2 (nx+2):=rfl
 have k3:back [] nx 3 (nx+3):=rfl
 have k4:back [] nx 4 (nx+4):=rfl
 refine AG2 (r':=.tup [.ptr nx 0,.int .i64 0]) (l1:=tabN t nx (nx+1) (nx+2) (nx+3) (nx+4)) [] hc.out F3 rfl .nil (by simpa using D5 hc.pa) (by simp) (BJ3 ⟨F9 k0,C9 A8,trivial⟩)
  (.cons k0 (AD9 k1 k4) (.cons k1 ⟨W9 k2,W9 k3,C9 A8,trivial⟩ (.cons k2 R8 (.cons k3 Y1 (.maps k4 K3 .nil))))) (Af0 hk)
set_option maxRecDepth 20000 in
theorem n_New:LocNT 99 [] T0:=by
 refine LocNT.mk (E8 D9 b99 rfl ?_) fun x hx=>by cases hx
 unfold c99
 (refine wx_Da ?_;repeat' (first|with_reducible refine And.intro ?_ ?_|intro hsp))
 exact end_newT 4 0 1 2 3 rfl (fun hs=>R4 rfl (by decide)) tab_0 rfl rfl rfl rfl rfl
section
variable {L:List Vw} {R:List Rw}
theorem chk_of {i:Int} (hs:srt L) (hl:L.length≤2000) (ho:∀ v ∈ L,v.1 < 64∧v.2.1 < 1024∧v.2.2.1 < 1024):ChkR (L.map rwV) 0 0:=by
 refine .ok (by rw [List.length_map];exact hl) (fun j hj=>?_) fun j hj=>?_
 ·rw [N8 hj,List.getElem_map]
  rw [List.length_map] at hj
  have:=ho _ (List.getElem_mem hj)
  generalize L[j]=v at *
  unfold okW rwV;dsimp only;omega
 ·rw [N8 (by omega),N8 hj,List.getElem_map,List.getElem_map]
  rw [List.length_map] at hj
  have:=List.pairwise_iff_getElem.1 hs j (j+1) (by omega) hj (by omega)
  generalize L[j]=v at *
  generalize L[j+1]=w at *
  unfold bef at this
  unfold BP5 rwV;dsimp only;omega
theorem l_Load (hs:srt L) (hl:L.length≤2000) (ho:∀ v ∈ L,v.1 < 64∧v.2.1 < 1024∧v.2.2.1 < 1024):∃ t,TOk L t∧LocLT 46 [.agg [.isl (L.map vwC)]] t:=by
 obtain ⟨T,hT0,hT,hS⟩:=chain (n:=L.length) (P:=fun k t=>TOk (L.take k) t) (S:=fun k t t'=>AA9 117 [.agg (vwC (nth dV L k))] t (.tup []) t') T0 (by rw [List.take_zero];exact tok_0) (fun k x hk hx=>by
  have hm:=AB6 (d:=dV) hk
  obtain ⟨t',h1,_,_,h2⟩:=t_put hx (ho _ hm) (BR3 hs hk) (by rw [List.length_take];omega)
  rw [insV_last hs hk] at h1
  exact ⟨t',h1,h2⟩)
 refine ⟨T L.length,by have:=hT _ (Nat.le_refl _);rwa [List.take_length] at this,LocLT.mk (E8 D9 b46 rfl ?_) fun x hx=>by obtain rfl:=List.mem_singleton.1 hx;exact G8⟩
 unfold c46
 have hc:=p_check (chk_of (i:=0) hs hl ho)
 rw [rw_map] at hc
 have hnew:=n_New
 rw [← hT0] at hnew
 (refine wx_Da ?_;repeat' (first|with_reducible refine And.intro ?_ ?_|intro hsp))
 (refine H9 [19,20] (fun (k:Nat)=>[(6,.ptr 0 0),(21,.int .i64 (k:Nat))]) (fun (k:Nat)=>⟨tabN (T k) 0 1 2 3 4,5⟩) (fun (k:Nat)=>k≤L.length) (fun (k:Nat)=>L.length - k) (0) [(0,1),(1,2),(2,3),(3,4),(4,5)] rfl (fun _=>by first|exact Nat.zero_le _|(dsimp only;omega)) ?_ (by ((try (conv=>whnf));exact V8)) ?_)
 ·exact Nat.zero_le _
 intro k hk
 by_cases hkl:k < L.length
 ·have hput:=hS k hkl
  generalize hx:nth dV L k=v at *
  (refine wx_Da ?_;repeat' (first|with_reducible refine And.intro ?_ ?_|intro hsp))
  all_goals exact D8 (k+1) [] (by (try dsimp only);omega) (by first|omega|(dsimp only;omega)) rfl (by exact V8)
 ·obtain rfl:k=L.length:=by omega
  (refine wx_Da ?_;repeat' (first|with_reducible refine And.intro ?_ ?_|intro hsp))
  exact Ao0 (fun hs=>AH0 (C8 (R4 rfl (show 0 < 5 by decide)) (C8 (K8 rfl) F8))) rfl rfl rfl rfl rfl
end
end Go.Proofs.YtphggldkligldaaGreat.Sh
namespace Go.Pol
open Go.Am
end Go.Pol
namespace Go.Proofs.YtphggldkligldaaGreat.Sh
open Go Go.Am Go.Pol
def natC (n:Nat):AV:=.int .i64 (n:Nat)
theorem AM9 {l:List Nat}:∀ x ∈ l.map natC,Plain x:=fun x hx=>by
 obtain ⟨n,_,rfl⟩:=List.mem_map.1 hx;exact A8
end Go.Proofs.YtphggldkligldaaGreat.Sh
namespace Go.Proofs.YtphggldkligldaaGreat.Sh
open Go Go.Am Go.Pol
end Go.Proofs.YtphggldkligldaaGreat.Sh
namespace Go.Pol
open Go.Am
def frs (L:List Vw):List Nat:=L.map (·.2.2.1)
end Go.Pol
namespace Go.Proofs.YtphggldkligldaaGreat.Sh
open Go Go.Am Go.Pol
theorem AI3 (n:Nat):∀ x ∈ [natC n],Plain x:=fun x hx=>by obtain rfl:=List.mem_singleton.1 hx;exact A8
def BH3 (n:Nat):List AV:=[natC n]
theorem AP3 (n:Nat):(BH3 n).length=1:=rfl
section
variable {L:List Vw} {R:List Rw}
def rdN (t:TS) (s:Sy) (a b c d e g:Nat):List (Nat × AObj):=[(a,.cells (tabC b e t.C)),(b,.cells [.sl c 0 t.n t.n 7,.sl d 0 t.m t.m 3,.int .i64 (t.S.fr:Nat)]),(c,.cells (D6 t.n t.V t.W t.V3 t.V4 t.S.L t.S.N t.S.P)),(d,.cells (N9 t.m t.S.A t.S.B t.S.C)),(e,.maps (t.E.map AK9)),(g,.cells s.a)]
end
end Go.Proofs.YtphggldkligldaaGreat.Sh
namespace Go.Am
section
variable {α:Type} {f:α→List AV} {L:List α} {d i:Nat} {r:List (Nat × AObj)}
theorem del_tS {k:List (Nat × AObj)→Prop} (h:BQ6 r d k):BQ6 (AE8 d f L++r) d k:=by
 by_cases hz:L.length=0
 ·rw [AT7 hz];exact h
 ·rw [AM8 hz];simp only [List.cons_append,List.nil_append,BQ6];rw [show Nat.beq d d=true by simp];exact h
theorem del_tO {k:List (Nat × AObj)→Prop} (hi:Nat.beq i d=false) (h:BQ6 r i fun r'=>k (AE8 d f L++r')):BQ6 (AE8 d f L++r) i k:=by
 by_cases hz:L.length=0
 ·rw [AT7 hz] at h ⊢;exact h
 ·rw [AM8 hz] at h ⊢;simp only [List.cons_append,List.nil_append,BQ6,hi] at h ⊢;exact h
theorem BE0 (hz:L.length=0):lk (AE8 d f L++r) i=lk r i:=by rw [AT7 hz];rfl
theorem lk_tA {r':List (Nat × AObj)} (h:i ≠ d):lk (r'++AE8 d f L) i=lk r' i:=by
 by_cases hz:L.length=0
 ·rw [AT7 hz,List.append_nil]
 ·rw [AM8 hz]
  induction r' with
  | nil=>simp [lk,h]
  | cons p r' ih=>obtain ⟨j,o⟩:=p;simp only [List.cons_append,lk];rw [ih]
theorem AS7 (h:i ≠ d):lk (AE8 d f L) i=none:=by
 have:=lk_tA (f:=f) (L:=L) (r':=[]) h
 exact this
theorem del_n {k:List (Nat × AObj)→Prop} (h:k []):BQ6 [] i k:=h
end
structure TlO (P:Program) (σ:Nat→Nat) (h h':Hp) (ks:List Nat) (tl:List (Nat × AObj)):Prop where
 key:∀ j o,lk tl j=some o→j ∈ ks
 sub:∀ j o,lk tl j=some o→∃ o',lk h.l (σ j)=some o'
 wko:AG8 σ h h'→WkO P σ h h' tl
section
variable {P:Program} {σ:Nat→Nat} {h h':Hp} {ks:List Nat} {r:List (Nat × AObj)} {α:Type} {f:α→List AV} {L:List α} {i n:Nat}
theorem tl_nil:TlO P σ h h' [] []:=⟨fun j o hj=>(by cases hj),fun j o hj=>(by cases hj),fun _=>J8⟩
theorem Aq1 (hp:∀ c,∀ x ∈ f c,Plain x) (h4:Nat.blt i h'.next=true) (h3:L.length ≠ 0→lk h.l (σ i)=some (.cells (flat f L))) (hr:TlO P σ h h' ks r):TlO P σ h h' (i::ks) (AE8 i f L++r):=by
 refine ⟨fun j o hj=>?_,fun j o hj=>?_,fun hs=>Ag7 (wko_own (Av4 h4) hp hs h3) (hr.wko hs)⟩
 ·rcases Al3 hj with hj|hj
  ·obtain ⟨rfl,_⟩:=AR1 hj;exact List.mem_cons_self ..
  ·exact List.mem_cons_of_mem _ (hr.key j o hj)
 ·rcases Al3 hj with hj|hj
  ·obtain ⟨rfl,hz⟩:=AR1 hj;exact ⟨_,h3 hz⟩
  ·exact hr.sub j o hj
theorem lk_keys:∀ {ks:List Nat} {j:Nat},j ∈ ks→∃ o,lk (ks.map fun k=>(k,AObj.cells [])) j=some o
 | k::ks,j,hj=>by
  simp only [List.map_cons,lk]
  by_cases e:j=k
  ·exact ⟨_,if_pos e⟩
  ·rw [if_neg e]
   rcases List.mem_cons.1 hj with e2|hj
   ·exact absurd e2 e
   ·exact lk_keys hj
theorem lk_up2 {tl:List (Nat × AObj)} (hk:∀ j o,lk tl j=some o→j ∈ ks) {j:Nat} {o:AObj}:∀ {l0:List (Nat × AObj)},lk (l0++tl) j=some o→∃ o',lk (l0++ks.map fun k=>(k,AObj.cells [])) j=some o'
 | [],hj=>lk_keys (hk j o hj)
 | (q,x)::l0,hj=>by
  simp only [List.cons_append,lk] at hj ⊢
  split
  ·exact ⟨_,rfl⟩
  ·rename_i e;rw [if_neg e] at hj;exact lk_up2 hk hj
theorem weak_t {ren:List (Nat × Nat)} {sf sf':SF} {l0 tl:List (Nat × AObj)} {nx:Nat} (h1:Aa8 ((l0.map fun p=>rn ren p.1)++ks.map (rn ren))=true) (h2:subB (rn ren) h.l l0=true) (ht:TlO P (rn ren) h ⟨l0++tl,nx⟩ ks tl)
  (hf:AG8 (rn ren) h ⟨l0++tl,nx⟩→WkF P (rn ren) h ⟨l0++tl,nx⟩ sf sf') (ho:AG8 (rn ren) h ⟨l0++tl,nx⟩→WkO P (rn ren) h ⟨l0++tl,nx⟩ l0):WeakX P ren n sf h sf' ⟨l0++tl,nx⟩:=by
 have hs:AG8 (rn ren) h ⟨l0++tl,nx⟩:=fun j o hj=>by
  rcases Al3 hj with hj|hj
  ·exact Aa4 (h:=h) (h':=⟨l0,nx⟩) h2 j o hj
  ·exact ht.sub j o hj
 have h5:BH0 (rn ren) (l0++ks.map fun k=>(k,AObj.cells [])):=P6 (by rw [List.map_append,List.map_map];exact h1)
 have h6:BH0 (rn ren) (l0++tl):=fun a b o o' ha hb e=>by
  obtain ⟨_,ha⟩:=lk_up2 ht.key ha
  obtain ⟨_,hb⟩:=lk_up2 ht.key hb
  exact h5 a b _ _ ha hb e
 exact ⟨Ap3 h6 (AL8 (o9 (hf hs))) (Ag7 (ho hs) (ht.wko hs))⟩
end
end Go.Am
namespace Go.Am
section
variable {P:Program} {G:Gl}
def oneMore (ns:List Nat) (id i j:Nat):Prop:=ns[i]? = some j∨(i=ns.length∧j=id)
theorem fnU_new {f:Nat} {args args0 cs cs':List AV} {r r':AV} {at_:At} {id:Nat} (ns:List Nat) (hc:AT8 P G f args0 [] ns.length fun x h1=>x=r∧h1=⟨[(ns.length,.cells cs)],ns.length+1⟩) (hGp:AX2 G) (hin:∀ n ∈ ns,∃ o,at_ n=some o)
  (ha:RnL (enter ns) args args0) (hr:RnV (oneMore ns id) r r') (hcs:RnL (oneMore ns id) cs cs'):FnU P G f args ns at_ r' [(id,some (.cells cs'))] id:=by
 refine ⟨hc.1,fun c vs hR hG hid hat hargs=>?_⟩
 let c0:Cx:={ U:=fun i=>i < ns.length,at_:=lk [],mu:=fun i=>c.mu (ns.getD i 0),w:=c.w,hid:=fun b=>c.hid b∨∃ id o,c.at_ id=some o∧(c.mu id).1=b }
 have getD_:∀ {j n},ns[j]? = some n→ns.getD j 0=n:=fun {j n} e=>by simp [List.getD_eq_getElem?_getD,e]
 have hlt':∀ {j n},ns[j]? = some n→j < ns.length:=fun {j n} e=>(List.getElem?_eq_some_iff.1 e).1
 have hcU:∀ {j n},ns[j]? = some n→c.U n:=fun {j n} e=>by
  have hm:=List.mem_of_getElem? e
  obtain ⟨o,ho⟩:=hin n hm
  exact hR.used _ _ ((hat n hm).trans ho)
 have sub0:Sub (enter ns) c c0 :=
  ⟨fun i j (hij:ns[j]? = some i) _=>⟨hlt' hij,by show c.mu (ns.getD j 0)=_;rw [getD_ hij]⟩,rfl,fun b hb=>⟨hb.1,fun j o ho=>(by cases ho),fun hh=>hh.elim hb.3 fun ⟨i,o,ho,e⟩=>hb.2 i o ho e⟩⟩
 have hR0:Rel P c0:=⟨fun j o ho=>(by cases ho),fun j j' o o' ho _ _=>(by cases ho),fun j o ho=>(by cases ho),⟨ns.length,fun i hi=>hi⟩,fun j o ho=>(by cases ho),fun b hb=>hb.elim (hR.hidlt b) fun ⟨i,o,ho,e⟩=>e▸(hR.obj i o ho).lt⟩
 have hG0:Aa1 G c0:=fun n cs hn=>C9 (AI2 (hGp n cs hn)) c c0 _ sub0 (hG n cs hn)
 have hm0:Mat c0 ⟨[],ns.length⟩:=⟨rfl,fun i=>Iff.rfl⟩
 have ha0:AK1 c0 args0 vs:=⟨by rw [hargs.1,ha.spec.1],ha.rcs sub0 hargs.2⟩
 refine (hc.2 c0 _ hR0 hG0 hm0 ha0).mono ?_
 rintro e w' ⟨v,rfl,x,h1,c2,rfl,⟨rfl,rfl⟩,hrv,hR2,hm2,he2⟩
 have hk2:c2.at_ ns.length=some (.cells cs):=by rw [hm2.at_];simp [lk]
 have hkU:c2.U ns.length:=hR2.used _ _ hk2
 have hnid:∀ {j},c.U j→j ≠ id:=fun h e=>hid (e▸h)
 let c':Cx:={ U:=fun i=>c.U i∨i=id,at_:=upd c.at_ [(id,some (.cells cs'))],mu:=fun i=>if i=id then c2.mu ns.length else c.mu i,w:=c2.w,hid:=c.hid }
 have muO:∀ {j},j ≠ id→c'.mu j=c.mu j:=fun h=>if_neg h
 have muI:c'.mu id=c2.mu ns.length:=if_pos rfl
 have spec1:∀ j o,c'.at_ j=some o→(j ≠ id∧c.at_ j=some o)∨(j=id∧o = .cells cs'):=fun j o ho=>by
  have ho':(if j=id then some (AObj.cells cs') else c.at_ j)=some o:=ho
  split at ho'
  ·rename_i e;cases ho';exact .inr ⟨e,rfl⟩
  ·rename_i e;exact .inl ⟨e,ho'⟩
 have hidO:∀ j o,c.at_ j=some o→c2.hid (c.mu j).1:=fun j o ho=>(he2.hid _).2 (.inr ⟨j,o,ho,rfl⟩)
 have hidC:∀ b,c.hid b→c2.hid b:=fun b hb=>(he2.hid b).2 (.inl hb)
 have hfroz:∀ b,c2.Froz b→c'.Froz b:=fun b hb=>by
  refine ⟨hb.1,fun j o ho=>?_,fun hh=>hb.3 (hidC b hh)⟩
  rcases spec1 j o ho with ⟨k1,k2⟩ | ⟨rfl,_⟩
  ·rw [muO k1];exact fun e=>hb.3 (e▸hidO j o k2)
  ·rw [muI];exact hb.2 _ _ hk2
 have sub1:Sub (oneMore ns id) c2 c':=by
  refine ⟨fun i j hij hi=>?_,rfl,hfroz⟩
  rcases hij with e | ⟨rfl,rfl⟩
  ·refine ⟨.inl (hcU e),?_⟩
   rw [muO (hnid (hcU e)),he2.mu i (hlt' e)]
   show c.mu j=c.mu (ns.getD i 0)
   rw [getD_ e]
  ·exact ⟨.inr rfl,muI⟩
 have he:Ext c c':=by
  refine ⟨fun i hi=>.inl hi,fun i hi=>muO (hnid hi),he2.csz,fun b hb=>?_,he2.size,fun _=>Iff.rfl,fun b hb=>he2.hidh b (.inl hb),he2.env⟩
  have k:=he2.froz b (sub0.froz b hb)
  exact ⟨hfroz b k.1,k.2⟩
 refine ⟨v,c',rfl,rfl,hr c2 c' v sub1 hrv,?_,he,rfl,fun i=>?_⟩
 ·refine ⟨fun j o ho=>?_,fun j j' o o' ho ho' e=>?_,fun j o ho=>?_,?_,fun j o ho hh=>?_,fun b hb=>Nat.lt_of_lt_of_le (hR.hidlt b hb) he2.size⟩
  ·rcases spec1 j o ho with ⟨k1,k2⟩ | ⟨rfl,_⟩
   ·exact .inl (hR.used j o k2)
   ·exact .inr rfl
  ·rcases spec1 j o ho with ⟨k1,k2⟩ | ⟨rfl,_⟩
   ·rcases spec1 j' o' ho' with ⟨k1',k2'⟩ | ⟨rfl,_⟩
    ·rw [muO k1,muO k1'] at e;exact hR.inj j j' _ _ k2 k2' e
    ·rw [muO k1,muI] at e;exact absurd (e▸hidO j o k2) (hR2.nohid _ _ hk2)
   ·rcases spec1 j' o' ho' with ⟨k1',k2'⟩ | ⟨rfl,_⟩
    ·rw [muO k1',muI] at e;exact absurd (e▸hidO j' o' k2') (hR2.nohid _ _ hk2)
    ·rfl
  ·rcases spec1 j o ho with ⟨k1,k2⟩ | ⟨rfl,rfl⟩
   ·rw [muO k1];exact (hR.obj j o k2).ext he (he2.hidh _ (.inr ⟨j,o,k2,rfl⟩))
   ·rw [muI]
    obtain ⟨a,T,q1,q2⟩:=hR2.obj _ _ hk2
    exact ⟨a,T,q1,hcs.rc1 sub1 q2⟩
  ·obtain ⟨N,hN⟩:=hR.many
   exact ⟨max N (id+1),fun i hi=>hi.elim (fun h=>Nat.lt_of_lt_of_le (hN i h) (Nat.le_max_left ..)) fun h=>by subst h;exact Nat.lt_of_lt_of_le (Nat.lt_succ_self _) (Nat.le_max_right ..)⟩
  ·rcases spec1 j o ho with ⟨k1,k2⟩ | ⟨rfl,_⟩
   ·rw [muO k1] at hh;exact hR.nohid j o k2 hh
   ·rw [muI] at hh;exact hR2.nohid _ _ hk2 (hidC _ hh)
 ·have : AE0 [(id,some (AObj.cells cs'))] id=[id]:=by simp [AE0]
  rw [this];simp;rfl
theorem dcx_new {f:Nat} {args args0 cs cs':List AV} {r r':AV} {h:Hp} {K:AV→Up→List Nat→Prop} (ns:List Nat) (hc:AT8 P G f args0 [] ns.length fun x h1=>x=r∧h1=⟨[(ns.length,.cells cs)],ns.length+1⟩) (hGp:AX2 G) (hin:∀ n ∈ ns,∃ o,lk h.l n=some o)
  (ha:RnL (enter ns) args args0) (hr:RnV (oneMore ns h.next) r r') (hcs:RnL (oneMore ns h.next) cs cs') (hk:K r' [(h.next,some (.cells cs'))] ns):AP8 P G f args h K:=⟨r',_,ns,fnU_new ns hc hGp hin ha hr hcs,hk⟩
end
theorem Ag1 {qa qb:Prop} {α:Type} {L:List α} {l:List (Nat × AObj)} {nx sz bytes d:Nat} {x:AV} {k:AV→Up→List Nat→Prop} (hq:R7 ((L.length=0→qa)∧(L.length ≠ 0→qb))) (h:R7 (L.length=0→qa)→R7 (L.length ≠ 0→qb)→AppX l nx sz bytes (AN9 d sz L.length) x k):AppX l nx sz bytes (AN9 d sz L.length) x k:=h ⟨hq.out.1⟩ ⟨hq.out.2⟩
end Go.Am
namespace Go.Pol
open Go.Am
end Go.Pol
namespace Go.Proofs.YtphggldkligldaaGreat.Sh
open Go Go.Am Go.Pol
def Ab7 (n:Int):List AV:=[.int .i64 n]
theorem AP6 (n:Int):(Ab7 n).length=1:=rfl
theorem AE4 (n:Int):∀ x ∈ Ab7 n,Plain x:=fun x hx=>by obtain rfl:=List.mem_singleton.1 hx;exact A8
theorem AF3 {l:List Int}:Plain (.isl (l.map Ab7)):=AD2 fun e he=>by
 obtain ⟨n,_,rfl⟩:=List.mem_map.1 he;exact AE4 n
theorem wk_frzI {σ:Nat→Nat} {h h':Hp} {d:Nat} {L:List Int} (hi:L.length ≠ 0→lk h.l d=some (.cells (flat Ab7 L))) (hi':∀ j o,lk h'.l j=some o→σ j ≠ d) (hs:AG8 σ h h'):WkV Tryz.prog σ h h' (AN9 d 1 L.length) (.isl (L.map Ab7)):=by
 by_cases hz:L.length=0
 ·rw [hz,BD1,List.eq_nil_of_length_eq_zero hz];exact AU4
 ·rw [AZ0 hz]
  refine Ac1 (hi hz) hi' hs (by simp) (fun e he=>?_) ?_ fun e he x hx=>?_
  ·obtain ⟨s,_,rfl⟩:=List.mem_map.1 he;rfl
  ·rw [List.drop_zero,List.take_of_length_le (by rw [I8 AP6];exact Nat.le_refl _)];rfl
  ·obtain ⟨s,_,rfl⟩:=List.mem_map.1 he;exact AE4 s x hx
structure LocTX (f:Nat) (avs:List AV) (t:TS) (s:Sy) (r:AV) (s':Sy):Prop where
 out:AT8 Tryz.prog G0 f (.ptr 0 0 :: .ptr 5 0::avs) (rdN t s 0 1 2 3 4 5) 6 fun x h1=>x=r∧h1=⟨rdN t s' 0 1 2 3 4 5,6⟩
 pa:∀ x ∈ avs,Plain x
 pr:Plain r
theorem end_TX {top:Bool} {h:Hp} {N0:Nat} {x r:AV} {t:TS} {s:Sy} (hr:AG8 (rn []) h ⟨rdN t s 0 1 2 3 4 5,6⟩→WkV Tryz.prog (rn []) h ⟨rdN t s 0 1 2 3 4 5,6⟩ x r) (h0:lk h.l 0=some (.cells (tabC 1 4 t.C))) (h1:lk h.l 1=some (.cells [.sl 2 0 t.n t.n 7,.sl 3 0 t.m t.m 3,.int .i64 (t.S.fr:Nat)])) (h2:lk h.l 2=some (.cells (D6 t.n t.V t.W t.V3 t.V4 t.S.L t.S.N t.S.P))) (h3:lk h.l 3=some (.cells (N9 t.m t.S.A t.S.B t.S.C))) (h4:lk h.l 4=some (.maps (t.E.map AK9))) (h5:lk h.l 5=some (.cells s.a)) (hN0:N0≤6:=by decide) :
  AU3 top Tryz.prog N0 h x (fun r' h'=>r'=r∧h'=⟨rdN t s 0 1 2 3 4 5,6⟩):=by
 have hs:AG8 (rn []) h ⟨rdN t s 0 1 2 3 4 5,6⟩:=fun i o hi=>by
  simp only [rdN,lk] at hi
  show ∃ o',lk h.l i=some o'
  split at hi
  ·rename_i e;subst e;exact ⟨_,h0⟩
  ·split at hi
   ·rename_i e;subst e;exact ⟨_,h1⟩
   ·split at hi
    ·rename_i e;subst e;exact ⟨_,h2⟩
    ·split at hi
     ·rename_i e;subst e;exact ⟨_,h3⟩
     ·split at hi
      ·rename_i e;subst e;exact ⟨_,h4⟩
      ·split at hi
       ·rename_i e;subst e;exact ⟨_,h5⟩
       ·cases hi
 refine AA0 [] rfl hN0 (P6 rfl) (hr hs) ?_ ⟨rfl,rfl⟩
 exact AL7 hs (show 0 < 6 by decide) h0 rfl (show 1 < 6 by decide) rfl (show 4 < 6 by decide)
  (I4 (show 1 < 6 by decide) h1 (C8 (AE9 rfl (show 2 < 6 by decide) rfl (Nat.le_refl _) (Nat.le_refl _)) (C8 (AE9 rfl (show 3 < 6 by decide) rfl (Nat.le_refl _) (Nat.le_refl _)) (C8 (K8 rfl) F8)))
  (F5 hs (show 2 < 6 by decide) h2 rfl G9 (F5 hs (show 3 < 6 by decide) h3 rfl I7 (AD6 hs (show 4 < 6 by decide) h4 rfl K3 (F5 hs (show 5 < 6 by decide) h5 rfl J4 J8)))))
theorem cx_tx {f:Nat} {avs:List AV} {t:TS} {s s':Sy} {a b c d e g nx:Nat} {l:List (Nat × AObj)} {r:AV} {K:AV→Hp→Prop} (hc:LocTX f avs t s r s')
  (h0:lk l a=some (.cells (tabC b e t.C))) (h1:lk l b=some (.cells [.sl c 0 t.n t.n 7,.sl d 0 t.m t.m 3,.int .i64 (t.S.fr:Nat)])) (h2:lk l c=some (.cells (D6 t.n t.V t.W t.V3 t.V4 t.S.L t.S.N t.S.P))) (h3:lk l d=some (.cells (N9 t.m t.S.A t.S.B t.S.C))) (h4:lk l e=some (.maps (t.E.map AK9))) (h5:lk l g=some (.cells s.a))
  (hlt:a < nx∧b < nx∧c < nx∧d < nx∧e < nx∧g < nx) (hd:Aa8 [a,b,c,d,e,g]=true)
  (hk:AJ5 [a,b,c,d,e,g] l fun l2=>K r ⟨rdN t s' a b c d e g++l2,nx⟩):AG9 Tryz.prog G0 (.fn f [] []) (.ptr a 0 :: .ptr g 0::avs) ⟨l,nx⟩ K:=by
 have e0:enter [a,b,c,d,e,g] a 0:=rfl
 have e1:enter [a,b,c,d,e,g] b 1:=rfl
 have e2:enter [a,b,c,d,e,g] c 2:=rfl
 have e3:enter [a,b,c,d,e,g] d 3:=rfl
 have e4:enter [a,b,c,d,e,g] e 4:=rfl
 have e5:enter [a,b,c,d,e,g] g 5:=rfl
 have k0:back [a,b,c,d,e,g] nx 0 a:=rfl
 have k1:back [a,b,c,d,e,g] nx 1 b:=rfl
 have k2:back [a,b,c,d,e,g] nx 2 c:=rfl
 have k3:back [a,b,c,d,e,g] nx 3 d:=rfl
 have k4:back [a,b,c,d,e,g] nx 4 e:=rfl
 have k5:back [a,b,c,d,e,g] nx 5 g:=rfl
 refine AG2 (l1:=rdN t s' a b c d e g) [a,b,c,d,e,g] hc.out F3 hd
  (.cons e0 h0 (AD9 e1 e4) (.cons e1 h1 ⟨W9 e2,W9 e3,C9 A8,trivial⟩ (.cons e2 h2 R8 (.cons e3 h3 Y1 (.maps e4 h4 K3 (.cons e5 h5 (D5 J4) .nil))))))
  ?_ (by intro x hx;simp only [List.mem_cons,List.not_mem_nil,or_false] at hx;omega) (C9 hc.pr)
  (.cons k0 (AD9 k1 k4) (.cons k1 ⟨W9 k2,W9 k3,C9 A8,trivial⟩ (.cons k2 R8 (.cons k3 Y1 (.maps k4 K3 (.cons k5 (D5 J4) .nil)))))) hk
 simp only [List.nil_append,List.append_nil]
 exact ⟨F9 e0,F9 e5,D5 hc.pa⟩
section
variable {L:List Vw} {t:TS} {s:Sy} {v:Vw} {fs:List Nat}
end
end Go.Proofs.YtphggldkligldaaGreat.Sh
