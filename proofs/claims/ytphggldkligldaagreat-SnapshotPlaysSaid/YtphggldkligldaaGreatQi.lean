/-
 The document's book: numbers,count,take,give,Map,Unmap,Take,Drop,Read,Revert.
 The document's book: Unmap,Take,Drop,Read,Revert,Write.
-/
import Derived.Test.YtphggldkligldaaGreatQh
import Derived.Test.YtphggldkligldaaGreatSnI
set_option linter.unusedSimpArgs false
set_option linter.unusedVariables false
set_option maxHeartbeats 1600000
namespace Go.Pol
open Go.Am
def tkD (a n:Nat) (L:List Vw) (s:Sy):Int × Nat × Sy:=match BN4 L a n with
 | none=>(5,0,s)
 | some f=>if s.K f=2 then (0,f,s) else ((s.chg (f:Nat) 1 1 2 2).1,f,(s.chg (f:Nat) 1 1 2 2).2)
structure TkD (a n:Nat) (L:List Vw) (s:Sy) (r:Int × Nat × Sy):Prop where
 good:GoodS r.2.2
 up:∀ p,s.K p=2→r.2.2.K p=2
 old:∀ p,0 < cntF L p→r.2.2.B p=s.B p
 got:r.1=0→a≤r.2.1∧r.2.1 < a+n∧cntF L r.2.1=0∧r.2.2.K r.2.1=2
 eq:∀ x,tkP a n L s x=if r.1=0 then (0,r.2.1,r.2.2.page r.2.1 x) else (r.1,0,r.2.2)
theorem tkd_spec {a n:Nat} {L:List Vw} {s:Sy} (hg:GoodS s) (han:a+n≤1024) (hk:∀ f,a≤f→f < a+n→(s.K f=1∨s.K f=2)∧s.M f=false):TkD a n L s (tkD a n L s):=by
 unfold tkD
 cases hf:BN4 L a n with
 | none=>exact ⟨hg,fun p h=>h,fun p _=>rfl,fun h=>absurd h (by decide:¬ (5:Int)=0),fun x=>by unfold tkP;rw [hf];exact (if_neg (by decide:¬ (5:Int)=0)).symm⟩
 | some f =>
  obtain ⟨h1,h2,h3⟩:=BN3 hf
  obtain ⟨hkf,hmf⟩:=hk f h1 h2
  dsimp only
  by_cases k2:s.K f=2
  ·rw [if_pos k2]
   refine ⟨hg,fun p h=>h,fun p _=>rfl,fun _=>⟨h1,h2,h3,k2⟩,fun x=>?_⟩
   unfold tkP
   rw [hf]
   dsimp only
   rw [if_neg (by omega),if_pos rfl]
  ·rw [if_neg k2]
   have k1:s.K f=1:=hkf.resolve_right k2
   have hgc:GoodS (s.chg (f:Nat) 1 1 2 2).2:=Ae6 hg (by decide)
   have hce:=chg_err (s:=s) (f:=f) (by omega) k1 hmf
   have hc1:=Av2 (s:=s) (f:=f) (v:=1) (w:=2) (k:=2) (by omega) k1 hmf
   refine ⟨hgc,fun p h=>?_,fun p hp=>?_,fun h=>⟨h1,h2,h3,hce h⟩,fun x=>?_⟩
   ·show (s.chg (f:Nat) 1 1 2 2).2.K p=2
    rw [hc1];split
    ·exact h
    ·rw [AU7];split
     ·rfl
     ·exact h
   ·show (s.chg (f:Nat) 1 1 2 2).2.B p=s.B p
    rw [hc1];split
    ·rfl
    ·rw [BI5,if_neg fun e=>by rw [e] at hp;omega]
   ·unfold tkP
    rw [hf]
    dsimp only
    rw [if_pos k1]
end Go.Pol
namespace Go.Proofs.YtphggldkligldaaGreat.Sh
open Go Go.Am Go.Pol
theorem plx_Pb {p:Prop} (h:p:=by ((first|exact plw|(with_reducible first|apply O4|apply M5|apply J3|apply u6|apply z8|fail)|fail);first|done|fail)):p:=h
theorem ppx_Pb {p:Prop} (h:p:=by ((first|with_reducible assumption|(with_reducible first|apply G9|apply I7|apply V6|apply T9 _ _|apply X9|apply AM9|apply J4|apply H8|fail)|exact ppw|fail);first|done|fail)):p:=h
open Go.Proofs.YtphggldkligldaaGreat.Sh renaming plx_Pb → plx
open Go.Proofs.YtphggldkligldaaGreat.Sh renaming ppx_Pb → ppx
theorem wx_Pb {p q:Prop} (hq:q) (h:R7 q→p:=by (intro hQz;((repeat' ((try (conv=>whnf));first|refine sxA ?_|refine sxF ?_|refine G7 h ?_|refine BQ7 hcn rfl rfl (by decide) rfl ?_|refine K5 hck rfl (by decide) ?_|refine K5 hcm rfl (by decide) ?_|refine G7 (by assumption) ?_|refine BQ7 htk rfl rfl (by decide) rfl ?_|refine K5 w1 rfl (by decide) ?_|refine sxH ?_|((with_reducible first|apply L8 hQz|apply L9 hQz)<;>(try intro hsp hQz))|exact hQz.out))<;>(try (conv=>whnf))))):p:=h ⟨hq⟩
theorem wx_Pbn {p q:Prop} (hq:q) (h:R7 q→p:=by (intro hQz;((repeat' ((try (conv=>whnf));first|refine sxA ?_|refine Z9 (d:=0) AP3 (by first|assumption|omega) (by with_reducible assumption) ?_|refine sxN ?_|refine K5 c1 rfl (by decide) ?_|refine Y6 c1 rfl rfl ?_|refine sxH ?_|((with_reducible first|apply L8 hQz|apply L9 hQz)<;>(try intro hsp hQz))|exact hQz.out))<;>(try (conv=>whnf))))):p:=h ⟨hq⟩
theorem As8 (a k:Int):E5 56 [.int .i64 a,.int .i64 k] (.bool (decide (inR 64 a∧inR 1024 k))):=by
 refine E5.mk (I5 D9 b56 F3 ⟨A8,A8,trivial⟩ A9 rfl ?_)
 unfold c56
 (refine wx_Pb ?_;repeat' (first|with_reducible refine And.intro ?_ ?_|intro hsp))
 all_goals exact J7 (by first|exact (decide_eq_false fun h:inR 64 a∧inR 1024 k=>by obtain ⟨⟨h1,h2⟩,h3,h4⟩:=h;omega).symm|exact decide_eq_decide.2 ⟨fun h=>⟨⟨by omega,by omega⟩,by omega,by omega⟩,fun h=>by obtain ⟨⟨h1,h2⟩,h3,h4⟩:=h;omega⟩)
theorem As9 (a:Int):E5 56 [.int .i64 a,.int .i64 0] (.bool (decide (inR 64 a))):=by
 have h:=As8 a 0
 rwa [show decide (inR 64 a∧inR 1024 0)=decide (inR 64 a) from decide_eq_decide.2 ⟨fun h=>h.1,fun h=>⟨h,by decide,by decide⟩⟩] at h
section
variable {q:Bk}
theorem BX0 (hg:K6 q) {f:Nat} (hf:f < 1024):AK3 62 [.int .i64 (f:Nat)] q (.int .i64 (cntF q.L f:Nat)) q:=by
 have h:=v_Count hf hg.len
 refine AK3.mk (E8 D9 b62 rfl ?_) (fun x hx=>by obtain rfl:=List.mem_singleton.1 hx;exact A8) A8
 unfold c62
 unfold bdN
 (refine wx_Pb ?_;repeat' (first|with_reducible refine And.intro ?_ ?_|intro hsp))
 all_goals exact AB4 rfl A8 rfl rfl
theorem d_take (hg:K6 q):AK3 58 [] q (.tup [.int .i64 ((tkD q.a q.n q.L q.s).2.1:Nat),.int .i64 (tkD q.a q.n q.L q.s).1]) { q with s:=(tkD q.a q.n q.L q.s).2.2 }:=by
 have hrng:=hg.rng
 refine AK3.mk (E8 D9 b58 rfl ?_) (fun x hx=>by cases hx) J6
 unfold c58
 unfold bdN
 (refine wx_Pb ?_;repeat' (first|with_reducible refine And.intro ?_ ?_|intro hsp))
 (refine H9 [0] (fun (i:Nat)=>[(4,.int .i64 ((q.a+i:Nat):Int))]) (fun (i:Nat)=>⟨bdN q 0 1,2⟩) (fun (i:Nat)=>i≤q.n∧∀ j,j < i→0 < cntF q.L (q.a+j)) (fun (i:Nat)=>q.n - i) (0) [] rfl (fun _=>by first|exact Nat.zero_le _|(dsimp only;omega)) ?_ (by ((try (conv=>whnf));exact V8)) ?_)
 ·exact ⟨Nat.zero_le _,fun j hj=>absurd hj (Nat.not_lt_zero _)⟩
 intro i hi
 obtain ⟨hi,hall⟩:=hi
 unfold bdN
 by_cases hil:i < q.n
 ·have hkd:=hg.kind (q.a+i) (by omega) (by omega)
  have hcn:=BX0 hg (f:=q.a+i) (by omega)
  by_cases hc:0 < cntF q.L (q.a+i)
  ·have hnext:i+1≤q.n∧∀ j,j < i+1→0 < cntF q.L (q.a+j):=⟨hil,fun j hj=>by
    by_cases e:j=i
    ·rw [e];exact hc
    ·exact hall j (by omega)⟩
   generalize cntF q.L (q.a+i)=n at *
   (refine wx_Pb ?_;repeat' (first|with_reducible refine And.intro ?_ ?_|intro hsp))
   all_goals first|(exfalso;omega)|exact D8 (i+1) [] hnext (by first|omega|(dsimp only;omega)) rfl (by exact V8)
  ·have hc0:cntF q.L (q.a+i)=0:=by omega
   have hfr:=free_at hil hall hc0
   have hck:=q_kind (s:=q.s) (a:=((q.a+i:Nat):Int))
   rw [As6 (by omega) hkd.2] at hck
   have hcm:=q_commit (a:=((q.a+i:Nat):Int)) (n:=1) hg.good
   have hf4:q.a+i < 1024:=by omega
   have hfn:q.a+i < q.a+q.n:=by omega
   unfold tkD
   rw [hfr]
   dsimp only
   rw [hc0] at hcn
   have hkk:=hkd.1
   generalize q.a+i=f at *
   generalize q.s.chg (f:Int) 1 1 2 2=r at *
   by_cases hk2:q.s.K f=2
   ·rw [if_pos hk2]
    rw [hk2] at hck
    (refine wx_Pb ?_;repeat' (first|with_reducible refine And.intro ?_ ?_|intro hsp))
    all_goals first|exact AB4 rfl J6 rfl rfl|(exfalso;omega)
   ·rw [if_neg hk2]
    rw [hkk.resolve_right hk2] at hck
    (refine wx_Pb ?_;repeat' (first|with_reducible refine And.intro ?_ ?_|intro hsp))
    all_goals first|exact AB4 (q:=⟨q.a,q.n,q.L,r.2⟩) rfl J6 rfl rfl|(exfalso;omega)
 ·obtain rfl:i=q.n:=by omega
  have hfr:=free_not hall
  unfold tkD
  rw [hfr]
  dsimp only
  (refine wx_Pb ?_;repeat' (first|with_reducible refine And.intro ?_ ?_|intro hsp))
  all_goals exact AB4 rfl J6 rfl rfl
theorem d_give (hg:GoodS q.s) {G:List Nat} (hG:G.length≤4000):AK3 156 [.isl (G.map BH3)] q (.tup []) { q with s:=AI4 q.s G }:=by
 refine AK3.mk (E8 D9 b156 rfl ?_) (fun x hx=>by obtain rfl:=List.mem_singleton.1 hx;exact z8) P5
 unfold c156
 unfold bdN
 (refine wx_Pb ?_;repeat' (first|with_reducible refine And.intro ?_ ?_|intro hsp))
 (refine H9 [0,1] (fun (i:Nat)=>[(4,.int .i64 (i:Nat))]) (fun (i:Nat)=>⟨bdN ⟨q.a,q.n,q.L,AI4 q.s (G.take i)⟩ 0 1,2⟩) (fun (i:Nat)=>i≤G.length) (fun (i:Nat)=>G.length - i) (0) [] rfl (fun _=>by first|exact Nat.zero_le _|(dsimp only;omega)) ?_ (by ((try (conv=>whnf));exact V8)) ?_)
 ·exact Nat.zero_le _
 intro i hi
 unfold bdN
 dsimp only
 by_cases hil:i < G.length
 ·have c1:=Ay2 (a:=(nth 0 G i:Nat)) (n:=1) (BF0 hg G i hi)
  rw [← giv_s hil] at c1
  generalize hx:nth 0 G i=f at *
  (refine wx_Pbn ?_;repeat' (first|with_reducible refine And.intro ?_ ?_|intro hsp))
  all_goals exact D8 (i+1) [] (by (try dsimp only);omega) (by first|omega|(dsimp only;omega)) rfl (by exact V8)
 ·obtain rfl:i=G.length:=by omega
  rw [List.take_length]
  (refine wx_Pb ?_;repeat' (first|with_reducible refine And.intro ?_ ?_|intro hsp))
  all_goals exact AB4 (q:=⟨q.a,q.n,q.L,AI4 q.s G⟩) rfl P5 rfl rfl
theorem d_Map (hg:K6 q) (x k:Int):AK3 19 [.int .i64 x,.int .i64 k] q (.int .i64 (q.map x k).1) (q.map x k).2:=by
 have hnm:=As8 x k
 have hlen:=hg.len
 unfold Bk.map
 by_cases hin:inR 64 x∧inR 1024 k
 ·rw [if_neg (by rw [Classical.not_not];exact hin)]
  rw [decide_eq_true hin] at hnm
  cases hf:AO1 q.L x.toNat k.toNat with
  | some v =>
   have hfi:=v_Find hg.sr hin hlen hf
   unfold stA at hfi
   rw [if_pos (by rfl)]
   refine AK3.mk (E8 D9 b19 rfl ?_) H6 A8
   unfold c19
   unfold bdN
   (refine wx_Pb ?_;repeat' (first|with_reducible refine And.intro ?_ ?_|intro hsp))
   all_goals first|exact AB4 rfl A8 rfl rfl|(exfalso;omega)
  | none =>
   have hfi:=Aa3 hin hlen hf
   unfold stA at hfi
   rw [if_neg (by simp)]
   by_cases hl:2000≤q.L.length
   ·rw [if_pos hl]
    refine AK3.mk (E8 D9 b19 rfl ?_) H6 A8
    unfold c19
    unfold bdN
    (refine wx_Pb ?_;repeat' (first|with_reducible refine And.intro ?_ ?_|intro hsp))
    all_goals first|exact AB4 rfl A8 rfl rfl|(exfalso;omega)
   ·rw [if_neg hl]
    have htk:=d_take hg
    have tk:=tkd_spec (L:=q.L) hg.good hg.rng.2 hg.kind
    rw [tk.eq]
    generalize hr:tkD q.a q.n q.L q.s=r at *
    obtain ⟨e,f,s1⟩:=r
    dsimp only at *
    by_cases he:e=0
    ·rw [if_pos he,if_pos rfl]
     subst he
     have hgot:=tk.got rfl
     have hgs:=tk.good
     dsimp only at hgot hgs
     have hf4:f < 1024:=by have:=hgot.2.1;have:=hg.rng.2;omega
     have hmp:=v_Map hin hf4 hf (by omega)
     unfold stA at hmp
     refine AK3.mk (E8 D9 b19 rfl ?_) H6 A8
     unfold c19
     unfold bdN
     (refine wx_Pb ?_;repeat' (first|with_reducible refine And.intro ?_ ?_|intro hsp))
     all_goals first|(exfalso;omega)|skip
     have hw0:=wrK_0 (s:=s1) (f:=f) (x:=fun _=>0)
     (refine H9 [0,1,2,9] (fun (j:Nat)=>[(10,.int .i64 (j:Nat))]) (fun (j:Nat)=>⟨bdN ⟨q.a,q.n,q.L,wrK s1 f (fun _=>0) j⟩ 0 1,2⟩) (fun (j:Nat)=>j≤64) (fun (j:Nat)=>64 - j) (0) [] rfl (fun _=>by first|exact Nat.zero_le _|(dsimp only;omega)) ?_ (by ((try (conv=>whnf));(rw [hw0]);exact V8)) ?_)
     ·exact Nat.zero_le _
     intro j hj
     unfold bdN
     dsimp only
     by_cases hjl:j < 64
     ·have w1:=BT2 (s:=wrK s1 f (fun _=>0) j) (a:=(f:Int) * 64+(j:Nat)) (b:=0)
      rw [wrK_s hgot.2.2.2 hf4 hjl] at w1
      dsimp only at w1
      (refine wx_Pb ?_;repeat' (first|with_reducible refine And.intro ?_ ?_|intro hsp))
      all_goals first|(exfalso;omega)|exact D8 (j+1) [] (by (try dsimp only);omega) (by first|omega|(dsimp only;omega)) rfl (by exact V8)
     ·obtain rfl:j=64:=by omega
      rw [BB2 hgs]
      (refine wx_Pb ?_;repeat' (first|with_reducible refine And.intro ?_ ?_|intro hsp))
      all_goals first|exact AB4 (q:=⟨q.a,q.n,AZ2 (x.toNat,k.toNat,f,true) q.L,s1.page f fun _=>0⟩) rfl A8 rfl rfl|(exfalso;omega)
    ·rw [if_neg he,if_neg he]
     refine AK3.mk (E8 D9 b19 rfl ?_) H6 A8
     unfold c19
     unfold bdN
     (refine wx_Pb ?_;repeat' (first|with_reducible refine And.intro ?_ ?_|intro hsp))
     all_goals first|exact AB4 (q:=⟨q.a,q.n,q.L,s1⟩) rfl A8 rfl rfl|(exfalso;omega)
 ·rw [if_pos hin]
  rw [decide_eq_false hin] at hnm
  refine AK3.mk (E8 D9 b19 rfl ?_) H6 A8
  unfold c19
  unfold bdN
  (refine wx_Pb ?_;repeat' (first|with_reducible refine And.intro ?_ ?_|intro hsp))
  all_goals first|exact AB4 rfl A8 rfl rfl|(exfalso;omega)
end
end Go.Proofs.YtphggldkligldaaGreat.Sh
namespace Go.Proofs.YtphggldkligldaaGreat.Sh
open Go Go.Am Go.Pol
open Go.Proofs.YtphggldkligldaaGreat.Sh renaming plx_Pb → plx
open Go.Proofs.YtphggldkligldaaGreat.Sh renaming ppx_Pb → ppx
theorem wx_Pc {p q:Prop} (hq:q) (h:R7 q→p:=by (intro hQz;((repeat' ((try (conv=>whnf));first|refine sxA ?_|refine sxF ?_|refine G7 (by assumption) ?_|refine BQ7 hgv rfl rfl (by decide) rfl ?_|refine J5 (by assumption) ?_|refine L6 (by assumption) ?_|(refine O6 D9 b156 rfl ?_;unfold c156)|refine sxH ?_|((with_reducible first|apply L8 hQz|apply L9 hQz)<;>(try intro hsp hQz))|exact hQz.out))<;>(try (conv=>whnf))))):p:=h ⟨hq⟩
theorem wx_Pcn {p q:Prop} (hq:q) (h:R7 q→p:=by (intro hQz;((repeat' ((try (conv=>whnf));first|refine sxA ?_|refine sxN ?_|refine K5 hdc rfl (by decide) ?_|refine Y6 hdc rfl rfl ?_|refine cx_u h1 rfl (by decide) ?_|refine dcx_u h1 rfl rfl ?_|refine sxH ?_|((with_reducible first|apply L8 hQz|apply L9 hQz)<;>(try intro hsp hQz))|exact hQz.out))<;>(try (conv=>whnf))))):p:=h ⟨hq⟩
section
variable {q:Bk}
theorem d_Unmap (hg:K6 q) (x k:Int):AK3 102 [.int .i64 x,.int .i64 k] q (.int .i64 (q.unmap x k).1) (q.unmap x k).2:=by
 have hnm:=As8 x k
 have hlen:=hg.len
 unfold Bk.unmap
 by_cases hin:inR 64 x∧inR 1024 k
 ·rw [if_neg (by rw [Classical.not_not];exact hin)]
  rw [decide_eq_true hin] at hnm
  cases hf:AO1 q.L x.toNat k.toNat with
  | none =>
   have hfi:=BI0 hin hlen hf
   unfold stA at hfi
   refine AK3.mk (E8 D9 b102 rfl ?_) H6 A8
   unfold c102
   unfold bdN
   (refine wx_Pc ?_;repeat' (first|with_reducible refine And.intro ?_ ?_|intro hsp))
   all_goals first|exact AB4 rfl A8 rfl rfl|(exfalso;omega)
  | some v =>
   have hfi:=v_Unmap hg.sr hin hlen hf
   unfold stA at hfi
   have hdc:=Ay2 (a:=(v.2.2.1:Nat)) (n:=1) hg.good
   rw [show (q.s.chg ((v.2.2.1:Nat):Int) 1 2 1 3).2=AI4 q.s [v.2.2.1] from rfl] at hdc
   refine AK3.mk (E8 D9 b102 rfl ?_) H6 A8
   unfold c102
   unfold bdN
   dsimp only
   generalize v.2.2.1=f at *
   generalize Aw4 q.L x.toNat k.toNat=L1 at *
   by_cases hc:cntF L1 f=0
   ·rw [if_pos hc]
    rw [hc] at hfi
    have hz:AI4 q.s (if 0=0 then [] else [f])=q.s:=rfl
    (refine wx_Pc ?_;repeat' (first|with_reducible refine And.intro ?_ ?_|intro hsp))
    (refine H9 [0,1] (fun (i:Nat)=>[(4,.int .i64 (i:Nat))]) (fun (i:Nat)=>⟨bdN ⟨q.a,q.n,L1,AI4 q.s (if i=0 then [] else [f])⟩ 0 1++[(3,.cells [.int .i64 (f:Nat)])],4⟩) (fun (i:Nat)=>i≤1) (fun (i:Nat)=>1 - i) (0) [] rfl (fun _=>by first|exact Nat.zero_le _|(dsimp only;omega)) ?_ (by ((try (conv=>whnf));(rw [hz]);exact V8)) ?_)
    ·exact Nat.zero_le _
    intro i hi1
    rcases (show i=0∨i=1 by omega) with rfl|rfl
    ·unfold bdN
     dsimp only
     rw [hz]
     have hz1:AI4 q.s (if 1=0 then [] else [f])=AI4 q.s [f]:=rfl
     (refine wx_Pcn ?_;repeat' (first|with_reducible refine And.intro ?_ ?_|intro hsp))
     all_goals exact D8 (1) [] (by (try dsimp only);omega) (by first|omega|(dsimp only;omega)) rfl (by ((try dsimp only);rw [hz1]);exact V8)
    ·unfold bdN
     dsimp only
     rw [show AI4 q.s (if 1=0 then [] else [f])=AI4 q.s [f] from rfl]
     (refine wx_Pc ?_;repeat' (first|with_reducible refine And.intro ?_ ?_|intro hsp))
     all_goals first|exact AB4 (q:=⟨q.a,q.n,L1,AI4 q.s [f]⟩) rfl A8 rfl rfl|(exfalso;omega)
   ·rw [if_neg hc]
    generalize cntF L1 f=n at *
    (refine wx_Pc ?_;repeat' (first|with_reducible refine And.intro ?_ ?_|intro hsp))
    all_goals first|exact AB4 (q:=⟨q.a,q.n,L1,q.s⟩) rfl A8 rfl rfl|(exfalso;omega)
 ·rw [if_pos hin]
  rw [decide_eq_false hin] at hnm
  refine AK3.mk (E8 D9 b102 rfl ?_) H6 A8
  unfold c102
  unfold bdN
  (refine wx_Pc ?_;repeat' (first|with_reducible refine And.intro ?_ ?_|intro hsp))
  all_goals first|exact AB4 rfl A8 rfl rfl|(exfalso;omega)
theorem d_Take (hg:K6 q) (x y:Int):AK3 20 [.int .i64 x,.int .i64 y] q (.tup [.int .i64 (q.take x y).1,.int .i64 (q.take x y).2.1]) (q.take x y).2.2:=by
 have hfk:=v_Fork hg.sr hg.len x y
 have hd:(q.take x y).2.1 ≠ 0→(q.take x y).2.2.L=q.L:=fun h=>by
  unfold Bk.take at h ⊢
  by_cases e1:¬ (inR 64 x∧inR 64 y)
  ·rw [if_pos e1]
  ·rw [if_neg e1] at h ⊢
   by_cases e2:x=y
   ·rw [if_pos e2]
   ·rw [if_neg e2] at h ⊢
    by_cases e3:(ofA y.toNat q.L).length ≠ 0
    ·rw [if_pos e3]
    ·rw [if_neg e3] at h ⊢
     by_cases e4:2000 < q.L.length+(ofA x.toNat q.L).length
     ·rw [if_pos e4]
     ·rw [if_neg e4] at h;exact absurd rfl h
 have ha:(q.take x y).2.2.a=q.a∧(q.take x y).2.2.n=q.n∧(q.take x y).2.2.s=q.s:=by unfold Bk.take;(repeat' split)<;>exact ⟨rfl,rfl,rfl⟩
 refine AK3.mk (E8 D9 b20 rfl ?_) H6 J6
 unfold c20
 unfold bdN
 rw [ha.1,ha.2.1,ha.2.2]
 generalize q.take x y=r at *
 obtain ⟨n,e,ra,rn,rL,rs⟩:=r
 unfold stA at hfk
 dsimp only at *
 by_cases he:e=0
 ·subst he
  (refine wx_Pc ?_;repeat' (first|with_reducible refine And.intro ?_ ?_|intro hsp))
  all_goals first|exact AB4 (q:=⟨q.a,q.n,rL,q.s⟩) rfl J6 rfl rfl|(exfalso;omega)
 ·have hd:=hd he
  subst hd
  (refine wx_Pc ?_;repeat' (first|with_reducible refine And.intro ?_ ?_|intro hsp))
  all_goals first|exact AB4 (q:=⟨q.a,q.n,q.L,q.s⟩) rfl J6 rfl rfl|(exfalso;omega)
theorem d_Drop (hg:K6 q) (x:Int):AK3 103 [.int .i64 x] q (.tup [.int .i64 (q.drop x).1,.int .i64 (q.drop x).2.1]) (q.drop x).2.2:=by
 have hlen:=hg.len
 unfold Bk.drop
 by_cases hin:inR 64 x
 ·rw [if_neg (by rw [Classical.not_not];exact hin)]
  obtain ⟨x',rfl,hx⟩:=AH3 hin
  rw [Int.toNat_natCast]
  have hd:=q_Drop (L:=q.L) (a:=x') (by omega) hlen
  have hgv:=d_give (q:=⟨q.a,q.n,noA x' q.L,q.s⟩) hg.good (G:=AF7 q.L x') Ab1
  have hle:=Ab1 (L:=q.L) (a:=x')
  refine AK3.mk (E8 D9 b103 rfl ?_) AP2 J6
  unfold c103
  unfold bdN
  generalize AF7 q.L x'=G at *
  dsimp only at hgv ⊢
  (refine wx_Pc ?_;repeat' (first|with_reducible refine And.intro ?_ ?_|intro hsp))
  all_goals first|exact AB4 (q:=⟨q.a,q.n,noA x' q.L,AI4 q.s G⟩) (by simp) J6 rfl rfl|(exfalso;omega)
 ·rw [if_pos hin]
  have hd:=q_Drop_no (L:=q.L) x hin
  refine AK3.mk (E8 D9 b103 rfl ?_) AP2 J6
  unfold c103
  unfold bdN
  (refine wx_Pc ?_;repeat' (first|with_reducible refine And.intro ?_ ?_|intro hsp))
  all_goals first|exact AB4 rfl J6 rfl rfl|(exfalso;omega)
theorem d_Read (hg:K6 q) (x a:Int):AK3 105 [.int .i64 x,.int .i64 a] q (.tup [.int .u8 (q.read x a).1,.int .i64 (q.read x a).2]) q:=by
 have h1:=v_Read hg.sr hg.len hg.ok x a
 refine AK3.mk (E8 D9 b105 rfl ?_) H6 R6
 unfold c105
 unfold bdN
 generalize q.read x a=r at *
 (refine wx_Pcn ?_;repeat' (first|with_reducible refine And.intro ?_ ?_|intro hsp))
 all_goals exact AB4 rfl R6 rfl rfl
theorem d_Revert (hg:K6 q) (x y:Int):AK3 104 [.int .i64 x,.int .i64 y] q (.tup [.int .i64 (q.revert x y).1,.int .i64 (q.revert x y).2.1]) (q.revert x y).2.2:=by
 have hs1:=As9 x
 have hs2:=As9 y
 have hlen:=hg.len
 unfold Bk.revert
 by_cases hin:inR 64 x∧inR 64 y
 ·rw [if_neg (by rw [Classical.not_not];exact hin)]
  rw [decide_eq_true hin.1] at hs1
  rw [decide_eq_true hin.2] at hs2
  obtain ⟨x',rfl,hx⟩:=AH3 hin.1
  obtain ⟨y',rfl,hy⟩:=AH3 hin.2
  rw [Int.toNat_natCast,Int.toNat_natCast]
  by_cases hxy:x'=y'
  ·rw [if_pos (by omega)]
   refine AK3.mk (E8 D9 b104 rfl ?_) H6 J6
   unfold c104
   unfold bdN
   (refine wx_Pc ?_;repeat' (first|with_reducible refine And.intro ?_ ?_|intro hsp))
   all_goals first|exact AB4 rfl J6 rfl rfl|(exfalso;omega)
  ·rw [if_neg (by omega)]
   have hxl:(ofA x' q.L).length≤q.L.length:=List.length_filter_le ..
   have hyl:(ofA y' q.L).length≤q.L.length:=List.length_filter_le ..
   have o1:=q_of (L:=q.L) (x':Nat) (by omega)
   have o2:=q_of (L:=q.L) (y':Nat) (by omega)
   rw [BT9] at o1 o2
   have l1:((ofA x' q.L).map vwC).length=(ofA x' q.L).length:=List.length_map ..
   have l2:((ofA y' q.L).map vwC).length=(ofA y' q.L).length:=List.length_map ..
   by_cases hf:2000 < q.L.length+(ofA y' q.L).length - (ofA x' q.L).length
   ·rw [if_pos hf]
    refine AK3.mk (E8 D9 b104 rfl ?_) H6 J6
    unfold c104
    unfold bdN
    generalize (ofA x' q.L)=Lx at *
    generalize (ofA y' q.L)=Ly at *
    (refine wx_Pc ?_;repeat' (first|with_reducible refine And.intro ?_ ?_|intro hsp))
    all_goals first|exact AB4 rfl J6 rfl rfl|(exfalso;omega)
   ·rw [if_neg hf]
    have hd:=q_Drop (L:=q.L) (a:=x') (by omega) hlen
    have hno:ofA y' (noA x' q.L)=ofA y' q.L:=BU0 (Ne.symm hxy)
    have hnl:=BU1 (L:=q.L) (a:=x')
    have hfk:=v_Fork (q:=⟨q.a,q.n,noA x' q.L,q.s⟩) (hg.sr.sublist List.filter_sublist) (by dsimp only;omega) (y':Nat) (x':Nat)
    have htk:Bk.take ⟨q.a,q.n,noA x' q.L,q.s⟩ (y':Nat) (x':Nat)=((((ofA y' q.L).length:Nat):Int),(0:Int),(⟨q.a,q.n,frkL y' x' (noA x' q.L),q.s⟩:Bk)):=by
     unfold Bk.take
     dsimp only
     rw [if_neg (by rw [Classical.not_not];exact ⟨hin.2,hin.1⟩),if_neg (by omega),Int.toNat_natCast,Int.toNat_natCast,Am6,if_neg (by simp),hno,if_neg (by omega)]
    rw [htk] at hfk
    have hgv:=d_give (q:=⟨q.a,q.n,frkL y' x' (noA x' q.L),q.s⟩) hg.good (G:=AF7 q.L x') Ab1
    have hle:=Ab1 (L:=q.L) (a:=x')
    refine AK3.mk (E8 D9 b104 rfl ?_) H6 J6
    unfold c104
    unfold bdN
    unfold stA at hfk
    clear hno htk
    dsimp only at hgv hfk ⊢
    generalize (ofA x' q.L)=Lx at *
    generalize (ofA y' q.L)=Ly at *
    generalize frkL y' x' (noA x' q.L)=Lf at *
    generalize AF7 q.L x'=G at *
    (refine wx_Pc ?_;repeat' (first|with_reducible refine And.intro ?_ ?_|intro hsp))
    all_goals first|exact AB4 (q:=⟨q.a,q.n,Lf,AI4 q.s G⟩) rfl J6 rfl rfl|(exfalso;omega)
 ·rw [if_pos hin]
  refine AK3.mk (E8 D9 b104 rfl ?_) H6 J6
  unfold c104
  unfold bdN
  by_cases hx1:inR 64 x
  ·rw [decide_eq_true hx1] at hs1
   rw [decide_eq_false (fun h=>hin ⟨hx1,h⟩)] at hs2
   (refine wx_Pc ?_;repeat' (first|with_reducible refine And.intro ?_ ?_|intro hsp))
   all_goals first|exact AB4 rfl J6 rfl rfl|(exfalso;omega)
  ·rw [decide_eq_false hx1] at hs1
   (refine wx_Pc ?_;repeat' (first|with_reducible refine And.intro ?_ ?_|intro hsp))
   all_goals first|exact AB4 rfl J6 rfl rfl|(exfalso;omega)
end
end Go.Proofs.YtphggldkligldaaGreat.Sh
