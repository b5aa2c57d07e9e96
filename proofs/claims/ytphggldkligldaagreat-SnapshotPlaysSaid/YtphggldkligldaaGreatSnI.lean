/-
 A book takes a frame.
 A book's calls: Map,Unmap,Take,Drop,Read,Save.
 A book's calls: Revert,Write.
-/
import Derived.Test.YtphggldkligldaaGreatSnH
set_option linter.unusedSimpArgs false
set_option linter.unusedVariables false
set_option maxHeartbeats 1600000
namespace Go.Pol
open Go.Am
theorem As6 {s:Sy} {f:Nat} (hf:f < 1024) (hm:s.M f=false):s.kind (f:Nat)=[.int .i64 (s.K f),.bool false,.int .i64 0]:=by
 unfold Sy.kind
 rw [if_neg (by omega),Int.toNat_natCast,hm]
theorem chg_err {s:Sy} {f:Nat} (hf:f < 1024) (hk:s.K f=1) (hm:s.M f=false):(s.chg (f:Nat) 1 1 2 2).1=0→(s.chg (f:Nat) 1 1 2 2).2.K f=2:=fun h=>by
 rw [Av2 hf hk hm] at h ⊢
 split at h
 ·exact absurd h (show ¬ (60:Int)=0 by decide)
 ·rename_i e;rw [if_neg e];show (if f=f then (2:Int) else s.K f)=2;rw [if_pos rfl]
end Go.Pol
namespace Go.Proofs.YtphggldkligldaaGreat.Sh
open Go Go.Am Go.Pol
open Go.Proofs.YtphggldkligldaaGreat.Sh renaming plx_Jc → plx
open Go.Proofs.YtphggldkligldaaGreat.Sh renaming ppx_Jc → ppx
theorem wx_Jd {p q:Prop} (hq:q) (h:R7 q→p:=by (intro hQz;((repeat' ((try (conv=>whnf));first|refine sxA ?_|refine Y5 (by rw [AH6];omega) List.drop_zero (Y0 (by rw [AH6];omega) BG4 ?_)|refine J2 hxk ?_|refine sxF ?_|refine AB3 (by assumption) rfl rfl rfl rfl rfl (by decide) rfl ?_|refine AT2 D9 rfl hF hA hB rfl ?_|refine AB3 hcn rfl rfl rfl rfl rfl (by decide) rfl ?_|refine K5 hck rfl (by decide) ?_|refine K5 hcm rfl (by decide) ?_|refine K5 hws rfl (by decide) ?_|refine rd_ret rfl ?_|refine rg_ret rfl ?_|(refine O6 D9 b75 rfl ?_;unfold c75)|refine sxH ?_|((with_reducible first|apply L8 hQz|apply L9 hQz)<;>(try intro hsp hQz))|exact hQz.out))<;>(try (conv=>whnf))))):p:=h ⟨hq⟩
section
variable {q:Bk} {t:TS}
theorem J6 {a b:Int}:Plain (.tup [.int .i64 a,.int .i64 b]):=H7 fun x hx=>by
 simp only [List.mem_cons,List.not_mem_nil,or_false] at hx
 rcases hx with rfl|rfl<;>exact A8
theorem b_take (hg:K6 q) (h:TOk q.L t) (x:Nat→Int):AJ1 92 1 [.agg (bcA x)] q t (.tup [.int .i64 ((tkP q.a q.n q.L q.s x).2.1:Nat),.int .i64 (tkP q.a q.n q.L q.s x).1]) { q with s:=(tkP q.a q.n q.L q.s x).2.2 } t:=by
 refine AJ1.mk (E8 D9 b92 rfl ?_) (fun x hx=>by obtain rfl:=List.mem_singleton.1 hx;exact AB2) J6
 have hrng:=hg.rng
 unfold c92
 unfold bkN rdN
 (refine wx_Jd ?_;repeat' (first|with_reducible refine And.intro ?_ ?_|intro hsp))
 refine AS1 D9 b137 rfl trivial ?_
 intro frl asl bdl hF hA hB
 unfold c137
 (refine wx_Jd ?_;repeat' (first|with_reducible refine And.intro ?_ ?_|intro hsp))
 (refine H9 [0,1] (fun (i:Nat)=>[(3,.int .i64 ((q.a+i:Nat):Int))]) (fun (i:Nat)=>⟨bkN q t 0 1 2 3 4 5 6 7++[(8,.cells [.ptr 1 0]),(9,.cells (bcA x)),(10,.cells [.int .i64 0]),(11,.cells [.int .i64 0]),(12,.cells [.ptr 1 0]),(13,.loop .ready none frl [16,17] asl bdl)],14⟩) (fun (i:Nat)=>i≤q.n∧∀ j,j < i→0 < cntF q.L (q.a+j)) (fun (i:Nat)=>q.n - i) (0) [] rfl (fun _=>by first|exact Nat.zero_le _|(dsimp only;omega)) ?_ (by ((try (conv=>whnf));exact V8)) ?_)
 ·exact ⟨Nat.zero_le _,fun j hj=>absurd hj (Nat.not_lt_zero _)⟩
 intro i hi
 obtain ⟨hi,hall⟩:=hi
 by_cases hil:i < q.n
 ·have hkd:=hg.kind (q.a+i) (by omega) (by omega)
  have hcn:=BB5 h (f:=q.a+i) (by omega)
  by_cases hc:0 < cntF q.L (q.a+i)
  ·have hnext:i+1≤q.n∧∀ j,j < i+1→0 < cntF q.L (q.a+j):=⟨hil,fun j hj=>by
    by_cases e:j=i
    ·rw [e];exact hc
    ·exact hall j (by omega)⟩
   generalize cntF q.L (q.a+i)=n at *
   unfold bkN rdN
   (refine wx_Jd ?_;repeat' (first|with_reducible refine And.intro ?_ ?_|intro hsp))
   all_goals exact D8 (i+1) [] hnext (by first|omega|(dsimp only;omega)) rfl (by exact V8)
  ·have hc0:cntF q.L (q.a+i)=0:=by omega
   have hfr:=free_at hil hall hc0
   have hck:=p_kind (s:=q.s) (a:=((q.a+i:Nat):Int))
   rw [As6 (by omega) hkd.2] at hck
   have hcm:=p_commit (a:=((q.a+i:Nat):Int)) (n:=1) hg.good
   have hce:=chg_err (s:=q.s) (f:=q.a+i) (by omega)
   have hgc:GoodS (q.s.chg ((q.a+i:Nat):Int) 1 1 2 2).2:=Ae6 hg.good (by decide)
   have hf4:q.a+i < 1024:=by omega
   unfold tkP
   rw [hfr]
   dsimp only
   rw [hc0] at hcn
   have hfn:q.a+i < q.a+q.n:=by omega
   have hkk:=hkd.1
   have hM:=hkd.2
   generalize q.a+i=f at *
   generalize q.s.chg (f:Int) 1 1 2 2=r at *
   obtain ⟨e,s1⟩:=r
   dsimp only at *
   by_cases hk1:q.s.K f=1
   ·rw [if_pos hk1]
    rw [hk1] at hck
    by_cases he:e=0
    ·rw [if_pos he]
     subst he
     unfold bkN rdN
     (refine wx_Jd ?_;repeat' (first|with_reducible refine And.intro ?_ ?_|intro hsp))
     have hw0:=wrK_0 (s:=s1) (f:=f) (x:=x)
     (refine H9 [2,4,5,6,41] (fun (k:Nat)=>[(42,.int .i64 (k:Nat))]) (fun (k:Nat)=>⟨bkN ⟨q.a,q.n,q.L,wrK s1 f x k⟩ t 0 1 2 3 4 5 6 7++[(8,.cells [.ptr 1 0]),(9,.cells (bcA x)),(10,.cells [.int .i64 0]),(11,.cells [.int .i64 0]),(12,.cells [.ptr 1 0]),(13,.loop .busy none frl [16,17] asl bdl)],25⟩) (fun (k:Nat)=>k≤64) (fun (k:Nat)=>64 - k) (0) [] rfl (fun _=>by first|exact Nat.zero_le _|(dsimp only;omega)) ?_ (by ((try (conv=>whnf));(rw [hw0]);exact V8)) ?_)
     ·exact Nat.zero_le _
     intro k hkk
     by_cases hkl:k < 64
     ·have hws:=BT6 (s:=wrK s1 f x k) (a:=(f:Int) * 64+(k:Nat)) (b:=x k)
      rw [wrK_s (hce hk1 hM rfl) hf4 hkl] at hws
      dsimp only at hws
      have hxk:(bcA x)[k]? = some (.int .u8 (x k)):=V9 hkl
      unfold bkN rdN
      dsimp only
      (refine wx_Jd ?_;repeat' (first|with_reducible refine And.intro ?_ ?_|intro hsp))
      all_goals exact D8 (k+1) [] (by (try dsimp only);omega) (by first|omega|(dsimp only;omega)) rfl (by exact V8)
     ·obtain rfl:k=64:=by omega
      rw [BB2 hgc]
      unfold bkN rdN
      dsimp only
      (refine wx_Jd ?_;repeat' (first|with_reducible refine And.intro ?_ ?_|intro hsp))
      all_goals exact X5 (q:=⟨q.a,q.n,q.L,s1.page f x⟩) rfl J6 rfl rfl rfl rfl rfl rfl rfl rfl
    ·rw [if_neg he]
     unfold bkN rdN
     (refine wx_Jd ?_;repeat' (first|with_reducible refine And.intro ?_ ?_|intro hsp))
     all_goals exact X5 (q:=⟨q.a,q.n,q.L,s1⟩) rfl J6 rfl rfl rfl rfl rfl rfl rfl rfl
   ·rw [if_neg hk1]
    have hk2:q.s.K f=2:=hkk.resolve_left hk1
    rw [hk2] at hck
    unfold bkN rdN
    (refine wx_Jd ?_;repeat' (first|with_reducible refine And.intro ?_ ?_|intro hsp))
    have hw0:=wrK_0 (s:=q.s) (f:=f) (x:=x)
    (refine H9 [2,4,5,6,41] (fun (k:Nat)=>[(42,.int .i64 (k:Nat))]) (fun (k:Nat)=>⟨bkN ⟨q.a,q.n,q.L,wrK q.s f x k⟩ t 0 1 2 3 4 5 6 7++[(8,.cells [.ptr 1 0]),(9,.cells (bcA x)),(10,.cells [.int .i64 0]),(11,.cells [.int .i64 0]),(12,.cells [.ptr 1 0]),(13,.loop .busy none frl [16,17] asl bdl)],25⟩) (fun (k:Nat)=>k≤64) (fun (k:Nat)=>64 - k) (0) [] rfl (fun _=>by first|exact Nat.zero_le _|(dsimp only;omega)) ?_ (by ((try (conv=>whnf));(rw [hw0]);exact V8)) ?_)
    ·exact Nat.zero_le _
    intro k hkk
    by_cases hkl:k < 64
    ·have hws:=BT6 (s:=wrK q.s f x k) (a:=(f:Int) * 64+(k:Nat)) (b:=x k)
     rw [wrK_s hk2 hf4 hkl] at hws
     dsimp only at hws
     have hxk:(bcA x)[k]? = some (.int .u8 (x k)):=V9 hkl
     unfold bkN rdN
     dsimp only
     (refine wx_Jd ?_;repeat' (first|with_reducible refine And.intro ?_ ?_|intro hsp))
     all_goals exact D8 (k+1) [] (by (try dsimp only);omega) (by first|omega|(dsimp only;omega)) rfl (by exact V8)
    ·obtain rfl:k=64:=by omega
     rw [BB2 hg.good]
     unfold bkN rdN
     dsimp only
     (refine wx_Jd ?_;repeat' (first|with_reducible refine And.intro ?_ ?_|intro hsp))
     all_goals exact X5 (q:=⟨q.a,q.n,q.L,q.s.page f x⟩) rfl J6 rfl rfl rfl rfl rfl rfl rfl rfl
 ·obtain rfl:i=q.n:=by omega
  have hfr:=free_not hall
  unfold tkP
  rw [hfr]
  dsimp only
  unfold bkN rdN
  (refine wx_Jd ?_;repeat' (first|with_reducible refine And.intro ?_ ?_|intro hsp))
  all_goals exact X5 rfl J6 rfl rfl rfl rfl rfl rfl rfl rfl
end
end Go.Proofs.YtphggldkligldaaGreat.Sh
namespace Go.Pol
open Go.Am
theorem bc_zero:bcA (fun _=>0)=List.replicate 64 (.int .u8 0):=by
 refine List.ext_getElem? fun i=>?_
 unfold bcA
 by_cases h:i < 64
 ·rw [List.getElem?_replicate,if_pos h,V9 h]
 ·rw [List.getElem?_eq_none (by rw [Y4];omega),List.getElem?_eq_none (by rw [List.length_replicate];omega)]
end Go.Pol
namespace Go.Proofs.YtphggldkligldaaGreat.Sh
open Go Go.Am Go.Pol
theorem plx_Je {p:Prop} (h:p:=by ((first|exact plw|(with_reducible first|apply O4|apply M5|apply J3|apply u6|apply z8|apply AB2|apply P5|fail)|fail);first|done|fail)):p:=h
open Go.Proofs.YtphggldkligldaaGreat.Sh renaming plx_Je → plx
open Go.Proofs.YtphggldkligldaaGreat.Sh renaming ppx_Jc → ppx
theorem wx_Je {p q:Prop} (hq:q) (h:R7 q→p:=by (intro hQz;((repeat' ((try (conv=>whnf));first|refine sxA ?_|refine sxF ?_|refine AG3 (by assumption) rfl rfl rfl rfl rfl rfl rfl rfl (by decide) rfl ?_|refine G7 (by assumption) ?_|refine AB3 (by assumption) rfl rfl rfl rfl rfl (by decide) rfl ?_|refine AG3 hi rfl rfl rfl rfl rfl rfl rfl rfl (by decide) rfl ?_|refine BX3 (o:=0) htk rfl rfl rfl rfl rfl rfl rfl rfl (by decide) rfl ?_|refine K5 (by assumption) rfl (by decide) ?_|refine BX3 (o:=0) hgv rfl rfl rfl rfl rfl rfl rfl rfl (by decide) rfl ?_|(refine O6 D9 b87 rfl ?_;unfold c87)|refine sxH ?_|((with_reducible first|apply L8 hQz|apply L9 hQz)<;>(try intro hsp hQz))|exact hQz.out))<;>(try (conv=>whnf))))):p:=h ⟨hq⟩
theorem wx_Jen {p q:Prop} (hq:q) (h:R7 q→p:=by (intro hQz;((repeat' ((try (conv=>whnf));first|refine sxA ?_|refine sxN ?_|refine AG3 hi rfl rfl rfl rfl rfl rfl rfl rfl (by decide) rfl ?_|refine cx_tx (by assumption) rfl rfl rfl rfl rfl rfl (by decide) rfl ?_|refine BW8 (by assumption) rfl rfl rfl rfl rfl rfl rfl ?_|refine sxH ?_|((with_reducible first|apply L8 hQz|apply L9 hQz)<;>(try intro hsp hQz))|exact hQz.out))<;>(try (conv=>whnf))))):p:=h ⟨hq⟩
section
variable {q:Bk} {t:TS}
theorem j4 {a b:Int}:Plain (.tup [.int .i64 a,.int .i64 b]):=H7 fun x hx=>by
 simp only [List.mem_cons,List.not_mem_nil,or_false] at hx
 rcases hx with rfl|rfl<;>exact A8
theorem b_Map (hg:K6 q) (h:TOk q.L t) (x k:Int):∃ t',TOk (q.map x k).2.L t'∧AJ1 35 0 [.int .i64 x,.int .i64 k] q t (.int .i64 (q.map x k).1) (q.map x k).2 t':=by
 have hi:=b_is (q:=q) (t:=t)
 have hsp:=AW7 x
 have hsl:=k_slot k
 have hsv:=t_Save h
 unfold Bk.map
 by_cases hin:inR 64 x∧inR 1024 k
 ·rw [if_neg (by rw [Classical.not_not];exact hin)]
  rw [decide_eq_true hin.1] at hsp
  rw [decide_eq_true hin.2] at hsl
  cases hf:AO1 q.L x.toNat k.toNat with
  | some v =>
   have hfi:=Ax7 h hin hf
   rw [if_pos (by rfl)]
   refine ⟨t,h,AJ1.mk (E8 D9 b35 rfl ?_) H6 A8⟩
   unfold c35
   unfold bkN rdN
   (refine wx_Je ?_;repeat' (first|with_reducible refine And.intro ?_ ?_|intro hsp))
   all_goals exact X5 rfl A8 rfl rfl rfl rfl rfl rfl rfl rfl
  | none =>
   have hfi:=AH9 h hin hf
   rw [if_neg (by simp)]
   by_cases hl:2000≤q.L.length
   ·rw [if_pos hl]
    refine ⟨t,h,AJ1.mk (E8 D9 b35 rfl ?_) H6 A8⟩
    unfold c35
    unfold bkN rdN
    (refine wx_Je ?_;repeat' (first|with_reducible refine And.intro ?_ ?_|intro hsp))
    all_goals first|exact X5 rfl A8 rfl rfl rfl rfl rfl rfl rfl rfl|(exfalso;omega)
   ·rw [if_neg hl]
    have htk:=b_take hg h fun _=>0
    rw [bc_zero] at htk
    have tk:=hg.tk fun _=>0
    generalize hr:tkP q.a q.n q.L q.s (fun _=>0)=r at *
    obtain ⟨e,f,s1⟩:=r
    dsimp only at *
    have hin2:=b_is (q:={ q with s:=s1 }) (t:=t)
    by_cases he:e=0
    ·rw [if_pos he]
     subst he
     have hgot:=tk.got rfl
     dsimp only at hgot
     obtain ⟨t',h1,h2⟩:=u_Map h hin (f:=f) (by have:=hgot.2.1;have:=hg.rng.2;omega) hf (by omega)
     refine ⟨t',h1,AJ1.mk (E8 D9 b35 rfl ?_) H6 A8⟩
     unfold c35
     unfold bkN rdN
     (refine wx_Je ?_;repeat' (first|with_reducible refine And.intro ?_ ?_|intro hsp))
     all_goals first|exact X5 (q:=⟨q.a,q.n,AZ2 (x.toNat,k.toNat,f,true) q.L,s1⟩) rfl A8 rfl rfl rfl rfl rfl rfl rfl rfl|(exfalso;omega)
    ·rw [if_neg he]
     refine ⟨t,h,AJ1.mk (E8 D9 b35 rfl ?_) H6 A8⟩
     unfold c35
     unfold bkN rdN
     (refine wx_Je ?_;repeat' (first|with_reducible refine And.intro ?_ ?_|intro hsp))
     all_goals first|exact X5 (q:=⟨q.a,q.n,q.L,s1⟩) rfl A8 rfl rfl rfl rfl rfl rfl rfl rfl|(exfalso;omega)
 ·rw [if_pos hin]
  refine ⟨t,h,AJ1.mk (E8 D9 b35 rfl ?_) H6 A8⟩
  unfold c35
  unfold bkN rdN
  (refine wx_Je ?_;repeat' (first|with_reducible refine And.intro ?_ ?_|intro hsp))
  all_goals first|exact X5 rfl A8 rfl rfl rfl rfl rfl rfl rfl rfl|(exfalso;simp_all;done)
theorem b_Unmap (hg:K6 q) (h:TOk q.L t) (x k:Int):∃ t',TOk (q.unmap x k).2.L t'∧AJ1 36 0 [.int .i64 x,.int .i64 k] q t (.int .i64 (q.unmap x k).1) (q.unmap x k).2 t':=by
 have hi:=b_is (q:=q) (t:=t)
 unfold Bk.unmap
 by_cases hin:inR 64 x∧inR 1024 k
 ·rw [if_neg (by rw [Classical.not_not];exact hin)]
  cases hf:AO1 q.L x.toNat k.toNat with
  | none =>
   have hfi:=BI4 h hin hf
   refine ⟨t,h,AJ1.mk (E8 D9 b36 rfl ?_) H6 A8⟩
   unfold c36
   unfold bkN rdN
   (refine wx_Je ?_;repeat' (first|with_reducible refine And.intro ?_ ?_|intro hsp))
   all_goals first|exact X5 rfl A8 rfl rfl rfl rfl rfl rfl rfl rfl|(exfalso;omega)
  | some v =>
   obtain ⟨t',h1,h2⟩:=u_Unmap h hin hf
   refine ⟨t',h1,AJ1.mk (E8 D9 b36 rfl ?_) H6 A8⟩
   unfold c36
   unfold bkN rdN
   have hdc:=Ay5 (a:=(v.2.2.1:Nat)) (n:=1) hg.good
   rw [show (q.s.chg ((v.2.2.1:Nat):Int) 1 2 1 3).2=AI4 q.s [v.2.2.1] from rfl] at hdc
   dsimp only
   by_cases hc:cntF (Aw4 q.L x.toNat k.toNat) v.2.2.1=0
   ·rw [if_pos hc]
    rw [hc] at h2
    generalize v.2.2.1=f at *
    generalize Aw4 q.L x.toNat k.toNat=L1 at *
    have hz:AI4 q.s (if 0=0 then [] else [f])=q.s:=rfl
    (refine wx_Je ?_;repeat' (first|with_reducible refine And.intro ?_ ?_|intro hsp))
    (refine H9 [0,6,7] (fun (i:Nat)=>[(8,.int .i64 (i:Nat))]) (fun (i:Nat)=>⟨bkN ⟨q.a,q.n,L1,AI4 q.s (if i=0 then [] else [f])⟩ t' 0 1 2 3 4 5 6 7++[(8,.cells [.int .i64 (f:Nat)])],9⟩) (fun (i:Nat)=>i≤1) (fun (i:Nat)=>1 - i) (0) [] rfl (fun _=>by first|exact Nat.zero_le _|(dsimp only;omega)) ?_ (by ((try (conv=>whnf));(rw [hz]);exact V8)) ?_)
    ·exact Nat.zero_le _
    intro i hi1
    rcases (show i=0∨i=1 by omega) with rfl|rfl
    ·unfold bkN rdN
     dsimp only
     rw [hz]
     have hz1:AI4 q.s (if 1=0 then [] else [f])=AI4 q.s [f]:=rfl
     (refine wx_Je ?_;repeat' (first|with_reducible refine And.intro ?_ ?_|intro hsp))
     all_goals exact D8 (1) [] (by (try dsimp only);omega) (by first|omega|(dsimp only;omega)) rfl (by ((try dsimp only);rw [hz1]);exact V8)
    ·unfold bkN rdN
     dsimp only
     rw [show AI4 q.s (if 1=0 then [] else [f])=AI4 q.s [f] from rfl]
     (refine wx_Je ?_;repeat' (first|with_reducible refine And.intro ?_ ?_|intro hsp))
     all_goals first|exact X5 (q:=⟨q.a,q.n,L1,AI4 q.s [f]⟩) rfl A8 rfl rfl rfl rfl rfl rfl rfl rfl|(exfalso;omega)
   ·rw [if_neg hc]
    generalize cntF (Aw4 q.L x.toNat k.toNat) v.2.2.1=n at *
    (refine wx_Je ?_;repeat' (first|with_reducible refine And.intro ?_ ?_|intro hsp))
    all_goals first|exact X5 (q:=⟨q.a,q.n,Aw4 q.L x.toNat k.toNat,q.s⟩) rfl A8 rfl rfl rfl rfl rfl rfl rfl rfl|(exfalso;omega)
 ·rw [if_pos hin]
  have hfi:=t_Unmap_no (t:=t) x k hin
  refine ⟨t,h,AJ1.mk (E8 D9 b36 rfl ?_) H6 A8⟩
  unfold c36
  unfold bkN rdN
  (refine wx_Je ?_;repeat' (first|with_reducible refine And.intro ?_ ?_|intro hsp))
  all_goals first|exact X5 rfl A8 rfl rfl rfl rfl rfl rfl rfl rfl|(exfalso;omega)
theorem b_Take (h:TOk q.L t) (x y:Int):∃ t',TOk (q.take x y).2.2.L t'∧AJ1 30 0 [.int .i64 x,.int .i64 y] q t (.tup [.int .i64 (q.take x y).1,.int .i64 (q.take x y).2.1]) (q.take x y).2.2 t':=by
 have hi:=b_is (q:=q) (t:=t)
 obtain ⟨t',h1,h2⟩:=u_Fork h x y
 have ha:(q.take x y).2.2.a=q.a∧(q.take x y).2.2.n=q.n∧(q.take x y).2.2.s=q.s:=by unfold Bk.take;(repeat' split)<;>exact ⟨rfl,rfl,rfl⟩
 refine ⟨t',h1,AJ1.mk (E8 D9 b30 rfl ?_) H6 j4⟩
 unfold c30
 unfold bkN rdN
 rw [ha.1,ha.2.1,ha.2.2]
 generalize q.take x y=r at *
 obtain ⟨n,e,ra,rn,rL,rs⟩:=r
 dsimp only at *
 obtain ⟨rfl,rfl,rfl⟩:=ha
 (refine wx_Je ?_;repeat' (first|with_reducible refine And.intro ?_ ?_|intro hsp))
 all_goals exact X5 (q:=⟨q.a,q.n,rL,q.s⟩) rfl j4 rfl rfl rfl rfl rfl rfl rfl rfl
theorem b_Drop (hg:K6 q) (h:TOk q.L t) (x:Int):∃ t',TOk (q.drop x).2.2.L t'∧AJ1 31 0 [.int .i64 x] q t (.tup [.int .i64 (q.drop x).1,.int .i64 (q.drop x).2.1]) (q.drop x).2.2 t':=by
 have hi:=b_is (q:=q) (t:=t)
 unfold Bk.drop
 by_cases hin:inR 64 x
 ·rw [if_neg (by rw [Classical.not_not];exact hin)]
  obtain ⟨x',rfl,hx⟩:=AH3 hin
  rw [Int.toNat_natCast]
  obtain ⟨t',h1,h2⟩:=t_Drop h (a:=x') (by omega)
  refine ⟨t',h1,AJ1.mk (E8 D9 b31 rfl ?_) AP2 j4⟩
  unfold c31
  unfold bkN rdN
  have hgv:=b_give (q:=⟨q.a,q.n,noA x' q.L,q.s⟩) (t:=t') hg.good (G:=AF7 q.L x') Ab1
  have hle:=Ab1 (L:=q.L) (a:=x')
  generalize AF7 q.L x'=G at *
  dsimp only at hgv ⊢
  (refine wx_Je ?_;repeat' (first|with_reducible refine And.intro ?_ ?_|intro hsp))
  all_goals exact X5 (q:=⟨q.a,q.n,noA x' q.L,AI4 q.s G⟩) (by simp) j4 rfl rfl rfl rfl rfl rfl rfl rfl
 ·rw [if_pos hin]
  have hd:=t_Drop_no (t:=t) x hin
  have hgv:=b_give_nil (q:=q) (t:=t)
  refine ⟨t,h,AJ1.mk (E8 D9 b31 rfl ?_) AP2 j4⟩
  unfold c31
  unfold bkN rdN
  (refine wx_Je ?_;repeat' (first|with_reducible refine And.intro ?_ ?_|intro hsp))
  all_goals exact X5 rfl j4 rfl rfl rfl rfl rfl rfl rfl rfl
theorem b_Read (h:TOk q.L t) (x a:Int):AJ1 16 0 [.int .i64 x,.int .i64 a] q t (.tup [.int .u8 (q.read x a).1,.int .i64 (q.read x a).2]) q t:=by
 have hi:=b_is (q:=q) (t:=t)
 have h1:=u_Read h x a
 refine AJ1.mk (E8 D9 b16 rfl ?_) H6 R6
 unfold c16
 unfold bkN rdN
 generalize q.read x a=r at *
 (refine wx_Jen ?_;repeat' (first|with_reducible refine And.intro ?_ ?_|intro hsp))
 all_goals exact X5 rfl R6 rfl rfl rfl rfl rfl rfl rfl rfl
theorem AA5 {a n:Int} {L:List Vw}:Plain (.agg [.int .i64 a,.int .i64 n,.isl (L.map vwC)]):=P9 fun x hx=>by
 simp only [List.mem_cons,List.not_mem_nil,or_false] at hx
 rcases hx with rfl|rfl|rfl<;>first|exact A8|exact J3
theorem b_Save (h:TOk q.L t):AJ1 27 0 [] q t (.agg [.int .i64 (q.a:Nat),.int .i64 (q.n:Nat),.isl (q.L.map vwC)]) q t:=by
 have hi:=b_is (q:=q) (t:=t)
 have hsv:=t_Save h
 refine AJ1.mk (E8 D9 b27 rfl ?_) (fun x hx=>by cases hx) AA5
 unfold c27
 unfold bkN rdN
 (refine wx_Jen ?_;repeat' (first|with_reducible refine And.intro ?_ ?_|intro hsp))
 all_goals exact X5 rfl AA5 rfl rfl rfl rfl rfl rfl rfl rfl
end
end Go.Proofs.YtphggldkligldaaGreat.Sh
namespace Go.Pol
open Go.Am
def rvN (L:List Vw) (x y i:Nat):Int:=(i:Int)+((ofA y (L.take i)).length:Nat) - ((ofA x (L.take i)).length:Nat)
theorem rvN_0 {L:List Vw} {x y:Nat}:rvN L x y 0=0:=rfl
theorem rvN_s {L:List Vw} {x y i:Nat} (hi:i < L.length):rvN L x y (i+1)=rvN L x y i+1+(if (nth dV L i).1=y then 1 else 0) - (if (nth dV L i).1=x then 1 else 0):=by
 have h:∀ a,(ofA a (L.take (i+1))).length=(ofA a (L.take i)).length+if (nth dV L i).1=a then 1 else 0:=fun a=>by
  rw [d9 (d:=dV) hi];unfold ofA
  rw [List.filter_append,List.length_append]
  by_cases e:(nth dV L i).1=a<;>simp [e]
 unfold rvN
 rw [h,h]
 split<;>split<;>omega
theorem rvN_le {L:List Vw} {x y i:Nat} (hi:i≤L.length):0≤rvN L x y i∧rvN L x y i≤2 * i:=by
 have h:∀ a,(ofA a (L.take i)).length≤i:=fun a=>Nat.le_trans (List.length_filter_le ..) (by rw [List.length_take];omega)
 have h1:=h x
 have h2:=h y
 unfold rvN;omega
theorem rvN_all {L:List Vw} {x y:Nat}:rvN L x y L.length=(L.length:Int)+((ofA y L).length:Nat) - ((ofA x L).length:Nat):=by unfold rvN;rw [List.take_length]
theorem put_a {q:Bk} {x t v:Int}:(q.put x t v).2.a=q.a∧(q.put x t v).2.n=q.n∧(q.put x t v).2.L=q.L:=by unfold Bk.put;split<;>exact ⟨rfl,rfl,rfl⟩
end Go.Pol
namespace Go.Proofs.YtphggldkligldaaGreat.Sh
open Go Go.Am Go.Pol
open Go.Proofs.YtphggldkligldaaGreat.Sh renaming plx_Je → plx
open Go.Proofs.YtphggldkligldaaGreat.Sh renaming ppx_Jc → ppx
theorem wx_Jf {p q:Prop} (hq:q) (h:R7 q→p:=by (intro hQz;((repeat' ((try (conv=>whnf));first|refine sxA ?_|refine Z9 (d:=dV) K9 (by first|assumption|omega) (by with_reducible assumption) ?_|refine AC0 (by with_reducible assumption) ?_|refine sxF ?_|refine AG3 hi rfl rfl rfl rfl rfl rfl rfl rfl (by decide) rfl ?_|refine G7 (by assumption) ?_|refine AB3 (by assumption) rfl rfl rfl rfl rfl (by decide) rfl ?_|refine AB3 h2 rfl rfl rfl rfl rfl (by decide) rfl ?_|refine AB3 h5 rfl rfl rfl rfl rfl (by decide) rfl ?_|refine BX3 (o:=0) hgv rfl rfl rfl rfl rfl rfl rfl rfl (by decide) rfl ?_|refine sxH ?_|((with_reducible first|apply L8 hQz|apply L9 hQz)<;>(try intro hsp hQz))|exact hQz.out))<;>(try (conv=>whnf))))):p:=h ⟨hq⟩
theorem wx_Jfn {p q:Prop} (hq:q) (h:R7 q→p:=by (intro hQz;((repeat' ((try (conv=>whnf));first|refine sxA ?_|refine cx_tx (by assumption) rfl rfl rfl rfl rfl rfl (by decide) rfl ?_|refine AC0 (by with_reducible assumption) ?_|refine sxN ?_|refine AG3 hi rfl rfl rfl rfl rfl rfl rfl rfl (by decide) rfl ?_|refine G7 (by assumption) ?_|refine AB3 (by assumption) rfl rfl rfl rfl rfl (by decide) rfl ?_|refine BW8 (by assumption) rfl rfl rfl rfl rfl rfl rfl ?_|refine AB3 hfi rfl rfl rfl rfl rfl (by decide) rfl ?_|refine AB3 h2 rfl rfl rfl rfl rfl (by decide) rfl ?_|refine BW8 hcn rfl rfl rfl rfl rfl rfl rfl ?_|refine BX3 (o:=0) hby rfl rfl rfl rfl rfl rfl rfl rfl (by decide) rfl ?_|refine BX3 (o:=0) htk rfl rfl rfl rfl rfl rfl rfl rfl (by decide) rfl ?_|refine sxH ?_|((with_reducible first|apply L8 hQz|apply L9 hQz)<;>(try intro hsp hQz))|exact hQz.out))<;>(try (conv=>whnf))))):p:=h ⟨hq⟩
section
variable {q:Bk} {t:TS}
theorem b_Revert (hg:K6 q) (h:TOk q.L t) (x y:Int):∃ t',TOk (q.revert x y).2.2.L t'∧AJ1 32 0 [.int .i64 x,.int .i64 y] q t (.tup [.int .i64 (q.revert x y).1,.int .i64 (q.revert x y).2.1]) (q.revert x y).2.2 t':=by
 have hi:=b_is (q:=q) (t:=t)
 have hsv:=t_Save h
 have hs1:=AW7 x
 have hs2:=AW7 y
 have hlen:=hg.len
 unfold Bk.revert
 by_cases hin:inR 64 x∧inR 64 y
 ·rw [if_neg (by rw [Classical.not_not];exact hin)]
  rw [decide_eq_true hin.1] at hs1
  rw [decide_eq_true hin.2] at hs2
  obtain ⟨x',rfl,hx⟩:=AH3 hin.1
  obtain ⟨y',rfl,hy⟩:=AH3 hin.2
  rw [Int.toNat_natCast,Int.toNat_natCast]
  by_cases hxy:x'=y'
  ·rw [if_pos (by omega)]
   refine ⟨t,h,AJ1.mk (E8 D9 b32 rfl ?_) H6 j4⟩
   unfold c32
   unfold bkN rdN
   (refine wx_Jf ?_;repeat' (first|with_reducible refine And.intro ?_ ?_|intro hsp))
   all_goals first|exact X5 rfl j4 rfl rfl rfl rfl rfl rfl rfl rfl|(exfalso;omega)
  ·rw [if_neg (by omega)]
   have hxl:(ofA x' q.L).length≤q.L.length:=List.length_filter_le ..
   by_cases hf:2000 < q.L.length+(ofA y' q.L).length - (ofA x' q.L).length
   ·rw [if_pos hf]
    refine ⟨t,h,AJ1.mk (E8 D9 b32 rfl ?_) H6 j4⟩
    unfold c32
    unfold bkN rdN
    (refine wx_Jf ?_;repeat' (first|with_reducible refine And.intro ?_ ?_|intro hsp))
    (refine H9 [0,1,2,8,39,40] (fun (i:Nat)=>[(9,.int .i64 (rvN q.L x' y' i)),(41,.int .i64 (i:Nat))]) (fun (i:Nat)=>⟨bkN q t 0 1 2 3 4 5 6 7,8⟩) (fun (i:Nat)=>i≤q.L.length) (fun (i:Nat)=>q.L.length - i) (0) [] rfl (fun _=>by first|exact Nat.zero_le _|(dsimp only;omega)) ?_ (by ((try (conv=>whnf));(rw [rvN_0]);exact V8)) ?_)
    ·exact Nat.zero_le _
    intro i hil
    by_cases hik:i < q.L.length
    ·have hst:=rvN_s (x:=x') (y:=y') hik
     have hle:=rvN_le (L:=q.L) (x:=x') (y:=y') hil
     generalize hx':nth dV q.L i=v at *
     generalize rvN q.L x' y' i=m at *
     unfold bkN rdN
     (refine wx_Jf ?_;repeat' (first|with_reducible refine And.intro ?_ ?_|intro hsp))
     all_goals exact D8 (i+1) [] (by (try dsimp only);omega) (by first|omega|(dsimp only;omega)) rfl (by exact V8)
    ·obtain rfl:i=q.L.length:=by omega
     have hal:=rvN_all (L:=q.L) (x:=x') (y:=y')
     generalize rvN q.L x' y' q.L.length=m at *
     unfold bkN rdN
     (refine wx_Jf ?_;repeat' (first|with_reducible refine And.intro ?_ ?_|intro hsp))
     all_goals first|exact X5 rfl j4 rfl rfl rfl rfl rfl rfl rfl rfl|(exfalso;omega)
   ·rw [if_neg hf]
    obtain ⟨t1,h1,h2⟩:=t_Drop h (a:=x') (by omega)
    have hno:ofA y' (noA x' q.L)=ofA y' q.L:=BU0 (Ne.symm hxy)
    have hnl:=BU1 (L:=q.L) (a:=x')
    obtain ⟨t2,M,h3,h4,h5⟩:=t_Fork h1 (a:=y') (b:=x') (Ne.symm hxy) (by omega) (by omega) Am6 (by rw [hno];omega)
    have e:=BN5 h1.srt h3.srt Am6 h4
    rw [show Ai1 x' ((noA x' q.L).map (wnV y')) (ofA y' (noA x' q.L))=frkL y' x' (noA x' q.L) from rfl] at e
    rw [e] at h3
    rw [hno] at h5
    have hgv:=b_give (q:=⟨q.a,q.n,frkL y' x' (noA x' q.L),q.s⟩) (t:=t2) hg.good (G:=AF7 q.L x') Ab1
    dsimp only at hgv ⊢
    refine ⟨t2,h3,AJ1.mk (E8 D9 b32 rfl ?_) H6 j4⟩
    unfold c32
    unfold bkN rdN
    (refine wx_Jf ?_;repeat' (first|with_reducible refine And.intro ?_ ?_|intro hsp))
    (refine H9 [0,1,2,8,39,40] (fun (i:Nat)=>[(9,.int .i64 (rvN q.L x' y' i)),(41,.int .i64 (i:Nat))]) (fun (i:Nat)=>⟨bkN q t 0 1 2 3 4 5 6 7,8⟩) (fun (i:Nat)=>i≤q.L.length) (fun (i:Nat)=>q.L.length - i) (0) [] rfl (fun _=>by first|exact Nat.zero_le _|(dsimp only;omega)) ?_ (by ((try (conv=>whnf));(rw [rvN_0]);exact V8)) ?_)
    ·exact Nat.zero_le _
    intro i hil
    by_cases hik:i < q.L.length
    ·have hst:=rvN_s (x:=x') (y:=y') hik
     have hle:=rvN_le (L:=q.L) (x:=x') (y:=y') hil
     generalize hx':nth dV q.L i=v at *
     generalize rvN q.L x' y' i=m at *
     unfold bkN rdN
     (refine wx_Jf ?_;repeat' (first|with_reducible refine And.intro ?_ ?_|intro hsp))
     all_goals exact D8 (i+1) [] (by (try dsimp only);omega) (by first|omega|(dsimp only;omega)) rfl (by exact V8)
    ·obtain rfl:i=q.L.length:=by omega
     have hal:=rvN_all (L:=q.L) (x:=x') (y:=y')
     generalize rvN q.L x' y' q.L.length=m at *
     generalize AF7 q.L x'=G at *
     unfold bkN rdN
     (refine wx_Jf ?_;repeat' (first|with_reducible refine And.intro ?_ ?_|intro hsp))
     all_goals first|exact X5 (q:=⟨q.a,q.n,frkL y' x' (noA x' q.L),AI4 q.s G⟩) rfl j4 rfl rfl rfl rfl rfl rfl rfl rfl|(exfalso;omega)
 ·rw [if_pos hin]
  refine ⟨t,h,AJ1.mk (E8 D9 b32 rfl ?_) H6 j4⟩
  unfold c32
  unfold bkN rdN
  (refine wx_Jf ?_;repeat' (first|with_reducible refine And.intro ?_ ?_|intro hsp))
  all_goals first|exact X5 rfl j4 rfl rfl rfl rfl rfl rfl rfl rfl|(exfalso;simp_all;done)
theorem Av6 (hg:K6 q) (h:TOk q.L t) (x a v:Int):∃ t',TOk (q.write x a v).2.L t'∧AJ1 37 0 [.int .i64 x,.int .i64 a,.int .u8 v] q t (.int .i64 (q.write x a v).1) (q.write x a v).2 t':=by
 have hi:=b_is (q:=q) (t:=t)
 have hsp:=AW7 x
 unfold Bk.write
 by_cases hin:inR 64 x∧inR 65536 a
 ·rw [if_neg (by rw [Classical.not_not];exact hin)]
  rw [decide_eq_true hin.1] at hsp
  obtain ⟨a',rfl,ha⟩:=AH3 hin.2
  have hq:=q64 (t:=a') (by omega)
  rw [Int.toNat_natCast]
  have hk:inR 1024 ((a' / 64:Nat):Int):=⟨by omega,by omega⟩
  have hfn:∀ r,AO1 q.L x.toNat (a' / 64)=r→AO1 q.L x.toNat ((a' / 64:Nat):Int).toNat=r:=fun r hr=>by rw [Int.toNat_natCast];exact hr
  cases hf:AO1 q.L x.toNat (a' / 64) with
  | none =>
   have hfi:=AH9 h ⟨hin.1,hk⟩ (hfn _ hf)
   refine ⟨t,h,AJ1.mk (E8 D9 b37 rfl ?_) (by simp [A8]) A8⟩
   unfold c37
   unfold bkN rdN
   generalize ((a' / 64:Nat):Int)=kk at *
   (refine wx_Jf ?_;repeat' (first|with_reducible refine And.intro ?_ ?_|intro hsp))
   all_goals first|exact X5 rfl A8 rfl rfl rfl rfl rfl rfl rfl rfl|(exfalso;omega)
  | some u =>
   have hfi:=Ax7 h ⟨hin.1,hk⟩ (hfn _ hf)
   have huv:=hg.view (AF8 hf).1
   have hu4:u.2.2.1 < 1024:=by have:=hg.rng.2;omega
   have hcn:=BB5 h hu4
   dsimp only
   by_cases hw:u.2.2.2=true
   ·rw [if_pos hw]
    rw [hw] at hfi
    have hwr:=BR1 h x (a':Nat) v
    have hpa:=put_a (q:=q) (x:=x) (t:=(a':Nat)) (v:=v)
    refine ⟨t,by rw [hpa.2.2];exact h,AJ1.mk (E8 D9 b37 rfl ?_) (by simp [A8]) A8⟩
    unfold c37
    unfold bkN rdN
    generalize ((a' / 64:Nat):Int)=kk at *
    generalize cntF q.L u.2.2.1=n at *
    rw [hpa.1,hpa.2.1]
    generalize q.put x (a':Nat) v=r at *
    obtain ⟨e,ra,rn,rL,rs⟩:=r
    dsimp only at *
    (refine wx_Jfn ?_;repeat' (first|with_reducible refine And.intro ?_ ?_|intro hsp))
    all_goals first|exact X5 (q:=⟨q.a,q.n,q.L,rs⟩) rfl A8 rfl rfl rfl rfl rfl rfl rfl rfl|(exfalso;omega)
   ·rw [if_neg hw]
    have hw:u.2.2.2=false:=by cases hb:u.2.2.2<;>simp_all
    rw [hw] at hfi
    by_cases hc:cntF q.L u.2.2.1=1
    ·rw [if_pos hc]
     rw [hc] at hcn
     obtain ⟨t1,h1,h2⟩:=u_Protect h ⟨hin.1,hk⟩ (hfn _ hf) true
     rw [Int.toNat_natCast] at h1
     have hwr:=BR1 (q:=⟨q.a,q.n,AR5 (prV true) x.toNat (a' / 64) q.L,q.s⟩) h1 x (a':Nat) v
     have hpa:=put_a (q:=⟨q.a,q.n,AR5 (prV true) x.toNat (a' / 64) q.L,q.s⟩) (x:=x) (t:=(a':Nat)) (v:=v)
     refine ⟨t1,by rw [hpa.2.2];exact h1,AJ1.mk (E8 D9 b37 rfl ?_) (by simp [A8]) A8⟩
     unfold c37
     unfold bkN rdN
     rw [hpa.1,hpa.2.1]
     generalize AR5 (prV true) x.toNat (a' / 64) q.L=L1 at *
     generalize ((a' / 64:Nat):Int)=kk at *
     dsimp only at hwr ⊢
     generalize Bk.put ⟨q.a,q.n,L1,q.s⟩ x (a':Nat) v=r at *
     obtain ⟨e,ra,rn,rL,rs⟩:=r
     dsimp only at *
     (refine wx_Jfn ?_;repeat' (first|with_reducible refine And.intro ?_ ?_|intro hsp))
     all_goals first|exact X5 (q:=⟨q.a,q.n,L1,rs⟩) rfl A8 rfl rfl rfl rfl rfl rfl rfl rfl|(exfalso;omega)
    ·rw [if_neg hc]
     have hby:=BX7 (q:=q) (t:=t) hu4 huv.2.2
     have htk:=b_take hg h (q.s.B u.2.2.1)
     have tk:=hg.tk (q.s.B u.2.2.1)
     generalize hr:tkP q.a q.n q.L q.s (q.s.B u.2.2.1)=r at *
     generalize cntF q.L u.2.2.1=n at *
     obtain ⟨e,f,s1⟩:=r
     dsimp only at *
     by_cases he:e=0
     ·rw [if_pos he]
      subst he
      have hgot:=tk.got rfl
      dsimp only at hgot
      obtain ⟨t1,h1,h2⟩:=u_Split h ⟨hin.1,hk⟩ (hfn _ hf) (f:=f) (by have:=hgot.2.1;have:=hg.rng.2;omega) hgot.2.2.1
      rw [Int.toNat_natCast] at h1
      have hwr:=BR1 (q:=⟨q.a,q.n,AR5 (frV f) x.toNat (a' / 64) q.L,s1⟩) h1 x (a':Nat) v
      have hpa:=put_a (q:=⟨q.a,q.n,AR5 (frV f) x.toNat (a' / 64) q.L,s1⟩) (x:=x) (t:=(a':Nat)) (v:=v)
      refine ⟨t1,by rw [hpa.2.2];exact h1,AJ1.mk (E8 D9 b37 rfl ?_) (by simp [A8]) A8⟩
      unfold c37
      unfold bkN rdN
      rw [hpa.1,hpa.2.1]
      generalize AR5 (frV f) x.toNat (a' / 64) q.L=L1 at *
      generalize ((a' / 64:Nat):Int)=kk at *
      dsimp only at hwr ⊢
      generalize Bk.put ⟨q.a,q.n,L1,s1⟩ x (a':Nat) v=r at *
      obtain ⟨e,ra,rn,rL,rs⟩:=r
      dsimp only at *
      (refine wx_Jfn ?_;repeat' (first|with_reducible refine And.intro ?_ ?_|intro hsp))
      all_goals first|exact X5 (q:=⟨q.a,q.n,L1,rs⟩) rfl A8 rfl rfl rfl rfl rfl rfl rfl rfl|(exfalso;omega)
     ·rw [if_neg he]
      refine ⟨t,h,AJ1.mk (E8 D9 b37 rfl ?_) (by simp [A8]) A8⟩
      unfold c37
      unfold bkN rdN
      generalize ((a' / 64:Nat):Int)=kk at *
      (refine wx_Jfn ?_;repeat' (first|with_reducible refine And.intro ?_ ?_|intro hsp))
      all_goals first|exact X5 (q:=⟨q.a,q.n,q.L,s1⟩) rfl A8 rfl rfl rfl rfl rfl rfl rfl rfl|(exfalso;omega)
 ·rw [if_pos hin]
  refine ⟨t,h,AJ1.mk (E8 D9 b37 rfl ?_) (by simp [A8]) A8⟩
  unfold c37
  unfold bkN rdN
  unfold inR at hin
  by_cases hx1:inR 64 x
  ·rw [decide_eq_true hx1] at hsp
   (refine wx_Jf ?_;repeat' (first|with_reducible refine And.intro ?_ ?_|intro hsp))
   all_goals first|exact X5 rfl A8 rfl rfl rfl rfl rfl rfl rfl rfl|(exfalso;exact hin ⟨hx1,by omega,by omega⟩)
  ·rw [decide_eq_false hx1] at hsp
   (refine wx_Jf ?_;repeat' (first|with_reducible refine And.intro ?_ ?_|intro hsp))
   all_goals first|exact X5 rfl A8 rfl rfl rfl rfl rfl rfl rfl rfl|(exfalso;omega)
end
end Go.Proofs.YtphggldkligldaaGreat.Sh
