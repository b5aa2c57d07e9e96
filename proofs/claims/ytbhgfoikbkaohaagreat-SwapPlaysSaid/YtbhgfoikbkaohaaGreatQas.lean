/-
 The document's store: put,Counts.
 The document's store: a page is touched.
 The document's store: Read,Write,Out,Free.
 The document's store: its state.
 The document's store is made.
-/
import Derived.Test.YtbhgfoikbkaohaaGreatQar
set_option linter.unusedSimpArgs false
set_option linter.unusedVariables false
set_option maxHeartbeats 12800000
namespace Go.Pol
open Go.Am Go.Proofs.YtbhgfoikbkaohaaGreat.Sh
def cntP (c:Nat→Int) (m:Nat):Nat:=((List.range m).filter fun p=>decide (0≤c p)).length
theorem cntP_0 {c:Nat→Int}:((cntP c 0:Nat):Int)=0:=rfl
theorem cntP_s {c:Nat→Int} {m:Nat}:cntP c (m+1)=cntP c m+if 0≤c m then 1 else 0:=by
 unfold cntP
 rw [List.range_succ,List.filter_append,List.length_append]
 congr 1
 by_cases h:0≤c m
 ·rw [if_pos h];simp [h]
 ·rw [if_neg h];simp [h]
theorem cntP_le {c:Nat→Int} {m:Nat}:cntP c m≤m:=by
 unfold cntP
 exact Nat.le_trans (List.length_filter_le ..) (by rw [List.length_range];exact Nat.le_refl _)
theorem put_eq {q:Sw} {p f k:Nat} (hF:q.F p=(f:Nat)):q.put p k={ q with D:=AF5 q.D k (q.s.B f),T:=E9 q.T p (k:Nat),F:=E9 q.F p (-1),outs:=AV2 q.outs }:=by
 unfold Sw.put;rw [hF];rfl
end Go.Pol
namespace Go.Proofs.YtbhgfoikbkaohaaGreat.Sh
open Go Go.Am Go.Pol
open Go.Proofs.YtbhgfoikbkaohaaGreat.Sh renaming plx_Sxt → plx
open Go.Proofs.YtbhgfoikbkaohaaGreat.Sh renaming ppx_Sxt → ppx
theorem wx_Sxv {p q:Prop} (hq:q) (h:Y2 q→p:=by (intro hQz;((repeat' ((try (conv=>whnf));first|refine sxA ?_|refine D6 rf_0 ?_|refine D6 rf_1 ?_|refine D6 rf_2 ?_|refine D6 rf_3 ?_|refine D6 rf_4 ?_|refine D6 hrF ?_|refine ⟨S9,?_⟩|refine X6 (by rw [AA5,S9];omega) (rf_setD hk) ?_|refine L8 (by rw [AA5];omega) (Aj6 hp) ?_|refine L8 (by rw [AA5];omega) (Aj7 hp) ?_|refine D6 (rf_outsE ho (show _=q.outs from rfl)) ?_|refine L8 (by rw [AA5];omega) (BX0 ho) ?_|refine D6 hF ?_|refine D6 hT ?_|refine sxF ?_|refine dcx_Vk hB rfl rfl rfl rfl ?_|refine Ax2 hB rfl rfl (by decide) rfl ?_|refine M0 hkd rfl (by decide) ?_|refine Ax2 hT rfl rfl (by decide) rfl ?_|refine sxH ?_|((with_reducible first|apply U3 hQz|apply U4 hQz)<;>(try intro hsp hQz))|exact hQz.out))<;>(try (conv=>whnf))))):p:=h ⟨hq⟩
section
variable {q:Sw}
theorem BQ2 {a b c:Int}:Plain (.tup [.int .i64 a,.int .i64 b,.int .i64 c]):=E5 (plain_three A8 A8 A8)
set_option maxRecDepth 20000 in
theorem v_put {p f k:Nat} (hp:p < 256) (hF:q.F p=(f:Nat)) (hf:f < 1024) (hK:q.s.K f=2) (hk:k < 256) (hc:0≤q.outs∧q.outs≤1000000000):AS4 75 [.int .i64 (p:Nat),.int .i64 (k:Nat)] q (.tup []) (q.put p k):=by
 refine AS4.mk (G6 F9 b75 rfl ?_) (I4 A8 A8) R3
 rw [put_eq hF]
 have hB:=v_bytes (q:=q) hf hK
 have hrF:=rf_F (s:=1) (q:=q) hp
 rw [hF] at hrF
 have hadd:=AK9 (x:=q.outs)
 obtain ⟨o,ho⟩:∃ o,o=17158:=⟨_,rfl⟩
 unfold c75
 rw [← ho]
 unfold rfN
 (refine wx_Sxv ?_;repeat' (first|with_reducible refine And.intro ?_ ?_|intro hsp))
 all_goals first|(exfalso;omega)|(simp only [hadd];exact Z4 (q:={ q with D:=AF5 q.D k (q.s.B f),T:=E9 q.T p (k:Nat),F:=E9 q.F p (-1),outs:=AV2 q.outs }) rfl R3 rfl rfl)
theorem v_Counts (hg:F3 q):AS4 57 [] q (.tup [.int .i64 (q.inN:Nat),.int .i64 (q.outN:Nat),.int .i64 (q.idle:Nat)]) q:=by
 have hrng:=hg.rng
 refine AS4.mk (G6 F9 b57 rfl ?_) (fun x hx=>by cases hx) BQ2
 rw [show q.idle=Av1 q q.n from rfl,show q.inN=cntP q.F q.pg from rfl,show q.outN=cntP q.T q.pg from rfl]
 unfold c57
 unfold rfN
 have h1:=cntP_0 (c:=q.F)
 have h2:=cntP_0 (c:=q.T)
 (refine wx_Sxv ?_;repeat' (first|with_reducible refine And.intro ?_ ?_|intro hsp))
 (refine H7 [0,7] (fun (m:Nat)=>[(5,.int .i64 (cntP q.F m:Nat)),(6,.int .i64 (cntP q.T m:Nat)),(8,.int .i64 (m:Nat))]) (fun (m:Nat)=>⟨[(0,.cells (rfC 1 q)),(1,.cells q.s.b)],2⟩) (fun (m:Nat)=>m≤q.pg) (fun (m:Nat)=>q.pg - m) (0) [] rfl (fun _=>by first|exact Nat.zero_le _|(dsimp only;omega)) ?_ (by ((try (conv=>whnf));(rw [h1,h2]);exact Y8)) ?_)
 ·exact Nat.zero_le _
 intro m hm
 clear h1 h2
 have hc1:=cntP_le (c:=q.F) (m:=m)
 have hc2:=cntP_le (c:=q.T) (m:=m)
 by_cases hml:m < q.pg
 ·have hF:=rf_F (s:=1) (q:=q) (p:=m) (by omega)
  have hT:=rf_T (s:=1) (q:=q) (p:=m) (by omega)
  have s1:=cntP_s (c:=q.F) (m:=m)
  have s2:=cntP_s (c:=q.T) (m:=m)
  by_cases cF:0≤q.F m
  ·rw [if_pos cF] at s1
   by_cases cT:0≤q.T m
   ·rw [if_pos cT] at s2
    (refine wx_Sxv ?_;repeat' (first|with_reducible refine And.intro ?_ ?_|intro hsp))
    all_goals first|(exfalso;omega)|exact D7 (m+1) [] (by (try dsimp only);omega) (by first|omega|(dsimp only;omega)) rfl (by ((try dsimp only);rw [s1,s2]);exact Y8)
   ·rw [if_neg cT] at s2
    (refine wx_Sxv ?_;repeat' (first|with_reducible refine And.intro ?_ ?_|intro hsp))
    all_goals first|(exfalso;omega)|exact D7 (m+1) [] (by (try dsimp only);omega) (by first|omega|(dsimp only;omega)) rfl (by ((try dsimp only);rw [s1,s2]);exact Y8)
  ·rw [if_neg cF] at s1
   by_cases cT:0≤q.T m
   ·rw [if_pos cT] at s2
    (refine wx_Sxv ?_;repeat' (first|with_reducible refine And.intro ?_ ?_|intro hsp))
    all_goals first|(exfalso;omega)|exact D7 (m+1) [] (by (try dsimp only);omega) (by first|omega|(dsimp only;omega)) rfl (by ((try dsimp only);rw [s1,s2]);exact Y8)
   ·rw [if_neg cT] at s2
    (refine wx_Sxv ?_;repeat' (first|with_reducible refine And.intro ?_ ?_|intro hsp))
    all_goals first|(exfalso;omega)|exact D7 (m+1) [] (by (try dsimp only);omega) (by first|omega|(dsimp only;omega)) rfl (by ((try dsimp only);rw [s1,s2]);exact Y8)
 ·obtain rfl:m=q.pg:=by omega
  generalize cntP q.F q.pg=n1 at *
  generalize cntP q.T q.pg=n2 at *
  have hi0:=idle_0 (q:=q)
  (refine wx_Sxv ?_;repeat' (first|with_reducible refine And.intro ?_ ?_|intro hsp))
  all_goals first|(exfalso;omega)|skip
  (refine H7 [0,5,6] (fun (i:Nat)=>[(7,.int .i64 (Av1 q i:Nat)),(9,.int .i64 ((q.a+i:Nat):Int))]) (fun (i:Nat)=>⟨[(0,.cells (rfC 1 q)),(1,.cells q.s.b)],2⟩) (fun (i:Nat)=>i≤q.n) (fun (i:Nat)=>q.n - i) (0) [] rfl (fun _=>by first|exact Nat.zero_le _|(dsimp only;omega)) ?_ (by ((try (conv=>whnf));(rw [hi0]);exact Y8)) ?_)
  ·exact Nat.zero_le _
  intro i hi
  clear hi0
  have hle:=BK9 (q:=q) i
  by_cases hil:i < q.n
  ·have hkd:=BB5 (s:=q.s) (a:=(q.a+i:Nat))
   have hT:=v_inF hrng.2.2.2.1 ((q.a+i:Nat):Int)
   have hh2:=BS6 (q:=q) (f:=q.a+i)
   generalize q.inF ((q.a+i:Nat):Int)=y at *
   have hids:=idle_s (q:=q) (i:=i)
   by_cases hh:q.heldF (q.a+i)
   ·rw [Y9 (by omega) (heldK hg hh)] at hkd
    rw [if_neg (fun h2=>h2.2 hh)] at hids
    have hy:=hh2.2 hh
    clear hh2 hh
    (refine wx_Sxv ?_;repeat' (first|with_reducible refine And.intro ?_ ?_|intro hsp))
    all_goals first|(exfalso;omega)|exact D7 (i+1) [] (by (try dsimp only);omega) (by first|omega|(dsimp only;omega)) rfl (by ((try dsimp only);rw [hids]);exact Y8)
   ·have hy:¬ 0≤y:=fun h=>hh (hh2.1 h)
    rcases (hg.kind (q.a+i) (by omega) (by omega)).1 with hk|hk
    ·rw [Y9 (by omega) hk] at hkd
     rw [if_neg (fun h2=>by omega)] at hids
     clear hh2 hh
     (refine wx_Sxv ?_;repeat' (first|with_reducible refine And.intro ?_ ?_|intro hsp))
     all_goals first|(exfalso;omega)|exact D7 (i+1) [] (by (try dsimp only);omega) (by first|omega|(dsimp only;omega)) rfl (by ((try dsimp only);rw [hids]);exact Y8)
    ·rw [Y9 (by omega) hk] at hkd
     rw [if_pos ⟨hk,hh⟩] at hids
     clear hh2 hh
     (refine wx_Sxv ?_;repeat' (first|with_reducible refine And.intro ?_ ?_|intro hsp))
     all_goals first|(exfalso;omega)|exact D7 (i+1) [] (by (try dsimp only);omega) (by first|omega|(dsimp only;omega)) rfl (by ((try dsimp only);rw [hids]);exact Y8)
  ·obtain rfl:i=q.n:=by omega
   (refine wx_Sxv ?_;repeat' (first|with_reducible refine And.intro ?_ ?_|intro hsp))
   all_goals first|(exfalso;omega)|exact Z4 rfl BQ2 rfl rfl
end
end Go.Proofs.YtbhgfoikbkaohaaGreat.Sh
namespace Go.Pol
open Go.Am Go.Proofs.YtbhgfoikbkaohaaGreat.Sh
def frL (q:Sw) (i:Nat):Int:=opA ((List.range' (q.a+q.n - i) i).find? fun f=>decide (¬ q.heldF f))
theorem frL_0 {q:Sw}:frL q 0 = -1:=rfl
theorem frL_all {q:Sw}:frL q q.n=opA q.free:=by
 unfold frL Sw.free
 rw [Nat.add_sub_cancel]
theorem frL_s {q:Sw} {i g:Nat} (h:i < q.n) (hg:g=q.a+q.n - 1 - i):frL q (i+1)=if q.heldF g then frL q i else (g:Nat):=by
 unfold frL
 rw [show q.a+q.n - (i+1)=g by omega,List.range'_succ,List.find?_cons,show g+1=q.a+q.n - i by omega]
 by_cases c:q.heldF g
 ·rw [if_pos c];simp [c]
 ·rw [if_neg c];simp [c];rfl
theorem zero_rep:List.replicate 64 (AV.int .u8 0)=bcA fun _=>0:=by
 have:=As6
 unfold byE at this
 exact AV.agg.inj this
end Go.Pol
namespace Go.Proofs.YtbhgfoikbkaohaaGreat.Sh
open Go Go.Am Go.Pol
open Go.Proofs.YtbhgfoikbkaohaaGreat.Sh renaming plx_Sxt → plx
open Go.Proofs.YtbhgfoikbkaohaaGreat.Sh renaming ppx_Sxt → ppx
theorem wx_Sxw {p q:Prop} (hq:q) (h:Y2 q→p:=by (intro hQz;((repeat' ((try (conv=>whnf));first|refine sxA ?_|refine D6 rf_0 ?_|refine D6 rf_1 ?_|refine D6 rf_2 ?_|refine D6 rf_3 ?_|refine D6 rf_4 ?_|refine D6 (rf_F hp6) ?_|refine L8 (by rw [AA5];omega) (BI7 hp6) ?_|refine D6 (rf_TE hp6 hT) ?_|refine L8 (by rw [AA5];omega) (rf_setIns ho) ?_|refine L8 (by rw [AA5];omega) (Aj6 hp6) ?_|refine L8 (by rw [AA5];omega) (Aj7 hp6) ?_|refine D6 (rf_insE ho (show _=q.ins from rfl)) ?_|refine D6 (rf_FE hv6 f0) ?_|refine D6 (rf_TE hp6 hT2) ?_|refine U2 (by rw [AA5];omega) rfl (Q7 (by rw [List.length_drop,AA5];omega) (rf_D hk) ?_)|refine ⟨S9,?_⟩|refine X6 (by simp only [List.length_replicate,S9];omega) hov ?_|refine sxF ?_|refine Ax2 hI rfl rfl (by decide) rfl ?_|refine M0 hkd rfl (by decide) ?_|refine Z9 hkd rfl rfl ?_|refine M0 hcom rfl (by decide) ?_|refine Z9 hcom rfl rfl ?_|refine Ax2 hV rfl rfl (by decide) rfl ?_|refine AX1 hV rfl rfl rfl rfl ?_|refine Ax2 hS rfl rfl (by decide) rfl ?_|refine AX1 hS rfl rfl rfl rfl ?_|refine Ax2 hP rfl rfl (by decide) rfl ?_|refine AX1 hP rfl rfl rfl rfl ?_|refine sxH ?_|((with_reducible first|apply U3 hQz|apply U4 hQz)<;>(try intro hsp hQz))|exact hQz.out))<;>(try (conv=>whnf))))):p:=h ⟨hq⟩
theorem wx_Sxwn {p q:Prop} (hq:q) (h:Y2 q→p:=by (intro hQz;((repeat' ((try (conv=>whnf));first|refine sxA ?_|refine D6 rf_0 ?_|refine D6 rf_1 ?_|refine D6 rf_2 ?_|refine D6 rf_3 ?_|refine D6 rf_4 ?_|refine D6 hxk ?_|refine sxN ?_|refine M0 hws rfl (by decide) ?_|refine Z9 hws rfl rfl ?_|refine sxH ?_|((with_reducible first|apply U3 hQz|apply U4 hQz)<;>(try intro hsp hQz))|exact hQz.out))<;>(try (conv=>whnf))))):p:=h ⟨hq⟩
section
variable {q:Sw}
theorem v_touchA {p:Nat} {now:Int} (hp6:p < 256) (hF:0≤q.F p):AS4 31 [.int .i64 (p:Nat),.int .i64 now] q (.int .i64 0) { q with Z:=E9 q.Z p now }:=by
 refine AS4.mk (G6 F9 b31 rfl ?_) (I4 A8 A8) A8
 unfold c31
 unfold rfN
 (refine wx_Sxw ?_;repeat' (first|with_reducible refine And.intro ?_ ?_|intro hsp))
 all_goals first|(exfalso;omega)|exact Z4 (q:={ q with Z:=E9 q.Z p now }) rfl A8 rfl rfl
set_option maxRecDepth 20000 in
theorem v_touchB (hg:F3 q) {p:Nat} {now:Int} (hp:p < q.pg) (hF:¬ 0≤q.F p):AS4 31 [.int .i64 (p:Nat),.int .i64 now] q (.int .i64 (q.touch p now).1) (q.touch p now).2:=by
 have hrng:=hg.rng
 have hcnt:=hg.cnt
 have hpg:=hrng.2.2.2.1
 have hp6:p < 256:=by omega
 have hadd:=AK9 (x:=q.ins)
 have hz0:=zero_rep
 refine AS4.mk (G6 F9 b31 rfl ?_) (I4 A8 A8) A8
 obtain ⟨o,ho⟩:∃ o,o=17157:=⟨_,rfl⟩
 unfold c31
 rw [← ho]
 unfold rfN
 have hl0:=frL_0 (q:=q)
 (refine wx_Sxw ?_;repeat' (first|with_reducible refine And.intro ?_ ?_|intro hsp))
 all_goals first|(exfalso;omega)|skip
 (refine H7 [0,1,2] (fun (i:Nat)=>[(7,.int .i64 (frL q i)),(8,.int .i64 ((q.a:Int)+(q.n:Int) - 1 - (i:Int)))]) (fun (i:Nat)=>⟨[(0,.cells (rfC 1 q)),(1,.cells q.s.b)],2⟩) (fun (i:Nat)=>i≤q.n) (fun (i:Nat)=>q.n - i) (0) [] rfl (fun _=>by first|exact Nat.zero_le _|(dsimp only;omega)) ?_ (by ((try (conv=>whnf));(rw [hl0]);exact Y8)) ?_)
 ·exact Nat.zero_le _
 intro i hi
 clear hl0
 by_cases hil:i < q.n
 ·obtain ⟨g,hge⟩:∃ g:Nat,g=q.a+q.n - 1 - i:=⟨_,rfl⟩
  have hgi:(q.a:Int)+(q.n:Int) - 1 - (i:Int)=((g:Nat):Int):=by omega
  have hfs:=frL_s hil hge
  rw [hgi]
  have hI:=v_inF hpg ((g:Nat):Int)
  have hh:=BS6 (q:=q) (f:=g)
  generalize q.inF ((g:Nat):Int)=y at *
  by_cases hc:q.heldF g
  ·rw [if_pos hc] at hfs
   have hy:=hh.2 hc
   clear hh hc
   generalize frL q i=z at *
   (refine wx_Sxw ?_;repeat' (first|with_reducible refine And.intro ?_ ?_|intro hsp))
   all_goals first|(exfalso;omega)|exact D7 (i+1) [] (by (try dsimp only);omega) (by first|omega|(dsimp only;omega)) rfl (by ((try dsimp only);rw [hfs]);exact Y8)
  ·rw [if_neg hc] at hfs
   have hy:¬ 0≤y:=fun h=>hc (hh.1 h)
   clear hh hc
   generalize frL q i=z at *
   (refine wx_Sxw ?_;repeat' (first|with_reducible refine And.intro ?_ ?_|intro hsp))
   all_goals first|(exfalso;omega)|exact D7 (i+1) [] (by (try dsimp only);omega) (by first|omega|(dsimp only;omega)) rfl (by ((try dsimp only);rw [hfs]);exact Y8)
 ·obtain rfl:i=q.n:=by omega
  rw [frL_all]
  rcases AX3 hg p with hT | ⟨-,hT0⟩
  ·have hgot:q.got p=fun _=>0:=by unfold Sw.got;rw [if_neg (by omega)]
   cases hfr:q.free with
   | some f =>
    obtain ⟨f1,f2,f3⟩:=AE0 hfr
    have hf4:f < 1024:=by omega
    have hy:opA (some f)=((f:Nat):Int):=rfl
    rw [hy]
    rcases (hg.kind f f1 f2).1 with hk1|hk1
    ·have hkd:=BB5 (s:=q.s) (a:=(f:Nat))
     rw [Y9 (by omega) hk1] at hkd
     have hcom:=BP9 (s:=q.s) (a:=(f:Nat)) (n:=1) hg.good
     obtain ⟨e,s1,hc⟩:∃ e s1,q.s.chg (f:Nat) 1 1 2 2=(e,s1):=⟨_,_,rfl⟩
     have hcw:=comW hg ⟨f1,f2⟩ hk1 hc
     rw [hc] at hcom
     dsimp only at hcom
     by_cases he:e=0
     ·subst he
      have et:q.touch p now=(0,Sw.brg { q with s:=s1 } p f now (q.got p)):=by unfold Sw.touch;rw [if_neg hF,hfr];dsimp only;rw [if_pos hk1,hc,if_pos rfl]
      rw [et]
      dsimp only
      rw [brg_R,hgot]
      rw [if_neg (by omega)]
      (refine wx_Sxw ?_;repeat' (first|with_reducible refine And.intro ?_ ?_|intro hsp))
      all_goals first|(exfalso;omega)|skip
      rw [hz0]
      have hw0:=BG8 (s:=s1) (f:=f) (x:=fun _=>0)
      (refine H7 [0,7,9] (fun (j:Nat)=>[(17,.int .i64 (j:Nat))]) (fun (j:Nat)=>⟨[(0,.cells (rfC 1 { { q with s:=s1 } with ins:=q.ins,T:=E9 ({ q with s:=s1 }).T p (-1),F:=E9 ({ q with s:=s1 }).F p (f:Nat),Z:=E9 ({ q with s:=s1 }).Z p now })),(1,.cells (wrK s1 f (fun _=>0) j).b),(2,.cells (bcA (fun _=>0)))],3⟩) (fun (j:Nat)=>j≤64) (fun (j:Nat)=>64 - j) (0) [] rfl (fun _=>by first|exact Nat.zero_le _|(dsimp only;omega)) ?_ (by ((try (conv=>whnf));(rw [hw0]);exact Y8)) ?_)
      ·exact Nat.zero_le _
      intro j hj
      clear hw0
      by_cases hjl:j < 64
      ·have hws:=AW5 (s:=wrK s1 f (fun _=>0) j) (a:=(f:Int) * 64+(j:Nat)) (b:=(fun _=>0) j)
       rw [BG7 (hcw.2.1 rfl) hf4 hjl] at hws
       dsimp only at hws
       have hxk:(bcA (fun _=>0))[j]? = some (.int .u8 ((fun _=>0) j)):=M7 hjl
       (refine wx_Sxwn ?_;repeat' (first|with_reducible refine And.intro ?_ ?_|intro hsp))
       all_goals first|(exfalso;omega)|exact D7 (j+1) [] (by (try dsimp only);omega) (by first|omega|(dsimp only;omega)) rfl (by exact Y8)
      ·obtain rfl:j=64:=by omega
       rw [AV4 hcw.1.good]
       (refine wx_Sxw ?_;repeat' (first|with_reducible refine And.intro ?_ ?_|intro hsp))
       all_goals first|(exfalso;omega)|exact Z4 (q:=Af7 ({ q with s:=s1 }) s1 (q.ins) p f now (fun _=>0)) rfl A8 rfl rfl

     ·have et:q.touch p now=(e,{ q with s:=s1 }):=by unfold Sw.touch;rw [if_neg hF,hfr];dsimp only;rw [if_pos hk1,hc,if_neg he]
      rw [et]
      (refine wx_Sxw ?_;repeat' (first|with_reducible refine And.intro ?_ ?_|intro hsp))
      all_goals first|(exfalso;omega)|exact Z4 (q:={ q with s:=s1 }) rfl A8 rfl rfl
    ·have hkd:=BB5 (s:=q.s) (a:=(f:Nat))
     rw [Y9 (by omega) hk1] at hkd
     have et:q.touch p now=(0,q.brg p f now (q.got p)):=by unfold Sw.touch;rw [if_neg hF,hfr];dsimp only;rw [if_neg (by omega)]
     rw [et]
     dsimp only
     rw [brg_R0,hgot]
     rw [if_neg (by omega)]
     (refine wx_Sxw ?_;repeat' (first|with_reducible refine And.intro ?_ ?_|intro hsp))
     all_goals first|(exfalso;omega)|skip
     rw [hz0]
     have hw0:=BG8 (s:=q.s) (f:=f) (x:=fun _=>0)
     (refine H7 [0,7,9] (fun (j:Nat)=>[(17,.int .i64 (j:Nat))]) (fun (j:Nat)=>⟨[(0,.cells (rfC 1 { q with ins:=q.ins,T:=E9 (q).T p (-1),F:=E9 (q).F p (f:Nat),Z:=E9 (q).Z p now })),(1,.cells (wrK q.s f (fun _=>0) j).b),(2,.cells (bcA (fun _=>0)))],3⟩) (fun (j:Nat)=>j≤64) (fun (j:Nat)=>64 - j) (0) [] rfl (fun _=>by first|exact Nat.zero_le _|(dsimp only;omega)) ?_ (by ((try (conv=>whnf));(rw [hw0]);exact Y8)) ?_)
     ·exact Nat.zero_le _
     intro j hj
     clear hw0
     by_cases hjl:j < 64
     ·have hws:=AW5 (s:=wrK q.s f (fun _=>0) j) (a:=(f:Int) * 64+(j:Nat)) (b:=(fun _=>0) j)
      rw [BG7 hk1 hf4 hjl] at hws
      dsimp only at hws
      have hxk:(bcA (fun _=>0))[j]? = some (.int .u8 ((fun _=>0) j)):=M7 hjl
      (refine wx_Sxwn ?_;repeat' (first|with_reducible refine And.intro ?_ ?_|intro hsp))
      all_goals first|(exfalso;omega)|exact D7 (j+1) [] (by (try dsimp only);omega) (by first|omega|(dsimp only;omega)) rfl (by exact Y8)
     ·obtain rfl:j=64:=by omega
      rw [AV4 hg.good]
      (refine wx_Sxw ?_;repeat' (first|with_reducible refine And.intro ?_ ?_|intro hsp))
      all_goals first|(exfalso;omega)|exact Z4 (q:=Af7 (q) q.s (q.ins) p f now (fun _=>0)) rfl A8 rfl rfl

   | none =>
    have hy:opA (none:Option Nat) = -1:=rfl
    rw [hy]
    have hV:=At0 (q:=q) hpg
    have hS:=v_slot hpg hrng.2.2.2.2 (-1)
    cases hsl:q.slot (-1) with
    | none =>
     rw [hsl] at hS
     have hy2:opA (none:Option Nat) = -1:=rfl
     rw [hy2] at hS
     have et:q.touch p now=(5,q):=by unfold Sw.touch;rw [if_neg hF,hfr];dsimp only;rw [hT,hsl]
     rw [et]
     obtain ⟨v,hv⟩:=AY2 hg hfr
     rw [hv] at hV
     unfold vicA at hV
     dsimp only at hV
     (refine wx_Sxw ?_;repeat' (first|with_reducible refine And.intro ?_ ?_|intro hsp))
     all_goals first|(exfalso;omega)|exact Z4 rfl A8 rfl rfl
    | some k2 =>
     rw [hsl] at hS
     have hy2:opA (some k2)=((k2:Nat):Int):=rfl
     rw [hy2] at hS
     obtain ⟨v,hv⟩:=AY2 hg hfr
     obtain ⟨v1,v2⟩:=vic_at hg hv
     obtain ⟨f,f0,f1,f2,f3⟩:=R5 hg v2
     have hf4:f < 1024:=by omega
     have hv6:v < 256:=by omega
     have hk2:=(AB0 hsl).1
     rw [hv] at hV
     unfold vicA at hV
     dsimp only at hV
     have hvp:v ≠ p:=fun e=>hF (by rw [← e];exact v2)
     have hP:=v_put (q:=q) hv6 f0 hf4 f3 (k:=k2) (by omega) hcnt.2.2
     have hT2:(q.put v k2).T p = -1:=by
      show E9 q.T v (k2:Nat) p=_
      rw [upd_ne hvp.symm];exact hT
     have et:q.touch p now=(0,(q.put v k2).brg p f now (q.got p)):=by unfold Sw.touch;rw [if_neg hF,hfr];dsimp only;rw [hT,hsl,hv];dsimp only;rw [f0];rfl
     rw [et]
     dsimp only
     rw [put_R hvp,hgot]
     rw [if_neg (by omega)]
     (refine wx_Sxw ?_;repeat' (first|with_reducible refine And.intro ?_ ?_|intro hsp))
     all_goals first|(exfalso;omega)|skip
     rw [hz0]
     have hw0:=BG8 (s:=q.s) (f:=f) (x:=fun _=>0)
     (refine H7 [0,7,9] (fun (j:Nat)=>[(17,.int .i64 (j:Nat))]) (fun (j:Nat)=>⟨[(0,.cells (rfC 1 { q.put v k2 with ins:=q.ins,T:=E9 (q.put v k2).T p (-1),F:=E9 (q.put v k2).F p (f:Nat),Z:=E9 (q.put v k2).Z p now })),(1,.cells (wrK q.s f (fun _=>0) j).b),(2,.cells (bcA (fun _=>0)))],3⟩) (fun (j:Nat)=>j≤64) (fun (j:Nat)=>64 - j) (0) [] rfl (fun _=>by first|exact Nat.zero_le _|(dsimp only;omega)) ?_ (by ((try (conv=>whnf));(rw [hw0]);exact Y8)) ?_)
     ·exact Nat.zero_le _
     intro j hj
     clear hw0
     by_cases hjl:j < 64
     ·have hws:=AW5 (s:=wrK q.s f (fun _=>0) j) (a:=(f:Int) * 64+(j:Nat)) (b:=(fun _=>0) j)
      rw [BG7 f3 hf4 hjl] at hws
      dsimp only at hws
      have hxk:(bcA (fun _=>0))[j]? = some (.int .u8 ((fun _=>0) j)):=M7 hjl
      (refine wx_Sxwn ?_;repeat' (first|with_reducible refine And.intro ?_ ?_|intro hsp))
      all_goals first|(exfalso;omega)|exact D7 (j+1) [] (by (try dsimp only);omega) (by first|omega|(dsimp only;omega)) rfl (by exact Y8)
     ·obtain rfl:j=64:=by omega
      rw [AV4 hg.good]
      (refine wx_Sxw ?_;repeat' (first|with_reducible refine And.intro ?_ ?_|intro hsp))
      all_goals first|(exfalso;omega)|exact Z4 (q:=Af7 (q.put v k2) q.s (q.ins) p f now (fun _=>0)) rfl A8 rfl rfl
  ·obtain ⟨k,hT⟩:=Int.eq_ofNat_of_zero_le hT0
   have hk:k < 256:=by
    rcases hg.sl p with h | ⟨_,k',h1,h2⟩
    ·omega
    ·omega
   have hgot:q.got p=q.D k:=by unfold Sw.got;rw [if_pos hT0,hT,Int.toNat_natCast]
   have hov:=AL1 (x:=q.D k)
   cases hfr:q.free with
   | some f =>
    obtain ⟨f1,f2,f3⟩:=AE0 hfr
    have hf4:f < 1024:=by omega
    have hy:opA (some f)=((f:Nat):Int):=rfl
    rw [hy]
    rcases (hg.kind f f1 f2).1 with hk1|hk1
    ·have hkd:=BB5 (s:=q.s) (a:=(f:Nat))
     rw [Y9 (by omega) hk1] at hkd
     have hcom:=BP9 (s:=q.s) (a:=(f:Nat)) (n:=1) hg.good
     obtain ⟨e,s1,hc⟩:∃ e s1,q.s.chg (f:Nat) 1 1 2 2=(e,s1):=⟨_,_,rfl⟩
     have hcw:=comW hg ⟨f1,f2⟩ hk1 hc
     rw [hc] at hcom
     dsimp only at hcom
     by_cases he:e=0
     ·subst he
      have et:q.touch p now=(0,Sw.brg { q with s:=s1 } p f now (q.got p)):=by unfold Sw.touch;rw [if_neg hF,hfr];dsimp only;rw [if_pos hk1,hc,if_pos rfl]
      rw [et]
      dsimp only
      rw [brg_R,hgot]
      rw [if_pos (by omega)]
      (refine wx_Sxw ?_;repeat' (first|with_reducible refine And.intro ?_ ?_|intro hsp))
      all_goals first|(exfalso;omega)|skip
      simp only [hadd]
      have hw0:=BG8 (s:=s1) (f:=f) (x:=q.D k)
      (refine H7 [0,7,9] (fun (j:Nat)=>[(17,.int .i64 (j:Nat))]) (fun (j:Nat)=>⟨[(0,.cells (rfC 1 { { q with s:=s1 } with ins:=AV2 q.ins,T:=E9 ({ q with s:=s1 }).T p (-1),F:=E9 ({ q with s:=s1 }).F p (f:Nat),Z:=E9 ({ q with s:=s1 }).Z p now })),(1,.cells (wrK s1 f (q.D k) j).b),(2,.cells (bcA (q.D k)))],3⟩) (fun (j:Nat)=>j≤64) (fun (j:Nat)=>64 - j) (0) [] rfl (fun _=>by first|exact Nat.zero_le _|(dsimp only;omega)) ?_ (by ((try (conv=>whnf));(rw [hw0]);exact Y8)) ?_)
      ·exact Nat.zero_le _
      intro j hj
      clear hw0
      by_cases hjl:j < 64
      ·have hws:=AW5 (s:=wrK s1 f (q.D k) j) (a:=(f:Int) * 64+(j:Nat)) (b:=(q.D k) j)
       rw [BG7 (hcw.2.1 rfl) hf4 hjl] at hws
       dsimp only at hws
       have hxk:(bcA (q.D k))[j]? = some (.int .u8 ((q.D k) j)):=M7 hjl
       (refine wx_Sxwn ?_;repeat' (first|with_reducible refine And.intro ?_ ?_|intro hsp))
       all_goals first|(exfalso;omega)|exact D7 (j+1) [] (by (try dsimp only);omega) (by first|omega|(dsimp only;omega)) rfl (by exact Y8)
      ·obtain rfl:j=64:=by omega
       rw [AV4 hcw.1.good]
       (refine wx_Sxw ?_;repeat' (first|with_reducible refine And.intro ?_ ?_|intro hsp))
       all_goals first|(exfalso;omega)|exact Z4 (q:=Af7 ({ q with s:=s1 }) s1 (AV2 q.ins) p f now (q.D k)) rfl A8 rfl rfl

     ·have et:q.touch p now=(e,{ q with s:=s1 }):=by unfold Sw.touch;rw [if_neg hF,hfr];dsimp only;rw [if_pos hk1,hc,if_neg he]
      rw [et]
      (refine wx_Sxw ?_;repeat' (first|with_reducible refine And.intro ?_ ?_|intro hsp))
      all_goals first|(exfalso;omega)|exact Z4 (q:={ q with s:=s1 }) rfl A8 rfl rfl
    ·have hkd:=BB5 (s:=q.s) (a:=(f:Nat))
     rw [Y9 (by omega) hk1] at hkd
     have et:q.touch p now=(0,q.brg p f now (q.got p)):=by unfold Sw.touch;rw [if_neg hF,hfr];dsimp only;rw [if_neg (by omega)]
     rw [et]
     dsimp only
     rw [brg_R0,hgot]
     rw [if_pos (by omega)]
     (refine wx_Sxw ?_;repeat' (first|with_reducible refine And.intro ?_ ?_|intro hsp))
     all_goals first|(exfalso;omega)|skip
     simp only [hadd]
     have hw0:=BG8 (s:=q.s) (f:=f) (x:=q.D k)
     (refine H7 [0,7,9] (fun (j:Nat)=>[(17,.int .i64 (j:Nat))]) (fun (j:Nat)=>⟨[(0,.cells (rfC 1 { q with ins:=AV2 q.ins,T:=E9 (q).T p (-1),F:=E9 (q).F p (f:Nat),Z:=E9 (q).Z p now })),(1,.cells (wrK q.s f (q.D k) j).b),(2,.cells (bcA (q.D k)))],3⟩) (fun (j:Nat)=>j≤64) (fun (j:Nat)=>64 - j) (0) [] rfl (fun _=>by first|exact Nat.zero_le _|(dsimp only;omega)) ?_ (by ((try (conv=>whnf));(rw [hw0]);exact Y8)) ?_)
     ·exact Nat.zero_le _
     intro j hj
     clear hw0
     by_cases hjl:j < 64
     ·have hws:=AW5 (s:=wrK q.s f (q.D k) j) (a:=(f:Int) * 64+(j:Nat)) (b:=(q.D k) j)
      rw [BG7 hk1 hf4 hjl] at hws
      dsimp only at hws
      have hxk:(bcA (q.D k))[j]? = some (.int .u8 ((q.D k) j)):=M7 hjl
      (refine wx_Sxwn ?_;repeat' (first|with_reducible refine And.intro ?_ ?_|intro hsp))
      all_goals first|(exfalso;omega)|exact D7 (j+1) [] (by (try dsimp only);omega) (by first|omega|(dsimp only;omega)) rfl (by exact Y8)
     ·obtain rfl:j=64:=by omega
      rw [AV4 hg.good]
      (refine wx_Sxw ?_;repeat' (first|with_reducible refine And.intro ?_ ?_|intro hsp))
      all_goals first|(exfalso;omega)|exact Z4 (q:=Af7 (q) q.s (AV2 q.ins) p f now (q.D k)) rfl A8 rfl rfl

   | none =>
    have hy:opA (none:Option Nat) = -1:=rfl
    rw [hy]
    have hV:=At0 (q:=q) hpg
    have hS:=v_slot hpg hrng.2.2.2.2 ((k:Nat))
    cases hsl:q.slot ((k:Nat)) with
    | none =>
     rw [hsl] at hS
     have hy2:opA (none:Option Nat) = -1:=rfl
     rw [hy2] at hS
     have et:q.touch p now=(5,q):=by unfold Sw.touch;rw [if_neg hF,hfr];dsimp only;rw [hT,hsl]
     rw [et]
     obtain ⟨v,hv⟩:=AY2 hg hfr
     rw [hv] at hV
     unfold vicA at hV
     dsimp only at hV
     (refine wx_Sxw ?_;repeat' (first|with_reducible refine And.intro ?_ ?_|intro hsp))
     all_goals first|(exfalso;omega)|exact Z4 rfl A8 rfl rfl
    | some k2 =>
     rw [hsl] at hS
     have hy2:opA (some k2)=((k2:Nat):Int):=rfl
     rw [hy2] at hS
     obtain ⟨v,hv⟩:=AY2 hg hfr
     obtain ⟨v1,v2⟩:=vic_at hg hv
     obtain ⟨f,f0,f1,f2,f3⟩:=R5 hg v2
     have hf4:f < 1024:=by omega
     have hv6:v < 256:=by omega
     have hk2:=(AB0 hsl).1
     rw [hv] at hV
     unfold vicA at hV
     dsimp only at hV
     have hvp:v ≠ p:=fun e=>hF (by rw [← e];exact v2)
     have hP:=v_put (q:=q) hv6 f0 hf4 f3 (k:=k2) (by omega) hcnt.2.2
     have hT2:(q.put v k2).T p=(k:Nat):=by
      show E9 q.T v (k2:Nat) p=_
      rw [upd_ne hvp.symm];exact hT
     have et:q.touch p now=(0,(q.put v k2).brg p f now (q.got p)):=by unfold Sw.touch;rw [if_neg hF,hfr];dsimp only;rw [hT,hsl,hv];dsimp only;rw [f0];rfl
     rw [et]
     dsimp only
     rw [put_R hvp,hgot]
     rw [if_pos (by omega)]
     (refine wx_Sxw ?_;repeat' (first|with_reducible refine And.intro ?_ ?_|intro hsp))
     all_goals first|(exfalso;omega)|skip
     simp only [hadd]
     have hw0:=BG8 (s:=q.s) (f:=f) (x:=q.D k)
     (refine H7 [0,7,9] (fun (j:Nat)=>[(17,.int .i64 (j:Nat))]) (fun (j:Nat)=>⟨[(0,.cells (rfC 1 { q.put v k2 with ins:=AV2 q.ins,T:=E9 (q.put v k2).T p (-1),F:=E9 (q.put v k2).F p (f:Nat),Z:=E9 (q.put v k2).Z p now })),(1,.cells (wrK q.s f (q.D k) j).b),(2,.cells (bcA (q.D k)))],3⟩) (fun (j:Nat)=>j≤64) (fun (j:Nat)=>64 - j) (0) [] rfl (fun _=>by first|exact Nat.zero_le _|(dsimp only;omega)) ?_ (by ((try (conv=>whnf));(rw [hw0]);exact Y8)) ?_)
     ·exact Nat.zero_le _
     intro j hj
     clear hw0
     by_cases hjl:j < 64
     ·have hws:=AW5 (s:=wrK q.s f (q.D k) j) (a:=(f:Int) * 64+(j:Nat)) (b:=(q.D k) j)
      rw [BG7 f3 hf4 hjl] at hws
      dsimp only at hws
      have hxk:(bcA (q.D k))[j]? = some (.int .u8 ((q.D k) j)):=M7 hjl
      (refine wx_Sxwn ?_;repeat' (first|with_reducible refine And.intro ?_ ?_|intro hsp))
      all_goals first|(exfalso;omega)|exact D7 (j+1) [] (by (try dsimp only);omega) (by first|omega|(dsimp only;omega)) rfl (by exact Y8)
     ·obtain rfl:j=64:=by omega
      rw [AV4 hg.good]
      (refine wx_Sxw ?_;repeat' (first|with_reducible refine And.intro ?_ ?_|intro hsp))
      all_goals first|(exfalso;omega)|exact Z4 (q:=Af7 (q.put v k2) q.s (AV2 q.ins) p f now (q.D k)) rfl A8 rfl rfl
end
end Go.Proofs.YtbhgfoikbkaohaaGreat.Sh
namespace Go.Proofs.YtbhgfoikbkaohaaGreat.Sh
open Go Go.Am Go.Pol
theorem wx_Sxxn {p q:Prop} (hq:q) (h:Y2 q→p:=by (intro hQz;((repeat' ((try (conv=>whnf));first|refine sxA ?_|refine AF3 hq64 ?_|refine AF3 hm64 ?_|refine D6 rf_0 ?_|refine D6 rf_1 ?_|refine D6 rf_2 ?_|refine D6 rf_3 ?_|refine D6 rf_4 ?_|refine D6 (rf_FE hp6 f0) ?_|refine D6 (rf_F hp6) ?_|refine D6 (rf_T hp6) ?_|refine L8 (by rw [AA5];omega) (Aj6 hp6) ?_|refine L8 (by rw [AA5];omega) (Aj7 hp6) ?_|refine L8 (by rw [AA5];omega) (BI7 hp6) ?_|refine sxN ?_|refine Ax2 hN rfl rfl (by decide) rfl ?_|refine AX1 hN rfl rfl rfl rfl ?_|refine Ax2 hT rfl rfl (by decide) rfl ?_|refine AX1 hT rfl rfl rfl rfl ?_|refine M0 hR rfl (by decide) ?_|refine Z9 hR rfl rfl ?_|refine Ax2 hS rfl rfl (by decide) rfl ?_|refine AX1 hS rfl rfl rfl rfl ?_|refine Ax2 hP rfl rfl (by decide) rfl ?_|refine AX1 hP rfl rfl rfl rfl ?_|refine M0 hdec rfl (by decide) ?_|refine Z9 hdec rfl rfl ?_|refine sxH ?_|((with_reducible first|apply U3 hQz|apply U4 hQz)<;>(try intro hsp hQz))|exact hQz.out))<;>(try (conv=>whnf))))):p:=h ⟨hq⟩
theorem wx_Sxx {p q:Prop} (hq:q) (h:Y2 q→p:=by (intro hQz;((repeat' ((try (conv=>whnf));first|refine sxA ?_|refine AF3 hq64 ?_|refine AF3 hm64 ?_|refine D6 rf_0 ?_|refine D6 rf_1 ?_|refine D6 rf_2 ?_|refine D6 rf_3 ?_|refine D6 rf_4 ?_|refine D6 (rf_F hp6) ?_|refine D6 (rf_T hp6) ?_|refine L8 (by rw [AA5];omega) (Aj6 hp6) ?_|refine L8 (by rw [AA5];omega) (Aj7 hp6) ?_|refine L8 (by rw [AA5];omega) (BI7 hp6) ?_|refine sxF ?_|refine Ax2 hN rfl rfl (by decide) rfl ?_|refine AX1 hN rfl rfl rfl rfl ?_|refine Ax2 hT rfl rfl (by decide) rfl ?_|refine AX1 hT rfl rfl rfl rfl ?_|refine Ax2 hS rfl rfl (by decide) rfl ?_|refine AX1 hS rfl rfl rfl rfl ?_|refine sxH ?_|((with_reducible first|apply U3 hQz|apply U4 hQz)<;>(try intro hsp hQz))|exact hQz.out))<;>(try (conv=>whnf))))):p:=h ⟨hq⟩
section
variable {q:Sw}
theorem v_touch (hg:F3 q) {p:Nat} {now:Int} (hp:p < q.pg):AS4 31 [.int .i64 (p:Nat),.int .i64 now] q (.int .i64 (q.touch p now).1) (q.touch p now).2:=by
 by_cases hF:0≤q.F p
 ·have e:q.touch p now=(0,{ q with Z:=E9 q.Z p now }):=by unfold Sw.touch;rw [if_pos hF]
  rw [e]
  have:=hg.rng
  exact v_touchA (by omega) hF
 ·exact v_touchB hg hp hF
theorem v_Read (hg:F3 q) (at_ now:Int):AS4 51 [.int .i64 at_,.int .i64 now] q (.tup [.int .u8 (q.read at_ now).1,.int .i64 (q.read at_ now).2.1]) (q.read at_ now).2.2:=by
 have hrng:=hg.rng
 have hN:=Az8 (q:=q) hrng.2.2.2.1 at_ now
 refine AS4.mk (G6 F9 b51 rfl ?_) (I4 A8 A8) (E5 (I4 A8 A8))
 unfold c51
 unfold rfN
 by_cases hn:q.nums at_ now
 ·rw [decide_eq_true hn] at hN
  obtain ⟨n1,n2,n3,n4⟩:=hn
  obtain ⟨a,rfl⟩:=Int.eq_ofNat_of_zero_le n1
  have ha:a < 100000:=by omega
  have hp6:a / 64 < 256:=by omega
  have hq64:=q64 ha
  have hm64:=m64 (t:=a)
  have hml:a % 64 < 64:=Nat.mod_lt _ (by decide)
  by_cases hi:q.is (a / 64)
  ·have hT:=v_touch hg (p:=a / 64) (now:=now) (by omega)
   by_cases he:(q.touch (a / 64) now).1=0
   ·have er:q.read (a:Nat) now=(((q.touch (a / 64) now).2.s.read ((q.touch (a / 64) now).2.F (a / 64) * 64+((a:Nat):Int) % 64)).1,((q.touch (a / 64) now).2.s.read ((q.touch (a / 64) now).2.F (a / 64) * 64+((a:Nat):Int) % 64)).2,(q.touch (a / 64) now).2):=by
     unfold Sw.read
     rw [if_neg (Classical.not_not.2 ⟨n1,n2,n3,n4⟩),Int.toNat_natCast,if_neg (Classical.not_not.2 hi),if_pos he]
    rw [er]
    rcases AS5 hg (p:=a / 64) now with hy|hno
    ·have hg2:=AA9 hg (p:=a / 64) (now:=now) (by omega) ⟨n3,n4⟩
     rw [he] at hT
     obtain ⟨f,f0,f1,f2,_⟩:=R5 hg2 hy.fr
     have hr2:=hg2.rng
     have hR:=q_read (s:=(q.touch (a / 64) now).2.s) (a:=((f:Nat):Int) * 64+((a % 64:Nat):Int))
     dsimp only
     rw [f0,BT8]
     unfold Sw.is at hi
     have hf4:f < 1024:=by omega
     clear hy hg2 er he hrng f1 f2 hr2
     generalize (q.touch (a / 64) now).2=q2 at *
     generalize q2.s.read (((f:Nat):Int) * 64+((a % 64:Nat):Int))=w at *
     (refine wx_Sxxn ?_;repeat' (first|with_reducible refine And.intro ?_ ?_|intro hsp))
     all_goals first|(exfalso;omega)|exact Z4 (q:=q2) rfl (E5 (I4 A8 A8)) rfl rfl
    ·exact absurd he hno.e
   ·have er:q.read (a:Nat) now=(0,(q.touch (a / 64) now).1,(q.touch (a / 64) now).2):=by
     unfold Sw.read
     rw [if_neg (Classical.not_not.2 ⟨n1,n2,n3,n4⟩),Int.toNat_natCast,if_neg (Classical.not_not.2 hi),if_neg he]
    rw [er]
    unfold Sw.is at hi
    generalize q.touch (a / 64) now=r at *
    (refine wx_Sxx ?_;repeat' (first|with_reducible refine And.intro ?_ ?_|intro hsp))
    all_goals first|(exfalso;omega)|exact Z4 (q:=r.2) rfl (E5 (I4 A8 A8)) rfl rfl
  ·have er:q.read (a:Nat) now=(0,0,q):=by
    unfold Sw.read
    rw [if_neg (Classical.not_not.2 ⟨n1,n2,n3,n4⟩),Int.toNat_natCast,if_pos hi]
   rw [er]
   unfold Sw.is at hi
   (refine wx_Sxx ?_;repeat' (first|with_reducible refine And.intro ?_ ?_|intro hsp))
   all_goals first|(exfalso;omega)|exact Z4 rfl (E5 (I4 A8 A8)) rfl rfl
 ·have er:q.read at_ now=(0,7,q):=by unfold Sw.read;rw [if_pos hn]
  rw [er]
  rw [decide_eq_false hn] at hN
  (refine wx_Sxx ?_;repeat' (first|with_reducible refine And.intro ?_ ?_|intro hsp))
  all_goals first|(exfalso;omega)|exact Z4 rfl (E5 (I4 A8 A8)) rfl rfl
theorem v_Write (hg:F3 q) (at_ now v:Int):AS4 9 [.int .i64 at_,.int .i64 now,.int .u8 v] q (.int .i64 (q.write at_ now v).1) (q.write at_ now v).2:=by
 have hrng:=hg.rng
 have hN:=Az8 (q:=q) hrng.2.2.2.1 at_ now
 refine AS4.mk (G6 F9 b9 rfl ?_) (plain_three A8 A8 A8) A8
 unfold c9
 unfold rfN
 by_cases hn:q.nums at_ now
 ·rw [decide_eq_true hn] at hN
  obtain ⟨n1,n2,n3,n4⟩:=hn
  obtain ⟨a,rfl⟩:=Int.eq_ofNat_of_zero_le n1
  have ha:a < 100000:=by omega
  have hp6:a / 64 < 256:=by omega
  have hq64:=q64 ha
  have hm64:=m64 (t:=a)
  have hml:a % 64 < 64:=Nat.mod_lt _ (by decide)
  have hT:=v_touch hg (p:=a / 64) (now:=now) (by omega)
  by_cases he:(q.touch (a / 64) now).1=0
  ·have er:q.write (a:Nat) now v=(q.touch (a / 64) now).2.byte (a:Nat) v:=by
    unfold Sw.write
    rw [if_neg (Classical.not_not.2 ⟨n1,n2,n3,n4⟩),Int.toNat_natCast,if_pos he]
   rw [er]
   rcases AS5 hg (p:=a / 64) now with hy|hno
   ·have hg2:=AA9 hg (p:=a / 64) (now:=now) (by omega) ⟨n3,n4⟩
    rw [he] at hT
    obtain ⟨f,f0,f1,f2,_⟩:=R5 hg2 hy.fr
    have hr2:=hg2.rng
    have hR:=AW5 (s:=(q.touch (a / 64) now).2.s) (a:=((f:Nat):Int) * 64+((a % 64:Nat):Int)) (b:=v)
    unfold Sw.byte
    dsimp only
    rw [Int.toNat_natCast,f0,BT8]
    have hf4:f < 1024:=by omega
    clear hy hg2 er he hrng f1 f2 hr2
    generalize (q.touch (a / 64) now).2=q2 at *
    generalize q2.s.write (((f:Nat):Int) * 64+((a % 64:Nat):Int)) v=w at *
    (refine wx_Sxxn ?_;repeat' (first|with_reducible refine And.intro ?_ ?_|intro hsp))
    all_goals first|(exfalso;omega)|exact Z4 (q:={ q2 with s:=w.2 }) rfl A8 rfl rfl
   ·exact absurd he hno.e
  ·have er:q.write (a:Nat) now v=q.touch (a / 64) now:=by
    unfold Sw.write
    rw [if_neg (Classical.not_not.2 ⟨n1,n2,n3,n4⟩),Int.toNat_natCast,if_neg he]
   rw [er]
   generalize q.touch (a / 64) now=r at *
   (refine wx_Sxx ?_;repeat' (first|with_reducible refine And.intro ?_ ?_|intro hsp))
   all_goals first|(exfalso;omega)|exact Z4 (q:=r.2) rfl A8 rfl rfl
 ·have er:q.write at_ now v=(7,q):=by unfold Sw.write;rw [if_pos hn]
  rw [er]
  rw [decide_eq_false hn] at hN
  (refine wx_Sxx ?_;repeat' (first|with_reducible refine And.intro ?_ ?_|intro hsp))
  all_goals first|(exfalso;omega)|exact Z4 rfl A8 rfl rfl
set_option maxRecDepth 20000 in
theorem v_Out (hg:F3 q) (p:Int):AS4 52 [.int .i64 p] q (.int .i64 (q.out p).1) (q.out p).2:=by
 have hrng:=hg.rng
 have hcnt:=hg.cnt
 have hpg:=hrng.2.2.2.1
 refine AS4.mk (G6 F9 b52 rfl ?_) (R9 A8) A8
 unfold c52
 unfold rfN
 by_cases hp:0≤p∧p < (q.pg:Nat)
 ·obtain ⟨n,rfl⟩:=Int.eq_ofNat_of_zero_le hp.1
  have hp6:n < 256:=by omega
  by_cases hF:q.F n < 0
  ·have er:q.out (n:Nat)=(4,q):=by unfold Sw.out;rw [if_neg (Classical.not_not.2 hp),Int.toNat_natCast,if_pos hF]
   rw [er]
   (refine wx_Sxx ?_;repeat' (first|with_reducible refine And.intro ?_ ?_|intro hsp))
   all_goals first|(exfalso;omega)|exact Z4 rfl A8 rfl rfl
  ·obtain ⟨f,f0,f1,f2,f3⟩:=R5 hg (p:=n) (by omega)
   have hS:=v_slot hpg hrng.2.2.2.2 (-1)
   cases hsl:q.slot (-1) with
   | none =>
    have er:q.out (n:Nat)=(5,q):=by unfold Sw.out;rw [if_neg (Classical.not_not.2 hp),Int.toNat_natCast,if_neg hF,hsl]
    rw [er]
    rw [hsl] at hS
    have hy:opA (none:Option Nat) = -1:=rfl
    rw [hy] at hS
    (refine wx_Sxx ?_;repeat' (first|with_reducible refine And.intro ?_ ?_|intro hsp))
    all_goals first|(exfalso;omega)|exact Z4 rfl A8 rfl rfl
   | some k =>
    have er:q.out (n:Nat)=(0,(q.put n k).gone (q.F n)):=by unfold Sw.out;rw [if_neg (Classical.not_not.2 hp),Int.toNat_natCast,if_neg hF,hsl]
    rw [er]
    rw [hsl] at hS
    have hy:opA (some k)=((k:Nat):Int):=rfl
    rw [hy] at hS
    have hk:=(AB0 hsl).1
    have hP:=v_put (q:=q) hp6 f0 (by omega) f3 (k:=k) (by omega) hcnt.2.2
    have hdec:=Aq3 (s:=q.s) (a:=(f:Nat)) (n:=1) hg.good
    have hf4:f < 1024:=by omega
    have hge:(q.put n k).gone (q.F n)={ q.put n k with s:=(q.s.chg (f:Nat) 1 2 1 3).2 }:=by unfold Sw.gone;rw [f0];rfl
    rw [hge]
    generalize q.s.chg (f:Nat) 1 2 1 3=w at *
    (refine wx_Sxxn ?_;repeat' (first|with_reducible refine And.intro ?_ ?_|intro hsp))
    all_goals first|(exfalso;omega)|exact Z4 (q:={ q.put n k with s:=w.2 }) rfl A8 rfl rfl
 ·have er:q.out p=(7,q):=by unfold Sw.out;rw [if_pos hp]
  rw [er]
  (refine wx_Sxx ?_;repeat' (first|with_reducible refine And.intro ?_ ?_|intro hsp))
  all_goals first|(exfalso;omega)|exact Z4 rfl A8 rfl rfl
set_option maxRecDepth 20000 in
theorem v_Free (hg:F3 q) (p:Int):AS4 53 [.int .i64 p] q (.int .i64 (q.fre p).1) (q.fre p).2:=by
 have hrng:=hg.rng
 have hpg:=hrng.2.2.2.1
 refine AS4.mk (G6 F9 b53 rfl ?_) (R9 A8) A8
 unfold c53
 unfold rfN
 by_cases hp:0≤p∧p < (q.pg:Nat)
 ·obtain ⟨n,rfl⟩:=Int.eq_ofNat_of_zero_le hp.1
  have hp6:n < 256:=by omega
  by_cases hi:q.is n
  ·by_cases hF:0≤q.F n
   ·obtain ⟨f,f0,f1,f2,f3⟩:=R5 hg (p:=n) hF
    have er:q.fre (n:Nat)=(0,Sw.gone { q with F:=E9 q.F n (-1),T:=E9 q.T n (-1),Z:=E9 q.Z n 0 } (q.F n)):=by unfold Sw.fre;rw [if_neg (Classical.not_not.2 hp),Int.toNat_natCast,if_neg (Classical.not_not.2 hi),if_pos hF]
    rw [er]
    have hdec:=Aq3 (s:=q.s) (a:=(f:Nat)) (n:=1) hg.good
    have hf4:f < 1024:=by omega
    have hge:Sw.gone { q with F:=E9 q.F n (-1),T:=E9 q.T n (-1),Z:=E9 q.Z n 0 } (q.F n)={ q with F:=E9 q.F n (-1),T:=E9 q.T n (-1),Z:=E9 q.Z n 0,s:=(q.s.chg (f:Nat) 1 2 1 3).2 }:=by unfold Sw.gone;rw [f0]
    rw [hge]
    unfold Sw.is at hi
    generalize q.s.chg (f:Nat) 1 2 1 3=w at *
    (refine wx_Sxxn ?_;repeat' (first|with_reducible refine And.intro ?_ ?_|intro hsp))
    all_goals first|(exfalso;omega)|exact Z4 (q:={ q with F:=E9 q.F n (-1),T:=E9 q.T n (-1),Z:=E9 q.Z n 0,s:=w.2 }) rfl A8 rfl rfl
   ·have er:q.fre (n:Nat)=(0,{ q with F:=E9 q.F n (-1),T:=E9 q.T n (-1),Z:=E9 q.Z n 0 }):=by unfold Sw.fre;rw [if_neg (Classical.not_not.2 hp),Int.toNat_natCast,if_neg (Classical.not_not.2 hi),if_neg hF]
    rw [er]
    unfold Sw.is at hi
    (refine wx_Sxx ?_;repeat' (first|with_reducible refine And.intro ?_ ?_|intro hsp))
    all_goals first|(exfalso;omega)|exact Z4 (q:={ q with F:=E9 q.F n (-1),T:=E9 q.T n (-1),Z:=E9 q.Z n 0 }) rfl A8 rfl rfl
  ·have er:q.fre (n:Nat)=(4,q):=by unfold Sw.fre;rw [if_neg (Classical.not_not.2 hp),Int.toNat_natCast,if_pos hi]
   rw [er]
   unfold Sw.is at hi
   (refine wx_Sxx ?_;repeat' (first|with_reducible refine And.intro ?_ ?_|intro hsp))
   all_goals first|(exfalso;omega)|exact Z4 rfl A8 rfl rfl
 ·have er:q.fre p=(7,q):=by unfold Sw.fre;rw [if_pos hp]
  rw [er]
  (refine wx_Sxx ?_;repeat' (first|with_reducible refine And.intro ?_ ?_|intro hsp))
  all_goals first|(exfalso;omega)|exact Z4 rfl A8 rfl rfl
end
end Go.Proofs.YtbhgfoikbkaohaaGreat.Sh
namespace Go.Pol
open Go.Am Go.Proofs.YtbhgfoikbkaohaaGreat.Sh
def whN (q:Sw) (m:Nat):List (Int × Int × Int × Int):=((List.range m).filter fun p=>decide (q.is p)).map (whE q)
def dkN (q:Sw) (m:Nat):List (Int × (Nat→Int)):=((List.range m).filter fun k=>decide (q.heldT k)).map (dkE q)
section
variable {q:Sw} {m:Nat}
theorem whN_0:whN q 0=[]:=rfl
theorem dkN_0:dkN q 0=[]:=rfl
theorem whN_all:whN q q.pg=q.whr:=rfl
theorem dkN_all:dkN q q.sl=q.dsk:=rfl
theorem whN_y (h:q.is m):whN q (m+1)=whN q m++[whE q m]:=by
 unfold whN
 rw [List.range_succ,List.filter_append,List.map_append]
 simp [h]
theorem whN_n (h:¬ q.is m):whN q (m+1)=whN q m:=by
 unfold whN
 rw [List.range_succ,List.filter_append,List.map_append]
 simp [h]
theorem dkN_y (h:q.heldT m):dkN q (m+1)=dkN q m++[dkE q m]:=by
 unfold dkN
 rw [List.range_succ,List.filter_append,List.map_append]
 simp [h]
theorem dkN_n (h:¬ q.heldT m):dkN q (m+1)=dkN q m:=by
 unfold dkN
 rw [List.range_succ,List.filter_append,List.map_append]
 simp [h]
theorem whN_le:(whN q m).length≤m:=by
 unfold whN
 rw [List.length_map]
 exact Nat.le_trans (List.length_filter_le ..) (by rw [List.length_range];exact Nat.le_refl _)
theorem dkN_le:(dkN q m).length≤m:=by
 unfold dkN
 rw [List.length_map]
 exact Nat.le_trans (List.length_filter_le ..) (by rw [List.length_range];exact Nat.le_refl _)
end
end Go.Pol
namespace Go.Proofs.YtbhgfoikbkaohaaGreat.Sh
open Go Go.Am Go.Pol
theorem plx_Sxy {p:Prop} (h:p:=by ((first|exact plw|(with_reducible first|apply R3|apply w9|apply Q5|apply J6|apply X0|apply Z5|apply H9 U6|apply H9 AA4|apply AZ2|fail)|fail);first|done|fail)):p:=h
theorem ppx_Sxy {p:Prop} (h:p:=by ((first|with_reducible assumption|(with_reducible first|apply G8|apply F6|apply AH8|apply AE7|apply U6 _|apply W9|fail)|exact ppw|fail);first|done|fail)):p:=h
open Go.Proofs.YtbhgfoikbkaohaaGreat.Sh renaming plx_Sxy → plx
open Go.Proofs.YtbhgfoikbkaohaaGreat.Sh renaming ppx_Sxy → ppx
theorem wx_Sxy {p q:Prop} (hq:q) (h:Y2 q→p:=by (intro hQz;((repeat' ((try (conv=>whnf));first|(with_reducible first|refine O4 ?_|refine K6 ?_|refine P6 ?_|refine P8 ?_|refine L6 ?_|refine U9 ?_|refine N9 ?_|refine U8 rfl ?_|refine O1 ?_|refine J3 ?_|refine K8 ?_|refine K9 ?_|refine P7 ?_|refine J2 ?_|refine K7 (by decide +kernel) ?_|refine K3 (by decide +kernel) ?_|refine AG0 ?_|refine AG1 ?_|refine An9 ?_|refine r9 ?_|refine AJ5 ?_|refine Af8 (by assumption) ?_|refine Af9 (by assumption) ?_|refine o9 (by omega) ?_|refine AJ3 ?_)|((with_reducible refine AJ6 ?_ ?_);focus omega)|((with_reducible refine AJ7 ?_ ?_);focus omega)|((with_reducible apply U3 hQz)<;>(try intro hsp hQz))|((with_reducible refine An3 ?_ ?_);focus (first|omega|rfl|assumption|decide|(simp only [List.length_map,List.length_cons,List.length_nil];omega)|(simp only [List.length_cons];omega)))|(with_reducible first|refine AI9 ?_|refine o8 ?_|refine l9 ?_|refine AJ1 ?_|refine AJ0 ?_|refine AI7 ?_|refine Am8 ?_|refine I8 ?_|refine l7 ?_|refine P5 ?_|refine O9 ?_|refine I9 ?_|refine AI8 (by omega) ?_|refine l8 (by omega) ?_)|refine D6 rf_0 ?_|refine D6 rf_1 ?_|refine D6 rf_2 ?_|refine D6 rf_3 ?_|refine D6 rf_4 ?_|refine D6 (rf_ins ho) ?_|refine D6 (rf_outs ho2) ?_|refine D6 hF ?_|refine D6 hT ?_|refine D6 hZ ?_|refine filt_own rfl ?_|refine U2 (by rw [AA5];omega) rfl (Q7 (by rw [List.length_drop,AA5];omega) hrD ?_)|refine U2 (by omega) List.drop_zero (Q7 (by omega) (BN8 hyl) ?_)|refine ⟨hyl,?_⟩|refine X6 (by first|(simp only [List.length_replicate];omega)|fail) (over_y hyl) ?_|refine X6 (by first|(simp only [List.length_cons,List.length_nil];omega)|fail) (Ak4 hyl) ?_|refine sxF ?_|refine AC3 (f:=swA) (l2:=[(((m:Nat):Int),q.F m,q.T m,q.Z m)]) AP7 (AA1 rfl (by first|rfl|(simp;done)|(simp [*];done))) (fun hz=>by first|(simp [lk,O8,N8 hz,F8 hz];done)|rfl) (fun hz=>by first|(simp [lk,O8,AN9,Au8 hz,AD9 hz];done)|rfl) (by first|rfl|(simp [flat,swA];done)|(simp [flat,swA, *];done)) (by decide) ⟨by omega,by omega⟩ rfl ?_|((with_reducible apply Aa9 hQz);intro hQa hQb;refine AC2 (f:=swA) (l2:=[(((m:Nat):Int),q.F m,q.T m,q.Z m)]) AP7 (AA1 rfl (by first|rfl|(simp;done)|(simp [*];done))) (fun hz=>by first|(simp [lk,O8,N8 hz,F8 hz];done)|rfl) (by first|rfl|(simp [flat,swA];done)|(simp [flat,swA, *];done)) (by decide) ⟨by omega,by omega⟩ ?_ ?_<;>intro hzz<;>first|(have hQz:=Y2.mk (hQa.out hzz))|(have hQz:=Y2.mk (hQb.out hzz)))|refine Ax2 hI rfl rfl (by decide) rfl ?_|refine AX1 hI rfl rfl rfl rfl ?_|refine AC3 (f:=swD) (l2:=[(((k:Nat):Int),q.D k)]) AA7 (AA1 rfl (by first|rfl|(simp;done)|(simp [*];done))) (fun hz=>by first|(simp [lk,O8,N8 hz,F8 hz];done)|rfl) (fun hz=>by first|(simp [lk,O8,AN9,Au8 hz,AD9 hz];done)|rfl) (by first|rfl|(simp [flat,swD];done)|(simp [flat,swD, *];done)) (by decide) ⟨by omega,by omega⟩ rfl ?_|((with_reducible apply Aa9 hQz);intro hQa hQb;refine AC2 (f:=swD) (l2:=[(((k:Nat):Int),q.D k)]) AA7 (AA1 rfl (by first|rfl|(simp;done)|(simp [*];done))) (fun hz=>by first|(simp [lk,O8,N8 hz,F8 hz];done)|rfl) (by first|rfl|(simp [flat,swD];done)|(simp [flat,swD, *];done)) (by decide) ⟨by omega,by omega⟩ ?_ ?_<;>intro hzz<;>first|(have hQz:=Y2.mk (hQa.out hzz))|(have hQz:=Y2.mk (hQb.out hzz)))|refine sxH ?_|((with_reducible apply U4 hQz)<;>(try intro hsp hQz))|exact hQz.out))<;>(try (conv=>whnf))))):p:=h ⟨hq⟩
section
variable {q:Sw}
set_option maxRecDepth 20000 in
theorem v_Save (hg:F3 q):AS4 19 [] q (.agg q.save) q:=by
 have hrng:=hg.rng
 have hpg:=hrng.2.2.2.1
 refine AS4.mk (G6 F9 b19 rfl ?_) (fun x hx=>by cases hx) (M4 W9)
 obtain ⟨o,ho⟩:∃ o,o=17157:=⟨_,rfl⟩
 obtain ⟨o2,ho2⟩:∃ o2,o2=17158:=⟨_,rfl⟩
 unfold c19
 rw [← ho,← ho2]
 unfold rfN
 have hw0:=whN_0 (q:=q)
 (refine wx_Sxy ?_;repeat' (first|with_reducible refine And.intro ?_ ?_|intro hsp))
 all_goals first|(exfalso;omega)|skip
 (refine H7 [0,2] (fun (m:Nat)=>[(3,.ptr 3 0),(4,.int .i64 (m:Nat))]) (fun (m:Nat)=>⟨[(0,.cells (rfC 1 q)),(1,.cells q.s.b)]++[(2,.cells [.int .i64 0,.int .i64 0,.int .i64 0,.int .i64 0,.nils,.nils,.int .i64 0,.int .i64 0]),(3,.cells [.int .i64 (q.a:Nat),.int .i64 (q.n:Nat),.int .i64 (q.pg:Nat),.int .i64 (q.sl:Nat),AP3 4 4 (whN q m).length,.nils,.int .i64 q.ins,.int .i64 q.outs])]++AE4 4 swA (whN q m),5⟩) (fun (m:Nat)=>m≤q.pg) (fun (m:Nat)=>q.pg - m) (0) [(3,28)] rfl (fun _=>by first|exact Nat.zero_le _|(dsimp only;omega)) ?_ (by ((try (conv=>whnf));(rw [hw0]);exact wkxQ8)) ?_)
 ·exact Nat.zero_le _
 intro m hm
 clear hw0
 have hle:=whN_le (q:=q) (m:=m)
 by_cases hml:m < q.pg
 ·have hF:=rf_F (s:=1) (q:=q) (p:=m) (by omega)
  have hT:=rf_T (s:=1) (q:=q) (p:=m) (by omega)
  have hZ:=rf_Z (s:=1) (q:=q) (p:=m) (by omega)
  by_cases hi:q.is m
  ·have hws:=whN_y hi
   unfold whE at hws
   unfold Sw.is at hi
   (refine wx_Sxy ?_;repeat' (first|with_reducible refine And.intro ?_ ?_|intro hsp))
   all_goals first|(exfalso;omega)|exact D7 (m+1) [(4,28)] (by (try dsimp only);omega) (by first|omega|(dsimp only;omega)) rfl (by ((try dsimp only);rw [hws]);exact wkxQ8)
  ·have hws:=whN_n hi
   unfold Sw.is at hi
   (refine wx_Sxy ?_;repeat' (first|with_reducible refine And.intro ?_ ?_|intro hsp))
   all_goals first|(exfalso;omega)|exact D7 (m+1) [] (by (try dsimp only);omega) (by first|omega|(dsimp only;omega)) rfl (by ((try dsimp only);rw [hws]);exact wkxQ8)
 ·obtain rfl:m=q.pg:=by omega
  rw [whN_all]
  have hd0:=dkN_0 (q:=q)
  (refine wx_Sxy ?_;repeat' (first|with_reducible refine And.intro ?_ ?_|intro hsp))
  all_goals first|(exfalso;omega)|skip
  (refine H7 [0,2,3] (fun (k:Nat)=>[(5,.int .i64 (k:Nat))]) (fun (k:Nat)=>⟨[(0,.cells (rfC 1 q)),(1,.cells q.s.b)]++[(2,.cells [.int .i64 0,.int .i64 0,.int .i64 0,.int .i64 0,.nils,.nils,.int .i64 0,.int .i64 0]),(3,.cells [.int .i64 (q.a:Nat),.int .i64 (q.n:Nat),.int .i64 (q.pg:Nat),.int .i64 (q.sl:Nat),.isl (q.whr.map swA),AP3 4 65 (dkN q k).length,.int .i64 q.ins,.int .i64 q.outs])]++AE4 4 swD (dkN q k),5⟩) (fun (k:Nat)=>k≤q.sl) (fun (k:Nat)=>q.sl - k) (0) [] rfl (fun _=>by first|exact Nat.zero_le _|(dsimp only;omega)) ?_ (by ((try (conv=>whnf));(rw [hd0]);exact wkxQ9)) ?_)
  ·exact Nat.zero_le _
  intro k hk
  clear hd0
  have hle2:=dkN_le (q:=q) (m:=k)
  by_cases hkl:k < q.sl
  ·have hI:=v_inT hpg ((k:Nat):Int)
   have hh:=BS5 (q:=q) (f:=k)
   generalize q.inT ((k:Nat):Int)=y at *
   have hk6:k < 256:=by omega
   by_cases hc:q.heldT k
   ·have hws:=dkN_y hc
    unfold dkE at hws
    have hy:=hh.2 hc
    clear hh hc
    have hyl:(bcA (q.D k)).length=64:=S9
    have hrD:=rf_D (s:=1) (q:=q) hk6
    (refine wx_Sxy ?_;repeat' (first|with_reducible refine And.intro ?_ ?_|intro hsp))
    all_goals first|(exfalso;omega)|exact D7 (k+1) [(4,16)] (by (try dsimp only);omega) (by first|omega|(dsimp only;omega)) rfl (by ((try dsimp only);rw [hws]);exact wkxQ9)
   ·have hws:=dkN_n hc
    have hy:¬ 0≤y:=fun h=>hc (hh.1 h)
    clear hh hc
    (refine wx_Sxy ?_;repeat' (first|with_reducible refine And.intro ?_ ?_|intro hsp))
    all_goals first|(exfalso;omega)|exact D7 (k+1) [] (by (try dsimp only);omega) (by first|omega|(dsimp only;omega)) rfl (by ((try dsimp only);rw [hws]);exact wkxQ9)
  ·obtain rfl:k=q.sl:=by omega
   rw [dkN_all]
   (refine wx_Sxy ?_;repeat' (first|with_reducible refine And.intro ?_ ?_|intro hsp))
   all_goals first|(exfalso;omega)|skip
   all_goals exact end_VV (q:=q) (fun hs=>AY0 (A9 (M9 rfl) (A9 (M9 rfl) (A9 (M9 rfl) (A9 (M9 rfl) (A9 (X4 hs (H9 U6)) (A9 (AM9 AA7 AA4 rfl (fun hz=>by first|(simp [lk,O8,F8 hz,N8 hz];done)|exact F8 hz|rfl) (BR5 (by simp [rn,rfN])) hs) (A9 (M9 rfl) (A9 (M9 rfl) G7))))))))) rfl rfl
end
end Go.Proofs.YtbhgfoikbkaohaaGreat.Sh
namespace Go.Pol
open Go.Am Go.Proofs.YtbhgfoikbkaohaaGreat.Sh
def stoT:List AV:=List.replicate 768 (.int .i64 0)++(List.replicate 16384 (.int .u8 0)++[.int .i64 0,.int .i64 0])
theorem stoT_eq:stoT=memA 17152 (rfF (fun _=>0) (fun _=>0) (fun _=>0) fun _ _=>0)++[.int .i64 0,.int .i64 0]:=by
 unfold stoT
 rw [← List.append_assoc]
 congr 1
 refine List.ext_getElem? fun i=>?_
 by_cases h:i < 17152
 ·rw [M7 h]
  unfold rfF
  by_cases h1:i < 768
  ·rw [List.getElem?_append_left (by rw [List.length_replicate];exact h1),List.getElem?_replicate,if_pos h1]
   split
   ·rfl
   ·split
    ·rfl
    ·rfl
  ·rw [List.getElem?_append_right (by rw [List.length_replicate];omega),List.length_replicate,List.getElem?_replicate,if_pos (by omega),if_neg (by omega),if_neg (by omega),if_neg h1]
 ·rw [List.getElem?_eq_none (by rw [List.length_append,List.length_replicate,List.length_replicate];omega),List.getElem?_eq_none (by rw [R4];omega)]
def mdQ (s:Sy) (a n pg sl:Nat) (i:Nat):Sw:=⟨a,n,pg,sl,fun p=>if p < i then -1 else 0,fun p=>if p < i then -1 else 0,fun _=>0,fun _ _=>0,0,0,s⟩
theorem mdQ_0 {s:Sy} {a n pg sl:Nat} {g:Nat} {y:List AV} (hy:y=stoT):rfC g (mdQ s a n pg sl 0) = .ptr g 0 :: .int .i64 (a:Nat) :: .int .i64 (n:Nat) :: .int .i64 (pg:Nat) :: .int .i64 (sl:Nat)::y:=by
 rw [hy,stoT_eq]
 unfold rfC mdQ
 dsimp only
 congr 6
theorem mdQ_s {s:Sy} {a n pg sl i:Nat}:mdQ s a n pg sl (i+1)={ mdQ s a n pg sl i with F:=E9 (mdQ s a n pg sl i).F i (-1),T:=E9 (mdQ s a n pg sl i).T i (-1) }:=by
 have e:(fun p:Nat=>if p < i+1 then (-1:Int) else 0)=E9 (fun p=>if p < i then -1 else 0) i (-1):=by
  funext p
  by_cases h:p=i
  ·subst h;rw [E8,if_pos (by omega)]
  ·rw [upd_ne h]
   by_cases h2:p < i
   ·rw [if_pos h2,if_pos (by omega)]
   ·rw [if_neg h2,if_neg (by omega)]
 unfold mdQ
 dsimp only
 rw [e]
theorem mdQ_all {s:Sy} {a n pg sl g:Nat}:rfC g (mdQ s a n pg sl 256)=rfC g ⟨a,n,pg,sl,fun _=>-1,fun _=>-1,fun _=>0,fun _ _=>0,0,0,s⟩:=by
 have e:memA 17152 (rfF (fun p=>if p < 256 then -1 else 0) (fun p=>if p < 256 then -1 else 0) (fun _=>0) fun _ _=>0)=memA 17152 (rfF (fun _=>-1) (fun _=>-1) (fun _=>0) fun _ _=>0):=AB1 fun i _=>by
  unfold rfF
  by_cases h1:i < 256
  ·rw [if_pos h1,if_pos h1]
   dsimp only
   rw [if_pos h1]
  ·rw [if_neg h1,if_neg h1]
   by_cases h2:i < 512
   ·rw [if_pos h2,if_pos h2]
    dsimp only
    rw [if_pos (by omega)]
   ·rw [if_neg h2,if_neg h2]
 unfold rfC mdQ
 dsimp only
 rw [e]
end Go.Pol
namespace Go.Proofs.YtbhgfoikbkaohaaGreat.Sh
open Go Go.Am Go.Pol
open Go.Proofs.YtbhgfoikbkaohaaGreat.Sh renaming plx_Sxt → plx
open Go.Proofs.YtbhgfoikbkaohaaGreat.Sh renaming ppx_Sxt → ppx
theorem wx_Sxz {p q:Prop} (hq:q) (h:Y2 q→p:=by (intro hQz;((repeat' ((try (conv=>whnf));first|refine sxA ?_|refine L8 (by rw [AA5];omega) (Aj7 hil) ?_|refine L8 (by rw [AA5];omega) (Aj6 hil) ?_|refine sxF ?_|refine L9 (by assumption) ?_|refine M0 hr rfl (by decide) ?_|refine cx_MD hM rfl (by decide) ?_|refine sxH ?_|((with_reducible first|apply U3 hQz|apply U4 hQz)<;>(try intro hsp hQz))|exact hQz.out))<;>(try (conv=>whnf))))):p:=h ⟨hq⟩
theorem end_VN {top:Bool} {h:Hp} {N0:Nat} {x r:AV} {q:Sw} (hr:AH3 (rn []) h ⟨rfN q 1 0,2⟩→WkV Tryz.prog (rn []) h ⟨rfN q 1 0,2⟩ x r) (h1:lk h.l 1=some (.cells (rfC 0 q))) (h0:lk h.l 0=some (.cells q.s.b)) (hN0:N0≤2:=by decide) :
  AV3 top Tryz.prog N0 h x (fun r' h'=>r'=r∧h'=⟨rfN q 1 0,2⟩):=by
 have hs:AH3 (rn []) h ⟨rfN q 1 0,2⟩:=fun i o hi=>by
  simp only [rfN,lk] at hi
  show ∃ o',lk h.l i=some o'
  split at hi
  ·rename_i e;subst e;exact ⟨_,h1⟩
  ·split at hi
   ·rename_i e;subst e;exact ⟨_,h0⟩
   ·cases hi
 refine AB9 [] rfl hN0 (O7 rfl) (hr hs) ?_ ⟨rfl,rfl⟩
 exact AV6 hs (show 1 < 2 by decide) h1 (s':=0) rfl (show 0 < 2 by decide) (G9 hs (show 0 < 2 by decide) h0 rfl F6 I5)
structure LocMD (a n pg sl:Nat) (s:Sy) (q:Sw):Prop where
 out:AU0 Tryz.prog G0 29 [.ptr 0 0,.int .i64 (a:Nat),.int .i64 (n:Nat),.int .i64 (pg:Nat),.int .i64 (sl:Nat)] [(0,.cells s.b)] 1 fun x h=>x = .ptr 1 0∧h=⟨rfN q 1 0,2⟩
theorem cx_MD {a n pg sl:Nat} {s:Sy} {q:Sw} {g nx:Nat} {l:List (Nat × AObj)} {K:AV→Hp→Prop} (hc:LocMD a n pg sl s q) (h0:lk l g=some (.cells s.b)) (hlt:g < nx)
  (hk:AO2 [g] l fun l2=>K (.ptr nx 0) ⟨([(nx,.cells (rfC g q)),(g,.cells q.s.b)]:List (Nat × AObj))++l2,nx+1⟩):AL4 Tryz.prog G0 (.fn 29 [] []) [.ptr g 0,.int .i64 (a:Nat),.int .i64 (n:Nat),.int .i64 (pg:Nat),.int .i64 (sl:Nat)] ⟨l,nx⟩ K:=by
 have e0:enter [g] g 0:=rfl
 have k0:back [g] nx 0 g:=rfl
 have k1:back [g] nx 1 nx:=rfl
 refine AO7 (r':=.ptr nx 0) (l1:=rfN q nx g) [g] hc.out H8 rfl (.cons e0 h0 (D8 F6) .nil)
  ?_ (by intro x hx;simp only [List.mem_cons,List.not_mem_nil,or_false] at hx;omega) (O5 k1)
  (.cons k1 (AU6 k0) (.cons k0 (D8 F6) .nil)) hk
 simp only [List.nil_append,List.append_nil]
 exact ⟨O5 e0,F5 A8,F5 A8,F5 A8,F5 A8,trivial⟩
set_option maxRecDepth 20000 in
theorem v_made {a n pg sl:Nat} {s:Sy}:LocMD a n pg sl s ⟨a,n,pg,sl,fun _=>-1,fun _=>-1,fun _=>0,fun _ _=>0,0,0,s⟩:=by
 refine LocMD.mk (G6 F9 b29 rfl ?_)
 unfold c29
 obtain ⟨y,hy⟩:∃ y,y=stoT:=⟨_,rfl⟩
 rw [show stoZ = .nilp :: .int .i64 0 :: .int .i64 0 :: .int .i64 0 :: .int .i64 0::y from hy▸rfl]
 have hm0:=mdQ_0 (s:=s) (a:=a) (n:=n) (pg:=pg) (sl:=sl) (g:=0) hy
 (refine wx_Sxz ?_;repeat' (first|with_reducible refine And.intro ?_ ?_|intro hsp))
 rw [← hm0]
 (refine H7 [] (fun (i:Nat)=>[(11,.ptr 1 0),(12,.int .i64 (i:Nat))]) (fun (i:Nat)=>⟨[(1,.cells (rfC 0 (mdQ s a n pg sl i))),(0,.cells s.b)],2⟩) (fun (i:Nat)=>i≤256) (fun (i:Nat)=>256 - i) (0) [] rfl (fun _=>by first|exact Nat.zero_le _|(dsimp only;omega)) ?_ (by ((try (conv=>whnf));exact Y8)) ?_)
 ·exact Nat.zero_le _
 intro i hi
 clear hm0
 by_cases hil:i < 256
 ·have hs:=mdQ_s (s:=s) (a:=a) (n:=n) (pg:=pg) (sl:=sl) (i:=i)
  (refine wx_Sxz ?_;repeat' (first|with_reducible refine And.intro ?_ ?_|intro hsp))
  all_goals first|(exfalso;omega)|exact D7 (i+1) [] (by (try dsimp only);omega) (by first|omega|(dsimp only;omega)) rfl (by ((try dsimp only);rw [hs]);exact Y8)
 ·obtain rfl:i=256:=by omega
  rw [mdQ_all]
  (refine wx_Sxz ?_;repeat' (first|with_reducible refine And.intro ?_ ?_|intro hsp))
  all_goals first|(exfalso;omega)|exact end_VN (q:=⟨a,n,pg,sl,fun _=>-1,fun _=>-1,fun _=>0,fun _ _=>0,0,0,s⟩) (fun hs=>U5 (i:=1) rfl (show 1 < 2 by decide)) rfl rfl
structure LocVN (a n pg sl:Int) (s:Sy) (q:Sw):Prop where
 out:AU0 Tryz.prog G0 8 [.ptr 0 0,.int .i64 a,.int .i64 n,.int .i64 pg,.int .i64 sl] [(0,.cells s.b)] 1 fun x h=>x = .tup [.ptr 1 0,.int .i64 0]∧h=⟨rfN q 1 0,2⟩
theorem cx_VN {a n pg sl:Int} {s:Sy} {q:Sw} {g nx:Nat} {l:List (Nat × AObj)} {K:AV→Hp→Prop} (hc:LocVN a n pg sl s q) (h0:lk l g=some (.cells s.b)) (hlt:g < nx)
  (hk:AO2 [g] l fun l2=>K (.tup [.ptr nx 0,.int .i64 0]) ⟨([(nx,.cells (rfC g q)),(g,.cells q.s.b)]:List (Nat × AObj))++l2,nx+1⟩):AL4 Tryz.prog G0 (.fn 8 [] []) [.ptr g 0,.int .i64 a,.int .i64 n,.int .i64 pg,.int .i64 sl] ⟨l,nx⟩ K:=by
 have e0:enter [g] g 0:=rfl
 have k0:back [g] nx 0 g:=rfl
 have k1:back [g] nx 1 nx:=rfl
 refine AO7 (r':=.tup [.ptr nx 0,.int .i64 0]) (l1:=rfN q nx g) [g] hc.out H8 rfl (.cons e0 h0 (D8 F6) .nil)
  ?_ (by intro x hx;simp only [List.mem_cons,List.not_mem_nil,or_false] at hx;omega) (BA7 ⟨O5 k1,F5 A8,trivial⟩)
  (.cons k1 (AU6 k0) (.cons k0 (D8 F6) .nil)) hk
 simp only [List.nil_append,List.append_nil]
 exact ⟨O5 e0,F5 A8,F5 A8,F5 A8,F5 A8,trivial⟩
section
variable {s:Sy} {a n pg sl:Int}
theorem v_New_far (hn:¬ U7 a n pg sl):d9 8 [.int .i64 a,.int .i64 n,.int .i64 pg,.int .i64 sl] s.b (.tup [.nilp,.int .i64 7]) s.b:=by
 have hst:=At6 a n pg sl
 rw [decide_eq_false hn] at hst
 refine d9.mk (G6 F9 b8 rfl ?_) F6 F6 AZ5 AK4
 unfold c8
 (refine wx_Sxz ?_;repeat' (first|with_reducible refine And.intro ?_ ?_|intro hsp))
 all_goals exact Y0 rfl AK4 rfl F6
theorem v_New_no (hg:GoodS s) (hn:U7 a n pg sl) (he:(s.chg a n 0 1 0).1 ≠ 0):d9 8 [.int .i64 a,.int .i64 n,.int .i64 pg,.int .i64 sl] s.b (.tup [.nilp,.int .i64 (s.chg a n 0 1 0).1]) (s.chg a n 0 1 0).2.b:=by
 have hst:=At6 a n pg sl
 rw [decide_eq_true hn] at hst
 have hr:=BB4 (a:=a) (n:=n) hg
 refine d9.mk (G6 F9 b8 rfl ?_) F6 F6 AZ5 AK4
 unfold c8
 generalize s.chg a n 0 1 0=r at *
 (refine wx_Sxz ?_;repeat' (first|with_reducible refine And.intro ?_ ?_|intro hsp))
 all_goals first|exact Y0 rfl AK4 rfl F6|(exfalso;omega)
theorem v_New (hg:GoodS s) (hn:U7 a n pg sl) (he:(s.chg a n 0 1 0).1=0):LocVN a n pg sl s (Sw.nw (s.chg a n 0 1 0).2 a n pg sl):=by
 have hst:=At6 a n pg sl
 rw [decide_eq_true hn] at hst
 have hr:=BB4 (a:=a) (n:=n) hg
 rw [he] at hr
 obtain ⟨n1,n2,n3,n4,n5,n6,n7,n8⟩:=hn
 obtain ⟨a,rfl⟩:=Int.eq_ofNat_of_zero_le n1
 obtain ⟨n,rfl⟩:=Int.eq_ofNat_of_zero_le (by omega:0≤n)
 obtain ⟨pg,rfl⟩:=Int.eq_ofNat_of_zero_le (by omega:0≤pg)
 obtain ⟨sl,rfl⟩:=Int.eq_ofNat_of_zero_le n7
 have hM:=v_made (a:=a) (n:=n) (pg:=pg) (sl:=sl) (s:=(s.chg a n 0 1 0).2)
 refine LocVN.mk (G6 F9 b8 rfl ?_)
 unfold c8
 unfold Sw.nw
 simp only [Int.toNat_natCast]
 generalize s.chg a n 0 1 0=r at *
 (refine wx_Sxz ?_;repeat' (first|with_reducible refine And.intro ?_ ?_|intro hsp))
 all_goals first|(exfalso;omega)|exact end_VN (q:=⟨a,n,pg,sl,fun _=>-1,fun _=>-1,fun _=>0,fun _ _=>0,0,0,r.2⟩) (fun hs=>AK2 (A9 (U5 (i:=1) rfl (show 1 < 2 by decide)) (A9 (M9 rfl) G7))) rfl rfl
end
end Go.Proofs.YtbhgfoikbkaohaaGreat.Sh
