/-
 The document's book: Write,page,Differ,Counts,Save.
 The document's book: page,Counts.
 The document's book: Save,Differ.
-/
import Derived.Test.YtphggldkligldaaGreatQi
import Derived.Test.YtphggldkligldaaGreatSnJ
set_option linter.unusedSimpArgs false
set_option linter.unusedVariables false
set_option maxHeartbeats 3200000
namespace Go.Pol
open Go.Am
theorem wrK_ne {s:Sy} {f p:Nat} {x:Nat→Int} {k:Nat} (h:p ≠ f):(wrK s f x k).B p=s.B p:=by unfold wrK AZ5;exact if_neg h
end Go.Pol
namespace Go.Proofs.YtphggldkligldaaGreat.Sh
open Go Go.Am Go.Pol
theorem plx_Pd {p:Prop} (h:p:=by ((first|exact plw|(with_reducible first|apply O4|apply M5|apply J3|apply u6|apply z8|apply AB2|apply AF3|fail)|fail);first|done|fail)):p:=h
open Go.Proofs.YtphggldkligldaaGreat.Sh renaming plx_Pd → plx
open Go.Proofs.YtphggldkligldaaGreat.Sh renaming ppx_Jg → ppx
theorem wx_Pd {p q:Prop} (hq:q) (h:R7 q→p:=by (intro hQz;((repeat' ((try (conv=>whnf));first|refine sxA ?_|refine AC0 (by with_reducible assumption) ?_|refine sxF ?_|refine G7 (by assumption) ?_|refine sxH ?_|((with_reducible first|apply L8 hQz|apply L9 hQz)<;>(try intro hsp hQz))|exact hQz.out))<;>(try (conv=>whnf))))):p:=h ⟨hq⟩
theorem wx_Pdn {p q:Prop} (hq:q) (h:R7 q→p:=by (intro hQz;((repeat' ((try (conv=>whnf));first|refine sxA ?_|refine AC0 (by with_reducible assumption) ?_|refine sxN ?_|refine G7 (by assumption) ?_|refine BQ7 hcn rfl rfl (by decide) rfl ?_|refine cx_u hwr rfl (by decide) ?_|refine dcx_u hwr rfl rfl ?_|refine BQ7 htk rfl rfl (by decide) rfl ?_|refine K5 r1 rfl (by decide) ?_|refine K5 w1 rfl (by decide) ?_|refine Y6 r1 rfl rfl ?_|refine Y6 w1 rfl rfl ?_|refine sxH ?_|((with_reducible first|apply L8 hQz|apply L9 hQz)<;>(try intro hsp hQz))|exact hQz.out))<;>(try (conv=>whnf))))):p:=h ⟨hq⟩
section
variable {q:Bk}
set_option maxRecDepth 20000 in
theorem d_Write (hg:K6 q) (x a v:Int):AK3 21 [.int .i64 x,.int .i64 a,.int .u8 v] q (.int .i64 (q.write x a v).1) (q.write x a v).2:=by
 have hsp:=As9 x
 have hlen:=hg.len
 unfold Bk.write
 by_cases hin:inR 64 x∧inR 65536 a
 ·rw [if_neg (by rw [Classical.not_not];exact hin)]
  rw [decide_eq_true hin.1] at hsp
  obtain ⟨a',rfl,ha⟩:=AH3 hin.2
  have hq:=q64 (t:=a') (by omega)
  rw [Int.toNat_natCast]
  have hk:inR 1024 ((a' / 64:Nat):Int):=⟨by omega,by omega⟩
  have hfn:∀ r,AO1 q.L x.toNat (a' / 64)=r→AO1 q.L x.toNat ((a' / 64:Nat):Int).toNat=r:=fun r hr=>by rw [Int.toNat_natCast];exact hr
  cases hf:AO1 q.L x.toNat (a' / 64) with
  | none =>
   have hfi:=Aa3 ⟨hin.1,hk⟩ hlen (hfn _ hf)
   unfold stA at hfi
   refine AK3.mk (E8 D9 b21 rfl ?_) (by simp [A8]) A8
   unfold c21
   unfold bdN
   generalize ((a' / 64:Nat):Int)=kk at *
   (refine wx_Pd ?_;repeat' (first|with_reducible refine And.intro ?_ ?_|intro hsp))
   all_goals first|exact AB4 rfl A8 rfl rfl|(exfalso;omega)
  | some u =>
   have hfi:=v_Find hg.sr ⟨hin.1,hk⟩ hlen (hfn _ hf)
   unfold stA at hfi
   have huv:=hg.view (AF8 hf).1
   have hu4:u.2.2.1 < 1024:=by have:=hg.rng.2;omega
   have hcn:=BX0 hg hu4
   have hcu:0 < cntF q.L u.2.2.1:=AT3.2 ⟨u,(AF8 hf).1,rfl⟩
   dsimp only
   by_cases hw:u.2.2.2=true
   ·rw [if_pos hw]
    rw [hw] at hfi
    have hwr:=BR0 hg.sr hg.len hg.ok x (a':Nat) v
    have hpa:=put_a (q:=q) (x:=x) (t:=(a':Nat)) (v:=v)
    refine AK3.mk (E8 D9 b21 rfl ?_) (by simp [A8]) A8
    unfold c21
    unfold bdN
    generalize ((a' / 64:Nat):Int)=kk at *
    generalize cntF q.L u.2.2.1=n at *
    rw [hpa.1,hpa.2.1,hpa.2.2]
    generalize q.put x (a':Nat) v=r at *
    (refine wx_Pdn ?_;repeat' (first|with_reducible refine And.intro ?_ ?_|intro hsp))
    all_goals first|exact AB4 (q:=⟨q.a,q.n,q.L,r.2.s⟩) rfl A8 rfl rfl|(exfalso;omega)
   ·rw [if_neg hw]
    have hw:u.2.2.2=false:=by cases hb:u.2.2.2<;>simp_all
    rw [hw] at hfi
    by_cases hc:cntF q.L u.2.2.1=1
    ·rw [if_pos hc]
     rw [hc] at hcn
     have hpr:=v_Protect hg.sr ⟨hin.1,hk⟩ hlen (hfn _ hf) true
     unfold stA at hpr
     rw [Int.toNat_natCast] at hpr
     have hsr:=BC2 (L:=q.L) (a:=x.toNat) (k:=a' / 64) (g:=prV true) (fun v=>⟨rfl,rfl⟩) hg.sr
     have hle:(AR5 (prV true) x.toNat (a' / 64) q.L).length≤2000:=by unfold AR5;rw [List.length_map];exact hlen
     have hok:∀ v ∈ AR5 (prV true) x.toNat (a' / 64) q.L,v.1 < 64∧v.2.1 < 1024∧v.2.2.1 < 1024:=fun v hv=>by
      obtain ⟨w,hw,rfl⟩:=Ah4.1 hv
      split
      ·exact hg.ok w hw
      ·exact hg.ok w hw
     have hwr:=BR0 (q:=⟨q.a,q.n,AR5 (prV true) x.toNat (a' / 64) q.L,q.s⟩) hsr hle hok x (a':Nat) v
     have hpa:=put_a (q:=⟨q.a,q.n,AR5 (prV true) x.toNat (a' / 64) q.L,q.s⟩) (x:=x) (t:=(a':Nat)) (v:=v)
     clear hok hsr hle
     refine AK3.mk (E8 D9 b21 rfl ?_) (by simp [A8]) A8
     unfold c21
     unfold bdN
     rw [hpa.1,hpa.2.1,hpa.2.2]
     generalize AR5 (prV true) x.toNat (a' / 64) q.L=L1 at *
     generalize ((a' / 64:Nat):Int)=kk at *
     dsimp only at hwr ⊢
     generalize Bk.put ⟨q.a,q.n,L1,q.s⟩ x (a':Nat) v=r at *
     (refine wx_Pdn ?_;repeat' (first|with_reducible refine And.intro ?_ ?_|intro hsp))
     all_goals first|exact AB4 (q:=⟨q.a,q.n,L1,r.2.s⟩) rfl A8 rfl rfl|(exfalso;omega)
    ·rw [if_neg hc]
     have htk:=d_take hg
     have tk:=tkd_spec (L:=q.L) hg.good hg.rng.2 hg.kind
     rw [tk.eq]
     generalize hr:tkD q.a q.n q.L q.s=r at *
     obtain ⟨e,f,s1⟩:=r
     dsimp only at *
     by_cases he:e=0
     ·rw [if_pos he,if_pos rfl]
      subst he
      have hgot:=tk.got rfl
      have hgs:=tk.good
      have hup:=tk.up u.2.2.1 huv.2.2
      have hold:=tk.old u.2.2.1 hcu
      dsimp only at hgot hgs hup hold
      have hf4:f < 1024:=by have:=hgot.2.1;have:=hg.rng.2;omega
      have hne:u.2.2.1 ≠ f:=fun e=>by rw [e] at hcu;omega
      have hsp2:=v_Split hg.sr ⟨hin.1,hk⟩ hlen (hfn _ hf) hf4 hgot.2.2.1
      unfold stA at hsp2
      rw [Int.toNat_natCast] at hsp2
      have hsr:=BC2 (L:=q.L) (a:=x.toNat) (k:=a' / 64) (g:=frV f) (fun v=>⟨rfl,rfl⟩) hg.sr
      have hle:(AR5 (frV f) x.toNat (a' / 64) q.L).length≤2000:=by unfold AR5;rw [List.length_map];exact hlen
      have hok:∀ v ∈ AR5 (frV f) x.toNat (a' / 64) q.L,v.1 < 64∧v.2.1 < 1024∧v.2.2.1 < 1024:=fun v hv=>by
       obtain ⟨w,hw,rfl⟩:=Ah4.1 hv
       have:=hg.ok w hw
       split
       ·exact ⟨this.1,this.2.1,hf4⟩
       ·exact this
      have hwr:=BR0 (q:=⟨q.a,q.n,AR5 (frV f) x.toNat (a' / 64) q.L,s1.page f (q.s.B u.2.2.1)⟩) hsr hle hok x (a':Nat) v
      have hpa:=put_a (q:=⟨q.a,q.n,AR5 (frV f) x.toNat (a' / 64) q.L,s1.page f (q.s.B u.2.2.1)⟩) (x:=x) (t:=(a':Nat)) (v:=v)
      clear hok hsr hle hr tk hfn hf
      refine AK3.mk (E8 D9 b21 rfl ?_) (by simp [A8]) A8
      unfold c21
      unfold bdN
      rw [hpa.1,hpa.2.1,hpa.2.2]
      generalize AR5 (frV f) x.toNat (a' / 64) q.L=L1 at *
      generalize ((a' / 64:Nat):Int)=kk at *
      generalize cntF q.L u.2.2.1=n at *
      dsimp only at hwr ⊢
      generalize hrr:Bk.put ⟨q.a,q.n,L1,s1.page f (q.s.B u.2.2.1)⟩ x (a':Nat) v=r at *
      generalize hy:q.s.B u.2.2.1=y at *
      generalize u.2.2.1=uf at *
      (refine wx_Pdn ?_;repeat' (first|with_reducible refine And.intro ?_ ?_|intro hsp))
      all_goals first|(exfalso;omega)|skip
      have hw0:=wrK_0 (s:=s1) (f:=f) (x:=y)
      (refine H9 [0,1,2,3,9,10,12] (fun (j:Nat)=>[(14,.int .i64 (j:Nat))]) (fun (j:Nat)=>⟨bdN ⟨q.a,q.n,q.L,wrK s1 f y j⟩ 0 1++[(2,.cells [.int .i64 x,.int .i64 kk,.int .i64 (uf:Nat),.bool false])],3⟩) (fun (j:Nat)=>j≤64) (fun (j:Nat)=>64 - j) (0) [] rfl (fun _=>by first|exact Nat.zero_le _|(dsimp only;omega)) ?_ (by ((try (conv=>whnf));(rw [hw0]);exact V8)) ?_)
      ·exact Nat.zero_le _
      intro j hj
      unfold bdN
      dsimp only
      by_cases hjl:j < 64
      ·have r1:=q_read (s:=wrK s1 f y j) (a:=(uf:Int) * 64+(j:Nat))
       rw [BT0 (by rw [wrK_K];exact hup) hu4 hjl,wrK_ne hne,hold] at r1
       have w1:=BT2 (s:=wrK s1 f y j) (a:=(f:Int) * 64+(j:Nat)) (b:=y j)
       rw [wrK_s hgot.2.2.2 hf4 hjl] at w1
       dsimp only at r1 w1
       clear hwr hrr
       (refine wx_Pdn ?_;repeat' (first|with_reducible refine And.intro ?_ ?_|intro hsp))
       all_goals first|(exfalso;omega)|exact D8 (j+1) [] (by (try dsimp only);omega) (by first|omega|(dsimp only;omega)) rfl (by exact V8)
      ·obtain rfl:j=64:=by omega
       rw [BB2 hgs]
       (refine wx_Pdn ?_;repeat' (first|with_reducible refine And.intro ?_ ?_|intro hsp))
       all_goals first|exact AB4 (q:=⟨q.a,q.n,L1,r.2.s⟩) rfl A8 rfl rfl|(exfalso;omega)
     ·rw [if_neg he,if_neg he]
      refine AK3.mk (E8 D9 b21 rfl ?_) (by simp [A8]) A8
      unfold c21
      unfold bdN
      generalize ((a' / 64:Nat):Int)=kk at *
      generalize cntF q.L u.2.2.1=n at *
      (refine wx_Pdn ?_;repeat' (first|with_reducible refine And.intro ?_ ?_|intro hsp))
      all_goals first|exact AB4 (q:=⟨q.a,q.n,q.L,s1⟩) rfl A8 rfl rfl|(exfalso;omega)
 ·rw [if_pos hin]
  refine AK3.mk (E8 D9 b21 rfl ?_) (by simp [A8]) A8
  unfold c21
  unfold bdN
  unfold inR at hin
  by_cases hx1:inR 64 x
  ·rw [decide_eq_true hx1] at hsp
   (refine wx_Pd ?_;repeat' (first|with_reducible refine And.intro ?_ ?_|intro hsp))
   all_goals first|exact AB4 rfl A8 rfl rfl|(exfalso;exact hin ⟨hx1,by omega,by omega⟩)
  ·rw [decide_eq_false hx1] at hsp
   (refine wx_Pd ?_;repeat' (first|with_reducible refine And.intro ?_ ?_|intro hsp))
   all_goals first|exact AB4 rfl A8 rfl rfl|(exfalso;omega)
end
end Go.Proofs.YtphggldkligldaaGreat.Sh
namespace Go.Pol
open Go.Am
theorem pg_z:List.replicate 64 (AV.int .u8 0)=bcA fun _=>0:=by
 rw [← rdK_0 (f:=fun _=>0)]
 exact AA7 fun j hj=>by unfold rdK;simp
theorem Ay6:∀ (p a b:List AV),a.length=b.length→over (p++a) p.length b=p++b
 | p,[],[],_=>rfl
 | p,x::a,y::b,h=>by
  show over ((p++x::a).set p.length y) (p.length+1) b=p++y::b
  have e:(p++x::a).set p.length y=(p++[y])++a:=by simp
  have h:=Ay6 (p++[y]) a b (by simpa using h)
  rw [List.length_append,List.length_singleton] at h
  rw [e,h]
  simp
theorem BL4 {a b:List AV} (h:a.length=b.length):over a 0 b=b:=Ay6 [] a b h
end Go.Pol
namespace Go.Proofs.YtphggldkligldaaGreat.Sh
open Go Go.Am Go.Pol
open Go.Proofs.YtphggldkligldaaGreat.Sh renaming plx_Pd → plx
open Go.Proofs.YtphggldkligldaaGreat.Sh renaming ppx_Jg → ppx
theorem wx_Pe {p q:Prop} (hq:q) (h:R7 q→p:=by (intro hQz;((repeat' ((try (conv=>whnf));first|refine sxA ?_|refine Y5 (by rw [AH6];omega) List.drop_zero (Y0 (by rw [AH6];omega) BG4 ?_)|refine ⟨AH6,?_⟩|refine AK8 (by simp only [AH6];omega) (over_self _) ?_|refine AK8 (by simp only [AH6,Y4];omega) (BL4 (by rw [AH6,Y4])) ?_|refine sxF ?_|refine G7 hfi ?_|refine BQ7 hcn rfl rfl (by decide) rfl ?_|refine K5 hck rfl (by decide) ?_|refine sxH ?_|((with_reducible first|apply L8 hQz|apply L9 hQz)<;>(try intro hsp hQz))|exact hQz.out))<;>(try (conv=>whnf))))):p:=h ⟨hq⟩
theorem wx_Pen {p q:Prop} (hq:q) (h:R7 q→p:=by (intro hQz;((repeat' ((try (conv=>whnf));first|refine sxA ?_|refine E9 (by rw [Y4];omega) hset ?_|refine sxN ?_|refine K5 r1 rfl (by decide) ?_|refine Y6 r1 rfl rfl ?_|refine sxH ?_|((with_reducible first|apply L8 hQz|apply L9 hQz)<;>(try intro hsp hQz))|exact hQz.out))<;>(try (conv=>whnf))))):p:=h ⟨hq⟩
theorem Ad6 {f:Nat→Int} {b:Bool}:Plain (.tup [.agg (bcA f),.bool b]):=H7 fun x hx=>by
 simp only [List.mem_cons,List.not_mem_nil,or_false] at hx
 rcases hx with rfl|rfl<;>first|exact AB2|exact A9
theorem plain_j3 {a c d:Int}:Plain (.tup [.int .i64 a,.int .i64 c,.int .i64 d]):=H7 fun x hx=>by
 simp only [List.mem_cons,List.not_mem_nil,or_false] at hx
 rcases hx with rfl|rfl|rfl<;>exact A8
section
variable {q:Bk}
theorem Af8 (hg:K6 q) {x k:Nat} (hx:x < 64) (hk:k < 1024) (hf:AO1 q.L x k=none):AK3 159 [.int .i64 (x:Nat),.int .i64 (k:Nat)] q (.tup [.agg (bcA fun _=>0),.bool false]) q:=by
 have hfi:=Aa3 (a:=(x:Nat)) (k:=(k:Nat)) ⟨AZ3 hx,Al9 hk⟩ hg.len (by rw [Int.toNat_natCast,Int.toNat_natCast];exact hf)
 unfold stA at hfi
 refine AK3.mk (E8 D9 b159 rfl ?_) H6 Ad6
 unfold c159
 unfold bdN
 rw [pg_z]
 (refine wx_Pe ?_;repeat' (first|with_reducible refine And.intro ?_ ?_|intro hsp))
 (refine H9 [0,6,7,8,9,10] (fun (i:Nat)=>[(11,.int .i64 (i:Nat))]) (fun (i:Nat)=>⟨bdN q 0 1++[(2,.cells (bcA fun _=>0)),(3,.cells (bcA fun _=>0)),(4,.cells [.int .i64 0,.int .i64 0,.int .i64 0,.bool false])],5⟩) (fun (i:Nat)=>i=0) (fun (i:Nat)=>0 - i) (0) [] rfl (fun _=>by first|exact Nat.zero_le _|(dsimp only;omega)) ?_ (by ((try (conv=>whnf));exact V8)) ?_)
 ·rfl
 rintro i rfl
 unfold bdN
 (refine wx_Pe ?_;repeat' (first|with_reducible refine And.intro ?_ ?_|intro hsp))
 all_goals first|(exfalso;omega)|exact AB4 rfl Ad6 rfl rfl
theorem d_page (hg:K6 q) {x k:Nat} (hx:x < 64) (hk:k < 1024) {v:Vw} (hf:AO1 q.L x k=some v):AK3 159 [.int .i64 (x:Nat),.int .i64 (k:Nat)] q (.tup [.agg (bcA (q.s.B v.2.2.1)),.bool true]) q:=by
 have hfi:=v_Find (a:=(x:Nat)) (k:=(k:Nat)) hg.sr ⟨AZ3 hx,Al9 hk⟩ hg.len (by rw [Int.toNat_natCast,Int.toNat_natCast];exact hf)
 unfold stA at hfi
 have hv:=hg.view (AF8 hf).1
 have hv4:v.2.2.1 < 1024:=by have:=hg.rng.2;omega
 refine AK3.mk (E8 D9 b159 rfl ?_) H6 Ad6
 unfold c159
 unfold bdN
 have hk2:=hv.2.2
 generalize hy:q.s.B v.2.2.1=y at *
 generalize v.2.2.1=f at *
 generalize v.2.2.2=w at *
 rw [← rdK_0 (f:=y)]
 (refine wx_Pe ?_;repeat' (first|with_reducible refine And.intro ?_ ?_|intro hsp))
 (refine H9 [0,6,7,8,9,10] (fun (j:Nat)=>[(11,.int .i64 (j:Nat))]) (fun (j:Nat)=>⟨bdN q 0 1++[(2,.cells (memA 64 (rdK y 0))),(3,.cells (memA 64 (rdK y j))),(4,.cells [.int .i64 (x:Nat),.int .i64 (k:Nat),.int .i64 (f:Nat),.bool w])],5⟩) (fun (j:Nat)=>j≤64) (fun (j:Nat)=>64 - j) (0) [] rfl (fun _=>by first|exact Nat.zero_le _|(dsimp only;omega)) ?_ (by ((try (conv=>whnf));exact V8)) ?_)
 ·exact Nat.zero_le _
 intro j hj
 unfold bdN
 by_cases hjl:j < 64
 ·have r1:=q_read (s:=q.s) (a:=(f:Int) * 64+(j:Nat))
  rw [BT0 hk2 hv4 hjl,hy] at r1
  dsimp only at r1
  have hset:=rdK_s (f:=y) hjl
  generalize y j=yj at *
  (refine wx_Pen ?_;repeat' (first|with_reducible refine And.intro ?_ ?_|intro hsp))
  all_goals first|(exfalso;omega)|exact D8 (j+1) [] (by (try dsimp only);omega) (by first|omega|(dsimp only;omega)) rfl (by exact V8)
 ·obtain rfl:j=64:=by omega
  rw [rdK_all]
  (refine wx_Pe ?_;repeat' (first|with_reducible refine And.intro ?_ ?_|intro hsp))
  all_goals first|(exfalso;omega)|exact AB4 rfl Ad6 rfl rfl
theorem d_Counts (hg:K6 q):AK3 109 [] q (.tup [.int .i64 (q.used:Nat),.int .i64 (q.idle:Nat),.int .i64 (q.many:Nat)]) q:=by
 refine AK3.mk (E8 D9 b109 rfl ?_) (fun x hx=>by cases hx) plain_j3
 have hrng:=hg.rng
 rw [used_R,idle_R,many_R]
 unfold c109
 unfold bdN
 generalize hpu:(fun f=>decide (0 < cntF q.L f))=pu
 generalize hpi:(fun f=>decide (cntF q.L f=0∧q.s.K f=2))=pi
 generalize hpm:(fun f=>decide (1 < cntF q.L f))=pm
 have z1:((Ag6 pu q.a 0:Nat):Int)=0:=rfl
 have z2:((Ag6 pi q.a 0:Nat):Int)=0:=rfl
 have z3:((Ag6 pm q.a 0:Nat):Int)=0:=rfl
 (refine wx_Pe ?_;repeat' (first|with_reducible refine And.intro ?_ ?_|intro hsp))
 (refine H9 [0] (fun (i:Nat)=>[(5,.int .i64 (Ag6 pu q.a i:Nat)),(6,.int .i64 (Ag6 pi q.a i:Nat)),(7,.int .i64 (Ag6 pm q.a i:Nat)),(8,.int .i64 ((q.a+i:Nat):Int))]) (fun (i:Nat)=>⟨bdN q 0 1,2⟩) (fun (i:Nat)=>i≤q.n) (fun (i:Nat)=>q.n - i) (0) [] rfl (fun _=>by first|exact Nat.zero_le _|(dsimp only;omega)) ?_ (by ((try (conv=>whnf));(rw [z1,z2,z3]);exact V8)) ?_)
 ·exact Nat.zero_le _
 intro i hi
 unfold bdN
 have u1:=Aj7 (p:=pu) (a:=q.a) (i:=i)
 have u2:=Aj7 (p:=pi) (a:=q.a) (i:=i)
 have u3:=Aj7 (p:=pm) (a:=q.a) (i:=i)
 by_cases hil:i < q.n
 ·have hkd:=hg.kind (q.a+i) (by omega) (by omega)
  have hcn:=BX0 hg (f:=q.a+i) (by omega)
  have hck:=q_kind (s:=q.s) (a:=((q.a+i:Nat):Int))
  rw [As6 (by omega) hkd.2] at hck
  have s1:=BA3 (p:=pu) (a:=q.a) (i:=i)
  have s2:=BA3 (p:=pi) (a:=q.a) (i:=i)
  have s3:=BA3 (p:=pm) (a:=q.a) (i:=i)
  have e1:pu (q.a+i)=decide (0 < cntF q.L (q.a+i)):=by rw [← hpu]
  have e2:pi (q.a+i)=decide (cntF q.L (q.a+i)=0∧q.s.K (q.a+i)=2):=by rw [← hpi]
  have e3:pm (q.a+i)=decide (1 < cntF q.L (q.a+i)):=by rw [← hpm]
  rw [e1] at s1
  rw [e2] at s2
  rw [e3] at s3
  simp only [decide_eq_true_eq] at s1 s2 s3
  have hkk:=hkd.1
  generalize cntF q.L (q.a+i)=n at *
  generalize q.s.K (q.a+i)=kk at *
  generalize Ag6 pu q.a i=w1 at *
  generalize Ag6 pi q.a i=w2 at *
  generalize Ag6 pm q.a i=w3 at *
  clear e1 e2 e3 hpu hpi hpm
  have s1:=Ai9 s1
  have s2:=Ai9 s2
  have s3:=Ai9 s3
  (refine wx_Pe ?_;repeat' (first|with_reducible refine And.intro ?_ ?_|intro hsp))
  all_goals exact D8 (i+1) [] (by (try dsimp only);omega) (by first|omega|(dsimp only;omega)) rfl (by exact V8)
 ·obtain rfl:i=q.n:=by omega
  generalize Ag6 pu q.a q.n=w1 at *
  generalize Ag6 pi q.a q.n=w2 at *
  generalize Ag6 pm q.a q.n=w3 at *
  (refine wx_Pe ?_;repeat' (first|with_reducible refine And.intro ?_ ?_|intro hsp))
  all_goals exact AB4 rfl plain_j3 rfl rfl
end
end Go.Proofs.YtphggldkligldaaGreat.Sh
namespace Go.Proofs.YtphggldkligldaaGreat.Sh
open Go Go.Am Go.Pol
theorem plx_Pf {p:Prop} (h:p:=by ((first|exact plw|(with_reducible first|apply O4|apply M5|apply J3|apply u6|apply z8|apply AB2|apply AF3|apply AA5|fail)|fail);first|done|fail)):p:=h
open Go.Proofs.YtphggldkligldaaGreat.Sh renaming plx_Pf → plx
open Go.Proofs.YtphggldkligldaaGreat.Sh renaming ppx_Jg → ppx
theorem wx_Pfn {p q:Prop} (hq:q) (h:R7 q→p:=by (intro hQz;((repeat' ((try (conv=>whnf));first|refine sxA ?_|refine apps_0 hsrc rfl rfl ?_|refine AJ7 (Ab6 (AJ9 L rfl) rfl (by first|(simp [I8 K9];done)|(simp [I8 K9];omega)|fail) (by first|decide|omega) ⟨by first|decide|omega,by first|decide|omega⟩) ?_|refine app_m (AJ9 L rfl) rfl (by first|(simp [I8 K9];done)|(simp [I8 K9];omega)|fail) (by first|decide|omega) ⟨by first|decide|omega,by first|decide|omega⟩ ?_|refine sxN ?_|refine sxH ?_|((with_reducible first|apply L8 hQz|apply L9 hQz)<;>(try intro hsp hQz))|exact hQz.out))<;>(try (conv=>whnf))))):p:=h ⟨hq⟩
theorem wx_Pf {p q:Prop} (hq:q) (h:R7 q→p:=by (intro hQz;((repeat' ((try (conv=>whnf));first|refine sxA ?_|refine Y5 (by rw [AH6];omega) List.drop_zero (Y0 (by rw [AH6];omega) BG4 ?_)|refine ⟨AH6,?_⟩|refine AK8 (by first|(simp [AH6];done)|fail) (BL4 (by first|(simp [AH6];done)|fail)) ?_|refine sxF ?_|refine J5 (by assumption) ?_|refine L6 (by assumption) ?_|refine G7 (by assumption) ?_|refine AA2 (f:=Ab7) (l2:=[((k:Nat):Int)]) AP6 (Y7 rfl (by first|rfl|(simp;done)|(simp [*];done))) (fun hz=>by first|(simp [lk,X4,X3 hz,G5 hz];done)|rfl) (fun hz=>by first|(simp [lk,X4,AS7,BE0 hz,j6 hz];done)|rfl) (by first|rfl|(simp [flat,Ab7];done)|(simp [flat,Ab7, *];done)) (by decide) ⟨by omega,by omega⟩ rfl ?_|((with_reducible apply Ag1 hQz);intro hQa hQb;refine AA1 (f:=Ab7) (l2:=[((k:Nat):Int)]) AP6 (Y7 rfl (by first|rfl|(simp;done)|(simp [*];done))) (fun hz=>by first|(simp [lk,X4,X3 hz,G5 hz];done)|rfl) (by first|rfl|(simp [flat,Ab7];done)|(simp [flat,Ab7, *];done)) (by decide) ⟨by omega,by omega⟩ ?_ ?_<;>intro hzz<;>first|(have hQz:=R7.mk (hQa.out hzz))|(have hQz:=R7.mk (hQb.out hzz)))|refine An7 rfl ?_|refine BQ7 f1 rfl rfl (by decide) rfl ?_|refine BQ7 f2 rfl rfl (by decide) rfl ?_|refine Au5 hq ?_|refine sxH ?_|((with_reducible first|apply L8 hQz|apply L9 hQz)<;>(try intro hsp hQz))|exact hQz.out))<;>(try (conv=>whnf))))):p:=h ⟨hq⟩
section
variable {q:Bk}
theorem q_Copy {L:List Vw} (hl:L.length≤2000):E5 78 [stA L] (stA L):=by
 unfold stA
 refine E5.mk (I5 D9 b78 F3 ⟨G8,trivial⟩ G8 rfl ?_)
 unfold c78
 by_cases h0:L.length=0
 ·obtain rfl:=List.eq_nil_of_length_eq_zero h0
  have hsrc:∀ {at_:At},Ak4 at_ 4 (.isl (List.map vwC []))=some ([],0,[]):=fun {at_}=>AJ9 [] rfl
  (refine wx_Pfn ?_;repeat' (first|with_reducible refine And.intro ?_ ?_|intro hsp))
  all_goals exact AG0 (AE2 (C8 (AT5 [] rfl rfl rfl) F8))
 ·have hpos:0 < L.length:=by omega
  have hfl:=I8 K9 L
  (refine wx_Pfn ?_;repeat' (first|with_reducible refine And.intro ?_ ?_|intro hsp))
  all_goals exact AG0 (AE2 (C8 (AT5 L rfl rfl (by simp)) F8))
theorem d_Save (hg:K6 q):AK3 110 [] q (.agg [.int .i64 (q.a:Nat),.int .i64 (q.n:Nat),.isl (q.L.map vwC)]) q:=by
 have hcp:=q_Copy hg.len
 unfold stA at hcp
 refine AK3.mk (E8 D9 b110 rfl ?_) (fun x hx=>by cases hx) AA5
 unfold c110
 unfold bdN
 (refine wx_Pf ?_;repeat' (first|with_reducible refine And.intro ?_ ?_|intro hsp))
 all_goals exact AB4 rfl AA5 rfl rfl
theorem BX1 (x y:Int) (hn:¬ (inR 64 x∧inR 64 y)):AK3 106 [.int .i64 x,.int .i64 y] q (.tup [.nils,.int .i64 7]) q:=by
 have hs1:=As9 x
 have hs2:=As9 y
 refine AK3.mk (E8 D9 b106 rfl ?_) H6 Am3
 unfold c106
 unfold bdN
 (refine wx_Pf ?_;repeat' (first|with_reducible refine And.intro ?_ ?_|intro hsp))
 all_goals first|exact AB4 rfl Am3 rfl rfl|(exfalso;simp_all;done)
theorem bd_not {d:Nat} (hd:2≤d):∀ j o,lk (Hp.l ⟨bdN q 0 1,2⟩) j=some o→rn [] j ≠ d:=fun j o hj=>by
 have : j < 2:=Classical.byContradiction fun hn=>by
  simp only [bdN,lk] at hj
  repeat' split at hj
  all_goals first|omega|cases hj
 show j ≠ d
 omega
theorem d_Differ (hg:K6 q) {x y:Nat} (hx:x < 64) (hy:y < 64):AK3 106 [.int .i64 (x:Nat),.int .i64 (y:Nat)] q (.tup [.isl ((q.difN x y 1024).map Ab7),.int .i64 0]) q:=by
 have hs1:=As9 (x:Nat)
 have hs2:=As9 (y:Nat)
 rw [decide_eq_true (AZ3 hx)] at hs1
 rw [decide_eq_true (AZ3 hy)] at hs2
 refine AK3.mk (E8 D9 b106 rfl ?_) H6 plain_di
 unfold c106
 unfold bdN
 (refine wx_Pf ?_;repeat' (first|with_reducible refine And.intro ?_ ?_|intro hsp))
 (refine H9 [0,1,2] (fun (k:Nat)=>[(8,AN9 2 1 (q.difN x y k).length),(9,.int .i64 (k:Nat))]) (fun (k:Nat)=>⟨bdN q 0 1++AE8 2 Ab7 (q.difN x y k),3⟩) (fun (k:Nat)=>k≤1024) (fun (k:Nat)=>1024 - k) (0) [] rfl (fun _=>by first|exact Nat.zero_le _|(dsimp only;omega)) ?_ (by ((try (conv=>whnf));(rw [dif_0]);exact Al8)) ?_)
 ·exact Nat.zero_le _
 intro k hk
 have hln:=dif_le (b:=q) (x:=x) (y:=y) (k:=k)
 by_cases hkl:k < 1024
 ·have htk:=dif_s (b:=q) (x:=x) (y:=y) (k:=k)
  unfold Bk.dif at htk
  unfold bdN
  rcases Ae8 q.L x k with h1 | ⟨u,h1⟩<;>rcases Ae8 q.L y k with h2 | ⟨v,h2⟩
  ·have f1:=Af8 hg hx hkl h1
   have f2:=Af8 hg hy hkl h2
   rw [h1,h2] at htk
   dsimp only at htk
   rw [if_neg (by decide)] at htk
   have hq:=eqL_bc (f:=fun _=>0) (g:=fun _=>0)
   rw [decide_eq_true (show eqB (fun _=>0) (fun _=>0) from fun _ _=>rfl)] at hq
   generalize q.difN x y k=O at *
   (refine wx_Pf ?_;repeat' (first|with_reducible refine And.intro ?_ ?_|intro hsp))
   all_goals first|(exfalso;simp at hsp;done)|exact D8 (k+1) [] (by (try dsimp only);omega) (by first|omega|(dsimp only;omega)) rfl (by ((try dsimp only);rw [htk]);exact Al8)
  ·have f1:=Af8 hg hx hkl h1
   have f2:=d_page hg hy hkl h2
   rw [h1,h2] at htk
   dsimp only at htk
   rw [if_pos rfl] at htk
   generalize q.difN x y k=O at *
   (refine wx_Pf ?_;repeat' (first|with_reducible refine And.intro ?_ ?_|intro hsp))
   all_goals first|(exfalso;simp at hsp;done)|exact D8 (k+1) [(2,6)] (by (try dsimp only);omega) (by first|omega|(dsimp only;omega)) rfl (by ((try dsimp only);rw [htk]);exact Al8)
  ·have f1:=d_page hg hx hkl h1
   have f2:=Af8 hg hy hkl h2
   rw [h1,h2] at htk
   dsimp only at htk
   rw [if_pos rfl] at htk
   generalize q.difN x y k=O at *
   (refine wx_Pf ?_;repeat' (first|with_reducible refine And.intro ?_ ?_|intro hsp))
   all_goals first|(exfalso;simp at hsp;done)|exact D8 (k+1) [(2,6)] (by (try dsimp only);omega) (by first|omega|(dsimp only;omega)) rfl (by ((try dsimp only);rw [htk]);exact Al8)
  ·have f1:=d_page hg hx hkl h1
   have f2:=d_page hg hy hkl h2
   rw [h1,h2] at htk
   dsimp only at htk
   have hq:=eqL_bc (f:=q.s.B u.2.2.1) (g:=q.s.B v.2.2.1)
   by_cases hE:eqB (q.s.B u.2.2.1) (q.s.B v.2.2.1)
   ·rw [decide_eq_true hE] at hq
    simp only [decide_eq_true hE,Bool.not_true,Bool.false_eq_true,if_false] at htk
    generalize q.difN x y k=O at *
    (refine wx_Pf ?_;repeat' (first|with_reducible refine And.intro ?_ ?_|intro hsp))
    all_goals first|(exfalso;simp at hsp;done)|exact D8 (k+1) [] (by (try dsimp only);omega) (by first|omega|(dsimp only;omega)) rfl (by ((try dsimp only);rw [htk]);exact Al8)
   ·rw [decide_eq_false hE] at hq
    simp only [decide_eq_false hE,Bool.not_false,if_true] at htk
    generalize q.difN x y k=O at *
    (refine wx_Pf ?_;repeat' (first|with_reducible refine And.intro ?_ ?_|intro hsp))
    all_goals first|(exfalso;simp at hsp;done)|exact D8 (k+1) [(2,6)] (by (try dsimp only);omega) (by first|omega|(dsimp only;omega)) rfl (by ((try dsimp only);rw [htk]);exact Al8)
 ·obtain rfl:k=1024:=by omega
  unfold bdN
  (refine wx_Pf ?_;repeat' (first|with_reducible refine And.intro ?_ ?_|intro hsp))
  exact end_WV (fun hs=>AH0 (C8 (wk_frzI (fun hz=>by simp [lk,G5 hz]) (bd_not (by decide)) hs) (C8 (K8 rfl) F8))) rfl rfl
end
end Go.Proofs.YtphggldkligldaaGreat.Sh
