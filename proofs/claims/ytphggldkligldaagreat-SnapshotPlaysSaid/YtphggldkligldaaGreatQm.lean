/-
 A step of both books: Unmap Map Take.
 A step of both books: Drop Revert Write.
 A step of both books: Read Differ.
 Load of a good book.
 A step of both books: Plan Load.
 A step of both books,whatever the call;the beginning of the document's book.
 SnapshotPlays.
-/
import Derived.Test.YtphggldkligldaaGreatQk
import Derived.Test.YtphggldkligldaaGreatQl
set_option linter.unusedSimpArgs false
set_option linter.unusedVariables false
set_option maxHeartbeats 6400000
namespace Go.Proofs.YtphggldkligldaaGreat.Sh
open Go Go.Am Go.Pol
theorem wx_Phn {p q:Prop} (hq:q) (h:R7 q→p:=by (intro hQz;((repeat' ((try (conv=>whnf));first|refine sxA ?_|refine AC0 (by with_reducible assumption) ?_|refine sxN ?_|refine AG3 h2 rfl rfl rfl rfl rfl rfl rfl rfl (by decide) rfl ?_|refine Af7 h2 rfl rfl rfl rfl rfl rfl rfl rfl rfl rfl ?_|refine BQ7 h3 rfl rfl (by decide) rfl ?_|refine BO3 h3 rfl rfl rfl rfl ?_|refine AG3 E.c1 rfl rfl rfl rfl rfl rfl rfl rfl (by decide) rfl ?_|refine Af7 E.c1 rfl rfl rfl rfl rfl rfl rfl rfl rfl rfl ?_|refine BQ7 E.c2 rfl rfl (by decide) rfl ?_|refine BO3 E.c2 rfl rfl rfl rfl ?_|refine AG3 E.s1 rfl rfl rfl rfl rfl rfl rfl rfl (by decide) rfl ?_|refine Af7 E.s1 rfl rfl rfl rfl rfl rfl rfl rfl rfl rfl ?_|refine BQ7 E.s2 rfl rfl (by decide) rfl ?_|refine BO3 E.s2 rfl rfl rfl rfl ?_|refine G7 E.sm ?_|refine J5 E.sm ?_|refine K5 E.p1 rfl (by decide) ?_|refine Y6 E.p1 rfl rfl ?_|refine K5 E.p2 rfl (by decide) ?_|refine Y6 E.p2 rfl rfl ?_|refine G7 E.pm ?_|refine J5 E.pm ?_|refine sxH ?_|((with_reducible first|apply L8 hQz|apply L9 hQz)<;>(try intro hsp hQz))|exact hQz.out))<;>(try (conv=>whnf))))):p:=h ⟨hq⟩
theorem Aq7 {s:Sy} (hg:GoodS s):E5 41 [.agg (vsA s.save),.agg (vsA s.save)] (.bool true):=r_same (Nat.le_trans Y9 (by decide)) (Nat.le_trans Z0 (by decide)) (Nat.le_trans Z5 (by decide)) (by have:=(AX0 hg.hv).2.1;show s.l.length≤_;omega) (b:=true) ⟨fun _=>sameV_rfl,fun _=>rfl⟩
structure EndQ (q:Bk) (t:TS):Prop where
 c1:AJ1 34 0 [] q t (.tup [.int .i64 (q.used:Nat),.int .i64 (q.idle:Nat),.int .i64 (q.many:Nat),.int .i64 0]) q t
 c2:AK3 109 [] q (.tup [.int .i64 (q.used:Nat),.int .i64 (q.idle:Nat),.int .i64 (q.many:Nat)]) q
 s1:AJ1 27 0 [] q t (.agg [.int .i64 (q.a:Nat),.int .i64 (q.n:Nat),.isl (q.L.map vwC)]) q t
 s2:AK3 110 [] q (.agg [.int .i64 (q.a:Nat),.int .i64 (q.n:Nat),.isl (q.L.map vwC)]) q
 sm:E5 26 [.agg [.int .i64 (q.a:Nat),.int .i64 (q.n:Nat),.isl (q.L.map vwC)],.agg [.int .i64 (q.a:Nat),.int .i64 (q.n:Nat),.isl (q.L.map vwC)]] (.bool true)
 p1:AD5 28 [] q.s.a (.agg (vsA q.s.save)) q.s.a
 p2:AD5 23 [] q.s.b (.agg (vsA q.s.save)) q.s.b
 pm:E5 41 [.agg (vsA q.s.save),.agg (vsA q.s.save)] (.bool true)
theorem endQ {q:Bk} {t:TS} (hg:K6 q) (h:TOk q.L t):EndQ q t:=⟨b_Counts hg h,d_Counts hg,b_Save h,d_Save hg,k_same (by have:=hg.len;omega),p_save hg.good,q_save hg.good,Aq7 hg.good⟩
section
variable {q:Bk} {t:TS}
set_option maxRecDepth 20000 in
theorem stp_Unmap (hg:K6 q) (h:TOk q.L t) (x:Ax) (hy:x.w.tmod 14=2):∃ t',TOk (q.unmap x.a x.b).2.L t'∧Ag5 x q t (q.unmap x.a x.b).2 t':=by
 obtain ⟨t',h1,h2⟩:=b_Unmap hg h x.a x.b
 have h3:=d_Unmap hg x.a x.b
 have E:=endQ (Az9 hg x.a x.b) h1
 refine ⟨t',h1,⟨E8 D9 b42 rfl ?_⟩⟩
 clear h1 hg h
 unfold c42
 unfold stN acE
 generalize q.unmap x.a x.b=r at *
 (refine wx_Phn ?_;repeat' (first|with_reducible refine And.intro ?_ ?_|intro hsp))
 all_goals first|exact Au6 [] 0 1 2 3 4 5 6 7 8 9 10 rfl (by decide) rfl (by decide) rfl A9 rfl rfl rfl rfl rfl rfl rfl rfl rfl rfl rfl|(exfalso;omega)
set_option maxRecDepth 20000 in
theorem stp_Map (hg:K6 q) (h:TOk q.L t) (x:Ax) (hy:x.w.tmod 14=0∨x.w.tmod 14=1):∃ t',TOk (q.map x.a x.b).2.L t'∧Ag5 x q t (q.map x.a x.b).2 t':=by
 obtain ⟨t',h1,h2⟩:=b_Map hg h x.a x.b
 have h3:=d_Map hg x.a x.b
 have E:=endQ (BE9 hg x.a x.b) h1
 refine ⟨t',h1,⟨E8 D9 b42 rfl ?_⟩⟩
 clear h1 hg h
 unfold c42
 unfold stN acE
 generalize q.map x.a x.b=r at *
 rcases hy with hy|hy
 all_goals (refine wx_Phn ?_;repeat' (first|with_reducible refine And.intro ?_ ?_|intro hsp))
 all_goals first|exact Au6 [] 0 1 2 3 4 5 6 7 8 9 10 rfl (by decide) rfl (by decide) rfl A9 rfl rfl rfl rfl rfl rfl rfl rfl rfl rfl rfl|(exfalso;omega)
set_option maxRecDepth 20000 in
theorem stp_Take (hg:K6 q) (h:TOk q.L t) (x:Ax) (hy:x.w.tmod 14=3):∃ t',TOk (q.take x.a x.b).2.2.L t'∧Ag5 x q t (q.take x.a x.b).2.2 t':=by
 obtain ⟨t',h1,h2⟩:=b_Take h x.a x.b
 have h3:=d_Take hg x.a x.b
 have E:=endQ (Ae4 hg x.a x.b) h1
 refine ⟨t',h1,⟨E8 D9 b42 rfl ?_⟩⟩
 clear h1 hg h
 unfold c42
 unfold stN acE
 generalize q.take x.a x.b=r at *
 (refine wx_Phn ?_;repeat' (first|with_reducible refine And.intro ?_ ?_|intro hsp))
 all_goals first|exact Au6 [] 0 1 2 3 4 5 6 7 8 9 10 rfl (by decide) rfl (by decide) rfl A9 rfl rfl rfl rfl rfl rfl rfl rfl rfl rfl rfl|(exfalso;omega)
end
end Go.Proofs.YtphggldkligldaaGreat.Sh
namespace Go.Proofs.YtphggldkligldaaGreat.Sh
open Go Go.Am Go.Pol
section
variable {q:Bk} {t:TS}
set_option maxRecDepth 20000 in
theorem stp_Drop (hg:K6 q) (h:TOk q.L t) (x:Ax) (hy:x.w.tmod 14=4):∃ t',TOk (q.drop x.a).2.2.L t'∧Ag5 x q t (q.drop x.a).2.2 t':=by
 obtain ⟨t',h1,h2⟩:=b_Drop hg h x.a
 have h3:=d_Drop hg x.a
 have E:=endQ (Ae5 hg x.a) h1
 refine ⟨t',h1,⟨E8 D9 b42 rfl ?_⟩⟩
 clear h1 hg h
 unfold c42
 unfold stN acE
 generalize q.drop x.a=r at *
 (refine wx_Phn ?_;repeat' (first|with_reducible refine And.intro ?_ ?_|intro hsp))
 all_goals first|exact Au6 [] 0 1 2 3 4 5 6 7 8 9 10 rfl (by decide) rfl (by decide) rfl A9 rfl rfl rfl rfl rfl rfl rfl rfl rfl rfl rfl|(exfalso;omega)
set_option maxRecDepth 20000 in
theorem stp_Revert (hg:K6 q) (h:TOk q.L t) (x:Ax) (hy:x.w.tmod 14=5):∃ t',TOk (q.revert x.a x.b).2.2.L t'∧Ag5 x q t (q.revert x.a x.b).2.2 t':=by
 obtain ⟨t',h1,h2⟩:=b_Revert hg h x.a x.b
 have h3:=d_Revert hg x.a x.b
 have E:=endQ (At6 hg x.a x.b) h1
 refine ⟨t',h1,⟨E8 D9 b42 rfl ?_⟩⟩
 clear h1 hg h
 unfold c42
 unfold stN acE
 generalize q.revert x.a x.b=r at *
 (refine wx_Phn ?_;repeat' (first|with_reducible refine And.intro ?_ ?_|intro hsp))
 all_goals first|exact Au6 [] 0 1 2 3 4 5 6 7 8 9 10 rfl (by decide) rfl (by decide) rfl A9 rfl rfl rfl rfl rfl rfl rfl rfl rfl rfl rfl|(exfalso;omega)
set_option maxRecDepth 20000 in
theorem stp_Write (hg:K6 q) (h:TOk q.L t) (x:Ax) (hy:x.w.tmod 14=6∨x.w.tmod 14=7∨x.w.tmod 14=8∨x.w.tmod 14=9):∃ t',TOk (q.write x.a x.t x.v).2.L t'∧Ag5 x q t (q.write x.a x.t x.v).2 t':=by
 obtain ⟨t',h1,h2⟩:=Av6 hg h x.a x.t x.v
 have h3:=d_Write hg x.a x.t x.v
 have E:=endQ (AN3 hg x.a x.t x.v) h1
 refine ⟨t',h1,⟨E8 D9 b42 rfl ?_⟩⟩
 clear h1 hg h
 unfold c42
 unfold stN acE
 generalize q.write x.a x.t x.v=r at *
 rcases hy with hy|hy|hy|hy
 all_goals (refine wx_Phn ?_;repeat' (first|with_reducible refine And.intro ?_ ?_|intro hsp))
 all_goals first|exact Au6 [] 0 1 2 3 4 5 6 7 8 9 10 rfl (by decide) rfl (by decide) rfl A9 rfl rfl rfl rfl rfl rfl rfl rfl rfl rfl rfl|(exfalso;omega)
end
end Go.Proofs.YtphggldkligldaaGreat.Sh
namespace Go.Proofs.YtphggldkligldaaGreat.Sh
open Go Go.Am Go.Pol
theorem wx_Pjn {p q:Prop} (hq:q) (h:R7 q→p:=by (intro hQz;((repeat' ((try (conv=>whnf));first|refine sxA ?_|refine AC0 (by with_reducible assumption) ?_|refine sxN ?_|refine AG3 h2 rfl rfl rfl rfl rfl rfl rfl rfl (by decide) rfl ?_|refine Af7 h2 rfl rfl rfl rfl rfl rfl rfl rfl rfl rfl ?_|refine BQ7 h3 rfl rfl (by decide) rfl ?_|refine BO3 h3 rfl rfl rfl rfl ?_|refine AG3 E.c1 rfl rfl rfl rfl rfl rfl rfl rfl (by decide) rfl ?_|refine Af7 E.c1 rfl rfl rfl rfl rfl rfl rfl rfl rfl rfl ?_|refine BQ7 E.c2 rfl rfl (by decide) rfl ?_|refine BO3 E.c2 rfl rfl rfl rfl ?_|refine AG3 E.s1 rfl rfl rfl rfl rfl rfl rfl rfl (by decide) rfl ?_|refine Af7 E.s1 rfl rfl rfl rfl rfl rfl rfl rfl rfl rfl ?_|refine BQ7 E.s2 rfl rfl (by decide) rfl ?_|refine BO3 E.s2 rfl rfl rfl rfl ?_|refine G7 E.sm ?_|refine J5 E.sm ?_|refine K5 E.p1 rfl (by decide) ?_|refine Y6 E.p1 rfl rfl ?_|refine K5 E.p2 rfl (by decide) ?_|refine Y6 E.p2 rfl rfl ?_|refine G7 E.pm ?_|refine J5 E.pm ?_|refine G7 h4 ?_|refine J5 h4 ?_|refine sxH ?_|((with_reducible first|apply L8 hQz|apply L9 hQz)<;>(try intro hsp hQz))|exact hQz.out))<;>(try (conv=>whnf))))):p:=h ⟨hq⟩
section
variable {q:Bk} {t:TS}
set_option maxRecDepth 20000 in
theorem stp_Read (hg:K6 q) (h:TOk q.L t) (x:Ax) (hy:x.w.tmod 14=10):Ag5 x q t q t:=by
 have h2:=b_Read h x.a x.t
 have h3:=d_Read hg x.a x.t
 have E:=endQ (hg) (h)
 refine ⟨E8 D9 b42 rfl ?_⟩
 clear hg h
 unfold c42
 unfold stN acE
 generalize q.read x.a x.t=r at *
 (refine wx_Pjn ?_;repeat' (first|with_reducible refine And.intro ?_ ?_|intro hsp))
 all_goals first|exact Au6 [] 0 1 2 3 4 5 6 7 8 9 10 rfl (by decide) rfl (by decide) rfl A9 rfl rfl rfl rfl rfl rfl rfl rfl rfl rfl rfl|(exfalso;omega)
set_option maxRecDepth 20000 in
theorem BB7 (hg:K6 q) (h:TOk q.L t) (x:Ax) (hy:x.w.tmod 14=11) (hn:¬ (inR 64 x.a∧inR 64 x.b)):Ag5 x q t q t:=by
 have h2:=b_Differ_no (q:=q) (t:=t) x.a x.b hn
 have h3:=BX1 (q:=q) x.a x.b hn
 have h4:=k_sameN
 have E:=endQ (hg) (h)
 refine ⟨E8 D9 b42 rfl ?_⟩
 clear hg h
 unfold c42
 unfold stN acE
 (refine wx_Pjn ?_;repeat' (first|with_reducible refine And.intro ?_ ?_|intro hsp))
 all_goals first|exact Au6 [] 0 1 2 3 4 5 6 7 8 9 10 rfl (by decide) rfl (by decide) rfl A9 rfl rfl rfl rfl rfl rfl rfl rfl rfl rfl rfl|(exfalso;omega)
set_option maxRecDepth 20000 in
theorem stp_Differ (hg:K6 q) (h:TOk q.L t) (x:Ax) (hy:x.w.tmod 14=11) (hn:inR 64 x.a∧inR 64 x.b):Ag5 x q t q t:=by
 obtain ⟨a,ea,ha⟩:=AH3 hn.1
 obtain ⟨b,eb,hb⟩:=AH3 hn.2
 have h2:=b_Differ hg h (x:=a) (y:=b) (by omega) (by omega)
 have h3:=d_Differ hg (x:=a) (y:=b) (by omega) (by omega)
 have hle:=dif_le (b:=q) (x:=a) (y:=b) (k:=1024)
 have h4:=k_sameI (l:=q.difN a b 1024) (by omega)
 rw [← ea,← eb] at h2 h3
 have E:=endQ (hg) (h)
 refine ⟨E8 D9 b42 rfl ?_⟩
 clear hg h
 unfold c42
 unfold stN acE
 generalize q.difN a b 1024=D at *
 (refine wx_Pjn ?_;repeat' (first|with_reducible refine And.intro ?_ ?_|intro hsp))
 all_goals first|exact Au6 [] 0 1 2 3 4 5 6 7 8 9 10 rfl (by decide) rfl (by decide) rfl A9 rfl rfl rfl rfl rfl rfl rfl rfl rfl rfl rfl|(exfalso;omega)
end
end Go.Proofs.YtphggldkligldaaGreat.Sh
namespace Go.Proofs.YtphggldkligldaaGreat.Sh
open Go Go.Am Go.Pol
theorem plx_Kb {p:Prop} (h:p:=by ((first|exact plw|(with_reducible first|apply O4|apply M5|apply J3|apply u6|apply z8|apply AB2|apply P5|apply AF3|apply M9|apply X0|apply AA5|fail)|fail);first|done|fail)):p:=h
theorem ppx_Kb {p:Prop} (h:p:=by ((first|with_reducible assumption|(with_reducible first|apply G9|apply I7|apply V6|apply T9 _ _|apply X9|apply AM9|apply J4|apply H8|apply AQ7|apply AT4|apply K7 AE4|apply sn_plain|fail)|exact ppw|fail);first|done|fail)):p:=h
open Go.Proofs.YtphggldkligldaaGreat.Sh renaming plx_Kb → plx
open Go.Proofs.YtphggldkligldaaGreat.Sh renaming ppx_Kb → ppx
theorem wx_Kb {p q:Prop} (hq:q) (h:R7 q→p:=by (intro hQz;((repeat' ((try (conv=>whnf));first|refine sxA ?_|refine Z9 (d:=dV) K9 (by first|assumption|omega) (by with_reducible assumption) ?_|refine sxF ?_|refine K5 hc rfl (by decide) ?_|refine G7 (by assumption) ?_|refine cx_LT hld ?_|refine AB3 (by assumption) rfl rfl rfl rfl rfl (by decide) rfl ?_|refine K5 hck rfl (by decide) ?_|refine AT2 D9 rfl hF hA hB rfl ?_|refine rd_ret rfl ?_|refine rg_ret rfl ?_|(refine O6 D9 b75 rfl ?_;unfold c75)|refine sxH ?_|((with_reducible first|apply L8 hQz|apply L9 hQz)<;>(try intro hsp hQz))|exact hQz.out))<;>(try (conv=>whnf))))):p:=h ⟨hq⟩
theorem sn_plain {a n:Int} {L:List Vw}:∀ x ∈ [AV.int .i64 a,.int .i64 n,.isl (L.map vwC)],Plain x:=fun x hx=>by
 simp only [List.mem_cons,List.not_mem_nil,or_false] at hx
 rcases hx with rfl|rfl|rfl<;>first|exact A8|exact J3
section
variable {q:Bk}
theorem b_Load (hg:K6 q):∃ t,TOk q.L t∧LocBN 24 [.agg [.int .i64 (q.a:Nat),.int .i64 (q.n:Nat),.isl (q.L.map vwC)]] q.s q t:=by
 obtain ⟨t,ht,hld⟩:=l_Load hg.sr hg.len hg.ok
 have hrng:=hg.rng
 have hlen:=hg.len
 have hst:=An2 (q.a:Nat) (q.n:Nat)
 rw [decide_eq_true (show stat (q.a:Nat) (q.n:Nat) from ⟨by omega,by omega,by omega,by omega⟩)] at hst
 have hc:=Am5 hg.good
 unfold Sy.counts at hc
 refine ⟨t,ht,LocBN.mk (E8 D9 b24 rfl ?_) (fun x hx=>by obtain rfl:=List.mem_singleton.1 hx;exact AA5)⟩
 unfold c24
 generalize AR6 q.s.K 0 1024=n0 at *
 generalize AR6 q.s.K 1 1024=n1 at *
 generalize AR6 q.s.K 2 1024=n2 at *
 generalize AR6 q.s.K 3 1024=n3 at *
 generalize cntG q.s.G 64=n4 at *
 (refine wx_Kb ?_;repeat' (first|with_reducible refine And.intro ?_ ?_|intro hsp))
 (refine H9 [2,3,4,5,10,50,51] (fun (i:Nat)=>[(52,.int .i64 (i:Nat))]) (fun (i:Nat)=>⟨[(0,.cells q.s.a),(1,.cells [.ptr 0 0]),(2,.cells [.int .i64 (q.a:Nat),.int .i64 (q.n:Nat),.isl (q.L.map vwC)]),(3,.cells [.nilp]),(4,.cells [.int .i64 0])]++tabN t 6 7 8 9 10++[(11,.cells [.ptr 6 0,.ptr 0 0,.int .i64 (q.a:Nat),.int .i64 (q.n:Nat)])],12⟩) (fun (i:Nat)=>i≤q.L.length) (fun (i:Nat)=>q.L.length - i) (0) [] rfl (fun _=>by first|exact Nat.zero_le _|(dsimp only;omega)) ?_ (by ((try (conv=>whnf));exact V8)) ?_)
 ·exact Nat.zero_le _
 intro i hi
 unfold tabN
 by_cases hil:i < q.L.length
 ·have hv:=hg.view (AB6 (d:=dV) hil)
  generalize hx:nth dV q.L i=v at *
  (refine wx_Kb ?_;repeat' (first|with_reducible refine And.intro ?_ ?_|intro hsp))
  all_goals first|(exfalso;omega)|exact D8 (i+1) [] (by (try dsimp only);omega) (by first|omega|(dsimp only;omega)) rfl (by exact V8)
 ·clear hc hld
  (refine wx_Kb ?_;repeat' (first|with_reducible refine And.intro ?_ ?_|intro hsp))
  refine AS1 D9 b137 rfl trivial ?_
  intro frl asl bdl hF hA hB
  unfold c137
  (refine wx_Kb ?_;repeat' (first|with_reducible refine And.intro ?_ ?_|intro hsp))
  (refine H9 [0,1] (fun (k:Nat)=>[(3,.int .i64 ((q.a+k:Nat):Int))]) (fun (k:Nat)=>⟨[(0,.cells q.s.a),(1,.cells [.ptr 0 0]),(3,.cells [.nilp]),(4,.cells [.int .i64 0])]++tabN t 6 7 8 9 10++[(11,.cells [.ptr 6 0,.ptr 0 0,.int .i64 (q.a:Nat),.int .i64 (q.n:Nat)]),(12,.cells [.ptr 11 0]),(13,.loop .ready none frl [80,81] asl bdl)],14⟩) (fun (k:Nat)=>k≤q.n) (fun (k:Nat)=>q.n - k) (0) [] rfl (fun _=>by first|exact Nat.zero_le _|(dsimp only;omega)) ?_ (by ((try (conv=>whnf));exact V8)) ?_)
  ·exact Nat.zero_le _
  intro k hk
  unfold tabN
  by_cases hkl:k < q.n
  ·have hkd:=hg.kind (q.a+k) (by omega) (by omega)
   have hcn:=BB5 ht (f:=q.a+k) (by omega)
   have hck:=p_kind (s:=q.s) (a:=((q.a+k:Nat):Int))
   rw [As6 (by omega) hkd.2] at hck
   have hus:=hg.used (q.a+k)
   have hus2:0 < cntF q.L (q.a+k)→q.s.K (q.a+k)=2:=fun h=>(hus h).2.2
   have hkk:=hkd.1
   clear hus
   generalize cntF q.L (q.a+k)=n at *
   generalize q.s.K (q.a+k)=kk at *
   (refine wx_Kb ?_;repeat' (first|with_reducible refine And.intro ?_ ?_|intro hsp))
   all_goals first|(exfalso;omega)|exact D8 (k+1) [] (by (try dsimp only);omega) (by first|omega|(dsimp only;omega)) rfl (by exact V8)
  ·obtain rfl:k=q.n:=by omega
   (refine wx_Kb ?_;repeat' (first|with_reducible refine And.intro ?_ ?_|intro hsp))
   all_goals exact end_G [(1,25),(2,11),(3,6),(4,7),(5,8),(6,9),(7,10)] 1 2 3 4 5 6 7 0 rfl (by decide) rfl (by decide) (fun hs=>AH0 (C8 (R4 (i:=1) rfl (show 1 < 8 by decide)) (C8 (K8 rfl) F8))) rfl rfl rfl rfl rfl rfl rfl rfl
end
end Go.Proofs.YtphggldkligldaaGreat.Sh
namespace Go.Proofs.YtphggldkligldaaGreat.Sh
open Go Go.Am Go.Pol
theorem wx_Pkn {p q:Prop} (hq:q) (h:R7 q→p:=by (intro hQz;((repeat' ((try (conv=>whnf));first|refine sxA ?_|refine AC0 (by with_reducible assumption) ?_|refine sxN ?_|refine K5 h2 rfl (by decide) ?_|refine Y6 h2 rfl rfl ?_|refine K5 h3 rfl (by decide) ?_|refine Y6 h3 rfl rfl ?_|refine AG3 E.c1 rfl rfl rfl rfl rfl rfl rfl rfl (by decide) rfl ?_|refine Af7 E.c1 rfl rfl rfl rfl rfl rfl rfl rfl rfl rfl ?_|refine BQ7 E.c2 rfl rfl (by decide) rfl ?_|refine BO3 E.c2 rfl rfl rfl rfl ?_|refine AG3 E.s1 rfl rfl rfl rfl rfl rfl rfl rfl (by decide) rfl ?_|refine Af7 E.s1 rfl rfl rfl rfl rfl rfl rfl rfl rfl rfl ?_|refine BQ7 E.s2 rfl rfl (by decide) rfl ?_|refine BO3 E.s2 rfl rfl rfl rfl ?_|refine G7 E.sm ?_|refine J5 E.sm ?_|refine K5 E.p1 rfl (by decide) ?_|refine Y6 E.p1 rfl rfl ?_|refine K5 E.p2 rfl (by decide) ?_|refine Y6 E.p2 rfl rfl ?_|refine G7 E.pm ?_|refine J5 E.pm ?_|refine cx_BN h2 rfl (by decide) ?_|refine AG3 h3 rfl rfl rfl rfl rfl rfl rfl rfl (by decide) rfl ?_|refine Af7 h3 rfl rfl rfl rfl rfl rfl rfl rfl rfl rfl ?_|refine sxH ?_|((with_reducible first|apply L8 hQz|apply L9 hQz)<;>(try intro hsp hQz))|exact hQz.out))<;>(try (conv=>whnf))))):p:=h ⟨hq⟩
section
variable {q:Bk} {t:TS}
set_option maxRecDepth 20000 in
theorem stp_Plan (hg:K6 q) (h:TOk q.L t) (x:Ax) (hy:x.w.tmod 14=13):Ag5 x q t { q with s:=(q.s.plan x.l).2 } t:=by
 have h2:=p_plan q.s x.l
 have h3:=q_plan q.s x.l
 have E:=endQ (BK4 hg x.l) (h)
 refine ⟨E8 D9 b42 rfl ?_⟩
 clear hg h
 unfold c42
 unfold stN acE
 generalize q.s.plan x.l=r at *
 (refine wx_Pkn ?_;repeat' (first|with_reducible refine And.intro ?_ ?_|intro hsp))
 all_goals first|exact Au6 [] 0 1 2 3 4 5 6 7 8 9 10 rfl (by decide) rfl (by decide) rfl A9 rfl rfl rfl rfl rfl rfl rfl rfl rfl rfl rfl|(exfalso;omega)
set_option maxRecDepth 20000 in
theorem stp_Load (hg:K6 q) (h:TOk q.L t) (x:Ax) (hy:x.w.tmod 14=12):∃ t',TOk q.L t'∧BQ4 x q t q t':=by
 obtain ⟨t',h1,h2⟩:=b_Load hg
 have h3:=b_Save h
 have E:=endQ hg h1
 refine ⟨t',h1,⟨E8 D9 b42 rfl ?_⟩⟩
 clear h1 hg h
 unfold c42
 unfold stN acE
 (refine wx_Pkn ?_;repeat' (first|with_reducible refine And.intro ?_ ?_|intro hsp))
 all_goals first|exact Au6 [(11,21),(12,22),(13,23),(14,24),(15,25),(16,26),(17,27)] 11 12 13 14 15 16 17 7 8 9 10 rfl (by decide) rfl (by decide) rfl A9 rfl rfl rfl rfl rfl rfl rfl rfl rfl rfl rfl|(exfalso;omega)
end
end Go.Proofs.YtphggldkligldaaGreat.Sh
namespace Go.Proofs.YtphggldkligldaaGreat.Sh
open Go Go.Am Go.Pol
theorem wx_Pl {p q:Prop} (hq:q) (h:R7 q→p:=by (intro hQz;((repeat' ((try (conv=>whnf));first|refine sxA ?_|refine sxF ?_|refine G7 (by assumption) ?_|refine K5 hr rfl (by decide) ?_|refine sxH ?_|((with_reducible first|apply L8 hQz|apply L9 hQz)<;>(try intro hsp hQz))|exact hQz.out))<;>(try (conv=>whnf))))):p:=h ⟨hq⟩
section
variable {q:Bk} {t:TS}
theorem l_both (hg:K6 q) (h:TOk q.L t) (x:Ax) (hw:0≤x.w):∃ t',TOk (q.al x).2.L t'∧(x.w.tmod 14 ≠ 12→Ag5 x q t (q.al x).2 t')∧(x.w.tmod 14=12→BQ4 x q t (q.al x).2 t'):=by
 have h0:x.w.tmod 14=x.w % 14:=Int.tmod_eq_emod_of_nonneg hw
 have hm:((x.w.toNat % 14:Nat):Int)=x.w.tmod 14:=by rw [h0];omega
 have hw14:0≤x.w.tmod 14∧x.w.tmod 14 < 14:=by rw [h0];omega
 unfold Bk.al Bk.call
 generalize x.w.toNat % 14=w at *
 by_cases c1:w < 2
 ·rw [if_pos c1]
  obtain ⟨t',h1,h2⟩:=stp_Map hg h x (by omega)
  exact ⟨t',h1,fun _=>h2,fun e=>by omega⟩
 rw [if_neg c1]
 by_cases c2:w=2
 ·rw [if_pos c2]
  obtain ⟨t',h1,h2⟩:=stp_Unmap hg h x (by omega)
  exact ⟨t',h1,fun _=>h2,fun e=>by omega⟩
 rw [if_neg c2]
 by_cases c3:w=3
 ·rw [if_pos c3]
  obtain ⟨t',h1,h2⟩:=stp_Take hg h x (by omega)
  exact ⟨t',h1,fun _=>h2,fun e=>by omega⟩
 rw [if_neg c3]
 by_cases c4:w=4
 ·rw [if_pos c4]
  obtain ⟨t',h1,h2⟩:=stp_Drop hg h x (by omega)
  exact ⟨t',h1,fun _=>h2,fun e=>by omega⟩
 rw [if_neg c4]
 by_cases c5:w=5
 ·rw [if_pos c5]
  obtain ⟨t',h1,h2⟩:=stp_Revert hg h x (by omega)
  exact ⟨t',h1,fun _=>h2,fun e=>by omega⟩
 rw [if_neg c5]
 by_cases c6:w < 10
 ·rw [if_pos c6]
  obtain ⟨t',h1,h2⟩:=stp_Write hg h x (by omega)
  exact ⟨t',h1,fun _=>h2,fun e=>by omega⟩
 rw [if_neg c6]
 by_cases c7:w=13
 ·rw [if_pos c7]
  exact ⟨t,h,fun _=>stp_Plan hg h x (by omega),fun e=>by omega⟩
 rw [if_neg c7]
 by_cases c8:w=12
 ·obtain ⟨t',h1,h2⟩:=stp_Load hg h x (by omega)
  exact ⟨t',h1,fun e=>by omega,fun _=>h2⟩
 by_cases c9:w=10
 ·exact ⟨t,h,fun _=>stp_Read hg h x (by omega),fun e=>by omega⟩
 by_cases hn:inR 64 x.a∧inR 64 x.b
 ·exact ⟨t,h,fun _=>stp_Differ hg h x (by omega) hn,fun e=>by omega⟩
 ·exact ⟨t,h,fun _=>BB7 hg h x (by omega) hn,fun e=>by omega⟩
end
theorem st_chain {b:Bk} {X:List Ax} (hw:∀ x ∈ X,0≤x.w) (g:K6 b) (h:TOk b.L T0):∃ T:Nat→TS,T 0=T0∧(∀ k,k≤X.length→TOk (b.run X k).L (T k))∧∀ k,k < X.length→((nth dA X k).w.tmod 14 ≠ 12→Ag5 (nth dA X k) (b.run X k) (T k) (b.run X (k+1)) (T (k+1)))∧((nth dA X k).w.tmod 14=12→BQ4 (nth dA X k) (b.run X k) (T k) (b.run X (k+1)) (T (k+1))):=by
 refine chain (n:=X.length) (P:=fun k t=>TOk (b.run X k).L t) (S:=fun k t t'=>((nth dA X k).w.tmod 14 ≠ 12→Ag5 (nth dA X k) (b.run X k) t (b.run X (k+1)) t')∧((nth dA X k).w.tmod 14=12→BQ4 (nth dA X k) (b.run X k) t (b.run X (k+1)) t')) T0 h fun k t hk ht=>?_
 exact l_both (run_good g k) ht (nth dA X k) (hw _ (AB6 (d:=dA) hk))
structure LocDN (a n:Int) (s:Sy) (q:Bk):Prop where
 out:AT8 Tryz.prog G0 18 [.ptr 0 0,.int .i64 a,.int .i64 n] [(0,.cells s.b)] 1 fun x h=>x = .tup [.ptr 1 0,.int .i64 0]∧h=⟨bdN q 1 0,2⟩
theorem cx_DN {a n:Int} {s:Sy} {q:Bk} {g nx:Nat} {l:List (Nat × AObj)} {K:AV→Hp→Prop} (hc:LocDN a n s q) (h0:lk l g=some (.cells s.b)) (hlt:g < nx)
  (hk:AJ5 [g] l fun l2=>K (.tup [.ptr nx 0,.int .i64 0]) ⟨([(nx,.cells [.ptr g 0,.int .i64 (q.a:Nat),.int .i64 (q.n:Nat),.isl (q.L.map vwC)]),(g,.cells q.s.b)]:List (Nat × AObj))++l2,nx+1⟩):AG9 Tryz.prog G0 (.fn 18 [] []) [.ptr g 0,.int .i64 a,.int .i64 n] ⟨l,nx⟩ K:=by
 have e0:enter [g] g 0:=rfl
 have k0:back [g] nx 0 g:=rfl
 have k1:back [g] nx 1 nx:=rfl
 refine AG2 (r':=.tup [.ptr nx 0,.int .i64 0]) (l1:=bdN q nx g) [g] hc.out F3 rfl (.cons e0 h0 (D5 H8) .nil)
  ?_ (by intro x hx;simp only [List.mem_cons,List.not_mem_nil,or_false] at hx;omega) (BJ3 ⟨F9 k1,C9 A8,trivial⟩)
  (.cons k1 ⟨F9 k0,C9 A8,C9 A8,C9 J3,trivial⟩ (.cons k0 (D5 H8) .nil)) hk
 simp only [List.nil_append,List.append_nil]
 exact ⟨F9 e0,C9 A8,C9 A8,trivial⟩
theorem BE3 (a n:Int):E5 54 [.int .i64 a,.int .i64 n] (.bool (decide (stat a n))):=by
 refine E5.mk (I5 D9 b54 F3 ⟨A8,A8,trivial⟩ A9 rfl ?_)
 unfold c54
 (refine wx_Pl ?_;repeat' (first|with_reducible refine And.intro ?_ ?_|intro hsp))
 all_goals exact J7 (by first|exact (decide_eq_false fun h:stat a n=>by obtain ⟨h1,h2,h3,h4⟩:=h;omega).symm|exact decide_eq_decide.2 ⟨fun h=>⟨by omega,by omega,by omega,by omega⟩,fun h=>by obtain ⟨h1,h2,h3,h4⟩:=h;omega⟩)
section
variable {s:Sy} {a n:Int}
theorem d_New_far (hn:¬ stat a n):AD5 18 [.int .i64 a,.int .i64 n] s.b (.tup [.nilp,.int .i64 7]) s.b:=by
 have hst:=BE3 a n
 rw [decide_eq_false hn] at hst
 refine AD5.mk (E8 D9 b18 rfl ?_) H8 H8 H6 AP1
 unfold c18
 (refine wx_Pl ?_;repeat' (first|with_reducible refine And.intro ?_ ?_|intro hsp))
 all_goals exact X7 rfl AP1 rfl H8
theorem d_New_no (hg:GoodS s) (hn:stat a n) (he:(s.chg a n 0 1 0).1 ≠ 0):AD5 18 [.int .i64 a,.int .i64 n] s.b (.tup [.nilp,.int .i64 (s.chg a n 0 1 0).1]) (s.chg a n 0 1 0).2.b:=by
 have hst:=BE3 a n
 rw [decide_eq_true hn] at hst
 have hr:=BK0 (a:=a) (n:=n) hg
 refine AD5.mk (E8 D9 b18 rfl ?_) H8 H8 H6 AP1
 unfold c18
 generalize s.chg a n 0 1 0=r at *
 (refine wx_Pl ?_;repeat' (first|with_reducible refine And.intro ?_ ?_|intro hsp))
 all_goals first|exact X7 rfl AP1 rfl H8|(exfalso;omega)
theorem d_New (hg:GoodS s) (hn:stat a n) (he:(s.chg a n 0 1 0).1=0):LocDN a n s ⟨a.toNat,n.toNat,[],(s.chg a n 0 1 0).2⟩:=by
 have hst:=BE3 a n
 rw [decide_eq_true hn] at hst
 have hr:=BK0 (a:=a) (n:=n) hg
 rw [he] at hr
 have ha:((a.toNat:Nat):Int)=a:=Int.toNat_of_nonneg hn.1
 have hna:((n.toNat:Nat):Int)=n:=Int.toNat_of_nonneg (by have:=hn.2.2.1;omega)
 refine LocDN.mk (E8 D9 b18 rfl ?_)
 unfold c18
 unfold bdN
 dsimp only
 rw [ha,hna]
 generalize s.chg a n 0 1 0=r at *
 (refine wx_Pl ?_;repeat' (first|with_reducible refine And.intro ?_ ?_|intro hsp))
 all_goals first|(exfalso;omega)|skip
 have hs:AG8 (rn []) ⟨(1,.cells [.ptr 0 0,.int .i64 a,.int .i64 n,.nils])::([(0,.cells r.2.b)]++[]),1+1⟩ ⟨[(1,.cells [.ptr 0 0,.int .i64 a,.int .i64 n,.isl (List.map vwC [])]),(0,.cells r.2.b)],2⟩:=fun j o hj=>by
  simp only [lk] at hj
  split at hj
  ·rename_i e;subst e;exact ⟨_,rfl⟩
  ·split at hj
   ·rename_i e;subst e;exact ⟨_,rfl⟩
   ·cases hj
 refine AA0 [] rfl (by decide) (P6 rfl) (AH0 (C8 (R4 rfl (show 1 < 2 by decide)) (C8 (K8 rfl) F8))) ?_ ⟨rfl,rfl⟩
 exact I4 (show 1 < 2 by decide) rfl (C8 (R4 (i:=0) rfl (show 0 < 2 by decide)) (C8 (K8 rfl) (C8 (K8 rfl) (C8 AU4 F8)))) (F5 hs (show 0 < 2 by decide) rfl rfl H8 J8)
end
end Go.Proofs.YtphggldkligldaaGreat.Sh
namespace Go.Proofs.YtphggldkligldaaGreat.Sh
open Go Go.Am Go.Pol
theorem plx_Pm {p:Prop} (h:p:=by ((first|exact plw|(with_reducible first|apply O4|apply M5|apply J3|apply u6|apply z8|apply AB2|apply P5|apply AF3|apply M9|apply X0|apply AA5|apply Ar4|apply AX8 _|apply AX9 _|fail)|fail);first|done|fail)):p:=h
theorem ppx_Pm {p:Prop} (h:p:=by ((first|with_reducible assumption|(with_reducible first|apply G9|apply I7|apply V6|apply T9 _ _|apply X9|apply AM9|apply J4|apply H8|apply AQ7|apply AT4|apply K7 AE4|apply sn_plain|apply Am2 _|apply AY7 _|apply Ap7 _|fail)|exact ppw|fail);first|done|fail)):p:=h
open Go.Proofs.YtphggldkligldaaGreat.Sh renaming plx_Pm → plx
open Go.Proofs.YtphggldkligldaaGreat.Sh renaming ppx_Pm → ppx
theorem wx_Pm {p q:Prop} (hq:q) (h:R7 q→p:=by (intro hQz;((repeat' ((try (conv=>whnf));first|refine sxA ?_|refine Z9 (d:=dA) acE_len (by first|assumption|omega) (by with_reducible assumption) ?_|refine sxF ?_|refine G7 (by assumption) ?_|refine BX2 (by assumption) ?_|refine cx_BN h1 rfl (by decide) ?_|refine cx_DN h2 rfl (by decide) ?_|refine cx_TB hb rfl rfl rfl rfl rfl rfl rfl rfl rfl rfl rfl (by decide) rfl ?_|refine cx_T ha rfl rfl rfl rfl rfl rfl rfl rfl rfl rfl rfl (by decide) rfl ?_|refine K5 h1 rfl (by decide) ?_|refine K5 h2 rfl (by decide) ?_|refine K5 h3 rfl (by decide) ?_|refine K5 h4 rfl (by decide) ?_|refine sxH ?_|((with_reducible first|apply L8 hQz|apply L9 hQz)<;>(try intro hsp hQz))|exact hQz.out))<;>(try (conv=>whnf))))):p:=h ⟨hq⟩
set_option maxRecDepth 20000 in
theorem k_plays {p:Py} (hl:p.X.length≤maxLen) (hw:∀ x ∈ p.X,0≤x.w):E5 8 [.agg (pyE p)] (.bool true):=by
 obtain ⟨fb,hfar,hok⟩:=k_far p hl
 have hsh:=k_shown
 refine E5.mk (I5 D9 b8 F3 ⟨AX8 p,trivial⟩ A9 rfl ?_)
 unfold c8
 cases fb with
 | true =>
  unfold pyE at hfar ⊢
  (refine wx_Pm ?_;repeat' (first|with_reducible refine And.intro ?_ ?_|intro hsp))
  all_goals first|exact J7 rfl|(exfalso;omega)
 | false =>
  have hok:=hok rfl
  by_cases hc:(AE7 p.l).2=0
  ·have hnw:=p_new (l:=p.l) (i:=(AE7 p.l).1) (Prod.ext rfl hc)
   have hnq:=q_new (l:=p.l) (i:=(AE7 p.l).1) (Prod.ext rfl hc)
   have hg:=BE8 hc
   by_cases hst:stat p.a p.n
   ·by_cases he:((Sy.new p.l).chg p.a p.n 0 1 0).1=0
    ·have h1:=b_New hg hst he
     have h2:=d_New hg hst he
     obtain ⟨g1,-,-,-,-⟩:=py_good hc hst he
     obtain ⟨T,hT0,hT,hstp⟩:=st_chain (b:=p.b) hw g1 tok_0
     have hR0:p.b.run p.X 0=p.b:=rfl
     have h40:=hok.1
     rw [show (⟨p.a.toNat,p.n.toNat,[],((Sy.new p.l).chg p.a p.n 0 1 0).2⟩:Bk)=p.b from rfl] at h1 h2
     unfold pyE at hfar ⊢
     generalize p.b.run p.X=R at *
     generalize p.b=b0 at *
     generalize T0=t0 at *
     generalize Sy.new p.l=s0 at *
     (refine wx_Pm ?_;repeat' (first|with_reducible refine And.intro ?_ ?_|intro hsp))
     all_goals first|(exfalso;simp at hsp;done)|skip
     (refine H9 [1,9] (fun (k:Nat)=>[(10,.int .i64 (k:Nat))]) (fun (k:Nat)=>⟨[(0,.cells [.int .i64 p.a,.int .i64 p.n,.isl (p.l.map rlA),.isl (p.X.map acE)])]++stN (R k) (T k) 3 4 5 6 7 8 9 1 10 2 11,12⟩) (fun (k:Nat)=>k≤p.X.length) (fun (k:Nat)=>p.X.length - k) (0) [] rfl (fun _=>by first|exact Nat.zero_le _|(dsimp only;omega)) ?_ (by ((try (conv=>whnf));(rw [hR0,hT0]);exact V8)) ?_)
     ·exact Nat.zero_le _
     intro k hk
     unfold stN
     by_cases hkl:k < p.X.length
     ·obtain ⟨ha,hb⟩:=hstp k hkl
      clear hT hstp hw h1 h2 hR0 hT0
      generalize hx:nth dA p.X k=x at *
      by_cases hy:x.w.tmod 14=12
      ·have hb:=hb hy
       (refine wx_Pm ?_;repeat' (first|with_reducible refine And.intro ?_ ?_|intro hsp))
       all_goals first|(exfalso;omega)|exact D8 (k+1) [(3,12),(4,13),(5,14),(6,15),(7,16),(8,17),(9,18)] (by (try dsimp only);omega) (by first|omega|(dsimp only;omega)) rfl (by exact V8)
      ·have ha:=ha hy
       (refine wx_Pm ?_;repeat' (first|with_reducible refine And.intro ?_ ?_|intro hsp))
       all_goals first|(exfalso;omega)|exact D8 (k+1) [] (by (try dsimp only);omega) (by first|omega|(dsimp only;omega)) rfl (by exact V8)
     ·(refine wx_Pm ?_;repeat' (first|with_reducible refine And.intro ?_ ?_|intro hsp))
      all_goals exact J7 rfl
    ·have h1:=b_New_no hg hst he
     have h2:=d_New_no hg hst he
     have hg2:GoodS ((Sy.new p.l).chg p.a p.n 0 1 0).2:=Ae6 hg (by decide)
     have h3:=p_save hg2
     have h4:=q_save hg2
     have h5:=Aq7 hg2
     unfold pyE at hfar ⊢
     clear hg2
     generalize Sy.new p.l=s0 at *
     generalize s0.chg p.a p.n 0 1 0=r at *
     (refine wx_Pm ?_;repeat' (first|with_reducible refine And.intro ?_ ?_|intro hsp))
     all_goals first|exact J7 rfl|(exfalso;omega)|(exfalso;simp at hsp;omega)
   ·have h1:=b_New_far hg hst
    have h2:=d_New_far (s:=Sy.new p.l) hst
    have h3:=p_save hg
    have h4:=q_save hg
    have h5:=Aq7 hg
    unfold pyE at hfar ⊢
    generalize Sy.new p.l=s0 at *
    (refine wx_Pm ?_;repeat' (first|with_reducible refine And.intro ?_ ?_|intro hsp))
    all_goals first|exact J7 rfl|(exfalso;omega)|(exfalso;simp at hsp;done)
  ·have hnw:=p_new_no (l:=p.l) (i:=(AE7 p.l).1) (e:=(AE7 p.l).2) rfl hc
   have hnq:=q_new_no (l:=p.l) (i:=(AE7 p.l).1) (e:=(AE7 p.l).2) rfl hc
   unfold pyE at hfar ⊢
   generalize (AE7 p.l).2=e at *
   (refine wx_Pm ?_;repeat' (first|with_reducible refine And.intro ?_ ?_|intro hsp))
   all_goals first|exact J7 rfl|(exfalso;omega)
end Go.Proofs.YtphggldkligldaaGreat.Sh
