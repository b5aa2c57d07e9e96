/-
 Calls with a nil plan;acts.
 The example.
 SwapVictims.
 Save of the program.
 Equal states are the same;SwapKeeps.
 SwapKeeps.
 What a row's reading of an argument is,as abstract values,by the shape of its type. No program in sight.
 The arguments of the rows: calls and plays.
-/
import Derived.Test.YtbhgfoikbkaohaaQaq
import Derived.Carry
import Derived.OpenShut
import Derived.Test.YtbhgfoikbkaohaaRows
import Derived.KernelRfl
set_option linter.unusedSimpArgs false
set_option linter.unusedVariables false
set_option maxHeartbeats 12800000
namespace Go.Am
section
variable {P:Program} {G:Gl}
theorem AO7.weak {f k:Nat} {args args':List AV} {l0:List (Nat × AObj)} {K:AV→Hp→Prop} (hc:AO7 P G f args l0 k K) (hw:∀ (c:Cx) (vs:Array Value),o9 c args' vs→o9 c args vs):AO7 P G f args' l0 k K :=
 ⟨hc.1,fun c vs hR hG hm ha=>hc.2 c vs hR hG hm (hw c vs ha)⟩
theorem AV6.weak {f:Nat} {args args':List AV} {r:AV} (hc:AV6 P G f args r) (hw:∀ (c:Cx) (vs:Array Value),o9 c args' vs→o9 c args vs):AV6 P G f args' r :=
 fun at_ id=>⟨(hc at_ id).1,fun c vs hR hG hU hat ha=>(hc at_ id).2 c vs hR hG hU hat (hw c vs ha)⟩
def WkA (x y:AV):Prop:=∀ (c:Cx) (v:Value),RR c x v→RR c y v
def BI6:List AV→List AV→Prop
 | [],[]=>True
 | x::xs,y::ys=>WkA x y∧BI6 xs ys
 | _,_=>False
theorem BI6.len:∀ {xs ys:List AV},BI6 xs ys→xs.length=ys.length
 | [],[],_=>rfl
 | [],_::_,h=>h.elim
 | _::_,[],h=>h.elim
 | _::_,_::_,h=>by rw [List.length_cons,List.length_cons,BI6.len h.2]
theorem BI6.at:∀ {xs ys:List AV},BI6 xs ys→∀ {j:Nat} {y:AV},ys[j]? = some y→∃ x,xs[j]? = some x∧WkA x y
 | [],[],_,_,_,e=>by simp at e
 | [],_::_,h,_,_,_=>h.elim
 | _::_,[],h,_,_,_=>h.elim
 | x::_,y::_,h,0,z,e=>by cases e;exact ⟨x,rfl,h.1⟩
 | _::_,_::_,h,j+1,z,e=>BI6.at (j:=j) h.2 (by simpa using e)
theorem BI6.args {xs ys:List AV} (h:BI6 xs ys) (c:Cx) (vs:Array Value) (ha:o9 c xs vs):o9 c ys vs :=
 ⟨by rw [ha.1, h.len], fun j y hy => by
  obtain ⟨x,hx,hw⟩:=h.at hy
  obtain ⟨u,hu,hr⟩:=ha.2 j x hx
  exact ⟨u,hu,hw c u hr⟩⟩
theorem wkA_rfl {x:AV}:WkA x x:=fun _ _ h=>h
theorem wkA_nil:WkA .nils (.isl []):=fun c v h=>by
 obtain ⟨A,rfl⟩:=RR_nils.1 h
 exact Z6.2 ⟨A,0,rfl,Nat.le_refl _,Nat.zero_le _,fun hne=>absurd rfl hne⟩
theorem wkA_agg {xs ys:List AV} (h:BI6 xs ys):WkA (.agg xs) (.agg ys):=fun c v hv=>by
 obtain ⟨vs,rfl,hs,hc⟩:=X3.1 hv
 refine X3.2 ⟨vs,rfl,by rw [hs,h.len],fun j y hy=>?_⟩
 obtain ⟨x,hx,hw⟩:=h.at hy
 obtain ⟨u,hu,hr,ho⟩:=hc j x hx
 exact ⟨u,hu,hw c u hr,ho⟩
end
end Go.Am
namespace Go.Pol
open Go.Am
end Go.Pol
namespace Go.Proofs.Ytbhgfoikbkaohaa
open Go Go.Am Go.Pol
theorem wk_pl:WkA (.agg [.nils]) (.agg [.isl (([]:List Rl).map rlA)]):=wkA_agg ⟨wkA_nil,trivial⟩
theorem BU3:Plain (.agg [.nils]):=J2 (T9 d9)
theorem AD8.weak {f:Nat} {avs avs' cs ds:List AV} {r:AV} (hc:AD8 f avs cs r ds) (hw:BI6 avs' avs) (hp:∀ x ∈ avs',Plain x):AD8 f avs' cs r ds :=
 AD8.mk (hc.out.weak (BI6.args (xs:=.ptr 0 0::avs') (ys:=.ptr 0 0::avs) ⟨wkA_rfl,hw⟩)) hc.pc hc.pd hp hc.pr
theorem LocN.weak {f:Nat} {avs avs' ds:List AV} {e:Int} (hc:LocN f avs e ds) (hw:BI6 avs' avs) (hp:∀ x ∈ avs',Plain x):LocN f avs' e ds :=
 LocN.mk (hc.out.weak (BI6.args hw)) hc.pd hp
theorem n_new:LocN 29 [.agg [.nils]] 0 (Sy.new []).a:=(p_new (l:=[]) (i:=(AF6 []).1) rfl).weak ⟨wk_pl,trivial⟩ (T9 BU3)
end Go.Proofs.Ytbhgfoikbkaohaa
namespace Go.Proofs.Ytbhgfoikbkaohaa.Sh
open Go Go.Am Go.Pol
theorem wx_Sxp {p q:Prop} (hq:q) (h:X4 q→p:=by (intro hQz;((repeat' ((try (conv=>whnf));first|refine sxA ?_|refine sxF ?_|refine cx_locN hn ?_|refine cx_WN h0 rfl (by decide) ?_|refine AQ0 y1 rfl rfl rfl rfl rfl (by decide) rfl ?_|refine AQ0 y2 rfl rfl rfl rfl rfl (by decide) rfl ?_|refine AQ0 y3 rfl rfl rfl rfl rfl (by decide) rfl ?_|refine AQ0 y4 rfl rfl rfl rfl rfl (by decide) rfl ?_|refine AQ0 y5 rfl rfl rfl rfl rfl (by decide) rfl ?_|refine AQ0 y6 rfl rfl rfl rfl rfl (by decide) rfl ?_|refine AQ0 y7 rfl rfl rfl rfl rfl (by decide) rfl ?_|refine AQ0 y8 rfl rfl rfl rfl rfl (by decide) rfl ?_|refine AQ0 y9 rfl rfl rfl rfl rfl (by decide) rfl ?_|refine AQ0 y10 rfl rfl rfl rfl rfl (by decide) rfl ?_|refine AQ0 n5 rfl rfl rfl rfl rfl (by decide) rfl ?_|refine sxH ?_|((with_reducible first|apply V4 hQz|apply V5 hQz)<;>(try intro hsp hQz))|exact hQz.out))<;>(try (conv=>whnf))))):p:=h ⟨hq⟩
theorem k_shown:J3 10 [] (.bool true):=by
 have hn:=n_new
 have hc0:(AF6 []).2=0:=by decide
 have h0:LocWN 28 [.int .i64 8,.int .i64 1,.int .i64 4,.int .i64 2] (Sy.new []) ex0 T0:=w_New (Am3 hc0) (a:=8) (n:=1) (pg:=4) (sl:=2) (by decide) ex_0
 have g0:E5 ex0:=(As8 (l:=[]) (a:=8) (n:=1) (pg:=4) (sl:=2) hc0 (by decide) (by decide) ex_0 ex0 rfl).1
 have k0:WOk ex0 T0:=BN5
 obtain ⟨t1,y1,k1⟩:=AZ7 g0 k0 0 1 5
 have g1:E5 ex1:=AC5 g0 0 1 5
 rw [ex_1,show (ex0.write 0 1 5).2=ex1 from rfl] at y1
 rw [show (ex0.write 0 1 5).2=ex1 from rfl] at k1
 obtain ⟨t2,y2,k2⟩:=AZ7 g1 k1 64 2 6
 have g2:E5 ex2:=AC5 g1 64 2 6
 rw [ex_2,show (ex1.write 64 2 6).2=ex2 from rfl] at y2
 rw [show (ex1.write 64 2 6).2=ex2 from rfl] at k2
 obtain ⟨t3,y3,k3⟩:=BD1 g2 k2 0 3
 have g3:E5 ex3:=AM7 g2 0 3
 rw [ex_3.1,ex_3.2,show (ex2.read 0 3).2.2=ex3 from rfl] at y3
 rw [show (ex2.read 0 3).2.2=ex3 from rfl] at k3
 obtain ⟨t4,y4,k4⟩:=BD1 g3 k3 64 4
 have g4:E5 ex4:=AM7 g3 64 4
 rw [ex_4.1,ex_4.2,show (ex3.read 64 4).2.2=ex4 from rfl] at y4
 rw [show (ex3.read 64 4).2.2=ex4 from rfl] at k4
 obtain ⟨t5,y5,k5⟩:=BD1 g4 k4 128 5
 have g5:E5 ex5:=AM7 g4 128 5
 rw [ex_5.1,ex_5.2.1,show (ex4.read 128 5).2.2=ex5 from rfl] at y5
 rw [show (ex4.read 128 5).2.2=ex5 from rfl] at k5
 have n5:=BO8 g5 k5
 unfold Sw.save Aj7 at n5
 rw [ex_5.2.2.1,ex_5.2.2.2] at n5
 obtain ⟨t6,y6,k6⟩:=AZ7 g5 k5 128 6 7
 have g6:E5 ex6:=AC5 g5 128 6 7
 rw [ex_6,show (ex5.write 128 6 7).2=ex6 from rfl] at y6
 rw [show (ex5.write 128 6 7).2=ex6 from rfl] at k6
 obtain ⟨t7,y7,k7⟩:=AZ7 g6 k6 192 7 8
 have g7:E5 ex7:=AC5 g6 192 7 8
 rw [ex_7,show (ex6.write 192 7 8).2=ex7 from rfl] at y7
 rw [show (ex6.write 192 7 8).2=ex7 from rfl] at k7
 obtain ⟨t8,y8,k8⟩:=w_Out g7 k7 2
 have g8:E5 ex8:=At7 g7 2
 rw [ex_8,show (ex7.out 2).2=ex8 from rfl] at y8
 rw [show (ex7.out 2).2=ex8 from rfl] at k8
 obtain ⟨t9,y9,k9⟩:=w_Free g8 k8 0
 have g9:E5 ex9:=BG3 g8 0
 rw [ex_9,show (ex8.fre 0).2=ex9 from rfl] at y9
 rw [show (ex8.fre 0).2=ex9 from rfl] at k9
 obtain ⟨t10,y10,k10⟩:=w_Out g9 k9 2
 rw [ex_10] at y10
 clear g0 g1 g2 g3 g4 g5 g6 g7 g8 g9 k0 k1 k2 k3 k4 k5 k6 k7 k8 k9 k10 hc0
 generalize (ex9.out 2).2=q10 at *
 generalize T0=t0 at *
 generalize Sy.new []=s0 at *
 generalize ex0=q0 at *
 generalize ex1=q1 at *
 generalize ex2=q2 at *
 generalize ex3=q3 at *
 generalize ex4=q4 at *
 generalize ex5=q5 at *
 generalize ex6=q6 at *
 generalize ex7=q7 at *
 generalize ex8=q8 at *
 generalize ex9=q9 at *
 refine J3.mk (Q5 F6 b10 H8 trivial D8 rfl ?_)
 unfold c10
 (refine wx_Sxp ?_;repeat' (first|with_reducible refine And.intro ?_ ?_|intro hsp))
 all_goals first|exact F8 rfl|(exfalso;omega)|(exfalso;simp at hsp;done)|(exfalso;simp_all;done)
end Go.Proofs.Ytbhgfoikbkaohaa.Sh
namespace Go.Pol
open Go.Am Go.Proofs.Ytbhgfoikbkaohaa.Sh
def d4:Int × Int × Int × Int:=(0,0,0,0)
section
variable {q q':Sw}
end
end Go.Pol
namespace Go.Proofs.Ytbhgfoikbkaohaa.Sh
open Go Go.Am Go.Pol
theorem plx_Syc {p:Prop} (h:p:=by ((first|exact plw|(with_reducible first|apply U5|apply H9 _|apply I5 _|apply I4 _|apply AD1|apply O5|apply K8|apply P9|apply AJ6 _|apply l8 _|apply AL9|apply d9|apply G5 R8|apply G5 AE0|apply Ab1 _|apply J2 U3|fail)|fail);first|done|fail)):p:=h
theorem ppx_Syc {p:Prop} (h:p:=by ((first|with_reducible assumption|(with_reducible first|apply F3|apply AL3|apply AJ5|apply AD3|apply AK3|apply AB8 _|apply AB7 _|apply hpp|apply U3|apply R8 _|apply Aa6 _|fail)|exact ppw|fail);first|done|fail)):p:=h
open Go.Proofs.Ytbhgfoikbkaohaa.Sh renaming plx_Syc → plx
open Go.Proofs.Ytbhgfoikbkaohaa.Sh renaming ppx_Syc → ppx
theorem Ab1 (x:Int × Int × Int × Int):Plain (.agg (swA x)):=J2 (R8 x)
theorem Aa6 (q:Sw):∀ x ∈ [AV.int .i64 (q.a:Nat),.int .i64 (q.n:Nat),.int .i64 (q.pg:Nat),.int .i64 (q.sl:Nat),.isl (q.whr.map swA),.isl (q.dsk.map swD),.int .i64 q.ins,.int .i64 q.outs],Plain x:=U3
section
variable {a n pg sl i o:Int} {W:List (Int × Int × Int × Int)} {D:List (Int × (Nat→Int))}
theorem BE6 {x:Int × Int × Int × Int} {b:Bool}:Plain (.tup [.agg (swA x),.bool b]):=F5 (O4 (Ab1 x) D8)
end
section
variable {q:Sw}
end
end Go.Proofs.Ytbhgfoikbkaohaa.Sh
namespace Go.Proofs.Ytbhgfoikbkaohaa
open Go Go.Am Go.Pol
theorem plx_Tj {p:Prop} (h:p:=by ((first|exact plw|(with_reducible first|apply AG5|apply O5|apply K8|apply AA3|apply U4|apply AE7|apply AE6|apply AB0|apply AR4|apply AY1|apply AC2|apply AE5|apply G5 S9|apply G5 AK5|apply G5 AL1|fail)|fail);first|done|fail)):p:=h
theorem ppx_Tj {p:Prop} (h:p:=by ((first|with_reducible assumption|(with_reducible first|apply K3 _|apply Q9 K3|apply Q9 S9|apply S9|apply C8|apply AE9|apply D9 C8|apply AE4 C8|apply AL3|apply F3|fail)|exact ppw|fail);first|done|fail)):p:=h
open Go.Proofs.Ytbhgfoikbkaohaa renaming plx_Tj → plx
open Go.Proofs.Ytbhgfoikbkaohaa renaming ppx_Tj → ppx
theorem wx_Tj {p q:Prop} (hq:q) (h:X4 q→p:=by (intro hQz;((repeat' ((try (conv=>whnf));first|refine sxA ?_|refine sxF ?_|refine sxH ?_|((with_reducible first|apply V4 hQz|apply V5 hQz)<;>(try intro hsp hQz))|exact hQz.out))<;>(try (conv=>whnf))))):p:=h ⟨hq⟩
theorem l_runs:AO7 Try.prog G0 39 [.ptr 0 0] [] 1 fun x h=>x = .fn 60 [] [.ptr 1 0]∧h=⟨[(1,.cells [.ptr 0 0])],2⟩:=by
 refine I6 F6 b39 rfl ?_
 unfold c39
 (refine wx_Tj ?_;repeat' (first|with_reducible refine And.intro ?_ ?_|intro hsp))
 all_goals exact r9 [] rfl (by decide) (M6 rfl) (wk_fn J9 (A9 (X6 rfl (show 1 < 2 by decide)) J9)) (P5 (show 1 < 2 by decide) rfl (A9 (X6 rfl (show 0 < 2 by decide)) J9) I8) ⟨rfl,rfl⟩
theorem dcx_runs {h:Hp} {K:AV→Up→List Nat→Prop} {cs:List AV} (h0:lk h.l 0=some (.cells cs)) (hk:K (.fn 60 [] [.ptr h.next 0]) [(h.next,some (.cells [.ptr 0 0]))] [0]):AF5 Try.prog G0 39 [.ptr 0 0] h K:=by
 have e0:enter [0] 0 0:=rfl
 have k0:oneMore [0] h.next 0 0:=.inl rfl
 have k1:oneMore [0] h.next 1 h.next:=.inr ⟨rfl,rfl⟩
 exact dcx_new (r':=.fn 60 [] [.ptr h.next 0]) (cs':=[.ptr 0 0]) [0] l_runs H8 (fun n hn=>by obtain rfl:=List.mem_singleton.1 hn;exact ⟨_,h0⟩) ⟨P6 e0,trivial⟩ (BK0 trivial ⟨P6 k1,trivial⟩) ⟨P6 k0,trivial⟩ hk
section
variable {K:Nat→Int} {M:Nat→Bool} {B:Nat→Nat→Int} {P:List AV}
theorem BC0 {h:Hp} {Q:AV→Up→List Nat→Prop} {b:Nat} (hP:∀ x ∈ P,Plain x) (hb:Nat.beq b 0=false) (h0:lk h.l 0=some (.cells (sysB K M B P))) (h1:lk h.l b=some (.cells [.ptr 0 0])) (hk:Q (.isl ((K7 K 1024).map rnA)) [] [0,b]):AF5 Try.prog G0 38 [.fn 60 [] [.ptr b 0]] h Q:=by
 have hne:b ≠ 0:=Ae5 hb
 have e0:enter [0,b] 0 0:=rfl
 have e1:enter [0,b] b 1:=rfl
 refine ⟨_,_,_,fnU_ro (p:=enter [0,b]) (g:=fun j=>[0,b].getD j 0) (BW3 (K:=K) (M:=M) (B:=B) hP) H8 ?_ ⟨BK0 trivial ⟨P6 e1,trivial⟩,trivial⟩ (F4 (G5 S9)),hk⟩
 refine ⟨fun i j hij=>?_,fun i j j' h1 h2=>?_,fun j o hj=>?_,fun i hi=>?_⟩
 ·have hij:[0,b][j]? = some i:=hij
  match j,hij with
  | 0,hij=>cases hij;exact ⟨by decide,rfl,List.mem_cons_self ..⟩
  | 1,hij=>cases hij;exact ⟨by decide,rfl,List.mem_cons_of_mem _ (List.mem_cons_self ..)⟩
 ·have h1:[0,b][j]? = some i:=h1
  have h2:[0,b][j']? = some i:=h2
  match j,j',h1,h2 with
  | 0,0,_,_=>rfl
  | 1,1,_,_=>rfl
  | 0,1,h1,h2=>cases h1;cases h2;exact absurd rfl hne
  | 1,0,h1,h2=>cases h1;cases h2;exact absurd rfl hne
 ·simp only [lk] at hj
  split at hj
  ·rename_i e;subst e;cases hj;exact ⟨0,_,_,e0,h0,rfl,D7 (D9 hP),D7 (D9 hP)⟩
  ·split at hj
   ·rename_i e;subst e;cases hj;exact ⟨b,_,_,e1,h1,rfl,⟨P6 e0,trivial⟩,⟨P6 (p:=fun j i=>enter [0,b] i j) (i:=0) (j:=0) e0,trivial⟩⟩
   ·cases hj
 ·rcases List.mem_cons.1 hi with rfl|hi
  ·exact ⟨0,_,e0,rfl⟩
  ·obtain rfl:=List.mem_singleton.1 hi;exact ⟨1,_,e1,rfl⟩
end
theorem wtj {p q:Prop} (hq:q) (h:X4 q→p:=by (intro hQz;((repeat' ((try (conv=>whnf));first|(with_reducible first|refine M5 ?_|refine J4 ?_|refine M9 ?_|refine N8 ?_|refine J8 ?_|refine R4 ?_|refine M0 ?_|refine R3 rfl ?_|refine M4 ?_|refine H6 ?_|refine J6 ?_|refine J7 ?_|refine N7 ?_|refine G9 ?_|refine J5 (by decide +kernel) ?_|refine I9 (by decide +kernel) ?_|refine AF3 ?_|refine AF4 ?_|refine Ap5 ?_|refine Z5 ?_|refine AI6 ?_|refine Ai6 (by assumption) ?_|refine Ai7 (by assumption) ?_|refine Z0 (by omega) ?_|refine AI5 ?_)|((with_reducible refine AI7 ?_ ?_);focus omega)|((with_reducible refine AI8 ?_ ?_);focus omega)|((with_reducible apply V4 hQz)<;>(try intro hsp hQz))|((with_reducible refine Ap4 ?_ ?_);focus (first|omega|rfl|assumption|decide|(simp only [List.length_map,List.length_cons,List.length_nil];omega)|(simp only [List.length_cons];omega)))|(with_reducible first|refine AI0 ?_|refine Y9 ?_|refine Y8 ?_|refine AI2 ?_|refine AI1 ?_|refine AH8 ?_|refine Ap3 ?_|refine G7 ?_|refine Y6 ?_|refine M8 ?_|refine M7 ?_|refine G8 ?_|refine AH9 (by omega) ?_|refine Y7 (by omega) ?_)|refine K6 (by with_reducible assumption) ?_|refine K6 AG1 ?_|refine AF2 (by with_reducible assumption) ?_|refine Y0 (by rw [AG2];omega) rfl ?_|refine V8 (by rw [List.length_drop,AG2];omega) (by with_reducible assumption) ?_|refine V8 (by omega) (y_take (by with_reducible assumption)) ?_|refine Y0 (Nat.zero_le _) y_drop ?_|refine AA4 (by first|(simp only [List.length_replicate];omega)|fail) (over_y (by with_reducible assumption)) ?_|refine AA4 (by first|(simp only [List.length_cons,List.length_nil];omega)|fail) (BV0 (by with_reducible assumption)) ?_|refine An0 (by with_reducible assumption) ?_|refine del_tS ?_|refine del_tO rfl ?_|refine del_n ?_|(with_reducible first|refine x9 ?_|refine Ap6.mk (by kernel_rfl) ?_|refine AC6 rfl ?_|refine AA0 (by decide +kernel) ?_|refine z8 rfl ?_)|refine BC0 C8 rfl rfl rfl ?_|refine dcx_runs rfl ?_|refine K4 (by assumption) ?_|refine Q0 (by assumption) ?_|refine P7 (by assumption) ?_|(refine AA9 F6 b37 rfl ?_;unfold c37)|refine AN0 (f:=inA) (l2:=[((p:Nat):Int)]) BG0 (AH4 rfl (by first|rfl|(simp;done)|(simp [*];done))) (fun hz=>by first|(simp [lk,o8,j4 hz,I7 hz];done)|rfl) (fun hz=>by first|(simp [lk,o8,Al8,lk_tN hz,AK1 hz];done)|rfl) (by first|rfl|(simp [flat,inA];done)|(simp [flat,inA, *];done)) (by decide) ⟨by omega,by omega⟩ rfl ?_|((with_reducible apply BI1 hQz);intro hQa hQb;refine AM9 (f:=inA) (l2:=[((p:Nat):Int)]) BG0 (AH4 rfl (by first|rfl|(simp;done)|(simp [*];done))) (fun hz=>by first|(simp [lk,o8,j4 hz,I7 hz];done)|rfl) (by first|rfl|(simp [flat,inA];done)|(simp [flat,inA, *];done)) (by decide) ⟨by omega,by omega⟩ ?_ ?_<;>intro hzz<;>first|(have hQz:=X4.mk (hQa.out hzz))|(have hQz:=X4.mk (hQb.out hzz)))|refine AN0 (f:=dtA) (l2:=[⟨((p:Nat):Int),s.B p⟩]) Ai2 (AH4 rfl (by first|rfl|(simp;done)|(simp [*];done))) (fun hz=>by first|(simp [lk,o8,j4 hz,I7 hz];done)|rfl) (fun hz=>by first|(simp [lk,o8,Al8,lk_tN hz,AK1 hz];done)|rfl) (by first|rfl|(simp [flat,dtA];done)|(simp [flat,dtA, *];done)) (by decide) ⟨by omega,by omega⟩ rfl ?_|((with_reducible apply BI1 hQz);intro hQa hQb;refine AM9 (f:=dtA) (l2:=[⟨((p:Nat):Int),s.B p⟩]) Ai2 (AH4 rfl (by first|rfl|(simp;done)|(simp [*];done))) (fun hz=>by first|(simp [lk,o8,j4 hz,I7 hz];done)|rfl) (by first|rfl|(simp [flat,dtA];done)|(simp [flat,dtA, *];done)) (by decide) ⟨by omega,by omega⟩ ?_ ?_<;>intro hzz<;>first|(have hQz:=X4.mk (hQa.out hzz))|(have hQz:=X4.mk (hQb.out hzz)))|refine G7 ?_|refine G8 ?_|refine AP9 rfl rfl ?_|refine V9 ?_|refine Q7 rfl ?_|refine AQ2 rfl ?_|refine AP0 rfl ?_|refine AC0 rfl ?_|refine L8 ?_|refine Aw2.mk ?_|((with_reducible apply V5 hQz)<;>(try intro hsp hQz))|exact hQz.out))<;>(try (conv=>whnf))))):p:=h ⟨hq⟩
section
variable {s:Sy}
theorem p_save (hg:GoodS s):AD8 18 [] s.a (.agg (vsA s.save)) s.a:=by
 refine AD8.mk (I6 F6 b18 rfl ?_) F3 F3 (fun x hx=>by cases hx) AR2
 unfold c18
 unfold Sy.a
 obtain ⟨o,ho⟩:∃ o,o=67585:=⟨_,rfl⟩
 rw [← ho]
 have hst:=Aa0 (K:=s.K) (M:=s.M) (B:=s.B) ho (Ay0 (l:=s.l) (C:=s.C) (H:=s.H))
 have hru:=BP6 (K:=s.K) (M:=s.M) (B:=s.B) (l:=s.l) (C:=s.C) (H:=s.H) ho
 have z:=BA4 (l:=s.l) (by have:=(Ad8 hg.hv).2.1;omega)
 (refine wtj ?_;repeat' (first|with_reducible refine And.intro ?_ ?_|intro hsp))
 (refine O9 [0,2] (fun (p:Nat)=>[(3,.ptr 2 0),(28,.int .i64 (p:Nat))]) (fun (p:Nat)=>⟨[(0,.cells (sysB s.K s.M s.B (stA s.l s.C s.H))),(1,.cells [.nils,.nils,.nils,.nils,.int .i64 0,.int .i64 0,.int .i64 0,.int .i64 0,.int .i64 0,.int .i64 0,.int .i64 0,.int .i64 0,.int .i64 0,.int .i64 0,.int .i64 0,.int .i64 0,.int .i64 0,.int .i64 0]),(2,.cells [.isl ((K7 s.K 1024).map rnA),AX3 3 1 (u7 s.G p).length,AX3 4 65 (AH6 s.B p).length,.isl (s.l.map rlA),.int .i64 (s.C 0),.int .i64 (s.C 1),.int .i64 (s.C 2),.int .i64 (s.C 3),.int .i64 (s.C 4),.int .i64 (s.C 5),.int .i64 (s.C 6),.int .i64 (s.H 0),.int .i64 (s.H 1),.int .i64 (s.H 2),.int .i64 (s.H 3),.int .i64 (s.H 4),.int .i64 (s.H 5),.int .i64 (s.H 6)])]++(AI9 3 inA (u7 s.G p)++(AI9 4 dtA (AH6 s.B p)++[])),5⟩) (fun (p:Nat)=>p≤1024) (fun (p:Nat)=>1024 - p) (0) [(2,10)] rfl (fun _=>by first|exact Nat.zero_le _|(dsimp only;omega)) ?_ (by ((try (conv=>whnf));exact Aw8)) ?_)
 ·exact Nat.zero_le _
 rintro p hp
 have hL1:=Am1 (G:=s.G) (n:=p)
 have hL2:=An7 (B:=s.B) (n:=p)
 by_cases hp4:p < 1024
 ·have z1:=BX1 (p:Nat)
  have hh:(sysB s.K s.M s.B (stA s.l s.C s.H))[1+p * 66+1]? = some (.bool (s.M p)):=AX6 hp4
  have hby:=BP7 (K:=s.K) (M:=s.M) (B:=s.B) (P:=stA s.l s.C s.H) hp4
  have hyl:=by_len (s.B p)
  have hyz:=eqL_by (s.B p)
  generalize hy:byA (s.B p)=y at hby hyl hyz
  by_cases hz:BI9 (s.B p)
  ·have e2:AH6 s.B (p+1)=AH6 s.B p:=if_pos hz
   by_cases hu:p % 16=0∧s.G (p / 16)=true
   ·have e1:u7 s.G (p+1)=u7 s.G p++[((p:Nat):Int)]:=if_pos hu
    have hf:fst (p:Nat):=⟨by omega,by omega,by rw [Int.tmod_eq_emod_of_nonneg (by omega)];omega⟩
    rw [decide_eq_true hf] at z1
    rw [show s.M p=true from hu.2] at hh
    (refine wtj ?_;repeat' (first|with_reducible refine And.intro ?_ ?_|intro hsp))
    all_goals exact G6 (p+1) [(3,6)] (by (try dsimp only);omega) (by first|omega|(dsimp only;omega)) rfl (by ((try dsimp only);rw [e1,e2]);exact Aw8)
   ·have e1:u7 s.G (p+1)=u7 s.G p:=if_neg hu
    by_cases hf:fst (p:Nat)
    ·obtain ⟨g,e,_⟩:=BA5 hf
     rw [decide_eq_true hf] at z1
     have hm:s.M p=false:=by
      cases h:s.G (p / 16) with
      | false=>exact h
      | true=>exact absurd ⟨by omega,h⟩ hu
     rw [hm] at hh
     (refine wtj ?_;repeat' (first|with_reducible refine And.intro ?_ ?_|intro hsp))
     all_goals exact G6 (p+1) [] (by (try dsimp only);omega) (by first|omega|(dsimp only;omega)) rfl (by ((try dsimp only);rw [e1,e2]);exact Aw8)
    ·rw [decide_eq_false hf] at z1
     (refine wtj ?_;repeat' (first|with_reducible refine And.intro ?_ ?_|intro hsp))
     all_goals exact G6 (p+1) [] (by (try dsimp only);omega) (by first|omega|(dsimp only;omega)) rfl (by ((try dsimp only);rw [e1,e2]);exact Aw8)
  ·have e2:AH6 s.B (p+1)=AH6 s.B p++[⟨((p:Nat):Int),s.B p⟩]:=if_neg hz
   by_cases hu:p % 16=0∧s.G (p / 16)=true
   ·have e1:u7 s.G (p+1)=u7 s.G p++[((p:Nat):Int)]:=if_pos hu
    have hf:fst (p:Nat):=⟨by omega,by omega,by rw [Int.tmod_eq_emod_of_nonneg (by omega)];omega⟩
    rw [decide_eq_true hf] at z1
    rw [show s.M p=true from hu.2] at hh
    (refine wtj ?_;repeat' (first|with_reducible refine And.intro ?_ ?_|intro hsp))
    all_goals exact G6 (p+1) [(3,6),(4,9)] (by (try dsimp only);omega) (by first|omega|(dsimp only;omega)) rfl (by ((try dsimp only);rw [e1,e2]);exact Aw8)
   ·have e1:u7 s.G (p+1)=u7 s.G p:=if_neg hu
    by_cases hf:fst (p:Nat)
    ·obtain ⟨g,e,_⟩:=BA5 hf
     rw [decide_eq_true hf] at z1
     have hm:s.M p=false:=by
      cases h:s.G (p / 16) with
      | false=>exact h
      | true=>exact absurd ⟨by omega,h⟩ hu
     rw [hm] at hh
     (refine wtj ?_;repeat' (first|with_reducible refine And.intro ?_ ?_|intro hsp))
     all_goals exact G6 (p+1) [(4,7)] (by (try dsimp only);omega) (by first|omega|(dsimp only;omega)) rfl (by ((try dsimp only);rw [e1,e2]);exact Aw8)
    ·rw [decide_eq_false hf] at z1
     (refine wtj ?_;repeat' (first|with_reducible refine And.intro ?_ ?_|intro hsp))
     all_goals exact G6 (p+1) [(4,7)] (by (try dsimp only);omega) (by first|omega|(dsimp only;omega)) rfl (by ((try dsimp only);rw [e1,e2]);exact Aw8)
 ·obtain rfl:p=1024:=by omega
  (refine wtj ?_;repeat' (first|with_reducible refine And.intro ?_ ?_|intro hsp))
  all_goals exact end_save (D9 C8)
end
end Go.Proofs.Ytbhgfoikbkaohaa
namespace Go.Pol
open Go.Am Go.Proofs.Ytbhgfoikbkaohaa.Sh
def d5:Int × (Nat→Int):=(0,fun _=>0)
theorem An2:∀ {r:List AV},(∀ x ∈ r,∃ k n,x = .int k n)→eqL (List.replicate r.length 0) r r=some true
 | [],_=>rfl
 | x::r,h=>by
  obtain ⟨k,n,rfl⟩:=h x (List.mem_cons_self ..)
  have ih:=An2 (r:=r) fun y hy=>h y (List.mem_cons_of_mem _ hy)
  rw [List.length_cons,List.replicate_succ]
  simp only [eqL,eq1,if_true,ih,beq_self_eq_true,Option.bind_some,Option.map_some,Bool.and_self]
theorem eqL_swA (x:Int × Int × Int × Int):eqL [0,0,0,0] (swA x) (swA x)=some true:=An2 (r:=swA x) fun y hy=>by
 simp only [swA,List.mem_cons,List.not_mem_nil,or_false] at hy
 rcases hy with rfl|rfl|rfl|rfl<;>exact ⟨_,_,rfl⟩
theorem eqL_swD (x:Int × (Nat→Int)):eqL (List.replicate 65 0) (swD x) (swD x)=some true:=by
 have:=An2 (r:=swD x) fun y hy=>by
  rcases List.mem_cons.1 hy with rfl|hy
  ·exact ⟨_,_,rfl⟩
  ·unfold bcA memA at hy
   obtain ⟨j,_,rfl⟩:=List.mem_map.1 hy
   exact ⟨_,_,rfl⟩
 rwa [AJ2] at this
end Go.Pol
namespace Go.Proofs.Ytbhgfoikbkaohaa.Sh
open Go Go.Am Go.Pol
theorem plx_Syd {p:Prop} (h:p:=by ((first|exact plw|(with_reducible first|apply U5|apply H9 _|apply I5 _|apply I4 _|apply AD1|apply O5|apply K8|apply P9|apply AJ6 _|apply l8 _|apply AL9|apply d9|apply G5 R8|apply G5 AE0|apply Ab1 _|apply J2 U3|apply AR2|fail)|fail);first|done|fail)):p:=h
theorem ppx_Syd {p:Prop} (h:p:=by ((first|with_reducible assumption|(with_reducible first|apply F3|apply AL3|apply AJ5|apply AD3|apply AK3|apply AB8 _|apply AB7 _|apply hpp|apply U3|apply R8 _|apply Aa6 _|apply AQ5 _|fail)|exact ppw|fail);first|done|fail)):p:=h
open Go.Proofs.Ytbhgfoikbkaohaa.Sh renaming plx_Syd → plx
open Go.Proofs.Ytbhgfoikbkaohaa.Sh renaming ppx_Syd → ppx
theorem wx_Syd {p q:Prop} (hq:q) (h:X4 q→p:=by (intro hQz;((repeat' ((try (conv=>whnf));first|refine sxA ?_|refine AD5 (d:=d4) Aj6 (by first|assumption|omega) (by with_reducible assumption) ?_|refine An0 hq1 ?_|refine An0 hq2 ?_|refine AD5 (d:=d5) AJ2 (by first|assumption|omega) (by with_reducible assumption) ?_|refine Y0 (by rw [AJ2];omega) List.drop_zero (V8 (by rw [AJ2];omega) (List.take_of_length_le (by rw [AJ2];omega)) ?_)|refine V8 (cs:=bcA x.2) (m:=64) (Nat.le_of_eq AC7.symm) BC4 ?_|refine sxF ?_|refine sxH ?_|((with_reducible first|apply V4 hQz|apply V5 hQz)<;>(try intro hsp hQz))|exact hQz.out))<;>(try (conv=>whnf))))):p:=h ⟨hq⟩
section
variable {a n pg sl i o:Int} {W:List (Int × Int × Int × Int)} {D:List (Int × (Nat→Int))}
set_option maxRecDepth 20000 in
theorem k_same25 (hW:W.length≤256) (hD:D.length≤256):J3 19 [.agg (Aj7 a n pg sl W D i o),.agg (Aj7 a n pg sl W D i o)] (.bool true):=by
 refine J3.mk (Q5 F6 b19 H8 ⟨J2 U3,J2 U3,trivial⟩ D8 rfl ?_)
 unfold c19
 unfold Aj7
 (refine wx_Syd ?_;repeat' (first|with_reducible refine And.intro ?_ ?_|intro hsp))
 (refine O9 [2,3] (fun (j:Nat)=>[(5,.int .i64 (j:Nat))]) (fun (j:Nat)=>⟨[(0,.cells [.int .i64 a,.int .i64 n,.int .i64 pg,.int .i64 sl,.isl (W.map swA),.isl (D.map swD),.int .i64 i,.int .i64 o]),(1,.cells [.int .i64 a,.int .i64 n,.int .i64 pg,.int .i64 sl,.isl (W.map swA),.isl (D.map swD),.int .i64 i,.int .i64 o])],2⟩) (fun (j:Nat)=>j≤W.length) (fun (j:Nat)=>W.length - j) (0) [] rfl (fun _=>by first|exact Nat.zero_le _|(dsimp only;omega)) ?_ (by ((try (conv=>whnf));exact p8)) ?_)
 ·exact Nat.zero_le _
 intro j hj
 by_cases hjl:j < W.length
 ·generalize hx:nth d4 W j=x at *
  have hq1:=eqL_swA x
  (refine wx_Syd ?_;repeat' (first|with_reducible refine And.intro ?_ ?_|intro hsp))
  all_goals first|(exfalso;omega)|exact G6 (j+1) [] (by (try dsimp only);omega) (by first|omega|(dsimp only;omega)) rfl (by exact p8)
 ·(refine wx_Syd ?_;repeat' (first|with_reducible refine And.intro ?_ ?_|intro hsp))
  all_goals first|(exfalso;omega)|skip
  (refine O9 [2,3] (fun (j2:Nat)=>[(6,.int .i64 (j2:Nat))]) (fun (j2:Nat)=>⟨[(0,.cells [.int .i64 a,.int .i64 n,.int .i64 pg,.int .i64 sl,.isl (W.map swA),.isl (D.map swD),.int .i64 i,.int .i64 o]),(1,.cells [.int .i64 a,.int .i64 n,.int .i64 pg,.int .i64 sl,.isl (W.map swA),.isl (D.map swD),.int .i64 i,.int .i64 o])],2⟩) (fun (j2:Nat)=>j2≤D.length) (fun (j2:Nat)=>D.length - j2) (0) [] rfl (fun _=>by first|exact Nat.zero_le _|(dsimp only;omega)) ?_ (by ((try (conv=>whnf));exact p8)) ?_)
  ·exact Nat.zero_le _
  intro j2 hj2
  by_cases hjl2:j2 < D.length
  ·generalize hx:nth d5 D j2=x at *
   have hq2:=eqL_swD x
   (refine wx_Syd ?_;repeat' (first|with_reducible refine And.intro ?_ ?_|intro hsp))
   all_goals first|(exfalso;omega)|exact G6 (j2+1) [] (by (try dsimp only);omega) (by first|omega|(dsimp only;omega)) rfl (by exact p8)
  ·(refine wx_Syd ?_;repeat' (first|with_reducible refine And.intro ?_ ?_|intro hsp))
   all_goals first|(exfalso;omega)|exact F8 rfl
end
section
variable {q:Sw} {s:Sy}
theorem k_sameQ (hg:E5 q):J3 19 [.agg q.save,.agg q.save] (.bool true):=k_same25 (by rw [BO3];exact As1 hg) (by rw [dsk_len];exact Aq6 hg)
theorem BR9 (hg:GoodS s):J3 20 [.agg (vsA s.save),.agg (vsA s.save)] (.bool true):=r_same (Nat.le_trans Ak1 (by decide)) (Nat.le_trans Am1 (by decide)) (Nat.le_trans An7 (by decide)) (by have:=(Ad8 hg.hv).2.1;show s.l.length≤_;omega) (b:=true) ⟨fun _=>BS0,fun _=>rfl⟩
end
end Go.Proofs.Ytbhgfoikbkaohaa.Sh
namespace Go.Proofs.Ytbhgfoikbkaohaa.Sh
open Go Go.Am Go.Pol
theorem ppx_Sye {p:Prop} (h:p:=by ((first|with_reducible assumption|(with_reducible first|apply F3|apply AL3|apply AJ5|apply AD3|apply AK3|apply AB8 _|apply AB7 _|apply hpp|apply hpy|apply U3|apply R8 _|apply Aa6 _|apply AQ5 _|fail)|exact ppw|fail);first|done|fail)):p:=h
open Go.Proofs.Ytbhgfoikbkaohaa.Sh renaming plx_Syd → plx
open Go.Proofs.Ytbhgfoikbkaohaa.Sh renaming ppx_Sye → ppx
theorem wx_Sye {p q:Prop} (hq:q) (h:X4 q→p:=by (intro hQz;((repeat' ((try (conv=>whnf));first|refine sxA ?_|refine AD5 (d:=dSA) BE0 (by first|assumption|omega) (by with_reducible assumption) ?_|refine AF2 (by with_reducible assumption) ?_|refine sxF ?_|refine K4 hf ?_|refine K4 hsh ?_|refine K4 hb ?_|refine cx_BE hb ?_|refine cx_WB hb ?_|refine cx_A hA rfl rfl rfl rfl rfl (by decide) rfl ?_|refine AQ0 hS1 rfl rfl rfl rfl rfl (by decide) rfl ?_|refine Q8 v1 rfl (by decide) ?_|refine AQ0 hS2 rfl rfl rfl rfl rfl (by decide) rfl ?_|refine Q8 v2 rfl (by decide) ?_|refine K4 hm1 ?_|refine K4 hm2 ?_|refine sxH ?_|((with_reducible first|apply V4 hQz|apply V5 hQz)<;>(try intro hsp hQz))|exact hQz.out))<;>(try (conv=>whnf))))):p:=h ⟨hq⟩
set_option maxRecDepth 20000 in
theorem k_keeps (p:SPy) (hl:p.X.length≤maxLen) (hwf:∀ x ∈ p.X,0≤x.w) (y:SAc) (hy:0≤y.w):J3 6 [.agg (AX8 p),.agg (Af1 y)] (.bool true):=by
 have hl:p.X.length≤9223372036854775807:=hl
 obtain ⟨b,hf,hfb⟩:=k_far p hl
 have hsh:=k_shown
 have hpp:=AB7 p
 have hpy:=AB8 y
 refine J3.mk (Q5 F6 b6 H8 ⟨l8 p,AJ6 y,trivial⟩ D8 rfl ?_)
 unfold c6
 have hbg:=l_begun p
 rw [show Af1 y=[.int .u8 y.w,.int .i64 y.p,.int .i64 y.t,.int .i64 y.n,.int .u8 y.v,.isl (y.l.map rlA)] from rfl]
 have hpy2:∀ z ∈ [AV.int .u8 y.w,.int .i64 y.p,.int .i64 y.t,.int .i64 y.n,.int .u8 y.v,.isl (y.l.map rlA)],Plain z:=hpy
 replace hpy:=hpy2
 cases b with
 | true =>
  unfold AX8 at *
  (refine wx_Sye ?_;repeat' (first|with_reducible refine And.intro ?_ ?_|intro hsp))
  all_goals first|exact F8 rfl|(exfalso;omega)
 | false =>
 clear hfb
 by_cases h60:60 < y.l.length
 ·unfold AX8 at *
  (refine wx_Sye ?_;repeat' (first|with_reducible refine And.intro ?_ ?_|intro hsp))
  all_goals first|exact F8 rfl|(exfalso;omega)
 rcases hbg with ⟨e,he,-,hb⟩ | ⟨e,ds,he,hb⟩ | ⟨hc,hst,he,hb⟩
 ·unfold AX8 at *
  (refine wx_Sye ?_;repeat' (first|with_reducible refine And.intro ?_ ?_|intro hsp))
  all_goals first|exact F8 rfl|(exfalso;omega)
 ·unfold AX8 at *
  (refine wx_Sye ?_;repeat' (first|with_reducible refine And.intro ?_ ?_|intro hsp))
  all_goals first|exact F8 rfl|(exfalso;omega)
 have h0:E5 p.b:=by
  obtain ⟨n1,n2,n3,n4,n5,n6,n7,n8⟩:=hst
  exact (As8 (l:=p.l) (a:=p.a) (n:=p.n) (pg:=p.pg.toNat) (sl:=p.sl.toNat) hc ⟨n1,n3,by omega⟩ ⟨by omega,by omega,by omega⟩ he p.b rfl).1
 have ho0:WOk p.b T0:=BN5
 clear hc hst he
 generalize p.b=b0 at *
 generalize T0=t0 at *
 unfold AX8 at *
 (refine wx_Sye ?_;repeat' (first|with_reducible refine And.intro ?_ ?_|intro hsp))
 all_goals first|(exfalso;omega)|skip
 (refine O9 [2,3,5,6] (fun (z:Nat × Sw × WS)=>[(8,.int .i64 (z.1:Nat))]) (fun (z:Nat × Sw × WS)=>⟨[(0,.cells [.int .i64 p.a,.int .i64 p.n,.int .i64 p.pg,.int .i64 p.sl,.isl (p.l.map rlA),.isl (p.X.map Af1)]),(1,.cells [.int .u8 y.w,.int .i64 y.p,.int .i64 y.t,.int .i64 y.n,.int .u8 y.v,.isl (y.l.map rlA)])]++stN z.2.1 z.2.2 2 3 4 5 6,7⟩) (fun (z:Nat × Sw × WS)=>z.1≤p.X.length∧E5 z.2.1∧WOk z.2.1 z.2.2) (fun (z:Nat × Sw × WS)=>p.X.length - z.1) ((0,b0,t0)) [] rfl (fun _=>by first|exact Nat.zero_le _|(dsimp only;omega)) ?_ (by ((try (conv=>whnf));exact p8)) ?_)
 ·exact ⟨Nat.zero_le _,h0,ho0⟩
 rintro ⟨i,q,t⟩ ⟨hi,hG,hO⟩
 dsimp only at hi hG hO ⊢
 clear h0 ho0 hb
 by_cases hil:i < p.X.length
 ·have hw0:=hwf _ (Ab7 (d:=dSA) hil)
  generalize hx:nth dSA p.X i=x at *
  obtain ⟨t',hO',hA⟩:=BW4 hG hO x hw0
  have hG':=good_al hG x
  generalize q.al x=r at *
  clear hwf
  unfold stN stC
  (refine wx_Sye ?_;repeat' (first|with_reducible refine And.intro ?_ ?_|intro hsp))
  all_goals first|(exfalso;omega)|exact G6 ((i+1,r.2,t')) [] ⟨hil,hG',hO'⟩ (by first|omega|(dsimp only;omega)) rfl (by exact p8)
 ·obtain ⟨t',hO',hA⟩:=BW4 hG hO y hy
  have hG':=good_al hG y
  have hno:=callW_no hG (y.w.toNat % 14) y.t y.n y.v y.p y.l
  rw [show q.call (y.w.toNat % 14) y.t y.n y.v y.p y.l=q.al y from rfl] at hno
  have hS1:=BO8 hG hO
  have v1:=p_save hG.good
  unfold Sw.save Aj7 at hS1
  unfold vsA Sy.save Go.Pol.stA at v1
  by_cases he:(q.al y).1=0
  ·rw [he] at hA
   generalize (q.al y).2=q' at *
   generalize K7 q.s.K 1024=R1 at *
   generalize u7 q.s.G 1024=U1 at *
   generalize AH6 q.s.B 1024=D1 at *
   clear hno
   unfold stN stC
   (refine wx_Sye ?_;repeat' (first|with_reducible refine And.intro ?_ ?_|intro hsp))
   all_goals first|(exfalso;omega)|exact F8 rfl
  ·obtain ⟨s',e',hK,hM,hB,hGs⟩:=hno he
   have hS2:=BO8 hG' hO'
   rw [e'] at hG' hS2 hA
   have v2:=p_save hG'.good
   have hm1:=k_sameQ hG
   have hm2:=BR9 hG'.good
   unfold Sw.save Aj7 at hS2 hm1
   unfold vsA Sy.save Go.Pol.stA at v2 hm2
   dsimp only at v2 hm2 hS2
   rw [hK,hGs,hB] at v2 hm2
   rw [show ({ q with s:=s' }:Sw).whr=q.whr from rfl,show ({ q with s:=s' }:Sw).dsk=q.dsk from rfl] at hS2
   generalize K7 q.s.K 1024=R1 at *
   generalize u7 q.s.G 1024=U1 at *
   generalize AH6 q.s.B 1024=D1 at *
   generalize (q.al y).1=e at *
   unfold stN stC
   (refine wx_Sye ?_;repeat' (first|with_reducible refine And.intro ?_ ?_|intro hsp))
   all_goals first|(exfalso;omega)|exact F8 rfl
end Go.Proofs.Ytbhgfoikbkaohaa.Sh
namespace Go.Am
open Go.ChangeShapes Go.WideShapes Go.ChangeAt Go.RowKit
inductive Ty where
 | bool|int (k:IntKind)|str|slice (e:Ty)|nil|cons (a b:Ty)|struct (T:Ty)|arr (k:IntKind) (n:Nat)
def Ty.size:Ty→Nat
 | .bool=>1
 | .int _=>1
 | .str=>1
 | .slice _=>1
 | .nil=>0
 | .cons a b=>a.size+b.size
 | .struct T=>T.size
 | .arr _ n=>n
def Af3 (P:Program):Ty→(TypeId→Bool) × (Nat→List Field→Bool)
 | .bool=>(fun t=>match P.underlying t with|some .bool=>true|_=>false,fun _ _=>false)
 | .int k=>(fun t=>match P.underlying t with|some (.int k')=>decide (k=k')|_=>false,fun _ _=>false)
 | .str=>(fun t=>match P.underlying t with|some .string=>true|_=>false,fun _ _=>false)
 | .slice e=>(fun t=>match P.underlying t with|some (.slice e')=>(Af3 P e).1 e' && decide (P.cellsOf e'=e.size) && decide (0 < e.size)|_=>false,fun _ _=>false)
 | .nil=>(fun _=>false,fun _ fs=>match fs with | []=>true|_::_=>false)
 | .cons a b=>(fun _=>false,fun off fs=>match fs with | []=>false|f::r=>decide (f.offset=off) && decide (P.cellsOf f.type=a.size) && (Af3 P a).1 f.type && (Af3 P b).2 (off+a.size) r)
 | .struct T=>(fun t=>match P.underlying t with|some (.struct fs)=>decide (P.cellsOf t=T.size) && (Af3 P T).2 0 fs.toList|_=>false,fun _ _=>false)
 | .arr k n=>(fun t=>match P.underlying t with|some (.array n' e)=>decide (n'=n) && decide (P.cellsOf t=n) && decide (P.cellsOf e=1) && (match P.underlying e with|some (.int k')=>decide (k=k')|_=>false)|_=>false,fun _ _=>false)
def Shp:Ty→List AV→Prop
 | .bool,xs=>∃ b,xs=[.bool b]
 | .int k,xs=>∃ n,xs=[.int k n]∧(Lit.int k n).wf=true
 | .str,xs=>∃ s,xs=[.str s]∧s.size≤maxLen
 | .slice e,xs=>∃ els:List (List AV),xs=[.isl els]∧els.length≤maxLen∧∀ el ∈ els,Shp e el
 | .nil,xs=>xs=[]
 | .cons a b,xs=>∃ ys zs,xs=ys++zs∧Shp a ys∧Shp b zs
 | .struct T,xs=>Shp T xs
 | .arr k n,xs=>∃ l:List Int,xs=l.map (AV.int k)∧l.length=n∧∀ x ∈ l,(Lit.int k x).wf=true
theorem AQ1 {α:Type} {p:Nat→α→Prop}:∀ n:Nat,(∀ i,i < n→∃ x,p i x)→∃ l:List α,l.length=n∧∀ i x,l[i]? = some x→p i x
 | 0,_=>⟨[],rfl,fun i x h=>by simp at h⟩
 | n+1,h=>by
  obtain ⟨l,hl,hp⟩:=AQ1 n fun i hi=>h i (by omega)
  obtain ⟨x,hx⟩:=h n (by omega)
  refine ⟨l++[x],by simp [hl],fun i y hy=>?_⟩
  rcases Nat.lt_trichotomy i n with hi|rfl|hi
  ·rw [List.getElem?_append_left (by omega)] at hy;exact hp i y hy
  ·rw [List.getElem?_append_right (by omega),hl,Nat.sub_self] at hy;cases hy;exact hx
  ·rw [List.getElem?_eq_none (by simp [hl];omega)] at hy;cases hy
theorem BV2 {k:IntKind} {n:Int}:One (.int k n):=⟨fun _ e=>(by cases e),fun _ e=>(by cases e)⟩
theorem one_bool {b:Bool}:One (.bool b):=⟨fun _ e=>(by cases e),fun _ e=>(by cases e)⟩
theorem one_str {b:ByteArray}:One (.string b):=⟨fun _ e=>(by cases e),fun _ e=>(by cases e)⟩
theorem Ab5 {A:Option Addr} {n m:Nat}:One (.slice A n m):=⟨fun _ e=>(by cases e),fun _ e=>(by cases e)⟩
theorem AT9 {c:Cx} {x:AV} {v:Value} {look:Nat→Option Value} (h:RR c x v) (ho:One v) (hl:look 0=some v):RC1 (RR c) [x] look:=fun j y hy=>by
 cases j with
 | zero=>cases hy;exact ⟨v,hl,h,ho⟩
 | succ j=>cases hy
theorem rc1_app {c:Cx} {xs ys:List AV} {look:Nat→Option Value} (h:RC1 (RR c) xs look) (h':RC1 (RR c) ys fun j=>look (xs.length+j)):RC1 (RR c) (xs++ys) look:=fun j y hy=>by
 by_cases hj:j < xs.length
 ·rw [List.getElem?_append_left hj] at hy;exact h j y hy
 ·rw [List.getElem?_append_right (by omega)] at hy
  obtain ⟨u,hu,hr⟩:=h' _ _ hy
  exact ⟨u,by rw [← hu];congr 1;omega,hr⟩
section
variable {P:Program} {H:Type} {enc:TypeId × Value→H} {spare:Nat→Bool} {held:Bool} {W:World}
def Rd1 (P:Program) (enc:TypeId × Value→H) (spare:Nat→Bool) (held:Bool) (W:World) (T:Ty):Prop:=∀ t,(Af3 P T).1 t=true→∀ (fuel:Nat) (cs:List Value) (x:DataW H × List MemPlace),DataW.trod enc P W 0 spare held fuel t cs=some x →
  ∃ xs,Shp T xs∧xs.length=T.size∧cs.length=xs.length∧RC1 (RR (AC8 W)) xs fun j=>cs[j]?
def Rd2 (P:Program) (enc:TypeId × Value→H) (spare:Nat→Bool) (held:Bool) (W:World) (T:Ty):Prop:=∀ (off:Nat) (fs:List Field),(Af3 P T).2 off fs=true→∀ (n:Nat) (cs:List Value),
  (∀ (i:Nat) (f:Field),fs[i]? = some f→∃ x,DataW.trod enc P W 0 spare held n f.type ((cs.drop f.offset).take (P.cellsOf f.type))=some x) →
  ∃ xs,Shp T xs∧xs.length=T.size∧RC1 (RR (AC8 W)) xs fun j=>cs[off+j]?
theorem BK5 {e:Ty} (ih:Rd1 P enc spare held W e):Rd1 P enc spare held W (.slice e):=fun t ht fuel cs x hx=>by
 simp only [Af3] at ht
 split at ht
 case h_2=>cases ht
 case h_1 e' he' =>
 simp only [Bool.and_eq_true,decide_eq_true_eq] at ht
 obtain ⟨⟨h1,h2⟩,h3⟩:=ht
 rcases DataW.trod_slice he' hx with ⟨rfl,-⟩ | ⟨a,len,cap,elems,rest,n,-,rfl,-,-,hlc,hcm,hel,hE,-,-⟩
 ·refine ⟨[.isl []],⟨[],rfl,Nat.zero_le _,fun el h=>(by cases h)⟩,rfl,rfl,AT9 (Z6.2 ⟨none,0,rfl,Nat.le_refl _,Nat.zero_le _,fun h=>absurd rfl h⟩) Ab5 rfl⟩
 ·rw [h2] at hE
  have hget:∀ i,i < len→∃ ds y,W.cells? 0 (a.add (i * e.size)) e.size=some ds∧DataW.trod enc P W 0 spare held n e' ds=some y:=fun i hi=>by
   have hEi:=hE i hi
   obtain ⟨y,hy⟩:∃ y,elems[i]? = some y:=⟨elems[i]'(by omega),List.getElem?_eq_getElem _⟩
   rw [hy] at hEi
   obtain ⟨ds,hds,hd⟩:=Option.bind_eq_some_iff.1 hEi
   exact ⟨ds,y,hds,hd⟩
  rcases Nat.eq_zero_or_pos len with rfl|hpos
  ·exact ⟨[.isl []],⟨[],rfl,Nat.zero_le _,fun el h=>(by cases h)⟩,rfl,rfl,AT9 (Z6.2 ⟨some a,cap,rfl,Nat.zero_le _,hcm,fun h=>absurd rfl h⟩) Ab5 rfl⟩
  obtain ⟨ab,ao,asp⟩:=a
  have hsp:asp=none:=by
   obtain ⟨ds,y,hds,-⟩:=hget 0 hpos
   obtain ⟨-,hlen,hcell⟩:=World.cells?_some hds
   have hc0:=hcell 0 h3
   rw [List.getElem?_eq_getElem (by omega:0 < ds.length),Nat.zero_mul] at hc0
   have h8:=World.cell?_spot hc0
   simpa [Addr.add] using h8
  subst hsp
  have hx':∀ i,i < len→∃ el,Shp e el∧el.length=e.size∧ab < W.heap.size∧RC1 (RR (AC8 W)) el fun j=>W.cell? ⟨ab,ao+i * e.size+j,none⟩:=fun i hi=>by
   obtain ⟨ds,y,hds,hd⟩:=hget i hi
   obtain ⟨-,hlen,hcell⟩:=World.cells?_some hds
   obtain ⟨el,s1,s2,s3,s4⟩:=ih e' h1 n ds y hd
   have hcell':∀ j,j < e.size→W.cell? ⟨ab,ao+i * e.size+j,none⟩=ds[j]?:=fun j hj=>by
    have:=hcell j hj
    rwa [add_plain,add_plain] at this
   have hc0:=hcell' 0 h3
   rw [List.getElem?_eq_getElem (by omega:0 < ds.length)] at hc0
   have hbl:ab < W.heap.size:=by
    refine Classical.byContradiction fun hlt=>?_
    have hn:W.heap[ab]? = none:=by simp;omega
    simp [World.cell?,hn] at hc0
   refine ⟨el,s1,s2,hbl,s4.imp (fun _ _ h=>h) fun j u hu=>?_⟩
   have hj:j < ds.length:=(List.getElem?_eq_some_iff.1 hu).1
   rw [hcell' j (by omega)]
   exact hu
  obtain ⟨els,hl,hp⟩:=AQ1 len hx'
  refine ⟨[.isl els],⟨els,rfl,by omega,fun el h=>?_⟩,rfl,rfl,AT9 (Z6.2 ⟨some ⟨ab,ao,none⟩,cap,by rw [hl],by omega,hcm,fun hne=>?_⟩) Ab5 rfl⟩
  ·obtain ⟨i,hi⟩:=List.mem_iff_getElem?.1 h
   exact (hp i el hi).1
  ·obtain ⟨e0,he0⟩:∃ e0,els[0]? = some e0:=by
    cases els with
    | nil=>exact absurd rfl hne
    | cons y ys=>exact ⟨y,rfl⟩
   exact ⟨ab,ao,e.size,rfl,Av7 (hp 0 e0 he0).2.2.1,fun k el hk=>⟨(hp k el hk).2.1,(hp k el hk).2.2.2⟩⟩
theorem read_all (T:Ty):Rd1 P enc spare held W T∧Rd2 P enc spare held W T:=by
 induction T with
 | bool =>
  refine ⟨fun t ht fuel cs x hx=>?_,fun off fs h=>by cases h⟩
  simp only [Af3] at ht
  split at ht
  case h_2=>cases ht
  case h_1 he =>
  obtain ⟨b,rfl,-⟩:=DataW.trod_bool he hx
  exact ⟨[.bool b],⟨b,rfl⟩,rfl,rfl,AT9 (RR_bool.2 rfl) one_bool rfl⟩
 | int k =>
  refine ⟨fun t ht fuel cs x hx=>?_,fun off fs h=>by cases h⟩
  simp only [Af3] at ht
  split at ht
  case h_2=>cases ht
  case h_1 k' he =>
  obtain rfl:=of_decide_eq_true ht
  obtain ⟨n,rfl,-,hw⟩:=DataW.trod_int he hx
  exact ⟨[.int k n],⟨n,rfl,hw⟩,rfl,rfl,AT9 (RR_int.2 rfl) BV2 rfl⟩
 | str =>
  refine ⟨fun t ht fuel cs x hx=>?_,fun off fs h=>by cases h⟩
  simp only [Af3] at ht
  split at ht
  case h_2=>cases ht
  case h_1 he =>
  obtain ⟨s,rfl,-,hw⟩:=DataW.trod_string he hx
  exact ⟨[.str s],⟨s,rfl,hw⟩,rfl,rfl,AT9 (RR_str.2 rfl) one_str rfl⟩
 | slice e ih=>exact ⟨BK5 ih.1,fun off fs h=>by cases h⟩
 | nil =>
  refine ⟨fun t ht=>(by cases ht),fun off fs h n cs hcs=>?_⟩
  exact ⟨[],rfl,rfl,fun j x hx=>by simp at hx⟩
 | cons a b iha ihb =>
  refine ⟨fun t ht=>(by cases ht),fun off fs h n cs hcs=>?_⟩
  cases fs with
  | nil=>cases h
  | cons f r =>
   simp only [Af3,Bool.and_eq_true,decide_eq_true_eq] at h
   obtain ⟨⟨⟨h1,h2⟩,h3⟩,h4⟩:=h
   obtain ⟨x,hx⟩:=hcs 0 f rfl
   obtain ⟨ys,s1,s2,s3,s4⟩:=iha.1 f.type h3 n _ x hx
   obtain ⟨zs,r1,r2,r3⟩:=ihb.2 _ r h4 n cs fun i g hg=>hcs (i+1) g hg
   refine ⟨ys++zs,⟨ys,zs,rfl,s1,r1⟩,by simp [s2,r2,Ty.size],rc1_app (s4.imp (fun _ _ h=>h) fun j u hu=>?_) (r3.imp (fun _ _ h=>h) fun j u hu=>?_)⟩
   ·rw [List.getElem?_take] at hu
    split at hu
    ·rw [List.getElem?_drop,h1] at hu;exact hu
    ·cases hu
   ·rw [s2,← hu];congr 1;omega
 | struct T ih =>
  refine ⟨fun t ht fuel cs x hx=>?_,fun off fs h=>by cases h⟩
  simp only [Af3] at ht
  split at ht
  case h_2=>cases ht
  case h_1 fs he =>
  simp only [Bool.and_eq_true,decide_eq_true_eq] at ht
  obtain ⟨h1,h2⟩:=ht
  obtain ⟨xs,n,-,-,hl,hxl,hf⟩:=DataW.trod_struct he hx
  obtain ⟨ys,s1,s2,s3⟩:=ih.2 0 fs.toList h2 n cs fun i f hfi=>by
   have hfi':fs[i]? = some f:=by simpa using hfi
   have hi:i < fs.size:=(Array.getElem?_eq_some_iff.1 hfi').1
   exact ⟨xs[i]'(by omega),by rw [hf i f hfi'];exact List.getElem?_eq_getElem _⟩
  exact ⟨ys,s1,s2,by rw [hl,h1,s2],s3.imp (fun _ _ h=>h) fun j u hu=>by simpa using hu⟩
 | arr k n =>
  refine ⟨fun t ht fuel cs x hx=>?_,fun off fs h=>by cases h⟩
  simp only [Af3] at ht
  split at ht
  case h_2=>cases ht
  case h_1 n' e he =>
  simp only [Bool.and_eq_true,decide_eq_true_eq] at ht
  obtain ⟨⟨⟨h1,h2⟩,h3⟩,h4⟩:=ht
  subst h1
  split at h4
  case h_2=>cases h4
  case h_1 k' hk' =>
  obtain rfl:=of_decide_eq_true h4
  obtain ⟨xs,m,-,-,hcl,hn,hel⟩:=DataW.trod_array he hx
  have hget:∀ i,i < n'→∃ z:Int,cs[i]? = some (.int k z)∧(Lit.int k z).wf=true:=fun i hi=>by
   have h0:=hel i hi
   rw [h3,Nat.mul_one] at h0
   obtain ⟨y,hy⟩:∃ y,xs[i]? = some y:=⟨xs[i]'(by omega),List.getElem?_eq_getElem _⟩
   rw [hy] at h0
   obtain ⟨z,e1,-,e3⟩:=DataW.trod_int hk' h0
   refine ⟨z,?_,e3⟩
   have h5:((cs.drop i).take 1)[0]? = some (.int k z):=by rw [e1];rfl
   rwa [List.getElem?_take,if_pos (by omega),List.getElem?_drop,Nat.add_zero] at h5
  obtain ⟨l,hl,hp⟩:=AQ1 n' hget
  refine ⟨l.map (AV.int k),⟨l,rfl,hl,fun x hx=>?_⟩,by simp [hl,Ty.size],by rw [hcl,h2];simp [hl],fun j y hy=>?_⟩
  ·obtain ⟨i,hi⟩:=List.mem_iff_getElem?.1 hx
   exact (hp i x hi).2
  ·rw [List.getElem?_map] at hy
   obtain ⟨z,hz,rfl⟩:=Option.map_eq_some_iff.1 hy
   exact ⟨_,(hp j z hz).1,RR_int.2 rfl,BV2⟩
def argV:Ty→List AV→AV
 | .struct _,xs=>.agg xs
 | .arr _ _,xs=>.agg xs
 | _,x::_=>x
 | _,[]=>.undef
theorem Ao6 {T:Ty} {xs:List AV} {v:Value} (hx:xs.length=1) (hv:v.cells.toList=[v]) (h:RC1 (RR (AC8 W)) xs fun j=>v.cells.toList[j]?):∃ x,xs=[x]∧RR (AC8 W) x v:=by
 match xs,hx with
 | [x],_ =>
  obtain ⟨u,hu,hr,-⟩:=h 0 x rfl
  rw [hv] at hu
  cases hu
  exact ⟨x,rfl,hr⟩
theorem arg_rr {T:Ty} {t:TypeId} {v:Value} {r:Reach} {base:Nat} {d:DataW H} {p:List MemPlace} (hT:(Af3 P T).1 t=true) (hval:Value.okWide P W r base t v) (hd:DataW.Trod enc P W 0 spare held t v d p):∃ xs,Shp T xs∧RR (AC8 W) (argV T xs) v:=by
 obtain ⟨fuel,hf⟩:=hd
 obtain ⟨xs,s1,s2,s3,s4⟩:=(read_all T).1 t hT fuel _ _ hf
 refine ⟨xs,s1,?_⟩
 cases T with
 | nil=>cases hT
 | cons a b=>cases hT
 | bool =>
  simp only [Af3] at hT
  split at hT
  case h_2=>cases hT
  case h_1 he =>
  obtain ⟨b,rfl⟩:=okWide_bool he hval
  obtain ⟨x,rfl,hr⟩:=Ao6 (T:=.bool) s2 rfl s4
  exact hr
 | int k =>
  simp only [Af3] at hT
  split at hT
  case h_2=>cases hT
  case h_1 k' he =>
  obtain ⟨b,rfl⟩:=okWide_int he hval
  obtain ⟨x,rfl,hr⟩:=Ao6 (T:=.bool) s2 rfl s4
  exact hr
 | str =>
  simp only [Af3] at hT
  split at hT
  case h_2=>cases hT
  case h_1 he =>
  obtain ⟨b,rfl⟩:=okWide_string he hval
  obtain ⟨x,rfl,hr⟩:=Ao6 (T:=.bool) s2 rfl s4
  exact hr
 | slice e =>
  simp only [Af3] at hT
  split at hT
  case h_2=>cases hT
  case h_1 k' he =>
  obtain ⟨a,l,c,rfl⟩:=okWide_slice he hval
  obtain ⟨x,rfl,hr⟩:=Ao6 (T:=.bool) s2 rfl s4
  exact hr
 | struct T =>
  simp only [Af3] at hT
  split at hT
  case h_2=>cases hT
  case h_1 fs he =>
  obtain ⟨cs,rfl,hcs⟩:=okWide_struct he hval
  exact X3.2 ⟨cs,rfl,by simpa [Value.cells] using s3,s4.imp (fun _ _ h=>h) fun j u hu=>by simpa [Value.cells] using hu⟩
 | arr k n =>
  simp only [Af3] at hT
  split at hT
  case h_2=>cases hT
  case h_1 n' e he =>
  have hcs:∃ cs,v = .agg cs∧cs.size=P.cellsOf t:=by
   simp only [Value.okWide,he] at hval
   obtain ⟨cs,h1,h2,_⟩:=hval
   exact ⟨cs,h1,h2⟩
  obtain ⟨cs,rfl,hcs⟩:=hcs
  exact X3.2 ⟨cs,rfl,by simpa [Value.cells] using s3,s4.imp (fun _ _ h=>h) fun j u hu=>by simpa [Value.cells] using hu⟩
def BI7:List Ty→List (List AV)→Prop
 | [],[]=>True
 | T::Ts,xs::r=>Shp T xs∧BI7 Ts r
 | _,_=>False
def tysOk (P:Program):List Ty→List TypeId→Bool
 | [],[]=>true
 | T::Ts,t::ts=>(Af3 P T).1 t && tysOk P Ts ts
 | _,_=>false
def argVs:List Ty→List (List AV)→List AV
 | T::Ts,xs::r=>argV T xs::argVs Ts r
 | _, _ => []
theorem args_rr {r:Reach} {base:Nat}:∀ {Ts:List Ty} {ts:List TypeId} {vs:List Value} {ds:List (DataW H)} {ps:List MemPlace},tysOk P Ts ts=true→(∀ (j:Nat) t v,ts[j]? = some t→vs[j]? = some v→Value.okWide P W r base t v) →
  DataW.TrodAll enc P W 0 spare held ts vs ds ps→∃ xss,BI7 Ts xss∧vs.length=(argVs Ts xss).length∧RCs (RR (AC8 W)) (argVs Ts xss) fun j=>vs[j]?
 | [],[],vs,ds,ps,_,_,hd=>by
  obtain ⟨rfl,rfl,rfl⟩:=trodAll_nil hd
  exact ⟨[],trivial,rfl,fun j x hx=>by cases hx⟩
 | T::Ts,t::ts,vs,ds,ps,hT,hv,hd=>by
  obtain ⟨v,vs',d,ds',p,q,rfl,rfl,rfl,h1,h2⟩:=trodAll_cons hd
  simp only [tysOk,Bool.and_eq_true] at hT
  obtain ⟨xs,s1,s2⟩:=arg_rr hT.1 (hv 0 t v rfl rfl) h1
  obtain ⟨xss,r1,r2,r3⟩:=args_rr hT.2 (fun j t v h h'=>hv (j+1) t v h h') h2
  refine ⟨xs::xss,⟨s1,r1⟩,by simp [argVs,r2],fun j x hx=>?_⟩
  cases j with
  | zero=>cases hx;exact ⟨v,rfl,s2⟩
  | succ j=>exact r3 j x hx
theorem Av8 (hl:laidOutB P=true) {W':World} (hb:Below W.heap.size W W') {sp:Nat→Bool}:∀ {ts:List TypeId} {vs:List Value} {ds:List (DataW H)} {ps:List MemPlace},(∀ t ∈ ts,P.readableRec t=true∧t < P.types.size) →
  DataW.TrodAll enc P W 0 (fun _=>true) true ts vs ds ps→(∀ x ∈ ps,x.block < W.heap.size)→(∀ x ∈ ps,sp x.block=true)→DataW.TrodAll enc P W' 0 sp true ts vs ds ps
 | [],vs,ds,ps,_,hd,_,_=>by
  obtain ⟨rfl,rfl,rfl⟩:=trodAll_nil hd
  rfl
 | t::ts,vs,ds,ps,ht,hd,hlt,hsp=>by
  obtain ⟨v,vs',d,ds',p,q,rfl,rfl,rfl,h1,h2⟩:=trodAll_cons hd
  have ht0:=ht t (by simp)
  exact ⟨p,q,WideElems.Trod_stays hl ht0.1 ht0.2 h1 (fun x hx=>hb.same (hlt x (by simp [hx]))) (fun x hx=>hsp x (by simp [hx])),Av8 hl hb (fun t' h'=>ht t' (by simp [h'])) h2 (fun x hx=>hlt x (by simp [hx])) (fun x hx=>hsp x (by simp [hx])),rfl⟩
end
end Go.Am
namespace Go.Proofs.Ytbhgfoikbkaohaa
open Go Go.Am Go.Pol
open Go.ChangeShapes Go.WideShapes Go.ChangeAt Go.WideElems Go.RowKit
theorem own:ownKnob Try.prog.godebug=none:=by kernel_rfl
theorem glo (c:Cx):AN4 G0 c:=fun n cs h=>by cases h
theorem BV9 {α:Type} {f:α→List AV} {q:α→Prop}:∀ {els:List (List AV)},(∀ el ∈ els,∃ c,el=f c∧q c)→∃ l:List α,els=l.map f∧∀ c ∈ l,q c
 | [],_=>⟨[],rfl,fun c hc=>by cases hc⟩
 | el::els,h=>by
  obtain ⟨c,rfl,hq⟩:=h el (List.mem_cons_self ..)
  obtain ⟨l,rfl,hl⟩:=BV9 fun e he=>h e (List.mem_cons_of_mem _ he)
  exact ⟨c::l,rfl,fun d hd=>(List.mem_cons.1 hd).elim (fun e=>e▸hq) (hl d)⟩
theorem wf_u8 {n:Int} (h:(Lit.int .u8 n).wf=true):∃ m:Nat,n=(m:Int)∧m < 256:=by
 simp [Lit.wf,IntKind.min,IntKind.max,IntKind.signed,IntKind.bits] at h
 exact ⟨n.toNat,by omega,by omega⟩
theorem wf_i64 {n:Int} (h:(Lit.int .i64 n).wf=true):-9223372036854775808≤n∧n≤9223372036854775807:=by
 simp [Lit.wf,IntKind.min,IntKind.max,IntKind.signed,IntKind.bits] at h
 omega
def i64 (n:Int):Prop:=-9223372036854775808≤n∧n≤9223372036854775807
theorem shp_two {T U:Ty}:∀ {xss:List (List AV)},BI7 [T,U] xss→∃ xs ys,xss=[xs,ys]∧Shp T xs∧Shp U ys
 | [xs,ys],h=>⟨xs,ys,rfl,h.1,h.2.1⟩
 | [],h=>h.elim
 | [_],h=>h.2.elim
 | _::_::_::_,h=>h.2.2.elim
def rlT:Ty:=.struct (.cons (.int .i64) (.cons (.int .i64) (.cons (.int .i64) (.cons (.int .i64) .nil))))
def planT:Ty:=.struct (.cons (.slice rlT) .nil)
def actT:Ty:=.struct (.cons (.int .u8) (.cons (.int .i64) (.cons (.int .i64) (.cons (.int .i64) (.cons (.int .u8) (.cons planT .nil))))))
def BU0:Ty:=.struct (.cons (.int .i64) (.cons (.int .i64) (.cons (.int .i64) (.cons (.int .i64) (.cons planT (.cons (.slice actT) .nil))))))
def okA (x:SAc):Prop:=0≤x.w∧0≤x.v∧x.v < 256
theorem shp_rl {xs:List AV} (h:Shp rlT xs):∃ x:Rl,xs=rlA x:=by
 obtain ⟨y1,z1,rfl,⟨a,rfl,-⟩,y2,z2,rfl,⟨b,rfl,-⟩,y3,z3,rfl,⟨c,rfl,-⟩,y4,z4,rfl,⟨d,rfl,-⟩,rfl⟩:=h
 exact ⟨⟨a,b,c,d⟩,rfl⟩
theorem BD8 {xs:List AV} (h:Shp planT xs):∃ l:List Rl,xs=[AV.isl (l.map rlA)]:=by
 obtain ⟨y1,z1,rfl,⟨els,rfl,hl,he⟩,rfl⟩:=h
 obtain ⟨l,rfl,-⟩:=BV9 (f:=rlA) (q:=fun _=>True) fun el hel=>(shp_rl (he el hel)).imp fun _ h=>⟨h,trivial⟩
 exact ⟨l,rfl⟩
theorem BR3 {xs:List AV} (h:Shp actT xs):∃ x:SAc,xs=Af1 x∧okA x:=by
 obtain ⟨y1,z1,rfl,⟨w,rfl,hw⟩,y2,z2,rfl,⟨p,rfl,-⟩,y3,z3,rfl,⟨n,rfl,-⟩,y4,z4,rfl,⟨t,rfl,-⟩,y5,z5,rfl,⟨b,rfl,hb⟩,y6,z6,rfl,h6,rfl⟩:=h
 obtain ⟨m,rfl,hm⟩:=wf_u8 hw
 obtain ⟨v,rfl,hv⟩:=wf_u8 hb
 obtain ⟨l,rfl⟩:=BD8 h6
 exact ⟨⟨(m:Nat),p,n,t,(v:Nat),l⟩,rfl,Int.natCast_nonneg m,Int.natCast_nonneg v,by show ((v:Nat):Int) < 256;omega⟩
theorem shp_play {xs:List AV} (h:Shp BU0 xs):∃ p:SPy,xs=AX8 p∧p.X.length≤maxLen∧(∀ x ∈ p.X,okA x)∧i64 p.n:=by
 obtain ⟨y1,z1,rfl,⟨a,rfl,-⟩,y2,z2,rfl,⟨n,rfl,hn⟩,y3,z3,rfl,⟨pg,rfl,-⟩,y4,z4,rfl,⟨sl,rfl,-⟩,y5,z5,rfl,h5,y6,z6,rfl,⟨els,rfl,hl,he⟩,rfl⟩:=h
 obtain ⟨l,rfl⟩:=BD8 h5
 obtain ⟨X,rfl,hq⟩:=BV9 (f:=Af1) (q:=okA) fun el hel=>BR3 (he el hel)
 exact ⟨⟨a,n,pg,sl,l,X⟩,rfl,by rw [List.length_map] at hl;exact hl,hq,wf_i64 hn⟩
end Go.Proofs.Ytbhgfoikbkaohaa
