/-
 far,alone.
 A store stays one;the example.
 Calls with a nil plan;acts.
 The example.
 SwapVictims.
 Save of the program.
 Equal states are the same;SwapKeeps.
 The document's store: contracts of its calls.
 The document's store: looks.
 The document's store: its inner calls.
-/
import Derived.Test.YtbhgfoikbkaohaaGreatQaq
set_option linter.unusedSimpArgs false
set_option linter.unusedVariables false
set_option maxHeartbeats 3200000
namespace Go.Pol
open Go.Am Go.Proofs.YtbhgfoikbkaohaaGreat.Sh
def Sw.al (q:Sw) (x:SAc):Int × Sw:=q.call (x.w.toNat % 14) x.t x.n x.v x.p x.l
def SPy.ok (p:SPy):Prop:=p.X.length≤50∧p.l.length≤60∧(p.n≤60∨1024 < p.n)
instance (p:SPy):Decidable p.ok:=by unfold SPy.ok;infer_instance
end Go.Pol
namespace Go.Proofs.YtbhgfoikbkaohaaGreat.Sh
open Go Go.Am Go.Pol
theorem plx_Sxn {p:Prop} (h:p:=by ((first|exact plw|(with_reducible first|apply R3|apply J7 _|apply J8 _|apply J5 _|apply w9|apply Q5|apply J6|apply X0|apply AM1 _|apply AI1 _|apply AM0|fail)|fail);first|done|fail)):p:=h
theorem ppx_Sxn {p:Prop} (h:p:=by ((first|with_reducible assumption|(with_reducible first|apply G8|apply F6|apply AH8|apply AE7|apply AR3|apply AL6 _|apply AH7 _|fail)|exact ppw|fail);first|done|fail)):p:=h
open Go.Proofs.YtbhgfoikbkaohaaGreat.Sh renaming plx_Sxn → plx
open Go.Proofs.YtbhgfoikbkaohaaGreat.Sh renaming ppx_Sxn → ppx
theorem wx_Sxn {p q:Prop} (hq:q) (h:Y2 q→p:=by (intro hQz;((repeat' ((try (conv=>whnf));first|refine sxA ?_|refine sxF ?_|refine AF8 (d:=dSA) BP2 (by first|assumption|omega) (by with_reducible assumption) ?_|refine sxH ?_|((with_reducible first|apply U3 hQz|apply U4 hQz)<;>(try intro hsp hQz))|exact hQz.out))<;>(try (conv=>whnf))))):p:=h ⟨hq⟩
theorem k_far_yes {p:SPy} (hl:p.X.length≤maxLen) (h:∃ x ∈ p.X,60 < x.l.length):I6 5 [.agg (BG3 p)] (.bool true):=by
 have hl:p.X.length≤9223372036854775807:=hl
 refine I6.mk (N7 F9 b5 H8 ⟨AI1 p,trivial⟩ C9 rfl ?_)
 unfold c5
 have hp:=AH7 p
 unfold BG3 at hp ⊢
 (refine wx_Sxn ?_;repeat' (first|with_reducible refine And.intro ?_ ?_|intro hsp))
 (refine H7 [1] (fun (i:Nat)=>[(3,.int .i64 (i:Nat))]) (fun (i:Nat)=>⟨[(0,.cells [.int .i64 p.a,.int .i64 p.n,.int .i64 p.pg,.int .i64 p.sl,.isl (p.l.map rlA),.isl (p.X.map Aj3)])],1⟩) (fun (i:Nat)=>∃ j,i≤j∧j < p.X.length∧60 < (nth dSA p.X j).l.length) (fun (i:Nat)=>p.X.length - i) (0) [] rfl (fun _=>by first|exact Nat.zero_le _|(dsimp only;omega)) ?_ (by ((try (conv=>whnf));exact AD4)) ?_)
 ·obtain ⟨x,hx,h6⟩:=h
  obtain ⟨j,hj,rfl⟩:=List.getElem_of_mem hx
  exact ⟨j,Nat.zero_le _,hj,by rw [P9 hj];exact h6⟩
 intro i hi
 obtain ⟨j,h1,h2,h3⟩:=hi
 have hil:i < p.X.length:=by omega
 have hne:¬ 60 < (nth dSA p.X i).l.length→∃ j,i+1≤j∧j < p.X.length∧60 < (nth dSA p.X j).l.length:=fun hn=>⟨j,by
  by_cases e:i=j
  ·exact absurd (e▸h3) hn
  ·omega,h2,h3⟩
 clear h1 h2 h3
 by_cases hn:60 < (nth dSA p.X i).l.length
 ·clear hne
  generalize hx:nth dSA p.X i=x at *
  (refine wx_Sxn ?_;repeat' (first|with_reducible refine And.intro ?_ ?_|intro hsp))
  all_goals first|exact J4 rfl|(exfalso;omega)
 ·have hne2:=hne hn
  clear hne
  generalize hx:nth dSA p.X i=x at *
  (refine wx_Sxn ?_;repeat' (first|with_reducible refine And.intro ?_ ?_|intro hsp))
  all_goals first|(exfalso;omega)|exact D7 (i+1) [] hne2 (by first|omega|(dsimp only;omega)) rfl (by exact AD4)
theorem k_far_no {p:SPy} (hl:p.X.length≤maxLen) (h:¬ ∃ x ∈ p.X,60 < x.l.length):I6 5 [.agg (BG3 p)] (.bool (decide (¬ p.ok))):=by
 have hl:p.X.length≤9223372036854775807:=hl
 refine I6.mk (N7 F9 b5 H8 ⟨AI1 p,trivial⟩ C9 rfl ?_)
 unfold c5
 unfold BG3
 (refine wx_Sxn ?_;repeat' (first|with_reducible refine And.intro ?_ ?_|intro hsp))
 (refine H7 [1] (fun (i:Nat)=>[(3,.int .i64 (i:Nat))]) (fun (i:Nat)=>⟨[(0,.cells [.int .i64 p.a,.int .i64 p.n,.int .i64 p.pg,.int .i64 p.sl,.isl (p.l.map rlA),.isl (p.X.map Aj3)])],1⟩) (fun (i:Nat)=>i≤p.X.length) (fun (i:Nat)=>p.X.length - i) (0) [] rfl (fun _=>by first|exact Nat.zero_le _|(dsimp only;omega)) ?_ (by ((try (conv=>whnf));exact AD4)) ?_)
 ·exact Nat.zero_le _
 intro i hi
 by_cases hil:i < p.X.length
 ·have hn:¬ 60 < (nth dSA p.X i).l.length:=fun h2=>h ⟨_,AN5 (d:=dSA) hil,h2⟩
  generalize hx:nth dSA p.X i=x at *
  (refine wx_Sxn ?_;repeat' (first|with_reducible refine And.intro ?_ ?_|intro hsp))
  all_goals first|(exfalso;omega)|exact D7 (i+1) [] (by (try dsimp only);omega) (by first|omega|(dsimp only;omega)) rfl (by exact AD4)
 ·clear h
  (refine wx_Sxn ?_;repeat' (first|with_reducible refine And.intro ?_ ?_|intro hsp))
  all_goals exact J4 (by first|exact (decide_eq_true (show ¬ p.ok from fun ⟨h1,h2,h3⟩=>by omega)).symm|exact (decide_eq_false (show ¬ ¬ p.ok from fun hn=>hn ⟨by omega,by omega,by omega⟩)).symm|exact decide_eq_decide.2 ⟨fun h4 ⟨h1,h2,h3⟩=>(by omega),fun hn=>Classical.byContradiction fun h4=>hn ⟨by omega,by omega,by omega⟩⟩)
theorem k_far (p:SPy) (hl:p.X.length≤maxLen):∃ b,I6 5 [.agg (BG3 p)] (.bool b)∧(b=false→p.ok∧∀ x ∈ p.X,x.l.length≤60):=by
 by_cases h:∃ x ∈ p.X,60 < x.l.length
 ·exact ⟨true,k_far_yes hl h,fun e=>by cases e⟩
 ·refine ⟨_,k_far_no hl h,fun e=>⟨?_,fun x hx=>Classical.byContradiction fun hn=>h ⟨x,hx,by omega⟩⟩⟩
  have:=of_decide_eq_false e
  exact Classical.not_not.1 this
section
variable {q:Sw} {t:WS}
end
end Go.Proofs.YtbhgfoikbkaohaaGreat.Sh
namespace Go.Pol
open Go.Am Go.Proofs.YtbhgfoikbkaohaaGreat.Sh
section
variable {w:Sw}
theorem AI6 (h:F3 w) (t now v:Int):F3 (w.write t now v).2:=by
 by_cases he:(w.write t now v).1=0
 ·exact (write_yes h he).2.1
 ·unfold Sw.write at he ⊢
  by_cases hn:w.nums t now
  ·rw [if_neg (Classical.not_not.2 hn)] at he ⊢
   have hn2:=hn
   obtain ⟨n1,n2,n3,n4⟩:=hn2
   by_cases ht:(w.touch (t.toNat / 64) now).1=0
   ·rw [if_pos ht] at he
    have hg:=AA9 h (p:=t.toNat / 64) (now:=now) (by omega) ⟨n3,n4⟩
    rcases AS5 h (p:=t.toNat / 64) now with hy|hno
    ·exact absurd (BU8 hg n1 hy.fr).1 he
    ·exact absurd ht hno.e
   ·rw [if_neg ht]
    exact AA9 h (by omega) ⟨n3,n4⟩
  ·rw [if_pos hn];exact h
theorem AT3 (h:F3 w) (t now:Int):F3 (w.read t now).2.2:=by
 unfold Sw.read
 by_cases hn:w.nums t now
 ·rw [if_neg (Classical.not_not.2 hn)]
  obtain ⟨n1,n2,n3,n4⟩:=hn
  have hg:=AA9 h (p:=t.toNat / 64) (now:=now) (by omega) ⟨n3,n4⟩
  split
  ·exact h
  ·split
   ·exact hg
   ·exact hg
 ·rw [if_pos hn];exact h
theorem BD8 (h:F3 w) (p:Int):F3 (w.out p).2:=by
 by_cases he:(w.out p).1=0
 ·exact (out_yes h he).1
 ·rw [out_no p he];exact h
theorem good_al (h:F3 w) (x:SAc):F3 (w.al x).2:=by
 unfold Sw.al Sw.call
 split
 ·exact AI6 h _ _ _
 ·split
  ·exact AT3 h _ _
  ·split
   ·exact BD8 h _
   ·split
    ·exact BT0 h _
    ·split
     ·exact planW h _
     ·exact h
end
def ex0:Sw:=Sw.nw ((Sy.new []).chg 8 1 0 1 0).2 8 1 4 2
def ex1:Sw:=(ex0.write 0 1 5).2
def ex2:Sw:=(ex1.write 64 2 6).2
def ex3:Sw:=(ex2.read 0 3).2.2
def ex4:Sw:=(ex3.read 64 4).2.2
def ex5:Sw:=(ex4.read 128 5).2.2
def ex6:Sw:=(ex5.write 128 6 7).2
def ex7:Sw:=(ex6.write 192 7 8).2
def ex8:Sw:=(ex7.out 2).2
def ex9:Sw:=(ex8.fre 0).2
set_option maxRecDepth 100000 in
theorem ex_0:((Sy.new []).chg 8 1 0 1 0).1=0:=by decide +kernel
set_option maxRecDepth 100000 in
theorem ex_1:(ex0.write 0 1 5).1=0:=by decide +kernel
set_option maxRecDepth 100000 in
theorem ex_2:(ex1.write 64 2 6).1=0:=by decide +kernel
set_option maxRecDepth 100000 in
theorem ex_3:(ex2.read 0 3).1=5∧(ex2.read 0 3).2.1=0:=by decide +kernel
set_option maxRecDepth 100000 in
theorem ex_4:(ex3.read 64 4).1=6∧(ex3.read 64 4).2.1=0:=by decide +kernel
set_option maxRecDepth 100000 in
theorem ex_5:(ex4.read 128 5).1=0∧(ex4.read 128 5).2.1=0∧ex5.ins=2∧ex5.outs=3:=by decide +kernel
set_option maxRecDepth 100000 in
theorem ex_6:(ex5.write 128 6 7).1=0:=by decide +kernel
set_option maxRecDepth 100000 in
theorem ex_7:(ex6.write 192 7 8).1=5:=by decide +kernel
set_option maxRecDepth 100000 in
theorem ex_8:(ex7.out 2).1=5:=by decide +kernel
set_option maxRecDepth 100000 in
theorem ex_9:(ex8.fre 0).1=0:=by decide +kernel
set_option maxRecDepth 100000 in
theorem ex_10:(ex9.out 2).1=0:=by decide +kernel
end Go.Pol
namespace Go.Am
section
variable {P:Program} {G:Gl}
theorem AU0.weak {f k:Nat} {args args':List AV} {l0:List (Nat × AObj)} {K:AV→Hp→Prop} (hc:AU0 P G f args l0 k K) (hw:∀ (c:Cx) (vs:Array Value),AF4 c args' vs→AF4 c args vs):AU0 P G f args' l0 k K :=
 ⟨hc.1,fun c vs hR hG hm ha=>hc.2 c vs hR hG hm (hw c vs ha)⟩
theorem Ae2.weak {f:Nat} {args args':List AV} {r:AV} (hc:Ae2 P G f args r) (hw:∀ (c:Cx) (vs:Array Value),AF4 c args' vs→AF4 c args vs):Ae2 P G f args' r :=
 fun at_ id=>⟨(hc at_ id).1,fun c vs hR hG hU hat ha=>(hc at_ id).2 c vs hR hG hU hat (hw c vs ha)⟩
def WkA (x y:AV):Prop:=∀ (c:Cx) (v:Value),RR c x v→RR c y v
def BV4:List AV→List AV→Prop
 | [],[]=>True
 | x::xs,y::ys=>WkA x y∧BV4 xs ys
 | _,_=>False
theorem BV4.len:∀ {xs ys:List AV},BV4 xs ys→xs.length=ys.length
 | [],[],_=>rfl
 | [],_::_,h=>h.elim
 | _::_,[],h=>h.elim
 | _::_,_::_,h=>by rw [List.length_cons,List.length_cons,BV4.len h.2]
theorem BV4.at:∀ {xs ys:List AV},BV4 xs ys→∀ {j:Nat} {y:AV},ys[j]? = some y→∃ x,xs[j]? = some x∧WkA x y
 | [],[],_,_,_,e=>by simp at e
 | [],_::_,h,_,_,_=>h.elim
 | _::_,[],h,_,_,_=>h.elim
 | x::_,y::_,h,0,z,e=>by cases e;exact ⟨x,rfl,h.1⟩
 | _::_,_::_,h,j+1,z,e=>BV4.at (j:=j) h.2 (by simpa using e)
theorem BV4.args {xs ys:List AV} (h:BV4 xs ys) (c:Cx) (vs:Array Value) (ha:AF4 c xs vs):AF4 c ys vs :=
 ⟨by rw [ha.1, h.len], fun j y hy => by
  obtain ⟨x,hx,hw⟩:=h.at hy
  obtain ⟨u,hu,hr⟩:=ha.2 j x hx
  exact ⟨u,hu,hw c u hr⟩⟩
theorem wkA_rfl {x:AV}:WkA x x:=fun _ _ h=>h
theorem wkA_nil:WkA .nils (.isl []):=fun c v h=>by
 obtain ⟨A,rfl⟩:=RR_nils.1 h
 exact AC5.2 ⟨A,0,rfl,Nat.le_refl _,Nat.zero_le _,fun hne=>absurd rfl hne⟩
theorem wkA_agg {xs ys:List AV} (h:BV4 xs ys):WkA (.agg xs) (.agg ys):=fun c v hv=>by
 obtain ⟨vs,rfl,hs,hc⟩:=AB3.1 hv
 refine AB3.2 ⟨vs,rfl,by rw [hs,h.len],fun j y hy=>?_⟩
 obtain ⟨x,hx,hw⟩:=h.at hy
 obtain ⟨u,hu,hr,ho⟩:=hc j x hx
 exact ⟨u,hu,hw c u hr,ho⟩
end
end Go.Am
namespace Go.Pol
open Go.Am
end Go.Pol
namespace Go.Proofs.YtbhgfoikbkaohaaGreat
open Go Go.Am Go.Pol
theorem wk_pl:WkA (.agg [.nils]) (.agg [.isl (([]:List Rl).map rlA)]):=wkA_agg ⟨wkA_nil,trivial⟩
theorem plain_npl:Plain (.agg [.nils]):=M4 (V8 Z5)
theorem d9.weak {f:Nat} {avs avs' cs ds:List AV} {r:AV} (hc:d9 f avs cs r ds) (hw:BV4 avs' avs) (hp:∀ x ∈ avs',Plain x):d9 f avs' cs r ds :=
 d9.mk (hc.out.weak (BV4.args (xs:=.ptr 0 0::avs') (ys:=.ptr 0 0::avs) ⟨wkA_rfl,hw⟩)) hc.pc hc.pd hp hc.pr
theorem LocN.weak {f:Nat} {avs avs' ds:List AV} {e:Int} (hc:LocN f avs e ds) (hw:BV4 avs' avs) (hp:∀ x ∈ avs',Plain x):LocN f avs' e ds :=
 LocN.mk (hc.out.weak (BV4.args hw)) hc.pd hp
theorem n_new:LocN 16 [.agg [.nils]] 0 (Sy.new []).a:=(p_new (l:=[]) (i:=(AB4 []).1) rfl).weak ⟨wk_pl,trivial⟩ (V8 plain_npl)
end Go.Proofs.YtbhgfoikbkaohaaGreat
namespace Go.Proofs.YtbhgfoikbkaohaaGreat.Sh
open Go Go.Am Go.Pol
theorem wx_Sxp {p q:Prop} (hq:q) (h:Y2 q→p:=by (intro hQz;((repeat' ((try (conv=>whnf));first|refine sxA ?_|refine sxF ?_|refine BM7 hn ?_|refine cx_WN h0 rfl (by decide) ?_|refine AU4 y1 rfl rfl rfl rfl rfl (by decide) rfl ?_|refine AU4 y2 rfl rfl rfl rfl rfl (by decide) rfl ?_|refine AU4 y3 rfl rfl rfl rfl rfl (by decide) rfl ?_|refine AU4 y4 rfl rfl rfl rfl rfl (by decide) rfl ?_|refine AU4 y5 rfl rfl rfl rfl rfl (by decide) rfl ?_|refine AU4 y6 rfl rfl rfl rfl rfl (by decide) rfl ?_|refine AU4 y7 rfl rfl rfl rfl rfl (by decide) rfl ?_|refine AU4 y8 rfl rfl rfl rfl rfl (by decide) rfl ?_|refine AU4 y9 rfl rfl rfl rfl rfl (by decide) rfl ?_|refine AU4 y10 rfl rfl rfl rfl rfl (by decide) rfl ?_|refine AU4 n5 rfl rfl rfl rfl rfl (by decide) rfl ?_|refine sxH ?_|((with_reducible first|apply U3 hQz|apply U4 hQz)<;>(try intro hsp hQz))|exact hQz.out))<;>(try (conv=>whnf))))):p:=h ⟨hq⟩
theorem k_shown:I6 6 [] (.bool true):=by
 have hn:=n_new
 have hc0:(AB4 []).2=0:=by decide
 have h0:LocWN 17 [.int .i64 8,.int .i64 1,.int .i64 4,.int .i64 2] (Sy.new []) ex0 T0:=w_New (Av3 hc0) (a:=8) (n:=1) (pg:=4) (sl:=2) (by decide) ex_0
 have g0:F3 ex0:=(BC7 (l:=[]) (a:=8) (n:=1) (pg:=4) (sl:=2) hc0 (by decide) (by decide) ex_0 ex0 rfl).1
 have k0:WOk ex0 T0:=wok_new
 obtain ⟨t1,y1,k1⟩:=Ai3 g0 k0 0 1 5
 have g1:F3 ex1:=AI6 g0 0 1 5
 rw [ex_1,show (ex0.write 0 1 5).2=ex1 from rfl] at y1
 rw [show (ex0.write 0 1 5).2=ex1 from rfl] at k1
 obtain ⟨t2,y2,k2⟩:=Ai3 g1 k1 64 2 6
 have g2:F3 ex2:=AI6 g1 64 2 6
 rw [ex_2,show (ex1.write 64 2 6).2=ex2 from rfl] at y2
 rw [show (ex1.write 64 2 6).2=ex2 from rfl] at k2
 obtain ⟨t3,y3,k3⟩:=BO1 g2 k2 0 3
 have g3:F3 ex3:=AT3 g2 0 3
 rw [ex_3.1,ex_3.2,show (ex2.read 0 3).2.2=ex3 from rfl] at y3
 rw [show (ex2.read 0 3).2.2=ex3 from rfl] at k3
 obtain ⟨t4,y4,k4⟩:=BO1 g3 k3 64 4
 have g4:F3 ex4:=AT3 g3 64 4
 rw [ex_4.1,ex_4.2,show (ex3.read 64 4).2.2=ex4 from rfl] at y4
 rw [show (ex3.read 64 4).2.2=ex4 from rfl] at k4
 obtain ⟨t5,y5,k5⟩:=BO1 g4 k4 128 5
 have g5:F3 ex5:=AT3 g4 128 5
 rw [ex_5.1,ex_5.2.1,show (ex4.read 128 5).2.2=ex5 from rfl] at y5
 rw [show (ex4.read 128 5).2.2=ex5 from rfl] at k5
 have n5:=w_Save g5 k5
 unfold Sw.save Ao8 at n5
 rw [ex_5.2.2.1,ex_5.2.2.2] at n5
 obtain ⟨t6,y6,k6⟩:=Ai3 g5 k5 128 6 7
 have g6:F3 ex6:=AI6 g5 128 6 7
 rw [ex_6,show (ex5.write 128 6 7).2=ex6 from rfl] at y6
 rw [show (ex5.write 128 6 7).2=ex6 from rfl] at k6
 obtain ⟨t7,y7,k7⟩:=Ai3 g6 k6 192 7 8
 have g7:F3 ex7:=AI6 g6 192 7 8
 rw [ex_7,show (ex6.write 192 7 8).2=ex7 from rfl] at y7
 rw [show (ex6.write 192 7 8).2=ex7 from rfl] at k7
 obtain ⟨t8,y8,k8⟩:=w_Out g7 k7 2
 have g8:F3 ex8:=BD8 g7 2
 rw [ex_8,show (ex7.out 2).2=ex8 from rfl] at y8
 rw [show (ex7.out 2).2=ex8 from rfl] at k8
 obtain ⟨t9,y9,k9⟩:=w_Free g8 k8 0
 have g9:F3 ex9:=BT0 g8 0
 rw [ex_9,show (ex8.fre 0).2=ex9 from rfl] at y9
 rw [show (ex8.fre 0).2=ex9 from rfl] at k9
 obtain ⟨t10,y10,k10⟩:=w_Out g9 k9 2
 rw [ex_10] at y10
 clear g0 g1 g2 g3 g4 g5 g6 g7 g8 g9 k0 k1 k2 k3 k4 k5 k6 k7 k8 k9 k10 hc0
 generalize (ex9.out 2).2=q10 at *
 generalize T0=t0 at *
 generalize Sy.new []=s0 at *
 generalize ex0=q0 at *
 generalize ex1=q1 at *
 generalize ex2=q2 at *
 generalize ex3=q3 at *
 generalize ex4=q4 at *
 generalize ex5=q5 at *
 generalize ex6=q6 at *
 generalize ex7=q7 at *
 generalize ex8=q8 at *
 generalize ex9=q9 at *
 refine I6.mk (N7 F9 b6 H8 trivial C9 rfl ?_)
 unfold c6
 (refine wx_Sxp ?_;repeat' (first|with_reducible refine And.intro ?_ ?_|intro hsp))
 all_goals first|exact J4 rfl|(exfalso;omega)|(exfalso;simp at hsp;done)|(exfalso;simp_all;done)
end Go.Proofs.YtbhgfoikbkaohaaGreat.Sh
namespace Go.Pol
open Go.Am Go.Proofs.YtbhgfoikbkaohaaGreat.Sh
def d4:Int × Int × Int × Int:=(0,0,0,0)
section
variable {q q':Sw}
theorem Ai0 {j:Nat} (h:j < q.pages.length):nth d4 q.whr j=whE q (nth 0 q.pages j):=by
 unfold Sw.whr
 rw [P9 (by rw [List.length_map];exact h),P9 h,List.getElem_map]
end
end Go.Pol
namespace Go.Proofs.YtbhgfoikbkaohaaGreat.Sh
open Go Go.Am Go.Pol
theorem Ak0 (x:Int × Int × Int × Int):Plain (.agg (swA x)):=M4 (U6 x)
theorem BA4 (q:Sw):∀ x ∈ [AV.int .i64 (q.a:Nat),.int .i64 (q.n:Nat),.int .i64 (q.pg:Nat),.int .i64 (q.sl:Nat),.isl (q.whr.map swA),.isl (q.dsk.map swD),.int .i64 q.ins,.int .i64 q.outs],Plain x:=W9
section
variable {a n pg sl i o:Int} {W:List (Int × Int × Int × Int)} {D:List (Int × (Nat→Int))}
theorem Au0 {x:Int × Int × Int × Int} {b:Bool}:Plain (.tup [.agg (swA x),.bool b]):=E5 (I4 (Ak0 x) C9)
end
section
variable {q:Sw}
end
end Go.Proofs.YtbhgfoikbkaohaaGreat.Sh
namespace Go.Proofs.YtbhgfoikbkaohaaGreat
open Go Go.Am Go.Pol
theorem plx_Tj {p:Prop} (h:p:=by ((first|exact plw|(with_reducible first|apply AE3|apply Q5|apply J6|apply Z8|apply U0|apply AB6|apply AI0|apply u7|apply AZ4|apply Ag5|apply j6|apply AD7|apply H9 Y5|apply H9 AI4|apply H9 AJ4|fail)|fail);first|done|fail)):p:=h
theorem ppx_Tj {p:Prop} (h:p:=by ((first|with_reducible assumption|(with_reducible first|apply O6 _|apply Y7 O6|apply Y7 Y5|apply Y5|apply C8|apply AM4|apply F7 C8|apply H6 C8|apply F6|apply G8|fail)|exact ppw|fail);first|done|fail)):p:=h
open Go.Proofs.YtbhgfoikbkaohaaGreat renaming plx_Tj → plx
open Go.Proofs.YtbhgfoikbkaohaaGreat renaming ppx_Tj → ppx
theorem l_runs:AU0 Tryz.prog G0 63 [.ptr 0 0] [] 1 fun x h=>x = .fn 90 [] [.ptr 1 0]∧h=⟨[(1,.cells [.ptr 0 0])],2⟩:=by
 refine G6 F9 b63 rfl ?_
 unfold c63
 (refine wx_Tc ?_;repeat' (first|with_reducible refine And.intro ?_ ?_|intro hsp))
 all_goals exact AB9 [] rfl (by decide) (O7 rfl) (BV8 G7 (A9 (U5 rfl (show 1 < 2 by decide)) G7)) (M8 (show 1 < 2 by decide) rfl (A9 (U5 rfl (show 0 < 2 by decide)) G7) I5) ⟨rfl,rfl⟩
theorem dcx_runs {h:Hp} {K:AV→Up→List Nat→Prop} {cs:List AV} (h0:lk h.l 0=some (.cells cs)) (hk:K (.fn 90 [] [.ptr h.next 0]) [(h.next,some (.cells [.ptr 0 0]))] [0]):AK0 Tryz.prog G0 63 [.ptr 0 0] h K:=by
 have e0:enter [0] 0 0:=rfl
 have k0:oneMore [0] h.next 0 0:=.inl rfl
 have k1:oneMore [0] h.next 1 h.next:=.inr ⟨rfl,rfl⟩
 exact dcx_new (r':=.fn 90 [] [.ptr h.next 0]) (cs':=[.ptr 0 0]) [0] l_runs H8 (fun n hn=>by obtain rfl:=List.mem_singleton.1 hn;exact ⟨_,h0⟩) ⟨O5 e0,trivial⟩ (BW9 trivial ⟨O5 k1,trivial⟩) ⟨O5 k0,trivial⟩ hk
section
variable {K:Nat→Int} {M:Nat→Bool} {B:Nat→Nat→Int} {P:List AV}
theorem BM6 {h:Hp} {Q:AV→Up→List Nat→Prop} {b:Nat} (hP:∀ x ∈ P,Plain x) (hb:Nat.beq b 0=false) (h0:lk h.l 0=some (.cells (sysB K M B P))) (h1:lk h.l b=some (.cells [.ptr 0 0])) (hk:Q (.isl ((F4 K 1024).map rnA)) [] [0,b]):AK0 Tryz.prog G0 62 [.fn 90 [] [.ptr b 0]] h Q:=by
 have hne:b ≠ 0:=Ao1 hb
 have e0:enter [0,b] 0 0:=rfl
 have e1:enter [0,b] b 1:=rfl
 refine ⟨_,_,_,fnU_ro (p:=enter [0,b]) (g:=fun j=>[0,b].getD j 0) (l_collect (K:=K) (M:=M) (B:=B) hP) H8 ?_ ⟨BW9 trivial ⟨O5 e1,trivial⟩,trivial⟩ (F5 (H9 Y5)),hk⟩
 refine ⟨fun i j hij=>?_,fun i j j' h1 h2=>?_,fun j o hj=>?_,fun i hi=>?_⟩
 ·have hij:[0,b][j]? = some i:=hij
  match j,hij with
  | 0,hij=>cases hij;exact ⟨by decide,rfl,List.mem_cons_self ..⟩
  | 1,hij=>cases hij;exact ⟨by decide,rfl,List.mem_cons_of_mem _ (List.mem_cons_self ..)⟩
 ·have h1:[0,b][j]? = some i:=h1
  have h2:[0,b][j']? = some i:=h2
  match j,j',h1,h2 with
  | 0,0,_,_=>rfl
  | 1,1,_,_=>rfl
  | 0,1,h1,h2=>cases h1;cases h2;exact absurd rfl hne
  | 1,0,h1,h2=>cases h1;cases h2;exact absurd rfl hne
 ·simp only [lk] at hj
  split at hj
  ·rename_i e;subst e;cases hj;exact ⟨0,_,_,e0,h0,rfl,D8 (F7 hP),D8 (F7 hP)⟩
  ·split at hj
   ·rename_i e;subst e;cases hj;exact ⟨b,_,_,e1,h1,rfl,⟨O5 e0,trivial⟩,⟨O5 (p:=fun j i=>enter [0,b] i j) (i:=0) (j:=0) e0,trivial⟩⟩
   ·cases hj
 ·rcases List.mem_cons.1 hi with rfl|hi
  ·exact ⟨0,_,e0,rfl⟩
  ·obtain rfl:=List.mem_singleton.1 hi;exact ⟨1,_,e1,rfl⟩
end
theorem wtj {p q:Prop} (hq:q) (h:Y2 q→p:=by (intro hQz;((repeat' ((try (conv=>whnf));first|(with_reducible first|refine O4 ?_|refine K6 ?_|refine P6 ?_|refine P8 ?_|refine L6 ?_|refine U9 ?_|refine N9 ?_|refine U8 rfl ?_|refine O1 ?_|refine J3 ?_|refine K8 ?_|refine K9 ?_|refine P7 ?_|refine J2 ?_|refine K7 (by decide +kernel) ?_|refine K3 (by decide +kernel) ?_|refine AG0 ?_|refine AG1 ?_|refine An9 ?_|refine r9 ?_|refine AJ5 ?_|refine Af8 (by assumption) ?_|refine Af9 (by assumption) ?_|refine o9 (by omega) ?_|refine AJ3 ?_)|((with_reducible refine AJ6 ?_ ?_);focus omega)|((with_reducible refine AJ7 ?_ ?_);focus omega)|((with_reducible apply U3 hQz)<;>(try intro hsp hQz))|((with_reducible refine An3 ?_ ?_);focus (first|omega|rfl|assumption|decide|(simp only [List.length_map,List.length_cons,List.length_nil];omega)|(simp only [List.length_cons];omega)))|(with_reducible first|refine AI9 ?_|refine o8 ?_|refine l9 ?_|refine AJ1 ?_|refine AJ0 ?_|refine AI7 ?_|refine Am8 ?_|refine I8 ?_|refine l7 ?_|refine P5 ?_|refine O9 ?_|refine I9 ?_|refine AI8 (by omega) ?_|refine l8 (by omega) ?_)|refine D6 (by with_reducible assumption) ?_|refine D6 AN1 ?_|refine AF3 (by with_reducible assumption) ?_|refine U2 (by rw [AN2];omega) rfl ?_|refine Q7 (by rw [List.length_drop,AN2];omega) (by with_reducible assumption) ?_|refine Q7 (by omega) (BN8 (by with_reducible assumption)) ?_|refine U2 (Nat.zero_le _) y_drop ?_|refine X6 (by first|(simp only [List.length_replicate];omega)|fail) (over_y (by with_reducible assumption)) ?_|refine X6 (by first|(simp only [List.length_cons,List.length_nil];omega)|fail) (Ak4 (by with_reducible assumption)) ?_|refine Am7 (by with_reducible assumption) ?_|refine del_tS ?_|refine del_tO rfl ?_|refine del_n ?_|(with_reducible first|refine AB8 ?_|refine Ap4.mk (by kernel_rfl) ?_|refine AD1 rfl ?_|refine AC1 (by decide +kernel) ?_|refine AC0 rfl ?_)|refine BM6 C8 rfl rfl rfl ?_|refine dcx_runs rfl ?_|refine L9 (by assumption) ?_|refine Q9 (by assumption) ?_|refine Q8 (by assumption) ?_|(refine AF9 F9 b61 rfl ?_;unfold c61)|refine AC3 (f:=inA) (l2:=[((p:Nat):Int)]) Al4 (AA1 rfl (by first|rfl|(simp;done)|(simp [*];done))) (fun hz=>by first|(simp [lk,O8,N8 hz,F8 hz];done)|rfl) (fun hz=>by first|(simp [lk,O8,AN9,Au8 hz,AD9 hz];done)|rfl) (by first|rfl|(simp [flat,inA];done)|(simp [flat,inA, *];done)) (by decide) ⟨by omega,by omega⟩ rfl ?_|((with_reducible apply Aa9 hQz);intro hQa hQb;refine AC2 (f:=inA) (l2:=[((p:Nat):Int)]) Al4 (AA1 rfl (by first|rfl|(simp;done)|(simp [*];done))) (fun hz=>by first|(simp [lk,O8,N8 hz,F8 hz];done)|rfl) (by first|rfl|(simp [flat,inA];done)|(simp [flat,inA, *];done)) (by decide) ⟨by omega,by omega⟩ ?_ ?_<;>intro hzz<;>first|(have hQz:=Y2.mk (hQa.out hzz))|(have hQz:=Y2.mk (hQb.out hzz)))|refine AC3 (f:=dtA) (l2:=[⟨((p:Nat):Int),s.B p⟩]) Aa7 (AA1 rfl (by first|rfl|(simp;done)|(simp [*];done))) (fun hz=>by first|(simp [lk,O8,N8 hz,F8 hz];done)|rfl) (fun hz=>by first|(simp [lk,O8,AN9,Au8 hz,AD9 hz];done)|rfl) (by first|rfl|(simp [flat,dtA];done)|(simp [flat,dtA, *];done)) (by decide) ⟨by omega,by omega⟩ rfl ?_|((with_reducible apply Aa9 hQz);intro hQa hQb;refine AC2 (f:=dtA) (l2:=[⟨((p:Nat):Int),s.B p⟩]) Aa7 (AA1 rfl (by first|rfl|(simp;done)|(simp [*];done))) (fun hz=>by first|(simp [lk,O8,N8 hz,F8 hz];done)|rfl) (by first|rfl|(simp [flat,dtA];done)|(simp [flat,dtA, *];done)) (by decide) ⟨by omega,by omega⟩ ?_ ?_<;>intro hzz<;>first|(have hQz:=Y2.mk (hQa.out hzz))|(have hQz:=Y2.mk (hQb.out hzz)))|refine I8 ?_|refine I9 ?_|refine AP1 rfl rfl ?_|refine Z6 ?_|refine V6 rfl ?_|refine AP2 rfl ?_|refine AO9 rfl ?_|refine AD0 rfl ?_|refine Q6 ?_|refine As5.mk ?_|((with_reducible apply U4 hQz)<;>(try intro hsp hQz))|exact hQz.out))<;>(try (conv=>whnf))))):p:=h ⟨hq⟩
section
variable {s:Sy}
theorem p_save (hg:GoodS s):d9 21 [] s.a (.agg (vsA s.save)) s.a:=by
 refine d9.mk (G6 F9 b21 rfl ?_) G8 G8 (fun x hx=>by cases hx) AK3
 unfold c21
 unfold Sy.a
 obtain ⟨o,ho⟩:∃ o,o=67585:=⟨_,rfl⟩
 rw [← ho]
 have hst:=Ai7 (K:=s.K) (M:=s.M) (B:=s.B) ho (Y4 (l:=s.l) (C:=s.C) (H:=s.H))
 have hru:=sys_rules (K:=s.K) (M:=s.M) (B:=s.B) (l:=s.l) (C:=s.C) (H:=s.H) ho
 have z:=Av0 (l:=s.l) (by have:=(AS1 hg.hv).2.1;omega)
 (refine wtj ?_;repeat' (first|with_reducible refine And.intro ?_ ?_|intro hsp))
 (refine H7 [0,2] (fun (p:Nat)=>[(3,.ptr 2 0),(28,.int .i64 (p:Nat))]) (fun (p:Nat)=>⟨[(0,.cells (sysB s.K s.M s.B (stA s.l s.C s.H))),(1,.cells [.nils,.nils,.nils,.nils,.int .i64 0,.int .i64 0,.int .i64 0,.int .i64 0,.int .i64 0,.int .i64 0,.int .i64 0,.int .i64 0,.int .i64 0,.int .i64 0,.int .i64 0,.int .i64 0,.int .i64 0,.int .i64 0]),(2,.cells [.isl ((F4 s.K 1024).map rnA),AP3 3 1 (K4 s.G p).length,AP3 4 65 (AA2 s.B p).length,.isl (s.l.map rlA),.int .i64 (s.C 0),.int .i64 (s.C 1),.int .i64 (s.C 2),.int .i64 (s.C 3),.int .i64 (s.C 4),.int .i64 (s.C 5),.int .i64 (s.C 6),.int .i64 (s.H 0),.int .i64 (s.H 1),.int .i64 (s.H 2),.int .i64 (s.H 3),.int .i64 (s.H 4),.int .i64 (s.H 5),.int .i64 (s.H 6)])]++(AE4 3 inA (K4 s.G p)++(AE4 4 dtA (AA2 s.B p)++[])),5⟩) (fun (p:Nat)=>p≤1024) (fun (p:Nat)=>1024 - p) (0) [(2,10)] rfl (fun _=>by first|exact Nat.zero_le _|(dsimp only;omega)) ?_ (by ((try (conv=>whnf));exact BH0)) ?_)
 ·exact Nat.zero_le _
 rintro p hp
 have hL1:=V5 (G:=s.G) (n:=p)
 have hL2:=V7 (B:=s.B) (n:=p)
 by_cases hp4:p < 1024
 ·have z1:=k_first (p:Nat)
  have hh:(sysB s.K s.M s.B (stA s.l s.C s.H))[1+p * 66+1]? = some (.bool (s.M p)):=Ag3 hp4
  have hby:=sys_bytes (K:=s.K) (M:=s.M) (B:=s.B) (P:=stA s.l s.C s.H) hp4
  have hyl:=by_len (s.B p)
  have hyz:=AJ2 (s.B p)
  generalize hy:byA (s.B p)=y at hby hyl hyz
  by_cases hz:AD3 (s.B p)
  ·have e2:AA2 s.B (p+1)=AA2 s.B p:=if_pos hz
   by_cases hu:p % 16=0∧s.G (p / 16)=true
   ·have e1:K4 s.G (p+1)=K4 s.G p++[((p:Nat):Int)]:=if_pos hu
    have hf:fst (p:Nat):=⟨by omega,by omega,by rw [Int.tmod_eq_emod_of_nonneg (by omega)];omega⟩
    rw [decide_eq_true hf] at z1
    rw [show s.M p=true from hu.2] at hh
    (refine wtj ?_;repeat' (first|with_reducible refine And.intro ?_ ?_|intro hsp))
    all_goals exact D7 (p+1) [(3,6)] (by (try dsimp only);omega) (by first|omega|(dsimp only;omega)) rfl (by ((try dsimp only);rw [e1,e2]);exact BH0)
   ·have e1:K4 s.G (p+1)=K4 s.G p:=if_neg hu
    by_cases hf:fst (p:Nat)
    ·obtain ⟨g,e,_⟩:=BL1 hf
     rw [decide_eq_true hf] at z1
     have hm:s.M p=false:=by
      cases h:s.G (p / 16) with
      | false=>exact h
      | true=>exact absurd ⟨by omega,h⟩ hu
     rw [hm] at hh
     (refine wtj ?_;repeat' (first|with_reducible refine And.intro ?_ ?_|intro hsp))
     all_goals exact D7 (p+1) [] (by (try dsimp only);omega) (by first|omega|(dsimp only;omega)) rfl (by ((try dsimp only);rw [e1,e2]);exact BH0)
    ·rw [decide_eq_false hf] at z1
     (refine wtj ?_;repeat' (first|with_reducible refine And.intro ?_ ?_|intro hsp))
     all_goals exact D7 (p+1) [] (by (try dsimp only);omega) (by first|omega|(dsimp only;omega)) rfl (by ((try dsimp only);rw [e1,e2]);exact BH0)
  ·have e2:AA2 s.B (p+1)=AA2 s.B p++[⟨((p:Nat):Int),s.B p⟩]:=if_neg hz
   by_cases hu:p % 16=0∧s.G (p / 16)=true
   ·have e1:K4 s.G (p+1)=K4 s.G p++[((p:Nat):Int)]:=if_pos hu
    have hf:fst (p:Nat):=⟨by omega,by omega,by rw [Int.tmod_eq_emod_of_nonneg (by omega)];omega⟩
    rw [decide_eq_true hf] at z1
    rw [show s.M p=true from hu.2] at hh
    (refine wtj ?_;repeat' (first|with_reducible refine And.intro ?_ ?_|intro hsp))
    all_goals exact D7 (p+1) [(3,6),(4,9)] (by (try dsimp only);omega) (by first|omega|(dsimp only;omega)) rfl (by ((try dsimp only);rw [e1,e2]);exact BH0)
   ·have e1:K4 s.G (p+1)=K4 s.G p:=if_neg hu
    by_cases hf:fst (p:Nat)
    ·obtain ⟨g,e,_⟩:=BL1 hf
     rw [decide_eq_true hf] at z1
     have hm:s.M p=false:=by
      cases h:s.G (p / 16) with
      | false=>exact h
      | true=>exact absurd ⟨by omega,h⟩ hu
     rw [hm] at hh
     (refine wtj ?_;repeat' (first|with_reducible refine And.intro ?_ ?_|intro hsp))
     all_goals exact D7 (p+1) [(4,7)] (by (try dsimp only);omega) (by first|omega|(dsimp only;omega)) rfl (by ((try dsimp only);rw [e1,e2]);exact BH0)
    ·rw [decide_eq_false hf] at z1
     (refine wtj ?_;repeat' (first|with_reducible refine And.intro ?_ ?_|intro hsp))
     all_goals exact D7 (p+1) [(4,7)] (by (try dsimp only);omega) (by first|omega|(dsimp only;omega)) rfl (by ((try dsimp only);rw [e1,e2]);exact BH0)
 ·obtain rfl:p=1024:=by omega
  (refine wtj ?_;repeat' (first|with_reducible refine And.intro ?_ ?_|intro hsp))
  all_goals exact end_save (F7 C8)
end
end Go.Proofs.YtbhgfoikbkaohaaGreat
namespace Go.Pol
open Go.Am Go.Proofs.YtbhgfoikbkaohaaGreat.Sh
def d5:Int × (Nat→Int):=(0,fun _=>0)
theorem Aw5:∀ {r:List AV},(∀ x ∈ r,∃ k n,x = .int k n)→eqL (List.replicate r.length 0) r r=some true
 | [],_=>rfl
 | x::r,h=>by
  obtain ⟨k,n,rfl⟩:=h x (List.mem_cons_self ..)
  have ih:=Aw5 (r:=r) fun y hy=>h y (List.mem_cons_of_mem _ hy)
  rw [List.length_cons,List.replicate_succ]
  simp only [eqL,eq1,if_true,ih,beq_self_eq_true,Option.bind_some,Option.map_some,Bool.and_self]
theorem eqL_swA (x:Int × Int × Int × Int):eqL [0,0,0,0] (swA x) (swA x)=some true:=Aw5 (r:=swA x) fun y hy=>by
 simp only [swA,List.mem_cons,List.not_mem_nil,or_false] at hy
 rcases hy with rfl|rfl|rfl|rfl<;>exact ⟨_,_,rfl⟩
theorem eqL_swD (x:Int × (Nat→Int)):eqL (List.replicate 65 0) (swD x) (swD x)=some true:=by
 have:=Aw5 (r:=swD x) fun y hy=>by
  rcases List.mem_cons.1 hy with rfl|hy
  ·exact ⟨_,_,rfl⟩
  ·unfold bcA memA at hy
   obtain ⟨j,_,rfl⟩:=List.mem_map.1 hy
   exact ⟨_,_,rfl⟩
 rwa [AA7] at this
end Go.Pol
namespace Go.Proofs.YtbhgfoikbkaohaaGreat.Sh
open Go Go.Am Go.Pol
theorem plx_Syd {p:Prop} (h:p:=by ((first|exact plw|(with_reducible first|apply R3|apply J7 _|apply J8 _|apply J5 _|apply w9|apply Q5|apply J6|apply X0|apply AM1 _|apply AI1 _|apply AM0|apply Z5|apply H9 U6|apply H9 AA4|apply Ak0 _|apply M4 W9|apply AK3|fail)|fail);first|done|fail)):p:=h
theorem ppx_Syd {p:Prop} (h:p:=by ((first|with_reducible assumption|(with_reducible first|apply G8|apply F6|apply AH8|apply AE7|apply AR3|apply AL6 _|apply AH7 _|apply hpp|apply W9|apply U6 _|apply BA4 _|apply AY1 _|fail)|exact ppw|fail);first|done|fail)):p:=h
open Go.Proofs.YtbhgfoikbkaohaaGreat.Sh renaming plx_Syd → plx
open Go.Proofs.YtbhgfoikbkaohaaGreat.Sh renaming ppx_Syd → ppx
theorem wx_Syd {p q:Prop} (hq:q) (h:Y2 q→p:=by (intro hQz;((repeat' ((try (conv=>whnf));first|refine sxA ?_|refine AF8 (d:=d4) AP7 (by first|assumption|omega) (by with_reducible assumption) ?_|refine Am7 hq1 ?_|refine Am7 hq2 ?_|refine AF8 (d:=d5) AA7 (by first|assumption|omega) (by with_reducible assumption) ?_|refine U2 (by rw [AA7];omega) List.drop_zero (Q7 (by rw [AA7];omega) (List.take_of_length_le (by rw [AA7];omega)) ?_)|refine Q7 (cs:=bcA x.2) (m:=64) (Nat.le_of_eq S9.symm) Ae0 ?_|refine sxF ?_|refine sxH ?_|((with_reducible first|apply U3 hQz|apply U4 hQz)<;>(try intro hsp hQz))|exact hQz.out))<;>(try (conv=>whnf))))):p:=h ⟨hq⟩
section
variable {a n pg sl i o:Int} {W:List (Int × Int × Int × Int)} {D:List (Int × (Nat→Int))}
set_option maxRecDepth 20000 in
theorem k_same25 (hW:W.length≤256) (hD:D.length≤256):I6 14 [.agg (Ao8 a n pg sl W D i o),.agg (Ao8 a n pg sl W D i o)] (.bool true):=by
 refine I6.mk (N7 F9 b14 H8 ⟨M4 W9,M4 W9,trivial⟩ C9 rfl ?_)
 unfold c14
 unfold Ao8
 (refine wx_Syd ?_;repeat' (first|with_reducible refine And.intro ?_ ?_|intro hsp))
 (refine H7 [2,3] (fun (j:Nat)=>[(5,.int .i64 (j:Nat))]) (fun (j:Nat)=>⟨[(0,.cells [.int .i64 a,.int .i64 n,.int .i64 pg,.int .i64 sl,.isl (W.map swA),.isl (D.map swD),.int .i64 i,.int .i64 o]),(1,.cells [.int .i64 a,.int .i64 n,.int .i64 pg,.int .i64 sl,.isl (W.map swA),.isl (D.map swD),.int .i64 i,.int .i64 o])],2⟩) (fun (j:Nat)=>j≤W.length) (fun (j:Nat)=>W.length - j) (0) [] rfl (fun _=>by first|exact Nat.zero_le _|(dsimp only;omega)) ?_ (by ((try (conv=>whnf));exact AD4)) ?_)
 ·exact Nat.zero_le _
 intro j hj
 by_cases hjl:j < W.length
 ·generalize hx:nth d4 W j=x at *
  have hq1:=eqL_swA x
  (refine wx_Syd ?_;repeat' (first|with_reducible refine And.intro ?_ ?_|intro hsp))
  all_goals first|(exfalso;omega)|exact D7 (j+1) [] (by (try dsimp only);omega) (by first|omega|(dsimp only;omega)) rfl (by exact AD4)
 ·(refine wx_Syd ?_;repeat' (first|with_reducible refine And.intro ?_ ?_|intro hsp))
  all_goals first|(exfalso;omega)|skip
  (refine H7 [2,3] (fun (j2:Nat)=>[(6,.int .i64 (j2:Nat))]) (fun (j2:Nat)=>⟨[(0,.cells [.int .i64 a,.int .i64 n,.int .i64 pg,.int .i64 sl,.isl (W.map swA),.isl (D.map swD),.int .i64 i,.int .i64 o]),(1,.cells [.int .i64 a,.int .i64 n,.int .i64 pg,.int .i64 sl,.isl (W.map swA),.isl (D.map swD),.int .i64 i,.int .i64 o])],2⟩) (fun (j2:Nat)=>j2≤D.length) (fun (j2:Nat)=>D.length - j2) (0) [] rfl (fun _=>by first|exact Nat.zero_le _|(dsimp only;omega)) ?_ (by ((try (conv=>whnf));exact AD4)) ?_)
  ·exact Nat.zero_le _
  intro j2 hj2
  by_cases hjl2:j2 < D.length
  ·generalize hx:nth d5 D j2=x at *
   have hq2:=eqL_swD x
   (refine wx_Syd ?_;repeat' (first|with_reducible refine And.intro ?_ ?_|intro hsp))
   all_goals first|(exfalso;omega)|exact D7 (j2+1) [] (by (try dsimp only);omega) (by first|omega|(dsimp only;omega)) rfl (by exact AD4)
  ·(refine wx_Syd ?_;repeat' (first|with_reducible refine And.intro ?_ ?_|intro hsp))
   all_goals first|(exfalso;omega)|exact J4 rfl
end
section
variable {q:Sw} {s:Sy}
theorem k_sameQ (hg:F3 q):I6 14 [.agg q.save,.agg q.save] (.bool true):=k_same25 (by rw [AL0];exact Ak2 hg) (by rw [Ad7];exact Aj0 hg)
theorem Aj2 (hg:GoodS s):I6 20 [.agg (vsA s.save),.agg (vsA s.save)] (.bool true):=r_same (Nat.le_trans V4 (by decide)) (Nat.le_trans V5 (by decide)) (Nat.le_trans V7 (by decide)) (by have:=(AS1 hg.hv).2.1;show s.l.length≤_;omega) (b:=true) ⟨fun _=>sameV_rfl,fun _=>rfl⟩
end
end Go.Proofs.YtbhgfoikbkaohaaGreat.Sh
namespace Go.Proofs.YtbhgfoikbkaohaaGreat.Sh
open Go Go.Am Go.Pol
def rfN (q:Sw) (o s:Nat):List (Nat × AObj):=[(o,.cells (rfC s q)),(s,.cells q.s.b)]
theorem rf_tail {q:Sw}:∀ x ∈ AV.int .i64 (q.a:Nat) :: .int .i64 (q.n:Nat) :: .int .i64 (q.pg:Nat) :: .int .i64 (q.sl:Nat)::(memA 17152 (rfF q.F q.T q.Z q.D)++[.int .i64 q.ins,.int .i64 q.outs]),Plain x:=fun x hx=>by
 simp only [List.mem_cons,List.mem_append,List.not_mem_nil,or_false] at hx
 rcases hx with rfl|rfl|rfl|rfl|hx|rfl|rfl
 ·exact A8
 ·exact A8
 ·exact A8
 ·exact A8
 ·exact AM5 (fun _ _=>rfF_plain) x hx
 ·exact A8
 ·exact A8
theorem AU6 {p:Nat→Nat→Prop} {q:Sw} {s s':Nat} (e:p s s'):RnL p (rfC s q) (rfC s' q):=⟨O5 e,D8 rf_tail⟩
theorem wkl_rfC {σ:Nat→Nat} {h h':Hp} {q:Sw} {s s':Nat} (hs:AH3 σ h h') (e:σ s'=s) (hl:s' < h'.next):WkL Tryz.prog σ h h' (rfC s q) (rfC s' q):=A9 (U5 e hl) (AP5 hs rf_tail)
theorem AV6 {σ:Nat→Nat} {h h':Hp} {q:Sw} {i s s':Nat} {r:List (Nat × AObj)} (hs:AH3 σ h h') (h1:i < h'.next) (h2:lk h.l (σ i)=some (.cells (rfC s q))) (e:σ s'=s) (hl:s' < h'.next) (h4:WkO Tryz.prog σ h h' r):WkO Tryz.prog σ h h' ((i,.cells (rfC s' q))::r):=M8 h1 h2 (wkl_rfC hs e hl) h4
structure AS4 (f:Nat) (avs:List AV) (q:Sw) (r:AV) (q':Sw):Prop where
 out:AU0 Tryz.prog G0 f (.ptr 0 0::avs) (rfN q 0 1) 2 fun x h1=>x=r∧h1=⟨rfN q' 0 1,2⟩
 pa:∀ x ∈ avs,Plain x
 pr:Plain r
theorem end_VV {top:Bool} {h:Hp} {N0:Nat} {x r:AV} {q:Sw} (hr:AH3 (rn []) h ⟨rfN q 0 1,2⟩→WkV Tryz.prog (rn []) h ⟨rfN q 0 1,2⟩ x r) (h0:lk h.l 0=some (.cells (rfC 1 q))) (h1:lk h.l 1=some (.cells q.s.b)) (hN0:N0≤2:=by decide) :
  AV3 top Tryz.prog N0 h x (fun r' h'=>r'=r∧h'=⟨rfN q 0 1,2⟩):=by
 have hs:AH3 (rn []) h ⟨rfN q 0 1,2⟩:=fun i o hi=>by
  simp only [rfN,lk] at hi
  show ∃ o',lk h.l i=some o'
  split at hi
  ·rename_i e;subst e;exact ⟨_,h0⟩
  ·split at hi
   ·rename_i e;subst e;exact ⟨_,h1⟩
   ·cases hi
 refine AB9 [] rfl hN0 (O7 rfl) (hr hs) ?_ ⟨rfl,rfl⟩
 exact AV6 hs (show 0 < 2 by decide) h0 (s':=1) rfl (show 1 < 2 by decide) (G9 hs (show 1 < 2 by decide) h1 rfl F6 I5)
theorem Z4 {top:Bool} {h:Hp} {N0:Nat} {x r:AV} {q:Sw} (hx:x=r) (hp:Plain r) (h0:lk h.l 0=some (.cells (rfC 1 q))) (h1:lk h.l 1=some (.cells q.s.b)) (hN0:N0≤2:=by decide) :
  AV3 top Tryz.prog N0 h x (fun r' h'=>r'=r∧h'=⟨rfN q 0 1,2⟩):=by
 subst hx
 exact end_VV (fun hs=>X4 hs hp) h0 h1 hN0
theorem Ax2 {f:Nat} {avs:List AV} {q q':Sw} {r:AV} {o g nx:Nat} {l:List (Nat × AObj)} {K:AV→Hp→Prop} (hc:AS4 f avs q r q')
  (h0:lk l o=some (.cells (rfC g q))) (h1:lk l g=some (.cells q.s.b))
  (hlt:o < nx∧g < nx) (hd:Ab1 [o,g]=true)
  (hk:AO2 [o,g] l fun l2=>K r ⟨([(o,.cells (rfC g q')),(g,.cells q'.s.b)]:List (Nat × AObj))++l2,nx⟩):AL4 Tryz.prog G0 (.fn f [] []) (.ptr o 0::avs) ⟨l,nx⟩ K:=by
 have e0:enter [o,g] o 0:=rfl
 have e1:enter [o,g] g 1:=rfl
 have k0:back [o,g] nx 0 o:=rfl
 have k1:back [o,g] nx 1 g:=rfl
 refine AO7 (l1:=rfN q' o g) [o,g] hc.out H8 hd
  (.cons e0 h0 (AU6 e1) (.cons e1 h1 (D8 F6) .nil))
  ?_ (by intro x hx;simp only [List.mem_cons,List.not_mem_nil,or_false] at hx;omega) (F5 hc.pr)
  (.cons k0 (AU6 k1) (.cons k1 (D8 F6) .nil)) hk
 simp only [List.nil_append,List.append_nil]
 exact ⟨O5 e0,D8 hc.pa⟩
theorem AX1 {f:Nat} {avs:List AV} {q q':Sw} {r:AV} {o g:Nat} {h:Hp} {K:AV→Up→List Nat→Prop} (hc:AS4 f avs q r q')
  (h0:lk h.l o=some (.cells (rfC g q))) (h1:lk h.l g=some (.cells q.s.b))
  (hd:Ab1 [o,g]=true) (hnx':[o,g].contains h.next=false)
  (hk:K r [(o,some (.cells (rfC g q'))),(g,some (.cells q'.s.b))] [o,g]):AK0 Tryz.prog G0 f (.ptr o 0::avs) h K:=by
 have hnx:h.next ∉ [o,g]:=fun hm=>by rw [List.contains_eq_mem,decide_eq_false_iff_not] at hnx';exact hnx' hm
 have e0:enter [o,g] o 0:=rfl
 have e1:enter [o,g] g 1:=rfl
 have k0:Z0 [o,g] 0 o:=rfl
 have k1:Z0 [o,g] 1 g:=rfl
 refine Ax0 (l1:=rfN q' o g) [o,g] hc.out H8 hd
  (.cons e0 h0 (AU6 e1) (.cons e1 h1 (D8 F6) .nil))
  hnx ?_ ?_ ⟨O5 e0,D8 hc.pa⟩ (F5 hc.pr)
  (.cons k0 (AU6 k1) (.cons k1 (D8 F6) .nil)) hk
 ·intro x hx
  simp only [rfN,lk]
  repeat' split
  all_goals first|exact ⟨_,rfl⟩|(exfalso;simp only [List.mem_cons,List.not_mem_nil,or_false] at hx;omega)
 ·intro j x hx
  have : j < 2:=(List.getElem?_eq_some_iff.1 hx).1
  simp only [rfN,lk]
  repeat' split
  all_goals first|exact ⟨_,rfl⟩|(exfalso;omega)
theorem dcx_Vk {f:Nat} {avs:List AV} {q:Sw} {r:AV} {o g:Nat} {h:Hp} {K:AV→Up→List Nat→Prop} (hc:AS4 f avs q r q)
  (h0:lk h.l o=some (.cells (rfC g q))) (h1:lk h.l g=some (.cells q.s.b))
  (hd:Ab1 [o,g]=true) (hnx':[o,g].contains h.next=false)
  (hk:K r [] [o,g]):AK0 Tryz.prog G0 f (.ptr o 0::avs) h K:=by
 refine Ax1 (AX1 hc h0 h1 hd hnx' ⟨fun j x hx=>?_,fun hm=>by rw [List.contains_eq_mem,decide_eq_false_iff_not] at hnx';exact hnx' hm,hk⟩)
 simp only [List.mem_cons,Prod.mk.injEq,List.not_mem_nil,or_false] at hx ⊢
 rcases hx with ⟨rfl,rfl⟩ | ⟨rfl,rfl⟩
 ·exact ⟨.inl rfl,h0⟩
 ·exact ⟨.inr rfl,h1⟩
end Go.Proofs.YtbhgfoikbkaohaaGreat.Sh
namespace Go.Pol
open Go.Am Go.Proofs.YtbhgfoikbkaohaaGreat.Sh
def Sw.inF (q:Sw) (f:Int):Int:=opA ((List.range q.pg).find? fun p=>decide (q.F p=f))
def Sw.inT (q:Sw) (f:Int):Int:=opA ((List.range q.pg).find? fun p=>decide (q.T p=f))
section
variable {q:Sw} {f:Int} {p:Nat}
theorem Av5 {n p:Nat} {c:Nat→Bool} (hp:p < n) (h1:∀ j,j < p→c j=false) (h2:c p=true):(List.range n).find? c=some p:=by
 have:=Av7 (a:=0) (n:=n) (p:=c) hp (fun j hj=>by rw [Nat.zero_add];exact h1 j hj) (by rw [Nat.zero_add];exact h2)
 rw [Nat.zero_add] at this
 rw [List.range_eq_range'];exact this
theorem BL2 {n:Nat} {c:Nat→Bool} (h1:∀ j,j < n→c j=false):(List.range n).find? c=none:=by
 rw [List.range_eq_range'];exact Av6 fun j hj=>by rw [Nat.zero_add];exact h1 j hj
theorem inF_yes (hp:p < q.pg) (h1:∀ j,j < p→q.F j ≠ f) (h2:q.F p=f):q.inF f=(p:Nat):=by
 unfold Sw.inF;rw [Av5 hp (fun j hj=>decide_eq_false (h1 j hj)) (decide_eq_true h2)];rfl
theorem inF_no (h1:∀ j,j < q.pg→q.F j ≠ f):q.inF f = -1:=by
 unfold Sw.inF;rw [BL2 (fun j hj=>decide_eq_false (h1 j hj))];rfl
theorem inT_yes (hp:p < q.pg) (h1:∀ j,j < p→q.T j ≠ f) (h2:q.T p=f):q.inT f=(p:Nat):=by
 unfold Sw.inT;rw [Av5 hp (fun j hj=>decide_eq_false (h1 j hj)) (decide_eq_true h2)];rfl
theorem inT_no (h1:∀ j,j < q.pg→q.T j ≠ f):q.inT f = -1:=by
 unfold Sw.inT;rw [BL2 (fun j hj=>decide_eq_false (h1 j hj))];rfl
theorem BR2 {n:Nat} {c:Nat→Bool}:(0≤opA ((List.range n).find? c) ↔ ∃ p,p < n∧c p=true) ∧ -1≤opA ((List.range n).find? c)∧opA ((List.range n).find? c) < (n:Nat):=by
 cases h:(List.range n).find? c with
 | none =>
  refine ⟨⟨fun h0=>absurd h0 (by decide),fun ⟨p,h1,h2⟩=>?_⟩,by decide,by show (-1:Int) < _;omega⟩
  have:=List.find?_eq_none.1 h p (List.mem_range.2 h1)
  exact absurd h2 this
 | some p =>
  have h1:=List.find?_some h
  have h2:=List.mem_range.1 (List.mem_of_find?_eq_some h)
  exact ⟨⟨fun _=>⟨p,h2,h1⟩,fun _=>Int.natCast_nonneg _⟩,by show -1≤((p:Nat):Int);omega,by show ((p:Nat):Int) < _;omega⟩
theorem BS6 {f:Nat}:0≤q.inF f ↔ q.heldF f:=by
 unfold Sw.inF Sw.heldF
 rw [BR2.1]
 simp only [decide_eq_true_eq]
theorem BS5 {f:Nat}:0≤q.inT f ↔ q.heldT f:=by
 unfold Sw.inT Sw.heldT
 rw [BR2.1]
 simp only [decide_eq_true_eq]
end
end Go.Pol
namespace Go.Proofs.YtbhgfoikbkaohaaGreat.Sh
open Go Go.Am Go.Pol
theorem plx_Sxt {p:Prop} (h:p:=by ((first|exact plw|(with_reducible first|apply R3|apply w9|apply Q5|apply J6|apply X0|apply Z5|fail)|fail);first|done|fail)):p:=h
theorem ppx_Sxt {p:Prop} (h:p:=by ((first|with_reducible assumption|(with_reducible first|apply G8|apply F6|apply AH8|apply AE7|fail)|exact ppw|fail);first|done|fail)):p:=h
open Go.Proofs.YtbhgfoikbkaohaaGreat.Sh renaming plx_Sxt → plx
open Go.Proofs.YtbhgfoikbkaohaaGreat.Sh renaming ppx_Sxt → ppx
theorem wx_Sxt {p q:Prop} (hq:q) (h:Y2 q→p:=by (intro hQz;((repeat' ((try (conv=>whnf));first|refine sxA ?_|refine D6 rf_3 ?_|refine D6 hrd ?_|refine sxF ?_|refine sxH ?_|((with_reducible first|apply U3 hQz|apply U4 hQz)<;>(try intro hsp hQz))|exact hQz.out))<;>(try (conv=>whnf))))):p:=h ⟨hq⟩
section
variable {q:Sw}
theorem v_inF (hpg:q.pg≤256) (f:Int):AS4 43 [.int .i64 f] q (.int .i64 (q.inF f)) q:=by
 refine AS4.mk (G6 F9 b43 rfl ?_) (R9 A8) A8
 unfold c43
 unfold rfN
 (refine wx_Sxt ?_;repeat' (first|with_reducible refine And.intro ?_ ?_|intro hsp))
 (refine H7 [0,1] (fun (p:Nat)=>[(5,.int .i64 (p:Nat))]) (fun (p:Nat)=>⟨[(0,.cells (rfC 1 q)),(1,.cells q.s.b)],2⟩) (fun (p:Nat)=>p≤q.pg∧∀ j,j < p→q.F j ≠ f) (fun (p:Nat)=>q.pg - p) (0) [] rfl (fun _=>by first|exact Nat.zero_le _|(dsimp only;omega)) ?_ (by ((try (conv=>whnf));exact Y8)) ?_)
 ·exact ⟨Nat.zero_le _,fun j hj=>absurd hj (Nat.not_lt_zero _)⟩
 intro p hp
 obtain ⟨hp,hall⟩:=hp
 by_cases hpl:p < q.pg
 ·have hrd:=rf_F (s:=1) (q:=q) (p:=p) (by omega)
  by_cases he:q.F p=f
  ·rw [inF_yes hpl hall he]
   (refine wx_Sxt ?_;repeat' (first|with_reducible refine And.intro ?_ ?_|intro hsp))
   all_goals first|(exfalso;omega)|exact Z4 rfl A8 rfl rfl
  ·have hnext:p+1≤q.pg∧∀ j,j < p+1→q.F j ≠ f:=⟨hpl,fun j hj=>by
    by_cases e:j=p
    ·rw [e];exact he
    ·exact hall j (by omega)⟩
   (refine wx_Sxt ?_;repeat' (first|with_reducible refine And.intro ?_ ?_|intro hsp))
   all_goals first|(exfalso;omega)|exact D7 (p+1) [] hnext (by first|omega|(dsimp only;omega)) rfl (by exact Y8)
 ·obtain rfl:p=q.pg:=by omega
  rw [inF_no hall]
  (refine wx_Sxt ?_;repeat' (first|with_reducible refine And.intro ?_ ?_|intro hsp))
  all_goals first|(exfalso;omega)|exact Z4 rfl A8 rfl rfl
theorem v_inT (hpg:q.pg≤256) (f:Int):AS4 44 [.int .i64 f] q (.int .i64 (q.inT f)) q:=by
 refine AS4.mk (G6 F9 b44 rfl ?_) (R9 A8) A8
 unfold c44
 unfold rfN
 (refine wx_Sxt ?_;repeat' (first|with_reducible refine And.intro ?_ ?_|intro hsp))
 (refine H7 [0,1] (fun (p:Nat)=>[(5,.int .i64 (p:Nat))]) (fun (p:Nat)=>⟨[(0,.cells (rfC 1 q)),(1,.cells q.s.b)],2⟩) (fun (p:Nat)=>p≤q.pg∧∀ j,j < p→q.T j ≠ f) (fun (p:Nat)=>q.pg - p) (0) [] rfl (fun _=>by first|exact Nat.zero_le _|(dsimp only;omega)) ?_ (by ((try (conv=>whnf));exact Y8)) ?_)
 ·exact ⟨Nat.zero_le _,fun j hj=>absurd hj (Nat.not_lt_zero _)⟩
 intro p hp
 obtain ⟨hp,hall⟩:=hp
 by_cases hpl:p < q.pg
 ·have hrd:=rf_T (s:=1) (q:=q) (p:=p) (by omega)
  by_cases he:q.T p=f
  ·rw [inT_yes hpl hall he]
   (refine wx_Sxt ?_;repeat' (first|with_reducible refine And.intro ?_ ?_|intro hsp))
   all_goals first|(exfalso;omega)|exact Z4 rfl A8 rfl rfl
  ·have hnext:p+1≤q.pg∧∀ j,j < p+1→q.T j ≠ f:=⟨hpl,fun j hj=>by
    by_cases e:j=p
    ·rw [e];exact he
    ·exact hall j (by omega)⟩
   (refine wx_Sxt ?_;repeat' (first|with_reducible refine And.intro ?_ ?_|intro hsp))
   all_goals first|(exfalso;omega)|exact D7 (p+1) [] hnext (by first|omega|(dsimp only;omega)) rfl (by exact Y8)
 ·obtain rfl:p=q.pg:=by omega
  rw [inT_no hall]
  (refine wx_Sxt ?_;repeat' (first|with_reducible refine And.intro ?_ ?_|intro hsp))
  all_goals first|(exfalso;omega)|exact Z4 rfl A8 rfl rfl
end
end Go.Proofs.YtbhgfoikbkaohaaGreat.Sh
namespace Go.Proofs.YtbhgfoikbkaohaaGreat.Sh
open Go Go.Am Go.Pol
open Go.Proofs.YtbhgfoikbkaohaaGreat.Sh renaming plx_Sxt → plx
open Go.Proofs.YtbhgfoikbkaohaaGreat.Sh renaming ppx_Sxt → ppx
theorem wx_Sxu {p q:Prop} (hq:q) (h:Y2 q→p:=by (intro hQz;((repeat' ((try (conv=>whnf));first|refine sxA ?_|refine D6 rf_0 ?_|refine D6 rf_1 ?_|refine D6 rf_2 ?_|refine D6 rf_3 ?_|refine D6 rf_4 ?_|refine D6 hF ?_|refine D6 hZ ?_|refine D6 hZb ?_|refine L8 (by rw [R4];omega) hset ?_|refine U2 (by rw [S9];omega) List.drop_zero (Q7 (by rw [S9];omega) Ae0 ?_)|refine ⟨S9,?_⟩|refine X6 (by simp only [S9,R4];omega) hov ?_|refine sxF ?_|refine Ax2 hT rfl rfl (by decide) rfl ?_|refine M0 (by assumption) rfl (by decide) ?_|refine sxH ?_|((with_reducible first|apply U3 hQz|apply U4 hQz)<;>(try intro hsp hQz))|exact hQz.out))<;>(try (conv=>whnf))))):p:=h ⟨hq⟩
theorem At6 (a n pg sl:Int):I6 27 [.int .i64 a,.int .i64 n,.int .i64 pg,.int .i64 sl] (.bool (decide (U7 a n pg sl))):=by
 refine I6.mk (N7 F9 b27 H8 ⟨A8,A8,A8,A8,trivial⟩ C9 rfl ?_)
 unfold c27
 (refine wx_Sxu ?_;repeat' (first|with_reducible refine And.intro ?_ ?_|intro hsp))
 all_goals first|(exfalso;omega)|exact J4 (by first|exact decide_eq_decide.2 (by unfold U7;omega)|exact (decide_eq_true (show U7 a n pg sl by unfold U7;omega)).symm|exact (decide_eq_false (show ¬ U7 a n pg sl by unfold U7;omega)).symm)
section
variable {q:Sw}
theorem Az8 (hp:q.pg≤256) (a now:Int):AS4 30 [.int .i64 a,.int .i64 now] q (.bool (decide (q.nums a now))) q:=by
 refine AS4.mk (G6 F9 b30 rfl ?_) (I4 A8 A8) C9
 unfold c30
 unfold rfN
 (refine wx_Sxu ?_;repeat' (first|with_reducible refine And.intro ?_ ?_|intro hsp))
 all_goals first|(exfalso;omega)|exact Z4 (by first|exact congrArg AV.bool (decide_eq_decide.2 (by unfold Sw.nums;omega))|exact congrArg AV.bool (decide_eq_true (show q.nums a now by unfold Sw.nums;omega)).symm|exact congrArg AV.bool (decide_eq_false (show ¬ q.nums a now by unfold Sw.nums;omega)).symm) C9 rfl rfl
theorem v_slot (hpg:q.pg≤256) (hsl6:q.sl≤256) (g:Int):AS4 74 [.int .i64 g] q (.int .i64 (opA (q.slot g))) q:=by
 refine AS4.mk (G6 F9 b74 rfl ?_) (R9 A8) A8
 unfold c74
 unfold rfN
 (refine wx_Sxu ?_;repeat' (first|with_reducible refine And.intro ?_ ?_|intro hsp))
 (refine H7 [0,1] (fun (i:Nat)=>[(5,.int .i64 (i:Nat))]) (fun (i:Nat)=>⟨[(0,.cells (rfC 1 q)),(1,.cells q.s.b)],2⟩) (fun (i:Nat)=>i≤q.sl∧∀ j,j < i→¬ (((j:Nat):Int)=g∨¬ q.heldT j)) (fun (i:Nat)=>q.sl - i) (0) [] rfl (fun _=>by first|exact Nat.zero_le _|(dsimp only;omega)) ?_ (by ((try (conv=>whnf));exact Y8)) ?_)
 ·exact ⟨Nat.zero_le _,fun j hj=>absurd hj (Nat.not_lt_zero _)⟩
 intro i hi
 obtain ⟨hi,hall⟩:=hi
 by_cases hil:i < q.sl
 ·have hT:=v_inT hpg (i:Nat)
  have hh:=BS5 (q:=q) (f:=i)
  generalize q.inT (i:Nat)=y at *
  by_cases hc:((i:Nat):Int)=g∨¬ q.heldT i
  ·have hsl:q.slot g=some i:=by
    unfold Sw.slot
    exact Av5 hil (fun j hj=>decide_eq_false (hall j hj)) (decide_eq_true hc)
   rw [hsl]
   have hy:((i:Nat):Int)=g∨y < 0:=hc.imp_right fun h=>by
    rcases Int.lt_or_le y 0 with h2|h2
    ·exact h2
    ·exact absurd (hh.1 h2) h
   clear hh hall hc hsl
   (refine wx_Sxu ?_;repeat' (first|with_reducible refine And.intro ?_ ?_|intro hsp))
   all_goals first|(exfalso;omega)|exact Z4 rfl A8 rfl rfl
  ·have hnext:i+1≤q.sl∧∀ j,j < i+1→¬ (((j:Nat):Int)=g∨¬ q.heldT j):=⟨hil,fun j hj=>by
    by_cases e:j=i
    ·rw [e];exact hc
    ·exact hall j (by omega)⟩
   have hy:¬ ((i:Nat):Int)=g∧0≤y:=⟨fun h=>hc (.inl h),hh.2 (Classical.not_not.1 fun h=>hc (.inr h))⟩
   clear hh hall hc
   (refine wx_Sxu ?_;repeat' (first|with_reducible refine And.intro ?_ ?_|intro hsp))
   all_goals first|(exfalso;omega)|exact D7 (i+1) [] hnext (by first|omega|(dsimp only;omega)) rfl (by exact Y8)
 ·obtain rfl:i=q.sl:=by omega
  have hsl:q.slot g=none:=by
   unfold Sw.slot
   exact BL2 fun j hj=>decide_eq_false (hall j hj)
  rw [hsl]
  (refine wx_Sxu ?_;repeat' (first|with_reducible refine And.intro ?_ ?_|intro hsp))
  all_goals first|(exfalso;omega)|exact Z4 rfl A8 rfl rfl
def vicA (o:Option Nat):AV:=.tup [.int .i64 (match o with|some v=>((v:Nat):Int)|none=>0),.int .i64 (match o with|some _=>0|none=>4)]
theorem Ac3 {o:Option Nat}:Plain (vicA o):=E5 (I4 A8 A8)
theorem At0 (hpg:q.pg≤256):AS4 55 [] q (vicA q.vic) q:=by
 refine AS4.mk (G6 F9 b55 rfl ?_) (fun x hx=>by cases hx) Ac3
 unfold c55
 unfold rfN
 have hv0:opA (q.vicN 0) = -1:=rfl
 (refine wx_Sxu ?_;repeat' (first|with_reducible refine And.intro ?_ ?_|intro hsp))
 (refine H7 [0,1] (fun (m:Nat)=>[(4,.int .i64 (opA (q.vicN m))),(5,.int .i64 (m:Nat))]) (fun (m:Nat)=>⟨[(0,.cells (rfC 1 q)),(1,.cells q.s.b)],2⟩) (fun (m:Nat)=>m≤q.pg) (fun (m:Nat)=>q.pg - m) (0) [] rfl (fun _=>by first|exact Nat.zero_le _|(dsimp only;omega)) ?_ (by ((try (conv=>whnf));(rw [hv0]);exact Y8)) ?_)
 ·exact Nat.zero_le _
 intro m hm
 by_cases hml:m < q.pg
 ·have hF:=rf_F (s:=1) (q:=q) (p:=m) (by omega)
  have hZ:=rf_Z (s:=1) (q:=q) (p:=m) (by omega)
  have hsp:=(AN0 (w:=q) m).1
  by_cases h0:0≤q.F m
  ·cases hv:q.vicN m with
   | none =>
    have hnx:opA (q.vicN (m+1))=(m:Nat):=by
     show opA (if 0≤q.F m then (match q.vicN m with|none=>some m|some b=>if q.Z m < q.Z b then some m else some b) else q.vicN m)=_
     rw [if_pos h0,hv];rfl
    have hy:opA (none:Option Nat) = -1:=rfl
    rw [hy]
    clear hsp
    (refine wx_Sxu ?_;repeat' (first|with_reducible refine And.intro ?_ ?_|intro hsp))
    all_goals first|(exfalso;omega)|exact D7 (m+1) [] (by (try dsimp only);omega) (by first|omega|(dsimp only;omega)) rfl (by ((try dsimp only);rw [hnx]);exact Y8)
   | some b =>
    obtain ⟨hb,_,_⟩:=hsp b hv
    have hZb:=rf_Z (s:=1) (q:=q) (p:=b) (by omega)
    have hy:opA (some b)=((b:Nat):Int):=rfl
    rw [hy]
    clear hsp
    by_cases hz:q.Z m < q.Z b
    ·have hnx:opA (q.vicN (m+1))=(m:Nat):=by
      show opA (if 0≤q.F m then (match q.vicN m with|none=>some m|some b=>if q.Z m < q.Z b then some m else some b) else q.vicN m)=_
      rw [if_pos h0,hv]
      dsimp only
      rw [if_pos hz];rfl
     (refine wx_Sxu ?_;repeat' (first|with_reducible refine And.intro ?_ ?_|intro hsp))
     all_goals first|(exfalso;omega)|exact D7 (m+1) [] (by (try dsimp only);omega) (by first|omega|(dsimp only;omega)) rfl (by ((try dsimp only);rw [hnx]);exact Y8)
    ·have hnx:opA (q.vicN (m+1))=(b:Nat):=by
      show opA (if 0≤q.F m then (match q.vicN m with|none=>some m|some b=>if q.Z m < q.Z b then some m else some b) else q.vicN m)=_
      rw [if_pos h0,hv]
      dsimp only
      rw [if_neg hz];rfl
     (refine wx_Sxu ?_;repeat' (first|with_reducible refine And.intro ?_ ?_|intro hsp))
     all_goals first|(exfalso;omega)|exact D7 (m+1) [] (by (try dsimp only);omega) (by first|omega|(dsimp only;omega)) rfl (by ((try dsimp only);rw [hnx]);exact Y8)
  ·have hnx:opA (q.vicN (m+1))=opA (q.vicN m):=by
    show opA (if 0≤q.F m then (match q.vicN m with|none=>some m|some b=>if q.Z m < q.Z b then some m else some b) else q.vicN m)=_
    rw [if_neg h0]
   clear hsp
   generalize opA (q.vicN m)=y at *
   (refine wx_Sxu ?_;repeat' (first|with_reducible refine And.intro ?_ ?_|intro hsp))
   all_goals first|(exfalso;omega)|exact D7 (m+1) [] (by (try dsimp only);omega) (by first|omega|(dsimp only;omega)) rfl (by ((try dsimp only);rw [hnx]);exact Y8)
 ·obtain rfl:m=q.pg:=by omega
  show _
  cases hv:q.vic with
  | none =>
   have hy:opA (q.vicN q.pg) = -1:=by rw [show q.vicN q.pg=none from hv];rfl
   rw [hy]
   (refine wx_Sxu ?_;repeat' (first|with_reducible refine And.intro ?_ ?_|intro hsp))
   all_goals first|(exfalso;omega)|exact Z4 rfl Ac3 rfl rfl
  | some b =>
   have hy:opA (q.vicN q.pg)=(b:Nat):=by rw [show q.vicN q.pg=some b from hv];rfl
   rw [hy]
   (refine wx_Sxu ?_;repeat' (first|with_reducible refine And.intro ?_ ?_|intro hsp))
   all_goals first|(exfalso;omega)|exact Z4 rfl Ac3 rfl rfl
theorem v_bytes {f:Nat} (hf:f < 1024) (hk:q.s.K f=2):AS4 102 [.int .i64 (f:Nat)] q (.agg (bcA (q.s.B f))) q:=by
 refine AS4.mk (G6 F9 b102 rfl ?_) (R9 A8) w9
 unfold c102
 unfold rfN
 (refine wx_Sxu ?_;repeat' (first|with_reducible refine And.intro ?_ ?_|intro hsp))
 rw [← rdK_0 (f:=q.s.B f)]
 (refine H7 [0,1,4,5] (fun (k:Nat)=>[(6,.int .i64 (k:Nat))]) (fun (k:Nat)=>⟨[(0,.cells (rfC 1 q)),(1,.cells q.s.b)]++[(2,.cells (memA 64 (rdK (q.s.B f) 0))),(3,.cells (memA 64 (rdK (q.s.B f) k)))],4⟩) (fun (k:Nat)=>k≤64) (fun (k:Nat)=>64 - k) (0) [] rfl (fun _=>by first|exact Nat.zero_le _|(dsimp only;omega)) ?_ (by ((try (conv=>whnf));exact Y8)) ?_)
 ·exact Nat.zero_le _
 intro k hkk
 by_cases hkl:k < 64
 ·have c1:=q_read (s:=q.s) (a:=(f:Int) * 64+(k:Nat))
  rw [read_at hk hf hkl] at c1
  dsimp only at c1
  have hset:=rdK_s (f:=q.s.B f) hkl
  generalize q.s.B f k=y at *
  (refine wx_Sxu ?_;repeat' (first|with_reducible refine And.intro ?_ ?_|intro hsp))
  all_goals first|(exfalso;omega)|exact D7 (k+1) [] (by (try dsimp only);omega) (by first|omega|(dsimp only;omega)) rfl (by exact Y8)
 ·obtain rfl:k=64:=by omega
  rw [rdK_all]
  have hov:over (memA 64 (rdK (q.s.B f) 0)) 0 (bcA (q.s.B f))=bcA (q.s.B f):=AZ6 (pre:=[]) (by rw [S9,R4])
  (refine wx_Sxu ?_;repeat' (first|with_reducible refine And.intro ?_ ?_|intro hsp))
  all_goals first|(exfalso;omega)|exact Z4 rfl w9 rfl rfl
end
end Go.Proofs.YtbhgfoikbkaohaaGreat.Sh
