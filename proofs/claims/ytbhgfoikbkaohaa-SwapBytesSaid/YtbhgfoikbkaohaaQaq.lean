/-
 far,alone.
 A store stays one;the example.
 Calls with a nil plan;acts.
 The example.
 SwapBytes.
 What a row's reading of an argument is,as abstract values,by the shape of its type. No program in sight.
 The arguments of the rows: calls and plays.
-/
import Derived.Test.YtbhgfoikbkaohaaQap
import Derived.Carry
import Derived.OpenShut
import Derived.Test.YtbhgfoikbkaohaaRows
import Derived.KernelRfl
set_option linter.unusedSimpArgs false
set_option linter.unusedVariables false
set_option maxHeartbeats 12800000
namespace Go.Pol
open Go.Am Go.Proofs.Ytbhgfoikbkaohaa.Sh
def Sw.al (q:Sw) (x:SAc):Int × Sw:=q.call (x.w.toNat % 14) x.t x.n x.v x.p x.l
def SPy.ok (p:SPy):Prop:=p.X.length≤50∧p.l.length≤60∧(p.n≤60∨1024 < p.n)
instance (p:SPy):Decidable p.ok:=by unfold SPy.ok;infer_instance
end Go.Pol
namespace Go.Proofs.Ytbhgfoikbkaohaa.Sh
open Go Go.Am Go.Pol
theorem plx_Sxn {p:Prop} (h:p:=by ((first|exact plw|(with_reducible first|apply U0|apply G8 _|apply H6 _|apply G9 _|apply AD4|apply P8|apply O6|apply O4|apply AX8 _|apply w9 _|apply AQ6|fail)|fail);first|done|fail)):p:=h
theorem ppx_Sxn {p:Prop} (h:p:=by ((first|with_reducible assumption|(with_reducible first|apply F4|apply Aa8|apply AX6|apply AJ5|apply AY6|apply AN3 _|apply AF4 _|fail)|exact ppw|fail);first|done|fail)):p:=h
open Go.Proofs.Ytbhgfoikbkaohaa.Sh renaming plx_Sxn → plx
open Go.Proofs.Ytbhgfoikbkaohaa.Sh renaming ppx_Sxn → ppx
theorem wx_Sxn {p q:Prop} (hq:q) (h:Z7 q→p:=by (intro hQz;((repeat' ((try (conv=>whnf));first|refine sxA ?_|refine AC4 (by with_reducible assumption) ?_|refine sxF ?_|refine AM1 (d:=dSA) Az4 (by first|assumption|omega) (by with_reducible assumption) ?_|refine AM5 h2 rfl rfl rfl rfl rfl (by decide) rfl ?_|refine Q6 h2 rfl (by decide) ?_|refine sxH ?_|((with_reducible first|apply V9 hQz|apply W9 hQz)<;>(try intro hsp hQz))|exact hQz.out))<;>(try (conv=>whnf))))):p:=h ⟨hq⟩
theorem BS0 {p:SPy} (hl:p.X.length≤maxLen) (h:∃ x ∈ p.X,60 < x.l.length):J8 9 [.agg (AX1 p)] (.bool true):=by
 have hl:p.X.length≤9223372036854775807:=hl
 refine J8.mk (R8 F7 b9 H9 ⟨w9 p,trivial⟩ D9 rfl ?_)
 unfold c9
 have hp:=AF4 p
 unfold AX1 at hp ⊢
 (refine wx_Sxn ?_;repeat' (first|with_reducible refine And.intro ?_ ?_|intro hsp))
 (refine U2 [1] (fun (i:Nat)=>[(3,.int .i64 (i:Nat))]) (fun (i:Nat)=>⟨[(0,.cells [.int .i64 p.a,.int .i64 p.n,.int .i64 p.pg,.int .i64 p.sl,.isl (p.l.map rlA),.isl (p.X.map Ac9)])],1⟩) (fun (i:Nat)=>∃ j,i≤j∧j < p.X.length∧60 < (nth dSA p.X j).l.length) (fun (i:Nat)=>p.X.length - i) (0) [] rfl (fun _=>by first|exact Nat.zero_le _|(dsimp only;omega)) ?_ (by ((try (conv=>whnf));exact V7)) ?_)
 ·obtain ⟨x,hx,h6⟩:=h
  obtain ⟨j,hj,rfl⟩:=List.getElem_of_mem hx
  exact ⟨j,Nat.zero_le _,hj,by rw [AG3 hj];exact h6⟩
 intro i hi
 obtain ⟨j,h1,h2,h3⟩:=hi
 have hil:i < p.X.length:=by omega
 have hne:¬ 60 < (nth dSA p.X i).l.length→∃ j,i+1≤j∧j < p.X.length∧60 < (nth dSA p.X j).l.length:=fun hn=>⟨j,by
  by_cases e:i=j
  ·exact absurd (e▸h3) hn
  ·omega,h2,h3⟩
 clear h1 h2 h3
 by_cases hn:60 < (nth dSA p.X i).l.length
 ·clear hne
  generalize hx:nth dSA p.X i=x at *
  (refine wx_Sxn ?_;repeat' (first|with_reducible refine And.intro ?_ ?_|intro hsp))
  all_goals first|exact V4 rfl|(exfalso;omega)
 ·have hne2:=hne hn
  clear hne
  generalize hx:nth dSA p.X i=x at *
  (refine wx_Sxn ?_;repeat' (first|with_reducible refine And.intro ?_ ?_|intro hsp))
  all_goals first|(exfalso;omega)|exact I7 (i+1) [] hne2 (by first|omega|(dsimp only;omega)) rfl (by exact V7)
theorem k_far_no {p:SPy} (hl:p.X.length≤maxLen) (h:¬ ∃ x ∈ p.X,60 < x.l.length):J8 9 [.agg (AX1 p)] (.bool (decide (¬ p.ok))):=by
 have hl:p.X.length≤9223372036854775807:=hl
 refine J8.mk (R8 F7 b9 H9 ⟨w9 p,trivial⟩ D9 rfl ?_)
 unfold c9
 unfold AX1
 (refine wx_Sxn ?_;repeat' (first|with_reducible refine And.intro ?_ ?_|intro hsp))
 (refine U2 [1] (fun (i:Nat)=>[(3,.int .i64 (i:Nat))]) (fun (i:Nat)=>⟨[(0,.cells [.int .i64 p.a,.int .i64 p.n,.int .i64 p.pg,.int .i64 p.sl,.isl (p.l.map rlA),.isl (p.X.map Ac9)])],1⟩) (fun (i:Nat)=>i≤p.X.length) (fun (i:Nat)=>p.X.length - i) (0) [] rfl (fun _=>by first|exact Nat.zero_le _|(dsimp only;omega)) ?_ (by ((try (conv=>whnf));exact V7)) ?_)
 ·exact Nat.zero_le _
 intro i hi
 by_cases hil:i < p.X.length
 ·have hn:¬ 60 < (nth dSA p.X i).l.length:=fun h2=>h ⟨_,AY3 (d:=dSA) hil,h2⟩
  generalize hx:nth dSA p.X i=x at *
  (refine wx_Sxn ?_;repeat' (first|with_reducible refine And.intro ?_ ?_|intro hsp))
  all_goals first|(exfalso;omega)|exact I7 (i+1) [] (by (try dsimp only);omega) (by first|omega|(dsimp only;omega)) rfl (by exact V7)
 ·clear h
  (refine wx_Sxn ?_;repeat' (first|with_reducible refine And.intro ?_ ?_|intro hsp))
  all_goals exact V4 (by first|exact (decide_eq_true (show ¬ p.ok from fun ⟨h1,h2,h3⟩=>by omega)).symm|exact (decide_eq_false (show ¬ ¬ p.ok from fun hn=>hn ⟨by omega,by omega,by omega⟩)).symm|exact decide_eq_decide.2 ⟨fun h4 ⟨h1,h2,h3⟩=>(by omega),fun hn=>Classical.byContradiction fun h4=>hn ⟨by omega,by omega,by omega⟩⟩)
theorem k_far (p:SPy) (hl:p.X.length≤maxLen):∃ b,J8 9 [.agg (AX1 p)] (.bool b)∧(b=false→p.ok∧∀ x ∈ p.X,x.l.length≤60):=by
 by_cases h:∃ x ∈ p.X,60 < x.l.length
 ·exact ⟨true,BS0 hl h,fun e=>by cases e⟩
 ·refine ⟨_,k_far_no hl h,fun e=>⟨?_,fun x hx=>Classical.byContradiction fun hn=>h ⟨x,hx,by omega⟩⟩⟩
  have:=of_decide_eq_false e
  exact Classical.not_not.1 this
structure LocA (x:SAc) (q:Sw) (t:WS) (e:Int) (q':Sw) (t':WS):Prop where
 out:AS6 Try.prog G0 13 [.ptr 4 0,.ptr 0 0,.agg (Ac9 x)] (stN q t 0 1 2 3 4) 5 fun y h1=>y = .int .i64 e∧h1=⟨stN q' t' 0 1 2 3 4,5⟩
theorem cx_A {x:SAc} {q q':Sw} {t t':WS} {v:Int} {o w d m s nx:Nat} {l:List (Nat × AObj)} {K:AV→Hp→Prop} (hc:LocA x q t v q' t')
  (g0:lk l o=some (.cells (stC s w d m q))) (g1:lk l w=some (.maps (encW pgE t.W))) (g2:lk l d=some (.maps (encW byE t.D))) (g3:lk l m=some (.maps (encW nuE t.H))) (g4:lk l s=some (.cells q.s.a))
  (hlt:o < nx∧w < nx∧d < nx∧m < nx∧s < nx) (hd:Ab4 [o,w,d,m,s]=true)
  (hk:AR8 [o,w,d,m,s] l fun l2=>K (.int .i64 v) ⟨([(o,.cells (stC s w d m q')),(w,.maps (encW pgE t'.W)),(d,.maps (encW byE t'.D)),(m,.maps (encW nuE t'.H)),(s,.cells q'.s.a)]:List (Nat × AObj))++l2,nx⟩):AE7 Try.prog G0 (.fn 13 [] []) [.ptr s 0,.ptr o 0,.agg (Ac9 x)] ⟨l,nx⟩ K:=by
 have e0:enter [o,w,d,m,s] o 0:=rfl
 have e1:enter [o,w,d,m,s] w 1:=rfl
 have e2:enter [o,w,d,m,s] d 2:=rfl
 have e3:enter [o,w,d,m,s] m 3:=rfl
 have e4:enter [o,w,d,m,s] s 4:=rfl
 have k0:back [o,w,d,m,s] nx 0 o:=rfl
 have k1:back [o,w,d,m,s] nx 1 w:=rfl
 have k2:back [o,w,d,m,s] nx 2 d:=rfl
 have k3:back [o,w,d,m,s] nx 3 m:=rfl
 have k4:back [o,w,d,m,s] nx 4 s:=rfl
 refine AK6 (l1:=stN q' t' o w d m s) [o,w,d,m,s] hc.out H9 hd
  (.cons e0 g0 (AK1 e4 e1 e2 e3) (.maps e1 g1 (C8 G8) (.maps e2 g2 (C8 H6) (.maps e3 g3 (C8 G9) (.cons e4 g4 (D7 F4) .nil)))))
  ?_ (by intro x hx;simp only [List.mem_cons,List.not_mem_nil,or_false] at hx;omega) (F3 A8)
  (.cons k0 (AK1 k4 k1 k2 k3) (.maps k1 (C8 G8) (.maps k2 (C8 H6) (.maps k3 (C8 G9) (.cons k4 (D7 F4) .nil))))) hk
 simp only [List.nil_append,List.append_nil]
 exact ⟨R9 e4,R9 e0,F3 (AX8 x),trivial⟩
section
variable {q:Sw} {t:WS}
theorem l_alone (hg:D8 q) (h:WOk q t) (x:SAc) (hw:0≤x.w):∃ t',WOk (q.al x).2 t'∧LocA x q t (q.al x).1 (q.al x).2 t':=by
 have h0:x.w.tmod 14=x.w % 14:=Int.tmod_eq_emod_of_nonneg hw
 have hm:((x.w.toNat % 14:Nat):Int)=x.w.tmod 14:=by rw [h0];omega
 unfold Sw.al Sw.call
 generalize x.w.toNat % 14=w at *
 have hw14:0≤x.w.tmod 14∧x.w.tmod 14 < 14:=by rw [h0];omega
 by_cases c1:w < 6
 ·rw [if_pos c1]
  obtain ⟨t',h2,hO⟩:=AW6 hg h x.t x.n x.v
  refine ⟨t',hO,⟨H7 F7 b13 rfl ?_⟩⟩
  unfold c13
  unfold stN stC Ac9
  generalize q.write x.t x.n x.v=r at *
  rcases (show x.w.tmod 14=0∨x.w.tmod 14=1∨x.w.tmod 14=2∨x.w.tmod 14=3∨x.w.tmod 14=4∨x.w.tmod 14=5 by omega) with hy|hy|hy|hy|hy|hy
  all_goals (refine wx_Sxn ?_;repeat' (first|with_reducible refine And.intro ?_ ?_|intro hsp))
  all_goals first|exact J4 (q:=r.2) (t:=t') rfl A8 rfl rfl rfl rfl rfl|(exfalso;omega)
 rw [if_neg c1]
 by_cases c2:w < 10
 ·rw [if_pos c2]
  obtain ⟨t',h2,hO⟩:=Al5 hg h x.t x.n
  refine ⟨t',hO,⟨H7 F7 b13 rfl ?_⟩⟩
  unfold c13
  unfold stN stC Ac9
  generalize q.read x.t x.n=r at *
  rcases (show x.w.tmod 14=6∨x.w.tmod 14=7∨x.w.tmod 14=8∨x.w.tmod 14=9 by omega) with hy|hy|hy|hy
  all_goals (refine wx_Sxn ?_;repeat' (first|with_reducible refine And.intro ?_ ?_|intro hsp))
  all_goals first|exact J4 (q:=r.2.2) (t:=t') rfl A8 rfl rfl rfl rfl rfl|(exfalso;omega)
 rw [if_neg c2]
 by_cases c3:w=10
 ·rw [if_pos c3]
  obtain ⟨t',h2,hO⟩:=w_Out hg h x.p
  refine ⟨t',hO,⟨H7 F7 b13 rfl ?_⟩⟩
  unfold c13
  unfold stN stC Ac9
  generalize q.out x.p=r at *
  rcases (show x.w.tmod 14=10 by omega) with hy
  all_goals (refine wx_Sxn ?_;repeat' (first|with_reducible refine And.intro ?_ ?_|intro hsp))
  all_goals first|exact J4 (q:=r.2) (t:=t') rfl A8 rfl rfl rfl rfl rfl|(exfalso;omega)
 rw [if_neg c3]
 by_cases c4:w=11
 ·rw [if_pos c4]
  obtain ⟨t',h2,hO⟩:=w_Free hg h x.p
  refine ⟨t',hO,⟨H7 F7 b13 rfl ?_⟩⟩
  unfold c13
  unfold stN stC Ac9
  generalize q.fre x.p=r at *
  rcases (show x.w.tmod 14=11 by omega) with hy
  all_goals (refine wx_Sxn ?_;repeat' (first|with_reducible refine And.intro ?_ ?_|intro hsp))
  all_goals first|exact J4 (q:=r.2) (t:=t') rfl A8 rfl rfl rfl rfl rfl|(exfalso;omega)
 rw [if_neg c4]
 by_cases c5:w=13
 ·rw [if_pos c5]
  have h2:=p_plan q.s x.l
  refine ⟨t,AP5 h _,⟨H7 F7 b13 rfl ?_⟩⟩
  unfold c13
  unfold stN stC Ac9
  generalize q.s.plan x.l=r at *
  rcases (show x.w.tmod 14=13 by omega) with hy
  all_goals (refine wx_Sxn ?_;repeat' (first|with_reducible refine And.intro ?_ ?_|intro hsp))
  all_goals first|exact J4 (q:={ q with s:=r.2 }) (t:=t) rfl A8 rfl rfl rfl rfl rfl|(exfalso;omega)
 rw [if_neg c5]
 refine ⟨t,h,⟨H7 F7 b13 rfl ?_⟩⟩
 unfold c13
 unfold stN stC Ac9
 have hy:x.w.tmod 14=12:=by omega
 (refine wx_Sxn ?_;repeat' (first|with_reducible refine And.intro ?_ ?_|intro hsp))
 all_goals first|exact J4 (q:=q) (t:=t) rfl A8 rfl rfl rfl rfl rfl|(exfalso;omega)
end
end Go.Proofs.Ytbhgfoikbkaohaa.Sh
namespace Go.Pol
open Go.Am Go.Proofs.Ytbhgfoikbkaohaa.Sh
section
variable {w:Sw}
theorem AA0 (h:D8 w) (t now v:Int):D8 (w.write t now v).2:=by
 by_cases he:(w.write t now v).1=0
 ·exact (Al1 h he).2.1
 ·unfold Sw.write at he ⊢
  by_cases hn:w.nums t now
  ·rw [if_neg (Classical.not_not.2 hn)] at he ⊢
   have hn2:=hn
   obtain ⟨n1,n2,n3,n4⟩:=hn2
   by_cases ht:(w.touch (t.toNat / 64) now).1=0
   ·rw [if_pos ht] at he
    have hg:=Q9 h (p:=t.toNat / 64) (now:=now) (by omega) ⟨n3,n4⟩
    rcases AD0 h (p:=t.toNat / 64) now with hy|hno
    ·exact absurd (Aj8 hg n1 hy.fr).1 he
    ·exact absurd ht hno.e
   ·rw [if_neg ht]
    exact Q9 h (by omega) ⟨n3,n4⟩
  ·rw [if_pos hn];exact h
theorem AC2 (h:D8 w) (t now:Int):D8 (w.read t now).2.2:=by
 unfold Sw.read
 by_cases hn:w.nums t now
 ·rw [if_neg (Classical.not_not.2 hn)]
  obtain ⟨n1,n2,n3,n4⟩:=hn
  have hg:=Q9 h (p:=t.toNat / 64) (now:=now) (by omega) ⟨n3,n4⟩
  split
  ·exact h
  ·split
   ·exact hg
   ·exact hg
 ·rw [if_pos hn];exact h
theorem Ap0 (h:D8 w) (p:Int):D8 (w.out p).2:=by
 by_cases he:(w.out p).1=0
 ·exact (BQ1 h he).1
 ·rw [out_no p he];exact h
theorem good_al (h:D8 w) (x:SAc):D8 (w.al x).2:=by
 unfold Sw.al Sw.call
 split
 ·exact AA0 h _ _ _
 ·split
  ·exact AC2 h _ _
  ·split
   ·exact Ap0 h _
   ·split
    ·exact BC1 h _
    ·split
     ·exact planW h _
     ·exact h
end
def ex0:Sw:=Sw.nw ((Sy.new []).chg 8 1 0 1 0).2 8 1 4 2
def ex1:Sw:=(ex0.write 0 1 5).2
def ex2:Sw:=(ex1.write 64 2 6).2
def ex3:Sw:=(ex2.read 0 3).2.2
def ex4:Sw:=(ex3.read 64 4).2.2
def ex5:Sw:=(ex4.read 128 5).2.2
def ex6:Sw:=(ex5.write 128 6 7).2
def ex7:Sw:=(ex6.write 192 7 8).2
def ex8:Sw:=(ex7.out 2).2
def ex9:Sw:=(ex8.fre 0).2
set_option maxRecDepth 100000 in
theorem ex_0:((Sy.new []).chg 8 1 0 1 0).1=0:=by decide +kernel
set_option maxRecDepth 100000 in
theorem ex_1:(ex0.write 0 1 5).1=0:=by decide +kernel
set_option maxRecDepth 100000 in
theorem ex_2:(ex1.write 64 2 6).1=0:=by decide +kernel
set_option maxRecDepth 100000 in
theorem ex_3:(ex2.read 0 3).1=5∧(ex2.read 0 3).2.1=0:=by decide +kernel
set_option maxRecDepth 100000 in
theorem ex_4:(ex3.read 64 4).1=6∧(ex3.read 64 4).2.1=0:=by decide +kernel
set_option maxRecDepth 100000 in
theorem ex_5:(ex4.read 128 5).1=0∧(ex4.read 128 5).2.1=0∧ex5.ins=2∧ex5.outs=3:=by decide +kernel
set_option maxRecDepth 100000 in
theorem ex_6:(ex5.write 128 6 7).1=0:=by decide +kernel
set_option maxRecDepth 100000 in
theorem ex_7:(ex6.write 192 7 8).1=5:=by decide +kernel
set_option maxRecDepth 100000 in
theorem ex_8:(ex7.out 2).1=5:=by decide +kernel
set_option maxRecDepth 100000 in
theorem ex_9:(ex8.fre 0).1=0:=by decide +kernel
set_option maxRecDepth 100000 in
theorem ex_10:(ex9.out 2).1=0:=by decide +kernel
end Go.Pol
namespace Go.Am
section
variable {P:Program} {G:Gl}
theorem AS6.weak {f k:Nat} {args args':List AV} {l0:List (Nat × AObj)} {K:AV→Hp→Prop} (hc:AS6 P G f args l0 k K) (hw:∀ (c:Cx) (vs:Array Value),l8 c args' vs→l8 c args vs):AS6 P G f args' l0 k K :=
 ⟨hc.1,fun c vs hR hG hm ha=>hc.2 c vs hR hG hm (hw c vs ha)⟩
theorem AS5.weak {f:Nat} {args args':List AV} {r:AV} (hc:AS5 P G f args r) (hw:∀ (c:Cx) (vs:Array Value),l8 c args' vs→l8 c args vs):AS5 P G f args' r :=
 fun at_ id=>⟨(hc at_ id).1,fun c vs hR hG hU hat ha=>(hc at_ id).2 c vs hR hG hU hat (hw c vs ha)⟩
def WkA (x y:AV):Prop:=∀ (c:Cx) (v:Value),RR c x v→RR c y v
def BE4:List AV→List AV→Prop
 | [],[]=>True
 | x::xs,y::ys=>WkA x y∧BE4 xs ys
 | _,_=>False
theorem BE4.len:∀ {xs ys:List AV},BE4 xs ys→xs.length=ys.length
 | [],[],_=>rfl
 | [],_::_,h=>h.elim
 | _::_,[],h=>h.elim
 | _::_,_::_,h=>by rw [List.length_cons,List.length_cons,BE4.len h.2]
theorem BE4.at:∀ {xs ys:List AV},BE4 xs ys→∀ {j:Nat} {y:AV},ys[j]? = some y→∃ x,xs[j]? = some x∧WkA x y
 | [],[],_,_,_,e=>by simp at e
 | [],_::_,h,_,_,_=>h.elim
 | _::_,[],h,_,_,_=>h.elim
 | x::_,y::_,h,0,z,e=>by cases e;exact ⟨x,rfl,h.1⟩
 | _::_,_::_,h,j+1,z,e=>BE4.at (j:=j) h.2 (by simpa using e)
theorem BE4.args {xs ys:List AV} (h:BE4 xs ys) (c:Cx) (vs:Array Value) (ha:l8 c xs vs):l8 c ys vs :=
 ⟨by rw [ha.1, h.len], fun j y hy => by
  obtain ⟨x,hx,hw⟩:=h.at hy
  obtain ⟨u,hu,hr⟩:=ha.2 j x hx
  exact ⟨u,hu,hw c u hr⟩⟩
theorem wkA_rfl {x:AV}:WkA x x:=fun _ _ h=>h
theorem wkA_nil:WkA .nils (.isl []):=fun c v h=>by
 obtain ⟨A,rfl⟩:=RR_nils.1 h
 exact X5.2 ⟨A,0,rfl,Nat.le_refl _,Nat.zero_le _,fun hne=>absurd rfl hne⟩
theorem wkA_agg {xs ys:List AV} (h:BE4 xs ys):WkA (.agg xs) (.agg ys):=fun c v hv=>by
 obtain ⟨vs,rfl,hs,hc⟩:=U4.1 hv
 refine U4.2 ⟨vs,rfl,by rw [hs,h.len],fun j y hy=>?_⟩
 obtain ⟨x,hx,hw⟩:=h.at hy
 obtain ⟨u,hu,hr,ho⟩:=hc j x hx
 exact ⟨u,hu,hw c u hr,ho⟩
end
end Go.Am
namespace Go.Pol
open Go.Am
end Go.Pol
namespace Go.Proofs.Ytbhgfoikbkaohaa
open Go Go.Am Go.Pol
theorem wk_pl:WkA (.agg [.nils]) (.agg [.isl (([]:List Rl).map rlA)]):=wkA_agg ⟨wkA_nil,trivial⟩
theorem BP4:Plain (.agg [.nils]):=N8 (P9 l9)
theorem AC7.weak {f:Nat} {avs avs' cs ds:List AV} {r:AV} (hc:AC7 f avs cs r ds) (hw:BE4 avs' avs) (hp:∀ x ∈ avs',Plain x):AC7 f avs' cs r ds :=
 AC7.mk (hc.out.weak (BE4.args (xs:=.ptr 0 0::avs') (ys:=.ptr 0 0::avs) ⟨wkA_rfl,hw⟩)) hc.pc hc.pd hp hc.pr
theorem LocN.weak {f:Nat} {avs avs' ds:List AV} {e:Int} (hc:LocN f avs e ds) (hw:BE4 avs' avs) (hp:∀ x ∈ avs',Plain x):LocN f avs' e ds :=
 LocN.mk (hc.out.weak (BE4.args hw)) hc.pd hp
theorem n_new:LocN 29 [.agg [.nils]] 0 (Sy.new []).a:=(p_new (l:=[]) (i:=(AC6 []).1) rfl).weak ⟨wk_pl,trivial⟩ (P9 BP4)
end Go.Proofs.Ytbhgfoikbkaohaa
namespace Go.Proofs.Ytbhgfoikbkaohaa.Sh
open Go Go.Am Go.Pol
theorem wx_Sxp {p q:Prop} (hq:q) (h:Z7 q→p:=by (intro hQz;((repeat' ((try (conv=>whnf));first|refine sxA ?_|refine sxF ?_|refine BU9 hn ?_|refine cx_WN h0 rfl (by decide) ?_|refine AM5 y1 rfl rfl rfl rfl rfl (by decide) rfl ?_|refine AM5 y2 rfl rfl rfl rfl rfl (by decide) rfl ?_|refine AM5 y3 rfl rfl rfl rfl rfl (by decide) rfl ?_|refine AM5 y4 rfl rfl rfl rfl rfl (by decide) rfl ?_|refine AM5 y5 rfl rfl rfl rfl rfl (by decide) rfl ?_|refine AM5 y6 rfl rfl rfl rfl rfl (by decide) rfl ?_|refine AM5 y7 rfl rfl rfl rfl rfl (by decide) rfl ?_|refine AM5 y8 rfl rfl rfl rfl rfl (by decide) rfl ?_|refine AM5 y9 rfl rfl rfl rfl rfl (by decide) rfl ?_|refine AM5 y10 rfl rfl rfl rfl rfl (by decide) rfl ?_|refine AM5 n5 rfl rfl rfl rfl rfl (by decide) rfl ?_|refine sxH ?_|((with_reducible first|apply V9 hQz|apply W9 hQz)<;>(try intro hsp hQz))|exact hQz.out))<;>(try (conv=>whnf))))):p:=h ⟨hq⟩
theorem k_shown:J8 10 [] (.bool true):=by
 have hn:=n_new
 have hc0:(AC6 []).2=0:=by decide
 have h0:LocWN 28 [.int .i64 8,.int .i64 1,.int .i64 4,.int .i64 2] (Sy.new []) ex0 T0:=w_New (Ai1 hc0) (a:=8) (n:=1) (pg:=4) (sl:=2) (by decide) ex_0
 have g0:D8 ex0:=(Ao0 (l:=[]) (a:=8) (n:=1) (pg:=4) (sl:=2) hc0 (by decide) (by decide) ex_0 ex0 rfl).1
 have k0:WOk ex0 T0:=BJ2
 obtain ⟨t1,y1,k1⟩:=AW6 g0 k0 0 1 5
 have g1:D8 ex1:=AA0 g0 0 1 5
 rw [ex_1,show (ex0.write 0 1 5).2=ex1 from rfl] at y1
 rw [show (ex0.write 0 1 5).2=ex1 from rfl] at k1
 obtain ⟨t2,y2,k2⟩:=AW6 g1 k1 64 2 6
 have g2:D8 ex2:=AA0 g1 64 2 6
 rw [ex_2,show (ex1.write 64 2 6).2=ex2 from rfl] at y2
 rw [show (ex1.write 64 2 6).2=ex2 from rfl] at k2
 obtain ⟨t3,y3,k3⟩:=Al5 g2 k2 0 3
 have g3:D8 ex3:=AC2 g2 0 3
 rw [ex_3.1,ex_3.2,show (ex2.read 0 3).2.2=ex3 from rfl] at y3
 rw [show (ex2.read 0 3).2.2=ex3 from rfl] at k3
 obtain ⟨t4,y4,k4⟩:=Al5 g3 k3 64 4
 have g4:D8 ex4:=AC2 g3 64 4
 rw [ex_4.1,ex_4.2,show (ex3.read 64 4).2.2=ex4 from rfl] at y4
 rw [show (ex3.read 64 4).2.2=ex4 from rfl] at k4
 obtain ⟨t5,y5,k5⟩:=Al5 g4 k4 128 5
 have g5:D8 ex5:=AC2 g4 128 5
 rw [ex_5.1,ex_5.2.1,show (ex4.read 128 5).2.2=ex5 from rfl] at y5
 rw [show (ex4.read 128 5).2.2=ex5 from rfl] at k5
 have n5:=w_Save g5 k5
 unfold Sw.save stA25 at n5
 rw [ex_5.2.2.1,ex_5.2.2.2] at n5
 obtain ⟨t6,y6,k6⟩:=AW6 g5 k5 128 6 7
 have g6:D8 ex6:=AA0 g5 128 6 7
 rw [ex_6,show (ex5.write 128 6 7).2=ex6 from rfl] at y6
 rw [show (ex5.write 128 6 7).2=ex6 from rfl] at k6
 obtain ⟨t7,y7,k7⟩:=AW6 g6 k6 192 7 8
 have g7:D8 ex7:=AA0 g6 192 7 8
 rw [ex_7,show (ex6.write 192 7 8).2=ex7 from rfl] at y7
 rw [show (ex6.write 192 7 8).2=ex7 from rfl] at k7
 obtain ⟨t8,y8,k8⟩:=w_Out g7 k7 2
 have g8:D8 ex8:=Ap0 g7 2
 rw [ex_8,show (ex7.out 2).2=ex8 from rfl] at y8
 rw [show (ex7.out 2).2=ex8 from rfl] at k8
 obtain ⟨t9,y9,k9⟩:=w_Free g8 k8 0
 have g9:D8 ex9:=BC1 g8 0
 rw [ex_9,show (ex8.fre 0).2=ex9 from rfl] at y9
 rw [show (ex8.fre 0).2=ex9 from rfl] at k9
 obtain ⟨t10,y10,k10⟩:=w_Out g9 k9 2
 rw [ex_10] at y10
 clear g0 g1 g2 g3 g4 g5 g6 g7 g8 g9 k0 k1 k2 k3 k4 k5 k6 k7 k8 k9 k10 hc0
 generalize (ex9.out 2).2=q10 at *
 generalize T0=t0 at *
 generalize Sy.new []=s0 at *
 generalize ex0=q0 at *
 generalize ex1=q1 at *
 generalize ex2=q2 at *
 generalize ex3=q3 at *
 generalize ex4=q4 at *
 generalize ex5=q5 at *
 generalize ex6=q6 at *
 generalize ex7=q7 at *
 generalize ex8=q8 at *
 generalize ex9=q9 at *
 refine J8.mk (R8 F7 b10 H9 trivial D9 rfl ?_)
 unfold c10
 (refine wx_Sxp ?_;repeat' (first|with_reducible refine And.intro ?_ ?_|intro hsp))
 all_goals first|exact V4 rfl|(exfalso;omega)|(exfalso;simp at hsp;done)|(exfalso;simp_all;done)
end Go.Proofs.Ytbhgfoikbkaohaa.Sh
namespace Go.Pol
open Go.Am Go.Proofs.Ytbhgfoikbkaohaa.Sh
@[irreducible] def hasB (f:Nat→Int):List AV:=memA 16384 fun p=>.int .u8 (f p)
theorem hasB_len {f:Nat→Int}:(hasB f).length=16384:=by unfold hasB;exact V3 ..
theorem hasB_get {f:Nat→Int} {p:Nat} (h:p < 16384):(hasB f)[p]? = some (.int .u8 (f p)):=by unfold hasB;exact R3 h
theorem BH5 {f:Nat→Int}:∀ x ∈ hasB f,Plain x:=by unfold hasB;exact AC0 fun _ _=>A8
theorem Ae2 {f g:Nat→Int} (h:∀ p,p < 16384→f p=g p):hasB f=hasB g:=by unfold hasB;exact U1 fun p hp=>by rw [h p hp]
theorem BB8 {f:Nat→Int} {p:Nat} {v:Int}:(hasB f).set p (.int .u8 v)=hasB fun j=>if j=p then v else f j:=by
 unfold hasB
 rw [AV0]
 exact U1 fun j _=>by dsimp only;split<;>rfl
theorem BS6:(List.replicate 16384 [AV.int .u8 0]).flatten=hasB fun _=>0:=by
 have e:∀ n,(List.replicate n [AV.int .u8 0]).flatten=List.replicate n (AV.int .u8 0):=fun n=>by
  induction n with
  | zero=>rfl
  | succ n ih=>rw [List.replicate_succ,List.flatten_cons,ih,List.replicate_succ];rfl
 rw [e]
 unfold hasB
 refine List.ext_getElem? fun i=>?_
 by_cases h:i < 16384
 ·rw [List.getElem?_replicate,if_pos h,R3 h]
 ·rw [List.getElem?_eq_none (by rw [List.length_replicate];omega),List.getElem?_eq_none (by rw [V3];omega)]
structure SBy (q:Sw) (t:WS) (H:Nat→Int):Prop where
 good:D8 q
 ok:WOk q t
 hs:∀ p j,p < 256→j < 64→H (p * 64+j)=q.hs p j
section
variable {q:Sw} {t t':WS} {H:Nat→Int}
def zerF (H:Nat→Int) (p k:Nat):Nat→Int:=fun j=>if p * 64≤j∧j < p * 64+k then 0 else H j
theorem zer_0 {p:Nat}:hasB (zerF H p 0)=hasB H:=Ae2 fun j _=>if_neg (by omega)
theorem zer_s {p k:Nat}:(hasB (zerF H p k)).set (p * 64+k) (.int .u8 0)=hasB (zerF H p (k+1)):=by
 rw [BB8]
 refine Ae2 fun j _=>?_
 unfold zerF
 by_cases e:j=p * 64+k
 ·rw [if_pos e,if_pos (by omega)]
 ·rw [if_neg e]
  by_cases h:p * 64≤j∧j < p * 64+k
  ·rw [if_pos h,if_pos (by omega)]
  ·rw [if_neg h,if_neg (by omega)]
theorem Az3 {s':Sy} (h:SBy q t H) (hg:D8 { q with s:=s' }) (hB:s'.B=q.s.B) (ho:WOk { q with s:=s' } t'):SBy { q with s:=s' } t' H:=⟨hg,ho,fun p j hp hj=>by
 rw [h.hs p j hp hj]
 unfold Sw.hs
 dsimp only
 rw [hB]⟩
theorem sby_no (h:SBy q t H) (x:SAc) (he:(q.al x).1 ≠ 0) (ho:WOk (q.al x).2 t'):SBy (q.al x).2 t' H:=by
 obtain ⟨s',e,_,_,hB,_⟩:=callW_no h.good _ _ _ _ _ _ he
 have hg:=good_al h.good x
 have e':(q.al x).2={ q with s:=s' }:=e
 rw [e'] at hg ho ⊢
 exact Az3 h hg hB ho
theorem sby_rd (h:SBy q t H) (a n:Int) (ho:WOk (q.read a n).2.2 t'):SBy (q.read a n).2.2 t' H:=by
 have hg:=AC2 h.good a n
 by_cases he:(q.read a n).2.1=0
 ·exact ⟨hg,ho,fun p j hp hj=>by rw [h.hs p j hp hj,(AX5 h.good he).2.2.2 p j hj]⟩
 ·obtain ⟨s',e,_,_,hB,_⟩:=BA1 h.good he
  rw [e] at hg ho ⊢
  exact Az3 h hg hB ho
theorem sby_put (h:SBy q t H) (x:SAc) (hw:x.w.toNat % 14 < 6) (he:(q.al x).1=0) (ho:WOk (q.al x).2 t'):0≤x.t∧x.t < 16384∧SBy (q.al x).2 t' fun j=>if j=x.t.toNat then x.v else H j:=by
 obtain ⟨hg,h1,h2,h3⟩:=Aa6 h.good _ _ _ _ _ _ he
 have hr:=h.good.rng
 obtain ⟨n1,n2,_,_⟩:=h1 hw
 refine ⟨n1,by omega,hg,ho,fun p j hp hj=>?_⟩
 have h4:=h3 p j hj
 rw [show (q.al x).2.hs p j=_ from h4]
 by_cases e:p=x.t.toNat / 64∧j=x.t.toNat % 64
 ·rw [if_pos (by omega),if_pos ⟨hw,e.1,e.2⟩]
 ·rw [if_neg (by omega),if_neg (fun h5=>e h5.2),if_neg (by omega)]
  exact h.hs p j hp hj
theorem sby_fre (h:SBy q t H) (x:SAc) (hw:x.w.toNat % 14=11) (he:(q.al x).1=0) (ho:WOk (q.al x).2 t'):0≤x.p∧x.p < 256∧SBy (q.al x).2 t' (zerF H x.p.toNat 64):=by
 obtain ⟨hg,h1,h2,h3⟩:=Aa6 h.good _ _ _ _ _ _ he
 have hr:=h.good.rng
 obtain ⟨n1,n2⟩:=h2 hw
 refine ⟨n1,by omega,hg,ho,fun p j hp hj=>?_⟩
 have h4:=h3 p j hj
 rw [show (q.al x).2.hs p j=_ from h4,if_neg (by omega)]
 unfold zerF
 by_cases e:p=x.p.toNat
 ·rw [if_pos (by omega),if_pos ⟨hw,e⟩]
 ·rw [if_neg (by omega),if_neg (fun h5=>e h5.2)]
  exact h.hs p j hp hj
theorem sby_oth (h:SBy q t H) (x:SAc) (hw:¬ x.w.toNat % 14 < 6) (hw2:x.w.toNat % 14 ≠ 11) (he:(q.al x).1=0) (ho:WOk (q.al x).2 t'):SBy (q.al x).2 t' H:=by
 obtain ⟨hg,h1,h2,h3⟩:=Aa6 h.good _ _ _ _ _ _ he
 refine ⟨hg,ho,fun p j hp hj=>?_⟩
 have h4:=h3 p j hj
 rw [show (q.al x).2.hs p j=_ from h4,if_neg (fun h5=>hw h5.1),if_neg (fun h5=>hw2 h5.1)]
 exact h.hs p j hp hj
theorem sby_get (h:SBy q t H) {a n:Int} (he:(q.read a n).2.1=0):0≤a∧a < 16384∧(q.read a n).1=H a.toNat:=by
 obtain ⟨⟨n1,n2,_,_⟩,_,h3,_⟩:=AX5 h.good he
 have hr:=h.good.rng
 refine ⟨n1,by omega,?_⟩
 rw [h3,← h.hs _ _ (by omega) (Nat.mod_lt _ (by decide)),show a.toNat / 64 * 64+a.toNat % 64=a.toNat by omega]
theorem sby_new {p:SPy} (hc:(AC6 p.l).2=0) (hst:U7 p.a p.n p.pg p.sl) (he:((Sy.new p.l).chg p.a p.n 0 1 0).1=0):SBy p.b T0 fun _=>0:=by
 obtain ⟨n1,n2,n3,n4,n5,n6,n7,n8⟩:=hst
 obtain ⟨hg,_,h3,_⟩:=Ao0 (l:=p.l) (a:=p.a) (n:=p.n) (pg:=p.pg.toNat) (sl:=p.sl.toNat) hc ⟨n1,n3,by omega⟩ ⟨by omega,by omega,by omega⟩ he p.b rfl
 exact ⟨hg,BJ2,fun p j _ _=>(h3 p j).symm⟩
end
end Go.Pol
namespace Go.Proofs.Ytbhgfoikbkaohaa.Sh
open Go Go.Am Go.Pol
theorem plx_Sya {p:Prop} (h:p:=by ((first|exact plw|(with_reducible first|apply U0|apply G8 _|apply H6 _|apply G9 _|apply AD4|apply P8|apply O6|apply O4|apply AX8 _|apply w9 _|apply AQ6|apply l9|fail)|fail);first|done|fail)):p:=h
theorem ppx_Sya {p:Prop} (h:p:=by ((first|with_reducible assumption|(with_reducible first|apply F4|apply Aa8|apply AX6|apply AJ5|apply AY6|apply AN3 _|apply AF4 _|apply BH5|apply hpp|fail)|exact ppw|fail);first|done|fail)):p:=h
open Go.Proofs.Ytbhgfoikbkaohaa.Sh renaming plx_Sya → plx
open Go.Proofs.Ytbhgfoikbkaohaa.Sh renaming ppx_Sya → ppx
theorem wx_Sya {p q:Prop} (hq:q) (h:Z7 q→p:=by (intro hQz;((repeat' ((try (conv=>whnf));first|(with_reducible first|refine K6 ?_|refine I5 ?_|refine L6 ?_|refine L9 ?_|refine J2 ?_|refine P6 ?_|refine K4 ?_|refine P5 rfl ?_|refine K5 ?_|refine G5 ?_|refine I8 ?_|refine I9 ?_|refine L8 ?_|refine F9 ?_|refine I6 (by decide +kernel) ?_|refine H8 (by decide +kernel) ?_|refine AE4 ?_|refine AE5 ?_|refine Aq9 ?_|refine Z0 ?_|refine AH8 ?_|refine Ak0 (by assumption) ?_|refine Ak1 (by assumption) ?_|refine Y9 (by omega) ?_|refine AH6 ?_)|((with_reducible refine AH9 ?_ ?_);focus omega)|((with_reducible refine AI0 ?_ ?_);focus omega)|((with_reducible apply V9 hQz)<;>(try intro hsp hQz))|((with_reducible refine Aq6 ?_ ?_);focus (first|omega|rfl|assumption|decide|(simp only [List.length_map,List.length_cons,List.length_nil];omega)|exact hmk))|refine AC4 (hmk) ?_|(with_reducible first|refine AH1 ?_|refine Y8 ?_|refine Y7 ?_|refine AH3 ?_|refine AH2 ?_|refine AG9 ?_|refine Ap6 ?_|refine G6 ?_|refine Y5 ?_|refine K8 ?_|refine K7 ?_|refine G7 ?_|refine AH0 (by omega) ?_|refine Y6 (by omega) ?_)|refine AM1 (d:=dSA) Az4 (by first|assumption|omega) (by with_reducible assumption) ?_|refine AC4 (by with_reducible assumption) ?_|refine J5 hgt ?_|refine j5 (by rw [hasB_len];omega) hst ?_|refine sxF ?_|refine M7 hf ?_|refine M7 hsh ?_|refine M7 hb ?_|refine cx_BE hb ?_|refine cx_WB hb ?_|refine AM5 hT rfl rfl rfl rfl rfl (by decide) rfl ?_|refine cx_A hA rfl rfl rfl rfl rfl (by decide) rfl ?_|refine sxH ?_|((with_reducible apply W9 hQz)<;>(try intro hsp hQz))|exact hQz.out))<;>(try (conv=>whnf))))):p:=h ⟨hq⟩
set_option maxRecDepth 20000 in
theorem k_bytes (p:SPy) (hl:p.X.length≤maxLen) (hwf:∀ x ∈ p.X,0≤x.w):J8 3 [.agg (AX1 p)] (.bool true):=by
 have hl:p.X.length≤9223372036854775807:=hl
 obtain ⟨b,hf,hfb⟩:=k_far p hl
 have hsh:=k_shown
 have hmk:=BS6
 have hpp:=AF4 p
 refine J8.mk (R8 F7 b3 H9 ⟨w9 p,trivial⟩ D9 rfl ?_)
 unfold c3
 have hbg:=l_begun p
 cases b with
 | true =>
  unfold AX1 at *
  (refine wx_Sya ?_;repeat' (first|with_reducible refine And.intro ?_ ?_|intro hsp))
  all_goals exact V4 rfl
 | false =>
 obtain ⟨hok,hrl⟩:=hfb rfl
 clear hfb
 rcases hbg with ⟨e,he,-,hb⟩ | ⟨e,ds,he,hb⟩ | ⟨hc,hst,he,hb⟩
 ·unfold AX1 at *
  (refine wx_Sya ?_;repeat' (first|with_reducible refine And.intro ?_ ?_|intro hsp))
  all_goals first|exact V4 rfl|(exfalso;omega)
 ·unfold AX1 at *
  (refine wx_Sya ?_;repeat' (first|with_reducible refine And.intro ?_ ?_|intro hsp))
  all_goals first|exact V4 rfl|(exfalso;omega)
 have h0:=sby_new hc hst he
 clear hc hst he
 generalize p.b=b0 at *
 generalize T0=t0 at *
 unfold AX1 at *
 (refine wx_Sya ?_;repeat' (first|with_reducible refine And.intro ?_ ?_|intro hsp))
 (refine U2 [1,3,4,6] (fun (q:Nat × Sw × WS × (Nat→Int))=>[(7,.int .i64 (q.1:Nat))]) (fun (q:Nat × Sw × WS × (Nat→Int))=>⟨[(0,.cells [.int .i64 p.a,.int .i64 p.n,.int .i64 p.pg,.int .i64 p.sl,.isl (p.l.map rlA),.isl (p.X.map Ac9)])]++stN q.2.1 q.2.2.1 1 2 3 4 5++[(6,.cells (hasB q.2.2.2))],7⟩) (fun (q:Nat × Sw × WS × (Nat→Int))=>q.1≤p.X.length∧SBy q.2.1 q.2.2.1 q.2.2.2) (fun (q:Nat × Sw × WS × (Nat→Int))=>p.X.length - q.1) ((0,b0,t0,fun _=>0)) [] rfl (fun _=>by first|exact Nat.zero_le _|(dsimp only;omega)) ?_ (by ((try (conv=>whnf));exact V7)) ?_)
 ·exact ⟨Nat.zero_le _,h0⟩
 rintro ⟨i,q,t,H⟩ ⟨hi,hG⟩
 dsimp only at hi hG ⊢
 clear h0 hb
 by_cases hil:i < p.X.length
 ·have hw0:=hwf _ (AY3 (d:=dSA) hil)
  generalize hx:nth dSA p.X i=x at *
  have e0:x.w.tmod 14=x.w % 14:=Int.tmod_eq_emod_of_nonneg hw0
  have hm:((x.w.toNat % 14:Nat):Int)=x.w.tmod 14:=by rw [e0];omega
  obtain ⟨w,hwe⟩:∃ w,w=x.w.toNat % 14:=⟨_,rfl⟩
  rw [← hwe] at hm
  have hwl:w < 14:=by rw [hwe];exact Nat.mod_lt _ (by decide)
  have hm':=hm.symm
  by_cases hrd:5 < w∧w < 10
  ·obtain ⟨t',hT,hO⟩:=Al5 hG.good hG.ok x.t x.n
   have hG':=sby_rd hG x.t x.n hO
   by_cases he:(q.read x.t x.n).2.1=0
   ·obtain ⟨a1,a2,a3⟩:=sby_get hG he
    rw [he,a3] at hT
    obtain ⟨a,ha⟩:=Int.eq_ofNat_of_zero_le a1
    rw [ha] at a2
    have hgt:=hasB_get (f:=H) (p:=a) (by omega)
    rw [show x.t.toNat=a by omega] at hT
    generalize (q.read x.t x.n).2.2=q' at *
    clear hwe hwf he a3
    unfold stN stC
    obtain ⟨xw,xp,xt,xn,xv,xl⟩:=x
    dsimp only at *
    subst ha
    (refine wx_Sya ?_;repeat' (first|with_reducible refine And.intro ?_ ?_|intro hsp))
    all_goals first|(exfalso;omega)|(exfalso;dsimp only at hsp;omega)|(exfalso;simp at hsp;done)|exact I7 ((i+1,q',t',H)) [] ⟨hil,hG'⟩ (by first|omega|(dsimp only;omega)) rfl (by exact V7)
   ·generalize q.read x.t x.n=r at *
    clear hwe hwf
    unfold stN stC
    (refine wx_Sya ?_;repeat' (first|with_reducible refine And.intro ?_ ?_|intro hsp))
    all_goals first|(exfalso;omega)|(exfalso;dsimp only at hsp;omega)|exact I7 ((i+1,r.2.2,t',H)) [] ⟨hil,hG'⟩ (by first|omega|(dsimp only;omega)) rfl (by exact V7)
  ·obtain ⟨t',hO,hA⟩:=l_alone hG.good hG.ok x hw0
   by_cases he:(q.al x).1=0
   ·by_cases c1:w < 6
    ·obtain ⟨a1,a2,hG'⟩:=sby_put hG x (by omega) he hO
     rw [he] at hA
     obtain ⟨a,ha⟩:=Int.eq_ofNat_of_zero_le a1
     rw [show x.t.toNat=a by omega] at hG'
     rw [ha] at a2
     have hst:=BB8 (f:=H) (p:=a) (v:=x.v)
     generalize (q.al x).2=q' at *
     clear hwe hwf he
     unfold stN stC
     obtain ⟨xw,xp,xt,xn,xv,xl⟩:=x
     dsimp only at *
     subst ha
     (refine wx_Sya ?_;repeat' (first|with_reducible refine And.intro ?_ ?_|intro hsp))
     all_goals first|(exfalso;omega)|(exfalso;dsimp only at hsp;omega)|exact I7 ((i+1,q',t',fun j=>if j=a then xv else H j)) [] ⟨hil,hG'⟩ (by first|omega|(dsimp only;omega)) rfl (by exact V7)
    ·by_cases c2:w=11
     ·obtain ⟨a1,a2,hG'⟩:=sby_fre hG x (by omega) he hO
      rw [he] at hA
      obtain ⟨a,ha⟩:=Int.eq_ofNat_of_zero_le a1
      rw [show x.p.toNat=a by omega] at hG'
      rw [ha] at a2
      have hz0:=zer_0 (H:=H) (p:=a)
      generalize (q.al x).2=q' at *
      clear hwe hwf he
      obtain ⟨xw,xp,xt,xn,xv,xl⟩:=x
      dsimp only at *
      subst ha
      unfold stN stC
      (refine wx_Sya ?_;repeat' (first|with_reducible refine And.intro ?_ ?_|intro hsp))
      all_goals first|(exfalso;omega)|(exfalso;dsimp only at hsp;omega)|skip
      (refine U2 [1,3,4,6,7,8] (fun (k:Nat)=>[(12,.int .i64 (k:Nat))]) (fun (k:Nat)=>⟨[(0,.cells [.int .i64 p.a,.int .i64 p.n,.int .i64 p.pg,.int .i64 p.sl,.isl (p.l.map rlA),.isl (p.X.map Ac9)])]++stN q' t' 1 2 3 4 5++[(6,.cells (hasB (zerF H a k))),(7,.cells [.int .u8 xw,.int .i64 (a:Nat),.int .i64 xt,.int .i64 xn,.int .u8 xv,.isl (xl.map rlA)])],8⟩) (fun (k:Nat)=>k≤64) (fun (k:Nat)=>64 - k) (0) [] rfl (fun _=>by first|exact Nat.zero_le _|(dsimp only;omega)) ?_ (by ((try (conv=>whnf));(rw [hz0]);exact V7)) ?_)
      ·exact Nat.zero_le _
      intro k hk
      by_cases hkl:k < 64
      ·have hst:=zer_s (H:=H) (p:=a) (k:=k)
       unfold stN stC
       (refine wx_Sya ?_;repeat' (first|with_reducible refine And.intro ?_ ?_|intro hsp))
       all_goals first|(exfalso;omega)|(exfalso;dsimp only at hsp;omega)|exact I7 (k+1) [] (by (try dsimp only);omega) (by first|omega|(dsimp only;omega)) rfl (by exact V7)
      ·obtain rfl:k=64:=by omega
       unfold stN stC
       (refine wx_Sya ?_;repeat' (first|with_reducible refine And.intro ?_ ?_|intro hsp))
       all_goals first|(exfalso;omega)|(exfalso;dsimp only at hsp;omega)|exact I7 ((i+1,q',t',zerF H a 64)) [] ⟨hil,hG'⟩ (by first|omega|(dsimp only;omega)) rfl (by exact V7)
     ·have hG':=sby_oth hG x (by omega) (by omega) he hO
      rw [he] at hA
      generalize (q.al x).2=q' at *
      clear hwe hwf he
      unfold stN stC
      (refine wx_Sya ?_;repeat' (first|with_reducible refine And.intro ?_ ?_|intro hsp))
      all_goals first|(exfalso;omega)|(exfalso;dsimp only at hsp;omega)|(exfalso;simp at hsp;done)|exact I7 ((i+1,q',t',H)) [] ⟨hil,hG'⟩ (by first|omega|(dsimp only;omega)) rfl (by exact V7)
   ·have hG':=sby_no hG x he hO
    generalize q.al x=r at *
    clear hwe hwf
    unfold stN stC
    (refine wx_Sya ?_;repeat' (first|with_reducible refine And.intro ?_ ?_|intro hsp))
    all_goals first|(exfalso;omega)|(exfalso;dsimp only at hsp;omega)|exact I7 ((i+1,r.2,t',H)) [] ⟨hil,hG'⟩ (by first|omega|(dsimp only;omega)) rfl (by exact V7)
 ·unfold stN stC
  (refine wx_Sya ?_;repeat' (first|with_reducible refine And.intro ?_ ?_|intro hsp))
  all_goals first|(exfalso;omega)|(exfalso;dsimp only at hsp;omega)|exact V4 rfl
end Go.Proofs.Ytbhgfoikbkaohaa.Sh
namespace Go.Am
open Go.ChangeShapes Go.WideShapes Go.ChangeAt Go.RowKit
inductive Ty where
 | bool|int (k:IntKind)|str|slice (e:Ty)|nil|cons (a b:Ty)|struct (T:Ty)|arr (k:IntKind) (n:Nat)
def Ty.size:Ty→Nat
 | .bool=>1
 | .int _=>1
 | .str=>1
 | .slice _=>1
 | .nil=>0
 | .cons a b=>a.size+b.size
 | .struct T=>T.size
 | .arr _ n=>n
def Ab6 (P:Program):Ty→(TypeId→Bool) × (Nat→List Field→Bool)
 | .bool=>(fun t=>match P.underlying t with|some .bool=>true|_=>false,fun _ _=>false)
 | .int k=>(fun t=>match P.underlying t with|some (.int k')=>decide (k=k')|_=>false,fun _ _=>false)
 | .str=>(fun t=>match P.underlying t with|some .string=>true|_=>false,fun _ _=>false)
 | .slice e=>(fun t=>match P.underlying t with|some (.slice e')=>(Ab6 P e).1 e' && decide (P.cellsOf e'=e.size) && decide (0 < e.size)|_=>false,fun _ _=>false)
 | .nil=>(fun _=>false,fun _ fs=>match fs with | []=>true|_::_=>false)
 | .cons a b=>(fun _=>false,fun off fs=>match fs with | []=>false|f::r=>decide (f.offset=off) && decide (P.cellsOf f.type=a.size) && (Ab6 P a).1 f.type && (Ab6 P b).2 (off+a.size) r)
 | .struct T=>(fun t=>match P.underlying t with|some (.struct fs)=>decide (P.cellsOf t=T.size) && (Ab6 P T).2 0 fs.toList|_=>false,fun _ _=>false)
 | .arr k n=>(fun t=>match P.underlying t with|some (.array n' e)=>decide (n'=n) && decide (P.cellsOf t=n) && decide (P.cellsOf e=1) && (match P.underlying e with|some (.int k')=>decide (k=k')|_=>false)|_=>false,fun _ _=>false)
def Shp:Ty→List AV→Prop
 | .bool,xs=>∃ b,xs=[.bool b]
 | .int k,xs=>∃ n,xs=[.int k n]∧(Lit.int k n).wf=true
 | .str,xs=>∃ s,xs=[.str s]∧s.size≤maxLen
 | .slice e,xs=>∃ els:List (List AV),xs=[.isl els]∧els.length≤maxLen∧∀ el ∈ els,Shp e el
 | .nil,xs=>xs=[]
 | .cons a b,xs=>∃ ys zs,xs=ys++zs∧Shp a ys∧Shp b zs
 | .struct T,xs=>Shp T xs
 | .arr k n,xs=>∃ l:List Int,xs=l.map (AV.int k)∧l.length=n∧∀ x ∈ l,(Lit.int k x).wf=true
theorem AM2 {α:Type} {p:Nat→α→Prop}:∀ n:Nat,(∀ i,i < n→∃ x,p i x)→∃ l:List α,l.length=n∧∀ i x,l[i]? = some x→p i x
 | 0,_=>⟨[],rfl,fun i x h=>by simp at h⟩
 | n+1,h=>by
  obtain ⟨l,hl,hp⟩:=AM2 n fun i hi=>h i (by omega)
  obtain ⟨x,hx⟩:=h n (by omega)
  refine ⟨l++[x],by simp [hl],fun i y hy=>?_⟩
  rcases Nat.lt_trichotomy i n with hi|rfl|hi
  ·rw [List.getElem?_append_left (by omega)] at hy;exact hp i y hy
  ·rw [List.getElem?_append_right (by omega),hl,Nat.sub_self] at hy;cases hy;exact hx
  ·rw [List.getElem?_eq_none (by simp [hl];omega)] at hy;cases hy
theorem BQ2 {k:IntKind} {n:Int}:One (.int k n):=⟨fun _ e=>(by cases e),fun _ e=>(by cases e)⟩
theorem one_bool {b:Bool}:One (.bool b):=⟨fun _ e=>(by cases e),fun _ e=>(by cases e)⟩
theorem one_str {b:ByteArray}:One (.string b):=⟨fun _ e=>(by cases e),fun _ e=>(by cases e)⟩
theorem AY1 {A:Option Addr} {n m:Nat}:One (.slice A n m):=⟨fun _ e=>(by cases e),fun _ e=>(by cases e)⟩
theorem AQ3 {c:Cx} {x:AV} {v:Value} {look:Nat→Option Value} (h:RR c x v) (ho:One v) (hl:look 0=some v):RC1 (RR c) [x] look:=fun j y hy=>by
 cases j with
 | zero=>cases hy;exact ⟨v,hl,h,ho⟩
 | succ j=>cases hy
theorem rc1_app {c:Cx} {xs ys:List AV} {look:Nat→Option Value} (h:RC1 (RR c) xs look) (h':RC1 (RR c) ys fun j=>look (xs.length+j)):RC1 (RR c) (xs++ys) look:=fun j y hy=>by
 by_cases hj:j < xs.length
 ·rw [List.getElem?_append_left hj] at hy;exact h j y hy
 ·rw [List.getElem?_append_right (by omega)] at hy
  obtain ⟨u,hu,hr⟩:=h' _ _ hy
  exact ⟨u,by rw [← hu];congr 1;omega,hr⟩
section
variable {P:Program} {H:Type} {enc:TypeId × Value→H} {spare:Nat→Bool} {held:Bool} {W:World}
def Rd1 (P:Program) (enc:TypeId × Value→H) (spare:Nat→Bool) (held:Bool) (W:World) (T:Ty):Prop:=∀ t,(Ab6 P T).1 t=true→∀ (fuel:Nat) (cs:List Value) (x:DataW H × List MemPlace),DataW.trod enc P W 0 spare held fuel t cs=some x →
  ∃ xs,Shp T xs∧xs.length=T.size∧cs.length=xs.length∧RC1 (RR (AA1 W)) xs fun j=>cs[j]?
def Rd2 (P:Program) (enc:TypeId × Value→H) (spare:Nat→Bool) (held:Bool) (W:World) (T:Ty):Prop:=∀ (off:Nat) (fs:List Field),(Ab6 P T).2 off fs=true→∀ (n:Nat) (cs:List Value),
  (∀ (i:Nat) (f:Field),fs[i]? = some f→∃ x,DataW.trod enc P W 0 spare held n f.type ((cs.drop f.offset).take (P.cellsOf f.type))=some x) →
  ∃ xs,Shp T xs∧xs.length=T.size∧RC1 (RR (AA1 W)) xs fun j=>cs[off+j]?
theorem BG2 {e:Ty} (ih:Rd1 P enc spare held W e):Rd1 P enc spare held W (.slice e):=fun t ht fuel cs x hx=>by
 simp only [Ab6] at ht
 split at ht
 case h_2=>cases ht
 case h_1 e' he' =>
 simp only [Bool.and_eq_true,decide_eq_true_eq] at ht
 obtain ⟨⟨h1,h2⟩,h3⟩:=ht
 rcases DataW.trod_slice he' hx with ⟨rfl,-⟩ | ⟨a,len,cap,elems,rest,n,-,rfl,-,-,hlc,hcm,hel,hE,-,-⟩
 ·refine ⟨[.isl []],⟨[],rfl,Nat.zero_le _,fun el h=>(by cases h)⟩,rfl,rfl,AQ3 (X5.2 ⟨none,0,rfl,Nat.le_refl _,Nat.zero_le _,fun h=>absurd rfl h⟩) AY1 rfl⟩
 ·rw [h2] at hE
  have hget:∀ i,i < len→∃ ds y,W.cells? 0 (a.add (i * e.size)) e.size=some ds∧DataW.trod enc P W 0 spare held n e' ds=some y:=fun i hi=>by
   have hEi:=hE i hi
   obtain ⟨y,hy⟩:∃ y,elems[i]? = some y:=⟨elems[i]'(by omega),List.getElem?_eq_getElem _⟩
   rw [hy] at hEi
   obtain ⟨ds,hds,hd⟩:=Option.bind_eq_some_iff.1 hEi
   exact ⟨ds,y,hds,hd⟩
  rcases Nat.eq_zero_or_pos len with rfl|hpos
  ·exact ⟨[.isl []],⟨[],rfl,Nat.zero_le _,fun el h=>(by cases h)⟩,rfl,rfl,AQ3 (X5.2 ⟨some a,cap,rfl,Nat.zero_le _,hcm,fun h=>absurd rfl h⟩) AY1 rfl⟩
  obtain ⟨ab,ao,asp⟩:=a
  have hsp:asp=none:=by
   obtain ⟨ds,y,hds,-⟩:=hget 0 hpos
   obtain ⟨-,hlen,hcell⟩:=World.cells?_some hds
   have hc0:=hcell 0 h3
   rw [List.getElem?_eq_getElem (by omega:0 < ds.length),Nat.zero_mul] at hc0
   have h8:=World.cell?_spot hc0
   simpa [Addr.add] using h8
  subst hsp
  have hx':∀ i,i < len→∃ el,Shp e el∧el.length=e.size∧ab < W.heap.size∧RC1 (RR (AA1 W)) el fun j=>W.cell? ⟨ab,ao+i * e.size+j,none⟩:=fun i hi=>by
   obtain ⟨ds,y,hds,hd⟩:=hget i hi
   obtain ⟨-,hlen,hcell⟩:=World.cells?_some hds
   obtain ⟨el,s1,s2,s3,s4⟩:=ih e' h1 n ds y hd
   have hcell':∀ j,j < e.size→W.cell? ⟨ab,ao+i * e.size+j,none⟩=ds[j]?:=fun j hj=>by
    have:=hcell j hj
    rwa [add_plain,add_plain] at this
   have hc0:=hcell' 0 h3
   rw [List.getElem?_eq_getElem (by omega:0 < ds.length)] at hc0
   have hbl:ab < W.heap.size:=by
    refine Classical.byContradiction fun hlt=>?_
    have hn:W.heap[ab]? = none:=by simp;omega
    simp [World.cell?,hn] at hc0
   refine ⟨el,s1,s2,hbl,s4.imp (fun _ _ h=>h) fun j u hu=>?_⟩
   have hj:j < ds.length:=(List.getElem?_eq_some_iff.1 hu).1
   rw [hcell' j (by omega)]
   exact hu
  obtain ⟨els,hl,hp⟩:=AM2 len hx'
  refine ⟨[.isl els],⟨els,rfl,by omega,fun el h=>?_⟩,rfl,rfl,AQ3 (X5.2 ⟨some ⟨ab,ao,none⟩,cap,by rw [hl],by omega,hcm,fun hne=>?_⟩) AY1 rfl⟩
  ·obtain ⟨i,hi⟩:=List.mem_iff_getElem?.1 h
   exact (hp i el hi).1
  ·obtain ⟨e0,he0⟩:∃ e0,els[0]? = some e0:=by
    cases els with
    | nil=>exact absurd rfl hne
    | cons y ys=>exact ⟨y,rfl⟩
   exact ⟨ab,ao,e.size,rfl,Ar3 (hp 0 e0 he0).2.2.1,fun k el hk=>⟨(hp k el hk).2.1,(hp k el hk).2.2.2⟩⟩
theorem read_all (T:Ty):Rd1 P enc spare held W T∧Rd2 P enc spare held W T:=by
 induction T with
 | bool =>
  refine ⟨fun t ht fuel cs x hx=>?_,fun off fs h=>by cases h⟩
  simp only [Ab6] at ht
  split at ht
  case h_2=>cases ht
  case h_1 he =>
  obtain ⟨b,rfl,-⟩:=DataW.trod_bool he hx
  exact ⟨[.bool b],⟨b,rfl⟩,rfl,rfl,AQ3 (RR_bool.2 rfl) one_bool rfl⟩
 | int k =>
  refine ⟨fun t ht fuel cs x hx=>?_,fun off fs h=>by cases h⟩
  simp only [Ab6] at ht
  split at ht
  case h_2=>cases ht
  case h_1 k' he =>
  obtain rfl:=of_decide_eq_true ht
  obtain ⟨n,rfl,-,hw⟩:=DataW.trod_int he hx
  exact ⟨[.int k n],⟨n,rfl,hw⟩,rfl,rfl,AQ3 (RR_int.2 rfl) BQ2 rfl⟩
 | str =>
  refine ⟨fun t ht fuel cs x hx=>?_,fun off fs h=>by cases h⟩
  simp only [Ab6] at ht
  split at ht
  case h_2=>cases ht
  case h_1 he =>
  obtain ⟨s,rfl,-,hw⟩:=DataW.trod_string he hx
  exact ⟨[.str s],⟨s,rfl,hw⟩,rfl,rfl,AQ3 (RR_str.2 rfl) one_str rfl⟩
 | slice e ih=>exact ⟨BG2 ih.1,fun off fs h=>by cases h⟩
 | nil =>
  refine ⟨fun t ht=>(by cases ht),fun off fs h n cs hcs=>?_⟩
  exact ⟨[],rfl,rfl,fun j x hx=>by simp at hx⟩
 | cons a b iha ihb =>
  refine ⟨fun t ht=>(by cases ht),fun off fs h n cs hcs=>?_⟩
  cases fs with
  | nil=>cases h
  | cons f r =>
   simp only [Ab6,Bool.and_eq_true,decide_eq_true_eq] at h
   obtain ⟨⟨⟨h1,h2⟩,h3⟩,h4⟩:=h
   obtain ⟨x,hx⟩:=hcs 0 f rfl
   obtain ⟨ys,s1,s2,s3,s4⟩:=iha.1 f.type h3 n _ x hx
   obtain ⟨zs,r1,r2,r3⟩:=ihb.2 _ r h4 n cs fun i g hg=>hcs (i+1) g hg
   refine ⟨ys++zs,⟨ys,zs,rfl,s1,r1⟩,by simp [s2,r2,Ty.size],rc1_app (s4.imp (fun _ _ h=>h) fun j u hu=>?_) (r3.imp (fun _ _ h=>h) fun j u hu=>?_)⟩
   ·rw [List.getElem?_take] at hu
    split at hu
    ·rw [List.getElem?_drop,h1] at hu;exact hu
    ·cases hu
   ·rw [s2,← hu];congr 1;omega
 | struct T ih =>
  refine ⟨fun t ht fuel cs x hx=>?_,fun off fs h=>by cases h⟩
  simp only [Ab6] at ht
  split at ht
  case h_2=>cases ht
  case h_1 fs he =>
  simp only [Bool.and_eq_true,decide_eq_true_eq] at ht
  obtain ⟨h1,h2⟩:=ht
  obtain ⟨xs,n,-,-,hl,hxl,hf⟩:=DataW.trod_struct he hx
  obtain ⟨ys,s1,s2,s3⟩:=ih.2 0 fs.toList h2 n cs fun i f hfi=>by
   have hfi':fs[i]? = some f:=by simpa using hfi
   have hi:i < fs.size:=(Array.getElem?_eq_some_iff.1 hfi').1
   exact ⟨xs[i]'(by omega),by rw [hf i f hfi'];exact List.getElem?_eq_getElem _⟩
  exact ⟨ys,s1,s2,by rw [hl,h1,s2],s3.imp (fun _ _ h=>h) fun j u hu=>by simpa using hu⟩
 | arr k n =>
  refine ⟨fun t ht fuel cs x hx=>?_,fun off fs h=>by cases h⟩
  simp only [Ab6] at ht
  split at ht
  case h_2=>cases ht
  case h_1 n' e he =>
  simp only [Bool.and_eq_true,decide_eq_true_eq] at ht
  obtain ⟨⟨⟨h1,h2⟩,h3⟩,h4⟩:=ht
  subst h1
  split at h4
  case h_2=>cases h4
  case h_1 k' hk' =>
  obtain rfl:=of_decide_eq_true h4
  obtain ⟨xs,m,-,-,hcl,hn,hel⟩:=DataW.trod_array he hx
  have hget:∀ i,i < n'→∃ z:Int,cs[i]? = some (.int k z)∧(Lit.int k z).wf=true:=fun i hi=>by
   have h0:=hel i hi
   rw [h3,Nat.mul_one] at h0
   obtain ⟨y,hy⟩:∃ y,xs[i]? = some y:=⟨xs[i]'(by omega),List.getElem?_eq_getElem _⟩
   rw [hy] at h0
   obtain ⟨z,e1,-,e3⟩:=DataW.trod_int hk' h0
   refine ⟨z,?_,e3⟩
   have h5:((cs.drop i).take 1)[0]? = some (.int k z):=by rw [e1];rfl
   rwa [List.getElem?_take,if_pos (by omega),List.getElem?_drop,Nat.add_zero] at h5
  obtain ⟨l,hl,hp⟩:=AM2 n' hget
  refine ⟨l.map (AV.int k),⟨l,rfl,hl,fun x hx=>?_⟩,by simp [hl,Ty.size],by rw [hcl,h2];simp [hl],fun j y hy=>?_⟩
  ·obtain ⟨i,hi⟩:=List.mem_iff_getElem?.1 hx
   exact (hp i x hi).2
  ·rw [List.getElem?_map] at hy
   obtain ⟨z,hz,rfl⟩:=Option.map_eq_some_iff.1 hy
   exact ⟨_,(hp j z hz).1,RR_int.2 rfl,BQ2⟩
def argV:Ty→List AV→AV
 | .struct _,xs=>.agg xs
 | .arr _ _,xs=>.agg xs
 | _,x::_=>x
 | _,[]=>.undef
theorem Ak4 {T:Ty} {xs:List AV} {v:Value} (hx:xs.length=1) (hv:v.cells.toList=[v]) (h:RC1 (RR (AA1 W)) xs fun j=>v.cells.toList[j]?):∃ x,xs=[x]∧RR (AA1 W) x v:=by
 match xs,hx with
 | [x],_ =>
  obtain ⟨u,hu,hr,-⟩:=h 0 x rfl
  rw [hv] at hu
  cases hu
  exact ⟨x,rfl,hr⟩
theorem arg_rr {T:Ty} {t:TypeId} {v:Value} {r:Reach} {base:Nat} {d:DataW H} {p:List MemPlace} (hT:(Ab6 P T).1 t=true) (hval:Value.okWide P W r base t v) (hd:DataW.Trod enc P W 0 spare held t v d p):∃ xs,Shp T xs∧RR (AA1 W) (argV T xs) v:=by
 obtain ⟨fuel,hf⟩:=hd
 obtain ⟨xs,s1,s2,s3,s4⟩:=(read_all T).1 t hT fuel _ _ hf
 refine ⟨xs,s1,?_⟩
 cases T with
 | nil=>cases hT
 | cons a b=>cases hT
 | bool =>
  simp only [Ab6] at hT
  split at hT
  case h_2=>cases hT
  case h_1 he =>
  obtain ⟨b,rfl⟩:=okWide_bool he hval
  obtain ⟨x,rfl,hr⟩:=Ak4 (T:=.bool) s2 rfl s4
  exact hr
 | int k =>
  simp only [Ab6] at hT
  split at hT
  case h_2=>cases hT
  case h_1 k' he =>
  obtain ⟨b,rfl⟩:=okWide_int he hval
  obtain ⟨x,rfl,hr⟩:=Ak4 (T:=.bool) s2 rfl s4
  exact hr
 | str =>
  simp only [Ab6] at hT
  split at hT
  case h_2=>cases hT
  case h_1 he =>
  obtain ⟨b,rfl⟩:=okWide_string he hval
  obtain ⟨x,rfl,hr⟩:=Ak4 (T:=.bool) s2 rfl s4
  exact hr
 | slice e =>
  simp only [Ab6] at hT
  split at hT
  case h_2=>cases hT
  case h_1 k' he =>
  obtain ⟨a,l,c,rfl⟩:=okWide_slice he hval
  obtain ⟨x,rfl,hr⟩:=Ak4 (T:=.bool) s2 rfl s4
  exact hr
 | struct T =>
  simp only [Ab6] at hT
  split at hT
  case h_2=>cases hT
  case h_1 fs he =>
  obtain ⟨cs,rfl,hcs⟩:=okWide_struct he hval
  exact U4.2 ⟨cs,rfl,by simpa [Value.cells] using s3,s4.imp (fun _ _ h=>h) fun j u hu=>by simpa [Value.cells] using hu⟩
 | arr k n =>
  simp only [Ab6] at hT
  split at hT
  case h_2=>cases hT
  case h_1 n' e he =>
  have hcs:∃ cs,v = .agg cs∧cs.size=P.cellsOf t:=by
   simp only [Value.okWide,he] at hval
   obtain ⟨cs,h1,h2,_⟩:=hval
   exact ⟨cs,h1,h2⟩
  obtain ⟨cs,rfl,hcs⟩:=hcs
  exact U4.2 ⟨cs,rfl,by simpa [Value.cells] using s3,s4.imp (fun _ _ h=>h) fun j u hu=>by simpa [Value.cells] using hu⟩
def BE5:List Ty→List (List AV)→Prop
 | [],[]=>True
 | T::Ts,xs::r=>Shp T xs∧BE5 Ts r
 | _,_=>False
def tysOk (P:Program):List Ty→List TypeId→Bool
 | [],[]=>true
 | T::Ts,t::ts=>(Ab6 P T).1 t && tysOk P Ts ts
 | _,_=>false
def BW3:List Ty→List (List AV)→List AV
 | T::Ts,xs::r=>argV T xs::BW3 Ts r
 | _, _ => []
theorem BW2 {r:Reach} {base:Nat}:∀ {Ts:List Ty} {ts:List TypeId} {vs:List Value} {ds:List (DataW H)} {ps:List MemPlace},tysOk P Ts ts=true→(∀ (j:Nat) t v,ts[j]? = some t→vs[j]? = some v→Value.okWide P W r base t v) →
  DataW.TrodAll enc P W 0 spare held ts vs ds ps→∃ xss,BE5 Ts xss∧vs.length=(BW3 Ts xss).length∧RCs (RR (AA1 W)) (BW3 Ts xss) fun j=>vs[j]?
 | [],[],vs,ds,ps,_,_,hd=>by
  obtain ⟨rfl,rfl,rfl⟩:=trodAll_nil hd
  exact ⟨[],trivial,rfl,fun j x hx=>by cases hx⟩
 | T::Ts,t::ts,vs,ds,ps,hT,hv,hd=>by
  obtain ⟨v,vs',d,ds',p,q,rfl,rfl,rfl,h1,h2⟩:=trodAll_cons hd
  simp only [tysOk,Bool.and_eq_true] at hT
  obtain ⟨xs,s1,s2⟩:=arg_rr hT.1 (hv 0 t v rfl rfl) h1
  obtain ⟨xss,r1,r2,r3⟩:=BW2 hT.2 (fun j t v h h'=>hv (j+1) t v h h') h2
  refine ⟨xs::xss,⟨s1,r1⟩,by simp [BW3,r2],fun j x hx=>?_⟩
  cases j with
  | zero=>cases hx;exact ⟨v,rfl,s2⟩
  | succ j=>exact r3 j x hx
theorem Ar4 (hl:laidOutB P=true) {W':World} (hb:Below W.heap.size W W') {sp:Nat→Bool}:∀ {ts:List TypeId} {vs:List Value} {ds:List (DataW H)} {ps:List MemPlace},(∀ t ∈ ts,P.readableRec t=true∧t < P.types.size) →
  DataW.TrodAll enc P W 0 (fun _=>true) true ts vs ds ps→(∀ x ∈ ps,x.block < W.heap.size)→(∀ x ∈ ps,sp x.block=true)→DataW.TrodAll enc P W' 0 sp true ts vs ds ps
 | [],vs,ds,ps,_,hd,_,_=>by
  obtain ⟨rfl,rfl,rfl⟩:=trodAll_nil hd
  rfl
 | t::ts,vs,ds,ps,ht,hd,hlt,hsp=>by
  obtain ⟨v,vs',d,ds',p,q,rfl,rfl,rfl,h1,h2⟩:=trodAll_cons hd
  have ht0:=ht t (by simp)
  exact ⟨p,q,WideElems.Trod_stays hl ht0.1 ht0.2 h1 (fun x hx=>hb.same (hlt x (by simp [hx]))) (fun x hx=>hsp x (by simp [hx])),Ar4 hl hb (fun t' h'=>ht t' (by simp [h'])) h2 (fun x hx=>hlt x (by simp [hx])) (fun x hx=>hsp x (by simp [hx])),rfl⟩
end
end Go.Am
namespace Go.Proofs.Ytbhgfoikbkaohaa
open Go Go.Am Go.Pol
open Go.ChangeShapes Go.WideShapes Go.ChangeAt Go.WideElems Go.RowKit
theorem own:ownKnob Try.prog.godebug=none:=by kernel_rfl
theorem glo (c:Cx):AK8 G0 c:=fun n cs h=>by cases h
theorem BQ9 {α:Type} {f:α→List AV} {q:α→Prop}:∀ {els:List (List AV)},(∀ el ∈ els,∃ c,el=f c∧q c)→∃ l:List α,els=l.map f∧∀ c ∈ l,q c
 | [],_=>⟨[],rfl,fun c hc=>by cases hc⟩
 | el::els,h=>by
  obtain ⟨c,rfl,hq⟩:=h el (List.mem_cons_self ..)
  obtain ⟨l,rfl,hl⟩:=BQ9 fun e he=>h e (List.mem_cons_of_mem _ he)
  exact ⟨c::l,rfl,fun d hd=>(List.mem_cons.1 hd).elim (fun e=>e▸hq) (hl d)⟩
theorem wf_u8 {n:Int} (h:(Lit.int .u8 n).wf=true):∃ m:Nat,n=(m:Int)∧m < 256:=by
 simp [Lit.wf,IntKind.min,IntKind.max,IntKind.signed,IntKind.bits] at h
 exact ⟨n.toNat,by omega,by omega⟩
theorem wf_i64 {n:Int} (h:(Lit.int .i64 n).wf=true):-9223372036854775808≤n∧n≤9223372036854775807:=by
 simp [Lit.wf,IntKind.min,IntKind.max,IntKind.signed,IntKind.bits] at h
 omega
def i64 (n:Int):Prop:=-9223372036854775808≤n∧n≤9223372036854775807
theorem shp_one {T:Ty}:∀ {xss:List (List AV)},BE5 [T] xss→∃ xs,xss=[xs]∧Shp T xs
 | [xs],h=>⟨xs,rfl,h.1⟩
 | [],h=>h.elim
 | _::_::_,h=>h.2.elim
def rlT:Ty:=.struct (.cons (.int .i64) (.cons (.int .i64) (.cons (.int .i64) (.cons (.int .i64) .nil))))
def planT:Ty:=.struct (.cons (.slice rlT) .nil)
def actT:Ty:=.struct (.cons (.int .u8) (.cons (.int .i64) (.cons (.int .i64) (.cons (.int .i64) (.cons (.int .u8) (.cons planT .nil))))))
def BP1:Ty:=.struct (.cons (.int .i64) (.cons (.int .i64) (.cons (.int .i64) (.cons (.int .i64) (.cons planT (.cons (.slice actT) .nil))))))
def okA (x:SAc):Prop:=0≤x.w∧0≤x.v∧x.v < 256
theorem shp_rl {xs:List AV} (h:Shp rlT xs):∃ x:Rl,xs=rlA x:=by
 obtain ⟨y1,z1,rfl,⟨a,rfl,-⟩,y2,z2,rfl,⟨b,rfl,-⟩,y3,z3,rfl,⟨c,rfl,-⟩,y4,z4,rfl,⟨d,rfl,-⟩,rfl⟩:=h
 exact ⟨⟨a,b,c,d⟩,rfl⟩
theorem Az1 {xs:List AV} (h:Shp planT xs):∃ l:List Rl,xs=[AV.isl (l.map rlA)]:=by
 obtain ⟨y1,z1,rfl,⟨els,rfl,hl,he⟩,rfl⟩:=h
 obtain ⟨l,rfl,-⟩:=BQ9 (f:=rlA) (q:=fun _=>True) fun el hel=>(shp_rl (he el hel)).imp fun _ h=>⟨h,trivial⟩
 exact ⟨l,rfl⟩
theorem shp_act {xs:List AV} (h:Shp actT xs):∃ x:SAc,xs=Ac9 x∧okA x:=by
 obtain ⟨y1,z1,rfl,⟨w,rfl,hw⟩,y2,z2,rfl,⟨p,rfl,-⟩,y3,z3,rfl,⟨n,rfl,-⟩,y4,z4,rfl,⟨t,rfl,-⟩,y5,z5,rfl,⟨b,rfl,hb⟩,y6,z6,rfl,h6,rfl⟩:=h
 obtain ⟨m,rfl,hm⟩:=wf_u8 hw
 obtain ⟨v,rfl,hv⟩:=wf_u8 hb
 obtain ⟨l,rfl⟩:=Az1 h6
 exact ⟨⟨(m:Nat),p,n,t,(v:Nat),l⟩,rfl,Int.natCast_nonneg m,Int.natCast_nonneg v,by show ((v:Nat):Int) < 256;omega⟩
theorem shp_play {xs:List AV} (h:Shp BP1 xs):∃ p:SPy,xs=AX1 p∧p.X.length≤maxLen∧(∀ x ∈ p.X,okA x)∧i64 p.n:=by
 obtain ⟨y1,z1,rfl,⟨a,rfl,-⟩,y2,z2,rfl,⟨n,rfl,hn⟩,y3,z3,rfl,⟨pg,rfl,-⟩,y4,z4,rfl,⟨sl,rfl,-⟩,y5,z5,rfl,h5,y6,z6,rfl,⟨els,rfl,hl,he⟩,rfl⟩:=h
 obtain ⟨l,rfl⟩:=Az1 h5
 obtain ⟨X,rfl,hq⟩:=BQ9 (f:=Ac9) (q:=okA) fun el hel=>shp_act (he el hel)
 exact ⟨⟨a,n,pg,sl,l,X⟩,rfl,by rw [List.length_map] at hl;exact hl,hq,wf_i64 hn⟩
end Go.Proofs.Ytbhgfoikbkaohaa
