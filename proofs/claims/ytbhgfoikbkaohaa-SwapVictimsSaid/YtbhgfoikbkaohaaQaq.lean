/-
 far,alone.
 A store stays one;the example.
 Calls with a nil plan;acts.
 The example.
 SwapVictims.
-/
import Derived.Test.YtbhgfoikbkaohaaQap
set_option linter.unusedSimpArgs false
set_option linter.unusedVariables false
set_option maxHeartbeats 12800000
namespace Go.Pol
open Go.Am Go.Proofs.Ytbhgfoikbkaohaa.Sh
def Sw.al (q:Sw) (x:SAc):Int × Sw:=q.call (x.w.toNat % 14) x.t x.n x.v x.p x.l
def SPy.ok (p:SPy):Prop:=p.X.length≤50∧p.l.length≤60∧(p.n≤60∨1024 < p.n)
instance (p:SPy):Decidable p.ok:=by unfold SPy.ok;infer_instance
end Go.Pol
namespace Go.Proofs.Ytbhgfoikbkaohaa.Sh
open Go Go.Am Go.Pol
theorem plx_Sxn {p:Prop} (h:p:=by ((first|exact plw|(with_reducible first|apply U2|apply G6 _|apply G8 _|apply G7 _|apply AE0|apply Q0|apply P5|apply O8|apply AZ0 _|apply AA2 _|apply AR7|fail)|fail);first|done|fail)):p:=h
theorem ppx_Sxn {p:Prop} (h:p:=by ((first|with_reducible assumption|(with_reducible first|apply F5|apply Ab8|apply AY7|apply AJ5|apply AZ7|apply AO1 _|apply AG1 _|fail)|exact ppw|fail);first|done|fail)):p:=h
open Go.Proofs.Ytbhgfoikbkaohaa.Sh renaming plx_Sxn → plx
open Go.Proofs.Ytbhgfoikbkaohaa.Sh renaming ppx_Sxn → ppx
theorem wx_Sxn {p q:Prop} (hq:q) (h:Z5 q→p:=by (intro hQz;((repeat' ((try (conv=>whnf));first|refine sxA ?_|refine AC9 (by with_reducible assumption) ?_|refine sxF ?_|refine AE8 (d:=dSA) BA4 (by first|assumption|omega) (by with_reducible assumption) ?_|refine AL5 h2 rfl rfl rfl rfl rfl (by decide) rfl ?_|refine Q8 h2 rfl (by decide) ?_|refine sxH ?_|((with_reducible first|apply V6 hQz|apply V7 hQz)<;>(try intro hsp hQz))|exact hQz.out))<;>(try (conv=>whnf))))):p:=h ⟨hq⟩
theorem BT5 {p:SPy} (hl:p.X.length≤maxLen) (h:∃ x ∈ p.X,60 < x.l.length):I6 9 [.agg (AY2 p)] (.bool true):=by
 have hl:p.X.length≤9223372036854775807:=hl
 refine I6.mk (O7 F6 b9 G9 ⟨AA2 p,trivial⟩ D8 rfl ?_)
 unfold c9
 have hp:=AG1 p
 unfold AY2 at hp ⊢
 (refine wx_Sxn ?_;repeat' (first|with_reducible refine And.intro ?_ ?_|intro hsp))
 (refine O4 [1] (fun (i:Nat)=>[(3,.int .i64 (i:Nat))]) (fun (i:Nat)=>⟨[(0,.cells [.int .i64 p.a,.int .i64 p.n,.int .i64 p.pg,.int .i64 p.sl,.isl (p.l.map rlA),.isl (p.X.map AY5)])],1⟩) (fun (i:Nat)=>∃ j,i≤j∧j < p.X.length∧60 < (nth dSA p.X j).l.length) (fun (i:Nat)=>p.X.length - i) (0) [] rfl (fun _=>by first|exact Nat.zero_le _|(dsimp only;omega)) ?_ (by ((try (conv=>whnf));exact K4)) ?_)
 ·obtain ⟨x,hx,h6⟩:=h
  obtain ⟨j,hj,rfl⟩:=List.getElem_of_mem hx
  exact ⟨j,Nat.zero_le _,hj,by rw [Y9 hj];exact h6⟩
 intro i hi
 obtain ⟨j,h1,h2,h3⟩:=hi
 have hil:i < p.X.length:=by omega
 have hne:¬ 60 < (nth dSA p.X i).l.length→∃ j,i+1≤j∧j < p.X.length∧60 < (nth dSA p.X j).l.length:=fun hn=>⟨j,by
  by_cases e:i=j
  ·exact absurd (e▸h3) hn
  ·omega,h2,h3⟩
 clear h1 h2 h3
 by_cases hn:60 < (nth dSA p.X i).l.length
 ·clear hne
  generalize hx:nth dSA p.X i=x at *
  (refine wx_Sxn ?_;repeat' (first|with_reducible refine And.intro ?_ ?_|intro hsp))
  all_goals first|exact U1 rfl|(exfalso;omega)
 ·have hne2:=hne hn
  clear hne
  generalize hx:nth dSA p.X i=x at *
  (refine wx_Sxn ?_;repeat' (first|with_reducible refine And.intro ?_ ?_|intro hsp))
  all_goals first|(exfalso;omega)|exact F9 (i+1) [] hne2 (by first|omega|(dsimp only;omega)) rfl (by exact K4)
theorem k_far_no {p:SPy} (hl:p.X.length≤maxLen) (h:¬ ∃ x ∈ p.X,60 < x.l.length):I6 9 [.agg (AY2 p)] (.bool (decide (¬ p.ok))):=by
 have hl:p.X.length≤9223372036854775807:=hl
 refine I6.mk (O7 F6 b9 G9 ⟨AA2 p,trivial⟩ D8 rfl ?_)
 unfold c9
 unfold AY2
 (refine wx_Sxn ?_;repeat' (first|with_reducible refine And.intro ?_ ?_|intro hsp))
 (refine O4 [1] (fun (i:Nat)=>[(3,.int .i64 (i:Nat))]) (fun (i:Nat)=>⟨[(0,.cells [.int .i64 p.a,.int .i64 p.n,.int .i64 p.pg,.int .i64 p.sl,.isl (p.l.map rlA),.isl (p.X.map AY5)])],1⟩) (fun (i:Nat)=>i≤p.X.length) (fun (i:Nat)=>p.X.length - i) (0) [] rfl (fun _=>by first|exact Nat.zero_le _|(dsimp only;omega)) ?_ (by ((try (conv=>whnf));exact K4)) ?_)
 ·exact Nat.zero_le _
 intro i hi
 by_cases hil:i < p.X.length
 ·have hn:¬ 60 < (nth dSA p.X i).l.length:=fun h2=>h ⟨_,AZ4 (d:=dSA) hil,h2⟩
  generalize hx:nth dSA p.X i=x at *
  (refine wx_Sxn ?_;repeat' (first|with_reducible refine And.intro ?_ ?_|intro hsp))
  all_goals first|(exfalso;omega)|exact F9 (i+1) [] (by (try dsimp only);omega) (by first|omega|(dsimp only;omega)) rfl (by exact K4)
 ·clear h
  (refine wx_Sxn ?_;repeat' (first|with_reducible refine And.intro ?_ ?_|intro hsp))
  all_goals exact U1 (by first|exact (decide_eq_true (show ¬ p.ok from fun ⟨h1,h2,h3⟩=>by omega)).symm|exact (decide_eq_false (show ¬ ¬ p.ok from fun hn=>hn ⟨by omega,by omega,by omega⟩)).symm|exact decide_eq_decide.2 ⟨fun h4 ⟨h1,h2,h3⟩=>(by omega),fun hn=>Classical.byContradiction fun h4=>hn ⟨by omega,by omega,by omega⟩⟩)
theorem k_far (p:SPy) (hl:p.X.length≤maxLen):∃ b,I6 9 [.agg (AY2 p)] (.bool b)∧(b=false→p.ok∧∀ x ∈ p.X,x.l.length≤60):=by
 by_cases h:∃ x ∈ p.X,60 < x.l.length
 ·exact ⟨true,BT5 hl h,fun e=>by cases e⟩
 ·refine ⟨_,k_far_no hl h,fun e=>⟨?_,fun x hx=>Classical.byContradiction fun hn=>h ⟨x,hx,by omega⟩⟩⟩
  have:=of_decide_eq_false e
  exact Classical.not_not.1 this
structure LocA (x:SAc) (q:Sw) (t:WS) (e:Int) (q':Sw) (t':WS):Prop where
 out:AT7 Try.prog G0 13 [.ptr 4 0,.ptr 0 0,.agg (AY5 x)] (stN q t 0 1 2 3 4) 5 fun y h1=>y = .int .i64 e∧h1=⟨stN q' t' 0 1 2 3 4,5⟩
theorem cx_A {x:SAc} {q q':Sw} {t t':WS} {v:Int} {o w d m s nx:Nat} {l:List (Nat × AObj)} {K:AV→Hp→Prop} (hc:LocA x q t v q' t')
  (g0:lk l o=some (.cells (stC s w d m q))) (g1:lk l w=some (.maps (encW pgE t.W))) (g2:lk l d=some (.maps (encW byE t.D))) (g3:lk l m=some (.maps (encW nuE t.H))) (g4:lk l s=some (.cells q.s.a))
  (hlt:o < nx∧w < nx∧d < nx∧m < nx∧s < nx) (hd:Ac4 [o,w,d,m,s]=true)
  (hk:AS9 [o,w,d,m,s] l fun l2=>K (.int .i64 v) ⟨([(o,.cells (stC s w d m q')),(w,.maps (encW pgE t'.W)),(d,.maps (encW byE t'.D)),(m,.maps (encW nuE t'.H)),(s,.cells q'.s.a)]:List (Nat × AObj))++l2,nx⟩):AF1 Try.prog G0 (.fn 13 [] []) [.ptr s 0,.ptr o 0,.agg (AY5 x)] ⟨l,nx⟩ K:=by
 have e0:enter [o,w,d,m,s] o 0:=rfl
 have e1:enter [o,w,d,m,s] w 1:=rfl
 have e2:enter [o,w,d,m,s] d 2:=rfl
 have e3:enter [o,w,d,m,s] m 3:=rfl
 have e4:enter [o,w,d,m,s] s 4:=rfl
 have k0:back [o,w,d,m,s] nx 0 o:=rfl
 have k1:back [o,w,d,m,s] nx 1 w:=rfl
 have k2:back [o,w,d,m,s] nx 2 d:=rfl
 have k3:back [o,w,d,m,s] nx 3 m:=rfl
 have k4:back [o,w,d,m,s] nx 4 s:=rfl
 refine AL6 (l1:=stN q' t' o w d m s) [o,w,d,m,s] hc.out G9 hd
  (.cons e0 g0 (AL0 e4 e1 e2 e3) (.maps e1 g1 (C8 G6) (.maps e2 g2 (C8 G8) (.maps e3 g3 (C8 G7) (.cons e4 g4 (D7 F5) .nil)))))
  ?_ (by intro x hx;simp only [List.mem_cons,List.not_mem_nil,or_false] at hx;omega) (F4 A8)
  (.cons k0 (AL0 k4 k1 k2 k3) (.maps k1 (C8 G6) (.maps k2 (C8 G8) (.maps k3 (C8 G7) (.cons k4 (D7 F5) .nil))))) hk
 simp only [List.nil_append,List.append_nil]
 exact ⟨S9 e4,S9 e0,F4 (AZ0 x),trivial⟩
section
variable {q:Sw} {t:WS}
theorem l_alone (hg:D9 q) (h:WOk q t) (x:SAc) (hw:0≤x.w):∃ t',WOk (q.al x).2 t'∧LocA x q t (q.al x).1 (q.al x).2 t':=by
 have h0:x.w.tmod 14=x.w % 14:=Int.tmod_eq_emod_of_nonneg hw
 have hm:((x.w.toNat % 14:Nat):Int)=x.w.tmod 14:=by rw [h0];omega
 unfold Sw.al Sw.call
 generalize x.w.toNat % 14=w at *
 have hw14:0≤x.w.tmod 14∧x.w.tmod 14 < 14:=by rw [h0];omega
 by_cases c1:w < 6
 ·rw [if_pos c1]
  obtain ⟨t',h2,hO⟩:=AX6 hg h x.t x.n x.v
  refine ⟨t',hO,⟨G5 F6 b13 rfl ?_⟩⟩
  unfold c13
  unfold stN stC AY5
  generalize q.write x.t x.n x.v=r at *
  rcases (show x.w.tmod 14=0∨x.w.tmod 14=1∨x.w.tmod 14=2∨x.w.tmod 14=3∨x.w.tmod 14=4∨x.w.tmod 14=5 by omega) with hy|hy|hy|hy|hy|hy
  all_goals (refine wx_Sxn ?_;repeat' (first|with_reducible refine And.intro ?_ ?_|intro hsp))
  all_goals first|exact J6 (q:=r.2) (t:=t') rfl A8 rfl rfl rfl rfl rfl|(exfalso;omega)
 rw [if_neg c1]
 by_cases c2:w < 10
 ·rw [if_pos c2]
  obtain ⟨t',h2,hO⟩:=Az4 hg h x.t x.n
  refine ⟨t',hO,⟨G5 F6 b13 rfl ?_⟩⟩
  unfold c13
  unfold stN stC AY5
  generalize q.read x.t x.n=r at *
  rcases (show x.w.tmod 14=6∨x.w.tmod 14=7∨x.w.tmod 14=8∨x.w.tmod 14=9 by omega) with hy|hy|hy|hy
  all_goals (refine wx_Sxn ?_;repeat' (first|with_reducible refine And.intro ?_ ?_|intro hsp))
  all_goals first|exact J6 (q:=r.2.2) (t:=t') rfl A8 rfl rfl rfl rfl rfl|(exfalso;omega)
 rw [if_neg c2]
 by_cases c3:w=10
 ·rw [if_pos c3]
  obtain ⟨t',h2,hO⟩:=w_Out hg h x.p
  refine ⟨t',hO,⟨G5 F6 b13 rfl ?_⟩⟩
  unfold c13
  unfold stN stC AY5
  generalize q.out x.p=r at *
  rcases (show x.w.tmod 14=10 by omega) with hy
  all_goals (refine wx_Sxn ?_;repeat' (first|with_reducible refine And.intro ?_ ?_|intro hsp))
  all_goals first|exact J6 (q:=r.2) (t:=t') rfl A8 rfl rfl rfl rfl rfl|(exfalso;omega)
 rw [if_neg c3]
 by_cases c4:w=11
 ·rw [if_pos c4]
  obtain ⟨t',h2,hO⟩:=w_Free hg h x.p
  refine ⟨t',hO,⟨G5 F6 b13 rfl ?_⟩⟩
  unfold c13
  unfold stN stC AY5
  generalize q.fre x.p=r at *
  rcases (show x.w.tmod 14=11 by omega) with hy
  all_goals (refine wx_Sxn ?_;repeat' (first|with_reducible refine And.intro ?_ ?_|intro hsp))
  all_goals first|exact J6 (q:=r.2) (t:=t') rfl A8 rfl rfl rfl rfl rfl|(exfalso;omega)
 rw [if_neg c4]
 by_cases c5:w=13
 ·rw [if_pos c5]
  have h2:=p_plan q.s x.l
  refine ⟨t,AQ5 h _,⟨G5 F6 b13 rfl ?_⟩⟩
  unfold c13
  unfold stN stC AY5
  generalize q.s.plan x.l=r at *
  rcases (show x.w.tmod 14=13 by omega) with hy
  all_goals (refine wx_Sxn ?_;repeat' (first|with_reducible refine And.intro ?_ ?_|intro hsp))
  all_goals first|exact J6 (q:={ q with s:=r.2 }) (t:=t) rfl A8 rfl rfl rfl rfl rfl|(exfalso;omega)
 rw [if_neg c5]
 refine ⟨t,h,⟨G5 F6 b13 rfl ?_⟩⟩
 unfold c13
 unfold stN stC AY5
 have hy:x.w.tmod 14=12:=by omega
 (refine wx_Sxn ?_;repeat' (first|with_reducible refine And.intro ?_ ?_|intro hsp))
 all_goals first|exact J6 (q:=q) (t:=t) rfl A8 rfl rfl rfl rfl rfl|(exfalso;omega)
end
end Go.Proofs.Ytbhgfoikbkaohaa.Sh
namespace Go.Pol
open Go.Am Go.Proofs.Ytbhgfoikbkaohaa.Sh
section
variable {w:Sw}
theorem AA6 (h:D9 w) (t now v:Int):D9 (w.write t now v).2:=by
 by_cases he:(w.write t now v).1=0
 ·exact (Am1 h he).2.1
 ·unfold Sw.write at he ⊢
  by_cases hn:w.nums t now
  ·rw [if_neg (Classical.not_not.2 hn)] at he ⊢
   have hn2:=hn
   obtain ⟨n1,n2,n3,n4⟩:=hn2
   by_cases ht:(w.touch (t.toNat / 64) now).1=0
   ·rw [if_pos ht] at he
    have hg:=X4 h (p:=t.toNat / 64) (now:=now) (by omega) ⟨n3,n4⟩
    rcases AD6 h (p:=t.toNat / 64) now with hy|hno
    ·exact absurd (BE7 hg n1 hy.fr).1 he
    ·exact absurd ht hno.e
   ·rw [if_neg ht]
    exact X4 h (by omega) ⟨n3,n4⟩
  ·rw [if_pos hn];exact h
theorem AJ3 (h:D9 w) (t now:Int):D9 (w.read t now).2.2:=by
 unfold Sw.read
 by_cases hn:w.nums t now
 ·rw [if_neg (Classical.not_not.2 hn)]
  obtain ⟨n1,n2,n3,n4⟩:=hn
  have hg:=X4 h (p:=t.toNat / 64) (now:=now) (by omega) ⟨n3,n4⟩
  split
  ·exact h
  ·split
   ·exact hg
   ·exact hg
 ·rw [if_pos hn];exact h
theorem Ap9 (h:D9 w) (p:Int):D9 (w.out p).2:=by
 by_cases he:(w.out p).1=0
 ·exact (out_yes h he).1
 ·rw [out_no p he];exact h
theorem good_al (h:D9 w) (x:SAc):D9 (w.al x).2:=by
 unfold Sw.al Sw.call
 split
 ·exact AA6 h _ _ _
 ·split
  ·exact AJ3 h _ _
  ·split
   ·exact Ap9 h _
   ·split
    ·exact BD1 h _
    ·split
     ·exact planW h _
     ·exact h
end
def ex0:Sw:=Sw.nw ((Sy.new []).chg 8 1 0 1 0).2 8 1 4 2
def ex1:Sw:=(ex0.write 0 1 5).2
def ex2:Sw:=(ex1.write 64 2 6).2
def ex3:Sw:=(ex2.read 0 3).2.2
def ex4:Sw:=(ex3.read 64 4).2.2
def ex5:Sw:=(ex4.read 128 5).2.2
def ex6:Sw:=(ex5.write 128 6 7).2
def ex7:Sw:=(ex6.write 192 7 8).2
def ex8:Sw:=(ex7.out 2).2
def ex9:Sw:=(ex8.fre 0).2
set_option maxRecDepth 100000 in
theorem ex_0:((Sy.new []).chg 8 1 0 1 0).1=0:=by decide +kernel
set_option maxRecDepth 100000 in
theorem ex_1:(ex0.write 0 1 5).1=0:=by decide +kernel
set_option maxRecDepth 100000 in
theorem ex_2:(ex1.write 64 2 6).1=0:=by decide +kernel
set_option maxRecDepth 100000 in
theorem ex_3:(ex2.read 0 3).1=5∧(ex2.read 0 3).2.1=0:=by decide +kernel
set_option maxRecDepth 100000 in
theorem ex_4:(ex3.read 64 4).1=6∧(ex3.read 64 4).2.1=0:=by decide +kernel
set_option maxRecDepth 100000 in
theorem ex_5:(ex4.read 128 5).1=0∧(ex4.read 128 5).2.1=0∧ex5.ins=2∧ex5.outs=3:=by decide +kernel
set_option maxRecDepth 100000 in
theorem ex_6:(ex5.write 128 6 7).1=0:=by decide +kernel
set_option maxRecDepth 100000 in
theorem ex_7:(ex6.write 192 7 8).1=5:=by decide +kernel
set_option maxRecDepth 100000 in
theorem ex_8:(ex7.out 2).1=5:=by decide +kernel
set_option maxRecDepth 100000 in
theorem ex_9:(ex8.fre 0).1=0:=by decide +kernel
set_option maxRecDepth 100000 in
theorem ex_10:(ex9.out 2).1=0:=by decide +kernel
end Go.Pol
namespace Go.Am
section
variable {P:Program} {G:Gl}
theorem AT7.weak {f k:Nat} {args args':List AV} {l0:List (Nat × AObj)} {K:AV→Hp→Prop} (hc:AT7 P G f args l0 k K) (hw:∀ (c:Cx) (vs:Array Value),p8 c args' vs→p8 c args vs):AT7 P G f args' l0 k K :=
 ⟨hc.1,fun c vs hR hG hm ha=>hc.2 c vs hR hG hm (hw c vs ha)⟩
theorem AT6.weak {f:Nat} {args args':List AV} {r:AV} (hc:AT6 P G f args r) (hw:∀ (c:Cx) (vs:Array Value),p8 c args' vs→p8 c args vs):AT6 P G f args' r :=
 fun at_ id=>⟨(hc at_ id).1,fun c vs hR hG hU hat ha=>(hc at_ id).2 c vs hR hG hU hat (hw c vs ha)⟩
def WkA (x y:AV):Prop:=∀ (c:Cx) (v:Value),RR c x v→RR c y v
def BF5:List AV→List AV→Prop
 | [],[]=>True
 | x::xs,y::ys=>WkA x y∧BF5 xs ys
 | _,_=>False
theorem BF5.len:∀ {xs ys:List AV},BF5 xs ys→xs.length=ys.length
 | [],[],_=>rfl
 | [],_::_,h=>h.elim
 | _::_,[],h=>h.elim
 | _::_,_::_,h=>by rw [List.length_cons,List.length_cons,BF5.len h.2]
theorem BF5.at:∀ {xs ys:List AV},BF5 xs ys→∀ {j:Nat} {y:AV},ys[j]? = some y→∃ x,xs[j]? = some x∧WkA x y
 | [],[],_,_,_,e=>by simp at e
 | [],_::_,h,_,_,_=>h.elim
 | _::_,[],h,_,_,_=>h.elim
 | x::_,y::_,h,0,z,e=>by cases e;exact ⟨x,rfl,h.1⟩
 | _::_,_::_,h,j+1,z,e=>BF5.at (j:=j) h.2 (by simpa using e)
theorem BF5.args {xs ys:List AV} (h:BF5 xs ys) (c:Cx) (vs:Array Value) (ha:p8 c xs vs):p8 c ys vs :=
 ⟨by rw [ha.1, h.len], fun j y hy => by
  obtain ⟨x,hx,hw⟩:=h.at hy
  obtain ⟨u,hu,hr⟩:=ha.2 j x hx
  exact ⟨u,hu,hw c u hr⟩⟩
theorem wkA_rfl {x:AV}:WkA x x:=fun _ _ h=>h
theorem wkA_nil:WkA .nils (.isl []):=fun c v h=>by
 obtain ⟨A,rfl⟩:=RR_nils.1 h
 exact X0.2 ⟨A,0,rfl,Nat.le_refl _,Nat.zero_le _,fun hne=>absurd rfl hne⟩
theorem wkA_agg {xs ys:List AV} (h:BF5 xs ys):WkA (.agg xs) (.agg ys):=fun c v hv=>by
 obtain ⟨vs,rfl,hs,hc⟩:=U4.1 hv
 refine U4.2 ⟨vs,rfl,by rw [hs,h.len],fun j y hy=>?_⟩
 obtain ⟨x,hx,hw⟩:=h.at hy
 obtain ⟨u,hu,hr,ho⟩:=hc j x hx
 exact ⟨u,hu,hw c u hr,ho⟩
end
end Go.Am
namespace Go.Pol
open Go.Am
end Go.Pol
namespace Go.Proofs.Ytbhgfoikbkaohaa
open Go Go.Am Go.Pol
theorem wk_pl:WkA (.agg [.nils]) (.agg [.isl (([]:List Rl).map rlA)]):=wkA_agg ⟨wkA_nil,trivial⟩
theorem BQ9:Plain (.agg [.nils]):=I5 (Q5 p9)
theorem AD2.weak {f:Nat} {avs avs' cs ds:List AV} {r:AV} (hc:AD2 f avs cs r ds) (hw:BF5 avs' avs) (hp:∀ x ∈ avs',Plain x):AD2 f avs' cs r ds :=
 AD2.mk (hc.out.weak (BF5.args (xs:=.ptr 0 0::avs') (ys:=.ptr 0 0::avs) ⟨wkA_rfl,hw⟩)) hc.pc hc.pd hp hc.pr
theorem LocN.weak {f:Nat} {avs avs' ds:List AV} {e:Int} (hc:LocN f avs e ds) (hw:BF5 avs' avs) (hp:∀ x ∈ avs',Plain x):LocN f avs' e ds :=
 LocN.mk (hc.out.weak (BF5.args hw)) hc.pd hp
theorem n_new:LocN 29 [.agg [.nils]] 0 (Sy.new []).a:=(p_new (l:=[]) (i:=(AD1 []).1) rfl).weak ⟨wk_pl,trivial⟩ (Q5 BQ9)
end Go.Proofs.Ytbhgfoikbkaohaa
namespace Go.Proofs.Ytbhgfoikbkaohaa.Sh
open Go Go.Am Go.Pol
theorem wx_Sxp {p q:Prop} (hq:q) (h:Z5 q→p:=by (intro hQz;((repeat' ((try (conv=>whnf));first|refine sxA ?_|refine sxF ?_|refine BW2 hn ?_|refine cx_WN h0 rfl (by decide) ?_|refine AL5 y1 rfl rfl rfl rfl rfl (by decide) rfl ?_|refine AL5 y2 rfl rfl rfl rfl rfl (by decide) rfl ?_|refine AL5 y3 rfl rfl rfl rfl rfl (by decide) rfl ?_|refine AL5 y4 rfl rfl rfl rfl rfl (by decide) rfl ?_|refine AL5 y5 rfl rfl rfl rfl rfl (by decide) rfl ?_|refine AL5 y6 rfl rfl rfl rfl rfl (by decide) rfl ?_|refine AL5 y7 rfl rfl rfl rfl rfl (by decide) rfl ?_|refine AL5 y8 rfl rfl rfl rfl rfl (by decide) rfl ?_|refine AL5 y9 rfl rfl rfl rfl rfl (by decide) rfl ?_|refine AL5 y10 rfl rfl rfl rfl rfl (by decide) rfl ?_|refine AL5 n5 rfl rfl rfl rfl rfl (by decide) rfl ?_|refine sxH ?_|((with_reducible first|apply V6 hQz|apply V7 hQz)<;>(try intro hsp hQz))|exact hQz.out))<;>(try (conv=>whnf))))):p:=h ⟨hq⟩
theorem k_shown:I6 10 [] (.bool true):=by
 have hn:=n_new
 have hc0:(AD1 []).2=0:=by decide
 have h0:LocWN 28 [.int .i64 8,.int .i64 1,.int .i64 4,.int .i64 2] (Sy.new []) ex0 T0:=w_New (Aj2 hc0) (a:=8) (n:=1) (pg:=4) (sl:=2) (by decide) ex_0
 have g0:D9 ex0:=(Ao9 (l:=[]) (a:=8) (n:=1) (pg:=4) (sl:=2) hc0 (by decide) (by decide) ex_0 ex0 rfl).1
 have k0:WOk ex0 T0:=BK2
 obtain ⟨t1,y1,k1⟩:=AX6 g0 k0 0 1 5
 have g1:D9 ex1:=AA6 g0 0 1 5
 rw [ex_1,show (ex0.write 0 1 5).2=ex1 from rfl] at y1
 rw [show (ex0.write 0 1 5).2=ex1 from rfl] at k1
 obtain ⟨t2,y2,k2⟩:=AX6 g1 k1 64 2 6
 have g2:D9 ex2:=AA6 g1 64 2 6
 rw [ex_2,show (ex1.write 64 2 6).2=ex2 from rfl] at y2
 rw [show (ex1.write 64 2 6).2=ex2 from rfl] at k2
 obtain ⟨t3,y3,k3⟩:=Az4 g2 k2 0 3
 have g3:D9 ex3:=AJ3 g2 0 3
 rw [ex_3.1,ex_3.2,show (ex2.read 0 3).2.2=ex3 from rfl] at y3
 rw [show (ex2.read 0 3).2.2=ex3 from rfl] at k3
 obtain ⟨t4,y4,k4⟩:=Az4 g3 k3 64 4
 have g4:D9 ex4:=AJ3 g3 64 4
 rw [ex_4.1,ex_4.2,show (ex3.read 64 4).2.2=ex4 from rfl] at y4
 rw [show (ex3.read 64 4).2.2=ex4 from rfl] at k4
 obtain ⟨t5,y5,k5⟩:=Az4 g4 k4 128 5
 have g5:D9 ex5:=AJ3 g4 128 5
 rw [ex_5.1,ex_5.2.1,show (ex4.read 128 5).2.2=ex5 from rfl] at y5
 rw [show (ex4.read 128 5).2.2=ex5 from rfl] at k5
 have n5:=BL7 g5 k5
 unfold Sw.save X6 at n5
 rw [ex_5.2.2.1,ex_5.2.2.2] at n5
 obtain ⟨t6,y6,k6⟩:=AX6 g5 k5 128 6 7
 have g6:D9 ex6:=AA6 g5 128 6 7
 rw [ex_6,show (ex5.write 128 6 7).2=ex6 from rfl] at y6
 rw [show (ex5.write 128 6 7).2=ex6 from rfl] at k6
 obtain ⟨t7,y7,k7⟩:=AX6 g6 k6 192 7 8
 have g7:D9 ex7:=AA6 g6 192 7 8
 rw [ex_7,show (ex6.write 192 7 8).2=ex7 from rfl] at y7
 rw [show (ex6.write 192 7 8).2=ex7 from rfl] at k7
 obtain ⟨t8,y8,k8⟩:=w_Out g7 k7 2
 have g8:D9 ex8:=Ap9 g7 2
 rw [ex_8,show (ex7.out 2).2=ex8 from rfl] at y8
 rw [show (ex7.out 2).2=ex8 from rfl] at k8
 obtain ⟨t9,y9,k9⟩:=w_Free g8 k8 0
 have g9:D9 ex9:=BD1 g8 0
 rw [ex_9,show (ex8.fre 0).2=ex9 from rfl] at y9
 rw [show (ex8.fre 0).2=ex9 from rfl] at k9
 obtain ⟨t10,y10,k10⟩:=w_Out g9 k9 2
 rw [ex_10] at y10
 clear g0 g1 g2 g3 g4 g5 g6 g7 g8 g9 k0 k1 k2 k3 k4 k5 k6 k7 k8 k9 k10 hc0
 generalize (ex9.out 2).2=q10 at *
 generalize T0=t0 at *
 generalize Sy.new []=s0 at *
 generalize ex0=q0 at *
 generalize ex1=q1 at *
 generalize ex2=q2 at *
 generalize ex3=q3 at *
 generalize ex4=q4 at *
 generalize ex5=q5 at *
 generalize ex6=q6 at *
 generalize ex7=q7 at *
 generalize ex8=q8 at *
 generalize ex9=q9 at *
 refine I6.mk (O7 F6 b10 G9 trivial D8 rfl ?_)
 unfold c10
 (refine wx_Sxp ?_;repeat' (first|with_reducible refine And.intro ?_ ?_|intro hsp))
 all_goals first|exact U1 rfl|(exfalso;omega)|(exfalso;simp at hsp;done)|(exfalso;simp_all;done)
end Go.Proofs.Ytbhgfoikbkaohaa.Sh
namespace Go.Pol
open Go.Am Go.Proofs.Ytbhgfoikbkaohaa.Sh
def d4:Int × Int × Int × Int:=(0,0,0,0)
section
variable {q q':Sw}
theorem AF8 {j:Nat} (h:j < q.pages.length):nth d4 q.whr j=whE q (nth 0 q.pages j):=by
 unfold Sw.whr
 rw [Y9 (by rw [List.length_map];exact h),Y9 h,List.getElem_map]
theorem whr_at (hg:D9 q) {n:Nat} (hn:q.is n):∃ j,j < q.whr.length∧nth d4 q.whr j=whE q n∧∀ i,i < j→(nth d4 q.whr i).1 ≠ (n:Nat):=by
 obtain ⟨j,hj,e⟩:=List.getElem_of_mem ((AO9 hg).2 hn)
 refine ⟨j,by rw [O6];exact hj,by rw [AF8 hj,Y9 hj,e],fun i hi=>?_⟩
 rw [AF8 (by omega)]
 have:=List.pairwise_iff_getElem.1 (BB6 (w:=q)) i j (by omega) hj hi
 rw [Y9 (by omega:i < q.pages.length)]
 show ((q.pages[i]:Nat):Int) ≠ _
 omega
theorem whr_not (hg:D9 q) {n:Nat} (hn:¬ q.is n):∀ i,i < q.whr.length→(nth d4 q.whr i).1 ≠ (n:Nat):=fun i hi e=>by
 rw [O6] at hi
 rw [AF8 hi] at e
 have h1:q.is (nth 0 q.pages i):=BR6 hg hi
 have : ((nth 0 q.pages i:Nat):Int)=(n:Nat):=e
 exact hn (by rw [show n=nth 0 q.pages i by omega];exact h1)
theorem al_cl {x:SAc} (hw:x.w.toNat % 14 < 10):q.al x=if x.w.toNat % 14 < 6 then q.write x.t x.n x.v else (q.read x.t x.n).2:=by
 unfold Sw.al Sw.call
 by_cases h:x.w.toNat % 14 < 6
 ·rw [if_pos h,if_pos h]
 ·rw [if_neg h,if_neg h,if_pos hw]
structure VicR (q q':Sw) (x:SAc):Prop where
 pg:0≤x.t∧x.t < 16384
 tou:(x.w.toNat % 14 < 6∨q.is (x.t.toNat / 64))→0≤q'.F (x.t.toNat / 64)∧q'.Z (x.t.toNat / 64)=x.n
 left:∀ r,0≤q.F r→¬ 0≤q'.F r→q.vic=some r∧0≤q'.T r
theorem vic_al (hg:D9 q) {x:SAc} (hw:x.w.toNat % 14 < 10) (he:(q.al x).1=0):VicR q (q.al x).2 x:=by
 have hr:=hg.rng
 rw [al_cl hw] at he ⊢
 by_cases c:x.w.toNat % 14 < 6
 ·rw [if_pos c] at he ⊢
  obtain ⟨⟨n1,n2,n3,n4⟩,_,_⟩:=Am1 hg he
  have ht:(q.touch (x.t.toNat / 64) x.n).1=0:=Classical.byContradiction fun hn=>by
   unfold Sw.write at he
   rw [if_neg (Classical.not_not.2 ⟨n1,n2,n3,n4⟩),if_neg hn] at he
   exact hn he
  have e:(q.write x.t x.n x.v).2={ (q.touch (x.t.toNat / 64) x.n).2 with s:=((q.touch (x.t.toNat / 64) x.n).2.byte x.t x.v).2.s }:=by
   unfold Sw.write
   rw [if_neg (Classical.not_not.2 ⟨n1,n2,n3,n4⟩),if_pos ht];rfl
  rw [e]
  rcases AD6 hg (p:=x.t.toNat / 64) x.n with hy|hno
  ·exact ⟨⟨n1,by omega⟩,fun _=>⟨hy.fr,hy.st⟩,fun r h1 h2=>Ad7 hg ht h1 h2⟩
  ·exact absurd ht hno.e
 ·rw [if_neg c] at he ⊢
  obtain ⟨⟨n1,n2,n3,n4⟩,_,_⟩:=BP9 hg he
  by_cases hi:q.is (x.t.toNat / 64)
  ·have ht:(q.touch (x.t.toNat / 64) x.n).1=0:=Classical.byContradiction fun hn=>by
    unfold Sw.read at he
    rw [if_neg (Classical.not_not.2 ⟨n1,n2,n3,n4⟩),if_neg (Classical.not_not.2 hi),if_neg hn] at he
    exact hn he
   have e:(q.read x.t x.n).2.2=(q.touch (x.t.toNat / 64) x.n).2:=by
    unfold Sw.read
    rw [if_neg (Classical.not_not.2 ⟨n1,n2,n3,n4⟩),if_neg (Classical.not_not.2 hi),if_pos ht]
   rw [e]
   rcases AD6 hg (p:=x.t.toNat / 64) x.n with hy|hno
   ·exact ⟨⟨n1,by omega⟩,fun _=>⟨hy.fr,hy.st⟩,fun r h1 h2=>Ad7 hg ht h1 h2⟩
   ·exact absurd ht hno.e
  ·have e:(q.read x.t x.n).2.2=q:=by
    unfold Sw.read
    rw [if_neg (Classical.not_not.2 ⟨n1,n2,n3,n4⟩),if_pos hi]
   rw [e]
   exact ⟨⟨n1,by omega⟩,fun h=>(h.elim (fun h=>absurd h c) fun h=>absurd h hi),fun r h1 h2=>absurd h1 h2⟩
def Ad2 (q q':Sw) (k:Nat):Nat:=((q.pages.take k).filter fun r=>decide (0≤q.F r∧¬ 0≤q'.F r)).length
theorem left_0:((Ad2 q q' 0:Nat):Int)=0:=rfl
theorem BC5 {k:Nat} (h:k < q.pages.length):Ad2 q q' (k+1)=Ad2 q q' k+if 0≤q.F (nth 0 q.pages k)∧¬ 0≤q'.F (nth 0 q.pages k) then 1 else 0:=by
 unfold Ad2
 rw [AN7 (d:=0) h,List.filter_append,List.length_append]
 congr 1
 by_cases c:0≤q.F (nth 0 q.pages k)∧¬ 0≤q'.F (nth 0 q.pages k)
 ·rw [if_pos c,List.filter_cons_of_pos (by simpa using c)];rfl
 ·rw [if_neg c,List.filter_cons_of_neg (by simpa using c)];rfl
theorem Ai9 {x:SAc} (h:VicR q q' x) (k:Nat):Ad2 q q' k≤1:=by
 unfold Ad2
 refine fil_uniq ((List.take_sublist _ _).nodup BB7) fun a _ b _ ha hb=>?_
 have h1:=of_decide_eq_true ha
 have h2:=of_decide_eq_true hb
 have e1:=(h.left a h1.1 h1.2).1
 have e2:=(h.left b h2.1 h2.2).1
 rw [e1] at e2
 exact Option.some.inj e2
end
end Go.Pol
namespace Go.Proofs.Ytbhgfoikbkaohaa.Sh
open Go Go.Am Go.Pol
theorem plx_Syc {p:Prop} (h:p:=by ((first|exact plw|(with_reducible first|apply U2|apply G6 _|apply G8 _|apply G7 _|apply AE0|apply Q0|apply P5|apply O8|apply AZ0 _|apply AA2 _|apply AR7|apply p9|apply X9 Y6|apply X9 AG0|apply AY9 _|apply I5 X8|fail)|fail);first|done|fail)):p:=h
theorem ppx_Syc {p:Prop} (h:p:=by ((first|with_reducible assumption|(with_reducible first|apply F5|apply Ab8|apply AY7|apply AJ5|apply AZ7|apply AO1 _|apply AG1 _|apply hpp|apply X8|apply Y6 _|apply BO6 _|fail)|exact ppw|fail);first|done|fail)):p:=h
open Go.Proofs.Ytbhgfoikbkaohaa.Sh renaming plx_Syc → plx
open Go.Proofs.Ytbhgfoikbkaohaa.Sh renaming ppx_Syc → ppx
theorem wx_Syc {p q:Prop} (hq:q) (h:Z5 q→p:=by (intro hQz;((repeat' ((try (conv=>whnf));first|refine sxA ?_|refine AE8 (d:=d4) AY0 (by first|assumption|omega) (by with_reducible assumption) ?_|refine AE8 (d:=dSA) BA4 (by first|assumption|omega) (by with_reducible assumption) ?_|refine AC9 (by with_reducible assumption) ?_|refine AC9 hq64 ?_|refine AE8 (d:=d4) AY0 hwl hnt ?_|refine sxF ?_|refine J2 hf ?_|refine J2 hsh ?_|refine J2 hb ?_|refine cx_BE hb ?_|refine cx_WB hb ?_|refine AL5 hS1 rfl rfl rfl rfl rfl (by decide) rfl ?_|refine AL5 hV rfl rfl rfl rfl rfl (by decide) rfl ?_|refine cx_A hA rfl rfl rfl rfl rfl (by decide) rfl ?_|refine AL5 hS2 rfl rfl rfl rfl rfl (by decide) rfl ?_|refine J2 hW1 ?_|refine J2 hW2 ?_|refine J2 hW3 ?_|refine J2 hOld ?_|refine sxH ?_|((with_reducible first|apply V6 hQz|apply V7 hQz)<;>(try intro hsp hQz))|exact hQz.out))<;>(try (conv=>whnf))))):p:=h ⟨hq⟩
theorem AY9 (x:Int × Int × Int × Int):Plain (.agg (swA x)):=I5 (Y6 x)
theorem BO6 (q:Sw):∀ x ∈ [AV.int .i64 (q.a:Nat),.int .i64 (q.n:Nat),.int .i64 (q.pg:Nat),.int .i64 (q.sl:Nat),.isl (q.whr.map swA),.isl (q.dsk.map swD),.int .i64 q.ins,.int .i64 q.outs],Plain x:=X8
section
variable {a n pg sl i o:Int} {W:List (Int × Int × Int × Int)} {D:List (Int × (Nat→Int))}
theorem AI3 {x:Int × Int × Int × Int} {b:Bool}:Plain (.tup [.agg (swA x),.bool b]):=F3 (I4 (AY9 x) D8)
theorem BI3 {m:Int} (hl:W.length≤256) (h:∀ i,i < W.length→(nth d4 W i).1 ≠ m):I6 16 [.agg (X6 a n pg sl W D i o),.int .i64 m] (.tup [.agg (swA d4),.bool false]):=by
 refine I6.mk (O7 F6 b16 G9 ⟨I5 X8,A8,trivial⟩ AI3 rfl ?_)
 unfold c16
 unfold X6
 (refine wx_Syc ?_;repeat' (first|with_reducible refine And.intro ?_ ?_|intro hsp))
 (refine O4 [1,2,4] (fun (j:Nat)=>[(6,.int .i64 (j:Nat))]) (fun (j:Nat)=>⟨[(0,.cells [.int .i64 a,.int .i64 n,.int .i64 pg,.int .i64 sl,.isl (W.map swA),.isl (D.map swD),.int .i64 i,.int .i64 o]),(1,.cells [.int .i64 0,.int .i64 0,.int .i64 0,.int .i64 0])],2⟩) (fun (j:Nat)=>j≤W.length) (fun (j:Nat)=>W.length - j) (0) [] rfl (fun _=>by first|exact Nat.zero_le _|(dsimp only;omega)) ?_ (by ((try (conv=>whnf));exact K4)) ?_)
 ·exact Nat.zero_le _
 intro j hj
 by_cases hjl:j < W.length
 ·have hne:=h j hjl
  generalize hx:nth d4 W j=x at *
  (refine wx_Syc ?_;repeat' (first|with_reducible refine And.intro ?_ ?_|intro hsp))
  all_goals first|(exfalso;omega)|exact F9 (j+1) [] (by (try dsimp only);omega) (by first|omega|(dsimp only;omega)) rfl (by exact K4)
 ·(refine wx_Syc ?_;repeat' (first|with_reducible refine And.intro ?_ ?_|intro hsp))
  all_goals first|(exfalso;omega)|exact I9 rfl AI3
theorem Aw6 {m:Int} {k:Nat} (hl:W.length≤256) (hk:k < W.length) {y:Int × Int × Int × Int} (he:nth d4 W k=y) (hy:y.1=m) (h:∀ i,i < k→(nth d4 W i).1 ≠ m):I6 16 [.agg (X6 a n pg sl W D i o),.int .i64 m] (.tup [.agg (swA y),.bool true]):=by
 refine I6.mk (O7 F6 b16 G9 ⟨I5 X8,A8,trivial⟩ AI3 rfl ?_)
 unfold c16
 unfold X6
 (refine wx_Syc ?_;repeat' (first|with_reducible refine And.intro ?_ ?_|intro hsp))
 (refine O4 [1,2,4] (fun (j:Nat)=>[(6,.int .i64 (j:Nat))]) (fun (j:Nat)=>⟨[(0,.cells [.int .i64 a,.int .i64 n,.int .i64 pg,.int .i64 sl,.isl (W.map swA),.isl (D.map swD),.int .i64 i,.int .i64 o]),(1,.cells [.int .i64 0,.int .i64 0,.int .i64 0,.int .i64 0])],2⟩) (fun (j:Nat)=>j≤k) (fun (j:Nat)=>k - j) (0) [] rfl (fun _=>by first|exact Nat.zero_le _|(dsimp only;omega)) ?_ (by ((try (conv=>whnf));exact K4)) ?_)
 ·exact Nat.zero_le _
 intro j hj
 by_cases hjl:j < k
 ·have hne:=h j hjl
  have hjw:j < W.length:=by omega
  generalize hx:nth d4 W j=x at *
  (refine wx_Syc ?_;repeat' (first|with_reducible refine And.intro ?_ ?_|intro hsp))
  all_goals first|(exfalso;omega)|exact F9 (j+1) [] (by (try dsimp only);omega) (by first|omega|(dsimp only;omega)) rfl (by exact K4)
 ·obtain rfl:j=k:=by omega
  (refine wx_Syc ?_;repeat' (first|with_reducible refine And.intro ?_ ?_|intro hsp))
  all_goals first|(exfalso;omega)|exact I9 rfl AI3
theorem k_oldest {y:Int × Int × Int × Int} (hl:W.length≤256) (h:∀ i,i < W.length→0≤(nth d4 W i).2.1→y.2.2.2 < (nth d4 W i).2.2.2∨(y.2.2.2=(nth d4 W i).2.2.2∧y.1≤(nth d4 W i).1)):I6 17 [.agg (X6 a n pg sl W D i o),.agg (swA y)] (.bool true):=by
 refine I6.mk (O7 F6 b17 G9 ⟨I5 X8,AY9 y,trivial⟩ D8 rfl ?_)
 unfold c17
 unfold X6
 (refine wx_Syc ?_;repeat' (first|with_reducible refine And.intro ?_ ?_|intro hsp))
 (refine O4 [2,3] (fun (j:Nat)=>[(5,.int .i64 (j:Nat))]) (fun (j:Nat)=>⟨[(0,.cells [.int .i64 a,.int .i64 n,.int .i64 pg,.int .i64 sl,.isl (W.map swA),.isl (D.map swD),.int .i64 i,.int .i64 o]),(1,.cells [.int .i64 y.1,.int .i64 y.2.1,.int .i64 y.2.2.1,.int .i64 y.2.2.2])],2⟩) (fun (j:Nat)=>j≤W.length) (fun (j:Nat)=>W.length - j) (0) [] rfl (fun _=>by first|exact Nat.zero_le _|(dsimp only;omega)) ?_ (by ((try (conv=>whnf));exact K4)) ?_)
 ·exact Nat.zero_le _
 intro j hj
 by_cases hjl:j < W.length
 ·have hne:=h j hjl
  generalize hx:nth d4 W j=x at *
  (refine wx_Syc ?_;repeat' (first|with_reducible refine And.intro ?_ ?_|intro hsp))
  all_goals first|(exfalso;omega)|exact F9 (j+1) [] (by (try dsimp only);omega) (by first|omega|(dsimp only;omega)) rfl (by exact K4)
 ·(refine wx_Syc ?_;repeat' (first|with_reducible refine And.intro ?_ ?_|intro hsp))
  all_goals first|(exfalso;omega)|exact U1 rfl
end
section
variable {q:Sw}
def AV1 (q:Sw) (n:Nat):Int × Int × Int × Int:=if q.is n then whE q n else d4
theorem AJ1 (hg:D9 q) (n:Nat):I6 16 [.agg q.save,.int .i64 (n:Nat)] (.tup [.agg (swA (AV1 q n)),.bool (decide (q.is n))]):=by
 have hl:=AA3 hg
 unfold AV1 Sw.save
 by_cases h:q.is n
 ·rw [if_pos h,decide_eq_true h]
  obtain ⟨j,h1,h2,h3⟩:=whr_at hg h
  exact Aw6 (by rw [O6];exact hl) h1 h2 rfl h3
 ·rw [if_neg h,decide_eq_false h]
  exact BI3 (by rw [O6];exact hl) (whr_not hg h)
theorem AP5 (hg:D9 q) {v:Nat} (hv:q.vic=some v):I6 17 [.agg q.save,.agg (swA (whE q v))] (.bool true):=by
 have hl:=AA3 hg
 unfold Sw.save
 refine k_oldest (by rw [O6];exact hl) fun i hi hF=>?_
 rw [O6] at hi
 rw [AF8 hi] at hF ⊢
 obtain ⟨_,_,h3⟩:=(AD5 (w:=q) q.pg).1 v hv
 have:=h3 (nth 0 q.pages i) (AB3 hg hF) hF
 show q.Z v < q.Z _∨q.Z v=q.Z _∧((v:Nat):Int)≤((nth 0 q.pages i:Nat):Int)
 omega
end
set_option maxRecDepth 20000 in
theorem BT0 (p:SPy) (hl:p.X.length≤maxLen) (hwf:∀ x ∈ p.X,0≤x.w):I6 5 [.agg (AY2 p)] (.bool true):=by
 have hl:p.X.length≤9223372036854775807:=hl
 obtain ⟨b,hf,hfb⟩:=k_far p hl
 have hsh:=k_shown
 have hpp:=AG1 p
 refine I6.mk (O7 F6 b5 G9 ⟨AA2 p,trivial⟩ D8 rfl ?_)
 unfold c5
 have hbg:=l_begun p
 cases b with
 | true =>
  unfold AY2 at *
  (refine wx_Syc ?_;repeat' (first|with_reducible refine And.intro ?_ ?_|intro hsp))
  all_goals exact U1 rfl
 | false =>
 clear hfb
 rcases hbg with ⟨e,he,-,hb⟩ | ⟨e,ds,he,hb⟩ | ⟨hc,hst,he,hb⟩
 ·unfold AY2 at *
  (refine wx_Syc ?_;repeat' (first|with_reducible refine And.intro ?_ ?_|intro hsp))
  all_goals first|exact U1 rfl|(exfalso;omega)
 ·unfold AY2 at *
  (refine wx_Syc ?_;repeat' (first|with_reducible refine And.intro ?_ ?_|intro hsp))
  all_goals first|exact U1 rfl|(exfalso;omega)
 have h0:D9 p.b:=by
  obtain ⟨n1,n2,n3,n4,n5,n6,n7,n8⟩:=hst
  exact (Ao9 (l:=p.l) (a:=p.a) (n:=p.n) (pg:=p.pg.toNat) (sl:=p.sl.toNat) hc ⟨n1,n3,by omega⟩ ⟨by omega,by omega,by omega⟩ he p.b rfl).1
 have ho0:WOk p.b T0:=BK2
 clear hc hst he
 generalize p.b=b0 at *
 generalize T0=t0 at *
 unfold AY2 at *
 (refine wx_Syc ?_;repeat' (first|with_reducible refine And.intro ?_ ?_|intro hsp))
 (refine O4 [1,3,4] (fun (z:Nat × Sw × WS)=>[(6,.int .i64 (z.1:Nat))]) (fun (z:Nat × Sw × WS)=>⟨[(0,.cells [.int .i64 p.a,.int .i64 p.n,.int .i64 p.pg,.int .i64 p.sl,.isl (p.l.map rlA),.isl (p.X.map AY5)])]++stN z.2.1 z.2.2 1 2 3 4 5,6⟩) (fun (z:Nat × Sw × WS)=>z.1≤p.X.length∧D9 z.2.1∧WOk z.2.1 z.2.2) (fun (z:Nat × Sw × WS)=>p.X.length - z.1) ((0,b0,t0)) [] rfl (fun _=>by first|exact Nat.zero_le _|(dsimp only;omega)) ?_ (by ((try (conv=>whnf));exact K4)) ?_)
 ·exact ⟨Nat.zero_le _,h0,ho0⟩
 rintro ⟨i,q,t⟩ ⟨hi,hG,hO⟩
 dsimp only at hi hG hO ⊢
 clear h0 ho0 hb
 by_cases hil:i < p.X.length
 ·have hw0:=hwf _ (AZ4 (d:=dSA) hil)
  generalize hx:nth dSA p.X i=x at *
  have e0:x.w.tmod 14=x.w % 14:=Int.tmod_eq_emod_of_nonneg hw0
  have hm:((x.w.toNat % 14:Nat):Int)=x.w.tmod 14:=by rw [e0];omega
  obtain ⟨t',hO',hA⟩:=l_alone hG hO x hw0
  have hG':=good_al hG x
  have hS1:=BL7 hG hO
  have hS2:=BL7 hG' hO'
  obtain ⟨vv,vn,hV,hvv⟩:∃ vv vn:Int,K3 15 [] q t (.tup [.int .i64 vv,.int .i64 vn]) q t∧∀ v:Nat,q.vic=some v→vv=(v:Nat)∧vn=0:=by
   have h3:=w_Victim hG hO
   cases hv:q.vic with
   | none=>rw [hv] at h3;exact ⟨0,4,h3,fun v h=>by cases h⟩
   | some v=>rw [hv] at h3;exact ⟨(v:Nat),0,h3,fun v' h=>by cases h;exact ⟨rfl,rfl⟩⟩
  by_cases hgo:x.w.toNat % 14 < 10∧(q.al x).1=0
  ·have hR:=vic_al hG hgo.1 hgo.2
   rw [hgo.2] at hA
   have hlt:x.w.toNat % 14 < 10:=hgo.1
   have hlz:=left_0 (q:=q) (q':=(q.al x).2)
   generalize (q.al x).2=q' at *
   obtain ⟨⟨a1,a2⟩,hR2,hR3⟩:=hR
   obtain ⟨a,ha⟩:=Int.eq_ofNat_of_zero_le a1
   have eta:x.t.toNat=a:=by omega
   rw [eta] at hR2
   rw [ha] at a2
   have hq64:=q64 (t:=a) (by omega)
   have hW1:=AJ1 hG (a / 64)
   have hW2:=AJ1 hG' (a / 64)
   have hok:(x.w.tmod 14 < 6∨q.is (a / 64))→q'.is (a / 64)∧0≤(AV1 q' (a / 64)).2.1∧(AV1 q' (a / 64)).2.2.2=x.n:=fun h=>by
    obtain ⟨k1,k2⟩:=hR2 (h.imp (fun h=>by omega) id)
    have k3:q'.is (a / 64):=.inl k1
    unfold AV1
    rw [if_pos k3]
    exact ⟨k3,k1,k2⟩
   have hleft:VicR q q' x:=⟨⟨by omega,by omega⟩,by rw [eta];exact hR2,hR3⟩
   clear hR2 hwf hgo
   by_cases c6:x.w.tmod 14 < 6<;>by_cases hq:q.is (a / 64)
   ·rw [decide_eq_true hq] at hW1
    obtain ⟨k1,k2,k3⟩:=hok (.inl c6)
    rw [decide_eq_true k1] at hW2
    clear hok
    generalize AV1 q (a / 64)=y1 at *
    generalize AV1 q' (a / 64)=y2 at *
    unfold Sw.save X6 at hS1 hS2 hW1 hW2
    unfold stN stC
    obtain ⟨xw,xp,xt,xn,xv,xl⟩:=x
    dsimp only at *
    subst ha
    (refine wx_Syc ?_;repeat' (first|with_reducible refine And.intro ?_ ?_|intro hsp))
    (refine O4 [1,3,4,6,8,9,10,12] (fun (k:Nat)=>[(18,.int .i64 (Ad2 q q' k:Nat)),(19,.int .i64 (k:Nat))]) (fun (k:Nat)=>⟨[(0,.cells [.int .i64 p.a,.int .i64 p.n,.int .i64 p.pg,.int .i64 p.sl,.isl (p.l.map rlA),.isl (p.X.map AY5)])]++stN q' t' 1 2 3 4 5++[(7,.cells [.int .i64 (q.a:Nat),.int .i64 (q.n:Nat),.int .i64 (q.pg:Nat),.int .i64 (q.sl:Nat),.isl (q.whr.map swA),.isl (q.dsk.map swD),.int .i64 q.ins,.int .i64 q.outs]),(8,.cells [.int .i64 (q'.a:Nat),.int .i64 (q'.n:Nat),.int .i64 (q'.pg:Nat),.int .i64 (q'.sl:Nat),.isl (q'.whr.map swA),.isl (q'.dsk.map swD),.int .i64 q'.ins,.int .i64 q'.outs])],9⟩) (fun (k:Nat)=>k≤q.pages.length) (fun (k:Nat)=>q.pages.length - k) (0) [] rfl (fun _=>by first|exact Nat.zero_le _|(dsimp only;omega)) ?_ (by ((try (conv=>whnf));(rw [hlz]);exact K4)) ?_)
    ·exact Nat.zero_le _
    clear k1 k2 k3 hA hS1 hS2 hV hW1 hW2
    intro k hk
    have hkc:=Ai9 hleft k
    have hwq:=O6 (w:=q)
    by_cases hkl:k < q.pages.length
    ·have hls:=BC5 (q:=q) (q':=q') hkl
     have hnt:=AF8 (q:=q) hkl
     have hwl:k < q.whr.length:=by rw [O6];exact hkl
     have hwb:q.whr.length≤256:=by rw [O6];exact AA3 hG
     generalize nth 0 q.pages k=r at *
     have hW3:=AJ1 hG' r
     have hy1:(whE q r).1=((r:Nat):Int):=rfl
     have hy2:(whE q r).2.1=q.F r:=rfl
     rw [← hy1] at hW3
     by_cases hF:0≤q.F r
     ·by_cases hF':0≤q'.F r
      ·rw [if_neg (fun h=>h.2 hF')] at hls
       unfold AV1 at hW3
       rw [if_pos (show q'.is r from .inl hF'),decide_eq_true (show q'.is r from .inl hF')] at hW3
       have hy3:(whE q' r).2.1=q'.F r:=rfl
       generalize whE q r=y0 at *
       generalize whE q' r=y3 at *
       unfold Sw.save X6 at hW3
       unfold stN stC
       (refine wx_Syc ?_;repeat' (first|with_reducible refine And.intro ?_ ?_|intro hsp))
       all_goals first|(exfalso;omega)|(exfalso;simp at hsp;done)|exact F9 (k+1) [] (by (try dsimp only);omega) (by first|omega|(dsimp only;omega)) rfl (by ((try dsimp only);rw [hls]);exact K4)
      ·obtain ⟨v1,v2⟩:=hR3 r hF hF'
       rw [if_pos ⟨hF,hF'⟩] at hls
       unfold AV1 at hW3
       rw [if_pos (show q'.is r from .inr v2),decide_eq_true (show q'.is r from .inr v2)] at hW3
       obtain ⟨e1,e2⟩:=hvv r v1
       have hOld:=AP5 hG v1
       subst e1
       subst e2
       have hy3:(whE q' r).2.1=q'.F r:=rfl
       have hy4:(whE q' r).2.2.1=q'.T r:=rfl
       generalize whE q r=y0 at *
       generalize whE q' r=y3 at *
       unfold Sw.save X6 at hW3 hOld
       unfold stN stC
       (refine wx_Syc ?_;repeat' (first|with_reducible refine And.intro ?_ ?_|intro hsp))
       all_goals first|(exfalso;omega)|(exfalso;simp at hsp;done)|exact F9 (k+1) [] (by (try dsimp only);omega) (by first|omega|(dsimp only;omega)) rfl (by ((try dsimp only);rw [hls]);exact K4)
     ·rw [if_neg (fun h=>hF h.1)] at hls
      generalize AV1 q' r=y3 at *
      generalize decide (q'.is r)=b3 at *
      generalize whE q r=y0 at *
      unfold Sw.save X6 at hW3
      unfold stN stC
      (refine wx_Syc ?_;repeat' (first|with_reducible refine And.intro ?_ ?_|intro hsp))
      all_goals first|(exfalso;omega)|(exfalso;simp at hsp;done)|exact F9 (k+1) [] (by (try dsimp only);omega) (by first|omega|(dsimp only;omega)) rfl (by ((try dsimp only);rw [hls]);exact K4)
    ·unfold stN stC
     (refine wx_Syc ?_;repeat' (first|with_reducible refine And.intro ?_ ?_|intro hsp))
     all_goals first|(exfalso;omega)|(exfalso;simp at hsp;done)|exact F9 ((i+1,q',t')) [] ⟨hil,hG',hO'⟩ (by first|omega|(dsimp only;omega)) rfl (by exact K4)
   ·rw [decide_eq_false hq] at hW1
    obtain ⟨k1,k2,k3⟩:=hok (.inl c6)
    rw [decide_eq_true k1] at hW2
    clear hok
    generalize AV1 q (a / 64)=y1 at *
    generalize AV1 q' (a / 64)=y2 at *
    unfold Sw.save X6 at hS1 hS2 hW1 hW2
    unfold stN stC
    obtain ⟨xw,xp,xt,xn,xv,xl⟩:=x
    dsimp only at *
    subst ha
    (refine wx_Syc ?_;repeat' (first|with_reducible refine And.intro ?_ ?_|intro hsp))
    (refine O4 [1,3,4,6,8,9,10,12] (fun (k:Nat)=>[(18,.int .i64 (Ad2 q q' k:Nat)),(19,.int .i64 (k:Nat))]) (fun (k:Nat)=>⟨[(0,.cells [.int .i64 p.a,.int .i64 p.n,.int .i64 p.pg,.int .i64 p.sl,.isl (p.l.map rlA),.isl (p.X.map AY5)])]++stN q' t' 1 2 3 4 5++[(7,.cells [.int .i64 (q.a:Nat),.int .i64 (q.n:Nat),.int .i64 (q.pg:Nat),.int .i64 (q.sl:Nat),.isl (q.whr.map swA),.isl (q.dsk.map swD),.int .i64 q.ins,.int .i64 q.outs]),(8,.cells [.int .i64 (q'.a:Nat),.int .i64 (q'.n:Nat),.int .i64 (q'.pg:Nat),.int .i64 (q'.sl:Nat),.isl (q'.whr.map swA),.isl (q'.dsk.map swD),.int .i64 q'.ins,.int .i64 q'.outs])],9⟩) (fun (k:Nat)=>k≤q.pages.length) (fun (k:Nat)=>q.pages.length - k) (0) [] rfl (fun _=>by first|exact Nat.zero_le _|(dsimp only;omega)) ?_ (by ((try (conv=>whnf));(rw [hlz]);exact K4)) ?_)
    ·exact Nat.zero_le _
    clear k1 k2 k3 hA hS1 hS2 hV hW1 hW2
    intro k hk
    have hkc:=Ai9 hleft k
    have hwq:=O6 (w:=q)
    by_cases hkl:k < q.pages.length
    ·have hls:=BC5 (q:=q) (q':=q') hkl
     have hnt:=AF8 (q:=q) hkl
     have hwl:k < q.whr.length:=by rw [O6];exact hkl
     have hwb:q.whr.length≤256:=by rw [O6];exact AA3 hG
     generalize nth 0 q.pages k=r at *
     have hW3:=AJ1 hG' r
     have hy1:(whE q r).1=((r:Nat):Int):=rfl
     have hy2:(whE q r).2.1=q.F r:=rfl
     rw [← hy1] at hW3
     by_cases hF:0≤q.F r
     ·by_cases hF':0≤q'.F r
      ·rw [if_neg (fun h=>h.2 hF')] at hls
       unfold AV1 at hW3
       rw [if_pos (show q'.is r from .inl hF'),decide_eq_true (show q'.is r from .inl hF')] at hW3
       have hy3:(whE q' r).2.1=q'.F r:=rfl
       generalize whE q r=y0 at *
       generalize whE q' r=y3 at *
       unfold Sw.save X6 at hW3
       unfold stN stC
       (refine wx_Syc ?_;repeat' (first|with_reducible refine And.intro ?_ ?_|intro hsp))
       all_goals first|(exfalso;omega)|(exfalso;simp at hsp;done)|exact F9 (k+1) [] (by (try dsimp only);omega) (by first|omega|(dsimp only;omega)) rfl (by ((try dsimp only);rw [hls]);exact K4)
      ·obtain ⟨v1,v2⟩:=hR3 r hF hF'
       rw [if_pos ⟨hF,hF'⟩] at hls
       unfold AV1 at hW3
       rw [if_pos (show q'.is r from .inr v2),decide_eq_true (show q'.is r from .inr v2)] at hW3
       obtain ⟨e1,e2⟩:=hvv r v1
       have hOld:=AP5 hG v1
       subst e1
       subst e2
       have hy3:(whE q' r).2.1=q'.F r:=rfl
       have hy4:(whE q' r).2.2.1=q'.T r:=rfl
       generalize whE q r=y0 at *
       generalize whE q' r=y3 at *
       unfold Sw.save X6 at hW3 hOld
       unfold stN stC
       (refine wx_Syc ?_;repeat' (first|with_reducible refine And.intro ?_ ?_|intro hsp))
       all_goals first|(exfalso;omega)|(exfalso;simp at hsp;done)|exact F9 (k+1) [] (by (try dsimp only);omega) (by first|omega|(dsimp only;omega)) rfl (by ((try dsimp only);rw [hls]);exact K4)
     ·rw [if_neg (fun h=>hF h.1)] at hls
      generalize AV1 q' r=y3 at *
      generalize decide (q'.is r)=b3 at *
      generalize whE q r=y0 at *
      unfold Sw.save X6 at hW3
      unfold stN stC
      (refine wx_Syc ?_;repeat' (first|with_reducible refine And.intro ?_ ?_|intro hsp))
      all_goals first|(exfalso;omega)|(exfalso;simp at hsp;done)|exact F9 (k+1) [] (by (try dsimp only);omega) (by first|omega|(dsimp only;omega)) rfl (by ((try dsimp only);rw [hls]);exact K4)
    ·unfold stN stC
     (refine wx_Syc ?_;repeat' (first|with_reducible refine And.intro ?_ ?_|intro hsp))
     all_goals first|(exfalso;omega)|(exfalso;simp at hsp;done)|exact F9 ((i+1,q',t')) [] ⟨hil,hG',hO'⟩ (by first|omega|(dsimp only;omega)) rfl (by exact K4)
   ·rw [decide_eq_true hq] at hW1
    obtain ⟨k1,k2,k3⟩:=hok (.inr hq)
    rw [decide_eq_true k1] at hW2
    clear hok
    generalize AV1 q (a / 64)=y1 at *
    generalize AV1 q' (a / 64)=y2 at *
    unfold Sw.save X6 at hS1 hS2 hW1 hW2
    unfold stN stC
    obtain ⟨xw,xp,xt,xn,xv,xl⟩:=x
    dsimp only at *
    subst ha
    (refine wx_Syc ?_;repeat' (first|with_reducible refine And.intro ?_ ?_|intro hsp))
    (refine O4 [1,3,4,6,8,9,10,12] (fun (k:Nat)=>[(18,.int .i64 (Ad2 q q' k:Nat)),(19,.int .i64 (k:Nat))]) (fun (k:Nat)=>⟨[(0,.cells [.int .i64 p.a,.int .i64 p.n,.int .i64 p.pg,.int .i64 p.sl,.isl (p.l.map rlA),.isl (p.X.map AY5)])]++stN q' t' 1 2 3 4 5++[(7,.cells [.int .i64 (q.a:Nat),.int .i64 (q.n:Nat),.int .i64 (q.pg:Nat),.int .i64 (q.sl:Nat),.isl (q.whr.map swA),.isl (q.dsk.map swD),.int .i64 q.ins,.int .i64 q.outs]),(8,.cells [.int .i64 (q'.a:Nat),.int .i64 (q'.n:Nat),.int .i64 (q'.pg:Nat),.int .i64 (q'.sl:Nat),.isl (q'.whr.map swA),.isl (q'.dsk.map swD),.int .i64 q'.ins,.int .i64 q'.outs])],9⟩) (fun (k:Nat)=>k≤q.pages.length) (fun (k:Nat)=>q.pages.length - k) (0) [] rfl (fun _=>by first|exact Nat.zero_le _|(dsimp only;omega)) ?_ (by ((try (conv=>whnf));(rw [hlz]);exact K4)) ?_)
    ·exact Nat.zero_le _
    clear k1 k2 k3 hA hS1 hS2 hV hW1 hW2
    intro k hk
    have hkc:=Ai9 hleft k
    have hwq:=O6 (w:=q)
    by_cases hkl:k < q.pages.length
    ·have hls:=BC5 (q:=q) (q':=q') hkl
     have hnt:=AF8 (q:=q) hkl
     have hwl:k < q.whr.length:=by rw [O6];exact hkl
     have hwb:q.whr.length≤256:=by rw [O6];exact AA3 hG
     generalize nth 0 q.pages k=r at *
     have hW3:=AJ1 hG' r
     have hy1:(whE q r).1=((r:Nat):Int):=rfl
     have hy2:(whE q r).2.1=q.F r:=rfl
     rw [← hy1] at hW3
     by_cases hF:0≤q.F r
     ·by_cases hF':0≤q'.F r
      ·rw [if_neg (fun h=>h.2 hF')] at hls
       unfold AV1 at hW3
       rw [if_pos (show q'.is r from .inl hF'),decide_eq_true (show q'.is r from .inl hF')] at hW3
       have hy3:(whE q' r).2.1=q'.F r:=rfl
       generalize whE q r=y0 at *
       generalize whE q' r=y3 at *
       unfold Sw.save X6 at hW3
       unfold stN stC
       (refine wx_Syc ?_;repeat' (first|with_reducible refine And.intro ?_ ?_|intro hsp))
       all_goals first|(exfalso;omega)|(exfalso;simp at hsp;done)|exact F9 (k+1) [] (by (try dsimp only);omega) (by first|omega|(dsimp only;omega)) rfl (by ((try dsimp only);rw [hls]);exact K4)
      ·obtain ⟨v1,v2⟩:=hR3 r hF hF'
       rw [if_pos ⟨hF,hF'⟩] at hls
       unfold AV1 at hW3
       rw [if_pos (show q'.is r from .inr v2),decide_eq_true (show q'.is r from .inr v2)] at hW3
       obtain ⟨e1,e2⟩:=hvv r v1
       have hOld:=AP5 hG v1
       subst e1
       subst e2
       have hy3:(whE q' r).2.1=q'.F r:=rfl
       have hy4:(whE q' r).2.2.1=q'.T r:=rfl
       generalize whE q r=y0 at *
       generalize whE q' r=y3 at *
       unfold Sw.save X6 at hW3 hOld
       unfold stN stC
       (refine wx_Syc ?_;repeat' (first|with_reducible refine And.intro ?_ ?_|intro hsp))
       all_goals first|(exfalso;omega)|(exfalso;simp at hsp;done)|exact F9 (k+1) [] (by (try dsimp only);omega) (by first|omega|(dsimp only;omega)) rfl (by ((try dsimp only);rw [hls]);exact K4)
     ·rw [if_neg (fun h=>hF h.1)] at hls
      generalize AV1 q' r=y3 at *
      generalize decide (q'.is r)=b3 at *
      generalize whE q r=y0 at *
      unfold Sw.save X6 at hW3
      unfold stN stC
      (refine wx_Syc ?_;repeat' (first|with_reducible refine And.intro ?_ ?_|intro hsp))
      all_goals first|(exfalso;omega)|(exfalso;simp at hsp;done)|exact F9 (k+1) [] (by (try dsimp only);omega) (by first|omega|(dsimp only;omega)) rfl (by ((try dsimp only);rw [hls]);exact K4)
    ·unfold stN stC
     (refine wx_Syc ?_;repeat' (first|with_reducible refine And.intro ?_ ?_|intro hsp))
     all_goals first|(exfalso;omega)|(exfalso;simp at hsp;done)|exact F9 ((i+1,q',t')) [] ⟨hil,hG',hO'⟩ (by first|omega|(dsimp only;omega)) rfl (by exact K4)
   ·rw [decide_eq_false hq] at hW1
    clear hok
    generalize AV1 q (a / 64)=y1 at *
    generalize AV1 q' (a / 64)=y2 at *
    unfold Sw.save X6 at hS1 hS2 hW1 hW2
    unfold stN stC
    obtain ⟨xw,xp,xt,xn,xv,xl⟩:=x
    dsimp only at *
    subst ha
    (refine wx_Syc ?_;repeat' (first|with_reducible refine And.intro ?_ ?_|intro hsp))
    (refine O4 [1,3,4,6,8,9,10,12] (fun (k:Nat)=>[(18,.int .i64 (Ad2 q q' k:Nat)),(19,.int .i64 (k:Nat))]) (fun (k:Nat)=>⟨[(0,.cells [.int .i64 p.a,.int .i64 p.n,.int .i64 p.pg,.int .i64 p.sl,.isl (p.l.map rlA),.isl (p.X.map AY5)])]++stN q' t' 1 2 3 4 5++[(7,.cells [.int .i64 (q.a:Nat),.int .i64 (q.n:Nat),.int .i64 (q.pg:Nat),.int .i64 (q.sl:Nat),.isl (q.whr.map swA),.isl (q.dsk.map swD),.int .i64 q.ins,.int .i64 q.outs]),(8,.cells [.int .i64 (q'.a:Nat),.int .i64 (q'.n:Nat),.int .i64 (q'.pg:Nat),.int .i64 (q'.sl:Nat),.isl (q'.whr.map swA),.isl (q'.dsk.map swD),.int .i64 q'.ins,.int .i64 q'.outs])],9⟩) (fun (k:Nat)=>k≤q.pages.length) (fun (k:Nat)=>q.pages.length - k) (0) [] rfl (fun _=>by first|exact Nat.zero_le _|(dsimp only;omega)) ?_ (by ((try (conv=>whnf));(rw [hlz]);exact K4)) ?_)
    ·exact Nat.zero_le _
    clear hA hS1 hS2 hV hW1 hW2
    intro k hk
    have hkc:=Ai9 hleft k
    have hwq:=O6 (w:=q)
    by_cases hkl:k < q.pages.length
    ·have hls:=BC5 (q:=q) (q':=q') hkl
     have hnt:=AF8 (q:=q) hkl
     have hwl:k < q.whr.length:=by rw [O6];exact hkl
     have hwb:q.whr.length≤256:=by rw [O6];exact AA3 hG
     generalize nth 0 q.pages k=r at *
     have hW3:=AJ1 hG' r
     have hy1:(whE q r).1=((r:Nat):Int):=rfl
     have hy2:(whE q r).2.1=q.F r:=rfl
     rw [← hy1] at hW3
     by_cases hF:0≤q.F r
     ·by_cases hF':0≤q'.F r
      ·rw [if_neg (fun h=>h.2 hF')] at hls
       unfold AV1 at hW3
       rw [if_pos (show q'.is r from .inl hF'),decide_eq_true (show q'.is r from .inl hF')] at hW3
       have hy3:(whE q' r).2.1=q'.F r:=rfl
       generalize whE q r=y0 at *
       generalize whE q' r=y3 at *
       unfold Sw.save X6 at hW3
       unfold stN stC
       (refine wx_Syc ?_;repeat' (first|with_reducible refine And.intro ?_ ?_|intro hsp))
       all_goals first|(exfalso;omega)|(exfalso;simp at hsp;done)|exact F9 (k+1) [] (by (try dsimp only);omega) (by first|omega|(dsimp only;omega)) rfl (by ((try dsimp only);rw [hls]);exact K4)
      ·obtain ⟨v1,v2⟩:=hR3 r hF hF'
       rw [if_pos ⟨hF,hF'⟩] at hls
       unfold AV1 at hW3
       rw [if_pos (show q'.is r from .inr v2),decide_eq_true (show q'.is r from .inr v2)] at hW3
       obtain ⟨e1,e2⟩:=hvv r v1
       have hOld:=AP5 hG v1
       subst e1
       subst e2
       have hy3:(whE q' r).2.1=q'.F r:=rfl
       have hy4:(whE q' r).2.2.1=q'.T r:=rfl
       generalize whE q r=y0 at *
       generalize whE q' r=y3 at *
       unfold Sw.save X6 at hW3 hOld
       unfold stN stC
       (refine wx_Syc ?_;repeat' (first|with_reducible refine And.intro ?_ ?_|intro hsp))
       all_goals first|(exfalso;omega)|(exfalso;simp at hsp;done)|exact F9 (k+1) [] (by (try dsimp only);omega) (by first|omega|(dsimp only;omega)) rfl (by ((try dsimp only);rw [hls]);exact K4)
     ·rw [if_neg (fun h=>hF h.1)] at hls
      generalize AV1 q' r=y3 at *
      generalize decide (q'.is r)=b3 at *
      generalize whE q r=y0 at *
      unfold Sw.save X6 at hW3
      unfold stN stC
      (refine wx_Syc ?_;repeat' (first|with_reducible refine And.intro ?_ ?_|intro hsp))
      all_goals first|(exfalso;omega)|(exfalso;simp at hsp;done)|exact F9 (k+1) [] (by (try dsimp only);omega) (by first|omega|(dsimp only;omega)) rfl (by ((try dsimp only);rw [hls]);exact K4)
    ·unfold stN stC
     (refine wx_Syc ?_;repeat' (first|with_reducible refine And.intro ?_ ?_|intro hsp))
     all_goals first|(exfalso;omega)|(exfalso;simp at hsp;done)|exact F9 ((i+1,q',t')) [] ⟨hil,hG',hO'⟩ (by first|omega|(dsimp only;omega)) rfl (by exact K4)
  ·generalize q.al x=r at *
   clear hwf
   unfold Sw.save X6 at hS1 hS2
   unfold stN stC
   (refine wx_Syc ?_;repeat' (first|with_reducible refine And.intro ?_ ?_|intro hsp))
   all_goals first|(exfalso;omega)|exact F9 ((i+1,r.2,t')) [] ⟨hil,hG',hO'⟩ (by first|omega|(dsimp only;omega)) rfl (by exact K4)
 ·unfold stN stC
  (refine wx_Syc ?_;repeat' (first|with_reducible refine And.intro ?_ ?_|intro hsp))
  all_goals first|(exfalso;omega)|exact U1 rfl
end Go.Proofs.Ytbhgfoikbkaohaa.Sh
