/-
 A store is made.
 far,alone.
 A store stays one;the example.
 Calls with a nil plan;acts.
 The example.
 SwapFewer.
-/
import Derived.Test.YtbhgfoikbkaohaaQap
set_option linter.unusedSimpArgs false
set_option linter.unusedVariables false
set_option maxHeartbeats 12800000
namespace Go.Pol
open Go.Am Go.Proofs.Ytbhgfoikbkaohaa.Sh
structure SAc where
 w:Int
 p:Int
 t:Int
 n:Int
 v:Int
 l:List Rl
def Ac4 (x:SAc):List AV:=[.int .u8 x.w,.int .i64 x.p,.int .i64 x.t,.int .i64 x.n,.int .u8 x.v,.isl (x.l.map rlA)]
theorem Ag9 (x:SAc):(Ac4 x).length=6:=rfl
def dSA:SAc:=⟨0,0,0,0,0,[]⟩
structure SPy where
 a:Int
 n:Int
 pg:Int
 sl:Int
 l:List Rl
 X:List SAc
def AT8 (p:SPy):List AV:=[.int .i64 p.a,.int .i64 p.n,.int .i64 p.pg,.int .i64 p.sl,.isl (p.l.map rlA),.isl (p.X.map Ac4)]
def Sw.nw (s:Sy) (a n pg sl:Int):Sw:=⟨a.toNat,n.toNat,pg.toNat,sl.toNat,fun _=>-1,fun _=>-1,fun _=>0,fun _ _=>0,0,0,s⟩
def T0:WS:=⟨[],[],[]⟩
def SPy.b (p:SPy):Sw:=Sw.nw ((Sy.new p.l).chg p.a p.n 0 1 0).2 p.a p.n p.pg p.sl
theorem At2 {s:Sy} {a n pg sl:Int}:WOk (Sw.nw s a n pg sl) T0:=by
 refine ⟨List.nodup_nil,List.nodup_nil,List.nodup_nil,fun p=>?_,fun k=>?_,fun f p=>?_⟩
 ·rw [if_neg]
  ·rfl
  ·rintro ⟨_,h|h⟩
   ·exact absurd h (show ¬ (0:Int) ≤ -1 by decide)
   ·exact absurd h (show ¬ (0:Int) ≤ -1 by decide)
 ·rw [if_neg]
  ·rfl
  ·rintro ⟨hk,p,_,hT⟩
   have : (-1:Int)=((k.toNat:Nat):Int):=hT
   omega
 ·constructor
  ·intro h;cases h
  ·rintro ⟨_,h1,h2⟩
   have : (-1:Int)=f:=h2
   omega
end Go.Pol
namespace Go.Proofs.Ytbhgfoikbkaohaa.Sh
open Go Go.Am Go.Pol
theorem wx_Sxm {p q:Prop} (hq:q) (h:Y5 q→p:=by (intro hQz;((repeat' ((try (conv=>whnf));first|refine sxA ?_|refine sxF ?_|refine Q7 (by assumption) rfl (by decide) ?_|refine M6 (by assumption) ?_|refine Q7 hc rfl (by decide) ?_|refine Q7 hr rfl (by decide) ?_|refine BW1 (by assumption) ?_|refine cx_WN h1 rfl (by decide) ?_|refine Q7 h1 rfl (by decide) ?_|refine sxH ?_|((with_reducible first|apply V4 hQz|apply V5 hQz)<;>(try intro hsp hQz))|exact hQz.out))<;>(try (conv=>whnf))))):p:=h ⟨hq⟩
theorem AN8 (x:SAc):∀ y ∈ Ac4 x,Plain y:=fun y hy=>by
 unfold Ac4 at hy
 simp only [List.mem_cons,List.not_mem_nil,or_false] at hy
 rcases hy with rfl|rfl|rfl|rfl|rfl|rfl<;>first|exact A8|exact Q0
theorem AO5 (x:SAc):Plain (.agg (Ac4 x)):=K4 (AN8 x)
theorem AI0 {X:List SAc}:Plain (.isl (X.map Ac4)):=AG0 fun e he=>by obtain ⟨x,_,rfl⟩:=List.mem_map.1 he;exact AN8 x
theorem AN6 (p:SPy):∀ y ∈ AT8 p,Plain y:=fun y hy=>by
 unfold AT8 at hy
 simp only [List.mem_cons,List.not_mem_nil,or_false] at hy
 rcases hy with rfl|rfl|rfl|rfl|rfl|rfl
 ·exact A8
 ·exact A8
 ·exact A8
 ·exact A8
 ·exact Q0
 ·exact AI0
theorem AA0 (p:SPy):Plain (.agg (AT8 p)):=K4 (AN6 p)
theorem end_Wg {top:Bool} {h:Hp} {N0 n:Nat} {x r:AV} {q:Sw} {t:WS} (ren:List (Nat × Nat)) (o w d m s:Nat) (hkp:AK8 N0 ren=true) (hm:N0≤n) (hone:AY9 [rn ren o,rn ren w,rn ren d,rn ren m,rn ren s]=true)
  (hlt:o < n∧w < n∧d < n∧m < n∧s < n)
  (hr:AM7 (rn ren) h ⟨stN q t o w d m s,n⟩→WkV Try.prog (rn ren) h ⟨stN q t o w d m s,n⟩ x r) (g0:lk h.l (rn ren o)=some (.cells (stC (rn ren s) (rn ren w) (rn ren d) (rn ren m) q))) (g1:lk h.l (rn ren w)=some (.maps (encW pgE t.W))) (g2:lk h.l (rn ren d)=some (.maps (encW byE t.D))) (g3:lk h.l (rn ren m)=some (.maps (encW nuE t.H))) (g4:lk h.l (rn ren s)=some (.cells q.s.a)) :
  AV0 top Try.prog N0 h x (fun r' h'=>r'=r∧h'=⟨stN q t o w d m s,n⟩):=by
 have hs:AM7 (rn ren) h ⟨stN q t o w d m s,n⟩:=fun j x hi=>by
  simp only [stN,lk] at hi
  split at hi
  ·rename_i e;subst e;exact ⟨_,g0⟩
  ·split at hi
   ·rename_i e;subst e;exact ⟨_,g1⟩
   ·split at hi
    ·rename_i e;subst e;exact ⟨_,g2⟩
    ·split at hi
     ·rename_i e;subst e;exact ⟨_,g3⟩
     ·split at hi
      ·rename_i e;subst e;exact ⟨_,g4⟩
      ·cases hi
 refine AE3 ren hkp hm (P5 (l:=stN q t o w d m s) hone) (hr hs) ?_ ⟨rfl,rfl⟩
 have:=BK0 (r:=[]) hs rfl rfl rfl rfl rfl hlt g0 g1 g2 g3 g4 K6
 exact this
structure LocWN (f:Nat) (avs:List AV) (s:Sy) (q:Sw) (t:WS):Prop where
 out:AT4 Try.prog G0 f (.ptr 0 0::avs) [(0,.cells s.a)] 1 fun x h=>x = .tup [.ptr 1 0,.int .i64 0]∧h=⟨stN q t 1 2 3 4 0,5⟩
 pa:∀ x ∈ avs,Plain x
theorem cx_WN {f:Nat} {avs:List AV} {s:Sy} {q:Sw} {t:WS} {g nx:Nat} {l:List (Nat × AObj)} {K:AV→Hp→Prop} (hc:LocWN f avs s q t) (h5:lk l g=some (.cells s.a)) (hlt:g < nx)
  (hk:AS6 [g] l fun l2=>K (.tup [.ptr nx 0,.int .i64 0]) ⟨([(nx,.cells (stC g (nx+1) (nx+2) (nx+3) q)),(nx+1,.maps (encW pgE t.W)),(nx+2,.maps (encW byE t.D)),(nx+3,.maps (encW nuE t.H)),(g,.cells q.s.a)]:List (Nat × AObj))++l2,nx+4⟩):AE6 Try.prog G0 (.fn f [] []) (.ptr g 0::avs) ⟨l,nx⟩ K:=by
 have e0:enter [g] g 0:=rfl
 have k0:back [g] nx 0 g:=rfl
 have k1:back [g] nx 1 nx:=rfl
 have k2:back [g] nx 2 (nx+1):=rfl
 have k3:back [g] nx 3 (nx+2):=rfl
 have k4:back [g] nx 4 (nx+3):=rfl
 refine AL0 (r':=.tup [.ptr nx 0,.int .i64 0]) (l1:=stN q t nx (nx+1) (nx+2) (nx+3) g) [g] hc.out H8 rfl (.cons e0 h5 (D7 F4) .nil)
  ?_ (by intro x hx;simp only [List.mem_cons,List.not_mem_nil,or_false] at hx;omega) (BA4 ⟨P8 k1,F3 A8,trivial⟩)
  (.cons k1 (AE8 k0 k2 k3 k4) (.maps k2 (A9 F9) (.maps k3 (A9 G6) (.maps k4 (A9 G5) (.cons k0 (D7 F4) .nil))))) hk
 simp only [List.nil_append,List.append_nil]
 exact ⟨P8 e0,D7 hc.pa⟩
section
variable {s:Sy} {a n pg sl:Int}
theorem AV6 {e:Int}:Plain (.tup [.nilp,.int .i64 e]):=F5 (N9 O7 A8)
theorem Ah6 {a b c d:Int}:∀ x ∈ [AV.int .i64 a,.int .i64 b,.int .i64 c,.int .i64 d],Plain x:=fun x hx=>by
 simp only [List.mem_cons,List.not_mem_nil,or_false] at hx
 rcases hx with rfl|rfl|rfl|rfl<;>exact A8
theorem BL4 (hg:GoodS s) (hn:¬ O5 a n pg sl):AC9 28 [.int .i64 a,.int .i64 n,.int .i64 pg,.int .i64 sl] s.a (.tup [.nilp,.int .i64 7]) s.a:=by
 have hc:=Ah8 hg
 have hst:=Ai6 a n pg sl
 rw [decide_eq_false hn] at hst
 unfold Sy.counts at hc
 refine AC9.mk (G7 F7 b28 rfl ?_) F4 F4 Ah6 AV6
 unfold c28
 generalize AP7 s.K 0 1024=n0 at *
 generalize AP7 s.K 1 1024=n1 at *
 generalize AP7 s.K 2 1024=n2 at *
 generalize AP7 s.K 3 1024=n3 at *
 generalize cntG s.G 64=n4 at *
 (refine wx_Sxm ?_;repeat' (first|with_reducible refine And.intro ?_ ?_|intro hsp))
 all_goals exact AF0 rfl AV6 rfl F4
theorem w_New_no (hg:GoodS s) (hn:O5 a n pg sl) (he:(s.chg a n 0 1 0).1 ≠ 0):AC9 28 [.int .i64 a,.int .i64 n,.int .i64 pg,.int .i64 sl] s.a (.tup [.nilp,.int .i64 (s.chg a n 0 1 0).1]) (s.chg a n 0 1 0).2.a:=by
 have hc:=Ah8 hg
 have hst:=Ai6 a n pg sl
 rw [decide_eq_true hn] at hst
 have hr:=Ao5 (a:=a) (n:=n) hg
 unfold Sy.counts at hc
 refine AC9.mk (G7 F7 b28 rfl ?_) F4 F4 Ah6 AV6
 unfold c28
 generalize AP7 s.K 0 1024=n0 at *
 generalize AP7 s.K 1 1024=n1 at *
 generalize AP7 s.K 2 1024=n2 at *
 generalize AP7 s.K 3 1024=n3 at *
 generalize cntG s.G 64=n4 at *
 generalize s.chg a n 0 1 0=r at *
 (refine wx_Sxm ?_;repeat' (first|with_reducible refine And.intro ?_ ?_|intro hsp))
 all_goals first|exact AF0 rfl AV6 rfl F4|(exfalso;omega)
theorem w_New (hg:GoodS s) (hn:O5 a n pg sl) (he:(s.chg a n 0 1 0).1=0):LocWN 28 [.int .i64 a,.int .i64 n,.int .i64 pg,.int .i64 sl] s (Sw.nw (s.chg a n 0 1 0).2 a n pg sl) T0:=by
 have hc:=Ah8 hg
 have hst:=Ai6 a n pg sl
 rw [decide_eq_true hn] at hst
 have hr:=Ao5 (a:=a) (n:=n) hg
 rw [he] at hr
 obtain ⟨n1',n2',n3',n4',n5',n6',n7',n8'⟩:=hn
 have e1:((a.toNat:Nat):Int)=a:=Int.toNat_of_nonneg n1'
 have e2:((n.toNat:Nat):Int)=n:=Int.toNat_of_nonneg (by omega)
 have e3:((pg.toNat:Nat):Int)=pg:=Int.toNat_of_nonneg (by omega)
 have e4:((sl.toNat:Nat):Int)=sl:=Int.toNat_of_nonneg (by omega)
 unfold Sy.counts at hc
 refine LocWN.mk (G7 F7 b28 rfl ?_) Ah6
 unfold c28
 generalize AP7 s.K 0 1024=n0 at *
 generalize AP7 s.K 1 1024=n1 at *
 generalize AP7 s.K 2 1024=n2 at *
 generalize AP7 s.K 3 1024=n3 at *
 generalize cntG s.G 64=n4 at *
 generalize s.chg a n 0 1 0=r at *
 (refine wx_Sxm ?_;repeat' (first|with_reducible refine And.intro ?_ ?_|intro hsp))
 all_goals exact end_Wg [(1,5),(2,2),(3,3),(4,4)] 1 2 3 4 0 rfl (by decide) rfl (by decide) (fun hs=>Ad1 (D5 (Y9 (i:=1) rfl (show 1 < 5 by decide)) (D5 (J7 rfl) K7))) (by unfold stC Sw.nw;dsimp only;rw [e1,e2,e3,e4];rfl) (by unfold T0;rw [AH1];rfl) (by unfold T0;rw [AH1];rfl) (by unfold T0;rw [AH1];rfl) rfl
structure LocWB (avs:List AV) (q:Sw) (t:WS):Prop where
 out:AT4 Try.prog G0 11 avs [] 0 fun x h=>x = .tup [.ptr 4 0,.ptr 0 0,.int .i64 0]∧h=⟨stN q t 0 1 2 3 4,5⟩
 pa:∀ x ∈ avs,Plain x
theorem cx_WB {avs:List AV} {q:Sw} {t:WS} {nx:Nat} {l:List (Nat × AObj)} {K:AV→Hp→Prop} (hc:LocWB avs q t)
  (hk:K (.tup [.ptr (nx+4) 0,.ptr nx 0,.int .i64 0]) ⟨([(nx,.cells (stC (nx+4) (nx+1) (nx+2) (nx+3) q)),(nx+1,.maps (encW pgE t.W)),(nx+2,.maps (encW byE t.D)),(nx+3,.maps (encW nuE t.H)),(nx+4,.cells q.s.a)]:List (Nat × AObj))++l,nx+5⟩):AE6 Try.prog G0 (.fn 11 [] []) avs ⟨l,nx⟩ K:=by
 have k0:back [] nx 0 nx:=rfl
 have k1:back [] nx 1 (nx+1):=rfl
 have k2:back [] nx 2 (nx+2):=rfl
 have k3:back [] nx 3 (nx+3):=rfl
 have k4:back [] nx 4 (nx+4):=rfl
 exact AL0 (r':=.tup [.ptr (nx+4) 0,.ptr nx 0,.int .i64 0]) (l1:=stN q t nx (nx+1) (nx+2) (nx+3) (nx+4)) [] hc.out H8 rfl .nil (by simpa using D7 hc.pa) (by simp) (BA4 ⟨P8 k4,P8 k0,F3 A8,trivial⟩)
  (.cons k0 (AE8 k4 k1 k2 k3) (.maps k1 (A9 F9) (.maps k2 (A9 G6) (.maps k3 (A9 G5) (.cons k4 (D7 F4) .nil))))) (AP3 hk)
structure LocBE (avs:List AV) (e:Int) (ds:List AV):Prop where
 out:AT4 Try.prog G0 11 avs [] 0 fun x h=>x = .tup [.ptr 0 0,.nilp,.int .i64 e]∧h=⟨[(0,.cells ds)],1⟩
 pa:∀ x ∈ avs,Plain x
 pd:∀ x ∈ ds,Plain x
theorem cx_BE {avs:List AV} {e:Int} {ds:List AV} {nx:Nat} {l:List (Nat × AObj)} {K:AV→Hp→Prop} (hc:LocBE avs e ds) (hk:K (.tup [.ptr nx 0,.nilp,.int .i64 e]) ⟨(nx,.cells ds)::l,nx+1⟩):AE6 Try.prog G0 (.fn 11 [] []) avs ⟨l,nx⟩ K:=by
 have k0:back [] nx 0 nx:=rfl
 exact AL0 (r':=.tup [.ptr nx 0,.nilp,.int .i64 e]) (l1:=[(nx,.cells ds)]) [] hc.out H8 rfl .nil (by simpa using D7 hc.pa) (by simp) (BA4 ⟨P8 k0,F3 O7,F3 A8,trivial⟩)
  (.cons k0 (D7 hc.pd) .nil) (AP3 hk)
theorem end_BE {top:Bool} {h:Hp} {x:AV} {i:Nat} {ds:List AV} {e:Int} (hx:x = .tup [.ptr i 0,.nilp,.int .i64 e]) (h0:lk h.l i=some (.cells ds)) (pd:∀ x ∈ ds,Plain x):AV0 top Try.prog 0 h x (fun r' h'=>r' = .tup [.ptr 0 0,.nilp,.int .i64 e]∧h'=⟨[(0,.cells ds)],1⟩):=by
 subst hx
 have e0:rn [(0,i)] 0=i:=rfl
 have hs:AM7 (rn [(0,i)]) h ⟨[(0,.cells ds)],1⟩:=fun j o hj=>by
  simp only [lk] at hj
  split at hj
  ·rename_i e;subst e;exact ⟨_,h0⟩
  ·cases hj
 exact AE3 [(0,i)] rfl (Nat.zero_le _) (P5 rfl) (Ad1 (D5 (Y9 e0 (show 0 < 1 by decide)) (D5 (Q9 hs O7) (D5 (J7 rfl) K7)))) (H9 hs (show 0 < 1 by decide) (by rw [e0];exact h0) rfl pd K6) ⟨rfl,rfl⟩
theorem BR0 {p:SPy}:∀ x ∈ [AV.agg (AT8 p)],Plain x:=O6 (AA0 p)
theorem An9 {e:Int}:Plain (.tup [.nilp,.nilp,.int .i64 e]):=F5 (plain_three O7 O7 A8)
theorem l_begun (p:SPy):(∃ e,e ≠ 0∧e=(AC8 p.l).2∧J4 11 [.agg (AT8 p)] (.tup [.nilp,.nilp,.int .i64 e]))∨(∃ e ds,e ≠ 0∧LocBE [.agg (AT8 p)] e ds)∨((AC8 p.l).2=0∧O5 p.a p.n p.pg p.sl∧((Sy.new p.l).chg p.a p.n 0 1 0).1=0∧LocWB [.agg (AT8 p)] p.b T0):=by
 by_cases hc:(AC8 p.l).2=0
 ·have hnw:=p_new (l:=p.l) (i:=(AC8 p.l).1) (Prod.ext rfl hc)
  have hg:=Ai8 hc
  by_cases hst:O5 p.a p.n p.pg p.sl
  ·by_cases he:((Sy.new p.l).chg p.a p.n 0 1 0).1=0
   ·have h1:=w_New hg hst he
    refine .inr (.inr ⟨hc,hst,he,LocWB.mk (G7 F7 b11 rfl ?_) BR0⟩)
    unfold c11
    unfold SPy.b AT8
    generalize Sy.new p.l=s0 at *
    generalize T0=t0 at *
    generalize Sw.nw (s0.chg p.a p.n 0 1 0).2 p.a p.n p.pg p.sl=q0 at *
    (refine wx_Sxm ?_;repeat' (first|with_reducible refine And.intro ?_ ?_|intro hsp))
    all_goals exact end_Wg [(0,2),(1,3),(2,4),(3,5),(4,1)] 0 1 2 3 4 rfl (by decide) rfl (by decide) (fun hs=>Ad1 (D5 (Y9 (i:=4) rfl (show 4 < 5 by decide)) (D5 (Y9 (i:=0) rfl (show 0 < 5 by decide)) (D5 (J7 rfl) K7)))) rfl rfl rfl rfl rfl
   ·have h1:=w_New_no hg hst he
    refine .inr (.inl ⟨_,((Sy.new p.l).chg p.a p.n 0 1 0).2.a,he,LocBE.mk (G7 F7 b11 rfl ?_) BR0 F4⟩)
    unfold c11
    unfold AT8
    generalize Sy.new p.l=s0 at *
    generalize s0.chg p.a p.n 0 1 0=r at *
    (refine wx_Sxm ?_;repeat' (first|with_reducible refine And.intro ?_ ?_|intro hsp))
    all_goals exact end_BE rfl rfl F4
  ·have h1:=BL4 hg hst
   refine .inr (.inl ⟨7,(Sy.new p.l).a,by decide,LocBE.mk (G7 F7 b11 rfl ?_) BR0 F4⟩)
   unfold c11
   unfold AT8
   generalize Sy.new p.l=s0 at *
   (refine wx_Sxm ?_;repeat' (first|with_reducible refine And.intro ?_ ?_|intro hsp))
   all_goals exact end_BE rfl rfl F4
 ·have hnw:=p_new_no (l:=p.l) (i:=(AC8 p.l).1) (e:=(AC8 p.l).2) rfl hc
  refine .inl ⟨_,hc,rfl,J4.mk (R8 F7 b11 H8 ⟨AA0 p,trivial⟩ An9 rfl ?_)⟩
  unfold c11
  unfold AT8
  generalize (AC8 p.l).2=e at *
  (refine wx_Sxm ?_;repeat' (first|with_reducible refine And.intro ?_ ?_|intro hsp))
  all_goals first|exact J6 rfl An9|(exfalso;omega)
end
end Go.Proofs.Ytbhgfoikbkaohaa.Sh
namespace Go.Pol
open Go.Am Go.Proofs.Ytbhgfoikbkaohaa.Sh
def Sw.al (q:Sw) (x:SAc):Int × Sw:=q.call (x.w.toNat % 14) x.t x.n x.v x.p x.l
def SPy.ok (p:SPy):Prop:=p.X.length≤50∧p.l.length≤60∧(p.n≤60∨1024 < p.n)
instance (p:SPy):Decidable p.ok:=by unfold SPy.ok;infer_instance
end Go.Pol
namespace Go.Proofs.Ytbhgfoikbkaohaa.Sh
open Go Go.Am Go.Pol
theorem plx_Sxn {p:Prop} (h:p:=by ((first|exact plw|(with_reducible first|apply U1|apply F9 _|apply G6 _|apply G5 _|apply AD5|apply Q0|apply O9|apply O7|apply AO5 _|apply AA0 _|apply AI0|fail)|fail);first|done|fail)):p:=h
theorem ppx_Sxn {p:Prop} (h:p:=by ((first|with_reducible assumption|(with_reducible first|apply F4|apply Ab5|apply AY2|apply AJ1|apply AZ3|apply AN8 _|apply AN6 _|fail)|exact ppw|fail);first|done|fail)):p:=h
open Go.Proofs.Ytbhgfoikbkaohaa.Sh renaming plx_Sxn → plx
open Go.Proofs.Ytbhgfoikbkaohaa.Sh renaming ppx_Sxn → ppx
theorem wx_Sxn {p q:Prop} (hq:q) (h:Y5 q→p:=by (intro hQz;((repeat' ((try (conv=>whnf));first|refine sxA ?_|refine AA6 (by with_reducible assumption) ?_|refine sxF ?_|refine AH2 (d:=dSA) Ag9 (by first|assumption|omega) (by with_reducible assumption) ?_|refine AM5 h2 rfl rfl rfl rfl rfl (by decide) rfl ?_|refine Q7 h2 rfl (by decide) ?_|refine sxH ?_|((with_reducible first|apply V4 hQz|apply V5 hQz)<;>(try intro hsp hQz))|exact hQz.out))<;>(try (conv=>whnf))))):p:=h ⟨hq⟩
theorem BT3 {p:SPy} (hl:p.X.length≤maxLen) (h:∃ x ∈ p.X,60 < x.l.length):J4 9 [.agg (AT8 p)] (.bool true):=by
 have hl:p.X.length≤9223372036854775807:=hl
 refine J4.mk (R8 F7 b9 H8 ⟨AA0 p,trivial⟩ D9 rfl ?_)
 unfold c9
 have hp:=AN6 p
 unfold AT8 at hp ⊢
 (refine wx_Sxn ?_;repeat' (first|with_reducible refine And.intro ?_ ?_|intro hsp))
 (refine U9 [1] (fun (i:Nat)=>[(3,.int .i64 (i:Nat))]) (fun (i:Nat)=>⟨[(0,.cells [.int .i64 p.a,.int .i64 p.n,.int .i64 p.pg,.int .i64 p.sl,.isl (p.l.map rlA),.isl (p.X.map Ac4)])],1⟩) (fun (i:Nat)=>∃ j,i≤j∧j < p.X.length∧60 < (nth dSA p.X j).l.length) (fun (i:Nat)=>p.X.length - i) (0) [] rfl (fun _=>by first|exact Nat.zero_le _|(dsimp only;omega)) ?_ (by ((try (conv=>whnf));exact AA5)) ?_)
 ·obtain ⟨x,hx,h6⟩:=h
  obtain ⟨j,hj,rfl⟩:=List.getElem_of_mem hx
  exact ⟨j,Nat.zero_le _,hj,by rw [AG4 hj];exact h6⟩
 intro i hi
 obtain ⟨j,h1,h2,h3⟩:=hi
 have hil:i < p.X.length:=by omega
 have hne:¬ 60 < (nth dSA p.X i).l.length→∃ j,i+1≤j∧j < p.X.length∧60 < (nth dSA p.X j).l.length:=fun hn=>⟨j,by
  by_cases e:i=j
  ·exact absurd (e▸h3) hn
  ·omega,h2,h3⟩
 clear h1 h2 h3
 by_cases hn:60 < (nth dSA p.X i).l.length
 ·clear hne
  generalize hx:nth dSA p.X i=x at *
  (refine wx_Sxn ?_;repeat' (first|with_reducible refine And.intro ?_ ?_|intro hsp))
  all_goals first|exact R4 rfl|(exfalso;omega)
 ·have hne2:=hne hn
  clear hne
  generalize hx:nth dSA p.X i=x at *
  (refine wx_Sxn ?_;repeat' (first|with_reducible refine And.intro ?_ ?_|intro hsp))
  all_goals first|(exfalso;omega)|exact J8 (i+1) [] hne2 (by first|omega|(dsimp only;omega)) rfl (by exact AA5)
theorem k_far_no {p:SPy} (hl:p.X.length≤maxLen) (h:¬ ∃ x ∈ p.X,60 < x.l.length):J4 9 [.agg (AT8 p)] (.bool (decide (¬ p.ok))):=by
 have hl:p.X.length≤9223372036854775807:=hl
 refine J4.mk (R8 F7 b9 H8 ⟨AA0 p,trivial⟩ D9 rfl ?_)
 unfold c9
 unfold AT8
 (refine wx_Sxn ?_;repeat' (first|with_reducible refine And.intro ?_ ?_|intro hsp))
 (refine U9 [1] (fun (i:Nat)=>[(3,.int .i64 (i:Nat))]) (fun (i:Nat)=>⟨[(0,.cells [.int .i64 p.a,.int .i64 p.n,.int .i64 p.pg,.int .i64 p.sl,.isl (p.l.map rlA),.isl (p.X.map Ac4)])],1⟩) (fun (i:Nat)=>i≤p.X.length) (fun (i:Nat)=>p.X.length - i) (0) [] rfl (fun _=>by first|exact Nat.zero_le _|(dsimp only;omega)) ?_ (by ((try (conv=>whnf));exact AA5)) ?_)
 ·exact Nat.zero_le _
 intro i hi
 by_cases hil:i < p.X.length
 ·have hn:¬ 60 < (nth dSA p.X i).l.length:=fun h2=>h ⟨_,AY8 (d:=dSA) hil,h2⟩
  generalize hx:nth dSA p.X i=x at *
  (refine wx_Sxn ?_;repeat' (first|with_reducible refine And.intro ?_ ?_|intro hsp))
  all_goals first|(exfalso;omega)|exact J8 (i+1) [] (by (try dsimp only);omega) (by first|omega|(dsimp only;omega)) rfl (by exact AA5)
 ·clear h
  (refine wx_Sxn ?_;repeat' (first|with_reducible refine And.intro ?_ ?_|intro hsp))
  all_goals exact R4 (by first|exact (decide_eq_true (show ¬ p.ok from fun ⟨h1,h2,h3⟩=>by omega)).symm|exact (decide_eq_false (show ¬ ¬ p.ok from fun hn=>hn ⟨by omega,by omega,by omega⟩)).symm|exact decide_eq_decide.2 ⟨fun h4 ⟨h1,h2,h3⟩=>(by omega),fun hn=>Classical.byContradiction fun h4=>hn ⟨by omega,by omega,by omega⟩⟩)
theorem k_far (p:SPy) (hl:p.X.length≤maxLen):∃ b,J4 9 [.agg (AT8 p)] (.bool b)∧(b=false→p.ok∧∀ x ∈ p.X,x.l.length≤60):=by
 by_cases h:∃ x ∈ p.X,60 < x.l.length
 ·exact ⟨true,BT3 hl h,fun e=>by cases e⟩
 ·refine ⟨_,k_far_no hl h,fun e=>⟨?_,fun x hx=>Classical.byContradiction fun hn=>h ⟨x,hx,by omega⟩⟩⟩
  have:=of_decide_eq_false e
  exact Classical.not_not.1 this
structure LocA (x:SAc) (q:Sw) (t:WS) (e:Int) (q':Sw) (t':WS):Prop where
 out:AT4 Try.prog G0 13 [.ptr 4 0,.ptr 0 0,.agg (Ac4 x)] (stN q t 0 1 2 3 4) 5 fun y h1=>y = .int .i64 e∧h1=⟨stN q' t' 0 1 2 3 4,5⟩
theorem cx_A {x:SAc} {q q':Sw} {t t':WS} {v:Int} {o w d m s nx:Nat} {l:List (Nat × AObj)} {K:AV→Hp→Prop} (hc:LocA x q t v q' t')
  (g0:lk l o=some (.cells (stC s w d m q))) (g1:lk l w=some (.maps (encW pgE t.W))) (g2:lk l d=some (.maps (encW byE t.D))) (g3:lk l m=some (.maps (encW nuE t.H))) (g4:lk l s=some (.cells q.s.a))
  (hlt:o < nx∧w < nx∧d < nx∧m < nx∧s < nx) (hd:AY9 [o,w,d,m,s]=true)
  (hk:AS6 [o,w,d,m,s] l fun l2=>K (.int .i64 v) ⟨([(o,.cells (stC s w d m q')),(w,.maps (encW pgE t'.W)),(d,.maps (encW byE t'.D)),(m,.maps (encW nuE t'.H)),(s,.cells q'.s.a)]:List (Nat × AObj))++l2,nx⟩):AE6 Try.prog G0 (.fn 13 [] []) [.ptr s 0,.ptr o 0,.agg (Ac4 x)] ⟨l,nx⟩ K:=by
 have e0:enter [o,w,d,m,s] o 0:=rfl
 have e1:enter [o,w,d,m,s] w 1:=rfl
 have e2:enter [o,w,d,m,s] d 2:=rfl
 have e3:enter [o,w,d,m,s] m 3:=rfl
 have e4:enter [o,w,d,m,s] s 4:=rfl
 have k0:back [o,w,d,m,s] nx 0 o:=rfl
 have k1:back [o,w,d,m,s] nx 1 w:=rfl
 have k2:back [o,w,d,m,s] nx 2 d:=rfl
 have k3:back [o,w,d,m,s] nx 3 m:=rfl
 have k4:back [o,w,d,m,s] nx 4 s:=rfl
 refine AL0 (l1:=stN q' t' o w d m s) [o,w,d,m,s] hc.out H8 hd
  (.cons e0 g0 (AE8 e4 e1 e2 e3) (.maps e1 g1 (A9 F9) (.maps e2 g2 (A9 G6) (.maps e3 g3 (A9 G5) (.cons e4 g4 (D7 F4) .nil)))))
  ?_ (by intro x hx;simp only [List.mem_cons,List.not_mem_nil,or_false] at hx;omega) (F3 A8)
  (.cons k0 (AE8 k4 k1 k2 k3) (.maps k1 (A9 F9) (.maps k2 (A9 G6) (.maps k3 (A9 G5) (.cons k4 (D7 F4) .nil))))) hk
 simp only [List.nil_append,List.append_nil]
 exact ⟨P8 e4,P8 e0,F3 (AO5 x),trivial⟩
section
variable {q:Sw} {t:WS}
theorem BS6 (hg:E9 q) (h:WOk q t) (x:SAc) (hw:0≤x.w):∃ t',WOk (q.al x).2 t'∧LocA x q t (q.al x).1 (q.al x).2 t':=by
 have h0:x.w.tmod 14=x.w % 14:=Int.tmod_eq_emod_of_nonneg hw
 have hm:((x.w.toNat % 14:Nat):Int)=x.w.tmod 14:=by rw [h0];omega
 unfold Sw.al Sw.call
 generalize x.w.toNat % 14=w at *
 have hw14:0≤x.w.tmod 14∧x.w.tmod 14 < 14:=by rw [h0];omega
 by_cases c1:w < 6
 ·rw [if_pos c1]
  obtain ⟨t',h2,hO⟩:=AX5 hg h x.t x.n x.v
  refine ⟨t',hO,⟨G7 F7 b13 rfl ?_⟩⟩
  unfold c13
  unfold stN stC Ac4
  generalize q.write x.t x.n x.v=r at *
  rcases (show x.w.tmod 14=0∨x.w.tmod 14=1∨x.w.tmod 14=2∨x.w.tmod 14=3∨x.w.tmod 14=4∨x.w.tmod 14=5 by omega) with hy|hy|hy|hy|hy|hy
  all_goals (refine wx_Sxn ?_;repeat' (first|with_reducible refine And.intro ?_ ?_|intro hsp))
  all_goals first|exact J3 (q:=r.2) (t:=t') rfl A8 rfl rfl rfl rfl rfl|(exfalso;omega)
 rw [if_neg c1]
 by_cases c2:w < 10
 ·rw [if_pos c2]
  obtain ⟨t',h2,hO⟩:=Az1 hg h x.t x.n
  refine ⟨t',hO,⟨G7 F7 b13 rfl ?_⟩⟩
  unfold c13
  unfold stN stC Ac4
  generalize q.read x.t x.n=r at *
  rcases (show x.w.tmod 14=6∨x.w.tmod 14=7∨x.w.tmod 14=8∨x.w.tmod 14=9 by omega) with hy|hy|hy|hy
  all_goals (refine wx_Sxn ?_;repeat' (first|with_reducible refine And.intro ?_ ?_|intro hsp))
  all_goals first|exact J3 (q:=r.2.2) (t:=t') rfl A8 rfl rfl rfl rfl rfl|(exfalso;omega)
 rw [if_neg c2]
 by_cases c3:w=10
 ·rw [if_pos c3]
  obtain ⟨t',h2,hO⟩:=w_Out hg h x.p
  refine ⟨t',hO,⟨G7 F7 b13 rfl ?_⟩⟩
  unfold c13
  unfold stN stC Ac4
  generalize q.out x.p=r at *
  rcases (show x.w.tmod 14=10 by omega) with hy
  all_goals (refine wx_Sxn ?_;repeat' (first|with_reducible refine And.intro ?_ ?_|intro hsp))
  all_goals first|exact J3 (q:=r.2) (t:=t') rfl A8 rfl rfl rfl rfl rfl|(exfalso;omega)
 rw [if_neg c3]
 by_cases c4:w=11
 ·rw [if_pos c4]
  obtain ⟨t',h2,hO⟩:=w_Free hg h x.p
  refine ⟨t',hO,⟨G7 F7 b13 rfl ?_⟩⟩
  unfold c13
  unfold stN stC Ac4
  generalize q.fre x.p=r at *
  rcases (show x.w.tmod 14=11 by omega) with hy
  all_goals (refine wx_Sxn ?_;repeat' (first|with_reducible refine And.intro ?_ ?_|intro hsp))
  all_goals first|exact J3 (q:=r.2) (t:=t') rfl A8 rfl rfl rfl rfl rfl|(exfalso;omega)
 rw [if_neg c4]
 by_cases c5:w=13
 ·rw [if_pos c5]
  have h2:=p_plan q.s x.l
  refine ⟨t,AQ1 h _,⟨G7 F7 b13 rfl ?_⟩⟩
  unfold c13
  unfold stN stC Ac4
  generalize q.s.plan x.l=r at *
  rcases (show x.w.tmod 14=13 by omega) with hy
  all_goals (refine wx_Sxn ?_;repeat' (first|with_reducible refine And.intro ?_ ?_|intro hsp))
  all_goals first|exact J3 (q:={ q with s:=r.2 }) (t:=t) rfl A8 rfl rfl rfl rfl rfl|(exfalso;omega)
 rw [if_neg c5]
 refine ⟨t,h,⟨G7 F7 b13 rfl ?_⟩⟩
 unfold c13
 unfold stN stC Ac4
 have hy:x.w.tmod 14=12:=by omega
 (refine wx_Sxn ?_;repeat' (first|with_reducible refine And.intro ?_ ?_|intro hsp))
 all_goals first|exact J3 (q:=q) (t:=t) rfl A8 rfl rfl rfl rfl rfl|(exfalso;omega)
end
end Go.Proofs.Ytbhgfoikbkaohaa.Sh
namespace Go.Pol
open Go.Am Go.Proofs.Ytbhgfoikbkaohaa.Sh
section
variable {w:Sw}
theorem AE1 (h:E9 w) (t now v:Int):E9 (w.write t now v).2:=by
 by_cases he:(w.write t now v).1=0
 ·exact (BJ7 h he).2.1
 ·unfold Sw.write at he ⊢
  by_cases hn:w.nums t now
  ·rw [if_neg (Classical.not_not.2 hn)] at he ⊢
   have hn2:=hn
   obtain ⟨n1,n2,n3,n4⟩:=hn2
   by_cases ht:(w.touch (t.toNat / 64) now).1=0
   ·rw [if_pos ht] at he
    have hg:=X4 h (p:=t.toNat / 64) (now:=now) (by omega) ⟨n3,n4⟩
    rcases j5 h (p:=t.toNat / 64) now with hy|hno
    ·exact absurd (Ak7 hg n1 hy.fr).1 he
    ·exact absurd ht hno.e
   ·rw [if_neg ht]
    exact X4 h (by omega) ⟨n3,n4⟩
  ·rw [if_pos hn];exact h
theorem AS4 (h:E9 w) (t now:Int):E9 (w.read t now).2.2:=by
 unfold Sw.read
 by_cases hn:w.nums t now
 ·rw [if_neg (Classical.not_not.2 hn)]
  obtain ⟨n1,n2,n3,n4⟩:=hn
  have hg:=X4 h (p:=t.toNat / 64) (now:=now) (by omega) ⟨n3,n4⟩
  split
  ·exact h
  ·split
   ·exact hg
   ·exact hg
 ·rw [if_pos hn];exact h
theorem BU0 (h:E9 w) (p:Int):E9 (w.out p).2:=by
 by_cases he:(w.out p).1=0
 ·exact (out_yes h he).1
 ·rw [out_no p he];exact h
end
def ex0:Sw:=Sw.nw ((Sy.new []).chg 8 1 0 1 0).2 8 1 4 2
def ex1:Sw:=(ex0.write 0 1 5).2
def ex2:Sw:=(ex1.write 64 2 6).2
def ex3:Sw:=(ex2.read 0 3).2.2
def ex4:Sw:=(ex3.read 64 4).2.2
def ex5:Sw:=(ex4.read 128 5).2.2
def ex6:Sw:=(ex5.write 128 6 7).2
def ex7:Sw:=(ex6.write 192 7 8).2
def ex8:Sw:=(ex7.out 2).2
def ex9:Sw:=(ex8.fre 0).2
set_option maxRecDepth 100000 in
theorem ex_0:((Sy.new []).chg 8 1 0 1 0).1=0:=by decide +kernel
set_option maxRecDepth 100000 in
theorem ex_1:(ex0.write 0 1 5).1=0:=by decide +kernel
set_option maxRecDepth 100000 in
theorem ex_2:(ex1.write 64 2 6).1=0:=by decide +kernel
set_option maxRecDepth 100000 in
theorem ex_3:(ex2.read 0 3).1=5∧(ex2.read 0 3).2.1=0:=by decide +kernel
set_option maxRecDepth 100000 in
theorem ex_4:(ex3.read 64 4).1=6∧(ex3.read 64 4).2.1=0:=by decide +kernel
set_option maxRecDepth 100000 in
theorem ex_5:(ex4.read 128 5).1=0∧(ex4.read 128 5).2.1=0∧ex5.ins=2∧ex5.outs=3:=by decide +kernel
set_option maxRecDepth 100000 in
theorem ex_6:(ex5.write 128 6 7).1=0:=by decide +kernel
set_option maxRecDepth 100000 in
theorem ex_7:(ex6.write 192 7 8).1=5:=by decide +kernel
set_option maxRecDepth 100000 in
theorem ex_8:(ex7.out 2).1=5:=by decide +kernel
set_option maxRecDepth 100000 in
theorem ex_9:(ex8.fre 0).1=0:=by decide +kernel
set_option maxRecDepth 100000 in
theorem ex_10:(ex9.out 2).1=0:=by decide +kernel
end Go.Pol
namespace Go.Am
section
variable {P:Program} {G:Gl}
theorem AT4.weak {f k:Nat} {args args':List AV} {l0:List (Nat × AObj)} {K:AV→Hp→Prop} (hc:AT4 P G f args l0 k K) (hw:∀ (c:Cx) (vs:Array Value),l9 c args' vs→l9 c args vs):AT4 P G f args' l0 k K :=
 ⟨hc.1,fun c vs hR hG hm ha=>hc.2 c vs hR hG hm (hw c vs ha)⟩
theorem AT3.weak {f:Nat} {args args':List AV} {r:AV} (hc:AT3 P G f args r) (hw:∀ (c:Cx) (vs:Array Value),l9 c args' vs→l9 c args vs):AT3 P G f args' r :=
 fun at_ id=>⟨(hc at_ id).1,fun c vs hR hG hU hat ha=>(hc at_ id).2 c vs hR hG hU hat (hw c vs ha)⟩
def WkA (x y:AV):Prop:=∀ (c:Cx) (v:Value),RR c x v→RR c y v
def Al9:List AV→List AV→Prop
 | [],[]=>True
 | x::xs,y::ys=>WkA x y∧Al9 xs ys
 | _,_=>False
theorem Al9.len:∀ {xs ys:List AV},Al9 xs ys→xs.length=ys.length
 | [],[],_=>rfl
 | [],_::_,h=>h.elim
 | _::_,[],h=>h.elim
 | _::_,_::_,h=>by rw [List.length_cons,List.length_cons,Al9.len h.2]
theorem Al9.at:∀ {xs ys:List AV},Al9 xs ys→∀ {j:Nat} {y:AV},ys[j]? = some y→∃ x,xs[j]? = some x∧WkA x y
 | [],[],_,_,_,e=>by simp at e
 | [],_::_,h,_,_,_=>h.elim
 | _::_,[],h,_,_,_=>h.elim
 | x::_,y::_,h,0,z,e=>by cases e;exact ⟨x,rfl,h.1⟩
 | _::_,_::_,h,j+1,z,e=>Al9.at (j:=j) h.2 (by simpa using e)
theorem Al9.args {xs ys:List AV} (h:Al9 xs ys) (c:Cx) (vs:Array Value) (ha:l9 c xs vs):l9 c ys vs :=
 ⟨by rw [ha.1, h.len], fun j y hy => by
  obtain ⟨x,hx,hw⟩:=h.at hy
  obtain ⟨u,hu,hr⟩:=ha.2 j x hx
  exact ⟨u,hu,hw c u hr⟩⟩
theorem AQ2 {x:AV}:WkA x x:=fun _ _ h=>h
theorem BK8:WkA .nils (.isl []):=fun c v h=>by
 obtain ⟨A,rfl⟩:=RR_nils.1 h
 exact X0.2 ⟨A,0,rfl,Nat.le_refl _,Nat.zero_le _,fun hne=>absurd rfl hne⟩
theorem BK9 {xs ys:List AV} (h:Al9 xs ys):WkA (.agg xs) (.agg ys):=fun c v hv=>by
 obtain ⟨vs,rfl,hs,hc⟩:=U3.1 hv
 refine U3.2 ⟨vs,rfl,by rw [hs,h.len],fun j y hy=>?_⟩
 obtain ⟨x,hx,hw⟩:=h.at hy
 obtain ⟨u,hu,hr,ho⟩:=hc j x hx
 exact ⟨u,hu,hw c u hr,ho⟩
end
end Go.Am
namespace Go.Pol
open Go.Am
end Go.Pol
namespace Go.Proofs.Ytbhgfoikbkaohaa
open Go Go.Am Go.Pol
theorem wk_pl:WkA (.agg [.nils]) (.agg [.isl (([]:List Rl).map rlA)]):=BK9 ⟨BK8,trivial⟩
theorem BQ6:Plain (.agg [.nils]):=K4 (Q5 X6)
theorem AC9.weak {f:Nat} {avs avs' cs ds:List AV} {r:AV} (hc:AC9 f avs cs r ds) (hw:Al9 avs' avs) (hp:∀ x ∈ avs',Plain x):AC9 f avs' cs r ds :=
 AC9.mk (hc.out.weak (Al9.args (xs:=.ptr 0 0::avs') (ys:=.ptr 0 0::avs) ⟨AQ2,hw⟩)) hc.pc hc.pd hp hc.pr
theorem LocN.weak {f:Nat} {avs avs' ds:List AV} {e:Int} (hc:LocN f avs e ds) (hw:Al9 avs' avs) (hp:∀ x ∈ avs',Plain x):LocN f avs' e ds :=
 LocN.mk (hc.out.weak (Al9.args hw)) hc.pd hp
theorem n_new:LocN 29 [.agg [.nils]] 0 (Sy.new []).a:=(p_new (l:=[]) (i:=(AC8 []).1) rfl).weak ⟨wk_pl,trivial⟩ (Q5 BQ6)
end Go.Proofs.Ytbhgfoikbkaohaa
namespace Go.Proofs.Ytbhgfoikbkaohaa.Sh
open Go Go.Am Go.Pol
theorem wx_Sxp {p q:Prop} (hq:q) (h:Y5 q→p:=by (intro hQz;((repeat' ((try (conv=>whnf));first|refine sxA ?_|refine sxF ?_|refine BW1 hn ?_|refine cx_WN h0 rfl (by decide) ?_|refine AM5 y1 rfl rfl rfl rfl rfl (by decide) rfl ?_|refine AM5 y2 rfl rfl rfl rfl rfl (by decide) rfl ?_|refine AM5 y3 rfl rfl rfl rfl rfl (by decide) rfl ?_|refine AM5 y4 rfl rfl rfl rfl rfl (by decide) rfl ?_|refine AM5 y5 rfl rfl rfl rfl rfl (by decide) rfl ?_|refine AM5 y6 rfl rfl rfl rfl rfl (by decide) rfl ?_|refine AM5 y7 rfl rfl rfl rfl rfl (by decide) rfl ?_|refine AM5 y8 rfl rfl rfl rfl rfl (by decide) rfl ?_|refine AM5 y9 rfl rfl rfl rfl rfl (by decide) rfl ?_|refine AM5 y10 rfl rfl rfl rfl rfl (by decide) rfl ?_|refine AM5 n5 rfl rfl rfl rfl rfl (by decide) rfl ?_|refine sxH ?_|((with_reducible first|apply V4 hQz|apply V5 hQz)<;>(try intro hsp hQz))|exact hQz.out))<;>(try (conv=>whnf))))):p:=h ⟨hq⟩
theorem k_shown:J4 10 [] (.bool true):=by
 have hn:=n_new
 have hc0:(AC8 []).2=0:=by decide
 have h0:LocWN 28 [.int .i64 8,.int .i64 1,.int .i64 4,.int .i64 2] (Sy.new []) ex0 T0:=w_New (Ai8 hc0) (a:=8) (n:=1) (pg:=4) (sl:=2) (by decide) ex_0
 have g0:E9 ex0:=(AZ0 (l:=[]) (a:=8) (n:=1) (pg:=4) (sl:=2) hc0 (by decide) (by decide) ex_0 ex0 rfl).1
 have k0:WOk ex0 T0:=At2
 obtain ⟨t1,y1,k1⟩:=AX5 g0 k0 0 1 5
 have g1:E9 ex1:=AE1 g0 0 1 5
 rw [ex_1,show (ex0.write 0 1 5).2=ex1 from rfl] at y1
 rw [show (ex0.write 0 1 5).2=ex1 from rfl] at k1
 obtain ⟨t2,y2,k2⟩:=AX5 g1 k1 64 2 6
 have g2:E9 ex2:=AE1 g1 64 2 6
 rw [ex_2,show (ex1.write 64 2 6).2=ex2 from rfl] at y2
 rw [show (ex1.write 64 2 6).2=ex2 from rfl] at k2
 obtain ⟨t3,y3,k3⟩:=Az1 g2 k2 0 3
 have g3:E9 ex3:=AS4 g2 0 3
 rw [ex_3.1,ex_3.2,show (ex2.read 0 3).2.2=ex3 from rfl] at y3
 rw [show (ex2.read 0 3).2.2=ex3 from rfl] at k3
 obtain ⟨t4,y4,k4⟩:=Az1 g3 k3 64 4
 have g4:E9 ex4:=AS4 g3 64 4
 rw [ex_4.1,ex_4.2,show (ex3.read 64 4).2.2=ex4 from rfl] at y4
 rw [show (ex3.read 64 4).2.2=ex4 from rfl] at k4
 obtain ⟨t5,y5,k5⟩:=Az1 g4 k4 128 5
 have g5:E9 ex5:=AS4 g4 128 5
 rw [ex_5.1,ex_5.2.1,show (ex4.read 128 5).2.2=ex5 from rfl] at y5
 rw [show (ex4.read 128 5).2.2=ex5 from rfl] at k5
 have n5:=BL3 g5 k5
 unfold Sw.save BM5 at n5
 rw [ex_5.2.2.1,ex_5.2.2.2] at n5
 obtain ⟨t6,y6,k6⟩:=AX5 g5 k5 128 6 7
 have g6:E9 ex6:=AE1 g5 128 6 7
 rw [ex_6,show (ex5.write 128 6 7).2=ex6 from rfl] at y6
 rw [show (ex5.write 128 6 7).2=ex6 from rfl] at k6
 obtain ⟨t7,y7,k7⟩:=AX5 g6 k6 192 7 8
 have g7:E9 ex7:=AE1 g6 192 7 8
 rw [ex_7,show (ex6.write 192 7 8).2=ex7 from rfl] at y7
 rw [show (ex6.write 192 7 8).2=ex7 from rfl] at k7
 obtain ⟨t8,y8,k8⟩:=w_Out g7 k7 2
 have g8:E9 ex8:=BU0 g7 2
 rw [ex_8,show (ex7.out 2).2=ex8 from rfl] at y8
 rw [show (ex7.out 2).2=ex8 from rfl] at k8
 obtain ⟨t9,y9,k9⟩:=w_Free g8 k8 0
 have g9:E9 ex9:=fre_good g8 0
 rw [ex_9,show (ex8.fre 0).2=ex9 from rfl] at y9
 rw [show (ex8.fre 0).2=ex9 from rfl] at k9
 obtain ⟨t10,y10,k10⟩:=w_Out g9 k9 2
 rw [ex_10] at y10
 clear g0 g1 g2 g3 g4 g5 g6 g7 g8 g9 k0 k1 k2 k3 k4 k5 k6 k7 k8 k9 k10 hc0
 generalize (ex9.out 2).2=q10 at *
 generalize T0=t0 at *
 generalize Sy.new []=s0 at *
 generalize ex0=q0 at *
 generalize ex1=q1 at *
 generalize ex2=q2 at *
 generalize ex3=q3 at *
 generalize ex4=q4 at *
 generalize ex5=q5 at *
 generalize ex6=q6 at *
 generalize ex7=q7 at *
 generalize ex8=q8 at *
 generalize ex9=q9 at *
 refine J4.mk (R8 F7 b10 H8 trivial D9 rfl ?_)
 unfold c10
 (refine wx_Sxp ?_;repeat' (first|with_reducible refine And.intro ?_ ?_|intro hsp))
 all_goals first|exact R4 rfl|(exfalso;omega)|(exfalso;simp at hsp;done)|(exfalso;simp_all;done)
end Go.Proofs.Ytbhgfoikbkaohaa.Sh
namespace Go.Pol
open Go.Am Go.Proofs.Ytbhgfoikbkaohaa.Sh
def SPy.cl (p:SPy) (n:Int):SPy:=⟨p.a,n,p.pg,256,[],p.X⟩
def clE (p:SPy) (n:Int):List AV:=[.int .i64 p.a,.int .i64 n,.int .i64 p.pg,.int .i64 256,.nils,.isl (p.X.map Ac4)]
theorem cl_al {q:Sw} {x:SAc} (hw:x.w.toNat % 14 < 10):q.al x=if x.w.toNat % 14 < 6 then q.write x.t x.n x.v else (q.read x.t x.n).2:=by
 unfold Sw.al Sw.call
 by_cases h:x.w.toNat % 14 < 6
 ·rw [if_pos h,if_pos h]
 ·rw [if_neg h,if_neg h,if_pos hw]
theorem few_al {t u:Sw} {now:Int} (h:Few t u now) (hnow:0≤now∧now≤1000000000000) {x:SAc} (hx:x.n=now) (hw:x.w.toNat % 14 < 10):(t.al x).1=(u.al x).1∧Few (t.al x).2 (u.al x).2 (now+1):=by
 rw [cl_al hw,cl_al hw,hx]
 split
 ·exact BU7 h hnow _ _
 ·exact few_read h hnow _
theorem few_new {p:SPy} {n:Int} (hst:O5 p.a p.n p.pg 256) (he:((Sy.new []).chg p.a p.n 0 1 0).1=0) (hst2:O5 p.a n p.pg 256) (he2:((Sy.new []).chg p.a n 0 1 0).1=0) (hn:p.n≤n):Few (p.cl p.n).b (p.cl n).b 1:=by
 obtain ⟨n1,n2,n3,n4,n5,n6,n7,n8⟩:=hst
 obtain ⟨m1,m2,m3,m4,m5,m6,m7,m8⟩:=hst2
 obtain ⟨hg,_,_,h4⟩:=AZ0 (l:=[]) (a:=p.a) (n:=p.n) (pg:=p.pg.toNat) (sl:=256) (by decide) ⟨n1,n3,by omega⟩ ⟨by omega,by omega,by omega⟩ he (p.cl p.n).b rfl
 obtain ⟨hg2,_,_,h42⟩:=AZ0 (l:=[]) (a:=p.a) (n:=n) (pg:=p.pg.toNat) (sl:=256) (by decide) ⟨m1,m3,by omega⟩ ⟨by omega,by omega,by omega⟩ he2 (p.cl n).b rfl
 have hno:∀ k (j:Nat),¬ Sw.is (p.cl k).b j:=fun k j h=>by
  rcases h with h|h
  ·exact absurd h (show ¬ (0:Int) ≤ -1 by decide)
  ·exact absurd h (show ¬ (0:Int) ≤ -1 by decide)
 refine ⟨h4 rfl rfl,h42 rfl rfl,rfl,?_,fun j=>⟨fun h=>absurd h (hno _ j),fun h=>absurd h (hno _ j)⟩,fun j h=>absurd h (hno _ j),Int.le_refl _⟩
 show p.n.toNat≤n.toNat
 omega
end Go.Pol
namespace Go.Proofs.Ytbhgfoikbkaohaa.Sh
open Go Go.Am Go.Pol
theorem plx_Syb {p:Prop} (h:p:=by ((first|exact plw|(with_reducible first|apply U1|apply F9 _|apply G6 _|apply G5 _|apply AD5|apply Q0|apply O9|apply O7|apply AO5 _|apply AA0 _|apply AI0|apply X6|apply Ah7 _ _|fail)|fail);first|done|fail)):p:=h
theorem ppx_Syb {p:Prop} (h:p:=by ((first|with_reducible assumption|(with_reducible first|apply F4|apply Ab5|apply AY2|apply AJ1|apply AZ3|apply AN8 _|apply AN6 _|apply hds|apply BE2 _ _|fail)|exact ppw|fail);first|done|fail)):p:=h
open Go.Proofs.Ytbhgfoikbkaohaa.Sh renaming plx_Syb → plx
open Go.Proofs.Ytbhgfoikbkaohaa.Sh renaming ppx_Syb → ppx
theorem wx_Syb {p q:Prop} (hq:q) (h:Y5 q→p:=by (intro hQz;((repeat' ((try (conv=>whnf));first|refine sxA ?_|refine AA6 hm20 ?_|refine AA6 hwr ?_|refine AH2 (d:=dSA) Ag9 (by first|assumption|omega) (by with_reducible assumption) ?_|refine AA6 (by with_reducible assumption) ?_|refine sxF ?_|refine M6 hf ?_|refine M6 hsh ?_|refine M6 hf2 ?_|refine cx_BE hb1 ?_|refine cx_BE hb2 ?_|refine cx_WB hb1 ?_|refine cx_WB hb2 ?_|refine sxH ?_|((with_reducible first|apply V4 hQz|apply V5 hQz)<;>(try intro hsp hQz))|exact hQz.out))<;>(try (conv=>whnf))))):p:=h ⟨hq⟩
theorem wx_Sybn {p q:Prop} (hq:q) (h:Y5 q→p:=by (intro hQz;((repeat' ((try (conv=>whnf));first|refine sxA ?_|refine AH2 (d:=dSA) Ag9 (by first|assumption|omega) (by with_reducible assumption) ?_|refine AA6 (by with_reducible assumption) ?_|refine sxN ?_|refine dcx_A hA1 rfl rfl rfl rfl rfl rfl rfl ?_|refine cx_A hA1 rfl rfl rfl rfl rfl (by decide) rfl ?_|refine cx_A hA2 rfl rfl rfl rfl rfl (by decide) rfl ?_|refine dcx_A hA2 rfl rfl rfl rfl rfl rfl rfl ?_|refine AM5 hS1 rfl rfl rfl rfl rfl (by decide) rfl ?_|refine AM5 hS2 rfl rfl rfl rfl rfl (by decide) rfl ?_|refine sxH ?_|((with_reducible first|apply V4 hQz|apply V5 hQz)<;>(try intro hsp hQz))|exact hQz.out))<;>(try (conv=>whnf))))):p:=h ⟨hq⟩
theorem dcx_A {x:SAc} {q q':Sw} {t t':WS} {v:Int} {o w d m s:Nat} {h:Hp} {K:AV→Up→List Nat→Prop} (hc:LocA x q t v q' t')
  (g0:lk h.l o=some (.cells (stC s w d m q))) (g1:lk h.l w=some (.maps (encW pgE t.W))) (g2:lk h.l d=some (.maps (encW byE t.D))) (g3:lk h.l m=some (.maps (encW nuE t.H))) (g4:lk h.l s=some (.cells q.s.a))
  (hd:AY9 [o,w,d,m,s]=true) (hnx':[o,w,d,m,s].contains h.next=false)
  (hk:K (.int .i64 v) [(o,some (.cells (stC s w d m q'))),(w,some (.maps (encW pgE t'.W))),(d,some (.maps (encW byE t'.D))),(m,some (.maps (encW nuE t'.H))),(s,some (.cells q'.s.a))] [o,w,d,m,s]):AH4 Try.prog G0 13 [.ptr s 0,.ptr o 0,.agg (Ac4 x)] h K:=by
 have hnx:h.next ∉ [o,w,d,m,s]:=fun hm=>by rw [List.contains_eq_mem,decide_eq_false_iff_not] at hnx';exact hnx' hm
 have e0:enter [o,w,d,m,s] o 0:=rfl
 have e1:enter [o,w,d,m,s] w 1:=rfl
 have e2:enter [o,w,d,m,s] d 2:=rfl
 have e3:enter [o,w,d,m,s] m 3:=rfl
 have e4:enter [o,w,d,m,s] s 4:=rfl
 have k0:L6 [o,w,d,m,s] 0 o:=rfl
 have k1:L6 [o,w,d,m,s] 1 w:=rfl
 have k2:L6 [o,w,d,m,s] 2 d:=rfl
 have k3:L6 [o,w,d,m,s] 3 m:=rfl
 have k4:L6 [o,w,d,m,s] 4 s:=rfl
 refine Ak1 (l1:=stN q' t' o w d m s) [o,w,d,m,s] hc.out H8 hd
  (.cons e0 g0 (AE8 e4 e1 e2 e3) (.maps e1 g1 (A9 F9) (.maps e2 g2 (A9 G6) (.maps e3 g3 (A9 G5) (.cons e4 g4 (D7 F4) .nil)))))
  hnx ?_ ?_ ⟨P8 e4,P8 e0,F3 (AO5 x),trivial⟩ (F3 A8)
  (.cons k0 (AE8 k4 k1 k2 k3) (.maps k1 (A9 F9) (.maps k2 (A9 G6) (.maps k3 (A9 G5) (.cons k4 (D7 F4) .nil))))) hk
 ·intro x hx
  simp only [stN,lk]
  repeat' split
  all_goals first|exact ⟨_,rfl⟩|(exfalso;simp only [List.mem_cons,List.not_mem_nil,or_false] at hx;omega)
 ·intro j x hx
  have : j < 5:=(List.getElem?_eq_some_iff.1 hx).1
  simp only [stN,lk]
  repeat' split
  all_goals first|exact ⟨_,rfl⟩|(exfalso;omega)
theorem BE2 (p:SPy) (n:Int):∀ y ∈ clE p n,Plain y:=fun y hy=>by
 unfold clE at hy
 simp only [List.mem_cons,List.not_mem_nil,or_false] at hy
 rcases hy with rfl|rfl|rfl|rfl|rfl|rfl
 ·exact A8
 ·exact A8
 ·exact A8
 ·exact A8
 ·exact X6
 ·exact AI0
theorem Ah7 (p:SPy) (n:Int):Plain (.agg (clE p n)):=K4 (BE2 p n)
theorem wk_cl (p:SPy) (n:Int):Al9 [.agg (clE p n)] [.agg (AT8 (p.cl n))]:=⟨BK9 ⟨AQ2,AQ2,AQ2,AQ2,BK8,AQ2,trivial⟩,trivial⟩
theorem BC2 (p:SPy) (n:Int):(∃ e ds,e ≠ 0∧LocBE [.agg (clE p n)] e ds)∨(O5 p.a n p.pg 256∧((Sy.new []).chg p.a n 0 1 0).1=0∧LocWB [.agg (clE p n)] (p.cl n).b T0):=by
 rcases l_begun (p.cl n) with ⟨e,he,e0,hb⟩ | ⟨e,ds,he,hb⟩ | ⟨hc,hst,he,hb⟩
 ·exact absurd (e0.trans (by decide:(AC8 []).2=0)) he
 ·exact .inl ⟨e,ds,he,⟨hb.out.weak (Al9.args (wk_cl p n)),O6 (Ah7 p n),hb.pd⟩⟩
 ·exact .inr ⟨hst,he,⟨hb.out.weak (Al9.args (wk_cl p n)),O6 (Ah7 p n)⟩⟩
theorem k_far0 (p:SPy) (n:Int) (hl:p.X.length≤maxLen):∃ b,J4 9 [.agg (clE p n)] (.bool b):=by
 obtain ⟨b,h,_⟩:=k_far (p.cl n) hl
 exact ⟨b,⟨h.out.weak (Al9.args (wk_cl p n))⟩⟩
set_option maxRecDepth 20000 in
theorem k_fewer (p:SPy) (m:Nat) (hm:m < 256) (hl:p.X.length≤maxLen) (hwf:∀ x ∈ p.X,0≤x.w) (hpn:-9223372036854775808≤p.n∧p.n≤9223372036854775807):J4 4 [.agg (AT8 p),.int .u8 (m:Nat)] (.bool true):=by
 obtain ⟨b,hf,hfb⟩:=k_far p hl
 obtain ⟨n2,hn2⟩:∃ n2,n2=IntKind.i64.wrap (p.n+((m % 20:Nat):Int)):=⟨_,rfl⟩
 have hm20:((m:Nat):Int).tmod 20=((m % 20:Nat):Int):=by rw [Int.tmod_eq_emod_of_nonneg (by omega)];omega
 have hm20l:m % 20 < 20:=Nat.mod_lt _ (by decide)
 obtain ⟨b2,hf2⟩:=k_far0 p n2 hl
 have hl:p.X.length≤9223372036854775807:=hl
 have hsh:=k_shown
 refine J4.mk (R8 F7 b4 H8 ⟨AA0 p,A8,trivial⟩ D9 rfl ?_)
 unfold c4
 have hb1:=BC2 p p.n
 have hb2:=BC2 p n2
 have hfn:O5 p.a p.n p.pg 256→O5 p.a n2 p.pg 256→p.n≤n2:=fun h1 h2=>by
  unfold O5 at h1 h2
  have e:n2=p.n+((m % 20:Nat):Int):=by rw [hn2,IntWalk.i64_in _ ⟨by omega,by omega⟩]
  omega
 have hwr:=hn2.symm
 cases b with
 | true =>
  unfold AT8 at *
  (refine wx_Syb ?_;repeat' (first|with_reducible refine And.intro ?_ ?_|intro hsp))
  all_goals exact R4 rfl
 | false =>
 obtain ⟨hok,hrl⟩:=hfb rfl
 obtain ⟨hok1,_⟩:=hok
 clear hfb hrl
 cases b2 with
 | true =>
  unfold AT8 clE at *
  (refine wx_Syb ?_;repeat' (first|with_reducible refine And.intro ?_ ?_|intro hsp))
  all_goals first|exact R4 rfl|(exfalso;omega)
 | false =>
 rcases hb1 with ⟨e1,ds1,he1,hb1⟩ | ⟨hst1,he1,hb1⟩
 ·rcases hb2 with ⟨e2,ds2,he2,hb2⟩ | ⟨hst2,he2,hb2⟩
  ·unfold AT8 clE at *
   (refine wx_Syb ?_;repeat' (first|with_reducible refine And.intro ?_ ?_|intro hsp))
   all_goals first|exact R4 rfl|(exfalso;omega)
  ·unfold AT8 clE at *
   (refine wx_Syb ?_;repeat' (first|with_reducible refine And.intro ?_ ?_|intro hsp))
   all_goals first|exact R4 rfl|(exfalso;omega)
 ·rcases hb2 with ⟨e2,ds2,he2,hb2⟩ | ⟨hst2,he2,hb2⟩
  ·unfold AT8 clE at *
   (refine wx_Syb ?_;repeat' (first|with_reducible refine And.intro ?_ ?_|intro hsp))
   all_goals first|exact R4 rfl|(exfalso;omega)
  ·have h0:=few_new hst1 he1 hst2 he2 (hfn hst1 hst2)
   have ho1:WOk (p.cl p.n).b T0:=At2
   have ho2:WOk (p.cl n2).b T0:=At2
   clear hst1 he1 hst2 he2
   generalize (p.cl p.n).b=b1 at *
   generalize (p.cl n2).b=b2 at *
   generalize T0=t0 at *
   unfold AT8 clE at *
   (refine wx_Syb ?_;repeat' (first|with_reducible refine And.intro ?_ ?_|intro hsp))
   all_goals first|(exfalso;omega)|skip
   (refine U9 [2,6,7,9,10] (fun (z:Nat × Sw × WS × Sw × WS)=>[(12,.int .i64 (z.1:Nat))]) (fun (z:Nat × Sw × WS × Sw × WS)=>⟨[(0,.cells [.int .i64 p.a,.int .i64 p.n,.int .i64 p.pg,.int .i64 256,.nils,.isl (p.X.map Ac4)])]++stN z.2.1 z.2.2.1 2 3 4 5 6++stN z.2.2.2.1 z.2.2.2.2 7 8 9 10 11,12⟩) (fun (z:Nat × Sw × WS × Sw × WS)=>z.1≤p.X.length∧WOk z.2.1 z.2.2.1∧WOk z.2.2.2.1 z.2.2.2.2∧Few z.2.1 z.2.2.2.1 ((z.1:Nat)+1)) (fun (z:Nat × Sw × WS × Sw × WS)=>p.X.length - z.1) ((0,b1,t0,b2,t0)) [] rfl (fun _=>by first|exact Nat.zero_le _|(dsimp only;omega)) ?_ (by ((try (conv=>whnf));exact AA5)) ?_)
   ·exact ⟨Nat.zero_le _,ho1,ho2,h0⟩
   rintro ⟨i,q,t,r,u⟩ ⟨hi,hO1,hO2,hG⟩
   dsimp only at hi hO1 hO2 hG ⊢
   clear h0 ho1 ho2 hb1 hb2
   by_cases hil:i < p.X.length
   ·have hw0:=hwf _ (AY8 (d:=dSA) hil)
    generalize hx:nth dSA p.X i=x at *
    have e0:x.w.tmod 14=x.w % 14:=Int.tmod_eq_emod_of_nonneg hw0
    have hm:((x.w.toNat % 14:Nat):Int)=x.w.tmod 14:=by rw [e0];omega
    by_cases hw:x.w.toNat % 14 < 10
    ·obtain ⟨y,hy⟩:∃ y:SAc,y=⟨x.w,x.p,x.t,((i:Nat):Int)+1,x.v,x.l⟩:=⟨_,rfl⟩
     have hyw:y.w=x.w:=by rw [hy]
     have hyn:y.n=((i:Nat):Int)+1:=by rw [hy]
     obtain ⟨t',hO1',hA1⟩:=BS6 hG.lt.good hO1 y (by rw [hyw];exact hw0)
     obtain ⟨u',hO2',hA2⟩:=BS6 hG.lu.good hO2 y (by rw [hyw];exact hw0)
     obtain ⟨he,hG'⟩:=few_al hG ⟨by omega,by omega⟩ hyn (by rw [hyw];exact hw)
     rw [he] at hA1
     have hS1:=BL3 hG'.lt.good hO1'
     have hS2:=BL3 hG'.lu.good hO2'
     have hfin:=hG'.ins
     unfold Sw.save BM5 at hS1 hS2
     generalize (q.al y).2=q' at *
     generalize (r.al y)=r' at *
     clear hwf he
     have hG'':Few q' r'.2 ((((i+1:Nat)):Int)+1):=by rw [show (((i+1:Nat)):Int)+1=((i:Nat):Int)+1+1 by omega];exact hG'
     clear hG'
     rw [hy] at hA1 hA2
     clear hy
     unfold stN stC
     (refine wx_Sybn ?_;repeat' (first|with_reducible refine And.intro ?_ ?_|intro hsp))
     all_goals first|(exfalso;omega)|(exfalso;simp at hsp;done)|exact J8 ((i+1,q',t',r'.2,u')) [] ⟨hil,hO1',hO2',hG''⟩ (by first|omega|(dsimp only;omega)) rfl (by exact AA5)
    ·have hG'':Few q r ((((i+1:Nat)):Int)+1):=by rw [show (((i+1:Nat)):Int)+1=((i:Nat):Int)+1+1 by omega];exact AW7 hG
     clear hwf hG
     unfold stN stC
     (refine wx_Syb ?_;repeat' (first|with_reducible refine And.intro ?_ ?_|intro hsp))
     all_goals first|(exfalso;omega)|exact J8 ((i+1,q,t,r,u)) [] ⟨hil,hO1,hO2,hG''⟩ (by first|omega|(dsimp only;omega)) rfl (by exact AA5)
   ·unfold stN stC
    (refine wx_Syb ?_;repeat' (first|with_reducible refine And.intro ?_ ?_|intro hsp))
    all_goals first|(exfalso;omega)|exact R4 rfl
end Go.Proofs.Ytbhgfoikbkaohaa.Sh
