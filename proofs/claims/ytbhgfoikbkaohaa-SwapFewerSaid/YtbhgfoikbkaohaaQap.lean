/-
 A page is touched.
 A page is touched: all of it;reading and writing.
 The calls of a store: reading,writing,putting out,freeing,the victim,what it counts.
 What a store counts;its state.
 The ends of Save: growing slices become values.
 The state of a store.
-/
import Derived.Test.YtbhgfoikbkaohaaQao
set_option linter.unusedSimpArgs false
set_option linter.unusedVariables false
set_option maxHeartbeats 12800000
namespace Go.Pol
open Go.Am Go.Proofs.Ytbhgfoikbkaohaa.Sh
def Ak8 (q:Sw) (s1:Sy) (i:Int) (p f:Nat) (now:Int) (x:Nat→Int):Sw:={ q with ins:=i,T:=D8 q.T p (-1),F:=D8 q.F p (f:Nat),Z:=D8 q.Z p now,s:=s1.page f x }
theorem brg_R {q:Sw} {s1:Sy} {p f:Nat} {now:Int} {x:Nat→Int}:({ q with s:=s1 }:Sw).brg p f now x=Ak8 q s1 (if 0≤q.T p then AL2 q.ins else q.ins) p f now x:=rfl
theorem brg_R0 {q:Sw} {p f:Nat} {now:Int} {x:Nat→Int}:q.brg p f now x=Ak8 q q.s (if 0≤q.T p then AL2 q.ins else q.ins) p f now x:=rfl
theorem put_R {q:Sw} {p v k f:Nat} {now:Int} {x:Nat→Int} (h:v ≠ p):(q.put v k).brg p f now x=Ak8 (q.put v k) q.s (if 0≤q.T p then AL2 q.ins else q.ins) p f now x:=by
 unfold Sw.brg Ak8
 have e:(q.put v k).T p=q.T p:=if_neg fun e=>h e.symm
 rw [e];rfl
theorem BC3 {s:Sy} {f:Nat} {y:Int} (hf:f < 1024) (h:s.K f=y):s.kind (f:Nat)=[.int .i64 y,.bool (s.M f),.int .i64 0]:=by
 unfold Sy.kind
 rw [if_neg (by omega),Int.toNat_natCast,h]
end Go.Pol
namespace Go.Proofs.Ytbhgfoikbkaohaa.Sh
open Go Go.Am Go.Pol
theorem wx_Sxh {p q:Prop} (hq:q) (h:Y5 q→p:=by (intro hQz;((repeat' ((try (conv=>whnf));first|refine sxA ?_|refine AI5 hW rfl ?_|refine Ao8 rfl (q.F p,q.T p,now) rfl ?_|refine sxF ?_|refine sxH ?_|((with_reducible first|apply V4 hQz|apply V5 hQz)<;>(try intro hsp hQz))|exact hQz.out))<;>(try (conv=>whnf))))):p:=h ⟨hq⟩
theorem wx_Sxhn {p q:Prop} (hq:q) (h:Y5 q→p:=by (intro hQz;((repeat' ((try (conv=>whnf));first|refine sxA ?_|refine AI5 hW rfl ?_|refine AO9 hW rfl ?_|refine mlook_d hD BJ6 rfl ?_|refine ⟨AB5,?_⟩|refine AD6 (by simp only [List.length_replicate,AB5];omega) hov ?_|refine BR9 rfl ?_|refine Ao8 rfl (((f:Nat):Int),(-1:Int),now) rfl ?_|refine Ao8 rfl ((p:Nat):Int) rfl ?_|refine AE4 (by rw [AB5];omega) List.drop_zero (AD2 (by rw [AB5];omega) BX1 ?_)|refine Y4 hWv rfl ?_|refine sxN ?_|refine cx_L hL hy rfl rfl rfl rfl rfl rfl rfl rfl ?_|refine AM5 hS rfl rfl rfl rfl rfl (by decide) rfl ?_|refine Q7 hkd rfl (by decide) ?_|refine Q7 hcom rfl (by decide) ?_|refine AM5 (hset (min (q.ins+1) 1000000000)) rfl rfl rfl rfl rfl (by decide) rfl ?_|refine AM5 (hset q.ins) rfl rfl rfl rfl rfl (by decide) rfl ?_|refine AM5 hV rfl rfl rfl rfl rfl (by decide) rfl ?_|refine AM5 hO rfl rfl rfl rfl rfl (by decide) rfl ?_|refine AM5 (hset (min (q1.ins+1) 1000000000)) rfl rfl rfl rfl rfl (by decide) rfl ?_|refine AM5 (hset q1.ins) rfl rfl rfl rfl rfl (by decide) rfl ?_|refine sxH ?_|((with_reducible first|apply V4 hQz|apply V5 hQz)<;>(try intro hsp hQz))|exact hQz.out))<;>(try (conv=>whnf))))):p:=h ⟨hq⟩
section
variable {q:Sw} {t:WS}
theorem dcx_L {o w d m s b:Nat} {h:Hp} {K:AV→Up→List Nat→Prop} {y:Int} (hc:LocL q t) (hy:opA q.free=y)
  (g0:lk h.l o=some (.cells (stC s w d m q))) (g1:lk h.l w=some (.maps (encW pgE t.W))) (g2:lk h.l d=some (.maps (encW byE t.D))) (g3:lk h.l m=some (.maps (encW nuE t.H))) (g4:lk h.l s=some (.cells q.s.a)) (g5:lk h.l b=some (.cells [.ptr o 0]))
  (hd:AY9 [o,w,d,m,s,b]=true) (hnx':[o,w,d,m,s,b].contains h.next=false)
  (hk:K (.int .i64 y) [] [o,w,d,m,s,b]):AH4 Try.prog G0 51 [.int .i64 (q.a:Nat),.int .i64 ((q.a:Int)+(q.n:Nat)),.fn 52 [] [.ptr b 0]] h K:=by
 subst hy
 have hnx:h.next ∉ [o,w,d,m,s,b]:=fun hm=>by rw [List.contains_eq_mem,decide_eq_false_iff_not] at hnx';exact hnx' hm
 have e0:enter [o,w,d,m,s,b] o 0:=rfl
 have e1:enter [o,w,d,m,s,b] w 1:=rfl
 have e2:enter [o,w,d,m,s,b] d 2:=rfl
 have e3:enter [o,w,d,m,s,b] m 3:=rfl
 have e4:enter [o,w,d,m,s,b] s 4:=rfl
 have e5:enter [o,w,d,m,s,b] b 5:=rfl
 have k0:L6 [o,w,d,m,s,b] 0 o:=rfl
 have k1:L6 [o,w,d,m,s,b] 1 w:=rfl
 have k2:L6 [o,w,d,m,s,b] 2 d:=rfl
 have k3:L6 [o,w,d,m,s,b] 3 m:=rfl
 have k4:L6 [o,w,d,m,s,b] 4 s:=rfl
 have k5:L6 [o,w,d,m,s,b] 5 b:=rfl
 refine BD7 (Ak1 (l1:=[(o,AObj.cells (stC s w d m q)),(w,.maps (encW pgE t.W)),(d,.maps (encW byE t.D)),(m,.maps (encW nuE t.H)),(s,.cells q.s.a),(b,AObj.cells [AV.ptr o 0])]) [o,w,d,m,s,b] hc.out H8 hd
  (.cons e0 g0 (AE8 e4 e1 e2 e3) (.maps e1 g1 (A9 F9) (.maps e2 g2 (A9 G6) (.maps e3 g3 (A9 G5) (.cons e4 g4 (D7 F4) (.cons e5 g5 ⟨P8 e0,trivial⟩ .nil))))))
  hnx ?_ ?_ ⟨F3 A8,F3 A8,rn_fn trivial ⟨P8 e5,trivial⟩,trivial⟩ (F3 A8)
  (.cons k0 (AE8 k4 k1 k2 k3) (.maps k1 (A9 F9) (.maps k2 (A9 G6) (.maps k3 (A9 G5) (.cons k4 (D7 F4) (.cons k5 (cs:=[AV.ptr 0 0]) ⟨P8 k0,trivial⟩ .nil)))))) ⟨fun j x hx=>?_,hnx,hk⟩)
 ·intro x hx
  simp only [lk]
  repeat' split
  all_goals first|exact ⟨_,rfl⟩|(exfalso;simp only [List.mem_cons,List.not_mem_nil,or_false] at hx;omega)
 ·intro j x hx
  have : j < 6:=(List.getElem?_eq_some_iff.1 hx).1
  simp only [stN,List.cons_append,List.nil_append,lk]
  repeat' split
  all_goals first|exact ⟨_,rfl⟩|(exfalso;omega)
 ·simp only [Ac1,List.map_cons,List.map_nil,List.mem_cons,Prod.mk.injEq,List.not_mem_nil,or_false] at hx ⊢
  rcases hx with ⟨rfl,rfl⟩ | ⟨rfl,rfl⟩ | ⟨rfl,rfl⟩ | ⟨rfl,rfl⟩ | ⟨rfl,rfl⟩ | ⟨rfl,rfl⟩
  ·exact ⟨.inl rfl,g0⟩
  ·exact ⟨.inr (.inl rfl),g1⟩
  ·exact ⟨.inr (.inr (.inl rfl)),g2⟩
  ·exact ⟨.inr (.inr (.inr (.inl rfl))),g3⟩
  ·exact ⟨.inr (.inr (.inr (.inr (.inl rfl)))),g4⟩
  ·exact ⟨.inr (.inr (.inr (.inr (.inr rfl)))),g5⟩
theorem cx_L {o w d m s b:Nat} {h:Hp} {K:AV→Hp→Prop} {y:Int} (hc:LocL q t) (hy:opA q.free=y)
  (g0:lk h.l o=some (.cells (stC s w d m q))) (g1:lk h.l w=some (.maps (encW pgE t.W))) (g2:lk h.l d=some (.maps (encW byE t.D))) (g3:lk h.l m=some (.maps (encW nuE t.H))) (g4:lk h.l s=some (.cells q.s.a)) (g5:lk h.l b=some (.cells [.ptr o 0]))
  (hd:AY9 [o,w,d,m,s,b]=true) (hnx':[o,w,d,m,s,b].contains h.next=false)
  (hk:K (.int .i64 y) h):AE6 Try.prog G0 (.fn 51 [] []) [.int .i64 (q.a:Nat),.int .i64 ((q.a:Int)+(q.n:Nat)),.fn 52 [] [.ptr b 0]] h K:=by
 obtain ⟨r,up,rd,h1,rfl,rfl⟩:=(dcx_L (K:=fun r up _=>r = .int .i64 y∧up=[]) hc hy g0 g1 g2 g3 g4 g5 hd hnx' ⟨rfl,rfl⟩).out
 exact cx_fnU (rd:=rd) h1 hk
theorem look_out (hg:E9 q) (h:WOk q t) {p:Nat} (hn:¬ 0≤q.F p):(∃ z,mgI t.W (p:Nat)=some ((-1:Int),q.T p,z)∧0≤q.T p)∨(mgI t.W (p:Nat)=none∧q.T p = -1):=by
 have hF:q.F p = -1:=(Ay8 hg p).resolve_right fun h=>hn h.2
 by_cases hi:q.is p
 ·left
  refine ⟨q.Z p,?_,hi.resolve_left hn⟩
  rw [AP2 h.ww hi,hF]
 ·right
  refine ⟨BU2 h.ww hi,(Ac0 hg p).resolve_right fun h2=>hi (.inr h2.2)⟩
theorem look_D (hg:E9 q) (h:WOk q t) (p:Nat):(match mgI t.D (q.T p) with|some b=>b|none=>fun _=>0)=q.got p:=by
 unfold Sw.got
 rcases Ac0 hg p with h1 | ⟨_,h1⟩
 ·rw [if_neg (by omega),Aa0 h (by omega)]
 ·rw [if_pos h1]
  obtain ⟨k,hk⟩:=Int.eq_ofNat_of_zero_le h1
  rw [hk,AU6 hg h hk,Int.toNat_natCast]
theorem w_touchA (hg:E9 q) (h:WOk q t) {p:Nat} {now:Int} (hF:0≤q.F p):K3 32 [.int .i64 (p:Nat),.int .i64 now] q t (.int .i64 0) { q with Z:=D8 q.Z p now } ⟨mpI t.W (p:Nat) (q.F p,q.T p,now),t.D,t.H⟩:=by
 refine K3.mk (G7 F7 b32 rfl ?_) (fun x hx=>by
  simp only [List.mem_cons,List.not_mem_nil,or_false] at hx
  rcases hx with rfl|rfl<;>exact A8) A8
 have hW:=AP2 h.ww (p:=p) (.inl hF)
 unfold c32
 unfold stN stC
 (refine wx_Sxh ?_;repeat' (first|with_reducible refine And.intro ?_ ?_|intro hsp))
 all_goals first|(exfalso;omega)|exact J3 (q:={ q with Z:=D8 q.Z p now }) (t:=⟨mpI t.W (p:Nat) (q.F p,q.T p,now),t.D,t.H⟩) rfl A8 rfl rfl rfl rfl rfl
theorem w_touchF {p:Nat} {now τ y:Int} {x:Nat→Int} (hrng:q.a+q.n≤1024) (hci:0≤q.ins∧q.ins≤1000000000) (hL:LocL q t) (hy:opA q.free=y) (hWT:(∃ z,mgI t.W (p:Nat)=some ((-1:Int),τ,z)∧0≤τ)∨(mgI t.W (p:Nat)=none∧τ = -1)) (hD:(match mgI t.D τ with|some b=>b|none=>fun _=>0)=x) (hn:y = -1) (hS:K3 48 [.int .i64 τ] q t (.int .i64 (-1)) q t):K3 32 [.int .i64 (p:Nat),.int .i64 now] q t (.int .i64 5) q t:=by
 refine K3.mk (G7 F7 b32 rfl ?_) (fun x hx=>by
  simp only [List.mem_cons,List.not_mem_nil,or_false] at hx
  rcases hx with rfl|rfl<;>exact A8) A8
 have hov:=AM0 (x:=x)
 have hadd:=AJ2 (x:=q.ins)
 unfold c32
 unfold stN stC
 subst hn
 clear hadd
 rcases hWT with ⟨z,hW,hT⟩ | ⟨hW,hT⟩
 ·(refine wx_Sxhn ?_;repeat' (first|with_reducible refine And.intro ?_ ?_|intro hsp))
  all_goals first|(exfalso;omega)|exact J3 rfl A8 rfl rfl rfl rfl rfl
 ·subst hT
  (refine wx_Sxhn ?_;repeat' (first|with_reducible refine And.intro ?_ ?_|intro hsp))
  all_goals first|(exfalso;omega)|exact J3 rfl A8 rfl rfl rfl rfl rfl
theorem w_touchE {p:Nat} {now τ y:Int} {x:Nat→Int} (hrng:q.a+q.n≤1024) (hci:0≤q.ins∧q.ins≤1000000000) (hL:LocL q t) (hy:opA q.free=y) (hWT:(∃ z,mgI t.W (p:Nat)=some ((-1:Int),τ,z)∧0≤τ)∨(mgI t.W (p:Nat)=none∧τ = -1)) (hD:(match mgI t.D τ with|some b=>b|none=>fun _=>0)=x) {f:Nat} {e:Int} {s1:Sy} {b1:Bool} (hn:y=(f:Nat)) (hkd:AC9 43 [.int .i64 (f:Nat)] q.s.a (.tup [.int .i64 1,.bool b1,.int .i64 0]) q.s.a) (hcom:AC9 53 [.int .i64 (f:Nat),.int .i64 1] q.s.a (.int .i64 e) s1.a) (he:e ≠ 0):K3 32 [.int .i64 (p:Nat),.int .i64 now] q t (.int .i64 e) { q with s:=s1 } t:=by
 refine K3.mk (G7 F7 b32 rfl ?_) (fun x hx=>by
  simp only [List.mem_cons,List.not_mem_nil,or_false] at hx
  rcases hx with rfl|rfl<;>exact A8) A8
 have hov:=AM0 (x:=x)
 have hadd:=AJ2 (x:=q.ins)
 unfold c32
 unfold stN stC
 subst hn
 clear hadd
 rcases hWT with ⟨z,hW,hT⟩ | ⟨hW,hT⟩
 ·(refine wx_Sxhn ?_;repeat' (first|with_reducible refine And.intro ?_ ?_|intro hsp))
  all_goals first|(exfalso;omega)|exact J3 (q:={ q with s:=s1 }) rfl A8 rfl rfl rfl rfl rfl
 ·subst hT
  (refine wx_Sxhn ?_;repeat' (first|with_reducible refine And.intro ?_ ?_|intro hsp))
  all_goals first|(exfalso;omega)|exact J3 (q:={ q with s:=s1 }) rfl A8 rfl rfl rfl rfl rfl
theorem w_touchC {p:Nat} {now τ y:Int} {x:Nat→Int} (hrng:q.a+q.n≤1024) (hci:0≤q.ins∧q.ins≤1000000000) (hL:LocL q t) (hy:opA q.free=y) (hWT:(∃ z,mgI t.W (p:Nat)=some ((-1:Int),τ,z)∧0≤τ)∨(mgI t.W (p:Nat)=none∧τ = -1)) (hD:(match mgI t.D τ with|some b=>b|none=>fun _=>0)=x) {f:Nat} {s1:Sy} {b1:Bool} (hn:y=(f:Nat)) (hkd:AC9 43 [.int .i64 (f:Nat)] q.s.a (.tup [.int .i64 1,.bool b1,.int .i64 0]) q.s.a) (hcom:AC9 53 [.int .i64 (f:Nat),.int .i64 1] q.s.a (.int .i64 0) s1.a) (hset:∀ i,K3 54 [.int .i64 (f:Nat),.agg (bcA x)] { q with s:=s1,ins:=i } ⟨mpI t.W (p:Nat) ((f:Nat),-1,now),mdI t.D τ,mpI t.H (f:Nat) (p:Nat)⟩ (.tup []) { q with s:=s1.page f x,ins:=i } ⟨mpI t.W (p:Nat) ((f:Nat),-1,now),mdI t.D τ,mpI t.H (f:Nat) (p:Nat)⟩):K3 32 [.int .i64 (p:Nat),.int .i64 now] q t (.int .i64 0) (Ak8 q s1 (if 0≤τ then AL2 q.ins else q.ins) p f now x) ⟨mpI t.W (p:Nat) ((f:Nat),-1,now),mdI t.D τ,mpI t.H (f:Nat) (p:Nat)⟩:=by
 refine K3.mk (G7 F7 b32 rfl ?_) (fun x hx=>by
  simp only [List.mem_cons,List.not_mem_nil,or_false] at hx
  rcases hx with rfl|rfl<;>exact A8) A8
 have hov:=AM0 (x:=x)
 have hadd:=AJ2 (x:=q.ins)
 unfold c32
 unfold stN stC
 subst hn
 rcases hWT with ⟨z,hW,hT⟩ | ⟨hW,hT⟩
 ·rw [if_pos hT]
  (refine wx_Sxhn ?_;repeat' (first|with_reducible refine And.intro ?_ ?_|intro hsp))
  all_goals first|(exfalso;omega)|(simp only [hadd];exact J3 (q:=Ak8 q s1 (AL2 q.ins) p f now x) (t:=⟨mpI t.W (p:Nat) ((f:Nat),-1,now),mdI t.D τ,mpI t.H (f:Nat) (p:Nat)⟩) rfl A8 rfl rfl rfl rfl rfl)|exact J3 (q:=Ak8 q s1 (AL2 q.ins) p f now x) (t:=⟨mpI t.W (p:Nat) ((f:Nat),-1,now),mdI t.D τ,mpI t.H (f:Nat) (p:Nat)⟩) rfl A8 rfl rfl rfl rfl rfl
 ·subst hT
  rw [if_neg (by omega)]
  (refine wx_Sxhn ?_;repeat' (first|with_reducible refine And.intro ?_ ?_|intro hsp))
  all_goals first|(exfalso;omega)|(simp only [hadd];exact J3 (q:=Ak8 q s1 q.ins p f now x) (t:=⟨mpI t.W (p:Nat) ((f:Nat),-1,now),mdI t.D (-1),mpI t.H (f:Nat) (p:Nat)⟩) rfl A8 rfl rfl rfl rfl rfl)|exact J3 (q:=Ak8 q s1 q.ins p f now x) (t:=⟨mpI t.W (p:Nat) ((f:Nat),-1,now),mdI t.D (-1),mpI t.H (f:Nat) (p:Nat)⟩) rfl A8 rfl rfl rfl rfl rfl
theorem w_touchG {p:Nat} {now τ y:Int} {x:Nat→Int} (hrng:q.a+q.n≤1024) (hci:0≤q.ins∧q.ins≤1000000000) (hL:LocL q t) (hy:opA q.free=y) (hWT:(∃ z,mgI t.W (p:Nat)=some ((-1:Int),τ,z)∧0≤τ)∨(mgI t.W (p:Nat)=none∧τ = -1)) (hD:(match mgI t.D τ with|some b=>b|none=>fun _=>0)=x) {f:Nat} {b1:Bool} (hn:y=(f:Nat)) (hkd:AC9 43 [.int .i64 (f:Nat)] q.s.a (.tup [.int .i64 2,.bool b1,.int .i64 0]) q.s.a) (hset:∀ i,K3 54 [.int .i64 (f:Nat),.agg (bcA x)] { q with ins:=i } ⟨mpI t.W (p:Nat) ((f:Nat),-1,now),mdI t.D τ,mpI t.H (f:Nat) (p:Nat)⟩ (.tup []) { q with s:=q.s.page f x,ins:=i } ⟨mpI t.W (p:Nat) ((f:Nat),-1,now),mdI t.D τ,mpI t.H (f:Nat) (p:Nat)⟩):K3 32 [.int .i64 (p:Nat),.int .i64 now] q t (.int .i64 0) (Ak8 q q.s (if 0≤τ then AL2 q.ins else q.ins) p f now x) ⟨mpI t.W (p:Nat) ((f:Nat),-1,now),mdI t.D τ,mpI t.H (f:Nat) (p:Nat)⟩:=by
 refine K3.mk (G7 F7 b32 rfl ?_) (fun x hx=>by
  simp only [List.mem_cons,List.not_mem_nil,or_false] at hx
  rcases hx with rfl|rfl<;>exact A8) A8
 have hov:=AM0 (x:=x)
 have hadd:=AJ2 (x:=q.ins)
 unfold c32
 unfold stN stC
 subst hn
 rcases hWT with ⟨z,hW,hT⟩ | ⟨hW,hT⟩
 ·rw [if_pos hT]
  (refine wx_Sxhn ?_;repeat' (first|with_reducible refine And.intro ?_ ?_|intro hsp))
  all_goals first|(exfalso;omega)|(simp only [hadd];exact J3 (q:=Ak8 q q.s (AL2 q.ins) p f now x) (t:=⟨mpI t.W (p:Nat) ((f:Nat),-1,now),mdI t.D τ,mpI t.H (f:Nat) (p:Nat)⟩) rfl A8 rfl rfl rfl rfl rfl)|exact J3 (q:=Ak8 q q.s (AL2 q.ins) p f now x) (t:=⟨mpI t.W (p:Nat) ((f:Nat),-1,now),mdI t.D τ,mpI t.H (f:Nat) (p:Nat)⟩) rfl A8 rfl rfl rfl rfl rfl
 ·subst hT
  rw [if_neg (by omega)]
  (refine wx_Sxhn ?_;repeat' (first|with_reducible refine And.intro ?_ ?_|intro hsp))
  all_goals first|(exfalso;omega)|(simp only [hadd];exact J3 (q:=Ak8 q q.s q.ins p f now x) (t:=⟨mpI t.W (p:Nat) ((f:Nat),-1,now),mdI t.D (-1),mpI t.H (f:Nat) (p:Nat)⟩) rfl A8 rfl rfl rfl rfl rfl)|exact J3 (q:=Ak8 q q.s q.ins p f now x) (t:=⟨mpI t.W (p:Nat) ((f:Nat),-1,now),mdI t.D (-1),mpI t.H (f:Nat) (p:Nat)⟩) rfl A8 rfl rfl rfl rfl rfl
theorem w_touchS {p:Nat} {now τ y:Int} {x:Nat→Int} (hrng:q.a+q.n≤1024) (hci:0≤q.ins∧q.ins≤1000000000) (hL:LocL q t) (hy:opA q.free=y) (hWT:(∃ z,mgI t.W (p:Nat)=some ((-1:Int),τ,z)∧0≤τ)∨(mgI t.W (p:Nat)=none∧τ = -1)) (hD:(match mgI t.D τ with|some b=>b|none=>fun _=>0)=x) {f v k:Nat} {tv zv:Int} {q1:Sw} (hci:0≤q1.ins∧q1.ins≤1000000000) (hn:y = -1) (hS:K3 48 [.int .i64 τ] q t (.int .i64 (k:Nat)) q t) (hV:K3 36 [] q ⟨t.W,mdI t.D τ,t.H⟩ (.int .i64 (v:Nat)) q ⟨t.W,mdI t.D τ,t.H⟩) (hO:K3 49 [.int .i64 (v:Nat),.int .i64 (k:Nat)] q ⟨t.W,mdI t.D τ,t.H⟩ (.tup []) q1 ⟨mpI t.W (v:Nat) (-1,(k:Nat),zv),mpI (mdI t.D τ) (k:Nat) (q.s.B f),mdI t.H (f:Nat)⟩) (hWv:mgI t.W (v:Nat)=some (((f:Nat):Int),tv,zv))
  (hset:∀ i,K3 54 [.int .i64 (f:Nat),.agg (bcA x)] { q1 with ins:=i } ⟨mpI (mpI t.W (v:Nat) (-1,(k:Nat),zv)) (p:Nat) ((f:Nat),-1,now),mpI (mdI t.D τ) (k:Nat) (q.s.B f),mpI (mdI t.H (f:Nat)) (f:Nat) (p:Nat)⟩ (.tup []) { q1 with s:=q1.s.page f x,ins:=i } ⟨mpI (mpI t.W (v:Nat) (-1,(k:Nat),zv)) (p:Nat) ((f:Nat),-1,now),mpI (mdI t.D τ) (k:Nat) (q.s.B f),mpI (mdI t.H (f:Nat)) (f:Nat) (p:Nat)⟩):K3 32 [.int .i64 (p:Nat),.int .i64 now] q t (.int .i64 0) (Ak8 q1 q1.s (if 0≤τ then AL2 q1.ins else q1.ins) p f now x) ⟨mpI (mpI t.W (v:Nat) (-1,(k:Nat),zv)) (p:Nat) ((f:Nat),-1,now),mpI (mdI t.D τ) (k:Nat) (q.s.B f),mpI (mdI t.H (f:Nat)) (f:Nat) (p:Nat)⟩:=by
 refine K3.mk (G7 F7 b32 rfl ?_) (fun x hx=>by
  simp only [List.mem_cons,List.not_mem_nil,or_false] at hx
  rcases hx with rfl|rfl<;>exact A8) A8
 have hov:=AM0 (x:=x)
 have hadd:=AJ2 (x:=q1.ins)
 unfold c32
 unfold stN stC
 subst hn
 rcases hWT with ⟨z,hW,hT⟩ | ⟨hW,hT⟩
 ·rw [if_pos hT]
  (refine wx_Sxhn ?_;repeat' (first|with_reducible refine And.intro ?_ ?_|intro hsp))
  all_goals first|(exfalso;omega)|(simp only [hadd];exact J3 (q:=Ak8 q1 q1.s (AL2 q1.ins) p f now x) (t:=⟨mpI (mpI t.W (v:Nat) (-1,(k:Nat),zv)) (p:Nat) ((f:Nat),-1,now),mpI (mdI t.D τ) (k:Nat) (q.s.B f),mpI (mdI t.H (f:Nat)) (f:Nat) (p:Nat)⟩) rfl A8 rfl rfl rfl rfl rfl)|exact J3 (q:=Ak8 q1 q1.s (AL2 q1.ins) p f now x) (t:=⟨mpI (mpI t.W (v:Nat) (-1,(k:Nat),zv)) (p:Nat) ((f:Nat),-1,now),mpI (mdI t.D τ) (k:Nat) (q.s.B f),mpI (mdI t.H (f:Nat)) (f:Nat) (p:Nat)⟩) rfl A8 rfl rfl rfl rfl rfl
 ·subst hT
  rw [if_neg (by omega)]
  (refine wx_Sxhn ?_;repeat' (first|with_reducible refine And.intro ?_ ?_|intro hsp))
  all_goals first|(exfalso;omega)|(simp only [hadd];exact J3 (q:=Ak8 q1 q1.s q1.ins p f now x) (t:=⟨mpI (mpI t.W (v:Nat) (-1,(k:Nat),zv)) (p:Nat) ((f:Nat),-1,now),mpI (mdI t.D (-1)) (k:Nat) (q.s.B f),mpI (mdI t.H (f:Nat)) (f:Nat) (p:Nat)⟩) rfl A8 rfl rfl rfl rfl rfl)|exact J3 (q:=Ak8 q1 q1.s q1.ins p f now x) (t:=⟨mpI (mpI t.W (v:Nat) (-1,(k:Nat),zv)) (p:Nat) ((f:Nat),-1,now),mpI (mdI t.D (-1)) (k:Nat) (q.s.B f),mpI (mdI t.H (f:Nat)) (f:Nat) (p:Nat)⟩) rfl A8 rfl rfl rfl rfl rfl
end
end Go.Proofs.Ytbhgfoikbkaohaa.Sh
namespace Go.Pol
open Go.Am Go.Proofs.Ytbhgfoikbkaohaa.Sh
section
variable {q:Sw}
theorem vic_some (hg:E9 q) (hf:q.free=none):∃ v,q.vic=some v:=by
 cases hv:q.vic with
 | some v=>exact ⟨v,rfl⟩
 | none =>
  exfalso
  have hr:=hg.rng
  obtain ⟨p,hp,hF⟩:=AI9 hf q.a (Nat.le_refl _) (by omega)
  have:=(AA9 (w:=q) q.pg).2 hv p hp
  omega
theorem vic_at (hg:E9 q) {v:Nat} (hv:q.vic=some v):v < q.pg∧0≤q.F v:=⟨((AA9 (w:=q) q.pg).1 v hv).1,((AA9 (w:=q) q.pg).1 v hv).2.1⟩
theorem O6 {x:AV} (h:Plain x):∀ y ∈ [x],Plain y:=fun y hy=>by obtain rfl:=List.mem_singleton.1 hy;exact h
theorem N9 {x x2:AV} (h:Plain x) (h2:Plain x2):∀ y ∈ [x,x2],Plain y:=fun y hy=>by
 simp only [List.mem_cons,List.not_mem_nil,or_false] at hy
 rcases hy with rfl|rfl
 ·exact h
 ·exact h2
theorem plain_three {x x2 x3:AV} (h:Plain x) (h2:Plain x2) (h3:Plain x3):∀ y ∈ [x,x2,x3],Plain y:=fun y hy=>by
 simp only [List.mem_cons,List.not_mem_nil,or_false] at hy
 rcases hy with rfl|rfl|rfl
 ·exact h
 ·exact h2
 ·exact h3
theorem emod64 {a:Nat}:((a:Nat):Int) % 64=((a % 64:Nat):Int):=by omega
end
end Go.Pol
namespace Go.Proofs.Ytbhgfoikbkaohaa.Sh
open Go Go.Am Go.Pol
theorem wx_Sxi {p q:Prop} (hq:q) (h:Y5 q→p:=by (intro hQz;((repeat' ((try (conv=>whnf));first|refine sxA ?_|refine AA6 hq64 ?_|refine AA6 hm64 ?_|refine AO9 hW rfl ?_|refine AI5 hW rfl ?_|refine Y4 hW' rfl ?_|refine sxF ?_|refine AM5 w_is rfl rfl rfl rfl rfl (by decide) rfl ?_|refine AM5 hN rfl rfl rfl rfl rfl (by decide) rfl ?_|refine AM5 hT rfl rfl rfl rfl rfl (by decide) rfl ?_|refine Q7 hR rfl (by decide) ?_|refine sxH ?_|((with_reducible first|apply V4 hQz|apply V5 hQz)<;>(try intro hsp hQz))|exact hQz.out))<;>(try (conv=>whnf))))):p:=h ⟨hq⟩
section
variable {q:Sw} {t:WS}
theorem AW4 {f:Nat} {avs:List AV} {q q1 q2:Sw} {t t1:WS} {r:AV} (h:K3 f avs q t r q1 t1) (e:stN q2 t1 0 1 2 3 4=stN q1 t1 0 1 2 3 4):K3 f avs q t r q2 t1:=⟨by rw [e];exact h.out,h.pa,h.pr⟩
theorem BL2 (hg:E9 q) (h:WOk q t) {p:Nat} {now:Int} (hp:p < q.pg):∃ t',K3 32 [.int .i64 (p:Nat),.int .i64 now] q t (.int .i64 (q.touch p now).1) (q.touch p now).2 t'∧WOk (q.touch p now).2 t':=by
 have hrng:=hg.rng
 have hcnt:=hg.cnt
 by_cases hF:0≤q.F p
 ·have e:q.touch p now=(0,{ q with Z:=D8 q.Z p now }):=by unfold Sw.touch;rw [if_pos hF]
  rw [e]
  exact ⟨_,w_touchA hg h hF,BJ8 hg h hF now⟩
 ·have hWT:=look_out hg h hF
  have hD:=look_D hg h p
  have hL:=w_free hg h
  cases hfr:q.free with
  | some f =>
   obtain ⟨f1,f2,f3⟩:=X8 hfr
   have hy:opA q.free=((f:Nat):Int):=by rw [hfr];rfl
   rcases (hg.kind f f1 f2).1 with hk|hk
   ·have hkd:=p_kind (s:=q.s) (a:=(f:Nat))
    rw [BC3 (by omega) hk] at hkd
    have hcom:=p_commit (s:=q.s) (a:=(f:Nat)) (n:=1) hg.good
    obtain ⟨e,s1,hc⟩:∃ e s1,q.s.chg (f:Nat) 1 1 2 2=(e,s1):=⟨_,_,rfl⟩
    have hcw:=comW hg ⟨f1,f2⟩ hk hc
    rw [hc] at hcom
    dsimp only at hcom
    by_cases he:e=0
    ·subst he
     have et:q.touch p now=(0,Sw.brg { q with s:=s1 } p f now (q.got p)):=by unfold Sw.touch;rw [if_neg hF,hfr];dsimp only;rw [if_pos hk,hc,if_pos rfl]
     rw [et]
     refine ⟨_,?_,BJ9 hcw.1 (AQ1 h s1) hp hF f3 now (q.got p)⟩
     dsimp only
     rw [brg_R]
     exact w_touchC (by omega) ⟨hcnt.1,hcnt.2.1⟩ hL hy hWT hD rfl hkd hcom fun i=>w_set (q:={ q with s:=s1,ins:=i }) hcw.1.good (by omega) (hcw.2.1 rfl) (q.got p)
    ·have et:q.touch p now=(e,{ q with s:=s1 }):=by unfold Sw.touch;rw [if_neg hF,hfr];dsimp only;rw [if_pos hk,hc,if_neg he]
     rw [et]
     exact ⟨_,w_touchE (by omega) ⟨hcnt.1,hcnt.2.1⟩ hL hy hWT hD rfl hkd hcom he,AQ1 h s1⟩
   ·have hkd:=p_kind (s:=q.s) (a:=(f:Nat))
    rw [BC3 (by omega) hk] at hkd
    have et:q.touch p now=(0,q.brg p f now (q.got p)):=by unfold Sw.touch;rw [if_neg hF,hfr];dsimp only;rw [if_neg (by omega)]
    rw [et]
    refine ⟨_,?_,BJ9 hg h hp hF f3 now (q.got p)⟩
    dsimp only
    rw [brg_R0]
    exact w_touchG (by omega) ⟨hcnt.1,hcnt.2.1⟩ hL hy hWT hD rfl hkd fun i=>w_set (q:={ q with ins:=i }) hg.good (by omega) hk (q.got p)
  | none =>
   have hy:opA q.free = -1:=by rw [hfr];rfl
   have hS:=w_slot h hrng.2.2.2.2 (q.T p)
   cases hsl:q.slot (q.T p) with
   | none =>
    rw [hsl] at hS
    have et:q.touch p now=(5,q):=by unfold Sw.touch;rw [if_neg hF,hfr];dsimp only;rw [hsl]
    rw [et]
    exact ⟨_,w_touchF (by omega) ⟨hcnt.1,hcnt.2.1⟩ hL hy hWT hD rfl hS,h⟩
   | some k =>
    rw [hsl] at hS
    obtain ⟨v,hv⟩:=vic_some hg hfr
    obtain ⟨v1,v2⟩:=vic_at hg hv
    obtain ⟨f,f0,f1,f2,f3⟩:=U0 hg v2
    have hV:=w_victim (t:=⟨t.W,mdI t.D (q.T p),t.H⟩) hg h.ww
    rw [hv] at hV
    have hvp:v ≠ p:=fun e=>hF (by rw [← e];exact v2)
    have hWv:=AP2 h.ww (p:=v) (.inl v2)
    rw [f0] at hWv
    have et:q.touch p now=(0,(q.put v k).brg p f now (q.got p)):=by unfold Sw.touch;rw [if_neg hF,hfr];dsimp only;rw [hsl,hv];dsimp only;rw [f0];rfl
    rw [et]
    have hw:=At1 hg h hp hF f0 (AC1 hsl).2 now (q.got p)
    rw [f0,Int.toNat_natCast] at hw
    refine ⟨_,?_,hw⟩
    dsimp only
    rw [put_R hvp]
    have hO:=w_outM (t:=⟨t.W,mdI t.D (q.T p),t.H⟩) (k:=(k:Nat)) hWv (by omega) f3 hcnt.2.2
    have hO2:=AW4 (q2:=q.put v k) hO rfl
    exact w_touchS (q1:=q.put v k) (by omega) ⟨hcnt.1,hcnt.2.1⟩ hL hy hWT hD ⟨hcnt.1,hcnt.2.1⟩ rfl hS hV hO2 hWv fun i=>w_set (q:={ q.put v k with ins:=i }) hg.good (by omega) f3 (q.got p)
section
variable {a f:Nat} {at_ now e e2 v:Int} {q':Sw} {t':WS} {x x' y z:Int}
theorem w_ReadN (hN:K3 31 [.int .i64 at_,.int .i64 now] q t (.bool false) q t):K3 12 [.int .i64 at_,.int .i64 now] q t (.tup [.int .u8 0,.int .i64 7]) q t:=by
 refine K3.mk (G7 F7 b12 rfl ?_) (N9 A8 A8) (F5 (N9 A8 A8))
 unfold c12
 unfold stN stC
 (refine wx_Sxi ?_;repeat' (first|with_reducible refine And.intro ?_ ?_|intro hsp))
 all_goals first|(exfalso;omega)|exact J3 rfl (F5 (N9 A8 A8)) rfl rfl rfl rfl rfl
theorem w_ReadZ (hN:K3 31 [.int .i64 (a:Nat),.int .i64 now] q t (.bool true) q t) (ha:a < 100000) (hW:mgI t.W ((a / 64:Nat):Int)=none):K3 12 [.int .i64 (a:Nat),.int .i64 now] q t (.tup [.int .u8 0,.int .i64 0]) q t:=by
 refine K3.mk (G7 F7 b12 rfl ?_) (N9 A8 A8) (F5 (N9 A8 A8))
 have hq64:=q64 ha
 have hm64:=m64 (t:=a)
 unfold c12
 unfold stN stC
 (refine wx_Sxi ?_;repeat' (first|with_reducible refine And.intro ?_ ?_|intro hsp))
 all_goals first|(exfalso;omega)|exact J3 rfl (F5 (N9 A8 A8)) rfl rfl rfl rfl rfl
theorem w_ReadE (hN:K3 31 [.int .i64 (a:Nat),.int .i64 now] q t (.bool true) q t) (ha:a < 100000) (hW:mgI t.W ((a / 64:Nat):Int)=some (x,y,z)) (hT:K3 32 [.int .i64 ((a / 64:Nat):Int),.int .i64 now] q t (.int .i64 e) q' t') (he:e ≠ 0):K3 12 [.int .i64 (a:Nat),.int .i64 now] q t (.tup [.int .u8 0,.int .i64 e]) q' t':=by
 refine K3.mk (G7 F7 b12 rfl ?_) (N9 A8 A8) (F5 (N9 A8 A8))
 have hq64:=q64 ha
 have hm64:=m64 (t:=a)
 unfold c12
 unfold stN stC
 (refine wx_Sxi ?_;repeat' (first|with_reducible refine And.intro ?_ ?_|intro hsp))
 all_goals first|(exfalso;omega)|exact J3 (q:=q') rfl (F5 (N9 A8 A8)) rfl rfl rfl rfl rfl
theorem w_ReadY {x2:Int} (hN:K3 31 [.int .i64 (a:Nat),.int .i64 now] q t (.bool true) q t) (ha:a < 100000) (hf:f < 1024) (hW:mgI t.W ((a / 64:Nat):Int)=some (x,y,z)) (hT:K3 32 [.int .i64 ((a / 64:Nat):Int),.int .i64 now] q t (.int .i64 0) q' t') (hW':mgI t'.W ((a / 64:Nat):Int)=some (((f:Nat):Int),x2,x'))
  (hR:AC9 33 [.int .i64 (((f:Nat):Int) * 64+((a % 64:Nat):Int))] q'.s.a (.tup [.int .u8 v,.int .i64 e2]) q'.s.a):K3 12 [.int .i64 (a:Nat),.int .i64 now] q t (.tup [.int .u8 v,.int .i64 e2]) q' t':=by
 refine K3.mk (G7 F7 b12 rfl ?_) (N9 A8 A8) (F5 (N9 A8 A8))
 have hq64:=q64 ha
 have hm64:=m64 (t:=a)
 have hml:a % 64 < 64:=Nat.mod_lt _ (by decide)
 unfold c12
 unfold stN stC
 (refine wx_Sxi ?_;repeat' (first|with_reducible refine And.intro ?_ ?_|intro hsp))
 all_goals first|(exfalso;omega)|exact J3 (q:=q') rfl (F5 (N9 A8 A8)) rfl rfl rfl rfl rfl
theorem w_WriteN (hN:K3 31 [.int .i64 at_,.int .i64 now] q t (.bool false) q t):K3 26 [.int .i64 at_,.int .i64 now,.int .u8 v] q t (.int .i64 7) q t:=by
 refine K3.mk (G7 F7 b26 rfl ?_) (plain_three A8 A8 A8) A8
 unfold c26
 unfold stN stC
 (refine wx_Sxi ?_;repeat' (first|with_reducible refine And.intro ?_ ?_|intro hsp))
 all_goals first|(exfalso;omega)|exact J3 rfl A8 rfl rfl rfl rfl rfl
theorem w_WriteE (hN:K3 31 [.int .i64 (a:Nat),.int .i64 now] q t (.bool true) q t) (ha:a < 100000) (hT:K3 32 [.int .i64 ((a / 64:Nat):Int),.int .i64 now] q t (.int .i64 e) q' t') (he:e ≠ 0):K3 26 [.int .i64 (a:Nat),.int .i64 now,.int .u8 v] q t (.int .i64 e) q' t':=by
 refine K3.mk (G7 F7 b26 rfl ?_) (plain_three A8 A8 A8) A8
 have hq64:=q64 ha
 have hm64:=m64 (t:=a)
 unfold c26
 unfold stN stC
 (refine wx_Sxi ?_;repeat' (first|with_reducible refine And.intro ?_ ?_|intro hsp))
 all_goals first|(exfalso;omega)|exact J3 (q:=q') rfl A8 rfl rfl rfl rfl rfl
theorem w_WriteY {s2:Sy} (hN:K3 31 [.int .i64 (a:Nat),.int .i64 now] q t (.bool true) q t) (ha:a < 100000) (hf:f < 1024) (hT:K3 32 [.int .i64 ((a / 64:Nat):Int),.int .i64 now] q t (.int .i64 0) q' t') (hW':mgI t'.W ((a / 64:Nat):Int)=some (((f:Nat):Int),x,x'))
  (hR:AC9 47 [.int .i64 (((f:Nat):Int) * 64+((a % 64:Nat):Int)),.int .u8 v] q'.s.a (.int .i64 e2) s2.a):K3 26 [.int .i64 (a:Nat),.int .i64 now,.int .u8 v] q t (.int .i64 e2) { q' with s:=s2 } t':=by
 refine K3.mk (G7 F7 b26 rfl ?_) (plain_three A8 A8 A8) A8
 have hq64:=q64 ha
 have hm64:=m64 (t:=a)
 have hml:a % 64 < 64:=Nat.mod_lt _ (by decide)
 unfold c26
 unfold stN stC
 (refine wx_Sxi ?_;repeat' (first|with_reducible refine And.intro ?_ ?_|intro hsp))
 all_goals first|(exfalso;omega)|exact J3 (q:={ q' with s:=s2 }) rfl A8 rfl rfl rfl rfl rfl
end
end
end Go.Proofs.Ytbhgfoikbkaohaa.Sh
namespace Go.Pol
open Go.Am Go.Proofs.Ytbhgfoikbkaohaa.Sh
theorem Aw0 {β:Type} {k:Int}:∀ {L:List (Int × β)},mgI L k=none→mdI L k=L
 | [],_=>rfl
 | e::L,h=>by
  unfold mgI at h
  split at h
  ·cases h
  ·rename_i hne
   unfold mdI
   rw [if_neg hne,Aw0 h]
section
variable {q:Sw} {t:WS}
theorem md_D (h:WOk q t) {k:Int} (hk:k < 0):mdI t.D k=t.D:=Aw0 (Aa0 h hk)
theorem md_H (h:WOk q t) {k:Int} (hk:k < 0):mdI t.H k=t.H:=Aw0 (Ae8 h hk)
end
end Go.Pol
namespace Go.Proofs.Ytbhgfoikbkaohaa.Sh
open Go Go.Am Go.Pol
theorem wx_Sxj {p q:Prop} (hq:q) (h:Y5 q→p:=by (intro hQz;((repeat' ((try (conv=>whnf));first|refine sxA ?_|refine AO9 hW rfl ?_|refine AI5 hW rfl ?_|refine sxF ?_|refine AM5 w_is rfl rfl rfl rfl rfl (by decide) rfl ?_|refine AM5 hS rfl rfl rfl rfl rfl (by decide) rfl ?_|refine AM5 hV rfl rfl rfl rfl rfl (by decide) rfl ?_|refine sxH ?_|((with_reducible first|apply V4 hQz|apply V5 hQz)<;>(try intro hsp hQz))|exact hQz.out))<;>(try (conv=>whnf))))):p:=h ⟨hq⟩
theorem wx_Sxjn {p q:Prop} (hq:q) (h:Y5 q→p:=by (intro hQz;((repeat' ((try (conv=>whnf));first|refine sxA ?_|refine AI5 hW rfl ?_|refine BR9 rfl ?_|refine sxN ?_|refine AM5 w_is rfl rfl rfl rfl rfl (by decide) rfl ?_|refine AM5 hS rfl rfl rfl rfl rfl (by decide) rfl ?_|refine AM5 hO rfl rfl rfl rfl rfl (by decide) rfl ?_|refine AP6 hdec rfl rfl ?_|refine Q7 hdec rfl (by decide) ?_|refine sxH ?_|((with_reducible first|apply V4 hQz|apply V5 hQz)<;>(try intro hsp hQz))|exact hQz.out))<;>(try (conv=>whnf))))):p:=h ⟨hq⟩
section
variable {q:Sw} {t:WS}
theorem Az1 (hg:E9 q) (h:WOk q t) (at_ now:Int):∃ t',K3 12 [.int .i64 at_,.int .i64 now] q t (.tup [.int .u8 (q.read at_ now).1,.int .i64 (q.read at_ now).2.1]) (q.read at_ now).2.2 t'∧WOk (q.read at_ now).2.2 t':=by
 have hrng:=hg.rng
 have hN:=Am3 (q:=q) (t:=t) hrng.2.2.2.1 at_ now
 by_cases hn:q.nums at_ now
 ·rw [decide_eq_true hn] at hN
  obtain ⟨n1,n2,n3,n4⟩:=hn
  obtain ⟨a,rfl⟩:=Int.eq_ofNat_of_zero_le n1
  have ha:a < 100000:=by omega
  by_cases hi:q.is (a / 64)
  ·obtain ⟨t',hT,hO⟩:=BL2 hg h (p:=a / 64) (now:=now) (by omega)
   by_cases he:(q.touch (a / 64) now).1=0
   ·have er:q.read (a:Nat) now=(((q.touch (a / 64) now).2.s.read ((q.touch (a / 64) now).2.F (a / 64) * 64+((a:Nat):Int) % 64)).1,((q.touch (a / 64) now).2.s.read ((q.touch (a / 64) now).2.F (a / 64) * 64+((a:Nat):Int) % 64)).2,(q.touch (a / 64) now).2):=by
     unfold Sw.read
     rw [if_neg (Classical.not_not.2 ⟨n1,n2,n3,n4⟩),Int.toNat_natCast,if_neg (Classical.not_not.2 hi),if_pos he]
    rw [er]
    refine ⟨t',?_,hO⟩
    rcases j5 hg (p:=a / 64) now with hy|hno
    ·have hg2:=X4 hg (p:=a / 64) (now:=now) (by omega) ⟨n3,n4⟩
     rw [he] at hT
     obtain ⟨f,f0,f1,f2,_⟩:=U0 hg2 hy.fr
     have hr2:=hg2.rng
     have hW':=AP2 hO.ww (p:=a / 64) (.inl hy.fr)
     rw [f0] at hW'
     have hR:=p_read (s:=(q.touch (a / 64) now).2.s) (a:=((f:Nat):Int) * 64+((a % 64:Nat):Int))
     dsimp only
     rw [f0,emod64]
     exact w_ReadY hN ha (by omega) (AP2 h.ww hi) hT hW' hR
    ·exact absurd he hno.e
   ·have er:q.read (a:Nat) now=(0,(q.touch (a / 64) now).1,(q.touch (a / 64) now).2):=by
     unfold Sw.read
     rw [if_neg (Classical.not_not.2 ⟨n1,n2,n3,n4⟩),Int.toNat_natCast,if_neg (Classical.not_not.2 hi),if_neg he]
    rw [er]
    exact ⟨t',w_ReadE hN ha (AP2 h.ww hi) hT he,hO⟩
  ·have er:q.read (a:Nat) now=(0,0,q):=by
    unfold Sw.read
    rw [if_neg (Classical.not_not.2 ⟨n1,n2,n3,n4⟩),Int.toNat_natCast,if_pos hi]
   rw [er]
   exact ⟨t,w_ReadZ hN ha (BU2 h.ww hi),h⟩
 ·have er:q.read at_ now=(0,7,q):=by unfold Sw.read;rw [if_pos hn]
  rw [er]
  rw [decide_eq_false hn] at hN
  exact ⟨t,w_ReadN hN,h⟩
theorem AX5 (hg:E9 q) (h:WOk q t) (at_ now v:Int):∃ t',K3 26 [.int .i64 at_,.int .i64 now,.int .u8 v] q t (.int .i64 (q.write at_ now v).1) (q.write at_ now v).2 t'∧WOk (q.write at_ now v).2 t':=by
 have hrng:=hg.rng
 have hN:=Am3 (q:=q) (t:=t) hrng.2.2.2.1 at_ now
 by_cases hn:q.nums at_ now
 ·rw [decide_eq_true hn] at hN
  obtain ⟨n1,n2,n3,n4⟩:=hn
  obtain ⟨a,rfl⟩:=Int.eq_ofNat_of_zero_le n1
  have ha:a < 100000:=by omega
  obtain ⟨t',hT,hO⟩:=BL2 hg h (p:=a / 64) (now:=now) (by omega)
  by_cases he:(q.touch (a / 64) now).1=0
  ·have er:q.write (a:Nat) now v=(q.touch (a / 64) now).2.byte (a:Nat) v:=by
    unfold Sw.write
    rw [if_neg (Classical.not_not.2 ⟨n1,n2,n3,n4⟩),Int.toNat_natCast,if_pos he]
   rw [er]
   refine ⟨t',?_,AQ1 hO _⟩
   rcases j5 hg (p:=a / 64) now with hy|hno
   ·have hg2:=X4 hg (p:=a / 64) (now:=now) (by omega) ⟨n3,n4⟩
    rw [he] at hT
    obtain ⟨f,f0,f1,f2,_⟩:=U0 hg2 hy.fr
    have hr2:=hg2.rng
    have hW':=AP2 hO.ww (p:=a / 64) (.inl hy.fr)
    rw [f0] at hW'
    have hR:=BR1 (s:=(q.touch (a / 64) now).2.s) (a:=((f:Nat):Int) * 64+((a % 64:Nat):Int)) (b:=v)
    unfold Sw.byte
    dsimp only
    rw [Int.toNat_natCast,f0,emod64]
    exact w_WriteY hN ha (by omega) hT hW' hR
   ·exact absurd he hno.e
  ·have er:q.write (a:Nat) now v=q.touch (a / 64) now:=by
    unfold Sw.write
    rw [if_neg (Classical.not_not.2 ⟨n1,n2,n3,n4⟩),Int.toNat_natCast,if_neg he]
   rw [er]
   exact ⟨t',w_WriteE hN ha hT he,hO⟩
 ·have er:q.write at_ now v=(7,q):=by unfold Sw.write;rw [if_pos hn]
  rw [er]
  rw [decide_eq_false hn] at hN
  exact ⟨t,w_WriteN hN,h⟩
section
variable {p e z x:Int} {f k:Nat} {q1:Sw} {t1:WS} {s2:Sy}
theorem w_OutR (hpg:q.pg≤256) (hp:p < 0∨(q.pg:Nat)≤p):K3 27 [.int .i64 p] q t (.int .i64 7) q t:=by
 refine K3.mk (G7 F7 b27 rfl ?_) (O6 A8) A8
 unfold c27
 unfold stN stC
 (refine wx_Sxj ?_;repeat' (first|with_reducible refine And.intro ?_ ?_|intro hsp))
 all_goals first|(exfalso;omega)|exact J3 rfl A8 rfl rfl rfl rfl rfl
theorem w_OutO (hp:0≤p∧p < (q.pg:Nat)) (hW:mgI t.W p=none):K3 27 [.int .i64 p] q t (.int .i64 4) q t:=by
 refine K3.mk (G7 F7 b27 rfl ?_) (O6 A8) A8
 unfold c27
 unfold stN stC
 (refine wx_Sxj ?_;repeat' (first|with_reducible refine And.intro ?_ ?_|intro hsp))
 all_goals first|(exfalso;omega)|exact J3 rfl A8 rfl rfl rfl rfl rfl
theorem w_OutP (hp:0≤p∧p < (q.pg:Nat)) (hW:mgI t.W p=some (e,x,z)) (he:e < 0):K3 27 [.int .i64 p] q t (.int .i64 4) q t:=by
 refine K3.mk (G7 F7 b27 rfl ?_) (O6 A8) A8
 unfold c27
 unfold stN stC
 (refine wx_Sxj ?_;repeat' (first|with_reducible refine And.intro ?_ ?_|intro hsp))
 all_goals first|(exfalso;omega)|exact J3 rfl A8 rfl rfl rfl rfl rfl
theorem w_OutF (hp:0≤p∧p < (q.pg:Nat)) (hW:mgI t.W p=some (((f:Nat):Int),x,z)) (hS:K3 48 [.int .i64 (-1)] q t (.int .i64 (-1)) q t):K3 27 [.int .i64 p] q t (.int .i64 5) q t:=by
 refine K3.mk (G7 F7 b27 rfl ?_) (O6 A8) A8
 unfold c27
 unfold stN stC
 (refine wx_Sxj ?_;repeat' (first|with_reducible refine And.intro ?_ ?_|intro hsp))
 all_goals first|(exfalso;omega)|exact J3 rfl A8 rfl rfl rfl rfl rfl
theorem w_OutY (hp:0≤p∧p < (q.pg:Nat)) (hW:mgI t.W p=some (((f:Nat):Int),x,z)) (hS:K3 48 [.int .i64 (-1)] q t (.int .i64 (k:Nat)) q t) (hO:K3 49 [.int .i64 p,.int .i64 (k:Nat)] q t (.tup []) q1 t1)
  (hdec:AC9 46 [.int .i64 (f:Nat),.int .i64 1] q1.s.a (.int .i64 e) s2.a):K3 27 [.int .i64 p] q t (.int .i64 0) { q1 with s:=s2 } t1:=by
 refine K3.mk (G7 F7 b27 rfl ?_) (O6 A8) A8
 unfold c27
 unfold stN stC
 (refine wx_Sxjn ?_;repeat' (first|with_reducible refine And.intro ?_ ?_|intro hsp))
 all_goals first|(exfalso;omega)|exact J3 (q:={ q1 with s:=s2 }) rfl A8 rfl rfl rfl rfl rfl
theorem w_FreeR (hpg:q.pg≤256) (hp:p < 0∨(q.pg:Nat)≤p):K3 25 [.int .i64 p] q t (.int .i64 7) q t:=by
 refine K3.mk (G7 F7 b25 rfl ?_) (O6 A8) A8
 unfold c25
 unfold stN stC
 (refine wx_Sxj ?_;repeat' (first|with_reducible refine And.intro ?_ ?_|intro hsp))
 all_goals first|(exfalso;omega)|exact J3 rfl A8 rfl rfl rfl rfl rfl
theorem w_FreeO (hp:0≤p∧p < (q.pg:Nat)) (hW:mgI t.W p=none):K3 25 [.int .i64 p] q t (.int .i64 4) q t:=by
 refine K3.mk (G7 F7 b25 rfl ?_) (O6 A8) A8
 unfold c25
 unfold stN stC
 (refine wx_Sxj ?_;repeat' (first|with_reducible refine And.intro ?_ ?_|intro hsp))
 all_goals first|(exfalso;omega)|exact J3 rfl A8 rfl rfl rfl rfl rfl
theorem w_FreeS (hp:0≤p∧p < (q.pg:Nat)) (hW:mgI t.W p=some (e,x,z)) (he:e < 0):K3 25 [.int .i64 p] q t (.int .i64 0) q ⟨mdI t.W p,mdI t.D x,t.H⟩:=by
 refine K3.mk (G7 F7 b25 rfl ?_) (O6 A8) A8
 unfold c25
 unfold stN stC
 (refine wx_Sxjn ?_;repeat' (first|with_reducible refine And.intro ?_ ?_|intro hsp))
 all_goals first|(exfalso;omega)|exact J3 (q:=q) (t:=⟨mdI t.W p,mdI t.D x,t.H⟩) rfl A8 rfl rfl rfl rfl rfl
theorem w_FreeF (hp:0≤p∧p < (q.pg:Nat)) (hW:mgI t.W p=some (((f:Nat):Int),x,z)) (hdec:AC9 46 [.int .i64 (f:Nat),.int .i64 1] q.s.a (.int .i64 e) s2.a):K3 25 [.int .i64 p] q t (.int .i64 0) { q with s:=s2 } ⟨mdI t.W p,t.D,mdI t.H (f:Nat)⟩:=by
 refine K3.mk (G7 F7 b25 rfl ?_) (O6 A8) A8
 unfold c25
 unfold stN stC
 (refine wx_Sxjn ?_;repeat' (first|with_reducible refine And.intro ?_ ?_|intro hsp))
 all_goals first|(exfalso;omega)|exact J3 (q:={ q with s:=s2 }) (t:=⟨mdI t.W p,t.D,mdI t.H (f:Nat)⟩) rfl A8 rfl rfl rfl rfl rfl
end
theorem w_Out (hg:E9 q) (h:WOk q t) (p:Int):∃ t',K3 27 [.int .i64 p] q t (.int .i64 (q.out p).1) (q.out p).2 t'∧WOk (q.out p).2 t':=by
 have hrng:=hg.rng
 have hcnt:=hg.cnt
 by_cases hp:0≤p∧p < (q.pg:Nat)
 ·obtain ⟨n,rfl⟩:=Int.eq_ofNat_of_zero_le hp.1
  by_cases hF:q.F n < 0
  ·have er:q.out (n:Nat)=(4,q):=by unfold Sw.out;rw [if_neg (Classical.not_not.2 hp),Int.toNat_natCast,if_pos hF]
   rw [er]
   refine ⟨t,?_,h⟩
   by_cases hi:q.is n
   ·exact w_OutP hp (AP2 h.ww hi) hF
   ·exact w_OutO hp (BU2 h.ww hi)
  ·obtain ⟨f,f0,f1,f2,f3⟩:=U0 hg (p:=n) (by omega)
   have hW:=AP2 h.ww (p:=n) (.inl (by omega))
   rw [f0] at hW
   have hS:=w_slot h hrng.2.2.2.2 (-1)
   cases hsl:q.slot (-1) with
   | none =>
    have er:q.out (n:Nat)=(5,q):=by unfold Sw.out;rw [if_neg (Classical.not_not.2 hp),Int.toNat_natCast,if_neg hF,hsl]
    rw [er]
    rw [hsl] at hS
    exact ⟨t,w_OutF hp hW hS,h⟩
   | some k =>
    have er:q.out (n:Nat)=(0,(q.put n k).gone (q.F n)):=by unfold Sw.out;rw [if_neg (Classical.not_not.2 hp),Int.toNat_natCast,if_neg hF,hsl]
    rw [er]
    rw [hsl] at hS
    have hO:=AW4 (q2:=q.put n k) (w_outM (k:=(k:Nat)) hW (by omega) f3 hcnt.2.2) rfl
    have hdec:=Ad8 (s:=(q.put n k).s) (a:=(f:Nat)) (n:=1) hg.good
    have hk:=(AC1 hsl).2.resolve_left (by omega)
    refine ⟨_,?_,AQ1 (wok_out hg h f0 hk) _⟩
    dsimp only
    rw [f0]
    exact w_OutY hp hW hS hO hdec
 ·have er:q.out p=(7,q):=by unfold Sw.out;rw [if_pos hp]
  rw [er]
  exact ⟨t,w_OutR hrng.2.2.2.1 (by omega),h⟩
theorem w_Free (hg:E9 q) (h:WOk q t) (p:Int):∃ t',K3 25 [.int .i64 p] q t (.int .i64 (q.fre p).1) (q.fre p).2 t'∧WOk (q.fre p).2 t':=by
 have hrng:=hg.rng
 by_cases hp:0≤p∧p < (q.pg:Nat)
 ·obtain ⟨n,rfl⟩:=Int.eq_ofNat_of_zero_le hp.1
  by_cases hi:q.is n
  ·have hW:=AP2 h.ww hi
   have hwo:=wok_fre hg h hi
   by_cases hF:0≤q.F n
   ·obtain ⟨f,f0,f1,f2,f3⟩:=U0 hg (p:=n) hF
    have er:q.fre (n:Nat)=(0,Sw.gone { q with F:=D8 q.F n (-1),T:=D8 q.T n (-1),Z:=D8 q.Z n 0 } (q.F n)):=by unfold Sw.fre;rw [if_neg (Classical.not_not.2 hp),Int.toNat_natCast,if_neg (Classical.not_not.2 hi),if_pos hF]
    rw [er]
    have hT:q.T n < 0:=by rcases Ac0 hg n with h1 | ⟨h1,_⟩<;>omega
    rw [f0] at hW
    rw [f0,md_D h hT] at hwo
    have hdec:=Ad8 (s:=q.s) (a:=(f:Nat)) (n:=1) hg.good
    refine ⟨_,?_,AQ1 hwo _⟩
    dsimp only
    rw [f0]
    exact AW4 (w_FreeF hp hW hdec) rfl
   ·have er:q.fre (n:Nat)=(0,{ q with F:=D8 q.F n (-1),T:=D8 q.T n (-1),Z:=D8 q.Z n 0 }):=by unfold Sw.fre;rw [if_neg (Classical.not_not.2 hp),Int.toNat_natCast,if_neg (Classical.not_not.2 hi),if_neg hF]
    rw [er]
    rw [md_H h (by omega)] at hwo
    exact ⟨_,AW4 (w_FreeS hp hW (by omega)) rfl,hwo⟩
  ·have er:q.fre (n:Nat)=(4,q):=by unfold Sw.fre;rw [if_neg (Classical.not_not.2 hp),Int.toNat_natCast,if_pos hi]
   rw [er]
   exact ⟨t,w_FreeO hp (BU2 h.ww hi),h⟩
 ·have er:q.fre p=(7,q):=by unfold Sw.fre;rw [if_pos hp]
  rw [er]
  exact ⟨t,w_FreeR hrng.2.2.2.1 (by omega),h⟩
end
end Go.Proofs.Ytbhgfoikbkaohaa.Sh
namespace Go.Proofs.Ytbhgfoikbkaohaa.Sh
open Go Go.Am Go.Pol
open Go.Proofs.Ytbhgfoikbkaohaa.Sh renaming plx_Sxc → plx
open Go.Proofs.Ytbhgfoikbkaohaa.Sh renaming ppx_Sxc → ppx
section
variable {q:Sw} {t:WS}
end
end Go.Proofs.Ytbhgfoikbkaohaa.Sh
namespace Go.Proofs.Ytbhgfoikbkaohaa
open Go Go.Am Go.Pol
theorem BK6 {α:Type} {f:α→List AV} {σ:Nat→Nat} {h h':Hp} {d n sz:Nat} {L:List α} (hf:∀ x,(f x).length=sz) (hp:∀ c,∀ x ∈ f c,Plain x) (hn:L.length=n) (hi:L.length ≠ 0→lk h.l d=some (.cells (flat f L))) (hi':∀ j o,lk h'.l j=some o→σ j ≠ d) (hs:AM7 σ h h'):WkV Try.prog σ h h' (Al6 d sz n) (.isl (L.map f)):=by
 subst hn
 by_cases hz:L.length=0
 ·rw [hz,own_z]
  cases List.eq_nil_of_length_eq_zero hz
  exact BK4
 ·rw [Av2 hz]
  refine BK7 (hi hz) hi' hs (by simp) (fun e he=>?_) ?_ fun e he x hx=>?_
  ·obtain ⟨s,_,rfl⟩:=List.mem_map.1 he;exact hf s
  ·rw [List.drop_zero,List.take_of_length_le (by rw [AW6 hf];exact Nat.le_refl _)];rfl
  ·obtain ⟨s,_,rfl⟩:=List.mem_map.1 he;exact hp s x hx
end Go.Proofs.Ytbhgfoikbkaohaa
namespace Go.Pol
open Go.Am Go.Proofs.Ytbhgfoikbkaohaa.Sh
def swA (x:Int × Int × Int × Int):List AV:=[.int .i64 x.1,.int .i64 x.2.1,.int .i64 x.2.2.1,.int .i64 x.2.2.2]
def swD (x:Int × (Nat→Int)):List AV:=.int .i64 x.1::bcA x.2
theorem At9 (x:Int × Int × Int × Int):(swA x).length=4:=rfl
theorem At8 (x:Int × (Nat→Int)):(swD x).length=65:=by unfold swD;rw [List.length_cons,AB5]
theorem AF5 (x:Int × Int × Int × Int):∀ y ∈ swA x,Plain y:=fun y hy=>by
 simp only [swA,List.mem_cons,List.not_mem_nil,or_false] at hy
 rcases hy with rfl|rfl|rfl|rfl<;>exact A8
theorem AN3 (x:Int × (Nat→Int)):∀ y ∈ swD x,Plain y:=fun y hy=>by
 rcases List.mem_cons.1 hy with rfl|hy
 ·exact A8
 ·exact AJ1 y hy
def whE (w:Sw) (p:Nat):Int × Int × Int × Int:=((p:Nat),w.F p,w.T p,w.Z p)
def dkE (w:Sw) (k:Nat):Int × (Nat→Int):=((k:Nat),w.D k)
def Sw.slots (w:Sw):List Nat:=(List.range w.sl).filter fun k=>decide (w.heldT k)
def Sw.whr (w:Sw):List (Int × Int × Int × Int):=w.pages.map (whE w)
def Sw.dsk (w:Sw):List (Int × (Nat→Int)):=w.slots.map (dkE w)
section
variable {w:Sw} {t:WS}
theorem whr_0:w.whr.take 0=[]:=rfl
theorem dsk_0:w.dsk.take 0=[]:=rfl
theorem whr_s {j:Nat} (h:j < w.pages.length):w.whr.take (j+1)=w.whr.take j++[whE w (nth 0 w.pages j)]:=by
 unfold Sw.whr
 rw [← List.map_take,← List.map_take,AV2 (d:=0) h,List.map_append];rfl
theorem dsk_s {j:Nat} (h:j < w.slots.length):w.dsk.take (j+1)=w.dsk.take j++[dkE w (nth 0 w.slots j)]:=by
 unfold Sw.dsk
 rw [← List.map_take,← List.map_take,AV2 (d:=0) h,List.map_append];rfl
theorem whr_all:w.whr.take w.pages.length=w.whr:=by unfold Sw.whr;rw [← List.map_take,List.take_length]
theorem dsk_all:w.dsk.take w.slots.length=w.dsk:=by unfold Sw.dsk;rw [← List.map_take,List.take_length]
theorem whr_len:w.whr.length=w.pages.length:=List.length_map ..
theorem dsk_len:w.dsk.length=w.slots.length:=List.length_map ..
theorem BL8 {α:Type} {l:List α} {j:Nat}:(l.take j).length≤l.length:=by rw [List.length_take];omega
theorem AY0 (hg:E9 w) {k:Nat}:k ∈ w.slots ↔ w.heldT k:=by
 unfold Sw.slots
 rw [List.mem_filter,decide_eq_true_eq,List.mem_range]
 refine ⟨fun h=>h.2,fun h=>⟨?_,h⟩⟩
 obtain ⟨p,hp,hT⟩:=h
 rcases hg.sl p with h1 | ⟨_,k2,h2,h3⟩
 ·omega
 ·omega
theorem slots_up:w.slots.Pairwise (· < ·):=List.pairwise_lt_range.filter _
theorem BN6:(w.slots.map fun p=>((p:Nat):Int)).Pairwise (· < ·):=List.Pairwise.map (R:=fun a b=>a < b) _ (fun a b hab=>by omega) slots_up
theorem Ad3 (hg:E9 w) (h:WOk w t):(t.D.map (·.1)).Perm (w.slots.map fun p=>((p:Nat):Int)):=by
 refine (List.perm_ext_iff_of_nodup h.ndD ?_).2 fun k=>?_
 ·exact List.Pairwise.map (R:=fun a b=>a ≠ b) _ (fun a b hab e=>hab (by omega)) (List.nodup_range.filter _:w.slots.Nodup)
 ·rw [Ai3,List.mem_map]
  constructor
  ·rintro ⟨v,hv⟩
   rw [h.gD] at hv
   split at hv
   ·rename_i hk
    exact ⟨k.toNat,(AY0 hg).2 hk.2,by omega⟩
   ·cases hv
  ·rintro ⟨p,hp,rfl⟩
   obtain ⟨p2,_,hT⟩:=(AY0 hg).1 hp
   exact ⟨_,AU6 hg h hT⟩
theorem gD_at (hg:E9 w) (h:WOk w t) {k:Nat} (hk:w.heldT k):mgI t.D (k:Nat)=some (w.D k):=by
 obtain ⟨p2,_,hT⟩:=hk
 exact AU6 hg h hT
theorem BN7 (hg:E9 w):w.slots.length≤256:=by
 have h2:w.slots.length≤w.sl:=Nat.le_trans (List.length_filter_le ..) (by rw [List.length_range];exact Nat.le_refl _)
 have:=hg.rng;omega
theorem BQ9 (hg:E9 w):w.pages.length≤256:=by
 have h2:w.pages.length≤w.pg:=Nat.le_trans (List.length_filter_le ..) (by rw [List.length_range];exact Nat.le_refl _)
 have:=hg.rng;omega
def BM5 (a n pg sl:Int) (W:List (Int × Int × Int × Int)) (D:List (Int × (Nat→Int))) (i o:Int):List AV:=[.int .i64 a,.int .i64 n,.int .i64 pg,.int .i64 sl,.isl (W.map swA),.isl (D.map swD),.int .i64 i,.int .i64 o]
def Sw.save (w:Sw):List AV:=BM5 (w.a:Nat) (w.n:Nat) (w.pg:Nat) (w.sl:Nat) w.whr w.dsk w.ins w.outs
theorem BH1 {a n pg sl:Int} {W:List (Int × Int × Int × Int)} {D:List (Int × (Nat→Int))} {i o:Int}:∀ x ∈ BM5 a n pg sl W D i o,Plain x:=fun x hx=>by
 simp only [BM5,List.mem_cons,List.not_mem_nil,or_false] at hx
 rcases hx with rfl|rfl|rfl|rfl|rfl|rfl|rfl|rfl
 ·exact A8
 ·exact A8
 ·exact A8
 ·exact A8
 ·exact AC4 AF5
 ·exact AC4 AN3
 ·exact A8
 ·exact A8
theorem BQ4 {a b c d e f:Int}:Plain (.agg [.int .i64 a,.int .i64 b,.int .i64 c,.int .i64 d,.nils,.nils,.int .i64 e,.int .i64 f]):=K4 fun x hx=>by
 simp only [List.mem_cons,List.not_mem_nil,or_false] at hx
 rcases hx with rfl|rfl|rfl|rfl|rfl|rfl|rfl|rfl<;>first|exact A8|exact X6
theorem not_of {σ:Nat→Nat} {l:List (Nat × AObj)} {d:Nat} (h:∀ q ∈ l,σ q.1 ≠ d):∀ j o,lk l j=some o→σ j ≠ d:=fun j o hj=>by
 induction l with
 | nil=>cases hj
 | cons q l ih =>
  simp only [lk] at hj
  split at hj
  ·rename_i e;subst e;exact h q (List.mem_cons_self ..)
  ·exact ih (fun q hq=>h q (List.mem_cons_of_mem _ hq)) hj
end
end Go.Pol
namespace Go.Proofs.Ytbhgfoikbkaohaa.Sh
open Go Go.Am Go.Pol
theorem plx_Sxl {p:Prop} (h:p:=by ((first|exact plw|(with_reducible first|apply U1|apply F9 _|apply G6 _|apply G5 _|apply AD5|apply AC4 AF5|apply AC4 AN3|apply X6|apply BQ4|fail)|fail);first|done|fail)):p:=h
open Go.Proofs.Ytbhgfoikbkaohaa.Sh renaming plx_Sxl → plx
open Go.Proofs.Ytbhgfoikbkaohaa.Sh renaming ppx_Sxc → ppx
theorem wx_Sxl {p q:Prop} (hq:q) (h:Y5 q→p:=by (intro hQz;((repeat' ((try (conv=>whnf));first|(with_reducible first|refine M0 ?_|refine I6 ?_|refine M7 ?_|refine M9 ?_|refine J2 ?_|refine S9 ?_|refine L8 ?_|refine R9 rfl ?_|refine L9 ?_|refine H7 ?_|refine I8 ?_|refine I9 ?_|refine M8 ?_|refine H6 ?_|refine I7 (by decide +kernel) ?_|refine I4 (by decide +kernel) ?_|refine AF1 ?_|refine AF2 ?_|refine As8 ?_|refine d9 ?_|refine AK3 ?_|refine Al7 (by assumption) ?_|refine Al8 (by assumption) ?_|refine Z8 (by omega) ?_|refine AK2 ?_)|((with_reducible refine AK4 ?_ ?_);focus omega)|((with_reducible refine AK5 ?_ ?_);focus omega)|((with_reducible apply V4 hQz)<;>(try intro hsp hQz))|((with_reducible refine As6 ?_ ?_);focus (first|omega|rfl|assumption|decide|(simp only [List.length_map,List.length_cons,List.length_nil];omega)|exact hmk|exact hmk2|(simp only [List.length_cons];omega)))|refine AA6 (hmk) ?_|refine AA6 (hmk2) ?_|(with_reducible first|refine AJ9 ?_|refine Z7 ?_|refine Z6 ?_|refine AK1 ?_|refine AK0 ?_|refine AJ7 ?_|refine As5 ?_|refine G8 ?_|refine Z0 ?_|refine M5 ?_|refine M4 ?_|refine G9 ?_|refine AJ8 (by omega) ?_|refine Z5 (by omega) ?_)|refine mlen_i rfl ?_|refine BE7 rfl rfl (by omega) ?_|refine J9 hS ?_|refine Y4 hgp rfl ?_|refine mlook_by hgd hy rfl ?_|refine AE4 (by omega) List.drop_zero (AD2 (by omega) (y_take hyl) ?_)|refine ⟨hyl,?_⟩|refine AD6 (by first|(simp only [List.length_replicate];omega)|fail) (over_y hyl) ?_|refine AD6 (by first|(simp only [List.length_cons,List.length_nil];omega)|fail) (over_y1 hyl) ?_|refine sxF ?_|refine cx_so H8 hs rfl (by decide) ?_|refine Ak2 F7 rfl hF hA hB rfl ?_|refine BE6 (f:=swA) (l2:=[(((p:Nat):Int),q.F p,q.T p,q.Z p)]) At9 (Az9 rfl (by first|rfl|(simp;done)|(simp [*];done))) (fun hz=>by first|(simp [lk,AU4,AR8 hz,Y7 hz];done)|rfl) (fun hz=>by first|(simp [lk,AU4,BS2,lk_tN hz,BS3 hz];done)|rfl) (by first|rfl|(simp [flat,swA];done)|(simp [flat,swA, *];done)) (by decide) ⟨by omega,by omega⟩ rfl ?_|((with_reducible apply appx_q hQz);intro hQa hQb;refine BE5 (f:=swA) (l2:=[(((p:Nat):Int),q.F p,q.T p,q.Z p)]) At9 (Az9 rfl (by first|rfl|(simp;done)|(simp [*];done))) (fun hz=>by first|(simp [lk,AU4,AR8 hz,Y7 hz];done)|rfl) (by first|rfl|(simp [flat,swA];done)|(simp [flat,swA, *];done)) (by decide) ⟨by omega,by omega⟩ ?_ ?_<;>intro hzz<;>first|(have hQz:=Y5.mk (hQa.out hzz))|(have hQz:=Y5.mk (hQb.out hzz)))|refine Ak2 F7 rfl hF2 hA2 hB2 rfl ?_|refine BE6 (f:=swD) (l2:=[(((p:Nat):Int),q.D p)]) At8 (Az9 rfl (by first|rfl|(simp;done)|(simp [*];done))) (fun hz=>by first|(simp [lk,AU4,AR8 hz,Y7 hz];done)|rfl) (fun hz=>by first|(simp [lk,AU4,BS2,lk_tN hz,BS3 hz];done)|rfl) (by first|rfl|(simp [flat,swD];done)|(simp [flat,swD, *];done)) (by decide) ⟨by omega,by omega⟩ rfl ?_|((with_reducible apply appx_q hQz);intro hQa hQb;refine BE5 (f:=swD) (l2:=[(((p:Nat):Int),q.D p)]) At8 (Az9 rfl (by first|rfl|(simp;done)|(simp [*];done))) (fun hz=>by first|(simp [lk,AU4,AR8 hz,Y7 hz];done)|rfl) (by first|rfl|(simp [flat,swD];done)|(simp [flat,swD, *];done)) (by decide) ⟨by omega,by omega⟩ ?_ ?_<;>intro hzz<;>first|(have hQz:=Y5.mk (hQa.out hzz))|(have hQz:=Y5.mk (hQb.out hzz)))|refine AM5 w_is rfl rfl rfl rfl rfl (by decide) rfl ?_|(refine AA7 F7 b34 rfl ?_;unfold c34)|(refine AA7 F7 b35 rfl ?_;unfold c35)|refine sxH ?_|((with_reducible apply V5 hQz)<;>(try intro hsp hQz))|exact hQz.out))<;>(try (conv=>whnf))))):p:=h ⟨hq⟩
section
variable {q:Sw} {t:WS}
theorem mlook_by {l:List (Nat × AObj)} {i:Nat} {z:AV} {L:List (Int × (Nat→Int))} {k:Int} {b:Nat→Int} {y:List AV} {K:AV→Up→List Nat→Prop} (hg:mgI L k=some b) (hy:bcA b=y) (h1:lk l i=some (.maps (encW byE L))) (hk:K (.agg y) [] [i]):AU8 l false false [0] z (.mapr i) (.int .i64 k) K:=by
 subst hy;exact Y4 hg h1 hk
theorem slI_at {j:Nat} (hj:j < q.slots.length):((q.slots.map fun p=>((p:Nat):Int)).map (AV.int .i64))[j]? = some (.int .i64 ((nth 0 q.slots j:Nat):Int)):=by
 rw [AG4 hj,List.getElem?_map,List.getElem?_map,List.getElem?_eq_getElem hj];rfl
theorem nth_isT (hg:E9 q) {j:Nat} (hj:j < q.slots.length):q.heldT (nth 0 q.slots j):=(AY0 hg).1 (AY8 hj)
set_option maxRecDepth 20000 in
theorem BL3 (hg:E9 q) (h:WOk q t):K3 14 [] q t (.agg q.save) q t:=by
 have hpl1:=BQ9 hg
 have hpl2:=BN7 hg
 have hwl:t.W.length=q.pages.length:=by
  have:=(AC5 hg h.ww).length_eq
  rwa [List.length_map,List.length_map] at this
 have hdl:t.D.length=q.slots.length:=by
  have:=(Ad3 hg h).length_eq
  rwa [List.length_map,List.length_map] at this
 have hndW:(t.W.map (·.1)).Nodup:=h.ndW
 have hndD:(t.D.map (·.1)).Nodup:=h.ndD
 have hmk:=kyC_0 (n:=t.W.length)
 have hmk2:=kyC_0 (n:=t.D.length)
 refine K3.mk (G7 F7 b14 rfl ?_) (fun x hx=>by cases hx) (K4 BH1)
 unfold c14
 unfold stN stC
 (refine wx_Sxl ?_;repeat' (first|with_reducible refine And.intro ?_ ?_|intro hsp))
 refine Au8 F7 BX2 rfl trivial ?_
 intro frl asl bdl hF hA hB
 unfold cKs0
 (refine wx_Sxl ?_;repeat' (first|with_reducible refine And.intro ?_ ?_|intro hsp))
 refine KeysX.mk fun ck hck=>BS7 F7 hck (i:=1) (it:=36) (pb:=33) (po:=0) (cs:=[]) (ks:=t.W.map (·.1)) [] (fun vis=>[(0,.yld 34),(1,.ptr 33 0),(3,.sl 35 0 vis.length t.W.length 1)]) (fun vis=>[(0,.cells (stC 4 1 2 3 q)),(2,.maps (encW byE t.D)),(3,.maps (encW nuE t.H)),(4,.cells q.s.a),(5,.cells [.int .i64 0,.int .i64 0,.int .i64 0,.int .i64 0,.nils,.nils,.int .i64 0,.int .i64 0]),(31,.cells [.int .i64 (q.a:Nat),.int .i64 (q.n:Nat),.int .i64 (q.pg:Nat),.int .i64 (q.sl:Nat),.nils,.nils,.int .i64 q.ins,.int .i64 q.outs]),(33,.cells [.mapr 1]),(34,.loop .ready none frl [42,43] asl bdl),(35,.cells (kyC vis t.W.length))]) Aj9 hndW rfl rfl rfl (.inr ⟨_,rfl⟩) rfl (by decide) (by decide) rfl (fun _=>rfl) rfl (fun _=>rfl) ?_ ?_ ?_
 ·exact wkxQ3
 ·intro vis k hnd hsub
  have hl1:vis.length < t.W.length:=by
   have:=Ai5 hnd hsub
   rw [List.length_append,List.length_map] at this
   exact this
  unfold cKs4
  (refine wx_Sxl ?_;repeat' (first|with_reducible refine And.intro ?_ ?_|intro hsp))
  refine ⟨[],rfl,?_⟩
  rw [show (vis++[k]).length=vis.length+1 by simp]
  exact wkxQ3
 ·intro vis hperm
  have hlen:vis.length=t.W.length:=by rw [hperm.length_eq,List.length_map]
  have hs:=so_ok hlen (hperm.trans (AC5 hg h.ww)) Ao2 (by omega)
  rw [Aw5 hlen,hlen]
  unfold cKs1
  unfold cKsR
  (refine wx_Sxl ?_;repeat' (first|with_reducible refine And.intro ?_ ?_|intro hsp))
  rw [hwl]
  have hw0:=whr_0 (w:=q)
  (refine U9 [0,1,22,23] (fun (j:Nat)=>[(24,.int .i64 (j:Nat))]) (fun (j:Nat)=>⟨stN q t 0 1 2 3 4++[(5,.cells [.int .i64 0,.int .i64 0,.int .i64 0,.int .i64 0,.nils,.nils,.int .i64 0,.int .i64 0]),(31,.cells [.int .i64 (q.a:Nat),.int .i64 (q.n:Nat),.int .i64 (q.pg:Nat),.int .i64 (q.sl:Nat),Al6 37 4 (q.whr.take j).length,.nils,.int .i64 q.ins,.int .i64 q.outs]),(33,.cells [.mapr 1]),(34,.loop .ready none frl [42,43] asl bdl),(35,.cells ((q.pages.map fun p=>((p:Nat):Int)).map (AV.int .i64)))]++AV7 37 swA (q.whr.take j),38⟩) (fun (j:Nat)=>j≤q.pages.length) (fun (j:Nat)=>q.pages.length - j) (0) [] rfl (fun _=>by first|exact Nat.zero_le _|(dsimp only;omega)) ?_ (by ((try (conv=>whnf));(rw [hw0]);exact wkxQ4)) ?_)
  ·exact Nat.zero_le _
  intro j hj
  have hL1:(q.whr.take j).length≤q.whr.length:=BL8
  rw [whr_len] at hL1
  by_cases hjl:j < q.pages.length
  ·have hip:=nth_is hg hjl
   have hS:=pgI_at hjl
   have hws:=whr_s hjl
   unfold whE at hws
   generalize nth 0 q.pages j=p at *
   have hgp:=AP2 h.ww hip
   unfold stN stC
   (refine wx_Sxl ?_;repeat' (first|with_reducible refine And.intro ?_ ?_|intro hsp))
   all_goals exact J8 (j+1) [(37,40)] (by (try dsimp only);omega) (by first|omega|(dsimp only;omega)) rfl (by ((try dsimp only);rw [hws]);exact wkxQ4)
  ·obtain rfl:j=q.pages.length:=by omega
   rw [whr_all]
   unfold stN stC
   (refine wx_Sxl ?_;repeat' (first|with_reducible refine And.intro ?_ ?_|intro hsp))
   refine Au8 F7 bS_bytes rfl trivial ?_
   intro frl2 asl2 bdl2 hF2 hA2 hB2
   unfold cKs0
   (refine wx_Sxl ?_;repeat' (first|with_reducible refine And.intro ?_ ?_|intro hsp))
   refine KeysX.mk fun ck hck=>BS7 F7 hck (i:=2) (it:=41) (pb:=38) (po:=0) (cs:=[]) (ks:=t.D.map (·.1)) [] (fun vis=>[(0,.yld 39),(1,.ptr 38 0),(3,.sl 40 0 vis.length t.D.length 1)]) (fun vis=>[(0,.cells (stC 4 1 2 3 q)),(1,.maps (encW pgE t.W)),(3,.maps (encW nuE t.H)),(4,.cells q.s.a),(5,.cells [.int .i64 0,.int .i64 0,.int .i64 0,.int .i64 0,.nils,.nils,.int .i64 0,.int .i64 0]),(31,.cells [.int .i64 (q.a:Nat),.int .i64 (q.n:Nat),.int .i64 (q.pg:Nat),.int .i64 (q.sl:Nat),.isl (q.whr.map swA),.nils,.int .i64 q.ins,.int .i64 q.outs]),(38,.cells [.mapr 2]),(39,.loop .ready none frl2 [62,63] asl2 bdl2),(40,.cells (kyC vis t.D.length))]) Aj9 hndD rfl rfl rfl (.inr ⟨_,rfl⟩) rfl (by decide) (by decide) rfl (fun _=>rfl) rfl (fun _=>rfl) ?_ ?_ ?_
   ·exact wkxQ3
   ·intro vis k hnd hsub
    have hl1:vis.length < t.D.length:=by
     have:=Ai5 hnd hsub
     rw [List.length_append,List.length_map] at this
     exact this
    unfold cKs4
    (refine wx_Sxl ?_;repeat' (first|with_reducible refine And.intro ?_ ?_|intro hsp))
    refine ⟨[],rfl,?_⟩
    rw [show (vis++[k]).length=vis.length+1 by simp]
    exact wkxQ3
   ·intro vis hperm
    have hlen:vis.length=t.D.length:=by rw [hperm.length_eq,List.length_map]
    have hs:=so_ok hlen (hperm.trans (Ad3 hg h)) BN6 (by omega)
    rw [Aw5 hlen,hlen]
    unfold cKs1
    unfold cKsR
    (refine wx_Sxl ?_;repeat' (first|with_reducible refine And.intro ?_ ?_|intro hsp))
    rw [hdl]
    have hw0:=dsk_0 (w:=q)
    (refine U9 [0,1,22,23] (fun (j:Nat)=>[(24,.int .i64 (j:Nat))]) (fun (j:Nat)=>⟨stN q t 0 1 2 3 4++[(5,.cells [.int .i64 0,.int .i64 0,.int .i64 0,.int .i64 0,.nils,.nils,.int .i64 0,.int .i64 0]),(31,.cells [.int .i64 (q.a:Nat),.int .i64 (q.n:Nat),.int .i64 (q.pg:Nat),.int .i64 (q.sl:Nat),.isl (q.whr.map swA),Al6 42 65 (q.dsk.take j).length,.int .i64 q.ins,.int .i64 q.outs]),(38,.cells [.mapr 2]),(39,.loop .ready none frl2 [62,63] asl2 bdl2),(40,.cells ((q.slots.map fun p=>((p:Nat):Int)).map (AV.int .i64)))]++AV7 42 swD (q.dsk.take j),43⟩) (fun (j:Nat)=>j≤q.slots.length) (fun (j:Nat)=>q.slots.length - j) (0) [] rfl (fun _=>by first|exact Nat.zero_le _|(dsimp only;omega)) ?_ (by ((try (conv=>whnf));(rw [hw0]);exact wkxQ5)) ?_)
    ·exact Nat.zero_le _
    intro j hj
    have hL1:(q.dsk.take j).length≤q.dsk.length:=BL8
    rw [dsk_len] at hL1
    by_cases hjl:j < q.slots.length
    ·have hip:=nth_isT hg hjl
     have hS:=slI_at hjl
     have hws:=dsk_s hjl
     unfold dkE at hws
     generalize nth 0 q.slots j=p at *
     have hgd:=gD_at hg h hip
     have hyl:(bcA (q.D p)).length=64:=AB5
     generalize hy:bcA (q.D p)=y at hyl
     unfold stN stC
     (refine wx_Sxl ?_;repeat' (first|with_reducible refine And.intro ?_ ?_|intro hsp))
     all_goals exact J8 (j+1) [(42,45)] (by (try dsimp only);omega) (by first|omega|(dsimp only;omega)) rfl (by ((try dsimp only);rw [hws]);exact wkxQ5)
    ·obtain rfl:j=q.slots.length:=by omega
     rw [dsk_all]
     unfold stN stC
     (refine wx_Sxl ?_;repeat' (first|with_reducible refine And.intro ?_ ?_|intro hsp))
     all_goals exact end_WW (q:=q) (t:=t) (fun hs=>Az0 (D5 (J7 rfl) (D5 (J7 rfl) (D5 (J7 rfl) (D5 (J7 rfl) (D5 (Q9 hs (AC4 AF5)) (D5 (BK6 At8 AN3 rfl (fun hz=>by first|(simp [lk,AU4,Y7 hz,AR8 hz];done)|exact Y7 hz|rfl) (not_of (by simp [rn,stN])) hs) (D5 (J7 rfl) (D5 (J7 rfl) K7))))))))) rfl rfl rfl rfl rfl
end
end Go.Proofs.Ytbhgfoikbkaohaa.Sh
