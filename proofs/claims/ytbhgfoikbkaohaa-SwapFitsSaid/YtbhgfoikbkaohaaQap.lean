/-
 A page is touched.
 A page is touched: all of it;reading and writing.
 The calls of a store: reading,writing,putting out,freeing,the victim,what it counts.
 What a store counts;its state.
 The ends of Save: growing slices become values.
-/
import Derived.Test.YtbhgfoikbkaohaaQao
set_option linter.unusedSimpArgs false
set_option linter.unusedVariables false
set_option maxHeartbeats 6400000
namespace Go.Pol
open Go.Am Go.Proofs.Ytbhgfoikbkaohaa.Sh
def An1 (q:Sw) (s1:Sy) (i:Int) (p f:Nat) (now:Int) (x:Nat→Int):Sw:={ q with ins:=i,T:=E9 q.T p (-1),F:=E9 q.F p (f:Nat),Z:=E9 q.Z p now,s:=s1.page f x }
theorem brg_R {q:Sw} {s1:Sy} {p f:Nat} {now:Int} {x:Nat→Int}:({ q with s:=s1 }:Sw).brg p f now x=An1 q s1 (if 0≤q.T p then AZ2 q.ins else q.ins) p f now x:=rfl
theorem brg_R0 {q:Sw} {p f:Nat} {now:Int} {x:Nat→Int}:q.brg p f now x=An1 q q.s (if 0≤q.T p then AZ2 q.ins else q.ins) p f now x:=rfl
theorem put_R {q:Sw} {p v k f:Nat} {now:Int} {x:Nat→Int} (h:v ≠ p):(q.put v k).brg p f now x=An1 (q.put v k) q.s (if 0≤q.T p then AZ2 q.ins else q.ins) p f now x:=by
 unfold Sw.brg An1
 have e:(q.put v k).T p=q.T p:=if_neg fun e=>h e.symm
 rw [e];rfl
theorem AC7 {s:Sy} {f:Nat} {y:Int} (hf:f < 1024) (h:s.K f=y):s.kind (f:Nat)=[.int .i64 y,.bool (s.M f),.int .i64 0]:=by
 unfold Sy.kind
 rw [if_neg (by omega),Int.toNat_natCast,h]
end Go.Pol
namespace Go.Proofs.Ytbhgfoikbkaohaa.Sh
open Go Go.Am Go.Pol
theorem wx_Sxh {p q:Prop} (hq:q) (h:Z7 q→p:=by (intro hQz;((repeat' ((try (conv=>whnf));first|refine sxA ?_|refine x9 hW rfl ?_|refine AQ7 rfl (q.F p,q.T p,now) rfl ?_|refine sxF ?_|refine sxH ?_|((with_reducible first|apply U8 hQz|apply U9 hQz)<;>(try intro hsp hQz))|exact hQz.out))<;>(try (conv=>whnf))))):p:=h ⟨hq⟩
theorem wx_Sxhn {p q:Prop} (hq:q) (h:Z7 q→p:=by (intro hQz;((repeat' ((try (conv=>whnf));first|refine sxA ?_|refine x9 hW rfl ?_|refine AC6 hW rfl ?_|refine mlook_d hD Aw4 rfl ?_|refine ⟨X7,?_⟩|refine u7 (by simp only [List.length_replicate,X7];omega) hov ?_|refine BW0 rfl ?_|refine AQ7 rfl (((f:Nat):Int),(-1:Int),now) rfl ?_|refine AQ7 rfl ((p:Nat):Int) rfl ?_|refine AA1 (by rw [X7];omega) List.drop_zero (Z4 (by rw [X7];omega) An4 ?_)|refine Z9 hWv rfl ?_|refine sxN ?_|refine cx_L hL hy rfl rfl rfl rfl rfl rfl rfl rfl ?_|refine AM8 hS rfl rfl rfl rfl rfl (by decide) rfl ?_|refine M0 hkd rfl (by decide) ?_|refine M0 hcom rfl (by decide) ?_|refine AM8 (hset (min (q.ins+1) 1000000000)) rfl rfl rfl rfl rfl (by decide) rfl ?_|refine AM8 (hset q.ins) rfl rfl rfl rfl rfl (by decide) rfl ?_|refine AM8 hV rfl rfl rfl rfl rfl (by decide) rfl ?_|refine AM8 hO rfl rfl rfl rfl rfl (by decide) rfl ?_|refine AM8 (hset (min (q1.ins+1) 1000000000)) rfl rfl rfl rfl rfl (by decide) rfl ?_|refine AM8 (hset q1.ins) rfl rfl rfl rfl rfl (by decide) rfl ?_|refine sxH ?_|((with_reducible first|apply U8 hQz|apply U9 hQz)<;>(try intro hsp hQz))|exact hQz.out))<;>(try (conv=>whnf))))):p:=h ⟨hq⟩
section
variable {q:Sw} {t:WS}
theorem dcx_L {o w d m s b:Nat} {h:Hp} {K:AV→Up→List Nat→Prop} {y:Int} (hc:LocL q t) (hy:opA q.free=y)
  (g0:lk h.l o=some (.cells (stC s w d m q))) (g1:lk h.l w=some (.maps (encW pgE t.W))) (g2:lk h.l d=some (.maps (encW byE t.D))) (g3:lk h.l m=some (.maps (encW nuE t.H))) (g4:lk h.l s=some (.cells q.s.a)) (g5:lk h.l b=some (.cells [.ptr o 0]))
  (hd:Ae5 [o,w,d,m,s,b]=true) (hnx':[o,w,d,m,s,b].contains h.next=false)
  (hk:K (.int .i64 y) [] [o,w,d,m,s,b]):AN9 Try.prog G0 51 [.int .i64 (q.a:Nat),.int .i64 ((q.a:Int)+(q.n:Nat)),.fn 52 [] [.ptr b 0]] h K:=by
 subst hy
 have hnx:h.next ∉ [o,w,d,m,s,b]:=fun hm=>by rw [List.contains_eq_mem,decide_eq_false_iff_not] at hnx';exact hnx' hm
 have e0:enter [o,w,d,m,s,b] o 0:=rfl
 have e1:enter [o,w,d,m,s,b] w 1:=rfl
 have e2:enter [o,w,d,m,s,b] d 2:=rfl
 have e3:enter [o,w,d,m,s,b] m 3:=rfl
 have e4:enter [o,w,d,m,s,b] s 4:=rfl
 have e5:enter [o,w,d,m,s,b] b 5:=rfl
 have k0:R6 [o,w,d,m,s,b] 0 o:=rfl
 have k1:R6 [o,w,d,m,s,b] 1 w:=rfl
 have k2:R6 [o,w,d,m,s,b] 2 d:=rfl
 have k3:R6 [o,w,d,m,s,b] 3 m:=rfl
 have k4:R6 [o,w,d,m,s,b] 4 s:=rfl
 have k5:R6 [o,w,d,m,s,b] 5 b:=rfl
 refine BH7 (BB3 (l1:=[(o,AObj.cells (stC s w d m q)),(w,.maps (encW pgE t.W)),(d,.maps (encW byE t.D)),(m,.maps (encW nuE t.H)),(s,.cells q.s.a),(b,AObj.cells [AV.ptr o 0])]) [o,w,d,m,s,b] hc.out I7 hd
  (.cons e0 g0 (AN0 e4 e1 e2 e3) (.maps e1 g1 (A9 G6) (.maps e2 g2 (A9 G7) (.maps e3 g3 (A9 G5) (.cons e4 g4 (D8 F3) (.cons e5 g5 ⟨U5 e0,trivial⟩ .nil))))))
  hnx ?_ ?_ ⟨F5 A8,F5 A8,rn_fn trivial ⟨U5 e5,trivial⟩,trivial⟩ (F5 A8)
  (.cons k0 (AN0 k4 k1 k2 k3) (.maps k1 (A9 G6) (.maps k2 (A9 G7) (.maps k3 (A9 G5) (.cons k4 (D8 F3) (.cons k5 (cs:=[AV.ptr 0 0]) ⟨U5 k0,trivial⟩ .nil)))))) ⟨fun j x hx=>?_,hnx,hk⟩)
 ·intro x hx
  simp only [lk]
  repeat' split
  all_goals first|exact ⟨_,rfl⟩|(exfalso;simp only [List.mem_cons,List.not_mem_nil,or_false] at hx;omega)
 ·intro j x hx
  have : j < 6:=(List.getElem?_eq_some_iff.1 hx).1
  simp only [stN,List.cons_append,List.nil_append,lk]
  repeat' split
  all_goals first|exact ⟨_,rfl⟩|(exfalso;omega)
 ·simp only [Ae6,List.map_cons,List.map_nil,List.mem_cons,Prod.mk.injEq,List.not_mem_nil,or_false] at hx ⊢
  rcases hx with ⟨rfl,rfl⟩ | ⟨rfl,rfl⟩ | ⟨rfl,rfl⟩ | ⟨rfl,rfl⟩ | ⟨rfl,rfl⟩ | ⟨rfl,rfl⟩
  ·exact ⟨.inl rfl,g0⟩
  ·exact ⟨.inr (.inl rfl),g1⟩
  ·exact ⟨.inr (.inr (.inl rfl)),g2⟩
  ·exact ⟨.inr (.inr (.inr (.inl rfl))),g3⟩
  ·exact ⟨.inr (.inr (.inr (.inr (.inl rfl)))),g4⟩
  ·exact ⟨.inr (.inr (.inr (.inr (.inr rfl)))),g5⟩
theorem cx_L {o w d m s b:Nat} {h:Hp} {K:AV→Hp→Prop} {y:Int} (hc:LocL q t) (hy:opA q.free=y)
  (g0:lk h.l o=some (.cells (stC s w d m q))) (g1:lk h.l w=some (.maps (encW pgE t.W))) (g2:lk h.l d=some (.maps (encW byE t.D))) (g3:lk h.l m=some (.maps (encW nuE t.H))) (g4:lk h.l s=some (.cells q.s.a)) (g5:lk h.l b=some (.cells [.ptr o 0]))
  (hd:Ae5 [o,w,d,m,s,b]=true) (hnx':[o,w,d,m,s,b].contains h.next=false)
  (hk:K (.int .i64 y) h):AH3 Try.prog G0 (.fn 51 [] []) [.int .i64 (q.a:Nat),.int .i64 ((q.a:Int)+(q.n:Nat)),.fn 52 [] [.ptr b 0]] h K:=by
 obtain ⟨r,up,rd,h1,rfl,rfl⟩:=(dcx_L (K:=fun r up _=>r = .int .i64 y∧up=[]) hc hy g0 g1 g2 g3 g4 g5 hd hnx' ⟨rfl,rfl⟩).out
 exact cx_fnU (rd:=rd) h1 hk
theorem look_out (hg:D7 q) (h:WOk q t) {p:Nat} (hn:¬ 0≤q.F p):(∃ z,mgI t.W (p:Nat)=some ((-1:Int),q.T p,z)∧0≤q.T p)∨(mgI t.W (p:Nat)=none∧q.T p = -1):=by
 have hF:q.F p = -1:=(Ao0 hg p).resolve_right fun h=>hn h.2
 by_cases hi:q.is p
 ·left
  refine ⟨q.Z p,?_,hi.resolve_left hn⟩
  rw [AR1 h.ww hi,hF]
 ·right
  refine ⟨gW_no h.ww hi,(AU9 hg p).resolve_right fun h2=>hi (.inr h2.2)⟩
theorem look_D (hg:D7 q) (h:WOk q t) (p:Nat):(match mgI t.D (q.T p) with|some b=>b|none=>fun _=>0)=q.got p:=by
 unfold Sw.got
 rcases AU9 hg p with h1 | ⟨_,h1⟩
 ·rw [if_neg (by omega),AW8 h (by omega)]
 ·rw [if_pos h1]
  obtain ⟨k,hk⟩:=Int.eq_ofNat_of_zero_le h1
  rw [hk,AN4 hg h hk,Int.toNat_natCast]
theorem w_touchA (hg:D7 q) (h:WOk q t) {p:Nat} {now:Int} (hF:0≤q.F p):L8 32 [.int .i64 (p:Nat),.int .i64 now] q t (.int .i64 0) { q with Z:=E9 q.Z p now } ⟨mpI t.W (p:Nat) (q.F p,q.T p,now),t.D,t.H⟩:=by
 refine L8.mk (H6 F6 b32 rfl ?_) (fun x hx=>by
  simp only [List.mem_cons,List.not_mem_nil,or_false] at hx
  rcases hx with rfl|rfl<;>exact A8) A8
 have hW:=AR1 h.ww (p:=p) (.inl hF)
 unfold c32
 unfold stN stC
 (refine wx_Sxh ?_;repeat' (first|with_reducible refine And.intro ?_ ?_|intro hsp))
 all_goals first|(exfalso;omega)|exact J9 (q:={ q with Z:=E9 q.Z p now }) (t:=⟨mpI t.W (p:Nat) (q.F p,q.T p,now),t.D,t.H⟩) rfl A8 rfl rfl rfl rfl rfl
theorem w_touchF {p:Nat} {now τ y:Int} {x:Nat→Int} (hrng:q.a+q.n≤1024) (hci:0≤q.ins∧q.ins≤1000000000) (hL:LocL q t) (hy:opA q.free=y) (hWT:(∃ z,mgI t.W (p:Nat)=some ((-1:Int),τ,z)∧0≤τ)∨(mgI t.W (p:Nat)=none∧τ = -1)) (hD:(match mgI t.D τ with|some b=>b|none=>fun _=>0)=x) (hn:y = -1) (hS:L8 48 [.int .i64 τ] q t (.int .i64 (-1)) q t):L8 32 [.int .i64 (p:Nat),.int .i64 now] q t (.int .i64 5) q t:=by
 refine L8.mk (H6 F6 b32 rfl ?_) (fun x hx=>by
  simp only [List.mem_cons,List.not_mem_nil,or_false] at hx
  rcases hx with rfl|rfl<;>exact A8) A8
 have hov:=AF9 (x:=x)
 have hadd:=AM3 (x:=q.ins)
 unfold c32
 unfold stN stC
 subst hn
 clear hadd
 rcases hWT with ⟨z,hW,hT⟩ | ⟨hW,hT⟩
 ·(refine wx_Sxhn ?_;repeat' (first|with_reducible refine And.intro ?_ ?_|intro hsp))
  all_goals first|(exfalso;omega)|exact J9 rfl A8 rfl rfl rfl rfl rfl
 ·subst hT
  (refine wx_Sxhn ?_;repeat' (first|with_reducible refine And.intro ?_ ?_|intro hsp))
  all_goals first|(exfalso;omega)|exact J9 rfl A8 rfl rfl rfl rfl rfl
theorem w_touchE {p:Nat} {now τ y:Int} {x:Nat→Int} (hrng:q.a+q.n≤1024) (hci:0≤q.ins∧q.ins≤1000000000) (hL:LocL q t) (hy:opA q.free=y) (hWT:(∃ z,mgI t.W (p:Nat)=some ((-1:Int),τ,z)∧0≤τ)∨(mgI t.W (p:Nat)=none∧τ = -1)) (hD:(match mgI t.D τ with|some b=>b|none=>fun _=>0)=x) {f:Nat} {e:Int} {s1:Sy} {b1:Bool} (hn:y=(f:Nat)) (hkd:AF4 43 [.int .i64 (f:Nat)] q.s.a (.tup [.int .i64 1,.bool b1,.int .i64 0]) q.s.a) (hcom:AF4 53 [.int .i64 (f:Nat),.int .i64 1] q.s.a (.int .i64 e) s1.a) (he:e ≠ 0):L8 32 [.int .i64 (p:Nat),.int .i64 now] q t (.int .i64 e) { q with s:=s1 } t:=by
 refine L8.mk (H6 F6 b32 rfl ?_) (fun x hx=>by
  simp only [List.mem_cons,List.not_mem_nil,or_false] at hx
  rcases hx with rfl|rfl<;>exact A8) A8
 have hov:=AF9 (x:=x)
 have hadd:=AM3 (x:=q.ins)
 unfold c32
 unfold stN stC
 subst hn
 clear hadd
 rcases hWT with ⟨z,hW,hT⟩ | ⟨hW,hT⟩
 ·(refine wx_Sxhn ?_;repeat' (first|with_reducible refine And.intro ?_ ?_|intro hsp))
  all_goals first|(exfalso;omega)|exact J9 (q:={ q with s:=s1 }) rfl A8 rfl rfl rfl rfl rfl
 ·subst hT
  (refine wx_Sxhn ?_;repeat' (first|with_reducible refine And.intro ?_ ?_|intro hsp))
  all_goals first|(exfalso;omega)|exact J9 (q:={ q with s:=s1 }) rfl A8 rfl rfl rfl rfl rfl
theorem w_touchC {p:Nat} {now τ y:Int} {x:Nat→Int} (hrng:q.a+q.n≤1024) (hci:0≤q.ins∧q.ins≤1000000000) (hL:LocL q t) (hy:opA q.free=y) (hWT:(∃ z,mgI t.W (p:Nat)=some ((-1:Int),τ,z)∧0≤τ)∨(mgI t.W (p:Nat)=none∧τ = -1)) (hD:(match mgI t.D τ with|some b=>b|none=>fun _=>0)=x) {f:Nat} {s1:Sy} {b1:Bool} (hn:y=(f:Nat)) (hkd:AF4 43 [.int .i64 (f:Nat)] q.s.a (.tup [.int .i64 1,.bool b1,.int .i64 0]) q.s.a) (hcom:AF4 53 [.int .i64 (f:Nat),.int .i64 1] q.s.a (.int .i64 0) s1.a) (hset:∀ i,L8 54 [.int .i64 (f:Nat),.agg (bcA x)] { q with s:=s1,ins:=i } ⟨mpI t.W (p:Nat) ((f:Nat),-1,now),mdI t.D τ,mpI t.H (f:Nat) (p:Nat)⟩ (.tup []) { q with s:=s1.page f x,ins:=i } ⟨mpI t.W (p:Nat) ((f:Nat),-1,now),mdI t.D τ,mpI t.H (f:Nat) (p:Nat)⟩):L8 32 [.int .i64 (p:Nat),.int .i64 now] q t (.int .i64 0) (An1 q s1 (if 0≤τ then AZ2 q.ins else q.ins) p f now x) ⟨mpI t.W (p:Nat) ((f:Nat),-1,now),mdI t.D τ,mpI t.H (f:Nat) (p:Nat)⟩:=by
 refine L8.mk (H6 F6 b32 rfl ?_) (fun x hx=>by
  simp only [List.mem_cons,List.not_mem_nil,or_false] at hx
  rcases hx with rfl|rfl<;>exact A8) A8
 have hov:=AF9 (x:=x)
 have hadd:=AM3 (x:=q.ins)
 unfold c32
 unfold stN stC
 subst hn
 rcases hWT with ⟨z,hW,hT⟩ | ⟨hW,hT⟩
 ·rw [if_pos hT]
  (refine wx_Sxhn ?_;repeat' (first|with_reducible refine And.intro ?_ ?_|intro hsp))
  all_goals first|(exfalso;omega)|(simp only [hadd];exact J9 (q:=An1 q s1 (AZ2 q.ins) p f now x) (t:=⟨mpI t.W (p:Nat) ((f:Nat),-1,now),mdI t.D τ,mpI t.H (f:Nat) (p:Nat)⟩) rfl A8 rfl rfl rfl rfl rfl)|exact J9 (q:=An1 q s1 (AZ2 q.ins) p f now x) (t:=⟨mpI t.W (p:Nat) ((f:Nat),-1,now),mdI t.D τ,mpI t.H (f:Nat) (p:Nat)⟩) rfl A8 rfl rfl rfl rfl rfl
 ·subst hT
  rw [if_neg (by omega)]
  (refine wx_Sxhn ?_;repeat' (first|with_reducible refine And.intro ?_ ?_|intro hsp))
  all_goals first|(exfalso;omega)|(simp only [hadd];exact J9 (q:=An1 q s1 q.ins p f now x) (t:=⟨mpI t.W (p:Nat) ((f:Nat),-1,now),mdI t.D (-1),mpI t.H (f:Nat) (p:Nat)⟩) rfl A8 rfl rfl rfl rfl rfl)|exact J9 (q:=An1 q s1 q.ins p f now x) (t:=⟨mpI t.W (p:Nat) ((f:Nat),-1,now),mdI t.D (-1),mpI t.H (f:Nat) (p:Nat)⟩) rfl A8 rfl rfl rfl rfl rfl
theorem w_touchG {p:Nat} {now τ y:Int} {x:Nat→Int} (hrng:q.a+q.n≤1024) (hci:0≤q.ins∧q.ins≤1000000000) (hL:LocL q t) (hy:opA q.free=y) (hWT:(∃ z,mgI t.W (p:Nat)=some ((-1:Int),τ,z)∧0≤τ)∨(mgI t.W (p:Nat)=none∧τ = -1)) (hD:(match mgI t.D τ with|some b=>b|none=>fun _=>0)=x) {f:Nat} {b1:Bool} (hn:y=(f:Nat)) (hkd:AF4 43 [.int .i64 (f:Nat)] q.s.a (.tup [.int .i64 2,.bool b1,.int .i64 0]) q.s.a) (hset:∀ i,L8 54 [.int .i64 (f:Nat),.agg (bcA x)] { q with ins:=i } ⟨mpI t.W (p:Nat) ((f:Nat),-1,now),mdI t.D τ,mpI t.H (f:Nat) (p:Nat)⟩ (.tup []) { q with s:=q.s.page f x,ins:=i } ⟨mpI t.W (p:Nat) ((f:Nat),-1,now),mdI t.D τ,mpI t.H (f:Nat) (p:Nat)⟩):L8 32 [.int .i64 (p:Nat),.int .i64 now] q t (.int .i64 0) (An1 q q.s (if 0≤τ then AZ2 q.ins else q.ins) p f now x) ⟨mpI t.W (p:Nat) ((f:Nat),-1,now),mdI t.D τ,mpI t.H (f:Nat) (p:Nat)⟩:=by
 refine L8.mk (H6 F6 b32 rfl ?_) (fun x hx=>by
  simp only [List.mem_cons,List.not_mem_nil,or_false] at hx
  rcases hx with rfl|rfl<;>exact A8) A8
 have hov:=AF9 (x:=x)
 have hadd:=AM3 (x:=q.ins)
 unfold c32
 unfold stN stC
 subst hn
 rcases hWT with ⟨z,hW,hT⟩ | ⟨hW,hT⟩
 ·rw [if_pos hT]
  (refine wx_Sxhn ?_;repeat' (first|with_reducible refine And.intro ?_ ?_|intro hsp))
  all_goals first|(exfalso;omega)|(simp only [hadd];exact J9 (q:=An1 q q.s (AZ2 q.ins) p f now x) (t:=⟨mpI t.W (p:Nat) ((f:Nat),-1,now),mdI t.D τ,mpI t.H (f:Nat) (p:Nat)⟩) rfl A8 rfl rfl rfl rfl rfl)|exact J9 (q:=An1 q q.s (AZ2 q.ins) p f now x) (t:=⟨mpI t.W (p:Nat) ((f:Nat),-1,now),mdI t.D τ,mpI t.H (f:Nat) (p:Nat)⟩) rfl A8 rfl rfl rfl rfl rfl
 ·subst hT
  rw [if_neg (by omega)]
  (refine wx_Sxhn ?_;repeat' (first|with_reducible refine And.intro ?_ ?_|intro hsp))
  all_goals first|(exfalso;omega)|(simp only [hadd];exact J9 (q:=An1 q q.s q.ins p f now x) (t:=⟨mpI t.W (p:Nat) ((f:Nat),-1,now),mdI t.D (-1),mpI t.H (f:Nat) (p:Nat)⟩) rfl A8 rfl rfl rfl rfl rfl)|exact J9 (q:=An1 q q.s q.ins p f now x) (t:=⟨mpI t.W (p:Nat) ((f:Nat),-1,now),mdI t.D (-1),mpI t.H (f:Nat) (p:Nat)⟩) rfl A8 rfl rfl rfl rfl rfl
theorem w_touchS {p:Nat} {now τ y:Int} {x:Nat→Int} (hrng:q.a+q.n≤1024) (hci:0≤q.ins∧q.ins≤1000000000) (hL:LocL q t) (hy:opA q.free=y) (hWT:(∃ z,mgI t.W (p:Nat)=some ((-1:Int),τ,z)∧0≤τ)∨(mgI t.W (p:Nat)=none∧τ = -1)) (hD:(match mgI t.D τ with|some b=>b|none=>fun _=>0)=x) {f v k:Nat} {tv zv:Int} {q1:Sw} (hci:0≤q1.ins∧q1.ins≤1000000000) (hn:y = -1) (hS:L8 48 [.int .i64 τ] q t (.int .i64 (k:Nat)) q t) (hV:L8 36 [] q ⟨t.W,mdI t.D τ,t.H⟩ (.int .i64 (v:Nat)) q ⟨t.W,mdI t.D τ,t.H⟩) (hO:L8 49 [.int .i64 (v:Nat),.int .i64 (k:Nat)] q ⟨t.W,mdI t.D τ,t.H⟩ (.tup []) q1 ⟨mpI t.W (v:Nat) (-1,(k:Nat),zv),mpI (mdI t.D τ) (k:Nat) (q.s.B f),mdI t.H (f:Nat)⟩) (hWv:mgI t.W (v:Nat)=some (((f:Nat):Int),tv,zv))
  (hset:∀ i,L8 54 [.int .i64 (f:Nat),.agg (bcA x)] { q1 with ins:=i } ⟨mpI (mpI t.W (v:Nat) (-1,(k:Nat),zv)) (p:Nat) ((f:Nat),-1,now),mpI (mdI t.D τ) (k:Nat) (q.s.B f),mpI (mdI t.H (f:Nat)) (f:Nat) (p:Nat)⟩ (.tup []) { q1 with s:=q1.s.page f x,ins:=i } ⟨mpI (mpI t.W (v:Nat) (-1,(k:Nat),zv)) (p:Nat) ((f:Nat),-1,now),mpI (mdI t.D τ) (k:Nat) (q.s.B f),mpI (mdI t.H (f:Nat)) (f:Nat) (p:Nat)⟩):L8 32 [.int .i64 (p:Nat),.int .i64 now] q t (.int .i64 0) (An1 q1 q1.s (if 0≤τ then AZ2 q1.ins else q1.ins) p f now x) ⟨mpI (mpI t.W (v:Nat) (-1,(k:Nat),zv)) (p:Nat) ((f:Nat),-1,now),mpI (mdI t.D τ) (k:Nat) (q.s.B f),mpI (mdI t.H (f:Nat)) (f:Nat) (p:Nat)⟩:=by
 refine L8.mk (H6 F6 b32 rfl ?_) (fun x hx=>by
  simp only [List.mem_cons,List.not_mem_nil,or_false] at hx
  rcases hx with rfl|rfl<;>exact A8) A8
 have hov:=AF9 (x:=x)
 have hadd:=AM3 (x:=q1.ins)
 unfold c32
 unfold stN stC
 subst hn
 rcases hWT with ⟨z,hW,hT⟩ | ⟨hW,hT⟩
 ·rw [if_pos hT]
  (refine wx_Sxhn ?_;repeat' (first|with_reducible refine And.intro ?_ ?_|intro hsp))
  all_goals first|(exfalso;omega)|(simp only [hadd];exact J9 (q:=An1 q1 q1.s (AZ2 q1.ins) p f now x) (t:=⟨mpI (mpI t.W (v:Nat) (-1,(k:Nat),zv)) (p:Nat) ((f:Nat),-1,now),mpI (mdI t.D τ) (k:Nat) (q.s.B f),mpI (mdI t.H (f:Nat)) (f:Nat) (p:Nat)⟩) rfl A8 rfl rfl rfl rfl rfl)|exact J9 (q:=An1 q1 q1.s (AZ2 q1.ins) p f now x) (t:=⟨mpI (mpI t.W (v:Nat) (-1,(k:Nat),zv)) (p:Nat) ((f:Nat),-1,now),mpI (mdI t.D τ) (k:Nat) (q.s.B f),mpI (mdI t.H (f:Nat)) (f:Nat) (p:Nat)⟩) rfl A8 rfl rfl rfl rfl rfl
 ·subst hT
  rw [if_neg (by omega)]
  (refine wx_Sxhn ?_;repeat' (first|with_reducible refine And.intro ?_ ?_|intro hsp))
  all_goals first|(exfalso;omega)|(simp only [hadd];exact J9 (q:=An1 q1 q1.s q1.ins p f now x) (t:=⟨mpI (mpI t.W (v:Nat) (-1,(k:Nat),zv)) (p:Nat) ((f:Nat),-1,now),mpI (mdI t.D (-1)) (k:Nat) (q.s.B f),mpI (mdI t.H (f:Nat)) (f:Nat) (p:Nat)⟩) rfl A8 rfl rfl rfl rfl rfl)|exact J9 (q:=An1 q1 q1.s q1.ins p f now x) (t:=⟨mpI (mpI t.W (v:Nat) (-1,(k:Nat),zv)) (p:Nat) ((f:Nat),-1,now),mpI (mdI t.D (-1)) (k:Nat) (q.s.B f),mpI (mdI t.H (f:Nat)) (f:Nat) (p:Nat)⟩) rfl A8 rfl rfl rfl rfl rfl
end
end Go.Proofs.Ytbhgfoikbkaohaa.Sh
namespace Go.Pol
open Go.Am Go.Proofs.Ytbhgfoikbkaohaa.Sh
section
variable {q:Sw}
theorem vic_some (hg:D7 q) (hf:q.free=none):∃ v,q.vic=some v:=by
 cases hv:q.vic with
 | some v=>exact ⟨v,rfl⟩
 | none =>
  exfalso
  have hr:=hg.rng
  obtain ⟨p,hp,hF⟩:=BM7 hf q.a (Nat.le_refl _) (by omega)
  have:=(AK8 (w:=q) q.pg).2 hv p hp
  omega
theorem vic_at (hg:D7 q) {v:Nat} (hv:q.vic=some v):v < q.pg∧0≤q.F v:=⟨((AK8 (w:=q) q.pg).1 v hv).1,((AK8 (w:=q) q.pg).1 v hv).2.1⟩
theorem R5 {x:AV} (h:Plain x):∀ y ∈ [x],Plain y:=fun y hy=>by obtain rfl:=List.mem_singleton.1 hy;exact h
theorem M8 {x x2:AV} (h:Plain x) (h2:Plain x2):∀ y ∈ [x,x2],Plain y:=fun y hy=>by
 simp only [List.mem_cons,List.not_mem_nil,or_false] at hy
 rcases hy with rfl|rfl
 ·exact h
 ·exact h2
theorem plain_three {x x2 x3:AV} (h:Plain x) (h2:Plain x2) (h3:Plain x3):∀ y ∈ [x,x2,x3],Plain y:=fun y hy=>by
 simp only [List.mem_cons,List.not_mem_nil,or_false] at hy
 rcases hy with rfl|rfl|rfl
 ·exact h
 ·exact h2
 ·exact h3
theorem emod64 {a:Nat}:((a:Nat):Int) % 64=((a % 64:Nat):Int):=by omega
end
end Go.Pol
namespace Go.Proofs.Ytbhgfoikbkaohaa.Sh
open Go Go.Am Go.Pol
theorem wx_Sxi {p q:Prop} (hq:q) (h:Z7 q→p:=by (intro hQz;((repeat' ((try (conv=>whnf));first|refine sxA ?_|refine AH5 hq64 ?_|refine AH5 hm64 ?_|refine AC6 hW rfl ?_|refine x9 hW rfl ?_|refine Z9 hW' rfl ?_|refine sxF ?_|refine AM8 w_is rfl rfl rfl rfl rfl (by decide) rfl ?_|refine AM8 hN rfl rfl rfl rfl rfl (by decide) rfl ?_|refine AM8 hT rfl rfl rfl rfl rfl (by decide) rfl ?_|refine M0 hR rfl (by decide) ?_|refine sxH ?_|((with_reducible first|apply U8 hQz|apply U9 hQz)<;>(try intro hsp hQz))|exact hQz.out))<;>(try (conv=>whnf))))):p:=h ⟨hq⟩
section
variable {q:Sw} {t:WS}
theorem AY4 {f:Nat} {avs:List AV} {q q1 q2:Sw} {t t1:WS} {r:AV} (h:L8 f avs q t r q1 t1) (e:stN q2 t1 0 1 2 3 4=stN q1 t1 0 1 2 3 4):L8 f avs q t r q2 t1:=⟨by rw [e];exact h.out,h.pa,h.pr⟩
theorem BP4 (hg:D7 q) (h:WOk q t) {p:Nat} {now:Int} (hp:p < q.pg):∃ t',L8 32 [.int .i64 (p:Nat),.int .i64 now] q t (.int .i64 (q.touch p now).1) (q.touch p now).2 t'∧WOk (q.touch p now).2 t':=by
 have hrng:=hg.rng
 have hcnt:=hg.cnt
 by_cases hF:0≤q.F p
 ·have e:q.touch p now=(0,{ q with Z:=E9 q.Z p now }):=by unfold Sw.touch;rw [if_pos hF]
  rw [e]
  exact ⟨_,w_touchA hg h hF,BO1 hg h hF now⟩
 ·have hWT:=look_out hg h hF
  have hD:=look_D hg h p
  have hL:=w_free hg h
  cases hfr:q.free with
  | some f =>
   obtain ⟨f1,f2,f3⟩:=Y7 hfr
   have hy:opA q.free=((f:Nat):Int):=by rw [hfr];rfl
   rcases (hg.kind f f1 f2).1 with hk|hk
   ·have hkd:=BF0 (s:=q.s) (a:=(f:Nat))
    rw [AC7 (by omega) hk] at hkd
    have hcom:=p_commit (s:=q.s) (a:=(f:Nat)) (n:=1) hg.good
    obtain ⟨e,s1,hc⟩:∃ e s1,q.s.chg (f:Nat) 1 1 2 2=(e,s1):=⟨_,_,rfl⟩
    have hcw:=comW hg ⟨f1,f2⟩ hk hc
    rw [hc] at hcom
    dsimp only at hcom
    by_cases he:e=0
    ·subst he
     have et:q.touch p now=(0,Sw.brg { q with s:=s1 } p f now (q.got p)):=by unfold Sw.touch;rw [if_neg hF,hfr];dsimp only;rw [if_pos hk,hc,if_pos rfl]
     rw [et]
     refine ⟨_,?_,BO3 hcw.1 (AO0 h s1) hp hF f3 now (q.got p)⟩
     dsimp only
     rw [brg_R]
     exact w_touchC (by omega) ⟨hcnt.1,hcnt.2.1⟩ hL hy hWT hD rfl hkd hcom fun i=>w_set (q:={ q with s:=s1,ins:=i }) hcw.1.good (by omega) (hcw.2.1 rfl) (q.got p)
    ·have et:q.touch p now=(e,{ q with s:=s1 }):=by unfold Sw.touch;rw [if_neg hF,hfr];dsimp only;rw [if_pos hk,hc,if_neg he]
     rw [et]
     exact ⟨_,w_touchE (by omega) ⟨hcnt.1,hcnt.2.1⟩ hL hy hWT hD rfl hkd hcom he,AO0 h s1⟩
   ·have hkd:=BF0 (s:=q.s) (a:=(f:Nat))
    rw [AC7 (by omega) hk] at hkd
    have et:q.touch p now=(0,q.brg p f now (q.got p)):=by unfold Sw.touch;rw [if_neg hF,hfr];dsimp only;rw [if_neg (by omega)]
    rw [et]
    refine ⟨_,?_,BO3 hg h hp hF f3 now (q.got p)⟩
    dsimp only
    rw [brg_R0]
    exact w_touchG (by omega) ⟨hcnt.1,hcnt.2.1⟩ hL hy hWT hD rfl hkd fun i=>w_set (q:={ q with ins:=i }) hg.good (by omega) hk (q.got p)
  | none =>
   have hy:opA q.free = -1:=by rw [hfr];rfl
   have hS:=w_slot h hrng.2.2.2.2 (q.T p)
   cases hsl:q.slot (q.T p) with
   | none =>
    rw [hsl] at hS
    have et:q.touch p now=(5,q):=by unfold Sw.touch;rw [if_neg hF,hfr];dsimp only;rw [hsl]
    rw [et]
    exact ⟨_,w_touchF (by omega) ⟨hcnt.1,hcnt.2.1⟩ hL hy hWT hD rfl hS,h⟩
   | some k =>
    rw [hsl] at hS
    obtain ⟨v,hv⟩:=vic_some hg hfr
    obtain ⟨v1,v2⟩:=vic_at hg hv
    obtain ⟨f,f0,f1,f2,f3⟩:=O8 hg v2
    have hV:=w_victim (t:=⟨t.W,mdI t.D (q.T p),t.H⟩) hg h.ww
    rw [hv] at hV
    have hvp:v ≠ p:=fun e=>hF (by rw [← e];exact v2)
    have hWv:=AR1 h.ww (p:=v) (.inl v2)
    rw [f0] at hWv
    have et:q.touch p now=(0,(q.put v k).brg p f now (q.got p)):=by unfold Sw.touch;rw [if_neg hF,hfr];dsimp only;rw [hsl,hv];dsimp only;rw [f0];rfl
    rw [et]
    have hw:=Aw5 hg h hp hF f0 (AD9 hsl).2 now (q.got p)
    rw [f0,Int.toNat_natCast] at hw
    refine ⟨_,?_,hw⟩
    dsimp only
    rw [put_R hvp]
    have hO:=w_outM (t:=⟨t.W,mdI t.D (q.T p),t.H⟩) (k:=(k:Nat)) hWv (by omega) f3 hcnt.2.2
    have hO2:=AY4 (q2:=q.put v k) hO rfl
    exact w_touchS (q1:=q.put v k) (by omega) ⟨hcnt.1,hcnt.2.1⟩ hL hy hWT hD ⟨hcnt.1,hcnt.2.1⟩ rfl hS hV hO2 hWv fun i=>w_set (q:={ q.put v k with ins:=i }) hg.good (by omega) f3 (q.got p)
section
variable {a f:Nat} {at_ now e e2 v:Int} {q':Sw} {t':WS} {x x' y z:Int}
theorem w_ReadN (hN:L8 31 [.int .i64 at_,.int .i64 now] q t (.bool false) q t):L8 12 [.int .i64 at_,.int .i64 now] q t (.tup [.int .u8 0,.int .i64 7]) q t:=by
 refine L8.mk (H6 F6 b12 rfl ?_) (M8 A8 A8) (F4 (M8 A8 A8))
 unfold c12
 unfold stN stC
 (refine wx_Sxi ?_;repeat' (first|with_reducible refine And.intro ?_ ?_|intro hsp))
 all_goals first|(exfalso;omega)|exact J9 rfl (F4 (M8 A8 A8)) rfl rfl rfl rfl rfl
theorem w_ReadZ (hN:L8 31 [.int .i64 (a:Nat),.int .i64 now] q t (.bool true) q t) (ha:a < 100000) (hW:mgI t.W ((a / 64:Nat):Int)=none):L8 12 [.int .i64 (a:Nat),.int .i64 now] q t (.tup [.int .u8 0,.int .i64 0]) q t:=by
 refine L8.mk (H6 F6 b12 rfl ?_) (M8 A8 A8) (F4 (M8 A8 A8))
 have hq64:=q64 ha
 have hm64:=m64 (t:=a)
 unfold c12
 unfold stN stC
 (refine wx_Sxi ?_;repeat' (first|with_reducible refine And.intro ?_ ?_|intro hsp))
 all_goals first|(exfalso;omega)|exact J9 rfl (F4 (M8 A8 A8)) rfl rfl rfl rfl rfl
theorem w_ReadE (hN:L8 31 [.int .i64 (a:Nat),.int .i64 now] q t (.bool true) q t) (ha:a < 100000) (hW:mgI t.W ((a / 64:Nat):Int)=some (x,y,z)) (hT:L8 32 [.int .i64 ((a / 64:Nat):Int),.int .i64 now] q t (.int .i64 e) q' t') (he:e ≠ 0):L8 12 [.int .i64 (a:Nat),.int .i64 now] q t (.tup [.int .u8 0,.int .i64 e]) q' t':=by
 refine L8.mk (H6 F6 b12 rfl ?_) (M8 A8 A8) (F4 (M8 A8 A8))
 have hq64:=q64 ha
 have hm64:=m64 (t:=a)
 unfold c12
 unfold stN stC
 (refine wx_Sxi ?_;repeat' (first|with_reducible refine And.intro ?_ ?_|intro hsp))
 all_goals first|(exfalso;omega)|exact J9 (q:=q') rfl (F4 (M8 A8 A8)) rfl rfl rfl rfl rfl
theorem w_ReadY {x2:Int} (hN:L8 31 [.int .i64 (a:Nat),.int .i64 now] q t (.bool true) q t) (ha:a < 100000) (hf:f < 1024) (hW:mgI t.W ((a / 64:Nat):Int)=some (x,y,z)) (hT:L8 32 [.int .i64 ((a / 64:Nat):Int),.int .i64 now] q t (.int .i64 0) q' t') (hW':mgI t'.W ((a / 64:Nat):Int)=some (((f:Nat):Int),x2,x'))
  (hR:AF4 33 [.int .i64 (((f:Nat):Int) * 64+((a % 64:Nat):Int))] q'.s.a (.tup [.int .u8 v,.int .i64 e2]) q'.s.a):L8 12 [.int .i64 (a:Nat),.int .i64 now] q t (.tup [.int .u8 v,.int .i64 e2]) q' t':=by
 refine L8.mk (H6 F6 b12 rfl ?_) (M8 A8 A8) (F4 (M8 A8 A8))
 have hq64:=q64 ha
 have hm64:=m64 (t:=a)
 have hml:a % 64 < 64:=Nat.mod_lt _ (by decide)
 unfold c12
 unfold stN stC
 (refine wx_Sxi ?_;repeat' (first|with_reducible refine And.intro ?_ ?_|intro hsp))
 all_goals first|(exfalso;omega)|exact J9 (q:=q') rfl (F4 (M8 A8 A8)) rfl rfl rfl rfl rfl
theorem w_WriteN (hN:L8 31 [.int .i64 at_,.int .i64 now] q t (.bool false) q t):L8 26 [.int .i64 at_,.int .i64 now,.int .u8 v] q t (.int .i64 7) q t:=by
 refine L8.mk (H6 F6 b26 rfl ?_) (plain_three A8 A8 A8) A8
 unfold c26
 unfold stN stC
 (refine wx_Sxi ?_;repeat' (first|with_reducible refine And.intro ?_ ?_|intro hsp))
 all_goals first|(exfalso;omega)|exact J9 rfl A8 rfl rfl rfl rfl rfl
theorem w_WriteE (hN:L8 31 [.int .i64 (a:Nat),.int .i64 now] q t (.bool true) q t) (ha:a < 100000) (hT:L8 32 [.int .i64 ((a / 64:Nat):Int),.int .i64 now] q t (.int .i64 e) q' t') (he:e ≠ 0):L8 26 [.int .i64 (a:Nat),.int .i64 now,.int .u8 v] q t (.int .i64 e) q' t':=by
 refine L8.mk (H6 F6 b26 rfl ?_) (plain_three A8 A8 A8) A8
 have hq64:=q64 ha
 have hm64:=m64 (t:=a)
 unfold c26
 unfold stN stC
 (refine wx_Sxi ?_;repeat' (first|with_reducible refine And.intro ?_ ?_|intro hsp))
 all_goals first|(exfalso;omega)|exact J9 (q:=q') rfl A8 rfl rfl rfl rfl rfl
theorem w_WriteY {s2:Sy} (hN:L8 31 [.int .i64 (a:Nat),.int .i64 now] q t (.bool true) q t) (ha:a < 100000) (hf:f < 1024) (hT:L8 32 [.int .i64 ((a / 64:Nat):Int),.int .i64 now] q t (.int .i64 0) q' t') (hW':mgI t'.W ((a / 64:Nat):Int)=some (((f:Nat):Int),x,x'))
  (hR:AF4 47 [.int .i64 (((f:Nat):Int) * 64+((a % 64:Nat):Int)),.int .u8 v] q'.s.a (.int .i64 e2) s2.a):L8 26 [.int .i64 (a:Nat),.int .i64 now,.int .u8 v] q t (.int .i64 e2) { q' with s:=s2 } t':=by
 refine L8.mk (H6 F6 b26 rfl ?_) (plain_three A8 A8 A8) A8
 have hq64:=q64 ha
 have hm64:=m64 (t:=a)
 have hml:a % 64 < 64:=Nat.mod_lt _ (by decide)
 unfold c26
 unfold stN stC
 (refine wx_Sxi ?_;repeat' (first|with_reducible refine And.intro ?_ ?_|intro hsp))
 all_goals first|(exfalso;omega)|exact J9 (q:={ q' with s:=s2 }) rfl A8 rfl rfl rfl rfl rfl
end
end
end Go.Proofs.Ytbhgfoikbkaohaa.Sh
namespace Go.Pol
open Go.Am Go.Proofs.Ytbhgfoikbkaohaa.Sh
theorem Az0 {β:Type} {k:Int}:∀ {L:List (Int × β)},mgI L k=none→mdI L k=L
 | [],_=>rfl
 | e::L,h=>by
  unfold mgI at h
  split at h
  ·cases h
  ·rename_i hne
   unfold mdI
   rw [if_neg hne,Az0 h]
theorem BG1 {β:Type} {L:List (Int × β)} {M:List Nat} (h:(L.map (·.1)).Perm (M.map fun f:Nat=>((f:Nat):Int))):L.length=M.length:=by have:=h.length_eq;rwa [List.length_map,List.length_map] at this
section
variable {q:Sw} {t:WS}
theorem md_D (h:WOk q t) {k:Int} (hk:k < 0):mdI t.D k=t.D:=Az0 (AW8 h hk)
theorem md_H (h:WOk q t) {k:Int} (hk:k < 0):mdI t.H k=t.H:=Az0 (Ah1 h hk)
theorem len_H (hg:D7 q) (h:WOk q t):t.H.length=q.inN:=by
 rw [in_held hg]
 refine BG1 ((List.perm_ext_iff_of_nodup h.ndH ?_).2 fun k=>?_)
 ·exact List.Pairwise.map (R:=fun a b=>a ≠ b) _ (fun a b hab e=>hab (by omega)) ((List.nodup_range' (step:=1) (h:=by decide)).filter _)
 ·rw [AS9,List.mem_map]
  constructor
  ·rintro ⟨p,hp⟩
   obtain ⟨p0,k0,hF⟩:=(h.gH k p).1 hp
   obtain ⟨f,f0,f1,f2,_⟩:=O8 hg (p:=p.toNat) (by omega)
   refine ⟨f,List.mem_filter.2 ⟨?_,?_⟩,by omega⟩
   ·rw [List.mem_range'];exact ⟨f - q.a,by omega,by omega⟩
   ·exact decide_eq_true ⟨p.toNat,AC8 hg (by omega),f0⟩
  ·rintro ⟨f,hf,rfl⟩
   obtain ⟨_,h2⟩:=List.mem_filter.1 hf
   obtain ⟨p,hp,hF⟩:=of_decide_eq_true h2
   exact ⟨(p:Nat),(gH_n h f p).2 hF⟩
theorem len_D (hg:D7 q) (h:WOk q t):t.D.length=q.outN:=by
 rw [BF3 hg]
 refine BG1 ((List.perm_ext_iff_of_nodup h.ndD ?_).2 fun k=>?_)
 ·exact List.Pairwise.map (R:=fun a b=>a ≠ b) _ (fun a b hab e=>hab (by omega)) (List.nodup_range.filter _)
 ·rw [AS9,List.mem_map]
  constructor
  ·rintro ⟨b,hb⟩
   rw [h.gD] at hb
   split at hb
   ·rename_i hk
    obtain ⟨p,hp,hT⟩:=hk.2
    rcases hg.sl p with h1 | ⟨_,k2,h2,h3⟩
    ·omega
    ·exact ⟨k.toNat,List.mem_filter.2 ⟨List.mem_range.2 (by omega),decide_eq_true ⟨p,hp,hT⟩⟩,by omega⟩
   ·cases hb
  ·rintro ⟨f,hf,rfl⟩
   obtain ⟨_,h2⟩:=List.mem_filter.1 hf
   obtain ⟨p,hp,hT⟩:=of_decide_eq_true h2
   exact ⟨_,AN4 hg h hT⟩
def Az8 (q:Sw) (i:Nat):Nat:=((List.range' q.a i).filter fun f=>decide (q.s.K f=2∧¬ q.heldF f)).length
theorem idle_0:((Az8 q 0:Nat):Int)=0:=rfl
theorem idle_s {i:Nat}:Az8 q (i+1)=Az8 q i+if q.s.K (q.a+i)=2∧¬ q.heldF (q.a+i) then 1 else 0:=by
 unfold Az8
 rw [List.range'_concat,List.filter_append,List.length_append,Nat.one_mul]
 congr 1
 by_cases h:q.s.K (q.a+i)=2∧¬ q.heldF (q.a+i)
 ·rw [if_pos h,List.filter_cons_of_pos (by simpa using h)];rfl
 ·rw [if_neg h,List.filter_cons_of_neg (by simpa using h)];rfl
theorem idle_le:∀ i,Az8 q i≤i
 | 0=>Nat.le_refl _
 | i+1=>by have:=idle_le i;rw [idle_s];split<;>omega
end
end Go.Pol
namespace Go.Proofs.Ytbhgfoikbkaohaa.Sh
open Go Go.Am Go.Pol
theorem wx_Sxj {p q:Prop} (hq:q) (h:Z7 q→p:=by (intro hQz;((repeat' ((try (conv=>whnf));first|refine sxA ?_|refine AC6 hW rfl ?_|refine x9 hW rfl ?_|refine sxF ?_|refine AM8 w_is rfl rfl rfl rfl rfl (by decide) rfl ?_|refine AM8 hS rfl rfl rfl rfl rfl (by decide) rfl ?_|refine AM8 hV rfl rfl rfl rfl rfl (by decide) rfl ?_|refine sxH ?_|((with_reducible first|apply U8 hQz|apply U9 hQz)<;>(try intro hsp hQz))|exact hQz.out))<;>(try (conv=>whnf))))):p:=h ⟨hq⟩
theorem wx_Sxjn {p q:Prop} (hq:q) (h:Z7 q→p:=by (intro hQz;((repeat' ((try (conv=>whnf));first|refine sxA ?_|refine x9 hW rfl ?_|refine BW0 rfl ?_|refine sxN ?_|refine AM8 w_is rfl rfl rfl rfl rfl (by decide) rfl ?_|refine AM8 hS rfl rfl rfl rfl rfl (by decide) rfl ?_|refine AM8 hO rfl rfl rfl rfl rfl (by decide) rfl ?_|refine AR5 hdec rfl rfl ?_|refine M0 hdec rfl (by decide) ?_|refine sxH ?_|((with_reducible first|apply U8 hQz|apply U9 hQz)<;>(try intro hsp hQz))|exact hQz.out))<;>(try (conv=>whnf))))):p:=h ⟨hq⟩
section
variable {q:Sw} {t:WS}
theorem BC4 (hg:D7 q) (h:WOk q t) (at_ now:Int):∃ t',L8 12 [.int .i64 at_,.int .i64 now] q t (.tup [.int .u8 (q.read at_ now).1,.int .i64 (q.read at_ now).2.1]) (q.read at_ now).2.2 t'∧WOk (q.read at_ now).2.2 t':=by
 have hrng:=hg.rng
 have hN:=Ao8 (q:=q) (t:=t) hrng.2.2.2.1 at_ now
 by_cases hn:q.nums at_ now
 ·rw [decide_eq_true hn] at hN
  obtain ⟨n1,n2,n3,n4⟩:=hn
  obtain ⟨a,rfl⟩:=Int.eq_ofNat_of_zero_le n1
  have ha:a < 100000:=by omega
  by_cases hi:q.is (a / 64)
  ·obtain ⟨t',hT,hO⟩:=BP4 hg h (p:=a / 64) (now:=now) (by omega)
   by_cases he:(q.touch (a / 64) now).1=0
   ·have er:q.read (a:Nat) now=(((q.touch (a / 64) now).2.s.read ((q.touch (a / 64) now).2.F (a / 64) * 64+((a:Nat):Int) % 64)).1,((q.touch (a / 64) now).2.s.read ((q.touch (a / 64) now).2.F (a / 64) * 64+((a:Nat):Int) % 64)).2,(q.touch (a / 64) now).2):=by
     unfold Sw.read
     rw [if_neg (Classical.not_not.2 ⟨n1,n2,n3,n4⟩),Int.toNat_natCast,if_neg (Classical.not_not.2 hi),if_pos he]
    rw [er]
    refine ⟨t',?_,hO⟩
    rcases AX5 hg (p:=a / 64) now with hy|hno
    ·have hg2:=AA4 hg (p:=a / 64) (now:=now) (by omega) ⟨n3,n4⟩
     rw [he] at hT
     obtain ⟨f,f0,f1,f2,_⟩:=O8 hg2 hy.fr
     have hr2:=hg2.rng
     have hW':=AR1 hO.ww (p:=a / 64) (.inl hy.fr)
     rw [f0] at hW'
     have hR:=p_read (s:=(q.touch (a / 64) now).2.s) (a:=((f:Nat):Int) * 64+((a % 64:Nat):Int))
     dsimp only
     rw [f0,emod64]
     exact w_ReadY hN ha (by omega) (AR1 h.ww hi) hT hW' hR
    ·exact absurd he hno.e
   ·have er:q.read (a:Nat) now=(0,(q.touch (a / 64) now).1,(q.touch (a / 64) now).2):=by
     unfold Sw.read
     rw [if_neg (Classical.not_not.2 ⟨n1,n2,n3,n4⟩),Int.toNat_natCast,if_neg (Classical.not_not.2 hi),if_neg he]
    rw [er]
    exact ⟨t',w_ReadE hN ha (AR1 h.ww hi) hT he,hO⟩
  ·have er:q.read (a:Nat) now=(0,0,q):=by
    unfold Sw.read
    rw [if_neg (Classical.not_not.2 ⟨n1,n2,n3,n4⟩),Int.toNat_natCast,if_pos hi]
   rw [er]
   exact ⟨t,w_ReadZ hN ha (gW_no h.ww hi),h⟩
 ·have er:q.read at_ now=(0,7,q):=by unfold Sw.read;rw [if_pos hn]
  rw [er]
  rw [decide_eq_false hn] at hN
  exact ⟨t,w_ReadN hN,h⟩
theorem AZ8 (hg:D7 q) (h:WOk q t) (at_ now v:Int):∃ t',L8 26 [.int .i64 at_,.int .i64 now,.int .u8 v] q t (.int .i64 (q.write at_ now v).1) (q.write at_ now v).2 t'∧WOk (q.write at_ now v).2 t':=by
 have hrng:=hg.rng
 have hN:=Ao8 (q:=q) (t:=t) hrng.2.2.2.1 at_ now
 by_cases hn:q.nums at_ now
 ·rw [decide_eq_true hn] at hN
  obtain ⟨n1,n2,n3,n4⟩:=hn
  obtain ⟨a,rfl⟩:=Int.eq_ofNat_of_zero_le n1
  have ha:a < 100000:=by omega
  obtain ⟨t',hT,hO⟩:=BP4 hg h (p:=a / 64) (now:=now) (by omega)
  by_cases he:(q.touch (a / 64) now).1=0
  ·have er:q.write (a:Nat) now v=(q.touch (a / 64) now).2.byte (a:Nat) v:=by
    unfold Sw.write
    rw [if_neg (Classical.not_not.2 ⟨n1,n2,n3,n4⟩),Int.toNat_natCast,if_pos he]
   rw [er]
   refine ⟨t',?_,AO0 hO _⟩
   rcases AX5 hg (p:=a / 64) now with hy|hno
   ·have hg2:=AA4 hg (p:=a / 64) (now:=now) (by omega) ⟨n3,n4⟩
    rw [he] at hT
    obtain ⟨f,f0,f1,f2,_⟩:=O8 hg2 hy.fr
    have hr2:=hg2.rng
    have hW':=AR1 hO.ww (p:=a / 64) (.inl hy.fr)
    rw [f0] at hW'
    have hR:=BV1 (s:=(q.touch (a / 64) now).2.s) (a:=((f:Nat):Int) * 64+((a % 64:Nat):Int)) (b:=v)
    unfold Sw.byte
    dsimp only
    rw [Int.toNat_natCast,f0,emod64]
    exact w_WriteY hN ha (by omega) hT hW' hR
   ·exact absurd he hno.e
  ·have er:q.write (a:Nat) now v=q.touch (a / 64) now:=by
    unfold Sw.write
    rw [if_neg (Classical.not_not.2 ⟨n1,n2,n3,n4⟩),Int.toNat_natCast,if_neg he]
   rw [er]
   exact ⟨t',w_WriteE hN ha hT he,hO⟩
 ·have er:q.write at_ now v=(7,q):=by unfold Sw.write;rw [if_pos hn]
  rw [er]
  rw [decide_eq_false hn] at hN
  exact ⟨t,w_WriteN hN,h⟩
section
variable {p e z x:Int} {f k:Nat} {q1:Sw} {t1:WS} {s2:Sy}
theorem w_OutR (hpg:q.pg≤256) (hp:p < 0∨(q.pg:Nat)≤p):L8 27 [.int .i64 p] q t (.int .i64 7) q t:=by
 refine L8.mk (H6 F6 b27 rfl ?_) (R5 A8) A8
 unfold c27
 unfold stN stC
 (refine wx_Sxj ?_;repeat' (first|with_reducible refine And.intro ?_ ?_|intro hsp))
 all_goals first|(exfalso;omega)|exact J9 rfl A8 rfl rfl rfl rfl rfl
theorem w_OutO (hp:0≤p∧p < (q.pg:Nat)) (hW:mgI t.W p=none):L8 27 [.int .i64 p] q t (.int .i64 4) q t:=by
 refine L8.mk (H6 F6 b27 rfl ?_) (R5 A8) A8
 unfold c27
 unfold stN stC
 (refine wx_Sxj ?_;repeat' (first|with_reducible refine And.intro ?_ ?_|intro hsp))
 all_goals first|(exfalso;omega)|exact J9 rfl A8 rfl rfl rfl rfl rfl
theorem w_OutP (hp:0≤p∧p < (q.pg:Nat)) (hW:mgI t.W p=some (e,x,z)) (he:e < 0):L8 27 [.int .i64 p] q t (.int .i64 4) q t:=by
 refine L8.mk (H6 F6 b27 rfl ?_) (R5 A8) A8
 unfold c27
 unfold stN stC
 (refine wx_Sxj ?_;repeat' (first|with_reducible refine And.intro ?_ ?_|intro hsp))
 all_goals first|(exfalso;omega)|exact J9 rfl A8 rfl rfl rfl rfl rfl
theorem w_OutF (hp:0≤p∧p < (q.pg:Nat)) (hW:mgI t.W p=some (((f:Nat):Int),x,z)) (hS:L8 48 [.int .i64 (-1)] q t (.int .i64 (-1)) q t):L8 27 [.int .i64 p] q t (.int .i64 5) q t:=by
 refine L8.mk (H6 F6 b27 rfl ?_) (R5 A8) A8
 unfold c27
 unfold stN stC
 (refine wx_Sxj ?_;repeat' (first|with_reducible refine And.intro ?_ ?_|intro hsp))
 all_goals first|(exfalso;omega)|exact J9 rfl A8 rfl rfl rfl rfl rfl
theorem w_OutY (hp:0≤p∧p < (q.pg:Nat)) (hW:mgI t.W p=some (((f:Nat):Int),x,z)) (hS:L8 48 [.int .i64 (-1)] q t (.int .i64 (k:Nat)) q t) (hO:L8 49 [.int .i64 p,.int .i64 (k:Nat)] q t (.tup []) q1 t1)
  (hdec:AF4 46 [.int .i64 (f:Nat),.int .i64 1] q1.s.a (.int .i64 e) s2.a):L8 27 [.int .i64 p] q t (.int .i64 0) { q1 with s:=s2 } t1:=by
 refine L8.mk (H6 F6 b27 rfl ?_) (R5 A8) A8
 unfold c27
 unfold stN stC
 (refine wx_Sxjn ?_;repeat' (first|with_reducible refine And.intro ?_ ?_|intro hsp))
 all_goals first|(exfalso;omega)|exact J9 (q:={ q1 with s:=s2 }) rfl A8 rfl rfl rfl rfl rfl
theorem w_FreeR (hpg:q.pg≤256) (hp:p < 0∨(q.pg:Nat)≤p):L8 25 [.int .i64 p] q t (.int .i64 7) q t:=by
 refine L8.mk (H6 F6 b25 rfl ?_) (R5 A8) A8
 unfold c25
 unfold stN stC
 (refine wx_Sxj ?_;repeat' (first|with_reducible refine And.intro ?_ ?_|intro hsp))
 all_goals first|(exfalso;omega)|exact J9 rfl A8 rfl rfl rfl rfl rfl
theorem w_FreeO (hp:0≤p∧p < (q.pg:Nat)) (hW:mgI t.W p=none):L8 25 [.int .i64 p] q t (.int .i64 4) q t:=by
 refine L8.mk (H6 F6 b25 rfl ?_) (R5 A8) A8
 unfold c25
 unfold stN stC
 (refine wx_Sxj ?_;repeat' (first|with_reducible refine And.intro ?_ ?_|intro hsp))
 all_goals first|(exfalso;omega)|exact J9 rfl A8 rfl rfl rfl rfl rfl
theorem w_FreeS (hp:0≤p∧p < (q.pg:Nat)) (hW:mgI t.W p=some (e,x,z)) (he:e < 0):L8 25 [.int .i64 p] q t (.int .i64 0) q ⟨mdI t.W p,mdI t.D x,t.H⟩:=by
 refine L8.mk (H6 F6 b25 rfl ?_) (R5 A8) A8
 unfold c25
 unfold stN stC
 (refine wx_Sxjn ?_;repeat' (first|with_reducible refine And.intro ?_ ?_|intro hsp))
 all_goals first|(exfalso;omega)|exact J9 (q:=q) (t:=⟨mdI t.W p,mdI t.D x,t.H⟩) rfl A8 rfl rfl rfl rfl rfl
theorem w_FreeF (hp:0≤p∧p < (q.pg:Nat)) (hW:mgI t.W p=some (((f:Nat):Int),x,z)) (hdec:AF4 46 [.int .i64 (f:Nat),.int .i64 1] q.s.a (.int .i64 e) s2.a):L8 25 [.int .i64 p] q t (.int .i64 0) { q with s:=s2 } ⟨mdI t.W p,t.D,mdI t.H (f:Nat)⟩:=by
 refine L8.mk (H6 F6 b25 rfl ?_) (R5 A8) A8
 unfold c25
 unfold stN stC
 (refine wx_Sxjn ?_;repeat' (first|with_reducible refine And.intro ?_ ?_|intro hsp))
 all_goals first|(exfalso;omega)|exact J9 (q:={ q with s:=s2 }) (t:=⟨mdI t.W p,t.D,mdI t.H (f:Nat)⟩) rfl A8 rfl rfl rfl rfl rfl
end
theorem w_Out (hg:D7 q) (h:WOk q t) (p:Int):∃ t',L8 27 [.int .i64 p] q t (.int .i64 (q.out p).1) (q.out p).2 t'∧WOk (q.out p).2 t':=by
 have hrng:=hg.rng
 have hcnt:=hg.cnt
 by_cases hp:0≤p∧p < (q.pg:Nat)
 ·obtain ⟨n,rfl⟩:=Int.eq_ofNat_of_zero_le hp.1
  by_cases hF:q.F n < 0
  ·have er:q.out (n:Nat)=(4,q):=by unfold Sw.out;rw [if_neg (Classical.not_not.2 hp),Int.toNat_natCast,if_pos hF]
   rw [er]
   refine ⟨t,?_,h⟩
   by_cases hi:q.is n
   ·exact w_OutP hp (AR1 h.ww hi) hF
   ·exact w_OutO hp (gW_no h.ww hi)
  ·obtain ⟨f,f0,f1,f2,f3⟩:=O8 hg (p:=n) (by omega)
   have hW:=AR1 h.ww (p:=n) (.inl (by omega))
   rw [f0] at hW
   have hS:=w_slot h hrng.2.2.2.2 (-1)
   cases hsl:q.slot (-1) with
   | none =>
    have er:q.out (n:Nat)=(5,q):=by unfold Sw.out;rw [if_neg (Classical.not_not.2 hp),Int.toNat_natCast,if_neg hF,hsl]
    rw [er]
    rw [hsl] at hS
    exact ⟨t,w_OutF hp hW hS,h⟩
   | some k =>
    have er:q.out (n:Nat)=(0,(q.put n k).gone (q.F n)):=by unfold Sw.out;rw [if_neg (Classical.not_not.2 hp),Int.toNat_natCast,if_neg hF,hsl]
    rw [er]
    rw [hsl] at hS
    have hO:=AY4 (q2:=q.put n k) (w_outM (k:=(k:Nat)) hW (by omega) f3 hcnt.2.2) rfl
    have hdec:=Ag1 (s:=(q.put n k).s) (a:=(f:Nat)) (n:=1) hg.good
    have hk:=(AD9 hsl).2.resolve_left (by omega)
    refine ⟨_,?_,AO0 (wok_out hg h f0 hk) _⟩
    dsimp only
    rw [f0]
    exact w_OutY hp hW hS hO hdec
 ·have er:q.out p=(7,q):=by unfold Sw.out;rw [if_pos hp]
  rw [er]
  exact ⟨t,w_OutR hrng.2.2.2.1 (by omega),h⟩
theorem BP6 (hg:D7 q) (h:WOk q t) (p:Int):∃ t',L8 25 [.int .i64 p] q t (.int .i64 (q.fre p).1) (q.fre p).2 t'∧WOk (q.fre p).2 t':=by
 have hrng:=hg.rng
 by_cases hp:0≤p∧p < (q.pg:Nat)
 ·obtain ⟨n,rfl⟩:=Int.eq_ofNat_of_zero_le hp.1
  by_cases hi:q.is n
  ·have hW:=AR1 h.ww hi
   have hwo:=wok_fre hg h hi
   by_cases hF:0≤q.F n
   ·obtain ⟨f,f0,f1,f2,f3⟩:=O8 hg (p:=n) hF
    have er:q.fre (n:Nat)=(0,Sw.gone { q with F:=E9 q.F n (-1),T:=E9 q.T n (-1),Z:=E9 q.Z n 0 } (q.F n)):=by unfold Sw.fre;rw [if_neg (Classical.not_not.2 hp),Int.toNat_natCast,if_neg (Classical.not_not.2 hi),if_pos hF]
    rw [er]
    have hT:q.T n < 0:=by rcases AU9 hg n with h1 | ⟨h1,_⟩<;>omega
    rw [f0] at hW
    rw [f0,md_D h hT] at hwo
    have hdec:=Ag1 (s:=q.s) (a:=(f:Nat)) (n:=1) hg.good
    refine ⟨_,?_,AO0 hwo _⟩
    dsimp only
    rw [f0]
    exact AY4 (w_FreeF hp hW hdec) rfl
   ·have er:q.fre (n:Nat)=(0,{ q with F:=E9 q.F n (-1),T:=E9 q.T n (-1),Z:=E9 q.Z n 0 }):=by unfold Sw.fre;rw [if_neg (Classical.not_not.2 hp),Int.toNat_natCast,if_neg (Classical.not_not.2 hi),if_neg hF]
    rw [er]
    rw [md_H h (by omega)] at hwo
    exact ⟨_,AY4 (w_FreeS hp hW (by omega)) rfl,hwo⟩
  ·have er:q.fre (n:Nat)=(4,q):=by unfold Sw.fre;rw [if_neg (Classical.not_not.2 hp),Int.toNat_natCast,if_pos hi]
   rw [er]
   exact ⟨t,w_FreeO hp (gW_no h.ww hi),h⟩
 ·have er:q.fre p=(7,q):=by unfold Sw.fre;rw [if_pos hp]
  rw [er]
  exact ⟨t,w_FreeR hrng.2.2.2.1 (by omega),h⟩
end
end Go.Proofs.Ytbhgfoikbkaohaa.Sh
namespace Go.Proofs.Ytbhgfoikbkaohaa.Sh
open Go Go.Am Go.Pol
open Go.Proofs.Ytbhgfoikbkaohaa.Sh renaming plx_Sxc → plx
open Go.Proofs.Ytbhgfoikbkaohaa.Sh renaming ppx_Sxc → ppx
theorem wx_Sxk {p q:Prop} (hq:q) (h:Z7 q→p:=by (intro hQz;((repeat' ((try (conv=>whnf));first|refine sxA ?_|refine x9 hp rfl ?_|refine AC6 hp rfl ?_|refine BF7 rfl ?_|refine sxF ?_|refine AM8 w_is rfl rfl rfl rfl rfl (by decide) rfl ?_|refine M0 hkd rfl (by decide) ?_|refine sxH ?_|((with_reducible first|apply U8 hQz|apply U9 hQz)<;>(try intro hsp hQz))|exact hQz.out))<;>(try (conv=>whnf))))):p:=h ⟨hq⟩
section
variable {q:Sw} {t:WS}
theorem Aj0 (hg:D7 q) (h:WOk q t):L8 21 [] q t (.tup [.int .i64 (q.inN:Nat),.int .i64 (q.outN:Nat),.int .i64 (q.idle:Nat),.int .i64 0]) q t:=by
 have hrng:=hg.rng
 have hpt:∀ {a b c d:Int},Plain (.tup [.int .i64 a,.int .i64 b,.int .i64 c,.int .i64 d]):=F4 fun x hx=>by
  simp only [List.mem_cons,List.not_mem_nil,or_false] at hx
  rcases hx with rfl|rfl|rfl|rfl<;>exact A8
 rw [← len_H hg h,← len_D hg h,show q.idle=Az8 q q.n from rfl]
 refine L8.mk (H6 F6 b21 rfl ?_) (fun x hx=>by cases hx) hpt
 unfold c21
 unfold stN stC
 (refine wx_Sxk ?_;repeat' (first|with_reducible refine And.intro ?_ ?_|intro hsp))
 have hi0:=idle_0 (q:=q)
 (refine Q5 [0] (fun (i:Nat)=>[(4,.int .i64 (Az8 q i:Nat)),(6,.int .i64 ((q.a+i:Nat):Int))]) (fun (i:Nat)=>⟨stN q t 0 1 2 3 4,5⟩) (fun (i:Nat)=>i≤q.n) (fun (i:Nat)=>q.n - i) (0) [] rfl (fun _=>by first|exact Nat.zero_le _|(dsimp only;omega)) ?_ (by ((try (conv=>whnf));(rw [hi0]);exact Y4)) ?_)
 ·exact Nat.zero_le _
 intro i hi
 have hle:=idle_le (q:=q) i
 by_cases hil:i < q.n
 ·have hkd:=BF0 (s:=q.s) (a:=(q.a+i:Nat))
  have hhd:=held_H h hg (f:=q.a+i)
  have hids:=idle_s (q:=q) (i:=i)
  by_cases hh:q.heldF (q.a+i)
  ·rw [AC7 (by omega) (heldK hg hh)] at hkd
   rw [if_neg (fun h2=>h2.2 hh)] at hids
   rw [decide_eq_true hh] at hhd
   obtain ⟨p,hp⟩:=Option.isSome_iff_exists.1 hhd
   unfold stN stC
   (refine wx_Sxk ?_;repeat' (first|with_reducible refine And.intro ?_ ?_|intro hsp))
   all_goals first|(exfalso;omega)|exact I4 (i+1) [] (by (try dsimp only);omega) (by first|omega|(dsimp only;omega)) rfl (by ((try dsimp only);rw [hids]);exact Y4)
  ·rw [decide_eq_false hh] at hhd
   have hp:mgI t.H ((q.a+i:Nat):Int)=none:=Option.not_isSome_iff_eq_none.1 (by rw [hhd];exact Bool.false_ne_true)
   rcases (hg.kind (q.a+i) (by omega) (by omega)).1 with hk|hk
   ·rw [AC7 (by omega) hk] at hkd
    rw [if_neg (fun h2=>by omega)] at hids
    unfold stN stC
    (refine wx_Sxk ?_;repeat' (first|with_reducible refine And.intro ?_ ?_|intro hsp))
    all_goals first|(exfalso;omega)|exact I4 (i+1) [] (by (try dsimp only);omega) (by first|omega|(dsimp only;omega)) rfl (by ((try dsimp only);rw [hids]);exact Y4)
   ·rw [AC7 (by omega) hk] at hkd
    rw [if_pos ⟨hk,hh⟩] at hids
    unfold stN stC
    (refine wx_Sxk ?_;repeat' (first|with_reducible refine And.intro ?_ ?_|intro hsp))
    all_goals first|(exfalso;omega)|exact I4 (i+1) [] (by (try dsimp only);omega) (by first|omega|(dsimp only;omega)) rfl (by ((try dsimp only);rw [hids]);exact Y4)
 ·obtain rfl:i=q.n:=by omega
  unfold stN stC
  (refine wx_Sxk ?_;repeat' (first|with_reducible refine And.intro ?_ ?_|intro hsp))
  all_goals first|(exfalso;omega)|exact J9 rfl hpt rfl rfl rfl rfl rfl
end
end Go.Proofs.Ytbhgfoikbkaohaa.Sh
namespace Go.Proofs.Ytbhgfoikbkaohaa
open Go Go.Am Go.Pol
theorem BP0 {α:Type} {f:α→List AV} {σ:Nat→Nat} {h h':Hp} {d n sz:Nat} {L:List α} (hf:∀ x,(f x).length=sz) (hp:∀ c,∀ x ∈ f c,Plain x) (hn:L.length=n) (hi:L.length ≠ 0→lk h.l d=some (.cells (flat f L))) (hi':∀ j o,lk h'.l j=some o→σ j ≠ d) (hs:AP3 σ h h'):WkV Try.prog σ h h' (Ao4 d sz n) (.isl (L.map f)):=by
 subst hn
 by_cases hz:L.length=0
 ·rw [hz,own_z]
  cases List.eq_nil_of_length_eq_zero hz
  exact BO8
 ·rw [Ay3 hz]
  refine BP1 (hi hz) hi' hs (by simp) (fun e he=>?_) ?_ fun e he x hx=>?_
  ·obtain ⟨s,_,rfl⟩:=List.mem_map.1 he;exact hf s
  ·rw [List.drop_zero,List.take_of_length_le (by rw [AY7 hf];exact Nat.le_refl _)];rfl
  ·obtain ⟨s,_,rfl⟩:=List.mem_map.1 he;exact hp s x hx
end Go.Proofs.Ytbhgfoikbkaohaa
