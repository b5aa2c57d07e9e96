/-
 A page is touched: all of it;reading and writing.
 The calls of a store: reading,writing,putting out,freeing,the victim,what it counts.
 What a store counts;its state.
 The ends of Save: growing slices become values.
 The state of a store.
 A store is made.
-/
import Derived.Test.YtbhgfoikbkaohaaQao
set_option linter.unusedSimpArgs false
set_option linter.unusedVariables false
set_option maxHeartbeats 12800000
namespace Go.Pol
open Go.Am Go.Proofs.Ytbhgfoikbkaohaa.Sh
section
variable {q:Sw}
theorem vic_some (hg:D9 q) (hf:q.free=none):∃ v,q.vic=some v:=by
 cases hv:q.vic with
 | some v=>exact ⟨v,rfl⟩
 | none =>
  exfalso
  have hr:=hg.rng
  obtain ⟨p,hp,hF⟩:=BI8 hf q.a (Nat.le_refl _) (by omega)
  have:=(AD5 (w:=q) q.pg).2 hv p hp
  omega
theorem vic_at (hg:D9 q) {v:Nat} (hv:q.vic=some v):v < q.pg∧0≤q.F v:=⟨((AD5 (w:=q) q.pg).1 v hv).1,((AD5 (w:=q) q.pg).1 v hv).2.1⟩
theorem T9 {x:AV} (h:Plain x):∀ y ∈ [x],Plain y:=fun y hy=>by obtain rfl:=List.mem_singleton.1 hy;exact h
theorem I4 {x x2:AV} (h:Plain x) (h2:Plain x2):∀ y ∈ [x,x2],Plain y:=fun y hy=>by
 simp only [List.mem_cons,List.not_mem_nil,or_false] at hy
 rcases hy with rfl|rfl
 ·exact h
 ·exact h2
theorem plain_three {x x2 x3:AV} (h:Plain x) (h2:Plain x2) (h3:Plain x3):∀ y ∈ [x,x2,x3],Plain y:=fun y hy=>by
 simp only [List.mem_cons,List.not_mem_nil,or_false] at hy
 rcases hy with rfl|rfl|rfl
 ·exact h
 ·exact h2
 ·exact h3
theorem emod64 {a:Nat}:((a:Nat):Int) % 64=((a % 64:Nat):Int):=by omega
end
end Go.Pol
namespace Go.Proofs.Ytbhgfoikbkaohaa.Sh
open Go Go.Am Go.Pol
theorem wx_Sxi {p q:Prop} (hq:q) (h:Z5 q→p:=by (intro hQz;((repeat' ((try (conv=>whnf));first|refine sxA ?_|refine AC9 hq64 ?_|refine AC9 hm64 ?_|refine AP2 hW rfl ?_|refine AI8 hW rfl ?_|refine Y7 hW' rfl ?_|refine sxF ?_|refine AL5 w_is rfl rfl rfl rfl rfl (by decide) rfl ?_|refine AL5 hN rfl rfl rfl rfl rfl (by decide) rfl ?_|refine AL5 hT rfl rfl rfl rfl rfl (by decide) rfl ?_|refine Q8 hR rfl (by decide) ?_|refine sxH ?_|((with_reducible first|apply V6 hQz|apply V7 hQz)<;>(try intro hsp hQz))|exact hQz.out))<;>(try (conv=>whnf))))):p:=h ⟨hq⟩
section
variable {q:Sw} {t:WS}
theorem AW5 {f:Nat} {avs:List AV} {q q1 q2:Sw} {t t1:WS} {r:AV} (h:K3 f avs q t r q1 t1) (e:stN q2 t1 0 1 2 3 4=stN q1 t1 0 1 2 3 4):K3 f avs q t r q2 t1:=⟨by rw [e];exact h.out,h.pa,h.pr⟩
theorem BL4 (hg:D9 q) (h:WOk q t) {p:Nat} {now:Int} (hp:p < q.pg):∃ t',K3 32 [.int .i64 (p:Nat),.int .i64 now] q t (.int .i64 (q.touch p now).1) (q.touch p now).2 t'∧WOk (q.touch p now).2 t':=by
 have hrng:=hg.rng
 have hcnt:=hg.cnt
 by_cases hF:0≤q.F p
 ·have e:q.touch p now=(0,{ q with Z:=E8 q.Z p now }):=by unfold Sw.touch;rw [if_pos hF]
  rw [e]
  exact ⟨_,w_touchA hg h hF,BK1 hg h hF now⟩
 ·have hWT:=look_out hg h hF
  have hD:=look_D hg h p
  have hL:=w_free hg h
  cases hfr:q.free with
  | some f =>
   obtain ⟨f1,f2,f3⟩:=AC8 hfr
   have hy:opA q.free=((f:Nat):Int):=by rw [hfr];rfl
   rcases (hg.kind f f1 f2).1 with hk|hk
   ·have hkd:=p_kind (s:=q.s) (a:=(f:Nat))
    rw [BC6 (by omega) hk] at hkd
    have hcom:=p_commit (s:=q.s) (a:=(f:Nat)) (n:=1) hg.good
    obtain ⟨e,s1,hc⟩:∃ e s1,q.s.chg (f:Nat) 1 1 2 2=(e,s1):=⟨_,_,rfl⟩
    have hcw:=comW hg ⟨f1,f2⟩ hk hc
    rw [hc] at hcom
    dsimp only at hcom
    by_cases he:e=0
    ·subst he
     have et:q.touch p now=(0,Sw.brg { q with s:=s1 } p f now (q.got p)):=by unfold Sw.touch;rw [if_neg hF,hfr];dsimp only;rw [if_pos hk,hc,if_pos rfl]
     rw [et]
     refine ⟨_,?_,BK3 hcw.1 (AQ5 h s1) hp hF f3 now (q.got p)⟩
     dsimp only
     rw [brg_R]
     exact w_touchC (by omega) ⟨hcnt.1,hcnt.2.1⟩ hL hy hWT hD rfl hkd hcom fun i=>w_set (q:={ q with s:=s1,ins:=i }) hcw.1.good (by omega) (hcw.2.1 rfl) (q.got p)
    ·have et:q.touch p now=(e,{ q with s:=s1 }):=by unfold Sw.touch;rw [if_neg hF,hfr];dsimp only;rw [if_pos hk,hc,if_neg he]
     rw [et]
     exact ⟨_,w_touchE (by omega) ⟨hcnt.1,hcnt.2.1⟩ hL hy hWT hD rfl hkd hcom he,AQ5 h s1⟩
   ·have hkd:=p_kind (s:=q.s) (a:=(f:Nat))
    rw [BC6 (by omega) hk] at hkd
    have et:q.touch p now=(0,q.brg p f now (q.got p)):=by unfold Sw.touch;rw [if_neg hF,hfr];dsimp only;rw [if_neg (by omega)]
    rw [et]
    refine ⟨_,?_,BK3 hg h hp hF f3 now (q.got p)⟩
    dsimp only
    rw [brg_R0]
    exact w_touchG (by omega) ⟨hcnt.1,hcnt.2.1⟩ hL hy hWT hD rfl hkd fun i=>w_set (q:={ q with ins:=i }) hg.good (by omega) hk (q.got p)
  | none =>
   have hy:opA q.free = -1:=by rw [hfr];rfl
   have hS:=w_slot h hrng.2.2.2.2 (q.T p)
   cases hsl:q.slot (q.T p) with
   | none =>
    rw [hsl] at hS
    have et:q.touch p now=(5,q):=by unfold Sw.touch;rw [if_neg hF,hfr];dsimp only;rw [hsl]
    rw [et]
    exact ⟨_,w_touchF (by omega) ⟨hcnt.1,hcnt.2.1⟩ hL hy hWT hD rfl hS,h⟩
   | some k =>
    rw [hsl] at hS
    obtain ⟨v,hv⟩:=vic_some hg hfr
    obtain ⟨v1,v2⟩:=vic_at hg hv
    obtain ⟨f,f0,f1,f2,f3⟩:=o9 hg v2
    have hV:=Az3 (t:=⟨t.W,mdI t.D (q.T p),t.H⟩) hg h.ww
    rw [hv] at hV
    have hvp:v ≠ p:=fun e=>hF (by rw [← e];exact v2)
    have hWv:=AP6 h.ww (p:=v) (.inl v2)
    rw [f0] at hWv
    have et:q.touch p now=(0,(q.put v k).brg p f now (q.got p)):=by unfold Sw.touch;rw [if_neg hF,hfr];dsimp only;rw [hsl,hv];dsimp only;rw [f0];rfl
    rw [et]
    have hw:=At2 hg h hp hF f0 (AC3 hsl).2 now (q.got p)
    rw [f0,Int.toNat_natCast] at hw
    refine ⟨_,?_,hw⟩
    dsimp only
    rw [put_R hvp]
    have hO:=w_outM (t:=⟨t.W,mdI t.D (q.T p),t.H⟩) (k:=(k:Nat)) hWv (by omega) f3 hcnt.2.2
    have hO2:=AW5 (q2:=q.put v k) hO rfl
    exact w_touchS (q1:=q.put v k) (by omega) ⟨hcnt.1,hcnt.2.1⟩ hL hy hWT hD ⟨hcnt.1,hcnt.2.1⟩ rfl hS hV hO2 hWv fun i=>w_set (q:={ q.put v k with ins:=i }) hg.good (by omega) f3 (q.got p)
section
variable {a f:Nat} {at_ now e e2 v:Int} {q':Sw} {t':WS} {x x' y z:Int}
theorem w_ReadN (hN:K3 31 [.int .i64 at_,.int .i64 now] q t (.bool false) q t):K3 12 [.int .i64 at_,.int .i64 now] q t (.tup [.int .u8 0,.int .i64 7]) q t:=by
 refine K3.mk (G5 F6 b12 rfl ?_) (I4 A8 A8) (F3 (I4 A8 A8))
 unfold c12
 unfold stN stC
 (refine wx_Sxi ?_;repeat' (first|with_reducible refine And.intro ?_ ?_|intro hsp))
 all_goals first|(exfalso;omega)|exact J6 rfl (F3 (I4 A8 A8)) rfl rfl rfl rfl rfl
theorem w_ReadZ (hN:K3 31 [.int .i64 (a:Nat),.int .i64 now] q t (.bool true) q t) (ha:a < 100000) (hW:mgI t.W ((a / 64:Nat):Int)=none):K3 12 [.int .i64 (a:Nat),.int .i64 now] q t (.tup [.int .u8 0,.int .i64 0]) q t:=by
 refine K3.mk (G5 F6 b12 rfl ?_) (I4 A8 A8) (F3 (I4 A8 A8))
 have hq64:=q64 ha
 have hm64:=m64 (t:=a)
 unfold c12
 unfold stN stC
 (refine wx_Sxi ?_;repeat' (first|with_reducible refine And.intro ?_ ?_|intro hsp))
 all_goals first|(exfalso;omega)|exact J6 rfl (F3 (I4 A8 A8)) rfl rfl rfl rfl rfl
theorem w_ReadE (hN:K3 31 [.int .i64 (a:Nat),.int .i64 now] q t (.bool true) q t) (ha:a < 100000) (hW:mgI t.W ((a / 64:Nat):Int)=some (x,y,z)) (hT:K3 32 [.int .i64 ((a / 64:Nat):Int),.int .i64 now] q t (.int .i64 e) q' t') (he:e ≠ 0):K3 12 [.int .i64 (a:Nat),.int .i64 now] q t (.tup [.int .u8 0,.int .i64 e]) q' t':=by
 refine K3.mk (G5 F6 b12 rfl ?_) (I4 A8 A8) (F3 (I4 A8 A8))
 have hq64:=q64 ha
 have hm64:=m64 (t:=a)
 unfold c12
 unfold stN stC
 (refine wx_Sxi ?_;repeat' (first|with_reducible refine And.intro ?_ ?_|intro hsp))
 all_goals first|(exfalso;omega)|exact J6 (q:=q') rfl (F3 (I4 A8 A8)) rfl rfl rfl rfl rfl
theorem w_ReadY {x2:Int} (hN:K3 31 [.int .i64 (a:Nat),.int .i64 now] q t (.bool true) q t) (ha:a < 100000) (hf:f < 1024) (hW:mgI t.W ((a / 64:Nat):Int)=some (x,y,z)) (hT:K3 32 [.int .i64 ((a / 64:Nat):Int),.int .i64 now] q t (.int .i64 0) q' t') (hW':mgI t'.W ((a / 64:Nat):Int)=some (((f:Nat):Int),x2,x'))
  (hR:AD2 33 [.int .i64 (((f:Nat):Int) * 64+((a % 64:Nat):Int))] q'.s.a (.tup [.int .u8 v,.int .i64 e2]) q'.s.a):K3 12 [.int .i64 (a:Nat),.int .i64 now] q t (.tup [.int .u8 v,.int .i64 e2]) q' t':=by
 refine K3.mk (G5 F6 b12 rfl ?_) (I4 A8 A8) (F3 (I4 A8 A8))
 have hq64:=q64 ha
 have hm64:=m64 (t:=a)
 have hml:a % 64 < 64:=Nat.mod_lt _ (by decide)
 unfold c12
 unfold stN stC
 (refine wx_Sxi ?_;repeat' (first|with_reducible refine And.intro ?_ ?_|intro hsp))
 all_goals first|(exfalso;omega)|exact J6 (q:=q') rfl (F3 (I4 A8 A8)) rfl rfl rfl rfl rfl
theorem w_WriteN (hN:K3 31 [.int .i64 at_,.int .i64 now] q t (.bool false) q t):K3 26 [.int .i64 at_,.int .i64 now,.int .u8 v] q t (.int .i64 7) q t:=by
 refine K3.mk (G5 F6 b26 rfl ?_) (plain_three A8 A8 A8) A8
 unfold c26
 unfold stN stC
 (refine wx_Sxi ?_;repeat' (first|with_reducible refine And.intro ?_ ?_|intro hsp))
 all_goals first|(exfalso;omega)|exact J6 rfl A8 rfl rfl rfl rfl rfl
theorem w_WriteE (hN:K3 31 [.int .i64 (a:Nat),.int .i64 now] q t (.bool true) q t) (ha:a < 100000) (hT:K3 32 [.int .i64 ((a / 64:Nat):Int),.int .i64 now] q t (.int .i64 e) q' t') (he:e ≠ 0):K3 26 [.int .i64 (a:Nat),.int .i64 now,.int .u8 v] q t (.int .i64 e) q' t':=by
 refine K3.mk (G5 F6 b26 rfl ?_) (plain_three A8 A8 A8) A8
 have hq64:=q64 ha
 have hm64:=m64 (t:=a)
 unfold c26
 unfold stN stC
 (refine wx_Sxi ?_;repeat' (first|with_reducible refine And.intro ?_ ?_|intro hsp))
 all_goals first|(exfalso;omega)|exact J6 (q:=q') rfl A8 rfl rfl rfl rfl rfl
theorem w_WriteY {s2:Sy} (hN:K3 31 [.int .i64 (a:Nat),.int .i64 now] q t (.bool true) q t) (ha:a < 100000) (hf:f < 1024) (hT:K3 32 [.int .i64 ((a / 64:Nat):Int),.int .i64 now] q t (.int .i64 0) q' t') (hW':mgI t'.W ((a / 64:Nat):Int)=some (((f:Nat):Int),x,x'))
  (hR:AD2 47 [.int .i64 (((f:Nat):Int) * 64+((a % 64:Nat):Int)),.int .u8 v] q'.s.a (.int .i64 e2) s2.a):K3 26 [.int .i64 (a:Nat),.int .i64 now,.int .u8 v] q t (.int .i64 e2) { q' with s:=s2 } t':=by
 refine K3.mk (G5 F6 b26 rfl ?_) (plain_three A8 A8 A8) A8
 have hq64:=q64 ha
 have hm64:=m64 (t:=a)
 have hml:a % 64 < 64:=Nat.mod_lt _ (by decide)
 unfold c26
 unfold stN stC
 (refine wx_Sxi ?_;repeat' (first|with_reducible refine And.intro ?_ ?_|intro hsp))
 all_goals first|(exfalso;omega)|exact J6 (q:={ q' with s:=s2 }) rfl A8 rfl rfl rfl rfl rfl
end
end
end Go.Proofs.Ytbhgfoikbkaohaa.Sh
namespace Go.Pol
open Go.Am Go.Proofs.Ytbhgfoikbkaohaa.Sh
theorem Av9 {β:Type} {k:Int}:∀ {L:List (Int × β)},mgI L k=none→mdI L k=L
 | [],_=>rfl
 | e::L,h=>by
  unfold mgI at h
  split at h
  ·cases h
  ·rename_i hne
   unfold mdI
   rw [if_neg hne,Av9 h]
section
variable {q:Sw} {t:WS}
theorem md_D (h:WOk q t) {k:Int} (hk:k < 0):mdI t.D k=t.D:=Av9 (Aa4 h hk)
theorem md_H (h:WOk q t) {k:Int} (hk:k < 0):mdI t.H k=t.H:=Av9 (Af3 h hk)
end
end Go.Pol
namespace Go.Proofs.Ytbhgfoikbkaohaa.Sh
open Go Go.Am Go.Pol
theorem wx_Sxj {p q:Prop} (hq:q) (h:Z5 q→p:=by (intro hQz;((repeat' ((try (conv=>whnf));first|refine sxA ?_|refine AP2 hW rfl ?_|refine AI8 hW rfl ?_|refine sxF ?_|refine AL5 w_is rfl rfl rfl rfl rfl (by decide) rfl ?_|refine AL5 hS rfl rfl rfl rfl rfl (by decide) rfl ?_|refine AL5 hV rfl rfl rfl rfl rfl (by decide) rfl ?_|refine sxH ?_|((with_reducible first|apply V6 hQz|apply V7 hQz)<;>(try intro hsp hQz))|exact hQz.out))<;>(try (conv=>whnf))))):p:=h ⟨hq⟩
theorem wx_Sxjn {p q:Prop} (hq:q) (h:Z5 q→p:=by (intro hQz;((repeat' ((try (conv=>whnf));first|refine sxA ?_|refine AI8 hW rfl ?_|refine BS2 rfl ?_|refine sxN ?_|refine AL5 w_is rfl rfl rfl rfl rfl (by decide) rfl ?_|refine AL5 hS rfl rfl rfl rfl rfl (by decide) rfl ?_|refine AL5 hO rfl rfl rfl rfl rfl (by decide) rfl ?_|refine AQ0 hdec rfl rfl ?_|refine Q8 hdec rfl (by decide) ?_|refine sxH ?_|((with_reducible first|apply V6 hQz|apply V7 hQz)<;>(try intro hsp hQz))|exact hQz.out))<;>(try (conv=>whnf))))):p:=h ⟨hq⟩
section
variable {q:Sw} {t:WS}
theorem Az4 (hg:D9 q) (h:WOk q t) (at_ now:Int):∃ t',K3 12 [.int .i64 at_,.int .i64 now] q t (.tup [.int .u8 (q.read at_ now).1,.int .i64 (q.read at_ now).2.1]) (q.read at_ now).2.2 t'∧WOk (q.read at_ now).2.2 t':=by
 have hrng:=hg.rng
 have hN:=Am4 (q:=q) (t:=t) hrng.2.2.2.1 at_ now
 by_cases hn:q.nums at_ now
 ·rw [decide_eq_true hn] at hN
  obtain ⟨n1,n2,n3,n4⟩:=hn
  obtain ⟨a,rfl⟩:=Int.eq_ofNat_of_zero_le n1
  have ha:a < 100000:=by omega
  by_cases hi:q.is (a / 64)
  ·obtain ⟨t',hT,hO⟩:=BL4 hg h (p:=a / 64) (now:=now) (by omega)
   by_cases he:(q.touch (a / 64) now).1=0
   ·have er:q.read (a:Nat) now=(((q.touch (a / 64) now).2.s.read ((q.touch (a / 64) now).2.F (a / 64) * 64+((a:Nat):Int) % 64)).1,((q.touch (a / 64) now).2.s.read ((q.touch (a / 64) now).2.F (a / 64) * 64+((a:Nat):Int) % 64)).2,(q.touch (a / 64) now).2):=by
     unfold Sw.read
     rw [if_neg (Classical.not_not.2 ⟨n1,n2,n3,n4⟩),Int.toNat_natCast,if_neg (Classical.not_not.2 hi),if_pos he]
    rw [er]
    refine ⟨t',?_,hO⟩
    rcases AD6 hg (p:=a / 64) now with hy|hno
    ·have hg2:=X4 hg (p:=a / 64) (now:=now) (by omega) ⟨n3,n4⟩
     rw [he] at hT
     obtain ⟨f,f0,f1,f2,_⟩:=o9 hg2 hy.fr
     have hr2:=hg2.rng
     have hW':=AP6 hO.ww (p:=a / 64) (.inl hy.fr)
     rw [f0] at hW'
     have hR:=p_read (s:=(q.touch (a / 64) now).2.s) (a:=((f:Nat):Int) * 64+((a % 64:Nat):Int))
     dsimp only
     rw [f0,emod64]
     exact w_ReadY hN ha (by omega) (AP6 h.ww hi) hT hW' hR
    ·exact absurd he hno.e
   ·have er:q.read (a:Nat) now=(0,(q.touch (a / 64) now).1,(q.touch (a / 64) now).2):=by
     unfold Sw.read
     rw [if_neg (Classical.not_not.2 ⟨n1,n2,n3,n4⟩),Int.toNat_natCast,if_neg (Classical.not_not.2 hi),if_neg he]
    rw [er]
    exact ⟨t',w_ReadE hN ha (AP6 h.ww hi) hT he,hO⟩
  ·have er:q.read (a:Nat) now=(0,0,q):=by
    unfold Sw.read
    rw [if_neg (Classical.not_not.2 ⟨n1,n2,n3,n4⟩),Int.toNat_natCast,if_pos hi]
   rw [er]
   exact ⟨t,w_ReadZ hN ha (BU4 h.ww hi),h⟩
 ·have er:q.read at_ now=(0,7,q):=by unfold Sw.read;rw [if_pos hn]
  rw [er]
  rw [decide_eq_false hn] at hN
  exact ⟨t,w_ReadN hN,h⟩
theorem AX6 (hg:D9 q) (h:WOk q t) (at_ now v:Int):∃ t',K3 26 [.int .i64 at_,.int .i64 now,.int .u8 v] q t (.int .i64 (q.write at_ now v).1) (q.write at_ now v).2 t'∧WOk (q.write at_ now v).2 t':=by
 have hrng:=hg.rng
 have hN:=Am4 (q:=q) (t:=t) hrng.2.2.2.1 at_ now
 by_cases hn:q.nums at_ now
 ·rw [decide_eq_true hn] at hN
  obtain ⟨n1,n2,n3,n4⟩:=hn
  obtain ⟨a,rfl⟩:=Int.eq_ofNat_of_zero_le n1
  have ha:a < 100000:=by omega
  obtain ⟨t',hT,hO⟩:=BL4 hg h (p:=a / 64) (now:=now) (by omega)
  by_cases he:(q.touch (a / 64) now).1=0
  ·have er:q.write (a:Nat) now v=(q.touch (a / 64) now).2.byte (a:Nat) v:=by
    unfold Sw.write
    rw [if_neg (Classical.not_not.2 ⟨n1,n2,n3,n4⟩),Int.toNat_natCast,if_pos he]
   rw [er]
   refine ⟨t',?_,AQ5 hO _⟩
   rcases AD6 hg (p:=a / 64) now with hy|hno
   ·have hg2:=X4 hg (p:=a / 64) (now:=now) (by omega) ⟨n3,n4⟩
    rw [he] at hT
    obtain ⟨f,f0,f1,f2,_⟩:=o9 hg2 hy.fr
    have hr2:=hg2.rng
    have hW':=AP6 hO.ww (p:=a / 64) (.inl hy.fr)
    rw [f0] at hW'
    have hR:=BR3 (s:=(q.touch (a / 64) now).2.s) (a:=((f:Nat):Int) * 64+((a % 64:Nat):Int)) (b:=v)
    unfold Sw.byte
    dsimp only
    rw [Int.toNat_natCast,f0,emod64]
    exact w_WriteY hN ha (by omega) hT hW' hR
   ·exact absurd he hno.e
  ·have er:q.write (a:Nat) now v=q.touch (a / 64) now:=by
    unfold Sw.write
    rw [if_neg (Classical.not_not.2 ⟨n1,n2,n3,n4⟩),Int.toNat_natCast,if_neg he]
   rw [er]
   exact ⟨t',w_WriteE hN ha hT he,hO⟩
 ·have er:q.write at_ now v=(7,q):=by unfold Sw.write;rw [if_pos hn]
  rw [er]
  rw [decide_eq_false hn] at hN
  exact ⟨t,w_WriteN hN,h⟩
section
variable {p e z x:Int} {f k:Nat} {q1:Sw} {t1:WS} {s2:Sy}
theorem w_OutR (hpg:q.pg≤256) (hp:p < 0∨(q.pg:Nat)≤p):K3 27 [.int .i64 p] q t (.int .i64 7) q t:=by
 refine K3.mk (G5 F6 b27 rfl ?_) (T9 A8) A8
 unfold c27
 unfold stN stC
 (refine wx_Sxj ?_;repeat' (first|with_reducible refine And.intro ?_ ?_|intro hsp))
 all_goals first|(exfalso;omega)|exact J6 rfl A8 rfl rfl rfl rfl rfl
theorem w_OutO (hp:0≤p∧p < (q.pg:Nat)) (hW:mgI t.W p=none):K3 27 [.int .i64 p] q t (.int .i64 4) q t:=by
 refine K3.mk (G5 F6 b27 rfl ?_) (T9 A8) A8
 unfold c27
 unfold stN stC
 (refine wx_Sxj ?_;repeat' (first|with_reducible refine And.intro ?_ ?_|intro hsp))
 all_goals first|(exfalso;omega)|exact J6 rfl A8 rfl rfl rfl rfl rfl
theorem w_OutP (hp:0≤p∧p < (q.pg:Nat)) (hW:mgI t.W p=some (e,x,z)) (he:e < 0):K3 27 [.int .i64 p] q t (.int .i64 4) q t:=by
 refine K3.mk (G5 F6 b27 rfl ?_) (T9 A8) A8
 unfold c27
 unfold stN stC
 (refine wx_Sxj ?_;repeat' (first|with_reducible refine And.intro ?_ ?_|intro hsp))
 all_goals first|(exfalso;omega)|exact J6 rfl A8 rfl rfl rfl rfl rfl
theorem w_OutF (hp:0≤p∧p < (q.pg:Nat)) (hW:mgI t.W p=some (((f:Nat):Int),x,z)) (hS:K3 48 [.int .i64 (-1)] q t (.int .i64 (-1)) q t):K3 27 [.int .i64 p] q t (.int .i64 5) q t:=by
 refine K3.mk (G5 F6 b27 rfl ?_) (T9 A8) A8
 unfold c27
 unfold stN stC
 (refine wx_Sxj ?_;repeat' (first|with_reducible refine And.intro ?_ ?_|intro hsp))
 all_goals first|(exfalso;omega)|exact J6 rfl A8 rfl rfl rfl rfl rfl
theorem w_OutY (hp:0≤p∧p < (q.pg:Nat)) (hW:mgI t.W p=some (((f:Nat):Int),x,z)) (hS:K3 48 [.int .i64 (-1)] q t (.int .i64 (k:Nat)) q t) (hO:K3 49 [.int .i64 p,.int .i64 (k:Nat)] q t (.tup []) q1 t1)
  (hdec:AD2 46 [.int .i64 (f:Nat),.int .i64 1] q1.s.a (.int .i64 e) s2.a):K3 27 [.int .i64 p] q t (.int .i64 0) { q1 with s:=s2 } t1:=by
 refine K3.mk (G5 F6 b27 rfl ?_) (T9 A8) A8
 unfold c27
 unfold stN stC
 (refine wx_Sxjn ?_;repeat' (first|with_reducible refine And.intro ?_ ?_|intro hsp))
 all_goals first|(exfalso;omega)|exact J6 (q:={ q1 with s:=s2 }) rfl A8 rfl rfl rfl rfl rfl
theorem w_FreeR (hpg:q.pg≤256) (hp:p < 0∨(q.pg:Nat)≤p):K3 25 [.int .i64 p] q t (.int .i64 7) q t:=by
 refine K3.mk (G5 F6 b25 rfl ?_) (T9 A8) A8
 unfold c25
 unfold stN stC
 (refine wx_Sxj ?_;repeat' (first|with_reducible refine And.intro ?_ ?_|intro hsp))
 all_goals first|(exfalso;omega)|exact J6 rfl A8 rfl rfl rfl rfl rfl
theorem w_FreeO (hp:0≤p∧p < (q.pg:Nat)) (hW:mgI t.W p=none):K3 25 [.int .i64 p] q t (.int .i64 4) q t:=by
 refine K3.mk (G5 F6 b25 rfl ?_) (T9 A8) A8
 unfold c25
 unfold stN stC
 (refine wx_Sxj ?_;repeat' (first|with_reducible refine And.intro ?_ ?_|intro hsp))
 all_goals first|(exfalso;omega)|exact J6 rfl A8 rfl rfl rfl rfl rfl
theorem w_FreeS (hp:0≤p∧p < (q.pg:Nat)) (hW:mgI t.W p=some (e,x,z)) (he:e < 0):K3 25 [.int .i64 p] q t (.int .i64 0) q ⟨mdI t.W p,mdI t.D x,t.H⟩:=by
 refine K3.mk (G5 F6 b25 rfl ?_) (T9 A8) A8
 unfold c25
 unfold stN stC
 (refine wx_Sxjn ?_;repeat' (first|with_reducible refine And.intro ?_ ?_|intro hsp))
 all_goals first|(exfalso;omega)|exact J6 (q:=q) (t:=⟨mdI t.W p,mdI t.D x,t.H⟩) rfl A8 rfl rfl rfl rfl rfl
theorem w_FreeF (hp:0≤p∧p < (q.pg:Nat)) (hW:mgI t.W p=some (((f:Nat):Int),x,z)) (hdec:AD2 46 [.int .i64 (f:Nat),.int .i64 1] q.s.a (.int .i64 e) s2.a):K3 25 [.int .i64 p] q t (.int .i64 0) { q with s:=s2 } ⟨mdI t.W p,t.D,mdI t.H (f:Nat)⟩:=by
 refine K3.mk (G5 F6 b25 rfl ?_) (T9 A8) A8
 unfold c25
 unfold stN stC
 (refine wx_Sxjn ?_;repeat' (first|with_reducible refine And.intro ?_ ?_|intro hsp))
 all_goals first|(exfalso;omega)|exact J6 (q:={ q with s:=s2 }) (t:=⟨mdI t.W p,t.D,mdI t.H (f:Nat)⟩) rfl A8 rfl rfl rfl rfl rfl
theorem BL6 (hV:K3 36 [] q t (.int .i64 (-1)) q t):K3 15 [] q t (.tup [.int .i64 0,.int .i64 4]) q t:=by
 refine K3.mk (G5 F6 b15 rfl ?_) (fun x hx=>by cases hx) (F3 (I4 A8 A8))
 unfold c15
 unfold stN stC
 (refine wx_Sxj ?_;repeat' (first|with_reducible refine And.intro ?_ ?_|intro hsp))
 all_goals first|(exfalso;omega)|exact J6 rfl (F3 (I4 A8 A8)) rfl rfl rfl rfl rfl
theorem BL5 {v:Nat} (hV:K3 36 [] q t (.int .i64 (v:Nat)) q t):K3 15 [] q t (.tup [.int .i64 (v:Nat),.int .i64 0]) q t:=by
 refine K3.mk (G5 F6 b15 rfl ?_) (fun x hx=>by cases hx) (F3 (I4 A8 A8))
 unfold c15
 unfold stN stC
 (refine wx_Sxj ?_;repeat' (first|with_reducible refine And.intro ?_ ?_|intro hsp))
 all_goals first|(exfalso;omega)|exact J6 rfl (F3 (I4 A8 A8)) rfl rfl rfl rfl rfl
end
theorem w_Victim (hg:D9 q) (h:WOk q t):K3 15 [] q t (.tup [.int .i64 (match q.vic with|some v=>(v:Nat)|none=>0),.int .i64 (match q.vic with|some _=>0|none=>4)]) q t:=by
 have hV:=Az3 hg h.ww
 cases hv:q.vic with
 | none=>rw [hv] at hV;exact BL6 hV
 | some v=>rw [hv] at hV;exact BL5 hV
theorem w_Out (hg:D9 q) (h:WOk q t) (p:Int):∃ t',K3 27 [.int .i64 p] q t (.int .i64 (q.out p).1) (q.out p).2 t'∧WOk (q.out p).2 t':=by
 have hrng:=hg.rng
 have hcnt:=hg.cnt
 by_cases hp:0≤p∧p < (q.pg:Nat)
 ·obtain ⟨n,rfl⟩:=Int.eq_ofNat_of_zero_le hp.1
  by_cases hF:q.F n < 0
  ·have er:q.out (n:Nat)=(4,q):=by unfold Sw.out;rw [if_neg (Classical.not_not.2 hp),Int.toNat_natCast,if_pos hF]
   rw [er]
   refine ⟨t,?_,h⟩
   by_cases hi:q.is n
   ·exact w_OutP hp (AP6 h.ww hi) hF
   ·exact w_OutO hp (BU4 h.ww hi)
  ·obtain ⟨f,f0,f1,f2,f3⟩:=o9 hg (p:=n) (by omega)
   have hW:=AP6 h.ww (p:=n) (.inl (by omega))
   rw [f0] at hW
   have hS:=w_slot h hrng.2.2.2.2 (-1)
   cases hsl:q.slot (-1) with
   | none =>
    have er:q.out (n:Nat)=(5,q):=by unfold Sw.out;rw [if_neg (Classical.not_not.2 hp),Int.toNat_natCast,if_neg hF,hsl]
    rw [er]
    rw [hsl] at hS
    exact ⟨t,w_OutF hp hW hS,h⟩
   | some k =>
    have er:q.out (n:Nat)=(0,(q.put n k).gone (q.F n)):=by unfold Sw.out;rw [if_neg (Classical.not_not.2 hp),Int.toNat_natCast,if_neg hF,hsl]
    rw [er]
    rw [hsl] at hS
    have hO:=AW5 (q2:=q.put n k) (w_outM (k:=(k:Nat)) hW (by omega) f3 hcnt.2.2) rfl
    have hdec:=Ae3 (s:=(q.put n k).s) (a:=(f:Nat)) (n:=1) hg.good
    have hk:=(AC3 hsl).2.resolve_left (by omega)
    refine ⟨_,?_,AQ5 (wok_out hg h f0 hk) _⟩
    dsimp only
    rw [f0]
    exact w_OutY hp hW hS hO hdec
 ·have er:q.out p=(7,q):=by unfold Sw.out;rw [if_pos hp]
  rw [er]
  exact ⟨t,w_OutR hrng.2.2.2.1 (by omega),h⟩
theorem w_Free (hg:D9 q) (h:WOk q t) (p:Int):∃ t',K3 25 [.int .i64 p] q t (.int .i64 (q.fre p).1) (q.fre p).2 t'∧WOk (q.fre p).2 t':=by
 have hrng:=hg.rng
 by_cases hp:0≤p∧p < (q.pg:Nat)
 ·obtain ⟨n,rfl⟩:=Int.eq_ofNat_of_zero_le hp.1
  by_cases hi:q.is n
  ·have hW:=AP6 h.ww hi
   have hwo:=wok_fre hg h hi
   by_cases hF:0≤q.F n
   ·obtain ⟨f,f0,f1,f2,f3⟩:=o9 hg (p:=n) hF
    have er:q.fre (n:Nat)=(0,Sw.gone { q with F:=E8 q.F n (-1),T:=E8 q.T n (-1),Z:=E8 q.Z n 0 } (q.F n)):=by unfold Sw.fre;rw [if_neg (Classical.not_not.2 hp),Int.toNat_natCast,if_neg (Classical.not_not.2 hi),if_pos hF]
    rw [er]
    have hT:q.T n < 0:=by rcases Ac3 hg n with h1 | ⟨h1,_⟩<;>omega
    rw [f0] at hW
    rw [f0,md_D h hT] at hwo
    have hdec:=Ae3 (s:=q.s) (a:=(f:Nat)) (n:=1) hg.good
    refine ⟨_,?_,AQ5 hwo _⟩
    dsimp only
    rw [f0]
    exact AW5 (w_FreeF hp hW hdec) rfl
   ·have er:q.fre (n:Nat)=(0,{ q with F:=E8 q.F n (-1),T:=E8 q.T n (-1),Z:=E8 q.Z n 0 }):=by unfold Sw.fre;rw [if_neg (Classical.not_not.2 hp),Int.toNat_natCast,if_neg (Classical.not_not.2 hi),if_neg hF]
    rw [er]
    rw [md_H h (by omega)] at hwo
    exact ⟨_,AW5 (w_FreeS hp hW (by omega)) rfl,hwo⟩
  ·have er:q.fre (n:Nat)=(4,q):=by unfold Sw.fre;rw [if_neg (Classical.not_not.2 hp),Int.toNat_natCast,if_pos hi]
   rw [er]
   exact ⟨t,w_FreeO hp (BU4 h.ww hi),h⟩
 ·have er:q.fre p=(7,q):=by unfold Sw.fre;rw [if_pos hp]
  rw [er]
  exact ⟨t,w_FreeR hrng.2.2.2.1 (by omega),h⟩
end
end Go.Proofs.Ytbhgfoikbkaohaa.Sh
namespace Go.Proofs.Ytbhgfoikbkaohaa.Sh
open Go Go.Am Go.Pol
open Go.Proofs.Ytbhgfoikbkaohaa.Sh renaming plx_Sxc → plx
open Go.Proofs.Ytbhgfoikbkaohaa.Sh renaming ppx_Sxc → ppx
section
variable {q:Sw} {t:WS}
end
end Go.Proofs.Ytbhgfoikbkaohaa.Sh
namespace Go.Proofs.Ytbhgfoikbkaohaa
open Go Go.Am Go.Pol
theorem BL0 {α:Type} {f:α→List AV} {σ:Nat→Nat} {h h':Hp} {d n sz:Nat} {L:List α} (hf:∀ x,(f x).length=sz) (hp:∀ c,∀ x ∈ f c,Plain x) (hn:L.length=n) (hi:L.length ≠ 0→lk h.l d=some (.cells (flat f L))) (hi':∀ j o,lk h'.l j=some o→σ j ≠ d) (hs:AN2 σ h h'):WkV Try.prog σ h h' (Al7 d sz n) (.isl (L.map f)):=by
 subst hn
 by_cases hz:L.length=0
 ·rw [hz,own_z]
  cases List.eq_nil_of_length_eq_zero hz
  exact BK8
 ·rw [Av1 hz]
  refine BL1 (hi hz) hi' hs (by simp) (fun e he=>?_) ?_ fun e he x hx=>?_
  ·obtain ⟨s,_,rfl⟩:=List.mem_map.1 he;exact hf s
  ·rw [List.drop_zero,List.take_of_length_le (by rw [AW7 hf];exact Nat.le_refl _)];rfl
  ·obtain ⟨s,_,rfl⟩:=List.mem_map.1 he;exact hp s x hx
end Go.Proofs.Ytbhgfoikbkaohaa
namespace Go.Pol
open Go.Am Go.Proofs.Ytbhgfoikbkaohaa.Sh
def swA (x:Int × Int × Int × Int):List AV:=[.int .i64 x.1,.int .i64 x.2.1,.int .i64 x.2.2.1,.int .i64 x.2.2.2]
def swD (x:Int × (Nat→Int)):List AV:=.int .i64 x.1::bcA x.2
theorem AY0 (x:Int × Int × Int × Int):(swA x).length=4:=rfl
theorem At8 (x:Int × (Nat→Int)):(swD x).length=65:=by unfold swD;rw [List.length_cons,AB7]
theorem Y6 (x:Int × Int × Int × Int):∀ y ∈ swA x,Plain y:=fun y hy=>by
 simp only [swA,List.mem_cons,List.not_mem_nil,or_false] at hy
 rcases hy with rfl|rfl|rfl|rfl<;>exact A8
theorem AG0 (x:Int × (Nat→Int)):∀ y ∈ swD x,Plain y:=fun y hy=>by
 rcases List.mem_cons.1 hy with rfl|hy
 ·exact A8
 ·exact AJ5 y hy
def whE (w:Sw) (p:Nat):Int × Int × Int × Int:=((p:Nat),w.F p,w.T p,w.Z p)
def dkE (w:Sw) (k:Nat):Int × (Nat→Int):=((k:Nat),w.D k)
def Sw.slots (w:Sw):List Nat:=(List.range w.sl).filter fun k=>decide (w.heldT k)
def Sw.whr (w:Sw):List (Int × Int × Int × Int):=w.pages.map (whE w)
def Sw.dsk (w:Sw):List (Int × (Nat→Int)):=w.slots.map (dkE w)
section
variable {w:Sw} {t:WS}
theorem whr_0:w.whr.take 0=[]:=rfl
theorem dsk_0:w.dsk.take 0=[]:=rfl
theorem whr_s {j:Nat} (h:j < w.pages.length):w.whr.take (j+1)=w.whr.take j++[whE w (nth 0 w.pages j)]:=by
 unfold Sw.whr
 rw [← List.map_take,← List.map_take,AN7 (d:=0) h,List.map_append];rfl
theorem dsk_s {j:Nat} (h:j < w.slots.length):w.dsk.take (j+1)=w.dsk.take j++[dkE w (nth 0 w.slots j)]:=by
 unfold Sw.dsk
 rw [← List.map_take,← List.map_take,AN7 (d:=0) h,List.map_append];rfl
theorem whr_all:w.whr.take w.pages.length=w.whr:=by unfold Sw.whr;rw [← List.map_take,List.take_length]
theorem dsk_all:w.dsk.take w.slots.length=w.dsk:=by unfold Sw.dsk;rw [← List.map_take,List.take_length]
theorem O6:w.whr.length=w.pages.length:=List.length_map ..
theorem dsk_len:w.dsk.length=w.slots.length:=List.length_map ..
theorem BM2 {α:Type} {l:List α} {j:Nat}:(l.take j).length≤l.length:=by rw [List.length_take];omega
theorem AY3 (hg:D9 w) {k:Nat}:k ∈ w.slots ↔ w.heldT k:=by
 unfold Sw.slots
 rw [List.mem_filter,decide_eq_true_eq,List.mem_range]
 refine ⟨fun h=>h.2,fun h=>⟨?_,h⟩⟩
 obtain ⟨p,hp,hT⟩:=h
 rcases hg.sl p with h1 | ⟨_,k2,h2,h3⟩
 ·omega
 ·omega
theorem slots_up:w.slots.Pairwise (· < ·):=List.pairwise_lt_range.filter _
theorem BN7:(w.slots.map fun p=>((p:Nat):Int)).Pairwise (· < ·):=List.Pairwise.map (R:=fun a b=>a < b) _ (fun a b hab=>by omega) slots_up
theorem Ad8 (hg:D9 w) (h:WOk w t):(t.D.map (·.1)).Perm (w.slots.map fun p=>((p:Nat):Int)):=by
 refine (List.perm_ext_iff_of_nodup h.ndD ?_).2 fun k=>?_
 ·exact List.Pairwise.map (R:=fun a b=>a ≠ b) _ (fun a b hab e=>hab (by omega)) (List.nodup_range.filter _:w.slots.Nodup)
 ·rw [Ai6,List.mem_map]
  constructor
  ·rintro ⟨v,hv⟩
   rw [h.gD] at hv
   split at hv
   ·rename_i hk
    exact ⟨k.toNat,(AY3 hg).2 hk.2,by omega⟩
   ·cases hv
  ·rintro ⟨p,hp,rfl⟩
   obtain ⟨p2,_,hT⟩:=(AY3 hg).1 hp
   exact ⟨_,AU8 hg h hT⟩
theorem gD_at (hg:D9 w) (h:WOk w t) {k:Nat} (hk:w.heldT k):mgI t.D (k:Nat)=some (w.D k):=by
 obtain ⟨p2,_,hT⟩:=hk
 exact AU8 hg h hT
theorem BN8 (hg:D9 w):w.slots.length≤256:=by
 have h2:w.slots.length≤w.sl:=Nat.le_trans (List.length_filter_le ..) (by rw [List.length_range];exact Nat.le_refl _)
 have:=hg.rng;omega
theorem AA3 (hg:D9 w):w.pages.length≤256:=by
 have h2:w.pages.length≤w.pg:=Nat.le_trans (List.length_filter_le ..) (by rw [List.length_range];exact Nat.le_refl _)
 have:=hg.rng;omega
def X6 (a n pg sl:Int) (W:List (Int × Int × Int × Int)) (D:List (Int × (Nat→Int))) (i o:Int):List AV:=[.int .i64 a,.int .i64 n,.int .i64 pg,.int .i64 sl,.isl (W.map swA),.isl (D.map swD),.int .i64 i,.int .i64 o]
def Sw.save (w:Sw):List AV:=X6 (w.a:Nat) (w.n:Nat) (w.pg:Nat) (w.sl:Nat) w.whr w.dsk w.ins w.outs
theorem X8 {a n pg sl:Int} {W:List (Int × Int × Int × Int)} {D:List (Int × (Nat→Int))} {i o:Int}:∀ x ∈ X6 a n pg sl W D i o,Plain x:=fun x hx=>by
 simp only [X6,List.mem_cons,List.not_mem_nil,or_false] at hx
 rcases hx with rfl|rfl|rfl|rfl|rfl|rfl|rfl|rfl
 ·exact A8
 ·exact A8
 ·exact A8
 ·exact A8
 ·exact X9 Y6
 ·exact X9 AG0
 ·exact A8
 ·exact A8
theorem BQ7 {a b c d e f:Int}:Plain (.agg [.int .i64 a,.int .i64 b,.int .i64 c,.int .i64 d,.nils,.nils,.int .i64 e,.int .i64 f]):=I5 fun x hx=>by
 simp only [List.mem_cons,List.not_mem_nil,or_false] at hx
 rcases hx with rfl|rfl|rfl|rfl|rfl|rfl|rfl|rfl<;>first|exact A8|exact p9
theorem not_of {σ:Nat→Nat} {l:List (Nat × AObj)} {d:Nat} (h:∀ q ∈ l,σ q.1 ≠ d):∀ j o,lk l j=some o→σ j ≠ d:=fun j o hj=>by
 induction l with
 | nil=>cases hj
 | cons q l ih =>
  simp only [lk] at hj
  split at hj
  ·rename_i e;subst e;exact h q (List.mem_cons_self ..)
  ·exact ih (fun q hq=>h q (List.mem_cons_of_mem _ hq)) hj
end
end Go.Pol
namespace Go.Proofs.Ytbhgfoikbkaohaa.Sh
open Go Go.Am Go.Pol
theorem plx_Sxl {p:Prop} (h:p:=by ((first|exact plw|(with_reducible first|apply U2|apply G6 _|apply G8 _|apply G7 _|apply AE0|apply X9 Y6|apply X9 AG0|apply p9|apply BQ7|fail)|fail);first|done|fail)):p:=h
open Go.Proofs.Ytbhgfoikbkaohaa.Sh renaming plx_Sxl → plx
open Go.Proofs.Ytbhgfoikbkaohaa.Sh renaming ppx_Sxc → ppx
theorem wx_Sxl {p q:Prop} (hq:q) (h:Z5 q→p:=by (intro hQz;((repeat' ((try (conv=>whnf));first|(with_reducible first|refine M5 ?_|refine J4 ?_|refine M8 ?_|refine N7 ?_|refine J9 ?_|refine R9 ?_|refine M0 ?_|refine R8 rfl ?_|refine M4 ?_|refine H9 ?_|refine J7 ?_|refine J8 ?_|refine M9 ?_|refine H8 ?_|refine J5 (by decide +kernel) ?_|refine I8 (by decide +kernel) ?_|refine AF5 ?_|refine AF6 ?_|refine As9 ?_|refine l5 ?_|refine AK7 ?_|refine Al8 (by assumption) ?_|refine Al9 (by assumption) ?_|refine j5 (by omega) ?_|refine AK6 ?_)|((with_reducible refine AK8 ?_ ?_);focus omega)|((with_reducible refine AK9 ?_ ?_);focus omega)|((with_reducible apply V6 hQz)<;>(try intro hsp hQz))|((with_reducible refine As7 ?_ ?_);focus (first|omega|rfl|assumption|decide|(simp only [List.length_map,List.length_cons,List.length_nil];omega)|exact hmk|exact hmk2|(simp only [List.length_cons];omega)))|refine AC9 (hmk) ?_|refine AC9 (hmk2) ?_|(with_reducible first|refine AK3 ?_|refine j4 ?_|refine d9 ?_|refine AK5 ?_|refine AK4 ?_|refine AK1 ?_|refine As6 ?_|refine H6 ?_|refine Z7 ?_|refine M7 ?_|refine M6 ?_|refine H7 ?_|refine AK2 (by omega) ?_|refine Z9 (by omega) ?_)|refine mlen_i rfl ?_|refine BF1 rfl rfl (by omega) ?_|refine K7 hS ?_|refine Y7 hgp rfl ?_|refine mlook_by hgd hy rfl ?_|refine AE9 (by omega) List.drop_zero (AD7 (by omega) (y_take hyl) ?_)|refine ⟨hyl,?_⟩|refine AE1 (by first|(simp only [List.length_replicate];omega)|fail) (over_y hyl) ?_|refine AE1 (by first|(simp only [List.length_cons,List.length_nil];omega)|fail) (over_y1 hyl) ?_|refine sxF ?_|refine cx_so G9 hs rfl (by decide) ?_|refine Ak4 F6 rfl hF hA hB rfl ?_|refine BF0 (f:=swA) (l2:=[(((p:Nat):Int),q.F p,q.T p,q.Z p)]) AY0 (BA1 rfl (by first|rfl|(simp;done)|(simp [*];done))) (fun hz=>by first|(simp [lk,AU6,AS2 hz,Z0 hz];done)|rfl) (fun hz=>by first|(simp [lk,AU6,BS4,lk_tN hz,BS5 hz];done)|rfl) (by first|rfl|(simp [flat,swA];done)|(simp [flat,swA, *];done)) (by decide) ⟨by omega,by omega⟩ rfl ?_|((with_reducible apply appx_q hQz);intro hQa hQb;refine BE9 (f:=swA) (l2:=[(((p:Nat):Int),q.F p,q.T p,q.Z p)]) AY0 (BA1 rfl (by first|rfl|(simp;done)|(simp [*];done))) (fun hz=>by first|(simp [lk,AU6,AS2 hz,Z0 hz];done)|rfl) (by first|rfl|(simp [flat,swA];done)|(simp [flat,swA, *];done)) (by decide) ⟨by omega,by omega⟩ ?_ ?_<;>intro hzz<;>first|(have hQz:=Z5.mk (hQa.out hzz))|(have hQz:=Z5.mk (hQb.out hzz)))|refine Ak4 F6 rfl hF2 hA2 hB2 rfl ?_|refine BF0 (f:=swD) (l2:=[(((p:Nat):Int),q.D p)]) At8 (BA1 rfl (by first|rfl|(simp;done)|(simp [*];done))) (fun hz=>by first|(simp [lk,AU6,AS2 hz,Z0 hz];done)|rfl) (fun hz=>by first|(simp [lk,AU6,BS4,lk_tN hz,BS5 hz];done)|rfl) (by first|rfl|(simp [flat,swD];done)|(simp [flat,swD, *];done)) (by decide) ⟨by omega,by omega⟩ rfl ?_|((with_reducible apply appx_q hQz);intro hQa hQb;refine BE9 (f:=swD) (l2:=[(((p:Nat):Int),q.D p)]) At8 (BA1 rfl (by first|rfl|(simp;done)|(simp [*];done))) (fun hz=>by first|(simp [lk,AU6,AS2 hz,Z0 hz];done)|rfl) (by first|rfl|(simp [flat,swD];done)|(simp [flat,swD, *];done)) (by decide) ⟨by omega,by omega⟩ ?_ ?_<;>intro hzz<;>first|(have hQz:=Z5.mk (hQa.out hzz))|(have hQz:=Z5.mk (hQb.out hzz)))|refine AL5 w_is rfl rfl rfl rfl rfl (by decide) rfl ?_|(refine AA9 F6 b34 rfl ?_;unfold c34)|(refine AA9 F6 b35 rfl ?_;unfold c35)|refine sxH ?_|((with_reducible apply V7 hQz)<;>(try intro hsp hQz))|exact hQz.out))<;>(try (conv=>whnf))))):p:=h ⟨hq⟩
section
variable {q:Sw} {t:WS}
theorem mlook_by {l:List (Nat × AObj)} {i:Nat} {z:AV} {L:List (Int × (Nat→Int))} {k:Int} {b:Nat→Int} {y:List AV} {K:AV→Up→List Nat→Prop} (hg:mgI L k=some b) (hy:bcA b=y) (h1:lk l i=some (.maps (encW byE L))) (hk:K (.agg y) [] [i]):AV0 l false false [0] z (.mapr i) (.int .i64 k) K:=by
 subst hy;exact Y7 hg h1 hk
theorem slI_at {j:Nat} (hj:j < q.slots.length):((q.slots.map fun p=>((p:Nat):Int)).map (AV.int .i64))[j]? = some (.int .i64 ((nth 0 q.slots j:Nat):Int)):=by
 rw [Y9 hj,List.getElem?_map,List.getElem?_map,List.getElem?_eq_getElem hj];rfl
theorem nth_isT (hg:D9 q) {j:Nat} (hj:j < q.slots.length):q.heldT (nth 0 q.slots j):=(AY3 hg).1 (AZ4 hj)
set_option maxRecDepth 20000 in
theorem BL7 (hg:D9 q) (h:WOk q t):K3 14 [] q t (.agg q.save) q t:=by
 have hpl1:=AA3 hg
 have hpl2:=BN8 hg
 have hwl:t.W.length=q.pages.length:=by
  have:=(AC6 hg h.ww).length_eq
  rwa [List.length_map,List.length_map] at this
 have hdl:t.D.length=q.slots.length:=by
  have:=(Ad8 hg h).length_eq
  rwa [List.length_map,List.length_map] at this
 have hndW:(t.W.map (·.1)).Nodup:=h.ndW
 have hndD:(t.D.map (·.1)).Nodup:=h.ndD
 have hmk:=kyC_0 (n:=t.W.length)
 have hmk2:=kyC_0 (n:=t.D.length)
 refine K3.mk (G5 F6 b14 rfl ?_) (fun x hx=>by cases hx) (I5 X8)
 unfold c14
 unfold stN stC
 (refine wx_Sxl ?_;repeat' (first|with_reducible refine And.intro ?_ ?_|intro hsp))
 refine Au7 F6 bS_page rfl trivial ?_
 intro frl asl bdl hF hA hB
 unfold cKs0
 (refine wx_Sxl ?_;repeat' (first|with_reducible refine And.intro ?_ ?_|intro hsp))
 refine KeysX.mk fun ck hck=>BS8 F6 hck (i:=1) (it:=36) (pb:=33) (po:=0) (cs:=[]) (ks:=t.W.map (·.1)) [] (fun vis=>[(0,.yld 34),(1,.ptr 33 0),(3,.sl 35 0 vis.length t.W.length 1)]) (fun vis=>[(0,.cells (stC 4 1 2 3 q)),(2,.maps (encW byE t.D)),(3,.maps (encW nuE t.H)),(4,.cells q.s.a),(5,.cells [.int .i64 0,.int .i64 0,.int .i64 0,.int .i64 0,.nils,.nils,.int .i64 0,.int .i64 0]),(31,.cells [.int .i64 (q.a:Nat),.int .i64 (q.n:Nat),.int .i64 (q.pg:Nat),.int .i64 (q.sl:Nat),.nils,.nils,.int .i64 q.ins,.int .i64 q.outs]),(33,.cells [.mapr 1]),(34,.loop .ready none frl [42,43] asl bdl),(35,.cells (kyC vis t.W.length))]) Ak2 hndW rfl rfl rfl (.inr ⟨_,rfl⟩) rfl (by decide) (by decide) rfl (fun _=>rfl) rfl (fun _=>rfl) ?_ ?_ ?_
 ·exact wkxQ3
 ·intro vis k hnd hsub
  have hl1:vis.length < t.W.length:=by
   have:=Ai8 hnd hsub
   rw [List.length_append,List.length_map] at this
   exact this
  unfold cKs4
  (refine wx_Sxl ?_;repeat' (first|with_reducible refine And.intro ?_ ?_|intro hsp))
  refine ⟨[],rfl,?_⟩
  rw [show (vis++[k]).length=vis.length+1 by simp]
  exact wkxQ3
 ·intro vis hperm
  have hlen:vis.length=t.W.length:=by rw [hperm.length_eq,List.length_map]
  have hs:=so_ok hlen (hperm.trans (AC6 hg h.ww)) Ao3 (by omega)
  rw [Aw4 hlen,hlen]
  unfold cKs1
  unfold cKsR
  (refine wx_Sxl ?_;repeat' (first|with_reducible refine And.intro ?_ ?_|intro hsp))
  rw [hwl]
  have hw0:=whr_0 (w:=q)
  (refine O4 [0,1,22,23] (fun (j:Nat)=>[(24,.int .i64 (j:Nat))]) (fun (j:Nat)=>⟨stN q t 0 1 2 3 4++[(5,.cells [.int .i64 0,.int .i64 0,.int .i64 0,.int .i64 0,.nils,.nils,.int .i64 0,.int .i64 0]),(31,.cells [.int .i64 (q.a:Nat),.int .i64 (q.n:Nat),.int .i64 (q.pg:Nat),.int .i64 (q.sl:Nat),Al7 37 4 (q.whr.take j).length,.nils,.int .i64 q.ins,.int .i64 q.outs]),(33,.cells [.mapr 1]),(34,.loop .ready none frl [42,43] asl bdl),(35,.cells ((q.pages.map fun p=>((p:Nat):Int)).map (AV.int .i64)))]++AV8 37 swA (q.whr.take j),38⟩) (fun (j:Nat)=>j≤q.pages.length) (fun (j:Nat)=>q.pages.length - j) (0) [] rfl (fun _=>by first|exact Nat.zero_le _|(dsimp only;omega)) ?_ (by ((try (conv=>whnf));(rw [hw0]);exact wkxQ4)) ?_)
  ·exact Nat.zero_le _
  intro j hj
  have hL1:(q.whr.take j).length≤q.whr.length:=BM2
  rw [O6] at hL1
  by_cases hjl:j < q.pages.length
  ·have hip:=BR6 hg hjl
   have hS:=pgI_at hjl
   have hws:=whr_s hjl
   unfold whE at hws
   generalize nth 0 q.pages j=p at *
   have hgp:=AP6 h.ww hip
   unfold stN stC
   (refine wx_Sxl ?_;repeat' (first|with_reducible refine And.intro ?_ ?_|intro hsp))
   all_goals exact F9 (j+1) [(37,40)] (by (try dsimp only);omega) (by first|omega|(dsimp only;omega)) rfl (by ((try dsimp only);rw [hws]);exact wkxQ4)
  ·obtain rfl:j=q.pages.length:=by omega
   rw [whr_all]
   unfold stN stC
   (refine wx_Sxl ?_;repeat' (first|with_reducible refine And.intro ?_ ?_|intro hsp))
   refine Au7 F6 bS_bytes rfl trivial ?_
   intro frl2 asl2 bdl2 hF2 hA2 hB2
   unfold cKs0
   (refine wx_Sxl ?_;repeat' (first|with_reducible refine And.intro ?_ ?_|intro hsp))
   refine KeysX.mk fun ck hck=>BS8 F6 hck (i:=2) (it:=41) (pb:=38) (po:=0) (cs:=[]) (ks:=t.D.map (·.1)) [] (fun vis=>[(0,.yld 39),(1,.ptr 38 0),(3,.sl 40 0 vis.length t.D.length 1)]) (fun vis=>[(0,.cells (stC 4 1 2 3 q)),(1,.maps (encW pgE t.W)),(3,.maps (encW nuE t.H)),(4,.cells q.s.a),(5,.cells [.int .i64 0,.int .i64 0,.int .i64 0,.int .i64 0,.nils,.nils,.int .i64 0,.int .i64 0]),(31,.cells [.int .i64 (q.a:Nat),.int .i64 (q.n:Nat),.int .i64 (q.pg:Nat),.int .i64 (q.sl:Nat),.isl (q.whr.map swA),.nils,.int .i64 q.ins,.int .i64 q.outs]),(38,.cells [.mapr 2]),(39,.loop .ready none frl2 [62,63] asl2 bdl2),(40,.cells (kyC vis t.D.length))]) Ak2 hndD rfl rfl rfl (.inr ⟨_,rfl⟩) rfl (by decide) (by decide) rfl (fun _=>rfl) rfl (fun _=>rfl) ?_ ?_ ?_
   ·exact wkxQ3
   ·intro vis k hnd hsub
    have hl1:vis.length < t.D.length:=by
     have:=Ai8 hnd hsub
     rw [List.length_append,List.length_map] at this
     exact this
    unfold cKs4
    (refine wx_Sxl ?_;repeat' (first|with_reducible refine And.intro ?_ ?_|intro hsp))
    refine ⟨[],rfl,?_⟩
    rw [show (vis++[k]).length=vis.length+1 by simp]
    exact wkxQ3
   ·intro vis hperm
    have hlen:vis.length=t.D.length:=by rw [hperm.length_eq,List.length_map]
    have hs:=so_ok hlen (hperm.trans (Ad8 hg h)) BN7 (by omega)
    rw [Aw4 hlen,hlen]
    unfold cKs1
    unfold cKsR
    (refine wx_Sxl ?_;repeat' (first|with_reducible refine And.intro ?_ ?_|intro hsp))
    rw [hdl]
    have hw0:=dsk_0 (w:=q)
    (refine O4 [0,1,22,23] (fun (j:Nat)=>[(24,.int .i64 (j:Nat))]) (fun (j:Nat)=>⟨stN q t 0 1 2 3 4++[(5,.cells [.int .i64 0,.int .i64 0,.int .i64 0,.int .i64 0,.nils,.nils,.int .i64 0,.int .i64 0]),(31,.cells [.int .i64 (q.a:Nat),.int .i64 (q.n:Nat),.int .i64 (q.pg:Nat),.int .i64 (q.sl:Nat),.isl (q.whr.map swA),Al7 42 65 (q.dsk.take j).length,.int .i64 q.ins,.int .i64 q.outs]),(38,.cells [.mapr 2]),(39,.loop .ready none frl2 [62,63] asl2 bdl2),(40,.cells ((q.slots.map fun p=>((p:Nat):Int)).map (AV.int .i64)))]++AV8 42 swD (q.dsk.take j),43⟩) (fun (j:Nat)=>j≤q.slots.length) (fun (j:Nat)=>q.slots.length - j) (0) [] rfl (fun _=>by first|exact Nat.zero_le _|(dsimp only;omega)) ?_ (by ((try (conv=>whnf));(rw [hw0]);exact wkxQ5)) ?_)
    ·exact Nat.zero_le _
    intro j hj
    have hL1:(q.dsk.take j).length≤q.dsk.length:=BM2
    rw [dsk_len] at hL1
    by_cases hjl:j < q.slots.length
    ·have hip:=nth_isT hg hjl
     have hS:=slI_at hjl
     have hws:=dsk_s hjl
     unfold dkE at hws
     generalize nth 0 q.slots j=p at *
     have hgd:=gD_at hg h hip
     have hyl:(bcA (q.D p)).length=64:=AB7
     generalize hy:bcA (q.D p)=y at hyl
     unfold stN stC
     (refine wx_Sxl ?_;repeat' (first|with_reducible refine And.intro ?_ ?_|intro hsp))
     all_goals exact F9 (j+1) [(42,45)] (by (try dsimp only);omega) (by first|omega|(dsimp only;omega)) rfl (by ((try dsimp only);rw [hws]);exact wkxQ5)
    ·obtain rfl:j=q.slots.length:=by omega
     rw [dsk_all]
     unfold stN stC
     (refine wx_Sxl ?_;repeat' (first|with_reducible refine And.intro ?_ ?_|intro hsp))
     all_goals exact end_WW (q:=q) (t:=t) (fun hs=>Az2 (D5 (K6 rfl) (D5 (K6 rfl) (D5 (K6 rfl) (D5 (K6 rfl) (D5 (R3 hs (X9 Y6)) (D5 (BL0 At8 AG0 rfl (fun hz=>by first|(simp [lk,AU6,Z0 hz,AS2 hz];done)|exact Z0 hz|rfl) (not_of (by simp [rn,stN])) hs) (D5 (K6 rfl) (D5 (K6 rfl) L6))))))))) rfl rfl rfl rfl rfl
end
end Go.Proofs.Ytbhgfoikbkaohaa.Sh
namespace Go.Pol
open Go.Am Go.Proofs.Ytbhgfoikbkaohaa.Sh
structure SAc where
 w:Int
 p:Int
 t:Int
 n:Int
 v:Int
 l:List Rl
def AY5 (x:SAc):List AV:=[.int .u8 x.w,.int .i64 x.p,.int .i64 x.t,.int .i64 x.n,.int .u8 x.v,.isl (x.l.map rlA)]
theorem BA4 (x:SAc):(AY5 x).length=6:=rfl
def dSA:SAc:=⟨0,0,0,0,0,[]⟩
structure SPy where
 a:Int
 n:Int
 pg:Int
 sl:Int
 l:List Rl
 X:List SAc
def AY2 (p:SPy):List AV:=[.int .i64 p.a,.int .i64 p.n,.int .i64 p.pg,.int .i64 p.sl,.isl (p.l.map rlA),.isl (p.X.map AY5)]
def Sw.nw (s:Sy) (a n pg sl:Int):Sw:=⟨a.toNat,n.toNat,pg.toNat,sl.toNat,fun _=>-1,fun _=>-1,fun _=>0,fun _ _=>0,0,0,s⟩
def T0:WS:=⟨[],[],[]⟩
def SPy.b (p:SPy):Sw:=Sw.nw ((Sy.new p.l).chg p.a p.n 0 1 0).2 p.a p.n p.pg p.sl
theorem BK2 {s:Sy} {a n pg sl:Int}:WOk (Sw.nw s a n pg sl) T0:=by
 refine ⟨List.nodup_nil,List.nodup_nil,List.nodup_nil,fun p=>?_,fun k=>?_,fun f p=>?_⟩
 ·rw [if_neg]
  ·rfl
  ·rintro ⟨_,h|h⟩
   ·exact absurd h (show ¬ (0:Int) ≤ -1 by decide)
   ·exact absurd h (show ¬ (0:Int) ≤ -1 by decide)
 ·rw [if_neg]
  ·rfl
  ·rintro ⟨hk,p,_,hT⟩
   have : (-1:Int)=((k.toNat:Nat):Int):=hT
   omega
 ·constructor
  ·intro h;cases h
  ·rintro ⟨_,h1,h2⟩
   have : (-1:Int)=f:=h2
   omega
end Go.Pol
namespace Go.Proofs.Ytbhgfoikbkaohaa.Sh
open Go Go.Am Go.Pol
theorem wx_Sxm {p q:Prop} (hq:q) (h:Z5 q→p:=by (intro hQz;((repeat' ((try (conv=>whnf));first|refine sxA ?_|refine sxF ?_|refine Q8 (by assumption) rfl (by decide) ?_|refine J2 (by assumption) ?_|refine Q8 hc rfl (by decide) ?_|refine Q8 hr rfl (by decide) ?_|refine BW2 (by assumption) ?_|refine cx_WN h1 rfl (by decide) ?_|refine Q8 h1 rfl (by decide) ?_|refine sxH ?_|((with_reducible first|apply V6 hQz|apply V7 hQz)<;>(try intro hsp hQz))|exact hQz.out))<;>(try (conv=>whnf))))):p:=h ⟨hq⟩
theorem AO1 (x:SAc):∀ y ∈ AY5 x,Plain y:=fun y hy=>by
 unfold AY5 at hy
 simp only [List.mem_cons,List.not_mem_nil,or_false] at hy
 rcases hy with rfl|rfl|rfl|rfl|rfl|rfl<;>first|exact A8|exact Q0
theorem AZ0 (x:SAc):Plain (.agg (AY5 x)):=I5 (AO1 x)
theorem AR7 {X:List SAc}:Plain (.isl (X.map AY5)):=AG6 fun e he=>by obtain ⟨x,_,rfl⟩:=List.mem_map.1 he;exact AO1 x
theorem AG1 (p:SPy):∀ y ∈ AY2 p,Plain y:=fun y hy=>by
 unfold AY2 at hy
 simp only [List.mem_cons,List.not_mem_nil,or_false] at hy
 rcases hy with rfl|rfl|rfl|rfl|rfl|rfl
 ·exact A8
 ·exact A8
 ·exact A8
 ·exact A8
 ·exact Q0
 ·exact AR7
theorem AA2 (p:SPy):Plain (.agg (AY2 p)):=I5 (AG1 p)
theorem end_Wg {top:Bool} {h:Hp} {N0 n:Nat} {x r:AV} {q:Sw} {t:WS} (ren:List (Nat × Nat)) (o w d m s:Nat) (hkp:AL3 N0 ren=true) (hm:N0≤n) (hone:Ac4 [rn ren o,rn ren w,rn ren d,rn ren m,rn ren s]=true)
  (hlt:o < n∧w < n∧d < n∧m < n∧s < n)
  (hr:AN2 (rn ren) h ⟨stN q t o w d m s,n⟩→WkV Try.prog (rn ren) h ⟨stN q t o w d m s,n⟩ x r) (g0:lk h.l (rn ren o)=some (.cells (stC (rn ren s) (rn ren w) (rn ren d) (rn ren m) q))) (g1:lk h.l (rn ren w)=some (.maps (encW pgE t.W))) (g2:lk h.l (rn ren d)=some (.maps (encW byE t.D))) (g3:lk h.l (rn ren m)=some (.maps (encW nuE t.H))) (g4:lk h.l (rn ren s)=some (.cells q.s.a)) :
  AV3 top Try.prog N0 h x (fun r' h'=>r'=r∧h'=⟨stN q t o w d m s,n⟩):=by
 have hs:AN2 (rn ren) h ⟨stN q t o w d m s,n⟩:=fun j x hi=>by
  simp only [stN,lk] at hi
  split at hi
  ·rename_i e;subst e;exact ⟨_,g0⟩
  ·split at hi
   ·rename_i e;subst e;exact ⟨_,g1⟩
   ·split at hi
    ·rename_i e;subst e;exact ⟨_,g2⟩
    ·split at hi
     ·rename_i e;subst e;exact ⟨_,g3⟩
     ·split at hi
      ·rename_i e;subst e;exact ⟨_,g4⟩
      ·cases hi
 refine AE7 ren hkp hm (P6 (l:=stN q t o w d m s) hone) (hr hs) ?_ ⟨rfl,rfl⟩
 have:=BK4 (r:=[]) hs rfl rfl rfl rfl rfl hlt g0 g1 g2 g3 g4 K9
 exact this
structure LocWN (f:Nat) (avs:List AV) (s:Sy) (q:Sw) (t:WS):Prop where
 out:AT7 Try.prog G0 f (.ptr 0 0::avs) [(0,.cells s.a)] 1 fun x h=>x = .tup [.ptr 1 0,.int .i64 0]∧h=⟨stN q t 1 2 3 4 0,5⟩
 pa:∀ x ∈ avs,Plain x
theorem cx_WN {f:Nat} {avs:List AV} {s:Sy} {q:Sw} {t:WS} {g nx:Nat} {l:List (Nat × AObj)} {K:AV→Hp→Prop} (hc:LocWN f avs s q t) (h5:lk l g=some (.cells s.a)) (hlt:g < nx)
  (hk:AS9 [g] l fun l2=>K (.tup [.ptr nx 0,.int .i64 0]) ⟨([(nx,.cells (stC g (nx+1) (nx+2) (nx+3) q)),(nx+1,.maps (encW pgE t.W)),(nx+2,.maps (encW byE t.D)),(nx+3,.maps (encW nuE t.H)),(g,.cells q.s.a)]:List (Nat × AObj))++l2,nx+4⟩):AF1 Try.prog G0 (.fn f [] []) (.ptr g 0::avs) ⟨l,nx⟩ K:=by
 have e0:enter [g] g 0:=rfl
 have k0:back [g] nx 0 g:=rfl
 have k1:back [g] nx 1 nx:=rfl
 have k2:back [g] nx 2 (nx+1):=rfl
 have k3:back [g] nx 3 (nx+2):=rfl
 have k4:back [g] nx 4 (nx+3):=rfl
 refine AL6 (r':=.tup [.ptr nx 0,.int .i64 0]) (l1:=stN q t nx (nx+1) (nx+2) (nx+3) g) [g] hc.out G9 rfl (.cons e0 h5 (D7 F5) .nil)
  ?_ (by intro x hx;simp only [List.mem_cons,List.not_mem_nil,or_false] at hx;omega) (BA7 ⟨S9 k1,F4 A8,trivial⟩)
  (.cons k1 (AL0 k0 k2 k3 k4) (.maps k2 (C8 G6) (.maps k3 (C8 G8) (.maps k4 (C8 G7) (.cons k0 (D7 F5) .nil))))) hk
 simp only [List.nil_append,List.append_nil]
 exact ⟨S9 e0,D7 hc.pa⟩
section
variable {s:Sy} {a n pg sl:Int}
theorem AV7 {e:Int}:Plain (.tup [.nilp,.int .i64 e]):=F3 (I4 O8 A8)
theorem Ai0 {a b c d:Int}:∀ x ∈ [AV.int .i64 a,.int .i64 b,.int .i64 c,.int .i64 d],Plain x:=fun x hx=>by
 simp only [List.mem_cons,List.not_mem_nil,or_false] at hx
 rcases hx with rfl|rfl|rfl|rfl<;>exact A8
theorem BL8 (hg:GoodS s) (hn:¬ X5 a n pg sl):AD2 28 [.int .i64 a,.int .i64 n,.int .i64 pg,.int .i64 sl] s.a (.tup [.nilp,.int .i64 7]) s.a:=by
 have hc:=Ai1 hg
 have hst:=Aj0 a n pg sl
 rw [decide_eq_false hn] at hst
 unfold Sy.counts at hc
 refine AD2.mk (G5 F6 b28 rfl ?_) F5 F5 Ai0 AV7
 unfold c28
 generalize AQ1 s.K 0 1024=n0 at *
 generalize AQ1 s.K 1 1024=n1 at *
 generalize AQ1 s.K 2 1024=n2 at *
 generalize AQ1 s.K 3 1024=n3 at *
 generalize cntG s.G 64=n4 at *
 (refine wx_Sxm ?_;repeat' (first|with_reducible refine And.intro ?_ ?_|intro hsp))
 all_goals exact AF4 rfl AV7 rfl F5
theorem w_New_no (hg:GoodS s) (hn:X5 a n pg sl) (he:(s.chg a n 0 1 0).1 ≠ 0):AD2 28 [.int .i64 a,.int .i64 n,.int .i64 pg,.int .i64 sl] s.a (.tup [.nilp,.int .i64 (s.chg a n 0 1 0).1]) (s.chg a n 0 1 0).2.a:=by
 have hc:=Ai1 hg
 have hst:=Aj0 a n pg sl
 rw [decide_eq_true hn] at hst
 have hr:=Ao6 (a:=a) (n:=n) hg
 unfold Sy.counts at hc
 refine AD2.mk (G5 F6 b28 rfl ?_) F5 F5 Ai0 AV7
 unfold c28
 generalize AQ1 s.K 0 1024=n0 at *
 generalize AQ1 s.K 1 1024=n1 at *
 generalize AQ1 s.K 2 1024=n2 at *
 generalize AQ1 s.K 3 1024=n3 at *
 generalize cntG s.G 64=n4 at *
 generalize s.chg a n 0 1 0=r at *
 (refine wx_Sxm ?_;repeat' (first|with_reducible refine And.intro ?_ ?_|intro hsp))
 all_goals first|exact AF4 rfl AV7 rfl F5|(exfalso;omega)
theorem w_New (hg:GoodS s) (hn:X5 a n pg sl) (he:(s.chg a n 0 1 0).1=0):LocWN 28 [.int .i64 a,.int .i64 n,.int .i64 pg,.int .i64 sl] s (Sw.nw (s.chg a n 0 1 0).2 a n pg sl) T0:=by
 have hc:=Ai1 hg
 have hst:=Aj0 a n pg sl
 rw [decide_eq_true hn] at hst
 have hr:=Ao6 (a:=a) (n:=n) hg
 rw [he] at hr
 obtain ⟨n1',n2',n3',n4',n5',n6',n7',n8'⟩:=hn
 have e1:((a.toNat:Nat):Int)=a:=Int.toNat_of_nonneg n1'
 have e2:((n.toNat:Nat):Int)=n:=Int.toNat_of_nonneg (by omega)
 have e3:((pg.toNat:Nat):Int)=pg:=Int.toNat_of_nonneg (by omega)
 have e4:((sl.toNat:Nat):Int)=sl:=Int.toNat_of_nonneg (by omega)
 unfold Sy.counts at hc
 refine LocWN.mk (G5 F6 b28 rfl ?_) Ai0
 unfold c28
 generalize AQ1 s.K 0 1024=n0 at *
 generalize AQ1 s.K 1 1024=n1 at *
 generalize AQ1 s.K 2 1024=n2 at *
 generalize AQ1 s.K 3 1024=n3 at *
 generalize cntG s.G 64=n4 at *
 generalize s.chg a n 0 1 0=r at *
 (refine wx_Sxm ?_;repeat' (first|with_reducible refine And.intro ?_ ?_|intro hsp))
 all_goals exact end_Wg [(1,5),(2,2),(3,3),(4,4)] 1 2 3 4 0 rfl (by decide) rfl (by decide) (fun hs=>Ad5 (D5 (Z6 (i:=1) rfl (show 1 < 5 by decide)) (D5 (K6 rfl) L6))) (by unfold stC Sw.nw;dsimp only;rw [e1,e2,e3,e4];rfl) (by unfold T0;rw [AH6];rfl) (by unfold T0;rw [AH6];rfl) (by unfold T0;rw [AH6];rfl) rfl
structure LocWB (avs:List AV) (q:Sw) (t:WS):Prop where
 out:AT7 Try.prog G0 11 avs [] 0 fun x h=>x = .tup [.ptr 4 0,.ptr 0 0,.int .i64 0]∧h=⟨stN q t 0 1 2 3 4,5⟩
 pa:∀ x ∈ avs,Plain x
theorem cx_WB {avs:List AV} {q:Sw} {t:WS} {nx:Nat} {l:List (Nat × AObj)} {K:AV→Hp→Prop} (hc:LocWB avs q t)
  (hk:K (.tup [.ptr (nx+4) 0,.ptr nx 0,.int .i64 0]) ⟨([(nx,.cells (stC (nx+4) (nx+1) (nx+2) (nx+3) q)),(nx+1,.maps (encW pgE t.W)),(nx+2,.maps (encW byE t.D)),(nx+3,.maps (encW nuE t.H)),(nx+4,.cells q.s.a)]:List (Nat × AObj))++l,nx+5⟩):AF1 Try.prog G0 (.fn 11 [] []) avs ⟨l,nx⟩ K:=by
 have k0:back [] nx 0 nx:=rfl
 have k1:back [] nx 1 (nx+1):=rfl
 have k2:back [] nx 2 (nx+2):=rfl
 have k3:back [] nx 3 (nx+3):=rfl
 have k4:back [] nx 4 (nx+4):=rfl
 exact AL6 (r':=.tup [.ptr (nx+4) 0,.ptr nx 0,.int .i64 0]) (l1:=stN q t nx (nx+1) (nx+2) (nx+3) (nx+4)) [] hc.out G9 rfl .nil (by simpa using D7 hc.pa) (by simp) (BA7 ⟨S9 k4,S9 k0,F4 A8,trivial⟩)
  (.cons k0 (AL0 k4 k1 k2 k3) (.maps k1 (C8 G6) (.maps k2 (C8 G8) (.maps k3 (C8 G7) (.cons k4 (D7 F5) .nil))))) (AP7 hk)
structure LocBE (avs:List AV) (e:Int) (ds:List AV):Prop where
 out:AT7 Try.prog G0 11 avs [] 0 fun x h=>x = .tup [.ptr 0 0,.nilp,.int .i64 e]∧h=⟨[(0,.cells ds)],1⟩
 pa:∀ x ∈ avs,Plain x
 pd:∀ x ∈ ds,Plain x
theorem cx_BE {avs:List AV} {e:Int} {ds:List AV} {nx:Nat} {l:List (Nat × AObj)} {K:AV→Hp→Prop} (hc:LocBE avs e ds) (hk:K (.tup [.ptr nx 0,.nilp,.int .i64 e]) ⟨(nx,.cells ds)::l,nx+1⟩):AF1 Try.prog G0 (.fn 11 [] []) avs ⟨l,nx⟩ K:=by
 have k0:back [] nx 0 nx:=rfl
 exact AL6 (r':=.tup [.ptr nx 0,.nilp,.int .i64 e]) (l1:=[(nx,.cells ds)]) [] hc.out G9 rfl .nil (by simpa using D7 hc.pa) (by simp) (BA7 ⟨S9 k0,F4 O8,F4 A8,trivial⟩)
  (.cons k0 (D7 hc.pd) .nil) (AP7 hk)
theorem end_BE {top:Bool} {h:Hp} {x:AV} {i:Nat} {ds:List AV} {e:Int} (hx:x = .tup [.ptr i 0,.nilp,.int .i64 e]) (h0:lk h.l i=some (.cells ds)) (pd:∀ x ∈ ds,Plain x):AV3 top Try.prog 0 h x (fun r' h'=>r' = .tup [.ptr 0 0,.nilp,.int .i64 e]∧h'=⟨[(0,.cells ds)],1⟩):=by
 subst hx
 have e0:rn [(0,i)] 0=i:=rfl
 have hs:AN2 (rn [(0,i)]) h ⟨[(0,.cells ds)],1⟩:=fun j o hj=>by
  simp only [lk] at hj
  split at hj
  ·rename_i e;subst e;exact ⟨_,h0⟩
  ·cases hj
 exact AE7 [(0,i)] rfl (Nat.zero_le _) (P6 rfl) (Ad5 (D5 (Z6 e0 (show 0 < 1 by decide)) (D5 (R3 hs O8) (D5 (K6 rfl) L6)))) (I7 hs (show 0 < 1 by decide) (by rw [e0];exact h0) rfl pd K9) ⟨rfl,rfl⟩
theorem BR2 {p:SPy}:∀ x ∈ [AV.agg (AY2 p)],Plain x:=T9 (AA2 p)
theorem Ao0 {e:Int}:Plain (.tup [.nilp,.nilp,.int .i64 e]):=F3 (plain_three O8 O8 A8)
theorem l_begun (p:SPy):(∃ e,e ≠ 0∧e=(AD1 p.l).2∧I6 11 [.agg (AY2 p)] (.tup [.nilp,.nilp,.int .i64 e]))∨(∃ e ds,e ≠ 0∧LocBE [.agg (AY2 p)] e ds)∨((AD1 p.l).2=0∧X5 p.a p.n p.pg p.sl∧((Sy.new p.l).chg p.a p.n 0 1 0).1=0∧LocWB [.agg (AY2 p)] p.b T0):=by
 by_cases hc:(AD1 p.l).2=0
 ·have hnw:=p_new (l:=p.l) (i:=(AD1 p.l).1) (Prod.ext rfl hc)
  have hg:=Aj2 hc
  by_cases hst:X5 p.a p.n p.pg p.sl
  ·by_cases he:((Sy.new p.l).chg p.a p.n 0 1 0).1=0
   ·have h1:=w_New hg hst he
    refine .inr (.inr ⟨hc,hst,he,LocWB.mk (G5 F6 b11 rfl ?_) BR2⟩)
    unfold c11
    unfold SPy.b AY2
    generalize Sy.new p.l=s0 at *
    generalize T0=t0 at *
    generalize Sw.nw (s0.chg p.a p.n 0 1 0).2 p.a p.n p.pg p.sl=q0 at *
    (refine wx_Sxm ?_;repeat' (first|with_reducible refine And.intro ?_ ?_|intro hsp))
    all_goals exact end_Wg [(0,2),(1,3),(2,4),(3,5),(4,1)] 0 1 2 3 4 rfl (by decide) rfl (by decide) (fun hs=>Ad5 (D5 (Z6 (i:=4) rfl (show 4 < 5 by decide)) (D5 (Z6 (i:=0) rfl (show 0 < 5 by decide)) (D5 (K6 rfl) L6)))) rfl rfl rfl rfl rfl
   ·have h1:=w_New_no hg hst he
    refine .inr (.inl ⟨_,((Sy.new p.l).chg p.a p.n 0 1 0).2.a,he,LocBE.mk (G5 F6 b11 rfl ?_) BR2 F5⟩)
    unfold c11
    unfold AY2
    generalize Sy.new p.l=s0 at *
    generalize s0.chg p.a p.n 0 1 0=r at *
    (refine wx_Sxm ?_;repeat' (first|with_reducible refine And.intro ?_ ?_|intro hsp))
    all_goals exact end_BE rfl rfl F5
  ·have h1:=BL8 hg hst
   refine .inr (.inl ⟨7,(Sy.new p.l).a,by decide,LocBE.mk (G5 F6 b11 rfl ?_) BR2 F5⟩)
   unfold c11
   unfold AY2
   generalize Sy.new p.l=s0 at *
   (refine wx_Sxm ?_;repeat' (first|with_reducible refine And.intro ?_ ?_|intro hsp))
   all_goals exact end_BE rfl rfl F5
 ·have hnw:=p_new_no (l:=p.l) (i:=(AD1 p.l).1) (e:=(AD1 p.l).2) rfl hc
  refine .inl ⟨_,hc,rfl,I6.mk (O7 F6 b11 G9 ⟨AA2 p,trivial⟩ Ao0 rfl ?_)⟩
  unfold c11
  unfold AY2
  generalize (AD1 p.l).2=e at *
  (refine wx_Sxm ?_;repeat' (first|with_reducible refine And.intro ?_ ?_|intro hsp))
  all_goals first|exact I9 rfl Ao0|(exfalso;omega)
end
end Go.Proofs.Ytbhgfoikbkaohaa.Sh
