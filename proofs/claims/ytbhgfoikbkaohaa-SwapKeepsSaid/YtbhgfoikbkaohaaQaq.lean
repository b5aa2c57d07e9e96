/-
 The calls of a store: reading,writing,putting out,freeing,the victim,what it counts.
 What a store counts;its state.
 The ends of Save: growing slices become values.
 The state of a store.
 A store is made.
 far,alone.
 A store stays one;the example.
-/
import Derived.Test.YtbhgfoikbkaohaaQap
set_option linter.unusedSimpArgs false
set_option linter.unusedVariables false
set_option maxHeartbeats 12800000
namespace Go.Pol
open Go.Am Go.Proofs.Ytbhgfoikbkaohaa.Sh
theorem Az6 {β:Type} {k:Int}:∀ {L:List (Int × β)},mgI L k=none→mdI L k=L
 | [],_=>rfl
 | e::L,h=>by
  unfold mgI at h
  split at h
  ·cases h
  ·rename_i hne
   unfold mdI
   rw [if_neg hne,Az6 h]
section
variable {q:Sw} {t:WS}
theorem md_D (h:WOk q t) {k:Int} (hk:k < 0):mdI t.D k=t.D:=Az6 (Ac8 h hk)
theorem md_H (h:WOk q t) {k:Int} (hk:k < 0):mdI t.H k=t.H:=Az6 (Ah8 h hk)
end
end Go.Pol
namespace Go.Proofs.Ytbhgfoikbkaohaa.Sh
open Go Go.Am Go.Pol
theorem wx_Sxj {p q:Prop} (hq:q) (h:X4 q→p:=by (intro hQz;((repeat' ((try (conv=>whnf));first|refine sxA ?_|refine AR7 hW rfl ?_|refine AM3 hW rfl ?_|refine sxF ?_|refine AQ0 w_is rfl rfl rfl rfl rfl (by decide) rfl ?_|refine AQ0 hS rfl rfl rfl rfl rfl (by decide) rfl ?_|refine AQ0 hV rfl rfl rfl rfl rfl (by decide) rfl ?_|refine sxH ?_|((with_reducible first|apply V4 hQz|apply V5 hQz)<;>(try intro hsp hQz))|exact hQz.out))<;>(try (conv=>whnf))))):p:=h ⟨hq⟩
theorem wx_Sxjn {p q:Prop} (hq:q) (h:X4 q→p:=by (intro hQz;((repeat' ((try (conv=>whnf));first|refine sxA ?_|refine AM3 hW rfl ?_|refine BV8 rfl ?_|refine sxN ?_|refine AQ0 w_is rfl rfl rfl rfl rfl (by decide) rfl ?_|refine AQ0 hS rfl rfl rfl rfl rfl (by decide) rfl ?_|refine AQ0 hO rfl rfl rfl rfl rfl (by decide) rfl ?_|refine AS6 hdec rfl rfl ?_|refine Q8 hdec rfl (by decide) ?_|refine sxH ?_|((with_reducible first|apply V4 hQz|apply V5 hQz)<;>(try intro hsp hQz))|exact hQz.out))<;>(try (conv=>whnf))))):p:=h ⟨hq⟩
section
variable {q:Sw} {t:WS}
theorem BD1 (hg:E5 q) (h:WOk q t) (at_ now:Int):∃ t',O1 12 [.int .i64 at_,.int .i64 now] q t (.tup [.int .u8 (q.read at_ now).1,.int .i64 (q.read at_ now).2.1]) (q.read at_ now).2.2 t'∧WOk (q.read at_ now).2.2 t':=by
 have hrng:=hg.rng
 have hN:=Aq0 (q:=q) (t:=t) hrng.2.2.2.1 at_ now
 by_cases hn:q.nums at_ now
 ·rw [decide_eq_true hn] at hN
  obtain ⟨n1,n2,n3,n4⟩:=hn
  obtain ⟨a,rfl⟩:=Int.eq_ofNat_of_zero_le n1
  have ha:a < 100000:=by omega
  by_cases hi:q.is (a / 64)
  ·obtain ⟨t',hT,hO⟩:=BO7 hg h (p:=a / 64) (now:=now) (by omega)
   by_cases he:(q.touch (a / 64) now).1=0
   ·have er:q.read (a:Nat) now=(((q.touch (a / 64) now).2.s.read ((q.touch (a / 64) now).2.F (a / 64) * 64+((a:Nat):Int) % 64)).1,((q.touch (a / 64) now).2.s.read ((q.touch (a / 64) now).2.F (a / 64) * 64+((a:Nat):Int) % 64)).2,(q.touch (a / 64) now).2):=by
     unfold Sw.read
     rw [if_neg (Classical.not_not.2 ⟨n1,n2,n3,n4⟩),Int.toNat_natCast,if_neg (Classical.not_not.2 hi),if_pos he]
    rw [er]
    refine ⟨t',?_,hO⟩
    rcases AL5 hg (p:=a / 64) now with hy|hno
    ·have hg2:=W9 hg (p:=a / 64) (now:=now) (by omega) ⟨n3,n4⟩
     rw [he] at hT
     obtain ⟨f,f0,f1,f2,_⟩:=AA8 hg2 hy.fr
     have hr2:=hg2.rng
     have hW':=AS0 hO.ww (p:=a / 64) (.inl hy.fr)
     rw [f0] at hW'
     have hR:=p_read (s:=(q.touch (a / 64) now).2.s) (a:=((f:Nat):Int) * 64+((a % 64:Nat):Int))
     dsimp only
     rw [f0,emod64]
     exact w_ReadY hN ha (by omega) (AS0 h.ww hi) hT hW' hR
    ·exact absurd he hno.e
   ·have er:q.read (a:Nat) now=(0,(q.touch (a / 64) now).1,(q.touch (a / 64) now).2):=by
     unfold Sw.read
     rw [if_neg (Classical.not_not.2 ⟨n1,n2,n3,n4⟩),Int.toNat_natCast,if_neg (Classical.not_not.2 hi),if_neg he]
    rw [er]
    exact ⟨t',w_ReadE hN ha (AS0 h.ww hi) hT he,hO⟩
  ·have er:q.read (a:Nat) now=(0,0,q):=by
    unfold Sw.read
    rw [if_neg (Classical.not_not.2 ⟨n1,n2,n3,n4⟩),Int.toNat_natCast,if_pos hi]
   rw [er]
   exact ⟨t,w_ReadZ hN ha (gW_no h.ww hi),h⟩
 ·have er:q.read at_ now=(0,7,q):=by unfold Sw.read;rw [if_pos hn]
  rw [er]
  rw [decide_eq_false hn] at hN
  exact ⟨t,w_ReadN hN,h⟩
theorem AZ7 (hg:E5 q) (h:WOk q t) (at_ now v:Int):∃ t',O1 26 [.int .i64 at_,.int .i64 now,.int .u8 v] q t (.int .i64 (q.write at_ now v).1) (q.write at_ now v).2 t'∧WOk (q.write at_ now v).2 t':=by
 have hrng:=hg.rng
 have hN:=Aq0 (q:=q) (t:=t) hrng.2.2.2.1 at_ now
 by_cases hn:q.nums at_ now
 ·rw [decide_eq_true hn] at hN
  obtain ⟨n1,n2,n3,n4⟩:=hn
  obtain ⟨a,rfl⟩:=Int.eq_ofNat_of_zero_le n1
  have ha:a < 100000:=by omega
  obtain ⟨t',hT,hO⟩:=BO7 hg h (p:=a / 64) (now:=now) (by omega)
  by_cases he:(q.touch (a / 64) now).1=0
  ·have er:q.write (a:Nat) now v=(q.touch (a / 64) now).2.byte (a:Nat) v:=by
    unfold Sw.write
    rw [if_neg (Classical.not_not.2 ⟨n1,n2,n3,n4⟩),Int.toNat_natCast,if_pos he]
   rw [er]
   refine ⟨t',?_,AT1 hO _⟩
   rcases AL5 hg (p:=a / 64) now with hy|hno
   ·have hg2:=W9 hg (p:=a / 64) (now:=now) (by omega) ⟨n3,n4⟩
    rw [he] at hT
    obtain ⟨f,f0,f1,f2,_⟩:=AA8 hg2 hy.fr
    have hr2:=hg2.rng
    have hW':=AS0 hO.ww (p:=a / 64) (.inl hy.fr)
    rw [f0] at hW'
    have hR:=BU7 (s:=(q.touch (a / 64) now).2.s) (a:=((f:Nat):Int) * 64+((a % 64:Nat):Int)) (b:=v)
    unfold Sw.byte
    dsimp only
    rw [Int.toNat_natCast,f0,emod64]
    exact w_WriteY hN ha (by omega) hT hW' hR
   ·exact absurd he hno.e
  ·have er:q.write (a:Nat) now v=q.touch (a / 64) now:=by
    unfold Sw.write
    rw [if_neg (Classical.not_not.2 ⟨n1,n2,n3,n4⟩),Int.toNat_natCast,if_neg he]
   rw [er]
   exact ⟨t',w_WriteE hN ha hT he,hO⟩
 ·have er:q.write at_ now v=(7,q):=by unfold Sw.write;rw [if_pos hn]
  rw [er]
  rw [decide_eq_false hn] at hN
  exact ⟨t,w_WriteN hN,h⟩
section
variable {p e z x:Int} {f k:Nat} {q1:Sw} {t1:WS} {s2:Sy}
theorem w_OutR (hpg:q.pg≤256) (hp:p < 0∨(q.pg:Nat)≤p):O1 27 [.int .i64 p] q t (.int .i64 7) q t:=by
 refine O1.mk (I6 F6 b27 rfl ?_) (V6 A8) A8
 unfold c27
 unfold stN stC
 (refine wx_Sxj ?_;repeat' (first|with_reducible refine And.intro ?_ ?_|intro hsp))
 all_goals first|(exfalso;omega)|exact K9 rfl A8 rfl rfl rfl rfl rfl
theorem w_OutO (hp:0≤p∧p < (q.pg:Nat)) (hW:mgI t.W p=none):O1 27 [.int .i64 p] q t (.int .i64 4) q t:=by
 refine O1.mk (I6 F6 b27 rfl ?_) (V6 A8) A8
 unfold c27
 unfold stN stC
 (refine wx_Sxj ?_;repeat' (first|with_reducible refine And.intro ?_ ?_|intro hsp))
 all_goals first|(exfalso;omega)|exact K9 rfl A8 rfl rfl rfl rfl rfl
theorem w_OutP (hp:0≤p∧p < (q.pg:Nat)) (hW:mgI t.W p=some (e,x,z)) (he:e < 0):O1 27 [.int .i64 p] q t (.int .i64 4) q t:=by
 refine O1.mk (I6 F6 b27 rfl ?_) (V6 A8) A8
 unfold c27
 unfold stN stC
 (refine wx_Sxj ?_;repeat' (first|with_reducible refine And.intro ?_ ?_|intro hsp))
 all_goals first|(exfalso;omega)|exact K9 rfl A8 rfl rfl rfl rfl rfl
theorem w_OutF (hp:0≤p∧p < (q.pg:Nat)) (hW:mgI t.W p=some (((f:Nat):Int),x,z)) (hS:O1 48 [.int .i64 (-1)] q t (.int .i64 (-1)) q t):O1 27 [.int .i64 p] q t (.int .i64 5) q t:=by
 refine O1.mk (I6 F6 b27 rfl ?_) (V6 A8) A8
 unfold c27
 unfold stN stC
 (refine wx_Sxj ?_;repeat' (first|with_reducible refine And.intro ?_ ?_|intro hsp))
 all_goals first|(exfalso;omega)|exact K9 rfl A8 rfl rfl rfl rfl rfl
theorem w_OutY (hp:0≤p∧p < (q.pg:Nat)) (hW:mgI t.W p=some (((f:Nat):Int),x,z)) (hS:O1 48 [.int .i64 (-1)] q t (.int .i64 (k:Nat)) q t) (hO:O1 49 [.int .i64 p,.int .i64 (k:Nat)] q t (.tup []) q1 t1)
  (hdec:AD8 46 [.int .i64 (f:Nat),.int .i64 1] q1.s.a (.int .i64 e) s2.a):O1 27 [.int .i64 p] q t (.int .i64 0) { q1 with s:=s2 } t1:=by
 refine O1.mk (I6 F6 b27 rfl ?_) (V6 A8) A8
 unfold c27
 unfold stN stC
 (refine wx_Sxjn ?_;repeat' (first|with_reducible refine And.intro ?_ ?_|intro hsp))
 all_goals first|(exfalso;omega)|exact K9 (q:={ q1 with s:=s2 }) rfl A8 rfl rfl rfl rfl rfl
theorem w_FreeR (hpg:q.pg≤256) (hp:p < 0∨(q.pg:Nat)≤p):O1 25 [.int .i64 p] q t (.int .i64 7) q t:=by
 refine O1.mk (I6 F6 b25 rfl ?_) (V6 A8) A8
 unfold c25
 unfold stN stC
 (refine wx_Sxj ?_;repeat' (first|with_reducible refine And.intro ?_ ?_|intro hsp))
 all_goals first|(exfalso;omega)|exact K9 rfl A8 rfl rfl rfl rfl rfl
theorem w_FreeO (hp:0≤p∧p < (q.pg:Nat)) (hW:mgI t.W p=none):O1 25 [.int .i64 p] q t (.int .i64 4) q t:=by
 refine O1.mk (I6 F6 b25 rfl ?_) (V6 A8) A8
 unfold c25
 unfold stN stC
 (refine wx_Sxj ?_;repeat' (first|with_reducible refine And.intro ?_ ?_|intro hsp))
 all_goals first|(exfalso;omega)|exact K9 rfl A8 rfl rfl rfl rfl rfl
theorem w_FreeS (hp:0≤p∧p < (q.pg:Nat)) (hW:mgI t.W p=some (e,x,z)) (he:e < 0):O1 25 [.int .i64 p] q t (.int .i64 0) q ⟨mdI t.W p,mdI t.D x,t.H⟩:=by
 refine O1.mk (I6 F6 b25 rfl ?_) (V6 A8) A8
 unfold c25
 unfold stN stC
 (refine wx_Sxjn ?_;repeat' (first|with_reducible refine And.intro ?_ ?_|intro hsp))
 all_goals first|(exfalso;omega)|exact K9 (q:=q) (t:=⟨mdI t.W p,mdI t.D x,t.H⟩) rfl A8 rfl rfl rfl rfl rfl
theorem w_FreeF (hp:0≤p∧p < (q.pg:Nat)) (hW:mgI t.W p=some (((f:Nat):Int),x,z)) (hdec:AD8 46 [.int .i64 (f:Nat),.int .i64 1] q.s.a (.int .i64 e) s2.a):O1 25 [.int .i64 p] q t (.int .i64 0) { q with s:=s2 } ⟨mdI t.W p,t.D,mdI t.H (f:Nat)⟩:=by
 refine O1.mk (I6 F6 b25 rfl ?_) (V6 A8) A8
 unfold c25
 unfold stN stC
 (refine wx_Sxjn ?_;repeat' (first|with_reducible refine And.intro ?_ ?_|intro hsp))
 all_goals first|(exfalso;omega)|exact K9 (q:={ q with s:=s2 }) (t:=⟨mdI t.W p,t.D,mdI t.H (f:Nat)⟩) rfl A8 rfl rfl rfl rfl rfl
end
theorem w_Out (hg:E5 q) (h:WOk q t) (p:Int):∃ t',O1 27 [.int .i64 p] q t (.int .i64 (q.out p).1) (q.out p).2 t'∧WOk (q.out p).2 t':=by
 have hrng:=hg.rng
 have hcnt:=hg.cnt
 by_cases hp:0≤p∧p < (q.pg:Nat)
 ·obtain ⟨n,rfl⟩:=Int.eq_ofNat_of_zero_le hp.1
  by_cases hF:q.F n < 0
  ·have er:q.out (n:Nat)=(4,q):=by unfold Sw.out;rw [if_neg (Classical.not_not.2 hp),Int.toNat_natCast,if_pos hF]
   rw [er]
   refine ⟨t,?_,h⟩
   by_cases hi:q.is n
   ·exact w_OutP hp (AS0 h.ww hi) hF
   ·exact w_OutO hp (gW_no h.ww hi)
  ·obtain ⟨f,f0,f1,f2,f3⟩:=AA8 hg (p:=n) (by omega)
   have hW:=AS0 h.ww (p:=n) (.inl (by omega))
   rw [f0] at hW
   have hS:=w_slot h hrng.2.2.2.2 (-1)
   cases hsl:q.slot (-1) with
   | none =>
    have er:q.out (n:Nat)=(5,q):=by unfold Sw.out;rw [if_neg (Classical.not_not.2 hp),Int.toNat_natCast,if_neg hF,hsl]
    rw [er]
    rw [hsl] at hS
    exact ⟨t,w_OutF hp hW hS,h⟩
   | some k =>
    have er:q.out (n:Nat)=(0,(q.put n k).gone (q.F n)):=by unfold Sw.out;rw [if_neg (Classical.not_not.2 hp),Int.toNat_natCast,if_neg hF,hsl]
    rw [er]
    rw [hsl] at hS
    have hO:=AY5 (q2:=q.put n k) (w_outM (k:=(k:Nat)) hW (by omega) f3 hcnt.2.2) rfl
    have hdec:=Ag8 (s:=(q.put n k).s) (a:=(f:Nat)) (n:=1) hg.good
    have hk:=(AE2 hsl).2.resolve_left (by omega)
    refine ⟨_,?_,AT1 (wok_out hg h f0 hk) _⟩
    dsimp only
    rw [f0]
    exact w_OutY hp hW hS hO hdec
 ·have er:q.out p=(7,q):=by unfold Sw.out;rw [if_pos hp]
  rw [er]
  exact ⟨t,w_OutR hrng.2.2.2.1 (by omega),h⟩
theorem w_Free (hg:E5 q) (h:WOk q t) (p:Int):∃ t',O1 25 [.int .i64 p] q t (.int .i64 (q.fre p).1) (q.fre p).2 t'∧WOk (q.fre p).2 t':=by
 have hrng:=hg.rng
 by_cases hp:0≤p∧p < (q.pg:Nat)
 ·obtain ⟨n,rfl⟩:=Int.eq_ofNat_of_zero_le hp.1
  by_cases hi:q.is n
  ·have hW:=AS0 h.ww hi
   have hwo:=wok_fre hg h hi
   by_cases hF:0≤q.F n
   ·obtain ⟨f,f0,f1,f2,f3⟩:=AA8 hg (p:=n) hF
    have er:q.fre (n:Nat)=(0,Sw.gone { q with F:=E9 q.F n (-1),T:=E9 q.T n (-1),Z:=E9 q.Z n 0 } (q.F n)):=by unfold Sw.fre;rw [if_neg (Classical.not_not.2 hp),Int.toNat_natCast,if_neg (Classical.not_not.2 hi),if_pos hF]
    rw [er]
    have hT:q.T n < 0:=by rcases Af0 hg n with h1 | ⟨h1,_⟩<;>omega
    rw [f0] at hW
    rw [f0,md_D h hT] at hwo
    have hdec:=Ag8 (s:=q.s) (a:=(f:Nat)) (n:=1) hg.good
    refine ⟨_,?_,AT1 hwo _⟩
    dsimp only
    rw [f0]
    exact AY5 (w_FreeF hp hW hdec) rfl
   ·have er:q.fre (n:Nat)=(0,{ q with F:=E9 q.F n (-1),T:=E9 q.T n (-1),Z:=E9 q.Z n 0 }):=by unfold Sw.fre;rw [if_neg (Classical.not_not.2 hp),Int.toNat_natCast,if_neg (Classical.not_not.2 hi),if_neg hF]
    rw [er]
    rw [md_H h (by omega)] at hwo
    exact ⟨_,AY5 (w_FreeS hp hW (by omega)) rfl,hwo⟩
  ·have er:q.fre (n:Nat)=(4,q):=by unfold Sw.fre;rw [if_neg (Classical.not_not.2 hp),Int.toNat_natCast,if_pos hi]
   rw [er]
   exact ⟨t,w_FreeO hp (gW_no h.ww hi),h⟩
 ·have er:q.fre p=(7,q):=by unfold Sw.fre;rw [if_pos hp]
  rw [er]
  exact ⟨t,w_FreeR hrng.2.2.2.1 (by omega),h⟩
end
end Go.Proofs.Ytbhgfoikbkaohaa.Sh
namespace Go.Proofs.Ytbhgfoikbkaohaa.Sh
open Go Go.Am Go.Pol
open Go.Proofs.Ytbhgfoikbkaohaa.Sh renaming plx_Sxc → plx
open Go.Proofs.Ytbhgfoikbkaohaa.Sh renaming ppx_Sxc → ppx
section
variable {q:Sw} {t:WS}
end
end Go.Proofs.Ytbhgfoikbkaohaa.Sh
namespace Go.Proofs.Ytbhgfoikbkaohaa
open Go Go.Am Go.Pol
theorem Aj5 {α:Type} {f:α→List AV} {σ:Nat→Nat} {h h':Hp} {d n sz:Nat} {L:List α} (hf:∀ x,(f x).length=sz) (hp:∀ c,∀ x ∈ f c,Plain x) (hn:L.length=n) (hi:L.length ≠ 0→lk h.l d=some (.cells (flat f L))) (hi':∀ j o,lk h'.l j=some o→σ j ≠ d) (hs:AF7 σ h h'):WkV Try.prog σ h h' (AX3 d sz n) (.isl (L.map f)):=by
 subst hn
 by_cases hz:L.length=0
 ·rw [hz,BU9]
  cases List.eq_nil_of_length_eq_zero hz
  exact Ax0
 ·rw [As5 hz]
  refine BD0 (hi hz) hi' hs (by simp) (fun e he=>?_) ?_ fun e he x hx=>?_
  ·obtain ⟨s,_,rfl⟩:=List.mem_map.1 he;exact hf s
  ·rw [List.drop_zero,List.take_of_length_le (by rw [AS1 hf];exact Nat.le_refl _)];rfl
  ·obtain ⟨s,_,rfl⟩:=List.mem_map.1 he;exact hp s x hx
theorem BV1 {cs:List AV} {d:Nat} (hd:1≤d):∀ j o,lk (Hp.mk [(0,.cells cs)] 1).l j=some o→rn [] j ≠ d:=fun j o hj=>by
 simp only [lk] at hj
 show j ≠ d
 split at hj
 ·omega
 ·cases hj
theorem one_sub {h:Hp} {cs:List AV} (h0:∃ o,lk h.l 0=some o):AF7 (rn []) h ⟨[(0,.cells cs)],1⟩:=fun i o hi=>by
 simp only [lk] at hi
 show ∃ o',lk h.l i=some o'
 split at hi
 ·rename_i e;subst e;exact h0
 ·cases hi
theorem end_one {top:Bool} {h:Hp} {x r:AV} {cs:List AV} (hr:WkV Try.prog (rn []) h ⟨[(0,.cells cs)],1⟩ x r) (h0:lk h.l 0=some (.cells cs)) (pd:∀ x ∈ cs,Plain x):AT0 top Try.prog 1 h x (fun r' h'=>r'=r∧h'=⟨[(0,.cells cs)],1⟩) :=
 r9 [] rfl (Nat.le_refl _) (M6 rfl) hr (H7 (one_sub ⟨_,h0⟩) (show 0 < 1 by decide) h0 rfl pd I8) ⟨rfl,rfl⟩
theorem end_save {cs c1 c2:List AV} {R:List Rn} {U:List Int} {D:List Dt} {l:List Rl} {C H:Nat→Int} (pd:∀ x ∈ cs,Plain x):AT0 true Try.prog 1 ⟨(0,.cells cs)::(1,.cells c1)::(2,.cells c2)::(AI9 3 inA U++(AI9 4 dtA D++[])),5⟩ (.agg [.isl (R.map rnA),AX3 3 1 U.length,AX3 4 65 D.length,.isl (l.map rlA),.int .i64 (C 0),.int .i64 (C 1),.int .i64 (C 2),.int .i64 (C 3),.int .i64 (C 4),.int .i64 (C 5),.int .i64 (C 6),.int .i64 (H 0),.int .i64 (H 1),.int .i64 (H 2),.int .i64 (H 3),.int .i64 (H 4),.int .i64 (H 5),.int .i64 (H 6)]) (fun x h1=>x = .agg (vsA ⟨R,U,D,l,C,H⟩)∧h1=⟨[(0,.cells cs)],1⟩):=by
 have hs:AF7 (rn []) ⟨(0,.cells cs)::(1,.cells c1)::(2,.cells c2)::(AI9 3 inA U++(AI9 4 dtA D++[])),5⟩ ⟨[(0,.cells cs)],1⟩:=one_sub ⟨_,rfl⟩
 refine end_one (Ap9 (A9 (R6 hs (G5 S9)) (A9 (Aj5 BG0 AK5 rfl (fun hz=>by simp [lk,j4 hz]) (BV1 (by decide)) hs) (A9 (Aj5 Ai2 AL1 rfl (fun hz=>by simp [lk,o8,I7 hz]) (BV1 (by decide)) hs) (AZ4 hs C8))))) rfl pd
end Go.Proofs.Ytbhgfoikbkaohaa
namespace Go.Pol
open Go.Am Go.Proofs.Ytbhgfoikbkaohaa.Sh
def swA (x:Int × Int × Int × Int):List AV:=[.int .i64 x.1,.int .i64 x.2.1,.int .i64 x.2.2.1,.int .i64 x.2.2.2]
def swD (x:Int × (Nat→Int)):List AV:=.int .i64 x.1::bcA x.2
theorem Aj6 (x:Int × Int × Int × Int):(swA x).length=4:=rfl
theorem AJ2 (x:Int × (Nat→Int)):(swD x).length=65:=by unfold swD;rw [List.length_cons,AC7]
theorem R8 (x:Int × Int × Int × Int):∀ y ∈ swA x,Plain y:=fun y hy=>by
 simp only [swA,List.mem_cons,List.not_mem_nil,or_false] at hy
 rcases hy with rfl|rfl|rfl|rfl<;>exact A8
theorem AE0 (x:Int × (Nat→Int)):∀ y ∈ swD x,Plain y:=fun y hy=>by
 rcases List.mem_cons.1 hy with rfl|hy
 ·exact A8
 ·exact AD3 y hy
def whE (w:Sw) (p:Nat):Int × Int × Int × Int:=((p:Nat),w.F p,w.T p,w.Z p)
def dkE (w:Sw) (k:Nat):Int × (Nat→Int):=((k:Nat),w.D k)
def Sw.slots (w:Sw):List Nat:=(List.range w.sl).filter fun k=>decide (w.heldT k)
def Sw.whr (w:Sw):List (Int × Int × Int × Int):=w.pages.map (whE w)
def Sw.dsk (w:Sw):List (Int × (Nat→Int)):=w.slots.map (dkE w)
section
variable {w:Sw} {t:WS}
theorem whr_0:w.whr.take 0=[]:=rfl
theorem dsk_0:w.dsk.take 0=[]:=rfl
theorem whr_s {j:Nat} (h:j < w.pages.length):w.whr.take (j+1)=w.whr.take j++[whE w (nth 0 w.pages j)]:=by
 unfold Sw.whr
 rw [← List.map_take,← List.map_take,AX5 (d:=0) h,List.map_append];rfl
theorem dsk_s {j:Nat} (h:j < w.slots.length):w.dsk.take (j+1)=w.dsk.take j++[dkE w (nth 0 w.slots j)]:=by
 unfold Sw.dsk
 rw [← List.map_take,← List.map_take,AX5 (d:=0) h,List.map_append];rfl
theorem whr_all:w.whr.take w.pages.length=w.whr:=by unfold Sw.whr;rw [← List.map_take,List.take_length]
theorem dsk_all:w.dsk.take w.slots.length=w.dsk:=by unfold Sw.dsk;rw [← List.map_take,List.take_length]
theorem BO3:w.whr.length=w.pages.length:=List.length_map ..
theorem dsk_len:w.dsk.length=w.slots.length:=List.length_map ..
theorem BP4 {α:Type} {l:List α} {j:Nat}:(l.take j).length≤l.length:=by rw [List.length_take];omega
theorem Aa4 (hg:E5 w) {k:Nat}:k ∈ w.slots ↔ w.heldT k:=by
 unfold Sw.slots
 rw [List.mem_filter,decide_eq_true_eq,List.mem_range]
 refine ⟨fun h=>h.2,fun h=>⟨?_,h⟩⟩
 obtain ⟨p,hp,hT⟩:=h
 rcases hg.sl p with h1 | ⟨_,k2,h2,h3⟩
 ·omega
 ·omega
theorem slots_up:w.slots.Pairwise (· < ·):=List.pairwise_lt_range.filter _
theorem BR0:(w.slots.map fun p=>((p:Nat):Int)).Pairwise (· < ·):=List.Pairwise.map (R:=fun a b=>a < b) _ (fun a b hab=>by omega) slots_up
theorem Ag3 (hg:E5 w) (h:WOk w t):(t.D.map (·.1)).Perm (w.slots.map fun p=>((p:Nat):Int)):=by
 refine (List.perm_ext_iff_of_nodup h.ndD ?_).2 fun k=>?_
 ·exact List.Pairwise.map (R:=fun a b=>a ≠ b) _ (fun a b hab e=>hab (by omega)) (List.nodup_range.filter _:w.slots.Nodup)
 ·rw [Al4,List.mem_map]
  constructor
  ·rintro ⟨v,hv⟩
   rw [h.gD] at hv
   split at hv
   ·rename_i hk
    exact ⟨k.toNat,(Aa4 hg).2 hk.2,by omega⟩
   ·cases hv
  ·rintro ⟨p,hp,rfl⟩
   obtain ⟨p2,_,hT⟩:=(Aa4 hg).1 hp
   exact ⟨_,AW9 hg h hT⟩
theorem gD_at (hg:E5 w) (h:WOk w t) {k:Nat} (hk:w.heldT k):mgI t.D (k:Nat)=some (w.D k):=by
 obtain ⟨p2,_,hT⟩:=hk
 exact AW9 hg h hT
theorem Aq6 (hg:E5 w):w.slots.length≤256:=by
 have h2:w.slots.length≤w.sl:=Nat.le_trans (List.length_filter_le ..) (by rw [List.length_range];exact Nat.le_refl _)
 have:=hg.rng;omega
theorem As1 (hg:E5 w):w.pages.length≤256:=by
 have h2:w.pages.length≤w.pg:=Nat.le_trans (List.length_filter_le ..) (by rw [List.length_range];exact Nat.le_refl _)
 have:=hg.rng;omega
def Aj7 (a n pg sl:Int) (W:List (Int × Int × Int × Int)) (D:List (Int × (Nat→Int))) (i o:Int):List AV:=[.int .i64 a,.int .i64 n,.int .i64 pg,.int .i64 sl,.isl (W.map swA),.isl (D.map swD),.int .i64 i,.int .i64 o]
def Sw.save (w:Sw):List AV:=Aj7 (w.a:Nat) (w.n:Nat) (w.pg:Nat) (w.sl:Nat) w.whr w.dsk w.ins w.outs
theorem U3 {a n pg sl:Int} {W:List (Int × Int × Int × Int)} {D:List (Int × (Nat→Int))} {i o:Int}:∀ x ∈ Aj7 a n pg sl W D i o,Plain x:=fun x hx=>by
 simp only [Aj7,List.mem_cons,List.not_mem_nil,or_false] at hx
 rcases hx with rfl|rfl|rfl|rfl|rfl|rfl|rfl|rfl
 ·exact A8
 ·exact A8
 ·exact A8
 ·exact A8
 ·exact G5 R8
 ·exact G5 AE0
 ·exact A8
 ·exact A8
theorem BU1 {a b c d e f:Int}:Plain (.agg [.int .i64 a,.int .i64 b,.int .i64 c,.int .i64 d,.nils,.nils,.int .i64 e,.int .i64 f]):=J2 fun x hx=>by
 simp only [List.mem_cons,List.not_mem_nil,or_false] at hx
 rcases hx with rfl|rfl|rfl|rfl|rfl|rfl|rfl|rfl<;>first|exact A8|exact d9
theorem not_of {σ:Nat→Nat} {l:List (Nat × AObj)} {d:Nat} (h:∀ q ∈ l,σ q.1 ≠ d):∀ j o,lk l j=some o→σ j ≠ d:=fun j o hj=>by
 induction l with
 | nil=>cases hj
 | cons q l ih =>
  simp only [lk] at hj
  split at hj
  ·rename_i e;subst e;exact h q (List.mem_cons_self ..)
  ·exact ih (fun q hq=>h q (List.mem_cons_of_mem _ hq)) hj
end
end Go.Pol
namespace Go.Proofs.Ytbhgfoikbkaohaa.Sh
open Go Go.Am Go.Pol
theorem plx_Sxl {p:Prop} (h:p:=by ((first|exact plw|(with_reducible first|apply U5|apply H9 _|apply I5 _|apply I4 _|apply AD1|apply G5 R8|apply G5 AE0|apply d9|apply BU1|fail)|fail);first|done|fail)):p:=h
open Go.Proofs.Ytbhgfoikbkaohaa.Sh renaming plx_Sxl → plx
open Go.Proofs.Ytbhgfoikbkaohaa.Sh renaming ppx_Sxc → ppx
theorem wx_Sxl {p q:Prop} (hq:q) (h:X4 q→p:=by (intro hQz;((repeat' ((try (conv=>whnf));first|(with_reducible first|refine M5 ?_|refine J4 ?_|refine M9 ?_|refine N8 ?_|refine J8 ?_|refine R4 ?_|refine M0 ?_|refine R3 rfl ?_|refine M4 ?_|refine H6 ?_|refine J6 ?_|refine J7 ?_|refine N7 ?_|refine G9 ?_|refine J5 (by decide +kernel) ?_|refine I9 (by decide +kernel) ?_|refine AF3 ?_|refine AF4 ?_|refine Ap5 ?_|refine Z5 ?_|refine AI6 ?_|refine Ai6 (by assumption) ?_|refine Ai7 (by assumption) ?_|refine Z0 (by omega) ?_|refine AI5 ?_)|((with_reducible refine AI7 ?_ ?_);focus omega)|((with_reducible refine AI8 ?_ ?_);focus omega)|((with_reducible apply V4 hQz)<;>(try intro hsp hQz))|((with_reducible refine Ap4 ?_ ?_);focus (first|omega|rfl|assumption|decide|(simp only [List.length_map,List.length_cons,List.length_nil];omega)|exact hmk|exact hmk2|(simp only [List.length_cons];omega)))|refine AF2 (hmk) ?_|refine AF2 (hmk2) ?_|(with_reducible first|refine AI0 ?_|refine Y9 ?_|refine Y8 ?_|refine AI2 ?_|refine AI1 ?_|refine AH8 ?_|refine Ap3 ?_|refine G7 ?_|refine Y6 ?_|refine M8 ?_|refine M7 ?_|refine G8 ?_|refine AH9 (by omega) ?_|refine Y7 (by omega) ?_)|refine mlen_i rfl ?_|refine BI2 rfl rfl (by omega) ?_|refine K6 hS ?_|refine l9 hgp rfl ?_|refine mlook_by hgd hy rfl ?_|refine Y0 (by omega) List.drop_zero (V8 (by omega) (y_take hyl) ?_)|refine ⟨hyl,?_⟩|refine AA4 (by first|(simp only [List.length_replicate];omega)|fail) (over_y hyl) ?_|refine AA4 (by first|(simp only [List.length_cons,List.length_nil];omega)|fail) (BV0 hyl) ?_|refine sxF ?_|refine cx_so H8 hs rfl (by decide) ?_|refine Ad6 F6 rfl hF hA hB rfl ?_|refine AN0 (f:=swA) (l2:=[(((p:Nat):Int),q.F p,q.T p,q.Z p)]) Aj6 (AH4 rfl (by first|rfl|(simp;done)|(simp [*];done))) (fun hz=>by first|(simp [lk,o8,j4 hz,I7 hz];done)|rfl) (fun hz=>by first|(simp [lk,o8,Al8,lk_tN hz,AK1 hz];done)|rfl) (by first|rfl|(simp [flat,swA];done)|(simp [flat,swA, *];done)) (by decide) ⟨by omega,by omega⟩ rfl ?_|((with_reducible apply BI1 hQz);intro hQa hQb;refine AM9 (f:=swA) (l2:=[(((p:Nat):Int),q.F p,q.T p,q.Z p)]) Aj6 (AH4 rfl (by first|rfl|(simp;done)|(simp [*];done))) (fun hz=>by first|(simp [lk,o8,j4 hz,I7 hz];done)|rfl) (by first|rfl|(simp [flat,swA];done)|(simp [flat,swA, *];done)) (by decide) ⟨by omega,by omega⟩ ?_ ?_<;>intro hzz<;>first|(have hQz:=X4.mk (hQa.out hzz))|(have hQz:=X4.mk (hQb.out hzz)))|refine Ad6 F6 rfl hF2 hA2 hB2 rfl ?_|refine AN0 (f:=swD) (l2:=[(((p:Nat):Int),q.D p)]) AJ2 (AH4 rfl (by first|rfl|(simp;done)|(simp [*];done))) (fun hz=>by first|(simp [lk,o8,j4 hz,I7 hz];done)|rfl) (fun hz=>by first|(simp [lk,o8,Al8,lk_tN hz,AK1 hz];done)|rfl) (by first|rfl|(simp [flat,swD];done)|(simp [flat,swD, *];done)) (by decide) ⟨by omega,by omega⟩ rfl ?_|((with_reducible apply BI1 hQz);intro hQa hQb;refine AM9 (f:=swD) (l2:=[(((p:Nat):Int),q.D p)]) AJ2 (AH4 rfl (by first|rfl|(simp;done)|(simp [*];done))) (fun hz=>by first|(simp [lk,o8,j4 hz,I7 hz];done)|rfl) (by first|rfl|(simp [flat,swD];done)|(simp [flat,swD, *];done)) (by decide) ⟨by omega,by omega⟩ ?_ ?_<;>intro hzz<;>first|(have hQz:=X4.mk (hQa.out hzz))|(have hQz:=X4.mk (hQb.out hzz)))|refine AQ0 w_is rfl rfl rfl rfl rfl (by decide) rfl ?_|(refine AA9 F6 b34 rfl ?_;unfold c34)|(refine AA9 F6 b35 rfl ?_;unfold c35)|refine sxH ?_|((with_reducible apply V5 hQz)<;>(try intro hsp hQz))|exact hQz.out))<;>(try (conv=>whnf))))):p:=h ⟨hq⟩
section
variable {q:Sw} {t:WS}
theorem mlook_by {l:List (Nat × AObj)} {i:Nat} {z:AV} {L:List (Int × (Nat→Int))} {k:Int} {b:Nat→Int} {y:List AV} {K:AV→Up→List Nat→Prop} (hg:mgI L k=some b) (hy:bcA b=y) (h1:lk l i=some (.maps (encW byE L))) (hk:K (.agg y) [] [i]):AX1 l false false [0] z (.mapr i) (.int .i64 k) K:=by
 subst hy;exact l9 hg h1 hk
theorem slI_at {j:Nat} (hj:j < q.slots.length):((q.slots.map fun p=>((p:Nat):Int)).map (AV.int .i64))[j]? = some (.int .i64 ((nth 0 q.slots j:Nat):Int)):=by
 rw [p9 hj,List.getElem?_map,List.getElem?_map,List.getElem?_eq_getElem hj];rfl
theorem nth_isT (hg:E5 q) {j:Nat} (hj:j < q.slots.length):q.heldT (nth 0 q.slots j):=(Aa4 hg).1 (Ab7 hj)
set_option maxRecDepth 20000 in
theorem BO8 (hg:E5 q) (h:WOk q t):O1 14 [] q t (.agg q.save) q t:=by
 have hpl1:=As1 hg
 have hpl2:=Aq6 hg
 have hwl:t.W.length=q.pages.length:=by
  have:=(AE8 hg h.ww).length_eq
  rwa [List.length_map,List.length_map] at this
 have hdl:t.D.length=q.slots.length:=by
  have:=(Ag3 hg h).length_eq
  rwa [List.length_map,List.length_map] at this
 have hndW:(t.W.map (·.1)).Nodup:=h.ndW
 have hndD:(t.D.map (·.1)).Nodup:=h.ndD
 have hmk:=kyC_0 (n:=t.W.length)
 have hmk2:=kyC_0 (n:=t.D.length)
 refine O1.mk (I6 F6 b14 rfl ?_) (fun x hx=>by cases hx) (J2 U3)
 unfold c14
 unfold stN stC
 (refine wx_Sxl ?_;repeat' (first|with_reducible refine And.intro ?_ ?_|intro hsp))
 refine Ay5 F6 bS_page rfl trivial ?_
 intro frl asl bdl hF hA hB
 unfold cKs0
 (refine wx_Sxl ?_;repeat' (first|with_reducible refine And.intro ?_ ?_|intro hsp))
 refine KeysX.mk fun ck hck=>BW5 F6 hck (i:=1) (it:=36) (pb:=33) (po:=0) (cs:=[]) (ks:=t.W.map (·.1)) [] (fun vis=>[(0,.yld 34),(1,.ptr 33 0),(3,.sl 35 0 vis.length t.W.length 1)]) (fun vis=>[(0,.cells (stC 4 1 2 3 q)),(2,.maps (encW byE t.D)),(3,.maps (encW nuE t.H)),(4,.cells q.s.a),(5,.cells [.int .i64 0,.int .i64 0,.int .i64 0,.int .i64 0,.nils,.nils,.int .i64 0,.int .i64 0]),(31,.cells [.int .i64 (q.a:Nat),.int .i64 (q.n:Nat),.int .i64 (q.pg:Nat),.int .i64 (q.sl:Nat),.nils,.nils,.int .i64 q.ins,.int .i64 q.outs]),(33,.cells [.mapr 1]),(34,.loop .ready none frl [42,43] asl bdl),(35,.cells (kyC vis t.W.length))]) An5 hndW rfl rfl rfl (.inr ⟨_,rfl⟩) rfl (by decide) (by decide) rfl (fun _=>rfl) rfl (fun _=>rfl) ?_ ?_ ?_
 ·exact wkxQ3
 ·intro vis k hnd hsub
  have hl1:vis.length < t.W.length:=by
   have:=Al9 hnd hsub
   rw [List.length_append,List.length_map] at this
   exact this
  unfold cKs4
  (refine wx_Sxl ?_;repeat' (first|with_reducible refine And.intro ?_ ?_|intro hsp))
  refine ⟨[],rfl,?_⟩
  rw [show (vis++[k]).length=vis.length+1 by simp]
  exact wkxQ3
 ·intro vis hperm
  have hlen:vis.length=t.W.length:=by rw [hperm.length_eq,List.length_map]
  have hs:=so_ok hlen (hperm.trans (AE8 hg h.ww)) As0 (by omega)
  rw [BA1 hlen,hlen]
  unfold cKs1
  unfold cKsR
  (refine wx_Sxl ?_;repeat' (first|with_reducible refine And.intro ?_ ?_|intro hsp))
  rw [hwl]
  have hw0:=whr_0 (w:=q)
  (refine O9 [0,1,22,23] (fun (j:Nat)=>[(24,.int .i64 (j:Nat))]) (fun (j:Nat)=>⟨stN q t 0 1 2 3 4++[(5,.cells [.int .i64 0,.int .i64 0,.int .i64 0,.int .i64 0,.nils,.nils,.int .i64 0,.int .i64 0]),(31,.cells [.int .i64 (q.a:Nat),.int .i64 (q.n:Nat),.int .i64 (q.pg:Nat),.int .i64 (q.sl:Nat),AX3 37 4 (q.whr.take j).length,.nils,.int .i64 q.ins,.int .i64 q.outs]),(33,.cells [.mapr 1]),(34,.loop .ready none frl [42,43] asl bdl),(35,.cells ((q.pages.map fun p=>((p:Nat):Int)).map (AV.int .i64)))]++AI9 37 swA (q.whr.take j),38⟩) (fun (j:Nat)=>j≤q.pages.length) (fun (j:Nat)=>q.pages.length - j) (0) [] rfl (fun _=>by first|exact Nat.zero_le _|(dsimp only;omega)) ?_ (by ((try (conv=>whnf));(rw [hw0]);exact wkxQ4)) ?_)
  ·exact Nat.zero_le _
  intro j hj
  have hL1:(q.whr.take j).length≤q.whr.length:=BP4
  rw [BO3] at hL1
  by_cases hjl:j < q.pages.length
  ·have hip:=nth_is hg hjl
   have hS:=pgI_at hjl
   have hws:=whr_s hjl
   unfold whE at hws
   generalize nth 0 q.pages j=p at *
   have hgp:=AS0 h.ww hip
   unfold stN stC
   (refine wx_Sxl ?_;repeat' (first|with_reducible refine And.intro ?_ ?_|intro hsp))
   all_goals exact G6 (j+1) [(37,40)] (by (try dsimp only);omega) (by first|omega|(dsimp only;omega)) rfl (by ((try dsimp only);rw [hws]);exact wkxQ4)
  ·obtain rfl:j=q.pages.length:=by omega
   rw [whr_all]
   unfold stN stC
   (refine wx_Sxl ?_;repeat' (first|with_reducible refine And.intro ?_ ?_|intro hsp))
   refine Ay5 F6 bS_bytes rfl trivial ?_
   intro frl2 asl2 bdl2 hF2 hA2 hB2
   unfold cKs0
   (refine wx_Sxl ?_;repeat' (first|with_reducible refine And.intro ?_ ?_|intro hsp))
   refine KeysX.mk fun ck hck=>BW5 F6 hck (i:=2) (it:=41) (pb:=38) (po:=0) (cs:=[]) (ks:=t.D.map (·.1)) [] (fun vis=>[(0,.yld 39),(1,.ptr 38 0),(3,.sl 40 0 vis.length t.D.length 1)]) (fun vis=>[(0,.cells (stC 4 1 2 3 q)),(1,.maps (encW pgE t.W)),(3,.maps (encW nuE t.H)),(4,.cells q.s.a),(5,.cells [.int .i64 0,.int .i64 0,.int .i64 0,.int .i64 0,.nils,.nils,.int .i64 0,.int .i64 0]),(31,.cells [.int .i64 (q.a:Nat),.int .i64 (q.n:Nat),.int .i64 (q.pg:Nat),.int .i64 (q.sl:Nat),.isl (q.whr.map swA),.nils,.int .i64 q.ins,.int .i64 q.outs]),(38,.cells [.mapr 2]),(39,.loop .ready none frl2 [62,63] asl2 bdl2),(40,.cells (kyC vis t.D.length))]) An5 hndD rfl rfl rfl (.inr ⟨_,rfl⟩) rfl (by decide) (by decide) rfl (fun _=>rfl) rfl (fun _=>rfl) ?_ ?_ ?_
   ·exact wkxQ3
   ·intro vis k hnd hsub
    have hl1:vis.length < t.D.length:=by
     have:=Al9 hnd hsub
     rw [List.length_append,List.length_map] at this
     exact this
    unfold cKs4
    (refine wx_Sxl ?_;repeat' (first|with_reducible refine And.intro ?_ ?_|intro hsp))
    refine ⟨[],rfl,?_⟩
    rw [show (vis++[k]).length=vis.length+1 by simp]
    exact wkxQ3
   ·intro vis hperm
    have hlen:vis.length=t.D.length:=by rw [hperm.length_eq,List.length_map]
    have hs:=so_ok hlen (hperm.trans (Ag3 hg h)) BR0 (by omega)
    rw [BA1 hlen,hlen]
    unfold cKs1
    unfold cKsR
    (refine wx_Sxl ?_;repeat' (first|with_reducible refine And.intro ?_ ?_|intro hsp))
    rw [hdl]
    have hw0:=dsk_0 (w:=q)
    (refine O9 [0,1,22,23] (fun (j:Nat)=>[(24,.int .i64 (j:Nat))]) (fun (j:Nat)=>⟨stN q t 0 1 2 3 4++[(5,.cells [.int .i64 0,.int .i64 0,.int .i64 0,.int .i64 0,.nils,.nils,.int .i64 0,.int .i64 0]),(31,.cells [.int .i64 (q.a:Nat),.int .i64 (q.n:Nat),.int .i64 (q.pg:Nat),.int .i64 (q.sl:Nat),.isl (q.whr.map swA),AX3 42 65 (q.dsk.take j).length,.int .i64 q.ins,.int .i64 q.outs]),(38,.cells [.mapr 2]),(39,.loop .ready none frl2 [62,63] asl2 bdl2),(40,.cells ((q.slots.map fun p=>((p:Nat):Int)).map (AV.int .i64)))]++AI9 42 swD (q.dsk.take j),43⟩) (fun (j:Nat)=>j≤q.slots.length) (fun (j:Nat)=>q.slots.length - j) (0) [] rfl (fun _=>by first|exact Nat.zero_le _|(dsimp only;omega)) ?_ (by ((try (conv=>whnf));(rw [hw0]);exact wkxQ5)) ?_)
    ·exact Nat.zero_le _
    intro j hj
    have hL1:(q.dsk.take j).length≤q.dsk.length:=BP4
    rw [dsk_len] at hL1
    by_cases hjl:j < q.slots.length
    ·have hip:=nth_isT hg hjl
     have hS:=slI_at hjl
     have hws:=dsk_s hjl
     unfold dkE at hws
     generalize nth 0 q.slots j=p at *
     have hgd:=gD_at hg h hip
     have hyl:(bcA (q.D p)).length=64:=AC7
     generalize hy:bcA (q.D p)=y at hyl
     unfold stN stC
     (refine wx_Sxl ?_;repeat' (first|with_reducible refine And.intro ?_ ?_|intro hsp))
     all_goals exact G6 (j+1) [(42,45)] (by (try dsimp only);omega) (by first|omega|(dsimp only;omega)) rfl (by ((try dsimp only);rw [hws]);exact wkxQ5)
    ·obtain rfl:j=q.slots.length:=by omega
     rw [dsk_all]
     unfold stN stC
     (refine wx_Sxl ?_;repeat' (first|with_reducible refine And.intro ?_ ?_|intro hsp))
     all_goals exact end_WW (q:=q) (t:=t) (fun hs=>Ap9 (A9 (N9 rfl) (A9 (N9 rfl) (A9 (N9 rfl) (A9 (N9 rfl) (A9 (R6 hs (G5 R8)) (A9 (Aj5 AJ2 AE0 rfl (fun hz=>by first|(simp [lk,o8,I7 hz,j4 hz];done)|exact I7 hz|rfl) (not_of (by simp [rn,stN])) hs) (A9 (N9 rfl) (A9 (N9 rfl) J9))))))))) rfl rfl rfl rfl rfl
end
end Go.Proofs.Ytbhgfoikbkaohaa.Sh
namespace Go.Pol
open Go.Am Go.Proofs.Ytbhgfoikbkaohaa.Sh
structure SAc where
 w:Int
 p:Int
 t:Int
 n:Int
 v:Int
 l:List Rl
def Af1 (x:SAc):List AV:=[.int .u8 x.w,.int .i64 x.p,.int .i64 x.t,.int .i64 x.n,.int .u8 x.v,.isl (x.l.map rlA)]
theorem BE0 (x:SAc):(Af1 x).length=6:=rfl
def dSA:SAc:=⟨0,0,0,0,0,[]⟩
structure SPy where
 a:Int
 n:Int
 pg:Int
 sl:Int
 l:List Rl
 X:List SAc
def AX8 (p:SPy):List AV:=[.int .i64 p.a,.int .i64 p.n,.int .i64 p.pg,.int .i64 p.sl,.isl (p.l.map rlA),.isl (p.X.map Af1)]
def Sw.nw (s:Sy) (a n pg sl:Int):Sw:=⟨a.toNat,n.toNat,pg.toNat,sl.toNat,fun _=>-1,fun _=>-1,fun _=>0,fun _ _=>0,0,0,s⟩
def T0:WS:=⟨[],[],[]⟩
def SPy.b (p:SPy):Sw:=Sw.nw ((Sy.new p.l).chg p.a p.n 0 1 0).2 p.a p.n p.pg p.sl
theorem BN5 {s:Sy} {a n pg sl:Int}:WOk (Sw.nw s a n pg sl) T0:=by
 refine ⟨List.nodup_nil,List.nodup_nil,List.nodup_nil,fun p=>?_,fun k=>?_,fun f p=>?_⟩
 ·rw [if_neg]
  ·rfl
  ·rintro ⟨_,h|h⟩
   ·exact absurd h (show ¬ (0:Int) ≤ -1 by decide)
   ·exact absurd h (show ¬ (0:Int) ≤ -1 by decide)
 ·rw [if_neg]
  ·rfl
  ·rintro ⟨hk,p,_,hT⟩
   have : (-1:Int)=((k.toNat:Nat):Int):=hT
   omega
 ·constructor
  ·intro h;cases h
  ·rintro ⟨_,h1,h2⟩
   have : (-1:Int)=f:=h2
   omega
end Go.Pol
namespace Go.Proofs.Ytbhgfoikbkaohaa.Sh
open Go Go.Am Go.Pol
theorem wx_Sxm {p q:Prop} (hq:q) (h:X4 q→p:=by (intro hQz;((repeat' ((try (conv=>whnf));first|refine sxA ?_|refine sxF ?_|refine Q8 (by assumption) rfl (by decide) ?_|refine K4 (by assumption) ?_|refine Q8 hc rfl (by decide) ?_|refine Q8 hr rfl (by decide) ?_|refine cx_locN (by assumption) ?_|refine cx_WN h1 rfl (by decide) ?_|refine Q8 h1 rfl (by decide) ?_|refine sxH ?_|((with_reducible first|apply V4 hQz|apply V5 hQz)<;>(try intro hsp hQz))|exact hQz.out))<;>(try (conv=>whnf))))):p:=h ⟨hq⟩
theorem AB8 (x:SAc):∀ y ∈ Af1 x,Plain y:=fun y hy=>by
 unfold Af1 at hy
 simp only [List.mem_cons,List.not_mem_nil,or_false] at hy
 rcases hy with rfl|rfl|rfl|rfl|rfl|rfl<;>first|exact A8|exact O5
theorem AJ6 (x:SAc):Plain (.agg (Af1 x)):=J2 (AB8 x)
theorem AL9 {X:List SAc}:Plain (.isl (X.map Af1)):=AJ7 fun e he=>by obtain ⟨x,_,rfl⟩:=List.mem_map.1 he;exact AB8 x
theorem AB7 (p:SPy):∀ y ∈ AX8 p,Plain y:=fun y hy=>by
 unfold AX8 at hy
 simp only [List.mem_cons,List.not_mem_nil,or_false] at hy
 rcases hy with rfl|rfl|rfl|rfl|rfl|rfl
 ·exact A8
 ·exact A8
 ·exact A8
 ·exact A8
 ·exact O5
 ·exact AL9
theorem l8 (p:SPy):Plain (.agg (AX8 p)):=J2 (AB7 p)
theorem end_Wg {top:Bool} {h:Hp} {N0 n:Nat} {x r:AV} {q:Sw} {t:WS} (ren:List (Nat × Nat)) (o w d m s:Nat) (hkp:AO3 N0 ren=true) (hm:N0≤n) (hone:Ab8 [rn ren o,rn ren w,rn ren d,rn ren m,rn ren s]=true)
  (hlt:o < n∧w < n∧d < n∧m < n∧s < n)
  (hr:AF7 (rn ren) h ⟨stN q t o w d m s,n⟩→WkV Try.prog (rn ren) h ⟨stN q t o w d m s,n⟩ x r) (g0:lk h.l (rn ren o)=some (.cells (stC (rn ren s) (rn ren w) (rn ren d) (rn ren m) q))) (g1:lk h.l (rn ren w)=some (.maps (encW pgE t.W))) (g2:lk h.l (rn ren d)=some (.maps (encW byE t.D))) (g3:lk h.l (rn ren m)=some (.maps (encW nuE t.H))) (g4:lk h.l (rn ren s)=some (.cells q.s.a)) :
  AT0 top Try.prog N0 h x (fun r' h'=>r'=r∧h'=⟨stN q t o w d m s,n⟩):=by
 have hs:AF7 (rn ren) h ⟨stN q t o w d m s,n⟩:=fun j x hi=>by
  simp only [stN,lk] at hi
  split at hi
  ·rename_i e;subst e;exact ⟨_,g0⟩
  ·split at hi
   ·rename_i e;subst e;exact ⟨_,g1⟩
   ·split at hi
    ·rename_i e;subst e;exact ⟨_,g2⟩
    ·split at hi
     ·rename_i e;subst e;exact ⟨_,g3⟩
     ·split at hi
      ·rename_i e;subst e;exact ⟨_,g4⟩
      ·cases hi
 refine r9 ren hkp hm (M6 (l:=stN q t o w d m s) hone) (hr hs) ?_ ⟨rfl,rfl⟩
 have:=BN7 (r:=[]) hs rfl rfl rfl rfl rfl hlt g0 g1 g2 g3 g4 I8
 exact this
structure LocWN (f:Nat) (avs:List AV) (s:Sy) (q:Sw) (t:WS):Prop where
 out:AO7 Try.prog G0 f (.ptr 0 0::avs) [(0,.cells s.a)] 1 fun x h=>x = .tup [.ptr 1 0,.int .i64 0]∧h=⟨stN q t 1 2 3 4 0,5⟩
 pa:∀ x ∈ avs,Plain x
theorem cx_WN {f:Nat} {avs:List AV} {s:Sy} {q:Sw} {t:WS} {g nx:Nat} {l:List (Nat × AObj)} {K:AV→Hp→Prop} (hc:LocWN f avs s q t) (h5:lk l g=some (.cells s.a)) (hlt:g < nx)
  (hk:AV1 [g] l fun l2=>K (.tup [.ptr nx 0,.int .i64 0]) ⟨([(nx,.cells (stC g (nx+1) (nx+2) (nx+3) q)),(nx+1,.maps (encW pgE t.W)),(nx+2,.maps (encW byE t.D)),(nx+3,.maps (encW nuE t.H)),(g,.cells q.s.a)]:List (Nat × AObj))++l2,nx+4⟩):AH3 Try.prog G0 (.fn f [] []) (.ptr g 0::avs) ⟨l,nx⟩ K:=by
 have e0:enter [g] g 0:=rfl
 have k0:back [g] nx 0 g:=rfl
 have k1:back [g] nx 1 nx:=rfl
 have k2:back [g] nx 2 (nx+1):=rfl
 have k3:back [g] nx 3 (nx+2):=rfl
 have k4:back [g] nx 4 (nx+3):=rfl
 refine AO5 (r':=.tup [.ptr nx 0,.int .i64 0]) (l1:=stN q t nx (nx+1) (nx+2) (nx+3) g) [g] hc.out H8 rfl (.cons e0 h5 (D7 F3) .nil)
  ?_ (by intro x hx;simp only [List.mem_cons,List.not_mem_nil,or_false] at hx;omega) (BE2 ⟨P6 k1,F4 A8,trivial⟩)
  (.cons k1 (AN8 k0 k2 k3 k4) (.maps k2 (D5 H9) (.maps k3 (D5 I5) (.maps k4 (D5 I4) (.cons k0 (D7 F3) .nil))))) hk
 simp only [List.nil_append,List.append_nil]
 exact ⟨P6 e0,D7 hc.pa⟩
section
variable {s:Sy} {a n pg sl:Int}
theorem AY0 {e:Int}:Plain (.tup [.nilp,.int .i64 e]):=F5 (O4 P9 A8)
theorem Ak8 {a b c d:Int}:∀ x ∈ [AV.int .i64 a,.int .i64 b,.int .i64 c,.int .i64 d],Plain x:=fun x hx=>by
 simp only [List.mem_cons,List.not_mem_nil,or_false] at hx
 rcases hx with rfl|rfl|rfl|rfl<;>exact A8
theorem BO9 (hg:GoodS s) (hn:¬ Z8 a n pg sl):AD8 28 [.int .i64 a,.int .i64 n,.int .i64 pg,.int .i64 sl] s.a (.tup [.nilp,.int .i64 7]) s.a:=by
 have hc:=Ak9 hg
 have hst:=Am0 a n pg sl
 rw [decide_eq_false hn] at hst
 unfold Sy.counts at hc
 refine AD8.mk (I6 F6 b28 rfl ?_) F3 F3 Ak8 AY0
 unfold c28
 generalize AS7 s.K 0 1024=n0 at *
 generalize AS7 s.K 1 1024=n1 at *
 generalize AS7 s.K 2 1024=n2 at *
 generalize AS7 s.K 3 1024=n3 at *
 generalize cntG s.G 64=n4 at *
 (refine wx_Sxm ?_;repeat' (first|with_reducible refine And.intro ?_ ?_|intro hsp))
 all_goals exact AI4 rfl AY0 rfl F3
theorem w_New_no (hg:GoodS s) (hn:Z8 a n pg sl) (he:(s.chg a n 0 1 0).1 ≠ 0):AD8 28 [.int .i64 a,.int .i64 n,.int .i64 pg,.int .i64 sl] s.a (.tup [.nilp,.int .i64 (s.chg a n 0 1 0).1]) (s.chg a n 0 1 0).2.a:=by
 have hc:=Ak9 hg
 have hst:=Am0 a n pg sl
 rw [decide_eq_true hn] at hst
 have hr:=As4 (a:=a) (n:=n) hg
 unfold Sy.counts at hc
 refine AD8.mk (I6 F6 b28 rfl ?_) F3 F3 Ak8 AY0
 unfold c28
 generalize AS7 s.K 0 1024=n0 at *
 generalize AS7 s.K 1 1024=n1 at *
 generalize AS7 s.K 2 1024=n2 at *
 generalize AS7 s.K 3 1024=n3 at *
 generalize cntG s.G 64=n4 at *
 generalize s.chg a n 0 1 0=r at *
 (refine wx_Sxm ?_;repeat' (first|with_reducible refine And.intro ?_ ?_|intro hsp))
 all_goals first|exact AI4 rfl AY0 rfl F3|(exfalso;omega)
theorem w_New (hg:GoodS s) (hn:Z8 a n pg sl) (he:(s.chg a n 0 1 0).1=0):LocWN 28 [.int .i64 a,.int .i64 n,.int .i64 pg,.int .i64 sl] s (Sw.nw (s.chg a n 0 1 0).2 a n pg sl) T0:=by
 have hc:=Ak9 hg
 have hst:=Am0 a n pg sl
 rw [decide_eq_true hn] at hst
 have hr:=As4 (a:=a) (n:=n) hg
 rw [he] at hr
 obtain ⟨n1',n2',n3',n4',n5',n6',n7',n8'⟩:=hn
 have e1:((a.toNat:Nat):Int)=a:=Int.toNat_of_nonneg n1'
 have e2:((n.toNat:Nat):Int)=n:=Int.toNat_of_nonneg (by omega)
 have e3:((pg.toNat:Nat):Int)=pg:=Int.toNat_of_nonneg (by omega)
 have e4:((sl.toNat:Nat):Int)=sl:=Int.toNat_of_nonneg (by omega)
 unfold Sy.counts at hc
 refine LocWN.mk (I6 F6 b28 rfl ?_) Ak8
 unfold c28
 generalize AS7 s.K 0 1024=n0 at *
 generalize AS7 s.K 1 1024=n1 at *
 generalize AS7 s.K 2 1024=n2 at *
 generalize AS7 s.K 3 1024=n3 at *
 generalize cntG s.G 64=n4 at *
 generalize s.chg a n 0 1 0=r at *
 (refine wx_Sxm ?_;repeat' (first|with_reducible refine And.intro ?_ ?_|intro hsp))
 all_goals exact end_Wg [(1,5),(2,2),(3,3),(4,4)] 1 2 3 4 0 rfl (by decide) rfl (by decide) (fun hs=>Ag0 (A9 (X6 (i:=1) rfl (show 1 < 5 by decide)) (A9 (N9 rfl) J9))) (by unfold stC Sw.nw;dsimp only;rw [e1,e2,e3,e4];rfl) (by unfold T0;rw [AL0];rfl) (by unfold T0;rw [AL0];rfl) (by unfold T0;rw [AL0];rfl) rfl
structure LocWB (avs:List AV) (q:Sw) (t:WS):Prop where
 out:AO7 Try.prog G0 11 avs [] 0 fun x h=>x = .tup [.ptr 4 0,.ptr 0 0,.int .i64 0]∧h=⟨stN q t 0 1 2 3 4,5⟩
 pa:∀ x ∈ avs,Plain x
theorem cx_WB {avs:List AV} {q:Sw} {t:WS} {nx:Nat} {l:List (Nat × AObj)} {K:AV→Hp→Prop} (hc:LocWB avs q t)
  (hk:K (.tup [.ptr (nx+4) 0,.ptr nx 0,.int .i64 0]) ⟨([(nx,.cells (stC (nx+4) (nx+1) (nx+2) (nx+3) q)),(nx+1,.maps (encW pgE t.W)),(nx+2,.maps (encW byE t.D)),(nx+3,.maps (encW nuE t.H)),(nx+4,.cells q.s.a)]:List (Nat × AObj))++l,nx+5⟩):AH3 Try.prog G0 (.fn 11 [] []) avs ⟨l,nx⟩ K:=by
 have k0:back [] nx 0 nx:=rfl
 have k1:back [] nx 1 (nx+1):=rfl
 have k2:back [] nx 2 (nx+2):=rfl
 have k3:back [] nx 3 (nx+3):=rfl
 have k4:back [] nx 4 (nx+4):=rfl
 exact AO5 (r':=.tup [.ptr (nx+4) 0,.ptr nx 0,.int .i64 0]) (l1:=stN q t nx (nx+1) (nx+2) (nx+3) (nx+4)) [] hc.out H8 rfl .nil (by simpa using D7 hc.pa) (by simp) (BE2 ⟨P6 k4,P6 k0,F4 A8,trivial⟩)
  (.cons k0 (AN8 k4 k1 k2 k3) (.maps k1 (D5 H9) (.maps k2 (D5 I5) (.maps k3 (D5 I4) (.cons k4 (D7 F3) .nil))))) (AS2 hk)
structure LocBE (avs:List AV) (e:Int) (ds:List AV):Prop where
 out:AO7 Try.prog G0 11 avs [] 0 fun x h=>x = .tup [.ptr 0 0,.nilp,.int .i64 e]∧h=⟨[(0,.cells ds)],1⟩
 pa:∀ x ∈ avs,Plain x
 pd:∀ x ∈ ds,Plain x
theorem cx_BE {avs:List AV} {e:Int} {ds:List AV} {nx:Nat} {l:List (Nat × AObj)} {K:AV→Hp→Prop} (hc:LocBE avs e ds) (hk:K (.tup [.ptr nx 0,.nilp,.int .i64 e]) ⟨(nx,.cells ds)::l,nx+1⟩):AH3 Try.prog G0 (.fn 11 [] []) avs ⟨l,nx⟩ K:=by
 have k0:back [] nx 0 nx:=rfl
 exact AO5 (r':=.tup [.ptr nx 0,.nilp,.int .i64 e]) (l1:=[(nx,.cells ds)]) [] hc.out H8 rfl .nil (by simpa using D7 hc.pa) (by simp) (BE2 ⟨P6 k0,F4 P9,F4 A8,trivial⟩)
  (.cons k0 (D7 hc.pd) .nil) (AS2 hk)
theorem end_BE {top:Bool} {h:Hp} {x:AV} {i:Nat} {ds:List AV} {e:Int} (hx:x = .tup [.ptr i 0,.nilp,.int .i64 e]) (h0:lk h.l i=some (.cells ds)) (pd:∀ x ∈ ds,Plain x):AT0 top Try.prog 0 h x (fun r' h'=>r' = .tup [.ptr 0 0,.nilp,.int .i64 e]∧h'=⟨[(0,.cells ds)],1⟩):=by
 subst hx
 have e0:rn [(0,i)] 0=i:=rfl
 have hs:AF7 (rn [(0,i)]) h ⟨[(0,.cells ds)],1⟩:=fun j o hj=>by
  simp only [lk] at hj
  split at hj
  ·rename_i e;subst e;exact ⟨_,h0⟩
  ·cases hj
 exact r9 [(0,i)] rfl (Nat.zero_le _) (M6 rfl) (Ag0 (A9 (X6 e0 (show 0 < 1 by decide)) (A9 (R6 hs P9) (A9 (N9 rfl) J9)))) (H7 hs (show 0 < 1 by decide) (by rw [e0];exact h0) rfl pd I8) ⟨rfl,rfl⟩
theorem BU6 {p:SPy}:∀ x ∈ [AV.agg (AX8 p)],Plain x:=V6 (l8 p)
theorem Ar8 {e:Int}:Plain (.tup [.nilp,.nilp,.int .i64 e]):=F5 (plain_three P9 P9 A8)
theorem l_begun (p:SPy):(∃ e,e ≠ 0∧e=(AF6 p.l).2∧J3 11 [.agg (AX8 p)] (.tup [.nilp,.nilp,.int .i64 e]))∨(∃ e ds,e ≠ 0∧LocBE [.agg (AX8 p)] e ds)∨((AF6 p.l).2=0∧Z8 p.a p.n p.pg p.sl∧((Sy.new p.l).chg p.a p.n 0 1 0).1=0∧LocWB [.agg (AX8 p)] p.b T0):=by
 by_cases hc:(AF6 p.l).2=0
 ·have hnw:=p_new (l:=p.l) (i:=(AF6 p.l).1) (Prod.ext rfl hc)
  have hg:=Am3 hc
  by_cases hst:Z8 p.a p.n p.pg p.sl
  ·by_cases he:((Sy.new p.l).chg p.a p.n 0 1 0).1=0
   ·have h1:=w_New hg hst he
    refine .inr (.inr ⟨hc,hst,he,LocWB.mk (I6 F6 b11 rfl ?_) BU6⟩)
    unfold c11
    unfold SPy.b AX8
    generalize Sy.new p.l=s0 at *
    generalize T0=t0 at *
    generalize Sw.nw (s0.chg p.a p.n 0 1 0).2 p.a p.n p.pg p.sl=q0 at *
    (refine wx_Sxm ?_;repeat' (first|with_reducible refine And.intro ?_ ?_|intro hsp))
    all_goals exact end_Wg [(0,2),(1,3),(2,4),(3,5),(4,1)] 0 1 2 3 4 rfl (by decide) rfl (by decide) (fun hs=>Ag0 (A9 (X6 (i:=4) rfl (show 4 < 5 by decide)) (A9 (X6 (i:=0) rfl (show 0 < 5 by decide)) (A9 (N9 rfl) J9)))) rfl rfl rfl rfl rfl
   ·have h1:=w_New_no hg hst he
    refine .inr (.inl ⟨_,((Sy.new p.l).chg p.a p.n 0 1 0).2.a,he,LocBE.mk (I6 F6 b11 rfl ?_) BU6 F3⟩)
    unfold c11
    unfold AX8
    generalize Sy.new p.l=s0 at *
    generalize s0.chg p.a p.n 0 1 0=r at *
    (refine wx_Sxm ?_;repeat' (first|with_reducible refine And.intro ?_ ?_|intro hsp))
    all_goals exact end_BE rfl rfl F3
  ·have h1:=BO9 hg hst
   refine .inr (.inl ⟨7,(Sy.new p.l).a,by decide,LocBE.mk (I6 F6 b11 rfl ?_) BU6 F3⟩)
   unfold c11
   unfold AX8
   generalize Sy.new p.l=s0 at *
   (refine wx_Sxm ?_;repeat' (first|with_reducible refine And.intro ?_ ?_|intro hsp))
   all_goals exact end_BE rfl rfl F3
 ·have hnw:=p_new_no (l:=p.l) (i:=(AF6 p.l).1) (e:=(AF6 p.l).2) rfl hc
  refine .inl ⟨_,hc,rfl,J3.mk (Q5 F6 b11 H8 ⟨l8 p,trivial⟩ Ar8 rfl ?_)⟩
  unfold c11
  unfold AX8
  generalize (AF6 p.l).2=e at *
  (refine wx_Sxm ?_;repeat' (first|with_reducible refine And.intro ?_ ?_|intro hsp))
  all_goals first|exact L9 rfl Ar8|(exfalso;omega)
end
end Go.Proofs.Ytbhgfoikbkaohaa.Sh
namespace Go.Pol
open Go.Am Go.Proofs.Ytbhgfoikbkaohaa.Sh
def Sw.al (q:Sw) (x:SAc):Int × Sw:=q.call (x.w.toNat % 14) x.t x.n x.v x.p x.l
def SPy.ok (p:SPy):Prop:=p.X.length≤50∧p.l.length≤60∧(p.n≤60∨1024 < p.n)
instance (p:SPy):Decidable p.ok:=by unfold SPy.ok;infer_instance
end Go.Pol
namespace Go.Proofs.Ytbhgfoikbkaohaa.Sh
open Go Go.Am Go.Pol
theorem plx_Sxn {p:Prop} (h:p:=by ((first|exact plw|(with_reducible first|apply U5|apply H9 _|apply I5 _|apply I4 _|apply AD1|apply O5|apply K8|apply P9|apply AJ6 _|apply l8 _|apply AL9|fail)|fail);first|done|fail)):p:=h
theorem ppx_Sxn {p:Prop} (h:p:=by ((first|with_reducible assumption|(with_reducible first|apply F3|apply AL3|apply AJ5|apply AD3|apply AK3|apply AB8 _|apply AB7 _|fail)|exact ppw|fail);first|done|fail)):p:=h
open Go.Proofs.Ytbhgfoikbkaohaa.Sh renaming plx_Sxn → plx
open Go.Proofs.Ytbhgfoikbkaohaa.Sh renaming ppx_Sxn → ppx
theorem wx_Sxn {p q:Prop} (hq:q) (h:X4 q→p:=by (intro hQz;((repeat' ((try (conv=>whnf));first|refine sxA ?_|refine AF2 (by with_reducible assumption) ?_|refine sxF ?_|refine AD5 (d:=dSA) BE0 (by first|assumption|omega) (by with_reducible assumption) ?_|refine AQ0 h2 rfl rfl rfl rfl rfl (by decide) rfl ?_|refine Q8 h2 rfl (by decide) ?_|refine sxH ?_|((with_reducible first|apply V4 hQz|apply V5 hQz)<;>(try intro hsp hQz))|exact hQz.out))<;>(try (conv=>whnf))))):p:=h ⟨hq⟩
theorem BX2 {p:SPy} (hl:p.X.length≤maxLen) (h:∃ x ∈ p.X,60 < x.l.length):J3 9 [.agg (AX8 p)] (.bool true):=by
 have hl:p.X.length≤9223372036854775807:=hl
 refine J3.mk (Q5 F6 b9 H8 ⟨l8 p,trivial⟩ D8 rfl ?_)
 unfold c9
 have hp:=AB7 p
 unfold AX8 at hp ⊢
 (refine wx_Sxn ?_;repeat' (first|with_reducible refine And.intro ?_ ?_|intro hsp))
 (refine O9 [1] (fun (i:Nat)=>[(3,.int .i64 (i:Nat))]) (fun (i:Nat)=>⟨[(0,.cells [.int .i64 p.a,.int .i64 p.n,.int .i64 p.pg,.int .i64 p.sl,.isl (p.l.map rlA),.isl (p.X.map Af1)])],1⟩) (fun (i:Nat)=>∃ j,i≤j∧j < p.X.length∧60 < (nth dSA p.X j).l.length) (fun (i:Nat)=>p.X.length - i) (0) [] rfl (fun _=>by first|exact Nat.zero_le _|(dsimp only;omega)) ?_ (by ((try (conv=>whnf));exact p8)) ?_)
 ·obtain ⟨x,hx,h6⟩:=h
  obtain ⟨j,hj,rfl⟩:=List.getElem_of_mem hx
  exact ⟨j,Nat.zero_le _,hj,by rw [p9 hj];exact h6⟩
 intro i hi
 obtain ⟨j,h1,h2,h3⟩:=hi
 have hil:i < p.X.length:=by omega
 have hne:¬ 60 < (nth dSA p.X i).l.length→∃ j,i+1≤j∧j < p.X.length∧60 < (nth dSA p.X j).l.length:=fun hn=>⟨j,by
  by_cases e:i=j
  ·exact absurd (e▸h3) hn
  ·omega,h2,h3⟩
 clear h1 h2 h3
 by_cases hn:60 < (nth dSA p.X i).l.length
 ·clear hne
  generalize hx:nth dSA p.X i=x at *
  (refine wx_Sxn ?_;repeat' (first|with_reducible refine And.intro ?_ ?_|intro hsp))
  all_goals first|exact F8 rfl|(exfalso;omega)
 ·have hne2:=hne hn
  clear hne
  generalize hx:nth dSA p.X i=x at *
  (refine wx_Sxn ?_;repeat' (first|with_reducible refine And.intro ?_ ?_|intro hsp))
  all_goals first|(exfalso;omega)|exact G6 (i+1) [] hne2 (by first|omega|(dsimp only;omega)) rfl (by exact p8)
theorem k_far_no {p:SPy} (hl:p.X.length≤maxLen) (h:¬ ∃ x ∈ p.X,60 < x.l.length):J3 9 [.agg (AX8 p)] (.bool (decide (¬ p.ok))):=by
 have hl:p.X.length≤9223372036854775807:=hl
 refine J3.mk (Q5 F6 b9 H8 ⟨l8 p,trivial⟩ D8 rfl ?_)
 unfold c9
 unfold AX8
 (refine wx_Sxn ?_;repeat' (first|with_reducible refine And.intro ?_ ?_|intro hsp))
 (refine O9 [1] (fun (i:Nat)=>[(3,.int .i64 (i:Nat))]) (fun (i:Nat)=>⟨[(0,.cells [.int .i64 p.a,.int .i64 p.n,.int .i64 p.pg,.int .i64 p.sl,.isl (p.l.map rlA),.isl (p.X.map Af1)])],1⟩) (fun (i:Nat)=>i≤p.X.length) (fun (i:Nat)=>p.X.length - i) (0) [] rfl (fun _=>by first|exact Nat.zero_le _|(dsimp only;omega)) ?_ (by ((try (conv=>whnf));exact p8)) ?_)
 ·exact Nat.zero_le _
 intro i hi
 by_cases hil:i < p.X.length
 ·have hn:¬ 60 < (nth dSA p.X i).l.length:=fun h2=>h ⟨_,Ab7 (d:=dSA) hil,h2⟩
  generalize hx:nth dSA p.X i=x at *
  (refine wx_Sxn ?_;repeat' (first|with_reducible refine And.intro ?_ ?_|intro hsp))
  all_goals first|(exfalso;omega)|exact G6 (i+1) [] (by (try dsimp only);omega) (by first|omega|(dsimp only;omega)) rfl (by exact p8)
 ·clear h
  (refine wx_Sxn ?_;repeat' (first|with_reducible refine And.intro ?_ ?_|intro hsp))
  all_goals exact F8 (by first|exact (decide_eq_true (show ¬ p.ok from fun ⟨h1,h2,h3⟩=>by omega)).symm|exact (decide_eq_false (show ¬ ¬ p.ok from fun hn=>hn ⟨by omega,by omega,by omega⟩)).symm|exact decide_eq_decide.2 ⟨fun h4 ⟨h1,h2,h3⟩=>(by omega),fun hn=>Classical.byContradiction fun h4=>hn ⟨by omega,by omega,by omega⟩⟩)
theorem k_far (p:SPy) (hl:p.X.length≤maxLen):∃ b,J3 9 [.agg (AX8 p)] (.bool b)∧(b=false→p.ok∧∀ x ∈ p.X,x.l.length≤60):=by
 by_cases h:∃ x ∈ p.X,60 < x.l.length
 ·exact ⟨true,BX2 hl h,fun e=>by cases e⟩
 ·refine ⟨_,k_far_no hl h,fun e=>⟨?_,fun x hx=>Classical.byContradiction fun hn=>h ⟨x,hx,by omega⟩⟩⟩
  have:=of_decide_eq_false e
  exact Classical.not_not.1 this
structure LocA (x:SAc) (q:Sw) (t:WS) (e:Int) (q':Sw) (t':WS):Prop where
 out:AO7 Try.prog G0 13 [.ptr 4 0,.ptr 0 0,.agg (Af1 x)] (stN q t 0 1 2 3 4) 5 fun y h1=>y = .int .i64 e∧h1=⟨stN q' t' 0 1 2 3 4,5⟩
theorem cx_A {x:SAc} {q q':Sw} {t t':WS} {v:Int} {o w d m s nx:Nat} {l:List (Nat × AObj)} {K:AV→Hp→Prop} (hc:LocA x q t v q' t')
  (g0:lk l o=some (.cells (stC s w d m q))) (g1:lk l w=some (.maps (encW pgE t.W))) (g2:lk l d=some (.maps (encW byE t.D))) (g3:lk l m=some (.maps (encW nuE t.H))) (g4:lk l s=some (.cells q.s.a))
  (hlt:o < nx∧w < nx∧d < nx∧m < nx∧s < nx) (hd:Ab8 [o,w,d,m,s]=true)
  (hk:AV1 [o,w,d,m,s] l fun l2=>K (.int .i64 v) ⟨([(o,.cells (stC s w d m q')),(w,.maps (encW pgE t'.W)),(d,.maps (encW byE t'.D)),(m,.maps (encW nuE t'.H)),(s,.cells q'.s.a)]:List (Nat × AObj))++l2,nx⟩):AH3 Try.prog G0 (.fn 13 [] []) [.ptr s 0,.ptr o 0,.agg (Af1 x)] ⟨l,nx⟩ K:=by
 have e0:enter [o,w,d,m,s] o 0:=rfl
 have e1:enter [o,w,d,m,s] w 1:=rfl
 have e2:enter [o,w,d,m,s] d 2:=rfl
 have e3:enter [o,w,d,m,s] m 3:=rfl
 have e4:enter [o,w,d,m,s] s 4:=rfl
 have k0:back [o,w,d,m,s] nx 0 o:=rfl
 have k1:back [o,w,d,m,s] nx 1 w:=rfl
 have k2:back [o,w,d,m,s] nx 2 d:=rfl
 have k3:back [o,w,d,m,s] nx 3 m:=rfl
 have k4:back [o,w,d,m,s] nx 4 s:=rfl
 refine AO5 (l1:=stN q' t' o w d m s) [o,w,d,m,s] hc.out H8 hd
  (.cons e0 g0 (AN8 e4 e1 e2 e3) (.maps e1 g1 (D5 H9) (.maps e2 g2 (D5 I5) (.maps e3 g3 (D5 I4) (.cons e4 g4 (D7 F3) .nil)))))
  ?_ (by intro x hx;simp only [List.mem_cons,List.not_mem_nil,or_false] at hx;omega) (F4 A8)
  (.cons k0 (AN8 k4 k1 k2 k3) (.maps k1 (D5 H9) (.maps k2 (D5 I5) (.maps k3 (D5 I4) (.cons k4 (D7 F3) .nil))))) hk
 simp only [List.nil_append,List.append_nil]
 exact ⟨P6 e4,P6 e0,F4 (AJ6 x),trivial⟩
section
variable {q:Sw} {t:WS}
theorem BW4 (hg:E5 q) (h:WOk q t) (x:SAc) (hw:0≤x.w):∃ t',WOk (q.al x).2 t'∧LocA x q t (q.al x).1 (q.al x).2 t':=by
 have h0:x.w.tmod 14=x.w % 14:=Int.tmod_eq_emod_of_nonneg hw
 have hm:((x.w.toNat % 14:Nat):Int)=x.w.tmod 14:=by rw [h0];omega
 unfold Sw.al Sw.call
 generalize x.w.toNat % 14=w at *
 have hw14:0≤x.w.tmod 14∧x.w.tmod 14 < 14:=by rw [h0];omega
 by_cases c1:w < 6
 ·rw [if_pos c1]
  obtain ⟨t',h2,hO⟩:=AZ7 hg h x.t x.n x.v
  refine ⟨t',hO,⟨I6 F6 b13 rfl ?_⟩⟩
  unfold c13
  unfold stN stC Af1
  generalize q.write x.t x.n x.v=r at *
  rcases (show x.w.tmod 14=0∨x.w.tmod 14=1∨x.w.tmod 14=2∨x.w.tmod 14=3∨x.w.tmod 14=4∨x.w.tmod 14=5 by omega) with hy|hy|hy|hy|hy|hy
  all_goals (refine wx_Sxn ?_;repeat' (first|with_reducible refine And.intro ?_ ?_|intro hsp))
  all_goals first|exact K9 (q:=r.2) (t:=t') rfl A8 rfl rfl rfl rfl rfl|(exfalso;omega)
 rw [if_neg c1]
 by_cases c2:w < 10
 ·rw [if_pos c2]
  obtain ⟨t',h2,hO⟩:=BD1 hg h x.t x.n
  refine ⟨t',hO,⟨I6 F6 b13 rfl ?_⟩⟩
  unfold c13
  unfold stN stC Af1
  generalize q.read x.t x.n=r at *
  rcases (show x.w.tmod 14=6∨x.w.tmod 14=7∨x.w.tmod 14=8∨x.w.tmod 14=9 by omega) with hy|hy|hy|hy
  all_goals (refine wx_Sxn ?_;repeat' (first|with_reducible refine And.intro ?_ ?_|intro hsp))
  all_goals first|exact K9 (q:=r.2.2) (t:=t') rfl A8 rfl rfl rfl rfl rfl|(exfalso;omega)
 rw [if_neg c2]
 by_cases c3:w=10
 ·rw [if_pos c3]
  obtain ⟨t',h2,hO⟩:=w_Out hg h x.p
  refine ⟨t',hO,⟨I6 F6 b13 rfl ?_⟩⟩
  unfold c13
  unfold stN stC Af1
  generalize q.out x.p=r at *
  rcases (show x.w.tmod 14=10 by omega) with hy
  all_goals (refine wx_Sxn ?_;repeat' (first|with_reducible refine And.intro ?_ ?_|intro hsp))
  all_goals first|exact K9 (q:=r.2) (t:=t') rfl A8 rfl rfl rfl rfl rfl|(exfalso;omega)
 rw [if_neg c3]
 by_cases c4:w=11
 ·rw [if_pos c4]
  obtain ⟨t',h2,hO⟩:=w_Free hg h x.p
  refine ⟨t',hO,⟨I6 F6 b13 rfl ?_⟩⟩
  unfold c13
  unfold stN stC Af1
  generalize q.fre x.p=r at *
  rcases (show x.w.tmod 14=11 by omega) with hy
  all_goals (refine wx_Sxn ?_;repeat' (first|with_reducible refine And.intro ?_ ?_|intro hsp))
  all_goals first|exact K9 (q:=r.2) (t:=t') rfl A8 rfl rfl rfl rfl rfl|(exfalso;omega)
 rw [if_neg c4]
 by_cases c5:w=13
 ·rw [if_pos c5]
  have h2:=p_plan q.s x.l
  refine ⟨t,AT1 h _,⟨I6 F6 b13 rfl ?_⟩⟩
  unfold c13
  unfold stN stC Af1
  generalize q.s.plan x.l=r at *
  rcases (show x.w.tmod 14=13 by omega) with hy
  all_goals (refine wx_Sxn ?_;repeat' (first|with_reducible refine And.intro ?_ ?_|intro hsp))
  all_goals first|exact K9 (q:={ q with s:=r.2 }) (t:=t) rfl A8 rfl rfl rfl rfl rfl|(exfalso;omega)
 rw [if_neg c5]
 refine ⟨t,h,⟨I6 F6 b13 rfl ?_⟩⟩
 unfold c13
 unfold stN stC Af1
 have hy:x.w.tmod 14=12:=by omega
 (refine wx_Sxn ?_;repeat' (first|with_reducible refine And.intro ?_ ?_|intro hsp))
 all_goals first|exact K9 (q:=q) (t:=t) rfl A8 rfl rfl rfl rfl rfl|(exfalso;omega)
end
end Go.Proofs.Ytbhgfoikbkaohaa.Sh
namespace Go.Pol
open Go.Am Go.Proofs.Ytbhgfoikbkaohaa.Sh
section
variable {w:Sw}
theorem AC5 (h:E5 w) (t now v:Int):E5 (w.write t now v).2:=by
 by_cases he:(w.write t now v).1=0
 ·exact (BN3 h he).2.1
 ·unfold Sw.write at he ⊢
  by_cases hn:w.nums t now
  ·rw [if_neg (Classical.not_not.2 hn)] at he ⊢
   have hn2:=hn
   obtain ⟨n1,n2,n3,n4⟩:=hn2
   by_cases ht:(w.touch (t.toNat / 64) now).1=0
   ·rw [if_pos ht] at he
    have hg:=W9 h (p:=t.toNat / 64) (now:=now) (by omega) ⟨n3,n4⟩
    rcases AL5 h (p:=t.toNat / 64) now with hy|hno
    ·exact absurd (Ao2 hg n1 hy.fr).1 he
    ·exact absurd ht hno.e
   ·rw [if_neg ht]
    exact W9 h (by omega) ⟨n3,n4⟩
  ·rw [if_pos hn];exact h
theorem AM7 (h:E5 w) (t now:Int):E5 (w.read t now).2.2:=by
 unfold Sw.read
 by_cases hn:w.nums t now
 ·rw [if_neg (Classical.not_not.2 hn)]
  obtain ⟨n1,n2,n3,n4⟩:=hn
  have hg:=W9 h (p:=t.toNat / 64) (now:=now) (by omega) ⟨n3,n4⟩
  split
  ·exact h
  ·split
   ·exact hg
   ·exact hg
 ·rw [if_pos hn];exact h
theorem At7 (h:E5 w) (p:Int):E5 (w.out p).2:=by
 by_cases he:(w.out p).1=0
 ·exact (out_yes h he).1
 ·rw [out_no p he];exact h
theorem good_al (h:E5 w) (x:SAc):E5 (w.al x).2:=by
 unfold Sw.al Sw.call
 split
 ·exact AC5 h _ _ _
 ·split
  ·exact AM7 h _ _
  ·split
   ·exact At7 h _
   ·split
    ·exact BG3 h _
    ·split
     ·exact planW h _
     ·exact h
end
def ex0:Sw:=Sw.nw ((Sy.new []).chg 8 1 0 1 0).2 8 1 4 2
def ex1:Sw:=(ex0.write 0 1 5).2
def ex2:Sw:=(ex1.write 64 2 6).2
def ex3:Sw:=(ex2.read 0 3).2.2
def ex4:Sw:=(ex3.read 64 4).2.2
def ex5:Sw:=(ex4.read 128 5).2.2
def ex6:Sw:=(ex5.write 128 6 7).2
def ex7:Sw:=(ex6.write 192 7 8).2
def ex8:Sw:=(ex7.out 2).2
def ex9:Sw:=(ex8.fre 0).2
set_option maxRecDepth 100000 in
theorem ex_0:((Sy.new []).chg 8 1 0 1 0).1=0:=by decide +kernel
set_option maxRecDepth 100000 in
theorem ex_1:(ex0.write 0 1 5).1=0:=by decide +kernel
set_option maxRecDepth 100000 in
theorem ex_2:(ex1.write 64 2 6).1=0:=by decide +kernel
set_option maxRecDepth 100000 in
theorem ex_3:(ex2.read 0 3).1=5∧(ex2.read 0 3).2.1=0:=by decide +kernel
set_option maxRecDepth 100000 in
theorem ex_4:(ex3.read 64 4).1=6∧(ex3.read 64 4).2.1=0:=by decide +kernel
set_option maxRecDepth 100000 in
theorem ex_5:(ex4.read 128 5).1=0∧(ex4.read 128 5).2.1=0∧ex5.ins=2∧ex5.outs=3:=by decide +kernel
set_option maxRecDepth 100000 in
theorem ex_6:(ex5.write 128 6 7).1=0:=by decide +kernel
set_option maxRecDepth 100000 in
theorem ex_7:(ex6.write 192 7 8).1=5:=by decide +kernel
set_option maxRecDepth 100000 in
theorem ex_8:(ex7.out 2).1=5:=by decide +kernel
set_option maxRecDepth 100000 in
theorem ex_9:(ex8.fre 0).1=0:=by decide +kernel
set_option maxRecDepth 100000 in
theorem ex_10:(ex9.out 2).1=0:=by decide +kernel
end Go.Pol
