/-
 The calls of a store: reading,writing,putting out,freeing,the victim,what it counts.
 What a store counts;its state.
 The ends of Save: growing slices become values.
 The state of a store.
 A store is made.
 far,alone.
 A store stays one;the example.
 Calls with a nil plan;acts.
 The example.
 SwapVictims.
 Save of the program.
 Equal states are the same;SwapKeeps.
-/
import Derived.Test.YtbhgfoikbkaohaaQao
set_option linter.unusedSimpArgs false
set_option linter.unusedVariables false
set_option maxHeartbeats 12800000
namespace Go.Pol
open Go.Am Go.Proofs.Ytbhgfoikbkaohaa.Sh
theorem Au6 {β:Type} {k:Int}:∀ {L:List (Int × β)},mgI L k=none→mdI L k=L
 | [],_=>rfl
 | e::L,h=>by
  unfold mgI at h
  split at h
  ·cases h
  ·rename_i hne
   unfold mdI
   rw [if_neg hne,Au6 h]
section
variable {q:Sw} {t:WS}
theorem md_D (h:WOk q t) {k:Int} (hk:k < 0):mdI t.D k=t.D:=Au6 (AZ5 h hk)
theorem md_H (h:WOk q t) {k:Int} (hk:k < 0):mdI t.H k=t.H:=Au6 (Ae3 h hk)
end
end Go.Pol
namespace Go.Proofs.Ytbhgfoikbkaohaa.Sh
open Go Go.Am Go.Pol
theorem wx_Sxj {p q:Prop} (hq:q) (h:Y7 q→p:=by (intro hQz;((repeat' ((try (conv=>whnf));first|refine sxA ?_|refine AO5 hW rfl ?_|refine AI9 hW rfl ?_|refine sxF ?_|refine AP6 w_is rfl rfl rfl rfl rfl (by decide) rfl ?_|refine AP6 hS rfl rfl rfl rfl rfl (by decide) rfl ?_|refine AP6 hV rfl rfl rfl rfl rfl (by decide) rfl ?_|refine sxH ?_|((with_reducible first|apply V7 hQz|apply V8 hQz)<;>(try intro hsp hQz))|exact hQz.out))<;>(try (conv=>whnf))))):p:=h ⟨hq⟩
theorem wx_Sxjn {p q:Prop} (hq:q) (h:Y7 q→p:=by (intro hQz;((repeat' ((try (conv=>whnf));first|refine sxA ?_|refine AI9 hW rfl ?_|refine BP6 rfl ?_|refine sxN ?_|refine AP6 w_is rfl rfl rfl rfl rfl (by decide) rfl ?_|refine AP6 hS rfl rfl rfl rfl rfl (by decide) rfl ?_|refine AP6 hO rfl rfl rfl rfl rfl (by decide) rfl ?_|refine AP2 hdec rfl rfl ?_|refine S9 hdec rfl (by decide) ?_|refine sxH ?_|((with_reducible first|apply V7 hQz|apply V8 hQz)<;>(try intro hsp hQz))|exact hQz.out))<;>(try (conv=>whnf))))):p:=h ⟨hq⟩
section
variable {q:Sw} {t:WS}
theorem BJ4 (hg:E9 q) (h:WOk q t) (at_ now:Int):∃ t',J9 12 [.int .i64 at_,.int .i64 now] q t (.tup [.int .u8 (q.read at_ now).1,.int .i64 (q.read at_ now).2.1]) (q.read at_ now).2.2 t'∧WOk (q.read at_ now).2.2 t':=by
 have hrng:=hg.rng
 have hN:=Al2 (q:=q) (t:=t) hrng.2.2.2.1 at_ now
 by_cases hn:q.nums at_ now
 ·rw [decide_eq_true hn] at hN
  obtain ⟨n1,n2,n3,n4⟩:=hn
  obtain ⟨a,rfl⟩:=Int.eq_ofNat_of_zero_le n1
  have ha:a < 100000:=by omega
  by_cases hi:q.is (a / 64)
  ·obtain ⟨t',hT,hO⟩:=BJ3 hg h (p:=a / 64) (now:=now) (by omega)
   by_cases he:(q.touch (a / 64) now).1=0
   ·have er:q.read (a:Nat) now=(((q.touch (a / 64) now).2.s.read ((q.touch (a / 64) now).2.F (a / 64) * 64+((a:Nat):Int) % 64)).1,((q.touch (a / 64) now).2.s.read ((q.touch (a / 64) now).2.F (a / 64) * 64+((a:Nat):Int) % 64)).2,(q.touch (a / 64) now).2):=by
     unfold Sw.read
     rw [if_neg (Classical.not_not.2 ⟨n1,n2,n3,n4⟩),Int.toNat_natCast,if_neg (Classical.not_not.2 hi),if_pos he]
    rw [er]
    refine ⟨t',?_,hO⟩
    rcases AU4 hg (p:=a / 64) now with hy|hno
    ·have hg2:=o8 hg (p:=a / 64) (now:=now) (by omega) ⟨n3,n4⟩
     rw [he] at hT
     obtain ⟨f,f0,f1,f2,_⟩:=AB2 hg2 hy.fr
     have hr2:=hg2.rng
     have hW':=AO8 hO.ww (p:=a / 64) (.inl hy.fr)
     rw [f0] at hW'
     have hR:=p_read (s:=(q.touch (a / 64) now).2.s) (a:=((f:Nat):Int) * 64+((a % 64:Nat):Int))
     dsimp only
     rw [f0,emod64]
     exact w_ReadY hN ha (by omega) (AO8 h.ww hi) hT hW' hR
    ·exact absurd he hno.e
   ·have er:q.read (a:Nat) now=(0,(q.touch (a / 64) now).1,(q.touch (a / 64) now).2):=by
     unfold Sw.read
     rw [if_neg (Classical.not_not.2 ⟨n1,n2,n3,n4⟩),Int.toNat_natCast,if_neg (Classical.not_not.2 hi),if_neg he]
    rw [er]
    exact ⟨t',w_ReadE hN ha (AO8 h.ww hi) hT he,hO⟩
  ·have er:q.read (a:Nat) now=(0,0,q):=by
    unfold Sw.read
    rw [if_neg (Classical.not_not.2 ⟨n1,n2,n3,n4⟩),Int.toNat_natCast,if_pos hi]
   rw [er]
   exact ⟨t,w_ReadZ hN ha (BR4 h.ww hi),h⟩
 ·have er:q.read at_ now=(0,7,q):=by unfold Sw.read;rw [if_pos hn]
  rw [er]
  rw [decide_eq_false hn] at hN
  exact ⟨t,w_ReadN hN,h⟩
theorem Ag0 (hg:E9 q) (h:WOk q t) (at_ now v:Int):∃ t',J9 26 [.int .i64 at_,.int .i64 now,.int .u8 v] q t (.int .i64 (q.write at_ now v).1) (q.write at_ now v).2 t'∧WOk (q.write at_ now v).2 t':=by
 have hrng:=hg.rng
 have hN:=Al2 (q:=q) (t:=t) hrng.2.2.2.1 at_ now
 by_cases hn:q.nums at_ now
 ·rw [decide_eq_true hn] at hN
  obtain ⟨n1,n2,n3,n4⟩:=hn
  obtain ⟨a,rfl⟩:=Int.eq_ofNat_of_zero_le n1
  have ha:a < 100000:=by omega
  obtain ⟨t',hT,hO⟩:=BJ3 hg h (p:=a / 64) (now:=now) (by omega)
  by_cases he:(q.touch (a / 64) now).1=0
  ·have er:q.write (a:Nat) now v=(q.touch (a / 64) now).2.byte (a:Nat) v:=by
    unfold Sw.write
    rw [if_neg (Classical.not_not.2 ⟨n1,n2,n3,n4⟩),Int.toNat_natCast,if_pos he]
   rw [er]
   refine ⟨t',?_,AW7 hO _⟩
   rcases AU4 hg (p:=a / 64) now with hy|hno
   ·have hg2:=o8 hg (p:=a / 64) (now:=now) (by omega) ⟨n3,n4⟩
    rw [he] at hT
    obtain ⟨f,f0,f1,f2,_⟩:=AB2 hg2 hy.fr
    have hr2:=hg2.rng
    have hW':=AO8 hO.ww (p:=a / 64) (.inl hy.fr)
    rw [f0] at hW'
    have hR:=BO6 (s:=(q.touch (a / 64) now).2.s) (a:=((f:Nat):Int) * 64+((a % 64:Nat):Int)) (b:=v)
    unfold Sw.byte
    dsimp only
    rw [Int.toNat_natCast,f0,emod64]
    exact w_WriteY hN ha (by omega) hT hW' hR
   ·exact absurd he hno.e
  ·have er:q.write (a:Nat) now v=q.touch (a / 64) now:=by
    unfold Sw.write
    rw [if_neg (Classical.not_not.2 ⟨n1,n2,n3,n4⟩),Int.toNat_natCast,if_neg he]
   rw [er]
   exact ⟨t',w_WriteE hN ha hT he,hO⟩
 ·have er:q.write at_ now v=(7,q):=by unfold Sw.write;rw [if_pos hn]
  rw [er]
  rw [decide_eq_false hn] at hN
  exact ⟨t,w_WriteN hN,h⟩
section
variable {p e z x:Int} {f k:Nat} {q1:Sw} {t1:WS} {s2:Sy}
theorem w_OutR (hpg:q.pg≤256) (hp:p < 0∨(q.pg:Nat)≤p):J9 27 [.int .i64 p] q t (.int .i64 7) q t:=by
 refine J9.mk (J6 F6 b27 rfl ?_) (U8 A8) A8
 unfold c27
 unfold stN stC
 (refine wx_Sxj ?_;repeat' (first|with_reducible refine And.intro ?_ ?_|intro hsp))
 all_goals first|(exfalso;omega)|exact K8 rfl A8 rfl rfl rfl rfl rfl
theorem w_OutO (hp:0≤p∧p < (q.pg:Nat)) (hW:mgI t.W p=none):J9 27 [.int .i64 p] q t (.int .i64 4) q t:=by
 refine J9.mk (J6 F6 b27 rfl ?_) (U8 A8) A8
 unfold c27
 unfold stN stC
 (refine wx_Sxj ?_;repeat' (first|with_reducible refine And.intro ?_ ?_|intro hsp))
 all_goals first|(exfalso;omega)|exact K8 rfl A8 rfl rfl rfl rfl rfl
theorem w_OutP (hp:0≤p∧p < (q.pg:Nat)) (hW:mgI t.W p=some (e,x,z)) (he:e < 0):J9 27 [.int .i64 p] q t (.int .i64 4) q t:=by
 refine J9.mk (J6 F6 b27 rfl ?_) (U8 A8) A8
 unfold c27
 unfold stN stC
 (refine wx_Sxj ?_;repeat' (first|with_reducible refine And.intro ?_ ?_|intro hsp))
 all_goals first|(exfalso;omega)|exact K8 rfl A8 rfl rfl rfl rfl rfl
theorem w_OutF (hp:0≤p∧p < (q.pg:Nat)) (hW:mgI t.W p=some (((f:Nat):Int),x,z)) (hS:J9 48 [.int .i64 (-1)] q t (.int .i64 (-1)) q t):J9 27 [.int .i64 p] q t (.int .i64 5) q t:=by
 refine J9.mk (J6 F6 b27 rfl ?_) (U8 A8) A8
 unfold c27
 unfold stN stC
 (refine wx_Sxj ?_;repeat' (first|with_reducible refine And.intro ?_ ?_|intro hsp))
 all_goals first|(exfalso;omega)|exact K8 rfl A8 rfl rfl rfl rfl rfl
theorem w_OutY (hp:0≤p∧p < (q.pg:Nat)) (hW:mgI t.W p=some (((f:Nat):Int),x,z)) (hS:J9 48 [.int .i64 (-1)] q t (.int .i64 (k:Nat)) q t) (hO:J9 49 [.int .i64 p,.int .i64 (k:Nat)] q t (.tup []) q1 t1)
  (hdec:AJ6 46 [.int .i64 (f:Nat),.int .i64 1] q1.s.a (.int .i64 e) s2.a):J9 27 [.int .i64 p] q t (.int .i64 0) { q1 with s:=s2 } t1:=by
 refine J9.mk (J6 F6 b27 rfl ?_) (U8 A8) A8
 unfold c27
 unfold stN stC
 (refine wx_Sxjn ?_;repeat' (first|with_reducible refine And.intro ?_ ?_|intro hsp))
 all_goals first|(exfalso;omega)|exact K8 (q:={ q1 with s:=s2 }) rfl A8 rfl rfl rfl rfl rfl
theorem w_FreeR (hpg:q.pg≤256) (hp:p < 0∨(q.pg:Nat)≤p):J9 25 [.int .i64 p] q t (.int .i64 7) q t:=by
 refine J9.mk (J6 F6 b25 rfl ?_) (U8 A8) A8
 unfold c25
 unfold stN stC
 (refine wx_Sxj ?_;repeat' (first|with_reducible refine And.intro ?_ ?_|intro hsp))
 all_goals first|(exfalso;omega)|exact K8 rfl A8 rfl rfl rfl rfl rfl
theorem w_FreeO (hp:0≤p∧p < (q.pg:Nat)) (hW:mgI t.W p=none):J9 25 [.int .i64 p] q t (.int .i64 4) q t:=by
 refine J9.mk (J6 F6 b25 rfl ?_) (U8 A8) A8
 unfold c25
 unfold stN stC
 (refine wx_Sxj ?_;repeat' (first|with_reducible refine And.intro ?_ ?_|intro hsp))
 all_goals first|(exfalso;omega)|exact K8 rfl A8 rfl rfl rfl rfl rfl
theorem w_FreeS (hp:0≤p∧p < (q.pg:Nat)) (hW:mgI t.W p=some (e,x,z)) (he:e < 0):J9 25 [.int .i64 p] q t (.int .i64 0) q ⟨mdI t.W p,mdI t.D x,t.H⟩:=by
 refine J9.mk (J6 F6 b25 rfl ?_) (U8 A8) A8
 unfold c25
 unfold stN stC
 (refine wx_Sxjn ?_;repeat' (first|with_reducible refine And.intro ?_ ?_|intro hsp))
 all_goals first|(exfalso;omega)|exact K8 (q:=q) (t:=⟨mdI t.W p,mdI t.D x,t.H⟩) rfl A8 rfl rfl rfl rfl rfl
theorem w_FreeF (hp:0≤p∧p < (q.pg:Nat)) (hW:mgI t.W p=some (((f:Nat):Int),x,z)) (hdec:AJ6 46 [.int .i64 (f:Nat),.int .i64 1] q.s.a (.int .i64 e) s2.a):J9 25 [.int .i64 p] q t (.int .i64 0) { q with s:=s2 } ⟨mdI t.W p,t.D,mdI t.H (f:Nat)⟩:=by
 refine J9.mk (J6 F6 b25 rfl ?_) (U8 A8) A8
 unfold c25
 unfold stN stC
 (refine wx_Sxjn ?_;repeat' (first|with_reducible refine And.intro ?_ ?_|intro hsp))
 all_goals first|(exfalso;omega)|exact K8 (q:={ q with s:=s2 }) (t:=⟨mdI t.W p,t.D,mdI t.H (f:Nat)⟩) rfl A8 rfl rfl rfl rfl rfl
end
theorem w_Out (hg:E9 q) (h:WOk q t) (p:Int):∃ t',J9 27 [.int .i64 p] q t (.int .i64 (q.out p).1) (q.out p).2 t'∧WOk (q.out p).2 t':=by
 have hrng:=hg.rng
 have hcnt:=hg.cnt
 by_cases hp:0≤p∧p < (q.pg:Nat)
 ·obtain ⟨n,rfl⟩:=Int.eq_ofNat_of_zero_le hp.1
  by_cases hF:q.F n < 0
  ·have er:q.out (n:Nat)=(4,q):=by unfold Sw.out;rw [if_neg (Classical.not_not.2 hp),Int.toNat_natCast,if_pos hF]
   rw [er]
   refine ⟨t,?_,h⟩
   by_cases hi:q.is n
   ·exact w_OutP hp (AO8 h.ww hi) hF
   ·exact w_OutO hp (BR4 h.ww hi)
  ·obtain ⟨f,f0,f1,f2,f3⟩:=AB2 hg (p:=n) (by omega)
   have hW:=AO8 h.ww (p:=n) (.inl (by omega))
   rw [f0] at hW
   have hS:=w_slot h hrng.2.2.2.2 (-1)
   cases hsl:q.slot (-1) with
   | none =>
    have er:q.out (n:Nat)=(5,q):=by unfold Sw.out;rw [if_neg (Classical.not_not.2 hp),Int.toNat_natCast,if_neg hF,hsl]
    rw [er]
    rw [hsl] at hS
    exact ⟨t,w_OutF hp hW hS,h⟩
   | some k =>
    have er:q.out (n:Nat)=(0,(q.put n k).gone (q.F n)):=by unfold Sw.out;rw [if_neg (Classical.not_not.2 hp),Int.toNat_natCast,if_neg hF,hsl]
    rw [er]
    rw [hsl] at hS
    have hO:=AV2 (q2:=q.put n k) (w_outM (k:=(k:Nat)) hW (by omega) f3 hcnt.2.2) rfl
    have hdec:=Ad4 (s:=(q.put n k).s) (a:=(f:Nat)) (n:=1) hg.good
    have hk:=(AC4 hsl).2.resolve_left (by omega)
    refine ⟨_,?_,AW7 (wok_out hg h f0 hk) _⟩
    dsimp only
    rw [f0]
    exact w_OutY hp hW hS hO hdec
 ·have er:q.out p=(7,q):=by unfold Sw.out;rw [if_pos hp]
  rw [er]
  exact ⟨t,w_OutR hrng.2.2.2.1 (by omega),h⟩
theorem w_Free (hg:E9 q) (h:WOk q t) (p:Int):∃ t',J9 25 [.int .i64 p] q t (.int .i64 (q.fre p).1) (q.fre p).2 t'∧WOk (q.fre p).2 t':=by
 have hrng:=hg.rng
 by_cases hp:0≤p∧p < (q.pg:Nat)
 ·obtain ⟨n,rfl⟩:=Int.eq_ofNat_of_zero_le hp.1
  by_cases hi:q.is n
  ·have hW:=AO8 h.ww hi
   have hwo:=wok_fre hg h hi
   by_cases hF:0≤q.F n
   ·obtain ⟨f,f0,f1,f2,f3⟩:=AB2 hg (p:=n) hF
    have er:q.fre (n:Nat)=(0,Sw.gone { q with F:=E8 q.F n (-1),T:=E8 q.T n (-1),Z:=E8 q.Z n 0 } (q.F n)):=by unfold Sw.fre;rw [if_neg (Classical.not_not.2 hp),Int.toNat_natCast,if_neg (Classical.not_not.2 hi),if_pos hF]
    rw [er]
    have hT:q.T n < 0:=by rcases Ab5 hg n with h1 | ⟨h1,_⟩<;>omega
    rw [f0] at hW
    rw [f0,md_D h hT] at hwo
    have hdec:=Ad4 (s:=q.s) (a:=(f:Nat)) (n:=1) hg.good
    refine ⟨_,?_,AW7 hwo _⟩
    dsimp only
    rw [f0]
    exact AV2 (w_FreeF hp hW hdec) rfl
   ·have er:q.fre (n:Nat)=(0,{ q with F:=E8 q.F n (-1),T:=E8 q.T n (-1),Z:=E8 q.Z n 0 }):=by unfold Sw.fre;rw [if_neg (Classical.not_not.2 hp),Int.toNat_natCast,if_neg (Classical.not_not.2 hi),if_neg hF]
    rw [er]
    rw [md_H h (by omega)] at hwo
    exact ⟨_,AV2 (w_FreeS hp hW (by omega)) rfl,hwo⟩
  ·have er:q.fre (n:Nat)=(4,q):=by unfold Sw.fre;rw [if_neg (Classical.not_not.2 hp),Int.toNat_natCast,if_pos hi]
   rw [er]
   exact ⟨t,w_FreeO hp (BR4 h.ww hi),h⟩
 ·have er:q.fre p=(7,q):=by unfold Sw.fre;rw [if_pos hp]
  rw [er]
  exact ⟨t,w_FreeR hrng.2.2.2.1 (by omega),h⟩
end
end Go.Proofs.Ytbhgfoikbkaohaa.Sh
namespace Go.Proofs.Ytbhgfoikbkaohaa.Sh
open Go Go.Am Go.Pol
open Go.Proofs.Ytbhgfoikbkaohaa.Sh renaming plx_Sxc → plx
open Go.Proofs.Ytbhgfoikbkaohaa.Sh renaming ppx_Sxc → ppx
section
variable {q:Sw} {t:WS}
end
end Go.Proofs.Ytbhgfoikbkaohaa.Sh
namespace Go.Proofs.Ytbhgfoikbkaohaa
open Go Go.Am Go.Pol
theorem BI9 {α:Type} {f:α→List AV} {σ:Nat→Nat} {h h':Hp} {d n sz:Nat} {L:List α} (hf:∀ x,(f x).length=sz) (hp:∀ c,∀ x ∈ f c,Plain x) (hn:L.length=n) (hi:L.length ≠ 0→lk h.l d=some (.cells (flat f L))) (hi':∀ j o,lk h'.l j=some o→σ j ≠ d) (hs:AM9 σ h h'):WkV Try.prog σ h h' (Ak6 d sz n) (.isl (L.map f)):=by
 subst hn
 by_cases hz:L.length=0
 ·rw [hz,own_z]
  cases List.eq_nil_of_length_eq_zero hz
  exact BI7
 ·rw [At7 hz]
  refine BJ0 (hi hz) hi' hs (by simp) (fun e he=>?_) ?_ fun e he x hx=>?_
  ·obtain ⟨s,_,rfl⟩:=List.mem_map.1 he;exact hf s
  ·rw [List.drop_zero,List.take_of_length_le (by rw [AV4 hf];exact Nat.le_refl _)];rfl
  ·obtain ⟨s,_,rfl⟩:=List.mem_map.1 he;exact hp s x hx
end Go.Proofs.Ytbhgfoikbkaohaa
namespace Go.Pol
open Go.Am Go.Proofs.Ytbhgfoikbkaohaa.Sh
def swA (x:Int × Int × Int × Int):List AV:=[.int .i64 x.1,.int .i64 x.2.1,.int .i64 x.2.2.1,.int .i64 x.2.2.2]
def swD (x:Int × (Nat→Int)):List AV:=.int .i64 x.1::bcA x.2
theorem Ag2 (x:Int × Int × Int × Int):(swA x).length=4:=rfl
theorem AF7 (x:Int × (Nat→Int)):(swD x).length=65:=by unfold swD;rw [List.length_cons,AA5]
theorem P6 (x:Int × Int × Int × Int):∀ y ∈ swA x,Plain y:=fun y hy=>by
 simp only [swA,List.mem_cons,List.not_mem_nil,or_false] at hy
 rcases hy with rfl|rfl|rfl|rfl<;>exact A8
theorem w9 (x:Int × (Nat→Int)):∀ y ∈ swD x,Plain y:=fun y hy=>by
 rcases List.mem_cons.1 hy with rfl|hy
 ·exact A8
 ·exact AB7 y hy
def whE (w:Sw) (p:Nat):Int × Int × Int × Int:=((p:Nat),w.F p,w.T p,w.Z p)
def dkE (w:Sw) (k:Nat):Int × (Nat→Int):=((k:Nat),w.D k)
def Sw.slots (w:Sw):List Nat:=(List.range w.sl).filter fun k=>decide (w.heldT k)
def Sw.whr (w:Sw):List (Int × Int × Int × Int):=w.pages.map (whE w)
def Sw.dsk (w:Sw):List (Int × (Nat→Int)):=w.slots.map (dkE w)
section
variable {w:Sw} {t:WS}
theorem whr_0:w.whr.take 0=[]:=rfl
theorem dsk_0:w.dsk.take 0=[]:=rfl
theorem whr_s {j:Nat} (h:j < w.pages.length):w.whr.take (j+1)=w.whr.take j++[whE w (nth 0 w.pages j)]:=by
 unfold Sw.whr
 rw [← List.map_take,← List.map_take,AU5 (d:=0) h,List.map_append];rfl
theorem dsk_s {j:Nat} (h:j < w.slots.length):w.dsk.take (j+1)=w.dsk.take j++[dkE w (nth 0 w.slots j)]:=by
 unfold Sw.dsk
 rw [← List.map_take,← List.map_take,AU5 (d:=0) h,List.map_append];rfl
theorem whr_all:w.whr.take w.pages.length=w.whr:=by unfold Sw.whr;rw [← List.map_take,List.take_length]
theorem dsk_all:w.dsk.take w.slots.length=w.dsk:=by unfold Sw.dsk;rw [← List.map_take,List.take_length]
theorem whr_len:w.whr.length=w.pages.length:=List.length_map ..
theorem dsk_len:w.dsk.length=w.slots.length:=List.length_map ..
theorem BJ8 {α:Type} {l:List α} {j:Nat}:(l.take j).length≤l.length:=by rw [List.length_take];omega
theorem AX6 (hg:E9 w) {k:Nat}:k ∈ w.slots ↔ w.heldT k:=by
 unfold Sw.slots
 rw [List.mem_filter,decide_eq_true_eq,List.mem_range]
 refine ⟨fun h=>h.2,fun h=>⟨?_,h⟩⟩
 obtain ⟨p,hp,hT⟩:=h
 rcases hg.sl p with h1 | ⟨_,k2,h2,h3⟩
 ·omega
 ·omega
theorem slots_up:w.slots.Pairwise (· < ·):=List.pairwise_lt_range.filter _
theorem BL4:(w.slots.map fun p=>((p:Nat):Int)).Pairwise (· < ·):=List.Pairwise.map (R:=fun a b=>a < b) _ (fun a b hab=>by omega) slots_up
theorem Ac9 (hg:E9 w) (h:WOk w t):(t.D.map (·.1)).Perm (w.slots.map fun p=>((p:Nat):Int)):=by
 refine (List.perm_ext_iff_of_nodup h.ndD ?_).2 fun k=>?_
 ·exact List.Pairwise.map (R:=fun a b=>a ≠ b) _ (fun a b hab e=>hab (by omega)) (List.nodup_range.filter _:w.slots.Nodup)
 ·rw [Ah7,List.mem_map]
  constructor
  ·rintro ⟨v,hv⟩
   rw [h.gD] at hv
   split at hv
   ·rename_i hk
    exact ⟨k.toNat,(AX6 hg).2 hk.2,by omega⟩
   ·cases hv
  ·rintro ⟨p,hp,rfl⟩
   obtain ⟨p2,_,hT⟩:=(AX6 hg).1 hp
   exact ⟨_,AT8 hg h hT⟩
theorem gD_at (hg:E9 w) (h:WOk w t) {k:Nat} (hk:w.heldT k):mgI t.D (k:Nat)=some (w.D k):=by
 obtain ⟨p2,_,hT⟩:=hk
 exact AT8 hg h hT
theorem BL5 (hg:E9 w):w.slots.length≤256:=by
 have h2:w.slots.length≤w.sl:=Nat.le_trans (List.length_filter_le ..) (by rw [List.length_range];exact Nat.le_refl _)
 have:=hg.rng;omega
theorem BO5 (hg:E9 w):w.pages.length≤256:=by
 have h2:w.pages.length≤w.pg:=Nat.le_trans (List.length_filter_le ..) (by rw [List.length_range];exact Nat.le_refl _)
 have:=hg.rng;omega
def As8 (a n pg sl:Int) (W:List (Int × Int × Int × Int)) (D:List (Int × (Nat→Int))) (i o:Int):List AV:=[.int .i64 a,.int .i64 n,.int .i64 pg,.int .i64 sl,.isl (W.map swA),.isl (D.map swD),.int .i64 i,.int .i64 o]
def Sw.save (w:Sw):List AV:=As8 (w.a:Nat) (w.n:Nat) (w.pg:Nat) (w.sl:Nat) w.whr w.dsk w.ins w.outs
theorem Q6 {a n pg sl:Int} {W:List (Int × Int × Int × Int)} {D:List (Int × (Nat→Int))} {i o:Int}:∀ x ∈ As8 a n pg sl W D i o,Plain x:=fun x hx=>by
 simp only [As8,List.mem_cons,List.not_mem_nil,or_false] at hx
 rcases hx with rfl|rfl|rfl|rfl|rfl|rfl|rfl|rfl
 ·exact A8
 ·exact A8
 ·exact A8
 ·exact A8
 ·exact F5 P6
 ·exact F5 w9
 ·exact A8
 ·exact A8
theorem Am7 {a b c d e f:Int}:Plain (.agg [.int .i64 a,.int .i64 b,.int .i64 c,.int .i64 d,.nils,.nils,.int .i64 e,.int .i64 f]):=F9 fun x hx=>by
 simp only [List.mem_cons,List.not_mem_nil,or_false] at hx
 rcases hx with rfl|rfl|rfl|rfl|rfl|rfl|rfl|rfl<;>first|exact A8|exact Q7
theorem not_of {σ:Nat→Nat} {l:List (Nat × AObj)} {d:Nat} (h:∀ q ∈ l,σ q.1 ≠ d):∀ j o,lk l j=some o→σ j ≠ d:=fun j o hj=>by
 induction l with
 | nil=>cases hj
 | cons q l ih =>
  simp only [lk] at hj
  split at hj
  ·rename_i e;subst e;exact h q (List.mem_cons_self ..)
  ·exact ih (fun q hq=>h q (List.mem_cons_of_mem _ hq)) hj
end
end Go.Pol
namespace Go.Proofs.Ytbhgfoikbkaohaa.Sh
open Go Go.Am Go.Pol
theorem plx_Sxl {p:Prop} (h:p:=by ((first|exact plw|(with_reducible first|apply O7|apply G9 _|apply H7 _|apply H6 _|apply j6|apply F5 P6|apply F5 w9|apply Q7|apply Am7|fail)|fail);first|done|fail)):p:=h
open Go.Proofs.Ytbhgfoikbkaohaa.Sh renaming plx_Sxl → plx
open Go.Proofs.Ytbhgfoikbkaohaa.Sh renaming ppx_Sxc → ppx
theorem wx_Sxl {p q:Prop} (hq:q) (h:Y7 q→p:=by (intro hQz;((repeat' ((try (conv=>whnf));first|(with_reducible first|refine L8 ?_|refine I7 ?_|refine M4 ?_|refine M6 ?_|refine J3 ?_|refine R8 ?_|refine K9 ?_|refine R7 rfl ?_|refine L6 ?_|refine G8 ?_|refine I9 ?_|refine J2 ?_|refine M5 ?_|refine G7 ?_|refine I8 (by decide +kernel) ?_|refine H9 (by decide +kernel) ?_|refine AF4 ?_|refine AF5 ?_|refine Ar4 ?_|refine Z9 ?_|refine AK5 ?_|refine Ak7 (by assumption) ?_|refine Ak8 (by assumption) ?_|refine Z7 (by omega) ?_|refine AK4 ?_)|((with_reducible refine AK6 ?_ ?_);focus omega)|((with_reducible refine AK7 ?_ ?_);focus omega)|((with_reducible apply V7 hQz)<;>(try intro hsp hQz))|((with_reducible refine Ar2 ?_ ?_);focus (first|omega|rfl|assumption|decide|(simp only [List.length_map,List.length_cons,List.length_nil];omega)|exact hmk|exact hmk2|(simp only [List.length_cons];omega)))|refine AH3 (hmk) ?_|refine AH3 (hmk2) ?_|(with_reducible first|refine AK1 ?_|refine Z6 ?_|refine Z5 ?_|refine AK3 ?_|refine AK2 ?_|refine AJ9 ?_|refine Ar1 ?_|refine G5 ?_|refine Y9 ?_|refine M0 ?_|refine L9 ?_|refine G6 ?_|refine AK0 (by omega) ?_|refine Z4 (by omega) ?_)|refine mlen_i rfl ?_|refine BD3 rfl rfl (by omega) ?_|refine J5 hS ?_|refine Y3 hgp rfl ?_|refine mlook_by hgd hy rfl ?_|refine AB5 (by omega) List.drop_zero (j4 (by omega) (y_take hyl) ?_)|refine ⟨hyl,?_⟩|refine AE3 (by first|(simp only [List.length_replicate];omega)|fail) (over_y hyl) ?_|refine AE3 (by first|(simp only [List.length_cons,List.length_nil];omega)|fail) (over_y1 hyl) ?_|refine sxF ?_|refine cx_so K3 hs rfl (by decide) ?_|refine Aj3 F6 rfl hF hA hB rfl ?_|refine BD2 (f:=swA) (l2:=[(((p:Nat):Int),q.F p,q.T p,q.Z p)]) Ag2 (Ay9 rfl (by first|rfl|(simp;done)|(simp [*];done))) (fun hz=>by first|(simp [lk,AT6,AR1 hz,Y5 hz];done)|rfl) (fun hz=>by first|(simp [lk,AT6,BP7,lk_tN hz,BP8 hz];done)|rfl) (by first|rfl|(simp [flat,swA];done)|(simp [flat,swA, *];done)) (by decide) ⟨by omega,by omega⟩ rfl ?_|((with_reducible apply appx_q hQz);intro hQa hQb;refine BD1 (f:=swA) (l2:=[(((p:Nat):Int),q.F p,q.T p,q.Z p)]) Ag2 (Ay9 rfl (by first|rfl|(simp;done)|(simp [*];done))) (fun hz=>by first|(simp [lk,AT6,AR1 hz,Y5 hz];done)|rfl) (by first|rfl|(simp [flat,swA];done)|(simp [flat,swA, *];done)) (by decide) ⟨by omega,by omega⟩ ?_ ?_<;>intro hzz<;>first|(have hQz:=Y7.mk (hQa.out hzz))|(have hQz:=Y7.mk (hQb.out hzz)))|refine Aj3 F6 rfl hF2 hA2 hB2 rfl ?_|refine BD2 (f:=swD) (l2:=[(((p:Nat):Int),q.D p)]) AF7 (Ay9 rfl (by first|rfl|(simp;done)|(simp [*];done))) (fun hz=>by first|(simp [lk,AT6,AR1 hz,Y5 hz];done)|rfl) (fun hz=>by first|(simp [lk,AT6,BP7,lk_tN hz,BP8 hz];done)|rfl) (by first|rfl|(simp [flat,swD];done)|(simp [flat,swD, *];done)) (by decide) ⟨by omega,by omega⟩ rfl ?_|((with_reducible apply appx_q hQz);intro hQa hQb;refine BD1 (f:=swD) (l2:=[(((p:Nat):Int),q.D p)]) AF7 (Ay9 rfl (by first|rfl|(simp;done)|(simp [*];done))) (fun hz=>by first|(simp [lk,AT6,AR1 hz,Y5 hz];done)|rfl) (by first|rfl|(simp [flat,swD];done)|(simp [flat,swD, *];done)) (by decide) ⟨by omega,by omega⟩ ?_ ?_<;>intro hzz<;>first|(have hQz:=Y7.mk (hQa.out hzz))|(have hQz:=Y7.mk (hQb.out hzz)))|refine AP6 w_is rfl rfl rfl rfl rfl (by decide) rfl ?_|(refine R4 F6 b34 rfl ?_;unfold c34)|(refine R4 F6 b35 rfl ?_;unfold c35)|refine sxH ?_|((with_reducible apply V8 hQz)<;>(try intro hsp hQz))|exact hQz.out))<;>(try (conv=>whnf))))):p:=h ⟨hq⟩
section
variable {q:Sw} {t:WS}
theorem mlook_by {l:List (Nat × AObj)} {i:Nat} {z:AV} {L:List (Int × (Nat→Int))} {k:Int} {b:Nat→Int} {y:List AV} {K:AV→Up→List Nat→Prop} (hg:mgI L k=some b) (hy:bcA b=y) (h1:lk l i=some (.maps (encW byE L))) (hk:K (.agg y) [] [i]):AU0 l false false [0] z (.mapr i) (.int .i64 k) K:=by
 subst hy;exact Y3 hg h1 hk
theorem slI_at {j:Nat} (hj:j < q.slots.length):((q.slots.map fun p=>((p:Nat):Int)).map (AV.int .i64))[j]? = some (.int .i64 ((nth 0 q.slots j:Nat):Int)):=by
 rw [AM1 hj,List.getElem?_map,List.getElem?_map,List.getElem?_eq_getElem hj];rfl
theorem nth_isT (hg:E9 q) {j:Nat} (hj:j < q.slots.length):q.heldT (nth 0 q.slots j):=(AX6 hg).1 (Au0 hj)
set_option maxRecDepth 20000 in
theorem w_Save (hg:E9 q) (h:WOk q t):J9 14 [] q t (.agg q.save) q t:=by
 have hpl1:=BO5 hg
 have hpl2:=BL5 hg
 have hwl:t.W.length=q.pages.length:=by
  have:=(AD3 hg h.ww).length_eq
  rwa [List.length_map,List.length_map] at this
 have hdl:t.D.length=q.slots.length:=by
  have:=(Ac9 hg h).length_eq
  rwa [List.length_map,List.length_map] at this
 have hndW:(t.W.map (·.1)).Nodup:=h.ndW
 have hndD:(t.D.map (·.1)).Nodup:=h.ndD
 have hmk:=kyC_0 (n:=t.W.length)
 have hmk2:=kyC_0 (n:=t.D.length)
 refine J9.mk (J6 F6 b14 rfl ?_) (fun x hx=>by cases hx) (F9 Q6)
 unfold c14
 unfold stN stC
 (refine wx_Sxl ?_;repeat' (first|with_reducible refine And.intro ?_ ?_|intro hsp))
 refine At3 F6 BU5 rfl trivial ?_
 intro frl asl bdl hF hA hB
 unfold cKs0
 (refine wx_Sxl ?_;repeat' (first|with_reducible refine And.intro ?_ ?_|intro hsp))
 refine KeysX.mk fun ck hck=>BQ1 F6 hck (i:=1) (it:=36) (pb:=33) (po:=0) (cs:=[]) (ks:=t.W.map (·.1)) [] (fun vis=>[(0,.yld 34),(1,.ptr 33 0),(3,.sl 35 0 vis.length t.W.length 1)]) (fun vis=>[(0,.cells (stC 4 1 2 3 q)),(2,.maps (encW byE t.D)),(3,.maps (encW nuE t.H)),(4,.cells q.s.a),(5,.cells [.int .i64 0,.int .i64 0,.int .i64 0,.int .i64 0,.nils,.nils,.int .i64 0,.int .i64 0]),(31,.cells [.int .i64 (q.a:Nat),.int .i64 (q.n:Nat),.int .i64 (q.pg:Nat),.int .i64 (q.sl:Nat),.nils,.nils,.int .i64 q.ins,.int .i64 q.outs]),(33,.cells [.mapr 1]),(34,.loop .ready none frl [42,43] asl bdl),(35,.cells (kyC vis t.W.length))]) Aj1 hndW rfl rfl rfl (.inr ⟨_,rfl⟩) rfl (by decide) (by decide) rfl (fun _=>rfl) rfl (fun _=>rfl) ?_ ?_ ?_
 ·exact BW5
 ·intro vis k hnd hsub
  have hl1:vis.length < t.W.length:=by
   have:=Ah9 hnd hsub
   rw [List.length_append,List.length_map] at this
   exact this
  unfold cKs4
  (refine wx_Sxl ?_;repeat' (first|with_reducible refine And.intro ?_ ?_|intro hsp))
  refine ⟨[],rfl,?_⟩
  rw [show (vis++[k]).length=vis.length+1 by simp]
  exact BW5
 ·intro vis hperm
  have hlen:vis.length=t.W.length:=by rw [hperm.length_eq,List.length_map]
  have hs:=so_ok hlen (hperm.trans (AD3 hg h.ww)) An0 (by omega)
  rw [Av1 hlen,hlen]
  unfold cKs1
  unfold cKsR
  (refine wx_Sxl ?_;repeat' (first|with_reducible refine And.intro ?_ ?_|intro hsp))
  rw [hwl]
  have hw0:=whr_0 (w:=q)
  (refine V4 [0,1,22,23] (fun (j:Nat)=>[(24,.int .i64 (j:Nat))]) (fun (j:Nat)=>⟨stN q t 0 1 2 3 4++[(5,.cells [.int .i64 0,.int .i64 0,.int .i64 0,.int .i64 0,.nils,.nils,.int .i64 0,.int .i64 0]),(31,.cells [.int .i64 (q.a:Nat),.int .i64 (q.n:Nat),.int .i64 (q.pg:Nat),.int .i64 (q.sl:Nat),Ak6 37 4 (q.whr.take j).length,.nils,.int .i64 q.ins,.int .i64 q.outs]),(33,.cells [.mapr 1]),(34,.loop .ready none frl [42,43] asl bdl),(35,.cells ((q.pages.map fun p=>((p:Nat):Int)).map (AV.int .i64)))]++AU9 37 swA (q.whr.take j),38⟩) (fun (j:Nat)=>j≤q.pages.length) (fun (j:Nat)=>q.pages.length - j) (0) [] rfl (fun _=>by first|exact Nat.zero_le _|(dsimp only;omega)) ?_ (by ((try (conv=>whnf));(rw [hw0]);exact wkxQ4)) ?_)
  ·exact Nat.zero_le _
  intro j hj
  have hL1:(q.whr.take j).length≤q.whr.length:=BJ8
  rw [whr_len] at hL1
  by_cases hjl:j < q.pages.length
  ·have hip:=nth_is hg hjl
   have hS:=pgI_at hjl
   have hws:=whr_s hjl
   unfold whE at hws
   generalize nth 0 q.pages j=p at *
   have hgp:=AO8 h.ww hip
   unfold stN stC
   (refine wx_Sxl ?_;repeat' (first|with_reducible refine And.intro ?_ ?_|intro hsp))
   all_goals exact J8 (j+1) [(37,40)] (by (try dsimp only);omega) (by first|omega|(dsimp only;omega)) rfl (by ((try dsimp only);rw [hws]);exact wkxQ4)
  ·obtain rfl:j=q.pages.length:=by omega
   rw [whr_all]
   unfold stN stC
   (refine wx_Sxl ?_;repeat' (first|with_reducible refine And.intro ?_ ?_|intro hsp))
   refine At3 F6 bS_bytes rfl trivial ?_
   intro frl2 asl2 bdl2 hF2 hA2 hB2
   unfold cKs0
   (refine wx_Sxl ?_;repeat' (first|with_reducible refine And.intro ?_ ?_|intro hsp))
   refine KeysX.mk fun ck hck=>BQ1 F6 hck (i:=2) (it:=41) (pb:=38) (po:=0) (cs:=[]) (ks:=t.D.map (·.1)) [] (fun vis=>[(0,.yld 39),(1,.ptr 38 0),(3,.sl 40 0 vis.length t.D.length 1)]) (fun vis=>[(0,.cells (stC 4 1 2 3 q)),(1,.maps (encW pgE t.W)),(3,.maps (encW nuE t.H)),(4,.cells q.s.a),(5,.cells [.int .i64 0,.int .i64 0,.int .i64 0,.int .i64 0,.nils,.nils,.int .i64 0,.int .i64 0]),(31,.cells [.int .i64 (q.a:Nat),.int .i64 (q.n:Nat),.int .i64 (q.pg:Nat),.int .i64 (q.sl:Nat),.isl (q.whr.map swA),.nils,.int .i64 q.ins,.int .i64 q.outs]),(38,.cells [.mapr 2]),(39,.loop .ready none frl2 [62,63] asl2 bdl2),(40,.cells (kyC vis t.D.length))]) Aj1 hndD rfl rfl rfl (.inr ⟨_,rfl⟩) rfl (by decide) (by decide) rfl (fun _=>rfl) rfl (fun _=>rfl) ?_ ?_ ?_
   ·exact BW5
   ·intro vis k hnd hsub
    have hl1:vis.length < t.D.length:=by
     have:=Ah9 hnd hsub
     rw [List.length_append,List.length_map] at this
     exact this
    unfold cKs4
    (refine wx_Sxl ?_;repeat' (first|with_reducible refine And.intro ?_ ?_|intro hsp))
    refine ⟨[],rfl,?_⟩
    rw [show (vis++[k]).length=vis.length+1 by simp]
    exact BW5
   ·intro vis hperm
    have hlen:vis.length=t.D.length:=by rw [hperm.length_eq,List.length_map]
    have hs:=so_ok hlen (hperm.trans (Ac9 hg h)) BL4 (by omega)
    rw [Av1 hlen,hlen]
    unfold cKs1
    unfold cKsR
    (refine wx_Sxl ?_;repeat' (first|with_reducible refine And.intro ?_ ?_|intro hsp))
    rw [hdl]
    have hw0:=dsk_0 (w:=q)
    (refine V4 [0,1,22,23] (fun (j:Nat)=>[(24,.int .i64 (j:Nat))]) (fun (j:Nat)=>⟨stN q t 0 1 2 3 4++[(5,.cells [.int .i64 0,.int .i64 0,.int .i64 0,.int .i64 0,.nils,.nils,.int .i64 0,.int .i64 0]),(31,.cells [.int .i64 (q.a:Nat),.int .i64 (q.n:Nat),.int .i64 (q.pg:Nat),.int .i64 (q.sl:Nat),.isl (q.whr.map swA),Ak6 42 65 (q.dsk.take j).length,.int .i64 q.ins,.int .i64 q.outs]),(38,.cells [.mapr 2]),(39,.loop .ready none frl2 [62,63] asl2 bdl2),(40,.cells ((q.slots.map fun p=>((p:Nat):Int)).map (AV.int .i64)))]++AU9 42 swD (q.dsk.take j),43⟩) (fun (j:Nat)=>j≤q.slots.length) (fun (j:Nat)=>q.slots.length - j) (0) [] rfl (fun _=>by first|exact Nat.zero_le _|(dsimp only;omega)) ?_ (by ((try (conv=>whnf));(rw [hw0]);exact wkxQ5)) ?_)
    ·exact Nat.zero_le _
    intro j hj
    have hL1:(q.dsk.take j).length≤q.dsk.length:=BJ8
    rw [dsk_len] at hL1
    by_cases hjl:j < q.slots.length
    ·have hip:=nth_isT hg hjl
     have hS:=slI_at hjl
     have hws:=dsk_s hjl
     unfold dkE at hws
     generalize nth 0 q.slots j=p at *
     have hgd:=gD_at hg h hip
     have hyl:(bcA (q.D p)).length=64:=AA5
     generalize hy:bcA (q.D p)=y at hyl
     unfold stN stC
     (refine wx_Sxl ?_;repeat' (first|with_reducible refine And.intro ?_ ?_|intro hsp))
     all_goals exact J8 (j+1) [(42,45)] (by (try dsimp only);omega) (by first|omega|(dsimp only;omega)) rfl (by ((try dsimp only);rw [hws]);exact wkxQ5)
    ·obtain rfl:j=q.slots.length:=by omega
     rw [dsk_all]
     unfold stN stC
     (refine wx_Sxl ?_;repeat' (first|with_reducible refine And.intro ?_ ?_|intro hsp))
     all_goals exact end_WW (q:=q) (t:=t) (fun hs=>Ay2 (D5 (K7 rfl) (D5 (K7 rfl) (D5 (K7 rfl) (D5 (K7 rfl) (D5 (U1 hs (F5 P6)) (D5 (BI9 AF7 w9 rfl (fun hz=>by first|(simp [lk,AT6,Y5 hz,AR1 hz];done)|exact Y5 hz|rfl) (not_of (by simp [rn,stN])) hs) (D5 (K7 rfl) (D5 (K7 rfl) N9))))))))) rfl rfl rfl rfl rfl
end
end Go.Proofs.Ytbhgfoikbkaohaa.Sh
namespace Go.Pol
open Go.Am Go.Proofs.Ytbhgfoikbkaohaa.Sh
structure SAc where
 w:Int
 p:Int
 t:Int
 n:Int
 v:Int
 l:List Rl
def sacE (x:SAc):List AV:=[.int .u8 x.w,.int .i64 x.p,.int .i64 x.t,.int .i64 x.n,.int .u8 x.v,.isl (x.l.map rlA)]
structure SPy where
 a:Int
 n:Int
 pg:Int
 sl:Int
 l:List Rl
 X:List SAc
def spyE (p:SPy):List AV:=[.int .i64 p.a,.int .i64 p.n,.int .i64 p.pg,.int .i64 p.sl,.isl (p.l.map rlA),.isl (p.X.map sacE)]
def Sw.nw (s:Sy) (a n pg sl:Int):Sw:=⟨a.toNat,n.toNat,pg.toNat,sl.toNat,fun _=>-1,fun _=>-1,fun _=>0,fun _ _=>0,0,0,s⟩
def T0:WS:=⟨[],[],[]⟩
def SPy.b (p:SPy):Sw:=Sw.nw ((Sy.new p.l).chg p.a p.n 0 1 0).2 p.a p.n p.pg p.sl
theorem wok_new {s:Sy} {a n pg sl:Int}:WOk (Sw.nw s a n pg sl) T0:=by
 refine ⟨List.nodup_nil,List.nodup_nil,List.nodup_nil,fun p=>?_,fun k=>?_,fun f p=>?_⟩
 ·rw [if_neg]
  ·rfl
  ·rintro ⟨_,h|h⟩
   ·exact absurd h (show ¬ (0:Int) ≤ -1 by decide)
   ·exact absurd h (show ¬ (0:Int) ≤ -1 by decide)
 ·rw [if_neg]
  ·rfl
  ·rintro ⟨hk,p,_,hT⟩
   have : (-1:Int)=((k.toNat:Nat):Int):=hT
   omega
 ·constructor
  ·intro h;cases h
  ·rintro ⟨_,h1,h2⟩
   have : (-1:Int)=f:=h2
   omega
end Go.Pol
namespace Go.Proofs.Ytbhgfoikbkaohaa.Sh
open Go Go.Am Go.Pol
theorem wx_Sxm {p q:Prop} (hq:q) (h:Y7 q→p:=by (intro hQz;((repeat' ((try (conv=>whnf));first|refine sxA ?_|refine sxF ?_|refine S9 (by assumption) rfl (by decide) ?_|refine O4 (by assumption) ?_|refine S9 hc rfl (by decide) ?_|refine S9 hr rfl (by decide) ?_|refine BT4 (by assumption) ?_|refine cx_WN h1 rfl (by decide) ?_|refine S9 h1 rfl (by decide) ?_|refine sxH ?_|((with_reducible first|apply V7 hQz|apply V8 hQz)<;>(try intro hsp hQz))|exact hQz.out))<;>(try (conv=>whnf))))):p:=h ⟨hq⟩
theorem x9 (x:SAc):∀ y ∈ sacE x,Plain y:=fun y hy=>by
 unfold sacE at hy
 simp only [List.mem_cons,List.not_mem_nil,or_false] at hy
 rcases hy with rfl|rfl|rfl|rfl|rfl|rfl<;>first|exact A8|exact J4
theorem AG2 (x:SAc):Plain (.agg (sacE x)):=F9 (x9 x)
theorem AD1 {X:List SAc}:Plain (.isl (X.map sacE)):=AG3 fun e he=>by obtain ⟨x,_,rfl⟩:=List.mem_map.1 he;exact x9 x
theorem AF8 (p:SPy):∀ y ∈ spyE p,Plain y:=fun y hy=>by
 unfold spyE at hy
 simp only [List.mem_cons,List.not_mem_nil,or_false] at hy
 rcases hy with rfl|rfl|rfl|rfl|rfl|rfl
 ·exact A8
 ·exact A8
 ·exact A8
 ·exact A8
 ·exact J4
 ·exact AD1
theorem AO1 (p:SPy):Plain (.agg (spyE p)):=F9 (AF8 p)
theorem end_Wg {top:Bool} {h:Hp} {N0 n:Nat} {x r:AV} {q:Sw} {t:WS} (ren:List (Nat × Nat)) (o w d m s:Nat) (hkp:AL1 N0 ren=true) (hm:N0≤n) (hone:Ac2 [rn ren o,rn ren w,rn ren d,rn ren m,rn ren s]=true)
  (hlt:o < n∧w < n∧d < n∧m < n∧s < n)
  (hr:AM9 (rn ren) h ⟨stN q t o w d m s,n⟩→WkV Try.prog (rn ren) h ⟨stN q t o w d m s,n⟩ x r) (g0:lk h.l (rn ren o)=some (.cells (stC (rn ren s) (rn ren w) (rn ren d) (rn ren m) q))) (g1:lk h.l (rn ren w)=some (.maps (encW pgE t.W))) (g2:lk h.l (rn ren d)=some (.maps (encW byE t.D))) (g3:lk h.l (rn ren m)=some (.maps (encW nuE t.H))) (g4:lk h.l (rn ren s)=some (.cells q.s.a)) :
  AW5 top Try.prog N0 h x (fun r' h'=>r'=r∧h'=⟨stN q t o w d m s,n⟩):=by
 have hs:AM9 (rn ren) h ⟨stN q t o w d m s,n⟩:=fun j x hi=>by
  simp only [stN,lk] at hi
  split at hi
  ·rename_i e;subst e;exact ⟨_,g0⟩
  ·split at hi
   ·rename_i e;subst e;exact ⟨_,g1⟩
   ·split at hi
    ·rename_i e;subst e;exact ⟨_,g2⟩
    ·split at hi
     ·rename_i e;subst e;exact ⟨_,g3⟩
     ·split at hi
      ·rename_i e;subst e;exact ⟨_,g4⟩
      ·cases hi
 refine AH4 ren hkp hm (Q8 (l:=stN q t o w d m s) hone) (hr hs) ?_ ⟨rfl,rfl⟩
 have:=BI3 (r:=[]) hs rfl rfl rfl rfl rfl hlt g0 g1 g2 g3 g4 M7
 exact this
structure LocWN (f:Nat) (avs:List AV) (s:Sy) (q:Sw) (t:WS):Prop where
 out:AW4 Try.prog G0 f (.ptr 0 0::avs) [(0,.cells s.a)] 1 fun x h=>x = .tup [.ptr 1 0,.int .i64 0]∧h=⟨stN q t 1 2 3 4 0,5⟩
 pa:∀ x ∈ avs,Plain x
theorem cx_WN {f:Nat} {avs:List AV} {s:Sy} {q:Sw} {t:WS} {g nx:Nat} {l:List (Nat × AObj)} {K:AV→Hp→Prop} (hc:LocWN f avs s q t) (h5:lk l g=some (.cells s.a)) (hlt:g < nx)
  (hk:AU2 [g] l fun l2=>K (.tup [.ptr nx 0,.int .i64 0]) ⟨([(nx,.cells (stC g (nx+1) (nx+2) (nx+3) q)),(nx+1,.maps (encW pgE t.W)),(nx+2,.maps (encW byE t.D)),(nx+3,.maps (encW nuE t.H)),(g,.cells q.s.a)]:List (Nat × AObj))++l2,nx+4⟩):AK8 Try.prog G0 (.fn f [] []) (.ptr g 0::avs) ⟨l,nx⟩ K:=by
 have e0:enter [g] g 0:=rfl
 have k0:back [g] nx 0 g:=rfl
 have k1:back [g] nx 1 nx:=rfl
 have k2:back [g] nx 2 (nx+1):=rfl
 have k3:back [g] nx 3 (nx+2):=rfl
 have k4:back [g] nx 4 (nx+3):=rfl
 refine Aa4 (r':=.tup [.ptr nx 0,.int .i64 0]) (l1:=stN q t nx (nx+1) (nx+2) (nx+3) g) [g] hc.out K3 rfl (.cons e0 h5 (E5 H8) .nil)
  ?_ (by intro x hx;simp only [List.mem_cons,List.not_mem_nil,or_false] at hx;omega) (rn_tup ⟨Y8 k1,F7 A8,trivial⟩)
  (.cons k1 (AX8 k0 k2 k3 k4) (.maps k2 (D6 G9) (.maps k3 (D6 H7) (.maps k4 (D6 H6) (.cons k0 (E5 H8) .nil))))) hk
 simp only [List.nil_append,List.append_nil]
 exact ⟨Y8 e0,E5 hc.pa⟩
section
variable {s:Sy} {a n pg sl:Int}
theorem plain_i4 {a b c d:Int}:∀ x ∈ [AV.int .i64 a,.int .i64 b,.int .i64 c,.int .i64 d],Plain x:=fun x hx=>by
 simp only [List.mem_cons,List.not_mem_nil,or_false] at hx
 rcases hx with rfl|rfl|rfl|rfl<;>exact A8
theorem w_New (hg:GoodS s) (hn:AE0 a n pg sl) (he:(s.chg a n 0 1 0).1=0):LocWN 28 [.int .i64 a,.int .i64 n,.int .i64 pg,.int .i64 sl] s (Sw.nw (s.chg a n 0 1 0).2 a n pg sl) T0:=by
 have hc:=p_counts hg
 have hst:=k_stated a n pg sl
 rw [decide_eq_true hn] at hst
 have hr:=BO7 (a:=a) (n:=n) hg
 rw [he] at hr
 obtain ⟨n1',n2',n3',n4',n5',n6',n7',n8'⟩:=hn
 have e1:((a.toNat:Nat):Int)=a:=Int.toNat_of_nonneg n1'
 have e2:((n.toNat:Nat):Int)=n:=Int.toNat_of_nonneg (by omega)
 have e3:((pg.toNat:Nat):Int)=pg:=Int.toNat_of_nonneg (by omega)
 have e4:((sl.toNat:Nat):Int)=sl:=Int.toNat_of_nonneg (by omega)
 unfold Sy.counts at hc
 refine LocWN.mk (J6 F6 b28 rfl ?_) plain_i4
 unfold c28
 generalize Ac5 s.K 0 1024=n0 at *
 generalize Ac5 s.K 1 1024=n1 at *
 generalize Ac5 s.K 2 1024=n2 at *
 generalize Ac5 s.K 3 1024=n3 at *
 generalize cntG s.G 64=n4 at *
 generalize s.chg a n 0 1 0=r at *
 (refine wx_Sxm ?_;repeat' (first|with_reducible refine And.intro ?_ ?_|intro hsp))
 all_goals exact end_Wg [(1,5),(2,2),(3,3),(4,4)] 1 2 3 4 0 rfl (by decide) rfl (by decide) (fun hs=>Ay1 (D5 (AC1 (i:=1) rfl (show 1 < 5 by decide)) (D5 (K7 rfl) N9))) (by unfold stC Sw.nw;dsimp only;rw [e1,e2,e3,e4];rfl) (by unfold T0;rw [AH6];rfl) (by unfold T0;rw [AH6];rfl) (by unfold T0;rw [AH6];rfl) rfl
end
end Go.Proofs.Ytbhgfoikbkaohaa.Sh
namespace Go.Pol
open Go.Am Go.Proofs.Ytbhgfoikbkaohaa.Sh
def SPy.ok (p:SPy):Prop:=p.X.length≤50∧p.l.length≤60∧(p.n≤60∨1024 < p.n)
instance (p:SPy):Decidable p.ok:=by unfold SPy.ok;infer_instance
end Go.Pol
namespace Go.Proofs.Ytbhgfoikbkaohaa.Sh
open Go Go.Am Go.Pol
theorem plx_Sxn {p:Prop} (h:p:=by ((first|exact plw|(with_reducible first|apply O7|apply G9 _|apply H7 _|apply H6 _|apply j6|apply J4|apply O1|apply AD2|apply AG2 _|apply AO1 _|apply AD1|fail)|fail);first|done|fail)):p:=h
theorem ppx_Sxn {p:Prop} (h:p:=by ((first|with_reducible assumption|(with_reducible first|apply H8|apply AH8|apply AG1|apply AB7|apply AG8|apply x9 _|apply AF8 _|fail)|exact ppw|fail);first|done|fail)):p:=h
open Go.Proofs.Ytbhgfoikbkaohaa.Sh renaming plx_Sxn → plx
open Go.Proofs.Ytbhgfoikbkaohaa.Sh renaming ppx_Sxn → ppx
section
variable {q:Sw} {t:WS}
end
end Go.Proofs.Ytbhgfoikbkaohaa.Sh
namespace Go.Pol
open Go.Am Go.Proofs.Ytbhgfoikbkaohaa.Sh
section
variable {w:Sw}
theorem AE9 (h:E9 w) (t now v:Int):E9 (w.write t now v).2:=by
 by_cases he:(w.write t now v).1=0
 ·exact (BI0 h he).2.1
 ·unfold Sw.write at he ⊢
  by_cases hn:w.nums t now
  ·rw [if_neg (Classical.not_not.2 hn)] at he ⊢
   have hn2:=hn
   obtain ⟨n1,n2,n3,n4⟩:=hn2
   by_cases ht:(w.touch (t.toNat / 64) now).1=0
   ·rw [if_pos ht] at he
    have hg:=o8 h (p:=t.toNat / 64) (now:=now) (by omega) ⟨n3,n4⟩
    rcases AU4 h (p:=t.toNat / 64) now with hy|hno
    ·exact absurd (BC9 hg n1 hy.fr).1 he
    ·exact absurd ht hno.e
   ·rw [if_neg ht]
    exact o8 h (by omega) ⟨n3,n4⟩
  ·rw [if_pos hn];exact h
theorem AR7 (h:E9 w) (t now:Int):E9 (w.read t now).2.2:=by
 unfold Sw.read
 by_cases hn:w.nums t now
 ·rw [if_neg (Classical.not_not.2 hn)]
  obtain ⟨n1,n2,n3,n4⟩:=hn
  have hg:=o8 h (p:=t.toNat / 64) (now:=now) (by omega) ⟨n3,n4⟩
  split
  ·exact h
  ·split
   ·exact hg
   ·exact hg
 ·rw [if_pos hn];exact h
theorem BR2 (h:E9 w) (p:Int):E9 (w.out p).2:=by
 by_cases he:(w.out p).1=0
 ·exact (out_yes h he).1
 ·rw [out_no p he];exact h
end
def ex0:Sw:=Sw.nw ((Sy.new []).chg 8 1 0 1 0).2 8 1 4 2
def ex1:Sw:=(ex0.write 0 1 5).2
def ex2:Sw:=(ex1.write 64 2 6).2
def ex3:Sw:=(ex2.read 0 3).2.2
def ex4:Sw:=(ex3.read 64 4).2.2
def ex5:Sw:=(ex4.read 128 5).2.2
def ex6:Sw:=(ex5.write 128 6 7).2
def ex7:Sw:=(ex6.write 192 7 8).2
def ex8:Sw:=(ex7.out 2).2
def ex9:Sw:=(ex8.fre 0).2
set_option maxRecDepth 100000 in
theorem ex_0:((Sy.new []).chg 8 1 0 1 0).1=0:=by decide +kernel
set_option maxRecDepth 100000 in
theorem ex_1:(ex0.write 0 1 5).1=0:=by decide +kernel
set_option maxRecDepth 100000 in
theorem ex_2:(ex1.write 64 2 6).1=0:=by decide +kernel
set_option maxRecDepth 100000 in
theorem ex_3:(ex2.read 0 3).1=5∧(ex2.read 0 3).2.1=0:=by decide +kernel
set_option maxRecDepth 100000 in
theorem ex_4:(ex3.read 64 4).1=6∧(ex3.read 64 4).2.1=0:=by decide +kernel
set_option maxRecDepth 100000 in
theorem ex_5:(ex4.read 128 5).1=0∧(ex4.read 128 5).2.1=0∧ex5.ins=2∧ex5.outs=3:=by decide +kernel
set_option maxRecDepth 100000 in
theorem ex_6:(ex5.write 128 6 7).1=0:=by decide +kernel
set_option maxRecDepth 100000 in
theorem ex_7:(ex6.write 192 7 8).1=5:=by decide +kernel
set_option maxRecDepth 100000 in
theorem ex_8:(ex7.out 2).1=5:=by decide +kernel
set_option maxRecDepth 100000 in
theorem ex_9:(ex8.fre 0).1=0:=by decide +kernel
set_option maxRecDepth 100000 in
theorem ex_10:(ex9.out 2).1=0:=by decide +kernel
end Go.Pol
namespace Go.Am
section
variable {P:Program} {G:Gl}
theorem AW4.weak {f k:Nat} {args args':List AV} {l0:List (Nat × AObj)} {K:AV→Hp→Prop} (hc:AW4 P G f args l0 k K) (hw:∀ (c:Cx) (vs:Array Value),l9 c args' vs→l9 c args vs):AW4 P G f args' l0 k K :=
 ⟨hc.1,fun c vs hR hG hm ha=>hc.2 c vs hR hG hm (hw c vs ha)⟩
theorem AS6.weak {f:Nat} {args args':List AV} {r:AV} (hc:AS6 P G f args r) (hw:∀ (c:Cx) (vs:Array Value),l9 c args' vs→l9 c args vs):AS6 P G f args' r :=
 fun at_ id=>⟨(hc at_ id).1,fun c vs hR hG hU hat ha=>(hc at_ id).2 c vs hR hG hU hat (hw c vs ha)⟩
def WkA (x y:AV):Prop:=∀ (c:Cx) (v:Value),RR c x v→RR c y v
def Ax4:List AV→List AV→Prop
 | [],[]=>True
 | x::xs,y::ys=>WkA x y∧Ax4 xs ys
 | _,_=>False
theorem Ax4.len:∀ {xs ys:List AV},Ax4 xs ys→xs.length=ys.length
 | [],[],_=>rfl
 | [],_::_,h=>h.elim
 | _::_,[],h=>h.elim
 | _::_,_::_,h=>by rw [List.length_cons,List.length_cons,Ax4.len h.2]
theorem Ax4.at:∀ {xs ys:List AV},Ax4 xs ys→∀ {j:Nat} {y:AV},ys[j]? = some y→∃ x,xs[j]? = some x∧WkA x y
 | [],[],_,_,_,e=>by simp at e
 | [],_::_,h,_,_,_=>h.elim
 | _::_,[],h,_,_,_=>h.elim
 | x::_,y::_,h,0,z,e=>by cases e;exact ⟨x,rfl,h.1⟩
 | _::_,_::_,h,j+1,z,e=>Ax4.at (j:=j) h.2 (by simpa using e)
theorem Ax4.args {xs ys:List AV} (h:Ax4 xs ys) (c:Cx) (vs:Array Value) (ha:l9 c xs vs):l9 c ys vs :=
 ⟨by rw [ha.1, h.len], fun j y hy => by
  obtain ⟨x,hx,hw⟩:=h.at hy
  obtain ⟨u,hu,hr⟩:=ha.2 j x hx
  exact ⟨u,hu,hw c u hr⟩⟩
theorem X5 {x:AV}:WkA x x:=fun _ _ h=>h
theorem AW9:WkA .nils (.isl []):=fun c v h=>by
 obtain ⟨A,rfl⟩:=RR_nils.1 h
 exact X4.2 ⟨A,0,rfl,Nat.le_refl _,Nat.zero_le _,fun hne=>absurd rfl hne⟩
theorem Ar9 {xs ys:List AV} (h:Ax4 xs ys):WkA (.agg xs) (.agg ys):=fun c v hv=>by
 obtain ⟨vs,rfl,hs,hc⟩:=U3.1 hv
 refine U3.2 ⟨vs,rfl,by rw [hs,h.len],fun j y hy=>?_⟩
 obtain ⟨x,hx,hw⟩:=h.at hy
 obtain ⟨u,hu,hr,ho⟩:=hc j x hx
 exact ⟨u,hu,hw c u hr,ho⟩
end
end Go.Am
namespace Go.Pol
open Go.Am
end Go.Pol
namespace Go.Proofs.Ytbhgfoikbkaohaa
open Go Go.Am Go.Pol
theorem wk_pl:WkA (.agg [.nils]) (.agg [.isl (([]:List Rl).map rlA)]):=Ar9 ⟨AW9,trivial⟩
theorem BO2:Plain (.agg [.nils]):=F9 (R9 Q7)
theorem AJ6.weak {f:Nat} {avs avs' cs ds:List AV} {r:AV} (hc:AJ6 f avs cs r ds) (hw:Ax4 avs' avs) (hp:∀ x ∈ avs',Plain x):AJ6 f avs' cs r ds :=
 AJ6.mk (hc.out.weak (Ax4.args (xs:=.ptr 0 0::avs') (ys:=.ptr 0 0::avs) ⟨X5,hw⟩)) hc.pc hc.pd hp hc.pr
theorem LocN.weak {f:Nat} {avs avs' ds:List AV} {e:Int} (hc:LocN f avs e ds) (hw:Ax4 avs' avs) (hp:∀ x ∈ avs',Plain x):LocN f avs' e ds :=
 LocN.mk (hc.out.weak (Ax4.args hw)) hc.pd hp
theorem n_new:LocN 29 [.agg [.nils]] 0 (Sy.new []).a:=(p_new (l:=[]) (i:=(AS2 []).1) rfl).weak ⟨wk_pl,trivial⟩ (R9 BO2)
end Go.Proofs.Ytbhgfoikbkaohaa
namespace Go.Proofs.Ytbhgfoikbkaohaa.Sh
open Go Go.Am Go.Pol
theorem wx_Sxp {p q:Prop} (hq:q) (h:Y7 q→p:=by (intro hQz;((repeat' ((try (conv=>whnf));first|refine sxA ?_|refine sxF ?_|refine BT4 hn ?_|refine cx_WN h0 rfl (by decide) ?_|refine AP6 y1 rfl rfl rfl rfl rfl (by decide) rfl ?_|refine AP6 y2 rfl rfl rfl rfl rfl (by decide) rfl ?_|refine AP6 y3 rfl rfl rfl rfl rfl (by decide) rfl ?_|refine AP6 y4 rfl rfl rfl rfl rfl (by decide) rfl ?_|refine AP6 y5 rfl rfl rfl rfl rfl (by decide) rfl ?_|refine AP6 y6 rfl rfl rfl rfl rfl (by decide) rfl ?_|refine AP6 y7 rfl rfl rfl rfl rfl (by decide) rfl ?_|refine AP6 y8 rfl rfl rfl rfl rfl (by decide) rfl ?_|refine AP6 y9 rfl rfl rfl rfl rfl (by decide) rfl ?_|refine AP6 y10 rfl rfl rfl rfl rfl (by decide) rfl ?_|refine AP6 n5 rfl rfl rfl rfl rfl (by decide) rfl ?_|refine sxH ?_|((with_reducible first|apply V7 hQz|apply V8 hQz)<;>(try intro hsp hQz))|exact hQz.out))<;>(try (conv=>whnf))))):p:=h ⟨hq⟩
theorem k_shown:O5 10 [] (.bool true):=by
 have hn:=n_new
 have hc0:(AS2 []).2=0:=by decide
 have h0:LocWN 28 [.int .i64 8,.int .i64 1,.int .i64 4,.int .i64 2] (Sy.new []) ex0 T0:=w_New (BB1 hc0) (a:=8) (n:=1) (pg:=4) (sl:=2) (by decide) ex_0
 have g0:E9 ex0:=(BP0 (l:=[]) (a:=8) (n:=1) (pg:=4) (sl:=2) hc0 (by decide) (by decide) ex_0 ex0 rfl).1
 have k0:WOk ex0 T0:=wok_new
 obtain ⟨t1,y1,k1⟩:=Ag0 g0 k0 0 1 5
 have g1:E9 ex1:=AE9 g0 0 1 5
 rw [ex_1,show (ex0.write 0 1 5).2=ex1 from rfl] at y1
 rw [show (ex0.write 0 1 5).2=ex1 from rfl] at k1
 obtain ⟨t2,y2,k2⟩:=Ag0 g1 k1 64 2 6
 have g2:E9 ex2:=AE9 g1 64 2 6
 rw [ex_2,show (ex1.write 64 2 6).2=ex2 from rfl] at y2
 rw [show (ex1.write 64 2 6).2=ex2 from rfl] at k2
 obtain ⟨t3,y3,k3⟩:=BJ4 g2 k2 0 3
 have g3:E9 ex3:=AR7 g2 0 3
 rw [ex_3.1,ex_3.2,show (ex2.read 0 3).2.2=ex3 from rfl] at y3
 rw [show (ex2.read 0 3).2.2=ex3 from rfl] at k3
 obtain ⟨t4,y4,k4⟩:=BJ4 g3 k3 64 4
 have g4:E9 ex4:=AR7 g3 64 4
 rw [ex_4.1,ex_4.2,show (ex3.read 64 4).2.2=ex4 from rfl] at y4
 rw [show (ex3.read 64 4).2.2=ex4 from rfl] at k4
 obtain ⟨t5,y5,k5⟩:=BJ4 g4 k4 128 5
 have g5:E9 ex5:=AR7 g4 128 5
 rw [ex_5.1,ex_5.2.1,show (ex4.read 128 5).2.2=ex5 from rfl] at y5
 rw [show (ex4.read 128 5).2.2=ex5 from rfl] at k5
 have n5:=w_Save g5 k5
 unfold Sw.save As8 at n5
 rw [ex_5.2.2.1,ex_5.2.2.2] at n5
 obtain ⟨t6,y6,k6⟩:=Ag0 g5 k5 128 6 7
 have g6:E9 ex6:=AE9 g5 128 6 7
 rw [ex_6,show (ex5.write 128 6 7).2=ex6 from rfl] at y6
 rw [show (ex5.write 128 6 7).2=ex6 from rfl] at k6
 obtain ⟨t7,y7,k7⟩:=Ag0 g6 k6 192 7 8
 have g7:E9 ex7:=AE9 g6 192 7 8
 rw [ex_7,show (ex6.write 192 7 8).2=ex7 from rfl] at y7
 rw [show (ex6.write 192 7 8).2=ex7 from rfl] at k7
 obtain ⟨t8,y8,k8⟩:=w_Out g7 k7 2
 have g8:E9 ex8:=BR2 g7 2
 rw [ex_8,show (ex7.out 2).2=ex8 from rfl] at y8
 rw [show (ex7.out 2).2=ex8 from rfl] at k8
 obtain ⟨t9,y9,k9⟩:=w_Free g8 k8 0
 have g9:E9 ex9:=fre_good g8 0
 rw [ex_9,show (ex8.fre 0).2=ex9 from rfl] at y9
 rw [show (ex8.fre 0).2=ex9 from rfl] at k9
 obtain ⟨t10,y10,k10⟩:=w_Out g9 k9 2
 rw [ex_10] at y10
 clear g0 g1 g2 g3 g4 g5 g6 g7 g8 g9 k0 k1 k2 k3 k4 k5 k6 k7 k8 k9 k10 hc0
 generalize (ex9.out 2).2=q10 at *
 generalize T0=t0 at *
 generalize Sy.new []=s0 at *
 generalize ex0=q0 at *
 generalize ex1=q1 at *
 generalize ex2=q2 at *
 generalize ex3=q3 at *
 generalize ex4=q4 at *
 generalize ex5=q5 at *
 generalize ex6=q6 at *
 generalize ex7=q7 at *
 generalize ex8=q8 at *
 generalize ex9=q9 at *
 refine O5.mk (X0 F6 b10 K3 trivial D7 rfl ?_)
 unfold c10
 (refine wx_Sxp ?_;repeat' (first|with_reducible refine And.intro ?_ ?_|intro hsp))
 all_goals first|exact l8 rfl|(exfalso;omega)|(exfalso;simp at hsp;done)|(exfalso;simp_all;done)
end Go.Proofs.Ytbhgfoikbkaohaa.Sh
namespace Go.Pol
open Go.Am Go.Proofs.Ytbhgfoikbkaohaa.Sh
def d4:Int × Int × Int × Int:=(0,0,0,0)
section
variable {q q':Sw}
end
end Go.Pol
namespace Go.Proofs.Ytbhgfoikbkaohaa.Sh
open Go Go.Am Go.Pol
theorem plx_Syc {p:Prop} (h:p:=by ((first|exact plw|(with_reducible first|apply O7|apply G9 _|apply H7 _|apply H6 _|apply j6|apply J4|apply O1|apply AD2|apply AG2 _|apply AO1 _|apply AD1|apply Q7|apply F5 P6|apply F5 w9|apply AO0 _|apply F9 Q6|fail)|fail);first|done|fail)):p:=h
theorem ppx_Syc {p:Prop} (h:p:=by ((first|with_reducible assumption|(with_reducible first|apply H8|apply AH8|apply AG1|apply AB7|apply AG8|apply x9 _|apply AF8 _|apply hpp|apply Q6|apply P6 _|apply Al9 _|fail)|exact ppw|fail);first|done|fail)):p:=h
open Go.Proofs.Ytbhgfoikbkaohaa.Sh renaming plx_Syc → plx
open Go.Proofs.Ytbhgfoikbkaohaa.Sh renaming ppx_Syc → ppx
theorem AO0 (x:Int × Int × Int × Int):Plain (.agg (swA x)):=F9 (P6 x)
theorem Al9 (q:Sw):∀ x ∈ [AV.int .i64 (q.a:Nat),.int .i64 (q.n:Nat),.int .i64 (q.pg:Nat),.int .i64 (q.sl:Nat),.isl (q.whr.map swA),.isl (q.dsk.map swD),.int .i64 q.ins,.int .i64 q.outs],Plain x:=Q6
section
variable {a n pg sl i o:Int} {W:List (Int × Int × Int × Int)} {D:List (Int × (Nat→Int))}
theorem Az7 {x:Int × Int × Int × Int} {b:Bool}:Plain (.tup [.agg (swA x),.bool b]):=F8 (M9 (AO0 x) D7)
end
section
variable {q:Sw}
end
end Go.Proofs.Ytbhgfoikbkaohaa.Sh
namespace Go.Proofs.Ytbhgfoikbkaohaa
open Go Go.Am Go.Pol
theorem plx_Tj {p:Prop} (h:p:=by ((first|exact plw|(with_reducible first|apply AE2|apply J4|apply O1|apply j5|apply U7|apply AD0|apply AC9|apply AI4|apply AO2|apply AU8|apply AA2|apply AC8|apply F5 z8|apply F5 AY9|apply F5 Aa2|fail)|fail);first|done|fail)):p:=h
theorem ppx_Tj {p:Prop} (h:p:=by ((first|with_reducible assumption|(with_reducible first|apply I4 _|apply O8 I4|apply O8 z8|apply z8|apply C8|apply AD4|apply D8 C8|apply AC7 C8|apply AH8|apply H8|fail)|exact ppw|fail);first|done|fail)):p:=h
open Go.Proofs.Ytbhgfoikbkaohaa renaming plx_Tj → plx
open Go.Proofs.Ytbhgfoikbkaohaa renaming ppx_Tj → ppx
section
variable {K:Nat→Int} {M:Nat→Bool} {B:Nat→Nat→Int} {P:List AV}
end
section
variable {s:Sy}
end
end Go.Proofs.Ytbhgfoikbkaohaa
namespace Go.Pol
open Go.Am Go.Proofs.Ytbhgfoikbkaohaa.Sh
def d5:Int × (Nat→Int):=(0,fun _=>0)
theorem Ai8:∀ {r:List AV},(∀ x ∈ r,∃ k n,x = .int k n)→eqL (List.replicate r.length 0) r r=some true
 | [],_=>rfl
 | x::r,h=>by
  obtain ⟨k,n,rfl⟩:=h x (List.mem_cons_self ..)
  have ih:=Ai8 (r:=r) fun y hy=>h y (List.mem_cons_of_mem _ hy)
  rw [List.length_cons,List.replicate_succ]
  simp only [eqL,eq1,if_true,ih,beq_self_eq_true,Option.bind_some,Option.map_some,Bool.and_self]
theorem eqL_swA (x:Int × Int × Int × Int):eqL [0,0,0,0] (swA x) (swA x)=some true:=Ai8 (r:=swA x) fun y hy=>by
 simp only [swA,List.mem_cons,List.not_mem_nil,or_false] at hy
 rcases hy with rfl|rfl|rfl|rfl<;>exact ⟨_,_,rfl⟩
theorem eqL_swD (x:Int × (Nat→Int)):eqL (List.replicate 65 0) (swD x) (swD x)=some true:=by
 have:=Ai8 (r:=swD x) fun y hy=>by
  rcases List.mem_cons.1 hy with rfl|hy
  ·exact ⟨_,_,rfl⟩
  ·unfold bcA memA at hy
   obtain ⟨j,_,rfl⟩:=List.mem_map.1 hy
   exact ⟨_,_,rfl⟩
 rwa [AF7] at this
end Go.Pol
namespace Go.Proofs.Ytbhgfoikbkaohaa.Sh
open Go Go.Am Go.Pol
theorem plx_Syd {p:Prop} (h:p:=by ((first|exact plw|(with_reducible first|apply O7|apply G9 _|apply H7 _|apply H6 _|apply j6|apply J4|apply O1|apply AD2|apply AG2 _|apply AO1 _|apply AD1|apply Q7|apply F5 P6|apply F5 w9|apply AO0 _|apply F9 Q6|apply Ah1|fail)|fail);first|done|fail)):p:=h
theorem ppx_Syd {p:Prop} (h:p:=by ((first|with_reducible assumption|(with_reducible first|apply H8|apply AH8|apply AG1|apply AB7|apply AG8|apply x9 _|apply AF8 _|apply hpp|apply Q6|apply P6 _|apply Al9 _|apply AX1 _|fail)|exact ppw|fail);first|done|fail)):p:=h
open Go.Proofs.Ytbhgfoikbkaohaa.Sh renaming plx_Syd → plx
open Go.Proofs.Ytbhgfoikbkaohaa.Sh renaming ppx_Syd → ppx
theorem wx_Syd {p q:Prop} (hq:q) (h:Y7 q→p:=by (intro hQz;((repeat' ((try (conv=>whnf));first|refine sxA ?_|refine AM6 (d:=d4) Ag2 (by first|assumption|omega) (by with_reducible assumption) ?_|refine BS5 hq1 ?_|refine BS5 hq2 ?_|refine AM6 (d:=d5) AF7 (by first|assumption|omega) (by with_reducible assumption) ?_|refine AB5 (by rw [AF7];omega) List.drop_zero (j4 (by rw [AF7];omega) (List.take_of_length_le (by rw [AF7];omega)) ?_)|refine j4 (cs:=bcA x.2) (m:=64) (Nat.le_of_eq AA5.symm) Ax2 ?_|refine sxF ?_|refine sxH ?_|((with_reducible first|apply V7 hQz|apply V8 hQz)<;>(try intro hsp hQz))|exact hQz.out))<;>(try (conv=>whnf))))):p:=h ⟨hq⟩
section
variable {a n pg sl i o:Int} {W:List (Int × Int × Int × Int)} {D:List (Int × (Nat→Int))}
set_option maxRecDepth 20000 in
theorem k_same25 (hW:W.length≤256) (hD:D.length≤256):O5 19 [.agg (As8 a n pg sl W D i o),.agg (As8 a n pg sl W D i o)] (.bool true):=by
 refine O5.mk (X0 F6 b19 K3 ⟨F9 Q6,F9 Q6,trivial⟩ D7 rfl ?_)
 unfold c19
 unfold As8
 (refine wx_Syd ?_;repeat' (first|with_reducible refine And.intro ?_ ?_|intro hsp))
 (refine V4 [2,3] (fun (j:Nat)=>[(5,.int .i64 (j:Nat))]) (fun (j:Nat)=>⟨[(0,.cells [.int .i64 a,.int .i64 n,.int .i64 pg,.int .i64 sl,.isl (W.map swA),.isl (D.map swD),.int .i64 i,.int .i64 o]),(1,.cells [.int .i64 a,.int .i64 n,.int .i64 pg,.int .i64 sl,.isl (W.map swA),.isl (D.map swD),.int .i64 i,.int .i64 o])],2⟩) (fun (j:Nat)=>j≤W.length) (fun (j:Nat)=>W.length - j) (0) [] rfl (fun _=>by first|exact Nat.zero_le _|(dsimp only;omega)) ?_ (by ((try (conv=>whnf));exact AA8)) ?_)
 ·exact Nat.zero_le _
 intro j hj
 by_cases hjl:j < W.length
 ·generalize hx:nth d4 W j=x at *
  have hq1:=eqL_swA x
  (refine wx_Syd ?_;repeat' (first|with_reducible refine And.intro ?_ ?_|intro hsp))
  all_goals first|(exfalso;omega)|exact J8 (j+1) [] (by (try dsimp only);omega) (by first|omega|(dsimp only;omega)) rfl (by exact AA8)
 ·(refine wx_Syd ?_;repeat' (first|with_reducible refine And.intro ?_ ?_|intro hsp))
  all_goals first|(exfalso;omega)|skip
  (refine V4 [2,3] (fun (j2:Nat)=>[(6,.int .i64 (j2:Nat))]) (fun (j2:Nat)=>⟨[(0,.cells [.int .i64 a,.int .i64 n,.int .i64 pg,.int .i64 sl,.isl (W.map swA),.isl (D.map swD),.int .i64 i,.int .i64 o]),(1,.cells [.int .i64 a,.int .i64 n,.int .i64 pg,.int .i64 sl,.isl (W.map swA),.isl (D.map swD),.int .i64 i,.int .i64 o])],2⟩) (fun (j2:Nat)=>j2≤D.length) (fun (j2:Nat)=>D.length - j2) (0) [] rfl (fun _=>by first|exact Nat.zero_le _|(dsimp only;omega)) ?_ (by ((try (conv=>whnf));exact AA8)) ?_)
  ·exact Nat.zero_le _
  intro j2 hj2
  by_cases hjl2:j2 < D.length
  ·generalize hx:nth d5 D j2=x at *
   have hq2:=eqL_swD x
   (refine wx_Syd ?_;repeat' (first|with_reducible refine And.intro ?_ ?_|intro hsp))
   all_goals first|(exfalso;omega)|exact J8 (j2+1) [] (by (try dsimp only);omega) (by first|omega|(dsimp only;omega)) rfl (by exact AA8)
  ·(refine wx_Syd ?_;repeat' (first|with_reducible refine And.intro ?_ ?_|intro hsp))
   all_goals first|(exfalso;omega)|exact l8 rfl
end
section
variable {q:Sw} {s:Sy}
end
end Go.Proofs.Ytbhgfoikbkaohaa.Sh
