/-
 A page is touched: all of it;reading and writing.
 The calls of a store: reading,writing,putting out,freeing,the victim,what it counts.
 What a store counts;its state.
 The ends of Save: growing slices become values.
 The state of a store.
 A store is made.
-/
import Derived.Test.YtbhgfoikbkaohaaGreatQap
set_option linter.unusedSimpArgs false
set_option linter.unusedVariables false
set_option maxHeartbeats 12800000
namespace Go.Pol
open Go.Am Go.Proofs.YtbhgfoikbkaohaaGreat.Sh
section
variable {q:Sw}
theorem AY2 (hg:F3 q) (hf:q.free=none):∃ v,q.vic=some v:=by
 cases hv:q.vic with
 | some v=>exact ⟨v,rfl⟩
 | none =>
  exfalso
  have hr:=hg.rng
  obtain ⟨p,hp,hF⟩:=freeW_none hf q.a (Nat.le_refl _) (by omega)
  have:=(AN0 (w:=q) q.pg).2 hv p hp
  omega
theorem vic_at (hg:F3 q) {v:Nat} (hv:q.vic=some v):v < q.pg∧0≤q.F v:=⟨((AN0 (w:=q) q.pg).1 v hv).1,((AN0 (w:=q) q.pg).1 v hv).2.1⟩
theorem R9 {x:AV} (h:Plain x):∀ y ∈ [x],Plain y:=fun y hy=>by obtain rfl:=List.mem_singleton.1 hy;exact h
theorem I4 {x x2:AV} (h:Plain x) (h2:Plain x2):∀ y ∈ [x,x2],Plain y:=fun y hy=>by
 simp only [List.mem_cons,List.not_mem_nil,or_false] at hy
 rcases hy with rfl|rfl
 ·exact h
 ·exact h2
theorem plain_three {x x2 x3:AV} (h:Plain x) (h2:Plain x2) (h3:Plain x3):∀ y ∈ [x,x2,x3],Plain y:=fun y hy=>by
 simp only [List.mem_cons,List.not_mem_nil,or_false] at hy
 rcases hy with rfl|rfl|rfl
 ·exact h
 ·exact h2
 ·exact h3
theorem BT8 {a:Nat}:((a:Nat):Int) % 64=((a % 64:Nat):Int):=by omega
end
end Go.Pol
namespace Go.Proofs.YtbhgfoikbkaohaaGreat.Sh
open Go Go.Am Go.Pol
theorem wx_Sxi {p q:Prop} (hq:q) (h:Y2 q→p:=by (intro hQz;((repeat' ((try (conv=>whnf));first|refine sxA ?_|refine AF3 hq64 ?_|refine AF3 hm64 ?_|refine AK6 hW rfl ?_|refine AG8 hW rfl ?_|refine AF1 hW' rfl ?_|refine sxF ?_|refine AU4 w_is rfl rfl rfl rfl rfl (by decide) rfl ?_|refine AU4 hN rfl rfl rfl rfl rfl (by decide) rfl ?_|refine AU4 hT rfl rfl rfl rfl rfl (by decide) rfl ?_|refine M0 hR rfl (by decide) ?_|refine sxH ?_|((with_reducible first|apply U3 hQz|apply U4 hQz)<;>(try intro hsp hQz))|exact hQz.out))<;>(try (conv=>whnf))))):p:=h ⟨hq⟩
section
variable {q:Sw} {t:WS}
theorem Ag9 {f:Nat} {avs:List AV} {q q1 q2:Sw} {t t1:WS} {r:AV} (h:T9 f avs q t r q1 t1) (e:stN q2 t1 0 1 2 3 4=stN q1 t1 0 1 2 3 4):T9 f avs q t r q2 t1:=⟨by rw [e];exact h.out,h.pa,h.pr⟩
theorem w_touch (hg:F3 q) (h:WOk q t) {p:Nat} {now:Int} (hp:p < q.pg):∃ t',T9 65 [.int .i64 (p:Nat),.int .i64 now] q t (.int .i64 (q.touch p now).1) (q.touch p now).2 t'∧WOk (q.touch p now).2 t':=by
 have hrng:=hg.rng
 have hcnt:=hg.cnt
 by_cases hF:0≤q.F p
 ·have e:q.touch p now=(0,{ q with Z:=E9 q.Z p now }):=by unfold Sw.touch;rw [if_pos hF]
  rw [e]
  exact ⟨_,w_touchA hg h hF,wok_stamp hg h hF now⟩
 ·have hWT:=look_out hg h hF
  have hD:=look_D hg h p
  have hL:=w_free hg h
  cases hfr:q.free with
  | some f =>
   obtain ⟨f1,f2,f3⟩:=AE0 hfr
   have hy:opA q.free=((f:Nat):Int):=by rw [hfr];rfl
   rcases (hg.kind f f1 f2).1 with hk|hk
   ·have hkd:=BQ7 (s:=q.s) (a:=(f:Nat))
    rw [Y9 (by omega) hk] at hkd
    have hcom:=p_commit (s:=q.s) (a:=(f:Nat)) (n:=1) hg.good
    obtain ⟨e,s1,hc⟩:∃ e s1,q.s.chg (f:Nat) 1 1 2 2=(e,s1):=⟨_,_,rfl⟩
    have hcw:=comW hg ⟨f1,f2⟩ hk hc
    rw [hc] at hcom
    dsimp only at hcom
    by_cases he:e=0
    ·subst he
     have et:q.touch p now=(0,Sw.brg { q with s:=s1 } p f now (q.got p)):=by unfold Sw.touch;rw [if_neg hF,hfr];dsimp only;rw [if_pos hk,hc,if_pos rfl]
     rw [et]
     refine ⟨_,?_,wok_brg hcw.1 (Ab3 h s1) hp hF f3 now (q.got p)⟩
     dsimp only
     rw [brg_R]
     exact w_touchC (by omega) ⟨hcnt.1,hcnt.2.1⟩ hL hy hWT hD rfl hkd hcom fun i=>w_set (q:={ q with s:=s1,ins:=i }) hcw.1.good (by omega) (hcw.2.1 rfl) (q.got p)
    ·have et:q.touch p now=(e,{ q with s:=s1 }):=by unfold Sw.touch;rw [if_neg hF,hfr];dsimp only;rw [if_pos hk,hc,if_neg he]
     rw [et]
     exact ⟨_,w_touchE (by omega) ⟨hcnt.1,hcnt.2.1⟩ hL hy hWT hD rfl hkd hcom he,Ab3 h s1⟩
   ·have hkd:=BQ7 (s:=q.s) (a:=(f:Nat))
    rw [Y9 (by omega) hk] at hkd
    have et:q.touch p now=(0,q.brg p f now (q.got p)):=by unfold Sw.touch;rw [if_neg hF,hfr];dsimp only;rw [if_neg (by omega)]
    rw [et]
    refine ⟨_,?_,wok_brg hg h hp hF f3 now (q.got p)⟩
    dsimp only
    rw [brg_R0]
    exact w_touchG (by omega) ⟨hcnt.1,hcnt.2.1⟩ hL hy hWT hD rfl hkd fun i=>w_set (q:={ q with ins:=i }) hg.good (by omega) hk (q.got p)
  | none =>
   have hy:opA q.free = -1:=by rw [hfr];rfl
   have hS:=w_slot h hrng.2.2.2.2 (q.T p)
   cases hsl:q.slot (q.T p) with
   | none =>
    rw [hsl] at hS
    have et:q.touch p now=(5,q):=by unfold Sw.touch;rw [if_neg hF,hfr];dsimp only;rw [hsl]
    rw [et]
    exact ⟨_,w_touchF (by omega) ⟨hcnt.1,hcnt.2.1⟩ hL hy hWT hD rfl hS,h⟩
   | some k =>
    rw [hsl] at hS
    obtain ⟨v,hv⟩:=AY2 hg hfr
    obtain ⟨v1,v2⟩:=vic_at hg hv
    obtain ⟨f,f0,f1,f2,f3⟩:=R5 hg v2
    have hV:=BO0 (t:=⟨t.W,mdI t.D (q.T p),t.H⟩) hg h.ww
    rw [hv] at hV
    have hvp:v ≠ p:=fun e=>hF (by rw [← e];exact v2)
    have hWv:=Aa2 h.ww (p:=v) (.inl v2)
    rw [f0] at hWv
    have et:q.touch p now=(0,(q.put v k).brg p f now (q.got p)):=by unfold Sw.touch;rw [if_neg hF,hfr];dsimp only;rw [hsl,hv];dsimp only;rw [f0];rfl
    rw [et]
    have hw:=BG9 hg h hp hF f0 (AB0 hsl).2 now (q.got p)
    rw [f0,Int.toNat_natCast] at hw
    refine ⟨_,?_,hw⟩
    dsimp only
    rw [put_R hvp]
    have hO:=w_outM (t:=⟨t.W,mdI t.D (q.T p),t.H⟩) (k:=(k:Nat)) hWv (by omega) f3 hcnt.2.2
    have hO2:=Ag9 (q2:=q.put v k) hO rfl
    exact w_touchS (q1:=q.put v k) (by omega) ⟨hcnt.1,hcnt.2.1⟩ hL hy hWT hD ⟨hcnt.1,hcnt.2.1⟩ rfl hS hV hO2 hWv fun i=>w_set (q:={ q.put v k with ins:=i }) hg.good (by omega) f3 (q.got p)
section
variable {a f:Nat} {at_ now e e2 v:Int} {q':Sw} {t':WS} {x x' y z:Int}
theorem w_ReadN (hN:T9 64 [.int .i64 at_,.int .i64 now] q t (.bool false) q t):T9 23 [.int .i64 at_,.int .i64 now] q t (.tup [.int .u8 0,.int .i64 7]) q t:=by
 refine T9.mk (G6 F9 b23 rfl ?_) (I4 A8 A8) (E5 (I4 A8 A8))
 unfold c23
 unfold stN stC
 (refine wx_Sxi ?_;repeat' (first|with_reducible refine And.intro ?_ ?_|intro hsp))
 all_goals first|(exfalso;omega)|exact V9 rfl (E5 (I4 A8 A8)) rfl rfl rfl rfl rfl
theorem w_ReadZ (hN:T9 64 [.int .i64 (a:Nat),.int .i64 now] q t (.bool true) q t) (ha:a < 100000) (hW:mgI t.W ((a / 64:Nat):Int)=none):T9 23 [.int .i64 (a:Nat),.int .i64 now] q t (.tup [.int .u8 0,.int .i64 0]) q t:=by
 refine T9.mk (G6 F9 b23 rfl ?_) (I4 A8 A8) (E5 (I4 A8 A8))
 have hq64:=q64 ha
 have hm64:=m64 (t:=a)
 unfold c23
 unfold stN stC
 (refine wx_Sxi ?_;repeat' (first|with_reducible refine And.intro ?_ ?_|intro hsp))
 all_goals first|(exfalso;omega)|exact V9 rfl (E5 (I4 A8 A8)) rfl rfl rfl rfl rfl
theorem w_ReadE (hN:T9 64 [.int .i64 (a:Nat),.int .i64 now] q t (.bool true) q t) (ha:a < 100000) (hW:mgI t.W ((a / 64:Nat):Int)=some (x,y,z)) (hT:T9 65 [.int .i64 ((a / 64:Nat):Int),.int .i64 now] q t (.int .i64 e) q' t') (he:e ≠ 0):T9 23 [.int .i64 (a:Nat),.int .i64 now] q t (.tup [.int .u8 0,.int .i64 e]) q' t':=by
 refine T9.mk (G6 F9 b23 rfl ?_) (I4 A8 A8) (E5 (I4 A8 A8))
 have hq64:=q64 ha
 have hm64:=m64 (t:=a)
 unfold c23
 unfold stN stC
 (refine wx_Sxi ?_;repeat' (first|with_reducible refine And.intro ?_ ?_|intro hsp))
 all_goals first|(exfalso;omega)|exact V9 (q:=q') rfl (E5 (I4 A8 A8)) rfl rfl rfl rfl rfl
theorem w_ReadY {x2:Int} (hN:T9 64 [.int .i64 (a:Nat),.int .i64 now] q t (.bool true) q t) (ha:a < 100000) (hf:f < 1024) (hW:mgI t.W ((a / 64:Nat):Int)=some (x,y,z)) (hT:T9 65 [.int .i64 ((a / 64:Nat):Int),.int .i64 now] q t (.int .i64 0) q' t') (hW':mgI t'.W ((a / 64:Nat):Int)=some (((f:Nat):Int),x2,x'))
  (hR:d9 67 [.int .i64 (((f:Nat):Int) * 64+((a % 64:Nat):Int))] q'.s.a (.tup [.int .u8 v,.int .i64 e2]) q'.s.a):T9 23 [.int .i64 (a:Nat),.int .i64 now] q t (.tup [.int .u8 v,.int .i64 e2]) q' t':=by
 refine T9.mk (G6 F9 b23 rfl ?_) (I4 A8 A8) (E5 (I4 A8 A8))
 have hq64:=q64 ha
 have hm64:=m64 (t:=a)
 have hml:a % 64 < 64:=Nat.mod_lt _ (by decide)
 unfold c23
 unfold stN stC
 (refine wx_Sxi ?_;repeat' (first|with_reducible refine And.intro ?_ ?_|intro hsp))
 all_goals first|(exfalso;omega)|exact V9 (q:=q') rfl (E5 (I4 A8 A8)) rfl rfl rfl rfl rfl
theorem w_WriteN (hN:T9 64 [.int .i64 at_,.int .i64 now] q t (.bool false) q t):T9 22 [.int .i64 at_,.int .i64 now,.int .u8 v] q t (.int .i64 7) q t:=by
 refine T9.mk (G6 F9 b22 rfl ?_) (plain_three A8 A8 A8) A8
 unfold c22
 unfold stN stC
 (refine wx_Sxi ?_;repeat' (first|with_reducible refine And.intro ?_ ?_|intro hsp))
 all_goals first|(exfalso;omega)|exact V9 rfl A8 rfl rfl rfl rfl rfl
theorem w_WriteE (hN:T9 64 [.int .i64 (a:Nat),.int .i64 now] q t (.bool true) q t) (ha:a < 100000) (hT:T9 65 [.int .i64 ((a / 64:Nat):Int),.int .i64 now] q t (.int .i64 e) q' t') (he:e ≠ 0):T9 22 [.int .i64 (a:Nat),.int .i64 now,.int .u8 v] q t (.int .i64 e) q' t':=by
 refine T9.mk (G6 F9 b22 rfl ?_) (plain_three A8 A8 A8) A8
 have hq64:=q64 ha
 have hm64:=m64 (t:=a)
 unfold c22
 unfold stN stC
 (refine wx_Sxi ?_;repeat' (first|with_reducible refine And.intro ?_ ?_|intro hsp))
 all_goals first|(exfalso;omega)|exact V9 (q:=q') rfl A8 rfl rfl rfl rfl rfl
theorem w_WriteY {s2:Sy} (hN:T9 64 [.int .i64 (a:Nat),.int .i64 now] q t (.bool true) q t) (ha:a < 100000) (hf:f < 1024) (hT:T9 65 [.int .i64 ((a / 64:Nat):Int),.int .i64 now] q t (.int .i64 0) q' t') (hW':mgI t'.W ((a / 64:Nat):Int)=some (((f:Nat):Int),x,x'))
  (hR:d9 66 [.int .i64 (((f:Nat):Int) * 64+((a % 64:Nat):Int)),.int .u8 v] q'.s.a (.int .i64 e2) s2.a):T9 22 [.int .i64 (a:Nat),.int .i64 now,.int .u8 v] q t (.int .i64 e2) { q' with s:=s2 } t':=by
 refine T9.mk (G6 F9 b22 rfl ?_) (plain_three A8 A8 A8) A8
 have hq64:=q64 ha
 have hm64:=m64 (t:=a)
 have hml:a % 64 < 64:=Nat.mod_lt _ (by decide)
 unfold c22
 unfold stN stC
 (refine wx_Sxi ?_;repeat' (first|with_reducible refine And.intro ?_ ?_|intro hsp))
 all_goals first|(exfalso;omega)|exact V9 (q:={ q' with s:=s2 }) rfl A8 rfl rfl rfl rfl rfl
end
end
end Go.Proofs.YtbhgfoikbkaohaaGreat.Sh
namespace Go.Pol
open Go.Am Go.Proofs.YtbhgfoikbkaohaaGreat.Sh
theorem BK1 {β:Type} {k:Int}:∀ {L:List (Int × β)},mgI L k=none→mdI L k=L
 | [],_=>rfl
 | e::L,h=>by
  unfold mgI at h
  split at h
  ·cases h
  ·rename_i hne
   unfold mdI
   rw [if_neg hne,BK1 h]
theorem BS2 {β:Type} {L:List (Int × β)} {M:List Nat} (h:(L.map (·.1)).Perm (M.map fun f:Nat=>((f:Nat):Int))):L.length=M.length:=by have:=h.length_eq;rwa [List.length_map,List.length_map] at this
section
variable {q:Sw} {t:WS}
theorem md_D (h:WOk q t) {k:Int} (hk:k < 0):mdI t.D k=t.D:=BK1 (Af2 h hk)
theorem md_H (h:WOk q t) {k:Int} (hk:k < 0):mdI t.H k=t.H:=BK1 (Ar6 h hk)
theorem len_H (hg:F3 q) (h:WOk q t):t.H.length=q.inN:=by
 rw [in_held hg]
 refine BS2 ((List.perm_ext_iff_of_nodup h.ndH ?_).2 fun k=>?_)
 ·exact List.Pairwise.map (R:=fun a b=>a ≠ b) _ (fun a b hab e=>hab (by omega)) ((List.nodup_range' (step:=1) (h:=by decide)).filter _)
 ·rw [Ac5,List.mem_map]
  constructor
  ·rintro ⟨p,hp⟩
   obtain ⟨p0,k0,hF⟩:=(h.gH k p).1 hp
   obtain ⟨f,f0,f1,f2,_⟩:=R5 hg (p:=p.toNat) (by omega)
   refine ⟨f,List.mem_filter.2 ⟨?_,?_⟩,by omega⟩
   ·rw [List.mem_range'];exact ⟨f - q.a,by omega,by omega⟩
   ·exact decide_eq_true ⟨p.toNat,AK7 hg (by omega),f0⟩
  ·rintro ⟨f,hf,rfl⟩
   obtain ⟨_,h2⟩:=List.mem_filter.1 hf
   obtain ⟨p,hp,hF⟩:=of_decide_eq_true h2
   exact ⟨(p:Nat),(gH_n h f p).2 hF⟩
theorem len_D (hg:F3 q) (h:WOk q t):t.D.length=q.outN:=by
 rw [BR1 hg]
 refine BS2 ((List.perm_ext_iff_of_nodup h.ndD ?_).2 fun k=>?_)
 ·exact List.Pairwise.map (R:=fun a b=>a ≠ b) _ (fun a b hab e=>hab (by omega)) (List.nodup_range.filter _)
 ·rw [Ac5,List.mem_map]
  constructor
  ·rintro ⟨b,hb⟩
   rw [h.gD] at hb
   split at hb
   ·rename_i hk
    obtain ⟨p,hp,hT⟩:=hk.2
    rcases hg.sl p with h1 | ⟨_,k2,h2,h3⟩
    ·omega
    ·exact ⟨k.toNat,List.mem_filter.2 ⟨List.mem_range.2 (by omega),decide_eq_true ⟨p,hp,hT⟩⟩,by omega⟩
   ·cases hb
  ·rintro ⟨f,hf,rfl⟩
   obtain ⟨_,h2⟩:=List.mem_filter.1 hf
   obtain ⟨p,hp,hT⟩:=of_decide_eq_true h2
   exact ⟨_,AU9 hg h hT⟩
def Av1 (q:Sw) (i:Nat):Nat:=((List.range' q.a i).filter fun f=>decide (q.s.K f=2∧¬ q.heldF f)).length
theorem idle_0:((Av1 q 0:Nat):Int)=0:=rfl
theorem idle_s {i:Nat}:Av1 q (i+1)=Av1 q i+if q.s.K (q.a+i)=2∧¬ q.heldF (q.a+i) then 1 else 0:=by
 unfold Av1
 rw [List.range'_concat,List.filter_append,List.length_append,Nat.one_mul]
 congr 1
 by_cases h:q.s.K (q.a+i)=2∧¬ q.heldF (q.a+i)
 ·rw [if_pos h,List.filter_cons_of_pos (by simpa using h)];rfl
 ·rw [if_neg h,List.filter_cons_of_neg (by simpa using h)];rfl
theorem BK9:∀ i,Av1 q i≤i
 | 0=>Nat.le_refl _
 | i+1=>by have:=BK9 i;rw [idle_s];split<;>omega
end
end Go.Pol
namespace Go.Proofs.YtbhgfoikbkaohaaGreat.Sh
open Go Go.Am Go.Pol
theorem wx_Sxj {p q:Prop} (hq:q) (h:Y2 q→p:=by (intro hQz;((repeat' ((try (conv=>whnf));first|refine sxA ?_|refine AK6 hW rfl ?_|refine AG8 hW rfl ?_|refine sxF ?_|refine AU4 w_is rfl rfl rfl rfl rfl (by decide) rfl ?_|refine AU4 hS rfl rfl rfl rfl rfl (by decide) rfl ?_|refine AU4 hV rfl rfl rfl rfl rfl (by decide) rfl ?_|refine sxH ?_|((with_reducible first|apply U3 hQz|apply U4 hQz)<;>(try intro hsp hQz))|exact hQz.out))<;>(try (conv=>whnf))))):p:=h ⟨hq⟩
theorem wx_Sxjn {p q:Prop} (hq:q) (h:Y2 q→p:=by (intro hQz;((repeat' ((try (conv=>whnf));first|refine sxA ?_|refine AG8 hW rfl ?_|refine mdel_i rfl ?_|refine sxN ?_|refine AU4 w_is rfl rfl rfl rfl rfl (by decide) rfl ?_|refine AU4 hS rfl rfl rfl rfl rfl (by decide) rfl ?_|refine AU4 hO rfl rfl rfl rfl rfl (by decide) rfl ?_|refine Z9 hdec rfl rfl ?_|refine M0 hdec rfl (by decide) ?_|refine sxH ?_|((with_reducible first|apply U3 hQz|apply U4 hQz)<;>(try intro hsp hQz))|exact hQz.out))<;>(try (conv=>whnf))))):p:=h ⟨hq⟩
section
variable {q:Sw} {t:WS}
theorem BO1 (hg:F3 q) (h:WOk q t) (at_ now:Int):∃ t',T9 23 [.int .i64 at_,.int .i64 now] q t (.tup [.int .u8 (q.read at_ now).1,.int .i64 (q.read at_ now).2.1]) (q.read at_ now).2.2 t'∧WOk (q.read at_ now).2.2 t':=by
 have hrng:=hg.rng
 have hN:=Az5 (q:=q) (t:=t) hrng.2.2.2.1 at_ now
 by_cases hn:q.nums at_ now
 ·rw [decide_eq_true hn] at hN
  obtain ⟨n1,n2,n3,n4⟩:=hn
  obtain ⟨a,rfl⟩:=Int.eq_ofNat_of_zero_le n1
  have ha:a < 100000:=by omega
  by_cases hi:q.is (a / 64)
  ·obtain ⟨t',hT,hO⟩:=w_touch hg h (p:=a / 64) (now:=now) (by omega)
   by_cases he:(q.touch (a / 64) now).1=0
   ·have er:q.read (a:Nat) now=(((q.touch (a / 64) now).2.s.read ((q.touch (a / 64) now).2.F (a / 64) * 64+((a:Nat):Int) % 64)).1,((q.touch (a / 64) now).2.s.read ((q.touch (a / 64) now).2.F (a / 64) * 64+((a:Nat):Int) % 64)).2,(q.touch (a / 64) now).2):=by
     unfold Sw.read
     rw [if_neg (Classical.not_not.2 ⟨n1,n2,n3,n4⟩),Int.toNat_natCast,if_neg (Classical.not_not.2 hi),if_pos he]
    rw [er]
    refine ⟨t',?_,hO⟩
    rcases AS5 hg (p:=a / 64) now with hy|hno
    ·have hg2:=AA9 hg (p:=a / 64) (now:=now) (by omega) ⟨n3,n4⟩
     rw [he] at hT
     obtain ⟨f,f0,f1,f2,_⟩:=R5 hg2 hy.fr
     have hr2:=hg2.rng
     have hW':=Aa2 hO.ww (p:=a / 64) (.inl hy.fr)
     rw [f0] at hW'
     have hR:=p_read (s:=(q.touch (a / 64) now).2.s) (a:=((f:Nat):Int) * 64+((a % 64:Nat):Int))
     dsimp only
     rw [f0,BT8]
     exact w_ReadY hN ha (by omega) (Aa2 h.ww hi) hT hW' hR
    ·exact absurd he hno.e
   ·have er:q.read (a:Nat) now=(0,(q.touch (a / 64) now).1,(q.touch (a / 64) now).2):=by
     unfold Sw.read
     rw [if_neg (Classical.not_not.2 ⟨n1,n2,n3,n4⟩),Int.toNat_natCast,if_neg (Classical.not_not.2 hi),if_neg he]
    rw [er]
    exact ⟨t',w_ReadE hN ha (Aa2 h.ww hi) hT he,hO⟩
  ·have er:q.read (a:Nat) now=(0,0,q):=by
    unfold Sw.read
    rw [if_neg (Classical.not_not.2 ⟨n1,n2,n3,n4⟩),Int.toNat_natCast,if_pos hi]
   rw [er]
   exact ⟨t,w_ReadZ hN ha (gW_no h.ww hi),h⟩
 ·have er:q.read at_ now=(0,7,q):=by unfold Sw.read;rw [if_pos hn]
  rw [er]
  rw [decide_eq_false hn] at hN
  exact ⟨t,w_ReadN hN,h⟩
theorem Ai3 (hg:F3 q) (h:WOk q t) (at_ now v:Int):∃ t',T9 22 [.int .i64 at_,.int .i64 now,.int .u8 v] q t (.int .i64 (q.write at_ now v).1) (q.write at_ now v).2 t'∧WOk (q.write at_ now v).2 t':=by
 have hrng:=hg.rng
 have hN:=Az5 (q:=q) (t:=t) hrng.2.2.2.1 at_ now
 by_cases hn:q.nums at_ now
 ·rw [decide_eq_true hn] at hN
  obtain ⟨n1,n2,n3,n4⟩:=hn
  obtain ⟨a,rfl⟩:=Int.eq_ofNat_of_zero_le n1
  have ha:a < 100000:=by omega
  obtain ⟨t',hT,hO⟩:=w_touch hg h (p:=a / 64) (now:=now) (by omega)
  by_cases he:(q.touch (a / 64) now).1=0
  ·have er:q.write (a:Nat) now v=(q.touch (a / 64) now).2.byte (a:Nat) v:=by
    unfold Sw.write
    rw [if_neg (Classical.not_not.2 ⟨n1,n2,n3,n4⟩),Int.toNat_natCast,if_pos he]
   rw [er]
   refine ⟨t',?_,Ab3 hO _⟩
   rcases AS5 hg (p:=a / 64) now with hy|hno
   ·have hg2:=AA9 hg (p:=a / 64) (now:=now) (by omega) ⟨n3,n4⟩
    rw [he] at hT
    obtain ⟨f,f0,f1,f2,_⟩:=R5 hg2 hy.fr
    have hr2:=hg2.rng
    have hW':=Aa2 hO.ww (p:=a / 64) (.inl hy.fr)
    rw [f0] at hW'
    have hR:=p_write (s:=(q.touch (a / 64) now).2.s) (a:=((f:Nat):Int) * 64+((a % 64:Nat):Int)) (b:=v)
    unfold Sw.byte
    dsimp only
    rw [Int.toNat_natCast,f0,BT8]
    exact w_WriteY hN ha (by omega) hT hW' hR
   ·exact absurd he hno.e
  ·have er:q.write (a:Nat) now v=q.touch (a / 64) now:=by
    unfold Sw.write
    rw [if_neg (Classical.not_not.2 ⟨n1,n2,n3,n4⟩),Int.toNat_natCast,if_neg he]
   rw [er]
   exact ⟨t',w_WriteE hN ha hT he,hO⟩
 ·have er:q.write at_ now v=(7,q):=by unfold Sw.write;rw [if_pos hn]
  rw [er]
  rw [decide_eq_false hn] at hN
  exact ⟨t,w_WriteN hN,h⟩
section
variable {p e z x:Int} {f k:Nat} {q1:Sw} {t1:WS} {s2:Sy}
theorem w_OutR (hpg:q.pg≤256) (hp:p < 0∨(q.pg:Nat)≤p):T9 24 [.int .i64 p] q t (.int .i64 7) q t:=by
 refine T9.mk (G6 F9 b24 rfl ?_) (R9 A8) A8
 unfold c24
 unfold stN stC
 (refine wx_Sxj ?_;repeat' (first|with_reducible refine And.intro ?_ ?_|intro hsp))
 all_goals first|(exfalso;omega)|exact V9 rfl A8 rfl rfl rfl rfl rfl
theorem w_OutO (hp:0≤p∧p < (q.pg:Nat)) (hW:mgI t.W p=none):T9 24 [.int .i64 p] q t (.int .i64 4) q t:=by
 refine T9.mk (G6 F9 b24 rfl ?_) (R9 A8) A8
 unfold c24
 unfold stN stC
 (refine wx_Sxj ?_;repeat' (first|with_reducible refine And.intro ?_ ?_|intro hsp))
 all_goals first|(exfalso;omega)|exact V9 rfl A8 rfl rfl rfl rfl rfl
theorem w_OutP (hp:0≤p∧p < (q.pg:Nat)) (hW:mgI t.W p=some (e,x,z)) (he:e < 0):T9 24 [.int .i64 p] q t (.int .i64 4) q t:=by
 refine T9.mk (G6 F9 b24 rfl ?_) (R9 A8) A8
 unfold c24
 unfold stN stC
 (refine wx_Sxj ?_;repeat' (first|with_reducible refine And.intro ?_ ?_|intro hsp))
 all_goals first|(exfalso;omega)|exact V9 rfl A8 rfl rfl rfl rfl rfl
theorem w_OutF (hp:0≤p∧p < (q.pg:Nat)) (hW:mgI t.W p=some (((f:Nat):Int),x,z)) (hS:T9 68 [.int .i64 (-1)] q t (.int .i64 (-1)) q t):T9 24 [.int .i64 p] q t (.int .i64 5) q t:=by
 refine T9.mk (G6 F9 b24 rfl ?_) (R9 A8) A8
 unfold c24
 unfold stN stC
 (refine wx_Sxj ?_;repeat' (first|with_reducible refine And.intro ?_ ?_|intro hsp))
 all_goals first|(exfalso;omega)|exact V9 rfl A8 rfl rfl rfl rfl rfl
theorem w_OutY (hp:0≤p∧p < (q.pg:Nat)) (hW:mgI t.W p=some (((f:Nat):Int),x,z)) (hS:T9 68 [.int .i64 (-1)] q t (.int .i64 (k:Nat)) q t) (hO:T9 69 [.int .i64 p,.int .i64 (k:Nat)] q t (.tup []) q1 t1)
  (hdec:d9 70 [.int .i64 (f:Nat),.int .i64 1] q1.s.a (.int .i64 e) s2.a):T9 24 [.int .i64 p] q t (.int .i64 0) { q1 with s:=s2 } t1:=by
 refine T9.mk (G6 F9 b24 rfl ?_) (R9 A8) A8
 unfold c24
 unfold stN stC
 (refine wx_Sxjn ?_;repeat' (first|with_reducible refine And.intro ?_ ?_|intro hsp))
 all_goals first|(exfalso;omega)|exact V9 (q:={ q1 with s:=s2 }) rfl A8 rfl rfl rfl rfl rfl
theorem w_FreeR (hpg:q.pg≤256) (hp:p < 0∨(q.pg:Nat)≤p):T9 25 [.int .i64 p] q t (.int .i64 7) q t:=by
 refine T9.mk (G6 F9 b25 rfl ?_) (R9 A8) A8
 unfold c25
 unfold stN stC
 (refine wx_Sxj ?_;repeat' (first|with_reducible refine And.intro ?_ ?_|intro hsp))
 all_goals first|(exfalso;omega)|exact V9 rfl A8 rfl rfl rfl rfl rfl
theorem w_FreeO (hp:0≤p∧p < (q.pg:Nat)) (hW:mgI t.W p=none):T9 25 [.int .i64 p] q t (.int .i64 4) q t:=by
 refine T9.mk (G6 F9 b25 rfl ?_) (R9 A8) A8
 unfold c25
 unfold stN stC
 (refine wx_Sxj ?_;repeat' (first|with_reducible refine And.intro ?_ ?_|intro hsp))
 all_goals first|(exfalso;omega)|exact V9 rfl A8 rfl rfl rfl rfl rfl
theorem w_FreeS (hp:0≤p∧p < (q.pg:Nat)) (hW:mgI t.W p=some (e,x,z)) (he:e < 0):T9 25 [.int .i64 p] q t (.int .i64 0) q ⟨mdI t.W p,mdI t.D x,t.H⟩:=by
 refine T9.mk (G6 F9 b25 rfl ?_) (R9 A8) A8
 unfold c25
 unfold stN stC
 (refine wx_Sxjn ?_;repeat' (first|with_reducible refine And.intro ?_ ?_|intro hsp))
 all_goals first|(exfalso;omega)|exact V9 (q:=q) (t:=⟨mdI t.W p,mdI t.D x,t.H⟩) rfl A8 rfl rfl rfl rfl rfl
theorem w_FreeF (hp:0≤p∧p < (q.pg:Nat)) (hW:mgI t.W p=some (((f:Nat):Int),x,z)) (hdec:d9 70 [.int .i64 (f:Nat),.int .i64 1] q.s.a (.int .i64 e) s2.a):T9 25 [.int .i64 p] q t (.int .i64 0) { q with s:=s2 } ⟨mdI t.W p,t.D,mdI t.H (f:Nat)⟩:=by
 refine T9.mk (G6 F9 b25 rfl ?_) (R9 A8) A8
 unfold c25
 unfold stN stC
 (refine wx_Sxjn ?_;repeat' (first|with_reducible refine And.intro ?_ ?_|intro hsp))
 all_goals first|(exfalso;omega)|exact V9 (q:={ q with s:=s2 }) (t:=⟨mdI t.W p,t.D,mdI t.H (f:Nat)⟩) rfl A8 rfl rfl rfl rfl rfl
theorem w_VictimN (hV:T9 87 [] q t (.int .i64 (-1)) q t):T9 54 [] q t (.tup [.int .i64 0,.int .i64 4]) q t:=by
 refine T9.mk (G6 F9 b54 rfl ?_) (fun x hx=>by cases hx) (E5 (I4 A8 A8))
 unfold c54
 unfold stN stC
 (refine wx_Sxj ?_;repeat' (first|with_reducible refine And.intro ?_ ?_|intro hsp))
 all_goals first|(exfalso;omega)|exact V9 rfl (E5 (I4 A8 A8)) rfl rfl rfl rfl rfl
theorem w_VictimY {v:Nat} (hV:T9 87 [] q t (.int .i64 (v:Nat)) q t):T9 54 [] q t (.tup [.int .i64 (v:Nat),.int .i64 0]) q t:=by
 refine T9.mk (G6 F9 b54 rfl ?_) (fun x hx=>by cases hx) (E5 (I4 A8 A8))
 unfold c54
 unfold stN stC
 (refine wx_Sxj ?_;repeat' (first|with_reducible refine And.intro ?_ ?_|intro hsp))
 all_goals first|(exfalso;omega)|exact V9 rfl (E5 (I4 A8 A8)) rfl rfl rfl rfl rfl
end
theorem w_Victim (hg:F3 q) (h:WOk q t):T9 54 [] q t (.tup [.int .i64 (match q.vic with|some v=>(v:Nat)|none=>0),.int .i64 (match q.vic with|some _=>0|none=>4)]) q t:=by
 have hV:=BO0 hg h.ww
 cases hv:q.vic with
 | none=>rw [hv] at hV;exact w_VictimN hV
 | some v=>rw [hv] at hV;exact w_VictimY hV
theorem w_Out (hg:F3 q) (h:WOk q t) (p:Int):∃ t',T9 24 [.int .i64 p] q t (.int .i64 (q.out p).1) (q.out p).2 t'∧WOk (q.out p).2 t':=by
 have hrng:=hg.rng
 have hcnt:=hg.cnt
 by_cases hp:0≤p∧p < (q.pg:Nat)
 ·obtain ⟨n,rfl⟩:=Int.eq_ofNat_of_zero_le hp.1
  by_cases hF:q.F n < 0
  ·have er:q.out (n:Nat)=(4,q):=by unfold Sw.out;rw [if_neg (Classical.not_not.2 hp),Int.toNat_natCast,if_pos hF]
   rw [er]
   refine ⟨t,?_,h⟩
   by_cases hi:q.is n
   ·exact w_OutP hp (Aa2 h.ww hi) hF
   ·exact w_OutO hp (gW_no h.ww hi)
  ·obtain ⟨f,f0,f1,f2,f3⟩:=R5 hg (p:=n) (by omega)
   have hW:=Aa2 h.ww (p:=n) (.inl (by omega))
   rw [f0] at hW
   have hS:=w_slot h hrng.2.2.2.2 (-1)
   cases hsl:q.slot (-1) with
   | none =>
    have er:q.out (n:Nat)=(5,q):=by unfold Sw.out;rw [if_neg (Classical.not_not.2 hp),Int.toNat_natCast,if_neg hF,hsl]
    rw [er]
    rw [hsl] at hS
    exact ⟨t,w_OutF hp hW hS,h⟩
   | some k =>
    have er:q.out (n:Nat)=(0,(q.put n k).gone (q.F n)):=by unfold Sw.out;rw [if_neg (Classical.not_not.2 hp),Int.toNat_natCast,if_neg hF,hsl]
    rw [er]
    rw [hsl] at hS
    have hO:=Ag9 (q2:=q.put n k) (w_outM (k:=(k:Nat)) hW (by omega) f3 hcnt.2.2) rfl
    have hdec:=Aq6 (s:=(q.put n k).s) (a:=(f:Nat)) (n:=1) hg.good
    have hk:=(AB0 hsl).2.resolve_left (by omega)
    refine ⟨_,?_,Ab3 (wok_out hg h f0 hk) _⟩
    dsimp only
    rw [f0]
    exact w_OutY hp hW hS hO hdec
 ·have er:q.out p=(7,q):=by unfold Sw.out;rw [if_pos hp]
  rw [er]
  exact ⟨t,w_OutR hrng.2.2.2.1 (by omega),h⟩
theorem w_Free (hg:F3 q) (h:WOk q t) (p:Int):∃ t',T9 25 [.int .i64 p] q t (.int .i64 (q.fre p).1) (q.fre p).2 t'∧WOk (q.fre p).2 t':=by
 have hrng:=hg.rng
 by_cases hp:0≤p∧p < (q.pg:Nat)
 ·obtain ⟨n,rfl⟩:=Int.eq_ofNat_of_zero_le hp.1
  by_cases hi:q.is n
  ·have hW:=Aa2 h.ww hi
   have hwo:=wok_fre hg h hi
   by_cases hF:0≤q.F n
   ·obtain ⟨f,f0,f1,f2,f3⟩:=R5 hg (p:=n) hF
    have er:q.fre (n:Nat)=(0,Sw.gone { q with F:=E9 q.F n (-1),T:=E9 q.T n (-1),Z:=E9 q.Z n 0 } (q.F n)):=by unfold Sw.fre;rw [if_neg (Classical.not_not.2 hp),Int.toNat_natCast,if_neg (Classical.not_not.2 hi),if_pos hF]
    rw [er]
    have hT:q.T n < 0:=by rcases AX3 hg n with h1 | ⟨h1,_⟩<;>omega
    rw [f0] at hW
    rw [f0,md_D h hT] at hwo
    have hdec:=Aq6 (s:=q.s) (a:=(f:Nat)) (n:=1) hg.good
    refine ⟨_,?_,Ab3 hwo _⟩
    dsimp only
    rw [f0]
    exact Ag9 (w_FreeF hp hW hdec) rfl
   ·have er:q.fre (n:Nat)=(0,{ q with F:=E9 q.F n (-1),T:=E9 q.T n (-1),Z:=E9 q.Z n 0 }):=by unfold Sw.fre;rw [if_neg (Classical.not_not.2 hp),Int.toNat_natCast,if_neg (Classical.not_not.2 hi),if_neg hF]
    rw [er]
    rw [md_H h (by omega)] at hwo
    exact ⟨_,Ag9 (w_FreeS hp hW (by omega)) rfl,hwo⟩
  ·have er:q.fre (n:Nat)=(4,q):=by unfold Sw.fre;rw [if_neg (Classical.not_not.2 hp),Int.toNat_natCast,if_pos hi]
   rw [er]
   exact ⟨t,w_FreeO hp (gW_no h.ww hi),h⟩
 ·have er:q.fre p=(7,q):=by unfold Sw.fre;rw [if_pos hp]
  rw [er]
  exact ⟨t,w_FreeR hrng.2.2.2.1 (by omega),h⟩
end
end Go.Proofs.YtbhgfoikbkaohaaGreat.Sh
namespace Go.Proofs.YtbhgfoikbkaohaaGreat.Sh
open Go Go.Am Go.Pol
open Go.Proofs.YtbhgfoikbkaohaaGreat.Sh renaming plx_Sxc → plx
open Go.Proofs.YtbhgfoikbkaohaaGreat.Sh renaming ppx_Sxc → ppx
theorem wx_Sxk {p q:Prop} (hq:q) (h:Y2 q→p:=by (intro hQz;((repeat' ((try (conv=>whnf));first|refine sxA ?_|refine AG8 hp rfl ?_|refine AK6 hp rfl ?_|refine BR7 rfl ?_|refine sxF ?_|refine AU4 w_is rfl rfl rfl rfl rfl (by decide) rfl ?_|refine M0 hkd rfl (by decide) ?_|refine sxH ?_|((with_reducible first|apply U3 hQz|apply U4 hQz)<;>(try intro hsp hQz))|exact hQz.out))<;>(try (conv=>whnf))))):p:=h ⟨hq⟩
section
variable {q:Sw} {t:WS}
theorem w_Counts (hg:F3 q) (h:WOk q t):T9 56 [] q t (.tup [.int .i64 (q.inN:Nat),.int .i64 (q.outN:Nat),.int .i64 (q.idle:Nat),.int .i64 0]) q t:=by
 have hrng:=hg.rng
 have hpt:∀ {a b c d:Int},Plain (.tup [.int .i64 a,.int .i64 b,.int .i64 c,.int .i64 d]):=E5 fun x hx=>by
  simp only [List.mem_cons,List.not_mem_nil,or_false] at hx
  rcases hx with rfl|rfl|rfl|rfl<;>exact A8
 rw [← len_H hg h,← len_D hg h,show q.idle=Av1 q q.n from rfl]
 refine T9.mk (G6 F9 b56 rfl ?_) (fun x hx=>by cases hx) hpt
 unfold c56
 unfold stN stC
 (refine wx_Sxk ?_;repeat' (first|with_reducible refine And.intro ?_ ?_|intro hsp))
 have hi0:=idle_0 (q:=q)
 (refine H7 [0] (fun (i:Nat)=>[(4,.int .i64 (Av1 q i:Nat)),(6,.int .i64 ((q.a+i:Nat):Int))]) (fun (i:Nat)=>⟨stN q t 0 1 2 3 4,5⟩) (fun (i:Nat)=>i≤q.n) (fun (i:Nat)=>q.n - i) (0) [] rfl (fun _=>by first|exact Nat.zero_le _|(dsimp only;omega)) ?_ (by ((try (conv=>whnf));(rw [hi0]);exact AD4)) ?_)
 ·exact Nat.zero_le _
 intro i hi
 have hle:=BK9 (q:=q) i
 by_cases hil:i < q.n
 ·have hkd:=BQ7 (s:=q.s) (a:=(q.a+i:Nat))
  have hhd:=held_H h hg (f:=q.a+i)
  have hids:=idle_s (q:=q) (i:=i)
  by_cases hh:q.heldF (q.a+i)
  ·rw [Y9 (by omega) (heldK hg hh)] at hkd
   rw [if_neg (fun h2=>h2.2 hh)] at hids
   rw [decide_eq_true hh] at hhd
   obtain ⟨p,hp⟩:=Option.isSome_iff_exists.1 hhd
   unfold stN stC
   (refine wx_Sxk ?_;repeat' (first|with_reducible refine And.intro ?_ ?_|intro hsp))
   all_goals first|(exfalso;omega)|exact D7 (i+1) [] (by (try dsimp only);omega) (by first|omega|(dsimp only;omega)) rfl (by ((try dsimp only);rw [hids]);exact AD4)
  ·rw [decide_eq_false hh] at hhd
   have hp:mgI t.H ((q.a+i:Nat):Int)=none:=Option.not_isSome_iff_eq_none.1 (by rw [hhd];exact Bool.false_ne_true)
   rcases (hg.kind (q.a+i) (by omega) (by omega)).1 with hk|hk
   ·rw [Y9 (by omega) hk] at hkd
    rw [if_neg (fun h2=>by omega)] at hids
    unfold stN stC
    (refine wx_Sxk ?_;repeat' (first|with_reducible refine And.intro ?_ ?_|intro hsp))
    all_goals first|(exfalso;omega)|exact D7 (i+1) [] (by (try dsimp only);omega) (by first|omega|(dsimp only;omega)) rfl (by ((try dsimp only);rw [hids]);exact AD4)
   ·rw [Y9 (by omega) hk] at hkd
    rw [if_pos ⟨hk,hh⟩] at hids
    unfold stN stC
    (refine wx_Sxk ?_;repeat' (first|with_reducible refine And.intro ?_ ?_|intro hsp))
    all_goals first|(exfalso;omega)|exact D7 (i+1) [] (by (try dsimp only);omega) (by first|omega|(dsimp only;omega)) rfl (by ((try dsimp only);rw [hids]);exact AD4)
 ·obtain rfl:i=q.n:=by omega
  unfold stN stC
  (refine wx_Sxk ?_;repeat' (first|with_reducible refine And.intro ?_ ?_|intro hsp))
  all_goals first|(exfalso;omega)|exact V9 rfl hpt rfl rfl rfl rfl rfl
end
end Go.Proofs.YtbhgfoikbkaohaaGreat.Sh
namespace Go.Proofs.YtbhgfoikbkaohaaGreat
open Go Go.Am Go.Pol
theorem AM9 {α:Type} {f:α→List AV} {σ:Nat→Nat} {h h':Hp} {d n sz:Nat} {L:List α} (hf:∀ x,(f x).length=sz) (hp:∀ c,∀ x ∈ f c,Plain x) (hn:L.length=n) (hi:L.length ≠ 0→lk h.l d=some (.cells (flat f L))) (hi':∀ j o,lk h'.l j=some o→σ j ≠ d) (hs:AH3 σ h h'):WkV Tryz.prog σ h h' (AP3 d sz n) (.isl (L.map f)):=by
 subst hn
 by_cases hz:L.length=0
 ·rw [hz,own_z]
  cases List.eq_nil_of_length_eq_zero hz
  exact BH3
 ·rw [Af6 hz]
  refine BN9 (hi hz) hi' hs (by simp) (fun e he=>?_) ?_ fun e he x hx=>?_
  ·obtain ⟨s,_,rfl⟩:=List.mem_map.1 he;exact hf s
  ·rw [List.drop_zero,List.take_of_length_le (by rw [AT4 hf];exact Nat.le_refl _)];rfl
  ·obtain ⟨s,_,rfl⟩:=List.mem_map.1 he;exact hp s x hx
theorem Ak6 {cs:List AV} {d:Nat} (hd:1≤d):∀ j o,lk (Hp.mk [(0,.cells cs)] 1).l j=some o→rn [] j ≠ d:=fun j o hj=>by
 simp only [lk] at hj
 show j ≠ d
 split at hj
 ·omega
 ·cases hj
theorem one_sub {h:Hp} {cs:List AV} (h0:∃ o,lk h.l 0=some o):AH3 (rn []) h ⟨[(0,.cells cs)],1⟩:=fun i o hi=>by
 simp only [lk] at hi
 show ∃ o',lk h.l i=some o'
 split at hi
 ·rename_i e;subst e;exact h0
 ·cases hi
theorem end_one {top:Bool} {h:Hp} {x r:AV} {cs:List AV} (hr:WkV Tryz.prog (rn []) h ⟨[(0,.cells cs)],1⟩ x r) (h0:lk h.l 0=some (.cells cs)) (pd:∀ x ∈ cs,Plain x):AV3 top Tryz.prog 1 h x (fun r' h'=>r'=r∧h'=⟨[(0,.cells cs)],1⟩) :=
 AB9 [] rfl (Nat.le_refl _) (O7 rfl) hr (G9 (one_sub ⟨_,h0⟩) (show 0 < 1 by decide) h0 rfl pd I5) ⟨rfl,rfl⟩
theorem end_save {cs c1 c2:List AV} {R:List Rn} {U:List Int} {D:List Dt} {l:List Rl} {C H:Nat→Int} (pd:∀ x ∈ cs,Plain x):AV3 true Tryz.prog 1 ⟨(0,.cells cs)::(1,.cells c1)::(2,.cells c2)::(AE4 3 inA U++(AE4 4 dtA D++[])),5⟩ (.agg [.isl (R.map rnA),AP3 3 1 U.length,AP3 4 65 D.length,.isl (l.map rlA),.int .i64 (C 0),.int .i64 (C 1),.int .i64 (C 2),.int .i64 (C 3),.int .i64 (C 4),.int .i64 (C 5),.int .i64 (C 6),.int .i64 (H 0),.int .i64 (H 1),.int .i64 (H 2),.int .i64 (H 3),.int .i64 (H 4),.int .i64 (H 5),.int .i64 (H 6)]) (fun x h1=>x = .agg (vsA ⟨R,U,D,l,C,H⟩)∧h1=⟨[(0,.cells cs)],1⟩):=by
 have hs:AH3 (rn []) ⟨(0,.cells cs)::(1,.cells c1)::(2,.cells c2)::(AE4 3 inA U++(AE4 4 dtA D++[])),5⟩ ⟨[(0,.cells cs)],1⟩:=one_sub ⟨_,rfl⟩
 refine end_one (AY0 (A9 (X4 hs (H9 Y5)) (A9 (AM9 Al4 AI4 rfl (fun hz=>by simp [lk,N8 hz]) (Ak6 (by decide)) hs) (A9 (AM9 Aa7 AJ4 rfl (fun hz=>by simp [lk,O8,F8 hz]) (Ak6 (by decide)) hs) (AP5 hs C8))))) rfl pd
theorem end_save3 {cs c1 c2:List AV} {R:List Rn} {U:List Int} {D:List Dt} {l:List Rl} {C H:Nat→Int} (pd:∀ x ∈ cs,Plain x):AV3 true Tryz.prog 1 ⟨(0,.cells cs)::(1,.cells c1)::(2,.cells c2)::(AE4 10 rnA R++(AE4 11 inA U++(AE4 12 dtA D++[]))),13⟩ (.agg [AP3 10 3 R.length,AP3 11 1 U.length,AP3 12 65 D.length,.isl (l.map rlA),.int .i64 (C 0),.int .i64 (C 1),.int .i64 (C 2),.int .i64 (C 3),.int .i64 (C 4),.int .i64 (C 5),.int .i64 (C 6),.int .i64 (H 0),.int .i64 (H 1),.int .i64 (H 2),.int .i64 (H 3),.int .i64 (H 4),.int .i64 (H 5),.int .i64 (H 6)]) (fun x h1=>x = .agg (vsA ⟨R,U,D,l,C,H⟩)∧h1=⟨[(0,.cells cs)],1⟩):=by
 have hs:AH3 (rn []) ⟨(0,.cells cs)::(1,.cells c1)::(2,.cells c2)::(AE4 10 rnA R++(AE4 11 inA U++(AE4 12 dtA D++[]))),13⟩ ⟨[(0,.cells cs)],1⟩:=one_sub ⟨_,rfl⟩
 refine end_one (AY0 (A9 (AM9 AO6 Y5 rfl (fun hz=>by simp [lk,N8 hz]) (Ak6 (by decide)) hs) (A9 (AM9 Al4 AI4 rfl (fun hz=>by simp [lk,O8,N8 hz]) (Ak6 (by decide)) hs) (A9 (AM9 Aa7 AJ4 rfl (fun hz=>by simp [lk,O8,F8 hz]) (Ak6 (by decide)) hs) (AP5 hs C8))))) rfl pd
end Go.Proofs.YtbhgfoikbkaohaaGreat
namespace Go.Pol
open Go.Am Go.Proofs.YtbhgfoikbkaohaaGreat.Sh
def swA (x:Int × Int × Int × Int):List AV:=[.int .i64 x.1,.int .i64 x.2.1,.int .i64 x.2.2.1,.int .i64 x.2.2.2]
def swD (x:Int × (Nat→Int)):List AV:=.int .i64 x.1::bcA x.2
theorem AP7 (x:Int × Int × Int × Int):(swA x).length=4:=rfl
theorem AA7 (x:Int × (Nat→Int)):(swD x).length=65:=by unfold swD;rw [List.length_cons,S9]
theorem U6 (x:Int × Int × Int × Int):∀ y ∈ swA x,Plain y:=fun y hy=>by
 simp only [swA,List.mem_cons,List.not_mem_nil,or_false] at hy
 rcases hy with rfl|rfl|rfl|rfl<;>exact A8
theorem AA4 (x:Int × (Nat→Int)):∀ y ∈ swD x,Plain y:=fun y hy=>by
 rcases List.mem_cons.1 hy with rfl|hy
 ·exact A8
 ·exact AE7 y hy
def whE (w:Sw) (p:Nat):Int × Int × Int × Int:=((p:Nat),w.F p,w.T p,w.Z p)
def dkE (w:Sw) (k:Nat):Int × (Nat→Int):=((k:Nat),w.D k)
def Sw.slots (w:Sw):List Nat:=(List.range w.sl).filter fun k=>decide (w.heldT k)
def Sw.whr (w:Sw):List (Int × Int × Int × Int):=w.pages.map (whE w)
def Sw.dsk (w:Sw):List (Int × (Nat→Int)):=w.slots.map (dkE w)
section
variable {w:Sw} {t:WS}
theorem whr_0:w.whr.take 0=[]:=rfl
theorem dsk_0:w.dsk.take 0=[]:=rfl
theorem whr_s {j:Nat} (h:j < w.pages.length):w.whr.take (j+1)=w.whr.take j++[whE w (nth 0 w.pages j)]:=by
 unfold Sw.whr
 rw [← List.map_take,← List.map_take,Ag2 (d:=0) h,List.map_append];rfl
theorem dsk_s {j:Nat} (h:j < w.slots.length):w.dsk.take (j+1)=w.dsk.take j++[dkE w (nth 0 w.slots j)]:=by
 unfold Sw.dsk
 rw [← List.map_take,← List.map_take,Ag2 (d:=0) h,List.map_append];rfl
theorem As9:w.whr.take w.pages.length=w.whr:=by unfold Sw.whr;rw [← List.map_take,List.take_length]
theorem dsk_all:w.dsk.take w.slots.length=w.dsk:=by unfold Sw.dsk;rw [← List.map_take,List.take_length]
theorem AL0:w.whr.length=w.pages.length:=List.length_map ..
theorem Ad7:w.dsk.length=w.slots.length:=List.length_map ..
theorem take_le {α:Type} {l:List α} {j:Nat}:(l.take j).length≤l.length:=by rw [List.length_take];omega
theorem AQ0 (hg:F3 w) {k:Nat}:k ∈ w.slots ↔ w.heldT k:=by
 unfold Sw.slots
 rw [List.mem_filter,decide_eq_true_eq,List.mem_range]
 refine ⟨fun h=>h.2,fun h=>⟨?_,h⟩⟩
 obtain ⟨p,hp,hT⟩:=h
 rcases hg.sl p with h1 | ⟨_,k2,h2,h3⟩
 ·omega
 ·omega
theorem BO9:w.slots.Pairwise (· < ·):=List.pairwise_lt_range.filter _
theorem slots_upI:(w.slots.map fun p=>((p:Nat):Int)).Pairwise (· < ·):=List.Pairwise.map (R:=fun a b=>a < b) _ (fun a b hab=>by omega) BO9
theorem Ap8 (hg:F3 w) (h:WOk w t):(t.D.map (·.1)).Perm (w.slots.map fun p=>((p:Nat):Int)):=by
 refine (List.perm_ext_iff_of_nodup h.ndD ?_).2 fun k=>?_
 ·exact List.Pairwise.map (R:=fun a b=>a ≠ b) _ (fun a b hab e=>hab (by omega)) (List.nodup_range.filter _:w.slots.Nodup)
 ·rw [Ac5,List.mem_map]
  constructor
  ·rintro ⟨v,hv⟩
   rw [h.gD] at hv
   split at hv
   ·rename_i hk
    exact ⟨k.toNat,(AQ0 hg).2 hk.2,by omega⟩
   ·cases hv
  ·rintro ⟨p,hp,rfl⟩
   obtain ⟨p2,_,hT⟩:=(AQ0 hg).1 hp
   exact ⟨_,AU9 hg h hT⟩
theorem gD_at (hg:F3 w) (h:WOk w t) {k:Nat} (hk:w.heldT k):mgI t.D (k:Nat)=some (w.D k):=by
 obtain ⟨p2,_,hT⟩:=hk
 exact AU9 hg h hT
theorem Aj0 (hg:F3 w):w.slots.length≤256:=by
 have h2:w.slots.length≤w.sl:=Nat.le_trans (List.length_filter_le ..) (by rw [List.length_range];exact Nat.le_refl _)
 have:=hg.rng;omega
theorem Ak2 (hg:F3 w):w.pages.length≤256:=by
 have h2:w.pages.length≤w.pg:=Nat.le_trans (List.length_filter_le ..) (by rw [List.length_range];exact Nat.le_refl _)
 have:=hg.rng;omega
def Ao8 (a n pg sl:Int) (W:List (Int × Int × Int × Int)) (D:List (Int × (Nat→Int))) (i o:Int):List AV:=[.int .i64 a,.int .i64 n,.int .i64 pg,.int .i64 sl,.isl (W.map swA),.isl (D.map swD),.int .i64 i,.int .i64 o]
def Sw.save (w:Sw):List AV:=Ao8 (w.a:Nat) (w.n:Nat) (w.pg:Nat) (w.sl:Nat) w.whr w.dsk w.ins w.outs
theorem W9 {a n pg sl:Int} {W:List (Int × Int × Int × Int)} {D:List (Int × (Nat→Int))} {i o:Int}:∀ x ∈ Ao8 a n pg sl W D i o,Plain x:=fun x hx=>by
 simp only [Ao8,List.mem_cons,List.not_mem_nil,or_false] at hx
 rcases hx with rfl|rfl|rfl|rfl|rfl|rfl|rfl|rfl
 ·exact A8
 ·exact A8
 ·exact A8
 ·exact A8
 ·exact H9 U6
 ·exact H9 AA4
 ·exact A8
 ·exact A8
theorem AZ2 {a b c d e f:Int}:Plain (.agg [.int .i64 a,.int .i64 b,.int .i64 c,.int .i64 d,.nils,.nils,.int .i64 e,.int .i64 f]):=M4 fun x hx=>by
 simp only [List.mem_cons,List.not_mem_nil,or_false] at hx
 rcases hx with rfl|rfl|rfl|rfl|rfl|rfl|rfl|rfl<;>first|exact A8|exact Z5
theorem BR5 {σ:Nat→Nat} {l:List (Nat × AObj)} {d:Nat} (h:∀ q ∈ l,σ q.1 ≠ d):∀ j o,lk l j=some o→σ j ≠ d:=fun j o hj=>by
 induction l with
 | nil=>cases hj
 | cons q l ih =>
  simp only [lk] at hj
  split at hj
  ·rename_i e;subst e;exact h q (List.mem_cons_self ..)
  ·exact ih (fun q hq=>h q (List.mem_cons_of_mem _ hq)) hj
end
end Go.Pol
namespace Go.Proofs.YtbhgfoikbkaohaaGreat.Sh
open Go Go.Am Go.Pol
theorem plx_Sxl {p:Prop} (h:p:=by ((first|exact plw|(with_reducible first|apply R3|apply J7 _|apply J8 _|apply J5 _|apply w9|apply H9 U6|apply H9 AA4|apply Z5|apply AZ2|fail)|fail);first|done|fail)):p:=h
open Go.Proofs.YtbhgfoikbkaohaaGreat.Sh renaming plx_Sxl → plx
open Go.Proofs.YtbhgfoikbkaohaaGreat.Sh renaming ppx_Sxc → ppx
theorem wx_Sxl {p q:Prop} (hq:q) (h:Y2 q→p:=by (intro hQz;((repeat' ((try (conv=>whnf));first|(with_reducible first|refine O4 ?_|refine K6 ?_|refine P6 ?_|refine P8 ?_|refine L6 ?_|refine U9 ?_|refine N9 ?_|refine U8 rfl ?_|refine O1 ?_|refine J3 ?_|refine K8 ?_|refine K9 ?_|refine P7 ?_|refine J2 ?_|refine K7 (by decide +kernel) ?_|refine K3 (by decide +kernel) ?_|refine AG0 ?_|refine AG1 ?_|refine An9 ?_|refine r9 ?_|refine AJ5 ?_|refine Af8 (by assumption) ?_|refine Af9 (by assumption) ?_|refine o9 (by omega) ?_|refine AJ3 ?_)|((with_reducible refine AJ6 ?_ ?_);focus omega)|((with_reducible refine AJ7 ?_ ?_);focus omega)|((with_reducible apply U3 hQz)<;>(try intro hsp hQz))|((with_reducible refine An3 ?_ ?_);focus (first|omega|rfl|assumption|decide|(simp only [List.length_map,List.length_cons,List.length_nil];omega)|exact hmk|exact hmk2|(simp only [List.length_cons];omega)))|refine AF3 (hmk) ?_|refine AF3 (hmk2) ?_|(with_reducible first|refine AI9 ?_|refine o8 ?_|refine l9 ?_|refine AJ1 ?_|refine AJ0 ?_|refine AI7 ?_|refine Am8 ?_|refine I8 ?_|refine l7 ?_|refine P5 ?_|refine O9 ?_|refine I9 ?_|refine AI8 (by omega) ?_|refine l8 (by omega) ?_)|refine BR7 rfl ?_|refine BV0 rfl rfl (by omega) ?_|refine D6 hS ?_|refine AF1 hgp rfl ?_|refine mlook_by hgd hy rfl ?_|refine U2 (by omega) List.drop_zero (Q7 (by omega) (BN8 hyl) ?_)|refine ⟨hyl,?_⟩|refine X6 (by first|(simp only [List.length_replicate];omega)|fail) (over_y hyl) ?_|refine X6 (by first|(simp only [List.length_cons,List.length_nil];omega)|fail) (Ak4 hyl) ?_|refine sxF ?_|refine cx_so H8 hs rfl (by decide) ?_|refine An1 F9 rfl hF hA hB rfl ?_|refine AC3 (f:=swA) (l2:=[(((p:Nat):Int),q.F p,q.T p,q.Z p)]) AP7 (AA1 rfl (by first|rfl|(simp;done)|(simp [*];done))) (fun hz=>by first|(simp [lk,O8,N8 hz,F8 hz];done)|rfl) (fun hz=>by first|(simp [lk,O8,AN9,Au8 hz,AD9 hz];done)|rfl) (by first|rfl|(simp [flat,swA];done)|(simp [flat,swA, *];done)) (by decide) ⟨by omega,by omega⟩ rfl ?_|((with_reducible apply Aa9 hQz);intro hQa hQb;refine AC2 (f:=swA) (l2:=[(((p:Nat):Int),q.F p,q.T p,q.Z p)]) AP7 (AA1 rfl (by first|rfl|(simp;done)|(simp [*];done))) (fun hz=>by first|(simp [lk,O8,N8 hz,F8 hz];done)|rfl) (by first|rfl|(simp [flat,swA];done)|(simp [flat,swA, *];done)) (by decide) ⟨by omega,by omega⟩ ?_ ?_<;>intro hzz<;>first|(have hQz:=Y2.mk (hQa.out hzz))|(have hQz:=Y2.mk (hQb.out hzz)))|refine An1 F9 rfl hF2 hA2 hB2 rfl ?_|refine AC3 (f:=swD) (l2:=[(((p:Nat):Int),q.D p)]) AA7 (AA1 rfl (by first|rfl|(simp;done)|(simp [*];done))) (fun hz=>by first|(simp [lk,O8,N8 hz,F8 hz];done)|rfl) (fun hz=>by first|(simp [lk,O8,AN9,Au8 hz,AD9 hz];done)|rfl) (by first|rfl|(simp [flat,swD];done)|(simp [flat,swD, *];done)) (by decide) ⟨by omega,by omega⟩ rfl ?_|((with_reducible apply Aa9 hQz);intro hQa hQb;refine AC2 (f:=swD) (l2:=[(((p:Nat):Int),q.D p)]) AA7 (AA1 rfl (by first|rfl|(simp;done)|(simp [*];done))) (fun hz=>by first|(simp [lk,O8,N8 hz,F8 hz];done)|rfl) (by first|rfl|(simp [flat,swD];done)|(simp [flat,swD, *];done)) (by decide) ⟨by omega,by omega⟩ ?_ ?_<;>intro hzz<;>first|(have hQz:=Y2.mk (hQa.out hzz))|(have hQz:=Y2.mk (hQb.out hzz)))|refine AU4 w_is rfl rfl rfl rfl rfl (by decide) rfl ?_|(refine AF9 F9 b47 rfl ?_;unfold c47)|(refine AF9 F9 b48 rfl ?_;unfold c48)|refine sxH ?_|((with_reducible apply U4 hQz)<;>(try intro hsp hQz))|exact hQz.out))<;>(try (conv=>whnf))))):p:=h ⟨hq⟩
section
variable {q:Sw} {t:WS}
theorem mlook_by {l:List (Nat × AObj)} {i:Nat} {z:AV} {L:List (Int × (Nat→Int))} {k:Int} {b:Nat→Int} {y:List AV} {K:AV→Up→List Nat→Prop} (hg:mgI L k=some b) (hy:bcA b=y) (h1:lk l i=some (.maps (encW byE L))) (hk:K (.agg y) [] [i]):Af3 l false false [0] z (.mapr i) (.int .i64 k) K:=by
 subst hy;exact AF1 hg h1 hk
theorem slI_at {j:Nat} (hj:j < q.slots.length):((q.slots.map fun p=>((p:Nat):Int)).map (AV.int .i64))[j]? = some (.int .i64 ((nth 0 q.slots j:Nat):Int)):=by
 rw [P9 hj,List.getElem?_map,List.getElem?_map,List.getElem?_eq_getElem hj];rfl
theorem nth_isT (hg:F3 q) {j:Nat} (hj:j < q.slots.length):q.heldT (nth 0 q.slots j):=(AQ0 hg).1 (AN5 hj)
set_option maxRecDepth 20000 in
theorem w_Save (hg:F3 q) (h:WOk q t):T9 15 [] q t (.agg q.save) q t:=by
 have hpl1:=Ak2 hg
 have hpl2:=Aj0 hg
 have hwl:t.W.length=q.pages.length:=by
  have:=(AM2 hg h.ww).length_eq
  rwa [List.length_map,List.length_map] at this
 have hdl:t.D.length=q.slots.length:=by
  have:=(Ap8 hg h).length_eq
  rwa [List.length_map,List.length_map] at this
 have hndW:(t.W.map (·.1)).Nodup:=h.ndW
 have hndD:(t.D.map (·.1)).Nodup:=h.ndD
 have hmk:=kyC_0 (n:=t.W.length)
 have hmk2:=kyC_0 (n:=t.D.length)
 refine T9.mk (G6 F9 b15 rfl ?_) (fun x hx=>by cases hx) (M4 W9)
 unfold c15
 unfold stN stC
 (refine wx_Sxl ?_;repeat' (first|with_reducible refine And.intro ?_ ?_|intro hsp))
 refine BJ1 F9 bS_page rfl trivial ?_
 intro frl asl bdl hF hA hB
 unfold cKs0
 (refine wx_Sxl ?_;repeat' (first|with_reducible refine And.intro ?_ ?_|intro hsp))
 refine KeysX.mk fun ck hck=>keys_w F9 hck (i:=1) (it:=36) (pb:=33) (po:=0) (cs:=[]) (ks:=t.W.map (·.1)) [] (fun vis=>[(0,.yld 34),(1,.ptr 33 0),(3,.sl 35 0 vis.length t.W.length 1)]) (fun vis=>[(0,.cells (stC 4 1 2 3 q)),(2,.maps (encW byE t.D)),(3,.maps (encW nuE t.H)),(4,.cells q.s.a),(5,.cells [.int .i64 0,.int .i64 0,.int .i64 0,.int .i64 0,.nils,.nils,.int .i64 0,.int .i64 0]),(31,.cells [.int .i64 (q.a:Nat),.int .i64 (q.n:Nat),.int .i64 (q.pg:Nat),.int .i64 (q.sl:Nat),.nils,.nils,.int .i64 q.ins,.int .i64 q.outs]),(33,.cells [.mapr 1]),(34,.loop .ready none frl [42,43] asl bdl),(35,.cells (kyC vis t.W.length))]) Aw8 hndW rfl rfl rfl (.inr ⟨_,rfl⟩) rfl (by decide) (by decide) rfl (fun _=>rfl) rfl (fun _=>rfl) ?_ ?_ ?_
 ·exact wkxQ3
 ·intro vis k hnd hsub
  have hl1:vis.length < t.W.length:=by
   have:=Au9 hnd hsub
   rw [List.length_append,List.length_map] at this
   exact this
  unfold cKs4
  (refine wx_Sxl ?_;repeat' (first|with_reducible refine And.intro ?_ ?_|intro hsp))
  refine ⟨[],rfl,?_⟩
  rw [show (vis++[k]).length=vis.length+1 by simp]
  exact wkxQ3
 ·intro vis hperm
  have hlen:vis.length=t.W.length:=by rw [hperm.length_eq,List.length_map]
  have hs:=so_ok hlen (hperm.trans (AM2 hg h.ww)) BC0 (by omega)
  rw [BK6 hlen,hlen]
  unfold cKs1
  unfold cKsR
  (refine wx_Sxl ?_;repeat' (first|with_reducible refine And.intro ?_ ?_|intro hsp))
  rw [hwl]
  have hw0:=whr_0 (w:=q)
  (refine H7 [0,1,22,23] (fun (j:Nat)=>[(24,.int .i64 (j:Nat))]) (fun (j:Nat)=>⟨stN q t 0 1 2 3 4++[(5,.cells [.int .i64 0,.int .i64 0,.int .i64 0,.int .i64 0,.nils,.nils,.int .i64 0,.int .i64 0]),(31,.cells [.int .i64 (q.a:Nat),.int .i64 (q.n:Nat),.int .i64 (q.pg:Nat),.int .i64 (q.sl:Nat),AP3 37 4 (q.whr.take j).length,.nils,.int .i64 q.ins,.int .i64 q.outs]),(33,.cells [.mapr 1]),(34,.loop .ready none frl [42,43] asl bdl),(35,.cells ((q.pages.map fun p=>((p:Nat):Int)).map (AV.int .i64)))]++AE4 37 swA (q.whr.take j),38⟩) (fun (j:Nat)=>j≤q.pages.length) (fun (j:Nat)=>q.pages.length - j) (0) [] rfl (fun _=>by first|exact Nat.zero_le _|(dsimp only;omega)) ?_ (by ((try (conv=>whnf));(rw [hw0]);exact wkxQ4)) ?_)
  ·exact Nat.zero_le _
  intro j hj
  have hL1:(q.whr.take j).length≤q.whr.length:=take_le
  rw [AL0] at hL1
  by_cases hjl:j < q.pages.length
  ·have hip:=BR3 hg hjl
   have hS:=pgI_at hjl
   have hws:=whr_s hjl
   unfold whE at hws
   generalize nth 0 q.pages j=p at *
   have hgp:=Aa2 h.ww hip
   unfold stN stC
   (refine wx_Sxl ?_;repeat' (first|with_reducible refine And.intro ?_ ?_|intro hsp))
   all_goals exact D7 (j+1) [(37,40)] (by (try dsimp only);omega) (by first|omega|(dsimp only;omega)) rfl (by ((try dsimp only);rw [hws]);exact wkxQ4)
  ·obtain rfl:j=q.pages.length:=by omega
   rw [As9]
   unfold stN stC
   (refine wx_Sxl ?_;repeat' (first|with_reducible refine And.intro ?_ ?_|intro hsp))
   refine BJ1 F9 bS_bytes rfl trivial ?_
   intro frl2 asl2 bdl2 hF2 hA2 hB2
   unfold cKs0
   (refine wx_Sxl ?_;repeat' (first|with_reducible refine And.intro ?_ ?_|intro hsp))
   refine KeysX.mk fun ck hck=>keys_w F9 hck (i:=2) (it:=41) (pb:=38) (po:=0) (cs:=[]) (ks:=t.D.map (·.1)) [] (fun vis=>[(0,.yld 39),(1,.ptr 38 0),(3,.sl 40 0 vis.length t.D.length 1)]) (fun vis=>[(0,.cells (stC 4 1 2 3 q)),(1,.maps (encW pgE t.W)),(3,.maps (encW nuE t.H)),(4,.cells q.s.a),(5,.cells [.int .i64 0,.int .i64 0,.int .i64 0,.int .i64 0,.nils,.nils,.int .i64 0,.int .i64 0]),(31,.cells [.int .i64 (q.a:Nat),.int .i64 (q.n:Nat),.int .i64 (q.pg:Nat),.int .i64 (q.sl:Nat),.isl (q.whr.map swA),.nils,.int .i64 q.ins,.int .i64 q.outs]),(38,.cells [.mapr 2]),(39,.loop .ready none frl2 [62,63] asl2 bdl2),(40,.cells (kyC vis t.D.length))]) Aw8 hndD rfl rfl rfl (.inr ⟨_,rfl⟩) rfl (by decide) (by decide) rfl (fun _=>rfl) rfl (fun _=>rfl) ?_ ?_ ?_
   ·exact wkxQ3
   ·intro vis k hnd hsub
    have hl1:vis.length < t.D.length:=by
     have:=Au9 hnd hsub
     rw [List.length_append,List.length_map] at this
     exact this
    unfold cKs4
    (refine wx_Sxl ?_;repeat' (first|with_reducible refine And.intro ?_ ?_|intro hsp))
    refine ⟨[],rfl,?_⟩
    rw [show (vis++[k]).length=vis.length+1 by simp]
    exact wkxQ3
   ·intro vis hperm
    have hlen:vis.length=t.D.length:=by rw [hperm.length_eq,List.length_map]
    have hs:=so_ok hlen (hperm.trans (Ap8 hg h)) slots_upI (by omega)
    rw [BK6 hlen,hlen]
    unfold cKs1
    unfold cKsR
    (refine wx_Sxl ?_;repeat' (first|with_reducible refine And.intro ?_ ?_|intro hsp))
    rw [hdl]
    have hw0:=dsk_0 (w:=q)
    (refine H7 [0,1,22,23] (fun (j:Nat)=>[(24,.int .i64 (j:Nat))]) (fun (j:Nat)=>⟨stN q t 0 1 2 3 4++[(5,.cells [.int .i64 0,.int .i64 0,.int .i64 0,.int .i64 0,.nils,.nils,.int .i64 0,.int .i64 0]),(31,.cells [.int .i64 (q.a:Nat),.int .i64 (q.n:Nat),.int .i64 (q.pg:Nat),.int .i64 (q.sl:Nat),.isl (q.whr.map swA),AP3 42 65 (q.dsk.take j).length,.int .i64 q.ins,.int .i64 q.outs]),(38,.cells [.mapr 2]),(39,.loop .ready none frl2 [62,63] asl2 bdl2),(40,.cells ((q.slots.map fun p=>((p:Nat):Int)).map (AV.int .i64)))]++AE4 42 swD (q.dsk.take j),43⟩) (fun (j:Nat)=>j≤q.slots.length) (fun (j:Nat)=>q.slots.length - j) (0) [] rfl (fun _=>by first|exact Nat.zero_le _|(dsimp only;omega)) ?_ (by ((try (conv=>whnf));(rw [hw0]);exact wkxQ5)) ?_)
    ·exact Nat.zero_le _
    intro j hj
    have hL1:(q.dsk.take j).length≤q.dsk.length:=take_le
    rw [Ad7] at hL1
    by_cases hjl:j < q.slots.length
    ·have hip:=nth_isT hg hjl
     have hS:=slI_at hjl
     have hws:=dsk_s hjl
     unfold dkE at hws
     generalize nth 0 q.slots j=p at *
     have hgd:=gD_at hg h hip
     have hyl:(bcA (q.D p)).length=64:=S9
     generalize hy:bcA (q.D p)=y at hyl
     unfold stN stC
     (refine wx_Sxl ?_;repeat' (first|with_reducible refine And.intro ?_ ?_|intro hsp))
     all_goals exact D7 (j+1) [(42,45)] (by (try dsimp only);omega) (by first|omega|(dsimp only;omega)) rfl (by ((try dsimp only);rw [hws]);exact wkxQ5)
    ·obtain rfl:j=q.slots.length:=by omega
     rw [dsk_all]
     unfold stN stC
     (refine wx_Sxl ?_;repeat' (first|with_reducible refine And.intro ?_ ?_|intro hsp))
     all_goals exact end_WW (q:=q) (t:=t) (fun hs=>AY0 (A9 (M9 rfl) (A9 (M9 rfl) (A9 (M9 rfl) (A9 (M9 rfl) (A9 (X4 hs (H9 U6)) (A9 (AM9 AA7 AA4 rfl (fun hz=>by first|(simp [lk,O8,F8 hz,N8 hz];done)|exact F8 hz|rfl) (BR5 (by simp [rn,stN])) hs) (A9 (M9 rfl) (A9 (M9 rfl) G7))))))))) rfl rfl rfl rfl rfl
end
end Go.Proofs.YtbhgfoikbkaohaaGreat.Sh
namespace Go.Pol
open Go.Am Go.Proofs.YtbhgfoikbkaohaaGreat.Sh
structure SAc where
 w:Int
 p:Int
 t:Int
 n:Int
 v:Int
 l:List Rl
def Aj3 (x:SAc):List AV:=[.int .u8 x.w,.int .i64 x.p,.int .i64 x.t,.int .i64 x.n,.int .u8 x.v,.isl (x.l.map rlA)]
theorem BP2 (x:SAc):(Aj3 x).length=6:=rfl
def dSA:SAc:=⟨0,0,0,0,0,[]⟩
structure SPy where
 a:Int
 n:Int
 pg:Int
 sl:Int
 l:List Rl
 X:List SAc
def BG3 (p:SPy):List AV:=[.int .i64 p.a,.int .i64 p.n,.int .i64 p.pg,.int .i64 p.sl,.isl (p.l.map rlA),.isl (p.X.map Aj3)]
def Sw.nw (s:Sy) (a n pg sl:Int):Sw:=⟨a.toNat,n.toNat,pg.toNat,sl.toNat,fun _=>-1,fun _=>-1,fun _=>0,fun _ _=>0,0,0,s⟩
def T0:WS:=⟨[],[],[]⟩
def SPy.b (p:SPy):Sw:=Sw.nw ((Sy.new p.l).chg p.a p.n 0 1 0).2 p.a p.n p.pg p.sl
theorem wok_new {s:Sy} {a n pg sl:Int}:WOk (Sw.nw s a n pg sl) T0:=by
 refine ⟨List.nodup_nil,List.nodup_nil,List.nodup_nil,fun p=>?_,fun k=>?_,fun f p=>?_⟩
 ·rw [if_neg]
  ·rfl
  ·rintro ⟨_,h|h⟩
   ·exact absurd h (show ¬ (0:Int) ≤ -1 by decide)
   ·exact absurd h (show ¬ (0:Int) ≤ -1 by decide)
 ·rw [if_neg]
  ·rfl
  ·rintro ⟨hk,p,_,hT⟩
   have : (-1:Int)=((k.toNat:Nat):Int):=hT
   omega
 ·constructor
  ·intro h;cases h
  ·rintro ⟨_,h1,h2⟩
   have : (-1:Int)=f:=h2
   omega
end Go.Pol
namespace Go.Proofs.YtbhgfoikbkaohaaGreat.Sh
open Go Go.Am Go.Pol
theorem wx_Sxm {p q:Prop} (hq:q) (h:Y2 q→p:=by (intro hQz;((repeat' ((try (conv=>whnf));first|refine sxA ?_|refine sxF ?_|refine M0 (by assumption) rfl (by decide) ?_|refine L9 (by assumption) ?_|refine M0 hc rfl (by decide) ?_|refine M0 hr rfl (by decide) ?_|refine sxH ?_|((with_reducible first|apply U3 hQz|apply U4 hQz)<;>(try intro hsp hQz))|exact hQz.out))<;>(try (conv=>whnf))))):p:=h ⟨hq⟩
theorem AL6 (x:SAc):∀ y ∈ Aj3 x,Plain y:=fun y hy=>by
 unfold Aj3 at hy
 simp only [List.mem_cons,List.not_mem_nil,or_false] at hy
 rcases hy with rfl|rfl|rfl|rfl|rfl|rfl<;>first|exact A8|exact Q5
theorem AM1 (x:SAc):Plain (.agg (Aj3 x)):=M4 (AL6 x)
theorem AM0 {X:List SAc}:Plain (.isl (X.map Aj3)):=AQ6 fun e he=>by obtain ⟨x,_,rfl⟩:=List.mem_map.1 he;exact AL6 x
theorem AH7 (p:SPy):∀ y ∈ BG3 p,Plain y:=fun y hy=>by
 unfold BG3 at hy
 simp only [List.mem_cons,List.not_mem_nil,or_false] at hy
 rcases hy with rfl|rfl|rfl|rfl|rfl|rfl
 ·exact A8
 ·exact A8
 ·exact A8
 ·exact A8
 ·exact Q5
 ·exact AM0
theorem AI1 (p:SPy):Plain (.agg (BG3 p)):=M4 (AH7 p)
theorem end_Wg {top:Bool} {h:Hp} {N0 n:Nat} {x r:AV} {q:Sw} {t:WS} (ren:List (Nat × Nat)) (o w d m s:Nat) (hkp:AR5 N0 ren=true) (hm:N0≤n) (hone:Ab1 [rn ren o,rn ren w,rn ren d,rn ren m,rn ren s]=true)
  (hlt:o < n∧w < n∧d < n∧m < n∧s < n)
  (hr:AH3 (rn ren) h ⟨stN q t o w d m s,n⟩→WkV Tryz.prog (rn ren) h ⟨stN q t o w d m s,n⟩ x r) (g0:lk h.l (rn ren o)=some (.cells (stC (rn ren s) (rn ren w) (rn ren d) (rn ren m) q))) (g1:lk h.l (rn ren w)=some (.maps (encW pgE t.W))) (g2:lk h.l (rn ren d)=some (.maps (encW byE t.D))) (g3:lk h.l (rn ren m)=some (.maps (encW nuE t.H))) (g4:lk h.l (rn ren s)=some (.cells q.s.a)) :
  AV3 top Tryz.prog N0 h x (fun r' h'=>r'=r∧h'=⟨stN q t o w d m s,n⟩):=by
 have hs:AH3 (rn ren) h ⟨stN q t o w d m s,n⟩:=fun j x hi=>by
  simp only [stN,lk] at hi
  split at hi
  ·rename_i e;subst e;exact ⟨_,g0⟩
  ·split at hi
   ·rename_i e;subst e;exact ⟨_,g1⟩
   ·split at hi
    ·rename_i e;subst e;exact ⟨_,g2⟩
    ·split at hi
     ·rename_i e;subst e;exact ⟨_,g3⟩
     ·split at hi
      ·rename_i e;subst e;exact ⟨_,g4⟩
      ·cases hi
 refine AB9 ren hkp hm (O7 (l:=stN q t o w d m s) hone) (hr hs) ?_ ⟨rfl,rfl⟩
 have:=wko_st (r:=[]) hs rfl rfl rfl rfl rfl hlt g0 g1 g2 g3 g4 I5
 exact this
structure LocWN (f:Nat) (avs:List AV) (s:Sy) (q:Sw) (t:WS):Prop where
 out:AU0 Tryz.prog G0 f (.ptr 0 0::avs) [(0,.cells s.a)] 1 fun x h=>x = .tup [.ptr 1 0,.int .i64 0]∧h=⟨stN q t 1 2 3 4 0,5⟩
 pa:∀ x ∈ avs,Plain x
theorem cx_WN {f:Nat} {avs:List AV} {s:Sy} {q:Sw} {t:WS} {g nx:Nat} {l:List (Nat × AObj)} {K:AV→Hp→Prop} (hc:LocWN f avs s q t) (h5:lk l g=some (.cells s.a)) (hlt:g < nx)
  (hk:AO2 [g] l fun l2=>K (.tup [.ptr nx 0,.int .i64 0]) ⟨([(nx,.cells (stC g (nx+1) (nx+2) (nx+3) q)),(nx+1,.maps (encW pgE t.W)),(nx+2,.maps (encW byE t.D)),(nx+3,.maps (encW nuE t.H)),(g,.cells q.s.a)]:List (Nat × AObj))++l2,nx+4⟩):AL4 Tryz.prog G0 (.fn f [] []) (.ptr g 0::avs) ⟨l,nx⟩ K:=by
 have e0:enter [g] g 0:=rfl
 have k0:back [g] nx 0 g:=rfl
 have k1:back [g] nx 1 nx:=rfl
 have k2:back [g] nx 2 (nx+1):=rfl
 have k3:back [g] nx 3 (nx+2):=rfl
 have k4:back [g] nx 4 (nx+3):=rfl
 refine AO7 (r':=.tup [.ptr nx 0,.int .i64 0]) (l1:=stN q t nx (nx+1) (nx+2) (nx+3) g) [g] hc.out H8 rfl (.cons e0 h5 (D8 G8) .nil)
  ?_ (by intro x hx;simp only [List.mem_cons,List.not_mem_nil,or_false] at hx;omega) (BA7 ⟨O5 k1,F5 A8,trivial⟩)
  (.cons k1 (AQ2 k0 k2 k3 k4) (.maps k2 (D5 J7) (.maps k3 (D5 J8) (.maps k4 (D5 J5) (.cons k0 (D8 G8) .nil))))) hk
 simp only [List.nil_append,List.append_nil]
 exact ⟨O5 e0,D8 hc.pa⟩
section
variable {s:Sy} {a n pg sl:Int}
theorem AK4 {e:Int}:Plain (.tup [.nilp,.int .i64 e]):=E5 (I4 X0 A8)
theorem AZ5 {a b c d:Int}:∀ x ∈ [AV.int .i64 a,.int .i64 b,.int .i64 c,.int .i64 d],Plain x:=fun x hx=>by
 simp only [List.mem_cons,List.not_mem_nil,or_false] at hx
 rcases hx with rfl|rfl|rfl|rfl<;>exact A8
theorem w_New_far (hg:GoodS s) (hn:¬ U7 a n pg sl):d9 17 [.int .i64 a,.int .i64 n,.int .i64 pg,.int .i64 sl] s.a (.tup [.nilp,.int .i64 7]) s.a:=by
 have hc:=Ag6 hg
 have hst:=Ah2 a n pg sl
 rw [decide_eq_false hn] at hst
 unfold Sy.counts at hc
 refine d9.mk (G6 F9 b17 rfl ?_) G8 G8 AZ5 AK4
 unfold c17
 generalize AU5 s.K 0 1024=n0 at *
 generalize AU5 s.K 1 1024=n1 at *
 generalize AU5 s.K 2 1024=n2 at *
 generalize AU5 s.K 3 1024=n3 at *
 generalize cntG s.G 64=n4 at *
 (refine wx_Sxm ?_;repeat' (first|with_reducible refine And.intro ?_ ?_|intro hsp))
 all_goals exact Y0 rfl AK4 rfl G8
theorem w_New_no (hg:GoodS s) (hn:U7 a n pg sl) (he:(s.chg a n 0 1 0).1 ≠ 0):d9 17 [.int .i64 a,.int .i64 n,.int .i64 pg,.int .i64 sl] s.a (.tup [.nilp,.int .i64 (s.chg a n 0 1 0).1]) (s.chg a n 0 1 0).2.a:=by
 have hc:=Ag6 hg
 have hst:=Ah2 a n pg sl
 rw [decide_eq_true hn] at hst
 have hr:=BC4 (a:=a) (n:=n) hg
 unfold Sy.counts at hc
 refine d9.mk (G6 F9 b17 rfl ?_) G8 G8 AZ5 AK4
 unfold c17
 generalize AU5 s.K 0 1024=n0 at *
 generalize AU5 s.K 1 1024=n1 at *
 generalize AU5 s.K 2 1024=n2 at *
 generalize AU5 s.K 3 1024=n3 at *
 generalize cntG s.G 64=n4 at *
 generalize s.chg a n 0 1 0=r at *
 (refine wx_Sxm ?_;repeat' (first|with_reducible refine And.intro ?_ ?_|intro hsp))
 all_goals first|exact Y0 rfl AK4 rfl G8|(exfalso;omega)
theorem w_New (hg:GoodS s) (hn:U7 a n pg sl) (he:(s.chg a n 0 1 0).1=0):LocWN 17 [.int .i64 a,.int .i64 n,.int .i64 pg,.int .i64 sl] s (Sw.nw (s.chg a n 0 1 0).2 a n pg sl) T0:=by
 have hc:=Ag6 hg
 have hst:=Ah2 a n pg sl
 rw [decide_eq_true hn] at hst
 have hr:=BC4 (a:=a) (n:=n) hg
 rw [he] at hr
 obtain ⟨n1',n2',n3',n4',n5',n6',n7',n8'⟩:=hn
 have e1:((a.toNat:Nat):Int)=a:=Int.toNat_of_nonneg n1'
 have e2:((n.toNat:Nat):Int)=n:=Int.toNat_of_nonneg (by omega)
 have e3:((pg.toNat:Nat):Int)=pg:=Int.toNat_of_nonneg (by omega)
 have e4:((sl.toNat:Nat):Int)=sl:=Int.toNat_of_nonneg (by omega)
 unfold Sy.counts at hc
 refine LocWN.mk (G6 F9 b17 rfl ?_) AZ5
 unfold c17
 generalize AU5 s.K 0 1024=n0 at *
 generalize AU5 s.K 1 1024=n1 at *
 generalize AU5 s.K 2 1024=n2 at *
 generalize AU5 s.K 3 1024=n3 at *
 generalize cntG s.G 64=n4 at *
 generalize s.chg a n 0 1 0=r at *
 (refine wx_Sxm ?_;repeat' (first|with_reducible refine And.intro ?_ ?_|intro hsp))
 all_goals exact end_Wg [(1,5),(2,2),(3,3),(4,4)] 1 2 3 4 0 rfl (by decide) rfl (by decide) (fun hs=>AK2 (A9 (U5 (i:=1) rfl (show 1 < 5 by decide)) (A9 (M9 rfl) G7))) (by unfold stC Sw.nw;dsimp only;rw [e1,e2,e3,e4];rfl) (by unfold T0;rw [AA8];rfl) (by unfold T0;rw [AA8];rfl) (by unfold T0;rw [AA8];rfl) rfl
end
end Go.Proofs.YtbhgfoikbkaohaaGreat.Sh
