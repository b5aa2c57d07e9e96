/-
 The document's Load.
 Load of the program: its closures,and what it lays out.
 Load of the program.
 The program's Load of what was saved;calls with and without refusals.
 SnapshotLoads.
-/
import Derived.Test.YtphggldkligldaaGreatQax
set_option linter.unusedSimpArgs false
set_option linter.unusedVariables false
set_option maxHeartbeats 6400000
namespace Go.Proofs.YtphggldkligldaaGreat.Sh
open Go Go.Am Go.Pol
open Go.Proofs.YtphggldkligldaaGreat.Sh renaming plx_Ia → plx
open Go.Proofs.YtphggldkligldaaGreat.Sh renaming ppx_Ia → ppx
theorem wx_Ib {p q:Prop} (hq:q) (h:X0 q→p:=by (intro hQz;((repeat' ((try (conv=>whnf));first|refine sxA ?_|refine o7 (d:=dV) K3 (by first|assumption|omega) (by with_reducible assumption) ?_|refine sxF ?_|refine G9 (by assumption) ?_|refine K5 (by assumption) ?_|refine G9 h ?_|refine M4 hkd rfl (by decide) ?_|refine cx_W hcn rfl rfl (by decide) rfl ?_|refine dcx_W hcn rfl rfl rfl rfl ?_|refine sxH ?_|((with_reducible first|apply M9 hQz|apply N7 hQz)<;>(try intro hsp hQz))|exact hQz.out))<;>(try (conv=>whnf))))):p:=h ⟨hq⟩
section
variable {s:Sy} {R:List Rw} {L:List Vw} {a n:Nat}
theorem d_Load_far {a n:Int} (hn:¬ stat a n):u7 25 [.agg [.int .i64 a,.int .i64 n,.isl (R.map rwC)]] s.b (.tup [.nilp,.int .i64 7]) s.b:=by
 have hst:=AN7 a n
 rw [decide_eq_false hn] at hst
 refine u7.mk (G5 E9 b25 rfl ?_) F8 F8 (R6 AP8) V9
 unfold c25
 (refine wx_Ib ?_;repeat' (first|with_reducible refine And.intro ?_ ?_|intro hsp))
 all_goals first|exact V7 rfl V9 rfl F8|(exfalso;omega)
theorem d_Load_tab {a n:Int} (hn:stat a n) {i e:Int} (hr:ChkR R i e) (he:e ≠ 0):u7 25 [.agg [.int .i64 a,.int .i64 n,.isl (R.map rwC)]] s.b (.tup [.nilp,.int .i64 6]) s.b:=by
 have hst:=AN7 a n
 rw [decide_eq_true hn] at hst
 have hck:=q_check hr
 refine u7.mk (G5 E9 b25 rfl ?_) F8 F8 (R6 AP8) V9
 unfold c25
 (refine wx_Ib ?_;repeat' (first|with_reducible refine And.intro ?_ ?_|intro hsp))
 all_goals first|exact V7 rfl V9 rfl F8|(exfalso;omega)
theorem Ay6 (hs:srt L) (hl:L.length≤2000) (ho:∀ v ∈ L,v.1 < 64∧v.2.1 < 1024∧v.2.2.1 < 1024):F4 77 [.agg [.isl (L.map vwC)]] (.tup [.int .i64 0,.int .i64 0]):=by
 have h:=q_check (chk_of (i:=0) hs hl ho)
 rwa [An7] at h
theorem d_Load_out (hr:1≤n∧a+n≤1024) (hs:srt L) (hl:L.length≤2000) (ho:∀ v ∈ L,v.1 < 64∧v.2.1 < 1024∧v.2.2.1 < 1024) (hv:∃ v ∈ L,¬ inW a n v):u7 25 [.agg [.int .i64 (a:Nat),.int .i64 (n:Nat),.isl (L.map vwC)]] s.b (.tup [.nilp,.int .i64 6]) s.b:=by
 have hck:=Ay6 hs hl ho
 have hcp:=q_Copy hl
 unfold stA at hcp
 have hst:=AN7 (a:Nat) (n:Nat)
 rw [decide_eq_true (show stat (a:Nat) (n:Nat) from ⟨by omega,by omega,by omega,by omega⟩)] at hst
 refine u7.mk (G5 E9 b25 rfl ?_) F8 F8 (R6 X4) V9
 unfold c25
 (refine wx_Ib ?_;repeat' (first|with_reducible refine And.intro ?_ ?_|intro hsp))
 (refine G8 [0,8] (fun (i:Nat)=>[(9,.int .i64 (i:Nat))]) (fun (i:Nat)=>⟨[(0,.cells s.b),(11,.cells [.ptr 0 0,.int .i64 (a:Nat),.int .i64 (n:Nat),.isl (L.map vwC)])],12⟩) (fun (i:Nat)=>∃ j,i≤j∧j < L.length∧¬ inW a n (nth dV L j)) (fun (i:Nat)=>L.length - i) (0) [] rfl (fun _=>by first|exact Nat.zero_le _|(dsimp only;omega)) ?_ (by ((try (conv=>whnf));exact U7)) ?_)
 ·obtain ⟨v,hv1,hv2⟩:=hv
  obtain ⟨j,hj,rfl⟩:=List.getElem_of_mem hv1
  exact ⟨j,Nat.zero_le _,hj,by rw [K9 hj];exact hv2⟩
 intro i hi
 obtain ⟨j,i1,i2,i3⟩:=hi
 have hil:i < L.length:=by omega
 have hne:inW a n (nth dV L i)→∃ j,i+1≤j∧j < L.length∧¬ inW a n (nth dV L j):=fun hn=>⟨j,by
  by_cases e:i=j
  ·exact absurd (e▸hn) i3
  ·omega,i2,i3⟩
 clear i1 i2 i3
 by_cases hn:inW a n (nth dV L i)
 ·have hne2:=hne hn
  clear hne
  generalize hx:nth dV L i=v at *
  unfold inW at hn
  (refine wx_Ib ?_;repeat' (first|with_reducible refine And.intro ?_ ?_|intro hsp))
  all_goals first|(exfalso;omega)|exact D9 (i+1) [] hne2 (by first|omega|(dsimp only;omega)) rfl (by exact U7)
 ·clear hne
  generalize hx:nth dV L i=v at *
  unfold inW at hn
  (refine wx_Ib ?_;repeat' (first|with_reducible refine And.intro ?_ ?_|intro hsp))
  all_goals first|(exfalso;omega)|exact V7 rfl V9 rfl F8
theorem v_count (hg:L.length≤2000) {f:Nat} (hf:f < 1024):As3 62 [.int .i64 (f:Nat)] ⟨a,n,L,s⟩ (.int .i64 (cntF L f:Nat)) ⟨a,n,L,s⟩:=by
 have h:=v_Count hf hg
 refine As3.mk (G5 E9 b62 rfl ?_) (fun x hx=>by obtain rfl:=List.mem_singleton.1 hx;exact A8) A8
 unfold c62
 unfold bdN
 (refine wx_Ib ?_;repeat' (first|with_reducible refine And.intro ?_ ?_|intro hsp))
 all_goals exact AS1 (q:=⟨a,n,L,s⟩) rfl A8 rfl rfl
theorem d_Load_bad (hr:1≤n∧a+n≤1024) (hs:srt L) (hl:L.length≤2000) (ho:∀ v ∈ L,v.1 < 64∧v.2.1 < 1024∧v.2.2.1 < 1024) (hv:∀ v ∈ L,inW a n v) (hb:∃ j,j < n∧BC0 s L (a+j)):u7 25 [.agg [.int .i64 (a:Nat),.int .i64 (n:Nat),.isl (L.map vwC)]] s.b (.tup [.nilp,.int .i64 6]) s.b:=by
 have hck:=Ay6 hs hl ho
 have hcp:=q_Copy hl
 unfold stA at hcp
 have hst:=AN7 (a:Nat) (n:Nat)
 rw [decide_eq_true (show stat (a:Nat) (n:Nat) from ⟨by omega,by omega,by omega,by omega⟩)] at hst
 refine u7.mk (G5 E9 b25 rfl ?_) F8 F8 (R6 X4) V9
 unfold c25
 (refine wx_Ib ?_;repeat' (first|with_reducible refine And.intro ?_ ?_|intro hsp))
 (refine G8 [0,8] (fun (i:Nat)=>[(9,.int .i64 (i:Nat))]) (fun (i:Nat)=>⟨[(0,.cells s.b),(11,.cells [.ptr 0 0,.int .i64 (a:Nat),.int .i64 (n:Nat),.isl (L.map vwC)])],12⟩) (fun (i:Nat)=>i≤L.length) (fun (i:Nat)=>L.length - i) (0) [] rfl (fun _=>by first|exact Nat.zero_le _|(dsimp only;omega)) ?_ (by ((try (conv=>whnf));exact U7)) ?_)
 ·exact Nat.zero_le _
 intro i hi
 by_cases hil:i < L.length
 ·have hvi:=hv _ (Z6 (d:=dV) hil)
  generalize hx:nth dV L i=v at *
  unfold inW at hvi
  (refine wx_Ib ?_;repeat' (first|with_reducible refine And.intro ?_ ?_|intro hsp))
  all_goals first|(exfalso;omega)|exact D9 (i+1) [] (by (try dsimp only);omega) (by first|omega|(dsimp only;omega)) rfl (by exact U7)
 ·clear hck hcp hst
  (refine wx_Ib ?_;repeat' (first|with_reducible refine And.intro ?_ ?_|intro hsp))
  (refine G8 [0,8] (fun (k:Nat)=>[(11,.int .i64 ((a+k:Nat):Int))]) (fun (k:Nat)=>⟨[(0,.cells s.b),(11,.cells [.ptr 0 0,.int .i64 (a:Nat),.int .i64 (n:Nat),.isl (L.map vwC)])],12⟩) (fun (k:Nat)=>∃ j,k≤j∧j < n∧BC0 s L (a+j)) (fun (k:Nat)=>n - k) (0) [] rfl (fun _=>by first|exact Nat.zero_le _|(dsimp only;omega)) ?_ (by ((try (conv=>whnf));exact U7)) ?_)
  ·obtain ⟨j,j1,j2⟩:=hb
   exact ⟨j,Nat.zero_le _,j1,j2⟩
  intro k hk
  obtain ⟨j,j1,j2,j3⟩:=hk
  have hkl:k < n:=by omega
  have hne:¬ BC0 s L (a+k)→∃ j,k+1≤j∧j < n∧BC0 s L (a+j):=fun hn=>⟨j,by
   by_cases e:k=j
   ·exact absurd (e▸j3) hn
   ·omega,j2,j3⟩
  clear j1 j2 j3
  have hcn:=v_count (s:=s) (a:=a) (n:=n) hl (f:=a+k) (by omega)
  have hkd:=q_kind (s:=s) (a:=((a+k:Nat):Int))
  rw [kind_n (by omega)] at hkd
  by_cases hbk:BC0 s L (a+k)
  ·clear hne
   unfold BC0 at hbk
   generalize cntF L (a+k)=c at *
   generalize s.K (a+k)=kk at *
   generalize s.M (a+k)=mm at *
   cases mm
   all_goals
    (refine wx_Ib ?_;repeat' (first|with_reducible refine And.intro ?_ ?_|intro hsp))
    all_goals first|(exfalso;simp only [Bool.false_eq_true,false_or] at hbk;omega)|exact V7 rfl V9 rfl F8
  ·have hne2:=hne hbk
   clear hne
   have hm:s.M (a+k)=false:=by cases hm:s.M (a+k);rfl;exact absurd (.inl hm) hbk
   rw [hm] at hkd
   have hkk:s.K (a+k)=2∨cntF L (a+k)=0∧s.K (a+k)=1:=by
    by_cases k2:s.K (a+k)=2
    ·exact .inl k2
    ·refine .inr ⟨?_,Classical.byContradiction fun k1=>hbk (.inr ⟨k2,.inr k1⟩)⟩
     by_cases c0:cntF L (a+k)=0
     ·exact c0
     ·exact absurd (.inr ⟨k2,.inl (by omega)⟩) hbk
   clear hbk hm
   generalize cntF L (a+k)=c at *
   generalize s.K (a+k)=kk at *
   (refine wx_Ib ?_;repeat' (first|with_reducible refine And.intro ?_ ?_|intro hsp))
   all_goals first|(exfalso;omega)|exact D9 (k+1) [] hne2 (by first|omega|(dsimp only;omega)) rfl (by exact U7)
structure LocDL (a n:Nat) (L:List Vw) (s:Sy):Prop where
 out:AY7 Tryz.prog G0 25 [.ptr 0 0,.agg [.int .i64 (a:Nat),.int .i64 (n:Nat),.isl (L.map vwC)]] [(0,.cells s.b)] 1 fun x h=>x = .tup [.ptr 1 0,.int .i64 0]∧h=⟨bdN ⟨a,n,L,s⟩ 1 0,2⟩
theorem cx_DL {g nx:Nat} {l:List (Nat × AObj)} {K:AV→Hp→Prop} (hc:LocDL a n L s) (h0:lk l g=some (.cells s.b)) (hlt:g < nx)
  (hk:AI1 [g] l fun l2=>K (.tup [.ptr nx 0,.int .i64 0]) ⟨([(nx,.cells [.ptr g 0,.int .i64 (a:Nat),.int .i64 (n:Nat),.isl (L.map vwC)]),(g,.cells s.b)]:List (Nat × AObj))++l2,nx+1⟩):AG2 Tryz.prog G0 (.fn 25 [] []) [.ptr g 0,.agg [.int .i64 (a:Nat),.int .i64 (n:Nat),.isl (L.map vwC)]] ⟨l,nx⟩ K:=by
 have e0:enter [g] g 0:=rfl
 have k0:back [g] nx 0 g:=rfl
 have k1:back [g] nx 1 nx:=rfl
 refine AF0 (r':=.tup [.ptr nx 0,.int .i64 0]) (l1:=bdN ⟨a,n,L,s⟩ nx g) [g] hc.out F6 rfl (.cons e0 h0 (C9 F8) .nil)
  ?_ (by intro x hx;simp only [List.mem_cons,List.not_mem_nil,or_false] at hx;omega) (Au4 ⟨J4 k1,D5 A8,trivial⟩)
  (.cons k1 ⟨J4 k0,D5 A8,D5 A8,D5 J2,trivial⟩ (.cons k0 (C9 F8) .nil)) hk
 simp only [List.nil_append,List.append_nil]
 exact ⟨J4 e0,D5 X4,trivial⟩
theorem d_Load (hr:1≤n∧a+n≤1024) (hs:srt L) (hl:L.length≤2000) (ho:∀ v ∈ L,v.1 < 64∧v.2.1 < 1024∧v.2.2.1 < 1024) (hv:∀ v ∈ L,inW a n v) (hb:∀ f,a≤f→f < a+n→¬ BC0 s L f):LocDL a n L s:=by
 have hck:=Ay6 hs hl ho
 have hcp:=q_Copy hl
 unfold stA at hcp
 have hst:=AN7 (a:Nat) (n:Nat)
 rw [decide_eq_true (show stat (a:Nat) (n:Nat) from ⟨by omega,by omega,by omega,by omega⟩)] at hst
 refine LocDL.mk (G5 E9 b25 rfl ?_)
 unfold c25
 (refine wx_Ib ?_;repeat' (first|with_reducible refine And.intro ?_ ?_|intro hsp))
 (refine G8 [0,8] (fun (i:Nat)=>[(9,.int .i64 (i:Nat))]) (fun (i:Nat)=>⟨[(0,.cells s.b),(11,.cells [.ptr 0 0,.int .i64 (a:Nat),.int .i64 (n:Nat),.isl (L.map vwC)])],12⟩) (fun (i:Nat)=>i≤L.length) (fun (i:Nat)=>L.length - i) (0) [] rfl (fun _=>by first|exact Nat.zero_le _|(dsimp only;omega)) ?_ (by ((try (conv=>whnf));exact U7)) ?_)
 ·exact Nat.zero_le _
 intro i hi
 by_cases hil:i < L.length
 ·have hvi:=hv _ (Z6 (d:=dV) hil)
  generalize hx:nth dV L i=v at *
  unfold inW at hvi
  (refine wx_Ib ?_;repeat' (first|with_reducible refine And.intro ?_ ?_|intro hsp))
  all_goals first|(exfalso;omega)|exact D9 (i+1) [] (by (try dsimp only);omega) (by first|omega|(dsimp only;omega)) rfl (by exact U7)
 ·clear hck hcp hst
  (refine wx_Ib ?_;repeat' (first|with_reducible refine And.intro ?_ ?_|intro hsp))
  (refine G8 [0,8] (fun (k:Nat)=>[(11,.int .i64 ((a+k:Nat):Int))]) (fun (k:Nat)=>⟨[(0,.cells s.b),(11,.cells [.ptr 0 0,.int .i64 (a:Nat),.int .i64 (n:Nat),.isl (L.map vwC)])],12⟩) (fun (k:Nat)=>k≤n) (fun (k:Nat)=>n - k) (0) [] rfl (fun _=>by first|exact Nat.zero_le _|(dsimp only;omega)) ?_ (by ((try (conv=>whnf));exact U7)) ?_)
  ·exact Nat.zero_le _
  intro k hk
  by_cases hkl:k < n
  ·have hbk:=hb (a+k) (by omega) (by omega)
   have hcn:=v_count (s:=s) (a:=a) (n:=n) hl (f:=a+k) (by omega)
   have hkd:=q_kind (s:=s) (a:=((a+k:Nat):Int))
   rw [kind_n (by omega)] at hkd
   have hm:s.M (a+k)=false:=by cases hm:s.M (a+k);rfl;exact absurd (.inl hm) hbk
   rw [hm] at hkd
   have hkk:s.K (a+k)=2∨cntF L (a+k)=0∧s.K (a+k)=1:=by
    by_cases k2:s.K (a+k)=2
    ·exact .inl k2
    ·refine .inr ⟨?_,Classical.byContradiction fun k1=>hbk (.inr ⟨k2,.inr k1⟩)⟩
     by_cases c0:cntF L (a+k)=0
     ·exact c0
     ·exact absurd (.inr ⟨k2,.inl (by omega)⟩) hbk
   clear hbk hm
   generalize cntF L (a+k)=c at *
   generalize s.K (a+k)=kk at *
   (refine wx_Ib ?_;repeat' (first|with_reducible refine And.intro ?_ ?_|intro hsp))
   all_goals first|(exfalso;omega)|exact D9 (k+1) [] (by (try dsimp only);omega) (by first|omega|(dsimp only;omega)) rfl (by exact U7)
  ·(refine wx_Ib ?_;repeat' (first|with_reducible refine And.intro ?_ ?_|intro hsp))
   all_goals first|(exfalso;omega)|skip
   have hsb:AH8 (rn [(1,11)]) ⟨[(0,.cells s.b),(11,.cells [.ptr 0 0,.int .i64 (a:Nat),.int .i64 (n:Nat),.isl (L.map vwC)])],12⟩ ⟨bdN ⟨a,n,L,s⟩ 1 0,2⟩:=fun j o hj=>by
    simp only [bdN,lk] at hj
    split at hj
    ·rename_i e;subst e;exact ⟨_,rfl⟩
    ·split at hj
     ·rename_i e;subst e;exact ⟨_,rfl⟩
     ·cases hj
   refine y9 [(1,11)] rfl (by decide) (Q5 rfl) (AG9 (C8 (X7 rfl (show 1 < 2 by decide)) (C8 (L8 rfl) H7))) ?_ ⟨rfl,rfl⟩
   exact J5 (show 1 < 2 by decide) rfl (C8 (X7 (i:=0) rfl (show 0 < 2 by decide)) (C8 (L8 rfl) (C8 (L8 rfl) (C8 (N8 hsb J2) H7)))) (F9 hsb (show 0 < 2 by decide) rfl rfl F8 J6)
end
end Go.Proofs.YtphggldkligldaaGreat.Sh
namespace Go.Pol
open Go.Am
theorem set_same {xs:List AV} {i:Nat} {v:AV} (h:xs[i]? = some v):xs.set i v=xs:=by
 refine List.ext_getElem? fun j=>?_
 by_cases e:i=j
 ·subst e;rw [List.getElem?_set_self (List.getElem?_eq_some_iff.1 h).1,h]
 ·rw [List.getElem?_set_ne e]
theorem new_aS {l:List Rl} {C H:Nat→Int} {o:Nat} {z:List AV} (hz:z=sysZ) (h:o=67585):over (z.set 0 (.bool true)) o (stA l C H)=sysB (fun _=>0) (fun _=>false) (fun _ _=>0) (stA l C H):=by
 rw [hz,sysZ_0,AT4 h rfl]
section
variable {K:Nat→Int} {M G:Nat→Bool} {B:Nat→Nat→Int} {P:List AV} {p:Nat} {b:Nat→Int}
theorem byA_get {t:Nat} (h:t < 64):(byA b)[t]? = some (.int .u8 (b t)):=by unfold byA;simp [h]
theorem BD9 (hp:p < 1024):over (sysB K M B P) (1+p * 66+2) (byA b)=sysB K M (AP1 B p b) P:=by
 rw [sysB,AQ2]
 simp only [by_len]
 refine Ae8 (by rw [if_neg (by omega)];rfl) (fun q hq j hj=>?_) fun i hi=>by rw [if_neg (by omega),AP3]
 unfold Af7 AP1
 by_cases h2:q=p
 ·subst h2
  rw [if_pos rfl]
  by_cases h0:j=0
  ·subst h0;rw [if_neg (by omega),if_pos rfl,r9 hq hj];rfl
  ·by_cases h1:j=1
   ·subst h1;rw [if_neg (by omega),if_neg h0,if_pos rfl,r9 hq hj];rfl
   ·rw [if_pos (by omega),if_neg h0,if_neg h1,show 1+q * 66+j - (1+q * 66+2)=j - 2 by omega,byA_get (by omega)];rfl
 ·rw [if_neg (by omega),r9 hq hj,if_neg h2];rfl
theorem setM_g {g:Nat}:As5 (fun p=>G (p / 16)) (g * 16) 16 true=fun p=>An1 G g true (p / 16):=by
 funext p
 unfold As5 An1
 by_cases h:p / 16=g
 ·rw [if_pos (by omega),if_pos h]
 ·rw [if_neg (by omega),if_neg h]
end
def ldPost (o:Option Sy):AV→Hp→Prop:=match o with
 | none=>fun v h=>v = .tup [.nilp,.int .i64 6]∧h=⟨[],0⟩
 | some s=>fun v h=>v = .tup [.ptr 0 0,.int .i64 0]∧h=⟨[(0,.cells s.a)],1⟩
def W64 (n:Int):Prop:=-9223372036854775808≤n∧n≤9223372036854775807
def Vs.wf (x:Vs):Prop:=(∀ r,r ∈ x.R→W64 r.p∧W64 r.n∧W64 r.k)
end Go.Pol
namespace Go.Proofs.YtphggldkligldaaGreat
open Go Go.Am Go.Pol
theorem AF9 {top:Bool} {h:Hp} {x:AV} {o:Option Sy} (ho:o=none) (hx:x = .tup [.nilp,.int .i64 6]):AV7 top Tryz.prog 0 h x (ldPost o):=by
 subst ho;subst hx
 exact y9 [] rfl (Nat.zero_le _) (Q5 rfl) (N8 (fun i o hi=>by cases hi) (G7 (AF7 AD0 A8))) J6 ⟨rfl,rfl⟩
theorem end_ldS {top:Bool} {h:Hp} {x:AV} {o:Option Sy} {i:Nat} {cs:List AV} {s:Sy} (ho:o=some s) (hx:x = .tup [.ptr i 0,.int .i64 0]) (hc:cs=s.a) (h0:lk h.l i=some (.cells cs)):AV7 top Tryz.prog 0 h x (ldPost o):=by
 subst ho
 exact BR9 hx hc h0 I5
open Go.Proofs.YtphggldkligldaaGreat renaming plx_Sd → plx
open Go.Proofs.YtphggldkligldaaGreat renaming ppx_Sd → ppx
theorem wwa {p q:Prop} (hq:q) (h:X0 q→p:=by (intro hQz;((repeat' ((try (conv=>whnf));first|(with_reducible first|refine U1 ?_|refine O8 ?_|refine U4 ?_|refine U6 ?_|refine P8 ?_|refine Y2 ?_|refine S9 ?_|refine Y1 rfl ?_|refine T9 ?_|refine K7 ?_|refine P6 ?_|refine P7 ?_|refine U5 ?_|refine K6 ?_|refine O9 (by decide +kernel) ?_|refine N9 (by decide +kernel) ?_|refine AJ0 ?_|refine AJ1 ?_|refine As8 ?_|refine AC0 ?_|refine AM8 ?_|refine Al7 (by assumption) ?_|refine Al8 (by assumption) ?_|refine AB9 (by omega) ?_|refine AM7 ?_)|((with_reducible refine AM9 ?_ ?_);focus omega)|((with_reducible refine AN0 ?_ ?_);focus omega)|((with_reducible apply M9 hQz)<;>(try intro hsp hQz))|((with_reducible refine As7 ?_ ?_);focus (first|omega|rfl|assumption|decide|(simp only [List.length_map,List.length_cons,List.length_nil];omega)))|(with_reducible first|refine AM4 ?_|refine AB8 ?_|refine AB7 ?_|refine AM6 ?_|refine AM5 ?_|refine AM2 ?_|refine As6 ?_|refine J8 ?_|refine AB5 ?_|refine U3 ?_|refine U2 ?_|refine J9 ?_|refine AM3 (by omega) ?_|refine AB6 (by omega) ?_)|refine I4 AR0 ?_|refine I4 (by with_reducible assumption) ?_|refine AC2 (by with_reducible assumption) ?_|refine E5 (by rw [AR1];omega) (by with_reducible assumption) ?_|(with_reducible first|refine AE1 ?_|refine At7.mk (by kernel_rfl) ?_|refine AF1 rfl ?_|refine AE3 (by decide +kernel) ?_|refine AE2 rfl ?_)|refine M4 (by assumption) rfl (by omega) ?_|(refine M7 E9 b82 rfl ?_;unfold c82)|(refine M7 E9 b69 rfl ?_;unfold c69)|(refine M7 E9 b71 rfl ?_;unfold c71)|(refine M7 E9 b73 rfl ?_;unfold c73)|refine J8 ?_|refine J9 ?_|refine AS6 rfl rfl ?_|refine z8 ?_|refine Y0 rfl ?_|refine AS7 rfl ?_|refine AS4 rfl ?_|refine AE9 rfl ?_|refine V5 ?_|refine Aw9.mk ?_|((with_reducible apply N7 hQz)<;>(try intro hsp hQz))|exact hQz.out))<;>(try (conv=>whnf))))):p:=h ⟨hq⟩
section
variable {K:Nat→Int} {M G:Nat→Bool} {B:Nat→Nat→Int} {l:List Rl} {C H:Nat→Int}
theorem k_allL (P:List AV) (hP:∀ x ∈ P,Plain x) (a n:Nat) (hn:a+n≤1024):u7 70 [.int .i64 (a:Nat),.int .i64 (n:Nat),.fn 71 [] []] (sysB K M B P) (.bool (decide (okC K a n))) (sysB K M B P):=by
 refine u7.mk (G5 E9 b70 rfl ?_) (G6 hP) (G6 hP) BV9 A9
 unfold c70
 (refine wwa ?_;repeat' (first|with_reducible refine And.intro ?_ ?_|intro hsp))
 (refine G8 [0,1,2,3,10] (fun (i:Nat)=>[(11,.int .i64 (i:Nat))]) (fun (i:Nat)=>⟨[(0,.cells (sysB K M B P))],1⟩) (fun (i:Nat)=>i≤n∧∀ j,j < i→K (a+j)=2) (fun (i:Nat)=>n - i) (0) [] rfl (fun _=>by first|exact Nat.zero_le _|(dsimp only;omega)) ?_ (by ((try (conv=>whnf));exact K8)) ?_)
 ·exact ⟨Nat.zero_le _,fun j hj=>by omega⟩
 rintro i ⟨hi,h0⟩
 by_cases hin:i < n
 ·have ht:((a:Int)+(i:Int)).toNat=a+i:=by omega
  have hk:(sysB K M B P)[1+((a:Int)+(i:Int)).toNat * 66+0]? = some (.int .i64 (K (a+i))):=by rw [ht];exact AN4 (by omega)
  by_cases h1:K (a+i)=2
  ·(refine wwa ?_;repeat' (first|with_reducible refine And.intro ?_ ?_|intro hsp))
   all_goals first|(exfalso;exact absurd h1 (by assumption))|skip
   all_goals exact D9 (i+1) [] ⟨by omega,fun j hj=>if e:j=i then by rw [e];exact h1 else h0 j (by omega)⟩ (by first|omega|(dsimp only;omega)) rfl (by exact K8)
  ·rw [decide_eq_false fun h=>h1 (h i hin)]
   (refine wwa ?_;repeat' (first|with_reducible refine And.intro ?_ ?_|intro hsp))
   all_goals exact V7 rfl A9 rfl (G6 hP)
 ·have hok:okC K a n:=fun j hj=>h0 j (by omega)
  rw [decide_eq_true hok]
  (refine wwa ?_;repeat' (first|with_reducible refine And.intro ?_ ?_|intro hsp))
  all_goals exact V7 rfl A9 rfl (G6 hP)
theorem k_eachL (P:List AV) (hP:∀ x ∈ P,Plain x) (a n:Nat) (hn:a+n≤1024):u7 72 [.int .i64 (a:Nat),.int .i64 (n:Nat),.fn 73 [] []] (sysB K M B P) (.tup []) (sysB K (As5 M a n true) B P):=by
 refine u7.mk (G5 E9 b72 rfl ?_) (G6 hP) (G6 hP) BV9 (G7 fun x hx=>by cases hx)
 unfold c72
 have e0:sysB K M B P=sysB K (As5 M a 0 true) B P:=by rw [setM_0]
 rw [e0]
 (refine wwa ?_;repeat' (first|with_reducible refine And.intro ?_ ?_|intro hsp))
 (refine G8 [0,1,2,3,9] (fun (i:Nat)=>[(10,.int .i64 (i:Nat))]) (fun (i:Nat)=>⟨[(0,.cells (sysB K (As5 M a i true) B P))],1⟩) (fun (i:Nat)=>i≤n) (fun (i:Nat)=>n - i) (0) [] rfl (fun _=>by first|exact Nat.zero_le _|(dsimp only;omega)) ?_ (by ((try (conv=>whnf));exact K8)) ?_)
 ·exact Nat.zero_le _
 rintro i hi
 by_cases hin:i < n
 ·have ht:((a:Int)+(i:Int)).toNat=a+i:=by omega
  have hl:1+((a:Int)+(i:Int)).toNat * 66+66≤67600:=by omega
  have hs:(sysB K (As5 M a i true) B P).set (1+((a:Int)+(i:Int)).toNat * 66+1) (.bool true)=sysB K (As5 M a (i+1) true) B P:=by rw [ht,BN0 (by omega),setM_s]
  (refine wwa ?_;repeat' (first|with_reducible refine And.intro ?_ ?_|intro hsp))
  all_goals exact D9 (i+1) [] (by (try dsimp only);omega) (by first|omega|(dsimp only;omega)) rfl (by exact K8)
 ·obtain rfl:i=n:=by omega
  (refine wwa ?_;repeat' (first|with_reducible refine And.intro ?_ ?_|intro hsp))
  all_goals exact V7 rfl (G7 fun x hx=>by cases hx) rfl (G6 hP)
end
end Go.Proofs.YtphggldkligldaaGreat
namespace Go.Pol
open Go.Am
theorem stR_none {R:List Rn} {U:List Int} {D:List Dt} {l:List Rl} {C H:Nat→Int} (h:fo stR R r0=none):ldP ⟨R,U,D,l,C,H⟩=none:=by unfold ldP;dsimp only;rw [h]
theorem stU_none {R:List Rn} {U:List Int} {D:List Dt} {l:List Rl} {C H:Nat→Int} {r:Sr} (hr:fo stR R r0=some r) (h:fo (stU r.K) U u0=none):ldP ⟨R,U,D,l,C,H⟩=none:=by unfold ldP;dsimp only;rw [hr];dsimp only;rw [h]
theorem stD_none {R:List Rn} {U:List Int} {D:List Dt} {l:List Rl} {C H:Nat→Int} {r:Sr} {u:Su} (hr:fo stR R r0=some r) (hu:fo (stU r.K) U u0=some u) (h:fo (stD r.K) D d0=none):ldP ⟨R,U,D,l,C,H⟩=none:=by unfold ldP;dsimp only;rw [hr];dsimp only;rw [hu];dsimp only;rw [h]
theorem y_take1 {y:List AV} {x:AV} (h:y.length=64):(x::y).take 65=x::y:=List.take_of_length_le (by rw [List.length_cons,h];exact Nat.le_refl _)
end Go.Pol
namespace Go.Proofs.YtphggldkligldaaGreat
open Go Go.Am Go.Pol
theorem ppx_Fb {p:Prop} (h:p:=by ((first|with_reducible assumption|(with_reducible first|apply Q8 _|apply I7 Q8|apply I7 AA4|apply AA4|apply D7|apply AJ6|apply G6 D7|apply J3 D7|apply F8|apply I5|apply G6 hPp|fail)|exact ppw|fail);first|done|fail)):p:=h
open Go.Proofs.YtphggldkligldaaGreat renaming plx_Tl → plx
open Go.Proofs.YtphggldkligldaaGreat renaming ppx_Fb → ppx
theorem wwb {p q:Prop} (hq:q) (h:X0 q→p:=by (intro hQz;((repeat' ((try (conv=>whnf));first|(with_reducible first|refine U1 ?_|refine O8 ?_|refine U4 ?_|refine U6 ?_|refine P8 ?_|refine Y2 ?_|refine S9 ?_|refine Y1 rfl ?_|refine T9 ?_|refine K7 ?_|refine P6 ?_|refine P7 ?_|refine U5 ?_|refine K6 ?_|refine O9 (by decide +kernel) ?_|refine N9 (by decide +kernel) ?_|refine AJ0 ?_|refine AJ1 ?_|refine As8 ?_|refine AC0 ?_|refine AM8 ?_|refine Al7 (by assumption) ?_|refine Al8 (by assumption) ?_|refine AB9 (by omega) ?_|refine AM7 ?_)|((with_reducible refine AM9 ?_ ?_);focus omega)|((with_reducible refine AN0 ?_ ?_);focus omega)|((with_reducible apply M9 hQz)<;>(try intro hsp hQz))|((with_reducible refine As7 ?_ ?_);focus (first|omega|rfl|assumption|decide|(simp only [List.length_map,List.length_cons,List.length_nil];omega)))|(with_reducible first|refine AM4 ?_|refine AB8 ?_|refine AB7 ?_|refine AM6 ?_|refine AM5 ?_|refine AM2 ?_|refine As6 ?_|refine J8 ?_|refine AB5 ?_|refine U3 ?_|refine U2 ?_|refine J9 ?_|refine AM3 (by omega) ?_|refine AB6 (by omega) ?_)|refine I4 (by with_reducible assumption) ?_|refine AC2 (by with_reducible assumption) ?_|refine AF8 (by first|(simp only [List.length_cons,List.length_nil,List.length_set];omega)|fail) (by with_reducible assumption) ?_|refine E5 (by rw [AR1];omega) (by with_reducible assumption) ?_|refine el_row BE7 (by first|assumption|omega) (by with_reducible assumption) ?_|refine el_row dt_len (by first|assumption|omega) (by with_reducible assumption) ?_|refine el_row in_len (by first|assumption|omega) (by with_reducible assumption) ?_|refine AX1 (by first|(simp only [List.length_cons,List.length_nil];omega)|fail) (over_y1 (by with_reducible assumption)) ?_|refine AX1 (by first|(rw [AR1];omega)|fail) (by with_reducible assumption) ?_|refine Y4 (by first|(simp only [List.length_cons];omega)|fail) (y_take1 (by with_reducible assumption)) ?_|refine Y4 (by omega) (y_take (by with_reducible assumption)) ?_|refine j5 (Nat.zero_le _) y_drop ?_|refine j5 (by first|(simp only [List.length_cons];omega)|fail) rfl ?_|refine Y4 (by first|(simp only [List.length_cons];omega)|fail) (y_take (by with_reducible assumption)) ?_|refine BR5 (by with_reducible assumption) ?_|(with_reducible first|refine AE1 ?_|refine At7.mk (by kernel_rfl) ?_|refine AF1 rfl ?_|refine AE3 (by decide +kernel) ?_|refine AE2 rfl ?_)|refine M4 (by assumption) rfl (by omega) ?_|refine G9 (by assumption) ?_|refine K5 (by assumption) ?_|refine J8 ?_|refine J9 ?_|refine AS6 rfl rfl ?_|refine z8 ?_|refine Y0 rfl ?_|refine AS7 rfl ?_|refine AS4 rfl ?_|refine AE9 rfl ?_|refine V5 ?_|refine Aw9.mk ?_|((with_reducible apply N7 hQz)<;>(try intro hsp hQz))|exact hQz.out))<;>(try (conv=>whnf))))):p:=h ⟨hq⟩
section
variable {R:List Rn} {U:List Int} {D:List Dt} {l:List Rl} {C H:Nat→Int}
set_option maxRecDepth 20000 in
theorem p_loadC (hc:Ar0 l C H=0) (hwf:∀ r,r ∈ R→W64 r.p∧W64 r.n∧W64 r.k) (hR:R.length≤100000) (hU:U.length≤100000) (hD:D.length≤100000):AY7 Tryz.prog G0 22 [.agg (vsA ⟨R,U,D,l,C,H⟩)] [] 0 (ldPost (ldP ⟨R,U,D,l,C,H⟩)):=by
 have z:=k_chkS l C H
 rw [hc] at z
 have zc:=Az9 (l:=l) (by have:=(Aa6 hc).2.1;omega)
 refine G5 E9 b22 rfl ?_
 unfold c22
 obtain ⟨o,ho⟩:∃ o,o=67585:=⟨_,rfl⟩
 obtain ⟨y,hy⟩:∃ y,y=sysZ:=⟨_,rfl⟩
 rw [← ho,← hy]
 have hl:=BE1 hy
 have hov:=new_aS (l:=l) (C:=C) (H:=H) hy ho
 have hst:(sysB (fun _=>0) (fun _=>false) (fun _ _=>0) (stA l C H)).set (o+0+0) (.isl (l.map rlA))=sysB (fun _=>0) (fun _=>false) (fun _ _=>0) (stA l C H):=set_same (sys_rules ho)
 have hsl:o+0+0 < 67600:=by omega
 unfold stA at hov hst
 simp only [vsA,stA] at z ⊢
 (refine wwb ?_;repeat' (first|with_reducible refine And.intro ?_ ?_|intro hsp))
 all_goals first|(exfalso;omega)|skip
 rw [show Nat.ble (0+1) y.length=true from Nat.ble_eq_true_of_le (by omega)]
 (refine wwb ?_;repeat' (first|with_reducible refine And.intro ?_ ?_|intro hsp))
 refine E5 (by omega) rfl ?_
 (refine wwb ?_;repeat' (first|with_reducible refine And.intro ?_ ?_|intro hsp))
 rw [show Nat.ble (o+15) (y.set 0 (.bool true)).length=true from Nat.ble_eq_true_of_le (by rw [List.length_set];omega)]
 (refine wwb ?_;repeat' (first|with_reducible refine And.intro ?_ ?_|intro hsp))
 have hPl:([.isl (l.map rlA),.int .i64 (C 0),.int .i64 (C 1),.int .i64 (C 2),.int .i64 (C 3),.int .i64 (C 4),.int .i64 (C 5),.int .i64 (C 6),.int .i64 (H 0),.int .i64 (H 1),.int .i64 (H 2),.int .i64 (H 3),.int .i64 (H 4),.int .i64 (H 5),.int .i64 (H 6)]:List AV).length=15:=rfl
 have hyp:∀ x ∈ sysB (fun _=>0) (fun _=>false) (fun _ _=>0) ([.isl (l.map rlA),.int .i64 (C 0),.int .i64 (C 1),.int .i64 (C 2),.int .i64 (C 3),.int .i64 (C 4),.int .i64 (C 5),.int .i64 (C 6),.int .i64 (H 0),.int .i64 (H 1),.int .i64 (H 2),.int .i64 (H 3),.int .i64 (H 4),.int .i64 (H 5),.int .i64 (H 6)]:List AV),Plain x:=G6 D7
 clear hov hst zc z hl hy y
 generalize hP:([.isl (l.map rlA),.int .i64 (C 0),.int .i64 (C 1),.int .i64 (C 2),.int .i64 (C 3),.int .i64 (C 4),.int .i64 (C 5),.int .i64 (C 6),.int .i64 (H 0),.int .i64 (H 1),.int .i64 (H 2),.int .i64 (H 3),.int .i64 (H 4),.int .i64 (H 5),.int .i64 (H 6)]:List AV)=P at *
 have hPp:∀ x ∈ P,Plain x:=by rw [← hP];exact D7
 (refine G8 [1,5,36,37] (fun (q:Nat × Sr)=>[(6,.int .i64 q.2.nx),(7,.int .i64 q.2.la),(38,.int .i64 (q.1:Nat))]) (fun (q:Nat × Sr)=>⟨[(0,.cells (.isl (R.map rnA) :: .isl (U.map inA) :: .isl (D.map dtA)::P)),(1,.cells (sysB q.2.K (fun _=>false) (fun _ _=>0) P))],2⟩) (fun (q:Nat × Sr)=>q.1≤R.length∧foI stR R r0 q.1∧q.2=foA stR R r0 q.1∧0≤q.2.nx∧q.2.nx≤1024) (fun (q:Nat × Sr)=>R.length - q.1) ((0,(⟨0,0,fun _=>0⟩:Sr))) [] rfl (fun _=>by first|exact Nat.zero_le _|(dsimp only;omega)) ?_ (by ((try (conv=>whnf));exact K8)) ?_)
 ·exact ⟨Nat.zero_le _,foI_0,foA_0.symm,Int.le_refl _,by show (0:Int)≤1024;decide⟩
 rintro ⟨i,s⟩ ⟨hi,hfo,hs,hn0,hn1⟩
 dsimp only at hi hfo hs hn0 hn1 ⊢
 by_cases hil:i < R.length
 ·obtain ⟨p,n,k,he⟩:∃ p n k,nth dRn R i=⟨p,n,k⟩:=⟨_,_,_,rfl⟩
  have hx:rnA (nth dRn R i)=[.int .i64 p,.int .i64 n,.int .i64 k]:=by rw [he];rfl
  have hw:=hwf _ (Z6 (d:=dRn) hil)
  rw [he] at hw
  unfold W64 at hw
  dsimp only at hw
  by_cases hb:BK6 s ⟨p,n,k⟩
  ·have hN:=stR_none (U:=U) (D:=D) (l:=l) (C:=C) (H:=H) (BA5 (d:=dRn) hfo hil (by rw [← hs,he];exact if_pos hb))
   unfold BK6 at hb
   dsimp only at hb
   (refine wwb ?_;repeat' (first|with_reducible refine And.intro ?_ ?_|intro hsp))
   all_goals first|exact AF9 hN rfl|(exfalso;omega)
  ·have hst:=foI_s (d:=dRn) hfo hil (by rw [← hs,he];exact if_neg hb)
   unfold BK6 at hb
   dsimp only at hb hst
   obtain ⟨a,rfl⟩:∃ a:Nat,p=(a:Nat):=⟨p.toNat,by omega⟩
   obtain ⟨m,rfl⟩:∃ m:Nat,n=(m:Nat):=⟨n.toNat,by omega⟩
   rw [Int.toNat_natCast,Int.toNat_natCast] at hst
   have ham:a+m≤1024:=by omega
   by_cases hnx:((a:Nat):Int)=s.nx
   ·(refine wwb ?_;repeat' (first|with_reducible refine And.intro ?_ ?_|intro hsp))
    all_goals first|(exfalso;omega)|skip
    (refine G8 [1,5,6,7,9,36,37,38,82] (fun (j:Nat)=>[(83,.int .i64 (j:Nat))]) (fun (j:Nat)=>⟨[(0,.cells (.isl (R.map rnA) :: .isl (U.map inA) :: .isl (D.map dtA)::P)),(1,.cells (sysB (AM0 s.K a j k) (fun _=>false) (fun _ _=>0) P)),(2,.cells [.int .i64 (a:Nat),.int .i64 (m:Nat),.int .i64 k])],3⟩) (fun (j:Nat)=>j≤m) (fun (j:Nat)=>m - j) (0) [] rfl (fun _=>by first|exact Nat.zero_le _|(dsimp only;omega)) ?_ (by ((try (conv=>whnf));(rw [BE4]);exact K8)) ?_)
    ·exact Nat.zero_le _
    rintro j hj
    by_cases hjm:j < m
    ·have ht:((a:Int)+(j:Int)).toNat=a+j:=by omega
     have hset:(sysB (AM0 s.K a j k) (fun _=>false) (fun _ _=>0) P).set (1+((a:Int)+(j:Int)).toNat * 66+0) (.int .i64 k)=sysB (AM0 s.K a (j+1) k) (fun _=>false) (fun _ _=>0) P:=by rw [ht,Nat.add_zero,An4 (by omega),Au1]
     (refine wwb ?_;repeat' (first|with_reducible refine And.intro ?_ ?_|intro hsp))
     all_goals exact D9 (j+1) [] (by (try dsimp only);omega) (by first|omega|(dsimp only;omega)) rfl (by exact K8)
    ·obtain rfl:j=m:=by omega
     (refine wwb ?_;repeat' (first|with_reducible refine And.intro ?_ ?_|intro hsp))
     all_goals exact D9 (i+1,(⟨((a:Nat):Int)+((j:Nat):Int),k,AM0 s.K a j k⟩:Sr)) [] ⟨by dsimp only;omega,hst.1,hst.2.symm,by dsimp only;omega,by dsimp only;omega⟩ (by first|omega|(dsimp only;omega)) rfl (by exact K8)
   ·(refine wwb ?_;repeat' (first|with_reducible refine And.intro ?_ ?_|intro hsp))
    all_goals first|(exfalso;omega)|skip
    (refine G8 [1,5,6,7,9,36,37,38,82] (fun (j:Nat)=>[(83,.int .i64 (j:Nat))]) (fun (j:Nat)=>⟨[(0,.cells (.isl (R.map rnA) :: .isl (U.map inA) :: .isl (D.map dtA)::P)),(1,.cells (sysB (AM0 s.K a j k) (fun _=>false) (fun _ _=>0) P)),(2,.cells [.int .i64 (a:Nat),.int .i64 (m:Nat),.int .i64 k])],3⟩) (fun (j:Nat)=>j≤m) (fun (j:Nat)=>m - j) (0) [] rfl (fun _=>by first|exact Nat.zero_le _|(dsimp only;omega)) ?_ (by ((try (conv=>whnf));(rw [BE4]);exact K8)) ?_)
    ·exact Nat.zero_le _
    rintro j hj
    by_cases hjm:j < m
    ·have ht:((a:Int)+(j:Int)).toNat=a+j:=by omega
     have hset:(sysB (AM0 s.K a j k) (fun _=>false) (fun _ _=>0) P).set (1+((a:Int)+(j:Int)).toNat * 66+0) (.int .i64 k)=sysB (AM0 s.K a (j+1) k) (fun _=>false) (fun _ _=>0) P:=by rw [ht,Nat.add_zero,An4 (by omega),Au1]
     (refine wwb ?_;repeat' (first|with_reducible refine And.intro ?_ ?_|intro hsp))
     all_goals exact D9 (j+1) [] (by (try dsimp only);omega) (by first|omega|(dsimp only;omega)) rfl (by exact K8)
    ·obtain rfl:j=m:=by omega
     (refine wwb ?_;repeat' (first|with_reducible refine And.intro ?_ ?_|intro hsp))
     all_goals exact D9 (i+1,(⟨((a:Nat):Int)+((j:Nat):Int),k,AM0 s.K a j k⟩:Sr)) [] ⟨by dsimp only;omega,hst.1,hst.2.symm,by dsimp only;omega,by dsimp only;omega⟩ (by first|omega|(dsimp only;omega)) rfl (by exact K8)
 have hr:=BR0 hfo (by omega)
 rw [← hs] at hr
 obtain ⟨nx,la,K⟩:=s
 dsimp only at hr hn0 hn1 ⊢
 clear hs hfo hn0 hn1 hi
 (refine wwb ?_;repeat' (first|with_reducible refine And.intro ?_ ?_|intro hsp))
 all_goals first|(exfalso;omega)|skip
 (refine G8 [1,5,107,108] (fun (q:Nat × Su)=>[(109,.int .i64 (q.1:Nat))]) (fun (q:Nat × Su)=>⟨[(0,.cells (.isl (R.map rnA) :: .isl (U.map inA) :: .isl (D.map dtA)::P)),(1,.cells (sysB K (fun p=>q.2.G (p / 16)) (fun _ _=>0) P))],2⟩) (fun (q:Nat × Su)=>q.1≤U.length∧foI (stU K) U u0 q.1∧q.2=foA (stU K) U u0 q.1∧(q.1=0→q.2.lo = -1)∧(q.1 ≠ 0→q.2.lo=nth 0 U (q.1 - 1))) (fun (q:Nat × Su)=>U.length - q.1) ((0,(⟨-1,fun _=>false⟩:Su))) [] rfl (fun _=>by first|exact Nat.zero_le _|(dsimp only;omega)) ?_ (by ((try (conv=>whnf));exact K8)) ?_)
 ·exact ⟨Nat.zero_le _,foI_0,foA_0.symm,fun _=>rfl,fun h=>absurd rfl h⟩
 rintro ⟨i,s⟩ ⟨hi,hfo,hs,hlo0,hlo1⟩
 dsimp only at hi hfo hs hlo0 hlo1 ⊢
 by_cases hil:i < U.length
 ·obtain ⟨u,he⟩:∃ u,nth 0 U i=u:=⟨_,rfl⟩
  have hx:inA (nth 0 U i)=[.int .i64 u]:=by rw [he];rfl
  obtain ⟨lo,hlo⟩:∃ lo,s.lo=lo:=⟨_,rfl⟩
  have z1:=k_first u
  have hN:=fun h=>stU_none (D:=D) (l:=l) (C:=C) (H:=H) hr (BA5 (d:=(0:Int)) hfo hil (by rw [← hs,he];exact if_pos h))
  dsimp only at hN
  rw [hlo] at hN hlo0 hlo1
  by_cases i0:i=0
  ·have hlo1:=hlo0 i0
   by_cases hf:fst u
   ·obtain ⟨g,rfl,hg⟩:=BQ9 hf
    rw [decide_eq_true hf] at z1
    have za:u7 70 [.int .i64 (g * 16:Nat),.int .i64 16,.fn 71 [] []] (sysB K (fun p=>s.G (p / 16)) (fun _ _=>0) P) (.bool (decide (okC K (g * 16) 16))) (sysB K (fun p=>s.G (p / 16)) (fun _ _=>0) P):=k_allL P hPp (g * 16) 16 (by omega)
    have zb:u7 72 [.int .i64 (g * 16:Nat),.int .i64 16,.fn 73 [] []] (sysB K (fun p=>s.G (p / 16)) (fun _ _=>0) P) (.tup []) (sysB K (As5 (fun p=>s.G (p / 16)) (g * 16) 16 true) (fun _ _=>0) P):=k_eachL P hPp (g * 16) 16 (by omega)
    rw [setM_g] at zb
    by_cases hk:okC K (g * 16) 16
    ·rw [decide_eq_true hk] at za
     have hst:=foI_s (d:=(0:Int)) (s':=⟨((g * 16:Nat):Int),An1 s.G g true⟩) hfo hil (by
      rw [← hs,he]
      unfold stU
      rw [if_neg,Int.toNat_natCast,show g * 16 / 16=g by omega]
      rw [Int.toNat_natCast,hlo]
      rintro (h|h|h)
      ·omega
      ·exact h hf
      ·exact h hk)
     (refine wwb ?_;repeat' (first|with_reducible refine And.intro ?_ ?_|intro hsp))
     all_goals first|(exfalso;omega)|skip
     all_goals exact D9 (i+1,(⟨((g * 16:Nat):Int),An1 s.G g true⟩:Su)) [] ⟨by dsimp only;omega,hst.1,hst.2.symm,fun h=>(by dsimp only at h;omega),fun _=>by dsimp only;rw [Nat.add_sub_cancel,he]⟩ (by first|omega|(dsimp only;omega)) rfl (by exact K8)
    ·rw [decide_eq_false hk] at za
     have hN:=hN (.inr (.inr (by rw [Int.toNat_natCast];exact hk)))
     (refine wwb ?_;repeat' (first|with_reducible refine And.intro ?_ ?_|intro hsp))
     all_goals first|exact AF9 hN rfl|(exfalso;omega)
   ·rw [decide_eq_false hf] at z1
    have hN:=hN (.inr (.inl hf))
    (refine wwb ?_;repeat' (first|with_reducible refine And.intro ?_ ?_|intro hsp))
    all_goals first|exact AF9 hN rfl|(exfalso;omega)
  ·have hx1:inA (nth 0 U (((i:Nat):Int) - 1).toNat)=[.int .i64 lo]:=by rw [show (((i:Nat):Int) - 1).toNat=i - 1 by omega,← hlo1 i0];rfl
   have hil1:(((i:Nat):Int) - 1).toNat < U.length:=by omega
   by_cases hle:u≤lo
   ·have hN:=hN (.inl hle)
    (refine wwb ?_;repeat' (first|with_reducible refine And.intro ?_ ?_|intro hsp))
    all_goals first|exact AF9 hN rfl|(exfalso;omega)
   by_cases hf:fst u
   ·obtain ⟨g,rfl,hg⟩:=BQ9 hf
    rw [decide_eq_true hf] at z1
    have za:u7 70 [.int .i64 (g * 16:Nat),.int .i64 16,.fn 71 [] []] (sysB K (fun p=>s.G (p / 16)) (fun _ _=>0) P) (.bool (decide (okC K (g * 16) 16))) (sysB K (fun p=>s.G (p / 16)) (fun _ _=>0) P):=k_allL P hPp (g * 16) 16 (by omega)
    have zb:u7 72 [.int .i64 (g * 16:Nat),.int .i64 16,.fn 73 [] []] (sysB K (fun p=>s.G (p / 16)) (fun _ _=>0) P) (.tup []) (sysB K (As5 (fun p=>s.G (p / 16)) (g * 16) 16 true) (fun _ _=>0) P):=k_eachL P hPp (g * 16) 16 (by omega)
    rw [setM_g] at zb
    by_cases hk:okC K (g * 16) 16
    ·rw [decide_eq_true hk] at za
     have hst:=foI_s (d:=(0:Int)) (s':=⟨((g * 16:Nat):Int),An1 s.G g true⟩) hfo hil (by
      rw [← hs,he]
      unfold stU
      rw [if_neg,Int.toNat_natCast,show g * 16 / 16=g by omega]
      rw [Int.toNat_natCast,hlo]
      rintro (h|h|h)
      ·omega
      ·exact h hf
      ·exact h hk)
     (refine wwb ?_;repeat' (first|with_reducible refine And.intro ?_ ?_|intro hsp))
     all_goals first|(exfalso;omega)|skip
     all_goals exact D9 (i+1,(⟨((g * 16:Nat):Int),An1 s.G g true⟩:Su)) [] ⟨by dsimp only;omega,hst.1,hst.2.symm,fun h=>(by dsimp only at h;omega),fun _=>by dsimp only;rw [Nat.add_sub_cancel,he]⟩ (by first|omega|(dsimp only;omega)) rfl (by exact K8)
    ·rw [decide_eq_false hk] at za
     have hN:=hN (.inr (.inr (by rw [Int.toNat_natCast];exact hk)))
     (refine wwb ?_;repeat' (first|with_reducible refine And.intro ?_ ?_|intro hsp))
     all_goals first|exact AF9 hN rfl|(exfalso;omega)
   ·rw [decide_eq_false hf] at z1
    have hN:=hN (.inr (.inl hf))
    (refine wwb ?_;repeat' (first|with_reducible refine And.intro ?_ ?_|intro hsp))
    all_goals first|exact AF9 hN rfl|(exfalso;omega)
 have hu:=BR0 hfo (by omega)
 rw [← hs] at hu
 obtain ⟨lo,G⟩:=s
 dsimp only at hu ⊢
 clear hs hfo hlo0 hlo1 hi
 (refine wwb ?_;repeat' (first|with_reducible refine And.intro ?_ ?_|intro hsp))
 all_goals first|(exfalso;omega)|skip
 (refine G8 [1,5,142,143] (fun (q:Nat × Sd)=>[(144,.int .i64 (q.1:Nat))]) (fun (q:Nat × Sd)=>⟨[(0,.cells (.isl (R.map rnA) :: .isl (U.map inA) :: .isl (D.map dtA)::P)),(1,.cells (sysB K (fun p=>G (p / 16)) q.2.B P))],2⟩) (fun (q:Nat × Sd)=>q.1≤D.length∧foI (stD K) D d0 q.1∧q.2=foA (stD K) D d0 q.1∧(q.1=0→q.2.lo = -1)∧(q.1 ≠ 0→q.2.lo=(nth dDt D (q.1 - 1)).p)) (fun (q:Nat × Sd)=>D.length - q.1) ((0,(⟨-1,fun _ _=>0⟩:Sd))) [] rfl (fun _=>by first|exact Nat.zero_le _|(dsimp only;omega)) ?_ (by ((try (conv=>whnf));exact K8)) ?_)
 ·exact ⟨Nat.zero_le _,foI_0,foA_0.symm,fun _=>rfl,fun h=>absurd rfl h⟩
 rintro ⟨i,s⟩ ⟨hi,hfo,hs,hlo0,hlo1⟩
 dsimp only at hi hfo hs hlo0 hlo1 ⊢
 by_cases hil:i < D.length
 ·obtain ⟨p,b,he⟩:∃ p b,nth dDt D i=⟨p,b⟩:=⟨_,_,rfl⟩
  have hx:dtA (nth dDt D i) = .int .i64 p::byA b:=by rw [he];rfl
  obtain ⟨lo,hlo⟩:∃ lo,s.lo=lo:=⟨_,rfl⟩
  have hN:=fun h=>stD_none (l:=l) (C:=C) (H:=H) hr hu (BA5 (d:=dDt) hfo hil (by rw [← hs,he];exact if_pos h))
  dsimp only at hN
  rw [hlo] at hN hlo0 hlo1
  have hyl:=by_len b
  have hyz:=AL6 b
  have hset:=fun (a:Nat) (ha:a < 1024)=>BD9 (K:=K) (M:=fun p=>G (p / 16)) (B:=s.B) (P:=P) (b:=b) ha
  generalize byA b=y at *
  by_cases i0:i=0
  ·have hlo1:=hlo0 i0
   by_cases hp:p < 0∨1024≤p
   ·have hN:=hN (.inr (by omega))
    (refine wwb ?_;repeat' (first|with_reducible refine And.intro ?_ ?_|intro hsp))
    all_goals first|exact AF9 hN rfl|(exfalso;omega)
   ·obtain ⟨a,rfl⟩:∃ a:Nat,p=(a:Nat):=⟨p.toNat,by omega⟩
    rw [Int.toNat_natCast] at hN
    have ha:a < 1024:=by omega
    have hset:=hset a ha
    have hkk:(sysB K (fun p=>G (p / 16)) s.B P)[1+a * 66+0]? = some (.int .i64 (K a)):=AN4 ha
    by_cases hK:K a=2
    ·rw [hK] at hkk
     by_cases hz:x9 b
     ·rw [decide_eq_true hz] at hyz
      have hN:=hN (.inr (.inr (.inr (.inr hz))))
      (refine wwb ?_;repeat' (first|with_reducible refine And.intro ?_ ?_|intro hsp))
      all_goals first|exact AF9 hN rfl|(exfalso;omega)
     ·rw [decide_eq_false hz] at hyz
      have hst:=foI_s (d:=dDt) (s':=⟨((a:Nat):Int),AP1 s.B a b⟩) hfo hil (by
       rw [← hs,he]
       unfold stD
       dsimp only
       rw [if_neg,Int.toNat_natCast]
       rw [Int.toNat_natCast,hlo]
       rintro (h|h|h|h|h)
       ·omega
       ·omega
       ·omega
       ·exact h hK
       ·exact hz h)
      (refine wwb ?_;repeat' (first|with_reducible refine And.intro ?_ ?_|intro hsp))
      all_goals first|(exfalso;omega)|skip
      all_goals exact D9 (i+1,(⟨((a:Nat):Int),AP1 s.B a b⟩:Sd)) [] ⟨by dsimp only;omega,hst.1,hst.2.symm,fun h=>(by dsimp only at h;omega),fun _=>by dsimp only;rw [Nat.add_sub_cancel,he]⟩ (by first|omega|(dsimp only;omega)) rfl (by exact K8)
    ·have hN:=hN (.inr (.inr (.inr (.inl hK))))
     (refine wwb ?_;repeat' (first|with_reducible refine And.intro ?_ ?_|intro hsp))
     all_goals first|exact AF9 hN rfl|(exfalso;omega)
  ·have hx1:∃ y1:List AV,dtA (nth dDt D (((i:Nat):Int) - 1).toNat) = .int .i64 lo::y1:=⟨_,by rw [show (((i:Nat):Int) - 1).toNat=i - 1 by omega,hlo1 i0];rfl⟩
   obtain ⟨y1,hx1⟩:=hx1
   have hil1:(((i:Nat):Int) - 1).toNat < D.length:=by omega
   by_cases hle:p≤lo
   ·have hN:=hN (.inl hle)
    (refine wwb ?_;repeat' (first|with_reducible refine And.intro ?_ ?_|intro hsp))
    all_goals first|exact AF9 hN rfl|(exfalso;omega)
   by_cases hp:p < 0∨1024≤p
   ·have hN:=hN (.inr (by omega))
    (refine wwb ?_;repeat' (first|with_reducible refine And.intro ?_ ?_|intro hsp))
    all_goals first|exact AF9 hN rfl|(exfalso;omega)
   ·obtain ⟨a,rfl⟩:∃ a:Nat,p=(a:Nat):=⟨p.toNat,by omega⟩
    rw [Int.toNat_natCast] at hN
    have ha:a < 1024:=by omega
    have hset:=hset a ha
    have hkk:(sysB K (fun p=>G (p / 16)) s.B P)[1+a * 66+0]? = some (.int .i64 (K a)):=AN4 ha
    by_cases hK:K a=2
    ·rw [hK] at hkk
     by_cases hz:x9 b
     ·rw [decide_eq_true hz] at hyz
      have hN:=hN (.inr (.inr (.inr (.inr hz))))
      (refine wwb ?_;repeat' (first|with_reducible refine And.intro ?_ ?_|intro hsp))
      all_goals first|exact AF9 hN rfl|(exfalso;omega)
     ·rw [decide_eq_false hz] at hyz
      have hst:=foI_s (d:=dDt) (s':=⟨((a:Nat):Int),AP1 s.B a b⟩) hfo hil (by
       rw [← hs,he]
       unfold stD
       dsimp only
       rw [if_neg,Int.toNat_natCast]
       rw [Int.toNat_natCast,hlo]
       rintro (h|h|h|h|h)
       ·omega
       ·omega
       ·omega
       ·exact h hK
       ·exact hz h)
      (refine wwb ?_;repeat' (first|with_reducible refine And.intro ?_ ?_|intro hsp))
      all_goals first|(exfalso;omega)|skip
      all_goals exact D9 (i+1,(⟨((a:Nat):Int),AP1 s.B a b⟩:Sd)) [] ⟨by dsimp only;omega,hst.1,hst.2.symm,fun h=>(by dsimp only at h;omega),fun _=>by dsimp only;rw [Nat.add_sub_cancel,he]⟩ (by first|omega|(dsimp only;omega)) rfl (by exact K8)
    ·have hN:=hN (.inr (.inr (.inr (.inl hK))))
     (refine wwb ?_;repeat' (first|with_reducible refine And.intro ?_ ?_|intro hsp))
     all_goals first|exact AF9 hN rfl|(exfalso;omega)
 have hd:=BR0 hfo (by omega)
 rw [← hs] at hd
 obtain ⟨lo,B⟩:=s
 dsimp only at hd ⊢
 have hS:ldP ⟨R,U,D,l,C,H⟩=some ⟨K,G,B,l,C,H⟩:=ldP_of.2 ⟨_,_,_,hr,hu,hd,rfl⟩
 (refine wwb ?_;repeat' (first|with_reducible refine And.intro ?_ ?_|intro hsp))
 all_goals first|(exfalso;omega)|skip
 all_goals exact end_ldS hS rfl (by unfold Sy.a;rw [← hP];rfl) rfl
end
end Go.Proofs.YtphggldkligldaaGreat
namespace Go.Pol
open Go.Am
theorem runs_wf {K:Nat→Int} (hk:∀ p,0≤K p∧K p≤3):∀ n,∀ r,r ∈ I8 K n→(0≤r.p∧r.p≤(n:Nat))∧(0≤r.n∧r.n≤(n:Nat))∧(0≤r.k∧r.k≤3)
 | 0,r,h=>by cases h
 | n+1,r,h=>by
  have ih:=runs_wf hk n
  have hkn:=hk n
  have e:I8 K (n+1)=if K n=0 then I8 K n else if 0 < n∧K (n - 1)=K n then bump (I8 K n) else I8 K n++[⟨(n:Nat),1,K n⟩]:=rfl
  rw [e] at h
  split at h
  ·have:=ih r h;omega
  ·rename_i h0
   split at h
   ·rename_i h1
    obtain ⟨L,m,e,m1,m2⟩:=AH2 (K:=K) h1.1 (by rw [h1.2];exact h0)
    rw [e] at h ih
    rw [AI9] at h
    rcases List.mem_append.1 h with h|h
    ·have:=ih r (List.mem_append_left _ h);omega
    ·obtain rfl:=List.mem_singleton.1 h
     have:=ih _ (List.mem_append_right _ (List.mem_singleton.2 rfl))
     dsimp only at this ⊢
     omega
   ·rcases List.mem_append.1 h with h|h
    ·have:=ih r h;omega
    ·obtain rfl:=List.mem_singleton.1 h
     dsimp only;omega
theorem GoodS.pg {s:Sy} (h:GoodS s):Pg s:=⟨h.kind,h.huge,h.zero,h.cK,h.cB⟩
section
variable {s:Sy}
def Sy.free (s:Sy):Sy:=⟨s.K,s.G,s.B,[],fun _=>0,fun _=>0⟩
end
end Go.Pol
namespace Go.Proofs.YtphggldkligldaaGreat
open Go Go.Am Go.Pol
theorem p_load {s:Sy} (hg:GoodS s):LocN 22 [.agg (vsA s.save)] 0 s.a:=by
 have h:=p_loadC (R:=I8 s.K 1024) (U:=R5 s.G 1024) (D:=AH5 s.B 1024) hg.hv (fun r hr=>by have:=runs_wf hg.kind _ r hr;unfold W64;omega) (Nat.le_trans Y5 (by decide)) (Nat.le_trans Z0 (by decide)) (Nat.le_trans Z5 (by decide))
 have e:ldP ⟨I8 s.K 1024,R5 s.G 1024,AH5 s.B 1024,s.l,s.C,s.H⟩=some s:=ld_save hg.pg
 rw [e] at h
 exact LocN.mk h I5 (R6 J2)
end Go.Proofs.YtphggldkligldaaGreat
namespace Go.Pol
open Go.Am
def Bk.alD (q:Bk) (x:Ax):Bk:=if x.w.toNat % 14 < 2 then (q.map x.a x.b).2 else if x.w.toNat % 14=3 then (q.take x.a x.b).2.2 else if 6≤x.w.toNat % 14∧x.w.toNat % 14 < 10 then (q.write x.a x.t x.v).2 else q
def Bk.AW5 (b:Bk) (X:List Ax):Nat→Bk
 | 0=>b
 | k+1=>(b.AW5 X k).alD (nth dA X k)
theorem BE5 {b:Bk} {X:List Ax} (g:R9 b):∀ k,R9 (b.AW5 X k)
 | 0=>g
 | k+1=>by
  have h:=BE5 (X:=X) g k
  show R9 ((b.AW5 X k).alD (nth dA X k))
  unfold Bk.alD
  split
  ·exact good_map h ..
  split
  ·exact Ap7 h ..
  split
  ·exact AR8 h ..
  ·exact h
theorem runD_s {b:Bk} {X:List Ax} {k:Nat}:b.AW5 X (k+1)=(b.AW5 X k).alD (nth dA X k):=rfl
end Go.Pol
namespace Go.Proofs.YtphggldkligldaaGreat.Sh
open Go Go.Am Go.Pol
theorem plx_Ic {p:Prop} (h:p:=by ((first|exact plw|(with_reducible first|apply L9|apply J7|apply J2|apply Y8|apply q9|apply AA1|apply Q7|apply AG5|apply Q9|apply U9|apply X4|apply Ao0|apply AW7 _|apply Ak2 _|apply Ac4|apply AP8|fail)|fail);first|done|fail)):p:=h
theorem ppx_Ic {p:Prop} (h:p:=by ((first|with_reducible assumption|(with_reducible first|apply F7|apply H6|apply R8|apply R3 _ _|apply V8|apply AH3|apply I5|apply F8|apply AK7|apply AO0|apply I7 AB0|apply Ay0|apply Ak0 _|apply AY0 _|apply Am6 _|apply An6|fail)|exact ppw|fail);first|done|fail)):p:=h
open Go.Proofs.YtphggldkligldaaGreat.Sh renaming plx_Ic → plx
open Go.Proofs.YtphggldkligldaaGreat.Sh renaming ppx_Ic → ppx
theorem wx_Ic {p q:Prop} (hq:q) (h:X0 q→p:=by (intro hQz;((repeat' ((try (conv=>whnf));first|refine sxA ?_|refine o7 (d:=dA) acE_len (by first|assumption|omega) (by with_reducible assumption) ?_|refine AC2 (by with_reducible assumption) ?_|refine sxF ?_|refine G9 (by assumption) ?_|refine Aq8 (by assumption) ?_|refine cx_DN h2 rfl (by decide) ?_|refine cx_W hd rfl rfl (by decide) rfl ?_|refine M4 sv rfl (by decide) ?_|refine Aq8 pl ?_|refine M4 f1 rfl (by decide) ?_|refine M4 f2 rfl (by decide) ?_|refine M4 h2 rfl (by decide) ?_|refine sxH ?_|((with_reducible first|apply M9 hQz|apply N7 hQz)<;>(try intro hsp hQz))|exact hQz.out))<;>(try (conv=>whnf))))):p:=h ⟨hq⟩
theorem wx_Icn {p q:Prop} (hq:q) (h:X0 q→p:=by (intro hQz;((repeat' ((try (conv=>whnf));first|refine sxA ?_|refine sxN ?_|refine G9 (by assumption) ?_|refine M4 sv rfl (by decide) ?_|refine Aq8 pl ?_|refine cx_BN f1 rfl (by decide) ?_|refine cx_DL f3 rfl (by decide) ?_|refine AO8 f2 rfl rfl rfl rfl rfl rfl rfl rfl (by decide) rfl ?_|refine dcx_b0 f2 rfl rfl rfl rfl rfl rfl rfl rfl rfl rfl ?_|refine K5 (by assumption) ?_|refine sxH ?_|((with_reducible first|apply M9 hQz|apply N7 hQz)<;>(try intro hsp hQz))|exact hQz.out))<;>(try (conv=>whnf))))):p:=h ⟨hq⟩
inductive LdR (s:Sy) (a n:Int) (R:List Rw):Prop
 | no (e:Int):e ≠ 0→u7 24 [.agg [.int .i64 a,.int .i64 n,.isl (R.map rwC)]] s.a (.tup [.nilp,.int .i64 e]) s.a→u7 25 [.agg [.int .i64 a,.int .i64 n,.isl (R.map rwC)]] s.b (.tup [.nilp,.int .i64 e]) s.b→LdR s a n R
 | ok (a' n':Nat) (L:List Vw) (t:TS):a=(a':Nat)→n=(n':Nat)→R=L.map rwV→L.length≤2000→BT1 24 [.agg [.int .i64 (a':Nat),.int .i64 (n':Nat),.isl (L.map vwC)]] s ⟨a',n',L,s⟩ t→AP2 27 0 [] ⟨a',n',L,s⟩ t (.agg [.int .i64 (a':Nat),.int .i64 (n':Nat),.isl (L.map vwC)]) ⟨a',n',L,s⟩ t→LocDL a' n' L s→LdR s a n R
theorem BQ3 {s:Sy} (hg:GoodS s) (a n:Int) (R:List Rw):LdR s a n R:=by
 by_cases hst:stat a n
 ·obtain ⟨i,e,hc⟩:=chk_ex R
  by_cases he:e=0
  ·subst he
   obtain ⟨L,rfl,hs,hl,ho⟩:=chk_views hc
   obtain ⟨s1,s2,s3,s4⟩:=hst
   obtain ⟨a,rfl⟩:=Int.eq_ofNat_of_zero_le s1
   obtain ⟨n,rfl⟩:=Int.eq_ofNat_of_zero_le (show 0≤n by omega)
   have hr:1≤n∧a+n≤1024:=by omega
   by_cases hv:∃ v ∈ L,¬ inW a n v
   ·have h1:=b_Load_out hg hr hs hl ho hv
    have h2:=d_Load_out (s:=s) hr hs hl ho hv
    rw [← An7] at h1 h2
    exact .no 6 (by decide) h1 h2
   ·have hv:∀ v ∈ L,inW a n v:=fun v h=>Classical.byContradiction fun h2=>hv ⟨v,h,h2⟩
    by_cases hb:∃ j,j < n∧BC0 s L (a+j)
    ·have h1:=b_Load_bad hg hr hs hl ho hv hb
     have h2:=d_Load_bad (s:=s) hr hs hl ho hv hb
     rw [← An7] at h1 h2
     exact .no 6 (by decide) h1 h2
    ·have hb:∀ f,a≤f→f < a+n→¬ BC0 s L f:=fun f f1 f2 h=>hb ⟨f - a,by omega,by rw [show a+(f - a)=f by omega];exact h⟩
     have gq:=good_ld hg hr hs hl ho hv hb
     obtain ⟨t,ht,h1⟩:=b_Load gq
     exact .ok a n L t rfl rfl rfl hl h1 (b_Save ht) (d_Load hr hs hl ho hv hb)
  ·exact .no 6 (by decide) (b_Load_tab hg hst hc he) (d_Load_tab hst hc he)
 ·exact .no 7 (by decide) (b_Load_far hg hst) (d_Load_far hst)
set_option maxRecDepth 20000 in
theorem k_loads {p:Py} (hl:p.X.length≤maxLen) (hw:∀ x ∈ p.X,0≤x.w) {a n:Int} {R:List Rw} (hR:R.length≤maxLen):F4 4 [.agg (pyE p),.agg [.int .i64 a,.int .i64 n,.isl (R.map rwC)]] (.bool true):=by
 have hR:R.length≤9223372036854775807:=hR
 obtain ⟨fb,hfar,hok⟩:=k_far p hl
 have hsh:=k_shown
 refine F4.mk (I6 E9 b4 F6 ⟨AW7 p,AP8,trivial⟩ A9 rfl ?_)
 unfold c4
 by_cases hno:fb=true∨2100 < R.length
 ·unfold pyE at hfar ⊢
  cases fb
  all_goals
   (refine wx_Ic ?_;repeat' (first|with_reducible refine And.intro ?_ ?_|intro hsp))
   all_goals first|exact Q6 rfl|(exfalso;simp at hno;omega)
 ·have hfb:fb=false:=by cases fb;rfl;exact absurd (.inl rfl) hno
  subst hfb
  have hR2:R.length≤2100:=by omega
  have hok:=hok rfl
  clear hno hR
  by_cases hc:(AJ9 p.l).2=0
  ·have hnq:=q_new (l:=p.l) (i:=(AJ9 p.l).1) (Prod.ext rfl hc)
   have hg:=BA3 hc
   by_cases hst:stat p.a p.n
   ·have hg2:GoodS ((Sy.new p.l).chg p.a p.n 0 1 0).2:=Ad1 hg (by decide)
    by_cases he:((Sy.new p.l).chg p.a p.n 0 1 0).1=0
    ·have h2:=d_New hg hst he
     obtain ⟨g1,-,-,-,-⟩:=py_good hc hst he
     have hR0:p.b.AW5 p.X 0=p.b:=rfl
     have hG:=BE5 (X:=p.X) g1
     have hRs:=fun k=>runD_s (b:=p.b) (X:=p.X) (k:=k)
     have h40:=hok.1
     rw [show (⟨p.a.toNat,p.n.toNat,[],((Sy.new p.l).chg p.a p.n 0 1 0).2⟩:Bk)=p.b from rfl] at h2
     unfold pyE at hfar ⊢
     clear hg2
     generalize p.b.AW5 p.X=B at *
     generalize p.b=b0 at *
     generalize Sy.new p.l=s0 at *
     (refine wx_Ic ?_;repeat' (first|with_reducible refine And.intro ?_ ?_|intro hsp))
     (refine G8 [2,3,5,6,7] (fun (k:Nat)=>[(8,.int .i64 (k:Nat))]) (fun (k:Nat)=>⟨[(0,.cells [.int .i64 p.a,.int .i64 p.n,.isl (p.l.map rlA),.isl (p.X.map acE)]),(1,.cells [.int .i64 a,.int .i64 n,.isl (R.map rwC)])]++bdN (B k) 3 2,4⟩) (fun (k:Nat)=>k≤p.X.length) (fun (k:Nat)=>p.X.length - k) (0) [] rfl (fun _=>by first|exact Nat.zero_le _|(dsimp only;omega)) ?_ (by ((try (conv=>whnf));(rw [hR0]);exact U7)) ?_)
     ·exact Nat.zero_le _
     intro k hk
     unfold bdN
     have hGk:=hG k
     by_cases hkl:k < p.X.length
     ·have hw0:=hw _ (Z6 (d:=dA) hkl)
      have hm:(nth dA p.X k).w.tmod 14=(((nth dA p.X k).w.toNat % 14:Nat):Int):=by rw [Int.tmod_eq_emod_of_nonneg hw0];omega
      have hBk:=hRs k
      clear hw hG hRs hw0 h2 hR0
      unfold Bk.alD at hBk
      generalize hx:nth dA p.X k=x at *
      obtain ⟨w,hwe⟩:∃ w,w=x.w.toNat % 14:=⟨_,rfl⟩
      rw [← hwe] at hm hBk
      have hwl:w < 14:=by rw [hwe];exact Nat.mod_lt _ (by decide)
      clear hwe
      by_cases c1:w < 2
      ·rw [if_pos c1] at hBk
       have hd:=d_Map hGk x.a x.b
       rw [← hBk] at hd
       generalize q_e:((B k).map x.a x.b).1=e at *
       (refine wx_Ic ?_;repeat' (first|with_reducible refine And.intro ?_ ?_|intro hsp))
       all_goals first|(exfalso;omega)|exact D9 (k+1) [] (by (try dsimp only);omega) (by first|omega|(dsimp only;omega)) rfl (by exact U7)
      rw [if_neg c1] at hBk
      by_cases c3:w=3
      ·rw [if_pos c3] at hBk
       have hd:=d_Take hGk x.a x.b
       rw [← hBk] at hd
       generalize ((B k).take x.a x.b).1=e at *
       generalize ((B k).take x.a x.b).2.1=e' at *
       (refine wx_Ic ?_;repeat' (first|with_reducible refine And.intro ?_ ?_|intro hsp))
       all_goals first|(exfalso;omega)|exact D9 (k+1) [] (by (try dsimp only);omega) (by first|omega|(dsimp only;omega)) rfl (by exact U7)
      rw [if_neg c3] at hBk
      by_cases c6:6≤w∧w < 10
      ·rw [if_pos c6] at hBk
       have hd:=d_Write hGk x.a x.t x.v
       rw [← hBk] at hd
       generalize ((B k).write x.a x.t x.v).1=e at *
       (refine wx_Ic ?_;repeat' (first|with_reducible refine And.intro ?_ ?_|intro hsp))
       all_goals first|(exfalso;omega)|exact D9 (k+1) [] (by (try dsimp only);omega) (by first|omega|(dsimp only;omega)) rfl (by exact U7)
      rw [if_neg c6] at hBk
      (refine wx_Ic ?_;repeat' (first|with_reducible refine And.intro ?_ ?_|intro hsp))
      all_goals first|(exfalso;omega)|exact D9 (k+1) [] (by (try dsimp only);omega) (by first|omega|(dsimp only;omega)) rfl (by ((try dsimp only);rw [hBk]);exact U7)
     ·clear hw hG hRs h2 hR0
      have sv:=q_save hGk.good
      have pl:=p_load hGk.good
      rcases BQ3 hGk.good a n R with ⟨e2,hne,f1,f2⟩ | ⟨a',n',L,t,rfl,rfl,rfl,hL,f1,f2,f3⟩
      ·(refine wx_Ic ?_;repeat' (first|with_reducible refine And.intro ?_ ?_|intro hsp))
       all_goals first|exact Q6 rfl|(exfalso;omega)
      ·have sm:=k_same (a:=(a':Nat)) (n:=(n':Nat)) (L:=L) (by omega)
       simp only [An7]
       (refine wx_Icn ?_;repeat' (first|with_reducible refine And.intro ?_ ?_|intro hsp))
       all_goals first|exact Q6 rfl|(exfalso;omega)
    ·have h2:=d_New_no hg hst he
     unfold pyE at hfar ⊢
     clear hg hc hok
     generalize Sy.new p.l=s0 at *
     generalize s0.chg p.a p.n 0 1 0=r at *
     (refine wx_Ic ?_;repeat' (first|with_reducible refine And.intro ?_ ?_|intro hsp))
     (refine G8 [2,3,5,6] (fun (k:Nat)=>[(8,.int .i64 (k:Nat))]) (fun (k:Nat)=>⟨[(0,.cells [.int .i64 p.a,.int .i64 p.n,.isl (p.l.map rlA),.isl (p.X.map acE)]),(1,.cells [.int .i64 a,.int .i64 n,.isl (R.map rwC)])]++[(2,.cells r.2.b)],3⟩) (fun (k:Nat)=>k=0) (fun (k:Nat)=>0 - k) (0) [] rfl (fun _=>by first|exact Nat.zero_le _|(dsimp only;omega)) ?_ (by ((try (conv=>whnf));exact U7)) ?_)
     ·rfl
     rintro k rfl
     have sv:=q_save hg2
     have pl:=p_load hg2
     rcases BQ3 hg2 a n R with ⟨e2,hne,f1,f2⟩ | ⟨a',n',L,t,rfl,rfl,rfl,hL,f1,f2,f3⟩
     ·(refine wx_Ic ?_;repeat' (first|with_reducible refine And.intro ?_ ?_|intro hsp))
      all_goals first|exact Q6 rfl|(exfalso;omega)
     ·have sm:=k_same (a:=(a':Nat)) (n:=(n':Nat)) (L:=L) (by omega)
      simp only [An7]
      (refine wx_Icn ?_;repeat' (first|with_reducible refine And.intro ?_ ?_|intro hsp))
      all_goals first|exact Q6 rfl|(exfalso;omega)
   ·have h2:=d_New_far (s:=Sy.new p.l) hst
    unfold pyE at hfar ⊢
    clear hc hok
    generalize Sy.new p.l=s0 at *
    (refine wx_Ic ?_;repeat' (first|with_reducible refine And.intro ?_ ?_|intro hsp))
    (refine G8 [2,3,5,6] (fun (k:Nat)=>[(8,.int .i64 (k:Nat))]) (fun (k:Nat)=>⟨[(0,.cells [.int .i64 p.a,.int .i64 p.n,.isl (p.l.map rlA),.isl (p.X.map acE)]),(1,.cells [.int .i64 a,.int .i64 n,.isl (R.map rwC)])]++[(2,.cells s0.b)],3⟩) (fun (k:Nat)=>k=0) (fun (k:Nat)=>0 - k) (0) [] rfl (fun _=>by first|exact Nat.zero_le _|(dsimp only;omega)) ?_ (by ((try (conv=>whnf));exact U7)) ?_)
    ·rfl
    rintro k rfl
    have sv:=q_save hg
    have pl:=p_load hg
    rcases BQ3 hg a n R with ⟨e2,hne,f1,f2⟩ | ⟨a',n',L,t,rfl,rfl,rfl,hL,f1,f2,f3⟩
    ·(refine wx_Ic ?_;repeat' (first|with_reducible refine And.intro ?_ ?_|intro hsp))
     all_goals first|exact Q6 rfl|(exfalso;omega)
    ·have sm:=k_same (a:=(a':Nat)) (n:=(n':Nat)) (L:=L) (by omega)
     simp only [An7]
     (refine wx_Icn ?_;repeat' (first|with_reducible refine And.intro ?_ ?_|intro hsp))
     all_goals first|exact Q6 rfl|(exfalso;omega)
  ·have hnq:=q_new_no (l:=p.l) (i:=(AJ9 p.l).1) (e:=(AJ9 p.l).2) rfl hc
   unfold pyE at hfar ⊢
   generalize (AJ9 p.l).2=e at *
   (refine wx_Ic ?_;repeat' (first|with_reducible refine And.intro ?_ ?_|intro hsp))
   all_goals first|exact Q6 rfl|(exfalso;omega)
end Go.Proofs.YtphggldkligldaaGreat.Sh
