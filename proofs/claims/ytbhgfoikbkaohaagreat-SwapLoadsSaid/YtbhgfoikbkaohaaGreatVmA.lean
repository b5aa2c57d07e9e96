/-
 Refusal plans: plain;Check and Start,of the program and of the document.
 Refusal states: plain;Clone,Start of both;what a rule refuses: next,refused of both.
 Refusals: which calls a plan refuses,and how many;of both.
 Refusals: refused,marks and hits of the program.
 Refusal states: CheckState and Next of both.
-/
import Derived.Test.YtbhgfoikbkaohaaGreatCode
set_option linter.unusedSimpArgs false
set_option linter.unusedVariables false
set_option maxHeartbeats 1600000
namespace Go.Pol
open Go.Am
structure Rl where
 k:Int
 f:Int
 e:Int
 t:Int
def rlA (r:Rl):List AV:=[.int .i64 r.k,.int .i64 r.f,.int .i64 r.e,.int .i64 r.t]
theorem BR0 (r:Rl):(rlA r).length=4:=rfl
theorem M9 (r:Rl):∀ x ∈ rlA r,Plain x:=fun x hx=>by
 simp only [rlA,List.mem_cons,List.not_mem_nil,or_false] at hx
 rcases hx with rfl|rfl|rfl|rfl<;>exact A8
theorem AF4 {a b c d:Int}:Plain (.agg [.int .i64 a,.int .i64 b,.int .i64 c,.int .i64 d]):=G6 fun x hx=>by
 simp only [List.mem_cons,List.not_mem_nil,or_false] at hx
 rcases hx with rfl|rfl|rfl|rfl<;>exact A8
theorem N7 {l:List Rl}:Plain (.isl (l.map rlA)):=AQ6 fun e he=>by
 obtain ⟨b,_,rfl⟩:=List.mem_map.1 he
 exact M9 b
theorem L9 {l:List Rl}:Plain (.agg [.isl (l.map rlA)]):=G6 fun x hx=>by
 obtain rfl:=List.mem_singleton.1 hx
 exact N7
theorem l8 {a b:Int}:Plain (.tup [.int .i64 a,.int .i64 b]):=F6 fun x hx=>by
 simp only [List.mem_cons,List.not_mem_nil,or_false] at hx
 rcases hx with rfl|rfl<;>exact A8
def badK (r:Rl):Prop:=r.k < 0∨7≤r.k
def badR (r:Rl):Prop:=r.f < 1∨10000 < r.f∨r.e < 0∨12 < r.e∨r.t < 0∨1000 < r.t
def badF (r:Rl):Prop:=r.e=0∧r.t ≠ 1
instance (r:Rl):Decidable (badK r):=by unfold badK;infer_instance
instance (r:Rl):Decidable (badR r):=by unfold badR;infer_instance
instance (r:Rl):Decidable (badF r):=by unfold badF;infer_instance
def AD1 (r:Rl):Int:=if badK r then 2 else if badR r then 7 else if badF r then 6 else 0
def dR:Rl:=⟨0,0,0,0⟩
def Aa7:List Rl→Nat→Int × Int
 | [], _ => (0, 0)
 | r::l,i=>if AD1 r=0 then Aa7 l (i+1) else ((i:Nat),AD1 r)
def AK4 (l:List Rl):Int × Int:=if 50 < l.length then (0,3) else Aa7 l 0
theorem Ao1:∀ {l:List Rl} {i j:Nat},j < l.length→(∀ k,k < j→AD1 (nth dR l k)=0)→AD1 (nth dR l j) ≠ 0→Aa7 l i=(((i+j:Nat):Int),AD1 (nth dR l j))
 | r::l,i,0,_,_,h=>by
  exact (if_neg (show ¬ AD1 r=0 from h)).trans rfl
 | r::l,i,j+1,hj,h0,h=>by
  have e:=Ao1 (l:=l) (i:=i+1) (j:=j) (by simpa using hj) (fun k hk=>h0 (k+1) (by omega)) h
  rw [show i+1+j=i+(j+1) by omega] at e
  exact (if_pos (show AD1 r=0 from h0 0 (by omega))).trans e
theorem Ae7:∀ {l:List Rl} {i:Nat},(∀ k,k < l.length→AD1 (nth dR l k)=0)→Aa7 l i=(0,0)
 | [],_,_=>rfl
 | r::l,i,h=>by
  exact (if_pos (show AD1 r=0 from h 0 (by simp))).trans (Ae7 (l:=l) fun k hk=>h (k+1) (by simpa using hk))
end Go.Pol
namespace Go.Proofs.YtbhgfoikbkaohaaGreat
open Go Go.Am Go.Pol
theorem G9:Tryz.prog.follows .mixedOrders=true:=by kernel_rfl
def G0:Gl:=fun _=>none
theorem J3:Ab4 G0:=fun n cs h=>by cases h
structure J8 (f:Nat) (avs:List AV) (r:AV):Prop where
 out:Af4 Tryz.prog G0 f avs r
theorem M0 {g:Nat} {avs:List AV} {r:AV} {h:Hp} {K:AV→Hp→Prop} (hp:J8 g avs r) (hk:K r h):AN4 Tryz.prog G0 (.fn g [] []) avs h K:=cx_pure (by simpa using hp.out) hk
theorem R5 {g:Nat} {avs:List AV} {r:AV} {h:Hp} {K:AV→Up→List Nat→Prop} (hp:J8 g avs r) (hk:K r [] []):AP2 Tryz.prog G0 g avs h K:=dcx_pure hp.out hk
theorem V5 {g:Nat} {avs:List AV} {r:AV} {K:AV→Prop} (hp:J8 g avs r) (hk:K r):QCallX Tryz.prog G0 g avs K:=⟨r,hp.out,hk⟩
theorem plx_Ra {p:Prop} (h:p:=by ((first|exact plw|(with_reducible first|apply AF4|apply N7|apply L9|apply l8|fail)|fail);first|done|fail)):p:=h
theorem ppx_Ra {p:Prop} (h:p:=by ((first|with_reducible assumption|(with_reducible first|apply M9 _|apply V4 M9|fail)|exact ppw|fail);first|done|fail)):p:=h
open Go.Proofs.YtbhgfoikbkaohaaGreat renaming plx_Ra → plx
open Go.Proofs.YtbhgfoikbkaohaaGreat renaming ppx_Ra → ppx
theorem wx {p q:Prop} (hq:q) (h:Y3 q→p:=by (intro hQz;((repeat' ((try (conv=>whnf));first|(with_reducible first|refine P6 ?_|refine K4 ?_|refine P9 ?_|refine Q5 ?_|refine K9 ?_|refine U9 ?_|refine O9 ?_|refine U8 rfl ?_|refine P5 ?_|refine I5 ?_|refine K7 ?_|refine K8 ?_|refine Q0 ?_|refine I4 ?_|refine K5 (by decide +kernel) ?_|refine J6 (by decide +kernel) ?_|refine AG2 ?_|refine AG3 ?_|refine Aj5 ?_|refine r9 ?_|refine AI4 ?_|refine Ag9 (by assumption) ?_|refine Ah0 (by assumption) ?_|refine p9 (by omega) ?_|refine AI2 ?_)|((with_reducible refine AI5 ?_ ?_);focus omega)|((with_reducible refine AI6 ?_ ?_);focus omega)|((with_reducible apply U1 hQz)<;>(try intro hsp hQz))|((with_reducible refine Aj3 ?_ ?_);focus (first|omega|rfl|assumption|decide|(simp only [List.length_map,List.length_cons,List.length_nil];omega)))|(with_reducible first|refine AH9 ?_|refine p8 ?_|refine o9 ?_|refine AI1 ?_|refine AI0 ?_|refine AH7 ?_|refine Aj0 ?_|refine I6 ?_|refine l9 ?_|refine P8 ?_|refine P7 ?_|refine I7 ?_|refine AH8 (by omega) ?_|refine o8 (by omega) ?_)|refine Z7 BR0 (by first|assumption|omega) (by with_reducible assumption) ?_|refine C8 (by with_reducible assumption) ?_|refine AE7 (by with_reducible assumption) ?_|refine Ax4 ?_|refine Ax5 ?_|refine eqn_sl ?_|((with_reducible apply eqn_q hQz)<;>(try intro hQz))|((with_reducible apply eqn_n hQz)<;>(try intro hQz))|(with_reducible first|refine AC6 ?_|refine Aq9.mk (by kernel_rfl) ?_|refine AD6 rfl ?_|refine AC8 (by decide +kernel) ?_|refine AC7 rfl ?_)|refine M0 (by assumption) ?_|refine R5 (by assumption) ?_|refine V5 (by assumption) ?_|refine I6 ?_|refine I7 ?_|refine AP6 rfl rfl ?_|refine l6 ?_|refine V8 rfl ?_|refine AP7 rfl ?_|refine AP3 rfl ?_|refine AD5 rfl ?_|refine S9 ?_|refine Au3.mk ?_|((with_reducible apply U2 hQz)<;>(try intro hsp hQz))|exact hQz.out))<;>(try (conv=>whnf))))):p:=h ⟨hq⟩
section
variable {l:List Rl}
theorem k_rule (r:Rl):J8 103 [.agg [.int .i64 r.k,.int .i64 r.f,.int .i64 r.e,.int .i64 r.t]] (.int .i64 (AD1 r)):=by
 refine J8.mk (R9 G9 b103 J3 ⟨AF4,trivial⟩ A8 rfl ?_)
 unfold c103
 have h:AD1 r=if badK r then 2 else if badR r then 7 else if badF r then 6 else 0:=rfl
 unfold badK badR badF at h
 (refine wx ?_;repeat' (first|with_reducible refine And.intro ?_ ?_|intro hsp))
 all_goals exact J4 (congrArg (AV.int .i64) (by rw [h];(repeat' split)<;>first|rfl|omega)) A8
theorem k_in (n a b:Int):J8 110 [.int .i64 n,.int .i64 a,.int .i64 b] (.bool (decide (a≤n∧n≤b))):=by
 refine J8.mk (R9 G9 b110 J3 ⟨A8,A8,A8,trivial⟩ D5 rfl ?_)
 unfold c110
 (refine wx ?_;repeat' (first|with_reducible refine And.intro ?_ ?_|intro hsp))
 all_goals exact J4 (congrArg AV.bool (by apply Bool.eq_iff_iff.2;constructor<;>intro hh<;>simp at hh ⊢<;>omega)) D5
theorem wr {p q:Prop} (hq:q) (h:Y3 q→p:=by (intro hQz;((repeat' ((try (conv=>whnf));first|(with_reducible first|refine P6 ?_|refine K4 ?_|refine P9 ?_|refine Q5 ?_|refine K9 ?_|refine U9 ?_|refine O9 ?_|refine U8 rfl ?_|refine P5 ?_|refine I5 ?_|refine K7 ?_|refine K8 ?_|refine Q0 ?_|refine I4 ?_|refine K5 (by decide +kernel) ?_|refine J6 (by decide +kernel) ?_|refine AG2 ?_|refine AG3 ?_|refine Aj5 ?_|refine r9 ?_|refine AI4 ?_|refine Ag9 (by assumption) ?_|refine Ah0 (by assumption) ?_|refine p9 (by omega) ?_|refine AI2 ?_)|((with_reducible refine AI5 ?_ ?_);focus omega)|((with_reducible refine AI6 ?_ ?_);focus omega)|((with_reducible apply U1 hQz)<;>(try intro hsp hQz))|((with_reducible refine Aj3 ?_ ?_);focus (first|omega|rfl|assumption|decide|(simp only [List.length_map,List.length_cons,List.length_nil];omega)))|(with_reducible first|refine AH9 ?_|refine p8 ?_|refine o9 ?_|refine AI1 ?_|refine AI0 ?_|refine AH7 ?_|refine Aj0 ?_|refine I6 ?_|refine l9 ?_|refine P8 ?_|refine P7 ?_|refine I7 ?_|refine AH8 (by omega) ?_|refine o8 (by omega) ?_)|refine Z7 BR0 (by first|assumption|omega) (by with_reducible assumption) ?_|refine C8 (by with_reducible assumption) ?_|refine AE7 (by with_reducible assumption) ?_|refine Ax4 ?_|refine Ax5 ?_|refine eqn_sl ?_|((with_reducible apply eqn_q hQz)<;>(try intro hQz))|((with_reducible apply eqn_n hQz)<;>(try intro hQz))|(with_reducible first|refine AC6 ?_|refine Aq9.mk (by kernel_rfl) ?_|refine AD6 rfl ?_|refine AC8 (by decide +kernel) ?_|refine AC7 rfl ?_)|refine M0 (by assumption) ?_|refine R5 (by assumption) ?_|refine V5 (by assumption) ?_|refine M0 (k_in _ _ _) ?_|refine V5 (k_in _ _ _) ?_|refine R5 (k_in _ _ _) ?_|refine I6 ?_|refine I7 ?_|refine AP6 rfl rfl ?_|refine l6 ?_|refine V8 rfl ?_|refine AP7 rfl ?_|refine AP3 rfl ?_|refine AD5 rfl ?_|refine S9 ?_|refine Au3.mk ?_|((with_reducible apply U2 hQz)<;>(try intro hsp hQz))|exact hQz.out))<;>(try (conv=>whnf))))):p:=h ⟨hq⟩
theorem r_rule (r:Rl):J8 98 [.agg [.int .i64 r.k,.int .i64 r.f,.int .i64 r.e,.int .i64 r.t]] (.int .i64 (AD1 r)):=by
 refine J8.mk (R9 G9 b98 J3 ⟨AF4,trivial⟩ A8 rfl ?_)
 unfold c98
 have h:AD1 r=if badK r then 2 else if badR r then 7 else if badF r then 6 else 0:=rfl
 unfold badK badR badF at h
 (refine wr ?_;repeat' (first|with_reducible refine And.intro ?_ ?_|intro hsp))
 all_goals exact J4 (congrArg (AV.int .i64) (by rw [h];(repeat' split)<;>first|rfl|omega)) A8
theorem k_chk (l:List Rl):J8 77 [.agg [.isl (l.map rlA)]] (.tup [.int .i64 (AK4 l).1,.int .i64 (AK4 l).2]):=by
 refine J8.mk (R9 G9 b77 J3 ⟨L9,trivial⟩ l8 rfl ?_)
 unfold c77
 by_cases hl:50 < l.length
 ·have h:AK4 l=(0,3):=if_pos hl
  rw [h]
  (refine wx ?_;repeat' (first|with_reducible refine And.intro ?_ ?_|intro hsp))
  exact J4 rfl l8
 have h:AK4 l=Aa7 l 0:=if_neg hl
 rw [h]
 (refine wx ?_;repeat' (first|with_reducible refine And.intro ?_ ?_|intro hsp))
 (refine F9 [12,13] (fun (i:Nat)=>[(14,.int .i64 (i:Nat))]) (fun (i:Nat)=>⟨[],0⟩) (fun (i:Nat)=>i≤l.length∧∀ k,k < i→AD1 (nth dR l k)=0) (fun (i:Nat)=>l.length - i) (0) [] rfl (fun _=>by first|exact Nat.zero_le _|(dsimp only;omega)) ?_ (by ((try (conv=>whnf));exact O4)) ?_)
 ·exact ⟨Nat.zero_le _,fun k hk=>by omega⟩
 rintro i ⟨hi,h0⟩
 by_cases hil:i < l.length
 ·obtain ⟨r,he⟩:∃ r,nth dR l i=r:=⟨_,rfl⟩
  have z:=k_rule r
  by_cases h1:AD1 r=0
  ·rw [h1] at z
   (refine wx ?_;repeat' (first|with_reducible refine And.intro ?_ ?_|intro hsp))
   all_goals exact D6 (i+1) [] ⟨by omega,fun k hk=>if e:k=i then by rw [e,he];exact h1 else h0 k (by omega)⟩ (by first|omega|(dsimp only;omega)) rfl (by exact O4)
  ·have h2:=Ao1 (i:=0) hil h0 (by rw [he];exact h1)
   rw [h2,he]
   (refine wx ?_;repeat' (first|with_reducible refine And.intro ?_ ?_|intro hsp))
   all_goals exact J4 (by rw [Nat.zero_add]) l8
 ·have h2:=Ae7 (i:=0) (l:=l) fun k hk=>h0 k (by omega)
  rw [h2]
  (refine wx ?_;repeat' (first|with_reducible refine And.intro ?_ ?_|intro hsp))
  all_goals exact J4 rfl l8
theorem r_chk (l:List Rl):J8 71 [.agg [.isl (l.map rlA)]] (.tup [.int .i64 (AK4 l).1,.int .i64 (AK4 l).2]):=by
 refine J8.mk (R9 G9 b71 J3 ⟨L9,trivial⟩ l8 rfl ?_)
 unfold c71
 by_cases hl:50 < l.length
 ·have h:AK4 l=(0,3):=if_pos hl
  rw [h]
  (refine wx ?_;repeat' (first|with_reducible refine And.intro ?_ ?_|intro hsp))
  exact J4 rfl l8
 have h:AK4 l=Aa7 l 0:=if_neg hl
 rw [h]
 (refine wx ?_;repeat' (first|with_reducible refine And.intro ?_ ?_|intro hsp))
 (refine F9 [1] (fun (i:Nat)=>[(4,.int .i64 (i:Nat))]) (fun (i:Nat)=>⟨[(0,.cells [.isl (l.map rlA)])],1⟩) (fun (i:Nat)=>i≤l.length∧∀ k,k < i→AD1 (nth dR l k)=0) (fun (i:Nat)=>l.length - i) (0) [] rfl (fun _=>by first|exact Nat.zero_le _|(dsimp only;omega)) ?_ (by ((try (conv=>whnf));exact O4)) ?_)
 ·exact ⟨Nat.zero_le _,fun k hk=>by omega⟩
 rintro i ⟨hi,h0⟩
 by_cases hil:i < l.length
 ·obtain ⟨r,he⟩:∃ r,nth dR l i=r:=⟨_,rfl⟩
  have z:=r_rule r
  by_cases h1:AD1 r=0
  ·rw [h1] at z
   (refine wx ?_;repeat' (first|with_reducible refine And.intro ?_ ?_|intro hsp))
   all_goals exact D6 (i+1) [] ⟨by omega,fun k hk=>if e:k=i then by rw [e,he];exact h1 else h0 k (by omega)⟩ (by first|omega|(dsimp only;omega)) rfl (by exact O4)
  ·have h2:=Ao1 (i:=0) hil h0 (by rw [he];exact h1)
   rw [h2,he]
   (refine wx ?_;repeat' (first|with_reducible refine And.intro ?_ ?_|intro hsp))
   all_goals exact J4 (by rw [Nat.zero_add]) l8
 ·have h2:=Ae7 (i:=0) (l:=l) fun k hk=>h0 k (by omega)
  rw [h2]
  (refine wx ?_;repeat' (first|with_reducible refine And.intro ?_ ?_|intro hsp))
  all_goals exact J4 rfl l8
end
end Go.Proofs.YtbhgfoikbkaohaaGreat
namespace Go.Pol
open Go.Am
def F4 (f:Nat→Int) (i:Nat) (v:Int):Nat→Int:=fun j=>if j=i then v else f j
def z7:List AV:=[.int .i64 0,.int .i64 0,.int .i64 0,.int .i64 0,.int .i64 0,.int .i64 0,.int .i64 0]
def arr7 (C:Nat→Int):List AV:=[.int .i64 (C 0),.int .i64 (C 1),.int .i64 (C 2),.int .i64 (C 3),.int .i64 (C 4),.int .i64 (C 5),.int .i64 (C 6)]
def stA (l:List Rl) (C H:Nat→Int):List AV:=[.isl (l.map rlA),.int .i64 (C 0),.int .i64 (C 1),.int .i64 (C 2),.int .i64 (C 3),.int .i64 (C 4),.int .i64 (C 5),.int .i64 (C 6),.int .i64 (H 0),.int .i64 (H 1),.int .i64 (H 2),.int .i64 (H 3),.int .i64 (H 4),.int .i64 (H 5),.int .i64 (H 6)]
section
variable {l:List Rl} {C H:Nat→Int} {k:Nat} {v:Int}
theorem lt7 {p:Nat→Prop} (h0:p 0) (h1:p 1) (h2:p 2) (h3:p 3) (h4:p 4) (h5:p 5) (h6:p 6):k < 7→p k:=fun h=>by
 match k,h with
 | 0,_=>exact h0
 | 1,_=>exact h1
 | 2,_=>exact h2
 | 3,_=>exact h3
 | 4,_=>exact h4
 | 5,_=>exact h5
 | 6,_=>exact h6
theorem arr7_get:k < 7→(arr7 C)[k]? = some (.int .i64 (C k)):=lt7 (p:=fun k=>(arr7 C)[k]? = some (.int .i64 (C k))) rfl rfl rfl rfl rfl rfl rfl
theorem AQ1:k < 7→(stA l C H)[1+k]? = some (.int .i64 (C k)):=lt7 (p:=fun k=>(stA l C H)[1+k]? = some (.int .i64 (C k))) rfl rfl rfl rfl rfl rfl rfl
theorem Au9:k < 7→(stA l C H)[8+k]? = some (.int .i64 (H k)):=lt7 (p:=fun k=>(stA l C H)[8+k]? = some (.int .i64 (H k))) rfl rfl rfl rfl rfl rfl rfl
theorem st_setC:k < 7→(stA l C H).set (1+k) (.int .i64 v)=stA l (F4 C k v) H:=lt7 (p:=fun k=>(stA l C H).set (1+k) (.int .i64 v)=stA l (F4 C k v) H) rfl rfl rfl rfl rfl rfl rfl
theorem st_setH:k < 7→(stA l C H).set (8+k) (.int .i64 v)=stA l C (F4 H k v):=lt7 (p:=fun k=>(stA l C H).set (8+k) (.int .i64 v)=stA l C (F4 H k v)) rfl rfl rfl rfl rfl rfl rfl
end
theorem A9 {l:List Rl} {C H:Nat→Int}:∀ x ∈ stA l C H,Plain x:=fun x hx=>by
 simp only [stA,List.mem_cons,List.not_mem_nil,or_false] at hx
 rcases hx with rfl|hx
 ·exact N7
 ·repeat' (rcases hx with rfl|hx<;>first|exact A8|skip)
theorem X5 {l:List Rl} {C H:Nat→Int}:Plain (.agg (stA l C H)):=G6 A9
theorem AC1 {l:List Rl} {C H:Nat→Int} {r:Int}:Plain (.tup [.agg (stA l C H),.int .i64 r]):=F6 fun x hx=>by
 simp only [List.mem_cons,List.not_mem_nil,or_false] at hx
 rcases hx with rfl|rfl
 ·exact X5
 ·exact A8
theorem AJ7:Plain (.agg [.nils,.int .i64 0,.int .i64 0,.int .i64 0,.int .i64 0,.int .i64 0,.int .i64 0,.int .i64 0,.int .i64 0,.int .i64 0,.int .i64 0,.int .i64 0,.int .i64 0,.int .i64 0,.int .i64 0]):=G6 fun x hx=>by
 simp only [List.mem_cons,List.not_mem_nil,or_false] at hx
 rcases hx with rfl|hx
 ·exact V3
 ·repeat' (rcases hx with rfl|hx<;>first|exact A8|skip)
theorem AE2 {r:Int}:Plain (.tup [.agg [.nils,.int .i64 0,.int .i64 0,.int .i64 0,.int .i64 0,.int .i64 0,.int .i64 0,.int .i64 0,.int .i64 0,.int .i64 0,.int .i64 0,.int .i64 0,.int .i64 0,.int .i64 0,.int .i64 0],.int .i64 r]):=F6 fun x hx=>by
 simp only [List.mem_cons,List.not_mem_nil,or_false] at hx
 rcases hx with rfl|rfl
 ·exact AJ7
 ·exact A8
theorem all4 {l:List Rl}:((l.map rlA).all fun e=>e.length == 4)=true:=by simp [rlA]
theorem src_rl {l:List (Nat × AObj)} {R:List Rl}:Av0 (lk l) 4 (.isl (R.map rlA))=some (flat rlA R,R.length,[]):=by
 simp only [Av0]
 rw [if_pos all4,List.length_map]
 rfl
theorem BH7 {l:List (Nat × AObj)} {nx d bytes n:Nat} {cs:List AV} {L:List Rl} (hL:L.length=0) (hd:lk l d=some (.cells cs)) (hc:n * 4≤cs.length):BI3 (lk l) nx 4 bytes (.sl d 0 n n 4) (.isl (L.map rlA))=some (.sl d 0 n n 4,[(d,some (.cells cs))],[d]):=by
 obtain rfl:=List.eq_nil_of_length_eq_zero hL
 simp only [BI3,Av0,Y2,hd]
 simp [over,hc]
def BA1 (r:Rl) (k n:Int):Bool:=decide (r.k=k∧r.f≤n∧((r.e=0∧n=r.f)∨(r.e ≠ 0∧r.f+(n - r.f) / r.e * r.e=n∧(r.t=0∨(n - r.f) / r.e < r.t))))
def AW4 (l:List Rl) (k n:Int):Bool:=l.any fun r=>BA1 r k n
end Go.Pol
namespace Go.Proofs.YtbhgfoikbkaohaaGreat
open Go Go.Am Go.Pol
theorem wx_Rb {p q:Prop} (hq:q) (h:Y3 q→p:=by (intro hQz;((repeat' ((try (conv=>whnf));first|refine sxA ?_|refine Ax4 ?_|refine Ax5 ?_|refine eqn_sl ?_|((with_reducible apply eqn_q hQz)<;>(try intro hQz))|((with_reducible apply eqn_n hQz)<;>(try intro hQz))|refine sxF ?_|refine AS5 (BH7 h0 rfl (Nat.zero_le _)) ?_|refine AS5 (BP1 src_rl rfl rfl (by first|(simp;done)|fail) (by omega)) ?_|refine sxH ?_|((with_reducible first|apply U1 hQz|apply U2 hQz)<;>(try intro hsp hQz))|exact hQz.out))<;>(try (conv=>whnf))))):p:=h ⟨hq⟩
theorem BI8 {σ:Nat→Nat} {h h':Hp} {d n cp:Nat} {cs:List AV} {L:List Rl} (hn:L.length=n) (hi:lk h.l d=some (.cells cs)) (hc:cs=flat rlA L) (hi':∀ j o,lk h'.l j=some o→σ j ≠ d) (hs:AL9 σ h h'):WkV Tryz.prog σ h h' (.sl d 0 n cp 4) (.isl (L.map rlA)):=by
 subst hc;rw [← hn]
 refine wk_frz hi hi' hs (by simp) (fun e he=>?_) ?_ fun e he x hx=>?_
 ·obtain ⟨s,_,rfl⟩:=List.mem_map.1 he;rfl
 ·rw [List.drop_zero,List.take_of_length_le (by rw [Aa6 BR0];exact Nat.le_refl _)];rfl
 ·obtain ⟨s,_,rfl⟩:=List.mem_map.1 he;exact M9 s x hx
theorem wk_nilR {σ:Nat→Nat} {h h':Hp} {L:List Rl} (h0:L.length=0):WkV Tryz.prog σ h h' .nils (.isl (L.map rlA)):=by
 obtain rfl:=List.eq_nil_of_length_eq_zero h0;exact wk_nils
theorem flat_z {L:List Rl} (h:L.length=0):[]=flat rlA L:=by rw [List.eq_nil_of_length_eq_zero h];rfl
section
variable {l:List Rl}
theorem Aw3 (hl:l.length≤100000):J8 34 [.isl (l.map rlA)] (.isl (l.map rlA)):=by
 refine J8.mk (R9 G9 b34 J3 ⟨N7,trivial⟩ N7 rfl ?_)
 unfold c34
 by_cases h0:l.length=0
 ·(refine wx_Rb ?_;repeat' (first|with_reducible refine And.intro ?_ ?_|intro hsp))
  ·exact BG0 (wk_nilR h0)
  ·exact BG0 (BI8 h0 rfl (flat_z h0) (fun j o hj=>by cases hj) Ah7)
 ·obtain ⟨r,l,rfl⟩:=List.exists_cons_of_ne_nil (show l ≠ [] from fun e=>h0 (by rw [e];rfl))
  (refine wx_Rb ?_;repeat' (first|with_reducible refine And.intro ?_ ?_|intro hsp))
  exact BG0 (BI8 (by omega) rfl rfl (fun j o hj=>by cases hj) Ah7)
theorem k_start {i:Int} (hc:AK4 l=(i,0)) (hl:l.length≤100000):J8 49 [.agg [.isl (l.map rlA)]] (.tup [.agg (stA l (fun _=>0) fun _=>0),.int .i64 0]):=by
 have z:=k_chk l
 rw [hc] at z
 have z2:=Aw3 hl
 refine J8.mk (R9 G9 b49 J3 ⟨L9,trivial⟩ AC1 rfl ?_)
 unfold c49
 (refine wx ?_;repeat' (first|with_reducible refine And.intro ?_ ?_|intro hsp))
 all_goals exact J4 rfl AC1
theorem r_start_no {i e:Int} (hc:AK4 l=(i,e)) (he:e ≠ 0):J8 26 [.agg [.isl (l.map rlA)]] (.tup [.agg [.nils,.int .i64 0,.int .i64 0,.int .i64 0,.int .i64 0,.int .i64 0,.int .i64 0,.int .i64 0,.int .i64 0,.int .i64 0,.int .i64 0,.int .i64 0,.int .i64 0,.int .i64 0,.int .i64 0],.int .i64 e]):=by
 have z:=r_chk l
 rw [hc] at z
 refine J8.mk (R9 G9 b26 J3 ⟨L9,trivial⟩ AE2 rfl ?_)
 unfold c26
 (refine wx ?_;repeat' (first|with_reducible refine And.intro ?_ ?_|intro hsp))
 all_goals exact J4 rfl AE2
theorem r_start {i:Int} (hc:AK4 l=(i,0)):J8 26 [.agg [.isl (l.map rlA)]] (.tup [.agg (stA l (fun _=>0) fun _=>0),.int .i64 0]):=by
 have z:=r_chk l
 rw [hc] at z
 refine J8.mk (R9 G9 b26 J3 ⟨L9,trivial⟩ AC1 rfl ?_)
 unfold c26
 (refine wx ?_;repeat' (first|with_reducible refine And.intro ?_ ?_|intro hsp))
 all_goals exact J4 rfl AC1
theorem rl_ok {r:Rl} (h:AD1 r=0):(0≤r.k∧r.k < 7)∧(1≤r.f∧r.f≤10000∧0≤r.e∧r.e≤12∧0≤r.t∧r.t≤1000)∧(r.e=0→r.t=1):=by
 unfold AD1 at h
 split at h
 ·omega
 ·split at h
  ·omega
  ·split at h
   ·omega
   ·unfold badK badR badF at *
    refine ⟨by omega,by omega,fun e=>Classical.byContradiction fun h2=>?_⟩
    rename_i h3
    exact h3 ⟨e,h2⟩
theorem r_refuses (r:Rl) (k n:Int) (hr:AD1 r=0) (hn:-1000000≤n∧n≤1000001):J8 136 [.agg [.int .i64 r.k,.int .i64 r.f,.int .i64 r.e,.int .i64 r.t],.int .i64 k,.int .i64 n] (.bool (BA1 r k n)):=by
 obtain ⟨h1,h2,h3⟩:=rl_ok hr
 refine J8.mk (R9 G9 b136 J3 ⟨AF4,A8,A8,trivial⟩ D5 rfl ?_)
 unfold c136
 by_cases hc:r.k=k∧r.f≤n
 ·obtain ⟨hc1,hc2⟩:=hc
  by_cases he:r.e=0
  ·(refine wx ?_;repeat' (first|with_reducible refine And.intro ?_ ?_|intro hsp))
   all_goals exact J4 (congrArg AV.bool (by unfold BA1;apply Bool.eq_iff_iff.2;simp [hc1,hc2,he])) D5
  ·have ht:Int.tdiv (n - r.f) r.e=(n - r.f) / r.e:=Int.tdiv_eq_ediv_of_nonneg (by omega)
   have q0:0≤(n - r.f) / r.e:=Int.ediv_nonneg (by omega) (by omega)
   have q1:(n - r.f) / r.e * r.e≤n - r.f:=Int.ediv_mul_le _ he
   have q2:(n - r.f) / r.e≤(n - r.f) / r.e * r.e:=by
    have:=Int.mul_le_mul_of_nonneg_left (show 1≤r.e by omega) q0
    omega
   generalize hq:(n - r.f) / r.e=q at *
   have hw:IntKind.i64.wrap ((n - r.f).tdiv r.e)=q:=by rw [ht];exact IntWalk.i64_in _ ⟨by omega,by omega⟩
   clear ht
   (refine wx ?_;repeat' (first|with_reducible refine And.intro ?_ ?_|intro hsp))
   all_goals exact J4 (congrArg AV.bool (by unfold BA1;rw [hq];first|exact (decide_eq_true (by omega)).symm|exact (decide_eq_false (by omega)).symm|exact decide_eq_decide.2 (by omega))) D5
 ·(refine wx ?_;repeat' (first|with_reducible refine And.intro ?_ ?_|intro hsp))
  all_goals first|(exfalso;omega)|exact J4 (congrArg AV.bool (by unfold BA1;exact (decide_eq_false fun h=>hc ⟨h.1,h.2.1⟩).symm)) D5
end
end Go.Proofs.YtbhgfoikbkaohaaGreat
namespace Go.Pol
open Go.Am
section
variable {l:List Rl} {k n:Int}
def okL (l:List Rl):Prop:=∀ j,j < l.length→AD1 (nth dR l j)=0
theorem BG7 {i:Int} (h:AK4 l=(i,0)):okL l∧l.length≤50:=by
 unfold AK4 at h
 split at h
 ·cases h
 ·rename_i hl
  refine ⟨fun j hj=>Classical.byContradiction fun hne=>?_,by omega⟩
  have key:∀ (l:List Rl) (i:Nat) (j:Nat),j < l.length→AD1 (nth dR l j) ≠ 0→(Aa7 l i).2 ≠ 0:=by
   intro l
   induction l with
   | nil=>intro i j hj;cases hj
   | cons r l ih =>
    intro i j hj hne
    by_cases h0:AD1 r=0
    ·show (if AD1 r=0 then Aa7 l (i+1) else _).2 ≠ 0
     rw [if_pos h0]
     cases j with
     | zero=>exact absurd h0 hne
     | succ j=>exact ih (i+1) j (by simpa using hj) hne
    ·show (if AD1 r=0 then Aa7 l (i+1) else _).2 ≠ 0
     rw [if_neg h0];exact h0
  exact key l 0 j hj hne (by rw [h])
theorem any_at {i:Nat} (hi:i < l.length) (h:BA1 (nth dR l i) k n=true):AW4 l k n=true:=List.any_eq_true.2 ⟨_,AE5 hi,h⟩
theorem any_no (h:∀ j,j < l.length→BA1 (nth dR l j) k n=false):AW4 l k n=false:=by
 unfold AW4
 rw [List.any_eq_false]
 intro r hr
 obtain ⟨j,hj,rfl⟩:=List.mem_iff_getElem.1 hr
 rw [← I9 (d:=dR) hj,h j hj];simp
def cnt (l:List Rl) (k:Int):Nat→Nat
 | 0 => 0
 | m+1=>cnt l k m+if AW4 l k ((m+1:Nat):Int) then 1 else 0
theorem BW5:∀ m,cnt l k m≤m
 | 0=>Nat.le_refl _
 | m+1=>by
  have:=BW5 m
  show cnt l k m+_≤m+1
  split<;>omega
def nextR (r:Rl) (n:Int):Int:=if n < r.f then r.f else if r.e=0 then 0 else if 0 < r.t∧r.t≤(n - r.f) / r.e+1 then 0 else r.f+((n - r.f) / r.e+1) * r.e
theorem BW1 {d e:Int} (hd:1≤d) (he:1≤e):((d - 1) / e+1) * e=d ↔ d / e * e=d:=by
 constructor
 ·intro h
  rw [← h,Int.mul_ediv_cancel _ (by omega)]
 ·intro h
  have h1:d - 1=(e - 1)+(d / e - 1) * e:=by rw [Int.sub_mul,Int.one_mul,h];omega
  rw [h1,Int.add_mul_ediv_right _ _ (by omega),Int.ediv_eq_zero_of_lt (by omega) (by omega),Int.zero_add,Int.sub_add_cancel]
  exact h
theorem div_last2 {d e:Int} (hd:1≤d) (he:1≤e) (h:d / e * e=d):(d - 1) / e+1=d / e:=by
 have h1:=(BW1 hd he).2 h
 rw [← h] at h1
 rw [h] at h1
 have h2:((d - 1) / e+1) * e=d / e * e:=by rw [h1,h]
 exact Int.eq_of_mul_eq_mul_right (by omega) h2
theorem next_ref {r:Rl} (hf:1≤r.f) (he0:0≤r.e) (ht0:0≤r.t) (hn:1≤n):(r.k=k∧nextR r (n - 1)=n) ↔ BA1 r k n=true:=by
 unfold BA1 nextR
 rw [decide_eq_true_eq]
 by_cases h1:n - 1 < r.f
 ·rw [if_pos h1]
  constructor
  ·rintro ⟨e1,e2⟩
   refine ⟨e1,by omega,?_⟩
   by_cases he:r.e=0
   ·exact .inl ⟨he,e2.symm⟩
   ·refine .inr ⟨he,?_,?_⟩
    ·rw [show n - r.f=0 by omega,Int.zero_ediv,Int.zero_mul];omega
    ·rw [show n - r.f=0 by omega,Int.zero_ediv];omega
  ·rintro ⟨e1,e2,_⟩
   exact ⟨e1,by omega⟩
 ·rw [if_neg h1]
  by_cases he:r.e=0
  ·rw [if_pos he]
   constructor
   ·rintro ⟨_,e2⟩;omega
   ·rintro ⟨_,e2,e3⟩;omega
  ·rw [if_neg he]
   have hd:=BW1 (d:=n - r.f) (e:=r.e) (by omega) (by omega)
   have hd2:=div_last2 (d:=n - r.f) (e:=r.e) (by omega) (by omega)
   rw [show n - r.f - 1=n - 1 - r.f by omega] at hd hd2
   constructor
   ·rintro ⟨e1,e2⟩
    split at e2
    ·omega
    ·rename_i h3
     have h4:=hd.1 (by omega)
     have h5:=hd2 h4
     exact ⟨e1,by omega,.inr ⟨he,by omega,by omega⟩⟩
   ·rintro ⟨e1,e2,e3⟩
    rcases e3 with e3 | ⟨_,e4,e5⟩
    ·omega
    ·have h4:(n - r.f) / r.e * r.e=n - r.f:=by omega
     have h5:=hd2 h4
     have h6:=hd.2 h4
     refine ⟨e1,?_⟩
     rw [if_neg (by omega)]
     omega
end
end Go.Pol
namespace Go.Proofs.YtbhgfoikbkaohaaGreat
open Go Go.Am Go.Pol
theorem plx_Rc {p:Prop} (h:p:=by ((first|exact plw|(with_reducible first|apply AF4|apply N7|apply L9|apply l8|apply X5|apply AC1|apply AJ7|apply AE2|fail)|fail);first|done|fail)):p:=h
theorem ppx_Rc {p:Prop} (h:p:=by ((first|with_reducible assumption|(with_reducible first|apply M9 _|apply V4 M9|apply A9|fail)|exact ppw|fail);first|done|fail)):p:=h
open Go.Proofs.YtbhgfoikbkaohaaGreat renaming plx_Rc → plx
open Go.Proofs.YtbhgfoikbkaohaaGreat renaming ppx_Rc → ppx
section
variable {l:List Rl} {k n:Int}
theorem BD2 (hl:okL l) (hn:-1000000≤n∧n≤1000001) (hb:l.length≤1000):J8 126 [.agg [.isl (l.map rlA)],.int .i64 k,.int .i64 n] (.bool (AW4 l k n)):=by
 refine J8.mk (R9 G9 b126 J3 ⟨L9,A8,A8,trivial⟩ D5 rfl ?_)
 unfold c126
 (refine wx ?_;repeat' (first|with_reducible refine And.intro ?_ ?_|intro hsp))
 (refine F9 [1,2,3] (fun (i:Nat)=>[(7,.int .i64 (i:Nat))]) (fun (i:Nat)=>⟨[(0,.cells [.isl (l.map rlA)])],1⟩) (fun (i:Nat)=>i≤l.length∧∀ j,j < i→BA1 (nth dR l j) k n=false) (fun (i:Nat)=>l.length - i) (0) [] rfl (fun _=>by first|exact Nat.zero_le _|(dsimp only;omega)) ?_ (by ((try (conv=>whnf));exact O4)) ?_)
 ·exact ⟨Nat.zero_le _,fun j hj=>by omega⟩
 rintro i ⟨hi,h0⟩
 by_cases hil:i < l.length
 ·obtain ⟨r,he⟩:∃ r,nth dR l i=r:=⟨_,rfl⟩
  have z:=r_refuses r k n (by rw [← he];exact hl i hil) hn
  cases h1:BA1 r k n with
  | false =>
   rw [h1] at z
   (refine wx ?_;repeat' (first|with_reducible refine And.intro ?_ ?_|intro hsp))
   all_goals exact D6 (i+1) [] ⟨by omega,fun j hj=>if e:j=i then by rw [e,he];exact h1 else h0 j (by omega)⟩ (by first|omega|(dsimp only;omega)) rfl (by exact O4)
  | true =>
   rw [h1] at z
   rw [any_at hil (by rw [he];exact h1)]
   (refine wx ?_;repeat' (first|with_reducible refine And.intro ?_ ?_|intro hsp))
   all_goals exact K6 rfl
 ·rw [any_no fun j hj=>h0 j (by omega)]
  (refine wx ?_;repeat' (first|with_reducible refine And.intro ?_ ?_|intro hsp))
  all_goals exact K6 rfl
theorem r_hits (hl:okL l) (m:Nat) (hm:m≤1000000) (hb:l.length≤1000):J8 135 [.agg [.isl (l.map rlA)],.int .i64 k,.int .i64 (m:Nat)] (.int .i64 (cnt l k m:Nat)):=by
 refine J8.mk (R9 G9 b135 J3 ⟨L9,A8,A8,trivial⟩ A8 rfl ?_)
 unfold c135
 (refine wx ?_;repeat' (first|with_reducible refine And.intro ?_ ?_|intro hsp))
 (refine F9 [1,2,3] (fun (i:Nat)=>[(7,.int .i64 (cnt l k i:Nat)),(8,.int .i64 ((i:Nat)+1:Int))]) (fun (i:Nat)=>⟨[(0,.cells [.isl (l.map rlA)])],1⟩) (fun (i:Nat)=>i≤m) (fun (i:Nat)=>m - i) (0) [] rfl (fun _=>by first|exact Nat.zero_le _|(dsimp only;omega)) ?_ (by ((try (conv=>whnf));(rw [show cnt l k 0=0 from rfl]);exact O4)) ?_)
 ·exact Nat.zero_le _
 intro i hi
 have hc:=BW5 (l:=l) (k:=k) i
 by_cases hil:i < m
 ·have z:=BD2 (k:=k) (n:=((i:Nat)+1:Int)) hl (by omega) hb
  cases h1:AW4 l k ((i:Nat)+1:Int) with
  | false =>
   have hs:cnt l k (i+1)=cnt l k i:=by show cnt l k i+(if AW4 l k ((i:Nat)+1:Int) then 1 else 0)=_;rw [h1];rfl
   rw [h1] at z
   (refine wx ?_;repeat' (first|with_reducible refine And.intro ?_ ?_|intro hsp))
   all_goals exact D6 (i+1) [] (by (try dsimp only);omega) (by first|omega|(dsimp only;omega)) rfl (by ((try dsimp only);rw [hs]);exact O4)
  | true =>
   have hs:cnt l k (i+1)=cnt l k i+1:=by show cnt l k i+(if AW4 l k ((i:Nat)+1:Int) then 1 else 0)=_;rw [h1];rfl
   rw [h1] at z
   (refine wx ?_;repeat' (first|with_reducible refine And.intro ?_ ?_|intro hsp))
   all_goals exact D6 (i+1) [] (by (try dsimp only);omega) (by first|omega|(dsimp only;omega)) rfl (by ((try dsimp only);rw [hs]);exact O4)
 ·have : i=m:=by omega
  subst this
  (refine wx ?_;repeat' (first|with_reducible refine And.intro ?_ ?_|intro hsp))
  all_goals exact AG7 rfl
theorem k_next (r:Rl) (hr:AD1 r=0) (hn:-1000000≤n∧n≤1000001):J8 140 [.agg [.int .i64 r.k,.int .i64 r.f,.int .i64 r.e,.int .i64 r.t],.int .i64 n] (.int .i64 (nextR r n)):=by
 obtain ⟨h1,h2,h3⟩:=rl_ok hr
 refine J8.mk (R9 G9 b140 J3 ⟨AF4,A8,trivial⟩ A8 rfl ?_)
 unfold c140
 by_cases hc:n < r.f
 ·have e:nextR r n=r.f:=if_pos hc
  rw [e]
  (refine wx ?_;repeat' (first|with_reducible refine And.intro ?_ ?_|intro hsp))
  all_goals exact AG7 rfl
 ·by_cases he:r.e=0
  ·have e:nextR r n=0:=(if_neg hc).trans (if_pos he)
   rw [e]
   (refine wx ?_;repeat' (first|with_reducible refine And.intro ?_ ?_|intro hsp))
   all_goals exact AG7 rfl
  ·have ht:Int.tdiv (n - r.f) r.e=(n - r.f) / r.e:=Int.tdiv_eq_ediv_of_nonneg (by omega)
   have q0:0≤(n - r.f) / r.e:=Int.ediv_nonneg (by omega) (by omega)
   have q1:(n - r.f) / r.e * r.e≤n - r.f:=Int.ediv_mul_le _ he
   have q2:(n - r.f) / r.e≤(n - r.f) / r.e * r.e:=by
    have:=Int.mul_le_mul_of_nonneg_left (show 1≤r.e by omega) q0
    omega
   have e:nextR r n=if 0 < r.t∧r.t≤(n - r.f) / r.e+1 then 0 else r.f+((n - r.f) / r.e+1) * r.e:=(if_neg hc).trans (if_neg he)
   rw [e]
   generalize hq:(n - r.f) / r.e=q at *
   have hw:IntKind.i64.wrap ((n - r.f).tdiv r.e)=q:=by rw [ht];exact IntWalk.i64_in _ ⟨by omega,by omega⟩
   clear ht
   have q3:(q+1) * r.e=q * r.e+r.e:=by rw [Int.add_mul,Int.one_mul]
   (refine wx ?_;repeat' (first|with_reducible refine And.intro ?_ ?_|intro hsp))
   all_goals first|exact J4 (congrArg (AV.int .i64) (if_pos (by omega)).symm) A8|exact J4 (congrArg (AV.int .i64) (if_neg (by omega)).symm) A8
end
end Go.Proofs.YtbhgfoikbkaohaaGreat
namespace Go.Pol
open Go.Am
def Ak6 (M:Nat→Bool) (i:Nat) (v:Bool):Nat→Bool:=fun j=>if j=i then v else M j
def memT (n:Nat) (M:Nat→Bool):List AV:=(List.range n).map fun k=>.bool (M k)
theorem BT7 (n:Nat) (M:Nat→Bool):(memT n M).length=n:=by simp [memT]
theorem memT_set (n:Nat) (M:Nat→Bool) (i:Nat) (v:Bool):(memT n M).set i (.bool v)=memT n (Ak6 M i v):=by
 refine List.ext_getElem (by simp [memT]) fun j h1 h2=>?_
 simp only [memT,List.getElem_set,List.getElem_map,List.getElem_range,Ak6]
 by_cases e:i=j
 ·subst e;simp
 ·rw [if_neg e,if_neg (fun h=>e h.symm)]
theorem memT_make (n:Nat):(List.replicate n [AV.bool false]).flatten=memT n fun _=>false:=by
 induction n with
 | zero=>rfl
 | succ n ih =>
  rw [List.replicate_succ',List.flatten_append,ih]
  simp [memT,List.range_succ]
def BM0 (R:Nat→Bool) (j:Nat):List AV:=[.bool (R j)]
theorem BT8 (R:Nat→Bool) (j:Nat):(BM0 R j).length=1:=rfl
theorem Ah9 {n:Nat} {R:Nat→Bool}:Plain (.isl ((List.range n).map (BM0 R))):=AQ6 fun e he=>by
 obtain ⟨j,_,rfl⟩:=List.mem_map.1 he
 exact fun x hx=>by obtain rfl:=List.mem_singleton.1 hx;exact D5
theorem AZ6 {r:Rl}:Plain (.iptr (rlA r)):=AT4 (M9 r)
theorem AI8 {n:Nat} {M:Nat→Bool}:∀ x ∈ memT n M,Plain x:=fun x hx=>by obtain ⟨p,_,rfl⟩:=List.mem_map.1 hx;exact D5
theorem ref_s {r:Rl} {k:Int} {f e t j:Nat} (ek:r.k=k) (ef:r.f=(f:Nat)) (ee:r.e=(e:Nat)) (et:r.t=(t:Nat)) (he:e=0→t=1):BA1 r k (j:Nat)=true ↔ ∃ s,f+s * e=j∧(t=0∨s < t):=by
 unfold BA1
 rw [decide_eq_true_eq,ek,ef,ee,et]
 constructor
 ·rintro ⟨-,h1,h2⟩
  rcases h2 with ⟨h3,h4⟩ | ⟨h3,h4,h5⟩
  ·exact ⟨0,by rw [Nat.zero_mul];omega,.inr (by have:=he (by omega);omega)⟩
  ·obtain ⟨q,hq⟩:=Int.eq_ofNat_of_zero_le (Int.ediv_nonneg (a:=((j:Int) - f)) (b:=(e:Int)) (by omega) (by omega))
   rw [hq] at h4 h5
   refine ⟨q,?_,by omega⟩
   have : ((f+q * e:Nat):Int)=(j:Nat):=by rw [Int.natCast_add,Int.natCast_mul];exact h4
   omega
 ·rintro ⟨s,h1,h2⟩
  subst h1
  refine ⟨rfl,by rw [Int.natCast_add,Int.natCast_mul];have : (0:Int)≤(s:Int) * e:=Int.mul_nonneg (by omega) (by omega);omega,?_⟩
  by_cases h0:e=0
  ·exact .inl ⟨by omega,by rw [h0,Nat.mul_zero];omega⟩
  ·have hd:((f+s * e:Nat):Int) - f=(s:Int) * e:=by rw [Int.natCast_add,Int.natCast_mul];omega
   refine .inr ⟨by omega,?_,?_⟩
   ·rw [hd,Int.mul_ediv_cancel _ (by omega),Int.natCast_add,Int.natCast_mul]
   ·rw [hd,Int.mul_ediv_cancel _ (by omega)];omega
def mkJ (M M':Nat→Bool) (f e lim m:Nat):Prop:=∀ j:Nat,j≤lim→(M' j=true ↔ M j=true∨∃ s,s < m∧f+s * e=j)
theorem mkJ_0 {M:Nat→Bool} {f e lim:Nat}:mkJ M M f e lim 0:=fun j hj=>⟨.inl,fun h=>h.elim id fun ⟨s,h1,_⟩=>by omega⟩
theorem mkJ_s {M M':Nat→Bool} {f e lim m:Nat} (h:mkJ M M' f e lim m):mkJ M (Ak6 M' (f+m * e) true) f e lim (m+1):=fun j hj=>by
 unfold Ak6
 by_cases e1:j=f+m * e
 ·rw [if_pos e1]
  exact ⟨fun _=>.inr ⟨m,by omega,e1.symm⟩,fun _=>rfl⟩
 ·rw [if_neg e1,h j hj]
  constructor
  ·rintro (h1 | ⟨s,h1,h2⟩)
   ·exact .inl h1
   ·exact .inr ⟨s,by omega,h2⟩
  ·rintro (h1 | ⟨s,h1,h2⟩)
   ·exact .inl h1
   ·by_cases e2:s=m
    ·subst e2;exact absurd h2.symm e1
    ·exact .inr ⟨s,by omega,h2⟩
end Go.Pol
namespace Go.Proofs.YtbhgfoikbkaohaaGreat
open Go Go.Am Go.Pol
theorem plx_Rd {p:Prop} (h:p:=by ((first|exact plw|(with_reducible first|apply AF4|apply N7|apply L9|apply l8|apply X5|apply AC1|apply AJ7|apply AE2|apply AZ6|apply Ah9|fail)|fail);first|done|fail)):p:=h
theorem ppx_Rd {p:Prop} (h:p:=by ((first|with_reducible assumption|(with_reducible first|apply M9 _|apply V4 M9|apply A9|apply AI8|fail)|exact ppw|fail);first|done|fail)):p:=h
open Go.Proofs.YtbhgfoikbkaohaaGreat renaming plx_Rd → plx
open Go.Proofs.YtbhgfoikbkaohaaGreat renaming ppx_Rd → ppx
theorem wx_Rd {p q:Prop} (hq:q) (h:Y3 q→p:=by (intro hQz;((repeat' ((try (conv=>whnf));first|refine sxA ?_|refine hel _ ?_|refine sxF ?_|refine sxH ?_|((with_reducible first|apply U1 hQz|apply U2 hQz)<;>(try intro hsp hQz))|exact hQz.out))<;>(try (conv=>whnf))))):p:=h ⟨hq⟩
theorem wi {p q:Prop} (hq:q) (h:Y3 q→p:=by (intro hQz;((repeat' ((try (conv=>whnf));first|(with_reducible first|refine P6 ?_|refine K4 ?_|refine P9 ?_|refine Q5 ?_|refine K9 ?_|refine U9 ?_|refine O9 ?_|refine U8 rfl ?_|refine P5 ?_|refine I5 ?_|refine K7 ?_|refine K8 ?_|refine Q0 ?_|refine I4 ?_|refine K5 (by decide +kernel) ?_|refine J6 (by decide +kernel) ?_|refine AG2 ?_|refine AG3 ?_|refine Aj5 ?_|refine r9 ?_|refine AI4 ?_|refine Ag9 (by assumption) ?_|refine Ah0 (by assumption) ?_|refine p9 (by omega) ?_|refine AI2 ?_)|((with_reducible refine AI5 ?_ ?_);focus omega)|((with_reducible refine AI6 ?_ ?_);focus omega)|((with_reducible apply U1 hQz)<;>(try intro hsp hQz))|((with_reducible refine Aj3 ?_ ?_);focus (first|omega|rfl|assumption|decide|(simp only [List.length_map,List.length_cons,List.length_nil];omega)))|(with_reducible first|refine AH9 ?_|refine p8 ?_|refine o9 ?_|refine AI1 ?_|refine AI0 ?_|refine AH7 ?_|refine Aj0 ?_|refine I6 ?_|refine l9 ?_|refine P8 ?_|refine P7 ?_|refine I7 ?_|refine AH8 (by omega) ?_|refine o8 (by omega) ?_)|refine Z7 BR0 (by first|assumption|omega) (by with_reducible assumption) ?_|refine C8 (by with_reducible assumption) ?_|refine AE7 (by with_reducible assumption) ?_|refine H8 (by rw [BT7];omega) (by with_reducible assumption) ?_|(with_reducible first|refine AC6 ?_|refine Aq9.mk (by kernel_rfl) ?_|refine AD6 rfl ?_|refine AC8 (by decide +kernel) ?_|refine AC7 rfl ?_)|refine M0 (by assumption) ?_|refine R5 (by assumption) ?_|refine V5 (by assumption) ?_|(refine AF1 G9 b138 rfl ?_;unfold c138)|(refine AF1 G9 b141 rfl ?_;unfold c141)|(refine AF1 G9 b139 rfl ?_;unfold c139)|(refine AF1 G9 b112 rfl ?_;unfold c112)|refine Ay4 G9 rfl (by assumption) (by assumption) (by assumption) rfl ?_|refine I6 ?_|refine I7 ?_|refine AP6 rfl rfl ?_|refine l6 ?_|refine V8 rfl ?_|refine AP7 rfl ?_|refine AP3 rfl ?_|refine AD5 rfl ?_|refine S9 ?_|refine Au3.mk ?_|((with_reducible apply U2 hQz)<;>(try intro hsp hQz))|exact hQz.out))<;>(try (conv=>whnf))))):p:=h ⟨hq⟩
section
variable {l:List Rl} {k n:Int}
theorem k_refused (hl:okL l) (hn:1≤n∧n≤1000001) (hb:l.length≤1000):J8 134 [.agg [.isl (l.map rlA)],.int .i64 k,.int .i64 n] (.bool (AW4 l k n)):=by
 refine J8.mk (R9 G9 b134 J3 ⟨L9,A8,A8,trivial⟩ D5 rfl ?_)
 unfold c134
 (refine wi ?_;repeat' (first|with_reducible refine And.intro ?_ ?_|intro hsp))
 (refine F9 [0,1,7] (fun (i:Nat)=>[(8,.int .i64 (i:Nat))]) (fun (i:Nat)=>⟨[(0,.cells [.isl (l.map rlA)]),(1,.cells [.int .i64 k]),(2,.cells [.int .i64 n])],3⟩) (fun (i:Nat)=>i≤l.length∧∀ j,j < i→BA1 (nth dR l j) k n=false) (fun (i:Nat)=>l.length - i) (0) [] rfl (fun _=>by first|exact Nat.zero_le _|(dsimp only;omega)) ?_ (by ((try (conv=>whnf));exact O4)) ?_)
 ·exact ⟨Nat.zero_le _,fun j hj=>by omega⟩
 rintro i ⟨hi,h0⟩
 by_cases hil:i < l.length
 ·obtain ⟨r,he⟩:∃ r,nth dR l i=r:=⟨_,rfl⟩
  have hr:AD1 r=0:=by rw [← he];exact hl i hil
  obtain ⟨h1,h2,h3⟩:=rl_ok hr
  have z:=k_next (n:=n - 1) r hr (by omega)
  have hnr:=next_ref (r:=r) (k:=k) (n:=n) (by omega) (by omega) (by omega) hn.1
  cases h1:BA1 r k n with
  | false =>
   have hne:¬ (r.k=k∧nextR r (n - 1)=n):=fun h=>by rw [hnr.1 h] at h1;cases h1
   (refine wi ?_;repeat' (first|with_reducible refine And.intro ?_ ?_|intro hsp))
   all_goals first|(exfalso;exact hne ⟨by assumption,by assumption⟩)|skip
   all_goals exact D6 (i+1) [] ⟨by omega,fun j hj=>if e:j=i then by rw [e,he];exact h1 else h0 j (by omega)⟩ (by first|omega|(dsimp only;omega)) rfl (by exact O4)
  | true =>
   obtain ⟨e1,e2⟩:=hnr.2 h1
   rw [any_at hil (by rw [he];exact h1)]
   (refine wi ?_;repeat' (first|with_reducible refine And.intro ?_ ?_|intro hsp))
   all_goals exact K6 rfl
 ·rw [any_no fun j hj=>h0 j (by omega)]
  (refine wi ?_;repeat' (first|with_reducible refine And.intro ?_ ?_|intro hsp))
  all_goals exact K6 rfl
def mkI (l:List Rl) (k:Int) (lim i:Nat) (M:Nat→Bool):Prop:=∀ j:Nat,j≤lim→(M j=true ↔ ∃ r,r ∈ l.take i∧BA1 r k (j:Nat)=true)
theorem BK7 {n:Nat} {M:Nat→Bool}:Plain (.isl ((List.range n).map fun j=>[.bool (M j)])):=AQ6 fun e he=>by
 obtain ⟨j,_,rfl⟩:=List.mem_map.1 he
 exact fun x hx=>by obtain rfl:=List.mem_singleton.1 hx;exact D5
theorem wk_marks {n:Nat} {M R:Nat→Bool} {h:Hp} {d kk:Nat} (hM:∀ j,j < n→M j=R j) (hi:lk h.l d=some (.cells (memT n M))):WkV Tryz.prog id h ⟨[],kk⟩ (.sl d 0 n n 1) (.isl ((List.range n).map fun j=>[.bool (R j)])):=by
 have he:memT n M=((List.range n).map fun j=>[AV.bool (R j)]).flatten:=by
  unfold memT
  rw [List.map_eq_flatMap,List.flatMap_def]
  congr 1
  exact List.map_congr_left fun j hj=>by rw [hM j (List.mem_range.1 hj)]
 refine wk_frz hi (fun j o hj=>by cases hj) Ah7 (by simp) (fun e he=>?_) ?_ fun e he x hx=>?_
 ·obtain ⟨s,_,rfl⟩:=List.mem_map.1 he;rfl
 ·rw [List.drop_zero,List.take_of_length_le (by rw [BT7];omega)];exact he
 ·obtain ⟨s,_,rfl⟩:=List.mem_map.1 he
  obtain rfl:=List.mem_singleton.1 hx
  exact D5
theorem k_marks (hl:okL l) (lim:Nat) (hm:lim≤1000000) (hb:l.length≤1000):J8 104 [.agg [.isl (l.map rlA)],.int .i64 k,.int .i64 (lim:Nat)] (.isl ((List.range (lim+1)).map fun j=>[.bool (AW4 l k (j:Nat))])):=by
 refine J8.mk (R9 G9 b104 J3 ⟨L9,A8,A8,trivial⟩ BK7 rfl ?_)
 unfold c104
 have ht:(((lim:Nat):Int)+1).toNat=lim+1:=by omega
 have hmk:(List.replicate (lim+1) [AV.bool false]).flatten=memT (lim+1) fun _=>false:=memT_make _
 (refine wi ?_;repeat' (first|with_reducible refine And.intro ?_ ?_|intro hsp))
 (refine F9 [1,2,7,15,16] (fun (q:Nat × (Nat→Bool))=>[(17,.int .i64 (q.1:Nat))]) (fun (q:Nat × (Nat→Bool))=>⟨[(0,.cells [.isl (l.map rlA)]),(1,.cells (memT (lim+1) q.2)),(2,.cells [.sl 1 0 (lim+1) (lim+1) 1])],3⟩) (fun (q:Nat × (Nat→Bool))=>q.1≤l.length∧mkI l k lim q.1 q.2) (fun (q:Nat × (Nat→Bool))=>l.length - q.1) ((0,fun _=>false)) [] rfl (fun _=>by first|exact Nat.zero_le _|(dsimp only;omega)) ?_ (by ((try (conv=>whnf));exact O4)) ?_)
 ·exact ⟨Nat.zero_le _,fun j hj=>⟨fun h=>(by cases h),fun ⟨r,h1,_⟩=>(by cases h1)⟩⟩
 rintro ⟨i,M⟩ ⟨hi,h0⟩
 dsimp only at hi h0 ⊢
 by_cases hil:i < l.length
 ·obtain ⟨r,he⟩:∃ r,nth dR l i=r:=⟨_,rfl⟩
  have hr:AD1 r=0:=by rw [← he];exact hl i hil
  obtain ⟨h1,h2,h3⟩:=rl_ok hr
  have htk:=AS8 (d:=dR) hil
  rw [he] at htk
  by_cases hk:r.k=k
  ·obtain ⟨f,ef⟩:=Int.eq_ofNat_of_zero_le (show 0≤r.f by omega)
   obtain ⟨e,ee⟩:=Int.eq_ofNat_of_zero_le (show 0≤r.e by omega)
   obtain ⟨t,et⟩:=Int.eq_ofNat_of_zero_le (show 0≤r.t by omega)
   have het:e=0→t=1:=fun h=>by have:=h3 (by omega);omega
   have href:=fun j=>ref_s (j:=j) hk ef ee et het
   (refine wi ?_;repeat' (first|with_reducible refine And.intro ?_ ?_|intro hsp))
   refine range_x G9 b127 rfl trivial ?_
   intro frl asl bdl hF hA hB
   unfold c127
   (refine wi ?_;repeat' (first|with_reducible refine And.intro ?_ ?_|intro hsp))
   (refine F9 [0,1,2] (fun (p:Nat × (Nat→Bool))=>[(4,.int .i64 ((f+p.1 * e:Nat):Int)),(5,.int .i64 (p.1:Nat))]) (fun (p:Nat × (Nat→Bool))=>⟨[(0,.cells [.isl (l.map rlA)]),(1,.cells (memT (lim+1) p.2)),(2,.cells [.sl 1 0 (lim+1) (lim+1) 1]),(3,.cells (rlA r)),(4,.cells (rlA r)),(5,.cells [.int .i64 (lim:Nat)]),(6,.loop .ready none frl [28] asl bdl)],7⟩) (fun (p:Nat × (Nat→Bool))=>p.1≤lim+1∧mkJ M p.2 f e lim p.1∧(∀ s,s < p.1→t=0∨s < t)) (fun (p:Nat × (Nat→Bool))=>lim+2 - p.1) ((0,M)) [] rfl (fun _=>by first|exact Nat.zero_le _|(dsimp only;omega)) ?_ (by ((try (conv=>whnf));(rw [show f+0 * e=f by omega]);exact O4)) ?_)
   ·exact ⟨by omega,mkJ_0,fun s hs=>by omega⟩
   rintro ⟨m,M'⟩ ⟨hm1,hj,hs⟩
   dsimp only at hm1 hj hs ⊢
   have hsu:f+(m+1) * e=f+m * e+e:=by rw [Nat.add_mul,Nat.one_mul];omega
   by_cases hgo:f+m * e≤lim∧(t=0∨m < t)
   ·obtain ⟨hg1,hg2⟩:=hgo
    have hst:=memT_set (lim+1) M' (f+m * e) true
    have hme:m≤lim:=by
     by_cases h0:e=0
     ·have:=het h0;omega
     ·have : m * 1≤m * e:=Nat.mul_le_mul_left m (by omega)
      omega
    have hs':∀ s,s < m+1→t=0∨s < t:=fun s h=>by
     by_cases e2:s=m
     ·subst e2;exact hg2
     ·exact hs s (by omega)
    (refine wi ?_;repeat' (first|with_reducible refine And.intro ?_ ?_|intro hsp))
    all_goals exact D6 (m+1,Ak6 M' (f+m * e) true) [] ⟨by dsimp only;omega,mkJ_s hj,hs'⟩ (by first|omega|(dsimp only;omega)) rfl (by exact O4)
   ·have hfin:mkI l k lim (i+1) M':=fun j hjl=>by
     rw [hj j hjl,h0 j hjl,htk]
     have hrj:=href j
     constructor
     ·rintro (⟨s,h4,h5⟩ | ⟨s,h4,h5⟩)
      ·exact ⟨s,List.mem_append_left _ h4,h5⟩
      ·exact ⟨r,List.mem_append_right _ (List.mem_singleton.2 rfl),hrj.2 ⟨s,h5,hs s h4⟩⟩
     ·rintro ⟨s,h4,h5⟩
      rcases List.mem_append.1 h4 with h4|h4
      ·exact .inl ⟨s,h4,h5⟩
      ·obtain rfl:=List.mem_singleton.1 h4
       obtain ⟨s,h6,h7⟩:=hrj.1 h5
       refine .inr ⟨s,Classical.byContradiction fun h8=>?_,h6⟩
       have h9:m * e≤s * e:=Nat.mul_le_mul_right e (by omega)
       exact hgo ⟨by omega,by omega⟩
    (refine wi ?_;repeat' (first|with_reducible refine And.intro ?_ ?_|intro hsp))
    all_goals exact D6 (i+1,M') [] ⟨by dsimp only;omega,hfin⟩ (by first|omega|(dsimp only;omega)) rfl (by exact O4)
  ·(refine wi ?_;repeat' (first|with_reducible refine And.intro ?_ ?_|intro hsp))
   all_goals exact D6 (i+1,M) [] ⟨by dsimp only;omega,fun j hj=>by rw [h0 j hj,htk];exact ⟨fun ⟨s,hs,e⟩=>⟨s,List.mem_append_left _ hs,e⟩,fun ⟨s,hs,e⟩=>(List.mem_append.1 hs).elim (fun h=>⟨s,h,e⟩) fun h=>by obtain rfl:=List.mem_singleton.1 h;unfold BA1 at e;simp at e;exact absurd e.1 hk⟩⟩ (by first|omega|(dsimp only;omega)) rfl (by exact O4)
 ·(refine wi ?_;repeat' (first|with_reducible refine And.intro ?_ ?_|intro hsp))
  have hie:i=l.length:=by omega
  subst hie
  have hM:∀ j:Nat,j < lim+1→M j=AW4 l k (j:Nat):=fun j hj=>by
   have:=h0 j (by omega)
   rw [List.take_length] at this
   apply Bool.eq_iff_iff.2
   rw [this]
   unfold AW4
   rw [List.any_eq_true]
  exact BG0 (wk_marks hM rfl)
def cntM (R:Nat→Bool):Nat→Nat
 | 0 => 0
 | m+1=>cntM R m+if R m then 1 else 0
theorem cntM_le {R:Nat→Bool}:∀ m,cntM R m≤m
 | 0=>Nat.le_refl _
 | m+1=>by
  have:=cntM_le (R:=R) m
  show cntM R m+_≤m+1
  split<;>omega
theorem BW6 {l:List Rl} {k:Int} (h0:AW4 l k 0=false):∀ m,cntM (fun j=>AW4 l k (j:Nat)) (m+1)=cnt l k m
 | 0=>by show 0+_=0;rw [if_neg (show ¬ AW4 l k ((0:Nat):Int)=true by rw [show ((0:Nat):Int)=0 from rfl,h0];simp)]
 | m+1=>by
  show cntM (fun j=>AW4 l k (j:Nat)) (m+1)+_=cnt l k m+_
  rw [BW6 h0 m]
theorem ref_zero {l:List Rl} {k:Int} (hl:okL l):AW4 l k 0=false:=any_no fun j hj=>by
 obtain ⟨_,h2,_⟩:=rl_ok (hl j hj)
 unfold BA1
 exact decide_eq_false fun h=>by omega
theorem k_hits (hl:okL l) (lim:Nat) (hm:lim≤1000000) (hb:l.length≤1000):J8 78 [.agg [.isl (l.map rlA)],.int .i64 k,.int .i64 (lim:Nat)] (.int .i64 (cnt l k lim:Nat)):=by
 have z:=k_marks (k:=k) hl lim hm hb
 rw [← BW6 (ref_zero hl) lim]
 change J8 _ _ (.isl ((List.range (lim+1)).map (BM0 fun j=>AW4 l k (j:Nat)))) at z
 generalize (fun j:Nat=>AW4 l k (j:Nat))=R at *
 refine J8.mk (R9 G9 b78 J3 ⟨L9,A8,A8,trivial⟩ A8 rfl ?_)
 unfold c78
 have hln:(List.range (lim+1)).length=lim+1:=List.length_range
 (refine wi ?_;repeat' (first|with_reducible refine And.intro ?_ ?_|intro hsp))
 (refine F9 [12,13] (fun (i:Nat)=>[(6,.int .i64 (cntM R i:Nat)),(14,.int .i64 (i:Nat))]) (fun (i:Nat)=>⟨[],0⟩) (fun (i:Nat)=>i≤lim+1) (fun (i:Nat)=>lim+1 - i) (0) [] rfl (fun _=>by first|exact Nat.zero_le _|(dsimp only;omega)) ?_ (by ((try (conv=>whnf));(rw [show cntM R 0=0 from rfl]);exact O4)) ?_)
 ·exact Nat.zero_le _
 intro i hi
 have hc:=cntM_le (R:=R) i
 by_cases hil:i < lim+1
 ·have he:nth 0 (List.range (lim+1)) i=i:=by rw [I9 (by omega),List.getElem_range]
  cases h1:R i with
  | false =>
   have hs:cntM R (i+1)=cntM R i:=by show cntM R i+(if R i then 1 else 0)=_;rw [h1];rfl
   have hel:∀ K:List AV→Prop,K [.bool false]→ElX ((List.range (lim+1)).map (BM0 R)) i 1 K:=fun K hK=>Z7 (BT8 R) (by omega) he (by unfold BM0;rw [h1];exact hK)
   (refine wx_Rd ?_;repeat' (first|with_reducible refine And.intro ?_ ?_|intro hsp))
   all_goals exact D6 (i+1) [] (by (try dsimp only);omega) (by first|omega|(dsimp only;omega)) rfl (by ((try dsimp only);rw [hs]);exact O4)
  | true =>
   have hs:cntM R (i+1)=cntM R i+1:=by show cntM R i+(if R i then 1 else 0)=_;rw [h1];rfl
   have hel:∀ K:List AV→Prop,K [.bool true]→ElX ((List.range (lim+1)).map (BM0 R)) i 1 K:=fun K hK=>Z7 (BT8 R) (by omega) he (by unfold BM0;rw [h1];exact hK)
   (refine wx_Rd ?_;repeat' (first|with_reducible refine And.intro ?_ ?_|intro hsp))
   all_goals exact D6 (i+1) [] (by (try dsimp only);omega) (by first|omega|(dsimp only;omega)) rfl (by ((try dsimp only);rw [hs]);exact O4)
 ·have : i=lim+1:=by omega
  subst this
  (refine wx_Rd ?_;repeat' (first|with_reducible refine And.intro ?_ ?_|intro hsp))
  all_goals exact AG7 rfl
end
end Go.Proofs.YtbhgfoikbkaohaaGreat
namespace Go.Pol
open Go.Am
def okK (l:List Rl) (C H:Nat→Int) (k:Nat):Prop:=0≤C k∧C k≤1000000∧((cnt l (k:Nat) (C k).toNat:Nat):Int)=H k
instance (l:List Rl) (C H:Nat→Int) (k:Nat):Decidable (okK l C H k):=by unfold okK;infer_instance
def stOk (l:List Rl) (C H:Nat→Int):Prop:=∀ k,k < 7→okK l C H k
instance (l:List Rl) (C H:Nat→Int):Decidable (stOk l C H):=by unfold stOk;infer_instance
def Ap0 (l:List Rl) (C H:Nat→Int):Int:=if (AK4 l).2 ≠ 0 then (AK4 l).2 else if stOk l C H then 0 else 6
theorem AX6 {l:List Rl} {C H:Nat→Int} (h:Ap0 l C H=0):okL l∧l.length≤50∧stOk l C H:=by
 unfold Ap0 at h
 split at h
 ·rename_i h1;exact absurd h h1
 ·rename_i h1
  have hz:(AK4 l).2=0:=Classical.byContradiction h1
  obtain ⟨h2,h3⟩:=BG7 (l:=l) (i:=(AK4 l).1) (by rw [← hz])
  split at h
  ·rename_i h4;exact ⟨h2,h3,h4⟩
  ·cases h
theorem Z6 {l:List Rl} {C H:Nat→Int}:(stA l C H).length=15:=rfl
theorem AE3 {b:Bool} {r:Int}:Plain (.tup [.agg [.nils,.int .i64 0,.int .i64 0,.int .i64 0,.int .i64 0,.int .i64 0,.int .i64 0,.int .i64 0,.int .i64 0,.int .i64 0,.int .i64 0,.int .i64 0,.int .i64 0,.int .i64 0,.int .i64 0],.bool b,.int .i64 r]):=F6 fun x hx=>by
 simp only [List.mem_cons,List.not_mem_nil,or_false] at hx
 rcases hx with rfl|rfl|rfl
 ·exact AJ7
 ·exact D5
 ·exact A8
theorem AA0 {l:List Rl} {C H:Nat→Int} {b:Bool} {r:Int}:Plain (.tup [.agg (stA l C H),.bool b,.int .i64 r]):=F6 fun x hx=>by
 simp only [List.mem_cons,List.not_mem_nil,or_false] at hx
 rcases hx with rfl|rfl|rfl
 ·exact X5
 ·exact D5
 ·exact A8
end Go.Pol
namespace Go.Proofs.YtbhgfoikbkaohaaGreat
open Go Go.Am Go.Pol
open Go.Proofs.YtbhgfoikbkaohaaGreat renaming plx_Rd → plx
open Go.Proofs.YtbhgfoikbkaohaaGreat renaming ppx_Rd → ppx
section
variable {l:List Rl} {C H:Nat→Int}
theorem k_chkS (l:List Rl) (C H:Nat→Int):J8 33 [.agg (stA l C H)] (.int .i64 (Ap0 l C H)):=by
 have z:=k_chk l
 by_cases he:(AK4 l).2 ≠ 0
 ·have e:Ap0 l C H=(AK4 l).2:=if_pos he
  rw [e]
  generalize (AK4 l).1=i at *
  generalize (AK4 l).2=e at *
  refine J8.mk (R9 G9 b33 J3 ⟨X5,trivial⟩ A8 rfl ?_)
  unfold c33
  (refine wx ?_;repeat' (first|with_reducible refine And.intro ?_ ?_|intro hsp))
  all_goals exact AG7 rfl
 ·have e:Ap0 l C H=if stOk l C H then 0 else 6:=if_neg he
  have hz:(AK4 l).2=0:=Classical.byContradiction he
  obtain ⟨hok,hlen⟩:=BG7 (l:=l) (i:=(AK4 l).1) (by rw [← hz])
  rw [e]
  rw [hz] at z
  generalize (AK4 l).1=i at *
  refine J8.mk (R9 G9 b33 J3 ⟨X5,trivial⟩ A8 rfl ?_)
  unfold c33
  (refine wx ?_;repeat' (first|with_reducible refine And.intro ?_ ?_|intro hsp))
  (refine F9 [1,17] (fun (k:Nat)=>[(18,.int .i64 (k:Nat))]) (fun (k:Nat)=>⟨[(0,.cells (stA l C H))],1⟩) (fun (k:Nat)=>k≤7∧∀ j,j < k→okK l C H j) (fun (k:Nat)=>7 - k) (0) [] rfl (fun _=>by first|exact Nat.zero_le _|(dsimp only;omega)) ?_ (by ((try (conv=>whnf));exact O4)) ?_)
  ·exact ⟨Nat.zero_le _,fun k hk=>by omega⟩
  rintro k ⟨hk,h0⟩
  by_cases hk7:k < 7
  ·have hg:[AV.int .i64 (C 0),.int .i64 (C 1),.int .i64 (C 2),.int .i64 (C 3),.int .i64 (C 4),.int .i64 (C 5),.int .i64 (C 6)][k]? = some (.int .i64 (C k)):=arr7_get hk7
   have hH:=Au9 (l:=l) (C:=C) (H:=H) hk7
   by_cases hin:0≤C k∧C k≤1000000
   ·have z2:=k_hits (k:=(k:Nat)) hok (C k).toNat (by omega) (by omega)
    rw [show (((C k).toNat:Nat):Int)=C k by omega] at z2
    by_cases hs:((cnt l (k:Nat) (C k).toNat:Nat):Int)=H k
    ·(refine wx ?_;repeat' (first|with_reducible refine And.intro ?_ ?_|intro hsp))
     all_goals first|(exfalso;exact absurd hs (by assumption))|skip
     all_goals exact D6 (k+1) [] ⟨by omega,fun j hj=>if e:j=k then by rw [e];exact ⟨hin.1,hin.2,hs⟩ else h0 j (by omega)⟩ (by first|omega|(dsimp only;omega)) rfl (by exact O4)
    ·rw [if_neg fun h=>hs (h k hk7).2.2]
     (refine wx ?_;repeat' (first|with_reducible refine And.intro ?_ ?_|intro hsp))
     all_goals first|exact AG7 rfl|(exfalso;exact hs (by assumption))
   ·rw [if_neg fun h=>hin ⟨(h k hk7).1,(h k hk7).2.1⟩]
    (refine wx ?_;repeat' (first|with_reducible refine And.intro ?_ ?_|intro hsp))
    all_goals first|exact AG7 rfl|(exfalso;omega)
  ·have hs:stOk l C H:=fun j hj=>h0 j (by omega)
   rw [if_pos hs]
   (refine wx ?_;repeat' (first|with_reducible refine And.intro ?_ ?_|intro hsp))
   all_goals exact AG7 rfl
theorem r_chkS (l:List Rl) (C H:Nat→Int):J8 125 [.agg (stA l C H)] (.int .i64 (Ap0 l C H)):=by
 have z:=r_chk l
 by_cases he:(AK4 l).2 ≠ 0
 ·have e:Ap0 l C H=(AK4 l).2:=if_pos he
  rw [e]
  generalize (AK4 l).1=i at *
  generalize (AK4 l).2=e at *
  refine J8.mk (R9 G9 b125 J3 ⟨X5,trivial⟩ A8 rfl ?_)
  unfold c125
  (refine wx ?_;repeat' (first|with_reducible refine And.intro ?_ ?_|intro hsp))
  all_goals exact AG7 rfl
 ·have e:Ap0 l C H=if stOk l C H then 0 else 6:=if_neg he
  have hz:(AK4 l).2=0:=Classical.byContradiction he
  obtain ⟨hok,hlen⟩:=BG7 (l:=l) (i:=(AK4 l).1) (by rw [← hz])
  rw [e]
  rw [hz] at z
  generalize (AK4 l).1=i at *
  refine J8.mk (R9 G9 b125 J3 ⟨X5,trivial⟩ A8 rfl ?_)
  unfold c125
  (refine wx ?_;repeat' (first|with_reducible refine And.intro ?_ ?_|intro hsp))
  (refine F9 [1] (fun (k:Nat)=>[(5,.int .i64 (k:Nat))]) (fun (k:Nat)=>⟨[(0,.cells (stA l C H))],1⟩) (fun (k:Nat)=>k≤7∧∀ j,j < k→0≤C j∧C j≤1000000) (fun (k:Nat)=>7 - k) (0) [] rfl (fun _=>by first|exact Nat.zero_le _|(dsimp only;omega)) ?_ (by ((try (conv=>whnf));exact O4)) ?_)
  ·exact ⟨Nat.zero_le _,fun k hk=>by omega⟩
  rintro k ⟨hk,h0⟩
  by_cases hk7:k < 7
  ·have hC:=AQ1 (l:=l) (C:=C) (H:=H) hk7
   by_cases hin:0≤C k∧C k≤1000000
   ·(refine wr ?_;repeat' (first|with_reducible refine And.intro ?_ ?_|intro hsp))
    all_goals first|(exfalso;omega)|skip
    all_goals exact D6 (k+1) [] ⟨by omega,fun j hj=>if e:j=k then by rw [e];exact hin else h0 j (by omega)⟩ (by first|omega|(dsimp only;omega)) rfl (by exact O4)
   ·rw [if_neg fun h=>hin ⟨(h k hk7).1,(h k hk7).2.1⟩]
    (refine wr ?_;repeat' (first|with_reducible refine And.intro ?_ ?_|intro hsp))
    all_goals first|exact AG7 rfl|(exfalso;omega)
  have hall:∀ j,j < 7→0≤C j∧C j≤1000000:=fun j hj=>h0 j (by omega)
  (refine wr ?_;repeat' (first|with_reducible refine And.intro ?_ ?_|intro hsp))
  (refine F9 [1] (fun (k:Nat)=>[(6,.int .i64 (k:Nat))]) (fun (k:Nat)=>⟨[(0,.cells (stA l C H))],1⟩) (fun (k:Nat)=>k≤7∧∀ j,j < k→okK l C H j) (fun (k:Nat)=>7 - k) (0) [] rfl (fun _=>by first|exact Nat.zero_le _|(dsimp only;omega)) ?_ (by ((try (conv=>whnf));exact O4)) ?_)
  ·exact ⟨Nat.zero_le _,fun k hk=>by omega⟩
  rintro k ⟨hk,h0⟩
  by_cases hk7:k < 7
  ·have hC:=AQ1 (l:=l) (C:=C) (H:=H) hk7
   have hH:=Au9 (l:=l) (C:=C) (H:=H) hk7
   have hin:=hall k hk7
   have z2:=r_hits (k:=(k:Nat)) hok (C k).toNat (by omega) (by omega)
   rw [show (((C k).toNat:Nat):Int)=C k by omega] at z2
   by_cases hs:((cnt l (k:Nat) (C k).toNat:Nat):Int)=H k
   ·(refine wr ?_;repeat' (first|with_reducible refine And.intro ?_ ?_|intro hsp))
    all_goals first|(exfalso;omega)|skip
    all_goals exact D6 (k+1) [] ⟨by omega,fun j hj=>if e:j=k then by rw [e];exact ⟨hin.1,hin.2,hs⟩ else h0 j (by omega)⟩ (by first|omega|(dsimp only;omega)) rfl (by exact O4)
   ·rw [if_neg fun h=>hs (h k hk7).2.2]
    (refine wr ?_;repeat' (first|with_reducible refine And.intro ?_ ?_|intro hsp))
    all_goals first|exact AG7 rfl|(exfalso;omega)
  ·have hs:stOk l C H:=fun j hj=>h0 j (by omega)
   rw [if_pos hs]
   (refine wr ?_;repeat' (first|with_reducible refine And.intro ?_ ?_|intro hsp))
   all_goals exact AG7 rfl
end
theorem wn {p q:Prop} (hq:q) (h:Y3 q→p:=by (intro hQz;((repeat' ((try (conv=>whnf));first|(with_reducible first|refine P6 ?_|refine K4 ?_|refine P9 ?_|refine Q5 ?_|refine K9 ?_|refine U9 ?_|refine O9 ?_|refine U8 rfl ?_|refine P5 ?_|refine I5 ?_|refine K7 ?_|refine K8 ?_|refine Q0 ?_|refine I4 ?_|refine K5 (by decide +kernel) ?_|refine J6 (by decide +kernel) ?_|refine AG2 ?_|refine AG3 ?_|refine Aj5 ?_|refine r9 ?_|refine AI4 ?_|refine Ag9 (by assumption) ?_|refine Ah0 (by assumption) ?_|refine p9 (by omega) ?_|refine AI2 ?_)|((with_reducible refine AI5 ?_ ?_);focus omega)|((with_reducible refine AI6 ?_ ?_);focus omega)|((with_reducible apply U1 hQz)<;>(try intro hsp hQz))|((with_reducible refine Aj3 ?_ ?_);focus (first|omega|rfl|assumption|decide|(simp only [List.length_map,List.length_cons,List.length_nil];omega)))|(with_reducible first|refine AH9 ?_|refine p8 ?_|refine o9 ?_|refine AI1 ?_|refine AI0 ?_|refine AH7 ?_|refine Aj0 ?_|refine I6 ?_|refine l9 ?_|refine P8 ?_|refine P7 ?_|refine I7 ?_|refine AH8 (by omega) ?_|refine o8 (by omega) ?_)|refine C8 (by with_reducible assumption) ?_|refine AE7 (by with_reducible assumption) ?_|refine H8 (by first|(rw [Z6];omega)|(simp;omega)) (by with_reducible assumption) ?_|(with_reducible first|refine AC6 ?_|refine Aq9.mk (by kernel_rfl) ?_|refine AD6 rfl ?_|refine AC8 (by decide +kernel) ?_|refine AC7 rfl ?_)|refine M0 (by assumption) ?_|refine R5 (by assumption) ?_|refine V5 (by assumption) ?_|refine M0 (k_in _ _ _) ?_|refine V5 (k_in _ _ _) ?_|refine R5 (k_in _ _ _) ?_|refine I6 ?_|refine I7 ?_|refine AP6 rfl rfl ?_|refine l6 ?_|refine V8 rfl ?_|refine AP7 rfl ?_|refine AP3 rfl ?_|refine AD5 rfl ?_|refine S9 ?_|refine Au3.mk ?_|((with_reducible apply U2 hQz)<;>(try intro hsp hQz))|exact hQz.out))<;>(try (conv=>whnf))))):p:=h ⟨hq⟩
section
variable {l:List Rl} {C H:Nat→Int}
theorem k_nextS (hv:Ap0 l C H=0) {k:Nat} (hk:k < 7) (hC:C k < 1000000):J8 124 [.agg (stA l C H),.int .i64 (k:Nat)] (.tup [.agg (stA l (F4 C k (C k+1)) (if AW4 l (k:Nat) (C k+1) then F4 H k (H k+1) else H)),.bool (AW4 l (k:Nat) (C k+1)),.int .i64 0]):=by
 obtain ⟨hok,hlen,hst⟩:=AX6 hv
 have hkk:=hst k hk
 have hcl:=BW5 (l:=l) (k:=(k:Nat)) (C k).toNat
 obtain ⟨g1,g2,g3⟩:=hkk
 have z:=k_chkS l C H
 rw [hv] at z
 have z1:=k_refused (k:=(k:Nat)) (n:=C k+1) hok (by omega) (by omega)
 have hg:=AQ1 (l:=l) (C:=C) (H:=H) hk
 have hg2:=AQ1 (l:=l) (C:=F4 C k (C k+1)) (H:=H) hk
 have hgu:F4 C k (C k+1) k=C k+1:=by simp [F4]
 rw [hgu] at hg2
 have hgh:=Au9 (l:=l) (C:=F4 C k (C k+1)) (H:=H) hk
 have hs1:=st_setC (l:=l) (C:=C) (H:=H) (v:=C k+1) hk
 have hs2:=st_setH (l:=l) (C:=F4 C k (C k+1)) (H:=H) (v:=H k+1) hk
 have z9:=Aw3 (l:=l) (by omega)
 have ug:=hg
 have ug2:=hg2
 have ugh:=hgh
 have us1:=hs1
 have us2:=hs2
 unfold stA at ug ug2 ugh us1 us2
 cases h1:AW4 l (k:Nat) (C k+1) with
 | true =>
  rw [h1] at z1
  rw [if_pos rfl]
  refine J8.mk (R9 G9 b124 J3 ⟨X5,A8,trivial⟩ AA0 rfl ?_)
  unfold c124
  (refine wn ?_;repeat' (first|with_reducible refine And.intro ?_ ?_|intro hsp))
  all_goals exact J4 rfl AA0
 | false =>
  rw [h1] at z1
  rw [if_neg (by simp)]
  refine J8.mk (R9 G9 b124 J3 ⟨X5,A8,trivial⟩ AA0 rfl ?_)
  unfold c124
  (refine wn ?_;repeat' (first|with_reducible refine And.intro ?_ ?_|intro hsp))
  all_goals exact J4 rfl AA0
theorem r_nextS (hv:Ap0 l C H=0) {k:Nat} (hk:k < 7) (hC:C k < 1000000):J8 111 [.agg (stA l C H),.int .i64 (k:Nat)] (.tup [.agg (stA l (F4 C k (C k+1)) (if AW4 l (k:Nat) (C k+1) then F4 H k (H k+1) else H)),.bool (AW4 l (k:Nat) (C k+1)),.int .i64 0]):=by
 obtain ⟨hok,hlen,hst⟩:=AX6 hv
 have hkk:=hst k hk
 have hcl:=BW5 (l:=l) (k:=(k:Nat)) (C k).toNat
 obtain ⟨g1,g2,g3⟩:=hkk
 have z:=r_chkS l C H
 rw [hv] at z
 have z1:=BD2 (k:=(k:Nat)) (n:=C k+1) hok (by omega) (by omega)
 have hg:=AQ1 (l:=l) (C:=C) (H:=H) hk
 have hg2:=AQ1 (l:=l) (C:=F4 C k (C k+1)) (H:=H) hk
 have hgu:F4 C k (C k+1) k=C k+1:=by simp [F4]
 rw [hgu] at hg2
 have hgh:=Au9 (l:=l) (C:=F4 C k (C k+1)) (H:=H) hk
 have hs1:=st_setC (l:=l) (C:=C) (H:=H) (v:=C k+1) hk
 have hs2:=st_setH (l:=l) (C:=F4 C k (C k+1)) (H:=H) (v:=H k+1) hk
 have z9:=Aw3 (l:=l) (by omega)
 cases h1:AW4 l (k:Nat) (C k+1) with
 | true =>
  rw [h1] at z1
  rw [if_pos rfl]
  refine J8.mk (R9 G9 b111 J3 ⟨X5,A8,trivial⟩ AA0 rfl ?_)
  unfold c111
  (refine wn ?_;repeat' (first|with_reducible refine And.intro ?_ ?_|intro hsp))
  all_goals exact J4 rfl AA0
 | false =>
  rw [h1] at z1
  rw [if_neg (by simp)]
  refine J8.mk (R9 G9 b111 J3 ⟨X5,A8,trivial⟩ AA0 rfl ?_)
  unfold c111
  (refine wn ?_;repeat' (first|with_reducible refine And.intro ?_ ?_|intro hsp))
  all_goals exact J4 rfl AA0
theorem k_nextF (hv:Ap0 l C H=0) {k:Nat} (hk:k < 7) (hC:C k=1000000):J8 124 [.agg (stA l C H),.int .i64 (k:Nat)] (.tup [.agg [.nils,.int .i64 0,.int .i64 0,.int .i64 0,.int .i64 0,.int .i64 0,.int .i64 0,.int .i64 0,.int .i64 0,.int .i64 0,.int .i64 0,.int .i64 0,.int .i64 0,.int .i64 0,.int .i64 0],.bool false,.int .i64 3]):=by
 have z:=k_chkS l C H
 rw [hv] at z
 have hg:=AQ1 (l:=l) (C:=C) (H:=H) hk
 refine J8.mk (R9 G9 b124 J3 ⟨X5,A8,trivial⟩ AE3 rfl ?_)
 unfold c124
 (refine wn ?_;repeat' (first|with_reducible refine And.intro ?_ ?_|intro hsp))
 all_goals exact J4 rfl AE3
theorem r_nextF (hv:Ap0 l C H=0) {k:Nat} (hk:k < 7) (hC:C k=1000000):J8 111 [.agg (stA l C H),.int .i64 (k:Nat)] (.tup [.agg [.nils,.int .i64 0,.int .i64 0,.int .i64 0,.int .i64 0,.int .i64 0,.int .i64 0,.int .i64 0,.int .i64 0,.int .i64 0,.int .i64 0,.int .i64 0,.int .i64 0,.int .i64 0,.int .i64 0],.bool false,.int .i64 3]):=by
 have z:=r_chkS l C H
 rw [hv] at z
 have hg:=AQ1 (l:=l) (C:=C) (H:=H) hk
 refine J8.mk (R9 G9 b111 J3 ⟨X5,A8,trivial⟩ AE3 rfl ?_)
 unfold c111
 (refine wn ?_;repeat' (first|with_reducible refine And.intro ?_ ?_|intro hsp))
 all_goals exact J4 rfl AE3
end
end Go.Proofs.YtbhgfoikbkaohaaGreat
