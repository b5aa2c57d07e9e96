/-
 The document's answer: Drop.
 The document's answer: Where.
 What a call does,of both: the same answer,and the same views.
 Read and Write of both,at any place.
 The document's book: its memory;the table's answers,for any numbers.
-/
import Derived.Test.YtphggldkligldaaGreatSnH
set_option linter.unusedSimpArgs false
set_option linter.unusedVariables false
set_option maxHeartbeats 1600000
namespace Go.Pol
open Go.Am
theorem noA_nil (a:Nat):noA a []=[]:=rfl
theorem noA_s {L:List Vw} {i a:Nat} (hi:i < L.length):noA a (L.take (i+1))=if (nth dV L i).1=a then noA a (L.take i) else noA a (L.take i)++[nth dV L i]:=by
 rw [d9 (d:=dV) hi];unfold noA;rw [List.filter_append]
 by_cases h:(nth dV L i).1=a<;>simp [h]
theorem BX5 {L:List Vw} {f:Nat}:0 < cntF L f ↔ ∃ v ∈ L,v.2.2.1=f:=by
 unfold cntF
 rw [List.length_pos_iff_exists_mem]
 constructor
 ·rintro ⟨v,hv⟩;rw [List.mem_filter,decide_eq_true_eq] at hv;exact ⟨v,hv⟩
 ·rintro ⟨v,hv,he⟩;exact ⟨v,List.mem_filter.2 ⟨hv,decide_eq_true he⟩⟩
theorem gone_iff (L:List Vw) (a f:Nat):AS9 L (ofA a L) (ofA a L).length f=true ↔ 0 < cntF L f∧cntF (noA a L) f=0:=by
 unfold AS9
 rw [BE1,List.take_length,Bool.and_eq_true,decide_eq_true_eq,decide_eq_true_eq]
 constructor
 ·rintro ⟨h1,h2⟩
  obtain ⟨v,h3,h4⟩:=List.mem_map.1 h1
  exact ⟨BX5.2 ⟨v,(R5.1 h3).1,h4⟩,h2⟩
 ·rintro ⟨h1,h2⟩
  obtain ⟨v,h3,h4⟩:=BX5.1 h1
  refine ⟨?_,h2⟩
  by_cases hv:v.1=a
  ·exact List.mem_map.2 ⟨v,R5.2 ⟨h3,hv⟩,h4⟩
  ·have : 0 < cntF (noA a L) f:=BX5.2 ⟨v,by unfold noA;exact List.mem_filter.2 ⟨h3,decide_eq_true hv⟩,h4⟩
   omega
end Go.Pol
namespace Go.Proofs.YtphggldkligldaaGreat.Sh
open Go Go.Am Go.Pol
theorem plx_Bj {p:Prop} (h:p:=by ((first|exact plw|(with_reducible first|apply O4|apply M5|apply J3|apply G8|apply F4|apply AQ8|apply AI7|apply plain_sn|fail)|fail);first|done|fail)):p:=h
theorem ppx_Bj {p:Prop} (h:p:=by ((first|with_reducible assumption|(with_reducible first|apply X9|apply K7 AA3|apply K7 AI3|fail)|exact ppw|fail);first|done|fail)):p:=h
open Go.Proofs.YtphggldkligldaaGreat.Sh renaming plx_Bj → plx
open Go.Proofs.YtphggldkligldaaGreat.Sh renaming ppx_Bj → ppx
theorem wx_Bjn {p q:Prop} (hq:q) (h:R7 q→p:=by (intro hQz;((repeat' ((try (conv=>whnf));first|refine sxA ?_|refine Z9 (d:=dV) K9 (by first|assumption|omega) (by with_reducible assumption) ?_|refine sxN ?_|refine AA2 (f:=vwC) (l2:=[u]) K9 (Y7 rfl (by first|rfl|(simp;done)|(simp [*];done))) (fun hz=>by first|(simp [lk,X4,X3 hz,G5 hz];done)|rfl) (fun hz=>by first|(simp [lk,X4,AS7,BE0 hz,j6 hz];done)|rfl) (by first|rfl|(simp [flat,vwC];done)|(simp [flat,vwC, *];done)) (by decide) ⟨by omega,by omega⟩ rfl ?_|((with_reducible apply Ag1 hQz);intro hQa hQb;refine AA1 (f:=vwC) (l2:=[u]) K9 (Y7 rfl (by first|rfl|(simp;done)|(simp [*];done))) (fun hz=>by first|(simp [lk,X4,X3 hz,G5 hz];done)|rfl) (by first|rfl|(simp [flat,vwC];done)|(simp [flat,vwC, *];done)) (by decide) ⟨by omega,by omega⟩ ?_ ?_<;>intro hzz<;>first|(have hQz:=R7.mk (hQa.out hzz))|(have hQz:=R7.mk (hQb.out hzz)))|refine sxH ?_|((with_reducible first|apply L8 hQz|apply L9 hQz)<;>(try intro hsp hQz))|exact hQz.out))<;>(try (conv=>whnf))))):p:=h ⟨hq⟩
theorem wx_Bj {p q:Prop} (hq:q) (h:R7 q→p:=by (intro hQz;((repeat' ((try (conv=>whnf));first|refine sxA ?_|refine sxF ?_|refine J5 (by assumption) ?_|refine L6 (by assumption) ?_|refine G7 (by assumption) ?_|refine AA2 (f:=BH3) (l2:=[f]) AP3 (Y7 rfl rfl) (fun hz=>by first|(simp [lk,G5 hz];done)|exact G5 hz) (fun hz=>by first|(simp [lk,j6 hz];done)|exact j6 hz) rfl (by decide) ⟨by omega,by omega⟩ rfl ?_|(refine AA1 (f:=BH3) (l2:=[f]) AP3 (Y7 rfl rfl) (fun hz=>by first|(simp [lk,G5 hz];done)|exact G5 hz) rfl (by decide) ⟨by omega,by omega⟩ ?_ ?_<;>intro hzz)|(refine O6 D9 b127 rfl ?_;unfold c127)|(refine O6 D9 b128 rfl ?_;unfold c128)|refine sxH ?_|((with_reducible first|apply L8 hQz|apply L9 hQz)<;>(try intro hsp hQz))|exact hQz.out))<;>(try (conv=>whnf))))):p:=h ⟨hq⟩
theorem plain_sn {L:List Vw} {G:List Nat} {e:Int}:Plain (.tup [.agg [.isl (L.map vwC)],.isl (G.map BH3),.int .i64 e]):=H7 fun x hx=>by
 simp only [List.mem_cons,List.not_mem_nil,or_false] at hx
 rcases hx with rfl|rfl|rfl
 ·exact G8
 ·exact z8
 ·exact A8
theorem BK6 {L:List Vw} {e:Int}:Plain (.tup [.agg [.isl (L.map vwC)],.nils,.int .i64 e]):=H7 fun x hx=>by
 simp only [List.mem_cons,List.not_mem_nil,or_false] at hx
 rcases hx with rfl|rfl|rfl
 ·exact G8
 ·exact AA6
 ·exact A8
theorem not3 {x y z:AObj}:∀ j o,lk (Hp.l ⟨[(0,x),(1,y),(2,z)]++AE8 4 BH3 [],5⟩) j=some o→rn [] j ≠ 3:=fun j o hj=>by
 show j ≠ 3
 rw [AT7 rfl] at hj
 simp only [List.append_nil,lk] at hj
 repeat' split at hj
 all_goals first|omega|cases hj
section
variable {L:List Vw}
theorem q_Drop_no (a:Int) (hn:¬ inR 64 a):E5 157 [.agg [.isl (L.map vwC)],.int .i64 a] (.tup [.agg [.isl (L.map vwC)],.nils,.int .i64 7]):=by
 refine E5.mk (I5 D9 b157 F3 ⟨G8,A8,trivial⟩ BK6 rfl ?_)
 unfold c157
 unfold inR at hn
 (refine wx_Bj ?_;repeat' (first|with_reducible refine And.intro ?_ ?_|intro hsp))
 all_goals first|exact F6 rfl BK6|(exfalso;omega)
theorem q_Drop {a:Nat} (ha:a < 64) (hl:L.length≤2000):E5 157 [.agg [.isl (L.map vwC)],.int .i64 (a:Nat)] (.tup [.agg [.isl ((noA a L).map vwC)],.isl ((AF7 L a).map BH3),.int .i64 0]):=by
 refine E5.mk (I5 D9 b157 F3 ⟨G8,A8,trivial⟩ plain_sn rfl ?_)
 unfold c157
 (refine wx_Bj ?_;repeat' (first|with_reducible refine And.intro ?_ ?_|intro hsp))
 (refine H9 [1,2,4,7] (fun (i:Nat)=>[(8,.int .i64 (i:Nat))]) (fun (i:Nat)=>⟨[(0,.cells [.isl (L.map vwC)]),(1,.cells [.nils]),(2,.cells [AN9 3 4 (noA a (L.take i)).length])]++AE8 3 vwC (noA a (L.take i)),4⟩) (fun (i:Nat)=>i≤L.length) (fun (i:Nat)=>L.length - i) (0) [] rfl (fun _=>by first|exact Nat.zero_le _|(dsimp only;omega)) ?_ (by ((try (conv=>whnf));(rw [List.take_zero,noA_nil]);exact wkxQ9)) ?_)
 ·exact Nat.zero_le _
 intro i hi
 have hnl:(noA a (L.take i)).length≤i:=Nat.le_trans (List.length_filter_le ..) (by rw [List.length_take];omega)
 by_cases hil:i < L.length
 ·have hs:=noA_s (a:=a) hil
  generalize hx:nth dV L i=u at *
  by_cases hu:u.1=a
  ·rw [if_pos hu] at hs
   (refine wx_Bjn ?_;repeat' (first|with_reducible refine And.intro ?_ ?_|intro hsp))
   all_goals exact D8 (i+1) [] (by (try dsimp only);omega) (by first|omega|(dsimp only;omega)) rfl (by ((try dsimp only);rw [hs]);exact wkxQ9)
  ·rw [if_neg hu] at hs
   (refine wx_Bjn ?_;repeat' (first|with_reducible refine And.intro ?_ ?_|intro hsp))
   all_goals exact D8 (i+1) [(3,12)] (by (try dsimp only);omega) (by first|omega|(dsimp only;omega)) rfl (by ((try dsimp only);rw [hs]);exact wkxQ9)
 ·obtain rfl:i=L.length:=by omega
  rw [List.take_length] at hnl ⊢
  (refine wx_Bj ?_;repeat' (first|with_reducible refine And.intro ?_ ?_|intro hsp))
  have hg:=gone_iff L a
  have hgoal:AF7 L a=AZ4 (AS9 L (ofA a L) (ofA a L).length) 1024:=rfl
  rw [hgoal]
  generalize AS9 L (ofA a L) (ofA a L).length=g at *
  (refine H9 [2,4,7] (fun (f:Nat)=>[(9,AN9 4 1 (AZ4 g f).length),(10,.int .i64 (f:Nat))]) (fun (f:Nat)=>⟨[(0,.cells [.isl (L.map vwC)]),(1,.cells [.nils]),(2,.cells [.isl ((noA a L).map vwC)])]++AE8 4 BH3 (AZ4 g f),5⟩) (fun (f:Nat)=>f≤1024) (fun (f:Nat)=>1024 - f) (0) [] rfl (fun _=>by first|exact Nat.zero_le _|(dsimp only;omega)) ?_ (by ((try (conv=>whnf));(rw [BV8]);exact wkxQ10)) ?_)
  ·exact Nat.zero_le _
  intro f hf
  have hgf:=An4 g f
  by_cases hf2:f < 1024
  ·have n1:=Ar2 (L:=L) (f:Nat) (by omega)
   have n2:=Ar2 (L:=noA a L) (f:Nat) (by omega)
   rw [Ao3] at n1 n2
   have hgs:=BV7 g f
   have hgi:=hg f
   generalize cntF L f=x1 at *
   generalize cntF (noA a L) f=x2 at *
   cases hb:g f
   ·rw [hb,if_neg (by simp)] at hgs
    rw [hb] at hgi
    have hno:¬ (0 < x1∧x2=0):=fun h=>by have:=hgi.2 h;cases this
    (refine wx_Bj ?_;repeat' (first|with_reducible refine And.intro ?_ ?_|intro hsp))
    all_goals first|exact D8 (f+1) [] (by (try dsimp only);omega) (by first|omega|(dsimp only;omega)) rfl (by ((try dsimp only);rw [hgs]);exact wkxQ10)|(exfalso;omega)
   ·rw [hb,if_pos rfl] at hgs
    rw [hb] at hgi
    have hyes:=hgi.1 rfl
    (refine wx_Bj ?_;repeat' (first|with_reducible refine And.intro ?_ ?_|intro hsp))
    all_goals first|exact D8 (f+1) [(4,6)] (by (try dsimp only);omega) (by first|omega|(dsimp only;omega)) rfl (by ((try dsimp only);rw [hgs]);exact wkxQ10)|(exfalso;omega)
  ·obtain rfl:f=1024:=by omega
   (refine wx_Bj ?_;repeat' (first|with_reducible refine And.intro ?_ ?_|intro hsp))
   exact AG0 (AH0 (C8 (M8 AX3 G8) (C8 (wk_frzO AP3 AI3 fun hz=>by simp [lk,G5 hz]) (C8 (K8 rfl) F8))))
end
end Go.Proofs.YtphggldkligldaaGreat.Sh
namespace Go.Proofs.YtphggldkligldaaGreat.Sh
open Go Go.Am Go.Pol
theorem wx_Bw {p q:Prop} (hq:q) (h:R7 q→p:=by (intro hQz;((repeat' ((try (conv=>whnf));first|refine sxA ?_|refine AC0 (by with_reducible assumption) ?_|refine el_vw (by first|assumption|omega) (by with_reducible assumption) ?_|refine sxF ?_|(refine O6 D9 b127 rfl ?_;unfold c127)|refine G7 (by assumption) ?_|refine J5 (by assumption) ?_|refine sxH ?_|((with_reducible first|apply L8 hQz|apply L9 hQz)<;>(try intro hsp hQz))|exact hQz.out))<;>(try (conv=>whnf))))):p:=h ⟨hq⟩
section
variable {L A B:List Vw} {v:Vw}
theorem q_Where {at_:Nat} (hv1:v.1 < 64) (hat:at_ < 65536) (hk:v.2.1=at_ / 64) {w:Bool} (hw:w=true→v.2.2.2=true) (hL:L=A++v::B) (hA:∀ u ∈ A,¬ atV (v.1,at_ / 64) u) (hf4:v.2.2.1 < 1024) (hl:L.length≤4000):E5 134 [.agg [.isl (L.map vwC)],.int .i64 (v.1:Nat),.int .i64 (at_:Nat),.bool w] (.tup [.int .i64 ((v.2.2.1 * 64+at_ % 64:Nat):Int),.int .i64 0]):=by
 have hq:=q64 (t:=at_) (by omega)
 have hr:=m64 (t:=at_)
 have hf:=q_find v.1 (at_ / 64) hL hA ⟨rfl,hk⟩ hl
 have hle:A.length < L.length:=by rw [hL];simp
 have hx:nth dV L A.length=v:=by rw [hL,Ar9]
 rw [show ((v.2.2.1 * 64+at_ % 64:Nat):Int)=(v.2.2.1:Int) * 64+((at_ % 64:Nat):Int) by omega]
 obtain ⟨va,vk,vf,vw⟩:=v
 dsimp only at *
 cases w<;>cases vw
 all_goals try (exfalso;simp at hw;done)
 all_goals refine E5.mk (I5 D9 b134 F3 ⟨G8,A8,A8,A9,trivial⟩ F4 rfl ?_)
 all_goals unfold c134
 all_goals (refine wx_Bw ?_;repeat' (first|with_reducible refine And.intro ?_ ?_|intro hsp))
 all_goals first|exact F6 rfl F4|(exfalso;omega)
theorem q_Where_ro {at_:Nat} (hv1:v.1 < 64) (hat:at_ < 65536) (hk:v.2.1=at_ / 64) (hw:v.2.2.2=false) (hL:L=A++v::B) (hA:∀ u ∈ A,¬ atV (v.1,at_ / 64) u) (hf4:v.2.2.1 < 1024) (hl:L.length≤4000):E5 134 [.agg [.isl (L.map vwC)],.int .i64 (v.1:Nat),.int .i64 (at_:Nat),.bool true] (.tup [.int .i64 0,.int .i64 220]):=by
 have hq:=q64 (t:=at_) (by omega)
 have hr:=m64 (t:=at_)
 have hf:=q_find v.1 (at_ / 64) hL hA ⟨rfl,hk⟩ hl
 have hle:A.length < L.length:=by rw [hL];simp
 have hx:nth dV L A.length=v:=by rw [hL,Ar9]
 obtain ⟨va,vk,vf,vw⟩:=v
 dsimp only at *
 subst hw
 all_goals refine E5.mk (I5 D9 b134 F3 ⟨G8,A8,A8,A9,trivial⟩ F4 rfl ?_)
 all_goals unfold c134
 all_goals (refine wx_Bw ?_;repeat' (first|with_reducible refine And.intro ?_ ?_|intro hsp))
 all_goals first|exact F6 rfl F4|(exfalso;omega)
end
end Go.Proofs.YtphggldkligldaaGreat.Sh
namespace Go.Proofs.YtphggldkligldaaGreat.Sh
open Go Go.Am Go.Pol
def stA (L:List Vw):AV:=.agg [.isl (L.map vwC)]
section
variable {L:List Vw} {t:TS}
theorem TOk.split (h:TOk L t) (a k:Nat):(∃ A v B,L=A++v::B∧v.1=a∧v.2.1=k∧∀ w ∈ A,¬ atV (a,k) w)∨∀ w ∈ L,¬ atV (a,k) w:=by
 by_cases hx:∃ v ∈ L,atV (a,k) v
 ·obtain ⟨v,hv,h1,h2⟩:=hx
  obtain ⟨A,B,hL⟩:=List.append_of_mem hv
  have hs:=h.srt
  rw [hL] at hs
  refine .inl ⟨A,v,B,hL,h1,h2,fun w hw ha=>(Al0 hs).1 w hw ?_⟩
  dsimp only at h1 h2
  rw [h1,h2];exact ha
 ·exact .inr fun w hw ha=>hx ⟨w,hw,ha⟩
end
end Go.Proofs.YtphggldkligldaaGreat.Sh
namespace Go.Proofs.YtphggldkligldaaGreat.Sh
open Go Go.Am Go.Pol
theorem u6 {L:List Vw}:Plain (stA L):=P9 fun x hx=>by obtain rfl:=List.mem_singleton.1 hx;exact J3
structure LocU (f:Nat) (L:List Vw) (avs:List AV) (s:Sy) (r:AV) (s':Sy):Prop where
 out:AT8 Tryz.prog G0 f (stA L :: .ptr 0 0::avs) [(0,.cells s.b)] 1 fun x h1=>x=r∧h1=⟨[(0,.cells s'.b)],1⟩
 pa:∀ x ∈ avs,Plain x
 pr:Plain r
theorem cx_u {f:Nat} {L:List Vw} {avs:List AV} {s s':Sy} {a nx:Nat} {l:List (Nat × AObj)} {r:AV} {K:AV→Hp→Prop} (hc:LocU f L avs s r s')
  (hl0:lk l a=some (.cells s.b)) (hlt:a < nx)
  (hk:AJ5 [a] l fun l2=>K r ⟨[(a,.cells s'.b)]++l2,nx⟩):AG9 Tryz.prog G0 (.fn f [] []) (stA L :: .ptr a 0::avs) ⟨l,nx⟩ K:=by
 have e0:enter [a] a 0:=rfl
 have k0:back [a] nx 0 a:=rfl
 refine AG2 (l1:=[(a,.cells s'.b)]) [a] hc.out F3 rfl (.cons e0 hl0 (D5 H8) .nil)
  ?_ (by intro x hx;simp only [List.mem_cons,List.not_mem_nil,or_false] at hx;omega) (C9 hc.pr)
  (.cons k0 (D5 H8) .nil) hk
 simp only [List.nil_append,List.append_nil]
 exact ⟨C9 u6,F9 e0,D5 hc.pa⟩
theorem dcx_u {f:Nat} {L:List Vw} {avs:List AV} {s s':Sy} {a:Nat} {h:Hp} {r:AV} {K:AV→Up→List Nat→Prop} (hc:LocU f L avs s r s')
  (hl0:lk h.l a=some (.cells s.b)) (hnx:[a].contains h.next=false)
  (hk:K r [(a,some (.cells s'.b))] [a]):AP8 Tryz.prog G0 f (stA L :: .ptr a 0::avs) h K:=by
 have hnx:h.next ∉ [a]:=fun hm=>by rw [List.contains_eq_mem,decide_eq_false_iff_not] at hnx;exact hnx hm
 have e0:enter [a] a 0:=rfl
 have k0:S9 [a] 0 a:=rfl
 refine Ab3 (l1:=[(a,.cells s'.b)]) [a] hc.out F3 rfl (.cons e0 hl0 (D5 H8) .nil) hnx ?_ ?_ ⟨C9 u6,F9 e0,D5 hc.pa⟩ (C9 hc.pr)
  (.cons k0 (D5 H8) .nil) hk
 ·intro x hx
  obtain rfl:=List.mem_singleton.1 hx
  exact ⟨.cells s'.b,if_pos rfl⟩
 ·intro j n hj
  cases j with
  | zero=>exact ⟨_,rfl⟩
  | succ j=>simp at hj
section
variable {L:List Vw} {t:TS} {s:Sy}
end
end Go.Proofs.YtphggldkligldaaGreat.Sh
namespace Go.Proofs.YtphggldkligldaaGreat.Sh
open Go Go.Am Go.Pol
theorem wx_Pa {p q:Prop} (hq:q) (h:R7 q→p:=by (intro hQz;((repeat' ((try (conv=>whnf));first|refine sxA ?_|refine sxF ?_|refine G7 (by assumption) ?_|refine K5 (by assumption) rfl (by decide) ?_|refine sxH ?_|((with_reducible first|apply L8 hQz|apply L9 hQz)<;>(try intro hsp hQz))|exact hQz.out))<;>(try (conv=>whnf))))):p:=h ⟨hq⟩
def bdN (q:Bk) (o g:Nat):List (Nat × AObj):=[(o,.cells [.ptr g 0,.int .i64 (q.a:Nat),.int .i64 (q.n:Nat),.isl (q.L.map vwC)]),(g,.cells q.s.b)]
structure AK3 (f:Nat) (avs:List AV) (q:Bk) (r:AV) (q':Bk):Prop where
 out:AT8 Tryz.prog G0 f (.ptr 0 0::avs) (bdN q 0 1) 2 fun x h1=>x=r∧h1=⟨bdN q' 0 1,2⟩
 pa:∀ x ∈ avs,Plain x
 pr:Plain r
theorem end_WV {top:Bool} {h:Hp} {N0:Nat} {x r:AV} {q:Bk} (hr:AG8 (rn []) h ⟨bdN q 0 1,2⟩→WkV Tryz.prog (rn []) h ⟨bdN q 0 1,2⟩ x r) (h0:lk h.l 0=some (.cells [.ptr 1 0,.int .i64 (q.a:Nat),.int .i64 (q.n:Nat),.isl (q.L.map vwC)])) (h1:lk h.l 1=some (.cells q.s.b)) (hN0:N0≤2:=by decide) :
  AU3 top Tryz.prog N0 h x (fun r' h'=>r'=r∧h'=⟨bdN q 0 1,2⟩):=by
 have hs:AG8 (rn []) h ⟨bdN q 0 1,2⟩:=fun i o hi=>by
  simp only [bdN,lk] at hi
  show ∃ o',lk h.l i=some o'
  split at hi
  ·rename_i e;subst e;exact ⟨_,h0⟩
  ·split at hi
   ·rename_i e;subst e;exact ⟨_,h1⟩
   ·cases hi
 refine AA0 [] rfl hN0 (P6 rfl) (hr hs) ?_ ⟨rfl,rfl⟩
 exact I4 (show 0 < 2 by decide) h0 (C8 (R4 (i:=1) rfl (show 1 < 2 by decide)) (C8 (K8 rfl) (C8 (K8 rfl) (C8 (M8 hs J3) F8)))) (F5 hs (show 1 < 2 by decide) h1 rfl H8 J8)
theorem AB4 {top:Bool} {h:Hp} {N0:Nat} {x r:AV} {q:Bk} (hx:x=r) (hp:Plain r) (h0:lk h.l 0=some (.cells [.ptr 1 0,.int .i64 (q.a:Nat),.int .i64 (q.n:Nat),.isl (q.L.map vwC)])) (h1:lk h.l 1=some (.cells q.s.b)) (hN0:N0≤2:=by decide) :
  AU3 top Tryz.prog N0 h x (fun r' h'=>r'=r∧h'=⟨bdN q 0 1,2⟩):=by
 subst hx
 exact end_WV (fun hs=>M8 hs hp) h0 h1 hN0
theorem BQ7 {f:Nat} {avs:List AV} {q q':Bk} {r:AV} {o g nx:Nat} {l:List (Nat × AObj)} {K:AV→Hp→Prop} (hc:AK3 f avs q r q')
  (h0:lk l o=some (.cells [.ptr g 0,.int .i64 (q.a:Nat),.int .i64 (q.n:Nat),.isl (q.L.map vwC)])) (h1:lk l g=some (.cells q.s.b))
  (hlt:o < nx∧g < nx) (hd:Aa8 [o,g]=true)
  (hk:AJ5 [o,g] l fun l2=>K r ⟨([(o,.cells [.ptr g 0,.int .i64 (q'.a:Nat),.int .i64 (q'.n:Nat),.isl (q'.L.map vwC)]),(g,.cells q'.s.b)]:List (Nat × AObj))++l2,nx⟩):AG9 Tryz.prog G0 (.fn f [] []) (.ptr o 0::avs) ⟨l,nx⟩ K:=by
 have e0:enter [o,g] o 0:=rfl
 have e1:enter [o,g] g 1:=rfl
 have k0:back [o,g] nx 0 o:=rfl
 have k1:back [o,g] nx 1 g:=rfl
 refine AG2 (l1:=bdN q' o g) [o,g] hc.out F3 hd
  (.cons e0 h0 ⟨F9 e1,C9 A8,C9 A8,C9 J3,trivial⟩ (.cons e1 h1 (D5 H8) .nil))
  ?_ (by intro x hx;simp only [List.mem_cons,List.not_mem_nil,or_false] at hx;omega) (C9 hc.pr)
  (.cons k0 ⟨F9 k1,C9 A8,C9 A8,C9 J3,trivial⟩ (.cons k1 (D5 H8) .nil)) hk
 simp only [List.nil_append,List.append_nil]
 exact ⟨F9 e0,D5 hc.pa⟩
section
variable {L:List Vw}
theorem Ag0 {a k:Nat} (hs:Go.Pol.srt L) {v:Vw} (hf:AO1 L a k=some v):∃ A B,L=A++v::B∧(∀ w ∈ A,¬ atV (v.1,v.2.1) w)∧v.1=a∧v.2.1=k:=by
 obtain ⟨hv,e1,e2⟩:=AF8 hf
 obtain ⟨A,B,hL⟩:=List.append_of_mem hv
 rw [hL] at hs
 exact ⟨A,B,hL,(Al0 hs).1,e1,e2⟩
theorem Aa3 {a k:Int} (hi:inR 64 a∧inR 1024 k) (hl:L.length≤2000) (hf:AO1 L a.toNat k.toNat=none):E5 57 [stA L,.int .i64 a,.int .i64 k] (.tup [.agg [.int .i64 0,.int .i64 0,.int .i64 0,.bool false],.int .i64 4]):=by
 obtain ⟨⟨a1,a2⟩,k1,k2⟩:=hi
 have:=q_Find_bad (by decide:(4:Int) ≠ 0) (Ar0 (a:=a.toNat) (k:=k.toNat) (by omega) (by omega) (AL0 hf) (by omega))
 rwa [Int.toNat_of_nonneg a1,Int.toNat_of_nonneg k1] at this
theorem v_Find {a k:Int} (hs:Go.Pol.srt L) (hi:inR 64 a∧inR 1024 k) (hl:L.length≤2000) {v:Vw} (hf:AO1 L a.toNat k.toNat=some v):E5 57 [stA L,.int .i64 a,.int .i64 k] (.tup [.agg [.int .i64 a,.int .i64 k,.int .i64 (v.2.2.1:Nat),.bool v.2.2.2],.int .i64 0]):=by
 obtain ⟨⟨a1,a2⟩,k1,k2⟩:=hi
 obtain ⟨A,B,hL,hA,e1,e2⟩:=Ag0 hs hf
 rw [e1,e2] at hA
 have:=q_Find (a:=a.toNat) (k:=k.toNat) (by omega) (by omega) hL hA ⟨e1,e2⟩ (by omega)
 unfold vwC at this
 rwa [e1,e2,Int.toNat_of_nonneg a1,Int.toNat_of_nonneg k1] at this
theorem v_Count {f:Nat} (hf:f < 1024) (hl:L.length≤2000):E5 132 [stA L,.int .i64 (f:Nat)] (.tup [.int .i64 (cntF L f:Nat),.int .i64 0]):=by
 have:=q_Count (L:=L) (f:Nat) (by omega)
 rwa [if_pos (Al9 hf),if_pos (Al9 hf),Ao3] at this
theorem v_Map {a k:Int} {f:Nat} (hi:inR 64 a∧inR 1024 k) (hf4:f < 1024) (hf:AO1 L a.toNat k.toNat=none) (hl:L.length < 2000):E5 60 [stA L,.agg [.int .i64 a,.int .i64 k,.int .i64 (f:Nat),.bool true]] (.tup [stA (AZ2 (a.toNat,k.toNat,f,true) L),.int .i64 0]):=by
 obtain ⟨⟨a1,a2⟩,k1,k2⟩:=hi
 have:=q_Map (v:=(a.toNat,k.toNat,f,true)) ⟨(by omega:a.toNat < 64),(by omega:k.toNat < 1024),hf4⟩ (AL0 hf) hl
 dsimp only at this
 rwa [Int.toNat_of_nonneg a1,Int.toNat_of_nonneg k1] at this
theorem BI0 {a k:Int} (hi:inR 64 a∧inR 1024 k) (hl:L.length≤2000) (hf:AO1 L a.toNat k.toNat=none):E5 155 [stA L,.int .i64 a,.int .i64 k] (.tup [stA L,.int .i64 0,.int .i64 0,.int .i64 4]):=by
 obtain ⟨⟨a1,a2⟩,k1,k2⟩:=hi
 have:=BT3 (by decide:(4:Int) ≠ 0) (Ar0 (a:=a.toNat) (k:=k.toNat) (by omega) (by omega) (AL0 hf) (by omega))
 rwa [Int.toNat_of_nonneg a1,Int.toNat_of_nonneg k1] at this
theorem v_Unmap {a k:Int} (hs:Go.Pol.srt L) (hi:inR 64 a∧inR 1024 k) (hl:L.length≤2000) {v:Vw} (hf:AO1 L a.toNat k.toNat=some v):E5 155 [stA L,.int .i64 a,.int .i64 k] (.tup [stA (Aw4 L a.toNat k.toNat),.int .i64 (v.2.2.1:Nat),.int .i64 (cntF (Aw4 L a.toNat k.toNat) v.2.2.1:Nat),.int .i64 0]):=by
 obtain ⟨⟨a1,a2⟩,k1,k2⟩:=hi
 obtain ⟨A,B,hL,hA,e1,e2⟩:=Ag0 hs hf
 have hd:Aw4 L a.toNat k.toNat=A++B:=by rw [hL] at hs ⊢;rw [← e1,← e2,BO2 hs]
 have:=q_Unmap (v:=v) ⟨by omega,by omega⟩ hL hA hl
 rw [hd]
 rwa [e1,e2,Int.toNat_of_nonneg a1,Int.toNat_of_nonneg k1] at this
theorem v_Protect {a k:Int} (hs:Go.Pol.srt L) (hi:inR 64 a∧inR 1024 k) (hl:L.length≤2000) {v:Vw} (hf:AO1 L a.toNat k.toNat=some v) (w:Bool):E5 63 [stA L,.int .i64 a,.int .i64 k,.bool w] (.tup [stA (AR5 (prV w) a.toNat k.toNat L),.int .i64 0]):=by
 obtain ⟨⟨a1,a2⟩,k1,k2⟩:=hi
 obtain ⟨A,B,hL,hA,e1,e2⟩:=Ag0 hs hf
 have hd:AR5 (prV w) a.toNat k.toNat L=A++prV w v::B:=by rw [hL] at hs ⊢;rw [← e1,← e2,Ac5 hs]
 have:=q_Protect (v:=v) w ⟨by omega,by omega⟩ hL hA hl
 rw [hd]
 rwa [e1,e2,Int.toNat_of_nonneg a1,Int.toNat_of_nonneg k1] at this
theorem v_Split {a k:Int} (hs:Go.Pol.srt L) (hi:inR 64 a∧inR 1024 k) (hl:L.length≤2000) {v:Vw} (hf:AO1 L a.toNat k.toNat=some v) {f:Nat} (hf4:f < 1024) (hc:cntF L f=0):E5 65 [stA L,.int .i64 a,.int .i64 k,.int .i64 (f:Nat)] (.tup [stA (AR5 (frV f) a.toNat k.toNat L),.int .i64 0]):=by
 obtain ⟨⟨a1,a2⟩,k1,k2⟩:=hi
 obtain ⟨A,B,hL,hA,e1,e2⟩:=Ag0 hs hf
 have hd:AR5 (frV f) a.toNat k.toNat L=A++frV f v::B:=by rw [hL] at hs ⊢;rw [← e1,← e2,Ac5 hs]
 have:=q_Split (v:=v) ⟨by omega,by omega⟩ hf4 hL hA hl hc
 rw [hd]
 rwa [e1,e2,Int.toNat_of_nonneg a1,Int.toNat_of_nonneg k1] at this
theorem v_Fork {q:Bk} (hs:Go.Pol.srt q.L) (hl:q.L.length≤2000) (a b:Int):E5 61 [stA q.L,.int .i64 a,.int .i64 b] (.tup [stA (q.take a b).2.2.L,.int .i64 (q.take a b).1,.int .i64 (q.take a b).2.1]):=by
 unfold Bk.take
 by_cases hr:inR 64 a∧inR 64 b
 ·rw [if_neg (by rw [Classical.not_not];exact hr)]
  obtain ⟨a',rfl,ha⟩:=AH3 hr.1
  obtain ⟨b',rfl,hb⟩:=AH3 hr.2
  have ha':a' < 64:=by omega
  have hb':b' < 64:=by omega
  rw [Int.toNat_natCast,Int.toNat_natCast]
  by_cases hab:a'=b'
  ·rw [if_pos (by rw [hab])]
   exact Ah9 ha' hb' hl (.inl ⟨rfl,hab⟩)
  ·rw [if_neg (by omega)]
   by_cases hB:(ofA b' q.L).length=0
   ·rw [if_neg (by rw [Classical.not_not];exact hB)]
    by_cases hf:2000 < q.L.length+(ofA a' q.L).length
    ·rw [if_pos hf]
     exact Ah9 ha' hb' hl (.inr (.inr ⟨rfl,hab,hB,hf⟩))
    ·rw [if_neg hf]
     have hnb:ofA b' q.L=[]:=List.eq_nil_of_length_eq_zero hB
     by_cases h0:q.L.length=0
     ·have hn:=List.eq_nil_of_length_eq_zero h0
      have hq:=q_Fork_nil (L:=q.L) hab ha' hb' h0
      dsimp only
      rw [hn] at hq ⊢
      exact hq
     ·exact q_Fork hab ha' hb' hnb (by omega) hs (by omega)
   ·rw [if_pos hB]
    exact Ah9 ha' hb' hl (.inr (.inl ⟨rfl,hab,hB⟩))
 ·rw [if_pos hr]
  exact q_Fork_no a b hr
theorem v_where {q:Bk} (hs:Go.Pol.srt q.L) (hl:q.L.length≤2000) (hok:∀ v ∈ q.L,v.1 < 64∧v.2.1 < 1024∧v.2.2.1 < 1024) (a at_:Int) (w:Bool):E5 134 [stA q.L,.int .i64 a,.int .i64 at_,.bool w] (.tup [.int .i64 (q.where_ a at_ w).1,.int .i64 (q.where_ a at_ w).2]):=by
 unfold Bk.where_
 by_cases hi:inR 64 a∧inR 65536 at_
 ·rw [if_neg (by rw [Classical.not_not];exact hi)]
  obtain ⟨a',rfl,ha'⟩:=AH3 hi.1
  obtain ⟨at',rfl,hat'⟩:=AH3 hi.2
  rw [Int.toNat_natCast,Int.toNat_natCast]
  cases hf:AO1 q.L a' (at' / 64) with
  | none=>exact BK1 w (by omega) (by omega) (AL0 hf) (by omega)
  | some v =>
   obtain ⟨A,B,hL,hA,e1,e2⟩:=Ag0 hs hf
   have hv:=hok v (by rw [hL];simp)
   rw [e2] at hA
   dsimp only
   by_cases hw:w=true∧v.2.2.2=false
   ·rw [if_pos hw]
    have:=q_Where_ro (v:=v) (at_:=at') (by omega) (by omega) e2 hw.2 hL hA hv.2.2 (by omega)
    rw [e1] at this;rw [hw.1];exact this
   ·rw [if_neg hw]
    have:=q_Where (v:=v) (at_:=at') (w:=w) (by omega) (by omega) e2 (fun e=>by
     cases hb:v.2.2.2
     ·exact absurd ⟨e,hb⟩ hw
     ·rfl) hL hA hv.2.2 (by omega)
    rw [e1] at this;exact this
 ·rw [if_pos hi]
  exact q_Where_no w hi
theorem v_Read {q:Bk} (hs:Go.Pol.srt q.L) (hl:q.L.length≤2000) (hok:∀ v ∈ q.L,v.1 < 64∧v.2.1 < 1024∧v.2.2.1 < 1024) (a at_:Int):LocU 158 q.L [.int .i64 a,.int .i64 at_] q.s (.tup [.int .u8 (q.read a at_).1,.int .i64 (q.read a at_).2]) q.s:=by
 have h1:=v_where hs hl hok a at_ false
 have hq:=q_read (s:=q.s) (a:=(q.where_ a at_ false).1)
 unfold Bk.read
 generalize (q.where_ a at_ false)=x at *
 obtain ⟨k,e⟩:=x
 dsimp only at *
 generalize q.s=s at *
 by_cases he:e=0
 ·rw [if_pos he]
  refine ⟨E8 D9 b158 rfl ?_,by simp [A8],R6⟩
  unfold c158
  (refine wx_Pa ?_;repeat' (first|with_reducible refine And.intro ?_ ?_|intro hsp))
  all_goals exact X7 rfl R6 rfl H8
 ·rw [if_neg he]
  refine ⟨E8 D9 b158 rfl ?_,by simp [A8],R6⟩
  unfold c158
  (refine wx_Pa ?_;repeat' (first|with_reducible refine And.intro ?_ ?_|intro hsp))
  all_goals exact X7 rfl R6 rfl H8
theorem BR0 {q:Bk} (hs:Go.Pol.srt q.L) (hl:q.L.length≤2000) (hok:∀ v ∈ q.L,v.1 < 64∧v.2.1 < 1024∧v.2.2.1 < 1024) (a at_ b:Int):LocU 66 q.L [.int .i64 a,.int .i64 at_,.int .u8 b] q.s (.int .i64 (q.put a at_ b).1) (q.put a at_ b).2.s:=by
 have h1:=v_where hs hl hok a at_ true
 have hq:=BT2 (s:=q.s) (a:=(q.where_ a at_ true).1) (b:=b)
 unfold Bk.put
 generalize (q.where_ a at_ true)=x at *
 obtain ⟨k,e⟩:=x
 dsimp only at *
 by_cases he:e=0
 ·rw [if_pos he]
  dsimp only
  generalize q.s.write k b=y at *
  generalize q.s=s at *
  obtain ⟨e2,s2⟩:=y
  dsimp only at *
  refine ⟨E8 D9 b66 rfl ?_,by simp [A8],A8⟩
  unfold c66
  (refine wx_Pa ?_;repeat' (first|with_reducible refine And.intro ?_ ?_|intro hsp))
  all_goals exact X7 rfl A8 rfl H8
 ·rw [if_neg he]
  dsimp only
  generalize q.s=s at *
  refine ⟨E8 D9 b66 rfl ?_,by simp [A8],A8⟩
  unfold c66
  (refine wx_Pa ?_;repeat' (first|with_reducible refine And.intro ?_ ?_|intro hsp))
  all_goals exact X7 rfl A8 rfl H8
end
end Go.Proofs.YtphggldkligldaaGreat.Sh
