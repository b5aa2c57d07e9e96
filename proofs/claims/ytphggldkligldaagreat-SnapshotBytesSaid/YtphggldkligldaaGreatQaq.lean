/-
 Fork.
 Drop.
 The document's answer: find,count,view,Find,Count,Where.
 The document's answer: a view is put in,or taken out.
 The document's answer: Map,Unmap,Protect,Split.
 The document's answer: Fork.
 Protect;what Fork,Drop and where refuse;calls on no table.
-/
import Derived.Test.YtphggldkligldaaGreatQap
set_option linter.unusedSimpArgs false
set_option linter.unusedVariables false
set_option maxHeartbeats 1600000
namespace Go.Pol
open Go.Am
def roV (v:Vw):Vw:=(v.1,v.2.1,v.2.2.1,false)
def cpV (b:Nat) (v:Vw):Vw:=(b,v.2.1,v.2.2.1,false)
structure Frk (L O:List Vw) (b k:Nat) (M:List Vw):Prop where
 mem:∀ v,v ∈ M ↔ (v ∈ L∧v ∉ O.take k)∨∃ u,u ∈ O.take k∧(v=roV u∨v=cpV b u)
 len:M.length=L.length+k
theorem Ay5 {L:List Vw} (h:srt L) {k:Nat} (hk:k < L.length):nth dV L k ∉ L.take k:=fun hm=>take_ne h hk _ hm ⟨rfl,rfl⟩
theorem Am3 {L:List Vw} {k:Nat} (hk:k < L.length) {v:Vw}:v ∈ L.take (k+1) ↔ v ∈ L.take k∨v=nth dV L k:=by
 rw [y9 (d:=dV) hk,List.mem_append,List.mem_singleton]
end Go.Pol
namespace Go.Proofs.YtphggldkligldaaGreat.Sh
open Go Go.Am Go.Pol
theorem plx_Yo {p:Prop} (h:p:=by ((first|exact plw|(with_reducible first|apply O7|apply M8|apply Y1|apply AA0|apply F7|fail)|fail);first|done|fail)):p:=h
theorem ppx_Yo {p:Prop} (h:p:=by ((first|with_reducible assumption|(with_reducible first|apply U8|apply F5|apply F8|apply P9|apply P5 _ _|apply Y0|apply K9 AE7|apply G8|fail)|exact ppw|fail);first|done|fail)):p:=h
open Go.Proofs.YtphggldkligldaaGreat.Sh renaming plx_Yo → plx
open Go.Proofs.YtphggldkligldaaGreat.Sh renaming ppx_Yo → ppx
theorem wx_Yo {p q:Prop} (hq:q) (h:X5 q→p:=by (intro hQz;((repeat' ((try (conv=>whnf));first|refine sxA ?_|refine sxF ?_|refine V5 (by assumption) rfl rfl rfl (by decide) (by first|exact AD9|(simp [A8,A9];done)|fail) (by first|exact F7|exact A8|fail) rfl ?_|refine sxH ?_|((with_reducible first|apply N9 hQz|apply O1 hQz)<;>(try intro hsp hQz))|exact hQz.out))<;>(try (conv=>whnf))))):p:=h ⟨hq⟩
theorem wx_Yon {p q:Prop} (hq:q) (h:X5 q→p:=by (intro hQz;((repeat' ((try (conv=>whnf));first|refine sxA ?_|refine BG8 rfl (by with_reducible assumption) ?_|refine G5 (gc2 hx) ?_|refine p9 (by rw [D8];omega) rfl (p8 (by rw [List.length_drop,D8];omega) hcell ?_)|refine sxN ?_|(refine X4 E9 b119 rfl ?_;unfold c119)|(refine X4 E9 b145 rfl ?_;unfold c145)|refine AS8 (by assumption) rfl (by omega) ?_|refine V5 (by assumption) rfl rfl rfl (by decide) (by first|exact AD9|(simp [A8,A9];done)|fail) (by first|exact F7|exact A8|fail) rfl ?_|refine AK9 (by assumption) rfl rfl rfl (by first|(simp [A8,A9];done)|fail) F7 rfl rfl ?_|(refine X4 E9 b174 rfl ?_;unfold c174)|refine AS7 E9 rfl hF2 hA2 hB2 rfl ?_|refine Z0 c2 rfl rfl rfl rfl rfl (by decide) rfl ?_|refine AK9 (by assumption) rfl rfl rfl (by first|exact AD9|(simp [A8,A9];done)|fail) (by first|exact F7|exact A8|fail) rfl rfl ?_|refine sxH ?_|((with_reducible first|apply N9 hQz|apply O1 hQz)<;>(try intro hsp hQz))|exact hQz.out))<;>(try (conv=>whnf))))):p:=h ⟨hq⟩
section
variable {L:List Vw} {t:TS}
theorem fork_U {O:List Vw} {Q0:List Nat} {U:Nat→Vw} {k:Nat} (hk:k < O.length) (hU:Q0.map U=(O.take k).map roV++O.drop k):k < Q0.length∧U (nth 0 Q0 k)=nth dV O k:=by
 have hQl:Q0.length=O.length:=by
  have:=congrArg List.length hU
  simp only [List.length_map,List.length_append,List.length_take,List.length_drop] at this;omega
 have hkq:k < Q0.length:=by omega
 have h1:(Q0.map U)[k]? = ((O.take k).map roV++O.drop k)[k]?:=by rw [hU]
 rw [List.getElem?_map,List.getElem?_append_right (by rw [List.length_map,List.length_take];omega),List.length_map,List.length_take,Nat.min_eq_left (by omega),Nat.sub_self,List.getElem?_drop,Nat.add_zero,List.getElem?_eq_getElem hkq,List.getElem?_eq_getElem hk] at h1
 rw [P7 hkq,P7 hk];exact ⟨hkq,Option.some.inj h1⟩
theorem fork_step {a b:Nat} (hab:a ≠ b) (hb:b < 64) (hL:Go.Pol.srt L) (hnb:∀ v ∈ L,v.1 ≠ b) (hlen:L.length+(ofA a L).length≤2000) {Q0:List Nat} {k:Nat} {M:List Vw} (hk:k < (ofA a L).length) (hM:Frk L (ofA a L) b k M) (ht:TOk M t) (hQ:t.Q a=Q0) (hU:Q0.map t.U=((ofA a L).take k).map roV++(ofA a L).drop k) :
  ∃ t2 M2,(Frk L (ofA a L) b (k+1) M2∧TOk M2 t2∧t2.Q a=Q0∧Q0.map t2.U=((ofA a L).take (k+1)).map roV++(ofA a L).drop (k+1)) ∧
   AE1 146 [.int .i64 (nth 0 Q0 k:Nat),.agg (vwC (roV (nth dV (ofA a L) k)))] t.n t.m (X0 t.n t.m t.V t.W t.V3 t.V4 t.S) (.int .i64 0) (X0 t.n t.m (I6 t.V (nth 0 Q0 k) (num (nth dV (ofA a L) k).1)) (I6 t.W (nth 0 Q0 k) (num (nth dV (ofA a L) k).2.1)) (I6 t.V3 (nth 0 Q0 k) (num (nth dV (ofA a L) k).2.2.1)) (I6 t.V4 (nth 0 Q0 k) (bo false)) t.S) ∧
   X7 117 [.agg (vwC (cpV b (nth dV (ofA a L) k)))] (t.chg (nth 0 Q0 k) (roV (nth dV (ofA a L) k)) t.C) (.tup []) t2:=by
 have hO:Go.Pol.srt (ofA a L):=hL.sublist List.filter_sublist
 have hQl:Q0.length=(ofA a L).length:=by
  have:=congrArg List.length hU
  simp only [List.length_map,List.length_append,List.length_take,List.length_drop] at this;omega
 have hkq:k < Q0.length:=by omega
 have hxm:nth 0 Q0 k ∈ t.Q a:=by rw [hQ];exact AD4 hkq
 have hxU:t.U (nth 0 Q0 k)=nth dV (ofA a L) k:=by
  have h1:(Q0.map t.U)[k]? = (((ofA a L).take k).map roV++(ofA a L).drop k)[k]?:=by rw [hU]
  rw [List.getElem?_map,List.getElem?_append_right (by rw [List.length_map,List.length_take];omega),List.length_map,List.length_take,Nat.min_eq_left (by omega),Nat.sub_self,List.getElem?_drop,Nat.add_zero,List.getElem?_eq_getElem hkq,List.getElem?_eq_getElem hk] at h1
  rw [P7 hkq,P7 hk];exact Option.some.inj h1
 have hum:nth dV (ofA a L) k ∈ ofA a L:=AD4 hk
 have hua:(nth dV (ofA a L) k).1=a:=(J8.1 hum).2
 have huL:nth dV (ofA a L) k ∈ L:=(J8.1 hum).1
 have hnt:=Ay5 hO hk
 have htn:=take_ne hO hk
 have hms:=fun v=>Am3 (v:=v) hk
 have htk:=y9 (d:=dV) hk
 have hdr:(ofA a L).drop k=nth dV (ofA a L) k::(ofA a L).drop (k+1):=by rw [P7 hk,List.drop_eq_getElem_cons hk]
 generalize hu:nth dV (ofA a L) k=u at *
 generalize hx:nth 0 Q0 k=x at *
 have hxm':x ∈ t.Q u.1:=by rw [hua];exact hxm
 obtain ⟨X,Y,A,B,hQx,hMx,hX,hY,hsX,hsY⟩:=ht.around hxm' hxU
 have huM:u ∈ M:=by rw [hMx];simp
 have hok:=ht.ok u huM
 have hm:u.1 < t.m:=by rw [ht.hm];exact hok.1
 obtain ⟨i1,hput⟩:=p_put ht.pool.inv (s:=x) (i:=u.1) ⟨hm,hQx⟩ (num u.1) (num u.2.1) (num u.2.2.1) (bo false)
 have hT:=ht.chg (w:=roV u) (C:=t.C) hxU hQx hMx hX hY hsX hsY rfl rfl hok.2.2 (fun f=>by
  have:=ht.cnt f
  rw [hMx,l9,Z9] at this
  rw [l9,Z9];exact this) ⟨i1,ht.pool.m_le,ht.pool.n_le,ht.pool.n_pos⟩
 have hsrM:=ht.srt
 rw [hMx] at hsrM
 have hne:=Am2 hsrM
 -- who is in the turned list
 have hmem1:∀ v,v ∈ A++roV u::B ↔ (v ∈ M∧v ≠ u)∨v=roV u:=fun v=>by
  rw [hMx]
  simp only [List.mem_append,List.mem_cons]
  constructor
  ·rintro (h|h|h)
   ·exact .inl ⟨.inl h,fun e=>hne.1 v h (e▸Aj3 u)⟩
   ·exact .inr h
   ·exact .inl ⟨.inr (.inr h),fun e=>hne.2 v h (e▸Aj3 u)⟩
  ·rintro (⟨h|h|h,h2⟩|h)
   ·exact .inl h
   ·exact absurd h h2
   ·exact .inr (.inr h)
   ·exact .inr (.inl h)
 have hsrt1:=hT.srt
 have hnat:∀ w ∈ A++roV u::B,¬ atV (b,u.2.1) w:=fun w hw ha=>by
  rcases (hmem1 w).1 hw with ⟨h1,h2⟩|h1
  ·rcases (hM.mem w).1 h1 with ⟨h3,_⟩ | ⟨u',h3,h4|h4⟩
   ·exact hnb w h3 ha.1
   ·rw [h4] at ha
    have h5:u'.1=b:=ha.1
    have h6:=(J8.1 (List.mem_of_mem_take h3)).2
    omega
   ·rw [h4] at ha
    have h5:u'.2.1=u.2.1:=ha.2
    have h6:=(J8.1 (List.mem_of_mem_take h3)).2
    exact htn u' h3 ⟨by rw [h6,hua],h5⟩
  ·rw [h1] at ha
   have h5:u.1=b:=ha.1
   omega
 have hl1:(A++roV u::B).length=L.length+k:=by rw [← hM.len,hMx];simp
 obtain ⟨t2,ht2,_,hQ2,hput2⟩:=t_put hT (v:=cpV b u) ⟨hb,hok.2⟩ hnat (by omega)
 refine ⟨t2,_,⟨⟨fun v=>?_,?_⟩,ht2,?_,?_⟩,hput,hput2⟩
 ·rw [AA4,hmem1,hM.mem]
  constructor
  ·rintro (h | ⟨⟨h1,h2⟩ | ⟨u',h1,h2⟩,h3⟩|h)
   ·exact .inr ⟨u,(hms u).2 (.inr rfl),.inr h⟩
   ·exact .inl ⟨h1,fun h4=>(((hms v).1 h4).elim h2 h3)⟩
   ·exact .inr ⟨u',(hms u').2 (.inl h1),h2⟩
   ·exact .inr ⟨u,(hms u).2 (.inr rfl),.inl h⟩
  ·rintro (⟨h1,h2⟩ | ⟨u',h1,h2⟩)
   ·exact .inr (.inl ⟨.inl ⟨h1,fun h3=>h2 ((hms v).2 (.inl h3))⟩,fun e=>h2 ((hms v).2 (.inr e))⟩)
   ·rcases (hms u').1 h1 with h3|rfl
    ·refine .inr (.inl ⟨.inr ⟨u',h3,h2⟩,fun e=>?_⟩)
     rcases h2 with h2|h2
     ·rw [e] at h2
      have h6:=(J8.1 (List.mem_of_mem_take h3)).2
      exact htn u' h3 ⟨by rw [h6,hua],by rw [h2];rfl⟩
     ·rw [e] at h2
      have h7:u.1=b:=by rw [h2];rfl
      omega
    ·rcases h2 with h2|h2
     ·exact .inr (.inr h2)
     ·exact .inl h2
 ·rw [Ag7,hl1];omega
 ·rw [hQ2 a (show a ≠ (cpV b u).1 from hab)];exact hQ
 ·have h1:=ht2.lst a
  rw [hQ2 a (show a ≠ (cpV b u).1 from hab),Am0 (show a ≠ (cpV b u).1 from hab),← hT.lst] at h1
  have hQx':Q0=X++x::Y:=by rw [← hQ,← hua];exact hQx
  have h2:(t.chg x (roV u) t.C).Q a=Q0:=hQ
  rw [h2] at h1
  rw [h1]
  show Q0.map (updU t.U x (roV u))=_
  have h3:X.length=k:=by
   have hnd:=ht.pool.inv.st.nd a
   rw [hQ,hQx'] at hnd
   have e1:(X++x::Y)[X.length]? = some x:=by simp
   have e2:(X++x::Y)[k]? = some x:=by rw [← hQx',List.getElem?_eq_getElem hkq,← hx,P7 hkq]
   have hl:=(List.getElem?_eq_some_iff.1 e1)
   have hl2:=(List.getElem?_eq_some_iff.1 e2)
   obtain ⟨b1,e1⟩:=hl
   obtain ⟨b2,e2⟩:=hl2
   exact (List.getElem_inj hnd).1 (e1.trans e2.symm)
  have h4:X.map t.U++u::Y.map t.U=((ofA a L).take k).map roV++u::(ofA a L).drop (k+1):=by
   rw [← hdr,← hU,hQx',List.map_append,List.map_cons,hxU]
  have h5:=List.append_inj h4 (by rw [List.length_map,List.length_map,List.length_take,h3];omega)
  rw [hQx',List.map_append,List.map_cons,AH3 hsX,AH3 hsY,AL5,htk,List.map_append,h5.1,(List.cons.inj h5.2).2,List.append_assoc]
  rfl
theorem TOk.len_q (h:TOk L t) {a:Nat} (ha:a < 64):AE1 144 [.int .i64 (a:Nat)] t.n t.m (X0 t.n t.m t.V t.W t.V3 t.V4 t.S) (.tup [.int .i64 ((ofA a L).length:Nat),.int .i64 0]) (X0 t.n t.m t.V t.W t.V3 t.V4 t.S):=by
 rw [h.lenQ];exact p_len h.pool.inv h.pool.n_pos (by rw [h.hm];exact ha)
theorem t_Fork (h:TOk L t) {a b:Nat} (hab:a ≠ b) (ha:a < 64) (hb:b < 64) (hnb:ofA b L=[]) (hlen:L.length+(ofA a L).length≤2000) :
  ∃ t' M,TOk M t'∧Frk L (ofA a L) b (ofA a L).length M∧X7 85 [.int .i64 (a:Nat),.int .i64 (b:Nat)] t (.tup [.int .i64 ((ofA a L).length:Nat),.int .i64 0]) t':=by
 have hnb':∀ v ∈ L,v.1 ≠ b:=fun v hv e=>by
  have : v ∈ ofA b L:=J8.2 ⟨hv,e⟩
  rw [hnb] at this;cases this
 have hlq:=h.lenQ a
 obtain ⟨T,hT0,hT,hst⟩:=chain (n:=(ofA a L).length) (P:=fun k (x:List Vw × TS)=>Frk L (ofA a L) b k x.1∧TOk x.1 x.2∧x.2.Q a=t.Q a∧(t.Q a).map x.2.U=((ofA a L).take k).map roV++(ofA a L).drop k)
  (S := fun k (x y : List Vw × TS) => AE1 146 [.int .i64 (nth 0 (t.Q a) k : Nat), .agg (vwC (roV (nth dV (ofA a L) k)))] x.2.n x.2.m (X0 x.2.n x.2.m x.2.V x.2.W x.2.V3 x.2.V4 x.2.S) (.int .i64 0) (X0 x.2.n x.2.m (I6 x.2.V (nth 0 (t.Q a) k) (num (nth dV (ofA a L) k).1)) (I6 x.2.W (nth 0 (t.Q a) k) (num (nth dV (ofA a L) k).2.1)) (I6 x.2.V3 (nth 0 (t.Q a) k) (num (nth dV (ofA a L) k).2.2.1)) (I6 x.2.V4 (nth 0 (t.Q a) k) (bo false)) x.2.S) ∧
   X7 117 [.agg (vwC (cpV b (nth dV (ofA a L) k)))] (x.2.chg (nth 0 (t.Q a) k) (roV (nth dV (ofA a L) k)) x.2.C) (.tup []) y.2)
  (L, t) ⟨⟨fun v => by simp, rfl⟩, h, rfl, by rw [h.lst]; simp⟩ (fun k x hk hx => by
   obtain ⟨h1,h2,h3,h4⟩:=hx
   obtain ⟨t2,M2,h5,h6,h7⟩:=fork_step hab hb h.srt hnb' hlen hk h1 h2 h3 h4
   exact ⟨(M2,t2),h5,h6,h7⟩)
 obtain ⟨g1,g2,_,_⟩:=hT _ (Nat.le_refl _)
 have hen:=p_end h.pool.inv h.pool.n_pos (show a < t.m by rw [h.hm];exact ha) true
 rw [if_pos rfl,Aq7] at hen
 have k1:=Ag9 (a:Nat) (b:Nat)
 rw [if_pos ⟨Ac3 ha,Ac3 hb⟩] at k1
 have l1:=h.len_q ha
 have l2:AE1 144 [.int .i64 (b:Nat)] t.n t.m (X0 t.n t.m t.V t.W t.V3 t.V4 t.S) (.tup [.int .i64 0,.int .i64 0]) (X0 t.n t.m t.V t.W t.V3 t.V4 t.S):=by have:=h.len_q hb;rw [hnb] at this;exact this
 have hml:(t.E.map AG8).length=L.length:=by rw [List.length_map,h.elen]
 have hLl:=h.len
 refine ⟨(T (ofA a L).length).2,(T (ofA a L).length).1,g2,g1,X7.mk (D9 E9 b85 rfl ?_) I4 F7⟩
 unfold c85
 generalize hn1:(ofA a L).length=n1 at *
 (refine wx_Yon ?_;repeat' (first|with_reducible refine And.intro ?_ ?_|intro hsp))
 refine AR8 E9 b173 rfl trivial ?_
 intro frl2 asl2 bdl2 hF2 hA2 hB2
 unfold c173
 (refine wx_Yo ?_;repeat' (first|with_reducible refine And.intro ?_ ?_|intro hsp))
 have hTQ:(T 0).2=t:=by rw [hT0]
 rw [← hlq] at hen ⊢
 clear hen l1 l2 k1
 (refine F6 [0,1,2,3] (fun (k:Nat)=>[(5,.int .i64 (if n1=0 then 0 else hd ((t.Q a).drop k))),(6,.int .i64 (if n1=0 then 4 else 0))]) (fun (k:Nat)=>⟨tabS (T k).2++[(5,.cells [.ptr 0 0]),(6,.cells [.int .i64 (b:Nat)]),(18,.cells [.ptr 1 0]),(19,.cells [.int .i64 (a:Nat)]),(20,.cells [.bool false]),(21,.loop .ready none frl2 [65,66] asl2 bdl2)],22⟩) (fun (k:Nat)=>k≤n1) (fun (k:Nat)=>n1 - k) (0) [] rfl (fun _=>by first|exact Nat.zero_le _|(dsimp only;omega)) ?_ (by ((try (conv=>whnf));(rw [hTQ]);exact F9)) ?_)
 ·exact Nat.zero_le _
 intro k hk
 by_cases hkl:k < n1
 ·obtain ⟨f1,f2,f3,f4⟩:=hT k hk
  obtain ⟨c1,c2⟩:=hst k hkl
  have hkq:k < ((T k).2.Q a).length:=by rw [f3];omega
  obtain ⟨hx,hd0,hnx,hnv,hm,hcell⟩:=f2.at_ hkq
  rw [f3] at hx hd0 hnx hcell
  rw [(fork_U (by omega) f4).2] at hcell
  have hua:(nth dV (ofA a L) k).1=a:=(J8.1 (AD4 (by omega))).2
  rw [if_neg (show ¬ n1=0 by omega),if_neg (show ¬ n1=0 by omega),hd0]
  have hnx0:¬ n1=0:=by omega
  have hn2:(T k).2.n=2000:=f2.hn
  clear hnv hm f1 f2 f3 f4 hd0 hkq
  generalize nth dV (ofA a L) k=u at *
  generalize nth 0 (t.Q a) k=x at *
  obtain ⟨ua,uk,uf,uw⟩:=u
  unfold roV vwC at c1
  unfold cpV vwC at c2
  unfold vwC at hcell
  dsimp only at c1 c2 hcell hua
  subst hua
  (refine wx_Yon ?_;repeat' (first|with_reducible refine And.intro ?_ ?_|intro hsp))
  all_goals exact F3 (k+1) [] (by (try dsimp only);omega) (by first|omega|(dsimp only;omega)) rfl (by ((try dsimp only);rw [if_neg hnx0]);exact F9)
 ·obtain rfl:k=n1:=by omega
  have hd1:hd ((t.Q a).drop k) = -1:=by rw [List.drop_of_length_le (by omega)];rfl
  rw [hd1]
  by_cases hz:k=0
  ·rw [if_pos hz,if_pos hz]
   (refine wx_Yo ?_;repeat' (first|with_reducible refine And.intro ?_ ?_|intro hsp))
   exact M4 rfl F7 rfl rfl rfl rfl rfl
  ·rw [if_neg hz,if_neg hz]
   (refine wx_Yo ?_;repeat' (first|with_reducible refine And.intro ?_ ?_|intro hsp))
   exact M4 rfl F7 rfl rfl rfl rfl rfl
end
end Go.Proofs.YtphggldkligldaaGreat.Sh
namespace Go.Pol
open Go.Am
def noA (a:Nat) (L:List Vw):List Vw:=L.filter fun v=>decide (v.1 ≠ a)
def AJ2 (L O:List Vw) (k:Nat):List Vw:=L.filter fun v=>decide (v ∉ O.take k)
theorem less_0 (L O:List Vw):AJ2 L O 0=L:=by unfold AJ2;rw [List.filter_eq_self];intro v _;simp
theorem BO9 (L:List Vw) (a:Nat):AJ2 L (ofA a L) (ofA a L).length=noA a L:=by
 unfold AJ2 noA
 rw [List.take_length]
 refine List.filter_congr fun v hv=>decide_eq_decide.2 ?_
 rw [J8]
 exact ⟨fun h e=>h ⟨hv,e⟩,fun h e=>h e.2⟩
theorem less_s {L O A B:List Vw} {k:Nat} (hL:srt L) (hk:k < O.length) (h:AJ2 L O k=A++nth dV O k::B):AJ2 L O (k+1)=A++B:=by
 have hs:srt (AJ2 L O k):=hL.sublist List.filter_sublist
 have hs2:=hs
 rw [h] at hs2
 have hne:=Am2 hs2
 refine Ap4 (hL.sublist List.filter_sublist) (hs2.sublist (List.Sublist.append_left (List.sublist_cons_self ..) _)) fun v=>?_
 have hm:v ∈ AJ2 L O k ↔ v ∈ A∨v=nth dV O k∨v ∈ B:=by rw [h];simp
 have h1:v ∈ AJ2 L O k ↔ v ∈ L∧v ∉ O.take k:=by unfold AJ2;rw [List.mem_filter,decide_eq_true_eq]
 have h2:v ∈ AJ2 L O (k+1) ↔ v ∈ L∧¬ (v ∈ O.take k∨v=nth dV O k):=by unfold AJ2;rw [List.mem_filter,decide_eq_true_eq,Am3 hk]
 rw [h2,List.mem_append]
 constructor
 ·rintro ⟨h3,h4⟩
  rcases hm.1 (h1.2 ⟨h3,fun e=>h4 (.inl e)⟩) with h5|h5|h5
  ·exact .inl h5
  ·exact absurd (.inr h5) h4
  ·exact .inr h5
 ·intro h3
  have h4:v ∈ AJ2 L O k:=hm.2 (h3.elim .inl fun h=>.inr (.inr h))
  refine ⟨(h1.1 h4).1,fun e=>?_⟩
  rcases e with e|e
  ·exact (h1.1 h4).2 e
  ·rcases h3 with h5|h5
   ·exact hne.1 v h5 (e▸Aj3 v)
   ·exact hne.2 v h5 (e▸Aj3 v)
def AS3 (L O:List Vw) (k f:Nat):Bool:=decide (f ∈ frs (O.take k)) && decide (cntF (AJ2 L O k) f=0)
theorem gone_s {L O A B:List Vw} {k f:Nat} (hL:srt L) (hk:k < O.length) (h:AJ2 L O k=A++nth dV O k::B):AS3 L O (k+1) f=if f=(nth dV O k).2.2.1 then decide (cntF (A++B) (nth dV O k).2.2.1=0) else AS3 L O k f:=by
 unfold AS3
 rw [less_s hL hk h,h,y9 (d:=dV) hk]
 have e1:f ∈ frs (O.take k++[nth dV O k]) ↔ f ∈ frs (O.take k)∨f=(nth dV O k).2.2.1:=by unfold frs;simp
 by_cases hf:f=(nth dV O k).2.2.1
 ·rw [if_pos hf,decide_eq_true (e1.2 (.inr hf)),← hf];rfl
 ·rw [if_neg hf]
  have e2:decide (f ∈ frs (O.take k++[nth dV O k]))=decide (f ∈ frs (O.take k)):=decide_eq_decide.2 (by rw [e1];exact ⟨fun h=>h.elim id fun e=>absurd e hf,.inl⟩)
  rw [e2,l9,l9,Z9,if_neg (Ne.symm hf),Nat.zero_add]
theorem gone_0 (L O:List Vw) (f:Nat):AS3 L O 0 f=false:=by unfold AS3 frs;simp
def AZ7 (g:Nat→Bool) (k:Nat):List Nat:=(List.range k).filter g
theorem goneU_s (g:Nat→Bool) (k:Nat):AZ7 g (k+1)=if g k=true then AZ7 g k++[k] else AZ7 g k:=by
 unfold AZ7;rw [List.range_succ,List.filter_append]
 by_cases h:g k=true<;>simp [h]
theorem goneU_0 (g:Nat→Bool):AZ7 g 0=[]:=rfl
theorem As0 (g:Nat→Bool) (k:Nat):(AZ7 g k).length≤k:=Nat.le_trans (List.length_filter_le ..) (by rw [List.length_range];exact Nat.le_refl _)
def AC3 (L:List Vw) (a:Nat):List Nat:=AZ7 (AS3 L (ofA a L) (ofA a L).length) 1024
theorem rep_bool:(List.replicate 1024 (.bool false):List AV)=memA 1024 fun _=>.bool false:=by
 refine List.ext_getElem? fun i=>?_
 by_cases h:i < 1024
 ·rw [List.getElem?_replicate,if_pos h,Q5 h]
 ·rw [List.getElem?_eq_none (by rw [List.length_replicate];omega),List.getElem?_eq_none (by rw [R5];omega)]
end Go.Pol
namespace Go.Proofs.YtphggldkligldaaGreat.Sh
open Go Go.Am Go.Pol
theorem plx_Yp {p:Prop} (h:p:=by ((first|exact plw|(with_reducible first|apply O7|apply M8|apply Y1|apply AA0|apply F7|apply plain_ga|fail)|fail);first|done|fail)):p:=h
theorem ppx_Yp {p:Prop} (h:p:=by ((first|with_reducible assumption|(with_reducible first|apply U8|apply F5|apply F8|apply P9|apply P5 _ _|apply Y0|apply K9 AE7|apply G8|apply An9|apply K9 AP3|fail)|exact ppw|fail);first|done|fail)):p:=h
open Go.Proofs.YtphggldkligldaaGreat.Sh renaming plx_Yp → plx
open Go.Proofs.YtphggldkligldaaGreat.Sh renaming ppx_Yp → ppx
theorem wx_Yp {p q:Prop} (hq:q) (h:X5 q→p:=by (intro hQz;((repeat' ((try (conv=>whnf));first|refine sxA ?_|refine p9 (by rw [R5];omega) rfl (p8 (by rw [List.length_drop,R5];omega) hgl ?_)|refine G5 (hgx) ?_|refine sxF ?_|refine V5 (by assumption) rfl rfl rfl (by decide) (by first|(simp [A8,A9];done)|fail) F7 rfl ?_|refine Ae4 (f:=nat1) (l2:=[f]) Ad4 (AT6 rfl rfl) (fun hz=>by first|(simp [lk,Q7 hz];done)|exact Q7 hz) (fun hz=>by first|(simp [lk,AZ1 hz];done)|exact AZ1 hz) rfl (by decide) ⟨by omega,by omega⟩ rfl ?_|(refine Ae3 (f:=nat1) (l2:=[f]) Ad4 (AT6 rfl rfl) (fun hz=>by first|(simp [lk,Q7 hz];done)|exact Q7 hz) rfl (by decide) ⟨by omega,by omega⟩ ?_ ?_<;>intro hzz)|refine sxH ?_|((with_reducible first|apply N9 hQz|apply O1 hQz)<;>(try intro hsp hQz))|exact hQz.out))<;>(try (conv=>whnf))))):p:=h ⟨hq⟩
theorem wx_Ypn {p q:Prop} (hq:q) (h:X5 q→p:=by (intro hQz;((repeat' ((try (conv=>whnf));first|refine sxA ?_|refine G5 (gc2 hx) ?_|refine p9 (by rw [D8];omega) rfl (p8 (by rw [List.length_drop,D8];omega) hcell ?_)|refine G5 (hC) ?_|refine D7 (by rw [R5];omega) hset ?_|refine sxN ?_|(refine X4 E9 b119 rfl ?_;unfold c119)|(refine X4 E9 b145 rfl ?_;unfold c145)|refine AS8 (by assumption) rfl (by omega) ?_|(refine X4 E9 b174 rfl ?_;unfold c174)|refine AS7 E9 rfl hF2 hA2 hB2 rfl ?_|refine Z0 c1 rfl rfl rfl rfl rfl (by decide) rfl ?_|refine sxH ?_|((with_reducible first|apply N9 hQz|apply O1 hQz)<;>(try intro hsp hQz))|exact hQz.out))<;>(try (conv=>whnf))))):p:=h ⟨hq⟩
theorem An9 {g:Nat→Bool}:∀ x ∈ memA 1024 (fun f=>AV.bool (g f)),Plain x:=AB4 fun _ _=>A9
theorem plain_ga {g:Nat→Bool}:Plain (.agg (memA 1024 fun f=>AV.bool (g f))):=K8 An9
theorem AK1 {l:List Nat}:Plain (.isl (l.map nat1)):=o8 fun e he=>by
 obtain ⟨n,_,rfl⟩:=List.mem_map.1 he;exact AP3 n
theorem plain_tn {l:List Nat} {e:Int}:Plain (.tup [.isl (l.map nat1),.int .i64 e]):=G7 fun x hx=>by
 simp only [List.mem_cons,List.not_mem_nil,or_false] at hx
 rcases hx with rfl|rfl
 ·exact AK1
 ·exact A8
theorem wk_frzN {σ:Nat→Nat} {h h':Hp} {d:Nat} {L:List Nat} (hi:L.length ≠ 0→lk h.l d=some (.cells (flat nat1 L))) (hi':∀ j o,lk h'.l j=some o→σ j ≠ d) (hs:AI3 σ h h'):WkV Tryz.prog σ h h' (Ag1 d 1 L.length) (.isl (L.map nat1)):=by
 by_cases hz:L.length=0
 ·rw [hz,BU7,List.eq_nil_of_length_eq_zero hz];exact Ao6
 ·rw [Aq5 hz]
  refine Au9 (hi hz) hi' hs (by simp) (fun e he=>?_) ?_ fun e he x hx=>?_
  ·obtain ⟨s,_,rfl⟩:=List.mem_map.1 he;rfl
  ·rw [List.drop_zero,List.take_of_length_le (by rw [AP8 Ad4];exact Nat.le_refl _)];rfl
  ·obtain ⟨s,_,rfl⟩:=List.mem_map.1 he;exact AP3 s x hx
section
variable {L:List Vw} {t:TS}
theorem drop_step {a k:Nat} {Q0:List Nat} {U0:Nat→Vw} {x:TS} (hL:Go.Pol.srt L) (hU:Q0.map U0=ofA a L) (hk:k < (ofA a L).length) (h1:TOk (AJ2 L (ofA a L) k) x) (h2:x.Q a=Q0.drop k) (h3:x.U=U0) :
  ∃ y,(TOk (AJ2 L (ofA a L) (k+1)) y∧y.Q a=Q0.drop (k+1)∧y.U=U0)∧(∃ A B,AJ2 L (ofA a L) k=A++nth dV (ofA a L) k::B)∧X7 147 [.int .i64 (nth 0 Q0 k:Nat)] x (.agg (vwC (nth dV (ofA a L) k))) y:=by
 have hQl:Q0.length=(ofA a L).length:=by rw [← hU,List.length_map]
 have hkq:k < Q0.length:=by omega
 have hdr:Q0.drop k=nth 0 Q0 k::Q0.drop (k+1):=by rw [P7 hkq,List.drop_eq_getElem_cons hkq]
 have hua:(nth dV (ofA a L) k).1=a:=(J8.1 (AD4 hk)).2
 have hxU:x.U (nth 0 Q0 k)=nth dV (ofA a L) k:=by
  rw [h3,P7 hkq,P7 hk]
  have : (Q0.map U0)[k]'(by rw [List.length_map];exact hkq)=(ofA a L)[k]:=by simp only [hU]
  rw [List.getElem_map] at this;exact this
 have hxm:nth 0 Q0 k ∈ x.Q (nth dV (ofA a L) k).1:=by rw [hua,h2,hdr];exact List.mem_cons_self ..
 obtain ⟨y,A,B,X,Y,e1,e2,e3,e4,e5,e6⟩:=t_take h1 hxm hxU
 refine ⟨y,⟨?_,?_,by rw [e5,h3]⟩,⟨A,B,e1⟩,e6⟩
 ·rw [less_s hL hk e1];exact e2
 ·rw [e4,hua,AX2]
  rw [hua,h2,hdr] at e3
  cases X with
  | nil=>exact (List.cons.inj e3).2.symm
  | cons z X =>
   have hnd:=h1.pool.inv.st.nd a
   rw [h2,hdr,e3] at hnd
   have h4:=(List.cons.inj e3).1
   subst h4
   exact absurd (List.mem_append_right X (List.mem_cons_self ..)) (List.nodup_cons.1 hnd).1
set_option maxRecDepth 20000 in
theorem t_Drop (h:TOk L t) {a:Nat} (ha:a < 64) :
  ∃ t',TOk (noA a L) t'∧X7 86 [.int .i64 (a:Nat)] t (.tup [.isl ((AC3 L a).map nat1),.int .i64 0]) t':=by
 have hlq:=h.lenQ a
 obtain ⟨T,hT0,hT,hst⟩:=chain (n:=(ofA a L).length) (P:=fun k (x:TS)=>TOk (AJ2 L (ofA a L) k) x∧x.Q a=(t.Q a).drop k∧x.U=t.U)
  (S:=fun k (x y:TS)=>(∃ A B,AJ2 L (ofA a L) k=A++nth dV (ofA a L) k::B)∧X7 147 [.int .i64 (nth 0 (t.Q a) k:Nat)] x (.agg (vwC (nth dV (ofA a L) k))) y)
  t ⟨by rw [less_0];exact h,by rw [List.drop_zero],rfl⟩ (fun k x hk hx=>drop_step h.srt (h.lst a) hk hx.1 hx.2.1 hx.2.2)
 obtain ⟨g1,_,_⟩:=hT _ (Nat.le_refl _)
 rw [BO9] at g1
 have hen:=p_end h.pool.inv h.pool.n_pos (show a < t.m by rw [h.hm];exact ha) true
 rw [if_pos rfl,Aq7] at hen
 have k1:=AJ3 (a:Nat)
 rw [if_pos (Ac3 ha)] at k1
 refine ⟨T (ofA a L).length,g1,X7.mk (D9 E9 b86 rfl ?_) AO8 plain_tn⟩
 unfold c86
 generalize hn1:(ofA a L).length=n1 at *
 (refine wx_Ypn ?_;repeat' (first|with_reducible refine And.intro ?_ ?_|intro hsp))
 refine AR8 E9 b173 rfl trivial ?_
 intro frl2 asl2 bdl2 hF2 hA2 hB2
 unfold c173
 (refine wx_Yp ?_;repeat' (first|with_reducible refine And.intro ?_ ?_|intro hsp))
 rw [← hlq,rep_bool]
 have hg0:memA 1024 (fun f=>AV.bool (AS3 L (ofA a L) 0 f))=memA 1024 fun _=>AV.bool false:=U7 fun f _=>by rw [gone_0]
 clear hen k1
 (refine F6 [0,1,2,3] (fun (k:Nat)=>[(5,.int .i64 (if n1=0 then 0 else hd ((t.Q a).drop k))),(6,.int .i64 (if n1=0 then 4 else 0))]) (fun (k:Nat)=>⟨tabS (T k)++[(5,.cells [.ptr 0 0]),(7,.cells (memA 1024 fun f=>.bool (AS3 L (ofA a L) k f))),(8,.cells [.ptr 1 0]),(9,.cells [.int .i64 (a:Nat)]),(10,.cells [.bool false]),(11,.loop .ready none frl2 [27,28] asl2 bdl2)],12⟩) (fun (k:Nat)=>k≤n1) (fun (k:Nat)=>n1 - k) (0) [] rfl (fun _=>by first|exact Nat.zero_le _|(dsimp only;omega)) ?_ (by ((try (conv=>whnf));(rw [hT0,hg0]);exact F9)) ?_)
 ·exact Nat.zero_le _
 intro k hk
 by_cases hkl:k < n1
 ·obtain ⟨f1,f2,f3⟩:=hT k hk
  obtain ⟨⟨A,B,hAB⟩,c1⟩:=hst k hkl
  have hkq:0 < ((T k).Q a).length:=by rw [f2,List.length_drop];omega
  obtain ⟨hx,hd0,hnx,hnv,hm,hcell⟩:=f1.at_ hkq
  have e0:nth 0 ((T k).Q a) 0=nth 0 (t.Q a) k:=by rw [f2];unfold nth;rw [List.getElem?_drop,Nat.add_zero]
  rw [e0] at hx hd0 hnx hcell
  rw [f2,List.drop_zero] at hd0
  rw [f2,List.drop_drop,show k+(0+1)=k+1 by omega] at hnx
  have hkO:k < (ofA a L).length:=by omega
  have hok:=h.ok _ (J8.1 (AD4 (d:=dV) hkO)).1
  have h4:=(hT (k+1) (by omega)).1
  have hC:(tabC 1 4 (T (k+1)).C)[2+(nth dV (ofA a L) k).2.2.1]? = some (.int .i64 ((T (k+1)).C (nth dV (ofA a L) k).2.2.1:Nat)):=tab_get hok.2.2
  have hset:(memA 1024 fun f=>AV.bool (AS3 L (ofA a L) k f)).set (nth dV (ofA a L) k).2.2.1 (.bool (decide (((T (k+1)).C (nth dV (ofA a L) k).2.2.1:Int)=0)))=memA 1024 fun f=>AV.bool (AS3 L (ofA a L) (k+1) f):=by
   rw [AP4]
   refine U7 fun f hf=>?_
   rw [gone_s h.srt hkO hAB,h4.cnt,less_s h.srt hkO hAB]
   split
   ·congr 1;exact decide_eq_decide.2 (by omega)
   ·rfl
  rw [if_neg (show ¬ n1=0 by omega),if_neg (show ¬ n1=0 by omega),hd0]
  have hnx0:¬ n1=0:=by omega
  have hn2:(T k).n=2000:=f1.hn
  clear hnv hm f1 f2 f3 hd0 hkq h4 hAB e0
  generalize hu:nth dV (ofA a L) k=u at *
  generalize nth 0 (t.Q a) k=x at *
  obtain ⟨ua,uk,uf,uw⟩:=u
  unfold vwC at c1
  dsimp only at c1 hC hset hok
  (refine wx_Ypn ?_;repeat' (first|with_reducible refine And.intro ?_ ?_|intro hsp))
  all_goals exact F3 (k+1) [] (by (try dsimp only);omega) (by first|omega|(dsimp only;omega)) rfl (by ((try dsimp only);rw [if_neg hnx0]);exact F9)
 ·obtain rfl:k=n1:=by omega
  have hd1:hd ((t.Q a).drop k) = -1:=by rw [List.drop_of_length_le (by omega)];rfl
  rw [hd1]
  have hgl:((memA 1024 fun f=>AV.bool (AS3 L (ofA a L) k f)).drop 0).take 1024=memA 1024 fun f=>AV.bool (AS3 L (ofA a L) k f):=by rw [List.drop_zero,List.take_of_length_le (by rw [R5];exact Nat.le_refl _)]
  have hgoal:AC3 L a=AZ7 (AS3 L (ofA a L) k) 1024:=by unfold AC3;rw [hn1]
  rw [hgoal]
  generalize AS3 L (ofA a L) k=g at *
  by_cases hz:k=0
  ·rw [if_pos hz,if_pos hz]
   (refine wx_Yp ?_;repeat' (first|with_reducible refine And.intro ?_ ?_|intro hsp))
   (refine F6 [43] (fun (f:Nat)=>[(4,Ag1 12 1 (AZ7 g f).length),(44,.int .i64 (f:Nat))]) (fun (f:Nat)=>⟨tabS (T k)++AT2 12 nat1 (AZ7 g f),13⟩) (fun (f:Nat)=>f≤1024) (fun (f:Nat)=>1024 - f) (0) [] rfl (fun _=>by first|exact Nat.zero_le _|(dsimp only;omega)) ?_ (by ((try (conv=>whnf));(rw [goneU_0]);exact BS0)) ?_)
   ·exact Nat.zero_le _
   intro f hf
   have hgf:=As0 g f
   by_cases hf2:f < 1024
   ·have hgx:(memA 1024 fun f=>AV.bool (g f))[f]? = some (.bool (g f)):=Q5 hf2
    have hgs:=goneU_s g f
    cases hb:g f
    ·rw [hb,if_neg (by simp)] at hgs
     rw [hb] at hgx
     (refine wx_Yp ?_;repeat' (first|with_reducible refine And.intro ?_ ?_|intro hsp))
     all_goals exact F3 (f+1) [] (by (try dsimp only);omega) (by first|omega|(dsimp only;omega)) rfl (by ((try dsimp only);rw [hgs]);exact BS0)
    ·rw [hb,if_pos rfl] at hgs
     rw [hb] at hgx
     (refine wx_Yp ?_;repeat' (first|with_reducible refine And.intro ?_ ?_|intro hsp))
     all_goals exact F3 (f+1) [(12,14)] (by (try dsimp only);omega) (by first|omega|(dsimp only;omega)) rfl (by ((try dsimp only);rw [hgs]);exact BS0)
   ·obtain rfl:f=1024:=by omega
    (refine wx_Yp ?_;repeat' (first|with_reducible refine And.intro ?_ ?_|intro hsp))
    exact At1 (fun hs=>AI5 (D5 (wk_frzN (fun hz=>by simp [lk,tabS,Q7 hz]) (tab_not (by decide)) hs) (D5 (L8 rfl) J4))) rfl rfl rfl rfl rfl
  ·rw [if_neg hz,if_neg hz]
   (refine wx_Yp ?_;repeat' (first|with_reducible refine And.intro ?_ ?_|intro hsp))
   (refine F6 [43] (fun (f:Nat)=>[(4,Ag1 12 1 (AZ7 g f).length),(44,.int .i64 (f:Nat))]) (fun (f:Nat)=>⟨tabS (T k)++AT2 12 nat1 (AZ7 g f),13⟩) (fun (f:Nat)=>f≤1024) (fun (f:Nat)=>1024 - f) (0) [] rfl (fun _=>by first|exact Nat.zero_le _|(dsimp only;omega)) ?_ (by ((try (conv=>whnf));(rw [goneU_0]);exact BS0)) ?_)
   ·exact Nat.zero_le _
   intro f hf
   have hgf:=As0 g f
   by_cases hf2:f < 1024
   ·have hgx:(memA 1024 fun f=>AV.bool (g f))[f]? = some (.bool (g f)):=Q5 hf2
    have hgs:=goneU_s g f
    cases hb:g f
    ·rw [hb,if_neg (by simp)] at hgs
     rw [hb] at hgx
     (refine wx_Yp ?_;repeat' (first|with_reducible refine And.intro ?_ ?_|intro hsp))
     all_goals exact F3 (f+1) [] (by (try dsimp only);omega) (by first|omega|(dsimp only;omega)) rfl (by ((try dsimp only);rw [hgs]);exact BS0)
    ·rw [hb,if_pos rfl] at hgs
     rw [hb] at hgx
     (refine wx_Yp ?_;repeat' (first|with_reducible refine And.intro ?_ ?_|intro hsp))
     all_goals exact F3 (f+1) [(12,14)] (by (try dsimp only);omega) (by first|omega|(dsimp only;omega)) rfl (by ((try dsimp only);rw [hgs]);exact BS0)
   ·obtain rfl:f=1024:=by omega
    (refine wx_Yp ?_;repeat' (first|with_reducible refine And.intro ?_ ?_|intro hsp))
    exact At1 (fun hs=>AI5 (D5 (wk_frzN (fun hz=>by simp [lk,tabS,Q7 hz]) (tab_not (by decide)) hs) (D5 (L8 rfl) J4))) rfl rfl rfl rfl rfl
end
end Go.Proofs.YtphggldkligldaaGreat.Sh
namespace Go.Proofs.YtphggldkligldaaGreat.Sh
open Go Go.Am Go.Pol
theorem ppx_Bf {p:Prop} (h:p:=by ((first|with_reducible assumption|(with_reducible first|apply Y0|apply K9 AE7|fail)|exact ppw|fail);first|done|fail)):p:=h
open Go.Proofs.YtphggldkligldaaGreat.Sh renaming plx_Yo → plx
open Go.Proofs.YtphggldkligldaaGreat.Sh renaming ppx_Bf → ppx
section
variable {L A B:List Vw} {v:Vw}
end
end Go.Proofs.YtphggldkligldaaGreat.Sh
namespace Go.Am
section
variable {P:Program} {l:List (Nat × AObj)} {nx sz bytes d n m:Nat} {x:AV} {cs src:List AV} {rd:List Nat} {k:AV→Up→List Nat→Prop}
end
end Go.Am
namespace Go.Proofs.YtphggldkligldaaGreat.Sh
open Go Go.Am Go.Pol
theorem plx_Bg {p:Prop} (h:p:=by ((first|exact plw|(with_reducible first|apply O7|apply Y1|apply AA0|apply M8|fail)|fail);first|done|fail)):p:=h
open Go.Proofs.YtphggldkligldaaGreat.Sh renaming plx_Bg → plx
open Go.Proofs.YtphggldkligldaaGreat.Sh renaming ppx_Bf → ppx
section
variable {L X Y:List Vw} {v:Vw}
end
end Go.Proofs.YtphggldkligldaaGreat.Sh
namespace Go.Pol
open Go.Am
def prV (b:Bool) (v:Vw):Vw:=(v.1,v.2.1,v.2.2.1,b)
end Go.Pol
namespace Go.Proofs.YtphggldkligldaaGreat.Sh
open Go Go.Am Go.Pol
theorem plain_ste {L:List Vw} {e:Int}:Plain (.tup [.agg [.isl (L.map vwC)],.int .i64 e]):=G7 fun x hx=>by
 simp only [List.mem_cons,List.not_mem_nil,or_false] at hx
 rcases hx with rfl|rfl
 ·exact AA0
 ·exact A8
section
variable {L A B:List Vw} {v:Vw}
end
end Go.Proofs.YtphggldkligldaaGreat.Sh
namespace Go.Pol
open Go.Am
def wnV (a:Nat) (v:Vw):Vw:=(v.1,v.2.1,v.2.2.1,v.2.2.2 && !decide (v.1=a))
def BN0 (b:Nat) (M:List Vw):List Vw→List Vw
 | []=>M
 | u::O=>BN0 b (Ab6 (cpV b u) M) O
theorem putL_mem (b:Nat) (M:List Vw):∀ (O:List Vw) (v:Vw),v ∈ BN0 b M O ↔ v ∈ M∨∃ u,u ∈ O∧v=cpV b u:=by
 intro O
 induction O generalizing M with
 | nil=>intro v;exact ⟨.inl,fun h=>h.elim id fun ⟨u,hu,_⟩=>by cases hu⟩
 | cons w O ih =>
  intro v
  rw [show BN0 b M (w::O)=BN0 b (Ab6 (cpV b w) M) O from rfl,ih,AA4]
  constructor
  ·rintro ((h|h) | ⟨u,h1,h2⟩)
   ·exact .inr ⟨w,List.mem_cons_self ..,h⟩
   ·exact .inl h
   ·exact .inr ⟨u,List.mem_cons_of_mem _ h1,h2⟩
  ·rintro (h | ⟨u,h1,h2⟩)
   ·exact .inl (.inr h)
   ·rcases List.mem_cons.1 h1 with rfl|h1
    ·exact .inl (.inl h2)
    ·exact .inr ⟨u,h1,h2⟩
theorem putL_srt (b:Nat):∀ (O M:List Vw),srt M→(∀ u ∈ O,∀ w ∈ M,¬ atV (b,u.2.1) w)→(O.map (·.2.1)).Nodup→srt (BN0 b M O):=by
 intro O
 induction O with
 | nil=>intro M h _ _;exact h
 | cons w O ih =>
  intro M h h2 h3
  rw [List.map_cons,List.nodup_cons] at h3
  refine ih _ (Af8 h (h2 w (List.mem_cons_self ..))) (fun u hu x hx=>?_) h3.2
  rcases AA4.1 hx with rfl|hx
  ·intro ha;exact h3.1 (List.mem_map.2 ⟨u,hu,ha.2.symm⟩)
  ·exact h2 u (List.mem_cons_of_mem _ hu) x hx
theorem BK9 (a:Nat) (v:Vw):(v.1 ≠ a→wnV a v=v)∧(v.1=a→wnV a v=roV v):=by
 obtain ⟨v1,v2,v3,v4⟩:=v
 unfold wnV roV
 exact ⟨fun h=>by have : decide (v1=a)=false:=decide_eq_false h;dsimp only;rw [this];simp,fun h=>by have : decide (v1=a)=true:=decide_eq_true h;dsimp only;rw [this];simp⟩
theorem BA3 {L M:List Vw} {a b:Nat} (hL:srt L) (hM:srt M) (hb:ofA b L=[]) (h:Frk L (ofA a L) b (ofA a L).length M):M=BN0 b (L.map (wnV a)) (ofA a L):=by
 have hm:∀ v,v ∈ M ↔ (v ∈ L∧v ∉ ofA a L)∨∃ u,u ∈ ofA a L∧(v=roV u∨v=cpV b u):=fun v=>by rw [h.mem,List.take_length]
 have hnb:∀ v ∈ L,v.1 ≠ b:=fun v hv e=>by
  have : v ∈ ofA b L:=J8.2 ⟨hv,e⟩
  rw [hb] at this;cases this
 have hO:srt (ofA a L):=hL.sublist List.filter_sublist
 have hOa:∀ u ∈ ofA a L,u.1=a:=fun u hu=>(J8.1 hu).2
 have hs1:srt (L.map (wnV a)):=List.Pairwise.map _ (fun u v hb=>by unfold bef wnV at *;exact hb) hL
 have hnd:((ofA a L).map (·.2.1)).Nodup:=by
  refine List.Pairwise.map _ (R:=fun u v=>bef u v∧u.1=v.1) (fun u v huv=>by obtain ⟨hb,he⟩:=huv;unfold bef at hb;show u.2.1 ≠ v.2.1;omega) ?_
  exact List.Pairwise.imp_of_mem (R:=bef) (fun {u v} hu hv hb=>⟨hb,by rw [hOa u hu,hOa v hv]⟩) hO
 refine Ap4 hM (putL_srt b _ _ hs1 (fun u hu w hw=>?_) hnd) fun v=>?_
 ·obtain ⟨x,hx,rfl⟩:=List.mem_map.1 hw
  intro ha;exact hnb x hx ha.1
 ·rw [hm,putL_mem,List.mem_map]
  constructor
  ·rintro (⟨h1,h2⟩ | ⟨u,h1,h2|h2⟩)
   ·exact .inl ⟨v,h1,(BK9 a v).1 fun e=>h2 (J8.2 ⟨h1,e⟩)⟩
   ·exact .inl ⟨u,(J8.1 h1).1,by rw [(BK9 a u).2 (hOa u h1),h2]⟩
   ·exact .inr ⟨u,h1,h2⟩
  ·rintro (⟨u,h1,rfl⟩ | ⟨u,h1,h2⟩)
   ·by_cases hu:u.1=a
    ·exact .inr ⟨u,J8.2 ⟨h1,hu⟩,.inl ((BK9 a u).2 hu)⟩
    ·rw [(BK9 a u).1 hu];exact .inl ⟨h1,fun h2=>hu (J8.1 h2).2⟩
   ·exact .inr ⟨u,h1,.inr h2⟩
end Go.Pol
namespace Go.Proofs.YtphggldkligldaaGreat.Sh
open Go Go.Am Go.Pol
theorem plx_Bi {p:Prop} (h:p:=by ((first|exact plw|(with_reducible first|apply O7|apply M8|apply Y1|apply AA0|apply F7|apply plain_ste|apply plain_s3|fail)|fail);first|done|fail)):p:=h
open Go.Proofs.YtphggldkligldaaGreat.Sh renaming plx_Bi → plx
open Go.Proofs.YtphggldkligldaaGreat.Sh renaming ppx_Bf → ppx
theorem plain_s3 {L:List Vw} {n e:Int}:Plain (.tup [.agg [.isl (L.map vwC)],.int .i64 n,.int .i64 e]):=G7 fun x hx=>by
 simp only [List.mem_cons,List.not_mem_nil,or_false] at hx
 rcases hx with rfl|rfl|rfl
 ·exact AA0
 ·exact A8
 ·exact A8
section
variable {L A B:List Vw} {v:Vw}
end
end Go.Proofs.YtphggldkligldaaGreat.Sh
namespace Go.Proofs.YtphggldkligldaaGreat.Sh
open Go Go.Am Go.Pol
theorem wx_Yq {p q:Prop} (hq:q) (h:X5 q→p:=by (intro hQz;((repeat' ((try (conv=>whnf));first|refine sxA ?_|refine AC7 (by with_reducible assumption) ?_|refine sxF ?_|refine Z0 (by assumption) rfl rfl rfl rfl rfl (by decide) rfl ?_|(refine X4 E9 b119 rfl ?_;unfold c119)|refine AS8 (by assumption) rfl (by omega) ?_|refine sxH ?_|((with_reducible first|apply N9 hQz|apply O1 hQz)<;>(try intro hsp hQz))|exact hQz.out))<;>(try (conv=>whnf))))):p:=h ⟨hq⟩
theorem wx_Yqn {p q:Prop} (hq:q) (h:X5 q→p:=by (intro hQz;((repeat' ((try (conv=>whnf));first|refine sxA ?_|refine BG8 rfl (by with_reducible assumption) ?_|refine sxN ?_|refine Z0 (by assumption) rfl rfl rfl rfl rfl (by decide) rfl ?_|refine V5 (by assumption) rfl rfl rfl (by decide) (by first|exact AD9|(simp [A8,A9];done)|fail) (by first|exact AF6|exact A8|fail) rfl ?_|refine AK9 (by assumption) rfl rfl rfl (by first|exact AD9|(simp [A8,A9];done)|fail) (by first|exact AF6|exact A8|fail) rfl rfl ?_|(refine X4 E9 b119 rfl ?_;unfold c119)|refine AS8 (by assumption) rfl (by omega) ?_|refine V5 (by assumption) rfl rfl rfl (by decide) (by first|(simp [A8,A9];done)|fail) F7 rfl ?_|refine AK9 (by assumption) rfl rfl rfl (by first|(simp [A8,A9];done)|fail) F7 rfl rfl ?_|refine sxH ?_|((with_reducible first|apply N9 hQz|apply O1 hQz)<;>(try intro hsp hQz))|exact hQz.out))<;>(try (conv=>whnf))))):p:=h ⟨hq⟩
section
variable {L:List Vw} {t:TS} {v:Vw} {s:Nat}
theorem t_Protect (h:TOk L t) (hs:s ∈ t.Q v.1) (hu:t.U s=v) (w:Bool) :
  ∃ t' A B,L=A++v::B∧TOk (A++prV w v::B) t'∧X7 95 [.int .i64 (v.1:Nat),.int .i64 (v.2.1:Nat),.bool w] t (.int .i64 0) t':=by
 obtain ⟨X,Y,A,B,hQ,hL,hX,hY,hsX,hsY⟩:=h.around hs hu
 have hv:v ∈ L:=by rw [hL];simp
 have hok:=h.ok v hv
 have hm:v.1 < t.m:=by rw [h.hm];exact hok.1
 have hfi:=BL6 hok.1 hok.2.1 h.keys (h.entry hs hu)
 have hget:=h.get hs
 rw [hu] at hget
 obtain ⟨i1,hput⟩:=p_put h.pool.inv (s:=s) (i:=v.1) ⟨hm,hQ⟩ (num v.1) (num v.2.1) (num v.2.2.1) (bo w)
 have hT:=h.chg (w:=prV w v) (C:=t.C) hu hQ hL hX hY hsX hsY rfl rfl hok.2.2 (fun f=>by
  have:=h.cnt f
  rw [hL,l9,Z9] at this
  rw [l9,Z9];exact this) ⟨i1,h.pool.m_le,h.pool.n_le,h.pool.n_pos⟩
 refine ⟨_,A,B,hL,hT,X7.mk (D9 E9 b95 rfl ?_) AF7 A8⟩
 unfold c95
 obtain ⟨va,vk,vf,vw⟩:=v
 have hput':AE1 146 [.int .i64 (s:Nat),.agg [.int .i64 (va:Nat),.int .i64 (vk:Nat),.int .i64 (vf:Nat),.bool w]] t.n t.m (X0 t.n t.m t.V t.W t.V3 t.V4 t.S) (.int .i64 0) (X0 t.n t.m (I6 t.V s (num va)) (I6 t.W s (num vk)) (I6 t.V3 s (num vf)) (I6 t.V4 s (bo w)) t.S):=hput
 unfold vwC at hget
 dsimp only at *
 clear hput
 (refine wx_Yqn ?_;repeat' (first|with_reducible refine And.intro ?_ ?_|intro hsp))
 all_goals exact M4 rfl A8 rfl rfl rfl rfl rfl
theorem t_Fork_no (a b:Int) (hn:¬ (inR 64 a∧inR 64 b)):X7 85 [.int .i64 a,.int .i64 b] t (.tup [.int .i64 0,.int .i64 7]) t:=by
 have k1:=Ag9 a b
 rw [if_neg hn] at k1
 refine X7.mk (D9 E9 b85 rfl ?_) I4 F7
 unfold c85
 (refine wx_Yq ?_;repeat' (first|with_reducible refine And.intro ?_ ?_|intro hsp))
 all_goals exact M4 rfl F7 rfl rfl rfl rfl rfl
theorem AX5 (h:TOk L t) {a b:Nat} {e:Int} (ha:a < 64) (hb:b < 64) (he:(e=2∧a=b)∨(e=8∧a ≠ b∧(ofA b L).length ≠ 0)∨(e=5∧a ≠ b∧(ofA b L).length=0∧2000 < L.length+(ofA a L).length)):X7 85 [.int .i64 (a:Nat),.int .i64 (b:Nat)] t (.tup [.int .i64 0,.int .i64 e]) t:=by
 have k1:=Ag9 (a:Nat) (b:Nat)
 rw [if_pos ⟨Ac3 ha,Ac3 hb⟩] at k1
 have l1:=h.len_q ha
 have l2:=h.len_q hb
 have hml:(t.E.map AG8).length=L.length:=by rw [List.length_map,h.elen]
 have hLl:=h.len
 have l3:(ofA a L).length≤L.length:=List.length_filter_le ..
 refine X7.mk (D9 E9 b85 rfl ?_) I4 F7
 unfold c85
 rcases he with ⟨rfl,h1⟩ | ⟨rfl,h1,h2⟩ | ⟨rfl,h1,h2,h3⟩
 all_goals (refine wx_Yqn ?_;repeat' (first|with_reducible refine And.intro ?_ ?_|intro hsp))
 all_goals first|exact M4 rfl F7 rfl rfl rfl rfl rfl|(exfalso;omega)
theorem Ax4 {e:Int}:Plain (.tup [.nils,.int .i64 e]):=G7 fun x hx=>by
 simp only [List.mem_cons,List.not_mem_nil,or_false] at hx
 rcases hx with rfl|rfl
 ·exact AJ0
 ·exact A8
theorem t_Drop_no (a:Int) (hn:¬ inR 64 a):X7 86 [.int .i64 a] t (.tup [.nils,.int .i64 7]) t:=by
 have k1:=AJ3 a
 rw [if_neg hn] at k1
 refine X7.mk (D9 E9 b86 rfl ?_) AO8 Ax4
 unfold c86
 (refine wx_Yq ?_;repeat' (first|with_reducible refine And.intro ?_ ?_|intro hsp))
 all_goals exact M4 rfl Ax4 rfl rfl rfl rfl rfl
theorem BE3 (a at_:Int) (w:Bool) (hn:¬ inR 65536 at_):X7 121 [.int .i64 a,.int .i64 at_,.bool w] t (.tup [.int .i64 0,.int .i64 7]) t:=by
 unfold inR at hn
 refine X7.mk (D9 E9 b121 rfl ?_) AF7 F7
 unfold c121
 (refine wx_Yq ?_;repeat' (first|with_reducible refine And.intro ?_ ?_|intro hsp))
 all_goals first|exact M4 rfl F7 rfl rfl rfl rfl rfl|(exfalso;omega)
theorem BS5 (a:Int) (at_:Nat) (w:Bool) (hat:at_ < 65536) (hn:¬ inR 64 a):X7 121 [.int .i64 a,.int .i64 (at_:Nat),.bool w] t (.tup [.int .i64 0,.int .i64 7]) t:=by
 have hq:=q64 (t:=at_) (by omega)
 have hf:=t_Find_no (t:=t) a ((at_ / 64:Nat):Int) fun h=>hn h.1
 refine X7.mk (D9 E9 b121 rfl ?_) AF7 F7
 unfold c121
 (refine wx_Yq ?_;repeat' (first|with_reducible refine And.intro ?_ ?_|intro hsp))
 all_goals first|exact M4 rfl F7 rfl rfl rfl rfl rfl|(exfalso;omega)
end
end Go.Proofs.YtphggldkligldaaGreat.Sh
