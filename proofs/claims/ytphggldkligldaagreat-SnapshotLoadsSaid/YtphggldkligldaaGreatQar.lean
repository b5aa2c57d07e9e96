/-
 Calls over a table and a system: byteOf,all,Write.
 Fork.
 Drop.
-/
import Derived.Test.YtphggldkligldaaGreatQaq
set_option linter.unusedSimpArgs false
set_option linter.unusedVariables false
set_option maxHeartbeats 1600000
namespace Go.Pol
open Go.Am
end Go.Pol
namespace Go.Proofs.YtphggldkligldaaGreat.Sh
open Go Go.Am Go.Pol
def Av7 (n:Int):List AV:=[.int .i64 n]
theorem Ad0 (n:Int):(Av7 n).length=1:=rfl
theorem AB0 (n:Int):∀ x ∈ Av7 n,Plain x:=fun x hx=>by obtain rfl:=List.mem_singleton.1 hx;exact A8
theorem AG5 {l:List Int}:Plain (.isl (l.map Av7)):=AC4 fun e he=>by
 obtain ⟨n,_,rfl⟩:=List.mem_map.1 he;exact AB0 n
theorem wk_frzI {σ:Nat→Nat} {h h':Hp} {d:Nat} {L:List Int} (hi:L.length ≠ 0→lk h.l d=some (.cells (flat Av7 L))) (hi':∀ j o,lk h'.l j=some o→σ j ≠ d) (hs:AH8 σ h h'):WkV Tryz.prog σ h h' (AU0 d 1 L.length) (.isl (L.map Av7)):=by
 by_cases hz:L.length=0
 ·rw [hz,BG4,List.eq_nil_of_length_eq_zero hz];exact AZ3
 ·rw [AZ7 hz]
  refine Ah8 (hi hz) hi' hs (by simp) (fun e he=>?_) ?_ fun e he x hx=>?_
  ·obtain ⟨s,_,rfl⟩:=List.mem_map.1 he;rfl
  ·rw [List.drop_zero,List.take_of_length_le (by rw [H8 Ad0];exact Nat.le_refl _)];rfl
  ·obtain ⟨s,_,rfl⟩:=List.mem_map.1 he;exact AB0 s x hx
structure LocTX (f:Nat) (avs:List AV) (t:TS) (s:Sy) (r:AV) (s':Sy):Prop where
 out:AY7 Tryz.prog G0 f (.ptr 0 0 :: .ptr 5 0::avs) (rdN t s 0 1 2 3 4 5) 6 fun x h1=>x=r∧h1=⟨rdN t s' 0 1 2 3 4 5,6⟩
 pa:∀ x ∈ avs,Plain x
 pr:Plain r
theorem end_TX {top:Bool} {h:Hp} {N0:Nat} {x r:AV} {t:TS} {s:Sy} (hr:AH8 (rn []) h ⟨rdN t s 0 1 2 3 4 5,6⟩→WkV Tryz.prog (rn []) h ⟨rdN t s 0 1 2 3 4 5,6⟩ x r) (h0:lk h.l 0=some (.cells (tabC 1 4 t.C))) (h1:lk h.l 1=some (.cells [.sl 2 0 t.n t.n 7,.sl 3 0 t.m t.m 3,.int .i64 (t.S.fr:Nat)])) (h2:lk h.l 2=some (.cells (D6 t.n t.V t.W t.V3 t.V4 t.S.L t.S.N t.S.P))) (h3:lk h.l 3=some (.cells (O6 t.m t.S.A t.S.B t.S.C))) (h4:lk h.l 4=some (.maps (t.E.map AO5))) (h5:lk h.l 5=some (.cells s.a)) (hN0:N0≤6:=by decide) :
  AV7 top Tryz.prog N0 h x (fun r' h'=>r'=r∧h'=⟨rdN t s 0 1 2 3 4 5,6⟩):=by
 have hs:AH8 (rn []) h ⟨rdN t s 0 1 2 3 4 5,6⟩:=fun i o hi=>by
  simp only [rdN,lk] at hi
  show ∃ o',lk h.l i=some o'
  split at hi
  ·rename_i e;subst e;exact ⟨_,h0⟩
  ·split at hi
   ·rename_i e;subst e;exact ⟨_,h1⟩
   ·split at hi
    ·rename_i e;subst e;exact ⟨_,h2⟩
    ·split at hi
     ·rename_i e;subst e;exact ⟨_,h3⟩
     ·split at hi
      ·rename_i e;subst e;exact ⟨_,h4⟩
      ·split at hi
       ·rename_i e;subst e;exact ⟨_,h5⟩
       ·cases hi
 refine y9 [] rfl hN0 (Q5 rfl) (hr hs) ?_ ⟨rfl,rfl⟩
 exact AO3 hs (show 0 < 6 by decide) h0 rfl (show 1 < 6 by decide) rfl (show 4 < 6 by decide)
  (J5 (show 1 < 6 by decide) h1 (C8 (AH0 rfl (show 2 < 6 by decide) rfl (Nat.le_refl _) (Nat.le_refl _)) (C8 (AH0 rfl (show 3 < 6 by decide) rfl (Nat.le_refl _) (Nat.le_refl _)) (C8 (L8 rfl) H7)))
  (F9 hs (show 2 < 6 by decide) h2 rfl F7 (F9 hs (show 3 < 6 by decide) h3 rfl H6 (AD4 hs (show 4 < 6 by decide) h4 rfl K4 (F9 hs (show 5 < 6 by decide) h5 rfl I5 J6)))))
theorem cx_tx {f:Nat} {avs:List AV} {t:TS} {s s':Sy} {a b c d e g nx:Nat} {l:List (Nat × AObj)} {r:AV} {K:AV→Hp→Prop} (hc:LocTX f avs t s r s')
  (h0:lk l a=some (.cells (tabC b e t.C))) (h1:lk l b=some (.cells [.sl c 0 t.n t.n 7,.sl d 0 t.m t.m 3,.int .i64 (t.S.fr:Nat)])) (h2:lk l c=some (.cells (D6 t.n t.V t.W t.V3 t.V4 t.S.L t.S.N t.S.P))) (h3:lk l d=some (.cells (O6 t.m t.S.A t.S.B t.S.C))) (h4:lk l e=some (.maps (t.E.map AO5))) (h5:lk l g=some (.cells s.a))
  (hlt:a < nx∧b < nx∧c < nx∧d < nx∧e < nx∧g < nx) (hd:Ae1 [a,b,c,d,e,g]=true)
  (hk:AI1 [a,b,c,d,e,g] l fun l2=>K r ⟨rdN t s' a b c d e g++l2,nx⟩):AG2 Tryz.prog G0 (.fn f [] []) (.ptr a 0 :: .ptr g 0::avs) ⟨l,nx⟩ K:=by
 have e0:enter [a,b,c,d,e,g] a 0:=rfl
 have e1:enter [a,b,c,d,e,g] b 1:=rfl
 have e2:enter [a,b,c,d,e,g] c 2:=rfl
 have e3:enter [a,b,c,d,e,g] d 3:=rfl
 have e4:enter [a,b,c,d,e,g] e 4:=rfl
 have e5:enter [a,b,c,d,e,g] g 5:=rfl
 have k0:back [a,b,c,d,e,g] nx 0 a:=rfl
 have k1:back [a,b,c,d,e,g] nx 1 b:=rfl
 have k2:back [a,b,c,d,e,g] nx 2 c:=rfl
 have k3:back [a,b,c,d,e,g] nx 3 d:=rfl
 have k4:back [a,b,c,d,e,g] nx 4 e:=rfl
 have k5:back [a,b,c,d,e,g] nx 5 g:=rfl
 refine AF0 (l1:=rdN t s' a b c d e g) [a,b,c,d,e,g] hc.out F6 hd
  (.cons e0 h0 (AK4 e1 e4) (.cons e1 h1 ⟨Y3 e2,Y3 e3,D5 A8,trivial⟩ (.cons e2 h2 X8 (.cons e3 h3 p9 (.maps e4 h4 K4 (.cons e5 h5 (C9 I5) .nil))))))
  ?_ (by intro x hx;simp only [List.mem_cons,List.not_mem_nil,or_false] at hx;omega) (D5 hc.pr)
  (.cons k0 (AK4 k1 k4) (.cons k1 ⟨Y3 k2,Y3 k3,D5 A8,trivial⟩ (.cons k2 X8 (.cons k3 p9 (.maps k4 K4 (.cons k5 (C9 I5) .nil)))))) hk
 simp only [List.nil_append,List.append_nil]
 exact ⟨J4 e0,J4 e5,C9 hc.pa⟩
section
variable {L:List Vw} {t:TS} {s:Sy} {v:Vw} {fs:List Nat}
end
end Go.Proofs.YtphggldkligldaaGreat.Sh
namespace Go.Pol
open Go.Am
def roV (v:Vw):Vw:=(v.1,v.2.1,v.2.2.1,false)
def cpV (b:Nat) (v:Vw):Vw:=(b,v.2.1,v.2.2.1,false)
structure Frk (L O:List Vw) (b k:Nat) (M:List Vw):Prop where
 mem:∀ v,v ∈ M ↔ (v ∈ L∧v ∉ O.take k)∨∃ u,u ∈ O.take k∧(v=roV u∨v=cpV b u)
 len:M.length=L.length+k
theorem BG7 {L:List Vw} (h:srt L) {k:Nat} (hk:k < L.length):nth dV L k ∉ L.take k:=fun hm=>BM5 h hk _ hm ⟨rfl,rfl⟩
theorem Av2 {L:List Vw} {k:Nat} (hk:k < L.length) {v:Vw}:v ∈ L.take (k+1) ↔ v ∈ L.take k∨v=nth dV L k:=by
 rw [Z9 (d:=dV) hk,List.mem_append,List.mem_singleton]
end Go.Pol
namespace Go.Proofs.YtphggldkligldaaGreat.Sh
open Go Go.Am Go.Pol
theorem plx_Yo {p:Prop} (h:p:=by ((first|exact plw|(with_reducible first|apply L9|apply J7|apply J2|apply H9|apply D8|fail)|fail);first|done|fail)):p:=h
theorem ppx_Yo {p:Prop} (h:p:=by ((first|with_reducible assumption|(with_reducible first|apply l9|apply F7|apply H6|apply R8|apply R3 _ _|apply V8|apply I7 AA3|apply I5|fail)|exact ppw|fail);first|done|fail)):p:=h
open Go.Proofs.YtphggldkligldaaGreat.Sh renaming plx_Yo → plx
open Go.Proofs.YtphggldkligldaaGreat.Sh renaming ppx_Yo → ppx
theorem wx_Yo {p q:Prop} (hq:q) (h:X0 q→p:=by (intro hQz;((repeat' ((try (conv=>whnf));first|refine sxA ?_|refine sxF ?_|refine o8 (by assumption) rfl rfl rfl (by decide) (by first|exact AI6|(simp [A8,A9];done)|fail) (by first|exact D8|exact A8|fail) rfl ?_|refine sxH ?_|((with_reducible first|apply M9 hQz|apply N7 hQz)<;>(try intro hsp hQz))|exact hQz.out))<;>(try (conv=>whnf))))):p:=h ⟨hq⟩
theorem wx_Yon {p q:Prop} (hq:q) (h:X0 q→p:=by (intro hQz;((repeat' ((try (conv=>whnf));first|refine sxA ?_|refine BP3 rfl (by with_reducible assumption) ?_|refine I4 (gc2 hx) ?_|refine j5 (by rw [F3];omega) rfl (Y4 (by rw [List.length_drop,F3];omega) hcell ?_)|refine sxN ?_|(refine M7 E9 b119 rfl ?_;unfold c119)|(refine M7 E9 b145 rfl ?_;unfold c145)|refine Aa4 (by assumption) rfl (by omega) ?_|refine o8 (by assumption) rfl rfl rfl (by decide) (by first|exact AI6|(simp [A8,A9];done)|fail) (by first|exact D8|exact A8|fail) rfl ?_|refine AS2 (by assumption) rfl rfl rfl (by first|(simp [A8,A9];done)|fail) D8 rfl rfl ?_|(refine M7 E9 b174 rfl ?_;unfold c174)|refine AV5 E9 rfl hF2 hA2 hB2 rfl ?_|refine AA2 c2 rfl rfl rfl rfl rfl (by decide) rfl ?_|refine AS2 (by assumption) rfl rfl rfl (by first|exact AI6|(simp [A8,A9];done)|fail) (by first|exact D8|exact A8|fail) rfl rfl ?_|refine sxH ?_|((with_reducible first|apply M9 hQz|apply N7 hQz)<;>(try intro hsp hQz))|exact hQz.out))<;>(try (conv=>whnf))))):p:=h ⟨hq⟩
section
variable {L:List Vw} {t:TS}
theorem fork_U {O:List Vw} {Q0:List Nat} {U:Nat→Vw} {k:Nat} (hk:k < O.length) (hU:Q0.map U=(O.take k).map roV++O.drop k):k < Q0.length∧U (nth 0 Q0 k)=nth dV O k:=by
 have hQl:Q0.length=O.length:=by
  have:=congrArg List.length hU
  simp only [List.length_map,List.length_append,List.length_take,List.length_drop] at this;omega
 have hkq:k < Q0.length:=by omega
 have h1:(Q0.map U)[k]? = ((O.take k).map roV++O.drop k)[k]?:=by rw [hU]
 rw [List.getElem?_map,List.getElem?_append_right (by rw [List.length_map,List.length_take];omega),List.length_map,List.length_take,Nat.min_eq_left (by omega),Nat.sub_self,List.getElem?_drop,Nat.add_zero,List.getElem?_eq_getElem hkq,List.getElem?_eq_getElem hk] at h1
 rw [K9 hkq,K9 hk];exact ⟨hkq,Option.some.inj h1⟩
theorem fork_step {a b:Nat} (hab:a ≠ b) (hb:b < 64) (hL:Go.Pol.srt L) (hnb:∀ v ∈ L,v.1 ≠ b) (hlen:L.length+(ofA a L).length≤2000) {Q0:List Nat} {k:Nat} {M:List Vw} (hk:k < (ofA a L).length) (hM:Frk L (ofA a L) b k M) (ht:TOk M t) (hQ:t.Q a=Q0) (hU:Q0.map t.U=((ofA a L).take k).map roV++(ofA a L).drop k) :
  ∃ t2 M2,(Frk L (ofA a L) b (k+1) M2∧TOk M2 t2∧t2.Q a=Q0∧Q0.map t2.U=((ofA a L).take (k+1)).map roV++(ofA a L).drop (k+1)) ∧
   AJ2 146 [.int .i64 (nth 0 Q0 k:Nat),.agg (vwC (roV (nth dV (ofA a L) k)))] t.n t.m (u6 t.n t.m t.V t.W t.V3 t.V4 t.S) (.int .i64 0) (u6 t.n t.m (M5 t.V (nth 0 Q0 k) (num (nth dV (ofA a L) k).1)) (M5 t.W (nth 0 Q0 k) (num (nth dV (ofA a L) k).2.1)) (M5 t.V3 (nth 0 Q0 k) (num (nth dV (ofA a L) k).2.2.1)) (M5 t.V4 (nth 0 Q0 k) (bo false)) t.S) ∧
   AC1 117 [.agg (vwC (cpV b (nth dV (ofA a L) k)))] (t.chg (nth 0 Q0 k) (roV (nth dV (ofA a L) k)) t.C) (.tup []) t2:=by
 have hO:Go.Pol.srt (ofA a L):=hL.sublist List.filter_sublist
 have hQl:Q0.length=(ofA a L).length:=by
  have:=congrArg List.length hU
  simp only [List.length_map,List.length_append,List.length_take,List.length_drop] at this;omega
 have hkq:k < Q0.length:=by omega
 have hxm:nth 0 Q0 k ∈ t.Q a:=by rw [hQ];exact Z6 hkq
 have hxU:t.U (nth 0 Q0 k)=nth dV (ofA a L) k:=by
  have h1:(Q0.map t.U)[k]? = (((ofA a L).take k).map roV++(ofA a L).drop k)[k]?:=by rw [hU]
  rw [List.getElem?_map,List.getElem?_append_right (by rw [List.length_map,List.length_take];omega),List.length_map,List.length_take,Nat.min_eq_left (by omega),Nat.sub_self,List.getElem?_drop,Nat.add_zero,List.getElem?_eq_getElem hkq,List.getElem?_eq_getElem hk] at h1
  rw [K9 hkq,K9 hk];exact Option.some.inj h1
 have hum:nth dV (ofA a L) k ∈ ofA a L:=Z6 hk
 have hua:(nth dV (ofA a L) k).1=a:=(R4.1 hum).2
 have huL:nth dV (ofA a L) k ∈ L:=(R4.1 hum).1
 have hnt:=BG7 hO hk
 have htn:=BM5 hO hk
 have hms:=fun v=>Av2 (v:=v) hk
 have htk:=Z9 (d:=dV) hk
 have hdr:(ofA a L).drop k=nth dV (ofA a L) k::(ofA a L).drop (k+1):=by rw [K9 hk,List.drop_eq_getElem_cons hk]
 generalize hu:nth dV (ofA a L) k=u at *
 generalize hx:nth 0 Q0 k=x at *
 have hxm':x ∈ t.Q u.1:=by rw [hua];exact hxm
 obtain ⟨X,Y,A,B,hQx,hMx,hX,hY,hsX,hsY⟩:=ht.around hxm' hxU
 have huM:u ∈ M:=by rw [hMx];simp
 have hok:=ht.ok u huM
 have hm:u.1 < t.m:=by rw [ht.hm];exact hok.1
 obtain ⟨i1,hput⟩:=p_put ht.pool.inv (s:=x) (i:=u.1) ⟨hm,hQx⟩ (num u.1) (num u.2.1) (num u.2.2.1) (bo false)
 have hT:=ht.chg (w:=roV u) (C:=t.C) hxU hQx hMx hX hY hsX hsY rfl rfl hok.2.2 (fun f=>by
  have:=ht.cnt f
  rw [hMx,AC3,AB2] at this
  rw [AC3,AB2];exact this) ⟨i1,ht.pool.m_le,ht.pool.n_le,ht.pool.n_pos⟩
 have hsrM:=ht.srt
 rw [hMx] at hsrM
 have hne:=Ao4 hsrM
 -- who is in the turned list
 have hmem1:∀ v,v ∈ A++roV u::B ↔ (v ∈ M∧v ≠ u)∨v=roV u:=fun v=>by
  rw [hMx]
  simp only [List.mem_append,List.mem_cons]
  constructor
  ·rintro (h|h|h)
   ·exact .inl ⟨.inl h,fun e=>hne.1 v h (e▸Ar8 u)⟩
   ·exact .inr h
   ·exact .inl ⟨.inr (.inr h),fun e=>hne.2 v h (e▸Ar8 u)⟩
  ·rintro (⟨h|h|h,h2⟩|h)
   ·exact .inl h
   ·exact absurd h h2
   ·exact .inr (.inr h)
   ·exact .inr (.inl h)
 have hsrt1:=hT.srt
 have hnat:∀ w ∈ A++roV u::B,¬ atV (b,u.2.1) w:=fun w hw ha=>by
  rcases (hmem1 w).1 hw with ⟨h1,h2⟩|h1
  ·rcases (hM.mem w).1 h1 with ⟨h3,_⟩ | ⟨u',h3,h4|h4⟩
   ·exact hnb w h3 ha.1
   ·rw [h4] at ha
    have h5:u'.1=b:=ha.1
    have h6:=(R4.1 (List.mem_of_mem_take h3)).2
    omega
   ·rw [h4] at ha
    have h5:u'.2.1=u.2.1:=ha.2
    have h6:=(R4.1 (List.mem_of_mem_take h3)).2
    exact htn u' h3 ⟨by rw [h6,hua],h5⟩
  ·rw [h1] at ha
   have h5:u.1=b:=ha.1
   omega
 have hl1:(A++roV u::B).length=L.length+k:=by rw [← hM.len,hMx];simp
 obtain ⟨t2,ht2,_,hQ2,hput2⟩:=t_put hT (v:=cpV b u) ⟨hb,hok.2⟩ hnat (by omega)
 refine ⟨t2,_,⟨⟨fun v=>?_,?_⟩,ht2,?_,?_⟩,hput,hput2⟩
 ·rw [AU6,hmem1,hM.mem]
  constructor
  ·rintro (h | ⟨⟨h1,h2⟩ | ⟨u',h1,h2⟩,h3⟩|h)
   ·exact .inr ⟨u,(hms u).2 (.inr rfl),.inr h⟩
   ·exact .inl ⟨h1,fun h4=>(((hms v).1 h4).elim h2 h3)⟩
   ·exact .inr ⟨u',(hms u').2 (.inl h1),h2⟩
   ·exact .inr ⟨u,(hms u).2 (.inr rfl),.inl h⟩
  ·rintro (⟨h1,h2⟩ | ⟨u',h1,h2⟩)
   ·exact .inr (.inl ⟨.inl ⟨h1,fun h3=>h2 ((hms v).2 (.inl h3))⟩,fun e=>h2 ((hms v).2 (.inr e))⟩)
   ·rcases (hms u').1 h1 with h3|rfl
    ·refine .inr (.inl ⟨.inr ⟨u',h3,h2⟩,fun e=>?_⟩)
     rcases h2 with h2|h2
     ·rw [e] at h2
      have h6:=(R4.1 (List.mem_of_mem_take h3)).2
      exact htn u' h3 ⟨by rw [h6,hua],by rw [h2];rfl⟩
     ·rw [e] at h2
      have h7:u.1=b:=by rw [h2];rfl
      omega
    ·rcases h2 with h2|h2
     ·exact .inr (.inr h2)
     ·exact .inl h2
 ·rw [Ag1,hl1];omega
 ·rw [hQ2 a (show a ≠ (cpV b u).1 from hab)];exact hQ
 ·have h1:=ht2.lst a
  rw [hQ2 a (show a ≠ (cpV b u).1 from hab),Av0 (show a ≠ (cpV b u).1 from hab),← hT.lst] at h1
  have hQx':Q0=X++x::Y:=by rw [← hQ,← hua];exact hQx
  have h2:(t.chg x (roV u) t.C).Q a=Q0:=hQ
  rw [h2] at h1
  rw [h1]
  show Q0.map (updU t.U x (roV u))=_
  have h3:X.length=k:=by
   have hnd:=ht.pool.inv.st.nd a
   rw [hQ,hQx'] at hnd
   have e1:(X++x::Y)[X.length]? = some x:=by simp
   have e2:(X++x::Y)[k]? = some x:=by rw [← hQx',List.getElem?_eq_getElem hkq,← hx,K9 hkq]
   have hl:=(List.getElem?_eq_some_iff.1 e1)
   have hl2:=(List.getElem?_eq_some_iff.1 e2)
   obtain ⟨b1,e1⟩:=hl
   obtain ⟨b2,e2⟩:=hl2
   exact (List.getElem_inj hnd).1 (e1.trans e2.symm)
  have h4:X.map t.U++u::Y.map t.U=((ofA a L).take k).map roV++u::(ofA a L).drop (k+1):=by
   rw [← hdr,← hU,hQx',List.map_append,List.map_cons,hxU]
  have h5:=List.append_inj h4 (by rw [List.length_map,List.length_map,List.length_take,h3];omega)
  rw [hQx',List.map_append,List.map_cons,AN6 hsX,AN6 hsY,AT1,htk,List.map_append,h5.1,(List.cons.inj h5.2).2,List.append_assoc]
  rfl
theorem TOk.len_q (h:TOk L t) {a:Nat} (ha:a < 64):AJ2 144 [.int .i64 (a:Nat)] t.n t.m (u6 t.n t.m t.V t.W t.V3 t.V4 t.S) (.tup [.int .i64 ((ofA a L).length:Nat),.int .i64 0]) (u6 t.n t.m t.V t.W t.V3 t.V4 t.S):=by
 rw [h.lenQ];exact p_len h.pool.inv h.pool.n_pos (by rw [h.hm];exact ha)
theorem t_Fork (h:TOk L t) {a b:Nat} (hab:a ≠ b) (ha:a < 64) (hb:b < 64) (hnb:ofA b L=[]) (hlen:L.length+(ofA a L).length≤2000) :
  ∃ t' M,TOk M t'∧Frk L (ofA a L) b (ofA a L).length M∧AC1 85 [.int .i64 (a:Nat),.int .i64 (b:Nat)] t (.tup [.int .i64 ((ofA a L).length:Nat),.int .i64 0]) t':=by
 have hnb':∀ v ∈ L,v.1 ≠ b:=fun v hv e=>by
  have : v ∈ ofA b L:=R4.2 ⟨hv,e⟩
  rw [hnb] at this;cases this
 have hlq:=h.lenQ a
 obtain ⟨T,hT0,hT,hst⟩:=chain (n:=(ofA a L).length) (P:=fun k (x:List Vw × TS)=>Frk L (ofA a L) b k x.1∧TOk x.1 x.2∧x.2.Q a=t.Q a∧(t.Q a).map x.2.U=((ofA a L).take k).map roV++(ofA a L).drop k)
  (S := fun k (x y : List Vw × TS) => AJ2 146 [.int .i64 (nth 0 (t.Q a) k : Nat), .agg (vwC (roV (nth dV (ofA a L) k)))] x.2.n x.2.m (u6 x.2.n x.2.m x.2.V x.2.W x.2.V3 x.2.V4 x.2.S) (.int .i64 0) (u6 x.2.n x.2.m (M5 x.2.V (nth 0 (t.Q a) k) (num (nth dV (ofA a L) k).1)) (M5 x.2.W (nth 0 (t.Q a) k) (num (nth dV (ofA a L) k).2.1)) (M5 x.2.V3 (nth 0 (t.Q a) k) (num (nth dV (ofA a L) k).2.2.1)) (M5 x.2.V4 (nth 0 (t.Q a) k) (bo false)) x.2.S) ∧
   AC1 117 [.agg (vwC (cpV b (nth dV (ofA a L) k)))] (x.2.chg (nth 0 (t.Q a) k) (roV (nth dV (ofA a L) k)) x.2.C) (.tup []) y.2)
  (L, t) ⟨⟨fun v => by simp, rfl⟩, h, rfl, by rw [h.lst]; simp⟩ (fun k x hk hx => by
   obtain ⟨h1,h2,h3,h4⟩:=hx
   obtain ⟨t2,M2,h5,h6,h7⟩:=fork_step hab hb h.srt hnb' hlen hk h1 h2 h3 h4
   exact ⟨(M2,t2),h5,h6,h7⟩)
 obtain ⟨g1,g2,_,_⟩:=hT _ (Nat.le_refl _)
 have hen:=p_end h.pool.inv h.pool.n_pos (show a < t.m by rw [h.hm];exact ha) true
 rw [if_pos rfl,Ay9] at hen
 have k1:=Ap3 (a:Nat) (b:Nat)
 rw [if_pos ⟨Aj6 ha,Aj6 hb⟩] at k1
 have l1:=h.len_q ha
 have l2:AJ2 144 [.int .i64 (b:Nat)] t.n t.m (u6 t.n t.m t.V t.W t.V3 t.V4 t.S) (.tup [.int .i64 0,.int .i64 0]) (u6 t.n t.m t.V t.W t.V3 t.V4 t.S):=by have:=h.len_q hb;rw [hnb] at this;exact this
 have hml:(t.E.map AO5).length=L.length:=by rw [List.length_map,h.elen]
 have hLl:=h.len
 refine ⟨(T (ofA a L).length).2,(T (ofA a L).length).1,g2,g1,AC1.mk (G5 E9 b85 rfl ?_) O5 D8⟩
 unfold c85
 generalize hn1:(ofA a L).length=n1 at *
 (refine wx_Yon ?_;repeat' (first|with_reducible refine And.intro ?_ ?_|intro hsp))
 refine AR2 E9 b173 rfl trivial ?_
 intro frl2 asl2 bdl2 hF2 hA2 hB2
 unfold c173
 (refine wx_Yo ?_;repeat' (first|with_reducible refine And.intro ?_ ?_|intro hsp))
 have hTQ:(T 0).2=t:=by rw [hT0]
 rw [← hlq] at hen ⊢
 clear hen l1 l2 k1
 (refine G8 [0,1,2,3] (fun (k:Nat)=>[(5,.int .i64 (if n1=0 then 0 else hd ((t.Q a).drop k))),(6,.int .i64 (if n1=0 then 4 else 0))]) (fun (k:Nat)=>⟨tabS (T k).2++[(5,.cells [.ptr 0 0]),(6,.cells [.int .i64 (b:Nat)]),(18,.cells [.ptr 1 0]),(19,.cells [.int .i64 (a:Nat)]),(20,.cells [.bool false]),(21,.loop .ready none frl2 [65,66] asl2 bdl2)],22⟩) (fun (k:Nat)=>k≤n1) (fun (k:Nat)=>n1 - k) (0) [] rfl (fun _=>by first|exact Nat.zero_le _|(dsimp only;omega)) ?_ (by ((try (conv=>whnf));(rw [hTQ]);exact U7)) ?_)
 ·exact Nat.zero_le _
 intro k hk
 by_cases hkl:k < n1
 ·obtain ⟨f1,f2,f3,f4⟩:=hT k hk
  obtain ⟨c1,c2⟩:=hst k hkl
  have hkq:k < ((T k).2.Q a).length:=by rw [f3];omega
  obtain ⟨hx,hd0,hnx,hnv,hm,hcell⟩:=f2.at_ hkq
  rw [f3] at hx hd0 hnx hcell
  rw [(fork_U (by omega) f4).2] at hcell
  have hua:(nth dV (ofA a L) k).1=a:=(R4.1 (Z6 (by omega))).2
  rw [if_neg (show ¬ n1=0 by omega),if_neg (show ¬ n1=0 by omega),hd0]
  have hnx0:¬ n1=0:=by omega
  have hn2:(T k).2.n=2000:=f2.hn
  clear hnv hm f1 f2 f3 f4 hd0 hkq
  generalize nth dV (ofA a L) k=u at *
  generalize nth 0 (t.Q a) k=x at *
  obtain ⟨ua,uk,uf,uw⟩:=u
  unfold roV vwC at c1
  unfold cpV vwC at c2
  unfold vwC at hcell
  dsimp only at c1 c2 hcell hua
  subst hua
  (refine wx_Yon ?_;repeat' (first|with_reducible refine And.intro ?_ ?_|intro hsp))
  all_goals exact D9 (k+1) [] (by (try dsimp only);omega) (by first|omega|(dsimp only;omega)) rfl (by ((try dsimp only);rw [if_neg hnx0]);exact U7)
 ·obtain rfl:k=n1:=by omega
  have hd1:hd ((t.Q a).drop k) = -1:=by rw [List.drop_of_length_le (by omega)];rfl
  rw [hd1]
  by_cases hz:k=0
  ·rw [if_pos hz,if_pos hz]
   (refine wx_Yo ?_;repeat' (first|with_reducible refine And.intro ?_ ?_|intro hsp))
   exact X6 rfl D8 rfl rfl rfl rfl rfl
  ·rw [if_neg hz,if_neg hz]
   (refine wx_Yo ?_;repeat' (first|with_reducible refine And.intro ?_ ?_|intro hsp))
   exact X6 rfl D8 rfl rfl rfl rfl rfl
end
end Go.Proofs.YtphggldkligldaaGreat.Sh
namespace Go.Pol
open Go.Am
def noA (a:Nat) (L:List Vw):List Vw:=L.filter fun v=>decide (v.1 ≠ a)
def AQ5 (L O:List Vw) (k:Nat):List Vw:=L.filter fun v=>decide (v ∉ O.take k)
theorem less_0 (L O:List Vw):AQ5 L O 0=L:=by unfold AQ5;rw [List.filter_eq_self];intro v _;simp
theorem BX6 (L:List Vw) (a:Nat):AQ5 L (ofA a L) (ofA a L).length=noA a L:=by
 unfold AQ5 noA
 rw [List.take_length]
 refine List.filter_congr fun v hv=>decide_eq_decide.2 ?_
 rw [R4]
 exact ⟨fun h e=>h ⟨hv,e⟩,fun h e=>h e.2⟩
theorem less_s {L O A B:List Vw} {k:Nat} (hL:srt L) (hk:k < O.length) (h:AQ5 L O k=A++nth dV O k::B):AQ5 L O (k+1)=A++B:=by
 have hs:srt (AQ5 L O k):=hL.sublist List.filter_sublist
 have hs2:=hs
 rw [h] at hs2
 have hne:=Ao4 hs2
 refine Ax9 (hL.sublist List.filter_sublist) (hs2.sublist (List.Sublist.append_left (List.sublist_cons_self ..) _)) fun v=>?_
 have hm:v ∈ AQ5 L O k ↔ v ∈ A∨v=nth dV O k∨v ∈ B:=by rw [h];simp
 have h1:v ∈ AQ5 L O k ↔ v ∈ L∧v ∉ O.take k:=by unfold AQ5;rw [List.mem_filter,decide_eq_true_eq]
 have h2:v ∈ AQ5 L O (k+1) ↔ v ∈ L∧¬ (v ∈ O.take k∨v=nth dV O k):=by unfold AQ5;rw [List.mem_filter,decide_eq_true_eq,Av2 hk]
 rw [h2,List.mem_append]
 constructor
 ·rintro ⟨h3,h4⟩
  rcases hm.1 (h1.2 ⟨h3,fun e=>h4 (.inl e)⟩) with h5|h5|h5
  ·exact .inl h5
  ·exact absurd (.inr h5) h4
  ·exact .inr h5
 ·intro h3
  have h4:v ∈ AQ5 L O k:=hm.2 (h3.elim .inl fun h=>.inr (.inr h))
  refine ⟨(h1.1 h4).1,fun e=>?_⟩
  rcases e with e|e
  ·exact (h1.1 h4).2 e
  ·rcases h3 with h5|h5
   ·exact hne.1 v h5 (e▸Ar8 v)
   ·exact hne.2 v h5 (e▸Ar8 v)
def Aa1 (L O:List Vw) (k f:Nat):Bool:=decide (f ∈ frs (O.take k)) && decide (cntF (AQ5 L O k) f=0)
theorem gone_s {L O A B:List Vw} {k f:Nat} (hL:srt L) (hk:k < O.length) (h:AQ5 L O k=A++nth dV O k::B):Aa1 L O (k+1) f=if f=(nth dV O k).2.2.1 then decide (cntF (A++B) (nth dV O k).2.2.1=0) else Aa1 L O k f:=by
 unfold Aa1
 rw [less_s hL hk h,h,Z9 (d:=dV) hk]
 have e1:f ∈ frs (O.take k++[nth dV O k]) ↔ f ∈ frs (O.take k)∨f=(nth dV O k).2.2.1:=by unfold frs;simp
 by_cases hf:f=(nth dV O k).2.2.1
 ·rw [if_pos hf,decide_eq_true (e1.2 (.inr hf)),← hf];rfl
 ·rw [if_neg hf]
  have e2:decide (f ∈ frs (O.take k++[nth dV O k]))=decide (f ∈ frs (O.take k)):=decide_eq_decide.2 (by rw [e1];exact ⟨fun h=>h.elim id fun e=>absurd e hf,.inl⟩)
  rw [e2,AC3,AC3,AB2,if_neg (Ne.symm hf),Nat.zero_add]
theorem gone_0 (L O:List Vw) (f:Nat):Aa1 L O 0 f=false:=by unfold Aa1 frs;simp
def Ag7 (g:Nat→Bool) (k:Nat):List Nat:=(List.range k).filter g
theorem goneU_s (g:Nat→Bool) (k:Nat):Ag7 g (k+1)=if g k=true then Ag7 g k++[k] else Ag7 g k:=by
 unfold Ag7;rw [List.range_succ,List.filter_append]
 by_cases h:g k=true<;>simp [h]
theorem goneU_0 (g:Nat→Bool):Ag7 g 0=[]:=rfl
theorem BA4 (g:Nat→Bool) (k:Nat):(Ag7 g k).length≤k:=Nat.le_trans (List.length_filter_le ..) (by rw [List.length_range];exact Nat.le_refl _)
def AO6 (L:List Vw) (a:Nat):List Nat:=Ag7 (Aa1 L (ofA a L) (ofA a L).length) 1024
theorem rep_bool:(List.replicate 1024 (.bool false):List AV)=memA 1024 fun _=>.bool false:=by
 refine List.ext_getElem? fun i=>?_
 by_cases h:i < 1024
 ·rw [List.getElem?_replicate,if_pos h,V6 h]
 ·rw [List.getElem?_eq_none (by rw [List.length_replicate];omega),List.getElem?_eq_none (by rw [j4];omega)]
end Go.Pol
namespace Go.Proofs.YtphggldkligldaaGreat.Sh
open Go Go.Am Go.Pol
theorem plx_Yp {p:Prop} (h:p:=by ((first|exact plw|(with_reducible first|apply L9|apply J7|apply J2|apply H9|apply D8|apply plain_ga|fail)|fail);first|done|fail)):p:=h
theorem ppx_Yp {p:Prop} (h:p:=by ((first|with_reducible assumption|(with_reducible first|apply l9|apply F7|apply H6|apply R8|apply R3 _ _|apply V8|apply I7 AA3|apply I5|apply Aw5|apply I7 AQ1|fail)|exact ppw|fail);first|done|fail)):p:=h
open Go.Proofs.YtphggldkligldaaGreat.Sh renaming plx_Yp → plx
open Go.Proofs.YtphggldkligldaaGreat.Sh renaming ppx_Yp → ppx
theorem wx_Yp {p q:Prop} (hq:q) (h:X0 q→p:=by (intro hQz;((repeat' ((try (conv=>whnf));first|refine sxA ?_|refine j5 (by rw [j4];omega) rfl (Y4 (by rw [List.length_drop,j4];omega) hgl ?_)|refine I4 (hgx) ?_|refine sxF ?_|refine o8 (by assumption) rfl rfl rfl (by decide) (by first|(simp [A8,A9];done)|fail) D8 rfl ?_|refine AO2 (f:=nat1) (l2:=[f]) Ak3 (AH1 rfl rfl) (fun hz=>by first|(simp [lk,L6 hz];done)|exact L6 hz) (fun hz=>by first|(simp [lk,AL4 hz];done)|exact AL4 hz) rfl (by decide) ⟨by omega,by omega⟩ rfl ?_|(refine AO1 (f:=nat1) (l2:=[f]) Ak3 (AH1 rfl rfl) (fun hz=>by first|(simp [lk,L6 hz];done)|exact L6 hz) rfl (by decide) ⟨by omega,by omega⟩ ?_ ?_<;>intro hzz)|refine sxH ?_|((with_reducible first|apply M9 hQz|apply N7 hQz)<;>(try intro hsp hQz))|exact hQz.out))<;>(try (conv=>whnf))))):p:=h ⟨hq⟩
theorem wx_Ypn {p q:Prop} (hq:q) (h:X0 q→p:=by (intro hQz;((repeat' ((try (conv=>whnf));first|refine sxA ?_|refine I4 (gc2 hx) ?_|refine j5 (by rw [F3];omega) rfl (Y4 (by rw [List.length_drop,F3];omega) hcell ?_)|refine I4 (hC) ?_|refine E5 (by rw [j4];omega) hset ?_|refine sxN ?_|(refine M7 E9 b119 rfl ?_;unfold c119)|(refine M7 E9 b145 rfl ?_;unfold c145)|refine Aa4 (by assumption) rfl (by omega) ?_|(refine M7 E9 b174 rfl ?_;unfold c174)|refine AV5 E9 rfl hF2 hA2 hB2 rfl ?_|refine AA2 c1 rfl rfl rfl rfl rfl (by decide) rfl ?_|refine sxH ?_|((with_reducible first|apply M9 hQz|apply N7 hQz)<;>(try intro hsp hQz))|exact hQz.out))<;>(try (conv=>whnf))))):p:=h ⟨hq⟩
theorem Aw5 {g:Nat→Bool}:∀ x ∈ memA 1024 (fun f=>AV.bool (g f)),Plain x:=AJ7 fun _ _=>A9
theorem plain_ga {g:Nat→Bool}:Plain (.agg (memA 1024 fun f=>AV.bool (g f))):=P5 Aw5
theorem q9 {l:List Nat}:Plain (.isl (l.map nat1)):=AC4 fun e he=>by
 obtain ⟨n,_,rfl⟩:=List.mem_map.1 he;exact AQ1 n
theorem plain_tn {l:List Nat} {e:Int}:Plain (.tup [.isl (l.map nat1),.int .i64 e]):=G7 fun x hx=>by
 simp only [List.mem_cons,List.not_mem_nil,or_false] at hx
 rcases hx with rfl|rfl
 ·exact q9
 ·exact A8
theorem wk_frzN {σ:Nat→Nat} {h h':Hp} {d:Nat} {L:List Nat} (hi:L.length ≠ 0→lk h.l d=some (.cells (flat nat1 L))) (hi':∀ j o,lk h'.l j=some o→σ j ≠ d) (hs:AH8 σ h h'):WkV Tryz.prog σ h h' (AU0 d 1 L.length) (.isl (L.map nat1)):=by
 by_cases hz:L.length=0
 ·rw [hz,BG4,List.eq_nil_of_length_eq_zero hz];exact AZ3
 ·rw [AZ7 hz]
  refine Ah8 (hi hz) hi' hs (by simp) (fun e he=>?_) ?_ fun e he x hx=>?_
  ·obtain ⟨s,_,rfl⟩:=List.mem_map.1 he;rfl
  ·rw [List.drop_zero,List.take_of_length_le (by rw [H8 Ak3];exact Nat.le_refl _)];rfl
  ·obtain ⟨s,_,rfl⟩:=List.mem_map.1 he;exact AQ1 s x hx
section
variable {L:List Vw} {t:TS}
theorem drop_step {a k:Nat} {Q0:List Nat} {U0:Nat→Vw} {x:TS} (hL:Go.Pol.srt L) (hU:Q0.map U0=ofA a L) (hk:k < (ofA a L).length) (h1:TOk (AQ5 L (ofA a L) k) x) (h2:x.Q a=Q0.drop k) (h3:x.U=U0) :
  ∃ y,(TOk (AQ5 L (ofA a L) (k+1)) y∧y.Q a=Q0.drop (k+1)∧y.U=U0)∧(∃ A B,AQ5 L (ofA a L) k=A++nth dV (ofA a L) k::B)∧AC1 147 [.int .i64 (nth 0 Q0 k:Nat)] x (.agg (vwC (nth dV (ofA a L) k))) y:=by
 have hQl:Q0.length=(ofA a L).length:=by rw [← hU,List.length_map]
 have hkq:k < Q0.length:=by omega
 have hdr:Q0.drop k=nth 0 Q0 k::Q0.drop (k+1):=by rw [K9 hkq,List.drop_eq_getElem_cons hkq]
 have hua:(nth dV (ofA a L) k).1=a:=(R4.1 (Z6 hk)).2
 have hxU:x.U (nth 0 Q0 k)=nth dV (ofA a L) k:=by
  rw [h3,K9 hkq,K9 hk]
  have : (Q0.map U0)[k]'(by rw [List.length_map];exact hkq)=(ofA a L)[k]:=by simp only [hU]
  rw [List.getElem_map] at this;exact this
 have hxm:nth 0 Q0 k ∈ x.Q (nth dV (ofA a L) k).1:=by rw [hua,h2,hdr];exact List.mem_cons_self ..
 obtain ⟨y,A,B,X,Y,e1,e2,e3,e4,e5,e6⟩:=t_take h1 hxm hxU
 refine ⟨y,⟨?_,?_,by rw [e5,h3]⟩,⟨A,B,e1⟩,e6⟩
 ·rw [less_s hL hk e1];exact e2
 ·rw [e4,hua,Ae5]
  rw [hua,h2,hdr] at e3
  cases X with
  | nil=>exact (List.cons.inj e3).2.symm
  | cons z X =>
   have hnd:=h1.pool.inv.st.nd a
   rw [h2,hdr,e3] at hnd
   have h4:=(List.cons.inj e3).1
   subst h4
   exact absurd (List.mem_append_right X (List.mem_cons_self ..)) (List.nodup_cons.1 hnd).1
set_option maxRecDepth 20000 in
theorem t_Drop (h:TOk L t) {a:Nat} (ha:a < 64) :
  ∃ t',TOk (noA a L) t'∧AC1 86 [.int .i64 (a:Nat)] t (.tup [.isl ((AO6 L a).map nat1),.int .i64 0]) t':=by
 have hlq:=h.lenQ a
 obtain ⟨T,hT0,hT,hst⟩:=chain (n:=(ofA a L).length) (P:=fun k (x:TS)=>TOk (AQ5 L (ofA a L) k) x∧x.Q a=(t.Q a).drop k∧x.U=t.U)
  (S:=fun k (x y:TS)=>(∃ A B,AQ5 L (ofA a L) k=A++nth dV (ofA a L) k::B)∧AC1 147 [.int .i64 (nth 0 (t.Q a) k:Nat)] x (.agg (vwC (nth dV (ofA a L) k))) y)
  t ⟨by rw [less_0];exact h,by rw [List.drop_zero],rfl⟩ (fun k x hk hx=>drop_step h.srt (h.lst a) hk hx.1 hx.2.1 hx.2.2)
 obtain ⟨g1,_,_⟩:=hT _ (Nat.le_refl _)
 rw [BX6] at g1
 have hen:=p_end h.pool.inv h.pool.n_pos (show a < t.m by rw [h.hm];exact ha) true
 rw [if_pos rfl,Ay9] at hen
 have k1:=AQ6 (a:Nat)
 rw [if_pos (Aj6 ha)] at k1
 refine ⟨T (ofA a L).length,g1,AC1.mk (G5 E9 b86 rfl ?_) AW8 plain_tn⟩
 unfold c86
 generalize hn1:(ofA a L).length=n1 at *
 (refine wx_Ypn ?_;repeat' (first|with_reducible refine And.intro ?_ ?_|intro hsp))
 refine AR2 E9 b173 rfl trivial ?_
 intro frl2 asl2 bdl2 hF2 hA2 hB2
 unfold c173
 (refine wx_Yp ?_;repeat' (first|with_reducible refine And.intro ?_ ?_|intro hsp))
 rw [← hlq,rep_bool]
 have hg0:memA 1024 (fun f=>AV.bool (Aa1 L (ofA a L) 0 f))=memA 1024 fun _=>AV.bool false:=AA9 fun f _=>by rw [gone_0]
 clear hen k1
 (refine G8 [0,1,2,3] (fun (k:Nat)=>[(5,.int .i64 (if n1=0 then 0 else hd ((t.Q a).drop k))),(6,.int .i64 (if n1=0 then 4 else 0))]) (fun (k:Nat)=>⟨tabS (T k)++[(5,.cells [.ptr 0 0]),(7,.cells (memA 1024 fun f=>.bool (Aa1 L (ofA a L) k f))),(8,.cells [.ptr 1 0]),(9,.cells [.int .i64 (a:Nat)]),(10,.cells [.bool false]),(11,.loop .ready none frl2 [27,28] asl2 bdl2)],12⟩) (fun (k:Nat)=>k≤n1) (fun (k:Nat)=>n1 - k) (0) [] rfl (fun _=>by first|exact Nat.zero_le _|(dsimp only;omega)) ?_ (by ((try (conv=>whnf));(rw [hT0,hg0]);exact U7)) ?_)
 ·exact Nat.zero_le _
 intro k hk
 by_cases hkl:k < n1
 ·obtain ⟨f1,f2,f3⟩:=hT k hk
  obtain ⟨⟨A,B,hAB⟩,c1⟩:=hst k hkl
  have hkq:0 < ((T k).Q a).length:=by rw [f2,List.length_drop];omega
  obtain ⟨hx,hd0,hnx,hnv,hm,hcell⟩:=f1.at_ hkq
  have e0:nth 0 ((T k).Q a) 0=nth 0 (t.Q a) k:=by rw [f2];unfold nth;rw [List.getElem?_drop,Nat.add_zero]
  rw [e0] at hx hd0 hnx hcell
  rw [f2,List.drop_zero] at hd0
  rw [f2,List.drop_drop,show k+(0+1)=k+1 by omega] at hnx
  have hkO:k < (ofA a L).length:=by omega
  have hok:=h.ok _ (R4.1 (Z6 (d:=dV) hkO)).1
  have h4:=(hT (k+1) (by omega)).1
  have hC:(tabC 1 4 (T (k+1)).C)[2+(nth dV (ofA a L) k).2.2.1]? = some (.int .i64 ((T (k+1)).C (nth dV (ofA a L) k).2.2.1:Nat)):=tab_get hok.2.2
  have hset:(memA 1024 fun f=>AV.bool (Aa1 L (ofA a L) k f)).set (nth dV (ofA a L) k).2.2.1 (.bool (decide (((T (k+1)).C (nth dV (ofA a L) k).2.2.1:Int)=0)))=memA 1024 fun f=>AV.bool (Aa1 L (ofA a L) (k+1) f):=by
   rw [AI7]
   refine AA9 fun f hf=>?_
   rw [gone_s h.srt hkO hAB,h4.cnt,less_s h.srt hkO hAB]
   split
   ·congr 1;exact decide_eq_decide.2 (by omega)
   ·rfl
  rw [if_neg (show ¬ n1=0 by omega),if_neg (show ¬ n1=0 by omega),hd0]
  have hnx0:¬ n1=0:=by omega
  have hn2:(T k).n=2000:=f1.hn
  clear hnv hm f1 f2 f3 hd0 hkq h4 hAB e0
  generalize hu:nth dV (ofA a L) k=u at *
  generalize nth 0 (t.Q a) k=x at *
  obtain ⟨ua,uk,uf,uw⟩:=u
  unfold vwC at c1
  dsimp only at c1 hC hset hok
  (refine wx_Ypn ?_;repeat' (first|with_reducible refine And.intro ?_ ?_|intro hsp))
  all_goals exact D9 (k+1) [] (by (try dsimp only);omega) (by first|omega|(dsimp only;omega)) rfl (by ((try dsimp only);rw [if_neg hnx0]);exact U7)
 ·obtain rfl:k=n1:=by omega
  have hd1:hd ((t.Q a).drop k) = -1:=by rw [List.drop_of_length_le (by omega)];rfl
  rw [hd1]
  have hgl:((memA 1024 fun f=>AV.bool (Aa1 L (ofA a L) k f)).drop 0).take 1024=memA 1024 fun f=>AV.bool (Aa1 L (ofA a L) k f):=by rw [List.drop_zero,List.take_of_length_le (by rw [j4];exact Nat.le_refl _)]
  have hgoal:AO6 L a=Ag7 (Aa1 L (ofA a L) k) 1024:=by unfold AO6;rw [hn1]
  rw [hgoal]
  generalize Aa1 L (ofA a L) k=g at *
  by_cases hz:k=0
  ·rw [if_pos hz,if_pos hz]
   (refine wx_Yp ?_;repeat' (first|with_reducible refine And.intro ?_ ?_|intro hsp))
   (refine G8 [43] (fun (f:Nat)=>[(4,AU0 12 1 (Ag7 g f).length),(44,.int .i64 (f:Nat))]) (fun (f:Nat)=>⟨tabS (T k)++AJ5 12 nat1 (Ag7 g f),13⟩) (fun (f:Nat)=>f≤1024) (fun (f:Nat)=>1024 - f) (0) [] rfl (fun _=>by first|exact Nat.zero_le _|(dsimp only;omega)) ?_ (by ((try (conv=>whnf));(rw [goneU_0]);exact wkxQ6)) ?_)
   ·exact Nat.zero_le _
   intro f hf
   have hgf:=BA4 g f
   by_cases hf2:f < 1024
   ·have hgx:(memA 1024 fun f=>AV.bool (g f))[f]? = some (.bool (g f)):=V6 hf2
    have hgs:=goneU_s g f
    cases hb:g f
    ·rw [hb,if_neg (by simp)] at hgs
     rw [hb] at hgx
     (refine wx_Yp ?_;repeat' (first|with_reducible refine And.intro ?_ ?_|intro hsp))
     all_goals exact D9 (f+1) [] (by (try dsimp only);omega) (by first|omega|(dsimp only;omega)) rfl (by ((try dsimp only);rw [hgs]);exact wkxQ6)
    ·rw [hb,if_pos rfl] at hgs
     rw [hb] at hgx
     (refine wx_Yp ?_;repeat' (first|with_reducible refine And.intro ?_ ?_|intro hsp))
     all_goals exact D9 (f+1) [(12,14)] (by (try dsimp only);omega) (by first|omega|(dsimp only;omega)) rfl (by ((try dsimp only);rw [hgs]);exact wkxQ6)
   ·obtain rfl:f=1024:=by omega
    (refine wx_Yp ?_;repeat' (first|with_reducible refine And.intro ?_ ?_|intro hsp))
    exact Al3 (fun hs=>AG9 (C8 (wk_frzN (fun hz=>by simp [lk,tabS,L6 hz]) (tab_not (by decide)) hs) (C8 (L8 rfl) H7))) rfl rfl rfl rfl rfl
  ·rw [if_neg hz,if_neg hz]
   (refine wx_Yp ?_;repeat' (first|with_reducible refine And.intro ?_ ?_|intro hsp))
   (refine G8 [43] (fun (f:Nat)=>[(4,AU0 12 1 (Ag7 g f).length),(44,.int .i64 (f:Nat))]) (fun (f:Nat)=>⟨tabS (T k)++AJ5 12 nat1 (Ag7 g f),13⟩) (fun (f:Nat)=>f≤1024) (fun (f:Nat)=>1024 - f) (0) [] rfl (fun _=>by first|exact Nat.zero_le _|(dsimp only;omega)) ?_ (by ((try (conv=>whnf));(rw [goneU_0]);exact wkxQ6)) ?_)
   ·exact Nat.zero_le _
   intro f hf
   have hgf:=BA4 g f
   by_cases hf2:f < 1024
   ·have hgx:(memA 1024 fun f=>AV.bool (g f))[f]? = some (.bool (g f)):=V6 hf2
    have hgs:=goneU_s g f
    cases hb:g f
    ·rw [hb,if_neg (by simp)] at hgs
     rw [hb] at hgx
     (refine wx_Yp ?_;repeat' (first|with_reducible refine And.intro ?_ ?_|intro hsp))
     all_goals exact D9 (f+1) [] (by (try dsimp only);omega) (by first|omega|(dsimp only;omega)) rfl (by ((try dsimp only);rw [hgs]);exact wkxQ6)
    ·rw [hb,if_pos rfl] at hgs
     rw [hb] at hgx
     (refine wx_Yp ?_;repeat' (first|with_reducible refine And.intro ?_ ?_|intro hsp))
     all_goals exact D9 (f+1) [(12,14)] (by (try dsimp only);omega) (by first|omega|(dsimp only;omega)) rfl (by ((try dsimp only);rw [hgs]);exact wkxQ6)
   ·obtain rfl:f=1024:=by omega
    (refine wx_Yp ?_;repeat' (first|with_reducible refine And.intro ?_ ?_|intro hsp))
    exact Al3 (fun hs=>AG9 (C8 (wk_frzN (fun hz=>by simp [lk,tabS,L6 hz]) (tab_not (by decide)) hs) (C8 (L8 rfl) H7))) rfl rfl rfl rfl rfl
end
end Go.Proofs.YtphggldkligldaaGreat.Sh
