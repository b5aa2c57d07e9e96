/-
 The document's store: its state.
 The document's store is made.
 The document's Load.
 The document's Load,of a state that a store has.
 Save of the document.
 Save of the document: its end,and free pages.
-/
import Derived.Test.YtbhgfoikbkaohaaGreatQat
set_option linter.unusedSimpArgs false
set_option linter.unusedVariables false
set_option maxHeartbeats 12800000
namespace Go.Pol
open Go.Am Go.Proofs.YtbhgfoikbkaohaaGreat.Sh
def whN (q:Sw) (m:Nat):List (Int × Int × Int × Int):=((List.range m).filter fun p=>decide (q.is p)).map (whE q)
def dkN (q:Sw) (m:Nat):List (Int × (Nat→Int)):=((List.range m).filter fun k=>decide (q.heldT k)).map (dkE q)
section
variable {q:Sw} {m:Nat}
theorem whN_0:whN q 0=[]:=rfl
theorem dkN_0:dkN q 0=[]:=rfl
theorem whN_all:whN q q.pg=q.whr:=rfl
theorem dkN_all:dkN q q.sl=q.dsk:=rfl
theorem whN_y (h:q.is m):whN q (m+1)=whN q m++[whE q m]:=by
 unfold whN
 rw [List.range_succ,List.filter_append,List.map_append]
 simp [h]
theorem whN_n (h:¬ q.is m):whN q (m+1)=whN q m:=by
 unfold whN
 rw [List.range_succ,List.filter_append,List.map_append]
 simp [h]
theorem dkN_y (h:q.heldT m):dkN q (m+1)=dkN q m++[dkE q m]:=by
 unfold dkN
 rw [List.range_succ,List.filter_append,List.map_append]
 simp [h]
theorem dkN_n (h:¬ q.heldT m):dkN q (m+1)=dkN q m:=by
 unfold dkN
 rw [List.range_succ,List.filter_append,List.map_append]
 simp [h]
theorem whN_le:(whN q m).length≤m:=by
 unfold whN
 rw [List.length_map]
 exact Nat.le_trans (List.length_filter_le ..) (by rw [List.length_range];exact Nat.le_refl _)
theorem dkN_le:(dkN q m).length≤m:=by
 unfold dkN
 rw [List.length_map]
 exact Nat.le_trans (List.length_filter_le ..) (by rw [List.length_range];exact Nat.le_refl _)
end
end Go.Pol
namespace Go.Proofs.YtbhgfoikbkaohaaGreat.Sh
open Go Go.Am Go.Pol
theorem plx_Sxy {p:Prop} (h:p:=by ((first|exact plw|(with_reducible first|apply O7|apply Y7|apply N7|apply L9|apply U3|apply V3|apply F8 Q8|apply F8 Y8|apply AM5|fail)|fail);first|done|fail)):p:=h
theorem ppx_Sxy {p:Prop} (h:p:=by ((first|with_reducible assumption|(with_reducible first|apply F7|apply E9|apply AC0|apply AB0|apply Q8 _|apply H7|fail)|exact ppw|fail);first|done|fail)):p:=h
open Go.Proofs.YtbhgfoikbkaohaaGreat.Sh renaming plx_Sxy → plx
open Go.Proofs.YtbhgfoikbkaohaaGreat.Sh renaming ppx_Sxy → ppx
theorem wx_Sxy {p q:Prop} (hq:q) (h:Y3 q→p:=by (intro hQz;((repeat' ((try (conv=>whnf));first|(with_reducible first|refine P6 ?_|refine K4 ?_|refine P9 ?_|refine Q5 ?_|refine K9 ?_|refine U9 ?_|refine O9 ?_|refine U8 rfl ?_|refine P5 ?_|refine I5 ?_|refine K7 ?_|refine K8 ?_|refine Q0 ?_|refine I4 ?_|refine K5 (by decide +kernel) ?_|refine J6 (by decide +kernel) ?_|refine AG2 ?_|refine AG3 ?_|refine Aj5 ?_|refine r9 ?_|refine AI4 ?_|refine Ag9 (by assumption) ?_|refine Ah0 (by assumption) ?_|refine p9 (by omega) ?_|refine AI2 ?_)|((with_reducible refine AI5 ?_ ?_);focus omega)|((with_reducible refine AI6 ?_ ?_);focus omega)|((with_reducible apply U1 hQz)<;>(try intro hsp hQz))|((with_reducible refine Aj3 ?_ ?_);focus (first|omega|rfl|assumption|decide|(simp only [List.length_map,List.length_cons,List.length_nil];omega)|(simp only [List.length_cons];omega)))|(with_reducible first|refine AH9 ?_|refine p8 ?_|refine o9 ?_|refine AI1 ?_|refine AI0 ?_|refine AH7 ?_|refine Aj0 ?_|refine I6 ?_|refine l9 ?_|refine P8 ?_|refine P7 ?_|refine I7 ?_|refine AH8 (by omega) ?_|refine o8 (by omega) ?_)|refine C8 rf_0 ?_|refine C8 rf_1 ?_|refine C8 rf_2 ?_|refine C8 rf_3 ?_|refine C8 rf_4 ?_|refine C8 (rf_ins ho) ?_|refine C8 (rf_outs ho2) ?_|refine C8 hF ?_|refine C8 hT ?_|refine C8 hZ ?_|refine filt_own rfl ?_|refine R4 (by rw [Y9];omega) rfl (J7 (by rw [List.length_drop,Y9];omega) hrD ?_)|refine R4 (by omega) List.drop_zero (J7 (by omega) (BA4 hyl) ?_)|refine ⟨hyl,?_⟩|refine U4 (by first|(simp only [List.length_replicate];omega)|fail) (over_y hyl) ?_|refine U4 (by first|(simp only [List.length_cons,List.length_nil];omega)|fail) (Ad5 hyl) ?_|refine sxF ?_|refine AO7 (f:=swA) (l2:=[(((m:Nat):Int),q.F m,q.T m,q.Z m)]) AG4 (AL2 rfl (by first|rfl|(simp;done)|(simp [*];done))) (fun hz=>by first|(simp [lk,V9,V6 hz,M5 hz];done)|rfl) (fun hz=>by first|(simp [lk,V9,AW9,BM1 hz,AX0 hz];done)|rfl) (by first|rfl|(simp [flat,swA];done)|(simp [flat,swA, *];done)) (by decide) ⟨by omega,by omega⟩ rfl ?_|((with_reducible apply Ap8 hQz);intro hQa hQb;refine AO6 (f:=swA) (l2:=[(((m:Nat):Int),q.F m,q.T m,q.Z m)]) AG4 (AL2 rfl (by first|rfl|(simp;done)|(simp [*];done))) (fun hz=>by first|(simp [lk,V9,V6 hz,M5 hz];done)|rfl) (by first|rfl|(simp [flat,swA];done)|(simp [flat,swA, *];done)) (by decide) ⟨by omega,by omega⟩ ?_ ?_<;>intro hzz<;>first|(have hQz:=Y3.mk (hQa.out hzz))|(have hQz:=Y3.mk (hQb.out hzz)))|refine Ay6 hI rfl rfl (by decide) rfl ?_|refine AX4 hI rfl rfl rfl rfl ?_|refine AO7 (f:=swD) (l2:=[(((k:Nat):Int),q.D k)]) R6 (AL2 rfl (by first|rfl|(simp;done)|(simp [*];done))) (fun hz=>by first|(simp [lk,V9,V6 hz,M5 hz];done)|rfl) (fun hz=>by first|(simp [lk,V9,AW9,BM1 hz,AX0 hz];done)|rfl) (by first|rfl|(simp [flat,swD];done)|(simp [flat,swD, *];done)) (by decide) ⟨by omega,by omega⟩ rfl ?_|((with_reducible apply Ap8 hQz);intro hQa hQb;refine AO6 (f:=swD) (l2:=[(((k:Nat):Int),q.D k)]) R6 (AL2 rfl (by first|rfl|(simp;done)|(simp [*];done))) (fun hz=>by first|(simp [lk,V9,V6 hz,M5 hz];done)|rfl) (by first|rfl|(simp [flat,swD];done)|(simp [flat,swD, *];done)) (by decide) ⟨by omega,by omega⟩ ?_ ?_<;>intro hzz<;>first|(have hQz:=Y3.mk (hQa.out hzz))|(have hQz:=Y3.mk (hQb.out hzz)))|refine sxH ?_|((with_reducible apply U2 hQz)<;>(try intro hsp hQz))|exact hQz.out))<;>(try (conv=>whnf))))):p:=h ⟨hq⟩
section
variable {q:Sw}
set_option maxRecDepth 20000 in
theorem v_Save (hg:F5 q):Ah2 19 [] q (.agg q.save) q:=by
 have hrng:=hg.rng
 have hpg:=hrng.2.2.2.1
 refine Ah2.mk (I8 G9 b19 rfl ?_) (fun x hx=>by cases hx) (G6 H7)
 obtain ⟨o,ho⟩:∃ o,o=17157:=⟨_,rfl⟩
 obtain ⟨o2,ho2⟩:∃ o2,o2=17158:=⟨_,rfl⟩
 unfold c19
 rw [← ho,← ho2]
 unfold rfN
 have hw0:=whN_0 (q:=q)
 (refine wx_Sxy ?_;repeat' (first|with_reducible refine And.intro ?_ ?_|intro hsp))
 all_goals first|(exfalso;omega)|skip
 (refine F9 [0,2] (fun (m:Nat)=>[(3,.ptr 3 0),(4,.int .i64 (m:Nat))]) (fun (m:Nat)=>⟨[(0,.cells (rfC 1 q)),(1,.cells q.s.b)]++[(2,.cells [.int .i64 0,.int .i64 0,.int .i64 0,.int .i64 0,.nils,.nils,.int .i64 0,.int .i64 0]),(3,.cells [.int .i64 (q.a:Nat),.int .i64 (q.n:Nat),.int .i64 (q.pg:Nat),.int .i64 (q.sl:Nat),AZ7 4 4 (whN q m).length,.nils,.int .i64 q.ins,.int .i64 q.outs])]++AK8 4 swA (whN q m),5⟩) (fun (m:Nat)=>m≤q.pg) (fun (m:Nat)=>q.pg - m) (0) [(3,28)] rfl (fun _=>by first|exact Nat.zero_le _|(dsimp only;omega)) ?_ (by ((try (conv=>whnf));(rw [hw0]);exact wkxQ9)) ?_)
 ·exact Nat.zero_le _
 intro m hm
 clear hw0
 have hle:=whN_le (q:=q) (m:=m)
 by_cases hml:m < q.pg
 ·have hF:=rf_F (s:=1) (q:=q) (p:=m) (by omega)
  have hT:=rf_T (s:=1) (q:=q) (p:=m) (by omega)
  have hZ:=rf_Z (s:=1) (q:=q) (p:=m) (by omega)
  by_cases hi:q.is m
  ·have hws:=whN_y hi
   unfold whE at hws
   unfold Sw.is at hi
   (refine wx_Sxy ?_;repeat' (first|with_reducible refine And.intro ?_ ?_|intro hsp))
   all_goals first|(exfalso;omega)|exact D6 (m+1) [(4,28)] (by (try dsimp only);omega) (by first|omega|(dsimp only;omega)) rfl (by ((try dsimp only);rw [hws]);exact wkxQ9)
  ·have hws:=whN_n hi
   unfold Sw.is at hi
   (refine wx_Sxy ?_;repeat' (first|with_reducible refine And.intro ?_ ?_|intro hsp))
   all_goals first|(exfalso;omega)|exact D6 (m+1) [] (by (try dsimp only);omega) (by first|omega|(dsimp only;omega)) rfl (by ((try dsimp only);rw [hws]);exact wkxQ9)
 ·obtain rfl:m=q.pg:=by omega
  rw [whN_all]
  have hd0:=dkN_0 (q:=q)
  (refine wx_Sxy ?_;repeat' (first|with_reducible refine And.intro ?_ ?_|intro hsp))
  all_goals first|(exfalso;omega)|skip
  (refine F9 [0,2,3] (fun (k:Nat)=>[(5,.int .i64 (k:Nat))]) (fun (k:Nat)=>⟨[(0,.cells (rfC 1 q)),(1,.cells q.s.b)]++[(2,.cells [.int .i64 0,.int .i64 0,.int .i64 0,.int .i64 0,.nils,.nils,.int .i64 0,.int .i64 0]),(3,.cells [.int .i64 (q.a:Nat),.int .i64 (q.n:Nat),.int .i64 (q.pg:Nat),.int .i64 (q.sl:Nat),.isl (q.whr.map swA),AZ7 4 65 (dkN q k).length,.int .i64 q.ins,.int .i64 q.outs])]++AK8 4 swD (dkN q k),5⟩) (fun (k:Nat)=>k≤q.sl) (fun (k:Nat)=>q.sl - k) (0) [] rfl (fun _=>by first|exact Nat.zero_le _|(dsimp only;omega)) ?_ (by ((try (conv=>whnf));(rw [hd0]);exact wkxQ10)) ?_)
  ·exact Nat.zero_le _
  intro k hk
  clear hd0
  have hle2:=dkN_le (q:=q) (m:=k)
  by_cases hkl:k < q.sl
  ·have hI:=v_inT hpg ((k:Nat):Int)
   have hh:=Ai7 (q:=q) (f:=k)
   generalize q.inT ((k:Nat):Int)=y at *
   have hk6:k < 256:=by omega
   by_cases hc:q.heldT k
   ·have hws:=dkN_y hc
    unfold dkE at hws
    have hy:=hh.2 hc
    clear hh hc
    have hyl:(bcA (q.D k)).length=64:=L8
    have hrD:=rf_D (s:=1) (q:=q) hk6
    (refine wx_Sxy ?_;repeat' (first|with_reducible refine And.intro ?_ ?_|intro hsp))
    all_goals first|(exfalso;omega)|exact D6 (k+1) [(4,16)] (by (try dsimp only);omega) (by first|omega|(dsimp only;omega)) rfl (by ((try dsimp only);rw [hws]);exact wkxQ10)
   ·have hws:=dkN_n hc
    have hy:¬ 0≤y:=fun h=>hc (hh.1 h)
    clear hh hc
    (refine wx_Sxy ?_;repeat' (first|with_reducible refine And.intro ?_ ?_|intro hsp))
    all_goals first|(exfalso;omega)|exact D6 (k+1) [] (by (try dsimp only);omega) (by first|omega|(dsimp only;omega)) rfl (by ((try dsimp only);rw [hws]);exact wkxQ10)
  ·obtain rfl:k=q.sl:=by omega
   rw [dkN_all]
   (refine wx_Sxy ?_;repeat' (first|with_reducible refine And.intro ?_ ?_|intro hsp))
   all_goals first|(exfalso;omega)|skip
   all_goals exact end_VV (q:=q) (fun hs=>Af7 (C9 (O1 rfl) (C9 (O1 rfl) (C9 (O1 rfl) (C9 (O1 rfl) (C9 (X0 hs (F8 Q8)) (C9 (AV6 R6 Y8 rfl (fun hz=>by first|(simp [lk,V9,M5 hz,V6 hz];done)|exact M5 hz|rfl) (BT1 (by simp [rn,rfN])) hs) (C9 (O1 rfl) (C9 (O1 rfl) M4))))))))) rfl rfl
end
end Go.Proofs.YtbhgfoikbkaohaaGreat.Sh
namespace Go.Pol
open Go.Am Go.Proofs.YtbhgfoikbkaohaaGreat.Sh
def stoT:List AV:=List.replicate 768 (.int .i64 0)++(List.replicate 16384 (.int .u8 0)++[.int .i64 0,.int .i64 0])
theorem stoT_eq:stoT=memA 17152 (rfF (fun _=>0) (fun _=>0) (fun _=>0) fun _ _=>0)++[.int .i64 0,.int .i64 0]:=by
 unfold stoT
 rw [← List.append_assoc]
 congr 1
 refine List.ext_getElem? fun i=>?_
 by_cases h:i < 17152
 ·rw [M8 h]
  unfold rfF
  by_cases h1:i < 768
  ·rw [List.getElem?_append_left (by rw [List.length_replicate];exact h1),List.getElem?_replicate,if_pos h1]
   split
   ·rfl
   ·split
    ·rfl
    ·rfl
  ·rw [List.getElem?_append_right (by rw [List.length_replicate];omega),List.length_replicate,List.getElem?_replicate,if_pos (by omega),if_neg (by omega),if_neg (by omega),if_neg h1]
 ·rw [List.getElem?_eq_none (by rw [List.length_append,List.length_replicate,List.length_replicate];omega),List.getElem?_eq_none (by rw [U0];omega)]
def mdQ (s:Sy) (a n pg sl:Nat) (i:Nat):Sw:=⟨a,n,pg,sl,fun p=>if p < i then -1 else 0,fun p=>if p < i then -1 else 0,fun _=>0,fun _ _=>0,0,0,s⟩
theorem mdQ_0 {s:Sy} {a n pg sl:Nat} {g:Nat} {y:List AV} (hy:y=stoT):rfC g (mdQ s a n pg sl 0) = .ptr g 0 :: .int .i64 (a:Nat) :: .int .i64 (n:Nat) :: .int .i64 (pg:Nat) :: .int .i64 (sl:Nat)::y:=by
 rw [hy,stoT_eq]
 unfold rfC mdQ
 dsimp only
 congr 6
theorem mdQ_s {s:Sy} {a n pg sl i:Nat}:mdQ s a n pg sl (i+1)={ mdQ s a n pg sl i with F:=F4 (mdQ s a n pg sl i).F i (-1),T:=F4 (mdQ s a n pg sl i).T i (-1) }:=by
 have e:(fun p:Nat=>if p < i+1 then (-1:Int) else 0)=F4 (fun p=>if p < i then -1 else 0) i (-1):=by
  funext p
  by_cases h:p=i
  ·subst h;rw [D9,if_pos (by omega)]
  ·rw [upd_ne h]
   by_cases h2:p < i
   ·rw [if_pos h2,if_pos (by omega)]
   ·rw [if_neg h2,if_neg (by omega)]
 unfold mdQ
 dsimp only
 rw [e]
theorem mdQ_all {s:Sy} {a n pg sl g:Nat}:rfC g (mdQ s a n pg sl 256)=rfC g ⟨a,n,pg,sl,fun _=>-1,fun _=>-1,fun _=>0,fun _ _=>0,0,0,s⟩:=by
 have e:memA 17152 (rfF (fun p=>if p < 256 then -1 else 0) (fun p=>if p < 256 then -1 else 0) (fun _=>0) fun _ _=>0)=memA 17152 (rfF (fun _=>-1) (fun _=>-1) (fun _=>0) fun _ _=>0):=AB2 fun i _=>by
  unfold rfF
  by_cases h1:i < 256
  ·rw [if_pos h1,if_pos h1]
   dsimp only
   rw [if_pos h1]
  ·rw [if_neg h1,if_neg h1]
   by_cases h2:i < 512
   ·rw [if_pos h2,if_pos h2]
    dsimp only
    rw [if_pos (by omega)]
   ·rw [if_neg h2,if_neg h2]
 unfold rfC mdQ
 dsimp only
 rw [e]
end Go.Pol
namespace Go.Proofs.YtbhgfoikbkaohaaGreat.Sh
open Go Go.Am Go.Pol
open Go.Proofs.YtbhgfoikbkaohaaGreat.Sh renaming plx_Sxt → plx
open Go.Proofs.YtbhgfoikbkaohaaGreat.Sh renaming ppx_Sxt → ppx
theorem wx_Sxz {p q:Prop} (hq:q) (h:Y3 q→p:=by (intro hQz;((repeat' ((try (conv=>whnf));first|refine sxA ?_|refine H8 (by rw [Y9];omega) (Ad0 hil) ?_|refine H8 (by rw [Y9];omega) (Ac9 hil) ?_|refine sxF ?_|refine M0 (by assumption) ?_|refine K3 hr rfl (by decide) ?_|refine cx_MD hM rfl (by decide) ?_|refine sxH ?_|((with_reducible first|apply U1 hQz|apply U2 hQz)<;>(try intro hsp hQz))|exact hQz.out))<;>(try (conv=>whnf))))):p:=h ⟨hq⟩
theorem end_VN {top:Bool} {h:Hp} {N0:Nat} {x r:AV} {q:Sw} (hr:AL9 (rn []) h ⟨rfN q 1 0,2⟩→WkV Tryz.prog (rn []) h ⟨rfN q 1 0,2⟩ x r) (h1:lk h.l 1=some (.cells (rfC 0 q))) (h0:lk h.l 0=some (.cells q.s.b)) (hN0:N0≤2:=by decide) :
  AV3 top Tryz.prog N0 h x (fun r' h'=>r'=r∧h'=⟨rfN q 1 0,2⟩):=by
 have hs:AL9 (rn []) h ⟨rfN q 1 0,2⟩:=fun i o hi=>by
  simp only [rfN,lk] at hi
  show ∃ o',lk h.l i=some o'
  split at hi
  ·rename_i e;subst e;exact ⟨_,h1⟩
  ·split at hi
   ·rename_i e;subst e;exact ⟨_,h0⟩
   ·cases hi
 refine AE8 [] rfl hN0 (R7 rfl) (hr hs) ?_ ⟨rfl,rfl⟩
 exact AV5 hs (show 1 < 2 by decide) h1 (s':=0) rfl (show 0 < 2 by decide) (J2 hs (show 0 < 2 by decide) h0 rfl E9 J5)
structure LocMD (a n pg sl:Nat) (s:Sy) (q:Sw):Prop where
 out:Ab5 Tryz.prog G0 29 [.ptr 0 0,.int .i64 (a:Nat),.int .i64 (n:Nat),.int .i64 (pg:Nat),.int .i64 (sl:Nat)] [(0,.cells s.b)] 1 fun x h=>x = .ptr 1 0∧h=⟨rfN q 1 0,2⟩
theorem cx_MD {a n pg sl:Nat} {s:Sy} {q:Sw} {g nx:Nat} {l:List (Nat × AObj)} {K:AV→Hp→Prop} (hc:LocMD a n pg sl s q) (h0:lk l g=some (.cells s.b)) (hlt:g < nx)
  (hk:AP4 [g] l fun l2=>K (.ptr nx 0) ⟨([(nx,.cells (rfC g q)),(g,.cells q.s.b)]:List (Nat × AObj))++l2,nx+1⟩):AN4 Tryz.prog G0 (.fn 29 [] []) [.ptr g 0,.int .i64 (a:Nat),.int .i64 (n:Nat),.int .i64 (pg:Nat),.int .i64 (sl:Nat)] ⟨l,nx⟩ K:=by
 have e0:enter [g] g 0:=rfl
 have k0:back [g] nx 0 g:=rfl
 have k1:back [g] nx 1 nx:=rfl
 refine AS3 (r':=.ptr nx 0) (l1:=rfN q nx g) [g] hc.out J3 rfl (.cons e0 h0 (D8 E9) .nil)
  ?_ (by intro x hx;simp only [List.mem_cons,List.not_mem_nil,or_false] at hx;omega) (Z9 k1)
  (.cons k1 (Al1 k0) (.cons k0 (D8 E9) .nil)) hk
 simp only [List.nil_append,List.append_nil]
 exact ⟨Z9 e0,G5 A8,G5 A8,G5 A8,G5 A8,trivial⟩
set_option maxRecDepth 20000 in
theorem v_made {a n pg sl:Nat} {s:Sy}:LocMD a n pg sl s ⟨a,n,pg,sl,fun _=>-1,fun _=>-1,fun _=>0,fun _ _=>0,0,0,s⟩:=by
 refine LocMD.mk (I8 G9 b29 rfl ?_)
 unfold c29
 obtain ⟨y,hy⟩:∃ y,y=stoT:=⟨_,rfl⟩
 rw [show stoZ = .nilp :: .int .i64 0 :: .int .i64 0 :: .int .i64 0 :: .int .i64 0::y from hy▸rfl]
 have hm0:=mdQ_0 (s:=s) (a:=a) (n:=n) (pg:=pg) (sl:=sl) (g:=0) hy
 (refine wx_Sxz ?_;repeat' (first|with_reducible refine And.intro ?_ ?_|intro hsp))
 rw [← hm0]
 (refine F9 [] (fun (i:Nat)=>[(11,.ptr 1 0),(12,.int .i64 (i:Nat))]) (fun (i:Nat)=>⟨[(1,.cells (rfC 0 (mdQ s a n pg sl i))),(0,.cells s.b)],2⟩) (fun (i:Nat)=>i≤256) (fun (i:Nat)=>256 - i) (0) [] rfl (fun _=>by first|exact Nat.zero_le _|(dsimp only;omega)) ?_ (by ((try (conv=>whnf));exact Y4)) ?_)
 ·exact Nat.zero_le _
 intro i hi
 clear hm0
 by_cases hil:i < 256
 ·have hs:=mdQ_s (s:=s) (a:=a) (n:=n) (pg:=pg) (sl:=sl) (i:=i)
  (refine wx_Sxz ?_;repeat' (first|with_reducible refine And.intro ?_ ?_|intro hsp))
  all_goals first|(exfalso;omega)|exact D6 (i+1) [] (by (try dsimp only);omega) (by first|omega|(dsimp only;omega)) rfl (by ((try dsimp only);rw [hs]);exact Y4)
 ·obtain rfl:i=256:=by omega
  rw [mdQ_all]
  (refine wx_Sxz ?_;repeat' (first|with_reducible refine And.intro ?_ ?_|intro hsp))
  all_goals first|(exfalso;omega)|exact end_VN (q:=⟨a,n,pg,sl,fun _=>-1,fun _=>-1,fun _=>0,fun _ _=>0,0,0,s⟩) (fun hs=>u7 (i:=1) rfl (show 1 < 2 by decide)) rfl rfl
structure LocVN (a n pg sl:Int) (s:Sy) (q:Sw):Prop where
 out:Ab5 Tryz.prog G0 8 [.ptr 0 0,.int .i64 a,.int .i64 n,.int .i64 pg,.int .i64 sl] [(0,.cells s.b)] 1 fun x h=>x = .tup [.ptr 1 0,.int .i64 0]∧h=⟨rfN q 1 0,2⟩
theorem cx_VN {a n pg sl:Int} {s:Sy} {q:Sw} {g nx:Nat} {l:List (Nat × AObj)} {K:AV→Hp→Prop} (hc:LocVN a n pg sl s q) (h0:lk l g=some (.cells s.b)) (hlt:g < nx)
  (hk:AP4 [g] l fun l2=>K (.tup [.ptr nx 0,.int .i64 0]) ⟨([(nx,.cells (rfC g q)),(g,.cells q.s.b)]:List (Nat × AObj))++l2,nx+1⟩):AN4 Tryz.prog G0 (.fn 8 [] []) [.ptr g 0,.int .i64 a,.int .i64 n,.int .i64 pg,.int .i64 sl] ⟨l,nx⟩ K:=by
 have e0:enter [g] g 0:=rfl
 have k0:back [g] nx 0 g:=rfl
 have k1:back [g] nx 1 nx:=rfl
 refine AS3 (r':=.tup [.ptr nx 0,.int .i64 0]) (l1:=rfN q nx g) [g] hc.out J3 rfl (.cons e0 h0 (D8 E9) .nil)
  ?_ (by intro x hx;simp only [List.mem_cons,List.not_mem_nil,or_false] at hx;omega) (BQ9 ⟨Z9 k1,G5 A8,trivial⟩)
  (.cons k1 (Al1 k0) (.cons k0 (D8 E9) .nil)) hk
 simp only [List.nil_append,List.append_nil]
 exact ⟨Z9 e0,G5 A8,G5 A8,G5 A8,G5 A8,trivial⟩
section
variable {s:Sy} {a n pg sl:Int}
theorem v_New_far (hn:¬ O5 a n pg sl):j6 8 [.int .i64 a,.int .i64 n,.int .i64 pg,.int .i64 sl] s.b (.tup [.nilp,.int .i64 7]) s.b:=by
 have hst:=AT2 a n pg sl
 rw [decide_eq_false hn] at hst
 refine j6.mk (I8 G9 b8 rfl ?_) E9 E9 Av7 H9
 unfold c8
 (refine wx_Sxz ?_;repeat' (first|with_reducible refine And.intro ?_ ?_|intro hsp))
 all_goals exact O6 rfl H9 rfl E9
theorem v_New_no (hg:GoodS s) (hn:O5 a n pg sl) (he:(s.chg a n 0 1 0).1 ≠ 0):j6 8 [.int .i64 a,.int .i64 n,.int .i64 pg,.int .i64 sl] s.b (.tup [.nilp,.int .i64 (s.chg a n 0 1 0).1]) (s.chg a n 0 1 0).2.b:=by
 have hst:=AT2 a n pg sl
 rw [decide_eq_true hn] at hst
 have hr:=BD3 (a:=a) (n:=n) hg
 refine j6.mk (I8 G9 b8 rfl ?_) E9 E9 Av7 H9
 unfold c8
 generalize s.chg a n 0 1 0=r at *
 (refine wx_Sxz ?_;repeat' (first|with_reducible refine And.intro ?_ ?_|intro hsp))
 all_goals first|exact O6 rfl H9 rfl E9|(exfalso;omega)
theorem v_New (hg:GoodS s) (hn:O5 a n pg sl) (he:(s.chg a n 0 1 0).1=0):LocVN a n pg sl s (Sw.nw (s.chg a n 0 1 0).2 a n pg sl):=by
 have hst:=AT2 a n pg sl
 rw [decide_eq_true hn] at hst
 have hr:=BD3 (a:=a) (n:=n) hg
 rw [he] at hr
 obtain ⟨n1,n2,n3,n4,n5,n6,n7,n8⟩:=hn
 obtain ⟨a,rfl⟩:=Int.eq_ofNat_of_zero_le n1
 obtain ⟨n,rfl⟩:=Int.eq_ofNat_of_zero_le (by omega:0≤n)
 obtain ⟨pg,rfl⟩:=Int.eq_ofNat_of_zero_le (by omega:0≤pg)
 obtain ⟨sl,rfl⟩:=Int.eq_ofNat_of_zero_le n7
 have hM:=v_made (a:=a) (n:=n) (pg:=pg) (sl:=sl) (s:=(s.chg a n 0 1 0).2)
 refine LocVN.mk (I8 G9 b8 rfl ?_)
 unfold c8
 unfold Sw.nw
 simp only [Int.toNat_natCast]
 generalize s.chg a n 0 1 0=r at *
 (refine wx_Sxz ?_;repeat' (first|with_reducible refine And.intro ?_ ?_|intro hsp))
 all_goals first|(exfalso;omega)|exact end_VN (q:=⟨a,n,pg,sl,fun _=>-1,fun _=>-1,fun _=>0,fun _ _=>0,0,0,r.2⟩) (fun hs=>Af6 (C9 (u7 (i:=1) rfl (show 1 < 2 by decide)) (C9 (O1 rfl) M4))) rfl rfl
end
end Go.Proofs.YtbhgfoikbkaohaaGreat.Sh
namespace Go.Proofs.YtbhgfoikbkaohaaGreat.Sh
open Go Go.Am Go.Pol
theorem plx_Ske {p:Prop} (h:p:=by ((first|exact plw|(with_reducible first|apply O7|apply Y7|apply N7|apply L9|apply U3|apply V3|apply F8 Q8|apply F8 Y8|apply G6 H7|apply AM5|apply H9|fail)|fail);first|done|fail)):p:=h
open Go.Proofs.YtbhgfoikbkaohaaGreat.Sh renaming plx_Ske → plx
open Go.Proofs.YtbhgfoikbkaohaaGreat.Sh renaming ppx_Sxy → ppx
theorem wx_Ske {p q:Prop} (hq:q) (h:Y3 q→p:=by (intro hQz;((repeat' ((try (conv=>whnf));first|refine sxA ?_|refine C8 rf_0 ?_|refine C8 rf_1 ?_|refine C8 rf_2 ?_|refine C8 rf_3 ?_|refine C8 rf_4 ?_|refine H8 (by rw [Y9];omega) (BC5 ho) ?_|refine H8 (by rw [Y9];omega) (Ar7 ho2) ?_|refine Z7 (d:=d4) AG4 (by first|assumption|omega) hnt ?_|refine H8 (by rw [Y9];omega) (Ad0 hp6) ?_|refine H8 (by rw [Y9];omega) (Ac9 hp6) ?_|refine H8 (by rw [Y9];omega) (Av1 hp6) ?_|refine Z7 (d:=d5) R6 (by first|assumption|omega) hnt ?_|refine R4 (by rw [R6];omega) List.drop_zero (J7 (by rw [R6];omega) (List.take_of_length_le (by rw [R6];omega)) ?_)|refine J7 (cs:=bcA x) (m:=64) (Nat.le_of_eq L8.symm) AG9 ?_|refine R4 (cs:=bcA x) (Nat.zero_le _) List.drop_zero (J7 (cs:=bcA x) (m:=64) (Nat.le_of_eq L8.symm) AG9 ?_)|refine ⟨L8,?_⟩|refine U4 (by rw [Y9,L8];omega) (rf_setD hk6) ?_|refine sxF ?_|refine M0 hstd ?_|refine cx_MD hM rfl (by decide) ?_|refine Ay6 hI rfl rfl (by decide) rfl ?_|refine AX4 hI rfl rfl rfl rfl ?_|refine Ay6 hJ rfl rfl (by decide) rfl ?_|refine AX4 hJ rfl rfl rfl rfl ?_|refine K3 hkd rfl (by decide) ?_|refine AA4 hkd rfl rfl ?_|refine sxH ?_|((with_reducible first|apply U1 hQz|apply U2 hQz)<;>(try intro hsp hQz))|exact hQz.out))<;>(try (conv=>whnf))))):p:=h ⟨hq⟩
theorem wx_Sken {p q:Prop} (hq:q) (h:Y3 q→p:=by (intro hQz;((repeat' ((try (conv=>whnf));first|refine sxA ?_|refine C8 rf_0 ?_|refine C8 rf_1 ?_|refine C8 rf_2 ?_|refine C8 rf_3 ?_|refine C8 rf_4 ?_|refine sxN ?_|refine Ay6 hSv rfl rfl (by decide) rfl ?_|refine dcx_Vk hSv rfl rfl rfl rfl ?_|refine M0 hSm ?_|refine R5 hSm ?_|refine sxH ?_|((with_reducible first|apply U1 hQz|apply U2 hQz)<;>(try intro hsp hQz))|exact hQz.out))<;>(try (conv=>whnf))))):p:=h ⟨hq⟩
structure LocVL (avs:List AV) (s:Sy) (q:Sw):Prop where
 out:Ab5 Tryz.prog G0 13 (.ptr 0 0::avs) [(0,.cells s.b)] 1 fun x h=>x = .tup [.ptr 1 0,.int .i64 0]∧h=⟨rfN q 1 0,2⟩
 pa:∀ x ∈ avs,Plain x
theorem cx_VL {avs:List AV} {s:Sy} {q:Sw} {g nx:Nat} {l:List (Nat × AObj)} {K:AV→Hp→Prop} (hc:LocVL avs s q) (h0:lk l g=some (.cells s.b)) (hlt:g < nx)
  (hk:AP4 [g] l fun l2=>K (.tup [.ptr nx 0,.int .i64 0]) ⟨([(nx,.cells (rfC g q)),(g,.cells q.s.b)]:List (Nat × AObj))++l2,nx+1⟩):AN4 Tryz.prog G0 (.fn 13 [] []) (.ptr g 0::avs) ⟨l,nx⟩ K:=by
 have e0:enter [g] g 0:=rfl
 have k0:back [g] nx 0 g:=rfl
 have k1:back [g] nx 1 nx:=rfl
 refine AS3 (r':=.tup [.ptr nx 0,.int .i64 0]) (l1:=rfN q nx g) [g] hc.out J3 rfl (.cons e0 h0 (D8 E9) .nil)
  ?_ (by intro x hx;simp only [List.mem_cons,List.not_mem_nil,or_false] at hx;omega) (BQ9 ⟨Z9 k1,G5 A8,trivial⟩)
  (.cons k1 (Al1 k0) (.cons k0 (D8 E9) .nil)) hk
 simp only [List.nil_append,List.append_nil]
 exact ⟨Z9 e0,D8 hc.pa⟩
theorem end_VL {top:Bool} {h:Hp} {q:Sw} (ren:List (Nat × Nat)) {j:Nat} (hren:ren=[(1,j)]) (h1:lk h.l j=some (.cells (rfC 0 q))) (h0:lk h.l 0=some (.cells q.s.b)) (hj:j ≠ 0):AV3 top Tryz.prog 1 h (.tup [.ptr j 0,.int .i64 0]) (fun r' h'=>r' = .tup [.ptr 1 0,.int .i64 0]∧h'=⟨rfN q 1 0,2⟩):=by
 subst hren
 have e1:rn [(1,j)] 1=j:=rfl
 have e0:rn [(1,j)] 0=0:=rfl
 have hs:AL9 (rn [(1,j)]) h ⟨rfN q 1 0,2⟩:=fun i x hi=>by
  simp only [rfN,lk] at hi
  split at hi
  ·rename_i e;subst e;exact ⟨_,by rw [e1];exact h1⟩
  ·split at hi
   ·rename_i e;subst e;exact ⟨_,by rw [e0];exact h0⟩
   ·cases hi
 refine AE8 [(1,j)] rfl (by decide) (R7 (l:=rfN q 1 0) (by show Ad7 [j,0]=true;simp [Ad7,hj])) (Af6 (C9 (u7 e1 (show 1 < 2 by decide)) (C9 (O1 rfl) M4))) ?_ ⟨rfl,rfl⟩
 exact AV5 hs (show 1 < 2 by decide) (by rw [e1];exact h1) (s':=0) e0 (show 0 < 2 by decide) (J2 hs (show 0 < 2 by decide) (by rw [e0];exact h0) rfl E9 J5)
section
variable {s:Sy} {a n pg sl:Nat} {i o:Int} {W:List (Int × Int × Int × Int)} {D:List (Int × (Nat→Int))}
theorem Ab9 {a n pg sl:Int} (hst:¬ O5 a n pg sl):j6 13 [.agg (T9 a n pg sl W D i o)] s.b (.tup [.nilp,.int .i64 7]) s.b:=by
 have hstd:=AT2 a n pg sl
 rw [decide_eq_false hst] at hstd
 refine j6.mk (I8 G9 b13 rfl ?_) E9 E9 (R3 (G6 H7)) H9
 unfold c13
 unfold T9
 (refine wx_Ske ?_;repeat' (first|with_reducible refine And.intro ?_ ?_|intro hsp))
 all_goals first|(exfalso;omega)|exact O6 rfl H9 rfl E9
set_option maxRecDepth 20000 in
theorem Ak4 (hg:GoodS s) (hst:O5 (a:Nat) (n:Nat) (pg:Nat) (sl:Nat)) (hlW:W.length≤600) (hlD:D.length≤600) (hno:¬ LdZ s (T9 (a:Nat) (n:Nat) (pg:Nat) (sl:Nat) W D i o)):j6 13 [.agg (T9 (a:Nat) (n:Nat) (pg:Nat) (sl:Nat) W D i o)] s.b (.tup [.nilp,.int .i64 6]) s.b:=by
 have hstd:=AT2 (a:Nat) (n:Nat) (pg:Nat) (sl:Nat)
 rw [decide_eq_true hst] at hstd
 refine j6.mk (I8 G9 b13 rfl ?_) E9 E9 (R3 (G6 H7)) H9
 obtain ⟨z1,z2,z3,z4,z5,z6,z7,z8⟩:=hst
 obtain ⟨ow,ho⟩:∃ ow,ow=17157:=⟨_,rfl⟩
 obtain ⟨ow2,ho2⟩:∃ ow2,ow2=17158:=⟨_,rfl⟩
 unfold c13
 rw [← ho,← ho2]
 unfold T9
 have hM:=v_made (a:=a) (n:=n) (pg:=pg) (sl:=sl) (s:=s)
 by_cases hio:0≤i∧i≤1000000000∧0≤o∧o≤1000000000
 rotate_left
 ·(refine wx_Ske ?_;repeat' (first|with_reducible refine And.intro ?_ ?_|intro hsp))
  all_goals first|exact O6 rfl H9 rfl E9|(exfalso;omega)
 (refine wx_Ske ?_;repeat' (first|with_reducible refine And.intro ?_ ?_|intro hsp))
 all_goals first|(exfalso;omega)|skip
 (refine F9 [0,3,6] (fun (j:Nat)=>[(7,.int .i64 (j:Nat))]) (fun (j:Nat)=>⟨[(2,.cells (rfC 0 (E8 (lq0 s a n pg sl i o) W j))),(0,.cells (E8 (lq0 s a n pg sl i o) W j).s.b),(1,.cells [.int .i64 (a:Nat),.int .i64 (n:Nat),.int .i64 (pg:Nat),.int .i64 (sl:Nat),.isl (W.map swA),.isl (D.map swD),.int .i64 i,.int .i64 o])],3⟩) (fun (j:Nat)=>j≤W.length∧GQ (E8 (lq0 s a n pg sl i o) W j)) (fun (j:Nat)=>W.length - j) (0) [] rfl (fun _=>by first|exact Nat.zero_le _|(dsimp only;omega)) ?_ (by ((try (conv=>whnf));exact Y4)) ?_)
 ·exact ⟨Nat.zero_le _,gq_0⟩
 rintro j ⟨hj,hG⟩
 by_cases hjl:j < W.length
 ·obtain ⟨x1,x2,x3,x4,x5,x6,hs,-⟩:=AW8 (q0:=(lq0 s a n pg sl i o)) (W:=W) j
  have hq1:E8 (lq0 s a n pg sl i o) W (j+1)=apW (E8 (lq0 s a n pg sl i o) W j) (nth d4 W j):=rfl
  by_cases hok:BL3 (E8 (lq0 s a n pg sl i o) W j) (nth d4 W j)
  ·obtain ⟨e,hnt⟩:∃ e,nth d4 W j=e:=⟨_,rfl⟩
   rw [hnt] at hq1 hok
   have hnext:j+1≤W.length∧GQ (E8 (lq0 s a n pg sl i o) W (j+1)):=⟨hjl,by rw [hq1];exact gq_ap hG hok⟩
   rw [hq1] at hnext
   have x1:(E8 (lq0 s a n pg sl i o) W j).a=a:=x1
   have x2:(E8 (lq0 s a n pg sl i o) W j).n=n:=x2
   have x3:(E8 (lq0 s a n pg sl i o) W j).pg=pg:=x3
   have x4:(E8 (lq0 s a n pg sl i o) W j).sl=sl:=x4
   have hI:=v_inF (q:=E8 (lq0 s a n pg sl i o) W j) (by omega) e.2.1
   have hJ:=v_inT (q:=E8 (lq0 s a n pg sl i o) W j) (by omega) e.2.2.1
   generalize E8 (lq0 s a n pg sl i o) W j=qj at *
   obtain ⟨⟨k1,k2,k3,k4⟩,k5⟩:=hok
   have hp6:e.1.toNat < 256:=by omega
   generalize qj.inF e.2.1=y1 at *
   generalize qj.inT e.2.2.1=y2 at *
   clear hG
   (refine wx_Ske ?_;repeat' (first|with_reducible refine And.intro ?_ ?_|intro hsp))
   all_goals first|(exfalso;omega)|exact D6 (j+1) [] ⟨hnext.1,by rw [hq1];exact hnext.2⟩ (by first|omega|(dsimp only;omega)) rfl (by ((try dsimp only);rw [hq1]);exact Y4)
  ·obtain ⟨e,hnt⟩:∃ e,nth d4 W j=e:=⟨_,rfl⟩
   rw [hnt] at hok
   have x1:(E8 (lq0 s a n pg sl i o) W j).a=a:=x1
   have x2:(E8 (lq0 s a n pg sl i o) W j).n=n:=x2
   have x3:(E8 (lq0 s a n pg sl i o) W j).pg=pg:=x3
   have x4:(E8 (lq0 s a n pg sl i o) W j).sl=sl:=x4
   have hs:(E8 (lq0 s a n pg sl i o) W j).s=s:=hs
   have hI:=v_inF (q:=E8 (lq0 s a n pg sl i o) W j) (by omega) e.2.1
   have hJ:=v_inT (q:=E8 (lq0 s a n pg sl i o) W j) (by omega) e.2.2.1
   unfold BL3 at hok
   clear hq1 hG
   generalize E8 (lq0 s a n pg sl i o) W j=qj at *
   rw [x1,x2,x3,x4] at hok
   generalize qj.inF e.2.1=y1 at *
   generalize qj.inT e.2.2.1=y2 at *
   by_cases hp6:e.1.toNat < 256
   ·(refine wx_Ske ?_;repeat' (first|with_reducible refine And.intro ?_ ?_|intro hsp))
    all_goals first|exact O6 rfl H9 (by rw [← hs];rfl) E9|(exfalso;omega)
   ·(refine wx_Ske ?_;repeat' (first|with_reducible refine And.intro ?_ ?_|intro hsp))
    all_goals first|exact O6 rfl H9 (by rw [← hs];rfl) E9|(exfalso;omega)
 ·obtain rfl:j=W.length:=by omega
  obtain ⟨x1,x2,x3,x4,x5,x6,hs,-⟩:=AW8 (q0:=(lq0 s a n pg sl i o)) (W:=W) W.length
  have x1:(E8 (lq0 s a n pg sl i o) W W.length).a=a:=x1
  have x2:(E8 (lq0 s a n pg sl i o) W W.length).n=n:=x2
  have x3:(E8 (lq0 s a n pg sl i o) W W.length).pg=pg:=x3
  have x4:(E8 (lq0 s a n pg sl i o) W W.length).sl=sl:=x4
  have x5:(E8 (lq0 s a n pg sl i o) W W.length).ins=i:=x5
  have x6:(E8 (lq0 s a n pg sl i o) W W.length).outs=o:=x6
  have hs:(E8 (lq0 s a n pg sl i o) W W.length).s=s:=hs
  generalize hq1e:E8 (lq0 s a n pg sl i o) W W.length=q1 at *
  (refine wx_Ske ?_;repeat' (first|with_reducible refine And.intro ?_ ?_|intro hsp))
  all_goals first|(exfalso;omega)|skip
  (refine F9 [0,3,6] (fun (k:Nat)=>[(11,.int .i64 (k:Nat))]) (fun (k:Nat)=>⟨[(2,.cells (rfC 0 (O8 q1 D k))),(0,.cells (O8 q1 D k).s.b),(1,.cells [.int .i64 (a:Nat),.int .i64 (n:Nat),.int .i64 (pg:Nat),.int .i64 (sl:Nat),.isl (W.map swA),.isl (D.map swD),.int .i64 i,.int .i64 o])],3⟩) (fun (k:Nat)=>k≤D.length) (fun (k:Nat)=>D.length - k) (0) [] rfl (fun _=>by first|exact Nat.zero_le _|(dsimp only;omega)) ?_ (by ((try (conv=>whnf));exact Y4)) ?_)
  ·exact Nat.zero_le _
  intro k hk
  by_cases hkl:k < D.length
  ·obtain ⟨y1,y2,y3,y4,y5,y6,y7,-⟩:=AR2 (q0:=q1) (D:=D) k
   have hq2:O8 q1 D (k+1)=apD (O8 q1 D k) (nth d5 D k):=rfl
   by_cases hsk:0≤(nth d5 D k).1∧(nth d5 D k).1 < (sl:Nat)
   ·obtain ⟨⟨k',x⟩,hnt⟩:∃ e,nth d5 D k=e:=⟨_,rfl⟩
    rw [hnt] at hq2 hsk
    dsimp only at hsk
    have hk6:k'.toNat < 256:=by omega
    have hyl:(bcA x).length=64:=L8
    unfold apD at hq2
    dsimp only at hq2
    generalize O8 q1 D k=qk at *
    (refine wx_Ske ?_;repeat' (first|with_reducible refine And.intro ?_ ?_|intro hsp))
    all_goals first|(exfalso;omega)|(exfalso;dsimp only at *;omega)|exact D6 (k+1) [] hkl (by first|omega|(dsimp only;omega)) rfl (by ((try dsimp only);rw [hq2]);exact Y4)
   ·obtain ⟨⟨k',x⟩,hnt⟩:∃ e,nth d5 D k=e:=⟨_,rfl⟩
    rw [hnt] at hsk
    dsimp only at hsk
    have hyl:(bcA x).length=64:=L8
    have hs:(O8 q1 D k).s=s:=by rw [y7];exact hs
    clear hq2
    generalize O8 q1 D k=qk at *
    (refine wx_Ske ?_;repeat' (first|with_reducible refine And.intro ?_ ?_|intro hsp))
    all_goals first|exact O6 rfl H9 (by rw [← hs];rfl) E9|(exfalso;omega)|(exfalso;dsimp only at *;omega)
  ·obtain rfl:k=D.length:=by omega
   have hG2:=gq_lyD (q0:=q1) hG (D:=D) D.length
   obtain ⟨y1,y2,y3,y4,y5,y6,y7,-⟩:=AR2 (q0:=q1) (D:=D) D.length
   rw [x1] at y1
   rw [x2] at y2
   rw [x3] at y3
   rw [x4] at y4
   rw [x5] at y5
   rw [x6] at y6
   rw [hs] at y7

   generalize hq2e:O8 q1 D D.length=q2 at *
   (refine wx_Ske ?_;repeat' (first|with_reducible refine And.intro ?_ ?_|intro hsp))
   all_goals first|(exfalso;omega)|skip
   (refine F9 [0,3,6] (fun (v:Nat)=>[(12,.int .i64 ((a+v:Nat):Int))]) (fun (v:Nat)=>⟨[(2,.cells (rfC 0 q2)),(0,.cells q2.s.b),(1,.cells [.int .i64 (a:Nat),.int .i64 (n:Nat),.int .i64 (pg:Nat),.int .i64 (sl:Nat),.isl (W.map swA),.isl (D.map swD),.int .i64 i,.int .i64 o])],3⟩) (fun (v:Nat)=>v≤n∧∀ w,w < v→s.M (a+w)=false∧(s.K (a+w)=1∨s.K (a+w)=2)∧(0≤q2.inF ((a+w:Nat):Int)→s.K (a+w)=2)) (fun (v:Nat)=>n - v) (0) [] rfl (fun _=>by first|exact Nat.zero_le _|(dsimp only;omega)) ?_ (by ((try (conv=>whnf));exact Y4)) ?_)
   ·exact ⟨Nat.zero_le _,fun i hi=>absurd hi (Nat.not_lt_zero _)⟩
   rintro v ⟨hv,hfr⟩
   by_cases hvl:v < n
   ·have hkd:=Ar9 (s:=q2.s) (a:=(a+v:Nat))
    rw [AA9 (by omega) rfl,show q2.s.K=s.K by rw [y7],show q2.s.M=s.M by rw [y7]] at hkd
    have hI:=v_inF (q:=q2) (by omega) ((a+v:Nat):Int)
    have hs:=y7
    by_cases hfo:s.M (a+v)=false∧(s.K (a+v)=1∨s.K (a+v)=2)∧(0≤q2.inF ((a+v:Nat):Int)→s.K (a+v)=2)
    ·have hnext:v+1≤n∧∀ w,w < v+1→s.M (a+w)=false∧(s.K (a+w)=1∨s.K (a+w)=2)∧(0≤q2.inF ((a+w:Nat):Int)→s.K (a+w)=2):=⟨hvl,fun w hw=>by
      by_cases ew:w=v
      ·rw [ew];exact hfo
      ·exact hfr w (by omega)⟩
     obtain ⟨hM,hK,hF2⟩:=hfo
     clear hfr
     rw [hM] at hkd
     generalize s.K (a+v)=kk at *
     generalize q2.inF ((a+v:Nat):Int)=y at *
     (refine wx_Ske ?_;repeat' (first|with_reducible refine And.intro ?_ ?_|intro hsp))
     all_goals first|(exfalso;omega)|exact D6 (v+1) [] hnext (by first|omega|(dsimp only;omega)) rfl (by exact Y4)
    ·clear hfr
     generalize s.K (a+v)=kk at *
     generalize q2.inF ((a+v:Nat):Int)=y at *
     cases hM:s.M (a+v) with
     | true =>
      rw [hM] at hkd
      clear hfo
      (refine wx_Ske ?_;repeat' (first|with_reducible refine And.intro ?_ ?_|intro hsp))
      all_goals first|exact O6 rfl H9 (by rw [← hs];rfl) E9|(exfalso;omega)
     | false =>
      rw [hM] at hkd
      have hfo2:¬ ((kk=1∨kk=2)∧(0≤y→kk=2)):=fun h=>hfo ⟨hM,h⟩
      clear hfo
      by_cases hy:0≤y
      ·have hK2:¬ kk=2:=fun h=>hfo2 ⟨.inr h,fun _=>h⟩
       clear hfo2
       (refine wx_Ske ?_;repeat' (first|with_reducible refine And.intro ?_ ?_|intro hsp))
       all_goals first|exact O6 rfl H9 (by rw [← hs];rfl) E9|(exfalso;omega)
      ·have hK2:¬ kk=1∧¬ kk=2:=⟨fun h=>hfo2 ⟨.inl h,fun h3=>absurd h3 hy⟩,fun h=>hfo2 ⟨.inr h,fun _=>h⟩⟩
       clear hfo2
       (refine wx_Ske ?_;repeat' (first|with_reducible refine And.intro ?_ ?_|intro hsp))
       all_goals first|exact O6 rfl H9 (by rw [← hs];rfl) E9|(exfalso;omega)
   ·obtain rfl:n=v:=by omega
    have hGW:F5 q2:=gq_good hG2 (by rw [y7];exact hg) (by rw [y1,y2,y3,y4];omega) (by rw [y5,y6];exact hio) fun f f1 f2=>by
     rw [y1] at f1
     rw [y1,y2] at f2
     have:=hfr (f - a) (by omega)
     rw [show a+(f - a)=f by omega] at this
     rw [y7];exact this
    have hSv:=v_Save hGW
    have hl1:=AQ8 hGW
    have hl2:=AQ2 hGW
    rw [← AB1] at hl1
    rw [← AF0] at hl2
    have hSm:=k_sameG (a:=(q2.a:Nat)) (n:=(q2.n:Nat)) (pg:=(q2.pg:Nat)) (sl:=(q2.sl:Nat)) (W:=q2.whr) (D:=q2.dsk) (i:=q2.ins) (o:=q2.outs) (a':=(a:Nat)) (n':=(n:Nat)) (pg':=(pg:Nat)) (sl':=(sl:Nat)) (W':=W) (D':=D) (i':=i) (o':=o) (by omega) (by omega) hlW hlD (b:=false) ⟨fun h=>(by cases h),fun h=>absurd ⟨q2,hGW,y7,h⟩ hno⟩
    unfold Sw.save T9 at hSv
    unfold T9 at hSm
    have hs:=y7
    (refine wx_Sken ?_;repeat' (first|with_reducible refine And.intro ?_ ?_|intro hsp))
    all_goals first|(exfalso;omega)|exact O6 rfl H9 (by rw [← hs];rfl) E9
end
end Go.Proofs.YtbhgfoikbkaohaaGreat.Sh
namespace Go.Proofs.YtbhgfoikbkaohaaGreat.Sh
open Go Go.Am Go.Pol
open Go.Proofs.YtbhgfoikbkaohaaGreat.Sh renaming plx_Ske → plx
open Go.Proofs.YtbhgfoikbkaohaaGreat.Sh renaming ppx_Sxy → ppx
section
variable {s:Sy} {a n pg sl:Nat} {i o:Int} {W:List (Int × Int × Int × Int)} {D:List (Int × (Nat→Int))}
set_option maxRecDepth 20000 in
theorem v_LoadW (hg:GoodS s) (hst:O5 (a:Nat) (n:Nat) (pg:Nat) (sl:Nat)) (hlW:W.length≤600) (hlD:D.length≤600) (hio:0≤i∧i≤1000000000∧0≤o∧o≤1000000000) (hOK:∀ j,j < W.length→BL3 (E8 (lq0 s a n pg sl i o) W j) (nth d4 W j)) (hDs:∀ k,k < D.length→0≤(nth d5 D k).1∧(nth d5 D k).1 < (sl:Nat))
  (hFin:∀ q1,E8 (lq0 s a n pg sl i o) W W.length=q1→(O8 q1 D D.length).save=T9 (a:Nat) (n:Nat) (pg:Nat) (sl:Nat) W D i o∧∀ f,a≤f→f < a+n→s.M f=false∧(s.K f=1∨s.K f=2)∧(0≤(O8 q1 D D.length).inF (f:Nat)→s.K f=2)):LocVL [.agg (T9 (a:Nat) (n:Nat) (pg:Nat) (sl:Nat) W D i o)] s (O8 (E8 (lq0 s a n pg sl i o) W W.length) D D.length):=by
 have hstd:=AT2 (a:Nat) (n:Nat) (pg:Nat) (sl:Nat)
 rw [decide_eq_true hst] at hstd
 refine LocVL.mk (I8 G9 b13 rfl ?_) (R3 (G6 H7))
 obtain ⟨z1,z2,z3,z4,z5,z6,z7,z8⟩:=hst
 obtain ⟨ow,ho⟩:∃ ow,ow=17157:=⟨_,rfl⟩
 obtain ⟨ow2,ho2⟩:∃ ow2,ow2=17158:=⟨_,rfl⟩
 unfold c13
 rw [← ho,← ho2]
 unfold T9
 have hM:=v_made (a:=a) (n:=n) (pg:=pg) (sl:=sl) (s:=s)
 (refine wx_Ske ?_;repeat' (first|with_reducible refine And.intro ?_ ?_|intro hsp))
 all_goals first|(exfalso;omega)|skip
 (refine F9 [0,3,6] (fun (j:Nat)=>[(7,.int .i64 (j:Nat))]) (fun (j:Nat)=>⟨[(2,.cells (rfC 0 (E8 (lq0 s a n pg sl i o) W j))),(0,.cells (E8 (lq0 s a n pg sl i o) W j).s.b),(1,.cells [.int .i64 (a:Nat),.int .i64 (n:Nat),.int .i64 (pg:Nat),.int .i64 (sl:Nat),.isl (W.map swA),.isl (D.map swD),.int .i64 i,.int .i64 o])],3⟩) (fun (j:Nat)=>j≤W.length∧GQ (E8 (lq0 s a n pg sl i o) W j)) (fun (j:Nat)=>W.length - j) (0) [] rfl (fun _=>by first|exact Nat.zero_le _|(dsimp only;omega)) ?_ (by ((try (conv=>whnf));exact Y4)) ?_)
 ·exact ⟨Nat.zero_le _,gq_0⟩
 rintro j ⟨hj,hG⟩
 by_cases hjl:j < W.length
 ·obtain ⟨x1,x2,x3,x4,x5,x6,hs,-⟩:=AW8 (q0:=(lq0 s a n pg sl i o)) (W:=W) j
  have hq1:E8 (lq0 s a n pg sl i o) W (j+1)=apW (E8 (lq0 s a n pg sl i o) W j) (nth d4 W j):=rfl
  have hok:BL3 (E8 (lq0 s a n pg sl i o) W j) (nth d4 W j):=hOK j hjl
  obtain ⟨e,hnt⟩:∃ e,nth d4 W j=e:=⟨_,rfl⟩
  rw [hnt] at hq1 hok
  have hnext:j+1≤W.length∧GQ (E8 (lq0 s a n pg sl i o) W (j+1)):=⟨hjl,by rw [hq1];exact gq_ap hG hok⟩
  rw [hq1] at hnext
  have x1:(E8 (lq0 s a n pg sl i o) W j).a=a:=x1
  have x2:(E8 (lq0 s a n pg sl i o) W j).n=n:=x2
  have x3:(E8 (lq0 s a n pg sl i o) W j).pg=pg:=x3
  have x4:(E8 (lq0 s a n pg sl i o) W j).sl=sl:=x4
  have hI:=v_inF (q:=E8 (lq0 s a n pg sl i o) W j) (by omega) e.2.1
  have hJ:=v_inT (q:=E8 (lq0 s a n pg sl i o) W j) (by omega) e.2.2.1
  generalize E8 (lq0 s a n pg sl i o) W j=qj at *
  obtain ⟨⟨k1,k2,k3,k4⟩,k5⟩:=hok
  have hp6:e.1.toNat < 256:=by omega
  generalize qj.inF e.2.1=y1 at *
  generalize qj.inT e.2.2.1=y2 at *
  clear hG
  (refine wx_Ske ?_;repeat' (first|with_reducible refine And.intro ?_ ?_|intro hsp))
  all_goals first|(exfalso;omega)|exact D6 (j+1) [] ⟨hnext.1,by rw [hq1];exact hnext.2⟩ (by first|omega|(dsimp only;omega)) rfl (by ((try dsimp only);rw [hq1]);exact Y4)
 ·obtain rfl:j=W.length:=by omega
  obtain ⟨x1,x2,x3,x4,x5,x6,hs,-⟩:=AW8 (q0:=(lq0 s a n pg sl i o)) (W:=W) W.length
  have x1:(E8 (lq0 s a n pg sl i o) W W.length).a=a:=x1
  have x2:(E8 (lq0 s a n pg sl i o) W W.length).n=n:=x2
  have x3:(E8 (lq0 s a n pg sl i o) W W.length).pg=pg:=x3
  have x4:(E8 (lq0 s a n pg sl i o) W W.length).sl=sl:=x4
  have x5:(E8 (lq0 s a n pg sl i o) W W.length).ins=i:=x5
  have x6:(E8 (lq0 s a n pg sl i o) W W.length).outs=o:=x6
  have hs:(E8 (lq0 s a n pg sl i o) W W.length).s=s:=hs
  generalize hq1e:E8 (lq0 s a n pg sl i o) W W.length=q1 at *
  (refine wx_Ske ?_;repeat' (first|with_reducible refine And.intro ?_ ?_|intro hsp))
  all_goals first|(exfalso;omega)|skip
  (refine F9 [0,3,6] (fun (k:Nat)=>[(11,.int .i64 (k:Nat))]) (fun (k:Nat)=>⟨[(2,.cells (rfC 0 (O8 q1 D k))),(0,.cells (O8 q1 D k).s.b),(1,.cells [.int .i64 (a:Nat),.int .i64 (n:Nat),.int .i64 (pg:Nat),.int .i64 (sl:Nat),.isl (W.map swA),.isl (D.map swD),.int .i64 i,.int .i64 o])],3⟩) (fun (k:Nat)=>k≤D.length) (fun (k:Nat)=>D.length - k) (0) [] rfl (fun _=>by first|exact Nat.zero_le _|(dsimp only;omega)) ?_ (by ((try (conv=>whnf));exact Y4)) ?_)
  ·exact Nat.zero_le _
  intro k hk
  by_cases hkl:k < D.length
  ·obtain ⟨y1,y2,y3,y4,y5,y6,y7,-⟩:=AR2 (q0:=q1) (D:=D) k
   have hq2:O8 q1 D (k+1)=apD (O8 q1 D k) (nth d5 D k):=rfl
   have hsk:0≤(nth d5 D k).1∧(nth d5 D k).1 < (sl:Nat):=hDs k hkl
   obtain ⟨⟨k',x⟩,hnt⟩:∃ e,nth d5 D k=e:=⟨_,rfl⟩
   rw [hnt] at hq2 hsk
   dsimp only at hsk
   have hk6:k'.toNat < 256:=by omega
   have hyl:(bcA x).length=64:=L8
   unfold apD at hq2
   dsimp only at hq2
   generalize O8 q1 D k=qk at *
   (refine wx_Ske ?_;repeat' (first|with_reducible refine And.intro ?_ ?_|intro hsp))
   all_goals first|(exfalso;omega)|(exfalso;dsimp only at *;omega)|exact D6 (k+1) [] hkl (by first|omega|(dsimp only;omega)) rfl (by ((try dsimp only);rw [hq2]);exact Y4)
  ·obtain rfl:k=D.length:=by omega
   have hG2:=gq_lyD (q0:=q1) hG (D:=D) D.length
   obtain ⟨y1,y2,y3,y4,y5,y6,y7,-⟩:=AR2 (q0:=q1) (D:=D) D.length
   rw [x1] at y1
   rw [x2] at y2
   rw [x3] at y3
   rw [x4] at y4
   rw [x5] at y5
   rw [x6] at y6
   rw [hs] at y7
   have hfin:=hFin q1 rfl
   generalize hq2e:O8 q1 D D.length=q2 at *
   (refine wx_Ske ?_;repeat' (first|with_reducible refine And.intro ?_ ?_|intro hsp))
   all_goals first|(exfalso;omega)|skip
   (refine F9 [0,3,6] (fun (v:Nat)=>[(12,.int .i64 ((a+v:Nat):Int))]) (fun (v:Nat)=>⟨[(2,.cells (rfC 0 q2)),(0,.cells q2.s.b),(1,.cells [.int .i64 (a:Nat),.int .i64 (n:Nat),.int .i64 (pg:Nat),.int .i64 (sl:Nat),.isl (W.map swA),.isl (D.map swD),.int .i64 i,.int .i64 o])],3⟩) (fun (v:Nat)=>v≤n∧∀ w,w < v→s.M (a+w)=false∧(s.K (a+w)=1∨s.K (a+w)=2)∧(0≤q2.inF ((a+w:Nat):Int)→s.K (a+w)=2)) (fun (v:Nat)=>n - v) (0) [] rfl (fun _=>by first|exact Nat.zero_le _|(dsimp only;omega)) ?_ (by ((try (conv=>whnf));exact Y4)) ?_)
   ·exact ⟨Nat.zero_le _,fun i hi=>absurd hi (Nat.not_lt_zero _)⟩
   rintro v ⟨hv,hfr⟩
   by_cases hvl:v < n
   ·have hkd:=Ar9 (s:=q2.s) (a:=(a+v:Nat))
    rw [AA9 (by omega) rfl,show q2.s.K=s.K by rw [y7],show q2.s.M=s.M by rw [y7]] at hkd
    have hI:=v_inF (q:=q2) (by omega) ((a+v:Nat):Int)
    have hs:=y7
    have hfo:s.M (a+v)=false∧(s.K (a+v)=1∨s.K (a+v)=2)∧(0≤q2.inF ((a+v:Nat):Int)→s.K (a+v)=2):=hfin.2 (a+v) (by omega) (by omega)
    have hnext:v+1≤n∧∀ w,w < v+1→s.M (a+w)=false∧(s.K (a+w)=1∨s.K (a+w)=2)∧(0≤q2.inF ((a+w:Nat):Int)→s.K (a+w)=2):=⟨hvl,fun w hw=>by
     by_cases ew:w=v
     ·rw [ew];exact hfo
     ·exact hfr w (by omega)⟩
    obtain ⟨hM,hK,hF2⟩:=hfo
    clear hfr
    rw [hM] at hkd
    generalize s.K (a+v)=kk at *
    generalize q2.inF ((a+v:Nat):Int)=y at *
    (refine wx_Ske ?_;repeat' (first|with_reducible refine And.intro ?_ ?_|intro hsp))
    all_goals first|(exfalso;omega)|exact D6 (v+1) [] hnext (by first|omega|(dsimp only;omega)) rfl (by exact Y4)
   ·obtain rfl:n=v:=by omega
    have hGW:F5 q2:=gq_good hG2 (by rw [y7];exact hg) (by rw [y1,y2,y3,y4];omega) (by rw [y5,y6];exact hio) fun f f1 f2=>by
     rw [y1] at f1
     rw [y1,y2] at f2
     have:=hfr (f - a) (by omega)
     rw [show a+(f - a)=f by omega] at this
     rw [y7];exact this
    have hSv:=v_Save hGW
    have hl1:=AQ8 hGW
    have hl2:=AQ2 hGW
    rw [← AB1] at hl1
    rw [← AF0] at hl2
    have hSm:=k_sameG (a:=(q2.a:Nat)) (n:=(q2.n:Nat)) (pg:=(q2.pg:Nat)) (sl:=(q2.sl:Nat)) (W:=q2.whr) (D:=q2.dsk) (i:=q2.ins) (o:=q2.outs) (a':=(a:Nat)) (n':=(n:Nat)) (pg':=(pg:Nat)) (sl':=(sl:Nat)) (W':=W) (D':=D) (i':=i) (o':=o) (by omega) (by omega) hlW hlD (b:=true) ⟨fun _=>hfin.1,fun _=>rfl⟩
    unfold Sw.save T9 at hSv
    unfold T9 at hSm
    have hs:=y7
    (refine wx_Sken ?_;repeat' (first|with_reducible refine And.intro ?_ ?_|intro hsp))
    all_goals first|(exfalso;omega)|exact end_VL (q:=q2) [(1,2)] rfl rfl rfl (by decide)
end
theorem v_Load {q:Sw} (hg:F5 q) {a n pg sl i o:Int} {W:List (Int × Int × Int × Int)} {D:List (Int × (Nat→Int))} (hlW:W.length≤600) (hlD:D.length≤600) (hz:q.save=T9 a n pg sl W D i o):∃ q',LocVL [.agg (T9 a n pg sl W D i o)] q.s q':=by
 obtain ⟨⟨rfl,rfl,rfl,rfl,rfl,rfl⟩,hW,hD⟩:=st_iff.1 hz
 have hW2:q.whr=W:=by
  obtain ⟨hl,hel⟩:=(Am6 (d:=d4)).1 hW
  refine List.ext_getElem hl fun k h1 h2=>?_
  have:=swA_inj (hel k h1)
  rwa [I9 h1,I9 h2] at this
 subst hW2
 have hrng:=hg.rng
 refine ⟨_,v_LoadW (s:=q.s) (a:=q.a) (n:=q.n) (pg:=q.pg) (sl:=q.sl) (i:=q.ins) (o:=q.outs) (W:=q.whr) (D:=D) hg.good (by unfold O5;omega) hlW hlD hg.cnt (fun j hj=>lay_ok hg (by rw [← AB1];exact hj)) (fun k hk=>?_) fun q1 hq1=>?_⟩
 ·obtain ⟨hl,hel⟩:=(Am6 (d:=d5)).1 hD.symm
  have h1:=hel k hk
  have hk':k < q.slots.length:=by rw [← AF0];omega
  rw [Ao7 hk'] at h1
  unfold swD dkE at h1
  have h2:=(AV.int.inj (List.cons.inj h1).1).2
  have h3:=slot_lt hk'
  omega
 ·subst hq1
  have hs:=lay_save hg hD.symm
  refine ⟨by rw [show lq0 q.s q.a q.n q.pg q.sl q.ins q.outs=q00 q from rfl,hs];exact hz,fun f f1 f2=>?_⟩
  obtain ⟨k1,k2⟩:=hg.kind f f1 f2
  refine ⟨k2,k1,fun h0=>?_⟩
  obtain ⟨p,hp,hF⟩:=Aa2.1 h0
  rw [(AR2 (D:=D) D.length).2.2.2.2.2.2.2.1,AB1,show lq0 q.s q.a q.n q.pg q.sl q.ins q.outs=q00 q from rfl,(BU5 hg p).1] at hF
  exact heldK hg ⟨p,AL5 hg (by omega),hF⟩
end Go.Proofs.YtbhgfoikbkaohaaGreat.Sh
namespace Go.Pol
open Go.Am
def Sy.B2 (s:Sy) (p:Nat):Nat→Int:=if s.K p=2 then s.B p else fun _=>0
theorem saveR_B2 {s:Sy}:s.saveR=⟨G8 s.K 1024,Q6 s.G 1024,AG1 s.B2 1024,s.l,s.C,s.H⟩:=rfl
theorem AS2 {s:Sy} {p:Nat} (h:¬ (s.K p=2∧¬ l5 (s.B p))):AG1 s.B2 (p+1)=AG1 s.B2 p:=by
 refine if_pos ?_
 unfold Sy.B2
 split
 ·exact Classical.byContradiction fun h2=>h ⟨by assumption,h2⟩
 ·intro _ _;rfl
theorem AT8 {s:Sy} {p:Nat} (h:s.K p=2∧¬ l5 (s.B p)):AG1 s.B2 (p+1)=AG1 s.B2 p++[⟨((p:Nat):Int),s.B p⟩]:=by
 have e:s.B2 p=s.B p:=if_pos h.1
 show (if l5 (s.B2 p) then _ else _++[(⟨((p:Nat):Int),s.B2 p⟩:Dt)])=_
 rw [e,if_neg h.2]
theorem An9 {L:List Rn} {r:Rn}:flat rnA (L++[r])=flat rnA L++rnA r:=by simp [flat]
theorem AG0 {L:List Rn}:(flat rnA L).length=L.length * 3:=Aa6 BC4 L
theorem Ai5 {L:List Rn} {r:Rn} {m:Nat} (h:L.length=m):(flat rnA (L++[r]))[m * 3+1]? = some (.int .i64 r.n):=by
 rw [An9,List.getElem?_append_right (by rw [AG0];omega),AG0,h,show m * 3+1 - m * 3=1 by omega];rfl
theorem Ai4 {L:List Rn} {r:Rn} {m:Nat} {v:Int} (h:L.length=m):(flat rnA (L++[r])).set (m * 3+1) (.int .i64 v)=flat rnA (L++[⟨r.p,v,r.k⟩]):=by
 rw [An9,List.set_append_right _ _ (by rw [AG0];omega),AG0,h,show m * 3+1 - m * 3=1 by omega,An9];rfl
end Go.Pol
namespace Go.Am
theorem Am8 {α:Type} {f:α→List AV} {L:List α} {i:Nat} {r:List (Nat × AObj)} {ks:List Nat} (h:∀ j o,lk r j=some o→j ∈ ks):∀ j o,lk (AK8 i f L++r) j=some o→j ∈ i::ks:=fun j o hj=>by
 rcases Ag6 hj with hj|hj
 ·obtain ⟨rfl,_⟩:=AN2 hj;exact List.mem_cons_self ..
 ·exact List.mem_cons_of_mem _ (h j o hj)
theorem lk_nil_in:∀ j o,lk [] j=some o→j ∈ ([]:List Nat):=fun j o hj=>by cases hj
theorem tl_not {ren:List (Nat × Nat)} {l0 tl:List (Nat × AObj)} {ks:List Nat} {d:Nat} (hk:∀ j o,lk tl j=some o→j ∈ ks) (hn:((l0.map (·.1))++ks).all (fun j=>!(Nat.beq (rn ren j) d))=true):∀ j o,lk (l0++tl) j=some o→rn ren j ≠ d:=fun j o hj e=>by
 rw [List.all_eq_true] at hn
 have hm:j ∈ (l0.map (·.1))++ks:=by
  rcases Ag6 hj with hj|hj
  ·obtain ⟨q,hq,rfl⟩:=BU0 hj;exact List.mem_append_left _ (List.mem_map.2 ⟨q,hq,rfl⟩)
  ·exact List.mem_append_right _ (hk j o hj)
 have:=hn j hm
 rw [e] at this;simp at this
end Go.Am
namespace Go.Proofs.YtbhgfoikbkaohaaGreat
open Go Go.Am Go.Pol
open Go.Proofs.YtbhgfoikbkaohaaGreat renaming plx_Tj → plx
open Go.Proofs.YtbhgfoikbkaohaaGreat renaming ppx_Tj → ppx
theorem wtk {p q:Prop} (hq:q) (h:Y3 q→p:=by (intro hQz;((repeat' ((try (conv=>whnf));first|(with_reducible first|refine P6 ?_|refine K4 ?_|refine P9 ?_|refine Q5 ?_|refine K9 ?_|refine U9 ?_|refine O9 ?_|refine U8 rfl ?_|refine P5 ?_|refine I5 ?_|refine K7 ?_|refine K8 ?_|refine Q0 ?_|refine I4 ?_|refine K5 (by decide +kernel) ?_|refine J6 (by decide +kernel) ?_|refine AG2 ?_|refine AG3 ?_|refine Aj5 ?_|refine r9 ?_|refine AI4 ?_|refine Ag9 (by assumption) ?_|refine Ah0 (by assumption) ?_|refine p9 (by omega) ?_|refine AI2 ?_)|((with_reducible refine AI5 ?_ ?_);focus omega)|((with_reducible refine AI6 ?_ ?_);focus omega)|((with_reducible apply U1 hQz)<;>(try intro hsp hQz))|((with_reducible refine Aj3 ?_ ?_);focus (first|omega|rfl|assumption|decide|(simp only [List.length_map,List.length_cons,List.length_nil];omega)|(simp only [List.length_cons];omega)))|(with_reducible first|refine AH9 ?_|refine p8 ?_|refine o9 ?_|refine AI1 ?_|refine AI0 ?_|refine AH7 ?_|refine Aj0 ?_|refine I6 ?_|refine l9 ?_|refine P8 ?_|refine P7 ?_|refine I7 ?_|refine AH8 (by omega) ?_|refine o8 (by omega) ?_)|refine C8 (by with_reducible assumption) ?_|refine AE7 (by with_reducible assumption) ?_|refine H8 (by omega) (by with_reducible assumption) ?_|refine R4 (by rw [AJ5];omega) rfl ?_|refine J7 (by rw [List.length_drop,AJ5];omega) (by with_reducible assumption) ?_|refine J7 (by omega) (BA4 (by with_reducible assumption)) ?_|refine R4 (Nat.zero_le _) y_drop ?_|refine U4 (by first|(simp only [List.length_cons,List.length_nil];omega)|fail) (Ad5 (by with_reducible assumption)) ?_|refine Af0 (by with_reducible assumption) ?_|refine del_tS ?_|refine del_tO rfl ?_|refine del_n ?_|(with_reducible first|refine AC6 ?_|refine Aq9.mk (by kernel_rfl) ?_|refine AD6 rfl ?_|refine AC8 (by decide +kernel) ?_|refine AC7 rfl ?_)|refine AO7 (f:=rnA) (l2:=[⟨((p:Nat):Int),1,s.K p⟩]) BC4 (AL2 rfl (by first|rfl|(simp;done)|(simp [*];done))) (fun hz=>by first|(simp [lk,V9,V6 hz,M5 hz];done)|rfl) (fun hz=>by first|(simp [lk,V9,AW9,BM1 hz,AX0 hz];done)|rfl) (by first|rfl|(simp [flat,rnA];done)|(simp [flat,rnA, *];done)) (by decide) ⟨by omega,by omega⟩ rfl ?_|((with_reducible apply Ap8 hQz);intro hQa hQb;refine AO6 (f:=rnA) (l2:=[⟨((p:Nat):Int),1,s.K p⟩]) BC4 (AL2 rfl (by first|rfl|(simp;done)|(simp [*];done))) (fun hz=>by first|(simp [lk,V9,V6 hz,M5 hz];done)|rfl) (by first|rfl|(simp [flat,rnA];done)|(simp [flat,rnA, *];done)) (by decide) ⟨by omega,by omega⟩ ?_ ?_<;>intro hzz<;>first|(have hQz:=Y3.mk (hQa.out hzz))|(have hQz:=Y3.mk (hQb.out hzz)))|refine AO7 (f:=inA) (l2:=[((p:Nat):Int)]) BU8 (AL2 rfl (by first|rfl|(simp;done)|(simp [*];done))) (fun hz=>by first|(simp [lk,V9,V6 hz,M5 hz];done)|rfl) (fun hz=>by first|(simp [lk,V9,AW9,BM1 hz,AX0 hz];done)|rfl) (by first|rfl|(simp [flat,inA];done)|(simp [flat,inA, *];done)) (by decide) ⟨by omega,by omega⟩ rfl ?_|((with_reducible apply Ap8 hQz);intro hQa hQb;refine AO6 (f:=inA) (l2:=[((p:Nat):Int)]) BU8 (AL2 rfl (by first|rfl|(simp;done)|(simp [*];done))) (fun hz=>by first|(simp [lk,V9,V6 hz,M5 hz];done)|rfl) (by first|rfl|(simp [flat,inA];done)|(simp [flat,inA, *];done)) (by decide) ⟨by omega,by omega⟩ ?_ ?_<;>intro hzz<;>first|(have hQz:=Y3.mk (hQa.out hzz))|(have hQz:=Y3.mk (hQb.out hzz)))|refine AO7 (f:=dtA) (l2:=[⟨((p:Nat):Int),s.B p⟩]) BW0 (AL2 rfl (by first|rfl|(simp;done)|(simp [*];done))) (fun hz=>by first|(simp [lk,V9,V6 hz,M5 hz];done)|rfl) (fun hz=>by first|(simp [lk,V9,AW9,BM1 hz,AX0 hz];done)|rfl) (by first|rfl|(simp [flat,dtA];done)|(simp [flat,dtA, *];done)) (by decide) ⟨by omega,by omega⟩ rfl ?_|((with_reducible apply Ap8 hQz);intro hQa hQb;refine AO6 (f:=dtA) (l2:=[⟨((p:Nat):Int),s.B p⟩]) BW0 (AL2 rfl (by first|rfl|(simp;done)|(simp [*];done))) (fun hz=>by first|(simp [lk,V9,V6 hz,M5 hz];done)|rfl) (by first|rfl|(simp [flat,dtA];done)|(simp [flat,dtA, *];done)) (by decide) ⟨by omega,by omega⟩ ?_ ?_<;>intro hzz<;>first|(have hQz:=Y3.mk (hQa.out hzz))|(have hQz:=Y3.mk (hQb.out hzz)))|refine AS5 (BH7 (by omega) rfl (Nat.zero_le _)) ?_|refine AS5 (BP1 src_rl rfl rfl (by omega) (by omega)) ?_|refine I6 ?_|refine I7 ?_|refine AP6 rfl rfl ?_|refine l6 ?_|refine V8 rfl ?_|refine AP7 rfl ?_|refine AP3 rfl ?_|refine AD5 rfl ?_|refine S9 ?_|refine Au3.mk ?_|((with_reducible apply U2 hQz)<;>(try intro hsp hQz))|exact hQz.out))<;>(try (conv=>whnf))))):p:=h ⟨hq⟩
theorem wk_sl0 {σ:Nat→Nat} {h h':Hp} {d off cp:Nat} {L:List Rl} (h0:L.length=0:=by assumption):WkV Tryz.prog σ h h' (.sl d off 0 cp 4) (.isl (L.map rlA)):=fun c v hR hm hr=>by
 cases List.eq_nil_of_length_eq_zero h0
 obtain ⟨_,_,cap,rfl,_,h5,h6,_⟩:=AK9.1 hr
 exact AD0.2 ⟨_,cap,rfl,Nat.zero_le _,h6,fun hne=>absurd rfl hne⟩
section
variable {s:Sy}
noncomputable def skel (s:Sy) (o:Nat) (ho:o=66624) (hlen:s.l.length≤100000):{ T:Nat→Prop // (∀ p,p≤1024→T p)→j6 11 [] s.b (.agg (vsA s.saveR)) s.b }:=by
 refine ⟨?T,fun step=>?h⟩
 case h =>
  have step:=Y3.mk step
  refine j6.mk (I8 G9 b11 rfl ?_) E9 E9 (fun x hx=>by cases hx) AT3
  unfold c11
  unfold Sy.b
  rw [saveR_B2]
  rw [← ho]
  have hst:=R8 (K:=s.K) (G:=s.G) (B:=s.B) ho (Z6 (l:=s.l) (C:=s.C) (H:=s.H))
  have hru:=U7 (K:=s.K) (G:=s.G) (B:=s.B) (l:=s.l) (C:=s.C) (H:=s.H) ho
  by_cases hl0:s.l.length=0
  ·(refine wtk ?_;repeat' (first|with_reducible refine And.intro ?_ ?_|intro hsp))
   (refine F9 [0,2] (fun (p:Nat)=>[(3,.ptr 2 0),(4,.int .i64 (p:Nat))]) (fun (p:Nat)=>⟨[(0,.cells (refK s.K s.G s.B (stA s.l s.C s.H))),(1,.cells [.nils,.nils,.nils,.nils,.int .i64 0,.int .i64 0,.int .i64 0,.int .i64 0,.int .i64 0,.int .i64 0,.int .i64 0,.int .i64 0,.int .i64 0,.int .i64 0,.int .i64 0,.int .i64 0,.int .i64 0,.int .i64 0]),(2,.cells [AZ7 10 3 (G8 s.K p).length,AZ7 11 1 (Q6 s.G p).length,AZ7 12 65 (AG1 s.B2 p).length,.isl (s.l.map rlA),.int .i64 (s.C 0),.int .i64 (s.C 1),.int .i64 (s.C 2),.int .i64 (s.C 3),.int .i64 (s.C 4),.int .i64 (s.C 5),.int .i64 (s.C 6),.int .i64 (s.H 0),.int .i64 (s.H 1),.int .i64 (s.H 2),.int .i64 (s.H 3),.int .i64 (s.H 4),.int .i64 (s.H 5),.int .i64 (s.H 6)])]++(AK8 10 rnA (G8 s.K p)++(AK8 11 inA (Q6 s.G p)++(AK8 12 dtA (AG1 s.B2 p)++[]))),13⟩) (fun (p:Nat)=>p≤1024) (fun (p:Nat)=>1024 - p) (0) [] rfl (fun _=>by first|exact Nat.zero_le _|(dsimp only;omega)) ?_ (by ((try (conv=>whnf));exact AF7)) ?_)
   ·exact Nat.zero_le _
   exact step.out
  ·(refine wtk ?_;repeat' (first|with_reducible refine And.intro ?_ ?_|intro hsp))
   (refine F9 [0,2] (fun (p:Nat)=>[(3,.ptr 2 0),(4,.int .i64 (p:Nat))]) (fun (p:Nat)=>⟨[(0,.cells (refK s.K s.G s.B (stA s.l s.C s.H))),(1,.cells [.nils,.nils,.nils,.nils,.int .i64 0,.int .i64 0,.int .i64 0,.int .i64 0,.int .i64 0,.int .i64 0,.int .i64 0,.int .i64 0,.int .i64 0,.int .i64 0,.int .i64 0,.int .i64 0,.int .i64 0,.int .i64 0]),(2,.cells [AZ7 10 3 (G8 s.K p).length,AZ7 11 1 (Q6 s.G p).length,AZ7 12 65 (AG1 s.B2 p).length,.isl (s.l.map rlA),.int .i64 (s.C 0),.int .i64 (s.C 1),.int .i64 (s.C 2),.int .i64 (s.C 3),.int .i64 (s.C 4),.int .i64 (s.C 5),.int .i64 (s.C 6),.int .i64 (s.H 0),.int .i64 (s.H 1),.int .i64 (s.H 2),.int .i64 (s.H 3),.int .i64 (s.H 4),.int .i64 (s.H 5),.int .i64 (s.H 6)])]++(AK8 10 rnA (G8 s.K p)++(AK8 11 inA (Q6 s.G p)++(AK8 12 dtA (AG1 s.B2 p)++[]))),13⟩) (fun (p:Nat)=>p≤1024) (fun (p:Nat)=>1024 - p) (0) [] rfl (fun _=>by first|exact Nat.zero_le _|(dsimp only;omega)) ?_ (by ((try (conv=>whnf));exact AF7)) ?_)
   ·exact Nat.zero_le _
   exact step.out
end
end Go.Proofs.YtbhgfoikbkaohaaGreat
namespace Go.Proofs.YtbhgfoikbkaohaaGreat
open Go Go.Am Go.Pol
open Go.Proofs.YtbhgfoikbkaohaaGreat renaming plx_Tj → plx
open Go.Proofs.YtbhgfoikbkaohaaGreat renaming ppx_Tj → ppx
section
variable {s:Sy} {o:Nat} {ho:o=66624} {hlen:s.l.length≤100000} {p:Nat}
theorem rd_end (hp:p=1024):(skel s o ho hlen).1 p:=by
 have hL0:=X3 (K:=s.K) (n:=p)
 have hL1:=X6 (G:=s.G) (n:=p)
 have hL2:=X8 (B:=s.B2) (n:=p)
 have hst:=R8 (K:=s.K) (G:=s.G) (B:=s.B) ho (Z6 (l:=s.l) (C:=s.C) (H:=s.H))
 have hru:=U7 (K:=s.K) (G:=s.G) (B:=s.B) (l:=s.l) (C:=s.C) (H:=s.H) ho
 subst hp
 unfold skel
 dsimp only
 (refine wtk ?_;repeat' (first|with_reducible refine And.intro ?_ ?_|intro hsp))
 all_goals exact end_save3 (H6 A9)
theorem rd_free_h (hp4:p < 1024) (h0:s.K p=0) (hu:p % 16=0∧s.G (p / 16)=true):(skel s o ho hlen).1 p:=by
 have hL0:=X3 (K:=s.K) (n:=p)
 have hL1:=X6 (G:=s.G) (n:=p)
 have hL2:=X8 (B:=s.B2) (n:=p)
 have hst:=R8 (K:=s.K) (G:=s.G) (B:=s.B) ho (Z6 (l:=s.l) (C:=s.C) (H:=s.H))
 have hru:=U7 (K:=s.K) (G:=s.G) (B:=s.B) (l:=s.l) (C:=s.C) (H:=s.H) ho
 have hk:(refK s.K s.G s.B (stA s.l s.C s.H))[p]? = some (.int .i64 (s.K p)):=M7 hp4
 have hh:(refK s.K s.G s.B (stA s.l s.C s.H))[1024+p / 16]? = some (.bool (s.G (p / 16))):=Y6 (by omega)
 have hw16:=AU2 (q:=p) (by omega)
 have ht16:((p:Nat):Int).tmod 16=((p % 16:Nat):Int):=by rw [Int.tmod_eq_emod_of_nonneg (by omega)];omega
 have hby:=X4 (K:=s.K) (G:=s.G) (B:=s.B) (P:=stA s.l s.C s.H) hp4
 have hyl:=by_len (s.B p)
 have hyz:=AK3 (s.B p)
 generalize hy:byA (s.B p)=y at hby hyl hyz
 have e0:G8 s.K (p+1)=G8 s.K p:=if_pos h0
 have e2:=AS2 (s:=s) (p:=p) fun h=>by rw [h0] at h;exact absurd h.1 (by decide)
 have e1:Q6 s.G (p+1)=Q6 s.G p++[((p:Nat):Int)]:=if_pos hu
 rw [hu.2] at hh
 unfold skel
 dsimp only
 (refine wtk ?_;repeat' (first|with_reducible refine And.intro ?_ ?_|intro hsp))
 all_goals exact D6 (p+1) [(11,14)] (by (try dsimp only);omega) (by first|omega|(dsimp only;omega)) rfl (by ((try dsimp only);rw [e0,e1,e2]);exact AF7)
theorem rd_free (hp4:p < 1024) (h0:s.K p=0) (hu:¬ (p % 16=0∧s.G (p / 16)=true)):(skel s o ho hlen).1 p:=by
 have hL0:=X3 (K:=s.K) (n:=p)
 have hL1:=X6 (G:=s.G) (n:=p)
 have hL2:=X8 (B:=s.B2) (n:=p)
 have hst:=R8 (K:=s.K) (G:=s.G) (B:=s.B) ho (Z6 (l:=s.l) (C:=s.C) (H:=s.H))
 have hru:=U7 (K:=s.K) (G:=s.G) (B:=s.B) (l:=s.l) (C:=s.C) (H:=s.H) ho
 have hk:(refK s.K s.G s.B (stA s.l s.C s.H))[p]? = some (.int .i64 (s.K p)):=M7 hp4
 have hh:(refK s.K s.G s.B (stA s.l s.C s.H))[1024+p / 16]? = some (.bool (s.G (p / 16))):=Y6 (by omega)
 have hw16:=AU2 (q:=p) (by omega)
 have ht16:((p:Nat):Int).tmod 16=((p % 16:Nat):Int):=by rw [Int.tmod_eq_emod_of_nonneg (by omega)];omega
 have hby:=X4 (K:=s.K) (G:=s.G) (B:=s.B) (P:=stA s.l s.C s.H) hp4
 have hyl:=by_len (s.B p)
 have hyz:=AK3 (s.B p)
 generalize hy:byA (s.B p)=y at hby hyl hyz
 have e0:G8 s.K (p+1)=G8 s.K p:=if_pos h0
 have e2:=AS2 (s:=s) (p:=p) fun h=>by rw [h0] at h;exact absurd h.1 (by decide)
 have e1:Q6 s.G (p+1)=Q6 s.G p:=if_neg hu
 unfold skel
 dsimp only
 by_cases h16:p % 16=0
 ·have hG:s.G (p / 16)=false:=by
   cases h:s.G (p / 16) with
   | false=>rfl
   | true=>exact absurd ⟨h16,h⟩ hu
  rw [hG] at hh
  (refine wtk ?_;repeat' (first|with_reducible refine And.intro ?_ ?_|intro hsp))
  all_goals exact D6 (p+1) [] (by (try dsimp only);omega) (by first|omega|(dsimp only;omega)) rfl (by ((try dsimp only);rw [e0,e1,e2]);exact AF7)
 ·(refine wtk ?_;repeat' (first|with_reducible refine And.intro ?_ ?_|intro hsp))
  all_goals exact D6 (p+1) [] (by (try dsimp only);omega) (by first|omega|(dsimp only;omega)) rfl (by ((try dsimp only);rw [e0,e1,e2]);exact AF7)
end
end Go.Proofs.YtbhgfoikbkaohaaGreat
