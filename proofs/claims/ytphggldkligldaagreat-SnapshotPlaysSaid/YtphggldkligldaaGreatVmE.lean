/-
 The runs of the program: its iterator,collected.
 The ends of Save: growing slices become values.
 Pages' bytes as wholes: compared,written,read.
 Save of the program.
-/
import Derived.Test.YtphggldkligldaaGreatQd
set_option linter.unusedSimpArgs false
set_option linter.unusedVariables false
set_option maxHeartbeats 800000
namespace Go.Proofs.YtphggldkligldaaGreat
open Go Go.Am Go.Pol
theorem ppx_Ti {p:Prop} (h:p:=by ((first|with_reducible assumption|(with_reducible first|apply R9 _|apply K7 R9|apply K7 q9|apply q9|apply D7|apply AQ9|apply I9 D7|apply K4 D7|apply H8|apply J4|apply I9 hP|fail)|exact ppw|fail);first|done|fail)):p:=h
open Go.Proofs.YtphggldkligldaaGreat renaming plx_Sd → plx
open Go.Proofs.YtphggldkligldaaGreat renaming ppx_Ti → ppx
theorem wx_Ti {p q:Prop} (hq:q) (h:R7 q→p:=by (intro hQz;((repeat' ((try (conv=>whnf));first|refine sxA ?_|refine J2 (by with_reducible assumption) ?_|refine sxF ?_|refine AT2 D9 rfl hF hA hB rfl ?_|refine AA2 (f:=rnA) (l2:=[⟨(p:Nat),(q:Int) - (p:Int),K p⟩]) AT6 (Y7 rfl rfl) (fun hz=>by first|(simp [lk,G5 hz];done)|exact G5 hz) (fun hz=>by first|(simp [lk,j6 hz];done)|exact j6 hz) rfl (by decide) ⟨by omega,by omega⟩ rfl ?_|(refine AA1 (f:=rnA) (l2:=[⟨(p:Nat),(q:Int) - (p:Int),K p⟩]) AT6 (Y7 rfl rfl) (fun hz=>by first|(simp [lk,G5 hz];done)|exact G5 hz) rfl (by decide) ⟨by omega,by omega⟩ ?_ ?_<;>intro hzz)|refine AA2 (f:=rnA) (l2:=[⟨(p:Nat),((1024:Nat):Int) - (p:Int),K p⟩]) AT6 (Y7 rfl rfl) (fun hz=>by first|(simp [lk,G5 hz];done)|exact G5 hz) (fun hz=>by first|(simp [lk,j6 hz];done)|exact j6 hz) rfl (by decide) ⟨by omega,by omega⟩ rfl ?_|(refine AA1 (f:=rnA) (l2:=[⟨(p:Nat),((1024:Nat):Int) - (p:Int),K p⟩]) AT6 (Y7 rfl rfl) (fun hz=>by first|(simp [lk,G5 hz];done)|exact G5 hz) rfl (by decide) ⟨by omega,by omega⟩ ?_ ?_<;>intro hzz)|(refine O6 D9 b141 rfl ?_;unfold c141)|refine sxH ?_|((with_reducible first|apply L8 hQz|apply L9 hQz)<;>(try intro hsp hQz))|exact hQz.out))<;>(try (conv=>whnf))))):p:=h ⟨hq⟩
section
variable {K:Nat→Int} {M:Nat→Bool} {B:Nat→Nat→Int} {P:List AV}
theorem wk_frzRn {σ:Nat→Nat} {h h':Hp} {d n:Nat} {L:List Rn} (hn:L.length=n) (hi:L.length ≠ 0→lk h.l d=some (.cells (flat rnA L))) (hi':∀ j o,lk h'.l j=some o→σ j ≠ d) (hs:AG8 σ h h'):WkV Tryz.prog σ h h' (AN9 d 3 n) (.isl (L.map rnA)):=by
 subst hn
 by_cases hz:L.length=0
 ·rw [hz,BD1]
  cases List.eq_nil_of_length_eq_zero hz
  exact AU4
 ·rw [AZ0 hz]
  refine Ac1 (hi hz) hi' hs (by simp) (fun e he=>?_) ?_ fun e he x hx=>?_
  ·obtain ⟨s,_,rfl⟩:=List.mem_map.1 he;rfl
  ·rw [List.drop_zero,List.take_of_length_le (by rw [I8 AT6];exact Nat.le_refl _)];rfl
  ·obtain ⟨s,_,rfl⟩:=List.mem_map.1 he;exact q9 s x hx
theorem end_col {top:Bool} {h:Hp} {x r:AV} {cs:List AV} (hr:WkV Tryz.prog (rn []) h ⟨[(0,.cells cs),(1,.cells [.ptr 0 0])],2⟩ x r) (h0:lk h.l 0=some (.cells cs)) (h1:lk h.l 1=some (.cells [.ptr 0 0])) (pd:∀ x ∈ cs,Plain x) :
  AU3 top Tryz.prog 2 h x (fun r' h'=>r'=r∧h'=⟨[(0,.cells cs),(1,.cells [.ptr 0 0])],2⟩):=by
 have hs:AG8 (rn []) h ⟨[(0,.cells cs),(1,.cells [.ptr 0 0])],2⟩:=fun i o hi=>by
  simp only [lk] at hi
  show ∃ o',lk h.l i=some o'
  split at hi
  ·rename_i e;subst e;exact ⟨_,h0⟩
  ·split at hi
   ·rename_i e;subst e;exact ⟨_,h1⟩
   ·cases hi
 exact AA0 [] rfl (Nat.le_refl _) (P6 rfl) hr (F5 hs (show 0 < 2 by decide) h0 rfl pd (I4 (show 1 < 2 by decide) h1 (C8 (R4 rfl (show 0 < 2 by decide)) F8) J8)) ⟨rfl,rfl⟩
theorem col_not {cs:List AV} {d:Nat} (hd:2≤d):∀ j o,lk (Hp.mk [(0,.cells cs),(1,.cells [.ptr 0 0])] 2).l j=some o→rn [] j ≠ d:=fun j o hj=>by
 simp only [lk] at hj
 show j ≠ d
 split at hj
 ·omega
 ·split at hj
  ·omega
  ·cases hj
theorem col_sub {h:Hp} {cs:List AV} (h0:∃ o,lk h.l 0=some o) (h1:∃ o,lk h.l 1=some o):AG8 (rn []) h ⟨[(0,.cells cs),(1,.cells [.ptr 0 0])],2⟩:=fun i o hi=>by
 simp only [lk] at hi
 show ∃ o',lk h.l i=some o'
 split at hi
 ·rename_i e;subst e;exact h0
 ·split at hi
  ·rename_i e;subst e;exact h1
  ·cases hi
theorem l_collect (hP:∀ x ∈ P,Plain x):AT8 Tryz.prog G0 83 [.fn 142 [] [.ptr 1 0]] [(0,.cells (sysB K M B P)),(1,.cells [.ptr 0 0])] 2 fun x h1=>x = .isl ((I6 K 1024).map rnA)∧h1=⟨[(0,.cells (sysB K M B P)),(1,.cells [.ptr 0 0])],2⟩:=by
 refine E8 D9 b83 rfl ?_
 unfold c83
 (refine wx_Ti ?_;repeat' (first|with_reducible refine And.intro ?_ ?_|intro hsp))
 refine AS1 D9 b142 rfl trivial ?_
 intro frl asl bdl hF hA hB
 unfold c142
 (refine wx_Ti ?_;repeat' (first|with_reducible refine And.intro ?_ ?_|intro hsp))
 (refine H9 [0,1] (fun (p:Nat)=>[(3,.int .i64 (p:Nat))]) (fun (p:Nat)=>⟨[(0,.cells (sysB K M B P)),(1,.cells [.ptr 0 0]),(2,.cells [AN9 4 3 (I6 K p).length]),(3,.loop .ready none frl [7] asl bdl)]++AE8 4 rnA (I6 K p),5⟩) (fun (p:Nat)=>p≤1024∧(p=0∨p=1024∨K (p - 1) ≠ K p)) (fun (p:Nat)=>1024 - p) (0) [] rfl (fun _=>by first|exact Nat.zero_le _|(dsimp only;omega)) ?_ (by ((try (conv=>whnf));exact Ap0)) ?_)
 ·exact ⟨Nat.zero_le _,.inl rfl⟩
 rintro p ⟨hp,hb⟩
 have hL:=Y9 (K:=K) (n:=p)
 by_cases hp4:p < 1024
 ·have hk:(sysB K M B P)[1+p * 66+0]? = some (.int .i64 (K p)):=AS0 (by omega)
  (refine wx_Ti ?_;repeat' (first|with_reducible refine And.intro ?_ ?_|intro hsp))
  (refine H9 [0,1,4] (fun (q:Nat)=>[(3,.int .i64 (q:Nat))]) (fun (q:Nat)=>⟨[(0,.cells (sysB K M B P)),(1,.cells [.ptr 0 0]),(2,.cells [AN9 4 3 (I6 K p).length]),(3,.loop .ready none frl [7] asl bdl),(5,.cells [.int .i64 (p:Nat),.int .i64 ((q:Int) - (p:Int)),.int .i64 (K p)])]++AE8 4 rnA (I6 K p),6⟩) (fun (q:Nat)=>p≤q∧q≤1024∧∀ i,i < q - p→K (p+i)=K p) (fun (q:Nat)=>1024 - q) (p) [] rfl (fun _=>by first|exact Nat.zero_le _|(dsimp only;omega)) ?_ (by ((try (conv=>whnf));(rw [Int.sub_self]);exact Ap0)) ?_)
  ·exact ⟨Nat.le_refl _,by omega,fun i hi=>by omega⟩
  rintro q ⟨h1,h2,h3⟩
  by_cases hq:q < 1024
  ·have hk:(sysB K M B P)[1+q * 66+0]? = some (.int .i64 (K q)):=AS0 (by omega)
   by_cases h4:K q=K p
   ·(refine wx_Ti ?_;repeat' (first|with_reducible refine And.intro ?_ ?_|intro hsp))
    all_goals exact D8 (q+1) [] ⟨by omega,by omega,fun i hi=>if e:p+i=q then by rw [e];exact h4 else h3 i (by omega)⟩ (by first|omega|(dsimp only;omega)) rfl (by exact Ap0)
   ·have hpq:p < q:=by
     by_cases e:q=p
     ·exact absurd (by rw [e]) h4
     ·omega
    have hb2:K (q - 1) ≠ K q:=by
     have:=h3 (q - 1 - p) (by omega)
     rw [show p+(q - 1 - p)=q - 1 by omega] at this
     rw [this];exact fun e=>h4 e.symm
    (refine wx_Ti ?_;repeat' (first|with_reducible refine And.intro ?_ ?_|intro hsp))
    ·have hr:I6 K q=I6 K p:=by
      have:=Aq8 (K:=K) (p:=p) (j:=q - p) fun i hi=>(h3 i hi).trans hsp
      rw [show p+(q - p)=q by omega] at this;exact this
     exact D8 q [] ⟨h2,.inr (.inr hb2)⟩ (by first|omega|(dsimp only;omega)) rfl (by ((try dsimp only);rw [hr]);exact Ap0)
    ·have hr:I6 K q=I6 K p++[⟨(p:Nat),(q:Int) - (p:Int),K p⟩]:=by
      have:=BC4 (K:=K) (p:=p) (j:=q - p - 1) (hb.elim .inl fun h=>h.elim (fun h=>by omega) .inr) hsp fun i hi=>h3 i (by omega)
      rw [show p+(q - p - 1+1)=q by omega] at this;rw [this];congr 3;omega
     exact D8 q [(4,22)] ⟨h2,.inr (.inr hb2)⟩ (by first|omega|(dsimp only;omega)) rfl (by ((try dsimp only);rw [hr]);exact Ap0)
  ·have hpq:p < q:=by omega
   obtain rfl:q=1024:=by omega
   (refine wx_Ti ?_;repeat' (first|with_reducible refine And.intro ?_ ?_|intro hsp))
   ·have hr:I6 K 1024=I6 K p:=by
     have:=Aq8 (K:=K) (p:=p) (j:=1024 - p) fun i hi=>(h3 i hi).trans hsp
     rw [show p+(1024 - p)=1024 by omega] at this;exact this
    exact D8 1024 [] ⟨h2,.inr (.inl rfl)⟩ (by first|omega|(dsimp only;omega)) rfl (by ((try dsimp only);rw [hr]);exact Ap0)
   ·have hr:I6 K 1024=I6 K p++[⟨(p:Nat),((1024:Nat):Int) - (p:Int),K p⟩]:=by
     have:=BC4 (K:=K) (p:=p) (j:=1024 - p - 1) (hb.elim .inl fun h=>h.elim (fun h=>by omega) .inr) hsp fun i hi=>h3 i (by omega)
     rw [show p+(1024 - p - 1+1)=1024 by omega] at this;rw [this];congr 3;omega
    exact D8 1024 [(4,22)] ⟨h2,.inr (.inl rfl)⟩ (by first|omega|(dsimp only;omega)) rfl (by ((try dsimp only);rw [hr]);exact Ap0)
 ·obtain rfl:p=1024:=by omega
  (refine wx_Ti ?_;repeat' (first|with_reducible refine And.intro ?_ ?_|intro hsp))
  all_goals exact end_col (wk_frzRn rfl (fun hz=>G5 hz) (col_not (by decide)) (col_sub ⟨_,rfl⟩ ⟨_,rfl⟩)) rfl rfl (I9 hP)
end
end Go.Proofs.YtphggldkligldaaGreat
namespace Go.Proofs.YtphggldkligldaaGreat
open Go Go.Am Go.Pol
theorem Ap2 {α:Type} {f:α→List AV} {σ:Nat→Nat} {h h':Hp} {d n sz:Nat} {L:List α} (hf:∀ x,(f x).length=sz) (hp:∀ c,∀ x ∈ f c,Plain x) (hn:L.length=n) (hi:L.length ≠ 0→lk h.l d=some (.cells (flat f L))) (hi':∀ j o,lk h'.l j=some o→σ j ≠ d) (hs:AG8 σ h h'):WkV Tryz.prog σ h h' (AN9 d sz n) (.isl (L.map f)):=by
 subst hn
 by_cases hz:L.length=0
 ·rw [hz,BD1]
  cases List.eq_nil_of_length_eq_zero hz
  exact AU4
 ·rw [AZ0 hz]
  refine Ac1 (hi hz) hi' hs (by simp) (fun e he=>?_) ?_ fun e he x hx=>?_
  ·obtain ⟨s,_,rfl⟩:=List.mem_map.1 he;exact hf s
  ·rw [List.drop_zero,List.take_of_length_le (by rw [I8 hf];exact Nat.le_refl _)];rfl
  ·obtain ⟨s,_,rfl⟩:=List.mem_map.1 he;exact hp s x hx
theorem Ar8 {cs:List AV} {d:Nat} (hd:1≤d):∀ j o,lk (Hp.mk [(0,.cells cs)] 1).l j=some o→rn [] j ≠ d:=fun j o hj=>by
 simp only [lk] at hj
 show j ≠ d
 split at hj
 ·omega
 ·cases hj
theorem one_sub {h:Hp} {cs:List AV} (h0:∃ o,lk h.l 0=some o):AG8 (rn []) h ⟨[(0,.cells cs)],1⟩:=fun i o hi=>by
 simp only [lk] at hi
 show ∃ o',lk h.l i=some o'
 split at hi
 ·rename_i e;subst e;exact h0
 ·cases hi
theorem end_one {top:Bool} {h:Hp} {x r:AV} {cs:List AV} (hr:WkV Tryz.prog (rn []) h ⟨[(0,.cells cs)],1⟩ x r) (h0:lk h.l 0=some (.cells cs)) (pd:∀ x ∈ cs,Plain x):AU3 top Tryz.prog 1 h x (fun r' h'=>r'=r∧h'=⟨[(0,.cells cs)],1⟩) :=
 AA0 [] rfl (Nat.le_refl _) (P6 rfl) hr (F5 (one_sub ⟨_,h0⟩) (show 0 < 1 by decide) h0 rfl pd J8) ⟨rfl,rfl⟩
theorem end_save {cs c1 c2:List AV} {R:List Rn} {U:List Int} {D:List Dt} {l:List Rl} {C H:Nat→Int} (pd:∀ x ∈ cs,Plain x):AU3 true Tryz.prog 1 ⟨(0,.cells cs)::(1,.cells c1)::(2,.cells c2)::(AE8 3 inA U++(AE8 4 dtA D++[])),5⟩ (.agg [.isl (R.map rnA),AN9 3 1 U.length,AN9 4 65 D.length,.isl (l.map rlA),.int .i64 (C 0),.int .i64 (C 1),.int .i64 (C 2),.int .i64 (C 3),.int .i64 (C 4),.int .i64 (C 5),.int .i64 (C 6),.int .i64 (H 0),.int .i64 (H 1),.int .i64 (H 2),.int .i64 (H 3),.int .i64 (H 4),.int .i64 (H 5),.int .i64 (H 6)]) (fun x h1=>x = .agg (vsA ⟨R,U,D,l,C,H⟩)∧h1=⟨[(0,.cells cs)],1⟩):=by
 have hs:AG8 (rn []) ⟨(0,.cells cs)::(1,.cells c1)::(2,.cells c2)::(AE8 3 inA U++(AE8 4 dtA D++[])),5⟩ ⟨[(0,.cells cs)],1⟩:=one_sub ⟨_,rfl⟩
 refine end_one (AE2 (C8 (M8 hs (u7 q9)) (C8 (Ap2 At2 AN1 rfl (fun hz=>by simp [lk,X3 hz]) (Ar8 (by decide)) hs) (C8 (Ap2 Af6 AN5 rfl (fun hz=>by simp [lk,X4,G5 hz]) (Ar8 (by decide)) hs) (Ab8 hs D7))))) rfl pd
theorem end_save3 {cs c1 c2:List AV} {R:List Rn} {U:List Int} {D:List Dt} {l:List Rl} {C H:Nat→Int} (pd:∀ x ∈ cs,Plain x):AU3 true Tryz.prog 1 ⟨(0,.cells cs)::(1,.cells c1)::(2,.cells c2)::(AE8 10 rnA R++(AE8 11 inA U++(AE8 12 dtA D++[]))),13⟩ (.agg [AN9 10 3 R.length,AN9 11 1 U.length,AN9 12 65 D.length,.isl (l.map rlA),.int .i64 (C 0),.int .i64 (C 1),.int .i64 (C 2),.int .i64 (C 3),.int .i64 (C 4),.int .i64 (C 5),.int .i64 (C 6),.int .i64 (H 0),.int .i64 (H 1),.int .i64 (H 2),.int .i64 (H 3),.int .i64 (H 4),.int .i64 (H 5),.int .i64 (H 6)]) (fun x h1=>x = .agg (vsA ⟨R,U,D,l,C,H⟩)∧h1=⟨[(0,.cells cs)],1⟩):=by
 have hs:AG8 (rn []) ⟨(0,.cells cs)::(1,.cells c1)::(2,.cells c2)::(AE8 10 rnA R++(AE8 11 inA U++(AE8 12 dtA D++[]))),13⟩ ⟨[(0,.cells cs)],1⟩:=one_sub ⟨_,rfl⟩
 refine end_one (AE2 (C8 (Ap2 AT6 q9 rfl (fun hz=>by simp [lk,X3 hz]) (Ar8 (by decide)) hs) (C8 (Ap2 At2 AN1 rfl (fun hz=>by simp [lk,X4,X3 hz]) (Ar8 (by decide)) hs) (C8 (Ap2 Af6 AN5 rfl (fun hz=>by simp [lk,X4,G5 hz]) (Ar8 (by decide)) hs) (Ab8 hs D7))))) rfl pd
end Go.Proofs.YtphggldkligldaaGreat
namespace Go.Pol
open Go.Am
theorem BD2:∀ {vs cs pre:List AV},cs.length=vs.length→over (pre++cs) pre.length vs=pre++vs
 | [],cs,pre,h=>by
  have : cs=[]:=List.eq_nil_of_length_eq_zero (by simpa using h)
  subst this;rfl
 | v::vs,[],pre,h=>by simp at h
 | v::vs,c::cs,pre,h=>by
  show over ((pre++c::cs).set pre.length v) (pre.length+1) vs=_
  rw [List.set_append_right _ _ (Nat.le_refl _),Nat.sub_self,List.set_cons_zero]
  have:=BD2 (vs:=vs) (cs:=cs) (pre:=pre++[v]) (by simpa using h)
  rw [List.length_append,List.append_assoc,List.append_assoc] at this
  exact this
theorem y_take {y:List AV} (h:y.length=64):y.take 64=y:=List.take_of_length_le (by omega)
theorem y_drop {y:List AV}:y.drop 0=y:=rfl
theorem over_y {y:List AV} (h:y.length=64):over (List.replicate 64 (AV.int .u8 0)) 0 y=y:=BD2 (pre:=[]) (by rw [h];rfl)
theorem over_y1 {y:List AV} {x:AV} (h:y.length=64):over (x::List.replicate 64 (AV.int .u8 0)) 1 y=x::y:=BD2 (pre:=[x]) (by rw [h];rfl)
theorem AN4 (b:Nat→Int):eqL (List.replicate 64 0) (byA b) (List.replicate 64 (.int .u8 0))=some (decide (AH7 b)):=by
 have key:∀ (F:Nat→Int) (n k:Nat),∃ t,eqL (List.replicate n 0) ((List.range' k n).map fun j=>.int .u8 (F j)) (List.replicate n (.int .u8 0))=some t∧(t=true ↔ ∀ j,k≤j→j < k+n→F j=0):=by
  intro F n
  induction n with
  | zero=>intro k;exact ⟨true,rfl,⟨fun _ j h1 h2=>by omega,fun _=>rfl⟩⟩
  | succ n ih =>
   intro k
   obtain ⟨t,h1,h2⟩:=ih (k+1)
   refine ⟨(F k == 0) && t,?_,?_⟩
   ·rw [List.replicate_succ,List.replicate_succ,List.range'_succ,List.map_cons]
    simp only [eqL,eq1,if_true,Option.bind_some,h1,Option.map_some]
   ·rw [Bool.and_eq_true,beq_iff_eq,h2]
    constructor
    ·rintro ⟨h1,h2⟩ j hj1 hj2
     by_cases e:j=k
     ·rw [e];exact h1
     ·exact h2 j (by omega) (by omega)
    ·intro h;exact ⟨h k (Nat.le_refl _) (by omega),fun j h1 h2=>h j (by omega) (by omega)⟩
 obtain ⟨t,h1,h2⟩:=key b 64 0
 unfold byA
 rw [List.range_eq_range',h1]
 congr 1
 rw [Bool.eq_iff_iff,h2,decide_eq_true_eq]
 exact ⟨fun h j hj=>h j (Nat.zero_le _) (by omega),fun h j _ hj=>h j (by omega)⟩
section
variable {K:Nat→Int} {M G:Nat→Bool} {B:Nat→Nat→Int} {P:List AV} {p o:Nat}
theorem sys_bytes (hp:p < 1024):((sysB K M B P).drop (1+p * 66+2)).take 64=byA (B p):=by
 rw [sysB,Ae0 (by omega)]
 unfold byA
 refine List.map_congr_left fun j hj=>?_
 have hj:=List.mem_range.1 hj
 rw [Nat.add_assoc (1+p * 66),AJ3 hp (by omega)]
 unfold Ar6
 rw [if_neg (by omega),if_neg (by omega),show 2+j - 2=j by omega]
theorem j3 (hp:p < 1024):((refK K G B P).drop (1088+p * 64)).take 64=byA (B p):=by
 rw [refK,Ae0 (by omega)]
 unfold byA
 exact List.map_congr_left fun j hj=>AQ6 hp (List.mem_range.1 hj)
theorem sys_rules {l:List Rl} {C H:Nat→Int} (h:o=67585):(sysB K M B (stA l C H))[o+0+0]? = some (.isl (l.map rlA)):=by
 show _[o]? = _
 have e:=Aq4 (K:=K) (M:=M) (B:=B) h (p9 (l:=l) (C:=C) (H:=H))
 have:=List.getElem?_take_of_lt (l:=(sysB K M B (stA l C H)).drop o) (i:=0) (j:=15) (by decide)
 rw [e,List.getElem?_drop,Nat.add_zero] at this
 rw [← this];rfl
theorem X8 {l:List Rl} {C H:Nat→Int} (h:o=66624):(refK K G B (stA l C H))[o+0+0]? = some (.isl (l.map rlA)):=by
 show _[o]? = _
 have e:=U9 (K:=K) (G:=G) (B:=B) h (p9 (l:=l) (C:=C) (H:=H))
 have:=List.getElem?_take_of_lt (l:=(refK K G B (stA l C H)).drop o) (i:=0) (j:=15) (by decide)
 rw [e,List.getElem?_drop,Nat.add_zero] at this
 rw [← this];rfl
end
end Go.Pol
namespace Go.Proofs.YtphggldkligldaaGreat
open Go Go.Am Go.Pol
theorem plx_Tj {p:Prop} (h:p:=by ((first|exact plw|(with_reducible first|apply AI8|apply X0|apply M9|apply J6|apply Y3|apply AF1|apply AM5|apply AB8|apply Ad7|apply Am4|apply AB5|apply AI0|apply u7 q9|apply u7 AN1|apply u7 AN5|fail)|fail);first|done|fail)):p:=h
theorem ppx_Tj {p:Prop} (h:p:=by ((first|with_reducible assumption|(with_reducible first|apply R9 _|apply K7 R9|apply K7 q9|apply q9|apply D7|apply AQ9|apply I9 D7|apply K4 D7|apply H8|apply J4|fail)|exact ppw|fail);first|done|fail)):p:=h
open Go.Proofs.YtphggldkligldaaGreat renaming plx_Tj → plx
open Go.Proofs.YtphggldkligldaaGreat renaming ppx_Tj → ppx
theorem l_runs:AT8 Tryz.prog G0 84 [.ptr 0 0] [] 1 fun x h=>x = .fn 142 [] [.ptr 1 0]∧h=⟨[(1,.cells [.ptr 0 0])],2⟩:=by
 refine E8 D9 b84 rfl ?_
 unfold c84
 (refine wx_Tc ?_;repeat' (first|with_reducible refine And.intro ?_ ?_|intro hsp))
 all_goals exact AA0 [] rfl (by decide) (P6 rfl) (wk_fn F8 (C8 (R4 rfl (show 1 < 2 by decide)) F8)) (I4 (show 1 < 2 by decide) rfl (C8 (R4 rfl (show 0 < 2 by decide)) F8) J8) ⟨rfl,rfl⟩
theorem dcx_runs {h:Hp} {K:AV→Up→List Nat→Prop} {cs:List AV} (h0:lk h.l 0=some (.cells cs)) (hk:K (.fn 142 [] [.ptr h.next 0]) [(h.next,some (.cells [.ptr 0 0]))] [0]):AP8 Tryz.prog G0 84 [.ptr 0 0] h K:=by
 have e0:enter [0] 0 0:=rfl
 have k0:oneMore [0] h.next 0 0:=.inl rfl
 have k1:oneMore [0] h.next 1 h.next:=.inr ⟨rfl,rfl⟩
 exact dcx_new (r':=.fn 142 [] [.ptr h.next 0]) (cs':=[.ptr 0 0]) [0] l_runs F3 (fun n hn=>by obtain rfl:=List.mem_singleton.1 hn;exact ⟨_,h0⟩) ⟨F9 e0,trivial⟩ (rn_fn trivial ⟨F9 k1,trivial⟩) ⟨F9 k0,trivial⟩ hk
section
variable {K:Nat→Int} {M:Nat→Bool} {B:Nat→Nat→Int} {P:List AV}
theorem BW9 {h:Hp} {Q:AV→Up→List Nat→Prop} {b:Nat} (hP:∀ x ∈ P,Plain x) (hb:Nat.beq b 0=false) (h0:lk h.l 0=some (.cells (sysB K M B P))) (h1:lk h.l b=some (.cells [.ptr 0 0])) (hk:Q (.isl ((I6 K 1024).map rnA)) [] [0,b]):AP8 Tryz.prog G0 83 [.fn 142 [] [.ptr b 0]] h Q:=by
 have hne:b ≠ 0:=Av5 hb
 have e0:enter [0,b] 0 0:=rfl
 have e1:enter [0,b] b 1:=rfl
 refine ⟨_,_,_,fnU_ro (p:=enter [0,b]) (g:=fun j=>[0,b].getD j 0) (l_collect (K:=K) (M:=M) (B:=B) hP) F3 ?_ ⟨rn_fn trivial ⟨F9 e1,trivial⟩,trivial⟩ (C9 (u7 q9)),hk⟩
 refine ⟨fun i j hij=>?_,fun i j j' h1 h2=>?_,fun j o hj=>?_,fun i hi=>?_⟩
 ·have hij:[0,b][j]? = some i:=hij
  match j,hij with
  | 0,hij=>cases hij;exact ⟨by decide,rfl,List.mem_cons_self ..⟩
  | 1,hij=>cases hij;exact ⟨by decide,rfl,List.mem_cons_of_mem _ (List.mem_cons_self ..)⟩
 ·have h1:[0,b][j]? = some i:=h1
  have h2:[0,b][j']? = some i:=h2
  match j,j',h1,h2 with
  | 0,0,_,_=>rfl
  | 1,1,_,_=>rfl
  | 0,1,h1,h2=>cases h1;cases h2;exact absurd rfl hne
  | 1,0,h1,h2=>cases h1;cases h2;exact absurd rfl hne
 ·simp only [lk] at hj
  split at hj
  ·rename_i e;subst e;cases hj;exact ⟨0,_,_,e0,h0,rfl,D5 (I9 hP),D5 (I9 hP)⟩
  ·split at hj
   ·rename_i e;subst e;cases hj;exact ⟨b,_,_,e1,h1,rfl,⟨F9 e0,trivial⟩,⟨F9 (p:=fun j i=>enter [0,b] i j) (i:=0) (j:=0) e0,trivial⟩⟩
   ·cases hj
 ·rcases List.mem_cons.1 hi with rfl|hi
  ·exact ⟨0,_,e0,rfl⟩
  ·obtain rfl:=List.mem_singleton.1 hi;exact ⟨1,_,e1,rfl⟩
end
theorem wtj {p q:Prop} (hq:q) (h:R7 q→p:=by (intro hQz;((repeat' ((try (conv=>whnf));first|(with_reducible first|refine U3 ?_|refine P7 ?_|refine U6 ?_|refine U8 ?_|refine Q7 ?_|refine Z7 ?_|refine U1 ?_|refine Z6 rfl ?_|refine U2 ?_|refine M7 ?_|refine Q5 ?_|refine Q6 ?_|refine U7 ?_|refine M6 ?_|refine P8 (by decide +kernel) ?_|refine O8 (by decide +kernel) ?_|refine AL1 ?_|refine AL2 ?_|refine Aw7 ?_|refine AC9 ?_|refine AO8 ?_|refine Ao5 (by assumption) ?_|refine Ao6 (by assumption) ?_|refine AC8 (by omega) ?_|refine AO7 ?_)|((with_reducible refine AO9 ?_ ?_);focus omega)|((with_reducible refine AP0 ?_ ?_);focus omega)|((with_reducible apply L8 hQz)<;>(try intro hsp hQz))|((with_reducible refine Aw5 ?_ ?_);focus (first|omega|rfl|assumption|decide|(simp only [List.length_map,List.length_cons,List.length_nil];omega)|(simp only [List.length_cons];omega)))|(with_reducible first|refine AO4 ?_|refine AC7 ?_|refine AC6 ?_|refine AO6 ?_|refine AO5 ?_|refine AO2 ?_|refine Aw3 ?_|refine M0 ?_|refine AC4 ?_|refine U5 ?_|refine U4 ?_|refine M4 ?_|refine AO3 (by omega) ?_|refine AC5 (by omega) ?_)|refine J2 (by with_reducible assumption) ?_|refine J2 AR8 ?_|refine AC0 (by with_reducible assumption) ?_|refine Y5 (by rw [AR9];omega) rfl ?_|refine Y0 (by rw [List.length_drop,AR9];omega) (by with_reducible assumption) ?_|refine Y0 (by omega) (y_take (by with_reducible assumption)) ?_|refine Y5 (Nat.zero_le _) y_drop ?_|refine AK8 (by first|(simp only [List.length_replicate];omega)|fail) (over_y (by with_reducible assumption)) ?_|refine AK8 (by first|(simp only [List.length_cons,List.length_nil];omega)|fail) (over_y1 (by with_reducible assumption)) ?_|refine Au5 (by with_reducible assumption) ?_|refine del_tS ?_|refine del_tO rfl ?_|refine del_n ?_|(with_reducible first|refine AF9 ?_|refine Ax5.mk (by kernel_rfl) ?_|refine AH4 rfl ?_|refine AG4 (by decide +kernel) ?_|refine AG1 rfl ?_)|refine BW9 D7 rfl rfl rfl ?_|refine dcx_runs rfl ?_|refine G7 (by assumption) ?_|refine J5 (by assumption) ?_|refine L6 (by assumption) ?_|(refine O6 D9 b82 rfl ?_;unfold c82)|refine AA2 (f:=inA) (l2:=[((p:Nat):Int)]) At2 (Y7 rfl (by first|rfl|(simp;done)|(simp [*];done))) (fun hz=>by first|(simp [lk,X4,X3 hz,G5 hz];done)|rfl) (fun hz=>by first|(simp [lk,X4,AS7,BE0 hz,j6 hz];done)|rfl) (by first|rfl|(simp [flat,inA];done)|(simp [flat,inA, *];done)) (by decide) ⟨by omega,by omega⟩ rfl ?_|((with_reducible apply Ag1 hQz);intro hQa hQb;refine AA1 (f:=inA) (l2:=[((p:Nat):Int)]) At2 (Y7 rfl (by first|rfl|(simp;done)|(simp [*];done))) (fun hz=>by first|(simp [lk,X4,X3 hz,G5 hz];done)|rfl) (by first|rfl|(simp [flat,inA];done)|(simp [flat,inA, *];done)) (by decide) ⟨by omega,by omega⟩ ?_ ?_<;>intro hzz<;>first|(have hQz:=R7.mk (hQa.out hzz))|(have hQz:=R7.mk (hQb.out hzz)))|refine AA2 (f:=dtA) (l2:=[⟨((p:Nat):Int),s.B p⟩]) Af6 (Y7 rfl (by first|rfl|(simp;done)|(simp [*];done))) (fun hz=>by first|(simp [lk,X4,X3 hz,G5 hz];done)|rfl) (fun hz=>by first|(simp [lk,X4,AS7,BE0 hz,j6 hz];done)|rfl) (by first|rfl|(simp [flat,dtA];done)|(simp [flat,dtA, *];done)) (by decide) ⟨by omega,by omega⟩ rfl ?_|((with_reducible apply Ag1 hQz);intro hQa hQb;refine AA1 (f:=dtA) (l2:=[⟨((p:Nat):Int),s.B p⟩]) Af6 (Y7 rfl (by first|rfl|(simp;done)|(simp [*];done))) (fun hz=>by first|(simp [lk,X4,X3 hz,G5 hz];done)|rfl) (by first|rfl|(simp [flat,dtA];done)|(simp [flat,dtA, *];done)) (by decide) ⟨by omega,by omega⟩ ?_ ?_<;>intro hzz<;>first|(have hQz:=R7.mk (hQa.out hzz))|(have hQz:=R7.mk (hQb.out hzz)))|refine M0 ?_|refine M4 ?_|refine AU1 rfl rfl ?_|refine AB0 ?_|refine Z4 rfl ?_|refine AU2 rfl ?_|refine AT9 rfl ?_|refine AH2 rfl ?_|refine V5 ?_|refine BB1.mk ?_|((with_reducible apply L9 hQz)<;>(try intro hsp hQz))|exact hQz.out))<;>(try (conv=>whnf))))):p:=h ⟨hq⟩
section
variable {s:Sy}
theorem p_save (hg:GoodS s):AD5 28 [] s.a (.agg (vsA s.save)) s.a:=by
 refine AD5.mk (E8 D9 b28 rfl ?_) J4 J4 (fun x hx=>by cases hx) J3
 unfold c28
 unfold Sy.a
 obtain ⟨o,ho⟩:∃ o,o=67585:=⟨_,rfl⟩
 rw [← ho]
 have hst:=Aq4 (K:=s.K) (M:=s.M) (B:=s.B) ho (p9 (l:=s.l) (C:=s.C) (H:=s.H))
 have hru:=sys_rules (K:=s.K) (M:=s.M) (B:=s.B) (l:=s.l) (C:=s.C) (H:=s.H) ho
 have z:=BE4 (l:=s.l) (by have:=(AX0 hg.hv).2.1;omega)
 (refine wtj ?_;repeat' (first|with_reducible refine And.intro ?_ ?_|intro hsp))
 (refine H9 [0,2] (fun (p:Nat)=>[(3,.ptr 2 0),(28,.int .i64 (p:Nat))]) (fun (p:Nat)=>⟨[(0,.cells (sysB s.K s.M s.B (stA s.l s.C s.H))),(1,.cells [.nils,.nils,.nils,.nils,.int .i64 0,.int .i64 0,.int .i64 0,.int .i64 0,.int .i64 0,.int .i64 0,.int .i64 0,.int .i64 0,.int .i64 0,.int .i64 0,.int .i64 0,.int .i64 0,.int .i64 0,.int .i64 0]),(2,.cells [.isl ((I6 s.K 1024).map rnA),AN9 3 1 (O9 s.G p).length,AN9 4 65 (AE5 s.B p).length,.isl (s.l.map rlA),.int .i64 (s.C 0),.int .i64 (s.C 1),.int .i64 (s.C 2),.int .i64 (s.C 3),.int .i64 (s.C 4),.int .i64 (s.C 5),.int .i64 (s.C 6),.int .i64 (s.H 0),.int .i64 (s.H 1),.int .i64 (s.H 2),.int .i64 (s.H 3),.int .i64 (s.H 4),.int .i64 (s.H 5),.int .i64 (s.H 6)])]++(AE8 3 inA (O9 s.G p)++(AE8 4 dtA (AE5 s.B p)++[])),5⟩) (fun (p:Nat)=>p≤1024) (fun (p:Nat)=>1024 - p) (0) [(2,10)] rfl (fun _=>by first|exact Nat.zero_le _|(dsimp only;omega)) ?_ (by ((try (conv=>whnf));exact Ao9)) ?_)
 ·exact Nat.zero_le _
 rintro p hp
 have hL1:=Z0 (G:=s.G) (n:=p)
 have hL2:=Z5 (B:=s.B) (n:=p)
 by_cases hp4:p < 1024
 ·have z1:=k_first (p:Nat)
  have hh:(sysB s.K s.M s.B (stA s.l s.C s.H))[1+p * 66+1]? = some (.bool (s.M p)):=Am1 hp4
  have hby:=sys_bytes (K:=s.K) (M:=s.M) (B:=s.B) (P:=stA s.l s.C s.H) hp4
  have hyl:=by_len (s.B p)
  have hyz:=AN4 (s.B p)
  generalize hy:byA (s.B p)=y at hby hyl hyz
  by_cases hz:AH7 (s.B p)
  ·have e2:AE5 s.B (p+1)=AE5 s.B p:=if_pos hz
   by_cases hu:p % 16=0∧s.G (p / 16)=true
   ·have e1:O9 s.G (p+1)=O9 s.G p++[((p:Nat):Int)]:=if_pos hu
    have hf:fst (p:Nat):=⟨by omega,by omega,by rw [Int.tmod_eq_emod_of_nonneg (by omega)];omega⟩
    rw [decide_eq_true hf] at z1
    rw [show s.M p=true from hu.2] at hh
    (refine wtj ?_;repeat' (first|with_reducible refine And.intro ?_ ?_|intro hsp))
    all_goals exact D8 (p+1) [(3,6)] (by (try dsimp only);omega) (by first|omega|(dsimp only;omega)) rfl (by ((try dsimp only);rw [e1,e2]);exact Ao9)
   ·have e1:O9 s.G (p+1)=O9 s.G p:=if_neg hu
    by_cases hf:fst (p:Nat)
    ·obtain ⟨g,e,_⟩:=BV9 hf
     rw [decide_eq_true hf] at z1
     have hm:s.M p=false:=by
      cases h:s.G (p / 16) with
      | false=>exact h
      | true=>exact absurd ⟨by omega,h⟩ hu
     rw [hm] at hh
     (refine wtj ?_;repeat' (first|with_reducible refine And.intro ?_ ?_|intro hsp))
     all_goals exact D8 (p+1) [] (by (try dsimp only);omega) (by first|omega|(dsimp only;omega)) rfl (by ((try dsimp only);rw [e1,e2]);exact Ao9)
    ·rw [decide_eq_false hf] at z1
     (refine wtj ?_;repeat' (first|with_reducible refine And.intro ?_ ?_|intro hsp))
     all_goals exact D8 (p+1) [] (by (try dsimp only);omega) (by first|omega|(dsimp only;omega)) rfl (by ((try dsimp only);rw [e1,e2]);exact Ao9)
  ·have e2:AE5 s.B (p+1)=AE5 s.B p++[⟨((p:Nat):Int),s.B p⟩]:=if_neg hz
   by_cases hu:p % 16=0∧s.G (p / 16)=true
   ·have e1:O9 s.G (p+1)=O9 s.G p++[((p:Nat):Int)]:=if_pos hu
    have hf:fst (p:Nat):=⟨by omega,by omega,by rw [Int.tmod_eq_emod_of_nonneg (by omega)];omega⟩
    rw [decide_eq_true hf] at z1
    rw [show s.M p=true from hu.2] at hh
    (refine wtj ?_;repeat' (first|with_reducible refine And.intro ?_ ?_|intro hsp))
    all_goals exact D8 (p+1) [(3,6),(4,9)] (by (try dsimp only);omega) (by first|omega|(dsimp only;omega)) rfl (by ((try dsimp only);rw [e1,e2]);exact Ao9)
   ·have e1:O9 s.G (p+1)=O9 s.G p:=if_neg hu
    by_cases hf:fst (p:Nat)
    ·obtain ⟨g,e,_⟩:=BV9 hf
     rw [decide_eq_true hf] at z1
     have hm:s.M p=false:=by
      cases h:s.G (p / 16) with
      | false=>exact h
      | true=>exact absurd ⟨by omega,h⟩ hu
     rw [hm] at hh
     (refine wtj ?_;repeat' (first|with_reducible refine And.intro ?_ ?_|intro hsp))
     all_goals exact D8 (p+1) [(4,7)] (by (try dsimp only);omega) (by first|omega|(dsimp only;omega)) rfl (by ((try dsimp only);rw [e1,e2]);exact Ao9)
    ·rw [decide_eq_false hf] at z1
     (refine wtj ?_;repeat' (first|with_reducible refine And.intro ?_ ?_|intro hsp))
     all_goals exact D8 (p+1) [(4,7)] (by (try dsimp only);omega) (by first|omega|(dsimp only;omega)) rfl (by ((try dsimp only);rw [e1,e2]);exact Ao9)
 ·obtain rfl:p=1024:=by omega
  (refine wtj ?_;repeat' (first|with_reducible refine And.intro ?_ ?_|intro hsp))
  all_goals exact end_save (I9 D7)
end
end Go.Proofs.YtphggldkligldaaGreat
