/-
 The runs of the program: its iterator,collected.
 Pages' bytes as wholes: compared,written,read.
 A store's inner calls: is,stated,numbers,the bytes of a frame.
 A store's inner calls: the first free frame,the first slot.
 A function that sorts a slice of numbers,told by its contract over memory: as a contract over a store of its own. In-place appends. No program in sight.
 The iterators over a map by its keys,and the sort: their code.
 The sort's contract.
 The sorted pages;the page that was touched first.
-/
import Derived.Test.YtbhgfoikbkaohaaQan
import Derived.Sort.Grow
import Derived.Sort.EveryDepth
import Derived.Shelf.Sort.AssemblyIn
set_option linter.unusedSimpArgs false
set_option linter.unusedVariables false
set_option maxHeartbeats 6400000
namespace Go.Proofs.Ytbhgfoikbkaohaa
open Go Go.Am Go.Pol
theorem ppx_Ti {p:Prop} (h:p:=by ((first|with_reducible assumption|(with_reducible first|apply K3 _|apply Q9 K3|apply Q9 S9|apply S9|apply C8|apply AE9|apply D9 C8|apply AE4 C8|apply AL3|apply F3|apply D9 hP|fail)|exact ppw|fail);first|done|fail)):p:=h
open Go.Proofs.Ytbhgfoikbkaohaa renaming plx_Sd → plx
open Go.Proofs.Ytbhgfoikbkaohaa renaming ppx_Ti → ppx
theorem wx_Ti {p q:Prop} (hq:q) (h:X4 q→p:=by (intro hQz;((repeat' ((try (conv=>whnf));first|refine sxA ?_|refine K6 (by with_reducible assumption) ?_|refine sxF ?_|refine Ad6 F6 rfl hF hA hB rfl ?_|refine AN0 (f:=rnA) (l2:=[⟨(p:Nat),(q:Int) - (p:Int),K p⟩]) AW5 (AH4 rfl rfl) (fun hz=>by first|(simp [lk,I7 hz];done)|exact I7 hz) (fun hz=>by first|(simp [lk,AK1 hz];done)|exact AK1 hz) rfl (by decide) ⟨by omega,by omega⟩ rfl ?_|(refine AM9 (f:=rnA) (l2:=[⟨(p:Nat),(q:Int) - (p:Int),K p⟩]) AW5 (AH4 rfl rfl) (fun hz=>by first|(simp [lk,I7 hz];done)|exact I7 hz) rfl (by decide) ⟨by omega,by omega⟩ ?_ ?_<;>intro hzz)|refine AN0 (f:=rnA) (l2:=[⟨(p:Nat),((1024:Nat):Int) - (p:Int),K p⟩]) AW5 (AH4 rfl rfl) (fun hz=>by first|(simp [lk,I7 hz];done)|exact I7 hz) (fun hz=>by first|(simp [lk,AK1 hz];done)|exact AK1 hz) rfl (by decide) ⟨by omega,by omega⟩ rfl ?_|(refine AM9 (f:=rnA) (l2:=[⟨(p:Nat),((1024:Nat):Int) - (p:Int),K p⟩]) AW5 (AH4 rfl rfl) (fun hz=>by first|(simp [lk,I7 hz];done)|exact I7 hz) rfl (by decide) ⟨by omega,by omega⟩ ?_ ?_<;>intro hzz)|(refine AA9 F6 b59 rfl ?_;unfold c59)|refine sxH ?_|((with_reducible first|apply V4 hQz|apply V5 hQz)<;>(try intro hsp hQz))|exact hQz.out))<;>(try (conv=>whnf))))):p:=h ⟨hq⟩
section
variable {K:Nat→Int} {M:Nat→Bool} {B:Nat→Nat→Int} {P:List AV}
theorem wk_frzRn {σ:Nat→Nat} {h h':Hp} {d n:Nat} {L:List Rn} (hn:L.length=n) (hi:L.length ≠ 0→lk h.l d=some (.cells (flat rnA L))) (hi':∀ j o,lk h'.l j=some o→σ j ≠ d) (hs:AF7 σ h h'):WkV Try.prog σ h h' (AX3 d 3 n) (.isl (L.map rnA)):=by
 subst hn
 by_cases hz:L.length=0
 ·rw [hz,BU9]
  cases List.eq_nil_of_length_eq_zero hz
  exact Ax0
 ·rw [As5 hz]
  refine BD0 (hi hz) hi' hs (by simp) (fun e he=>?_) ?_ fun e he x hx=>?_
  ·obtain ⟨s,_,rfl⟩:=List.mem_map.1 he;rfl
  ·rw [List.drop_zero,List.take_of_length_le (by rw [AS1 AW5];exact Nat.le_refl _)];rfl
  ·obtain ⟨s,_,rfl⟩:=List.mem_map.1 he;exact S9 s x hx
theorem end_col {top:Bool} {h:Hp} {x r:AV} {cs:List AV} (hr:WkV Try.prog (rn []) h ⟨[(0,.cells cs),(1,.cells [.ptr 0 0])],2⟩ x r) (h0:lk h.l 0=some (.cells cs)) (h1:lk h.l 1=some (.cells [.ptr 0 0])) (pd:∀ x ∈ cs,Plain x) :
  AT0 top Try.prog 2 h x (fun r' h'=>r'=r∧h'=⟨[(0,.cells cs),(1,.cells [.ptr 0 0])],2⟩):=by
 have hs:AF7 (rn []) h ⟨[(0,.cells cs),(1,.cells [.ptr 0 0])],2⟩:=fun i o hi=>by
  simp only [lk] at hi
  show ∃ o',lk h.l i=some o'
  split at hi
  ·rename_i e;subst e;exact ⟨_,h0⟩
  ·split at hi
   ·rename_i e;subst e;exact ⟨_,h1⟩
   ·cases hi
 exact r9 [] rfl (Nat.le_refl _) (M6 rfl) hr (H7 hs (show 0 < 2 by decide) h0 rfl pd (P5 (show 1 < 2 by decide) h1 (A9 (X6 rfl (show 0 < 2 by decide)) J9) I8)) ⟨rfl,rfl⟩
theorem col_not {cs:List AV} {d:Nat} (hd:2≤d):∀ j o,lk (Hp.mk [(0,.cells cs),(1,.cells [.ptr 0 0])] 2).l j=some o→rn [] j ≠ d:=fun j o hj=>by
 simp only [lk] at hj
 show j ≠ d
 split at hj
 ·omega
 ·split at hj
  ·omega
  ·cases hj
theorem col_sub {h:Hp} {cs:List AV} (h0:∃ o,lk h.l 0=some o) (h1:∃ o,lk h.l 1=some o):AF7 (rn []) h ⟨[(0,.cells cs),(1,.cells [.ptr 0 0])],2⟩:=fun i o hi=>by
 simp only [lk] at hi
 show ∃ o',lk h.l i=some o'
 split at hi
 ·rename_i e;subst e;exact h0
 ·split at hi
  ·rename_i e;subst e;exact h1
  ·cases hi
theorem BW3 (hP:∀ x ∈ P,Plain x):AO7 Try.prog G0 38 [.fn 60 [] [.ptr 1 0]] [(0,.cells (sysB K M B P)),(1,.cells [.ptr 0 0])] 2 fun x h1=>x = .isl ((K7 K 1024).map rnA)∧h1=⟨[(0,.cells (sysB K M B P)),(1,.cells [.ptr 0 0])],2⟩:=by
 refine I6 F6 b38 rfl ?_
 unfold c38
 (refine wx_Ti ?_;repeat' (first|with_reducible refine And.intro ?_ ?_|intro hsp))
 refine BT3 F6 b60 rfl trivial ?_
 intro frl asl bdl hF hA hB
 unfold c60
 (refine wx_Ti ?_;repeat' (first|with_reducible refine And.intro ?_ ?_|intro hsp))
 (refine O9 [0,1] (fun (p:Nat)=>[(3,.int .i64 (p:Nat))]) (fun (p:Nat)=>⟨[(0,.cells (sysB K M B P)),(1,.cells [.ptr 0 0]),(2,.cells [AX3 4 3 (K7 K p).length]),(3,.loop .ready none frl [7] asl bdl)]++AI9 4 rnA (K7 K p),5⟩) (fun (p:Nat)=>p≤1024∧(p=0∨p=1024∨K (p - 1) ≠ K p)) (fun (p:Nat)=>1024 - p) (0) [] rfl (fun _=>by first|exact Nat.zero_le _|(dsimp only;omega)) ?_ (by ((try (conv=>whnf));exact Aw9)) ?_)
 ·exact ⟨Nat.zero_le _,.inl rfl⟩
 rintro p ⟨hp,hb⟩
 have hL:=Ak1 (K:=K) (n:=p)
 by_cases hp4:p < 1024
 ·have hk:(sysB K M B P)[1+p * 66+0]? = some (.int .i64 (K p)):=AG3 (by omega)
  (refine wx_Ti ?_;repeat' (first|with_reducible refine And.intro ?_ ?_|intro hsp))
  (refine O9 [0,1,4] (fun (q:Nat)=>[(3,.int .i64 (q:Nat))]) (fun (q:Nat)=>⟨[(0,.cells (sysB K M B P)),(1,.cells [.ptr 0 0]),(2,.cells [AX3 4 3 (K7 K p).length]),(3,.loop .ready none frl [7] asl bdl),(5,.cells [.int .i64 (p:Nat),.int .i64 ((q:Int) - (p:Int)),.int .i64 (K p)])]++AI9 4 rnA (K7 K p),6⟩) (fun (q:Nat)=>p≤q∧q≤1024∧∀ i,i < q - p→K (p+i)=K p) (fun (q:Nat)=>1024 - q) (p) [] rfl (fun _=>by first|exact Nat.zero_le _|(dsimp only;omega)) ?_ (by ((try (conv=>whnf));(rw [Int.sub_self]);exact Aw9)) ?_)
  ·exact ⟨Nat.le_refl _,by omega,fun i hi=>by omega⟩
  rintro q ⟨h1,h2,h3⟩
  by_cases hq:q < 1024
  ·have hk:(sysB K M B P)[1+q * 66+0]? = some (.int .i64 (K q)):=AG3 (by omega)
   by_cases h4:K q=K p
   ·(refine wx_Ti ?_;repeat' (first|with_reducible refine And.intro ?_ ?_|intro hsp))
    all_goals exact G6 (q+1) [] ⟨by omega,by omega,fun i hi=>if e:p+i=q then by rw [e];exact h4 else h3 i (by omega)⟩ (by first|omega|(dsimp only;omega)) rfl (by exact Aw9)
   ·have hpq:p < q:=by
     by_cases e:q=p
     ·exact absurd (by rw [e]) h4
     ·omega
    have hb2:K (q - 1) ≠ K q:=by
     have:=h3 (q - 1 - p) (by omega)
     rw [show p+(q - 1 - p)=q - 1 by omega] at this
     rw [this];exact fun e=>h4 e.symm
    (refine wx_Ti ?_;repeat' (first|with_reducible refine And.intro ?_ ?_|intro hsp))
    ·have hr:K7 K q=K7 K p:=by
      have:=Aa7 (K:=K) (p:=p) (j:=q - p) fun i hi=>(h3 i hi).trans hsp
      rw [show p+(q - p)=q by omega] at this;exact this
     exact G6 q [] ⟨h2,.inr (.inr hb2)⟩ (by first|omega|(dsimp only;omega)) rfl (by ((try dsimp only);rw [hr]);exact Aw9)
    ·have hr:K7 K q=K7 K p++[⟨(p:Nat),(q:Int) - (p:Int),K p⟩]:=by
      have:=Ak0 (K:=K) (p:=p) (j:=q - p - 1) (hb.elim .inl fun h=>h.elim (fun h=>by omega) .inr) hsp fun i hi=>h3 i (by omega)
      rw [show p+(q - p - 1+1)=q by omega] at this;rw [this];congr 3;omega
     exact G6 q [(4,22)] ⟨h2,.inr (.inr hb2)⟩ (by first|omega|(dsimp only;omega)) rfl (by ((try dsimp only);rw [hr]);exact Aw9)
  ·have hpq:p < q:=by omega
   obtain rfl:q=1024:=by omega
   (refine wx_Ti ?_;repeat' (first|with_reducible refine And.intro ?_ ?_|intro hsp))
   ·have hr:K7 K 1024=K7 K p:=by
     have:=Aa7 (K:=K) (p:=p) (j:=1024 - p) fun i hi=>(h3 i hi).trans hsp
     rw [show p+(1024 - p)=1024 by omega] at this;exact this
    exact G6 1024 [] ⟨h2,.inr (.inl rfl)⟩ (by first|omega|(dsimp only;omega)) rfl (by ((try dsimp only);rw [hr]);exact Aw9)
   ·have hr:K7 K 1024=K7 K p++[⟨(p:Nat),((1024:Nat):Int) - (p:Int),K p⟩]:=by
     have:=Ak0 (K:=K) (p:=p) (j:=1024 - p - 1) (hb.elim .inl fun h=>h.elim (fun h=>by omega) .inr) hsp fun i hi=>h3 i (by omega)
     rw [show p+(1024 - p - 1+1)=1024 by omega] at this;rw [this];congr 3;omega
    exact G6 1024 [(4,22)] ⟨h2,.inr (.inl rfl)⟩ (by first|omega|(dsimp only;omega)) rfl (by ((try dsimp only);rw [hr]);exact Aw9)
 ·obtain rfl:p=1024:=by omega
  (refine wx_Ti ?_;repeat' (first|with_reducible refine And.intro ?_ ?_|intro hsp))
  all_goals exact end_col (wk_frzRn rfl (fun hz=>I7 hz) (col_not (by decide)) (col_sub ⟨_,rfl⟩ ⟨_,rfl⟩)) rfl rfl (D9 hP)
end
end Go.Proofs.Ytbhgfoikbkaohaa
namespace Go.Pol
open Go.Am
theorem AY2:∀ {vs cs pre:List AV},cs.length=vs.length→over (pre++cs) pre.length vs=pre++vs
 | [],cs,pre,h=>by
  have : cs=[]:=List.eq_nil_of_length_eq_zero (by simpa using h)
  subst this;rfl
 | v::vs,[],pre,h=>by simp at h
 | v::vs,c::cs,pre,h=>by
  show over ((pre++c::cs).set pre.length v) (pre.length+1) vs=_
  rw [List.set_append_right _ _ (Nat.le_refl _),Nat.sub_self,List.set_cons_zero]
  have:=AY2 (vs:=vs) (cs:=cs) (pre:=pre++[v]) (by simpa using h)
  rw [List.length_append,List.append_assoc,List.append_assoc] at this
  exact this
theorem y_take {y:List AV} (h:y.length=64):y.take 64=y:=List.take_of_length_le (by omega)
theorem y_drop {y:List AV}:y.drop 0=y:=rfl
theorem over_y {y:List AV} (h:y.length=64):over (List.replicate 64 (AV.int .u8 0)) 0 y=y:=AY2 (pre:=[]) (by rw [h];rfl)
theorem BV0 {y:List AV} {x:AV} (h:y.length=64):over (x::List.replicate 64 (AV.int .u8 0)) 1 y=x::y:=AY2 (pre:=[x]) (by rw [h];rfl)
theorem eqL_by (b:Nat→Int):eqL (List.replicate 64 0) (byA b) (List.replicate 64 (.int .u8 0))=some (decide (BI9 b)):=by
 have key:∀ (F:Nat→Int) (n k:Nat),∃ t,eqL (List.replicate n 0) ((List.range' k n).map fun j=>.int .u8 (F j)) (List.replicate n (.int .u8 0))=some t∧(t=true ↔ ∀ j,k≤j→j < k+n→F j=0):=by
  intro F n
  induction n with
  | zero=>intro k;exact ⟨true,rfl,⟨fun _ j h1 h2=>by omega,fun _=>rfl⟩⟩
  | succ n ih =>
   intro k
   obtain ⟨t,h1,h2⟩:=ih (k+1)
   refine ⟨(F k == 0) && t,?_,?_⟩
   ·rw [List.replicate_succ,List.replicate_succ,List.range'_succ,List.map_cons]
    simp only [eqL,eq1,if_true,Option.bind_some,h1,Option.map_some]
   ·rw [Bool.and_eq_true,beq_iff_eq,h2]
    constructor
    ·rintro ⟨h1,h2⟩ j hj1 hj2
     by_cases e:j=k
     ·rw [e];exact h1
     ·exact h2 j (by omega) (by omega)
    ·intro h;exact ⟨h k (Nat.le_refl _) (by omega),fun j h1 h2=>h j (by omega) (by omega)⟩
 obtain ⟨t,h1,h2⟩:=key b 64 0
 unfold byA
 rw [List.range_eq_range',h1]
 congr 1
 rw [Bool.eq_iff_iff,h2,decide_eq_true_eq]
 exact ⟨fun h j hj=>h j (Nat.zero_le _) (by omega),fun h j _ hj=>h j (by omega)⟩
section
variable {K:Nat→Int} {M G:Nat→Bool} {B:Nat→Nat→Int} {P:List AV} {p o:Nat}
theorem BP7 (hp:p < 1024):((sysB K M B P).drop (1+p * 66+2)).take 64=byA (B p):=by
 rw [sysB,Ab9 (by omega)]
 unfold byA
 refine List.map_congr_left fun j hj=>?_
 have hj:=List.mem_range.1 hj
 rw [Nat.add_assoc (1+p * 66),l7 hp (by omega)]
 unfold Ab4
 rw [if_neg (by omega),if_neg (by omega),show 2+j - 2=j by omega]
theorem BP6 {l:List Rl} {C H:Nat→Int} (h:o=67585):(sysB K M B (stA l C H))[o+0+0]? = some (.isl (l.map rlA)):=by
 show _[o]? = _
 have e:=Aa0 (K:=K) (M:=M) (B:=B) h (Ay0 (l:=l) (C:=C) (H:=H))
 have:=List.getElem?_take_of_lt (l:=(sysB K M B (stA l C H)).drop o) (i:=0) (j:=15) (by decide)
 rw [e,List.getElem?_drop,Nat.add_zero] at this
 rw [← this];rfl
end
end Go.Pol
namespace Go.Pol
open Go.Am Go.Proofs.Ytbhgfoikbkaohaa.Sh
def Z8 (a n pg sl:Int):Prop:=0≤a∧a < 1024∧1≤n∧n≤1024 - a∧1≤pg∧pg≤256∧0≤sl∧sl≤256
instance (a n pg sl:Int):Decidable (Z8 a n pg sl):=by unfold Z8;infer_instance
theorem BN2:AV.agg (List.replicate 64 (.int .u8 0))=byE fun _=>0:=by
 unfold byE bcA
 congr 1
 refine List.ext_getElem? fun i=>?_
 by_cases h:i < 64
 ·rw [List.getElem?_replicate,if_pos h,X9 h]
 ·rw [List.getElem?_eq_none (by rw [List.length_replicate];omega),List.getElem?_eq_none (by rw [AA7];omega)]
theorem AP4 {x:Nat→Int}:over (List.replicate 64 (AV.int .u8 0)) 0 (bcA x)=bcA x:=AY2 (pre:=[]) (by rw [AC7];rfl)
theorem mlook_d {l:List (Nat × AObj)} {i:Nat} {z:AV} {L:List (Int × (Nat→Int))} {k:Int} {x:Nat→Int} {K:AV→Up→List Nat→Prop} (hD:(match mgI L k with|some b=>b|none=>fun _=>0)=x) (hz:z=byE fun _=>0) (h1:lk l i=some (.maps (encW byE L))) (hk:K (byE x) [] [i]):AX1 l false false [0] z (.mapr i) (.int .i64 k) K:=by
 cases hm:mgI L k with
 | none=>rw [hm] at hD;subst hD;subst hz;exact BV4 hm h1 hk
 | some b=>rw [hm] at hD;subst hD;exact l9 hm h1 hk
theorem BV3 {l:List (Nat × AObj)} {i:Nat} {z:AV} {L:List (Int × (Nat→Int))} {k:Int} {K:AV→Up→List Nat→Prop} (hg:mgI L k=none) (hz:z=byE fun _=>0) (h1:lk l i=some (.maps (encW byE L))) (hk:K (.tup [byE fun _=>0,.bool false]) [] [i]):AX1 l true false [0] z (.mapr i) (.int .i64 k) K:=by
 subst hz;exact AR7 hg h1 hk
end Go.Pol
namespace Go.Proofs.Ytbhgfoikbkaohaa.Sh
open Go Go.Am Go.Pol
theorem plx_Sxc {p:Prop} (h:p:=by ((first|exact plw|(with_reducible first|apply U5|apply H9 _|apply I5 _|apply I4 _|apply AD1|fail)|fail);first|done|fail)):p:=h
theorem ppx_Sxc {p:Prop} (h:p:=by ((first|with_reducible assumption|(with_reducible first|apply F3|apply AL3|apply AJ5|apply AD3|apply AK3|fail)|exact ppw|fail);first|done|fail)):p:=h
open Go.Proofs.Ytbhgfoikbkaohaa.Sh renaming plx_Sxc → plx
open Go.Proofs.Ytbhgfoikbkaohaa.Sh renaming ppx_Sxc → ppx
theorem wx_Sxc {p q:Prop} (hq:q) (h:X4 q→p:=by (intro hQz;((repeat' ((try (conv=>whnf));first|refine sxA ?_|refine AD0 (by rw [AA7];omega) hset ?_|refine Y0 (by rw [AC7];omega) List.drop_zero (V8 (by rw [AC7];omega) BC4 ?_)|refine ⟨AC7,?_⟩|refine AA4 (by simp only [AC7];omega) (over_self _) ?_|refine K6 hxk ?_|refine sxF ?_|refine Q8 (by assumption) rfl (by decide) ?_|refine Q8 hws rfl (by decide) ?_|refine sxH ?_|((with_reducible first|apply V4 hQz|apply V5 hQz)<;>(try intro hsp hQz))|exact hQz.out))<;>(try (conv=>whnf))))):p:=h ⟨hq⟩
theorem U5:Plain (.tup []):=F5 fun x hx=>by cases hx
theorem AD1 {f:Nat→Int}:Plain (.agg (bcA f)):=J2 AD3
theorem Am0 (a n pg sl:Int):J3 44 [.int .i64 a,.int .i64 n,.int .i64 pg,.int .i64 sl] (.bool (decide (Z8 a n pg sl))):=by
 refine J3.mk (Q5 F6 b44 H8 ⟨A8,A8,A8,A8,trivial⟩ D8 rfl ?_)
 unfold c44
 (refine wx_Sxc ?_;repeat' (first|with_reducible refine And.intro ?_ ?_|intro hsp))
 all_goals first|(exfalso;omega)|exact F8 (by first|exact decide_eq_decide.2 (by unfold Z8;omega)|exact (decide_eq_true (show Z8 a n pg sl by unfold Z8;omega)).symm|exact (decide_eq_false (show ¬ Z8 a n pg sl by unfold Z8;omega)).symm)
section
variable {q:Sw} {t:WS}
theorem w_is:O1 30 [] q t (.bool true) q t:=by
 refine O1.mk (I6 F6 b30 rfl ?_) (fun x hx=>by cases hx) D8
 unfold c30
 unfold stN stC
 (refine wx_Sxc ?_;repeat' (first|with_reducible refine And.intro ?_ ?_|intro hsp))
 all_goals exact K9 rfl D8 rfl rfl rfl rfl rfl
theorem Aq0 (hp:q.pg≤256) (a now:Int):O1 31 [.int .i64 a,.int .i64 now] q t (.bool (decide (q.nums a now))) q t:=by
 refine O1.mk (I6 F6 b31 rfl ?_) (fun x hx=>by
  simp only [List.mem_cons,List.not_mem_nil,or_false] at hx
  rcases hx with rfl|rfl<;>exact A8) D8
 unfold c31
 unfold stN stC
 (refine wx_Sxc ?_;repeat' (first|with_reducible refine And.intro ?_ ?_|intro hsp))
 all_goals first|(exfalso;omega)|exact K9 (by first|exact congrArg AV.bool (decide_eq_decide.2 (by unfold Sw.nums;omega))|exact congrArg AV.bool (decide_eq_true (show q.nums a now by unfold Sw.nums;omega)).symm|exact congrArg AV.bool (decide_eq_false (show ¬ q.nums a now by unfold Sw.nums;omega)).symm) D8 rfl rfl rfl rfl rfl
theorem w_get {f:Nat} (hf:f < 1024) (hk:q.s.K f=2):O1 66 [.int .i64 (f:Nat)] q t (.agg (bcA (q.s.B f))) q t:=by
 refine O1.mk (I6 F6 b66 rfl ?_) (fun x hx=>by obtain rfl:=List.mem_singleton.1 hx;exact A8) AD1
 unfold c66
 unfold stN stC
 rw [← rdK_0 (f:=q.s.B f)]
 (refine wx_Sxc ?_;repeat' (first|with_reducible refine And.intro ?_ ?_|intro hsp))
 (refine O9 [0,1,4] (fun (k:Nat)=>[(6,.int .i64 (k:Nat))]) (fun (k:Nat)=>⟨stN q t 0 1 2 3 4++[(5,.cells (memA 64 (rdK (q.s.B f) k)))],6⟩) (fun (k:Nat)=>k≤64) (fun (k:Nat)=>64 - k) (0) [] rfl (fun _=>by first|exact Nat.zero_le _|(dsimp only;omega)) ?_ (by ((try (conv=>whnf));exact p8)) ?_)
 ·exact Nat.zero_le _
 intro k hkk
 by_cases hkl:k < 64
 ·have c1:=p_read (s:=q.s) (a:=(f:Int) * 64+(k:Nat))
  rw [read_at hk hf hkl] at c1
  dsimp only at c1
  have hset:=rdK_s (f:=q.s.B f) hkl
  unfold stN stC
  generalize q.s.B f k=y at *
  (refine wx_Sxc ?_;repeat' (first|with_reducible refine And.intro ?_ ?_|intro hsp))
  all_goals exact G6 (k+1) [] (by (try dsimp only);omega) (by first|omega|(dsimp only;omega)) rfl (by exact p8)
 ·obtain rfl:k=64:=by omega
  rw [rdK_all]
  unfold stN stC
  (refine wx_Sxc ?_;repeat' (first|with_reducible refine And.intro ?_ ?_|intro hsp))
  all_goals exact K9 rfl AD1 rfl rfl rfl rfl rfl
theorem w_set (hg:GoodS q.s) {f:Nat} (hf:f < 1024) (hk:q.s.K f=2) (x:Nat→Int):O1 54 [.int .i64 (f:Nat),.agg (bcA x)] q t (.tup []) { q with s:=q.s.page f x } t:=by
 refine O1.mk (I6 F6 b54 rfl ?_) (fun y hy=>by
  simp only [List.mem_cons,List.not_mem_nil,or_false] at hy
  rcases hy with rfl|rfl
  ·exact A8
  ·exact AD1) U5
 unfold c54
 unfold stN stC
 (refine wx_Sxc ?_;repeat' (first|with_reducible refine And.intro ?_ ?_|intro hsp))
 have hw0:=wrK_0 (s:=q.s) (f:=f) (x:=x)
 (refine O9 [0,1,8] (fun (k:Nat)=>[(9,.int .i64 (k:Nat))]) (fun (k:Nat)=>⟨stN { q with s:=wrK q.s f x k } t 0 1 2 3 4,5⟩) (fun (k:Nat)=>k≤64) (fun (k:Nat)=>64 - k) (0) [] rfl (fun _=>by first|exact Nat.zero_le _|(dsimp only;omega)) ?_ (by ((try (conv=>whnf));(rw [hw0]);exact p8)) ?_)
 ·exact Nat.zero_le _
 intro k hkk
 by_cases hkl:k < 64
 ·have hws:=BU7 (s:=wrK q.s f x k) (a:=(f:Int) * 64+(k:Nat)) (b:=x k)
  rw [wrK_s hk hf hkl] at hws
  dsimp only at hws
  have hxk:(bcA x)[k]? = some (.int .u8 (x k)):=X9 hkl
  unfold stN stC
  dsimp only
  (refine wx_Sxc ?_;repeat' (first|with_reducible refine And.intro ?_ ?_|intro hsp))
  all_goals exact G6 (k+1) [] (by (try dsimp only);omega) (by first|omega|(dsimp only;omega)) rfl (by exact p8)
 ·obtain rfl:k=64:=by omega
  rw [wrK_all hg]
  unfold stN stC
  dsimp only
  (refine wx_Sxc ?_;repeat' (first|with_reducible refine And.intro ?_ ?_|intro hsp))
  all_goals exact K9 (q:={ q with s:=q.s.page f x }) rfl U5 rfl rfl rfl rfl rfl
end
end Go.Proofs.Ytbhgfoikbkaohaa.Sh
namespace Go.Pol
open Go.Am Go.Proofs.Ytbhgfoikbkaohaa.Sh
def opA (o:Option Nat):Int:=match o with|some f=>(f:Nat)|none=>-1
theorem BA6 {a n i:Nat} {p:Nat→Bool} (hi:i < n) (h1:∀ j,j < i→p (a+j)=false) (h2:p (a+i)=true):(List.range' a n).find? p=some (a+i):=by
 rw [BT4 (Nat.le_of_lt hi),List.find?_append,List.find?_eq_none.2 fun f hf=>by
  obtain ⟨k,hk,rfl⟩:=List.mem_range'.1 hf
  rw [Nat.one_mul,h1 k hk];exact Bool.false_ne_true]
 obtain ⟨m,hm⟩:∃ m,n - i=m+1:=⟨n - i - 1,by omega⟩
 rw [hm,List.range'_succ,List.find?_cons,h2]
 rfl
theorem BG4 {a n:Nat} {p:Nat→Bool} (h:∀ j,j < n→p (a+j)=false):(List.range' a n).find? p=none:=List.find?_eq_none.2 fun f hf=>by
 obtain ⟨k,hk,rfl⟩:=List.mem_range'.1 hf
 rw [Nat.one_mul,h k hk];exact Bool.false_ne_true
theorem held_H {w:Sw} {t:WS} (h:WOk w t) (hg:E5 w) {f:Nat}:(mgI t.H (f:Nat)).isSome=decide (w.heldF f):=by
 by_cases hh:w.heldF f
 ·obtain ⟨p,hp,hF⟩:=hh
  rw [(h.gH (f:Nat) (p:Nat)).2 ⟨by omega,by omega,by rw [Int.toNat_natCast];exact hF⟩,decide_eq_true (show w.heldF f from ⟨p,hp,hF⟩)];rfl
 ·rw [decide_eq_false hh]
  cases hm:mgI t.H (f:Nat) with
  | none=>rfl
  | some p =>
   obtain ⟨h1,h2,h3⟩:=(h.gH (f:Nat) p).1 hm
   exact absurd ⟨p.toNat,AG9 hg (by omega),h3⟩ hh
theorem held_D {w:Sw} {t:WS} (h:WOk w t) {k:Nat}:(mgI t.D (k:Nat)).isSome=decide (w.heldT k):=by
 rw [h.gD]
 by_cases hh:w.heldT k
 ·rw [decide_eq_true hh,if_pos ⟨by omega,by rw [Int.toNat_natCast];exact hh⟩];rfl
 ·rw [decide_eq_false hh,if_neg fun h2=>hh (by rw [Int.toNat_natCast] at h2;exact h2.2)];rfl
end Go.Pol
namespace Go.Proofs.Ytbhgfoikbkaohaa.Sh
open Go Go.Am Go.Pol
open Go.Proofs.Ytbhgfoikbkaohaa.Sh renaming plx_Sxc → plx
open Go.Proofs.Ytbhgfoikbkaohaa.Sh renaming ppx_Sxc → ppx
theorem wx_Sxd {p q:Prop} (hq:q) (h:X4 q→p:=by (intro hQz;((repeat' ((try (conv=>whnf));first|refine sxA ?_|refine AM3 hp rfl ?_|refine AR7 hp rfl ?_|refine ⟨AC7,?_⟩|refine AA4 (by simp only [List.length_replicate,AC7];omega) hov ?_|refine BV3 hp BN2 rfl ?_|refine sxF ?_|(refine AA9 F6 b52 rfl ?_;unfold c52)|(refine AA9 F6 b51 rfl ?_;unfold c51)|(refine AA9 F6 b65 rfl ?_;unfold c65)|refine sxH ?_|((with_reducible first|apply V4 hQz|apply V5 hQz)<;>(try intro hsp hQz))|exact hQz.out))<;>(try (conv=>whnf))))):p:=h ⟨hq⟩
section
variable {q:Sw} {t:WS}
structure LocL (q:Sw) (t:WS):Prop where
 out:AO7 Try.prog G0 51 [.int .i64 (q.a:Nat),.int .i64 ((q.a:Int)+(q.n:Nat)),.fn 52 [] [.ptr 5 0]] (stN q t 0 1 2 3 4++[(5,.cells [.ptr 0 0])]) 6 fun x h1=>x = .int .i64 (opA q.free)∧h1=⟨stN q t 0 1 2 3 4++[(5,.cells [.ptr 0 0])],6⟩
theorem end_L {top:Bool} {h:Hp} {N0:Nat} {x r:AV} (hx:x=r) (hp:Plain r) (g0:lk h.l 0=some (.cells (stC 4 1 2 3 q))) (g1:lk h.l 1=some (.maps (encW pgE t.W))) (g2:lk h.l 2=some (.maps (encW byE t.D))) (g3:lk h.l 3=some (.maps (encW nuE t.H))) (g4:lk h.l 4=some (.cells q.s.a)) (g5:lk h.l 5=some (.cells [.ptr 0 0])) (hN0:N0≤6:=by decide) :
  AT0 top Try.prog N0 h x (fun r' h'=>r'=r∧h'=⟨stN q t 0 1 2 3 4++[(5,.cells [.ptr 0 0])],6⟩):=by
 subst hx
 have hs:AF7 (rn []) h ⟨stN q t 0 1 2 3 4++[(5,.cells [.ptr 0 0])],6⟩:=fun i o hi=>by
  simp only [stN,List.cons_append,List.nil_append,lk] at hi
  show ∃ o',lk h.l i=some o'
  split at hi
  ·rename_i e;subst e;exact ⟨_,g0⟩
  ·split at hi
   ·rename_i e;subst e;exact ⟨_,g1⟩
   ·split at hi
    ·rename_i e;subst e;exact ⟨_,g2⟩
    ·split at hi
     ·rename_i e;subst e;exact ⟨_,g3⟩
     ·split at hi
      ·rename_i e;subst e;exact ⟨_,g4⟩
      ·split at hi
       ·rename_i e;subst e;exact ⟨_,g5⟩
       ·cases hi
 refine r9 [] rfl hN0 (M6 rfl) (R6 hs hp) ?_ ⟨rfl,rfl⟩
 exact BN7 (o':=0) (w':=1) (d':=2) (m':=3) (s':=4) hs rfl rfl rfl rfl rfl ⟨show 0 < 6 by decide,show 1 < 6 by decide,show 2 < 6 by decide,show 3 < 6 by decide,show 4 < 6 by decide⟩ g0 g1 g2 g3 g4 (P5 (show 5 < 6 by decide) g5 (A9 (X6 (i:=0) rfl (show 0 < 6 by decide)) J9) I8)
theorem w_free (hg:E5 q) (h:WOk q t):LocL q t:=by
 have hrng:=hg.rng
 refine LocL.mk (I6 F6 b51 rfl ?_)
 unfold c51
 unfold stN stC
 (refine wx_Sxd ?_;repeat' (first|with_reducible refine And.intro ?_ ?_|intro hsp))
 (refine O9 [0,1,2] (fun (i:Nat)=>[(7,.int .i64 ((q.a+i:Nat):Int))]) (fun (i:Nat)=>⟨stN q t 0 1 2 3 4++[(5,.cells [.ptr 0 0])],6⟩) (fun (i:Nat)=>i≤q.n∧∀ j,j < i→q.heldF (q.a+j)) (fun (i:Nat)=>q.n - i) (0) [] rfl (fun _=>by first|exact Nat.zero_le _|(dsimp only;omega)) ?_ (by ((try (conv=>whnf));exact p8)) ?_)
 ·exact ⟨Nat.zero_le _,fun j hj=>absurd hj (Nat.not_lt_zero _)⟩
 intro i hi
 obtain ⟨hi,hall⟩:=hi
 by_cases hil:i < q.n
 ·have hhd:=held_H h hg (f:=q.a+i)
  by_cases hh:q.heldF (q.a+i)
  ·have hnext:i+1≤q.n∧∀ j,j < i+1→q.heldF (q.a+j):=⟨hil,fun j hj=>by
    by_cases e:j=i
    ·rw [e];exact hh
    ·exact hall j (by omega)⟩
   rw [decide_eq_true hh] at hhd
   obtain ⟨p,hp⟩:=Option.isSome_iff_exists.1 hhd
   have ea:((q.a+i:Nat):Int)=(q.a:Int)+(i:Nat):=by omega
   unfold stN stC
   (refine wx_Sxd ?_;repeat' (first|with_reducible refine And.intro ?_ ?_|intro hsp))
   all_goals first|(exfalso;omega)|exact G6 (i+1) [] hnext (by first|omega|(dsimp only;omega)) rfl (by exact p8)
  ·have hfr:q.free=some (q.a+i):=BA6 hil (fun j hj=>by rw [decide_eq_false_iff_not];exact fun h2=>h2 (hall j hj)) (decide_eq_true hh)
   rw [decide_eq_false hh] at hhd
   have hp:mgI t.H ((q.a+i:Nat):Int)=none:=Option.not_isSome_iff_eq_none.1 (by rw [hhd];exact Bool.false_ne_true)
   rw [hfr]
   unfold stN stC
   (refine wx_Sxd ?_;repeat' (first|with_reducible refine And.intro ?_ ?_|intro hsp))
   all_goals first|(exfalso;omega)|exact end_L rfl A8 rfl rfl rfl rfl rfl rfl
 ·obtain rfl:i=q.n:=by omega
  have hfr:q.free=none:=BG4 fun j hj=>by rw [decide_eq_false_iff_not];exact fun h2=>h2 (hall j hj)
  rw [hfr]
  unfold stN stC
  (refine wx_Sxd ?_;repeat' (first|with_reducible refine And.intro ?_ ?_|intro hsp))
  all_goals first|(exfalso;omega)|exact end_L rfl A8 rfl rfl rfl rfl rfl rfl
set_option maxRecDepth 20000 in
theorem w_slot (h:WOk q t) (hsl6:q.sl≤256) (g:Int):O1 48 [.int .i64 g] q t (.int .i64 (opA (q.slot g))) q t:=by
 refine O1.mk (I6 F6 b48 rfl ?_) (fun x hx=>by obtain rfl:=List.mem_singleton.1 hx;exact A8) A8
 unfold c48
 unfold stN stC
 (refine wx_Sxd ?_;repeat' (first|with_reducible refine And.intro ?_ ?_|intro hsp))
 (refine O9 [0,1,2] (fun (i:Nat)=>[(7,.int .i64 (i:Nat))]) (fun (i:Nat)=>⟨stN q t 0 1 2 3 4++[(5,.cells [.ptr 0 0]),(6,.cells [.int .i64 g])],7⟩) (fun (i:Nat)=>i≤q.sl∧∀ j,j < i→¬ (((j:Nat):Int)=g∨¬ q.heldT j)) (fun (i:Nat)=>q.sl - i) (0) [] rfl (fun _=>by first|exact Nat.zero_le _|(dsimp only;omega)) ?_ (by ((try (conv=>whnf));exact p8)) ?_)
 ·exact ⟨Nat.zero_le _,fun j hj=>absurd hj (Nat.not_lt_zero _)⟩
 intro i hi
 obtain ⟨hi,hall⟩:=hi
 by_cases hil:i < q.sl
 ·have hhd:=held_D h (k:=i)
  by_cases hh:q.heldT i
  ·rw [decide_eq_true hh] at hhd
   obtain ⟨b,hp⟩:=Option.isSome_iff_exists.1 hhd
   have hov:=AP4 (x:=b)
   by_cases hg:((i:Nat):Int)=g
   ·have hsl:q.slot g=some i:=by
     have:=BA6 (a:=0) (n:=q.sl) (p:=fun k=>decide (((k:Nat):Int)=g∨¬ q.heldT k)) hil (fun j hj=>by rw [Nat.zero_add,decide_eq_false_iff_not];exact hall j hj) (by rw [Nat.zero_add];exact decide_eq_true (.inl hg))
     rw [Nat.zero_add] at this
     unfold Sw.slot
     rw [List.range_eq_range'];exact this
    rw [hsl]
    unfold stN stC
    (refine wx_Sxd ?_;repeat' (first|with_reducible refine And.intro ?_ ?_|intro hsp))
    all_goals first|(exfalso;omega)|exact K9 rfl A8 rfl rfl rfl rfl rfl
   ·have hnext:i+1≤q.sl∧∀ j,j < i+1→¬ (((j:Nat):Int)=g∨¬ q.heldT j):=⟨hil,fun j hj=>by
     by_cases e:j=i
     ·rw [e];exact fun h2=>h2.elim hg fun h3=>h3 hh
     ·exact hall j (by omega)⟩
    unfold stN stC
    (refine wx_Sxd ?_;repeat' (first|with_reducible refine And.intro ?_ ?_|intro hsp))
    all_goals first|(exfalso;omega)|exact G6 (i+1) [] hnext (by first|omega|(dsimp only;omega)) rfl (by exact p8)
  ·have hsl:q.slot g=some i:=by
    have:=BA6 (a:=0) (n:=q.sl) (p:=fun k=>decide (((k:Nat):Int)=g∨¬ q.heldT k)) hil (fun j hj=>by rw [Nat.zero_add,decide_eq_false_iff_not];exact hall j hj) (by rw [Nat.zero_add];exact decide_eq_true (.inr hh))
    rw [Nat.zero_add] at this
    unfold Sw.slot
    rw [List.range_eq_range'];exact this
   rw [decide_eq_false hh] at hhd
   have hp:mgI t.D (i:Nat)=none:=Option.not_isSome_iff_eq_none.1 (by rw [hhd];exact Bool.false_ne_true)
   have hov:=AP4 (x:=fun _=>0)
   rw [hsl]
   unfold stN stC
   (refine wx_Sxd ?_;repeat' (first|with_reducible refine And.intro ?_ ?_|intro hsp))
   all_goals first|(exfalso;omega)|exact K9 rfl A8 rfl rfl rfl rfl rfl
 ·obtain rfl:i=q.sl:=by omega
  have hsl:q.slot g=none:=by
   have:=BG4 (a:=0) (n:=q.sl) (p:=fun k=>decide (((k:Nat):Int)=g∨¬ q.heldT k)) fun j hj=>by rw [Nat.zero_add,decide_eq_false_iff_not];exact hall j hj
   unfold Sw.slot
   rw [List.range_eq_range'];exact this
  rw [hsl]
  unfold stN stC
  (refine wx_Sxd ?_;repeat' (first|with_reducible refine And.intro ?_ ?_|intro hsp))
  all_goals first|(exfalso;omega)|exact K9 rfl A8 rfl rfl rfl rfl rfl
end
end Go.Proofs.Ytbhgfoikbkaohaa.Sh
namespace Go.Am
open Go.Sort
section
variable {P:Program} {G:Gl}
theorem ext_more {c:Cx} {w':World} (hR:Rel P c) (hs:c.w.heap.size≤w'.heap.size) (ho:∀ b,b < c.w.heap.size→w'.heap[b]? = c.w.heap[b]?) (he:w'.os=c.w.os∧w'.tape=c.w.tape∧w'.output=c.w.output):Ext c (c.wd w')∧Rel P (c.wd w'):=by
 have k:Kept c w'.heap.size w':=⟨hs,fun b hb _=>ho b hb,fun h=>by omega,fun id o hi h=>by have:=(hR.obj id o hi).lt;omega,he⟩
 have e:=k.extR hR
 refine ⟨⟨e.used,e.mu,e.csz,fun b hb=>e.froz b (by have:=hb.lt;omega) hb,e.size,e.hid,fun b hb=>e.hidh b (by have:=hR.hidlt b hb;omega) hb,e.env⟩,k.rel hR⟩
theorem loc_sort {f n:Nat} {zs S:List Int} (hok:fnOk P f=true) (hn:zs.length=n) (hS:zs.mergeSort (fun x y=>decide (x≤y))=S) (hz:n < 4611686018427387904)
  (hc:∀ (blk off cap:Nat) (w:World),Holds (Value.int .i64) w blk off zs.toArray→blk < w.heap.size→Calls P f #[.slice (some ⟨blk,off,none⟩) zs.length cap] w fun e w'=>e = .returned (.tuple #[])∧∃ n os,w'=grow (putRow (Value.int .i64) (Sort.ahead w n) blk off (zs.mergeSort fun x y=>decide (x≤y)).toArray) os) :
  AO7 P G f [.sl 0 0 n n 1] [(0,.cells (zs.map (AV.int .i64)))] 1 fun x h=>x = .tup []∧h=⟨[(0,.cells (S.map (AV.int .i64)))],1⟩:=by
 refine ⟨hok,fun c vs hR hG hm ha=>?_⟩
 obtain ⟨v,hv⟩:∃ v,vs = #[v]:=by
  have:=ha.1
  match vs,this with
  | ⟨[v]⟩,_=>exact ⟨v,rfl⟩
 subst hv
 obtain ⟨u,hu,hx⟩:=ha.2 0 _ rfl
 have hu':u=v:=by simpa using hu.symm
 subst hu'
 obtain ⟨hU,hlt,cap,hval,h1,h2,h3,h4⟩:=AD7.1 hx
 have hat:c.at_ 0=some (.cells (zs.map (AV.int .i64))):=by rw [hm.at_];simp [lk]
 obtain ⟨a,T,hb,hcs⟩:=hR.obj 0 _ hat
 obtain ⟨blk,hblk⟩:∃ blk,blk=(c.mu 0).1:=⟨_,rfl⟩
 obtain ⟨off,hoff⟩:∃ off,off=(c.mu 0).2:=⟨_,rfl⟩
 rw [Nat.add_zero] at hval
 rw [← hblk] at hb hlt hval
 rw [← hoff] at hcs hval
 have hcell:∀ j z,zs[j]? = some z→a[off+j]? = some (.int .i64 z):=fun j z hj=>by
  obtain ⟨u,h5,h6,_⟩:=hcs j (.int .i64 z) (by rw [List.getElem?_map,hj];rfl)
  rw [RR_int.1 h6] at h5;exact h5
 have hH:Holds (Value.int .i64) c.w blk off zs.toArray:=fun j hj=>by
  have hj':j < zs.length:=by simpa using hj
  have h5:=hcell j zs[j] (List.getElem?_eq_getElem hj')
  refine ⟨?_,by simp [World.frozen?,hb]⟩
  simp only [World.cell?,hb,Option.isSome_none,Bool.false_eq_true,if_false,h5]
  simp [hj']
 rw [hval,← hn]
 refine (hc blk off cap c.w hH hlt).mono ?_
 rintro e w' ⟨rfl,m,os,rfl⟩
 rw [hS]
 have hSl:S.length=zs.length:=by rw [← hS];exact List.length_mergeSort _
 obtain ⟨w1,hw1⟩:∃ w1,w1=putRow (Value.int .i64) (Sort.ahead c.w m) blk off S.toArray:=⟨_,rfl⟩
 rw [← hw1]
 have hb1:w1.heap[blk]? = some (.cells (putCells (Value.int .i64) off S.toArray a) T (0,0)):=by
  rw [hw1]
  show (c.w.heap.modify blk _)[blk]? = _
  rw [Array.getElem?_modify,if_pos rfl,hb];rfl
 have ho1:∀ b,b ≠ blk→w1.heap[b]? = c.w.heap[b]?:=fun b hne=>by
  rw [hw1]
  show (c.w.heap.modify blk _)[b]? = _
  rw [Array.getElem?_modify,if_neg (Ne.symm hne)]
 have hs1:w1.heap.size=c.w.heap.size:=by rw [hw1];simp [putRow,mapBlock,Sort.ahead]
 have hcs1:csize w1 (c.mu 0).1=csize c.w (c.mu 0).1:=by
  rw [← hblk]
  simp only [csize,hb,hb1]
  simp [putCells]
 have henv:w1.os=c.w.os∧w1.tape=c.w.tape∧w1.output=c.w.output:=by rw [hw1];exact ⟨rfl,rfl,rfl⟩
 have e1:=BA8 (o2:=.cells (S.map (AV.int .i64))) hR hat (fun b hne=>ho1 b (by rw [hblk];exact hne)) hcs1 hs1 henv
 have r1:=BS5 (o2:=.cells (S.map (AV.int .i64))) hR hat (fun b hne=>ho1 b (by rw [hblk];exact hne)) hcs1 hs1 henv ⟨_,T,by rw [← hblk];exact hb1,fun j x hj=>by
  rw [List.getElem?_map] at hj
  cases h5:S[j]? with
  | none=>rw [h5] at hj;cases hj
  | some z =>
   rw [h5] at hj;cases hj
   have hjl:=(List.getElem?_eq_some_iff.1 h5).1
   have h6:=hcell j (zs[j]'(by omega)) (List.getElem?_eq_getElem _)
   have hal:off+j < a.size:=(Array.getElem?_eq_some_iff.1 h6).1
   refine ⟨.int .i64 z,?_,RR_int.2 rfl,fun _ e=>(by cases e),fun _ e=>(by cases e)⟩
   rw [← hoff]
   show (putCells (Value.int .i64) off S.toArray a)[off+j]? = _
   unfold putCells
   rw [Array.getElem?_mapIdx,Array.getElem?_eq_getElem hal,Option.map_some,if_pos ⟨by omega,by simp;omega⟩]
   have h7:S.toArray[off+j - off]! = z:=by
    rw [Nat.add_sub_cancel_left,getElem!_pos _ _ (by simpa using hjl)]
    have:=(List.getElem?_eq_some_iff.1 h5).2
    simpa using this
   rw [h7]⟩
 obtain ⟨e2,r2⟩:=ext_more (w':=grow w1 os) r1 (by show w1.heap.size≤(w1.heap++os).size;simp) (fun b hb'=>by
  have hb2:b < w1.heap.size:=hb'
  show (w1.heap++os)[b]? = w1.heap[b]?
  rw [Array.getElem?_append,if_pos hb2]) ⟨rfl,rfl,rfl⟩
 refine ⟨_,rfl,.tup [],⟨[(0,.cells (S.map (AV.int .i64)))],1⟩,_,rfl,⟨rfl,rfl⟩,AA2.2 ⟨#[],rfl,rfl,fun j x hx=>by simp at hx⟩,r2,⟨?_,hm.U⟩,e1.trans e2⟩
 funext j
 show upd c.at_ [(0,some (.cells (S.map (AV.int .i64))))] j=lk [(0,.cells (S.map (AV.int .i64)))] j
 rw [BJ0,hm.at_]
 by_cases e:j=0
 ·subst e;simp [lk]
 ·simp [lk,e]
@[irreducible] def kyC (vis:List Int) (n:Nat):List AV:=vis.map (AV.int .i64)++List.replicate (n - vis.length) (.int .i64 0)
theorem kyC_len {vis:List Int} {n:Nat} (h:vis.length≤n):(kyC vis n).length=n:=by unfold kyC;simp;omega
theorem kyC_0 {n:Nat}:(List.replicate n [AV.int .i64 0]).flatten=kyC [] n:=by unfold kyC;rw [List.flatten_replicate_singleton];simp
theorem kyC_s {vis:List Int} {n:Nat} {k:Int} (h:vis.length < n):over (kyC vis n) (vis.length * 1) [.int .i64 k]=kyC (vis++[k]) n:=by
 unfold kyC
 show ((vis.map (AV.int .i64)++List.replicate (n - vis.length) (AV.int .i64 0)).set (vis.length * 1) (.int .i64 k))=_
 rw [Nat.mul_one,List.set_append_right _ _ (by simp),List.length_map,Nat.sub_self]
 obtain ⟨q,hq⟩:∃ q,n - vis.length=q+1:=⟨n - vis.length - 1,by omega⟩
 rw [hq,List.replicate_succ,List.set_cons_zero,List.map_append,List.append_assoc]
 congr 1
 rw [List.length_append]
 show _=[AV.int .i64 k]++_
 rw [show n - (vis.length + [k].length)=q by simp;omega]
 rfl
theorem kyC_s0 {vis:List Int} {n:Nat} {k:Int} (h:vis.length < n):over (kyC vis n) (0+vis.length * 1) [.int .i64 k]=kyC (vis++[k]) n:=by rw [Nat.zero_add];exact kyC_s h
theorem BA1 {vis:List Int} {n:Nat} (h:vis.length=n):kyC vis n=vis.map (AV.int .i64):=by unfold kyC;rw [h,Nat.sub_self];simp
theorem AK3 {vis:List Int} {n:Nat}:∀ x ∈ kyC vis n,Plain x:=fun x hx=>by
 unfold kyC at hx
 rcases List.mem_append.1 hx with h|h
 ·obtain ⟨_,_,rfl⟩:=List.mem_map.1 h;exact A8
 ·rw [(List.mem_replicate.1 h).2];exact A8
theorem BI2 {l:List (Nat × AObj)} {nx bytes d n:Nat} {vis:List Int} {k:Int} {x:AV} {rd:List Nat} {K:AV→Up→Prop} (hs:Aj8 (lk l) 1 x=some ([.int .i64 k],1,rd)) (hd:lk l d=some (.cells (kyC vis n))) (hl:vis.length < n) (hk:K (.sl d 0 (vis.length+1) n 1) [(d,some (.cells (kyC (vis++[k]) n)))]):AppSX l nx 1 bytes (.sl d 0 vis.length n 1) x K :=
 Ae7 (by rw [appV_in hs hd (by omega) (by rw [kyC_len (by omega)];omega),kyC_s0 hl]) hk
theorem Al9 {α:Type} [DecidableEq α]:∀ {a b:List α},a.Nodup→(∀ x ∈ a,x ∈ b)→a.length≤b.length
 | [],_,_,_=>Nat.zero_le _
 | x::r,b,hn,h=>by
  have hn':=List.nodup_cons.1 hn
  have hx:=h x (List.mem_cons_self ..)
  have ih:=Al9 (b:=b.erase x) hn'.2 fun y hy=>(List.mem_erase_of_ne (fun e:y=x=>hn'.1 (e▸hy))).2 (h y (List.mem_cons_of_mem _ hy))
  have hl:=List.length_erase_of_mem hx
  have hp:=List.length_pos_of_mem hx
  rw [List.length_cons];omega
structure LocSo (P:Program) (G:Gl) (f n:Nat) (zs S:List Int):Prop where
 out:AO7 P G f [.sl 0 0 n n 1] [(0,.cells (zs.map (AV.int .i64)))] 1 fun x h=>x = .tup []∧h=⟨[(0,.cells (S.map (AV.int .i64)))],1⟩
theorem Ah6 {l:List Int}:∀ x ∈ l.map (AV.int .i64),Plain x:=fun x hx=>by
 obtain ⟨_,_,rfl⟩:=List.mem_map.1 hx;exact A8
theorem cx_so {f n d nx:Nat} {zs S:List Int} {l:List (Nat × AObj)} {K:AV→Hp→Prop} (hG:AH7 G) (hc:LocSo P G f n zs S) (h0:lk l d=some (.cells (zs.map (AV.int .i64)))) (hlt:d < nx) (hk:AV1 [d] l fun l2=>K (.tup []) ⟨([(d,.cells (S.map (AV.int .i64)))]:List (Nat × AObj))++l2,nx⟩):AH3 P G (.fn f [] []) [.sl d 0 n n 1] ⟨l,nx⟩ K:=by
 have e0:enter [d] d 0:=rfl
 have k0:back [d] nx 0 d:=rfl
 refine AO5 (r':=.tup []) (l1:=[(d,.cells (S.map (AV.int .i64)))]) [d] hc.out hG rfl (.cons e0 h0 (D7 Ah6) .nil) ?_ (by intro x hx;simp only [List.mem_cons,List.not_mem_nil,or_false] at hx;omega) (F4 (F5 fun x hx=>by cases hx)) (.cons k0 (D7 Ah6) .nil) hk
 simp only [List.nil_append,List.append_nil]
 exact ⟨rn_sl e0,trivial⟩
end
end Go.Am
namespace Go.Proofs.Ytbhgfoikbkaohaa.Sh
open Go Go.Am
def cKs0:ACode:=.reg [⟨some 7,.load false 1 (.t 1),none⟩,⟨some 8,.mlen (.t 7),none⟩,⟨some 9,.mks 1 8 [.int .i64 0] (.k (.int .i64 0)) (.t 8),none⟩,⟨some 3,.mv (.t 9),none⟩]
def cKs4:ACode:=.reg [⟨some 16,.mv (.t 3),none⟩,⟨some 17,.mv (.t 4),none⟩,⟨some 18,.bslice 1 1 [.int .i64 0] [(0,1,.t 17)],none⟩,⟨some 19,.append 1 8 (.t 16) (.t 18),none⟩,⟨some 3,.mv (.t 19),none⟩]
def cKsR (z:AV):ACode:=.seq (.reg [⟨some 22,.mv (.t 3),none⟩,⟨some 23,.len (.t 22),none⟩,⟨some 24,.mv (.k (.int .i64 0)),none⟩]) (.block 2 (.loop (.seq (.reg [⟨some 25,.bin .lss (.t 24) (.t 23),none⟩]) (.seq (.cond (.t 25) .skip (.exit 2)) (.seq (.block 3 (.seq (.reg [⟨some 26,.iaddrS 1 (.t 22) (.t 24),none⟩,⟨some 27,.load false 1 (.t 26),none⟩,⟨some 6,.mv (.t 27),none⟩])
 (.seq (.reg [⟨some 28,.mv (.t 0),none⟩,⟨some 29,.mv (.t 6),none⟩,⟨some 30,.load false 1 (.t 1),none⟩,⟨some 31,.mv (.t 6),none⟩,⟨some 32,.mlook false false [0] z (.t 30) (.t 31),none⟩,⟨some 33,.call (.t 28) [.t 29,.t 32],none⟩,⟨some 34,.un .not (.t 33),none⟩]) (.cond (.t 34) .ret .skip)))) (.reg [⟨some 35,.bin .add (.t 24) (.k (.int .i64 1)),none⟩,⟨some 24,.mv (.t 35),none⟩]))))))
def cKs1 (z:AV):ACode:=.seq (.reg [⟨some 20,.mv (.t 3),none⟩,⟨some 21,.call (.k (.fn 57 [] [])) [.t 20],none⟩]) (cKsR z)
theorem bS_page:BodyS Try.prog 56 cKs0 1 10 11 12 13 14 15 4 cKs4 (cKs1 (.agg [.int .i64 0,.int .i64 0,.int .i64 0])) [] 36 :=
 ⟨by kernel_rfl,_,_,_,_,Try.func56,rfl,by kernel_rfl,⟨_,_,_,_,_,_,_,_,_,_,_,_,_,_,_,_,_,rfl,⟨rfl,rfl,rfl⟩,⟨rfl,rfl,rfl⟩,⟨rfl,rfl,rfl⟩,⟨rfl,rfl,rfl⟩,⟨rfl,rfl,rfl⟩,⟨rfl,rfl,rfl⟩,⟨rfl,rfl,rfl⟩,Try.underlying76,by kernel_rfl,by kernel_rfl⟩,by kernel_rfl,by kernel_rfl,rfl⟩
theorem bS_bytes:BodyS Try.prog 58 cKs0 1 10 11 12 13 14 15 4 cKs4 (cKs1 (.agg (List.replicate 64 (.int .u8 0)))) [] 36 :=
 ⟨by kernel_rfl,_,_,_,_,Try.func58,rfl,by kernel_rfl,⟨_,_,_,_,_,_,_,_,_,_,_,_,_,_,_,_,_,rfl,⟨rfl,rfl,rfl⟩,⟨rfl,rfl,rfl⟩,⟨rfl,rfl,rfl⟩,⟨rfl,rfl,rfl⟩,⟨rfl,rfl,rfl⟩,⟨rfl,rfl,rfl⟩,⟨rfl,rfl,rfl⟩,Try.underlying77,by kernel_rfl,by kernel_rfl⟩,by kernel_rfl,by kernel_rfl,rfl⟩
end Go.Proofs.Ytbhgfoikbkaohaa.Sh
namespace Go.Proofs.Ytbhgfoikbkaohaa.Sh
open Go Go.Am Go.Pol
def sort_ren:Go.Shelf.Ren:=⟨fun|189=>57|125=>68|257=>67|128=>84|129=>85|294=>75|295=>76|296=>77|297=>78|298=>79|299=>80|216=>81|300=>82|301=>83|328=>87|329=>88|330=>89|331=>90|332=>91|215=>92|343=>95|n=>n,fun|28=>55|3=>3|46=>157|0=>0|51=>170|53=>172|4=>4|183=>163|182=>162|131=>123|5=>5|9=>9|218=>175|222=>124|228=>182|229=>183|n=>n,fun|n=>n⟩
theorem BQ0:Go.Proofs.Lays.n189 Try.prog sort_ren:={ mixed:=by kernel_rfl,f125:=Try.func68.trans (congrArg some (by kernel_rfl)),f128:=Try.func84.trans (congrArg some (by kernel_rfl)),f129:=Try.func85.trans (congrArg some (by kernel_rfl)),f189:=Try.func57.trans (congrArg some (by kernel_rfl)),f215:=Try.func92.trans (congrArg some (by kernel_rfl)),f216:=Try.func81.trans (congrArg some (by kernel_rfl)),f257:=Try.func67.trans (congrArg some (by kernel_rfl)),f294:=Try.func75.trans (congrArg some (by kernel_rfl)),f295:=Try.func76.trans (congrArg some (by kernel_rfl)),f296:=Try.func77.trans (congrArg some (by kernel_rfl)),f297:=Try.func78.trans (congrArg some (by kernel_rfl)),f298:=Try.func79.trans (congrArg some (by kernel_rfl)),f299:=Try.func80.trans (congrArg some (by kernel_rfl)),f300:=Try.func82.trans (congrArg some (by kernel_rfl)),f301:=Try.func83.trans (congrArg some (by kernel_rfl)),f328:=Try.func87.trans (congrArg some (by kernel_rfl)),f329:=Try.func88.trans (congrArg some (by kernel_rfl)),f330:=Try.func89.trans (congrArg some (by kernel_rfl)),f331:=Try.func90.trans (congrArg some (by kernel_rfl)),f332:=Try.func91.trans (congrArg some (by kernel_rfl)),f343:=Try.func95.trans (congrArg some (by kernel_rfl)),t0:=Try.underlying0,a0:=Try.isAgg0,z0:=Try.sizeOf0,v0:=Try.zeroValue0,t3:=Try.underlying3,a3:=Try.isAgg3,z3:=Try.sizeOf3,v3:=Try.zeroValue3,t4:=Try.underlying4,a4:=Try.isAgg4,z4:=Try.sizeOf4,v4:=Try.zeroValue4,t5:=Try.underlying5,a5:=Try.isAgg5,z5:=Try.sizeOf5,v5:=Try.zeroValue5,t9:=Try.underlying9,a9:=Try.isAgg9,z9:=Try.sizeOf9,v9:=Try.zeroValue9,t28:=Try.underlying55,a28:=Try.isAgg55,z28:=Try.sizeOf55,v28:=Try.zeroValue55,t46:=Try.underlying157,a46:=Try.isAgg157,z46:=Try.sizeOf157,v46:=Try.zeroValue157,t51:=Try.underlying170,a51:=Try.isAgg170,z51:=Try.sizeOf170,v51:=Try.zeroValue170,t53:=Try.underlying172,a53:=Try.isAgg172,z53:=Try.sizeOf172,v53:=Try.zeroValue172,t131:=Try.underlying123,a131:=Try.isAgg123,z131:=Try.sizeOf123,v131:=Try.zeroValue123,t182:=Try.underlying162,a182:=Try.isAgg162,z182:=Try.sizeOf162,v182:=Try.zeroValue162,t183:=Try.underlying163,a183:=Try.isAgg163,z183:=Try.sizeOf163,v183:=Try.zeroValue163,t218:=Try.underlying175,a218:=Try.isAgg175,z218:=Try.sizeOf175,v218:=Try.zeroValue175,t222:=Try.underlying124,a222:=Try.isAgg124,z222:=Try.sizeOf124,v222:=Try.zeroValue124,t228:=Try.underlying182,a228:=Try.isAgg182,z228:=Try.sizeOf182,v228:=Try.zeroValue182,t229:=Try.underlying183,a229:=Try.isAgg183,z229:=Try.sizeOf183,v229:=Try.zeroValue183 }
theorem so_ok {n:Nat} {zs S:List Int} (hn:zs.length=n) (hp:zs.Perm S) (hs:S.Pairwise (· < ·)) (hz:n≤1000):LocSo Try.prog G0 57 n zs S :=
 ⟨loc_sort (by kernel_rfl) hn (sort_is hp hs) (by omega) fun blk off cap w hH hb=>calls_of_every_depth fun D=>AnyS.slices_Sort_int_in BQ0 D blk off cap zs w hH hb (by omega)⟩
end Go.Proofs.Ytbhgfoikbkaohaa.Sh
namespace Go.Pol
open Go.Am Go.Proofs.Ytbhgfoikbkaohaa.Sh
def Sw.pages (w:Sw):List Nat:=(List.range w.pg).filter fun p=>decide (w.is p)
def vst (w:Sw) (o:Option Nat) (p:Nat):Option Nat:=if 0≤w.F p then (match o with
  | none=>some p
  | some b=>if w.Z p < w.Z b then some p else some b) else o
theorem Aq1 (w:Sw):∀ m,w.vicN m=(List.range m).foldl (vst w) none
 | 0=>rfl
 | m+1=>by
  rw [List.range_succ,List.foldl_append,← Aq1 w m]
  rfl
theorem Am4 {w:Sw}:∀ (l:List Nat) (o:Option Nat),(l.filter fun p=>decide (w.is p)).foldl (vst w) o=l.foldl (vst w) o
 | [],o=>rfl
 | p::l,o=>by
  by_cases h:w.is p
  ·rw [List.filter_cons_of_pos (by simpa using h),List.foldl_cons,List.foldl_cons,Am4 l]
  ·rw [List.filter_cons_of_neg (by simpa using h),List.foldl_cons,Am4 l]
   have : vst w o p=o:=if_neg fun h2=>h (.inl h2)
   rw [this]
theorem vic_fold (w:Sw):w.vic=w.pages.foldl (vst w) none:=by unfold Sw.vic Sw.pages;rw [Aq1,Am4]
def Ap1 (w:Sw) (j:Nat):Option Nat:=(w.pages.take j).foldl (vst w) none
theorem vicT_0 {w:Sw}:opA (Ap1 w 0) = -1:=rfl
theorem vicT_s {w:Sw} {j:Nat} (h:j < w.pages.length):Ap1 w (j+1)=vst w (Ap1 w j) (nth 0 w.pages j):=by
 unfold Ap1;rw [AX5 (d:=0) h,List.foldl_append];rfl
theorem vicT_all {w:Sw}:Ap1 w w.pages.length=w.vic:=by rw [vic_fold];unfold Ap1;rw [List.take_length]
theorem vst_in {w:Sw} (hz:∀ p,¬ w.is p→¬ 0≤w.F p) {b:Nat}:∀ (l:List Nat) (o:Option Nat),l.foldl (vst w) o=some b→(o=some b)∨(b ∈ l∧0≤w.F b)
 | [],o,h=>.inl h
 | p::l,o,h=>by
  rcases vst_in hz l _ h with h2 | ⟨h2,h3⟩
  ·unfold vst at h2
   split at h2
   ·rename_i hF
    split at h2
    ·cases h2;exact .inr ⟨List.mem_cons_self ..,hF⟩
    ·split at h2
     ·cases h2;exact .inr ⟨List.mem_cons_self ..,hF⟩
     ·cases h2;exact .inl rfl
   ·exact .inl h2
  ·exact .inr ⟨List.mem_cons_of_mem _ h2,h3⟩
theorem Ab3 {w:Sw} (hg:E5 w) {p:Nat}:p ∈ w.pages ↔ w.is p:=by
 unfold Sw.pages
 rw [List.mem_filter,decide_eq_true_eq,List.mem_range]
 exact ⟨fun h=>h.2,fun h=>⟨h.elim (AG9 hg) (AM6 hg),h⟩⟩
theorem pages_nd {w:Sw}:w.pages.Nodup:=List.nodup_range.filter _
theorem pages_up {w:Sw}:w.pages.Pairwise (· < ·):=List.pairwise_lt_range.filter _
structure WW (w:Sw) (L:List (Int × Int × Int × Int)):Prop where
 nd:ndI L
 gW:∀ p:Int,mgI L p=if 0≤p∧w.is p.toNat then some (w.F p.toNat,w.T p.toNat,w.Z p.toNat) else none
theorem WOk.ww {w:Sw} {t:WS} (h:WOk w t):WW w t.W:=⟨h.ndW,h.gW⟩
theorem AE8 {w:Sw} {t:WS} (hg:E5 w) (h:WW w t.W):(t.W.map (·.1)).Perm (w.pages.map fun p=>((p:Nat):Int)):=by
 refine (List.perm_ext_iff_of_nodup h.nd ?_).2 fun k=>?_
 ·exact List.Pairwise.map (R:=fun a b=>a ≠ b) _ (fun a b hab e=>hab (by omega)) pages_nd
 ·rw [Al4,List.mem_map]
  constructor
  ·rintro ⟨v,hv⟩
   rw [h.gW] at hv
   split at hv
   ·rename_i hk
    exact ⟨k.toNat,(Ab3 hg).2 hk.2,by omega⟩
   ·cases hv
  ·rintro ⟨p,hp,rfl⟩
   exact ⟨_,by rw [h.gW,if_pos ⟨by omega,by rw [Int.toNat_natCast];exact (Ab3 hg).1 hp⟩]⟩
theorem As0 {w:Sw}:(w.pages.map fun p=>((p:Nat):Int)).Pairwise (· < ·):=List.Pairwise.map (R:=fun a b=>a < b) _ (fun a b hab=>by omega) pages_up
theorem AS0 {w:Sw} {t:WS} (h:WW w t.W) {p:Nat} (hp:w.is p):mgI t.W (p:Nat)=some (w.F p,w.T p,w.Z p):=by
 rw [h.gW,if_pos ⟨by omega,by rw [Int.toNat_natCast];exact hp⟩,Int.toNat_natCast]
theorem gW_no {w:Sw} {t:WS} (h:WW w t.W) {p:Nat} (hp:¬ w.is p):mgI t.W (p:Nat)=none:=by
 rw [h.gW,if_neg fun h2=>hp (by rw [Int.toNat_natCast] at h2;exact h2.2)]
end Go.Pol
namespace Go.Proofs.Ytbhgfoikbkaohaa.Sh
open Go Go.Am Go.Pol
open Go.Proofs.Ytbhgfoikbkaohaa.Sh renaming plx_Sxc → plx
open Go.Proofs.Ytbhgfoikbkaohaa.Sh renaming ppx_Sxc → ppx
theorem wx_Sxe {p q:Prop} (hq:q) (h:X4 q→p:=by (intro hQz;((repeat' ((try (conv=>whnf));first|(with_reducible first|refine M5 ?_|refine J4 ?_|refine M9 ?_|refine N8 ?_|refine J8 ?_|refine R4 ?_|refine M0 ?_|refine R3 rfl ?_|refine M4 ?_|refine H6 ?_|refine J6 ?_|refine J7 ?_|refine N7 ?_|refine G9 ?_|refine J5 (by decide +kernel) ?_|refine I9 (by decide +kernel) ?_|refine AF3 ?_|refine AF4 ?_|refine Ap5 ?_|refine Z5 ?_|refine AI6 ?_|refine Ai6 (by assumption) ?_|refine Ai7 (by assumption) ?_|refine Z0 (by omega) ?_|refine AI5 ?_)|((with_reducible refine AI7 ?_ ?_);focus omega)|((with_reducible refine AI8 ?_ ?_);focus omega)|((with_reducible apply V4 hQz)<;>(try intro hsp hQz))|((with_reducible refine Ap4 ?_ ?_);focus (first|omega|rfl|assumption|decide|(simp only [List.length_map,List.length_cons,List.length_nil];omega)|exact hmk))|refine AF2 (hmk) ?_|(with_reducible first|refine AI0 ?_|refine Y9 ?_|refine Y8 ?_|refine AI2 ?_|refine AI1 ?_|refine AH8 ?_|refine Ap3 ?_|refine G7 ?_|refine Y6 ?_|refine M8 ?_|refine M7 ?_|refine G8 ?_|refine AH9 (by omega) ?_|refine Y7 (by omega) ?_)|refine mlen_i rfl ?_|refine BI2 rfl rfl (by omega) ?_|refine K6 hS ?_|refine l9 hgp rfl ?_|refine l9 hgb rfl ?_|refine sxF ?_|refine cx_so H8 hs rfl (by decide) ?_|refine Ad6 F6 rfl hF hA hB rfl ?_|(refine AA9 F6 b34 rfl ?_;unfold c34)|refine sxH ?_|((with_reducible apply V5 hQz)<;>(try intro hsp hQz))|exact hQz.out))<;>(try (conv=>whnf))))):p:=h ⟨hq⟩
section
variable {q:Sw} {t:WS}
theorem nth_is (hg:E5 q) {j:Nat} (hj:j < q.pages.length):q.is (nth 0 q.pages j):=(Ab3 hg).1 (Ab7 hj)
theorem pgI_at {j:Nat} (hj:j < q.pages.length):((q.pages.map fun p=>((p:Nat):Int)).map (AV.int .i64))[j]? = some (.int .i64 ((nth 0 q.pages j:Nat):Int)):=by
 rw [p9 hj,List.getElem?_map,List.getElem?_map,List.getElem?_eq_getElem hj];rfl
theorem w_victim (hg:E5 q) (h:WW q t.W):O1 36 [] q t (.int .i64 (opA q.vic)) q t:=by
 have hwl:t.W.length≤256:=by
  have:=(AE8 hg h).length_eq
  rw [List.length_map,List.length_map] at this
  have h2:q.pages.length≤q.pg:=Nat.le_trans (List.length_filter_le ..) (by rw [List.length_range];exact Nat.le_refl _)
  have:=hg.rng;omega
 have hpl:t.W.length=q.pages.length:=by
  have:=(AE8 hg h).length_eq
  rwa [List.length_map,List.length_map] at this
 have hmk:=kyC_0 (n:=t.W.length)
 refine O1.mk (I6 F6 b36 rfl ?_) (fun x hx=>by cases hx) A8
 unfold c36
 unfold stN stC
 (refine wx_Sxe ?_;repeat' (first|with_reducible refine And.intro ?_ ?_|intro hsp))
 refine Ay5 F6 bS_page rfl trivial ?_
 intro frl asl bdl hF hA hB
 unfold cKs0
 (refine wx_Sxe ?_;repeat' (first|with_reducible refine And.intro ?_ ?_|intro hsp))
 refine KeysX.mk fun ck hck=>BW5 F6 hck (i:=1) (it:=10) (pb:=7) (po:=0) (cs:=[]) (ks:=t.W.map (·.1)) [] (fun vis=>[(0,.yld 8),(1,.ptr 7 0),(3,.sl 9 0 vis.length t.W.length 1)]) (fun vis=>[(0,.cells (stC 4 1 2 3 q)),(2,.maps (encW byE t.D)),(3,.maps (encW nuE t.H)),(4,.cells q.s.a),(5,.cells [.ptr 0 0]),(6,.cells [.int .i64 (-1)]),(7,.cells [.mapr 1]),(8,.loop .ready none frl [11,12] asl bdl),(9,.cells (kyC vis t.W.length))]) An5 h.nd rfl rfl rfl (.inr ⟨_,rfl⟩) rfl (by decide) (by decide) rfl (fun _=>rfl) rfl (fun _=>rfl) ?_ ?_ ?_
 ·exact p8
 ·intro vis k hnd hsub
  have hl1:vis.length < t.W.length:=by
   have:=Al9 hnd hsub
   rw [List.length_append,List.length_map] at this
   exact this
  unfold cKs4
  (refine wx_Sxe ?_;repeat' (first|with_reducible refine And.intro ?_ ?_|intro hsp))
  refine ⟨[],rfl,?_⟩
  rw [show (vis++[k]).length=vis.length+1 by simp]
  exact p8
 ·intro vis hperm
  have hlen:vis.length=t.W.length:=by rw [hperm.length_eq,List.length_map]
  have hs:=so_ok hlen (hperm.trans (AE8 hg h)) As0 (by omega)
  rw [BA1 hlen,hlen]
  unfold cKs1
  unfold cKsR
  (refine wx_Sxe ?_;repeat' (first|with_reducible refine And.intro ?_ ?_|intro hsp))
  rw [hpl]
  have hv0:=vicT_0 (w:=q)
  (refine O9 [0,1,22,23] (fun (j:Nat)=>[(24,.int .i64 (j:Nat))]) (fun (j:Nat)=>⟨stN q t 0 1 2 3 4++[(5,.cells [.ptr 0 0]),(6,.cells [.int .i64 (opA (Ap1 q j))]),(7,.cells [.mapr 1]),(8,.loop .ready none frl [11,12] asl bdl),(9,.cells ((q.pages.map fun p=>((p:Nat):Int)).map (AV.int .i64)))],11⟩) (fun (j:Nat)=>j≤q.pages.length) (fun (j:Nat)=>q.pages.length - j) (0) [] rfl (fun _=>by first|exact Nat.zero_le _|(dsimp only;omega)) ?_ (by ((try (conv=>whnf));(rw [hv0]);exact p8)) ?_)
  ·exact Nat.zero_le _
  intro j hj
  by_cases hjl:j < q.pages.length
  ·have hip:=nth_is hg hjl
   have hS:=pgI_at hjl
   have hvs:=vicT_s hjl
   generalize nth 0 q.pages j=p at *
   have hgp:=AS0 h hip
   by_cases hF0:0≤q.F p
   ·rcases (show Ap1 q j=none∨∃ b,Ap1 q j=some b by cases Ap1 q j<;>simp) with hv | ⟨b,hv⟩
    ·have hy:opA (Ap1 q j) = -1:=by rw [hv];rfl
     have hnx:opA (Ap1 q (j+1))=(p:Nat):=by rw [hvs,hv];unfold vst;rw [if_pos hF0];rfl
     rw [hy]
     unfold stN stC
     (refine wx_Sxe ?_;repeat' (first|with_reducible refine And.intro ?_ ?_|intro hsp))
     all_goals first|(exfalso;omega)|exact G6 (j+1) [] (by (try dsimp only);omega) (by first|omega|(dsimp only;omega)) rfl (by ((try dsimp only);rw [hnx]);exact p8)
    ·have hy:opA (Ap1 q j)=(b:Nat):=by rw [hv];rfl
     have hb:0≤q.F b:=by
      rcases vst_in (w:=q) (fun p hp h2=>hp (.inl h2)) _ _ hv with h2 | ⟨_,h2⟩
      ·cases h2
      ·exact h2
     have hgb:=AS0 h (p:=b) (.inl hb)
     by_cases hz:q.Z p < q.Z b
     ·have hnx:opA (Ap1 q (j+1))=(p:Nat):=by rw [hvs,hv];unfold vst;rw [if_pos hF0];dsimp only;rw [if_pos hz];rfl
      rw [hy]
      unfold stN stC
      (refine wx_Sxe ?_;repeat' (first|with_reducible refine And.intro ?_ ?_|intro hsp))
      all_goals first|(exfalso;omega)|exact G6 (j+1) [] (by (try dsimp only);omega) (by first|omega|(dsimp only;omega)) rfl (by ((try dsimp only);rw [hnx]);exact p8)
     ·have hnx:opA (Ap1 q (j+1))=(b:Nat):=by rw [hvs,hv];unfold vst;rw [if_pos hF0];dsimp only;rw [if_neg hz];rfl
      rw [hy]
      unfold stN stC
      (refine wx_Sxe ?_;repeat' (first|with_reducible refine And.intro ?_ ?_|intro hsp))
      all_goals first|(exfalso;omega)|exact G6 (j+1) [] (by (try dsimp only);omega) (by first|omega|(dsimp only;omega)) rfl (by ((try dsimp only);rw [hnx]);exact p8)
   ·have hnx:opA (Ap1 q (j+1))=opA (Ap1 q j):=by rw [hvs];unfold vst;rw [if_neg hF0]
    generalize opA (Ap1 q j)=y at *
    unfold stN stC
    (refine wx_Sxe ?_;repeat' (first|with_reducible refine And.intro ?_ ?_|intro hsp))
    all_goals first|(exfalso;omega)|exact G6 (j+1) [] (by (try dsimp only);omega) (by first|omega|(dsimp only;omega)) rfl (by ((try dsimp only);rw [hnx]);exact p8)
  ·obtain rfl:j=q.pages.length:=by omega
   rw [vicT_all]
   unfold stN stC
   (refine wx_Sxe ?_;repeat' (first|with_reducible refine And.intro ?_ ?_|intro hsp))
   all_goals first|(exfalso;omega)|exact K9 rfl A8 rfl rfl rfl rfl rfl
end
end Go.Proofs.Ytbhgfoikbkaohaa.Sh
