/-
 Several slices of their own that grow: they stand one behind the other at the heap's end. No program in sight.
 A call that makes one block,in a region that draws its order;a call that reads alone. No program in sight.
 The runs of the program: its iterator,collected.
 Pages' bytes as wholes: compared,written,read.
 A store's inner calls: is,stated,numbers,the bytes of a frame.
 A store's inner calls: the first free frame,the first slot.
 A function that sorts a slice of numbers,told by its contract over memory: as a contract over a store of its own. In-place appends. No program in sight.
 The iterators over a map by its keys,and the sort: their code.
 The sort's contract.
 The sorted pages;the page that was touched first.
-/
import Derived.Test.YtbhgfoikbkaohaaGreatQan
import Derived.Sort.Grow
import Derived.Sort.EveryDepth
import Derived.Shelf.Sort.AssemblyIn
set_option linter.unusedSimpArgs false
set_option linter.unusedVariables false
set_option maxHeartbeats 6400000
namespace Go.Am
section
variable {α:Type} {f:α→List AV} {L:List α} {d i:Nat} {r:List (Nat × AObj)}
theorem del_tS {k:List (Nat × AObj)→Prop} (h:BI2 r d k):BI2 (AK8 d f L++r) d k:=by
 by_cases hz:L.length=0
 ·rw [AQ9 hz];exact h
 ·rw [AJ9 hz];simp only [List.cons_append,List.nil_append,BI2];rw [show Nat.beq d d=true by simp];exact h
theorem del_tO {k:List (Nat × AObj)→Prop} (hi:Nat.beq i d=false) (h:BI2 r i fun r'=>k (AK8 d f L++r')):BI2 (AK8 d f L++r) i k:=by
 by_cases hz:L.length=0
 ·rw [AQ9 hz] at h ⊢;exact h
 ·rw [AJ9 hz] at h ⊢;simp only [List.cons_append,List.nil_append,BI2,hi] at h ⊢;exact h
theorem BM1 (hz:L.length=0):lk (AK8 d f L++r) i=lk r i:=by rw [AQ9 hz];rfl
theorem lk_tA {r':List (Nat × AObj)} (h:i ≠ d):lk (r'++AK8 d f L) i=lk r' i:=by
 by_cases hz:L.length=0
 ·rw [AQ9 hz,List.append_nil]
 ·rw [AJ9 hz]
  induction r' with
  | nil=>simp [lk,h]
  | cons p r' ih=>obtain ⟨j,o⟩:=p;simp only [List.cons_append,lk];rw [ih]
theorem AW9 (h:i ≠ d):lk (AK8 d f L) i=none:=by
 have:=lk_tA (f:=f) (L:=L) (r':=[]) h
 exact this
theorem del_n {k:List (Nat × AObj)→Prop} (h:k []):BI2 [] i k:=h
end
structure TlO (P:Program) (σ:Nat→Nat) (h h':Hp) (ks:List Nat) (tl:List (Nat × AObj)):Prop where
 key:∀ j o,lk tl j=some o→j ∈ ks
 sub:∀ j o,lk tl j=some o→∃ o',lk h.l (σ j)=some o'
 wko:AL9 σ h h'→WkO P σ h h' tl
section
variable {P:Program} {σ:Nat→Nat} {h h':Hp} {ks:List Nat} {r:List (Nat × AObj)} {α:Type} {f:α→List AV} {L:List α} {i n:Nat}
theorem tl_nil:TlO P σ h h' [] []:=⟨fun j o hj=>(by cases hj),fun j o hj=>(by cases hj),fun _=>J5⟩
theorem BI9 (hp:∀ c,∀ x ∈ f c,Plain x) (h4:Nat.blt i h'.next=true) (h3:L.length ≠ 0→lk h.l (σ i)=some (.cells (flat f L))) (hr:TlO P σ h h' ks r):TlO P σ h h' (i::ks) (AK8 i f L++r):=by
 refine ⟨fun j o hj=>?_,fun j o hj=>?_,fun hs=>Ab7 (wko_own (Ap6 h4) hp hs h3) (hr.wko hs)⟩
 ·rcases Ag6 hj with hj|hj
  ·obtain ⟨rfl,_⟩:=AN2 hj;exact List.mem_cons_self ..
  ·exact List.mem_cons_of_mem _ (hr.key j o hj)
 ·rcases Ag6 hj with hj|hj
  ·obtain ⟨rfl,hz⟩:=AN2 hj;exact ⟨_,h3 hz⟩
  ·exact hr.sub j o hj
theorem lk_keys:∀ {ks:List Nat} {j:Nat},j ∈ ks→∃ o,lk (ks.map fun k=>(k,AObj.cells [])) j=some o
 | k::ks,j,hj=>by
  simp only [List.map_cons,lk]
  by_cases e:j=k
  ·exact ⟨_,if_pos e⟩
  ·rw [if_neg e]
   rcases List.mem_cons.1 hj with e2|hj
   ·exact absurd e2 e
   ·exact lk_keys hj
theorem lk_up2 {tl:List (Nat × AObj)} (hk:∀ j o,lk tl j=some o→j ∈ ks) {j:Nat} {o:AObj}:∀ {l0:List (Nat × AObj)},lk (l0++tl) j=some o→∃ o',lk (l0++ks.map fun k=>(k,AObj.cells [])) j=some o'
 | [],hj=>lk_keys (hk j o hj)
 | (q,x)::l0,hj=>by
  simp only [List.cons_append,lk] at hj ⊢
  split
  ·exact ⟨_,rfl⟩
  ·rename_i e;rw [if_neg e] at hj;exact lk_up2 hk hj
theorem weak_t {ren:List (Nat × Nat)} {sf sf':SF} {l0 tl:List (Nat × AObj)} {nx:Nat} (h1:Ad7 ((l0.map fun p=>rn ren p.1)++ks.map (rn ren))=true) (h2:subB (rn ren) h.l l0=true) (ht:TlO P (rn ren) h ⟨l0++tl,nx⟩ ks tl)
  (hf:AL9 (rn ren) h ⟨l0++tl,nx⟩→WkF P (rn ren) h ⟨l0++tl,nx⟩ sf sf') (ho:AL9 (rn ren) h ⟨l0++tl,nx⟩→WkO P (rn ren) h ⟨l0++tl,nx⟩ l0):Az6 P ren n sf h sf' ⟨l0++tl,nx⟩:=by
 have hs:AL9 (rn ren) h ⟨l0++tl,nx⟩:=fun j o hj=>by
  rcases Ag6 hj with hj|hj
  ·exact AQ0 (h:=h) (h':=⟨l0,nx⟩) h2 j o hj
  ·exact ht.sub j o hj
 have h5:Az7 (rn ren) (l0++ks.map fun k=>(k,AObj.cells [])):=R7 (by rw [List.map_append,List.map_map];exact h1)
 have h6:Az7 (rn ren) (l0++tl):=fun a b o o' ha hb e=>by
  obtain ⟨_,ha⟩:=lk_up2 ht.key ha
  obtain ⟨_,hb⟩:=lk_up2 ht.key hb
  exact h5 a b _ _ ha hb e
 exact ⟨Ak0 h6 (AL0 (Z5 (hf hs))) (Ab7 (ho hs) (ht.wko hs))⟩
end
end Go.Am
namespace Go.Am
section
variable {P:Program} {G:Gl}
end
theorem Ap8 {qa qb:Prop} {α:Type} {L:List α} {l:List (Nat × AObj)} {nx sz bytes d:Nat} {x:AV} {k:AV→Up→List Nat→Prop} (hq:Y3 ((L.length=0→qa)∧(L.length ≠ 0→qb))) (h:Y3 (L.length=0→qa)→Y3 (L.length ≠ 0→qb)→AppX l nx sz bytes (AZ7 d sz L.length) x k):AppX l nx sz bytes (AZ7 d sz L.length) x k:=h ⟨hq.out.1⟩ ⟨hq.out.2⟩
end Go.Am
namespace Go.Proofs.YtbhgfoikbkaohaaGreat
open Go Go.Am Go.Pol
theorem ppx_Ti {p:Prop} (h:p:=by ((first|with_reducible assumption|(with_reducible first|apply M9 _|apply V4 M9|apply V4 x9|apply x9|apply A9|apply AI8|apply F3 A9|apply H6 A9|apply E9|apply F7|apply F3 hP|fail)|exact ppw|fail);first|done|fail)):p:=h
open Go.Proofs.YtbhgfoikbkaohaaGreat renaming plx_Sd → plx
open Go.Proofs.YtbhgfoikbkaohaaGreat renaming ppx_Ti → ppx
section
variable {K:Nat→Int} {M:Nat→Bool} {B:Nat→Nat→Int} {P:List AV}
end
end Go.Proofs.YtbhgfoikbkaohaaGreat
namespace Go.Pol
open Go.Am
theorem AZ8:∀ {vs cs pre:List AV},cs.length=vs.length→over (pre++cs) pre.length vs=pre++vs
 | [],cs,pre,h=>by
  have : cs=[]:=List.eq_nil_of_length_eq_zero (by simpa using h)
  subst this;rfl
 | v::vs,[],pre,h=>by simp at h
 | v::vs,c::cs,pre,h=>by
  show over ((pre++c::cs).set pre.length v) (pre.length+1) vs=_
  rw [List.set_append_right _ _ (Nat.le_refl _),Nat.sub_self,List.set_cons_zero]
  have:=AZ8 (vs:=vs) (cs:=cs) (pre:=pre++[v]) (by simpa using h)
  rw [List.length_append,List.append_assoc,List.append_assoc] at this
  exact this
theorem BA4 {y:List AV} (h:y.length=64):y.take 64=y:=List.take_of_length_le (by omega)
theorem y_drop {y:List AV}:y.drop 0=y:=rfl
theorem over_y {y:List AV} (h:y.length=64):over (List.replicate 64 (AV.int .u8 0)) 0 y=y:=AZ8 (pre:=[]) (by rw [h];rfl)
theorem Ad5 {y:List AV} {x:AV} (h:y.length=64):over (x::List.replicate 64 (AV.int .u8 0)) 1 y=x::y:=AZ8 (pre:=[x]) (by rw [h];rfl)
theorem AK3 (b:Nat→Int):eqL (List.replicate 64 0) (byA b) (List.replicate 64 (.int .u8 0))=some (decide (l5 b)):=by
 have key:∀ (F:Nat→Int) (n k:Nat),∃ t,eqL (List.replicate n 0) ((List.range' k n).map fun j=>.int .u8 (F j)) (List.replicate n (.int .u8 0))=some t∧(t=true ↔ ∀ j,k≤j→j < k+n→F j=0):=by
  intro F n
  induction n with
  | zero=>intro k;exact ⟨true,rfl,⟨fun _ j h1 h2=>by omega,fun _=>rfl⟩⟩
  | succ n ih =>
   intro k
   obtain ⟨t,h1,h2⟩:=ih (k+1)
   refine ⟨(F k == 0) && t,?_,?_⟩
   ·rw [List.replicate_succ,List.replicate_succ,List.range'_succ,List.map_cons]
    simp only [eqL,eq1,if_true,Option.bind_some,h1,Option.map_some]
   ·rw [Bool.and_eq_true,beq_iff_eq,h2]
    constructor
    ·rintro ⟨h1,h2⟩ j hj1 hj2
     by_cases e:j=k
     ·rw [e];exact h1
     ·exact h2 j (by omega) (by omega)
    ·intro h;exact ⟨h k (Nat.le_refl _) (by omega),fun j h1 h2=>h j (by omega) (by omega)⟩
 obtain ⟨t,h1,h2⟩:=key b 64 0
 unfold byA
 rw [List.range_eq_range',h1]
 congr 1
 rw [Bool.eq_iff_iff,h2,decide_eq_true_eq]
 exact ⟨fun h j hj=>h j (Nat.zero_le _) (by omega),fun h j _ hj=>h j (by omega)⟩
section
variable {K:Nat→Int} {M G:Nat→Bool} {B:Nat→Nat→Int} {P:List AV} {p o:Nat}
theorem X4 (hp:p < 1024):((refK K G B P).drop (1088+p * 64)).take 64=byA (B p):=by
 rw [refK,Am4 (by omega)]
 unfold byA
 exact List.map_congr_left fun j hj=>AM4 hp (List.mem_range.1 hj)
theorem sys_rules {l:List Rl} {C H:Nat→Int} (h:o=67585):(sysB K M B (stA l C H))[o+0+0]? = some (.isl (l.map rlA)):=by
 show _[o]? = _
 have e:=BB6 (K:=K) (M:=M) (B:=B) h (Z6 (l:=l) (C:=C) (H:=H))
 have:=List.getElem?_take_of_lt (l:=(sysB K M B (stA l C H)).drop o) (i:=0) (j:=15) (by decide)
 rw [e,List.getElem?_drop,Nat.add_zero] at this
 rw [← this];rfl
theorem U7 {l:List Rl} {C H:Nat→Int} (h:o=66624):(refK K G B (stA l C H))[o+0+0]? = some (.isl (l.map rlA)):=by
 show _[o]? = _
 have e:=R8 (K:=K) (G:=G) (B:=B) h (Z6 (l:=l) (C:=C) (H:=H))
 have:=List.getElem?_take_of_lt (l:=(refK K G B (stA l C H)).drop o) (i:=0) (j:=15) (by decide)
 rw [e,List.getElem?_drop,Nat.add_zero] at this
 rw [← this];rfl
end
end Go.Pol
namespace Go.Pol
open Go.Am Go.Proofs.YtbhgfoikbkaohaaGreat.Sh
def O5 (a n pg sl:Int):Prop:=0≤a∧a < 1024∧1≤n∧n≤1024 - a∧1≤pg∧pg≤256∧0≤sl∧sl≤256
instance (a n pg sl:Int):Decidable (O5 a n pg sl):=by unfold O5;infer_instance
theorem Aj6:AV.agg (List.replicate 64 (.int .u8 0))=byE fun _=>0:=by
 unfold byE bcA
 congr 1
 refine List.ext_getElem? fun i=>?_
 by_cases h:i < 64
 ·rw [List.getElem?_replicate,if_pos h,M8 h]
 ·rw [List.getElem?_eq_none (by rw [List.length_replicate];omega),List.getElem?_eq_none (by rw [U0];omega)]
theorem Z4 {x:Nat→Int}:over (List.replicate 64 (AV.int .u8 0)) 0 (bcA x)=bcA x:=AZ8 (pre:=[]) (by rw [L8];rfl)
theorem mlook_d {l:List (Nat × AObj)} {i:Nat} {z:AV} {L:List (Int × (Nat→Int))} {k:Int} {x:Nat→Int} {K:AV→Up→List Nat→Prop} (hD:(match mgI L k with|some b=>b|none=>fun _=>0)=x) (hz:z=byE fun _=>0) (h1:lk l i=some (.maps (encW byE L))) (hk:K (byE x) [] [i]):Ah1 l false false [0] z (.mapr i) (.int .i64 k) K:=by
 cases hm:mgI L k with
 | none=>rw [hm] at hD;subst hD;subst hz;exact Am2 hm h1 hk
 | some b=>rw [hm] at hD;subst hD;exact AC4 hm h1 hk
theorem Am1 {l:List (Nat × AObj)} {i:Nat} {z:AV} {L:List (Int × (Nat→Int))} {k:Int} {K:AV→Up→List Nat→Prop} (hg:mgI L k=none) (hz:z=byE fun _=>0) (h1:lk l i=some (.maps (encW byE L))) (hk:K (.tup [byE fun _=>0,.bool false]) [] [i]):Ah1 l true false [0] z (.mapr i) (.int .i64 k) K:=by
 subst hz;exact AH5 hg h1 hk
end Go.Pol
namespace Go.Proofs.YtbhgfoikbkaohaaGreat.Sh
open Go Go.Am Go.Pol
theorem plx_Sxc {p:Prop} (h:p:=by ((first|exact plw|(with_reducible first|apply O7|apply N8 _|apply N9 _|apply M6 _|apply Y7|fail)|fail);first|done|fail)):p:=h
theorem ppx_Sxc {p:Prop} (h:p:=by ((first|with_reducible assumption|(with_reducible first|apply F7|apply E9|apply AC0|apply AB0|apply AN3|fail)|exact ppw|fail);first|done|fail)):p:=h
open Go.Proofs.YtbhgfoikbkaohaaGreat.Sh renaming plx_Sxc → plx
open Go.Proofs.YtbhgfoikbkaohaaGreat.Sh renaming ppx_Sxc → ppx
theorem wx_Sxc {p q:Prop} (hq:q) (h:Y3 q→p:=by (intro hQz;((repeat' ((try (conv=>whnf));first|refine sxA ?_|refine H8 (by rw [U0];omega) hset ?_|refine R4 (by rw [L8];omega) List.drop_zero (J7 (by rw [L8];omega) AG9 ?_)|refine ⟨L8,?_⟩|refine U4 (by simp only [L8];omega) (over_self _) ?_|refine C8 hxk ?_|refine sxF ?_|refine K3 (by assumption) rfl (by decide) ?_|refine K3 hws rfl (by decide) ?_|refine sxH ?_|((with_reducible first|apply U1 hQz|apply U2 hQz)<;>(try intro hsp hQz))|exact hQz.out))<;>(try (conv=>whnf))))):p:=h ⟨hq⟩
theorem O7:Plain (.tup []):=F6 fun x hx=>by cases hx
theorem Y7 {f:Nat→Int}:Plain (.agg (bcA f)):=G6 AB0
theorem Ai6 (a n pg sl:Int):J8 41 [.int .i64 a,.int .i64 n,.int .i64 pg,.int .i64 sl] (.bool (decide (O5 a n pg sl))):=by
 refine J8.mk (R9 G9 b41 J3 ⟨A8,A8,A8,A8,trivial⟩ D5 rfl ?_)
 unfold c41
 (refine wx_Sxc ?_;repeat' (first|with_reducible refine And.intro ?_ ?_|intro hsp))
 all_goals first|(exfalso;omega)|exact K6 (by first|exact decide_eq_decide.2 (by unfold O5;omega)|exact (decide_eq_true (show O5 a n pg sl by unfold O5;omega)).symm|exact (decide_eq_false (show ¬ O5 a n pg sl by unfold O5;omega)).symm)
section
variable {q:Sw} {t:WS}
theorem w_is:W9 46 [] q t (.bool true) q t:=by
 refine W9.mk (I8 G9 b46 rfl ?_) (fun x hx=>by cases hx) D5
 unfold c46
 unfold stN stC
 (refine wx_Sxc ?_;repeat' (first|with_reducible refine And.intro ?_ ?_|intro hsp))
 all_goals exact Y5 rfl D5 rfl rfl rfl rfl rfl
theorem BA9 (hp:q.pg≤256) (a now:Int):W9 64 [.int .i64 a,.int .i64 now] q t (.bool (decide (q.nums a now))) q t:=by
 refine W9.mk (I8 G9 b64 rfl ?_) (fun x hx=>by
  simp only [List.mem_cons,List.not_mem_nil,or_false] at hx
  rcases hx with rfl|rfl<;>exact A8) D5
 unfold c64
 unfold stN stC
 (refine wx_Sxc ?_;repeat' (first|with_reducible refine And.intro ?_ ?_|intro hsp))
 all_goals first|(exfalso;omega)|exact Y5 (by first|exact congrArg AV.bool (decide_eq_decide.2 (by unfold Sw.nums;omega))|exact congrArg AV.bool (decide_eq_true (show q.nums a now by unfold Sw.nums;omega)).symm|exact congrArg AV.bool (decide_eq_false (show ¬ q.nums a now by unfold Sw.nums;omega)).symm) D5 rfl rfl rfl rfl rfl
theorem w_get {f:Nat} (hf:f < 1024) (hk:q.s.K f=2):W9 97 [.int .i64 (f:Nat)] q t (.agg (bcA (q.s.B f))) q t:=by
 refine W9.mk (I8 G9 b97 rfl ?_) (fun x hx=>by obtain rfl:=List.mem_singleton.1 hx;exact A8) Y7
 unfold c97
 unfold stN stC
 rw [← rdK_0 (f:=q.s.B f)]
 (refine wx_Sxc ?_;repeat' (first|with_reducible refine And.intro ?_ ?_|intro hsp))
 (refine F9 [0,1,4] (fun (k:Nat)=>[(6,.int .i64 (k:Nat))]) (fun (k:Nat)=>⟨stN q t 0 1 2 3 4++[(5,.cells (memA 64 (rdK (q.s.B f) k)))],6⟩) (fun (k:Nat)=>k≤64) (fun (k:Nat)=>64 - k) (0) [] rfl (fun _=>by first|exact Nat.zero_le _|(dsimp only;omega)) ?_ (by ((try (conv=>whnf));exact AJ0)) ?_)
 ·exact Nat.zero_le _
 intro k hkk
 by_cases hkl:k < 64
 ·have c1:=p_read (s:=q.s) (a:=(f:Int) * 64+(k:Nat))
  rw [read_at hk hf hkl] at c1
  dsimp only at c1
  have hset:=rdK_s (f:=q.s.B f) hkl
  unfold stN stC
  generalize q.s.B f k=y at *
  (refine wx_Sxc ?_;repeat' (first|with_reducible refine And.intro ?_ ?_|intro hsp))
  all_goals exact D6 (k+1) [] (by (try dsimp only);omega) (by first|omega|(dsimp only;omega)) rfl (by exact AJ0)
 ·obtain rfl:k=64:=by omega
  rw [rdK_all]
  unfold stN stC
  (refine wx_Sxc ?_;repeat' (first|with_reducible refine And.intro ?_ ?_|intro hsp))
  all_goals exact Y5 rfl Y7 rfl rfl rfl rfl rfl
theorem w_set (hg:GoodS q.s) {f:Nat} (hf:f < 1024) (hk:q.s.K f=2) (x:Nat→Int):W9 94 [.int .i64 (f:Nat),.agg (bcA x)] q t (.tup []) { q with s:=q.s.page f x } t:=by
 refine W9.mk (I8 G9 b94 rfl ?_) (fun y hy=>by
  simp only [List.mem_cons,List.not_mem_nil,or_false] at hy
  rcases hy with rfl|rfl
  ·exact A8
  ·exact Y7) O7
 unfold c94
 unfold stN stC
 (refine wx_Sxc ?_;repeat' (first|with_reducible refine And.intro ?_ ?_|intro hsp))
 have hw0:=BI5 (s:=q.s) (f:=f) (x:=x)
 (refine F9 [0,1,8] (fun (k:Nat)=>[(9,.int .i64 (k:Nat))]) (fun (k:Nat)=>⟨stN { q with s:=wrK q.s f x k } t 0 1 2 3 4,5⟩) (fun (k:Nat)=>k≤64) (fun (k:Nat)=>64 - k) (0) [] rfl (fun _=>by first|exact Nat.zero_le _|(dsimp only;omega)) ?_ (by ((try (conv=>whnf));(rw [hw0]);exact AJ0)) ?_)
 ·exact Nat.zero_le _
 intro k hkk
 by_cases hkl:k < 64
 ·have hws:=p_write (s:=wrK q.s f x k) (a:=(f:Int) * 64+(k:Nat)) (b:=x k)
  rw [BI4 hk hf hkl] at hws
  dsimp only at hws
  have hxk:(bcA x)[k]? = some (.int .u8 (x k)):=M8 hkl
  unfold stN stC
  dsimp only
  (refine wx_Sxc ?_;repeat' (first|with_reducible refine And.intro ?_ ?_|intro hsp))
  all_goals exact D6 (k+1) [] (by (try dsimp only);omega) (by first|omega|(dsimp only;omega)) rfl (by exact AJ0)
 ·obtain rfl:k=64:=by omega
  rw [AV4 hg]
  unfold stN stC
  dsimp only
  (refine wx_Sxc ?_;repeat' (first|with_reducible refine And.intro ?_ ?_|intro hsp))
  all_goals exact Y5 (q:={ q with s:=q.s.page f x }) rfl O7 rfl rfl rfl rfl rfl
end
end Go.Proofs.YtbhgfoikbkaohaaGreat.Sh
namespace Go.Pol
open Go.Am Go.Proofs.YtbhgfoikbkaohaaGreat.Sh
def opA (o:Option Nat):Int:=match o with|some f=>(f:Nat)|none=>-1
theorem Ax0 {a n i:Nat} {p:Nat→Bool} (hi:i < n) (h1:∀ j,j < i→p (a+j)=false) (h2:p (a+i)=true):(List.range' a n).find? p=some (a+i):=by
 rw [range_cut (Nat.le_of_lt hi),List.find?_append,List.find?_eq_none.2 fun f hf=>by
  obtain ⟨k,hk,rfl⟩:=List.mem_range'.1 hf
  rw [Nat.one_mul,h1 k hk];exact Bool.false_ne_true]
 obtain ⟨m,hm⟩:∃ m,n - i=m+1:=⟨n - i - 1,by omega⟩
 rw [hm,List.range'_succ,List.find?_cons,h2]
 rfl
theorem Aw9 {a n:Nat} {p:Nat→Bool} (h:∀ j,j < n→p (a+j)=false):(List.range' a n).find? p=none:=List.find?_eq_none.2 fun f hf=>by
 obtain ⟨k,hk,rfl⟩:=List.mem_range'.1 hf
 rw [Nat.one_mul,h k hk];exact Bool.false_ne_true
theorem held_H {w:Sw} {t:WS} (h:WOk w t) (hg:F5 w) {f:Nat}:(mgI t.H (f:Nat)).isSome=decide (w.heldF f):=by
 by_cases hh:w.heldF f
 ·obtain ⟨p,hp,hF⟩:=hh
  rw [(h.gH (f:Nat) (p:Nat)).2 ⟨by omega,by omega,by rw [Int.toNat_natCast];exact hF⟩,decide_eq_true (show w.heldF f from ⟨p,hp,hF⟩)];rfl
 ·rw [decide_eq_false hh]
  cases hm:mgI t.H (f:Nat) with
  | none=>rfl
  | some p =>
   obtain ⟨h1,h2,h3⟩:=(h.gH (f:Nat) p).1 hm
   exact absurd ⟨p.toNat,AL5 hg (by omega),h3⟩ hh
theorem held_D {w:Sw} {t:WS} (h:WOk w t) {k:Nat}:(mgI t.D (k:Nat)).isSome=decide (w.heldT k):=by
 rw [h.gD]
 by_cases hh:w.heldT k
 ·rw [decide_eq_true hh,if_pos ⟨by omega,by rw [Int.toNat_natCast];exact hh⟩];rfl
 ·rw [decide_eq_false hh,if_neg fun h2=>hh (by rw [Int.toNat_natCast] at h2;exact h2.2)];rfl
end Go.Pol
namespace Go.Proofs.YtbhgfoikbkaohaaGreat.Sh
open Go Go.Am Go.Pol
open Go.Proofs.YtbhgfoikbkaohaaGreat.Sh renaming plx_Sxc → plx
open Go.Proofs.YtbhgfoikbkaohaaGreat.Sh renaming ppx_Sxc → ppx
theorem wx_Sxd {p q:Prop} (hq:q) (h:Y3 q→p:=by (intro hQz;((repeat' ((try (conv=>whnf));first|refine sxA ?_|refine AC5 hp rfl ?_|refine AH5 hp rfl ?_|refine ⟨L8,?_⟩|refine U4 (by simp only [List.length_replicate,L8];omega) hov ?_|refine Am1 hp Aj6 rfl ?_|refine sxF ?_|(refine AF1 G9 b92 rfl ?_;unfold c92)|(refine AF1 G9 b91 rfl ?_;unfold c91)|(refine AF1 G9 b96 rfl ?_;unfold c96)|refine sxH ?_|((with_reducible first|apply U1 hQz|apply U2 hQz)<;>(try intro hsp hQz))|exact hQz.out))<;>(try (conv=>whnf))))):p:=h ⟨hq⟩
section
variable {q:Sw} {t:WS}
structure LocL (q:Sw) (t:WS):Prop where
 out:Ab5 Tryz.prog G0 91 [.int .i64 (q.a:Nat),.int .i64 ((q.a:Int)+(q.n:Nat)),.fn 92 [] [.ptr 5 0]] (stN q t 0 1 2 3 4++[(5,.cells [.ptr 0 0])]) 6 fun x h1=>x = .int .i64 (opA q.free)∧h1=⟨stN q t 0 1 2 3 4++[(5,.cells [.ptr 0 0])],6⟩
theorem end_L {top:Bool} {h:Hp} {N0:Nat} {x r:AV} (hx:x=r) (hp:Plain r) (g0:lk h.l 0=some (.cells (stC 4 1 2 3 q))) (g1:lk h.l 1=some (.maps (encW pgE t.W))) (g2:lk h.l 2=some (.maps (encW byE t.D))) (g3:lk h.l 3=some (.maps (encW nuE t.H))) (g4:lk h.l 4=some (.cells q.s.a)) (g5:lk h.l 5=some (.cells [.ptr 0 0])) (hN0:N0≤6:=by decide) :
  AV3 top Tryz.prog N0 h x (fun r' h'=>r'=r∧h'=⟨stN q t 0 1 2 3 4++[(5,.cells [.ptr 0 0])],6⟩):=by
 subst hx
 have hs:AL9 (rn []) h ⟨stN q t 0 1 2 3 4++[(5,.cells [.ptr 0 0])],6⟩:=fun i o hi=>by
  simp only [stN,List.cons_append,List.nil_append,lk] at hi
  show ∃ o',lk h.l i=some o'
  split at hi
  ·rename_i e;subst e;exact ⟨_,g0⟩
  ·split at hi
   ·rename_i e;subst e;exact ⟨_,g1⟩
   ·split at hi
    ·rename_i e;subst e;exact ⟨_,g2⟩
    ·split at hi
     ·rename_i e;subst e;exact ⟨_,g3⟩
     ·split at hi
      ·rename_i e;subst e;exact ⟨_,g4⟩
      ·split at hi
       ·rename_i e;subst e;exact ⟨_,g5⟩
       ·cases hi
 refine AE8 [] rfl hN0 (R7 rfl) (X0 hs hp) ?_ ⟨rfl,rfl⟩
 exact wko_st (o':=0) (w':=1) (d':=2) (m':=3) (s':=4) hs rfl rfl rfl rfl rfl ⟨show 0 < 6 by decide,show 1 < 6 by decide,show 2 < 6 by decide,show 3 < 6 by decide,show 4 < 6 by decide⟩ g0 g1 g2 g3 g4 (U6 (show 5 < 6 by decide) g5 (C9 (u7 (i:=0) rfl (show 0 < 6 by decide)) M4) J5)
theorem w_free (hg:F5 q) (h:WOk q t):LocL q t:=by
 have hrng:=hg.rng
 refine LocL.mk (I8 G9 b91 rfl ?_)
 unfold c91
 unfold stN stC
 (refine wx_Sxd ?_;repeat' (first|with_reducible refine And.intro ?_ ?_|intro hsp))
 (refine F9 [0,1,2] (fun (i:Nat)=>[(7,.int .i64 ((q.a+i:Nat):Int))]) (fun (i:Nat)=>⟨stN q t 0 1 2 3 4++[(5,.cells [.ptr 0 0])],6⟩) (fun (i:Nat)=>i≤q.n∧∀ j,j < i→q.heldF (q.a+j)) (fun (i:Nat)=>q.n - i) (0) [] rfl (fun _=>by first|exact Nat.zero_le _|(dsimp only;omega)) ?_ (by ((try (conv=>whnf));exact AJ0)) ?_)
 ·exact ⟨Nat.zero_le _,fun j hj=>absurd hj (Nat.not_lt_zero _)⟩
 intro i hi
 obtain ⟨hi,hall⟩:=hi
 by_cases hil:i < q.n
 ·have hhd:=held_H h hg (f:=q.a+i)
  by_cases hh:q.heldF (q.a+i)
  ·have hnext:i+1≤q.n∧∀ j,j < i+1→q.heldF (q.a+j):=⟨hil,fun j hj=>by
    by_cases e:j=i
    ·rw [e];exact hh
    ·exact hall j (by omega)⟩
   rw [decide_eq_true hh] at hhd
   obtain ⟨p,hp⟩:=Option.isSome_iff_exists.1 hhd
   have ea:((q.a+i:Nat):Int)=(q.a:Int)+(i:Nat):=by omega
   unfold stN stC
   (refine wx_Sxd ?_;repeat' (first|with_reducible refine And.intro ?_ ?_|intro hsp))
   all_goals first|(exfalso;omega)|exact D6 (i+1) [] hnext (by first|omega|(dsimp only;omega)) rfl (by exact AJ0)
  ·have hfr:q.free=some (q.a+i):=Ax0 hil (fun j hj=>by rw [decide_eq_false_iff_not];exact fun h2=>h2 (hall j hj)) (decide_eq_true hh)
   rw [decide_eq_false hh] at hhd
   have hp:mgI t.H ((q.a+i:Nat):Int)=none:=Option.not_isSome_iff_eq_none.1 (by rw [hhd];exact Bool.false_ne_true)
   rw [hfr]
   unfold stN stC
   (refine wx_Sxd ?_;repeat' (first|with_reducible refine And.intro ?_ ?_|intro hsp))
   all_goals first|(exfalso;omega)|exact end_L rfl A8 rfl rfl rfl rfl rfl rfl
 ·obtain rfl:i=q.n:=by omega
  have hfr:q.free=none:=Aw9 fun j hj=>by rw [decide_eq_false_iff_not];exact fun h2=>h2 (hall j hj)
  rw [hfr]
  unfold stN stC
  (refine wx_Sxd ?_;repeat' (first|with_reducible refine And.intro ?_ ?_|intro hsp))
  all_goals first|(exfalso;omega)|exact end_L rfl A8 rfl rfl rfl rfl rfl rfl
set_option maxRecDepth 20000 in
theorem w_slot (h:WOk q t) (hsl6:q.sl≤256) (g:Int):W9 68 [.int .i64 g] q t (.int .i64 (opA (q.slot g))) q t:=by
 refine W9.mk (I8 G9 b68 rfl ?_) (fun x hx=>by obtain rfl:=List.mem_singleton.1 hx;exact A8) A8
 unfold c68
 unfold stN stC
 (refine wx_Sxd ?_;repeat' (first|with_reducible refine And.intro ?_ ?_|intro hsp))
 (refine F9 [0,1,2] (fun (i:Nat)=>[(7,.int .i64 (i:Nat))]) (fun (i:Nat)=>⟨stN q t 0 1 2 3 4++[(5,.cells [.ptr 0 0]),(6,.cells [.int .i64 g])],7⟩) (fun (i:Nat)=>i≤q.sl∧∀ j,j < i→¬ (((j:Nat):Int)=g∨¬ q.heldT j)) (fun (i:Nat)=>q.sl - i) (0) [] rfl (fun _=>by first|exact Nat.zero_le _|(dsimp only;omega)) ?_ (by ((try (conv=>whnf));exact AJ0)) ?_)
 ·exact ⟨Nat.zero_le _,fun j hj=>absurd hj (Nat.not_lt_zero _)⟩
 intro i hi
 obtain ⟨hi,hall⟩:=hi
 by_cases hil:i < q.sl
 ·have hhd:=held_D h (k:=i)
  by_cases hh:q.heldT i
  ·rw [decide_eq_true hh] at hhd
   obtain ⟨b,hp⟩:=Option.isSome_iff_exists.1 hhd
   have hov:=Z4 (x:=b)
   by_cases hg:((i:Nat):Int)=g
   ·have hsl:q.slot g=some i:=by
     have:=Ax0 (a:=0) (n:=q.sl) (p:=fun k=>decide (((k:Nat):Int)=g∨¬ q.heldT k)) hil (fun j hj=>by rw [Nat.zero_add,decide_eq_false_iff_not];exact hall j hj) (by rw [Nat.zero_add];exact decide_eq_true (.inl hg))
     rw [Nat.zero_add] at this
     unfold Sw.slot
     rw [List.range_eq_range'];exact this
    rw [hsl]
    unfold stN stC
    (refine wx_Sxd ?_;repeat' (first|with_reducible refine And.intro ?_ ?_|intro hsp))
    all_goals first|(exfalso;omega)|exact Y5 rfl A8 rfl rfl rfl rfl rfl
   ·have hnext:i+1≤q.sl∧∀ j,j < i+1→¬ (((j:Nat):Int)=g∨¬ q.heldT j):=⟨hil,fun j hj=>by
     by_cases e:j=i
     ·rw [e];exact fun h2=>h2.elim hg fun h3=>h3 hh
     ·exact hall j (by omega)⟩
    unfold stN stC
    (refine wx_Sxd ?_;repeat' (first|with_reducible refine And.intro ?_ ?_|intro hsp))
    all_goals first|(exfalso;omega)|exact D6 (i+1) [] hnext (by first|omega|(dsimp only;omega)) rfl (by exact AJ0)
  ·have hsl:q.slot g=some i:=by
    have:=Ax0 (a:=0) (n:=q.sl) (p:=fun k=>decide (((k:Nat):Int)=g∨¬ q.heldT k)) hil (fun j hj=>by rw [Nat.zero_add,decide_eq_false_iff_not];exact hall j hj) (by rw [Nat.zero_add];exact decide_eq_true (.inr hh))
    rw [Nat.zero_add] at this
    unfold Sw.slot
    rw [List.range_eq_range'];exact this
   rw [decide_eq_false hh] at hhd
   have hp:mgI t.D (i:Nat)=none:=Option.not_isSome_iff_eq_none.1 (by rw [hhd];exact Bool.false_ne_true)
   have hov:=Z4 (x:=fun _=>0)
   rw [hsl]
   unfold stN stC
   (refine wx_Sxd ?_;repeat' (first|with_reducible refine And.intro ?_ ?_|intro hsp))
   all_goals first|(exfalso;omega)|exact Y5 rfl A8 rfl rfl rfl rfl rfl
 ·obtain rfl:i=q.sl:=by omega
  have hsl:q.slot g=none:=by
   have:=Aw9 (a:=0) (n:=q.sl) (p:=fun k=>decide (((k:Nat):Int)=g∨¬ q.heldT k)) fun j hj=>by rw [Nat.zero_add,decide_eq_false_iff_not];exact hall j hj
   unfold Sw.slot
   rw [List.range_eq_range'];exact this
  rw [hsl]
  unfold stN stC
  (refine wx_Sxd ?_;repeat' (first|with_reducible refine And.intro ?_ ?_|intro hsp))
  all_goals first|(exfalso;omega)|exact Y5 rfl A8 rfl rfl rfl rfl rfl
end
end Go.Proofs.YtbhgfoikbkaohaaGreat.Sh
namespace Go.Am
open Go.Sort
section
variable {P:Program} {G:Gl}
theorem ext_more {c:Cx} {w':World} (hR:Rel P c) (hs:c.w.heap.size≤w'.heap.size) (ho:∀ b,b < c.w.heap.size→w'.heap[b]? = c.w.heap[b]?) (he:w'.os=c.w.os∧w'.tape=c.w.tape∧w'.output=c.w.output):Ext c (c.wd w')∧Rel P (c.wd w'):=by
 have k:Kept c w'.heap.size w':=⟨hs,fun b hb _=>ho b hb,fun h=>by omega,fun id o hi h=>by have:=(hR.obj id o hi).lt;omega,he⟩
 have e:=k.extR hR
 refine ⟨⟨e.used,e.mu,e.csz,fun b hb=>e.froz b (by have:=hb.lt;omega) hb,e.size,e.hid,fun b hb=>e.hidh b (by have:=hR.hidlt b hb;omega) hb,e.env⟩,k.rel hR⟩
theorem loc_sort {f n:Nat} {zs S:List Int} (hok:fnOk P f=true) (hn:zs.length=n) (hS:zs.mergeSort (fun x y=>decide (x≤y))=S) (hz:n < 4611686018427387904)
  (hc:∀ (blk off cap:Nat) (w:World),Holds (Value.int .i64) w blk off zs.toArray→blk < w.heap.size→Calls P f #[.slice (some ⟨blk,off,none⟩) zs.length cap] w fun e w'=>e = .returned (.tuple #[])∧∃ n os,w'=grow (putRow (Value.int .i64) (Sort.ahead w n) blk off (zs.mergeSort fun x y=>decide (x≤y)).toArray) os) :
  Ab5 P G f [.sl 0 0 n n 1] [(0,.cells (zs.map (AV.int .i64)))] 1 fun x h=>x = .tup []∧h=⟨[(0,.cells (S.map (AV.int .i64)))],1⟩:=by
 refine ⟨hok,fun c vs hR hG hm ha=>?_⟩
 obtain ⟨v,hv⟩:∃ v,vs = #[v]:=by
  have:=ha.1
  match vs,this with
  | ⟨[v]⟩,_=>exact ⟨v,rfl⟩
 subst hv
 obtain ⟨u,hu,hx⟩:=ha.2 0 _ rfl
 have hu':u=v:=by simpa using hu.symm
 subst hu'
 obtain ⟨hU,hlt,cap,hval,h1,h2,h3,h4⟩:=AK9.1 hx
 have hat:c.at_ 0=some (.cells (zs.map (AV.int .i64))):=by rw [hm.at_];simp [lk]
 obtain ⟨a,T,hb,hcs⟩:=hR.obj 0 _ hat
 obtain ⟨blk,hblk⟩:∃ blk,blk=(c.mu 0).1:=⟨_,rfl⟩
 obtain ⟨off,hoff⟩:∃ off,off=(c.mu 0).2:=⟨_,rfl⟩
 rw [Nat.add_zero] at hval
 rw [← hblk] at hb hlt hval
 rw [← hoff] at hcs hval
 have hcell:∀ j z,zs[j]? = some z→a[off+j]? = some (.int .i64 z):=fun j z hj=>by
  obtain ⟨u,h5,h6,_⟩:=hcs j (.int .i64 z) (by rw [List.getElem?_map,hj];rfl)
  rw [RR_int.1 h6] at h5;exact h5
 have hH:Holds (Value.int .i64) c.w blk off zs.toArray:=fun j hj=>by
  have hj':j < zs.length:=by simpa using hj
  have h5:=hcell j zs[j] (List.getElem?_eq_getElem hj')
  refine ⟨?_,by simp [World.frozen?,hb]⟩
  simp only [World.cell?,hb,Option.isSome_none,Bool.false_eq_true,if_false,h5]
  simp [hj']
 rw [hval,← hn]
 refine (hc blk off cap c.w hH hlt).mono ?_
 rintro e w' ⟨rfl,m,os,rfl⟩
 rw [hS]
 have hSl:S.length=zs.length:=by rw [← hS];exact List.length_mergeSort _
 obtain ⟨w1,hw1⟩:∃ w1,w1=putRow (Value.int .i64) (Sort.ahead c.w m) blk off S.toArray:=⟨_,rfl⟩
 rw [← hw1]
 have hb1:w1.heap[blk]? = some (.cells (putCells (Value.int .i64) off S.toArray a) T (0,0)):=by
  rw [hw1]
  show (c.w.heap.modify blk _)[blk]? = _
  rw [Array.getElem?_modify,if_pos rfl,hb];rfl
 have ho1:∀ b,b ≠ blk→w1.heap[b]? = c.w.heap[b]?:=fun b hne=>by
  rw [hw1]
  show (c.w.heap.modify blk _)[b]? = _
  rw [Array.getElem?_modify,if_neg (Ne.symm hne)]
 have hs1:w1.heap.size=c.w.heap.size:=by rw [hw1];simp [putRow,mapBlock,Sort.ahead]
 have hcs1:csize w1 (c.mu 0).1=csize c.w (c.mu 0).1:=by
  rw [← hblk]
  simp only [csize,hb,hb1]
  simp [putCells]
 have henv:w1.os=c.w.os∧w1.tape=c.w.tape∧w1.output=c.w.output:=by rw [hw1];exact ⟨rfl,rfl,rfl⟩
 have e1:=BN5 (o2:=.cells (S.map (AV.int .i64))) hR hat (fun b hne=>ho1 b (by rw [hblk];exact hne)) hcs1 hs1 henv
 have r1:=rel_wrO (o2:=.cells (S.map (AV.int .i64))) hR hat (fun b hne=>ho1 b (by rw [hblk];exact hne)) hcs1 hs1 henv ⟨_,T,by rw [← hblk];exact hb1,fun j x hj=>by
  rw [List.getElem?_map] at hj
  cases h5:S[j]? with
  | none=>rw [h5] at hj;cases hj
  | some z =>
   rw [h5] at hj;cases hj
   have hjl:=(List.getElem?_eq_some_iff.1 h5).1
   have h6:=hcell j (zs[j]'(by omega)) (List.getElem?_eq_getElem _)
   have hal:off+j < a.size:=(Array.getElem?_eq_some_iff.1 h6).1
   refine ⟨.int .i64 z,?_,RR_int.2 rfl,fun _ e=>(by cases e),fun _ e=>(by cases e)⟩
   rw [← hoff]
   show (putCells (Value.int .i64) off S.toArray a)[off+j]? = _
   unfold putCells
   rw [Array.getElem?_mapIdx,Array.getElem?_eq_getElem hal,Option.map_some,if_pos ⟨by omega,by simp;omega⟩]
   have h7:S.toArray[off+j - off]! = z:=by
    rw [Nat.add_sub_cancel_left,getElem!_pos _ _ (by simpa using hjl)]
    have:=(List.getElem?_eq_some_iff.1 h5).2
    simpa using this
   rw [h7]⟩
 obtain ⟨e2,r2⟩:=ext_more (w':=grow w1 os) r1 (by show w1.heap.size≤(w1.heap++os).size;simp) (fun b hb'=>by
  have hb2:b < w1.heap.size:=hb'
  show (w1.heap++os)[b]? = w1.heap[b]?
  rw [Array.getElem?_append,if_pos hb2]) ⟨rfl,rfl,rfl⟩
 refine ⟨_,rfl,.tup [],⟨[(0,.cells (S.map (AV.int .i64)))],1⟩,_,rfl,⟨rfl,rfl⟩,AH3.2 ⟨#[],rfl,rfl,fun j x hx=>by simp at hx⟩,r2,⟨?_,hm.U⟩,e1.trans e2⟩
 funext j
 show upd c.at_ [(0,some (.cells (S.map (AV.int .i64))))] j=lk [(0,.cells (S.map (AV.int .i64)))] j
 rw [upd1,hm.at_]
 by_cases e:j=0
 ·subst e;simp [lk]
 ·simp [lk,e]
@[irreducible] def kyC (vis:List Int) (n:Nat):List AV:=vis.map (AV.int .i64)++List.replicate (n - vis.length) (.int .i64 0)
theorem kyC_len {vis:List Int} {n:Nat} (h:vis.length≤n):(kyC vis n).length=n:=by unfold kyC;simp;omega
theorem kyC_0 {n:Nat}:(List.replicate n [AV.int .i64 0]).flatten=kyC [] n:=by unfold kyC;rw [List.flatten_replicate_singleton];simp
theorem kyC_s {vis:List Int} {n:Nat} {k:Int} (h:vis.length < n):over (kyC vis n) (vis.length * 1) [.int .i64 k]=kyC (vis++[k]) n:=by
 unfold kyC
 show ((vis.map (AV.int .i64)++List.replicate (n - vis.length) (AV.int .i64 0)).set (vis.length * 1) (.int .i64 k))=_
 rw [Nat.mul_one,List.set_append_right _ _ (by simp),List.length_map,Nat.sub_self]
 obtain ⟨q,hq⟩:∃ q,n - vis.length=q+1:=⟨n - vis.length - 1,by omega⟩
 rw [hq,List.replicate_succ,List.set_cons_zero,List.map_append,List.append_assoc]
 congr 1
 rw [List.length_append]
 show _=[AV.int .i64 k]++_
 rw [show n - (vis.length + [k].length)=q by simp;omega]
 rfl
theorem kyC_s0 {vis:List Int} {n:Nat} {k:Int} (h:vis.length < n):over (kyC vis n) (0+vis.length * 1) [.int .i64 k]=kyC (vis++[k]) n:=by rw [Nat.zero_add];exact kyC_s h
theorem BM5 {vis:List Int} {n:Nat} (h:vis.length=n):kyC vis n=vis.map (AV.int .i64):=by unfold kyC;rw [h,Nat.sub_self];simp
theorem AN3 {vis:List Int} {n:Nat}:∀ x ∈ kyC vis n,Plain x:=fun x hx=>by
 unfold kyC at hx
 rcases List.mem_append.1 hx with h|h
 ·obtain ⟨_,_,rfl⟩:=List.mem_map.1 h;exact A8
 ·rw [(List.mem_replicate.1 h).2];exact A8
theorem BX1 {l:List (Nat × AObj)} {nx bytes d n:Nat} {vis:List Int} {k:Int} {x:AV} {rd:List Nat} {K:AV→Up→Prop} (hs:Av0 (lk l) 1 x=some ([.int .i64 k],1,rd)) (hd:lk l d=some (.cells (kyC vis n))) (hl:vis.length < n) (hk:K (.sl d 0 (vis.length+1) n 1) [(d,some (.cells (kyC (vis++[k]) n)))]):AppSX l nx 1 bytes (.sl d 0 vis.length n 1) x K :=
 AS5 (by rw [appV_in hs hd (by omega) (by rw [kyC_len (by omega)];omega),kyC_s0 hl]) hk
theorem Am9 {α:Type} [DecidableEq α]:∀ {a b:List α},a.Nodup→(∀ x ∈ a,x ∈ b)→a.length≤b.length
 | [],_,_,_=>Nat.zero_le _
 | x::r,b,hn,h=>by
  have hn':=List.nodup_cons.1 hn
  have hx:=h x (List.mem_cons_self ..)
  have ih:=Am9 (b:=b.erase x) hn'.2 fun y hy=>(List.mem_erase_of_ne (fun e:y=x=>hn'.1 (e▸hy))).2 (h y (List.mem_cons_of_mem _ hy))
  have hl:=List.length_erase_of_mem hx
  have hp:=List.length_pos_of_mem hx
  rw [List.length_cons];omega
structure LocSo (P:Program) (G:Gl) (f n:Nat) (zs S:List Int):Prop where
 out:Ab5 P G f [.sl 0 0 n n 1] [(0,.cells (zs.map (AV.int .i64)))] 1 fun x h=>x = .tup []∧h=⟨[(0,.cells (S.map (AV.int .i64)))],1⟩
theorem At1 {l:List Int}:∀ x ∈ l.map (AV.int .i64),Plain x:=fun x hx=>by
 obtain ⟨_,_,rfl⟩:=List.mem_map.1 hx;exact A8
theorem cx_so {f n d nx:Nat} {zs S:List Int} {l:List (Nat × AObj)} {K:AV→Hp→Prop} (hG:Ab4 G) (hc:LocSo P G f n zs S) (h0:lk l d=some (.cells (zs.map (AV.int .i64)))) (hlt:d < nx) (hk:AP4 [d] l fun l2=>K (.tup []) ⟨([(d,.cells (S.map (AV.int .i64)))]:List (Nat × AObj))++l2,nx⟩):AN4 P G (.fn f [] []) [.sl d 0 n n 1] ⟨l,nx⟩ K:=by
 have e0:enter [d] d 0:=rfl
 have k0:back [d] nx 0 d:=rfl
 refine AS3 (r':=.tup []) (l1:=[(d,.cells (S.map (AV.int .i64)))]) [d] hc.out hG rfl (.cons e0 h0 (D8 At1) .nil) ?_ (by intro x hx;simp only [List.mem_cons,List.not_mem_nil,or_false] at hx;omega) (G5 (F6 fun x hx=>by cases hx)) (.cons k0 (D8 At1) .nil) hk
 simp only [List.nil_append,List.append_nil]
 exact ⟨rn_sl e0,trivial⟩
end
end Go.Am
namespace Go.Proofs.YtbhgfoikbkaohaaGreat.Sh
open Go Go.Am
def cKs0:ACode:=.reg [⟨some 7,.load false 1 (.t 1),none⟩,⟨some 8,.mlen (.t 7),none⟩,⟨some 9,.mks 1 8 [.int .i64 0] (.k (.int .i64 0)) (.t 8),none⟩,⟨some 3,.mv (.t 9),none⟩]
def cKs4:ACode:=.reg [⟨some 16,.mv (.t 3),none⟩,⟨some 17,.mv (.t 4),none⟩,⟨some 18,.bslice 1 1 [.int .i64 0] [(0,1,.t 17)],none⟩,⟨some 19,.append 1 8 (.t 16) (.t 18),none⟩,⟨some 3,.mv (.t 19),none⟩]
def cKsR (z:AV):ACode:=.seq (.reg [⟨some 22,.mv (.t 3),none⟩,⟨some 23,.len (.t 22),none⟩,⟨some 24,.mv (.k (.int .i64 0)),none⟩]) (.block 2 (.loop (.seq (.reg [⟨some 25,.bin .lss (.t 24) (.t 23),none⟩]) (.seq (.cond (.t 25) .skip (.exit 2)) (.seq (.block 3 (.seq (.reg [⟨some 26,.iaddrS 1 (.t 22) (.t 24),none⟩,⟨some 27,.load false 1 (.t 26),none⟩,⟨some 6,.mv (.t 27),none⟩])
 (.seq (.reg [⟨some 28,.mv (.t 0),none⟩,⟨some 29,.mv (.t 6),none⟩,⟨some 30,.load false 1 (.t 1),none⟩,⟨some 31,.mv (.t 6),none⟩,⟨some 32,.mlook false false [0] z (.t 30) (.t 31),none⟩,⟨some 33,.call (.t 28) [.t 29,.t 32],none⟩,⟨some 34,.un .not (.t 33),none⟩]) (.cond (.t 34) .ret .skip)))) (.reg [⟨some 35,.bin .add (.t 24) (.k (.int .i64 1)),none⟩,⟨some 24,.mv (.t 35),none⟩]))))))
def cKs1 (z:AV):ACode:=.seq (.reg [⟨some 20,.mv (.t 3),none⟩,⟨some 21,.call (.k (.fn 81 [] [])) [.t 20],none⟩]) (cKsR z)
theorem bS_page:BodyS Tryz.prog 80 cKs0 1 10 11 12 13 14 15 4 cKs4 (cKs1 (.agg [.int .i64 0,.int .i64 0,.int .i64 0])) [] 36 :=
 ⟨by kernel_rfl,_,_,_,_,Tryz.func80,rfl,by kernel_rfl,⟨_,_,_,_,_,_,_,_,_,_,_,_,_,_,_,_,_,rfl,⟨rfl,rfl,rfl⟩,⟨rfl,rfl,rfl⟩,⟨rfl,rfl,rfl⟩,⟨rfl,rfl,rfl⟩,⟨rfl,rfl,rfl⟩,⟨rfl,rfl,rfl⟩,⟨rfl,rfl,rfl⟩,Tryz.underlying113,by kernel_rfl,by kernel_rfl⟩,by kernel_rfl,by kernel_rfl,rfl⟩
theorem bS_bytes:BodyS Tryz.prog 82 cKs0 1 10 11 12 13 14 15 4 cKs4 (cKs1 (.agg (List.replicate 64 (.int .u8 0)))) [] 36 :=
 ⟨by kernel_rfl,_,_,_,_,Tryz.func82,rfl,by kernel_rfl,⟨_,_,_,_,_,_,_,_,_,_,_,_,_,_,_,_,_,rfl,⟨rfl,rfl,rfl⟩,⟨rfl,rfl,rfl⟩,⟨rfl,rfl,rfl⟩,⟨rfl,rfl,rfl⟩,⟨rfl,rfl,rfl⟩,⟨rfl,rfl,rfl⟩,⟨rfl,rfl,rfl⟩,Tryz.underlying114,by kernel_rfl,by kernel_rfl⟩,by kernel_rfl,by kernel_rfl,rfl⟩
end Go.Proofs.YtbhgfoikbkaohaaGreat.Sh
namespace Go.Proofs.YtbhgfoikbkaohaaGreat.Sh
open Go Go.Am Go.Pol
def sort_ren:Go.Shelf.Ren:=⟨fun|189=>81|125=>106|257=>105|128=>122|129=>123|294=>113|295=>114|296=>115|297=>116|298=>117|299=>118|216=>119|300=>120|301=>121|328=>128|329=>129|330=>130|331=>131|332=>132|215=>133|343=>137|n=>n,fun|28=>48|3=>3|46=>184|0=>0|51=>199|53=>201|4=>4|183=>192|182=>191|131=>124|5=>5|9=>9|218=>203|222=>157|228=>209|229=>210|n=>n,fun|n=>n⟩
theorem sort_lays:Go.Proofs.Lays.n189 Tryz.prog sort_ren:={ mixed:=by kernel_rfl,f125:=Tryz.func106.trans (congrArg some (by kernel_rfl)),f128:=Tryz.func122.trans (congrArg some (by kernel_rfl)),f129:=Tryz.func123.trans (congrArg some (by kernel_rfl)),f189:=Tryz.func81.trans (congrArg some (by kernel_rfl)),f215:=Tryz.func133.trans (congrArg some (by kernel_rfl)),f216:=Tryz.func119.trans (congrArg some (by kernel_rfl)),f257:=Tryz.func105.trans (congrArg some (by kernel_rfl)),f294:=Tryz.func113.trans (congrArg some (by kernel_rfl)),f295:=Tryz.func114.trans (congrArg some (by kernel_rfl)),f296:=Tryz.func115.trans (congrArg some (by kernel_rfl)),f297:=Tryz.func116.trans (congrArg some (by kernel_rfl)),f298:=Tryz.func117.trans (congrArg some (by kernel_rfl)),f299:=Tryz.func118.trans (congrArg some (by kernel_rfl)),f300:=Tryz.func120.trans (congrArg some (by kernel_rfl)),f301:=Tryz.func121.trans (congrArg some (by kernel_rfl)),f328:=Tryz.func128.trans (congrArg some (by kernel_rfl)),f329:=Tryz.func129.trans (congrArg some (by kernel_rfl)),f330:=Tryz.func130.trans (congrArg some (by kernel_rfl)),f331:=Tryz.func131.trans (congrArg some (by kernel_rfl)),f332:=Tryz.func132.trans (congrArg some (by kernel_rfl)),f343:=Tryz.func137.trans (congrArg some (by kernel_rfl)),t0:=Tryz.underlying0,a0:=Tryz.isAgg0,z0:=Tryz.sizeOf0,v0:=Tryz.zeroValue0,t3:=Tryz.underlying3,a3:=Tryz.isAgg3,z3:=Tryz.sizeOf3,v3:=Tryz.zeroValue3,t4:=Tryz.underlying4,a4:=Tryz.isAgg4,z4:=Tryz.sizeOf4,v4:=Tryz.zeroValue4,t5:=Tryz.underlying5,a5:=Tryz.isAgg5,z5:=Tryz.sizeOf5,v5:=Tryz.zeroValue5,t9:=Tryz.underlying9,a9:=Tryz.isAgg9,z9:=Tryz.sizeOf9,v9:=Tryz.zeroValue9,t28:=Tryz.underlying48,a28:=Tryz.isAgg48,z28:=Tryz.sizeOf48,v28:=Tryz.zeroValue48,t46:=Tryz.underlying184,a46:=Tryz.isAgg184,z46:=Tryz.sizeOf184,v46:=Tryz.zeroValue184,t51:=Tryz.underlying199,a51:=Tryz.isAgg199,z51:=Tryz.sizeOf199,v51:=Tryz.zeroValue199,t53:=Tryz.underlying201,a53:=Tryz.isAgg201,z53:=Tryz.sizeOf201,v53:=Tryz.zeroValue201,t131:=Tryz.underlying124,a131:=Tryz.isAgg124,z131:=Tryz.sizeOf124,v131:=Tryz.zeroValue124,t182:=Tryz.underlying191,a182:=Tryz.isAgg191,z182:=Tryz.sizeOf191,v182:=Tryz.zeroValue191,t183:=Tryz.underlying192,a183:=Tryz.isAgg192,z183:=Tryz.sizeOf192,v183:=Tryz.zeroValue192,t218:=Tryz.underlying203,a218:=Tryz.isAgg203,z218:=Tryz.sizeOf203,v218:=Tryz.zeroValue203,t222:=Tryz.underlying157,a222:=Tryz.isAgg157,z222:=Tryz.sizeOf157,v222:=Tryz.zeroValue157,t228:=Tryz.underlying209,a228:=Tryz.isAgg209,z228:=Tryz.sizeOf209,v228:=Tryz.zeroValue209,t229:=Tryz.underlying210,a229:=Tryz.isAgg210,z229:=Tryz.sizeOf210,v229:=Tryz.zeroValue210 }
theorem so_ok {n:Nat} {zs S:List Int} (hn:zs.length=n) (hp:zs.Perm S) (hs:S.Pairwise (· < ·)) (hz:n≤1000):LocSo Tryz.prog G0 81 n zs S :=
 ⟨loc_sort (by kernel_rfl) hn (sort_is hp hs) (by omega) fun blk off cap w hH hb=>calls_of_every_depth fun D=>AnyS.slices_Sort_int_in sort_lays D blk off cap zs w hH hb (by omega)⟩
end Go.Proofs.YtbhgfoikbkaohaaGreat.Sh
namespace Go.Pol
open Go.Am Go.Proofs.YtbhgfoikbkaohaaGreat.Sh
def Sw.pages (w:Sw):List Nat:=(List.range w.pg).filter fun p=>decide (w.is p)
def vst (w:Sw) (o:Option Nat) (p:Nat):Option Nat:=if 0≤w.F p then (match o with
  | none=>some p
  | some b=>if w.Z p < w.Z b then some p else some b) else o
theorem BB0 (w:Sw):∀ m,w.vicN m=(List.range m).foldl (vst w) none
 | 0=>rfl
 | m+1=>by
  rw [List.range_succ,List.foldl_append,← BB0 w m]
  rfl
theorem Aw6 {w:Sw}:∀ (l:List Nat) (o:Option Nat),(l.filter fun p=>decide (w.is p)).foldl (vst w) o=l.foldl (vst w) o
 | [],o=>rfl
 | p::l,o=>by
  by_cases h:w.is p
  ·rw [List.filter_cons_of_pos (by simpa using h),List.foldl_cons,List.foldl_cons,Aw6 l]
  ·rw [List.filter_cons_of_neg (by simpa using h),List.foldl_cons,Aw6 l]
   have : vst w o p=o:=if_neg fun h2=>h (.inl h2)
   rw [this]
theorem vic_fold (w:Sw):w.vic=w.pages.foldl (vst w) none:=by unfold Sw.vic Sw.pages;rw [BB0,Aw6]
def Az8 (w:Sw) (j:Nat):Option Nat:=(w.pages.take j).foldl (vst w) none
theorem vicT_0 {w:Sw}:opA (Az8 w 0) = -1:=rfl
theorem vicT_s {w:Sw} {j:Nat} (h:j < w.pages.length):Az8 w (j+1)=vst w (Az8 w j) (nth 0 w.pages j):=by
 unfold Az8;rw [AS8 (d:=0) h,List.foldl_append];rfl
theorem vicT_all {w:Sw}:Az8 w w.pages.length=w.vic:=by rw [vic_fold];unfold Az8;rw [List.take_length]
theorem vst_in {w:Sw} (hz:∀ p,¬ w.is p→¬ 0≤w.F p) {b:Nat}:∀ (l:List Nat) (o:Option Nat),l.foldl (vst w) o=some b→(o=some b)∨(b ∈ l∧0≤w.F b)
 | [],o,h=>.inl h
 | p::l,o,h=>by
  rcases vst_in hz l _ h with h2 | ⟨h2,h3⟩
  ·unfold vst at h2
   split at h2
   ·rename_i hF
    split at h2
    ·cases h2;exact .inr ⟨List.mem_cons_self ..,hF⟩
    ·split at h2
     ·cases h2;exact .inr ⟨List.mem_cons_self ..,hF⟩
     ·cases h2;exact .inl rfl
   ·exact .inl h2
  ·exact .inr ⟨List.mem_cons_of_mem _ h2,h3⟩
theorem AC2 {w:Sw} (hg:F5 w) {p:Nat}:p ∈ w.pages ↔ w.is p:=by
 unfold Sw.pages
 rw [List.mem_filter,decide_eq_true_eq,List.mem_range]
 exact ⟨fun h=>h.2,fun h=>⟨h.elim (AL5 hg) (AT7 hg),h⟩⟩
theorem BS3 {w:Sw}:w.pages.Nodup:=List.nodup_range.filter _
theorem Ai0 {w:Sw}:w.pages.Pairwise (· < ·):=List.pairwise_lt_range.filter _
structure WW (w:Sw) (L:List (Int × Int × Int × Int)):Prop where
 nd:ndI L
 gW:∀ p:Int,mgI L p=if 0≤p∧w.is p.toNat then some (w.F p.toNat,w.T p.toNat,w.Z p.toNat) else none
theorem WOk.ww {w:Sw} {t:WS} (h:WOk w t):WW w t.W:=⟨h.ndW,h.gW⟩
theorem AM7 {w:Sw} {t:WS} (hg:F5 w) (h:WW w t.W):(t.W.map (·.1)).Perm (w.pages.map fun p=>((p:Nat):Int)):=by
 refine (List.perm_ext_iff_of_nodup h.nd ?_).2 fun k=>?_
 ·exact List.Pairwise.map (R:=fun a b=>a ≠ b) _ (fun a b hab e=>hab (by omega)) BS3
 ·rw [Am3,List.mem_map]
  constructor
  ·rintro ⟨v,hv⟩
   rw [h.gW] at hv
   split at hv
   ·rename_i hk
    exact ⟨k.toNat,(AC2 hg).2 hk.2,by omega⟩
   ·cases hv
  ·rintro ⟨p,hp,rfl⟩
   exact ⟨_,by rw [h.gW,if_pos ⟨by omega,by rw [Int.toNat_natCast];exact (AC2 hg).1 hp⟩]⟩
theorem BD7 {w:Sw}:(w.pages.map fun p=>((p:Nat):Int)).Pairwise (· < ·):=List.Pairwise.map (R:=fun a b=>a < b) _ (fun a b hab=>by omega) Ai0
theorem Aa4 {w:Sw} {t:WS} (h:WW w t.W) {p:Nat} (hp:w.is p):mgI t.W (p:Nat)=some (w.F p,w.T p,w.Z p):=by
 rw [h.gW,if_pos ⟨by omega,by rw [Int.toNat_natCast];exact hp⟩,Int.toNat_natCast]
theorem gW_no {w:Sw} {t:WS} (h:WW w t.W) {p:Nat} (hp:¬ w.is p):mgI t.W (p:Nat)=none:=by
 rw [h.gW,if_neg fun h2=>hp (by rw [Int.toNat_natCast] at h2;exact h2.2)]
end Go.Pol
namespace Go.Proofs.YtbhgfoikbkaohaaGreat.Sh
open Go Go.Am Go.Pol
open Go.Proofs.YtbhgfoikbkaohaaGreat.Sh renaming plx_Sxc → plx
open Go.Proofs.YtbhgfoikbkaohaaGreat.Sh renaming ppx_Sxc → ppx
theorem wx_Sxe {p q:Prop} (hq:q) (h:Y3 q→p:=by (intro hQz;((repeat' ((try (conv=>whnf));first|(with_reducible first|refine P6 ?_|refine K4 ?_|refine P9 ?_|refine Q5 ?_|refine K9 ?_|refine U9 ?_|refine O9 ?_|refine U8 rfl ?_|refine P5 ?_|refine I5 ?_|refine K7 ?_|refine K8 ?_|refine Q0 ?_|refine I4 ?_|refine K5 (by decide +kernel) ?_|refine J6 (by decide +kernel) ?_|refine AG2 ?_|refine AG3 ?_|refine Aj5 ?_|refine r9 ?_|refine AI4 ?_|refine Ag9 (by assumption) ?_|refine Ah0 (by assumption) ?_|refine p9 (by omega) ?_|refine AI2 ?_)|((with_reducible refine AI5 ?_ ?_);focus omega)|((with_reducible refine AI6 ?_ ?_);focus omega)|((with_reducible apply U1 hQz)<;>(try intro hsp hQz))|((with_reducible refine Aj3 ?_ ?_);focus (first|omega|rfl|assumption|decide|(simp only [List.length_map,List.length_cons,List.length_nil];omega)|exact hmk))|refine AE7 (hmk) ?_|(with_reducible first|refine AH9 ?_|refine p8 ?_|refine o9 ?_|refine AI1 ?_|refine AI0 ?_|refine AH7 ?_|refine Aj0 ?_|refine I6 ?_|refine l9 ?_|refine P8 ?_|refine P7 ?_|refine I7 ?_|refine AH8 (by omega) ?_|refine o8 (by omega) ?_)|refine BT3 rfl ?_|refine BX1 rfl rfl (by omega) ?_|refine C8 hS ?_|refine AC4 hgp rfl ?_|refine AC4 hgb rfl ?_|refine sxF ?_|refine cx_so J3 hs rfl (by decide) ?_|refine Ay4 G9 rfl hF hA hB rfl ?_|(refine AF1 G9 b47 rfl ?_;unfold c47)|refine sxH ?_|((with_reducible apply U2 hQz)<;>(try intro hsp hQz))|exact hQz.out))<;>(try (conv=>whnf))))):p:=h ⟨hq⟩
section
variable {q:Sw} {t:WS}
theorem As5 (hg:F5 q) {j:Nat} (hj:j < q.pages.length):q.is (nth 0 q.pages j):=(AC2 hg).1 (AE5 hj)
theorem pgI_at {j:Nat} (hj:j < q.pages.length):((q.pages.map fun p=>((p:Nat):Int)).map (AV.int .i64))[j]? = some (.int .i64 ((nth 0 q.pages j:Nat):Int)):=by
 rw [I9 hj,List.getElem?_map,List.getElem?_map,List.getElem?_eq_getElem hj];rfl
theorem w_victim (hg:F5 q) (h:WW q t.W):W9 87 [] q t (.int .i64 (opA q.vic)) q t:=by
 have hwl:t.W.length≤256:=by
  have:=(AM7 hg h).length_eq
  rw [List.length_map,List.length_map] at this
  have h2:q.pages.length≤q.pg:=Nat.le_trans (List.length_filter_le ..) (by rw [List.length_range];exact Nat.le_refl _)
  have:=hg.rng;omega
 have hpl:t.W.length=q.pages.length:=by
  have:=(AM7 hg h).length_eq
  rwa [List.length_map,List.length_map] at this
 have hmk:=kyC_0 (n:=t.W.length)
 refine W9.mk (I8 G9 b87 rfl ?_) (fun x hx=>by cases hx) A8
 unfold c87
 unfold stN stC
 (refine wx_Sxe ?_;repeat' (first|with_reducible refine And.intro ?_ ?_|intro hsp))
 refine BK5 G9 bS_page rfl trivial ?_
 intro frl asl bdl hF hA hB
 unfold cKs0
 (refine wx_Sxe ?_;repeat' (first|with_reducible refine And.intro ?_ ?_|intro hsp))
 refine KeysX.mk fun ck hck=>keys_w G9 hck (i:=1) (it:=10) (pb:=7) (po:=0) (cs:=[]) (ks:=t.W.map (·.1)) [] (fun vis=>[(0,.yld 8),(1,.ptr 7 0),(3,.sl 9 0 vis.length t.W.length 1)]) (fun vis=>[(0,.cells (stC 4 1 2 3 q)),(2,.maps (encW byE t.D)),(3,.maps (encW nuE t.H)),(4,.cells q.s.a),(5,.cells [.ptr 0 0]),(6,.cells [.int .i64 (-1)]),(7,.cells [.mapr 1]),(8,.loop .ready none frl [11,12] asl bdl),(9,.cells (kyC vis t.W.length))]) Ay0 h.nd rfl rfl rfl (.inr ⟨_,rfl⟩) rfl (by decide) (by decide) rfl (fun _=>rfl) rfl (fun _=>rfl) ?_ ?_ ?_
 ·exact AJ0
 ·intro vis k hnd hsub
  have hl1:vis.length < t.W.length:=by
   have:=Am9 hnd hsub
   rw [List.length_append,List.length_map] at this
   exact this
  unfold cKs4
  (refine wx_Sxe ?_;repeat' (first|with_reducible refine And.intro ?_ ?_|intro hsp))
  refine ⟨[],rfl,?_⟩
  rw [show (vis++[k]).length=vis.length+1 by simp]
  exact AJ0
 ·intro vis hperm
  have hlen:vis.length=t.W.length:=by rw [hperm.length_eq,List.length_map]
  have hs:=so_ok hlen (hperm.trans (AM7 hg h)) BD7 (by omega)
  rw [BM5 hlen,hlen]
  unfold cKs1
  unfold cKsR
  (refine wx_Sxe ?_;repeat' (first|with_reducible refine And.intro ?_ ?_|intro hsp))
  rw [hpl]
  have hv0:=vicT_0 (w:=q)
  (refine F9 [0,1,22,23] (fun (j:Nat)=>[(24,.int .i64 (j:Nat))]) (fun (j:Nat)=>⟨stN q t 0 1 2 3 4++[(5,.cells [.ptr 0 0]),(6,.cells [.int .i64 (opA (Az8 q j))]),(7,.cells [.mapr 1]),(8,.loop .ready none frl [11,12] asl bdl),(9,.cells ((q.pages.map fun p=>((p:Nat):Int)).map (AV.int .i64)))],11⟩) (fun (j:Nat)=>j≤q.pages.length) (fun (j:Nat)=>q.pages.length - j) (0) [] rfl (fun _=>by first|exact Nat.zero_le _|(dsimp only;omega)) ?_ (by ((try (conv=>whnf));(rw [hv0]);exact AJ0)) ?_)
  ·exact Nat.zero_le _
  intro j hj
  by_cases hjl:j < q.pages.length
  ·have hip:=As5 hg hjl
   have hS:=pgI_at hjl
   have hvs:=vicT_s hjl
   generalize nth 0 q.pages j=p at *
   have hgp:=Aa4 h hip
   by_cases hF0:0≤q.F p
   ·rcases (show Az8 q j=none∨∃ b,Az8 q j=some b by cases Az8 q j<;>simp) with hv | ⟨b,hv⟩
    ·have hy:opA (Az8 q j) = -1:=by rw [hv];rfl
     have hnx:opA (Az8 q (j+1))=(p:Nat):=by rw [hvs,hv];unfold vst;rw [if_pos hF0];rfl
     rw [hy]
     unfold stN stC
     (refine wx_Sxe ?_;repeat' (first|with_reducible refine And.intro ?_ ?_|intro hsp))
     all_goals first|(exfalso;omega)|exact D6 (j+1) [] (by (try dsimp only);omega) (by first|omega|(dsimp only;omega)) rfl (by ((try dsimp only);rw [hnx]);exact AJ0)
    ·have hy:opA (Az8 q j)=(b:Nat):=by rw [hv];rfl
     have hb:0≤q.F b:=by
      rcases vst_in (w:=q) (fun p hp h2=>hp (.inl h2)) _ _ hv with h2 | ⟨_,h2⟩
      ·cases h2
      ·exact h2
     have hgb:=Aa4 h (p:=b) (.inl hb)
     by_cases hz:q.Z p < q.Z b
     ·have hnx:opA (Az8 q (j+1))=(p:Nat):=by rw [hvs,hv];unfold vst;rw [if_pos hF0];dsimp only;rw [if_pos hz];rfl
      rw [hy]
      unfold stN stC
      (refine wx_Sxe ?_;repeat' (first|with_reducible refine And.intro ?_ ?_|intro hsp))
      all_goals first|(exfalso;omega)|exact D6 (j+1) [] (by (try dsimp only);omega) (by first|omega|(dsimp only;omega)) rfl (by ((try dsimp only);rw [hnx]);exact AJ0)
     ·have hnx:opA (Az8 q (j+1))=(b:Nat):=by rw [hvs,hv];unfold vst;rw [if_pos hF0];dsimp only;rw [if_neg hz];rfl
      rw [hy]
      unfold stN stC
      (refine wx_Sxe ?_;repeat' (first|with_reducible refine And.intro ?_ ?_|intro hsp))
      all_goals first|(exfalso;omega)|exact D6 (j+1) [] (by (try dsimp only);omega) (by first|omega|(dsimp only;omega)) rfl (by ((try dsimp only);rw [hnx]);exact AJ0)
   ·have hnx:opA (Az8 q (j+1))=opA (Az8 q j):=by rw [hvs];unfold vst;rw [if_neg hF0]
    generalize opA (Az8 q j)=y at *
    unfold stN stC
    (refine wx_Sxe ?_;repeat' (first|with_reducible refine And.intro ?_ ?_|intro hsp))
    all_goals first|(exfalso;omega)|exact D6 (j+1) [] (by (try dsimp only);omega) (by first|omega|(dsimp only;omega)) rfl (by ((try dsimp only);rw [hnx]);exact AJ0)
  ·obtain rfl:j=q.pages.length:=by omega
   rw [vicT_all]
   unfold stN stC
   (refine wx_Sxe ?_;repeat' (first|with_reducible refine And.intro ?_ ?_|intro hsp))
   all_goals first|(exfalso;omega)|exact Y5 rfl A8 rfl rfl rfl rfl rfl
end
end Go.Proofs.YtbhgfoikbkaohaaGreat.Sh
