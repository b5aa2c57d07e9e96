/-
 The state of a store.
 A store is made.
 far,alone.
 A store stays one;the example.
 Calls with a nil plan;acts.
 The example.
 SwapVictims.
 Save of the program.
 Equal states are the same;SwapKeeps.
-/
import Derived.Test.YtbhgfoikbkaohaaQap
set_option linter.unusedSimpArgs false
set_option linter.unusedVariables false
set_option maxHeartbeats 12800000
namespace Go.Pol
open Go.Am Go.Proofs.Ytbhgfoikbkaohaa.Sh
def swA (x:Int × Int × Int × Int):List AV:=[.int .i64 x.1,.int .i64 x.2.1,.int .i64 x.2.2.1,.int .i64 x.2.2.2]
def swD (x:Int × (Nat→Int)):List AV:=.int .i64 x.1::bcA x.2
theorem Aj2 (x:Int × Int × Int × Int):(swA x).length=4:=rfl
theorem AO4 (x:Int × (Nat→Int)):(swD x).length=65:=by unfold swD;rw [List.length_cons,X7]
theorem Q7 (x:Int × Int × Int × Int):∀ y ∈ swA x,Plain y:=fun y hy=>by
 simp only [swA,List.mem_cons,List.not_mem_nil,or_false] at hy
 rcases hy with rfl|rfl|rfl|rfl<;>exact A8
theorem AB2 (x:Int × (Nat→Int)):∀ y ∈ swD x,Plain y:=fun y hy=>by
 rcases List.mem_cons.1 hy with rfl|hy
 ·exact A8
 ·exact AD2 y hy
def whE (w:Sw) (p:Nat):Int × Int × Int × Int:=((p:Nat),w.F p,w.T p,w.Z p)
def dkE (w:Sw) (k:Nat):Int × (Nat→Int):=((k:Nat),w.D k)
def Sw.slots (w:Sw):List Nat:=(List.range w.sl).filter fun k=>decide (w.heldT k)
def Sw.whr (w:Sw):List (Int × Int × Int × Int):=w.pages.map (whE w)
def Sw.dsk (w:Sw):List (Int × (Nat→Int)):=w.slots.map (dkE w)
section
variable {w:Sw} {t:WS}
theorem whr_0:w.whr.take 0=[]:=rfl
theorem dsk_0:w.dsk.take 0=[]:=rfl
theorem whr_s {j:Nat} (h:j < w.pages.length):w.whr.take (j+1)=w.whr.take j++[whE w (nth 0 w.pages j)]:=by
 unfold Sw.whr
 rw [← List.map_take,← List.map_take,AX6 (d:=0) h,List.map_append];rfl
theorem dsk_s {j:Nat} (h:j < w.slots.length):w.dsk.take (j+1)=w.dsk.take j++[dkE w (nth 0 w.slots j)]:=by
 unfold Sw.dsk
 rw [← List.map_take,← List.map_take,AX6 (d:=0) h,List.map_append];rfl
theorem Ai8:w.whr.take w.pages.length=w.whr:=by unfold Sw.whr;rw [← List.map_take,List.take_length]
theorem dsk_all:w.dsk.take w.slots.length=w.dsk:=by unfold Sw.dsk;rw [← List.map_take,List.take_length]
theorem AD3:w.whr.length=w.pages.length:=List.length_map ..
theorem AU4:w.dsk.length=w.slots.length:=List.length_map ..
theorem BQ0 {α:Type} {l:List α} {j:Nat}:(l.take j).length≤l.length:=by rw [List.length_take];omega
theorem AI0 (hg:D7 w) {k:Nat}:k ∈ w.slots ↔ w.heldT k:=by
 unfold Sw.slots
 rw [List.mem_filter,decide_eq_true_eq,List.mem_range]
 refine ⟨fun h=>h.2,fun h=>⟨?_,h⟩⟩
 obtain ⟨p,hp,hT⟩:=h
 rcases hg.sl p with h1 | ⟨_,k2,h2,h3⟩
 ·omega
 ·omega
theorem BD3:w.slots.Pairwise (· < ·):=List.pairwise_lt_range.filter _
theorem BR8:(w.slots.map fun p=>((p:Nat):Int)).Pairwise (· < ·):=List.Pairwise.map (R:=fun a b=>a < b) _ (fun a b hab=>by omega) BD3
theorem Af5 (hg:D7 w) (h:WOk w t):(t.D.map (·.1)).Perm (w.slots.map fun p=>((p:Nat):Int)):=by
 refine (List.perm_ext_iff_of_nodup h.ndD ?_).2 fun k=>?_
 ·exact List.Pairwise.map (R:=fun a b=>a ≠ b) _ (fun a b hab e=>hab (by omega)) (List.nodup_range.filter _:w.slots.Nodup)
 ·rw [AS9,List.mem_map]
  constructor
  ·rintro ⟨v,hv⟩
   rw [h.gD] at hv
   split at hv
   ·rename_i hk
    exact ⟨k.toNat,(AI0 hg).2 hk.2,by omega⟩
   ·cases hv
  ·rintro ⟨p,hp,rfl⟩
   obtain ⟨p2,_,hT⟩:=(AI0 hg).1 hp
   exact ⟨_,AN4 hg h hT⟩
theorem gD_at (hg:D7 w) (h:WOk w t) {k:Nat} (hk:w.heldT k):mgI t.D (k:Nat)=some (w.D k):=by
 obtain ⟨p2,_,hT⟩:=hk
 exact AN4 hg h hT
theorem Aa6 (hg:D7 w):w.slots.length≤256:=by
 have h2:w.slots.length≤w.sl:=Nat.le_trans (List.length_filter_le ..) (by rw [List.length_range];exact Nat.le_refl _)
 have:=hg.rng;omega
theorem Ar1 (hg:D7 w):w.pages.length≤256:=by
 have h2:w.pages.length≤w.pg:=Nat.le_trans (List.length_filter_le ..) (by rw [List.length_range];exact Nat.le_refl _)
 have:=hg.rng;omega
def BK2 (a n pg sl:Int) (W:List (Int × Int × Int × Int)) (D:List (Int × (Nat→Int))) (i o:Int):List AV:=[.int .i64 a,.int .i64 n,.int .i64 pg,.int .i64 sl,.isl (W.map swA),.isl (D.map swD),.int .i64 i,.int .i64 o]
def Sw.save (w:Sw):List AV:=BK2 (w.a:Nat) (w.n:Nat) (w.pg:Nat) (w.sl:Nat) w.whr w.dsk w.ins w.outs
theorem V3 {a n pg sl:Int} {W:List (Int × Int × Int × Int)} {D:List (Int × (Nat→Int))} {i o:Int}:∀ x ∈ BK2 a n pg sl W D i o,Plain x:=fun x hx=>by
 simp only [BK2,List.mem_cons,List.not_mem_nil,or_false] at hx
 rcases hx with rfl|rfl|rfl|rfl|rfl|rfl|rfl|rfl
 ·exact A8
 ·exact A8
 ·exact A8
 ·exact A8
 ·exact F9 Q7
 ·exact F9 AB2
 ·exact A8
 ·exact A8
theorem Aq4 {a b c d e f:Int}:Plain (.agg [.int .i64 a,.int .i64 b,.int .i64 c,.int .i64 d,.nils,.nils,.int .i64 e,.int .i64 f]):=H9 fun x hx=>by
 simp only [List.mem_cons,List.not_mem_nil,or_false] at hx
 rcases hx with rfl|rfl|rfl|rfl|rfl|rfl|rfl|rfl<;>first|exact A8|exact V4
theorem not_of {σ:Nat→Nat} {l:List (Nat × AObj)} {d:Nat} (h:∀ q ∈ l,σ q.1 ≠ d):∀ j o,lk l j=some o→σ j ≠ d:=fun j o hj=>by
 induction l with
 | nil=>cases hj
 | cons q l ih =>
  simp only [lk] at hj
  split at hj
  ·rename_i e;subst e;exact h q (List.mem_cons_self ..)
  ·exact ih (fun q hq=>h q (List.mem_cons_of_mem _ hq)) hj
end
end Go.Pol
namespace Go.Proofs.Ytbhgfoikbkaohaa.Sh
open Go Go.Am Go.Pol
theorem plx_Sxl {p:Prop} (h:p:=by ((first|exact plw|(with_reducible first|apply P7|apply G6 _|apply G7 _|apply G5 _|apply u6|apply F9 Q7|apply F9 AB2|apply V4|apply Aq4|fail)|fail);first|done|fail)):p:=h
open Go.Proofs.Ytbhgfoikbkaohaa.Sh renaming plx_Sxl → plx
open Go.Proofs.Ytbhgfoikbkaohaa.Sh renaming ppx_Sxc → ppx
theorem wx_Sxl {p q:Prop} (hq:q) (h:Z7 q→p:=by (intro hQz;((repeat' ((try (conv=>whnf));first|(with_reducible first|refine M7 ?_|refine I8 ?_|refine O1 ?_|refine O5 ?_|refine J5 ?_|refine R3 ?_|refine M5 ?_|refine Q9 rfl ?_|refine M6 ?_|refine G9 ?_|refine J3 ?_|refine J4 ?_|refine O4 ?_|refine G8 ?_|refine I9 (by decide +kernel) ?_|refine I6 (by decide +kernel) ?_|refine AH0 ?_|refine AH1 ?_|refine Av0 ?_|refine l6 ?_|refine AK3 ?_|refine An2 (by assumption) ?_|refine An3 (by assumption) ?_|refine l5 (by omega) ?_|refine AK1 ?_)|((with_reducible refine AK4 ?_ ?_);focus omega)|((with_reducible refine AK5 ?_ ?_);focus omega)|((with_reducible apply U8 hQz)<;>(try intro hsp hQz))|((with_reducible refine Au7 ?_ ?_);focus (first|omega|rfl|assumption|decide|(simp only [List.length_map,List.length_cons,List.length_nil];omega)|exact hmk|exact hmk2|(simp only [List.length_cons];omega)))|refine AH5 (hmk) ?_|refine AH5 (hmk2) ?_|(with_reducible first|refine AJ7 ?_|refine j6 ?_|refine j5 ?_|refine AJ9 ?_|refine AJ8 ?_|refine AJ5 ?_|refine At7 ?_|refine H7 ?_|refine d9 ?_|refine N7 ?_|refine M9 ?_|refine H8 ?_|refine AJ6 (by omega) ?_|refine j4 (by omega) ?_)|refine BF7 rfl ?_|refine BI9 rfl rfl (by omega) ?_|refine L9 hS ?_|refine Z9 hgp rfl ?_|refine mlook_by hgd hy rfl ?_|refine AA1 (by omega) List.drop_zero (Z4 (by omega) (y_take hyl) ?_)|refine ⟨hyl,?_⟩|refine u7 (by first|(simp only [List.length_replicate];omega)|fail) (over_y hyl) ?_|refine u7 (by first|(simp only [List.length_cons,List.length_nil];omega)|fail) (BV3 hyl) ?_|refine sxF ?_|refine cx_so I7 hs rfl (by decide) ?_|refine Am4 F6 rfl hF hA hB rfl ?_|refine BI8 (f:=swA) (l2:=[(((p:Nat):Int),q.F p,q.T p,q.Z p)]) Aj2 (BD2 rfl (by first|rfl|(simp;done)|(simp [*];done))) (fun hz=>by first|(simp [lk,AW6,AT3 hz,l8 hz];done)|rfl) (fun hz=>by first|(simp [lk,AW6,BW2,lk_tN hz,BW3 hz];done)|rfl) (by first|rfl|(simp [flat,swA];done)|(simp [flat,swA, *];done)) (by decide) ⟨by omega,by omega⟩ rfl ?_|((with_reducible apply appx_q hQz);intro hQa hQb;refine BI7 (f:=swA) (l2:=[(((p:Nat):Int),q.F p,q.T p,q.Z p)]) Aj2 (BD2 rfl (by first|rfl|(simp;done)|(simp [*];done))) (fun hz=>by first|(simp [lk,AW6,AT3 hz,l8 hz];done)|rfl) (by first|rfl|(simp [flat,swA];done)|(simp [flat,swA, *];done)) (by decide) ⟨by omega,by omega⟩ ?_ ?_<;>intro hzz<;>first|(have hQz:=Z7.mk (hQa.out hzz))|(have hQz:=Z7.mk (hQb.out hzz)))|refine Am4 F6 rfl hF2 hA2 hB2 rfl ?_|refine BI8 (f:=swD) (l2:=[(((p:Nat):Int),q.D p)]) AO4 (BD2 rfl (by first|rfl|(simp;done)|(simp [*];done))) (fun hz=>by first|(simp [lk,AW6,AT3 hz,l8 hz];done)|rfl) (fun hz=>by first|(simp [lk,AW6,BW2,lk_tN hz,BW3 hz];done)|rfl) (by first|rfl|(simp [flat,swD];done)|(simp [flat,swD, *];done)) (by decide) ⟨by omega,by omega⟩ rfl ?_|((with_reducible apply appx_q hQz);intro hQa hQb;refine BI7 (f:=swD) (l2:=[(((p:Nat):Int),q.D p)]) AO4 (BD2 rfl (by first|rfl|(simp;done)|(simp [*];done))) (fun hz=>by first|(simp [lk,AW6,AT3 hz,l8 hz];done)|rfl) (by first|rfl|(simp [flat,swD];done)|(simp [flat,swD, *];done)) (by decide) ⟨by omega,by omega⟩ ?_ ?_<;>intro hzz<;>first|(have hQz:=Z7.mk (hQa.out hzz))|(have hQz:=Z7.mk (hQb.out hzz)))|refine AM8 w_is rfl rfl rfl rfl rfl (by decide) rfl ?_|(refine AC3 F6 b34 rfl ?_;unfold c34)|(refine AC3 F6 b35 rfl ?_;unfold c35)|refine sxH ?_|((with_reducible apply U9 hQz)<;>(try intro hsp hQz))|exact hQz.out))<;>(try (conv=>whnf))))):p:=h ⟨hq⟩
section
variable {q:Sw} {t:WS}
theorem mlook_by {l:List (Nat × AObj)} {i:Nat} {z:AV} {L:List (Int × (Nat→Int))} {k:Int} {b:Nat→Int} {y:List AV} {K:AV→Up→List Nat→Prop} (hg:mgI L k=some b) (hy:bcA b=y) (h1:lk l i=some (.maps (encW byE L))) (hk:K (.agg y) [] [i]):AX0 l false false [0] z (.mapr i) (.int .i64 k) K:=by
 subst hy;exact Z9 hg h1 hk
theorem slI_at {j:Nat} (hj:j < q.slots.length):((q.slots.map fun p=>((p:Nat):Int)).map (AV.int .i64))[j]? = some (.int .i64 ((nth 0 q.slots j:Nat):Int)):=by
 rw [J8 hj,List.getElem?_map,List.getElem?_map,List.getElem?_eq_getElem hj];rfl
theorem nth_isT (hg:D7 q) {j:Nat} (hj:j < q.slots.length):q.heldT (nth 0 q.slots j):=(AI0 hg).1 (AG0 hj)
set_option maxRecDepth 20000 in
theorem w_Save (hg:D7 q) (h:WOk q t):L8 14 [] q t (.agg q.save) q t:=by
 have hpl1:=Ar1 hg
 have hpl2:=Aa6 hg
 have hwl:t.W.length=q.pages.length:=by
  have:=(AE8 hg h.ww).length_eq
  rwa [List.length_map,List.length_map] at this
 have hdl:t.D.length=q.slots.length:=by
  have:=(Af5 hg h).length_eq
  rwa [List.length_map,List.length_map] at this
 have hndW:(t.W.map (·.1)).Nodup:=h.ndW
 have hndD:(t.D.map (·.1)).Nodup:=h.ndD
 have hmk:=kyC_0 (n:=t.W.length)
 have hmk2:=kyC_0 (n:=t.D.length)
 refine L8.mk (H6 F6 b14 rfl ?_) (fun x hx=>by cases hx) (H9 V3)
 unfold c14
 unfold stN stC
 (refine wx_Sxl ?_;repeat' (first|with_reducible refine And.intro ?_ ?_|intro hsp))
 refine Ax9 F6 bS_page rfl trivial ?_
 intro frl asl bdl hF hA hB
 unfold cKs0
 (refine wx_Sxl ?_;repeat' (first|with_reducible refine And.intro ?_ ?_|intro hsp))
 refine KeysX.mk fun ck hck=>BW9 F6 hck (i:=1) (it:=36) (pb:=33) (po:=0) (cs:=[]) (ks:=t.W.map (·.1)) [] (fun vis=>[(0,.yld 34),(1,.ptr 33 0),(3,.sl 35 0 vis.length t.W.length 1)]) (fun vis=>[(0,.cells (stC 4 1 2 3 q)),(2,.maps (encW byE t.D)),(3,.maps (encW nuE t.H)),(4,.cells q.s.a),(5,.cells [.int .i64 0,.int .i64 0,.int .i64 0,.int .i64 0,.nils,.nils,.int .i64 0,.int .i64 0]),(31,.cells [.int .i64 (q.a:Nat),.int .i64 (q.n:Nat),.int .i64 (q.pg:Nat),.int .i64 (q.sl:Nat),.nils,.nils,.int .i64 q.ins,.int .i64 q.outs]),(33,.cells [.mapr 1]),(34,.loop .ready none frl [42,43] asl bdl),(35,.cells (kyC vis t.W.length))]) Am2 hndW rfl rfl rfl (.inr ⟨_,rfl⟩) rfl (by decide) (by decide) rfl (fun _=>rfl) rfl (fun _=>rfl) ?_ ?_ ?_
 ·exact wkxQ3
 ·intro vis k hnd hsub
  have hl1:vis.length < t.W.length:=by
   have:=Ak9 hnd hsub
   rw [List.length_append,List.length_map] at this
   exact this
  unfold cKs4
  (refine wx_Sxl ?_;repeat' (first|with_reducible refine And.intro ?_ ?_|intro hsp))
  refine ⟨[],rfl,?_⟩
  rw [show (vis++[k]).length=vis.length+1 by simp]
  exact wkxQ3
 ·intro vis hperm
  have hlen:vis.length=t.W.length:=by rw [hperm.length_eq,List.length_map]
  have hs:=so_ok hlen (hperm.trans (AE8 hg h.ww)) Ar0 (by omega)
  rw [Az5 hlen,hlen]
  unfold cKs1
  unfold cKsR
  (refine wx_Sxl ?_;repeat' (first|with_reducible refine And.intro ?_ ?_|intro hsp))
  rw [hwl]
  have hw0:=whr_0 (w:=q)
  (refine Q5 [0,1,22,23] (fun (j:Nat)=>[(24,.int .i64 (j:Nat))]) (fun (j:Nat)=>⟨stN q t 0 1 2 3 4++[(5,.cells [.int .i64 0,.int .i64 0,.int .i64 0,.int .i64 0,.nils,.nils,.int .i64 0,.int .i64 0]),(31,.cells [.int .i64 (q.a:Nat),.int .i64 (q.n:Nat),.int .i64 (q.pg:Nat),.int .i64 (q.sl:Nat),Ao4 37 4 (q.whr.take j).length,.nils,.int .i64 q.ins,.int .i64 q.outs]),(33,.cells [.mapr 1]),(34,.loop .ready none frl [42,43] asl bdl),(35,.cells ((q.pages.map fun p=>((p:Nat):Int)).map (AV.int .i64)))]++AY1 37 swA (q.whr.take j),38⟩) (fun (j:Nat)=>j≤q.pages.length) (fun (j:Nat)=>q.pages.length - j) (0) [] rfl (fun _=>by first|exact Nat.zero_le _|(dsimp only;omega)) ?_ (by ((try (conv=>whnf));(rw [hw0]);exact wkxQ4)) ?_)
  ·exact Nat.zero_le _
  intro j hj
  have hL1:(q.whr.take j).length≤q.whr.length:=BQ0
  rw [AD3] at hL1
  by_cases hjl:j < q.pages.length
  ·have hip:=BF4 hg hjl
   have hS:=pgI_at hjl
   have hws:=whr_s hjl
   unfold whE at hws
   generalize nth 0 q.pages j=p at *
   have hgp:=AR1 h.ww hip
   unfold stN stC
   (refine wx_Sxl ?_;repeat' (first|with_reducible refine And.intro ?_ ?_|intro hsp))
   all_goals exact I4 (j+1) [(37,40)] (by (try dsimp only);omega) (by first|omega|(dsimp only;omega)) rfl (by ((try dsimp only);rw [hws]);exact wkxQ4)
  ·obtain rfl:j=q.pages.length:=by omega
   rw [Ai8]
   unfold stN stC
   (refine wx_Sxl ?_;repeat' (first|with_reducible refine And.intro ?_ ?_|intro hsp))
   refine Ax9 F6 bS_bytes rfl trivial ?_
   intro frl2 asl2 bdl2 hF2 hA2 hB2
   unfold cKs0
   (refine wx_Sxl ?_;repeat' (first|with_reducible refine And.intro ?_ ?_|intro hsp))
   refine KeysX.mk fun ck hck=>BW9 F6 hck (i:=2) (it:=41) (pb:=38) (po:=0) (cs:=[]) (ks:=t.D.map (·.1)) [] (fun vis=>[(0,.yld 39),(1,.ptr 38 0),(3,.sl 40 0 vis.length t.D.length 1)]) (fun vis=>[(0,.cells (stC 4 1 2 3 q)),(1,.maps (encW pgE t.W)),(3,.maps (encW nuE t.H)),(4,.cells q.s.a),(5,.cells [.int .i64 0,.int .i64 0,.int .i64 0,.int .i64 0,.nils,.nils,.int .i64 0,.int .i64 0]),(31,.cells [.int .i64 (q.a:Nat),.int .i64 (q.n:Nat),.int .i64 (q.pg:Nat),.int .i64 (q.sl:Nat),.isl (q.whr.map swA),.nils,.int .i64 q.ins,.int .i64 q.outs]),(38,.cells [.mapr 2]),(39,.loop .ready none frl2 [62,63] asl2 bdl2),(40,.cells (kyC vis t.D.length))]) Am2 hndD rfl rfl rfl (.inr ⟨_,rfl⟩) rfl (by decide) (by decide) rfl (fun _=>rfl) rfl (fun _=>rfl) ?_ ?_ ?_
   ·exact wkxQ3
   ·intro vis k hnd hsub
    have hl1:vis.length < t.D.length:=by
     have:=Ak9 hnd hsub
     rw [List.length_append,List.length_map] at this
     exact this
    unfold cKs4
    (refine wx_Sxl ?_;repeat' (first|with_reducible refine And.intro ?_ ?_|intro hsp))
    refine ⟨[],rfl,?_⟩
    rw [show (vis++[k]).length=vis.length+1 by simp]
    exact wkxQ3
   ·intro vis hperm
    have hlen:vis.length=t.D.length:=by rw [hperm.length_eq,List.length_map]
    have hs:=so_ok hlen (hperm.trans (Af5 hg h)) BR8 (by omega)
    rw [Az5 hlen,hlen]
    unfold cKs1
    unfold cKsR
    (refine wx_Sxl ?_;repeat' (first|with_reducible refine And.intro ?_ ?_|intro hsp))
    rw [hdl]
    have hw0:=dsk_0 (w:=q)
    (refine Q5 [0,1,22,23] (fun (j:Nat)=>[(24,.int .i64 (j:Nat))]) (fun (j:Nat)=>⟨stN q t 0 1 2 3 4++[(5,.cells [.int .i64 0,.int .i64 0,.int .i64 0,.int .i64 0,.nils,.nils,.int .i64 0,.int .i64 0]),(31,.cells [.int .i64 (q.a:Nat),.int .i64 (q.n:Nat),.int .i64 (q.pg:Nat),.int .i64 (q.sl:Nat),.isl (q.whr.map swA),Ao4 42 65 (q.dsk.take j).length,.int .i64 q.ins,.int .i64 q.outs]),(38,.cells [.mapr 2]),(39,.loop .ready none frl2 [62,63] asl2 bdl2),(40,.cells ((q.slots.map fun p=>((p:Nat):Int)).map (AV.int .i64)))]++AY1 42 swD (q.dsk.take j),43⟩) (fun (j:Nat)=>j≤q.slots.length) (fun (j:Nat)=>q.slots.length - j) (0) [] rfl (fun _=>by first|exact Nat.zero_le _|(dsimp only;omega)) ?_ (by ((try (conv=>whnf));(rw [hw0]);exact wkxQ5)) ?_)
    ·exact Nat.zero_le _
    intro j hj
    have hL1:(q.dsk.take j).length≤q.dsk.length:=BQ0
    rw [AU4] at hL1
    by_cases hjl:j < q.slots.length
    ·have hip:=nth_isT hg hjl
     have hS:=slI_at hjl
     have hws:=dsk_s hjl
     unfold dkE at hws
     generalize nth 0 q.slots j=p at *
     have hgd:=gD_at hg h hip
     have hyl:(bcA (q.D p)).length=64:=X7
     generalize hy:bcA (q.D p)=y at hyl
     unfold stN stC
     (refine wx_Sxl ?_;repeat' (first|with_reducible refine And.intro ?_ ?_|intro hsp))
     all_goals exact I4 (j+1) [(42,45)] (by (try dsimp only);omega) (by first|omega|(dsimp only;omega)) rfl (by ((try dsimp only);rw [hws]);exact wkxQ5)
    ·obtain rfl:j=q.slots.length:=by omega
     rw [dsk_all]
     unfold stN stC
     (refine wx_Sxl ?_;repeat' (first|with_reducible refine And.intro ?_ ?_|intro hsp))
     all_goals exact end_WW (q:=q) (t:=t) (fun hs=>BC2 (D6 (K5 rfl) (D6 (K5 rfl) (D6 (K5 rfl) (D6 (K5 rfl) (D6 (R9 hs (F9 Q7)) (D6 (BP0 AO4 AB2 rfl (fun hz=>by first|(simp [lk,AW6,l8 hz,AT3 hz];done)|exact l8 hz|rfl) (not_of (by simp [rn,stN])) hs) (D6 (K5 rfl) (D6 (K5 rfl) K4))))))))) rfl rfl rfl rfl rfl
end
end Go.Proofs.Ytbhgfoikbkaohaa.Sh
namespace Go.Pol
open Go.Am Go.Proofs.Ytbhgfoikbkaohaa.Sh
structure SAc where
 w:Int
 p:Int
 t:Int
 n:Int
 v:Int
 l:List Rl
def Af7 (x:SAc):List AV:=[.int .u8 x.w,.int .i64 x.p,.int .i64 x.t,.int .i64 x.n,.int .u8 x.v,.isl (x.l.map rlA)]
theorem BD6 (x:SAc):(Af7 x).length=6:=rfl
def dSA:SAc:=⟨0,0,0,0,0,[]⟩
structure SPy where
 a:Int
 n:Int
 pg:Int
 sl:Int
 l:List Rl
 X:List SAc
def Aa5 (p:SPy):List AV:=[.int .i64 p.a,.int .i64 p.n,.int .i64 p.pg,.int .i64 p.sl,.isl (p.l.map rlA),.isl (p.X.map Af7)]
def Sw.nw (s:Sy) (a n pg sl:Int):Sw:=⟨a.toNat,n.toNat,pg.toNat,sl.toNat,fun _=>-1,fun _=>-1,fun _=>0,fun _ _=>0,0,0,s⟩
def T0:WS:=⟨[],[],[]⟩
def SPy.b (p:SPy):Sw:=Sw.nw ((Sy.new p.l).chg p.a p.n 0 1 0).2 p.a p.n p.pg p.sl
theorem BO2 {s:Sy} {a n pg sl:Int}:WOk (Sw.nw s a n pg sl) T0:=by
 refine ⟨List.nodup_nil,List.nodup_nil,List.nodup_nil,fun p=>?_,fun k=>?_,fun f p=>?_⟩
 ·rw [if_neg]
  ·rfl
  ·rintro ⟨_,h|h⟩
   ·exact absurd h (show ¬ (0:Int) ≤ -1 by decide)
   ·exact absurd h (show ¬ (0:Int) ≤ -1 by decide)
 ·rw [if_neg]
  ·rfl
  ·rintro ⟨hk,p,_,hT⟩
   have : (-1:Int)=((k.toNat:Nat):Int):=hT
   omega
 ·constructor
  ·intro h;cases h
  ·rintro ⟨_,h1,h2⟩
   have : (-1:Int)=f:=h2
   omega
end Go.Pol
namespace Go.Proofs.Ytbhgfoikbkaohaa.Sh
open Go Go.Am Go.Pol
theorem wx_Sxm {p q:Prop} (hq:q) (h:Z7 q→p:=by (intro hQz;((repeat' ((try (conv=>whnf));first|refine sxA ?_|refine sxF ?_|refine M0 (by assumption) rfl (by decide) ?_|refine N9 (by assumption) ?_|refine M0 hc rfl (by decide) ?_|refine M0 hr rfl (by decide) ?_|refine cx_locN (by assumption) ?_|refine cx_WN h1 rfl (by decide) ?_|refine M0 h1 rfl (by decide) ?_|refine sxH ?_|((with_reducible first|apply U8 hQz|apply U9 hQz)<;>(try intro hsp hQz))|exact hQz.out))<;>(try (conv=>whnf))))):p:=h ⟨hq⟩
theorem AE0 (x:SAc):∀ y ∈ Af7 x,Plain y:=fun y hy=>by
 unfold Af7 at hy
 simp only [List.mem_cons,List.not_mem_nil,or_false] at hy
 rcases hy with rfl|rfl|rfl|rfl|rfl|rfl<;>first|exact A8|exact K6
theorem AI4 (x:SAc):Plain (.agg (Af7 x)):=H9 (AE0 x)
theorem AE7 {X:List SAc}:Plain (.isl (X.map Af7)):=AI5 fun e he=>by obtain ⟨x,_,rfl⟩:=List.mem_map.1 he;exact AE0 x
theorem AB3 (p:SPy):∀ y ∈ Aa5 p,Plain y:=fun y hy=>by
 unfold Aa5 at hy
 simp only [List.mem_cons,List.not_mem_nil,or_false] at hy
 rcases hy with rfl|rfl|rfl|rfl|rfl|rfl
 ·exact A8
 ·exact A8
 ·exact A8
 ·exact A8
 ·exact K6
 ·exact AE7
theorem W9 (p:SPy):Plain (.agg (Aa5 p)):=H9 (AB3 p)
theorem end_Wg {top:Bool} {h:Hp} {N0 n:Nat} {x r:AV} {q:Sw} {t:WS} (ren:List (Nat × Nat)) (o w d m s:Nat) (hkp:AN3 N0 ren=true) (hm:N0≤n) (hone:Ae5 [rn ren o,rn ren w,rn ren d,rn ren m,rn ren s]=true)
  (hlt:o < n∧w < n∧d < n∧m < n∧s < n)
  (hr:AP3 (rn ren) h ⟨stN q t o w d m s,n⟩→WkV Try.prog (rn ren) h ⟨stN q t o w d m s,n⟩ x r) (g0:lk h.l (rn ren o)=some (.cells (stC (rn ren s) (rn ren w) (rn ren d) (rn ren m) q))) (g1:lk h.l (rn ren w)=some (.maps (encW pgE t.W))) (g2:lk h.l (rn ren d)=some (.maps (encW byE t.D))) (g3:lk h.l (rn ren m)=some (.maps (encW nuE t.H))) (g4:lk h.l (rn ren s)=some (.cells q.s.a)) :
  AX2 top Try.prog N0 h x (fun r' h'=>r'=r∧h'=⟨stN q t o w d m s,n⟩):=by
 have hs:AP3 (rn ren) h ⟨stN q t o w d m s,n⟩:=fun j x hi=>by
  simp only [stN,lk] at hi
  split at hi
  ·rename_i e;subst e;exact ⟨_,g0⟩
  ·split at hi
   ·rename_i e;subst e;exact ⟨_,g1⟩
   ·split at hi
    ·rename_i e;subst e;exact ⟨_,g2⟩
    ·split at hi
     ·rename_i e;subst e;exact ⟨_,g3⟩
     ·split at hi
      ·rename_i e;subst e;exact ⟨_,g4⟩
      ·cases hi
 refine AG8 ren hkp hm (P6 (l:=stN q t o w d m s) hone) (hr hs) ?_ ⟨rfl,rfl⟩
 have:=BO4 (r:=[]) hs rfl rfl rfl rfl rfl hlt g0 g1 g2 g3 g4 K3
 exact this
structure BN7 (f:Nat) (avs:List AV) (s:Sy) (q:Sw) (t:WS):Prop where
 out:AV1 Try.prog G0 f (.ptr 0 0::avs) [(0,.cells s.a)] 1 fun x h=>x = .tup [.ptr 1 0,.int .i64 0]∧h=⟨stN q t 1 2 3 4 0,5⟩
 pa:∀ x ∈ avs,Plain x
theorem cx_WN {f:Nat} {avs:List AV} {s:Sy} {q:Sw} {t:WS} {g nx:Nat} {l:List (Nat × AObj)} {K:AV→Hp→Prop} (hc:BN7 f avs s q t) (h5:lk l g=some (.cells s.a)) (hlt:g < nx)
  (hk:AU1 [g] l fun l2=>K (.tup [.ptr nx 0,.int .i64 0]) ⟨([(nx,.cells (stC g (nx+1) (nx+2) (nx+3) q)),(nx+1,.maps (encW pgE t.W)),(nx+2,.maps (encW byE t.D)),(nx+3,.maps (encW nuE t.H)),(g,.cells q.s.a)]:List (Nat × AObj))++l2,nx+4⟩):AH3 Try.prog G0 (.fn f [] []) (.ptr g 0::avs) ⟨l,nx⟩ K:=by
 have e0:enter [g] g 0:=rfl
 have k0:back [g] nx 0 g:=rfl
 have k1:back [g] nx 1 nx:=rfl
 have k2:back [g] nx 2 (nx+1):=rfl
 have k3:back [g] nx 3 (nx+2):=rfl
 have k4:back [g] nx 4 (nx+3):=rfl
 refine AN6 (r':=.tup [.ptr nx 0,.int .i64 0]) (l1:=stN q t nx (nx+1) (nx+2) (nx+3) g) [g] hc.out I7 rfl (.cons e0 h5 (D8 F3) .nil)
  ?_ (by intro x hx;simp only [List.mem_cons,List.not_mem_nil,or_false] at hx;omega) (BD9 ⟨U5 k1,F5 A8,trivial⟩)
  (.cons k1 (AN0 k0 k2 k3 k4) (.maps k2 (A9 G6) (.maps k3 (A9 G7) (.maps k4 (A9 G5) (.cons k0 (D8 F3) .nil))))) hk
 simp only [List.nil_append,List.append_nil]
 exact ⟨U5 e0,D8 hc.pa⟩
section
variable {s:Sy} {a n pg sl:Int}
theorem AX9 {e:Int}:Plain (.tup [.nilp,.int .i64 e]):=F4 (M8 M4 A8)
theorem Ak2 {a b c d:Int}:∀ x ∈ [AV.int .i64 a,.int .i64 b,.int .i64 c,.int .i64 d],Plain x:=fun x hx=>by
 simp only [List.mem_cons,List.not_mem_nil,or_false] at hx
 rcases hx with rfl|rfl|rfl|rfl<;>exact A8
theorem BP5 (hg:GoodS s) (hn:¬ U3 a n pg sl):AF4 28 [.int .i64 a,.int .i64 n,.int .i64 pg,.int .i64 sl] s.a (.tup [.nilp,.int .i64 7]) s.a:=by
 have hc:=AL6 hg
 have hst:=AY5 a n pg sl
 rw [decide_eq_false hn] at hst
 unfold Sy.counts at hc
 refine AF4.mk (H6 F6 b28 rfl ?_) F3 F3 Ak2 AX9
 unfold c28
 generalize AA2 s.K 0 1024=n0 at *
 generalize AA2 s.K 1 1024=n1 at *
 generalize AA2 s.K 2 1024=n2 at *
 generalize AA2 s.K 3 1024=n3 at *
 generalize cntG s.G 64=n4 at *
 (refine wx_Sxm ?_;repeat' (first|with_reducible refine And.intro ?_ ?_|intro hsp))
 all_goals exact AH7 rfl AX9 rfl F3
theorem w_New_no (hg:GoodS s) (hn:U3 a n pg sl) (he:(s.chg a n 0 1 0).1 ≠ 0):AF4 28 [.int .i64 a,.int .i64 n,.int .i64 pg,.int .i64 sl] s.a (.tup [.nilp,.int .i64 (s.chg a n 0 1 0).1]) (s.chg a n 0 1 0).2.a:=by
 have hc:=AL6 hg
 have hst:=AY5 a n pg sl
 rw [decide_eq_true hn] at hst
 have hr:=Ar5 (a:=a) (n:=n) hg
 unfold Sy.counts at hc
 refine AF4.mk (H6 F6 b28 rfl ?_) F3 F3 Ak2 AX9
 unfold c28
 generalize AA2 s.K 0 1024=n0 at *
 generalize AA2 s.K 1 1024=n1 at *
 generalize AA2 s.K 2 1024=n2 at *
 generalize AA2 s.K 3 1024=n3 at *
 generalize cntG s.G 64=n4 at *
 generalize s.chg a n 0 1 0=r at *
 (refine wx_Sxm ?_;repeat' (first|with_reducible refine And.intro ?_ ?_|intro hsp))
 all_goals first|exact AH7 rfl AX9 rfl F3|(exfalso;omega)
theorem w_New (hg:GoodS s) (hn:U3 a n pg sl) (he:(s.chg a n 0 1 0).1=0):BN7 28 [.int .i64 a,.int .i64 n,.int .i64 pg,.int .i64 sl] s (Sw.nw (s.chg a n 0 1 0).2 a n pg sl) T0:=by
 have hc:=AL6 hg
 have hst:=AY5 a n pg sl
 rw [decide_eq_true hn] at hst
 have hr:=Ar5 (a:=a) (n:=n) hg
 rw [he] at hr
 obtain ⟨n1',n2',n3',n4',n5',n6',n7',n8'⟩:=hn
 have e1:((a.toNat:Nat):Int)=a:=Int.toNat_of_nonneg n1'
 have e2:((n.toNat:Nat):Int)=n:=Int.toNat_of_nonneg (by omega)
 have e3:((pg.toNat:Nat):Int)=pg:=Int.toNat_of_nonneg (by omega)
 have e4:((sl.toNat:Nat):Int)=sl:=Int.toNat_of_nonneg (by omega)
 unfold Sy.counts at hc
 refine BN7.mk (H6 F6 b28 rfl ?_) Ak2
 unfold c28
 generalize AA2 s.K 0 1024=n0 at *
 generalize AA2 s.K 1 1024=n1 at *
 generalize AA2 s.K 2 1024=n2 at *
 generalize AA2 s.K 3 1024=n3 at *
 generalize cntG s.G 64=n4 at *
 generalize s.chg a n 0 1 0=r at *
 (refine wx_Sxm ?_;repeat' (first|with_reducible refine And.intro ?_ ?_|intro hsp))
 all_goals exact end_Wg [(1,5),(2,2),(3,3),(4,4)] 1 2 3 4 0 rfl (by decide) rfl (by decide) (fun hs=>AZ5 (D6 (Z8 (i:=1) rfl (show 1 < 5 by decide)) (D6 (K5 rfl) K4))) (by unfold stC Sw.nw;dsimp only;rw [e1,e2,e3,e4];rfl) (by unfold T0;rw [U7];rfl) (by unfold T0;rw [U7];rfl) (by unfold T0;rw [U7];rfl) rfl
structure LocWB (avs:List AV) (q:Sw) (t:WS):Prop where
 out:AV1 Try.prog G0 11 avs [] 0 fun x h=>x = .tup [.ptr 4 0,.ptr 0 0,.int .i64 0]∧h=⟨stN q t 0 1 2 3 4,5⟩
 pa:∀ x ∈ avs,Plain x
theorem cx_WB {avs:List AV} {q:Sw} {t:WS} {nx:Nat} {l:List (Nat × AObj)} {K:AV→Hp→Prop} (hc:LocWB avs q t)
  (hk:K (.tup [.ptr (nx+4) 0,.ptr nx 0,.int .i64 0]) ⟨([(nx,.cells (stC (nx+4) (nx+1) (nx+2) (nx+3) q)),(nx+1,.maps (encW pgE t.W)),(nx+2,.maps (encW byE t.D)),(nx+3,.maps (encW nuE t.H)),(nx+4,.cells q.s.a)]:List (Nat × AObj))++l,nx+5⟩):AH3 Try.prog G0 (.fn 11 [] []) avs ⟨l,nx⟩ K:=by
 have k0:back [] nx 0 nx:=rfl
 have k1:back [] nx 1 (nx+1):=rfl
 have k2:back [] nx 2 (nx+2):=rfl
 have k3:back [] nx 3 (nx+3):=rfl
 have k4:back [] nx 4 (nx+4):=rfl
 exact AN6 (r':=.tup [.ptr (nx+4) 0,.ptr nx 0,.int .i64 0]) (l1:=stN q t nx (nx+1) (nx+2) (nx+3) (nx+4)) [] hc.out I7 rfl .nil (by simpa using D8 hc.pa) (by simp) (BD9 ⟨U5 k4,U5 k0,F5 A8,trivial⟩)
  (.cons k0 (AN0 k4 k1 k2 k3) (.maps k1 (A9 G6) (.maps k2 (A9 G7) (.maps k3 (A9 G5) (.cons k4 (D8 F3) .nil))))) (AR2 hk)
structure LocBE (avs:List AV) (e:Int) (ds:List AV):Prop where
 out:AV1 Try.prog G0 11 avs [] 0 fun x h=>x = .tup [.ptr 0 0,.nilp,.int .i64 e]∧h=⟨[(0,.cells ds)],1⟩
 pa:∀ x ∈ avs,Plain x
 pd:∀ x ∈ ds,Plain x
theorem cx_BE {avs:List AV} {e:Int} {ds:List AV} {nx:Nat} {l:List (Nat × AObj)} {K:AV→Hp→Prop} (hc:LocBE avs e ds) (hk:K (.tup [.ptr nx 0,.nilp,.int .i64 e]) ⟨(nx,.cells ds)::l,nx+1⟩):AH3 Try.prog G0 (.fn 11 [] []) avs ⟨l,nx⟩ K:=by
 have k0:back [] nx 0 nx:=rfl
 exact AN6 (r':=.tup [.ptr nx 0,.nilp,.int .i64 e]) (l1:=[(nx,.cells ds)]) [] hc.out I7 rfl .nil (by simpa using D8 hc.pa) (by simp) (BD9 ⟨U5 k0,F5 M4,F5 A8,trivial⟩)
  (.cons k0 (D8 hc.pd) .nil) (AR2 hk)
theorem end_BE {top:Bool} {h:Hp} {x:AV} {i:Nat} {ds:List AV} {e:Int} (hx:x = .tup [.ptr i 0,.nilp,.int .i64 e]) (h0:lk h.l i=some (.cells ds)) (pd:∀ x ∈ ds,Plain x):AX2 top Try.prog 0 h x (fun r' h'=>r' = .tup [.ptr 0 0,.nilp,.int .i64 e]∧h'=⟨[(0,.cells ds)],1⟩):=by
 subst hx
 have e0:rn [(0,i)] 0=i:=rfl
 have hs:AP3 (rn [(0,i)]) h ⟨[(0,.cells ds)],1⟩:=fun j o hj=>by
  simp only [lk] at hj
  split at hj
  ·rename_i e;subst e;exact ⟨_,h0⟩
  ·cases hj
 exact AG8 [(0,i)] rfl (Nat.zero_le _) (P6 rfl) (AZ5 (D6 (Z8 e0 (show 0 < 1 by decide)) (D6 (R9 hs M4) (D6 (K5 rfl) K4)))) (I5 hs (show 0 < 1 by decide) (by rw [e0];exact h0) rfl pd K3) ⟨rfl,rfl⟩
theorem BV0 {p:SPy}:∀ x ∈ [AV.agg (Aa5 p)],Plain x:=R5 (W9 p)
theorem Aq7 {e:Int}:Plain (.tup [.nilp,.nilp,.int .i64 e]):=F4 (plain_three M4 M4 A8)
theorem l_begun (p:SPy):(∃ e,e ≠ 0∧e=(AF3 p.l).2∧K9 11 [.agg (Aa5 p)] (.tup [.nilp,.nilp,.int .i64 e]))∨(∃ e ds,e ≠ 0∧LocBE [.agg (Aa5 p)] e ds)∨((AF3 p.l).2=0∧U3 p.a p.n p.pg p.sl∧((Sy.new p.l).chg p.a p.n 0 1 0).1=0∧LocWB [.agg (Aa5 p)] p.b T0):=by
 by_cases hc:(AF3 p.l).2=0
 ·have hnw:=p_new (l:=p.l) (i:=(AF3 p.l).1) (Prod.ext rfl hc)
  have hg:=Al1 hc
  by_cases hst:U3 p.a p.n p.pg p.sl
  ·by_cases he:((Sy.new p.l).chg p.a p.n 0 1 0).1=0
   ·have h1:=w_New hg hst he
    refine .inr (.inr ⟨hc,hst,he,LocWB.mk (H6 F6 b11 rfl ?_) BV0⟩)
    unfold c11
    unfold SPy.b Aa5
    generalize Sy.new p.l=s0 at *
    generalize T0=t0 at *
    generalize Sw.nw (s0.chg p.a p.n 0 1 0).2 p.a p.n p.pg p.sl=q0 at *
    (refine wx_Sxm ?_;repeat' (first|with_reducible refine And.intro ?_ ?_|intro hsp))
    all_goals exact end_Wg [(0,2),(1,3),(2,4),(3,5),(4,1)] 0 1 2 3 4 rfl (by decide) rfl (by decide) (fun hs=>AZ5 (D6 (Z8 (i:=4) rfl (show 4 < 5 by decide)) (D6 (Z8 (i:=0) rfl (show 0 < 5 by decide)) (D6 (K5 rfl) K4)))) rfl rfl rfl rfl rfl
   ·have h1:=w_New_no hg hst he
    refine .inr (.inl ⟨_,((Sy.new p.l).chg p.a p.n 0 1 0).2.a,he,LocBE.mk (H6 F6 b11 rfl ?_) BV0 F3⟩)
    unfold c11
    unfold Aa5
    generalize Sy.new p.l=s0 at *
    generalize s0.chg p.a p.n 0 1 0=r at *
    (refine wx_Sxm ?_;repeat' (first|with_reducible refine And.intro ?_ ?_|intro hsp))
    all_goals exact end_BE rfl rfl F3
  ·have h1:=BP5 hg hst
   refine .inr (.inl ⟨7,(Sy.new p.l).a,by decide,LocBE.mk (H6 F6 b11 rfl ?_) BV0 F3⟩)
   unfold c11
   unfold Aa5
   generalize Sy.new p.l=s0 at *
   (refine wx_Sxm ?_;repeat' (first|with_reducible refine And.intro ?_ ?_|intro hsp))
   all_goals exact end_BE rfl rfl F3
 ·have hnw:=p_new_no (l:=p.l) (i:=(AF3 p.l).1) (e:=(AF3 p.l).2) rfl hc
  refine .inl ⟨_,hc,rfl,K9.mk (U2 F6 b11 I7 ⟨W9 p,trivial⟩ Aq7 rfl ?_)⟩
  unfold c11
  unfold Aa5
  generalize (AF3 p.l).2=e at *
  (refine wx_Sxm ?_;repeat' (first|with_reducible refine And.intro ?_ ?_|intro hsp))
  all_goals first|exact K8 rfl Aq7|(exfalso;omega)
end
end Go.Proofs.Ytbhgfoikbkaohaa.Sh
namespace Go.Pol
open Go.Am Go.Proofs.Ytbhgfoikbkaohaa.Sh
def Sw.al (q:Sw) (x:SAc):Int × Sw:=q.call (x.w.toNat % 14) x.t x.n x.v x.p x.l
def SPy.ok (p:SPy):Prop:=p.X.length≤50∧p.l.length≤60∧(p.n≤60∨1024 < p.n)
instance (p:SPy):Decidable p.ok:=by unfold SPy.ok;infer_instance
end Go.Pol
namespace Go.Proofs.Ytbhgfoikbkaohaa.Sh
open Go Go.Am Go.Pol
theorem plx_Sxn {p:Prop} (h:p:=by ((first|exact plw|(with_reducible first|apply P7|apply G6 _|apply G7 _|apply G5 _|apply u6|apply K6|apply L6|apply M4|apply AI4 _|apply W9 _|apply AE7|fail)|fail);first|done|fail)):p:=h
theorem ppx_Sxn {p:Prop} (h:p:=by ((first|with_reducible assumption|(with_reducible first|apply F3|apply AK6|apply AI3|apply AD2|apply AJ0|apply AE0 _|apply AB3 _|fail)|exact ppw|fail);first|done|fail)):p:=h
open Go.Proofs.Ytbhgfoikbkaohaa.Sh renaming plx_Sxn → plx
open Go.Proofs.Ytbhgfoikbkaohaa.Sh renaming ppx_Sxn → ppx
theorem wx_Sxn {p q:Prop} (hq:q) (h:Z7 q→p:=by (intro hQz;((repeat' ((try (conv=>whnf));first|refine sxA ?_|refine AH5 (by with_reducible assumption) ?_|refine sxF ?_|refine AG9 (d:=dSA) BD6 (by first|assumption|omega) (by with_reducible assumption) ?_|refine AM8 h2 rfl rfl rfl rfl rfl (by decide) rfl ?_|refine M0 h2 rfl (by decide) ?_|refine sxH ?_|((with_reducible first|apply U8 hQz|apply U9 hQz)<;>(try intro hsp hQz))|exact hQz.out))<;>(try (conv=>whnf))))):p:=h ⟨hq⟩
theorem k_far_yes {p:SPy} (hl:p.X.length≤maxLen) (h:∃ x ∈ p.X,60 < x.l.length):K9 9 [.agg (Aa5 p)] (.bool true):=by
 have hl:p.X.length≤9223372036854775807:=hl
 refine K9.mk (U2 F6 b9 I7 ⟨W9 p,trivial⟩ D9 rfl ?_)
 unfold c9
 have hp:=AB3 p
 unfold Aa5 at hp ⊢
 (refine wx_Sxn ?_;repeat' (first|with_reducible refine And.intro ?_ ?_|intro hsp))
 (refine Q5 [1] (fun (i:Nat)=>[(3,.int .i64 (i:Nat))]) (fun (i:Nat)=>⟨[(0,.cells [.int .i64 p.a,.int .i64 p.n,.int .i64 p.pg,.int .i64 p.sl,.isl (p.l.map rlA),.isl (p.X.map Af7)])],1⟩) (fun (i:Nat)=>∃ j,i≤j∧j < p.X.length∧60 < (nth dSA p.X j).l.length) (fun (i:Nat)=>p.X.length - i) (0) [] rfl (fun _=>by first|exact Nat.zero_le _|(dsimp only;omega)) ?_ (by ((try (conv=>whnf));exact Y4)) ?_)
 ·obtain ⟨x,hx,h6⟩:=h
  obtain ⟨j,hj,rfl⟩:=List.getElem_of_mem hx
  exact ⟨j,Nat.zero_le _,hj,by rw [J8 hj];exact h6⟩
 intro i hi
 obtain ⟨j,h1,h2,h3⟩:=hi
 have hil:i < p.X.length:=by omega
 have hne:¬ 60 < (nth dSA p.X i).l.length→∃ j,i+1≤j∧j < p.X.length∧60 < (nth dSA p.X j).l.length:=fun hn=>⟨j,by
  by_cases e:i=j
  ·exact absurd (e▸h3) hn
  ·omega,h2,h3⟩
 clear h1 h2 h3
 by_cases hn:60 < (nth dSA p.X i).l.length
 ·clear hne
  generalize hx:nth dSA p.X i=x at *
  (refine wx_Sxn ?_;repeat' (first|with_reducible refine And.intro ?_ ?_|intro hsp))
  all_goals first|exact X5 rfl|(exfalso;omega)
 ·have hne2:=hne hn
  clear hne
  generalize hx:nth dSA p.X i=x at *
  (refine wx_Sxn ?_;repeat' (first|with_reducible refine And.intro ?_ ?_|intro hsp))
  all_goals first|(exfalso;omega)|exact I4 (i+1) [] hne2 (by first|omega|(dsimp only;omega)) rfl (by exact Y4)
theorem k_far_no {p:SPy} (hl:p.X.length≤maxLen) (h:¬ ∃ x ∈ p.X,60 < x.l.length):K9 9 [.agg (Aa5 p)] (.bool (decide (¬ p.ok))):=by
 have hl:p.X.length≤9223372036854775807:=hl
 refine K9.mk (U2 F6 b9 I7 ⟨W9 p,trivial⟩ D9 rfl ?_)
 unfold c9
 unfold Aa5
 (refine wx_Sxn ?_;repeat' (first|with_reducible refine And.intro ?_ ?_|intro hsp))
 (refine Q5 [1] (fun (i:Nat)=>[(3,.int .i64 (i:Nat))]) (fun (i:Nat)=>⟨[(0,.cells [.int .i64 p.a,.int .i64 p.n,.int .i64 p.pg,.int .i64 p.sl,.isl (p.l.map rlA),.isl (p.X.map Af7)])],1⟩) (fun (i:Nat)=>i≤p.X.length) (fun (i:Nat)=>p.X.length - i) (0) [] rfl (fun _=>by first|exact Nat.zero_le _|(dsimp only;omega)) ?_ (by ((try (conv=>whnf));exact Y4)) ?_)
 ·exact Nat.zero_le _
 intro i hi
 by_cases hil:i < p.X.length
 ·have hn:¬ 60 < (nth dSA p.X i).l.length:=fun h2=>h ⟨_,AG0 (d:=dSA) hil,h2⟩
  generalize hx:nth dSA p.X i=x at *
  (refine wx_Sxn ?_;repeat' (first|with_reducible refine And.intro ?_ ?_|intro hsp))
  all_goals first|(exfalso;omega)|exact I4 (i+1) [] (by (try dsimp only);omega) (by first|omega|(dsimp only;omega)) rfl (by exact Y4)
 ·clear h
  (refine wx_Sxn ?_;repeat' (first|with_reducible refine And.intro ?_ ?_|intro hsp))
  all_goals exact X5 (by first|exact (decide_eq_true (show ¬ p.ok from fun ⟨h1,h2,h3⟩=>by omega)).symm|exact (decide_eq_false (show ¬ ¬ p.ok from fun hn=>hn ⟨by omega,by omega,by omega⟩)).symm|exact decide_eq_decide.2 ⟨fun h4 ⟨h1,h2,h3⟩=>(by omega),fun hn=>Classical.byContradiction fun h4=>hn ⟨by omega,by omega,by omega⟩⟩)
theorem k_far (p:SPy) (hl:p.X.length≤maxLen):∃ b,K9 9 [.agg (Aa5 p)] (.bool b)∧(b=false→p.ok∧∀ x ∈ p.X,x.l.length≤60):=by
 by_cases h:∃ x ∈ p.X,60 < x.l.length
 ·exact ⟨true,k_far_yes hl h,fun e=>by cases e⟩
 ·refine ⟨_,k_far_no hl h,fun e=>⟨?_,fun x hx=>Classical.byContradiction fun hn=>h ⟨x,hx,by omega⟩⟩⟩
  have:=of_decide_eq_false e
  exact Classical.not_not.1 this
structure LocA (x:SAc) (q:Sw) (t:WS) (e:Int) (q':Sw) (t':WS):Prop where
 out:AV1 Try.prog G0 13 [.ptr 4 0,.ptr 0 0,.agg (Af7 x)] (stN q t 0 1 2 3 4) 5 fun y h1=>y = .int .i64 e∧h1=⟨stN q' t' 0 1 2 3 4,5⟩
theorem cx_A {x:SAc} {q q':Sw} {t t':WS} {v:Int} {o w d m s nx:Nat} {l:List (Nat × AObj)} {K:AV→Hp→Prop} (hc:LocA x q t v q' t')
  (g0:lk l o=some (.cells (stC s w d m q))) (g1:lk l w=some (.maps (encW pgE t.W))) (g2:lk l d=some (.maps (encW byE t.D))) (g3:lk l m=some (.maps (encW nuE t.H))) (g4:lk l s=some (.cells q.s.a))
  (hlt:o < nx∧w < nx∧d < nx∧m < nx∧s < nx) (hd:Ae5 [o,w,d,m,s]=true)
  (hk:AU1 [o,w,d,m,s] l fun l2=>K (.int .i64 v) ⟨([(o,.cells (stC s w d m q')),(w,.maps (encW pgE t'.W)),(d,.maps (encW byE t'.D)),(m,.maps (encW nuE t'.H)),(s,.cells q'.s.a)]:List (Nat × AObj))++l2,nx⟩):AH3 Try.prog G0 (.fn 13 [] []) [.ptr s 0,.ptr o 0,.agg (Af7 x)] ⟨l,nx⟩ K:=by
 have e0:enter [o,w,d,m,s] o 0:=rfl
 have e1:enter [o,w,d,m,s] w 1:=rfl
 have e2:enter [o,w,d,m,s] d 2:=rfl
 have e3:enter [o,w,d,m,s] m 3:=rfl
 have e4:enter [o,w,d,m,s] s 4:=rfl
 have k0:back [o,w,d,m,s] nx 0 o:=rfl
 have k1:back [o,w,d,m,s] nx 1 w:=rfl
 have k2:back [o,w,d,m,s] nx 2 d:=rfl
 have k3:back [o,w,d,m,s] nx 3 m:=rfl
 have k4:back [o,w,d,m,s] nx 4 s:=rfl
 refine AN6 (l1:=stN q' t' o w d m s) [o,w,d,m,s] hc.out I7 hd
  (.cons e0 g0 (AN0 e4 e1 e2 e3) (.maps e1 g1 (A9 G6) (.maps e2 g2 (A9 G7) (.maps e3 g3 (A9 G5) (.cons e4 g4 (D8 F3) .nil)))))
  ?_ (by intro x hx;simp only [List.mem_cons,List.not_mem_nil,or_false] at hx;omega) (F5 A8)
  (.cons k0 (AN0 k4 k1 k2 k3) (.maps k1 (A9 G6) (.maps k2 (A9 G7) (.maps k3 (A9 G5) (.cons k4 (D8 F3) .nil))))) hk
 simp only [List.nil_append,List.append_nil]
 exact ⟨U5 e4,U5 e0,F5 (AI4 x),trivial⟩
section
variable {q:Sw} {t:WS}
theorem l_alone (hg:D7 q) (h:WOk q t) (x:SAc) (hw:0≤x.w):∃ t',WOk (q.al x).2 t'∧LocA x q t (q.al x).1 (q.al x).2 t':=by
 have h0:x.w.tmod 14=x.w % 14:=Int.tmod_eq_emod_of_nonneg hw
 have hm:((x.w.toNat % 14:Nat):Int)=x.w.tmod 14:=by rw [h0];omega
 unfold Sw.al Sw.call
 generalize x.w.toNat % 14=w at *
 have hw14:0≤x.w.tmod 14∧x.w.tmod 14 < 14:=by rw [h0];omega
 by_cases c1:w < 6
 ·rw [if_pos c1]
  obtain ⟨t',h2,hO⟩:=AZ8 hg h x.t x.n x.v
  refine ⟨t',hO,⟨H6 F6 b13 rfl ?_⟩⟩
  unfold c13
  unfold stN stC Af7
  generalize q.write x.t x.n x.v=r at *
  rcases (show x.w.tmod 14=0∨x.w.tmod 14=1∨x.w.tmod 14=2∨x.w.tmod 14=3∨x.w.tmod 14=4∨x.w.tmod 14=5 by omega) with hy|hy|hy|hy|hy|hy
  all_goals (refine wx_Sxn ?_;repeat' (first|with_reducible refine And.intro ?_ ?_|intro hsp))
  all_goals first|exact J9 (q:=r.2) (t:=t') rfl A8 rfl rfl rfl rfl rfl|(exfalso;omega)
 rw [if_neg c1]
 by_cases c2:w < 10
 ·rw [if_pos c2]
  obtain ⟨t',h2,hO⟩:=BC4 hg h x.t x.n
  refine ⟨t',hO,⟨H6 F6 b13 rfl ?_⟩⟩
  unfold c13
  unfold stN stC Af7
  generalize q.read x.t x.n=r at *
  rcases (show x.w.tmod 14=6∨x.w.tmod 14=7∨x.w.tmod 14=8∨x.w.tmod 14=9 by omega) with hy|hy|hy|hy
  all_goals (refine wx_Sxn ?_;repeat' (first|with_reducible refine And.intro ?_ ?_|intro hsp))
  all_goals first|exact J9 (q:=r.2.2) (t:=t') rfl A8 rfl rfl rfl rfl rfl|(exfalso;omega)
 rw [if_neg c2]
 by_cases c3:w=10
 ·rw [if_pos c3]
  obtain ⟨t',h2,hO⟩:=w_Out hg h x.p
  refine ⟨t',hO,⟨H6 F6 b13 rfl ?_⟩⟩
  unfold c13
  unfold stN stC Af7
  generalize q.out x.p=r at *
  rcases (show x.w.tmod 14=10 by omega) with hy
  all_goals (refine wx_Sxn ?_;repeat' (first|with_reducible refine And.intro ?_ ?_|intro hsp))
  all_goals first|exact J9 (q:=r.2) (t:=t') rfl A8 rfl rfl rfl rfl rfl|(exfalso;omega)
 rw [if_neg c3]
 by_cases c4:w=11
 ·rw [if_pos c4]
  obtain ⟨t',h2,hO⟩:=BP6 hg h x.p
  refine ⟨t',hO,⟨H6 F6 b13 rfl ?_⟩⟩
  unfold c13
  unfold stN stC Af7
  generalize q.fre x.p=r at *
  rcases (show x.w.tmod 14=11 by omega) with hy
  all_goals (refine wx_Sxn ?_;repeat' (first|with_reducible refine And.intro ?_ ?_|intro hsp))
  all_goals first|exact J9 (q:=r.2) (t:=t') rfl A8 rfl rfl rfl rfl rfl|(exfalso;omega)
 rw [if_neg c4]
 by_cases c5:w=13
 ·rw [if_pos c5]
  have h2:=p_plan q.s x.l
  refine ⟨t,AO0 h _,⟨H6 F6 b13 rfl ?_⟩⟩
  unfold c13
  unfold stN stC Af7
  generalize q.s.plan x.l=r at *
  rcases (show x.w.tmod 14=13 by omega) with hy
  all_goals (refine wx_Sxn ?_;repeat' (first|with_reducible refine And.intro ?_ ?_|intro hsp))
  all_goals first|exact J9 (q:={ q with s:=r.2 }) (t:=t) rfl A8 rfl rfl rfl rfl rfl|(exfalso;omega)
 rw [if_neg c5]
 refine ⟨t,h,⟨H6 F6 b13 rfl ?_⟩⟩
 unfold c13
 unfold stN stC Af7
 have hy:x.w.tmod 14=12:=by omega
 (refine wx_Sxn ?_;repeat' (first|with_reducible refine And.intro ?_ ?_|intro hsp))
 all_goals first|exact J9 (q:=q) (t:=t) rfl A8 rfl rfl rfl rfl rfl|(exfalso;omega)
end
end Go.Proofs.Ytbhgfoikbkaohaa.Sh
namespace Go.Pol
open Go.Am Go.Proofs.Ytbhgfoikbkaohaa.Sh
section
variable {w:Sw}
theorem AC0 (h:D7 w) (t now v:Int):D7 (w.write t now v).2:=by
 by_cases he:(w.write t now v).1=0
 ·exact (BO0 h he).2.1
 ·unfold Sw.write at he ⊢
  by_cases hn:w.nums t now
  ·rw [if_neg (Classical.not_not.2 hn)] at he ⊢
   have hn2:=hn
   obtain ⟨n1,n2,n3,n4⟩:=hn2
   by_cases ht:(w.touch (t.toNat / 64) now).1=0
   ·rw [if_pos ht] at he
    have hg:=AA4 h (p:=t.toNat / 64) (now:=now) (by omega) ⟨n3,n4⟩
    rcases AX5 h (p:=t.toNat / 64) now with hy|hno
    ·exact absurd (BI5 hg n1 hy.fr).1 he
    ·exact absurd ht hno.e
   ·rw [if_neg ht]
    exact AA4 h (by omega) ⟨n3,n4⟩
  ·rw [if_pos hn];exact h
theorem AM1 (h:D7 w) (t now:Int):D7 (w.read t now).2.2:=by
 unfold Sw.read
 by_cases hn:w.nums t now
 ·rw [if_neg (Classical.not_not.2 hn)]
  obtain ⟨n1,n2,n3,n4⟩:=hn
  have hg:=AA4 h (p:=t.toNat / 64) (now:=now) (by omega) ⟨n3,n4⟩
  split
  ·exact h
  ·split
   ·exact hg
   ·exact hg
 ·rw [if_pos hn];exact h
theorem At1 (h:D7 w) (p:Int):D7 (w.out p).2:=by
 by_cases he:(w.out p).1=0
 ·exact (out_yes h he).1
 ·rw [out_no p he];exact h
theorem good_al (h:D7 w) (x:SAc):D7 (w.al x).2:=by
 unfold Sw.al Sw.call
 split
 ·exact AC0 h _ _ _
 ·split
  ·exact AM1 h _ _
  ·split
   ·exact At1 h _
   ·split
    ·exact Al2 h _
    ·split
     ·exact planW h _
     ·exact h
end
def ex0:Sw:=Sw.nw ((Sy.new []).chg 8 1 0 1 0).2 8 1 4 2
def ex1:Sw:=(ex0.write 0 1 5).2
def ex2:Sw:=(ex1.write 64 2 6).2
def ex3:Sw:=(ex2.read 0 3).2.2
def ex4:Sw:=(ex3.read 64 4).2.2
def ex5:Sw:=(ex4.read 128 5).2.2
def ex6:Sw:=(ex5.write 128 6 7).2
def ex7:Sw:=(ex6.write 192 7 8).2
def ex8:Sw:=(ex7.out 2).2
def ex9:Sw:=(ex8.fre 0).2
set_option maxRecDepth 100000 in
theorem ex_0:((Sy.new []).chg 8 1 0 1 0).1=0:=by decide +kernel
set_option maxRecDepth 100000 in
theorem ex_1:(ex0.write 0 1 5).1=0:=by decide +kernel
set_option maxRecDepth 100000 in
theorem ex_2:(ex1.write 64 2 6).1=0:=by decide +kernel
set_option maxRecDepth 100000 in
theorem ex_3:(ex2.read 0 3).1=5∧(ex2.read 0 3).2.1=0:=by decide +kernel
set_option maxRecDepth 100000 in
theorem ex_4:(ex3.read 64 4).1=6∧(ex3.read 64 4).2.1=0:=by decide +kernel
set_option maxRecDepth 100000 in
theorem ex_5:(ex4.read 128 5).1=0∧(ex4.read 128 5).2.1=0∧ex5.ins=2∧ex5.outs=3:=by decide +kernel
set_option maxRecDepth 100000 in
theorem ex_6:(ex5.write 128 6 7).1=0:=by decide +kernel
set_option maxRecDepth 100000 in
theorem ex_7:(ex6.write 192 7 8).1=5:=by decide +kernel
set_option maxRecDepth 100000 in
theorem ex_8:(ex7.out 2).1=5:=by decide +kernel
set_option maxRecDepth 100000 in
theorem ex_9:(ex8.fre 0).1=0:=by decide +kernel
set_option maxRecDepth 100000 in
theorem ex_10:(ex9.out 2).1=0:=by decide +kernel
end Go.Pol
namespace Go.Am
section
variable {P:Program} {G:Gl}
theorem AV1.weak {f k:Nat} {args args':List AV} {l0:List (Nat × AObj)} {K:AV→Hp→Prop} (hc:AV1 P G f args l0 k K) (hw:∀ (c:Cx) (vs:Array Value),AA3 c args' vs→AA3 c args vs):AV1 P G f args' l0 k K :=
 ⟨hc.1,fun c vs hR hG hm ha=>hc.2 c vs hR hG hm (hw c vs ha)⟩
theorem AV0.weak {f:Nat} {args args':List AV} {r:AV} (hc:AV0 P G f args r) (hw:∀ (c:Cx) (vs:Array Value),AA3 c args' vs→AA3 c args vs):AV0 P G f args' r :=
 fun at_ id=>⟨(hc at_ id).1,fun c vs hR hG hU hat ha=>(hc at_ id).2 c vs hR hG hU hat (hw c vs ha)⟩
def WkA (x y:AV):Prop:=∀ (c:Cx) (v:Value),RR c x v→RR c y v
def BJ3:List AV→List AV→Prop
 | [],[]=>True
 | x::xs,y::ys=>WkA x y∧BJ3 xs ys
 | _,_=>False
theorem BJ3.len:∀ {xs ys:List AV},BJ3 xs ys→xs.length=ys.length
 | [],[],_=>rfl
 | [],_::_,h=>h.elim
 | _::_,[],h=>h.elim
 | _::_,_::_,h=>by rw [List.length_cons,List.length_cons,BJ3.len h.2]
theorem BJ3.at:∀ {xs ys:List AV},BJ3 xs ys→∀ {j:Nat} {y:AV},ys[j]? = some y→∃ x,xs[j]? = some x∧WkA x y
 | [],[],_,_,_,e=>by simp at e
 | [],_::_,h,_,_,_=>h.elim
 | _::_,[],h,_,_,_=>h.elim
 | x::_,y::_,h,0,z,e=>by cases e;exact ⟨x,rfl,h.1⟩
 | _::_,_::_,h,j+1,z,e=>BJ3.at (j:=j) h.2 (by simpa using e)
theorem BJ3.args {xs ys:List AV} (h:BJ3 xs ys) (c:Cx) (vs:Array Value) (ha:AA3 c xs vs):AA3 c ys vs :=
 ⟨by rw [ha.1, h.len], fun j y hy => by
  obtain ⟨x,hx,hw⟩:=h.at hy
  obtain ⟨u,hu,hr⟩:=ha.2 j x hx
  exact ⟨u,hu,hw c u hr⟩⟩
theorem wkA_rfl {x:AV}:WkA x x:=fun _ _ h=>h
theorem wkA_nil:WkA .nils (.isl []):=fun c v h=>by
 obtain ⟨A,rfl⟩:=RR_nils.1 h
 exact Y3.2 ⟨A,0,rfl,Nat.le_refl _,Nat.zero_le _,fun hne=>absurd rfl hne⟩
theorem wkA_agg {xs ys:List AV} (h:BJ3 xs ys):WkA (.agg xs) (.agg ys):=fun c v hv=>by
 obtain ⟨vs,rfl,hs,hc⟩:=V6.1 hv
 refine V6.2 ⟨vs,rfl,by rw [hs,h.len],fun j y hy=>?_⟩
 obtain ⟨x,hx,hw⟩:=h.at hy
 obtain ⟨u,hu,hr,ho⟩:=hc j x hx
 exact ⟨u,hu,hw c u hr,ho⟩
end
end Go.Am
namespace Go.Pol
open Go.Am
end Go.Pol
namespace Go.Proofs.Ytbhgfoikbkaohaa
open Go Go.Am Go.Pol
theorem wk_pl:WkA (.agg [.nils]) (.agg [.isl (([]:List Rl).map rlA)]):=wkA_agg ⟨wkA_nil,trivial⟩
theorem Aq6:Plain (.agg [.nils]):=H9 (P9 V4)
theorem AF4.weak {f:Nat} {avs avs' cs ds:List AV} {r:AV} (hc:AF4 f avs cs r ds) (hw:BJ3 avs' avs) (hp:∀ x ∈ avs',Plain x):AF4 f avs' cs r ds :=
 AF4.mk (hc.out.weak (BJ3.args (xs:=.ptr 0 0::avs') (ys:=.ptr 0 0::avs) ⟨wkA_rfl,hw⟩)) hc.pc hc.pd hp hc.pr
theorem LocN.weak {f:Nat} {avs avs' ds:List AV} {e:Int} (hc:LocN f avs e ds) (hw:BJ3 avs' avs) (hp:∀ x ∈ avs',Plain x):LocN f avs' e ds :=
 LocN.mk (hc.out.weak (BJ3.args hw)) hc.pd hp
theorem n_new:LocN 29 [.agg [.nils]] 0 (Sy.new []).a:=(p_new (l:=[]) (i:=(AF3 []).1) rfl).weak ⟨wk_pl,trivial⟩ (P9 Aq6)
theorem n_plan (s:Sy):AF4 24 [.agg [.nils]] s.a (.int .i64 (s.plan []).1) (s.plan []).2.a:=(p_plan s []).weak ⟨wk_pl,trivial⟩ (P9 Aq6)
end Go.Proofs.Ytbhgfoikbkaohaa
namespace Go.Proofs.Ytbhgfoikbkaohaa.Sh
open Go Go.Am Go.Pol
theorem wx_Sxp {p q:Prop} (hq:q) (h:Z7 q→p:=by (intro hQz;((repeat' ((try (conv=>whnf));first|refine sxA ?_|refine sxF ?_|refine cx_locN hn ?_|refine cx_WN h0 rfl (by decide) ?_|refine AM8 y1 rfl rfl rfl rfl rfl (by decide) rfl ?_|refine AM8 y2 rfl rfl rfl rfl rfl (by decide) rfl ?_|refine AM8 y3 rfl rfl rfl rfl rfl (by decide) rfl ?_|refine AM8 y4 rfl rfl rfl rfl rfl (by decide) rfl ?_|refine AM8 y5 rfl rfl rfl rfl rfl (by decide) rfl ?_|refine AM8 y6 rfl rfl rfl rfl rfl (by decide) rfl ?_|refine AM8 y7 rfl rfl rfl rfl rfl (by decide) rfl ?_|refine AM8 y8 rfl rfl rfl rfl rfl (by decide) rfl ?_|refine AM8 y9 rfl rfl rfl rfl rfl (by decide) rfl ?_|refine AM8 y10 rfl rfl rfl rfl rfl (by decide) rfl ?_|refine AM8 n5 rfl rfl rfl rfl rfl (by decide) rfl ?_|refine sxH ?_|((with_reducible first|apply U8 hQz|apply U9 hQz)<;>(try intro hsp hQz))|exact hQz.out))<;>(try (conv=>whnf))))):p:=h ⟨hq⟩
theorem k_shown:K9 10 [] (.bool true):=by
 have hn:=n_new
 have hc0:(AF3 []).2=0:=by decide
 have h0:BN7 28 [.int .i64 8,.int .i64 1,.int .i64 4,.int .i64 2] (Sy.new []) ex0 T0:=w_New (Al1 hc0) (a:=8) (n:=1) (pg:=4) (sl:=2) (by decide) ex_0
 have g0:D7 ex0:=(Ar8 (l:=[]) (a:=8) (n:=1) (pg:=4) (sl:=2) hc0 (by decide) (by decide) ex_0 ex0 rfl).1
 have k0:WOk ex0 T0:=BO2
 obtain ⟨t1,y1,k1⟩:=AZ8 g0 k0 0 1 5
 have g1:D7 ex1:=AC0 g0 0 1 5
 rw [ex_1,show (ex0.write 0 1 5).2=ex1 from rfl] at y1
 rw [show (ex0.write 0 1 5).2=ex1 from rfl] at k1
 obtain ⟨t2,y2,k2⟩:=AZ8 g1 k1 64 2 6
 have g2:D7 ex2:=AC0 g1 64 2 6
 rw [ex_2,show (ex1.write 64 2 6).2=ex2 from rfl] at y2
 rw [show (ex1.write 64 2 6).2=ex2 from rfl] at k2
 obtain ⟨t3,y3,k3⟩:=BC4 g2 k2 0 3
 have g3:D7 ex3:=AM1 g2 0 3
 rw [ex_3.1,ex_3.2,show (ex2.read 0 3).2.2=ex3 from rfl] at y3
 rw [show (ex2.read 0 3).2.2=ex3 from rfl] at k3
 obtain ⟨t4,y4,k4⟩:=BC4 g3 k3 64 4
 have g4:D7 ex4:=AM1 g3 64 4
 rw [ex_4.1,ex_4.2,show (ex3.read 64 4).2.2=ex4 from rfl] at y4
 rw [show (ex3.read 64 4).2.2=ex4 from rfl] at k4
 obtain ⟨t5,y5,k5⟩:=BC4 g4 k4 128 5
 have g5:D7 ex5:=AM1 g4 128 5
 rw [ex_5.1,ex_5.2.1,show (ex4.read 128 5).2.2=ex5 from rfl] at y5
 rw [show (ex4.read 128 5).2.2=ex5 from rfl] at k5
 have n5:=w_Save g5 k5
 unfold Sw.save BK2 at n5
 rw [ex_5.2.2.1,ex_5.2.2.2] at n5
 obtain ⟨t6,y6,k6⟩:=AZ8 g5 k5 128 6 7
 have g6:D7 ex6:=AC0 g5 128 6 7
 rw [ex_6,show (ex5.write 128 6 7).2=ex6 from rfl] at y6
 rw [show (ex5.write 128 6 7).2=ex6 from rfl] at k6
 obtain ⟨t7,y7,k7⟩:=AZ8 g6 k6 192 7 8
 have g7:D7 ex7:=AC0 g6 192 7 8
 rw [ex_7,show (ex6.write 192 7 8).2=ex7 from rfl] at y7
 rw [show (ex6.write 192 7 8).2=ex7 from rfl] at k7
 obtain ⟨t8,y8,k8⟩:=w_Out g7 k7 2
 have g8:D7 ex8:=At1 g7 2
 rw [ex_8,show (ex7.out 2).2=ex8 from rfl] at y8
 rw [show (ex7.out 2).2=ex8 from rfl] at k8
 obtain ⟨t9,y9,k9⟩:=BP6 g8 k8 0
 have g9:D7 ex9:=Al2 g8 0
 rw [ex_9,show (ex8.fre 0).2=ex9 from rfl] at y9
 rw [show (ex8.fre 0).2=ex9 from rfl] at k9
 obtain ⟨t10,y10,k10⟩:=w_Out g9 k9 2
 rw [ex_10] at y10
 clear g0 g1 g2 g3 g4 g5 g6 g7 g8 g9 k0 k1 k2 k3 k4 k5 k6 k7 k8 k9 k10 hc0
 generalize (ex9.out 2).2=q10 at *
 generalize T0=t0 at *
 generalize Sy.new []=s0 at *
 generalize ex0=q0 at *
 generalize ex1=q1 at *
 generalize ex2=q2 at *
 generalize ex3=q3 at *
 generalize ex4=q4 at *
 generalize ex5=q5 at *
 generalize ex6=q6 at *
 generalize ex7=q7 at *
 generalize ex8=q8 at *
 generalize ex9=q9 at *
 refine K9.mk (U2 F6 b10 I7 trivial D9 rfl ?_)
 unfold c10
 (refine wx_Sxp ?_;repeat' (first|with_reducible refine And.intro ?_ ?_|intro hsp))
 all_goals first|exact X5 rfl|(exfalso;omega)|(exfalso;simp at hsp;done)|(exfalso;simp_all;done)
end Go.Proofs.Ytbhgfoikbkaohaa.Sh
namespace Go.Pol
open Go.Am Go.Proofs.Ytbhgfoikbkaohaa.Sh
def d4:Int × Int × Int × Int:=(0,0,0,0)
section
variable {q q':Sw}
theorem AZ6 {j:Nat} (h:j < q.pages.length):nth d4 q.whr j=whE q (nth 0 q.pages j):=by
 unfold Sw.whr
 rw [J8 (by rw [List.length_map];exact h),J8 h,List.getElem_map]
end
end Go.Pol
namespace Go.Proofs.Ytbhgfoikbkaohaa.Sh
open Go Go.Am Go.Pol
theorem plx_Syc {p:Prop} (h:p:=by ((first|exact plw|(with_reducible first|apply P7|apply G6 _|apply G7 _|apply G5 _|apply u6|apply K6|apply L6|apply M4|apply AI4 _|apply W9 _|apply AE7|apply V4|apply F9 Q7|apply F9 AB2|apply AQ3 _|apply H9 V3|fail)|fail);first|done|fail)):p:=h
theorem ppx_Syc {p:Prop} (h:p:=by ((first|with_reducible assumption|(with_reducible first|apply F3|apply AK6|apply AI3|apply AD2|apply AJ0|apply AE0 _|apply AB3 _|apply hpp|apply V3|apply Q7 _|apply Aa8 _|fail)|exact ppw|fail);first|done|fail)):p:=h
open Go.Proofs.Ytbhgfoikbkaohaa.Sh renaming plx_Syc → plx
open Go.Proofs.Ytbhgfoikbkaohaa.Sh renaming ppx_Syc → ppx
theorem AQ3 (x:Int × Int × Int × Int):Plain (.agg (swA x)):=H9 (Q7 x)
theorem Aa8 (q:Sw):∀ x ∈ [AV.int .i64 (q.a:Nat),.int .i64 (q.n:Nat),.int .i64 (q.pg:Nat),.int .i64 (q.sl:Nat),.isl (q.whr.map swA),.isl (q.dsk.map swD),.int .i64 q.ins,.int .i64 q.outs],Plain x:=V3
section
variable {a n pg sl i o:Int} {W:List (Int × Int × Int × Int)} {D:List (Int × (Nat→Int))}
theorem BE4 {x:Int × Int × Int × Int} {b:Bool}:Plain (.tup [.agg (swA x),.bool b]):=F4 (M8 (AQ3 x) D9)
end
section
variable {q:Sw}
end
end Go.Proofs.Ytbhgfoikbkaohaa.Sh
namespace Go.Proofs.Ytbhgfoikbkaohaa
open Go Go.Am Go.Pol
theorem plx_Tj {p:Prop} (h:p:=by ((first|exact plw|(with_reducible first|apply AF8|apply K6|apply L6|apply r9|apply V9|apply AE6|apply AE5|apply AA5|apply AQ4|apply AY0|apply AB7|apply AE4|apply F9 AB4|apply F9 Ac0|apply F9 Ad3|fail)|fail);first|done|fail)):p:=h
theorem ppx_Tj {p:Prop} (h:p:=by ((first|with_reducible assumption|(with_reducible first|apply J2 _|apply P8 J2|apply P8 AB4|apply AB4|apply D5|apply AF0|apply E8 D5|apply AE3 D5|apply AK6|apply F3|fail)|exact ppw|fail);first|done|fail)):p:=h
open Go.Proofs.Ytbhgfoikbkaohaa renaming plx_Tj → plx
open Go.Proofs.Ytbhgfoikbkaohaa renaming ppx_Tj → ppx
section
variable {K:Nat→Int} {M:Nat→Bool} {B:Nat→Nat→Int} {P:List AV}
end
section
variable {s:Sy}
end
end Go.Proofs.Ytbhgfoikbkaohaa
namespace Go.Pol
open Go.Am Go.Proofs.Ytbhgfoikbkaohaa.Sh
def d5:Int × (Nat→Int):=(0,fun _=>0)
end Go.Pol
namespace Go.Proofs.Ytbhgfoikbkaohaa.Sh
open Go Go.Am Go.Pol
theorem plx_Syd {p:Prop} (h:p:=by ((first|exact plw|(with_reducible first|apply P7|apply G6 _|apply G7 _|apply G5 _|apply u6|apply K6|apply L6|apply M4|apply AI4 _|apply W9 _|apply AE7|apply V4|apply F9 Q7|apply F9 AB2|apply AQ3 _|apply H9 V3|apply Ak0|fail)|fail);first|done|fail)):p:=h
theorem ppx_Syd {p:Prop} (h:p:=by ((first|with_reducible assumption|(with_reducible first|apply F3|apply AK6|apply AI3|apply AD2|apply AJ0|apply AE0 _|apply AB3 _|apply hpp|apply V3|apply Q7 _|apply Aa8 _|apply AZ9 _|fail)|exact ppw|fail);first|done|fail)):p:=h
open Go.Proofs.Ytbhgfoikbkaohaa.Sh renaming plx_Syd → plx
open Go.Proofs.Ytbhgfoikbkaohaa.Sh renaming ppx_Syd → ppx
section
variable {a n pg sl i o:Int} {W:List (Int × Int × Int × Int)} {D:List (Int × (Nat→Int))}
end
section
variable {q:Sw} {s:Sy}
end
end Go.Proofs.Ytbhgfoikbkaohaa.Sh
