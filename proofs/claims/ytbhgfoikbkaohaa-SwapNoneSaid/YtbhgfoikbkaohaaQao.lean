/-
 The sorted pages;the page that was touched first.
 The maps of a store behind each change.
 A page is put into a slot.
 A page is touched.
 A page is touched: all of it;reading and writing.
-/
import Derived.Test.YtbhgfoikbkaohaaQan
set_option linter.unusedSimpArgs false
set_option linter.unusedVariables false
set_option maxHeartbeats 6400000
namespace Go.Pol
open Go.Am Go.Proofs.Ytbhgfoikbkaohaa.Sh
def Sw.pages (w:Sw):List Nat:=(List.range w.pg).filter fun p=>decide (w.is p)
def vst (w:Sw) (o:Option Nat) (p:Nat):Option Nat:=if 0≤w.F p then (match o with
  | none=>some p
  | some b=>if w.Z p < w.Z b then some p else some b) else o
theorem Al3 (w:Sw):∀ m,w.vicN m=(List.range m).foldl (vst w) none
 | 0=>rfl
 | m+1=>by
  rw [List.range_succ,List.foldl_append,← Al3 w m]
  rfl
theorem Ai1 {w:Sw}:∀ (l:List Nat) (o:Option Nat),(l.filter fun p=>decide (w.is p)).foldl (vst w) o=l.foldl (vst w) o
 | [],o=>rfl
 | p::l,o=>by
  by_cases h:w.is p
  ·rw [List.filter_cons_of_pos (by simpa using h),List.foldl_cons,List.foldl_cons,Ai1 l]
  ·rw [List.filter_cons_of_neg (by simpa using h),List.foldl_cons,Ai1 l]
   have : vst w o p=o:=if_neg fun h2=>h (.inl h2)
   rw [this]
theorem vic_fold (w:Sw):w.vic=w.pages.foldl (vst w) none:=by unfold Sw.vic Sw.pages;rw [Al3,Ai1]
def Ak4 (w:Sw) (j:Nat):Option Nat:=(w.pages.take j).foldl (vst w) none
theorem vicT_0 {w:Sw}:opA (Ak4 w 0) = -1:=rfl
theorem vicT_s {w:Sw} {j:Nat} (h:j < w.pages.length):Ak4 w (j+1)=vst w (Ak4 w j) (nth 0 w.pages j):=by
 unfold Ak4;rw [AU5 (d:=0) h,List.foldl_append];rfl
theorem vicT_all {w:Sw}:Ak4 w w.pages.length=w.vic:=by rw [vic_fold];unfold Ak4;rw [List.take_length]
theorem vst_in {w:Sw} (hz:∀ p,¬ w.is p→¬ 0≤w.F p) {b:Nat}:∀ (l:List Nat) (o:Option Nat),l.foldl (vst w) o=some b→(o=some b)∨(b ∈ l∧0≤w.F b)
 | [],o,h=>.inl h
 | p::l,o,h=>by
  rcases vst_in hz l _ h with h2 | ⟨h2,h3⟩
  ·unfold vst at h2
   split at h2
   ·rename_i hF
    split at h2
    ·cases h2;exact .inr ⟨List.mem_cons_self ..,hF⟩
    ·split at h2
     ·cases h2;exact .inr ⟨List.mem_cons_self ..,hF⟩
     ·cases h2;exact .inl rfl
   ·exact .inl h2
  ·exact .inr ⟨List.mem_cons_of_mem _ h2,h3⟩
theorem AY3 {w:Sw} (hg:E9 w) {p:Nat}:p ∈ w.pages ↔ w.is p:=by
 unfold Sw.pages
 rw [List.mem_filter,decide_eq_true_eq,List.mem_range]
 exact ⟨fun h=>h.2,fun h=>⟨h.elim (AE7 hg) (AJ1 hg),h⟩⟩
theorem pages_nd {w:Sw}:w.pages.Nodup:=List.nodup_range.filter _
theorem pages_up {w:Sw}:w.pages.Pairwise (· < ·):=List.pairwise_lt_range.filter _
structure WW (w:Sw) (L:List (Int × Int × Int × Int)):Prop where
 nd:ndI L
 gW:∀ p:Int,mgI L p=if 0≤p∧w.is p.toNat then some (w.F p.toNat,w.T p.toNat,w.Z p.toNat) else none
theorem WOk.ww {w:Sw} {t:WS} (h:WOk w t):WW w t.W:=⟨h.ndW,h.gW⟩
theorem AD3 {w:Sw} {t:WS} (hg:E9 w) (h:WW w t.W):(t.W.map (·.1)).Perm (w.pages.map fun p=>((p:Nat):Int)):=by
 refine (List.perm_ext_iff_of_nodup h.nd ?_).2 fun k=>?_
 ·exact List.Pairwise.map (R:=fun a b=>a ≠ b) _ (fun a b hab e=>hab (by omega)) pages_nd
 ·rw [Ah7,List.mem_map]
  constructor
  ·rintro ⟨v,hv⟩
   rw [h.gW] at hv
   split at hv
   ·rename_i hk
    exact ⟨k.toNat,(AY3 hg).2 hk.2,by omega⟩
   ·cases hv
  ·rintro ⟨p,hp,rfl⟩
   exact ⟨_,by rw [h.gW,if_pos ⟨by omega,by rw [Int.toNat_natCast];exact (AY3 hg).1 hp⟩]⟩
theorem An0 {w:Sw}:(w.pages.map fun p=>((p:Nat):Int)).Pairwise (· < ·):=List.Pairwise.map (R:=fun a b=>a < b) _ (fun a b hab=>by omega) pages_up
theorem AO8 {w:Sw} {t:WS} (h:WW w t.W) {p:Nat} (hp:w.is p):mgI t.W (p:Nat)=some (w.F p,w.T p,w.Z p):=by
 rw [h.gW,if_pos ⟨by omega,by rw [Int.toNat_natCast];exact hp⟩,Int.toNat_natCast]
theorem BR4 {w:Sw} {t:WS} (h:WW w t.W) {p:Nat} (hp:¬ w.is p):mgI t.W (p:Nat)=none:=by
 rw [h.gW,if_neg fun h2=>hp (by rw [Int.toNat_natCast] at h2;exact h2.2)]
end Go.Pol
namespace Go.Proofs.Ytbhgfoikbkaohaa.Sh
open Go Go.Am Go.Pol
open Go.Proofs.Ytbhgfoikbkaohaa.Sh renaming plx_Sxc → plx
open Go.Proofs.Ytbhgfoikbkaohaa.Sh renaming ppx_Sxc → ppx
theorem wx_Sxe {p q:Prop} (hq:q) (h:Y7 q→p:=by (intro hQz;((repeat' ((try (conv=>whnf));first|(with_reducible first|refine L8 ?_|refine I7 ?_|refine M4 ?_|refine M6 ?_|refine J3 ?_|refine R8 ?_|refine K9 ?_|refine R7 rfl ?_|refine L6 ?_|refine G8 ?_|refine I9 ?_|refine J2 ?_|refine M5 ?_|refine G7 ?_|refine I8 (by decide +kernel) ?_|refine H9 (by decide +kernel) ?_|refine AF4 ?_|refine AF5 ?_|refine Ar4 ?_|refine Z9 ?_|refine AK5 ?_|refine Ak7 (by assumption) ?_|refine Ak8 (by assumption) ?_|refine Z7 (by omega) ?_|refine AK4 ?_)|((with_reducible refine AK6 ?_ ?_);focus omega)|((with_reducible refine AK7 ?_ ?_);focus omega)|((with_reducible apply V7 hQz)<;>(try intro hsp hQz))|((with_reducible refine Ar2 ?_ ?_);focus (first|omega|rfl|assumption|decide|(simp only [List.length_map,List.length_cons,List.length_nil];omega)|exact hmk))|refine AH3 (hmk) ?_|(with_reducible first|refine AK1 ?_|refine Z6 ?_|refine Z5 ?_|refine AK3 ?_|refine AK2 ?_|refine AJ9 ?_|refine Ar1 ?_|refine G5 ?_|refine Y9 ?_|refine M0 ?_|refine L9 ?_|refine G6 ?_|refine AK0 (by omega) ?_|refine Z4 (by omega) ?_)|refine mlen_i rfl ?_|refine BD3 rfl rfl (by omega) ?_|refine J5 hS ?_|refine Y3 hgp rfl ?_|refine Y3 hgb rfl ?_|refine sxF ?_|refine cx_so K3 hs rfl (by decide) ?_|refine Aj3 F6 rfl hF hA hB rfl ?_|(refine R4 F6 b34 rfl ?_;unfold c34)|refine sxH ?_|((with_reducible apply V8 hQz)<;>(try intro hsp hQz))|exact hQz.out))<;>(try (conv=>whnf))))):p:=h ⟨hq⟩
section
variable {q:Sw} {t:WS}
theorem nth_is (hg:E9 q) {j:Nat} (hj:j < q.pages.length):q.is (nth 0 q.pages j):=(AY3 hg).1 (Au0 hj)
theorem pgI_at {j:Nat} (hj:j < q.pages.length):((q.pages.map fun p=>((p:Nat):Int)).map (AV.int .i64))[j]? = some (.int .i64 ((nth 0 q.pages j:Nat):Int)):=by
 rw [AM1 hj,List.getElem?_map,List.getElem?_map,List.getElem?_eq_getElem hj];rfl
theorem BW7 (hg:E9 q) (h:WW q t.W):J9 36 [] q t (.int .i64 (opA q.vic)) q t:=by
 have hwl:t.W.length≤256:=by
  have:=(AD3 hg h).length_eq
  rw [List.length_map,List.length_map] at this
  have h2:q.pages.length≤q.pg:=Nat.le_trans (List.length_filter_le ..) (by rw [List.length_range];exact Nat.le_refl _)
  have:=hg.rng;omega
 have hpl:t.W.length=q.pages.length:=by
  have:=(AD3 hg h).length_eq
  rwa [List.length_map,List.length_map] at this
 have hmk:=kyC_0 (n:=t.W.length)
 refine J9.mk (J6 F6 b36 rfl ?_) (fun x hx=>by cases hx) A8
 unfold c36
 unfold stN stC
 (refine wx_Sxe ?_;repeat' (first|with_reducible refine And.intro ?_ ?_|intro hsp))
 refine At3 F6 BU5 rfl trivial ?_
 intro frl asl bdl hF hA hB
 unfold cKs0
 (refine wx_Sxe ?_;repeat' (first|with_reducible refine And.intro ?_ ?_|intro hsp))
 refine KeysX.mk fun ck hck=>BQ1 F6 hck (i:=1) (it:=10) (pb:=7) (po:=0) (cs:=[]) (ks:=t.W.map (·.1)) [] (fun vis=>[(0,.yld 8),(1,.ptr 7 0),(3,.sl 9 0 vis.length t.W.length 1)]) (fun vis=>[(0,.cells (stC 4 1 2 3 q)),(2,.maps (encW byE t.D)),(3,.maps (encW nuE t.H)),(4,.cells q.s.a),(5,.cells [.ptr 0 0]),(6,.cells [.int .i64 (-1)]),(7,.cells [.mapr 1]),(8,.loop .ready none frl [11,12] asl bdl),(9,.cells (kyC vis t.W.length))]) Aj1 h.nd rfl rfl rfl (.inr ⟨_,rfl⟩) rfl (by decide) (by decide) rfl (fun _=>rfl) rfl (fun _=>rfl) ?_ ?_ ?_
 ·exact AA8
 ·intro vis k hnd hsub
  have hl1:vis.length < t.W.length:=by
   have:=Ah9 hnd hsub
   rw [List.length_append,List.length_map] at this
   exact this
  unfold cKs4
  (refine wx_Sxe ?_;repeat' (first|with_reducible refine And.intro ?_ ?_|intro hsp))
  refine ⟨[],rfl,?_⟩
  rw [show (vis++[k]).length=vis.length+1 by simp]
  exact AA8
 ·intro vis hperm
  have hlen:vis.length=t.W.length:=by rw [hperm.length_eq,List.length_map]
  have hs:=so_ok hlen (hperm.trans (AD3 hg h)) An0 (by omega)
  rw [Av1 hlen,hlen]
  unfold cKs1
  unfold cKsR
  (refine wx_Sxe ?_;repeat' (first|with_reducible refine And.intro ?_ ?_|intro hsp))
  rw [hpl]
  have hv0:=vicT_0 (w:=q)
  (refine V4 [0,1,22,23] (fun (j:Nat)=>[(24,.int .i64 (j:Nat))]) (fun (j:Nat)=>⟨stN q t 0 1 2 3 4++[(5,.cells [.ptr 0 0]),(6,.cells [.int .i64 (opA (Ak4 q j))]),(7,.cells [.mapr 1]),(8,.loop .ready none frl [11,12] asl bdl),(9,.cells ((q.pages.map fun p=>((p:Nat):Int)).map (AV.int .i64)))],11⟩) (fun (j:Nat)=>j≤q.pages.length) (fun (j:Nat)=>q.pages.length - j) (0) [] rfl (fun _=>by first|exact Nat.zero_le _|(dsimp only;omega)) ?_ (by ((try (conv=>whnf));(rw [hv0]);exact AA8)) ?_)
  ·exact Nat.zero_le _
  intro j hj
  by_cases hjl:j < q.pages.length
  ·have hip:=nth_is hg hjl
   have hS:=pgI_at hjl
   have hvs:=vicT_s hjl
   generalize nth 0 q.pages j=p at *
   have hgp:=AO8 h hip
   by_cases hF0:0≤q.F p
   ·rcases (show Ak4 q j=none∨∃ b,Ak4 q j=some b by cases Ak4 q j<;>simp) with hv | ⟨b,hv⟩
    ·have hy:opA (Ak4 q j) = -1:=by rw [hv];rfl
     have hnx:opA (Ak4 q (j+1))=(p:Nat):=by rw [hvs,hv];unfold vst;rw [if_pos hF0];rfl
     rw [hy]
     unfold stN stC
     (refine wx_Sxe ?_;repeat' (first|with_reducible refine And.intro ?_ ?_|intro hsp))
     all_goals first|(exfalso;omega)|exact J8 (j+1) [] (by (try dsimp only);omega) (by first|omega|(dsimp only;omega)) rfl (by ((try dsimp only);rw [hnx]);exact AA8)
    ·have hy:opA (Ak4 q j)=(b:Nat):=by rw [hv];rfl
     have hb:0≤q.F b:=by
      rcases vst_in (w:=q) (fun p hp h2=>hp (.inl h2)) _ _ hv with h2 | ⟨_,h2⟩
      ·cases h2
      ·exact h2
     have hgb:=AO8 h (p:=b) (.inl hb)
     by_cases hz:q.Z p < q.Z b
     ·have hnx:opA (Ak4 q (j+1))=(p:Nat):=by rw [hvs,hv];unfold vst;rw [if_pos hF0];dsimp only;rw [if_pos hz];rfl
      rw [hy]
      unfold stN stC
      (refine wx_Sxe ?_;repeat' (first|with_reducible refine And.intro ?_ ?_|intro hsp))
      all_goals first|(exfalso;omega)|exact J8 (j+1) [] (by (try dsimp only);omega) (by first|omega|(dsimp only;omega)) rfl (by ((try dsimp only);rw [hnx]);exact AA8)
     ·have hnx:opA (Ak4 q (j+1))=(b:Nat):=by rw [hvs,hv];unfold vst;rw [if_pos hF0];dsimp only;rw [if_neg hz];rfl
      rw [hy]
      unfold stN stC
      (refine wx_Sxe ?_;repeat' (first|with_reducible refine And.intro ?_ ?_|intro hsp))
      all_goals first|(exfalso;omega)|exact J8 (j+1) [] (by (try dsimp only);omega) (by first|omega|(dsimp only;omega)) rfl (by ((try dsimp only);rw [hnx]);exact AA8)
   ·have hnx:opA (Ak4 q (j+1))=opA (Ak4 q j):=by rw [hvs];unfold vst;rw [if_neg hF0]
    generalize opA (Ak4 q j)=y at *
    unfold stN stC
    (refine wx_Sxe ?_;repeat' (first|with_reducible refine And.intro ?_ ?_|intro hsp))
    all_goals first|(exfalso;omega)|exact J8 (j+1) [] (by (try dsimp only);omega) (by first|omega|(dsimp only;omega)) rfl (by ((try dsimp only);rw [hnx]);exact AA8)
  ·obtain rfl:j=q.pages.length:=by omega
   rw [vicT_all]
   unfold stN stC
   (refine wx_Sxe ?_;repeat' (first|with_reducible refine And.intro ?_ ?_|intro hsp))
   all_goals first|(exfalso;omega)|exact K8 rfl A8 rfl rfl rfl rfl rfl
end
end Go.Proofs.Ytbhgfoikbkaohaa.Sh
namespace Go.Pol
open Go.Am Go.Proofs.Ytbhgfoikbkaohaa.Sh
section
variable {w:Sw} {t:WS}
theorem AU1 {f:Nat→Int} {i j:Nat} {v:Int}:E8 f i v j=if j=i then v else f j:=rfl
theorem Ax8 (hg:E9 w) (p:Nat):(w.F p = -1)∨(w.T p = -1∧0≤w.F p):=by
 rcases hg.fr p with h | ⟨h1,f,h2,_⟩
 ·exact .inl h
 ·exact .inr ⟨h1,by omega⟩
theorem Ab5 (hg:E9 w) (p:Nat):(w.T p = -1)∨(w.F p = -1∧0≤w.T p):=by
 rcases hg.sl p with h | ⟨h1,f,h2,_⟩
 ·exact .inl h
 ·exact .inr ⟨h1,by omega⟩
theorem Al0 {w':Sw} {t':WS} (n1:ndI t'.W) (n2:ndI t'.D) (n3:ndI t'.H) (hf:∀ p,w'.pg≤p→w'.T p = -1)
  (g1:∀ p:Nat,mgI t'.W (p:Nat)=if w'.is p then some (w'.F p,w'.T p,w'.Z p) else none) (g1':∀ p:Int,p < 0→mgI t'.W p=none)
  (g2:∀ k:Nat,(∀ p,w'.T p=(k:Nat)→mgI t'.D (k:Nat)=some (w'.D k))∧((∀ p,w'.T p ≠ (k:Nat))→mgI t'.D (k:Nat)=none)) (g2':∀ k:Int,k < 0→mgI t'.D k=none)
  (g3:∀ (f p:Nat),mgI t'.H (f:Nat)=some ((p:Nat):Int) ↔ w'.F p=(f:Nat)) (g3':∀ f:Int,f < 0→mgI t'.H f=none) (g3n:∀ (f p:Int),mgI t'.H f=some p→0≤p):WOk w' t':=by
 refine ⟨n1,n2,n3,fun p=>?_,fun k=>?_,fun f p=>?_⟩
 ·by_cases h0:0≤p
  ·obtain ⟨m,rfl⟩:=Int.eq_ofNat_of_zero_le h0
   rw [g1,Int.toNat_natCast]
   by_cases hi:w'.is m
   ·rw [if_pos hi,if_pos ⟨h0,hi⟩]
   ·rw [if_neg hi,if_neg fun h=>hi h.2]
  ·rw [g1' p (by omega),if_neg fun h=>h0 h.1]
 ·by_cases h0:0≤k
  ·obtain ⟨m,rfl⟩:=Int.eq_ofNat_of_zero_le h0
   rw [Int.toNat_natCast]
   by_cases hh:w'.heldT m
   ·obtain ⟨p,_,hp⟩:=hh
    rw [if_pos ⟨h0,⟨p,by assumption,hp⟩⟩]
    exact (g2 m).1 p hp
   ·rw [if_neg fun h=>hh h.2]
    refine (g2 m).2 fun p hp=>hh ⟨p,?_,hp⟩
    exact Classical.byContradiction fun hn=>by rw [hf p (by omega)] at hp;omega
  ·rw [g2' k (by omega),if_neg fun h=>h0 h.1]
 ·by_cases h0:0≤f
  ·obtain ⟨m,rfl⟩:=Int.eq_ofNat_of_zero_le h0
   constructor
   ·intro h
    have hp:=g3n _ _ h
    obtain ⟨j,rfl⟩:=Int.eq_ofNat_of_zero_le hp
    rw [Int.toNat_natCast]
    exact ⟨hp,h0,(g3 m j).1 h⟩
   ·rintro ⟨h1,_,h3⟩
    obtain ⟨j,rfl⟩:=Int.eq_ofNat_of_zero_le h1
    rw [Int.toNat_natCast] at h3
    exact (g3 m j).2 h3
  ·rw [g3' f (by omega)]
   exact ⟨fun h=>(by cases h),fun h=>absurd h.2.1 h0⟩
theorem gW_n (h:WOk w t) (p:Nat):mgI t.W (p:Nat)=if w.is p then some (w.F p,w.T p,w.Z p) else none:=by
 by_cases hi:w.is p
 ·rw [if_pos hi,AO8 h.ww hi]
 ·rw [if_neg hi,BR4 h.ww hi]
theorem Ao4 (h:WOk w t) {p:Int} (hp:p < 0):mgI t.W p=none:=by rw [h.gW,if_neg fun h2=>by have:=h2.1;omega]
theorem AZ5 (h:WOk w t) {k:Int} (hk:k < 0):mgI t.D k=none:=by rw [h.gD,if_neg fun h2=>by have:=h2.1;omega]
theorem AT8 (hg:E9 w) (h:WOk w t) {p k:Nat} (hp:w.T p=(k:Nat)):mgI t.D (k:Nat)=some (w.D k):=by
 rw [h.gD,if_pos ⟨by omega,by rw [Int.toNat_natCast];exact ⟨p,AJ1 hg (by omega),hp⟩⟩,Int.toNat_natCast]
theorem Ao5 (h:WOk w t) {k:Nat} (hp:∀ p,w.T p ≠ (k:Nat)):mgI t.D (k:Nat)=none:=by
 rw [h.gD,if_neg fun h2=>by
  have:=h2.2
  rw [Int.toNat_natCast] at this
  obtain ⟨p,_,h3⟩:=this
  exact hp p h3]
theorem gH_n (h:WOk w t) (f p:Nat):mgI t.H (f:Nat)=some ((p:Nat):Int) ↔ w.F p=(f:Nat):=by
 rw [h.gH,Int.toNat_natCast]
 exact ⟨fun h=>h.2.2,fun h=>⟨by omega,by omega,h⟩⟩
theorem Ae3 (h:WOk w t) {f:Int} (hf:f < 0):mgI t.H f=none:=by
 cases hm:mgI t.H f with
 | none=>rfl
 | some p=>have:=((h.gH f p).1 hm).2.1;omega
theorem BR5 (h:WOk w t) {f p:Int} (hf:mgI t.H f=some p):0≤p:=((h.gH f p).1 hf).1
theorem AW7 (h:WOk w t) (s':Sy):WOk { w with s:=s' } t:=⟨h.ndW,h.ndD,h.ndH,h.gW,h.gD,h.gH⟩
theorem BI1 (hg:E9 w) (h:WOk w t) {p:Nat} (hp:0≤w.F p) (now:Int):WOk { w with Z:=E8 w.Z p now } ⟨mpI t.W (p:Nat) (w.F p,w.T p,now),t.D,t.H⟩:=by
 refine Al0 (Ac3 h.ndW) h.ndD h.ndH (fun j hj=>(hg.far j hj).2) (fun j=>?_) (fun j hj=>?_) (fun k=>⟨fun j hj=>AT8 hg h hj,fun hj=>Ao5 h hj⟩) (fun k hk=>AZ5 h hk) (fun f j=>gH_n h f j) (fun f hf=>Ae3 h hf) (fun f j hj=>BR5 h hj)
 ·show mgI (mpI t.W (p:Nat) (w.F p,w.T p,now)) (j:Nat)=if w.is j then some (w.F j,w.T j,E8 w.Z p now j) else none
  rw [l6,AU1,gW_n h]
  by_cases e:j=p
  ·subst e;rw [if_pos rfl,if_pos (.inl hp),if_pos rfl]
  ·rw [if_neg (by omega),if_neg e]
 ·show mgI (mpI t.W (p:Nat) (w.F p,w.T p,now)) j=none
  rw [l6,if_neg (by omega),Ao4 h hj]
theorem BI2 (hg:E9 w) (h:WOk w t) {p f:Nat} (hp:p < w.pg) (hn:¬ 0≤w.F p) (hf:¬ w.heldF f) (now:Int) (x:Nat→Int):WOk (w.brg p f now x) ⟨mpI t.W (p:Nat) ((f:Nat),-1,now),mdI t.D (w.T p),mpI t.H (f:Nat) (p:Nat)⟩:=by
 have hfn:∀ j,w.F j ≠ (f:Nat):=fun j hj=>hf ⟨j,AE7 hg (by omega),hj⟩
 have hFp:w.F p = -1:=(Ax8 hg p).resolve_right fun h=>hn h.2
 refine Al0 (Ac3 h.ndW) (Au1 h.ndD) (Ac3 h.ndH) (fun j hj=>?_) (fun j=>?_) (fun j hj=>?_) (fun k=>⟨fun j hj=>?_,fun hj=>?_⟩) (fun k hk=>?_) (fun g j=>?_) (fun g hg'=>?_) (fun g j hj=>?_)
 ·show E8 w.T p (-1) j = -1
  rw [AU1]
  split
  ·rfl
  ·exact (hg.far j hj).2
 ·show mgI (mpI t.W (p:Nat) ((f:Nat),-1,now)) (j:Nat)=if (0≤E8 w.F p (f:Nat) j∨0≤E8 w.T p (-1) j) then some (E8 w.F p (f:Nat) j,E8 w.T p (-1) j,E8 w.Z p now j) else none
  rw [l6,AU1,AU1,AU1,gW_n h]
  by_cases e:j=p
  ·subst e;rw [if_pos rfl,if_pos rfl,if_pos rfl,if_pos rfl,if_pos (.inl (by omega))]
  ·rw [if_neg (by omega),if_neg e,if_neg e,if_neg e];rfl
 ·show mgI (mpI t.W (p:Nat) ((f:Nat),-1,now)) j=none
  rw [l6,if_neg (by omega),Ao4 h hj]
 ·have hj':E8 w.T p (-1) j=(k:Nat):=hj
  rw [AU1] at hj'
  show mgI (mdI t.D (w.T p)) (k:Nat)=some (w.D k)
  split at hj'
  ·omega
  ·rename_i e
   rw [AB8 h.ndD,if_neg fun e2=>e (hg.oneT j p (by omega) (by omega)),AT8 hg h hj']
 ·show mgI (mdI t.D (w.T p)) (k:Nat)=none
  rw [AB8 h.ndD]
  by_cases e:((k:Nat):Int)=w.T p
  ·rw [if_pos e]
  ·rw [if_neg e]
   refine Ao5 h fun i hi=>?_
   have:=hj i
   have h2:E8 w.T p (-1) i ≠ (k:Nat):=this
   rw [AU1] at h2
   split at h2
   ·rename_i e2;subst e2;exact e hi.symm
   ·exact h2 hi
 ·show mgI (mdI t.D (w.T p)) k=none
  rw [AB8 h.ndD,AZ5 h hk];split<;>rfl
 ·show mgI (mpI t.H (f:Nat) (p:Nat)) (g:Nat)=some ((j:Nat):Int) ↔ E8 w.F p (f:Nat) j=(g:Nat)
  rw [l6,AU1]
  by_cases e:g=f
  ·subst e
   rw [if_pos rfl]
   by_cases e2:j=p
   ·subst e2;rw [if_pos rfl];simp
   ·rw [if_neg e2]
    exact ⟨fun h=>absurd (Option.some.inj h) (by omega),fun h=>absurd h (hfn j)⟩
  ·rw [if_neg (by omega),gH_n h]
   by_cases e2:j=p
   ·subst e2;rw [if_pos rfl,hFp];exact ⟨fun h=>by omega,fun h=>by omega⟩
   ·rw [if_neg e2]
 ·show mgI (mpI t.H (f:Nat) (p:Nat)) g=none
  rw [l6,if_neg (by omega),Ae3 h hg']
 ·have hj':mgI (mpI t.H (f:Nat) (p:Nat)) g=some j:=hj
  rw [l6] at hj'
  split at hj'
  ·cases hj';omega
  ·exact BR5 h hj'
theorem Ar7 (hg:E9 w) (h:WOk w t) {p v f k:Nat} (hp:p < w.pg) (hn:¬ 0≤w.F p) (hv:w.F v=(f:Nat)) (hk:((k:Nat):Int)=w.T p∨¬ w.heldT k) (now:Int) (x:Nat→Int) :
  WOk ((w.put v k).brg p (w.F v).toNat now x) ⟨mpI (mpI t.W (v:Nat) (-1,(k:Nat),w.Z v)) (p:Nat) ((f:Nat),-1,now),mpI (mdI t.D (w.T p)) (k:Nat) (w.s.B f),mpI (mdI t.H (f:Nat)) (f:Nat) (p:Nat)⟩:=by
 have hFp:w.F p = -1:=(Ax8 hg p).resolve_right fun h=>hn h.2
 have hvp:v ≠ p:=fun e=>by rw [e,hFp] at hv;omega
 have hTv:w.T v = -1:=(Ab5 hg v).resolve_right fun h=>by rw [h.1] at hv;omega
 have hkn:∀ j,j ≠ p→w.T j ≠ (k:Nat):=fun j hj e=>by
  rcases hk with hk|hk
  ·exact hj (hg.oneT j p (by omega) (by omega))
  ·exact hk ⟨j,AJ1 hg (by omega),e⟩
 have hfn:∀ j,j ≠ v→w.F j ≠ (f:Nat):=fun j hj e=>hj (hg.oneF j v (by omega) (by omega))
 have hft:(w.F v).toNat=f:=by rw [hv,Int.toNat_natCast]
 have eF:∀ j,((w.put v k).brg p (w.F v).toNat now x).F j=if j=p then ((f:Nat):Int) else if j=v then -1 else w.F j:=fun j=>by
  show E8 (E8 w.F v (-1)) p ((w.F v).toNat:Nat) j=_
  rw [hft,AU1,AU1]
 have eT:∀ j,((w.put v k).brg p (w.F v).toNat now x).T j=if j=p then -1 else if j=v then ((k:Nat):Int) else w.T j:=fun j=>by
  show E8 (E8 w.T v (k:Nat)) p (-1) j=_
  rw [AU1,AU1]
 have eZ:∀ j,((w.put v k).brg p (w.F v).toNat now x).Z j=if j=p then now else w.Z j:=fun j=>rfl
 have eD:∀ j,((w.put v k).brg p (w.F v).toNat now x).D j=if j=k then w.s.B f else w.D j:=fun j=>by
  show AC2 w.D k (w.s.B (w.F v).toNat) j=_
  rw [hft];rfl
 have hpg:((w.put v k).brg p (w.F v).toNat now x).pg=w.pg:=rfl
 have hvl:v < w.pg:=AE7 hg (by omega)
 have eis:∀ j,((w.put v k).brg p (w.F v).toNat now x).is j ↔ (j=p∨j=v∨w.is j):=fun j=>by
  unfold Sw.is
  rw [eF,eT]
  by_cases e1:j=p
  ·rw [if_pos e1,if_pos e1];exact ⟨fun _=>.inl e1,fun _=>.inl (by omega)⟩
  ·rw [if_neg e1,if_neg e1]
   by_cases e2:j=v
   ·rw [if_pos e2,if_pos e2];exact ⟨fun _=>.inr (.inl e2),fun _=>.inr (by omega)⟩
   ·rw [if_neg e2,if_neg e2]
    exact ⟨fun h=>.inr (.inr h),fun h=>h.elim (fun h=>absurd h e1) fun h=>h.elim (fun h=>absurd h e2) id⟩
 generalize (w.put v k).brg p (w.F v).toNat now x=w' at *
 refine Al0 (Ac3 (Ac3 h.ndW)) (Ac3 (Au1 h.ndD)) (Ac3 (Au1 h.ndH)) (fun j hj=>?_) (fun j=>?_) (fun j hj=>?_) (fun m=>⟨fun j hj=>?_,fun hj=>?_⟩) (fun m hm=>?_) (fun g j=>?_) (fun g hg'=>?_) (fun g j hj=>?_)
 ·rw [eT,if_neg (by omega),if_neg (by omega)];exact (hg.far j (by omega)).2
 ·dsimp only
  rw [l6,l6,gW_n h,eF,eT,eZ]
  by_cases e1:j=p
  ·subst e1;rw [if_pos rfl,if_pos rfl,if_pos rfl,if_pos rfl,if_pos ((eis j).2 (.inl rfl))]
  ·rw [if_neg (by omega),if_neg e1,if_neg e1,if_neg e1]
   by_cases e2:j=v
   ·subst e2;rw [if_pos rfl,if_pos rfl,if_pos rfl,if_pos ((eis j).2 (.inr (.inl rfl)))]
   ·rw [if_neg (by omega),if_neg e2,if_neg e2]
    by_cases hi:w.is j
    ·rw [if_pos hi,if_pos ((eis j).2 (.inr (.inr hi)))]
    ·rw [if_neg hi,if_neg fun h2=>((eis j).1 h2).elim e1 fun h3=>h3.elim e2 hi]
 ·dsimp only
  rw [l6,if_neg (by omega),l6,if_neg (by omega),Ao4 h hj]
 ·rw [eT] at hj
  dsimp only
  rw [l6,eD]
  by_cases e:m=k
  ·subst e;rw [if_pos rfl,if_pos rfl]
  ·rw [if_neg (by omega),if_neg e,AB8 h.ndD]
   split at hj
   ·omega
   ·rename_i e1
    split at hj
    ·omega
    ·rw [if_neg fun e2=>e1 (hg.oneT j p (by omega) (by omega)),AT8 hg h hj]
 ·dsimp only
  have hne:m ≠ k:=fun e=>by
   have:=hj v
   rw [eT,if_neg hvp,if_pos rfl] at this
   exact this (by omega)
  rw [l6,if_neg (by omega),AB8 h.ndD]
  by_cases e:((m:Nat):Int)=w.T p
  ·rw [if_pos e]
  ·rw [if_neg e]
   refine Ao5 h fun i hi=>?_
   have h2:=hj i
   rw [eT] at h2
   split at h2
   ·rename_i e2;subst e2;exact e hi.symm
   ·split at h2
    ·rename_i e2;subst e2;omega
    ·exact h2 hi
 ·dsimp only
  rw [l6,if_neg (by omega),AB8 h.ndD,AZ5 h hm];split<;>rfl
 ·dsimp only
  rw [l6,eF]
  by_cases e:g=f
  ·subst e
   rw [if_pos rfl]
   by_cases e2:j=p
   ·subst e2;rw [if_pos rfl];simp
   ·rw [if_neg e2]
    constructor
    ·intro h;exact absurd (Option.some.inj h) (by omega)
    ·intro h2
     split at h2
     ·omega
     ·rename_i e3;exact absurd h2 (hfn j e3)
  ·rw [if_neg (by omega),AB8 h.ndH,if_neg (by omega),gH_n h]
   by_cases e2:j=p
   ·subst e2;rw [if_pos rfl,hFp];exact ⟨fun h=>by omega,fun h=>by omega⟩
   ·rw [if_neg e2]
    by_cases e3:j=v
    ·subst e3;rw [if_pos rfl,hv];exact ⟨fun h=>by omega,fun h=>by omega⟩
    ·rw [if_neg e3]
 ·dsimp only
  rw [l6,if_neg (by omega),AB8 h.ndH,Ae3 h hg'];split<;>rfl
 ·dsimp only at hj
  rw [l6] at hj
  split at hj
  ·cases hj;omega
  ·rw [AB8 h.ndH] at hj
   split at hj
   ·cases hj
   ·exact BR5 h hj
theorem wok_out (hg:E9 w) (h:WOk w t) {p f k:Nat} (hv:w.F p=(f:Nat)) (hk:¬ w.heldT k):WOk (w.put p k) ⟨mpI t.W (p:Nat) (-1,(k:Nat),w.Z p),mpI t.D (k:Nat) (w.s.B f),mdI t.H (f:Nat)⟩:=by
 have hTp:w.T p = -1:=(Ab5 hg p).resolve_right fun h=>by rw [h.1] at hv;omega
 have hpl:p < w.pg:=AE7 hg (by omega)
 have hkn:∀ j,w.T j ≠ (k:Nat):=fun j e=>hk ⟨j,AJ1 hg (by omega),e⟩
 have hft:(w.F p).toNat=f:=by rw [hv,Int.toNat_natCast]
 have eF:∀ j,(w.put p k).F j=if j=p then -1 else w.F j:=fun j=>rfl
 have eT:∀ j,(w.put p k).T j=if j=p then ((k:Nat):Int) else w.T j:=fun j=>rfl
 have eZ:∀ j,(w.put p k).Z j=w.Z j:=fun j=>rfl
 have eD:∀ j,(w.put p k).D j=if j=k then w.s.B f else w.D j:=fun j=>by
  show AC2 w.D k (w.s.B (w.F p).toNat) j=_
  rw [hft];rfl
 have hpg:(w.put p k).pg=w.pg:=rfl
 have eis:∀ j,(w.put p k).is j ↔ (j=p∨w.is j):=fun j=>by
  unfold Sw.is
  rw [eF,eT]
  by_cases e1:j=p
  ·rw [if_pos e1,if_pos e1];exact ⟨fun _=>.inl e1,fun _=>.inr (by omega)⟩
  ·rw [if_neg e1,if_neg e1]
   exact ⟨fun h=>.inr h,fun h=>h.elim (fun h=>absurd h e1) id⟩
 generalize w.put p k=w' at *
 refine Al0 (Ac3 h.ndW) (Ac3 h.ndD) (Au1 h.ndH) (fun j hj=>?_) (fun j=>?_) (fun j hj=>?_) (fun m=>⟨fun j hj=>?_,fun hj=>?_⟩) (fun m hm=>?_) (fun g j=>?_) (fun g hg'=>?_) (fun g j hj=>?_)
 ·rw [eT,if_neg (by omega)];exact (hg.far j (by omega)).2
 ·dsimp only
  rw [l6,gW_n h,eF,eT,eZ]
  by_cases e1:j=p
  ·subst e1;rw [if_pos rfl,if_pos rfl,if_pos rfl,if_pos ((eis j).2 (.inl rfl))]
  ·rw [if_neg (by omega),if_neg e1,if_neg e1]
   by_cases hi:w.is j
   ·rw [if_pos hi,if_pos ((eis j).2 (.inr hi))]
   ·rw [if_neg hi,if_neg fun h2=>((eis j).1 h2).elim e1 hi]
 ·dsimp only
  rw [l6,if_neg (by omega),Ao4 h hj]
 ·rw [eT] at hj
  dsimp only
  rw [l6,eD]
  by_cases e:m=k
  ·subst e;rw [if_pos rfl,if_pos rfl]
  ·rw [if_neg (by omega),if_neg e]
   split at hj
   ·omega
   ·exact AT8 hg h hj
 ·dsimp only
  have hne:m ≠ k:=fun e=>by
   have:=hj p
   rw [eT,if_pos rfl] at this
   exact this (by omega)
  rw [l6,if_neg (by omega)]
  refine Ao5 h fun i hi=>?_
  have h2:=hj i
  rw [eT] at h2
  split at h2
  ·rename_i e2;subst e2;omega
  ·exact h2 hi
 ·dsimp only
  rw [l6,if_neg (by omega),AZ5 h hm]
 ·dsimp only
  rw [AB8 h.ndH,eF]
  by_cases e:g=f
  ·subst e
   rw [if_pos rfl]
   constructor
   ·intro h;cases h
   ·intro h2
    split at h2
    ·omega
    ·rename_i e3;exact absurd (hg.oneF j p (by omega) (by omega)) e3
  ·rw [if_neg (by omega),gH_n h]
   by_cases e2:j=p
   ·subst e2;rw [if_pos rfl,hv];exact ⟨fun h=>by omega,fun h=>by omega⟩
   ·rw [if_neg e2]
 ·dsimp only
  rw [AB8 h.ndH,Ae3 h hg'];split<;>rfl
 ·dsimp only at hj
  rw [AB8 h.ndH] at hj
  split at hj
  ·cases hj
  ·exact BR5 h hj
theorem wok_fre (hg:E9 w) (h:WOk w t) {p:Nat} (hi:w.is p):WOk { w with F:=E8 w.F p (-1),T:=E8 w.T p (-1),Z:=E8 w.Z p 0 } ⟨mdI t.W (p:Nat),mdI t.D (w.T p),mdI t.H (w.F p)⟩:=by
 have eF:∀ j,({ w with F:=E8 w.F p (-1),T:=E8 w.T p (-1),Z:=E8 w.Z p 0 }:Sw).F j=if j=p then -1 else w.F j:=fun j=>rfl
 have eT:∀ j,({ w with F:=E8 w.F p (-1),T:=E8 w.T p (-1),Z:=E8 w.Z p 0 }:Sw).T j=if j=p then -1 else w.T j:=fun j=>rfl
 have eZ:∀ j,j ≠ p→({ w with F:=E8 w.F p (-1),T:=E8 w.T p (-1),Z:=E8 w.Z p 0 }:Sw).Z j=w.Z j:=fun j hj=>if_neg hj
 have eD:∀ j,({ w with F:=E8 w.F p (-1),T:=E8 w.T p (-1),Z:=E8 w.Z p 0 }:Sw).D j=w.D j:=fun j=>rfl
 have hpg:({ w with F:=E8 w.F p (-1),T:=E8 w.T p (-1),Z:=E8 w.Z p 0 }:Sw).pg=w.pg:=rfl
 have eis:∀ j,({ w with F:=E8 w.F p (-1),T:=E8 w.T p (-1),Z:=E8 w.Z p 0 }:Sw).is j ↔ (j ≠ p∧w.is j):=fun j=>by
  unfold Sw.is
  rw [eF,eT]
  by_cases e1:j=p
  ·rw [if_pos e1,if_pos e1];exact ⟨fun h=>by omega,fun h=>absurd e1 h.1⟩
  ·rw [if_neg e1,if_neg e1]
   exact ⟨fun h=>⟨e1,h⟩,fun h=>h.2⟩
 generalize ({ w with F:=E8 w.F p (-1),T:=E8 w.T p (-1),Z:=E8 w.Z p 0 }:Sw)=w' at *
 refine Al0 (Au1 h.ndW) (Au1 h.ndD) (Au1 h.ndH) (fun j hj=>?_) (fun j=>?_) (fun j hj=>?_) (fun m=>⟨fun j hj=>?_,fun hj=>?_⟩) (fun m hm=>?_) (fun g j=>?_) (fun g hg'=>?_) (fun g j hj=>?_)
 ·rw [eT];split
  ·rfl
  ·exact (hg.far j (by omega)).2
 ·dsimp only
  rw [AB8 h.ndW,gW_n h]
  by_cases e1:j=p
  ·subst e1;rw [if_pos rfl,if_neg fun h2=>((eis j).1 h2).1 rfl]
  ·rw [if_neg (by omega),eF,eT,if_neg e1,if_neg e1,eZ j e1]
   by_cases hi:w.is j
   ·rw [if_pos hi,if_pos ((eis j).2 ⟨e1,hi⟩)]
   ·rw [if_neg hi,if_neg fun h2=>hi ((eis j).1 h2).2]
 ·dsimp only
  rw [AB8 h.ndW,Ao4 h hj];split<;>rfl
 ·rw [eT] at hj
  dsimp only
  rw [AB8 h.ndD,eD]
  split at hj
  ·omega
  ·rename_i e1
   rw [if_neg fun e2=>e1 (hg.oneT j p (by omega) (by omega)),AT8 hg h hj]
 ·dsimp only
  rw [AB8 h.ndD]
  by_cases e:((m:Nat):Int)=w.T p
  ·rw [if_pos e]
  ·rw [if_neg e]
   refine Ao5 h fun i hti=>?_
   have h2:=hj i
   rw [eT] at h2
   split at h2
   ·rename_i e2;exact e (by rw [← e2];exact hti.symm)
   ·exact h2 hti
 ·dsimp only
  rw [AB8 h.ndD,AZ5 h hm];split<;>rfl
 ·dsimp only
  rw [AB8 h.ndH,eF]
  by_cases e:((g:Nat):Int)=w.F p
  ·rw [if_pos e]
   constructor
   ·intro h;cases h
   ·intro h2
    split at h2
    ·omega
    ·rename_i e3;exact absurd (hg.oneF j p (by omega) (by omega)) e3
  ·rw [if_neg e,gH_n h]
   by_cases e2:j=p
   ·subst e2;rw [if_pos rfl];exact ⟨fun h=>absurd h.symm e,fun h=>by omega⟩
   ·rw [if_neg e2]
 ·dsimp only
  rw [AB8 h.ndH,Ae3 h hg'];split<;>rfl
 ·dsimp only at hj
  rw [AB8 h.ndH] at hj
  split at hj
  ·cases hj
  ·exact BR5 h hj
end
end Go.Pol
namespace Go.Am
section
variable {P:Program} {G:Gl}
theorem Ay3 {a b:At} {rd:List Nat}:∀ {up:Up},(∀ i ∈ rd,b i=a i)→(∀ j o,(j,o) ∈ up→j ∈ rd∧a j=o)→upd b up=b
 | [],_,_=>rfl
 | (i,o)::r,h1,h2=>by
  have ih:=Ay3 (up:=r) h1 fun j o h=>h2 j o (List.mem_cons_of_mem _ h)
  funext j
  show (if j=i then o else upd b r j)=b j
  split
  ·rename_i e
   obtain ⟨k1,k2⟩:=h2 i o (List.mem_cons_self ..)
   rw [e,h1 i k1,k2]
  ·rw [ih]
theorem fnU_keep {f:Nat} {args:List AV} {rd:List Nat} {at_:At} {r:AV} {up:Up} {id:Nat} (h:FnU P G f args rd at_ r up id) (hup:∀ j o,(j,o) ∈ up→j ∈ rd∧at_ j=o) (hid:id ∉ rd):FnU P G f args rd at_ r [] id:=by
 refine ⟨h.1,fun c vs hR hG hu hat ha=>(h.2 c vs hR hG hu hat ha).mono ?_⟩
 rintro e w' ⟨v,c',h1,h2,h3,h4,h5,h6,h7⟩
 refine ⟨v,c',h1,h2,h3,h4,h5,?_,fun i=>?_⟩
 ·rw [h6,Ay3 hat hup];rfl
 ·rw [h7]
  have : U4 up id=[]:=by
   unfold U4
   rw [if_neg]
   simp only [List.any_eq_true,beq_iff_eq,not_exists,not_and]
   rintro ⟨j,o⟩ hq e
   exact hid (by rw [← show j=id from e];exact (hup j o hq).1)
  rw [this];rfl
theorem BC2 {g:Nat} {avs:List AV} {h:Hp} {K:AV→Up→List Nat→Prop} (hd:AL5 P G g avs h fun r up rd=>(∀ j o,(j,o) ∈ up→j ∈ rd∧lk h.l j=o)∧h.next ∉ rd∧K r [] rd):AL5 P G g avs h K:=by
 obtain ⟨r,up,rd,h1,h2,h3,h4⟩:=hd.out
 exact ⟨r,[],rd,fnU_keep h1 h2 h3,h4⟩
end
end Go.Am
namespace Go.Pol
theorem AJ3 {x:Int}:min (x+1) 1000000000=AV9 x:=by
 unfold AV9
 split<;>omega
end Go.Pol
namespace Go.Proofs.Ytbhgfoikbkaohaa.Sh
open Go Go.Am Go.Pol
theorem wx_Sxg {p q:Prop} (hq:q) (h:Y7 q→p:=by (intro hQz;((repeat' ((try (conv=>whnf));first|refine sxA ?_|refine Y3 hW rfl ?_|refine An5 rfl (q.s.B f) rfl ?_|refine An5 rfl ((-1:Int),k,z) rfl ?_|refine BP6 rfl ?_|refine sxF ?_|refine dcx_wk hgt rfl rfl rfl rfl rfl rfl rfl ?_|refine sxH ?_|((with_reducible first|apply V7 hQz|apply V8 hQz)<;>(try intro hsp hQz))|exact hQz.out))<;>(try (conv=>whnf))))):p:=h ⟨hq⟩
section
variable {q:Sw} {t:WS}
theorem dcx_wk {f:Nat} {avs:List AV} {o w d m s:Nat} {h:Hp} {r:AV} {K:AV→Up→List Nat→Prop} (hc:J9 f avs q t r q t)
  (g0:lk h.l o=some (.cells (stC s w d m q))) (g1:lk h.l w=some (.maps (encW pgE t.W))) (g2:lk h.l d=some (.maps (encW byE t.D))) (g3:lk h.l m=some (.maps (encW nuE t.H))) (g4:lk h.l s=some (.cells q.s.a))
  (hd:Ac2 [o,w,d,m,s]=true) (hnx':[o,w,d,m,s].contains h.next=false)
  (hk:K r [] [o,w,d,m,s]):AL5 Try.prog G0 f (.ptr o 0::avs) h K:=by
 refine BC2 (dcx_w hc g0 g1 g2 g3 g4 hd hnx' ⟨fun j x hx=>?_,fun hm=>by rw [List.contains_eq_mem,decide_eq_false_iff_not] at hnx';exact hnx' hm,hk⟩)
 simp only [List.mem_cons,Prod.mk.injEq,List.not_mem_nil,or_false] at hx ⊢
 rcases hx with ⟨rfl,rfl⟩ | ⟨rfl,rfl⟩ | ⟨rfl,rfl⟩ | ⟨rfl,rfl⟩ | ⟨rfl,rfl⟩
 ·exact ⟨.inl rfl,g0⟩
 ·exact ⟨.inr (.inl rfl),g1⟩
 ·exact ⟨.inr (.inr (.inl rfl)),g2⟩
 ·exact ⟨.inr (.inr (.inr (.inl rfl))),g3⟩
 ·exact ⟨.inr (.inr (.inr (.inr rfl))),g4⟩
theorem w_outM {v f:Nat} {z sl k:Int} (hW:mgI t.W (v:Nat)=some (((f:Nat):Int),sl,z)) (hf:f < 1024) (hk:q.s.K f=2) (hc:0≤q.outs∧q.outs≤1000000000):J9 49 [.int .i64 (v:Nat),.int .i64 k] q t (.tup []) { q with outs:=AV9 q.outs } ⟨mpI t.W (v:Nat) (-1,k,z),mpI t.D k (q.s.B f),mdI t.H (f:Nat)⟩:=by
 refine J9.mk (J6 F6 b49 rfl ?_) (fun x hx=>by
  simp only [List.mem_cons,List.not_mem_nil,or_false] at hx
  rcases hx with rfl|rfl<;>exact A8) O7
 have hgt:=w_get (t:=t) hf hk
 have hadd:=AJ3 (x:=q.outs)
 unfold c49
 unfold stN stC
 (refine wx_Sxg ?_;repeat' (first|with_reducible refine And.intro ?_ ?_|intro hsp))
 all_goals first|(exfalso;omega)|(simp only [hadd];exact K8 (q:={ q with outs:=AV9 q.outs }) (t:=⟨mpI t.W (v:Nat) (-1,k,z),mpI t.D k (q.s.B f),mdI t.H (f:Nat)⟩) rfl O7 rfl rfl rfl rfl rfl)
end
end Go.Proofs.Ytbhgfoikbkaohaa.Sh
namespace Go.Pol
open Go.Am Go.Proofs.Ytbhgfoikbkaohaa.Sh
def Aj8 (q:Sw) (s1:Sy) (i:Int) (p f:Nat) (now:Int) (x:Nat→Int):Sw:={ q with ins:=i,T:=E8 q.T p (-1),F:=E8 q.F p (f:Nat),Z:=E8 q.Z p now,s:=s1.page f x }
theorem brg_R {q:Sw} {s1:Sy} {p f:Nat} {now:Int} {x:Nat→Int}:({ q with s:=s1 }:Sw).brg p f now x=Aj8 q s1 (if 0≤q.T p then AV9 q.ins else q.ins) p f now x:=rfl
theorem brg_R0 {q:Sw} {p f:Nat} {now:Int} {x:Nat→Int}:q.brg p f now x=Aj8 q q.s (if 0≤q.T p then AV9 q.ins else q.ins) p f now x:=rfl
theorem put_R {q:Sw} {p v k f:Nat} {now:Int} {x:Nat→Int} (h:v ≠ p):(q.put v k).brg p f now x=Aj8 (q.put v k) q.s (if 0≤q.T p then AV9 q.ins else q.ins) p f now x:=by
 unfold Sw.brg Aj8
 have e:(q.put v k).T p=q.T p:=if_neg fun e=>h e.symm
 rw [e];rfl
theorem BA8 {s:Sy} {f:Nat} {y:Int} (hf:f < 1024) (h:s.K f=y):s.kind (f:Nat)=[.int .i64 y,.bool (s.M f),.int .i64 0]:=by
 unfold Sy.kind
 rw [if_neg (by omega),Int.toNat_natCast,h]
end Go.Pol
namespace Go.Proofs.Ytbhgfoikbkaohaa.Sh
open Go Go.Am Go.Pol
theorem wx_Sxh {p q:Prop} (hq:q) (h:Y7 q→p:=by (intro hQz;((repeat' ((try (conv=>whnf));first|refine sxA ?_|refine AI9 hW rfl ?_|refine An5 rfl (q.F p,q.T p,now) rfl ?_|refine sxF ?_|refine sxH ?_|((with_reducible first|apply V7 hQz|apply V8 hQz)<;>(try intro hsp hQz))|exact hQz.out))<;>(try (conv=>whnf))))):p:=h ⟨hq⟩
theorem wx_Sxhn {p q:Prop} (hq:q) (h:Y7 q→p:=by (intro hQz;((repeat' ((try (conv=>whnf));first|refine sxA ?_|refine AI9 hW rfl ?_|refine AO5 hW rfl ?_|refine mlook_d hD BH9 rfl ?_|refine ⟨AA5,?_⟩|refine AE3 (by simp only [List.length_replicate,AA5];omega) hov ?_|refine BP6 rfl ?_|refine An5 rfl (((f:Nat):Int),(-1:Int),now) rfl ?_|refine An5 rfl ((p:Nat):Int) rfl ?_|refine AB5 (by rw [AA5];omega) List.drop_zero (j4 (by rw [AA5];omega) Ax2 ?_)|refine Y3 hWv rfl ?_|refine sxN ?_|refine cx_L hL hy rfl rfl rfl rfl rfl rfl rfl rfl ?_|refine AP6 hS rfl rfl rfl rfl rfl (by decide) rfl ?_|refine S9 hkd rfl (by decide) ?_|refine S9 hcom rfl (by decide) ?_|refine AP6 (hset (min (q.ins+1) 1000000000)) rfl rfl rfl rfl rfl (by decide) rfl ?_|refine AP6 (hset q.ins) rfl rfl rfl rfl rfl (by decide) rfl ?_|refine AP6 hV rfl rfl rfl rfl rfl (by decide) rfl ?_|refine AP6 hO rfl rfl rfl rfl rfl (by decide) rfl ?_|refine AP6 (hset (min (q1.ins+1) 1000000000)) rfl rfl rfl rfl rfl (by decide) rfl ?_|refine AP6 (hset q1.ins) rfl rfl rfl rfl rfl (by decide) rfl ?_|refine sxH ?_|((with_reducible first|apply V7 hQz|apply V8 hQz)<;>(try intro hsp hQz))|exact hQz.out))<;>(try (conv=>whnf))))):p:=h ⟨hq⟩
section
variable {q:Sw} {t:WS}
theorem dcx_L {o w d m s b:Nat} {h:Hp} {K:AV→Up→List Nat→Prop} {y:Int} (hc:LocL q t) (hy:opA q.free=y)
  (g0:lk h.l o=some (.cells (stC s w d m q))) (g1:lk h.l w=some (.maps (encW pgE t.W))) (g2:lk h.l d=some (.maps (encW byE t.D))) (g3:lk h.l m=some (.maps (encW nuE t.H))) (g4:lk h.l s=some (.cells q.s.a)) (g5:lk h.l b=some (.cells [.ptr o 0]))
  (hd:Ac2 [o,w,d,m,s,b]=true) (hnx':[o,w,d,m,s,b].contains h.next=false)
  (hk:K (.int .i64 y) [] [o,w,d,m,s,b]):AL5 Try.prog G0 51 [.int .i64 (q.a:Nat),.int .i64 ((q.a:Int)+(q.n:Nat)),.fn 52 [] [.ptr b 0]] h K:=by
 subst hy
 have hnx:h.next ∉ [o,w,d,m,s,b]:=fun hm=>by rw [List.contains_eq_mem,decide_eq_false_iff_not] at hnx';exact hnx' hm
 have e0:enter [o,w,d,m,s,b] o 0:=rfl
 have e1:enter [o,w,d,m,s,b] w 1:=rfl
 have e2:enter [o,w,d,m,s,b] d 2:=rfl
 have e3:enter [o,w,d,m,s,b] m 3:=rfl
 have e4:enter [o,w,d,m,s,b] s 4:=rfl
 have e5:enter [o,w,d,m,s,b] b 5:=rfl
 have k0:P9 [o,w,d,m,s,b] 0 o:=rfl
 have k1:P9 [o,w,d,m,s,b] 1 w:=rfl
 have k2:P9 [o,w,d,m,s,b] 2 d:=rfl
 have k3:P9 [o,w,d,m,s,b] 3 m:=rfl
 have k4:P9 [o,w,d,m,s,b] 4 s:=rfl
 have k5:P9 [o,w,d,m,s,b] 5 b:=rfl
 refine BC2 (Aw7 (l1:=[(o,AObj.cells (stC s w d m q)),(w,.maps (encW pgE t.W)),(d,.maps (encW byE t.D)),(m,.maps (encW nuE t.H)),(s,.cells q.s.a),(b,AObj.cells [AV.ptr o 0])]) [o,w,d,m,s,b] hc.out K3 hd
  (.cons e0 g0 (AX8 e4 e1 e2 e3) (.maps e1 g1 (D6 G9) (.maps e2 g2 (D6 H7) (.maps e3 g3 (D6 H6) (.cons e4 g4 (E5 H8) (.cons e5 g5 ⟨Y8 e0,trivial⟩ .nil))))))
  hnx ?_ ?_ ⟨F7 A8,F7 A8,rn_fn trivial ⟨Y8 e5,trivial⟩,trivial⟩ (F7 A8)
  (.cons k0 (AX8 k4 k1 k2 k3) (.maps k1 (D6 G9) (.maps k2 (D6 H7) (.maps k3 (D6 H6) (.cons k4 (E5 H8) (.cons k5 (cs:=[AV.ptr 0 0]) ⟨Y8 k0,trivial⟩ .nil)))))) ⟨fun j x hx=>?_,hnx,hk⟩)
 ·intro x hx
  simp only [lk]
  repeat' split
  all_goals first|exact ⟨_,rfl⟩|(exfalso;simp only [List.mem_cons,List.not_mem_nil,or_false] at hx;omega)
 ·intro j x hx
  have : j < 6:=(List.getElem?_eq_some_iff.1 hx).1
  simp only [stN,List.cons_append,List.nil_append,lk]
  repeat' split
  all_goals first|exact ⟨_,rfl⟩|(exfalso;omega)
 ·simp only [Ab6,List.map_cons,List.map_nil,List.mem_cons,Prod.mk.injEq,List.not_mem_nil,or_false] at hx ⊢
  rcases hx with ⟨rfl,rfl⟩ | ⟨rfl,rfl⟩ | ⟨rfl,rfl⟩ | ⟨rfl,rfl⟩ | ⟨rfl,rfl⟩ | ⟨rfl,rfl⟩
  ·exact ⟨.inl rfl,g0⟩
  ·exact ⟨.inr (.inl rfl),g1⟩
  ·exact ⟨.inr (.inr (.inl rfl)),g2⟩
  ·exact ⟨.inr (.inr (.inr (.inl rfl))),g3⟩
  ·exact ⟨.inr (.inr (.inr (.inr (.inl rfl)))),g4⟩
  ·exact ⟨.inr (.inr (.inr (.inr (.inr rfl)))),g5⟩
theorem cx_L {o w d m s b:Nat} {h:Hp} {K:AV→Hp→Prop} {y:Int} (hc:LocL q t) (hy:opA q.free=y)
  (g0:lk h.l o=some (.cells (stC s w d m q))) (g1:lk h.l w=some (.maps (encW pgE t.W))) (g2:lk h.l d=some (.maps (encW byE t.D))) (g3:lk h.l m=some (.maps (encW nuE t.H))) (g4:lk h.l s=some (.cells q.s.a)) (g5:lk h.l b=some (.cells [.ptr o 0]))
  (hd:Ac2 [o,w,d,m,s,b]=true) (hnx':[o,w,d,m,s,b].contains h.next=false)
  (hk:K (.int .i64 y) h):AK8 Try.prog G0 (.fn 51 [] []) [.int .i64 (q.a:Nat),.int .i64 ((q.a:Int)+(q.n:Nat)),.fn 52 [] [.ptr b 0]] h K:=by
 obtain ⟨r,up,rd,h1,rfl,rfl⟩:=(dcx_L (K:=fun r up _=>r = .int .i64 y∧up=[]) hc hy g0 g1 g2 g3 g4 g5 hd hnx' ⟨rfl,rfl⟩).out
 exact cx_fnU (rd:=rd) h1 hk
theorem look_out (hg:E9 q) (h:WOk q t) {p:Nat} (hn:¬ 0≤q.F p):(∃ z,mgI t.W (p:Nat)=some ((-1:Int),q.T p,z)∧0≤q.T p)∨(mgI t.W (p:Nat)=none∧q.T p = -1):=by
 have hF:q.F p = -1:=(Ax8 hg p).resolve_right fun h=>hn h.2
 by_cases hi:q.is p
 ·left
  refine ⟨q.Z p,?_,hi.resolve_left hn⟩
  rw [AO8 h.ww hi,hF]
 ·right
  refine ⟨BR4 h.ww hi,(Ab5 hg p).resolve_right fun h2=>hi (.inr h2.2)⟩
theorem look_D (hg:E9 q) (h:WOk q t) (p:Nat):(match mgI t.D (q.T p) with|some b=>b|none=>fun _=>0)=q.got p:=by
 unfold Sw.got
 rcases Ab5 hg p with h1 | ⟨_,h1⟩
 ·rw [if_neg (by omega),AZ5 h (by omega)]
 ·rw [if_pos h1]
  obtain ⟨k,hk⟩:=Int.eq_ofNat_of_zero_le h1
  rw [hk,AT8 hg h hk,Int.toNat_natCast]
theorem w_touchA (hg:E9 q) (h:WOk q t) {p:Nat} {now:Int} (hF:0≤q.F p):J9 32 [.int .i64 (p:Nat),.int .i64 now] q t (.int .i64 0) { q with Z:=E8 q.Z p now } ⟨mpI t.W (p:Nat) (q.F p,q.T p,now),t.D,t.H⟩:=by
 refine J9.mk (J6 F6 b32 rfl ?_) (fun x hx=>by
  simp only [List.mem_cons,List.not_mem_nil,or_false] at hx
  rcases hx with rfl|rfl<;>exact A8) A8
 have hW:=AO8 h.ww (p:=p) (.inl hF)
 unfold c32
 unfold stN stC
 (refine wx_Sxh ?_;repeat' (first|with_reducible refine And.intro ?_ ?_|intro hsp))
 all_goals first|(exfalso;omega)|exact K8 (q:={ q with Z:=E8 q.Z p now }) (t:=⟨mpI t.W (p:Nat) (q.F p,q.T p,now),t.D,t.H⟩) rfl A8 rfl rfl rfl rfl rfl
theorem BX0 {p:Nat} {now τ y:Int} {x:Nat→Int} (hrng:q.a+q.n≤1024) (hci:0≤q.ins∧q.ins≤1000000000) (hL:LocL q t) (hy:opA q.free=y) (hWT:(∃ z,mgI t.W (p:Nat)=some ((-1:Int),τ,z)∧0≤τ)∨(mgI t.W (p:Nat)=none∧τ = -1)) (hD:(match mgI t.D τ with|some b=>b|none=>fun _=>0)=x) (hn:y = -1) (hS:J9 48 [.int .i64 τ] q t (.int .i64 (-1)) q t):J9 32 [.int .i64 (p:Nat),.int .i64 now] q t (.int .i64 5) q t:=by
 refine J9.mk (J6 F6 b32 rfl ?_) (fun x hx=>by
  simp only [List.mem_cons,List.not_mem_nil,or_false] at hx
  rcases hx with rfl|rfl<;>exact A8) A8
 have hov:=AM0 (x:=x)
 have hadd:=AJ3 (x:=q.ins)
 unfold c32
 unfold stN stC
 subst hn
 clear hadd
 rcases hWT with ⟨z,hW,hT⟩ | ⟨hW,hT⟩
 ·(refine wx_Sxhn ?_;repeat' (first|with_reducible refine And.intro ?_ ?_|intro hsp))
  all_goals first|(exfalso;omega)|exact K8 rfl A8 rfl rfl rfl rfl rfl
 ·subst hT
  (refine wx_Sxhn ?_;repeat' (first|with_reducible refine And.intro ?_ ?_|intro hsp))
  all_goals first|(exfalso;omega)|exact K8 rfl A8 rfl rfl rfl rfl rfl
theorem BX1 {p:Nat} {now τ y:Int} {x:Nat→Int} (hrng:q.a+q.n≤1024) (hci:0≤q.ins∧q.ins≤1000000000) (hL:LocL q t) (hy:opA q.free=y) (hWT:(∃ z,mgI t.W (p:Nat)=some ((-1:Int),τ,z)∧0≤τ)∨(mgI t.W (p:Nat)=none∧τ = -1)) (hD:(match mgI t.D τ with|some b=>b|none=>fun _=>0)=x) {f:Nat} {e:Int} {s1:Sy} {b1:Bool} (hn:y=(f:Nat)) (hkd:AJ6 43 [.int .i64 (f:Nat)] q.s.a (.tup [.int .i64 1,.bool b1,.int .i64 0]) q.s.a) (hcom:AJ6 53 [.int .i64 (f:Nat),.int .i64 1] q.s.a (.int .i64 e) s1.a) (he:e ≠ 0):J9 32 [.int .i64 (p:Nat),.int .i64 now] q t (.int .i64 e) { q with s:=s1 } t:=by
 refine J9.mk (J6 F6 b32 rfl ?_) (fun x hx=>by
  simp only [List.mem_cons,List.not_mem_nil,or_false] at hx
  rcases hx with rfl|rfl<;>exact A8) A8
 have hov:=AM0 (x:=x)
 have hadd:=AJ3 (x:=q.ins)
 unfold c32
 unfold stN stC
 subst hn
 clear hadd
 rcases hWT with ⟨z,hW,hT⟩ | ⟨hW,hT⟩
 ·(refine wx_Sxhn ?_;repeat' (first|with_reducible refine And.intro ?_ ?_|intro hsp))
  all_goals first|(exfalso;omega)|exact K8 (q:={ q with s:=s1 }) rfl A8 rfl rfl rfl rfl rfl
 ·subst hT
  (refine wx_Sxhn ?_;repeat' (first|with_reducible refine And.intro ?_ ?_|intro hsp))
  all_goals first|(exfalso;omega)|exact K8 (q:={ q with s:=s1 }) rfl A8 rfl rfl rfl rfl rfl
theorem BX2 {p:Nat} {now τ y:Int} {x:Nat→Int} (hrng:q.a+q.n≤1024) (hci:0≤q.ins∧q.ins≤1000000000) (hL:LocL q t) (hy:opA q.free=y) (hWT:(∃ z,mgI t.W (p:Nat)=some ((-1:Int),τ,z)∧0≤τ)∨(mgI t.W (p:Nat)=none∧τ = -1)) (hD:(match mgI t.D τ with|some b=>b|none=>fun _=>0)=x) {f:Nat} {s1:Sy} {b1:Bool} (hn:y=(f:Nat)) (hkd:AJ6 43 [.int .i64 (f:Nat)] q.s.a (.tup [.int .i64 1,.bool b1,.int .i64 0]) q.s.a) (hcom:AJ6 53 [.int .i64 (f:Nat),.int .i64 1] q.s.a (.int .i64 0) s1.a) (hset:∀ i,J9 54 [.int .i64 (f:Nat),.agg (bcA x)] { q with s:=s1,ins:=i } ⟨mpI t.W (p:Nat) ((f:Nat),-1,now),mdI t.D τ,mpI t.H (f:Nat) (p:Nat)⟩ (.tup []) { q with s:=s1.page f x,ins:=i } ⟨mpI t.W (p:Nat) ((f:Nat),-1,now),mdI t.D τ,mpI t.H (f:Nat) (p:Nat)⟩):J9 32 [.int .i64 (p:Nat),.int .i64 now] q t (.int .i64 0) (Aj8 q s1 (if 0≤τ then AV9 q.ins else q.ins) p f now x) ⟨mpI t.W (p:Nat) ((f:Nat),-1,now),mdI t.D τ,mpI t.H (f:Nat) (p:Nat)⟩:=by
 refine J9.mk (J6 F6 b32 rfl ?_) (fun x hx=>by
  simp only [List.mem_cons,List.not_mem_nil,or_false] at hx
  rcases hx with rfl|rfl<;>exact A8) A8
 have hov:=AM0 (x:=x)
 have hadd:=AJ3 (x:=q.ins)
 unfold c32
 unfold stN stC
 subst hn
 rcases hWT with ⟨z,hW,hT⟩ | ⟨hW,hT⟩
 ·rw [if_pos hT]
  (refine wx_Sxhn ?_;repeat' (first|with_reducible refine And.intro ?_ ?_|intro hsp))
  all_goals first|(exfalso;omega)|(simp only [hadd];exact K8 (q:=Aj8 q s1 (AV9 q.ins) p f now x) (t:=⟨mpI t.W (p:Nat) ((f:Nat),-1,now),mdI t.D τ,mpI t.H (f:Nat) (p:Nat)⟩) rfl A8 rfl rfl rfl rfl rfl)|exact K8 (q:=Aj8 q s1 (AV9 q.ins) p f now x) (t:=⟨mpI t.W (p:Nat) ((f:Nat),-1,now),mdI t.D τ,mpI t.H (f:Nat) (p:Nat)⟩) rfl A8 rfl rfl rfl rfl rfl
 ·subst hT
  rw [if_neg (by omega)]
  (refine wx_Sxhn ?_;repeat' (first|with_reducible refine And.intro ?_ ?_|intro hsp))
  all_goals first|(exfalso;omega)|(simp only [hadd];exact K8 (q:=Aj8 q s1 q.ins p f now x) (t:=⟨mpI t.W (p:Nat) ((f:Nat),-1,now),mdI t.D (-1),mpI t.H (f:Nat) (p:Nat)⟩) rfl A8 rfl rfl rfl rfl rfl)|exact K8 (q:=Aj8 q s1 q.ins p f now x) (t:=⟨mpI t.W (p:Nat) ((f:Nat),-1,now),mdI t.D (-1),mpI t.H (f:Nat) (p:Nat)⟩) rfl A8 rfl rfl rfl rfl rfl
theorem BW9 {p:Nat} {now τ y:Int} {x:Nat→Int} (hrng:q.a+q.n≤1024) (hci:0≤q.ins∧q.ins≤1000000000) (hL:LocL q t) (hy:opA q.free=y) (hWT:(∃ z,mgI t.W (p:Nat)=some ((-1:Int),τ,z)∧0≤τ)∨(mgI t.W (p:Nat)=none∧τ = -1)) (hD:(match mgI t.D τ with|some b=>b|none=>fun _=>0)=x) {f:Nat} {b1:Bool} (hn:y=(f:Nat)) (hkd:AJ6 43 [.int .i64 (f:Nat)] q.s.a (.tup [.int .i64 2,.bool b1,.int .i64 0]) q.s.a) (hset:∀ i,J9 54 [.int .i64 (f:Nat),.agg (bcA x)] { q with ins:=i } ⟨mpI t.W (p:Nat) ((f:Nat),-1,now),mdI t.D τ,mpI t.H (f:Nat) (p:Nat)⟩ (.tup []) { q with s:=q.s.page f x,ins:=i } ⟨mpI t.W (p:Nat) ((f:Nat),-1,now),mdI t.D τ,mpI t.H (f:Nat) (p:Nat)⟩):J9 32 [.int .i64 (p:Nat),.int .i64 now] q t (.int .i64 0) (Aj8 q q.s (if 0≤τ then AV9 q.ins else q.ins) p f now x) ⟨mpI t.W (p:Nat) ((f:Nat),-1,now),mdI t.D τ,mpI t.H (f:Nat) (p:Nat)⟩:=by
 refine J9.mk (J6 F6 b32 rfl ?_) (fun x hx=>by
  simp only [List.mem_cons,List.not_mem_nil,or_false] at hx
  rcases hx with rfl|rfl<;>exact A8) A8
 have hov:=AM0 (x:=x)
 have hadd:=AJ3 (x:=q.ins)
 unfold c32
 unfold stN stC
 subst hn
 rcases hWT with ⟨z,hW,hT⟩ | ⟨hW,hT⟩
 ·rw [if_pos hT]
  (refine wx_Sxhn ?_;repeat' (first|with_reducible refine And.intro ?_ ?_|intro hsp))
  all_goals first|(exfalso;omega)|(simp only [hadd];exact K8 (q:=Aj8 q q.s (AV9 q.ins) p f now x) (t:=⟨mpI t.W (p:Nat) ((f:Nat),-1,now),mdI t.D τ,mpI t.H (f:Nat) (p:Nat)⟩) rfl A8 rfl rfl rfl rfl rfl)|exact K8 (q:=Aj8 q q.s (AV9 q.ins) p f now x) (t:=⟨mpI t.W (p:Nat) ((f:Nat),-1,now),mdI t.D τ,mpI t.H (f:Nat) (p:Nat)⟩) rfl A8 rfl rfl rfl rfl rfl
 ·subst hT
  rw [if_neg (by omega)]
  (refine wx_Sxhn ?_;repeat' (first|with_reducible refine And.intro ?_ ?_|intro hsp))
  all_goals first|(exfalso;omega)|(simp only [hadd];exact K8 (q:=Aj8 q q.s q.ins p f now x) (t:=⟨mpI t.W (p:Nat) ((f:Nat),-1,now),mdI t.D (-1),mpI t.H (f:Nat) (p:Nat)⟩) rfl A8 rfl rfl rfl rfl rfl)|exact K8 (q:=Aj8 q q.s q.ins p f now x) (t:=⟨mpI t.W (p:Nat) ((f:Nat),-1,now),mdI t.D (-1),mpI t.H (f:Nat) (p:Nat)⟩) rfl A8 rfl rfl rfl rfl rfl
theorem BW8 {p:Nat} {now τ y:Int} {x:Nat→Int} (hrng:q.a+q.n≤1024) (hci:0≤q.ins∧q.ins≤1000000000) (hL:LocL q t) (hy:opA q.free=y) (hWT:(∃ z,mgI t.W (p:Nat)=some ((-1:Int),τ,z)∧0≤τ)∨(mgI t.W (p:Nat)=none∧τ = -1)) (hD:(match mgI t.D τ with|some b=>b|none=>fun _=>0)=x) {f v k:Nat} {tv zv:Int} {q1:Sw} (hci:0≤q1.ins∧q1.ins≤1000000000) (hn:y = -1) (hS:J9 48 [.int .i64 τ] q t (.int .i64 (k:Nat)) q t) (hV:J9 36 [] q ⟨t.W,mdI t.D τ,t.H⟩ (.int .i64 (v:Nat)) q ⟨t.W,mdI t.D τ,t.H⟩) (hO:J9 49 [.int .i64 (v:Nat),.int .i64 (k:Nat)] q ⟨t.W,mdI t.D τ,t.H⟩ (.tup []) q1 ⟨mpI t.W (v:Nat) (-1,(k:Nat),zv),mpI (mdI t.D τ) (k:Nat) (q.s.B f),mdI t.H (f:Nat)⟩) (hWv:mgI t.W (v:Nat)=some (((f:Nat):Int),tv,zv))
  (hset:∀ i,J9 54 [.int .i64 (f:Nat),.agg (bcA x)] { q1 with ins:=i } ⟨mpI (mpI t.W (v:Nat) (-1,(k:Nat),zv)) (p:Nat) ((f:Nat),-1,now),mpI (mdI t.D τ) (k:Nat) (q.s.B f),mpI (mdI t.H (f:Nat)) (f:Nat) (p:Nat)⟩ (.tup []) { q1 with s:=q1.s.page f x,ins:=i } ⟨mpI (mpI t.W (v:Nat) (-1,(k:Nat),zv)) (p:Nat) ((f:Nat),-1,now),mpI (mdI t.D τ) (k:Nat) (q.s.B f),mpI (mdI t.H (f:Nat)) (f:Nat) (p:Nat)⟩):J9 32 [.int .i64 (p:Nat),.int .i64 now] q t (.int .i64 0) (Aj8 q1 q1.s (if 0≤τ then AV9 q1.ins else q1.ins) p f now x) ⟨mpI (mpI t.W (v:Nat) (-1,(k:Nat),zv)) (p:Nat) ((f:Nat),-1,now),mpI (mdI t.D τ) (k:Nat) (q.s.B f),mpI (mdI t.H (f:Nat)) (f:Nat) (p:Nat)⟩:=by
 refine J9.mk (J6 F6 b32 rfl ?_) (fun x hx=>by
  simp only [List.mem_cons,List.not_mem_nil,or_false] at hx
  rcases hx with rfl|rfl<;>exact A8) A8
 have hov:=AM0 (x:=x)
 have hadd:=AJ3 (x:=q1.ins)
 unfold c32
 unfold stN stC
 subst hn
 rcases hWT with ⟨z,hW,hT⟩ | ⟨hW,hT⟩
 ·rw [if_pos hT]
  (refine wx_Sxhn ?_;repeat' (first|with_reducible refine And.intro ?_ ?_|intro hsp))
  all_goals first|(exfalso;omega)|(simp only [hadd];exact K8 (q:=Aj8 q1 q1.s (AV9 q1.ins) p f now x) (t:=⟨mpI (mpI t.W (v:Nat) (-1,(k:Nat),zv)) (p:Nat) ((f:Nat),-1,now),mpI (mdI t.D τ) (k:Nat) (q.s.B f),mpI (mdI t.H (f:Nat)) (f:Nat) (p:Nat)⟩) rfl A8 rfl rfl rfl rfl rfl)|exact K8 (q:=Aj8 q1 q1.s (AV9 q1.ins) p f now x) (t:=⟨mpI (mpI t.W (v:Nat) (-1,(k:Nat),zv)) (p:Nat) ((f:Nat),-1,now),mpI (mdI t.D τ) (k:Nat) (q.s.B f),mpI (mdI t.H (f:Nat)) (f:Nat) (p:Nat)⟩) rfl A8 rfl rfl rfl rfl rfl
 ·subst hT
  rw [if_neg (by omega)]
  (refine wx_Sxhn ?_;repeat' (first|with_reducible refine And.intro ?_ ?_|intro hsp))
  all_goals first|(exfalso;omega)|(simp only [hadd];exact K8 (q:=Aj8 q1 q1.s q1.ins p f now x) (t:=⟨mpI (mpI t.W (v:Nat) (-1,(k:Nat),zv)) (p:Nat) ((f:Nat),-1,now),mpI (mdI t.D (-1)) (k:Nat) (q.s.B f),mpI (mdI t.H (f:Nat)) (f:Nat) (p:Nat)⟩) rfl A8 rfl rfl rfl rfl rfl)|exact K8 (q:=Aj8 q1 q1.s q1.ins p f now x) (t:=⟨mpI (mpI t.W (v:Nat) (-1,(k:Nat),zv)) (p:Nat) ((f:Nat),-1,now),mpI (mdI t.D (-1)) (k:Nat) (q.s.B f),mpI (mdI t.H (f:Nat)) (f:Nat) (p:Nat)⟩) rfl A8 rfl rfl rfl rfl rfl
end
end Go.Proofs.Ytbhgfoikbkaohaa.Sh
namespace Go.Pol
open Go.Am Go.Proofs.Ytbhgfoikbkaohaa.Sh
section
variable {q:Sw}
theorem vic_some (hg:E9 q) (hf:q.free=none):∃ v,q.vic=some v:=by
 cases hv:q.vic with
 | some v=>exact ⟨v,rfl⟩
 | none =>
  exfalso
  have hr:=hg.rng
  obtain ⟨p,hp,hF⟩:=BG7 hf q.a (Nat.le_refl _) (by omega)
  have:=(AH9 (w:=q) q.pg).2 hv p hp
  omega
theorem vic_at (hg:E9 q) {v:Nat} (hv:q.vic=some v):v < q.pg∧0≤q.F v:=⟨((AH9 (w:=q) q.pg).1 v hv).1,((AH9 (w:=q) q.pg).1 v hv).2.1⟩
theorem U8 {x:AV} (h:Plain x):∀ y ∈ [x],Plain y:=fun y hy=>by obtain rfl:=List.mem_singleton.1 hy;exact h
theorem M9 {x x2:AV} (h:Plain x) (h2:Plain x2):∀ y ∈ [x,x2],Plain y:=fun y hy=>by
 simp only [List.mem_cons,List.not_mem_nil,or_false] at hy
 rcases hy with rfl|rfl
 ·exact h
 ·exact h2
theorem plain_three {x x2 x3:AV} (h:Plain x) (h2:Plain x2) (h3:Plain x3):∀ y ∈ [x,x2,x3],Plain y:=fun y hy=>by
 simp only [List.mem_cons,List.not_mem_nil,or_false] at hy
 rcases hy with rfl|rfl|rfl
 ·exact h
 ·exact h2
 ·exact h3
theorem emod64 {a:Nat}:((a:Nat):Int) % 64=((a % 64:Nat):Int):=by omega
end
end Go.Pol
namespace Go.Proofs.Ytbhgfoikbkaohaa.Sh
open Go Go.Am Go.Pol
theorem wx_Sxi {p q:Prop} (hq:q) (h:Y7 q→p:=by (intro hQz;((repeat' ((try (conv=>whnf));first|refine sxA ?_|refine AH3 hq64 ?_|refine AH3 hm64 ?_|refine AO5 hW rfl ?_|refine AI9 hW rfl ?_|refine Y3 hW' rfl ?_|refine sxF ?_|refine AP6 w_is rfl rfl rfl rfl rfl (by decide) rfl ?_|refine AP6 hN rfl rfl rfl rfl rfl (by decide) rfl ?_|refine AP6 hT rfl rfl rfl rfl rfl (by decide) rfl ?_|refine S9 hR rfl (by decide) ?_|refine sxH ?_|((with_reducible first|apply V7 hQz|apply V8 hQz)<;>(try intro hsp hQz))|exact hQz.out))<;>(try (conv=>whnf))))):p:=h ⟨hq⟩
section
variable {q:Sw} {t:WS}
theorem AV2 {f:Nat} {avs:List AV} {q q1 q2:Sw} {t t1:WS} {r:AV} (h:J9 f avs q t r q1 t1) (e:stN q2 t1 0 1 2 3 4=stN q1 t1 0 1 2 3 4):J9 f avs q t r q2 t1:=⟨by rw [e];exact h.out,h.pa,h.pr⟩
theorem BJ3 (hg:E9 q) (h:WOk q t) {p:Nat} {now:Int} (hp:p < q.pg):∃ t',J9 32 [.int .i64 (p:Nat),.int .i64 now] q t (.int .i64 (q.touch p now).1) (q.touch p now).2 t'∧WOk (q.touch p now).2 t':=by
 have hrng:=hg.rng
 have hcnt:=hg.cnt
 by_cases hF:0≤q.F p
 ·have e:q.touch p now=(0,{ q with Z:=E8 q.Z p now }):=by unfold Sw.touch;rw [if_pos hF]
  rw [e]
  exact ⟨_,w_touchA hg h hF,BI1 hg h hF now⟩
 ·have hWT:=look_out hg h hF
  have hD:=look_D hg h p
  have hL:=w_free hg h
  cases hfr:q.free with
  | some f =>
   obtain ⟨f1,f2,f3⟩:=AD6 hfr
   have hy:opA q.free=((f:Nat):Int):=by rw [hfr];rfl
   rcases (hg.kind f f1 f2).1 with hk|hk
   ·have hkd:=p_kind (s:=q.s) (a:=(f:Nat))
    rw [BA8 (by omega) hk] at hkd
    have hcom:=p_commit (s:=q.s) (a:=(f:Nat)) (n:=1) hg.good
    obtain ⟨e,s1,hc⟩:∃ e s1,q.s.chg (f:Nat) 1 1 2 2=(e,s1):=⟨_,_,rfl⟩
    have hcw:=comW hg ⟨f1,f2⟩ hk hc
    rw [hc] at hcom
    dsimp only at hcom
    by_cases he:e=0
    ·subst he
     have et:q.touch p now=(0,Sw.brg { q with s:=s1 } p f now (q.got p)):=by unfold Sw.touch;rw [if_neg hF,hfr];dsimp only;rw [if_pos hk,hc,if_pos rfl]
     rw [et]
     refine ⟨_,?_,BI2 hcw.1 (AW7 h s1) hp hF f3 now (q.got p)⟩
     dsimp only
     rw [brg_R]
     exact BX2 (by omega) ⟨hcnt.1,hcnt.2.1⟩ hL hy hWT hD rfl hkd hcom fun i=>w_set (q:={ q with s:=s1,ins:=i }) hcw.1.good (by omega) (hcw.2.1 rfl) (q.got p)
    ·have et:q.touch p now=(e,{ q with s:=s1 }):=by unfold Sw.touch;rw [if_neg hF,hfr];dsimp only;rw [if_pos hk,hc,if_neg he]
     rw [et]
     exact ⟨_,BX1 (by omega) ⟨hcnt.1,hcnt.2.1⟩ hL hy hWT hD rfl hkd hcom he,AW7 h s1⟩
   ·have hkd:=p_kind (s:=q.s) (a:=(f:Nat))
    rw [BA8 (by omega) hk] at hkd
    have et:q.touch p now=(0,q.brg p f now (q.got p)):=by unfold Sw.touch;rw [if_neg hF,hfr];dsimp only;rw [if_neg (by omega)]
    rw [et]
    refine ⟨_,?_,BI2 hg h hp hF f3 now (q.got p)⟩
    dsimp only
    rw [brg_R0]
    exact BW9 (by omega) ⟨hcnt.1,hcnt.2.1⟩ hL hy hWT hD rfl hkd fun i=>w_set (q:={ q with ins:=i }) hg.good (by omega) hk (q.got p)
  | none =>
   have hy:opA q.free = -1:=by rw [hfr];rfl
   have hS:=w_slot h hrng.2.2.2.2 (q.T p)
   cases hsl:q.slot (q.T p) with
   | none =>
    rw [hsl] at hS
    have et:q.touch p now=(5,q):=by unfold Sw.touch;rw [if_neg hF,hfr];dsimp only;rw [hsl]
    rw [et]
    exact ⟨_,BX0 (by omega) ⟨hcnt.1,hcnt.2.1⟩ hL hy hWT hD rfl hS,h⟩
   | some k =>
    rw [hsl] at hS
    obtain ⟨v,hv⟩:=vic_some hg hfr
    obtain ⟨v1,v2⟩:=vic_at hg hv
    obtain ⟨f,f0,f1,f2,f3⟩:=AB2 hg v2
    have hV:=BW7 (t:=⟨t.W,mdI t.D (q.T p),t.H⟩) hg h.ww
    rw [hv] at hV
    have hvp:v ≠ p:=fun e=>hF (by rw [← e];exact v2)
    have hWv:=AO8 h.ww (p:=v) (.inl v2)
    rw [f0] at hWv
    have et:q.touch p now=(0,(q.put v k).brg p f now (q.got p)):=by unfold Sw.touch;rw [if_neg hF,hfr];dsimp only;rw [hsl,hv];dsimp only;rw [f0];rfl
    rw [et]
    have hw:=Ar7 hg h hp hF f0 (AC4 hsl).2 now (q.got p)
    rw [f0,Int.toNat_natCast] at hw
    refine ⟨_,?_,hw⟩
    dsimp only
    rw [put_R hvp]
    have hO:=w_outM (t:=⟨t.W,mdI t.D (q.T p),t.H⟩) (k:=(k:Nat)) hWv (by omega) f3 hcnt.2.2
    have hO2:=AV2 (q2:=q.put v k) hO rfl
    exact BW8 (q1:=q.put v k) (by omega) ⟨hcnt.1,hcnt.2.1⟩ hL hy hWT hD ⟨hcnt.1,hcnt.2.1⟩ rfl hS hV hO2 hWv fun i=>w_set (q:={ q.put v k with ins:=i }) hg.good (by omega) f3 (q.got p)
section
variable {a f:Nat} {at_ now e e2 v:Int} {q':Sw} {t':WS} {x x' y z:Int}
theorem w_ReadN (hN:J9 31 [.int .i64 at_,.int .i64 now] q t (.bool false) q t):J9 12 [.int .i64 at_,.int .i64 now] q t (.tup [.int .u8 0,.int .i64 7]) q t:=by
 refine J9.mk (J6 F6 b12 rfl ?_) (M9 A8 A8) (F8 (M9 A8 A8))
 unfold c12
 unfold stN stC
 (refine wx_Sxi ?_;repeat' (first|with_reducible refine And.intro ?_ ?_|intro hsp))
 all_goals first|(exfalso;omega)|exact K8 rfl (F8 (M9 A8 A8)) rfl rfl rfl rfl rfl
theorem w_ReadZ (hN:J9 31 [.int .i64 (a:Nat),.int .i64 now] q t (.bool true) q t) (ha:a < 100000) (hW:mgI t.W ((a / 64:Nat):Int)=none):J9 12 [.int .i64 (a:Nat),.int .i64 now] q t (.tup [.int .u8 0,.int .i64 0]) q t:=by
 refine J9.mk (J6 F6 b12 rfl ?_) (M9 A8 A8) (F8 (M9 A8 A8))
 have hq64:=q64 ha
 have hm64:=m64 (t:=a)
 unfold c12
 unfold stN stC
 (refine wx_Sxi ?_;repeat' (first|with_reducible refine And.intro ?_ ?_|intro hsp))
 all_goals first|(exfalso;omega)|exact K8 rfl (F8 (M9 A8 A8)) rfl rfl rfl rfl rfl
theorem w_ReadE (hN:J9 31 [.int .i64 (a:Nat),.int .i64 now] q t (.bool true) q t) (ha:a < 100000) (hW:mgI t.W ((a / 64:Nat):Int)=some (x,y,z)) (hT:J9 32 [.int .i64 ((a / 64:Nat):Int),.int .i64 now] q t (.int .i64 e) q' t') (he:e ≠ 0):J9 12 [.int .i64 (a:Nat),.int .i64 now] q t (.tup [.int .u8 0,.int .i64 e]) q' t':=by
 refine J9.mk (J6 F6 b12 rfl ?_) (M9 A8 A8) (F8 (M9 A8 A8))
 have hq64:=q64 ha
 have hm64:=m64 (t:=a)
 unfold c12
 unfold stN stC
 (refine wx_Sxi ?_;repeat' (first|with_reducible refine And.intro ?_ ?_|intro hsp))
 all_goals first|(exfalso;omega)|exact K8 (q:=q') rfl (F8 (M9 A8 A8)) rfl rfl rfl rfl rfl
theorem w_ReadY {x2:Int} (hN:J9 31 [.int .i64 (a:Nat),.int .i64 now] q t (.bool true) q t) (ha:a < 100000) (hf:f < 1024) (hW:mgI t.W ((a / 64:Nat):Int)=some (x,y,z)) (hT:J9 32 [.int .i64 ((a / 64:Nat):Int),.int .i64 now] q t (.int .i64 0) q' t') (hW':mgI t'.W ((a / 64:Nat):Int)=some (((f:Nat):Int),x2,x'))
  (hR:AJ6 33 [.int .i64 (((f:Nat):Int) * 64+((a % 64:Nat):Int))] q'.s.a (.tup [.int .u8 v,.int .i64 e2]) q'.s.a):J9 12 [.int .i64 (a:Nat),.int .i64 now] q t (.tup [.int .u8 v,.int .i64 e2]) q' t':=by
 refine J9.mk (J6 F6 b12 rfl ?_) (M9 A8 A8) (F8 (M9 A8 A8))
 have hq64:=q64 ha
 have hm64:=m64 (t:=a)
 have hml:a % 64 < 64:=Nat.mod_lt _ (by decide)
 unfold c12
 unfold stN stC
 (refine wx_Sxi ?_;repeat' (first|with_reducible refine And.intro ?_ ?_|intro hsp))
 all_goals first|(exfalso;omega)|exact K8 (q:=q') rfl (F8 (M9 A8 A8)) rfl rfl rfl rfl rfl
theorem w_WriteN (hN:J9 31 [.int .i64 at_,.int .i64 now] q t (.bool false) q t):J9 26 [.int .i64 at_,.int .i64 now,.int .u8 v] q t (.int .i64 7) q t:=by
 refine J9.mk (J6 F6 b26 rfl ?_) (plain_three A8 A8 A8) A8
 unfold c26
 unfold stN stC
 (refine wx_Sxi ?_;repeat' (first|with_reducible refine And.intro ?_ ?_|intro hsp))
 all_goals first|(exfalso;omega)|exact K8 rfl A8 rfl rfl rfl rfl rfl
theorem w_WriteE (hN:J9 31 [.int .i64 (a:Nat),.int .i64 now] q t (.bool true) q t) (ha:a < 100000) (hT:J9 32 [.int .i64 ((a / 64:Nat):Int),.int .i64 now] q t (.int .i64 e) q' t') (he:e ≠ 0):J9 26 [.int .i64 (a:Nat),.int .i64 now,.int .u8 v] q t (.int .i64 e) q' t':=by
 refine J9.mk (J6 F6 b26 rfl ?_) (plain_three A8 A8 A8) A8
 have hq64:=q64 ha
 have hm64:=m64 (t:=a)
 unfold c26
 unfold stN stC
 (refine wx_Sxi ?_;repeat' (first|with_reducible refine And.intro ?_ ?_|intro hsp))
 all_goals first|(exfalso;omega)|exact K8 (q:=q') rfl A8 rfl rfl rfl rfl rfl
theorem w_WriteY {s2:Sy} (hN:J9 31 [.int .i64 (a:Nat),.int .i64 now] q t (.bool true) q t) (ha:a < 100000) (hf:f < 1024) (hT:J9 32 [.int .i64 ((a / 64:Nat):Int),.int .i64 now] q t (.int .i64 0) q' t') (hW':mgI t'.W ((a / 64:Nat):Int)=some (((f:Nat):Int),x,x'))
  (hR:AJ6 47 [.int .i64 (((f:Nat):Int) * 64+((a % 64:Nat):Int)),.int .u8 v] q'.s.a (.int .i64 e2) s2.a):J9 26 [.int .i64 (a:Nat),.int .i64 now,.int .u8 v] q t (.int .i64 e2) { q' with s:=s2 } t':=by
 refine J9.mk (J6 F6 b26 rfl ?_) (plain_three A8 A8 A8) A8
 have hq64:=q64 ha
 have hm64:=m64 (t:=a)
 have hml:a % 64 < 64:=Nat.mod_lt _ (by decide)
 unfold c26
 unfold stN stC
 (refine wx_Sxi ?_;repeat' (first|with_reducible refine And.intro ?_ ?_|intro hsp))
 all_goals first|(exfalso;omega)|exact K8 (q:={ q' with s:=s2 }) rfl A8 rfl rfl rfl rfl rfl
end
end
end Go.Proofs.Ytbhgfoikbkaohaa.Sh
