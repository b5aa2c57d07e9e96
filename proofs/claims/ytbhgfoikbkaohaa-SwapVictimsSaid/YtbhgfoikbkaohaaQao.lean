/-
 The sort's contract.
 The sorted pages;the page that was touched first.
 The maps of a store behind each change.
 A page is put into a slot.
 A page is touched.
-/
import Derived.Test.YtbhgfoikbkaohaaQan
import Derived.Sort.EveryDepth
import Derived.Shelf.Sort.AssemblyIn
set_option linter.unusedSimpArgs false
set_option linter.unusedVariables false
set_option maxHeartbeats 6400000
namespace Go.Proofs.Ytbhgfoikbkaohaa.Sh
open Go Go.Am Go.Pol
def sort_ren:Go.Shelf.Ren:=⟨fun|189=>57|125=>68|257=>67|128=>84|129=>85|294=>75|295=>76|296=>77|297=>78|298=>79|299=>80|216=>81|300=>82|301=>83|328=>87|329=>88|330=>89|331=>90|332=>91|215=>92|343=>95|n=>n,fun|28=>55|3=>3|46=>157|0=>0|51=>170|53=>172|4=>4|183=>163|182=>162|131=>123|5=>5|9=>9|218=>175|222=>124|228=>182|229=>183|n=>n,fun|n=>n⟩
theorem BM7:Go.Proofs.Lays.n189 Try.prog sort_ren:={ mixed:=by kernel_rfl,f125:=Try.func68.trans (congrArg some (by kernel_rfl)),f128:=Try.func84.trans (congrArg some (by kernel_rfl)),f129:=Try.func85.trans (congrArg some (by kernel_rfl)),f189:=Try.func57.trans (congrArg some (by kernel_rfl)),f215:=Try.func92.trans (congrArg some (by kernel_rfl)),f216:=Try.func81.trans (congrArg some (by kernel_rfl)),f257:=Try.func67.trans (congrArg some (by kernel_rfl)),f294:=Try.func75.trans (congrArg some (by kernel_rfl)),f295:=Try.func76.trans (congrArg some (by kernel_rfl)),f296:=Try.func77.trans (congrArg some (by kernel_rfl)),f297:=Try.func78.trans (congrArg some (by kernel_rfl)),f298:=Try.func79.trans (congrArg some (by kernel_rfl)),f299:=Try.func80.trans (congrArg some (by kernel_rfl)),f300:=Try.func82.trans (congrArg some (by kernel_rfl)),f301:=Try.func83.trans (congrArg some (by kernel_rfl)),f328:=Try.func87.trans (congrArg some (by kernel_rfl)),f329:=Try.func88.trans (congrArg some (by kernel_rfl)),f330:=Try.func89.trans (congrArg some (by kernel_rfl)),f331:=Try.func90.trans (congrArg some (by kernel_rfl)),f332:=Try.func91.trans (congrArg some (by kernel_rfl)),f343:=Try.func95.trans (congrArg some (by kernel_rfl)),t0:=Try.underlying0,a0:=Try.isAgg0,z0:=Try.sizeOf0,v0:=Try.zeroValue0,t3:=Try.underlying3,a3:=Try.isAgg3,z3:=Try.sizeOf3,v3:=Try.zeroValue3,t4:=Try.underlying4,a4:=Try.isAgg4,z4:=Try.sizeOf4,v4:=Try.zeroValue4,t5:=Try.underlying5,a5:=Try.isAgg5,z5:=Try.sizeOf5,v5:=Try.zeroValue5,t9:=Try.underlying9,a9:=Try.isAgg9,z9:=Try.sizeOf9,v9:=Try.zeroValue9,t28:=Try.underlying55,a28:=Try.isAgg55,z28:=Try.sizeOf55,v28:=Try.zeroValue55,t46:=Try.underlying157,a46:=Try.isAgg157,z46:=Try.sizeOf157,v46:=Try.zeroValue157,t51:=Try.underlying170,a51:=Try.isAgg170,z51:=Try.sizeOf170,v51:=Try.zeroValue170,t53:=Try.underlying172,a53:=Try.isAgg172,z53:=Try.sizeOf172,v53:=Try.zeroValue172,t131:=Try.underlying123,a131:=Try.isAgg123,z131:=Try.sizeOf123,v131:=Try.zeroValue123,t182:=Try.underlying162,a182:=Try.isAgg162,z182:=Try.sizeOf162,v182:=Try.zeroValue162,t183:=Try.underlying163,a183:=Try.isAgg163,z183:=Try.sizeOf163,v183:=Try.zeroValue163,t218:=Try.underlying175,a218:=Try.isAgg175,z218:=Try.sizeOf175,v218:=Try.zeroValue175,t222:=Try.underlying124,a222:=Try.isAgg124,z222:=Try.sizeOf124,v222:=Try.zeroValue124,t228:=Try.underlying182,a228:=Try.isAgg182,z228:=Try.sizeOf182,v228:=Try.zeroValue182,t229:=Try.underlying183,a229:=Try.isAgg183,z229:=Try.sizeOf183,v229:=Try.zeroValue183 }
theorem so_ok {n:Nat} {zs S:List Int} (hn:zs.length=n) (hp:zs.Perm S) (hs:S.Pairwise (· < ·)) (hz:n≤1000):LocSo Try.prog G0 57 n zs S :=
 ⟨loc_sort (by kernel_rfl) hn (sort_is hp hs) (by omega) fun blk off cap w hH hb=>calls_of_every_depth fun D=>AnyS.slices_Sort_int_in BM7 D blk off cap zs w hH hb (by omega)⟩
end Go.Proofs.Ytbhgfoikbkaohaa.Sh
namespace Go.Pol
open Go.Am Go.Proofs.Ytbhgfoikbkaohaa.Sh
def Sw.pages (w:Sw):List Nat:=(List.range w.pg).filter fun p=>decide (w.is p)
def vst (w:Sw) (o:Option Nat) (p:Nat):Option Nat:=if 0≤w.F p then (match o with
  | none=>some p
  | some b=>if w.Z p < w.Z b then some p else some b) else o
theorem Am5 (w:Sw):∀ m,w.vicN m=(List.range m).foldl (vst w) none
 | 0=>rfl
 | m+1=>by
  rw [List.range_succ,List.foldl_append,← Am5 w m]
  rfl
theorem Aj3 {w:Sw}:∀ (l:List Nat) (o:Option Nat),(l.filter fun p=>decide (w.is p)).foldl (vst w) o=l.foldl (vst w) o
 | [],o=>rfl
 | p::l,o=>by
  by_cases h:w.is p
  ·rw [List.filter_cons_of_pos (by simpa using h),List.foldl_cons,List.foldl_cons,Aj3 l]
  ·rw [List.filter_cons_of_neg (by simpa using h),List.foldl_cons,Aj3 l]
   have : vst w o p=o:=if_neg fun h2=>h (.inl h2)
   rw [this]
theorem vic_fold (w:Sw):w.vic=w.pages.foldl (vst w) none:=by unfold Sw.vic Sw.pages;rw [Am5,Aj3]
def Al5 (w:Sw) (j:Nat):Option Nat:=(w.pages.take j).foldl (vst w) none
theorem vicT_0 {w:Sw}:opA (Al5 w 0) = -1:=rfl
theorem vicT_s {w:Sw} {j:Nat} (h:j < w.pages.length):Al5 w (j+1)=vst w (Al5 w j) (nth 0 w.pages j):=by
 unfold Al5;rw [AN7 (d:=0) h,List.foldl_append];rfl
theorem vicT_all {w:Sw}:Al5 w w.pages.length=w.vic:=by rw [vic_fold];unfold Al5;rw [List.take_length]
theorem vst_in {w:Sw} (hz:∀ p,¬ w.is p→¬ 0≤w.F p) {b:Nat}:∀ (l:List Nat) (o:Option Nat),l.foldl (vst w) o=some b→(o=some b)∨(b ∈ l∧0≤w.F b)
 | [],o,h=>.inl h
 | p::l,o,h=>by
  rcases vst_in hz l _ h with h2 | ⟨h2,h3⟩
  ·unfold vst at h2
   split at h2
   ·rename_i hF
    split at h2
    ·cases h2;exact .inr ⟨List.mem_cons_self ..,hF⟩
    ·split at h2
     ·cases h2;exact .inr ⟨List.mem_cons_self ..,hF⟩
     ·cases h2;exact .inl rfl
   ·exact .inl h2
  ·exact .inr ⟨List.mem_cons_of_mem _ h2,h3⟩
theorem AO9 {w:Sw} (hg:D9 w) {p:Nat}:p ∈ w.pages ↔ w.is p:=by
 unfold Sw.pages
 rw [List.mem_filter,decide_eq_true_eq,List.mem_range]
 exact ⟨fun h=>h.2,fun h=>⟨h.elim (AB3 hg) (AJ2 hg),h⟩⟩
theorem BB7 {w:Sw}:w.pages.Nodup:=List.nodup_range.filter _
theorem BB6 {w:Sw}:w.pages.Pairwise (· < ·):=List.pairwise_lt_range.filter _
structure WW (w:Sw) (L:List (Int × Int × Int × Int)):Prop where
 nd:ndI L
 gW:∀ p:Int,mgI L p=if 0≤p∧w.is p.toNat then some (w.F p.toNat,w.T p.toNat,w.Z p.toNat) else none
theorem WOk.ww {w:Sw} {t:WS} (h:WOk w t):WW w t.W:=⟨h.ndW,h.gW⟩
theorem AC6 {w:Sw} {t:WS} (hg:D9 w) (h:WW w t.W):(t.W.map (·.1)).Perm (w.pages.map fun p=>((p:Nat):Int)):=by
 refine (List.perm_ext_iff_of_nodup h.nd ?_).2 fun k=>?_
 ·exact List.Pairwise.map (R:=fun a b=>a ≠ b) _ (fun a b hab e=>hab (by omega)) BB7
 ·rw [Ai6,List.mem_map]
  constructor
  ·rintro ⟨v,hv⟩
   rw [h.gW] at hv
   split at hv
   ·rename_i hk
    exact ⟨k.toNat,(AO9 hg).2 hk.2,by omega⟩
   ·cases hv
  ·rintro ⟨p,hp,rfl⟩
   exact ⟨_,by rw [h.gW,if_pos ⟨by omega,by rw [Int.toNat_natCast];exact (AO9 hg).1 hp⟩]⟩
theorem Ao3 {w:Sw}:(w.pages.map fun p=>((p:Nat):Int)).Pairwise (· < ·):=List.Pairwise.map (R:=fun a b=>a < b) _ (fun a b hab=>by omega) BB6
theorem AP6 {w:Sw} {t:WS} (h:WW w t.W) {p:Nat} (hp:w.is p):mgI t.W (p:Nat)=some (w.F p,w.T p,w.Z p):=by
 rw [h.gW,if_pos ⟨by omega,by rw [Int.toNat_natCast];exact hp⟩,Int.toNat_natCast]
theorem BU4 {w:Sw} {t:WS} (h:WW w t.W) {p:Nat} (hp:¬ w.is p):mgI t.W (p:Nat)=none:=by
 rw [h.gW,if_neg fun h2=>hp (by rw [Int.toNat_natCast] at h2;exact h2.2)]
end Go.Pol
namespace Go.Proofs.Ytbhgfoikbkaohaa.Sh
open Go Go.Am Go.Pol
open Go.Proofs.Ytbhgfoikbkaohaa.Sh renaming plx_Sxc → plx
open Go.Proofs.Ytbhgfoikbkaohaa.Sh renaming ppx_Sxc → ppx
theorem wx_Sxe {p q:Prop} (hq:q) (h:Z5 q→p:=by (intro hQz;((repeat' ((try (conv=>whnf));first|(with_reducible first|refine M5 ?_|refine J4 ?_|refine M8 ?_|refine N7 ?_|refine J9 ?_|refine R9 ?_|refine M0 ?_|refine R8 rfl ?_|refine M4 ?_|refine H9 ?_|refine J7 ?_|refine J8 ?_|refine M9 ?_|refine H8 ?_|refine J5 (by decide +kernel) ?_|refine I8 (by decide +kernel) ?_|refine AF5 ?_|refine AF6 ?_|refine As9 ?_|refine l5 ?_|refine AK7 ?_|refine Al8 (by assumption) ?_|refine Al9 (by assumption) ?_|refine j5 (by omega) ?_|refine AK6 ?_)|((with_reducible refine AK8 ?_ ?_);focus omega)|((with_reducible refine AK9 ?_ ?_);focus omega)|((with_reducible apply V6 hQz)<;>(try intro hsp hQz))|((with_reducible refine As7 ?_ ?_);focus (first|omega|rfl|assumption|decide|(simp only [List.length_map,List.length_cons,List.length_nil];omega)|exact hmk))|refine AC9 (hmk) ?_|(with_reducible first|refine AK3 ?_|refine j4 ?_|refine d9 ?_|refine AK5 ?_|refine AK4 ?_|refine AK1 ?_|refine As6 ?_|refine H6 ?_|refine Z7 ?_|refine M7 ?_|refine M6 ?_|refine H7 ?_|refine AK2 (by omega) ?_|refine Z9 (by omega) ?_)|refine mlen_i rfl ?_|refine BF1 rfl rfl (by omega) ?_|refine K7 hS ?_|refine Y7 hgp rfl ?_|refine Y7 hgb rfl ?_|refine sxF ?_|refine cx_so G9 hs rfl (by decide) ?_|refine Ak4 F6 rfl hF hA hB rfl ?_|(refine AA9 F6 b34 rfl ?_;unfold c34)|refine sxH ?_|((with_reducible apply V7 hQz)<;>(try intro hsp hQz))|exact hQz.out))<;>(try (conv=>whnf))))):p:=h ⟨hq⟩
section
variable {q:Sw} {t:WS}
theorem BR6 (hg:D9 q) {j:Nat} (hj:j < q.pages.length):q.is (nth 0 q.pages j):=(AO9 hg).1 (AZ4 hj)
theorem pgI_at {j:Nat} (hj:j < q.pages.length):((q.pages.map fun p=>((p:Nat):Int)).map (AV.int .i64))[j]? = some (.int .i64 ((nth 0 q.pages j:Nat):Int)):=by
 rw [Y9 hj,List.getElem?_map,List.getElem?_map,List.getElem?_eq_getElem hj];rfl
theorem Az3 (hg:D9 q) (h:WW q t.W):K3 36 [] q t (.int .i64 (opA q.vic)) q t:=by
 have hwl:t.W.length≤256:=by
  have:=(AC6 hg h).length_eq
  rw [List.length_map,List.length_map] at this
  have h2:q.pages.length≤q.pg:=Nat.le_trans (List.length_filter_le ..) (by rw [List.length_range];exact Nat.le_refl _)
  have:=hg.rng;omega
 have hpl:t.W.length=q.pages.length:=by
  have:=(AC6 hg h).length_eq
  rwa [List.length_map,List.length_map] at this
 have hmk:=kyC_0 (n:=t.W.length)
 refine K3.mk (G5 F6 b36 rfl ?_) (fun x hx=>by cases hx) A8
 unfold c36
 unfold stN stC
 (refine wx_Sxe ?_;repeat' (first|with_reducible refine And.intro ?_ ?_|intro hsp))
 refine Au7 F6 bS_page rfl trivial ?_
 intro frl asl bdl hF hA hB
 unfold cKs0
 (refine wx_Sxe ?_;repeat' (first|with_reducible refine And.intro ?_ ?_|intro hsp))
 refine KeysX.mk fun ck hck=>BS8 F6 hck (i:=1) (it:=10) (pb:=7) (po:=0) (cs:=[]) (ks:=t.W.map (·.1)) [] (fun vis=>[(0,.yld 8),(1,.ptr 7 0),(3,.sl 9 0 vis.length t.W.length 1)]) (fun vis=>[(0,.cells (stC 4 1 2 3 q)),(2,.maps (encW byE t.D)),(3,.maps (encW nuE t.H)),(4,.cells q.s.a),(5,.cells [.ptr 0 0]),(6,.cells [.int .i64 (-1)]),(7,.cells [.mapr 1]),(8,.loop .ready none frl [11,12] asl bdl),(9,.cells (kyC vis t.W.length))]) Ak2 h.nd rfl rfl rfl (.inr ⟨_,rfl⟩) rfl (by decide) (by decide) rfl (fun _=>rfl) rfl (fun _=>rfl) ?_ ?_ ?_
 ·exact K4
 ·intro vis k hnd hsub
  have hl1:vis.length < t.W.length:=by
   have:=Ai8 hnd hsub
   rw [List.length_append,List.length_map] at this
   exact this
  unfold cKs4
  (refine wx_Sxe ?_;repeat' (first|with_reducible refine And.intro ?_ ?_|intro hsp))
  refine ⟨[],rfl,?_⟩
  rw [show (vis++[k]).length=vis.length+1 by simp]
  exact K4
 ·intro vis hperm
  have hlen:vis.length=t.W.length:=by rw [hperm.length_eq,List.length_map]
  have hs:=so_ok hlen (hperm.trans (AC6 hg h)) Ao3 (by omega)
  rw [Aw4 hlen,hlen]
  unfold cKs1
  unfold cKsR
  (refine wx_Sxe ?_;repeat' (first|with_reducible refine And.intro ?_ ?_|intro hsp))
  rw [hpl]
  have hv0:=vicT_0 (w:=q)
  (refine O4 [0,1,22,23] (fun (j:Nat)=>[(24,.int .i64 (j:Nat))]) (fun (j:Nat)=>⟨stN q t 0 1 2 3 4++[(5,.cells [.ptr 0 0]),(6,.cells [.int .i64 (opA (Al5 q j))]),(7,.cells [.mapr 1]),(8,.loop .ready none frl [11,12] asl bdl),(9,.cells ((q.pages.map fun p=>((p:Nat):Int)).map (AV.int .i64)))],11⟩) (fun (j:Nat)=>j≤q.pages.length) (fun (j:Nat)=>q.pages.length - j) (0) [] rfl (fun _=>by first|exact Nat.zero_le _|(dsimp only;omega)) ?_ (by ((try (conv=>whnf));(rw [hv0]);exact K4)) ?_)
  ·exact Nat.zero_le _
  intro j hj
  by_cases hjl:j < q.pages.length
  ·have hip:=BR6 hg hjl
   have hS:=pgI_at hjl
   have hvs:=vicT_s hjl
   generalize nth 0 q.pages j=p at *
   have hgp:=AP6 h hip
   by_cases hF0:0≤q.F p
   ·rcases (show Al5 q j=none∨∃ b,Al5 q j=some b by cases Al5 q j<;>simp) with hv | ⟨b,hv⟩
    ·have hy:opA (Al5 q j) = -1:=by rw [hv];rfl
     have hnx:opA (Al5 q (j+1))=(p:Nat):=by rw [hvs,hv];unfold vst;rw [if_pos hF0];rfl
     rw [hy]
     unfold stN stC
     (refine wx_Sxe ?_;repeat' (first|with_reducible refine And.intro ?_ ?_|intro hsp))
     all_goals first|(exfalso;omega)|exact F9 (j+1) [] (by (try dsimp only);omega) (by first|omega|(dsimp only;omega)) rfl (by ((try dsimp only);rw [hnx]);exact K4)
    ·have hy:opA (Al5 q j)=(b:Nat):=by rw [hv];rfl
     have hb:0≤q.F b:=by
      rcases vst_in (w:=q) (fun p hp h2=>hp (.inl h2)) _ _ hv with h2 | ⟨_,h2⟩
      ·cases h2
      ·exact h2
     have hgb:=AP6 h (p:=b) (.inl hb)
     by_cases hz:q.Z p < q.Z b
     ·have hnx:opA (Al5 q (j+1))=(p:Nat):=by rw [hvs,hv];unfold vst;rw [if_pos hF0];dsimp only;rw [if_pos hz];rfl
      rw [hy]
      unfold stN stC
      (refine wx_Sxe ?_;repeat' (first|with_reducible refine And.intro ?_ ?_|intro hsp))
      all_goals first|(exfalso;omega)|exact F9 (j+1) [] (by (try dsimp only);omega) (by first|omega|(dsimp only;omega)) rfl (by ((try dsimp only);rw [hnx]);exact K4)
     ·have hnx:opA (Al5 q (j+1))=(b:Nat):=by rw [hvs,hv];unfold vst;rw [if_pos hF0];dsimp only;rw [if_neg hz];rfl
      rw [hy]
      unfold stN stC
      (refine wx_Sxe ?_;repeat' (first|with_reducible refine And.intro ?_ ?_|intro hsp))
      all_goals first|(exfalso;omega)|exact F9 (j+1) [] (by (try dsimp only);omega) (by first|omega|(dsimp only;omega)) rfl (by ((try dsimp only);rw [hnx]);exact K4)
   ·have hnx:opA (Al5 q (j+1))=opA (Al5 q j):=by rw [hvs];unfold vst;rw [if_neg hF0]
    generalize opA (Al5 q j)=y at *
    unfold stN stC
    (refine wx_Sxe ?_;repeat' (first|with_reducible refine And.intro ?_ ?_|intro hsp))
    all_goals first|(exfalso;omega)|exact F9 (j+1) [] (by (try dsimp only);omega) (by first|omega|(dsimp only;omega)) rfl (by ((try dsimp only);rw [hnx]);exact K4)
  ·obtain rfl:j=q.pages.length:=by omega
   rw [vicT_all]
   unfold stN stC
   (refine wx_Sxe ?_;repeat' (first|with_reducible refine And.intro ?_ ?_|intro hsp))
   all_goals first|(exfalso;omega)|exact J6 rfl A8 rfl rfl rfl rfl rfl
end
end Go.Proofs.Ytbhgfoikbkaohaa.Sh
namespace Go.Pol
open Go.Am Go.Proofs.Ytbhgfoikbkaohaa.Sh
section
variable {w:Sw} {t:WS}
theorem AV2 {f:Nat→Int} {i j:Nat} {v:Int}:E8 f i v j=if j=i then v else f j:=rfl
theorem Az0 (hg:D9 w) (p:Nat):(w.F p = -1)∨(w.T p = -1∧0≤w.F p):=by
 rcases hg.fr p with h | ⟨h1,f,h2,_⟩
 ·exact .inl h
 ·exact .inr ⟨h1,by omega⟩
theorem Ac3 (hg:D9 w) (p:Nat):(w.T p = -1)∨(w.F p = -1∧0≤w.T p):=by
 rcases hg.sl p with h | ⟨h1,f,h2,_⟩
 ·exact .inl h
 ·exact .inr ⟨h1,by omega⟩
theorem Am2 {w':Sw} {t':WS} (n1:ndI t'.W) (n2:ndI t'.D) (n3:ndI t'.H) (hf:∀ p,w'.pg≤p→w'.T p = -1)
  (g1:∀ p:Nat,mgI t'.W (p:Nat)=if w'.is p then some (w'.F p,w'.T p,w'.Z p) else none) (g1':∀ p:Int,p < 0→mgI t'.W p=none)
  (g2:∀ k:Nat,(∀ p,w'.T p=(k:Nat)→mgI t'.D (k:Nat)=some (w'.D k))∧((∀ p,w'.T p ≠ (k:Nat))→mgI t'.D (k:Nat)=none)) (g2':∀ k:Int,k < 0→mgI t'.D k=none)
  (g3:∀ (f p:Nat),mgI t'.H (f:Nat)=some ((p:Nat):Int) ↔ w'.F p=(f:Nat)) (g3':∀ f:Int,f < 0→mgI t'.H f=none) (g3n:∀ (f p:Int),mgI t'.H f=some p→0≤p):WOk w' t':=by
 refine ⟨n1,n2,n3,fun p=>?_,fun k=>?_,fun f p=>?_⟩
 ·by_cases h0:0≤p
  ·obtain ⟨m,rfl⟩:=Int.eq_ofNat_of_zero_le h0
   rw [g1,Int.toNat_natCast]
   by_cases hi:w'.is m
   ·rw [if_pos hi,if_pos ⟨h0,hi⟩]
   ·rw [if_neg hi,if_neg fun h=>hi h.2]
  ·rw [g1' p (by omega),if_neg fun h=>h0 h.1]
 ·by_cases h0:0≤k
  ·obtain ⟨m,rfl⟩:=Int.eq_ofNat_of_zero_le h0
   rw [Int.toNat_natCast]
   by_cases hh:w'.heldT m
   ·obtain ⟨p,_,hp⟩:=hh
    rw [if_pos ⟨h0,⟨p,by assumption,hp⟩⟩]
    exact (g2 m).1 p hp
   ·rw [if_neg fun h=>hh h.2]
    refine (g2 m).2 fun p hp=>hh ⟨p,?_,hp⟩
    exact Classical.byContradiction fun hn=>by rw [hf p (by omega)] at hp;omega
  ·rw [g2' k (by omega),if_neg fun h=>h0 h.1]
 ·by_cases h0:0≤f
  ·obtain ⟨m,rfl⟩:=Int.eq_ofNat_of_zero_le h0
   constructor
   ·intro h
    have hp:=g3n _ _ h
    obtain ⟨j,rfl⟩:=Int.eq_ofNat_of_zero_le hp
    rw [Int.toNat_natCast]
    exact ⟨hp,h0,(g3 m j).1 h⟩
   ·rintro ⟨h1,_,h3⟩
    obtain ⟨j,rfl⟩:=Int.eq_ofNat_of_zero_le h1
    rw [Int.toNat_natCast] at h3
    exact (g3 m j).2 h3
  ·rw [g3' f (by omega)]
   exact ⟨fun h=>(by cases h),fun h=>absurd h.2.1 h0⟩
theorem gW_n (h:WOk w t) (p:Nat):mgI t.W (p:Nat)=if w.is p then some (w.F p,w.T p,w.Z p) else none:=by
 by_cases hi:w.is p
 ·rw [if_pos hi,AP6 h.ww hi]
 ·rw [if_neg hi,BU4 h.ww hi]
theorem Aq0 (h:WOk w t) {p:Int} (hp:p < 0):mgI t.W p=none:=by rw [h.gW,if_neg fun h2=>by have:=h2.1;omega]
theorem Aa4 (h:WOk w t) {k:Int} (hk:k < 0):mgI t.D k=none:=by rw [h.gD,if_neg fun h2=>by have:=h2.1;omega]
theorem AU8 (hg:D9 w) (h:WOk w t) {p k:Nat} (hp:w.T p=(k:Nat)):mgI t.D (k:Nat)=some (w.D k):=by
 rw [h.gD,if_pos ⟨by omega,by rw [Int.toNat_natCast];exact ⟨p,AJ2 hg (by omega),hp⟩⟩,Int.toNat_natCast]
theorem Aq1 (h:WOk w t) {k:Nat} (hp:∀ p,w.T p ≠ (k:Nat)):mgI t.D (k:Nat)=none:=by
 rw [h.gD,if_neg fun h2=>by
  have:=h2.2
  rw [Int.toNat_natCast] at this
  obtain ⟨p,_,h3⟩:=this
  exact hp p h3]
theorem gH_n (h:WOk w t) (f p:Nat):mgI t.H (f:Nat)=some ((p:Nat):Int) ↔ w.F p=(f:Nat):=by
 rw [h.gH,Int.toNat_natCast]
 exact ⟨fun h=>h.2.2,fun h=>⟨by omega,by omega,h⟩⟩
theorem Af3 (h:WOk w t) {f:Int} (hf:f < 0):mgI t.H f=none:=by
 cases hm:mgI t.H f with
 | none=>rfl
 | some p=>have:=((h.gH f p).1 hm).2.1;omega
theorem BU5 (h:WOk w t) {f p:Int} (hf:mgI t.H f=some p):0≤p:=((h.gH f p).1 hf).1
theorem AQ5 (h:WOk w t) (s':Sy):WOk { w with s:=s' } t:=⟨h.ndW,h.ndD,h.ndH,h.gW,h.gD,h.gH⟩
theorem BK1 (hg:D9 w) (h:WOk w t) {p:Nat} (hp:0≤w.F p) (now:Int):WOk { w with Z:=E8 w.Z p now } ⟨mpI t.W (p:Nat) (w.F p,w.T p,now),t.D,t.H⟩:=by
 refine Am2 (Ad1 h.ndW) h.ndD h.ndH (fun j hj=>(hg.far j hj).2) (fun j=>?_) (fun j hj=>?_) (fun k=>⟨fun j hj=>AU8 hg h hj,fun hj=>Aq1 h hj⟩) (fun k hk=>Aa4 h hk) (fun f j=>gH_n h f j) (fun f hf=>Af3 h hf) (fun f j hj=>BU5 h hj)
 ·show mgI (mpI t.W (p:Nat) (w.F p,w.T p,now)) (j:Nat)=if w.is j then some (w.F j,w.T j,E8 w.Z p now j) else none
  rw [l9,AV2,gW_n h]
  by_cases e:j=p
  ·subst e;rw [if_pos rfl,if_pos (.inl hp),if_pos rfl]
  ·rw [if_neg (by omega),if_neg e]
 ·show mgI (mpI t.W (p:Nat) (w.F p,w.T p,now)) j=none
  rw [l9,if_neg (by omega),Aq0 h hj]
theorem BK3 (hg:D9 w) (h:WOk w t) {p f:Nat} (hp:p < w.pg) (hn:¬ 0≤w.F p) (hf:¬ w.heldF f) (now:Int) (x:Nat→Int):WOk (w.brg p f now x) ⟨mpI t.W (p:Nat) ((f:Nat),-1,now),mdI t.D (w.T p),mpI t.H (f:Nat) (p:Nat)⟩:=by
 have hfn:∀ j,w.F j ≠ (f:Nat):=fun j hj=>hf ⟨j,AB3 hg (by omega),hj⟩
 have hFp:w.F p = -1:=(Az0 hg p).resolve_right fun h=>hn h.2
 refine Am2 (Ad1 h.ndW) (Av4 h.ndD) (Ad1 h.ndH) (fun j hj=>?_) (fun j=>?_) (fun j hj=>?_) (fun k=>⟨fun j hj=>?_,fun hj=>?_⟩) (fun k hk=>?_) (fun g j=>?_) (fun g hg'=>?_) (fun g j hj=>?_)
 ·show E8 w.T p (-1) j = -1
  rw [AV2]
  split
  ·rfl
  ·exact (hg.far j hj).2
 ·show mgI (mpI t.W (p:Nat) ((f:Nat),-1,now)) (j:Nat)=if (0≤E8 w.F p (f:Nat) j∨0≤E8 w.T p (-1) j) then some (E8 w.F p (f:Nat) j,E8 w.T p (-1) j,E8 w.Z p now j) else none
  rw [l9,AV2,AV2,AV2,gW_n h]
  by_cases e:j=p
  ·subst e;rw [if_pos rfl,if_pos rfl,if_pos rfl,if_pos rfl,if_pos (.inl (by omega))]
  ·rw [if_neg (by omega),if_neg e,if_neg e,if_neg e];rfl
 ·show mgI (mpI t.W (p:Nat) ((f:Nat),-1,now)) j=none
  rw [l9,if_neg (by omega),Aq0 h hj]
 ·have hj':E8 w.T p (-1) j=(k:Nat):=hj
  rw [AV2] at hj'
  show mgI (mdI t.D (w.T p)) (k:Nat)=some (w.D k)
  split at hj'
  ·omega
  ·rename_i e
   rw [AB8 h.ndD,if_neg fun e2=>e (hg.oneT j p (by omega) (by omega)),AU8 hg h hj']
 ·show mgI (mdI t.D (w.T p)) (k:Nat)=none
  rw [AB8 h.ndD]
  by_cases e:((k:Nat):Int)=w.T p
  ·rw [if_pos e]
  ·rw [if_neg e]
   refine Aq1 h fun i hi=>?_
   have:=hj i
   have h2:E8 w.T p (-1) i ≠ (k:Nat):=this
   rw [AV2] at h2
   split at h2
   ·rename_i e2;subst e2;exact e hi.symm
   ·exact h2 hi
 ·show mgI (mdI t.D (w.T p)) k=none
  rw [AB8 h.ndD,Aa4 h hk];split<;>rfl
 ·show mgI (mpI t.H (f:Nat) (p:Nat)) (g:Nat)=some ((j:Nat):Int) ↔ E8 w.F p (f:Nat) j=(g:Nat)
  rw [l9,AV2]
  by_cases e:g=f
  ·subst e
   rw [if_pos rfl]
   by_cases e2:j=p
   ·subst e2;rw [if_pos rfl];simp
   ·rw [if_neg e2]
    exact ⟨fun h=>absurd (Option.some.inj h) (by omega),fun h=>absurd h (hfn j)⟩
  ·rw [if_neg (by omega),gH_n h]
   by_cases e2:j=p
   ·subst e2;rw [if_pos rfl,hFp];exact ⟨fun h=>by omega,fun h=>by omega⟩
   ·rw [if_neg e2]
 ·show mgI (mpI t.H (f:Nat) (p:Nat)) g=none
  rw [l9,if_neg (by omega),Af3 h hg']
 ·have hj':mgI (mpI t.H (f:Nat) (p:Nat)) g=some j:=hj
  rw [l9] at hj'
  split at hj'
  ·cases hj';omega
  ·exact BU5 h hj'
theorem At2 (hg:D9 w) (h:WOk w t) {p v f k:Nat} (hp:p < w.pg) (hn:¬ 0≤w.F p) (hv:w.F v=(f:Nat)) (hk:((k:Nat):Int)=w.T p∨¬ w.heldT k) (now:Int) (x:Nat→Int) :
  WOk ((w.put v k).brg p (w.F v).toNat now x) ⟨mpI (mpI t.W (v:Nat) (-1,(k:Nat),w.Z v)) (p:Nat) ((f:Nat),-1,now),mpI (mdI t.D (w.T p)) (k:Nat) (w.s.B f),mpI (mdI t.H (f:Nat)) (f:Nat) (p:Nat)⟩:=by
 have hFp:w.F p = -1:=(Az0 hg p).resolve_right fun h=>hn h.2
 have hvp:v ≠ p:=fun e=>by rw [e,hFp] at hv;omega
 have hTv:w.T v = -1:=(Ac3 hg v).resolve_right fun h=>by rw [h.1] at hv;omega
 have hkn:∀ j,j ≠ p→w.T j ≠ (k:Nat):=fun j hj e=>by
  rcases hk with hk|hk
  ·exact hj (hg.oneT j p (by omega) (by omega))
  ·exact hk ⟨j,AJ2 hg (by omega),e⟩
 have hfn:∀ j,j ≠ v→w.F j ≠ (f:Nat):=fun j hj e=>hj (hg.oneF j v (by omega) (by omega))
 have hft:(w.F v).toNat=f:=by rw [hv,Int.toNat_natCast]
 have eF:∀ j,((w.put v k).brg p (w.F v).toNat now x).F j=if j=p then ((f:Nat):Int) else if j=v then -1 else w.F j:=fun j=>by
  show E8 (E8 w.F v (-1)) p ((w.F v).toNat:Nat) j=_
  rw [hft,AV2,AV2]
 have eT:∀ j,((w.put v k).brg p (w.F v).toNat now x).T j=if j=p then -1 else if j=v then ((k:Nat):Int) else w.T j:=fun j=>by
  show E8 (E8 w.T v (k:Nat)) p (-1) j=_
  rw [AV2,AV2]
 have eZ:∀ j,((w.put v k).brg p (w.F v).toNat now x).Z j=if j=p then now else w.Z j:=fun j=>rfl
 have eD:∀ j,((w.put v k).brg p (w.F v).toNat now x).D j=if j=k then w.s.B f else w.D j:=fun j=>by
  show AC1 w.D k (w.s.B (w.F v).toNat) j=_
  rw [hft];rfl
 have hpg:((w.put v k).brg p (w.F v).toNat now x).pg=w.pg:=rfl
 have hvl:v < w.pg:=AB3 hg (by omega)
 have eis:∀ j,((w.put v k).brg p (w.F v).toNat now x).is j ↔ (j=p∨j=v∨w.is j):=fun j=>by
  unfold Sw.is
  rw [eF,eT]
  by_cases e1:j=p
  ·rw [if_pos e1,if_pos e1];exact ⟨fun _=>.inl e1,fun _=>.inl (by omega)⟩
  ·rw [if_neg e1,if_neg e1]
   by_cases e2:j=v
   ·rw [if_pos e2,if_pos e2];exact ⟨fun _=>.inr (.inl e2),fun _=>.inr (by omega)⟩
   ·rw [if_neg e2,if_neg e2]
    exact ⟨fun h=>.inr (.inr h),fun h=>h.elim (fun h=>absurd h e1) fun h=>h.elim (fun h=>absurd h e2) id⟩
 generalize (w.put v k).brg p (w.F v).toNat now x=w' at *
 refine Am2 (Ad1 (Ad1 h.ndW)) (Ad1 (Av4 h.ndD)) (Ad1 (Av4 h.ndH)) (fun j hj=>?_) (fun j=>?_) (fun j hj=>?_) (fun m=>⟨fun j hj=>?_,fun hj=>?_⟩) (fun m hm=>?_) (fun g j=>?_) (fun g hg'=>?_) (fun g j hj=>?_)
 ·rw [eT,if_neg (by omega),if_neg (by omega)];exact (hg.far j (by omega)).2
 ·dsimp only
  rw [l9,l9,gW_n h,eF,eT,eZ]
  by_cases e1:j=p
  ·subst e1;rw [if_pos rfl,if_pos rfl,if_pos rfl,if_pos rfl,if_pos ((eis j).2 (.inl rfl))]
  ·rw [if_neg (by omega),if_neg e1,if_neg e1,if_neg e1]
   by_cases e2:j=v
   ·subst e2;rw [if_pos rfl,if_pos rfl,if_pos rfl,if_pos ((eis j).2 (.inr (.inl rfl)))]
   ·rw [if_neg (by omega),if_neg e2,if_neg e2]
    by_cases hi:w.is j
    ·rw [if_pos hi,if_pos ((eis j).2 (.inr (.inr hi)))]
    ·rw [if_neg hi,if_neg fun h2=>((eis j).1 h2).elim e1 fun h3=>h3.elim e2 hi]
 ·dsimp only
  rw [l9,if_neg (by omega),l9,if_neg (by omega),Aq0 h hj]
 ·rw [eT] at hj
  dsimp only
  rw [l9,eD]
  by_cases e:m=k
  ·subst e;rw [if_pos rfl,if_pos rfl]
  ·rw [if_neg (by omega),if_neg e,AB8 h.ndD]
   split at hj
   ·omega
   ·rename_i e1
    split at hj
    ·omega
    ·rw [if_neg fun e2=>e1 (hg.oneT j p (by omega) (by omega)),AU8 hg h hj]
 ·dsimp only
  have hne:m ≠ k:=fun e=>by
   have:=hj v
   rw [eT,if_neg hvp,if_pos rfl] at this
   exact this (by omega)
  rw [l9,if_neg (by omega),AB8 h.ndD]
  by_cases e:((m:Nat):Int)=w.T p
  ·rw [if_pos e]
  ·rw [if_neg e]
   refine Aq1 h fun i hi=>?_
   have h2:=hj i
   rw [eT] at h2
   split at h2
   ·rename_i e2;subst e2;exact e hi.symm
   ·split at h2
    ·rename_i e2;subst e2;omega
    ·exact h2 hi
 ·dsimp only
  rw [l9,if_neg (by omega),AB8 h.ndD,Aa4 h hm];split<;>rfl
 ·dsimp only
  rw [l9,eF]
  by_cases e:g=f
  ·subst e
   rw [if_pos rfl]
   by_cases e2:j=p
   ·subst e2;rw [if_pos rfl];simp
   ·rw [if_neg e2]
    constructor
    ·intro h;exact absurd (Option.some.inj h) (by omega)
    ·intro h2
     split at h2
     ·omega
     ·rename_i e3;exact absurd h2 (hfn j e3)
  ·rw [if_neg (by omega),AB8 h.ndH,if_neg (by omega),gH_n h]
   by_cases e2:j=p
   ·subst e2;rw [if_pos rfl,hFp];exact ⟨fun h=>by omega,fun h=>by omega⟩
   ·rw [if_neg e2]
    by_cases e3:j=v
    ·subst e3;rw [if_pos rfl,hv];exact ⟨fun h=>by omega,fun h=>by omega⟩
    ·rw [if_neg e3]
 ·dsimp only
  rw [l9,if_neg (by omega),AB8 h.ndH,Af3 h hg'];split<;>rfl
 ·dsimp only at hj
  rw [l9] at hj
  split at hj
  ·cases hj;omega
  ·rw [AB8 h.ndH] at hj
   split at hj
   ·cases hj
   ·exact BU5 h hj
theorem wok_out (hg:D9 w) (h:WOk w t) {p f k:Nat} (hv:w.F p=(f:Nat)) (hk:¬ w.heldT k):WOk (w.put p k) ⟨mpI t.W (p:Nat) (-1,(k:Nat),w.Z p),mpI t.D (k:Nat) (w.s.B f),mdI t.H (f:Nat)⟩:=by
 have hTp:w.T p = -1:=(Ac3 hg p).resolve_right fun h=>by rw [h.1] at hv;omega
 have hpl:p < w.pg:=AB3 hg (by omega)
 have hkn:∀ j,w.T j ≠ (k:Nat):=fun j e=>hk ⟨j,AJ2 hg (by omega),e⟩
 have hft:(w.F p).toNat=f:=by rw [hv,Int.toNat_natCast]
 have eF:∀ j,(w.put p k).F j=if j=p then -1 else w.F j:=fun j=>rfl
 have eT:∀ j,(w.put p k).T j=if j=p then ((k:Nat):Int) else w.T j:=fun j=>rfl
 have eZ:∀ j,(w.put p k).Z j=w.Z j:=fun j=>rfl
 have eD:∀ j,(w.put p k).D j=if j=k then w.s.B f else w.D j:=fun j=>by
  show AC1 w.D k (w.s.B (w.F p).toNat) j=_
  rw [hft];rfl
 have hpg:(w.put p k).pg=w.pg:=rfl
 have eis:∀ j,(w.put p k).is j ↔ (j=p∨w.is j):=fun j=>by
  unfold Sw.is
  rw [eF,eT]
  by_cases e1:j=p
  ·rw [if_pos e1,if_pos e1];exact ⟨fun _=>.inl e1,fun _=>.inr (by omega)⟩
  ·rw [if_neg e1,if_neg e1]
   exact ⟨fun h=>.inr h,fun h=>h.elim (fun h=>absurd h e1) id⟩
 generalize w.put p k=w' at *
 refine Am2 (Ad1 h.ndW) (Ad1 h.ndD) (Av4 h.ndH) (fun j hj=>?_) (fun j=>?_) (fun j hj=>?_) (fun m=>⟨fun j hj=>?_,fun hj=>?_⟩) (fun m hm=>?_) (fun g j=>?_) (fun g hg'=>?_) (fun g j hj=>?_)
 ·rw [eT,if_neg (by omega)];exact (hg.far j (by omega)).2
 ·dsimp only
  rw [l9,gW_n h,eF,eT,eZ]
  by_cases e1:j=p
  ·subst e1;rw [if_pos rfl,if_pos rfl,if_pos rfl,if_pos ((eis j).2 (.inl rfl))]
  ·rw [if_neg (by omega),if_neg e1,if_neg e1]
   by_cases hi:w.is j
   ·rw [if_pos hi,if_pos ((eis j).2 (.inr hi))]
   ·rw [if_neg hi,if_neg fun h2=>((eis j).1 h2).elim e1 hi]
 ·dsimp only
  rw [l9,if_neg (by omega),Aq0 h hj]
 ·rw [eT] at hj
  dsimp only
  rw [l9,eD]
  by_cases e:m=k
  ·subst e;rw [if_pos rfl,if_pos rfl]
  ·rw [if_neg (by omega),if_neg e]
   split at hj
   ·omega
   ·exact AU8 hg h hj
 ·dsimp only
  have hne:m ≠ k:=fun e=>by
   have:=hj p
   rw [eT,if_pos rfl] at this
   exact this (by omega)
  rw [l9,if_neg (by omega)]
  refine Aq1 h fun i hi=>?_
  have h2:=hj i
  rw [eT] at h2
  split at h2
  ·rename_i e2;subst e2;omega
  ·exact h2 hi
 ·dsimp only
  rw [l9,if_neg (by omega),Aa4 h hm]
 ·dsimp only
  rw [AB8 h.ndH,eF]
  by_cases e:g=f
  ·subst e
   rw [if_pos rfl]
   constructor
   ·intro h;cases h
   ·intro h2
    split at h2
    ·omega
    ·rename_i e3;exact absurd (hg.oneF j p (by omega) (by omega)) e3
  ·rw [if_neg (by omega),gH_n h]
   by_cases e2:j=p
   ·subst e2;rw [if_pos rfl,hv];exact ⟨fun h=>by omega,fun h=>by omega⟩
   ·rw [if_neg e2]
 ·dsimp only
  rw [AB8 h.ndH,Af3 h hg'];split<;>rfl
 ·dsimp only at hj
  rw [AB8 h.ndH] at hj
  split at hj
  ·cases hj
  ·exact BU5 h hj
theorem wok_fre (hg:D9 w) (h:WOk w t) {p:Nat} (hi:w.is p):WOk { w with F:=E8 w.F p (-1),T:=E8 w.T p (-1),Z:=E8 w.Z p 0 } ⟨mdI t.W (p:Nat),mdI t.D (w.T p),mdI t.H (w.F p)⟩:=by
 have eF:∀ j,({ w with F:=E8 w.F p (-1),T:=E8 w.T p (-1),Z:=E8 w.Z p 0 }:Sw).F j=if j=p then -1 else w.F j:=fun j=>rfl
 have eT:∀ j,({ w with F:=E8 w.F p (-1),T:=E8 w.T p (-1),Z:=E8 w.Z p 0 }:Sw).T j=if j=p then -1 else w.T j:=fun j=>rfl
 have eZ:∀ j,j ≠ p→({ w with F:=E8 w.F p (-1),T:=E8 w.T p (-1),Z:=E8 w.Z p 0 }:Sw).Z j=w.Z j:=fun j hj=>if_neg hj
 have eD:∀ j,({ w with F:=E8 w.F p (-1),T:=E8 w.T p (-1),Z:=E8 w.Z p 0 }:Sw).D j=w.D j:=fun j=>rfl
 have hpg:({ w with F:=E8 w.F p (-1),T:=E8 w.T p (-1),Z:=E8 w.Z p 0 }:Sw).pg=w.pg:=rfl
 have eis:∀ j,({ w with F:=E8 w.F p (-1),T:=E8 w.T p (-1),Z:=E8 w.Z p 0 }:Sw).is j ↔ (j ≠ p∧w.is j):=fun j=>by
  unfold Sw.is
  rw [eF,eT]
  by_cases e1:j=p
  ·rw [if_pos e1,if_pos e1];exact ⟨fun h=>by omega,fun h=>absurd e1 h.1⟩
  ·rw [if_neg e1,if_neg e1]
   exact ⟨fun h=>⟨e1,h⟩,fun h=>h.2⟩
 generalize ({ w with F:=E8 w.F p (-1),T:=E8 w.T p (-1),Z:=E8 w.Z p 0 }:Sw)=w' at *
 refine Am2 (Av4 h.ndW) (Av4 h.ndD) (Av4 h.ndH) (fun j hj=>?_) (fun j=>?_) (fun j hj=>?_) (fun m=>⟨fun j hj=>?_,fun hj=>?_⟩) (fun m hm=>?_) (fun g j=>?_) (fun g hg'=>?_) (fun g j hj=>?_)
 ·rw [eT];split
  ·rfl
  ·exact (hg.far j (by omega)).2
 ·dsimp only
  rw [AB8 h.ndW,gW_n h]
  by_cases e1:j=p
  ·subst e1;rw [if_pos rfl,if_neg fun h2=>((eis j).1 h2).1 rfl]
  ·rw [if_neg (by omega),eF,eT,if_neg e1,if_neg e1,eZ j e1]
   by_cases hi:w.is j
   ·rw [if_pos hi,if_pos ((eis j).2 ⟨e1,hi⟩)]
   ·rw [if_neg hi,if_neg fun h2=>hi ((eis j).1 h2).2]
 ·dsimp only
  rw [AB8 h.ndW,Aq0 h hj];split<;>rfl
 ·rw [eT] at hj
  dsimp only
  rw [AB8 h.ndD,eD]
  split at hj
  ·omega
  ·rename_i e1
   rw [if_neg fun e2=>e1 (hg.oneT j p (by omega) (by omega)),AU8 hg h hj]
 ·dsimp only
  rw [AB8 h.ndD]
  by_cases e:((m:Nat):Int)=w.T p
  ·rw [if_pos e]
  ·rw [if_neg e]
   refine Aq1 h fun i hti=>?_
   have h2:=hj i
   rw [eT] at h2
   split at h2
   ·rename_i e2;exact e (by rw [← e2];exact hti.symm)
   ·exact h2 hti
 ·dsimp only
  rw [AB8 h.ndD,Aa4 h hm];split<;>rfl
 ·dsimp only
  rw [AB8 h.ndH,eF]
  by_cases e:((g:Nat):Int)=w.F p
  ·rw [if_pos e]
   constructor
   ·intro h;cases h
   ·intro h2
    split at h2
    ·omega
    ·rename_i e3;exact absurd (hg.oneF j p (by omega) (by omega)) e3
  ·rw [if_neg e,gH_n h]
   by_cases e2:j=p
   ·subst e2;rw [if_pos rfl];exact ⟨fun h=>absurd h.symm e,fun h=>by omega⟩
   ·rw [if_neg e2]
 ·dsimp only
  rw [AB8 h.ndH,Af3 h hg'];split<;>rfl
 ·dsimp only at hj
  rw [AB8 h.ndH] at hj
  split at hj
  ·cases hj
  ·exact BU5 h hj
end
end Go.Pol
namespace Go.Am
section
variable {P:Program} {G:Gl}
theorem Az5 {a b:At} {rd:List Nat}:∀ {up:Up},(∀ i ∈ rd,b i=a i)→(∀ j o,(j,o) ∈ up→j ∈ rd∧a j=o)→upd b up=b
 | [],_,_=>rfl
 | (i,o)::r,h1,h2=>by
  have ih:=Az5 (up:=r) h1 fun j o h=>h2 j o (List.mem_cons_of_mem _ h)
  funext j
  show (if j=i then o else upd b r j)=b j
  split
  ·rename_i e
   obtain ⟨k1,k2⟩:=h2 i o (List.mem_cons_self ..)
   rw [e,h1 i k1,k2]
  ·rw [ih]
theorem fnU_keep {f:Nat} {args:List AV} {rd:List Nat} {at_:At} {r:AV} {up:Up} {id:Nat} (h:FnU P G f args rd at_ r up id) (hup:∀ j o,(j,o) ∈ up→j ∈ rd∧at_ j=o) (hid:id ∉ rd):FnU P G f args rd at_ r [] id:=by
 refine ⟨h.1,fun c vs hR hG hu hat ha=>(h.2 c vs hR hG hu hat ha).mono ?_⟩
 rintro e w' ⟨v,c',h1,h2,h3,h4,h5,h6,h7⟩
 refine ⟨v,c',h1,h2,h3,h4,h5,?_,fun i=>?_⟩
 ·rw [h6,Az5 hat hup];rfl
 ·rw [h7]
  have : U5 up id=[]:=by
   unfold U5
   rw [if_neg]
   simp only [List.any_eq_true,beq_iff_eq,not_exists,not_and]
   rintro ⟨j,o⟩ hq e
   exact hid (by rw [← show j=id from e];exact (hup j o hq).1)
  rw [this];rfl
theorem BE0 {g:Nat} {avs:List AV} {h:Hp} {K:AV→Up→List Nat→Prop} (hd:AL9 P G g avs h fun r up rd=>(∀ j o,(j,o) ∈ up→j ∈ rd∧lk h.l j=o)∧h.next ∉ rd∧K r [] rd):AL9 P G g avs h K:=by
 obtain ⟨r,up,rd,h1,h2,h3,h4⟩:=hd.out
 exact ⟨r,[],rd,fnU_keep h1 h2 h3,h4⟩
end
end Go.Am
namespace Go.Pol
theorem AJ6 {x:Int}:min (x+1) 1000000000=AX2 x:=by
 unfold AX2
 split<;>omega
end Go.Pol
namespace Go.Proofs.Ytbhgfoikbkaohaa.Sh
open Go Go.Am Go.Pol
theorem wx_Sxg {p q:Prop} (hq:q) (h:Z5 q→p:=by (intro hQz;((repeat' ((try (conv=>whnf));first|refine sxA ?_|refine Y7 hW rfl ?_|refine Ap0 rfl (q.s.B f) rfl ?_|refine Ap0 rfl ((-1:Int),k,z) rfl ?_|refine BS2 rfl ?_|refine sxF ?_|refine dcx_wk hgt rfl rfl rfl rfl rfl rfl rfl ?_|refine sxH ?_|((with_reducible first|apply V6 hQz|apply V7 hQz)<;>(try intro hsp hQz))|exact hQz.out))<;>(try (conv=>whnf))))):p:=h ⟨hq⟩
section
variable {q:Sw} {t:WS}
theorem dcx_wk {f:Nat} {avs:List AV} {o w d m s:Nat} {h:Hp} {r:AV} {K:AV→Up→List Nat→Prop} (hc:K3 f avs q t r q t)
  (g0:lk h.l o=some (.cells (stC s w d m q))) (g1:lk h.l w=some (.maps (encW pgE t.W))) (g2:lk h.l d=some (.maps (encW byE t.D))) (g3:lk h.l m=some (.maps (encW nuE t.H))) (g4:lk h.l s=some (.cells q.s.a))
  (hd:Ac4 [o,w,d,m,s]=true) (hnx':[o,w,d,m,s].contains h.next=false)
  (hk:K r [] [o,w,d,m,s]):AL9 Try.prog G0 f (.ptr o 0::avs) h K:=by
 refine BE0 (dcx_w hc g0 g1 g2 g3 g4 hd hnx' ⟨fun j x hx=>?_,fun hm=>by rw [List.contains_eq_mem,decide_eq_false_iff_not] at hnx';exact hnx' hm,hk⟩)
 simp only [List.mem_cons,Prod.mk.injEq,List.not_mem_nil,or_false] at hx ⊢
 rcases hx with ⟨rfl,rfl⟩ | ⟨rfl,rfl⟩ | ⟨rfl,rfl⟩ | ⟨rfl,rfl⟩ | ⟨rfl,rfl⟩
 ·exact ⟨.inl rfl,g0⟩
 ·exact ⟨.inr (.inl rfl),g1⟩
 ·exact ⟨.inr (.inr (.inl rfl)),g2⟩
 ·exact ⟨.inr (.inr (.inr (.inl rfl))),g3⟩
 ·exact ⟨.inr (.inr (.inr (.inr rfl))),g4⟩
theorem w_outM {v f:Nat} {z sl k:Int} (hW:mgI t.W (v:Nat)=some (((f:Nat):Int),sl,z)) (hf:f < 1024) (hk:q.s.K f=2) (hc:0≤q.outs∧q.outs≤1000000000):K3 49 [.int .i64 (v:Nat),.int .i64 k] q t (.tup []) { q with outs:=AX2 q.outs } ⟨mpI t.W (v:Nat) (-1,k,z),mpI t.D k (q.s.B f),mdI t.H (f:Nat)⟩:=by
 refine K3.mk (G5 F6 b49 rfl ?_) (fun x hx=>by
  simp only [List.mem_cons,List.not_mem_nil,or_false] at hx
  rcases hx with rfl|rfl<;>exact A8) U2
 have hgt:=w_get (t:=t) hf hk
 have hadd:=AJ6 (x:=q.outs)
 unfold c49
 unfold stN stC
 (refine wx_Sxg ?_;repeat' (first|with_reducible refine And.intro ?_ ?_|intro hsp))
 all_goals first|(exfalso;omega)|(simp only [hadd];exact J6 (q:={ q with outs:=AX2 q.outs }) (t:=⟨mpI t.W (v:Nat) (-1,k,z),mpI t.D k (q.s.B f),mdI t.H (f:Nat)⟩) rfl U2 rfl rfl rfl rfl rfl)
end
end Go.Proofs.Ytbhgfoikbkaohaa.Sh
namespace Go.Pol
open Go.Am Go.Proofs.Ytbhgfoikbkaohaa.Sh
def Ak9 (q:Sw) (s1:Sy) (i:Int) (p f:Nat) (now:Int) (x:Nat→Int):Sw:={ q with ins:=i,T:=E8 q.T p (-1),F:=E8 q.F p (f:Nat),Z:=E8 q.Z p now,s:=s1.page f x }
theorem brg_R {q:Sw} {s1:Sy} {p f:Nat} {now:Int} {x:Nat→Int}:({ q with s:=s1 }:Sw).brg p f now x=Ak9 q s1 (if 0≤q.T p then AX2 q.ins else q.ins) p f now x:=rfl
theorem brg_R0 {q:Sw} {p f:Nat} {now:Int} {x:Nat→Int}:q.brg p f now x=Ak9 q q.s (if 0≤q.T p then AX2 q.ins else q.ins) p f now x:=rfl
theorem put_R {q:Sw} {p v k f:Nat} {now:Int} {x:Nat→Int} (h:v ≠ p):(q.put v k).brg p f now x=Ak9 (q.put v k) q.s (if 0≤q.T p then AX2 q.ins else q.ins) p f now x:=by
 unfold Sw.brg Ak9
 have e:(q.put v k).T p=q.T p:=if_neg fun e=>h e.symm
 rw [e];rfl
theorem BC6 {s:Sy} {f:Nat} {y:Int} (hf:f < 1024) (h:s.K f=y):s.kind (f:Nat)=[.int .i64 y,.bool (s.M f),.int .i64 0]:=by
 unfold Sy.kind
 rw [if_neg (by omega),Int.toNat_natCast,h]
end Go.Pol
namespace Go.Proofs.Ytbhgfoikbkaohaa.Sh
open Go Go.Am Go.Pol
theorem wx_Sxh {p q:Prop} (hq:q) (h:Z5 q→p:=by (intro hQz;((repeat' ((try (conv=>whnf));first|refine sxA ?_|refine AI8 hW rfl ?_|refine Ap0 rfl (q.F p,q.T p,now) rfl ?_|refine sxF ?_|refine sxH ?_|((with_reducible first|apply V6 hQz|apply V7 hQz)<;>(try intro hsp hQz))|exact hQz.out))<;>(try (conv=>whnf))))):p:=h ⟨hq⟩
theorem wx_Sxhn {p q:Prop} (hq:q) (h:Z5 q→p:=by (intro hQz;((repeat' ((try (conv=>whnf));first|refine sxA ?_|refine AI8 hW rfl ?_|refine AP2 hW rfl ?_|refine mlook_d hD BK0 rfl ?_|refine ⟨AB7,?_⟩|refine AE1 (by simp only [List.length_replicate,AB7];omega) hov ?_|refine BS2 rfl ?_|refine Ap0 rfl (((f:Nat):Int),(-1:Int),now) rfl ?_|refine Ap0 rfl ((p:Nat):Int) rfl ?_|refine AE9 (by rw [AB7];omega) List.drop_zero (AD7 (by rw [AB7];omega) BX2 ?_)|refine Y7 hWv rfl ?_|refine sxN ?_|refine cx_L hL hy rfl rfl rfl rfl rfl rfl rfl rfl ?_|refine AL5 hS rfl rfl rfl rfl rfl (by decide) rfl ?_|refine Q8 hkd rfl (by decide) ?_|refine Q8 hcom rfl (by decide) ?_|refine AL5 (hset (min (q.ins+1) 1000000000)) rfl rfl rfl rfl rfl (by decide) rfl ?_|refine AL5 (hset q.ins) rfl rfl rfl rfl rfl (by decide) rfl ?_|refine AL5 hV rfl rfl rfl rfl rfl (by decide) rfl ?_|refine AL5 hO rfl rfl rfl rfl rfl (by decide) rfl ?_|refine AL5 (hset (min (q1.ins+1) 1000000000)) rfl rfl rfl rfl rfl (by decide) rfl ?_|refine AL5 (hset q1.ins) rfl rfl rfl rfl rfl (by decide) rfl ?_|refine sxH ?_|((with_reducible first|apply V6 hQz|apply V7 hQz)<;>(try intro hsp hQz))|exact hQz.out))<;>(try (conv=>whnf))))):p:=h ⟨hq⟩
section
variable {q:Sw} {t:WS}
theorem dcx_L {o w d m s b:Nat} {h:Hp} {K:AV→Up→List Nat→Prop} {y:Int} (hc:LocL q t) (hy:opA q.free=y)
  (g0:lk h.l o=some (.cells (stC s w d m q))) (g1:lk h.l w=some (.maps (encW pgE t.W))) (g2:lk h.l d=some (.maps (encW byE t.D))) (g3:lk h.l m=some (.maps (encW nuE t.H))) (g4:lk h.l s=some (.cells q.s.a)) (g5:lk h.l b=some (.cells [.ptr o 0]))
  (hd:Ac4 [o,w,d,m,s,b]=true) (hnx':[o,w,d,m,s,b].contains h.next=false)
  (hk:K (.int .i64 y) [] [o,w,d,m,s,b]):AL9 Try.prog G0 51 [.int .i64 (q.a:Nat),.int .i64 ((q.a:Int)+(q.n:Nat)),.fn 52 [] [.ptr b 0]] h K:=by
 subst hy
 have hnx:h.next ∉ [o,w,d,m,s,b]:=fun hm=>by rw [List.contains_eq_mem,decide_eq_false_iff_not] at hnx';exact hnx' hm
 have e0:enter [o,w,d,m,s,b] o 0:=rfl
 have e1:enter [o,w,d,m,s,b] w 1:=rfl
 have e2:enter [o,w,d,m,s,b] d 2:=rfl
 have e3:enter [o,w,d,m,s,b] m 3:=rfl
 have e4:enter [o,w,d,m,s,b] s 4:=rfl
 have e5:enter [o,w,d,m,s,b] b 5:=rfl
 have k0:Q6 [o,w,d,m,s,b] 0 o:=rfl
 have k1:Q6 [o,w,d,m,s,b] 1 w:=rfl
 have k2:Q6 [o,w,d,m,s,b] 2 d:=rfl
 have k3:Q6 [o,w,d,m,s,b] 3 m:=rfl
 have k4:Q6 [o,w,d,m,s,b] 4 s:=rfl
 have k5:Q6 [o,w,d,m,s,b] 5 b:=rfl
 refine BE0 (Ay1 (l1:=[(o,AObj.cells (stC s w d m q)),(w,.maps (encW pgE t.W)),(d,.maps (encW byE t.D)),(m,.maps (encW nuE t.H)),(s,.cells q.s.a),(b,AObj.cells [AV.ptr o 0])]) [o,w,d,m,s,b] hc.out G9 hd
  (.cons e0 g0 (AL0 e4 e1 e2 e3) (.maps e1 g1 (C8 G6) (.maps e2 g2 (C8 G8) (.maps e3 g3 (C8 G7) (.cons e4 g4 (D7 F5) (.cons e5 g5 ⟨S9 e0,trivial⟩ .nil))))))
  hnx ?_ ?_ ⟨F4 A8,F4 A8,rn_fn trivial ⟨S9 e5,trivial⟩,trivial⟩ (F4 A8)
  (.cons k0 (AL0 k4 k1 k2 k3) (.maps k1 (C8 G6) (.maps k2 (C8 G8) (.maps k3 (C8 G7) (.cons k4 (D7 F5) (.cons k5 (cs:=[AV.ptr 0 0]) ⟨S9 k0,trivial⟩ .nil)))))) ⟨fun j x hx=>?_,hnx,hk⟩)
 ·intro x hx
  simp only [lk]
  repeat' split
  all_goals first|exact ⟨_,rfl⟩|(exfalso;simp only [List.mem_cons,List.not_mem_nil,or_false] at hx;omega)
 ·intro j x hx
  have : j < 6:=(List.getElem?_eq_some_iff.1 hx).1
  simp only [stN,List.cons_append,List.nil_append,lk]
  repeat' split
  all_goals first|exact ⟨_,rfl⟩|(exfalso;omega)
 ·simp only [Ac5,List.map_cons,List.map_nil,List.mem_cons,Prod.mk.injEq,List.not_mem_nil,or_false] at hx ⊢
  rcases hx with ⟨rfl,rfl⟩ | ⟨rfl,rfl⟩ | ⟨rfl,rfl⟩ | ⟨rfl,rfl⟩ | ⟨rfl,rfl⟩ | ⟨rfl,rfl⟩
  ·exact ⟨.inl rfl,g0⟩
  ·exact ⟨.inr (.inl rfl),g1⟩
  ·exact ⟨.inr (.inr (.inl rfl)),g2⟩
  ·exact ⟨.inr (.inr (.inr (.inl rfl))),g3⟩
  ·exact ⟨.inr (.inr (.inr (.inr (.inl rfl)))),g4⟩
  ·exact ⟨.inr (.inr (.inr (.inr (.inr rfl)))),g5⟩
theorem cx_L {o w d m s b:Nat} {h:Hp} {K:AV→Hp→Prop} {y:Int} (hc:LocL q t) (hy:opA q.free=y)
  (g0:lk h.l o=some (.cells (stC s w d m q))) (g1:lk h.l w=some (.maps (encW pgE t.W))) (g2:lk h.l d=some (.maps (encW byE t.D))) (g3:lk h.l m=some (.maps (encW nuE t.H))) (g4:lk h.l s=some (.cells q.s.a)) (g5:lk h.l b=some (.cells [.ptr o 0]))
  (hd:Ac4 [o,w,d,m,s,b]=true) (hnx':[o,w,d,m,s,b].contains h.next=false)
  (hk:K (.int .i64 y) h):AF1 Try.prog G0 (.fn 51 [] []) [.int .i64 (q.a:Nat),.int .i64 ((q.a:Int)+(q.n:Nat)),.fn 52 [] [.ptr b 0]] h K:=by
 obtain ⟨r,up,rd,h1,rfl,rfl⟩:=(dcx_L (K:=fun r up _=>r = .int .i64 y∧up=[]) hc hy g0 g1 g2 g3 g4 g5 hd hnx' ⟨rfl,rfl⟩).out
 exact cx_fnU (rd:=rd) h1 hk
theorem look_out (hg:D9 q) (h:WOk q t) {p:Nat} (hn:¬ 0≤q.F p):(∃ z,mgI t.W (p:Nat)=some ((-1:Int),q.T p,z)∧0≤q.T p)∨(mgI t.W (p:Nat)=none∧q.T p = -1):=by
 have hF:q.F p = -1:=(Az0 hg p).resolve_right fun h=>hn h.2
 by_cases hi:q.is p
 ·left
  refine ⟨q.Z p,?_,hi.resolve_left hn⟩
  rw [AP6 h.ww hi,hF]
 ·right
  refine ⟨BU4 h.ww hi,(Ac3 hg p).resolve_right fun h2=>hi (.inr h2.2)⟩
theorem look_D (hg:D9 q) (h:WOk q t) (p:Nat):(match mgI t.D (q.T p) with|some b=>b|none=>fun _=>0)=q.got p:=by
 unfold Sw.got
 rcases Ac3 hg p with h1 | ⟨_,h1⟩
 ·rw [if_neg (by omega),Aa4 h (by omega)]
 ·rw [if_pos h1]
  obtain ⟨k,hk⟩:=Int.eq_ofNat_of_zero_le h1
  rw [hk,AU8 hg h hk,Int.toNat_natCast]
theorem w_touchA (hg:D9 q) (h:WOk q t) {p:Nat} {now:Int} (hF:0≤q.F p):K3 32 [.int .i64 (p:Nat),.int .i64 now] q t (.int .i64 0) { q with Z:=E8 q.Z p now } ⟨mpI t.W (p:Nat) (q.F p,q.T p,now),t.D,t.H⟩:=by
 refine K3.mk (G5 F6 b32 rfl ?_) (fun x hx=>by
  simp only [List.mem_cons,List.not_mem_nil,or_false] at hx
  rcases hx with rfl|rfl<;>exact A8) A8
 have hW:=AP6 h.ww (p:=p) (.inl hF)
 unfold c32
 unfold stN stC
 (refine wx_Sxh ?_;repeat' (first|with_reducible refine And.intro ?_ ?_|intro hsp))
 all_goals first|(exfalso;omega)|exact J6 (q:={ q with Z:=E8 q.Z p now }) (t:=⟨mpI t.W (p:Nat) (q.F p,q.T p,now),t.D,t.H⟩) rfl A8 rfl rfl rfl rfl rfl
theorem w_touchF {p:Nat} {now τ y:Int} {x:Nat→Int} (hrng:q.a+q.n≤1024) (hci:0≤q.ins∧q.ins≤1000000000) (hL:LocL q t) (hy:opA q.free=y) (hWT:(∃ z,mgI t.W (p:Nat)=some ((-1:Int),τ,z)∧0≤τ)∨(mgI t.W (p:Nat)=none∧τ = -1)) (hD:(match mgI t.D τ with|some b=>b|none=>fun _=>0)=x) (hn:y = -1) (hS:K3 48 [.int .i64 τ] q t (.int .i64 (-1)) q t):K3 32 [.int .i64 (p:Nat),.int .i64 now] q t (.int .i64 5) q t:=by
 refine K3.mk (G5 F6 b32 rfl ?_) (fun x hx=>by
  simp only [List.mem_cons,List.not_mem_nil,or_false] at hx
  rcases hx with rfl|rfl<;>exact A8) A8
 have hov:=AM6 (x:=x)
 have hadd:=AJ6 (x:=q.ins)
 unfold c32
 unfold stN stC
 subst hn
 clear hadd
 rcases hWT with ⟨z,hW,hT⟩ | ⟨hW,hT⟩
 ·(refine wx_Sxhn ?_;repeat' (first|with_reducible refine And.intro ?_ ?_|intro hsp))
  all_goals first|(exfalso;omega)|exact J6 rfl A8 rfl rfl rfl rfl rfl
 ·subst hT
  (refine wx_Sxhn ?_;repeat' (first|with_reducible refine And.intro ?_ ?_|intro hsp))
  all_goals first|(exfalso;omega)|exact J6 rfl A8 rfl rfl rfl rfl rfl
theorem w_touchE {p:Nat} {now τ y:Int} {x:Nat→Int} (hrng:q.a+q.n≤1024) (hci:0≤q.ins∧q.ins≤1000000000) (hL:LocL q t) (hy:opA q.free=y) (hWT:(∃ z,mgI t.W (p:Nat)=some ((-1:Int),τ,z)∧0≤τ)∨(mgI t.W (p:Nat)=none∧τ = -1)) (hD:(match mgI t.D τ with|some b=>b|none=>fun _=>0)=x) {f:Nat} {e:Int} {s1:Sy} {b1:Bool} (hn:y=(f:Nat)) (hkd:AD2 43 [.int .i64 (f:Nat)] q.s.a (.tup [.int .i64 1,.bool b1,.int .i64 0]) q.s.a) (hcom:AD2 53 [.int .i64 (f:Nat),.int .i64 1] q.s.a (.int .i64 e) s1.a) (he:e ≠ 0):K3 32 [.int .i64 (p:Nat),.int .i64 now] q t (.int .i64 e) { q with s:=s1 } t:=by
 refine K3.mk (G5 F6 b32 rfl ?_) (fun x hx=>by
  simp only [List.mem_cons,List.not_mem_nil,or_false] at hx
  rcases hx with rfl|rfl<;>exact A8) A8
 have hov:=AM6 (x:=x)
 have hadd:=AJ6 (x:=q.ins)
 unfold c32
 unfold stN stC
 subst hn
 clear hadd
 rcases hWT with ⟨z,hW,hT⟩ | ⟨hW,hT⟩
 ·(refine wx_Sxhn ?_;repeat' (first|with_reducible refine And.intro ?_ ?_|intro hsp))
  all_goals first|(exfalso;omega)|exact J6 (q:={ q with s:=s1 }) rfl A8 rfl rfl rfl rfl rfl
 ·subst hT
  (refine wx_Sxhn ?_;repeat' (first|with_reducible refine And.intro ?_ ?_|intro hsp))
  all_goals first|(exfalso;omega)|exact J6 (q:={ q with s:=s1 }) rfl A8 rfl rfl rfl rfl rfl
theorem w_touchC {p:Nat} {now τ y:Int} {x:Nat→Int} (hrng:q.a+q.n≤1024) (hci:0≤q.ins∧q.ins≤1000000000) (hL:LocL q t) (hy:opA q.free=y) (hWT:(∃ z,mgI t.W (p:Nat)=some ((-1:Int),τ,z)∧0≤τ)∨(mgI t.W (p:Nat)=none∧τ = -1)) (hD:(match mgI t.D τ with|some b=>b|none=>fun _=>0)=x) {f:Nat} {s1:Sy} {b1:Bool} (hn:y=(f:Nat)) (hkd:AD2 43 [.int .i64 (f:Nat)] q.s.a (.tup [.int .i64 1,.bool b1,.int .i64 0]) q.s.a) (hcom:AD2 53 [.int .i64 (f:Nat),.int .i64 1] q.s.a (.int .i64 0) s1.a) (hset:∀ i,K3 54 [.int .i64 (f:Nat),.agg (bcA x)] { q with s:=s1,ins:=i } ⟨mpI t.W (p:Nat) ((f:Nat),-1,now),mdI t.D τ,mpI t.H (f:Nat) (p:Nat)⟩ (.tup []) { q with s:=s1.page f x,ins:=i } ⟨mpI t.W (p:Nat) ((f:Nat),-1,now),mdI t.D τ,mpI t.H (f:Nat) (p:Nat)⟩):K3 32 [.int .i64 (p:Nat),.int .i64 now] q t (.int .i64 0) (Ak9 q s1 (if 0≤τ then AX2 q.ins else q.ins) p f now x) ⟨mpI t.W (p:Nat) ((f:Nat),-1,now),mdI t.D τ,mpI t.H (f:Nat) (p:Nat)⟩:=by
 refine K3.mk (G5 F6 b32 rfl ?_) (fun x hx=>by
  simp only [List.mem_cons,List.not_mem_nil,or_false] at hx
  rcases hx with rfl|rfl<;>exact A8) A8
 have hov:=AM6 (x:=x)
 have hadd:=AJ6 (x:=q.ins)
 unfold c32
 unfold stN stC
 subst hn
 rcases hWT with ⟨z,hW,hT⟩ | ⟨hW,hT⟩
 ·rw [if_pos hT]
  (refine wx_Sxhn ?_;repeat' (first|with_reducible refine And.intro ?_ ?_|intro hsp))
  all_goals first|(exfalso;omega)|(simp only [hadd];exact J6 (q:=Ak9 q s1 (AX2 q.ins) p f now x) (t:=⟨mpI t.W (p:Nat) ((f:Nat),-1,now),mdI t.D τ,mpI t.H (f:Nat) (p:Nat)⟩) rfl A8 rfl rfl rfl rfl rfl)|exact J6 (q:=Ak9 q s1 (AX2 q.ins) p f now x) (t:=⟨mpI t.W (p:Nat) ((f:Nat),-1,now),mdI t.D τ,mpI t.H (f:Nat) (p:Nat)⟩) rfl A8 rfl rfl rfl rfl rfl
 ·subst hT
  rw [if_neg (by omega)]
  (refine wx_Sxhn ?_;repeat' (first|with_reducible refine And.intro ?_ ?_|intro hsp))
  all_goals first|(exfalso;omega)|(simp only [hadd];exact J6 (q:=Ak9 q s1 q.ins p f now x) (t:=⟨mpI t.W (p:Nat) ((f:Nat),-1,now),mdI t.D (-1),mpI t.H (f:Nat) (p:Nat)⟩) rfl A8 rfl rfl rfl rfl rfl)|exact J6 (q:=Ak9 q s1 q.ins p f now x) (t:=⟨mpI t.W (p:Nat) ((f:Nat),-1,now),mdI t.D (-1),mpI t.H (f:Nat) (p:Nat)⟩) rfl A8 rfl rfl rfl rfl rfl
theorem w_touchG {p:Nat} {now τ y:Int} {x:Nat→Int} (hrng:q.a+q.n≤1024) (hci:0≤q.ins∧q.ins≤1000000000) (hL:LocL q t) (hy:opA q.free=y) (hWT:(∃ z,mgI t.W (p:Nat)=some ((-1:Int),τ,z)∧0≤τ)∨(mgI t.W (p:Nat)=none∧τ = -1)) (hD:(match mgI t.D τ with|some b=>b|none=>fun _=>0)=x) {f:Nat} {b1:Bool} (hn:y=(f:Nat)) (hkd:AD2 43 [.int .i64 (f:Nat)] q.s.a (.tup [.int .i64 2,.bool b1,.int .i64 0]) q.s.a) (hset:∀ i,K3 54 [.int .i64 (f:Nat),.agg (bcA x)] { q with ins:=i } ⟨mpI t.W (p:Nat) ((f:Nat),-1,now),mdI t.D τ,mpI t.H (f:Nat) (p:Nat)⟩ (.tup []) { q with s:=q.s.page f x,ins:=i } ⟨mpI t.W (p:Nat) ((f:Nat),-1,now),mdI t.D τ,mpI t.H (f:Nat) (p:Nat)⟩):K3 32 [.int .i64 (p:Nat),.int .i64 now] q t (.int .i64 0) (Ak9 q q.s (if 0≤τ then AX2 q.ins else q.ins) p f now x) ⟨mpI t.W (p:Nat) ((f:Nat),-1,now),mdI t.D τ,mpI t.H (f:Nat) (p:Nat)⟩:=by
 refine K3.mk (G5 F6 b32 rfl ?_) (fun x hx=>by
  simp only [List.mem_cons,List.not_mem_nil,or_false] at hx
  rcases hx with rfl|rfl<;>exact A8) A8
 have hov:=AM6 (x:=x)
 have hadd:=AJ6 (x:=q.ins)
 unfold c32
 unfold stN stC
 subst hn
 rcases hWT with ⟨z,hW,hT⟩ | ⟨hW,hT⟩
 ·rw [if_pos hT]
  (refine wx_Sxhn ?_;repeat' (first|with_reducible refine And.intro ?_ ?_|intro hsp))
  all_goals first|(exfalso;omega)|(simp only [hadd];exact J6 (q:=Ak9 q q.s (AX2 q.ins) p f now x) (t:=⟨mpI t.W (p:Nat) ((f:Nat),-1,now),mdI t.D τ,mpI t.H (f:Nat) (p:Nat)⟩) rfl A8 rfl rfl rfl rfl rfl)|exact J6 (q:=Ak9 q q.s (AX2 q.ins) p f now x) (t:=⟨mpI t.W (p:Nat) ((f:Nat),-1,now),mdI t.D τ,mpI t.H (f:Nat) (p:Nat)⟩) rfl A8 rfl rfl rfl rfl rfl
 ·subst hT
  rw [if_neg (by omega)]
  (refine wx_Sxhn ?_;repeat' (first|with_reducible refine And.intro ?_ ?_|intro hsp))
  all_goals first|(exfalso;omega)|(simp only [hadd];exact J6 (q:=Ak9 q q.s q.ins p f now x) (t:=⟨mpI t.W (p:Nat) ((f:Nat),-1,now),mdI t.D (-1),mpI t.H (f:Nat) (p:Nat)⟩) rfl A8 rfl rfl rfl rfl rfl)|exact J6 (q:=Ak9 q q.s q.ins p f now x) (t:=⟨mpI t.W (p:Nat) ((f:Nat),-1,now),mdI t.D (-1),mpI t.H (f:Nat) (p:Nat)⟩) rfl A8 rfl rfl rfl rfl rfl
theorem w_touchS {p:Nat} {now τ y:Int} {x:Nat→Int} (hrng:q.a+q.n≤1024) (hci:0≤q.ins∧q.ins≤1000000000) (hL:LocL q t) (hy:opA q.free=y) (hWT:(∃ z,mgI t.W (p:Nat)=some ((-1:Int),τ,z)∧0≤τ)∨(mgI t.W (p:Nat)=none∧τ = -1)) (hD:(match mgI t.D τ with|some b=>b|none=>fun _=>0)=x) {f v k:Nat} {tv zv:Int} {q1:Sw} (hci:0≤q1.ins∧q1.ins≤1000000000) (hn:y = -1) (hS:K3 48 [.int .i64 τ] q t (.int .i64 (k:Nat)) q t) (hV:K3 36 [] q ⟨t.W,mdI t.D τ,t.H⟩ (.int .i64 (v:Nat)) q ⟨t.W,mdI t.D τ,t.H⟩) (hO:K3 49 [.int .i64 (v:Nat),.int .i64 (k:Nat)] q ⟨t.W,mdI t.D τ,t.H⟩ (.tup []) q1 ⟨mpI t.W (v:Nat) (-1,(k:Nat),zv),mpI (mdI t.D τ) (k:Nat) (q.s.B f),mdI t.H (f:Nat)⟩) (hWv:mgI t.W (v:Nat)=some (((f:Nat):Int),tv,zv))
  (hset:∀ i,K3 54 [.int .i64 (f:Nat),.agg (bcA x)] { q1 with ins:=i } ⟨mpI (mpI t.W (v:Nat) (-1,(k:Nat),zv)) (p:Nat) ((f:Nat),-1,now),mpI (mdI t.D τ) (k:Nat) (q.s.B f),mpI (mdI t.H (f:Nat)) (f:Nat) (p:Nat)⟩ (.tup []) { q1 with s:=q1.s.page f x,ins:=i } ⟨mpI (mpI t.W (v:Nat) (-1,(k:Nat),zv)) (p:Nat) ((f:Nat),-1,now),mpI (mdI t.D τ) (k:Nat) (q.s.B f),mpI (mdI t.H (f:Nat)) (f:Nat) (p:Nat)⟩):K3 32 [.int .i64 (p:Nat),.int .i64 now] q t (.int .i64 0) (Ak9 q1 q1.s (if 0≤τ then AX2 q1.ins else q1.ins) p f now x) ⟨mpI (mpI t.W (v:Nat) (-1,(k:Nat),zv)) (p:Nat) ((f:Nat),-1,now),mpI (mdI t.D τ) (k:Nat) (q.s.B f),mpI (mdI t.H (f:Nat)) (f:Nat) (p:Nat)⟩:=by
 refine K3.mk (G5 F6 b32 rfl ?_) (fun x hx=>by
  simp only [List.mem_cons,List.not_mem_nil,or_false] at hx
  rcases hx with rfl|rfl<;>exact A8) A8
 have hov:=AM6 (x:=x)
 have hadd:=AJ6 (x:=q1.ins)
 unfold c32
 unfold stN stC
 subst hn
 rcases hWT with ⟨z,hW,hT⟩ | ⟨hW,hT⟩
 ·rw [if_pos hT]
  (refine wx_Sxhn ?_;repeat' (first|with_reducible refine And.intro ?_ ?_|intro hsp))
  all_goals first|(exfalso;omega)|(simp only [hadd];exact J6 (q:=Ak9 q1 q1.s (AX2 q1.ins) p f now x) (t:=⟨mpI (mpI t.W (v:Nat) (-1,(k:Nat),zv)) (p:Nat) ((f:Nat),-1,now),mpI (mdI t.D τ) (k:Nat) (q.s.B f),mpI (mdI t.H (f:Nat)) (f:Nat) (p:Nat)⟩) rfl A8 rfl rfl rfl rfl rfl)|exact J6 (q:=Ak9 q1 q1.s (AX2 q1.ins) p f now x) (t:=⟨mpI (mpI t.W (v:Nat) (-1,(k:Nat),zv)) (p:Nat) ((f:Nat),-1,now),mpI (mdI t.D τ) (k:Nat) (q.s.B f),mpI (mdI t.H (f:Nat)) (f:Nat) (p:Nat)⟩) rfl A8 rfl rfl rfl rfl rfl
 ·subst hT
  rw [if_neg (by omega)]
  (refine wx_Sxhn ?_;repeat' (first|with_reducible refine And.intro ?_ ?_|intro hsp))
  all_goals first|(exfalso;omega)|(simp only [hadd];exact J6 (q:=Ak9 q1 q1.s q1.ins p f now x) (t:=⟨mpI (mpI t.W (v:Nat) (-1,(k:Nat),zv)) (p:Nat) ((f:Nat),-1,now),mpI (mdI t.D (-1)) (k:Nat) (q.s.B f),mpI (mdI t.H (f:Nat)) (f:Nat) (p:Nat)⟩) rfl A8 rfl rfl rfl rfl rfl)|exact J6 (q:=Ak9 q1 q1.s q1.ins p f now x) (t:=⟨mpI (mpI t.W (v:Nat) (-1,(k:Nat),zv)) (p:Nat) ((f:Nat),-1,now),mpI (mdI t.D (-1)) (k:Nat) (q.s.B f),mpI (mdI t.H (f:Nat)) (f:Nat) (p:Nat)⟩) rfl A8 rfl rfl rfl rfl rfl
end
end Go.Proofs.Ytbhgfoikbkaohaa.Sh
