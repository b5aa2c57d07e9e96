/-
 The sort's contract.
 The sorted pages;the page that was touched first.
 The maps of a store behind each change.
 A page is put into a slot.
 A page is touched.
-/
import Derived.Test.YtbhgfoikbkaohaaGreatQao
import Derived.Sort.EveryDepth
import Derived.Shelf.Sort.AssemblyIn
set_option linter.unusedSimpArgs false
set_option linter.unusedVariables false
set_option maxHeartbeats 6400000
namespace Go.Proofs.YtbhgfoikbkaohaaGreat.Sh
open Go Go.Am Go.Pol
def sort_ren:Go.Shelf.Ren:=⟨fun|189=>81|125=>106|257=>105|128=>122|129=>123|294=>113|295=>114|296=>115|297=>116|298=>117|299=>118|216=>119|300=>120|301=>121|328=>128|329=>129|330=>130|331=>131|332=>132|215=>133|343=>137|n=>n,fun|28=>48|3=>3|46=>184|0=>0|51=>199|53=>201|4=>4|183=>192|182=>191|131=>124|5=>5|9=>9|218=>203|222=>157|228=>209|229=>210|n=>n,fun|n=>n⟩
theorem sort_lays:Go.Proofs.Lays.n189 Tryz.prog sort_ren:={ mixed:=by kernel_rfl,f125:=Tryz.func106.trans (congrArg some (by kernel_rfl)),f128:=Tryz.func122.trans (congrArg some (by kernel_rfl)),f129:=Tryz.func123.trans (congrArg some (by kernel_rfl)),f189:=Tryz.func81.trans (congrArg some (by kernel_rfl)),f215:=Tryz.func133.trans (congrArg some (by kernel_rfl)),f216:=Tryz.func119.trans (congrArg some (by kernel_rfl)),f257:=Tryz.func105.trans (congrArg some (by kernel_rfl)),f294:=Tryz.func113.trans (congrArg some (by kernel_rfl)),f295:=Tryz.func114.trans (congrArg some (by kernel_rfl)),f296:=Tryz.func115.trans (congrArg some (by kernel_rfl)),f297:=Tryz.func116.trans (congrArg some (by kernel_rfl)),f298:=Tryz.func117.trans (congrArg some (by kernel_rfl)),f299:=Tryz.func118.trans (congrArg some (by kernel_rfl)),f300:=Tryz.func120.trans (congrArg some (by kernel_rfl)),f301:=Tryz.func121.trans (congrArg some (by kernel_rfl)),f328:=Tryz.func128.trans (congrArg some (by kernel_rfl)),f329:=Tryz.func129.trans (congrArg some (by kernel_rfl)),f330:=Tryz.func130.trans (congrArg some (by kernel_rfl)),f331:=Tryz.func131.trans (congrArg some (by kernel_rfl)),f332:=Tryz.func132.trans (congrArg some (by kernel_rfl)),f343:=Tryz.func137.trans (congrArg some (by kernel_rfl)),t0:=Tryz.underlying0,a0:=Tryz.isAgg0,z0:=Tryz.sizeOf0,v0:=Tryz.zeroValue0,t3:=Tryz.underlying3,a3:=Tryz.isAgg3,z3:=Tryz.sizeOf3,v3:=Tryz.zeroValue3,t4:=Tryz.underlying4,a4:=Tryz.isAgg4,z4:=Tryz.sizeOf4,v4:=Tryz.zeroValue4,t5:=Tryz.underlying5,a5:=Tryz.isAgg5,z5:=Tryz.sizeOf5,v5:=Tryz.zeroValue5,t9:=Tryz.underlying9,a9:=Tryz.isAgg9,z9:=Tryz.sizeOf9,v9:=Tryz.zeroValue9,t28:=Tryz.underlying48,a28:=Tryz.isAgg48,z28:=Tryz.sizeOf48,v28:=Tryz.zeroValue48,t46:=Tryz.underlying184,a46:=Tryz.isAgg184,z46:=Tryz.sizeOf184,v46:=Tryz.zeroValue184,t51:=Tryz.underlying199,a51:=Tryz.isAgg199,z51:=Tryz.sizeOf199,v51:=Tryz.zeroValue199,t53:=Tryz.underlying201,a53:=Tryz.isAgg201,z53:=Tryz.sizeOf201,v53:=Tryz.zeroValue201,t131:=Tryz.underlying124,a131:=Tryz.isAgg124,z131:=Tryz.sizeOf124,v131:=Tryz.zeroValue124,t182:=Tryz.underlying191,a182:=Tryz.isAgg191,z182:=Tryz.sizeOf191,v182:=Tryz.zeroValue191,t183:=Tryz.underlying192,a183:=Tryz.isAgg192,z183:=Tryz.sizeOf192,v183:=Tryz.zeroValue192,t218:=Tryz.underlying203,a218:=Tryz.isAgg203,z218:=Tryz.sizeOf203,v218:=Tryz.zeroValue203,t222:=Tryz.underlying157,a222:=Tryz.isAgg157,z222:=Tryz.sizeOf157,v222:=Tryz.zeroValue157,t228:=Tryz.underlying209,a228:=Tryz.isAgg209,z228:=Tryz.sizeOf209,v228:=Tryz.zeroValue209,t229:=Tryz.underlying210,a229:=Tryz.isAgg210,z229:=Tryz.sizeOf210,v229:=Tryz.zeroValue210 }
theorem so_ok {n:Nat} {zs S:List Int} (hn:zs.length=n) (hp:zs.Perm S) (hs:S.Pairwise (· < ·)) (hz:n≤1000):LocSo Tryz.prog G0 81 n zs S :=
 ⟨loc_sort (by kernel_rfl) hn (sort_is hp hs) (by omega) fun blk off cap w hH hb=>calls_of_every_depth fun D=>AnyS.slices_Sort_int_in sort_lays D blk off cap zs w hH hb (by omega)⟩
end Go.Proofs.YtbhgfoikbkaohaaGreat.Sh
namespace Go.Pol
open Go.Am Go.Proofs.YtbhgfoikbkaohaaGreat.Sh
def Sw.pages (w:Sw):List Nat:=(List.range w.pg).filter fun p=>decide (w.is p)
def vst (w:Sw) (o:Option Nat) (p:Nat):Option Nat:=if 0≤w.F p then (match o with
  | none=>some p
  | some b=>if w.Z p < w.Z b then some p else some b) else o
theorem Az6 (w:Sw):∀ m,w.vicN m=(List.range m).foldl (vst w) none
 | 0=>rfl
 | m+1=>by
  rw [List.range_succ,List.foldl_append,← Az6 w m]
  rfl
theorem Av4 {w:Sw}:∀ (l:List Nat) (o:Option Nat),(l.filter fun p=>decide (w.is p)).foldl (vst w) o=l.foldl (vst w) o
 | [],o=>rfl
 | p::l,o=>by
  by_cases h:w.is p
  ·rw [List.filter_cons_of_pos (by simpa using h),List.foldl_cons,List.foldl_cons,Av4 l]
  ·rw [List.filter_cons_of_neg (by simpa using h),List.foldl_cons,Av4 l]
   have : vst w o p=o:=if_neg fun h2=>h (.inl h2)
   rw [this]
theorem vic_fold (w:Sw):w.vic=w.pages.foldl (vst w) none:=by unfold Sw.vic Sw.pages;rw [Az6,Av4]
def Ay5 (w:Sw) (j:Nat):Option Nat:=(w.pages.take j).foldl (vst w) none
theorem vicT_0 {w:Sw}:opA (Ay5 w 0) = -1:=rfl
theorem vicT_s {w:Sw} {j:Nat} (h:j < w.pages.length):Ay5 w (j+1)=vst w (Ay5 w j) (nth 0 w.pages j):=by
 unfold Ay5;rw [Ag2 (d:=0) h,List.foldl_append];rfl
theorem vicT_all {w:Sw}:Ay5 w w.pages.length=w.vic:=by rw [vic_fold];unfold Ay5;rw [List.take_length]
theorem vst_in {w:Sw} (hz:∀ p,¬ w.is p→¬ 0≤w.F p) {b:Nat}:∀ (l:List Nat) (o:Option Nat),l.foldl (vst w) o=some b→(o=some b)∨(b ∈ l∧0≤w.F b)
 | [],o,h=>.inl h
 | p::l,o,h=>by
  rcases vst_in hz l _ h with h2 | ⟨h2,h3⟩
  ·unfold vst at h2
   split at h2
   ·rename_i hF
    split at h2
    ·cases h2;exact .inr ⟨List.mem_cons_self ..,hF⟩
    ·split at h2
     ·cases h2;exact .inr ⟨List.mem_cons_self ..,hF⟩
     ·cases h2;exact .inl rfl
   ·exact .inl h2
  ·exact .inr ⟨List.mem_cons_of_mem _ h2,h3⟩
theorem AM3 {w:Sw} (hg:F3 w) {p:Nat}:p ∈ w.pages ↔ w.is p:=by
 unfold Sw.pages
 rw [List.mem_filter,decide_eq_true_eq,List.mem_range]
 exact ⟨fun h=>h.2,fun h=>⟨h.elim (AK7 hg) (AT2 hg),h⟩⟩
theorem BQ5 {w:Sw}:w.pages.Nodup:=List.nodup_range.filter _
theorem Au1 {w:Sw}:w.pages.Pairwise (· < ·):=List.pairwise_lt_range.filter _
structure WW (w:Sw) (L:List (Int × Int × Int × Int)):Prop where
 nd:ndI L
 gW:∀ p:Int,mgI L p=if 0≤p∧w.is p.toNat then some (w.F p.toNat,w.T p.toNat,w.Z p.toNat) else none
theorem WOk.ww {w:Sw} {t:WS} (h:WOk w t):WW w t.W:=⟨h.ndW,h.gW⟩
theorem AM2 {w:Sw} {t:WS} (hg:F3 w) (h:WW w t.W):(t.W.map (·.1)).Perm (w.pages.map fun p=>((p:Nat):Int)):=by
 refine (List.perm_ext_iff_of_nodup h.nd ?_).2 fun k=>?_
 ·exact List.Pairwise.map (R:=fun a b=>a ≠ b) _ (fun a b hab e=>hab (by omega)) BQ5
 ·rw [Ac5,List.mem_map]
  constructor
  ·rintro ⟨v,hv⟩
   rw [h.gW] at hv
   split at hv
   ·rename_i hk
    exact ⟨k.toNat,(AM3 hg).2 hk.2,by omega⟩
   ·cases hv
  ·rintro ⟨p,hp,rfl⟩
   exact ⟨_,by rw [h.gW,if_pos ⟨by omega,by rw [Int.toNat_natCast];exact (AM3 hg).1 hp⟩]⟩
theorem BC0 {w:Sw}:(w.pages.map fun p=>((p:Nat):Int)).Pairwise (· < ·):=List.Pairwise.map (R:=fun a b=>a < b) _ (fun a b hab=>by omega) Au1
theorem Aa2 {w:Sw} {t:WS} (h:WW w t.W) {p:Nat} (hp:w.is p):mgI t.W (p:Nat)=some (w.F p,w.T p,w.Z p):=by
 rw [h.gW,if_pos ⟨by omega,by rw [Int.toNat_natCast];exact hp⟩,Int.toNat_natCast]
theorem gW_no {w:Sw} {t:WS} (h:WW w t.W) {p:Nat} (hp:¬ w.is p):mgI t.W (p:Nat)=none:=by
 rw [h.gW,if_neg fun h2=>hp (by rw [Int.toNat_natCast] at h2;exact h2.2)]
end Go.Pol
namespace Go.Proofs.YtbhgfoikbkaohaaGreat.Sh
open Go Go.Am Go.Pol
open Go.Proofs.YtbhgfoikbkaohaaGreat.Sh renaming plx_Sxc → plx
open Go.Proofs.YtbhgfoikbkaohaaGreat.Sh renaming ppx_Sxc → ppx
theorem wx_Sxe {p q:Prop} (hq:q) (h:Y2 q→p:=by (intro hQz;((repeat' ((try (conv=>whnf));first|(with_reducible first|refine O4 ?_|refine K6 ?_|refine P6 ?_|refine P8 ?_|refine L6 ?_|refine U9 ?_|refine N9 ?_|refine U8 rfl ?_|refine O1 ?_|refine J3 ?_|refine K8 ?_|refine K9 ?_|refine P7 ?_|refine J2 ?_|refine K7 (by decide +kernel) ?_|refine K3 (by decide +kernel) ?_|refine AG0 ?_|refine AG1 ?_|refine An9 ?_|refine r9 ?_|refine AJ5 ?_|refine Af8 (by assumption) ?_|refine Af9 (by assumption) ?_|refine o9 (by omega) ?_|refine AJ3 ?_)|((with_reducible refine AJ6 ?_ ?_);focus omega)|((with_reducible refine AJ7 ?_ ?_);focus omega)|((with_reducible apply U3 hQz)<;>(try intro hsp hQz))|((with_reducible refine An3 ?_ ?_);focus (first|omega|rfl|assumption|decide|(simp only [List.length_map,List.length_cons,List.length_nil];omega)|exact hmk))|refine AF3 (hmk) ?_|(with_reducible first|refine AI9 ?_|refine o8 ?_|refine l9 ?_|refine AJ1 ?_|refine AJ0 ?_|refine AI7 ?_|refine Am8 ?_|refine I8 ?_|refine l7 ?_|refine P5 ?_|refine O9 ?_|refine I9 ?_|refine AI8 (by omega) ?_|refine l8 (by omega) ?_)|refine BR7 rfl ?_|refine BV0 rfl rfl (by omega) ?_|refine D6 hS ?_|refine AF1 hgp rfl ?_|refine AF1 hgb rfl ?_|refine sxF ?_|refine cx_so H8 hs rfl (by decide) ?_|refine An1 F9 rfl hF hA hB rfl ?_|(refine AF9 F9 b47 rfl ?_;unfold c47)|refine sxH ?_|((with_reducible apply U4 hQz)<;>(try intro hsp hQz))|exact hQz.out))<;>(try (conv=>whnf))))):p:=h ⟨hq⟩
section
variable {q:Sw} {t:WS}
theorem BR3 (hg:F3 q) {j:Nat} (hj:j < q.pages.length):q.is (nth 0 q.pages j):=(AM3 hg).1 (AN5 hj)
theorem pgI_at {j:Nat} (hj:j < q.pages.length):((q.pages.map fun p=>((p:Nat):Int)).map (AV.int .i64))[j]? = some (.int .i64 ((nth 0 q.pages j:Nat):Int)):=by
 rw [P9 hj,List.getElem?_map,List.getElem?_map,List.getElem?_eq_getElem hj];rfl
theorem BO0 (hg:F3 q) (h:WW q t.W):T9 87 [] q t (.int .i64 (opA q.vic)) q t:=by
 have hwl:t.W.length≤256:=by
  have:=(AM2 hg h).length_eq
  rw [List.length_map,List.length_map] at this
  have h2:q.pages.length≤q.pg:=Nat.le_trans (List.length_filter_le ..) (by rw [List.length_range];exact Nat.le_refl _)
  have:=hg.rng;omega
 have hpl:t.W.length=q.pages.length:=by
  have:=(AM2 hg h).length_eq
  rwa [List.length_map,List.length_map] at this
 have hmk:=kyC_0 (n:=t.W.length)
 refine T9.mk (G6 F9 b87 rfl ?_) (fun x hx=>by cases hx) A8
 unfold c87
 unfold stN stC
 (refine wx_Sxe ?_;repeat' (first|with_reducible refine And.intro ?_ ?_|intro hsp))
 refine BJ1 F9 bS_page rfl trivial ?_
 intro frl asl bdl hF hA hB
 unfold cKs0
 (refine wx_Sxe ?_;repeat' (first|with_reducible refine And.intro ?_ ?_|intro hsp))
 refine KeysX.mk fun ck hck=>keys_w F9 hck (i:=1) (it:=10) (pb:=7) (po:=0) (cs:=[]) (ks:=t.W.map (·.1)) [] (fun vis=>[(0,.yld 8),(1,.ptr 7 0),(3,.sl 9 0 vis.length t.W.length 1)]) (fun vis=>[(0,.cells (stC 4 1 2 3 q)),(2,.maps (encW byE t.D)),(3,.maps (encW nuE t.H)),(4,.cells q.s.a),(5,.cells [.ptr 0 0]),(6,.cells [.int .i64 (-1)]),(7,.cells [.mapr 1]),(8,.loop .ready none frl [11,12] asl bdl),(9,.cells (kyC vis t.W.length))]) Aw8 h.nd rfl rfl rfl (.inr ⟨_,rfl⟩) rfl (by decide) (by decide) rfl (fun _=>rfl) rfl (fun _=>rfl) ?_ ?_ ?_
 ·exact AD4
 ·intro vis k hnd hsub
  have hl1:vis.length < t.W.length:=by
   have:=Au9 hnd hsub
   rw [List.length_append,List.length_map] at this
   exact this
  unfold cKs4
  (refine wx_Sxe ?_;repeat' (first|with_reducible refine And.intro ?_ ?_|intro hsp))
  refine ⟨[],rfl,?_⟩
  rw [show (vis++[k]).length=vis.length+1 by simp]
  exact AD4
 ·intro vis hperm
  have hlen:vis.length=t.W.length:=by rw [hperm.length_eq,List.length_map]
  have hs:=so_ok hlen (hperm.trans (AM2 hg h)) BC0 (by omega)
  rw [BK6 hlen,hlen]
  unfold cKs1
  unfold cKsR
  (refine wx_Sxe ?_;repeat' (first|with_reducible refine And.intro ?_ ?_|intro hsp))
  rw [hpl]
  have hv0:=vicT_0 (w:=q)
  (refine H7 [0,1,22,23] (fun (j:Nat)=>[(24,.int .i64 (j:Nat))]) (fun (j:Nat)=>⟨stN q t 0 1 2 3 4++[(5,.cells [.ptr 0 0]),(6,.cells [.int .i64 (opA (Ay5 q j))]),(7,.cells [.mapr 1]),(8,.loop .ready none frl [11,12] asl bdl),(9,.cells ((q.pages.map fun p=>((p:Nat):Int)).map (AV.int .i64)))],11⟩) (fun (j:Nat)=>j≤q.pages.length) (fun (j:Nat)=>q.pages.length - j) (0) [] rfl (fun _=>by first|exact Nat.zero_le _|(dsimp only;omega)) ?_ (by ((try (conv=>whnf));(rw [hv0]);exact AD4)) ?_)
  ·exact Nat.zero_le _
  intro j hj
  by_cases hjl:j < q.pages.length
  ·have hip:=BR3 hg hjl
   have hS:=pgI_at hjl
   have hvs:=vicT_s hjl
   generalize nth 0 q.pages j=p at *
   have hgp:=Aa2 h hip
   by_cases hF0:0≤q.F p
   ·rcases (show Ay5 q j=none∨∃ b,Ay5 q j=some b by cases Ay5 q j<;>simp) with hv | ⟨b,hv⟩
    ·have hy:opA (Ay5 q j) = -1:=by rw [hv];rfl
     have hnx:opA (Ay5 q (j+1))=(p:Nat):=by rw [hvs,hv];unfold vst;rw [if_pos hF0];rfl
     rw [hy]
     unfold stN stC
     (refine wx_Sxe ?_;repeat' (first|with_reducible refine And.intro ?_ ?_|intro hsp))
     all_goals first|(exfalso;omega)|exact D7 (j+1) [] (by (try dsimp only);omega) (by first|omega|(dsimp only;omega)) rfl (by ((try dsimp only);rw [hnx]);exact AD4)
    ·have hy:opA (Ay5 q j)=(b:Nat):=by rw [hv];rfl
     have hb:0≤q.F b:=by
      rcases vst_in (w:=q) (fun p hp h2=>hp (.inl h2)) _ _ hv with h2 | ⟨_,h2⟩
      ·cases h2
      ·exact h2
     have hgb:=Aa2 h (p:=b) (.inl hb)
     by_cases hz:q.Z p < q.Z b
     ·have hnx:opA (Ay5 q (j+1))=(p:Nat):=by rw [hvs,hv];unfold vst;rw [if_pos hF0];dsimp only;rw [if_pos hz];rfl
      rw [hy]
      unfold stN stC
      (refine wx_Sxe ?_;repeat' (first|with_reducible refine And.intro ?_ ?_|intro hsp))
      all_goals first|(exfalso;omega)|exact D7 (j+1) [] (by (try dsimp only);omega) (by first|omega|(dsimp only;omega)) rfl (by ((try dsimp only);rw [hnx]);exact AD4)
     ·have hnx:opA (Ay5 q (j+1))=(b:Nat):=by rw [hvs,hv];unfold vst;rw [if_pos hF0];dsimp only;rw [if_neg hz];rfl
      rw [hy]
      unfold stN stC
      (refine wx_Sxe ?_;repeat' (first|with_reducible refine And.intro ?_ ?_|intro hsp))
      all_goals first|(exfalso;omega)|exact D7 (j+1) [] (by (try dsimp only);omega) (by first|omega|(dsimp only;omega)) rfl (by ((try dsimp only);rw [hnx]);exact AD4)
   ·have hnx:opA (Ay5 q (j+1))=opA (Ay5 q j):=by rw [hvs];unfold vst;rw [if_neg hF0]
    generalize opA (Ay5 q j)=y at *
    unfold stN stC
    (refine wx_Sxe ?_;repeat' (first|with_reducible refine And.intro ?_ ?_|intro hsp))
    all_goals first|(exfalso;omega)|exact D7 (j+1) [] (by (try dsimp only);omega) (by first|omega|(dsimp only;omega)) rfl (by ((try dsimp only);rw [hnx]);exact AD4)
  ·obtain rfl:j=q.pages.length:=by omega
   rw [vicT_all]
   unfold stN stC
   (refine wx_Sxe ?_;repeat' (first|with_reducible refine And.intro ?_ ?_|intro hsp))
   all_goals first|(exfalso;omega)|exact V9 rfl A8 rfl rfl rfl rfl rfl
end
end Go.Proofs.YtbhgfoikbkaohaaGreat.Sh
namespace Go.Pol
open Go.Am Go.Proofs.YtbhgfoikbkaohaaGreat.Sh
section
variable {w:Sw} {t:WS}
theorem Af5 {f:Nat→Int} {i j:Nat} {v:Int}:E9 f i v j=if j=i then v else f j:=rfl
theorem Ay4 (hg:F3 w) (p:Nat):(w.F p = -1)∨(w.T p = -1∧0≤w.F p):=by
 rcases hg.fr p with h | ⟨h1,f,h2,_⟩
 ·exact .inl h
 ·exact .inr ⟨h1,by omega⟩
theorem AX3 (hg:F3 w) (p:Nat):(w.T p = -1)∨(w.F p = -1∧0≤w.T p):=by
 rcases hg.sl p with h | ⟨h1,f,h2,_⟩
 ·exact .inl h
 ·exact .inr ⟨h1,by omega⟩
theorem Az0 {w':Sw} {t':WS} (n1:ndI t'.W) (n2:ndI t'.D) (n3:ndI t'.H) (hf:∀ p,w'.pg≤p→w'.T p = -1)
  (g1:∀ p:Nat,mgI t'.W (p:Nat)=if w'.is p then some (w'.F p,w'.T p,w'.Z p) else none) (g1':∀ p:Int,p < 0→mgI t'.W p=none)
  (g2:∀ k:Nat,(∀ p,w'.T p=(k:Nat)→mgI t'.D (k:Nat)=some (w'.D k))∧((∀ p,w'.T p ≠ (k:Nat))→mgI t'.D (k:Nat)=none)) (g2':∀ k:Int,k < 0→mgI t'.D k=none)
  (g3:∀ (f p:Nat),mgI t'.H (f:Nat)=some ((p:Nat):Int) ↔ w'.F p=(f:Nat)) (g3':∀ f:Int,f < 0→mgI t'.H f=none) (g3n:∀ (f p:Int),mgI t'.H f=some p→0≤p):WOk w' t':=by
 refine ⟨n1,n2,n3,fun p=>?_,fun k=>?_,fun f p=>?_⟩
 ·by_cases h0:0≤p
  ·obtain ⟨m,rfl⟩:=Int.eq_ofNat_of_zero_le h0
   rw [g1,Int.toNat_natCast]
   by_cases hi:w'.is m
   ·rw [if_pos hi,if_pos ⟨h0,hi⟩]
   ·rw [if_neg hi,if_neg fun h=>hi h.2]
  ·rw [g1' p (by omega),if_neg fun h=>h0 h.1]
 ·by_cases h0:0≤k
  ·obtain ⟨m,rfl⟩:=Int.eq_ofNat_of_zero_le h0
   rw [Int.toNat_natCast]
   by_cases hh:w'.heldT m
   ·obtain ⟨p,_,hp⟩:=hh
    rw [if_pos ⟨h0,⟨p,by assumption,hp⟩⟩]
    exact (g2 m).1 p hp
   ·rw [if_neg fun h=>hh h.2]
    refine (g2 m).2 fun p hp=>hh ⟨p,?_,hp⟩
    exact Classical.byContradiction fun hn=>by rw [hf p (by omega)] at hp;omega
  ·rw [g2' k (by omega),if_neg fun h=>h0 h.1]
 ·by_cases h0:0≤f
  ·obtain ⟨m,rfl⟩:=Int.eq_ofNat_of_zero_le h0
   constructor
   ·intro h
    have hp:=g3n _ _ h
    obtain ⟨j,rfl⟩:=Int.eq_ofNat_of_zero_le hp
    rw [Int.toNat_natCast]
    exact ⟨hp,h0,(g3 m j).1 h⟩
   ·rintro ⟨h1,_,h3⟩
    obtain ⟨j,rfl⟩:=Int.eq_ofNat_of_zero_le h1
    rw [Int.toNat_natCast] at h3
    exact (g3 m j).2 h3
  ·rw [g3' f (by omega)]
   exact ⟨fun h=>(by cases h),fun h=>absurd h.2.1 h0⟩
theorem gW_n (h:WOk w t) (p:Nat):mgI t.W (p:Nat)=if w.is p then some (w.F p,w.T p,w.Z p) else none:=by
 by_cases hi:w.is p
 ·rw [if_pos hi,Aa2 h.ww hi]
 ·rw [if_neg hi,gW_no h.ww hi]
theorem BD9 (h:WOk w t) {p:Int} (hp:p < 0):mgI t.W p=none:=by rw [h.gW,if_neg fun h2=>by have:=h2.1;omega]
theorem Af2 (h:WOk w t) {k:Int} (hk:k < 0):mgI t.D k=none:=by rw [h.gD,if_neg fun h2=>by have:=h2.1;omega]
theorem AU9 (hg:F3 w) (h:WOk w t) {p k:Nat} (hp:w.T p=(k:Nat)):mgI t.D (k:Nat)=some (w.D k):=by
 rw [h.gD,if_pos ⟨by omega,by rw [Int.toNat_natCast];exact ⟨p,AT2 hg (by omega),hp⟩⟩,Int.toNat_natCast]
theorem BE0 (h:WOk w t) {k:Nat} (hp:∀ p,w.T p ≠ (k:Nat)):mgI t.D (k:Nat)=none:=by
 rw [h.gD,if_neg fun h2=>by
  have:=h2.2
  rw [Int.toNat_natCast] at this
  obtain ⟨p,_,h3⟩:=this
  exact hp p h3]
theorem gH_n (h:WOk w t) (f p:Nat):mgI t.H (f:Nat)=some ((p:Nat):Int) ↔ w.F p=(f:Nat):=by
 rw [h.gH,Int.toNat_natCast]
 exact ⟨fun h=>h.2.2,fun h=>⟨by omega,by omega,h⟩⟩
theorem Ar6 (h:WOk w t) {f:Int} (hf:f < 0):mgI t.H f=none:=by
 cases hm:mgI t.H f with
 | none=>rfl
 | some p=>have:=((h.gH f p).1 hm).2.1;omega
theorem gH_ge (h:WOk w t) {f p:Int} (hf:mgI t.H f=some p):0≤p:=((h.gH f p).1 hf).1
theorem Ab3 (h:WOk w t) (s':Sy):WOk { w with s:=s' } t:=⟨h.ndW,h.ndD,h.ndH,h.gW,h.gD,h.gH⟩
theorem wok_stamp (hg:F3 w) (h:WOk w t) {p:Nat} (hp:0≤w.F p) (now:Int):WOk { w with Z:=E9 w.Z p now } ⟨mpI t.W (p:Nat) (w.F p,w.T p,now),t.D,t.H⟩:=by
 refine Az0 (Ak8 h.ndW) h.ndD h.ndH (fun j hj=>(hg.far j hj).2) (fun j=>?_) (fun j hj=>?_) (fun k=>⟨fun j hj=>AU9 hg h hj,fun hj=>BE0 h hj⟩) (fun k hk=>Af2 h hk) (fun f j=>gH_n h f j) (fun f hf=>Ar6 h hf) (fun f j hj=>gH_ge h hj)
 ·show mgI (mpI t.W (p:Nat) (w.F p,w.T p,now)) (j:Nat)=if w.is j then some (w.F j,w.T j,E9 w.Z p now j) else none
  rw [AG9,Af5,gW_n h]
  by_cases e:j=p
  ·subst e;rw [if_pos rfl,if_pos (.inl hp),if_pos rfl]
  ·rw [if_neg (by omega),if_neg e]
 ·show mgI (mpI t.W (p:Nat) (w.F p,w.T p,now)) j=none
  rw [AG9,if_neg (by omega),BD9 h hj]
theorem wok_brg (hg:F3 w) (h:WOk w t) {p f:Nat} (hp:p < w.pg) (hn:¬ 0≤w.F p) (hf:¬ w.heldF f) (now:Int) (x:Nat→Int):WOk (w.brg p f now x) ⟨mpI t.W (p:Nat) ((f:Nat),-1,now),mdI t.D (w.T p),mpI t.H (f:Nat) (p:Nat)⟩:=by
 have hfn:∀ j,w.F j ≠ (f:Nat):=fun j hj=>hf ⟨j,AK7 hg (by omega),hj⟩
 have hFp:w.F p = -1:=(Ay4 hg p).resolve_right fun h=>hn h.2
 refine Az0 (Ak8 h.ndW) (BJ7 h.ndD) (Ak8 h.ndH) (fun j hj=>?_) (fun j=>?_) (fun j hj=>?_) (fun k=>⟨fun j hj=>?_,fun hj=>?_⟩) (fun k hk=>?_) (fun g j=>?_) (fun g hg'=>?_) (fun g j hj=>?_)
 ·show E9 w.T p (-1) j = -1
  rw [Af5]
  split
  ·rfl
  ·exact (hg.far j hj).2
 ·show mgI (mpI t.W (p:Nat) ((f:Nat),-1,now)) (j:Nat)=if (0≤E9 w.F p (f:Nat) j∨0≤E9 w.T p (-1) j) then some (E9 w.F p (f:Nat) j,E9 w.T p (-1) j,E9 w.Z p now j) else none
  rw [AG9,Af5,Af5,Af5,gW_n h]
  by_cases e:j=p
  ·subst e;rw [if_pos rfl,if_pos rfl,if_pos rfl,if_pos rfl,if_pos (.inl (by omega))]
  ·rw [if_neg (by omega),if_neg e,if_neg e,if_neg e];rfl
 ·show mgI (mpI t.W (p:Nat) ((f:Nat),-1,now)) j=none
  rw [AG9,if_neg (by omega),BD9 h hj]
 ·have hj':E9 w.T p (-1) j=(k:Nat):=hj
  rw [Af5] at hj'
  show mgI (mdI t.D (w.T p)) (k:Nat)=some (w.D k)
  split at hj'
  ·omega
  ·rename_i e
   rw [AL2 h.ndD,if_neg fun e2=>e (hg.oneT j p (by omega) (by omega)),AU9 hg h hj']
 ·show mgI (mdI t.D (w.T p)) (k:Nat)=none
  rw [AL2 h.ndD]
  by_cases e:((k:Nat):Int)=w.T p
  ·rw [if_pos e]
  ·rw [if_neg e]
   refine BE0 h fun i hi=>?_
   have:=hj i
   have h2:E9 w.T p (-1) i ≠ (k:Nat):=this
   rw [Af5] at h2
   split at h2
   ·rename_i e2;subst e2;exact e hi.symm
   ·exact h2 hi
 ·show mgI (mdI t.D (w.T p)) k=none
  rw [AL2 h.ndD,Af2 h hk];split<;>rfl
 ·show mgI (mpI t.H (f:Nat) (p:Nat)) (g:Nat)=some ((j:Nat):Int) ↔ E9 w.F p (f:Nat) j=(g:Nat)
  rw [AG9,Af5]
  by_cases e:g=f
  ·subst e
   rw [if_pos rfl]
   by_cases e2:j=p
   ·subst e2;rw [if_pos rfl];simp
   ·rw [if_neg e2]
    exact ⟨fun h=>absurd (Option.some.inj h) (by omega),fun h=>absurd h (hfn j)⟩
  ·rw [if_neg (by omega),gH_n h]
   by_cases e2:j=p
   ·subst e2;rw [if_pos rfl,hFp];exact ⟨fun h=>by omega,fun h=>by omega⟩
   ·rw [if_neg e2]
 ·show mgI (mpI t.H (f:Nat) (p:Nat)) g=none
  rw [AG9,if_neg (by omega),Ar6 h hg']
 ·have hj':mgI (mpI t.H (f:Nat) (p:Nat)) g=some j:=hj
  rw [AG9] at hj'
  split at hj'
  ·cases hj';omega
  ·exact gH_ge h hj'
theorem BG9 (hg:F3 w) (h:WOk w t) {p v f k:Nat} (hp:p < w.pg) (hn:¬ 0≤w.F p) (hv:w.F v=(f:Nat)) (hk:((k:Nat):Int)=w.T p∨¬ w.heldT k) (now:Int) (x:Nat→Int) :
  WOk ((w.put v k).brg p (w.F v).toNat now x) ⟨mpI (mpI t.W (v:Nat) (-1,(k:Nat),w.Z v)) (p:Nat) ((f:Nat),-1,now),mpI (mdI t.D (w.T p)) (k:Nat) (w.s.B f),mpI (mdI t.H (f:Nat)) (f:Nat) (p:Nat)⟩:=by
 have hFp:w.F p = -1:=(Ay4 hg p).resolve_right fun h=>hn h.2
 have hvp:v ≠ p:=fun e=>by rw [e,hFp] at hv;omega
 have hTv:w.T v = -1:=(AX3 hg v).resolve_right fun h=>by rw [h.1] at hv;omega
 have hkn:∀ j,j ≠ p→w.T j ≠ (k:Nat):=fun j hj e=>by
  rcases hk with hk|hk
  ·exact hj (hg.oneT j p (by omega) (by omega))
  ·exact hk ⟨j,AT2 hg (by omega),e⟩
 have hfn:∀ j,j ≠ v→w.F j ≠ (f:Nat):=fun j hj e=>hj (hg.oneF j v (by omega) (by omega))
 have hft:(w.F v).toNat=f:=by rw [hv,Int.toNat_natCast]
 have eF:∀ j,((w.put v k).brg p (w.F v).toNat now x).F j=if j=p then ((f:Nat):Int) else if j=v then -1 else w.F j:=fun j=>by
  show E9 (E9 w.F v (-1)) p ((w.F v).toNat:Nat) j=_
  rw [hft,Af5,Af5]
 have eT:∀ j,((w.put v k).brg p (w.F v).toNat now x).T j=if j=p then -1 else if j=v then ((k:Nat):Int) else w.T j:=fun j=>by
  show E9 (E9 w.T v (k:Nat)) p (-1) j=_
  rw [Af5,Af5]
 have eZ:∀ j,((w.put v k).brg p (w.F v).toNat now x).Z j=if j=p then now else w.Z j:=fun j=>rfl
 have eD:∀ j,((w.put v k).brg p (w.F v).toNat now x).D j=if j=k then w.s.B f else w.D j:=fun j=>by
  show AF5 w.D k (w.s.B (w.F v).toNat) j=_
  rw [hft];rfl
 have hpg:((w.put v k).brg p (w.F v).toNat now x).pg=w.pg:=rfl
 have hvl:v < w.pg:=AK7 hg (by omega)
 have eis:∀ j,((w.put v k).brg p (w.F v).toNat now x).is j ↔ (j=p∨j=v∨w.is j):=fun j=>by
  unfold Sw.is
  rw [eF,eT]
  by_cases e1:j=p
  ·rw [if_pos e1,if_pos e1];exact ⟨fun _=>.inl e1,fun _=>.inl (by omega)⟩
  ·rw [if_neg e1,if_neg e1]
   by_cases e2:j=v
   ·rw [if_pos e2,if_pos e2];exact ⟨fun _=>.inr (.inl e2),fun _=>.inr (by omega)⟩
   ·rw [if_neg e2,if_neg e2]
    exact ⟨fun h=>.inr (.inr h),fun h=>h.elim (fun h=>absurd h e1) fun h=>h.elim (fun h=>absurd h e2) id⟩
 generalize (w.put v k).brg p (w.F v).toNat now x=w' at *
 refine Az0 (Ak8 (Ak8 h.ndW)) (Ak8 (BJ7 h.ndD)) (Ak8 (BJ7 h.ndH)) (fun j hj=>?_) (fun j=>?_) (fun j hj=>?_) (fun m=>⟨fun j hj=>?_,fun hj=>?_⟩) (fun m hm=>?_) (fun g j=>?_) (fun g hg'=>?_) (fun g j hj=>?_)
 ·rw [eT,if_neg (by omega),if_neg (by omega)];exact (hg.far j (by omega)).2
 ·dsimp only
  rw [AG9,AG9,gW_n h,eF,eT,eZ]
  by_cases e1:j=p
  ·subst e1;rw [if_pos rfl,if_pos rfl,if_pos rfl,if_pos rfl,if_pos ((eis j).2 (.inl rfl))]
  ·rw [if_neg (by omega),if_neg e1,if_neg e1,if_neg e1]
   by_cases e2:j=v
   ·subst e2;rw [if_pos rfl,if_pos rfl,if_pos rfl,if_pos ((eis j).2 (.inr (.inl rfl)))]
   ·rw [if_neg (by omega),if_neg e2,if_neg e2]
    by_cases hi:w.is j
    ·rw [if_pos hi,if_pos ((eis j).2 (.inr (.inr hi)))]
    ·rw [if_neg hi,if_neg fun h2=>((eis j).1 h2).elim e1 fun h3=>h3.elim e2 hi]
 ·dsimp only
  rw [AG9,if_neg (by omega),AG9,if_neg (by omega),BD9 h hj]
 ·rw [eT] at hj
  dsimp only
  rw [AG9,eD]
  by_cases e:m=k
  ·subst e;rw [if_pos rfl,if_pos rfl]
  ·rw [if_neg (by omega),if_neg e,AL2 h.ndD]
   split at hj
   ·omega
   ·rename_i e1
    split at hj
    ·omega
    ·rw [if_neg fun e2=>e1 (hg.oneT j p (by omega) (by omega)),AU9 hg h hj]
 ·dsimp only
  have hne:m ≠ k:=fun e=>by
   have:=hj v
   rw [eT,if_neg hvp,if_pos rfl] at this
   exact this (by omega)
  rw [AG9,if_neg (by omega),AL2 h.ndD]
  by_cases e:((m:Nat):Int)=w.T p
  ·rw [if_pos e]
  ·rw [if_neg e]
   refine BE0 h fun i hi=>?_
   have h2:=hj i
   rw [eT] at h2
   split at h2
   ·rename_i e2;subst e2;exact e hi.symm
   ·split at h2
    ·rename_i e2;subst e2;omega
    ·exact h2 hi
 ·dsimp only
  rw [AG9,if_neg (by omega),AL2 h.ndD,Af2 h hm];split<;>rfl
 ·dsimp only
  rw [AG9,eF]
  by_cases e:g=f
  ·subst e
   rw [if_pos rfl]
   by_cases e2:j=p
   ·subst e2;rw [if_pos rfl];simp
   ·rw [if_neg e2]
    constructor
    ·intro h;exact absurd (Option.some.inj h) (by omega)
    ·intro h2
     split at h2
     ·omega
     ·rename_i e3;exact absurd h2 (hfn j e3)
  ·rw [if_neg (by omega),AL2 h.ndH,if_neg (by omega),gH_n h]
   by_cases e2:j=p
   ·subst e2;rw [if_pos rfl,hFp];exact ⟨fun h=>by omega,fun h=>by omega⟩
   ·rw [if_neg e2]
    by_cases e3:j=v
    ·subst e3;rw [if_pos rfl,hv];exact ⟨fun h=>by omega,fun h=>by omega⟩
    ·rw [if_neg e3]
 ·dsimp only
  rw [AG9,if_neg (by omega),AL2 h.ndH,Ar6 h hg'];split<;>rfl
 ·dsimp only at hj
  rw [AG9] at hj
  split at hj
  ·cases hj;omega
  ·rw [AL2 h.ndH] at hj
   split at hj
   ·cases hj
   ·exact gH_ge h hj
theorem wok_out (hg:F3 w) (h:WOk w t) {p f k:Nat} (hv:w.F p=(f:Nat)) (hk:¬ w.heldT k):WOk (w.put p k) ⟨mpI t.W (p:Nat) (-1,(k:Nat),w.Z p),mpI t.D (k:Nat) (w.s.B f),mdI t.H (f:Nat)⟩:=by
 have hTp:w.T p = -1:=(AX3 hg p).resolve_right fun h=>by rw [h.1] at hv;omega
 have hpl:p < w.pg:=AK7 hg (by omega)
 have hkn:∀ j,w.T j ≠ (k:Nat):=fun j e=>hk ⟨j,AT2 hg (by omega),e⟩
 have hft:(w.F p).toNat=f:=by rw [hv,Int.toNat_natCast]
 have eF:∀ j,(w.put p k).F j=if j=p then -1 else w.F j:=fun j=>rfl
 have eT:∀ j,(w.put p k).T j=if j=p then ((k:Nat):Int) else w.T j:=fun j=>rfl
 have eZ:∀ j,(w.put p k).Z j=w.Z j:=fun j=>rfl
 have eD:∀ j,(w.put p k).D j=if j=k then w.s.B f else w.D j:=fun j=>by
  show AF5 w.D k (w.s.B (w.F p).toNat) j=_
  rw [hft];rfl
 have hpg:(w.put p k).pg=w.pg:=rfl
 have eis:∀ j,(w.put p k).is j ↔ (j=p∨w.is j):=fun j=>by
  unfold Sw.is
  rw [eF,eT]
  by_cases e1:j=p
  ·rw [if_pos e1,if_pos e1];exact ⟨fun _=>.inl e1,fun _=>.inr (by omega)⟩
  ·rw [if_neg e1,if_neg e1]
   exact ⟨fun h=>.inr h,fun h=>h.elim (fun h=>absurd h e1) id⟩
 generalize w.put p k=w' at *
 refine Az0 (Ak8 h.ndW) (Ak8 h.ndD) (BJ7 h.ndH) (fun j hj=>?_) (fun j=>?_) (fun j hj=>?_) (fun m=>⟨fun j hj=>?_,fun hj=>?_⟩) (fun m hm=>?_) (fun g j=>?_) (fun g hg'=>?_) (fun g j hj=>?_)
 ·rw [eT,if_neg (by omega)];exact (hg.far j (by omega)).2
 ·dsimp only
  rw [AG9,gW_n h,eF,eT,eZ]
  by_cases e1:j=p
  ·subst e1;rw [if_pos rfl,if_pos rfl,if_pos rfl,if_pos ((eis j).2 (.inl rfl))]
  ·rw [if_neg (by omega),if_neg e1,if_neg e1]
   by_cases hi:w.is j
   ·rw [if_pos hi,if_pos ((eis j).2 (.inr hi))]
   ·rw [if_neg hi,if_neg fun h2=>((eis j).1 h2).elim e1 hi]
 ·dsimp only
  rw [AG9,if_neg (by omega),BD9 h hj]
 ·rw [eT] at hj
  dsimp only
  rw [AG9,eD]
  by_cases e:m=k
  ·subst e;rw [if_pos rfl,if_pos rfl]
  ·rw [if_neg (by omega),if_neg e]
   split at hj
   ·omega
   ·exact AU9 hg h hj
 ·dsimp only
  have hne:m ≠ k:=fun e=>by
   have:=hj p
   rw [eT,if_pos rfl] at this
   exact this (by omega)
  rw [AG9,if_neg (by omega)]
  refine BE0 h fun i hi=>?_
  have h2:=hj i
  rw [eT] at h2
  split at h2
  ·rename_i e2;subst e2;omega
  ·exact h2 hi
 ·dsimp only
  rw [AG9,if_neg (by omega),Af2 h hm]
 ·dsimp only
  rw [AL2 h.ndH,eF]
  by_cases e:g=f
  ·subst e
   rw [if_pos rfl]
   constructor
   ·intro h;cases h
   ·intro h2
    split at h2
    ·omega
    ·rename_i e3;exact absurd (hg.oneF j p (by omega) (by omega)) e3
  ·rw [if_neg (by omega),gH_n h]
   by_cases e2:j=p
   ·subst e2;rw [if_pos rfl,hv];exact ⟨fun h=>by omega,fun h=>by omega⟩
   ·rw [if_neg e2]
 ·dsimp only
  rw [AL2 h.ndH,Ar6 h hg'];split<;>rfl
 ·dsimp only at hj
  rw [AL2 h.ndH] at hj
  split at hj
  ·cases hj
  ·exact gH_ge h hj
theorem wok_fre (hg:F3 w) (h:WOk w t) {p:Nat} (hi:w.is p):WOk { w with F:=E9 w.F p (-1),T:=E9 w.T p (-1),Z:=E9 w.Z p 0 } ⟨mdI t.W (p:Nat),mdI t.D (w.T p),mdI t.H (w.F p)⟩:=by
 have eF:∀ j,({ w with F:=E9 w.F p (-1),T:=E9 w.T p (-1),Z:=E9 w.Z p 0 }:Sw).F j=if j=p then -1 else w.F j:=fun j=>rfl
 have eT:∀ j,({ w with F:=E9 w.F p (-1),T:=E9 w.T p (-1),Z:=E9 w.Z p 0 }:Sw).T j=if j=p then -1 else w.T j:=fun j=>rfl
 have eZ:∀ j,j ≠ p→({ w with F:=E9 w.F p (-1),T:=E9 w.T p (-1),Z:=E9 w.Z p 0 }:Sw).Z j=w.Z j:=fun j hj=>if_neg hj
 have eD:∀ j,({ w with F:=E9 w.F p (-1),T:=E9 w.T p (-1),Z:=E9 w.Z p 0 }:Sw).D j=w.D j:=fun j=>rfl
 have hpg:({ w with F:=E9 w.F p (-1),T:=E9 w.T p (-1),Z:=E9 w.Z p 0 }:Sw).pg=w.pg:=rfl
 have eis:∀ j,({ w with F:=E9 w.F p (-1),T:=E9 w.T p (-1),Z:=E9 w.Z p 0 }:Sw).is j ↔ (j ≠ p∧w.is j):=fun j=>by
  unfold Sw.is
  rw [eF,eT]
  by_cases e1:j=p
  ·rw [if_pos e1,if_pos e1];exact ⟨fun h=>by omega,fun h=>absurd e1 h.1⟩
  ·rw [if_neg e1,if_neg e1]
   exact ⟨fun h=>⟨e1,h⟩,fun h=>h.2⟩
 generalize ({ w with F:=E9 w.F p (-1),T:=E9 w.T p (-1),Z:=E9 w.Z p 0 }:Sw)=w' at *
 refine Az0 (BJ7 h.ndW) (BJ7 h.ndD) (BJ7 h.ndH) (fun j hj=>?_) (fun j=>?_) (fun j hj=>?_) (fun m=>⟨fun j hj=>?_,fun hj=>?_⟩) (fun m hm=>?_) (fun g j=>?_) (fun g hg'=>?_) (fun g j hj=>?_)
 ·rw [eT];split
  ·rfl
  ·exact (hg.far j (by omega)).2
 ·dsimp only
  rw [AL2 h.ndW,gW_n h]
  by_cases e1:j=p
  ·subst e1;rw [if_pos rfl,if_neg fun h2=>((eis j).1 h2).1 rfl]
  ·rw [if_neg (by omega),eF,eT,if_neg e1,if_neg e1,eZ j e1]
   by_cases hi:w.is j
   ·rw [if_pos hi,if_pos ((eis j).2 ⟨e1,hi⟩)]
   ·rw [if_neg hi,if_neg fun h2=>hi ((eis j).1 h2).2]
 ·dsimp only
  rw [AL2 h.ndW,BD9 h hj];split<;>rfl
 ·rw [eT] at hj
  dsimp only
  rw [AL2 h.ndD,eD]
  split at hj
  ·omega
  ·rename_i e1
   rw [if_neg fun e2=>e1 (hg.oneT j p (by omega) (by omega)),AU9 hg h hj]
 ·dsimp only
  rw [AL2 h.ndD]
  by_cases e:((m:Nat):Int)=w.T p
  ·rw [if_pos e]
  ·rw [if_neg e]
   refine BE0 h fun i hti=>?_
   have h2:=hj i
   rw [eT] at h2
   split at h2
   ·rename_i e2;exact e (by rw [← e2];exact hti.symm)
   ·exact h2 hti
 ·dsimp only
  rw [AL2 h.ndD,Af2 h hm];split<;>rfl
 ·dsimp only
  rw [AL2 h.ndH,eF]
  by_cases e:((g:Nat):Int)=w.F p
  ·rw [if_pos e]
   constructor
   ·intro h;cases h
   ·intro h2
    split at h2
    ·omega
    ·rename_i e3;exact absurd (hg.oneF j p (by omega) (by omega)) e3
  ·rw [if_neg e,gH_n h]
   by_cases e2:j=p
   ·subst e2;rw [if_pos rfl];exact ⟨fun h=>absurd h.symm e,fun h=>by omega⟩
   ·rw [if_neg e2]
 ·dsimp only
  rw [AL2 h.ndH,Ar6 h hg'];split<;>rfl
 ·dsimp only at hj
  rw [AL2 h.ndH] at hj
  split at hj
  ·cases hj
  ·exact gH_ge h hj
end
end Go.Pol
namespace Go.Am
section
variable {P:Program} {G:Gl}
theorem BO2 {a b:At} {rd:List Nat}:∀ {up:Up},(∀ i ∈ rd,b i=a i)→(∀ j o,(j,o) ∈ up→j ∈ rd∧a j=o)→upd b up=b
 | [],_,_=>rfl
 | (i,o)::r,h1,h2=>by
  have ih:=BO2 (up:=r) h1 fun j o h=>h2 j o (List.mem_cons_of_mem _ h)
  funext j
  show (if j=i then o else upd b r j)=b j
  split
  ·rename_i e
   obtain ⟨k1,k2⟩:=h2 i o (List.mem_cons_self ..)
   rw [e,h1 i k1,k2]
  ·rw [ih]
theorem fnU_keep {f:Nat} {args:List AV} {rd:List Nat} {at_:At} {r:AV} {up:Up} {id:Nat} (h:FnU P G f args rd at_ r up id) (hup:∀ j o,(j,o) ∈ up→j ∈ rd∧at_ j=o) (hid:id ∉ rd):FnU P G f args rd at_ r [] id:=by
 refine ⟨h.1,fun c vs hR hG hu hat ha=>(h.2 c vs hR hG hu hat ha).mono ?_⟩
 rintro e w' ⟨v,c',h1,h2,h3,h4,h5,h6,h7⟩
 refine ⟨v,c',h1,h2,h3,h4,h5,?_,fun i=>?_⟩
 ·rw [h6,BO2 hat hup];rfl
 ·rw [h7]
  have : AA3 up id=[]:=by
   unfold AA3
   rw [if_neg]
   simp only [List.any_eq_true,beq_iff_eq,not_exists,not_and]
   rintro ⟨j,o⟩ hq e
   exact hid (by rw [← show j=id from e];exact (hup j o hq).1)
  rw [this];rfl
theorem Ax1 {g:Nat} {avs:List AV} {h:Hp} {K:AV→Up→List Nat→Prop} (hd:AK0 P G g avs h fun r up rd=>(∀ j o,(j,o) ∈ up→j ∈ rd∧lk h.l j=o)∧h.next ∉ rd∧K r [] rd):AK0 P G g avs h K:=by
 obtain ⟨r,up,rd,h1,h2,h3,h4⟩:=hd.out
 exact ⟨r,[],rd,fnU_keep h1 h2 h3,h4⟩
end
end Go.Am
namespace Go.Pol
theorem AK9 {x:Int}:min (x+1) 1000000000=AV2 x:=by
 unfold AV2
 split<;>omega
end Go.Pol
namespace Go.Proofs.YtbhgfoikbkaohaaGreat.Sh
open Go Go.Am Go.Pol
theorem wx_Sxg {p q:Prop} (hq:q) (h:Y2 q→p:=by (intro hQz;((repeat' ((try (conv=>whnf));first|refine sxA ?_|refine AF1 hW rfl ?_|refine AZ9 rfl (q.s.B f) rfl ?_|refine AZ9 rfl ((-1:Int),k,z) rfl ?_|refine mdel_i rfl ?_|refine sxF ?_|refine dcx_wk hgt rfl rfl rfl rfl rfl rfl rfl ?_|refine sxH ?_|((with_reducible first|apply U3 hQz|apply U4 hQz)<;>(try intro hsp hQz))|exact hQz.out))<;>(try (conv=>whnf))))):p:=h ⟨hq⟩
section
variable {q:Sw} {t:WS}
theorem dcx_wk {f:Nat} {avs:List AV} {o w d m s:Nat} {h:Hp} {r:AV} {K:AV→Up→List Nat→Prop} (hc:T9 f avs q t r q t)
  (g0:lk h.l o=some (.cells (stC s w d m q))) (g1:lk h.l w=some (.maps (encW pgE t.W))) (g2:lk h.l d=some (.maps (encW byE t.D))) (g3:lk h.l m=some (.maps (encW nuE t.H))) (g4:lk h.l s=some (.cells q.s.a))
  (hd:Ab1 [o,w,d,m,s]=true) (hnx':[o,w,d,m,s].contains h.next=false)
  (hk:K r [] [o,w,d,m,s]):AK0 Tryz.prog G0 f (.ptr o 0::avs) h K:=by
 refine Ax1 (dcx_w hc g0 g1 g2 g3 g4 hd hnx' ⟨fun j x hx=>?_,fun hm=>by rw [List.contains_eq_mem,decide_eq_false_iff_not] at hnx';exact hnx' hm,hk⟩)
 simp only [List.mem_cons,Prod.mk.injEq,List.not_mem_nil,or_false] at hx ⊢
 rcases hx with ⟨rfl,rfl⟩ | ⟨rfl,rfl⟩ | ⟨rfl,rfl⟩ | ⟨rfl,rfl⟩ | ⟨rfl,rfl⟩
 ·exact ⟨.inl rfl,g0⟩
 ·exact ⟨.inr (.inl rfl),g1⟩
 ·exact ⟨.inr (.inr (.inl rfl)),g2⟩
 ·exact ⟨.inr (.inr (.inr (.inl rfl))),g3⟩
 ·exact ⟨.inr (.inr (.inr (.inr rfl))),g4⟩
theorem w_outM {v f:Nat} {z sl k:Int} (hW:mgI t.W (v:Nat)=some (((f:Nat):Int),sl,z)) (hf:f < 1024) (hk:q.s.K f=2) (hc:0≤q.outs∧q.outs≤1000000000):T9 69 [.int .i64 (v:Nat),.int .i64 k] q t (.tup []) { q with outs:=AV2 q.outs } ⟨mpI t.W (v:Nat) (-1,k,z),mpI t.D k (q.s.B f),mdI t.H (f:Nat)⟩:=by
 refine T9.mk (G6 F9 b69 rfl ?_) (fun x hx=>by
  simp only [List.mem_cons,List.not_mem_nil,or_false] at hx
  rcases hx with rfl|rfl<;>exact A8) R3
 have hgt:=w_get (t:=t) hf hk
 have hadd:=AK9 (x:=q.outs)
 unfold c69
 unfold stN stC
 (refine wx_Sxg ?_;repeat' (first|with_reducible refine And.intro ?_ ?_|intro hsp))
 all_goals first|(exfalso;omega)|(simp only [hadd];exact V9 (q:={ q with outs:=AV2 q.outs }) (t:=⟨mpI t.W (v:Nat) (-1,k,z),mpI t.D k (q.s.B f),mdI t.H (f:Nat)⟩) rfl R3 rfl rfl rfl rfl rfl)
end
end Go.Proofs.YtbhgfoikbkaohaaGreat.Sh
namespace Go.Pol
open Go.Am Go.Proofs.YtbhgfoikbkaohaaGreat.Sh
def Af7 (q:Sw) (s1:Sy) (i:Int) (p f:Nat) (now:Int) (x:Nat→Int):Sw:={ q with ins:=i,T:=E9 q.T p (-1),F:=E9 q.F p (f:Nat),Z:=E9 q.Z p now,s:=s1.page f x }
theorem brg_R {q:Sw} {s1:Sy} {p f:Nat} {now:Int} {x:Nat→Int}:({ q with s:=s1 }:Sw).brg p f now x=Af7 q s1 (if 0≤q.T p then AV2 q.ins else q.ins) p f now x:=rfl
theorem brg_R0 {q:Sw} {p f:Nat} {now:Int} {x:Nat→Int}:q.brg p f now x=Af7 q q.s (if 0≤q.T p then AV2 q.ins else q.ins) p f now x:=rfl
theorem put_R {q:Sw} {p v k f:Nat} {now:Int} {x:Nat→Int} (h:v ≠ p):(q.put v k).brg p f now x=Af7 (q.put v k) q.s (if 0≤q.T p then AV2 q.ins else q.ins) p f now x:=by
 unfold Sw.brg Af7
 have e:(q.put v k).T p=q.T p:=if_neg fun e=>h e.symm
 rw [e];rfl
theorem Y9 {s:Sy} {f:Nat} {y:Int} (hf:f < 1024) (h:s.K f=y):s.kind (f:Nat)=[.int .i64 y,.bool (s.M f),.int .i64 0]:=by
 unfold Sy.kind
 rw [if_neg (by omega),Int.toNat_natCast,h]
end Go.Pol
namespace Go.Proofs.YtbhgfoikbkaohaaGreat.Sh
open Go Go.Am Go.Pol
theorem wx_Sxh {p q:Prop} (hq:q) (h:Y2 q→p:=by (intro hQz;((repeat' ((try (conv=>whnf));first|refine sxA ?_|refine AG8 hW rfl ?_|refine AZ9 rfl (q.F p,q.T p,now) rfl ?_|refine sxF ?_|refine sxH ?_|((with_reducible first|apply U3 hQz|apply U4 hQz)<;>(try intro hsp hQz))|exact hQz.out))<;>(try (conv=>whnf))))):p:=h ⟨hq⟩
theorem wx_Sxhn {p q:Prop} (hq:q) (h:Y2 q→p:=by (intro hQz;((repeat' ((try (conv=>whnf));first|refine sxA ?_|refine AG8 hW rfl ?_|refine AK6 hW rfl ?_|refine mlook_d hD As6 rfl ?_|refine ⟨S9,?_⟩|refine X6 (by simp only [List.length_replicate,S9];omega) hov ?_|refine mdel_i rfl ?_|refine AZ9 rfl (((f:Nat):Int),(-1:Int),now) rfl ?_|refine AZ9 rfl ((p:Nat):Int) rfl ?_|refine U2 (by rw [S9];omega) List.drop_zero (Q7 (by rw [S9];omega) Ae0 ?_)|refine AF1 hWv rfl ?_|refine sxN ?_|refine cx_L hL hy rfl rfl rfl rfl rfl rfl rfl rfl ?_|refine AU4 hS rfl rfl rfl rfl rfl (by decide) rfl ?_|refine M0 hkd rfl (by decide) ?_|refine M0 hcom rfl (by decide) ?_|refine AU4 (hset (min (q.ins+1) 1000000000)) rfl rfl rfl rfl rfl (by decide) rfl ?_|refine AU4 (hset q.ins) rfl rfl rfl rfl rfl (by decide) rfl ?_|refine AU4 hV rfl rfl rfl rfl rfl (by decide) rfl ?_|refine AU4 hO rfl rfl rfl rfl rfl (by decide) rfl ?_|refine AU4 (hset (min (q1.ins+1) 1000000000)) rfl rfl rfl rfl rfl (by decide) rfl ?_|refine AU4 (hset q1.ins) rfl rfl rfl rfl rfl (by decide) rfl ?_|refine sxH ?_|((with_reducible first|apply U3 hQz|apply U4 hQz)<;>(try intro hsp hQz))|exact hQz.out))<;>(try (conv=>whnf))))):p:=h ⟨hq⟩
section
variable {q:Sw} {t:WS}
theorem dcx_L {o w d m s b:Nat} {h:Hp} {K:AV→Up→List Nat→Prop} {y:Int} (hc:LocL q t) (hy:opA q.free=y)
  (g0:lk h.l o=some (.cells (stC s w d m q))) (g1:lk h.l w=some (.maps (encW pgE t.W))) (g2:lk h.l d=some (.maps (encW byE t.D))) (g3:lk h.l m=some (.maps (encW nuE t.H))) (g4:lk h.l s=some (.cells q.s.a)) (g5:lk h.l b=some (.cells [.ptr o 0]))
  (hd:Ab1 [o,w,d,m,s,b]=true) (hnx':[o,w,d,m,s,b].contains h.next=false)
  (hk:K (.int .i64 y) [] [o,w,d,m,s,b]):AK0 Tryz.prog G0 91 [.int .i64 (q.a:Nat),.int .i64 ((q.a:Int)+(q.n:Nat)),.fn 92 [] [.ptr b 0]] h K:=by
 subst hy
 have hnx:h.next ∉ [o,w,d,m,s,b]:=fun hm=>by rw [List.contains_eq_mem,decide_eq_false_iff_not] at hnx';exact hnx' hm
 have e0:enter [o,w,d,m,s,b] o 0:=rfl
 have e1:enter [o,w,d,m,s,b] w 1:=rfl
 have e2:enter [o,w,d,m,s,b] d 2:=rfl
 have e3:enter [o,w,d,m,s,b] m 3:=rfl
 have e4:enter [o,w,d,m,s,b] s 4:=rfl
 have e5:enter [o,w,d,m,s,b] b 5:=rfl
 have k0:Z0 [o,w,d,m,s,b] 0 o:=rfl
 have k1:Z0 [o,w,d,m,s,b] 1 w:=rfl
 have k2:Z0 [o,w,d,m,s,b] 2 d:=rfl
 have k3:Z0 [o,w,d,m,s,b] 3 m:=rfl
 have k4:Z0 [o,w,d,m,s,b] 4 s:=rfl
 have k5:Z0 [o,w,d,m,s,b] 5 b:=rfl
 refine Ax1 (Ax0 (l1:=[(o,AObj.cells (stC s w d m q)),(w,.maps (encW pgE t.W)),(d,.maps (encW byE t.D)),(m,.maps (encW nuE t.H)),(s,.cells q.s.a),(b,AObj.cells [AV.ptr o 0])]) [o,w,d,m,s,b] hc.out H8 hd
  (.cons e0 g0 (AQ2 e4 e1 e2 e3) (.maps e1 g1 (D5 J7) (.maps e2 g2 (D5 J8) (.maps e3 g3 (D5 J5) (.cons e4 g4 (D8 G8) (.cons e5 g5 ⟨O5 e0,trivial⟩ .nil))))))
  hnx ?_ ?_ ⟨F5 A8,F5 A8,BW9 trivial ⟨O5 e5,trivial⟩,trivial⟩ (F5 A8)
  (.cons k0 (AQ2 k4 k1 k2 k3) (.maps k1 (D5 J7) (.maps k2 (D5 J8) (.maps k3 (D5 J5) (.cons k4 (D8 G8) (.cons k5 (cs:=[AV.ptr 0 0]) ⟨O5 k0,trivial⟩ .nil)))))) ⟨fun j x hx=>?_,hnx,hk⟩)
 ·intro x hx
  simp only [lk]
  repeat' split
  all_goals first|exact ⟨_,rfl⟩|(exfalso;simp only [List.mem_cons,List.not_mem_nil,or_false] at hx;omega)
 ·intro j x hx
  have : j < 6:=(List.getElem?_eq_some_iff.1 hx).1
  simp only [stN,List.cons_append,List.nil_append,lk]
  repeat' split
  all_goals first|exact ⟨_,rfl⟩|(exfalso;omega)
 ·simp only [Ao6,List.map_cons,List.map_nil,List.mem_cons,Prod.mk.injEq,List.not_mem_nil,or_false] at hx ⊢
  rcases hx with ⟨rfl,rfl⟩ | ⟨rfl,rfl⟩ | ⟨rfl,rfl⟩ | ⟨rfl,rfl⟩ | ⟨rfl,rfl⟩ | ⟨rfl,rfl⟩
  ·exact ⟨.inl rfl,g0⟩
  ·exact ⟨.inr (.inl rfl),g1⟩
  ·exact ⟨.inr (.inr (.inl rfl)),g2⟩
  ·exact ⟨.inr (.inr (.inr (.inl rfl))),g3⟩
  ·exact ⟨.inr (.inr (.inr (.inr (.inl rfl)))),g4⟩
  ·exact ⟨.inr (.inr (.inr (.inr (.inr rfl)))),g5⟩
theorem cx_L {o w d m s b:Nat} {h:Hp} {K:AV→Hp→Prop} {y:Int} (hc:LocL q t) (hy:opA q.free=y)
  (g0:lk h.l o=some (.cells (stC s w d m q))) (g1:lk h.l w=some (.maps (encW pgE t.W))) (g2:lk h.l d=some (.maps (encW byE t.D))) (g3:lk h.l m=some (.maps (encW nuE t.H))) (g4:lk h.l s=some (.cells q.s.a)) (g5:lk h.l b=some (.cells [.ptr o 0]))
  (hd:Ab1 [o,w,d,m,s,b]=true) (hnx':[o,w,d,m,s,b].contains h.next=false)
  (hk:K (.int .i64 y) h):AL4 Tryz.prog G0 (.fn 91 [] []) [.int .i64 (q.a:Nat),.int .i64 ((q.a:Int)+(q.n:Nat)),.fn 92 [] [.ptr b 0]] h K:=by
 obtain ⟨r,up,rd,h1,rfl,rfl⟩:=(dcx_L (K:=fun r up _=>r = .int .i64 y∧up=[]) hc hy g0 g1 g2 g3 g4 g5 hd hnx' ⟨rfl,rfl⟩).out
 exact cx_fnU (rd:=rd) h1 hk
theorem look_out (hg:F3 q) (h:WOk q t) {p:Nat} (hn:¬ 0≤q.F p):(∃ z,mgI t.W (p:Nat)=some ((-1:Int),q.T p,z)∧0≤q.T p)∨(mgI t.W (p:Nat)=none∧q.T p = -1):=by
 have hF:q.F p = -1:=(Ay4 hg p).resolve_right fun h=>hn h.2
 by_cases hi:q.is p
 ·left
  refine ⟨q.Z p,?_,hi.resolve_left hn⟩
  rw [Aa2 h.ww hi,hF]
 ·right
  refine ⟨gW_no h.ww hi,(AX3 hg p).resolve_right fun h2=>hi (.inr h2.2)⟩
theorem look_D (hg:F3 q) (h:WOk q t) (p:Nat):(match mgI t.D (q.T p) with|some b=>b|none=>fun _=>0)=q.got p:=by
 unfold Sw.got
 rcases AX3 hg p with h1 | ⟨_,h1⟩
 ·rw [if_neg (by omega),Af2 h (by omega)]
 ·rw [if_pos h1]
  obtain ⟨k,hk⟩:=Int.eq_ofNat_of_zero_le h1
  rw [hk,AU9 hg h hk,Int.toNat_natCast]
theorem w_touchA (hg:F3 q) (h:WOk q t) {p:Nat} {now:Int} (hF:0≤q.F p):T9 65 [.int .i64 (p:Nat),.int .i64 now] q t (.int .i64 0) { q with Z:=E9 q.Z p now } ⟨mpI t.W (p:Nat) (q.F p,q.T p,now),t.D,t.H⟩:=by
 refine T9.mk (G6 F9 b65 rfl ?_) (fun x hx=>by
  simp only [List.mem_cons,List.not_mem_nil,or_false] at hx
  rcases hx with rfl|rfl<;>exact A8) A8
 have hW:=Aa2 h.ww (p:=p) (.inl hF)
 unfold c65
 unfold stN stC
 (refine wx_Sxh ?_;repeat' (first|with_reducible refine And.intro ?_ ?_|intro hsp))
 all_goals first|(exfalso;omega)|exact V9 (q:={ q with Z:=E9 q.Z p now }) (t:=⟨mpI t.W (p:Nat) (q.F p,q.T p,now),t.D,t.H⟩) rfl A8 rfl rfl rfl rfl rfl
theorem w_touchF {p:Nat} {now τ y:Int} {x:Nat→Int} (hrng:q.a+q.n≤1024) (hci:0≤q.ins∧q.ins≤1000000000) (hL:LocL q t) (hy:opA q.free=y) (hWT:(∃ z,mgI t.W (p:Nat)=some ((-1:Int),τ,z)∧0≤τ)∨(mgI t.W (p:Nat)=none∧τ = -1)) (hD:(match mgI t.D τ with|some b=>b|none=>fun _=>0)=x) (hn:y = -1) (hS:T9 68 [.int .i64 τ] q t (.int .i64 (-1)) q t):T9 65 [.int .i64 (p:Nat),.int .i64 now] q t (.int .i64 5) q t:=by
 refine T9.mk (G6 F9 b65 rfl ?_) (fun x hx=>by
  simp only [List.mem_cons,List.not_mem_nil,or_false] at hx
  rcases hx with rfl|rfl<;>exact A8) A8
 have hov:=AL1 (x:=x)
 have hadd:=AK9 (x:=q.ins)
 unfold c65
 unfold stN stC
 subst hn
 clear hadd
 rcases hWT with ⟨z,hW,hT⟩ | ⟨hW,hT⟩
 ·(refine wx_Sxhn ?_;repeat' (first|with_reducible refine And.intro ?_ ?_|intro hsp))
  all_goals first|(exfalso;omega)|exact V9 rfl A8 rfl rfl rfl rfl rfl
 ·subst hT
  (refine wx_Sxhn ?_;repeat' (first|with_reducible refine And.intro ?_ ?_|intro hsp))
  all_goals first|(exfalso;omega)|exact V9 rfl A8 rfl rfl rfl rfl rfl
theorem w_touchE {p:Nat} {now τ y:Int} {x:Nat→Int} (hrng:q.a+q.n≤1024) (hci:0≤q.ins∧q.ins≤1000000000) (hL:LocL q t) (hy:opA q.free=y) (hWT:(∃ z,mgI t.W (p:Nat)=some ((-1:Int),τ,z)∧0≤τ)∨(mgI t.W (p:Nat)=none∧τ = -1)) (hD:(match mgI t.D τ with|some b=>b|none=>fun _=>0)=x) {f:Nat} {e:Int} {s1:Sy} {b1:Bool} (hn:y=(f:Nat)) (hkd:d9 42 [.int .i64 (f:Nat)] q.s.a (.tup [.int .i64 1,.bool b1,.int .i64 0]) q.s.a) (hcom:d9 93 [.int .i64 (f:Nat),.int .i64 1] q.s.a (.int .i64 e) s1.a) (he:e ≠ 0):T9 65 [.int .i64 (p:Nat),.int .i64 now] q t (.int .i64 e) { q with s:=s1 } t:=by
 refine T9.mk (G6 F9 b65 rfl ?_) (fun x hx=>by
  simp only [List.mem_cons,List.not_mem_nil,or_false] at hx
  rcases hx with rfl|rfl<;>exact A8) A8
 have hov:=AL1 (x:=x)
 have hadd:=AK9 (x:=q.ins)
 unfold c65
 unfold stN stC
 subst hn
 clear hadd
 rcases hWT with ⟨z,hW,hT⟩ | ⟨hW,hT⟩
 ·(refine wx_Sxhn ?_;repeat' (first|with_reducible refine And.intro ?_ ?_|intro hsp))
  all_goals first|(exfalso;omega)|exact V9 (q:={ q with s:=s1 }) rfl A8 rfl rfl rfl rfl rfl
 ·subst hT
  (refine wx_Sxhn ?_;repeat' (first|with_reducible refine And.intro ?_ ?_|intro hsp))
  all_goals first|(exfalso;omega)|exact V9 (q:={ q with s:=s1 }) rfl A8 rfl rfl rfl rfl rfl
theorem w_touchC {p:Nat} {now τ y:Int} {x:Nat→Int} (hrng:q.a+q.n≤1024) (hci:0≤q.ins∧q.ins≤1000000000) (hL:LocL q t) (hy:opA q.free=y) (hWT:(∃ z,mgI t.W (p:Nat)=some ((-1:Int),τ,z)∧0≤τ)∨(mgI t.W (p:Nat)=none∧τ = -1)) (hD:(match mgI t.D τ with|some b=>b|none=>fun _=>0)=x) {f:Nat} {s1:Sy} {b1:Bool} (hn:y=(f:Nat)) (hkd:d9 42 [.int .i64 (f:Nat)] q.s.a (.tup [.int .i64 1,.bool b1,.int .i64 0]) q.s.a) (hcom:d9 93 [.int .i64 (f:Nat),.int .i64 1] q.s.a (.int .i64 0) s1.a) (hset:∀ i,T9 94 [.int .i64 (f:Nat),.agg (bcA x)] { q with s:=s1,ins:=i } ⟨mpI t.W (p:Nat) ((f:Nat),-1,now),mdI t.D τ,mpI t.H (f:Nat) (p:Nat)⟩ (.tup []) { q with s:=s1.page f x,ins:=i } ⟨mpI t.W (p:Nat) ((f:Nat),-1,now),mdI t.D τ,mpI t.H (f:Nat) (p:Nat)⟩):T9 65 [.int .i64 (p:Nat),.int .i64 now] q t (.int .i64 0) (Af7 q s1 (if 0≤τ then AV2 q.ins else q.ins) p f now x) ⟨mpI t.W (p:Nat) ((f:Nat),-1,now),mdI t.D τ,mpI t.H (f:Nat) (p:Nat)⟩:=by
 refine T9.mk (G6 F9 b65 rfl ?_) (fun x hx=>by
  simp only [List.mem_cons,List.not_mem_nil,or_false] at hx
  rcases hx with rfl|rfl<;>exact A8) A8
 have hov:=AL1 (x:=x)
 have hadd:=AK9 (x:=q.ins)
 unfold c65
 unfold stN stC
 subst hn
 rcases hWT with ⟨z,hW,hT⟩ | ⟨hW,hT⟩
 ·rw [if_pos hT]
  (refine wx_Sxhn ?_;repeat' (first|with_reducible refine And.intro ?_ ?_|intro hsp))
  all_goals first|(exfalso;omega)|(simp only [hadd];exact V9 (q:=Af7 q s1 (AV2 q.ins) p f now x) (t:=⟨mpI t.W (p:Nat) ((f:Nat),-1,now),mdI t.D τ,mpI t.H (f:Nat) (p:Nat)⟩) rfl A8 rfl rfl rfl rfl rfl)|exact V9 (q:=Af7 q s1 (AV2 q.ins) p f now x) (t:=⟨mpI t.W (p:Nat) ((f:Nat),-1,now),mdI t.D τ,mpI t.H (f:Nat) (p:Nat)⟩) rfl A8 rfl rfl rfl rfl rfl
 ·subst hT
  rw [if_neg (by omega)]
  (refine wx_Sxhn ?_;repeat' (first|with_reducible refine And.intro ?_ ?_|intro hsp))
  all_goals first|(exfalso;omega)|(simp only [hadd];exact V9 (q:=Af7 q s1 q.ins p f now x) (t:=⟨mpI t.W (p:Nat) ((f:Nat),-1,now),mdI t.D (-1),mpI t.H (f:Nat) (p:Nat)⟩) rfl A8 rfl rfl rfl rfl rfl)|exact V9 (q:=Af7 q s1 q.ins p f now x) (t:=⟨mpI t.W (p:Nat) ((f:Nat),-1,now),mdI t.D (-1),mpI t.H (f:Nat) (p:Nat)⟩) rfl A8 rfl rfl rfl rfl rfl
theorem w_touchG {p:Nat} {now τ y:Int} {x:Nat→Int} (hrng:q.a+q.n≤1024) (hci:0≤q.ins∧q.ins≤1000000000) (hL:LocL q t) (hy:opA q.free=y) (hWT:(∃ z,mgI t.W (p:Nat)=some ((-1:Int),τ,z)∧0≤τ)∨(mgI t.W (p:Nat)=none∧τ = -1)) (hD:(match mgI t.D τ with|some b=>b|none=>fun _=>0)=x) {f:Nat} {b1:Bool} (hn:y=(f:Nat)) (hkd:d9 42 [.int .i64 (f:Nat)] q.s.a (.tup [.int .i64 2,.bool b1,.int .i64 0]) q.s.a) (hset:∀ i,T9 94 [.int .i64 (f:Nat),.agg (bcA x)] { q with ins:=i } ⟨mpI t.W (p:Nat) ((f:Nat),-1,now),mdI t.D τ,mpI t.H (f:Nat) (p:Nat)⟩ (.tup []) { q with s:=q.s.page f x,ins:=i } ⟨mpI t.W (p:Nat) ((f:Nat),-1,now),mdI t.D τ,mpI t.H (f:Nat) (p:Nat)⟩):T9 65 [.int .i64 (p:Nat),.int .i64 now] q t (.int .i64 0) (Af7 q q.s (if 0≤τ then AV2 q.ins else q.ins) p f now x) ⟨mpI t.W (p:Nat) ((f:Nat),-1,now),mdI t.D τ,mpI t.H (f:Nat) (p:Nat)⟩:=by
 refine T9.mk (G6 F9 b65 rfl ?_) (fun x hx=>by
  simp only [List.mem_cons,List.not_mem_nil,or_false] at hx
  rcases hx with rfl|rfl<;>exact A8) A8
 have hov:=AL1 (x:=x)
 have hadd:=AK9 (x:=q.ins)
 unfold c65
 unfold stN stC
 subst hn
 rcases hWT with ⟨z,hW,hT⟩ | ⟨hW,hT⟩
 ·rw [if_pos hT]
  (refine wx_Sxhn ?_;repeat' (first|with_reducible refine And.intro ?_ ?_|intro hsp))
  all_goals first|(exfalso;omega)|(simp only [hadd];exact V9 (q:=Af7 q q.s (AV2 q.ins) p f now x) (t:=⟨mpI t.W (p:Nat) ((f:Nat),-1,now),mdI t.D τ,mpI t.H (f:Nat) (p:Nat)⟩) rfl A8 rfl rfl rfl rfl rfl)|exact V9 (q:=Af7 q q.s (AV2 q.ins) p f now x) (t:=⟨mpI t.W (p:Nat) ((f:Nat),-1,now),mdI t.D τ,mpI t.H (f:Nat) (p:Nat)⟩) rfl A8 rfl rfl rfl rfl rfl
 ·subst hT
  rw [if_neg (by omega)]
  (refine wx_Sxhn ?_;repeat' (first|with_reducible refine And.intro ?_ ?_|intro hsp))
  all_goals first|(exfalso;omega)|(simp only [hadd];exact V9 (q:=Af7 q q.s q.ins p f now x) (t:=⟨mpI t.W (p:Nat) ((f:Nat),-1,now),mdI t.D (-1),mpI t.H (f:Nat) (p:Nat)⟩) rfl A8 rfl rfl rfl rfl rfl)|exact V9 (q:=Af7 q q.s q.ins p f now x) (t:=⟨mpI t.W (p:Nat) ((f:Nat),-1,now),mdI t.D (-1),mpI t.H (f:Nat) (p:Nat)⟩) rfl A8 rfl rfl rfl rfl rfl
theorem w_touchS {p:Nat} {now τ y:Int} {x:Nat→Int} (hrng:q.a+q.n≤1024) (hci:0≤q.ins∧q.ins≤1000000000) (hL:LocL q t) (hy:opA q.free=y) (hWT:(∃ z,mgI t.W (p:Nat)=some ((-1:Int),τ,z)∧0≤τ)∨(mgI t.W (p:Nat)=none∧τ = -1)) (hD:(match mgI t.D τ with|some b=>b|none=>fun _=>0)=x) {f v k:Nat} {tv zv:Int} {q1:Sw} (hci:0≤q1.ins∧q1.ins≤1000000000) (hn:y = -1) (hS:T9 68 [.int .i64 τ] q t (.int .i64 (k:Nat)) q t) (hV:T9 87 [] q ⟨t.W,mdI t.D τ,t.H⟩ (.int .i64 (v:Nat)) q ⟨t.W,mdI t.D τ,t.H⟩) (hO:T9 69 [.int .i64 (v:Nat),.int .i64 (k:Nat)] q ⟨t.W,mdI t.D τ,t.H⟩ (.tup []) q1 ⟨mpI t.W (v:Nat) (-1,(k:Nat),zv),mpI (mdI t.D τ) (k:Nat) (q.s.B f),mdI t.H (f:Nat)⟩) (hWv:mgI t.W (v:Nat)=some (((f:Nat):Int),tv,zv))
  (hset:∀ i,T9 94 [.int .i64 (f:Nat),.agg (bcA x)] { q1 with ins:=i } ⟨mpI (mpI t.W (v:Nat) (-1,(k:Nat),zv)) (p:Nat) ((f:Nat),-1,now),mpI (mdI t.D τ) (k:Nat) (q.s.B f),mpI (mdI t.H (f:Nat)) (f:Nat) (p:Nat)⟩ (.tup []) { q1 with s:=q1.s.page f x,ins:=i } ⟨mpI (mpI t.W (v:Nat) (-1,(k:Nat),zv)) (p:Nat) ((f:Nat),-1,now),mpI (mdI t.D τ) (k:Nat) (q.s.B f),mpI (mdI t.H (f:Nat)) (f:Nat) (p:Nat)⟩):T9 65 [.int .i64 (p:Nat),.int .i64 now] q t (.int .i64 0) (Af7 q1 q1.s (if 0≤τ then AV2 q1.ins else q1.ins) p f now x) ⟨mpI (mpI t.W (v:Nat) (-1,(k:Nat),zv)) (p:Nat) ((f:Nat),-1,now),mpI (mdI t.D τ) (k:Nat) (q.s.B f),mpI (mdI t.H (f:Nat)) (f:Nat) (p:Nat)⟩:=by
 refine T9.mk (G6 F9 b65 rfl ?_) (fun x hx=>by
  simp only [List.mem_cons,List.not_mem_nil,or_false] at hx
  rcases hx with rfl|rfl<;>exact A8) A8
 have hov:=AL1 (x:=x)
 have hadd:=AK9 (x:=q1.ins)
 unfold c65
 unfold stN stC
 subst hn
 rcases hWT with ⟨z,hW,hT⟩ | ⟨hW,hT⟩
 ·rw [if_pos hT]
  (refine wx_Sxhn ?_;repeat' (first|with_reducible refine And.intro ?_ ?_|intro hsp))
  all_goals first|(exfalso;omega)|(simp only [hadd];exact V9 (q:=Af7 q1 q1.s (AV2 q1.ins) p f now x) (t:=⟨mpI (mpI t.W (v:Nat) (-1,(k:Nat),zv)) (p:Nat) ((f:Nat),-1,now),mpI (mdI t.D τ) (k:Nat) (q.s.B f),mpI (mdI t.H (f:Nat)) (f:Nat) (p:Nat)⟩) rfl A8 rfl rfl rfl rfl rfl)|exact V9 (q:=Af7 q1 q1.s (AV2 q1.ins) p f now x) (t:=⟨mpI (mpI t.W (v:Nat) (-1,(k:Nat),zv)) (p:Nat) ((f:Nat),-1,now),mpI (mdI t.D τ) (k:Nat) (q.s.B f),mpI (mdI t.H (f:Nat)) (f:Nat) (p:Nat)⟩) rfl A8 rfl rfl rfl rfl rfl
 ·subst hT
  rw [if_neg (by omega)]
  (refine wx_Sxhn ?_;repeat' (first|with_reducible refine And.intro ?_ ?_|intro hsp))
  all_goals first|(exfalso;omega)|(simp only [hadd];exact V9 (q:=Af7 q1 q1.s q1.ins p f now x) (t:=⟨mpI (mpI t.W (v:Nat) (-1,(k:Nat),zv)) (p:Nat) ((f:Nat),-1,now),mpI (mdI t.D (-1)) (k:Nat) (q.s.B f),mpI (mdI t.H (f:Nat)) (f:Nat) (p:Nat)⟩) rfl A8 rfl rfl rfl rfl rfl)|exact V9 (q:=Af7 q1 q1.s q1.ins p f now x) (t:=⟨mpI (mpI t.W (v:Nat) (-1,(k:Nat),zv)) (p:Nat) ((f:Nat),-1,now),mpI (mdI t.D (-1)) (k:Nat) (q.s.B f),mpI (mdI t.H (f:Nat)) (f:Nat) (p:Nat)⟩) rfl A8 rfl rfl rfl rfl rfl
end
end Go.Proofs.YtbhgfoikbkaohaaGreat.Sh
