/-
 SnapshotBytes.
-/
import Derived.Test.YtphggldkligldaaGreatIh
set_option linter.unusedSimpArgs false
set_option linter.unusedVariables false
set_option maxHeartbeats 25600000
namespace Go.Pol
open Go.Am Go.Proofs.YtphggldkligldaaGreat.Sh
def ocF:Nat→List AV
 | 0=>[.nils,.nils,.nils,.nils,.nils,.nils,.nils,.nils]
 | 1=>[.sl 10 0 65536 65536 1,.nils,.nils,.nils,.nils,.nils,.nils,.nils]
 | 2=>[.sl 10 0 65536 65536 1,.sl 11 0 65536 65536 1,.nils,.nils,.nils,.nils,.nils,.nils]
 | 3=>[.sl 10 0 65536 65536 1,.sl 11 0 65536 65536 1,.sl 12 0 65536 65536 1,.nils,.nils,.nils,.nils,.nils]
 | 4=>[.sl 10 0 65536 65536 1,.sl 11 0 65536 65536 1,.sl 12 0 65536 65536 1,.sl 13 0 65536 65536 1,.nils,.nils,.nils,.nils]
 | 5=>[.sl 10 0 65536 65536 1,.sl 11 0 65536 65536 1,.sl 12 0 65536 65536 1,.sl 13 0 65536 65536 1,.sl 14 0 65536 65536 1,.nils,.nils,.nils]
 | 6=>[.sl 10 0 65536 65536 1,.sl 11 0 65536 65536 1,.sl 12 0 65536 65536 1,.sl 13 0 65536 65536 1,.sl 14 0 65536 65536 1,.sl 15 0 65536 65536 1,.nils,.nils]
 | 7=>[.sl 10 0 65536 65536 1,.sl 11 0 65536 65536 1,.sl 12 0 65536 65536 1,.sl 13 0 65536 65536 1,.sl 14 0 65536 65536 1,.sl 15 0 65536 65536 1,.sl 16 0 65536 65536 1,.nils]
 | _=>[.sl 10 0 65536 65536 1,.sl 11 0 65536 65536 1,.sl 12 0 65536 65536 1,.sl 13 0 65536 65536 1,.sl 14 0 65536 65536 1,.sl 15 0 65536 65536 1,.sl 16 0 65536 65536 1,.sl 17 0 65536 65536 1]
def ebF:Nat→List (Nat × AObj)
 | 0 => []
 | 1=>[(10,.cells (hsC fun _=>-1))]
 | 2=>[(10,.cells (hsC fun _=>-1)),(11,.cells (hsC fun _=>-1))]
 | 3=>[(10,.cells (hsC fun _=>-1)),(11,.cells (hsC fun _=>-1)),(12,.cells (hsC fun _=>-1))]
 | 4=>[(10,.cells (hsC fun _=>-1)),(11,.cells (hsC fun _=>-1)),(12,.cells (hsC fun _=>-1)),(13,.cells (hsC fun _=>-1))]
 | 5=>[(10,.cells (hsC fun _=>-1)),(11,.cells (hsC fun _=>-1)),(12,.cells (hsC fun _=>-1)),(13,.cells (hsC fun _=>-1)),(14,.cells (hsC fun _=>-1))]
 | 6=>[(10,.cells (hsC fun _=>-1)),(11,.cells (hsC fun _=>-1)),(12,.cells (hsC fun _=>-1)),(13,.cells (hsC fun _=>-1)),(14,.cells (hsC fun _=>-1)),(15,.cells (hsC fun _=>-1))]
 | 7=>[(10,.cells (hsC fun _=>-1)),(11,.cells (hsC fun _=>-1)),(12,.cells (hsC fun _=>-1)),(13,.cells (hsC fun _=>-1)),(14,.cells (hsC fun _=>-1)),(15,.cells (hsC fun _=>-1)),(16,.cells (hsC fun _=>-1))]
 | _=>[(10,.cells (hsC fun _=>-1)),(11,.cells (hsC fun _=>-1)),(12,.cells (hsC fun _=>-1)),(13,.cells (hsC fun _=>-1)),(14,.cells (hsC fun _=>-1)),(15,.cells (hsC fun _=>-1)),(16,.cells (hsC fun _=>-1)),(17,.cells (hsC fun _=>-1))]
theorem oc_0:ocF 0=[.nils,.nils,.nils,.nils,.nils,.nils,.nils,.nils]:=rfl
theorem eb_0:ebF 0=[]:=rfl
theorem oc_1:ocF 1=[.sl 10 0 65536 65536 1,.nils,.nils,.nils,.nils,.nils,.nils,.nils]:=rfl
theorem eb_1:ebF 1=[(10,.cells (hsC fun _=>-1))]:=rfl
theorem oc_2:ocF 2=[.sl 10 0 65536 65536 1,.sl 11 0 65536 65536 1,.nils,.nils,.nils,.nils,.nils,.nils]:=rfl
theorem eb_2:ebF 2=[(10,.cells (hsC fun _=>-1)),(11,.cells (hsC fun _=>-1))]:=rfl
theorem oc_3:ocF 3=[.sl 10 0 65536 65536 1,.sl 11 0 65536 65536 1,.sl 12 0 65536 65536 1,.nils,.nils,.nils,.nils,.nils]:=rfl
theorem eb_3:ebF 3=[(10,.cells (hsC fun _=>-1)),(11,.cells (hsC fun _=>-1)),(12,.cells (hsC fun _=>-1))]:=rfl
theorem oc_4:ocF 4=[.sl 10 0 65536 65536 1,.sl 11 0 65536 65536 1,.sl 12 0 65536 65536 1,.sl 13 0 65536 65536 1,.nils,.nils,.nils,.nils]:=rfl
theorem eb_4:ebF 4=[(10,.cells (hsC fun _=>-1)),(11,.cells (hsC fun _=>-1)),(12,.cells (hsC fun _=>-1)),(13,.cells (hsC fun _=>-1))]:=rfl
theorem oc_5:ocF 5=[.sl 10 0 65536 65536 1,.sl 11 0 65536 65536 1,.sl 12 0 65536 65536 1,.sl 13 0 65536 65536 1,.sl 14 0 65536 65536 1,.nils,.nils,.nils]:=rfl
theorem eb_5:ebF 5=[(10,.cells (hsC fun _=>-1)),(11,.cells (hsC fun _=>-1)),(12,.cells (hsC fun _=>-1)),(13,.cells (hsC fun _=>-1)),(14,.cells (hsC fun _=>-1))]:=rfl
theorem oc_6:ocF 6=[.sl 10 0 65536 65536 1,.sl 11 0 65536 65536 1,.sl 12 0 65536 65536 1,.sl 13 0 65536 65536 1,.sl 14 0 65536 65536 1,.sl 15 0 65536 65536 1,.nils,.nils]:=rfl
theorem eb_6:ebF 6=[(10,.cells (hsC fun _=>-1)),(11,.cells (hsC fun _=>-1)),(12,.cells (hsC fun _=>-1)),(13,.cells (hsC fun _=>-1)),(14,.cells (hsC fun _=>-1)),(15,.cells (hsC fun _=>-1))]:=rfl
theorem oc_7:ocF 7=[.sl 10 0 65536 65536 1,.sl 11 0 65536 65536 1,.sl 12 0 65536 65536 1,.sl 13 0 65536 65536 1,.sl 14 0 65536 65536 1,.sl 15 0 65536 65536 1,.sl 16 0 65536 65536 1,.nils]:=rfl
theorem eb_7:ebF 7=[(10,.cells (hsC fun _=>-1)),(11,.cells (hsC fun _=>-1)),(12,.cells (hsC fun _=>-1)),(13,.cells (hsC fun _=>-1)),(14,.cells (hsC fun _=>-1)),(15,.cells (hsC fun _=>-1)),(16,.cells (hsC fun _=>-1))]:=rfl
theorem oc_8:ocF 8=[.sl 10 0 65536 65536 1,.sl 11 0 65536 65536 1,.sl 12 0 65536 65536 1,.sl 13 0 65536 65536 1,.sl 14 0 65536 65536 1,.sl 15 0 65536 65536 1,.sl 16 0 65536 65536 1,.sl 17 0 65536 65536 1]:=rfl
theorem eb_8:ebF 8=[(10,.cells (hsC fun _=>-1)),(11,.cells (hsC fun _=>-1)),(12,.cells (hsC fun _=>-1)),(13,.cells (hsC fun _=>-1)),(14,.cells (hsC fun _=>-1)),(15,.cells (hsC fun _=>-1)),(16,.cells (hsC fun _=>-1)),(17,.cells (hsC fun _=>-1))]:=rfl
theorem hs_new {b:Bk} (h:b.L=[]):HsB b fun _ _=>-1:=fun k p _ _=>by
 unfold Bk.hs Bk.rd
 rw [show Q6 b.L k (p / 64)=none by rw [h];rfl]
 rfl
structure ByG (b:Bk) (t:TS) (H:Nat→Nat→Int):Prop where
 good:H6 b
 own:AQ5 b
 by_:ByS b.s
 tok:TOk b.L t
 hs:HsB b H
theorem key_x {P G:Prop} (k:P) (m:X5 P→G):G:=m ⟨k⟩
theorem hs_lt {b:Bk} (hb:ByS b.s) {k p:Nat}:b.hs k p < 256:=by
 unfold Bk.hs
 cases h:b.rd k (p / 64) (p % 64) with
 | none=>show (-1:Int) < 256;decide
 | some v=>exact (rd_by hb h).2
theorem fol_in {H H':Nat→Nat→Int} {w:Nat} {x y t v:Int} (h:fol H w x y t v=some H') (hw:w < 3):inR 1024 y:=by
 unfold fol at h
 rw [if_neg (by omega)] at h
 by_cases ha:¬ inR 8 x
 ·rw [if_pos ha] at h;cases h
 rw [if_neg ha,if_pos hw] at h
 by_cases hc:¬ inR 1024 y∨¬ (H x.toNat (y.toNat * 64) < 0 ↔ w < 2)
 ·rw [if_pos hc] at h;cases h
 ·exact Classical.byContradiction fun h=>hc (.inl h)
end Go.Pol
namespace Go.Proofs.YtphggldkligldaaGreat.Sh
open Go Go.Am Go.Pol
open Go.Proofs.YtphggldkligldaaGreat.Sh renaming plx_Id → plx
open Go.Proofs.YtphggldkligldaaGreat.Sh renaming ppx_Id → ppx
theorem wx_Ii {p q:Prop} (hq:q) (h:X5 q→p:=by (intro hQz;((repeat' ((try (conv=>whnf));first|refine sxA ?_|refine AI0 (d:=dA) acE_len (by first|assumption|omega) (by with_reducible assumption) ?_|refine AC7 (by with_reducible assumption) ?_|refine G5 (hg) ?_|refine sxF ?_|refine O5 (by assumption) ?_|refine cx_BE hb ?_|refine cx_BB hb ?_|refine cx_Em ?_|refine cx_A ha rfl rfl rfl rfl rfl rfl rfl rfl (by decide) rfl ?_|refine cx_F hf rfl rfl rfl rfl rfl rfl rfl rfl rfl (by decide) rfl rfl rfl rfl rfl rfl rfl rfl rfl ?_|refine AI2 hr rfl rfl rfl rfl rfl rfl rfl rfl (by decide) rfl ?_|refine sxH ?_|((with_reducible first|apply N9 hQz|apply O1 hQz)<;>(try intro hsp hQz))|exact hQz.out))<;>(try (conv=>whnf))))):p:=h ⟨hq⟩
set_option maxRecDepth 400000 in
theorem k_bytes {p:Py} (hl:p.X.length≤maxLen) (hw:∀ x ∈ p.X,0≤x.w∧0≤x.v∧x.v < 256):M5 3 [.agg (pyE p)] (.bool true):=by
 obtain ⟨fb,hfar,hok⟩:=k_far p hl
 have hsh:=k_shown
 refine M5.mk (V7 E9 b3 I7 ⟨AK0 p,trivial⟩ A9 rfl ?_)
 unfold c3
 cases fb with
 | true =>
  unfold pyE at hfar ⊢
  (refine wx_Ii ?_;repeat' (first|with_reducible refine And.intro ?_ ?_|intro hsp))
  all_goals first|exact Y3 rfl|(exfalso;omega)
 | false =>
  have hok:=hok rfl
  rcases l_begun p with ⟨e,he,hb⟩ | ⟨e,ds,he,hb⟩ | ⟨h1,h2,h3,hb⟩
  ·unfold pyE at hfar hb ⊢
   (refine wx_Ii ?_;repeat' (first|with_reducible refine And.intro ?_ ?_|intro hsp))
   all_goals first|exact Y3 rfl|(exfalso;omega)
  ·unfold pyE at hfar hb ⊢
   (refine wx_Ii ?_;repeat' (first|with_reducible refine And.intro ?_ ?_|intro hsp))
   all_goals first|exact Y3 rfl|(exfalso;omega)
  ·obtain ⟨g1,-,g3,g4,-⟩:=py_good h1 h2 h3
   have hG0:ByG p.b T0 fun _ _=>-1:=⟨g1,g3,g4,tok_0,hs_new rfl⟩
   have h40:=hok.1
   unfold pyE at hfar hb ⊢
   clear g1 g3 g4
   generalize p.b=b0 at *
   generalize T0=t0 at *
   (refine wx_Ii ?_;repeat' (first|with_reducible refine And.intro ?_ ?_|intro hsp))
   (refine F6 [1,3,4,6] (fun (k:Nat)=>[(7,.int .i64 (k:Nat))]) (fun (k:Nat)=>⟨[(0,.cells [.int .i64 p.a,.int .i64 p.n,.isl (p.l.map rlA),.isl (p.X.map acE)])]++bkN b0 t0 1 2 3 4 5 6 7 8++[(9,.cells (ocF k))]++ebF k,10+k⟩) (fun (k:Nat)=>k≤8) (fun (k:Nat)=>8 - k) (0) [] rfl (fun _=>by first|exact Nat.zero_le _|(dsimp only;omega)) ?_ (by ((try (conv=>whnf));(rw [oc_0,eb_0]);exact F9)) ?_)
   ·exact Nat.zero_le _
   intro k hk
   rcases (show k=0∨k=1∨k=2∨k=3∨k=4∨k=5∨k=6∨k=7∨k=8 by omega) with rfl|rfl|rfl|rfl|rfl|rfl|rfl|rfl|rfl
   ·as_aux_lemma =>
     rw [oc_0,eb_0]
     unfold bkN rdN
     (refine wx_Ii ?_;repeat' (first|with_reducible refine And.intro ?_ ?_|intro hsp))
     all_goals first|(exfalso;omega)|exact F3 (1) [] (by (try dsimp only);omega) (by first|omega|(dsimp only;omega)) rfl (by ((try dsimp only);rw [oc_1,eb_1]);exact F9)
   ·as_aux_lemma =>
     rw [oc_1,eb_1]
     unfold bkN rdN
     (refine wx_Ii ?_;repeat' (first|with_reducible refine And.intro ?_ ?_|intro hsp))
     all_goals first|(exfalso;omega)|exact F3 (2) [] (by (try dsimp only);omega) (by first|omega|(dsimp only;omega)) rfl (by ((try dsimp only);rw [oc_2,eb_2]);exact F9)
   ·as_aux_lemma =>
     rw [oc_2,eb_2]
     unfold bkN rdN
     (refine wx_Ii ?_;repeat' (first|with_reducible refine And.intro ?_ ?_|intro hsp))
     all_goals first|(exfalso;omega)|exact F3 (3) [] (by (try dsimp only);omega) (by first|omega|(dsimp only;omega)) rfl (by ((try dsimp only);rw [oc_3,eb_3]);exact F9)
   ·as_aux_lemma =>
     rw [oc_3,eb_3]
     unfold bkN rdN
     (refine wx_Ii ?_;repeat' (first|with_reducible refine And.intro ?_ ?_|intro hsp))
     all_goals first|(exfalso;omega)|exact F3 (4) [] (by (try dsimp only);omega) (by first|omega|(dsimp only;omega)) rfl (by ((try dsimp only);rw [oc_4,eb_4]);exact F9)
   ·as_aux_lemma =>
     rw [oc_4,eb_4]
     unfold bkN rdN
     (refine wx_Ii ?_;repeat' (first|with_reducible refine And.intro ?_ ?_|intro hsp))
     all_goals first|(exfalso;omega)|exact F3 (5) [] (by (try dsimp only);omega) (by first|omega|(dsimp only;omega)) rfl (by ((try dsimp only);rw [oc_5,eb_5]);exact F9)
   ·as_aux_lemma =>
     rw [oc_5,eb_5]
     unfold bkN rdN
     (refine wx_Ii ?_;repeat' (first|with_reducible refine And.intro ?_ ?_|intro hsp))
     all_goals first|(exfalso;omega)|exact F3 (6) [] (by (try dsimp only);omega) (by first|omega|(dsimp only;omega)) rfl (by ((try dsimp only);rw [oc_6,eb_6]);exact F9)
   ·as_aux_lemma =>
     rw [oc_6,eb_6]
     unfold bkN rdN
     (refine wx_Ii ?_;repeat' (first|with_reducible refine And.intro ?_ ?_|intro hsp))
     all_goals first|(exfalso;omega)|exact F3 (7) [] (by (try dsimp only);omega) (by first|omega|(dsimp only;omega)) rfl (by ((try dsimp only);rw [oc_7,eb_7]);exact F9)
   ·as_aux_lemma =>
     rw [oc_7,eb_7]
     unfold bkN rdN
     (refine wx_Ii ?_;repeat' (first|with_reducible refine And.intro ?_ ?_|intro hsp))
     all_goals first|(exfalso;omega)|exact F3 (8) [] (by (try dsimp only);omega) (by first|omega|(dsimp only;omega)) rfl (by ((try dsimp only);rw [oc_8,eb_8]);exact F9)
   ·rw [oc_8,eb_8]
    unfold bkN rdN
    (refine wx_Ii ?_;repeat' (first|with_reducible refine And.intro ?_ ?_|intro hsp))
    (refine F6 [1,3,4,6] (fun (q:Nat × Bk × TS × (Nat→Nat→Int))=>[(8,.int .i64 (q.1:Nat))]) (fun (q:Nat × Bk × TS × (Nat→Nat→Int))=>⟨[(0,.cells [.int .i64 p.a,.int .i64 p.n,.isl (p.l.map rlA),.isl (p.X.map acE)])]++bkN q.2.1 q.2.2.1 1 2 3 4 5 6 7 8++hsN q.2.2.2 9 10 11 12 13 14 15 16 17,18⟩) (fun (q:Nat × Bk × TS × (Nat→Nat→Int))=>q.1≤p.X.length∧ByG q.2.1 q.2.2.1 q.2.2.2) (fun (q:Nat × Bk × TS × (Nat→Nat→Int))=>p.X.length - q.1) ((0,b0,t0,fun _ _=>-1)) [] rfl (fun _=>by first|exact Nat.zero_le _|(dsimp only;omega)) ?_ (by ((try (conv=>whnf));exact F9)) ?_)
    ·exact ⟨Nat.zero_le _,hG0⟩
    clear hG0 hb hfar
    rintro ⟨i,b,t,H⟩ ⟨hi,hG⟩
    dsimp only at hi hG ⊢
    by_cases hil:i < p.X.length
    ·obtain ⟨hw0,hv⟩:=hw _ (AD4 (d:=dA) hil)
     have hm:(nth dA p.X i).w.tmod 14=(((nth dA p.X i).w.toNat % 14:Nat):Int):=by rw [Int.tmod_eq_emod_of_nonneg hw0];omega
     clear hw
     generalize hx:nth dA p.X i=x at *
     obtain ⟨w,hwe⟩:∃ w,w=x.w.toNat % 14:=⟨_,rfl⟩
     rw [← hwe] at hm
     have hwl:w < 14:=by rw [hwe];exact Nat.mod_lt _ (by decide)
     by_cases c7:7 < x.a
     ·unfold bkN rdN hsN
      clear hwe
      (refine wx_Ii ?_;repeat' (first|with_reducible refine And.intro ?_ ?_|intro hsp))
      all_goals first|(exfalso;omega)|exact F3 ((i+1,b,t,H)) [] ⟨hil,hG⟩ (by first|omega|(dsimp only;omega)) rfl (by exact F9)
     by_cases c35:(w=3∨w=5)∧7 < x.b
     ·unfold bkN rdN hsN
      clear hwe
      (refine wx_Ii ?_;repeat' (first|with_reducible refine And.intro ?_ ?_|intro hsp))
      all_goals first|(exfalso;omega)|exact F3 ((i+1,b,t,H)) [] ⟨hil,hG⟩ (by first|omega|(dsimp only;omega)) rfl (by exact F9)
     obtain ⟨t',ht',ha⟩:=l_alone hG.good hG.tok x hw0
     have hg':H6 (b.al x).2:=by exact call_good hG.good _ _ _ _ _ _
     have ho':AQ5 (b.al x).2:=by exact call_own hG.good hG.own _ _ _ _ _ _
     have hb':ByS (b.al x).2.s:=by exact call_by hG.by_ _ _ _ _ _ hv _
     have hal:b.al x=b.call w x.a x.b x.t x.v x.l:=by rw [hwe];rfl
     by_cases he:(b.al x).1=0
     ·have hfo:=fol_ok hG.good hG.own hG.by_ hG.hs (w:=w) (x:=x.a) (y:=x.b) (t:=x.t) (v:=x.v) (l:=x.l) (by omega) (fun h=>by omega) (by rw [← hal];exact he)
      obtain ⟨H',hf,hH'⟩:=hfo
      rw [← hal] at hH'
      obtain ⟨H2,h2,hfw⟩:=l_follow hw0 hwe hv hf
      have hG2:ByG (b.al x).2 t' H2:=⟨hg',ho',hb',ht',hs_congr h2 hH'⟩
      rw [he] at ha
      have h3:=fol_in hf
      clear hH' h2 hf hal hg' ho' hb' ht' he hwe hG
      generalize (b.al x).2=b2 at *
      by_cases c3:w < 3
      ·obtain ⟨tp,ek,hk⟩:=AF8 (h3 c3)
       clear h3
       refine key_x ?_ (fun key=>by
        unfold bkN rdN hsN
        rcases hfw with hf|hf|hf|hf|hf|hf|hf|hf|hf
        ·(refine wx_Ii ?_;repeat' (first|with_reducible refine And.intro ?_ ?_|intro hsp))
         all_goals first|(exfalso;omega)|skip
         all_goals
          (refine F6 [1,3,4,6,8,10] (fun (j:Nat)=>[(11,.int .i64 (j:Nat))]) (fun (j:Nat)=>⟨[(0,.cells [.int .i64 p.a,.int .i64 p.n,.isl (p.l.map rlA),.isl (p.X.map acE)])]++bkN b2 t' 1 2 3 4 5 6 7 8++hsN H2 9 10 11 12 13 14 15 16 17,18⟩) (fun (j:Nat)=>j≤8) (fun (j:Nat)=>8 - j) (0) [] rfl (fun _=>by first|exact Nat.zero_le _|(dsimp only;omega)) ?_ (by ((try (conv=>whnf));exact F9)) ?_)
          ·exact Nat.zero_le _
          (conv=>whnf);exact key.out
        ·as_aux_lemma =>
          (refine wx_Ii ?_;repeat' (first|with_reducible refine And.intro ?_ ?_|intro hsp))
          all_goals first|(exfalso;omega)|skip
          all_goals
           (refine F6 [1,3,4,6,8,10] (fun (j:Nat)=>[(11,.int .i64 (j:Nat))]) (fun (j:Nat)=>⟨[(0,.cells [.int .i64 p.a,.int .i64 p.n,.isl (p.l.map rlA),.isl (p.X.map acE)])]++bkN b2 t' 1 2 3 4 5 6 7 8++hsN H2 9 10 11 12 13 14 15 16 17,18⟩) (fun (j:Nat)=>j≤8) (fun (j:Nat)=>8 - j) (0) [(10,19)] rfl (fun _=>by first|exact Nat.zero_le _|(dsimp only;omega)) ?_ (by ((try (conv=>whnf));exact F9)) ?_)
           ·exact Nat.zero_le _
           (conv=>whnf);exact key.out
        ·as_aux_lemma =>
          (refine wx_Ii ?_;repeat' (first|with_reducible refine And.intro ?_ ?_|intro hsp))
          all_goals first|(exfalso;omega)|skip
          all_goals
           (refine F6 [1,3,4,6,8,10] (fun (j:Nat)=>[(11,.int .i64 (j:Nat))]) (fun (j:Nat)=>⟨[(0,.cells [.int .i64 p.a,.int .i64 p.n,.isl (p.l.map rlA),.isl (p.X.map acE)])]++bkN b2 t' 1 2 3 4 5 6 7 8++hsN H2 9 10 11 12 13 14 15 16 17,18⟩) (fun (j:Nat)=>j≤8) (fun (j:Nat)=>8 - j) (0) [(11,19)] rfl (fun _=>by first|exact Nat.zero_le _|(dsimp only;omega)) ?_ (by ((try (conv=>whnf));exact F9)) ?_)
           ·exact Nat.zero_le _
           (conv=>whnf);exact key.out
        ·as_aux_lemma =>
          (refine wx_Ii ?_;repeat' (first|with_reducible refine And.intro ?_ ?_|intro hsp))
          all_goals first|(exfalso;omega)|skip
          all_goals
           (refine F6 [1,3,4,6,8,10] (fun (j:Nat)=>[(11,.int .i64 (j:Nat))]) (fun (j:Nat)=>⟨[(0,.cells [.int .i64 p.a,.int .i64 p.n,.isl (p.l.map rlA),.isl (p.X.map acE)])]++bkN b2 t' 1 2 3 4 5 6 7 8++hsN H2 9 10 11 12 13 14 15 16 17,18⟩) (fun (j:Nat)=>j≤8) (fun (j:Nat)=>8 - j) (0) [(12,19)] rfl (fun _=>by first|exact Nat.zero_le _|(dsimp only;omega)) ?_ (by ((try (conv=>whnf));exact F9)) ?_)
           ·exact Nat.zero_le _
           (conv=>whnf);exact key.out
        ·as_aux_lemma =>
          (refine wx_Ii ?_;repeat' (first|with_reducible refine And.intro ?_ ?_|intro hsp))
          all_goals first|(exfalso;omega)|skip
          all_goals
           (refine F6 [1,3,4,6,8,10] (fun (j:Nat)=>[(11,.int .i64 (j:Nat))]) (fun (j:Nat)=>⟨[(0,.cells [.int .i64 p.a,.int .i64 p.n,.isl (p.l.map rlA),.isl (p.X.map acE)])]++bkN b2 t' 1 2 3 4 5 6 7 8++hsN H2 9 10 11 12 13 14 15 16 17,18⟩) (fun (j:Nat)=>j≤8) (fun (j:Nat)=>8 - j) (0) [(13,19)] rfl (fun _=>by first|exact Nat.zero_le _|(dsimp only;omega)) ?_ (by ((try (conv=>whnf));exact F9)) ?_)
           ·exact Nat.zero_le _
           (conv=>whnf);exact key.out
        ·as_aux_lemma =>
          (refine wx_Ii ?_;repeat' (first|with_reducible refine And.intro ?_ ?_|intro hsp))
          all_goals first|(exfalso;omega)|skip
          all_goals
           (refine F6 [1,3,4,6,8,10] (fun (j:Nat)=>[(11,.int .i64 (j:Nat))]) (fun (j:Nat)=>⟨[(0,.cells [.int .i64 p.a,.int .i64 p.n,.isl (p.l.map rlA),.isl (p.X.map acE)])]++bkN b2 t' 1 2 3 4 5 6 7 8++hsN H2 9 10 11 12 13 14 15 16 17,18⟩) (fun (j:Nat)=>j≤8) (fun (j:Nat)=>8 - j) (0) [(14,19)] rfl (fun _=>by first|exact Nat.zero_le _|(dsimp only;omega)) ?_ (by ((try (conv=>whnf));exact F9)) ?_)
           ·exact Nat.zero_le _
           (conv=>whnf);exact key.out
        ·as_aux_lemma =>
          (refine wx_Ii ?_;repeat' (first|with_reducible refine And.intro ?_ ?_|intro hsp))
          all_goals first|(exfalso;omega)|skip
          all_goals
           (refine F6 [1,3,4,6,8,10] (fun (j:Nat)=>[(11,.int .i64 (j:Nat))]) (fun (j:Nat)=>⟨[(0,.cells [.int .i64 p.a,.int .i64 p.n,.isl (p.l.map rlA),.isl (p.X.map acE)])]++bkN b2 t' 1 2 3 4 5 6 7 8++hsN H2 9 10 11 12 13 14 15 16 17,18⟩) (fun (j:Nat)=>j≤8) (fun (j:Nat)=>8 - j) (0) [(15,19)] rfl (fun _=>by first|exact Nat.zero_le _|(dsimp only;omega)) ?_ (by ((try (conv=>whnf));exact F9)) ?_)
           ·exact Nat.zero_le _
           (conv=>whnf);exact key.out
        ·as_aux_lemma =>
          (refine wx_Ii ?_;repeat' (first|with_reducible refine And.intro ?_ ?_|intro hsp))
          all_goals first|(exfalso;omega)|skip
          all_goals
           (refine F6 [1,3,4,6,8,10] (fun (j:Nat)=>[(11,.int .i64 (j:Nat))]) (fun (j:Nat)=>⟨[(0,.cells [.int .i64 p.a,.int .i64 p.n,.isl (p.l.map rlA),.isl (p.X.map acE)])]++bkN b2 t' 1 2 3 4 5 6 7 8++hsN H2 9 10 11 12 13 14 15 16 17,18⟩) (fun (j:Nat)=>j≤8) (fun (j:Nat)=>8 - j) (0) [(16,19)] rfl (fun _=>by first|exact Nat.zero_le _|(dsimp only;omega)) ?_ (by ((try (conv=>whnf));exact F9)) ?_)
           ·exact Nat.zero_le _
           (conv=>whnf);exact key.out
        ·as_aux_lemma =>
          (refine wx_Ii ?_;repeat' (first|with_reducible refine And.intro ?_ ?_|intro hsp))
          all_goals first|(exfalso;omega)|skip
          all_goals
           (refine F6 [1,3,4,6,8,10] (fun (j:Nat)=>[(11,.int .i64 (j:Nat))]) (fun (j:Nat)=>⟨[(0,.cells [.int .i64 p.a,.int .i64 p.n,.isl (p.l.map rlA),.isl (p.X.map acE)])]++bkN b2 t' 1 2 3 4 5 6 7 8++hsN H2 9 10 11 12 13 14 15 16 17,18⟩) (fun (j:Nat)=>j≤8) (fun (j:Nat)=>8 - j) (0) [(17,19)] rfl (fun _=>by first|exact Nat.zero_le _|(dsimp only;omega)) ?_ (by ((try (conv=>whnf));exact F9)) ?_)
           ·exact Nat.zero_le _
           (conv=>whnf);exact key.out)
       have tq:(tp:Int) * 64=((tp * 64:Nat):Int):=by omega
       intro j hj
       by_cases hj8:j < 8
       ·have hp:tp * 64 < 65536:=by omega
        obtain ⟨P,hP⟩:∃ P,P=tp * 64:=⟨_,rfl⟩
        have ht:inR 65536 (P:Nat):=⟨by omega,by omega⟩
        have eP:(tp:Int) * 64=(P:Nat):=by omega
        have eP2:x.b * 64=((P:Nat):Int):=by rw [ek];exact eP
        rw [eP2]
        have hr:=BR1 hG2.tok (j:Nat) (P:Nat)
        obtain ⟨r1,r2⟩:=read_hs hG2.good hG2.by_ (k:=j) (t:=(P:Nat)) hj8 ht
        rw [Int.toNat_natCast] at r1 r2
        have e1:=hG2.hs j P hj8 (by omega)
        have e2:=hs_lt hG2.by_ (k:=j) (p:=P)
        rw [← e1] at r1 r2 e2
        have hg:=W9 (f:=H2 j) (p:=P) (by omega)
        obtain ⟨j1,hj1⟩:∃ j1,j1=j+1:=⟨_,rfl⟩
        unfold bkN rdN hsN
        clear e1
        generalize (b2.read (j:Nat) (P:Nat)).1=v at *
        generalize (b2.read (j:Nat) (P:Nat)).2=e at *
        by_cases he0:e=0
        ·have rv:=r2 he0
         have rn:=r1.1 he0
         have hcv:IntKind.i16.wrap v=v:=wrap16 ⟨by omega,by omega⟩
         rcases (show j=0∨j=1∨j=2∨j=3∨j=4∨j=5∨j=6∨j=7 by omega) with rfl|rfl|rfl|rfl|rfl|rfl|rfl|rfl
         all_goals as_aux_lemma =>
          (refine wx_Ii ?_;repeat' (first|with_reducible refine And.intro ?_ ?_|intro hsp))
          all_goals first|(exfalso;omega)|(exfalso;simp [he0,rn] at hsp;done)|(exfalso;simp at hsp;omega)|exact F3 (j1) [] (by (try dsimp only);omega) (by first|omega|(dsimp only;omega)) rfl (by exact F9)
        ·have rn:H2 j P < 0:=by omega
         rcases (show j=0∨j=1∨j=2∨j=3∨j=4∨j=5∨j=6∨j=7 by omega) with rfl|rfl|rfl|rfl|rfl|rfl|rfl|rfl
         all_goals as_aux_lemma =>
          (refine wx_Ii ?_;repeat' (first|with_reducible refine And.intro ?_ ?_|intro hsp))
          all_goals first|(exfalso;omega)|(exfalso;simp [he0] at hsp;omega)|(exfalso;simp at hsp;omega)|exact F3 (j1) [] (by (try dsimp only);omega) (by first|omega|(dsimp only;omega)) rfl (by exact F9)
       ·unfold bkN rdN hsN
        (refine wx_Ii ?_;repeat' (first|with_reducible refine And.intro ?_ ?_|intro hsp))
        all_goals first|(exfalso;omega)|exact F3 ((i+1,b2,t',H2)) [] ⟨hil,hG2⟩ (by first|omega|(dsimp only;omega)) rfl (by exact F9)
      ·clear h3
       refine key_x ?_ (fun key=>by
        unfold bkN rdN hsN
        rcases hfw with hf|hf|hf|hf|hf|hf|hf|hf|hf
        ·(refine wx_Ii ?_;repeat' (first|with_reducible refine And.intro ?_ ?_|intro hsp))
         all_goals first|(exfalso;omega)|skip
         all_goals
          (refine F6 [1,3,4,6,8,10] (fun (j:Nat)=>[(11,.int .i64 (j:Nat))]) (fun (j:Nat)=>⟨[(0,.cells [.int .i64 p.a,.int .i64 p.n,.isl (p.l.map rlA),.isl (p.X.map acE)])]++bkN b2 t' 1 2 3 4 5 6 7 8++hsN H2 9 10 11 12 13 14 15 16 17,18⟩) (fun (j:Nat)=>j≤8) (fun (j:Nat)=>8 - j) (0) [] rfl (fun _=>by first|exact Nat.zero_le _|(dsimp only;omega)) ?_ (by ((try (conv=>whnf));exact F9)) ?_)
          ·exact Nat.zero_le _
          (conv=>whnf);exact key.out
        ·as_aux_lemma =>
          (refine wx_Ii ?_;repeat' (first|with_reducible refine And.intro ?_ ?_|intro hsp))
          all_goals first|(exfalso;omega)|skip
          all_goals
           (refine F6 [1,3,4,6,8,10] (fun (j:Nat)=>[(11,.int .i64 (j:Nat))]) (fun (j:Nat)=>⟨[(0,.cells [.int .i64 p.a,.int .i64 p.n,.isl (p.l.map rlA),.isl (p.X.map acE)])]++bkN b2 t' 1 2 3 4 5 6 7 8++hsN H2 9 10 11 12 13 14 15 16 17,18⟩) (fun (j:Nat)=>j≤8) (fun (j:Nat)=>8 - j) (0) [(10,19)] rfl (fun _=>by first|exact Nat.zero_le _|(dsimp only;omega)) ?_ (by ((try (conv=>whnf));exact F9)) ?_)
           ·exact Nat.zero_le _
           (conv=>whnf);exact key.out
        ·as_aux_lemma =>
          (refine wx_Ii ?_;repeat' (first|with_reducible refine And.intro ?_ ?_|intro hsp))
          all_goals first|(exfalso;omega)|skip
          all_goals
           (refine F6 [1,3,4,6,8,10] (fun (j:Nat)=>[(11,.int .i64 (j:Nat))]) (fun (j:Nat)=>⟨[(0,.cells [.int .i64 p.a,.int .i64 p.n,.isl (p.l.map rlA),.isl (p.X.map acE)])]++bkN b2 t' 1 2 3 4 5 6 7 8++hsN H2 9 10 11 12 13 14 15 16 17,18⟩) (fun (j:Nat)=>j≤8) (fun (j:Nat)=>8 - j) (0) [(11,19)] rfl (fun _=>by first|exact Nat.zero_le _|(dsimp only;omega)) ?_ (by ((try (conv=>whnf));exact F9)) ?_)
           ·exact Nat.zero_le _
           (conv=>whnf);exact key.out
        ·as_aux_lemma =>
          (refine wx_Ii ?_;repeat' (first|with_reducible refine And.intro ?_ ?_|intro hsp))
          all_goals first|(exfalso;omega)|skip
          all_goals
           (refine F6 [1,3,4,6,8,10] (fun (j:Nat)=>[(11,.int .i64 (j:Nat))]) (fun (j:Nat)=>⟨[(0,.cells [.int .i64 p.a,.int .i64 p.n,.isl (p.l.map rlA),.isl (p.X.map acE)])]++bkN b2 t' 1 2 3 4 5 6 7 8++hsN H2 9 10 11 12 13 14 15 16 17,18⟩) (fun (j:Nat)=>j≤8) (fun (j:Nat)=>8 - j) (0) [(12,19)] rfl (fun _=>by first|exact Nat.zero_le _|(dsimp only;omega)) ?_ (by ((try (conv=>whnf));exact F9)) ?_)
           ·exact Nat.zero_le _
           (conv=>whnf);exact key.out
        ·as_aux_lemma =>
          (refine wx_Ii ?_;repeat' (first|with_reducible refine And.intro ?_ ?_|intro hsp))
          all_goals first|(exfalso;omega)|skip
          all_goals
           (refine F6 [1,3,4,6,8,10] (fun (j:Nat)=>[(11,.int .i64 (j:Nat))]) (fun (j:Nat)=>⟨[(0,.cells [.int .i64 p.a,.int .i64 p.n,.isl (p.l.map rlA),.isl (p.X.map acE)])]++bkN b2 t' 1 2 3 4 5 6 7 8++hsN H2 9 10 11 12 13 14 15 16 17,18⟩) (fun (j:Nat)=>j≤8) (fun (j:Nat)=>8 - j) (0) [(13,19)] rfl (fun _=>by first|exact Nat.zero_le _|(dsimp only;omega)) ?_ (by ((try (conv=>whnf));exact F9)) ?_)
           ·exact Nat.zero_le _
           (conv=>whnf);exact key.out
        ·as_aux_lemma =>
          (refine wx_Ii ?_;repeat' (first|with_reducible refine And.intro ?_ ?_|intro hsp))
          all_goals first|(exfalso;omega)|skip
          all_goals
           (refine F6 [1,3,4,6,8,10] (fun (j:Nat)=>[(11,.int .i64 (j:Nat))]) (fun (j:Nat)=>⟨[(0,.cells [.int .i64 p.a,.int .i64 p.n,.isl (p.l.map rlA),.isl (p.X.map acE)])]++bkN b2 t' 1 2 3 4 5 6 7 8++hsN H2 9 10 11 12 13 14 15 16 17,18⟩) (fun (j:Nat)=>j≤8) (fun (j:Nat)=>8 - j) (0) [(14,19)] rfl (fun _=>by first|exact Nat.zero_le _|(dsimp only;omega)) ?_ (by ((try (conv=>whnf));exact F9)) ?_)
           ·exact Nat.zero_le _
           (conv=>whnf);exact key.out
        ·as_aux_lemma =>
          (refine wx_Ii ?_;repeat' (first|with_reducible refine And.intro ?_ ?_|intro hsp))
          all_goals first|(exfalso;omega)|skip
          all_goals
           (refine F6 [1,3,4,6,8,10] (fun (j:Nat)=>[(11,.int .i64 (j:Nat))]) (fun (j:Nat)=>⟨[(0,.cells [.int .i64 p.a,.int .i64 p.n,.isl (p.l.map rlA),.isl (p.X.map acE)])]++bkN b2 t' 1 2 3 4 5 6 7 8++hsN H2 9 10 11 12 13 14 15 16 17,18⟩) (fun (j:Nat)=>j≤8) (fun (j:Nat)=>8 - j) (0) [(15,19)] rfl (fun _=>by first|exact Nat.zero_le _|(dsimp only;omega)) ?_ (by ((try (conv=>whnf));exact F9)) ?_)
           ·exact Nat.zero_le _
           (conv=>whnf);exact key.out
        ·as_aux_lemma =>
          (refine wx_Ii ?_;repeat' (first|with_reducible refine And.intro ?_ ?_|intro hsp))
          all_goals first|(exfalso;omega)|skip
          all_goals
           (refine F6 [1,3,4,6,8,10] (fun (j:Nat)=>[(11,.int .i64 (j:Nat))]) (fun (j:Nat)=>⟨[(0,.cells [.int .i64 p.a,.int .i64 p.n,.isl (p.l.map rlA),.isl (p.X.map acE)])]++bkN b2 t' 1 2 3 4 5 6 7 8++hsN H2 9 10 11 12 13 14 15 16 17,18⟩) (fun (j:Nat)=>j≤8) (fun (j:Nat)=>8 - j) (0) [(16,19)] rfl (fun _=>by first|exact Nat.zero_le _|(dsimp only;omega)) ?_ (by ((try (conv=>whnf));exact F9)) ?_)
           ·exact Nat.zero_le _
           (conv=>whnf);exact key.out
        ·as_aux_lemma =>
          (refine wx_Ii ?_;repeat' (first|with_reducible refine And.intro ?_ ?_|intro hsp))
          all_goals first|(exfalso;omega)|skip
          all_goals
           (refine F6 [1,3,4,6,8,10] (fun (j:Nat)=>[(11,.int .i64 (j:Nat))]) (fun (j:Nat)=>⟨[(0,.cells [.int .i64 p.a,.int .i64 p.n,.isl (p.l.map rlA),.isl (p.X.map acE)])]++bkN b2 t' 1 2 3 4 5 6 7 8++hsN H2 9 10 11 12 13 14 15 16 17,18⟩) (fun (j:Nat)=>j≤8) (fun (j:Nat)=>8 - j) (0) [(17,19)] rfl (fun _=>by first|exact Nat.zero_le _|(dsimp only;omega)) ?_ (by ((try (conv=>whnf));exact F9)) ?_)
           ·exact Nat.zero_le _
           (conv=>whnf);exact key.out)
       intro j hj
       by_cases hj8:j < 8
       ·by_cases ht:inR 65536 x.t
        ·obtain ⟨P,eP,hP⟩:=AF8 ht
         rw [eP] at ht ⊢
         have hr:=BR1 hG2.tok (j:Nat) (P:Nat)
         obtain ⟨r1,r2⟩:=read_hs hG2.good hG2.by_ (k:=j) (t:=(P:Nat)) hj8 ht
         rw [Int.toNat_natCast] at r1 r2
         have e1:=hG2.hs j P hj8 (by omega)
         have e2:=hs_lt hG2.by_ (k:=j) (p:=P)
         rw [← e1] at r1 r2 e2
         have hg:=W9 (f:=H2 j) (p:=P) (by omega)
         obtain ⟨j1,hj1⟩:∃ j1,j1=j+1:=⟨_,rfl⟩
         unfold bkN rdN hsN
         clear e1
         generalize (b2.read (j:Nat) (P:Nat)).1=v at *
         generalize (b2.read (j:Nat) (P:Nat)).2=e at *
         by_cases he0:e=0
         ·have rv:=r2 he0
          have rn:=r1.1 he0
          have hcv:IntKind.i16.wrap v=v:=wrap16 ⟨by omega,by omega⟩
          rcases (show j=0∨j=1∨j=2∨j=3∨j=4∨j=5∨j=6∨j=7 by omega) with rfl|rfl|rfl|rfl|rfl|rfl|rfl|rfl
          all_goals as_aux_lemma =>
           (refine wx_Ii ?_;repeat' (first|with_reducible refine And.intro ?_ ?_|intro hsp))
           all_goals first|(exfalso;omega)|(exfalso;simp [he0,rn] at hsp;done)|(exfalso;simp at hsp;omega)|exact F3 (j1) [] (by (try dsimp only);omega) (by first|omega|(dsimp only;omega)) rfl (by exact F9)
         ·have rn:H2 j P < 0:=by omega
          rcases (show j=0∨j=1∨j=2∨j=3∨j=4∨j=5∨j=6∨j=7 by omega) with rfl|rfl|rfl|rfl|rfl|rfl|rfl|rfl
          all_goals as_aux_lemma =>
           (refine wx_Ii ?_;repeat' (first|with_reducible refine And.intro ?_ ?_|intro hsp))
           all_goals first|(exfalso;omega)|(exfalso;simp [he0] at hsp;omega)|(exfalso;simp at hsp;omega)|exact F3 (j1) [] (by (try dsimp only);omega) (by first|omega|(dsimp only;omega)) rfl (by exact F9)
        ·unfold inR at ht
         unfold bkN rdN hsN
         (refine wx_Ii ?_;repeat' (first|with_reducible refine And.intro ?_ ?_|intro hsp))
         all_goals first|(exfalso;omega)|exact F3 ((i+1,b2,t',H2)) [] ⟨hil,hG2⟩ (by first|omega|(dsimp only;omega)) rfl (by exact F9)
       ·unfold bkN rdN hsN
        (refine wx_Ii ?_;repeat' (first|with_reducible refine And.intro ?_ ?_|intro hsp))
        all_goals first|(exfalso;omega)|exact F3 ((i+1,b2,t',H2)) [] ⟨hil,hG2⟩ (by first|omega|(dsimp only;omega)) rfl (by exact F9)
     ·have hG2:ByG (b.al x).2 t' H:=⟨hg',ho',hb',ht',by rw [hal] at he ⊢;exact hs_call hG.good hG.own he hG.hs⟩
      clear hal hg' ho' hb' ht' hG hwe
      generalize (b.al x).2=b2 at *
      generalize (b.al x).1=e at *
      unfold bkN rdN hsN
      (refine wx_Ii ?_;repeat' (first|with_reducible refine And.intro ?_ ?_|intro hsp))
      all_goals first|(exfalso;omega)|exact F3 ((i+1,b2,t',H)) [] ⟨hil,hG2⟩ (by first|omega|(dsimp only;omega)) rfl (by exact F9)
    ·unfold bkN rdN hsN
     (refine wx_Ii ?_;repeat' (first|with_reducible refine And.intro ?_ ?_|intro hsp))
     all_goals exact Y3 rfl
end Go.Proofs.YtphggldkligldaaGreat.Sh
