/-
 Calls over a table and a system: byteOf,all,Write.
-/
import Derived.Test.YtphggldkligldaaShE
import Derived.Test.YtphggldkligldaaAmWn
set_option linter.unusedSimpArgs false
set_option linter.unusedVariables false
namespace Go.Pol
open Go.Am
def allL (s:Sy) (k:Nat) (L:List Vw):List Int:=L.flatMap fun v=>[s.B v.2.2.1 k,s.B v.2.2.1 5]
end Go.Pol
namespace Go.Proofs.Ytphggldkligldaa.Sh
open Go Go.Am Go.Pol
def int1 (n:Int):List AV:=[.int .i64 n]
theorem int1_len (n:Int):(int1 n).length=1:=rfl
theorem int1_plain (n:Int):∀ x ∈ int1 n,Plain x:=fun x hx=>by obtain rfl:=List.mem_singleton.1 hx;exact plain_int
theorem plain_is {l:List Int}:Plain (.isl (l.map int1)):=plain_isl fun e he=>by
 obtain ⟨n,_,rfl⟩:=List.mem_map.1 he;exact int1_plain n
theorem wk_frzI {σ:Nat→Nat} {h h':Hp} {d:Nat} {L:List Int} (hi:L.length ≠ 0→lk h.l d=some (.cells (flat int1 L))) (hi':∀ j o,lk h'.l j=some o→σ j ≠ d) (hs:SubH σ h h'):WkV Try.prog σ h h' (ownV d 1 L.length) (.isl (L.map int1)):=by
 by_cases hz:L.length=0
 ·rw [hz,own_z,List.eq_nil_of_length_eq_zero hz];exact wk_nils
 ·rw [own_s hz]
  refine wk_frz (hi hz) hi' hs (by simp) (fun e he=>?_) ?_ fun e he x hx=>?_
  ·obtain ⟨s,_,rfl⟩:=List.mem_map.1 he;rfl
  ·rw [List.drop_zero,List.take_of_length_le (by rw [flat_len int1_len];exact Nat.le_refl _)];rfl
  ·obtain ⟨s,_,rfl⟩:=List.mem_map.1 he;exact int1_plain s x hx
structure LocTX (f:Nat) (avs:List AV) (t:TS) (s:Sy) (r:AV) (s':Sy):Prop where
 out:LocC Try.prog G0 f (.ptr 0 0 :: .ptr 5 0::avs) (rdN t s 0 1 2 3 4 5) 6 fun x h1=>x=r∧h1=⟨rdN t s' 0 1 2 3 4 5,6⟩
 pa:∀ x ∈ avs,Plain x
 pr:Plain r
theorem end_TX {top:Bool} {h:Hp} {N0:Nat} {x r:AV} {t:TS} {s:Sy} (hr:SubH (rn []) h ⟨rdN t s 0 1 2 3 4 5,6⟩→WkV Try.prog (rn []) h ⟨rdN t s 0 1 2 3 4 5,6⟩ x r) (h0:lk h.l 0=some (.cells (tabC 1 4 t.C))) (h1:lk h.l 1=some (.cells [.sl 2 0 t.n t.n 7,.sl 3 0 t.m t.m 3,.int .i64 (t.S.fr:Nat)])) (h2:lk h.l 2=some (.cells (cellsB t.n t.V t.W t.V3 t.V4 t.S.L t.S.N t.S.P))) (h3:lk h.l 3=some (.cells (endsB t.m t.S.A t.S.B t.S.C))) (h4:lk h.l 4=some (.maps (t.E.map keyE))) (h5:lk h.l 5=some (.cells s.a)) (hN0:N0≤6:=by decide) :
  EndX top Try.prog N0 h x (fun r' h'=>r'=r∧h'=⟨rdN t s 0 1 2 3 4 5,6⟩):=by
 have hs:SubH (rn []) h ⟨rdN t s 0 1 2 3 4 5,6⟩:=fun i o hi=>by
  simp only [rdN,lk] at hi
  show ∃ o',lk h.l i=some o'
  split at hi
  ·rename_i e;subst e;exact ⟨_,h0⟩
  ·split at hi
   ·rename_i e;subst e;exact ⟨_,h1⟩
   ·split at hi
    ·rename_i e;subst e;exact ⟨_,h2⟩
    ·split at hi
     ·rename_i e;subst e;exact ⟨_,h3⟩
     ·split at hi
      ·rename_i e;subst e;exact ⟨_,h4⟩
      ·split at hi
       ·rename_i e;subst e;exact ⟨_,h5⟩
       ·cases hi
 refine end_loc [] rfl hN0 (oneOf_of rfl) (hr hs) ?_ ⟨rfl,rfl⟩
 exact wko_tab hs (show 0 < 6 by decide) h0 rfl (show 1 < 6 by decide) rfl (show 4 < 6 by decide)
  (wko_cells (show 1 < 6 by decide) h1 (wkl_cons (wk_sl rfl (show 2 < 6 by decide) rfl (Nat.le_refl _) (Nat.le_refl _)) (wkl_cons (wk_sl rfl (show 3 < 6 by decide) rfl (Nat.le_refl _) (Nat.le_refl _)) (wkl_cons (wk_int rfl) wkl_nil)))
  (wko_plain hs (show 2 < 6 by decide) h2 rfl cells_plain (wko_plain hs (show 3 < 6 by decide) h3 rfl ends_plain (wko_maps hs (show 4 < 6 by decide) h4 rfl key_plain (wko_plain hs (show 5 < 6 by decide) h5 rfl a_plain wko_nil)))))
theorem cx_tx {f:Nat} {avs:List AV} {t:TS} {s s':Sy} {a b c d e g nx:Nat} {l:List (Nat × AObj)} {r:AV} {K:AV→Hp→Prop} (hc:LocTX f avs t s r s')
  (h0:lk l a=some (.cells (tabC b e t.C))) (h1:lk l b=some (.cells [.sl c 0 t.n t.n 7,.sl d 0 t.m t.m 3,.int .i64 (t.S.fr:Nat)])) (h2:lk l c=some (.cells (cellsB t.n t.V t.W t.V3 t.V4 t.S.L t.S.N t.S.P))) (h3:lk l d=some (.cells (endsB t.m t.S.A t.S.B t.S.C))) (h4:lk l e=some (.maps (t.E.map keyE))) (h5:lk l g=some (.cells s.a))
  (hlt:a < nx∧b < nx∧c < nx∧d < nx∧e < nx∧g < nx) (hd:nodB [a,b,c,d,e,g]=true)
  (hk:filtK [a,b,c,d,e,g] l fun l2=>K r ⟨rdN t s' a b c d e g++l2,nx⟩):CallX Try.prog G0 (.fn f [] []) (.ptr a 0 :: .ptr g 0::avs) ⟨l,nx⟩ K:=by
 have e0:enter [a,b,c,d,e,g] a 0:=rfl
 have e1:enter [a,b,c,d,e,g] b 1:=rfl
 have e2:enter [a,b,c,d,e,g] c 2:=rfl
 have e3:enter [a,b,c,d,e,g] d 3:=rfl
 have e4:enter [a,b,c,d,e,g] e 4:=rfl
 have e5:enter [a,b,c,d,e,g] g 5:=rfl
 have k0:back [a,b,c,d,e,g] nx 0 a:=rfl
 have k1:back [a,b,c,d,e,g] nx 1 b:=rfl
 have k2:back [a,b,c,d,e,g] nx 2 c:=rfl
 have k3:back [a,b,c,d,e,g] nx 3 d:=rfl
 have k4:back [a,b,c,d,e,g] nx 4 e:=rfl
 have k5:back [a,b,c,d,e,g] nx 5 g:=rfl
 refine cx_loc (l1:=rdN t s' a b c d e g) [a,b,c,d,e,g] hc.out plainG hd
  (.cons e0 h0 (rn_tabC e1 e4) (.cons e1 h1 ⟨rn_sl e2,rn_sl e3,rn_plain plain_int,trivial⟩ (.cons e2 h2 rnl_cells (.cons e3 h3 rnl_ends (.maps e4 h4 key_plain (.cons e5 h5 (rnl_plain a_plain) .nil))))))
  ?_ (by intro x hx;simp only [List.mem_cons,List.not_mem_nil,or_false] at hx;omega) (rn_plain hc.pr)
  (.cons k0 (rn_tabC k1 k4) (.cons k1 ⟨rn_sl k2,rn_sl k3,rn_plain plain_int,trivial⟩ (.cons k2 rnl_cells (.cons k3 rnl_ends (.maps k4 key_plain (.cons k5 (rnl_plain a_plain) .nil)))))) hk
 simp only [List.nil_append,List.append_nil]
 exact ⟨rn_ptr e0,rn_ptr e5,rnl_plain hc.pa⟩
section
variable {L:List Vw} {t:TS} {s:Sy} {v:Vw} {fs:List Nat}
end
end Go.Proofs.Ytphggldkligldaa.Sh
