/-
 ZeroingReads,plain: what is written is in cuts;where Given says so,zeros are written;what is saved then.
-/
import Derived.Test.YtkahmhmkhfllpaaDoorXd
import Derived.Test.YtkahmhmkhfllpaaDoorZsB
import Derived.Test.YtkahmhmkhfllpaaDoorGk
set_option linter.unusedSimpArgs false
set_option linter.unusedVariables false
namespace Go.Pol
open Go.Am
theorem state0:stateM (fun _=>0) 1024=[]:=by
 have h:∀ n,stateM (fun _=>0) n=[]:=fun n=>by
  induction n with
  | zero=>rfl
  | succ n ih=>unfold stateM;rw [ih];rfl
 exact h 1024
def wrS (s:Sy) (S:List Page) (x:II):List Page:=if okW s x.1=true then stateM (turnM opOr (openM S) x.1.toNat 1) 1024 else S
def wrL' (s:Sy) (P:List II):List Page:=P.foldl (wrS s) []
theorem wr_take {s:Sy} {P:List II} {i:Nat} (h:i < P.length):wrL' s (P.take (i+1))=wrS s (wrL' s (P.take i)) (nth (0,0) P i):=by
 rw [take_nth (d:=(0,0)) h,wrL',wrL',List.foldl_append];rfl
structure Wri (s:Sy) (Q:List II) (S:List Page) (W:Nat→Nat):Prop where
 u:∀ k,U64 (W k)
 eq:S=stateM W 1024
 k:∀ p,W p ≠ 0→s.K p=2
 cov:∀ x ∈ Q,okW s x.1=true→bitM W x.1.toNat=true
theorem okW_spec {s:Sy} {a:Int} (h:okW s a=true):0≤a∧a < 65536∧s.K (a.toNat / 64)=2:=by simpa [okW] using h
theorem open_zero {W:Nat→Nat} (hW:∀ k,U64 (W k)) {k:Nat} (h:W k=0):openM (stateM W 1024) k=0:=by
 rw [stateM_stC hW,openM_stC]
 split
 ·rw [h];rfl
 ·rfl
theorem open_u {W:Nat→Nat} (hW:∀ k,U64 (W k)) (k:Nat):U64 (openM (stateM W 1024) k):=by
 rw [stateM_stC hW,openM_stC]
 split
 ·exact sep_u64 (down_sep _)
 ·exact (by decide:(0:Nat) < 18446744073709551616)
theorem wri_nil {s:Sy}:Wri s [] [] fun _=>0:=⟨fun _=>(by decide:(0:Nat) < 18446744073709551616),state0.symm,fun p h=>absurd rfl h,fun x hx=>by cases hx⟩
theorem wri_step {s:Sy} {Q:List II} {S:List Page} {W:Nat→Nat} (h:Wri s Q S W) (x:II):∃ W',Wri s (Q++[x]) (wrS s S x) W':=by
 unfold wrS
 by_cases hx:okW s x.1=true
 ·rw [if_pos hx]
  obtain ⟨h1,h2,h3⟩:=okW_spec hx
  have hu:=open_u h.u
  rw [← h.eq] at hu
  have hb:=turn_bits bit_or 1 x.1.toNat _ hu
  refine ⟨_,hb.1,rfl,fun p hp=>?_,fun y hy hoy=>?_⟩
  ·by_cases e:p=x.1.toNat / 64
   ·rw [e];exact h3
   ·refine h.k p fun h0=>hp ?_
    refine ext64 (hb.1 p) (by decide:(0:Nat) < 18446744073709551616) fun b hb64=>?_
    rw [hb.2 p b hb64,if_neg (by omega),h.eq,open_zero h.u h0]
  ·rw [turn_bit bit_or hu]
   split
   ·rfl
   ·rename_i hne
    rcases List.mem_append.1 hy with hy|hy
    ·have hy2:=(okW_spec hoy)
     rw [h.eq,bit_open h.u (by omega)]
     exact inS_state h.u (by omega) (h.cov y hy hoy)
    ·rw [List.mem_singleton.1 hy] at hne;omega
 ·rw [if_neg hx]
  exact ⟨W,h.u,h.eq,h.k,fun y hy hoy=>by
   rcases List.mem_append.1 hy with hy|hy
   ·exact h.cov y hy hoy
   ·rw [List.mem_singleton.1 hy] at hoy;exact absurd hoy hx⟩
theorem wri_all {s:Sy} {P:List II}:∀ i,i≤P.length→∃ W,Wri s (P.take i) (wrL' s (P.take i)) W
 | 0,_=>⟨_,wri_nil⟩
 | i+1,h=>by
  obtain ⟨W,hW⟩:=wri_all (s:=s) (P:=P) i (by omega)
  obtain ⟨W',hW'⟩:=wri_step hW (nth (0,0) P i)
  have hl:i < P.length:=by omega
  exact ⟨W',by rw [wr_take hl,take_nth (d:=(0,0)) hl];exact hW'⟩
theorem wri_can {s:Sy} {Q:List II} {S:List Page} {W:Nat→Nat} (h:Wri s Q S W):Can (-1) S∧checkM S=0∧S.length≤1024∧∀ p ∈ S,p.2.length≤4:=by
 rw [h.eq]
 exact ⟨stateM_can h.u,check_state h.u,stateM_length _ _,can_four (stateM_can h.u)⟩
theorem inS_K {s:Sy} {Q:List II} {S:List Page} {W:Nat→Nat} (h:Wri s Q S W) {a:Nat} (ha:inS S a=true):s.K (a / 64)=2:=by
 rw [h.eq,stateM_stC h.u,inS_stC fun k=>down_sep _] at ha
 simp only [Bool.and_eq_true,decide_eq_true_eq] at ha
 refine h.k _ fun e=>?_
 rw [e] at ha
 have : inCuts (downM 0) (a % 64)=false:=by rfl
 rw [this] at ha;cases ha.2
theorem adrs_inS {S:List Page} {at_ n x:Int} (h0:0≤at_) (h:x ∈ adrs (givenR S at_ n)):at_≤x∧x < at_+n∧inS S x.toNat=true:=by
 obtain ⟨z,hz,h1,h2⟩:=cut_adr h
 obtain ⟨p,hp,hz⟩:=List.mem_flatMap.1 hz
 obtain ⟨c,hc,hz⟩:=List.mem_flatMap.1 hz
 unfold zoneOf at hz
 split at hz
 ·simp at hz
  subst hz
  dsimp only at h1 h2
  have hx:((x.toNat:Nat):Int)=x:=by omega
  refine ⟨by omega,by omega,?_⟩
  unfold inS inP
  rw [List.any_eq_true]
  refine ⟨p,hp,?_⟩
  rw [List.any_eq_true]
  exact ⟨c,hc,by simp;omega⟩
 ·cases hz
theorem mem_adrs {L:List II} {z:II} {x:Int} (hz:z ∈ L) (h1:z.1≤x) (h2:x < z.1+z.2):x ∈ adrs L:=by
 refine List.mem_flatMap.2 ⟨z,hz,?_⟩
 simp only [adr,List.mem_map,List.mem_range]
 exact ⟨(x - z.1).toNat,by omega,by omega⟩
theorem spans_B {X:List II}:∀ p j,(X.foldl spS (Sy.new [])).B p j=0:=by
 have hc:∀ (s:Sy) (a n v w:Int) (k:Nat),(∀ p j,s.B p j=0)→∀ p j,(s.chg a n v w k).2.B p j=0:=fun s a n v w k h p j=>by
  unfold Sy.chg
  split
  ·exact h p j
  ·split
   ·split
    ·exact h p j
    ·show setP s.B _ _ p j=0
     unfold setP
     split<;>first|rfl|exact h p j
   ·exact h p j
 have hs:∀ (l:List II) (s:Sy),(∀ p j,s.B p j=0)→∀ p j,(l.foldl spS s).B p j=0:=fun l=>by
  induction l with
  | nil=>exact fun s h=>h
  | cons x r ih =>
   intro s h
   refine ih _ ?_
   unfold spS
   split
   ·exact hc _ _ _ _ _ _ (hc _ _ _ _ _ _ h)
   ·exact hc _ _ _ _ _ _ h
 exact hs X _ fun _ _=>rfl
theorem write_B {s:Sy} {a b:Int} {p j:Nat}:(s.write a b).2.B p j=if okW s a=true∧p=a.toNat / 64∧j=a.toNat % 64 then b else s.B p j:=by
 unfold Sy.write okW
 simp only [decide_eq_true_eq]
 split
 ·rw [if_neg (by omega)]
 ·split
  ·show updP s.B _ _ p j=_
   unfold updP updI
   by_cases e:p=a.toNat / 64
   ·rw [if_pos e]
    by_cases e2:j=a.toNat % 64
    ·rw [if_pos e2,if_pos ⟨⟨by omega,by omega,by assumption⟩,e,e2⟩]
    ·rw [if_neg e2,if_neg fun h=>e2 h.2.2,e]
   ·rw [if_neg e,if_neg fun h=>e h.2.1]
  ·rename_i h2
   rw [if_neg fun h=>h2 h.1.2.2]
theorem pts_K {P:List II}:∀ {s:Sy},(P.foldl ptS s).K=s.K:=by
 induction P with
 | nil=>intro s;rfl
 | cons x r ih=>intro s;exact (ih (s:=ptS s x)).trans write_K
theorem pts_B {P:List II}:∀ {s:Sy},(∀ p j,s.B p j=0)→∀ p j,(P.foldl ptS s).B p j ≠ 0→∃ x ∈ P,okW s x.1=true∧p=x.1.toNat / 64∧j=x.1.toNat % 64:=by
 have key:∀ (P:List II) (s t:Sy),t.K=s.K→∀ p j,(P.foldl ptS t).B p j ≠ 0→t.B p j ≠ 0∨∃ x ∈ P,okW s x.1=true∧p=x.1.toNat / 64∧j=x.1.toNat % 64:=fun P=>by
  induction P with
  | nil=>exact fun s t _ p j h=>.inl h
  | cons x r ih =>
   intro s t hk p j h
   rcases ih s (ptS t x) (write_K.trans hk) p j h with h | ⟨y,hy,h⟩
   ·unfold ptS at h
    rw [write_B] at h
    split at h
    ·rename_i hc
     rw [okW_K hk] at hc
     exact .inr ⟨x,List.mem_cons_self ..,hc⟩
    ·exact .inl h
   ·exact .inr ⟨y,List.mem_cons_of_mem _ hy,h⟩
 intro s h0 p j h
 rcases key P s s rfl p j h with h|h
 ·exact absurd (h0 p j) h
 ·exact h
theorem mk_B {X P:List II} {p j:Nat} (h:(mkS X P).B p j ≠ 0):∃ x ∈ P,okW (mkS X P) x.1=true∧p=x.1.toNat / 64∧j=x.1.toNat % 64:=by
 obtain ⟨x,hx,ho,h1⟩:=pts_B (P:=P) spans_B p j h
 exact ⟨x,hx,by rw [mkS,okW_K pts_K];exact ho,h1⟩
theorem wz_B {A:List Int}:∀ {s:Sy},(∀ a ∈ A,okW s a=true)→∀ p j,j < 64→(wz s A).B p j=if (((p * 64+j:Nat)):Int) ∈ A then 0 else s.B p j:=by
 induction A with
 | nil=>intro s _ p j _;rw [if_neg (by simp)];rfl
 | cons a r ih =>
  intro s h p j hj
  have ha:=h a (List.mem_cons_self ..)
  have h1:=okW_spec ha
  show (wz (s.write a 0).2 r).B p j=_
  rw [ih (fun x hx=>by rw [okW_K write_K];exact h x (List.mem_cons_of_mem _ hx)) p j hj,write_B]
  by_cases e:(((p * 64+j:Nat)):Int) ∈ r
  ·rw [if_pos e,if_pos (List.mem_cons_of_mem _ e)]
  ·rw [if_neg e]
   by_cases e2:p=a.toNat / 64∧j=a.toNat % 64
   ·rw [if_pos ⟨ha,e2.1,e2.2⟩,if_pos (by rw [show (((p * 64+j:Nat)):Int)=a by omega];exact List.mem_cons_self ..)]
   ·rw [if_neg fun hh=>e2 hh.2,if_neg fun hh=>?_]
    rcases List.mem_cons.1 hh with hh|hh
    ·exact e2 ⟨by omega,by omega⟩
    ·exact e hh
def zb (at_ n:Int) (p:Int) (b:Nat→Int):Nat→Int:=fun j=>if at_≤p * 64+(j:Nat)∧p * 64+(j:Nat) < at_+n then 0 else b j
def wantD (at_ n:Int):List Dt→List Dt
 | [] => []
 | d::l=>if zeroB (zb at_ n d.p d.b) then wantD at_ n l else ⟨d.p,zb at_ n d.p d.b⟩::wantD at_ n l
theorem want_app {at_ n:Int}:∀ {l m:List Dt},wantD at_ n (l++m)=wantD at_ n l++wantD at_ n m
 | [],_=>rfl
 | d::l,m=>by
  have ih:=want_app (at_:=at_) (n:=n) (l:=l) (m:=m)
  show (if _ then wantD at_ n (l++m) else _::wantD at_ n (l++m))=(if _ then _ else _)++_
  split
  ·exact ih
  ·rw [ih];rfl
theorem zero_congr {f g:Nat→Int} (h:∀ j,j < 64→f j=g j):zeroB f ↔ zeroB g:=⟨fun hf j hj=>by rw [← h j hj];exact hf j hj,fun hg j hj=>by rw [h j hj];exact hg j hj⟩
theorem want_data {at_ n:Int} {B B':Nat→Nat→Int} (h:∀ p j,j < 64→B' p j=zb at_ n (p:Nat) (B p) j):∀ m,(wantD at_ n (dataTo B m)).map dtA=(dataTo B' m).map dtA
 | 0=>rfl
 | m+1=>by
  have hz:zeroB (zb at_ n (m:Nat) (B m)) ↔ zeroB (B' m):=zero_congr fun j hj=>(h m j hj).symm
  have ih:=want_data h m
  show List.map dtA (wantD at_ n (if zeroB (B m) then _ else _))=List.map dtA (if zeroB (B' m) then _ else _)
  by_cases h1:zeroB (B' m)
  ·rw [if_pos h1]
   split
   ·exact ih
   ·rw [want_app,List.map_append,ih]
    have : wantD at_ n [⟨(m:Nat),B m⟩]=[]:=by show (if zeroB (zb at_ n (m:Nat) (B m)) then [] else _)=_;rw [if_pos (hz.2 h1)]
    rw [this];simp
  ·rw [if_neg h1,if_neg fun h2=>h1 (hz.1 fun j hj=>by unfold zb;split<;>first|rfl|exact h2 j hj),want_app,List.map_append,List.map_append,ih]
   have : wantD at_ n [⟨(m:Nat),B m⟩]=[⟨(m:Nat),zb at_ n (m:Nat) (B m)⟩]:=by show (if zeroB (zb at_ n (m:Nat) (B m)) then [] else _)=_;rw [if_neg fun h2=>h1 (hz.1 h2)];rfl
   rw [this]
   congr 1
   simp only [List.map_cons,List.map_nil,dtA]
   congr 1;congr 1
   exact by_inj.2 fun j hj=>(h m j hj).symm
theorem want_len {at_ n:Int}:∀ {l:List Dt},(wantD at_ n l).length≤l.length
 | []=>Nat.le_refl _
 | d::l=>by
  have:=want_len (at_:=at_) (n:=n) (l:=l)
  show List.length (if _ then _ else _)≤_
  split<;>simp only [List.length_cons]<;>omega
theorem reads_plain {X P:List II} {at_ n:Int} (h0:0≤at_) (hn:0≤n) (han:at_+n≤65536) :
  (∀ x ∈ adrs (givenR (wrL' (mkS X P) P) at_ n),okW (mkS X P) x=true)∧sameV ⟨(mkS X P).save.R,(mkS X P).save.U,wantD at_ n (mkS X P).save.D,(mkS X P).save.l,(mkS X P).save.C,(mkS X P).save.H⟩ (wz (mkS X P) (adrs (givenR (wrL' (mkS X P) P) at_ n))).save:=by
 obtain ⟨W,hW⟩:=wri_all (s:=mkS X P) (P:=P) P.length (Nat.le_refl _)
 rw [List.take_length] at hW
 generalize hS:wrL' (mkS X P) P=S at *
 have hok:∀ x ∈ adrs (givenR S at_ n),okW (mkS X P) x=true:=fun x hx=>by
  obtain ⟨h1,h2,h3⟩:=adrs_inS h0 hx
  have:=inS_K hW h3
  simp only [okW,decide_eq_true_eq]
  exact ⟨by omega,by omega,this⟩
 refine ⟨hok,?_⟩
 have hcan:=wri_can hW
 have hB:∀ p j,j < 64→(wz (mkS X P) (adrs (givenR S at_ n))).B p j=zb at_ n (p:Nat) ((mkS X P).B p) j:=fun p j hj=>by
  rw [wz_B hok p j hj]
  unfold zb
  by_cases hm:(((p * 64+j:Nat)):Int) ∈ adrs (givenR S at_ n)
  ·obtain ⟨h1,h2,-⟩:=adrs_inS h0 hm
   rw [if_pos hm,if_pos (by omega)]
  ·rw [if_neg hm]
   split
   ·rename_i hz
    refine Classical.byContradiction fun hne=>hm ?_
    obtain ⟨x,hx,hox,hp,hj2⟩:=mk_B hne
    have hxs:=okW_spec hox
    have hc:=hW.cov x hx hox
    have hi:=inS_state hW.u (by omega) hc
    rw [← bit_open hW.u (by omega),← hW.eq] at hi
    have hg:=(given_in (M:=openM S) n.toNat at_.toNat).2 x.1.toNat (by omega) (by omega) hi
    rw [given_ref hcan.1 h0 hn han] at hg
    obtain ⟨z,hz,h1,h2⟩:=hg
    exact mem_adrs hz (by omega) (by omega)
   ·rfl
 have hK:(wz (mkS X P) (adrs (givenR S at_ n))).K=(mkS X P).K:=wz_K
 have hO:∀ (A:List Int) (s:Sy),(wz s A).G=s.G∧(wz s A).l=s.l∧(wz s A).C=s.C∧(wz s A).H=s.H:=fun A=>by
  induction A with
  | nil=>exact fun s=>⟨rfl,rfl,rfl,rfl⟩
  | cons a r ih =>
   intro s
   obtain ⟨i1,i2,i3,i4⟩:=ih (s.write a 0).2
   have hw:(s.write a 0).2.G=s.G∧(s.write a 0).2.l=s.l∧(s.write a 0).2.C=s.C∧(s.write a 0).2.H=s.H:=by
    unfold Sy.write;split
    ·exact ⟨rfl,rfl,rfl,rfl⟩
    ·split<;>exact ⟨rfl,rfl,rfl,rfl⟩
   exact ⟨i1.trans hw.1,i2.trans hw.2.1,i3.trans hw.2.2.1,i4.trans hw.2.2.2⟩
 obtain ⟨o1,o2,o3,o4⟩:=hO (adrs (givenR S at_ n)) (mkS X P)
 have hD:=want_data (at_:=at_) (n:=n) hB 1024
 unfold sameV
 refine ⟨⟨?_,?_,?_⟩,?_⟩
 ·show List.map rnA (runsTo _ 1024)=List.map rnA (runsTo _ 1024);rw [hK]
 ·show List.map inA (hugeTo _ 1024)=List.map inA (hugeTo _ 1024);rw [o1]
 ·exact hD
 ·show sameSt (mkS X P).l (mkS X P).C (mkS X P).H (wz _ _).l (wz _ _).C (wz _ _).H
  rw [o2,o3,o4];exact ⟨rfl,rfl,rfl⟩
theorem adrs_sum {L:List II} (h:∀ z ∈ L,0≤z.2):((adrs L).length:Int)=sumL L:=by
 induction L with
 | nil=>rfl
 | cons z r ih =>
  have:=ih fun y hy=>h y (List.mem_cons_of_mem _ hy)
  have hz:=h z (List.mem_cons_self ..)
  show ((adr z z.2.toNat++adrs r).length:Int)=_
  rw [List.length_append,adr_len,Int.natCast_add,this]
  simp only [sumL,List.map_cons,List.sum_cons];omega
end Go.Pol
