/-
 The document's book: its memory;the table's answers,for any numbers.
 The document's book: numbers,count,take,give,Map,Unmap,Take,Drop,Read,Revert.
 The document's book: Unmap,Take,Drop,Read,Revert,Write.
 The document's book: Write,page,Differ,Counts,Save.
 The document's book: page,Counts.
 The document's book: Save,Differ.
 Both books: their memory;a step's contract.
 A play: the books behind its calls.
 SnapshotNone.
 The runs of the program: its iterator,collected.
 The ends of Save: growing slices become values.
 Pages' bytes as wholes: compared,written,read.
 Save of the program.
-/
import Derived.Test.YtphggldkligldaaGreatQav
set_option linter.unusedSimpArgs false
set_option linter.unusedVariables false
set_option maxHeartbeats 3200000
namespace Go.Proofs.YtphggldkligldaaGreat.Sh
open Go Go.Am Go.Pol
theorem wx_Pa {p q:Prop} (hq:q) (h:X0 q→p:=by (intro hQz;((repeat' ((try (conv=>whnf));first|refine sxA ?_|refine sxF ?_|refine G9 (by assumption) ?_|refine M4 (by assumption) rfl (by decide) ?_|refine sxH ?_|((with_reducible first|apply M9 hQz|apply N7 hQz)<;>(try intro hsp hQz))|exact hQz.out))<;>(try (conv=>whnf))))):p:=h ⟨hq⟩
def bdN (q:Bk) (o g:Nat):List (Nat × AObj):=[(o,.cells [.ptr g 0,.int .i64 (q.a:Nat),.int .i64 (q.n:Nat),.isl (q.L.map vwC)]),(g,.cells q.s.b)]
structure As3 (f:Nat) (avs:List AV) (q:Bk) (r:AV) (q':Bk):Prop where
 out:AY7 Tryz.prog G0 f (.ptr 0 0::avs) (bdN q 0 1) 2 fun x h1=>x=r∧h1=⟨bdN q' 0 1,2⟩
 pa:∀ x ∈ avs,Plain x
 pr:Plain r
theorem end_WV {top:Bool} {h:Hp} {N0:Nat} {x r:AV} {q:Bk} (hr:AH8 (rn []) h ⟨bdN q 0 1,2⟩→WkV Tryz.prog (rn []) h ⟨bdN q 0 1,2⟩ x r) (h0:lk h.l 0=some (.cells [.ptr 1 0,.int .i64 (q.a:Nat),.int .i64 (q.n:Nat),.isl (q.L.map vwC)])) (h1:lk h.l 1=some (.cells q.s.b)) (hN0:N0≤2:=by decide) :
  AV7 top Tryz.prog N0 h x (fun r' h'=>r'=r∧h'=⟨bdN q 0 1,2⟩):=by
 have hs:AH8 (rn []) h ⟨bdN q 0 1,2⟩:=fun i o hi=>by
  simp only [bdN,lk] at hi
  show ∃ o',lk h.l i=some o'
  split at hi
  ·rename_i e;subst e;exact ⟨_,h0⟩
  ·split at hi
   ·rename_i e;subst e;exact ⟨_,h1⟩
   ·cases hi
 refine y9 [] rfl hN0 (Q5 rfl) (hr hs) ?_ ⟨rfl,rfl⟩
 exact J5 (show 0 < 2 by decide) h0 (C8 (X7 (i:=1) rfl (show 1 < 2 by decide)) (C8 (L8 rfl) (C8 (L8 rfl) (C8 (N8 hs J2) H7)))) (F9 hs (show 1 < 2 by decide) h1 rfl F8 J6)
theorem AS1 {top:Bool} {h:Hp} {N0:Nat} {x r:AV} {q:Bk} (hx:x=r) (hp:Plain r) (h0:lk h.l 0=some (.cells [.ptr 1 0,.int .i64 (q.a:Nat),.int .i64 (q.n:Nat),.isl (q.L.map vwC)])) (h1:lk h.l 1=some (.cells q.s.b)) (hN0:N0≤2:=by decide) :
  AV7 top Tryz.prog N0 h x (fun r' h'=>r'=r∧h'=⟨bdN q 0 1,2⟩):=by
 subst hx
 exact end_WV (fun hs=>N8 hs hp) h0 h1 hN0
theorem cx_W {f:Nat} {avs:List AV} {q q':Bk} {r:AV} {o g nx:Nat} {l:List (Nat × AObj)} {K:AV→Hp→Prop} (hc:As3 f avs q r q')
  (h0:lk l o=some (.cells [.ptr g 0,.int .i64 (q.a:Nat),.int .i64 (q.n:Nat),.isl (q.L.map vwC)])) (h1:lk l g=some (.cells q.s.b))
  (hlt:o < nx∧g < nx) (hd:Ae1 [o,g]=true)
  (hk:AI1 [o,g] l fun l2=>K r ⟨([(o,.cells [.ptr g 0,.int .i64 (q'.a:Nat),.int .i64 (q'.n:Nat),.isl (q'.L.map vwC)]),(g,.cells q'.s.b)]:List (Nat × AObj))++l2,nx⟩):AG2 Tryz.prog G0 (.fn f [] []) (.ptr o 0::avs) ⟨l,nx⟩ K:=by
 have e0:enter [o,g] o 0:=rfl
 have e1:enter [o,g] g 1:=rfl
 have k0:back [o,g] nx 0 o:=rfl
 have k1:back [o,g] nx 1 g:=rfl
 refine AF0 (l1:=bdN q' o g) [o,g] hc.out F6 hd
  (.cons e0 h0 ⟨J4 e1,D5 A8,D5 A8,D5 J2,trivial⟩ (.cons e1 h1 (C9 F8) .nil))
  ?_ (by intro x hx;simp only [List.mem_cons,List.not_mem_nil,or_false] at hx;omega) (D5 hc.pr)
  (.cons k0 ⟨J4 k1,D5 A8,D5 A8,D5 J2,trivial⟩ (.cons k1 (C9 F8) .nil)) hk
 simp only [List.nil_append,List.append_nil]
 exact ⟨J4 e0,C9 hc.pa⟩
section
variable {L:List Vw}
theorem Al9 {a k:Nat} (hs:Go.Pol.srt L) {v:Vw} (hf:AS8 L a k=some v):∃ A B,L=A++v::B∧(∀ w ∈ A,¬ atV (v.1,v.2.1) w)∧v.1=a∧v.2.1=k:=by
 obtain ⟨hv,e1,e2⟩:=AI8 hf
 obtain ⟨A,B,hL⟩:=List.append_of_mem hv
 rw [hL] at hs
 exact ⟨A,B,hL,(Ao4 hs).1,e1,e2⟩
theorem Am8 {a k:Int} (hi:inR 64 a∧inR 1024 k) (hl:L.length≤2000) (hf:AS8 L a.toNat k.toNat=none):F4 57 [stA L,.int .i64 a,.int .i64 k] (.tup [.agg [.int .i64 0,.int .i64 0,.int .i64 0,.bool false],.int .i64 4]):=by
 obtain ⟨⟨a1,a2⟩,k1,k2⟩:=hi
 have:=q_Find_bad (by decide:(4:Int) ≠ 0) (BO5 (a:=a.toNat) (k:=k.toNat) (by omega) (by omega) (AR9 hf) (by omega))
 rwa [Int.toNat_of_nonneg a1,Int.toNat_of_nonneg k1] at this
theorem v_Find {a k:Int} (hs:Go.Pol.srt L) (hi:inR 64 a∧inR 1024 k) (hl:L.length≤2000) {v:Vw} (hf:AS8 L a.toNat k.toNat=some v):F4 57 [stA L,.int .i64 a,.int .i64 k] (.tup [.agg [.int .i64 a,.int .i64 k,.int .i64 (v.2.2.1:Nat),.bool v.2.2.2],.int .i64 0]):=by
 obtain ⟨⟨a1,a2⟩,k1,k2⟩:=hi
 obtain ⟨A,B,hL,hA,e1,e2⟩:=Al9 hs hf
 rw [e1,e2] at hA
 have:=q_Find (a:=a.toNat) (k:=k.toNat) (by omega) (by omega) hL hA ⟨e1,e2⟩ (by omega)
 unfold vwC at this
 rwa [e1,e2,Int.toNat_of_nonneg a1,Int.toNat_of_nonneg k1] at this
theorem v_Count {f:Nat} (hf:f < 1024) (hl:L.length≤2000):F4 132 [stA L,.int .i64 (f:Nat)] (.tup [.int .i64 (cntF L f:Nat),.int .i64 0]):=by
 have:=q_Count (L:=L) (f:Nat) (by omega)
 rwa [if_pos (At5 hf),if_pos (At5 hf),cntI_nat] at this
theorem v_Map {a k:Int} {f:Nat} (hi:inR 64 a∧inR 1024 k) (hf4:f < 1024) (hf:AS8 L a.toNat k.toNat=none) (hl:L.length < 2000):F4 60 [stA L,.agg [.int .i64 a,.int .i64 k,.int .i64 (f:Nat),.bool true]] (.tup [stA (AY4 (a.toNat,k.toNat,f,true) L),.int .i64 0]):=by
 obtain ⟨⟨a1,a2⟩,k1,k2⟩:=hi
 have:=q_Map (v:=(a.toNat,k.toNat,f,true)) ⟨(by omega:a.toNat < 64),(by omega:k.toNat < 1024),hf4⟩ (AR9 hf) hl
 dsimp only at this
 rwa [Int.toNat_of_nonneg a1,Int.toNat_of_nonneg k1] at this
theorem v_Protect {a k:Int} (hs:Go.Pol.srt L) (hi:inR 64 a∧inR 1024 k) (hl:L.length≤2000) {v:Vw} (hf:AS8 L a.toNat k.toNat=some v) (w:Bool):F4 63 [stA L,.int .i64 a,.int .i64 k,.bool w] (.tup [stA (AQ8 (prV w) a.toNat k.toNat L),.int .i64 0]):=by
 obtain ⟨⟨a1,a2⟩,k1,k2⟩:=hi
 obtain ⟨A,B,hL,hA,e1,e2⟩:=Al9 hs hf
 have hd:AQ8 (prV w) a.toNat k.toNat L=A++prV w v::B:=by rw [hL] at hs ⊢;rw [← e1,← e2,Ab3 hs]
 have:=q_Protect (v:=v) w ⟨by omega,by omega⟩ hL hA hl
 rw [hd]
 rwa [e1,e2,Int.toNat_of_nonneg a1,Int.toNat_of_nonneg k1] at this
theorem v_Split {a k:Int} (hs:Go.Pol.srt L) (hi:inR 64 a∧inR 1024 k) (hl:L.length≤2000) {v:Vw} (hf:AS8 L a.toNat k.toNat=some v) {f:Nat} (hf4:f < 1024) (hc:cntF L f=0):F4 65 [stA L,.int .i64 a,.int .i64 k,.int .i64 (f:Nat)] (.tup [stA (AQ8 (frV f) a.toNat k.toNat L),.int .i64 0]):=by
 obtain ⟨⟨a1,a2⟩,k1,k2⟩:=hi
 obtain ⟨A,B,hL,hA,e1,e2⟩:=Al9 hs hf
 have hd:AQ8 (frV f) a.toNat k.toNat L=A++frV f v::B:=by rw [hL] at hs ⊢;rw [← e1,← e2,Ab3 hs]
 have:=q_Split (v:=v) ⟨by omega,by omega⟩ hf4 hL hA hl hc
 rw [hd]
 rwa [e1,e2,Int.toNat_of_nonneg a1,Int.toNat_of_nonneg k1] at this
theorem v_Fork {q:Bk} (hs:Go.Pol.srt q.L) (hl:q.L.length≤2000) (a b:Int):F4 61 [stA q.L,.int .i64 a,.int .i64 b] (.tup [stA (q.take a b).2.2.L,.int .i64 (q.take a b).1,.int .i64 (q.take a b).2.1]):=by
 unfold Bk.take
 by_cases hr:inR 64 a∧inR 64 b
 ·rw [if_neg (by rw [Classical.not_not];exact hr)]
  obtain ⟨a',rfl,ha⟩:=AU5 hr.1
  obtain ⟨b',rfl,hb⟩:=AU5 hr.2
  have ha':a' < 64:=by omega
  have hb':b' < 64:=by omega
  rw [Int.toNat_natCast,Int.toNat_natCast]
  by_cases hab:a'=b'
  ·rw [if_pos (by rw [hab])]
   exact Af5 ha' hb' hl (.inl ⟨rfl,hab⟩)
  ·rw [if_neg (by omega)]
   by_cases hB:(ofA b' q.L).length=0
   ·rw [if_neg (by rw [Classical.not_not];exact hB)]
    by_cases hf:2000 < q.L.length+(ofA a' q.L).length
    ·rw [if_pos hf]
     exact Af5 ha' hb' hl (.inr (.inr ⟨rfl,hab,hB,hf⟩))
    ·rw [if_neg hf]
     have hnb:ofA b' q.L=[]:=List.eq_nil_of_length_eq_zero hB
     by_cases h0:q.L.length=0
     ·have hn:=List.eq_nil_of_length_eq_zero h0
      have hq:=q_Fork_nil (L:=q.L) hab ha' hb' h0
      dsimp only
      rw [hn] at hq ⊢
      exact hq
     ·exact q_Fork hab ha' hb' hnb (by omega) hs (by omega)
   ·rw [if_pos hB]
    exact Af5 ha' hb' hl (.inr (.inl ⟨rfl,hab,hB⟩))
 ·rw [if_pos hr]
  exact q_Fork_no a b hr
theorem v_where {q:Bk} (hs:Go.Pol.srt q.L) (hl:q.L.length≤2000) (hok:∀ v ∈ q.L,v.1 < 64∧v.2.1 < 1024∧v.2.2.1 < 1024) (a at_:Int) (w:Bool):F4 134 [stA q.L,.int .i64 a,.int .i64 at_,.bool w] (.tup [.int .i64 (q.where_ a at_ w).1,.int .i64 (q.where_ a at_ w).2]):=by
 unfold Bk.where_
 by_cases hi:inR 64 a∧inR 65536 at_
 ·rw [if_neg (by rw [Classical.not_not];exact hi)]
  obtain ⟨a',rfl,ha'⟩:=AU5 hi.1
  obtain ⟨at',rfl,hat'⟩:=AU5 hi.2
  rw [Int.toNat_natCast,Int.toNat_natCast]
  cases hf:AS8 q.L a' (at' / 64) with
  | none=>exact BF5 w (by omega) (by omega) (AR9 hf) (by omega)
  | some v =>
   obtain ⟨A,B,hL,hA,e1,e2⟩:=Al9 hs hf
   have hv:=hok v (by rw [hL];simp)
   rw [e2] at hA
   dsimp only
   by_cases hw:w=true∧v.2.2.2=false
   ·rw [if_pos hw]
    have:=q_Where_ro (v:=v) (at_:=at') (by omega) (by omega) e2 hw.2 hL hA hv.2.2 (by omega)
    rw [e1] at this;rw [hw.1];exact this
   ·rw [if_neg hw]
    have:=q_Where (v:=v) (at_:=at') (w:=w) (by omega) (by omega) e2 (fun e=>by
     cases hb:v.2.2.2
     ·exact absurd ⟨e,hb⟩ hw
     ·rfl) hL hA hv.2.2 (by omega)
    rw [e1] at this;exact this
 ·rw [if_pos hi]
  exact q_Where_no w hi
theorem BM1 {q:Bk} (hs:Go.Pol.srt q.L) (hl:q.L.length≤2000) (hok:∀ v ∈ q.L,v.1 < 64∧v.2.1 < 1024∧v.2.2.1 < 1024) (a at_ b:Int):LocU 66 q.L [.int .i64 a,.int .i64 at_,.int .u8 b] q.s (.int .i64 (q.put a at_ b).1) (q.put a at_ b).2.s:=by
 have h1:=v_where hs hl hok a at_ true
 have hq:=BO4 (s:=q.s) (a:=(q.where_ a at_ true).1) (b:=b)
 unfold Bk.put
 generalize (q.where_ a at_ true)=x at *
 obtain ⟨k,e⟩:=x
 dsimp only at *
 by_cases he:e=0
 ·rw [if_pos he]
  dsimp only
  generalize q.s.write k b=y at *
  generalize q.s=s at *
  obtain ⟨e2,s2⟩:=y
  dsimp only at *
  refine ⟨G5 E9 b66 rfl ?_,by simp [A8],A8⟩
  unfold c66
  (refine wx_Pa ?_;repeat' (first|with_reducible refine And.intro ?_ ?_|intro hsp))
  all_goals exact V7 rfl A8 rfl F8
 ·rw [if_neg he]
  dsimp only
  generalize q.s=s at *
  refine ⟨G5 E9 b66 rfl ?_,by simp [A8],A8⟩
  unfold c66
  (refine wx_Pa ?_;repeat' (first|with_reducible refine And.intro ?_ ?_|intro hsp))
  all_goals exact V7 rfl A8 rfl F8
end
end Go.Proofs.YtphggldkligldaaGreat.Sh
namespace Go.Pol
open Go.Am
def tkD (a n:Nat) (L:List Vw) (s:Sy):Int × Nat × Sy:=match BI5 L a n with
 | none=>(5,0,s)
 | some f=>if s.K f=2 then (0,f,s) else ((s.chg (f:Nat) 1 1 2 2).1,f,(s.chg (f:Nat) 1 1 2 2).2)
structure TkD (a n:Nat) (L:List Vw) (s:Sy) (r:Int × Nat × Sy):Prop where
 good:GoodS r.2.2
 up:∀ p,s.K p=2→r.2.2.K p=2
 old:∀ p,0 < cntF L p→r.2.2.B p=s.B p
 got:r.1=0→a≤r.2.1∧r.2.1 < a+n∧cntF L r.2.1=0∧r.2.2.K r.2.1=2
 eq:∀ x,tkP a n L s x=if r.1=0 then (0,r.2.1,r.2.2.page r.2.1 x) else (r.1,0,r.2.2)
theorem BT7 {a n:Nat} {L:List Vw} {s:Sy} (hg:GoodS s) (han:a+n≤1024) (hk:∀ f,a≤f→f < a+n→(s.K f=1∨s.K f=2)∧s.M f=false):TkD a n L s (tkD a n L s):=by
 unfold tkD
 cases hf:BI5 L a n with
 | none=>exact ⟨hg,fun p h=>h,fun p _=>rfl,fun h=>absurd h (by decide:¬ (5:Int)=0),fun x=>by unfold tkP;rw [hf];exact (if_neg (by decide:¬ (5:Int)=0)).symm⟩
 | some f =>
  obtain ⟨h1,h2,h3⟩:=BI4 hf
  obtain ⟨hkf,hmf⟩:=hk f h1 h2
  dsimp only
  by_cases k2:s.K f=2
  ·rw [if_pos k2]
   refine ⟨hg,fun p h=>h,fun p _=>rfl,fun _=>⟨h1,h2,h3,k2⟩,fun x=>?_⟩
   unfold tkP
   rw [hf]
   dsimp only
   rw [if_neg (by omega),if_pos rfl]
  ·rw [if_neg k2]
   have k1:s.K f=1:=hkf.resolve_right k2
   have hgc:GoodS (s.chg (f:Nat) 1 1 2 2).2:=Ad1 hg (by decide)
   have hce:=chg_err (s:=s) (f:=f) (by omega) k1 hmf
   have hc1:=Ar4 (s:=s) (f:=f) (v:=1) (w:=2) (k:=2) (by omega) k1 hmf
   refine ⟨hgc,fun p h=>?_,fun p hp=>?_,fun h=>⟨h1,h2,h3,hce h⟩,fun x=>?_⟩
   ·show (s.chg (f:Nat) 1 1 2 2).2.K p=2
    rw [hc1];split
    ·exact h
    ·rw [AT3];split
     ·rfl
     ·exact h
   ·show (s.chg (f:Nat) 1 1 2 2).2.B p=s.B p
    rw [hc1];split
    ·rfl
    ·rw [BD7,if_neg fun e=>by rw [e] at hp;omega]
   ·unfold tkP
    rw [hf]
    dsimp only
    rw [if_pos k1]
end Go.Pol
namespace Go.Proofs.YtphggldkligldaaGreat.Sh
open Go Go.Am Go.Pol
theorem plx_Pb {p:Prop} (h:p:=by ((first|exact plw|(with_reducible first|apply L9|apply J7|apply J2|apply Y8|apply q9|fail)|fail);first|done|fail)):p:=h
theorem ppx_Pb {p:Prop} (h:p:=by ((first|with_reducible assumption|(with_reducible first|apply F7|apply H6|apply R8|apply R3 _ _|apply V8|apply AH3|apply I5|apply F8|fail)|exact ppw|fail);first|done|fail)):p:=h
open Go.Proofs.YtphggldkligldaaGreat.Sh renaming plx_Pb → plx
open Go.Proofs.YtphggldkligldaaGreat.Sh renaming ppx_Pb → ppx
theorem wx_Pb {p q:Prop} (hq:q) (h:X0 q→p:=by (intro hQz;((repeat' ((try (conv=>whnf));first|refine sxA ?_|refine sxF ?_|refine G9 h ?_|refine cx_W hcn rfl rfl (by decide) rfl ?_|refine M4 hck rfl (by decide) ?_|refine M4 hcm rfl (by decide) ?_|refine G9 (by assumption) ?_|refine cx_W htk rfl rfl (by decide) rfl ?_|refine M4 w1 rfl (by decide) ?_|refine sxH ?_|((with_reducible first|apply M9 hQz|apply N7 hQz)<;>(try intro hsp hQz))|exact hQz.out))<;>(try (conv=>whnf))))):p:=h ⟨hq⟩
theorem BH4 (a k:Int):F4 56 [.int .i64 a,.int .i64 k] (.bool (decide (inR 64 a∧inR 1024 k))):=by
 refine F4.mk (I6 E9 b56 F6 ⟨A8,A8,trivial⟩ A9 rfl ?_)
 unfold c56
 (refine wx_Pb ?_;repeat' (first|with_reducible refine And.intro ?_ ?_|intro hsp))
 all_goals exact Q6 (by first|exact (decide_eq_false fun h:inR 64 a∧inR 1024 k=>by obtain ⟨⟨h1,h2⟩,h3,h4⟩:=h;omega).symm|exact decide_eq_decide.2 ⟨fun h=>⟨⟨by omega,by omega⟩,by omega,by omega⟩,fun h=>by obtain ⟨⟨h1,h2⟩,h3,h4⟩:=h;omega⟩)
theorem k_num0 (a:Int):F4 56 [.int .i64 a,.int .i64 0] (.bool (decide (inR 64 a))):=by
 have h:=BH4 a 0
 rwa [show decide (inR 64 a∧inR 1024 0)=decide (inR 64 a) from decide_eq_decide.2 ⟨fun h=>h.1,fun h=>⟨h,by decide,by decide⟩⟩] at h
section
variable {q:Bk}
theorem d_count (hg:R9 q) {f:Nat} (hf:f < 1024):As3 62 [.int .i64 (f:Nat)] q (.int .i64 (cntF q.L f:Nat)) q:=by
 have h:=v_Count hf hg.len
 refine As3.mk (G5 E9 b62 rfl ?_) (fun x hx=>by obtain rfl:=List.mem_singleton.1 hx;exact A8) A8
 unfold c62
 unfold bdN
 (refine wx_Pb ?_;repeat' (first|with_reducible refine And.intro ?_ ?_|intro hsp))
 all_goals exact AS1 rfl A8 rfl rfl
theorem d_take (hg:R9 q):As3 58 [] q (.tup [.int .i64 ((tkD q.a q.n q.L q.s).2.1:Nat),.int .i64 (tkD q.a q.n q.L q.s).1]) { q with s:=(tkD q.a q.n q.L q.s).2.2 }:=by
 have hrng:=hg.rng
 refine As3.mk (G5 E9 b58 rfl ?_) (fun x hx=>by cases hx) O4
 unfold c58
 unfold bdN
 (refine wx_Pb ?_;repeat' (first|with_reducible refine And.intro ?_ ?_|intro hsp))
 (refine G8 [0] (fun (i:Nat)=>[(4,.int .i64 ((q.a+i:Nat):Int))]) (fun (i:Nat)=>⟨bdN q 0 1,2⟩) (fun (i:Nat)=>i≤q.n∧∀ j,j < i→0 < cntF q.L (q.a+j)) (fun (i:Nat)=>q.n - i) (0) [] rfl (fun _=>by first|exact Nat.zero_le _|(dsimp only;omega)) ?_ (by ((try (conv=>whnf));exact U7)) ?_)
 ·exact ⟨Nat.zero_le _,fun j hj=>absurd hj (Nat.not_lt_zero _)⟩
 intro i hi
 obtain ⟨hi,hall⟩:=hi
 unfold bdN
 by_cases hil:i < q.n
 ·have hkd:=hg.kind (q.a+i) (by omega) (by omega)
  have hcn:=d_count hg (f:=q.a+i) (by omega)
  by_cases hc:0 < cntF q.L (q.a+i)
  ·have hnext:i+1≤q.n∧∀ j,j < i+1→0 < cntF q.L (q.a+j):=⟨hil,fun j hj=>by
    by_cases e:j=i
    ·rw [e];exact hc
    ·exact hall j (by omega)⟩
   generalize cntF q.L (q.a+i)=n at *
   (refine wx_Pb ?_;repeat' (first|with_reducible refine And.intro ?_ ?_|intro hsp))
   all_goals first|(exfalso;omega)|exact D9 (i+1) [] hnext (by first|omega|(dsimp only;omega)) rfl (by exact U7)
  ·have hc0:cntF q.L (q.a+i)=0:=by omega
   have hfr:=free_at hil hall hc0
   have hck:=q_kind (s:=q.s) (a:=((q.a+i:Nat):Int))
   rw [Az6 (by omega) hkd.2] at hck
   have hcm:=q_commit (a:=((q.a+i:Nat):Int)) (n:=1) hg.good
   have hf4:q.a+i < 1024:=by omega
   have hfn:q.a+i < q.a+q.n:=by omega
   unfold tkD
   rw [hfr]
   dsimp only
   rw [hc0] at hcn
   have hkk:=hkd.1
   generalize q.a+i=f at *
   generalize q.s.chg (f:Int) 1 1 2 2=r at *
   by_cases hk2:q.s.K f=2
   ·rw [if_pos hk2]
    rw [hk2] at hck
    (refine wx_Pb ?_;repeat' (first|with_reducible refine And.intro ?_ ?_|intro hsp))
    all_goals first|exact AS1 rfl O4 rfl rfl|(exfalso;omega)
   ·rw [if_neg hk2]
    rw [hkk.resolve_right hk2] at hck
    (refine wx_Pb ?_;repeat' (first|with_reducible refine And.intro ?_ ?_|intro hsp))
    all_goals first|exact AS1 (q:=⟨q.a,q.n,q.L,r.2⟩) rfl O4 rfl rfl|(exfalso;omega)
 ·obtain rfl:i=q.n:=by omega
  have hfr:=free_not hall
  unfold tkD
  rw [hfr]
  dsimp only
  (refine wx_Pb ?_;repeat' (first|with_reducible refine And.intro ?_ ?_|intro hsp))
  all_goals exact AS1 rfl O4 rfl rfl
theorem d_Map (hg:R9 q) (x k:Int):As3 19 [.int .i64 x,.int .i64 k] q (.int .i64 (q.map x k).1) (q.map x k).2:=by
 have hnm:=BH4 x k
 have hlen:=hg.len
 unfold Bk.map
 by_cases hin:inR 64 x∧inR 1024 k
 ·rw [if_neg (by rw [Classical.not_not];exact hin)]
  rw [decide_eq_true hin] at hnm
  cases hf:AS8 q.L x.toNat k.toNat with
  | some v =>
   have hfi:=v_Find hg.sr hin hlen hf
   unfold stA at hfi
   rw [if_pos (by rfl)]
   refine As3.mk (G5 E9 b19 rfl ?_) O5 A8
   unfold c19
   unfold bdN
   (refine wx_Pb ?_;repeat' (first|with_reducible refine And.intro ?_ ?_|intro hsp))
   all_goals first|exact AS1 rfl A8 rfl rfl|(exfalso;omega)
  | none =>
   have hfi:=Am8 hin hlen hf
   unfold stA at hfi
   rw [if_neg (by simp)]
   by_cases hl:2000≤q.L.length
   ·rw [if_pos hl]
    refine As3.mk (G5 E9 b19 rfl ?_) O5 A8
    unfold c19
    unfold bdN
    (refine wx_Pb ?_;repeat' (first|with_reducible refine And.intro ?_ ?_|intro hsp))
    all_goals first|exact AS1 rfl A8 rfl rfl|(exfalso;omega)
   ·rw [if_neg hl]
    have htk:=d_take hg
    have tk:=BT7 (L:=q.L) hg.good hg.rng.2 hg.kind
    rw [tk.eq]
    generalize hr:tkD q.a q.n q.L q.s=r at *
    obtain ⟨e,f,s1⟩:=r
    dsimp only at *
    by_cases he:e=0
    ·rw [if_pos he,if_pos rfl]
     subst he
     have hgot:=tk.got rfl
     have hgs:=tk.good
     dsimp only at hgot hgs
     have hf4:f < 1024:=by have:=hgot.2.1;have:=hg.rng.2;omega
     have hmp:=v_Map hin hf4 hf (by omega)
     unfold stA at hmp
     refine As3.mk (G5 E9 b19 rfl ?_) O5 A8
     unfold c19
     unfold bdN
     (refine wx_Pb ?_;repeat' (first|with_reducible refine And.intro ?_ ?_|intro hsp))
     all_goals first|(exfalso;omega)|skip
     have hw0:=wrK_0 (s:=s1) (f:=f) (x:=fun _=>0)
     (refine G8 [0,1,2,9] (fun (j:Nat)=>[(10,.int .i64 (j:Nat))]) (fun (j:Nat)=>⟨bdN ⟨q.a,q.n,q.L,wrK s1 f (fun _=>0) j⟩ 0 1,2⟩) (fun (j:Nat)=>j≤64) (fun (j:Nat)=>64 - j) (0) [] rfl (fun _=>by first|exact Nat.zero_le _|(dsimp only;omega)) ?_ (by ((try (conv=>whnf));(rw [hw0]);exact U7)) ?_)
     ·exact Nat.zero_le _
     intro j hj
     unfold bdN
     dsimp only
     by_cases hjl:j < 64
     ·have w1:=BO4 (s:=wrK s1 f (fun _=>0) j) (a:=(f:Int) * 64+(j:Nat)) (b:=0)
      rw [wrK_s hgot.2.2.2 hf4 hjl] at w1
      dsimp only at w1
      (refine wx_Pb ?_;repeat' (first|with_reducible refine And.intro ?_ ?_|intro hsp))
      all_goals first|(exfalso;omega)|exact D9 (j+1) [] (by (try dsimp only);omega) (by first|omega|(dsimp only;omega)) rfl (by exact U7)
     ·obtain rfl:j=64:=by omega
      rw [Ax0 hgs]
      (refine wx_Pb ?_;repeat' (first|with_reducible refine And.intro ?_ ?_|intro hsp))
      all_goals first|exact AS1 (q:=⟨q.a,q.n,AY4 (x.toNat,k.toNat,f,true) q.L,s1.page f fun _=>0⟩) rfl A8 rfl rfl|(exfalso;omega)
    ·rw [if_neg he,if_neg he]
     refine As3.mk (G5 E9 b19 rfl ?_) O5 A8
     unfold c19
     unfold bdN
     (refine wx_Pb ?_;repeat' (first|with_reducible refine And.intro ?_ ?_|intro hsp))
     all_goals first|exact AS1 (q:=⟨q.a,q.n,q.L,s1⟩) rfl A8 rfl rfl|(exfalso;omega)
 ·rw [if_pos hin]
  rw [decide_eq_false hin] at hnm
  refine As3.mk (G5 E9 b19 rfl ?_) O5 A8
  unfold c19
  unfold bdN
  (refine wx_Pb ?_;repeat' (first|with_reducible refine And.intro ?_ ?_|intro hsp))
  all_goals first|exact AS1 rfl A8 rfl rfl|(exfalso;omega)
end
end Go.Proofs.YtphggldkligldaaGreat.Sh
namespace Go.Proofs.YtphggldkligldaaGreat.Sh
open Go Go.Am Go.Pol
open Go.Proofs.YtphggldkligldaaGreat.Sh renaming plx_Pb → plx
open Go.Proofs.YtphggldkligldaaGreat.Sh renaming ppx_Pb → ppx
theorem wx_Pc {p q:Prop} (hq:q) (h:X0 q→p:=by (intro hQz;((repeat' ((try (conv=>whnf));first|refine sxA ?_|refine sxF ?_|refine G9 (by assumption) ?_|refine cx_W hgv rfl rfl (by decide) rfl ?_|refine K5 (by assumption) ?_|refine O1 (by assumption) ?_|(refine M7 E9 b156 rfl ?_;unfold c156)|refine sxH ?_|((with_reducible first|apply M9 hQz|apply N7 hQz)<;>(try intro hsp hQz))|exact hQz.out))<;>(try (conv=>whnf))))):p:=h ⟨hq⟩
section
variable {q:Bk}
theorem d_Take (hg:R9 q) (x y:Int):As3 20 [.int .i64 x,.int .i64 y] q (.tup [.int .i64 (q.take x y).1,.int .i64 (q.take x y).2.1]) (q.take x y).2.2:=by
 have hfk:=v_Fork hg.sr hg.len x y
 have hd:(q.take x y).2.1 ≠ 0→(q.take x y).2.2.L=q.L:=fun h=>by
  unfold Bk.take at h ⊢
  by_cases e1:¬ (inR 64 x∧inR 64 y)
  ·rw [if_pos e1]
  ·rw [if_neg e1] at h ⊢
   by_cases e2:x=y
   ·rw [if_pos e2]
   ·rw [if_neg e2] at h ⊢
    by_cases e3:(ofA y.toNat q.L).length ≠ 0
    ·rw [if_pos e3]
    ·rw [if_neg e3] at h ⊢
     by_cases e4:2000 < q.L.length+(ofA x.toNat q.L).length
     ·rw [if_pos e4]
     ·rw [if_neg e4] at h;exact absurd rfl h
 have ha:(q.take x y).2.2.a=q.a∧(q.take x y).2.2.n=q.n∧(q.take x y).2.2.s=q.s:=by unfold Bk.take;(repeat' split)<;>exact ⟨rfl,rfl,rfl⟩
 refine As3.mk (G5 E9 b20 rfl ?_) O5 O4
 unfold c20
 unfold bdN
 rw [ha.1,ha.2.1,ha.2.2]
 generalize q.take x y=r at *
 obtain ⟨n,e,ra,rn,rL,rs⟩:=r
 unfold stA at hfk
 dsimp only at *
 by_cases he:e=0
 ·subst he
  (refine wx_Pc ?_;repeat' (first|with_reducible refine And.intro ?_ ?_|intro hsp))
  all_goals first|exact AS1 (q:=⟨q.a,q.n,rL,q.s⟩) rfl O4 rfl rfl|(exfalso;omega)
 ·have hd:=hd he
  subst hd
  (refine wx_Pc ?_;repeat' (first|with_reducible refine And.intro ?_ ?_|intro hsp))
  all_goals first|exact AS1 (q:=⟨q.a,q.n,q.L,q.s⟩) rfl O4 rfl rfl|(exfalso;omega)
end
end Go.Proofs.YtphggldkligldaaGreat.Sh
namespace Go.Pol
open Go.Am
theorem wrK_ne {s:Sy} {f p:Nat} {x:Nat→Int} {k:Nat} (h:p ≠ f):(wrK s f x k).B p=s.B p:=by unfold wrK AP1;exact if_neg h
end Go.Pol
namespace Go.Proofs.YtphggldkligldaaGreat.Sh
open Go Go.Am Go.Pol
theorem plx_Pd {p:Prop} (h:p:=by ((first|exact plw|(with_reducible first|apply L9|apply J7|apply J2|apply Y8|apply q9|apply AA1|apply AG5|fail)|fail);first|done|fail)):p:=h
open Go.Proofs.YtphggldkligldaaGreat.Sh renaming plx_Pd → plx
open Go.Proofs.YtphggldkligldaaGreat.Sh renaming ppx_Jg → ppx
theorem wx_Pd {p q:Prop} (hq:q) (h:X0 q→p:=by (intro hQz;((repeat' ((try (conv=>whnf));first|refine sxA ?_|refine AC2 (by with_reducible assumption) ?_|refine sxF ?_|refine G9 (by assumption) ?_|refine sxH ?_|((with_reducible first|apply M9 hQz|apply N7 hQz)<;>(try intro hsp hQz))|exact hQz.out))<;>(try (conv=>whnf))))):p:=h ⟨hq⟩
theorem wx_Pdn {p q:Prop} (hq:q) (h:X0 q→p:=by (intro hQz;((repeat' ((try (conv=>whnf));first|refine sxA ?_|refine AC2 (by with_reducible assumption) ?_|refine sxN ?_|refine G9 (by assumption) ?_|refine cx_W hcn rfl rfl (by decide) rfl ?_|refine cx_u hwr rfl (by decide) ?_|refine dcx_u hwr rfl rfl ?_|refine cx_W htk rfl rfl (by decide) rfl ?_|refine M4 r1 rfl (by decide) ?_|refine M4 w1 rfl (by decide) ?_|refine AN9 r1 rfl rfl ?_|refine AN9 w1 rfl rfl ?_|refine sxH ?_|((with_reducible first|apply M9 hQz|apply N7 hQz)<;>(try intro hsp hQz))|exact hQz.out))<;>(try (conv=>whnf))))):p:=h ⟨hq⟩
section
variable {q:Bk}
set_option maxRecDepth 20000 in
theorem d_Write (hg:R9 q) (x a v:Int):As3 21 [.int .i64 x,.int .i64 a,.int .u8 v] q (.int .i64 (q.write x a v).1) (q.write x a v).2:=by
 have hsp:=k_num0 x
 have hlen:=hg.len
 unfold Bk.write
 by_cases hin:inR 64 x∧inR 65536 a
 ·rw [if_neg (by rw [Classical.not_not];exact hin)]
  rw [decide_eq_true hin.1] at hsp
  obtain ⟨a',rfl,ha⟩:=AU5 hin.2
  have hq:=q64 (t:=a') (by omega)
  rw [Int.toNat_natCast]
  have hk:inR 1024 ((a' / 64:Nat):Int):=⟨by omega,by omega⟩
  have hfn:∀ r,AS8 q.L x.toNat (a' / 64)=r→AS8 q.L x.toNat ((a' / 64:Nat):Int).toNat=r:=fun r hr=>by rw [Int.toNat_natCast];exact hr
  cases hf:AS8 q.L x.toNat (a' / 64) with
  | none =>
   have hfi:=Am8 ⟨hin.1,hk⟩ hlen (hfn _ hf)
   unfold stA at hfi
   refine As3.mk (G5 E9 b21 rfl ?_) (by simp [A8]) A8
   unfold c21
   unfold bdN
   generalize ((a' / 64:Nat):Int)=kk at *
   (refine wx_Pd ?_;repeat' (first|with_reducible refine And.intro ?_ ?_|intro hsp))
   all_goals first|exact AS1 rfl A8 rfl rfl|(exfalso;omega)
  | some u =>
   have hfi:=v_Find hg.sr ⟨hin.1,hk⟩ hlen (hfn _ hf)
   unfold stA at hfi
   have huv:=hg.view (AI8 hf).1
   have hu4:u.2.2.1 < 1024:=by have:=hg.rng.2;omega
   have hcn:=d_count hg hu4
   have hcu:0 < cntF q.L u.2.2.1:=AS3.2 ⟨u,(AI8 hf).1,rfl⟩
   dsimp only
   by_cases hw:u.2.2.2=true
   ·rw [if_pos hw]
    rw [hw] at hfi
    have hwr:=BM1 hg.sr hg.len hg.ok x (a':Nat) v
    have hpa:=put_a (q:=q) (x:=x) (t:=(a':Nat)) (v:=v)
    refine As3.mk (G5 E9 b21 rfl ?_) (by simp [A8]) A8
    unfold c21
    unfold bdN
    generalize ((a' / 64:Nat):Int)=kk at *
    generalize cntF q.L u.2.2.1=n at *
    rw [hpa.1,hpa.2.1,hpa.2.2]
    generalize q.put x (a':Nat) v=r at *
    (refine wx_Pdn ?_;repeat' (first|with_reducible refine And.intro ?_ ?_|intro hsp))
    all_goals first|exact AS1 (q:=⟨q.a,q.n,q.L,r.2.s⟩) rfl A8 rfl rfl|(exfalso;omega)
   ·rw [if_neg hw]
    have hw:u.2.2.2=false:=by cases hb:u.2.2.2<;>simp_all
    rw [hw] at hfi
    by_cases hc:cntF q.L u.2.2.1=1
    ·rw [if_pos hc]
     rw [hc] at hcn
     have hpr:=v_Protect hg.sr ⟨hin.1,hk⟩ hlen (hfn _ hf) true
     unfold stA at hpr
     rw [Int.toNat_natCast] at hpr
     have hsr:=Ay1 (L:=q.L) (a:=x.toNat) (k:=a' / 64) (g:=prV true) (fun v=>⟨rfl,rfl⟩) hg.sr
     have hle:(AQ8 (prV true) x.toNat (a' / 64) q.L).length≤2000:=by unfold AQ8;rw [List.length_map];exact hlen
     have hok:∀ v ∈ AQ8 (prV true) x.toNat (a' / 64) q.L,v.1 < 64∧v.2.1 < 1024∧v.2.2.1 < 1024:=fun v hv=>by
      obtain ⟨w,hw,rfl⟩:=Af0.1 hv
      split
      ·exact hg.ok w hw
      ·exact hg.ok w hw
     have hwr:=BM1 (q:=⟨q.a,q.n,AQ8 (prV true) x.toNat (a' / 64) q.L,q.s⟩) hsr hle hok x (a':Nat) v
     have hpa:=put_a (q:=⟨q.a,q.n,AQ8 (prV true) x.toNat (a' / 64) q.L,q.s⟩) (x:=x) (t:=(a':Nat)) (v:=v)
     clear hok hsr hle
     refine As3.mk (G5 E9 b21 rfl ?_) (by simp [A8]) A8
     unfold c21
     unfold bdN
     rw [hpa.1,hpa.2.1,hpa.2.2]
     generalize AQ8 (prV true) x.toNat (a' / 64) q.L=L1 at *
     generalize ((a' / 64:Nat):Int)=kk at *
     dsimp only at hwr ⊢
     generalize Bk.put ⟨q.a,q.n,L1,q.s⟩ x (a':Nat) v=r at *
     (refine wx_Pdn ?_;repeat' (first|with_reducible refine And.intro ?_ ?_|intro hsp))
     all_goals first|exact AS1 (q:=⟨q.a,q.n,L1,r.2.s⟩) rfl A8 rfl rfl|(exfalso;omega)
    ·rw [if_neg hc]
     have htk:=d_take hg
     have tk:=BT7 (L:=q.L) hg.good hg.rng.2 hg.kind
     rw [tk.eq]
     generalize hr:tkD q.a q.n q.L q.s=r at *
     obtain ⟨e,f,s1⟩:=r
     dsimp only at *
     by_cases he:e=0
     ·rw [if_pos he,if_pos rfl]
      subst he
      have hgot:=tk.got rfl
      have hgs:=tk.good
      have hup:=tk.up u.2.2.1 huv.2.2
      have hold:=tk.old u.2.2.1 hcu
      dsimp only at hgot hgs hup hold
      have hf4:f < 1024:=by have:=hgot.2.1;have:=hg.rng.2;omega
      have hne:u.2.2.1 ≠ f:=fun e=>by rw [e] at hcu;omega
      have hsp2:=v_Split hg.sr ⟨hin.1,hk⟩ hlen (hfn _ hf) hf4 hgot.2.2.1
      unfold stA at hsp2
      rw [Int.toNat_natCast] at hsp2
      have hsr:=Ay1 (L:=q.L) (a:=x.toNat) (k:=a' / 64) (g:=frV f) (fun v=>⟨rfl,rfl⟩) hg.sr
      have hle:(AQ8 (frV f) x.toNat (a' / 64) q.L).length≤2000:=by unfold AQ8;rw [List.length_map];exact hlen
      have hok:∀ v ∈ AQ8 (frV f) x.toNat (a' / 64) q.L,v.1 < 64∧v.2.1 < 1024∧v.2.2.1 < 1024:=fun v hv=>by
       obtain ⟨w,hw,rfl⟩:=Af0.1 hv
       have:=hg.ok w hw
       split
       ·exact ⟨this.1,this.2.1,hf4⟩
       ·exact this
      have hwr:=BM1 (q:=⟨q.a,q.n,AQ8 (frV f) x.toNat (a' / 64) q.L,s1.page f (q.s.B u.2.2.1)⟩) hsr hle hok x (a':Nat) v
      have hpa:=put_a (q:=⟨q.a,q.n,AQ8 (frV f) x.toNat (a' / 64) q.L,s1.page f (q.s.B u.2.2.1)⟩) (x:=x) (t:=(a':Nat)) (v:=v)
      clear hok hsr hle hr tk hfn hf
      refine As3.mk (G5 E9 b21 rfl ?_) (by simp [A8]) A8
      unfold c21
      unfold bdN
      rw [hpa.1,hpa.2.1,hpa.2.2]
      generalize AQ8 (frV f) x.toNat (a' / 64) q.L=L1 at *
      generalize ((a' / 64:Nat):Int)=kk at *
      generalize cntF q.L u.2.2.1=n at *
      dsimp only at hwr ⊢
      generalize hrr:Bk.put ⟨q.a,q.n,L1,s1.page f (q.s.B u.2.2.1)⟩ x (a':Nat) v=r at *
      generalize hy:q.s.B u.2.2.1=y at *
      generalize u.2.2.1=uf at *
      (refine wx_Pdn ?_;repeat' (first|with_reducible refine And.intro ?_ ?_|intro hsp))
      all_goals first|(exfalso;omega)|skip
      have hw0:=wrK_0 (s:=s1) (f:=f) (x:=y)
      (refine G8 [0,1,2,3,9,10,12] (fun (j:Nat)=>[(14,.int .i64 (j:Nat))]) (fun (j:Nat)=>⟨bdN ⟨q.a,q.n,q.L,wrK s1 f y j⟩ 0 1++[(2,.cells [.int .i64 x,.int .i64 kk,.int .i64 (uf:Nat),.bool false])],3⟩) (fun (j:Nat)=>j≤64) (fun (j:Nat)=>64 - j) (0) [] rfl (fun _=>by first|exact Nat.zero_le _|(dsimp only;omega)) ?_ (by ((try (conv=>whnf));(rw [hw0]);exact U7)) ?_)
      ·exact Nat.zero_le _
      intro j hj
      unfold bdN
      dsimp only
      by_cases hjl:j < 64
      ·have r1:=q_read (s:=wrK s1 f y j) (a:=(uf:Int) * 64+(j:Nat))
       rw [read_at (by rw [wrK_K];exact hup) hu4 hjl,wrK_ne hne,hold] at r1
       have w1:=BO4 (s:=wrK s1 f y j) (a:=(f:Int) * 64+(j:Nat)) (b:=y j)
       rw [wrK_s hgot.2.2.2 hf4 hjl] at w1
       dsimp only at r1 w1
       clear hwr hrr
       (refine wx_Pdn ?_;repeat' (first|with_reducible refine And.intro ?_ ?_|intro hsp))
       all_goals first|(exfalso;omega)|exact D9 (j+1) [] (by (try dsimp only);omega) (by first|omega|(dsimp only;omega)) rfl (by exact U7)
      ·obtain rfl:j=64:=by omega
       rw [Ax0 hgs]
       (refine wx_Pdn ?_;repeat' (first|with_reducible refine And.intro ?_ ?_|intro hsp))
       all_goals first|exact AS1 (q:=⟨q.a,q.n,L1,r.2.s⟩) rfl A8 rfl rfl|(exfalso;omega)
     ·rw [if_neg he,if_neg he]
      refine As3.mk (G5 E9 b21 rfl ?_) (by simp [A8]) A8
      unfold c21
      unfold bdN
      generalize ((a' / 64:Nat):Int)=kk at *
      generalize cntF q.L u.2.2.1=n at *
      (refine wx_Pdn ?_;repeat' (first|with_reducible refine And.intro ?_ ?_|intro hsp))
      all_goals first|exact AS1 (q:=⟨q.a,q.n,q.L,s1⟩) rfl A8 rfl rfl|(exfalso;omega)
 ·rw [if_pos hin]
  refine As3.mk (G5 E9 b21 rfl ?_) (by simp [A8]) A8
  unfold c21
  unfold bdN
  unfold inR at hin
  by_cases hx1:inR 64 x
  ·rw [decide_eq_true hx1] at hsp
   (refine wx_Pd ?_;repeat' (first|with_reducible refine And.intro ?_ ?_|intro hsp))
   all_goals first|exact AS1 rfl A8 rfl rfl|(exfalso;exact hin ⟨hx1,by omega,by omega⟩)
  ·rw [decide_eq_false hx1] at hsp
   (refine wx_Pd ?_;repeat' (first|with_reducible refine And.intro ?_ ?_|intro hsp))
   all_goals first|exact AS1 rfl A8 rfl rfl|(exfalso;omega)
end
end Go.Proofs.YtphggldkligldaaGreat.Sh
namespace Go.Pol
open Go.Am
end Go.Pol
namespace Go.Proofs.YtphggldkligldaaGreat.Sh
open Go Go.Am Go.Pol
open Go.Proofs.YtphggldkligldaaGreat.Sh renaming plx_Pd → plx
open Go.Proofs.YtphggldkligldaaGreat.Sh renaming ppx_Jg → ppx
section
variable {q:Bk}
end
end Go.Proofs.YtphggldkligldaaGreat.Sh
namespace Go.Proofs.YtphggldkligldaaGreat.Sh
open Go Go.Am Go.Pol
theorem plx_Pf {p:Prop} (h:p:=by ((first|exact plw|(with_reducible first|apply L9|apply J7|apply J2|apply Y8|apply q9|apply AA1|apply AG5|apply X4|fail)|fail);first|done|fail)):p:=h
open Go.Proofs.YtphggldkligldaaGreat.Sh renaming plx_Pf → plx
open Go.Proofs.YtphggldkligldaaGreat.Sh renaming ppx_Jg → ppx
theorem wx_Pfn {p q:Prop} (hq:q) (h:X0 q→p:=by (intro hQz;((repeat' ((try (conv=>whnf));first|refine sxA ?_|refine apps_0 hsrc rfl rfl ?_|refine AH7 (Aa7 (AI0 L rfl) rfl (by first|(simp [H8 K3];done)|(simp [H8 K3];omega)|fail) (by first|decide|omega) ⟨by first|decide|omega,by first|decide|omega⟩) ?_|refine BS7 (AI0 L rfl) rfl (by first|(simp [H8 K3];done)|(simp [H8 K3];omega)|fail) (by first|decide|omega) ⟨by first|decide|omega,by first|decide|omega⟩ ?_|refine sxN ?_|refine sxH ?_|((with_reducible first|apply M9 hQz|apply N7 hQz)<;>(try intro hsp hQz))|exact hQz.out))<;>(try (conv=>whnf))))):p:=h ⟨hq⟩
section
variable {q:Bk}
theorem q_Copy {L:List Vw} (hl:L.length≤2000):F4 78 [stA L] (stA L):=by
 unfold stA
 refine F4.mk (I6 E9 b78 F6 ⟨H9,trivial⟩ H9 rfl ?_)
 unfold c78
 by_cases h0:L.length=0
 ·obtain rfl:=List.eq_nil_of_length_eq_zero h0
  have hsrc:∀ {at_:At},Ai1 at_ 4 (.isl (List.map vwC []))=some ([],0,[]):=fun {at_}=>AI0 [] rfl
  (refine wx_Pfn ?_;repeat' (first|with_reducible refine And.intro ?_ ?_|intro hsp))
  all_goals exact AN8 (AN2 (C8 (Ah7 [] rfl rfl rfl) H7))
 ·have hpos:0 < L.length:=by omega
  have hfl:=H8 K3 L
  (refine wx_Pfn ?_;repeat' (first|with_reducible refine And.intro ?_ ?_|intro hsp))
  all_goals exact AN8 (AN2 (C8 (Ah7 L rfl rfl (by simp)) H7))
end
end Go.Proofs.YtphggldkligldaaGreat.Sh
namespace Go.Proofs.YtphggldkligldaaGreat.Sh
open Go Go.Am Go.Pol
theorem plx_Pg {p:Prop} (h:p:=by ((first|exact plw|(with_reducible first|apply L9|apply J7|apply J2|apply Y8|apply q9|apply AA1|apply AG5|apply X4|apply Ak2 _|apply AW7 _|apply Ao0|apply Q9|apply U9|fail)|fail);first|done|fail)):p:=h
open Go.Proofs.YtphggldkligldaaGreat.Sh renaming plx_Pg → plx
open Go.Proofs.YtphggldkligldaaGreat.Sh renaming ppx_Jj → ppx
theorem dcx_b0 {f:Nat} {avs:List AV} {q q':Bk} {t t':TS} {o i a b c d e g:Nat} {h:Hp} {r:AV} {K:AV→Up→List Nat→Prop} (hc:AP2 f 0 avs q t r q' t')
  (g0:lk h.l o=some (.cells [.ptr i 0])) (g1:lk h.l i=some (.cells [.ptr a 0,.ptr g 0,.int .i64 (q.a:Nat),.int .i64 (q.n:Nat)])) (g2:lk h.l a=some (.cells (tabC b e t.C))) (g3:lk h.l b=some (.cells [.sl c 0 t.n t.n 7,.sl d 0 t.m t.m 3,.int .i64 (t.S.fr:Nat)])) (g4:lk h.l c=some (.cells (D6 t.n t.V t.W t.V3 t.V4 t.S.L t.S.N t.S.P))) (g5:lk h.l d=some (.cells (O6 t.m t.S.A t.S.B t.S.C))) (g6:lk h.l e=some (.maps (t.E.map AO5))) (g7:lk h.l g=some (.cells q.s.a))
  (hd:Ae1 [o,i,a,b,c,d,e,g]=true) (hnx':[o,i,a,b,c,d,e,g].contains h.next=false)
  (hk:K r [(o,some (.cells [.ptr i 0])),(i,some (.cells [.ptr a 0,.ptr g 0,.int .i64 (q'.a:Nat),.int .i64 (q'.n:Nat)])),(a,some (.cells (tabC b e t'.C))),(b,some (.cells [.sl c 0 t'.n t'.n 7,.sl d 0 t'.m t'.m 3,.int .i64 (t'.S.fr:Nat)])),(c,some (.cells (D6 t'.n t'.V t'.W t'.V3 t'.V4 t'.S.L t'.S.N t'.S.P))),(d,some (.cells (O6 t'.m t'.S.A t'.S.B t'.S.C))),(e,some (.maps (t'.E.map AO5))),(g,some (.cells q'.s.a))] [o,i,a,b,c,d,e,g]):AV8 Tryz.prog G0 f (.ptr o 0::avs) h K:=by
 have hnx:h.next ∉ [o,i,a,b,c,d,e,g]:=fun hm=>by rw [List.contains_eq_mem,decide_eq_false_iff_not] at hnx';exact hnx' hm
 have e0:enter [o,i,a,b,c,d,e,g] o 0:=rfl
 have e1:enter [o,i,a,b,c,d,e,g] i 1:=rfl
 have e2:enter [o,i,a,b,c,d,e,g] a 2:=rfl
 have e3:enter [o,i,a,b,c,d,e,g] b 3:=rfl
 have e4:enter [o,i,a,b,c,d,e,g] c 4:=rfl
 have e5:enter [o,i,a,b,c,d,e,g] d 5:=rfl
 have e6:enter [o,i,a,b,c,d,e,g] e 6:=rfl
 have e7:enter [o,i,a,b,c,d,e,g] g 7:=rfl
 have k0:R7 [o,i,a,b,c,d,e,g] 0 o:=rfl
 have k1:R7 [o,i,a,b,c,d,e,g] 1 i:=rfl
 have k2:R7 [o,i,a,b,c,d,e,g] 2 a:=rfl
 have k3:R7 [o,i,a,b,c,d,e,g] 3 b:=rfl
 have k4:R7 [o,i,a,b,c,d,e,g] 4 c:=rfl
 have k5:R7 [o,i,a,b,c,d,e,g] 5 d:=rfl
 have k6:R7 [o,i,a,b,c,d,e,g] 6 e:=rfl
 have k7:R7 [o,i,a,b,c,d,e,g] 7 g:=rfl
 refine Aa3 (l1:=bkN q' t' o i a b c d e g) [o,i,a,b,c,d,e,g] hc.out F6 hd
  (.cons e0 g0 ⟨J4 e1,trivial⟩ (.cons e1 g1 ⟨J4 e2,J4 e7,D5 A8,D5 A8,trivial⟩ (.cons e2 g2 (AK4 e3 e6) (.cons e3 g3 ⟨Y3 e4,Y3 e5,D5 A8,trivial⟩ (.cons e4 g4 X8 (.cons e5 g5 p9 (.maps e6 g6 K4 (.cons e7 g7 (C9 I5) .nil))))))))
  hnx ?_ ?_ ⟨J4 e0,C9 hc.pa⟩ (D5 hc.pr)
  (.cons k0 ⟨J4 k1,trivial⟩ (.cons k1 ⟨J4 k2,J4 k7,D5 A8,D5 A8,trivial⟩ (.cons k2 (AK4 k3 k6) (.cons k3 ⟨Y3 k4,Y3 k5,D5 A8,trivial⟩ (.cons k4 X8 (.cons k5 p9 (.maps k6 K4 (.cons k7 (C9 I5) .nil)))))))) hk
 ·intro x hx
  simp only [bkN,rdN,lk]
  repeat' split
  all_goals first|exact ⟨_,rfl⟩|(exfalso;simp only [List.mem_cons,List.not_mem_nil,or_false] at hx;omega)
 ·intro j x hx
  have : j < 8:=(List.getElem?_eq_some_iff.1 hx).1
  simp only [bkN,rdN,lk]
  repeat' split
  all_goals first|exact ⟨_,rfl⟩|(exfalso;omega)
theorem dcx_W {f:Nat} {avs:List AV} {q q':Bk} {r:AV} {o g:Nat} {h:Hp} {K:AV→Up→List Nat→Prop} (hc:As3 f avs q r q')
  (h0:lk h.l o=some (.cells [.ptr g 0,.int .i64 (q.a:Nat),.int .i64 (q.n:Nat),.isl (q.L.map vwC)])) (h1:lk h.l g=some (.cells q.s.b))
  (hd:Ae1 [o,g]=true) (hnx':[o,g].contains h.next=false)
  (hk:K r [(o,some (.cells [.ptr g 0,.int .i64 (q'.a:Nat),.int .i64 (q'.n:Nat),.isl (q'.L.map vwC)])),(g,some (.cells q'.s.b))] [o,g]):AV8 Tryz.prog G0 f (.ptr o 0::avs) h K:=by
 have hnx:h.next ∉ [o,g]:=fun hm=>by rw [List.contains_eq_mem,decide_eq_false_iff_not] at hnx';exact hnx' hm
 have e0:enter [o,g] o 0:=rfl
 have e1:enter [o,g] g 1:=rfl
 have k0:R7 [o,g] 0 o:=rfl
 have k1:R7 [o,g] 1 g:=rfl
 refine Aa3 (l1:=bdN q' o g) [o,g] hc.out F6 hd
  (.cons e0 h0 ⟨J4 e1,D5 A8,D5 A8,D5 J2,trivial⟩ (.cons e1 h1 (C9 F8) .nil))
  hnx ?_ ?_ ⟨J4 e0,C9 hc.pa⟩ (D5 hc.pr)
  (.cons k0 ⟨J4 k1,D5 A8,D5 A8,D5 J2,trivial⟩ (.cons k1 (C9 F8) .nil)) hk
 ·intro x hx
  simp only [bdN,lk]
  repeat' split
  all_goals first|exact ⟨_,rfl⟩|(exfalso;simp only [List.mem_cons,List.not_mem_nil,or_false] at hx;omega)
 ·intro j x hx
  have : j < 2:=(List.getElem?_eq_some_iff.1 hx).1
  simp only [bdN,lk]
  repeat' split
  all_goals first|exact ⟨_,rfl⟩|(exfalso;omega)
end Go.Proofs.YtphggldkligldaaGreat.Sh
namespace Go.Pol
open Go.Am
def Bk.run (b:Bk) (X:List Ax):Nat→Bk
 | 0=>b
 | k+1=>((b.run X k).al (nth dA X k)).2
end Go.Pol
namespace Go.Proofs.YtphggldkligldaaGreat.Sh
open Go Go.Am Go.Pol
theorem py_good {p:Py} (h1:(AJ9 p.l).2=0) (h2:stat p.a p.n) (h3:((Sy.new p.l).chg p.a p.n 0 1 0).1=0):R9 p.b∧OutB p.b∧OwnB p.b∧ByS p.b.s∧(p.l=[]→As2 p.b) :=
 BW8 h1 ⟨h2.1,h2.2.2.1,by have:=h2.2.2.2;omega⟩ h3 p.b rfl
end Go.Proofs.YtphggldkligldaaGreat.Sh
namespace Go.Proofs.YtphggldkligldaaGreat.Sh
open Go Go.Am Go.Pol
theorem plx_Ka {p:Prop} (h:p:=by ((first|exact plw|(with_reducible first|apply L9|apply J7|apply J2|apply Y8|apply q9|apply AA1|apply Q7|apply AG5|apply Q9|apply U9|apply Ak2 _|apply X4|apply plain_sn0|fail)|fail);first|done|fail)):p:=h
theorem ppx_Ka {p:Prop} (h:p:=by ((first|with_reducible assumption|(with_reducible first|apply F7|apply H6|apply R8|apply R3 _ _|apply V8|apply AH3|apply I5|apply F8|apply AK7|apply AO0|apply I7 AB0|apply AY0 _|apply hy|fail)|exact ppw|fail);first|done|fail)):p:=h
open Go.Proofs.YtphggldkligldaaGreat.Sh renaming plx_Ka → plx
open Go.Proofs.YtphggldkligldaaGreat.Sh renaming ppx_Ka → ppx
theorem wx_Ka {p q:Prop} (hq:q) (h:X0 q→p:=by (intro hQz;((repeat' ((try (conv=>whnf));first|refine sxA ?_|refine I4 h0 ?_|refine sxF ?_|refine G9 h ?_|(refine M7 E9 b51 rfl ?_;unfold c51)|(refine M7 E9 b30 rfl ?_;unfold c30)|(refine M7 E9 b31 rfl ?_;unfold c31)|(refine M7 E9 b32 rfl ?_;unfold c32)|(refine M7 E9 b16 rfl ?_;unfold c16)|(refine M7 E9 b33 rfl ?_;unfold c33)|(refine M7 E9 b34 rfl ?_;unfold c34)|(refine M7 E9 b35 rfl ?_;unfold c35)|(refine M7 E9 b36 rfl ?_;unfold c36)|(refine M7 E9 b37 rfl ?_;unfold c37)|(refine M7 E9 b27 rfl ?_;unfold c27)|refine G9 hs ?_|(refine M7 E9 b38 rfl ?_;unfold c38)|(refine M7 E9 b24 rfl ?_;unfold c24)|(refine M7 E9 b39 rfl ?_;unfold c39)|(refine M7 E9 b82 rfl ?_;unfold c82)|refine G9 hsh ?_|refine sxH ?_|((with_reducible first|apply M9 hQz|apply N7 hQz)<;>(try intro hsp hQz))|exact hQz.out))<;>(try (conv=>whnf))))):p:=h ⟨hq⟩
theorem plain_sn0:Plain (.agg [.int .i64 0,.int .i64 0,.nils]):=P5 fun x hx=>by
 simp only [List.mem_cons,List.not_mem_nil,or_false] at hx
 rcases hx with rfl|rfl|rfl<;>first|exact A8|exact AJ4
theorem k_same {a n:Int} {L:List Vw} (hl:L.length≤4000):F4 26 [.agg [.int .i64 a,.int .i64 n,.isl (L.map vwC)],.agg [.int .i64 a,.int .i64 n,.isl (L.map vwC)]] (.bool true):=by
 have h:=q_same hl
 refine F4.mk (I6 E9 b26 F6 ⟨X4,X4,trivial⟩ A9 rfl ?_)
 unfold c26
 (refine wx_Ka ?_;repeat' (first|with_reducible refine And.intro ?_ ?_|intro hsp))
 all_goals first|exact Q6 rfl|(exfalso;omega)
end Go.Proofs.YtphggldkligldaaGreat.Sh
namespace Go.Proofs.YtphggldkligldaaGreat
open Go Go.Am Go.Pol
theorem ppx_Ti {p:Prop} (h:p:=by ((first|with_reducible assumption|(with_reducible first|apply Q8 _|apply I7 Q8|apply I7 AA4|apply AA4|apply D7|apply AJ6|apply G6 D7|apply J3 D7|apply F8|apply I5|apply G6 hP|fail)|exact ppw|fail);first|done|fail)):p:=h
open Go.Proofs.YtphggldkligldaaGreat renaming plx_Sd → plx
open Go.Proofs.YtphggldkligldaaGreat renaming ppx_Ti → ppx
section
variable {K:Nat→Int} {M:Nat→Bool} {B:Nat→Nat→Int} {P:List AV}
end
end Go.Proofs.YtphggldkligldaaGreat
namespace Go.Proofs.YtphggldkligldaaGreat
open Go Go.Am Go.Pol
theorem BM0 {α:Type} {f:α→List AV} {σ:Nat→Nat} {h h':Hp} {d n sz:Nat} {L:List α} (hf:∀ x,(f x).length=sz) (hp:∀ c,∀ x ∈ f c,Plain x) (hn:L.length=n) (hi:L.length ≠ 0→lk h.l d=some (.cells (flat f L))) (hi':∀ j o,lk h'.l j=some o→σ j ≠ d) (hs:AH8 σ h h'):WkV Tryz.prog σ h h' (AU0 d sz n) (.isl (L.map f)):=by
 subst hn
 by_cases hz:L.length=0
 ·rw [hz,BG4]
  cases List.eq_nil_of_length_eq_zero hz
  exact AZ3
 ·rw [AZ7 hz]
  refine Ah8 (hi hz) hi' hs (by simp) (fun e he=>?_) ?_ fun e he x hx=>?_
  ·obtain ⟨s,_,rfl⟩:=List.mem_map.1 he;exact hf s
  ·rw [List.drop_zero,List.take_of_length_le (by rw [H8 hf];exact Nat.le_refl _)];rfl
  ·obtain ⟨s,_,rfl⟩:=List.mem_map.1 he;exact hp s x hx
theorem BP0 {cs:List AV} {d:Nat} (hd:1≤d):∀ j o,lk (Hp.mk [(0,.cells cs)] 1).l j=some o→rn [] j ≠ d:=fun j o hj=>by
 simp only [lk] at hj
 show j ≠ d
 split at hj
 ·omega
 ·cases hj
theorem one_sub {h:Hp} {cs:List AV} (h0:∃ o,lk h.l 0=some o):AH8 (rn []) h ⟨[(0,.cells cs)],1⟩:=fun i o hi=>by
 simp only [lk] at hi
 show ∃ o',lk h.l i=some o'
 split at hi
 ·rename_i e;subst e;exact h0
 ·cases hi
theorem end_one {top:Bool} {h:Hp} {x r:AV} {cs:List AV} (hr:WkV Tryz.prog (rn []) h ⟨[(0,.cells cs)],1⟩ x r) (h0:lk h.l 0=some (.cells cs)) (pd:∀ x ∈ cs,Plain x):AV7 top Tryz.prog 1 h x (fun r' h'=>r'=r∧h'=⟨[(0,.cells cs)],1⟩) :=
 y9 [] rfl (Nat.le_refl _) (Q5 rfl) hr (F9 (one_sub ⟨_,h0⟩) (show 0 < 1 by decide) h0 rfl pd J6) ⟨rfl,rfl⟩
theorem end_save3 {cs c1 c2:List AV} {R:List Rn} {U:List Int} {D:List Dt} {l:List Rl} {C H:Nat→Int} (pd:∀ x ∈ cs,Plain x):AV7 true Tryz.prog 1 ⟨(0,.cells cs)::(1,.cells c1)::(2,.cells c2)::(AJ5 10 rnA R++(AJ5 11 inA U++(AJ5 12 dtA D++[]))),13⟩ (.agg [AU0 10 3 R.length,AU0 11 1 U.length,AU0 12 65 D.length,.isl (l.map rlA),.int .i64 (C 0),.int .i64 (C 1),.int .i64 (C 2),.int .i64 (C 3),.int .i64 (C 4),.int .i64 (C 5),.int .i64 (C 6),.int .i64 (H 0),.int .i64 (H 1),.int .i64 (H 2),.int .i64 (H 3),.int .i64 (H 4),.int .i64 (H 5),.int .i64 (H 6)]) (fun x h1=>x = .agg (vsA ⟨R,U,D,l,C,H⟩)∧h1=⟨[(0,.cells cs)],1⟩):=by
 have hs:AH8 (rn []) ⟨(0,.cells cs)::(1,.cells c1)::(2,.cells c2)::(AJ5 10 rnA R++(AJ5 11 inA U++(AJ5 12 dtA D++[]))),13⟩ ⟨[(0,.cells cs)],1⟩:=one_sub ⟨_,rfl⟩
 refine end_one (AN2 (C8 (BM0 BE7 AA4 rfl (fun hz=>by simp [lk,AC8 hz]) (BP0 (by decide)) hs) (C8 (BM0 in_len AV0 rfl (fun hz=>by simp [lk,AD2,AC8 hz]) (BP0 (by decide)) hs) (C8 (BM0 dt_len AV3 rfl (fun hz=>by simp [lk,AD2,L6 hz]) (BP0 (by decide)) hs) (Am2 hs D7))))) rfl pd
end Go.Proofs.YtphggldkligldaaGreat
namespace Go.Pol
open Go.Am
theorem BW4:∀ {vs cs pre:List AV},cs.length=vs.length→over (pre++cs) pre.length vs=pre++vs
 | [],cs,pre,h=>by
  have : cs=[]:=List.eq_nil_of_length_eq_zero (by simpa using h)
  subst this;rfl
 | v::vs,[],pre,h=>by simp at h
 | v::vs,c::cs,pre,h=>by
  show over ((pre++c::cs).set pre.length v) (pre.length+1) vs=_
  rw [List.set_append_right _ _ (Nat.le_refl _),Nat.sub_self,List.set_cons_zero]
  have:=BW4 (vs:=vs) (cs:=cs) (pre:=pre++[v]) (by simpa using h)
  rw [List.length_append,List.append_assoc,List.append_assoc] at this
  exact this
theorem y_take {y:List AV} (h:y.length=64):y.take 64=y:=List.take_of_length_le (by omega)
theorem y_drop {y:List AV}:y.drop 0=y:=rfl
theorem over_y1 {y:List AV} {x:AV} (h:y.length=64):over (x::List.replicate 64 (AV.int .u8 0)) 1 y=x::y:=BW4 (pre:=[x]) (by rw [h];rfl)
theorem AL6 (b:Nat→Int):eqL (List.replicate 64 0) (byA b) (List.replicate 64 (.int .u8 0))=some (decide (x9 b)):=by
 have key:∀ (F:Nat→Int) (n k:Nat),∃ t,eqL (List.replicate n 0) ((List.range' k n).map fun j=>.int .u8 (F j)) (List.replicate n (.int .u8 0))=some t∧(t=true ↔ ∀ j,k≤j→j < k+n→F j=0):=by
  intro F n
  induction n with
  | zero=>intro k;exact ⟨true,rfl,⟨fun _ j h1 h2=>by omega,fun _=>rfl⟩⟩
  | succ n ih =>
   intro k
   obtain ⟨t,h1,h2⟩:=ih (k+1)
   refine ⟨(F k == 0) && t,?_,?_⟩
   ·rw [List.replicate_succ,List.replicate_succ,List.range'_succ,List.map_cons]
    simp only [eqL,eq1,if_true,Option.bind_some,h1,Option.map_some]
   ·rw [Bool.and_eq_true,beq_iff_eq,h2]
    constructor
    ·rintro ⟨h1,h2⟩ j hj1 hj2
     by_cases e:j=k
     ·rw [e];exact h1
     ·exact h2 j (by omega) (by omega)
    ·intro h;exact ⟨h k (Nat.le_refl _) (by omega),fun j h1 h2=>h j (by omega) (by omega)⟩
 obtain ⟨t,h1,h2⟩:=key b 64 0
 unfold byA
 rw [List.range_eq_range',h1]
 congr 1
 rw [Bool.eq_iff_iff,h2,decide_eq_true_eq]
 exact ⟨fun h j hj=>h j (Nat.zero_le _) (by omega),fun h j _ hj=>h j (by omega)⟩
section
variable {K:Nat→Int} {M G:Nat→Bool} {B:Nat→Nat→Int} {P:List AV} {p o:Nat}
theorem Y6 (hp:p < 1024):((refK K G B P).drop (1088+p * 64)).take 64=byA (B p):=by
 rw [refK,Ao5 (by omega)]
 unfold byA
 exact List.map_congr_left fun j hj=>AP6 hp (List.mem_range.1 hj)
theorem sys_rules {l:List Rl} {C H:Nat→Int} (h:o=67585):(sysB K M B (stA l C H))[o+0+0]? = some (.isl (l.map rlA)):=by
 show _[o]? = _
 have e:=BE0 (K:=K) (M:=M) (B:=B) h (p8 (l:=l) (C:=C) (H:=H))
 have:=List.getElem?_take_of_lt (l:=(sysB K M B (stA l C H)).drop o) (i:=0) (j:=15) (by decide)
 rw [e,List.getElem?_drop,Nat.add_zero] at this
 rw [← this];rfl
theorem X3 {l:List Rl} {C H:Nat→Int} (h:o=66624):(refK K G B (stA l C H))[o+0+0]? = some (.isl (l.map rlA)):=by
 show _[o]? = _
 have e:=U8 (K:=K) (G:=G) (B:=B) h (p8 (l:=l) (C:=C) (H:=H))
 have:=List.getElem?_take_of_lt (l:=(refK K G B (stA l C H)).drop o) (i:=0) (j:=15) (by decide)
 rw [e,List.getElem?_drop,Nat.add_zero] at this
 rw [← this];rfl
end
end Go.Pol
namespace Go.Proofs.YtphggldkligldaaGreat
open Go Go.Am Go.Pol
theorem plx_Tj {p:Prop} (h:p:=by ((first|exact plw|(with_reducible first|apply AG4|apply U9|apply Q9|apply O4|apply Y9|apply AD7|apply AK9|apply AF5|apply Ac5|apply Ak1|apply AA5|apply AF6|apply AA8 AA4|apply AA8 AV0|apply AA8 AV3|fail)|fail);first|done|fail)):p:=h
theorem ppx_Tj {p:Prop} (h:p:=by ((first|with_reducible assumption|(with_reducible first|apply Q8 _|apply I7 Q8|apply I7 AA4|apply AA4|apply D7|apply AJ6|apply G6 D7|apply J3 D7|apply F8|apply I5|fail)|exact ppw|fail);first|done|fail)):p:=h
open Go.Proofs.YtphggldkligldaaGreat renaming plx_Tj → plx
open Go.Proofs.YtphggldkligldaaGreat renaming ppx_Tj → ppx
section
variable {K:Nat→Int} {M:Nat→Bool} {B:Nat→Nat→Int} {P:List AV}
end
section
variable {s:Sy}
end
end Go.Proofs.YtphggldkligldaaGreat
