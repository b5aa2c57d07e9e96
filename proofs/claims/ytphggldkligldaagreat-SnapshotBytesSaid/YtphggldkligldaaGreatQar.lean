/-
 A book of spaces,plain: its views,its system,and what each call does.
 A book of spaces,plain: what each call keeps.
 A book of spaces,plain: it stays a good one.
 A book of spaces,plain: pages outside of it;what an error keeps;without refusals no frame is idle.
 A book of spaces,plain: views at a place;writes.
 A book of spaces,plain: what a space reads.
-/
import Derived.Test.YtphggldkligldaaGreatQaq
set_option linter.unusedSimpArgs false
set_option linter.unusedVariables false
namespace Go.Pol
open Go.Am Go.Proofs.YtphggldkligldaaGreat.Sh
def Q6 (L:List Vw) (a k:Nat):Option Vw:=L.find? fun v=>decide (atV (a,k) v)
def Ak7 (L:List Vw) (a k:Nat):List Vw:=L.filter fun v=>decide (¬ atV (a,k) v)
def AQ7 (g:Vw→Vw) (a k:Nat) (L:List Vw):List Vw:=L.map fun v=>if atV (a,k) v then g v else v
def BI6 (L:List Vw) (a n:Nat):Option Nat:=(List.range' a n).find? fun f=>decide (cntF L f=0)
def Sy.page (s:Sy) (f:Nat) (x:Nat→Int):Sy:={ s with B:=AL2 s.B f fun j=>if j < 64 then x j else 0 }
def tkP (a n:Nat) (L:List Vw) (s:Sy) (x:Nat→Int):Int × Nat × Sy:=match BI6 L a n with
 | none=>(5,0,s)
 | some f=>if s.K f=1 then (if (s.chg (f:Nat) 1 1 2 2).1=0 then (0,f,(s.chg (f:Nat) 1 1 2 2).2.page f x) else ((s.chg (f:Nat) 1 1 2 2).1,0,(s.chg (f:Nat) 1 1 2 2).2)) else (0,f,s.page f x)
def AG5 (s:Sy) (G:List Nat):Sy:=G.foldl (fun s f=>(s.chg (f:Nat) 1 2 1 3).2) s
structure Bk where
 a:Nat
 n:Nat
 L:List Vw
 s:Sy
def Bk.map (b:Bk) (x k:Int):Int × Bk :=
 if ¬ (inR 64 x∧inR 1024 k) then (7,b) else if (Q6 b.L x.toNat k.toNat).isSome then (8,b) else if 2000≤b.L.length then (5,b) else
 if (tkP b.a b.n b.L b.s fun _=>0).1=0 then (0,{ b with L:=Ab6 (x.toNat,k.toNat,(tkP b.a b.n b.L b.s fun _=>0).2.1,true) b.L,s:=(tkP b.a b.n b.L b.s fun _=>0).2.2 })
 else ((tkP b.a b.n b.L b.s fun _=>0).1,{ b with s:=(tkP b.a b.n b.L b.s fun _=>0).2.2 })
def Bk.unmap (b:Bk) (x k:Int):Int × Bk :=
 if ¬ (inR 64 x∧inR 1024 k) then (7,b) else match Q6 b.L x.toNat k.toNat with
 | none=>(4,b)
 | some v=>(0,{ b with L:=Ak7 b.L x.toNat k.toNat,s:=if cntF (Ak7 b.L x.toNat k.toNat) v.2.2.1=0 then AG5 b.s [v.2.2.1] else b.s })
def BV9 (x y:Nat) (L:List Vw):List Vw:=BN0 y (L.map (wnV x)) (ofA x L)
def Bk.take (b:Bk) (x y:Int):Int × Int × Bk :=
 if ¬ (inR 64 x∧inR 64 y) then (0,7,b) else if x=y then (0,2,b) else if (ofA y.toNat b.L).length ≠ 0 then (0,8,b) else if 2000 < b.L.length+(ofA x.toNat b.L).length then (0,5,b) else
 ((ofA x.toNat b.L).length,0,{ b with L:=BV9 x.toNat y.toNat b.L })
def Bk.drop (b:Bk) (x:Int):Int × Int × Bk :=
 if ¬ inR 64 x then (0,7,b) else ((AC3 b.L x.toNat).length,0,{ b with L:=noA x.toNat b.L,s:=AG5 b.s (AC3 b.L x.toNat) })
def Bk.revert (b:Bk) (x y:Int):Int × Int × Bk :=
 if ¬ (inR 64 x∧inR 64 y) then (0,7,b) else if x=y then (0,2,b) else if 2000 < b.L.length+(ofA y.toNat b.L).length - (ofA x.toNat b.L).length then (0,5,b) else
 ((ofA y.toNat b.L).length,0,{ b with L:=BV9 y.toNat x.toNat (noA x.toNat b.L),s:=AG5 b.s (AC3 b.L x.toNat) })
def Bk.where_ (b:Bk) (x t:Int) (w:Bool):Int × Int :=
 if ¬ (inR 64 x∧inR 65536 t) then (0,7) else match Q6 b.L x.toNat (t.toNat / 64) with
 | none=>(0,220)
 | some v=>if w=true∧v.2.2.2=false then (0,220) else (((v.2.2.1 * 64+t.toNat % 64:Nat):Int),0)
def Bk.read (b:Bk) (x t:Int):Int × Int:=if (b.where_ x t false).2=0 then b.s.read (b.where_ x t false).1 else (0,(b.where_ x t false).2)
def Bk.put (b:Bk) (x t v:Int):Int × Bk:=if (b.where_ x t true).2=0 then ((b.s.write (b.where_ x t true).1 v).1,{ b with s:=(b.s.write (b.where_ x t true).1 v).2 }) else ((b.where_ x t true).2,b)
def Bk.write (b:Bk) (x t v:Int):Int × Bk :=
 if ¬ (inR 64 x∧inR 65536 t) then (7,b) else match Q6 b.L x.toNat (t.toNat / 64) with
 | none=>(220,b)
 | some u =>
  if u.2.2.2 then b.put x t v
  else if cntF b.L u.2.2.1=1 then Bk.put { b with L:=AQ7 (prV true) x.toNat (t.toNat / 64) b.L } x t v
  else if (tkP b.a b.n b.L b.s (b.s.B u.2.2.1)).1=0 then
   Bk.put { b with L:=AQ7 (frV (tkP b.a b.n b.L b.s (b.s.B u.2.2.1)).2.1) x.toNat (t.toNat / 64) b.L,s:=(tkP b.a b.n b.L b.s (b.s.B u.2.2.1)).2.2 } x t v
  else ((tkP b.a b.n b.L b.s (b.s.B u.2.2.1)).1,{ b with s:=(tkP b.a b.n b.L b.s (b.s.B u.2.2.1)).2.2 })
def eqB (f g:Nat→Int):Prop:=∀ j,j < 64→f j=g j
instance (f g:Nat→Int):Decidable (eqB f g):=by unfold eqB;infer_instance
def Bk.dif (b:Bk) (x y k:Nat):Bool:=match Q6 b.L x k,Q6 b.L y k with
 | none,none=>false
 | some u,some v=>!decide (eqB (b.s.B u.2.2.1) (b.s.B v.2.2.1))
 | _,_=>true
def Bk.differ (b:Bk) (x y:Int):List Int × Int:=if ¬ (inR 64 x∧inR 64 y) then ([],7) else (((List.range 1024).filter fun k=>b.dif x.toNat y.toNat k).map fun k=>((k:Nat):Int),0)
def Bk.used (b:Bk):Nat:=((List.range' b.a b.n).filter fun f=>decide (0 < cntF b.L f)).length
def Bk.idle (b:Bk):Nat:=((List.range' b.a b.n).filter fun f=>decide (cntF b.L f=0∧b.s.K f=2)).length
def Bk.many (b:Bk):Nat:=((List.range' b.a b.n).filter fun f=>decide (1 < cntF b.L f)).length
structure H6 (b:Bk):Prop where
 good:GoodS b.s
 rng:1≤b.n∧b.a+b.n≤1024
 kind:∀ f,b.a≤f→f < b.a+b.n→(b.s.K f=1∨b.s.K f=2)∧b.s.M f=false
 used:∀ f,0 < cntF b.L f→b.a≤f∧f < b.a+b.n∧b.s.K f=2
 sr:srt b.L
 ok:∀ v ∈ b.L,v.1 < 64∧v.2.1 < 1024∧v.2.2.1 < 1024
 len:b.L.length≤2000
end Go.Pol
namespace Go.Pol
open Go.Am Go.Proofs.YtphggldkligldaaGreat.Sh
theorem J2 {L:List Vw} {a k:Nat} {v:Vw} (h:Q6 L a k=some v):v ∈ L∧atV (a,k) v:=⟨List.mem_of_find?_eq_some h,by have:=List.find?_some h;simpa using this⟩
theorem Z7 {L:List Vw} {a k:Nat} (h:Q6 L a k=none):∀ v ∈ L,¬ atV (a,k) v:=fun v hv=>by
 have:=List.find?_eq_none.1 h v hv
 simpa using this
theorem fnd_yes {L:List Vw} (hs:srt L) {v:Vw} (hv:v ∈ L):Q6 L v.1 v.2.1=some v:=by
 cases h:Q6 L v.1 v.2.1 with
 | none=>exact absurd ⟨rfl,rfl⟩ (Z7 h v hv)
 | some w =>
  obtain ⟨h1,h2,h3⟩:=J2 h
  rw [Ap2 hs h1 hv h2 h3]
theorem Ab9 {L:List Vw} {a k:Nat} (h:∀ v ∈ L,¬ atV (a,k) v):Q6 L a k=none:=List.find?_eq_none.2 fun v hv=>by simpa using h v hv
theorem free_some {L:List Vw} {a n f:Nat} (h:BI6 L a n=some f):a≤f∧f < a+n∧cntF L f=0:=by
 have h1:=List.mem_of_find?_eq_some h
 have h2:=List.find?_some h
 rw [List.mem_range'_1] at h1
 exact ⟨h1.1,h1.2,by simpa using h2⟩
theorem Az9 {s:Sy} {f:Nat} {x:Nat→Int} (h:GoodS s) (hk:s.K f=2):GoodS (s.page f x):=by
 refine ⟨h.hv,h.kind,h.huge,fun p hp=>?_,h.cK,fun p j hj=>?_⟩
 ·show AL2 s.B f _ p=_
  unfold AL2
  rw [if_neg fun e=>hp (by rw [e];exact hk)]
  exact h.zero p hp
 ·show AL2 s.B f _ p j=0
  unfold AL2
  split
  ·show (if j < 64 then x j else 0)=0;rw [if_neg (by omega)]
  ·exact h.cB p j hj
def Sy.turn (s:Sy) (f:Nat) (w:Int) (k:Nat):Sy:={ s.ref k with K:=fun p=>if p=f then w else s.K p,B:=fun p=>if p=f then fun _=>0 else s.B p }
theorem At7 {s:Sy} {f:Nat} {v w:Int} {k:Nat} (hf:f < 1024) (hk:s.K f=v) (hm:s.M f=false):s.chg (f:Nat) 1 v w k=if isR s.l s.C k then (60,s.ref k) else (0,s.turn f w k):=by
 unfold Sy.chg
 have hok:okR s.K s.M ((f:Nat):Int).toNat (1:Int).toNat v:=fun i hi=>by
  have hi:i < 1:=hi
  rw [show ((f:Nat):Int).toNat+i=f by omega];exact ⟨hk,hm⟩
 have h1:(1:Int).toNat=1:=rfl
 have e1:Ac6 s.K ((f:Nat):Int).toNat (1:Int).toNat w=fun p=>if p=f then w else s.K p:=funext fun p=>by
  show (if _ then w else s.K p)=_
  by_cases e:p=f
  ·rw [if_pos e,if_pos (by omega)]
  ·rw [if_neg e,if_neg (by omega)]
 have e2:Ac2 s.B ((f:Nat):Int).toNat (1:Int).toNat=fun p=>if p=f then fun _=>0 else s.B p:=funext fun p=>by
  show (if _ then (fun _=>0) else s.B p)=_
  by_cases e:p=f
  ·rw [if_pos e,if_pos (by omega)]
  ·rw [if_neg e,if_neg (by omega)]
 rw [if_neg (by omega),if_pos hok,e1,e2]
 rfl
theorem AQ6 {s:Sy} {f p:Nat} {w:Int} {k:Nat}:(s.turn f w k).K p=if p=f then w else s.K p:=rfl
theorem BL4 {s:Sy} {f p:Nat} {w:Int} {k:Nat}:(s.turn f w k).B p=if p=f then fun _=>0 else s.B p:=rfl
theorem Az8 {s:Sy} {f:Nat} {v w:Int} {k:Nat} (h:GoodS s) (hf:f < 1024) (hw:0≤w∧w≤3) (hk:s.K f=v) (hm:s.M f=false):GoodS (s.turn f w k):=by
 refine ⟨At6 h.hv,fun p=>?_,fun p hp=>?_,fun p hp=>?_,fun p hp=>?_,fun p j hj=>?_⟩
 ·rw [AQ6];split
  ·exact hw
  ·exact h.kind p
 ·rw [AQ6]
  have hp':s.M p=true:=hp
  rw [if_neg fun e=>by rw [e,hm] at hp';cases hp']
  exact h.huge p hp'
 ·rw [BL4]
  split
  ·rfl
  ·rename_i e
   rw [AQ6,if_neg e] at hp
   exact h.zero p hp
 ·rw [AQ6,if_neg (by omega)];exact h.cK p hp
 ·rw [BL4];split
  ·rfl
  ·exact h.cB p j hj
structure TkS (a n:Nat) (L:List Vw) (s:Sy) (x:Nat→Int) (r:Int × Nat × Sy):Prop where
 good:GoodS r.2.2
 G:r.2.2.G=s.G
 up:∀ p,s.K p=2→r.2.2.K p=2
 new:∀ p,r.2.2.K p ≠ s.K p→a≤p∧p < a+n∧s.K p=1∧r.2.2.K p=2
 old:∀ p,0 < cntF L p→r.2.2.B p=s.B p
 got:r.1=0→a≤r.2.1∧r.2.1 < a+n∧cntF L r.2.1=0∧r.2.2.K r.2.1=2∧∀ j,j < 64→r.2.2.B r.2.1 j=x j
theorem tk_spec {a n:Nat} {L:List Vw} {s:Sy} {x:Nat→Int} (hg:GoodS s) (han:a+n≤1024) (hk:∀ f,a≤f→f < a+n→(s.K f=1∨s.K f=2)∧s.M f=false):TkS a n L s x (tkP a n L s x):=by
 unfold tkP
 cases hf:BI6 L a n with
 | none=>exact ⟨hg,rfl,fun p h=>h,fun p h=>absurd rfl h,fun p _=>rfl,fun h=>absurd h (by decide:¬ (5:Int)=0)⟩
 | some f =>
  obtain ⟨h1,h2,h3⟩:=free_some hf
  obtain ⟨hkf,hmf⟩:=hk f h1 h2
  have hB:∀ (t:Sy) (p:Nat),(t.page f x).B p=if p=f then (fun j=>if j < 64 then x j else 0) else t.B p:=fun t p=>rfl
  dsimp only
  by_cases k1:s.K f=1
  ·rw [if_pos k1,At7 (by omega) k1 hmf]
   by_cases hr:isR s.l s.C 2=true
   ·rw [if_pos hr,if_neg (show ¬ (60:Int)=0 by decide)]
    exact ⟨Ar5 hg,rfl,fun p h=>h,fun p h=>absurd rfl h,fun p _=>rfl,fun h=>absurd h (by decide:¬ (60:Int)=0)⟩
   ·rw [if_neg hr,if_pos rfl]
    have hK:∀ p,((s.turn f 2 2).page f x).K p=if p=f then 2 else s.K p:=fun p=>rfl
    refine ⟨Az9 (Az8 hg (by omega) (by decide) k1 hmf) (by rw [AQ6,if_pos rfl]),rfl,fun p h=>?_,fun p h=>?_,fun p hp=>?_,fun _=>⟨h1,h2,h3,?_,fun j hj=>?_⟩⟩
    ·show ((s.turn f 2 2).page f x).K p=2
     rw [hK];split<;>first|rfl|exact h
    ·have h:((s.turn f 2 2).page f x).K p ≠ s.K p:=h
     show _∧_∧_∧((s.turn f 2 2).page f x).K p=2
     rw [hK] at h ⊢
     by_cases e:p=f
     ·subst e;rw [if_pos rfl];exact ⟨h1,h2,k1,rfl⟩
     ·rw [if_neg e] at h;exact absurd rfl h
    ·show ((s.turn f 2 2).page f x).B p=s.B p
     rw [hB,if_neg (fun e=>by rw [e] at hp;omega),BL4,if_neg (fun e=>by rw [e] at hp;omega)]
    ·show ((s.turn f 2 2).page f x).K f=2
     rw [hK,if_pos rfl]
    ·show ((s.turn f 2 2).page f x).B f j=x j
     rw [hB,if_pos rfl];exact if_pos hj
  ·rw [if_neg k1]
   have k2:s.K f=2:=hkf.resolve_left k1
   refine ⟨Az9 hg k2,rfl,fun p h=>h,fun p h=>absurd rfl h,fun p hp=>?_,fun _=>⟨h1,h2,h3,k2,fun j hj=>?_⟩⟩
   ·show (s.page f x).B p=s.B p
    rw [hB,if_neg (fun e=>by rw [e] at hp;omega)]
   ·show (s.page f x).B f j=x j
    rw [hB,if_pos rfl];exact if_pos hj
end Go.Pol
namespace Go.Pol
open Go.Am Go.Proofs.YtphggldkligldaaGreat.Sh
theorem Y4 {L:List Vw} {f:Nat}:0 < cntF L f ↔ ∃ v ∈ L,v.2.2.1=f:=by
 unfold cntF
 rw [List.length_pos_iff_exists_mem]
 constructor
 ·rintro ⟨v,hv⟩
  rw [List.mem_filter] at hv
  exact ⟨v,hv.1,by simpa using hv.2⟩
 ·rintro ⟨v,hv,h⟩
  exact ⟨v,List.mem_filter.2 ⟨hv,by simpa using h⟩⟩
theorem AP7:∀ {G:List Nat} {s:Sy},GoodS s→(∀ f ∈ G,f < 1024∧s.K f=2∧s.M f=false)→G.Nodup →
  GoodS (AG5 s G)∧(AG5 s G).G=s.G∧(∀ p,p ∉ G→(AG5 s G).K p=s.K p∧(AG5 s G).B p=s.B p)∧∀ p ∈ G,(AG5 s G).K p=1∨(AG5 s G).K p=2
 | [],s,hg,_,_=>⟨hg,rfl,fun p _=>⟨rfl,rfl⟩,fun p hp=>by cases hp⟩
 | f::G,s,hg,h,hn=>by
  obtain ⟨hf,hk,hm⟩:=h f (List.mem_cons_self ..)
  rw [List.nodup_cons] at hn
  show GoodS (AG5 (s.chg (f:Nat) 1 2 1 3).2 G)∧(AG5 (s.chg (f:Nat) 1 2 1 3).2 G).G=s.G∧(∀ p,p ∉ f::G→(AG5 (s.chg (f:Nat) 1 2 1 3).2 G).K p=s.K p∧(AG5 (s.chg (f:Nat) 1 2 1 3).2 G).B p=s.B p)∧∀ p ∈ f::G,(AG5 (s.chg (f:Nat) 1 2 1 3).2 G).K p=1∨(AG5 (s.chg (f:Nat) 1 2 1 3).2 G).K p=2
  rw [At7 hf hk hm]
  split
  ·obtain ⟨i1,i2,i3,i4⟩:=AP7 (G:=G) (s:=s.ref 3) (Ar5 hg) (fun g hgm=>h g (List.mem_cons_of_mem _ hgm)) hn.2
   refine ⟨i1,i2,fun p hp=>i3 p fun hp2=>hp (List.mem_cons_of_mem _ hp2),fun p hp=>?_⟩
   rcases List.mem_cons.1 hp with rfl|hp
   ·exact .inr ((i3 p hn.1).1.trans hk)
   ·exact i4 p hp
  ·obtain ⟨i1,i2,i3,i4⟩:=AP7 (G:=G) (s:=s.turn f 1 3) (Az8 hg hf (by decide) hk hm) (fun g hgm=>by
    obtain ⟨a1,a2,a3⟩:=h g (List.mem_cons_of_mem _ hgm)
    exact ⟨a1,by rw [AQ6,if_neg (fun e:g=f=>hn.1 (e▸hgm))];exact a2,a3⟩) hn.2
   refine ⟨i1,i2,fun p hp=>?_,fun p hp=>?_⟩
   ·have hpf:p ≠ f:=fun e=>hp (e▸List.mem_cons_self ..)
    obtain ⟨j1,j2⟩:=i3 p fun hp2=>hp (List.mem_cons_of_mem _ hp2)
    exact ⟨j1.trans (by rw [AQ6,if_neg hpf]),j2.trans (by rw [BL4,if_neg hpf])⟩
   ·rcases List.mem_cons.1 hp with rfl|hp
    ·exact .inl ((i3 p hn.1).1.trans (by rw [AQ6,if_pos rfl]))
    ·exact i4 p hp
theorem AV5 {L:List Vw} {a f:Nat}:f ∈ AC3 L a ↔ f < 1024∧(∃ v ∈ L,v.1=a∧v.2.2.1=f)∧cntF (noA a L) f=0:=by
 unfold AC3 AZ7 AS3
 rw [List.mem_filter,List.mem_range,BO9,List.take_length,Bool.and_eq_true,decide_eq_true_eq,decide_eq_true_eq]
 constructor
 ·rintro ⟨h1,h2,h3⟩
  obtain ⟨v,hv,e⟩:=List.mem_map.1 h2
  exact ⟨h1,⟨v,(J8.1 hv).1,(J8.1 hv).2,e⟩,h3⟩
 ·rintro ⟨h1,⟨v,hv,h2,h3⟩,h4⟩
  exact ⟨h1,List.mem_map.2 ⟨v,J8.2 ⟨hv,h2⟩,h3⟩,h4⟩
theorem AP6 {L:List Vw} {a:Nat}:(AC3 L a).Nodup:=List.Nodup.sublist List.filter_sublist List.nodup_range
theorem AY7 {L:List Vw} {a k:Nat} {v:Vw}:v ∈ Ak7 L a k ↔ v ∈ L∧¬ atV (a,k) v:=by simp [Ak7]
theorem AA3 {L:List Vw} {a:Nat} {v:Vw}:v ∈ noA a L ↔ v ∈ L∧v.1 ≠ a:=by simp [noA]
section
variable {b:Bk}
theorem H6.sys (h:H6 b) {L':List Vw} {s':Sy} (hg:GoodS s') (hG:s'.G=b.s.G) (hs:Go.Pol.srt L') (hok:∀ v ∈ L',v.1 < 64∧v.2.1 < 1024∧v.2.2.1 < 1024) (hl:L'.length≤2000)
  (hk:∀ f,b.a≤f→f < b.a+b.n→s'.K f=1∨s'.K f=2) (hu:∀ v ∈ L',b.a≤v.2.2.1∧v.2.2.1 < b.a+b.n∧s'.K v.2.2.1=2):H6 { b with L:=L',s:=s' } :=
 ⟨hg, h.rng, fun f h1 h2 => ⟨hk f h1 h2, by show s'.G (f / 16) = false; rw [hG]; exact (h.kind f h1 h2).2⟩, fun f hf => by
  obtain ⟨v,hv,rfl⟩:=Y4.1 hf
  exact hu v hv,hs,hok,hl⟩
theorem H6.view (h:H6 b) {v:Vw} (hv:v ∈ b.L):b.a≤v.2.2.1∧v.2.2.1 < b.a+b.n∧b.s.K v.2.2.1=2:=h.used _ (Y4.2 ⟨v,hv,rfl⟩)
theorem H6.tk (h:H6 b) (x:Nat→Int):TkS b.a b.n b.L b.s x (tkP b.a b.n b.L b.s x):=tk_spec (x:=x) (L:=b.L) h.good h.rng.2 h.kind
theorem H6.tkK (h:H6 b) (x:Nat→Int):∀ f,b.a≤f→f < b.a+b.n→(tkP b.a b.n b.L b.s x).2.2.K f=1∨(tkP b.a b.n b.L b.s x).2.2.K f=2:=fun f h1 h2=>by
 by_cases e:(tkP b.a b.n b.L b.s x).2.2.K f=b.s.K f
 ·rw [e];exact (h.kind f h1 h2).1
 ·exact .inr ((h.tk x).new f e).2.2.2
theorem BP4 (h:H6 b) (x k:Int):H6 (b.map x k).2:=by
 unfold Bk.map
 split
 ·exact h
 rename_i hin
 have hin:inR 64 x∧inR 1024 k:=Classical.not_not.1 hin
 split
 ·exact h
 rename_i hf
 split
 ·exact h
 rename_i hl
 have hn:=Z7 (L:=b.L) (a:=x.toNat) (k:=k.toNat) (by cases hq:Q6 b.L x.toNat k.toNat with
  | none=>rfl
  | some v=>rw [hq] at hf;exact absurd rfl hf)
 obtain ⟨t1,t2,t3,t4,t5,t6⟩:=h.tk fun _=>0
 split
 ·rename_i he
  obtain ⟨u1,u2,u3,u4,u5⟩:=t6 he
  have hr:=h.rng
  refine h.sys t1 t2 (Af8 h.sr hn) (fun v hv=>?_) (by rw [Ag7];omega) (h.tkK _) (fun v hv=>?_)
  ·rcases AA4.1 hv with rfl|hv
   ·have:=hin.1.1;have:=hin.1.2;have:=hin.2.1;have:=hin.2.2
    exact ⟨by show x.toNat < 64;omega,by show k.toNat < 1024;omega,by dsimp only;omega⟩
   ·exact h.ok v hv
  ·rcases AA4.1 hv with rfl|hv
   ·exact ⟨u1,u2,u4⟩
   ·obtain ⟨w1,w2,w3⟩:=h.view hv
    exact ⟨w1,w2,t3 _ w3⟩
 ·exact h.sys t1 t2 h.sr h.ok h.len (h.tkK _) fun v hv=>by
   obtain ⟨w1,w2,w3⟩:=h.view hv
   exact ⟨w1,w2,t3 _ w3⟩
theorem BV8 (h:H6 b) (x k:Int):H6 (b.unmap x k).2:=by
 unfold Bk.unmap
 split
 ·exact h
 cases hf:Q6 b.L x.toNat k.toNat with
 | none=>exact h
 | some v =>
  obtain ⟨hv,ha⟩:=J2 hf
  obtain ⟨w1,w2,w3⟩:=h.view hv
  have hr:=h.rng
  have hd:∀ u ∈ Ak7 b.L x.toNat k.toNat,u ∈ b.L:=fun u hu=>(AY7.1 hu).1
  dsimp only
  have hsr:srt (Ak7 b.L x.toNat k.toNat):=h.sr.sublist List.filter_sublist
  have hlen:(Ak7 b.L x.toNat k.toNat).length≤2000:=Nat.le_trans (List.length_filter_le ..) h.len
  by_cases h0:cntF (Ak7 b.L x.toNat k.toNat) v.2.2.1=0
  ·rw [if_pos h0]
   obtain ⟨g1,g2,g3,g4⟩:=AP7 (G:=[v.2.2.1]) (s:=b.s) h.good (fun f hfm=>by
    rw [List.mem_singleton.1 hfm];exact ⟨by omega,w3,(h.kind _ w1 w2).2⟩) (by simp)
   refine h.sys g1 g2 hsr (fun u hu=>h.ok u (hd u hu)) hlen (fun f h1 h2=>?_) fun u hu=>?_
   ·by_cases e:f=v.2.2.1
    ·exact g4 f (by rw [e];simp)
    ·rw [(g3 f (by simpa using e)).1];exact (h.kind f h1 h2).1
   ·obtain ⟨y1,y2,y3⟩:=h.view (hd u hu)
    have hne:u.2.2.1 ∉ [v.2.2.1]:=fun e=>by
     have : 0 < cntF (Ak7 b.L x.toNat k.toNat) v.2.2.1:=Y4.2 ⟨u,hu,List.mem_singleton.1 e⟩
     omega
    exact ⟨y1,y2,by rw [(g3 _ hne).1];exact y3⟩
  ·rw [if_neg h0]
   exact h.sys h.good rfl hsr (fun u hu=>h.ok u (hd u hu)) hlen (fun f h1 h2=>(h.kind f h1 h2).1) fun u hu=>h.view (hd u hu)
theorem put_mem {y:Nat}:∀ {O M:List Vw} {v:Vw},v ∈ BN0 y M O ↔ v ∈ M∨∃ u ∈ O,v=cpV y u
 | [],M,v=>by simp [BN0]
 | w::O,M,v=>by
  show v ∈ BN0 y (Ab6 (cpV y w) M) O ↔ _
  rw [put_mem,AA4]
  constructor
  ·rintro ((h|h) | ⟨u,hu,h⟩)
   ·exact .inr ⟨w,List.mem_cons_self ..,h⟩
   ·exact .inl h
   ·exact .inr ⟨u,List.mem_cons_of_mem _ hu,h⟩
  ·rintro (h | ⟨u,hu,h⟩)
   ·exact .inl (.inr h)
   ·rcases List.mem_cons.1 hu with rfl|hu
    ·exact .inl (.inl h)
    ·exact .inr ⟨u,hu,h⟩
theorem put_len {y:Nat}:∀ {O M:List Vw},(BN0 y M O).length=M.length+O.length
 | [],_=>rfl
 | w::O,M=>by
  show (BN0 y (Ab6 (cpV y w) M) O).length=_
  rw [put_len,Ag7,List.length_cons];omega
theorem put_srt {y:Nat}:∀ {O M:List Vw},srt M→(∀ u ∈ O,∀ v ∈ M,¬ atV (y,u.2.1) v)→O.Pairwise (fun u v=>u.2.1 ≠ v.2.1)→srt (BN0 y M O)
 | [],_,h,_,_=>h
 | w::O,M,h,hn,hp=>by
  rw [List.pairwise_cons] at hp
  refine put_srt (O:=O) (M:=Ab6 (cpV y w) M) (Af8 (v:=cpV y w) h (hn w (List.mem_cons_self ..))) (fun u hu v hv=>?_) hp.2
  rcases AA4.1 hv with rfl|hv
  ·exact fun e=>hp.1 u hu e.2
  ·exact hn u (List.mem_cons_of_mem _ hu) v hv
theorem AS4 {x y:Nat} {L:List Vw} {v:Vw}:v ∈ BV9 x y L ↔ (∃ u ∈ L,v=wnV x u)∨∃ u ∈ L,u.1=x∧v=cpV y u:=by
 unfold BV9
 rw [put_mem,List.mem_map]
 constructor
 ·rintro (⟨u,hu,h⟩ | ⟨u,hu,h⟩)
  ·exact .inl ⟨u,hu,h.symm⟩
  ·exact .inr ⟨u,(J8.1 hu).1,(J8.1 hu).2,h⟩
 ·rintro (⟨u,hu,h⟩ | ⟨u,hu,h1,h⟩)
  ·exact .inl ⟨u,hu,h.symm⟩
  ·exact .inr ⟨u,J8.2 ⟨hu,h1⟩,h⟩
theorem frk_len {x y:Nat} {L:List Vw}:(BV9 x y L).length=L.length+(ofA x L).length:=by unfold BV9;rw [put_len,List.length_map]
theorem BI5 {x y:Nat} {L:List Vw} (hs:srt L) (hy:ofA y L=[]):srt (BV9 x y L):=by
 have hm:srt (L.map (wnV x)):=by
  refine List.pairwise_map.2 (hs.imp fun h=>?_)
  exact h
 refine put_srt hm (fun u hu v hv e=>?_) ?_
 ·obtain ⟨w,hw,rfl⟩:=List.mem_map.1 hv
  have : w ∈ ofA y L:=J8.2 ⟨hw,e.1⟩
  rw [hy] at this;cases this
 ·have h1:(ofA x L).Pairwise bef:=hs.sublist List.filter_sublist
  have h2:∀ {O:List Vw},(∀ v ∈ O,v.1=x)→O.Pairwise bef→O.Pairwise fun u v=>u.2.1 ≠ v.2.1:=fun {O}=>by
   induction O with
   | nil=>exact fun _ _=>.nil
   | cons w O ih =>
    intro hx hp
    rw [List.pairwise_cons] at hp ⊢
    refine ⟨fun v hv e=>?_,ih (fun v hv=>hx v (List.mem_cons_of_mem _ hv)) hp.2⟩
    have h3:=hp.1 v hv
    have h4:=hx w (List.mem_cons_self ..)
    have h5:=hx v (List.mem_cons_of_mem _ hv)
    unfold bef at h3;omega
  exact h2 (fun v hv=>(J8.1 hv).2) h1
theorem Ad7 {L:List Vw} {x y:Nat} {p:Vw→Prop} (hp:∀ v ∈ L,p v) (h1:∀ v,p v→p (wnV x v)) (h2:∀ v,p v→p (cpV y v)):∀ v ∈ BV9 x y L,p v:=fun v hv=>by
 rcases AS4.1 hv with ⟨u,hu,rfl⟩ | ⟨u,hu,_,rfl⟩
 ·exact h1 u (hp u hu)
 ·exact h2 u (hp u hu)
theorem Ah5 (h:H6 b) (x y:Int):H6 (b.take x y).2.2:=by
 unfold Bk.take
 split
 ·exact h
 rename_i hin
 have hin:inR 64 x∧inR 64 y:=Classical.not_not.1 hin
 split
 ·exact h
 split
 ·exact h
 rename_i h8
 split
 ·exact h
 rename_i h5
 have hy:ofA y.toNat b.L=[]:=List.eq_nil_of_length_eq_zero (by omega)
 have hy2:y.toNat < 64:=by have:=hin.2.1;have:=hin.2.2;omega
 exact h.sys h.good rfl (BI5 h.sr hy) (Ad7 (fun v hv=>h.ok v hv) (fun v hv=>hv) fun v hv=>⟨hy2,hv.2⟩) (by rw [frk_len];omega) (fun f h1 h2=>(h.kind f h1 h2).1) (Ad7 (fun v hv=>h.view hv) (fun v hv=>hv) fun v hv=>hv)
theorem Ar9 (h:H6 b) (x:Nat):∀ f ∈ AC3 b.L x,f < 1024∧b.s.K f=2∧b.s.M f=false:=fun f hf=>by
 obtain ⟨h1,⟨v,hv,h2,h3⟩,h4⟩:=AV5.1 hf
 obtain ⟨w1,w2,w3⟩:=h.view hv
 rw [h3] at w1 w2 w3
 exact ⟨h1,w3,(h.kind f w1 w2).2⟩
theorem BA0 (h:H6 b) (x:Nat) {L':List Vw} (hs:srt L') (hok:∀ v ∈ L',v.1 < 64∧v.2.1 < 1024∧v.2.2.1 < 1024) (hl:L'.length≤2000) (hu:∀ v ∈ L',∃ u ∈ noA x b.L,v.2.2.1=u.2.2.1):H6 { b with L:=L',s:=AG5 b.s (AC3 b.L x) }:=by
 obtain ⟨g1,g2,g3,g4⟩:=AP7 h.good (Ar9 h x) AP6
 refine h.sys g1 g2 hs hok hl (fun f h1 h2=>?_) fun v hv=>?_
 ·by_cases e:f ∈ AC3 b.L x
  ·exact g4 f e
  ·rw [(g3 f e).1];exact (h.kind f h1 h2).1
 ·obtain ⟨u,hu,e⟩:=hu v hv
  obtain ⟨y1,y2,y3⟩:=h.view (AA3.1 hu).1
  rw [e]
  refine ⟨y1,y2,?_⟩
  rw [(g3 _ fun hg=>?_).1]
  ·exact y3
  ·have:=(AV5.1 hg).2.2
   have : 0 < cntF (noA x b.L) u.2.2.1:=Y4.2 ⟨u,hu,rfl⟩
   omega
theorem noA_len {L:List Vw} {a:Nat}:(noA a L).length+(ofA a L).length=L.length:=by
 induction L with
 | nil=>rfl
 | cons v L ih =>
  unfold noA ofA at *
  by_cases e:v.1=a
  ·simp [List.filter_cons,e] at *;omega
  ·simp [List.filter_cons,e] at *;omega
theorem Ah6 (h:H6 b) (x:Int):H6 (b.drop x).2.2:=by
 unfold Bk.drop
 split
 ·exact h
 exact BA0 h x.toNat (h.sr.sublist List.filter_sublist) (fun v hv=>h.ok v (AA3.1 hv).1) (Nat.le_trans (List.length_filter_le ..) h.len) fun v hv=>⟨v,hv,rfl⟩
theorem ofA_noA {L:List Vw} {x y:Nat} (h:y ≠ x):ofA y (noA x L)=ofA y L:=by
 unfold ofA noA
 rw [List.filter_filter]
 refine List.filter_congr fun v _=>?_
 by_cases e:v.1=y
 ·simp [e,h]
 ·simp [e]
theorem Ad3 {L:List Vw} {x:Nat}:ofA x (noA x L)=[]:=by
 unfold ofA noA
 rw [List.filter_filter,List.filter_eq_nil_iff]
 intro v _;simp
theorem BI3 (h:H6 b) (x y:Int):H6 (b.revert x y).2.2:=by
 unfold Bk.revert
 split
 ·exact h
 rename_i hin
 have hin:inR 64 x∧inR 64 y:=Classical.not_not.1 hin
 split
 ·exact h
 rename_i hxy
 split
 ·exact h
 rename_i h5
 have hx0:=hin.1.1;have hx1:=hin.1.2;have hy0:=hin.2.1;have hy1:=hin.2.2
 have hne:y.toNat ≠ x.toNat:=by omega
 have hl:=noA_len (L:=b.L) (a:=x.toNat)
 have hs:srt (noA x.toNat b.L):=h.sr.sublist List.filter_sublist
 refine BA0 h x.toNat (BI5 hs Ad3) (Ad7 (fun v hv=>h.ok v (AA3.1 hv).1) (fun v hv=>hv) fun v hv=>⟨by show x.toNat < 64;omega,hv.2⟩) (by rw [frk_len,ofA_noA hne];omega) ?_
 exact Ad7 (fun v hv=>⟨v,hv,rfl⟩) (fun v hv=>hv) fun v hv=>hv
theorem AR7 {g:Vw→Vw} {a k:Nat} {L:List Vw} {v:Vw}:v ∈ AQ7 g a k L ↔ ∃ u ∈ L,v=if atV (a,k) u then g u else u:=by
 unfold AQ7;rw [List.mem_map]
 exact ⟨fun ⟨u,hu,e⟩=>⟨u,hu,e.symm⟩,fun ⟨u,hu,e⟩=>⟨u,hu,e.symm⟩⟩
theorem BF2 {g:Vw→Vw} {a k:Nat} {L:List Vw} (hg:∀ v,(g v).1=v.1∧(g v).2.1=v.2.1) (h:srt L):srt (AQ7 g a k L):=by
 unfold AQ7
 refine List.pairwise_map.2 (h.imp fun {u v} huv=>?_)
 have e:∀ w:Vw,(if atV (a,k) w then g w else w).1=w.1∧(if atV (a,k) w then g w else w).2.1=w.2.1:=fun w=>by
  split
  ·exact hg w
  ·exact ⟨rfl,rfl⟩
 unfold bef at huv ⊢
 rw [(e u).1,(e u).2,(e v).1,(e v).2];exact huv
theorem Ar6 (h:H6 b) (x t v:Int):H6 (b.put x t v).2:=by
 unfold Bk.put
 split
 ·have hK:∀ p,(b.s.write (b.where_ x t true).1 v).2.K p=b.s.K p:=fun p=>by
   unfold Sy.write;split
   ·rfl
   ·split<;>rfl
  have hG:(b.s.write (b.where_ x t true).1 v).2.G=b.s.G:=by
   unfold Sy.write;split
   ·rfl
   ·split<;>rfl
  exact h.sys (BV7 h.good) hG h.sr h.ok h.len (fun f h1 h2=>by rw [hK];exact (h.kind f h1 h2).1) fun v hv=>by rw [hK];exact h.view hv
 ·exact h
theorem AK7 (h:H6 b) (x t v:Int):H6 (b.write x t v).2:=by
 unfold Bk.write
 split
 ·exact h
 rename_i hin
 have hin:inR 64 x∧inR 65536 t:=Classical.not_not.1 hin
 cases hf:Q6 b.L x.toNat (t.toNat / 64) with
 | none=>exact h
 | some u =>
  dsimp only
  split
  ·exact Ar6 h x t v
  ·split
   ·refine Ar6 (b:={ b with L:=AQ7 (prV true) x.toNat (t.toNat / 64) b.L }) ?_ x t v
    refine h.sys h.good rfl (BF2 (fun v=>⟨rfl,rfl⟩) h.sr) (fun w hw=>?_) (by unfold AQ7;rw [List.length_map];exact h.len) (fun f h1 h2=>(h.kind f h1 h2).1) fun w hw=>?_
    ·obtain ⟨y,hy,rfl⟩:=AR7.1 hw
     split
     ·exact h.ok y hy
     ·exact h.ok y hy
    ·obtain ⟨y,hy,rfl⟩:=AR7.1 hw
     have hv:=h.view hy
     split
     ·exact hv
     ·exact hv
   ·have tk:=h.tk (b.s.B u.2.2.1)
    split
    ·rename_i he
     obtain ⟨u1,u2,u3,u4,u5⟩:=tk.got he
     have hr:=h.rng
     refine Ar6 (b:={ b with L:=AQ7 (frV _) x.toNat (t.toNat / 64) b.L,s:=_ }) ?_ x t v
     refine h.sys tk.good tk.G (BF2 (fun v=>⟨rfl,rfl⟩) h.sr) (fun w hw=>?_) (by unfold AQ7;rw [List.length_map];exact h.len) (h.tkK _) fun w hw=>?_
     ·obtain ⟨y,hy,rfl⟩:=AR7.1 hw
      have:=h.ok y hy
      split
      ·exact ⟨this.1,this.2.1,by show (tkP b.a b.n b.L b.s (b.s.B u.2.2.1)).2.1 < 1024;omega⟩
      ·exact this
     ·obtain ⟨y,hy,rfl⟩:=AR7.1 hw
      split
      ·exact ⟨u1,u2,u4⟩
      ·obtain ⟨w1,w2,w3⟩:=h.view hy
       exact ⟨w1,w2,tk.up _ w3⟩
    ·exact h.sys tk.good tk.G h.sr h.ok h.len (h.tkK _) fun v hv=>by
      obtain ⟨w1,w2,w3⟩:=h.view hv
      exact ⟨w1,w2,tk.up _ w3⟩
end
end Go.Pol
namespace Go.Pol
open Go.Am Go.Proofs.YtphggldkligldaaGreat.Sh
section
variable {b:Bk}
def OutB (b:Bk):Prop:=∀ p,¬ (b.a≤p∧p < b.a+b.n)→b.s.K p=0
theorem out_giv (h:H6 b) (ho:OutB b) {G:List Nat} (hG:∀ f ∈ G,f < 1024∧b.s.K f=2∧b.s.M f=false) (hn:G.Nodup) (hr:∀ f ∈ G,b.a≤f∧f < b.a+b.n):∀ p,¬ (b.a≤p∧p < b.a+b.n)→(AG5 b.s G).K p=0:=fun p hp=>by
 rw [((AP7 h.good hG hn).2.2.1 p fun hg=>hp (hr p hg)).1];exact ho p hp
theorem one_ok (h:H6 b) {v:Vw} (hv:v ∈ b.L):∀ f ∈ [v.2.2.1],f < 1024∧b.s.K f=2∧b.s.M f=false:=fun f hf=>by
 obtain ⟨w1,w2,w3⟩:=h.view hv
 have hr:=h.rng
 rw [List.mem_singleton.1 hf]
 exact ⟨by omega,w3,(h.kind _ w1 w2).2⟩
theorem gone_rng (h:H6 b) (x:Nat):∀ f ∈ AC3 b.L x,b.a≤f∧f < b.a+b.n:=fun f hf=>by
 obtain ⟨h1,⟨v,hv,h2,h3⟩,h4⟩:=AV5.1 hf
 obtain ⟨w1,w2,w3⟩:=h.view hv
 exact ⟨h3▸w1,h3▸w2⟩
theorem out_gone (h:H6 b) (ho:OutB b) (x:Nat):∀ p,¬ (b.a≤p∧p < b.a+b.n)→(AG5 b.s (AC3 b.L x)).K p=0:=out_giv h ho (Ar9 h x) AP6 (gone_rng h x)
theorem out_drop (h:H6 b) (ho:OutB b) (x:Int):OutB (b.drop x).2.2:=by
 unfold Bk.drop
 split
 ·exact ho
 ·show OutB { b with L:=noA x.toNat b.L,s:=AG5 b.s (AC3 b.L x.toNat) }
  intro p hp
  dsimp only at hp ⊢
  exact out_gone h ho x.toNat p hp
theorem isR_nilE {C:Nat→Int} {k:Nat}:isR [] C k=false:=by unfold isR Ac7;split<;>rfl
structure Aj8 (b:Bk):Prop where
 l:b.s.l=[]
 no:∀ f,b.a≤f→f < b.a+b.n→b.s.K f=2→0 < cntF b.L f
theorem BA1:∀ {G:List Nat} {s:Sy},s.l=[]→(∀ f ∈ G,f < 1024∧s.K f=2∧s.M f=false)→G.Nodup→(AG5 s G).l=[]∧∀ p,(AG5 s G).K p=if p ∈ G then 1 else s.K p
 | [],s,hl,_,_=>⟨hl,fun p=>by rw [if_neg (by simp)];rfl⟩
 | f::G,s,hl,h,hn=>by
  obtain ⟨hf,hk,hm⟩:=h f (List.mem_cons_self ..)
  rw [List.nodup_cons] at hn
  show (AG5 (s.chg (f:Nat) 1 2 1 3).2 G).l=[]∧∀ p,(AG5 (s.chg (f:Nat) 1 2 1 3).2 G).K p=_
  have hc:s.chg (f:Nat) 1 2 1 3=(0,s.turn f 1 3):=by rw [At7 hf hk hm,hl,isR_nilE];rfl
  rw [hc]
  obtain ⟨i1,i2⟩:=BA1 (G:=G) (s:=s.turn f 1 3) hl (fun g hgm=>by
   obtain ⟨a1,a2,a3⟩:=h g (List.mem_cons_of_mem _ hgm)
   exact ⟨a1,by rw [AQ6,if_neg (fun e:g=f=>hn.1 (e▸hgm))];exact a2,a3⟩) hn.2
  refine ⟨i1,fun p=>?_⟩
  rw [i2,AQ6]
  by_cases e:p=f
  ·subst e;rw [if_neg hn.1,if_pos rfl,if_pos (List.mem_cons_self ..)]
  ·rw [if_neg e]
   by_cases e2:p ∈ G
   ·rw [if_pos e2,if_pos (List.mem_cons_of_mem _ e2)]
   ·rw [if_neg e2,if_neg fun hc=>(List.mem_cons.1 hc).elim e e2]
theorem BS1 (h:H6 b) (ht:Aj8 b) (x:Nat) {L':List Vw} (hc:∀ f,0 < cntF (noA x b.L) f→0 < cntF L' f):Aj8 { b with L:=L',s:=AG5 b.s (AC3 b.L x) }:=by
 obtain ⟨g1,g2⟩:=BA1 ht.l (Ar9 h x) AP6
 refine ⟨g1,fun f h1 h2 hk=>?_⟩
 dsimp only at h1 h2 hk
 rw [g2] at hk
 by_cases e:f ∈ AC3 b.L x
 ·rw [if_pos e] at hk;exact absurd hk (by decide)
 ·rw [if_neg e] at hk
  refine hc f (Classical.byContradiction fun h0=>e (AV5.2 ?_))
  have hr:=h.rng
  obtain ⟨u,hu,eu⟩:=Y4.1 (ht.no f h1 h2 hk)
  refine ⟨by omega,⟨u,hu,Classical.byContradiction fun hne=>h0 (Y4.2 ⟨u,AA3.2 ⟨hu,hne⟩,eu⟩),eu⟩,by omega⟩
theorem BS2 (h:H6 b) (ht:Aj8 b) (x:Int):Aj8 (b.drop x).2.2:=by
 unfold Bk.drop
 split
 ·exact ht
 ·show Aj8 { b with L:=noA x.toNat b.L,s:=AG5 b.s (AC3 b.L x.toNat) }
  exact BS1 h ht x.toNat fun f hf=>hf
end
end Go.Pol
namespace Go.Pol
open Go.Am Go.Proofs.YtphggldkligldaaGreat.Sh
theorem Aw3 {g:Vw→Vw} {A B:List Vw} {v:Vw} (hs:srt (A++v::B)):AQ7 g v.1 v.2.1 (A++v::B)=A++g v::B:=by
 have hne:=Am2 hs
 unfold AQ7
 rw [List.map_append,List.map_cons,if_pos ⟨rfl,rfl⟩]
 congr 1
 ·conv=>rhs;rw [← List.map_id A]
  exact List.map_congr_left fun w hw=>if_neg (hne.1 w hw)
 ·congr 1
  conv=>rhs;rw [← List.map_id B]
  exact List.map_congr_left fun w hw=>if_neg (hne.2 w hw)
theorem del_split {A B:List Vw} {v:Vw} (hs:srt (A++v::B)):Ak7 (A++v::B) v.1 v.2.1=A++B:=by
 have hne:=Am2 hs
 unfold Ak7
 rw [List.filter_append,List.filter_cons,if_neg (by simp [atV])]
 congr 1
 ·exact List.filter_eq_self.2 fun w hw=>by simpa using hne.1 w hw
 ·exact List.filter_eq_self.2 fun w hw=>by simpa using hne.2 w hw
section
variable {b:Bk}
end
end Go.Pol
namespace Go.Pol
open Go.Am Go.Proofs.YtphggldkligldaaGreat.Sh
def Bk.rd (b:Bk) (a k j:Nat):Option Int:=(Q6 b.L a k).map fun v=>b.s.B v.2.2.1 j
theorem Ab8 {M:List Vw} (hs:srt M) {v:Vw} {a k:Nat} (hv:v ∈ M) (h1:v.1=a) (h2:v.2.1=k):Q6 M a k=some v:=by
 rw [← h1,← h2];exact fnd_yes hs hv
theorem fnd_ins {L:List Vw} {v:Vw} (hs:srt L) (hn:∀ u ∈ L,¬ atV (v.1,v.2.1) u) (a k:Nat):Q6 (Ab6 v L) a k=if v.1=a∧v.2.1=k then some v else Q6 L a k:=by
 have hs2:=Af8 hs hn
 split
 ·rename_i h;exact Ab8 hs2 (AA4.2 (.inl rfl)) h.1 h.2
 ·rename_i h
  cases hf:Q6 L a k with
  | none =>
   refine Ab9 fun u hu hau=>?_
   rcases AA4.1 hu with rfl|hu
   ·exact h hau
   ·exact Z7 hf u hu hau
  | some u =>
   obtain ⟨h1,h2⟩:=J2 hf
   exact Ab8 hs2 (AA4.2 (.inr h1)) h2.1 h2.2
theorem fnd_del {L:List Vw} (hs:srt L) (x y a k:Nat):Q6 (Ak7 L x y) a k=if x=a∧y=k then none else Q6 L a k:=by
 have hs2:srt (Ak7 L x y):=hs.sublist List.filter_sublist
 split
 ·rename_i h
  refine Ab9 fun u hu hau=>(AY7.1 hu).2 ?_
  rw [h.1,h.2];exact hau
 ·rename_i h
  cases hf:Q6 L a k with
  | none=>exact Ab9 fun u hu hau=>Z7 hf u (AY7.1 hu).1 hau
  | some u =>
   obtain ⟨h1,h2⟩:=J2 hf
   exact Ab8 hs2 (AY7.2 ⟨h1,fun h3=>h ⟨h3.1.symm.trans h2.1,h3.2.symm.trans h2.2⟩⟩) h2.1 h2.2
theorem fnd_noA {L:List Vw} (hs:srt L) (x a k:Nat):Q6 (noA x L) a k=if x=a then none else Q6 L a k:=by
 have hs2:srt (noA x L):=hs.sublist List.filter_sublist
 split
 ·rename_i h
  exact Ab9 fun u hu hau=>(AA3.1 hu).2 (hau.1.trans h.symm)
 ·rename_i h
  cases hf:Q6 L a k with
  | none=>exact Ab9 fun u hu hau=>Z7 hf u (AA3.1 hu).1 hau
  | some u =>
   obtain ⟨h1,h2⟩:=J2 hf
   exact Ab8 hs2 (AA3.2 ⟨h1,fun e=>h (e.symm.trans h2.1)⟩) h2.1 h2.2
theorem fnd_frk {L:List Vw} (hs:srt L) {x y:Nat} (hxy:x ≠ y) (hy:ofA y L=[]) (a k:Nat):Q6 (BV9 x y L) a k=if a=y then (Q6 L x k).map (cpV y) else (Q6 L a k).map (wnV x):=by
 have hs2:=BI5 (x:=x) hs hy
 have hny:∀ v ∈ L,v.1 ≠ y:=fun v hv e=>by
  have : v ∈ ofA y L:=J8.2 ⟨hv,e⟩
  rw [hy] at this;cases this
 split
 ·rename_i h
  subst h
  cases hf:Q6 L x k with
  | none =>
   refine Ab9 fun u hu hau=>?_
   rcases AS4.1 hu with ⟨w,hw,rfl⟩ | ⟨w,hw,h1,rfl⟩
   ·exact hny w hw hau.1
   ·exact Z7 hf w hw ⟨h1,hau.2⟩
  | some u =>
   obtain ⟨h1,h2⟩:=J2 hf
   exact Ab8 hs2 (AS4.2 (.inr ⟨u,h1,h2.1,rfl⟩)) rfl h2.2
 ·rename_i h
  cases hf:Q6 L a k with
  | none =>
   refine Ab9 fun u hu hau=>?_
   rcases AS4.1 hu with ⟨w,hw,rfl⟩ | ⟨w,hw,h1,rfl⟩
   ·exact Z7 hf w hw hau
   ·exact h hau.1.symm
  | some u =>
   obtain ⟨h1,h2⟩:=J2 hf
   exact Ab8 hs2 (AS4.2 (.inl ⟨u,h1,rfl⟩)) h2.1 h2.2
theorem As1 {L:List Vw} (hs:srt L) {g:Vw→Vw} (hg:∀ v,(g v).1=v.1∧(g v).2.1=v.2.1) (x y a k:Nat):Q6 (AQ7 g x y L) a k=(Q6 L a k).map fun v=>if x=a∧y=k then g v else v:=by
 have hs2:=BF2 (a:=x) (k:=y) hg hs
 cases hf:Q6 L a k with
 | none =>
  refine Ab9 fun u hu hau=>?_
  obtain ⟨w,hw,rfl⟩:=AR7.1 hu
  refine Z7 hf w hw ?_
  split at hau
  ·exact ⟨(hg w).1.symm.trans hau.1,(hg w).2.symm.trans hau.2⟩
  ·exact hau
 | some u =>
  obtain ⟨h1,h2⟩:=J2 hf
  have e:(if atV (x,y) u then g u else u)=if x=a∧y=k then g u else u:=by
   have h3:atV (x,y) u ↔ x=a∧y=k:=⟨fun h=>⟨h.1.symm.trans h2.1,h.2.symm.trans h2.2⟩,fun h=>⟨h2.1.trans h.1.symm,h2.2.trans h.2.symm⟩⟩
   by_cases h4:atV (x,y) u
   ·rw [if_pos h4,if_pos (h3.1 h4)]
   ·rw [if_neg h4,if_neg fun h5=>h4 (h3.2 h5)]
  refine Ab8 hs2 (AR7.2 ⟨u,h1,e.symm⟩) ?_ ?_
  ·show (if x=a∧y=k then g u else u).1=a
   split
   ·exact (hg u).1.trans h2.1
   ·exact h2.1
  ·show (if x=a∧y=k then g u else u).2.1=k
   split
   ·exact (hg u).2.trans h2.2
   ·exact h2.2
section
variable {b:Bk}
theorem rd_of {b':Bk} {a k j:Nat} {g:Vw→Vw} (hf:Q6 b'.L a k=(Q6 b.L a k).map g) (hB:∀ v ∈ b.L,v.1=a→v.2.1=k→b'.s.B (g v).2.2.1 j=b.s.B v.2.2.1 j):b'.rd a k j=b.rd a k j:=by
 unfold Bk.rd
 rw [hf]
 cases h:Q6 b.L a k with
 | none=>rfl
 | some v =>
  obtain ⟨h1,h2⟩:=J2 h
  exact congrArg some (hB v h1 h2.1 h2.2)
theorem BF7 {b':Bk} (hL:b'.L=b.L) (hB:∀ v ∈ b.L,b'.s.B v.2.2.1=b.s.B v.2.2.1) (a k j:Nat):b'.rd a k j=b.rd a k j:=rd_of (g:=id) (by rw [hL];simp) fun v hv _ _=>by rw [show (id v)=v from rfl,hB v hv]
theorem map_keeps (h:H6 b) (x k:Int) (he:(b.map x k).1 ≠ 0) (a c j:Nat):(b.map x k).2.L=b.L∧(b.map x k).2.rd a c j=b.rd a c j∧(∀ f,0 < cntF b.L f→(b.map x k).2.s.B f=b.s.B f):=by
 unfold Bk.map at he ⊢
 split
 ·exact ⟨rfl,rfl,fun _ _=>rfl⟩
 split
 ·exact ⟨rfl,rfl,fun _ _=>rfl⟩
 split
 ·exact ⟨rfl,rfl,fun _ _=>rfl⟩
 rename_i h1 h2 h3
 rw [if_neg h1,if_neg h2,if_neg h3] at he
 have tk:=h.tk fun _=>0
 split
 ·rename_i h0;rw [if_pos h0] at he;exact absurd rfl he
 ·exact ⟨rfl,BF7 (b:=b) (b':={ b with s:=(tkP b.a b.n b.L b.s fun _=>0).2.2 }) rfl (fun v hv=>tk.old _ (Y4.2 ⟨v,hv,rfl⟩)) a c j,fun f hf=>tk.old f hf⟩
theorem map_rd (h:H6 b) (x k:Int) (he:(b.map x k).1=0) (a c j:Nat) (hj:j < 64):inR 64 x∧inR 1024 k∧Q6 b.L x.toNat k.toNat=none∧(b.map x k).2.rd a c j=if x.toNat=a∧k.toNat=c then some 0 else b.rd a c j:=by
 unfold Bk.map at he ⊢
 split at he
 ·exact absurd he (by decide:¬ (7:Int)=0)
 rename_i hin
 have hin2:inR 64 x∧inR 1024 k:=Classical.not_not.1 hin
 rw [if_neg hin]
 split at he
 ·exact absurd he (by decide:¬ (8:Int)=0)
 rename_i hf
 rw [if_neg hf]
 have hfn:Q6 b.L x.toNat k.toNat=none:=by
  cases hq:Q6 b.L x.toNat k.toNat with
  | none=>rfl
  | some v=>rw [hq] at hf;exact absurd rfl hf
 have hn:=Z7 hfn
 split at he
 ·exact absurd he (by decide:¬ (5:Int)=0)
 rename_i hl
 rw [if_neg hl]
 have tk:=h.tk fun _=>0
 split at he
 ·rename_i h0
  rw [if_pos h0]
  refine ⟨hin2.1,hin2.2,hfn,?_⟩
  obtain ⟨u1,u2,u3,u4,u5⟩:=tk.got h0
  dsimp only
  generalize tkP b.a b.n b.L b.s (fun _=>0)=r at *
  have hfi:=fnd_ins (v:=(x.toNat,k.toNat,r.2.1,true)) h.sr hn a c
  dsimp only at hfi
  unfold Bk.rd
  dsimp only
  rw [hfi]
  split
  ·show some (r.2.2.B r.2.1 j)=some 0
   rw [u5 j hj]
  ·cases hq:Q6 b.L a c with
   | none=>rfl
   | some w =>
    obtain ⟨hw,_⟩:=J2 hq
    show some (r.2.2.B w.2.2.1 j)=some (b.s.B w.2.2.1 j)
    rw [tk.old _ (Y4.2 ⟨w,hw,rfl⟩)]
 ·rename_i h0;exact absurd he h0
theorem giv_B (h:H6 b) {G:List Nat} (hG:∀ f ∈ G,f < 1024∧b.s.K f=2∧b.s.M f=false) (hn:G.Nodup) {f:Nat} (hf:f ∉ G):(AG5 b.s G).B f=b.s.B f:=((AP7 h.good hG hn).2.2.1 f hf).2
theorem unmap_no (x k:Int) (he:(b.unmap x k).1 ≠ 0):(b.unmap x k).2=b:=by
 unfold Bk.unmap at he ⊢
 split
 ·rfl
 rename_i hin
 rw [if_neg hin] at he
 cases hf:Q6 b.L x.toNat k.toNat with
 | none=>rfl
 | some v=>rw [hf] at he;exact absurd rfl he
theorem unmap_rd (h:H6 b) (x k:Int) (he:(b.unmap x k).1=0) (a c j:Nat):inR 64 x∧inR 1024 k∧Q6 b.L x.toNat k.toNat ≠ none∧(b.unmap x k).2.rd a c j=if x.toNat=a∧k.toNat=c then none else b.rd a c j:=by
 unfold Bk.unmap at he ⊢
 split at he
 ·exact absurd he (by decide:¬ (7:Int)=0)
 rename_i hin
 have hin2:inR 64 x∧inR 1024 k:=Classical.not_not.1 hin
 rw [if_neg hin]
 cases hf:Q6 b.L x.toNat k.toNat with
 | none=>rw [hf] at he;exact absurd he (by decide:¬ (4:Int)=0)
 | some v =>
  obtain ⟨hv,hva⟩:=J2 hf
  refine ⟨hin2.1,hin2.2,by simp,?_⟩
  have hfd:=fnd_del h.sr x.toNat k.toNat a c
  unfold Bk.rd
  dsimp only
  rw [hfd]
  by_cases hne:x.toNat=a∧k.toNat=c
  ·rw [if_pos hne,if_pos hne];rfl
  ·rw [if_neg hne,if_neg hne]
   cases hq:Q6 b.L a c with
   | none=>rfl
   | some w =>
    obtain ⟨hw,hwa⟩:=J2 hq
    simp only [Option.map_some]
    refine congrArg some ?_
    split
    ·rename_i h0
     rw [giv_B h (one_ok h hv) (by simp) (fun hm=>?_)]
     have hwd:w ∈ Ak7 b.L x.toNat k.toNat:=AY7.2 ⟨hw,fun h3=>hne ⟨h3.1.symm.trans hwa.1,h3.2.symm.trans hwa.2⟩⟩
     have:=Y4.2 ⟨w,hwd,List.mem_singleton.1 hm⟩
     omega
    ·rfl
theorem take_no (x y:Int) (he:(b.take x y).2.1 ≠ 0):(b.take x y).2.2=b:=by
 unfold Bk.take at he ⊢
 split
 ·rfl
 rename_i h1;rw [if_neg h1] at he
 split
 ·rfl
 rename_i h2;rw [if_neg h2] at he
 split
 ·rfl
 rename_i h3;rw [if_neg h3] at he
 split
 ·rfl
 rename_i h4;rw [if_neg h4] at he
 exact absurd rfl he
theorem take_rd (h:H6 b) (x y:Int) (he:(b.take x y).2.1=0):inR 64 x∧inR 64 y∧x ≠ y∧∀ a c j,(b.take x y).2.2.rd a c j=if a=y.toNat then b.rd x.toNat c j else b.rd a c j:=by
 unfold Bk.take at he ⊢
 split at he
 ·exact absurd he (by decide:¬ (7:Int)=0)
 rename_i hin
 have hin2:inR 64 x∧inR 64 y:=Classical.not_not.1 hin
 rw [if_neg hin]
 split at he
 ·exact absurd he (by decide:¬ (2:Int)=0)
 rename_i hxy
 rw [if_neg hxy]
 split at he
 ·exact absurd he (by decide:¬ (8:Int)=0)
 rename_i h8
 rw [if_neg h8]
 split at he
 ·exact absurd he (by decide:¬ (5:Int)=0)
 rename_i h5
 rw [if_neg h5]
 refine ⟨hin2.1,hin2.2,hxy,fun a c j=>?_⟩
 have hx0:=hin2.1.1;have hx1:=hin2.1.2;have hy0:=hin2.2.1;have hy1:=hin2.2.2
 have hne:x.toNat ≠ y.toNat:=by omega
 have hf:=fnd_frk h.sr hne (List.eq_nil_of_length_eq_zero (by omega)) a c
 unfold Bk.rd
 dsimp only
 rw [hf]
 split
 ·cases Q6 b.L x.toNat c<;>rfl
 ·cases Q6 b.L a c<;>rfl
theorem gone_B (h:H6 b) (x:Nat) {u:Vw} (hu:u ∈ noA x b.L):(AG5 b.s (AC3 b.L x)).B u.2.2.1=b.s.B u.2.2.1:=giv_B h (Ar9 h x) AP6 fun hg=>by
 have:=(AV5.1 hg).2.2
 have : 0 < cntF (noA x b.L) u.2.2.1:=Y4.2 ⟨u,hu,rfl⟩
 omega
theorem drop_no (x:Int) (he:(b.drop x).2.1 ≠ 0):(b.drop x).2.2=b:=by
 unfold Bk.drop at he ⊢
 split
 ·rfl
 rename_i h1;rw [if_neg h1] at he;exact absurd rfl he
theorem drop_rd (h:H6 b) (x:Int) (he:(b.drop x).2.1=0):inR 64 x∧∀ a c j,(b.drop x).2.2.rd a c j=if a=x.toNat then none else b.rd a c j:=by
 unfold Bk.drop at he ⊢
 split at he
 ·exact absurd he (by decide:¬ (7:Int)=0)
 rename_i hin
 rw [if_neg hin]
 refine ⟨Classical.not_not.1 hin,fun a c j=>?_⟩
 have hf:=fnd_noA h.sr x.toNat a c
 unfold Bk.rd
 dsimp only
 rw [hf]
 by_cases e:x.toNat=a
 ·rw [if_pos e,if_pos e.symm];rfl
 ·rw [if_neg e,if_neg (Ne.symm e)]
  cases hq:Q6 b.L a c with
  | none=>simp only [Option.map_none]
  | some w =>
   obtain ⟨hw,hwa⟩:=J2 hq
   simp only [Option.map_some];rw [gone_B h x.toNat (AA3.2 ⟨hw,fun e2=>e (e2.symm.trans hwa.1)⟩)]
theorem revert_no (x y:Int) (he:(b.revert x y).2.1 ≠ 0):(b.revert x y).2.2=b:=by
 unfold Bk.revert at he ⊢
 split
 ·rfl
 rename_i h1;rw [if_neg h1] at he
 split
 ·rfl
 rename_i h2;rw [if_neg h2] at he
 split
 ·rfl
 rename_i h3;rw [if_neg h3] at he
 exact absurd rfl he
theorem revert_rd (h:H6 b) (x y:Int) (he:(b.revert x y).2.1=0):inR 64 x∧inR 64 y∧x ≠ y∧∀ a c j,(b.revert x y).2.2.rd a c j=if a=x.toNat then b.rd y.toNat c j else b.rd a c j:=by
 unfold Bk.revert at he ⊢
 split at he
 ·exact absurd he (by decide:¬ (7:Int)=0)
 rename_i hin
 have hin2:inR 64 x∧inR 64 y:=Classical.not_not.1 hin
 rw [if_neg hin]
 split at he
 ·exact absurd he (by decide:¬ (2:Int)=0)
 rename_i hxy
 rw [if_neg hxy]
 split at he
 ·exact absurd he (by decide:¬ (5:Int)=0)
 rename_i h5
 rw [if_neg h5]
 refine ⟨hin2.1,hin2.2,hxy,fun a c j=>?_⟩
 have hx0:=hin2.1.1;have hx1:=hin2.1.2;have hy0:=hin2.2.1;have hy1:=hin2.2.2
 have hne:y.toNat ≠ x.toNat:=by omega
 have hs:srt (noA x.toNat b.L):=h.sr.sublist List.filter_sublist
 have hf:=fnd_frk hs hne Ad3 a c
 have hf2:=fnd_noA h.sr x.toNat
 unfold Bk.rd
 dsimp only
 rw [hf]
 split
 ·rw [hf2,if_neg hne.symm]
  cases hq:Q6 b.L y.toNat c with
  | none=>simp only [Option.map_none]
  | some w =>
   obtain ⟨hw,hwa⟩:=J2 hq
   simp only [Option.map_some,cpV];rw [gone_B h x.toNat (AA3.2 ⟨hw,fun e2=>hne (hwa.1.symm.trans e2)⟩)]
 ·rename_i e
  rw [hf2,if_neg (Ne.symm e)]
  cases hq:Q6 b.L a c with
  | none=>simp only [Option.map_none]
  | some w =>
   obtain ⟨hw,hwa⟩:=J2 hq
   simp only [Option.map_some,wnV];rw [gone_B h x.toNat (AA3.2 ⟨hw,fun e2=>e (hwa.1.symm.trans e2)⟩)]
end
end Go.Pol
