/-
 A book of spaces,plain: its views,its system,and what each call does.
 A book of spaces,plain: what each call keeps.
 A book of spaces,plain: it stays a good one.
 A book of spaces,plain: pages outside of it;what an error keeps;without refusals no frame is idle.
 A book of spaces,plain: views at a place;writes.
 A book of spaces,plain: what a space reads.
 A book of spaces,plain: views that may be written are alone;what a write does.
 A book of spaces,plain: what a space reads after a write.
 A book of spaces,plain: any call keeps a good book;bytes are bytes.
 A book of spaces,plain: what each space has,followed without the book (SnapshotBytes).
 A book of spaces,plain: counts of frames (SnapshotFits,SnapshotCopies,SnapshotBack).
 A book of spaces,plain: what a write takes;a snapshot does not differ (SnapshotCopies).
 A book of spaces,plain: sums;frames that are used are not more than views (TopCopies).
 Spaces that share nothing,plain (TopCopies).
 A book and spaces that share nothing,plain (TopCopies).
 A book of spaces,plain: a new one.
 A book of spaces,plain: filling a page,counting frames,the example.
-/
import Derived.Test.YtphggldkligldaaGreatQas
set_option linter.unusedSimpArgs false
set_option linter.unusedVariables false
namespace Go.Pol
open Go.Am Go.Proofs.YtphggldkligldaaGreat.Sh
def AS8 (L:List Vw) (a k:Nat):Option Vw:=L.find? fun v=>decide (atV (a,k) v)
def delL (L:List Vw) (a k:Nat):List Vw:=L.filter fun v=>decide (¬ atV (a,k) v)
def AQ8 (g:Vw→Vw) (a k:Nat) (L:List Vw):List Vw:=L.map fun v=>if atV (a,k) v then g v else v
def BI5 (L:List Vw) (a n:Nat):Option Nat:=(List.range' a n).find? fun f=>decide (cntF L f=0)
def Sy.page (s:Sy) (f:Nat) (x:Nat→Int):Sy:={ s with B:=AP1 s.B f fun j=>if j < 64 then x j else 0 }
def tkP (a n:Nat) (L:List Vw) (s:Sy) (x:Nat→Int):Int × Nat × Sy:=match BI5 L a n with
 | none=>(5,0,s)
 | some f=>if s.K f=1 then (if (s.chg (f:Nat) 1 1 2 2).1=0 then (0,f,(s.chg (f:Nat) 1 1 2 2).2.page f x) else ((s.chg (f:Nat) 1 1 2 2).1,0,(s.chg (f:Nat) 1 1 2 2).2)) else (0,f,s.page f x)
def AY5 (s:Sy) (G:List Nat):Sy:=G.foldl (fun s f=>(s.chg (f:Nat) 1 2 1 3).2) s
structure Bk where
 a:Nat
 n:Nat
 L:List Vw
 s:Sy
def Bk.map (b:Bk) (x k:Int):Int × Bk :=
 if ¬ (inR 64 x∧inR 1024 k) then (7,b) else if (AS8 b.L x.toNat k.toNat).isSome then (8,b) else if 2000≤b.L.length then (5,b) else
 if (tkP b.a b.n b.L b.s fun _=>0).1=0 then (0,{ b with L:=AY4 (x.toNat,k.toNat,(tkP b.a b.n b.L b.s fun _=>0).2.1,true) b.L,s:=(tkP b.a b.n b.L b.s fun _=>0).2.2 })
 else ((tkP b.a b.n b.L b.s fun _=>0).1,{ b with s:=(tkP b.a b.n b.L b.s fun _=>0).2.2 })
def Bk.unmap (b:Bk) (x k:Int):Int × Bk :=
 if ¬ (inR 64 x∧inR 1024 k) then (7,b) else match AS8 b.L x.toNat k.toNat with
 | none=>(4,b)
 | some v=>(0,{ b with L:=delL b.L x.toNat k.toNat,s:=if cntF (delL b.L x.toNat k.toNat) v.2.2.1=0 then AY5 b.s [v.2.2.1] else b.s })
def frkL (x y:Nat) (L:List Vw):List Vw:=Ai5 y (L.map (wnV x)) (ofA x L)
def Bk.take (b:Bk) (x y:Int):Int × Int × Bk :=
 if ¬ (inR 64 x∧inR 64 y) then (0,7,b) else if x=y then (0,2,b) else if (ofA y.toNat b.L).length ≠ 0 then (0,8,b) else if 2000 < b.L.length+(ofA x.toNat b.L).length then (0,5,b) else
 ((ofA x.toNat b.L).length,0,{ b with L:=frkL x.toNat y.toNat b.L })
def Bk.drop (b:Bk) (x:Int):Int × Int × Bk :=
 if ¬ inR 64 x then (0,7,b) else ((AO6 b.L x.toNat).length,0,{ b with L:=noA x.toNat b.L,s:=AY5 b.s (AO6 b.L x.toNat) })
def Bk.revert (b:Bk) (x y:Int):Int × Int × Bk :=
 if ¬ (inR 64 x∧inR 64 y) then (0,7,b) else if x=y then (0,2,b) else if 2000 < b.L.length+(ofA y.toNat b.L).length - (ofA x.toNat b.L).length then (0,5,b) else
 ((ofA y.toNat b.L).length,0,{ b with L:=frkL y.toNat x.toNat (noA x.toNat b.L),s:=AY5 b.s (AO6 b.L x.toNat) })
def Bk.where_ (b:Bk) (x t:Int) (w:Bool):Int × Int :=
 if ¬ (inR 64 x∧inR 65536 t) then (0,7) else match AS8 b.L x.toNat (t.toNat / 64) with
 | none=>(0,220)
 | some v=>if w=true∧v.2.2.2=false then (0,220) else (((v.2.2.1 * 64+t.toNat % 64:Nat):Int),0)
def Bk.read (b:Bk) (x t:Int):Int × Int:=if (b.where_ x t false).2=0 then b.s.read (b.where_ x t false).1 else (0,(b.where_ x t false).2)
def Bk.put (b:Bk) (x t v:Int):Int × Bk:=if (b.where_ x t true).2=0 then ((b.s.write (b.where_ x t true).1 v).1,{ b with s:=(b.s.write (b.where_ x t true).1 v).2 }) else ((b.where_ x t true).2,b)
def Bk.write (b:Bk) (x t v:Int):Int × Bk :=
 if ¬ (inR 64 x∧inR 65536 t) then (7,b) else match AS8 b.L x.toNat (t.toNat / 64) with
 | none=>(220,b)
 | some u =>
  if u.2.2.2 then b.put x t v
  else if cntF b.L u.2.2.1=1 then Bk.put { b with L:=AQ8 (prV true) x.toNat (t.toNat / 64) b.L } x t v
  else if (tkP b.a b.n b.L b.s (b.s.B u.2.2.1)).1=0 then
   Bk.put { b with L:=AQ8 (frV (tkP b.a b.n b.L b.s (b.s.B u.2.2.1)).2.1) x.toNat (t.toNat / 64) b.L,s:=(tkP b.a b.n b.L b.s (b.s.B u.2.2.1)).2.2 } x t v
  else ((tkP b.a b.n b.L b.s (b.s.B u.2.2.1)).1,{ b with s:=(tkP b.a b.n b.L b.s (b.s.B u.2.2.1)).2.2 })
def eqB (f g:Nat→Int):Prop:=∀ j,j < 64→f j=g j
instance (f g:Nat→Int):Decidable (eqB f g):=by unfold eqB;infer_instance
def Bk.dif (b:Bk) (x y k:Nat):Bool:=match AS8 b.L x k,AS8 b.L y k with
 | none,none=>false
 | some u,some v=>!decide (eqB (b.s.B u.2.2.1) (b.s.B v.2.2.1))
 | _,_=>true
def Bk.differ (b:Bk) (x y:Int):List Int × Int:=if ¬ (inR 64 x∧inR 64 y) then ([],7) else (((List.range 1024).filter fun k=>b.dif x.toNat y.toNat k).map fun k=>((k:Nat):Int),0)
def Bk.used (b:Bk):Nat:=((List.range' b.a b.n).filter fun f=>decide (0 < cntF b.L f)).length
def Bk.idle (b:Bk):Nat:=((List.range' b.a b.n).filter fun f=>decide (cntF b.L f=0∧b.s.K f=2)).length
def Bk.many (b:Bk):Nat:=((List.range' b.a b.n).filter fun f=>decide (1 < cntF b.L f)).length
structure R9 (b:Bk):Prop where
 good:GoodS b.s
 rng:1≤b.n∧b.a+b.n≤1024
 kind:∀ f,b.a≤f→f < b.a+b.n→(b.s.K f=1∨b.s.K f=2)∧b.s.M f=false
 used:∀ f,0 < cntF b.L f→b.a≤f∧f < b.a+b.n∧b.s.K f=2
 sr:srt b.L
 ok:∀ v ∈ b.L,v.1 < 64∧v.2.1 < 1024∧v.2.2.1 < 1024
 len:b.L.length≤2000
end Go.Pol
namespace Go.Pol
open Go.Am Go.Proofs.YtphggldkligldaaGreat.Sh
theorem AI8 {L:List Vw} {a k:Nat} {v:Vw} (h:AS8 L a k=some v):v ∈ L∧atV (a,k) v:=⟨List.mem_of_find?_eq_some h,by have:=List.find?_some h;simpa using this⟩
theorem AR9 {L:List Vw} {a k:Nat} (h:AS8 L a k=none):∀ v ∈ L,¬ atV (a,k) v:=fun v hv=>by
 have:=List.find?_eq_none.1 h v hv
 simpa using this
theorem BI4 {L:List Vw} {a n f:Nat} (h:BI5 L a n=some f):a≤f∧f < a+n∧cntF L f=0:=by
 have h1:=List.mem_of_find?_eq_some h
 have h2:=List.find?_some h
 rw [List.mem_range'_1] at h1
 exact ⟨h1.1,h1.2,by simpa using h2⟩
theorem BI0 {s:Sy} {f:Nat} {x:Nat→Int} (h:GoodS s) (hk:s.K f=2):GoodS (s.page f x):=by
 refine ⟨h.hv,h.kind,h.huge,fun p hp=>?_,h.cK,fun p j hj=>?_⟩
 ·show AP1 s.B f _ p=_
  unfold AP1
  rw [if_neg fun e=>hp (by rw [e];exact hk)]
  exact h.zero p hp
 ·show AP1 s.B f _ p j=0
  unfold AP1
  split
  ·show (if j < 64 then x j else 0)=0;rw [if_neg (by omega)]
  ·exact h.cB p j hj
def Sy.turn (s:Sy) (f:Nat) (w:Int) (k:Nat):Sy:={ s.ref k with K:=fun p=>if p=f then w else s.K p,B:=fun p=>if p=f then fun _=>0 else s.B p }
theorem Ar4 {s:Sy} {f:Nat} {v w:Int} {k:Nat} (hf:f < 1024) (hk:s.K f=v) (hm:s.M f=false):s.chg (f:Nat) 1 v w k=if isR s.l s.C k then (60,s.ref k) else (0,s.turn f w k):=by
 unfold Sy.chg
 have hok:okR s.K s.M ((f:Nat):Int).toNat (1:Int).toNat v:=fun i hi=>by
  have hi:i < 1:=hi
  rw [show ((f:Nat):Int).toNat+i=f by omega];exact ⟨hk,hm⟩
 have h1:(1:Int).toNat=1:=rfl
 have e1:AM0 s.K ((f:Nat):Int).toNat (1:Int).toNat w=fun p=>if p=f then w else s.K p:=funext fun p=>by
  show (if _ then w else s.K p)=_
  by_cases e:p=f
  ·rw [if_pos e,if_pos (by omega)]
  ·rw [if_neg e,if_neg (by omega)]
 have e2:Ai2 s.B ((f:Nat):Int).toNat (1:Int).toNat=fun p=>if p=f then fun _=>0 else s.B p:=funext fun p=>by
  show (if _ then (fun _=>0) else s.B p)=_
  by_cases e:p=f
  ·rw [if_pos e,if_pos (by omega)]
  ·rw [if_neg e,if_neg (by omega)]
 rw [if_neg (by omega),if_pos hok,e1,e2]
 rfl
theorem AT3 {s:Sy} {f p:Nat} {w:Int} {k:Nat}:(s.turn f w k).K p=if p=f then w else s.K p:=rfl
theorem BD7 {s:Sy} {f p:Nat} {w:Int} {k:Nat}:(s.turn f w k).B p=if p=f then fun _=>0 else s.B p:=rfl
theorem BH9 {s:Sy} {f:Nat} {v w:Int} {k:Nat} (h:GoodS s) (hf:f < 1024) (hw:0≤w∧w≤3) (hk:s.K f=v) (hm:s.M f=false):GoodS (s.turn f w k):=by
 refine ⟨BB8 h.hv,fun p=>?_,fun p hp=>?_,fun p hp=>?_,fun p hp=>?_,fun p j hj=>?_⟩
 ·rw [AT3];split
  ·exact hw
  ·exact h.kind p
 ·rw [AT3]
  have hp':s.M p=true:=hp
  rw [if_neg fun e=>by rw [e,hm] at hp';cases hp']
  exact h.huge p hp'
 ·rw [BD7]
  split
  ·rfl
  ·rename_i e
   rw [AT3,if_neg e] at hp
   exact h.zero p hp
 ·rw [AT3,if_neg (by omega)];exact h.cK p hp
 ·rw [BD7];split
  ·rfl
  ·exact h.cB p j hj
structure TkS (a n:Nat) (L:List Vw) (s:Sy) (x:Nat→Int) (r:Int × Nat × Sy):Prop where
 good:GoodS r.2.2
 G:r.2.2.G=s.G
 up:∀ p,s.K p=2→r.2.2.K p=2
 new:∀ p,r.2.2.K p ≠ s.K p→a≤p∧p < a+n∧s.K p=1∧r.2.2.K p=2
 old:∀ p,0 < cntF L p→r.2.2.B p=s.B p
 got:r.1=0→a≤r.2.1∧r.2.1 < a+n∧cntF L r.2.1=0∧r.2.2.K r.2.1=2∧∀ j,j < 64→r.2.2.B r.2.1 j=x j
theorem tk_spec {a n:Nat} {L:List Vw} {s:Sy} {x:Nat→Int} (hg:GoodS s) (han:a+n≤1024) (hk:∀ f,a≤f→f < a+n→(s.K f=1∨s.K f=2)∧s.M f=false):TkS a n L s x (tkP a n L s x):=by
 unfold tkP
 cases hf:BI5 L a n with
 | none=>exact ⟨hg,rfl,fun p h=>h,fun p h=>absurd rfl h,fun p _=>rfl,fun h=>absurd h (by decide:¬ (5:Int)=0)⟩
 | some f =>
  obtain ⟨h1,h2,h3⟩:=BI4 hf
  obtain ⟨hkf,hmf⟩:=hk f h1 h2
  have hB:∀ (t:Sy) (p:Nat),(t.page f x).B p=if p=f then (fun j=>if j < 64 then x j else 0) else t.B p:=fun t p=>rfl
  dsimp only
  by_cases k1:s.K f=1
  ·rw [if_pos k1,Ar4 (by omega) k1 hmf]
   by_cases hr:isR s.l s.C 2=true
   ·rw [if_pos hr,if_neg (show ¬ (60:Int)=0 by decide)]
    exact ⟨BA1 hg,rfl,fun p h=>h,fun p h=>absurd rfl h,fun p _=>rfl,fun h=>absurd h (by decide:¬ (60:Int)=0)⟩
   ·rw [if_neg hr,if_pos rfl]
    have hK:∀ p,((s.turn f 2 2).page f x).K p=if p=f then 2 else s.K p:=fun p=>rfl
    refine ⟨BI0 (BH9 hg (by omega) (by decide) k1 hmf) (by rw [AT3,if_pos rfl]),rfl,fun p h=>?_,fun p h=>?_,fun p hp=>?_,fun _=>⟨h1,h2,h3,?_,fun j hj=>?_⟩⟩
    ·show ((s.turn f 2 2).page f x).K p=2
     rw [hK];split<;>first|rfl|exact h
    ·have h:((s.turn f 2 2).page f x).K p ≠ s.K p:=h
     show _∧_∧_∧((s.turn f 2 2).page f x).K p=2
     rw [hK] at h ⊢
     by_cases e:p=f
     ·subst e;rw [if_pos rfl];exact ⟨h1,h2,k1,rfl⟩
     ·rw [if_neg e] at h;exact absurd rfl h
    ·show ((s.turn f 2 2).page f x).B p=s.B p
     rw [hB,if_neg (fun e=>by rw [e] at hp;omega),BD7,if_neg (fun e=>by rw [e] at hp;omega)]
    ·show ((s.turn f 2 2).page f x).K f=2
     rw [hK,if_pos rfl]
    ·show ((s.turn f 2 2).page f x).B f j=x j
     rw [hB,if_pos rfl];exact if_pos hj
  ·rw [if_neg k1]
   have k2:s.K f=2:=hkf.resolve_left k1
   refine ⟨BI0 hg k2,rfl,fun p h=>h,fun p h=>absurd rfl h,fun p hp=>?_,fun _=>⟨h1,h2,h3,k2,fun j hj=>?_⟩⟩
   ·show (s.page f x).B p=s.B p
    rw [hB,if_neg (fun e=>by rw [e] at hp;omega)]
   ·show (s.page f x).B f j=x j
    rw [hB,if_pos rfl];exact if_pos hj
end Go.Pol
namespace Go.Pol
open Go.Am Go.Proofs.YtphggldkligldaaGreat.Sh
theorem AS3 {L:List Vw} {f:Nat}:0 < cntF L f ↔ ∃ v ∈ L,v.2.2.1=f:=by
 unfold cntF
 rw [List.length_pos_iff_exists_mem]
 constructor
 ·rintro ⟨v,hv⟩
  rw [List.mem_filter] at hv
  exact ⟨v,hv.1,by simpa using hv.2⟩
 ·rintro ⟨v,hv,h⟩
  exact ⟨v,List.mem_filter.2 ⟨hv,by simpa using h⟩⟩
theorem Ak9:∀ {G:List Nat} {s:Sy},GoodS s→(∀ f ∈ G,f < 1024∧s.K f=2∧s.M f=false)→G.Nodup →
  GoodS (AY5 s G)∧(AY5 s G).G=s.G∧(∀ p,p ∉ G→(AY5 s G).K p=s.K p∧(AY5 s G).B p=s.B p)∧∀ p ∈ G,(AY5 s G).K p=1∨(AY5 s G).K p=2
 | [],s,hg,_,_=>⟨hg,rfl,fun p _=>⟨rfl,rfl⟩,fun p hp=>by cases hp⟩
 | f::G,s,hg,h,hn=>by
  obtain ⟨hf,hk,hm⟩:=h f (List.mem_cons_self ..)
  rw [List.nodup_cons] at hn
  show GoodS (AY5 (s.chg (f:Nat) 1 2 1 3).2 G)∧(AY5 (s.chg (f:Nat) 1 2 1 3).2 G).G=s.G∧(∀ p,p ∉ f::G→(AY5 (s.chg (f:Nat) 1 2 1 3).2 G).K p=s.K p∧(AY5 (s.chg (f:Nat) 1 2 1 3).2 G).B p=s.B p)∧∀ p ∈ f::G,(AY5 (s.chg (f:Nat) 1 2 1 3).2 G).K p=1∨(AY5 (s.chg (f:Nat) 1 2 1 3).2 G).K p=2
  rw [Ar4 hf hk hm]
  split
  ·obtain ⟨i1,i2,i3,i4⟩:=Ak9 (G:=G) (s:=s.ref 3) (BA1 hg) (fun g hgm=>h g (List.mem_cons_of_mem _ hgm)) hn.2
   refine ⟨i1,i2,fun p hp=>i3 p fun hp2=>hp (List.mem_cons_of_mem _ hp2),fun p hp=>?_⟩
   rcases List.mem_cons.1 hp with rfl|hp
   ·exact .inr ((i3 p hn.1).1.trans hk)
   ·exact i4 p hp
  ·obtain ⟨i1,i2,i3,i4⟩:=Ak9 (G:=G) (s:=s.turn f 1 3) (BH9 hg hf (by decide) hk hm) (fun g hgm=>by
    obtain ⟨a1,a2,a3⟩:=h g (List.mem_cons_of_mem _ hgm)
    exact ⟨a1,by rw [AT3,if_neg (fun e:g=f=>hn.1 (e▸hgm))];exact a2,a3⟩) hn.2
   refine ⟨i1,i2,fun p hp=>?_,fun p hp=>?_⟩
   ·have hpf:p ≠ f:=fun e=>hp (e▸List.mem_cons_self ..)
    obtain ⟨j1,j2⟩:=i3 p fun hp2=>hp (List.mem_cons_of_mem _ hp2)
    exact ⟨j1.trans (by rw [AT3,if_neg hpf]),j2.trans (by rw [BD7,if_neg hpf])⟩
   ·rcases List.mem_cons.1 hp with rfl|hp
    ·exact .inl ((i3 p hn.1).1.trans (by rw [AT3,if_pos rfl]))
    ·exact i4 p hp
theorem Ak8 {L:List Vw} {a f:Nat}:f ∈ AO6 L a ↔ f < 1024∧(∃ v ∈ L,v.1=a∧v.2.2.1=f)∧cntF (noA a L) f=0:=by
 unfold AO6 Ag7 Aa1
 rw [List.mem_filter,List.mem_range,BX6,List.take_length,Bool.and_eq_true,decide_eq_true_eq,decide_eq_true_eq]
 constructor
 ·rintro ⟨h1,h2,h3⟩
  obtain ⟨v,hv,e⟩:=List.mem_map.1 h2
  exact ⟨h1,⟨v,(R4.1 hv).1,(R4.1 hv).2,e⟩,h3⟩
 ·rintro ⟨h1,⟨v,hv,h2,h3⟩,h4⟩
  exact ⟨h1,List.mem_map.2 ⟨v,R4.2 ⟨hv,h2⟩,h3⟩,h4⟩
theorem Ag6 {L:List Vw} {a:Nat}:(AO6 L a).Nodup:=List.Nodup.sublist List.filter_sublist List.nodup_range
theorem Az4 {L:List Vw} {a:Nat} {v:Vw}:v ∈ noA a L ↔ v ∈ L∧v.1 ≠ a:=by simp [noA]
section
variable {b:Bk}
theorem R9.sys (h:R9 b) {L':List Vw} {s':Sy} (hg:GoodS s') (hG:s'.G=b.s.G) (hs:Go.Pol.srt L') (hok:∀ v ∈ L',v.1 < 64∧v.2.1 < 1024∧v.2.2.1 < 1024) (hl:L'.length≤2000)
  (hk:∀ f,b.a≤f→f < b.a+b.n→s'.K f=1∨s'.K f=2) (hu:∀ v ∈ L',b.a≤v.2.2.1∧v.2.2.1 < b.a+b.n∧s'.K v.2.2.1=2):R9 { b with L:=L',s:=s' } :=
 ⟨hg, h.rng, fun f h1 h2 => ⟨hk f h1 h2, by show s'.G (f / 16) = false; rw [hG]; exact (h.kind f h1 h2).2⟩, fun f hf => by
  obtain ⟨v,hv,rfl⟩:=AS3.1 hf
  exact hu v hv,hs,hok,hl⟩
theorem R9.view (h:R9 b) {v:Vw} (hv:v ∈ b.L):b.a≤v.2.2.1∧v.2.2.1 < b.a+b.n∧b.s.K v.2.2.1=2:=h.used _ (AS3.2 ⟨v,hv,rfl⟩)
theorem R9.tk (h:R9 b) (x:Nat→Int):TkS b.a b.n b.L b.s x (tkP b.a b.n b.L b.s x):=tk_spec (x:=x) (L:=b.L) h.good h.rng.2 h.kind
theorem R9.tkK (h:R9 b) (x:Nat→Int):∀ f,b.a≤f→f < b.a+b.n→(tkP b.a b.n b.L b.s x).2.2.K f=1∨(tkP b.a b.n b.L b.s x).2.2.K f=2:=fun f h1 h2=>by
 by_cases e:(tkP b.a b.n b.L b.s x).2.2.K f=b.s.K f
 ·rw [e];exact (h.kind f h1 h2).1
 ·exact .inr ((h.tk x).new f e).2.2.2
theorem good_map (h:R9 b) (x k:Int):R9 (b.map x k).2:=by
 unfold Bk.map
 split
 ·exact h
 rename_i hin
 have hin:inR 64 x∧inR 1024 k:=Classical.not_not.1 hin
 split
 ·exact h
 rename_i hf
 split
 ·exact h
 rename_i hl
 have hn:=AR9 (L:=b.L) (a:=x.toNat) (k:=k.toNat) (by cases hq:AS8 b.L x.toNat k.toNat with
  | none=>rfl
  | some v=>rw [hq] at hf;exact absurd rfl hf)
 obtain ⟨t1,t2,t3,t4,t5,t6⟩:=h.tk fun _=>0
 split
 ·rename_i he
  obtain ⟨u1,u2,u3,u4,u5⟩:=t6 he
  have hr:=h.rng
  refine h.sys t1 t2 (Ax8 h.sr hn) (fun v hv=>?_) (by rw [Ag1];omega) (h.tkK _) (fun v hv=>?_)
  ·rcases AU6.1 hv with rfl|hv
   ·have:=hin.1.1;have:=hin.1.2;have:=hin.2.1;have:=hin.2.2
    exact ⟨by show x.toNat < 64;omega,by show k.toNat < 1024;omega,by dsimp only;omega⟩
   ·exact h.ok v hv
  ·rcases AU6.1 hv with rfl|hv
   ·exact ⟨u1,u2,u4⟩
   ·obtain ⟨w1,w2,w3⟩:=h.view hv
    exact ⟨w1,w2,t3 _ w3⟩
 ·exact h.sys t1 t2 h.sr h.ok h.len (h.tkK _) fun v hv=>by
   obtain ⟨w1,w2,w3⟩:=h.view hv
   exact ⟨w1,w2,t3 _ w3⟩
theorem put_mem {y:Nat}:∀ {O M:List Vw} {v:Vw},v ∈ Ai5 y M O ↔ v ∈ M∨∃ u ∈ O,v=cpV y u
 | [],M,v=>by simp [Ai5]
 | w::O,M,v=>by
  show v ∈ Ai5 y (AY4 (cpV y w) M) O ↔ _
  rw [put_mem,AU6]
  constructor
  ·rintro ((h|h) | ⟨u,hu,h⟩)
   ·exact .inr ⟨w,List.mem_cons_self ..,h⟩
   ·exact .inl h
   ·exact .inr ⟨u,List.mem_cons_of_mem _ hu,h⟩
  ·rintro (h | ⟨u,hu,h⟩)
   ·exact .inl (.inr h)
   ·rcases List.mem_cons.1 hu with rfl|hu
    ·exact .inl (.inl h)
    ·exact .inr ⟨u,hu,h⟩
theorem put_len {y:Nat}:∀ {O M:List Vw},(Ai5 y M O).length=M.length+O.length
 | [],_=>rfl
 | w::O,M=>by
  show (Ai5 y (AY4 (cpV y w) M) O).length=_
  rw [put_len,Ag1,List.length_cons];omega
theorem put_srt {y:Nat}:∀ {O M:List Vw},srt M→(∀ u ∈ O,∀ v ∈ M,¬ atV (y,u.2.1) v)→O.Pairwise (fun u v=>u.2.1 ≠ v.2.1)→srt (Ai5 y M O)
 | [],_,h,_,_=>h
 | w::O,M,h,hn,hp=>by
  rw [List.pairwise_cons] at hp
  refine put_srt (O:=O) (M:=AY4 (cpV y w) M) (Ax8 (v:=cpV y w) h (hn w (List.mem_cons_self ..))) (fun u hu v hv=>?_) hp.2
  rcases AU6.1 hv with rfl|hv
  ·exact fun e=>hp.1 u hu e.2
  ·exact hn u (List.mem_cons_of_mem _ hu) v hv
theorem frk_mem {x y:Nat} {L:List Vw} {v:Vw}:v ∈ frkL x y L ↔ (∃ u ∈ L,v=wnV x u)∨∃ u ∈ L,u.1=x∧v=cpV y u:=by
 unfold frkL
 rw [put_mem,List.mem_map]
 constructor
 ·rintro (⟨u,hu,h⟩ | ⟨u,hu,h⟩)
  ·exact .inl ⟨u,hu,h.symm⟩
  ·exact .inr ⟨u,(R4.1 hu).1,(R4.1 hu).2,h⟩
 ·rintro (⟨u,hu,h⟩ | ⟨u,hu,h1,h⟩)
  ·exact .inl ⟨u,hu,h.symm⟩
  ·exact .inr ⟨u,R4.2 ⟨hu,h1⟩,h⟩
theorem frk_len {x y:Nat} {L:List Vw}:(frkL x y L).length=L.length+(ofA x L).length:=by unfold frkL;rw [put_len,List.length_map]
theorem frk_srt {x y:Nat} {L:List Vw} (hs:srt L) (hy:ofA y L=[]):srt (frkL x y L):=by
 have hm:srt (L.map (wnV x)):=by
  refine List.pairwise_map.2 (hs.imp fun h=>?_)
  exact h
 refine put_srt hm (fun u hu v hv e=>?_) ?_
 ·obtain ⟨w,hw,rfl⟩:=List.mem_map.1 hv
  have : w ∈ ofA y L:=R4.2 ⟨hw,e.1⟩
  rw [hy] at this;cases this
 ·have h1:(ofA x L).Pairwise bef:=hs.sublist List.filter_sublist
  have h2:∀ {O:List Vw},(∀ v ∈ O,v.1=x)→O.Pairwise bef→O.Pairwise fun u v=>u.2.1 ≠ v.2.1:=fun {O}=>by
   induction O with
   | nil=>exact fun _ _=>.nil
   | cons w O ih =>
    intro hx hp
    rw [List.pairwise_cons] at hp ⊢
    refine ⟨fun v hv e=>?_,ih (fun v hv=>hx v (List.mem_cons_of_mem _ hv)) hp.2⟩
    have h3:=hp.1 v hv
    have h4:=hx w (List.mem_cons_self ..)
    have h5:=hx v (List.mem_cons_of_mem _ hv)
    unfold bef at h3;omega
  exact h2 (fun v hv=>(R4.1 hv).2) h1
theorem frk_good {L:List Vw} {x y:Nat} {p:Vw→Prop} (hp:∀ v ∈ L,p v) (h1:∀ v,p v→p (wnV x v)) (h2:∀ v,p v→p (cpV y v)):∀ v ∈ frkL x y L,p v:=fun v hv=>by
 rcases frk_mem.1 hv with ⟨u,hu,rfl⟩ | ⟨u,hu,_,rfl⟩
 ·exact h1 u (hp u hu)
 ·exact h2 u (hp u hu)
theorem Ap7 (h:R9 b) (x y:Int):R9 (b.take x y).2.2:=by
 unfold Bk.take
 split
 ·exact h
 rename_i hin
 have hin:inR 64 x∧inR 64 y:=Classical.not_not.1 hin
 split
 ·exact h
 split
 ·exact h
 rename_i h8
 split
 ·exact h
 rename_i h5
 have hy:ofA y.toNat b.L=[]:=List.eq_nil_of_length_eq_zero (by omega)
 have hy2:y.toNat < 64:=by have:=hin.2.1;have:=hin.2.2;omega
 exact h.sys h.good rfl (frk_srt h.sr hy) (frk_good (fun v hv=>h.ok v hv) (fun v hv=>hv) fun v hv=>⟨hy2,hv.2⟩) (by rw [frk_len];omega) (fun f h1 h2=>(h.kind f h1 h2).1) (frk_good (fun v hv=>h.view hv) (fun v hv=>hv) fun v hv=>hv)
theorem BQ8 (h:R9 b) (x:Nat):∀ f ∈ AO6 b.L x,f < 1024∧b.s.K f=2∧b.s.M f=false:=fun f hf=>by
 obtain ⟨h1,⟨v,hv,h2,h3⟩,h4⟩:=Ak8.1 hf
 obtain ⟨w1,w2,w3⟩:=h.view hv
 rw [h3] at w1 w2 w3
 exact ⟨h1,w3,(h.kind f w1 w2).2⟩
theorem good_gone (h:R9 b) (x:Nat) {L':List Vw} (hs:srt L') (hok:∀ v ∈ L',v.1 < 64∧v.2.1 < 1024∧v.2.2.1 < 1024) (hl:L'.length≤2000) (hu:∀ v ∈ L',∃ u ∈ noA x b.L,v.2.2.1=u.2.2.1):R9 { b with L:=L',s:=AY5 b.s (AO6 b.L x) }:=by
 obtain ⟨g1,g2,g3,g4⟩:=Ak9 h.good (BQ8 h x) Ag6
 refine h.sys g1 g2 hs hok hl (fun f h1 h2=>?_) fun v hv=>?_
 ·by_cases e:f ∈ AO6 b.L x
  ·exact g4 f e
  ·rw [(g3 f e).1];exact (h.kind f h1 h2).1
 ·obtain ⟨u,hu,e⟩:=hu v hv
  obtain ⟨y1,y2,y3⟩:=h.view (Az4.1 hu).1
  rw [e]
  refine ⟨y1,y2,?_⟩
  rw [(g3 _ fun hg=>?_).1]
  ·exact y3
  ·have:=(Ak8.1 hg).2.2
   have : 0 < cntF (noA x b.L) u.2.2.1:=AS3.2 ⟨u,hu,rfl⟩
   omega
theorem BI1 (h:R9 b) (x:Int):R9 (b.drop x).2.2:=by
 unfold Bk.drop
 split
 ·exact h
 exact good_gone h x.toNat (h.sr.sublist List.filter_sublist) (fun v hv=>h.ok v (Az4.1 hv).1) (Nat.le_trans (List.length_filter_le ..) h.len) fun v hv=>⟨v,hv,rfl⟩
theorem Af0 {g:Vw→Vw} {a k:Nat} {L:List Vw} {v:Vw}:v ∈ AQ8 g a k L ↔ ∃ u ∈ L,v=if atV (a,k) u then g u else u:=by
 unfold AQ8;rw [List.mem_map]
 exact ⟨fun ⟨u,hu,e⟩=>⟨u,hu,e.symm⟩,fun ⟨u,hu,e⟩=>⟨u,hu,e.symm⟩⟩
theorem Ay1 {g:Vw→Vw} {a k:Nat} {L:List Vw} (hg:∀ v,(g v).1=v.1∧(g v).2.1=v.2.1) (h:srt L):srt (AQ8 g a k L):=by
 unfold AQ8
 refine List.pairwise_map.2 (h.imp fun {u v} huv=>?_)
 have e:∀ w:Vw,(if atV (a,k) w then g w else w).1=w.1∧(if atV (a,k) w then g w else w).2.1=w.2.1:=fun w=>by
  split
  ·exact hg w
  ·exact ⟨rfl,rfl⟩
 unfold bef at huv ⊢
 rw [(e u).1,(e u).2,(e v).1,(e v).2];exact huv
theorem BA2 (h:R9 b) (x t v:Int):R9 (b.put x t v).2:=by
 unfold Bk.put
 split
 ·have hK:∀ p,(b.s.write (b.where_ x t true).1 v).2.K p=b.s.K p:=fun p=>by
   unfold Sy.write;split
   ·rfl
   ·split<;>rfl
  have hG:(b.s.write (b.where_ x t true).1 v).2.G=b.s.G:=by
   unfold Sy.write;split
   ·rfl
   ·split<;>rfl
  exact h.sys (good_write h.good) hG h.sr h.ok h.len (fun f h1 h2=>by rw [hK];exact (h.kind f h1 h2).1) fun v hv=>by rw [hK];exact h.view hv
 ·exact h
theorem AR8 (h:R9 b) (x t v:Int):R9 (b.write x t v).2:=by
 unfold Bk.write
 split
 ·exact h
 rename_i hin
 have hin:inR 64 x∧inR 65536 t:=Classical.not_not.1 hin
 cases hf:AS8 b.L x.toNat (t.toNat / 64) with
 | none=>exact h
 | some u =>
  dsimp only
  split
  ·exact BA2 h x t v
  ·split
   ·refine BA2 (b:={ b with L:=AQ8 (prV true) x.toNat (t.toNat / 64) b.L }) ?_ x t v
    refine h.sys h.good rfl (Ay1 (fun v=>⟨rfl,rfl⟩) h.sr) (fun w hw=>?_) (by unfold AQ8;rw [List.length_map];exact h.len) (fun f h1 h2=>(h.kind f h1 h2).1) fun w hw=>?_
    ·obtain ⟨y,hy,rfl⟩:=Af0.1 hw
     split
     ·exact h.ok y hy
     ·exact h.ok y hy
    ·obtain ⟨y,hy,rfl⟩:=Af0.1 hw
     have hv:=h.view hy
     split
     ·exact hv
     ·exact hv
   ·have tk:=h.tk (b.s.B u.2.2.1)
    split
    ·rename_i he
     obtain ⟨u1,u2,u3,u4,u5⟩:=tk.got he
     have hr:=h.rng
     refine BA2 (b:={ b with L:=AQ8 (frV _) x.toNat (t.toNat / 64) b.L,s:=_ }) ?_ x t v
     refine h.sys tk.good tk.G (Ay1 (fun v=>⟨rfl,rfl⟩) h.sr) (fun w hw=>?_) (by unfold AQ8;rw [List.length_map];exact h.len) (h.tkK _) fun w hw=>?_
     ·obtain ⟨y,hy,rfl⟩:=Af0.1 hw
      have:=h.ok y hy
      split
      ·exact ⟨this.1,this.2.1,by show (tkP b.a b.n b.L b.s (b.s.B u.2.2.1)).2.1 < 1024;omega⟩
      ·exact this
     ·obtain ⟨y,hy,rfl⟩:=Af0.1 hw
      split
      ·exact ⟨u1,u2,u4⟩
      ·obtain ⟨w1,w2,w3⟩:=h.view hy
       exact ⟨w1,w2,tk.up _ w3⟩
    ·exact h.sys tk.good tk.G h.sr h.ok h.len (h.tkK _) fun v hv=>by
      obtain ⟨w1,w2,w3⟩:=h.view hv
      exact ⟨w1,w2,tk.up _ w3⟩
end
end Go.Pol
namespace Go.Pol
open Go.Am Go.Proofs.YtphggldkligldaaGreat.Sh
section
variable {b:Bk}
def OutB (b:Bk):Prop:=∀ p,¬ (b.a≤p∧p < b.a+b.n)→b.s.K p=0
theorem out_giv (h:R9 b) (ho:OutB b) {G:List Nat} (hG:∀ f ∈ G,f < 1024∧b.s.K f=2∧b.s.M f=false) (hn:G.Nodup) (hr:∀ f ∈ G,b.a≤f∧f < b.a+b.n):∀ p,¬ (b.a≤p∧p < b.a+b.n)→(AY5 b.s G).K p=0:=fun p hp=>by
 rw [((Ak9 h.good hG hn).2.2.1 p fun hg=>hp (hr p hg)).1];exact ho p hp
theorem gone_rng (h:R9 b) (x:Nat):∀ f ∈ AO6 b.L x,b.a≤f∧f < b.a+b.n:=fun f hf=>by
 obtain ⟨h1,⟨v,hv,h2,h3⟩,h4⟩:=Ak8.1 hf
 obtain ⟨w1,w2,w3⟩:=h.view hv
 exact ⟨h3▸w1,h3▸w2⟩
theorem out_gone (h:R9 b) (ho:OutB b) (x:Nat):∀ p,¬ (b.a≤p∧p < b.a+b.n)→(AY5 b.s (AO6 b.L x)).K p=0:=out_giv h ho (BQ8 h x) Ag6 (gone_rng h x)
theorem out_drop (h:R9 b) (ho:OutB b) (x:Int):OutB (b.drop x).2.2:=by
 unfold Bk.drop
 split
 ·exact ho
 ·show OutB { b with L:=noA x.toNat b.L,s:=AY5 b.s (AO6 b.L x.toNat) }
  intro p hp
  dsimp only at hp ⊢
  exact out_gone h ho x.toNat p hp
theorem isR_nilE {C:Nat→Int} {k:Nat}:isR [] C k=false:=by unfold isR AY8;split<;>rfl
structure As2 (b:Bk):Prop where
 l:b.s.l=[]
 no:∀ f,b.a≤f→f < b.a+b.n→b.s.K f=2→0 < cntF b.L f
theorem BI2:∀ {G:List Nat} {s:Sy},s.l=[]→(∀ f ∈ G,f < 1024∧s.K f=2∧s.M f=false)→G.Nodup→(AY5 s G).l=[]∧∀ p,(AY5 s G).K p=if p ∈ G then 1 else s.K p
 | [],s,hl,_,_=>⟨hl,fun p=>by rw [if_neg (by simp)];rfl⟩
 | f::G,s,hl,h,hn=>by
  obtain ⟨hf,hk,hm⟩:=h f (List.mem_cons_self ..)
  rw [List.nodup_cons] at hn
  show (AY5 (s.chg (f:Nat) 1 2 1 3).2 G).l=[]∧∀ p,(AY5 (s.chg (f:Nat) 1 2 1 3).2 G).K p=_
  have hc:s.chg (f:Nat) 1 2 1 3=(0,s.turn f 1 3):=by rw [Ar4 hf hk hm,hl,isR_nilE];rfl
  rw [hc]
  obtain ⟨i1,i2⟩:=BI2 (G:=G) (s:=s.turn f 1 3) hl (fun g hgm=>by
   obtain ⟨a1,a2,a3⟩:=h g (List.mem_cons_of_mem _ hgm)
   exact ⟨a1,by rw [AT3,if_neg (fun e:g=f=>hn.1 (e▸hgm))];exact a2,a3⟩) hn.2
  refine ⟨i1,fun p=>?_⟩
  rw [i2,AT3]
  by_cases e:p=f
  ·subst e;rw [if_neg hn.1,if_pos rfl,if_pos (List.mem_cons_self ..)]
  ·rw [if_neg e]
   by_cases e2:p ∈ G
   ·rw [if_pos e2,if_pos (List.mem_cons_of_mem _ e2)]
   ·rw [if_neg e2,if_neg fun hc=>(List.mem_cons.1 hc).elim e e2]
theorem tight_gone (h:R9 b) (ht:As2 b) (x:Nat) {L':List Vw} (hc:∀ f,0 < cntF (noA x b.L) f→0 < cntF L' f):As2 { b with L:=L',s:=AY5 b.s (AO6 b.L x) }:=by
 obtain ⟨g1,g2⟩:=BI2 ht.l (BQ8 h x) Ag6
 refine ⟨g1,fun f h1 h2 hk=>?_⟩
 dsimp only at h1 h2 hk
 rw [g2] at hk
 by_cases e:f ∈ AO6 b.L x
 ·rw [if_pos e] at hk;exact absurd hk (by decide)
 ·rw [if_neg e] at hk
  refine hc f (Classical.byContradiction fun h0=>e (Ak8.2 ?_))
  have hr:=h.rng
  obtain ⟨u,hu,eu⟩:=AS3.1 (ht.no f h1 h2 hk)
  refine ⟨by omega,⟨u,hu,Classical.byContradiction fun hne=>h0 (AS3.2 ⟨u,Az4.2 ⟨hu,hne⟩,eu⟩),eu⟩,by omega⟩
theorem tight_drop (h:R9 b) (ht:As2 b) (x:Int):As2 (b.drop x).2.2:=by
 unfold Bk.drop
 split
 ·exact ht
 ·show As2 { b with L:=noA x.toNat b.L,s:=AY5 b.s (AO6 b.L x.toNat) }
  exact tight_gone h ht x.toNat fun f hf=>hf
end
end Go.Pol
namespace Go.Pol
open Go.Am Go.Proofs.YtphggldkligldaaGreat.Sh
theorem Ab3 {g:Vw→Vw} {A B:List Vw} {v:Vw} (hs:srt (A++v::B)):AQ8 g v.1 v.2.1 (A++v::B)=A++g v::B:=by
 have hne:=Ao4 hs
 unfold AQ8
 rw [List.map_append,List.map_cons,if_pos ⟨rfl,rfl⟩]
 congr 1
 ·conv=>rhs;rw [← List.map_id A]
  exact List.map_congr_left fun w hw=>if_neg (hne.1 w hw)
 ·congr 1
  conv=>rhs;rw [← List.map_id B]
  exact List.map_congr_left fun w hw=>if_neg (hne.2 w hw)
section
variable {b:Bk}
end
end Go.Pol
namespace Go.Pol
open Go.Am Go.Proofs.YtphggldkligldaaGreat.Sh
def Bk.rd (b:Bk) (a k j:Nat):Option Int:=(AS8 b.L a k).map fun v=>b.s.B v.2.2.1 j
section
variable {b:Bk}
end
end Go.Pol
namespace Go.Pol
open Go.Am Go.Proofs.YtphggldkligldaaGreat.Sh
def OwnB (b:Bk):Prop:=∀ v ∈ b.L,v.2.2.2=true→∀ w ∈ b.L,w.2.2.1=v.2.2.1→w=v
section
variable {b:Bk}
def Bk.pr (b:Bk) (x k:Nat):Bk:={ b with L:=AQ8 (prV true) x k b.L }
def Bk.fr (b:Bk) (x k:Nat) (r:Int × Nat × Sy):Bk:={ b with L:=AQ8 (frV r.2.1) x k b.L,s:=r.2.2 }
end
end Go.Pol
namespace Go.Pol
open Go.Am Go.Proofs.YtphggldkligldaaGreat.Sh
section
variable {b:Bk}
end
end Go.Pol
namespace Go.Pol
open Go.Am Go.Proofs.YtphggldkligldaaGreat.Sh
def Bk.call (b:Bk) (w:Nat) (x y t v:Int) (l:List Rl):Int × Bk :=
 if w < 2 then b.map x y else if w=2 then b.unmap x y else if w=3 then (b.take x y).2 else if w=4 then (b.drop x).2 else if w=5 then (b.revert x y).2 else
 if w < 10 then b.write x t v else if w=13 then ((b.s.plan l).1,{ b with s:=(b.s.plan l).2 }) else (0,b)
section
variable {b:Bk}
def ByS (s:Sy):Prop:=∀ p j,0≤s.B p j∧s.B p j < 256
end
end Go.Pol
namespace Go.Pol
open Go.Am Go.Proofs.YtphggldkligldaaGreat.Sh
def hsO:Option Int→Int
 | some v=>v
 | none=>-1
def Bk.hs (b:Bk) (k p:Nat):Int:=hsO (b.rd k (p / 64) (p % 64))
section
variable {b:Bk}
end
end Go.Pol
namespace Go.Pol
open Go.Am Go.Proofs.YtphggldkligldaaGreat.Sh
theorem cntK_len {K:Nat→Int} {v:Int}:∀ n,AJ8 K v n=((List.range n).filter fun p=>decide (K p=v)).length
 | 0=>rfl
 | n+1=>by
  rw [List.range_succ,List.filter_append,List.length_append,← cntK_len n]
  show AJ8 K v n+(if K n=v then 1 else 0)=_
  by_cases e:K n=v
  ·rw [if_pos e,List.filter_cons_of_pos (by simpa using e)];rfl
  ·rw [if_neg e,List.filter_cons_of_neg (by simpa using e)];rfl
theorem Ad4 {α:Type} {l:List α} {p:α→Bool} (h:∀ f ∈ l,p f=false):(l.filter p).length=0:=by
 rw [List.length_eq_zero_iff,List.filter_eq_nil_iff]
 intro f hf;rw [h f hf];decide
theorem BR1 {α:Type} {p q r:α→Bool}:∀ {l:List α},(∀ f ∈ l,(r f=true ↔ (p f=true∨q f=true))∧¬ (p f=true∧q f=true))→(l.filter r).length=(l.filter p).length+(l.filter q).length
 | [],_=>rfl
 | f::l,h=>by
  have ih:=BR1 (l:=l) fun g hg=>h g (List.mem_cons_of_mem _ hg)
  obtain ⟨h1,h2⟩:=h f (List.mem_cons_self ..)
  rw [List.filter_cons,List.filter_cons,List.filter_cons]
  cases hp:p f<;>cases hq:q f<;>cases hr:r f<;>simp_all<;>omega
theorem range_split {a n m:Nat} (h:a+n≤m):List.range m=List.range' 0 a++(List.range' a n++List.range' (a+n) (m - (a+n))):=by
 rw [List.range'_append_1]
 have:=List.range'_append_1 (s:=0) (m:=a) (n:=n+(m - (a+n)))
 rw [Nat.zero_add] at this
 rw [this,List.range_eq_range',show a+(n+(m - (a+n)))=m by omega]
section
variable {b:Bk}
theorem Ah2 (h:R9 b) (ho:OutB b) {v:Int} (hv:v ≠ 0):AJ8 b.s.K v 1024=((List.range' b.a b.n).filter fun p=>decide (b.s.K p=v)).length:=by
 have hr:=h.rng
 rw [cntK_len,range_split hr.2,List.filter_append,List.filter_append,List.length_append,List.length_append,Ad4 (l:=List.range' 0 b.a),Ad4 (l:=List.range' (b.a+b.n) _)]
 ·omega
 ·intro f hf
  rw [List.mem_range'_1] at hf
  rw [ho f (by omega)];simpa using Ne.symm hv
 ·intro f hf
  rw [List.mem_range'_1] at hf
  rw [ho f (by omega)];simpa using Ne.symm hv
theorem fits (h:R9 b) (ho:OutB b):AJ8 b.s.K 2 1024=b.used+b.idle∧AJ8 b.s.K 1 1024+(b.used+b.idle)=b.n:=by
 have e2:AJ8 b.s.K 2 1024=b.used+b.idle:=by
  rw [Ah2 h ho (by decide)]
  refine BR1 fun f hf=>?_
  rw [List.mem_range'_1] at hf
  have:=h.used f
  simp only [decide_eq_true_eq]
  constructor
  ·constructor
   ·intro hk
    by_cases h0:cntF b.L f=0
    ·exact .inr ⟨h0,hk⟩
    ·exact .inl (by omega)
   ·rintro (h1|h1)
    ·exact (this h1).2.2
    ·exact h1.2
  ·rintro ⟨h1,h2,_⟩;omega
 refine ⟨e2,?_⟩
 rw [← e2,Ah2 h ho (by decide),Ah2 h ho (by decide)]
 have:=BR1 (l:=List.range' b.a b.n) (p:=fun p=>decide (b.s.K p=1)) (q:=fun p=>decide (b.s.K p=2)) (r:=fun _=>true) fun f hf=>by
  rw [List.mem_range'_1] at hf
  have:=(h.kind f hf.1 hf.2).1
  simp only [decide_eq_true_eq]
  exact ⟨⟨fun _=>this,fun _=>trivial⟩,fun h2=>by omega⟩
 rw [← this,List.filter_eq_self.2 fun _ _=>rfl,List.length_range']
theorem idle_no (ht:As2 b):b.idle=0:=Ad4 fun f hf=>by
 rw [List.mem_range'_1] at hf
 have:=ht.no f hf.1 hf.2
 simp only [decide_eq_false_iff_not]
 rintro ⟨h1,h2⟩
 have:=this h2;omega
theorem used_nil (hL:b.L=[]):b.used=0∧b.many=0:=by
 constructor
 ·exact Ad4 fun f _=>by rw [hL];rfl
 ·exact Ad4 fun f _=>by rw [hL];rfl
def Bk.drops (b:Bk):Nat→Bk
 | 0=>b
 | m+1=>((b.drops m).drop (m:Nat)).2.2
theorem drop_zero (m:Nat) (hm:m < 64):(b.drop (m:Nat)).2.1=0:=by
 unfold Bk.drop
 rw [if_neg (fun hn=>hn ⟨by omega,by omega⟩)]
theorem drop_L (m:Nat) (hm:m < 64):(b.drop (m:Nat)).2.2.L=noA m b.L:=by
 unfold Bk.drop
 rw [if_neg (fun hn=>hn ⟨by omega,by omega⟩)];rfl
theorem BJ2 (h:R9 b) (ho:OutB b) (ht:As2 b):∀ m,m≤64→R9 (b.drops m)∧OutB (b.drops m)∧As2 (b.drops m)∧∀ v ∈ (b.drops m).L,m≤v.1
 | 0,_=>⟨h,ho,ht,fun _ _=>Nat.zero_le _⟩
 | m+1,hm=>by
  obtain ⟨i1,i2,i3,i4⟩:=BJ2 h ho ht m (by omega)
  refine ⟨BI1 i1 (m:Nat),out_drop i1 i2 (m:Nat),tight_drop i1 i3 (m:Nat),fun v hv=>?_⟩
  have hv:v ∈ ((b.drops m).drop (m:Nat)).2.2.L:=hv
  rw [drop_L m (by omega)] at hv
  obtain ⟨h1,h2⟩:=Az4.1 hv
  have:=i4 v h1;omega
theorem back (h:R9 b) (ho:OutB b) (ht:As2 b):(b.drops 64).used=0∧(b.drops 64).idle=0∧(b.drops 64).many=0∧AJ8 (b.drops 64).s.K 2 1024=0∧(b.drops 64).L=[]:=by
 obtain ⟨i1,i2,i3,i4⟩:=BJ2 h ho ht 64 (Nat.le_refl _)
 have hL:(b.drops 64).L=[]:=List.eq_nil_iff_forall_not_mem.2 fun v hv=>by
  have:=i4 v hv;have:=(i1.ok v hv).1;omega
 obtain ⟨u1,u2⟩:=used_nil hL
 have u3:=idle_no i3
 exact ⟨u1,u3,u2,by rw [(fits i1 i2).1,u1,u3],hL⟩
end
end Go.Pol
namespace Go.Pol
open Go.Am Go.Proofs.YtphggldkligldaaGreat.Sh
section
variable {b:Bk}
end
end Go.Pol
namespace Go.Pol
open Go.Am Go.Proofs.YtphggldkligldaaGreat.Sh
section
variable {b:Bk}
end
end Go.Pol
namespace Go.Pol
open Go.Am Go.Proofs.YtphggldkligldaaGreat.Sh
structure SpR (R:Nat→Nat→Option Int) (s:Sy):Prop where
 good:GoodS s
 l:s.l=[]
 M:∀ p,s.M p=false
 K:∀ p,8≤p→s.K p=0
 at_:∀ p,p < 8→(s.K p=1∧∀ j,j < 64→R p j=none)∨(s.K p=2∧∀ j,j < 64→R p j=some (s.B p j))
theorem SpR.congr {R R':Nat→Nat→Option Int} {s:Sy} (h:SpR R s) (e:∀ p j,p < 8→j < 64→R' p j=R p j):SpR R' s:=⟨h.good,h.l,h.M,h.K,fun p hp=>(h.at_ p hp).imp (fun h2=>⟨h2.1,fun j hj=>(e p j hp hj).trans (h2.2 j hj)⟩) fun h2=>⟨h2.1,fun j hj=>(e p j hp hj).trans (h2.2 j hj)⟩⟩
section
variable {R:Nat→Nat→Option Int} {s:Sy}
end
end Go.Pol
namespace Go.Pol
open Go.Am Go.Proofs.YtphggldkligldaaGreat.Sh
section
variable {b:Bk} {A:Nat→Sy}
end
end Go.Pol
namespace Go.Pol
open Go.Am Go.Proofs.YtphggldkligldaaGreat.Sh
theorem new_chg {l:List Rl} {a n:Int} (he:((Sy.new l).chg a n 0 1 0).1=0):(∀ p,((Sy.new l).chg a n 0 1 0).2.K p=if a.toNat≤p∧p < a.toNat+n.toNat then 1 else 0)∧(∀ p,((Sy.new l).chg a n 0 1 0).2.M p=false)∧(∀ p j,((Sy.new l).chg a n 0 1 0).2.B p j=0)∧((Sy.new l).chg a n 0 1 0).2.l=l:=by
 unfold Sy.chg at he ⊢
 split at he
 ·exact absurd he (by decide:¬ (7:Int)=0)
 rename_i c1
 rw [if_neg c1]
 split at he
 ·rename_i c2
  rw [if_pos c2]
  split at he
  ·exact absurd he (by decide:¬ (60:Int)=0)
  ·rename_i c3
   rw [if_neg c3]
   refine ⟨fun p=>?_,fun p=>rfl,fun p j=>?_,rfl⟩
   ·show AM0 (Sy.new l).K _ _ 1 p=_
    unfold AM0;rfl
   ·show Ai2 (Sy.new l).B _ _ p j=0
    unfold Ai2;split<;>rfl
 ·exact absurd he (by decide:¬ (9:Int)=0)
theorem BW8 {l:List Rl} {a n:Int} (hc:(AJ9 l).2=0) (hi:0≤a∧1≤n∧a+n≤1024) (he:((Sy.new l).chg a n 0 1 0).1=0) (b:Bk) (hb:b=⟨a.toNat,n.toNat,[],((Sy.new l).chg a n 0 1 0).2⟩):R9 b∧OutB b∧OwnB b∧ByS b.s∧(l=[]→As2 b):=by
 obtain ⟨k1,k2,k3,k4⟩:=new_chg he
 subst hb
 refine ⟨⟨Ad1 (BA3 hc) (by decide),⟨by show 1≤n.toNat;omega,by show a.toNat+n.toNat≤1024;omega⟩,fun f h1 h2=>⟨.inl ?_,k2 f⟩,fun f hf=>absurd (show 0 < 0 from hf) (Nat.lt_irrefl 0),List.Pairwise.nil,fun v hv=>(by cases hv),Nat.zero_le _⟩,fun p hp=>?_,fun v hv=>(by cases hv),fun p j=>?_,fun hl=>⟨?_,fun f h1 h2 hk=>?_⟩⟩
 ·show ((Sy.new l).chg a n 0 1 0).2.K f=1
  rw [k1,if_pos ⟨h1,h2⟩]
 ·show ((Sy.new l).chg a n 0 1 0).2.K p=0
  rw [k1,if_neg hp]
 ·show 0≤((Sy.new l).chg a n 0 1 0).2.B p j∧((Sy.new l).chg a n 0 1 0).2.B p j < 256
  rw [k3];decide
 ·exact k4.trans hl
 ·have hk:((Sy.new l).chg a n 0 1 0).2.K f=2:=hk
  rw [k1,if_pos ⟨h1,h2⟩] at hk
  exact absurd hk (by decide)
end Go.Pol
namespace Go.Pol
open Go.Am Go.Proofs.YtphggldkligldaaGreat.Sh
def wrK (s:Sy) (f:Nat) (x:Nat→Int) (k:Nat):Sy:={ s with B:=AP1 s.B f fun j=>if j < k then x j else s.B f j }
theorem wrK_0 {s:Sy} {f:Nat} {x:Nat→Int}:wrK s f x 0=s:=by
 unfold wrK
 have : AP1 s.B f (fun j=>if j < 0 then x j else s.B f j)=s.B:=funext fun p=>by
  unfold AP1
  split
  ·rename_i e;subst e;exact funext fun j=>if_neg (by omega)
  ·rfl
 rw [this]
theorem wrK_K {s:Sy} {f:Nat} {x:Nat→Int} {k:Nat}:(wrK s f x k).K=s.K:=rfl
theorem wrK_s {s:Sy} {f:Nat} {x:Nat→Int} {k:Nat} (hk:s.K f=2) (hf:f < 1024) (hj:k < 64):(wrK s f x k).write ((f:Int) * 64+(k:Nat)) (x k)=(0,wrK s f x (k+1)):=by
 unfold Sy.write
 have h1:((f:Int) * 64+(k:Nat)).toNat / 64=f:=by omega
 have h2:((f:Int) * 64+(k:Nat)).toNat % 64=k:=by omega
 rw [if_neg (by omega),h1,h2,wrK_K,if_pos hk]
 unfold wrK
 dsimp only
 have : AP1 (AP1 s.B f fun j=>if j < k then x j else s.B f j) f (O7 (AP1 s.B f (fun j=>if j < k then x j else s.B f j) f) k (x k))=AP1 s.B f fun j=>if j < k+1 then x j else s.B f j:=funext fun p=>by
  unfold AP1
  by_cases e:p=f
  ·rw [if_pos e,if_pos e,if_pos rfl]
   refine funext fun j=>?_
   unfold O7
   by_cases h3:j=k
   ·subst h3;rw [if_pos rfl,if_pos (by omega)]
   ·rw [if_neg h3]
    show (if j < k then x j else s.B f j)=if j < k+1 then x j else s.B f j
    by_cases h4:j < k
    ·rw [if_pos h4,if_pos (by omega)]
    ·rw [if_neg h4,if_neg (by omega)]
  ·rw [if_neg e,if_neg e,if_neg e]
 rw [this]
theorem Ax0 {s:Sy} (hg:GoodS s) {f:Nat} {x:Nat→Int}:wrK s f x 64=s.page f x:=by
 unfold wrK Sy.page
 have : (fun j=>if j < 64 then x j else s.B f j)=fun j=>if j < 64 then x j else 0:=funext fun j=>by
  by_cases h:j < 64
  ·rw [if_pos h,if_pos h]
  ·rw [if_neg h,if_neg h,hg.cB f j (by omega)]
 rw [this]
theorem read_at {s:Sy} {f k:Nat} (hk:s.K f=2) (hf:f < 1024) (hj:k < 64):s.read ((f:Int) * 64+(k:Nat))=(s.B f k,0):=by
 unfold Sy.read
 rw [if_neg (by omega),show ((f:Int) * 64+(k:Nat)).toNat / 64=f by omega,show ((f:Int) * 64+(k:Nat)).toNat % 64=k by omega,if_pos hk]
theorem BF0 {a n i:Nat} (h:i≤n):List.range' a n=List.range' a i++List.range' (a+i) (n - i):=by
 rw [List.range'_append_1,Nat.add_sub_cancel' h]
theorem free_at {L:List Vw} {a n i:Nat} (hi:i < n) (h1:∀ j,j < i→0 < cntF L (a+j)) (h2:cntF L (a+i)=0):BI5 L a n=some (a+i):=by
 unfold BI5
 rw [BF0 (Nat.le_of_lt hi),List.find?_append]
 have e1:(List.range' a i).find? (fun f=>decide (cntF L f=0))=none:=List.find?_eq_none.2 fun f hf=>by
  rw [List.mem_range'_1] at hf
  have:=h1 (f - a) (by omega)
  rw [show a+(f - a)=f by omega] at this
  simp;omega
 obtain ⟨m,hm⟩:∃ m,n - i=m+1:=⟨n - i - 1,by omega⟩
 rw [e1,hm,List.range'_succ,List.find?_cons,decide_eq_true h2]
 rfl
theorem free_not {L:List Vw} {a n:Nat} (h:∀ j,j < n→0 < cntF L (a+j)):BI5 L a n=none:=List.find?_eq_none.2 fun f hf=>by
 rw [List.mem_range'_1] at hf
 have:=h (f - a) (by omega)
 rw [show a+(f - a)=f by omega] at this
 simp;omega
def BL7 (p:Nat→Bool) (a i:Nat):Nat:=((List.range' a i).filter p).length
theorem cntR_s {p:Nat→Bool} {a i:Nat}:BL7 p a (i+1)=BL7 p a i+if p (a+i) then 1 else 0:=by
 unfold BL7
 rw [BF0 (Nat.le_add_right i 1),List.filter_append,List.length_append,Nat.add_sub_cancel_left]
 by_cases h:p (a+i)<;>simp [List.range'_succ,h]
theorem BS4 {p:Nat→Bool} {a i:Nat}:BL7 p a i≤i:=Nat.le_trans (List.length_filter_le ..) (by rw [List.length_range'];exact Nat.le_refl _)
theorem used_R (b:Bk):b.used=BL7 (fun f=>decide (0 < cntF b.L f)) b.a b.n:=rfl
theorem idle_R (b:Bk):b.idle=BL7 (fun f=>decide (cntF b.L f=0∧b.s.K f=2)) b.a b.n:=rfl
theorem many_R (b:Bk):b.many=BL7 (fun f=>decide (1 < cntF b.L f)) b.a b.n:=rfl
def sh0:Bk:=⟨8,2,[],((Sy.new []).chg 8 2 0 1 0).2⟩
def sh1:Bk:=(sh0.map 0 3).2
def sh2:Bk:=(sh1.write 0 192 7).2
def sh3:Bk:=(sh2.take 0 1).2.2
def sh4:Bk:=(sh3.write 0 192 8).2
def sh5:Bk:=(sh4.take 1 2).2.2
def sh6:Bk:=(sh5.write 2 192 9).2
def sh7:Bk:=(sh6.drop 0).2.2
def sh8:Bk:=(sh7.write 2 192 9).2
set_option maxRecDepth 100000 in
theorem sh_0:((Sy.new []).chg 8 2 0 1 0).1=0:=by decide +kernel
set_option maxRecDepth 100000 in
theorem sh_1:(sh0.map 0 3).1=0:=by decide +kernel
set_option maxRecDepth 100000 in
theorem sh_2:(sh1.write 0 192 7).1=0:=by decide +kernel
set_option maxRecDepth 100000 in
theorem sh_3:(sh2.take 0 1).1=1∧(sh2.take 0 1).2.1=0:=by decide +kernel
set_option maxRecDepth 100000 in
theorem sh_4:(sh3.write 0 192 8).1=0:=by decide +kernel
set_option maxRecDepth 100000 in
theorem sh_r4:sh4.read 1 192=(7,0):=by decide +kernel
set_option maxRecDepth 100000 in
theorem sh_c4:sh4.used=2∧sh4.idle=0∧sh4.many=0:=by decide +kernel
set_option maxRecDepth 100000 in
theorem sh_d4:sh4.differ 0 1=([3],0):=by decide +kernel
set_option maxRecDepth 100000 in
theorem sh_5:(sh4.take 1 2).1=1∧(sh4.take 1 2).2.1=0:=by decide +kernel
set_option maxRecDepth 100000 in
theorem sh_6:(sh5.write 2 192 9).1=5:=by decide +kernel
set_option maxRecDepth 100000 in
theorem sh_7:(sh6.drop 0).1=1∧(sh6.drop 0).2.1=0:=by decide +kernel
set_option maxRecDepth 100000 in
theorem sh_8:(sh7.write 2 192 9).1=0:=by decide +kernel
set_option maxRecDepth 100000 in
theorem sh_r8:sh8.read 1 192=(7,0):=by decide +kernel
end Go.Pol
