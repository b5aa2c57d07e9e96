/-
 A book of spaces,plain: its views,its system,and what each call does.
 A book of spaces,plain: what each call keeps.
 A book of spaces,plain: it stays a good one.
-/
import Derived.Test.YtphggldkligldaaYp
import Derived.Test.YtphggldkligldaaSnF
set_option linter.unusedSimpArgs false
set_option linter.unusedVariables false
namespace Go.Pol
open Go.Am Go.Proofs.Ytphggldkligldaa.Sh
def fndL (L:List Vw) (a k:Nat):Option Vw:=L.find? fun v=>decide (atV (a,k) v)
def delL (L:List Vw) (a k:Nat):List Vw:=L.filter fun v=>decide (¬ atV (a,k) v)
def setL (g:Vw→Vw) (a k:Nat) (L:List Vw):List Vw:=L.map fun v=>if atV (a,k) v then g v else v
def freeF (L:List Vw) (a n:Nat):Option Nat:=(List.range' a n).find? fun f=>decide (cntF L f=0)
def Sy.page (s:Sy) (f:Nat) (x:Nat→Int):Sy:={ s with B:=updP s.B f fun j=>if j < 64 then x j else 0 }
def tkP (a n:Nat) (L:List Vw) (s:Sy) (x:Nat→Int):Int × Nat × Sy:=match freeF L a n with
 | none=>(5,0,s)
 | some f=>if s.K f=1 then (if (s.chg (f:Nat) 1 1 2 2).1=0 then (0,f,(s.chg (f:Nat) 1 1 2 2).2.page f x) else ((s.chg (f:Nat) 1 1 2 2).1,0,(s.chg (f:Nat) 1 1 2 2).2)) else (0,f,s.page f x)
def givP (s:Sy) (G:List Nat):Sy:=G.foldl (fun s f=>(s.chg (f:Nat) 1 2 1 3).2) s
structure Bk where
 a:Nat
 n:Nat
 L:List Vw
 s:Sy
def Bk.map (b:Bk) (x k:Int):Int × Bk :=
 if ¬ (inR 64 x∧inR 1024 k) then (7,b) else if (fndL b.L x.toNat k.toNat).isSome then (8,b) else if 2000≤b.L.length then (5,b) else
 if (tkP b.a b.n b.L b.s fun _=>0).1=0 then (0,{ b with L:=insV (x.toNat,k.toNat,(tkP b.a b.n b.L b.s fun _=>0).2.1,true) b.L,s:=(tkP b.a b.n b.L b.s fun _=>0).2.2 })
 else ((tkP b.a b.n b.L b.s fun _=>0).1,{ b with s:=(tkP b.a b.n b.L b.s fun _=>0).2.2 })
def Bk.unmap (b:Bk) (x k:Int):Int × Bk :=
 if ¬ (inR 64 x∧inR 1024 k) then (7,b) else match fndL b.L x.toNat k.toNat with
 | none=>(4,b)
 | some v=>(0,{ b with L:=delL b.L x.toNat k.toNat,s:=if cntF (delL b.L x.toNat k.toNat) v.2.2.1=0 then givP b.s [v.2.2.1] else b.s })
def frkL (x y:Nat) (L:List Vw):List Vw:=putL y (L.map (wnV x)) (ofA x L)
def Bk.take (b:Bk) (x y:Int):Int × Int × Bk :=
 if ¬ (inR 64 x∧inR 64 y) then (0,7,b) else if x=y then (0,2,b) else if (ofA y.toNat b.L).length ≠ 0 then (0,8,b) else if 2000 < b.L.length+(ofA x.toNat b.L).length then (0,5,b) else
 ((ofA x.toNat b.L).length,0,{ b with L:=frkL x.toNat y.toNat b.L })
def Bk.drop (b:Bk) (x:Int):Int × Int × Bk :=
 if ¬ inR 64 x then (0,7,b) else ((goneL b.L x.toNat).length,0,{ b with L:=noA x.toNat b.L,s:=givP b.s (goneL b.L x.toNat) })
def Bk.revert (b:Bk) (x y:Int):Int × Int × Bk :=
 if ¬ (inR 64 x∧inR 64 y) then (0,7,b) else if x=y then (0,2,b) else if 2000 < b.L.length+(ofA y.toNat b.L).length - (ofA x.toNat b.L).length then (0,5,b) else
 ((ofA y.toNat b.L).length,0,{ b with L:=frkL y.toNat x.toNat (noA x.toNat b.L),s:=givP b.s (goneL b.L x.toNat) })
def Bk.where_ (b:Bk) (x t:Int) (w:Bool):Int × Int :=
 if ¬ (inR 64 x∧inR 65536 t) then (0,7) else match fndL b.L x.toNat (t.toNat / 64) with
 | none=>(0,220)
 | some v=>if w=true∧v.2.2.2=false then (0,220) else (((v.2.2.1 * 64+t.toNat % 64:Nat):Int),0)
def Bk.read (b:Bk) (x t:Int):Int × Int:=if (b.where_ x t false).2=0 then b.s.read (b.where_ x t false).1 else (0,(b.where_ x t false).2)
def Bk.put (b:Bk) (x t v:Int):Int × Bk:=if (b.where_ x t true).2=0 then ((b.s.write (b.where_ x t true).1 v).1,{ b with s:=(b.s.write (b.where_ x t true).1 v).2 }) else ((b.where_ x t true).2,b)
def Bk.write (b:Bk) (x t v:Int):Int × Bk :=
 if ¬ (inR 64 x∧inR 65536 t) then (7,b) else match fndL b.L x.toNat (t.toNat / 64) with
 | none=>(220,b)
 | some u =>
  if u.2.2.2 then b.put x t v
  else if cntF b.L u.2.2.1=1 then Bk.put { b with L:=setL (prV true) x.toNat (t.toNat / 64) b.L } x t v
  else if (tkP b.a b.n b.L b.s (b.s.B u.2.2.1)).1=0 then
   Bk.put { b with L:=setL (frV (tkP b.a b.n b.L b.s (b.s.B u.2.2.1)).2.1) x.toNat (t.toNat / 64) b.L,s:=(tkP b.a b.n b.L b.s (b.s.B u.2.2.1)).2.2 } x t v
  else ((tkP b.a b.n b.L b.s (b.s.B u.2.2.1)).1,{ b with s:=(tkP b.a b.n b.L b.s (b.s.B u.2.2.1)).2.2 })
def eqB (f g:Nat→Int):Prop:=∀ j,j < 64→f j=g j
instance (f g:Nat→Int):Decidable (eqB f g):=by unfold eqB;infer_instance
def Bk.dif (b:Bk) (x y k:Nat):Bool:=match fndL b.L x k,fndL b.L y k with
 | none,none=>false
 | some u,some v=>!decide (eqB (b.s.B u.2.2.1) (b.s.B v.2.2.1))
 | _,_=>true
def Bk.differ (b:Bk) (x y:Int):List Int × Int:=if ¬ (inR 64 x∧inR 64 y) then ([],7) else (((List.range 1024).filter fun k=>b.dif x.toNat y.toNat k).map fun k=>((k:Nat):Int),0)
def Bk.used (b:Bk):Nat:=((List.range' b.a b.n).filter fun f=>decide (0 < cntF b.L f)).length
def Bk.idle (b:Bk):Nat:=((List.range' b.a b.n).filter fun f=>decide (cntF b.L f=0∧b.s.K f=2)).length
def Bk.many (b:Bk):Nat:=((List.range' b.a b.n).filter fun f=>decide (1 < cntF b.L f)).length
structure GoodB (b:Bk):Prop where
 good:GoodS b.s
 rng:1≤b.n∧b.a+b.n≤1024
 kind:∀ f,b.a≤f→f < b.a+b.n→(b.s.K f=1∨b.s.K f=2)∧b.s.M f=false
 used:∀ f,0 < cntF b.L f→b.a≤f∧f < b.a+b.n∧b.s.K f=2
 sr:srt b.L
 ok:∀ v ∈ b.L,v.1 < 64∧v.2.1 < 1024∧v.2.2.1 < 1024
 len:b.L.length≤2000
end Go.Pol
namespace Go.Pol
open Go.Am Go.Proofs.Ytphggldkligldaa.Sh
theorem fnd_some {L:List Vw} {a k:Nat} {v:Vw} (h:fndL L a k=some v):v ∈ L∧atV (a,k) v:=⟨List.mem_of_find?_eq_some h,by have:=List.find?_some h;simpa using this⟩
theorem fnd_none {L:List Vw} {a k:Nat} (h:fndL L a k=none):∀ v ∈ L,¬ atV (a,k) v:=fun v hv=>by
 have:=List.find?_eq_none.1 h v hv
 simpa using this
theorem fnd_yes {L:List Vw} (hs:srt L) {v:Vw} (hv:v ∈ L):fndL L v.1 v.2.1=some v:=by
 cases h:fndL L v.1 v.2.1 with
 | none=>exact absurd ⟨rfl,rfl⟩ (fnd_none h v hv)
 | some w =>
  obtain ⟨h1,h2,h3⟩:=fnd_some h
  rw [srt_uniq hs h1 hv h2 h3]
theorem fnd_no {L:List Vw} {a k:Nat} (h:∀ v ∈ L,¬ atV (a,k) v):fndL L a k=none:=List.find?_eq_none.2 fun v hv=>by simpa using h v hv
theorem free_some {L:List Vw} {a n f:Nat} (h:freeF L a n=some f):a≤f∧f < a+n∧cntF L f=0:=by
 have h1:=List.mem_of_find?_eq_some h
 have h2:=List.find?_some h
 rw [List.mem_range'_1] at h1
 exact ⟨h1.1,h1.2,by simpa using h2⟩
theorem good_page {s:Sy} {f:Nat} {x:Nat→Int} (h:GoodS s) (hk:s.K f=2):GoodS (s.page f x):=by
 refine ⟨h.hv,h.kind,h.huge,fun p hp=>?_,h.cK,fun p j hj=>?_⟩
 ·show updP s.B f _ p=_
  unfold updP
  rw [if_neg fun e=>hp (by rw [e];exact hk)]
  exact h.zero p hp
 ·show updP s.B f _ p j=0
  unfold updP
  split
  ·show (if j < 64 then x j else 0)=0;rw [if_neg (by omega)]
  ·exact h.cB p j hj
def Sy.turn (s:Sy) (f:Nat) (w:Int) (k:Nat):Sy:={ s.ref k with K:=fun p=>if p=f then w else s.K p,B:=fun p=>if p=f then fun _=>0 else s.B p }
theorem chg_one {s:Sy} {f:Nat} {v w:Int} {k:Nat} (hf:f < 1024) (hk:s.K f=v) (hm:s.M f=false):s.chg (f:Nat) 1 v w k=if isR s.l s.C k then (60,s.ref k) else (0,s.turn f w k):=by
 unfold Sy.chg
 have hok:okR s.K s.M ((f:Nat):Int).toNat (1:Int).toNat v:=fun i hi=>by
  have hi:i < 1:=hi
  rw [show ((f:Nat):Int).toNat+i=f by omega];exact ⟨hk,hm⟩
 have h1:(1:Int).toNat=1:=rfl
 have e1:setR s.K ((f:Nat):Int).toNat (1:Int).toNat w=fun p=>if p=f then w else s.K p:=funext fun p=>by
  show (if _ then w else s.K p)=_
  by_cases e:p=f
  ·rw [if_pos e,if_pos (by omega)]
  ·rw [if_neg e,if_neg (by omega)]
 have e2:setP s.B ((f:Nat):Int).toNat (1:Int).toNat=fun p=>if p=f then fun _=>0 else s.B p:=funext fun p=>by
  show (if _ then (fun _=>0) else s.B p)=_
  by_cases e:p=f
  ·rw [if_pos e,if_pos (by omega)]
  ·rw [if_neg e,if_neg (by omega)]
 rw [if_neg (by omega),if_pos hok,e1,e2]
 rfl
theorem turn_K {s:Sy} {f p:Nat} {w:Int} {k:Nat}:(s.turn f w k).K p=if p=f then w else s.K p:=rfl
theorem turn_B {s:Sy} {f p:Nat} {w:Int} {k:Nat}:(s.turn f w k).B p=if p=f then fun _=>0 else s.B p:=rfl
theorem good_turn {s:Sy} {f:Nat} {v w:Int} {k:Nat} (h:GoodS s) (hf:f < 1024) (hw:0≤w∧w≤3) (hk:s.K f=v) (hm:s.M f=false):GoodS (s.turn f w k):=by
 refine ⟨chkS_ref h.hv,fun p=>?_,fun p hp=>?_,fun p hp=>?_,fun p hp=>?_,fun p j hj=>?_⟩
 ·rw [turn_K];split
  ·exact hw
  ·exact h.kind p
 ·rw [turn_K]
  have hp':s.M p=true:=hp
  rw [if_neg fun e=>by rw [e,hm] at hp';cases hp']
  exact h.huge p hp'
 ·rw [turn_B]
  split
  ·rfl
  ·rename_i e
   rw [turn_K,if_neg e] at hp
   exact h.zero p hp
 ·rw [turn_K,if_neg (by omega)];exact h.cK p hp
 ·rw [turn_B];split
  ·rfl
  ·exact h.cB p j hj
structure TkS (a n:Nat) (L:List Vw) (s:Sy) (x:Nat→Int) (r:Int × Nat × Sy):Prop where
 good:GoodS r.2.2
 G:r.2.2.G=s.G
 up:∀ p,s.K p=2→r.2.2.K p=2
 new:∀ p,r.2.2.K p ≠ s.K p→a≤p∧p < a+n∧s.K p=1∧r.2.2.K p=2
 old:∀ p,0 < cntF L p→r.2.2.B p=s.B p
 got:r.1=0→a≤r.2.1∧r.2.1 < a+n∧cntF L r.2.1=0∧r.2.2.K r.2.1=2∧∀ j,j < 64→r.2.2.B r.2.1 j=x j
theorem tk_spec {a n:Nat} {L:List Vw} {s:Sy} {x:Nat→Int} (hg:GoodS s) (han:a+n≤1024) (hk:∀ f,a≤f→f < a+n→(s.K f=1∨s.K f=2)∧s.M f=false):TkS a n L s x (tkP a n L s x):=by
 unfold tkP
 cases hf:freeF L a n with
 | none=>exact ⟨hg,rfl,fun p h=>h,fun p h=>absurd rfl h,fun p _=>rfl,fun h=>absurd h (by decide:¬ (5:Int)=0)⟩
 | some f =>
  obtain ⟨h1,h2,h3⟩:=free_some hf
  obtain ⟨hkf,hmf⟩:=hk f h1 h2
  have hB:∀ (t:Sy) (p:Nat),(t.page f x).B p=if p=f then (fun j=>if j < 64 then x j else 0) else t.B p:=fun t p=>rfl
  dsimp only
  by_cases k1:s.K f=1
  ·rw [if_pos k1,chg_one (by omega) k1 hmf]
   by_cases hr:isR s.l s.C 2=true
   ·rw [if_pos hr,if_neg (show ¬ (60:Int)=0 by decide)]
    exact ⟨good_ref hg,rfl,fun p h=>h,fun p h=>absurd rfl h,fun p _=>rfl,fun h=>absurd h (by decide:¬ (60:Int)=0)⟩
   ·rw [if_neg hr,if_pos rfl]
    have hK:∀ p,((s.turn f 2 2).page f x).K p=if p=f then 2 else s.K p:=fun p=>rfl
    refine ⟨good_page (good_turn hg (by omega) (by decide) k1 hmf) (by rw [turn_K,if_pos rfl]),rfl,fun p h=>?_,fun p h=>?_,fun p hp=>?_,fun _=>⟨h1,h2,h3,?_,fun j hj=>?_⟩⟩
    ·show ((s.turn f 2 2).page f x).K p=2
     rw [hK];split<;>first|rfl|exact h
    ·have h:((s.turn f 2 2).page f x).K p ≠ s.K p:=h
     show _∧_∧_∧((s.turn f 2 2).page f x).K p=2
     rw [hK] at h ⊢
     by_cases e:p=f
     ·subst e;rw [if_pos rfl];exact ⟨h1,h2,k1,rfl⟩
     ·rw [if_neg e] at h;exact absurd rfl h
    ·show ((s.turn f 2 2).page f x).B p=s.B p
     rw [hB,if_neg (fun e=>by rw [e] at hp;omega),turn_B,if_neg (fun e=>by rw [e] at hp;omega)]
    ·show ((s.turn f 2 2).page f x).K f=2
     rw [hK,if_pos rfl]
    ·show ((s.turn f 2 2).page f x).B f j=x j
     rw [hB,if_pos rfl];exact if_pos hj
  ·rw [if_neg k1]
   have k2:s.K f=2:=hkf.resolve_left k1
   refine ⟨good_page hg k2,rfl,fun p h=>h,fun p h=>absurd rfl h,fun p hp=>?_,fun _=>⟨h1,h2,h3,k2,fun j hj=>?_⟩⟩
   ·show (s.page f x).B p=s.B p
    rw [hB,if_neg (fun e=>by rw [e] at hp;omega)]
   ·show (s.page f x).B f j=x j
    rw [hB,if_pos rfl];exact if_pos hj
end Go.Pol
namespace Go.Pol
open Go.Am Go.Proofs.Ytphggldkligldaa.Sh
theorem cnt_posE {L:List Vw} {f:Nat}:0 < cntF L f ↔ ∃ v ∈ L,v.2.2.1=f:=by
 unfold cntF
 rw [List.length_pos_iff_exists_mem]
 constructor
 ·rintro ⟨v,hv⟩
  rw [List.mem_filter] at hv
  exact ⟨v,hv.1,by simpa using hv.2⟩
 ·rintro ⟨v,hv,h⟩
  exact ⟨v,List.mem_filter.2 ⟨hv,by simpa using h⟩⟩
theorem giv_spec:∀ {G:List Nat} {s:Sy},GoodS s→(∀ f ∈ G,f < 1024∧s.K f=2∧s.M f=false)→G.Nodup →
  GoodS (givP s G)∧(givP s G).G=s.G∧(∀ p,p ∉ G→(givP s G).K p=s.K p∧(givP s G).B p=s.B p)∧∀ p ∈ G,(givP s G).K p=1∨(givP s G).K p=2
 | [],s,hg,_,_=>⟨hg,rfl,fun p _=>⟨rfl,rfl⟩,fun p hp=>by cases hp⟩
 | f::G,s,hg,h,hn=>by
  obtain ⟨hf,hk,hm⟩:=h f (List.mem_cons_self ..)
  rw [List.nodup_cons] at hn
  show GoodS (givP (s.chg (f:Nat) 1 2 1 3).2 G)∧(givP (s.chg (f:Nat) 1 2 1 3).2 G).G=s.G∧(∀ p,p ∉ f::G→(givP (s.chg (f:Nat) 1 2 1 3).2 G).K p=s.K p∧(givP (s.chg (f:Nat) 1 2 1 3).2 G).B p=s.B p)∧∀ p ∈ f::G,(givP (s.chg (f:Nat) 1 2 1 3).2 G).K p=1∨(givP (s.chg (f:Nat) 1 2 1 3).2 G).K p=2
  rw [chg_one hf hk hm]
  split
  ·obtain ⟨i1,i2,i3,i4⟩:=giv_spec (G:=G) (s:=s.ref 3) (good_ref hg) (fun g hgm=>h g (List.mem_cons_of_mem _ hgm)) hn.2
   refine ⟨i1,i2,fun p hp=>i3 p fun hp2=>hp (List.mem_cons_of_mem _ hp2),fun p hp=>?_⟩
   rcases List.mem_cons.1 hp with rfl|hp
   ·exact .inr ((i3 p hn.1).1.trans hk)
   ·exact i4 p hp
  ·obtain ⟨i1,i2,i3,i4⟩:=giv_spec (G:=G) (s:=s.turn f 1 3) (good_turn hg hf (by decide) hk hm) (fun g hgm=>by
    obtain ⟨a1,a2,a3⟩:=h g (List.mem_cons_of_mem _ hgm)
    exact ⟨a1,by rw [turn_K,if_neg (fun e:g=f=>hn.1 (e▸hgm))];exact a2,a3⟩) hn.2
   refine ⟨i1,i2,fun p hp=>?_,fun p hp=>?_⟩
   ·have hpf:p ≠ f:=fun e=>hp (e▸List.mem_cons_self ..)
    obtain ⟨j1,j2⟩:=i3 p fun hp2=>hp (List.mem_cons_of_mem _ hp2)
    exact ⟨j1.trans (by rw [turn_K,if_neg hpf]),j2.trans (by rw [turn_B,if_neg hpf])⟩
   ·rcases List.mem_cons.1 hp with rfl|hp
    ·exact .inl ((i3 p hn.1).1.trans (by rw [turn_K,if_pos rfl]))
    ·exact i4 p hp
theorem gone_mem {L:List Vw} {a f:Nat}:f ∈ goneL L a ↔ f < 1024∧(∃ v ∈ L,v.1=a∧v.2.2.1=f)∧cntF (noA a L) f=0:=by
 unfold goneL goneU goneB
 rw [List.mem_filter,List.mem_range,less_all,List.take_length,Bool.and_eq_true,decide_eq_true_eq,decide_eq_true_eq]
 constructor
 ·rintro ⟨h1,h2,h3⟩
  obtain ⟨v,hv,e⟩:=List.mem_map.1 h2
  exact ⟨h1,⟨v,(mem_ofA.1 hv).1,(mem_ofA.1 hv).2,e⟩,h3⟩
 ·rintro ⟨h1,⟨v,hv,h2,h3⟩,h4⟩
  exact ⟨h1,List.mem_map.2 ⟨v,mem_ofA.2 ⟨hv,h2⟩,h3⟩,h4⟩
theorem gone_nodup {L:List Vw} {a:Nat}:(goneL L a).Nodup:=List.Nodup.sublist List.filter_sublist List.nodup_range
theorem mem_del {L:List Vw} {a k:Nat} {v:Vw}:v ∈ delL L a k ↔ v ∈ L∧¬ atV (a,k) v:=by simp [delL]
theorem mem_noA {L:List Vw} {a:Nat} {v:Vw}:v ∈ noA a L ↔ v ∈ L∧v.1 ≠ a:=by simp [noA]
section
variable {b:Bk}
theorem GoodB.sys (h:GoodB b) {L':List Vw} {s':Sy} (hg:GoodS s') (hG:s'.G=b.s.G) (hs:Go.Pol.srt L') (hok:∀ v ∈ L',v.1 < 64∧v.2.1 < 1024∧v.2.2.1 < 1024) (hl:L'.length≤2000)
  (hk:∀ f,b.a≤f→f < b.a+b.n→s'.K f=1∨s'.K f=2) (hu:∀ v ∈ L',b.a≤v.2.2.1∧v.2.2.1 < b.a+b.n∧s'.K v.2.2.1=2):GoodB { b with L:=L',s:=s' } :=
 ⟨hg, h.rng, fun f h1 h2 => ⟨hk f h1 h2, by show s'.G (f / 16) = false; rw [hG]; exact (h.kind f h1 h2).2⟩, fun f hf => by
  obtain ⟨v,hv,rfl⟩:=cnt_posE.1 hf
  exact hu v hv,hs,hok,hl⟩
theorem GoodB.view (h:GoodB b) {v:Vw} (hv:v ∈ b.L):b.a≤v.2.2.1∧v.2.2.1 < b.a+b.n∧b.s.K v.2.2.1=2:=h.used _ (cnt_posE.2 ⟨v,hv,rfl⟩)
theorem GoodB.tk (h:GoodB b) (x:Nat→Int):TkS b.a b.n b.L b.s x (tkP b.a b.n b.L b.s x):=tk_spec (x:=x) (L:=b.L) h.good h.rng.2 h.kind
theorem GoodB.tkK (h:GoodB b) (x:Nat→Int):∀ f,b.a≤f→f < b.a+b.n→(tkP b.a b.n b.L b.s x).2.2.K f=1∨(tkP b.a b.n b.L b.s x).2.2.K f=2:=fun f h1 h2=>by
 by_cases e:(tkP b.a b.n b.L b.s x).2.2.K f=b.s.K f
 ·rw [e];exact (h.kind f h1 h2).1
 ·exact .inr ((h.tk x).new f e).2.2.2
theorem good_map (h:GoodB b) (x k:Int):GoodB (b.map x k).2:=by
 unfold Bk.map
 split
 ·exact h
 rename_i hin
 have hin:inR 64 x∧inR 1024 k:=Classical.not_not.1 hin
 split
 ·exact h
 rename_i hf
 split
 ·exact h
 rename_i hl
 have hn:=fnd_none (L:=b.L) (a:=x.toNat) (k:=k.toNat) (by cases hq:fndL b.L x.toNat k.toNat with
  | none=>rfl
  | some v=>rw [hq] at hf;exact absurd rfl hf)
 obtain ⟨t1,t2,t3,t4,t5,t6⟩:=h.tk fun _=>0
 split
 ·rename_i he
  obtain ⟨u1,u2,u3,u4,u5⟩:=t6 he
  have hr:=h.rng
  refine h.sys t1 t2 (srt_ins h.sr hn) (fun v hv=>?_) (by rw [len_ins];omega) (h.tkK _) (fun v hv=>?_)
  ·rcases mem_ins.1 hv with rfl|hv
   ·have:=hin.1.1;have:=hin.1.2;have:=hin.2.1;have:=hin.2.2
    exact ⟨by show x.toNat < 64;omega,by show k.toNat < 1024;omega,by dsimp only;omega⟩
   ·exact h.ok v hv
  ·rcases mem_ins.1 hv with rfl|hv
   ·exact ⟨u1,u2,u4⟩
   ·obtain ⟨w1,w2,w3⟩:=h.view hv
    exact ⟨w1,w2,t3 _ w3⟩
 ·exact h.sys t1 t2 h.sr h.ok h.len (h.tkK _) fun v hv=>by
   obtain ⟨w1,w2,w3⟩:=h.view hv
   exact ⟨w1,w2,t3 _ w3⟩
theorem good_unmap (h:GoodB b) (x k:Int):GoodB (b.unmap x k).2:=by
 unfold Bk.unmap
 split
 ·exact h
 cases hf:fndL b.L x.toNat k.toNat with
 | none=>exact h
 | some v =>
  obtain ⟨hv,ha⟩:=fnd_some hf
  obtain ⟨w1,w2,w3⟩:=h.view hv
  have hr:=h.rng
  have hd:∀ u ∈ delL b.L x.toNat k.toNat,u ∈ b.L:=fun u hu=>(mem_del.1 hu).1
  dsimp only
  have hsr:srt (delL b.L x.toNat k.toNat):=h.sr.sublist List.filter_sublist
  have hlen:(delL b.L x.toNat k.toNat).length≤2000:=Nat.le_trans (List.length_filter_le ..) h.len
  by_cases h0:cntF (delL b.L x.toNat k.toNat) v.2.2.1=0
  ·rw [if_pos h0]
   obtain ⟨g1,g2,g3,g4⟩:=giv_spec (G:=[v.2.2.1]) (s:=b.s) h.good (fun f hfm=>by
    rw [List.mem_singleton.1 hfm];exact ⟨by omega,w3,(h.kind _ w1 w2).2⟩) (by simp)
   refine h.sys g1 g2 hsr (fun u hu=>h.ok u (hd u hu)) hlen (fun f h1 h2=>?_) fun u hu=>?_
   ·by_cases e:f=v.2.2.1
    ·exact g4 f (by rw [e];simp)
    ·rw [(g3 f (by simpa using e)).1];exact (h.kind f h1 h2).1
   ·obtain ⟨y1,y2,y3⟩:=h.view (hd u hu)
    have hne:u.2.2.1 ∉ [v.2.2.1]:=fun e=>by
     have : 0 < cntF (delL b.L x.toNat k.toNat) v.2.2.1:=cnt_posE.2 ⟨u,hu,List.mem_singleton.1 e⟩
     omega
    exact ⟨y1,y2,by rw [(g3 _ hne).1];exact y3⟩
  ·rw [if_neg h0]
   exact h.sys h.good rfl hsr (fun u hu=>h.ok u (hd u hu)) hlen (fun f h1 h2=>(h.kind f h1 h2).1) fun u hu=>h.view (hd u hu)
theorem put_mem {y:Nat}:∀ {O M:List Vw} {v:Vw},v ∈ putL y M O ↔ v ∈ M∨∃ u ∈ O,v=cpV y u
 | [],M,v=>by simp [putL]
 | w::O,M,v=>by
  show v ∈ putL y (insV (cpV y w) M) O ↔ _
  rw [put_mem,mem_ins]
  constructor
  ·rintro ((h|h) | ⟨u,hu,h⟩)
   ·exact .inr ⟨w,List.mem_cons_self ..,h⟩
   ·exact .inl h
   ·exact .inr ⟨u,List.mem_cons_of_mem _ hu,h⟩
  ·rintro (h | ⟨u,hu,h⟩)
   ·exact .inl (.inr h)
   ·rcases List.mem_cons.1 hu with rfl|hu
    ·exact .inl (.inl h)
    ·exact .inr ⟨u,hu,h⟩
theorem put_len {y:Nat}:∀ {O M:List Vw},(putL y M O).length=M.length+O.length
 | [],_=>rfl
 | w::O,M=>by
  show (putL y (insV (cpV y w) M) O).length=_
  rw [put_len,len_ins,List.length_cons];omega
theorem put_srt {y:Nat}:∀ {O M:List Vw},srt M→(∀ u ∈ O,∀ v ∈ M,¬ atV (y,u.2.1) v)→O.Pairwise (fun u v=>u.2.1 ≠ v.2.1)→srt (putL y M O)
 | [],_,h,_,_=>h
 | w::O,M,h,hn,hp=>by
  rw [List.pairwise_cons] at hp
  refine put_srt (O:=O) (M:=insV (cpV y w) M) (srt_ins (v:=cpV y w) h (hn w (List.mem_cons_self ..))) (fun u hu v hv=>?_) hp.2
  rcases mem_ins.1 hv with rfl|hv
  ·exact fun e=>hp.1 u hu e.2
  ·exact hn u (List.mem_cons_of_mem _ hu) v hv
theorem frk_mem {x y:Nat} {L:List Vw} {v:Vw}:v ∈ frkL x y L ↔ (∃ u ∈ L,v=wnV x u)∨∃ u ∈ L,u.1=x∧v=cpV y u:=by
 unfold frkL
 rw [put_mem,List.mem_map]
 constructor
 ·rintro (⟨u,hu,h⟩ | ⟨u,hu,h⟩)
  ·exact .inl ⟨u,hu,h.symm⟩
  ·exact .inr ⟨u,(mem_ofA.1 hu).1,(mem_ofA.1 hu).2,h⟩
 ·rintro (⟨u,hu,h⟩ | ⟨u,hu,h1,h⟩)
  ·exact .inl ⟨u,hu,h.symm⟩
  ·exact .inr ⟨u,mem_ofA.2 ⟨hu,h1⟩,h⟩
theorem frk_len {x y:Nat} {L:List Vw}:(frkL x y L).length=L.length+(ofA x L).length:=by unfold frkL;rw [put_len,List.length_map]
theorem frk_srt {x y:Nat} {L:List Vw} (hs:srt L) (hy:ofA y L=[]):srt (frkL x y L):=by
 have hm:srt (L.map (wnV x)):=by
  refine List.pairwise_map.2 (hs.imp fun h=>?_)
  exact h
 refine put_srt hm (fun u hu v hv e=>?_) ?_
 ·obtain ⟨w,hw,rfl⟩:=List.mem_map.1 hv
  have : w ∈ ofA y L:=mem_ofA.2 ⟨hw,e.1⟩
  rw [hy] at this;cases this
 ·have h1:(ofA x L).Pairwise bef:=hs.sublist List.filter_sublist
  have h2:∀ {O:List Vw},(∀ v ∈ O,v.1=x)→O.Pairwise bef→O.Pairwise fun u v=>u.2.1 ≠ v.2.1:=fun {O}=>by
   induction O with
   | nil=>exact fun _ _=>.nil
   | cons w O ih =>
    intro hx hp
    rw [List.pairwise_cons] at hp ⊢
    refine ⟨fun v hv e=>?_,ih (fun v hv=>hx v (List.mem_cons_of_mem _ hv)) hp.2⟩
    have h3:=hp.1 v hv
    have h4:=hx w (List.mem_cons_self ..)
    have h5:=hx v (List.mem_cons_of_mem _ hv)
    unfold bef at h3;omega
  exact h2 (fun v hv=>(mem_ofA.1 hv).2) h1
theorem frk_good {L:List Vw} {x y:Nat} {p:Vw→Prop} (hp:∀ v ∈ L,p v) (h1:∀ v,p v→p (wnV x v)) (h2:∀ v,p v→p (cpV y v)):∀ v ∈ frkL x y L,p v:=fun v hv=>by
 rcases frk_mem.1 hv with ⟨u,hu,rfl⟩ | ⟨u,hu,_,rfl⟩
 ·exact h1 u (hp u hu)
 ·exact h2 u (hp u hu)
theorem good_take (h:GoodB b) (x y:Int):GoodB (b.take x y).2.2:=by
 unfold Bk.take
 split
 ·exact h
 rename_i hin
 have hin:inR 64 x∧inR 64 y:=Classical.not_not.1 hin
 split
 ·exact h
 split
 ·exact h
 rename_i h8
 split
 ·exact h
 rename_i h5
 have hy:ofA y.toNat b.L=[]:=List.eq_nil_of_length_eq_zero (by omega)
 have hy2:y.toNat < 64:=by have:=hin.2.1;have:=hin.2.2;omega
 exact h.sys h.good rfl (frk_srt h.sr hy) (frk_good (fun v hv=>h.ok v hv) (fun v hv=>hv) fun v hv=>⟨hy2,hv.2⟩) (by rw [frk_len];omega) (fun f h1 h2=>(h.kind f h1 h2).1) (frk_good (fun v hv=>h.view hv) (fun v hv=>hv) fun v hv=>hv)
theorem gone_ok (h:GoodB b) (x:Nat):∀ f ∈ goneL b.L x,f < 1024∧b.s.K f=2∧b.s.M f=false:=fun f hf=>by
 obtain ⟨h1,⟨v,hv,h2,h3⟩,h4⟩:=gone_mem.1 hf
 obtain ⟨w1,w2,w3⟩:=h.view hv
 rw [h3] at w1 w2 w3
 exact ⟨h1,w3,(h.kind f w1 w2).2⟩
theorem good_gone (h:GoodB b) (x:Nat) {L':List Vw} (hs:srt L') (hok:∀ v ∈ L',v.1 < 64∧v.2.1 < 1024∧v.2.2.1 < 1024) (hl:L'.length≤2000) (hu:∀ v ∈ L',∃ u ∈ noA x b.L,v.2.2.1=u.2.2.1):GoodB { b with L:=L',s:=givP b.s (goneL b.L x) }:=by
 obtain ⟨g1,g2,g3,g4⟩:=giv_spec h.good (gone_ok h x) gone_nodup
 refine h.sys g1 g2 hs hok hl (fun f h1 h2=>?_) fun v hv=>?_
 ·by_cases e:f ∈ goneL b.L x
  ·exact g4 f e
  ·rw [(g3 f e).1];exact (h.kind f h1 h2).1
 ·obtain ⟨u,hu,e⟩:=hu v hv
  obtain ⟨y1,y2,y3⟩:=h.view (mem_noA.1 hu).1
  rw [e]
  refine ⟨y1,y2,?_⟩
  rw [(g3 _ fun hg=>?_).1]
  ·exact y3
  ·have:=(gone_mem.1 hg).2.2
   have : 0 < cntF (noA x b.L) u.2.2.1:=cnt_posE.2 ⟨u,hu,rfl⟩
   omega
theorem noA_len {L:List Vw} {a:Nat}:(noA a L).length+(ofA a L).length=L.length:=by
 induction L with
 | nil=>rfl
 | cons v L ih =>
  unfold noA ofA at *
  by_cases e:v.1=a
  ·simp [List.filter_cons,e] at *;omega
  ·simp [List.filter_cons,e] at *;omega
theorem good_drop (h:GoodB b) (x:Int):GoodB (b.drop x).2.2:=by
 unfold Bk.drop
 split
 ·exact h
 exact good_gone h x.toNat (h.sr.sublist List.filter_sublist) (fun v hv=>h.ok v (mem_noA.1 hv).1) (Nat.le_trans (List.length_filter_le ..) h.len) fun v hv=>⟨v,hv,rfl⟩
theorem ofA_noA {L:List Vw} {x y:Nat} (h:y ≠ x):ofA y (noA x L)=ofA y L:=by
 unfold ofA noA
 rw [List.filter_filter]
 refine List.filter_congr fun v _=>?_
 by_cases e:v.1=y
 ·simp [e,h]
 ·simp [e]
theorem ofA_self {L:List Vw} {x:Nat}:ofA x (noA x L)=[]:=by
 unfold ofA noA
 rw [List.filter_filter,List.filter_eq_nil_iff]
 intro v _;simp
theorem good_revert (h:GoodB b) (x y:Int):GoodB (b.revert x y).2.2:=by
 unfold Bk.revert
 split
 ·exact h
 rename_i hin
 have hin:inR 64 x∧inR 64 y:=Classical.not_not.1 hin
 split
 ·exact h
 rename_i hxy
 split
 ·exact h
 rename_i h5
 have hx0:=hin.1.1;have hx1:=hin.1.2;have hy0:=hin.2.1;have hy1:=hin.2.2
 have hne:y.toNat ≠ x.toNat:=by omega
 have hl:=noA_len (L:=b.L) (a:=x.toNat)
 have hs:srt (noA x.toNat b.L):=h.sr.sublist List.filter_sublist
 refine good_gone h x.toNat (frk_srt hs ofA_self) (frk_good (fun v hv=>h.ok v (mem_noA.1 hv).1) (fun v hv=>hv) fun v hv=>⟨by show x.toNat < 64;omega,hv.2⟩) (by rw [frk_len,ofA_noA hne];omega) ?_
 exact frk_good (fun v hv=>⟨v,hv,rfl⟩) (fun v hv=>hv) fun v hv=>hv
theorem set_mem {g:Vw→Vw} {a k:Nat} {L:List Vw} {v:Vw}:v ∈ setL g a k L ↔ ∃ u ∈ L,v=if atV (a,k) u then g u else u:=by
 unfold setL;rw [List.mem_map]
 exact ⟨fun ⟨u,hu,e⟩=>⟨u,hu,e.symm⟩,fun ⟨u,hu,e⟩=>⟨u,hu,e.symm⟩⟩
theorem set_srt {g:Vw→Vw} {a k:Nat} {L:List Vw} (hg:∀ v,(g v).1=v.1∧(g v).2.1=v.2.1) (h:srt L):srt (setL g a k L):=by
 unfold setL
 refine List.pairwise_map.2 (h.imp fun {u v} huv=>?_)
 have e:∀ w:Vw,(if atV (a,k) w then g w else w).1=w.1∧(if atV (a,k) w then g w else w).2.1=w.2.1:=fun w=>by
  split
  ·exact hg w
  ·exact ⟨rfl,rfl⟩
 unfold bef at huv ⊢
 rw [(e u).1,(e u).2,(e v).1,(e v).2];exact huv
theorem good_put (h:GoodB b) (x t v:Int):GoodB (b.put x t v).2:=by
 unfold Bk.put
 split
 ·have hK:∀ p,(b.s.write (b.where_ x t true).1 v).2.K p=b.s.K p:=fun p=>by
   unfold Sy.write;split
   ·rfl
   ·split<;>rfl
  have hG:(b.s.write (b.where_ x t true).1 v).2.G=b.s.G:=by
   unfold Sy.write;split
   ·rfl
   ·split<;>rfl
  exact h.sys (good_write h.good) hG h.sr h.ok h.len (fun f h1 h2=>by rw [hK];exact (h.kind f h1 h2).1) fun v hv=>by rw [hK];exact h.view hv
 ·exact h
theorem good_write' (h:GoodB b) (x t v:Int):GoodB (b.write x t v).2:=by
 unfold Bk.write
 split
 ·exact h
 rename_i hin
 have hin:inR 64 x∧inR 65536 t:=Classical.not_not.1 hin
 cases hf:fndL b.L x.toNat (t.toNat / 64) with
 | none=>exact h
 | some u =>
  dsimp only
  split
  ·exact good_put h x t v
  ·split
   ·refine good_put (b:={ b with L:=setL (prV true) x.toNat (t.toNat / 64) b.L }) ?_ x t v
    refine h.sys h.good rfl (set_srt (fun v=>⟨rfl,rfl⟩) h.sr) (fun w hw=>?_) (by unfold setL;rw [List.length_map];exact h.len) (fun f h1 h2=>(h.kind f h1 h2).1) fun w hw=>?_
    ·obtain ⟨y,hy,rfl⟩:=set_mem.1 hw
     split
     ·exact h.ok y hy
     ·exact h.ok y hy
    ·obtain ⟨y,hy,rfl⟩:=set_mem.1 hw
     have hv:=h.view hy
     split
     ·exact hv
     ·exact hv
   ·have tk:=h.tk (b.s.B u.2.2.1)
    split
    ·rename_i he
     obtain ⟨u1,u2,u3,u4,u5⟩:=tk.got he
     have hr:=h.rng
     refine good_put (b:={ b with L:=setL (frV _) x.toNat (t.toNat / 64) b.L,s:=_ }) ?_ x t v
     refine h.sys tk.good tk.G (set_srt (fun v=>⟨rfl,rfl⟩) h.sr) (fun w hw=>?_) (by unfold setL;rw [List.length_map];exact h.len) (h.tkK _) fun w hw=>?_
     ·obtain ⟨y,hy,rfl⟩:=set_mem.1 hw
      have:=h.ok y hy
      split
      ·exact ⟨this.1,this.2.1,by show (tkP b.a b.n b.L b.s (b.s.B u.2.2.1)).2.1 < 1024;omega⟩
      ·exact this
     ·obtain ⟨y,hy,rfl⟩:=set_mem.1 hw
      split
      ·exact ⟨u1,u2,u4⟩
      ·obtain ⟨w1,w2,w3⟩:=h.view hy
       exact ⟨w1,w2,tk.up _ w3⟩
    ·exact h.sys tk.good tk.G h.sr h.ok h.len (h.tkK _) fun v hv=>by
      obtain ⟨w1,w2,w3⟩:=h.view hv
      exact ⟨w1,w2,tk.up _ w3⟩
end
end Go.Pol
