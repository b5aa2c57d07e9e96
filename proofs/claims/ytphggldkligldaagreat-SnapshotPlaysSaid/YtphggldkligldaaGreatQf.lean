/-
 Protect;what Fork,Drop and where refuse;calls on no table.
 A book of spaces,plain: its views,its system,and what each call does.
 A book of spaces,plain: what each call keeps.
 A book of spaces,plain: it stays a good one.
-/
import Derived.Test.YtphggldkligldaaGreatSnF
set_option linter.unusedSimpArgs false
set_option linter.unusedVariables false
namespace Go.Proofs.YtphggldkligldaaGreat.Sh
open Go Go.Am Go.Pol
theorem wx_Yq {p q:Prop} (hq:q) (h:R7 q→p:=by (intro hQz;((repeat' ((try (conv=>whnf));first|refine sxA ?_|refine AC0 (by with_reducible assumption) ?_|refine sxF ?_|refine AB3 (by assumption) rfl rfl rfl rfl rfl (by decide) rfl ?_|(refine O6 D9 b119 rfl ?_;unfold c119)|refine Ab4 (by assumption) rfl (by omega) ?_|refine sxH ?_|((with_reducible first|apply L8 hQz|apply L9 hQz)<;>(try intro hsp hQz))|exact hQz.out))<;>(try (conv=>whnf))))):p:=h ⟨hq⟩
theorem wx_Yqn {p q:Prop} (hq:q) (h:R7 q→p:=by (intro hQz;((repeat' ((try (conv=>whnf));first|refine sxA ?_|refine BU3 rfl (by with_reducible assumption) ?_|refine sxN ?_|refine AB3 (by assumption) rfl rfl rfl rfl rfl (by decide) rfl ?_|refine y9 (by assumption) rfl rfl rfl (by decide) (by first|exact AK7|(simp [A8,A9];done)|fail) (by first|exact AM6|exact A8|fail) rfl ?_|refine AT1 (by assumption) rfl rfl rfl (by first|exact AK7|(simp [A8,A9];done)|fail) (by first|exact AM6|exact A8|fail) rfl rfl ?_|(refine O6 D9 b119 rfl ?_;unfold c119)|refine Ab4 (by assumption) rfl (by omega) ?_|refine y9 (by assumption) rfl rfl rfl (by decide) (by first|(simp [A8,A9];done)|fail) F4 rfl ?_|refine AT1 (by assumption) rfl rfl rfl (by first|(simp [A8,A9];done)|fail) F4 rfl rfl ?_|refine sxH ?_|((with_reducible first|apply L8 hQz|apply L9 hQz)<;>(try intro hsp hQz))|exact hQz.out))<;>(try (conv=>whnf))))):p:=h ⟨hq⟩
section
variable {L:List Vw} {t:TS} {v:Vw} {s:Nat}
theorem t_Protect (h:TOk L t) (hs:s ∈ t.Q v.1) (hu:t.U s=v) (w:Bool) :
  ∃ t' A B,L=A++v::B∧TOk (A++prV w v::B) t'∧AA9 95 [.int .i64 (v.1:Nat),.int .i64 (v.2.1:Nat),.bool w] t (.int .i64 0) t':=by
 obtain ⟨X,Y,A,B,hQ,hL,hX,hY,hsX,hsY⟩:=h.around hs hu
 have hv:v ∈ L:=by rw [hL];simp
 have hok:=h.ok v hv
 have hm:v.1 < t.m:=by rw [h.hm];exact hok.1
 have hfi:=t_find hok.1 hok.2.1 h.keys (h.entry hs hu)
 have hget:=h.get hs
 rw [hu] at hget
 obtain ⟨i1,hput⟩:=p_put h.pool.inv (s:=s) (i:=v.1) ⟨hm,hQ⟩ (num v.1) (num v.2.1) (num v.2.2.1) (bo w)
 have hT:=h.chg (w:=prV w v) (C:=t.C) hu hQ hL hX hY hsX hsY rfl rfl hok.2.2 (fun f=>by
  have:=h.cnt f
  rw [hL,AD1,AC1] at this
  rw [AD1,AC1];exact this) ⟨i1,h.pool.m_le,h.pool.n_le,h.pool.n_pos⟩
 refine ⟨_,A,B,hL,hT,AA9.mk (E8 D9 b95 rfl ?_) AM7 A8⟩
 unfold c95
 obtain ⟨va,vk,vf,vw⟩:=v
 have hput':AL3 146 [.int .i64 (s:Nat),.agg [.int .i64 (va:Nat),.int .i64 (vk:Nat),.int .i64 (vf:Nat),.bool w]] t.n t.m (AA4 t.n t.m t.V t.W t.V3 t.V4 t.S) (.int .i64 0) (AA4 t.n t.m (O1 t.V s (num va)) (O1 t.W s (num vk)) (O1 t.V3 s (num vf)) (O1 t.V4 s (bo w)) t.S):=hput
 unfold vwC at hget
 dsimp only at *
 clear hput
 (refine wx_Yqn ?_;repeat' (first|with_reducible refine And.intro ?_ ?_|intro hsp))
 all_goals exact V7 rfl A8 rfl rfl rfl rfl rfl
theorem t_Fork_no (a b:Int) (hn:¬ (inR 64 a∧inR 64 b)):AA9 85 [.int .i64 a,.int .i64 b] t (.tup [.int .i64 0,.int .i64 7]) t:=by
 have k1:=At1 a b
 rw [if_neg hn] at k1
 refine AA9.mk (E8 D9 b85 rfl ?_) H6 F4
 unfold c85
 (refine wx_Yq ?_;repeat' (first|with_reducible refine And.intro ?_ ?_|intro hsp))
 all_goals exact V7 rfl F4 rfl rfl rfl rfl rfl
theorem Ah2 (h:TOk L t) {a b:Nat} {e:Int} (ha:a < 64) (hb:b < 64) (he:(e=2∧a=b)∨(e=8∧a ≠ b∧(ofA b L).length ≠ 0)∨(e=5∧a ≠ b∧(ofA b L).length=0∧2000 < L.length+(ofA a L).length)):AA9 85 [.int .i64 (a:Nat),.int .i64 (b:Nat)] t (.tup [.int .i64 0,.int .i64 e]) t:=by
 have k1:=At1 (a:Nat) (b:Nat)
 rw [if_pos ⟨AZ3 ha,AZ3 hb⟩] at k1
 have l1:=h.len_q ha
 have l2:=h.len_q hb
 have hml:(t.E.map AK9).length=L.length:=by rw [List.length_map,h.elen]
 have hLl:=h.len
 have l3:(ofA a L).length≤L.length:=List.length_filter_le ..
 refine AA9.mk (E8 D9 b85 rfl ?_) H6 F4
 unfold c85
 rcases he with ⟨rfl,h1⟩ | ⟨rfl,h1,h2⟩ | ⟨rfl,h1,h2,h3⟩
 all_goals (refine wx_Yqn ?_;repeat' (first|with_reducible refine And.intro ?_ ?_|intro hsp))
 all_goals first|exact V7 rfl F4 rfl rfl rfl rfl rfl|(exfalso;omega)
theorem BK5 {e:Int}:Plain (.tup [.nils,.int .i64 e]):=H7 fun x hx=>by
 simp only [List.mem_cons,List.not_mem_nil,or_false] at hx
 rcases hx with rfl|rfl
 ·exact AA6
 ·exact A8
theorem t_Drop_no (a:Int) (hn:¬ inR 64 a):AA9 86 [.int .i64 a] t (.tup [.nils,.int .i64 7]) t:=by
 have k1:=AR3 a
 rw [if_neg hn] at k1
 refine AA9.mk (E8 D9 b86 rfl ?_) AP2 BK5
 unfold c86
 (refine wx_Yq ?_;repeat' (first|with_reducible refine And.intro ?_ ?_|intro hsp))
 all_goals exact V7 rfl BK5 rfl rfl rfl rfl rfl
theorem BR4 (a at_:Int) (w:Bool) (hn:¬ inR 65536 at_):AA9 121 [.int .i64 a,.int .i64 at_,.bool w] t (.tup [.int .i64 0,.int .i64 7]) t:=by
 unfold inR at hn
 refine AA9.mk (E8 D9 b121 rfl ?_) AM7 F4
 unfold c121
 (refine wx_Yq ?_;repeat' (first|with_reducible refine And.intro ?_ ?_|intro hsp))
 all_goals first|exact V7 rfl F4 rfl rfl rfl rfl rfl|(exfalso;omega)
theorem t_where_no (a:Int) (at_:Nat) (w:Bool) (hat:at_ < 65536) (hn:¬ inR 64 a):AA9 121 [.int .i64 a,.int .i64 (at_:Nat),.bool w] t (.tup [.int .i64 0,.int .i64 7]) t:=by
 have hq:=q64 (t:=at_) (by omega)
 have hf:=t_Find_no (t:=t) a ((at_ / 64:Nat):Int) fun h=>hn h.1
 refine AA9.mk (E8 D9 b121 rfl ?_) AM7 F4
 unfold c121
 (refine wx_Yq ?_;repeat' (first|with_reducible refine And.intro ?_ ?_|intro hsp))
 all_goals first|exact V7 rfl F4 rfl rfl rfl rfl rfl|(exfalso;omega)
end
end Go.Proofs.YtphggldkligldaaGreat.Sh
namespace Go.Pol
open Go.Am Go.Proofs.YtphggldkligldaaGreat.Sh
def AO1 (L:List Vw) (a k:Nat):Option Vw:=L.find? fun v=>decide (atV (a,k) v)
def Aw4 (L:List Vw) (a k:Nat):List Vw:=L.filter fun v=>decide (¬ atV (a,k) v)
def AR5 (g:Vw→Vw) (a k:Nat) (L:List Vw):List Vw:=L.map fun v=>if atV (a,k) v then g v else v
def BN4 (L:List Vw) (a n:Nat):Option Nat:=(List.range' a n).find? fun f=>decide (cntF L f=0)
def Sy.page (s:Sy) (f:Nat) (x:Nat→Int):Sy:={ s with B:=AZ5 s.B f fun j=>if j < 64 then x j else 0 }
def tkP (a n:Nat) (L:List Vw) (s:Sy) (x:Nat→Int):Int × Nat × Sy:=match BN4 L a n with
 | none=>(5,0,s)
 | some f=>if s.K f=1 then (if (s.chg (f:Nat) 1 1 2 2).1=0 then (0,f,(s.chg (f:Nat) 1 1 2 2).2.page f x) else ((s.chg (f:Nat) 1 1 2 2).1,0,(s.chg (f:Nat) 1 1 2 2).2)) else (0,f,s.page f x)
def AI4 (s:Sy) (G:List Nat):Sy:=G.foldl (fun s f=>(s.chg (f:Nat) 1 2 1 3).2) s
structure Bk where
 a:Nat
 n:Nat
 L:List Vw
 s:Sy
def Bk.map (b:Bk) (x k:Int):Int × Bk :=
 if ¬ (inR 64 x∧inR 1024 k) then (7,b) else if (AO1 b.L x.toNat k.toNat).isSome then (8,b) else if 2000≤b.L.length then (5,b) else
 if (tkP b.a b.n b.L b.s fun _=>0).1=0 then (0,{ b with L:=AZ2 (x.toNat,k.toNat,(tkP b.a b.n b.L b.s fun _=>0).2.1,true) b.L,s:=(tkP b.a b.n b.L b.s fun _=>0).2.2 })
 else ((tkP b.a b.n b.L b.s fun _=>0).1,{ b with s:=(tkP b.a b.n b.L b.s fun _=>0).2.2 })
def Bk.unmap (b:Bk) (x k:Int):Int × Bk :=
 if ¬ (inR 64 x∧inR 1024 k) then (7,b) else match AO1 b.L x.toNat k.toNat with
 | none=>(4,b)
 | some v=>(0,{ b with L:=Aw4 b.L x.toNat k.toNat,s:=if cntF (Aw4 b.L x.toNat k.toNat) v.2.2.1=0 then AI4 b.s [v.2.2.1] else b.s })
def frkL (x y:Nat) (L:List Vw):List Vw:=Ai1 y (L.map (wnV x)) (ofA x L)
def Bk.take (b:Bk) (x y:Int):Int × Int × Bk :=
 if ¬ (inR 64 x∧inR 64 y) then (0,7,b) else if x=y then (0,2,b) else if (ofA y.toNat b.L).length ≠ 0 then (0,8,b) else if 2000 < b.L.length+(ofA x.toNat b.L).length then (0,5,b) else
 ((ofA x.toNat b.L).length,0,{ b with L:=frkL x.toNat y.toNat b.L })
def Bk.drop (b:Bk) (x:Int):Int × Int × Bk :=
 if ¬ inR 64 x then (0,7,b) else ((AF7 b.L x.toNat).length,0,{ b with L:=noA x.toNat b.L,s:=AI4 b.s (AF7 b.L x.toNat) })
def Bk.revert (b:Bk) (x y:Int):Int × Int × Bk :=
 if ¬ (inR 64 x∧inR 64 y) then (0,7,b) else if x=y then (0,2,b) else if 2000 < b.L.length+(ofA y.toNat b.L).length - (ofA x.toNat b.L).length then (0,5,b) else
 ((ofA y.toNat b.L).length,0,{ b with L:=frkL y.toNat x.toNat (noA x.toNat b.L),s:=AI4 b.s (AF7 b.L x.toNat) })
def Bk.where_ (b:Bk) (x t:Int) (w:Bool):Int × Int :=
 if ¬ (inR 64 x∧inR 65536 t) then (0,7) else match AO1 b.L x.toNat (t.toNat / 64) with
 | none=>(0,220)
 | some v=>if w=true∧v.2.2.2=false then (0,220) else (((v.2.2.1 * 64+t.toNat % 64:Nat):Int),0)
def Bk.read (b:Bk) (x t:Int):Int × Int:=if (b.where_ x t false).2=0 then b.s.read (b.where_ x t false).1 else (0,(b.where_ x t false).2)
def Bk.put (b:Bk) (x t v:Int):Int × Bk:=if (b.where_ x t true).2=0 then ((b.s.write (b.where_ x t true).1 v).1,{ b with s:=(b.s.write (b.where_ x t true).1 v).2 }) else ((b.where_ x t true).2,b)
def Bk.write (b:Bk) (x t v:Int):Int × Bk :=
 if ¬ (inR 64 x∧inR 65536 t) then (7,b) else match AO1 b.L x.toNat (t.toNat / 64) with
 | none=>(220,b)
 | some u =>
  if u.2.2.2 then b.put x t v
  else if cntF b.L u.2.2.1=1 then Bk.put { b with L:=AR5 (prV true) x.toNat (t.toNat / 64) b.L } x t v
  else if (tkP b.a b.n b.L b.s (b.s.B u.2.2.1)).1=0 then
   Bk.put { b with L:=AR5 (frV (tkP b.a b.n b.L b.s (b.s.B u.2.2.1)).2.1) x.toNat (t.toNat / 64) b.L,s:=(tkP b.a b.n b.L b.s (b.s.B u.2.2.1)).2.2 } x t v
  else ((tkP b.a b.n b.L b.s (b.s.B u.2.2.1)).1,{ b with s:=(tkP b.a b.n b.L b.s (b.s.B u.2.2.1)).2.2 })
def eqB (f g:Nat→Int):Prop:=∀ j,j < 64→f j=g j
instance (f g:Nat→Int):Decidable (eqB f g):=by unfold eqB;infer_instance
def Bk.dif (b:Bk) (x y k:Nat):Bool:=match AO1 b.L x k,AO1 b.L y k with
 | none,none=>false
 | some u,some v=>!decide (eqB (b.s.B u.2.2.1) (b.s.B v.2.2.1))
 | _,_=>true
def Bk.differ (b:Bk) (x y:Int):List Int × Int:=if ¬ (inR 64 x∧inR 64 y) then ([],7) else (((List.range 1024).filter fun k=>b.dif x.toNat y.toNat k).map fun k=>((k:Nat):Int),0)
def Bk.used (b:Bk):Nat:=((List.range' b.a b.n).filter fun f=>decide (0 < cntF b.L f)).length
def Bk.idle (b:Bk):Nat:=((List.range' b.a b.n).filter fun f=>decide (cntF b.L f=0∧b.s.K f=2)).length
def Bk.many (b:Bk):Nat:=((List.range' b.a b.n).filter fun f=>decide (1 < cntF b.L f)).length
structure K6 (b:Bk):Prop where
 good:GoodS b.s
 rng:1≤b.n∧b.a+b.n≤1024
 kind:∀ f,b.a≤f→f < b.a+b.n→(b.s.K f=1∨b.s.K f=2)∧b.s.M f=false
 used:∀ f,0 < cntF b.L f→b.a≤f∧f < b.a+b.n∧b.s.K f=2
 sr:srt b.L
 ok:∀ v ∈ b.L,v.1 < 64∧v.2.1 < 1024∧v.2.2.1 < 1024
 len:b.L.length≤2000
end Go.Pol
namespace Go.Pol
open Go.Am Go.Proofs.YtphggldkligldaaGreat.Sh
theorem AF8 {L:List Vw} {a k:Nat} {v:Vw} (h:AO1 L a k=some v):v ∈ L∧atV (a,k) v:=⟨List.mem_of_find?_eq_some h,by have:=List.find?_some h;simpa using this⟩
theorem AL0 {L:List Vw} {a k:Nat} (h:AO1 L a k=none):∀ v ∈ L,¬ atV (a,k) v:=fun v hv=>by
 have:=List.find?_eq_none.1 h v hv
 simpa using this
theorem BN3 {L:List Vw} {a n f:Nat} (h:BN4 L a n=some f):a≤f∧f < a+n∧cntF L f=0:=by
 have h1:=List.mem_of_find?_eq_some h
 have h2:=List.find?_some h
 rw [List.mem_range'_1] at h1
 exact ⟨h1.1,h1.2,by simpa using h2⟩
theorem BM9 {s:Sy} {f:Nat} {x:Nat→Int} (h:GoodS s) (hk:s.K f=2):GoodS (s.page f x):=by
 refine ⟨h.hv,h.kind,h.huge,fun p hp=>?_,h.cK,fun p j hj=>?_⟩
 ·show AZ5 s.B f _ p=_
  unfold AZ5
  rw [if_neg fun e=>hp (by rw [e];exact hk)]
  exact h.zero p hp
 ·show AZ5 s.B f _ p j=0
  unfold AZ5
  split
  ·show (if j < 64 then x j else 0)=0;rw [if_neg (by omega)]
  ·exact h.cB p j hj
def Sy.turn (s:Sy) (f:Nat) (w:Int) (k:Nat):Sy:={ s.ref k with K:=fun p=>if p=f then w else s.K p,B:=fun p=>if p=f then fun _=>0 else s.B p }
theorem Av2 {s:Sy} {f:Nat} {v w:Int} {k:Nat} (hf:f < 1024) (hk:s.K f=v) (hm:s.M f=false):s.chg (f:Nat) 1 v w k=if isR s.l s.C k then (60,s.ref k) else (0,s.turn f w k):=by
 unfold Sy.chg
 have hok:okR s.K s.M ((f:Nat):Int).toNat (1:Int).toNat v:=fun i hi=>by
  have hi:i < 1:=hi
  rw [show ((f:Nat):Int).toNat+i=f by omega];exact ⟨hk,hm⟩
 have h1:(1:Int).toNat=1:=rfl
 have e1:Aa5 s.K ((f:Nat):Int).toNat (1:Int).toNat w=fun p=>if p=f then w else s.K p:=funext fun p=>by
  show (if _ then w else s.K p)=_
  by_cases e:p=f
  ·rw [if_pos e,if_pos (by omega)]
  ·rw [if_neg e,if_neg (by omega)]
 have e2:Ak5 s.B ((f:Nat):Int).toNat (1:Int).toNat=fun p=>if p=f then fun _=>0 else s.B p:=funext fun p=>by
  show (if _ then (fun _=>0) else s.B p)=_
  by_cases e:p=f
  ·rw [if_pos e,if_pos (by omega)]
  ·rw [if_neg e,if_neg (by omega)]
 rw [if_neg (by omega),if_pos hok,e1,e2]
 rfl
theorem AU7 {s:Sy} {f p:Nat} {w:Int} {k:Nat}:(s.turn f w k).K p=if p=f then w else s.K p:=rfl
theorem BI5 {s:Sy} {f p:Nat} {w:Int} {k:Nat}:(s.turn f w k).B p=if p=f then fun _=>0 else s.B p:=rfl
theorem BM8 {s:Sy} {f:Nat} {v w:Int} {k:Nat} (h:GoodS s) (hf:f < 1024) (hw:0≤w∧w≤3) (hk:s.K f=v) (hm:s.M f=false):GoodS (s.turn f w k):=by
 refine ⟨BG2 h.hv,fun p=>?_,fun p hp=>?_,fun p hp=>?_,fun p hp=>?_,fun p j hj=>?_⟩
 ·rw [AU7];split
  ·exact hw
  ·exact h.kind p
 ·rw [AU7]
  have hp':s.M p=true:=hp
  rw [if_neg fun e=>by rw [e,hm] at hp';cases hp']
  exact h.huge p hp'
 ·rw [BI5]
  split
  ·rfl
  ·rename_i e
   rw [AU7,if_neg e] at hp
   exact h.zero p hp
 ·rw [AU7,if_neg (by omega)];exact h.cK p hp
 ·rw [BI5];split
  ·rfl
  ·exact h.cB p j hj
structure TkS (a n:Nat) (L:List Vw) (s:Sy) (x:Nat→Int) (r:Int × Nat × Sy):Prop where
 good:GoodS r.2.2
 G:r.2.2.G=s.G
 up:∀ p,s.K p=2→r.2.2.K p=2
 new:∀ p,r.2.2.K p ≠ s.K p→a≤p∧p < a+n∧s.K p=1∧r.2.2.K p=2
 old:∀ p,0 < cntF L p→r.2.2.B p=s.B p
 got:r.1=0→a≤r.2.1∧r.2.1 < a+n∧cntF L r.2.1=0∧r.2.2.K r.2.1=2∧∀ j,j < 64→r.2.2.B r.2.1 j=x j
theorem tk_spec {a n:Nat} {L:List Vw} {s:Sy} {x:Nat→Int} (hg:GoodS s) (han:a+n≤1024) (hk:∀ f,a≤f→f < a+n→(s.K f=1∨s.K f=2)∧s.M f=false):TkS a n L s x (tkP a n L s x):=by
 unfold tkP
 cases hf:BN4 L a n with
 | none=>exact ⟨hg,rfl,fun p h=>h,fun p h=>absurd rfl h,fun p _=>rfl,fun h=>absurd h (by decide:¬ (5:Int)=0)⟩
 | some f =>
  obtain ⟨h1,h2,h3⟩:=BN3 hf
  obtain ⟨hkf,hmf⟩:=hk f h1 h2
  have hB:∀ (t:Sy) (p:Nat),(t.page f x).B p=if p=f then (fun j=>if j < 64 then x j else 0) else t.B p:=fun t p=>rfl
  dsimp only
  by_cases k1:s.K f=1
  ·rw [if_pos k1,Av2 (by omega) k1 hmf]
   by_cases hr:isR s.l s.C 2=true
   ·rw [if_pos hr,if_neg (show ¬ (60:Int)=0 by decide)]
    exact ⟨BE6 hg,rfl,fun p h=>h,fun p h=>absurd rfl h,fun p _=>rfl,fun h=>absurd h (by decide:¬ (60:Int)=0)⟩
   ·rw [if_neg hr,if_pos rfl]
    have hK:∀ p,((s.turn f 2 2).page f x).K p=if p=f then 2 else s.K p:=fun p=>rfl
    refine ⟨BM9 (BM8 hg (by omega) (by decide) k1 hmf) (by rw [AU7,if_pos rfl]),rfl,fun p h=>?_,fun p h=>?_,fun p hp=>?_,fun _=>⟨h1,h2,h3,?_,fun j hj=>?_⟩⟩
    ·show ((s.turn f 2 2).page f x).K p=2
     rw [hK];split<;>first|rfl|exact h
    ·have h:((s.turn f 2 2).page f x).K p ≠ s.K p:=h
     show _∧_∧_∧((s.turn f 2 2).page f x).K p=2
     rw [hK] at h ⊢
     by_cases e:p=f
     ·subst e;rw [if_pos rfl];exact ⟨h1,h2,k1,rfl⟩
     ·rw [if_neg e] at h;exact absurd rfl h
    ·show ((s.turn f 2 2).page f x).B p=s.B p
     rw [hB,if_neg (fun e=>by rw [e] at hp;omega),BI5,if_neg (fun e=>by rw [e] at hp;omega)]
    ·show ((s.turn f 2 2).page f x).K f=2
     rw [hK,if_pos rfl]
    ·show ((s.turn f 2 2).page f x).B f j=x j
     rw [hB,if_pos rfl];exact if_pos hj
  ·rw [if_neg k1]
   have k2:s.K f=2:=hkf.resolve_left k1
   refine ⟨BM9 hg k2,rfl,fun p h=>h,fun p h=>absurd rfl h,fun p hp=>?_,fun _=>⟨h1,h2,h3,k2,fun j hj=>?_⟩⟩
   ·show (s.page f x).B p=s.B p
    rw [hB,if_neg (fun e=>by rw [e] at hp;omega)]
   ·show (s.page f x).B f j=x j
    rw [hB,if_pos rfl];exact if_pos hj
end Go.Pol
namespace Go.Pol
open Go.Am Go.Proofs.YtphggldkligldaaGreat.Sh
theorem AT3 {L:List Vw} {f:Nat}:0 < cntF L f ↔ ∃ v ∈ L,v.2.2.1=f:=by
 unfold cntF
 rw [List.length_pos_iff_exists_mem]
 constructor
 ·rintro ⟨v,hv⟩
  rw [List.mem_filter] at hv
  exact ⟨v,hv.1,by simpa using hv.2⟩
 ·rintro ⟨v,hv,h⟩
  exact ⟨v,List.mem_filter.2 ⟨hv,by simpa using h⟩⟩
theorem Ae7:∀ {G:List Nat} {s:Sy},GoodS s→(∀ f ∈ G,f < 1024∧s.K f=2∧s.M f=false)→G.Nodup →
  GoodS (AI4 s G)∧(AI4 s G).G=s.G∧(∀ p,p ∉ G→(AI4 s G).K p=s.K p∧(AI4 s G).B p=s.B p)∧∀ p ∈ G,(AI4 s G).K p=1∨(AI4 s G).K p=2
 | [],s,hg,_,_=>⟨hg,rfl,fun p _=>⟨rfl,rfl⟩,fun p hp=>by cases hp⟩
 | f::G,s,hg,h,hn=>by
  obtain ⟨hf,hk,hm⟩:=h f (List.mem_cons_self ..)
  rw [List.nodup_cons] at hn
  show GoodS (AI4 (s.chg (f:Nat) 1 2 1 3).2 G)∧(AI4 (s.chg (f:Nat) 1 2 1 3).2 G).G=s.G∧(∀ p,p ∉ f::G→(AI4 (s.chg (f:Nat) 1 2 1 3).2 G).K p=s.K p∧(AI4 (s.chg (f:Nat) 1 2 1 3).2 G).B p=s.B p)∧∀ p ∈ f::G,(AI4 (s.chg (f:Nat) 1 2 1 3).2 G).K p=1∨(AI4 (s.chg (f:Nat) 1 2 1 3).2 G).K p=2
  rw [Av2 hf hk hm]
  split
  ·obtain ⟨i1,i2,i3,i4⟩:=Ae7 (G:=G) (s:=s.ref 3) (BE6 hg) (fun g hgm=>h g (List.mem_cons_of_mem _ hgm)) hn.2
   refine ⟨i1,i2,fun p hp=>i3 p fun hp2=>hp (List.mem_cons_of_mem _ hp2),fun p hp=>?_⟩
   rcases List.mem_cons.1 hp with rfl|hp
   ·exact .inr ((i3 p hn.1).1.trans hk)
   ·exact i4 p hp
  ·obtain ⟨i1,i2,i3,i4⟩:=Ae7 (G:=G) (s:=s.turn f 1 3) (BM8 hg hf (by decide) hk hm) (fun g hgm=>by
    obtain ⟨a1,a2,a3⟩:=h g (List.mem_cons_of_mem _ hgm)
    exact ⟨a1,by rw [AU7,if_neg (fun e:g=f=>hn.1 (e▸hgm))];exact a2,a3⟩) hn.2
   refine ⟨i1,i2,fun p hp=>?_,fun p hp=>?_⟩
   ·have hpf:p ≠ f:=fun e=>hp (e▸List.mem_cons_self ..)
    obtain ⟨j1,j2⟩:=i3 p fun hp2=>hp (List.mem_cons_of_mem _ hp2)
    exact ⟨j1.trans (by rw [AU7,if_neg hpf]),j2.trans (by rw [BI5,if_neg hpf])⟩
   ·rcases List.mem_cons.1 hp with rfl|hp
    ·exact .inl ((i3 p hn.1).1.trans (by rw [AU7,if_pos rfl]))
    ·exact i4 p hp
theorem An3 {L:List Vw} {a f:Nat}:f ∈ AF7 L a ↔ f < 1024∧(∃ v ∈ L,v.1=a∧v.2.2.1=f)∧cntF (noA a L) f=0:=by
 unfold AF7 AZ4 AS9
 rw [List.mem_filter,List.mem_range,BE1,List.take_length,Bool.and_eq_true,decide_eq_true_eq,decide_eq_true_eq]
 constructor
 ·rintro ⟨h1,h2,h3⟩
  obtain ⟨v,hv,e⟩:=List.mem_map.1 h2
  exact ⟨h1,⟨v,(R5.1 hv).1,(R5.1 hv).2,e⟩,h3⟩
 ·rintro ⟨h1,⟨v,hv,h2,h3⟩,h4⟩
  exact ⟨h1,List.mem_map.2 ⟨v,R5.2 ⟨hv,h2⟩,h3⟩,h4⟩
theorem Aj1 {L:List Vw} {a:Nat}:(AF7 L a).Nodup:=List.Nodup.sublist List.filter_sublist List.nodup_range
theorem mem_del {L:List Vw} {a k:Nat} {v:Vw}:v ∈ Aw4 L a k ↔ v ∈ L∧¬ atV (a,k) v:=by simp [Aw4]
theorem As1 {L:List Vw} {a:Nat} {v:Vw}:v ∈ noA a L ↔ v ∈ L∧v.1 ≠ a:=by simp [noA]
section
variable {b:Bk}
theorem K6.sys (h:K6 b) {L':List Vw} {s':Sy} (hg:GoodS s') (hG:s'.G=b.s.G) (hs:Go.Pol.srt L') (hok:∀ v ∈ L',v.1 < 64∧v.2.1 < 1024∧v.2.2.1 < 1024) (hl:L'.length≤2000)
  (hk:∀ f,b.a≤f→f < b.a+b.n→s'.K f=1∨s'.K f=2) (hu:∀ v ∈ L',b.a≤v.2.2.1∧v.2.2.1 < b.a+b.n∧s'.K v.2.2.1=2):K6 { b with L:=L',s:=s' } :=
 ⟨hg, h.rng, fun f h1 h2 => ⟨hk f h1 h2, by show s'.G (f / 16) = false; rw [hG]; exact (h.kind f h1 h2).2⟩, fun f hf => by
  obtain ⟨v,hv,rfl⟩:=AT3.1 hf
  exact hu v hv,hs,hok,hl⟩
theorem K6.view (h:K6 b) {v:Vw} (hv:v ∈ b.L):b.a≤v.2.2.1∧v.2.2.1 < b.a+b.n∧b.s.K v.2.2.1=2:=h.used _ (AT3.2 ⟨v,hv,rfl⟩)
theorem K6.tk (h:K6 b) (x:Nat→Int):TkS b.a b.n b.L b.s x (tkP b.a b.n b.L b.s x):=tk_spec (x:=x) (L:=b.L) h.good h.rng.2 h.kind
theorem K6.tkK (h:K6 b) (x:Nat→Int):∀ f,b.a≤f→f < b.a+b.n→(tkP b.a b.n b.L b.s x).2.2.K f=1∨(tkP b.a b.n b.L b.s x).2.2.K f=2:=fun f h1 h2=>by
 by_cases e:(tkP b.a b.n b.L b.s x).2.2.K f=b.s.K f
 ·rw [e];exact (h.kind f h1 h2).1
 ·exact .inr ((h.tk x).new f e).2.2.2
theorem BE9 (h:K6 b) (x k:Int):K6 (b.map x k).2:=by
 unfold Bk.map
 split
 ·exact h
 rename_i hin
 have hin:inR 64 x∧inR 1024 k:=Classical.not_not.1 hin
 split
 ·exact h
 rename_i hf
 split
 ·exact h
 rename_i hl
 have hn:=AL0 (L:=b.L) (a:=x.toNat) (k:=k.toNat) (by cases hq:AO1 b.L x.toNat k.toNat with
  | none=>rfl
  | some v=>rw [hq] at hf;exact absurd rfl hf)
 obtain ⟨t1,t2,t3,t4,t5,t6⟩:=h.tk fun _=>0
 split
 ·rename_i he
  obtain ⟨u1,u2,u3,u4,u5⟩:=t6 he
  have hr:=h.rng
  refine h.sys t1 t2 (BC0 h.sr hn) (fun v hv=>?_) (by rw [Ai5];omega) (h.tkK _) (fun v hv=>?_)
  ·rcases AV8.1 hv with rfl|hv
   ·have:=hin.1.1;have:=hin.1.2;have:=hin.2.1;have:=hin.2.2
    exact ⟨by show x.toNat < 64;omega,by show k.toNat < 1024;omega,by dsimp only;omega⟩
   ·exact h.ok v hv
  ·rcases AV8.1 hv with rfl|hv
   ·exact ⟨u1,u2,u4⟩
   ·obtain ⟨w1,w2,w3⟩:=h.view hv
    exact ⟨w1,w2,t3 _ w3⟩
 ·exact h.sys t1 t2 h.sr h.ok h.len (h.tkK _) fun v hv=>by
   obtain ⟨w1,w2,w3⟩:=h.view hv
   exact ⟨w1,w2,t3 _ w3⟩
theorem Az9 (h:K6 b) (x k:Int):K6 (b.unmap x k).2:=by
 unfold Bk.unmap
 split
 ·exact h
 cases hf:AO1 b.L x.toNat k.toNat with
 | none=>exact h
 | some v =>
  obtain ⟨hv,ha⟩:=AF8 hf
  obtain ⟨w1,w2,w3⟩:=h.view hv
  have hr:=h.rng
  have hd:∀ u ∈ Aw4 b.L x.toNat k.toNat,u ∈ b.L:=fun u hu=>(mem_del.1 hu).1
  dsimp only
  have hsr:srt (Aw4 b.L x.toNat k.toNat):=h.sr.sublist List.filter_sublist
  have hlen:(Aw4 b.L x.toNat k.toNat).length≤2000:=Nat.le_trans (List.length_filter_le ..) h.len
  by_cases h0:cntF (Aw4 b.L x.toNat k.toNat) v.2.2.1=0
  ·rw [if_pos h0]
   obtain ⟨g1,g2,g3,g4⟩:=Ae7 (G:=[v.2.2.1]) (s:=b.s) h.good (fun f hfm=>by
    rw [List.mem_singleton.1 hfm];exact ⟨by omega,w3,(h.kind _ w1 w2).2⟩) (by simp)
   refine h.sys g1 g2 hsr (fun u hu=>h.ok u (hd u hu)) hlen (fun f h1 h2=>?_) fun u hu=>?_
   ·by_cases e:f=v.2.2.1
    ·exact g4 f (by rw [e];simp)
    ·rw [(g3 f (by simpa using e)).1];exact (h.kind f h1 h2).1
   ·obtain ⟨y1,y2,y3⟩:=h.view (hd u hu)
    have hne:u.2.2.1 ∉ [v.2.2.1]:=fun e=>by
     have : 0 < cntF (Aw4 b.L x.toNat k.toNat) v.2.2.1:=AT3.2 ⟨u,hu,List.mem_singleton.1 e⟩
     omega
    exact ⟨y1,y2,by rw [(g3 _ hne).1];exact y3⟩
  ·rw [if_neg h0]
   exact h.sys h.good rfl hsr (fun u hu=>h.ok u (hd u hu)) hlen (fun f h1 h2=>(h.kind f h1 h2).1) fun u hu=>h.view (hd u hu)
theorem put_mem {y:Nat}:∀ {O M:List Vw} {v:Vw},v ∈ Ai1 y M O ↔ v ∈ M∨∃ u ∈ O,v=cpV y u
 | [],M,v=>by simp [Ai1]
 | w::O,M,v=>by
  show v ∈ Ai1 y (AZ2 (cpV y w) M) O ↔ _
  rw [put_mem,AV8]
  constructor
  ·rintro ((h|h) | ⟨u,hu,h⟩)
   ·exact .inr ⟨w,List.mem_cons_self ..,h⟩
   ·exact .inl h
   ·exact .inr ⟨u,List.mem_cons_of_mem _ hu,h⟩
  ·rintro (h | ⟨u,hu,h⟩)
   ·exact .inl (.inr h)
   ·rcases List.mem_cons.1 hu with rfl|hu
    ·exact .inl (.inl h)
    ·exact .inr ⟨u,hu,h⟩
theorem put_len {y:Nat}:∀ {O M:List Vw},(Ai1 y M O).length=M.length+O.length
 | [],_=>rfl
 | w::O,M=>by
  show (Ai1 y (AZ2 (cpV y w) M) O).length=_
  rw [put_len,Ai5,List.length_cons];omega
theorem put_srt {y:Nat}:∀ {O M:List Vw},srt M→(∀ u ∈ O,∀ v ∈ M,¬ atV (y,u.2.1) v)→O.Pairwise (fun u v=>u.2.1 ≠ v.2.1)→srt (Ai1 y M O)
 | [],_,h,_,_=>h
 | w::O,M,h,hn,hp=>by
  rw [List.pairwise_cons] at hp
  refine put_srt (O:=O) (M:=AZ2 (cpV y w) M) (BC0 (v:=cpV y w) h (hn w (List.mem_cons_self ..))) (fun u hu v hv=>?_) hp.2
  rcases AV8.1 hv with rfl|hv
  ·exact fun e=>hp.1 u hu e.2
  ·exact hn u (List.mem_cons_of_mem _ hu) v hv
theorem frk_mem {x y:Nat} {L:List Vw} {v:Vw}:v ∈ frkL x y L ↔ (∃ u ∈ L,v=wnV x u)∨∃ u ∈ L,u.1=x∧v=cpV y u:=by
 unfold frkL
 rw [put_mem,List.mem_map]
 constructor
 ·rintro (⟨u,hu,h⟩ | ⟨u,hu,h⟩)
  ·exact .inl ⟨u,hu,h.symm⟩
  ·exact .inr ⟨u,(R5.1 hu).1,(R5.1 hu).2,h⟩
 ·rintro (⟨u,hu,h⟩ | ⟨u,hu,h1,h⟩)
  ·exact .inl ⟨u,hu,h.symm⟩
  ·exact .inr ⟨u,R5.2 ⟨hu,h1⟩,h⟩
theorem frk_len {x y:Nat} {L:List Vw}:(frkL x y L).length=L.length+(ofA x L).length:=by unfold frkL;rw [put_len,List.length_map]
theorem frk_srt {x y:Nat} {L:List Vw} (hs:srt L) (hy:ofA y L=[]):srt (frkL x y L):=by
 have hm:srt (L.map (wnV x)):=by
  refine List.pairwise_map.2 (hs.imp fun h=>?_)
  exact h
 refine put_srt hm (fun u hu v hv e=>?_) ?_
 ·obtain ⟨w,hw,rfl⟩:=List.mem_map.1 hv
  have : w ∈ ofA y L:=R5.2 ⟨hw,e.1⟩
  rw [hy] at this;cases this
 ·have h1:(ofA x L).Pairwise bef:=hs.sublist List.filter_sublist
  have h2:∀ {O:List Vw},(∀ v ∈ O,v.1=x)→O.Pairwise bef→O.Pairwise fun u v=>u.2.1 ≠ v.2.1:=fun {O}=>by
   induction O with
   | nil=>exact fun _ _=>.nil
   | cons w O ih =>
    intro hx hp
    rw [List.pairwise_cons] at hp ⊢
    refine ⟨fun v hv e=>?_,ih (fun v hv=>hx v (List.mem_cons_of_mem _ hv)) hp.2⟩
    have h3:=hp.1 v hv
    have h4:=hx w (List.mem_cons_self ..)
    have h5:=hx v (List.mem_cons_of_mem _ hv)
    unfold bef at h3;omega
  exact h2 (fun v hv=>(R5.1 hv).2) h1
theorem An5 {L:List Vw} {x y:Nat} {p:Vw→Prop} (hp:∀ v ∈ L,p v) (h1:∀ v,p v→p (wnV x v)) (h2:∀ v,p v→p (cpV y v)):∀ v ∈ frkL x y L,p v:=fun v hv=>by
 rcases frk_mem.1 hv with ⟨u,hu,rfl⟩ | ⟨u,hu,_,rfl⟩
 ·exact h1 u (hp u hu)
 ·exact h2 u (hp u hu)
theorem Ae4 (h:K6 b) (x y:Int):K6 (b.take x y).2.2:=by
 unfold Bk.take
 split
 ·exact h
 rename_i hin
 have hin:inR 64 x∧inR 64 y:=Classical.not_not.1 hin
 split
 ·exact h
 split
 ·exact h
 rename_i h8
 split
 ·exact h
 rename_i h5
 have hy:ofA y.toNat b.L=[]:=List.eq_nil_of_length_eq_zero (by omega)
 have hy2:y.toNat < 64:=by have:=hin.2.1;have:=hin.2.2;omega
 exact h.sys h.good rfl (frk_srt h.sr hy) (An5 (fun v hv=>h.ok v hv) (fun v hv=>hv) fun v hv=>⟨hy2,hv.2⟩) (by rw [frk_len];omega) (fun f h1 h2=>(h.kind f h1 h2).1) (An5 (fun v hv=>h.view hv) (fun v hv=>hv) fun v hv=>hv)
theorem BV6 (h:K6 b) (x:Nat):∀ f ∈ AF7 b.L x,f < 1024∧b.s.K f=2∧b.s.M f=false:=fun f hf=>by
 obtain ⟨h1,⟨v,hv,h2,h3⟩,h4⟩:=An3.1 hf
 obtain ⟨w1,w2,w3⟩:=h.view hv
 rw [h3] at w1 w2 w3
 exact ⟨h1,w3,(h.kind f w1 w2).2⟩
theorem BN0 (h:K6 b) (x:Nat) {L':List Vw} (hs:srt L') (hok:∀ v ∈ L',v.1 < 64∧v.2.1 < 1024∧v.2.2.1 < 1024) (hl:L'.length≤2000) (hu:∀ v ∈ L',∃ u ∈ noA x b.L,v.2.2.1=u.2.2.1):K6 { b with L:=L',s:=AI4 b.s (AF7 b.L x) }:=by
 obtain ⟨g1,g2,g3,g4⟩:=Ae7 h.good (BV6 h x) Aj1
 refine h.sys g1 g2 hs hok hl (fun f h1 h2=>?_) fun v hv=>?_
 ·by_cases e:f ∈ AF7 b.L x
  ·exact g4 f e
  ·rw [(g3 f e).1];exact (h.kind f h1 h2).1
 ·obtain ⟨u,hu,e⟩:=hu v hv
  obtain ⟨y1,y2,y3⟩:=h.view (As1.1 hu).1
  rw [e]
  refine ⟨y1,y2,?_⟩
  rw [(g3 _ fun hg=>?_).1]
  ·exact y3
  ·have:=(An3.1 hg).2.2
   have : 0 < cntF (noA x b.L) u.2.2.1:=AT3.2 ⟨u,hu,rfl⟩
   omega
theorem BU1 {L:List Vw} {a:Nat}:(noA a L).length+(ofA a L).length=L.length:=by
 induction L with
 | nil=>rfl
 | cons v L ih =>
  unfold noA ofA at *
  by_cases e:v.1=a
  ·simp [List.filter_cons,e] at *;omega
  ·simp [List.filter_cons,e] at *;omega
theorem Ae5 (h:K6 b) (x:Int):K6 (b.drop x).2.2:=by
 unfold Bk.drop
 split
 ·exact h
 exact BN0 h x.toNat (h.sr.sublist List.filter_sublist) (fun v hv=>h.ok v (As1.1 hv).1) (Nat.le_trans (List.length_filter_le ..) h.len) fun v hv=>⟨v,hv,rfl⟩
theorem BU0 {L:List Vw} {x y:Nat} (h:y ≠ x):ofA y (noA x L)=ofA y L:=by
 unfold ofA noA
 rw [List.filter_filter]
 refine List.filter_congr fun v _=>?_
 by_cases e:v.1=y
 ·simp [e,h]
 ·simp [e]
theorem Am6 {L:List Vw} {x:Nat}:ofA x (noA x L)=[]:=by
 unfold ofA noA
 rw [List.filter_filter,List.filter_eq_nil_iff]
 intro v _;simp
theorem At6 (h:K6 b) (x y:Int):K6 (b.revert x y).2.2:=by
 unfold Bk.revert
 split
 ·exact h
 rename_i hin
 have hin:inR 64 x∧inR 64 y:=Classical.not_not.1 hin
 split
 ·exact h
 rename_i hxy
 split
 ·exact h
 rename_i h5
 have hx0:=hin.1.1;have hx1:=hin.1.2;have hy0:=hin.2.1;have hy1:=hin.2.2
 have hne:y.toNat ≠ x.toNat:=by omega
 have hl:=BU1 (L:=b.L) (a:=x.toNat)
 have hs:srt (noA x.toNat b.L):=h.sr.sublist List.filter_sublist
 refine BN0 h x.toNat (frk_srt hs Am6) (An5 (fun v hv=>h.ok v (As1.1 hv).1) (fun v hv=>hv) fun v hv=>⟨by show x.toNat < 64;omega,hv.2⟩) (by rw [frk_len,BU0 hne];omega) ?_
 exact An5 (fun v hv=>⟨v,hv,rfl⟩) (fun v hv=>hv) fun v hv=>hv
theorem Ah4 {g:Vw→Vw} {a k:Nat} {L:List Vw} {v:Vw}:v ∈ AR5 g a k L ↔ ∃ u ∈ L,v=if atV (a,k) u then g u else u:=by
 unfold AR5;rw [List.mem_map]
 exact ⟨fun ⟨u,hu,e⟩=>⟨u,hu,e.symm⟩,fun ⟨u,hu,e⟩=>⟨u,hu,e.symm⟩⟩
theorem BC2 {g:Vw→Vw} {a k:Nat} {L:List Vw} (hg:∀ v,(g v).1=v.1∧(g v).2.1=v.2.1) (h:srt L):srt (AR5 g a k L):=by
 unfold AR5
 refine List.pairwise_map.2 (h.imp fun {u v} huv=>?_)
 have e:∀ w:Vw,(if atV (a,k) w then g w else w).1=w.1∧(if atV (a,k) w then g w else w).2.1=w.2.1:=fun w=>by
  split
  ·exact hg w
  ·exact ⟨rfl,rfl⟩
 unfold bef at huv ⊢
 rw [(e u).1,(e u).2,(e v).1,(e v).2];exact huv
theorem BE7 (h:K6 b) (x t v:Int):K6 (b.put x t v).2:=by
 unfold Bk.put
 split
 ·have hK:∀ p,(b.s.write (b.where_ x t true).1 v).2.K p=b.s.K p:=fun p=>by
   unfold Sy.write;split
   ·rfl
   ·split<;>rfl
  have hG:(b.s.write (b.where_ x t true).1 v).2.G=b.s.G:=by
   unfold Sy.write;split
   ·rfl
   ·split<;>rfl
  exact h.sys (good_write h.good) hG h.sr h.ok h.len (fun f h1 h2=>by rw [hK];exact (h.kind f h1 h2).1) fun v hv=>by rw [hK];exact h.view hv
 ·exact h
theorem AN3 (h:K6 b) (x t v:Int):K6 (b.write x t v).2:=by
 unfold Bk.write
 split
 ·exact h
 rename_i hin
 have hin:inR 64 x∧inR 65536 t:=Classical.not_not.1 hin
 cases hf:AO1 b.L x.toNat (t.toNat / 64) with
 | none=>exact h
 | some u =>
  dsimp only
  split
  ·exact BE7 h x t v
  ·split
   ·refine BE7 (b:={ b with L:=AR5 (prV true) x.toNat (t.toNat / 64) b.L }) ?_ x t v
    refine h.sys h.good rfl (BC2 (fun v=>⟨rfl,rfl⟩) h.sr) (fun w hw=>?_) (by unfold AR5;rw [List.length_map];exact h.len) (fun f h1 h2=>(h.kind f h1 h2).1) fun w hw=>?_
    ·obtain ⟨y,hy,rfl⟩:=Ah4.1 hw
     split
     ·exact h.ok y hy
     ·exact h.ok y hy
    ·obtain ⟨y,hy,rfl⟩:=Ah4.1 hw
     have hv:=h.view hy
     split
     ·exact hv
     ·exact hv
   ·have tk:=h.tk (b.s.B u.2.2.1)
    split
    ·rename_i he
     obtain ⟨u1,u2,u3,u4,u5⟩:=tk.got he
     have hr:=h.rng
     refine BE7 (b:={ b with L:=AR5 (frV _) x.toNat (t.toNat / 64) b.L,s:=_ }) ?_ x t v
     refine h.sys tk.good tk.G (BC2 (fun v=>⟨rfl,rfl⟩) h.sr) (fun w hw=>?_) (by unfold AR5;rw [List.length_map];exact h.len) (h.tkK _) fun w hw=>?_
     ·obtain ⟨y,hy,rfl⟩:=Ah4.1 hw
      have:=h.ok y hy
      split
      ·exact ⟨this.1,this.2.1,by show (tkP b.a b.n b.L b.s (b.s.B u.2.2.1)).2.1 < 1024;omega⟩
      ·exact this
     ·obtain ⟨y,hy,rfl⟩:=Ah4.1 hw
      split
      ·exact ⟨u1,u2,u4⟩
      ·obtain ⟨w1,w2,w3⟩:=h.view hy
       exact ⟨w1,w2,tk.up _ w3⟩
    ·exact h.sys tk.good tk.G h.sr h.ok h.len (h.tkK _) fun v hv=>by
      obtain ⟨w1,w2,w3⟩:=h.view hv
      exact ⟨w1,w2,tk.up _ w3⟩
end
end Go.Pol
