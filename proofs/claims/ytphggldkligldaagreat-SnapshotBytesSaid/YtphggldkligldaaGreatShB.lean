/-
 The memory of a pool.
 Looks of a pool.
 tie,untie,least.
 Push,After,Take.
 The calls of a pool,told of lists of slots.
 New.
 New and calls within drawing regions,in any store.
-/
import Derived.Test.YtphggldkligldaaGreatShA
set_option linter.unusedSimpArgs false
set_option linter.unusedVariables false
set_option maxHeartbeats 4000000
namespace Go.Proofs.YtphggldkligldaaGreat.Sh
open Go Go.Am Go.Pol
def z0:PV:=⟨.int .i64 0,A8⟩
def w0:PV:=⟨.int .i64 0,A8⟩
def b0:PV:=⟨.bool false,A9⟩
def sel (V W V3 V4:Nat→PV) (L N P:Nat→Int) (k:Nat):AV:=if k % 7=0 then (V (k / 7)).1 else if k % 7=1 then (W (k / 7)).1 else if k % 7=2 then (V3 (k / 7)).1 else if k % 7=3 then (V4 (k / 7)).1 else if k % 7=4 then .int .i64 (L (k / 7)) else if k % 7=5 then .int .i64 (N (k / 7)) else .int .i64 (P (k / 7))
def C9 (n:Nat) (V W V3 V4:Nat→PV) (L N P:Nat→Int):List AV:=BX5 (n * 7) (sel V W V3 V4 L N P)
theorem AA1 {v w v3 v4:PV}:Plain (.agg [v.1,w.1,v3.1,v4.1]):=K8 fun x hx=>by
 simp only [List.mem_cons,List.not_mem_nil,or_false] at hx
 rcases hx with rfl|rfl|rfl|rfl
 ·exact v.2
 ·exact w.2
 ·exact v3.2
 ·exact v4.2
theorem Aq1:Plain (.agg [.int .i64 0,.int .i64 0,.int .i64 0,.bool false]):=K8 fun x hx=>by
 simp only [List.mem_cons,List.not_mem_nil,or_false] at hx
 rcases hx with rfl|rfl|rfl|rfl<;>first|exact A8|exact A9
section
variable {n m:Nat} {V W V3 V4:Nat→PV} {L N P A B C:Nat→Int} {s:Nat}
theorem D8:(C9 n V W V3 V4 L N P).length=n * 7:=memV_len ..
theorem F5:∀ x ∈ C9 n V W V3 V4 L N P,Plain x:=BV2 fun i=>by
 unfold sel
 repeat' split
 all_goals first|exact AM3|exact A8
theorem gc0 (h:s < n):(C9 n V W V3 V4 L N P)[s * 7]? = some ((V s).1):=by rw [C9,AH2 (by omega)];unfold sel;rw [if_pos (by omega),show (s * 7) / 7=s by omega]
theorem gc0b (h:s < n):(C9 n V W V3 V4 L N P)[s * 7+1]? = some ((W s).1):=by rw [C9,AH2 (by omega)];unfold sel;rw [if_neg (by omega),if_pos (by omega),show (s * 7+1) / 7=s by omega]
theorem gc0c (h:s < n):(C9 n V W V3 V4 L N P)[s * 7+2]? = some ((V3 s).1):=by rw [C9,AH2 (by omega)];unfold sel;rw [if_neg (by omega),if_neg (by omega),if_pos (by omega),show (s * 7+2) / 7=s by omega]
theorem gc0d (h:s < n):(C9 n V W V3 V4 L N P)[s * 7+3]? = some ((V4 s).1):=by rw [C9,AH2 (by omega)];unfold sel;rw [if_neg (by omega),if_neg (by omega),if_neg (by omega),if_pos (by omega),show (s * 7+3) / 7=s by omega]
theorem gc1 (h:s < n):(C9 n V W V3 V4 L N P)[s * 7+4]? = some (.int .i64 (L s)):=by rw [C9,AH2 (by omega)];unfold sel;rw [if_neg (by omega),if_neg (by omega),if_neg (by omega),if_neg (by omega),if_pos (by omega),show (s * 7+4) / 7=s by omega]
theorem gc2 (h:s < n):(C9 n V W V3 V4 L N P)[s * 7+5]? = some (.int .i64 (N s)):=by rw [C9,AH2 (by omega)];unfold sel;rw [if_neg (by omega),if_neg (by omega),if_neg (by omega),if_neg (by omega),if_neg (by omega),if_pos (by omega),show (s * 7+5) / 7=s by omega]
theorem gc3 (h:s < n):(C9 n V W V3 V4 L N P)[s * 7+6]? = some (.int .i64 (P s)):=by rw [C9,AH2 (by omega)];unfold sel;rw [if_neg (by omega),if_neg (by omega),if_neg (by omega),if_neg (by omega),if_neg (by omega),if_neg (by omega),show (s * 7+6) / 7=s by omega]
theorem sc0 {v:PV}:(C9 n V W V3 V4 L N P).set (s * 7) (v.1)=C9 n (I6 V s v) W V3 V4 L N P:=by
 rw [C9,AA5,C9];refine U6 fun k hk=>?_
 have hd:k=k / 7 * 7+k % 7:=by omega
 have hm:k % 7=0∨k % 7=1∨k % 7=2∨k % 7=3∨k % 7=4∨k % 7=5∨k % 7=6:=by omega
 unfold sel
 rcases hm with h|h|h|h|h|h|h
 all_goals (by_cases e:k / 7=s)
 all_goals simp [I6,J9,h,e,z0,w0,b0]
 all_goals omega
theorem sc0z:(C9 n V W V3 V4 L N P).set (s * 7) (z0.1)=C9 n (I6 V s z0) W V3 V4 L N P:=by
 rw [C9,AA5,C9];refine U6 fun k hk=>?_
 have hd:k=k / 7 * 7+k % 7:=by omega
 have hm:k % 7=0∨k % 7=1∨k % 7=2∨k % 7=3∨k % 7=4∨k % 7=5∨k % 7=6:=by omega
 unfold sel
 rcases hm with h|h|h|h|h|h|h
 all_goals (by_cases e:k / 7=s)
 all_goals simp [I6,J9,h,e,z0,w0,b0]
 all_goals omega
theorem sc0b {v:PV}:(C9 n V W V3 V4 L N P).set (s * 7+1) (v.1)=C9 n V (I6 W s v) V3 V4 L N P:=by
 rw [C9,AA5,C9];refine U6 fun k hk=>?_
 have hd:k=k / 7 * 7+k % 7:=by omega
 have hm:k % 7=0∨k % 7=1∨k % 7=2∨k % 7=3∨k % 7=4∨k % 7=5∨k % 7=6:=by omega
 unfold sel
 rcases hm with h|h|h|h|h|h|h
 all_goals (by_cases e:k / 7=s)
 all_goals simp [I6,J9,h,e,z0,w0,b0]
 all_goals omega
theorem sc0bz:(C9 n V W V3 V4 L N P).set (s * 7+1) (w0.1)=C9 n V (I6 W s w0) V3 V4 L N P:=by
 rw [C9,AA5,C9];refine U6 fun k hk=>?_
 have hd:k=k / 7 * 7+k % 7:=by omega
 have hm:k % 7=0∨k % 7=1∨k % 7=2∨k % 7=3∨k % 7=4∨k % 7=5∨k % 7=6:=by omega
 unfold sel
 rcases hm with h|h|h|h|h|h|h
 all_goals (by_cases e:k / 7=s)
 all_goals simp [I6,J9,h,e,z0,w0,b0]
 all_goals omega
theorem sc0c {v:PV}:(C9 n V W V3 V4 L N P).set (s * 7+2) (v.1)=C9 n V W (I6 V3 s v) V4 L N P:=by
 rw [C9,AA5,C9];refine U6 fun k hk=>?_
 have hd:k=k / 7 * 7+k % 7:=by omega
 have hm:k % 7=0∨k % 7=1∨k % 7=2∨k % 7=3∨k % 7=4∨k % 7=5∨k % 7=6:=by omega
 unfold sel
 rcases hm with h|h|h|h|h|h|h
 all_goals (by_cases e:k / 7=s)
 all_goals simp [I6,J9,h,e,z0,w0,b0]
 all_goals omega
theorem sc0cz:(C9 n V W V3 V4 L N P).set (s * 7+2) (w0.1)=C9 n V W (I6 V3 s w0) V4 L N P:=by
 rw [C9,AA5,C9];refine U6 fun k hk=>?_
 have hd:k=k / 7 * 7+k % 7:=by omega
 have hm:k % 7=0∨k % 7=1∨k % 7=2∨k % 7=3∨k % 7=4∨k % 7=5∨k % 7=6:=by omega
 unfold sel
 rcases hm with h|h|h|h|h|h|h
 all_goals (by_cases e:k / 7=s)
 all_goals simp [I6,J9,h,e,z0,w0,b0]
 all_goals omega
theorem sc0d {v:PV}:(C9 n V W V3 V4 L N P).set (s * 7+3) (v.1)=C9 n V W V3 (I6 V4 s v) L N P:=by
 rw [C9,AA5,C9];refine U6 fun k hk=>?_
 have hd:k=k / 7 * 7+k % 7:=by omega
 have hm:k % 7=0∨k % 7=1∨k % 7=2∨k % 7=3∨k % 7=4∨k % 7=5∨k % 7=6:=by omega
 unfold sel
 rcases hm with h|h|h|h|h|h|h
 all_goals (by_cases e:k / 7=s)
 all_goals simp [I6,J9,h,e,z0,w0,b0]
 all_goals omega
theorem sc0dz:(C9 n V W V3 V4 L N P).set (s * 7+3) (b0.1)=C9 n V W V3 (I6 V4 s b0) L N P:=by
 rw [C9,AA5,C9];refine U6 fun k hk=>?_
 have hd:k=k / 7 * 7+k % 7:=by omega
 have hm:k % 7=0∨k % 7=1∨k % 7=2∨k % 7=3∨k % 7=4∨k % 7=5∨k % 7=6:=by omega
 unfold sel
 rcases hm with h|h|h|h|h|h|h
 all_goals (by_cases e:k / 7=s)
 all_goals simp [I6,J9,h,e,z0,w0,b0]
 all_goals omega
theorem sc1 {v:Int}:(C9 n V W V3 V4 L N P).set (s * 7+4) (.int .i64 v)=C9 n V W V3 V4 (J9 L s v) N P:=by
 rw [C9,AA5,C9];refine U6 fun k hk=>?_
 have hd:k=k / 7 * 7+k % 7:=by omega
 have hm:k % 7=0∨k % 7=1∨k % 7=2∨k % 7=3∨k % 7=4∨k % 7=5∨k % 7=6:=by omega
 unfold sel
 rcases hm with h|h|h|h|h|h|h
 all_goals (by_cases e:k / 7=s)
 all_goals simp [I6,J9,h,e,z0,w0,b0]
 all_goals omega
theorem sc2 {v:Int}:(C9 n V W V3 V4 L N P).set (s * 7+5) (.int .i64 v)=C9 n V W V3 V4 L (J9 N s v) P:=by
 rw [C9,AA5,C9];refine U6 fun k hk=>?_
 have hd:k=k / 7 * 7+k % 7:=by omega
 have hm:k % 7=0∨k % 7=1∨k % 7=2∨k % 7=3∨k % 7=4∨k % 7=5∨k % 7=6:=by omega
 unfold sel
 rcases hm with h|h|h|h|h|h|h
 all_goals (by_cases e:k / 7=s)
 all_goals simp [I6,J9,h,e,z0,w0,b0]
 all_goals omega
theorem sc3 {v:Int}:(C9 n V W V3 V4 L N P).set (s * 7+6) (.int .i64 v)=C9 n V W V3 V4 L N (J9 P s v):=by
 rw [C9,AA5,C9];refine U6 fun k hk=>?_
 have hd:k=k / 7 * 7+k % 7:=by omega
 have hm:k % 7=0∨k % 7=1∨k % 7=2∨k % 7=3∨k % 7=4∨k % 7=5∨k % 7=6:=by omega
 unfold sel
 rcases hm with h|h|h|h|h|h|h
 all_goals (by_cases e:k / 7=s)
 all_goals simp [I6,J9,h,e,z0,w0,b0]
 all_goals omega
def O9 (n m:Nat) (fr:Int) (V W V3 V4:Nat→PV) (L N P A B C:Nat→Int):List (Nat × AObj):=[(0,.cells [.sl 1 0 n n 7,.sl 2 0 m m 3,.int .i64 fr]),(1,.cells (C9 n V W V3 V4 L N P)),(2,.cells (J5 m A B C))]
theorem tkV (h:s < n):((C9 n V W V3 V4 L N P).drop (s * 7)).take 4=[(V s).1,(W s).1,(V3 s).1,(V4 s).1]:=by
 refine List.ext_getElem? fun j=>?_
 rw [List.getElem?_take,List.getElem?_drop]
 match j with
 | 0=>exact gc0 h
 | 1=>exact gc0b h
 | 2=>exact gc0c h
 | 3=>exact gc0d h
 | j+4=>rw [if_neg (by omega)];rfl
end
end Go.Proofs.YtphggldkligldaaGreat.Sh
namespace Go.Proofs.YtphggldkligldaaGreat.Sh
open Go Go.Am Go.Pol
theorem wx_Mb {p q:Prop} (hq:q) (h:X5 q→p:=by (intro hQz;((repeat' ((try (conv=>whnf));first|refine sxA ?_|refine p9 (by rw [D8];omega) rfl (p8 (by rw [List.length_drop,D8];omega) (tkV hs) ?_)|refine D7 (by rw [D8];omega) sc0 ?_|refine D7 (by rw [D8];omega) sc0b ?_|refine D7 (by rw [D8];omega) sc0c ?_|refine D7 (by rw [D8];omega) sc0d ?_|refine D7 (by rw [D8];omega) sc0z ?_|refine D7 (by rw [D8];omega) sc0bz ?_|refine D7 (by rw [D8];omega) sc0cz ?_|refine D7 (by rw [D8];omega) sc0dz ?_|refine G5 (h2) ?_|refine G5 (h1) ?_|refine G5 (h0) ?_|refine G5 (h3) ?_|refine sxF ?_|refine V5 hu rfl rfl rfl (by decide) (by first|(simp [A8,AM3,Ab2,AA1];done)|fail) A8 rfl ?_|(refine X4 E9 b189 rfl ?_;unfold c189)|(refine X4 E9 b174 rfl ?_;unfold c174)|refine sxH ?_|((with_reducible first|apply N9 hQz|apply O1 hQz)<;>(try intro hsp hQz))|exact hQz.out))<;>(try (conv=>whnf))))):p:=h ⟨hq⟩
section
variable {n m:Nat} {fr:Int} {V W V3 V4:Nat→PV} {L N P A B C:Nat→Int}
theorem BN2 {n m:Nat} {fr:Int} {V W V3 V4:Nat→PV} {L N P A B C:Nat→Int} {h:Hp} (h0:∃ o,lk h.l 0=some o) (h1:∃ o,lk h.l 1=some o) (h2:∃ o,lk h.l 2=some o):AI3 (rn []) h ⟨O9 n m fr V W V3 V4 L N P A B C,3⟩:=fun i o hi=>by
 simp only [O9,lk] at hi
 show ∃ o',lk h.l i=some o'
 split at hi
 ·rename_i e;subst e;exact h0
 ·split at hi
  ·rename_i e;subst e;exact h1
  ·split at hi
   ·rename_i e;subst e;exact h2
   ·cases hi
theorem I8 {top:Bool} {h:Hp} {N0:Nat} {x r:AV} {fr':Int} (hr:WkV Tryz.prog (rn []) h ⟨O9 n m fr V W V3 V4 L N P A B C,3⟩ x r) (h0:lk h.l 0=some (.cells [.sl 1 0 n n 7,.sl 2 0 m m 3,.int .i64 fr'])) (h1:lk h.l 1=some (.cells (C9 n V W V3 V4 L N P))) (h2:lk h.l 2=some (.cells (J5 m A B C))) (e:fr'=fr:=by rfl) (hN0:N0≤3:=by decide) :
  AR3 top Tryz.prog N0 h x (fun r' h'=>r'=r∧h'=⟨O9 n m fr V W V3 V4 L N P A B C,3⟩):=by
 subst e
 have hs:AI3 (rn []) h ⟨O9 n m fr' V W V3 V4 L N P A B C,3⟩:=fun i o hi=>by
  simp only [O9,lk] at hi
  show ∃ o',lk h.l i=some o'
  split at hi
  ·rename_i e;subst e;exact ⟨_,h0⟩
  ·split at hi
   ·rename_i e;subst e;exact ⟨_,h1⟩
   ·split at hi
    ·rename_i e;subst e;exact ⟨_,h2⟩
    ·cases hi
 exact j6 [] rfl hN0 (L6 rfl) hr (J3 (show 0 < 3 by decide) h0 (D5 (j4 rfl (show 1 < 3 by decide) rfl (Nat.le_refl _) (Nat.le_refl _)) (D5 (j4 rfl (show 2 < 3 by decide) rfl (Nat.le_refl _) (Nat.le_refl _)) (D5 (L8 rfl) J4)))
  (E8 hs (show 1 < 3 by decide) h1 rfl F5 (E8 hs (show 2 < 3 by decide) h2 rfl F8 J6))) ⟨rfl,rfl⟩
theorem V5 {f:Nat} {avs:List AV} {fr':Int} {V' W' V3' V4':Nat→PV} {L' N' P' A' B' C':Nat→Int} {a b c nx:Nat} {l:List (Nat × AObj)} {r:AV} {K:AV→Hp→Prop} (hc:AE1 f avs n m (O9 n m fr V W V3 V4 L N P A B C) r (O9 n m fr' V' W' V3' V4' L' N' P' A' B' C'))
  (hl0:lk l a=some (.cells [.sl b 0 n n 7,.sl c 0 m m 3,.int .i64 fr])) (hl1:lk l b=some (.cells (C9 n V W V3 V4 L N P))) (hl2:lk l c=some (.cells (J5 m A B C))) (hlt:a < nx∧b < nx∧c < nx)
  (ha:∀ x ∈ avs,Plain x) (hr:Plain r) (hd:AY6 [a,b,c]=true)
  (hk:AG1 [a,b,c] l fun l2=>K r ⟨[(a,.cells [.sl b 0 n n 7,.sl c 0 m m 3,.int .i64 fr']),(b,.cells (C9 n V' W' V3' V4' L' N' P')),(c,.cells (J5 m A' B' C'))]++l2,nx⟩):AB8 Tryz.prog G0 (.fn f [] []) (.ptr a 0::avs) ⟨l,nx⟩ K:=by
 have e0:enter [a,b,c] a 0:=rfl
 have e1:enter [a,b,c] b 1:=rfl
 have e2:enter [a,b,c] c 2:=rfl
 have k0:back [a,b,c] nx 0 a:=rfl
 have k1:back [a,b,c] nx 1 b:=rfl
 have k2:back [a,b,c] nx 2 c:=rfl
 refine AA9 (l1:=[(a,.cells [.sl b 0 n n 7,.sl c 0 m m 3,.int .i64 fr']),(b,.cells (C9 n V' W' V3' V4' L' N' P')),(c,.cells (J5 m A' B' C'))]) [a,b,c] hc.out I7 hd
  (.cons e0 hl0 ⟨J7 e1,J7 e2,D6 A8,trivial⟩ (.cons e1 hl1 (C8 F5) (.cons e2 hl2 (C8 F8) .nil)))
  ?_ (by intro x hx;simp only [List.mem_cons,List.not_mem_nil,or_false] at hx;omega) (D6 hr)
  (.cons k0 ⟨J7 k1,J7 k2,D6 A8,trivial⟩ (.cons k1 (C8 F5) (.cons k2 (C8 F8) .nil))) hk
 simp only [List.nil_append,List.append_nil]
 exact ⟨H8 e0,C8 ha⟩
theorem Az2 (s:Nat) (hs:s < n) (hl:L s ≠ -1):AE1 175 [.int .i64 (s:Nat)] n m (O9 n m fr V W V3 V4 L N P A B C) (.int .i64 0) (O9 n m fr V W V3 V4 L N P A B C):=by
 refine AE1.mk (D9 E9 b175 rfl ?_)
 unfold c175
 have h1:=gc1 (V:=V) (W:=W) (V3:=V3) (V4:=V4) (L:=L) (N:=N) (P:=P) hs
 (refine wx_Mb ?_;repeat' (first|with_reducible refine And.intro ?_ ?_|intro hsp))
 exact I8 (L8 rfl) rfl rfl rfl
theorem l_has (i:Nat) (hn:0 < n) (hi:i < m):AE1 172 [.int .i64 (i:Nat)] n m (O9 n m fr V W V3 V4 L N P A B C) (.int .i64 0) (O9 n m fr V W V3 V4 L N P A B C):=by
 refine AE1.mk (D9 E9 b172 rfl ?_)
 unfold c172
 (refine wx_Mb ?_;repeat' (first|with_reducible refine And.intro ?_ ?_|intro hsp))
 all_goals exact I8 (L8 rfl) rfl rfl rfl
theorem l_get (s:Nat) (hs:s < n) (hl:L s ≠ -1):AE1 149 [.int .i64 (s:Nat)] n m (O9 n m fr V W V3 V4 L N P A B C) (.tup [.agg [(V s).1,(W s).1,(V3 s).1,(V4 s).1],.int .i64 0]) (O9 n m fr V W V3 V4 L N P A B C):=by
 refine AE1.mk (D9 E9 b149 rfl ?_)
 unfold c149
 have h0:=gc0 (V:=V) (W:=W) (V3:=V3) (V4:=V4) (L:=L) (N:=N) (P:=P) hs
 have hu:=Az2 (m:=m) (fr:=fr) (V:=V) (W:=W) (V3:=V3) (V4:=V4) (N:=N) (P:=P) (A:=A) (B:=B) (C:=C) s hs hl
 (refine wx_Mb ?_;repeat' (first|with_reducible refine And.intro ?_ ?_|intro hsp))
 exact I8 (AI5 (D5 (K5 (BN2 ⟨_,rfl⟩ ⟨_,rfl⟩ ⟨_,rfl⟩) (by first|exact AA1|exact Aq1|fail)) (D5 (L8 rfl) J4))) rfl rfl rfl
theorem l_put (s:Nat) (v w v3 v4:PV) (hs:s < n) (hl:L s ≠ -1):AE1 146 [.int .i64 (s:Nat),.agg [v.1,w.1,v3.1,v4.1]] n m (O9 n m fr V W V3 V4 L N P A B C) (.int .i64 0) (O9 n m fr (I6 V s v) (I6 W s w) (I6 V3 s v3) (I6 V4 s v4) L N P A B C):=by
 refine AE1.mk (D9 E9 b146 rfl ?_)
 unfold c146
 have h0:=gc0 (V:=V) (W:=W) (V3:=V3) (V4:=V4) (L:=L) (N:=N) (P:=P) hs
 have hu:=Az2 (m:=m) (fr:=fr) (V:=V) (W:=W) (V3:=V3) (V4:=V4) (N:=N) (P:=P) (A:=A) (B:=B) (C:=C) s hs hl
 (refine wx_Mb ?_;repeat' (first|with_reducible refine And.intro ?_ ?_|intro hsp))
 all_goals exact I8 (L8 rfl) rfl rfl rfl
theorem l_step (s:Nat) (b:Bool) (hs:s < n) (hl:L s ≠ -1):AE1 162 [.int .i64 (s:Nat),.bool b] n m (O9 n m fr V W V3 V4 L N P A B C) (.tup [.int .i64 (if (if b=true then P s else N s) = -1 then 0 else (if b=true then P s else N s)),.int .i64 (if (if b=true then P s else N s) = -1 then 9 else 0)]) (O9 n m fr V W V3 V4 L N P A B C):=by
 refine AE1.mk (D9 E9 b162 rfl ?_)
 unfold c162
 have h2:=gc2 (V:=V) (W:=W) (V3:=V3) (V4:=V4) (L:=L) (N:=N) (P:=P) hs
 have h3:=gc3 (V:=V) (W:=W) (V3:=V3) (V4:=V4) (L:=L) (N:=N) (P:=P) hs
 have hu:=Az2 (m:=m) (fr:=fr) (V:=V) (W:=W) (V3:=V3) (V4:=V4) (N:=N) (P:=P) (A:=A) (B:=B) (C:=C) s hs hl
 cases b
 ·by_cases hq:N s = -1
  ·(refine wx_Mb ?_;repeat' (first|with_reducible refine And.intro ?_ ?_|intro hsp))
   all_goals exact I8 (AE6 (by simp [hq]) (by simp [hq])) rfl rfl rfl
  ·(refine wx_Mb ?_;repeat' (first|with_reducible refine And.intro ?_ ?_|intro hsp))
   all_goals exact I8 (AE6 (by simp [hq]) (by simp [hq])) rfl rfl rfl
 ·by_cases hq:P s = -1
  ·(refine wx_Mb ?_;repeat' (first|with_reducible refine And.intro ?_ ?_|intro hsp))
   all_goals exact I8 (AE6 (by simp [hq]) (by simp [hq])) rfl rfl rfl
  ·(refine wx_Mb ?_;repeat' (first|with_reducible refine And.intro ?_ ?_|intro hsp))
   all_goals exact I8 (AE6 (by simp [hq]) (by simp [hq])) rfl rfl rfl
theorem l_len (i:Nat) (hn:0 < n) (hi:i < m):AE1 144 [.int .i64 (i:Nat)] n m (O9 n m fr V W V3 V4 L N P A B C) (.tup [.int .i64 (C i),.int .i64 0]) (O9 n m fr V W V3 V4 L N P A B C):=by
 refine AE1.mk (D9 E9 b144 rfl ?_)
 unfold c144
 have h2:=ge2 (A:=A) (B:=B) (C:=C) hi
 have hu:=l_has (fr:=fr) (V:=V) (W:=W) (V3:=V3) (V4:=V4) (L:=L) (N:=N) (P:=P) (A:=A) (B:=B) (C:=C) i hn hi
 (refine wx_Mb ?_;repeat' (first|with_reducible refine And.intro ?_ ?_|intro hsp))
 all_goals exact I8 (AE6 rfl rfl) rfl rfl rfl
theorem l_end (i:Nat) (b:Bool) (hn:0 < n) (hi:i < m):AE1 161 [.int .i64 (i:Nat),.bool b] n m (O9 n m fr V W V3 V4 L N P A B C) (.tup [.int .i64 (if (if b=true then A i else B i) = -1 then 0 else (if b=true then A i else B i)),.int .i64 (if (if b=true then A i else B i) = -1 then 4 else 0)]) (O9 n m fr V W V3 V4 L N P A B C):=by
 refine AE1.mk (D9 E9 b161 rfl ?_)
 unfold c161
 have h0:=ge0 (A:=A) (B:=B) (C:=C) hi
 have h1:=ge1 (A:=A) (B:=B) (C:=C) hi
 have hu:=l_has (fr:=fr) (V:=V) (W:=W) (V3:=V3) (V4:=V4) (L:=L) (N:=N) (P:=P) (A:=A) (B:=B) (C:=C) i hn hi
 cases b
 ·by_cases hq:B i = -1
  ·(refine wx_Mb ?_;repeat' (first|with_reducible refine And.intro ?_ ?_|intro hsp))
   all_goals exact I8 (AE6 (by simp [hq]) (by simp [hq])) rfl rfl rfl
  ·(refine wx_Mb ?_;repeat' (first|with_reducible refine And.intro ?_ ?_|intro hsp))
   all_goals exact I8 (AE6 (by simp [hq]) (by simp [hq])) rfl rfl rfl
 ·by_cases hq:A i = -1
  ·(refine wx_Mb ?_;repeat' (first|with_reducible refine And.intro ?_ ?_|intro hsp))
   all_goals exact I8 (AE6 (by simp [hq]) (by simp [hq])) rfl rfl rfl
  ·(refine wx_Mb ?_;repeat' (first|with_reducible refine And.intro ?_ ?_|intro hsp))
   all_goals exact I8 (AE6 (by simp [hq]) (by simp [hq])) rfl rfl rfl
end
end Go.Proofs.YtphggldkligldaaGreat.Sh
namespace Go.Proofs.YtphggldkligldaaGreat.Sh
open Go Go.Am Go.Pol
theorem plx_Mc {p:Prop} (h:p:=by ((first|exact plw|(with_reducible first|apply AM3|apply AA1|fail)|fail);first|done|fail)):p:=h
theorem ppx_Mc {p:Prop} (h:p:=by ((first|with_reducible assumption|(with_reducible first|apply F5|apply F8|fail)|exact ppw|fail);first|done|fail)):p:=h
open Go.Proofs.YtphggldkligldaaGreat.Sh renaming plx_Mc → plx
open Go.Proofs.YtphggldkligldaaGreat.Sh renaming ppx_Mc → ppx
theorem wx_Mc {p q:Prop} (hq:q) (h:X5 q→p:=by (intro hQz;((repeat' ((try (conv=>whnf));first|(with_reducible first|refine R3 ?_|refine M6 ?_|refine R9 ?_|refine T9 ?_|refine N8 ?_|refine Y6 ?_|refine Q8 ?_|refine Y5 rfl ?_|refine Q9 ?_|refine K4 ?_|refine M9 ?_|refine N7 ?_|refine S9 ?_|refine K3 ?_|refine M7 (by decide +kernel) ?_|refine L9 (by decide +kernel) ?_|refine AL0 ?_|refine AL1 ?_|refine BC4 ?_|refine AC9 ?_|refine AO0 ?_|refine At9 (by assumption) ?_|refine Au0 (by assumption) ?_|refine AC8 (by omega) ?_|refine AN8 ?_)|((with_reducible refine AO1 ?_ ?_);focus omega)|((with_reducible refine AO2 ?_ ?_);focus omega)|((with_reducible apply N9 hQz)<;>(try intro hsp hQz))|((with_reducible refine BC0 ?_ ?_);focus (first|omega|rfl|assumption|decide|(simp only [List.length_map,List.length_cons,List.length_nil];omega)|exact hw))|refine AC7 (hw) ?_|(with_reducible first|refine AN5 ?_|refine AC6 ?_|refine AC5 ?_|refine AN7 ?_|refine AN6 ?_|refine AN3 ?_|refine BA7 ?_|refine K6 ?_|refine AC2 ?_|refine R7 ?_|refine R6 ?_|refine K7 ?_|refine AN4 (by omega) ?_|refine AC4 (by omega) ?_)|refine D7 (by rw [D8];omega) sc1 ?_|refine D7 (by rw [D8];omega) sc2 ?_|refine D7 (by rw [D8];omega) sc3 ?_|refine D7 (by rw [AP9];omega) se0 ?_|refine D7 (by rw [AP9];omega) se1 ?_|refine D7 (by rw [AP9];omega) se2 ?_|refine G5 (ge2 hi) ?_|refine G5 (g1 _ _ _ _ _ _) ?_|refine G5 (g2 _ _ _ _ _ _) ?_|refine G5 (g3 _ _ _ _ _ _) ?_|refine G5 (g4 _ _ _ _ _ _) ?_|refine G5 (gc1 (by omega)) ?_|refine G5 ((gc1 (by omega)).trans (by rw [hl])) ?_|refine sxF ?_|refine sxH ?_|((with_reducible apply O1 hQz)<;>(try intro hsp hQz))|exact hQz.out))<;>(try (conv=>whnf))))):p:=h ⟨hq⟩
section
variable {n m:Nat} {fr:Int} {V W V3 V4:Nat→PV} {L N P A B C:Nat→Int}
theorem l_tie (x i:Nat) (p q:Int) (hx:x < n) (hi:i < m) (hp:p = -1∨∃ a:Nat,a < n∧p=(a:Int)) (hq:q = -1∨∃ a:Nat,a < n∧q=(a:Int)) (hC:0≤C i∧C i < 9000) :
  AE1 184 [.int .i64 (x:Nat),.int .i64 (i:Nat),.int .i64 p,.int .i64 q] n m (O9 n m fr V W V3 V4 L N P A B C) (.tup []) (O9 n m fr V W V3 V4 (J9 L x i) (BS3 N x p q) (BX3 P x p q) (Ao9 A i x p) (Ao9 B i x q) (J9 C i (C i+1))):=by
 refine AE1.mk (D9 E9 b184 rfl ?_)
 unfold c184
 have hw:IntKind.i64.wrap (C i+1)=C i+1:=IntWalk.i64_in _ (by omega)
 rcases hp with rfl | ⟨a,ha,rfl⟩
 ·rcases hq with rfl | ⟨b,hb,rfl⟩
  ·skip
   skip
   unfold BS3 BX3 Ao9
   simp only [if_true,if_true]
   (refine wx_Mc ?_;repeat' (first|with_reducible refine And.intro ?_ ?_|intro hsp))
   all_goals exact I8 AH8 rfl rfl rfl
  ·skip
   have q2:¬ ((b:Nat):Int) = -1:=by omega
   unfold BS3 BX3 Ao9
   simp only [if_true,q2,if_false,Int.toNat_natCast]
   (refine wx_Mc ?_;repeat' (first|with_reducible refine And.intro ?_ ?_|intro hsp))
   all_goals exact I8 AH8 rfl rfl rfl
 ·rcases hq with rfl | ⟨b,hb,rfl⟩
  ·have q1:¬ ((a:Nat):Int) = -1:=by omega
   skip
   unfold BS3 BX3 Ao9
   simp only [q1,if_false,Int.toNat_natCast,if_true]
   (refine wx_Mc ?_;repeat' (first|with_reducible refine And.intro ?_ ?_|intro hsp))
   all_goals exact I8 AH8 rfl rfl rfl
  ·have q1:¬ ((a:Nat):Int) = -1:=by omega
   have q2:¬ ((b:Nat):Int) = -1:=by omega
   unfold BS3 BX3 Ao9
   simp only [q1,if_false,Int.toNat_natCast,q2,if_false,Int.toNat_natCast]
   (refine wx_Mc ?_;repeat' (first|with_reducible refine And.intro ?_ ?_|intro hsp))
   all_goals exact I8 AH8 rfl rfl rfl
theorem l_untie (s i:Nat) (p q:Int) (hs:s < n) (hi:i < m) (hLs:L s=(i:Nat)) (hNs:N s=q) (hPs:P s=p) (hp:p = -1∨∃ a:Nat,a < n∧a ≠ s∧p=(a:Int)) (hq:q = -1∨∃ a:Nat,a < n∧q=(a:Int)) (hC:0 < C i∧C i < 9000) :
  AE1 190 [.int .i64 (s:Nat)] n m (O9 n m fr V W V3 V4 L N P A B C) (.tup []) (O9 n m fr V W V3 V4 (J9 L s (-1)) (unN N s p q) (unP P s p q) (unA A i p q) (unA B i q p) (J9 C i (C i - 1))):=by
 refine AE1.mk (D9 E9 b190 rfl ?_)
 unfold c190
 have hw:IntKind.i64.wrap (C i - 1)=C i - 1:=IntWalk.i64_in _ (by omega)
 have g1:∀ (V W V3 V4:Nat→PV) (N P:Nat→Int),(C9 n V W V3 V4 L N P)[s * 7+4]? = some (.int .i64 (i:Nat)):=fun V W V3 V4 N P=>(gc1 hs).trans (by rw [hLs])
 have g2:∀ (V W V3 V4:Nat→PV) (L P:Nat→Int),(C9 n V W V3 V4 L N P)[s * 7+5]? = some (.int .i64 q):=fun V W V3 V4 L P=>(gc2 hs).trans (by rw [hNs])
 have g3:∀ (V W V3 V4:Nat→PV) (L N:Nat→Int),(C9 n V W V3 V4 L N P)[s * 7+6]? = some (.int .i64 p):=fun V W V3 V4 L N=>(gc3 hs).trans (by rw [hPs])
 rcases hp with rfl | ⟨a,ha,hne,rfl⟩
 ·rcases hq with rfl | ⟨b,hb,rfl⟩
  ·skip
   unfold unN unP unA
   simp only [if_true,if_true]
   (refine wx_Mc ?_;repeat' (first|with_reducible refine And.intro ?_ ?_|intro hsp))
   all_goals exact I8 AH8 rfl rfl rfl
  ·have q2:¬ ((b:Nat):Int) = -1:=by omega
   skip
   unfold unN unP unA
   simp only [if_true,q2,if_false,Int.toNat_natCast]
   (refine wx_Mc ?_;repeat' (first|with_reducible refine And.intro ?_ ?_|intro hsp))
   all_goals exact I8 AH8 rfl rfl rfl
 ·rcases hq with rfl | ⟨b,hb,rfl⟩
  ·have q1:¬ ((a:Nat):Int) = -1:=by omega
   have g4:∀ (V W V3 V4:Nat→PV) (L P:Nat→Int),(C9 n V W V3 V4 L (J9 N a (-1)) P)[s * 7+5]? = some (.int .i64 (-1)):=fun V W V3 V4 L P=>(gc2 hs).trans (by rw [AL6 (Ne.symm hne),hNs])
   unfold unN unP unA
   simp only [q1,if_false,Int.toNat_natCast,if_true]
   (refine wx_Mc ?_;repeat' (first|with_reducible refine And.intro ?_ ?_|intro hsp))
   all_goals exact I8 AH8 rfl rfl rfl
  ·have q1:¬ ((a:Nat):Int) = -1:=by omega
   have q2:¬ ((b:Nat):Int) = -1:=by omega
   have g4:∀ (V W V3 V4:Nat→PV) (L P:Nat→Int),(C9 n V W V3 V4 L (J9 N a ((b:Nat):Int)) P)[s * 7+5]? = some (.int .i64 ((b:Nat):Int)):=fun V W V3 V4 L P=>(gc2 hs).trans (by rw [AL6 (Ne.symm hne),hNs])
   unfold unN unP unA
   simp only [q1,if_false,Int.toNat_natCast,q2,if_false,Int.toNat_natCast]
   (refine wx_Mc ?_;repeat' (first|with_reducible refine And.intro ?_ ?_|intro hsp))
   all_goals exact I8 AH8 rfl rfl rfl
theorem l_least (f s:Nat) (hf:f≤s) (hs:s < n) (hn:n≤100000) (hu:∀ t,f≤t→t < s→L t ≠ -1) (hl:L s = -1):AE1 183 [] n m (O9 n m (f:Nat) V W V3 V4 L N P A B C) (.int .i64 (s:Nat)) (O9 n m (s:Nat) V W V3 V4 L N P A B C):=by
 refine AE1.mk (D9 E9 b183 rfl ?_)
 unfold c183
 (refine wx_Mc ?_;repeat' (first|with_reducible refine And.intro ?_ ?_|intro hsp))
 (refine F6 [0] (fun (k:Nat)=>[]) (fun (k:Nat)=>⟨O9 n m (k:Nat) V W V3 V4 L N P A B C,3⟩) (fun (k:Nat)=>f≤k∧k≤s) (fun (k:Nat)=>s - k) (f) [] rfl (fun _=>by first|exact Nat.zero_le _|(dsimp only;omega)) ?_ (by ((try (conv=>whnf));exact Ak0)) ?_)
 ·exact ⟨Nat.le_refl _,hf⟩
 rintro k ⟨hk1,hk2⟩
 by_cases hks:k < s
 ·have h1:=hu k hk1 hks
  have hw:IntKind.i64.wrap ((k:Int)+1)=((k+1:Nat):Int):=by rw [IntWalk.i64_in _ (by omega)];omega
  (refine wx_Mc ?_;repeat' (first|with_reducible refine And.intro ?_ ?_|intro hsp))
  exact F3 (k+1) [] (by (try dsimp only);omega) (by first|omega|(dsimp only;omega)) rfl (by exact Ak0)
 ·obtain rfl:k=s:=by omega
  (refine wx_Mc ?_;repeat' (first|with_reducible refine And.intro ?_ ?_|intro hsp))
  exact I8 (L8 rfl) rfl rfl rfl
end
end Go.Proofs.YtphggldkligldaaGreat.Sh
namespace Go.Proofs.YtphggldkligldaaGreat.Sh
open Go Go.Am Go.Pol
theorem wx_Md {p q:Prop} (hq:q) (h:X5 q→p:=by (intro hQz;((repeat' ((try (conv=>whnf));first|refine sxA ?_|refine G5 (ge0 hi) ?_|refine G5 (ge1 hi) ?_|refine D7 (by rw [D8];omega) sc0 ?_|refine D7 (by rw [D8];omega) sc0b ?_|refine D7 (by rw [D8];omega) sc0c ?_|refine D7 (by rw [D8];omega) sc0d ?_|refine D7 (by rw [D8];omega) sc0z ?_|refine D7 (by rw [D8];omega) sc0bz ?_|refine D7 (by rw [D8];omega) sc0cz ?_|refine D7 (by rw [D8];omega) sc0dz ?_|refine p9 (by rw [D8];omega) rfl (p8 (by rw [List.length_drop,D8];omega) (tkV hs) ?_)|refine sxF ?_|refine V5 ht rfl rfl rfl (by decide) (by first|(simp [A8,AM3,Ab2,AA1];done)|fail) M0 rfl ?_|refine V5 ht rfl rfl rfl (by decide) (by first|(simp [A8,A9,AM3,Ab2,AA1];done)|fail) M0 rfl ?_|refine V5 hh rfl rfl rfl (by decide) (by first|(simp [A8,AM3,Ab2,AA1];done)|fail) A8 rfl ?_|refine V5 hlt rfl rfl rfl (by decide) (by first|(simp [A8,AM3,Ab2,AA1];done)|fail) A8 rfl ?_|refine sxH ?_|((with_reducible first|apply N9 hQz|apply O1 hQz)<;>(try intro hsp hQz))|exact hQz.out))<;>(try (conv=>whnf))))):p:=h ⟨hq⟩
theorem wx_Mdn {p q:Prop} (hq:q) (h:X5 q→p:=by (intro hQz;((repeat' ((try (conv=>whnf));first|refine sxA ?_|refine D7 (by rw [D8];omega) sc0 ?_|refine D7 (by rw [D8];omega) sc0b ?_|refine D7 (by rw [D8];omega) sc0c ?_|refine D7 (by rw [D8];omega) sc0d ?_|refine D7 (by rw [D8];omega) sc0z ?_|refine D7 (by rw [D8];omega) sc0bz ?_|refine D7 (by rw [D8];omega) sc0cz ?_|refine D7 (by rw [D8];omega) sc0dz ?_|refine G5 (g1 _ _ _ _ _ _) ?_|refine G5 (g2 _ _ _ _ _ _) ?_|refine sxN ?_|refine V5 ht rfl rfl rfl (by decide) (by first|(simp [A8,A9,AM3,Ab2,AA1];done)|fail) M0 rfl ?_|refine V5 hh rfl rfl rfl (by decide) (by first|(simp [A8,AM3,Ab2,AA1];done)|fail) A8 rfl ?_|refine V5 hlt rfl rfl rfl (by decide) (by first|(simp [A8,AM3,Ab2,AA1];done)|fail) A8 rfl ?_|refine sxH ?_|((with_reducible first|apply N9 hQz|apply O1 hQz)<;>(try intro hsp hQz))|exact hQz.out))<;>(try (conv=>whnf))))):p:=h ⟨hq⟩
section
variable {n m:Nat} {V W V3 V4:Nat→PV} {L N P A B C:Nat→Int}
theorem l_edge {fr:Int} (x i:Nat) (b:Bool) (p q:Int) (hx:x < n) (hi:i < m) (he:(b=true∧p = -1∧q=A i)∨(b=false∧p=B i∧q = -1)) (hp:p = -1∨∃ a:Nat,a < n∧p=(a:Int)) (hq:q = -1∨∃ a:Nat,a < n∧q=(a:Int)) (hC:0≤C i∧C i < 9000) :
  AE1 185 [.int .i64 (x:Nat),.int .i64 (i:Nat),.bool b] n m (O9 n m fr V W V3 V4 L N P A B C) (.tup []) (O9 n m fr V W V3 V4 (J9 L x i) (BS3 N x p q) (BX3 P x p q) (Ao9 A i x p) (Ao9 B i x q) (J9 C i (C i+1))):=by
 have ht:=l_tie (n:=n) (m:=m) (fr:=fr) (V:=V) (W:=W) (V3:=V3) (V4:=V4) (L:=L) (N:=N) (P:=P) (A:=A) (B:=B) (C:=C) x i p q hx hi hp hq hC
 refine AE1.mk (D9 E9 b185 rfl ?_)
 unfold c185
 rcases he with ⟨rfl,rfl,rfl⟩ | ⟨rfl,rfl,rfl⟩
 ·(refine wx_Md ?_;repeat' (first|with_reducible refine And.intro ?_ ?_|intro hsp))
  exact I8 AH8 rfl rfl rfl
 ·(refine wx_Md ?_;repeat' (first|with_reducible refine And.intro ?_ ?_|intro hsp))
  exact I8 AH8 rfl rfl rfl
theorem l_push (f s i:Nat) (v w v3 v4:PV) (b:Bool) (p q:Int) (hf:f≤s) (hs:s < n) (hn:n≤100000) (hu:∀ t,f≤t→t < s→L t ≠ -1) (hl:L s = -1) (hi:i < m) (he:(b=true∧p = -1∧q=A i)∨(b=false∧p=B i∧q = -1)) (hp:p = -1∨∃ a:Nat,a < n∧p=(a:Int)) (hq:q = -1∨∃ a:Nat,a < n∧q=(a:Int)) (hC:0≤C i∧C i < 9000) :
  AE1 164 [.int .i64 (i:Nat),.agg [v.1,w.1,v3.1,v4.1],.bool b] n m (O9 n m (f:Nat) V W V3 V4 L N P A B C) (.tup [.int .i64 (s:Nat),.int .i64 0]) (O9 n m (s:Nat) (I6 V s v) (I6 W s w) (I6 V3 s v3) (I6 V4 s v4) (J9 L s i) (BS3 N s p q) (BX3 P s p q) (Ao9 A i s p) (Ao9 B i s q) (J9 C i (C i+1))):=by
 have ht:=l_edge (n:=n) (m:=m) (fr:=(s:Nat)) (V:=I6 V s v) (W:=I6 W s w) (V3:=I6 V3 s v3) (V4:=I6 V4 s v4) (L:=L) (N:=N) (P:=P) (A:=A) (B:=B) (C:=C) s i b p q hs hi he hp hq hC
 have hh:=l_has (n:=n) (m:=m) (fr:=(f:Nat)) (V:=V) (W:=W) (V3:=V3) (V4:=V4) (L:=L) (N:=N) (P:=P) (A:=A) (B:=B) (C:=C) i (by omega) hi
 have hlt:=l_least (n:=n) (m:=m) (V:=V) (W:=W) (V3:=V3) (V4:=V4) (L:=L) (N:=N) (P:=P) (A:=A) (B:=B) (C:=C) f s hf hs hn hu hl
 refine AE1.mk (D9 E9 b164 rfl ?_)
 unfold c164
 (refine wx_Md ?_;repeat' (first|with_reducible refine And.intro ?_ ?_|intro hsp))
 exact I8 (AE6 rfl rfl) rfl rfl rfl
theorem l_after (f s x i:Nat) (v w v3 v4:PV) (q:Int) (hf:f≤s) (hs:s < n) (hn:n≤100000) (hu:∀ t,f≤t→t < s→L t ≠ -1) (hl:L s = -1) (hx:x < n) (hi:i < m) (hLx:L x=(i:Nat)) (hNx:N x=q) (hq:q = -1∨∃ a:Nat,a < n∧q=(a:Int)) (hC:0≤C i∧C i < 9000) :
  AE1 163 [.int .i64 (x:Nat),.agg [v.1,w.1,v3.1,v4.1]] n m (O9 n m (f:Nat) V W V3 V4 L N P A B C) (.tup [.int .i64 (s:Nat),.int .i64 0]) (O9 n m (s:Nat) (I6 V s v) (I6 W s w) (I6 V3 s v3) (I6 V4 s v4) (J9 L s i) (BS3 N s (x:Nat) q) (BX3 P s (x:Nat) q) (Ao9 A i s (x:Nat)) (Ao9 B i s q) (J9 C i (C i+1))):=by
 have ht:=l_tie (n:=n) (m:=m) (fr:=(s:Nat)) (V:=I6 V s v) (W:=I6 W s w) (V3:=I6 V3 s v3) (V4:=I6 V4 s v4) (L:=L) (N:=N) (P:=P) (A:=A) (B:=B) (C:=C) s i (x:Nat) q hs hi (.inr ⟨x,hx,rfl⟩) hq hC
 have hh:=Az2 (n:=n) (m:=m) (fr:=(f:Nat)) (V:=V) (W:=W) (V3:=V3) (V4:=V4) (L:=L) (N:=N) (P:=P) (A:=A) (B:=B) (C:=C) x hx (by omega)
 have hlt:=l_least (n:=n) (m:=m) (V:=V) (W:=W) (V3:=V3) (V4:=V4) (L:=L) (N:=N) (P:=P) (A:=A) (B:=B) (C:=C) f s hf hs hn hu hl
 have g1:∀ (V W V3 V4:Nat→PV) (N P:Nat→Int),(C9 n V W V3 V4 L N P)[x * 7+4]? = some (.int .i64 (i:Nat)):=fun V W V3 V4 N P=>(gc1 hx).trans (by rw [hLx])
 have g2:∀ (V W V3 V4:Nat→PV) (L P:Nat→Int),(C9 n V W V3 V4 L N P)[x * 7+5]? = some (.int .i64 q):=fun V W V3 V4 L P=>(gc2 hx).trans (by rw [hNx])
 refine AE1.mk (D9 E9 b163 rfl ?_)
 unfold c163
 (refine wx_Mdn ?_;repeat' (first|with_reducible refine And.intro ?_ ?_|intro hsp))
 exact I8 (AE6 rfl rfl) rfl rfl rfl
theorem l_take (f s i:Nat) (p q:Int) (hs:s < n) (hi:i < m) (hLs:L s=(i:Nat)) (hNs:N s=q) (hPs:P s=p) (hp:p = -1∨∃ a:Nat,a < n∧a ≠ s∧p=(a:Int)) (hq:q = -1∨∃ a:Nat,a < n∧q=(a:Int)) (hC:0 < C i∧C i < 9000) :
  AE1 176 [.int .i64 (s:Nat)] n m (O9 n m (f:Nat) V W V3 V4 L N P A B C) (.tup [.agg [(V s).1,(W s).1,(V3 s).1,(V4 s).1],.int .i64 0]) (O9 n m (min f s:Nat) (I6 V s z0) (I6 W s w0) (I6 V3 s w0) (I6 V4 s b0) (J9 L s (-1)) (unN N s p q) (unP P s p q) (unA A i p q) (unA B i q p) (J9 C i (C i - 1))):=by
 have hh:=Az2 (n:=n) (m:=m) (fr:=(f:Nat)) (V:=V) (W:=W) (V3:=V3) (V4:=V4) (L:=L) (N:=N) (P:=P) (A:=A) (B:=B) (C:=C) s hs (by omega)
 have ht:=l_untie (n:=n) (m:=m) (fr:=(f:Nat)) (V:=V) (W:=W) (V3:=V3) (V4:=V4) (L:=L) (N:=N) (P:=P) (A:=A) (B:=B) (C:=C) s i p q hs hi hLs hNs hPs hp hq hC
 refine AE1.mk (D9 E9 b176 rfl ?_)
 unfold c176
 (refine wx_Md ?_;repeat' (first|with_reducible refine And.intro ?_ ?_|intro hsp))
 exact I8 (AI5 (D5 (K5 (BN2 ⟨_,rfl⟩ ⟨_,rfl⟩ ⟨_,rfl⟩) (by first|exact AM3|exact AA1|exact Z5|exact Aq1|fail)) (D5 (L8 rfl) J4))) rfl rfl rfl (by omega)
end
end Go.Proofs.YtphggldkligldaaGreat.Sh
namespace Go.Proofs.YtphggldkligldaaGreat.Sh
open Go Go.Am Go.Pol
section
variable {n m:Nat} {V W V3 V4:Nat→PV} {Q:Nat→List Nat} {S:PS}
def X0 (n m:Nat) (V W V3 V4:Nat→PV) (S:PS):List (Nat × Go.Am.AObj):=O9 n m (S.fr:Nat) V W V3 V4 S.L S.N S.P S.A S.B S.C
structure Inv (n m:Nat) (V W V3 V4:Nat→PV) (Q:Nat→List Nat) (S:PS):Prop where
 st:St n m S.L S.N S.P S.A S.B S.C Q
 val:∀ s,s < n→S.L s = -1→V s=z0∧W s=w0∧V3 s=w0∧V4 s=b0
 frn:S.fr≤n
 fru:∀ t,t < S.fr→S.L t ≠ -1
theorem Inv.len (h:Inv n m V W V3 V4 Q S) (i:Nat):(Q i).length≤n:=Az1 n _ (h.st.nd i) fun x hx=>(h.st.us i x hx).1
theorem lst_lt (h:Inv n m V W V3 V4 Q S) {i:Nat} {X Y:List Nat} (hQ:Q i=X++Y):lst X = -1∨∃ a:Nat,a < n∧lst X=(a:Int):=by
 rcases Am4 (X:=X) with h1 | ⟨a,h1,h2⟩
 ·exact .inl h1
 ·exact .inr ⟨a,(h.st.us i a (by rw [hQ];exact List.mem_append_left _ h1)).1,h2⟩
theorem hd_lt (h:Inv n m V W V3 V4 Q S) {i:Nat} {X Y:List Nat} (hQ:Q i=X++Y):hd Y = -1∨∃ a:Nat,a < n∧hd Y=(a:Int):=by
 rcases hd_ge (X:=Y) with h1 | ⟨a,h1,h2⟩
 ·exact .inl h1
 ·exact .inr ⟨a,(h.st.us i a (by rw [hQ];exact List.mem_append_right _ h1)).1,h2⟩
theorem Inv.tied (h:Inv n m V W V3 V4 Q S) {x i:Nat} {X Y:List Nat} (v w v3 v4:PV) (hx:Ah7 n Q x) (hi:i < m) (hQ:Q i=X++Y) :
  Inv n m (I6 V x v) (I6 W x w) (I6 V3 x v3) (I6 V4 x v4) (AG6 Q i (X++x::Y)) ⟨x,J9 S.L x i,BS3 S.N x (lst X) (hd Y),BX3 S.P x (lst X) (hd Y),Ao9 S.A i x (lst X),Ao9 S.B i x (hd Y),J9 S.C i (S.C i+1)⟩:=by
 have hL:=h.st.unused hx.1 hx.2.1
 refine ⟨h.st.tie hx.1 hL hi hQ,fun s hs hl=>?_,Nat.le_of_lt hx.1,fun t ht=>?_⟩
 ·dsimp only at hl
  by_cases e:s=x
  ·subst e;rw [updI_at] at hl;omega
  ·rw [AL6 e] at hl;rw [q9 e,q9 e,q9 e,q9 e];exact h.val s hs hl
 ·dsimp only at ht ⊢
  rw [AL6 (by omega)]
  exact h.st.usedI (hx.2.2 t ht)
theorem p_push (h:Inv n m V W V3 V4 Q S) (hn:n≤8000) {s i:Nat} (hs:Ah7 n Q s) (hi:i < m) (v w v3 v4:PV) (b:Bool) :
  ∃ S',Inv n m (I6 V s v) (I6 W s w) (I6 V3 s v3) (I6 V4 s v4) (AG6 Q i (if b=true then s::Q i else Q i++[s])) S'∧AE1 164 [.int .i64 (i:Nat),.agg [v.1,w.1,v3.1,v4.1],.bool b] n m (X0 n m V W V3 V4 S) (.tup [.int .i64 (s:Nat),.int .i64 0]) (X0 n m (I6 V s v) (I6 W s w) (I6 V3 s v3) (I6 V4 s v4) S'):=by
 have hlen:=h.len i
 have hen:=h.st.en i hi
 have hL:=h.st.unused hs.1 hs.2.1
 have hf:S.fr≤s:=Nat.le_of_not_lt fun hlt=>h.fru s hlt hL
 have hu:∀ t,S.fr≤t→t < s→S.L t ≠ -1:=fun t _ ht=>h.st.usedI (hs.2.2 t ht)
 cases b
 ·have hQ:Q i=Q i++[]:=by simp
  have h1:=h.tied v w v3 v4 hs hi hQ
  exact ⟨_,h1,l_push S.fr s i v w v3 v4 false (lst (Q i)) (hd []) hf hs.1 (by omega) hu hL hi (.inr ⟨rfl,hen.2.1.symm,rfl⟩) (lst_lt h hQ) (.inl rfl) (by rw [hen.2.2];omega)⟩
 ·have hQ:Q i=[]++Q i:=by simp
  have h1:=h.tied v w v3 v4 hs hi hQ
  exact ⟨_,h1,l_push S.fr s i v w v3 v4 true (lst []) (hd (Q i)) hf hs.1 (by omega) hu hL hi (.inl ⟨rfl,rfl,hen.1.symm⟩) (.inl rfl) (hd_lt h hQ) (by rw [hen.2.2];omega)⟩
theorem p_after (h:Inv n m V W V3 V4 Q S) (hn:n≤8000) {s x i:Nat} {X Y:List Nat} (hs:Ah7 n Q s) (hx:AtQ m Q x i X Y) (v w v3 v4:PV) :
  ∃ S',Inv n m (I6 V s v) (I6 W s w) (I6 V3 s v3) (I6 V4 s v4) (AG6 Q i (X++x::s::Y)) S'∧AE1 163 [.int .i64 (x:Nat),.agg [v.1,w.1,v3.1,v4.1]] n m (X0 n m V W V3 V4 S) (.tup [.int .i64 (s:Nat),.int .i64 0]) (X0 n m (I6 V s v) (I6 W s w) (I6 V3 s v3) (I6 V4 s v4) S'):=by
 have hlen:=h.len i
 have hen:=h.st.en i hx.i_lt
 have hL:=h.st.unused hs.1 hs.2.1
 have hf:S.fr≤s:=Nat.le_of_not_lt fun hlt=>h.fru s hlt hL
 have hu:∀ t,S.fr≤t→t < s→S.L t ≠ -1:=fun t _ ht=>h.st.usedI (hs.2.2 t ht)
 have hxm:x ∈ Q i:=by rw [hx.eq];simp
 have hxu:=h.st.us i x hxm
 have hQ:Q i=(X++[x])++Y:=by rw [hx.eq];simp
 have h1:=h.tied v w v3 v4 hs hx.i_lt hQ
 have hc:=h.st.ch i X x Y hx.eq
 rw [show (X++[x])++s::Y=X++x::s::Y by simp,AK4] at h1
 exact ⟨_,h1,l_after S.fr s x i v w v3 v4 (hd Y) hf hs.1 (by omega) hu hL hxu.1 hx.i_lt hxu.2 hc.1 (hd_lt h hQ) (by rw [hen.2.2];omega)⟩
theorem AT4 (h:Inv n m V W V3 V4 Q S) {s i:Nat} {X Y:List Nat} (hx:AtQ m Q s i X Y):s < n∧S.L s=(i:Nat)∧S.N s=hd Y∧S.P s=lst X∧(lst X = -1∨∃ a:Nat,a < n∧a ≠ s∧lst X=(a:Int))∧(hd Y = -1∨∃ a:Nat,a < n∧hd Y=(a:Int))∧0 < S.C i∧S.C i≤n:=by
 have hu:=h.st.us i s (by rw [hx.eq];simp)
 have hc:=h.st.ch i X s Y hx.eq
 have hnd:=h.st.nd i
 have hlen:=h.len i
 have hen:=(h.st.en i hx.i_lt).2.2
 rw [hx.eq] at hnd hen hlen
 refine ⟨hu.1,hu.2,hc.1,hc.2,?_,hd_lt h (X:=X++[s]) (by rw [hx.eq];simp),by rw [hen];simp;omega,by rw [hen];omega⟩
 rcases Am4 (X:=X) with h1 | ⟨a,h1,h2⟩
 ·exact .inl h1
 ·exact .inr ⟨a,(h.st.us i a (by rw [hx.eq];simp [h1])).1,fun e=>(List.nodup_append.1 hnd).2.2 a h1 s (List.mem_cons_self ..) e,h2⟩
theorem p_take (h:Inv n m V W V3 V4 Q S) (hn:n≤8000) {s i:Nat} {X Y:List Nat} (hx:AtQ m Q s i X Y) :
  ∃ S',Inv n m (I6 V s z0) (I6 W s w0) (I6 V3 s w0) (I6 V4 s b0) (AG6 Q i (X++Y)) S'∧AE1 176 [.int .i64 (s:Nat)] n m (X0 n m V W V3 V4 S) (.tup [.agg [(V s).1,(W s).1,(V3 s).1,(V4 s).1],.int .i64 0]) (X0 n m (I6 V s z0) (I6 W s w0) (I6 V3 s w0) (I6 V4 s b0) S'):=by
 obtain ⟨h1,h2,h3,h4,h5,h6,h7,h8⟩:=AT4 h hx
 have hst:=h.st.untie hx.i_lt hx.eq
 refine ⟨⟨min S.fr s,J9 S.L s (-1),unN S.N s (lst X) (hd Y),unP S.P s (lst X) (hd Y),unA S.A i (lst X) (hd Y),unA S.B i (hd Y) (lst X),J9 S.C i (S.C i - 1)⟩,⟨hst,fun t ht hl=>?_,by have:=h.frn;dsimp only;omega,fun t ht=>?_⟩,l_take S.fr s i (lst X) (hd Y) h1 hx.i_lt h2 h3 h4 h5 h6 ⟨h7,by omega⟩⟩
 ·dsimp only at hl
  by_cases e:t=s
  ·subst e;rw [AX0,AX0,AX0,AX0];exact ⟨rfl,rfl,rfl,rfl⟩
  ·rw [AL6 e] at hl;rw [q9 e,q9 e,q9 e,q9 e];exact h.val t ht hl
 ·dsimp only at ht ⊢
  rw [AL6 (by omega)]
  exact h.fru t (by omega)
theorem p_put (h:Inv n m V W V3 V4 Q S) {s i:Nat} {X Y:List Nat} (hx:AtQ m Q s i X Y) (v w v3 v4:PV) :
  Inv n m (I6 V s v) (I6 W s w) (I6 V3 s v3) (I6 V4 s v4) Q S∧AE1 146 [.int .i64 (s:Nat),.agg [v.1,w.1,v3.1,v4.1]] n m (X0 n m V W V3 V4 S) (.int .i64 0) (X0 n m (I6 V s v) (I6 W s w) (I6 V3 s v3) (I6 V4 s v4) S):=by
 obtain ⟨h1,h2,_⟩:=AT4 h hx
 refine ⟨⟨h.st,fun t ht hl=>?_,h.frn,h.fru⟩,l_put s v w v3 v4 h1 (by omega)⟩
 by_cases e:t=s
 ·subst e;omega
 ·rw [q9 e,q9 e,q9 e,q9 e];exact h.val t ht hl
theorem p_get (h:Inv n m V W V3 V4 Q S) {s i:Nat} {X Y:List Nat} (hx:AtQ m Q s i X Y):AE1 149 [.int .i64 (s:Nat)] n m (X0 n m V W V3 V4 S) (.tup [.agg [(V s).1,(W s).1,(V3 s).1,(V4 s).1],.int .i64 0]) (X0 n m V W V3 V4 S):=by
 obtain ⟨h1,h2,_⟩:=AT4 h hx
 exact l_get s h1 (by omega)
theorem p_step (h:Inv n m V W V3 V4 Q S) {s i:Nat} {X Y:List Nat} (hx:AtQ m Q s i X Y) (b:Bool):AE1 162 [.int .i64 (s:Nat),.bool b] n m (X0 n m V W V3 V4 S) (BV0 (if b=true then lst X else hd Y) 9) (X0 n m V W V3 V4 S):=by
 obtain ⟨h1,h2,h3,h4,_⟩:=AT4 h hx
 have:=l_step (m:=m) (fr:=S.fr) (V:=V) (W:=W) (V3:=V3) (V4:=V4) (P:=S.P) (N:=S.N) (A:=S.A) (B:=S.B) (C:=S.C) s b h1 (by omega:S.L s ≠ -1)
 rw [h3,h4] at this
 exact this
theorem p_end (h:Inv n m V W V3 V4 Q S) (hn0:0 < n) {i:Nat} (hi:i < m) (b:Bool):AE1 161 [.int .i64 (i:Nat),.bool b] n m (X0 n m V W V3 V4 S) (BV0 (if b=true then hd (Q i) else lst (Q i)) 4) (X0 n m V W V3 V4 S):=by
 have he:=h.st.en i hi
 have:=l_end (n:=n) (m:=m) (fr:=S.fr) (V:=V) (W:=W) (V3:=V3) (V4:=V4) (L:=S.L) (P:=S.P) (N:=S.N) (A:=S.A) (B:=S.B) (C:=S.C) i b hn0 hi
 rw [he.1,he.2.1] at this
 exact this
theorem p_len (h:Inv n m V W V3 V4 Q S) (hn0:0 < n) {i:Nat} (hi:i < m):AE1 144 [.int .i64 (i:Nat)] n m (X0 n m V W V3 V4 S) (.tup [.int .i64 ((Q i).length:Nat),.int .i64 0]) (X0 n m V W V3 V4 S):=by
 rw [← (h.st.en i hi).2.2]
 exact l_len i hn0 hi
end
end Go.Proofs.YtphggldkligldaaGreat.Sh
namespace Go.Proofs.YtphggldkligldaaGreat.Sh
open Go Go.Am Go.Pol
theorem ppx_Mm {p:Prop} (h:p:=by ((first|with_reducible assumption|(with_reducible first|apply F5|apply F8|apply of_plain _ _|apply P5 _ _|fail)|exact ppw|fail);first|done|fail)):p:=h
open Go.Proofs.YtphggldkligldaaGreat.Sh renaming plx_Mc → plx
open Go.Proofs.YtphggldkligldaaGreat.Sh renaming ppx_Mm → ppx
theorem wx_Mm {p q:Prop} (hq:q) (h:X5 q→p:=by (intro hQz;((repeat' ((try (conv=>whnf));first|(with_reducible first|refine R3 ?_|refine M6 ?_|refine R9 ?_|refine T9 ?_|refine N8 ?_|refine Y6 ?_|refine Q8 ?_|refine Y5 rfl ?_|refine Q9 ?_|refine K4 ?_|refine M9 ?_|refine N7 ?_|refine S9 ?_|refine K3 ?_|refine M7 (by decide +kernel) ?_|refine L9 (by decide +kernel) ?_|refine AL0 ?_|refine AL1 ?_|refine BC4 ?_|refine AC9 ?_|refine AO0 ?_|refine At9 (by assumption) ?_|refine Au0 (by assumption) ?_|refine AC8 (by omega) ?_|refine AN8 ?_)|((with_reducible refine AO1 ?_ ?_);focus omega)|((with_reducible refine AO2 ?_ ?_);focus omega)|((with_reducible apply N9 hQz)<;>(try intro hsp hQz))|((with_reducible refine BC0 ?_ ?_);focus (first|omega|rfl|assumption|decide|(simp only [List.length_map,List.length_cons,List.length_nil];omega)|exact (Aa3 n)|exact (BB0 m)|exact (show ((n:Nat):Int).toNat=n from rfl)|exact (show ((m:Nat):Int).toNat=m from rfl)))|refine AC7 ((Aa3 n)) ?_|refine AC7 ((BB0 m)) ?_|refine AC7 ((show ((n:Nat):Int).toNat=n from rfl)) ?_|refine AC7 ((show ((m:Nat):Int).toNat=m from rfl)) ?_|(with_reducible first|refine AN5 ?_|refine AC6 ?_|refine AC5 ?_|refine AN7 ?_|refine AN6 ?_|refine AN3 ?_|refine BA7 ?_|refine K6 ?_|refine AC2 ?_|refine R7 ?_|refine R6 ?_|refine K7 ?_|refine AN4 (by omega) ?_|refine AC4 (by omega) ?_)|refine D7 (by rw [D8];omega) sc0 ?_|refine D7 (by rw [D8];omega) sc0b ?_|refine D7 (by rw [D8];omega) sc0c ?_|refine D7 (by rw [D8];omega) sc0d ?_|refine D7 (by rw [D8];omega) sc0z ?_|refine D7 (by rw [D8];omega) sc0bz ?_|refine D7 (by rw [D8];omega) sc0cz ?_|refine D7 (by rw [D8];omega) sc0dz ?_|refine D7 (by rw [D8];omega) sc1 ?_|refine D7 (by rw [D8];omega) sc2 ?_|refine D7 (by rw [D8];omega) sc3 ?_|refine D7 (by rw [AP9];omega) se0 ?_|refine D7 (by rw [AP9];omega) se1 ?_|refine D7 (by rw [AP9];omega) se2 ?_|refine sxF ?_|(refine X4 E9 b180 rfl ?_;unfold c180)|refine sxH ?_|((with_reducible apply O1 hQz)<;>(try intro hsp hQz))|exact hQz.out))<;>(try (conv=>whnf))))):p:=h ⟨hq⟩
section
theorem Aa3 (n:Nat):(List.replicate n [AV.int .i64 0,AV.int .i64 0,AV.int .i64 0,AV.bool false,AV.int .i64 0,AV.int .i64 0,AV.int .i64 0]).flatten=C9 n (fun _=>z0) (fun _=>w0) (fun _=>w0) (fun _=>b0) (fun _=>0) (fun _=>0) fun _=>0:=by
 refine List.ext_getElem? fun i=>?_
 by_cases hi:i < n * 7
 ·rw [BM7 (by decide) (by simpa using hi),C9,AH2 hi]
  have hm:i % 7=0∨i % 7=1∨i % 7=2∨i % 7=3∨i % 7=4∨i % 7=5∨i % 7=6:=by omega
  unfold sel
  rcases hm with h|h|h|h|h|h|h
  all_goals simp [h,z0,w0,b0]
 ·rw [List.getElem?_eq_none (by rw [rep_lenL];simpa using hi),List.getElem?_eq_none (by rw [D8];omega)]
structure BK7 (n m:Nat) (V W V3 V4:Nat→PV) (Q:Nat→List Nat) (S:PS):Prop where
 inv:Inv n m V W V3 V4 Q S
 m_le:m≤64
 n_le:n≤8000
 n_pos:0 < n
theorem good_0 {n m:Nat} (hn:0 < n) (hn2:n≤2000) (hm:m≤64):BK7 n m (fun _=>z0) (fun _=>w0) (fun _=>w0) (fun _=>b0) (fun _=>[]) (S0 n m):=by
 have h:∀ {k s:Nat},s < k→upTo k (-1) s = -1:=fun {k s} hs=>if_pos hs
 refine ⟨⟨⟨fun _ _=>rfl,fun i s hs=>(by cases hs),fun s hs=>.inl ⟨h hs,h hs,h hs⟩,fun _=>List.nodup_nil,fun i X s Y e=>(by simp at e),fun i hi=>⟨h hi,h hi,rfl⟩⟩,fun _ _ _=>⟨rfl,rfl,rfl,rfl⟩,Nat.zero_le _,fun t ht=>(by cases ht)⟩,hm,by omega,hn⟩
theorem updV_z0 (k:Nat):I6 (fun _=>z0) k z0=fun _=>z0:=by funext s;unfold I6;split<;>rfl
theorem updV_w0 (k:Nat):I6 (fun _=>w0) k w0=fun _=>w0:=by funext s;unfold I6;split<;>rfl
theorem updV_b0 (k:Nat):I6 (fun _=>b0) k b0=fun _=>b0:=by funext s;unfold I6;split<;>rfl
theorem l_new (n m:Nat) (h1:1≤n) (h2:n≤2000) (h3:1≤m) (h4:m≤64) :
  AQ1 Tryz.prog G0 153 [.int .i64 (n:Nat),.int .i64 (m:Nat)] [] 0 fun x h=>x = .tup [.ptr 0 0,.int .i64 0]∧h=⟨X0 n m (fun _=>z0) (fun _=>w0) (fun _=>w0) (fun _=>b0) (S0 n m),3⟩:=by
 refine D9 E9 b153 rfl ?_
 unfold c153
 (refine wx_Mm ?_;repeat' (first|with_reducible refine And.intro ?_ ?_|intro hsp))
 (refine F6 [18] (fun (k:Nat)=>[(5,.ptr 0 0),(19,.int .i64 (k:Nat))]) (fun (k:Nat)=>⟨[(0,.cells [.sl 1 0 n n 7,.sl 2 0 m m 3,.int .i64 0]),(1,.cells (C9 n (fun _=>z0) (fun _=>w0) (fun _=>w0) (fun _=>b0) (upTo k (-1)) (upTo k (-1)) (upTo k (-1)))),(2,.cells (J5 m (fun _=>0) (fun _=>0) fun _=>0))],3⟩) (fun (k:Nat)=>k≤n) (fun (k:Nat)=>n - k) (0) [(0,5),(1,1),(2,3)] rfl (fun _=>by first|exact Nat.zero_le _|(dsimp only;omega)) ?_ (by ((try (conv=>whnf));(rw [upTo_0]);exact Ak0)) ?_)
 ·exact Nat.zero_le _
 intro k hk
 by_cases hkn:k < n
 ·(refine wx_Mm ?_;repeat' (first|with_reducible refine And.intro ?_ ?_|intro hsp))
  exact F3 (k+1) [] (by (try dsimp only);omega) (by first|omega|(dsimp only;omega)) rfl (by ((try dsimp only);rw [updV_z0,updV_w0,updV_b0,upTo_s]);exact Ak0)
 ·obtain rfl:k=n:=by omega
  (refine wx_Mm ?_;repeat' (first|with_reducible refine And.intro ?_ ?_|intro hsp))
  (refine F6 [34] (fun (j:Nat)=>[(5,.ptr 0 0),(35,.int .i64 (j:Nat))]) (fun (j:Nat)=>⟨[(0,.cells [.sl 1 0 k k 7,.sl 2 0 m m 3,.int .i64 0]),(1,.cells (C9 k (fun _=>z0) (fun _=>w0) (fun _=>w0) (fun _=>b0) (upTo k (-1)) (upTo k (-1)) (upTo k (-1)))),(2,.cells (J5 m (upTo j (-1)) (upTo j (-1)) fun _=>0))],3⟩) (fun (j:Nat)=>j≤m) (fun (j:Nat)=>m - j) (0) [] rfl (fun _=>by first|exact Nat.zero_le _|(dsimp only;omega)) ?_ (by ((try (conv=>whnf));(rw [upTo_0]);exact Ak0)) ?_)
  ·exact Nat.zero_le _
  intro j hj
  by_cases hjm:j < m
  ·(refine wx_Mm ?_;repeat' (first|with_reducible refine And.intro ?_ ?_|intro hsp))
   exact F3 (j+1) [] (by (try dsimp only);omega) (by first|omega|(dsimp only;omega)) rfl (by ((try dsimp only);rw [upd_zero,upTo_s]);exact Ak0)
  ·obtain rfl:j=m:=by omega
   (refine wx_Mm ?_;repeat' (first|with_reducible refine And.intro ?_ ?_|intro hsp))
   exact I8 (AI5 ⟨X9 rfl (show 0 < 3 by decide),L8 rfl,trivial⟩) rfl rfl rfl
end
end Go.Proofs.YtphggldkligldaaGreat.Sh
namespace Go.Proofs.YtphggldkligldaaGreat.Sh
open Go Go.Am Go.Pol
section
variable {n m:Nat}
theorem cx_new {n m nx:Nat} {l:List (Nat × AObj)} {K:AV→Hp→Prop} (h1:1≤n) (h2:n≤2000) (h3:1≤m) (h4:m≤64) (hk:K (.tup [.ptr nx 0,.int .i64 0]) ⟨[(nx,.cells [.sl (nx+1) 0 n n 7,.sl (nx+2) 0 m m 3,.int .i64 0]),(nx+1,.cells (C9 n (fun _=>z0) (fun _=>w0) (fun _=>w0) (fun _=>b0) (S0 n m).L (S0 n m).N (S0 n m).P)),(nx+2,.cells (J5 m (S0 n m).A (S0 n m).B (S0 n m).C))]++l,nx+3⟩) :
  AB8 Tryz.prog G0 (.fn 153 [] []) [.int .i64 (n:Nat),.int .i64 (m:Nat)] ⟨l,nx⟩ K:=by
 have k0:back [] nx 0 nx:=rfl
 have k1:back [] nx 1 (nx+1):=rfl
 have k2:back [] nx 2 (nx+2):=rfl
 refine AA9 (r':=.tup [.ptr nx 0,.int .i64 0]) (l1:=[(nx,.cells [.sl (nx+1) 0 n n 7,.sl (nx+2) 0 m m 3,.int .i64 0]),(nx+1,.cells (C9 n (fun _=>z0) (fun _=>w0) (fun _=>w0) (fun _=>b0) (S0 n m).L (S0 n m).N (S0 n m).P)),(nx+2,.cells (J5 m (S0 n m).A (S0 n m).B (S0 n m).C))]) [] (l_new n m h1 h2 h3 h4) I7 rfl .nil (C8 (by simp [A8])) (by simp) (Aw5 ⟨H8 k0,D6 A8,trivial⟩)
  (.cons k0 ⟨J7 k1,J7 k2,D6 A8,trivial⟩ (.cons k1 (C8 F5) (.cons k2 (C8 F8) .nil))) ?_
 have e:∀ {l:List (Nat × AObj)} {k:List (Nat × AObj)→Prop},k l→AG1 [] l k:=fun {l}=>by
  induction l with
  | nil=>exact fun h=>h
  | cons a l ih=>exact fun {k} h=>ih (k:=fun r=>k (a::r)) h
 exact e hk
theorem AK9 {f:Nat} {avs:List AV} {fr fr':Int} {V W V3 V4:Nat→PV} {L N P A B C:Nat→Int} {V' W' V3' V4':Nat→PV} {L' N' P' A' B' C':Nat→Int} {a b c:Nat} {h:Hp} {r:AV} {K:AV→Up→List Nat→Prop} (hc:AE1 f avs n m (O9 n m fr V W V3 V4 L N P A B C) r (O9 n m fr' V' W' V3' V4' L' N' P' A' B' C'))
  (hl0:lk h.l a=some (.cells [.sl b 0 n n 7,.sl c 0 m m 3,.int .i64 fr])) (hl1:lk h.l b=some (.cells (C9 n V W V3 V4 L N P))) (hl2:lk h.l c=some (.cells (J5 m A B C)))
  (ha:∀ x ∈ avs,Plain x) (hr:Plain r) (hd:AY6 [a,b,c]=true) (hnx':[a,b,c].contains h.next=false)
  (hk:K r [(a,some (.cells [.sl b 0 n n 7,.sl c 0 m m 3,.int .i64 fr'])),(b,some (.cells (C9 n V' W' V3' V4' L' N' P'))),(c,some (.cells (J5 m A' B' C')))] [a,b,c]):AR4 Tryz.prog G0 f (.ptr a 0::avs) h K:=by
 have hnx:h.next ∉ [a,b,c]:=fun hm=>by rw [List.contains_eq_mem,decide_eq_false_iff_not] at hnx';exact hnx' hm
 have e0:enter [a,b,c] a 0:=rfl
 have e1:enter [a,b,c] b 1:=rfl
 have e2:enter [a,b,c] c 2:=rfl
 have k0:U2 [a,b,c] 0 a:=rfl
 have k1:U2 [a,b,c] 1 b:=rfl
 have k2:U2 [a,b,c] 2 c:=rfl
 refine At3 (l1:=[(a,.cells [.sl b 0 n n 7,.sl c 0 m m 3,.int .i64 fr']),(b,.cells (C9 n V' W' V3' V4' L' N' P')),(c,.cells (J5 m A' B' C'))]) [a,b,c] hc.out I7 hd
  (.cons e0 hl0 ⟨J7 e1,J7 e2,D6 A8,trivial⟩ (.cons e1 hl1 (C8 F5) (.cons e2 hl2 (C8 F8) .nil)))
  hnx ?_ ?_ ⟨H8 e0,C8 ha⟩ (D6 hr)
  (.cons k0 ⟨J7 k1,J7 k2,D6 A8,trivial⟩ (.cons k1 (C8 F5) (.cons k2 (C8 F8) .nil))) hk
 ·intro x hx
  simp only [lk]
  split
  ·exact ⟨_,rfl⟩
  ·split
   ·exact ⟨_,rfl⟩
   ·rename_i h1 h2
    rw [if_pos (by simp only [List.mem_cons,List.not_mem_nil,or_false] at hx;omega)];exact ⟨_,rfl⟩
 ·intro j x hx
  have : j < 3:=(List.getElem?_eq_some_iff.1 hx).1
  simp only [O9,lk]
  split
  ·exact ⟨_,rfl⟩
  ·split
   ·exact ⟨_,rfl⟩
   ·rw [if_pos (by omega)];exact ⟨_,rfl⟩

end
end Go.Proofs.YtphggldkligldaaGreat.Sh
