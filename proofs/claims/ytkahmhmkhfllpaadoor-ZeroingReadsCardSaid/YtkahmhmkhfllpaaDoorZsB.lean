/-
 Layer 15,plain: states that are put down are valid;what is written,in whatever order. No program in sight.
 What is put down has all bytes;what Given gives has all bytes of the zone that may not be zero: plain.
-/
import Derived.Test.YtkahmhmkhfllpaaDoorZsA
set_option linter.unusedSimpArgs false
set_option linter.unusedVariables false
namespace Go.Pol
theorem mergeN_sepO:∀ (n:Nat) (l:List Cut),Sep 0 l→Sep 0 (mergeN n l)
 | 0,l,h=>h
 | n+1,l,h=>by
  unfold mergeN
  split
  ·rename_i h4
   exact mergeN_sepO n _ (merge_sep l 0 _ h (by have:=bestL_lt l (l.length - 1) (by omega);omega))
  ·exact h
theorem mergeN_four:∀ (n:Nat) (l:List Cut),l.length≤n+4→(mergeN n l).length≤4
 | 0,l,h=>by simpa [mergeN] using h
 | n+1,l,h=>by
  unfold mergeN
  split
  ·rename_i h4
   exact mergeN_four n _ (by have:=merge1_length h4;omega)
  ·omega
theorem down_sep (m:Nat):Sep 0 (downM m):=mergeN_sepO _ _ (runs_sep _)
theorem down_four (m:Nat):(downM m).length≤4:=mergeN_four _ _ (by omega)
theorem sep_good {l:List Cut} (h:Sep 0 l):∀ c ∈ l,badCut c=false:=fun c hc=>by
 have:=h.all c hc
 simp only [badCut,decide_eq_false_iff_not];omega
theorem can_ok:∀ {s:List Page} {last:Int},-1≤last→Can last s→s.all okPage=true∧okFrom last s=true
 | [],_,_,_=>⟨rfl,rfl⟩
 | p::s,last,hl,h=>by
  obtain ⟨h1,h2,h3,h4,h5,h6⟩:=h
  obtain ⟨i1,i2⟩:=can_ok (by omega) h6
  have h7:0 < p.2.length:=List.length_pos_iff.2 h3
  refine ⟨?_,?_⟩
  ·rw [List.all_cons,i1,Bool.and_true]
   simp only [okPage,Bool.and_eq_true,decide_eq_true_eq,Bool.not_eq_true',List.any_eq_false]
   exact ⟨⟨by omega,h2⟩,fun c hc=>by rw [sep_good h5 c hc];simp⟩
  ·simp only [okFrom,okNext,Bool.and_eq_true,decide_eq_true_eq,sameL]
   exact ⟨⟨⟨⟨h1,h7⟩,h4⟩,sep_iff.2 h5⟩,i2⟩
theorem check_can {s:List Page} (h:Can (-1) s) (hs:s.length≤1024):checkM s=0:=by
 obtain ⟨h1,h2⟩:=can_ok (by omega) h
 rw [checkM,if_neg (by omega),if_pos h1,if_pos h2]
theorem can_snoc:∀ {s:List Page} {last:Int} {q:Page},Can last s→last < q.1→(∀ p ∈ s,p.1 < q.1)→q.1 < 1024→q.2 ≠ []→q.2.length≤4→Sep 0 q.2→Can last (s++[q])
 | [],_,_,_,h1,_,h3,h4,h5,h6=>⟨h1,h3,h4,h5,h6,trivial⟩
 | p::s,_,_,h,_,h2,h3,h4,h5,h6=>⟨h.1,h.2.1,h.2.2.1,h.2.2.2.1,h.2.2.2.2.1,can_snoc h.2.2.2.2.2 (h2 p (List.mem_cons_self ..)) (fun r hr=>h2 r (List.mem_cons_of_mem _ hr)) h3 h4 h5 h6⟩
theorem stC_lt {c:Nat→List Cut}:∀ n,∀ p ∈ stC c n,0≤p.1∧p.1 < (n:Nat)
 | 0,p,h=>by cases h
 | n+1,p,h=>by
  rw [stC] at h
  have ih:=stC_lt (c:=c) n
  split at h
  ·have:=ih p h;omega
  ·rcases List.mem_append.1 h with h|h
   ·have:=ih p h;omega
   ·obtain rfl:=List.mem_singleton.1 h
    dsimp only;omega
theorem stC_can {c:Nat→List Cut} (hc:∀ k,Sep 0 (c k)∧(c k).length≤4):∀ n,n≤1024→Can (-1) (stC c n)
 | 0,_=>trivial
 | n+1,hn=>by
  rw [stC]
  split
  ·exact stC_can hc n (by omega)
  ·rename_i h
   exact can_snoc (stC_can hc n (by omega)) (by dsimp only;omega) (fun p hp=>(stC_lt n p hp).2) (by dsimp only;omega) h (hc n).2 (hc n).1
theorem can_four:∀ {s:List Page} {l:Int},Can l s→∀ q ∈ s,q.2.length≤4
 | [],_,_,_,hq=>by cases hq
 | r::s,l,hc,q,hq=>by
  obtain ⟨_,_,_,g4,_,g6⟩:=hc
  rcases List.mem_cons.1 hq with rfl|hq
  ·exact g4
  ·exact can_four g6 q hq
theorem stateM_can {W:Nat→Nat} (hW:∀ k,U64 (W k)):Can (-1) (stateM W 1024):=by
 rw [stateM_stC hW]
 exact stC_can (fun k=>⟨down_sep _,down_four _⟩) _ (Nat.le_refl _)
theorem check_state {W:Nat→Nat} (hW:∀ k,U64 (W k)):checkM (stateM W 1024)=0:=check_can (stateM_can hW) (stateM_length _ _)
theorem ext64 {x y:Nat} (hx:U64 x) (hy:U64 y) (h:∀ b,b < 64→x.testBit b=y.testBit b):x=y:=Nat.eq_of_testBit_eq fun b=>by
 by_cases hb:b < 64
 ·exact h b hb
 ·rw [bit_ge hx (by omega),bit_ge hy (by omega)]
theorem sep_nonneg {l:List Cut} (h:Sep 0 l):∀ c ∈ l,0≤c.1∧0≤c.2:=fun c hc=>by have:=h.all c hc;omega
abbrev Zn:=Nat × Nat
def inZ (l:List Zn) (x:Nat):Bool:=l.any fun z=>decide (z.1≤x∧x < z.1+z.2)
def wrF (l:List Zn) (W:Nat→Nat):Nat→Nat:=l.foldl (fun W z=>turnM opOr W z.1 z.2) W
def wrL (l:List Zn):Nat→Nat:=wrF l fun _=>0
def meets (k:Nat) (z:Zn):Bool:=decide (z.1 < (k+1) * 64∧k * 64 < z.1+z.2)
end Go.Pol
namespace Go.Pol
def inP (p:Int) (l:List Cut) (a:Nat):Bool:=l.any fun c=>decide (p * 64+c.1≤(a:Int)∧(a:Int) < p * 64+c.1+c.2)
def inS (s:List Page) (a:Nat):Bool:=s.any fun p=>inP p.1 p.2 a
theorem merge_in:∀ (l:List Cut) (a:Int) (b:Nat),Sep a l→b+1 < l.length→∀ x,inCuts l x=true→inCuts ((widen l b).eraseIdx (b+1)) x=true
 | [],_,_,_,h,_,_=>by simp at h
 | [c],_,_,_,h,_,_=>by simp at h
 | c::d::l,a,0,h,_,x,hx=>by
  have h1:=h.2.1
  have h2:=h.2.2.2.1
  have h3:=h.2.2.2.2.1
  show inCuts ((c.1,d.1+d.2 - c.1)::l) x=true
  simp only [inCuts,List.any_cons,Bool.or_eq_true,decide_eq_true_eq] at hx ⊢
  rcases hx with hx|hx|hx
  ·exact .inl (by omega)
  ·exact .inl (by omega)
  ·exact .inr hx
 | c::d::l,a,b+1,h,hb,x,hx=>by
  have ih:=merge_in (d::l) _ b h.2.2.2 (by simpa using hb) x
  show inCuts (c::(widen (d::l) b).eraseIdx (b+1)) x=true
  rw [show inCuts (c::d::l) x=(decide (c.1≤(x:Int)∧(x:Int) < c.1+c.2) || inCuts (d::l) x) from rfl,Bool.or_eq_true] at hx
  rw [show inCuts (c::(widen (d::l) b).eraseIdx (b+1)) x=(decide (c.1≤(x:Int)∧(x:Int) < c.1+c.2) || inCuts ((widen (d::l) b).eraseIdx (b+1)) x) from rfl,Bool.or_eq_true]
  exact hx.imp id ih
theorem mergeN_in:∀ (n:Nat) (l:List Cut),Sep 0 l→∀ x,inCuts l x=true→inCuts (mergeN n l) x=true
 | 0,_,_,_,hx=>hx
 | n+1,l,h,x,hx=>by
  unfold mergeN
  split
  ·rename_i h4
   have hb:bestL l (l.length - 1)+1 < l.length:=by have:=bestL_lt l (l.length - 1) (by omega);omega
   exact mergeN_in n _ (merge_sep l 0 _ h hb) x (merge_in l 0 _ h hb x hx)
  ·exact hx
theorem down_in {m b:Nat} (hb:b < 64) (h:m.testBit b=true):inCuts (downM m) b=true:=by
 refine mergeN_in _ _ (runs_sep _) b ?_
 show inCuts (runs m.testBit 64) b=true
 rw [inCuts_runs _ 64 (Nat.le_refl _),decide_eq_true hb,h];rfl
theorem inP_page {n a:Nat} {l:List Cut} (h:Sep 0 l):inP (n:Int) l a=(decide (a / 64=n) && inCuts l (a % 64)):=by
 rw [Bool.eq_iff_iff]
 simp only [inP,inCuts,List.any_eq_true,Bool.and_eq_true,decide_eq_true_eq]
 constructor
 ·rintro ⟨c,hc,h1⟩
  have:=h.all c hc
  exact ⟨by omega,c,hc,by omega⟩
 ·rintro ⟨e,c,hc,h1⟩
  have:=h.all c hc
  exact ⟨c,hc,by omega⟩
theorem inS_stC {c:Nat→List Cut} (hc:∀ k,Sep 0 (c k)) {a:Nat}:∀ n,inS (stC c n) a=(decide (a / 64 < n) && inCuts (c (a / 64)) (a % 64))
 | 0=>by simp [stC,inS]
 | n+1=>by
  have ih:=inS_stC hc (a:=a) n
  rw [stC]
  by_cases h0:c n=[]
  ·rw [if_pos h0,ih]
   by_cases e:a / 64=n
   ·rw [e,h0];simp [inCuts]
   ·rw [show decide (a / 64 < n+1)=decide (a / 64 < n) from decide_eq_decide.2 (by omega)]
  ·rw [if_neg h0,show inS (stC c n++[((n:Int),c n)]) a=(inS (stC c n) a || inP n (c n) a) by simp [inS],ih,inP_page (hc n)]
   by_cases e:a / 64=n
   ·rw [e];simp
   ·rw [show decide (a / 64 < n+1)=decide (a / 64 < n) from decide_eq_decide.2 (by omega),decide_eq_false e];simp
def bitM (M:Nat→Nat) (a:Nat):Bool:=(M (a / 64)).testBit (a % 64)
theorem inS_state {W:Nat→Nat} (hU:∀ k,U64 (W k)) {a:Nat} (ha:a < 65536) (h:bitM W a=true):inS (stateM W 1024) a=true:=by
 rw [stateM_stC hU,inS_stC fun k=>down_sep _,decide_eq_true (by omega),Bool.true_and]
 exact down_in (by omega) h
theorem bit_open {W:Nat→Nat} (hU:∀ k,U64 (W k)) {a:Nat} (ha:a < 65536):bitM (openM (stateM W 1024)) a=inS (stateM W 1024) a:=by
 rw [stateM_stC hU,inS_stC fun k=>down_sep _,decide_eq_true (by omega),Bool.true_and]
 unfold bitM
 rw [openM_stC,if_pos (by omega),unionM_bit _ (sep_nonneg (down_sep _))]
theorem turn_bit {op:Nat→Nat→Nat} {is:Bool} (hop:BitOp op is) {n a:Nat} {M:Nat→Nat} (hM:∀ k,U64 (M k)) (x:Nat):bitM (turnM op M a n) x=if a≤x∧x < a+n then is else bitM M x:=by
 unfold bitM
 rw [(turn_bits hop n a M hM).2 _ _ (by omega),show 64 * (x / 64)+x % 64=x by omega]
theorem cuts_bits {m:Nat} {c:Cut} (hc:c ∈ cutsM m) {x:Nat} (h1:c.1≤(x:Int)) (h2:(x:Int) < c.1+c.2):m.testBit x=true:=by
 have h:inCuts (runs m.testBit 64) x=true:=List.any_eq_true.2 ⟨c,hc,by simp only [decide_eq_true_eq];exact ⟨h1,h2⟩⟩
 rw [inCuts_runs _ 64 (Nat.le_refl _)] at h
 simp only [Bool.and_eq_true] at h
 exact h.2
theorem cutsAt_in {M:Nat→Nat} {a sz:Nat} (hsz:a % 64+sz≤64):(∀ z ∈ cutsAt M a sz,(a:Int)≤z.1∧1≤z.2∧z.1+z.2≤(a:Int)+sz)∧∀ x,a≤x→x < a+sz→bitM M x=true→∃ z ∈ cutsAt M a sz,z.1≤(x:Int)∧(x:Int) < z.1+z.2:=by
 refine ⟨fun z hz=>?_,fun x h1 h2 hx=>?_⟩
 ·obtain ⟨c,hc,rfl⟩:=List.mem_map.1 hz
  have hs:=(runs_sep (M (a / 64) &&& runM ((a % 64:Nat),(sz:Nat))).testBit).all c hc
  have g1:=cuts_bits hc (x:=c.1.toNat) (by omega) (by omega)
  have g2:=cuts_bits hc (x:=(c.1+c.2 - 1).toNat) (by omega) (by omega)
  rw [Nat.testBit_and,runM_bit _ (by dsimp only;omega) (by dsimp only;omega)] at g1 g2
  simp only [Bool.and_eq_true,decide_eq_true_eq] at g1 g2
  dsimp only;omega
 ·have hb:(M (a / 64) &&& runM ((a % 64:Nat),(sz:Nat))).testBit (x % 64)=true:=by
   rw [Nat.testBit_and,runM_bit _ (by dsimp only;omega) (by dsimp only;omega),decide_eq_true (by dsimp only;omega),Bool.and_true,show a / 64=x / 64 by omega]
   exact hx
  have h:inCuts (runs (M (a / 64) &&& runM ((a % 64:Nat),(sz:Nat))).testBit 64) (x % 64)=true:=by
   rw [inCuts_runs _ 64 (Nat.le_refl _),decide_eq_true (by omega),hb];rfl
  obtain ⟨c,hc,hcx⟩:=List.any_eq_true.1 h
  simp only [decide_eq_true_eq] at hcx
  exact ⟨_,List.mem_map.2 ⟨c,hc,rfl⟩,by dsimp only;omega,by dsimp only;omega⟩
theorem given_in {M:Nat→Nat}:∀ (n a:Nat),(∀ z ∈ givenP M a n,(a:Int)≤z.1∧1≤z.2∧z.1+z.2≤(a:Int)+n)∧∀ x,a≤x→x < a+n→bitM M x=true→∃ z ∈ givenP M a n,z.1≤(x:Int)∧(x:Int) < z.1+z.2:=by
 intro n
 induction n using Nat.strongRecOn with
 | ind n ih =>
  intro a
  by_cases h0:n=0
  ·subst h0
   exact ⟨fun z hz=>(by cases hz),fun x h1 h2=>by omega⟩
  ·rw [givenP_step h0]
   obtain ⟨c1,c2⟩:=cutsAt_in (M:=M) (a:=a) (sz:=min n (64 - a % 64)) (by omega)
   obtain ⟨i1,i2⟩:=ih (n - min n (64 - a % 64)) (by omega) (a+min n (64 - a % 64))
   refine ⟨fun z hz=>?_,fun x h1 h2 hx=>?_⟩
   ·rcases List.mem_append.1 hz with hz|hz
    ·have:=c1 z hz;omega
    ·have:=i1 z hz;omega
   ·by_cases h:x < a+min n (64 - a % 64)
    ·obtain ⟨z,hz,g⟩:=c2 x h1 h hx
     exact ⟨z,List.mem_append_left _ hz,g⟩
    ·obtain ⟨z,hz,g⟩:=i2 x (by omega) (by omega) hx
     exact ⟨z,List.mem_append_right _ hz,g⟩
end Go.Pol
