/-
 Plain laws on bytes of a page: the runs of a set of bytes,the numbers whose bits they are,the merging of neighbouring runs. No program in sight.
 Plain laws on the merging of neighbouring cuts. No program in sight.
 Plain laws: the runs of the bytes of cuts that lie as they should are these cuts;the number whose bits they are. No program in sight.
 Plain words of layer 15: cuts,pages,states,and what is wrong with them. No program in sight.
-/
import Derived.Lib.TrailingZeros
import Derived.Test.YtkahmhmkhfllpaaDoorAmSix
set_option linter.unusedSimpArgs false
set_option linter.unusedVariables false
namespace Go.Pol
abbrev Cut:=Int × Int
def bump:List Cut→List Cut
 | [] => []
 | [c]=>[(c.1,c.2+1)]
 | c::d::l=>c::bump (d::l)
theorem bump_snoc (l:List Cut) (c:Cut):bump (l++[c])=l++[(c.1,c.2+1)]:=by
 induction l with
 | nil=>rfl
 | cons a l ih=>cases l with
  | nil=>rfl
  | cons b l=>simp only [List.cons_append,bump] at *;rw [ih]
theorem bump_length (l:List Cut):(bump l).length=l.length:=by
 induction l with
 | nil=>rfl
 | cons a l ih=>cases l with
  | nil=>rfl
  | cons b l=>simp only [bump,List.length_cons] at *;omega
def stepRun (m:Nat→Bool) (l:List Cut) (b:Nat):List Cut :=
 if m b then (if 0 < b∧m (b - 1) then bump l else l++[((b:Int),1)]) else l
def runs (m:Nat→Bool):Nat→List Cut
 | 0 => []
 | b+1=>stepRun m (runs m b) b
theorem runs_const (m:Nat→Bool) (a:Nat):∀ n,(∀ b,a≤b→b < a+n→m b=false)→runs m (a+n)=runs m a
 | 0,_=>rfl
 | n+1,h=>by
  show stepRun m (runs m (a+n)) (a+n)=_
  unfold stepRun
  rw [if_neg (by rw [h (a+n) (by omega) (by omega)];decide)]
  exact runs_const m a n fun b h1 h2=>h b h1 (by omega)
theorem runs_run (m:Nat→Bool) (f:Nat) (h0:f=0∨m (f - 1)=false):∀ n,(∀ b,f≤b→b < f+(n+1)→m b=true)→runs m (f+(n+1))=runs m f++[((f:Int),((n+1:Nat):Int))]
 | 0,h=>by
  show stepRun m (runs m f) f=_
  unfold stepRun
  rw [if_pos (h f (by omega) (by omega)),if_neg]
  ·rfl
  ·rintro ⟨h1,h2⟩
   rcases h0 with h0|h0
   ·omega
   ·rw [h0] at h2;cases h2
 | n+1,h=>by
  show stepRun m (runs m (f+(n+1))) (f+(n+1))=_
  unfold stepRun
  rw [if_pos (h _ (by omega) (by omega)),if_pos ⟨by omega,h _ (by omega) (by omega)⟩,runs_run m f h0 n (fun b h1 h2=>h b h1 (by omega)),bump_snoc]
  simp
theorem runs_congr {m m':Nat→Bool}:∀ n,(∀ b,b < n→m b=m' b)→runs m n=runs m' n
 | 0,_=>rfl
 | n+1,h=>by
  show stepRun m (runs m n) n=stepRun m' (runs m' n) n
  rw [runs_congr n fun b hb=>h b (by omega)]
  unfold stepRun
  rw [h n (by omega)]
  rcases Nat.eq_zero_or_pos n with h0|h0
  ·subst h0;rfl
  ·rw [h (n - 1) (by omega)]
theorem runs_length (m:Nat→Bool):∀ n,(runs m n).length≤n
 | 0=>Nat.le_refl _
 | n+1=>by
  have:=runs_length m n
  show (stepRun m (runs m n) n).length≤_
  unfold stepRun
  split
  ·split
   ·rw [bump_length];omega
   ·simp;omega
  ·omega

theorem ctz_spec {x:Nat} (h0:x ≠ 0) (hx:x < 18446744073709551616):Lib.ctz 64 x < 64∧x.testBit (Lib.ctz 64 x)=true∧∀ i,i < Lib.ctz 64 x→x.testBit i=false:=by
 obtain ⟨k,hk,hlt⟩:=Lib.ctzFrom_spec 64 x (by omega) hx
 have e:Lib.ctz 64 x=Lib.ctzFrom 64 x:=by simp [Lib.ctz,h0]
 rw [e]
 generalize Lib.ctzFrom 64 x=z at *
 refine ⟨hlt,?_,fun i hi=>?_⟩
 ·rw [hk,Nat.testBit_two_pow_mul]
  simp
 ·rw [hk,Nat.testBit_two_pow_mul]
  simp;omega
theorem ctz_zero:Lib.ctz 64 0=64:=rfl
theorem not_bit {x:Nat} (j:Nat):(18446744073709551615 ^^^ x).testBit j=(decide (j < 64) ^^ x.testBit j):=by
 rw [Nat.testBit_xor]
 have:=Nat.testBit_two_pow_sub_one 64 j
 rw [show (18446744073709551615:Nat)=2 ^ 64 - 1 from rfl,this]
theorem bit_ge {x j:Nat} (hx:x < 18446744073709551616) (hj:64≤j):x.testBit j=false:=by
 apply Nat.testBit_lt_two_pow
 have : 2 ^ 64≤2 ^ j:=Nat.pow_le_pow_right (by omega) hj
 omega
def cmpl (x:Nat):Nat:=18446744073709551615 ^^^ x
def U64 (x:Nat):Prop:=x < 18446744073709551616
theorem U64.div {x:Nat} (h:U64 x) (k:Nat):U64 (x / k):=Nat.lt_of_le_of_lt (Nat.div_le_self _ _) h
theorem U64.cmpl {x:Nat} (h:U64 x):U64 (cmpl x):=Nat.xor_lt_two_pow (n:=64) (by omega) h
theorem cut_next {m a z n:Nat} (hm:U64 m) (hne:m / 2 ^ a ≠ 0) (hz:Lib.ctz 64 (m / 2 ^ a)=z) (hn:Lib.ctz 64 (cmpl (m / 2 ^ (a+z)))=n) :
  a+z < 64∧1≤n∧a+z+n≤64∧(∀ b,a≤b→b < a+z→m.testBit b=false)∧(∀ b,a+z≤b→b < a+z+n→m.testBit b=true)∧(a+z+n < 64→m.testBit (a+z+n)=false):=by
 unfold U64 at hm
 unfold Go.Pol.cmpl at hn
 have hq:m / 2 ^ a < 18446744073709551616:=Nat.lt_of_le_of_lt (Nat.div_le_self _ _) hm
 obtain ⟨hz64,hzt,hzf⟩:=ctz_spec hne hq
 rw [hz] at hz64 hzt hzf
 rw [Nat.testBit_div_two_pow] at hzt
 have e1:z+a=a+z:=Nat.add_comm _ _
 have hlt:a+z < 64:=by
  rcases Nat.lt_or_ge (a+z) 64 with h|h
  ·exact h
  ·rw [e1,bit_ge hm h] at hzt;cases hzt
 have hzero:∀ b,a≤b→b < a+z→m.testBit b=false:=fun b h1 h2=>by
  have:=hzf (b - a) (by omega)
  rw [Nat.testBit_div_two_pow] at this
  rwa [show b - a+a=b by omega] at this
 have hy:∀ j,(18446744073709551615 ^^^ (m / 2 ^ (a+z))).testBit j=(decide (j < 64) ^^ m.testBit (j+(a+z))):=fun j=>by rw [not_bit,Nat.testBit_div_two_pow]
 have hylt:18446744073709551615 ^^^ (m / 2 ^ (a+z)) < 18446744073709551616:=Nat.xor_lt_two_pow (n:=64) (by omega) (Nat.lt_of_le_of_lt (Nat.div_le_self _ _) hm)
 by_cases h0:18446744073709551615 ^^^ (m / 2 ^ (a+z))=0
 ·rw [h0,ctz_zero] at hn
  have hall:∀ j,j < 64→m.testBit (j+(a+z))=true:=fun j hj=>by
   have:=hy j
   rw [h0] at this
   simpa [hj] using this
  have haz:a+z=0:=by
   rcases Nat.eq_zero_or_pos (a+z) with h|h
   ·exact h
   ·have:=hall (64 - (a+z)) (by omega)
    rw [bit_ge hm (by omega)] at this
    cases this
  refine ⟨hlt,by omega,by omega,hzero,fun b h1 h2=>?_,fun h=>by omega⟩
  have:=hall (b - (a+z)) (by omega)
  rwa [show b - (a+z)+(a+z)=b by omega] at this
 ·obtain ⟨k1,k2,k3⟩:=ctz_spec h0 hylt
  rw [hn] at k1 k2 k3
  rw [hy] at k2
  have hbits:∀ b,a+z≤b→b < a+z+n→m.testBit b=true:=fun b h1 h2=>by
   have:=k3 (b - (a+z)) (by omega)
   rw [hy,show b - (a+z)+(a+z)=b by omega] at this
   simpa [show b - (a+z) < 64 by omega] using this
  have hend:m.testBit (a+z+n)=false:=by
   rw [show n+(a+z)=a+z+n by omega] at k2
   simpa [k1] using k2
  have hle:a+z+n≤64:=by
   rcases Nat.lt_or_ge 64 (a+z+n) with h|h
   ·have:=hbits 64 (by omega) h
    rw [bit_ge hm (Nat.le_refl _)] at this
    cases this
   ·exact h
  refine ⟨hlt,?_,hle,hzero,hbits,fun _=>hend⟩
  rcases Nat.eq_zero_or_pos n with h|h
  ·subst h
   rw [e1] at hzt
   simp [hzt] at hend
  ·exact h
def cutsM (m:Nat):List Cut:=runs m.testBit 64
theorem cuts_end {m a:Nat} (ha:a≤64) (h:m / 2 ^ a=0):runs m.testBit a=cutsM m:=by
 have:=runs_const m.testBit a (64 - a) fun b h1 h2=>by
  have hb:(m / 2 ^ a).testBit (b - a)=m.testBit (b - a+a):=by rw [Nat.testBit_div_two_pow]
  rw [h,show b - a+a=b by omega] at hb
  simpa using hb.symm
 rw [show a+(64 - a)=64 by omega] at this
 exact this.symm
theorem cuts_step {m a z n:Nat} (h0:a=0∨m.testBit a=false) (hn:1≤n) (h1:∀ b,a≤b→b < a+z→m.testBit b=false) (h2:∀ b,a+z≤b→b < a+z+n→m.testBit b=true) :
  runs m.testBit (a+z+n)=runs m.testBit a++[((a:Int)+z,(n:Int))]:=by
 obtain ⟨n,rfl⟩:∃ k,n=k+1:=⟨n - 1,by omega⟩
 have hc:((a:Int)+z,((n+1:Nat):Int))=(((a+z:Nat):Int),((n+1:Nat):Int)):=by simp
 rw [hc,runs_run m.testBit (a+z) ?_ n h2,runs_const m.testBit a z h1]
 rcases Nat.eq_zero_or_pos z with hz|hz
 ·subst hz
  rcases h0 with h0|h0
  ·exact .inl (by omega)
  ·have:=h2 a (by omega) (by omega)
   rw [h0] at this;cases this
 ·exact .inr (h1 _ (by omega) (by omega))
end Go.Pol
namespace Go.Pol
def gapL (l:List Cut) (k:Nat):Int:=(nth (0,0) l (k+1)).1 - (nth (0,0) l k).1 - (nth (0,0) l k).2
def bestL (l:List Cut):Nat→Nat
 | 0 => 0
 | k+1=>if gapL l k < gapL l (bestL l k) then k else bestL l k
theorem bestL_lt (l:List Cut):∀ n,0 < n→bestL l n < n
 | 0,h=>by omega
 | 1,_=>by unfold bestL;split<;>simp [bestL]
 | n+2,_=>by
  have:=bestL_lt l (n+1) (by omega)
  unfold bestL
  split<;>omega
def widen (l:List Cut) (b:Nat):List Cut:=l.set b ((nth (0,0) l b).1,(nth (0,0) l (b+1)).1+(nth (0,0) l (b+1)).2 - (nth (0,0) l b).1)
def merge1 (l:List Cut):List Cut:=(widen l (bestL l (l.length - 1))).eraseIdx (bestL l (l.length - 1)+1)
theorem widen_length (l:List Cut) (b:Nat):(widen l b).length=l.length:=by simp [widen]
theorem merge1_length {l:List Cut} (h:4 < l.length):(merge1 l).length=l.length - 1:=by
 have:=bestL_lt l (l.length - 1) (by omega)
 unfold merge1
 rw [List.length_eraseIdx,widen_length,if_pos (by omega)]
def mergeN:Nat→List Cut→List Cut
 | 0,l=>l
 | n+1,l=>if 4 < l.length then mergeN n (merge1 l) else l
def mergeL (l:List Cut):List Cut:=mergeN l.length l
theorem mergeN_stop {l:List Cut} (h:¬ 4 < l.length):∀ n,mergeN n l=l
 | 0=>rfl
 | n+1=>by rw [mergeN,if_neg h]
theorem mergeN_enough:∀ (n m:Nat) (l:List Cut),l.length≤n→l.length≤m→mergeN n l=mergeN m l
 | 0,m,l,h,_=>by rw [mergeN_stop (by omega),mergeN_stop (by omega)]
 | n+1,0,l,_,h=>by rw [mergeN_stop (by omega),mergeN_stop (by omega)]
 | n+1,m+1,l,h1,h2=>by
  unfold mergeN
  split
  ·rename_i h
   have:=merge1_length h
   exact mergeN_enough n m _ (by omega) (by omega)
  ·rfl
theorem mergeL_step {l:List Cut} (h:4 < l.length):mergeL (merge1 l)=mergeL l:=by
 have h1:=merge1_length h
 unfold mergeL
 obtain ⟨n,hn⟩:∃ n,l.length=n+1:=⟨l.length - 1,by omega⟩
 rw [hn,mergeN,if_pos h]
 exact mergeN_enough _ _ _ (Nat.le_refl _) (by omega)
theorem mergeL_stop {l:List Cut} (h:¬ 4 < l.length):mergeL l=l:=mergeN_stop h _
def downM (m:Nat):List Cut:=mergeL (cutsM m)

def Sep:Int→List Cut→Prop
 | _,[]=>True
 | a,c::l=>a≤c.1∧1≤c.2∧c.1+c.2≤64∧Sep (c.1+c.2+1) l
theorem Sep.mono {a b:Int} {l:List Cut} (h:Sep a l) (hb:b≤a):Sep b l:=by
 cases l with
 | nil=>trivial
 | cons c l=>exact ⟨by have:=h.1;omega,h.2⟩
theorem Sep.at_:∀ {l:List Cut} {a:Int} (_:Sep a l) {k:Nat},k < l.length→a≤(nth (0,0) l k).1∧1≤(nth (0,0) l k).2∧(nth (0,0) l k).1+(nth (0,0) l k).2≤64 ∧
  (k+1 < l.length→(nth (0,0) l k).1+(nth (0,0) l k).2+1≤(nth (0,0) l (k+1)).1)
 | [],_,_,_,hk=>by simp at hk
 | c::l,a,h,0,_=>by
  refine ⟨h.1,h.2.1,h.2.2.1,fun h1=>?_⟩
  cases l with
  | nil=>simp at h1
  | cons d l=>exact h.2.2.2.1
 | c::l,a,h,k+1,hk=>by
  have h0:=h.1
  have h1:=h.2.1
  have:=Sep.at_ h.2.2.2 (k:=k) (by simpa using hk)
  exact ⟨by have:=this.1;show a≤(nth (0,0) l k).1;omega,this.2.1,this.2.2.1,fun h2=>this.2.2.2 (by simpa using h2)⟩
theorem Sep.gap {a:Int} {l:List Cut} (h:Sep a l) {k:Nat} (hk:k+1 < l.length):1≤gapL l k∧gapL l k≤62 - a:=by
 have h1:=h.at_ (k:=k) (by omega)
 have h2:=h.at_ (k:=k+1) hk
 have:=h1.2.2.2 hk
 unfold gapL
 omega
end Go.Pol
namespace Go.Pol
def inCuts (l:List Cut) (b:Nat):Bool:=l.any fun c=>decide (c.1≤(b:Int)∧(b:Int) < c.1+c.2)
theorem inCuts_append (l l':List Cut) (b:Nat):inCuts (l++l') b=(inCuts l b || inCuts l' b):=by simp [inCuts]
theorem inCuts_one (c:Cut) (b:Nat):inCuts [c] b=decide (c.1≤(b:Int)∧(b:Int) < c.1+c.2):=by simp [inCuts]
theorem inCuts_false {l:List Cut} {b:Nat} (h:∀ c ∈ l,¬ (c.1≤(b:Int)∧(b:Int) < c.1+c.2)):inCuts l b=false:=by
 simp only [inCuts,List.any_eq_false,decide_eq_true_eq]
 exact h
theorem Sep.snoc:∀ {l:List Cut} {a:Int} {c:Cut},Sep a l→a≤c.1→(∀ d ∈ l,d.1+d.2+1≤c.1)→1≤c.2→c.1+c.2≤64→Sep a (l++[c])
 | [],_,_,_,h1,_,h3,h4=>⟨h1,h3,h4,trivial⟩
 | d::l,_,_,h,_,h2,h3,h4=>⟨h.1,h.2.1,h.2.2.1,Sep.snoc h.2.2.2 (h2 d (by simp)) (fun x hx=>h2 x (by simp [hx])) h3 h4⟩
theorem Sep.init:∀ {l:List Cut} {a:Int} {c:Cut},Sep a (l++[c])→Sep a l∧a≤c.1∧(∀ d ∈ l,d.1+d.2+1≤c.1)∧1≤c.2∧c.1+c.2≤64
 | [],_,_,h=>⟨trivial,h.1,by simp,h.2.1,h.2.2.1⟩
 | d::l,a,c,h=>by
  obtain ⟨h1,h2,h3,h4,h5⟩:=Sep.init h.2.2.2
  have:=h.1
  have:=h.2.1
  exact ⟨⟨h.1,h.2.1,h.2.2.1,h1⟩,by omega,fun x hx=>by
   rcases List.mem_cons.1 hx with rfl|hx
   ·exact h2
   ·exact h3 x hx,h4,h5⟩
theorem Sep.all:∀ {l:List Cut} {a:Int},Sep a l→∀ c ∈ l,a≤c.1∧1≤c.2∧c.1+c.2≤64
 | [],_,_,c,hc=>by simp at hc
 | d::l,a,h,c,hc=>by
  rcases List.mem_cons.1 hc with rfl|hc
  ·exact ⟨h.1,h.2.1,h.2.2.1⟩
  ·have:=h.2.2.2.all c hc
   have:=h.1
   have:=h.2.1
   exact ⟨by omega,by omega,by omega⟩
theorem runs_ok (m:Nat→Bool):∀ n:Nat,n≤64→Sep 0 (runs m n)∧(∀ c ∈ runs m n,c.1+c.2≤(n:Int))∧(0 < n→m (n - 1)=false→∀ c ∈ runs m n,c.1+c.2 < (n:Int)) ∧
  (0 < n→m (n - 1)=true→∃ (l:List Cut) (c:Cut),runs m n=l++[c]∧c.1+c.2=(n:Int))
 | 0,_=>⟨trivial,by simp [runs],fun h=>by omega,fun h=>by omega⟩
 | n+1,hn=>by
  obtain ⟨h1,h2,h3,h4⟩:=runs_ok m n (by omega)
  have e:runs m (n+1)=stepRun m (runs m n) n:=rfl
  rw [e]
  unfold stepRun
  by_cases hm:m n=true
  ·rw [if_pos hm]
   by_cases hp:0 < n∧m (n - 1)=true
   ·rw [if_pos hp]
    obtain ⟨l,c,hl,hc⟩:=h4 hp.1 hp.2
    rw [hl,bump_snoc]
    rw [hl] at h1 h2
    obtain ⟨g1,g2,g3,g4,g5⟩:=h1.init
    refine ⟨Sep.snoc g1 g2 g3 (by first|omega|(simp;omega)) (by first|omega|(simp;omega)),?_,?_,fun _ _=>⟨l,_,rfl,by simp;omega⟩⟩
    ·intro d hd
     rcases List.mem_append.1 hd with hd|hd
     ·have:=h2 d (by simp [hd]);simp;omega
     ·simp at hd;subst hd;simp;omega
    ·intro _ hf
     simp [hm] at hf
   ·rw [if_neg hp]
    have hlt:∀ c ∈ runs m n,c.1+c.2+1≤(n:Int):=fun c hc=>by
     rcases Nat.eq_zero_or_pos n with h0|h0
     ·subst h0;simp [runs] at hc
     ·have:=h3 h0 (by simpa [h0] using hp) c hc
      omega
    refine ⟨Sep.snoc h1 (by simp) hlt (by simp) (by first|omega|(simp;omega)),?_,?_,fun _ _=>⟨_,_,rfl,by simp⟩⟩
    ·intro d hd
     rcases List.mem_append.1 hd with hd|hd
     ·have:=h2 d hd;simp;omega
     ·simp at hd;subst hd;simp
    ·intro _ hf
     simp [hm] at hf
  ·rw [if_neg hm]
   refine ⟨h1,fun c hc=>by have:=h2 c hc;simp;omega,fun _ _ c hc=>by have:=h2 c hc;simp;omega,fun _ hf=>by simp [hm] at hf⟩
theorem runs_sep (m:Nat→Bool):Sep 0 (runs m 64):=(runs_ok m 64 (by omega)).1
theorem sep_runs_to:∀ (k:Nat) (l:List Cut),l.length=k→Sep 0 l→∀ n:Nat,n≤64→(∀ c ∈ l,c.1+c.2≤(n:Int))→runs (inCuts l) n=l
 | 0,l,hl,_,n,_,_=>by
  have : l=[]:=List.eq_nil_of_length_eq_zero hl
  subst this
  have:=runs_const (inCuts []) 0 n fun b _ _=>rfl
  rw [Nat.zero_add] at this
  exact this
 | k+1,l,hl,hs,n,hn,he=>by
  rcases List.eq_nil_or_concat l with rfl | ⟨l',c,rfl⟩
  ·simp at hl
  ·rw [List.concat_eq_append] at *
   obtain ⟨h1,h2,h3,h4,h5⟩:=hs.init
   have hcn:=he c (by simp)
   obtain ⟨f,hf⟩:=Int.eq_ofNat_of_zero_le h2
   obtain ⟨q,hq⟩:∃ q:Nat,c.2=((q+1:Nat):Int):=⟨(c.2 - 1).toNat,by omega⟩
   have hends:∀ d ∈ l',d.1+d.2≤(f:Int) - 1:=fun d hd=>by have:=h3 d hd;omega
   have ih:=sep_runs_to k l' (by simpa using hl) h1 f (by omega) (fun d hd=>by have:=hends d hd;omega)
   have e1:runs (inCuts (l'++[c])) f=l':=(runs_congr f fun b hb=>by
     rw [inCuts_append,inCuts_one]
     have : decide (c.1≤(b:Int)∧(b:Int) < c.1+c.2)=false:=by simp;omega
     rw [this,Bool.or_false]).trans ih
   have e2:=runs_run (inCuts (l'++[c])) f (by
    rcases Nat.eq_zero_or_pos f with h0|h0
    ·exact .inl h0
    ·right
     rw [inCuts_append,inCuts_one,inCuts_false fun d hd hx=>by have:=hends d hd;omega]
     simp;omega) q (fun b h1 h2=>by
     rw [inCuts_append,inCuts_one]
     have : decide (c.1≤(b:Int)∧(b:Int) < c.1+c.2)=true:=by simp;omega
     rw [this];simp)
   have e3:=runs_const (inCuts (l'++[c])) (f+(q+1)) (n - (f+(q+1))) (fun b h1 h2=>by
    apply inCuts_false
    intro d hd hx
    rcases List.mem_append.1 hd with hd|hd
    ·have:=hends d hd;omega
    ·simp at hd;subst hd;omega)
   rw [show f+(q+1)+(n - (f+(q+1)))=n by omega] at e3
   rw [e3,e2,e1,← hq]
   have : ((f:Int),c.2)=c:=Prod.ext (by first|omega|(simp;omega)) rfl
   rw [this]
theorem sep_runs {l:List Cut} (h:Sep 0 l):runs (inCuts l) 64=l:=sep_runs_to _ l rfl h 64 (Nat.le_refl _) fun c hc=>(h.all c hc).2.2
theorem inCuts_runs (m:Nat→Bool):∀ n:Nat,n≤64→∀ b:Nat,inCuts (runs m n) b=(decide (b < n) && m b)
 | 0,_,b=>by simp [runs,inCuts]
 | n+1,hn,b=>by
  have ih:=inCuts_runs m n (by omega) b
  obtain ⟨h1,h2,h3,h4⟩:=runs_ok m n (by omega)
  have e:runs m (n+1)=stepRun m (runs m n) n:=rfl
  rw [e]
  unfold stepRun
  by_cases hm:m n=true
  ·rw [if_pos hm]
   by_cases hp:0 < n∧m (n - 1)=true
   ·rw [if_pos hp]
    obtain ⟨l,c,hl,hc⟩:=h4 hp.1 hp.2
    rw [hl] at ih h1 ⊢
    have hc1:=h1.init.2.1
    have hc2:=h1.init.2.2.2.1
    rw [bump_snoc,inCuts_append,inCuts_one]
    rw [inCuts_append,inCuts_one] at ih
    by_cases hb:b=n
    ·subst hb
     have : decide (c.1≤(b:Int)∧(b:Int) < c.1+(c.2+1))=true:=by simp;omega
     simp only [this,hm]
     simp
    ·have : decide (c.1≤(b:Int)∧(b:Int) < c.1+(c.2+1))=decide (c.1≤(b:Int)∧(b:Int) < c.1+c.2):=by
      rw [Bool.eq_iff_iff];simp;omega
     simp only [this,ih]
     have : decide (b < n+1)=decide (b < n):=by rw [Bool.eq_iff_iff];simp;omega
     rw [this]
   ·rw [if_neg hp,inCuts_append,inCuts_one,ih]
    by_cases hb:b=n
    ·subst hb;simp [hm];omega
    ·have e1:decide ((((n:Int),(1:Int)):Cut).1≤(b:Int)∧(b:Int) < (((n:Int),(1:Int)):Cut).1+(((n:Int),(1:Int)):Cut).2)=false:=by simp;omega
     have e2:decide (b < n+1)=decide (b < n):=by rw [Bool.eq_iff_iff];simp;omega
     rw [e1,e2];simp
  ·rw [if_neg hm,ih]
   by_cases hb:b=n
   ·subst hb;simp [hm]
   ·have e2:decide (b < n+1)=decide (b < n):=by rw [Bool.eq_iff_iff];simp;omega
    rw [e2]

def runM (c:Cut):Nat:=(2 ^ c.2.toNat - 1) * 2 ^ c.1.toNat
def unionM (l:List Cut):Nat:=l.foldl (fun m c=>m ||| runM c) 0
theorem runM_bit (c:Cut) (h0:0≤c.1) (h1:0≤c.2) (b:Nat):(runM c).testBit b=decide (c.1≤(b:Int)∧(b:Int) < c.1+c.2):=by
 unfold runM
 rw [Nat.mul_comm,Nat.testBit_two_pow_mul,Nat.testBit_two_pow_sub_one,Bool.eq_iff_iff]
 simp
 omega
theorem fold_or (l:List Cut):∀ m,l.foldl (fun m c=>m ||| runM c) m=m ||| unionM l:=by
 unfold unionM
 induction l with
 | nil=>intro m;simp
 | cons c l ih =>
  intro m
  rw [List.foldl_cons,List.foldl_cons,ih,ih (0 ||| runM c)]
  simp [Nat.or_assoc]
theorem unionM_snoc (l:List Cut) (c:Cut):unionM (l++[c])=unionM l ||| runM c:=by
 simp [unionM]
theorem unionM_bit (l:List Cut) (h:∀ c ∈ l,0≤c.1∧0≤c.2) (b:Nat):(unionM l).testBit b=inCuts l b:=by
 induction l with
 | nil=>simp [unionM,inCuts]
 | cons c l ih =>
  unfold unionM
  rw [List.foldl_cons,fold_or,Nat.testBit_or,ih (fun d hd=>h d (by simp [hd]))]
  have:=h c (by simp)
  rw [Nat.zero_or,runM_bit c this.1 this.2]
  simp [inCuts]
theorem runM_u64 {c:Cut} (h0:0≤c.1) (h1:0≤c.2) (h2:c.1+c.2≤64):U64 (runM c):=by
 unfold U64 runM
 have h3:(2 ^ c.2.toNat - 1) * 2 ^ c.1.toNat < 2 ^ c.2.toNat * 2 ^ c.1.toNat:=Nat.mul_lt_mul_of_pos_right (by have:=Nat.pow_pos (a:=2) (n:=c.2.toNat) (by omega);omega) (Nat.pow_pos (by omega))
 rw [← Nat.pow_add] at h3
 have h4:2 ^ (c.2.toNat+c.1.toNat)≤2 ^ 64:=Nat.pow_le_pow_right (by omega) (by omega)
 omega
theorem U64.or {x y:Nat} (hx:U64 x) (hy:U64 y):U64 (x ||| y):=Nat.or_lt_two_pow (n:=64) hx hy
theorem unionM_u64 {l:List Cut} (h:∀ c ∈ l,0≤c.1∧0≤c.2∧c.1+c.2≤64):U64 (unionM l):=by
 induction l with
 | nil=>unfold U64 unionM;simp
 | cons c l ih =>
  have h1:=ih fun d hd=>h d (by simp [hd])
  have h2:=h c (by simp)
  show U64 ((c::l).foldl _ 0)
  rw [List.foldl_cons,fold_or,Nat.zero_or]
  exact (runM_u64 h2.1 h2.2.1 h2.2.2).or h1
theorem cutsM_union {l:List Cut} (h:Sep 0 l):cutsM (unionM l)=l:=by
 have h1:∀ c ∈ l,0≤c.1∧0≤c.2:=fun c hc=>by have:=h.all c hc;omega
 unfold cutsM
 rw [runs_congr (m:=(unionM l).testBit) (m':=inCuts l) 64 fun b _=>unionM_bit l h1 b]
 exact sep_runs h
theorem sep_iff {l:List Cut}:cutsM (unionM l)=l ↔ Sep 0 l:=⟨fun h=>by rw [← h];exact runs_sep _,cutsM_union⟩
end Go.Pol
namespace Go.Pol
abbrev Page:=Int × List Cut
theorem ones_shr:∀ n,n < 65→1≤n→18446744073709551615 / 2 ^ (64 - n)=2 ^ n - 1:=by decide +kernel
theorem run_lt {f n:Nat} (h:f+n≤64):(2 ^ n - 1) * 2 ^ f < 18446744073709551616:=by
 have h1:(2 ^ n - 1) * 2 ^ f < 2 ^ n * 2 ^ f:=Nat.mul_lt_mul_of_pos_right (by have:=Nat.pow_pos (a:=2) (n:=n) (by omega);omega) (Nat.pow_pos (by omega))
 rw [← Nat.pow_add] at h1
 have h2:2 ^ (n+f)≤2 ^ 64:=Nat.pow_le_pow_right (by omega) (by omega)
 omega
def badCut (c:Int × Int):Bool:=decide (c.1 < 0∨64≤c.1∨c.2 < 1∨64 - c.1 < c.2)
def okZone (a b:Int):Bool:=decide (0≤a∧a≤65536∧0≤b∧b≤65536 - a)
def okSpan (a b:Int):Bool:=decide (0≤a∧a < 1024∧1≤b∧b≤1024 - a)
theorem bad_u64 {c:Cut} (h:badCut c=false):U64 (runM c):=by
 simp [badCut] at h
 exact runM_u64 h.1 (by omega) (by omega)
def sameL (l1 l2:List (Int × Int)):Bool:=decide (l1=l2)
theorem sameL_len {l1 l2:List (Int × Int)} (h:l1.length ≠ l2.length):sameL l1 l2=false:=by simp [sameL];intro e;exact h (by rw [e])
theorem sameL_all {l1 l2:List (Int × Int)} {k:Nat} (h:l1.length=l2.length) (hk:¬ k < l1.length) (hp:l1.take k=l2.take k):sameL l1 l2=true:=by
 rw [List.take_of_length_le (by omega),List.take_of_length_le (by omega)] at hp
 simp [sameL,hp]
theorem sameL_ne {l1 l2:List (Int × Int)} {k:Nat} (h:nth (0,0) l1 k ≠ nth (0,0) l2 k):sameL l1 l2=false:=by
 simp only [sameL,decide_eq_false_iff_not];intro e;exact h (by rw [e])
theorem nth_ne {l1 l2:List (Int × Int)} {k:Nat} (h:¬ ((nth (0,0) l1 k).1=(nth (0,0) l2 k).1∧(nth (0,0) l1 k).2=(nth (0,0) l2 k).2)):nth (0,0) l1 k ≠ nth (0,0) l2 k:=fun e=>h (by rw [e];exact ⟨rfl,rfl⟩)
theorem take_step {l1 l2:List (Int × Int)} {k:Nat} (hl:l1.length=l2.length) (hk:k < l1.length) (h:(nth (0,0) l1 k).1=(nth (0,0) l2 k).1∧(nth (0,0) l1 k).2=(nth (0,0) l2 k).2) (hp:l1.take k=l2.take k):l1.take (k+1)=l2.take (k+1):=by
 rw [take_nth (d:=(0,0)) hk,take_nth (d:=(0,0)) (by omega),hp,Prod.ext h.1 h.2]
def okPage (p:Page):Bool:=decide (0≤p.1) && decide (p.1 < 1024) && !p.2.any badCut
def okNext (last:Int) (p:Page):Bool:=decide (last < p.1) && decide (0 < p.2.length) && decide (p.2.length≤4) && sameL (cutsM (unionM p.2)) p.2
def okFrom:Int→List Page→Bool
 | _,[]=>true
 | last,p::s=>okNext last p && okFrom p.1 s
def checkM (s:List Page):Int:=if 1024 < s.length then 3 else if s.all okPage then (if okFrom (-1) s then 0 else 6) else 7
def lastP (s:List Page) (k:Nat):Int:=if k=0 then -1 else (nth (0,[]) s (k - 1)).1
theorem okFrom_drop {s:List Page} {k:Nat} (hk:k < s.length):okFrom (lastP s k) (s.drop k)=(okNext (lastP s k) (nth (0,[]) s k) && okFrom (lastP s (k+1)) (s.drop (k+1))):=by
 rw [List.drop_eq_getElem_cons hk,okFrom,nth_get hk]
 congr 2
 unfold lastP
 rw [if_neg (by omega),Nat.add_sub_cancel,nth_get hk]
theorem check_long {s:List Page} (h:1024 < s.length):checkM s=3:=by rw [checkM,if_pos h]
theorem check_range {s:List Page} {k:Nat} (h:¬ 1024 < s.length) (hk:k < s.length) (hb:okPage (nth (0,[]) s k)=false):checkM s=7:=by
 rw [checkM,if_neg h,if_neg]
 simp only [List.all_eq_true]
 intro hall
 rw [hall _ (nth_mem hk)] at hb
 cases hb
theorem all_take_step {s:List Page} {k:Nat} (hk:k < s.length) (h:(s.take k).all okPage=true) (hb:okPage (nth (0,[]) s k)=true):(s.take (k+1)).all okPage=true:=by
 rw [take_nth (d:=(0,[])) hk];simp [h,hb]
theorem check_form {s:List Page} {k:Nat} (h:¬ 1024 < s.length) (ha:s.all okPage=true) (hk:k < s.length) (hf:okFrom (-1) s=okFrom (lastP s k) (s.drop k)) (hb:okNext (lastP s k) (nth (0,[]) s k)=false):checkM s=6:=by
 rw [checkM,if_neg h,if_pos ha,hf,okFrom_drop hk,hb];rfl
theorem check_ok {s:List Page} {k:Nat} (h:¬ 1024 < s.length) (ha:s.all okPage=true) (hk:¬ k < s.length) (hf:okFrom (-1) s=okFrom (lastP s k) (s.drop k)):checkM s=0:=by
 rw [checkM,if_neg h,if_pos ha,hf,List.drop_eq_nil_of_le (by omega)];rfl
theorem form_step {s:List Page} {k:Nat} (hk:k < s.length) (hf:okFrom (-1) s=okFrom (lastP s k) (s.drop k)) (hb:okNext (lastP s k) (nth (0,[]) s k)=true):okFrom (-1) s=okFrom (lastP s (k+1)) (s.drop (k+1)):=by
 rw [hf,okFrom_drop hk,hb];rfl
def stepsB (cuts:List Cut):Prop:=∀ j,j+1 < cuts.length→(nth (0,0) cuts j).1+(nth (0,0) cuts j).2 < (nth (0,0) cuts (j+1)).1
def leastL (l:List Cut) (k:Nat):Int:=if k=0 then 64 else gapL l (bestL l k)
theorem least_yes {l:List Cut} {k:Nat} (h:gapL l k < leastL l k):bestL l (k+1)=k∧leastL l (k+1)=gapL l k:=by
 unfold leastL at *
 rcases Nat.eq_zero_or_pos k with rfl|h0
 ·exact ⟨by simp [bestL],by simp [bestL]⟩
 ·rw [if_neg (by omega)] at h
  have : bestL l (k+1)=k:=by rw [bestL,if_pos h]
  exact ⟨this,by rw [if_neg (by omega),this]⟩
theorem least_no {l:List Cut} {k:Nat} (hs:Sep 0 l) (hk:k+1 < l.length) (h:¬ gapL l k < leastL l k):bestL l (k+1)=bestL l k∧leastL l (k+1)=leastL l k:=by
 unfold leastL at *
 rcases Nat.eq_zero_or_pos k with rfl|h0
 ·have:=hs.gap hk
  rw [if_pos rfl] at h
  omega
 ·rw [if_neg (by omega)] at h
  have : bestL l (k+1)=bestL l k:=by rw [bestL,if_neg h]
  exact ⟨this,by rw [if_neg (by omega),if_neg (by omega),this]⟩
theorem merge_sep:∀ (l:List Cut) (a:Int) (b:Nat),Sep a l→b+1 < l.length→Sep a ((widen l b).eraseIdx (b+1))
 | [],_,_,_,hb=>by simp at hb
 | [c],_,_,_,hb=>by simp at hb
 | c::d::l,a,0,h,_=>by
  have h1:=h.1
  have h2:=h.2.1
  have h3:=h.2.2.2
  have h4:=h3.1
  have h5:=h3.2.1
  refine ⟨h1,?_,?_,?_⟩
  ·show 1≤d.1+d.2 - c.1;omega
  ·show c.1+(d.1+d.2 - c.1)≤64;have:=h3.2.2.1;omega
  ·show Sep (c.1+(d.1+d.2 - c.1)+1) l
   rw [show c.1+(d.1+d.2 - c.1)+1=d.1+d.2+1 by omega]
   exact h3.2.2.2
 | c::d::l,a,b+1,h,hb=>⟨h.1,h.2.1,h.2.2.1,merge_sep (d::l) _ b h.2.2.2 (by simpa using hb)⟩
def lenOf:Value→Nat
 | .slice _ n _=>n
 | _ => 0
end Go.Pol
