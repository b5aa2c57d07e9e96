/-
 The memory of the two systems;calls over one block.
 The two systems' blocks,by functions of pages.
 refused of both systems.
 The program's make: pages of one kind become another.
 Calls with a function that has one cell of its own;the program's make.
 Reserve,Release,Commit,Decommit,Protect of the program.
 Join and Split of the program.
 make for Join and Split.
 Join and Split of the program.
 The state of both systems,plain;the program's calls over it.
-/
import Derived.Test.YtbhgfoikbkaohaaGreatVmA
set_option linter.unusedSimpArgs false
set_option linter.unusedVariables false
set_option maxHeartbeats 1600000
namespace Go.Pol
open Go.Am
@[irreducible] def memA (n:Nat) (F:Nat→AV):List AV:=(List.range n).map F
theorem U0 (n:Nat) (F:Nat→AV):(memA n F).length=n:=by unfold memA;simp
theorem M8 {n:Nat} {F:Nat→AV} {i:Nat} (h:i < n):(memA n F)[i]? = some (F i):=by unfold memA;simp [h]
theorem AB2 {n:Nat} {F G:Nat→AV} (h:∀ i,i < n→F i=G i):memA n F=memA n G:=by
 unfold memA;exact List.map_congr_left fun i hi=>h i (List.mem_range.1 hi)
theorem AL4 {n:Nat} {F:Nat→AV} {i:Nat} {v:AV}:(memA n F).set i v=memA n fun j=>if j=i then v else F j:=by
 refine List.ext_getElem? fun j=>?_
 by_cases hj:j < n
 ·rw [M8 hj]
  by_cases e:i=j
  ·subst e;rw [List.getElem?_set_self (by rw [U0];exact hj),if_pos rfl]
  ·rw [List.getElem?_set_ne e,M8 hj,if_neg fun h=>e h.symm]
 ·rw [List.getElem?_eq_none (by rw [List.length_set,U0];omega),List.getElem?_eq_none (by rw [U0];omega)]
theorem AM9 {n:Nat} {F:Nat→AV} (h:∀ i,i < n→Plain (F i)):∀ x ∈ memA n F,Plain x:=fun x hx=>by
 unfold memA at hx
 obtain ⟨i,hi,rfl⟩:=List.mem_map.1 hx
 exact h i (List.mem_range.1 hi)
theorem AN0 {n:Nat}:∀ {vs:List AV} {F:Nat→AV} {o:Nat},over (memA n F) o vs=memA n fun j=>if o≤j∧j < o+vs.length then vs[j - o]?.getD .undef else F j
 | [],F,o=>by
  unfold over
  exact AB2 fun i _=>by rw [if_neg (by simp)]
 | v::vs,F,o=>by
  unfold over
  rw [AL4,AN0]
  refine AB2 fun j _=>?_
  by_cases h1:o+1≤j∧j < o+1+vs.length
  ·rw [if_pos h1,if_pos (by simp only [List.length_cons];omega)]
   rw [show j - o=(j - (o+1))+1 by omega,List.getElem?_cons_succ]
  ·rw [if_neg h1]
   by_cases h2:j=o
   ·subst h2;rw [if_pos rfl,if_pos (by simp only [List.length_cons];omega),Nat.sub_self];rfl
   ·rw [if_neg h2,if_neg (by simp only [List.length_cons];omega)]
theorem Am4 {n:Nat} {F:Nat→AV} {o k:Nat} (h:o+k≤n):((memA n F).drop o).take k=(List.range k).map fun j=>F (o+j):=by
 refine List.ext_getElem? fun j=>?_
 by_cases hj:j < k
 ·rw [List.getElem?_take_of_lt hj,List.getElem?_drop,M8 (by omega)]
  simp [hj]
 ·rw [List.getElem?_eq_none (by rw [List.length_take];omega),List.getElem?_eq_none (by simp;omega)]
end Go.Pol
namespace Go.Proofs.YtbhgfoikbkaohaaGreat
open Go Go.Am Go.Pol
structure j6 (f:Nat) (avs:List AV) (cs:List AV) (r:AV) (ds:List AV):Prop where
 out:Ab5 Tryz.prog G0 f (.ptr 0 0::avs) [(0,.cells cs)] 1 fun x h1=>x=r∧h1=⟨[(0,.cells ds)],1⟩
 pc:∀ x ∈ cs,Plain x
 pd:∀ x ∈ ds,Plain x
 pa:∀ x ∈ avs,Plain x
 pr:Plain r
theorem O6 {top:Bool} {h:Hp} {x r:AV} {ds:List AV} (hr:x=r) (hp:Plain r) (h0:lk h.l 0=some (.cells ds)) (pd:∀ x ∈ ds,Plain x) :
  AV3 top Tryz.prog 1 h x (fun r' h'=>r'=r∧h'=⟨[(0,.cells ds)],1⟩):=by
 subst hr
 have hs:AL9 (rn []) h ⟨[(0,.cells ds)],1⟩:=fun i o hi=>by
  simp only [lk] at hi
  show ∃ o',lk h.l i=some o'
  split at hi
  ·rename_i e;subst e;exact ⟨_,h0⟩
  ·cases hi
 exact AE8 [] rfl (Nat.le_refl _) (R7 rfl) (X0 hs hp) (J2 hs (show 0 < 1 by decide) h0 rfl pd J5) ⟨rfl,rfl⟩
theorem K3 {f:Nat} {avs:List AV} {cs ds:List AV} {a nx:Nat} {l:List (Nat × AObj)} {r:AV} {K:AV→Hp→Prop} (hc:j6 f avs cs r ds)
  (hl0:lk l a=some (.cells cs)) (hlt:a < nx)
  (hk:AP4 [a] l fun l2=>K r ⟨[(a,.cells ds)]++l2,nx⟩):AN4 Tryz.prog G0 (.fn f [] []) (.ptr a 0::avs) ⟨l,nx⟩ K:=by
 have e0:enter [a] a 0:=rfl
 have k0:back [a] nx 0 a:=rfl
 refine AS3 (l1:=[(a,.cells ds)]) [a] hc.out J3 rfl (.cons e0 hl0 (D8 hc.pc) .nil)
  ?_ (by intro x hx;simp only [List.mem_cons,List.not_mem_nil,or_false] at hx;omega) (G5 hc.pr)
  (.cons k0 (D8 hc.pd) .nil) hk
 simp only [List.nil_append,List.append_nil]
 exact ⟨Z9 e0,D8 hc.pa⟩
theorem AA4 {f:Nat} {avs:List AV} {cs ds:List AV} {a:Nat} {h:Hp} {r:AV} {K:AV→Up→List Nat→Prop} (hc:j6 f avs cs r ds)
  (hl0:lk h.l a=some (.cells cs)) (hnx:[a].contains h.next=false)
  (hk:K r [(a,some (.cells ds))] [a]):AP2 Tryz.prog G0 f (.ptr a 0::avs) h K:=by
 have hnx:h.next ∉ [a]:=fun hm=>by rw [List.contains_eq_mem,decide_eq_false_iff_not] at hnx;exact hnx hm
 have e0:enter [a] a 0:=rfl
 have k0:j4 [a] 0 a:=rfl
 refine Ay2 (l1:=[(a,.cells ds)]) [a] hc.out J3 rfl (.cons e0 hl0 (D8 hc.pc) .nil) hnx ?_ ?_ ⟨Z9 e0,D8 hc.pa⟩ (G5 hc.pr)
  (.cons k0 (D8 hc.pd) .nil) hk
 ·intro x hx
  obtain rfl:=List.mem_singleton.1 hx
  exact ⟨.cells ds,if_pos rfl⟩
 ·intro j n hj
  cases j with
  | zero=>exact ⟨_,rfl⟩
  | succ j=>simp at hj
end Go.Proofs.YtbhgfoikbkaohaaGreat
namespace Go.Pol
open Go.Am
def AA7 (B:Nat→Nat→Int) (p:Nat) (f:Nat→Int):Nat→Nat→Int:=fun q=>if q=p then f else B q
def Ad4 (K:Nat→Int) (M:Nat→Bool) (B:Nat→Nat→Int) (p j:Nat):AV:=if j=0 then .int .i64 (K p) else if j=1 then .bool (M p) else .int .u8 (B p (j - 2))
def sysF (K:Nat→Int) (M:Nat→Bool) (B:Nat→Nat→Int) (P:List AV) (i:Nat):AV :=
 if i=0 then .bool true else if i < 67585 then Ad4 K M B ((i - 1) / 66) ((i - 1) % 66) else P[i - 67585]?.getD .undef
@[irreducible] def sysB (K:Nat→Int) (M:Nat→Bool) (B:Nat→Nat→Int) (P:List AV):List AV:=memA 67600 (sysF K M B P)
def BR5 (K:Nat→Int) (G:Nat→Bool) (B:Nat→Nat→Int) (P:List AV) (i:Nat):AV :=
 if i < 1024 then .int .i64 (K i) else if i < 1088 then .bool (G (i - 1024)) else if i < 66624 then .int .u8 (B ((i - 1088) / 64) ((i - 1088) % 64)) else P[i - 66624]?.getD .undef
@[irreducible] def refK (K:Nat→Int) (G:Nat→Bool) (B:Nat→Nat→Int) (P:List AV):List AV:=memA 66639 (BR5 K G B P)
section
variable {K:Nat→Int} {M G:Nat→Bool} {B:Nat→Nat→Int} {P:List AV} {p j:Nat} {v:Int} {b:Bool}
theorem AN9:(sysB K M B P).length=67600:=by unfold sysB;exact U0 ..
theorem AJ5:(refK K G B P).length=66639:=by unfold refK;exact U0 ..
theorem AN8:(sysB K M B P)[0]? = some (.bool true):=by unfold sysB;rw [M8 (by decide)];rfl
theorem Z8 (hp:p < 1024) (hj:j < 66):sysF K M B P (1+p * 66+j)=Ad4 K M B p j:=by
 unfold sysF
 rw [if_neg (by omega),if_pos (by omega),show (1+p * 66+j - 1) / 66=p by omega,show (1+p * 66+j - 1) % 66=j by omega]
theorem AL1 (hp:p < 1024):(sysB K M B P)[1+p * 66]? = some (.int .i64 (K p)):=by
 unfold sysB;rw [M8 (by omega),show 1+p * 66=1+p * 66+0 by omega,Z8 hp (by decide)];rfl
theorem Au8 (hp:p < 1024):(sysB K M B P)[1+p * 66+1]? = some (.bool (M p)):=by
 unfold sysB;rw [M8 (by omega),Z8 hp (by decide)];rfl
theorem sys_byte (hp:p < 1024) (hj:j < 64):(sysB K M B P)[1+p * 66+2+j]? = some (.int .u8 (B p j)):=by
 unfold sysB;rw [M8 (by omega),Nat.add_assoc (1+p * 66),Z8 hp (by omega)];unfold Ad4
 rw [if_neg (by omega),if_neg (by omega),show 2+j - 2=j by omega]
theorem Ac3 {F:Nat→AV} {K':Nat→Int} {M':Nat→Bool} {B':Nat→Nat→Int} {P':List AV} (h0:F 0 = .bool true) (hp:∀ p,p < 1024→∀ j,j < 66→F (1+p * 66+j)=Ad4 K' M' B' p j) (hP:∀ i,i < 15→F (67585+i)=P'[i]?.getD .undef):memA 67600 F=sysB K' M' B' P':=by
 unfold sysB
 refine AB2 fun i hi=>?_
 by_cases h1:i=0
 ·subst h1;exact h0
 ·by_cases h2:i < 67585
  ·have e:i=1+(i - 1) / 66 * 66+(i - 1) % 66:=by omega
   have hq:(i - 1) / 66 < 1024:=by omega
   have hr:(i - 1) % 66 < 66:=by omega
   have e1:=hp _ hq _ hr
   have e2:=Z8 (K:=K') (M:=M') (B:=B') (P:=P') hq hr
   rw [← e] at e1 e2
   rw [e1,e2]
  ·have e:=hP (i - 67585) (by omega)
   rw [show 67585+(i - 67585)=i by omega] at e
   rw [e];unfold sysF;rw [if_neg h1,if_neg h2]
theorem Av3 {F:Nat→AV} {K':Nat→Int} {G':Nat→Bool} {B':Nat→Nat→Int} {P':List AV} (hk:∀ p,p < 1024→F p = .int .i64 (K' p)) (hg:∀ g,g < 64→F (1024+g) = .bool (G' g)) (hb:∀ p,p < 1024→∀ j,j < 64→F (1088+p * 64+j) = .int .u8 (B' p j)) (hP:∀ i,i < 15→F (66624+i)=P'[i]?.getD .undef):memA 66639 F=refK K' G' B' P':=by
 unfold refK
 refine AB2 fun i hi=>?_
 unfold BR5
 by_cases h1:i < 1024
 ·rw [if_pos h1,hk i h1]
 ·rw [if_neg h1]
  by_cases h2:i < 1088
  ·rw [if_pos h2]
   have e:=hg (i - 1024) (by omega)
   rw [show 1024+(i - 1024)=i by omega] at e;exact e
  ·rw [if_neg h2]
   by_cases h3:i < 66624
   ·rw [if_pos h3]
    have e1:=hb ((i - 1088) / 64) (by omega) ((i - 1088) % 64) (by omega)
    rw [show 1088+(i - 1088) / 64 * 64+(i - 1088) % 64=i by omega] at e1;exact e1
   ·rw [if_neg h3]
    have e:=hP (i - 66624) (by omega)
    rw [show 66624+(i - 66624)=i by omega] at e;exact e
theorem AM0 {i:Nat}:sysF K M B P (67585+i)=P[i]?.getD .undef:=by
 unfold sysF;rw [if_neg (by omega),if_neg (by omega),show 67585+i - 67585=i by omega]
theorem Ak7 (hp:p < 1024):(sysB K M B P).set (1+p * 66) (.int .i64 v)=sysB (F4 K p v) M B P:=by
 rw [sysB,AL4]
 refine Ac3 (by rw [if_neg (by omega)];rfl) (fun q hq j hj=>?_) fun i hi=>by rw [if_neg (by omega),AM0]
 rw [Z8 hq hj];unfold Ad4 F4
 by_cases h1:j=0
 ·by_cases h2:q=p
  ·rw [if_pos (by subst h1;subst h2;omega),if_pos h1,if_pos h2]
  ·rw [if_neg (by omega),if_pos h1,if_pos h1,if_neg h2]
 ·rw [if_neg (by omega),if_neg h1,if_neg h1]
theorem BJ2 (hp:p < 1024):(sysB K M B P).set (1+p * 66+1) (.bool b)=sysB K (Ak6 M p b) B P:=by
 rw [sysB,AL4]
 refine Ac3 (by rw [if_neg (by omega)];rfl) (fun q hq j hj=>?_) fun i hi=>by rw [if_neg (by omega),AM0]
 rw [Z8 hq hj];unfold Ad4 Ak6
 by_cases h1:j=1
 ·by_cases h2:q=p
  ·rw [if_pos (by subst h1;subst h2;omega),if_neg (by omega),if_pos h1,if_pos h2]
  ·rw [if_neg (by omega),if_neg (show ¬ j=0 by omega),if_neg (show ¬ j=0 by omega),if_pos h1,if_pos h1,if_neg h2]
 ·rw [if_neg (by omega)]
  by_cases h3:j=0
  ·rw [if_pos h3,if_pos h3]
  ·rw [if_neg h3,if_neg h3,if_neg h1,if_neg h1]
theorem BJ3 (hp:p < 1024) (hj:j < 64):(sysB K M B P).set (1+p * 66+2+j) (.int .u8 v)=sysB K M (AA7 B p (F4 (B p) j v)) P:=by
 rw [sysB,AL4]
 refine Ac3 (by rw [if_neg (by omega)];rfl) (fun q hq k hk=>?_) fun i hi=>by rw [if_neg (by omega),AM0]
 rw [Z8 hq hk];unfold Ad4 AA7
 by_cases h0:k=0
 ·rw [if_neg (by omega),if_pos h0,if_pos h0]
 ·by_cases h1:k=1
  ·rw [if_neg (by omega),if_neg h0,if_neg h0,if_pos h1,if_pos h1]
  ·rw [if_neg h0,if_neg h0,if_neg h1,if_neg h1]
   by_cases h2:q=p
   ·subst h2
    rw [if_pos rfl];unfold F4
    by_cases h3:k=2+j
    ·rw [if_pos (by omega),if_pos (by omega)]
    ·rw [if_neg (by omega),if_neg (by omega)]
   ·rw [if_neg (by omega),if_neg h2]
def pgA (k:Int):List AV:=.int .i64 k :: .bool false::List.replicate 64 (.int .u8 0)
theorem BJ1 (hp:p < 1024):over (sysB K M B P) (1+p * 66) (pgA v)=sysB (F4 K p v) (Ak6 M p false) (AA7 B p fun _=>0) P:=by
 have hl:(pgA v).length=66:=by simp [pgA]
 rw [sysB,AN0]
 simp only [hl]
 refine Ac3 (by rw [if_neg (by omega)];rfl) (fun q hq j hj=>?_) fun i hi=>by rw [if_neg (by omega),AM0]
 by_cases h2:q=p
 ·subst h2
  rw [if_pos (by omega),show 1+q * 66+j - (1+q * 66)=j by omega]
  unfold Ad4 F4 Ak6 AA7
  rw [if_pos rfl,if_pos rfl,if_pos rfl]
  match j with
  | 0=>rfl
  | 1=>rfl
  | j+2=>rw [if_neg (by omega),if_neg (by omega)];show (List.replicate 64 (AV.int .u8 0))[j]?.getD .undef=_;rw [List.getElem?_replicate,if_pos (by omega)];rfl
 ·rw [if_neg (by omega),Z8 hq hj];unfold Ad4 F4 Ak6 AA7
  rw [if_neg h2,if_neg h2,if_neg h2]
theorem sys_plan (hP:P.length=15):((sysB K M B P).drop 67585).take 15=P:=by
 rw [sysB,Am4 (by decide)]
 refine List.ext_getElem? fun j=>?_
 by_cases hj:j < 15
 ·simp only [List.getElem?_map,List.getElem?_range hj,Option.map_some,AM0]
  rw [List.getElem?_eq_getElem (by omega)];rfl
 ·rw [List.getElem?_eq_none (by simp;omega),List.getElem?_eq_none (by omega)]
theorem BJ0 {P':List AV} (hP:P'.length=15):over (sysB K M B P) 67585 P'=sysB K M B P':=by
 rw [sysB,AN0]
 refine Ac3 (by rw [if_neg (by omega)];rfl) (fun q hq j hj=>by rw [if_neg (by omega),Z8 hq hj]) fun i hi=>by rw [if_pos (by omega),show 67585+i - 67585=i by omega]
theorem M7 (hp:p < 1024):(refK K G B P)[p]? = some (.int .i64 (K p)):=by unfold refK;rw [M8 (by omega)];unfold BR5;rw [if_pos hp]
theorem Y6 (hp:p < 64):(refK K G B P)[1024+p]? = some (.bool (G p)):=by unfold refK;rw [M8 (by omega)];unfold BR5;rw [if_neg (by omega),if_pos (by omega),show 1024+p - 1024=p by omega]
theorem AM4 (hp:p < 1024) (hj:j < 64):BR5 K G B P (1088+p * 64+j) = .int .u8 (B p j):=by
 unfold BR5;rw [if_neg (by omega),if_neg (by omega),if_pos (by omega),show (1088+p * 64+j - 1088) / 64=p by omega,show (1088+p * 64+j - 1088) % 64=j by omega]
theorem rfk_byte (hp:p < 1024) (hj:j < 64):(refK K G B P)[1088+p * 64+j]? = some (.int .u8 (B p j)):=by unfold refK;rw [M8 (by omega),AM4 hp hj]
theorem AZ1 (hp:p < 1024):BR5 K G B P p = .int .i64 (K p):=by unfold BR5;rw [if_pos hp]
theorem AZ2 (hp:p < 64):BR5 K G B P (1024+p) = .bool (G p):=by unfold BR5;rw [if_neg (by omega),if_pos (by omega),show 1024+p - 1024=p by omega]
theorem AZ0 {i:Nat}:BR5 K G B P (66624+i)=P[i]?.getD .undef:=by unfold BR5;rw [if_neg (by omega),if_neg (by omega),if_neg (by omega),show 66624+i - 66624=i by omega]
theorem BK0 (hp:p < 1024):(refK K G B P).set p (.int .i64 v)=refK (F4 K p v) G B P:=by
 rw [refK,AL4]
 refine Av3 (fun q hq=>?_) (fun g hg=>by rw [if_neg (by omega),AZ2 hg]) (fun q hq j hj=>by rw [if_neg (by omega),AM4 hq hj]) fun i hi=>by rw [if_neg (by omega),AZ0]
 unfold F4
 by_cases h:q=p
 ·rw [if_pos h,if_pos h]
 ·rw [if_neg h,if_neg h,AZ1 hq]
theorem BK1 (hp:p < 1024) (hj:j < 64):(refK K G B P).set (1088+p * 64+j) (.int .u8 v)=refK K G (AA7 B p (F4 (B p) j v)) P:=by
 rw [refK,AL4]
 refine Av3 (fun q hq=>by rw [if_neg (by omega),AZ1 hq]) (fun g hg=>by rw [if_neg (by omega),AZ2 hg]) (fun q hq k hk=>?_) fun i hi=>by rw [if_neg (by omega),AZ0]
 rw [AM4 hq hk];unfold AA7 F4
 by_cases h2:q=p
 ·subst h2
  rw [if_pos rfl]
  by_cases h3:k=j
  ·rw [if_pos (by omega),if_pos h3]
  ·rw [if_neg (by omega),if_neg h3]
 ·rw [if_neg (by omega),if_neg h2]
theorem BJ9 (hp:p < 1024):over (refK K G B P) (1088+p * 64) (List.replicate 64 (.int .u8 0))=refK K G (AA7 B p fun _=>0) P:=by
 rw [refK,AN0]
 simp only [List.length_replicate]
 refine Av3 (fun q hq=>by rw [if_neg (by omega),AZ1 hq]) (fun g hg=>by rw [if_neg (by omega),AZ2 hg]) (fun q hq k hk=>?_) fun i hi=>by rw [if_neg (by omega),AZ0]
 rw [AM4 hq hk];unfold AA7
 by_cases h2:q=p
 ·subst h2
  rw [if_pos (by omega),if_pos rfl,show 1088+q * 64+k - (1088+q * 64)=k by omega,List.getElem?_replicate,if_pos hk];rfl
 ·rw [if_neg (by omega),if_neg h2]
theorem rfk_plan (hP:P.length=15):((refK K G B P).drop 66624).take 15=P:=by
 rw [refK,Am4 (by decide)]
 refine List.ext_getElem? fun j=>?_
 by_cases hj:j < 15
 ·simp only [List.getElem?_map,List.getElem?_range hj,Option.map_some,AZ0]
  rw [List.getElem?_eq_getElem (by omega)];rfl
 ·rw [List.getElem?_eq_none (by simp;omega),List.getElem?_eq_none (by omega)]
theorem BJ8 {P':List AV} (hP:P'.length=15):over (refK K G B P) 66624 P'=refK K G B P':=by
 rw [refK,AN0]
 refine Av3 (fun q hq=>by rw [if_neg (by omega),AZ1 hq]) (fun g hg=>by rw [if_neg (by omega),AZ2 hg]) (fun q hq j hj=>by rw [if_neg (by omega),AM4 hq hj]) fun i hi=>by rw [if_pos (by omega),show 66624+i - 66624=i by omega]
theorem At3 {i:Nat} (hP:∀ x ∈ P,Plain x):Plain (P[i]?.getD .undef):=by
 cases h:P[i]? with
 | none=>exact Al2
 | some x=>exact hP x (List.mem_of_getElem? h)
theorem F3 (hP:∀ x ∈ P,Plain x):∀ x ∈ sysB K M B P,Plain x:=by
 unfold sysB
 refine AM9 fun i hi=>?_
 unfold sysF Ad4
 split
 ·exact D5
 ·split
  ·split
   ·exact A8
   ·split
    ·exact D5
    ·exact A8
  ·exact At3 hP
theorem H6 (hP:∀ x ∈ P,Plain x):∀ x ∈ refK K G B P,Plain x:=by
 unfold refK
 refine AM9 fun i hi=>?_
 unfold BR5
 split
 ·exact A8
 ·split
  ·exact D5
  ·split
   ·exact A8
   ·exact At3 hP
end
end Go.Pol
namespace Go.Pol
open Go.Am
def C1 (C:Nat→Int) (k:Nat):Nat→Int:=if C k < 1000000 then F4 C k (C k+1) else C
def H1 (l:List Rl) (C H:Nat→Int) (k:Nat):Nat→Int:=if C k < 1000000 then (if AW4 l (k:Nat) (C k+1) then F4 H k (H k+1) else H) else H
def isR (l:List Rl) (C:Nat→Int) (k:Nat):Bool:=if C k < 1000000 then AW4 l (k:Nat) (C k+1) else false
section
variable {K:Nat→Int} {M G:Nat→Bool} {B:Nat→Nat→Int} {P P':List AV} {o:Nat}
theorem BB6 (h:o=67585) (hP:P.length=15):((sysB K M B P).drop o).take 15=P:=by rw [h];exact sys_plan hP
theorem R8 (h:o=66624) (hP:P.length=15):((refK K G B P).drop o).take 15=P:=by rw [h];exact rfk_plan hP
theorem AP9 (h:o=67585) (hP:P'.length=15):over (sysB K M B P) o P'=sysB K M B P':=by rw [h];exact BJ0 hP
theorem Ag2 (h:o=66624) (hP:P'.length=15):over (refK K G B P) o P'=refK K G B P':=by rw [h];exact BJ8 hP
end
theorem AE4 {k:List AV→Prop} {v:AV} {vs cs ds:List AV} {o:Nat} (h:o+(v::vs).length≤cs.length) (e:over cs o (v::vs)=ds) (hk:k ds):set1K cs o v fun cs'=>overK cs' (o+1) vs k:=U4 (vs:=v::vs) h e hk
end Go.Pol
namespace Go.Proofs.YtbhgfoikbkaohaaGreat
open Go Go.Am Go.Pol
theorem ws {p q:Prop} (hq:q) (h:Y3 q→p:=by (intro hQz;((repeat' ((try (conv=>whnf));first|(with_reducible first|refine P6 ?_|refine K4 ?_|refine P9 ?_|refine Q5 ?_|refine K9 ?_|refine U9 ?_|refine O9 ?_|refine U8 rfl ?_|refine P5 ?_|refine I5 ?_|refine K7 ?_|refine K8 ?_|refine Q0 ?_|refine I4 ?_|refine K5 (by decide +kernel) ?_|refine J6 (by decide +kernel) ?_|refine AG2 ?_|refine AG3 ?_|refine Aj5 ?_|refine r9 ?_|refine AI4 ?_|refine Ag9 (by assumption) ?_|refine Ah0 (by assumption) ?_|refine p9 (by omega) ?_|refine AI2 ?_)|((with_reducible refine AI5 ?_ ?_);focus omega)|((with_reducible refine AI6 ?_ ?_);focus omega)|((with_reducible apply U1 hQz)<;>(try intro hsp hQz))|((with_reducible refine Aj3 ?_ ?_);focus (first|omega|rfl|assumption|decide|(simp only [List.length_map,List.length_cons,List.length_nil];omega)))|(with_reducible first|refine AH9 ?_|refine p8 ?_|refine o9 ?_|refine AI1 ?_|refine AI0 ?_|refine AH7 ?_|refine Aj0 ?_|refine I6 ?_|refine l9 ?_|refine P8 ?_|refine P7 ?_|refine I7 ?_|refine AH8 (by omega) ?_|refine o8 (by omega) ?_)|refine C8 (by with_reducible assumption) ?_|refine AE7 (by with_reducible assumption) ?_|refine R4 (by rw [AN9];omega) rfl ?_|refine R4 (by rw [AJ5];omega) rfl ?_|refine J7 (by rw [List.length_drop,AN9];omega) (BB6 (by omega) rfl) ?_|refine J7 (by rw [List.length_drop,AJ5];omega) (R8 (by omega) rfl) ?_|refine AE4 (by first|(rw [AN9];simp;omega)|fail) (AP9 (by omega) rfl) ?_|refine AE4 (by first|(rw [AJ5];simp;omega)|fail) (Ag2 (by omega) rfl) ?_|(with_reducible first|refine AC6 ?_|refine Aq9.mk (by kernel_rfl) ?_|refine AD6 rfl ?_|refine AC8 (by decide +kernel) ?_|refine AC7 rfl ?_)|refine K3 (by assumption) rfl (by omega) ?_|refine AA4 (by assumption) rfl rfl ?_|refine M0 (by assumption) ?_|refine R5 (by assumption) ?_|refine V5 (by assumption) ?_|refine I6 ?_|refine I7 ?_|refine AP6 rfl rfl ?_|refine l6 ?_|refine V8 rfl ?_|refine AP7 rfl ?_|refine AP3 rfl ?_|refine AD5 rfl ?_|refine S9 ?_|refine Au3.mk ?_|((with_reducible apply U2 hQz)<;>(try intro hsp hQz))|exact hQz.out))<;>(try (conv=>whnf))))):p:=h ⟨hq⟩
section
variable {K:Nat→Int} {M G:Nat→Bool} {B:Nat→Nat→Int} {l:List Rl} {C H:Nat→Int}
theorem X9 {x:AV} (h:Plain x):∀ y ∈ [x],Plain y:=fun y hy=>by obtain rfl:=List.mem_singleton.1 hy;exact h
theorem AG5 {x z:AV} (h:Plain x) (h':Plain z):∀ y ∈ [x,z],Plain y:=fun y hy=>by
 rcases List.mem_cons.1 hy with rfl|hy
 ·exact h
 ·obtain rfl:=List.mem_singleton.1 hy;exact h'
theorem k_ref (hv:Ap0 l C H=0) {k:Nat} (hk:k < 7):j6 107 [.int .i64 (k:Nat)] (sysB K M B (stA l C H)) (.bool (isR l C k)) (sysB K M B (stA l (C1 C k) (H1 l C H k))):=by
 refine j6.mk (I8 G9 b107 rfl ?_) (F3 A9) (F3 A9) (X9 A8) D5
 have hst:=(AX6 hv).2.2 k hk
 unfold c107
 obtain ⟨o,ho⟩:∃ o,o=67585:=⟨_,rfl⟩
 rw [← ho]
 by_cases hC:C k < 1000000
 ·have z:=k_nextS hv hk hC
  unfold C1 H1 isR
  simp only [if_pos hC]
  generalize AW4 l (k:Nat) (C k+1)=b at *
  generalize (if b=true then F4 H k (H k+1) else H)=H' at *
  generalize F4 C k (C k+1)=C' at *
  (refine ws ?_;repeat' (first|with_reducible refine And.intro ?_ ?_|intro hsp))
  all_goals exact O6 (by first|rfl|(simp;done)|(congr 1;simp;assumption)|simp [*]) D5 rfl (F3 A9)
 ·have z:=k_nextF hv hk (show C k=1000000 from Int.le_antisymm hst.2.1 (by omega))
  unfold C1 H1 isR
  simp only [if_neg hC]
  (refine ws ?_;repeat' (first|with_reducible refine And.intro ?_ ?_|intro hsp))
  all_goals exact O6 (by first|rfl|(simp;done)|(congr 1;simp;assumption)|simp [*]) D5 rfl (F3 A9)
theorem r_ref (hv:Ap0 l C H=0) {k:Nat} (hk:k < 7):j6 100 [.int .i64 (k:Nat)] (refK K G B (stA l C H)) (.bool (isR l C k)) (refK K G B (stA l (C1 C k) (H1 l C H k))):=by
 refine j6.mk (I8 G9 b100 rfl ?_) (H6 A9) (H6 A9) (X9 A8) D5
 have hst:=(AX6 hv).2.2 k hk
 unfold c100
 obtain ⟨o,ho⟩:∃ o,o=66624:=⟨_,rfl⟩
 rw [← ho]
 by_cases hC:C k < 1000000
 ·have z:=r_nextS hv hk hC
  unfold C1 H1 isR
  simp only [if_pos hC]
  generalize AW4 l (k:Nat) (C k+1)=b at *
  generalize (if b=true then F4 H k (H k+1) else H)=H' at *
  generalize F4 C k (C k+1)=C' at *
  (refine ws ?_;repeat' (first|with_reducible refine And.intro ?_ ?_|intro hsp))
  all_goals exact O6 (by first|rfl|(simp;done)|(congr 1;simp;assumption)|simp [*]) D5 rfl (H6 A9)
 ·have z:=r_nextF hv hk (show C k=1000000 from Int.le_antisymm hst.2.1 (by omega))
  unfold C1 H1 isR
  simp only [if_neg hC]
  (refine ws ?_;repeat' (first|with_reducible refine And.intro ?_ ?_|intro hsp))
  all_goals exact O6 (by first|rfl|(simp;done)|(congr 1;simp;assumption)|simp [*]) D5 rfl (H6 A9)
end
end Go.Proofs.YtbhgfoikbkaohaaGreat
namespace Go.Pol
open Go.Am
def AK7 (K:Nat→Int) (at_ n:Nat) (v:Int):Nat→Int:=fun p=>if at_≤p∧p < at_+n then v else K p
def Aq1 (M:Nat→Bool) (at_ n:Nat) (v:Bool):Nat→Bool:=fun p=>if at_≤p∧p < at_+n then v else M p
def Ag0 (B:Nat→Nat→Int) (at_ n:Nat):Nat→Nat→Int:=fun p=>if at_≤p∧p < at_+n then fun _=>0 else B p
theorem BC0 {K:Nat→Int} {a:Nat} {v:Int}:AK7 K a 0 v=K:=by funext p;unfold AK7;rw [if_neg (by omega)]
theorem setM_0 {K:Nat→Bool} {a:Nat} {v:Bool}:Aq1 K a 0 v=K:=by funext p;unfold Aq1;rw [if_neg (by omega)]
theorem setP_0 {K:Nat→Nat→Int} {a:Nat}:Ag0 K a 0=K:=by funext p;unfold Ag0;rw [if_neg (by omega)]
theorem Ar4 {K:Nat→Int} {a i:Nat} {v:Int}:F4 (AK7 K a i v) (a+i) v=AK7 K a (i+1) v:=by
 funext p;unfold AK7 F4
 by_cases h:p=a+i
 ·rw [if_pos h,if_pos (by omega)]
 ·rw [if_neg h]
  by_cases h2:a≤p∧p < a+i
  ·exact (if_pos h2).trans (if_pos (by omega)).symm
  ·exact (if_neg h2).trans (if_neg (by omega)).symm
theorem setM_s {K:Nat→Bool} {a i:Nat} {v:Bool}:Ak6 (Aq1 K a i v) (a+i) v=Aq1 K a (i+1) v:=by
 funext p;unfold Aq1 Ak6
 by_cases h:p=a+i
 ·rw [if_pos h,if_pos (by omega)]
 ·rw [if_neg h]
  by_cases h2:a≤p∧p < a+i
  ·exact (if_pos h2).trans (if_pos (by omega)).symm
  ·exact (if_neg h2).trans (if_neg (by omega)).symm
theorem setP_s {K:Nat→Nat→Int} {a i:Nat}:AA7 (Ag0 K a i) (a+i) (fun _=>0)=Ag0 K a (i+1):=by
 funext p;unfold Ag0 AA7
 by_cases h:p=a+i
 ·rw [if_pos h,if_pos (by omega)]
 ·rw [if_neg h]
  by_cases h2:a≤p∧p < a+i
  ·exact (if_pos h2).trans (if_pos (by omega)).symm
  ·exact (if_neg h2).trans (if_neg (by omega)).symm
def okR (K:Nat→Int) (M:Nat→Bool) (at_ n:Nat) (v:Int):Prop:=∀ i,i < n→K (at_+i)=v∧M (at_+i)=false
instance (K:Nat→Int) (M:Nat→Bool) (at_ n:Nat) (v:Int):Decidable (okR K M at_ n v):=by unfold okR;infer_instance
end Go.Pol
namespace Go.Proofs.YtbhgfoikbkaohaaGreat
open Go Go.Am Go.Pol
theorem plx_Sd {p:Prop} (h:p:=by ((first|exact plw|(with_reducible first|apply AF4|apply N7|apply L9|apply l8|apply X5|apply AC1|apply AJ7|apply AE2|apply AZ6|apply Ah9|apply AA0|apply AE3|fail)|fail);first|done|fail)):p:=h
theorem ppx_Sd {p:Prop} (h:p:=by ((first|with_reducible assumption|(with_reducible first|apply M9 _|apply V4 M9|apply A9|apply AI8|apply F3 A9|apply H6 A9|apply F3 hP|apply H6 hP|fail)|exact ppw|fail);first|done|fail)):p:=h
open Go.Proofs.YtbhgfoikbkaohaaGreat renaming plx_Sd → plx
open Go.Proofs.YtbhgfoikbkaohaaGreat renaming ppx_Sd → ppx
theorem wm {p q:Prop} (hq:q) (h:Y3 q→p:=by (intro hQz;((repeat' ((try (conv=>whnf));first|(with_reducible first|refine P6 ?_|refine K4 ?_|refine P9 ?_|refine Q5 ?_|refine K9 ?_|refine U9 ?_|refine O9 ?_|refine U8 rfl ?_|refine P5 ?_|refine I5 ?_|refine K7 ?_|refine K8 ?_|refine Q0 ?_|refine I4 ?_|refine K5 (by decide +kernel) ?_|refine J6 (by decide +kernel) ?_|refine AG2 ?_|refine AG3 ?_|refine Aj5 ?_|refine r9 ?_|refine AI4 ?_|refine Ag9 (by assumption) ?_|refine Ah0 (by assumption) ?_|refine p9 (by omega) ?_|refine AI2 ?_)|((with_reducible refine AI5 ?_ ?_);focus omega)|((with_reducible refine AI6 ?_ ?_);focus omega)|((with_reducible apply U1 hQz)<;>(try intro hsp hQz))|((with_reducible refine Aj3 ?_ ?_);focus (first|omega|rfl|assumption|decide|(simp only [List.length_map,List.length_cons,List.length_nil];omega)))|(with_reducible first|refine AH9 ?_|refine p8 ?_|refine o9 ?_|refine AI1 ?_|refine AI0 ?_|refine AH7 ?_|refine Aj0 ?_|refine I6 ?_|refine l9 ?_|refine P8 ?_|refine P7 ?_|refine I7 ?_|refine AH8 (by omega) ?_|refine o8 (by omega) ?_)|refine C8 (by with_reducible assumption) ?_|refine C8 AN8 ?_|refine AE7 (by with_reducible assumption) ?_|refine AE4 (by first|(rw [AN9];simp only [List.length_cons,List.length_nil];omega)|fail) (by assumption) ?_|(with_reducible first|refine AC6 ?_|refine Aq9.mk (by kernel_rfl) ?_|refine AD6 rfl ?_|refine AC8 (by decide +kernel) ?_|refine AC7 rfl ?_)|refine K3 (by assumption) rfl (by omega) ?_|refine AA4 (by assumption) rfl rfl ?_|refine M0 (by assumption) ?_|(refine AF1 G9 b61 rfl ?_;unfold c61)|(refine AF1 G9 b36 rfl ?_;unfold c36)|(refine AF1 G9 b38 rfl ?_;unfold c38)|(refine AF1 G9 b108 rfl ?_;unfold c108)|(refine AF1 G9 b109 rfl ?_;unfold c109)|refine I6 ?_|refine I7 ?_|refine AP6 rfl rfl ?_|refine l6 ?_|refine V8 rfl ?_|refine AP7 rfl ?_|refine AP3 rfl ?_|refine AD5 rfl ?_|refine S9 ?_|refine Au3.mk ?_|((with_reducible apply U2 hQz)<;>(try intro hsp hQz))|exact hQz.out))<;>(try (conv=>whnf))))):p:=h ⟨hq⟩
section
variable {K:Nat→Int} {M G:Nat→Bool} {B:Nat→Nat→Int} {l:List Rl} {C H:Nat→Int}
theorem BO6 {top:Bool} {P:List AV} (hP:∀ x ∈ P,Plain x) {v:Int} {b:Bool} {nx:Nat} {t:List (Nat × AObj)}:AV3 top Tryz.prog 2 ⟨(0,.cells (sysB K M B P))::(1,.cells [.int .i64 v])::t,nx⟩ (.bool b) (fun x h1=>x = .bool b∧h1=⟨[(0,.cells (sysB K M B P)),(1,.cells [.int .i64 v])],2⟩):=by
 have hs:AL9 (rn []) ⟨(0,.cells (sysB K M B P))::(1,.cells [.int .i64 v])::t,nx⟩ ⟨[(0,.cells (sysB K M B P)),(1,.cells [.int .i64 v])],2⟩:=fun i o hi=>by
  simp only [lk] at hi
  show ∃ o',lk ((0,AObj.cells (sysB K M B P))::(1,AObj.cells [.int .i64 v])::t) i=some o'
  simp only [lk]
  split at hi
  ·rename_i e;exact ⟨_,if_pos e⟩
  ·rename_i e0
   split at hi
   ·rename_i e;exact ⟨_,by rw [if_neg e0,if_pos e]⟩
   ·cases hi
 exact AE8 [] rfl (Nat.le_refl _) (R7 rfl) (AB7 rfl) (J2 hs (show 0 < 2 by decide) rfl rfl (F3 hP) (J2 hs (show 1 < 2 by decide) rfl rfl (X9 A8) J5)) ⟨rfl,rfl⟩
theorem k_all (P:List AV) (hP:∀ x ∈ P,Plain x) (v:Int) (a n:Nat) (hn:a+n≤1024):Ab5 Tryz.prog G0 36 [.ptr 0 0,.int .i64 (a:Nat),.int .i64 (n:Nat),.fn 108 [] [.ptr 1 0]] [(0,.cells (sysB K M B P)),(1,.cells [.int .i64 v])] 2 fun x h1=>x = .bool (decide (okR K M a n v))∧h1=⟨[(0,.cells (sysB K M B P)),(1,.cells [.int .i64 v])],2⟩:=by
 refine I8 G9 b36 rfl ?_
 unfold c36
 (refine wm ?_;repeat' (first|with_reducible refine And.intro ?_ ?_|intro hsp))
 (refine F9 [0,1,2,3,10] (fun (i:Nat)=>[(11,.int .i64 (i:Nat))]) (fun (i:Nat)=>⟨[(0,.cells (sysB K M B P)),(1,.cells [.int .i64 v])],2⟩) (fun (i:Nat)=>i≤n∧∀ j,j < i→K (a+j)=v∧M (a+j)=false) (fun (i:Nat)=>n - i) (0) [] rfl (fun _=>by first|exact Nat.zero_le _|(dsimp only;omega)) ?_ (by ((try (conv=>whnf));exact O4)) ?_)
 ·exact ⟨Nat.zero_le _,fun j hj=>by omega⟩
 rintro i ⟨hi,h0⟩
 by_cases hin:i < n
 ·have ht:((a:Int)+(i:Int)).toNat=a+i:=by omega
  have hk:(sysB K M B P)[1+((a:Int)+(i:Int)).toNat * 66+0]? = some (.int .i64 (K (a+i))):=by rw [ht];exact AL1 (by omega)
  have hh:(sysB K M B P)[1+((a:Int)+(i:Int)).toNat * 66+1]? = some (.bool (M (a+i))):=by rw [ht];exact Au8 (by omega)
  by_cases h1:K (a+i)=v
  ·cases h2:M (a+i) with
   | false =>
    rw [h2] at hh
    (refine wm ?_;repeat' (first|with_reducible refine And.intro ?_ ?_|intro hsp))
    all_goals first|(exfalso;exact absurd h1 (by assumption))|skip
    all_goals exact D6 (i+1) [] ⟨by omega,fun j hj=>if e:j=i then by rw [e];exact ⟨h1,h2⟩ else h0 j (by omega)⟩ (by first|omega|(dsimp only;omega)) rfl (by exact O4)
   | true =>
    rw [h2] at hh
    rw [decide_eq_false fun h=>by have:=(h i hin).2;rw [h2] at this;cases this]
    (refine wm ?_;repeat' (first|with_reducible refine And.intro ?_ ?_|intro hsp))
    all_goals first|exact BO6 hP|(exfalso;exact absurd h1 (by assumption))
  ·rw [decide_eq_false fun h=>h1 (h i hin).1]
   (refine wm ?_;repeat' (first|with_reducible refine And.intro ?_ ?_|intro hsp))
   all_goals exact BO6 hP
 ·have hok:okR K M a n v:=fun j hj=>h0 j (by omega)
  rw [decide_eq_true hok]
  (refine wm ?_;repeat' (first|with_reducible refine And.intro ?_ ?_|intro hsp))
  all_goals exact BO6 hP
theorem end_each {top:Bool} {P:List AV} (hP:∀ x ∈ P,Plain x) {v:Int} {nx:Nat} {t:List (Nat × AObj)}:AV3 top Tryz.prog 2 ⟨(0,.cells (sysB K M B P))::(1,.cells [.int .i64 v])::t,nx⟩ (.tup []) (fun x h1=>x = .tup []∧h1=⟨[(0,.cells (sysB K M B P)),(1,.cells [.int .i64 v])],2⟩):=by
 have hs:AL9 (rn []) ⟨(0,.cells (sysB K M B P))::(1,.cells [.int .i64 v])::t,nx⟩ ⟨[(0,.cells (sysB K M B P)),(1,.cells [.int .i64 v])],2⟩:=fun i o hi=>by
  simp only [lk] at hi
  show ∃ o',lk ((0,AObj.cells (sysB K M B P))::(1,AObj.cells [.int .i64 v])::t) i=some o'
  simp only [lk]
  split at hi
  ·rename_i e;exact ⟨_,if_pos e⟩
  ·rename_i e0
   split at hi
   ·rename_i e;exact ⟨_,by rw [if_neg e0,if_pos e]⟩
   ·cases hi
 exact AE8 [] rfl (Nat.le_refl _) (R7 rfl) (X0 hs (F6 fun x hx=>by cases hx)) (J2 hs (show 0 < 2 by decide) rfl rfl (F3 hP) (J2 hs (show 1 < 2 by decide) rfl rfl (X9 A8) J5)) ⟨rfl,rfl⟩
theorem k_each (P:List AV) (hP:∀ x ∈ P,Plain x) (v:Int) (a n:Nat) (hn:a+n≤1024):Ab5 Tryz.prog G0 38 [.ptr 0 0,.int .i64 (a:Nat),.int .i64 (n:Nat),.fn 109 [] [.ptr 1 0]] [(0,.cells (sysB K M B P)),(1,.cells [.int .i64 v])] 2 fun x h1=>x = .tup []∧h1=⟨[(0,.cells (sysB (AK7 K a n v) (Aq1 M a n false) (Ag0 B a n) P)),(1,.cells [.int .i64 v])],2⟩:=by
 refine I8 G9 b38 rfl ?_
 unfold c38
 have e0:sysB K M B P=sysB (AK7 K a 0 v) (Aq1 M a 0 false) (Ag0 B a 0) P:=by rw [BC0,setM_0,setP_0]
 rw [e0]
 (refine wm ?_;repeat' (first|with_reducible refine And.intro ?_ ?_|intro hsp))
 (refine F9 [0,1,2,3,9] (fun (i:Nat)=>[(10,.int .i64 (i:Nat))]) (fun (i:Nat)=>⟨[(0,.cells (sysB (AK7 K a i v) (Aq1 M a i false) (Ag0 B a i) P)),(1,.cells [.int .i64 v])],2⟩) (fun (i:Nat)=>i≤n) (fun (i:Nat)=>n - i) (0) [] rfl (fun _=>by first|exact Nat.zero_le _|(dsimp only;omega)) ?_ (by ((try (conv=>whnf));exact O4)) ?_)
 ·exact Nat.zero_le _
 rintro i hi
 by_cases hin:i < n
 ·have ht:((a:Int)+(i:Int)).toNat=a+i:=by omega
  have hs:over (sysB (AK7 K a i v) (Aq1 M a i false) (Ag0 B a i) P) (1+((a:Int)+(i:Int)).toNat * 66) (pgA v)=sysB (AK7 K a (i+1) v) (Aq1 M a (i+1) false) (Ag0 B a (i+1)) P:=by
   rw [ht,BJ1 (by omega),Ar4,setM_s,setP_s]
  have hl:1+((a:Int)+(i:Int)).toNat * 66+66≤67600:=by omega
  (refine wm ?_;repeat' (first|with_reducible refine And.intro ?_ ?_|intro hsp))
  all_goals exact D6 (i+1) [] (by (try dsimp only);omega) (by first|omega|(dsimp only;omega)) rfl (by exact O4)
 ·obtain rfl:i=n:=by omega
  (refine wm ?_;repeat' (first|with_reducible refine And.intro ?_ ?_|intro hsp))
  all_goals exact end_each hP
end
end Go.Proofs.YtbhgfoikbkaohaaGreat
namespace Go.Proofs.YtbhgfoikbkaohaaGreat
open Go Go.Am Go.Pol
structure LocT (f g:Nat) (cs ds:List AV) (v x y:Int) (r:AV):Prop where
 out:Ab5 Tryz.prog G0 f [.ptr 0 0,.int .i64 x,.int .i64 y,.fn g [] [.ptr 1 0]] [(0,.cells cs),(1,.cells [.int .i64 v])] 2 fun x h1=>x=r∧h1=⟨[(0,.cells ds),(1,.cells [.int .i64 v])],2⟩
theorem cx_two {f g:Nat} {cs ds:List AV} {v x y:Int} {a b nx:Nat} {l:List (Nat × AObj)} {r:AV} {K:AV→Hp→Prop}
  (hc:LocT f g cs ds v x y r)
  (pc:∀ x ∈ cs,Plain x) (pd:∀ x ∈ ds,Plain x) (pr:Plain r)
  (hl0:lk l a=some (.cells cs)) (hl1:lk l b=some (.cells [.int .i64 v])) (hd:Ad7 [a,b]=true) (hlt:a < nx∧b < nx)
  (hk:AP4 [a,b] l fun l2=>K r ⟨[(a,.cells ds),(b,.cells [.int .i64 v])]++l2,nx⟩):AN4 Tryz.prog G0 (.fn f [] []) [.ptr a 0,.int .i64 x,.int .i64 y,.fn g [] [.ptr b 0]] ⟨l,nx⟩ K:=by
 have e0:enter [a,b] a 0:=rfl
 have e1:enter [a,b] b 1:=rfl
 have k0:back [a,b] nx 0 a:=rfl
 have k1:back [a,b] nx 1 b:=rfl
 refine AS3 (l1:=[(a,.cells ds),(b,.cells [.int .i64 v])]) [a,b] hc.out J3 hd (.cons e0 hl0 (D8 pc) (.cons e1 hl1 (D8 (X9 A8)) .nil))
  ?_ (by intro x hx;simp only [List.mem_cons,List.not_mem_nil,or_false] at hx;omega) (G5 pr)
  (.cons k0 (D8 pd) (.cons k1 (D8 (X9 A8)) .nil)) hk
 simp only [List.nil_append,List.append_nil]
 exact ⟨Z9 e0,G5 A8,G5 A8,rn_fn trivial ⟨Z9 e1,trivial⟩,trivial⟩
theorem end_3 {top:Bool} {h:Hp} {x r:AV} {ds:List AV} {v w:Int} (hr:x=r) (hp:Plain r) (h0:lk h.l 0=some (.cells ds)) (h1:lk h.l 1=some (.cells [.int .i64 v])) (h2:lk h.l 2=some (.cells [.int .i64 w])) (pd:∀ x ∈ ds,Plain x) :
  AV3 top Tryz.prog 3 h x (fun r' h'=>r'=r∧h'=⟨[(0,.cells ds),(1,.cells [.int .i64 v]),(2,.cells [.int .i64 w])],3⟩):=by
 subst hr
 have hs:AL9 (rn []) h ⟨[(0,.cells ds),(1,.cells [.int .i64 v]),(2,.cells [.int .i64 w])],3⟩:=fun i o hi=>by
  simp only [lk] at hi
  show ∃ o',lk h.l i=some o'
  split at hi
  ·rename_i e;subst e;exact ⟨_,h0⟩
  ·split at hi
   ·rename_i e;subst e;exact ⟨_,h1⟩
   ·split at hi
    ·rename_i e;subst e;exact ⟨_,h2⟩
    ·cases hi
 exact AE8 [] rfl (Nat.le_refl _) (R7 rfl) (X0 hs hp) (J2 hs (show 0 < 3 by decide) h0 rfl pd (J2 hs (show 1 < 3 by decide) h1 rfl (X9 A8) (J2 hs (show 2 < 3 by decide) h2 rfl (X9 A8) J5))) ⟨rfl,rfl⟩
theorem wk {p q:Prop} (hq:q) (h:Y3 q→p:=by (intro hQz;((repeat' ((try (conv=>whnf));first|(with_reducible first|refine P6 ?_|refine K4 ?_|refine P9 ?_|refine Q5 ?_|refine K9 ?_|refine U9 ?_|refine O9 ?_|refine U8 rfl ?_|refine P5 ?_|refine I5 ?_|refine K7 ?_|refine K8 ?_|refine Q0 ?_|refine I4 ?_|refine K5 (by decide +kernel) ?_|refine J6 (by decide +kernel) ?_|refine AG2 ?_|refine AG3 ?_|refine Aj5 ?_|refine r9 ?_|refine AI4 ?_|refine Ag9 (by assumption) ?_|refine Ah0 (by assumption) ?_|refine p9 (by omega) ?_|refine AI2 ?_)|((with_reducible refine AI5 ?_ ?_);focus omega)|((with_reducible refine AI6 ?_ ?_);focus omega)|((with_reducible apply U1 hQz)<;>(try intro hsp hQz))|((with_reducible refine Aj3 ?_ ?_);focus (first|omega|rfl|assumption|decide|(simp only [List.length_map,List.length_cons,List.length_nil];omega)))|(with_reducible first|refine AH9 ?_|refine p8 ?_|refine o9 ?_|refine AI1 ?_|refine AI0 ?_|refine AH7 ?_|refine Aj0 ?_|refine I6 ?_|refine l9 ?_|refine P8 ?_|refine P7 ?_|refine I7 ?_|refine AH8 (by omega) ?_|refine o8 (by omega) ?_)|refine C8 AN8 ?_|refine C8 (by with_reducible assumption) ?_|refine AE7 (by with_reducible assumption) ?_|(with_reducible first|refine AC6 ?_|refine Aq9.mk (by kernel_rfl) ?_|refine AD6 rfl ?_|refine AC8 (by decide +kernel) ?_|refine AC7 rfl ?_)|refine cx_two (by assumption) (F3 A9) (F3 A9) D5 rfl rfl rfl (by omega) ?_|refine cx_two (by assumption) (F3 A9) (F3 A9) (F6 fun x hx=>by cases hx) rfl rfl rfl (by omega) ?_|refine K3 (by assumption) rfl (by omega) ?_|(refine AF1 G9 b61 rfl ?_;unfold c61)|refine I6 ?_|refine I7 ?_|refine AP6 rfl rfl ?_|refine l6 ?_|refine V8 rfl ?_|refine AP7 rfl ?_|refine AP3 rfl ?_|refine AD5 rfl ?_|refine S9 ?_|refine Au3.mk ?_|((with_reducible apply U2 hQz)<;>(try intro hsp hQz))|exact hQz.out))<;>(try (conv=>whnf))))):p:=h ⟨hq⟩
section
variable {K:Nat→Int} {M G:Nat→Bool} {B:Nat→Nat→Int} {l:List Rl} {C H:Nat→Int}
theorem BE6 {v w a n:Int} {k:Nat} (h:n < 1∨a < 0∨1024≤a∨1024 - a < n):Ab5 Tryz.prog G0 83 [.ptr 0 0,.int .i64 a,.int .i64 n,.agg [.int .i64 (k:Nat),.fn 108 [] [.ptr 1 0],.fn 109 [] [.ptr 2 0]]] [(0,.cells (sysB K M B (stA l C H))),(1,.cells [.int .i64 v]),(2,.cells [.int .i64 w])] 3 fun x h1=>x = .int .i64 7∧h1=⟨[(0,.cells (sysB K M B (stA l C H))),(1,.cells [.int .i64 v]),(2,.cells [.int .i64 w])],3⟩:=by
 refine I8 G9 b83 rfl ?_
 unfold c83
 (refine wk ?_;repeat' (first|with_reducible refine And.intro ?_ ?_|intro hsp))
 all_goals first|exact end_3 rfl A8 rfl rfl rfl (F3 A9)|(exfalso;omega)
theorem BM8 {v w:Int} {a n k:Nat} (h1:1≤n) (h2:a+n≤1024) (h:¬ okR K M a n v):Ab5 Tryz.prog G0 83 [.ptr 0 0,.int .i64 (a:Nat),.int .i64 (n:Nat),.agg [.int .i64 (k:Nat),.fn 108 [] [.ptr 1 0],.fn 109 [] [.ptr 2 0]]] [(0,.cells (sysB K M B (stA l C H))),(1,.cells [.int .i64 v]),(2,.cells [.int .i64 w])] 3 fun x h1=>x = .int .i64 9∧h1=⟨[(0,.cells (sysB K M B (stA l C H))),(1,.cells [.int .i64 v]),(2,.cells [.int .i64 w])],3⟩:=by
 have z:=LocT.mk (k_all (K:=K) (M:=M) (B:=B) (stA l C H) A9 v a n h2)
 rw [decide_eq_false h] at z
 refine I8 G9 b83 rfl ?_
 unfold c83
 (refine wk ?_;repeat' (first|with_reducible refine And.intro ?_ ?_|intro hsp))
 all_goals first|exact end_3 rfl A8 rfl rfl rfl (F3 A9)|(exfalso;omega)|(exfalso;exact absurd hsp (by simp [*]))|skip
theorem k_make_ref (hv:Ap0 l C H=0) {v w:Int} {a n k:Nat} (hk:k < 7) (h1:1≤n) (h2:a+n≤1024) (h:okR K M a n v) (hr:isR l C k=true):Ab5 Tryz.prog G0 83 [.ptr 0 0,.int .i64 (a:Nat),.int .i64 (n:Nat),.agg [.int .i64 (k:Nat),.fn 108 [] [.ptr 1 0],.fn 109 [] [.ptr 2 0]]] [(0,.cells (sysB K M B (stA l C H))),(1,.cells [.int .i64 v]),(2,.cells [.int .i64 w])] 3 fun x h1=>x = .int .i64 60∧h1=⟨[(0,.cells (sysB K M B (stA l (C1 C k) (H1 l C H k)))),(1,.cells [.int .i64 v]),(2,.cells [.int .i64 w])],3⟩:=by
 have z:=LocT.mk (k_all (K:=K) (M:=M) (B:=B) (stA l C H) A9 v a n h2)
 rw [decide_eq_true h] at z
 have z3:=LocT.mk (k_each (K:=K) (M:=M) (B:=B) (stA l (C1 C k) (H1 l C H k)) A9 w a n h2)
 have z2:=k_ref (K:=K) (M:=M) (B:=B) hv hk
 rw [hr] at z2
 refine I8 G9 b83 rfl ?_
 unfold c83
 (refine wk ?_;repeat' (first|with_reducible refine And.intro ?_ ?_|intro hsp))
 all_goals first|exact end_3 rfl A8 rfl rfl rfl (F3 A9)|(exfalso;omega)|(exfalso;exact absurd hsp (by simp [*]))|skip
theorem k_make_ok (hv:Ap0 l C H=0) {v w:Int} {a n k:Nat} (hk:k < 7) (h1:1≤n) (h2:a+n≤1024) (h:okR K M a n v) (hr:isR l C k=false):Ab5 Tryz.prog G0 83 [.ptr 0 0,.int .i64 (a:Nat),.int .i64 (n:Nat),.agg [.int .i64 (k:Nat),.fn 108 [] [.ptr 1 0],.fn 109 [] [.ptr 2 0]]] [(0,.cells (sysB K M B (stA l C H))),(1,.cells [.int .i64 v]),(2,.cells [.int .i64 w])] 3 fun x h1=>x = .int .i64 0∧h1=⟨[(0,.cells (sysB (AK7 K a n w) (Aq1 M a n false) (Ag0 B a n) (stA l (C1 C k) (H1 l C H k)))),(1,.cells [.int .i64 v]),(2,.cells [.int .i64 w])],3⟩:=by
 have z:=LocT.mk (k_all (K:=K) (M:=M) (B:=B) (stA l C H) A9 v a n h2)
 rw [decide_eq_true h] at z
 have z3:=LocT.mk (k_each (K:=K) (M:=M) (B:=B) (stA l (C1 C k) (H1 l C H k)) A9 w a n h2)
 have z2:=k_ref (K:=K) (M:=M) (B:=B) hv hk
 rw [hr] at z2
 refine I8 G9 b83 rfl ?_
 unfold c83
 (refine wk ?_;repeat' (first|with_reducible refine And.intro ?_ ?_|intro hsp))
 all_goals first|exact end_3 rfl A8 rfl rfl rfl (F3 A9)|(exfalso;omega)|(exfalso;exact absurd hsp (by simp [*]))|skip
end
end Go.Proofs.YtbhgfoikbkaohaaGreat
namespace Go.Proofs.YtbhgfoikbkaohaaGreat
open Go Go.Am Go.Pol
structure LocQ (cs ds:List AV) (v w a n k:Int) (r:AV):Prop where
 out:Ab5 Tryz.prog G0 83 [.ptr 0 0,.int .i64 a,.int .i64 n,.agg [.int .i64 k,.fn 108 [] [.ptr 1 0],.fn 109 [] [.ptr 2 0]]] [(0,.cells cs),(1,.cells [.int .i64 v]),(2,.cells [.int .i64 w])] 3 fun x h1=>x=r∧h1=⟨[(0,.cells ds),(1,.cells [.int .i64 v]),(2,.cells [.int .i64 w])],3⟩
 pc:∀ x ∈ cs,Plain x
 pd:∀ x ∈ ds,Plain x
 pr:Plain r
theorem cx_make {cs ds:List AV} {v w x y k:Int} {a b c nx:Nat} {l:List (Nat × AObj)} {r:AV} {K:AV→Hp→Prop} (hc:LocQ cs ds v w x y k r)
  (hl0:lk l a=some (.cells cs)) (hl1:lk l b=some (.cells [.int .i64 v])) (hl2:lk l c=some (.cells [.int .i64 w])) (hd:Ad7 [a,b,c]=true) (hlt:a < nx∧b < nx∧c < nx)
  (hk:AP4 [a,b,c] l fun l2=>K r ⟨[(a,.cells ds),(b,.cells [.int .i64 v]),(c,.cells [.int .i64 w])]++l2,nx⟩):AN4 Tryz.prog G0 (.fn 83 [] []) [.ptr a 0,.int .i64 x,.int .i64 y,.agg [.int .i64 k,.fn 108 [] [.ptr b 0],.fn 109 [] [.ptr c 0]]] ⟨l,nx⟩ K:=by
 have e0:enter [a,b,c] a 0:=rfl
 have e1:enter [a,b,c] b 1:=rfl
 have e2:enter [a,b,c] c 2:=rfl
 have k0:back [a,b,c] nx 0 a:=rfl
 have k1:back [a,b,c] nx 1 b:=rfl
 have k2:back [a,b,c] nx 2 c:=rfl
 refine AS3 (l1:=[(a,.cells ds),(b,.cells [.int .i64 v]),(c,.cells [.int .i64 w])]) [a,b,c] hc.out J3 hd (.cons e0 hl0 (D8 hc.pc) (.cons e1 hl1 (D8 (X9 A8)) (.cons e2 hl2 (D8 (X9 A8)) .nil)))
  ?_ (by intro x hx;simp only [List.mem_cons,List.not_mem_nil,or_false] at hx;omega) (G5 hc.pr)
  (.cons k0 (D8 hc.pd) (.cons k1 (D8 (X9 A8)) (.cons k2 (D8 (X9 A8)) .nil))) hk
 simp only [List.nil_append,List.append_nil]
 exact ⟨Z9 e0,G5 A8,G5 A8,rn_agg ⟨G5 A8,rn_fn trivial ⟨Z9 e1,trivial⟩,rn_fn trivial ⟨Z9 e2,trivial⟩,trivial⟩,trivial⟩
theorem wq {p q:Prop} (hq:q) (h:Y3 q→p:=by (intro hQz;((repeat' ((try (conv=>whnf));first|(with_reducible first|refine P6 ?_|refine K4 ?_|refine P9 ?_|refine Q5 ?_|refine K9 ?_|refine U9 ?_|refine O9 ?_|refine U8 rfl ?_|refine P5 ?_|refine I5 ?_|refine K7 ?_|refine K8 ?_|refine Q0 ?_|refine I4 ?_|refine K5 (by decide +kernel) ?_|refine J6 (by decide +kernel) ?_|refine AG2 ?_|refine AG3 ?_|refine Aj5 ?_|refine r9 ?_|refine AI4 ?_|refine Ag9 (by assumption) ?_|refine Ah0 (by assumption) ?_|refine p9 (by omega) ?_|refine AI2 ?_)|((with_reducible refine AI5 ?_ ?_);focus omega)|((with_reducible refine AI6 ?_ ?_);focus omega)|((with_reducible apply U1 hQz)<;>(try intro hsp hQz))|((with_reducible refine Aj3 ?_ ?_);focus (first|omega|rfl|assumption|decide|(simp only [List.length_map,List.length_cons,List.length_nil];omega)))|(with_reducible first|refine AH9 ?_|refine p8 ?_|refine o9 ?_|refine AI1 ?_|refine AI0 ?_|refine AH7 ?_|refine Aj0 ?_|refine I6 ?_|refine l9 ?_|refine P8 ?_|refine P7 ?_|refine I7 ?_|refine AH8 (by omega) ?_|refine o8 (by omega) ?_)|refine AE7 (by with_reducible assumption) ?_|(with_reducible first|refine AC6 ?_|refine Aq9.mk (by kernel_rfl) ?_|refine AD6 rfl ?_|refine AC8 (by decide +kernel) ?_|refine AC7 rfl ?_)|refine cx_make (by assumption) rfl rfl rfl rfl (by omega) ?_|(refine AF1 G9 b84 rfl ?_;unfold c84)|refine I6 ?_|refine I7 ?_|refine AP6 rfl rfl ?_|refine l6 ?_|refine V8 rfl ?_|refine AP7 rfl ?_|refine AP3 rfl ?_|refine AD5 rfl ?_|refine S9 ?_|refine Au3.mk ?_|((with_reducible apply U2 hQz)<;>(try intro hsp hQz))|exact hQz.out))<;>(try (conv=>whnf))))):p:=h ⟨hq⟩
section
variable {cs ds:List AV} {a n:Int} {r:AV}
theorem k_reserve (hq:LocQ cs ds 0 1 a n 0 r):j6 50 [.int .i64 a,.int .i64 n] cs r ds:=by
 refine j6.mk (I8 G9 b50 rfl ?_) hq.pc hq.pd (AG5 A8 A8) hq.pr
 unfold c50
 (refine wq ?_;repeat' (first|with_reducible refine And.intro ?_ ?_|intro hsp))
 all_goals exact O6 rfl hq.pr rfl hq.pd
theorem k_commit (hq:LocQ cs ds 1 2 a n 2 r):j6 93 [.int .i64 a,.int .i64 n] cs r ds:=by
 refine j6.mk (I8 G9 b93 rfl ?_) hq.pc hq.pd (AG5 A8 A8) hq.pr
 unfold c93
 (refine wq ?_;repeat' (first|with_reducible refine And.intro ?_ ?_|intro hsp))
 all_goals exact O6 rfl hq.pr rfl hq.pd
theorem k_decommit (hq:LocQ cs ds 2 1 a n 3 r):j6 70 [.int .i64 a,.int .i64 n] cs r ds:=by
 refine j6.mk (I8 G9 b70 rfl ?_) hq.pc hq.pd (AG5 A8 A8) hq.pr
 unfold c70
 (refine wq ?_;repeat' (first|with_reducible refine And.intro ?_ ?_|intro hsp))
 all_goals exact O6 rfl hq.pr rfl hq.pd
end
end Go.Proofs.YtbhgfoikbkaohaaGreat
namespace Go.Pol
def okC (K:Nat→Int) (a n:Nat):Prop:=∀ i,i < n→K (a+i)=2
instance (K:Nat→Int) (a n:Nat):Decidable (okC K a n):=by unfold okC;infer_instance
def okH (M:Nat→Bool) (a n:Nat):Prop:=∀ i,i < n→M (a+i)=true
instance (M:Nat→Bool) (a n:Nat):Decidable (okH M a n):=by unfold okH;infer_instance
end Go.Pol
namespace Go.Proofs.YtbhgfoikbkaohaaGreat
open Go Go.Am Go.Pol
section
variable {K:Nat→Int} {M G:Nat→Bool} {B:Nat→Nat→Int} {l:List Rl} {C H:Nat→Int}
theorem plain_fn0 {f:Nat}:Plain (.fn f [] []):=plain_fn (by simp) (by simp)
theorem BS0 {a n:Int} {f:Nat}:∀ x ∈ [AV.int .i64 a,.int .i64 n,.fn f [] []],Plain x:=fun x hx=>by
 rcases List.mem_cons.1 hx with rfl|hx
 ·exact A8
 ·exact AG5 A8 plain_fn0 x hx
end
end Go.Proofs.YtbhgfoikbkaohaaGreat
namespace Go.Proofs.YtbhgfoikbkaohaaGreat
open Go Go.Am Go.Pol
section
variable {K:Nat→Int} {M G:Nat→Bool} {B:Nat→Nat→Int} {l:List Rl} {C H:Nat→Int}
end
end Go.Proofs.YtbhgfoikbkaohaaGreat
namespace Go.Pol
def fst (x:Int):Prop:=0≤x∧x < 1024∧x.tmod 16=0
instance (x:Int):Decidable (fst x):=by unfold fst;infer_instance
end Go.Pol
namespace Go.Proofs.YtbhgfoikbkaohaaGreat
open Go Go.Am Go.Pol
theorem wf {p q:Prop} (hq:q) (h:Y3 q→p:=by (intro hQz;((repeat' ((try (conv=>whnf));first|(with_reducible first|refine P6 ?_|refine K4 ?_|refine P9 ?_|refine Q5 ?_|refine K9 ?_|refine U9 ?_|refine O9 ?_|refine U8 rfl ?_|refine P5 ?_|refine I5 ?_|refine K7 ?_|refine K8 ?_|refine Q0 ?_|refine I4 ?_|refine K5 (by decide +kernel) ?_|refine J6 (by decide +kernel) ?_|refine AG2 ?_|refine AG3 ?_|refine Aj5 ?_|refine r9 ?_|refine AI4 ?_|refine Ag9 (by assumption) ?_|refine Ah0 (by assumption) ?_|refine p9 (by omega) ?_|refine AI2 ?_)|((with_reducible refine AI5 ?_ ?_);focus omega)|((with_reducible refine AI6 ?_ ?_);focus omega)|((with_reducible apply U1 hQz)<;>(try intro hsp hQz))|((with_reducible refine Aj3 ?_ ?_);focus (first|omega|rfl|assumption|decide|(simp only [List.length_map,List.length_cons,List.length_nil];omega)))|(with_reducible first|refine AH9 ?_|refine p8 ?_|refine o9 ?_|refine AI1 ?_|refine AI0 ?_|refine AH7 ?_|refine Aj0 ?_|refine I6 ?_|refine l9 ?_|refine P8 ?_|refine P7 ?_|refine I7 ?_|refine AH8 (by omega) ?_|refine o8 (by omega) ?_)|refine C8 AN8 ?_|refine C8 (by with_reducible assumption) ?_|refine AE7 (by with_reducible assumption) ?_|(with_reducible first|refine AC6 ?_|refine Aq9.mk (by kernel_rfl) ?_|refine AD6 rfl ?_|refine AC8 (by decide +kernel) ?_|refine AC7 rfl ?_)|refine M0 (by assumption) ?_|refine R5 (by assumption) ?_|refine V5 (by assumption) ?_|refine K3 (by assumption) rfl (by omega) ?_|(refine AF1 G9 b61 rfl ?_;unfold c61)|refine I6 ?_|refine I7 ?_|refine AP6 rfl rfl ?_|refine l6 ?_|refine V8 rfl ?_|refine AP7 rfl ?_|refine AP3 rfl ?_|refine AD5 rfl ?_|refine S9 ?_|refine Au3.mk ?_|((with_reducible apply U2 hQz)<;>(try intro hsp hQz))|exact hQz.out))<;>(try (conv=>whnf))))):p:=h ⟨hq⟩
section
variable {K:Nat→Int} {M G:Nat→Bool} {B:Nat→Nat→Int} {P ds:List AV} {r:AV}
theorem k_first (x:Int):J8 35 [.int .i64 x] (.bool (decide (fst x))):=by
 refine J8.mk (R9 G9 b35 J3 ⟨A8,trivial⟩ D5 rfl ?_)
 unfold c35
 (refine wf ?_;repeat' (first|with_reducible refine And.intro ?_ ?_|intro hsp))
 all_goals exact K6 (by simp [fst, *])
end
end Go.Proofs.YtbhgfoikbkaohaaGreat
namespace Go.Pol
open Go.Am
structure Sy where
 K:Nat→Int
 G:Nat→Bool
 B:Nat→Nat→Int
 l:List Rl
 C:Nat→Int
 H:Nat→Int
def Sy.M (s:Sy) (p:Nat):Bool:=s.G (p / 16)
@[irreducible] def Sy.P (s:Sy):List AV:=stA s.l s.C s.H
@[irreducible] def Sy.a (s:Sy):List AV:=sysB s.K s.M s.B (stA s.l s.C s.H)
@[irreducible] def Sy.b (s:Sy):List AV:=refK s.K s.G s.B (stA s.l s.C s.H)
structure GoodS (s:Sy):Prop where
 hv:Ap0 s.l s.C s.H=0
 kind:∀ p,0≤s.K p∧s.K p≤3
 huge:∀ p,s.M p=true→s.K p=2
 zero:∀ p,s.K p ≠ 2→s.B p=fun _=>0
 cK:∀ p,1024≤p→s.K p=0
 cB:∀ p j,64≤j→s.B p j=0
def Sy.ref (s:Sy) (k:Nat):Sy:={ s with C:=C1 s.C k,H:=H1 s.l s.C s.H k }
def Sy.chg (s:Sy) (a n v w:Int) (k:Nat):Int × Sy :=
 if n < 1∨a < 0∨1024≤a∨1024 - a < n then (7,s) else
 if okR s.K s.M a.toNat n.toNat v then (if isR s.l s.C k then (60,s.ref k) else (0,{ s.ref k with K:=AK7 s.K a.toNat n.toNat w,B:=Ag0 s.B a.toNat n.toNat })) else (9,s)
def Sy.split (s:Sy) (a:Int):Int × Sy :=
 if fst a then (if s.M a.toNat then (if isR s.l s.C 6 then (60,s.ref 6) else (0,{ s.ref 6 with G:=Ak6 s.G (a.toNat / 16) false })) else (9,s)) else (7,s)
theorem Ay9 {l:List Rl} {C H:Nat→Int} {k:Nat} (h:Ap0 l C H=0):Ap0 l (C1 C k) (H1 l C H k)=0:=by
 obtain ⟨h1,h2,h3⟩:=AX6 h
 unfold Ap0 at h ⊢
 by_cases h4:(AK4 l).2 ≠ 0
 ·rw [if_pos h4] at h;exact absurd h h4
 ·rw [if_neg h4,if_pos]
  intro j hj
  obtain ⟨a1,a2,a3⟩:=h3 j hj
  unfold okK C1 H1
  by_cases h5:C k < 1000000
  ·simp only [if_pos h5]
   by_cases e:j=k
   ·subst e
    have e1:F4 C j (C j+1) j=C j+1:=by simp [F4]
    rw [e1]
    refine ⟨by omega,by omega,?_⟩
    rw [show (C j+1).toNat=(C j).toNat+1 by omega]
    show ((cnt l (j:Nat) (C j).toNat+(if AW4 l (j:Nat) (((C j).toNat+1:Nat):Int) then 1 else 0):Nat):Int)=_
    rw [show (((C j).toNat+1:Nat):Int)=C j+1 by omega]
    cases AW4 l (j:Nat) (C j+1) with
    | true=>simp [F4];omega
    | false=>simp;omega
   ·have e1:F4 C k (C k+1) j=C j:=by simp [F4,e]
    rw [e1]
    refine ⟨a1,a2,?_⟩
    rw [a3]
    split
    ·simp [F4,e]
    ·rfl
  ·simp only [if_neg h5]
   exact ⟨a1,a2,a3⟩
theorem Aw4 {s:Sy} {k:Nat} (h:GoodS s):GoodS (s.ref k):=⟨Ay9 h.hv,h.kind,h.huge,h.zero,h.cK,h.cB⟩
theorem BU9 {s:Sy} {a n v w:Int} {k:Nat} (h:GoodS s) (hw:0≤w∧w≤3):GoodS (s.chg a n v w k).2:=by
 unfold Sy.chg
 split
 ·exact h
 ·split
  ·rename_i hr hok
   split
   ·exact Aw4 h
   ·refine ⟨Ay9 h.hv,fun p=>?_,fun p hp=>?_,fun p hp=>?_,fun p hp=>?_,fun p j hj=>?_⟩
    ·show 0≤AK7 s.K _ _ w p∧AK7 s.K _ _ w p≤3
     unfold AK7;split
     ·exact hw
     ·exact h.kind p
    ·show AK7 s.K _ _ w p=2
     unfold AK7;split
     ·rename_i hq
      have:=(hok (p - a.toNat) (by omega)).2
      rw [show a.toNat+(p - a.toNat)=p by omega] at this
      rw [show s.M p=true from hp] at this;cases this
     ·exact h.huge p hp
    ·show Ag0 s.B _ _ p=_
     have hp':AK7 s.K a.toNat n.toNat w p ≠ 2:=hp
     unfold AK7 at hp';unfold Ag0
     split at hp'
     ·rename_i hq;rw [if_pos hq]
     ·rename_i hq;rw [if_neg hq];exact h.zero p hp'
    ·show AK7 s.K _ _ w p=0
     unfold AK7;rw [if_neg (by omega)];exact h.cK p hp
    ·show Ag0 s.B _ _ p j=0
     unfold Ag0;split
     ·rfl
     ·exact h.cB p j hj
  ·exact h
theorem BN1 {a:Int} (h:fst a):∃ g:Nat,a=((g * 16:Nat):Int)∧g < 64:=by
 obtain ⟨f1,f2,f3⟩:=h
 rw [Int.tmod_eq_emod_of_nonneg f1] at f3
 exact ⟨a.toNat / 16,by omega,by omega⟩
theorem setM_same {M:Nat→Bool} {a n:Nat} {b:Bool} (h:∀ i,i < n→M (a+i)=b):Aq1 M a n b=M:=by
 funext p;unfold Aq1
 split
 ·rename_i hq
  have:=h (p - a) (by omega)
  rw [show a+(p - a)=p by omega] at this;exact this.symm
 ·rfl
end Go.Pol
namespace Go.Proofs.YtbhgfoikbkaohaaGreat
open Go Go.Am Go.Pol
section
variable {s:Sy} {a n:Int}
theorem p_make {v w:Int} {k:Nat} (h:GoodS s) (hk:k < 7):LocQ s.a (s.chg a n v w k).2.a v w a n (k:Nat) (.int .i64 (s.chg a n v w k).1):=by
 have pa:∀ x ∈ s.a,Plain x:=by unfold Sy.a;exact F3 A9
 have pb:∀ x ∈ (s.chg a n v w k).2.a,Plain x:=by unfold Sy.a;exact F3 A9
 refine LocQ.mk ?_ pa pb A8
 unfold Sy.chg
 by_cases h1:n < 1∨a < 0∨1024≤a∨1024 - a < n
 ·rw [if_pos h1];unfold Sy.a;exact BE6 h1
 ·rw [if_neg h1]
  obtain ⟨a',rfl⟩:∃ a':Nat,a=(a':Nat):=⟨a.toNat,by omega⟩
  obtain ⟨n',rfl⟩:∃ n':Nat,n=(n':Nat):=⟨n.toNat,by omega⟩
  simp only [Int.toNat_natCast]
  by_cases h2:okR s.K s.M a' n' v
  ·rw [if_pos h2]
   cases h3:isR s.l s.C k with
   | true=>rw [if_pos rfl];unfold Sy.a Sy.ref;exact k_make_ref h.hv hk (by omega) (by omega) h2 h3
   | false =>
    rw [if_neg (by simp)];unfold Sy.a Sy.ref
    have:=k_make_ok (w:=w) (B:=s.B) h.hv hk (by omega) (by omega) h2 h3
    rw [setM_same fun i hi=>(h2 i hi).2] at this
    exact this
  ·rw [if_neg h2];unfold Sy.a;exact BM8 (by omega) (by omega) h2
theorem p_reserve (h:GoodS s):j6 50 [.int .i64 a,.int .i64 n] s.a (.int .i64 (s.chg a n 0 1 0).1) (s.chg a n 0 1 0).2.a:=k_reserve (p_make h (by decide))
theorem p_commit (h:GoodS s):j6 93 [.int .i64 a,.int .i64 n] s.a (.int .i64 (s.chg a n 1 2 2).1) (s.chg a n 1 2 2).2.a:=k_commit (p_make h (by decide))
theorem As2 (h:GoodS s):j6 70 [.int .i64 a,.int .i64 n] s.a (.int .i64 (s.chg a n 2 1 3).1) (s.chg a n 2 1 3).2.a:=k_decommit (p_make h (by decide))
end
end Go.Proofs.YtbhgfoikbkaohaaGreat
