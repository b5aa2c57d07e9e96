/-
 Systems that are made by spans and bytes,and zeros that are written: plain.
-/
import Derived.Test.YtkahmhmkhfllpaaDoorVmC
set_option linter.unusedSimpArgs false
set_option linter.unusedVariables false
namespace Go.Pol
open Go.Am
abbrev II:=Int × Int
def spS (s:Sy) (x:II):Sy:=if (s.chg x.1 x.2 0 1 0).1=0 then ((s.chg x.1 x.2 0 1 0).2.chg x.1 x.2 1 2 2).2 else (s.chg x.1 x.2 0 1 0).2
def ptS (s:Sy) (x:II):Sy:=(s.write x.1 x.2).2
def mkS (X P:List II):Sy:=P.foldl ptS (X.foldl spS (Sy.new []))
theorem good_sp {s:Sy} {x:II} (h:GoodS s):GoodS (spS s x):=by
 unfold spS
 split
 ·exact good_chg (good_chg h (by decide)) (by decide)
 ·exact good_chg h (by decide)
theorem fold_good {f:Sy→II→Sy} (hf:∀ s x,GoodS s→GoodS (f s x)):∀ {l:List II} {s:Sy},GoodS s→GoodS (l.foldl f s)
 | [],_,h=>h
 | x::l,s,h=>fold_good (l:=l) (s:=f s x) hf (hf s x h)
theorem good_spans {X:List II}:GoodS (X.foldl spS (Sy.new [])):=fold_good (fun _ _ h=>good_sp h) (good_new rfl)
theorem good_mk {X P:List II}:GoodS (mkS X P):=fold_good (fun _ _ h=>good_write h) good_spans
theorem fold_take {f:Sy→II→Sy} {s:Sy} {l:List II} {i:Nat} (h:i < l.length):(l.take (i+1)).foldl f s=f ((l.take i).foldl f s) (nth (0,0) l i):=by
 rw [take_nth (d:=(0,0)) h,List.foldl_append];rfl
theorem fold_all {f:Sy→II→Sy} {s:Sy} {l:List II} {i:Nat} (h:¬ i < l.length):(l.take i).foldl f s=l.foldl f s:=by rw [List.take_of_length_le (by omega)]
def okW (s:Sy) (a:Int):Bool:=decide (0≤a∧a < 65536∧s.K (a.toNat / 64)=2)
theorem write_ok {s:Sy} {a b:Int} (h:okW s a=true):(s.write a b).1=0:=by
 simp only [okW,decide_eq_true_eq] at h
 unfold Sy.write
 rw [if_neg (by omega),if_pos h.2.2]
theorem write_no {s:Sy} {a b:Int} (h:okW s a=false):(s.write a b).1 ≠ 0∧(s.write a b).2=s:=by
 simp only [okW,decide_eq_false_iff_not] at h
 unfold Sy.write
 split
 ·exact ⟨(by decide:(7:Int) ≠ 0),rfl⟩
 ·rw [if_neg (fun e=>h ⟨by omega,by omega,e⟩)];exact ⟨(by decide:(61:Int) ≠ 0),rfl⟩
theorem write_K {s:Sy} {a b:Int}:(s.write a b).2.K=s.K:=by
 unfold Sy.write;split
 ·rfl
 ·split<;>rfl
theorem okW_K {s t:Sy} (h:t.K=s.K) (a:Int):okW t a=okW s a:=by simp only [okW,h]
theorem write_eq {s t:Sy} (h:t.K=s.K) (a b:Int):(t.write a b).1=(s.write a b).1:=by
 unfold Sy.write;rw [h];split
 ·rfl
 ·split<;>rfl
def wz (s:Sy) (A:List Int):Sy:=A.foldl (fun s a=>(s.write a 0).2) s
theorem wz_K {A:List Int}:∀ {s:Sy},(wz s A).K=s.K:=by
 induction A with
 | nil=>intro s;rfl
 | cons a r ih=>intro s;show (wz (s.write a 0).2 r).K=_;rw [ih,write_K]
theorem good_wz {A:List Int}:∀ {s:Sy},GoodS s→GoodS (wz s A):=by
 induction A with
 | nil=>intro s h;exact h
 | cons a r ih=>intro s h;exact ih (good_write h)
theorem wz_snoc {s:Sy} {A:List Int} {a:Int}:wz s (A++[a])=((wz s A).write a 0).2:=by simp [wz,List.foldl_append]
def adr (z:II) (k:Nat):List Int:=(List.range k).map fun j=>z.1+(j:Nat)
def adrs (L:List II):List Int:=L.flatMap fun z=>adr z z.2.toNat
theorem adr_succ {z:II} {k:Nat}:adr z (k+1)=adr z k++[z.1+(k:Nat)]:=by simp [adr,List.range_succ]
theorem adr_len {z:II} {k:Nat}:(adr z k).length=k:=by simp [adr]
theorem adrs_take {L:List II} {i:Nat} (h:i < L.length):adrs (L.take (i+1))=adrs (L.take i)++adr (nth (0,0) L i) (nth (0,0) L i).2.toNat:=by
 rw [take_nth (d:=(0,0)) h,adrs,List.flatMap_append];simp [adrs]
theorem adr_cut {z:II} {n k:Nat} (h:k < n):∃ r,adr z n=adr z k++(z.1+(k:Nat))::r:=by
 obtain ⟨m,rfl⟩:∃ m,n=k+1+m:=⟨n - (k+1),by omega⟩
 exact ⟨(List.range m).map (fun j=>z.1+((k+1+j:Nat):Int)),by rw [adr,List.range_add,List.map_append,← adr,adr_succ];simp [List.map_map,Function.comp_def]⟩
theorem adrs_cut {L:List II} {i k:Nat} (h:i < L.length) (hk:k < (nth (0,0) L i).2.toNat):∃ r,adrs L=(adrs (L.take i)++adr (nth (0,0) L i) k)++((nth (0,0) L i).1+(k:Nat))::r:=by
 obtain ⟨r,hr⟩:=adr_cut (z:=nth (0,0) L i) hk
 refine ⟨r++adrs (L.drop (i+1)),?_⟩
 have e:adrs L=adrs (L.take (i+1))++adrs (L.drop (i+1)):=by
  rw [adrs,adrs,adrs,← List.flatMap_append,List.take_append_drop]
 rw [e,adrs_take h,hr];simp
def preA (s:Sy) (A:List Int):List Int:=A.takeWhile (okW s)
def badA (s:Sy) (A:List Int):Option Int:=A.find? fun a=>!okW s a
theorem pre_stop {s:Sy} {r:List Int} {a:Int} (ha:okW s a=false):∀ {A:List Int},(∀ x ∈ A,okW s x=true)→preA s (A++a::r)=A∧badA s (A++a::r)=some a
 | [],_=>by simp [preA,badA,ha]
 | x::A,h=>by
  have hx:=h x (List.mem_cons_self ..)
  obtain ⟨h1,h2⟩:=pre_stop (r:=r) ha (A:=A) fun y hy=>h y (List.mem_cons_of_mem _ hy)
  show (x::(A++a::r)).takeWhile (okW s)=_∧(x::(A++a::r)).find? _=_
  rw [List.takeWhile_cons_of_pos hx,List.find?_cons_of_neg (by simp [hx])]
  exact ⟨congrArg (x :: ·) h1,h2⟩
theorem pre_all {s:Sy}:∀ {A:List Int},(∀ x ∈ A,okW s x=true)→preA s A=A∧badA s A=none
 | [],_=>by simp [preA,badA]
 | x::A,h=>by
  have hx:=h x (List.mem_cons_self ..)
  obtain ⟨h1,h2⟩:=pre_all (A:=A) fun y hy=>h y (List.mem_cons_of_mem _ hy)
  show (x::A).takeWhile (okW s)=_∧(x::A).find? _=_
  rw [List.takeWhile_cons_of_pos hx,List.find?_cons_of_neg (by simp [hx])]
  exact ⟨congrArg (x :: ·) h1,h2⟩
def zRes (s:Sy) (A:List Int) (at_ n:Int):Int × Nat × Int:=match badA s A with
 | none=>(n,A.length,0)
 | some a=>(a - at_,(preA s A).length,(s.write a 0).1)
end Go.Pol
