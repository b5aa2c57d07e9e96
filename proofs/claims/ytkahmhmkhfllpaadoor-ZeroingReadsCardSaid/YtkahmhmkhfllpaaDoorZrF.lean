/-
 The law's examples: its call gives true. The run of the abstract machine is looked at by the kernel,but for three functions,of which contracts are known.
 The law's examples: its call gives true.
-/
import Derived.Test.YtkahmhmkhfllpaaDoorZrD
import Derived.KernelRfl
set_option linter.unusedSimpArgs false
set_option linter.unusedVariables false
namespace Go.Proofs.YtkahmhmkhfllpaaDoor
open Go Go.Am Go.Pol
def unCut:List AV→Option Cut
 | [.int .i64 a,.int .i64 n]=>some (a,n)
 | _=>none
def unAll {α:Type} (f:List AV→Option α):List (List AV)→Option (List α)
 | []=>some []
 | x::xs=>match f x,unAll f xs with
  | some y,some ys=>some (y::ys)
  | _,_=>none
def unPage:List AV→Option Page
 | [.int .i64 p,.isl cs]=>match unAll unCut cs with
  | some l=>some (p,l)
  | none=>none
 | _=>none
def unState:AV→Option (List Page)
 | .agg [.isl ps]=>unAll unPage ps
 | .agg [.nils]=>some []
 | _=>none
theorem unAll_eq {α:Type} {f:List AV→Option α} {g:α→List AV} (hf:∀ x y,f x=some y→x=g y):∀ {l:List (List AV)} {ys:List α},unAll f l=some ys→l=ys.map g
 | [],ys,h=>by cases h;rfl
 | x::xs,ys,h=>by
  unfold unAll at h
  split at h
  ·rename_i y zs e1 e2
   cases h
   rw [List.map_cons,← hf x y e1,← unAll_eq hf e2]
  ·cases h
theorem unCut_eq (x:List AV) (c:Cut) (h:unCut x=some c):x=cutA c:=by
 unfold unCut at h;split at h
 ·cases h;rfl
 ·cases h
theorem unPage_eq (x:List AV) (c:Page) (h:unPage x=some c):x=pageA c:=by
 unfold unPage at h;split at h
 ·split at h
  ·rename_i e;cases h;rw [unAll_eq unCut_eq e];rfl
  ·cases h
 ·cases h
def Cv (x y:AV):Prop:=∀ (c:Cx) (v:Value),RR c x v→RR c y v
theorem cv_nils:Cv .nils (.isl []):=fun c v h=>by
 obtain ⟨A,rfl⟩:=RR_nils.1 h
 exact RR_isl.2 ⟨A,0,rfl,Nat.le_refl _,Nat.zero_le _,fun h=>absurd rfl h⟩
theorem unState_cv {x:AV} {s:List Page} (h:unState x=some s):Cv x (stateA s):=by
 unfold unState at h;split at h
 ·rw [unAll_eq unPage_eq h];exact fun c v h=>h
 ·cases h
  intro c v h
  obtain ⟨vs,h1,h2,h3⟩:=RR_agg.1 h
  refine RR_agg.2 ⟨vs,h1,h2,fun j y hy=>?_⟩
  cases j with
  | zero =>
   cases hy
   obtain ⟨u,hu,hr,ho⟩:=h3 0 .nils rfl
   exact ⟨u,hu,cv_nils c u hr,ho⟩
  | succ j=>cases hy
 ·cases h
theorem pure_cv {P:Program} {G:Gl} {g:Nat} {x y:AV} {l:List AV} {r:AV} (hx:Cv x y) (hp:PureC P G g (y::l) r):PureC P G g (x::l) r:=fun at_ id=>⟨(hp at_ id).1,fun c vs hR hg hid hrd ha=>(hp at_ id).2 c vs hR hg hid hrd ⟨ha.1,fun j z hz=>by
 cases j with
 | zero=>cases hz;obtain ⟨u,hu,hr⟩:=ha.2 0 x rfl;exact ⟨u,hu,hx c u hr⟩
 | succ j=>exact ha.2 (j+1) z hz⟩⟩
def goodB (s:List Page):Bool:=s.all fun p=>decide (0≤p.1) && decide (p.1 < 1024) && p.2.all fun c=>!badCut c
def okB (s:List Page) (a n:Int):Bool:=decide (s.length≤2000) && s.all (fun p=>decide (p.2.length≤100)) && (decide (askM s a n ≠ 0) || goodB s && decide (0≤a) && decide (0≤n) && decide (a+n≤65536))
theorem goodB_eq {s:List Page} (h:goodB s=true):∀ p ∈ s,0≤p.1∧p.1 < 1024∧∀ c ∈ p.2,badCut c=false:=fun p hp=>by
 have:=List.all_eq_true.1 h p hp
 simp only [Bool.and_eq_true,decide_eq_true_eq,List.all_eq_true,Bool.not_eq_true'] at this
 exact ⟨this.1.1,this.1.2,this.2⟩
theorem okB_eq {s:List Page} {a n:Int} (h:okB s a n=true):s.length≤2000∧(∀ p ∈ s,p.2.length≤100)∧(askM s a n=0→(∀ p ∈ s,0≤p.1∧p.1 < 1024∧∀ c ∈ p.2,badCut c=false)∧0≤a∧0≤n∧a+n≤65536):=by
 simp only [okB,Bool.and_eq_true,Bool.or_eq_true,decide_eq_true_eq,List.all_eq_true] at h
 obtain ⟨⟨h1,h2⟩,h3⟩:=h
 refine ⟨h1,h2,fun h0=>?_⟩
 rcases h3 with h3 | ⟨⟨⟨h3,h4⟩,h5⟩,h6⟩
 ·exact absurd h0 h3
 ·exact ⟨goodB_eq h3,h4,h5,h6⟩
def turnF (op:Nat→Nat→Nat):List AV→Hp→Option (AV × Hp)
 | [x,.int .i64 a,.int .i64 n],h=>match unState x with
  | some s=>if okB s a n=true then some (.tup [if askM s a n=0 then stateA (stateM (turnM op (openM s) a.toNat n.toNat) 1024) else stateA [],.int .i64 (askM s a n)],h) else none
  | none=>none
 | _,_=>none
def openF:List AV→Hp→Option (AV × Hp)
 | [x],h=>match unState x with
  | some s=>if (decide (s.length≤2000) && s.all (fun p=>decide (p.2.length≤100)) && goodB s)=true then some (.ptr h.next 0,⟨h.l++[(h.next,.cells (arr (openM s)))],h.next+1⟩) else none
  | none=>none
 | _,_=>none
theorem callV_pure {P:Program} {G:Gl} {g:Nat} {fs avs cs:List AV} {r:AV} {h:Hp} {K:AV→Hp→Prop} (hp:PureC P G g (fs++avs++cs) r) (hk:K r h):CallV P G (.fn g fs cs) avs h K:=callV_fnU (hp _ _) hk
theorem turn_orc {f:Nat} {op:Nat→Nat→Nat} (hf:∀ s a n,s.length≤2000→(∀ p ∈ s,p.2.length≤100)→(askM s a n=0→(∀ p ∈ s,0≤p.1∧p.1 < 1024∧∀ c ∈ p.2,badCut c=false)∧0≤a∧0≤n∧a+n≤65536) →
  PureC Tryd.prog G0 f [stateA s,.int .i64 a,.int .i64 n] (.tup [if askM s a n=0 then stateA (stateM (turnM op (openM s) a.toNat n.toNat) 1024) else stateA [],.int .i64 (askM s a n)]))
  (fs args cs:List AV) (h:Hp) (r:AV) (h':Hp) (e:turnF op (fs++args++cs) h=some (r,h')) (K:AV→Hp→Prop) (hK:K r h'):CallV Tryd.prog G0 (.fn f fs cs) args h K:=by
 unfold turnF at e
 split at e
 ·rename_i h1 l0 h0 x a n ha
  split at e
  ·rename_i s hs
   split at e
   ·rename_i hb
    cases e
    obtain ⟨b1,b2,b3⟩:=okB_eq hb
    refine callV_pure (r:=.tup [if askM s a n=0 then stateA (stateM (turnM op (openM s) a.toNat n.toNat) 1024) else stateA [],.int .i64 (askM s a n)]) ?_ hK
    rw [ha]
    exact pure_cv (unState_cv hs) (hf s a n b1 b2 b3)
   ·cases e
  ·cases e
 ·cases e
theorem arr_rnl {p:Nat→Nat→Prop} (M:Nat→Nat):RnL p (arr M) (arr M):=by
 have h:=arr_plain M
 generalize arr M=l at h
 exact rnl_plain h
set_option maxRecDepth 20000 in
theorem open_orc (fs args cs:List AV) (h:Hp) (r:AV) (h':Hp) (e:openF (fs++args++cs) h=some (r,h')) (K:AV→Hp→Prop) (hK:K r h'):CallV Tryd.prog G0 (.fn 43 fs cs) args h K:=by
 unfold openF at e
 split at e
 ·rename_i h1 l0 h0 x ha
  split at e
  ·rename_i s hs
   split at e
   ·rename_i hb
    simp only [Bool.and_eq_true,decide_eq_true_eq,List.all_eq_true] at hb
    cases e
    refine callV_loc [] (l_open s hb.1.1 hb.1.2 (goodB_eq hb.2)) plainG rfl .nil (by rw [ha];exact ⟨fun c c' v hsb hr=>plain_state c c' v (fun b hb=>⟨hsb.froz b hb,fun o u hu=>by rw [hsb.w];exact hu⟩) (unState_cv hs c v hr),trivial⟩) (by simp) ?_
    rintro x h2 ⟨rfl,rfl⟩
    have hrl:RnL (back [] h1.next) (arr (openM s)) (arr (openM s)):=arr_rnl _
    generalize arr (openM s)=l at hrl hK ⊢
    refine ⟨.ptr h1.next 0,[(h1.next,.cells l)],rn_ptr (by simp [back]),.cons (by simp [back]) hrl .nil,?_⟩
    have hfl:(h1.l.filter fun q=>!([]:List Nat).contains q.1)=h1.l:=by simp
    rw [hfl]
    exact hK
   ·cases e
  ·cases e
 ·cases e
def tabZ:Tab:=tabWith 43 openF (tabWith 17 (turnF opOr) (tabWith 20 (turnF opOff) tab))
theorem tabZ_ok:tabOk Tryd.prog tabZ:=tabOk_with (tabOk_with (tabOk_with tab_ok))
theorem wrote_orc:∀ (fs args cs:List AV) (h:Hp) (r:AV) (h':Hp),turnF opOr (fs++args++cs) h=some (r,h')→∀ K:AV→Hp→Prop,K r h'→CallV Tryd.prog G0 (.fn 17 fs cs) args h K:=by
 intro fs args cs h r h' e K hK
 refine turn_orc (f:=17) (op:=opOr) ?_ fs args cs h r h' e K hK
 intro s a n b1 b2 b3
 exact k_wrote s a n b1 b2 b3
theorem zeroed_orc:∀ (fs args cs:List AV) (h:Hp) (r:AV) (h':Hp),turnF opOff (fs++args++cs) h=some (r,h')→∀ K:AV→Hp→Prop,K r h'→CallV Tryd.prog G0 (.fn 20 fs cs) args h K:=by
 intro fs args cs h r h' e K hK
 refine turn_orc (f:=20) (op:=opOff) ?_ fs args cs h r h' e K hK
 intro s a n b1 b2 b3
 exact k_zeroed s a n b1 b2 b3
theorem tab_orc:orcOk Tryd.prog G0 tab:=orcOk_none
theorem tabZ_orc:orcOk Tryd.prog G0 tabZ:=orcOk_with (orcOk_with (orcOk_with tab_orc zeroed_orc) wrote_orc) open_orc
end Go.Proofs.YtkahmhmkhfllpaaDoor
namespace Go.Proofs.YtkahmhmkhfllpaaDoor
open Go Go.Am Go.Pol
theorem awake_run:isTrue (callE tabZ G0 (79+1) (.fn 7 [] []) [] ⟨[],0⟩)=true:=by kernel_rfl
theorem k_awake:PureC Tryd.prog G0 7 [] (.bool true):=closed_true hmix tabZ_ok tabZ_orc plainG rfl awake_run
end Go.Proofs.YtkahmhmkhfllpaaDoor
