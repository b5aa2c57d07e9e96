/-
 A quicker walk,third part: its laws: entries and ends,loops,calls,appending,what may be forgotten. No program in sight.
-/
import Derived.Test.YtphggldkligldaaAmWy
set_option linter.unusedSimpArgs false
set_option linter.unusedVariables false
namespace Go.Am
section
variable {P:Program} {G:Gl} {n:Nat}
def enumK:Nat→List AV→(SF→Prop)→Prop
 | _,[],k=>k []
 | i,a::r,k=>enumK (i+1) r fun l=>k ((i,a)::l)
def enumF:Nat→List AV→SF
 | _, [] => []
 | i,a::r=>(i,a)::enumF (i+1) r
theorem enumK_spec:∀ {l:List AV} {i:Nat} {k:SF→Prop},enumK i l k→k (enumF i l)
 | [],_,_,h=>h
 | a::r,i,k,h=>enumK_spec (l:=r) (i:=i+1) (k:=fun l=>k ((i,a)::l)) h
theorem sget_enum:∀ {l:List AV} {i t:Nat},sget (enumF i l) t=if i≤t then l.getD (t - i) .undef else .undef
 | [],i,t=>by simp [enumF,sget]
 | a::r,i,t=>by
  rw [enumF,sget_cons,sget_enum]
  by_cases h:i=t
  ·subst h;simp
  ·rw [if_neg h]
   by_cases h2:i+1≤t
   ·rw [if_pos h2,if_pos (by omega),show t - i=(t - (i+1))+1 by omega];rfl
   ·rw [if_neg h2,if_neg (by omega)]
theorem sd_enum {args:List AV} (h:args.length≤n):args++List.replicate (n - args.length) .undef=sd n (enumF 0 args):=by
 apply List.ext_getElem?
 intro j
 rw [sd_get,sget_enum,List.getElem?_append]
 by_cases h1:j < args.length
 ·rw [if_pos h1,if_pos (by omega),if_pos (Nat.zero_le _)];simp [h1]
 ·rw [if_neg h1]
  by_cases h2:j < n
  ·rw [if_pos h2,if_pos (Nat.zero_le _),List.getElem?_replicate,if_pos (by omega)]
   simp [List.getElem?_eq_none (show args.length≤j by omega)]
  ·rw [if_neg h2,List.getElem?_replicate,if_neg (by omega)]
structure EndX (top:Bool) (P:Program) (N:Nat) (h:Hp) (x:AV) (K:AV→Hp→Prop):Prop where
 out:∃ σ r' h',Weak P σ [x] h [r'] h'∧Keeps N σ∧N≤h'.next∧K r' h'
def packK (l:List AV) (k:AV→Prop):Prop:=match l with
 | [v]=>k v
 | l=>k (.tup l)
theorem packK_spec {l:List AV} {k:AV→Prop} (h:packK l k):k (packV l):=by
 match l,h with
 | [],h=>exact h
 | [_],h=>exact h
 | _::_::_,h=>exact h
def res1K (n:Nat) (sf:SF) (l:List (Nat × AObj)) (r:ARes) (k:AV→Prop):Prop:=match r with
 | .tmp t=>bif Nat.blt t n then lookK sf t k else False
 | .cell a ag m=>bif Nat.blt a n then lookK sf a fun p=>loadK l ag m p fun v _=>k v else False
theorem res1K_spec {sf:SF} {l:List (Nat × AObj)} {r:ARes} {k:AV→Prop} (h:res1K n sf l r k):∃ v,resV (sd n sf) (lk l) r=some v∧k v:=by
 cases r with
 | tmp t =>
  simp only [res1K] at h
  cases e:Nat.blt t n with
  | false=>rw [e] at h;exact h.elim
  | true=>rw [e] at h;exact ⟨_,by simp only [resV];rw [sd_get,if_pos (blt_lt e)],lookK_spec h⟩
 | cell a ag m =>
  simp only [res1K] at h
  cases e:Nat.blt a n with
  | false=>rw [e] at h;exact h.elim
  | true =>
   rw [e] at h
   obtain ⟨v,rd,h1,h2⟩:=loadK_spec (lookK_spec h)
   exact ⟨v,by simp only [resV];rw [sd_get,if_pos (blt_lt e)];simp [h1],h2⟩
def resK (n:Nat) (sf:SF) (l:List (Nat × AObj)):List ARes→(List AV→Prop)→Prop
 | [],k=>k []
 | r::rs,k=>res1K n sf l r fun v=>resK n sf l rs fun vs=>k (v::vs)
theorem resK_spec {sf:SF} {l:List (Nat × AObj)}:∀ {rs:List ARes} {k:List AV→Prop},resK n sf l rs k→∃ vs,resVs (sd n sf) (lk l) rs=some vs∧k vs
 | [],k,h=>⟨[],rfl,h⟩
 | r::rs,k,h=>by
  obtain ⟨v,h1,h⟩:=res1K_spec h
  obtain ⟨vs,h2,h⟩:=resK_spec h
  exact ⟨v::vs,by simp [resVs,h1,h2],h⟩
def endK (n:Nat) (top:Bool) (P:Program) (rs:List ARes) (N:Nat) (K:AV→Hp→Prop) (e:Exit) (sf:SF) (h:Hp):Prop:=match e with
 | .normal=>resK n sf h.l rs fun l=>packK l fun x=>EndX top P N h x K
 | .ret=>resK n sf h.l rs fun l=>packK l fun x=>EndX top P N h x K
 | _=>False
theorem endK_spec {top:Bool} {rs:List ARes} {N:Nat} {K:AV→Hp→Prop} {e:Exit} {sf:SF} {h hx:Hp} (hk:endK n top P rs N K e sf hx) (q:Hq h hx):finQ P rs N K e (sd n sf) h:=by
 have go:(resK n sf hx.l rs fun l=>packK l fun x=>EndX top P N hx x K)→∃ l σ r' h',resVs (sd n sf) (lk h.l) rs=some l∧Weak P σ [packV l] h [r'] h'∧Keeps N σ∧N≤h'.next∧K r' h':=fun hk=>by
  obtain ⟨vs,h1,h2⟩:=resK_spec hk
  obtain ⟨σ,r',h',w,h3⟩:=(packK_spec h2).out
  exact ⟨vs,σ,r',h',by rw [q.lk];exact h1,q.weak w,h3⟩
 cases e<;>first|exact go hk|exact hk.elim
theorem endK_mono {top:Bool} {rs:List ARes} {N:Nat} {K K':AV→Hp→Prop} (hK:∀ v h,K v h→K' v h) {e:Exit} {sf:SF} {hx:Hp} (hk:endK n top P rs N K e sf hx):endK n top P rs N K' e sf hx:=by
 have go:(resK n sf hx.l rs fun l=>packK l fun x=>EndX top P N hx x K)→resK n sf hx.l rs fun l=>packK l fun x=>EndX top P N hx x K':=fun hk=>by
  have up:∀ {x:AV},EndX top P N hx x K→EndX top P N hx x K':=fun {x} ⟨⟨σ,r',h',w,k,m,kk⟩⟩=>⟨σ,r',h',w,k,m,hK _ _ kk⟩
  have up2:∀ {l:List AV},(packK l fun x=>EndX top P N hx x K)→packK l fun x=>EndX top P N hx x K':=fun {l} h=>by
   match l,h with
   | [],h=>exact up h
   | [_],h=>exact up h
   | _::_::_,h=>exact up h
  have up3:∀ {rs:List ARes} {k k':List AV→Prop},(∀ l,k l→k' l)→resK n sf hx.l rs k→resK n sf hx.l rs k':=by
   have cells:∀ {l:List (Nat × AObj)} {i:Nat} {k k':List AV→Prop},(∀ l,k l→k' l)→cellsK l i k→cellsK l i k':=fun {l i k k'} hk h=>by
    obtain ⟨cs,h1,h2⟩:=cellsK_spec h;exact cellsK_of h1 (hk _ h2)
   have part:∀ {ag:Bool} {o m:Nat} {cs:List AV} {k k':AV→Prop},(∀ l,k l→k' l)→partK ag o m cs k→partK ag o m cs k':=fun {ag o m cs k k'} hk h=>by
    cases ag with
    | false=>obtain ⟨v,h1,h2⟩:=nthK_spec (k:=k) h;exact nthK_of h1 (hk _ h2)
    | true =>
     obtain ⟨h1,h2⟩:=dropK_spec h
     obtain ⟨h3,h4⟩:=takeK_spec h2
     exact dropK_of h1 rfl (takeK_of h3 rfl (hk _ h4))
   have look:∀ {t:Nat} {k k':AV→Prop},(∀ v,k v→k' v)→lookK sf t k→lookK sf t k':=fun {t k k'} hk h=>by
    have e:∀ {sf:SF} {k:AV→Prop},k (sget sf t)→lookK sf t k:=by
     intro sf
     induction sf with
     | nil=>exact fun h=>h
     | cons p r ih =>
      intro k h
      obtain ⟨i,v⟩:=p
      simp only [sget] at h
      simp only [lookK]
      cases e:Nat.beq i t with
      | true=>rw [e] at h;exact h
      | false=>rw [e] at h;exact ih h
    exact e (hk _ (lookK_spec h))
   intro rs
   induction rs with
   | nil=>exact fun hk h=>hk _ h
   | cons r rs ih =>
    intro k k' hk h
    simp only [resK] at h ⊢
    cases r with
    | tmp t =>
     simp only [res1K] at h ⊢
     cases e:Nat.blt t n with
     | false=>rw [e] at h;exact h.elim
     | true=>rw [e] at h;exact look (fun v hv=>ih (fun l hl=>hk _ hl) hv) h
    | cell a ag m =>
     simp only [res1K] at h ⊢
     cases e:Nat.blt a n with
     | false=>rw [e] at h;exact h.elim
     | true =>
      rw [e] at h
      refine look (fun p hp=>?_) h
      cases p<;>try exact hp.elim
      ·exact cells (fun cs hc=>part (fun v hv=>ih (fun l hl=>hk _ hl) hv) hc) hp
      ·exact part (fun v hv=>ih (fun l hl=>hk _ hl) hv) hp
  exact up3 (fun l=>up2) hk
 cases e<;>first|exact go hk|exact hk.elim
theorem pure_x {f:Nat} {ac:ACode} {rs:List ARes} {args:List AV} {r:AV} (hmix:P.follows .mixedOrders=true) (hb:Body P f ac rs n) (hG:PlainG G) (ha:PlainL args) (hr:Plain r) (hn:Nat.ble args.length n=true)
  (hw:enumK 0 args fun sf=>CodeX P G none 0 n ac (endK n true P rs 0 fun r' h'=>r'=r∧h'.l=[]) sf ⟨[],0⟩):PureC P G f args r:=by
 refine pure_of hmix hb hG ha hr ?_
 rw [sd_enum (Nat.le_of_ble_eq_true hn)]
 exact (enumK_spec hw).out _ (fun e sf hx hk h q=>endK_spec hk q) _ .refl
theorem loc_x {f:Nat} {ac:ACode} {rs:List ARes} {args:List AV} {l0:List (Nat × AObj)} {k:Nat} {K:AV→Hp→Prop} (hmix:P.follows .mixedOrders=true) (hb:Body P f ac rs n) (hn:Nat.ble args.length n=true)
  (hw:enumK 0 args fun sf=>CodeX P G none k n ac (endK n true P rs k K) sf ⟨l0,k⟩):LocC P G f args l0 k K:=by
 refine loc_of hmix hb ?_
 rw [sd_enum (Nat.le_of_ble_eq_true hn)]
 exact (enumK_spec hw).out _ (fun e sf hx hk h q=>endK_spec hk q) _ .refl
theorem end_go {N:Nat} {h:Hp} {x:AV} {K:AV→Hp→Prop} (hN:Nat.ble N h.next=true) (hk:K x h):EndX false P N h x K:=⟨id,x,h,weak_refl,fun _ _=>rfl,Nat.le_of_ble_eq_true hN,hk⟩
theorem end_wk {h:Hp} {x r:AV} (hw:WkV P id h ⟨[],0⟩ x r):EndX true P 0 h x (fun r' h'=>r'=r∧h'.l=[]) :=
 ⟨id,r,⟨[],0⟩,weak_of (fun i j o o' hi=>by cases hi) ⟨hw,trivial⟩ trivial,fun _ _=>rfl,Nat.le_refl _,rfl,rfl⟩
theorem end_plain {h:Hp} {x r:AV} (e:x=r) (hp:Plain r):EndX true P 0 h x (fun r' h'=>r'=r∧h'.l=[]):=by subst e;exact end_wk (wk_plain subH_nil hp)
theorem end_int {h:Hp} {k:IntKind} {m m':Int} (e:m=m'):EndX true P 0 h (.int k m) (fun r' h'=>r' = .int k m'∧h'.l=[]):=end_plain (by rw [e]) plain_int
theorem end_bool {h:Hp} {m m':Bool} (e:m=m'):EndX true P 0 h (.bool m) (fun r' h'=>r' = .bool m'∧h'.l=[]):=end_plain (by rw [e]) plain_bool
theorem end_loc {top:Bool} {N m:Nat} {h:Hp} {x r:AV} {lr:List (Nat × AObj)} {K:AV→Hp→Prop} (ren:List (Nat × Nat)) (hk:keepsB N ren=true) (hm:N≤m) (hi:OneOf (rn ren) lr) (hr:WkV P (rn ren) h ⟨lr,m⟩ x r) (ho:WkO P (rn ren) h ⟨lr,m⟩ lr) (hK:K r ⟨lr,m⟩):EndX top P N h x K :=
 ⟨rn ren,r,⟨lr,m⟩,weak_of hi ⟨hr,trivial⟩ ho,keeps_rn hk,hm,hK⟩
theorem cx_pure {g:Nat} {fs avs cs:List AV} {r:AV} {h:Hp} {K:AV→Hp→Prop} (hp:PureC P G g (fs++avs++cs) r) (hk:K r h):CallX P G (.fn g fs cs) avs h K:=⟨callV_fnU (hp _ _) ⟨h,.refl,hk⟩⟩
theorem cx_in {g n':Nat} {fs avs cs:List AV} {h:Hp} {K:AV→Hp→Prop} {ac:ACode} {rs:List ARes} (hmix:P.follows .mixedOrders=true) (hb:Body P g ac rs n') (hn:Nat.ble (fs++avs++cs).length n'=true)
  (hw:enumK 0 (fs++avs++cs) fun sf=>CodeX P G none h.next n' ac (endK n' false P rs h.next K) sf h):CallX P G (.fn g fs cs) avs h K:=by
 refine ⟨callV_body hmix hb ?_⟩
 rw [sd_enum (Nat.le_of_ble_eq_true hn)]
 refine (enumK_spec hw).out _ (fun e sf hx hk h q=>endK_spec (endK_mono (fun v h' hk=>⟨h',.refl,hk⟩) hk) q) _ .refl
theorem dcx_pure {g:Nat} {avs:List AV} {r:AV} {h:Hp} {K:AV→Up→List Nat→Prop} (hp:PureC P G g avs r) (hk:K r [] []):DCallX P G g avs h K:=⟨r,[],[],hp _ _,hk⟩
section
variable {A B p:Prop} {a b:Bool} {α:Type} {e m:α} {K:α→Prop}
theorem br_b (hA:b=true→A) (hB:b=false→B):BrX b A B:=⟨hA,hB⟩
theorem br_t (h:b=true) (hA:A):BrX b A B:=⟨fun _=>hA,fun e=>(by rw [h] at e;cases e)⟩
theorem br_f (h:b=false) (hB:B):BrX b A B:=⟨fun e=>(by rw [h] at e;cases e),fun _=>hB⟩
theorem br_tt (hA:A):BrX true A B:=br_t rfl hA
theorem br_ff (hB:B):BrX false A B:=br_f rfl hB
theorem br_d [Decidable p] (hA:p→A) (hB:¬ p→B):BrX (decide p) A B:=br_b (fun h=>hA (of_decide_eq_true h)) fun h=>hB (of_decide_eq_false h)
theorem br_n (h:BrX b B A):BrX (!b) A B:=by
 cases b
 ·exact br_tt (h.out.2 rfl)
 ·exact br_ff (h.out.1 rfl)
theorem br_and (h:BrX a (BrX b A B) B):BrX (a && b) A B:=by
 cases a
 ·exact br_ff (h.out.2 rfl)
 ·exact h.out.1 rfl
theorem br_or (h:BrX a A (BrX b A B)):BrX (a || b) A B:=by
 cases a
 ·exact h.out.2 rfl
 ·exact br_tt (h.out.1 rfl)
theorem ck_x (h:p) (hA:A):CkX p A:=⟨h,hA⟩
theorem eq_of (h:e=m) (hk:K m):EqX e K:=⟨m,h,hk⟩
theorem eq_rfl (hk:K e):EqX e K:=⟨e,rfl,hk⟩
theorem eq_i64 {e:Int} {K:Int→Prop} (h:-9223372036854775808≤e∧e≤9223372036854775807) (hk:K e):EqX (IntKind.i64.wrap e) K:=⟨e,IntWalk.i64_in e h,hk⟩
theorem eq_u8 {e:Int} {K:Int→Prop} (h:0≤e∧e≤255) (hk:K e):EqX (IntKind.u8.wrap e) K:=⟨e,IntWalk.u8_in e h,hk⟩
theorem eq_u16 {e:Int} {K:Int→Prop} (h:0≤e∧e≤65535) (hk:K e):EqX (IntKind.u16.wrap e) K:=⟨e,IntWalk.u16_in e h,hk⟩
theorem eq_tn {b:Nat} {K:Nat→Prop} (hk:K b):EqX (Int.toNat (b:Int)) K:=⟨b,by simp,hk⟩
theorem eq_tn1 {o b s:Nat} {K:Nat→Prop} (h:EqX (o+b * s) K):EqX (o+Int.toNat (b:Int) * s) K:=by simpa using h
theorem eq_tn2 {b s:Nat} {K:Nat→Prop} (h:EqX (b * s) K):EqX (Int.toNat (b:Int) * s) K:=by simpa using h
theorem eq_z {b:Nat} {K:Nat→Prop} (h:K b):EqX (0+b) K:=⟨b,by simp,h⟩
theorem eq_m1 {o b:Nat} {K:Nat→Prop} (h:EqX (o+b) K):EqX (o+b * 1) K:=by simpa using h
theorem eq_m2 {b:Nat} {K:Nat→Prop} (h:K b):EqX (b * 1) K:=⟨b,by simp,h⟩
theorem eq_zm {b s:Nat} {K:Nat→Prop} (h:K (b * s)):EqX (0+b * s) K:=⟨b * s,by simp,h⟩
theorem el_of {els:List (List AV)} {j sz:Nat} {K:List AV→Prop} {el:List AV} (h:els[j]? = some el) (hl:el.length=sz) (hk:K el):ElX els j sz K:=⟨el,h,hl,hk⟩
theorem el_tn {els:List (List AV)} {j sz:Nat} {K:List AV→Prop} (h:ElX els j sz K):ElX els (Int.toNat (j:Int)) sz K:=by simpa using h
theorem el_map {α:Type} {f:α→List AV} {l:List α} {j sz:Nat} {K:List AV→Prop} (d:α) (hf:∀ x,(f x).length=sz) (hj:j < l.length) (hk:K (f (Go.Pol.nth d l j))):ElX (l.map f) j sz K :=
 ⟨_,by rw [List.getElem?_map,List.getElem?_eq_getElem hj,Go.Pol.nth_get hj];rfl,hf _,hk⟩
theorem el_mapE {α:Type} {f:α→List AV} {l:List α} {j sz:Nat} {K:List AV→Prop} {d x:α} (hf:∀ x,(f x).length=sz) (hj:j < l.length) (hx:Go.Pol.nth d l j=x) (hk:K (f x)):ElX (l.map f) j sz K:=by subst hx;exact el_map d hf hj hk
theorem len_sl {id off len cp sz:Nat} {k:AV→Prop} (h:k (.int .i64 len)):LenX (.sl id off len cp sz) k:=⟨_,rfl,h⟩
theorem len_nils {k:AV→Prop} (h:k (.int .i64 0)):LenX .nils k:=⟨_,rfl,h⟩
theorem len_map {α:Type} {f:α→List AV} {l:List α} {k:AV→Prop} (h:k (.int .i64 l.length)):LenX (.isl (l.map f)) k:=⟨_,by simp only [lenV,List.length_map],h⟩
theorem len_isl {els:List (List AV)} {k:AV→Prop} (h:k (.int .i64 els.length)):LenX (.isl els) k:=⟨_,rfl,h⟩
theorem len_own' {i sz m:Nat} {k:AV→Prop} (h:k (.int .i64 m)):LenX (ownV i sz m) k:=⟨_,len_own,h⟩
theorem flat_ownX {i sz m:Nat} {K:List AV→Prop} (h:K [ownV i sz m]):flatK (ownV i sz m) K:=by
 by_cases hz:m=0
 ·subst hz;exact h
 ·rw [own_s hz] at h ⊢;exact h
end
section
variable {l:List (Nat × AObj)} {nx sz bytes d len m:Nat} {x:AV} {src cs:List AV} {rd:List Nat} {k:AV→Up→List Nat→Prop} {ks:AV→Up→Prop}
theorem apps_some {v:AV} {up:Up} {rd:List Nat} {s:AV} (h:appV (lk l) nx sz bytes s x=some (v,up,rd)) (hk:ks v up):AppSX l nx sz bytes s x ks:=⟨v,up,up,rd,h,rfl,rfl,hk⟩
theorem appV_nil (hs:srcV (lk l) sz x=some (src,m,rd)) (h0:0 < m) (hb:m * bytes≤140737488355328∧m≤1000000000000):appV (lk l) nx sz bytes .nils x=some (.sl nx 0 m m sz,[(nx,some (.cells src))],rd):=by
 simp only [appV,hs];rw [if_neg (by omega),if_pos hb]
theorem appV_sl (hs:srcV (lk l) sz x=some (src,m,rd)) (hd:lk l d=some (.cells cs)) (hc:cs.length=len * sz) (h0:0 < m) (hb:(len+m) * bytes≤140737488355328∧len+m≤1000000000000):appV (lk l) nx sz bytes (.sl d 0 len len sz) x=some (.sl nx 0 (len+m) (len+m) sz,[(d,none),(nx,some (.cells (cs++src)))],d::rd):=by
 simp only [appV,hs,cellsAt,hd]
 rw [if_pos ⟨trivial,by omega⟩,if_neg (by omega),if_pos hb,List.drop_zero,List.take_of_length_le (by omega)]
theorem src_of (hd:lk l d=some (.cells cs)) (hc:cs.length=m * sz):srcV (lk l) sz (.sl d 0 m m sz)=some (cs,m,[d]):=by
 simp only [srcV,cellsAt,hd]
 rw [if_pos ⟨trivial,by omega⟩,List.drop_zero,List.take_of_length_le (by omega)]
theorem appV_own {α:Type} {f:α→List AV} {L l2:List α} (hf:∀ x,(f x).length=sz) (hs:srcV (lk l) sz x=some (src,m,rd)) (hl:L.length ≠ 0→lk l d=some (.cells (flat f L))) (hsrc:src=flat f l2) (h0:0 < m) (hb:(L.length+m) * bytes≤140737488355328∧L.length+m≤1000000000000) :
  appV (lk l) nx sz bytes (ownV d sz L.length) x=if L.length=0 then some (.sl nx 0 (L.length+m) (L.length+m) sz,[(nx,some (.cells (flat f (L++l2))))],rd) else some (.sl nx 0 (L.length+m) (L.length+m) sz,[(d,none),(nx,some (.cells (flat f (L++l2))))],d::rd):=by
 subst hsrc
 by_cases hz:L.length=0
 ·rw [if_pos hz,hz,own_z,appV_nil hs h0 (by simpa [hz] using hb)]
  cases List.eq_nil_of_length_eq_zero hz
  simp
 ·rw [if_neg hz,own_s hz,appV_sl hs (hl hz) (flat_len hf L) h0 hb,flat_app]
theorem apps_own {α:Type} {f:α→List AV} {L l2:List α} (hf:∀ x,(f x).length=sz) (hs:srcV (lk l) sz x=some (src,m,rd)) (hl:L.length ≠ 0→lk l d=some (.cells (flat f L))) (hl0:L.length=0→lk l d=none) (hsrc:src=flat f l2) (h0:0 < m) (hb:(L.length+m) * bytes≤140737488355328∧L.length+m≤1000000000000) (hd:Nat.beq d nx=false)
  (hk:ks (.sl nx 0 (L.length+m) (L.length+m) sz) [(d,none),(nx,some (.cells (flat f (L++l2))))]):AppSX l nx sz bytes (ownV d sz L.length) x ks:=by
 have hne:=beq_ne hd
 refine ⟨_,if L.length=0 then [(nx,some (.cells (flat f (L++l2))))] else [(d,none),(nx,some (.cells (flat f (L++l2))))],_,if L.length=0 then rd else d::rd,?_,?_,?_,hk⟩
 ·rw [appV_own hf hs hl hsrc h0 hb];split<;>rfl
 ·by_cases hz:L.length=0
  ·rw [if_pos hz]
   funext j
   simp only [upd]
   by_cases h1:j=d
   ·subst h1;rw [if_neg hne,if_pos rfl];exact hl0 hz
   ·rw [if_neg h1]
  ·rw [if_neg hz]
 ·by_cases hz:L.length=0
  ·rw [if_pos hz]
   have : (d == nx)=false:=by simpa using hne
   simp [hasKey,this]
  ·rw [if_neg hz]
theorem del_own {α:Type} {f:α→List AV} {L:List α} {k:List (Nat × AObj)→Prop} (h:k []):delK (ownH d f L) d k:=by
 by_cases hz:L.length=0
 ·rw [ownH_z hz];exact h
 ·rw [ownH_s hz];simp only [delK];rw [show Nat.beq d d=true by simp];exact h
theorem del_own' {α:Type} {f:α→List AV} {L:List α} {i:Nat} {k:List (Nat × AObj)→Prop} (hi:Nat.beq i d=false) (h:k (ownH d f L)):delK (ownH d f L) i k:=by
 by_cases hz:L.length=0
 ·rw [ownH_z hz] at h ⊢;exact h
 ·rw [ownH_s hz] at h ⊢;simp only [delK,hi];exact h
theorem lk_ownN {α:Type} {f:α→List AV} {L:List α} (hz:L.length=0) {i:Nat}:lk (ownH d f L) i=none:=by rw [ownH_z hz];rfl
end
structure WkX (P:Program) (σ:Nat→Nat) (h h':Hp) (x y:AV):Prop where
 out:WkV P σ h h' x y
def WkF (P:Program) (σ:Nat→Nat) (h h':Hp) (sf:SF):SF→Prop
 | []=>True
 | (t,y)::r=>lookK sf t (fun x=>WkX P σ h h' x y)∧WkF P σ h h' sf r
theorem wkf_sget {σ:Nat→Nat} {h h':Hp} {sf:SF}:∀ {sf':SF},WkF P σ h h' sf sf'→∀ t,WkV P σ h h' (sget sf t) (sget sf' t)
 | [],_,t=>fun c v _ _ _=>RR_undef
 | (i,y)::r,hw,t=>by
  rw [sget_cons]
  by_cases e:i=t
  ·subst e;rw [if_pos rfl];exact (lookK_spec hw.1).out
  ·rw [if_neg e];exact wkf_sget hw.2 t
theorem wkl_sd {σ:Nat→Nat} {h h':Hp} {sf sf':SF} (hw:∀ t,WkV P σ h h' (sget sf t) (sget sf' t)):WkL P σ h h' (sd n sf) (sd n sf'):=by
 have : ∀ l:List Nat,WkL P σ h h' (l.map (sget sf)) (l.map (sget sf')):=by
  intro l
  induction l with
  | nil=>trivial
  | cons t l ih=>exact ⟨hw t,ih⟩
 exact this _
structure WeakX (P:Program) (l:List (Nat × Nat)) (n:Nat) (sf:SF) (h:Hp) (sf':SF) (h':Hp):Prop where
 out:Weak P (rn l) (sd n sf) h (sd n sf') h'
theorem weak_x {ren:List (Nat × Nat)} {sf sf':SF} {h h':Hp} (hi:OneOf (rn ren) h'.l) (hf:WkF P (rn ren) h h' sf sf') (ho:WkO P (rn ren) h h' h'.l):WeakX P ren n sf h sf' h':=⟨weak_of hi (wkl_sd (wkf_sget hf)) ho⟩
def keepK:List Nat→SF→(SF→Prop)→Prop
 | [],_,k=>k []
 | t::ts,sf,k=>lookK sf t fun v=>keepK ts sf fun b=>k ((t,v)::b)
def keepF (live:List Nat) (sf:SF):SF:=live.map fun t=>(t,sget sf t)
theorem keepK_spec {sf:SF}:∀ {live:List Nat} {k:SF→Prop},keepK live sf k→k (keepF live sf)
 | [],_,h=>h
 | t::ts,k,h=>keepK_spec (live:=ts) (k:=fun b=>k ((t,sget sf t)::b)) (lookK_spec h)
structure NextX {ι:Type} (P:Program) (N n:Nat) (F:ι→SF) (H:ι→Hp) (ok:ι→Prop) (m:ι→Nat) (i:ι) (sf:SF) (h:Hp):Prop where
 out:∃ (j:ι) (l:List (Nat × Nat)),ok j∧m j < m i∧keepsB N l=true∧WeakX P l n sf h (F j) (H j)
def nextK {ι:Type} (P:Program) (N n:Nat) (F:ι→SF) (H:ι→Hp) (ok:ι→Prop) (m:ι→Nat) (i:ι) (K:Exit→SF→Hp→Prop) (e:Exit) (sf:SF) (h:Hp):Prop:=match e with
 | .normal=>NextX P N n F H ok m i sf h
 | e=>K e sf h
theorem next_x {ι:Type} {N:Nat} {F:ι→SF} {H:ι→Hp} {ok:ι→Prop} {m:ι→Nat} {i:ι} {sf:SF} {h:Hp} (j:ι) (l:List (Nat × Nat)) (h1:ok j) (h2:m j < m i) (h3:keepsB N l=true) (hw:WeakX P l n sf h (F j) (H j)):NextX P N n F H ok m i sf h:=⟨j,l,h1,h2,h3,hw⟩
theorem loop_x {ι:Type} {rd:Option Nat} {N:Nat} {c:ACode} {K:Exit→SF→Hp→Prop} {sf:SF} {h:Hp} (live:List Nat) (ups:ι→SF) (H:ι→Hp) (ok:ι→Prop) (m:ι→Nat) (i0:ι) (l:List (Nat × Nat)) (hk:keepsB N l=true) (hN:∀ i,N≤(H i).next) (h0:ok i0)
  (hw:keepK live sf fun b=>WeakX P l n sf h (ups i0++b) (H i0)) (hr:keepK live sf fun b=>∀ i,ok i→CodeX P G rd N n c (nextK P N n (fun i=>ups i++b) H ok m i K) (ups i++b) (H i)):CodeX P G rd N n (.loop c) K sf h:=by
 have hw:=keepK_spec hw
 have hr:=keepK_spec hr
 refine ⟨fun Q hQ h1 q=>loop_ix (fun i=>sd n (ups i++keepF live sf)) H ok m i0 l hk hN h0 (q.weak hw.out) fun i hi=>?_⟩
 refine (hr i hi).out _ (fun e sf' hx hk' h' q'=>?_) _ .refl
 cases e<;>try exact hQ _ _ _ hk' _ q'
 obtain ⟨j,l',k1,k2,k3,k4⟩:=hk'.out
 exact ⟨j,l',k1,k2,keeps_rn k3,q'.weak k4.out⟩
theorem wko_own {α:Type} {f:α→List AV} {L:List α} {σ:Nat→Nat} {h h':Hp} {i:Nat} (hi:i < h'.next) (hp:∀ c,∀ x ∈ f c,Plain x) (hs:SubH σ h h') (hl:L.length ≠ 0→lk h.l (σ i)=some (.cells (flat f L))):WkO P σ h h' (ownH i f L):=by
 by_cases hz:L.length=0
 ·rw [ownH_z hz];exact wko_nil
 ·rw [ownH_s hz];exact wko_plain hs hi (hl hz) rfl (plain_flat hp) wko_nil
theorem wk_nil0 {σ:Nat→Nat} {h h':Hp} {i sz m:Nat} (e:m=0):WkV P σ h h' .nils (ownV i sz m):=by
 subst e;exact fun _ _ _ _ hr=>RR_nils.2 (RR_nils.1 hr)
theorem wko_app {σ:Nat→Nat} {h h':Hp}:∀ {l r:List (Nat × AObj)},WkO P σ h h' l→WkO P σ h h' r→WkO P σ h h' (l++r)
 | [],_,_,hr=>hr
 | (_,.cells _)::l,r,⟨h1,h2,h3⟩,hr=>⟨h1,h2,wko_app h3 hr⟩
 | (_,.loop ..)::l,r,⟨h1,h2,h3⟩,hr=>⟨h1,h2,wko_app h3 hr⟩
 | (_,.maps _)::l,r,⟨h1,h2,h3⟩,hr=>⟨h1,h2,wko_app h3 hr⟩
theorem lk_own_key {α:Type} {f:α→List AV} {L:List α} {i j:Nat} {o:AObj} (h:lk (ownH i f L) j=some o):j=i∧L.length ≠ 0:=by
 by_cases hz:L.length=0
 ·rw [ownH_z hz] at h;cases h
 ·rw [ownH_s hz] at h
  simp only [lk] at h
  split at h
  ·rename_i e;exact ⟨e,hz⟩
  ·cases h
theorem lk_own_up {α:Type} {f:α→List AV} {L:List α} {i j:Nat} {o:AObj}:∀ {l0:List (Nat × AObj)},lk (l0++ownH i f L) j=some o→∃ o',lk (l0++[(i,AObj.cells [])]) j=some o'
 | [],hj=>by
  obtain ⟨rfl,_⟩:=lk_own_key hj
  exact ⟨.cells [],by simp [lk]⟩
 | (q,x)::l0,hj=>by
  simp only [List.cons_append,lk] at hj ⊢
  split
  ·exact ⟨_,rfl⟩
  ·rename_i e;rw [if_neg e] at hj;exact lk_own_up hj
theorem weak_o {α:Type} {f:α→List AV} {L:List α} {ren:List (Nat × Nat)} {sf sf':SF} {h:Hp} {l0:List (Nat × AObj)} {i nx:Nat} (h1:nodB ((l0.map fun p=>rn ren p.1)++[rn ren i])=true) (h2:subB (rn ren) h.l l0=true) (h3:L.length ≠ 0→lk h.l (rn ren i)=some (.cells (flat f L))) (h4:Nat.blt i nx=true) (hp:∀ c,∀ x ∈ f c,Plain x)
  (hf:SubH (rn ren) h ⟨l0++ownH i f L,nx⟩→WkF P (rn ren) h ⟨l0++ownH i f L,nx⟩ sf sf') (ho:SubH (rn ren) h ⟨l0++ownH i f L,nx⟩→WkO P (rn ren) h ⟨l0++ownH i f L,nx⟩ l0):WeakX P ren n sf h sf' ⟨l0++ownH i f L,nx⟩:=by
 have hs:SubH (rn ren) h ⟨l0++ownH i f L,nx⟩:=fun j o hj=>by
  rcases lk_app hj with hj|hj
  ·exact subH_of (h:=h) (h':=⟨l0,nx⟩) h2 j o hj
  ·obtain ⟨rfl,hz⟩:=lk_own_key hj;exact ⟨_,h3 hz⟩
 have h5:OneOf (rn ren) (l0++[(i,.cells [])]):=oneOf_of (by simpa using h1)
 have h6:OneOf (rn ren) (l0++ownH i f L):=fun a b o o' ha hb e=>by
  obtain ⟨_,ha⟩:=lk_own_up ha
  obtain ⟨_,hb⟩:=lk_own_up hb
  exact h5 a b _ _ ha hb e
 exact ⟨weak_of h6 (wkl_sd (wkf_sget (hf hs))) (wko_app (ho hs) (wko_own (blt_lt h4) hp hs h3))⟩
theorem weak_s {ren:List (Nat × Nat)} {sf sf':SF} {h h':Hp} (hi:OneOf (rn ren) h'.l) (hs:SubH (rn ren) h h') (hf:SubH (rn ren) h h'→WkF P (rn ren) h h' sf sf') (ho:SubH (rn ren) h h'→WkO P (rn ren) h h' h'.l):WeakX P ren n sf h sf' h':=weak_x hi (hf hs) (ho hs)
theorem wk_slown {σ:Nat→Nat} {h h':Hp} {i j sz a b:Nat} (e:σ i=j) (hi:i < h'.next) (h0:a ≠ 0) (hab:a=b):WkV P σ h h' (.sl j 0 a a sz) (ownV i sz b):=by
 subst hab;rw [own_s h0];exact wk_sl e hi rfl (Nat.le_refl _) (Nat.le_refl _)
end
end Go.Am
