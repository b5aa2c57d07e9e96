/-
 A quicker walk,fourth part: calls by contracts over a store of their own;ranges over functions,and their rounds. No program in sight.
-/
import Derived.Test.YtphggldkligldaaAmWz
set_option linter.unusedSimpArgs false
set_option linter.unusedVariables false
namespace Go.Am
section
variable {P:Program} {G:Gl} {n:Nat}
def filtK (ns:List Nat):List (Nat × AObj)→(List (Nat × AObj)→Prop)→Prop
 | [],k=>k []
 | (j,o)::r,k=>bif ns.contains j then filtK ns r k else filtK ns r fun r'=>k ((j,o)::r')
theorem filtK_spec {ns:List Nat}:∀ {l:List (Nat × AObj)} {k:List (Nat × AObj)→Prop},filtK ns l k→k (l.filter fun q=>!ns.contains q.1)
 | [],k,h=>h
 | (j,o)::r,k,h=>by
  simp only [filtK] at h
  simp only [List.filter_cons]
  cases e:ns.contains j with
  | true=>rw [e] at h;simpa using filtK_spec (l:=r) h
  | false=>rw [e] at h;simpa using filtK_spec (l:=r) (k:=fun r'=>k ((j,o)::r')) h
theorem filt_own {α:Type} {f:α→List AV} {L:List α} {i:Nat} {ns:List Nat} {k:List (Nat × AObj)→Prop} (hi:ns.contains i=false) (h:k (ownH i f L)):filtK ns (ownH i f L) k:=by
 by_cases hz:L.length=0
 ·rw [ownH_z hz] at h ⊢;exact h
 ·rw [ownH_s hz] at h ⊢;simp only [filtK,hi];exact h
theorem lk_app2 {l r:List (Nat × AObj)} (h:∀ i o o',lk l i=some o→lk r i=some o'→False):lk (l++r)=lk (r++l):=by
 have e:∀ (l r:List (Nat × AObj)) i,lk (l++r) i=(lk l i).or (lk r i):=by
  intro l r i
  induction l with
  | nil=>rfl
  | cons p l ih =>
   obtain ⟨j,o⟩:=p
   simp only [List.cons_append,lk]
   split
   ·rfl
   ·exact ih
 funext i
 rw [e,e]
 cases h1:lk l i with
 | none=>simp
 | some o =>
  cases h2:lk r i with
  | none=>simp
  | some o'=>exact (h i o o' h1 h2).elim
theorem cx_loc {f m:Nat} {fs cs args args0:List AV} {l0 lr l1 l:List (Nat × AObj)} {nx:Nat} {r r':AV} {K:AV→Hp→Prop} (ns:List Nat) (hc:LocC P G f args0 l0 ns.length fun x h1=>x=r∧h1=⟨lr,m⟩) (hGp:PlainG G) (hd:nodB ns=true) (hl0:Given (enter ns) ⟨l,nx⟩ l0)
  (ha:RnL (enter ns) (fs++args++cs) args0) (hlt:∀ n ∈ ns,n < nx) (hr:RnV (back ns nx) r r') (hS:RnS (back ns nx) lr l1) (hk:filtK ns l fun l2=>K r' ⟨l1++l2,nx+(m - ns.length)⟩):CallX P G (.fn f fs cs) args ⟨l,nx⟩ K:=by
 have hk:=filtK_spec hk
 refine ⟨fun c u vs hR hG hm hu hargs=>?_⟩
 refine callV_loc (h:=⟨l,nx⟩) (K:=fun v h'=>∃ hx,Hq h' hx∧K v hx) ns hc hGp hd hl0 ha hlt ?_ c u vs hR hG hm hu hargs
 rintro x h1 ⟨rfl,rfl⟩
 refine ⟨r',l1,hr,hS,⟨l1++l.filter (fun q=>!ns.contains q.1),nx+(m - ns.length)⟩,⟨?_,rfl⟩,hk⟩
 show lk (l.filter (fun q=>!ns.contains q.1)++l1)=lk (l1++l.filter fun q=>!ns.contains q.1)
 refine lk_app2 fun i o o' h1 h2=>?_
 obtain ⟨q1,q2⟩:=lk_filter h1
 have hlt:i < nx:=(hm.U i).1 (hR.used i o (by rw [hm.at_];exact q2))
 obtain ⟨i',cs,q3,_⟩:=hS.spec back_fun h2
 unfold back at q3
 split at q3
 ·rename_i e;subst q3;exact q1 (List.mem_of_getElem? e)
 ·omega
theorem appx_own {α:Type} {f:α→List AV} {L l2:List α} {l:List (Nat × AObj)} {nx sz bytes d m:Nat} {x:AV} {src:List AV} {rd:List Nat} {k:AV→Up→List Nat→Prop} (hf:∀ x,(f x).length=sz) (hs:srcV (lk l) sz x=some (src,m,rd)) (hl:L.length ≠ 0→lk l d=some (.cells (flat f L))) (hsrc:src=flat f l2) (h0:0 < m) (hb:(L.length+m) * bytes≤140737488355328∧L.length+m≤1000000000000)
  (hk1:L.length=0→k (.sl nx 0 (L.length+m) (L.length+m) sz) [(nx,some (.cells (flat f (L++l2))))] rd) (hk2:L.length ≠ 0→k (.sl nx 0 (L.length+m) (L.length+m) sz) [(d,none),(nx,some (.cells (flat f (L++l2))))] (d::rd)):AppX l nx sz bytes (ownV d sz L.length) x k:=by
 have h:=appV_own (nx:=nx) hf hs hl hsrc h0 hb
 by_cases hz:L.length=0
 ·rw [if_pos hz] at h;exact ⟨_,_,_,h,hk1 hz⟩
 ·rw [if_neg hz] at h;exact ⟨_,_,_,h,hk2 hz⟩
structure RgX (l n:Nat) (sf:SF) (K:Exit→SF→Hp→Prop) (h2:Hp):Prop where
 out:∀ Q:Exit→List AV→Hp→Prop,(∀ e sf hx,K e sf hx→∀ h,Hq h hx→Q e (sd n sf) h)→∀ h,Hq h h2→rangeQ l (sd n sf) Q h
theorem put_hq {h:Hp} {l l':List (Nat × AObj)} {nx i:Nat} {o:AObj} (q:Hq h ⟨l,nx⟩) (e:lk l'=upd (lk l) [(i,some o)]):Hq ⟨put h.l i (some o),h.next⟩ ⟨l',nx⟩:=⟨by
 show lk (put h.l i (some o))=lk l'
 rw [lk_put,e,show lk h.l=lk l from q.lk],q.next⟩
section
variable {l nx i:Nat} {sf:SF} {K:Exit→SF→Hp→Prop} {lh:List (Nat × AObj)} {fr':List AV} {ps:List Nat} {as bd:ACode} {st:LoopState}
theorem rg_end (hl:lk lh l=some (.loop .ready none fr' ps as bd)) (hk:repK lh l (.loop .exhausted none fr' ps as bd) fun l'=>K .normal sf ⟨l',nx⟩):RgX l n sf K ⟨lh,nx⟩:=by
 obtain ⟨l',h1,h2⟩:=repK_spec hk
 exact ⟨fun Q hQ h q=>⟨.ready,none,fr',ps,as,bd,by rw [q.lk];exact hl,(fun e=>by cases e),hQ _ _ _ h2 _ (put_hq q h1)⟩⟩
theorem rg_ret (hl:lk lh l=some (.loop .done (some .ret) fr' ps as bd)) (hk:repK lh l (.loop .exhausted (some .ret) fr' ps as bd) fun l'=>K .ret sf ⟨l',nx⟩):RgX l n sf K ⟨lh,nx⟩:=by
 obtain ⟨l',h1,h2⟩:=repK_spec hk
 exact ⟨fun Q hQ h q=>⟨.done,_,fr',ps,as,bd,by rw [q.lk];exact hl,(fun e=>by cases e),hQ _ _ _ h2 _ (put_hq q h1)⟩⟩
end
theorem range_x {rd:Option Nat} {g n' nx:Nat} {fs cs:List AV} {ps:List Nat} {as bd ac:ACode} {rs:List ARes} {K:Exit→SF→Hp→Prop} {sf:SF} {l:List (Nat × AObj)} (hmix:P.follows .mixedOrders=true) (hb:Body P g ac rs n') (hn:Nat.ble (fs++[AV.yld nx]++cs).length n'=true) (hin:inLoop ⟨l,nx⟩ rd)
  (hw:∀ frl asl bdl,frl=sd n sf→asl=as→bdl=bd→enumK 0 (fs++[AV.yld nx]++cs) fun sf'=>CodeX P G none (nx+1) n' ac (endK n' false P rs (nx+1) fun _ h2=>RgX nx n sf K h2) sf' ⟨(nx,.loop .ready none frl ps asl bdl)::l,nx+1⟩):RangeX P G rd n (.fn g fs cs) ps as bd K sf ⟨l,nx⟩:=by
 refine ⟨g,fs,cs,rfl,hb.ok,hin,fun Q hQ=>callV_body hmix hb ?_⟩
 rw [sd_enum (Nat.le_of_ble_eq_true hn)]
 exact (enumK_spec (hw _ _ _ rfl rfl rfl)).out _ (fun e sf' hx hk h q=>endK_spec (endK_mono (fun v h' hk=>hk.out Q hQ h' .refl) hk) q) _ .refl
def psK:SF→List Nat→List AV→(SF→Prop)→Prop
 | sf,t::ts,x::xs,k=>psK ((t,x)::sf) ts xs k
 | sf,_,_,k=>k sf
theorem psK_spec:∀ {ts:List Nat} {xs:List AV} {sf:SF} {k:SF→Prop},psK sf ts xs k→∃ sf',setPs (sd n sf) ts xs=sd n sf'∧k sf'
 | [],[],sf,k,h=>⟨sf,rfl,h⟩
 | [],_::_,sf,k,h=>⟨sf,rfl,h⟩
 | _::_,[],sf,k,h=>⟨sf,rfl,h⟩
 | t::ts,x::xs,sf,k,h=>by
  obtain ⟨sf',h1,h2⟩:=psK_spec (ts:=ts) (xs:=xs) h
  exact ⟨sf',by rw [← h1,setPs,sd_set],h2⟩
structure RdX (l:Nat) (K:AV→Hp→Prop) (e:Exit) (h:Hp):Prop where
 out:∀ fr h',Hq h' h→roundQ l (fun v h'=>∃ hx,Hq h' hx∧K v hx) e fr h'
def rdK (l:Nat) (K:AV→Hp→Prop) (e:Exit) (_:SF) (h:Hp):Prop:=RdX l K e h
structure AsX (P:Program) (G:Gl) (l N n:Nat) (bd:ACode) (K:AV→Hp→Prop) (sf1:SF) (h1:Hp):Prop where
 out:∀ h,Hq h h1→assignQ P G l N bd (fun v h'=>∃ hx,Hq h' hx∧K v hx) .normal (sd n sf1) h
def asK (P:Program) (G:Gl) (l N n:Nat) (bd:ACode) (K:AV→Hp→Prop) (e:Exit) (sf1:SF) (h1:Hp):Prop:=match e with
 | .normal=>AsX P G l N n bd K sf1 h1
 | _=>False
theorem cx_yld {l nx:Nat} {lh:List (Nat × AObj)} {pend:Option Code} {frl:List AV} {sf:SF} {ps:List Nat} {as bd:ACode} {args:List AV} {K:AV→Hp→Prop} (hmix:P.follows .mixedOrders=true) (hl:lk lh l=some (.loop .ready pend frl ps as bd)) (hF:frl=sd n sf) (hlen:args.length=ps.length)
  (hw:psK sf ps args fun sf1=>CodeX P G (some l) nx n as (asK P G l nx n bd K) sf1 ⟨lh,nx⟩):CallX P G (.yld l) args ⟨lh,nx⟩ K:=by
 subst hF
 obtain ⟨sf1,h1,h2⟩:=psK_spec (n:=n) hw
 refine ⟨callV_yld hmix hl hlen ?_⟩
 rw [h1]
 refine h2.out _ (fun e sf' hx hk h q=>?_) _ .refl
 cases e<;>first|exact hk.out h q|exact hk.elim
theorem cx_yldE {l nx:Nat} {lh:List (Nat × AObj)} {pend:Option Code} {frl:List AV} {sf:SF} {ps:List Nat} {asl bdl as bd:ACode} {args:List AV} {K:AV→Hp→Prop} (hmix:P.follows .mixedOrders=true) (hl:lk lh l=some (.loop .ready pend frl ps asl bdl)) (hF:frl=sd n sf) (hA:asl=as) (hB:bdl=bd) (hlen:args.length=ps.length)
  (hw:psK sf ps args fun sf1=>CodeX P G (some l) nx n as (asK P G l nx n bd K) sf1 ⟨lh,nx⟩):CallX P G (.yld l) args ⟨lh,nx⟩ K:=by
 subst hA;subst hB
 exact cx_yld hmix hl hF hlen hw
section
variable {l nx N:Nat} {lh:List (Nat × AObj)} {pend:Option Code} {fr:List AV} {ps:List Nat} {as bd bd':ACode} {K:AV→Hp→Prop} {sf1:SF}
theorem as_go (hl:lk lh l=some (.loop .ready pend fr ps as bd')) (hw:repK lh l (.loop .busy pend fr ps as bd') fun l'=>CodeX P G (some l) N n bd (rdK l K) sf1 ⟨l',nx⟩):AsX P G l N n bd K sf1 ⟨lh,nx⟩:=by
 obtain ⟨l',h1,h2⟩:=repK_spec hw
 refine ⟨fun h q=>⟨rfl,pend,fr,ps,as,bd',by rw [q.lk];exact hl,?_⟩⟩
 exact h2.out _ (fun e sf' hx hk h' q'=>hk.out _ h' q') _ (put_hq q h1)
theorem rd_go (hl:lk lh l=some (.loop .busy pend fr ps as bd)) (hw:repK lh l (.loop .ready none fr ps as bd) fun l'=>K (.bool true) ⟨l',nx⟩):RdX l K .normal ⟨lh,nx⟩:=by
 obtain ⟨l',h1,h2⟩:=repK_spec hw
 exact ⟨fun _ h q=>⟨pend,fr,ps,as,bd,by rw [q.lk];exact hl,_,put_hq q h1,h2⟩⟩
theorem rd_ret (hl:lk lh l=some (.loop .busy pend fr ps as bd)) (hw:repK lh l (.loop .done (some .ret) fr ps as bd) fun l'=>K (.bool false) ⟨l',nx⟩):RdX l K .ret ⟨lh,nx⟩:=by
 obtain ⟨l',h1,h2⟩:=repK_spec hw
 exact ⟨fun _ h q=>⟨pend,fr,ps,as,bd,by rw [q.lk];exact hl,_,put_hq q h1,h2⟩⟩
end
end
end Go.Am
