/-
 A function that sorts a slice of numbers,told by its contract over memory: as a contract over a store of its own. In-place appends. No program in sight.
 The iterators over a map by its keys,and the sort: their code.
 The sort's contract.
 The sorted pages;the page that was touched first.
 The maps of a store behind each change.
 A page is put into a slot.
-/
import Derived.Sort.Grow
import Derived.Test.YtbhgfoikbkaohaaQan
import Derived.Sort.EveryDepth
import Derived.Shelf.Sort.AssemblyIn
set_option linter.unusedSimpArgs false
set_option linter.unusedVariables false
set_option maxHeartbeats 6400000
namespace Go.Am
open Go.Sort
section
variable {P:Program} {G:Gl}
theorem ext_more {c:Cx} {w':World} (hR:Rel P c) (hs:c.w.heap.size≤w'.heap.size) (ho:∀ b,b < c.w.heap.size→w'.heap[b]? = c.w.heap[b]?) (he:w'.os=c.w.os∧w'.tape=c.w.tape∧w'.output=c.w.output):Ext c (c.wd w')∧Rel P (c.wd w'):=by
 have k:Kept c w'.heap.size w':=⟨hs,fun b hb _=>ho b hb,fun h=>by omega,fun id o hi h=>by have:=(hR.obj id o hi).lt;omega,he⟩
 have e:=k.extR hR
 refine ⟨⟨e.used,e.mu,e.csz,fun b hb=>e.froz b (by have:=hb.lt;omega) hb,e.size,e.hid,fun b hb=>e.hidh b (by have:=hR.hidlt b hb;omega) hb,e.env⟩,k.rel hR⟩
theorem loc_sort {f n:Nat} {zs S:List Int} (hok:fnOk P f=true) (hn:zs.length=n) (hS:zs.mergeSort (fun x y=>decide (x≤y))=S) (hz:n < 4611686018427387904)
  (hc:∀ (blk off cap:Nat) (w:World),Holds (Value.int .i64) w blk off zs.toArray→blk < w.heap.size→Calls P f #[.slice (some ⟨blk,off,none⟩) zs.length cap] w fun e w'=>e = .returned (.tuple #[])∧∃ n os,w'=grow (putRow (Value.int .i64) (Sort.ahead w n) blk off (zs.mergeSort fun x y=>decide (x≤y)).toArray) os) :
  AV1 P G f [.sl 0 0 n n 1] [(0,.cells (zs.map (AV.int .i64)))] 1 fun x h=>x = .tup []∧h=⟨[(0,.cells (S.map (AV.int .i64)))],1⟩:=by
 refine ⟨hok,fun c vs hR hG hm ha=>?_⟩
 obtain ⟨v,hv⟩:∃ v,vs = #[v]:=by
  have:=ha.1
  match vs,this with
  | ⟨[v]⟩,_=>exact ⟨v,rfl⟩
 subst hv
 obtain ⟨u,hu,hx⟩:=ha.2 0 _ rfl
 have hu':u=v:=by simpa using hu.symm
 subst hu'
 obtain ⟨hU,hlt,cap,hval,h1,h2,h3,h4⟩:=AD6.1 hx
 have hat:c.at_ 0=some (.cells (zs.map (AV.int .i64))):=by rw [hm.at_];simp [lk]
 obtain ⟨a,T,hb,hcs⟩:=hR.obj 0 _ hat
 obtain ⟨blk,hblk⟩:∃ blk,blk=(c.mu 0).1:=⟨_,rfl⟩
 obtain ⟨off,hoff⟩:∃ off,off=(c.mu 0).2:=⟨_,rfl⟩
 rw [Nat.add_zero] at hval
 rw [← hblk] at hb hlt hval
 rw [← hoff] at hcs hval
 have hcell:∀ j z,zs[j]? = some z→a[off+j]? = some (.int .i64 z):=fun j z hj=>by
  obtain ⟨u,h5,h6,_⟩:=hcs j (.int .i64 z) (by rw [List.getElem?_map,hj];rfl)
  rw [RR_int.1 h6] at h5;exact h5
 have hH:Holds (Value.int .i64) c.w blk off zs.toArray:=fun j hj=>by
  have hj':j < zs.length:=by simpa using hj
  have h5:=hcell j zs[j] (List.getElem?_eq_getElem hj')
  refine ⟨?_,by simp [World.frozen?,hb]⟩
  simp only [World.cell?,hb,Option.isSome_none,Bool.false_eq_true,if_false,h5]
  simp [hj']
 rw [hval,← hn]
 refine (hc blk off cap c.w hH hlt).mono ?_
 rintro e w' ⟨rfl,m,os,rfl⟩
 rw [hS]
 have hSl:S.length=zs.length:=by rw [← hS];exact List.length_mergeSort _
 obtain ⟨w1,hw1⟩:∃ w1,w1=putRow (Value.int .i64) (Sort.ahead c.w m) blk off S.toArray:=⟨_,rfl⟩
 rw [← hw1]
 have hb1:w1.heap[blk]? = some (.cells (putCells (Value.int .i64) off S.toArray a) T (0,0)):=by
  rw [hw1]
  show (c.w.heap.modify blk _)[blk]? = _
  rw [Array.getElem?_modify,if_pos rfl,hb];rfl
 have ho1:∀ b,b ≠ blk→w1.heap[b]? = c.w.heap[b]?:=fun b hne=>by
  rw [hw1]
  show (c.w.heap.modify blk _)[b]? = _
  rw [Array.getElem?_modify,if_neg (Ne.symm hne)]
 have hs1:w1.heap.size=c.w.heap.size:=by rw [hw1];simp [putRow,mapBlock,Sort.ahead]
 have hcs1:csize w1 (c.mu 0).1=csize c.w (c.mu 0).1:=by
  rw [← hblk]
  simp only [csize,hb,hb1]
  simp [putCells]
 have henv:w1.os=c.w.os∧w1.tape=c.w.tape∧w1.output=c.w.output:=by rw [hw1];exact ⟨rfl,rfl,rfl⟩
 have e1:=BA2 (o2:=.cells (S.map (AV.int .i64))) hR hat (fun b hne=>ho1 b (by rw [hblk];exact hne)) hcs1 hs1 henv
 have r1:=BT0 (o2:=.cells (S.map (AV.int .i64))) hR hat (fun b hne=>ho1 b (by rw [hblk];exact hne)) hcs1 hs1 henv ⟨_,T,by rw [← hblk];exact hb1,fun j x hj=>by
  rw [List.getElem?_map] at hj
  cases h5:S[j]? with
  | none=>rw [h5] at hj;cases hj
  | some z =>
   rw [h5] at hj;cases hj
   have hjl:=(List.getElem?_eq_some_iff.1 h5).1
   have h6:=hcell j (zs[j]'(by omega)) (List.getElem?_eq_getElem _)
   have hal:off+j < a.size:=(Array.getElem?_eq_some_iff.1 h6).1
   refine ⟨.int .i64 z,?_,RR_int.2 rfl,fun _ e=>(by cases e),fun _ e=>(by cases e)⟩
   rw [← hoff]
   show (putCells (Value.int .i64) off S.toArray a)[off+j]? = _
   unfold putCells
   rw [Array.getElem?_mapIdx,Array.getElem?_eq_getElem hal,Option.map_some,if_pos ⟨by omega,by simp;omega⟩]
   have h7:S.toArray[off+j - off]! = z:=by
    rw [Nat.add_sub_cancel_left,getElem!_pos _ _ (by simpa using hjl)]
    have:=(List.getElem?_eq_some_iff.1 h5).2
    simpa using this
   rw [h7]⟩
 obtain ⟨e2,r2⟩:=ext_more (w':=grow w1 os) r1 (by show w1.heap.size≤(w1.heap++os).size;simp) (fun b hb'=>by
  have hb2:b < w1.heap.size:=hb'
  show (w1.heap++os)[b]? = w1.heap[b]?
  rw [Array.getElem?_append,if_pos hb2]) ⟨rfl,rfl,rfl⟩
 refine ⟨_,rfl,.tup [],⟨[(0,.cells (S.map (AV.int .i64)))],1⟩,_,rfl,⟨rfl,rfl⟩,p8.2 ⟨#[],rfl,rfl,fun j x hx=>by simp at hx⟩,r2,⟨?_,hm.U⟩,e1.trans e2⟩
 funext j
 show upd c.at_ [(0,some (.cells (S.map (AV.int .i64))))] j=lk [(0,.cells (S.map (AV.int .i64)))] j
 rw [BJ8,hm.at_]
 by_cases e:j=0
 ·subst e;simp [lk]
 ·simp [lk,e]
@[irreducible] def kyC (vis:List Int) (n:Nat):List AV:=vis.map (AV.int .i64)++List.replicate (n - vis.length) (.int .i64 0)
theorem kyC_len {vis:List Int} {n:Nat} (h:vis.length≤n):(kyC vis n).length=n:=by unfold kyC;simp;omega
theorem kyC_0 {n:Nat}:(List.replicate n [AV.int .i64 0]).flatten=kyC [] n:=by unfold kyC;rw [List.flatten_replicate_singleton];simp
theorem kyC_s {vis:List Int} {n:Nat} {k:Int} (h:vis.length < n):over (kyC vis n) (vis.length * 1) [.int .i64 k]=kyC (vis++[k]) n:=by
 unfold kyC
 show ((vis.map (AV.int .i64)++List.replicate (n - vis.length) (AV.int .i64 0)).set (vis.length * 1) (.int .i64 k))=_
 rw [Nat.mul_one,List.set_append_right _ _ (by simp),List.length_map,Nat.sub_self]
 obtain ⟨q,hq⟩:∃ q,n - vis.length=q+1:=⟨n - vis.length - 1,by omega⟩
 rw [hq,List.replicate_succ,List.set_cons_zero,List.map_append,List.append_assoc]
 congr 1
 rw [List.length_append]
 show _=[AV.int .i64 k]++_
 rw [show n - (vis.length + [k].length)=q by simp;omega]
 rfl
theorem kyC_s0 {vis:List Int} {n:Nat} {k:Int} (h:vis.length < n):over (kyC vis n) (0+vis.length * 1) [.int .i64 k]=kyC (vis++[k]) n:=by rw [Nat.zero_add];exact kyC_s h
theorem Az5 {vis:List Int} {n:Nat} (h:vis.length=n):kyC vis n=vis.map (AV.int .i64):=by unfold kyC;rw [h,Nat.sub_self];simp
theorem AJ0 {vis:List Int} {n:Nat}:∀ x ∈ kyC vis n,Plain x:=fun x hx=>by
 unfold kyC at hx
 rcases List.mem_append.1 hx with h|h
 ·obtain ⟨_,_,rfl⟩:=List.mem_map.1 h;exact A8
 ·rw [(List.mem_replicate.1 h).2];exact A8
theorem BI9 {l:List (Nat × AObj)} {nx bytes d n:Nat} {vis:List Int} {k:Int} {x:AV} {rd:List Nat} {K:AV→Up→Prop} (hs:Aj3 (lk l) 1 x=some ([.int .i64 k],1,rd)) (hd:lk l d=some (.cells (kyC vis n))) (hl:vis.length < n) (hk:K (.sl d 0 (vis.length+1) n 1) [(d,some (.cells (kyC (vis++[k]) n)))]):AppSX l nx 1 bytes (.sl d 0 vis.length n 1) x K :=
 Ae2 (by rw [appV_in hs hd (by omega) (by rw [kyC_len (by omega)];omega),kyC_s0 hl]) hk
theorem Ak9 {α:Type} [DecidableEq α]:∀ {a b:List α},a.Nodup→(∀ x ∈ a,x ∈ b)→a.length≤b.length
 | [],_,_,_=>Nat.zero_le _
 | x::r,b,hn,h=>by
  have hn':=List.nodup_cons.1 hn
  have hx:=h x (List.mem_cons_self ..)
  have ih:=Ak9 (b:=b.erase x) hn'.2 fun y hy=>(List.mem_erase_of_ne (fun e:y=x=>hn'.1 (e▸hy))).2 (h y (List.mem_cons_of_mem _ hy))
  have hl:=List.length_erase_of_mem hx
  have hp:=List.length_pos_of_mem hx
  rw [List.length_cons];omega
structure LocSo (P:Program) (G:Gl) (f n:Nat) (zs S:List Int):Prop where
 out:AV1 P G f [.sl 0 0 n n 1] [(0,.cells (zs.map (AV.int .i64)))] 1 fun x h=>x = .tup []∧h=⟨[(0,.cells (S.map (AV.int .i64)))],1⟩
theorem Ag9 {l:List Int}:∀ x ∈ l.map (AV.int .i64),Plain x:=fun x hx=>by
 obtain ⟨_,_,rfl⟩:=List.mem_map.1 hx;exact A8
theorem cx_so {f n d nx:Nat} {zs S:List Int} {l:List (Nat × AObj)} {K:AV→Hp→Prop} (hG:AR8 G) (hc:LocSo P G f n zs S) (h0:lk l d=some (.cells (zs.map (AV.int .i64)))) (hlt:d < nx) (hk:AU1 [d] l fun l2=>K (.tup []) ⟨([(d,.cells (S.map (AV.int .i64)))]:List (Nat × AObj))++l2,nx⟩):AH3 P G (.fn f [] []) [.sl d 0 n n 1] ⟨l,nx⟩ K:=by
 have e0:enter [d] d 0:=rfl
 have k0:back [d] nx 0 d:=rfl
 refine AN6 (r':=.tup []) (l1:=[(d,.cells (S.map (AV.int .i64)))]) [d] hc.out hG rfl (.cons e0 h0 (D8 Ag9) .nil) ?_ (by intro x hx;simp only [List.mem_cons,List.not_mem_nil,or_false] at hx;omega) (F5 (F4 fun x hx=>by cases hx)) (.cons k0 (D8 Ag9) .nil) hk
 simp only [List.nil_append,List.append_nil]
 exact ⟨rn_sl e0,trivial⟩
end
end Go.Am
namespace Go.Proofs.Ytbhgfoikbkaohaa.Sh
open Go Go.Am
def cKs0:ACode:=.reg [⟨some 7,.load false 1 (.t 1),none⟩,⟨some 8,.mlen (.t 7),none⟩,⟨some 9,.mks 1 8 [.int .i64 0] (.k (.int .i64 0)) (.t 8),none⟩,⟨some 3,.mv (.t 9),none⟩]
def cKs4:ACode:=.reg [⟨some 16,.mv (.t 3),none⟩,⟨some 17,.mv (.t 4),none⟩,⟨some 18,.bslice 1 1 [.int .i64 0] [(0,1,.t 17)],none⟩,⟨some 19,.append 1 8 (.t 16) (.t 18),none⟩,⟨some 3,.mv (.t 19),none⟩]
def cKsR (z:AV):ACode:=.seq (.reg [⟨some 22,.mv (.t 3),none⟩,⟨some 23,.len (.t 22),none⟩,⟨some 24,.mv (.k (.int .i64 0)),none⟩]) (.block 2 (.loop (.seq (.reg [⟨some 25,.bin .lss (.t 24) (.t 23),none⟩]) (.seq (.cond (.t 25) .skip (.exit 2)) (.seq (.block 3 (.seq (.reg [⟨some 26,.iaddrS 1 (.t 22) (.t 24),none⟩,⟨some 27,.load false 1 (.t 26),none⟩,⟨some 6,.mv (.t 27),none⟩])
 (.seq (.reg [⟨some 28,.mv (.t 0),none⟩,⟨some 29,.mv (.t 6),none⟩,⟨some 30,.load false 1 (.t 1),none⟩,⟨some 31,.mv (.t 6),none⟩,⟨some 32,.mlook false false [0] z (.t 30) (.t 31),none⟩,⟨some 33,.call (.t 28) [.t 29,.t 32],none⟩,⟨some 34,.un .not (.t 33),none⟩]) (.cond (.t 34) .ret .skip)))) (.reg [⟨some 35,.bin .add (.t 24) (.k (.int .i64 1)),none⟩,⟨some 24,.mv (.t 35),none⟩]))))))
def cKs1 (z:AV):ACode:=.seq (.reg [⟨some 20,.mv (.t 3),none⟩,⟨some 21,.call (.k (.fn 57 [] [])) [.t 20],none⟩]) (cKsR z)
theorem bS_page:BodyS Try.prog 56 cKs0 1 10 11 12 13 14 15 4 cKs4 (cKs1 (.agg [.int .i64 0,.int .i64 0,.int .i64 0])) [] 36 :=
 ⟨by kernel_rfl,_,_,_,_,Try.func56,rfl,by kernel_rfl,⟨_,_,_,_,_,_,_,_,_,_,_,_,_,_,_,_,_,rfl,⟨rfl,rfl,rfl⟩,⟨rfl,rfl,rfl⟩,⟨rfl,rfl,rfl⟩,⟨rfl,rfl,rfl⟩,⟨rfl,rfl,rfl⟩,⟨rfl,rfl,rfl⟩,⟨rfl,rfl,rfl⟩,Try.underlying76,by kernel_rfl,by kernel_rfl⟩,by kernel_rfl,by kernel_rfl,rfl⟩
theorem bS_bytes:BodyS Try.prog 58 cKs0 1 10 11 12 13 14 15 4 cKs4 (cKs1 (.agg (List.replicate 64 (.int .u8 0)))) [] 36 :=
 ⟨by kernel_rfl,_,_,_,_,Try.func58,rfl,by kernel_rfl,⟨_,_,_,_,_,_,_,_,_,_,_,_,_,_,_,_,_,rfl,⟨rfl,rfl,rfl⟩,⟨rfl,rfl,rfl⟩,⟨rfl,rfl,rfl⟩,⟨rfl,rfl,rfl⟩,⟨rfl,rfl,rfl⟩,⟨rfl,rfl,rfl⟩,⟨rfl,rfl,rfl⟩,Try.underlying77,by kernel_rfl,by kernel_rfl⟩,by kernel_rfl,by kernel_rfl,rfl⟩
end Go.Proofs.Ytbhgfoikbkaohaa.Sh
namespace Go.Proofs.Ytbhgfoikbkaohaa.Sh
open Go Go.Am Go.Pol
def sort_ren:Go.Shelf.Ren:=⟨fun|189=>57|125=>68|257=>67|128=>84|129=>85|294=>75|295=>76|296=>77|297=>78|298=>79|299=>80|216=>81|300=>82|301=>83|328=>87|329=>88|330=>89|331=>90|332=>91|215=>92|343=>95|n=>n,fun|28=>55|3=>3|46=>157|0=>0|51=>170|53=>172|4=>4|183=>163|182=>162|131=>123|5=>5|9=>9|218=>175|222=>124|228=>182|229=>183|n=>n,fun|n=>n⟩
theorem BQ8:Go.Proofs.Lays.n189 Try.prog sort_ren:={ mixed:=by kernel_rfl,f125:=Try.func68.trans (congrArg some (by kernel_rfl)),f128:=Try.func84.trans (congrArg some (by kernel_rfl)),f129:=Try.func85.trans (congrArg some (by kernel_rfl)),f189:=Try.func57.trans (congrArg some (by kernel_rfl)),f215:=Try.func92.trans (congrArg some (by kernel_rfl)),f216:=Try.func81.trans (congrArg some (by kernel_rfl)),f257:=Try.func67.trans (congrArg some (by kernel_rfl)),f294:=Try.func75.trans (congrArg some (by kernel_rfl)),f295:=Try.func76.trans (congrArg some (by kernel_rfl)),f296:=Try.func77.trans (congrArg some (by kernel_rfl)),f297:=Try.func78.trans (congrArg some (by kernel_rfl)),f298:=Try.func79.trans (congrArg some (by kernel_rfl)),f299:=Try.func80.trans (congrArg some (by kernel_rfl)),f300:=Try.func82.trans (congrArg some (by kernel_rfl)),f301:=Try.func83.trans (congrArg some (by kernel_rfl)),f328:=Try.func87.trans (congrArg some (by kernel_rfl)),f329:=Try.func88.trans (congrArg some (by kernel_rfl)),f330:=Try.func89.trans (congrArg some (by kernel_rfl)),f331:=Try.func90.trans (congrArg some (by kernel_rfl)),f332:=Try.func91.trans (congrArg some (by kernel_rfl)),f343:=Try.func95.trans (congrArg some (by kernel_rfl)),t0:=Try.underlying0,a0:=Try.isAgg0,z0:=Try.sizeOf0,v0:=Try.zeroValue0,t3:=Try.underlying3,a3:=Try.isAgg3,z3:=Try.sizeOf3,v3:=Try.zeroValue3,t4:=Try.underlying4,a4:=Try.isAgg4,z4:=Try.sizeOf4,v4:=Try.zeroValue4,t5:=Try.underlying5,a5:=Try.isAgg5,z5:=Try.sizeOf5,v5:=Try.zeroValue5,t9:=Try.underlying9,a9:=Try.isAgg9,z9:=Try.sizeOf9,v9:=Try.zeroValue9,t28:=Try.underlying55,a28:=Try.isAgg55,z28:=Try.sizeOf55,v28:=Try.zeroValue55,t46:=Try.underlying157,a46:=Try.isAgg157,z46:=Try.sizeOf157,v46:=Try.zeroValue157,t51:=Try.underlying170,a51:=Try.isAgg170,z51:=Try.sizeOf170,v51:=Try.zeroValue170,t53:=Try.underlying172,a53:=Try.isAgg172,z53:=Try.sizeOf172,v53:=Try.zeroValue172,t131:=Try.underlying123,a131:=Try.isAgg123,z131:=Try.sizeOf123,v131:=Try.zeroValue123,t182:=Try.underlying162,a182:=Try.isAgg162,z182:=Try.sizeOf162,v182:=Try.zeroValue162,t183:=Try.underlying163,a183:=Try.isAgg163,z183:=Try.sizeOf163,v183:=Try.zeroValue163,t218:=Try.underlying175,a218:=Try.isAgg175,z218:=Try.sizeOf175,v218:=Try.zeroValue175,t222:=Try.underlying124,a222:=Try.isAgg124,z222:=Try.sizeOf124,v222:=Try.zeroValue124,t228:=Try.underlying182,a228:=Try.isAgg182,z228:=Try.sizeOf182,v228:=Try.zeroValue182,t229:=Try.underlying183,a229:=Try.isAgg183,z229:=Try.sizeOf183,v229:=Try.zeroValue183 }
theorem so_ok {n:Nat} {zs S:List Int} (hn:zs.length=n) (hp:zs.Perm S) (hs:S.Pairwise (· < ·)) (hz:n≤1000):LocSo Try.prog G0 57 n zs S :=
 ⟨loc_sort (by kernel_rfl) hn (sort_is hp hs) (by omega) fun blk off cap w hH hb=>calls_of_every_depth fun D=>AnyS.slices_Sort_int_in BQ8 D blk off cap zs w hH hb (by omega)⟩
end Go.Proofs.Ytbhgfoikbkaohaa.Sh
namespace Go.Pol
open Go.Am Go.Proofs.Ytbhgfoikbkaohaa.Sh
def Sw.pages (w:Sw):List Nat:=(List.range w.pg).filter fun p=>decide (w.is p)
def vst (w:Sw) (o:Option Nat) (p:Nat):Option Nat:=if 0≤w.F p then (match o with
  | none=>some p
  | some b=>if w.Z p < w.Z b then some p else some b) else o
theorem Ao9 (w:Sw):∀ m,w.vicN m=(List.range m).foldl (vst w) none
 | 0=>rfl
 | m+1=>by
  rw [List.range_succ,List.foldl_append,← Ao9 w m]
  rfl
theorem Al3 {w:Sw}:∀ (l:List Nat) (o:Option Nat),(l.filter fun p=>decide (w.is p)).foldl (vst w) o=l.foldl (vst w) o
 | [],o=>rfl
 | p::l,o=>by
  by_cases h:w.is p
  ·rw [List.filter_cons_of_pos (by simpa using h),List.foldl_cons,List.foldl_cons,Al3 l]
  ·rw [List.filter_cons_of_neg (by simpa using h),List.foldl_cons,Al3 l]
   have : vst w o p=o:=if_neg fun h2=>h (.inl h2)
   rw [this]
theorem vic_fold (w:Sw):w.vic=w.pages.foldl (vst w) none:=by unfold Sw.vic Sw.pages;rw [Ao9,Al3]
def Ao1 (w:Sw) (j:Nat):Option Nat:=(w.pages.take j).foldl (vst w) none
theorem vicT_0 {w:Sw}:opA (Ao1 w 0) = -1:=rfl
theorem vicT_s {w:Sw} {j:Nat} (h:j < w.pages.length):Ao1 w (j+1)=vst w (Ao1 w j) (nth 0 w.pages j):=by
 unfold Ao1;rw [AX6 (d:=0) h,List.foldl_append];rfl
theorem vicT_all {w:Sw}:Ao1 w w.pages.length=w.vic:=by rw [vic_fold];unfold Ao1;rw [List.take_length]
theorem vst_in {w:Sw} (hz:∀ p,¬ w.is p→¬ 0≤w.F p) {b:Nat}:∀ (l:List Nat) (o:Option Nat),l.foldl (vst w) o=some b→(o=some b)∨(b ∈ l∧0≤w.F b)
 | [],o,h=>.inl h
 | p::l,o,h=>by
  rcases vst_in hz l _ h with h2 | ⟨h2,h3⟩
  ·unfold vst at h2
   split at h2
   ·rename_i hF
    split at h2
    ·cases h2;exact .inr ⟨List.mem_cons_self ..,hF⟩
    ·split at h2
     ·cases h2;exact .inr ⟨List.mem_cons_self ..,hF⟩
     ·cases h2;exact .inl rfl
   ·exact .inl h2
  ·exact .inr ⟨List.mem_cons_of_mem _ h2,h3⟩
theorem AE9 {w:Sw} (hg:D7 w) {p:Nat}:p ∈ w.pages ↔ w.is p:=by
 unfold Sw.pages
 rw [List.mem_filter,decide_eq_true_eq,List.mem_range]
 exact ⟨fun h=>h.2,fun h=>⟨h.elim (AC8 hg) (AM0 hg),h⟩⟩
theorem BE8 {w:Sw}:w.pages.Nodup:=List.nodup_range.filter _
theorem Ak3 {w:Sw}:w.pages.Pairwise (· < ·):=List.pairwise_lt_range.filter _
structure WW (w:Sw) (L:List (Int × Int × Int × Int)):Prop where
 nd:ndI L
 gW:∀ p:Int,mgI L p=if 0≤p∧w.is p.toNat then some (w.F p.toNat,w.T p.toNat,w.Z p.toNat) else none
theorem WOk.ww {w:Sw} {t:WS} (h:WOk w t):WW w t.W:=⟨h.ndW,h.gW⟩
theorem AE8 {w:Sw} {t:WS} (hg:D7 w) (h:WW w t.W):(t.W.map (·.1)).Perm (w.pages.map fun p=>((p:Nat):Int)):=by
 refine (List.perm_ext_iff_of_nodup h.nd ?_).2 fun k=>?_
 ·exact List.Pairwise.map (R:=fun a b=>a ≠ b) _ (fun a b hab e=>hab (by omega)) BE8
 ·rw [AS9,List.mem_map]
  constructor
  ·rintro ⟨v,hv⟩
   rw [h.gW] at hv
   split at hv
   ·rename_i hk
    exact ⟨k.toNat,(AE9 hg).2 hk.2,by omega⟩
   ·cases hv
  ·rintro ⟨p,hp,rfl⟩
   exact ⟨_,by rw [h.gW,if_pos ⟨by omega,by rw [Int.toNat_natCast];exact (AE9 hg).1 hp⟩]⟩
theorem Ar0 {w:Sw}:(w.pages.map fun p=>((p:Nat):Int)).Pairwise (· < ·):=List.Pairwise.map (R:=fun a b=>a < b) _ (fun a b hab=>by omega) Ak3
theorem AR1 {w:Sw} {t:WS} (h:WW w t.W) {p:Nat} (hp:w.is p):mgI t.W (p:Nat)=some (w.F p,w.T p,w.Z p):=by
 rw [h.gW,if_pos ⟨by omega,by rw [Int.toNat_natCast];exact hp⟩,Int.toNat_natCast]
theorem gW_no {w:Sw} {t:WS} (h:WW w t.W) {p:Nat} (hp:¬ w.is p):mgI t.W (p:Nat)=none:=by
 rw [h.gW,if_neg fun h2=>hp (by rw [Int.toNat_natCast] at h2;exact h2.2)]
end Go.Pol
namespace Go.Proofs.Ytbhgfoikbkaohaa.Sh
open Go Go.Am Go.Pol
open Go.Proofs.Ytbhgfoikbkaohaa.Sh renaming plx_Sxc → plx
open Go.Proofs.Ytbhgfoikbkaohaa.Sh renaming ppx_Sxc → ppx
theorem wx_Sxe {p q:Prop} (hq:q) (h:Z7 q→p:=by (intro hQz;((repeat' ((try (conv=>whnf));first|(with_reducible first|refine M7 ?_|refine I8 ?_|refine O1 ?_|refine O5 ?_|refine J5 ?_|refine R3 ?_|refine M5 ?_|refine Q9 rfl ?_|refine M6 ?_|refine G9 ?_|refine J3 ?_|refine J4 ?_|refine O4 ?_|refine G8 ?_|refine I9 (by decide +kernel) ?_|refine I6 (by decide +kernel) ?_|refine AH0 ?_|refine AH1 ?_|refine Av0 ?_|refine l6 ?_|refine AK3 ?_|refine An2 (by assumption) ?_|refine An3 (by assumption) ?_|refine l5 (by omega) ?_|refine AK1 ?_)|((with_reducible refine AK4 ?_ ?_);focus omega)|((with_reducible refine AK5 ?_ ?_);focus omega)|((with_reducible apply U8 hQz)<;>(try intro hsp hQz))|((with_reducible refine Au7 ?_ ?_);focus (first|omega|rfl|assumption|decide|(simp only [List.length_map,List.length_cons,List.length_nil];omega)|exact hmk))|refine AH5 (hmk) ?_|(with_reducible first|refine AJ7 ?_|refine j6 ?_|refine j5 ?_|refine AJ9 ?_|refine AJ8 ?_|refine AJ5 ?_|refine At7 ?_|refine H7 ?_|refine d9 ?_|refine N7 ?_|refine M9 ?_|refine H8 ?_|refine AJ6 (by omega) ?_|refine j4 (by omega) ?_)|refine BF7 rfl ?_|refine BI9 rfl rfl (by omega) ?_|refine L9 hS ?_|refine Z9 hgp rfl ?_|refine Z9 hgb rfl ?_|refine sxF ?_|refine cx_so I7 hs rfl (by decide) ?_|refine Am4 F6 rfl hF hA hB rfl ?_|(refine AC3 F6 b34 rfl ?_;unfold c34)|refine sxH ?_|((with_reducible apply U9 hQz)<;>(try intro hsp hQz))|exact hQz.out))<;>(try (conv=>whnf))))):p:=h ⟨hq⟩
section
variable {q:Sw} {t:WS}
theorem BF4 (hg:D7 q) {j:Nat} (hj:j < q.pages.length):q.is (nth 0 q.pages j):=(AE9 hg).1 (AG0 hj)
theorem pgI_at {j:Nat} (hj:j < q.pages.length):((q.pages.map fun p=>((p:Nat):Int)).map (AV.int .i64))[j]? = some (.int .i64 ((nth 0 q.pages j:Nat):Int)):=by
 rw [J8 hj,List.getElem?_map,List.getElem?_map,List.getElem?_eq_getElem hj];rfl
theorem w_victim (hg:D7 q) (h:WW q t.W):L8 36 [] q t (.int .i64 (opA q.vic)) q t:=by
 have hwl:t.W.length≤256:=by
  have:=(AE8 hg h).length_eq
  rw [List.length_map,List.length_map] at this
  have h2:q.pages.length≤q.pg:=Nat.le_trans (List.length_filter_le ..) (by rw [List.length_range];exact Nat.le_refl _)
  have:=hg.rng;omega
 have hpl:t.W.length=q.pages.length:=by
  have:=(AE8 hg h).length_eq
  rwa [List.length_map,List.length_map] at this
 have hmk:=kyC_0 (n:=t.W.length)
 refine L8.mk (H6 F6 b36 rfl ?_) (fun x hx=>by cases hx) A8
 unfold c36
 unfold stN stC
 (refine wx_Sxe ?_;repeat' (first|with_reducible refine And.intro ?_ ?_|intro hsp))
 refine Ax9 F6 bS_page rfl trivial ?_
 intro frl asl bdl hF hA hB
 unfold cKs0
 (refine wx_Sxe ?_;repeat' (first|with_reducible refine And.intro ?_ ?_|intro hsp))
 refine KeysX.mk fun ck hck=>BW9 F6 hck (i:=1) (it:=10) (pb:=7) (po:=0) (cs:=[]) (ks:=t.W.map (·.1)) [] (fun vis=>[(0,.yld 8),(1,.ptr 7 0),(3,.sl 9 0 vis.length t.W.length 1)]) (fun vis=>[(0,.cells (stC 4 1 2 3 q)),(2,.maps (encW byE t.D)),(3,.maps (encW nuE t.H)),(4,.cells q.s.a),(5,.cells [.ptr 0 0]),(6,.cells [.int .i64 (-1)]),(7,.cells [.mapr 1]),(8,.loop .ready none frl [11,12] asl bdl),(9,.cells (kyC vis t.W.length))]) Am2 h.nd rfl rfl rfl (.inr ⟨_,rfl⟩) rfl (by decide) (by decide) rfl (fun _=>rfl) rfl (fun _=>rfl) ?_ ?_ ?_
 ·exact Y4
 ·intro vis k hnd hsub
  have hl1:vis.length < t.W.length:=by
   have:=Ak9 hnd hsub
   rw [List.length_append,List.length_map] at this
   exact this
  unfold cKs4
  (refine wx_Sxe ?_;repeat' (first|with_reducible refine And.intro ?_ ?_|intro hsp))
  refine ⟨[],rfl,?_⟩
  rw [show (vis++[k]).length=vis.length+1 by simp]
  exact Y4
 ·intro vis hperm
  have hlen:vis.length=t.W.length:=by rw [hperm.length_eq,List.length_map]
  have hs:=so_ok hlen (hperm.trans (AE8 hg h)) Ar0 (by omega)
  rw [Az5 hlen,hlen]
  unfold cKs1
  unfold cKsR
  (refine wx_Sxe ?_;repeat' (first|with_reducible refine And.intro ?_ ?_|intro hsp))
  rw [hpl]
  have hv0:=vicT_0 (w:=q)
  (refine Q5 [0,1,22,23] (fun (j:Nat)=>[(24,.int .i64 (j:Nat))]) (fun (j:Nat)=>⟨stN q t 0 1 2 3 4++[(5,.cells [.ptr 0 0]),(6,.cells [.int .i64 (opA (Ao1 q j))]),(7,.cells [.mapr 1]),(8,.loop .ready none frl [11,12] asl bdl),(9,.cells ((q.pages.map fun p=>((p:Nat):Int)).map (AV.int .i64)))],11⟩) (fun (j:Nat)=>j≤q.pages.length) (fun (j:Nat)=>q.pages.length - j) (0) [] rfl (fun _=>by first|exact Nat.zero_le _|(dsimp only;omega)) ?_ (by ((try (conv=>whnf));(rw [hv0]);exact Y4)) ?_)
  ·exact Nat.zero_le _
  intro j hj
  by_cases hjl:j < q.pages.length
  ·have hip:=BF4 hg hjl
   have hS:=pgI_at hjl
   have hvs:=vicT_s hjl
   generalize nth 0 q.pages j=p at *
   have hgp:=AR1 h hip
   by_cases hF0:0≤q.F p
   ·rcases (show Ao1 q j=none∨∃ b,Ao1 q j=some b by cases Ao1 q j<;>simp) with hv | ⟨b,hv⟩
    ·have hy:opA (Ao1 q j) = -1:=by rw [hv];rfl
     have hnx:opA (Ao1 q (j+1))=(p:Nat):=by rw [hvs,hv];unfold vst;rw [if_pos hF0];rfl
     rw [hy]
     unfold stN stC
     (refine wx_Sxe ?_;repeat' (first|with_reducible refine And.intro ?_ ?_|intro hsp))
     all_goals first|(exfalso;omega)|exact I4 (j+1) [] (by (try dsimp only);omega) (by first|omega|(dsimp only;omega)) rfl (by ((try dsimp only);rw [hnx]);exact Y4)
    ·have hy:opA (Ao1 q j)=(b:Nat):=by rw [hv];rfl
     have hb:0≤q.F b:=by
      rcases vst_in (w:=q) (fun p hp h2=>hp (.inl h2)) _ _ hv with h2 | ⟨_,h2⟩
      ·cases h2
      ·exact h2
     have hgb:=AR1 h (p:=b) (.inl hb)
     by_cases hz:q.Z p < q.Z b
     ·have hnx:opA (Ao1 q (j+1))=(p:Nat):=by rw [hvs,hv];unfold vst;rw [if_pos hF0];dsimp only;rw [if_pos hz];rfl
      rw [hy]
      unfold stN stC
      (refine wx_Sxe ?_;repeat' (first|with_reducible refine And.intro ?_ ?_|intro hsp))
      all_goals first|(exfalso;omega)|exact I4 (j+1) [] (by (try dsimp only);omega) (by first|omega|(dsimp only;omega)) rfl (by ((try dsimp only);rw [hnx]);exact Y4)
     ·have hnx:opA (Ao1 q (j+1))=(b:Nat):=by rw [hvs,hv];unfold vst;rw [if_pos hF0];dsimp only;rw [if_neg hz];rfl
      rw [hy]
      unfold stN stC
      (refine wx_Sxe ?_;repeat' (first|with_reducible refine And.intro ?_ ?_|intro hsp))
      all_goals first|(exfalso;omega)|exact I4 (j+1) [] (by (try dsimp only);omega) (by first|omega|(dsimp only;omega)) rfl (by ((try dsimp only);rw [hnx]);exact Y4)
   ·have hnx:opA (Ao1 q (j+1))=opA (Ao1 q j):=by rw [hvs];unfold vst;rw [if_neg hF0]
    generalize opA (Ao1 q j)=y at *
    unfold stN stC
    (refine wx_Sxe ?_;repeat' (first|with_reducible refine And.intro ?_ ?_|intro hsp))
    all_goals first|(exfalso;omega)|exact I4 (j+1) [] (by (try dsimp only);omega) (by first|omega|(dsimp only;omega)) rfl (by ((try dsimp only);rw [hnx]);exact Y4)
  ·obtain rfl:j=q.pages.length:=by omega
   rw [vicT_all]
   unfold stN stC
   (refine wx_Sxe ?_;repeat' (first|with_reducible refine And.intro ?_ ?_|intro hsp))
   all_goals first|(exfalso;omega)|exact J9 rfl A8 rfl rfl rfl rfl rfl
end
end Go.Proofs.Ytbhgfoikbkaohaa.Sh
namespace Go.Pol
open Go.Am Go.Proofs.Ytbhgfoikbkaohaa.Sh
section
variable {w:Sw} {t:WS}
theorem AX1 {f:Nat→Int} {i j:Nat} {v:Int}:E9 f i v j=if j=i then v else f j:=rfl
theorem Ao0 (hg:D7 w) (p:Nat):(w.F p = -1)∨(w.T p = -1∧0≤w.F p):=by
 rcases hg.fr p with h | ⟨h1,f,h2,_⟩
 ·exact .inl h
 ·exact .inr ⟨h1,by omega⟩
theorem AU9 (hg:D7 w) (p:Nat):(w.T p = -1)∨(w.F p = -1∧0≤w.T p):=by
 rcases hg.sl p with h | ⟨h1,f,h2,_⟩
 ·exact .inl h
 ·exact .inr ⟨h1,by omega⟩
theorem Ao6 {w':Sw} {t':WS} (n1:ndI t'.W) (n2:ndI t'.D) (n3:ndI t'.H) (hf:∀ p,w'.pg≤p→w'.T p = -1)
  (g1:∀ p:Nat,mgI t'.W (p:Nat)=if w'.is p then some (w'.F p,w'.T p,w'.Z p) else none) (g1':∀ p:Int,p < 0→mgI t'.W p=none)
  (g2:∀ k:Nat,(∀ p,w'.T p=(k:Nat)→mgI t'.D (k:Nat)=some (w'.D k))∧((∀ p,w'.T p ≠ (k:Nat))→mgI t'.D (k:Nat)=none)) (g2':∀ k:Int,k < 0→mgI t'.D k=none)
  (g3:∀ (f p:Nat),mgI t'.H (f:Nat)=some ((p:Nat):Int) ↔ w'.F p=(f:Nat)) (g3':∀ f:Int,f < 0→mgI t'.H f=none) (g3n:∀ (f p:Int),mgI t'.H f=some p→0≤p):WOk w' t':=by
 refine ⟨n1,n2,n3,fun p=>?_,fun k=>?_,fun f p=>?_⟩
 ·by_cases h0:0≤p
  ·obtain ⟨m,rfl⟩:=Int.eq_ofNat_of_zero_le h0
   rw [g1,Int.toNat_natCast]
   by_cases hi:w'.is m
   ·rw [if_pos hi,if_pos ⟨h0,hi⟩]
   ·rw [if_neg hi,if_neg fun h=>hi h.2]
  ·rw [g1' p (by omega),if_neg fun h=>h0 h.1]
 ·by_cases h0:0≤k
  ·obtain ⟨m,rfl⟩:=Int.eq_ofNat_of_zero_le h0
   rw [Int.toNat_natCast]
   by_cases hh:w'.heldT m
   ·obtain ⟨p,_,hp⟩:=hh
    rw [if_pos ⟨h0,⟨p,by assumption,hp⟩⟩]
    exact (g2 m).1 p hp
   ·rw [if_neg fun h=>hh h.2]
    refine (g2 m).2 fun p hp=>hh ⟨p,?_,hp⟩
    exact Classical.byContradiction fun hn=>by rw [hf p (by omega)] at hp;omega
  ·rw [g2' k (by omega),if_neg fun h=>h0 h.1]
 ·by_cases h0:0≤f
  ·obtain ⟨m,rfl⟩:=Int.eq_ofNat_of_zero_le h0
   constructor
   ·intro h
    have hp:=g3n _ _ h
    obtain ⟨j,rfl⟩:=Int.eq_ofNat_of_zero_le hp
    rw [Int.toNat_natCast]
    exact ⟨hp,h0,(g3 m j).1 h⟩
   ·rintro ⟨h1,_,h3⟩
    obtain ⟨j,rfl⟩:=Int.eq_ofNat_of_zero_le h1
    rw [Int.toNat_natCast] at h3
    exact (g3 m j).2 h3
  ·rw [g3' f (by omega)]
   exact ⟨fun h=>(by cases h),fun h=>absurd h.2.1 h0⟩
theorem gW_n (h:WOk w t) (p:Nat):mgI t.W (p:Nat)=if w.is p then some (w.F p,w.T p,w.Z p) else none:=by
 by_cases hi:w.is p
 ·rw [if_pos hi,AR1 h.ww hi]
 ·rw [if_neg hi,gW_no h.ww hi]
theorem At2 (h:WOk w t) {p:Int} (hp:p < 0):mgI t.W p=none:=by rw [h.gW,if_neg fun h2=>by have:=h2.1;omega]
theorem AW8 (h:WOk w t) {k:Int} (hk:k < 0):mgI t.D k=none:=by rw [h.gD,if_neg fun h2=>by have:=h2.1;omega]
theorem AN4 (hg:D7 w) (h:WOk w t) {p k:Nat} (hp:w.T p=(k:Nat)):mgI t.D (k:Nat)=some (w.D k):=by
 rw [h.gD,if_pos ⟨by omega,by rw [Int.toNat_natCast];exact ⟨p,AM0 hg (by omega),hp⟩⟩,Int.toNat_natCast]
theorem At3 (h:WOk w t) {k:Nat} (hp:∀ p,w.T p ≠ (k:Nat)):mgI t.D (k:Nat)=none:=by
 rw [h.gD,if_neg fun h2=>by
  have:=h2.2
  rw [Int.toNat_natCast] at this
  obtain ⟨p,_,h3⟩:=this
  exact hp p h3]
theorem gH_n (h:WOk w t) (f p:Nat):mgI t.H (f:Nat)=some ((p:Nat):Int) ↔ w.F p=(f:Nat):=by
 rw [h.gH,Int.toNat_natCast]
 exact ⟨fun h=>h.2.2,fun h=>⟨by omega,by omega,h⟩⟩
theorem Ah1 (h:WOk w t) {f:Int} (hf:f < 0):mgI t.H f=none:=by
 cases hm:mgI t.H f with
 | none=>rfl
 | some p=>have:=((h.gH f p).1 hm).2.1;omega
theorem gH_ge (h:WOk w t) {f p:Int} (hf:mgI t.H f=some p):0≤p:=((h.gH f p).1 hf).1
theorem AO0 (h:WOk w t) (s':Sy):WOk { w with s:=s' } t:=⟨h.ndW,h.ndD,h.ndH,h.gW,h.gD,h.gH⟩
theorem BO1 (hg:D7 w) (h:WOk w t) {p:Nat} (hp:0≤w.F p) (now:Int):WOk { w with Z:=E9 w.Z p now } ⟨mpI t.W (p:Nat) (w.F p,w.T p,now),t.D,t.H⟩:=by
 refine Ao6 (Ab4 h.ndW) h.ndD h.ndH (fun j hj=>(hg.far j hj).2) (fun j=>?_) (fun j hj=>?_) (fun k=>⟨fun j hj=>AN4 hg h hj,fun hj=>At3 h hj⟩) (fun k hk=>AW8 h hk) (fun f j=>gH_n h f j) (fun f hf=>Ah1 h hf) (fun f j hj=>gH_ge h hj)
 ·show mgI (mpI t.W (p:Nat) (w.F p,w.T p,now)) (j:Nat)=if w.is j then some (w.F j,w.T j,E9 w.Z p now j) else none
  rw [z8,AX1,gW_n h]
  by_cases e:j=p
  ·subst e;rw [if_pos rfl,if_pos (.inl hp),if_pos rfl]
  ·rw [if_neg (by omega),if_neg e]
 ·show mgI (mpI t.W (p:Nat) (w.F p,w.T p,now)) j=none
  rw [z8,if_neg (by omega),At2 h hj]
theorem BO3 (hg:D7 w) (h:WOk w t) {p f:Nat} (hp:p < w.pg) (hn:¬ 0≤w.F p) (hf:¬ w.heldF f) (now:Int) (x:Nat→Int):WOk (w.brg p f now x) ⟨mpI t.W (p:Nat) ((f:Nat),-1,now),mdI t.D (w.T p),mpI t.H (f:Nat) (p:Nat)⟩:=by
 have hfn:∀ j,w.F j ≠ (f:Nat):=fun j hj=>hf ⟨j,AC8 hg (by omega),hj⟩
 have hFp:w.F p = -1:=(Ao0 hg p).resolve_right fun h=>hn h.2
 refine Ao6 (Ab4 h.ndW) (Ay6 h.ndD) (Ab4 h.ndH) (fun j hj=>?_) (fun j=>?_) (fun j hj=>?_) (fun k=>⟨fun j hj=>?_,fun hj=>?_⟩) (fun k hk=>?_) (fun g j=>?_) (fun g hg'=>?_) (fun g j hj=>?_)
 ·show E9 w.T p (-1) j = -1
  rw [AX1]
  split
  ·rfl
  ·exact (hg.far j hj).2
 ·show mgI (mpI t.W (p:Nat) ((f:Nat),-1,now)) (j:Nat)=if (0≤E9 w.F p (f:Nat) j∨0≤E9 w.T p (-1) j) then some (E9 w.F p (f:Nat) j,E9 w.T p (-1) j,E9 w.Z p now j) else none
  rw [z8,AX1,AX1,AX1,gW_n h]
  by_cases e:j=p
  ·subst e;rw [if_pos rfl,if_pos rfl,if_pos rfl,if_pos rfl,if_pos (.inl (by omega))]
  ·rw [if_neg (by omega),if_neg e,if_neg e,if_neg e];rfl
 ·show mgI (mpI t.W (p:Nat) ((f:Nat),-1,now)) j=none
  rw [z8,if_neg (by omega),At2 h hj]
 ·have hj':E9 w.T p (-1) j=(k:Nat):=hj
  rw [AX1] at hj'
  show mgI (mdI t.D (w.T p)) (k:Nat)=some (w.D k)
  split at hj'
  ·omega
  ·rename_i e
   rw [AD4 h.ndD,if_neg fun e2=>e (hg.oneT j p (by omega) (by omega)),AN4 hg h hj']
 ·show mgI (mdI t.D (w.T p)) (k:Nat)=none
  rw [AD4 h.ndD]
  by_cases e:((k:Nat):Int)=w.T p
  ·rw [if_pos e]
  ·rw [if_neg e]
   refine At3 h fun i hi=>?_
   have:=hj i
   have h2:E9 w.T p (-1) i ≠ (k:Nat):=this
   rw [AX1] at h2
   split at h2
   ·rename_i e2;subst e2;exact e hi.symm
   ·exact h2 hi
 ·show mgI (mdI t.D (w.T p)) k=none
  rw [AD4 h.ndD,AW8 h hk];split<;>rfl
 ·show mgI (mpI t.H (f:Nat) (p:Nat)) (g:Nat)=some ((j:Nat):Int) ↔ E9 w.F p (f:Nat) j=(g:Nat)
  rw [z8,AX1]
  by_cases e:g=f
  ·subst e
   rw [if_pos rfl]
   by_cases e2:j=p
   ·subst e2;rw [if_pos rfl];simp
   ·rw [if_neg e2]
    exact ⟨fun h=>absurd (Option.some.inj h) (by omega),fun h=>absurd h (hfn j)⟩
  ·rw [if_neg (by omega),gH_n h]
   by_cases e2:j=p
   ·subst e2;rw [if_pos rfl,hFp];exact ⟨fun h=>by omega,fun h=>by omega⟩
   ·rw [if_neg e2]
 ·show mgI (mpI t.H (f:Nat) (p:Nat)) g=none
  rw [z8,if_neg (by omega),Ah1 h hg']
 ·have hj':mgI (mpI t.H (f:Nat) (p:Nat)) g=some j:=hj
  rw [z8] at hj'
  split at hj'
  ·cases hj';omega
  ·exact gH_ge h hj'
theorem Aw5 (hg:D7 w) (h:WOk w t) {p v f k:Nat} (hp:p < w.pg) (hn:¬ 0≤w.F p) (hv:w.F v=(f:Nat)) (hk:((k:Nat):Int)=w.T p∨¬ w.heldT k) (now:Int) (x:Nat→Int) :
  WOk ((w.put v k).brg p (w.F v).toNat now x) ⟨mpI (mpI t.W (v:Nat) (-1,(k:Nat),w.Z v)) (p:Nat) ((f:Nat),-1,now),mpI (mdI t.D (w.T p)) (k:Nat) (w.s.B f),mpI (mdI t.H (f:Nat)) (f:Nat) (p:Nat)⟩:=by
 have hFp:w.F p = -1:=(Ao0 hg p).resolve_right fun h=>hn h.2
 have hvp:v ≠ p:=fun e=>by rw [e,hFp] at hv;omega
 have hTv:w.T v = -1:=(AU9 hg v).resolve_right fun h=>by rw [h.1] at hv;omega
 have hkn:∀ j,j ≠ p→w.T j ≠ (k:Nat):=fun j hj e=>by
  rcases hk with hk|hk
  ·exact hj (hg.oneT j p (by omega) (by omega))
  ·exact hk ⟨j,AM0 hg (by omega),e⟩
 have hfn:∀ j,j ≠ v→w.F j ≠ (f:Nat):=fun j hj e=>hj (hg.oneF j v (by omega) (by omega))
 have hft:(w.F v).toNat=f:=by rw [hv,Int.toNat_natCast]
 have eF:∀ j,((w.put v k).brg p (w.F v).toNat now x).F j=if j=p then ((f:Nat):Int) else if j=v then -1 else w.F j:=fun j=>by
  show E9 (E9 w.F v (-1)) p ((w.F v).toNat:Nat) j=_
  rw [hft,AX1,AX1]
 have eT:∀ j,((w.put v k).brg p (w.F v).toNat now x).T j=if j=p then -1 else if j=v then ((k:Nat):Int) else w.T j:=fun j=>by
  show E9 (E9 w.T v (k:Nat)) p (-1) j=_
  rw [AX1,AX1]
 have eZ:∀ j,((w.put v k).brg p (w.F v).toNat now x).Z j=if j=p then now else w.Z j:=fun j=>rfl
 have eD:∀ j,((w.put v k).brg p (w.F v).toNat now x).D j=if j=k then w.s.B f else w.D j:=fun j=>by
  show AD7 w.D k (w.s.B (w.F v).toNat) j=_
  rw [hft];rfl
 have hpg:((w.put v k).brg p (w.F v).toNat now x).pg=w.pg:=rfl
 have hvl:v < w.pg:=AC8 hg (by omega)
 have eis:∀ j,((w.put v k).brg p (w.F v).toNat now x).is j ↔ (j=p∨j=v∨w.is j):=fun j=>by
  unfold Sw.is
  rw [eF,eT]
  by_cases e1:j=p
  ·rw [if_pos e1,if_pos e1];exact ⟨fun _=>.inl e1,fun _=>.inl (by omega)⟩
  ·rw [if_neg e1,if_neg e1]
   by_cases e2:j=v
   ·rw [if_pos e2,if_pos e2];exact ⟨fun _=>.inr (.inl e2),fun _=>.inr (by omega)⟩
   ·rw [if_neg e2,if_neg e2]
    exact ⟨fun h=>.inr (.inr h),fun h=>h.elim (fun h=>absurd h e1) fun h=>h.elim (fun h=>absurd h e2) id⟩
 generalize (w.put v k).brg p (w.F v).toNat now x=w' at *
 refine Ao6 (Ab4 (Ab4 h.ndW)) (Ab4 (Ay6 h.ndD)) (Ab4 (Ay6 h.ndH)) (fun j hj=>?_) (fun j=>?_) (fun j hj=>?_) (fun m=>⟨fun j hj=>?_,fun hj=>?_⟩) (fun m hm=>?_) (fun g j=>?_) (fun g hg'=>?_) (fun g j hj=>?_)
 ·rw [eT,if_neg (by omega),if_neg (by omega)];exact (hg.far j (by omega)).2
 ·dsimp only
  rw [z8,z8,gW_n h,eF,eT,eZ]
  by_cases e1:j=p
  ·subst e1;rw [if_pos rfl,if_pos rfl,if_pos rfl,if_pos rfl,if_pos ((eis j).2 (.inl rfl))]
  ·rw [if_neg (by omega),if_neg e1,if_neg e1,if_neg e1]
   by_cases e2:j=v
   ·subst e2;rw [if_pos rfl,if_pos rfl,if_pos rfl,if_pos ((eis j).2 (.inr (.inl rfl)))]
   ·rw [if_neg (by omega),if_neg e2,if_neg e2]
    by_cases hi:w.is j
    ·rw [if_pos hi,if_pos ((eis j).2 (.inr (.inr hi)))]
    ·rw [if_neg hi,if_neg fun h2=>((eis j).1 h2).elim e1 fun h3=>h3.elim e2 hi]
 ·dsimp only
  rw [z8,if_neg (by omega),z8,if_neg (by omega),At2 h hj]
 ·rw [eT] at hj
  dsimp only
  rw [z8,eD]
  by_cases e:m=k
  ·subst e;rw [if_pos rfl,if_pos rfl]
  ·rw [if_neg (by omega),if_neg e,AD4 h.ndD]
   split at hj
   ·omega
   ·rename_i e1
    split at hj
    ·omega
    ·rw [if_neg fun e2=>e1 (hg.oneT j p (by omega) (by omega)),AN4 hg h hj]
 ·dsimp only
  have hne:m ≠ k:=fun e=>by
   have:=hj v
   rw [eT,if_neg hvp,if_pos rfl] at this
   exact this (by omega)
  rw [z8,if_neg (by omega),AD4 h.ndD]
  by_cases e:((m:Nat):Int)=w.T p
  ·rw [if_pos e]
  ·rw [if_neg e]
   refine At3 h fun i hi=>?_
   have h2:=hj i
   rw [eT] at h2
   split at h2
   ·rename_i e2;subst e2;exact e hi.symm
   ·split at h2
    ·rename_i e2;subst e2;omega
    ·exact h2 hi
 ·dsimp only
  rw [z8,if_neg (by omega),AD4 h.ndD,AW8 h hm];split<;>rfl
 ·dsimp only
  rw [z8,eF]
  by_cases e:g=f
  ·subst e
   rw [if_pos rfl]
   by_cases e2:j=p
   ·subst e2;rw [if_pos rfl];simp
   ·rw [if_neg e2]
    constructor
    ·intro h;exact absurd (Option.some.inj h) (by omega)
    ·intro h2
     split at h2
     ·omega
     ·rename_i e3;exact absurd h2 (hfn j e3)
  ·rw [if_neg (by omega),AD4 h.ndH,if_neg (by omega),gH_n h]
   by_cases e2:j=p
   ·subst e2;rw [if_pos rfl,hFp];exact ⟨fun h=>by omega,fun h=>by omega⟩
   ·rw [if_neg e2]
    by_cases e3:j=v
    ·subst e3;rw [if_pos rfl,hv];exact ⟨fun h=>by omega,fun h=>by omega⟩
    ·rw [if_neg e3]
 ·dsimp only
  rw [z8,if_neg (by omega),AD4 h.ndH,Ah1 h hg'];split<;>rfl
 ·dsimp only at hj
  rw [z8] at hj
  split at hj
  ·cases hj;omega
  ·rw [AD4 h.ndH] at hj
   split at hj
   ·cases hj
   ·exact gH_ge h hj
theorem wok_out (hg:D7 w) (h:WOk w t) {p f k:Nat} (hv:w.F p=(f:Nat)) (hk:¬ w.heldT k):WOk (w.put p k) ⟨mpI t.W (p:Nat) (-1,(k:Nat),w.Z p),mpI t.D (k:Nat) (w.s.B f),mdI t.H (f:Nat)⟩:=by
 have hTp:w.T p = -1:=(AU9 hg p).resolve_right fun h=>by rw [h.1] at hv;omega
 have hpl:p < w.pg:=AC8 hg (by omega)
 have hkn:∀ j,w.T j ≠ (k:Nat):=fun j e=>hk ⟨j,AM0 hg (by omega),e⟩
 have hft:(w.F p).toNat=f:=by rw [hv,Int.toNat_natCast]
 have eF:∀ j,(w.put p k).F j=if j=p then -1 else w.F j:=fun j=>rfl
 have eT:∀ j,(w.put p k).T j=if j=p then ((k:Nat):Int) else w.T j:=fun j=>rfl
 have eZ:∀ j,(w.put p k).Z j=w.Z j:=fun j=>rfl
 have eD:∀ j,(w.put p k).D j=if j=k then w.s.B f else w.D j:=fun j=>by
  show AD7 w.D k (w.s.B (w.F p).toNat) j=_
  rw [hft];rfl
 have hpg:(w.put p k).pg=w.pg:=rfl
 have eis:∀ j,(w.put p k).is j ↔ (j=p∨w.is j):=fun j=>by
  unfold Sw.is
  rw [eF,eT]
  by_cases e1:j=p
  ·rw [if_pos e1,if_pos e1];exact ⟨fun _=>.inl e1,fun _=>.inr (by omega)⟩
  ·rw [if_neg e1,if_neg e1]
   exact ⟨fun h=>.inr h,fun h=>h.elim (fun h=>absurd h e1) id⟩
 generalize w.put p k=w' at *
 refine Ao6 (Ab4 h.ndW) (Ab4 h.ndD) (Ay6 h.ndH) (fun j hj=>?_) (fun j=>?_) (fun j hj=>?_) (fun m=>⟨fun j hj=>?_,fun hj=>?_⟩) (fun m hm=>?_) (fun g j=>?_) (fun g hg'=>?_) (fun g j hj=>?_)
 ·rw [eT,if_neg (by omega)];exact (hg.far j (by omega)).2
 ·dsimp only
  rw [z8,gW_n h,eF,eT,eZ]
  by_cases e1:j=p
  ·subst e1;rw [if_pos rfl,if_pos rfl,if_pos rfl,if_pos ((eis j).2 (.inl rfl))]
  ·rw [if_neg (by omega),if_neg e1,if_neg e1]
   by_cases hi:w.is j
   ·rw [if_pos hi,if_pos ((eis j).2 (.inr hi))]
   ·rw [if_neg hi,if_neg fun h2=>((eis j).1 h2).elim e1 hi]
 ·dsimp only
  rw [z8,if_neg (by omega),At2 h hj]
 ·rw [eT] at hj
  dsimp only
  rw [z8,eD]
  by_cases e:m=k
  ·subst e;rw [if_pos rfl,if_pos rfl]
  ·rw [if_neg (by omega),if_neg e]
   split at hj
   ·omega
   ·exact AN4 hg h hj
 ·dsimp only
  have hne:m ≠ k:=fun e=>by
   have:=hj p
   rw [eT,if_pos rfl] at this
   exact this (by omega)
  rw [z8,if_neg (by omega)]
  refine At3 h fun i hi=>?_
  have h2:=hj i
  rw [eT] at h2
  split at h2
  ·rename_i e2;subst e2;omega
  ·exact h2 hi
 ·dsimp only
  rw [z8,if_neg (by omega),AW8 h hm]
 ·dsimp only
  rw [AD4 h.ndH,eF]
  by_cases e:g=f
  ·subst e
   rw [if_pos rfl]
   constructor
   ·intro h;cases h
   ·intro h2
    split at h2
    ·omega
    ·rename_i e3;exact absurd (hg.oneF j p (by omega) (by omega)) e3
  ·rw [if_neg (by omega),gH_n h]
   by_cases e2:j=p
   ·subst e2;rw [if_pos rfl,hv];exact ⟨fun h=>by omega,fun h=>by omega⟩
   ·rw [if_neg e2]
 ·dsimp only
  rw [AD4 h.ndH,Ah1 h hg'];split<;>rfl
 ·dsimp only at hj
  rw [AD4 h.ndH] at hj
  split at hj
  ·cases hj
  ·exact gH_ge h hj
theorem wok_fre (hg:D7 w) (h:WOk w t) {p:Nat} (hi:w.is p):WOk { w with F:=E9 w.F p (-1),T:=E9 w.T p (-1),Z:=E9 w.Z p 0 } ⟨mdI t.W (p:Nat),mdI t.D (w.T p),mdI t.H (w.F p)⟩:=by
 have eF:∀ j,({ w with F:=E9 w.F p (-1),T:=E9 w.T p (-1),Z:=E9 w.Z p 0 }:Sw).F j=if j=p then -1 else w.F j:=fun j=>rfl
 have eT:∀ j,({ w with F:=E9 w.F p (-1),T:=E9 w.T p (-1),Z:=E9 w.Z p 0 }:Sw).T j=if j=p then -1 else w.T j:=fun j=>rfl
 have eZ:∀ j,j ≠ p→({ w with F:=E9 w.F p (-1),T:=E9 w.T p (-1),Z:=E9 w.Z p 0 }:Sw).Z j=w.Z j:=fun j hj=>if_neg hj
 have eD:∀ j,({ w with F:=E9 w.F p (-1),T:=E9 w.T p (-1),Z:=E9 w.Z p 0 }:Sw).D j=w.D j:=fun j=>rfl
 have hpg:({ w with F:=E9 w.F p (-1),T:=E9 w.T p (-1),Z:=E9 w.Z p 0 }:Sw).pg=w.pg:=rfl
 have eis:∀ j,({ w with F:=E9 w.F p (-1),T:=E9 w.T p (-1),Z:=E9 w.Z p 0 }:Sw).is j ↔ (j ≠ p∧w.is j):=fun j=>by
  unfold Sw.is
  rw [eF,eT]
  by_cases e1:j=p
  ·rw [if_pos e1,if_pos e1];exact ⟨fun h=>by omega,fun h=>absurd e1 h.1⟩
  ·rw [if_neg e1,if_neg e1]
   exact ⟨fun h=>⟨e1,h⟩,fun h=>h.2⟩
 generalize ({ w with F:=E9 w.F p (-1),T:=E9 w.T p (-1),Z:=E9 w.Z p 0 }:Sw)=w' at *
 refine Ao6 (Ay6 h.ndW) (Ay6 h.ndD) (Ay6 h.ndH) (fun j hj=>?_) (fun j=>?_) (fun j hj=>?_) (fun m=>⟨fun j hj=>?_,fun hj=>?_⟩) (fun m hm=>?_) (fun g j=>?_) (fun g hg'=>?_) (fun g j hj=>?_)
 ·rw [eT];split
  ·rfl
  ·exact (hg.far j (by omega)).2
 ·dsimp only
  rw [AD4 h.ndW,gW_n h]
  by_cases e1:j=p
  ·subst e1;rw [if_pos rfl,if_neg fun h2=>((eis j).1 h2).1 rfl]
  ·rw [if_neg (by omega),eF,eT,if_neg e1,if_neg e1,eZ j e1]
   by_cases hi:w.is j
   ·rw [if_pos hi,if_pos ((eis j).2 ⟨e1,hi⟩)]
   ·rw [if_neg hi,if_neg fun h2=>hi ((eis j).1 h2).2]
 ·dsimp only
  rw [AD4 h.ndW,At2 h hj];split<;>rfl
 ·rw [eT] at hj
  dsimp only
  rw [AD4 h.ndD,eD]
  split at hj
  ·omega
  ·rename_i e1
   rw [if_neg fun e2=>e1 (hg.oneT j p (by omega) (by omega)),AN4 hg h hj]
 ·dsimp only
  rw [AD4 h.ndD]
  by_cases e:((m:Nat):Int)=w.T p
  ·rw [if_pos e]
  ·rw [if_neg e]
   refine At3 h fun i hti=>?_
   have h2:=hj i
   rw [eT] at h2
   split at h2
   ·rename_i e2;exact e (by rw [← e2];exact hti.symm)
   ·exact h2 hti
 ·dsimp only
  rw [AD4 h.ndD,AW8 h hm];split<;>rfl
 ·dsimp only
  rw [AD4 h.ndH,eF]
  by_cases e:((g:Nat):Int)=w.F p
  ·rw [if_pos e]
   constructor
   ·intro h;cases h
   ·intro h2
    split at h2
    ·omega
    ·rename_i e3;exact absurd (hg.oneF j p (by omega) (by omega)) e3
  ·rw [if_neg e,gH_n h]
   by_cases e2:j=p
   ·subst e2;rw [if_pos rfl];exact ⟨fun h=>absurd h.symm e,fun h=>by omega⟩
   ·rw [if_neg e2]
 ·dsimp only
  rw [AD4 h.ndH,Ah1 h hg'];split<;>rfl
 ·dsimp only at hj
  rw [AD4 h.ndH] at hj
  split at hj
  ·cases hj
  ·exact gH_ge h hj
end
end Go.Pol
namespace Go.Am
section
variable {P:Program} {G:Gl}
theorem BC5 {a b:At} {rd:List Nat}:∀ {up:Up},(∀ i ∈ rd,b i=a i)→(∀ j o,(j,o) ∈ up→j ∈ rd∧a j=o)→upd b up=b
 | [],_,_=>rfl
 | (i,o)::r,h1,h2=>by
  have ih:=BC5 (up:=r) h1 fun j o h=>h2 j o (List.mem_cons_of_mem _ h)
  funext j
  show (if j=i then o else upd b r j)=b j
  split
  ·rename_i e
   obtain ⟨k1,k2⟩:=h2 i o (List.mem_cons_self ..)
   rw [e,h1 i k1,k2]
  ·rw [ih]
theorem fnU_keep {f:Nat} {args:List AV} {rd:List Nat} {at_:At} {r:AV} {up:Up} {id:Nat} (h:FnU P G f args rd at_ r up id) (hup:∀ j o,(j,o) ∈ up→j ∈ rd∧at_ j=o) (hid:id ∉ rd):FnU P G f args rd at_ r [] id:=by
 refine ⟨h.1,fun c vs hR hG hu hat ha=>(h.2 c vs hR hG hu hat ha).mono ?_⟩
 rintro e w' ⟨v,c',h1,h2,h3,h4,h5,h6,h7⟩
 refine ⟨v,c',h1,h2,h3,h4,h5,?_,fun i=>?_⟩
 ·rw [h6,BC5 hat hup];rfl
 ·rw [h7]
  have : V7 up id=[]:=by
   unfold V7
   rw [if_neg]
   simp only [List.any_eq_true,beq_iff_eq,not_exists,not_and]
   rintro ⟨j,o⟩ hq e
   exact hid (by rw [← show j=id from e];exact (hup j o hq).1)
  rw [this];rfl
theorem BH7 {g:Nat} {avs:List AV} {h:Hp} {K:AV→Up→List Nat→Prop} (hd:AN9 P G g avs h fun r up rd=>(∀ j o,(j,o) ∈ up→j ∈ rd∧lk h.l j=o)∧h.next ∉ rd∧K r [] rd):AN9 P G g avs h K:=by
 obtain ⟨r,up,rd,h1,h2,h3,h4⟩:=hd.out
 exact ⟨r,[],rd,fnU_keep h1 h2 h3,h4⟩
end
end Go.Am
namespace Go.Pol
theorem AM3 {x:Int}:min (x+1) 1000000000=AZ2 x:=by
 unfold AZ2
 split<;>omega
end Go.Pol
namespace Go.Proofs.Ytbhgfoikbkaohaa.Sh
open Go Go.Am Go.Pol
theorem wx_Sxg {p q:Prop} (hq:q) (h:Z7 q→p:=by (intro hQz;((repeat' ((try (conv=>whnf));first|refine sxA ?_|refine Z9 hW rfl ?_|refine AQ7 rfl (q.s.B f) rfl ?_|refine AQ7 rfl ((-1:Int),k,z) rfl ?_|refine BW0 rfl ?_|refine sxF ?_|refine dcx_wk hgt rfl rfl rfl rfl rfl rfl rfl ?_|refine sxH ?_|((with_reducible first|apply U8 hQz|apply U9 hQz)<;>(try intro hsp hQz))|exact hQz.out))<;>(try (conv=>whnf))))):p:=h ⟨hq⟩
section
variable {q:Sw} {t:WS}
theorem dcx_wk {f:Nat} {avs:List AV} {o w d m s:Nat} {h:Hp} {r:AV} {K:AV→Up→List Nat→Prop} (hc:L8 f avs q t r q t)
  (g0:lk h.l o=some (.cells (stC s w d m q))) (g1:lk h.l w=some (.maps (encW pgE t.W))) (g2:lk h.l d=some (.maps (encW byE t.D))) (g3:lk h.l m=some (.maps (encW nuE t.H))) (g4:lk h.l s=some (.cells q.s.a))
  (hd:Ae5 [o,w,d,m,s]=true) (hnx':[o,w,d,m,s].contains h.next=false)
  (hk:K r [] [o,w,d,m,s]):AN9 Try.prog G0 f (.ptr o 0::avs) h K:=by
 refine BH7 (dcx_w hc g0 g1 g2 g3 g4 hd hnx' ⟨fun j x hx=>?_,fun hm=>by rw [List.contains_eq_mem,decide_eq_false_iff_not] at hnx';exact hnx' hm,hk⟩)
 simp only [List.mem_cons,Prod.mk.injEq,List.not_mem_nil,or_false] at hx ⊢
 rcases hx with ⟨rfl,rfl⟩ | ⟨rfl,rfl⟩ | ⟨rfl,rfl⟩ | ⟨rfl,rfl⟩ | ⟨rfl,rfl⟩
 ·exact ⟨.inl rfl,g0⟩
 ·exact ⟨.inr (.inl rfl),g1⟩
 ·exact ⟨.inr (.inr (.inl rfl)),g2⟩
 ·exact ⟨.inr (.inr (.inr (.inl rfl))),g3⟩
 ·exact ⟨.inr (.inr (.inr (.inr rfl))),g4⟩
theorem w_outM {v f:Nat} {z sl k:Int} (hW:mgI t.W (v:Nat)=some (((f:Nat):Int),sl,z)) (hf:f < 1024) (hk:q.s.K f=2) (hc:0≤q.outs∧q.outs≤1000000000):L8 49 [.int .i64 (v:Nat),.int .i64 k] q t (.tup []) { q with outs:=AZ2 q.outs } ⟨mpI t.W (v:Nat) (-1,k,z),mpI t.D k (q.s.B f),mdI t.H (f:Nat)⟩:=by
 refine L8.mk (H6 F6 b49 rfl ?_) (fun x hx=>by
  simp only [List.mem_cons,List.not_mem_nil,or_false] at hx
  rcases hx with rfl|rfl<;>exact A8) P7
 have hgt:=w_get (t:=t) hf hk
 have hadd:=AM3 (x:=q.outs)
 unfold c49
 unfold stN stC
 (refine wx_Sxg ?_;repeat' (first|with_reducible refine And.intro ?_ ?_|intro hsp))
 all_goals first|(exfalso;omega)|(simp only [hadd];exact J9 (q:={ q with outs:=AZ2 q.outs }) (t:=⟨mpI t.W (v:Nat) (-1,k,z),mpI t.D k (q.s.B f),mdI t.H (f:Nat)⟩) rfl P7 rfl rfl rfl rfl rfl)
end
end Go.Proofs.Ytbhgfoikbkaohaa.Sh
