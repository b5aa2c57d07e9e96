/-
 The document's answer: find,count,view,Find,Count,Where.
 The document's answer: a view is put in,or taken out.
 The document's answer: Map,Unmap,Protect,Split.
 The document's answer: Fork.
-/
import Derived.Test.YtphggldkligldaaYo
set_option linter.unusedSimpArgs false
set_option linter.unusedVariables false
namespace Go.Proofs.Ytphggldkligldaa.Sh
open Go Go.Am Go.Pol
def cntI (L:List Vw) (f:Int):Nat:=(L.filter fun v=>decide ((v.2.2.1:Int)=f)).length
section
variable {L A B:List Vw} {v:Vw}
end
end Go.Proofs.Ytphggldkligldaa.Sh
namespace Go.Am
section
variable {P:Program} {l:List (Nat × AObj)} {nx sz bytes d n m:Nat} {x:AV} {cs src:List AV} {rd:List Nat} {k:AV→Up→List Nat→Prop}
end
end Go.Am
namespace Go.Proofs.Ytphggldkligldaa.Sh
open Go Go.Am Go.Pol
section
variable {L X Y:List Vw} {v:Vw}
end
end Go.Proofs.Ytphggldkligldaa.Sh
namespace Go.Pol
open Go.Am
def prV (b:Bool) (v:Vw):Vw:=(v.1,v.2.1,v.2.2.1,b)
end Go.Pol
namespace Go.Proofs.Ytphggldkligldaa.Sh
open Go Go.Am Go.Pol
section
variable {L A B:List Vw} {v:Vw}
end
end Go.Proofs.Ytphggldkligldaa.Sh
namespace Go.Pol
open Go.Am
def wnV (a:Nat) (v:Vw):Vw:=(v.1,v.2.1,v.2.2.1,v.2.2.2 && !decide (v.1=a))
def putL (b:Nat) (M:List Vw):List Vw→List Vw
 | []=>M
 | u::O=>putL b (insV (cpV b u) M) O
theorem putL_mem (b:Nat) (M:List Vw):∀ (O:List Vw) (v:Vw),v ∈ putL b M O ↔ v ∈ M∨∃ u,u ∈ O∧v=cpV b u:=by
 intro O
 induction O generalizing M with
 | nil=>intro v;exact ⟨.inl,fun h=>h.elim id fun ⟨u,hu,_⟩=>by cases hu⟩
 | cons w O ih =>
  intro v
  rw [show putL b M (w::O)=putL b (insV (cpV b w) M) O from rfl,ih,mem_ins]
  constructor
  ·rintro ((h|h) | ⟨u,h1,h2⟩)
   ·exact .inr ⟨w,List.mem_cons_self ..,h⟩
   ·exact .inl h
   ·exact .inr ⟨u,List.mem_cons_of_mem _ h1,h2⟩
  ·rintro (h | ⟨u,h1,h2⟩)
   ·exact .inl (.inr h)
   ·rcases List.mem_cons.1 h1 with rfl|h1
    ·exact .inl (.inl h2)
    ·exact .inr ⟨u,h1,h2⟩
theorem putL_srt (b:Nat):∀ (O M:List Vw),srt M→(∀ u ∈ O,∀ w ∈ M,¬ atV (b,u.2.1) w)→(O.map (·.2.1)).Nodup→srt (putL b M O):=by
 intro O
 induction O with
 | nil=>intro M h _ _;exact h
 | cons w O ih =>
  intro M h h2 h3
  rw [List.map_cons,List.nodup_cons] at h3
  refine ih _ (srt_ins h (h2 w (List.mem_cons_self ..))) (fun u hu x hx=>?_) h3.2
  rcases mem_ins.1 hx with rfl|hx
  ·intro ha;exact h3.1 (List.mem_map.2 ⟨u,hu,ha.2.symm⟩)
  ·exact h2 u (List.mem_cons_of_mem _ hu) x hx
theorem wnV_eq (a:Nat) (v:Vw):(v.1 ≠ a→wnV a v=v)∧(v.1=a→wnV a v=roV v):=by
 obtain ⟨v1,v2,v3,v4⟩:=v
 unfold wnV roV
 exact ⟨fun h=>by have : decide (v1=a)=false:=decide_eq_false h;dsimp only;rw [this];simp,fun h=>by have : decide (v1=a)=true:=decide_eq_true h;dsimp only;rw [this];simp⟩
theorem fork_same {L M:List Vw} {a b:Nat} (hL:srt L) (hM:srt M) (hb:ofA b L=[]) (h:Frk L (ofA a L) b (ofA a L).length M):M=putL b (L.map (wnV a)) (ofA a L):=by
 have hm:∀ v,v ∈ M ↔ (v ∈ L∧v ∉ ofA a L)∨∃ u,u ∈ ofA a L∧(v=roV u∨v=cpV b u):=fun v=>by rw [h.mem,List.take_length]
 have hnb:∀ v ∈ L,v.1 ≠ b:=fun v hv e=>by
  have : v ∈ ofA b L:=mem_ofA.2 ⟨hv,e⟩
  rw [hb] at this;cases this
 have hO:srt (ofA a L):=hL.sublist List.filter_sublist
 have hOa:∀ u ∈ ofA a L,u.1=a:=fun u hu=>(mem_ofA.1 hu).2
 have hs1:srt (L.map (wnV a)):=List.Pairwise.map _ (fun u v hb=>by unfold bef wnV at *;exact hb) hL
 have hnd:((ofA a L).map (·.2.1)).Nodup:=by
  refine List.Pairwise.map _ (R:=fun u v=>bef u v∧u.1=v.1) (fun u v huv=>by obtain ⟨hb,he⟩:=huv;unfold bef at hb;show u.2.1 ≠ v.2.1;omega) ?_
  exact List.Pairwise.imp_of_mem (R:=bef) (fun {u v} hu hv hb=>⟨hb,by rw [hOa u hu,hOa v hv]⟩) hO
 refine srt_ext hM (putL_srt b _ _ hs1 (fun u hu w hw=>?_) hnd) fun v=>?_
 ·obtain ⟨x,hx,rfl⟩:=List.mem_map.1 hw
  intro ha;exact hnb x hx ha.1
 ·rw [hm,putL_mem,List.mem_map]
  constructor
  ·rintro (⟨h1,h2⟩ | ⟨u,h1,h2|h2⟩)
   ·exact .inl ⟨v,h1,(wnV_eq a v).1 fun e=>h2 (mem_ofA.2 ⟨h1,e⟩)⟩
   ·exact .inl ⟨u,(mem_ofA.1 h1).1,by rw [(wnV_eq a u).2 (hOa u h1),h2]⟩
   ·exact .inr ⟨u,h1,h2⟩
  ·rintro (⟨u,h1,rfl⟩ | ⟨u,h1,h2⟩)
   ·by_cases hu:u.1=a
    ·exact .inr ⟨u,mem_ofA.2 ⟨h1,hu⟩,.inl ((wnV_eq a u).2 hu)⟩
    ·rw [(wnV_eq a u).1 hu];exact .inl ⟨h1,fun h2=>hu (mem_ofA.1 h2).2⟩
   ·exact .inr ⟨u,h1,.inr h2⟩
end Go.Pol
namespace Go.Proofs.Ytphggldkligldaa.Sh
open Go Go.Am Go.Pol
section
variable {L A B:List Vw} {v:Vw}
end
end Go.Proofs.Ytphggldkligldaa.Sh
