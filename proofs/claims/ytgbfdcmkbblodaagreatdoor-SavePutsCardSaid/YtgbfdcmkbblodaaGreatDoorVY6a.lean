/- Parts. -/
import Derived.Test.YtgbfdcmkbblodaaGreatDoorVW2
namespace Go.Proofs.YtgbfdcmkbblodaaGreatDoor
open Go.RowKit
set_option linter.unusedVariables false
set_option linter.unusedSimpArgs false
set_option maxRecDepth 100000
set_option maxHeartbeats 16000000
section
variable {P:Program} {md:Region.Mode} {ops:Array Oper} {Q:Exit->Act->World->Prop} {S:World->Prop} {L:Nat}
def waitsOn (md:Region.Mode) (ops:Array Oper) (x i:Nat):Bool:=match ops[x]? with
 |some o=>o.after.any fun e=>Region.binds md e&&e.on==i
 |none=>false
def waitsL (md:Region.Mode) (ops:Array Oper) (listed:Array Bool) (L i:Nat):Bool:=waitsOn md ops L i||(List.range ops.size).any fun d=>!listed.getD d true&&(waitsOn md ops d i&&waitsOn md ops L d)
theorem not_ready {listed:Array Bool} {x i:Nat} (h:waitsOn md ops x i=true) (hi:listed.getD i true=false):x∉Region.ready md ops listed:=by
 intro hx;obtain⟨_,o,ho,hall⟩:=mem_ready.1 hx;simp only[waitsOn,ho,Array.any_eq_true']at h;obtain⟨e,he,hb⟩:=h;simp only[Bool.and_eq_true,beq_iff_eq]at hb;have h1:=hall e he hb.1;rw[hb.2]at h1;rcases Nat.lt_or_ge i listed.size with h'|h'
 ·simp[h']at hi h1;rw[hi]at h1;cases h1
 ·simp[Array.getElem?_eq_none h']at h1
theorem waitsL_not {listed:Array Bool} {i:Nat} (h:waitsL md ops listed L i=true) (hi:listed.getD i true=false):L∉Region.ready md ops listed:=by
 simp only[waitsL,Bool.or_eq_true,List.any_eq_true,Bool.and_eq_true,Bool.not_eq_true']at h;rcases h with h|⟨d,_,h1,_,h3⟩
 ·exact not_ready h hi
 ·exact not_ready h3 h1
theorem waitsL_set {listed:Array Bool} {i j:Nat} (h:waitsL md ops listed L i=true) (hi:listed.getD i true=false) (hj:j∈Region.ready md ops listed):waitsL md ops (listed.setIfInBounds j true) L i=true:=by
 simp only[waitsL,Bool.or_eq_true,List.any_eq_true,Bool.and_eq_true,Bool.not_eq_true']at h⊢;rcases h with h|⟨d,h0,h1,h2,h3⟩
 ·exact .inl h
 ·refine .inr ⟨d,h0,?_,h2,h3⟩;have:j≠d:=by rintro rfl;exact not_ready h2 hi hj
  rw[getD_set_ne true this];exact h1
def wpAnyL (P:Program) (md:Region.Mode) (ops:Array Oper) (Q:Exit->Act->World->Prop) (S:World->Prop) (L:Nat):Nat->Array Bool->Act->World->Prop
 |0,listed,a,w=>Region.ready md ops listed=[]/\Q .normal a w
 |n+1,listed,a,w=>(Region.ready md ops listed=[]->Q .normal a w)/\ ∀j∈Region.ready md ops listed,wpOp P ops Q j (fun a' w'=>(j≠L->S w')/\wpAnyL P md ops Q S L n (listed.setIfInBounds j true) a' w') a w
theorem wpAny_of_L: ∀(n:Nat) (listed:Array Bool) (a:Act) (w:World),wpAnyL P md ops Q S L n listed a w->wpAny P md ops Q n listed a w
 |0,_,_,_,h=>h
 |n+1,_,_,_,h=>⟨h.1,fun j hj=>wpOp_mono (fun a' w' h'=>wpAny_of_L n _ a' w' h'.2) (h.2 j hj)⟩
theorem wpAnyL_take {i:Nat} {oi:Oper} {v:Value} (hi:ops[i]? =some oi) (hsel:Region.noSelect ops=true) (hQ: ∀c a w,Q (.panic c) (a.put oi.dst v) w->Q (.panic c) a w):
  ∀(n:Nat) (listed:Array Bool) (a:Act) (w:World),Region.free md ops listed i=true->waitsL md ops listed L i=true->i∈Region.ready md ops listed->YieldsIf P ops S oi v a->S w->
   wpAnyL P md ops Q S L n (listed.setIfInBounds i true) (a.put oi.dst v) w->wpAnyL P md ops Q S L (n+1) listed a w:=by
 have hns:=Region.noSelect_spec hsel
 suffices H: ∀(n:Nat) (listed:Array Bool) (a:Act) (w:World),(∀j oj,ops[j]? =some oj->j≠i->listed.getD j true=false->(∀e∈oj.after,Region.binds md e=true->e.on≠i)->oi.apart ops oj=true)->
   waitsL md ops listed L i=true->i∈Region.ready md ops listed->YieldsIf P ops S oi v a->S w->wpAnyL P md ops Q S L n (listed.setIfInBounds i true) (a.put oi.dst v) w->wpAnyL P md ops Q S L (n+1) listed a w from
  fun n listed a w hf=>H n listed a w (Region.free_spec hi hf)
 intro n
 induction n with
 |zero=>
  intro listed a w _ _ hr hy hS h;refine⟨fun e=>absurd (e▸hr) (by simp),fun j hj=>?_⟩;rcases Decidable.em (j=i)with rfl|hji
  ·exact hy.wpOp hi hS ⟨fun _=>hS,h⟩
  ·have:=ready_mono hj hji;rw[h.1]at this
   cases this
 |succ n ih=>
  intro listed a w hf hw hr hy hS h;have hun:=(mem_ready.1 hr).1;refine⟨fun e=>absurd (e▸hr) (by simp),fun j hj=>?_⟩;rcases Decidable.em (j=i)with rfl|hji
  ·exact hy.wpOp hi hS ⟨fun _=>hS,h⟩
  have hjL:j≠L:=by rintro rfl;exact waitsL_not hw hun hj
  obtain⟨hju,oj,hoj,_⟩:=mem_ready.1 hj;have hno: ∀e∈oj.after,Region.binds md e=true->e.on≠i:=fun e he hb heq=>not_ready (md:=md) (by
   simp only[waitsOn,hoj,Array.any_eq_true',Bool.and_eq_true,beq_iff_eq]
   exact⟨e,he,hb,heq⟩) hun hj
  refine wpOp_mono (fun a' w' h3=>⟨h3.2.1,ih _ a' w' (fun k ok hk hki hku hn=>hf k ok hk hki ?_ hn) (waitsL_set hw hun hj) (ready_mono hr (Ne.symm hji)) h3.1 (h3.2.1 hjL) ?_⟩)
   (wpOp_putIf hoj (hf j oj hoj hji hju hno) (fun cs b=>hns i oi cs b hi) (fun cs b=>hns j oj cs b hoj) hQ hy (h.2 j (ready_mono hj hji)))
  ·rcases Decidable.em (j=k)with rfl|hjk
   ·exact hju
   ·rw[getD_set_ne true hjk]at hku;exact hku
  ·rw[Array.setIfInBounds_comm _ _ hji];exact h3.2.2
variable {fuel i:Nat} {listed:Array Bool} {a:Act} {w:World} {oi:Oper} {v:Value}
def TwL (P:Program) (md:Region.Mode) (ops:Array Oper) (Q:Exit->Act->World->Prop) (S:World->Prop) (L:Nat) (_ fuel:Nat) (listed:Array Bool) (a:Act) (w:World):Prop:=wpAnyL P md ops Q S L fuel listed a w
def tlOk (md:Region.Mode) (ops:Array Oper) (listed:Array Bool) (L i:Nat):Bool:=tkOk md ops listed i&&waitsL md ops listed L i
def tlNo (md:Region.Mode) (ops:Array Oper) (listed:Array Bool) (L i:Nat):Bool:=decide (i<ops.size)&&!(tlOk md ops listed L i)
theorem tl0 {id:Nat} {a:Act} {w:World} (hm:P.follows .mixedOrders=true) (hS:S w.drew) (h:S w.drew->TwL P .any ops Q S L 0 ops.size (Array.replicate ops.size false) a w.drew):(Code.region id ops true).wp P Q a w:=wp_region_any hm (wpAny_of_L _ _ _ _ (h hS))
theorem tln (_:tlNo md ops listed L i=true) (h:TwL P md ops Q S L (i+1) fuel listed a w):TwL P md ops Q S L i fuel listed a w:=h
theorem tlm (_:decide (i<ops.size)=true) (h:TwL P md ops Q S L (i+1) fuel listed a w):TwL P md ops Q S L i fuel listed a w:=h
theorem tld (hr:Region.ready md ops listed=[]) (h:Q .normal a w):TwL P md ops Q S L i fuel listed a w:=by
 unfold TwL
 cases fuel with
 |zero=>exact⟨hr,h⟩
 |succ n=>exact⟨fun _=>h,by rw[hr];simp⟩
theorem tly (hc:tlOk md ops listed L i=true) (hi:ops[i]? =some oi) (hQ: ∀c a w,Q (.panic c) (a.put oi.dst v) w->Q (.panic c) a w) (hy:YieldsIf P ops S oi v a) (hS:S w)
  (h:TwL P md ops Q S L 0 fuel (listed.setIfInBounds i true) (a.put oi.dst v) w):TwL P md ops Q S L i (fuel+1) listed a w:=by
 simp only[tlOk,tkOk,Bool.and_eq_true]at hc;exact wpAnyL_take hi hc.1.2 hQ fuel listed a w hc.1.1.2 hc.2 (by simpa using hc.1.1.1) hy hS h
theorem tlt (hc:tlOk md ops listed L i=true) (hi:ops[i]? =some oi) (hg:Region.wanted oi (yielded ops a.tmps)=true) (hQ: ∀c a w,Q (.panic c) (a.put oi.dst v) w->Q (.panic c) a w) (hS:S w)
  (hv: ∀w,S w->(execOp a.eval oi).run P w= .ok (.value v) w)
  (h:TwL P md ops Q S L 0 fuel (listed.setIfInBounds i true) (a.put oi.dst v) w):TwL P md ops Q S L i (fuel+1) listed a w:=tly hc hi hQ (.inl ⟨hg,hv⟩) hS h
def BrL (P:Program) (md:Region.Mode) (ops:Array Oper) (Q:Exit->Act->World->Prop) (S:World->Prop) (L i fuel:Nat) (listed:Array Bool) (a:Act) (w:World):Prop:=
 ∀j∈Region.ready md ops listed,i<=j->wpOp P ops Q j (fun a' w'=>(j≠L->S w')/\wpAnyL P md ops Q S L fuel (listed.setIfInBounds j true) a' w') a w
theorem tlb (hr:(Region.ready md ops listed).isEmpty=false) (h:BrL P md ops Q S L 0 fuel listed a w):TwL P md ops Q S L i (fuel+1) listed a w:=
 ⟨fun e=>(by rw[e]at hr;cases hr),fun j hj=>h j hj ze0⟩
theorem bln (hn:(decide (i<ops.size)&&!(Region.ready md ops listed).contains i)=true) (h:BrL P md ops Q S L (i+1) fuel listed a w):BrL P md ops Q S L i fuel listed a w:=fun j hj hij=>by
 simp only[Bool.and_eq_true,Bool.not_eq_true']at hn
 refine h j hj (Nat.lt_of_le_of_ne hij fun e=>?_)
 subst e
 have:=List.contains_iff_mem.2 hj
 rw[this]at hn
 cases hn.2
theorem ble (hn:decide (i<ops.size)=false):BrL P md ops Q S L i fuel listed a w:=fun j hj hij=>by
 have:=of_decide_eq_false hn
 have:=(List.mem_range.1 (List.mem_filter.1 hj).1)
 omega
theorem blc (hi:ops[i]? =some oi)
  (h: ∀K':Act->World->Prop,Shut (∀a w,(i≠L->S w)->((i≠L->S w)->TwL P md ops Q S L 0 fuel (listed.setIfInBounds i true) a w)->K' a w)->if Region.wanted oi (yielded ops a.tmps)=true then Oper.wp P oi a w K' Q else K' (a.put oi.dst undef) w)
  (hs:BrL P md ops Q S L (i+1) fuel listed a w):BrL P md ops Q S L i fuel listed a w:=fun j hj hij=>by
 rcases Nat.lt_or_ge i j with h'|h'
 ·exact hs j hj h'
 ·obtain rfl:i=j:=by omega
  exact wpOp_step hi (fun K' hK=>h K' (fun a w hS hW=>hK a w ⟨hS,hW hS⟩))
end
