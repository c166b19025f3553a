/- Parts. -/
import Derived.RangeFuncNested
import Derived.RangeFuncBound
import Derived.OrdersIn
import Derived.OrdersHeld
import Derived.Test.YtokgmjefideioaaGreatDoorVW1
namespace Go.Proofs.YtokgmjefideioaaGreatDoor
open Go.RowKit
set_option linter.unusedVariables false
set_option linter.unusedSimpArgs false
set_option maxRecDepth 100000
set_option maxHeartbeats 16000000
structure Kept (bs n0:Nat) (A B:World):Prop where
 os:B.os=A.os
 tape:B.tape=A.tape
 output:B.output=A.output
 size:A.heap.size<=B.heap.size
 block: ∀k,k<A.heap.size->k≠bs->(k<n0\/ ∃o:Obj,A.heap[k]? =some o/\o.isCells=true)->B.heap[k]? =A.heap[k]?
theorem Kept.of_fr {bs n0:Nat} {A B:World} (h:Fr (fun k=>k=bs) A B):Kept bs n0 A B:=⟨h.os,h.tape,h.output,h.size,fun k hk hn _=>h.block k hk hn⟩
theorem Kept.alloc (bs n0:Nat) (A:World) (o:Obj):Kept bs n0 A (A.alloc o):= .of_fr ((Fr.refl _ A).alloc o)
theorem Kept.putObj {bs n0:Nat} {A:World} {l:Nat} {o:Obj} (o':Obj) (hl:n0<=l) (h:A.heap[l]? =some o) (ho:o.isCells=false):Kept bs n0 A (A.putObj l o'):=by
 have hg:=grownBy_putObj' A l o';refine⟨hg.os,hg.tape,hg.output,hg.size,fun k hk _ hc=>hg.block k hk (fun e=>?_)⟩;simp only[Option.some.injEq]at e;subst e;rcases hc with hc|⟨o2,h2,h3⟩
 ·omega
 ·rw[h]at h2
  cases h2
  rw[ho]at h3
  cases h3
variable {F:Fence} {n:Nat} {P:Program}
def IterBox {α:Type} (F:Fence) (n:Nat) (P:Program) (gf:Nat) (lb:Array Value) (encs:α->Array Value) (bs:Nat) (all:List α) (w:World):Prop:=
 ∀(l:Nat) (J:List α->World->Prop) (W:World),(∀s A B,J s A->Fr (fun k=>k=bs) A B->J s B)->W.heap[bs]? =w.heap[bs]? ->w.heap.size<=W.heap.size->
  (∀pre x W1,J pre W1->(pre++ [x])<+:all->YieldAt F (n-1) P l (encs x) W1 fun e W'=>e= .returned (.bool true)/\J (pre++ [x]) W'/\W'.heap[bs]? =W1.heap[bs]? /\W1.heap.size<=W'.heap.size)->
  J [] W->CallsIn F n P gf (#[.func (.yield l) #[] #[]]++lb) W fun e W'=>(∃v,e= .returned v)/\J all W'
theorem wpIn_rangeFunc_box {α:Type} {g:Operand} {ps:Array Tmp} {assign body:Code} {Q:Exit->Act->World->Prop} {a:Act} {w:World}
  (hro:F.round=none) (h1:1<=n) {gf:Nat} {lb:Array Value} (hg:a.eval g= .func (.func gf) #[] lb) (hFg:F.fn gf) (eg: ∀args w,(callFunc gf args).run P w= .ok (.enter gf args) w)
  {encs:α->Array Value} {bs:Nat} {all:List α} (hbs:bs<w.heap.size) (hseq:IterBox F (n-1) P gf lb encs bs all w) (hps: ∀x,(encs x).size=ps.size)
  (I:List α->World->Prop) (hI: ∀s A B,I s A->Kept bs w.heap.size A B->I s B) (h0:I [] w) (a₁:α->Act)
  (hassign: ∀(l:Nat) (x:α) (W:World) (K:Act->World->Prop),K (a₁ x) W->
   assign.wpIn (F.inRound l) (n-1-1) P (Exit.then K (fun _ _ _=>False)) {tmps:=(ps.zip (encs x)).foldl (fun t (p,v)=>t.setIfInBounds p v) a.tmps,defers:=[]} W)
  (hbody: ∀(l:Nat) (pre:List α) (x:α) (W:World),I pre W->(pre++ [x])<+:all->
   body.wpIn (F.inRound l) (n-1-1) P (fun ex _ W'=>ex= .normal/\KeepsOthers W W'/\W'.heap[bs]? =W.heap[bs]? /\I (pre++ [x]) W') (a₁ x) W)
  (hdone: ∀(D:Nat) (W:World),w.heap.size<=D->I all W->W.heap[D]? =some (.deferred (some []))->Q .normal {a with defers:={target:= .collected D,args:=#[]}::a.defers} W):
  (Code.rangeFunc g ps assign body).wpIn F n P Q a w:=by
 refine wpIn_rangeFunc (fun fn hfn=>?_);rw[hro]
 let rec_ (st:LoopState):Obj:= .loop {state:=st,pending:=none,fn,tmps:=a.tmps,params:=ps,assign,body,defers:=w.heap.size}
 have hz1:(w.alloc (.deferred (some []))).heap.size=w.heap.size+1:=by simp
 have hz2:((w.alloc (.deferred (some []))).alloc (rec_ .ready)).heap.size=w.heap.size+2:=by simp
 have hL0:((w.alloc (.deferred (some []))).alloc (rec_ .ready)).heap[w.heap.size+1]? =some (rec_ .ready):=heap_new_at _ _ hz1.symm;have hD0:((w.alloc (.deferred (some []))).alloc (rec_ .ready)).heap[w.heap.size]? =some (.deferred (some [])):=(alloc_old _ _ _ (by omega)).trans (heap_new_at w _ rfl);have hS0:((w.alloc (.deferred (some []))).alloc (rec_ .ready)).heap[bs]? =w.heap[bs]? :=(alloc_old _ _ _ (by omega)).trans (alloc_old _ _ _ hbs);refine⟨w.heap.size+1,[{target:= .collected w.heap.size,args:=#[]}],(w.alloc (.deferred (some []))).alloc (rec_ .ready),{target:= .fn (.func gf) lb,args:=#[.func (.yield (w.heap.size+1)) #[] #[]]},(w.alloc (.deferred (some []))).alloc (rec_ .ready),gf,
  #[.func (.yield (w.heap.size+1)) #[] #[]]++lb,(w.alloc (.deferred (some []))).alloc (rec_ .ready),run_enterLoop_outer _ _ _ _ _,?_,?_,?_,fun _=>h1,?_⟩
 ·simp only[resolve,hg];simp[go_sem]
 ·intro f' hf';simp[Target.leads]at hf';subst hf';exact hFg
 ·simp[invoke,go_sem,eg]
 ·have hrel:=hseq (w.heap.size+1) (fun pre W=>I pre W/\W.heap[w.heap.size+1]? =some (rec_ .ready)/\W.heap[w.heap.size]? =some (.deferred (some []))) ((w.alloc (.deferred (some []))).alloc (rec_ .ready))
   (fun s A B hs hf=>⟨hI s A B hs.1 (.of_fr hf),hf.heap_at hs.2.1 (by omega),hf.heap_at hs.2.2 (by omega)⟩) hS0 (by omega) ?_ ⟨hI _ _ _ (hI _ _ _ h0 (Kept.alloc _ _ _ _)) (Kept.alloc _ _ _ _),hL0,hD0⟩
  ·refine hrel.mono ?_;rintro e W2 ⟨⟨v,rfl⟩,hi,hl,hk⟩;have hend:=run_endLoop (P:=P) hl (by show LoopState.ready≠_;simp);refine⟨none,_,hend,hdone w.heap.size _ le0 (hI _ _ _ hi (Kept.putObj _ (by omega) hl rfl)) ?_⟩;exact(World.putObj_heap_other (by omega)).trans hk
  ·rintro pre x W ⟨hi,hl,hk⟩ hpre;have hlt:w.heap.size+1<W.heap.size:=(Array.getElem?_eq_some_iff.1 hl).1;refine⟨fn,_,assign,body,run_yield (P:=P) (args:=encs x) hl (hps x),roundIn_of_wpIn hfn (hassign _ x W _ ⟨_,run_beginRound hl rfl,?_⟩)⟩;have hl2:(W.putObj (w.heap.size+1) (rec_ .busy)).heap[w.heap.size+1]? =some (rec_ .busy):=World.putObj_heap_same hlt;have hk2:(W.putObj (w.heap.size+1) (rec_ .busy)).heap[w.heap.size]? =some (.deferred (some [])):=(World.putObj_heap_other (by omega)).trans hk;have hs2:(W.putObj (w.heap.size+1) (rec_ .busy)).heap[bs]? =W.heap[bs]? :=World.putObj_heap_other (by omega);have hz3:(W.putObj (w.heap.size+1) (rec_ .busy)).heap.size=W.heap.size:=by simp
   refine wpIn_mono (hbody _ pre x _ (hI _ _ _ hi (Kept.putObj _ (by omega) hl rfl)) hpre) ?_;rintro e a3 W3 ⟨rfl,hk3,hb3,hi3⟩;have hl3:=hk3.same _ _ hl2 rfl;have hend:=run_endRound (P:=P) none hl3;refine⟨_,_,hend,rfl,⟨hI _ _ _ hi3 (Kept.putObj _ (by omega) hl3 rfl),World.putObj_heap_same (Array.getElem?_eq_some_iff.1 hl3).1,(World.putObj_heap_other (by omega)).trans (hk3.same _ _ hk2 rfl)⟩,?_,?_⟩
   ·exact(World.putObj_heap_other (by omega)).trans (hb3.trans hs2)
   ·exact le1 (Nat.le_of_eq hz3.symm) (le1 hk3.size (grownBy_putObj' W3 (w.heap.size+1) _).size)
theorem oper_round {P:Program} {o:Oper} {a:Act} {w:World} {K:Act->World->Prop} {Q:Exit->Act->World->Prop} {l n:Nat} (hnd: ∀c,o.op≠ .defer c) (h:o.wp P a w K Q):o.wpIn (Fence.wide.inRound l) n P a w K Q:=by
 refine⟨fun _ _=>trivial,?_⟩;show o.uponIn _ _ _ _ _ _ ((o.semAt (some l) a.eval).run P w);rw[Oper.semAt_some l a.eval o hnd];unfold Oper.wp at h;generalize (execOp a.eval o).run P w=r at*;unfold Oper.upon at h;unfold Oper.uponIn;split at h
 ·exact h
 ·exact h
 ·exact h
 ·exact⟨fun h=>absurd h (by simp[Fence.wide]),CallsIn.inRound l (callsIn_wide.2 h)⟩
 ·rename_i row args w';exact⟨fun h=>absurd h (by simp[Fence.wide]),(show RowsIn Fence.wide (n-1) P row args w' _ from fun c cs _=>let ⟨v,w2,r,s⟩:=h c cs;⟨v,w2,r,stepsIn_wide.2 s⟩)⟩
 ·exact h
 ·exact h.elim
def NoDefer (ops:Array Oper):Prop:= ∀(i:Nat) (o:Oper),ops[i]? =some o-> ∀c,o.op≠ .defer c
theorem noDefer_of {l:List Oper} (h: ∀o∈l,∀c,o.op≠ .defer c):NoDefer l.toArray:=fun i o hi=>h o (List.mem_of_getElem? (by simpa using hi))
theorem any_round {P:Program} {md:Region.Mode} {ops:Array Oper} {Q:Exit->Act->World->Prop} {l n:Nat} (hnd:NoDefer ops) (hQ: ¬LetsOut Q):
  ∀(fuel:Nat) (listed:Array Bool) (a:Act) (w:World),wpAny P md ops Q fuel listed a w->wpAnyIn (Fence.wide.inRound l) n P md ops Q fuel listed a w
 |0,_,_,_,h=>h
 |fuel+1,listed,a,w,h=>by
  refine⟨h.1,fun i hi=>?_⟩
  have h2:=h.2 i hi
  unfold wpOp at h2
  unfold wpOpIn
  cases ho:ops[i]? with
  |none=>
   rw[ho]at h2
   exact any_round hnd hQ fuel _ a w h2
  |some o=>
   rw[ho]at h2
   dsimp only at h2⊢
   by_cases hw:Region.wanted o (yielded ops a.tmps)=true
   ·rw[if_pos hw]at h2⊢
    rcases h2 with h2|⟨_,h2⟩
    ·exact Oper.wpIn_mono (fun a w h=>any_round hnd hQ fuel _ a w h) (oper_round (hnd i o ho) h2)
    ·exact absurd h2 hQ
   ·rw[if_neg hw]at h2⊢
    exact⟨fun _ _=>trivial,any_round hnd hQ fuel _ _ w h2⟩
theorem list_round {P:Program} {ops:Array Oper} {Q:Exit->Act->World->Prop} {l n:Nat} (hQ: ¬LetsOut Q):
  ∀(rest:List Oper) (a:Act) (w:World),(∀o∈rest,∀c,o.op≠ .defer c)->wpList P ops Q rest a w->wpListIn (Fence.wide.inRound l) n P ops Q rest a w
 | [],_,_,_,h=>h
 |o::rest,a,w,hnd,h=>by
  unfold wpList at h
  unfold wpListIn
  by_cases hw:Region.wanted o (yielded ops a.tmps)=true
  ·rw[if_pos hw]at h⊢
   rcases h with h|⟨_,h⟩
   ·exact Oper.wpIn_mono (fun a w h=>list_round hQ rest a w (fun o ho=>hnd o (by simp[ho])) h) (oper_round (hnd o (by simp)) h)
   ·exact absurd h hQ
  ·rw[if_neg hw]at h⊢
   exact⟨fun _ _=>trivial,list_round hQ rest _ w (fun o ho=>hnd o (by simp[ho])) h⟩
theorem region_round {P:Program} {id:Nat} {ops:List Oper} {S:World->Prop} {Q:Exit->Act->World->Prop} {a:Act} {w:World} {l n:Nat} (hm:P.follows .mixedOrders=true) (hnd: ∀o∈ops,∀c,o.op≠ .defer c) (hQ: ¬LetsOut Q)
  (hS:S w.drew) (h:S w.drew->wpAnyH P .any ops.toArray Q S ops.toArray.size (Array.replicate ops.toArray.size false) a w.drew):(Code.region id ops.toArray true).wpIn (Fence.wide.inRound l) n P Q a w:=
 wpIn_region_any hm (any_round (noDefer_of hnd) hQ _ _ _ _ (wpAny_of_held _ _ _ _ (h hS)))
theorem plain_round {P:Program} {id:Nat} {ops:List Oper} {Q:Exit->Act->World->Prop} {a:Act} {w:World} {l n:Nat} (hnd: ∀o∈ops,∀c,o.op≠ .defer c) (hQ: ¬LetsOut Q)
  (h:wpList P ops.toArray Q ops a w):(Code.region id ops.toArray false).wpIn (Fence.wide.inRound l) n P Q a w:=
 wpIn_region_lit (list_round hQ ops a w hnd h)
