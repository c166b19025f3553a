/- Parts. -/
import Derived.Deep.RegionHeld
import Derived.Test.YtgbfdcmkbblodaaGreatDoorVW1
namespace Go.Proofs.YtgbfdcmkbblodaaGreatDoor
open Go.RowKit
set_option linter.unusedVariables false
set_option linter.unusedSimpArgs false
set_option maxRecDepth 100000
set_option maxHeartbeats 16000000
theorem tkA {α:Type _} {xs:List α} {i:Nat} (h:i<xs.toArray.size):xs.toArray[i]=xs[i]'(by simpa using h):=List.getElem_toArray h
theorem tkB {α:Type _} (a:α) (l:List α) (h:0<(a::l).length):(a::l)[0]=a:=rfl
theorem tkC {α:Type _} (a:α) (l:List α) (i:Nat) (h:i+1<(a::l).length):(a::l)[i+1]=l[i]'(Nat.lt_of_succ_lt_succ h):=rfl
theorem tkD {α:Type _} (l:List α) (i:Nat) (a:α):l.toArray.setIfInBounds i a=(l.set i a).toArray:=List.setIfInBounds_toArray l i a
theorem tkE {α:Type _} {x:α} {xs:List α} {a:α}:(x::xs).set 0 a=a::xs:=rfl
theorem tkF {α:Type _} {x:α} {xs:List α} {i:Nat} {a:α}:(x::xs).set (i+1) a=x::xs.set i a:=rfl
def opTag (o:Oper):Nat:=match o.op with
 | .load .. =>1
 | .store .. =>2
 | .call {callee:= .builtin ..,..}=>3
 | .call _=>4
 | .alloc .. | .box .. | .build .. | .buildSlice .. =>5
 |_=>0
theorem opIs {P:Program} {op:Oper} {a:Act} {w:World} {K:Act->World->Prop} {Q:Exit->Act->World->Prop} {E:Prop} {y:Nat->Option Bool} (t:Nat) (_:opTag op=t) (h:if Region.wanted op y=true then Oper.wp P op a w K Q else E):if Region.wanted op y=true then Oper.wp P op a w K Q else E:=h
theorem opD {P:Program} {op:Oper} {a:Act} {w:World} {K:Act->World->Prop} {Q:Exit->Act->World->Prop} {E:Prop} {y:Nat->Option Bool} (t:Tmp) (_:op.dst=some t) (h:if Region.wanted op y=true then Oper.wp P op a w K Q else E):if Region.wanted op y=true then Oper.wp P op a w K Q else E:=h
section
variable {P:Program} {md:Region.Mode} {ops:Array Oper} {Q:Exit->Act->World->Prop} {S:World->Prop} {fuel i:Nat} {listed:Array Bool} {a:Act} {w:World} {oi:Oper} {v:Value}
def TwAt (P:Program) (md:Region.Mode) (ops:Array Oper) (Q:Exit->Act->World->Prop) (S:World->Prop) (_ fuel:Nat) (listed:Array Bool) (a:Act) (w:World):Prop:=wpAnyH P md ops Q S fuel listed a w
def tkOk (md:Region.Mode) (ops:Array Oper) (listed:Array Bool) (i:Nat):Bool:=(Region.ready md ops listed).contains i&&Region.free md ops listed i&&Region.noSelect ops
def tkNo (md:Region.Mode) (ops:Array Oper) (listed:Array Bool) (i:Nat):Bool:=decide (i<ops.size)&&!(tkOk md ops listed i)
theorem tk0 (h:TwAt P md ops Q S 0 fuel listed a w):wpAnyH P md ops Q S fuel listed a w:=h
theorem tkn (_:tkNo md ops listed i=true) (h:TwAt P md ops Q S (i+1) fuel listed a w):TwAt P md ops Q S i fuel listed a w:=h
theorem tkm (_:decide (i<ops.size)=true) (h:TwAt P md ops Q S (i+1) fuel listed a w):TwAt P md ops Q S i fuel listed a w:=h
theorem tkd (hr:Region.ready md ops listed=[]) (h:Q .normal a w):TwAt P md ops Q S i fuel listed a w:=wpAnyH_done hr h fuel
theorem tky (hc:tkOk md ops listed i=true) (hi:ops[i]? =some oi) (hQ: ∀c a w,Q (.panic c) (a.put oi.dst v) w->Q (.panic c) a w) (hy:YieldsIf P ops S oi v a) (hS:S w)
  (h:TwAt P md ops Q S 0 fuel (listed.setIfInBounds i true) (a.put oi.dst v) w):TwAt P md ops Q S i (fuel+1) listed a w:=by
 simp only[tkOk,Bool.and_eq_true]at hc;exact wpAnyH_take hi hc.2 hc.1.2 hc.1.1 hQ hy hS h
theorem tks (hc:tkOk md ops listed i=true) (hi:ops[i]? =some oi) (hg:Region.wanted oi (yielded ops a.tmps)=false) (hQ: ∀c a w,Q (.panic c) (a.put oi.dst undef) w->Q (.panic c) a w) (hS:S w)
  (h:TwAt P md ops Q S 0 fuel (listed.setIfInBounds i true) (a.put oi.dst undef) w):TwAt P md ops Q S i (fuel+1) listed a w:=tky hc hi hQ (.inr ⟨hg,rfl⟩) hS h
theorem tkt (hc:tkOk md ops listed i=true) (hi:ops[i]? =some oi) (hg:Region.wanted oi (yielded ops a.tmps)=true) (hQ: ∀c a w,Q (.panic c) (a.put oi.dst v) w->Q (.panic c) a w) (hS:S w)
  (hv: ∀w,S w->(execOp a.eval oi).run P w= .ok (.value v) w)
  (h:TwAt P md ops Q S 0 fuel (listed.setIfInBounds i true) (a.put oi.dst v) w):TwAt P md ops Q S i (fuel+1) listed a w:=tky hc hi hQ (.inl ⟨hg,hv⟩) hS h
def BrAt (P:Program) (md:Region.Mode) (ops:Array Oper) (Q:Exit->Act->World->Prop) (S:World->Prop) (i fuel:Nat) (listed:Array Bool) (a:Act) (w:World):Prop:=
 ∀j∈Region.ready md ops listed,i<=j->wpOp P ops Q j (fun a' w'=>S w'/\wpAnyH P md ops Q S fuel (listed.setIfInBounds j true) a' w') a w
theorem tkb (hr:(Region.ready md ops listed).isEmpty=false) (h:BrAt P md ops Q S 0 fuel listed a w):TwAt P md ops Q S i (fuel+1) listed a w:=
 wpAnyH_ready (rs:=Region.ready md ops listed) rfl (fun e=>by rw[e]at hr;cases hr) (fun j hj=>h j hj ze0)
theorem brn (hn:(decide (i<ops.size)&&!(Region.ready md ops listed).contains i)=true) (h:BrAt P md ops Q S (i+1) fuel listed a w):BrAt P md ops Q S i fuel listed a w:=fun j hj hij=>by
 simp only[Bool.and_eq_true,Bool.not_eq_true']at hn
 refine h j hj (Nat.lt_of_le_of_ne hij fun e=>?_)
 subst e
 have:=List.contains_iff_mem.2 hj
 rw[this]at hn
 cases hn.2
theorem bre (hn:decide (i<ops.size)=false):BrAt P md ops Q S i fuel listed a w:=fun j hj hij=>by
 have:=of_decide_eq_false hn
 have:=(List.mem_range.1 (List.mem_filter.1 hj).1)
 omega
theorem brc (hi:ops[i]? =some oi)
  (h: ∀K':Act->World->Prop,Shut (∀a w,S w->(S w->TwAt P md ops Q S 0 fuel (listed.setIfInBounds i true) a w)->K' a w)->if Region.wanted oi (yielded ops a.tmps)=true then Oper.wp P oi a w K' Q else K' (a.put oi.dst undef) w)
  (hs:BrAt P md ops Q S (i+1) fuel listed a w):BrAt P md ops Q S i fuel listed a w:=fun j hj hij=>by
 rcases Nat.lt_or_ge i j with h'|h'
 ·exact hs j hj h'
 ·obtain rfl:i=j:=by omega
  exact wpOp_step hi (fun K' hK=>h K' (fun a w hS hW=>hK a w ⟨hS,hW hS⟩))
theorem tkN (h:TwAt P md ops Q S (i+1) fuel listed a w) (_:tkNo md ops listed i=true:=by decide+kernel):TwAt P md ops Q S i fuel listed a w:=h
theorem tkX (h:TwAt P md ops Q S 0 fuel (listed.setIfInBounds i true) (a.put oi.dst undef) w) (hc:tkOk md ops listed i=true:=by decide+kernel) (hi:ops[i]? =some oi:=by rfl) (hg:Region.wanted oi (yielded ops a.tmps)=false:=by rfl)
  (hQ: ∀c a w,Q (.panic c) (a.put oi.dst undef) w->Q (.panic c) a w:=by exact fun _ _ _ h=>h) (hS:S w:=by assumption):TwAt P md ops Q S i (fuel+1) listed a w:=tks hc hi hg hQ hS h
theorem tkY (hv: ∀w,S w->(execOp a.eval oi).run P w= .ok (.value v) w) (h:TwAt P md ops Q S 0 fuel (listed.setIfInBounds i true) (a.put oi.dst v) w) (hc:tkOk md ops listed i=true:=by decide+kernel) (hi:ops[i]? =some oi:=by rfl)
  (hg:Region.wanted oi (yielded ops a.tmps)=true:=by rfl) (hQ: ∀c a w,Q (.panic c) (a.put oi.dst v) w->Q (.panic c) a w:=by exact fun _ _ _ h=>h) (hS:S w:=by assumption):TwAt P md ops Q S i (fuel+1) listed a w:=tkt hc hi hg hQ hS hv h
theorem tkM (h:TwAt P md ops Q S (i+1) fuel listed a w) (_:decide (i<ops.size)=true:=by decide+kernel):TwAt P md ops Q S i fuel listed a w:=h
theorem tkZ (h:Q .normal a w) (hr:Region.ready md ops listed=[]:=by decide+kernel):TwAt P md ops Q S i fuel listed a w:=tkd hr h
theorem tkB1 (h:BrAt P md ops Q S 0 fuel listed a w) (hr:(Region.ready md ops listed).isEmpty=false:=by decide+kernel):TwAt P md ops Q S i (fuel+1) listed a w:=tkb hr h
theorem brN (h:BrAt P md ops Q S (i+1) fuel listed a w) (hn:(decide (i<ops.size)&&!(Region.ready md ops listed).contains i)=true:=by decide+kernel):BrAt P md ops Q S i fuel listed a w:=brn hn h
theorem brE (hn:decide (i<ops.size)=false:=by decide+kernel):BrAt P md ops Q S i fuel listed a w:=bre hn
end
def entsI (K:IntKind) (kv:List (Int×Value)):List (Value×Value):=kv.map fun p=>(Value.int K p.1,p.2)
def kvs (es:List MapEntry):List (Value×Value):=es.map fun e=>(e.key,e.val)
def MapI (w:World) (K:IntKind) (b:Nat) (kv:List (Int×Value)):Prop:=
 ∃es clock,w.heap[b]? =some (.map es clock)/\kvs es.toList=entsI K kv/\(es.toList.map (·.born)).Nodup/\ ∀e∈es.toList,e.born<clock
def findI (r:Int):List (Int×Value)->Nat->Option (Nat×Value)
 | [],_=>none
 |p::l,i=>if r=p.1 then some (i,p.2)else findI r l (i+1)
def getI (r:Int) (l:List (Int×Value)):Option Value:=(findI r l 0).map (·.2)
theorem findI_none (r:Int): ∀(l:List (Int×Value)) (i:Nat),findI r l i=none↔ ∀p∈l,p.1≠r
 | [],i=>by simp[findI]
 |p::l,i=>by
  unfold findI
  by_cases h:r=p.1
  ·rw[if_pos h]
   refine⟨fun e=>by simp at e,fun e=>absurd h.symm (e p (by simp))⟩
  ·rw[if_neg h,findI_none r l (i+1)]
   refine⟨fun e q hq=>?_,fun e q hq=>e q (by simp[hq])⟩
   rcases List.mem_cons.1 hq with rfl|hq
   ·exact Ne.symm h
   ·exact e q hq
theorem findI_some (r:Int) (v:Value): ∀(l:List (Int×Value)) (i:Nat),(∀p∈l,p.1=r->p.2=v)->(∃p∈l,p.1=r)-> ∃j,findI r l i=some (j,v)
 | [],i,_,h=>by obtain⟨p,hp,_⟩:=h;simp at hp
 |p::l,i,hu,h=>by
  unfold findI
  by_cases e:r=p.1
  ·rw[if_pos e]
   exact⟨i,by rw[hu p (by simp) e.symm]⟩
  ·rw[if_neg e]
   refine findI_some r v l (i+1) (fun q hq=>hu q (by simp[hq])) ?_
   obtain⟨q,hq,hr⟩:=h
   rcases List.mem_cons.1 hq with rfl|hq
   ·exact absurd hr.symm e
   ·exact⟨q,hq,hr⟩
namespace MapI
variable {w w':World} {K:IntKind} {b:Nat} {kv:List (Int×Value)}
theorem lt (h:MapI w K b kv):b<w.heap.size:=by obtain⟨es,clock,h,_⟩:=h;exact(Array.getElem?_eq_some_iff.1 h).1
theorem same (h:MapI w K b kv) (hk:w'.heap[b]? =w.heap[b]?):MapI w' K b kv:=by obtain⟨es,clock,h1,h2⟩:=h;exact⟨es,clock,hk.trans h1,h2⟩
theorem alloc (h:MapI w K b kv) (o:Obj):MapI (w.alloc o) K b kv:=h.same (alloc_old w o b h.lt)
theorem new (w:World) (K:IntKind):MapI (w.alloc (.map #[] 0)) K w.heap.size []:=⟨#[],0,heap_alloc_new w _,rfl,by simp,by simp⟩
end MapI
section
variable {P:Program} {K:IntKind} {t k e:TypeId} {w:World} {b:Nat} {kv:List (Int×Value)}
theorem findNowI (r:Int): ∀(kv:List (Int×Value)) (es:List MapEntry) (i:Nat),kvs es=entsI K kv->Instr.findNow (.int K) (.int K r) es i=some (findI r kv i)
 | [],[],i,_=>rfl
 | [],_::_,i,h=>by simp[kvs,entsI]at h
 |_::_,[],i,h=>by simp[kvs,entsI]at h
 |p::kv,e::es,i,h=>by
  simp only[kvs,entsI,List.map_cons,List.cons.injEq,Prod.mk.injEq]at h
  obtain⟨⟨h1,h2⟩,h3⟩:=h
  have ih:=findNowI r kv es (i+1) h3
  unfold Instr.findNow findI Instr.sameNow
  rw[h1,h2]
  by_cases hr:r=p.1
  ·simp[hr]
  ·have e0:(r==p.1)=false:=bq0.2 hr
   simp[e0,hr,ih]
theorem findKeyI (hk:P.underlying k=some (.int K)) (r:Int) (es:List MapEntry) (h:kvs es=entsI K kv):(Instr.findKey k (.int K r) es).run P w= .ok (findI r kv 0) w:=by
 unfold Instr.findKey;simp[run_underlying hk,findNowI r kv es 0 h,Result.andThen]
theorem checkKeyI (hk:P.underlying k=some (.int K)) (m:Bool) (r:Int):(Instr.checkKey m 10000 k (.int K r)).run P w= .ok () w:=by
 unfold Instr.checkKey;simp[run_underlying hk,Result.andThen]
theorem lookupI (ht:P.underlying t=some (.map k e)) (hk:P.underlying k=some (.int K)) (h:MapI w K b kv) (r:Int) (z:Value) (hz:(zeroValue e).run P w= .ok z w):
  (Instr.lookup t (.map (some b)) (.int K r) true).run P w= .ok (.tuple #[(getI r kv).getD z,.bool (getI r kv).isSome]) w:=by
 obtain⟨es,clock,h1,h2,_⟩:=h;unfold Instr.lookup getI
 cases hf:findI r kv 0 with
 |none=>simp[run_underlying ht,MapKept.run_getObj_map h1,checkKeyI hk,findKeyI hk r _ h2,hf,hz,Result.andThen]
 |some p=>simp[run_underlying ht,MapKept.run_getObj_map h1,checkKeyI hk,findKeyI hk r _ h2,hf,Result.andThen]
theorem insertI (ht:P.underlying t=some (.map k e)) (hk:P.underlying k=some (.int K)) (h:MapI w K b kv) (r:Int) (x:Value) (hnew:getI r kv=none):
  ∃w',(Instr.mapUpdate t (.map (some b)) (.int K r) x).run P w= .ok () w'/\MapI w' K b (kv++ [(r,x)])/\Fr (fun i=>i=b) w w'/\w'.heap.size=w.heap.size:=by
 have hlt:=h.lt;obtain⟨es,clock,h1,h2,h3,h4⟩:=h;have hn:findI r kv 0=none:=by
  unfold getI at hnew
  cases hf:findI r kv 0 with
  |none=>rfl
  |some p=>rw[hf]at hnew;simp at hnew
 refine⟨ChangeMaps.setBlock w b (.map (es.push ⟨.int K r,x,clock⟩) (clock+1)),?_,⟨es.push ⟨.int K r,x,clock⟩,clock+1,by simp[ChangeMaps.setBlock,hlt],?_,?_,?_⟩,⟨rfl,rfl,rfl,by simp[ChangeMaps.setBlock],fun i hi hs=>?_⟩,by simp[ChangeMaps.setBlock]⟩
 ·unfold Instr.mapUpdate;simp[run_underlying ht,MapKept.run_getObj_map h1,checkKeyI hk,findKeyI hk r _ h2,hn,MapKept.run_setObj_map _ h1,Result.andThen,ChangeMaps.setBlock]
 ·simp only[kvs,entsI,Array.toList_push,List.map_append,List.map_cons,List.map_nil]at h2⊢;rw[h2]
 ·rw[Array.toList_push,List.map_append];refine List.nodup_append.2 ⟨h3,by simp,fun a ha c hc=>?_⟩;obtain⟨y,hy,rfl⟩:=List.mem_map.1 ha;have:=h4 y hy;simp only[List.map_cons,List.map_nil,List.mem_singleton]at hc;omega
 ·intro y hy;rw[Array.toList_push]at hy;rcases List.mem_append.1 hy with hy|hy
  ·have:=h4 y hy;omega
  ·rw[List.mem_singleton.1 hy];exact Nat.lt_succ_self _
 ·simp[ChangeMaps.setBlock,Ne.symm hs]
def RgI (w:World) (K:IntKind) (b r:Nat) (kv left:List (Int×Value)):Prop:=
 r≠b/\ ∃es clock since seen c0,w.heap[b]? =some (.map es clock)/\kvs es.toList=entsI K kv/\(es.toList.map (·.born)).Nodup/\(∀x∈es.toList,x.born<since)/\since<=c0/\since<=clock/\
  w.heap[r]? =some (.mapIter (some b) since seen c0)/\(kvs (leftOf es seen).toList).Perm (entsI K left)
theorem RgI.map {r:Nat} {left:List (Int×Value)} (h:RgI w K b r kv left):MapI w K b kv:=by
 obtain⟨hne,es,clock,since,seen,c0,g1,g2,g3,g4,g5,g6,_,_⟩:=h;exact⟨es,clock,g1,g2,g3,fun x hx=>lt1 (g4 x hx) g6⟩
theorem leftOf_push (es:Array MapEntry) (seen:Array Nat) (hn:(es.toList.map (·.born)).Nodup) (x:MapEntry) (hx:x∈(leftOf es seen).toList):(leftOf es seen).toList.Perm (x::(leftOf es (seen.push x.born)).toList):=by
 unfold leftOf at hx⊢;rw[Array.toList_filter]at hx⊢;rw[Array.toList_filter];generalize es.toList=l at*;clear es
 induction l with
 |nil=>simp at hx
 |cons y l ih=>
  rw[List.map_cons,List.nodup_cons]at hn;obtain⟨hn1,hn2⟩:=hn;by_cases hy:seen.contains y.born=true
  ·have e2:(seen.push x.born).contains y.born=true:=by
    rw[Array.contains_iff_mem]at hy⊢;exact Array.mem_push_of_mem _ hy
   rw[List.filter_cons_of_neg (by simpa using hy)]at hx;rw[List.filter_cons_of_neg (by simpa using hy),List.filter_cons_of_neg (by rw[e2];decide)];exact ih hn2 hx
  ·have hy':(!seen.contains y.born)=true:=by simpa using hy
   rw[List.filter_cons_of_pos (p:=fun e:MapEntry=>!seen.contains e.born) hy']at hx;rw[List.filter_cons_of_pos (p:=fun e:MapEntry=>!seen.contains e.born) hy'];rcases List.mem_cons.1 hx with rfl|hx2
   ·have e2:(seen.push x.born).contains x.born=true:=by rw[Array.contains_iff_mem];exact Array.mem_push_self
    rw[List.filter_cons_of_neg (by rw[e2];decide)];have e3:l.filter (fun e=>!seen.contains e.born)=l.filter (fun e=>!(seen.push x.born).contains e.born):=by
     refine List.filter_congr fun z hz=>?_;have hzx:z.born≠x.born:=fun e=>hn1 (e▸List.mem_map_of_mem hz)
     congr 1
     rw[Bool.eq_iff_iff,Array.contains_iff_mem,Array.contains_iff_mem,Array.mem_push];simp[hzx]
    rw[e3]
   ·have hxl:x∈l:=(List.mem_filter.1 hx2).1;have hyx:y.born≠x.born:=fun e=>hn1 (e▸List.mem_map_of_mem hxl);have e2:(!(seen.push x.born).contains y.born)=true:=by
     have: ¬(seen.push x.born).contains y.born=true:=by
      rw[Array.contains_iff_mem,Array.mem_push];rintro (h|h)
      ·exact hy (Array.contains_iff_mem.2 h)
      ·exact hyx h
     simpa using this
    rw[List.filter_cons_of_pos (p:=fun e:MapEntry=>!(seen.push x.born).contains e.born) e2];exact((ih hn2 hx2).cons y).trans (List.Perm.swap x y _)
theorem rangeI (ht:P.underlying t=some (.map k e)) (h:MapI w K b kv):
  ∃w',(Instr.range t (.map (some b))).run P w= .ok (.pointer (some ⟨w.heap.size,0,none⟩)) w'/\RgI w' K b w.heap.size kv kv/\Below w.heap.size w w'/\w'.heap.size=w.heap.size+1:=by
 have hlt:=h.lt;obtain⟨es,clock,h1,h2,h3,h4⟩:=h;refine⟨_,run_range_map w t k e b es clock ht h1,⟨by omega,es,clock,clock,#[],clock,(alloc_old w _ b hlt).trans h1,h2,h3,h4,le0,le0,heap_alloc_new w _,?_⟩,br0.alloc le0 _,by simp⟩;have:(leftOf es #[]).toList=es.toList:=by unfold leftOf;simp
 rw[this,h2]
theorem nextI {r:Nat} {left:List (Int×Value)} (ty:TypeId) (h:RgI w K b r kv left):
  (left=[]/\(Instr.next (.pointer (some ⟨r,0,none⟩)) false ty).run P w= .ok (.tuple #[.bool false]) w)\/
  ∃x v l2 w',left.Perm ((x,v)::l2)/\(x,v)∈kv/\(Instr.next (.pointer (some ⟨r,0,none⟩)) false ty).run P w= .ok (.tuple #[.bool true,.int K x,v]) w'/\RgI w' K b r kv l2/\Fr (fun i=>i=r) w w'/\w'.heap.size=w.heap.size/\
   (Instr.entry (.pointer (some ⟨r,0,none⟩))).run P w'= .ok (.tuple #[.int K x,v]) w':=by
 obtain⟨hne,es,clock,since,seen,c0,g1,g2,g3,g4,g5,g6,g7,g8⟩:=h;rcases run_next_at (P:=P) w ty r b since c0 seen es clock g7 g1 g4 g5 with ⟨h0,hrun⟩|⟨y,hy,w1,hal,hrun⟩
 ·refine .inl ⟨?_,hrun⟩;have e0:(leftOf es seen).toList=[]:=by
   have:(leftOf es seen)=#[]:=Array.eq_empty_of_size_eq_zero h0;rw[this]
  rw[e0]at g8;have:=g8.length_eq;simp only[kvs,entsI,List.map_nil,List.length_nil,List.length_map]at this;exact List.eq_nil_of_length_eq_zero this.symm
 ·have hym:y∈es.toList:=by
   unfold leftOf at hy;rw[Array.toList_filter]at hy;exact(List.mem_filter.1 hy).1
  have hyk:(y.key,y.val)∈entsI K kv:=by rw[<-g2];exact List.mem_map_of_mem hym
  have hyl:(y.key,y.val)∈entsI K left:=g8.mem_iff.1 (List.mem_map_of_mem hy);obtain⟨p,hp,hpe⟩:=List.mem_map.1 hyl;obtain⟨l1,l2,hl⟩:=List.append_of_mem hp;simp only[Prod.mk.injEq]at hpe;obtain⟨e1,e2⟩:=hpe;have hkv:(p.1,p.2)∈kv:=by
   obtain⟨q,hq,hqe⟩:=List.mem_map.1 hyk;simp only[Prod.mk.injEq]at hqe;rw[<-e1]at hqe;have:q=p:=Prod.ext (by have:=hqe.1;simpa using this) (hqe.2.trans e2.symm);rw[<-this];exact hq
  have hperm:left.Perm ((p.1,p.2)::(l1++l2)):=by rw[hl];exact List.perm_middle
  have hlo:=leftOf_push es seen g3 y hy;have hs1:w1.heap=w.heap:=by rcases hal with rfl|rfl<;>rfl
  have ho1:w1.os=w.os/\w1.tape=w.tape/\w1.output=w.output:=by rcases hal with rfl|rfl<;>exact⟨rfl,rfl,rfl⟩
  have hrl:=(Array.getElem?_eq_some_iff.1 g7).1;have hb':(ChangeMaps.setBlock w1 r (.mapIter (some b) since (seen.push y.born) clock)).heap[b]? =some (.map es clock):=by
   simp only[ChangeMaps.setBlock,hs1];rw[Array.getElem?_setIfInBounds_ne hne];exact g1
  have hr':(ChangeMaps.setBlock w1 r (.mapIter (some b) since (seen.push y.born) clock)).heap[r]? =some (.mapIter (some b) since (seen.push y.born) clock):=by
   simp[ChangeMaps.setBlock,hs1,hrl]
  rw[<-e1,<-e2]at hrun;refine .inr ⟨p.1,p.2,l1++l2,_,hperm,hkv,hrun,⟨hne,es,clock,since,seen.push y.born,clock,hb',g2,g3,g4,g6,g6,hr',?_⟩,⟨ho1.1,ho1.2.1,ho1.2.2,by simp[ChangeMaps.setBlock,hs1],fun i hi hs=>?_⟩,by simp[ChangeMaps.setBlock,hs1],?_⟩
  ·have c1:(kvs (leftOf es seen).toList).Perm ((y.key,y.val)::kvs (leftOf es (seen.push y.born)).toList):=by
    have:=hlo.map (fun e:MapEntry=>(e.key,e.val));exact this
   have c2:(entsI K left).Perm ((y.key,y.val)::entsI K (l1++l2)):=by
    have:=hperm.map (fun p:Int×Value=>(Value.int K p.1,p.2));rw[List.map_cons]at this;rw[e1,e2]at this;exact this
   exact(List.perm_cons _).1 (c1.symm.trans (g8.trans c2))
  ·simp[ChangeMaps.setBlock,hs1,Ne.symm hs]
  ·have:=run_entry_at (P:=P) _ r b since seen es clock y hr' hb' hym g3;rw[e1,e2];exact this
end
section
variable {P:Program} (w:World) {ops:Array Oper} {rest:List Oper} {o:Oper} {a:Act} {Q:Exit->Act->World->Prop} {K:IntKind}
theorem wpList_makeMapI (t:TypeId) (hg:o.guard=none) (hop:o.op=Op.makeMap t none) (K:IntKind)
  (hK:MapI (w.alloc (.map #[] 0)) K w.heap.size []->wpList P ops Q rest (a.put o.dst (.map (some w.heap.size))) (w.alloc (.map #[] 0))):wpList P ops Q (o::rest) a w:=by
 refine wpList_plain hg fun K' hK'=>?_;unfold Oper.wp;simp[execOp,hop,Instr.makeMap,Result.andThen];rw[Oper.upon_value];exact hK' _ _ (hK (MapI.new w K))
theorem wpList_lookupI (t k e:TypeId) (ht:P.underlying t=some (.map k e)) (hk:P.underlying k=some (.int K)) (z:Value) (hz:(zeroValue e).run P w= .ok z w) (hg:o.guard=none) (m x:Operand) (hop:o.op=Op.lookup t m x true) (b:Nat) (kv:List (Int×Value)) (hm:a.eval m= .map (some b)) (h:MapI w K b kv) (r:Int) (hx:a.eval x= .int K r)
  (hK:wpList P ops Q rest (a.put o.dst (.tuple #[(getI r kv).getD z,.bool (getI r kv).isSome])) w):wpList P ops Q (o::rest) a w:=by
 refine wpList_plain hg fun K' hK'=>?_;have hrun:=lookupI ht hk h r z hz;unfold Oper.wp;simp[execOp,hop,hm,hx,hrun,Result.andThen];exact hK' _ _ hK
theorem wpList_rangeI (t k e:TypeId) (ht:P.underlying t=some (.map k e)) (hg:o.guard=none) (m:Operand) (hop:o.op=Op.range t m) (b:Nat) (kv:List (Int×Value)) (hm:a.eval m= .map (some b)) (h:MapI w K b kv)
  (hK: ∀w',RgI w' K b w.heap.size kv kv->Below w.heap.size w w'->w'.heap.size=w.heap.size+1->wpList P ops Q rest (a.put o.dst (.pointer (some ⟨w.heap.size,0,none⟩))) w'):wpList P ops Q (o::rest) a w:=by
 refine wpList_plain hg fun K' hK'=>?_;obtain⟨w',hrun,r1,r2,r3⟩:=rangeI (P:=P) ht h;unfold Oper.wp;simp[execOp,hop,hm,hrun,Result.andThen];exact hK' _ _ (hK w' r1 r2 r3)
theorem wpList_nextI (hg:o.guard=none) (it:Operand) (hop:o.op=Op.next it false) (b r:Nat) (kv left:List (Int×Value)) (hit:a.eval it= .pointer (some ⟨r,0,none⟩)) (h:RgI w K b r kv left)
  (hDone:left=[]->wpList P ops Q rest (a.put o.dst (.tuple #[.bool false])) w)
  (hMore: ∀x v l2 w',left.Perm ((x,v)::l2)->(x,v)∈kv->RgI w' K b r kv l2->Fr (fun i=>i=r) w w'->w'.heap.size=w.heap.size->(Instr.entry (.pointer (some ⟨r,0,none⟩))).run P w'= .ok (.tuple #[.int K x,v]) w'->wpList P ops Q rest (a.put o.dst (.tuple #[.bool true,.int K x,v])) w'):wpList P ops Q (o::rest) a w:=by
 refine wpList_plain hg fun K' hK'=>?_;unfold Oper.wp;rcases nextI (P:=P) o.type h with ⟨h0,hrun⟩|⟨x,v,l2,w',h1,h2,hrun,h3,h4,h5,h6⟩
 ·simp[execOp,hop,hit,hrun,Result.andThen];exact hK' _ _ (hDone h0)
 ·simp[execOp,hop,hit,hrun,Result.andThen];exact hK' _ _ (hMore x v l2 w' h1 h2 h3 h4 h5 h6)
end
def MapP (w:World) (K:IntKind) (b:Nat) (kv:List (Int×Value)) (r:Int) (z:Value) (c:Nat):Prop:=
 ∃es:Array MapEntry,w.heap[b]? =some (.map (es.push ⟨.int K r,z,c⟩) (c+1))/\kvs es.toList=entsI K kv/\(es.toList.map (·.born)).Nodup/\ ∀e∈es.toList,e.born<c
section
variable {P:Program} {K:IntKind} {t k e:TypeId} {w:World} {b:Nat} {kv:List (Int×Value)}
theorem entryI (ht:P.underlying t=some (.map k e)) (hk:P.underlying k=some (.int K)) (h:MapI w K b kv) (r:Int) (z:Value) (hz:(zeroValue e).run P w= .ok z w) (hnew:getI r kv=none):
  ∃c w',(Instr.mapEntry t (.map (some b)) (.int K r)).run P w= .ok (.tuple #[z,.int .i64 (c:Nat)]) w'/\MapP w' K b kv r z c/\Fr (fun i=>i=b) w w'/\w'.heap.size=w.heap.size:=by
 have hlt:=h.lt;obtain⟨es,clock,h1,h2,h3,h4⟩:=h;have hn:findI r kv 0=none:=by
  unfold getI at hnew
  cases hf:findI r kv 0 with
  |none=>rfl
  |some p=>rw[hf]at hnew;simp at hnew
 refine⟨clock,ChangeMaps.setBlock w b (.map (es.push ⟨.int K r,z,clock⟩) (clock+1)),?_,⟨es,by simp[ChangeMaps.setBlock,hlt],h2,h3,h4⟩,⟨rfl,rfl,rfl,by simp[ChangeMaps.setBlock],fun i hi hs=>?_⟩,by simp[ChangeMaps.setBlock]⟩
 ·unfold Instr.mapEntry;simp[run_underlying ht,MapKept.run_getObj_map h1,checkKeyI hk,findKeyI hk r _ h2,hn,hz,MapKept.run_setObj_map _ h1,Result.andThen,ChangeMaps.setBlock,goInt]
 ·simp[ChangeMaps.setBlock,Ne.symm hs]
theorem findIdx_last (es:Array MapEntry) (x:MapEntry) (h: ∀e∈es.toList,e.born<x.born):(es.push x).findIdx? (fun e=>(e.born:Int)==(x.born:Int))=some es.size:=by
 rw[Array.findIdx?_eq_some_iff_getElem];refine⟨by simp,by simp,fun j hj=>?_⟩;have hj2:j<es.size:=hj;rw[Array.getElem_push_lt hj2];have:=h es[j] (by simp);simp only[Bool.not_eq_true,bq0];omega
theorem entryStoreI (r:Int) {z v:Value} {c:Nat} (h:MapP w K b kv r z c):
  ∃w',(Instr.entryStore t (.map (some b)) (.int .i64 (c:Nat)) v).run P w= .ok () w'/\MapI w' K b (kv++ [(r,v)])/\Fr (fun i=>i=b) w w'/\w'.heap.size=w.heap.size:=by
 obtain⟨es,h1,h2,h3,h4⟩:=h;have hlt:b<w.heap.size:=(Array.getElem?_eq_some_iff.1 h1).1;have hfi:=findIdx_last es ⟨.int K r,z,c⟩ h4;have hmod:(es.push ⟨.int K r,z,c⟩).modify es.size (fun e=> {e with val:=v})=es.push ⟨.int K r,v,c⟩:=by
  apply Array.ext
  ·simp
  ·intro i hi1 hi2;rw[Array.getElem_modify];by_cases hi:es.size=i
   ·subst hi;simp
   ·have:i<es.size:=by simp at hi2;omega
    rw[if_neg hi,Array.getElem_push_lt this,Array.getElem_push_lt this]
 refine⟨ChangeMaps.setBlock w b (.map (es.push ⟨.int K r,v,c⟩) (c+1)),?_,⟨es.push ⟨.int K r,v,c⟩,c+1,by simp[ChangeMaps.setBlock,hlt],?_,?_,?_⟩,⟨rfl,rfl,rfl,by simp[ChangeMaps.setBlock],fun i hi hs=>?_⟩,by simp[ChangeMaps.setBlock]⟩
 ·unfold Instr.entryStore;simp only[MapKept.run_getObj_map h1,Sem.run_bind,Result.andThen,asInt,asIntOf,Sem.run_pure];dsimp only at hfi;rw[hfi];dsimp only;rw[hmod];simp only[MapKept.run_setObj_map _ h1,ChangeMaps.setBlock]
 ·simp only[kvs,entsI,Array.toList_push,List.map_append,List.map_cons,List.map_nil]at h2⊢;rw[h2]
 ·rw[Array.toList_push,List.map_append];refine List.nodup_append.2 ⟨h3,by simp,fun a ha d hd=>?_⟩;obtain⟨y,hy,rfl⟩:=List.mem_map.1 ha;have:=h4 y hy;simp only[List.map_cons,List.map_nil,List.mem_singleton]at hd;omega
 ·intro y hy;rw[Array.toList_push]at hy;rcases List.mem_append.1 hy with hy|hy
  ·have:=h4 y hy;omega
  ·rw[List.mem_singleton.1 hy];exact Nat.lt_succ_self _
 ·simp[ChangeMaps.setBlock,Ne.symm hs]
end
def rgLeft (w:World) (b r:Nat):Nat:=
 match w.heap[b]?,w.heap[r]? with
 |some (.map es _),some (.mapIter _ _ seen _)=>(leftOf es seen).size
 |_,_=>0
theorem RgI.left {w:World} {K:IntKind} {b r:Nat} {kv left:List (Int×Value)} (h:RgI w K b r kv left):rgLeft w b r=left.length:=by
 obtain⟨hne,es,clock,since,seen,c0,g1,g2,g3,g4,g5,g6,g7,g8⟩:=h;unfold rgLeft;rw[g1,g7];have:=g8.length_eq;simp only[kvs,entsI,List.length_map]at this;rw[<-this];simp
def dkL (d:Dk) (lv:Value):List Value:= .int .i64 d.room::(d.now.map Value.string++(d.sure.map Value.string++ [lv,.bool d.off,.int .i64 d.left]))
def dkC (d:Dk) (lv:Value):Array Value:=(dkL d lv).toArray
section
variable {d:Dk} {lv:Value} (h1:d.now.length=16) (h2:d.sure.length=16)
include h1 in
theorem dkL_now (f:Nat) (hf:f<16):(dkL d lv)[1+f]? =some (.string (fl d.now f)):=by
 rw[Nat.add_comm];unfold dkL;rw[List.getElem?_cons_succ,List.getElem?_append_left (by simp;omega),List.getElem?_map,List.getElem?_eq_getElem (by omega),Option.map_some,fl_get]
include h1 h2 in
theorem dkL_hi (k:Nat):(dkL d lv)[33+k]? =[lv,.bool d.off,.int .i64 d.left][k]? :=by
 rw[show 33+k=(32+k)+1 by omega];unfold dkL;rw[List.getElem?_cons_succ,List.getElem?_append_right (by simp;omega),List.length_map,h1,show 32+k-16=16+k by omega,List.getElem?_append_right (by simp;omega),List.length_map,h2,Nat.add_sub_cancel_left]
include h1 h2 in
theorem dkL_len:(dkL d lv).length=36:=by unfold dkL;simp[h1,h2]
include h1 in
theorem dkL_set_now (f:Nat) (hf:f<16) (s:ByteArray):(dkL d lv).set (1+f) (.string s)=dkL {d with now:=d.now.set f s} lv:=by
 rw[Nat.add_comm];unfold dkL;rw[List.set_cons_succ,List.set_append_left _ _ (by simp;omega),<-List.map_set]
include h1 h2 in
theorem dkL_set_hi (k:Nat) (v:Value):(dkL d lv).set (33+k) v= .int .i64 d.room::(d.now.map Value.string++(d.sure.map Value.string++ [lv,.bool d.off,.int .i64 d.left].set k v)):=by
 rw[show 33+k=(32+k)+1 by omega];unfold dkL;rw[List.set_cons_succ,List.set_append_right _ _ (by simp;omega),List.length_map,h1,show 32+k-16=16+k by omega,List.set_append_right _ _ (by simp;omega),List.length_map,h2,Nat.add_sub_cancel_left]
end
namespace Dk
structure Len (d:Dk):Prop where
 n:d.now.length=16
 s:d.sure.length=16
end Dk
theorem Dk.Inv.len {d:Dk} (h:d.Inv):d.Len:=⟨h.now16,h.sure16⟩
section
variable {d:Dk} {lv:Value} (h:d.Len)
theorem dkC_0:(dkC d lv)[0]? =some (.int .i64 d.room):=rfl
include h in
theorem dkC_now (f:Nat) (hf:f<16):(dkC d lv)[1+f]? =some (.string (fl d.now f)):=by unfold dkC;rw[List.getElem?_toArray,dkL_now h.n f hf]
include h in
theorem dkC_33:(dkC d lv)[33]? =some lv:=by unfold dkC;rw[List.getElem?_toArray];exact dkL_hi h.n h.s 0
include h in
theorem dkC_34:(dkC d lv)[34]? =some (.bool d.off):=by unfold dkC;rw[List.getElem?_toArray];exact dkL_hi h.n h.s 1
include h in
theorem dkC_35:(dkC d lv)[35]? =some (.int .i64 d.left):=by unfold dkC;rw[List.getElem?_toArray];exact dkL_hi h.n h.s 2
include h in
theorem dkC_size:(dkC d lv).size=36:=by unfold dkC;rw[List.size_toArray];exact dkL_len h.n h.s
include h in
theorem dkC_set_now (f:Nat) (hf:f<16) (s:ByteArray):(dkC d lv).setIfInBounds (1+f) (.string s)=dkC {d with now:=d.now.set f s} lv:=by
 unfold dkC;rw[List.setIfInBounds_toArray,dkL_set_now h.n f hf]
include h in
theorem dkC_set_33 (v:Value):(dkC d lv).setIfInBounds 33 v=dkC d v:=by
 unfold dkC;rw[List.setIfInBounds_toArray,show 33=33+0 from rfl,dkL_set_hi h.n h.s];rfl
include h in
theorem dkC_set_34 (b:Bool):(dkC d lv).setIfInBounds 34 (.bool b)=dkC {d with off:=b} lv:=by
 unfold dkC;rw[List.setIfInBounds_toArray,show 34=33+1 from rfl,dkL_set_hi h.n h.s];rfl
include h in
theorem dkC_set_35 (n:Int):(dkC d lv).setIfInBounds 35 (.int .i64 n)=dkC {d with left:=n} lv:=by
 unfold dkC;rw[List.setIfInBounds_toArray,show 35=33+2 from rfl,dkL_set_hi h.n h.s];rfl
end
theorem Chg.len {d:Dk} (h:d.Len) (c:Chg):Dk.Len {d with now:=c.does d.now}:=⟨(c.does_len _).trans h.n,h.s⟩
def setL (l:List Value):Nat->List Value->List Value
 |_,[]=>l
 |o,v::r=>setL (l.set o v) (o+1) r
theorem setL_mid: ∀(vs a b c:List Value),b.length=vs.length->setL (a++(b++c)) a.length vs=a++(vs++c)
 | [],a,b,c,h=>by
  have:b=[]:=List.length_eq_zero_iff.1 h
  subst this
  rfl
 |v::vs,a,[],c,h=>by simp at h
 |v::vs,a,x::b,c,h=>by
  have e:(a++(x::b++c)).set a.length v=(a++ [v])++(b++c):=by
   rw[List.set_append_right _ _ le0,Nat.sub_self];simp
  have ih:=setL_mid vs (a++ [v]) b c (by simpa using h);unfold setL;rw[e,show a.length+1=(a++ [v]).length by simp,ih];simp
theorem Blk.setCells: ∀ {w:World} {b:Nat} {t:TypeId} {l:List Value} (vs:List Value) (o:Nat),Blk w b t l.toArray->Blk (w.setCells b o vs) b t (setL l o vs).toArray
 |w,b,t,l,[],o,h=>h
 |w,b,t,l,v::vs,o,h=>by
  have h1:=h.set o v
  rw[List.setIfInBounds_toArray]at h1
  exact Blk.setCells vs (o+1) h1
theorem Fr.setCells {S:Nat->Prop} {a:World} (b:Nat): ∀(vs:List Value) (o:Nat) (w:World),Fr S a w->(S b\/a.heap.size<=b)->Fr S a (w.setCells b o vs)
 | [],_,_,h,_=>h
 |v::vs,o,w,h,hb=>Fr.setCells b vs (o+1) _ (h.setCell (p:=⟨b,o,none⟩) hb v) hb
section
variable {d:Dk} {lv:Value} (h:d.Len) {L:Fls} (hL:L.length=16)
include h hL in
theorem dkL_store_sure:setL (dkL d lv) 17 (L.map Value.string)=dkL {d with sure:=L} lv:=by
 have e:dkL d lv=(.int .i64 d.room::d.now.map Value.string)++(d.sure.map Value.string++ [lv,.bool d.off,.int .i64 d.left]):=by unfold dkL;simp
 rw[e,show 17=(.int .i64 d.room::d.now.map Value.string).length by simp[h.n],setL_mid _ _ _ _ (by simp[hL,h.s])];unfold dkL;simp
end
section
variable {w:World} {D:Nat} {t:TypeId} {d:Dk} {lv:Value} (hb:Blk w D t (dkC d lv)) (h:d.Len)
include hb h in
theorem dk_range_now:w.rangeAt D 1 (d.now.map Value.string):=fun j v hv=>by
 have hj:j<16:=by have:=(List.getElem?_eq_some_iff.1 hv).1;rw[List.length_map,h.n]at this;exact this
 rw[hb.cell,dkC_now h j hj,<-hv,List.getElem?_map,List.getElem?_eq_getElem (by rw[h.n];exact hj),Option.map_some,fl_get]
include hb h in
theorem dk_there (o n:Nat) (hn:o+n<=36):w.there D o n:=fun j hj=>by
 refine⟨?_,hb.free _⟩
 rw[hb.cell,Array.getElem?_eq_getElem (by rw[dkC_size h];omega)]
 rfl
include hb h in
theorem dk_store_sure {L:Fls} (hL:L.length=16):Blk (w.setCells D 17 (L.map Value.string)) D t (dkC {d with sure:=L} lv):=by
 have:=Blk.setCells (l:=dkL d lv) (L.map Value.string) 17 hb;rw[dkL_store_sure h hL]at this;exact this
end
theorem strs_one (l:List ByteArray):((l.map Value.string).toArray).all (·.oneCell')=true:=all_oneCell_toArray (by
 intro v hv
 obtain⟨s,_,rfl⟩:=List.mem_map.1 hv
 rfl)
