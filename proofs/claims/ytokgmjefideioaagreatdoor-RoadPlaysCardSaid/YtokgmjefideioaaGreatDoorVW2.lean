/- Parts. -/
import Derived.Deep.RegionHeld
import Derived.Test.YtokgmjefideioaaGreatDoorVW1
namespace Go.Proofs.YtokgmjefideioaaGreatDoor
open Go.RowKit
set_option linter.unusedVariables false
set_option linter.unusedSimpArgs false
set_option maxRecDepth 100000
set_option maxHeartbeats 16000000
def dkL (d:Dk) (lv:Value):List Value:= .int .i64 d.room::(d.now.map Value.string++(d.sure.map Value.string++ [lv,.bool d.off,.int .i64 d.left]))
def dkC (d:Dk) (lv:Value):Array Value:=(dkL d lv).toArray
section
variable {d:Dk} {lv:Value} (h1:d.now.length=16) (h2:d.sure.length=16)
include h1 in
theorem dkL_now (f:Nat) (hf:f<16):(dkL d lv)[1+f]? =some (.string (fl d.now f)):=by
 rw[Nat.add_comm];unfold dkL;rw[List.getElem?_cons_succ,List.getElem?_append_left (by simp;omega),List.getElem?_map,List.getElem?_eq_getElem (by omega),Option.map_some,fl_get]
include h1 h2 in
theorem dkL_sure (f:Nat) (hf:f<16):(dkL d lv)[17+f]? =some (.string (fl d.sure f)):=by
 rw[show 17+f=(16+f)+1 by omega];unfold dkL;rw[List.getElem?_cons_succ,List.getElem?_append_right (by simp;omega),List.length_map,h1,Nat.add_sub_cancel_left,List.getElem?_append_left (by simp;omega),List.getElem?_map,List.getElem?_eq_getElem (by omega),Option.map_some,fl_get]
include h1 h2 in
theorem dkL_hi (k:Nat):(dkL d lv)[33+k]? =[lv,.bool d.off,.int .i64 d.left][k]? :=by
 rw[show 33+k=(32+k)+1 by omega];unfold dkL;rw[List.getElem?_cons_succ,List.getElem?_append_right (by simp;omega),List.length_map,h1,show 32+k-16=16+k by omega,List.getElem?_append_right (by simp;omega),List.length_map,h2,Nat.add_sub_cancel_left]
include h1 h2 in
theorem dkL_len:(dkL d lv).length=36:=by unfold dkL;simp[h1,h2]
include h1 in
theorem dkL_set_now (f:Nat) (hf:f<16) (s:ByteArray):(dkL d lv).set (1+f) (.string s)=dkL {d with now:=d.now.set f s} lv:=by
 rw[Nat.add_comm];unfold dkL;rw[List.set_cons_succ,List.set_append_left _ _ (by simp;omega),<-List.map_set]
include h1 h2 in
theorem dkL_set_sure (f:Nat) (hf:f<16) (s:ByteArray):(dkL d lv).set (17+f) (.string s)=dkL {d with sure:=d.sure.set f s} lv:=by
 rw[show 17+f=(16+f)+1 by omega];unfold dkL;rw[List.set_cons_succ,List.set_append_right _ _ (by simp;omega),List.length_map,h1,Nat.add_sub_cancel_left,List.set_append_left _ _ (by simp;omega),<-List.map_set]
include h1 h2 in
theorem dkL_set_hi (k:Nat) (v:Value):(dkL d lv).set (33+k) v= .int .i64 d.room::(d.now.map Value.string++(d.sure.map Value.string++ [lv,.bool d.off,.int .i64 d.left].set k v)):=by
 rw[show 33+k=(32+k)+1 by omega];unfold dkL;rw[List.set_cons_succ,List.set_append_right _ _ (by simp;omega),List.length_map,h1,show 32+k-16=16+k by omega,List.set_append_right _ _ (by simp;omega),List.length_map,h2,Nat.add_sub_cancel_left]
end
namespace Dk
structure Len (d:Dk):Prop where
 n:d.now.length=16
 s:d.sure.length=16
end Dk
theorem Dk.Inv.len {d:Dk} (h:d.Inv):d.Len:=⟨h.now16,h.sure16⟩
section
variable {d:Dk} {lv:Value} (h:d.Len)
theorem dkC_0:(dkC d lv)[0]? =some (.int .i64 d.room):=rfl
include h in
theorem dkC_now (f:Nat) (hf:f<16):(dkC d lv)[1+f]? =some (.string (fl d.now f)):=by unfold dkC;rw[List.getElem?_toArray,dkL_now h.n f hf]
include h in
theorem dkC_sure (f:Nat) (hf:f<16):(dkC d lv)[17+f]? =some (.string (fl d.sure f)):=by unfold dkC;rw[List.getElem?_toArray,dkL_sure h.n h.s f hf]
include h in
theorem dkC_33:(dkC d lv)[33]? =some lv:=by unfold dkC;rw[List.getElem?_toArray];exact dkL_hi h.n h.s 0
include h in
theorem dkC_34:(dkC d lv)[34]? =some (.bool d.off):=by unfold dkC;rw[List.getElem?_toArray];exact dkL_hi h.n h.s 1
include h in
theorem dkC_35:(dkC d lv)[35]? =some (.int .i64 d.left):=by unfold dkC;rw[List.getElem?_toArray];exact dkL_hi h.n h.s 2
include h in
theorem dkC_size:(dkC d lv).size=36:=by unfold dkC;rw[List.size_toArray];exact dkL_len h.n h.s
include h in
theorem dkC_set_now (f:Nat) (hf:f<16) (s:ByteArray):(dkC d lv).setIfInBounds (1+f) (.string s)=dkC {d with now:=d.now.set f s} lv:=by
 unfold dkC;rw[List.setIfInBounds_toArray,dkL_set_now h.n f hf]
include h in
theorem dkC_set_sure (f:Nat) (hf:f<16) (s:ByteArray):(dkC d lv).setIfInBounds (17+f) (.string s)=dkC {d with sure:=d.sure.set f s} lv:=by
 unfold dkC;rw[List.setIfInBounds_toArray,dkL_set_sure h.n h.s f hf]
include h in
theorem dkC_set_33 (v:Value):(dkC d lv).setIfInBounds 33 v=dkC d v:=by
 unfold dkC;rw[List.setIfInBounds_toArray,show 33=33+0 from rfl,dkL_set_hi h.n h.s];rfl
include h in
theorem dkC_set_34 (b:Bool):(dkC d lv).setIfInBounds 34 (.bool b)=dkC {d with off:=b} lv:=by
 unfold dkC;rw[List.setIfInBounds_toArray,show 34=33+1 from rfl,dkL_set_hi h.n h.s];rfl
include h in
theorem dkC_set_35 (n:Int):(dkC d lv).setIfInBounds 35 (.int .i64 n)=dkC {d with left:=n} lv:=by
 unfold dkC;rw[List.setIfInBounds_toArray,show 35=33+2 from rfl,dkL_set_hi h.n h.s];rfl
end
theorem Chg.len {d:Dk} (h:d.Len) (c:Chg):Dk.Len {d with now:=c.does d.now}:=⟨(c.does_len _).trans h.n,h.s⟩
def setL (l:List Value):Nat->List Value->List Value
 |_,[]=>l
 |o,v::r=>setL (l.set o v) (o+1) r
theorem setL_mid: ∀(vs a b c:List Value),b.length=vs.length->setL (a++(b++c)) a.length vs=a++(vs++c)
 | [],a,b,c,h=>by
  have:b=[]:=List.length_eq_zero_iff.1 h
  subst this
  rfl
 |v::vs,a,[],c,h=>by simp at h
 |v::vs,a,x::b,c,h=>by
  have e:(a++(x::b++c)).set a.length v=(a++ [v])++(b++c):=by
   rw[List.set_append_right _ _ le0,Nat.sub_self];simp
  have ih:=setL_mid vs (a++ [v]) b c (by simpa using h);unfold setL;rw[e,show a.length+1=(a++ [v]).length by simp,ih];simp
theorem Blk.setCells: ∀ {w:World} {b:Nat} {t:TypeId} {l:List Value} (vs:List Value) (o:Nat),Blk w b t l.toArray->Blk (w.setCells b o vs) b t (setL l o vs).toArray
 |w,b,t,l,[],o,h=>h
 |w,b,t,l,v::vs,o,h=>by
  have h1:=h.set o v
  rw[List.setIfInBounds_toArray]at h1
  exact Blk.setCells vs (o+1) h1
theorem Fr.setCells {S:Nat->Prop} {a:World} (b:Nat): ∀(vs:List Value) (o:Nat) (w:World),Fr S a w->(S b\/a.heap.size<=b)->Fr S a (w.setCells b o vs)
 | [],_,_,h,_=>h
 |v::vs,o,w,h,hb=>Fr.setCells b vs (o+1) _ (h.setCell (p:=⟨b,o,none⟩) hb v) hb
theorem setCells_size (b:Nat): ∀(vs:List Value) (o:Nat) (w:World),(w.setCells b o vs).heap.size=w.heap.size
 | [],_,_=>rfl
 |v::vs,o,w=>by rw[World.setCells,setCells_size b vs];simp[World.setCell]
theorem setCells_other (b:Nat) {k:Nat} (hk:k≠b): ∀(vs:List Value) (o:Nat) (w:World),(w.setCells b o vs).heap[k]? =w.heap[k]?
 | [],_,_=>rfl
 |v::vs,o,w=>by rw[World.setCells,setCells_other b hk vs];exact heap_setCell_other w ⟨b,o,none⟩ k v hk
section
variable {d:Dk} {lv:Value} (h:d.Len) {L:Fls} (hL:L.length=16)
include h hL in
theorem dkL_store_sure:setL (dkL d lv) 17 (L.map Value.string)=dkL {d with sure:=L} lv:=by
 have e:dkL d lv=(.int .i64 d.room::d.now.map Value.string)++(d.sure.map Value.string++ [lv,.bool d.off,.int .i64 d.left]):=by unfold dkL;simp
 rw[e,show 17=(.int .i64 d.room::d.now.map Value.string).length by simp[h.n],setL_mid _ _ _ _ (by simp[hL,h.s])];unfold dkL;simp
include h hL in
theorem dkL_store_now:setL (dkL d lv) 1 (L.map Value.string)=dkL {d with now:=L} lv:=by
 have e:dkL d lv=[.int .i64 d.room]++(d.now.map Value.string++(d.sure.map Value.string++ [lv,.bool d.off,.int .i64 d.left])):=by unfold dkL;simp
 rw[e,show 1=([.int .i64 d.room]:List Value).length from rfl,setL_mid _ _ _ _ (by simp[h.n,hL])];unfold dkL;simp
end
section
variable {w:World} {D:Nat} {t:TypeId} {d:Dk} {lv:Value} (hb:Blk w D t (dkC d lv)) (h:d.Len)
include hb h in
theorem dk_range_now:w.rangeAt D 1 (d.now.map Value.string):=fun j v hv=>by
 have hj:j<16:=by have:=(List.getElem?_eq_some_iff.1 hv).1;rw[List.length_map,h.n]at this;exact this
 rw[hb.cell,dkC_now h j hj,<-hv,List.getElem?_map,List.getElem?_eq_getElem (by rw[h.n];exact hj),Option.map_some,fl_get]
include hb h in
theorem dk_range_sure:w.rangeAt D 17 (d.sure.map Value.string):=fun j v hv=>by
 have hj:j<16:=by have:=(List.getElem?_eq_some_iff.1 hv).1;rw[List.length_map,h.s]at this;exact this
 rw[hb.cell,dkC_sure h j hj,<-hv,List.getElem?_map,List.getElem?_eq_getElem (by rw[h.s];exact hj),Option.map_some,fl_get]
include hb h in
theorem dk_there (o n:Nat) (hn:o+n<=36):w.there D o n:=fun j hj=>by
 refine⟨?_,hb.free _⟩
 rw[hb.cell,Array.getElem?_eq_getElem (by rw[dkC_size h];omega)]
 rfl
include hb h in
theorem dk_store_sure {L:Fls} (hL:L.length=16):Blk (w.setCells D 17 (L.map Value.string)) D t (dkC {d with sure:=L} lv):=by
 have:=Blk.setCells (l:=dkL d lv) (L.map Value.string) 17 hb;rw[dkL_store_sure h hL]at this;exact this
include hb h in
theorem dk_store_now {L:Fls} (hL:L.length=16):Blk (w.setCells D 1 (L.map Value.string)) D t (dkC {d with now:=L} lv):=by
 have:=Blk.setCells (l:=dkL d lv) (L.map Value.string) 1 hb;rw[dkL_store_now h hL]at this;exact this
end
theorem strs_one (l:List ByteArray):((l.map Value.string).toArray).all (·.oneCell')=true:=all_oneCell_toArray (by
 intro v hv
 obtain⟨s,_,rfl⟩:=List.mem_map.1 hv
 rfl)
theorem tkA {α:Type _} {xs:List α} {i:Nat} (h:i<xs.toArray.size):xs.toArray[i]=xs[i]'(by simpa using h):=List.getElem_toArray h
theorem tkB {α:Type _} (a:α) (l:List α) (h:0<(a::l).length):(a::l)[0]=a:=rfl
theorem tkC {α:Type _} (a:α) (l:List α) (i:Nat) (h:i+1<(a::l).length):(a::l)[i+1]=l[i]'(Nat.lt_of_succ_lt_succ h):=rfl
theorem tkD {α:Type _} (l:List α) (i:Nat) (a:α):l.toArray.setIfInBounds i a=(l.set i a).toArray:=List.setIfInBounds_toArray l i a
theorem tkE {α:Type _} {x:α} {xs:List α} {a:α}:(x::xs).set 0 a=a::xs:=rfl
theorem tkF {α:Type _} {x:α} {xs:List α} {i:Nat} {a:α}:(x::xs).set (i+1) a=x::xs.set i a:=rfl
def opTag (o:Oper):Nat:=match o.op with
 | .load .. =>1
 | .store .. =>2
 | .call {callee:= .builtin ..,..}=>3
 | .call _=>4
 | .alloc .. | .box .. | .build .. | .buildSlice .. =>5
 |_=>0
theorem opIs {P:Program} {op:Oper} {a:Act} {w:World} {K:Act->World->Prop} {Q:Exit->Act->World->Prop} {E:Prop} {y:Nat->Option Bool} (t:Nat) (_:opTag op=t) (h:if Region.wanted op y=true then Oper.wp P op a w K Q else E):if Region.wanted op y=true then Oper.wp P op a w K Q else E:=h
theorem opD {P:Program} {op:Oper} {a:Act} {w:World} {K:Act->World->Prop} {Q:Exit->Act->World->Prop} {E:Prop} {y:Nat->Option Bool} (t:Tmp) (_:op.dst=some t) (h:if Region.wanted op y=true then Oper.wp P op a w K Q else E):if Region.wanted op y=true then Oper.wp P op a w K Q else E:=h
section
variable {P:Program} {md:Region.Mode} {ops:Array Oper} {Q:Exit->Act->World->Prop} {S:World->Prop} {fuel i:Nat} {listed:Array Bool} {a:Act} {w:World} {oi:Oper} {v:Value}
def TwAt (P:Program) (md:Region.Mode) (ops:Array Oper) (Q:Exit->Act->World->Prop) (S:World->Prop) (_ fuel:Nat) (listed:Array Bool) (a:Act) (w:World):Prop:=wpAnyH P md ops Q S fuel listed a w
def tkOk (md:Region.Mode) (ops:Array Oper) (listed:Array Bool) (i:Nat):Bool:=(Region.ready md ops listed).contains i&&Region.free md ops listed i&&Region.noSelect ops
def tkNo (md:Region.Mode) (ops:Array Oper) (listed:Array Bool) (i:Nat):Bool:=decide (i<ops.size)&&!(tkOk md ops listed i)
theorem tk0 (h:TwAt P md ops Q S 0 fuel listed a w):wpAnyH P md ops Q S fuel listed a w:=h
theorem tkn (_:tkNo md ops listed i=true) (h:TwAt P md ops Q S (i+1) fuel listed a w):TwAt P md ops Q S i fuel listed a w:=h
theorem tkm (_:decide (i<ops.size)=true) (h:TwAt P md ops Q S (i+1) fuel listed a w):TwAt P md ops Q S i fuel listed a w:=h
theorem tkd (hr:Region.ready md ops listed=[]) (h:Q .normal a w):TwAt P md ops Q S i fuel listed a w:=wpAnyH_done hr h fuel
theorem tky (hc:tkOk md ops listed i=true) (hi:ops[i]? =some oi) (hQ: ∀c a w,Q (.panic c) (a.put oi.dst v) w->Q (.panic c) a w) (hy:YieldsIf P ops S oi v a) (hS:S w)
  (h:TwAt P md ops Q S 0 fuel (listed.setIfInBounds i true) (a.put oi.dst v) w):TwAt P md ops Q S i (fuel+1) listed a w:=by
 simp only[tkOk,Bool.and_eq_true]at hc;exact wpAnyH_take hi hc.2 hc.1.2 hc.1.1 hQ hy hS h
theorem tks (hc:tkOk md ops listed i=true) (hi:ops[i]? =some oi) (hg:Region.wanted oi (yielded ops a.tmps)=false) (hQ: ∀c a w,Q (.panic c) (a.put oi.dst undef) w->Q (.panic c) a w) (hS:S w)
  (h:TwAt P md ops Q S 0 fuel (listed.setIfInBounds i true) (a.put oi.dst undef) w):TwAt P md ops Q S i (fuel+1) listed a w:=tky hc hi hQ (.inr ⟨hg,rfl⟩) hS h
theorem tkt (hc:tkOk md ops listed i=true) (hi:ops[i]? =some oi) (hg:Region.wanted oi (yielded ops a.tmps)=true) (hQ: ∀c a w,Q (.panic c) (a.put oi.dst v) w->Q (.panic c) a w) (hS:S w)
  (hv: ∀w,S w->(execOp a.eval oi).run P w= .ok (.value v) w)
  (h:TwAt P md ops Q S 0 fuel (listed.setIfInBounds i true) (a.put oi.dst v) w):TwAt P md ops Q S i (fuel+1) listed a w:=tky hc hi hQ (.inl ⟨hg,hv⟩) hS h
def BrAt (P:Program) (md:Region.Mode) (ops:Array Oper) (Q:Exit->Act->World->Prop) (S:World->Prop) (i fuel:Nat) (listed:Array Bool) (a:Act) (w:World):Prop:=
 ∀j∈Region.ready md ops listed,i<=j->wpOp P ops Q j (fun a' w'=>S w'/\wpAnyH P md ops Q S fuel (listed.setIfInBounds j true) a' w') a w
theorem tkb (hr:(Region.ready md ops listed).isEmpty=false) (h:BrAt P md ops Q S 0 fuel listed a w):TwAt P md ops Q S i (fuel+1) listed a w:=
 wpAnyH_ready (rs:=Region.ready md ops listed) rfl (fun e=>by rw[e]at hr;cases hr) (fun j hj=>h j hj ze0)
theorem brn (hn:(decide (i<ops.size)&&!(Region.ready md ops listed).contains i)=true) (h:BrAt P md ops Q S (i+1) fuel listed a w):BrAt P md ops Q S i fuel listed a w:=fun j hj hij=>by
 simp only[Bool.and_eq_true,Bool.not_eq_true']at hn
 refine h j hj (Nat.lt_of_le_of_ne hij fun e=>?_)
 subst e
 have:=List.contains_iff_mem.2 hj
 rw[this]at hn
 cases hn.2
theorem bre (hn:decide (i<ops.size)=false):BrAt P md ops Q S i fuel listed a w:=fun j hj hij=>by
 have:=of_decide_eq_false hn
 have:=(List.mem_range.1 (List.mem_filter.1 hj).1)
 omega
theorem brc (hi:ops[i]? =some oi)
  (h: ∀K':Act->World->Prop,Shut (∀a w,S w->(S w->TwAt P md ops Q S 0 fuel (listed.setIfInBounds i true) a w)->K' a w)->if Region.wanted oi (yielded ops a.tmps)=true then Oper.wp P oi a w K' Q else K' (a.put oi.dst undef) w)
  (hs:BrAt P md ops Q S (i+1) fuel listed a w):BrAt P md ops Q S i fuel listed a w:=fun j hj hij=>by
 rcases Nat.lt_or_ge i j with h'|h'
 ·exact hs j hj h'
 ·obtain rfl:i=j:=by omega
  exact wpOp_step hi (fun K' hK=>h K' (fun a w hS hW=>hK a w ⟨hS,hW hS⟩))
theorem tkR (i:Nat) (h: ∀K':Act->World->Prop,Shut (∀a w,S w->(S w->wpAnyH P md ops Q S fuel (listed.setIfInBounds i true) a w)->K' a w)->if Region.wanted oi (yielded ops a.tmps)=true then Oper.wp P oi a w K' Q else K' (a.put oi.dst undef) w)
  (hi:ops[i]? =some oi:=by rfl) (hr:Region.ready md ops listed=[i]:=by kernel_rfl):wpAnyH P md ops Q S (fuel+1) listed a w:=wpAnyH_ready hr (by simp) (AllReadyH.cons hi h AllReadyH.nil)
theorem tkN (h:TwAt P md ops Q S (i+1) fuel listed a w) (_:tkNo md ops listed i=true:=by decide+kernel):TwAt P md ops Q S i fuel listed a w:=h
theorem tkX (h:TwAt P md ops Q S 0 fuel (listed.setIfInBounds i true) (a.put oi.dst undef) w) (hc:tkOk md ops listed i=true:=by decide+kernel) (hi:ops[i]? =some oi:=by rfl) (hg:Region.wanted oi (yielded ops a.tmps)=false:=by rfl)
  (hQ: ∀c a w,Q (.panic c) (a.put oi.dst undef) w->Q (.panic c) a w:=by exact fun _ _ _ h=>h) (hS:S w:=by assumption):TwAt P md ops Q S i (fuel+1) listed a w:=tks hc hi hg hQ hS h
theorem tkY (hv: ∀w,S w->(execOp a.eval oi).run P w= .ok (.value v) w) (h:TwAt P md ops Q S 0 fuel (listed.setIfInBounds i true) (a.put oi.dst v) w) (hc:tkOk md ops listed i=true:=by decide+kernel) (hi:ops[i]? =some oi:=by rfl)
  (hg:Region.wanted oi (yielded ops a.tmps)=true:=by rfl) (hQ: ∀c a w,Q (.panic c) (a.put oi.dst v) w->Q (.panic c) a w:=by exact fun _ _ _ h=>h) (hS:S w:=by assumption):TwAt P md ops Q S i (fuel+1) listed a w:=tkt hc hi hg hQ hS hv h
theorem tkM (h:TwAt P md ops Q S (i+1) fuel listed a w) (_:decide (i<ops.size)=true:=by decide+kernel):TwAt P md ops Q S i fuel listed a w:=h
theorem tkZ (h:Q .normal a w) (hr:Region.ready md ops listed=[]:=by decide+kernel):TwAt P md ops Q S i fuel listed a w:=tkd hr h
theorem tkB1 (h:BrAt P md ops Q S 0 fuel listed a w) (hr:(Region.ready md ops listed).isEmpty=false:=by decide+kernel):TwAt P md ops Q S i (fuel+1) listed a w:=tkb hr h
theorem brN (h:BrAt P md ops Q S (i+1) fuel listed a w) (hn:(decide (i<ops.size)&&!(Region.ready md ops listed).contains i)=true:=by decide+kernel):BrAt P md ops Q S i fuel listed a w:=brn hn h
theorem brE (hn:decide (i<ops.size)=false:=by decide+kernel):BrAt P md ops Q S i fuel listed a w:=bre hn
end
