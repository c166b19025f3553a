/- Parts. -/
import Derived.Lib.AppendZerosOnto
import Derived.Test.YtgbfdcmkbblodaaGreatDoorVXa
namespace Go.Proofs.YtgbfdcmkbblodaaGreatDoor
open Go.RowKit
set_option linter.unusedVariables false
set_option linter.unusedSimpArgs false
set_option maxRecDepth 100000
set_option maxHeartbeats 16000000
open Tryz
section
open Go.RowKit Go.Lib
theorem step_copy_runF {ops:Array Oper} {o:Oper} {a:Act} {w:World} {K:Act->World->Prop} {Q:Exit->Act->World->Prop} {E:Prop}
  (hg:o.guard=none) (d x:Operand) (dT sT:TypeId) (hop:o.op=Op.call {callee:=Callee.builtin Builtin.copy,args:=#[d,x],argTypes:=#[dT,sT]})
  (v u:Value) (hd:a.eval d=v) (hx:a.eval x=u) {v':Value} {w':World} (hr:(Builtin.copy_ #[dT,sT] o.type #[v,u]).run prog w= .ok v' w') (hK:K (a.put o.dst v') w'):
  if Region.wanted o (yielded ops a.tmps)=true then Oper.wp prog o a w K Q else E:=by
 have hw:Region.wanted o (yielded ops a.tmps)=true:=by simp[Region.wanted,hg]
 rw[if_pos hw];unfold Oper.wp;simp[execOp,hop,resolve,invoke,builtin,hd,hx,hr,Result.andThen];exact hK
theorem isSome_setCellsF (b:Nat) (vs:List Value) (o:Nat) (w:World) (h: ∀j,j<vs.length->(w.cell? ⟨b,o+j,none⟩).isSome=true) (k:Nat) (hk:(w.cell? ⟨b,k,none⟩).isSome=true):((w.setCells b o vs).cell? ⟨b,k,none⟩).isSome=true:=by
 by_cases hin:o<=k/\k<o+vs.length
 ·have:=World.cell?_setCells_in b vs o w h (k-o) (by omega);rw[show o+(k-o)=k by omega]at this;rw[this];rfl
 ·rw[World.cell?_setCells_out b vs o w ⟨b,k,none⟩ (fun _ _=>by show k<o\/o+vs.length<=k;omega)];exact hk
theorem info_fun:((prog.info? 105).map fun i=>(i.zero,i.size,i.bytes))=some (some .nilFunc,1,8):=by kernel_rfl
theorem insert_grow (b n m vb:Nat) (cs vs:List Value) (w:World) (hn:0<n) (hm:0<m) (hbig:(n+m)*8<=140737488355328)
  (hcl:cs.length=n) (hvl:vs.length=m)
  (hcs: ∀j v,cs[j]? =some v->w.cell? ⟨b,0+j,none⟩=some v)
  (hvs: ∀j v,vs[j]? =some v->w.cell? ⟨vb,0+j,none⟩=some v) (h1c: ∀v∈cs,v.oneCell'=true) (h1v: ∀v∈vs,v.oneCell'=true):
  Calls prog 66 #[.slice (some ⟨b,0,none⟩) n n,.int .i64 0,.slice (some ⟨vb,0,none⟩) m m] w fun e w'=>
   e= .returned (.slice (some ⟨w.heap.size,0,none⟩) (n+m) (grownCap w (n+m) n 105))/\
   w'=(((w.alloc (.cells (Builtin.zeroCells Value.nilFunc.cells (n+m)++Builtin.zeroCells Value.nilFunc.cells (grownCap w (n+m) n 105-(n+m))) 105)).drew.setCells w.heap.size 0 vs).drew).setCells w.heap.size m cs:=by
 obtain⟨i0,hi0,hz0,hzs,hzb⟩:=info_parts info_fun;obtain⟨hz1,hz2,hz3⟩: ¬((m:Int)=0)/\ ¬((0:Int)=(n:Int))/\(n:Int)<(n:Int)+(m:Int):=by and_intros<;>(omega)
 have hsz:(prog.info? 105).map (·.size)=some 1:=by rw[hi0];simp[hzs]
 have hbw:b<w.heap.size:=block_lt_of_cell (hcs 0 _ (List.getElem?_eq_getElem (by omega)));have hvw:vb<w.heap.size:=block_lt_of_cell (hvs 0 _ (List.getElem?_eq_getElem (by omega)));have hkk:(n:Int)+(m:Int) -0=((n+m:Nat):Int):=by omega
 have hold:(Builtin.firstCells i0.size 0 (.slice (some ⟨b,0,none⟩) 0 n)).run prog w.drew= .ok ([]:List Value).toArray w.drew:=by
  rw[hzs];exact run_firstCells_some w.drew 1 0 ⟨b,0,none⟩ 0 n [] rfl (fun j v hj=>by cases hj)
 have hrz: ∀ty,(Builtin.append_ #[108,3] ty #[.slice (some ⟨b,0,none⟩) 0 n,.int .i64 ((n:Int)+(m:Int) -0)]).run prog w=
   .ok (.slice (some ⟨w.heap.size,0,none⟩) (n+m) (grownCap w (n+m) n 105)) (w.drew.alloc (.cells (Builtin.zeroCells Value.nilFunc.cells (n+m)++Builtin.zeroCells Value.nilFunc.cells (grownCap w (n+m) n 105-(n+m))) 105)):=fun ty=>by
  have h:=Lib.run_append_grow_zeros w 108 3 ty 105 i0 _ .i64 .i64 underlying108 underlying3 hi0 hz0 (some ⟨b,0,none⟩) 0 n [] hold (n+m) (by omega) (by omega) (by omega) (by omega) (by rw[hzb];omega) (by rw[hzb,Nat.zero_add];exact growslice_fits (by omega) hbig);rw[Nat.zero_add]at h;rw[hkk];simpa using h
 obtain⟨G,hG⟩: ∃G,G=grownCap w (n+m) n 105:=⟨_,rfl⟩;obtain⟨ROW,hROW⟩: ∃ROW:Array Value,ROW=Builtin.zeroCells Value.nilFunc.cells (n+m)++Builtin.zeroCells Value.nilFunc.cells (G-(n+m)):=⟨_,rfl⟩;rw[<-hG]at hrz⊢;rw[<-hROW]at hrz⊢;have hRl:n+m<=ROW.size:=by
  rw[hROW];simp[Builtin.zeroCells,Value.cells]
  try omega
 obtain⟨W1,hW1⟩: ∃W1,W1=w.drew.alloc (.cells ROW 105):=⟨_,rfl⟩;rw[<-hW1]at hrz;have hN: ∀j,j<n+m->(W1.cell? ⟨w.heap.size,j,none⟩).isSome=true:=fun j hj=>by
  rw[hW1,World.cell?_alloc_at (w:=w.drew) ROW _ w.heap.size j rfl,Array.getElem?_eq_getElem (by omega)];rfl
 have hNf: ∀j,W1.frozen? ⟨w.heap.size,j,none⟩=false:=fun j=>by rw[hW1];exact World.frozen?_alloc_at (w:=w.drew) ROW _ w.heap.size j rfl
 have hOb: ∀j v,w.cell? ⟨b,j,none⟩=some v->W1.cell? ⟨b,j,none⟩=some v:=fun j v h=>by rw[hW1,World.cell?_alloc_past (w:=w.drew) _ b j hbw];exact h
 have hOv: ∀j v,w.cell? ⟨vb,j,none⟩=some v->W1.cell? ⟨vb,j,none⟩=some v:=fun j v h=>by rw[hW1,World.cell?_alloc_past (w:=w.drew) _ vb j hvw];exact h
 have hcpA: ∀(W:World),(∀x,W.cell? x=W1.cell? x)->(∀x,W.frozen? x=W1.frozen? x)-> ∀ty dc,(Builtin.copy_ #[108,108] ty #[.slice (some ⟨w.heap.size,0,none⟩) (n+m) dc,.slice (some ⟨vb,0,none⟩) m m]).run prog W= .ok (goInt vs.length) (W.setCells w.heap.size 0 vs):=fun W hWc hWf ty dc=>
  run_copy_cells W _ _ ty 105 w.heap.size 0 (n+m) dc ⟨vb,0,none⟩ m m vs underlying108 hsz (by rw[hvl];simp only[Nat.min_def];split<;>omega)
   (fun j v hj=>by rw[Addr.add_lit,hWc];exact hOv _ v (hvs j v hj))
   (fun j hj=>by rw[hWc];exact hN _ (by omega)) (fun j hj=>by rw[hWf];exact hNf _) h1v
 have hGn:n+m<=G:=by rw[hG];exact grownCap_ge w _ _ _
 have hG63:G<=9223372036854775807:=by
  have:=grownCap_le_maxLen w (n+m) n 105 (by unfold maxLen;omega);rw[<-hG]at this;unfold maxLen at this;omega
 obtain⟨hGi,hGim,hci,hbN⟩: ¬(G=0)/\ ¬(G=m)/\ ¬(n=0)/\b≠w.heap.size:=by and_intros<;>(omega)
 have hcpB: ∀(W:World),(∀x,W.cell? x=(W1.setCells w.heap.size 0 vs).cell? x)->(∀x,W.frozen? x=(W1.setCells w.heap.size 0 vs).frozen? x)-> ∀ty dc sc,(Builtin.copy_ #[108,108] ty #[.slice (some ⟨w.heap.size,m,none⟩) (n+m-m) dc,.slice (some ⟨b,0,none⟩) n sc]).run prog W= .ok (goInt cs.length) (W.setCells w.heap.size m cs):=fun W hWc hWf ty dc sc=>
  run_copy_cells W _ _ ty 105 w.heap.size m (n+m-m) dc ⟨b,0,none⟩ n sc cs underlying108 hsz (by rw[hcl];simp only[Nat.min_def];split<;>omega)
   (fun j v hj=>by
    rw[Addr.add_lit,hWc,World.cell?_setCells_out _ _ _ _ _ (fun h _=>absurd h hbN)]
    exact hOb _ v (hcs j v hj))
   (fun j hj=>by rw[hWc];exact isSome_setCellsF _ _ _ _ (fun t ht=>hN _ (by omega)) _ (hN _ (by omega)))
   (fun j hj=>by rw[hWf,World.frozen?_setCells];exact hNf _) h1c
 subst hW1;have hE1: ∀x,((w.alloc (.cells ROW 105)).drew).cell? x=(w.drew.alloc (.cells ROW 105)).cell? x:=fun x=>rfl;have hE2: ∀x,((w.alloc (.cells ROW 105)).drew).frozen? x=(w.drew.alloc (.cells ROW 105)).frozen? x:=fun x=>rfl;have hF1: ∀x,(((w.alloc (.cells ROW 105)).drew.setCells w.heap.size 0 vs).drew).cell? x=((w.drew.alloc (.cells ROW 105)).setCells w.heap.size 0 vs).cell? x:=fun x=>rfl;have hF2: ∀x,(((w.alloc (.cells ROW 105)).drew.setCells w.heap.size 0 vs).drew).frozen? x=((w.drew.alloc (.cells ROW 105)).setCells w.heap.size 0 vs).frozen? x:=fun x=>rfl;have hb3:(0:Int)<=(n:Int):=by omega
 have hb4:(0:Int)<=(m:Int):=by omega
 have hwm:IntKind.i64.wrap (m:Int)=(m:Int):=by rw[IntKind.wrap_i64];omega
 have hb5:(m:Int)<=(n:Int)+(m:Int):=by omega
 have mixed:prog.follows Departure.mixedOrders=true:=by kernel_rfl
 have hwn:IntKind.i64.wrap ((n:Int)+(m:Int))=(n:Int)+(m:Int):=by rw[IntKind.wrap_i64];omega
 clear hkk hold hROW hG hRl;go_enter func66,ntmps66
 go_wp2_with (first
  |(at_builtin;refine Lib.wpList_append_run _ rfl _ _ _ _ rfl _ _ rfl rfl _ _ (hrz _) ?_)
  |(at_builtin;refine wpList_copy_runF _ rfl _ _ 108 108 rfl _ _ rfl rfl (hcpA _ hE1 hE2 _ _) ?_)
  |(at_builtin;refine wpList_copy_runF _ rfl _ _ 108 108 rfl _ _ rfl rfl (hcpB _ (fun _=>rfl) (fun _=>rfl) _ _ _) ?_))
 go_region_law_o (refine step_copy_runF rfl _ _ 108 108 rfl (.slice (some ⟨w.heap.size,m,none⟩) (n+m-m) (G-m)) (.slice (some ⟨b,0,none⟩) n n) (by simp[Act.eval,Act.put]) (by simp[Act.eval,Act.put]) (hcpB _ hF1 hF2 3 (G-m) n) ?_)
 go_wp2;go_ret;exact⟨rfl,rfl⟩
end
inductive WOp
 |cut
 |app
 |sync
 |mv
namespace WOp
def act (t:ByteArray) (d:Dk):WOp->Dk×Int
 | .cut=>d.cut 5 0
 | .app=>d.append 5 t
 | .sync=>d.sync
 | .mv=>d.move 5 4
def run (t:ByteArray):List WOp->Dk->Dk×Int
 | [],d=>(d,0)
 |o::l,d=>if(o.act t d).2≠0 then o.act t d else run t l (o.act t d).1
def all:List WOp:=[.app,.sync,.mv,.sync]
theorem run_one (t:ByteArray) (o:WOp) (d:Dk):run t [o] d=o.act t d:=by
 unfold run;split
 ·rfl
 ·rename_i h;have h:(o.act t d).2=0:=by simpa using h
  unfold run;rw[<-h]
theorem run_cons (t:ByteArray) (o:WOp) (l:List WOp) (d:Dk):run t (o::l) d=if(o.act t d).2≠0 then o.act t d else run t l (o.act t d).1:=by rw[run]
theorem run_all (t:ByteArray) (d:Dk):run t all d=d.write2 t:=by
 unfold all;rw[run_cons,run_cons,run_cons,run_one];rfl
theorem write_run (d:Dk) (x:Sv) (h0:(putSv x).2=0) (h1:(d.read 5).2=0):
  ((d.read 5).1.size=0->d.write x=run (bstr (putSv x).1) all d)/\((d.read 5).1.size≠0->d.write x=run (bstr (putSv x).1) (.cut::all) d):=by
 unfold Dk.write;rw[if_neg (by simpa using h0),if_neg (by simpa using h1)];refine⟨fun h=>?_,fun h=>?_⟩
 ·rw[if_neg (show ¬(d.read 5).1.size≠0 from fun k=>k h)];dsimp only;rw[if_neg (show ¬(0:Int)≠0 by decide),run_all];rfl
 ·rw[if_pos h,run_cons,run_all];rfl
theorem change_loose (d:Dk) (c:Chg):(d.change c).1.loose.length<=d.loose.length+1:=by
 obtain⟨_,_,_,o3⟩:=Dk.op_same d;unfold Dk.change;split
 ·show(d.op.1.loose++ [c]).length<=_;rw[o3,la0];exact le0
 ·rw[o3];exact Nat.le_succ _
theorem act_loose (t:ByteArray) (d:Dk) (o:WOp):(o.act t d).1.loose.length<=d.loose.length+1:=by
 obtain⟨_,_,_,o3⟩:=Dk.op_same d
 cases o
 ·show(d.cut 5 0).1.loose.length<=_;unfold Dk.cut
  (repeat' split)<;>first|exact Nat.le_succ _|exact change_loose _ _
 ·show(d.append 5 t).1.loose.length<=_;unfold Dk.append
  (repeat' split)<;>first|exact Nat.le_succ _|exact change_loose _ _
 ·show d.sync.1.loose.length<=_;unfold Dk.sync
  (repeat' split)
  ·exact Nat.le_succ _
  ·exact ze0
  ·rw[o3];exact Nat.le_succ _
 ·show(d.move 5 4).1.loose.length<=_;unfold Dk.move
  (repeat' split)<;>first|exact Nat.le_succ _|exact change_loose _ _
def fn:WOp->Nat
 | .cut=>67
 | .app=>64
 | .sync=>59
 | .mv=>65
def args (db bb D:Nat):WOp->Array Value
 | .cut=> #[px db]
 | .app=> #[px db,px bb]
 | .sync=> #[px D]
 | .mv=> #[px db]
def val (db bb D:Nat):WOp->Value
 | .cut=> .func (.func 67) #[] #[.pointer (some ⟨db,0,none⟩)]
 | .app=> .func (.func 64) #[] #[.pointer (some ⟨db,0,none⟩),.pointer (some ⟨bb,0,none⟩)]
 | .sync=> .func (.func 59) #[.pointer (some ⟨D,0,none⟩)] #[]
 | .mv=> .func (.func 65) #[] #[.pointer (some ⟨db,0,none⟩)]
theorem step_c (o:WOp) (t:ByteArray) (ht:t.size<=140737488355328) (w:World) (N:Nat->Prop) (D:Nat) (d:Dk) (h:DkAt w N D d) (db bb:Nat) (hd:Bq w db (px D)) (hb:Bq w bb (.string t)) (hll:d.loose.length<=1000000000):
  Calls prog o.fn (o.args db bb D) w fun e w'=>e= .returned (.int .i64 (o.act t d).2)/\DkTo w w' N D (o.act t d).1:=by
 have c0:=hd.cell;have c1:=hb.cell
 cases o
 ·have HA:=Lh (Cut_c w N D d h 5 0 hll);show Calls prog 67 #[px db] w fun e w'=>e= .returned (.int .i64 (d.cut 5 0).2)/\DkTo w w' N D (d.cut 5 0).1;generalize d.cut 5 0=R at*;clear h hd hb;unfold px at*;go_enter func67,ntmps67
  go_wp2_with (first|(go_at_call 55;refine HA.o.mono ?_;rintro e w1 ⟨rfl,hT⟩)|fail)
  go_ret;exact⟨rfl,hT⟩
 ·have HA:=Lh (Append_c w N D d h 5 t (le1 ht (by decide)) hll);show Calls prog 64 #[px db,px bb] w fun e w'=>e= .returned (.int .i64 (d.append 5 t).2)/\DkTo w w' N D (d.append 5 t).1;generalize d.append 5 t=R at*;clear h hd hb;unfold px at*;go_enter func64,ntmps64
  go_wp2_with (first|(go_at_call 53;refine HA.o.mono ?_;rintro e w1 ⟨rfl,hT⟩)|fail)
  go_ret;exact⟨rfl,hT⟩
 ·exact Sync_c w N D d h
 ·have HA:=Lh (Move_c w N D d h 5 4 hll);show Calls prog 65 #[px db] w fun e w'=>e= .returned (.int .i64 (d.move 5 4).2)/\DkTo w w' N D (d.move 5 4).1;generalize d.move 5 4=R at*;clear h hd hb;unfold px at*;go_enter func65,ntmps65
  go_wp2_with (first|(go_at_call 57;refine HA.o.mono ?_;rintro e w1 ⟨rfl,hT⟩)|fail)
  go_ret;exact⟨rfl,hT⟩
end WOp
theorem two_bel (w:World) (c1 c2:Array Value) (t1 t2:TypeId):Below w.heap.size w ((w.alloc (.cells c1 t1)).alloc (.cells c2 t2)):=((Below.refl w.heap.size w).alloc le0 _).alloc (by simp) _
theorem below_cells {B:Nat} {a:World} (b:Nat) (hb:B<=b): ∀(vs:List Value) (o:Nat) {w:World},Below B a w->Below B a (w.setCells b o vs)
 | [],_,_,h=>h
 |v::r,o,w,h=>by rw[World.setCells];exact below_cells b hb r (o+1) (h.setCell (p:=⟨b,o,none⟩) hb v)
theorem Insert_c (w:World) (b vb:Nat) (t t':TypeId) (cs:Array Value) (v:Value) (h:Blk w b t cs) (hv:Blk w vb t' #[v]) (h0:0<cs.size) (h1:cs.size<=1000) (hc: ∀x∈cs.toList,x.oneCell'=true) (hv1:v.oneCell'=true):
  Calls prog 66 #[.slice (some ⟨b,0,none⟩) cs.size cs.size,.int .i64 0,.slice (some ⟨vb,0,none⟩) 1 1] w fun e w'=>
   ∃c,cs.size+1<=c/\c<=maxLen/\e= .returned (.slice (some ⟨w.heap.size,0,none⟩) (cs.size+1) c)/\(∀j x,(v::cs.toList)[j]? =some x->w'.cell? ⟨w.heap.size,j,none⟩=some x)/\w.heap.size<w'.heap.size/\Below w.heap.size w w':=by
 have hcl:cs.toList.length=cs.size:=by simp
 refine(insert_grow b cs.size 1 vb cs.toList [v] w h0 (by decide) (by omega) hcl rfl (fun j x hj=>?_) (fun j x hj=>?_) hc (fun x hx=>by rw[List.mem_singleton.1 hx];exact hv1)).mono ?_
 ·rw[Nat.zero_add,h.cell,<-hj];simp
 ·rw[Nat.zero_add,hv.cell,<-hj];simp
 rintro e w' ⟨rfl,rfl⟩;have hg:=grownCap_ge w (cs.size+1) cs.size 105;have hm:=grownCap_le_maxLen w (cs.size+1) cs.size 105 (by unfold maxLen;omega);generalize grownCap w (cs.size+1) cs.size 105=G at*;obtain⟨ROW,hROW⟩: ∃ROW:Array Value,ROW=Builtin.zeroCells Value.nilFunc.cells (cs.size+1)++Builtin.zeroCells Value.nilFunc.cells (G-(cs.size+1)):=⟨_,rfl⟩;rw[<-hROW];have hRl:cs.size+1<=ROW.size:=by
  rw[hROW];simp[Builtin.zeroCells,Value.cells]
 clear hROW;have hN: ∀j,j<cs.size+1->((w.alloc (.cells ROW 105)).drew.cell? ⟨w.heap.size,j,none⟩).isSome=true:=fun j hj=>by
  show((w.alloc (.cells ROW 105)).cell? ⟨w.heap.size,j,none⟩).isSome=true;rw[(Blk.new w ROW 105).cell,Array.getElem?_eq_getElem (by omega)];rfl
 have hb:Below w.heap.size w (w.alloc (.cells ROW 105)):=br0.alloc le0 _;have h2:Below w.heap.size w (((w.alloc (.cells ROW 105)).drew.setCells w.heap.size 0 [v]).drew):=(below_cells _ le0 [v] 0 hb.drew).drew;have h3:=below_cells w.heap.size le0 cs.toList 1 h2;have hz0: ∀j,j< [v].length->j=0:=fun j hj=>by simpa using hj
 refine⟨G,hg,hm,rfl,fun j x hj=>?_,?_,h3⟩
 ·cases j with
  |zero=>
   simp only[List.getElem?_cons_zero,Option.some.injEq]at hj;subst hj;rw[World.cell?_setCells_out _ _ _ _ _ (fun _ _=>by show 0<1\/_;exact .inl (by decide))];show((w.alloc (.cells ROW 105)).drew.setCells w.heap.size 0 [v]).cell? ⟨w.heap.size,0,none⟩=_;have:=World.cell?_setCells_in w.heap.size [v] 0 (w.alloc (.cells ROW 105)).drew (fun j hj=>by rw[hz0 j hj];exact hN 0 (by omega)) 0 (by simp);simpa using this
  |succ j=>
   rw[List.getElem?_cons_succ]at hj;have hjl:j<cs.toList.length:=by
    rcases Nat.lt_or_ge j cs.toList.length with h|h
    ·exact h
    ·rw[List.getElem?_eq_none h]at hj;cases hj
   have:=World.cell?_setCells_in w.heap.size cs.toList 1 (((w.alloc (.cells ROW 105)).drew.setCells w.heap.size 0 [v]).drew) (fun k hk=>by
    show(((w.alloc (.cells ROW 105)).drew.setCells w.heap.size 0 [v]).cell? ⟨w.heap.size,1+k,none⟩).isSome=true
    exact isSome_setCellsF _ _ _ _ (fun i hi=>by rw[hz0 i hi];exact hN 0 (by omega)) _ (hN _ (by omega))) j hjl
   rw[Nat.add_comm 1 j]at this;rw[this,<-hj,List.getElem?_eq_getElem hjl]
 ·have:=h3.size;have e: ∀(vs:List Value) (o:Nat) (W:World),(W.setCells w.heap.size o vs).heap.size=W.heap.size:=by
   intro vs
   induction vs with
   |nil=>intro o W;rfl
   |cons a r ih=>intro o W;rw[World.setCells,ih];simp[World.setCell]
  rw[e];show w.heap.size<((w.alloc (.cells ROW 105)).drew.setCells w.heap.size 0 [v]).heap.size;rw[e];show w.heap.size<(w.alloc (.cells ROW 105)).heap.size;simp
structure LpAt (w W:World) (M:Nat->Prop) (D db bb rb:Nat) (ops:List WOp) (t:ByteArray) (d:Dk):Prop where
 below:Below w.heap.size w W
 dk:DkAt W M D d
 bd:Bq W db (px D)
 bt:Bq W bb (.string t)
 row: ∀k (h:k<ops.length),W.cell? ⟨rb,k,none⟩=some (ops[k].val db bb D)
 lt:rb<W.heap.size
 ge:w.heap.size<=db/\w.heap.size<=bb/\w.heap.size<=rb
theorem DkTo.after {w W w':World} {M:Nat->Prop} {D:Nat} {d:Dk} (hb:Below w.heap.size w W) (h:DkTo W w' M D d):DkTo w w' M D d:=
 ⟨(Fr.of_new hb).trans h.1,by obtain⟨_,K,hK,hd⟩:=h;exact⟨K,fun b hb2=>(hK b hb2).imp id (fun e=>le1 hb.size e),hd⟩⟩
theorem DkTo.then {w w1 w2:World} {M N:Nat->Prop} {D:Nat} {d2:Dk} (hf:Fr M w w1) (hN: ∀b,N b->M b\/w.heap.size<=b) (h:DkTo w1 w2 N D d2):DkTo w w2 M D d2:=by
 obtain⟨hf2,N2,hN2,h2⟩:=h;refine⟨hf.step hf2 (fun _ _ h=>h) (fun i hi hn=>?_),N2,fun b hb=>?_,h2⟩
 ·rcases hN i hn with h|h
  ·exact h
  ·omega
 ·rcases hN2 b hb with h|h
  ·exact hN b h
  ·exact .inr (le1 hf.size h)
theorem str_empty (s:ByteArray):(s.toList.isEmpty=true->s.size=0)/\(s.toList.isEmpty=false->s.size≠0):=by
 rw[ByteArray.toList_eq];refine⟨fun h=>?_,fun h k=>?_⟩
 ·show s.data.size=0;rw[<-Array.length_toList,List.isEmpty_iff.1 h];rfl
 ·have e:s.data.toList=[]:=List.length_eq_zero_iff.1 (by rw[Array.length_toList];exact k);rw[e]at h
  cases h
theorem write_low (d:Dk) (x:Sv):((putSv x).2≠0->d.write x=(d,(putSv x).2))/\((putSv x).2=0->(d.read 5).2≠0->d.write x=(d,(d.read 5).2)):=by
 unfold Dk.write;exact⟨fun h=>if_pos h,fun h h2=>by rw[if_neg (by simpa using h),if_pos h2]⟩
theorem SvWrite_c (w:World) (M:Nat->Prop) (D:Nat) (d:Dk) (h:DkAt w M D d) (x:Sv) (hok:x.Ok) (hfew:x.few) (v:Value) (hv:SvAt w v x) (hsz:(putSv x).1.length<=140737488355328) (hll:d.loose.length<=999999990):
  Calls prog 19 #[px D,v] w fun e w'=>e= .returned (.int .i64 (d.write x).2)/\DkTo w w' M D (d.write x).1:=by
 obtain⟨nv,sv,rfl,hnd,hst⟩:=hv;obtain⟨a,cap,rfl,hcap,hmx⟩:=hnd.slice;obtain⟨sa,scap,rfl,hsc,hsm⟩:=hst.slice;have hmf: ∀(fn:Fn) (first cap:Array Value) (w:World),(Instr.makeFunc fn first cap).run prog w= .ok (.func fn first cap) w:=fun _ _ _ _=>rfl;have hll2:x.states.length<=9223372036854775807:=hok.many;have hB2:=two_bel w #[px D] (svC x (.slice a x.job.nodes.length cap) (.slice sa x.states.length scap)) 39 27;have hbd:Bq ((w.alloc (.cells #[px D] 39)).alloc (.cells (svC x (.slice a x.job.nodes.length cap) (.slice sa x.states.length scap)) 27)) w.heap.size (px D):=(Bq.new_at w _ _ rfl).alloc _;have hbs:=Blk.new_at (w.alloc (.cells #[px D] 39)) (svC x (.slice a x.job.nodes.length cap) (.slice sa x.states.length scap)) 27 (k:=w.heap.size+1) (by simp);have HP:=Lh (SvPut_c x hok hfew (.agg (svC x (.slice a x.job.nodes.length cap) (.slice sa x.states.length scap))) _ ⟨_,_,rfl,(hnd.keep hB2).mono hB2.size,hst.keep (fun b hb=>lt1 hb hB2.size) (fun b hb=>hB2.block b hb)⟩);have hdk2:=h.below hB2;have HW:=Lh (write_low d x);have HR:=Lh (WOp.write_run d x);have HT:Hd ((bstr (putSv x).1).size<=140737488355328):=by show _<=_;rw[bstr_size];exact hsz
 generalize d.write x=R at*;generalize bstr (putSv x).1=t at*;generalize (putSv x).2=pe at*;have HH:=Lh h;have HLL:=Lh hll;unfold svC px at*;clear hnd hst h hfew hok hsz hll;go_enter func19,ntmps19
 go_upto_region 1 with fail
 generalize World.alloc (World.alloc w _) _=W2 at*;obtain⟨s0,s1,s2,s3,s4⟩:=hbs.q5;have c0:=hbd.cell;by_cases hpe:pe=0
 case neg=>
  have hRR:Hd (R=(d,pe)):=HW.o.1 hpe;have e0:(pe !=0)=true:=by simpa using hpe
  clear hpe HW HR;have HB2:=Lh hB2;clear hB2 hbs hbd hdk2
  go_wp2_with (first|(go_at_call 7;refine HP.o.mono ?_;rintro e w3 ⟨rfl,hb3⟩)|fail)
  go_ret;rw[hRR.o];have hb4:=HB2.o.trans (hb3.mono HB2.o.size);exact⟨rfl,HH.o.toB (hb4.alloc hb4.size _)⟩
 subst hpe;have HW1:=Lh (HW.o.2 rfl);have HR1:Hd (((d.read 5).2=0)->((d.read 5).1.size=0->R=WOp.run t WOp.all d)/\((d.read 5).1.size≠0->R=WOp.run t (.cut::WOp.all) d)):=HR.o rfl;have HBD:=Lh hbd;have HB2:=Lh hB2;have HDK:=Lh hdk2;clear HW HR hbd hbs hB2 hdk2
 go_upto_region 6 with (first|(go_at_call 7;refine HP.o.mono ?_;rintro e w3 ⟨rfl,hb3⟩)|fail)
 have hbt:Bq (w3.alloc (.cells #[.string t] 9)) w3.heap.size (.string t):=Bq.new_at w3 _ _ rfl;have hb4:=hb3.alloc hb3.size (.cells #[.string t] 9);have hge:w.heap.size<=w3.heap.size:=le1 HB2.o.size hb3.size;have HGE:=Lh hge;generalize World.alloc w3 _=W4 at*;generalize w3.heap.size=bb at*;clear hb3 c0 s0 s1 s2 s3 s4 hge;have hbd4:Bq W4 w.heap.size (.pointer (some ⟨D,0,none⟩)):=by obtain⟨t2,hb⟩:=HBD.o;exact⟨t2,hb.below hb4 hb.lt⟩
 have hdk4:=HDK.o.below hb4;have hB4:=HB2.o.trans (hb4.mono HB2.o.size);have HRD:=Lh (Read_c W4 M D d hdk4 5);have c0:=hbd4.cell;unfold px at HRD;have HB4:=Lh hB4;have HBD4:=Lh hbd4;have HDK4:=Lh hdk4;have HBT4:=Lh hbt;generalize d.read 5=rd at*;obtain⟨s,re⟩:=rd;dsimp only at HRD HR1 HW1;clear hB4 hbd4 hdk4 hbt hb4 HDK HBD HB2;by_cases hre:re=0
 case neg=>
  have hRR:Hd (R=(d,re)):=HW1.o hre;have e0:(re !=0)=true:=by simpa using hre
  clear hre HW1 HR1
  go_wp2_with (first|(go_at_call 61;refine HRD.o.mono ?_;rintro e w5 ⟨rfl,hb5⟩)|fail)
  go_ret;rw[hRR.o];exact⟨rfl,HH.o.toB (HB4.o.trans (hb5.mono HB4.o.size))⟩
 subst hre;have HR2:=Lh (HR1.o rfl);clear HR1 HW1
 go_upto_region 9 with (first|(go_at_call 61;refine HRD.o.mono ?_;rintro e w5 ⟨rfl,hb5⟩)|fail)
 have hB5:=HB4.o.trans (hb5.mono HB4.o.size);have hbd5:Bq w5 w.heap.size (.pointer (some ⟨D,0,none⟩)):=by obtain⟨t2,hb⟩:=HBD4.o;exact⟨t2,hb.below hb5 hb.lt⟩
 have hbt5:Bq w5 bb (.string t):=by obtain⟨t2,hb⟩:=HBT4.o;exact⟨t2,hb.below hb5 hb.lt⟩
 have hdk5:=HDK4.o.below hb5;have c0:=hbd5.cell;have HB5:=Lh hB5;have HBD5:=Lh hbd5;have HBT5:=Lh hbt5;have HDK5:=Lh hdk5;clear hB5 hbd5 hbt5 hdk5 hb5 HB4 HBD4 HBT4 HDK4 HRD
 go_upto_if 38 with fail
 go_cut [8] (fun s8 wx=> ∃(ops:List WOp) (rb cap:Nat),s8= .slice (some ⟨rb,0,none⟩) ops.length cap/\ops.length<=cap/\cap<=maxLen/\ops.length<=5/\LpAt w wx M D w.heap.size bb rb ops t d/\R=WOp.run t ops d)
 case first=>
  have hA:=(Below.refl w5.heap.size w5).alloc le0 (.cells #[WOp.val w.heap.size bb D .app,WOp.val w.heap.size bb D .sync,WOp.val w.heap.size bb D .mv,WOp.val w.heap.size bb D .sync] 105);have hrow:=Blk.new w5 #[WOp.val w.heap.size bb D .app,WOp.val w.heap.size bb D .sync,WOp.val w.heap.size bb D .mv,WOp.val w.heap.size bb D .sync] 105;have HLP:Hd (∀(W:World) (rb:Nat) (ops:List WOp),Below w5.heap.size w5 W->w5.heap.size<=rb->rb<W.heap.size->(∀k (h:k<ops.length),W.cell? ⟨rb,k,none⟩=some (ops[k].val w.heap.size bb D))->LpAt w W M D w.heap.size bb rb ops t d):=fun W rb ops hb hg hl hr=>
   ⟨HB5.o.trans (hb.mono HB5.o.size),HDK5.o.below hb,by obtain⟨t2,h⟩:=HBD5.o;exact⟨t2,h.below hb h.lt⟩,by obtain⟨t2,h⟩:=HBT5.o;exact⟨t2,h.below hb h.lt⟩,hr,hl,le0,HGE.o,le1 HB5.o.size hg⟩
  have HA:=Lh hA;have HROW:=Lh hrow
  cases hq:s.toList.isEmpty
  case true=>
   have hRR:Hd (R=WOp.run t WOp.all d):=HR2.o.1 ((str_empty s).1 hq);clear hA hrow HR2
   go_wp2_with fail
   go_meet;refine⟨WOp.all,w5.heap.size,4,rfl,le0,by decide,by decide,HLP.o _ _ _ HA.o le0 HROW.o.lt ?_,hRR.o⟩;intro k hk;have hk:k<4:=hk;have:=HROW.o.cell k;rcases(show k=0\/k=1\/k=2\/k=3 by omega)with rfl|rfl|rfl|rfl<;>exact this
  case false=>
   have hRR:Hd (R=WOp.run t (.cut::WOp.all) d):=HR2.o.2 ((str_empty s).2 hq);clear hA hrow HR2;have hz2:((w5.alloc (.cells #[WOp.val w.heap.size bb D .app,WOp.val w.heap.size bb D .sync,WOp.val w.heap.size bb D .mv,WOp.val w.heap.size bb D .sync] 105)).alloc (.cells #[WOp.val w.heap.size bb D .cut] 105)).heap.size=w5.heap.size+1+1:=by simp
   have hI:=Insert_c ((w5.alloc (.cells #[WOp.val w.heap.size bb D .app,WOp.val w.heap.size bb D .sync,WOp.val w.heap.size bb D .mv,WOp.val w.heap.size bb D .sync] 105)).alloc (.cells #[WOp.val w.heap.size bb D .cut] 105)) w5.heap.size (w5.heap.size+1) _ _ _ _ (HROW.o.alloc _) (Blk.new_at _ _ _ (by simp)) (by simp) (by simp) (fun x hx=>by
    simp only[List.mem_cons,List.not_mem_nil,or_false]at hx
    rcases hx with rfl|rfl|rfl|rfl<;>rfl) rfl
   rw[hz2]at hI;have HI:=Lh hI;clear hI hz2
   go_wp2_with (first|(go_at_call 66;refine HI.o.mono ?_;rintro e w6 ⟨c,hc1,hc2,rfl,hcell,hlt,hb6⟩)|fail)
   go_meet;have h2:=HA.o.alloc HA.o.size (.cells #[WOp.val w.heap.size bb D .cut] 105);refine⟨.cut::WOp.all,_,c,rfl,hc1,hc2,by decide,HLP.o w6 _ _ (h2.trans (hb6.mono (by omega))) (by omega) hlt ?_,hRR.o⟩;intro k hk;have hk:k<5:=hk;refine hcell k _ ?_;rcases(show k=0\/k=1\/k=2\/k=3\/k=4 by omega)with rfl|rfl|rfl|rfl|rfl<;>rfl
 case rest=>
 obtain⟨ops,rb,cp,rfl,hc1,hc2,hlen,hlp,hrun⟩:=hcut;have HLP:=Lh hlp;have HRUN:=Lh hrun;have HLEN:=Lh hlen;clear hlp hrun c0 HR2 HB5 HBD5 HBT5 HDK5;have hnm:ops.length<=9223372036854775807:=by omega
 generalize hN:ops.length=N at*;have HN:=Lh hN;clear hN hlen
 go_upto_region 13 with fail
 go_loopw [45] (fun q wr=> ∃(k:Nat) (dk:Dk),q= .int .i64 k/\k<=N/\DkTo wc wr M D dk/\dk.loose.length<=999999990+k/\WOp.run t (ops.drop k) dk=R) (fun q _=>N-(intOf q).toNat)
 case atStart=>exact⟨0,d,rfl,ze0,HLP.o.dk.tos,HLL.o,HRUN.o.symm⟩
 case round=>
  obtain⟨k,dk,rfl,hk,hT,hl,hr⟩:=hrel;by_cases hlt:k<N
  ·have hko:k<ops.length:=by rw[HN.o];exact hlt
   rw[List.drop_eq_getElem_cons hko,WOp.run_cons]at hr;have hM: ∀b,w.heap.size<=b-> ¬M b:=fun b hb hm=>by have:=HH.o.lt b hm;omega
   have hrow:=(World.cell?_of_block (a:=⟨rb,k,none⟩) (hT.1.block rb HLP.o.lt (hM _ HLP.o.ge.2.2))).trans (HLP.o.row k hko);have hbd:=HLP.o.bd.fr hT.1 (hM _ HLP.o.ge.1);have hbt:=HLP.o.bt.fr hT.1 (hM _ HLP.o.ge.2.1);have HS:Hd (∃K,(∀b,K b->M b\/wc.heap.size<=b)/\Calls prog (ops[k]).fn ((ops[k]).args w.heap.size bb D) wr fun e w'=>e= .returned (.int .i64 ((ops[k]).act t dk).2)/\DkTo wr w' K D ((ops[k]).act t dk).1):=by
    obtain⟨_,K,hK,hd⟩:=hT;exact⟨K,hK,WOp.step_c _ t HT.o wr K D dk hd w.heap.size bb hbd hbt (by have:=HLEN.o;omega)⟩
   have HAL:=Lh (WOp.act_loose t dk ops[k]);have HTT:=Lh hT;have HL:=Lh hl;have HRR:=Lh hr;clear hT hl hr hbd hbt hM;generalize hrest:ops.drop (k+1)=rest at*;have HREST:=Lh hrest;clear hrest;generalize ops[k]=o at*;obtain⟨K,hK,hstep⟩:=HS.o;have HK:=Lh hK;have HST:=Lh hstep;clear HS hK hstep;generalize hA:o.act t dk=A at*;clear hA;obtain⟨d2,e2⟩:=A;dsimp only at HRR HAL HST;by_cases he:e2=0
   ·subst he;have hR2:Hd (WOp.run t rest d2=R):=by show _=_;rw[<-HRR.o,if_neg (by decide)]
    cases o
    all_goals
     simp only[WOp.val]at hrow;unfold WOp.fn WOp.args px at HST;dsimp only at HST
     go_wp2_with (first
      |(go_at_call 64;refine HST.o.mono ?_;rintro e w6 ⟨rfl,hT6⟩)
      |(go_at_call 65;refine HST.o.mono ?_;rintro e w6 ⟨rfl,hT6⟩)
      |(go_at_call 67;refine HST.o.mono ?_;rintro e w6 ⟨rfl,hT6⟩)
      |(go_at_call 59;refine HST.o.mono ?_;rintro e w6 ⟨rfl,hT6⟩)
      |fail)
     go_roundw
     case rel=>exact⟨k+1,d2,by go_num,by omega,DkTo.then HTT.o.1 HK.o hT6,by have:=HAL.o;have:=HL.o;omega,by rw[HREST.o];exact hR2.o⟩
     case measure=>simp[intOf];omega
   ·have hR2:Hd (R=(d2,e2)):=by show _=_;rw[<-HRR.o,if_pos he]
    have e0:(e2 !=0)=true:=by simpa using he
    clear he
    cases o
    all_goals
     simp only[WOp.val]at hrow;unfold WOp.fn WOp.args px at HST;dsimp only at HST
     go_wp2_with (first
      |(go_at_call 64;refine HST.o.mono ?_;rintro e w6 ⟨rfl,hT6⟩)
      |(go_at_call 65;refine HST.o.mono ?_;rintro e w6 ⟨rfl,hT6⟩)
      |(go_at_call 67;refine HST.o.mono ?_;rintro e w6 ⟨rfl,hT6⟩)
      |(go_at_call 59;refine HST.o.mono ?_;rintro e w6 ⟨rfl,hT6⟩)
      |fail)
     go_ret;rw[hR2.o];exact⟨rfl,DkTo.after HLP.o.below (DkTo.then HTT.o.1 HK.o hT6)⟩
  ·have hkn:k=N:=by omega
   have HRN:Hd (R=(dk,0)):=by
    show _=_;rw[<-hr,List.drop_of_length_le (by rw[HN.o];omega)];rfl
   have HTT:=Lh hT;clear hT hr hl;subst hkn
   go_wp2_with fail
   go_ret;rw[HRN.o];exact⟨rfl,DkTo.after HLP.o.below HTT.o⟩
