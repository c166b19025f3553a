/- Parts. -/
import Derived.Laws.EntriesVeiled
import Derived.Deep.CutBlock
import Derived.Test.YtgbfdcmkbblodaaGreatDoorVW9b
namespace Go.Proofs.YtgbfdcmkbblodaaGreatDoor
open Go.RowKit
set_option linter.unusedVariables false
set_option linter.unusedSimpArgs false
set_option maxRecDepth 100000
set_option maxHeartbeats 16000000
open Tryz
mutual
def Ex.count:Ex->Nat->Nat
 | .mk _ _ l,left=>if 0<left then Exs.count l (left-1)else left
def Exs.count:List Ex->Nat->Nat
 | [],left=>left
 |x::l,left=>Exs.count l (x.count left)
end
theorem Ex.count_eq (x:Ex) (left:Nat):x.count left=if 0<left then Exs.count x.args (left-1)else left:=by obtain⟨o,n,l⟩:=x;rfl
mutual
theorem Ex.count_le: ∀(x:Ex) (left:Nat),x.count left<=left
 | .mk o n l,left=>by
  simp only[Ex.count]
  have:=Exs.count_le l (left-1)
  split<;>omega
theorem Exs.count_le: ∀(l:List Ex) (left:Nat),Exs.count l left<=left
 | [],left=>by simp[Exs.count]
 |x::l,left=>by
  simp only[Exs.count]
  have:=Exs.count_le l (x.count left)
  have:=Ex.count_le x left
  omega
end
structure Cn (w:World) (bL bC left:Nat):Prop where
 L:Blk w bL 3 #[.int .i64 left]
 C:Blk w bC 213 #[.func (.func 155) #[] #[.pointer (some ⟨bL,0,none⟩),.pointer (some ⟨bC,0,none⟩)]]
theorem Cn.alloc {w:World} {bL bC left:Nat} (h:Cn w bL bC left) (o:Obj):Cn (w.alloc o) bL bC left:=⟨h.L.alloc o,h.C.alloc o⟩
theorem Cn.set {w:World} {bL bC left:Nat} (h:Cn w bL bC left) (hne:bL≠bC) (k:Nat):Cn (w.setCell ⟨bL,0,none⟩ (.int .i64 k)) bL bC k:=⟨h.L.set 0 _,h.C.other (p:=⟨bL,0,none⟩) (Ne.symm hne) _⟩
def CountC (h:Nat):Prop:= ∀(x:Ex) (v:Value) (B:Nat) (w:World) (bL bC left:Nat),x.ht<=h->ExAt w B v x->B<=bL->bL≠bC->left<=2000->Cn w bL bC left->
 Calls prog 155 #[v,.pointer (some ⟨bL,0,none⟩),.pointer (some ⟨bC,0,none⟩)] w fun e w'=>e= .returned (.tuple #[])/\Cn w' bL bC (x.count left)/\Fr (fun k=>k=bL) w w'
theorem count_step (h:Nat) (IH:Hd (∀x:Ex,x.ht<h-> ∀(v:Value) (B:Nat) (w:World) (bL bC left:Nat),ExAt w B v x->B<=bL->bL≠bC->left<=2000->Cn w bL bC left->
   Calls prog 155 #[v,.pointer (some ⟨bL,0,none⟩),.pointer (some ⟨bC,0,none⟩)] w fun e w'=>e= .returned (.tuple #[])/\Cn w' bL bC (x.count left)/\Fr (fun k=>k=bL) w w')):CountC h:=by
 intro x v B w bL bC left hh hv hB hne hleft hC;have HLT:Hd (∀a∈x.args,a.ht<h):=fun a ha=>by have:=Ex.ht_args x a ha;omega
 have HE:=Lh (Ex.count_eq x left);obtain⟨sv,rfl,hs⟩:=hv;obtain⟨a,cap,rfl,hcap,hmx⟩:=hs.slice;have HS:=Lh hs;have hlm:x.args.length<=9223372036854775807:=by unfold maxLen at hmx;omega
 generalize x.op=o at*;generalize x.n=n at*;generalize x.args=l at*;clear hs hh;have HNE:=Lh hne;have hbl:=hC.L.lt;have hbc:=hC.C.lt;by_cases h0:0<left
 ·have HE2:Hd (x.count left=Exs.count l (left-1)):=by show _=_;rw[HE.o,if_pos h0]
  have hC2:=(hC.set hne (left-1)).alloc (.cells #[.int .u8 o,.int .i64 n,.slice a l.length cap] 133);have hF2:Fr (fun k=>k=bL) w ((w.setCell ⟨bL,0,none⟩ (.int .i64 ((left-1:Nat):Int))).alloc (.cells #[.int .u8 o,.int .i64 n,.slice a l.length cap] 133)):=(Fr.setCell (S:=fun k=>k=bL) (Fr.refl _ w) (p:=⟨bL,0,none⟩) (.inl rfl) _).alloc _;rw[show((left-1:Nat):Int)=(left:Int) -1 by omega]at hC2 hF2;have c0:=hC.L.cell 0;have f0:=hC.L.free 0;have h0i:(0:Int)<(left:Int):=by omega
  clear HE hne;go_enter func155,ntmps155
  go_wp2_with fail
  generalize World.alloc (World.setCell w _ _) _=W2 at*;clear c0 f0
  go_loopw [13] (fun q wr=> ∃(j lf:Nat),q= .int .i64 j/\j<=l.length/\lf<=2000/\Fr (fun k=>k=bL) w wr/\Cn wr bL bC lf/\Exs.count (l.drop j) lf=Exs.count l (left-1)) (fun q _=>l.length-(intOf q).toNat)
  case atStart=>exact⟨0,left-1,rfl,ze0,by omega,hF2,hC2,rfl⟩
  case round=>
   obtain⟨j,lf,rfl,hj,hlf,hFr,hCr,hr⟩:=hrel;by_cases hlt:j<l.length
   ·have hBr:Below B w wr:=hFr.below (by omega) (fun k hk e=>by omega);obtain⟨b,off,cp,sv,e1,hb,c0,c1,c2,hsub⟩:=(HS.o.keep hBr).at_ j hlt;simp only[vs0,true_and]at e1;obtain⟨rfl,rfl⟩:=e1;obtain⟨a2,cap2,rfl,_,_⟩:=hsub.slice;rw[List.drop_eq_getElem_cons hlt]at hr;simp only[Exs.count]at hr;have hht:=HLT.o _ (List.getElem_mem hlt);have hx: ∀X,Below B wr X->ExAt X B (.agg #[.int .u8 (l[j]'hlt).op,.int .i64 (l[j]'hlt).n,.slice a2 (l[j]'hlt).args.length cap2]) (l[j]'hlt):=fun X hX=>⟨_,rfl,hsub.keep hX⟩;have hcl:=Ex.count_le (l[j]'hlt) lf;generalize l[j]=y at*;have HX:=Lh hx;have HR:=Lh hr;clear hr hx hsub;have hbw:B<=wr.heap.size:=by have:=hFr.size;omega
    have hK:=hCr.alloc (.cells #[.int .u8 y.op,.int .i64 y.n,.slice a2 y.args.length cap2] 133);have k0:=hK.C.cell 0
    go_wp2_with (go_at_call 155;refine(IH.o y hht _ B _ bL bC lf (HX.o _ (br0.alloc hbw _)) hB HNE.o hlf hK).mono ?_;rintro e w3 ⟨rfl,hc3,hf3⟩)
    go_roundw
    case rel=>exact⟨j+1,y.count lf,by go_num,by omega,by omega,(hFr.alloc _).trans hf3,hc3,HR.o⟩
    case measure=>simp[intOf];omega
   ·rw[List.drop_of_length_le (by omega)]at hr;simp only[Exs.count]at hr;subst hr;go_wp2
    go_end0
    exact⟨rfl,by rw[HE2.o];exact hCr,hFr⟩
 ·have HE2:Hd (x.count left=left):=by show _=_;rw[HE.o,if_neg h0]
  have hC1:=hC.alloc (.cells #[.int .u8 o,.int .i64 n,.slice a l.length cap] 133);have c0:=hC1.L.cell 0;have h0i: ¬(0:Int)<(left:Int):=by omega
  clear HE hne;go_enter func155,ntmps155;go_wp2
  go_end0
  exact⟨rfl,by rw[HE2.o];exact hC1,(Fr.refl _ w).alloc _⟩
theorem count_all (h:Nat):CountC h:=by
 induction h using Nat.strongRecOn with
 |ind h ih=>exact count_step h (fun x hx v B w bL bC left hv hB hne hl hC=>ih x.ht hx x v B w bL bC left le0 hv hB hne hl hC)
def countGo:List Nd->Nat->Nat
 | [],left=>left
 |d::l,left=>countGo l (d.x.count left)
theorem countGo_le: ∀(l:List Nd) (left:Nat),countGo l left<=left
 | [],_=>le0
 |d::l,left=>le1 (countGo_le l _) (Ex.count_le _ _)
def Jb.parts (j:Jb):Nat:=1001-countGo j.nodes 1001
theorem parts_c (jb:Jb) (v:Value) (B:Nat) (w:World) (hv:JbAt w B v jb) (hB:B<=w.heap.size):
  CB prog 125 #[v] w (.int .i64 jb.parts):=by
 have hmf: ∀(fn:Fn) (first cap:Array Value) (w:World),(Instr.makeFunc fn first cap).run prog w= .ok (.func fn first cap) w:=fun _ _ _ _=>rfl;have HE:Hd (jb.parts=1001-countGo jb.nodes 1001):=rfl;have hle:=countGo_le jb.nodes 1001;obtain⟨sv,rfl,hs⟩:=hv;obtain⟨a,cap,rfl,hcap,hmx⟩:=hs.slice;have HS:=Lh hs;have hlm:jb.nodes.length<=9223372036854775807:=by unfold maxLen at hmx;omega
 generalize jb.nodes=l at*;generalize jb.par=par at*;generalize jb.parts=pp at*;clear hs;have hJ:=Blk.new w #[.int .i64 par,.slice a l.length cap] 24;have hW:=((((Below.refl w.heap.size w).alloc le0 (.cells #[.int .i64 par,.slice a l.length cap] 24)).alloc (by simp) (.cells #[.int .i64 1001] 3)).alloc (by simp;omega) (.cells #[.func (.func 155) #[] #[.pointer (some ⟨w.heap.size+1,0,none⟩),.pointer (some ⟨w.heap.size+1+1,0,none⟩)]] 213));have hC:Cn (((w.alloc (.cells #[.int .i64 par,.slice a l.length cap] 24)).alloc (.cells #[.int .i64 1001] 3)).alloc (.cells #[.func (.func 155) #[] #[.pointer (some ⟨w.heap.size+1,0,none⟩),.pointer (some ⟨w.heap.size+1+1,0,none⟩)]] 213)) (w.heap.size+1) (w.heap.size+1+1) 1001:=
  ⟨(Blk.new_at _ _ _ (by simp)).alloc _,Blk.new_at _ _ _ (by simp)⟩
 clear hJ;go_enter func125,ntmps125
 go_wp2_with fail
 generalize World.alloc (World.alloc (World.alloc w _) _) _=W at*
 go_loopw [11] (fun q wr=> ∃(j lf:Nat),q= .int .i64 j/\j<=l.length/\lf<=1001/\Below w.heap.size w wr/\Cn wr (w.heap.size+1) (w.heap.size+1+1) lf/\countGo (l.drop j) lf=countGo l 1001) (fun q _=>l.length-(intOf q).toNat)
 case atStart=>exact⟨0,1001,rfl,ze0,by omega,hW,hC,rfl⟩
 case round=>
  obtain⟨j,lf,rfl,hj,hlf,hBr,hCr,hr⟩:=hrel;by_cases hlt:j<l.length
  ·obtain⟨b,off,cp,e1,hb,hu,iv,sv,c0,c1,c2,c3,c4,c5,c6,hin⟩:=((HS.o.mono hB).keep hBr).at_ j hlt;simp only[vs0,true_and]at e1;obtain⟨rfl,rfl⟩:=e1;obtain⟨a2,cap2,rfl,_,_⟩:=hin.2.slice;obtain⟨_,ai,capi,rfl,_,_,_⟩:=id hin.1;rw[List.drop_eq_getElem_cons hlt]at hr;simp only[countGo]at hr;have hx: ∀X,Below w.heap.size wr X->ExAt X w.heap.size (.agg #[.int .u8 (l[j]'hlt).x.op,.int .i64 (l[j]'hlt).x.n,.slice a2 (l[j]'hlt).x.args.length cap2]) (l[j]'hlt).x:=fun X hX=>⟨_,rfl,hin.2.keep hX⟩;have hcl:=Ex.count_le (l[j]'hlt).x lf;generalize l[j]=y at*;have HX:=Lh hx;have HR:=Lh hr;clear hr hx hin;have hbw:w.heap.size<=wr.heap.size:=hBr.size;have hK:=hCr.alloc (.cells #[.string y.uid,.int .u8 y.kind,.slice ai y.ins.length capi,.int .u8 y.x.op,.int .i64 y.x.n,.slice a2 y.x.args.length cap2,.int .i64 y.n] 135);have k0:=hK.C.cell 0
   go_wp2_with (go_at_call 155;refine(count_all _ y.x _ w.heap.size _ (w.heap.size+1) (w.heap.size+1+1) lf le0 (HX.o _ (br0.alloc hbw _)) (by omega) (by omega) (by omega) hK).mono ?_;rintro e w3 ⟨rfl,hc3,hf3⟩)
   go_roundw
   case rel=>exact⟨j+1,y.x.count lf,by go_num,by omega,by omega,(hBr.alloc hbw _).trans (hf3.below (by simp;omega) (fun k hk e=>by omega)),hc3,HR.o⟩
   case measure=>simp[intOf];omega
  ·rw[List.drop_of_length_le (by omega)]at hr;simp only[countGo]at hr;subst hr;have k0:=hCr.L.cell 0;go_wp2;go_ret;exact⟨ret_int (by rw[HE.o];omega),hBr⟩
theorem info_strJ:(prog.info? 9).map (fun i=>(i.zero,i.size,i.bytes))=some (some (.string {data:=#[]}),1,16):=by kernel_rfl
theorem own_set {w:World} {base:Nat} {e:TypeId} {g n cap:Nat} {xs:List Value} (h:w.ownsRow base e 1 (.slice (some ⟨g,0,none⟩) n cap) n xs) (j:Nat) (u:Value):
  (w.setCell ⟨g,j,none⟩ u).ownsRow base e 1 (.slice (some ⟨g,0,none⟩) n cap) n (xs.set j u):=by
 obtain⟨h1,h2⟩:=h;refine⟨by simpa using h1,.inr ?_⟩;rcases h2 with ⟨h0,_⟩|⟨g',cap',cur,hv,hb,hg,hn,hc,hs,ht⟩
 ·cases h0
 ·simp only[vs0,Option.some.injEq,Addr.mk.injEq,and_true,true_and]at hv;obtain⟨rfl,rfl⟩:=hv;refine⟨g,cap,cur.setIfInBounds j u,rfl,hb,heap_setCell_same w g j cur e u hg,hn,hc,by simpa using hs,?_⟩;rw[Array.toList_setIfInBounds,List.take_set,ht]
theorem own_cells {w:World} {base:Nat} {e:TypeId} {g n cap:Nat} {xs:List Value} (h:w.ownsRow base e 1 (.slice (some ⟨g,0,none⟩) n cap) n xs):base<=g/\g<w.heap.size/\ ∀j,j<n->w.cell? ⟨g,j,none⟩=xs[j]? /\w.frozen? ⟨g,j,none⟩=false:=by
 obtain⟨h1,h2⟩:=h;rcases h2 with ⟨h0,_⟩|⟨g',cap',cur,hv,hb,hg,hn,hc,hs,ht⟩
 ·cases h0
 ·simp only[vs0,Option.some.injEq,Addr.mk.injEq,and_true,true_and]at hv;obtain⟨rfl,rfl⟩:=hv;refine⟨hb,(Array.getElem?_eq_some_iff.1 hg).1,fun j hj=>⟨?_,frozen_of_row w g j cur e hg⟩⟩;rw[cell_of_row w g j cur e (0,0) hg,<-ht,List.getElem?_take,if_pos (by omega)];simp
def st1:List Nd->Nat->List ByteArray->Option (Int×Int)
 | [],_,_=>none
 |d::l,k,us=>bif nodeB d k then(bif twiceB (fun x y=>decide (x=y)) (us++ [d.uid])then some ((k:Int),121)else st1 l (k+1) (us++ [d.uid]))else some ((k:Int),120)
def sumW (ws:List Int):List Int->Int
 | []=>0
 |z::l=>ws.getD z.toNat 0+sumW ws l
def wayN (d:Nd) (ws:List Int):Int:=if d.kind=1 then 1 else if d.kind=4 then sumW ws d.ins*4 else sumW ws d.ins
def flatN (d:Nd) (f:Int):Int:=if d.kind=4 then f+1 else f
def badB (j:Jb) (d:Nd) (k:Nat) (f1 w1:Int):Bool:=
 ((d.kind==1) !=((k:Int)==0))||(((d.kind==9) !=((k:Int)==(j.nodes.length:Int) -1))||(((((j.readers k).length:Int)==0) !=((k:Int)==(j.nodes.length:Int) -1))||
  (decide (3<((j.readers k).length:Int))||(decide (2<f1)||decide (64<w1)))))
def st2 (j:Jb):List Nd->Nat->Int->List Int->Option (Int×Int)
 | [],_,_,_=>none
 |d::l,k,f,ws=>bif badB j d k (flatN d f) (wayN d ws)then some ((k:Int),122)else st2 j l (k+1) (flatN d f) (ws++ [wayN d ws])
def Jb.argB (j:Jb):Bool:=decide (j.par<1)||(decide (4<j.par)||(decide (j.nodes.length<2)||(decide (12<j.nodes.length)||decide (1000<j.parts))))
def Jb.may (j:Jb):Int×Int:=if j.argB=true then(0,2)else match st1 j.nodes 0 []with
 |some r=>r
 |none=>match st2 j j.nodes 0 0 []with
  |some r=>r
  |none=>(0,0)
theorem argB_cases (j:Jb):(j.argB=true/\(j.par<1\/(1<=j.par/\4<j.par)\/(1<=j.par/\j.par<=4/\j.nodes.length<2)\/(1<=j.par/\j.par<=4/\2<=j.nodes.length/\12<j.nodes.length)\/
  (1<=j.par/\j.par<=4/\2<=j.nodes.length/\j.nodes.length<=12/\1000<j.parts)))\/(j.argB=false/\1<=j.par/\j.par<=4/\2<=j.nodes.length/\j.nodes.length<=12/\j.parts<=1000):=by
 have e:j.argB=decide (j.par<1\/4<j.par\/j.nodes.length<2\/12<j.nodes.length\/1000<j.parts):=by
  unfold Jb.argB;simp
 by_cases h:j.par<1\/4<j.par\/j.nodes.length<2\/12<j.nodes.length\/1000<j.parts
 ·exact .inl ⟨by rw[e];exact dt0 h,by omega⟩
 ·exact .inr ⟨by rw[e];exact df0 h,by omega⟩
theorem st1_node: ∀(l:List Nd) (k:Nat) (us:List ByteArray),st1 l k us=none-> ∀i (h:i<l.length),nodeB (l[i]'h) (((k+i:Nat):Int))=true
 |d::l,k,us,h,i,hi=>by
  simp only[st1]at h
  cases hn:nodeB d k
  ·rw[hn]at h;simp at h
  ·rw[hn]at h
   cases ht:twiceB (fun x y=>decide (x=y)) (us++ [d.uid])
   ·rw[ht]at h
    simp only[cond_true,cond_false]at h
    cases i with
    |zero=>simpa using hn
    |succ i=>
     have:=st1_node l (k+1) _ h i (by simpa using hi)
     rw[show k+(i+1)=k+1+i by omega]
     simpa using this
   ·rw[ht]at h;simp at h
theorem nodeB_in (d:Nd) (k:Nat) (h:nodeB d k=true):d.ins.length<=3/\1<=d.kind/\d.kind<=9/\ ∀z∈d.ins,0<=z/\z<(k:Int):=by
  rcases nodeB_cases d k with ⟨_,hr⟩|⟨_,_,hr⟩|⟨_,_,_,hr⟩|⟨_,_,_,_,hr⟩|⟨_,_,_,_,_,hr⟩|⟨_,_,_,_,_,_,hr⟩|⟨_,_,_,_,_,_,_,hr⟩|⟨_,_,_,_,_,_,_,_,hr⟩|⟨_,_,_,_,_,_,_,_,_,hr⟩|⟨h1,h2,h3,h4,h5,h6,h7,h8⟩|⟨h1,h2,h3,h4,h5,h6,h7,h8⟩
  all_goals first
    |(rw[h]at hr;cases hr)
    | (have e : rMost d.kind ≤ 3 := by unfold rMost; repeat' split
                                       all_goals omega
       have a5: ¬rMost d.kind<(d.ins.length:Int):=by simpa using h5
       have a2: ¬d.kind<1:=by simpa using h2
       have a3: ¬9<d.kind:=by simpa using h3
       refine⟨by omega,by omega,by omega,fun z hz=>?_⟩
       have:=List.any_eq_false.1 h7 z hz
       simp only[outB,Bool.or_eq_true,decide_eq_true_eq,not_or]at this
       omega)
theorem badB_cases (j:Jb) (d:Nd) (k:Nat) (f1 w1:Int):
  (badB j d k f1 w1=true/\(((d.kind==1) !=((k:Int)==0))=true\/(((d.kind==1) !=((k:Int)==0))=false/\((d.kind==9) !=((k:Int)==(j.nodes.length:Int) -1))=true)\/
   (((d.kind==1) !=((k:Int)==0))=false/\((d.kind==9) !=((k:Int)==(j.nodes.length:Int) -1))=false/\((((j.readers k).length:Int)==0) !=((k:Int)==(j.nodes.length:Int) -1))=true)\/
   (((d.kind==1) !=((k:Int)==0))=false/\((d.kind==9) !=((k:Int)==(j.nodes.length:Int) -1))=false/\((((j.readers k).length:Int)==0) !=((k:Int)==(j.nodes.length:Int) -1))=false/\decide (3<((j.readers k).length:Int))=true)\/
   (((d.kind==1) !=((k:Int)==0))=false/\((d.kind==9) !=((k:Int)==(j.nodes.length:Int) -1))=false/\((((j.readers k).length:Int)==0) !=((k:Int)==(j.nodes.length:Int) -1))=false/\decide (3<((j.readers k).length:Int))=false/\decide (2<f1)=true)\/
   (((d.kind==1) !=((k:Int)==0))=false/\((d.kind==9) !=((k:Int)==(j.nodes.length:Int) -1))=false/\((((j.readers k).length:Int)==0) !=((k:Int)==(j.nodes.length:Int) -1))=false/\decide (3<((j.readers k).length:Int))=false/\decide (2<f1)=false/\decide (64<w1)=true)))\/
  (badB j d k f1 w1=false/\((d.kind==1) !=((k:Int)==0))=false/\((d.kind==9) !=((k:Int)==(j.nodes.length:Int) -1))=false/\((((j.readers k).length:Int)==0) !=((k:Int)==(j.nodes.length:Int) -1))=false/\decide (3<((j.readers k).length:Int))=false/\decide (2<f1)=false/\decide (64<w1)=false):=by
 unfold badB;generalize ((d.kind==1) !=((k:Int)==0))=b1;generalize ((d.kind==9) !=((k:Int)==(j.nodes.length:Int) -1))=b2;generalize ((((j.readers k).length:Int)==0) !=((k:Int)==(j.nodes.length:Int) -1))=b3;generalize decide (3<((j.readers k).length:Int))=b4;generalize decide (2<f1)=b5;generalize decide (64<w1)=b6
 cases b1<;>cases b2<;>cases b3<;>cases b4<;>cases b5<;>cases b6<;>simp
theorem own_ne {w:World} {base:Nat} {e t:TypeId} {g n cap b:Nat} {xs:List Value} {cs:Array Value} (h:w.ownsRow base e 1 (.slice (some ⟨g,0,none⟩) n cap) n xs) (hb:Blk w b t cs) (hne:e≠t):g≠b:=by
 rcases h.2 with ⟨h0,_⟩|⟨g',cap',cur,hv,_,hg,_⟩
 ·cases h0
 ·simp only[vs0,Option.some.injEq,Addr.mk.injEq,and_true,true_and]at hv;obtain⟨rfl,rfl⟩:=hv;intro he;subst he;unfold Blk at hb;rw[hg]at hb;simp only[Option.some.injEq,Obj.cells.injEq]at hb;exact hne hb.2.1
theorem own_keep {w w':World} {base:Nat} {e:TypeId} {size n:Nat} {v:Value} {xs:List Value} (h:w.ownsRow base e size v n xs) (hb:Below w.heap.size w w'):w'.ownsRow base e size v n xs:=
 h.kept (row:=none) ⟨hb.os,hb.tape,hb.output,hb.size,fun k hk _=>hb.block k hk⟩ (by cases hv:v.ownBlock<;>simp)
theorem Sl.across {a b w:World} {B size n:Nat} {v:Value} {cs:List Value} (h:Sl a B size v n cs) (h1:Below B w a) (h2:Below B w b):Sl b B size v n cs:=by
 obtain⟨g1,d,cap,hv,g2,g3,g4⟩:=h;refine⟨g1,d,cap,hv,g2,g3,g4.imp id ?_⟩;rintro ⟨k,off,ha,hlt,hc⟩;exact⟨k,off,ha,hlt,fun j hj=>(h2.cell (p:=⟨k,off+j,none⟩) hlt).trans ((h1.cell (p:=⟨k,off+j,none⟩) hlt).symm.trans (hc j hj))⟩
theorem sum_at {k:Nat} {ws:List Int} (hwk:ws.length=k) (z:Nat) (hz:z<k) (hb: ∀q∈ws,0<=q/\q<=64): ∃q:Int,ws.getD z 0=q/\0<=q/\q<=64/\ ∀acc:Int,((ws++ [acc]).map (Value.int .i64))[z]? =some (.int .i64 q):=by
 have hz2:z<ws.length:=by omega
 refine⟨ws[z],by simp[List.getD_eq_getElem?_getD,hz2],(hb _ (List.getElem_mem hz2)).1,(hb _ (List.getElem_mem hz2)).2,fun acc=>?_⟩;rw[List.map_append,List.getElem?_append_left (by simpa using hz2)];simp[hz2]
theorem at_end {k:Nat} {ws:List Int} (hwk:ws.length=k) (acc:Int):((ws++ [acc]).map (Value.int .i64))[k]? =some (.int .i64 acc):=by
 subst hwk;simp
structure M3Rel (y:Nd) (job node:Array Value) (w:World) (bN g k capg:Nat) (ws:List Int) (acc:Int) (wi:World):Prop where
 below:Below w.heap.size w wi
 job:Blk wi w.heap.size 24 job
 node:Blk wi bN 135 node
 own:wi.ownsRow (w.heap.size+1) 3 1 (.slice (some ⟨g,0,none⟩) (k+1) capg) (k+1) ((ws++ [acc]).map (Value.int .i64))
theorem M3Rel.drew {y:Nd} {job node:Array Value} {w wi:World} {bN g k capg:Nat} {ws:List Int} {acc:Int} (h:M3Rel y job node w bN g k capg ws acc wi):M3Rel y job node w bN g k capg ws acc wi.drew:=⟨h.below.drew,h.job,h.node,h.own⟩
theorem M3Rel.keep {y:Nd} {job node:Array Value} {w wi wj:World} {bN g k capg:Nat} {ws:List Int} {acc:Int} (h:M3Rel y job node w bN g k capg ws acc wi) (hb:Below wi.heap.size wi wj):M3Rel y job node w bN g k capg ws acc wj:=
 ⟨h.below.trans (hb.mono h.below.size),h.job.below hb h.job.lt,h.node.below hb h.node.lt,own_keep h.own hb⟩
theorem M3Rel.set {y:Nd} {job node:Array Value} {w wi:World} {bN g k capg:Nat} {ws:List Int} {acc:Int} (h:M3Rel y job node w bN g k capg ws acc wi) (hk:ws.length=k) (u:Int):
  M3Rel y job node w bN g k capg ws u (wi.setCell ⟨g,k,none⟩ (.int .i64 u)):=by
 have h1:=own_ne h.own h.node (by decide);have h2:=(own_cells h.own).1;refine⟨h.below.setCell (by show _<=g;omega) _,h.job.other (p:=⟨g,k,none⟩) (by show _≠g;omega) _,h.node.other (p:=⟨g,k,none⟩) (fun e=>h1 e.symm) _,?_⟩;have:=own_set h.own k (.int .i64 u);rw[List.map_append,List.map_cons,List.map_nil,List.set_append_right _ _ (by simp[hk])]at this;rw[List.map_append,List.map_cons,List.map_nil];simpa[hk]using this
structure M1Rel (l:List Nd) (par:Int) (a:Option Addr) (cap:Nat) (w:World) (s q:Value) (wr:World):Prop where
 ex: ∃(k:Nat) (us:List ByteArray),q= .int .i64 k/\k<=l.length/\Below w.heap.size w wr/\Blk wr w.heap.size 24 #[.int .i64 par,.slice a l.length cap]/\
  wr.ownsRow (w.heap.size+1) 9 1 s us.length (us.map Value.string)/\us.length=k/\st1 (l.drop k) k us=st1 l 0 []
structure M2Rel (jb:Jb) (l:List Nd) (par:Int) (a:Option Addr) (cap:Nat) (w:World) (s8 s9 q:Value) (wr:World):Prop where
 ex: ∃(k:Nat) (f:Int) (ws:List Int),q= .int .i64 k/\k<=l.length/\s8= .int .i64 f/\0<=f/\f<=2/\Below w.heap.size w wr/\Blk wr w.heap.size 24 #[.int .i64 par,.slice a l.length cap]/\
  wr.ownsRow (w.heap.size+1) 3 1 s9 k (ws.map (Value.int .i64))/\ws.length=k/\(∀z∈ws,0<=z/\z<=64)/\st2 jb (l.drop k) k f ws=st2 jb l 0 0 []
theorem May_c1 (jb:Jb) (v:Value) (B:Nat) (w:World) (hv:JbAt w B v jb) (hB:B<=w.heap.size):
  CB prog 71 #[v] w (.tuple #[.int .i64 jb.may.1,.int .i64 jb.may.2]):=by
 obtain⟨i0,hi,hz0,hz1,hz2⟩:=info_parts info_strJ;obtain⟨j0,ki,kz0,kz1,kz2⟩:=info_parts info_intJ;have hv2:=hv;obtain⟨sv,rfl,hs⟩:=hv;obtain⟨a,cap,rfl,hcap,hmx⟩:=hs.slice;have hlm:jb.nodes.length<=9223372036854775807:=by unfold maxLen at hmx;omega
 have HS:=Lh hs;have HJ:=Lh hv2;have HM:Hd (jb.may=if jb.argB=true then(0,2)else match st1 jb.nodes 0 []with
  |some r=>r
  |none=>match st2 jb jb.nodes 0 0 []with
   |some r=>r
   |none=>(0,0)):=rfl
 have hcs:=argB_cases jb;have hNJ:=Blk.new w #[.int .i64 jb.par,.slice a jb.nodes.length cap] 24;have hW:=(Below.refl w.heap.size w).alloc le0 (.cells #[.int .i64 jb.par,.slice a jb.nodes.length cap] 24);clear hs hv2;rcases hcs with ⟨hr,hc⟩|⟨hr,hc1,hc2,hc3,hc4,hc5⟩
 ·have HM2:Hd (jb.may=(0,2)):=by show _=_;rw[HM.o,if_pos hr]
  clear hr HM;rcases hc with h1|⟨h1,h2⟩|⟨h1,h2,h3⟩|⟨h1,h2,h3,h4⟩|⟨h1,h2,h3,h4,h5⟩
  all_goals
   go_enter func71,ntmps71
   go_wp2_with (go_at_call 125;refine(parts_c jb _ _ _ (HJ.o.keep (hW.mono hB)) (by have:=hW.size;omega)).mono ?_;rintro e w1 ⟨rfl,hb1⟩)
   go_ret2
   first
   |exact⟨by rw[HM2.o];rfl,hW⟩
   |exact⟨by rw[HM2.o];rfl,hW.trans (hb1.mono hW.size)⟩
 ·have HM2:Hd (jb.may=match st1 jb.nodes 0 []with
   |some r=>r
   |none=>match st2 jb jb.nodes 0 0 []with
    |some r=>r
    |none=>(0,0)):=by show _=_;rw[HM.o,if_neg (by rw[hr];simp)]
  clear hr HM;have HNM:Hd (∀i (h:i<jb.nodes.length),st1 jb.nodes 0 []=none->nodeB (jb.nodes[i]'h) (i:Int)=true):=fun i h h'=>by have:=st1_node jb.nodes 0 [] h' i h;simpa using this
  have HRD:Hd (∀(at_:Int) (v:Value) (B:Nat) (w:World) (hv:JbAt w B v jb) (hB:B<=w.heap.size),Calls prog 128 #[v,.int .i64 at_] w fun e w'=> ∃v',e= .returned v'/\Sl w' w'.heap.size 1 v' (jb.readers at_).length ((jb.readers at_).map (Value.int .i64))/\Below w.heap.size w w'):=
   fun at_ v B w hv hB=>readers_c jb at_ v B w hv hB (by omega)
  have HBC:=Lh (badB_cases jb);have hrl:Hd (∀at_,(jb.readers at_).length<=jb.nodes.length):=fun at_=>by
   unfold Jb.readers;have: ∀(l:List Nd) (k:Nat),(readersGo at_ l k).length<=l.length:=by
    intro l
    induction l with
    |nil=>simp[readersGo]
    |cons d l ih=>
     intro k;simp only[readersGo]
     cases d.ins.any (fun y=>at_==y)
     ·have:=ih (k+1);simp only[cond_false,List.length_cons];omega
     ·have:=ih (k+1);simp only[cond_true,List.length_cons];omega
   exact this _ _
  generalize hl:jb.nodes=l at*;have HL:=Lh hl;generalize jb.par=par at*;generalize hmay:jb.may=mm at*;have hW1:w.heap.size+1<=(w.alloc (.cells #[.int .i64 par,.slice a l.length cap] 24)).heap.size:=by simp
  clear hl hmay;have hc2b: ¬4<par:=by omega
  go_enter func71,ntmps71
  go_upto_region 4 with (go_at_call 125;refine(parts_c jb _ _ _ (HJ.o.keep (hW.mono hB)) (by have:=hW.size;omega)).mono ?_;rintro e w1 ⟨rfl,hb1⟩;have hJ1:=hNJ.below hb1 hNJ.lt;have g0:=hJ1.cell 0;have g1:=hJ1.cell 1)
  have hB1:=hW.trans (hb1.mono hW.size);have hz1':=hb1.size;clear hb1 hNJ hW hc5
  go_wp2_with fail
  go_loopw [5,43] (fun s q wr=>M1Rel l par a cap w s q wr) (fun _ q _=>l.length-(intOf q).toNat)
  case atStart=>exact⟨⟨0,[],rfl,ze0,hB1,hJ1,World.ownsRow_nil _ _ _ _,rfl,rfl⟩⟩
  case round=>
   obtain⟨k,us,rfl,hk,hBr,hJr,hown,huk,hr⟩:=hrel.ex;clear hrel g0 g1 hJ1 hB1 hz1';have hbw:w.heap.size+1<=wr.heap.size:=hJr.lt;by_cases hlt:k<l.length
   ·skip
    obtain⟨b,off,cp,e1,hb,hu,iv,sv,c0,c1,c2,c3,c4,c5,c6,hin⟩:=((HS.o.mono hB).keep hBr).at_ k hlt;simp only[vs0,true_and]at e1;obtain⟨rfl,rfl⟩:=e1;obtain⟨a2,cap2,rfl,_,_⟩:=hin.2.slice;obtain⟨_,ai,capi,rfl,_,hcm,_⟩:=id hin.1;rw[List.drop_eq_getElem_cons hlt]at hr;simp only[st1]at hr;generalize l[k]=y at*;have HNY:Hd (NdAt wr w.heap.size (.agg #[.string y.uid,.int .u8 y.kind,.slice ai y.ins.length capi,.int .u8 y.x.op,.int .i64 y.x.n,.slice a2 y.x.args.length cap2,.int .i64 y.n]) y):=⟨_,_,rfl,hin,hu⟩;have HR:=Lh hr;rename_i hx1 hx2 hx3;clear hr hin hx1 hx2 hx3 hu;have hBn:=hBr.alloc (by omega) (.cells #[.string y.uid,.int .u8 y.kind,.slice ai y.ins.length capi,.int .u8 y.x.op,.int .i64 y.x.n,.slice a2 y.x.args.length cap2,.int .i64 y.n] 135);have hJn:=hJr.alloc (.cells #[.string y.uid,.int .u8 y.kind,.slice ai y.ins.length capi,.int .u8 y.x.op,.int .i64 y.x.n,.slice a2 y.x.args.length cap2,.int .i64 y.n] 135);have hNn:=Blk.new wr #[.string y.uid,.int .u8 y.kind,.slice ai y.ins.length capi,.int .u8 y.x.op,.int .i64 y.x.n,.slice a2 y.x.args.length cap2,.int .i64 y.n] 135;have hon:=hown.alloc (.cells #[.string y.uid,.int .u8 y.kind,.slice ai y.ins.length capi,.int .u8 y.x.op,.int .i64 y.x.n,.slice a2 y.x.args.length cap2,.int .i64 y.n] 135);have HNY2:Hd (NdAt (wr.alloc (.cells #[.string y.uid,.int .u8 y.kind,.slice ai y.ins.length capi,.int .u8 y.x.op,.int .i64 y.x.n,.slice a2 y.x.args.length cap2,.int .i64 y.n] 135)) (wr.alloc (.cells #[.string y.uid,.int .u8 y.kind,.slice ai y.ins.length capi,.int .u8 y.x.op,.int .i64 y.x.n,.slice a2 y.x.args.length cap2,.int .i64 y.n] 135)).heap.size (.agg #[.string y.uid,.int .u8 y.kind,.slice ai y.ins.length capi,.int .u8 y.x.op,.int .i64 y.x.n,.slice a2 y.x.args.length cap2,.int .i64 y.n]) y):=(HNY.o.keep (br0.alloc (by omega) _)).mono (by simp;omega);have hbz:wr.heap.size<(wr.alloc (.cells #[.string y.uid,.int .u8 y.kind,.slice ai y.ins.length capi,.int .u8 y.x.op,.int .i64 y.x.n,.slice a2 y.x.args.length cap2,.int .i64 y.n] 135)).heap.size:=by simp
    cases hnb:nodeB y (k:Int)
    ·have HB:=Lh hnb;clear hnb
     go_wp2_with fail
     generalize World.alloc wr _=W at*;obtain⟨n0,n1,n2,n3,n4,n5,n6⟩:=hNn.q7
     go_wp2_with (go_at_call 126;refine(jobmay_c y (k:Int) _ _ _ HNY2.o le0).mono ?_;rintro e w2 ⟨rfl,hb2⟩;rw[HB.o])
     go_ret2;refine⟨?_,hBn.trans (hb2.mono hBn.size)⟩;rw[HM2.o,<-HR.o,HB.o];rfl
    ·have HB:=Lh hnb;clear hnb
     cases htw:twiceB (fun x z=>decide (x=z)) (us++ [y.uid])
     all_goals
      have HTW:=Lh htw;clear htw
      go_wp2_with fail
      generalize World.alloc wr _=W at*;obtain⟨n0,n1,n2,n3,n4,n5,n6⟩:=hNn.q7
      go_upto_region 10 with (go_at_call 126;refine(jobmay_c y (k:Int) _ _ _ HNY2.o le0).mono ?_;rintro e w2 ⟨rfl,hb2⟩;rw[HB.o])
      have hNn2:=hNn.below hb2 hNn.lt;have hJn2:=hJn.below hb2 hJn.lt;have hBn2:=hBn.trans (hb2.mono hBn.size);have hon2:w2.ownsRow (w.heap.size+1) 9 1 u5 us.length (us.map Value.string):=hon.kept (row:=none) ⟨hb2.os,hb2.tape,hb2.output,hb2.size,fun k hk _=>hb2.block k hk⟩ (by cases hv:u5.ownBlock<;>simp);have hzw2:w.heap.size+1<=w2.heap.size:=hJn2.lt;clear n0 n1 n2 n3 n4 n5 n6 hNn hJn hBn hon hb2 HNY HNY2;have m0:=hNn2.cell 0;have hul:us.length+1<=1000:=by omega
      have HUK:=Lh huk;clear huk
      go_upto_region 11 with (at_builtin;refine wpList_append_own _ rfl (.tmp 53) (.tmp 56) 65 rfl (w.heap.size+1) 9 i0 (.string {data:=#[]}) 1 16 underlying65 hi hz0 hz1 hz2 rfl (by decide) u5 us.length (us.map Value.string) rfl (hon2.alloc _) ⟨w2.heap.size,0,none⟩ 1 1 [.string y.uid] rfl rfl (cell_one_newJ _ _ _) (by simp[Value.oneCell']) (by unfold maxLen;omega) (by omega) (by simp;omega) ?_;intro v1' w3 hown3 hgrow3 _)
      have hb3: ∀k,u5.ownBlock=some k->w.heap.size+1<=k:=fun k hk=>(hon2.lt k hk).1;have hB3:Below w.heap.size w w3:=(hBn2.alloc (by omega) _).grown hgrow3 (by simp;omega) (fun k hk=>by have:=hb3 k hk;omega);have hJ3:Blk w3 w.heap.size _ _:=(hJn2.alloc _).grown hgrow3 (fun e=>by have:=hb3 _ e.symm;omega);have HO3:Hd (w3.ownsRow (w.heap.size+1) 9 1 v1' (us++ [y.uid]).length ((us++ [y.uid]).map Value.string)):=by simpa[Hd]using hown3
      clear hgrow3 m0 hown3 hon2 hNn2
      go_wp2_with (go_at_call 127;refine(twiceStr_c (us++ [y.uid]) _ _ _ _ (Sl.of_owns HO3.o) rfl).mono ?_;rintro e w4 ⟨rfl,rfl⟩;rw[HTW.o])
     ·go_roundw
      case rel=>exact⟨⟨k+1,us++ [y.uid],by go_num,by omega,hB3,hJ3,HO3.o,by have:=HUK.o;simp;omega,by rw[<-HR.o,HB.o,HTW.o];rfl⟩⟩
      case measure=>simp[intOf];omega
     ·go_ret2;refine⟨?_,hB3⟩;rw[HM2.o,<-HR.o,HB.o,HTW.o];rfl
   ·rw[List.drop_of_length_le (by omega)]at hr;simp only[st1]at hr;have hrs:=hr.symm;have HM3:Hd (mm=match st2 jb l 0 0 []with
     |some r=>r
     |none=>(0,0)):=by show _=_;rw[HM2.o,hrs]
    have HNB:Hd (∀i (h:i<l.length),nodeB (l[i]'h) (i:Int)=true):=fun i h=>HNM.o i h hrs;have g1:=hJr.cell 1;clear hr hrs HM2 HNM hown
    go_wp2_with fail
    clear g1;obtain⟨wo,rfl⟩: ∃wo:World,wo=wr:=⟨_,rfl⟩
    go_loopw [8,9,65] (fun s8 s9 q wr=>M2Rel jb l par a cap w s8 s9 q wr) (fun _ _ q _=>l.length-(intOf q).toNat)
    case atStart=>exact⟨⟨0,0,[],rfl,ze0,rfl,by omega,by omega,hBr,hJr,World.ownsRow_nil _ _ _ _,rfl,by simp,rfl⟩⟩
    case round=>
     clear hbw hJr hBr hlt hk huk;obtain⟨k,f,ws,rfl,hk,rfl,hf0,hf2,hBr,hJr,hown,hwk,hwb,hr⟩:=hrel.ex;clear hrel;have hbw:w.heap.size+1<=wr.heap.size:=hJr.lt;by_cases hlt:k<l.length
     ·obtain⟨b,off,cp,e1,hb,hu,iv,sv,c0,c1,c2,c3,c4,c5,c6,hin⟩:=((HS.o.mono hB).keep hBr).at_ k hlt;simp only[vs0,true_and]at e1;obtain⟨rfl,rfl⟩:=e1;obtain⟨a2,cap2,rfl,_,_⟩:=hin.2.slice;obtain⟨_,ai,capi,rfl,_,hcm,_⟩:=id hin.1;rw[List.drop_eq_getElem_cons hlt]at hr;simp only[st2]at hr;have hnd:=nodeB_in _ _ (HNB.o k hlt);generalize l[k]=y at*;have HSL:=Lh hin.1;have HR:=Lh hr;have HND:=Lh hnd;have hil:y.ins.length<=3:=hnd.1;rename_i hx1 hx2 hx3;clear hr hin hx1 hx2 hx3 hu hnd;have hBn:=hBr.alloc (by omega) (.cells #[.string y.uid,.int .u8 y.kind,.slice ai y.ins.length capi,.int .u8 y.x.op,.int .i64 y.x.n,.slice a2 y.x.args.length cap2,.int .i64 y.n] 135);have hJn:=hJr.alloc (.cells #[.string y.uid,.int .u8 y.kind,.slice ai y.ins.length capi,.int .u8 y.x.op,.int .i64 y.x.n,.slice a2 y.x.args.length cap2,.int .i64 y.n] 135);have hNn:=Blk.new wr #[.string y.uid,.int .u8 y.kind,.slice ai y.ins.length capi,.int .u8 y.x.op,.int .i64 y.x.n,.slice a2 y.x.args.length cap2,.int .i64 y.n] 135;have hon:=hown.alloc (.cells #[.string y.uid,.int .u8 y.kind,.slice ai y.ins.length capi,.int .u8 y.x.op,.int .i64 y.x.n,.slice a2 y.x.args.length cap2,.int .i64 y.n] 135);have hown_lt: ∀q,u9.ownBlock=some q->w.heap.size+1<=q/\q<wr.heap.size:=fun q hq=>⟨(hown.lt q hq).1,(hown.lt q hq).2⟩;have hbz:wr.heap.size+1=(wr.alloc (.cells #[.string y.uid,.int .u8 y.kind,.slice ai y.ins.length capi,.int .u8 y.x.op,.int .i64 y.x.n,.slice a2 y.x.args.length cap2,.int .i64 y.n] 135)).heap.size:=by simp
      have HWK:=Lh hwk;have hkw:k<=100:=by omega
      clear hwk
      go_upto_region 19 with fail
      generalize World.alloc wr _=W at*;have hbz2:wr.heap.size+1<=W.heap.size:=by omega
      clear hbz
      go_upto_region 20 with (at_builtin;refine wpList_append_own _ rfl (.tmp 70) (.tmp 71) 130 rfl (w.heap.size+1) 3 j0 (.int .i64 0) 1 8 underlying130 ki kz0 kz1 kz2 rfl (by decide) u9 k (ws.map (Value.int .i64)) rfl (hon.alloc _) ⟨W.heap.size,0,none⟩ 1 1 [.int .i64 0] rfl rfl (cell_one_newJ _ _ _) (by simp[Value.oneCell']) (by unfold maxLen;omega) (by omega) (by simp;omega) ?_;intro v1' w3 hown3 hgrow3 _)
      have hM3: ∃g capg,v1'= .slice (some ⟨g,0,none⟩) (k+1) capg/\M3Rel y #[.int .i64 par,.slice (some ⟨b,off,none⟩) l.length cap] #[.string y.uid,.int .u8 y.kind,.slice ai y.ins.length capi,.int .u8 y.x.op,.int .i64 y.x.n,.slice a2 y.x.args.length cap2,.int .i64 y.n] w wr.heap.size g k capg ws 0 w3:=by
       obtain⟨g,capg,hv1⟩:=owns_succ hown3;refine⟨g,capg,hv1,(hBn.alloc (by omega) _).grown hgrow3 (by simp;omega) (fun q hq=>by have:=(hown_lt q hq).1;omega),(hJn.alloc _).grown hgrow3 (fun e=>by have:=(hown_lt _ e.symm).1;omega),(hNn.alloc _).grown hgrow3 (fun e=>by have:=(hown_lt _ e.symm).2;omega),?_⟩;rw[hv1]at hown3;simpa using hown3
      obtain⟨g,capg,rfl,hM⟩:=hM3;have HSL2:Hd (∀wi,Below w.heap.size w wi->Sl wi w.heap.size 1 (.slice ai y.ins.length capi) y.ins.length (y.ins.map (Value.int .i64))):=fun wi hwi=>HSL.o.across hBr hwi;have hbN:wr.heap.size<w3.heap.size:=hM.node.lt;generalize wr.heap.size=bN at*;clear hBn hJn hNn hon hown hown3 hgrow3 hown_lt HSL hBr hJr hbz2 hbw hbN;have k2':=hM.node.cell 2
      go_wp2_with fail
      clear k2';obtain⟨wn,rfl⟩: ∃wn:World,wn=wr:=⟨_,rfl⟩
      go_loopw [76] (fun q wi=> ∃(m:Nat) (acc:Int),q= .int .i64 m/\m<=y.ins.length/\0<=acc/\acc<=64*m/\M3Rel y #[.int .i64 par,.slice (some ⟨b,off,none⟩) l.length cap] #[.string y.uid,.int .u8 y.kind,.slice ai y.ins.length capi,.int .u8 y.x.op,.int .i64 y.x.n,.slice a2 y.x.args.length cap2,.int .i64 y.n] w bN g k capg ws acc wi/\acc+sumW ws (y.ins.drop m)=sumW ws y.ins) (fun q _=>y.ins.length-(intOf q).toNat)
      case atStart=>exact⟨0,0,rfl,ze0,by omega,by omega,hM,by simp⟩
      case round=>
       obtain⟨m,acc,rfl,hm,ha1,ha2,hMi,hsum⟩:=hrel;by_cases hlt2:m<y.ins.length
       ·obtain⟨bi,oi,ci,e2,hbi,g1,p0⟩:=(HSL2.o _ hMi.below).int m hlt2;simp only[vs0,true_and]at e2;obtain⟨rfl,rfl⟩:=e2;have hzb:=HND.o.2.2.2 _ (List.getElem_mem g1);rw[List.drop_eq_getElem_cons g1]at hsum;simp only[sumW]at hsum;generalize y.ins[m]=z at*;obtain⟨zn,rfl⟩: ∃zn:Nat,z=zn:=⟨z.toNat,by omega⟩;have hzk:zn<k:=by omega
        obtain⟨q,hq1,hq2,hq3,hq4⟩:=sum_at HWK.o zn hzk hwb;rw[Int.toNat_natCast,hq1]at hsum;have HSUM:=Lh hsum;obtain⟨og1,og2,og3⟩:=own_cells hMi.own;have o1:=(og3 zn (by omega)).1.trans (hq4 acc);have o2:=(og3 k (by omega)).1.trans (at_end HWK.o acc);have o3:=(og3 k (by omega)).2;have HMS:=Lh (hMi.drew.set HWK.o (acc+q));have hacc:acc<=1000:=by omega
        clear hsum hq1 hq4 hzb og3 hMi
        go_wp2_with fail
        go_region
        all_goals
         go_wp2_with fail
         go_roundw
         case rel=>exact⟨m+1,acc+q,by go_num,by omega,by omega,by omega,HMS.o,by have:=HSUM.o;omega⟩
         case measure=>simp[intOf];omega
       ·rw[List.drop_of_length_le (by omega)]at hsum;simp only[sumW,Int.add_zero]at hsum;subst hsum;have n1:=hMi.node.cell 1;obtain⟨og1,og2,og3⟩:=own_cells hMi.own;have o2:=(og3 k (by omega)).1.trans (at_end HWK.o _);have o3:=(og3 k (by omega)).2;have HMi:=Lh hMi;have hS:sumW ws y.ins<=1000:=by omega
        have HWY:Hd (wayN y ws=if y.kind=1 then 1 else if y.kind=4 then sumW ws y.ins*4 else sumW ws y.ins):=rfl;have HFL:Hd (flatN y f=if y.kind=4 then f+1 else f):=rfl;have hfl:0<=flatN y f/\flatN y f<=3:=by unfold flatN;split<;>omega
        have hwy:0<=wayN y ws:=by
         unfold wayN
         repeat' split
         all_goals omega
        generalize wayN y ws=w1 at*;generalize flatN y f=f1 at*;generalize sumW ws y.ins=S at*;obtain⟨hfl0,hfl3⟩:=hfl;clear hM hMi og3
        go_upto_block 6 with fail
        go_cut [8] (fun s8 wx=>s8= .int .i64 f1/\M3Rel y #[.int .i64 par,.slice (some ⟨b,off,none⟩) l.length cap] #[.string y.uid,.int .u8 y.kind,.slice ai y.ins.length capi,.int .u8 y.x.op,.int .i64 y.x.n,.slice a2 y.x.args.length cap2,.int .i64 y.n] w bN g k capg ws w1 wx)
        case first=>
         by_cases h1:y.kind=1
         ·have q1:(y.kind==1)=true:=by simpa using h1
          have e1:Hd (w1=1/\f1=f):=⟨by rw[HWY.o,if_pos h1],by rw[HFL.o,if_neg (by omega)]⟩;clear h1
          go_wp2_with fail
          go_meet;rw[e1.o.1,e1.o.2];exact⟨rfl,HMi.o.set HWK.o 1⟩
         ·have q1:(y.kind==1)=false:=by simpa using h1
          by_cases h4:y.kind=4
          ·have q4:(y.kind==4)=true:=by simpa using h4
           have e1:Hd (w1=S*4/\f1=f+1):=⟨by rw[HWY.o,if_neg h1,if_pos h4],by rw[HFL.o,if_pos h4]⟩;clear h1 h4
           go_wp2_with fail
           go_meet;rw[e1.o.1,e1.o.2];exact⟨rfl,HMi.o.set HWK.o (S*4)⟩
          ·have q4:(y.kind==4)=false:=by simpa using h4
           have e1:Hd (w1=S/\f1=f):=⟨by rw[HWY.o,if_neg h1,if_neg h4],by rw[HFL.o,if_neg h4]⟩;clear h1 h4
           go_wp2_with fail
           go_meet;rw[e1.o.1,e1.o.2];exact⟨rfl,HMi.o⟩
        case rest=>
         obtain⟨rfl,hMc⟩:=hcut;have j0:=hMc.job.cell 0;have j1:=hMc.job.cell 1
         go_upto_region 32 with (go_at_call 128;refine(HRD.o (k:Int) _ w.heap.size _ ((HJ.o.keep (hMc.below.mono hB)).mono hB) hMc.below.size).mono ?_;rintro e w5 ⟨v5,rfl,hsl5,hb5⟩;obtain⟨_,a5,cap5,rfl,hc5,hm5,_⟩:=hsl5)
         have hM5:=hMc.keep hb5;have n1:=hM5.node.cell 1;obtain⟨og1,og2,og3⟩:=own_cells hM5.own;have o2:=(og3 k (by omega)).1.trans (at_end HWK.o _);have HM5:=Lh hM5;have hbc:=HBC.o y k f1 w1;have hrk:=hrl.o (k:Int);generalize (jb.readers (k:Int)).length=rr at*;clear hM5 hMc og3 j0 j1;rcases hbc with ⟨hbd,hc⟩|⟨hbd,h1,h2,h3,h4,h5,h6⟩
         ·have HBD:=Lh hbd;clear hbd;rcases hc with h1|⟨h1,h2⟩|⟨h1,h2,h3⟩|⟨h1,h2,h3,h4⟩|⟨h1,h2,h3,h4,h5⟩|⟨h1,h2,h3,h4,h5,h6⟩
          ·have p1: ¬((y.kind==1)=((k:Int)==0)):=by simpa using h1
           clear h1
           go_wp2_with fail
           go_ret2;refine⟨?_,HM5.o.below⟩;rw[HM3.o,<-HR.o,HBD.o];rfl
          ·have p1:(y.kind==1)=((k:Int)==0):=by simpa using h1
           have p2: ¬((y.kind==9)=((k:Int)==(l.length:Int) -1)):=by simpa using h2
           clear h1 h2
           go_wp2_with fail
           go_ret2;refine⟨?_,HM5.o.below⟩;rw[HM3.o,<-HR.o,HBD.o];rfl
          ·have p1:(y.kind==1)=((k:Int)==0):=by simpa using h1
           have p2:(y.kind==9)=((k:Int)==(l.length:Int) -1):=by simpa using h2
           have p3: ¬(((rr:Int)==0)=((k:Int)==(l.length:Int) -1)):=by simpa using h3
           clear h1 h2 h3
           go_wp2_with fail
           go_ret2;refine⟨?_,HM5.o.below⟩;rw[HM3.o,<-HR.o,HBD.o];rfl
          ·have p1:(y.kind==1)=((k:Int)==0):=by simpa using h1
           have p2:(y.kind==9)=((k:Int)==(l.length:Int) -1):=by simpa using h2
           have p3:((rr:Int)==0)=((k:Int)==(l.length:Int) -1):=by simpa using h3
           clear h1 h2 h3
           go_wp2_with fail
           go_ret2;refine⟨?_,HM5.o.below⟩;rw[HM3.o,<-HR.o,HBD.o];rfl
          ·have p1:(y.kind==1)=((k:Int)==0):=by simpa using h1
           have p2:(y.kind==9)=((k:Int)==(l.length:Int) -1):=by simpa using h2
           have p3:((rr:Int)==0)=((k:Int)==(l.length:Int) -1):=by simpa using h3
           clear h1 h2 h3
           go_wp2_with fail
           go_ret2;refine⟨?_,HM5.o.below⟩;rw[HM3.o,<-HR.o,HBD.o];rfl
          ·have p1:(y.kind==1)=((k:Int)==0):=by simpa using h1
           have p2:(y.kind==9)=((k:Int)==(l.length:Int) -1):=by simpa using h2
           have p3:((rr:Int)==0)=((k:Int)==(l.length:Int) -1):=by simpa using h3
           clear h1 h2 h3
           go_wp2_with fail
           go_ret2;refine⟨?_,HM5.o.below⟩;rw[HM3.o,<-HR.o,HBD.o];rfl
         ·have HBD:=Lh hbd;clear hbd;have p1:(y.kind==1)=((k:Int)==0):=by simpa using h1
          have p2:(y.kind==9)=((k:Int)==(l.length:Int) -1):=by simpa using h2
          have p3:((rr:Int)==0)=((k:Int)==(l.length:Int) -1):=by simpa using h3
          have hw64:w1<=64:=by simpa using h6
          have hf22:f1<=2:=by simpa using h5
          clear h1 h2 h3
          go_wp2_with fail
          go_roundw
          case rel=>
           refine⟨⟨k+1,f1,ws++ [w1],by go_num,by omega,rfl,hfl0,hf22,HM5.o.below,HM5.o.job,HM5.o.own,by have:=HWK.o;simp;omega,?_,by rw[<-HR.o,HBD.o];rfl⟩⟩;intro q hq;rcases List.mem_append.1 hq with hq|hq
           ·exact hwb q hq
           ·rw[List.mem_singleton.1 hq];omega
          case measure=>simp[intOf];omega
     ·rw[List.drop_of_length_le (by omega)]at hr;simp only[st2]at hr;have hrs:=hr.symm;have HM4:Hd (mm=(0,0)):=by show _=_;rw[HM3.o,hrs]
      clear hr hrs HM3
      go_wp2_with fail
      go_ret2;exact⟨by rw[HM4.o];rfl,hBr⟩
def DeepC (h:Nat):Prop:= ∀(x:Ex) (v:Value) (B:Nat) (w:World) (bD k:Nat) (i:Int),x.ht<=h->ExAt w B v x->i=(k:Int)->B<=w.heap.size->k<=100->bD<w.heap.size->
 w.cell? ⟨bD,0,none⟩=some (.func (.func 246) #[] #[.pointer (some ⟨bD,0,none⟩)])->
 CB prog 246 #[v,.int .i64 i,.pointer (some ⟨bD,0,none⟩)] w (.int .i64 (deepN k x))
theorem deep_step (h:Nat) (IH:Hd (∀x:Ex,x.ht<h-> ∀(v:Value) (B:Nat) (w:World) (bD k:Nat) (i:Int),ExAt w B v x->i=(k:Int)->B<=w.heap.size->k<=100->bD<w.heap.size->
   w.cell? ⟨bD,0,none⟩=some (.func (.func 246) #[] #[.pointer (some ⟨bD,0,none⟩)])->
   CB prog 246 #[v,.int .i64 i,.pointer (some ⟨bD,0,none⟩)] w (.int .i64 (deepN k x)))):DeepC h:=by
 intro x v B w bD k i hh hv hi hB hk hbD hD;have HLT:Hd (∀a∈x.args,a.ht<h):=fun a ha=>by have:=Ex.ht_args x a ha;omega
 have HE:Hd (∀k',k=k'+1->deepN k x=x.args.foldl (fun n a=>max n (deepN k' a)) 0+1):=fun k' e=>by subst e;rfl
 have HE0:Hd (k=0->deepN k x=1):=fun e=>by subst e;rfl
 obtain⟨sv,rfl,hs⟩:=hv;obtain⟨a,cap,rfl,hcap,hmx⟩:=hs.slice;have HS:=Lh hs;have hlm:x.args.length<=9223372036854775807:=by unfold maxLen at hmx;omega
 generalize x.op=o at*;generalize x.n=n at*;generalize x.args=l at*;clear hs hh;have HDD:=Lh hD;clear hD;go_enter func246,ntmps246;go_wp2;have hW:=(Below.refl w.heap.size w).alloc le0 (.cells #[.int .u8 o,.int .i64 n,.slice a l.length cap] 133);generalize World.alloc w _=W at*;by_cases hk0:0<k
 ·obtain⟨k',hk'⟩: ∃k',k=k'+1:=⟨k-1,by omega⟩;have HE2:=Lh (HE.o k' hk');have HI:=Lh (show i=(k':Int)+1 by omega);have hip:0<i:=by omega
  have hi100:i<=100:=by omega
  clear hi hk'
  go_loopw [6,12] (fun s q wr=> ∃j m:Nat,q= .int .i64 j/\s= .int .i64 m/\j<=l.length/\m<=200/\Below w.heap.size w wr/\(l.drop j).foldl (fun n a=>max n (deepN k' a)) m=l.foldl (fun n a=>max n (deepN k' a)) 0) (fun _ q _=>l.length-(intOf q).toNat)
  case atStart=>exact⟨0,0,rfl,rfl,ze0,by omega,hW,rfl⟩
  case round=>
   obtain⟨j,m,rfl,rfl,hj,hm,hBr,hr⟩:=hrel;by_cases hlt:j<l.length
   ·obtain⟨b,off,cp,sv,e1,hb,c0,c1,c2,hsub⟩:=((HS.o.mono hB).keep hBr).at_ j hlt;simp only[vs0,true_and]at e1;obtain⟨rfl,rfl⟩:=e1;obtain⟨a2,cap2,rfl,_,_⟩:=hsub.slice;rw[List.drop_eq_getElem_cons hlt]at hr;simp only[List.foldl_cons]at hr;have hht:=HLT.o _ (List.getElem_mem hlt);have hx: ∀X,Below wr.heap.size wr X->ExAt X X.heap.size (.agg #[.int .u8 (l[j]'hlt).op,.int .i64 (l[j]'hlt).n,.slice a2 (l[j]'hlt).args.length cap2]) (l[j]'hlt):=fun X hX=>⟨_,rfl,(hsub.keep (hX.mono hBr.size)).mono (le1 hBr.size hX.size)⟩;have hdl:=deepN_le k' (l[j]'hlt);have hk100:k'<=100:=by have:=HI.o;omega
    generalize l[j]=y at*;have HX:=Lh hx;have HR:=Lh hr;clear hr hx hsub;have hbr:=hBr.size;have hD2:(wr.alloc (.cells #[.int .u8 y.op,.int .i64 y.n,.slice a2 y.args.length cap2] 133)).cell? ⟨bD,0,none⟩=some (.func (.func 246) #[] #[.pointer (some ⟨bD,0,none⟩)]):=
     (((Below.refl wr.heap.size wr).alloc le0 _).cell (p:=⟨bD,0,none⟩) (by show bD<_;omega)).trans ((hBr.cell (p:=⟨bD,0,none⟩) hbD).trans HDD.o)
    have HD2:=Lh hD2;generalize hdd:deepN k' y=dd at*;have HDE:=Lh hdd;clear hdd
    go_wp2_with (go_at_call 246;refine(IH.o y hht _ _ _ bD k' _ (HX.o _ (br0.alloc le0 _)) (by have:=HI.o;omega) le0 (by have:=HI.o;omega) (by simp;omega) HD2.o).mono ?_;rintro e w3 ⟨rfl,hb3⟩;rw[HDE.o])
    go_roundw
    case rel=>exact⟨j+1,max m dd,by go_num,by congr 1;split<;>omega,by omega,by omega,(hBr.alloc hBr.size _).trans (hb3.mono (by simp;omega)),by rw[<-HR.o]⟩
    case measure=>simp[intOf];omega
   ·rw[List.drop_of_length_le (by omega)]at hr;simp only[List.foldl_nil]at hr;have HR:=Lh hr;clear hr;go_wp2;go_ret;exact⟨ret_int (by rw[HE2.o,<-HR.o];rfl),hBr⟩
 ·have HE2:=Lh (HE0.o (by omega));have hip: ¬0<i:=by omega
  clear hi
  go_loopw [6,12] (fun s q wr=> ∃j:Nat,q= .int .i64 j/\s= .int .i64 0/\j<=l.length/\Below w.heap.size w wr) (fun _ q _=>l.length-(intOf q).toNat)
  case atStart=>exact⟨0,rfl,rfl,ze0,hW⟩
  case round=>
   obtain⟨j,rfl,rfl,hj,hBr⟩:=hrel;by_cases hlt:j<l.length
   ·obtain⟨b,off,cp,sv,e1,hb,c0,c1,c2,hsub⟩:=((HS.o.mono hB).keep hBr).at_ j hlt;simp only[vs0,true_and]at e1;obtain⟨rfl,rfl⟩:=e1;obtain⟨a2,cap2,rfl,_,_⟩:=hsub.slice;go_wp2;go_roundw
    case rel=>exact⟨j+1,by go_num,rfl,by omega,hBr.alloc hBr.size _⟩
    case measure=>simp[intOf];omega
   ·go_wp2;go_ret;exact⟨ret_int (by rw[HE2.o];rfl),hBr⟩
theorem deep_all (h:Nat):DeepC h:=by
 induction h using Nat.strongRecOn with
 |ind h ih=>exact deep_step h (fun x hx v B w bD k i hv hi hB hk hb hD=>ih x.ht hx x v B w bD k i le0 hv hi hB hk hb hD)
theorem Deep_c (x:Ex) (v:Value) (B:Nat) (w:World) (hv:ExAt w B v x) (hB:B<=w.heap.size):
  CB prog 217 #[v] w (.int .i64 (deepN 16 x)):=by
 obtain⟨sv,rfl,hs⟩:=hv;obtain⟨a,cap,rfl,hcap,hmx⟩:=hs.slice;have HV:Hd (ExAt w B _ x):=⟨_,rfl,hs⟩;clear hs;have hle:=deepN_le 16 x;generalize hd:deepN 16 x=d at*;have HD:=Lh hd;clear hd;have hB1:=(((Below.refl w.heap.size w).alloc le0 (.cells #[.int .u8 x.op,.int .i64 x.n,.slice a x.args.length cap] 133)).alloc (by simp) (.cells #[.func (.func 246) #[] #[.pointer (some ⟨w.heap.size+1,0,none⟩)]] 201));go_enter func217,ntmps217
 go_wp2_with fail
 refine(deep_all x.ht x _ B _ (w.heap.size+1) 16 _ le0 (HV.o.keep (hB1.mono hB)) (by omega) (by simp;omega) (by omega) (by simp) ?_).mono ?_
 ·exact(Blk.new_at (w.alloc (.cells #[.int .u8 x.op,.int .i64 x.n,.slice a x.args.length cap] 133)) #[.func (.func 246) #[] #[.pointer (some ⟨w.heap.size+1,0,none⟩)]] 201 (k:=w.heap.size+1) (by simp)).cell 0
 rintro e w3 ⟨rfl,hb3⟩;rw[HD.o]
 go_wp2_with fail
 go_ret;exact⟨ret_int (by first|rfl|(split<;>omega)),hB1.trans (hb3.mono (by simp;omega))⟩
