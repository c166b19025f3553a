/- Parts. -/
import Derived.Test.YtgbfdcmkbblodaaGreatDoorVY6b
namespace Go.Proofs.YtgbfdcmkbblodaaGreatDoor
open Go.RowKit
set_option linter.unusedVariables false
set_option linter.unusedSimpArgs false
set_option maxRecDepth 100000
set_option maxHeartbeats 16000000
open Tryz
theorem Exs.accB_any: ∀l:List Ex,Exs.accB l=l.any Ex.accB
 | []=>rfl
 |x::l=>by simp only[Exs.accB,List.any_cons];rw[Exs.accB_any l]
def RAccC (h:Nat):Prop:= ∀(x:Ex) (v:Value) (B:Nat) (w:World),x.ht<=h->ExAt w B v x->B<=w.heap.size->
 CB prog 228 #[v] w (.bool x.accB)
theorem racc_step (h:Nat) (IH:Hd (∀x:Ex,x.ht<h-> ∀(v:Value) (B:Nat) (w:World),ExAt w B v x->B<=w.heap.size->
   CB prog 228 #[v] w (.bool x.accB))):RAccC h:=by
 intro x v B w hh hv hB;have HLT:Hd (∀a∈x.args,a.ht<h):=fun a ha=>by have:=Ex.ht_args x a ha;omega
 have HE:Hd (x.accB=(x.op==4||x.args.any Ex.accB)):=by show _=_;rw[Ex.accB_eq,Exs.accB_any]
 obtain⟨sv,rfl,hs⟩:=hv;obtain⟨a,cap,rfl,hcap,hmx⟩:=hs.slice;have HS:=Lh hs;have hlm:x.args.length<=9223372036854775807:=by unfold maxLen at hmx;omega
 generalize x.op=o at*;generalize x.n=n at*;generalize x.args=l at*;clear hs hh;have hW:=(Below.refl w.heap.size w).alloc le0 (.cells #[.int .u8 o,.int .i64 n,.slice a l.length cap] 133);have hbx:=Blk.new w #[.int .u8 o,.int .i64 n,.slice a l.length cap] 133;have hz:w.heap.size<(w.alloc (.cells #[.int .u8 o,.int .i64 n,.slice a l.length cap] 133)).heap.size:=hbx.lt;go_enter func228,ntmps228;go_wp2;generalize World.alloc w _=W at*
 go_loopw [3] (fun q wr=> ∃j:Nat,q= .int .i64 j/\j<=l.length/\Below W.heap.size W wr/\(l.drop j).any Ex.accB=l.any Ex.accB) (fun q _=>l.length-(intOf q).toNat)
 case atStart=>exact⟨0,rfl,ze0,Below.refl _ _,rfl⟩
 case round=>
  obtain⟨j,rfl,hj,hBr0,hr⟩:=hrel;have hBr:=hW.trans (hBr0.mono (by omega));have hbr2:=hbx.below hBr0 hz;have p0:=hbr2.cell 0;have p2:=hbr2.cell 2;by_cases hlt:j<l.length
  ·obtain⟨b,off,cp,sv,e1,hb,c0,c1,c2,hsub⟩:=((HS.o.mono hB).keep hBr).at_ j hlt;simp only[vs0,true_and]at e1;obtain⟨rfl,rfl⟩:=e1;obtain⟨a2,cap2,rfl,_,_⟩:=hsub.slice;rw[List.drop_eq_getElem_cons hlt,List.any_cons]at hr;have hht:=HLT.o _ (List.getElem_mem hlt);generalize l[j]=y at*;have HX:Hd (ExAt wr wr.heap.size (.agg #[.int .u8 y.op,.int .i64 y.n,.slice a2 y.args.length cap2]) y):=⟨_,rfl,hsub.mono hBr.size⟩;have HR:=Lh hr;clear hr hsub
   cases hy:y.accB
   all_goals
    have HY:=Lh hy;clear hy
    go_wp2_with (go_at_call 228;refine(IH.o y hht _ _ _ HX.o le0).mono ?_;rintro e w3 ⟨rfl,hb3⟩;rw[HY.o])
   ·go_roundw
    case rel=>exact⟨j+1,by go_num,by omega,hBr0.trans (hb3.mono hBr0.size),by rw[<-HR.o,HY.o,Bool.false_or]⟩
    case measure=>simp[intOf];omega
   ·go_ret;exact⟨ret_bool (by rw[HE.o,<-HR.o,HY.o,Bool.true_or,Bool.or_true]),hBr.trans (hb3.mono hBr.size)⟩
  ·rw[List.drop_of_length_le (by omega)]at hr;have HR:=Lh hr;clear hr;go_wp2;go_ret;exact⟨ret_bool (by rw[HE.o,<-HR.o,List.any_nil,Bool.or_false]),hBr⟩
theorem racc_all (h:Nat):RAccC h:=by
 induction h using Nat.strongRecOn with
 |ind h ih=>exact racc_step h (fun x hx v B w hv hB=>ih x.ht hx x v B w le0 hv hB)
def allGo:List Int->Bool->Int->Int
 | [],_,a=>a
 |t::ts,first,a=>allGo ts false (if first||(a==t)then t else 3)
def refTy (op:Int) (ts:List Int):Int:=
 if ts.any (· ==0)then 0
 else
  let all:=allGo ts true 0
  if op=1\/op=2\/op=3\/op=4 then 1
  else if op=5\/op=7\/op=8\/op=9\/op=10\/op=11 then(if all=1 then 1 else 0)
  else if op=6\/op=16\/op=17 then(if all=2 then 2 else 0)
  else if op=12\/op=13 then(if all=1 then 2 else 0)
  else if op=14\/op=15 then(if all≠3 then 2 else 0)
  else if op=18 then(if ts.getD 0 0=2/\ts.getD 1 0=ts.getD 2 0 then ts.getD 1 0 else 0)
  else 0
theorem info_u8Q:(prog.info? 5).map (fun i=>(i.zero,i.size,i.bytes))=some (some (.int .u8 0),1,1):=by kernel_rfl
theorem cell_one_newQ (w:World) (a:Value) (t:TypeId): ∀j u,[a][j]? =some u->(w.alloc (.cells #[a] t)).cell? ((⟨w.heap.size,0,none⟩:Addr).add j)=some u:=by
 intro j u hj;have hj4:j<1:=(List.getElem?_eq_some_iff.1 hj).1;rw[Addr.add_lit,Nat.zero_add,(Blk.new w #[a] t).cell j];simpa using hj
theorem allGo_snoc: ∀(ts:List Int) (first:Bool) (a t:Int),allGo (ts++ [t]) first a=if(ts.isEmpty&&first)||(allGo ts first a==t)then t else 3
 | [],first,a,t=>by simp[allGo]
 |s::ts,first,a,t=>by
  simp only[List.cons_append,allGo]
  rw[allGo_snoc ts false]
  simp
theorem Exs.tys_map: ∀l:List Ex,Exs.tys l=if(l.map Ex.ty).any (· ==0)then none else some (l.map Ex.ty)
 | []=>rfl
 |x::l=>by
  simp only[Exs.tys,List.map_cons,List.any_cons]
  rw[Exs.tys_map l]
  by_cases h:x.ty=0
  ·simp[h]
  ·have h':(x.ty==0)=false:=by simpa using h
   rw[if_neg h,h',Bool.false_or]
   split<;>rfl
def tyLists:Nat->List (List Int)
 |0=> [[]]
 |n+1=>(tyLists n).flatMap fun l=> [0::l,1::l,2::l]
theorem tyLists_mem: ∀(ts:List Int),(∀t∈ts,t∈([0,1,2]:List Int))->ts∈tyLists ts.length
 | [],_=>by simp[tyLists]
 |t::ts,h=>by
  simp only[List.length_cons,tyLists,List.mem_flatMap]
  refine⟨ts,tyLists_mem ts fun u hu=>h u (by simp[hu]),?_⟩
  have:=h t (by simp)
  simp only[List.mem_cons,List.not_mem_nil,or_false]at this
  rcases this with rfl|rfl|rfl<;>simp
theorem refTy_row: ∀op∈([1,2,3,4,5,6,7,8,9,10,11,12,13,14,15,16,17,18]:List Int),∀ts∈tyLists (manyN op).toNat,refTy op ts=if ts.any (· ==0)then 0 else getRow ⟨op,ts.getD 0 0,ts.getD 1 0,ts.getD 2 0⟩ kv8:=by decide+kernel
theorem ty_ref {x:Ex} (h1:1<=x.op) (h2:x.op<=18) (hm:manyN x.op=x.args.length):x.ty=refTy x.op (x.args.map Ex.ty):=by
 rw[Ex.ty_eq,Exs.tys_map];have hop:x.op∈([1,2,3,4,5,6,7,8,9,10,11,12,13,14,15,16,17,18]:List Int):=by
  have:x.op=1\/x.op=2\/x.op=3\/x.op=4\/x.op=5\/x.op=6\/x.op=7\/x.op=8\/x.op=9\/x.op=10\/x.op=11\/x.op=12\/x.op=13\/x.op=14\/x.op=15\/x.op=16\/x.op=17\/x.op=18:=by omega
  simpa using this
 have hts:x.args.map Ex.ty∈tyLists (manyN x.op).toNat:=by
  rw[hm];have:=tyLists_mem (x.args.map Ex.ty) (fun t ht=>by
   obtain⟨a,_,rfl⟩:=List.mem_map.1 ht
   exact Ex.ty_mem a)
  simpa using this
 rw[refTy_row x.op hop _ hts];by_cases h:(x.args.map Ex.ty).any (· ==0)=true
 ·rw[if_pos h,if_pos h]
 ·rw[if_neg h,if_neg h]
theorem refTy_num {op:Int} (h:op=1\/op=2\/op=3\/op=4) (ts:List Int) (hz:ts.any (· ==0)=false):refTy op ts=1:=by
 unfold refTy;rw[hz];simp only[Bool.false_eq_true,if_false];rw[if_pos h]
theorem refTy_a {op:Int} (h:op=5\/op=7\/op=8\/op=9\/op=10\/op=11) (ts:List Int) (hz:ts.any (· ==0)=false):refTy op ts=if(allGo ts true 0==1)=true then 1 else 0:=by
 unfold refTy;rw[hz];simp only[Bool.false_eq_true,if_false];rw[if_neg (by omega),if_pos h];simp
theorem refTy_b {op:Int} (h:op=6\/op=16\/op=17) (ts:List Int) (hz:ts.any (· ==0)=false):refTy op ts=if(allGo ts true 0==2)=true then 2 else 0:=by
 unfold refTy;rw[hz];simp only[Bool.false_eq_true,if_false];rw[if_neg (by omega),if_neg (by omega),if_pos h];simp
theorem refTy_c {op:Int} (h:op=12\/op=13) (ts:List Int) (hz:ts.any (· ==0)=false):refTy op ts=if(allGo ts true 0==1)=true then 2 else 0:=by
 unfold refTy;rw[hz];simp only[Bool.false_eq_true,if_false];rw[if_neg (by omega),if_neg (by omega),if_neg (by omega),if_pos h];simp
theorem refTy_d {op:Int} (h:op=14\/op=15) (ts:List Int) (hz:ts.any (· ==0)=false):refTy op ts=if(allGo ts true 0 !=3)=true then 2 else 0:=by
 unfold refTy;rw[hz];simp only[Bool.false_eq_true,if_false];rw[if_neg (by omega),if_neg (by omega),if_neg (by omega),if_neg (by omega),if_pos h];simp
theorem refTy_e {op:Int} (h:op=18) (ts:List Int) (hz:ts.any (· ==0)=false):refTy op ts=if(ts.getD 0 0==2)=true/\(ts.getD 1 0==ts.getD 2 0)=true then ts.getD 1 0 else 0:=by
 unfold refTy;rw[hz];simp only[Bool.false_eq_true,if_false];rw[if_neg (by omega),if_neg (by omega),if_neg (by omega),if_neg (by omega),if_neg (by omega),if_pos h];simp
theorem refTy_z {op:Int} (ts:List Int) (hz:ts.any (· ==0)=true):refTy op ts=0:=by
 unfold refTy;rw[if_pos hz]
theorem manyN_range {op:Int} {n:Nat} (h:manyN op=n) (h0:0<=op):1<=op/\op<=18:=by
 unfold manyN at h;split at h
 ·omega
 ·omega
def ROfC (h:Nat):Prop:= ∀(x:Ex) (v:Value) (B:Nat) (w:World) (k:Nat),x.ht<=h->x.ok->mayB k x=true->ExAt w B v x->B<=w.heap.size->
 CB prog 229 #[v] w (.int .u8 x.ty)
structure OfRel (l:List Ex) (W:World) (s q:Value) (wr:World):Prop where
 ex: ∃k:Nat,q= .int .i64 k/\k<=l.length/\Below W.heap.size W wr/\wr.ownsRow W.heap.size 5 1 s k (((l.take k).map Ex.ty).map (Value.int .u8))
theorem beqs {o k:Int} (h:o=k):(o==1)=(k==1)/\(o==2)=(k==2)/\(o==3)=(k==3)/\(o==4)=(k==4)/\(o==5)=(k==5)/\(o==6)=(k==6)/\(o==7)=(k==7)/\(o==8)=(k==8)/\(o==9)=(k==9)/\(o==10)=(k==10)/\(o==11)=(k==11)/\(o==12)=(k==12)/\(o==13)=(k==13)/\(o==14)=(k==14)/\(o==15)=(k==15)/\(o==16)=(k==16)/\(o==17)=(k==17)/\(o==18)=(k==18):=by
 subst h
 and_intros<;>rfl
theorem rof_step (h:Nat) (IH:Hd (∀x:Ex,x.ht<h-> ∀(v:Value) (B:Nat) (w:World) (k:Nat),x.ok->mayB k x=true->ExAt w B v x->B<=w.heap.size->
   CB prog 229 #[v] w (.int .u8 x.ty))):ROfC h:=by
 intro x v B w kk hh hok hmay hv hB;have HLT:Hd (∀a∈x.args,a.ht<h):=fun a ha=>by have:=Ex.ht_args x a ha;omega
 have HOK:=Lh (Exs.ok_at x.args (Ex.ok_args hok));obtain⟨km,hkm⟩: ∃km,kk=km+1:=by
  cases kk with
  |zero=>simp[mayB]at hmay
  |succ km=>exact⟨km,rfl⟩
 subst hkm;simp only[mayB,Bool.and_eq_true,List.all_eq_true]at hmay;have hshape:=of_decide_eq_true hmay.1;have HMA:=Lh hmay.2;have hopr:=manyN_range hshape.1 (Ex.ok_op hok).1;have HT:=Lh (ty_ref hopr.1 hopr.2 hshape.1);have hl3:x.args.length<=3:=by
  have:=hshape.1;unfold manyN at this
  repeat' split at this
  all_goals omega
 have hmany:=hshape.1;obtain⟨i0,hi,hz0,hz1,hz2⟩:=info_parts info_u8Q;obtain⟨sv,rfl,hs⟩:=hv;obtain⟨a,cap,rfl,hcap,hmx⟩:=hs.slice;have HS:=Lh hs;generalize x.ty=tx at*;generalize x.op=o at*;generalize x.n=n at*;generalize x.args=l at*;obtain⟨hop1,hop2⟩:=hopr;clear hs hh hok hmay hshape hmx;have HMANY:=Lh hmany;clear hmany;have hW:=(Below.refl w.heap.size w).alloc le0 (.cells #[.int .u8 o,.int .i64 n,.slice a l.length cap] 133);have hbx:=Blk.new w #[.int .u8 o,.int .i64 n,.slice a l.length cap] 133;have hz:w.heap.size<(w.alloc (.cells #[.int .u8 o,.int .i64 n,.slice a l.length cap] 133)).heap.size:=hbx.lt;go_enter func229,ntmps229
 go_wp2_with fail
 generalize World.alloc w _=W at*
 go_loopw [3,4] (fun s q wr=>OfRel l W s q wr) (fun _ q _=>l.length-(intOf q).toNat)
 case atStart=>exact⟨⟨0,rfl,ze0,Below.refl _ _,World.ownsRow_nil _ _ _ _⟩⟩
 case round=>
  obtain⟨j,rfl,hj,hBr0,hown⟩:=hrel.ex;clear hrel;have hBr:=hW.trans (hBr0.mono (Nat.le_of_lt hz));have hbr2:=hbx.below hBr0 hz;have p0:=hbr2.cell 0;have p2:=hbr2.cell 2;by_cases hlt:j<l.length
  ·obtain⟨b,off,cp,sv,e1,hb,c0,c1,c2,hsub⟩:=((HS.o.mono hB).keep hBr).at_ j hlt;simp only[vs0,true_and]at e1;obtain⟨rfl,rfl⟩:=e1;obtain⟨a2,cap2,rfl,_,_⟩:=hsub.slice;have hht:=HLT.o _ (List.getElem_mem hlt);have hoky:=HOK.o j hlt;have hmy:=HMA.o _ (List.getElem_mem hlt);have htk:Hd (((l.take (j+1)).map Ex.ty).map (Value.int .u8)=((l.take j).map Ex.ty).map (Value.int .u8)++ [.int .u8 (l[j]'hlt).ty]):=by
    show _=_;rw[List.take_succ_eq_append_getElem hlt,List.map_append,List.map_append];rfl
   generalize l[j]=y at*;have HX:Hd (ExAt wr wr.heap.size (.agg #[.int .u8 y.op,.int .i64 y.n,.slice a2 y.args.length cap2]) y):=⟨_,rfl,hsub.mono hBr.size⟩;have HMY:=Lh hmy;clear hsub hmy;obtain⟨ty,hty⟩: ∃t,y.ty=t:=⟨_,rfl⟩;rw[hty]at htk;have HTY:=Lh hty;clear hty;have hl:=Lh hl3;generalize hxs:((l.take j).map Ex.ty).map (Value.int .u8)=xs at*;clear hxs;have hbw:=hBr0.size
   go_wp2_with (first
    |(go_at_call 229;refine(IH.o y hht _ _ _ km hoky HMY.o HX.o le0).mono ?_;rw[HTY.o];rintro e w3 ⟨rfl,hb3⟩;have hown2:=hown.kept (row:=none) ⟨hb3.os,hb3.tape,hb3.output,hb3.size,fun k hk _=>hb3.block k hk⟩ (by cases hv:Value.ownBlock _<;>simp);have hB3:=hBr0.trans (hb3.mono hbw);have hbw3:=hB3.size)
    |(at_builtin;refine wpList_append_own _ rfl _ _ 141 rfl W.heap.size 5 i0 (.int .u8 0) 1 1 underlying141 hi hz0 hz1 hz2 rfl (by decide) u3 j xs rfl (hown2.alloc _) ⟨w3.heap.size,0,none⟩ 1 1 [.int .u8 ty] rfl rfl (cell_one_newQ _ _ _) (by simp[Value.oneCell']) (by unfold maxLen;have:=hl.o;omega) (by have:=hl.o;omega) (by simp;omega) ?_;intro v' w4 hown4 hgrow4 _))
   have hB4:Below W.heap.size W w4:=(hB3.alloc hbw3 _).grown hgrow4 (by simp;omega) (fun k hk=>(hown2.lt k hk).1);go_roundw
   case rel=>exact⟨⟨j+1,by go_num,by omega,hB4,by rw[htk.o];exact hown4⟩⟩
   case measure=>simp[intOf];omega
  ·obtain rfl:j=l.length:=by omega
   rw[List.take_of_length_le le0]at hown;have hsl:=Sl.of_owns hown;obtain⟨g0,ad,cp3,rfl,g1,g2,g3⟩:=id hsl;have HSL:=Lh hsl;have hlts:(l.map Ex.ty).length=l.length:=by simp
   generalize l.map Ex.ty=ts at*;have HBr:=Lh hBr;have HL:=Lh hlts;clear hown g0 g1 g2 g3 hsl hlts hBr hBr0 hW hbx HLT HOK HMA IH HS hbr2 hlt hj;generalize hll:l.length=len at*;have HLL:=Lh hll;clear hll;have hlen3:(len:Int)<=3:=by omega
   go_wp2_with fail
   go_loop [5,6] (fun s q=> ∃j:Nat,q= .int .i64 j/\j<=len/\s= .int .u8 (allGo (ts.take j) true 0)/\(ts.take j).any (· ==0)=false) (fun _ q=>len-(intOf q).toNat)
   case atStart=>exact⟨0,rfl,ze0,rfl,rfl⟩
   case round=>
    obtain⟨j,rfl,hj,rfl,hz0'⟩:=hrel;by_cases hlt2:j<len
    ·obtain⟨bt,ot,ct,e1,hbt,hjl,hcell⟩:=HSL.o.int j hlt2;simp only[vs0,true_and]at e1;obtain⟨rfl,rfl⟩:=e1;have htk2:Hd (ts.take (j+1)=ts.take j++ [ts[j]'hjl]):=List.take_succ_eq_append_getElem hjl;have hmem:ts[j]'hjl∈ts:=List.getElem_mem hjl;generalize ts[j]=t at*;have hemp:Hd ((ts.take j).isEmpty=decide (j=0)):=by
      show _=_;rw[Bool.eq_iff_iff,List.isEmpty_iff,decide_eq_true_eq,List.take_eq_nil_iff];constructor
      ·rintro (h|h)
       ·exact h
       ·rw[h]at hjl;simp at hjl
      ·exact fun h=> .inl h
     have HZ:=Lh hz0';have HMEM:=Lh hmem;obtain⟨al,hal⟩: ∃a,allGo (ts.take j) true 0=a:=⟨_,rfl⟩;have HAL:=Lh hal;rw[hal];clear hz0' hmem hal
     cases ht0:(t==0)
     ·have HT0:=Lh ht0;have hnew:Hd ((ts.take (j+1)).any (· ==0)=false):=by
       show _=_;rw[htk2.o,List.any_append,HZ.o,Bool.false_or];simpa using ht0
      by_cases hj0:j=0
      ·have hj1:((j:Int)==0)=true:=by rw[beq_iff_eq];omega
       have hal2:Hd (allGo (ts.take (j+1)) true 0=t):=by
        show _=_;rw[htk2.o,allGo_snoc,hemp.o,dt0 hj0];simp
       clear hj0
       go_wp2_with fail
       go_round
       case rel=>exact⟨j+1,by go_num,by omega,by rw[hal2.o],hnew.o⟩
       case measure=>simp[intOf];omega
      ·have hj1:((j:Int)==0)=false:=by rw[bq0];omega
       cases hq:(al==t)
       all_goals
        have HQ:=Lh hq
       ·have hal2:Hd (allGo (ts.take (j+1)) true 0=3):=by
         show _=_;rw[htk2.o,allGo_snoc,hemp.o,df0 hj0,HAL.o,HQ.o];rfl
        clear hj0
        go_wp2_with fail
        go_round
        case rel=>exact⟨j+1,by go_num,by omega,by rw[hal2.o],hnew.o⟩
        case measure=>simp[intOf];omega
       ·have hal2:Hd (allGo (ts.take (j+1)) true 0=t):=by
         show _=_;rw[htk2.o,allGo_snoc,hemp.o,df0 hj0,HAL.o,HQ.o];rfl
        clear hj0
        go_wp2_with fail
        go_round
        case rel=>exact⟨j+1,by go_num,by omega,by rw[hal2.o],hnew.o⟩
        case measure=>simp[intOf];omega
     ·have hv:Hd (tx=0):=by
       show _=_;rw[HT.o];refine refTy_z ts ?_;rw[List.any_eq_true];exact⟨t,HMEM.o,ht0⟩
      go_wp2_with fail
      go_ret;exact⟨ret_int hv.o.symm,HBr.o⟩
    ·obtain rfl:j=len:=by omega
     have htl:ts.take j=ts:=List.take_of_length_le (by have:=HL.o;omega);rw[htl]at hz0'⊢;have HZ:=Lh hz0';obtain⟨al,hal⟩: ∃a,allGo ts true 0=a:=⟨_,rfl⟩;have HAL:=Lh hal;rw[hal];clear hz0' htl hal;have hops:o=1\/o=2\/o=3\/o=4\/o=5\/o=6\/o=7\/o=8\/o=9\/o=10\/o=11\/o=12\/o=13\/o=14\/o=15\/o=16\/o=17\/o=18:=by omega
     rcases hops with ho|ho|ho|ho|ho|ho|ho|ho|ho|ho|ho|ho|ho|ho|ho|ho|ho|ho
     all_goals
      have e:=beqs ho;simp only[Int.reduceBEq]at e;obtain⟨e1,e2,e3,e4,e5,e6,e7,e8,e9,e10,e11,e12,e13,e14,e15,e16,e17,e18⟩:=e
     iterate 4
      ·have hv:Hd (tx=1):=HT.o.trans (refTy_num (by omega) ts HZ.o);clear ho
       go_wp2_with fail
       go_ret;exact⟨ret_int hv.o.symm,HBr.o⟩
     ·have hv0:=Lh (HT.o.trans (refTy_a (op:=o) (by omega) ts HZ.o));rw[HAL.o]at hv0;clear ho
      cases hq:(al==1)
      all_goals rw[hq]at hv0
      ·have hv:Hd (tx=0):=hv0.o
       go_wp2_with fail
       go_ret;exact⟨ret_int hv.o.symm,HBr.o⟩
      ·have hv:Hd (tx=1):=hv0.o
       go_wp2_with fail
       go_ret;exact⟨ret_int hv.o.symm,HBr.o⟩
     ·have hv0:=Lh (HT.o.trans (refTy_b (op:=o) (by omega) ts HZ.o));rw[HAL.o]at hv0;clear ho
      cases hq:(al==2)
      all_goals rw[hq]at hv0
      ·have hv:Hd (tx=0):=hv0.o
       go_wp2_with fail
       go_ret;exact⟨ret_int hv.o.symm,HBr.o⟩
      ·have hv:Hd (tx=2):=hv0.o
       go_wp2_with fail
       go_ret;exact⟨ret_int hv.o.symm,HBr.o⟩
     iterate 5
      ·have hv0:=Lh (HT.o.trans (refTy_a (op:=o) (by omega) ts HZ.o));rw[HAL.o]at hv0;clear ho
       cases hq:(al==1)
       all_goals rw[hq]at hv0
       ·have hv:Hd (tx=0):=hv0.o
        go_wp2_with fail
        go_ret;exact⟨ret_int hv.o.symm,HBr.o⟩
       ·have hv:Hd (tx=1):=hv0.o
        go_wp2_with fail
        go_ret;exact⟨ret_int hv.o.symm,HBr.o⟩
     iterate 2
      ·have hv0:=Lh (HT.o.trans (refTy_c (op:=o) (by omega) ts HZ.o));rw[HAL.o]at hv0;clear ho
       cases hq:(al==1)
       all_goals rw[hq]at hv0
       ·have hv:Hd (tx=0):=hv0.o
        go_wp2_with fail
        go_ret;exact⟨ret_int hv.o.symm,HBr.o⟩
       ·have hv:Hd (tx=2):=hv0.o
        go_wp2_with fail
        go_ret;exact⟨ret_int hv.o.symm,HBr.o⟩
     iterate 2
      ·have hv0:=Lh (HT.o.trans (refTy_d (op:=o) (by omega) ts HZ.o));rw[HAL.o]at hv0;clear ho
       cases hq:(al !=3)
       all_goals rw[hq]at hv0
       ·have hv:Hd (tx=0):=hv0.o
        go_wp2_with fail
        go_ret;exact⟨ret_int hv.o.symm,HBr.o⟩
       ·have hv:Hd (tx=2):=hv0.o
        go_wp2_with fail
        go_ret;exact⟨ret_int hv.o.symm,HBr.o⟩
     iterate 2
      ·have hv0:=Lh (HT.o.trans (refTy_b (op:=o) (by omega) ts HZ.o));rw[HAL.o]at hv0;clear ho
       cases hq:(al==2)
       all_goals rw[hq]at hv0
       ·have hv:Hd (tx=0):=hv0.o
        go_wp2_with fail
        go_ret;exact⟨ret_int hv.o.symm,HBr.o⟩
       ·have hv:Hd (tx=2):=hv0.o
        go_wp2_with fail
        go_ret;exact⟨ret_int hv.o.symm,HBr.o⟩
     ·skip
      have hv0:=Lh (HT.o.trans (refTy_e (op:=o) ho ts HZ.o));have hl3':j=3:=by
       have h1:=HMANY.o;rw[ho]at h1;have h2:manyN 18=3:=by decide
       omega
      obtain⟨bt,ot,ct,q1,hbt,hl0,d0⟩:=HSL.o.int 0 (by omega);obtain⟨bt1,ot1,ct1,q2,_,hl1,d1⟩:=HSL.o.int 1 (by omega);obtain⟨bt2,ot2,ct2,q3,_,hl2,d2⟩:=HSL.o.int 2 (by omega);simp only[vs0,true_and]at q1 q2 q3;obtain⟨rfl,rfl⟩:=q1;simp only[Option.some.injEq,Addr.mk.injEq,and_true]at q2 q3;obtain⟨⟨rfl,rfl⟩,rfl⟩:=q2;obtain⟨⟨rfl,rfl⟩,_⟩:=q3;have g0:Hd (ts.getD 0 0=ts[0]'hl0):=by show _=_;simp[List.getD,hl0]
      have g1:Hd (ts.getD 1 0=ts[1]'hl1):=by show _=_;simp[List.getD,hl1]
      have g2:Hd (ts.getD 2 0=ts[2]'hl2):=by show _=_;simp[List.getD,hl2]
      rw[g0.o,g1.o,g2.o]at hv0;rw[Nat.add_zero]at d0;generalize ts[0]=t0 at*;generalize ts[1]=t1 at*;generalize ts[2]=t2 at*;obtain⟨hj0,hj1,hj2⟩:(0:Int)<(j:Int)/\(1:Int)<(j:Int)/\(2:Int)<(j:Int):=by and_intros<;>(omega)
      clear ho hl3' g0 g1 g2
      cases hq1:(t0==2)
      ·have hv:Hd (tx=0):=by show _=_;rw[hv0.o,hq1];rfl
       go_wp2_with fail
       go_quiet (fail)
       go_wp2_with fail
       go_ret;exact⟨ret_int hv.o.symm,below_drewN HBr.o _⟩
      ·cases hq2:(t1==t2)
       ·have hv:Hd (tx=0):=by show _=_;rw[hv0.o,hq1,hq2];rfl
        go_wp2_with fail
        go_quiet (fail)
        go_wp2_with fail
        go_ret;exact⟨ret_int hv.o.symm,below_drewN HBr.o _⟩
       ·have hv:Hd (tx=t1):=by show _=_;rw[hv0.o,hq1,hq2];rfl
        go_wp2_with fail
        go_quiet (fail)
        go_wp2_with fail
        go_ret;exact⟨ret_int hv.o.symm,below_drewN HBr.o _⟩
