/- Parts. -/
import Derived.Test.YtgbfdcmkbblodaaGreatDoorVW5
namespace Go.Proofs.YtgbfdcmkbblodaaGreatDoor
open Go.RowKit
set_option linter.unusedVariables false
set_option linter.unusedSimpArgs false
set_option maxRecDepth 100000
set_option maxHeartbeats 16000000
open Tryz
def kv1:=rowsOf 1 0 0 0 [1,2,3,4]
def kv2:=kv1++rowsOf 1 1 0 0 [5]
def kv3:=kv2++rowsOf 1 1 1 0 [7,8,9,10,11]
def kv4:=kv3++rowsOf 2 2 0 0 [6]
def kv5:=kv4++rowsOf 2 2 2 0 [16,17,14,15]
def kv6:=kv5++rowsOf 2 1 1 0 [12,13,14,15]
def kv7:=kv6++rowsOf 1 2 1 1 [18]
def kv8:=kv7++rowsOf 2 2 2 2 [18]
structure Kd (w W:World) (kv:List (Row×Int)):Prop where
 map:MapIs W w.heap.size kv
 cell:W.cell? ⟨w.heap.size+1,0,none⟩=some (.map (some w.heap.size))
 size:w.heap.size+2<=W.heap.size
 below:Below w.heap.size w W
theorem put_k (w W:World) (kv:List (Row×Int)) (h:Kd w W kv) (ty A B C:Int) (ops:List Int) (n:Nat) (cells:Array Value) (ts:TypeId) (bs:Nat) (hc:cells=(ops.map (Value.int .u8)).toArray) (hn:ops.length=n) (hn2:n<=1000)
  (hb:bs=W.heap.size) (hnew: ∀j (h:j<ops.length),findRow ⟨ops[j],A,B,C⟩ (kv++rowsOf ty A B C (ops.take j)) 0=none):
  Calls prog 248 #[.int .u8 ty,.agg #[.int .u8 A,.int .u8 B,.int .u8 C],.slice (some ⟨bs,0,none⟩) n n,.pointer (some ⟨w.heap.size+1,0,none⟩)] (W.alloc (.cells cells ts))
   fun e w'=>e= .returned (.tuple #[])/\Kd w w' (kv++rowsOf ty A B C ops):=by
 subst hc;subst hb;have hs:=h.size;have hcell:(W.alloc (.cells (ops.map (Value.int .u8)).toArray ts)).cell? ⟨w.heap.size+1,0,none⟩=some (.map (some w.heap.size)):=
  (((Below.refl _ W).alloc le0 _).cell (p:=⟨w.heap.size+1,0,none⟩) (by show w.heap.size+1<_;omega)).trans h.cell
 refine(put_c ty A B C ops n W.heap.size ts (w.heap.size+1) w.heap.size kv _ hn hn2 (Blk.new _ _ _) hcell (by omega) (by simp;omega) (by omega) (h.map.alloc _) hnew).mono ?_;rintro e w' ⟨rfl,hm,hf⟩;refine⟨rfl,hm,?_,?_,?_⟩
 ·exact(World.cell?_of_block (a:=⟨w.heap.size+1,0,none⟩) (hf.block (w.heap.size+1) (by simp;omega) (by omega))).trans hcell
 ·have:=hf.size;simp at this;omega
 ·exact(h.below.alloc (by omega) _).trans (hf.below (by simp;omega) (fun k hk=>by omega))
theorem new1: ∀j (h:j<([1,2,3,4]:List Int).length),findRow ⟨([1,2,3,4]:List Int)[j],0,0,0⟩ ([]++rowsOf 1 0 0 0 (([1,2,3,4]:List Int).take j)) 0=none:=by decide
theorem new2: ∀j (h:j<([5]:List Int).length),findRow ⟨([5]:List Int)[j],1,0,0⟩ (kv1++rowsOf 1 1 0 0 (([5]:List Int).take j)) 0=none:=by decide
theorem new3: ∀j (h:j<([7,8,9,10,11]:List Int).length),findRow ⟨([7,8,9,10,11]:List Int)[j],1,1,0⟩ (kv2++rowsOf 1 1 1 0 (([7,8,9,10,11]:List Int).take j)) 0=none:=by decide
theorem new4: ∀j (h:j<([6]:List Int).length),findRow ⟨([6]:List Int)[j],2,0,0⟩ (kv3++rowsOf 2 2 0 0 (([6]:List Int).take j)) 0=none:=by decide
theorem new5: ∀j (h:j<([16,17,14,15]:List Int).length),findRow ⟨([16,17,14,15]:List Int)[j],2,2,0⟩ (kv4++rowsOf 2 2 2 0 (([16,17,14,15]:List Int).take j)) 0=none:=by decide
theorem new6: ∀j (h:j<([12,13,14,15]:List Int).length),findRow ⟨([12,13,14,15]:List Int)[j],1,1,0⟩ (kv5++rowsOf 2 1 1 0 (([12,13,14,15]:List Int).take j)) 0=none:=by decide
theorem new7: ∀j (h:j<([18]:List Int).length),findRow ⟨([18]:List Int)[j],2,1,1⟩ (kv6++rowsOf 1 2 1 1 (([18]:List Int).take j)) 0=none:=by decide
theorem new8: ∀j (h:j<([18]:List Int).length),findRow ⟨([18]:List Int)[j],2,2,2⟩ (kv7++rowsOf 2 2 2 2 (([18]:List Int).take j)) 0=none:=by decide
theorem rules_c (w:World):Calls prog 221 #[] w fun e w'=>e= .returned (.map (some w.heap.size))/\MapIs w' w.heap.size kv8/\Below w.heap.size w w':=by
 have hmm:= @run_makeMap prog;have hmf: ∀(fn:Fn) (first cap:Array Value) (w:World),(Instr.makeFunc fn first cap).run prog w= .ok (.func fn first cap) w:=fun _ _ _ _=>rfl;have h0:Kd w ((w.alloc (.map #[] 0)).alloc (.cells #[.map (some w.heap.size)] 285)) []:=by
  refine⟨MapIs.alloc (kv:=[]) ⟨#[],0,heap_alloc_new w _,rfl⟩ _,?_,by simp,(br0.alloc le0 _).alloc (by simp) _⟩;have:=(Blk.new_at (w.alloc (.map #[] 0)) #[.map (some w.heap.size)] 285 (k:=w.heap.size+1) (by simp)).cell 0;exact this
 go_enter func221,ntmps221
 go_wp2_with fail
 generalize hWW:World.alloc (World.alloc w _) _=W at*
 go_wp2_with (first
  |(go_at_call 248;refine(put_k w W [] h0 1 0 0 0 [1,2,3,4] 4 _ _ _ rfl rfl (by omega) (by rw[<-hWW];simp) new1).mono ?_;rintro e w1 ⟨rfl,h1⟩;have c1:=h1.cell;clear h0 hWW)
  |(go_at_call 248;refine(put_k w _ kv1 h1 1 1 0 0 [5] 1 _ _ _ rfl rfl (by omega) rfl new2).mono ?_;rintro e w2 ⟨rfl,h2⟩;have c2:=h2.cell;clear h1 c1)
  |(go_at_call 248;refine(put_k w _ kv2 h2 1 1 1 0 [7,8,9,10,11] 5 _ _ _ rfl rfl (by omega) rfl new3).mono ?_;rintro e w3 ⟨rfl,h3⟩;have c3:=h3.cell;clear h2 c2)
  |(go_at_call 248;refine(put_k w _ kv3 h3 2 2 0 0 [6] 1 _ _ _ rfl rfl (by omega) rfl new4).mono ?_;rintro e w4 ⟨rfl,h4⟩;have c4:=h4.cell;clear h3 c3)
  |(go_at_call 248;refine(put_k w _ kv4 h4 2 2 2 0 [16,17,14,15] 4 _ _ _ rfl rfl (by omega) rfl new5).mono ?_;rintro e w5 ⟨rfl,h5⟩;have c5:=h5.cell;clear h4 c4)
  |(go_at_call 248;refine(put_k w _ kv5 h5 2 1 1 0 [12,13,14,15] 4 _ _ _ rfl rfl (by omega) rfl new6).mono ?_;rintro e w6 ⟨rfl,h6⟩;have c6:=h6.cell;clear h5 c5)
  |(go_at_call 248;refine(put_k w _ kv6 h6 1 2 1 1 [18] 1 _ _ _ rfl rfl (by omega) rfl new7).mono ?_;rintro e w7 ⟨rfl,h7⟩;have c7:=h7.cell;clear h6 c6)
  |(go_at_call 248;refine(put_k w _ kv7 h7 2 2 2 2 [18] 1 _ _ _ rfl rfl (by omega) rfl new8).mono ?_;rintro e w8 ⟨rfl,h8⟩;have c8:=h8.cell;clear h7 c7))
 go_ret;exact⟨rfl,h8.map,h8.below⟩
mutual
def Ex.ty:Ex->Int
 | .mk o _ l=>match Exs.tys l with
  |none=>0
  |some ts=>getRow ⟨o,ts.getD 0 0,ts.getD 1 0,ts.getD 2 0⟩ kv8
def Exs.tys:List Ex->Option (List Int)
 | []=>some []
 |x::l=>if x.ty=0 then none else(Exs.tys l).map (x.ty:: ·)
end
theorem Ex.ty_eq (x:Ex):x.ty=match Exs.tys x.args with|none=>0|some ts=>getRow ⟨x.op,ts.getD 0 0,ts.getD 1 0,ts.getD 2 0⟩ kv8:=by
 obtain⟨o,n,l⟩:=x;simp only[Ex.ty,Ex.args,Ex.op]
mutual
def Ex.thin:Ex->Prop
 | .mk _ _ l=>l.length<=3/\Exs.thin l
def Exs.thin:List Ex->Prop
 | []=>True
 |x::l=>x.thin/\Exs.thin l
end
theorem Exs.thin_mem: ∀(l:List Ex) (x:Ex),Exs.thin l->x∈l->x.thin
 |y::l,x,h,hm=>by
  simp only[Exs.thin]at h
  rcases List.mem_cons.1 hm with rfl|hm
  ·exact h.1
  ·exact Exs.thin_mem l x h.2 hm
theorem Ex.thin_args (x:Ex) (h:x.thin):x.args.length<=3/\ ∀a∈x.args,a.thin:=by
 obtain⟨o,n,l⟩:=x;simp only[Ex.thin]at h;exact⟨h.1,fun a ha=>Exs.thin_mem l a h.2 ha⟩
def OfC (h:Nat):Prop:= ∀(x:Ex) (v:Value) (B:Nat) (w:World) (bm:Nat),x.ht<=h->ExAt w B v x->x.thin->B<=w.heap.size->MapIs w bm kv8->
 CB prog 220 #[.map (some bm),v] w (.int .u8 x.ty)
theorem of_step (h:Nat) (IH:Hd (∀x:Ex,x.ht<h-> ∀(v:Value) (B:Nat) (w:World) (bm:Nat),ExAt w B v x->x.thin->B<=w.heap.size->MapIs w bm kv8->
   CB prog 220 #[.map (some bm),v] w (.int .u8 x.ty))):OfC h:=by
 intro x v B w bm hh hv hth hB hm;have HLT:Hd (∀a∈x.args,a.ht<h):=fun a ha=>by have:=Ex.ht_args x a ha;omega
 have HTH:=Lh (Ex.thin_args x hth);have HE:=Lh (Ex.ty_eq x);obtain⟨sv,rfl,hs⟩:=hv;obtain⟨a,cap,rfl,hcap,hmx⟩:=hs.slice;have HS:=Lh hs;have hl3:x.args.length<=3:=HTH.o.1;generalize x.op=o at*;generalize x.n=n at*;generalize x.args=l at*;clear hs hh hth;go_enter func220,ntmps220;go_wp2;have hW:=(((Below.refl w.heap.size w).alloc le0 (.cells #[.int .u8 o,.int .i64 n,.slice a l.length cap] 133)).alloc (by simp) (.cells #[.int .u8 o,.int .u8 0,.int .u8 0,.int .u8 0] 313));have hR:=Blk.new_at (w.alloc (.cells #[.int .u8 o,.int .i64 n,.slice a l.length cap] 133)) #[.int .u8 o,.int .u8 0,.int .u8 0,.int .u8 0] 313 (k:=w.heap.size+1) (by simp);generalize World.alloc (World.alloc w _) _=W at*
 go_loopw [6,7,14] (fun _ _ q wr=> ∃(j:Nat) (ts:List Int),q= .int .i64 j/\j<=l.length/\ts.length=j/\Below w.heap.size w wr/\
  Blk wr (w.heap.size+1) 313 #[.int .u8 o,.int .u8 (ts.getD 0 0),.int .u8 (ts.getD 1 0),.int .u8 (ts.getD 2 0)]/\Exs.tys l=(Exs.tys (l.drop j)).map (ts++ ·)) (fun _ _ q _=>l.length-(intOf q).toNat)
 case atStart=>exact⟨0,[],rfl,ze0,rfl,hW,hR,by simp⟩
 case round=>
  obtain⟨j,ts,rfl,hj,hts,hBr,hRr,hr⟩:=hrel;by_cases hlt:j<l.length
  ·obtain⟨b,off,cp,sv,e1,hb,c0,c1,c2,hsub⟩:=((HS.o.mono hB).keep hBr).at_ j hlt;simp only[vs0,true_and]at e1;obtain⟨rfl,rfl⟩:=e1;obtain⟨a2,cap2,rfl,_,_⟩:=hsub.slice;rw[List.drop_eq_getElem_cons hlt]at hr;simp only[Exs.tys]at hr;have hht:=HLT.o _ (List.getElem_mem hlt);have hthx:=HTH.o.2 _ (List.getElem_mem hlt);have hx: ∀X,Below wr.heap.size wr X->ExAt X X.heap.size (.agg #[.int .u8 (l[j]'hlt).op,.int .i64 (l[j]'hlt).n,.slice a2 (l[j]'hlt).args.length cap2]) (l[j]'hlt):=fun X hX=>⟨_,rfl,(hsub.keep (hX.mono hBr.size)).mono (le1 hBr.size hX.size)⟩;generalize l[j]=y at*;have HX:=Lh hx;have HR:=Lh hr;clear hr hx hsub;have hlo:w.heap.size+1<wr.heap.size:=hRr.lt;have hj3:j<3:=by omega
   have hcl:(#[.int .u8 o,.int .u8 (ts.getD 0 0),.int .u8 (ts.getD 1 0),.int .u8 (ts.getD 2 0)]:Array Value)[1+j]? =some (.int .u8 0):=by
    have h0:ts.getD j 0=0:=by rw[List.getD_eq_getElem?_getD,List.getElem?_eq_none (by omega)];rfl
    obtain rfl|rfl|rfl:j=0\/j=1\/j=2:=by omega
    all_goals simpa using h0
   cases hy:(y.ty==0)
   all_goals
    have HY:=Lh hy;have HY2:=Lh hy;clear hy
    go_wp2_with (go_at_call 220;refine(IH.o y hht _ _ _ bm (HX.o _ (br0.alloc le0 _)) hthx le0 ((hm.below hBr hm.lt).alloc _)).mono ?_;rintro e w3 ⟨rfl,hb3⟩;have hR3:=(hRr.alloc (.cells #[.int .u8 y.op,.int .i64 y.n,.slice a2 y.args.length cap2] 133)).below hb3 (by simp;omega);have r1:=(hR3.cell (1+j)).trans hcl;have r2:=hR3.free (1+j);have r3:=HY.o)
   ·have HNE:=Lh (show ¬y.ty=0 by have:=HY2.o;simpa using this);have hset:=hR3.set (1+j) (.int .u8 y.ty);go_roundw
    case rel=>
     refine⟨j+1,ts++ [y.ty],by go_num,by omega,by simp[hts],?_,?_,?_⟩
     ·exact((hBr.alloc hBr.size _).trans (hb3.mono (by have:=hBr.size;simp;omega))).setCell (by show _<=w.heap.size+1;omega) _
     ·have hg: ∀i,i≠j->(ts++ [y.ty]).getD i 0=ts.getD i 0:=by
       intro i hi;rw[List.getD_eq_getElem?_getD,List.getD_eq_getElem?_getD];by_cases hij:i<j
       ·rw[List.getElem?_append_left (by omega)]
       ·rw[List.getElem?_eq_none (by simp;omega),List.getElem?_eq_none (by omega)]
      have hg2:(ts++ [y.ty]).getD j 0=y.ty:=by subst hts;simp
      obtain rfl|rfl|rfl:j=0\/j=1\/j=2:=by omega
      ·rw[hg2,hg 1 (by omega),hg 2 (by omega)];exact hset
      ·rw[hg2,hg 0 (by omega),hg 2 (by omega)];exact hset
      ·rw[hg2,hg 0 (by omega),hg 1 (by omega)];exact hset
     ·rw[HR.o,if_neg HNE.o,Option.map_map]
      congr 1
      funext z
      simp
    case measure=>simp[intOf];omega
   ·have HEQ:=Lh (show y.ty=0 by have:=HY2.o;simpa using this);go_ret;refine⟨ret_int (by rw[HE.o,HR.o,if_pos HEQ.o];rfl),?_⟩;exact((hBr.alloc hBr.size _).trans (hb3.mono (by have:=hBr.size;simp;omega))).setCell (by show _<=w.heap.size+1;omega) _
  ·rw[List.drop_of_length_le (by omega)]at hr;have HR:=Lh hr;clear hr;have hmr:=hm.below hBr hm.lt;obtain⟨c0,c1,c2,c3⟩:=hRr.q4
   go_wp2_with (at_lookup;refine wpList_lookup_row _ rfl _ _ rfl bm kv8 rfl hmr ⟨o,ts.getD 0 0,ts.getD 1 0,ts.getD 2 0⟩ rfl ?_)
   go_ret;exact⟨ret_int (by rw[HE.o,HR.o];simp[Exs.tys]),hBr⟩
theorem of_all (h:Nat):OfC h:=by
 induction h using Nat.strongRecOn with
 |ind h ih=>exact of_step h (fun x hx v B w bm hv ht hB hm=>ih x.ht hx x v B w bm le0 hv ht hB hm)
theorem of_c (x:Ex) (v:Value) (B:Nat) (w:World) (bm:Nat) (hv:ExAt w B v x) (ht:x.thin) (hB:B<=w.heap.size) (hm:MapIs w bm kv8):
  CB prog 220 #[.map (some bm),v] w (.int .u8 x.ty):=of_all x.ht x v B w bm le0 hv ht hB hm
theorem Exs.thin_of: ∀(l:List Ex),(∀a∈l,a.thin)->Exs.thin l
 | [],_=>trivial
 |x::l,h=>⟨h x (by simp),Exs.thin_of l (fun a ha=>h a (by simp[ha]))⟩
theorem thin_of_may: ∀(k:Nat) (x:Ex),mayB k x=true->x.thin:=by
 intro k
 induction k with
 |zero=>intro x h;simp[mayB]at h
 |succ k ih=>
  intro x h;simp only[mayB,Bool.and_eq_true,List.all_eq_true]at h;obtain⟨h1,h2⟩:=h;have h1':=(of_decide_eq_true h1).1;obtain⟨o,n,l⟩:=x;simp only[Ex.op,Ex.args]at h1' h2;refine⟨?_,Exs.thin_of l (fun a ha=>ih a (h2 a ha))⟩;unfold manyN at h1'
  repeat' split at h1'
  all_goals omega
def Ex.typ (x:Ex) (acc:Bool):Int×Int:=if x.mayT=true then(if acc=false/\x.accB=true then(0,90)else if x.ty=0 then(0,91)else(x.ty,0))else(0,2)
theorem Of_c (x:Ex) (acc:Bool) (v:Value) (B:Nat) (w:World) (hv:ExAt w B v x) (hB:B<=w.heap.size):
  CB prog 188 #[v,.bool acc] w (.tuple #[.int .u8 (x.typ acc).1,.int .i64 (x.typ acc).2]):=by
 obtain⟨sv,rfl,hs⟩:=hv;obtain⟨a,cap,rfl,hcap,hmx⟩:=hs.slice;have HX:Hd (∀X,Below w.heap.size w X->ExAt X X.heap.size (.agg #[.int .u8 x.op,.int .i64 x.n,.slice a x.args.length cap]) x):=fun X hX=>⟨_,rfl,((hs.mono hB).keep hX).mono hX.size⟩;clear hs hmx hcap;have hR:=Blk.new w #[.int .u8 x.op,.int .i64 x.n,.slice a x.args.length cap] 133;have hW:=(Below.refl w.heap.size w).alloc le0 (.cells #[.int .u8 x.op,.int .i64 x.n,.slice a x.args.length cap] 133);have hWs:(w.alloc (.cells #[.int .u8 x.op,.int .i64 x.n,.slice a x.args.length cap] 133)).heap.size=w.heap.size+1:=by simp
 generalize hgo:x.op=o at*;generalize hgn:x.n=n at*;generalize hgl:x.args.length=ll at*;have HG:=Lh (And.intro hgo (And.intro hgn hgl));clear hgo hgn hgl;have HS:=Lh hWs;clear hWs
 cases hm:x.mayT
 ·have HM:=Lh hm;have HE:Hd (x.typ acc=(0,2)):=by simp[Hd,Ex.typ,hm]
  clear hm;go_enter func188,ntmps188
  go_wp2_with fail
  generalize World.alloc w _=W at*;obtain⟨c0,c1,c2⟩:=hR.q3
  go_wp2_with (go_at_call 218;refine(May_c x _ _ _ (HX.o _ hW) le0).mono ?_;rintro e w1 ⟨rfl,hb1⟩;rw[HM.o])
  go_ret2;exact⟨by rw[HE.o];rfl,hW.trans (hb1.mono (by have:=HS.o;omega))⟩
 ·have hth:=Lh (thin_of_may 16 x hm);have HM:=Lh hm;have HT:Hd ((acc=false/\x.accB=true)->x.typ acc=(0,90)):=fun h=>by simp[Ex.typ,hm,h]
  have HU:Hd (¬(acc=false/\x.accB=true)->x.ty=0->x.typ acc=(0,91)):=fun h h'=>by simp only[Ex.typ];rw[if_pos hm,if_neg h,if_pos h']
  have HV:Hd (¬(acc=false/\x.accB=true)->x.ty≠0->x.typ acc=(x.ty,0)):=fun h h'=>by simp only[Ex.typ];rw[if_pos hm,if_neg h,if_neg h']
  cases acc
  ·cases hac:x.accB
   ·have HA:=Lh hac;clear hm hac
    cases hty:(x.ty==0)
    ·have HY:=Lh hty;have HE:Hd (x.typ false=(x.ty,0)):=HV.o (by rw[HA.o];simp) (by simpa using hty);clear hty;go_enter func188,ntmps188
     go_wp2_with fail
     generalize World.alloc w _=W at*;obtain⟨c0,c1,c2⟩:=hR.q3
     go_wp2_with (first
      |(go_at_call 218;refine(May_c x _ _ _ (HX.o _ hW) le0).mono ?_;rintro e w1 ⟨rfl,hb1⟩;rw[HM.o];have hR1:=hR.below hb1 hR.lt;obtain⟨d0,d1,d2⟩:=hR1.q3)
      |(go_at_call 219;refine(accs_c x _ _ _ (HX.o _ (hW.trans (hb1.mono (by have:=HS.o;omega)))) le0).mono ?_;rintro e w2 ⟨rfl,hb2⟩;rw[HA.o];have hR2:=hR1.below hb2 hR1.lt))
     have hb12:=hW.trans ((hb1.trans (hb2.mono hb1.size)).mono (by have:=HS.o;omega));clear c0 c1 c2 d0 d1 d2;obtain⟨e0,e1,e2⟩:=hR2.q3
     go_region_with (first
      |(go_at_call 221;refine(rules_c _).mono ?_;rintro e w3 ⟨rfl,hm3,hb3⟩;have hR3:=hR2.drew.below hb3 hR2.lt;obtain⟨g0,g1,g2⟩:=hR3.q3;have hb13:=hb12.drew.trans (hb3.mono hb12.size))
      |(go_at_call 220;refine(of_c x _ _ _ _ (HX.o _ hb13) hth.o le0 hm3).mono ?_;rintro e w4 ⟨rfl,hb4⟩))
     all_goals
      have hz:=HY.o
      go_wp2_with fail
      go_ret2;exact⟨by rw[HE.o];rfl,hb13.trans (hb4.mono hb13.size)⟩
    ·have HY:=Lh hty;have HE:Hd (x.typ false=(0,91)):=HU.o (by rw[HA.o];simp) (by simpa using hty);clear hty;go_enter func188,ntmps188
     go_wp2_with fail
     generalize World.alloc w _=W at*;obtain⟨c0,c1,c2⟩:=hR.q3
     go_wp2_with (first
      |(go_at_call 218;refine(May_c x _ _ _ (HX.o _ hW) le0).mono ?_;rintro e w1 ⟨rfl,hb1⟩;rw[HM.o];have hR1:=hR.below hb1 hR.lt;obtain⟨d0,d1,d2⟩:=hR1.q3)
      |(go_at_call 219;refine(accs_c x _ _ _ (HX.o _ (hW.trans (hb1.mono (by have:=HS.o;omega)))) le0).mono ?_;rintro e w2 ⟨rfl,hb2⟩;rw[HA.o];have hR2:=hR1.below hb2 hR1.lt))
     have hb12:=hW.trans ((hb1.trans (hb2.mono hb1.size)).mono (by have:=HS.o;omega));clear c0 c1 c2 d0 d1 d2;obtain⟨e0,e1,e2⟩:=hR2.q3
     go_region_with (first
      |(go_at_call 221;refine(rules_c _).mono ?_;rintro e w3 ⟨rfl,hm3,hb3⟩;have hR3:=hR2.drew.below hb3 hR2.lt;obtain⟨g0,g1,g2⟩:=hR3.q3;have hb13:=hb12.drew.trans (hb3.mono hb12.size))
      |(go_at_call 220;refine(of_c x _ _ _ _ (HX.o _ hb13) hth.o le0 hm3).mono ?_;rintro e w4 ⟨rfl,hb4⟩))
     all_goals
      have hz:=HY.o
      go_wp2_with fail
      go_ret2;exact⟨by rw[HE.o];rfl,hb13.trans (hb4.mono hb13.size)⟩
   ·have HA:=Lh hac;have HE:Hd (x.typ false=(0,90)):=HT.o ⟨rfl,hac⟩;clear hm hac;go_enter func188,ntmps188
    go_wp2_with fail
    generalize World.alloc w _=W at*;obtain⟨c0,c1,c2⟩:=hR.q3
    go_wp2_with (first
     |(go_at_call 218;refine(May_c x _ _ _ (HX.o _ hW) le0).mono ?_;rintro e w1 ⟨rfl,hb1⟩;rw[HM.o];have hR1:=hR.below hb1 hR.lt;obtain⟨d0,d1,d2⟩:=hR1.q3)
     |(go_at_call 219;refine(accs_c x _ _ _ (HX.o _ (hW.trans (hb1.mono (by have:=HS.o;omega)))) le0).mono ?_;rintro e w2 ⟨rfl,hb2⟩;rw[HA.o]))
    go_ret2;exact⟨by rw[HE.o];rfl,hW.trans ((hb1.trans (hb2.mono hb1.size)).mono (by have:=HS.o;omega))⟩
  ·clear hm
   cases hty:(x.ty==0)
   ·have HY:=Lh hty;have HE:Hd (x.typ true=(x.ty,0)):=HV.o (by simp) (by simpa using hty);clear hty;go_enter func188,ntmps188
    go_wp2_with fail
    generalize World.alloc w _=W at*;obtain⟨c0,c1,c2⟩:=hR.q3
    go_wp2_with (go_at_call 218;refine(May_c x _ _ _ (HX.o _ hW) le0).mono ?_;rintro e w1 ⟨rfl,hb1⟩;rw[HM.o];have hR1:=hR.below hb1 hR.lt;obtain⟨d0,d1,d2⟩:=hR1.q3)
    have hb12:=hW.trans (hb1.mono (by have:=HS.o;omega));clear c0 c1 c2 d0 d1 d2;obtain⟨e0,e1,e2⟩:=hR1.q3
    go_region_with (first
     |(go_at_call 221;refine(rules_c _).mono ?_;rintro e w3 ⟨rfl,hm3,hb3⟩;have hR3:=hR1.drew.below hb3 hR1.lt;obtain⟨g0,g1,g2⟩:=hR3.q3;have hb13:=hb12.drew.trans (hb3.mono hb12.size))
     |(go_at_call 220;refine(of_c x _ _ _ _ (HX.o _ hb13) hth.o le0 hm3).mono ?_;rintro e w4 ⟨rfl,hb4⟩))
    all_goals
     have hz:=HY.o
     go_wp2_with fail
     go_ret2;exact⟨by rw[HE.o];rfl,hb13.trans (hb4.mono hb13.size)⟩
   ·have HY:=Lh hty;have HE:Hd (x.typ true=(0,91)):=HU.o (by simp) (by simpa using hty);clear hty;go_enter func188,ntmps188
    go_wp2_with fail
    generalize World.alloc w _=W at*;obtain⟨c0,c1,c2⟩:=hR.q3
    go_wp2_with (go_at_call 218;refine(May_c x _ _ _ (HX.o _ hW) le0).mono ?_;rintro e w1 ⟨rfl,hb1⟩;rw[HM.o];have hR1:=hR.below hb1 hR.lt;obtain⟨d0,d1,d2⟩:=hR1.q3)
    have hb12:=hW.trans (hb1.mono (by have:=HS.o;omega));clear c0 c1 c2 d0 d1 d2;obtain⟨e0,e1,e2⟩:=hR1.q3
    go_region_with (first
     |(go_at_call 221;refine(rules_c _).mono ?_;rintro e w3 ⟨rfl,hm3,hb3⟩;have hR3:=hR1.drew.below hb3 hR1.lt;obtain⟨g0,g1,g2⟩:=hR3.q3;have hb13:=hb12.drew.trans (hb3.mono hb12.size))
     |(go_at_call 220;refine(of_c x _ _ _ _ (HX.o _ hb13) hth.o le0 hm3).mono ?_;rintro e w4 ⟨rfl,hb4⟩))
    all_goals
     have hz:=HY.o
     go_wp2_with fail
     go_ret2;exact⟨by rw[HE.o];rfl,hb13.trans (hb4.mono hb13.size)⟩
def Ex.isB (x:Ex) (acc:Bool) (ty:Int):Bool:=decide ((x.typ acc).2=0/\(x.typ acc).1=ty)
theorem Is_c (x:Ex) (acc:Bool) (ty:Int) (v:Value) (B:Nat) (w:World) (hv:ExAt w B v x) (hB:B<=w.heap.size):
  CB prog 161 #[v,.bool acc,.int .u8 ty] w (.bool (x.isB acc ty)):=by
 obtain⟨sv,rfl,hs⟩:=hv;obtain⟨a,cap,rfl,hcap,hmx⟩:=hs.slice;have HX:Hd (ExAt (w.alloc (.cells #[.int .u8 x.op,.int .i64 x.n,.slice a x.args.length cap] 133)) (w.alloc (.cells #[.int .u8 x.op,.int .i64 x.n,.slice a x.args.length cap] 133)).heap.size (.agg #[.int .u8 x.op,.int .i64 x.n,.slice a x.args.length cap]) x):=
  ⟨_,rfl,((hs.mono hB).keep (br0.alloc le0 _)).mono (by simp)⟩
 clear hs hmx hcap
 cases h2:((x.typ acc).2==0)
 ·have HE:Hd (x.isB acc ty=false):=by simp[Hd,Ex.isB];intro h;rw[h]at h2;simp at h2
  have H2:=Lh h2;clear h2;go_enter func161,ntmps161
  go_wp2_with (go_at_call 188;refine(Of_c x acc _ _ _ HX.o le0).mono ?_;rintro e w1 ⟨rfl,hb1⟩;have h2:=H2.o)
  go_ret;exact⟨ret_bool HE.o.symm,(br0.alloc le0 _).trans (hb1.mono (by simp))⟩
 ·have H2:=Lh h2;have h2':(x.typ acc).2=0:=by simpa using h2
  clear h2
  cases h3:((x.typ acc).1==ty)
  all_goals
   have HE:Hd (x.isB acc ty=((x.typ acc).1==ty)):=by simp only[Hd,Ex.isB,h2',true_and];rfl
   have H3:=Lh h3
  all_goals
   clear h2' h3;go_enter func161,ntmps161
   go_wp2_with (go_at_call 188;refine(Of_c x acc _ _ _ HX.o le0).mono ?_;rintro e w1 ⟨rfl,hb1⟩;have h2:=H2.o;have h3:=H3.o)
   go_ret;exact⟨ret_bool (by rw[HE.o,H3.o]),(br0.alloc le0 _).trans (hb1.mono (by simp))⟩
def rLeast (k:Int):Int:=if k=1 then 0 else if k=8 then 2 else 1
def rMost (k:Int):Int:=if k=1 then 0 else if k=8 then 3 else 1
def rTy (k:Int):Int:=if k=3 then 2 else if k=2\/k=4\/k=5\/k=6 then 1 else 0
def rAcc (k:Int):Bool:=k==6
def rN (k:Int):Int:=if k=7 then 16 else 0
def rM (k:Int):Int:=if k=7 then 1 else 0
def rulesV:Value:= .agg #[.int .i64 0,.int .i64 0,.int .u8 0,.bool false,.int .i64 0,.int .i64 0,.int .i64 0,.int .u8 0,.bool false,.int .i64 0,.int .i64 1,.int .i64 1,.int .u8 1,.bool false,.int .i64 0,.int .i64 1,.int .i64 1,.int .u8 2,.bool false,.int .i64 0,.int .i64 1,.int .i64 1,.int .u8 1,.bool false,.int .i64 0,.int .i64 1,.int .i64 1,.int .u8 1,.bool false,.int .i64 0,.int .i64 1,.int .i64 1,.int .u8 1,.bool true,.int .i64 0,.int .i64 1,.int .i64 1,.int .u8 0,.bool false,.int .i64 16,.int .i64 2,.int .i64 3,.int .u8 0,.bool false,.int .i64 0,.int .i64 1,.int .i64 1,.int .u8 0,.bool false,.int .i64 0]
theorem jrules_c (w:World):CB prog 157 #[] w rulesV:=by
 go_enter func157,ntmps157
 go_wp2_with (refine wpList_store_row rfl 216 (.tmp 0) (.tmp 10) rfl w.heap.size _ rfl rfl 216 _ (heap_alloc_new w _) (by as_aux_lemma=>kernel_rfl) (by as_aux_lemma=>kernel_rfl) (by as_aux_lemma=>kernel_rfl) ?_)
 refine bodyPost_ret (v:=rulesV) (results_cell_row rfl _ _ w.heap.size 216 _ (0,0) _ rfl (setRow_heap (w.alloc _) w.heap.size _ _ _ _ (heap_alloc_new w _)) underlying216 rfl ?_) rfl ⟨rfl,?_⟩
 ·as_aux_lemma=>kernel_rfl
 ·exact⟨rfl,rfl,rfl,by simp,fun k hk=>(setRow_other (w.alloc _) w.heap.size k _ (by omega)).trans (alloc_old w _ k hk)⟩
theorem index_rules (k:Int) (h1:1<=k) (h2:k<=9) (w:World):(Instr.index 216 rulesV (.int .u8 k)).run prog w= .ok (.agg #[.int .i64 (rLeast k),.int .i64 (rMost k),.int .u8 (rTy k),.bool (rAcc k),.int .i64 (rN k)]) w:=by
 obtain rfl|rfl|rfl|rfl|rfl|rfl|rfl|rfl|rfl:k=1\/k=2\/k=3\/k=4\/k=5\/k=6\/k=7\/k=8\/k=9:=by omega
 all_goals kernel_rfl
def nodeB (d:Nd) (at_:Int):Bool:=
 nameB d.uid&&(!decide (d.kind<1)&&(!decide (9<d.kind)&&(!decide ((d.ins.length:Int)<rLeast d.kind)&&(!decide (rMost d.kind<(d.ins.length:Int))&&(!twiceB (fun x y=>x==y) d.ins&&(!d.ins.any (outB at_)&&
  (!decide (d.n<rM d.kind)&&(!decide (rN d.kind<d.n)&&(bif rTy d.kind==0 then d.x.sameB (.mk 0 0 [])else d.x.isB (rAcc d.kind) (rTy d.kind))))))))))
theorem nodeB_cases (d:Nd) (at_:Int):
  (nameB d.uid=false/\nodeB d at_=false)\/
  (nameB d.uid=true/\decide (d.kind<1)=true/\nodeB d at_=false)\/
  (nameB d.uid=true/\decide (d.kind<1)=false/\decide (9<d.kind)=true/\nodeB d at_=false)\/
  (nameB d.uid=true/\decide (d.kind<1)=false/\decide (9<d.kind)=false/\decide ((d.ins.length:Int)<rLeast d.kind)=true/\nodeB d at_=false)\/
  (nameB d.uid=true/\decide (d.kind<1)=false/\decide (9<d.kind)=false/\decide ((d.ins.length:Int)<rLeast d.kind)=false/\decide (rMost d.kind<(d.ins.length:Int))=true/\nodeB d at_=false)\/
  (nameB d.uid=true/\decide (d.kind<1)=false/\decide (9<d.kind)=false/\decide ((d.ins.length:Int)<rLeast d.kind)=false/\decide (rMost d.kind<(d.ins.length:Int))=false/\twiceB (fun x y=>x==y) d.ins=true/\nodeB d at_=false)\/
  (nameB d.uid=true/\decide (d.kind<1)=false/\decide (9<d.kind)=false/\decide ((d.ins.length:Int)<rLeast d.kind)=false/\decide (rMost d.kind<(d.ins.length:Int))=false/\twiceB (fun x y=>x==y) d.ins=false/\d.ins.any (outB at_)=true/\nodeB d at_=false)\/
  (nameB d.uid=true/\decide (d.kind<1)=false/\decide (9<d.kind)=false/\decide ((d.ins.length:Int)<rLeast d.kind)=false/\decide (rMost d.kind<(d.ins.length:Int))=false/\twiceB (fun x y=>x==y) d.ins=false/\d.ins.any (outB at_)=false/\decide (d.n<rM d.kind)=true/\nodeB d at_=false)\/
  (nameB d.uid=true/\decide (d.kind<1)=false/\decide (9<d.kind)=false/\decide ((d.ins.length:Int)<rLeast d.kind)=false/\decide (rMost d.kind<(d.ins.length:Int))=false/\twiceB (fun x y=>x==y) d.ins=false/\d.ins.any (outB at_)=false/\decide (d.n<rM d.kind)=false/\decide (rN d.kind<d.n)=true/\nodeB d at_=false)\/
  (nameB d.uid=true/\decide (d.kind<1)=false/\decide (9<d.kind)=false/\decide ((d.ins.length:Int)<rLeast d.kind)=false/\decide (rMost d.kind<(d.ins.length:Int))=false/\twiceB (fun x y=>x==y) d.ins=false/\d.ins.any (outB at_)=false/\decide (d.n<rM d.kind)=false/\decide (rN d.kind<d.n)=false/\(rTy d.kind==0)=true/\nodeB d at_=d.x.sameB (.mk 0 0 []))\/
  (nameB d.uid=true/\decide (d.kind<1)=false/\decide (9<d.kind)=false/\decide ((d.ins.length:Int)<rLeast d.kind)=false/\decide (rMost d.kind<(d.ins.length:Int))=false/\twiceB (fun x y=>x==y) d.ins=false/\d.ins.any (outB at_)=false/\decide (d.n<rM d.kind)=false/\decide (rN d.kind<d.n)=false/\(rTy d.kind==0)=false/\nodeB d at_=d.x.isB (rAcc d.kind) (rTy d.kind)):=by
 unfold nodeB
 cases g0:nameB d.uid
 ·simp
 cases g1:decide (d.kind<1)
 case true=>simp
 cases g2:decide (9<d.kind)
 case true=>simp
 cases g3:decide ((d.ins.length:Int)<rLeast d.kind)
 case true=>simp
 cases g4:decide (rMost d.kind<(d.ins.length:Int))
 case true=>simp
 cases g5:twiceB (fun x y=>x==y) d.ins
 case true=>simp
 cases g6:d.ins.any (outB at_)
 case true=>simp
 cases g7:decide (d.n<rM d.kind)
 case true=>simp
 cases g8:decide (rN d.kind<d.n)
 case true=>simp
 cases gt:(rTy d.kind==0)
 all_goals simp
theorem jmay_a (d:Nd) (at_:Int) (v:Value) (B:Nat) (w:World) (hv:NdAt w B v d) (hB:B<=w.heap.size) (hc:nameB d.uid=false\/(nameB d.uid=true/\decide (d.kind<1)=true)\/(nameB d.uid=true/\decide (d.kind<1)=false/\decide (9<d.kind)=true)) (hr:nodeB d at_=false)
  :CB prog 126 #[v,.int .i64 at_] w (.bool (nodeB d at_)):=by
 obtain⟨iv,sv,rfl,⟨hi,hs⟩,hu⟩:=hv;obtain⟨_,ai,capi,rfl,hc1,hm1,_⟩:=id hi;obtain⟨ax,capx,rfl,hc2,hm2⟩:=hs.slice;rename_i hx1;have HI:=Lh hi;have HS:=Lh hs;have HX:Hd (∀X,Below w.heap.size w X->ExAt X X.heap.size (.agg #[.int .u8 d.x.op,.int .i64 d.x.n,.slice ax d.x.args.length capx]) d.x):=fun X hX=>⟨_,rfl,((hs.mono hB).keep hX).mono hX.size⟩;clear hi hs hx1 hc2 hm2 HS;generalize hnb:nodeB d at_=nb at*;subst hr;generalize hu':d.uid=u at*;generalize hkd:d.kind=kd at*;generalize hdn:d.n=dn at*;generalize hins:d.ins=ins at*;generalize hlen:ins.length=len at*;generalize hxo:d.x.op=xo at*;generalize hxn:d.x.n=xn at*;generalize hxl:d.x.args.length=xl at*;have HL:=Lh hlen;have hlm:len<=9223372036854775807:=by unfold maxLen at hm1;omega
 clear hnb hu' hkd hdn hins hlen hxo hxn hxl hm1 hc1;have HU:=Lh hu;clear hu;have hb2:=((Below.refl w.heap.size w).alloc le0 (.cells #[.string u,.int .u8 kd,.slice ai len capi,.int .u8 xo,.int .i64 xn,.slice ax xl capx,.int .i64 dn] 135)).alloc (by simp) (.cells #[.int .i64 at_] 3);have hN1:=(Blk.new w #[.string u,.int .u8 kd,.slice ai len capi,.int .u8 xo,.int .i64 xn,.slice ax xl capx,.int .i64 dn] 135).alloc (.cells #[.int .i64 at_] 3);have hN2:=Blk.new_at (w.alloc (.cells #[.string u,.int .u8 kd,.slice ai len capi,.int .u8 xo,.int .i64 xn,.slice ax xl capx,.int .i64 dn] 135)) #[.int .i64 at_] 3 (k:=w.heap.size+1) (by simp);have HSZ:Hd (((w.alloc (.cells #[.string u,.int .u8 kd,.slice ai len capi,.int .u8 xo,.int .i64 xn,.slice ax xl capx,.int .i64 dn] 135)).alloc (.cells #[.int .i64 at_] 3)).heap.size=w.heap.size+2):=by simp[Hd]
 rcases hc with h1|⟨h1,h2⟩|⟨h1,h2,h3⟩
 all_goals
  have H1:=Lh h1;clear h1;go_enter func126,ntmps126
  go_wp2_with fail
  generalize World.alloc (World.alloc w _) _=W at*;have n0:=hN1.cell 0;have n1:=hN1.cell 1
  go_wp2_with (go_at_call 156;refine(Name_c u _ HU.o).mono ?_;rintro e w1 ⟨rfl,pos,rfl⟩;rw[H1.o];have hN3:Blk (W.iter u pos) _ _ _:=hN1.alloc _;have m1:=hN3.cell 1)
  go_ret;exact⟨rfl,hb2.alloc (by have:=HSZ.o;omega) _⟩
structure JR (w:World) (cs:Array Value) (at_ r1 r2 r3 r5:Int) (r4:Bool) (wx:World) (bR:Nat):Prop where
 node:Blk wx w.heap.size 135 cs
 place:Blk wx (w.heap.size+1) 3 #[.int .i64 at_]
 rule:Blk wx bR 215 #[.int .i64 r1,.int .i64 r2,.int .u8 r3,.bool r4,.int .i64 r5]
 low:w.heap.size+2<=bR
 below:Below w.heap.size w wx
theorem JR.mk1 {w w2:World} {cs:Array Value} {at_ r1 r2 r3 r5:Int} {r4:Bool} (h1:Blk w2 w.heap.size 135 cs) (h2:Blk w2 (w.heap.size+1) 3 #[.int .i64 at_]) (h3:w.heap.size+2<=w2.heap.size) (h4:Below w.heap.size w w2):
  JR w cs at_ r1 r2 r3 r5 r4 (w2.alloc (.cells #[.int .i64 r1,.int .i64 r2,.int .u8 r3,.bool r4,.int .i64 r5] 215)) w2.heap.size:=
 ⟨h1.alloc _,h2.alloc _,Blk.new _ _ _,h3,h4.alloc (by omega) _⟩
theorem JR.mk2 {w w2:World} {cs:Array Value} {at_ r1 r2 r3 r5:Int} {r4:Bool} {b:Nat} (h1:Blk w2 w.heap.size 135 cs) (h2:Blk w2 (w.heap.size+1) 3 #[.int .i64 at_]) (h3:w.heap.size+2<=b) (h4:Below w.heap.size w w2)
  (h5:Blk w2 b 215 #[.int .i64 0,.int .i64 0,.int .u8 0,.bool false,.int .i64 0]):
  JR w cs at_ r1 r2 r3 r5 r4 (((((w2.setCell ⟨b,0,none⟩ (.int .i64 r1)).setCell ⟨b,1,none⟩ (.int .i64 r2)).setCell ⟨b,2,none⟩ (.int .u8 r3)).setCell ⟨b,3,none⟩ (.bool r4)).setCell ⟨b,4,none⟩ (.int .i64 r5)) b:=by
 have n1:w.heap.size≠b:=by omega
 have n2:w.heap.size+1≠b:=by omega
 refine⟨((((h1.other n1 _).other n1 _).other n1 _).other n1 _).other n1 _,((((h2.other n2 _).other n2 _).other n2 _).other n2 _).other n2 _,((((h5.set 0 _).set 1 _).set 2 _).set 3 _).set 4 _,h3,?_⟩;exact((((h4.setCell (by simp;omega) _).setCell (by simp;omega) _).setCell (by simp;omega) _).setCell (by simp;omega) _).setCell (by simp;omega) _
theorem jmay_b (d:Nd) (at_:Int) (v:Value) (B:Nat) (w:World) (hv:NdAt w B v d) (hB:B<=w.heap.size) (h1:nameB d.uid=true) (h2:decide (d.kind<1)=false) (h3:decide (9<d.kind)=false)
    (hc:(nodeB d at_=false/\((decide ((d.ins.length:Int)<rLeast d.kind)=true)\/(decide ((d.ins.length:Int)<rLeast d.kind)=false/\decide (rMost d.kind<(d.ins.length:Int))=true)\/(decide ((d.ins.length:Int)<rLeast d.kind)=false/\decide (rMost d.kind<(d.ins.length:Int))=false/\twiceB (fun x y=>x==y) d.ins=true)\/(decide ((d.ins.length:Int)<rLeast d.kind)=false/\decide (rMost d.kind<(d.ins.length:Int))=false/\twiceB (fun x y=>x==y) d.ins=false/\d.ins.any (outB at_)=true)\/(decide ((d.ins.length:Int)<rLeast d.kind)=false/\decide (rMost d.kind<(d.ins.length:Int))=false/\twiceB (fun x y=>x==y) d.ins=false/\d.ins.any (outB at_)=false/\decide (d.n<rM d.kind)=true)\/(decide ((d.ins.length:Int)<rLeast d.kind)=false/\decide (rMost d.kind<(d.ins.length:Int))=false/\twiceB (fun x y=>x==y) d.ins=false/\d.ins.any (outB at_)=false/\decide (d.n<rM d.kind)=false/\decide (rN d.kind<d.n)=true)))\/(decide ((d.ins.length:Int)<rLeast d.kind)=false/\decide (rMost d.kind<(d.ins.length:Int))=false/\twiceB (fun x y=>x==y) d.ins=false/\d.ins.any (outB at_)=false/\decide (d.n<rM d.kind)=false/\decide (rN d.kind<d.n)=false/\(rTy d.kind==0)=true/\nodeB d at_=d.x.sameB (.mk 0 0 []))\/(decide ((d.ins.length:Int)<rLeast d.kind)=false/\decide (rMost d.kind<(d.ins.length:Int))=false/\twiceB (fun x y=>x==y) d.ins=false/\d.ins.any (outB at_)=false/\decide (d.n<rM d.kind)=false/\decide (rN d.kind<d.n)=false/\(rTy d.kind==0)=false/\nodeB d at_=d.x.isB (rAcc d.kind) (rTy d.kind)))
    :CB prog 126 #[v,.int .i64 at_] w (.bool (nodeB d at_)):=by
  obtain⟨iv,sv,rfl,⟨hi,hs⟩,hu⟩:=hv;obtain⟨_,ai,capi,rfl,hc1,hm1,_⟩:=id hi;obtain⟨ax,capx,rfl,hc2,hm2⟩:=hs.slice;rename_i hx1;have HI:=Lh hi;have HS:=Lh hs;have HX:Hd (∀X,Below w.heap.size w X->ExAt X X.heap.size (.agg #[.int .u8 d.x.op,.int .i64 d.x.n,.slice ax d.x.args.length capx]) d.x):=fun X hX=>⟨_,rfl,((hs.mono hB).keep hX).mono hX.size⟩;clear hi hs hx1 hc2 hm2 HS;generalize nodeB d at_=nb at*;have hk1:1<=d.kind:=by simpa using h2
  have hk2:d.kind<=9:=by simpa using h3
  have hix:=fun w=>index_rules d.kind hk1 hk2 w;have HRU:=Lh jrules_c;generalize rulesV=rv at*;generalize rLeast d.kind=r1 at*;generalize rMost d.kind=r2 at*;generalize hr3:rTy d.kind=r3 at*;generalize hr4:rAcc d.kind=r4 at*;have hr5:(rN d.kind=0/\rM d.kind=0)\/(rN d.kind=16/\rM d.kind=1):=by unfold rN rM;split<;>simp
  generalize rN d.kind=r5 at*;generalize rM d.kind=r8 at*;generalize hu':d.uid=u at*;generalize hkd:d.kind=kd at*;generalize hdn:d.n=dn at*;generalize hins:d.ins=ins at*;generalize hlen:ins.length=len at*;generalize hxo:d.x.op=xo at*;generalize hxn:d.x.n=xn at*;generalize hxl:d.x.args.length=xl at*;have HL:=Lh hlen;have hlm:len<=9223372036854775807:=by unfold maxLen at hm1;omega
  clear hr3 hr4 hu' hkd hdn hins hlen hxo hxn hxl hm1 hc1;have HU:=Lh hu;clear hu;have hb2:=((Below.refl w.heap.size w).alloc le0 (.cells #[.string u,.int .u8 kd,.slice ai len capi,.int .u8 xo,.int .i64 xn,.slice ax xl capx,.int .i64 dn] 135)).alloc (by simp) (.cells #[.int .i64 at_] 3);have hN1:=(Blk.new w #[.string u,.int .u8 kd,.slice ai len capi,.int .u8 xo,.int .i64 xn,.slice ax xl capx,.int .i64 dn] 135).alloc (.cells #[.int .i64 at_] 3);have hN2:=Blk.new_at (w.alloc (.cells #[.string u,.int .u8 kd,.slice ai len capi,.int .u8 xo,.int .i64 xn,.slice ax xl capx,.int .i64 dn] 135)) #[.int .i64 at_] 3 (k:=w.heap.size+1) (by simp);have HSZ:Hd (((w.alloc (.cells #[.string u,.int .u8 kd,.slice ai len capi,.int .u8 xo,.int .i64 xn,.slice ax xl capx,.int .i64 dn] 135)).alloc (.cells #[.int .i64 at_] 3)).heap.size=w.heap.size+2):=by simp[Hd]
  have H1:=Lh h1;clear h1;go_enter func126,ntmps126
  go_wp2_with fail
  generalize World.alloc (World.alloc w _) _=W at*;have n0:=hN1.cell 0;have n1:=hN1.cell 1
  go_upto_region 3 with (go_at_call 156;refine(Name_c u _ HU.o).mono ?_;rintro e w1 ⟨rfl,pos,rfl⟩;rw[H1.o];have hN3:Blk (W.iter u pos) _ _ _:=hN1.alloc _;have m1:=hN3.cell 1)
  have hN4:Blk (W.iter u pos) _ _ _:=hN2.alloc _;have hb3:Below w.heap.size w (W.iter u pos):=hb2.alloc (by have:=HSZ.o;omega) _;have hsz3:w.heap.size+2<=(W.iter u pos).heap.size:=by have:=HSZ.o;simp[World.iter];omega
  generalize World.iter W u pos=W1 at*;have hlt3:=hN3.lt;clear n0 n1 hN1 hN2 hb2 HSZ
  go_cut [5] (fun p wx=> ∃bR:Nat,p= .pointer (some ⟨bR,0,none⟩)/\JR w #[.string u,.int .u8 kd,.slice ai len capi,.int .u8 xo,.int .i64 xn,.slice ax xl capx,.int .i64 dn] at_ r1 r2 r3 r5 r4 wx bR)
  case first=>
    go_region_with (go_at_call 157;refine(HRU.o _).mono ?_;rintro e w2 ⟨rfl,hbr⟩;have hz2:=hbr.size;first
      |(have hN5:=hN3.drew.below hbr hN3.lt;have hN6:=hN4.drew.below hbr hN4.lt;have k1:=hN5.cell 1;have hlt5:=hN5.lt;have hb5:=hb3.drew.trans (hbr.mono (by simp;omega)))
      |(have hN5:=(hN3.drew.alloc _).below hbr (by simp;omega);have hN6:=(hN4.drew.alloc _).below hbr (by simp;omega);have k1:=hN5.cell 1;have hA5:Blk w2 W1.heap.size 215 _:=(Blk.new W1.drew _ _).below hbr (by simp);obtain⟨q0,q1,q2,q3,q4⟩:=hA5.u5;obtain⟨z0,z1,z2,z3,z4⟩:=hA5.q5;have hb5:=(hb3.drew.alloc (by simp;omega) _).trans (hbr.mono (by simp;omega))))
    all_goals
      go_wp2_with fail
      go_meet;refine⟨_,rfl,?_⟩
      first
      |(with_reducible refine JR.mk1 hN5 hN6 ?_ hb5)
      |(with_reducible refine JR.mk2 hN5 hN6 ?_ hb5 hA5)
      all_goals (first|omega|(simp at hz2;omega))
  case rest=>
    obtain⟨bR,rfl,hJ⟩:=hcut;obtain⟨a0,a1,a2,a3,a4,a5,a6⟩:=hJ.node.q7;have b0:=hJ.place.cell 0;obtain⟨e0,e1,e2,e3,e4⟩:=hJ.rule.q5;have B0:=Lh hJ.place;have HB:=Lh hJ.below;clear hJ;rcases hr5 with ⟨rfl,rfl⟩|⟨rfl,rfl⟩
    all_goals
     rcases hc with ⟨rfl,hc⟩|⟨h4,h5,h6,h7,h8,h9,h10,hr⟩|⟨h4,h5,h6,h7,h8,h9,h10,hr⟩
     · rcases hc with h4|⟨h4,h5⟩|⟨h4,h5,h6⟩|⟨h4,h5,h6,h7⟩|⟨h4,h5,h6,h7,h8⟩|⟨h4,h5,h6,h7,h8,h9⟩
       all_goals
        go_wp2_with (first
          |(go_at_call 158;refine(twiceInt_c ins len _ B _ (HI.o.below (HB.o.mono hB)) HL.o).mono ?_;rintro e w3 ⟨rfl,rfl⟩;rw[h6])
          |(go_at_call 159;refine(ContainsOut_c ins len _ at_ _ B _ (HI.o.below (HB.o.mono hB)) HL.o (B0.o.cell 0)).mono ?_;rintro e w3 ⟨rfl,rfl⟩;rw[h7]))
        go_ret;exact⟨rfl,HB.o⟩
     · have HR:=Lh hr
       clear hr
       go_wp2_with (first
          |(go_at_call 158;refine(twiceInt_c ins len _ B _ (HI.o.below (HB.o.mono hB)) HL.o).mono ?_;rintro e w3 ⟨rfl,rfl⟩;rw[h6])
          |(go_at_call 159;refine(ContainsOut_c ins len _ at_ _ B _ (HI.o.below (HB.o.mono hB)) HL.o (B0.o.cell 0)).mono ?_;rintro e w3 ⟨rfl,rfl⟩;rw[h7])
          |(go_at_call 94;refine(Same_c d.x (.mk 0 0 []) _ _ _ _ (HX.o _ HB.o) ⟨_,rfl,.nil none 0 ze0⟩ le0).mono ?_;rintro e w3 ⟨rfl,hb9⟩))
       go_ret;exact⟨ret_bool HR.o.symm,HB.o.trans (hb9.mono HB.o.size)⟩
     · have HR:=Lh hr
       clear hr
       go_wp2_with (first
          |(go_at_call 158;refine(twiceInt_c ins len _ B _ (HI.o.below (HB.o.mono hB)) HL.o).mono ?_;rintro e w3 ⟨rfl,rfl⟩;rw[h6])
          |(go_at_call 159;refine(ContainsOut_c ins len _ at_ _ B _ (HI.o.below (HB.o.mono hB)) HL.o (B0.o.cell 0)).mono ?_;rintro e w3 ⟨rfl,rfl⟩;rw[h7])
          |(go_at_call 161;refine(Is_c d.x r4 r3 _ _ _ (HX.o _ HB.o) le0).mono ?_;rintro e w3 ⟨rfl,hb9⟩))
       go_ret;exact⟨ret_bool HR.o.symm,HB.o.trans (hb9.mono HB.o.size)⟩
theorem jobmay_c (d:Nd) (at_:Int) (v:Value) (B:Nat) (w:World) (hv:NdAt w B v d) (hB:B<=w.heap.size):
  CB prog 126 #[v,.int .i64 at_] w (.bool (nodeB d at_)):=by
 rcases nodeB_cases d at_ with ⟨h1,hr⟩|⟨h1,h2,hr⟩|⟨h1,h2,h3,hr⟩|⟨h1,h2,h3,h4,hr⟩|⟨h1,h2,h3,h4,h5,hr⟩|⟨h1,h2,h3,h4,h5,h6,hr⟩|⟨h1,h2,h3,h4,h5,h6,h7,hr⟩|⟨h1,h2,h3,h4,h5,h6,h7,h8,hr⟩|⟨h1,h2,h3,h4,h5,h6,h7,h8,h9,hr⟩|⟨h1,h2,h3,hr⟩|⟨h1,h2,h3,hr⟩
 ·exact jmay_a d at_ v B w hv hB (.inl h1) hr
 ·exact jmay_a d at_ v B w hv hB (.inr (.inl ⟨h1,h2⟩)) hr
 ·exact jmay_a d at_ v B w hv hB (.inr (.inr ⟨h1,h2,h3⟩)) hr
 ·exact jmay_b d at_ v B w hv hB h1 h2 h3 (.inl ⟨hr,.inl h4⟩)
 ·exact jmay_b d at_ v B w hv hB h1 h2 h3 (.inl ⟨hr,.inr (.inl ⟨h4,h5⟩)⟩)
 ·exact jmay_b d at_ v B w hv hB h1 h2 h3 (.inl ⟨hr,.inr (.inr (.inl ⟨h4,h5,h6⟩))⟩)
 ·exact jmay_b d at_ v B w hv hB h1 h2 h3 (.inl ⟨hr,.inr (.inr (.inr (.inl ⟨h4,h5,h6,h7⟩)))⟩)
 ·exact jmay_b d at_ v B w hv hB h1 h2 h3 (.inl ⟨hr,.inr (.inr (.inr (.inr (.inl ⟨h4,h5,h6,h7,h8⟩))))⟩)
 ·exact jmay_b d at_ v B w hv hB h1 h2 h3 (.inl ⟨hr,.inr (.inr (.inr (.inr (.inr ⟨h4,h5,h6,h7,h8,h9⟩))))⟩)
 ·exact jmay_b d at_ v B w hv hB h1 h2 h3 (.inr (.inl hr))
 ·exact jmay_b d at_ v B w hv hB h1 h2 h3 (.inr (.inr hr))
