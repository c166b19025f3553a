/- Parts. -/
import Derived.Deep.RegionHeld3
import Derived.Test.YtgbfdcmkbblodaaGreatDoorVW2
import Derived.Test.YtgbfdcmkbblodaaGreatDoorVW9b
namespace Go.Proofs.YtgbfdcmkbblodaaGreatDoor
open Go.RowKit
set_option linter.unusedVariables false
set_option linter.unusedSimpArgs false
set_option maxRecDepth 100000
set_option maxHeartbeats 16000000
open Tryz
def RShapedC (h:Nat):Prop:= ∀(x:Ex) (v:Value) (B:Nat) (w:World) (k:Nat) (i:Int),x.ht<=h->x.ok->ExAt w B v x->i=(k:Int)->B<=w.heap.size->k<=100->
 CB prog 260 #[v,.int .i64 i] w (.bool (shapedN k x))
theorem Exs.ok_at: ∀(l:List Ex),Exs.ok l-> ∀j (h:j<l.length),(l[j]'h).ok
 |x::l,h,0,_=>h.1
 |x::l,h,j+1,hj=>Exs.ok_at l h.2 j (by simpa using hj)
theorem Ex.ok_op {x:Ex} (h:x.ok):0<=x.op/\x.op<=255:=by obtain⟨o,n,l⟩:=x;exact⟨h.1,h.2.1⟩
theorem Ex.ok_args {x:Ex} (h:x.ok):Exs.ok x.args:=by obtain⟨o,n,l⟩:=x;exact h.2.2.2.2
theorem box_drew {w W:World} {b:Nat} {c0 c1 c2:Option Value} (h:(W.cell? ⟨b,0,none⟩=c0/\W.cell? ⟨b,1,none⟩=c1/\W.cell? ⟨b,2,none⟩=c2)/\Below w.heap.size w W/\b<W.heap.size):
  (W.drew.cell? ⟨b,0,none⟩=c0/\W.drew.cell? ⟨b,1,none⟩=c1/\W.drew.cell? ⟨b,2,none⟩=c2)/\Below w.heap.size w W.drew/\b<W.drew.heap.size:=⟨h.1,h.2.1.drew,h.2.2⟩
theorem box_keep {w W W':World} {b:Nat} {c0 c1 c2:Option Value} (h:(W.cell? ⟨b,0,none⟩=c0/\W.cell? ⟨b,1,none⟩=c1/\W.cell? ⟨b,2,none⟩=c2)/\Below w.heap.size w W/\b<W.heap.size) (hb:Below W.heap.size W W'):
  (W'.cell? ⟨b,0,none⟩=c0/\W'.cell? ⟨b,1,none⟩=c1/\W'.cell? ⟨b,2,none⟩=c2)/\Below w.heap.size w W'/\b<W'.heap.size:=by
 obtain⟨⟨h1,h2,h3⟩,h4,h5⟩:=h;exact⟨⟨(hb.cell (p:=⟨b,0,none⟩) h5).trans h1,(hb.cell (p:=⟨b,1,none⟩) h5).trans h2,(hb.cell (p:=⟨b,2,none⟩) h5).trans h3⟩,h4.trans (hb.mono h4.size),lt1 h5 hb.size⟩
theorem rshaped_step (h:Nat) (IH:Hd (∀x:Ex,x.ht<h->x.ok-> ∀(v:Value) (B:Nat) (w:World) (k:Nat) (i:Int),ExAt w B v x->i=(k:Int)->B<=w.heap.size->k<=100->
   CB prog 260 #[v,.int .i64 i] w (.bool (shapedN k x)))):RShapedC h:=by
 intro x v B w k i hh hok hv hi hB hk;have HLT:Hd (∀a∈x.args,a.ht<h):=fun a ha=>by have:=Ex.ht_args x a ha;omega
 have HOK:=Lh (Exs.ok_at x.args (Ex.ok_args hok));have hop:=Ex.ok_op hok;have HE:Hd (∀k',k=k'+1->shapedN k x=(shapeB x&&x.args.all (shapedN k'))):=fun k' e=>by subst e;rfl
 have HE0:Hd (k=0->shapedN k x=true):=fun e=>by subst e;rfl
 have hsh:shapeB x=decide (manyN x.op=x.args.length/\0<=x.n/\(x.n=0\/x.op=1)):=rfl;obtain⟨sv,rfl,hs⟩:=hv;obtain⟨a,cap,rfl,hcap,hmx⟩:=hs.slice;have HS:=Lh hs;have hlm:x.args.length<=9223372036854775807:=by unfold maxLen at hmx;omega
 generalize shapeB x=sb at*;generalize x.op=o at*;generalize x.n=n at*;generalize x.args=l at*;obtain⟨hop0,hop1⟩:=hop;clear hs hh hok;by_cases hk0:0<k
 ·obtain⟨k',hk'⟩: ∃k',k=k'+1:=⟨k-1,by omega⟩;have HE2:=Lh (HE.o k' hk');have HI:=Lh (show i=(k':Int)+1 by omega);have hi0:(i==0)=false:=by rw[bq0];omega
  have hi1:1<=i:=by omega
  have hi2:i<=100:=by omega
  clear hi hk';have hW:=(Below.refl w.heap.size w).alloc le0 (.cells #[.int .u8 o,.int .i64 n,.slice a l.length cap] 133);have hbx:=Blk.new w #[.int .u8 o,.int .i64 n,.slice a l.length cap] 133;have hz:w.heap.size<(w.alloc (.cells #[.int .u8 o,.int .i64 n,.slice a l.length cap] 133)).heap.size:=hbx.lt
  cases sb with
  |false=>
   have hc:decide (18<o)=true\/(decide (18<o)=false/\((manyN o !=(l.length:Int))=true\/((manyN o !=(l.length:Int))=false/\(decide (n<0)=true\/(decide (n<0)=false/\(n !=0)=true/\(o !=1)=true))))):=by
    have h':=of_decide_eq_false hsh.symm;simp only[bne_iff_ne,decide_eq_true_eq,bne_eq_false_iff_eq,decide_eq_false_iff_not];omega
   have HE3:Hd (shapedN k x=false):=by show _=_;rw[HE2.o];rfl
   clear hsh HE2 HE HE0;rcases hc with h1|⟨h1,h2|⟨h2,h3|⟨h3,h4,h5⟩⟩⟩
   all_goals
    go_enter func260,ntmps260
    go_upto_region 3 with fail
    generalize World.alloc w _=W at*;refine wp_region_held_drew (S:=(fun w'=>(w'.cell? ⟨w.heap.size,0,none⟩=some (.int .u8 o)/\w'.cell? ⟨w.heap.size,1,none⟩=some (.int .i64 n)/\w'.cell? ⟨w.heap.size,2,none⟩=some (.slice a l.length cap))/\Below w.heap.size w w'/\w.heap.size<w'.heap.size)) (by kernel_rfl) ?_ (fun hHeld=>tk0 ?_)
    ·exact box_drew ⟨⟨hbx.cell 0,hbx.cell 1,hbx.cell 2⟩,hW,hz⟩
    repeat' first
     |refine tkN ?_
     |(refine tkX ?_;try simp only[Act.put,tkA,tkB,tkC,tkD,tkE,tkF])
     |(refine tkt (v:=?_) (by decide+kernel) rfl (by rfl) (fun _ _ _ h=>h) (by assumption) ?_ ?_;rotate_left;(· intro w' hSw;(try dsimp only at hSw);go_simp;(try with_reducible rfl));try simp only[Act.put,tkA,tkB,tkC,tkD,tkE,tkF])
     |refine tkM ?_
     |refine tkZ ?_
     |refine tkB1 ?_
     |refine brN ?_
     |exact brE
     |refine brc rfl (fun K hK=>?_) ?_
     |(replace hK:=hK;go_simp;go_at_call 284;refine(rargs_c o hop0 (by simpa using h1) _).mono ?_;rintro e w9 ⟨rfl,hq9⟩;refine hK.out _ _ ?_ (fun hHeld=>?_);(· refine box_keep ?_ hq9;assumption);clear hK K;try simp only[Act.put,tkA,tkB,tkC,tkD,tkE,tkF])
    go_wp2_with fail
    go_ret;exact⟨ret_bool HE3.o.symm,And.left (And.right (by assumption))⟩
  |true=>
   have h':=of_decide_eq_true hsh.symm;have h1:decide (18<o)=false:=by
    rw[decide_eq_false_iff_not];intro h18;have:=h'.1;unfold manyN at this;rw[if_pos (.inr h18)]at this;omega
   have h2:(manyN o !=(l.length:Int))=false:=by simpa using h'.1
   have h3:decide (n<0)=false:=by simpa using h'.2.1
   have hcase:(n !=0)=false\/((n !=0)=true/\(o !=1)=false):=by
    by_cases h0:n=0
    ·exact .inl (by simpa using h0)
    ·exact .inr ⟨by simpa using h0,by simpa using (by omega:o=1)⟩
   clear hsh h' HE HE0;rcases hcase with h4|⟨h4,h5⟩
   all_goals
    go_enter func260,ntmps260
    go_upto_region 3 with fail
    generalize World.alloc w _=W at*;refine wp_region_held_drew (S:=(fun w'=>(w'.cell? ⟨w.heap.size,0,none⟩=some (.int .u8 o)/\w'.cell? ⟨w.heap.size,1,none⟩=some (.int .i64 n)/\w'.cell? ⟨w.heap.size,2,none⟩=some (.slice a l.length cap))/\Below w.heap.size w w'/\w.heap.size<w'.heap.size)) (by kernel_rfl) ?_ (fun hHeld=>tk0 ?_)
    ·exact box_drew ⟨⟨hbx.cell 0,hbx.cell 1,hbx.cell 2⟩,hW,hz⟩
    repeat' first
     |refine tkN ?_
     |(refine tkX ?_;try simp only[Act.put,tkA,tkB,tkC,tkD,tkE,tkF])
     |(refine tkt (v:=?_) (by decide+kernel) rfl (by rfl) (fun _ _ _ h=>h) (by assumption) ?_ ?_;rotate_left;(· intro w' hSw;(try dsimp only at hSw);go_simp;(try with_reducible rfl));try simp only[Act.put,tkA,tkB,tkC,tkD,tkE,tkF])
     |refine tkM ?_
     |refine tkZ ?_
     |refine tkB1 ?_
     |refine brN ?_
     |exact brE
     |refine brc rfl (fun K hK=>?_) ?_
     |(replace hK:=hK;go_simp;go_at_call 284;refine(rargs_c o hop0 (by simpa using h1) _).mono ?_;rintro e w9 ⟨rfl,hq9⟩;refine hK.out _ _ ?_ (fun hHeld=>?_);(· refine box_keep ?_ hq9;assumption);clear hK K;try simp only[Act.put,tkA,tkB,tkC,tkD,tkE,tkF])
    go_upto_region 5 with fail
    have HH:=Lh hHeld.2;have HC:=Lh hHeld.1.2.2;clear hHeld hq9 hbx hW hz
    go_wp2_with fail
    go_loopw [5] (fun q wr=> ∃j:Nat,q= .int .i64 j/\j<=l.length/\Below w9.heap.size w9 wr/\(l.drop j).all (shapedN k')=l.all (shapedN k')) (fun q _=>l.length-(intOf q).toNat)
    case atStart=>exact⟨0,rfl,ze0,Below.refl _ _,rfl⟩
    case round=>
     obtain⟨j,rfl,hj,hBr0,hr⟩:=hrel;have hBr:=HH.o.1.trans (hBr0.mono (Nat.le_of_lt HH.o.2));have p2:=(hBr0.cell (p:=⟨w.heap.size,2,none⟩) HH.o.2).trans HC.o;by_cases hlt:j<l.length
     ·obtain⟨b,off,cp,sv,e1,hb,c0,c1,c2,hsub⟩:=((HS.o.mono hB).keep hBr).at_ j hlt;simp only[vs0,true_and]at e1;obtain⟨rfl,rfl⟩:=e1;obtain⟨a2,cap2,rfl,_,_⟩:=hsub.slice;rw[List.drop_eq_getElem_cons hlt,List.all_cons]at hr;have hht:=HLT.o _ (List.getElem_mem hlt);have hoky:=HOK.o j hlt;have hk100:k'<=100:=by have:=HI.o;omega
      generalize l[j]=y at*;have HX:Hd (ExAt wr wr.heap.size (.agg #[.int .u8 y.op,.int .i64 y.n,.slice a2 y.args.length cap2]) y):=⟨_,rfl,hsub.mono hBr.size⟩;have HR:=Lh hr;clear hr hsub
      cases hy:shapedN k' y
      all_goals
       have HY:=Lh hy;clear hy
       go_wp2_with (go_at_call 260;refine(IH.o y hht hoky _ _ _ k' _ HX.o (by have:=HI.o;omega) le0 hk100).mono ?_;rintro e w3 ⟨rfl,hb3⟩;rw[HY.o])
      ·go_ret;exact⟨ret_bool (by rw[HE2.o,<-HR.o,HY.o];rfl),hBr.trans (hb3.mono hBr.size)⟩
      ·go_roundw
       case rel=>exact⟨j+1,by go_num,by omega,hBr0.trans (hb3.mono hBr0.size),by rw[<-HR.o,HY.o,Bool.true_and]⟩
       case measure=>simp[intOf];omega
     ·rw[List.drop_of_length_le (by omega)]at hr;have HR:=Lh hr;clear hr;go_wp2;go_ret;exact⟨ret_bool (by rw[HE2.o,<-HR.o];rfl),hBr⟩
 ·have HE2:=Lh (HE0.o (by omega));have hi0:(i==0)=true:=by rw[beq_iff_eq];omega
  clear hi;go_enter func260,ntmps260;go_wp2;go_ret;exact⟨ret_bool (by rw[HE2.o]),br0.alloc le0 _⟩
theorem rshaped_all (h:Nat):RShapedC h:=by
 induction h using Nat.strongRecOn with
 |ind h ih=>exact rshaped_step h (fun x hx hok v B w k i hv hi hB hk=>ih x.ht hx x v B w k i le0 hok hv hi hB hk)
theorem rMay_c (x:Ex) (hok:x.ok) (v:Value) (B:Nat) (w:World) (hv:ExAt w B v x) (hB:B<=w.heap.size):
  CB prog 227 #[v] w (.bool x.mayT):=by
 have hm:=mayB_shaped 16 x;have HE:Hd (x.mayT=(decide (deepN 16 x<=16)&&shapedN 17 x)):=hm;obtain⟨sv,rfl,hs⟩:=hv;obtain⟨a,cap,rfl,hcap,hmx⟩:=hs.slice;have HV:Hd (ExAt w B _ x):=⟨_,rfl,hs⟩;clear hs hm;have hW:=(Below.refl w.heap.size w).alloc le0 (.cells #[.int .u8 x.op,.int .i64 x.n,.slice a x.args.length cap] 133);have hbx:=Blk.new w #[.int .u8 x.op,.int .i64 x.n,.slice a x.args.length cap] 133;have hz:w.heap.size<(w.alloc (.cells #[.int .u8 x.op,.int .i64 x.n,.slice a x.args.length cap] 133)).heap.size:=hbx.lt;obtain⟨d,hd⟩: ∃d,deepN 16 x=d:=⟨_,rfl⟩;rw[hd]at HE;have HD:=Lh hd;clear hd;by_cases h16:d<=16
 all_goals
  go_enter func227,ntmps227
  go_upto_region 1 with fail
  generalize World.alloc w _=W at*;obtain⟨p0,p1,p2⟩:=hbx.q3;have HVW:=Lh (HV.o.keep (hW.mono hB))
  go_wp2_with (first
   |(go_at_call 259;refine(rDeep_c x _ B _ HVW.o (by have:=hW.size;omega)).mono ?_;rw[HD.o];rintro e w3 ⟨rfl,hb3⟩;have hbx3:=hbx.below hb3 hz;obtain⟨q0,q1,q2⟩:=hbx3.q3;have hW3:=hW.trans (hb3.mono hW.size))
   |(go_at_call 260;refine(rshaped_all x.ht x _ B _ 17 _ le0 hok (HV.o.keep (hW3.mono hB)) rfl (by have:=hW3.size;omega) (by omega)).mono ?_;rintro e w4 ⟨rfl,hb4⟩))
  go_ret
 ·exact⟨ret_bool (by rw[HE.o,dt0 h16,Bool.true_and]),hW3.trans (hb4.mono hW3.size)⟩
 ·exact⟨ret_bool (by rw[HE.o,df0 h16,Bool.false_and]),hW3⟩
