/- Parts. -/
import Derived.Test.YtgbfdcmkbblodaaGreatDoorVW13
import Derived.Test.YtgbfdcmkbblodaaGreatDoorVY6c
import Derived.Test.YtgbfdcmkbblodaaGreatDoorVW10a
namespace Go.Proofs.YtgbfdcmkbblodaaGreatDoor
open Go.RowKit
set_option linter.unusedVariables false
set_option linter.unusedSimpArgs false
set_option maxRecDepth 100000
set_option maxHeartbeats 16000000
open Tryz
theorem rof_all (h:Nat):ROfC h:=by
 induction h using Nat.strongRecOn with
 |ind h ih=>exact rof_step h (fun x hx v B w k hok hm hv hB=>ih x.ht hx x v B w k le0 hok hm hv hB)
theorem rOf_c (x:Ex) (hok:x.ok) (acc:Bool) (v:Value) (B:Nat) (w:World) (hv:ExAt w B v x) (hB:B<=w.heap.size):
  CB prog 201 #[v,.bool acc] w (.tuple #[.int .u8 (x.typ acc).1,.int .i64 (x.typ acc).2]):=by
 have HE:Hd (x.typ acc=if x.mayT=true then(if acc=false/\x.accB=true then(0,90)else if x.ty=0 then(0,91)else(x.ty,0))else(0,2)):=rfl;have HV:=Lh hv;obtain⟨sv,rfl,hs⟩:=hv;obtain⟨a,cap,rfl,hcap,hmx⟩:=hs.slice;have hW:=(Below.refl w.heap.size w).alloc le0 (.cells #[.int .u8 x.op,.int .i64 x.n,.slice a x.args.length cap] 133);have hbx:=Blk.new w #[.int .u8 x.op,.int .i64 x.n,.slice a x.args.length cap] 133;generalize hgo:x.op=o at*;generalize hgn:x.n=n at*;generalize hgl:x.args.length=ll at*;clear hs hgo hgn hgl hcap hmx;generalize x.typ acc=p at*;have hz:=hbx.lt
 cases hm:x.mayT
 ·have HM:=Lh hm;have HE2:Hd (p=(0,2)):=by show _=_;rw[HE.o,hm];rfl
  clear hm HE;go_enter func201,ntmps201
  go_upto_region 1 with fail
  generalize World.alloc w _=W at*;obtain⟨c0,c1,c2⟩:=hbx.q3
  go_wp2_with (go_at_call 227;refine(rMay_c x hok _ B _ (HV.o.keep (hW.mono hB)) (le1 hB hW.size)).mono ?_;rw[HM.o];rintro e w1 ⟨rfl,hb1⟩)
  go_ret2;refine⟨?_,hW.trans (hb1.mono hW.size)⟩;rw[HE2.o];rfl
 ·have HM:=Lh hm;have hE1:=HE.o;rw[hm,if_pos rfl]at hE1;clear HE;have hac:(acc=false/\x.accB=true)\/(acc=true\/x.accB=false):=by cases acc<;>cases x.accB<;>simp
  rcases hac with ⟨rfl,hac⟩|hac
  ·have HA:=Lh hac;have HE2:Hd (p=(0,90)):=by show _=_;rw[hE1,if_pos ⟨rfl,hac⟩]
   clear hm hE1 hac;go_enter func201,ntmps201
   go_upto_region 1 with fail
   generalize World.alloc w _=W at*;obtain⟨c0,c1,c2⟩:=hbx.q3
   go_wp2_with fail
   refine(rMay_c x hok _ B _ (HV.o.keep (hW.mono hB)) (le1 hB hW.size)).mono ?_;rw[HM.o];rintro e w1 ⟨rfl,hb1⟩;have hbx1:=hbx.below hb1 hz;have hW1:=hW.trans (hb1.mono hW.size);obtain⟨d0,d1,d2⟩:=hbx1.q3;clear c0 c1 c2
   go_wp2_with (go_at_call 228;refine(racc_all x.ht x _ B _ le0 (HV.o.keep (hW1.mono hB)) (le1 hB hW1.size)).mono ?_;rw[HA.o];rintro e w2 ⟨rfl,hb2⟩)
   go_ret2;refine⟨?_,hW1.trans (hb2.mono hW1.size)⟩;rw[HE2.o];rfl
  ·have hE2:=hE1;rw[if_neg (by rintro ⟨rfl,h⟩;rcases hac with h'|h'<;>simp_all)]at hE2;obtain⟨ty,hty⟩: ∃t,x.ty=t:=⟨_,rfl⟩;rw[hty]at hE2;have HTY:=Lh hty;have hmay:Hd (mayB 16 x=true):=hm;clear hm hE1 hty;have hcase:(acc=true)\/(acc=false/\x.accB=false):=by cases acc<;>simp_all
   clear hac
   cases ht0:(ty==0)
   all_goals
    rcases hcase with rfl|⟨rfl,hac⟩
    all_goals
     have HE3:=Lh hE2
     try have HA:=Lh hac
     try clear hac
     clear hE2;go_enter func201,ntmps201
     go_upto_region 1 with fail
     generalize World.alloc w _=W at*;obtain⟨c0,c1,c2⟩:=hbx.q3
     go_wp2_with fail
     refine(rMay_c x hok _ B _ (HV.o.keep (hW.mono hB)) (le1 hB hW.size)).mono ?_;rw[HM.o];rintro e w1 ⟨rfl,hb1⟩;have hbx1:=hbx.below hb1 hz;have hW1:=hW.trans (hb1.mono hW.size);have hz1:=hbx1.lt;obtain⟨d0,d1,d2⟩:=hbx1.q3;clear c0 c1 c2
   ·go_wp2_with (go_at_call 229;refine(rof_all x.ht x _ B _ 16 le0 hok hmay.o (HV.o.keep (hW1.mono hB)) (le1 hB hW1.size)).mono ?_;rw[HTY.o];rintro e w2 ⟨rfl,hb2⟩)
    go_ret2;refine⟨?_,hW1.trans (hb2.mono hW1.size)⟩;rw[HE3.o,if_neg (by simpa using ht0)];rfl
   ·go_wp2_with fail
    refine(racc_all x.ht x _ B _ le0 (HV.o.keep (hW1.mono hB)) (le1 hB hW1.size)).mono ?_;rw[HA.o];rintro e w2 ⟨rfl,hb2⟩;have hbx2:=hbx1.below hb2 hz1;have hW2:=hW1.trans (hb2.mono hW1.size);obtain⟨f0,f1,f2⟩:=hbx2.q3;clear d0 d1 d2
    go_wp2_with (go_at_call 229;refine(rof_all x.ht x _ B _ 16 le0 hok hmay.o (HV.o.keep (hW2.mono hB)) (le1 hB hW2.size)).mono ?_;rw[HTY.o];rintro e w3 ⟨rfl,hb3⟩)
    go_ret2;refine⟨?_,hW2.trans (hb3.mono hW2.size)⟩;rw[HE3.o,if_neg (by simpa using ht0)];rfl
   ·go_wp2_with (go_at_call 229;refine(rof_all x.ht x _ B _ 16 le0 hok hmay.o (HV.o.keep (hW1.mono hB)) (le1 hB hW1.size)).mono ?_;rw[HTY.o];rintro e w2 ⟨rfl,hb2⟩)
    go_ret2;refine⟨?_,hW1.trans (hb2.mono hW1.size)⟩;rw[HE3.o,if_pos (by simpa using ht0)];rfl
   ·go_wp2_with fail
    refine(racc_all x.ht x _ B _ le0 (HV.o.keep (hW1.mono hB)) (le1 hB hW1.size)).mono ?_;rw[HA.o];rintro e w2 ⟨rfl,hb2⟩;have hbx2:=hbx1.below hb2 hz1;have hW2:=hW1.trans (hb2.mono hW1.size);obtain⟨f0,f1,f2⟩:=hbx2.q3;clear d0 d1 d2
    go_wp2_with (go_at_call 229;refine(rof_all x.ht x _ B _ 16 le0 hok hmay.o (HV.o.keep (hW2.mono hB)) (le1 hB hW2.size)).mono ?_;rw[HTY.o];rintro e w3 ⟨rfl,hb3⟩)
    go_ret2;refine⟨?_,hW2.trans (hb3.mono hW2.size)⟩;rw[HE3.o,if_pos (by simpa using ht0)];rfl
mutual
def Ex.tot:Ex->Nat
 | .mk _ _ l=>Exs.tot l+1
def Exs.tot:List Ex->Nat
 | []=>0
 |x::l=>x.tot+Exs.tot l
end
theorem Ex.tot_eq (x:Ex):x.tot=Exs.tot x.args+1:=by obtain⟨o,n,l⟩:=x;rfl
mutual
theorem Ex.count_tot: ∀(x:Ex) (left:Nat),x.count left=left-x.tot
 | .mk o n l,left=>by
  simp only[Ex.count,Ex.tot]
  by_cases h:0<left
  ·rw[if_pos h,Exs.count_tot l (left-1)];omega
  ·rw[if_neg h];omega
theorem Exs.count_tot: ∀(l:List Ex) (left:Nat),Exs.count l left=left-Exs.tot l
 | [],left=>by simp[Exs.count,Exs.tot]
 |x::l,left=>by simp only[Exs.count,Exs.tot];rw[Ex.count_tot x left,Exs.count_tot l _];omega
end
def partsSum:List Nd->Nat
 | []=>0
 |d::l=>min d.x.tot 1001+partsSum l
def totSum:List Nd->Nat
 | []=>0
 |d::l=>d.x.tot+totSum l
theorem countGo_tot: ∀(l:List Nd) (left:Nat),countGo l left=left-totSum l
 | [],left=>by simp[countGo,totSum]
 |d::l,left=>by simp only[countGo,totSum];rw[Ex.count_tot,countGo_tot l _];omega
theorem partsSum_tot: ∀l:List Nd,(1000<partsSum l↔1000<totSum l)/\(partsSum l<=1000->partsSum l=totSum l)
 | []=>by simp[partsSum,totSum]
 |d::l=>by
  have ih:=partsSum_tot l
  simp only[partsSum,totSum]
  omega
theorem parts_iff (j:Jb):1000<j.parts↔1000<partsSum j.nodes:=by
 unfold Jb.parts;rw[countGo_tot,(partsSum_tot j.nodes).1];omega
theorem partsSum_take (l:List Nd) (k:Nat) (hk:k<l.length):partsSum (l.take (k+1))=partsSum (l.take k)+min (l[k]'hk).x.tot 1001:=by
 have e: ∀a b:List Nd,partsSum (a++b)=partsSum a+partsSum b:=by
  intro a b
  induction a with
  |nil=>simp[partsSum]
  |cons d a ih=>simp only[List.cons_append,partsSum,ih];omega
 rw[List.take_succ_eq_append_getElem hk,e];simp[partsSum]
theorem partsSum_le: ∀l:List Nd,partsSum l<=1001*l.length
 | []=>by simp[partsSum]
 |d::l=>by have:=partsSum_le l;simp only[partsSum,List.length_cons];omega
def PartsC (h:Nat):Prop:= ∀(x:Ex) (v:Value) (B:Nat) (w:World) (most:Nat),x.ht<=h->ExAt w B v x->B<=w.heap.size->1<=most->most<=2000->
 CB prog 139 #[v,.int .i64 (most:Int)] w (.int .i64 ((min x.tot most:Nat):Int))
theorem parts_step (h:Nat) (IH:Hd (∀x:Ex,x.ht<h-> ∀(v:Value) (B:Nat) (w:World) (most:Nat),ExAt w B v x->B<=w.heap.size->1<=most->most<=2000->
   CB prog 139 #[v,.int .i64 (most:Int)] w (.int .i64 ((min x.tot most:Nat):Int)))):PartsC h:=by
 intro x v B w most hh hv hB hm1 hm2;have HLT:Hd (∀a∈x.args,a.ht<h):=fun a ha=>by have:=Ex.ht_args x a ha;omega
 have HE:=Lh (Ex.tot_eq x);obtain⟨sv,rfl,hs⟩:=hv;obtain⟨a,cap,rfl,hcap,hmx⟩:=hs.slice;have HS:=Lh hs;have hlm:x.args.length<=9223372036854775807:=by unfold maxLen at hmx;omega
 generalize x.tot=T at*;generalize x.op=o at*;generalize x.n=n at*;generalize x.args=l at*;clear hs hh;have hN0:=Blk.new w #[.int .u8 o,.int .i64 n,.slice a l.length cap] 133;have hW:=(Below.refl w.heap.size w).alloc le0 (.cells #[.int .u8 o,.int .i64 n,.slice a l.length cap] 133);go_enter func139,ntmps139
 go_wp2_with fail
 generalize World.alloc w _=W at*
 go_loopw [5,6] (fun s q wr=> ∃j m:Nat,q= .int .i64 (j:Int)/\s= .int .i64 (m:Int)/\j<=l.length/\1<=m/\m<=most/\Below w.heap.size w wr/\Blk wr w.heap.size 133 #[.int .u8 o,.int .i64 n,.slice a l.length cap]/\min (m+Exs.tot (l.drop j)) most=min T most) (fun _ q _=>l.length-(intOf q).toNat)
 case atStart=>exact⟨0,1,rfl,rfl,ze0,le0,hm1,hW,hN0,by rw[HE.o,List.drop_zero];omega⟩
 case round=>
  obtain⟨j,m,rfl,rfl,hj,h1m,hmm,hBr,hN,hr⟩:=hrel;have c2:=hN.cell 2;by_cases hlt:j<l.length
  ·have hd1:decide ((j:Int)<(l.length:Int))=true:=dt0 (by omega);by_cases hlm2:m<most
   ·have hd2:decide ((m:Int)<(most:Int))=true:=dt0 (by omega);obtain⟨b,off,cp,sv,e1,hb,c0,c1,c3,hsub⟩:=((HS.o.mono hB).keep hBr).at_ j hlt;simp only[vs0,true_and]at e1;obtain⟨rfl,rfl⟩:=e1;obtain⟨a2,cap2,rfl,_,_⟩:=hsub.slice;rw[List.drop_eq_getElem_cons hlt]at hr;simp only[Exs.tot]at hr;have hht:=HLT.o _ (List.getElem_mem hlt);have HX:Hd (ExAt wr w.heap.size (.agg #[.int .u8 (l[j]'hlt).op,.int .i64 (l[j]'hlt).n,.slice a2 (l[j]'hlt).args.length cap2]) (l[j]'hlt)):=⟨_,rfl,hsub⟩;generalize l[j]=y at*;have HR:=Lh hr;have hms:((most-m:Nat):Int)=(most:Int) -(m:Int):=by omega
    have HC:=Lh (IH.o y hht _ w.heap.size wr (most-m) HX.o hBr.size (by omega) (by omega));rw[hms]at HC;rename_i hx1 hx2;clear hr hx1 hx2 hsub hms
    go_wp2_with (go_at_call 139;refine HC.o.mono ?_;rintro e w3 ⟨rfl,hb3⟩)
    go_roundw
    case rel=>
     refine⟨j+1,m+min y.tot (most-m),by go_num,by go_num,by omega,by omega,by omega,hBr.trans (hb3.mono hBr.size),hN.below hb3 hN.lt,?_⟩;rw[<-HR.o];omega
    case measure=>simp[intOf];omega
   ·have hd2:decide ((m:Int)<(most:Int))=false:=df0 (by omega)
    go_wp2_with fail
    go_ret;exact⟨ret_int (by omega),hBr⟩
  ·have hd1:decide ((j:Int)<(l.length:Int))=false:=df0 (by omega);rw[List.drop_of_length_le (by omega)]at hr;simp only[Exs.tot,Nat.add_zero]at hr
   go_wp2_with fail
   go_ret;exact⟨ret_int (by omega),hBr⟩
theorem parts_all (h:Nat):PartsC h:=by
 induction h using Nat.strongRecOn with
 |ind h ih=>exact parts_step h (fun x hx v B w most hv hB h1 h2=>ih x.ht hx x v B w most le0 hv hB h1 h2)
theorem rParts_c (x:Ex) (v:Value) (B:Nat) (w:World) (hv:ExAt w B v x) (hB:B<=w.heap.size):
  CB prog 139 #[v,.int .i64 1001] w (.int .i64 ((min x.tot 1001:Nat):Int)):=
 parts_all x.ht x v B w 1001 le0 hv hB (by omega) (by omega)
theorem rtyped_c (x:Ex) (hok:x.ok) (acc:Bool) (ty:Int) (v:Value) (B:Nat) (w:World) (hv:ExAt w B v x) (hB:B<=w.heap.size):
  CB prog 174 #[v,.bool acc,.int .u8 ty] w (.bool (x.isB acc ty)):=by
 have HV:=Lh hv;have HI:Hd (x.isB acc ty=decide ((x.typ acc).2=0/\(x.typ acc).1=ty)):=rfl;obtain⟨sv,rfl,hs⟩:=hv;obtain⟨a,cap,rfl,_,_⟩:=hs.slice;have HC:Hd (∀W,Below w.heap.size w W->CB prog 201 #[.agg #[.int .u8 x.op,.int .i64 x.n,.slice a x.args.length cap],.bool acc] W (.tuple #[.int .u8 (x.typ acc).1,.int .i64 (x.typ acc).2])):=fun W h=>rOf_c x hok acc _ B W (HV.o.keep (h.mono hB)) (le1 hB h.size);generalize x.op=o at*;generalize x.n=n at*;generalize x.args.length=ll at*;generalize x.isB acc ty=r at*;generalize x.typ acc=p at*;obtain⟨p1,p2⟩:=p;dsimp only at HI HC;clear hs HV;have hW:=(Below.refl w.heap.size w).alloc le0 (.cells #[.int .u8 o,.int .i64 n,.slice a ll cap] 133);by_cases h2:p2=0
 ·have hb2:(p2==0)=true:=by simpa using h2
  have HR:Hd (r=(p1==ty)):=by
   show _=_;rw[HI.o];simp[h2];rfl
  clear HI h2;go_enter func174,ntmps174
  go_wp2_with (go_at_call 201;refine(HC.o _ hW).mono ?_;rintro e w1 ⟨rfl,hb1⟩)
  go_ret;exact⟨ret_bool HR.o.symm,hW.trans (hb1.mono hW.size)⟩
 ·have hb2:(p2==0)=false:=by simpa using h2
  have HR:Hd (r=false):=by
   show _=_;rw[HI.o];simp[h2]
  clear HI h2;go_enter func174,ntmps174
  go_wp2_with (go_at_call 201;refine(HC.o _ hW).mono ?_;rintro e w1 ⟨rfl,hb1⟩)
  go_ret;exact⟨ret_bool HR.o.symm,hW.trans (hb1.mono hW.size)⟩
def kindOk (kd:Int) (len:Nat) (none:Bool) (is:Bool->Int->Bool) (n:Int):Bool:=
 if kd=1 then decide (len=0)&&(none&&decide (n=0))
 else if kd=2\/kd=4\/kd=5 then decide (len=1)&&(is false 1&&decide (n=0))
 else if kd=3 then decide (len=1)&&(is false 2&&decide (n=0))
 else if kd=6 then decide (len=1)&&(is true 1&&decide (n=0))
 else if kd=7 then decide (len=1)&&(none&&(decide (1<=n)&&decide (n<=16)))
 else if kd=8 then(decide (len=2)||decide (len=3))&&(none&&decide (n=0))
 else if kd=9 then decide (len=1)&&(none&&decide (n=0))
 else false
theorem nodeB_ref (d:Nd) (at_:Int):nodeB d at_=(nameB d.uid&&(!d.ins.any (outB at_)&&(!twiceB (fun x y=>x==y) d.ins&&kindOk d.kind d.ins.length (d.x.sameB (.mk 0 0 [])) d.x.isB d.n))):=by
 obtain⟨u,k,ins,x,n⟩:=d;unfold nodeB kindOk;dsimp only;generalize nameB u=b1;generalize ins.any (outB at_)=b2;generalize twiceB (fun x y=>x==y) ins=b3;generalize x.sameB (.mk 0 0 [])=b4;generalize ins.length=len
 cases b1
 ·simp
 have hk:k<1\/k=1\/k=2\/k=3\/k=4\/k=5\/k=6\/k=7\/k=8\/k=9\/9<k:=by omega
 rcases hk with h|rfl|rfl|rfl|rfl|rfl|rfl|rfl|rfl|rfl|h
 ·rw[dt0 h,if_neg (by omega),if_neg (by omega),if_neg (by omega),if_neg (by omega),if_neg (by omega),if_neg (by omega),if_neg (by omega)];simp
 all_goals try
  cases b2<;>cases b3<;>simp[rLeast,rMost,rTy,rN,rM,rAcc]
  all_goals
   rw[Bool.eq_iff_iff];simp only[Bool.and_eq_true,Bool.or_eq_true,decide_eq_true_eq,Bool.not_eq_true',decide_eq_false_iff_not];constructor
   ·intro h
    simp_all
    try omega
   ·intro h
    simp_all
    try omega
 ·rw[dt0 h,if_neg (by omega),if_neg (by omega),if_neg (by omega),if_neg (by omega),if_neg (by omega),if_neg (by omega),if_neg (by omega)];simp
theorem twiceGo_snoc {α:Type} (p:α->α->Bool) (x:α): ∀(l s:List α),twiceGo p s (l++ [x])=(twiceGo p s l||(s++l).any (p x))
 | [],s=>by simp[twiceGo]
 |y::l,s=>by
  simp only[List.cons_append,twiceGo]
  rw[twiceGo_snoc p x l (s++ [y]),Bool.or_assoc,List.append_assoc,List.singleton_append]
theorem twiceB_snoc {α:Type} (p:α->α->Bool) (l:List α) (x:α):twiceB p (l++ [x])=(twiceB p l||l.any (p x)):=by
 unfold twiceB;rw[twiceGo_snoc,List.nil_append]
theorem twiceGo_pre {α:Type} (p:α->α->Bool): ∀(l s r:List α),twiceGo p s l=true->twiceGo p s (l++r)=true
 |y::l,s,r,h=>by
  simp only[List.cons_append,twiceGo,Bool.or_eq_true]at h⊢
  exact h.imp id (twiceGo_pre p l _ r)
theorem twiceB_pre {α:Type} (p:α->α->Bool) (l:List α) (k:Nat) (h:twiceB p (l.take k)=true):twiceB p l=true:=by
 have:=twiceGo_pre p (l.take k) [] (l.drop k) h;rw[List.take_append_drop]at this;exact this
theorem rmay_c (d:Nd) (hok:d.ok) (hus:d.uid.size<=1000000) (at_:Int) (v:Value) (B:Nat) (w:World) (hv:NdAt w B v d) (hB:B<=w.heap.size):
  CB prog 140 #[v,.int .i64 at_] w (.bool (nodeB d at_)):=by
 have HNB:=Lh (nodeB_ref d at_);obtain⟨iv,sv,rfl,⟨hin,hs⟩,hu⟩:=hv;obtain⟨_,ai,capi,rfl,_,hcm,_⟩:=id hin;obtain⟨a2,cap2,rfl,_,_⟩:=hs.slice;have HI:=Lh hin;have HX:Hd (ExAt w B (.agg #[.int .u8 d.x.op,.int .i64 d.x.n,.slice a2 d.x.args.length cap2]) d.x):=⟨_,rfl,hs⟩;have HSM:Hd (∀W,Below w.heap.size w W->CB prog 96 #[.agg #[.int .u8 d.x.op,.int .i64 d.x.n,.slice a2 d.x.args.length cap2],.agg #[.int .u8 0,.int .i64 0,.slice none 0 0]] W (.bool (d.x.sameB (.mk 0 0 [])))):=
  fun W h=>rSame_c d.x (.mk 0 0 []) _ _ B W (HX.o.keep (h.mono hB)) ⟨_,rfl,.nil none 0 ze0⟩ (le1 hB h.size)
 have HTY:Hd (∀W acc ty,Below w.heap.size w W->CB prog 174 #[.agg #[.int .u8 d.x.op,.int .i64 d.x.n,.slice a2 d.x.args.length cap2],.bool acc,.int .u8 ty] W (.bool (d.x.isB acc ty))):=
  fun W acc ty h=>rtyped_c d.x hok.2.2.2.1 acc ty _ B W (HX.o.keep (h.mono hB)) (le1 hB h.size)
 have hlm:d.ins.length<=9223372036854775807:=by unfold maxLen at hcm;omega
 have hkr:0<=d.kind/\d.kind<=255:=⟨hok.1,hok.2.1⟩;have HIR:=Lh hok.2.2.1;clear hok hs hin hcm;rename_i hx1;clear hx1;generalize nodeB d at_=res at*;generalize d.x.sameB (.mk 0 0 [])=nn at*;generalize d.x.isB=is at*;generalize d.x.op=xo at*;generalize d.x.n=xn at*;generalize d.x.args.length=xl at*;generalize d.uid=u at*;generalize d.kind=kd at*;generalize d.n=n at*;generalize d.ins=l at*;clear HX;have hN0:=Blk.new w #[.string u,.int .u8 kd,.slice ai l.length capi,.int .u8 xo,.int .i64 xn,.slice a2 xl cap2,.int .i64 n] 135;have hW:=(Below.refl w.heap.size w).alloc le0 (.cells #[.string u,.int .u8 kd,.slice ai l.length capi,.int .u8 xo,.int .i64 xn,.slice a2 xl cap2,.int .i64 n] 135)
 cases hn:nameB u
 ·have HR:Hd (res=false):=by show _=_;rw[HNB.o,hn];rfl
  have HN:=Lh hn;clear hn HNB;go_enter func140,ntmps140
  go_upto_region 1 with fail
  generalize World.alloc w _=W at*;have c0:=hN0.cell 0
  go_wp2_with (go_at_call 173;refine(rName_c u _ hus).mono ?_;rintro e w1 ⟨rfl,hb1⟩;rw[HN.o])
  go_ret;exact⟨ret_bool HR.o.symm,hW.trans (hb1.mono hW.size)⟩
 ·have HNB2:Hd (res=(!l.any (outB at_)&&(!twiceB (fun x y=>x==y) l&&kindOk kd l.length nn is n))):=by show _=_;rw[HNB.o,hn];rfl
  have HN:=Lh hn;clear hn HNB;go_enter func140,ntmps140
  go_upto_region 1 with fail
  generalize World.alloc w _=W at*;have c0:=hN0.cell 0;have c2:=hN0.cell 2
  go_wp2_with (go_at_call 173;refine(rName_c u _ hus).mono ?_;rintro e w1 ⟨rfl,hb1⟩;rw[HN.o])
  have hN1:=hN0.below hb1 hN0.lt;have hB1:=hW.trans (hb1.mono hW.size);clear c0 c2 hb1 hN0 hW
  go_loopw [5] (fun q wr=> ∃i:Nat,q= .int .i64 (i:Int)/\i<=l.length/\Below w.heap.size w wr/\Blk wr w.heap.size 135 #[.string u,.int .u8 kd,.slice ai l.length capi,.int .u8 xo,.int .i64 xn,.slice a2 xl cap2,.int .i64 n]/\(l.take i).any (outB at_)=false/\twiceB (fun x y=>x==y) (l.take i)=false) (fun q _=>l.length-(intOf q).toNat)
  case atStart=>exact⟨0,rfl,ze0,hB1,hN1,rfl,rfl⟩
  case round=>
   obtain⟨i,rfl,hi,hBr,hN,ho,ht⟩:=hrel;have c2:=hN.cell 2;clear hN1 hB1;by_cases hlt:i<l.length
   ·have hd1:decide ((i:Int)<(l.length:Int))=true:=dt0 (by omega);obtain⟨b,off,cp,e1,hb,g1,p0⟩:=((HI.o.mono hB).below hBr).int i hlt;simp only[vs0,true_and]at e1;obtain⟨rfl,rfl⟩:=e1;have HOT:Hd (outB at_ l[i]=true->res=false):=fun h=>by
     have:l.any (outB at_)=true:=List.any_eq_true.2 ⟨_,List.getElem_mem hlt,h⟩;rw[HNB2.o,this];rfl
    have HON:Hd (outB at_ l[i]=false->(l.take (i+1)).any (outB at_)=false):=fun h=>by
     rw[List.take_succ_eq_append_getElem hlt,List.any_append,ho];simp[h]
    have HTN:Hd (twiceB (fun x y=>x==y) (l.take (i+1))=(l.take i).any (fun y=>l[i]==y)):=by
     show _=_;rw[List.take_succ_eq_append_getElem hlt,twiceB_snoc,ht,Bool.false_or]
    have HTR:Hd (twiceB (fun x y=>x==y) (l.take (i+1))=true->res=false):=fun h=>by
     rw[HNB2.o,twiceB_pre _ _ _ h]
     cases l.any (outB at_)<;>rfl
    have hzr:=HIR.o _ (List.getElem_mem hlt);have HZI:Hd (∀k (hk:k<l.length),l[k]? =some (l[k]'hk)):=fun k hk=>List.getElem?_eq_getElem hk;obtain⟨z,hzz⟩: ∃z,l[i]=z:=⟨_,rfl⟩;have HZZ:=Lh hzz;rw[hzz]at HOT HON HTN hzr p0;clear hzz ho ht;have HO:Hd (outB at_ z=(decide (z<0)||decide (at_<=z))):=rfl;by_cases h0:z<0
    ·have h0d:decide (z<0)=true:=dt0 h0;have HR:=Lh (HOT.o (by rw[HO.o,h0d];rfl))
     go_wp2_with fail
     go_ret;exact⟨ret_bool HR.o.symm,hBr⟩
    ·have h0d:decide (z<0)=false:=df0 h0;by_cases ha:at_<=z
     ·have had:decide (at_<=z)=true:=dt0 ha;have had2:decide (z<at_)=false:=df0 (by omega);have HR:=Lh (HOT.o (by rw[HO.o,had];simp))
      go_wp2_with fail
      go_ret;exact⟨ret_bool HR.o.symm,hBr⟩
     ·have had:decide (at_<=z)=false:=df0 ha;have had2:decide (z<at_)=true:=dt0 (by omega);have HON2:=Lh (HON.o (by rw[HO.o,h0d,had];rfl))
      go_wp2_with fail
      go_loopw [6] (fun q wx=> ∃j m:Nat,q= .int .i64 (j:Int)/\j<=i/\wx=wr.drewN m/\(l.take j).any (fun y=>z==y)=false) (fun q _=>i-(intOf q).toNat)
      case atStart=>exact⟨0,0,rfl,ze0,rfl,rfl⟩
      case round=>
       obtain⟨j,m,rfl,hj,rfl,hje⟩:=hrel;by_cases hji:j<i
       ·have hjd:decide ((j:Int)<(i:Int))=true:=dt0 (by omega);have hjl:j<l.length:=by omega
        obtain⟨b',off',cp',e1,hb',g1',p0'⟩:=((HI.o.mono hB).below hBr).int j hjl;simp only[vs0,true_and,Option.some.injEq,Addr.mk.injEq,and_true]at e1;obtain⟨⟨rfl,rfl⟩,rfl⟩:=e1;have HJT:Hd (l.take (j+1)=l.take j++ [l[j]]):=List.take_succ_eq_append_getElem hjl;have HJI:Hd (z=l[j]->(l.take i).any (fun y=>z==y)=true):=fun h=>by
         refine List.any_eq_true.2 ⟨l[j],?_,by simp[h]⟩;exact List.mem_take_iff_getElem.2 ⟨j,by omega,rfl⟩
        obtain⟨y,hyy⟩: ∃y,l[j]=y:=⟨_,rfl⟩;rw[hyy]at HJT HJI p0';clear hyy;by_cases hzy:z=y
        ·have hb2:(z==y)=true:=by simpa using hzy
         have HR:=Lh (HTR.o (by rw[HTN.o,HJI.o hzy]));clear hzy
         go_wp2_with fail
         go_quiet (fail)
         go_wp2_with fail
         go_ret;exact⟨ret_bool HR.o.symm,below_drewN (below_drewN hBr _) _⟩
        ·have hb2:(z==y)=false:=by simpa using hzy
         clear hzy
         go_wp2_with fail
         go_quiet (fail)
         go_wp2_with fail
         go_roundw
         case rel=>exact⟨j+1,m+nq,by go_num,by omega,rfl,by rw[HJT.o,List.any_append,hje];simp[hb2]⟩
         case measure=>simp[intOf];omega
       ·have hjd:decide ((j:Int)<(i:Int))=false:=df0 (by omega);obtain rfl:j=i:=by omega
        go_wp2_with fail
        go_roundw
        case rel=>exact⟨j+1,by go_num,by omega,below_drewN hBr _,hN,HON2.o,by rw[HTN.o];exact hje⟩
        case measure=>simp[intOf];omega
   ·have hd1:decide ((i:Int)<(l.length:Int))=false:=df0 (by omega);obtain rfl:i=l.length:=by omega
    rw[List.take_length]at ho ht;have HR:Hd (res=kindOk kd l.length nn is n):=by show _=_;rw[HNB2.o,ho,ht];rfl
    clear HNB2 ho ht HIR;have c1:=hN.cell 1;have c3:=hN.cell 3;have c4:=hN.cell 4;have c5:=hN.cell 5;have c6:=hN.cell 6;generalize hll:l.length=ln at*;clear hll
    go_upto_region 14 with (go_at_call 96;refine(HSM.o _ hBr).mono ?_;rintro e w3 ⟨rfl,hb3⟩)
    have hB3:=hBr.trans (hb3.mono hBr.size);have hN3:=hN.below hb3 hN.lt;clear c1 c2 c3 c4 c5 c6 hBr hN hb3;have c1:=hN3.cell 1;have c2:=hN3.cell 2;have c3:=hN3.cell 3;have c4:=hN3.cell 4;have c5:=hN3.cell 5;have c6:=hN3.cell 6;have hk:kd=1\/kd=2\/kd=3\/kd=4\/kd=5\/kd=6\/kd=7\/kd=8\/kd=9\/(kd≠1/\kd≠2/\kd≠3/\kd≠4/\kd≠5/\kd≠6/\kd≠7/\kd≠8/\kd≠9):=by omega
    rcases hk with rfl|rfl|rfl|rfl|rfl|rfl|rfl|rfl|rfl|⟨k1,k2,k3,k4,k5,k6,k7,k8,k9⟩
    ·skip
     by_cases h2:ln=0
     ·subst h2
      cases nn
      ·go_wp2_with fail
       go_ret;exact⟨ret_bool (by rw[HR.o];simp[kindOk];try rfl),hB3⟩
      ·go_wp2_with fail
       go_ret;exact⟨ret_bool (by rw[HR.o];simp[kindOk];try rfl),hB3⟩
     ·have q1:((ln:Int)==0)=false:=by rw[bq0];omega
      go_wp2_with fail
      go_ret;exact⟨ret_bool (by rw[HR.o];simp[kindOk,h2]),hB3⟩
    ·skip
     by_cases h2:ln=1
     ·subst h2
      cases hi2:is false 1
      ·have HI2:=Lh hi2;clear hi2
       go_wp2_with (go_at_call 174;refine(HTY.o _ false 1 hB3).mono ?_;rintro e w5 ⟨rfl,hb5⟩;rw[HI2.o];have d6:=(hN3.below hb5 hN3.lt).cell 6)
       go_ret;exact⟨ret_bool (by rw[HR.o];simp[kindOk,HI2.o];try rfl),hB3.trans (hb5.mono hB3.size)⟩
      ·have HI2:=Lh hi2;clear hi2
       go_wp2_with (go_at_call 174;refine(HTY.o _ false 1 hB3).mono ?_;rintro e w5 ⟨rfl,hb5⟩;rw[HI2.o];have d6:=(hN3.below hb5 hN3.lt).cell 6)
       go_ret;exact⟨ret_bool (by rw[HR.o];simp[kindOk,HI2.o];try rfl),hB3.trans (hb5.mono hB3.size)⟩
     ·have q1:((ln:Int)==1)=false:=by rw[bq0];omega
      go_wp2_with fail
      go_ret;exact⟨ret_bool (by rw[HR.o];simp[kindOk,h2]),hB3⟩
    ·skip
     by_cases h2:ln=1
     ·subst h2
      cases hi2:is false 2
      ·have HI2:=Lh hi2;clear hi2
       go_wp2_with (go_at_call 174;refine(HTY.o _ false 2 hB3).mono ?_;rintro e w5 ⟨rfl,hb5⟩;rw[HI2.o];have d6:=(hN3.below hb5 hN3.lt).cell 6)
       go_ret;exact⟨ret_bool (by rw[HR.o];simp[kindOk,HI2.o];try rfl),hB3.trans (hb5.mono hB3.size)⟩
      ·have HI2:=Lh hi2;clear hi2
       go_wp2_with (go_at_call 174;refine(HTY.o _ false 2 hB3).mono ?_;rintro e w5 ⟨rfl,hb5⟩;rw[HI2.o];have d6:=(hN3.below hb5 hN3.lt).cell 6)
       go_ret;exact⟨ret_bool (by rw[HR.o];simp[kindOk,HI2.o];try rfl),hB3.trans (hb5.mono hB3.size)⟩
     ·have q1:((ln:Int)==1)=false:=by rw[bq0];omega
      go_wp2_with fail
      go_ret;exact⟨ret_bool (by rw[HR.o];simp[kindOk,h2]),hB3⟩
    ·skip
     by_cases h2:ln=1
     ·subst h2
      cases hi2:is false 1
      ·have HI2:=Lh hi2;clear hi2
       go_wp2_with (go_at_call 174;refine(HTY.o _ false 1 hB3).mono ?_;rintro e w5 ⟨rfl,hb5⟩;rw[HI2.o];have d6:=(hN3.below hb5 hN3.lt).cell 6)
       go_ret;exact⟨ret_bool (by rw[HR.o];simp[kindOk,HI2.o];try rfl),hB3.trans (hb5.mono hB3.size)⟩
      ·have HI2:=Lh hi2;clear hi2
       go_wp2_with (go_at_call 174;refine(HTY.o _ false 1 hB3).mono ?_;rintro e w5 ⟨rfl,hb5⟩;rw[HI2.o];have d6:=(hN3.below hb5 hN3.lt).cell 6)
       go_ret;exact⟨ret_bool (by rw[HR.o];simp[kindOk,HI2.o];try rfl),hB3.trans (hb5.mono hB3.size)⟩
     ·have q1:((ln:Int)==1)=false:=by rw[bq0];omega
      go_wp2_with fail
      go_ret;exact⟨ret_bool (by rw[HR.o];simp[kindOk,h2]),hB3⟩
    ·skip
     by_cases h2:ln=1
     ·subst h2
      cases hi2:is false 1
      ·have HI2:=Lh hi2;clear hi2
       go_wp2_with (go_at_call 174;refine(HTY.o _ false 1 hB3).mono ?_;rintro e w5 ⟨rfl,hb5⟩;rw[HI2.o];have d6:=(hN3.below hb5 hN3.lt).cell 6)
       go_ret;exact⟨ret_bool (by rw[HR.o];simp[kindOk,HI2.o];try rfl),hB3.trans (hb5.mono hB3.size)⟩
      ·have HI2:=Lh hi2;clear hi2
       go_wp2_with (go_at_call 174;refine(HTY.o _ false 1 hB3).mono ?_;rintro e w5 ⟨rfl,hb5⟩;rw[HI2.o];have d6:=(hN3.below hb5 hN3.lt).cell 6)
       go_ret;exact⟨ret_bool (by rw[HR.o];simp[kindOk,HI2.o];try rfl),hB3.trans (hb5.mono hB3.size)⟩
     ·have q1:((ln:Int)==1)=false:=by rw[bq0];omega
      go_wp2_with fail
      go_ret;exact⟨ret_bool (by rw[HR.o];simp[kindOk,h2]),hB3⟩
    ·skip
     by_cases h2:ln=1
     ·subst h2
      cases hi2:is true 1
      ·have HI2:=Lh hi2;clear hi2
       go_wp2_with (go_at_call 174;refine(HTY.o _ true 1 hB3).mono ?_;rintro e w5 ⟨rfl,hb5⟩;rw[HI2.o];have d6:=(hN3.below hb5 hN3.lt).cell 6)
       go_ret;exact⟨ret_bool (by rw[HR.o];simp[kindOk,HI2.o];try rfl),hB3.trans (hb5.mono hB3.size)⟩
      ·have HI2:=Lh hi2;clear hi2
       go_wp2_with (go_at_call 174;refine(HTY.o _ true 1 hB3).mono ?_;rintro e w5 ⟨rfl,hb5⟩;rw[HI2.o];have d6:=(hN3.below hb5 hN3.lt).cell 6)
       go_ret;exact⟨ret_bool (by rw[HR.o];simp[kindOk,HI2.o];try rfl),hB3.trans (hb5.mono hB3.size)⟩
     ·have q1:((ln:Int)==1)=false:=by rw[bq0];omega
      go_wp2_with fail
      go_ret;exact⟨ret_bool (by rw[HR.o];simp[kindOk,h2]),hB3⟩
    ·skip
     by_cases h2:ln=1
     ·subst h2
      cases nn
      ·go_wp2_with fail
       go_ret;exact⟨ret_bool (by rw[HR.o];simp[kindOk]),hB3⟩
      ·by_cases hn1:1<=n
       ·have hnd:decide (1<=n)=true:=dt0 hn1
        go_wp2_with fail
        go_ret;exact⟨ret_bool (by rw[HR.o];simp[kindOk,hn1]),hB3⟩
       ·have hnd:decide (1<=n)=false:=df0 hn1
        go_wp2_with fail
        go_ret;exact⟨ret_bool (by rw[HR.o];simp[kindOk,hn1];try omega),hB3⟩
     ·have q1:((ln:Int)==1)=false:=by rw[bq0];omega
      go_wp2_with fail
      go_ret;exact⟨ret_bool (by rw[HR.o];simp[kindOk,h2]),hB3⟩
    ·skip
     by_cases h2:ln=2\/ln=3
     ·have hr2:(((ln:Int)==2)=true)\/(((ln:Int)==2)=false/\((ln:Int)==3)=true):=by
       rcases h2 with h|h
       ·left;simp;omega
       ·right;constructor
        ·rw[bq0];omega
        ·simp;omega
      have hd2:(decide (ln=2)||decide (ln=3))=true:=by simpa using h2
      clear h2;rcases hr2 with q1|⟨q1,q2⟩
      all_goals
       cases nn
       ·go_wp2_with fail
        go_ret;exact⟨ret_bool (by rw[HR.o];simp[kindOk]),hB3⟩
       ·go_wp2_with fail
        go_ret;exact⟨ret_bool (by rw[HR.o];simp only[kindOk];simp[hd2];rfl),hB3⟩
     ·have q1:((ln:Int)==2)=false:=by rw[bq0];omega
      have q2:((ln:Int)==3)=false:=by rw[bq0];omega
      have hd2:(decide (ln=2)||decide (ln=3))=false:=by simp;omega
      clear h2
      go_wp2_with fail
      go_ret;exact⟨ret_bool (by rw[HR.o];simp only[kindOk];simp[hd2]),hB3⟩
    ·skip
     by_cases h2:ln=1
     ·subst h2
      cases nn
      ·go_wp2_with fail
       go_ret;exact⟨ret_bool (by rw[HR.o];simp[kindOk];try rfl),hB3⟩
      ·go_wp2_with fail
       go_ret;exact⟨ret_bool (by rw[HR.o];simp[kindOk];try rfl),hB3⟩
     ·have q1:((ln:Int)==1)=false:=by rw[bq0];omega
      go_wp2_with fail
      go_ret;exact⟨ret_bool (by rw[HR.o];simp[kindOk,h2]),hB3⟩
    ·have b1:(kd==1)=false:=by simpa using k1
     have b2:(kd==2)=false:=by simpa using k2
     have b3:(kd==3)=false:=by simpa using k3
     have b4:(kd==4)=false:=by simpa using k4
     have b5:(kd==5)=false:=by simpa using k5
     have b6:(kd==6)=false:=by simpa using k6
     have b7:(kd==7)=false:=by simpa using k7
     have b8:(kd==8)=false:=by simpa using k8
     have b9:(kd==9)=false:=by simpa using k9
     go_wp2_with fail
     go_ret;exact⟨ret_bool (by rw[HR.o];simp[kindOk,k1,k2,k3,k4,k5,k6,k7,k8,k9]),hB3⟩
theorem rReaders_c (jb:Jb) (at_:Int) (v:Value) (B:Nat) (w:World) (hv:JbAt w B v jb) (hB:B<=w.heap.size) (hlen:jb.nodes.length<=1000):
  Calls prog 141 #[v,.int .i64 at_] w fun e w'=> ∃v',e= .returned v'/\Sl w' w'.heap.size 1 v' (jb.readers at_).length ((jb.readers at_).map (Value.int .i64))/\Below w.heap.size w w':=by
 obtain⟨i0,hi,hz0,hz1,hz2⟩:=info_parts info_intJ;have HE:Hd (jb.readers at_=readersGo at_ jb.nodes 0):=rfl;obtain⟨sv,rfl,hs⟩:=hv;obtain⟨a,cap,rfl,hcap,hmx⟩:=hs.slice;have HS:=Lh hs;generalize jb.nodes=l at*;generalize jb.par=par at*;generalize jb.readers at_=rr at*;clear hs;have hW:=(Below.refl w.heap.size w).alloc le0 (.cells #[.int .i64 par,.slice a l.length cap] 24);have hJ:=Blk.new w #[.int .i64 par,.slice a l.length cap] 24;go_enter func141,ntmps141
 go_wp2_with fail
 generalize World.alloc w _=W at*
 go_loopw [5,6] (fun s q wr=> ∃(k:Nat) (xs:List Int),q= .int .i64 (k:Int)/\k<=l.length/\Below w.heap.size w wr/\Blk wr w.heap.size 24 #[.int .i64 par,.slice a l.length cap]/\wr.ownsRow (w.heap.size+1) 3 1 s xs.length (xs.map (Value.int .i64))/\xs.length<=k/\xs++readersGo at_ (l.drop k) k=readersGo at_ l 0) (fun _ q _=>l.length-(intOf q).toNat)
 case atStart=>exact⟨0,[],rfl,ze0,hW,hJ,World.ownsRow_nil _ _ _ _,le0,rfl⟩
 case round=>
  obtain⟨k,xs,rfl,hk,hBr,hJr,hown,hxk,hr⟩:=hrel;have g1:=hJr.cell 1;have hbw:w.heap.size<wr.heap.size:=hJr.lt;by_cases hlt:k<l.length
  ·have hd1:decide ((k:Int)<(l.length:Int))=true:=dt0 (by omega);obtain⟨b,off,cp,e1,hb,hu,iv,sv,c0,c1,c2,c3,c4,c5,c6,hin⟩:=((HS.o.mono hB).keep hBr).at_ k hlt;simp only[vs0,true_and]at e1;obtain⟨rfl,rfl⟩:=e1;obtain⟨_,ai,capi,rfl,_,hcm,_⟩:=id hin.1;rw[List.drop_eq_getElem_cons hlt]at hr;simp only[readersGo]at hr;have hym:(l[k]'hlt).ins.length<=9223372036854775807:=by unfold maxLen at hcm;omega
   generalize l[k]=y at*;have HSL:=Lh hin.1;have HR:=Lh hr;rename_i hx1 hx2 hx3;clear hr hin hx1 hx2 hx3 c0 c1 c3 c4 c5 c6 hu
   go_wp2_with fail
   go_loopw [7,8] (fun s q wx=> ∃(m:Nat) (r:Bool),q= .int .i64 (m:Int)/\s= .bool r/\m<=y.ins.length/\wx=wr/\(y.ins.take m).any (fun z=>at_==z)=r) (fun _ q _=>y.ins.length-(intOf q).toNat)
   case atStart=>exact⟨0,false,rfl,rfl,ze0,rfl,rfl⟩
   case round=>
    obtain⟨m,r,rfl,rfl,hm,rfl,hra⟩:=hrel;by_cases hlm:m<y.ins.length
    ·have hd2:decide ((m:Int)<(y.ins.length:Int))=true:=dt0 (by omega);obtain⟨b',off',cp',e1,hb',g1',p0⟩:=HSL.o.int m hlm;simp only[vs0,true_and]at e1;obtain⟨rfl,rfl⟩:=e1;have HAN:Hd ((y.ins.take (m+1)).any (fun z=>at_==z)=(r||(at_==y.ins[m]))):=by
      show _=_;rw[List.take_succ_eq_append_getElem hlm,List.any_append,hra];simp
     generalize y.ins[m]=z at*;have hzz:(z==at_)=(at_==z):=by rw[Bool.eq_iff_iff,beq_iff_eq,beq_iff_eq];exact eq_comm
     rw[<-hzz]at HAN;clear hzz hra
     cases r
     ·cases hza:(z==at_)
      all_goals
       have HAZ:=Lh hza
       go_wp2_with fail
       go_roundw
       case rel=>exact⟨m+1,_,by go_num,rfl,by omega,trivial,by rw[HAN.o,HAZ.o];rfl⟩
       case measure=>simp[intOf];omega
     ·go_wp2_with fail
      go_roundw
      case rel=>exact⟨m+1,true,by go_num,rfl,by omega,trivial,by rw[HAN.o];rfl⟩
      case measure=>simp[intOf];omega
    ·have hd2:decide ((m:Int)<(y.ins.length:Int))=false:=df0 (by omega);rw[List.take_of_length_le (by omega)]at hra;rw[hra]at HR;clear hra
     cases r
     ·go_wp2_with fail
      go_roundw
      case rel=>exact⟨k+1,xs,by go_num,by omega,hBr,hJr,hown,by omega,HR.o⟩
      case measure=>simp[intOf];omega
     ·have hon:=own_keep hown ((Below.refl wr.heap.size wr).alloc le0 (.cells #[.int .i64 (k:Int)] 3));have hB1:=hBr.alloc (Nat.le_of_lt hbw) (.cells #[.int .i64 (k:Int)] 3);have hJ1:=hJr.alloc (.cells #[.int .i64 (k:Int)] 3)
      go_wp2_with (at_builtin;refine wpList_append_own _ rfl _ _ 130 rfl (w.heap.size+1) 3 i0 (.int .i64 0) 1 8 underlying130 hi hz0 hz1 hz2 rfl (by decide) u5 xs.length (xs.map (Value.int .i64)) rfl hon ⟨wr.heap.size,0,none⟩ 1 1 [.int .i64 (k:Int)] rfl rfl (cell_one_newJ _ _ _) (by simp[Value.oneCell']) (by unfold maxLen;omega) (by omega) (by simp;omega) ?_;intro v1' w3 hown3 hgrow3 _)
      have hgn: ∀q,u5.ownBlock=some q->w.heap.size+1<=q:=fun q hq=>(hown.lt q hq).1;go_roundw
      case rel=>exact⟨k+1,xs++ [(k:Int)],by go_num,by omega,hB1.grown hgrow3 (by simp;omega) (fun q hq=>by have:=hgn q hq;omega),hJ1.grown hgrow3 (fun e=>by have:=hgn _ e.symm;omega),by simpa using hown3,by simp;omega,by rw[<-HR.o,List.append_assoc];rfl⟩
      case measure=>simp[intOf];omega
  ·have hd1:decide ((k:Int)<(l.length:Int))=false:=df0 (by omega);rw[List.drop_of_length_le (by omega)]at hr;simp only[readersGo,List.append_nil]at hr
   go_wp2_with fail
   go_ret;refine⟨_,rfl,?_,hBr⟩;rw[HE.o,<-hr];exact Sl.of_owns hown
theorem own_pos {w:World} {base:Nat} {e:TypeId} {size n:Nat} {v:Value} {xs:List Value} (h:w.ownsRow base e size v n xs) (hn:0<n): ∃g cap,v= .slice (some ⟨g,0,none⟩) n cap:=by
 rcases h.2 with ⟨_,h0⟩|⟨g,cap,_,hv,_⟩
 ·omega
 ·exact⟨g,cap,hv⟩
theorem beq_strD (s t:ByteArray):(s.toList==t.toList)=decide (s=t):=by
 by_cases h:s=t
 ·subst h;simp
 ·rw[df0 h,bq0];intro e;rw[ByteArray.toList_eq,ByteArray.toList_eq]at e;exact h (ByteArray.ext (Array.ext' e))
structure R2Rel (l:List Nd) (w:World) (wr:World) (job:Array Value) (k:Nat) (us:List ByteArray):Prop where
 le:k<=l.length
 below:Below w.heap.size w wr
 job:Blk wr w.heap.size 24 job
 ue:us=(l.take k).map Nd.uid
 tw:twiceB (fun x y=>decide (x=y)) us=false
 st:st1 (l.drop k) k us=st1 l 0 []
structure R4Rel (jb:Jb) (l:List Nd) (w:World) (wr:World) (job:Array Value) (k:Nat) (f:Int) (ws:List Int) (s10:Value):Prop where
 le:k<=l.length
 below:Below w.heap.size w wr
 job:Blk wr w.heap.size 24 job
 f0:0<=f
 f2:f<=2
 own:wr.ownsRow (w.heap.size+1) 3 1 s10 k (ws.map (Value.int .i64))
 wk:ws.length=k
 wb: ∀z∈ws,0<=z/\z<=64
 st:st2 jb (l.drop k) k f ws=st2 jb l 0 0 []
theorem rMayJ_c (jb:Jb) (hok:jb.ok) (hus: ∀d∈jb.nodes,d.uid.size<=1000000) (hlen:jb.nodes.length<=1000) (v:Value) (B:Nat) (w:World) (hv:JbAt w B v jb) (hB:B<=w.heap.size):
  CB prog 82 #[v] w (.tuple #[.int .i64 jb.may.1,.int .i64 jb.may.2]):=by
 obtain⟨j0,ki,kz0,kz1,kz2⟩:=info_parts info_intJ;have HJ:=Lh hv;obtain⟨sv,rfl,hs⟩:=hv;obtain⟨a,cap,rfl,hcap,hmx⟩:=hs.slice;have HS:=Lh hs;have HM:Hd (jb.may=if jb.argB=true then(0,2)else match st1 jb.nodes 0 []with
  |some r=>r
  |none=>match st2 jb jb.nodes 0 0 []with
   |some r=>r
   |none=>(0,0)):=rfl
 have HOK:=Lh hok.2.2;have HUS:=Lh hus;have HPS:=Lh (parts_iff jb);have hcs:=argB_cases jb;have HRD:Hd (∀(at_:Int) (v:Value) (B:Nat) (w:World) (hv:JbAt w B v jb) (hB:B<=w.heap.size),Calls prog 141 #[v,.int .i64 at_] w fun e w'=> ∃v',e= .returned v'/\Sl w' w'.heap.size 1 v' (jb.readers at_).length ((jb.readers at_).map (Value.int .i64))/\Below w.heap.size w w'):=
  fun at_ v B w hv hB=>rReaders_c jb at_ v B w hv hB hlen
 have HBC:=Lh (badB_cases jb);have HNM:Hd (st1 jb.nodes 0 []=none-> ∀i (h:i<jb.nodes.length),nodeB (jb.nodes[i]'h) (i:Int)=true):=fun h' i h=>by have:=st1_node jb.nodes 0 [] h' i h;simpa using this
 have hrl:Hd (∀at_,(jb.readers at_).length<=jb.nodes.length):=fun at_=>by
  unfold Jb.readers;have: ∀(l:List Nd) (k:Nat),(readersGo at_ l k).length<=l.length:=by
   intro l
   induction l with
   |nil=>simp[readersGo]
   |cons d l ih=>
    intro k;simp only[readersGo]
    cases d.ins.any (fun y=>at_==y)
    ·have:=ih (k+1);simp only[cond_false,List.length_cons];omega
    ·have:=ih (k+1);simp only[cond_true,List.length_cons];omega
  exact this _ _
 have hNJ:=Blk.new w #[.int .i64 jb.par,.slice a jb.nodes.length cap] 24;have hW:=(Below.refl w.heap.size w).alloc le0 (.cells #[.int .i64 jb.par,.slice a jb.nodes.length cap] 24);clear hs hok hus;generalize hl:jb.nodes=l at*;have HL:=Lh hl;generalize jb.par=par at*;generalize hmay:jb.may=mm at*;generalize jb.parts=pts at*;clear hl hmay;go_enter func82,ntmps82
 go_wp2_with fail
 generalize World.alloc w _=W at*;have g1:=hNJ.cell 1
 go_wp2_with fail
 clear g1
 go_loopw [5,6] (fun s q wr=> ∃k:Nat,q= .int .i64 (k:Int)/\s= .int .i64 ((partsSum (l.take k):Nat):Int)/\k<=l.length/\Below w.heap.size w wr/\Blk wr w.heap.size 24 #[.int .i64 par,.slice a l.length cap]) (fun _ q _=>l.length-(intOf q).toNat)
 case atStart=>exact⟨0,rfl,rfl,ze0,hW,hNJ⟩
 case round=>
  clear hW hNJ;obtain⟨k,rfl,rfl,hk,hBr,hJr⟩:=hrel;have g1:=hJr.cell 1;by_cases hlt:k<l.length
  ·have hd1:decide ((k:Int)<(l.length:Int))=true:=dt0 (by omega);obtain⟨b,off,cp,e1,hb,hu,iv,sv,c0,c1,c2,c3,c4,c5,c6,hin⟩:=((HS.o.mono hB).keep hBr).at_ k hlt;simp only[vs0,true_and]at e1;obtain⟨rfl,rfl⟩:=e1;obtain⟨a2,cap2,rfl,_,_⟩:=hin.2.slice;have HX:Hd (ExAt wr w.heap.size (.agg #[.int .u8 (l[k]'hlt).x.op,.int .i64 (l[k]'hlt).x.n,.slice a2 (l[k]'hlt).x.args.length cap2]) (l[k]'hlt).x):=⟨_,rfl,hin.2⟩;have HPT:=Lh (partsSum_take l k hlt);have hps:=partsSum_le (l.take k);rw[List.length_take]at hps;generalize l[k]=y at*;have HPC:=Lh (rParts_c y.x _ w.heap.size wr HX.o hBr.size);have hmt:min y.x.tot 1001<=1001:=Nat.min_le_right _ _;generalize min y.x.tot 1001=t at*;generalize partsSum (l.take k)=ps at*;rename_i hx1 hx2;clear hin hx1 hx2 c0 c1 c2 c6 hu HX
   go_wp2_with (go_at_call 139;refine HPC.o.mono ?_;rintro e w3 ⟨rfl,hb3⟩)
   go_roundw
   case rel=>exact⟨k+1,by go_num,by rw[HPT.o];go_num,by omega,hBr.trans (hb3.mono hBr.size),hJr.below hb3 hJr.lt⟩
   case measure=>simp[intOf];omega
  ·have hd1:decide ((k:Int)<(l.length:Int))=false:=df0 (by omega);rw[List.take_of_length_le (by omega)];generalize partsSum l=ps at*;have g0:=hJr.cell 0;rcases hcs with ⟨hr,hc⟩|⟨hr,hc1,hc2,hc3,hc4,hc5⟩
   ·have HM2:Hd (mm=(0,2)):=by show _=_;rw[HM.o,if_pos hr]
    have hpp:=HPS.o;clear hr HM;have hc':(decide (par<1)=true)\/(decide (par<1)=false/\decide (4<par)=true)\/(decide (par<1)=false/\decide (4<par)=false/\decide ((l.length:Int)<2)=true)\/(decide (par<1)=false/\decide (4<par)=false/\decide ((l.length:Int)<2)=false/\decide ((12:Int)<(l.length:Int))=true)\/
      (decide (par<1)=false/\decide (4<par)=false/\decide ((l.length:Int)<2)=false/\decide ((12:Int)<(l.length:Int))=false/\decide ((1000:Int)<(ps:Int))=true):=by
     simp only[decide_eq_true_eq,decide_eq_false_iff_not];omega
    clear hc hpp;rcases hc' with h1|⟨h1,h2⟩|⟨h1,h2,h3⟩|⟨h1,h2,h3,h4⟩|⟨h1,h2,h3,h4,h5⟩
    all_goals
     go_wp2_with fail
     go_ret2;exact⟨by rw[HM2.o];rfl,hBr⟩
   ·have HM2:Hd (mm=match st1 l 0 []with
     |some r=>r
     |none=>match st2 jb l 0 0 []with
      |some r=>r
      |none=>(0,0)):=by show _=_;rw[HM.o,if_neg (by rw[hr];simp)]
    have hpp:=HPS.o;have h1:decide (par<1)=false:=df0 (by omega);have h2:decide (4<par)=false:=df0 (by omega);have h3:decide ((l.length:Int)<2)=false:=df0 (by omega);have h4:decide ((12:Int)<(l.length:Int))=false:=df0 (by omega);have h5:decide ((1000:Int)<(ps:Int))=false:=df0 (by omega);clear hr HM hpp hc5
    go_wp2_with fail
    clear g0 g1 h1 h2 h3 h4 h5
    go_loopw [7] (fun q wr=> ∃(k:Nat) (us:List ByteArray),q= .int .i64 (k:Int)/\R2Rel l w wr #[.int .i64 par,.slice a l.length cap] k us) (fun q _=>l.length-(intOf q).toNat)
    case atStart=>exact⟨0,[],rfl,ze0,hBr,hJr,rfl,rfl,rfl⟩
    case round=>
     clear hBr hJr hlt hk hd1;obtain⟨k,us,rfl,hR⟩:=hrel;have hk:=hR.le;have hBr:=hR.below;have hJr:=hR.job;have g1:=hJr.cell 1;by_cases hlt:k<l.length
     ·have hd1:decide ((k:Int)<(l.length:Int))=true:=dt0 (by omega);obtain⟨b,off,cp,e1,hb,hu,iv,sv,c0,c1,c2,c3,c4,c5,c6,hin⟩:=((HS.o.mono hB).keep hBr).at_ k hlt;simp only[vs0,true_and]at e1;obtain⟨rfl,rfl⟩:=e1;obtain⟨a2,cap2,rfl,_,_⟩:=hin.2.slice;obtain⟨_,ai,capi,rfl,_,hcm,_⟩:=id hin.1;have hst:=hR.st;rw[List.drop_eq_getElem_cons hlt]at hst;simp only[st1]at hst;have HMY:=Lh (rmay_c (l[k]'hlt) (HOK.o _ (List.getElem_mem hlt)) (HUS.o _ (List.getElem_mem hlt)) (k:Int) (.agg #[.string (l[k]'hlt).uid,.int .u8 (l[k]'hlt).kind,.slice ai (l[k]'hlt).ins.length capi,.int .u8 (l[k]'hlt).x.op,.int .i64 (l[k]'hlt).x.n,.slice a2 (l[k]'hlt).x.args.length cap2,.int .i64 (l[k]'hlt).n]) w.heap.size wr ⟨_,_,rfl,hin,hu⟩ hBr.size);have HTW:Hd (twiceB (fun x y=>decide (x=y)) (us++ [(l[k]'hlt).uid])=us.any (fun y=>decide ((l[k]'hlt).uid=y))):=by show _=_;rw[twiceB_snoc,hR.tw,Bool.false_or]
      have HUN:Hd ((l.take (k+1)).map Nd.uid=us++ [(l[k]'hlt).uid]):=by show _=_;rw[List.take_succ_eq_append_getElem hlt,List.map_append,<-hR.ue];rfl
      have HUL:Hd (us=(l.take k).map Nd.uid):=hR.ue;generalize hy:l[k]=y at*;have HY:=Lh hy;clear hy;have HST:=Lh hst;rename_i hx1 hx2 hx3;clear hst hin hx1 hx2 hx3 hcm
      cases hnb:nodeB y (k:Int)
      ·have HNB:=Lh hnb;rw[hnb]at HMY;clear hnb
       go_wp2_with (go_at_call 140;refine HMY.o.mono ?_;rintro e w3 ⟨rfl,hb3⟩)
       go_ret2;refine⟨?_,hBr.trans (hb3.mono hBr.size)⟩;rw[HM2.o,<-HST.o,HNB.o];rfl
      ·have HNB:=Lh hnb;rw[hnb]at HMY;clear hnb
       go_wp2_with (go_at_call 140;refine HMY.o.mono ?_;rintro e w3 ⟨rfl,hb3⟩)
       have hB3:=hBr.trans (hb3.mono hBr.size);have hJ3:=hJr.below hb3 hJr.lt;have u0:w3.cell? ⟨b,off+k*7,none⟩=some (.string y.uid):=(hb3.cell (p:=⟨b,off+k*7,none⟩) (lt1 hb hBr.size)).trans c0;clear c0 c1 c2 c3 c4 c5 c6 g1 hBr hJr hb3 HMY hR
       go_loopw [8] (fun q wx=> ∃j m:Nat,q= .int .i64 (j:Int)/\j<=k/\wx=w3.drewN m/\(us.take j).any (fun v=>decide (y.uid=v))=false) (fun q _=>k-(intOf q).toNat)
       case atStart=>exact⟨0,0,rfl,ze0,rfl,rfl⟩
       case round=>
        obtain⟨j,m,rfl,hj,rfl,hje⟩:=hrel;have hJm:Blk (w3.drewN m) w.heap.size 24 #[.int .i64 par,.slice (some ⟨b,off,none⟩) l.length cap]:=hJ3;have g1:=hJ3.cell 1;by_cases hjk:j<k
        ·have hd2:decide ((j:Int)<(k:Int))=true:=dt0 (by omega);have hjl:j<l.length:=by omega
         obtain⟨b',off',cp',e1,hb',hu',iv',sv',c0,hrest⟩:=((HS.o.mono hB).keep hB3).at_ j hjl;clear hrest;simp only[vs0,true_and,Option.some.injEq,Addr.mk.injEq,and_true]at e1;obtain⟨⟨rfl,rfl⟩,rfl⟩:=e1;have hjul:j<us.length:=by rw[HUL.o,List.length_map,List.length_take];omega
         have huj:us[j]'hjul=(l[j]'hjl).uid:=by
          have h1:((l.take k).map Nd.uid)[j]? =some (l[j]'hjl).uid:=by
           rw[List.getElem?_map,List.getElem?_take,if_pos hjk,List.getElem?_eq_getElem hjl];rfl
          rw[<-HUL.o,List.getElem?_eq_getElem hjul,Option.some.injEq]at h1;exact h1
         have HJT:Hd (us.take (j+1)=us.take j++ [(l[j]'hjl).uid]):=by show _=_;rw[List.take_succ_eq_append_getElem hjul,huj]
         have HJI:Hd (y.uid=(l[j]'hjl).uid->us.any (fun v=>decide (y.uid=v))=true):=fun h=>List.any_eq_true.2 ⟨us[j]'hjul,List.getElem_mem hjul,by rw[huj,h];simp⟩;generalize (l[j]'hjl).uid=z at*;clear huj hjul;have hbs:=beq_strD z y.uid;by_cases hzy:y.uid=z
         ·have hbt:(z.toList==y.uid.toList)=true:=by rw[hbs];exact dt0 hzy.symm
          have HAN:=Lh (HJI.o hzy);clear hzy hbs
          go_wp2_with fail
          go_quiet (fail)
          go_wp2_with fail
          go_ret2;refine⟨?_,below_drewN (below_drewN hB3 _) _⟩;rw[HM2.o,<-HST.o,HNB.o,HTW.o,HAN.o];rfl
         ·have hbt:(z.toList==y.uid.toList)=false:=by rw[hbs];exact df0 (fun h=>hzy h.symm)
          have HZY:=Lh hzy;clear hzy hbs
          go_wp2_with fail
          go_quiet (fail)
          go_wp2_with fail
          go_roundw
          case rel=>exact⟨j+1,m+nq,by go_num,by omega,rfl,by rw[HJT.o,List.any_append,hje];simp[HZY.o]⟩
          case measure=>simp[intOf];omega
        ·have hd2:decide ((j:Int)<(k:Int))=false:=df0 (by omega);have hun:us.take j=us:=List.take_of_length_le (by rw[HUL.o,List.length_map,List.length_take];omega);rw[hun]at hje;have HJE:=Lh hje;clear hje hun
         go_wp2_with fail
         go_roundw
         case rel=>exact⟨k+1,us++ [y.uid],by go_num,by omega,below_drewN hB3 _,hJm,HUN.o.symm,by rw[HTW.o];exact HJE.o,by rw[<-HST.o,HNB.o,HTW.o,HJE.o];rfl⟩
         case measure=>simp[intOf];omega
     ·have hd1:decide ((k:Int)<(l.length:Int))=false:=df0 (by omega);have hst:=hR.st;rw[List.drop_of_length_le (by omega)]at hst;simp only[st1]at hst;have HNB:=Lh (HNM.o hst.symm);have HM3:Hd (mm=match st2 jb l 0 0 []with
       |some r=>r
       |none=>(0,0)):=by show _=_;rw[HM2.o,<-hst]
      clear hst hR HM2 HNM g1
      go_wp2_with fail
      go_loopw [9,10,11] (fun s9 s10 q wr=> ∃(k:Nat) (f:Int) (ws:List Int),q= .int .i64 (k:Int)/\s9= .int .i64 f/\R4Rel jb l w wr #[.int .i64 par,.slice a l.length cap] k f ws s10) (fun _ _ q _=>l.length-(intOf q).toNat)
      case atStart=>exact⟨0,0,[],rfl,rfl,ze0,hBr,hJr,by omega,by omega,World.ownsRow_nil _ _ _ _,rfl,by simp,rfl⟩
      case round=>
       clear hBr hJr hlt hk hd1;obtain⟨k,f,ws,rfl,rfl,hR⟩:=hrel;have hk:=hR.le;have hBr:=hR.below;have hJr:=hR.job;have g1:=hJr.cell 1;have hbw:w.heap.size<wr.heap.size:=hJr.lt;by_cases hlt:k<l.length
       ·have hd1:decide ((k:Int)<(l.length:Int))=true:=dt0 (by omega);obtain⟨b,off,cp,e1,hb,hu,iv,sv,c0,c1,c2,c3,c4,c5,c6,hin⟩:=((HS.o.mono hB).keep hBr).at_ k hlt;simp only[vs0,true_and]at e1;obtain⟨rfl,rfl⟩:=e1;obtain⟨_,ai,capi,rfl,_,hcm,_⟩:=id hin.1;have hst:=hR.st;rw[List.drop_eq_getElem_cons hlt]at hst;simp only[st2]at hst;have hnd:=nodeB_in _ _ (HNB.o k hlt);generalize l[k]=y at*;have HSL:=Lh hin.1;have HST:=Lh hst;have HND:=Lh hnd;have hil:y.ins.length<=3:=hnd.1;have hkw:k<=100:=by omega
        have HWB:=Lh hR.wb;have HWK:=Lh hR.wk;rename_i hx1 hx2 hx3;clear hst hin hx1 hx2 hx3 hu hnd hcm c0 c3 c4 c5 c6
        go_wp2_with fail
        go_loopw [13,14] (fun s13 q wx=> ∃(m:Nat) (acc:Int),q= .int .i64 (m:Int)/\s13= .int .i64 acc/\m<=y.ins.length/\0<=acc/\acc<=64*m/\wx=wr/\acc+sumW ws (y.ins.drop m)=sumW ws y.ins) (fun _ q _=>y.ins.length-(intOf q).toNat)
        case atStart=>exact⟨0,0,rfl,rfl,ze0,by omega,by omega,rfl,by simp⟩
        case round=>
         obtain⟨m,acc,rfl,rfl,hm,ha1,ha2,rfl,hsum⟩:=hrel;by_cases hlt2:m<y.ins.length
         ·have hd2:decide ((m:Int)<(y.ins.length:Int))=true:=dt0 (by omega);obtain⟨bi,oi,ci,e2,hbi,g1',p0⟩:=HSL.o.int m hlt2;simp only[vs0,true_and]at e2;obtain⟨rfl,rfl⟩:=e2;have hzb:=HND.o.2.2.2 _ (List.getElem_mem g1');rw[List.drop_eq_getElem_cons g1']at hsum;simp only[sumW]at hsum;generalize y.ins[m]=z at*;obtain⟨zn,rfl⟩: ∃zn:Nat,z=zn:=⟨z.toNat,by omega⟩;have hzk:zn<k:=by omega
          obtain⟨q,hq1,hq2,hq3,hq4⟩:=sum_at HWK.o zn hzk HWB.o;rw[Int.toNat_natCast,hq1]at hsum;have HSUM:=Lh hsum;obtain⟨g,capg,hv10⟩:=own_pos hR.own (by omega);subst hv10;obtain⟨og1,og2,og3⟩:=own_cells hR.own;have o1:wr.cell? ⟨g,zn,none⟩=some (.int .i64 q):=(og3 zn hzk).1.trans (by
           have:=hq4 0
           rw[List.map_append,List.getElem?_append_left (by rw[List.length_map,HWK.o];exact hzk)]at this
           exact this)
          obtain⟨hacc,hzi,hzj⟩:acc<=1000/\(0:Int)<=(zn:Int)/\(zn:Int)<(k:Int):=by and_intros<;>(omega)
          clear hsum hq1 hq4 hzb og3
          go_wp2_with fail
          go_roundw
          case rel=>exact⟨m+1,acc+q,by go_num,rfl,by omega,by omega,by omega,trivial,by have:=HSUM.o;omega⟩
          case measure=>simp[intOf];omega
         ·have hd2:decide ((m:Int)<(y.ins.length:Int))=false:=df0 (by omega);rw[List.drop_of_length_le (by omega)]at hsum;simp only[sumW,Int.add_zero]at hsum;have hS:acc<=1000:=by omega
          have HSW:=Lh hsum;have HWY:Hd (wayN y ws=if y.kind=1 then 1 else if y.kind=4 then sumW ws y.ins*4 else sumW ws y.ins):=rfl;have HFL:Hd (flatN y f=if y.kind=4 then f+1 else f):=rfl;have hf0:=hR.f0;have hf2:=hR.f2;have hown:=hR.own;have hgn: ∀q,u10.ownBlock=some q->w.heap.size+1<=q/\q<wr.heap.size:=fun q hq=>⟨(hown.lt q hq).1,(hown.lt q hq).2⟩;have HWBN:Hd (∀z,0<=z->z<=64-> ∀q∈ws++ [z],0<=q/\q<=64):=fun z h1 h2 q hq=>by
           rcases List.mem_append.1 hq with h|h
           ·exact HWB.o q h
           ·obtain rfl:q=z:=by simpa using h
            exact⟨h1,h2⟩
          have HBX:Hd (∀f1 w1,badB jb y k f1 w1=(((y.kind==1) !=((k:Int)==0))||(((y.kind==9) !=((k:Int)==(l.length:Int) -1))||(((((jb.readers k).length:Int)==0) !=((k:Int)==(l.length:Int) -1))||(decide (3<((jb.readers k).length:Int))||(decide (2<f1)||decide (64<w1))))))):=fun f1 w1=>by rw[<-HL.o];rfl
          clear hsum hR HWB ha2;have hkind:y.kind=1\/y.kind=4\/(y.kind≠1/\y.kind≠4):=by omega
          rcases hkind with h1|h4|⟨h1,h4⟩
          ·have b1:(y.kind==1)=true:=by simpa using h1
           have b4:(y.kind==4)=false:=by rw[h1];rfl
           have b9:(y.kind==9)=false:=by rw[h1];rfl
           have HW1:Hd (wayN y ws=1):=by show _=_;rw[HWY.o,if_pos h1]
           have HF1:Hd (flatN y f=f):=by show _=_;rw[HFL.o,if_neg (by omega)]
           have hn1:(y.kind !=1)=false:=by rw[bne,b1];rfl
           clear h1;rw[HW1.o,HF1.o]at HST;have HBY:=Lh (HBX.o f 1);have hw0:(0:Int)<=1:=by omega
           have hfz:(0:Int)<=f:=by omega
           have hon:=own_keep hown ((Below.refl wr.heap.size wr).alloc le0 (.cells #[.int .i64 1] 3));have hB1:=hBr.alloc (Nat.le_of_lt hbw) (.cells #[.int .i64 1] 3);have hJ1:=hJr.alloc (.cells #[.int .i64 1] 3)
           go_upto_region 36 with (at_builtin;refine wpList_append_own _ rfl _ _ 130 rfl (w.heap.size+1) 3 j0 (.int .i64 0) 1 8 underlying130 ki kz0 kz1 kz2 rfl (by decide) u10 k (ws.map (Value.int .i64)) rfl hon ⟨wr.heap.size,0,none⟩ 1 1 [.int .i64 1] rfl rfl (cell_one_newJ _ _ _) (by simp[Value.oneCell']) (by unfold maxLen;omega) (by omega) (by simp;omega) ?_;intro v1' w3 hown3 hgrow3 _)
           have hB3:=hB1.grown hgrow3 (by simp;omega) (fun q hq=>by have:=(hgn q hq).1;omega);have hJ3:=hJ1.grown hgrow3 (fun e=>by have:=(hgn _ e.symm).1;omega);have HO3:Hd (w3.ownsRow (w.heap.size+1) 3 1 v1' (k+1) ((ws++ [1]).map (Value.int .i64))):=by simpa[Hd]using hown3
           clear hgrow3 hown3 hB1 hJ1 hon hown hBr hJr g1;have g0:=hJ3.cell 0;have g1:=hJ3.cell 1
           go_upto_region 39 with (go_at_call 141;refine(HRD.o (k:Int) _ w.heap.size _ ((HJ.o.keep (hB3.mono hB)).mono hB) hB3.size).mono ?_;rintro e w5 ⟨v5,rfl,hsl5,hb5⟩;obtain⟨_,a5,cap5,rfl,hc5,hm5,_⟩:=hsl5)
           have hB5:=hB3.trans (hb5.mono hB3.size);have hJ5:=hJ3.below hb5 hJ3.lt;have HO5:=Lh (own_keep HO3.o hb5);clear hB3 hJ3 HO3 g0 g1 hb5;have hrk:=hrl.o (k:Int);generalize (jb.readers (k:Int)).length=rr at*
           cases hfi:((k:Int)==0)
           ·have HBD:Hd (badB jb y k f 1=true):=by show _=_;rw[HBY.o];simp only[hfi,b1];simp
            go_wp2_with fail
            go_ret2;refine⟨?_,hB5⟩;rw[HM3.o,<-HST.o,HBD.o];rfl
           ·cases hla:((k:Int)==(l.length:Int) -1)
            ·have hn9:(y.kind !=9)=true:=by rw[bne,b9];rfl
             cases hm1:decide ((rr:Int)<1)
             ·have hmz:((rr:Int)==0)=false:=by rw[bq0];have:=of_decide_eq_false hm1;omega
              cases hm3:decide ((3:Int)<(rr:Int))
              ·cases hf2d:decide ((2:Int)<f)
               ·have hw64:decide ((64:Int)<1)=false:=by decide
                have HBD:Hd (badB jb y k f 1=false):=by show _=_;rw[HBY.o];simp only[hfi,b1,hla,b9,hmz,hm3,hf2d,hw64];rfl
                go_wp2_with fail
                go_roundw
                case rel=>exact⟨k+1,f,ws++ [1],by go_num,rfl,by omega,hB5,hJ5,hfz,by have:=of_decide_eq_false hf2d;omega,HO5.o,by rw[la0,HWK.o];rfl,HWBN.o _ hw0 (by have:=of_decide_eq_false hw64;omega),by rw[<-HST.o,HBD.o];rfl⟩
                case measure=>simp[intOf];omega
               ·have HBD:Hd (badB jb y k f 1=true):=by show _=_;rw[HBY.o];simp only[hfi,b1,hla,b9,hmz,hm3,hf2d];simp
                go_wp2_with fail
                go_ret2;refine⟨?_,hB5⟩;rw[HM3.o,<-HST.o,HBD.o];rfl
              ·have HBD:Hd (badB jb y k f 1=true):=by show _=_;rw[HBY.o];simp only[hfi,b1,hla,b9,hmz,hm3];simp
               go_wp2_with fail
               go_ret2;refine⟨?_,hB5⟩;rw[HM3.o,<-HST.o,HBD.o];rfl
             ·have hmz:((rr:Int)==0)=true:=by rw[beq_iff_eq];have:=of_decide_eq_true hm1;omega
              have HBD:Hd (badB jb y k f 1=true):=by show _=_;rw[HBY.o];simp only[hfi,b1,hla,b9,hmz];simp
              go_wp2_with fail
              go_ret2;refine⟨?_,hB5⟩;rw[HM3.o,<-HST.o,HBD.o];rfl
            ·have hn9:(y.kind !=9)=true:=by rw[bne,b9];rfl
             have HBD:Hd (badB jb y k f 1=true):=by show _=_;rw[HBY.o];simp only[hfi,b1,hla,b9];simp
             go_wp2_with fail
             go_ret2;refine⟨?_,hB5⟩;rw[HM3.o,<-HST.o,HBD.o];rfl
          ·have b1:(y.kind==1)=false:=by rw[h4];rfl
           have b4:(y.kind==4)=true:=by simpa using h4
           have b9:(y.kind==9)=false:=by rw[h4];rfl
           have HW1:Hd (wayN y ws=4*acc):=by show _=_;rw[HWY.o,if_neg (by omega),if_pos h4,HSW.o,Int.mul_comm]
           have HF1:Hd (flatN y f=f+1):=by show _=_;rw[HFL.o,if_pos h4]
           have hn1:(y.kind !=1)=true:=by rw[bne,b1];rfl
           clear h4;rw[HW1.o,HF1.o]at HST;have HBY:=Lh (HBX.o (f+1) (4*acc));have hw0:(0:Int)<=(4*acc):=by omega
           have hfz:(0:Int)<=(f+1):=by omega
           have hon:=own_keep hown ((Below.refl wr.heap.size wr).alloc le0 (.cells #[.int .i64 (4*acc)] 3));have hB1:=hBr.alloc (Nat.le_of_lt hbw) (.cells #[.int .i64 (4*acc)] 3);have hJ1:=hJr.alloc (.cells #[.int .i64 (4*acc)] 3)
           go_upto_region 36 with (at_builtin;refine wpList_append_own _ rfl _ _ 130 rfl (w.heap.size+1) 3 j0 (.int .i64 0) 1 8 underlying130 ki kz0 kz1 kz2 rfl (by decide) u10 k (ws.map (Value.int .i64)) rfl hon ⟨wr.heap.size,0,none⟩ 1 1 [.int .i64 (4*acc)] rfl rfl (cell_one_newJ _ _ _) (by simp[Value.oneCell']) (by unfold maxLen;omega) (by omega) (by simp;omega) ?_;intro v1' w3 hown3 hgrow3 _)
           have hB3:=hB1.grown hgrow3 (by simp;omega) (fun q hq=>by have:=(hgn q hq).1;omega);have hJ3:=hJ1.grown hgrow3 (fun e=>by have:=(hgn _ e.symm).1;omega);have HO3:Hd (w3.ownsRow (w.heap.size+1) 3 1 v1' (k+1) ((ws++ [(4*acc)]).map (Value.int .i64))):=by simpa[Hd]using hown3
           clear hgrow3 hown3 hB1 hJ1 hon hown hBr hJr g1;have g0:=hJ3.cell 0;have g1:=hJ3.cell 1
           go_upto_region 39 with (go_at_call 141;refine(HRD.o (k:Int) _ w.heap.size _ ((HJ.o.keep (hB3.mono hB)).mono hB) hB3.size).mono ?_;rintro e w5 ⟨v5,rfl,hsl5,hb5⟩;obtain⟨_,a5,cap5,rfl,hc5,hm5,_⟩:=hsl5)
           have hB5:=hB3.trans (hb5.mono hB3.size);have hJ5:=hJ3.below hb5 hJ3.lt;have HO5:=Lh (own_keep HO3.o hb5);clear hB3 hJ3 HO3 g0 g1 hb5;have hrk:=hrl.o (k:Int);generalize (jb.readers (k:Int)).length=rr at*
           cases hfi:((k:Int)==0)
           ·cases hla:((k:Int)==(l.length:Int) -1)
            ·have hn9:(y.kind !=9)=true:=by rw[bne,b9];rfl
             cases hm1:decide ((rr:Int)<1)
             ·have hmz:((rr:Int)==0)=false:=by rw[bq0];have:=of_decide_eq_false hm1;omega
              cases hm3:decide ((3:Int)<(rr:Int))
              ·cases hf2d:decide ((2:Int)<(f+1))
               ·cases hw64:decide ((64:Int)<(4*acc))
                ·have HBD:Hd (badB jb y k (f+1) (4*acc)=false):=by show _=_;rw[HBY.o];simp only[hfi,b1,hla,b9,hmz,hm3,hf2d,hw64];rfl
                 go_wp2_with fail
                 go_roundw
                 case rel=>exact⟨k+1,(f+1),ws++ [(4*acc)],by go_num,rfl,by omega,hB5,hJ5,hfz,by have:=of_decide_eq_false hf2d;omega,HO5.o,by rw[la0,HWK.o];rfl,HWBN.o _ hw0 (by have:=of_decide_eq_false hw64;omega),by rw[<-HST.o,HBD.o];rfl⟩
                 case measure=>simp[intOf];omega
                ·have HBD:Hd (badB jb y k (f+1) (4*acc)=true):=by show _=_;rw[HBY.o];simp only[hfi,b1,hla,b9,hmz,hm3,hf2d,hw64];simp
                 go_wp2_with fail
                 go_ret2;refine⟨?_,hB5⟩;rw[HM3.o,<-HST.o,HBD.o];rfl
               ·have HBD:Hd (badB jb y k (f+1) (4*acc)=true):=by show _=_;rw[HBY.o];simp only[hfi,b1,hla,b9,hmz,hm3,hf2d];simp
                go_wp2_with fail
                go_ret2;refine⟨?_,hB5⟩;rw[HM3.o,<-HST.o,HBD.o];rfl
              ·have HBD:Hd (badB jb y k (f+1) (4*acc)=true):=by show _=_;rw[HBY.o];simp only[hfi,b1,hla,b9,hmz,hm3];simp
               go_wp2_with fail
               go_ret2;refine⟨?_,hB5⟩;rw[HM3.o,<-HST.o,HBD.o];rfl
             ·have hmz:((rr:Int)==0)=true:=by rw[beq_iff_eq];have:=of_decide_eq_true hm1;omega
              have HBD:Hd (badB jb y k (f+1) (4*acc)=true):=by show _=_;rw[HBY.o];simp only[hfi,b1,hla,b9,hmz];simp
              go_wp2_with fail
              go_ret2;refine⟨?_,hB5⟩;rw[HM3.o,<-HST.o,HBD.o];rfl
            ·have hn9:(y.kind !=9)=true:=by rw[bne,b9];rfl
             have HBD:Hd (badB jb y k (f+1) (4*acc)=true):=by show _=_;rw[HBY.o];simp only[hfi,b1,hla,b9];simp
             go_wp2_with fail
             go_ret2;refine⟨?_,hB5⟩;rw[HM3.o,<-HST.o,HBD.o];rfl
           ·have HBD:Hd (badB jb y k (f+1) (4*acc)=true):=by show _=_;rw[HBY.o];simp only[hfi,b1];simp
            go_wp2_with fail
            go_ret2;refine⟨?_,hB5⟩;rw[HM3.o,<-HST.o,HBD.o];rfl
          ·have b1:(y.kind==1)=false:=by simpa using h1
           have b4:(y.kind==4)=false:=by simpa using h4
           have HW1:Hd (wayN y ws=acc):=by show _=_;rw[HWY.o,if_neg h1,if_neg h4,HSW.o]
           have HF1:Hd (flatN y f=f):=by show _=_;rw[HFL.o,if_neg h4]
           have hn1:(y.kind !=1)=true:=by rw[bne,b1];rfl
           clear h1 h4;rw[HW1.o,HF1.o]at HST;have HBY:=Lh (HBX.o f acc);have hw0:(0:Int)<=acc:=by omega
           have hfz:(0:Int)<=f:=by omega
           have hon:=own_keep hown ((Below.refl wr.heap.size wr).alloc le0 (.cells #[.int .i64 acc] 3));have hB1:=hBr.alloc (Nat.le_of_lt hbw) (.cells #[.int .i64 acc] 3);have hJ1:=hJr.alloc (.cells #[.int .i64 acc] 3)
           go_upto_region 36 with (at_builtin;refine wpList_append_own _ rfl _ _ 130 rfl (w.heap.size+1) 3 j0 (.int .i64 0) 1 8 underlying130 ki kz0 kz1 kz2 rfl (by decide) u10 k (ws.map (Value.int .i64)) rfl hon ⟨wr.heap.size,0,none⟩ 1 1 [.int .i64 acc] rfl rfl (cell_one_newJ _ _ _) (by simp[Value.oneCell']) (by unfold maxLen;omega) (by omega) (by simp;omega) ?_;intro v1' w3 hown3 hgrow3 _)
           have hB3:=hB1.grown hgrow3 (by simp;omega) (fun q hq=>by have:=(hgn q hq).1;omega);have hJ3:=hJ1.grown hgrow3 (fun e=>by have:=(hgn _ e.symm).1;omega);have HO3:Hd (w3.ownsRow (w.heap.size+1) 3 1 v1' (k+1) ((ws++ [acc]).map (Value.int .i64))):=by simpa[Hd]using hown3
           clear hgrow3 hown3 hB1 hJ1 hon hown hBr hJr g1;have g0:=hJ3.cell 0;have g1:=hJ3.cell 1
           go_upto_region 39 with (go_at_call 141;refine(HRD.o (k:Int) _ w.heap.size _ ((HJ.o.keep (hB3.mono hB)).mono hB) hB3.size).mono ?_;rintro e w5 ⟨v5,rfl,hsl5,hb5⟩;obtain⟨_,a5,cap5,rfl,hc5,hm5,_⟩:=hsl5)
           have hB5:=hB3.trans (hb5.mono hB3.size);have hJ5:=hJ3.below hb5 hJ3.lt;have HO5:=Lh (own_keep HO3.o hb5);clear hB3 hJ3 HO3 g0 g1 hb5;have hrk:=hrl.o (k:Int);generalize (jb.readers (k:Int)).length=rr at*
           cases hfi:((k:Int)==0)
           ·cases hla:((k:Int)==(l.length:Int) -1)
            ·cases b9:(y.kind==9)
             ·have hn9:(y.kind !=9)=true:=by rw[bne,b9];rfl
              cases hm1:decide ((rr:Int)<1)
              ·have hmz:((rr:Int)==0)=false:=by rw[bq0];have:=of_decide_eq_false hm1;omega
               cases hm3:decide ((3:Int)<(rr:Int))
               ·cases hf2d:decide ((2:Int)<f)
                ·cases hw64:decide ((64:Int)<acc)
                 ·have HBD:Hd (badB jb y k f acc=false):=by show _=_;rw[HBY.o];simp only[hfi,b1,hla,b9,hmz,hm3,hf2d,hw64];rfl
                  go_wp2_with fail
                  go_roundw
                  case rel=>exact⟨k+1,f,ws++ [acc],by go_num,rfl,by omega,hB5,hJ5,hfz,by have:=of_decide_eq_false hf2d;omega,HO5.o,by rw[la0,HWK.o];rfl,HWBN.o _ hw0 (by have:=of_decide_eq_false hw64;omega),by rw[<-HST.o,HBD.o];rfl⟩
                  case measure=>simp[intOf];omega
                 ·have HBD:Hd (badB jb y k f acc=true):=by show _=_;rw[HBY.o];simp only[hfi,b1,hla,b9,hmz,hm3,hf2d,hw64];simp
                  go_wp2_with fail
                  go_ret2;refine⟨?_,hB5⟩;rw[HM3.o,<-HST.o,HBD.o];rfl
                ·have HBD:Hd (badB jb y k f acc=true):=by show _=_;rw[HBY.o];simp only[hfi,b1,hla,b9,hmz,hm3,hf2d];simp
                 go_wp2_with fail
                 go_ret2;refine⟨?_,hB5⟩;rw[HM3.o,<-HST.o,HBD.o];rfl
               ·have HBD:Hd (badB jb y k f acc=true):=by show _=_;rw[HBY.o];simp only[hfi,b1,hla,b9,hmz,hm3];simp
                go_wp2_with fail
                go_ret2;refine⟨?_,hB5⟩;rw[HM3.o,<-HST.o,HBD.o];rfl
              ·have hmz:((rr:Int)==0)=true:=by rw[beq_iff_eq];have:=of_decide_eq_true hm1;omega
               have HBD:Hd (badB jb y k f acc=true):=by show _=_;rw[HBY.o];simp only[hfi,b1,hla,b9,hmz];simp
               go_wp2_with fail
               go_ret2;refine⟨?_,hB5⟩;rw[HM3.o,<-HST.o,HBD.o];rfl
             ·have hn9:(y.kind !=9)=false:=by rw[bne,b9];rfl
              have HBD:Hd (badB jb y k f acc=true):=by show _=_;rw[HBY.o];simp only[hfi,b1,hla,b9];simp
              go_wp2_with fail
              go_ret2;refine⟨?_,hB5⟩;rw[HM3.o,<-HST.o,HBD.o];rfl
            ·cases b9:(y.kind==9)
             ·have hn9:(y.kind !=9)=true:=by rw[bne,b9];rfl
              have HBD:Hd (badB jb y k f acc=true):=by show _=_;rw[HBY.o];simp only[hfi,b1,hla,b9];simp
              go_wp2_with fail
              go_ret2;refine⟨?_,hB5⟩;rw[HM3.o,<-HST.o,HBD.o];rfl
             ·have hn9:(y.kind !=9)=false:=by rw[bne,b9];rfl
              cases hm0:decide ((0:Int)<(rr:Int))
              ·obtain rfl:rr=0:=by have:=of_decide_eq_false hm0;omega
               have hmz:(((0:Nat):Int)==0)=true:=rfl;have hm3:decide ((3:Int)<((0:Nat):Int))=false:=rfl
               cases hf2d:decide ((2:Int)<f)
               ·cases hw64:decide ((64:Int)<acc)
                ·have HBD:Hd (badB jb y k f acc=false):=by show _=_;rw[HBY.o];simp only[hfi,b1,hla,b9,hmz,hm3,hf2d,hw64];rfl
                 go_wp2_with fail
                 go_roundw
                 case rel=>exact⟨k+1,f,ws++ [acc],by go_num,rfl,by omega,hB5,hJ5,hfz,by have:=of_decide_eq_false hf2d;omega,HO5.o,by rw[la0,HWK.o];rfl,HWBN.o _ hw0 (by have:=of_decide_eq_false hw64;omega),by rw[<-HST.o,HBD.o];rfl⟩
                 case measure=>simp[intOf];omega
                ·have HBD:Hd (badB jb y k f acc=true):=by show _=_;rw[HBY.o];simp only[hfi,b1,hla,b9,hmz,hm3,hf2d,hw64];simp
                 go_wp2_with fail
                 go_ret2;refine⟨?_,hB5⟩;rw[HM3.o,<-HST.o,HBD.o];rfl
               ·have HBD:Hd (badB jb y k f acc=true):=by show _=_;rw[HBY.o];simp only[hfi,b1,hla,b9,hmz,hm3,hf2d];simp
                go_wp2_with fail
                go_ret2;refine⟨?_,hB5⟩;rw[HM3.o,<-HST.o,HBD.o];rfl
              ·have hm0p:0<rr:=by have:=of_decide_eq_true hm0;omega
               have hm0n:decide (0<rr)=true:=dt0 hm0p;have hm1:decide ((rr:Int)<1)=false:=df0 (by have:=of_decide_eq_true hm0;omega);have hmz:((rr:Int)==0)=false:=by rw[bq0];have:=of_decide_eq_true hm0;omega
               have HBD:Hd (badB jb y k f acc=true):=by show _=_;rw[HBY.o];simp only[hfi,b1,hla,b9,hmz];simp
               go_wp2_with fail
               go_ret2;refine⟨?_,hB5⟩;rw[HM3.o,<-HST.o,HBD.o];rfl
           ·have HBD:Hd (badB jb y k f acc=true):=by show _=_;rw[HBY.o];simp only[hfi,b1];simp
            go_wp2_with fail
            go_ret2;refine⟨?_,hB5⟩;rw[HM3.o,<-HST.o,HBD.o];rfl
       ·have hd1:decide ((k:Int)<(l.length:Int))=false:=df0 (by omega);have hst:=hR.st;rw[List.drop_of_length_le (by omega)]at hst;simp only[st2]at hst;have HM4:Hd (mm=(0,0)):=by show _=_;rw[HM3.o,<-hst]
        go_wp2_with fail
        go_ret2;exact⟨by rw[HM4.o];rfl,hBr⟩
