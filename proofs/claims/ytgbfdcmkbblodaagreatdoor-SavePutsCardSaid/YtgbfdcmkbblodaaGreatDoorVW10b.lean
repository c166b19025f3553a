/- Parts. -/
import Derived.Test.YtgbfdcmkbblodaaGreatDoorVW10a
namespace Go.Proofs.YtgbfdcmkbblodaaGreatDoor
open Go.RowKit
set_option linter.unusedVariables false
set_option linter.unusedSimpArgs false
set_option maxRecDepth 100000
set_option maxHeartbeats 16000000
open Tryz
theorem may_len (jb:Jb) (h:jb.may.2=0):jb.argB=false:=by
 cases hb:jb.argB
 ·rfl
 ·unfold Jb.may at h;rw[if_pos hb]at h;simp at h
def sT:ByteArray:={data:=#[116]}
def heavyGo:List Nd->Int->Bool
 | [],_=>false
 |d::l,n=>decide (40<(d.ins.length:Int))||(decide (1000<(d.uid.size:Int))||(decide (3000<n+(d.x.size:Int))||heavyGo l (n+(d.x.size:Int))))
def Jb.heavyB (j:Jb):Bool:=decide (40<(j.nodes.length:Int))||heavyGo j.nodes 0
theorem Heavy_c (jb:Jb) (v:Value) (B:Nat) (w:World) (hv:JbAt w B v jb) (hB:B<=w.heap.size):
  CB prog 69 #[v] w (.bool jb.heavyB):=by
 obtain⟨sv,rfl,hs⟩:=hv;obtain⟨a,cap,rfl,hcap,hmx⟩:=hs.slice;have HS:=Lh hs;have hlm:jb.nodes.length<=9223372036854775807:=by unfold maxLen at hmx;omega
 have HE:Hd (jb.heavyB=(decide (40<(jb.nodes.length:Int))||heavyGo jb.nodes 0)):=rfl;generalize jb.heavyB=hv at*;generalize jb.nodes=l at*;generalize jb.par=par at*;clear hs;have hW:=(Below.refl w.heap.size w).alloc le0 (.cells #[.int .i64 par,.slice a l.length cap] 24)
 cases h40:decide (40<(l.length:Int))
 ·have HE2:Hd (hv=heavyGo l 0):=by show _=_;rw[HE.o,h40];rfl
  have h40':l.length<=40:=by have:=of_decide_eq_false h40;omega
  go_enter func69,ntmps69
  go_wp2_with fail
  generalize World.alloc w _=W at*
  go_loopw [3,13] (fun s q wr=> ∃(k:Nat) (n:Int),q= .int .i64 k/\s= .int .i64 n/\k<=l.length/\0<=n/\n<=3000/\Below w.heap.size w wr/\heavyGo (l.drop k) n=heavyGo l 0) (fun _ q _=>l.length-(intOf q).toNat)
  case atStart=>exact⟨0,0,rfl,rfl,ze0,by omega,by omega,hW,rfl⟩
  case round=>
   obtain⟨k,n,rfl,rfl,hk,hn0,hn1,hBr,hr⟩:=hrel;by_cases hlt:k<l.length
   ·obtain⟨b,off,cp,e1,hb,hu,iv,sv,c0,c1,c2,c3,c4,c5,c6,hin⟩:=((HS.o.mono hB).keep hBr).at_ k hlt;simp only[vs0,true_and]at e1;obtain⟨rfl,rfl⟩:=e1;obtain⟨a2,cap2,rfl,_,_⟩:=hin.2.slice;obtain⟨_,ai,capi,rfl,_,_,_⟩:=id hin.1;rw[List.drop_eq_getElem_cons hlt]at hr;simp only[heavyGo]at hr;have hx: ∀X,Below wr.heap.size wr X->ExAt X X.heap.size (.agg #[.int .u8 (l[k]'hlt).x.op,.int .i64 (l[k]'hlt).x.n,.slice a2 (l[k]'hlt).x.args.length cap2]) (l[k]'hlt).x:=fun X hX=>⟨_,rfl,(hin.2.keep (hX.mono hBr.size)).mono (le1 hBr.size hX.size)⟩;have hsz:=Ex.size_le (l[k]'hlt).x;generalize l[k]=y at*;have HX:=Lh hx;have HR:=Lh hr;rename_i hx1 hx2 hx3;clear hr hin hx hx1 hx2 hx3;have hbw:w.heap.size<=wr.heap.size:=hBr.size;have hNn:=Blk.new wr #[.string y.uid,.int .u8 y.kind,.slice ai y.ins.length capi,.int .u8 y.x.op,.int .i64 y.x.n,.slice a2 y.x.args.length cap2,.int .i64 y.n] 135;have hBn:=hBr.alloc hbw (.cells #[.string y.uid,.int .u8 y.kind,.slice ai y.ins.length capi,.int .u8 y.x.op,.int .i64 y.x.n,.slice a2 y.x.args.length cap2,.int .i64 y.n] 135);have hX2:=Lh (HX.o _ (br0.alloc le0 (.cells #[.string y.uid,.int .u8 y.kind,.slice ai y.ins.length capi,.int .u8 y.x.op,.int .i64 y.x.n,.slice a2 y.x.args.length cap2,.int .i64 y.n] 135)));generalize hzz:y.x.size=z at*;have HZ:=Lh hzz;clear hzz;have hcs:(decide (40<(y.ins.length:Int))=true)\/(decide (40<(y.ins.length:Int))=false/\decide (1000<(y.uid.size:Int))=true)\/(decide (40<(y.ins.length:Int))=false/\decide (1000<(y.uid.size:Int))=false/\decide (3000<n+(z:Int))=true)\/
      (decide (40<(y.ins.length:Int))=false/\decide (1000<(y.uid.size:Int))=false/\decide (3000<n+(z:Int))=false):=by
     cases decide (40<(y.ins.length:Int))<;>cases decide (1000<(y.uid.size:Int))<;>cases decide (3000<n+(z:Int))<;>simp
    rcases hcs with h1|⟨h1,h2⟩|⟨h1,h2,h3⟩|⟨h1,h2,h3⟩
    all_goals
     go_upto_region 7 with fail
     generalize World.alloc wr _=W2 at*;have n3:=hNn.cell 3;have n4:=hNn.cell 4;have n5:=hNn.cell 5
     go_wp2_with (go_at_call 123;refine(Size_c y.x _ _ _ hX2.o le0).mono ?_;rintro e w3 ⟨rfl,hb3⟩;rw[HZ.o];have hN3:=hNn.below hb3 hNn.lt;have m0:=hN3.cell 0;have m2:=hN3.cell 2)
    ·go_ret;exact⟨ret_bool (by rw[HE2.o,<-HR.o,h1];rfl),hBn.trans (hb3.mono hBn.size)⟩
    ·go_ret;exact⟨ret_bool (by rw[HE2.o,<-HR.o,h1,h2];rfl),hBn.trans (hb3.mono hBn.size)⟩
    ·go_ret;exact⟨ret_bool (by rw[HE2.o,<-HR.o,h1,h2,h3];rfl),hBn.trans (hb3.mono hBn.size)⟩
    ·have h3':n+(z:Int)<=3000:=by have:=of_decide_eq_false h3;omega
     go_roundw
     case rel=>exact⟨k+1,n+(z:Int),by go_num,rfl,by omega,by omega,h3',hBn.trans (hb3.mono hBn.size),by rw[<-HR.o,h1,h2,h3];rfl⟩
     case measure=>simp[intOf];omega
   ·rw[List.drop_of_length_le (by omega)]at hr;have HR:=Lh hr;clear hr;go_wp2;go_ret;exact⟨ret_bool (by rw[HE2.o,<-HR.o];rfl),hBr⟩
 ·have HE2:Hd (hv=true):=by show _=_;rw[HE.o,h40];rfl
  go_enter func69,ntmps69;go_wp2;go_ret;exact⟨ret_bool HE2.o.symm,hW⟩

