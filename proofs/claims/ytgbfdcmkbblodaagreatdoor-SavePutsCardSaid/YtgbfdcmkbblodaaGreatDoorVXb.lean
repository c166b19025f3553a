/- Parts. -/
import Derived.Test.YtgbfdcmkbblodaaGreatDoorVX9
import Derived.Test.YtgbfdcmkbblodaaGreatDoorVXa
import Derived.Test.YtgbfdcmkbblodaaGreatDoorVY45
namespace Go.Proofs.YtgbfdcmkbblodaaGreatDoor
open Go.RowKit
set_option linter.unusedVariables false
set_option linter.unusedSimpArgs false
set_option maxRecDepth 100000
set_option maxHeartbeats 16000000
open Tryz
theorem rPutText_big (u:ByteArray) (hu:65536<u.size) (w:World):Calls prog 87 #[.string u] w fun e w'=>e= .returned (.tuple #[.string .empty,.int .i64 3])/\w=w':=by
 have hg:decide ((65536:Int)<(u.size:Int))=true:=dt0 (by omega);have hg2:decide (65536<u.size)=true:=dt0 hu;have hg3:(65536:Int)<(u.size:Int):=by omega
 go_enter func87,ntmps87
 go_wp2_with fail
 go_ret2;exact⟨rfl,rfl⟩
theorem rFPut_big (k:Nat) (h0:0<k) (h1:k<256) (u:ByteArray) (hu:65536<u.size) (w:World):Calls prog 89 #[.int .u8 (k:Int),.string u] w fun e w'=>e= .returned (.tuple #[.string .empty,.int .i64 3])/\w=w':=by
 have hk0:((k:Int)==0)=false:=by rw[bq0];omega
 have HT:=Lh (rPutText_big u hu w);go_enter func89,ntmps89
 go_wp2_with (first|(go_at_call 87;refine HT.o.mono ?_;rintro e w1 ⟨rfl,rfl⟩)|fail)
 go_ret2;exact⟨rfl,rfl⟩
def frR (k:Nat) (l:List UInt8):List UInt8×Int:=if l.length<=65536 then(frL k (bstr l),0)else([],3)
theorem rFPut_r (k:Nat) (h0:0<k) (h1:k<256) (l:List UInt8) (w:World):CB prog 89 #[.int .u8 (k:Int),.string (bstr l)] w (.tuple #[.string (bstr (frR k l).1),.int .i64 (frR k l).2]):=by
 unfold frR;by_cases h:l.length<=65536
 ·rw[if_pos h];exact rFPut_c k h0 h1 _ (by rw[bstr_size];exact h) w
 ·rw[if_neg h];exact(rFPut_big k h0 h1 (bstr l) (by rw[bstr_size];omega) w).mono fun e w' ⟨h1,h2⟩=>⟨h1,h2▸Below.refl _ _⟩
theorem rframe_c (k:Nat) (h0:0<k) (h1:k<256) (ah:List UInt8) (ha:ah.length<=100) (us:List ByteArray) (m:Nat) (hm:us.length=m) (h2:m<=2) (hu: ∀u∈us,u.size<=65536) (b:Nat) (w:World) (hb:b<w.heap.size) (hc: ∀j (h:j<us.length),w.cell? ⟨b,j,none⟩=some (.string us[j])):
  Calls prog 37 #[.int .u8 (k:Int),.string (bstr ah),.slice (some ⟨b,0,none⟩) m m] w fun e w'=>e= .returned (.tuple #[.string (bstr (frR k (ah++txts us)).1),.int .i64 (frR k (ah++txts us)).2])/\Below w.heap.size w w':=by
 have HC:=Lh hc;have HU:=Lh hu;have HM:Hd (us.length=m):=hm;have HBA:Hd (∀l m,bstr l++bstr m=bstr (l++m)):=bstr_app;have HSZ:Hd (∀l,(bstr l).size=l.length):=bstr_size;have HP:=Lh (rFPut_r k h0 h1 (ah++txts us));generalize frR k (ah++txts us)=R at*;clear hc hu hm;go_enter func37,ntmps37
 go_wp2_with fail
 go_loopw [1,8] (fun s q wr=> ∃(j:Nat) (acc:List UInt8),s= .string (bstr acc)/\q= .int .i64 (j:Int)/\j<=m/\acc.length<=100+65546*j/\acc++txts (us.drop j)=ah++txts us/\Below w.heap.size w wr) (fun _ q _=>m-(intOf q).toNat)
 case atStart=>exact⟨0,ah,rfl,rfl,ze0,by omega,rfl,Below.refl _ _⟩
 case round=>
  obtain⟨j,acc,rfl,rfl,hj,hal,hacc,hbr⟩:=hrel;by_cases hjl:j<m
  ·have d0:decide ((j:Int)<(m:Int))=true:=dt0 (by omega);have hju:j<us.length:=by have:=HM.o;omega
   have k0:=(hbr.cell (p:=⟨b,j,none⟩) hb).trans (HC.o j hju);have hus:=HU.o _ (List.getElem_mem hju);rw[List.drop_eq_getElem_cons hju]at hacc;generalize us[j]=u at*;have HT:Hd (CB prog 87 #[.string u] wr (.tuple #[.string (bstr (txtL u)),.int .i64 0])):=rPutText_c u hus wr;have hlen:=(txtL_len u hus).1;have hacc2:(acc++txtL u)++txts (us.drop (j+1))=ah++txts us:=by rw[<-hacc];unfold txts;rw[List.flatMap_cons,List.append_assoc]
   have HACC:=Lh hacc2;have HBR:=Lh hbr;clear hacc hacc2 hbr;generalize txtL u=T at*;have happ:bstr acc++bstr T=bstr (acc++T):=HBA.o _ _;have hsz1:(bstr acc).size<=200000:=by rw[HSZ.o];omega
   have hsz2:(bstr T).size<=200000:=by rw[HSZ.o];omega
   have HAL:Hd ((acc++T).length<=100+65546*(j+1)):=by show _<=_;rw[la0];omega
   clear hal hlen hus
   go_wp2_with (first|(go_at_call 87;refine HT.o.mono ?_;rintro e w1 ⟨rfl,hb1⟩)|fail)
   go_roundw
   case rel=>exact⟨j+1,acc++T,rfl,by go_num,hjl,HAL.o,HACC.o,HBR.o.trans (hb1.mono HBR.o.size)⟩
   case measure=>simp[intOf];omega
  ·obtain rfl:j=m:=by omega
   have d0:decide ((j:Int)<(j:Int))=false:=df0 (by omega);have e:acc=ah++txts us:=by
    rw[<-hacc,<-HM.o,List.drop_length];exact(List.append_nil _).symm
   have HPP:=Lh (HP.o wr);rw[<-e]at HPP;have HBR:=Lh hbr;clear e hacc hal hbr HP
   go_wp2_with (first|(go_at_call 89;refine HPP.o.mono ?_;rintro e w1 ⟨rfl,hb1⟩)|fail)
   go_ret2;exact⟨rfl,HBR.o.trans (hb1.mono HBR.o.size)⟩
theorem frR_state {s:Sta} (h1:s.uid.size<=65536) (h2:s.bytes.size<=65536):frR 10 ([]++txts [s.uid,s.bytes])=if stWide s=true then([],3)else(frL 10 (bstr (stL s)),0):=by
 rw[List.nil_append,txts2,stWide_eq h1 h2];unfold frR;by_cases h:(stL s).length<=65536
 ·rw[if_pos h,if_neg (by simpa using h)]
 ·rw[if_neg h,if_pos (by simpa using h)]
theorem rstate_c (s:Sta) (h1:s.uid.size<=65536) (h2:s.bytes.size<=65536) (b:Nat) (W:World) (hb:Blk W b 9 #[.string s.uid,.string s.bytes]):
  Calls prog 37 #[.int .u8 10,.string {data:=#[]},.slice (some ⟨b,0,none⟩) 2 2] W fun e w'=>e= .returned (.tuple #[.string (bstr (if stWide s=true then(([],3):List UInt8×Int)else(frL 10 (bstr (stL s)),0)).1),.int .i64 (if stWide s=true then(([],3):List UInt8×Int)else(frL 10 (bstr (stL s)),0)).2])/\Below W.heap.size W w':=by
 rw[<-frR_state h1 h2];exact rframe_c 10 (by decide) (by decide) [] (by decide) [s.uid,s.bytes] 2 rfl (by decide) (fun u hu=>by
  simp only[List.mem_cons,List.not_mem_nil,or_false]at hu
  rcases hu with rfl|rfl<;>assumption) b W hb.lt (fun j h=>by
  have hj:j<2:=h
  rcases(show j=0\/j=1 by omega)with rfl|rfl
  ·exact hb.cell 0
  ·exact hb.cell 1)
theorem rhead_c {x:Sv} (hok:x.Ok) (hmay:x.job.may.2=0) (b:Nat) (W:World) (hb:Blk W b 9 #[.string (bstr x.job.by)]):
  Calls prog 37 #[.int .u8 9,.string (bstr (putL [x.n,x.cut,(x.states.length:Int)])),.slice (some ⟨b,0,none⟩) 1 1] W fun e w'=>e= .returned (.tuple #[.string (bstr (frL 9 (bstr x.head))),.int .i64 0])/\Below W.heap.size W w':=by
 obtain⟨hj,hh⟩:=Sv.head_size hok hmay;have e:putL [x.n,x.cut,(x.states.length:Int)]++txts [bstr x.job.by]=x.head:=by rw[txts1];rfl
 have hl:(putL [x.n,x.cut,(x.states.length:Int)]).length<=30:=by
  refine putL_len [x.n,x.cut,(x.states.length:Int)] ?_;have:=hok.n;have:=hok.cut;have:=hok.many;intro z hz;simp only[List.mem_cons,List.not_mem_nil,or_false]at hz;rcases hz with rfl|rfl|rfl
  ·assumption
  ·assumption
  ·unfold I64 at*;omega
 have:=rframe_c 9 (by decide) (by decide) (putL [x.n,x.cut,(x.states.length:Int)]) (by omega) [bstr x.job.by] 1 rfl (by decide) (fun u hu=>by rw[List.mem_singleton.1 hu];exact hj) b W hb.lt (fun j h=>by
  obtain rfl:j=0:=by simpa using h
  exact hb.cell 0)
 rw[e]at this;unfold frR at this;rw[if_pos (by rw[bstr_size]at hh;exact hh)]at this;exact this
structure Sv.Fit (x:Sv):Prop where
 ok:x.Ok
 few:x.few
 us: ∀d∈x.job.nodes,d.uid.size<=1000000
 many:x.job.nodes.length<=1000
theorem rSvPut_c (x:Sv) (hf:x.Fit) (v:Value) (w:World) (hv:SvAt w v x):
  CB prog 8 #[v] w (.tuple #[.string (bstr (putSv x).1),.int .i64 (putSv x).2]):=by
 obtain⟨hok,hfew,hus,hnl⟩:=hf;obtain⟨nv,sv,rfl,hnd,hst⟩:=hv;obtain⟨a,cap,rfl,hcap,hmx⟩:=hnd.slice;obtain⟨sa,scap,rfl,hsc,hsm⟩:=hst.slice;unfold svC;have hll:x.states.length<=9223372036854775807:=hok.many;have hb1:Below w.heap.size w (w.alloc (.cells #[.int .i64 x.n,.int .i64 x.cut,.int .i64 x.job.par,.slice a x.job.nodes.length cap,.slice sa x.states.length scap] 27)):=br0.alloc le0 _;have hbox:Blk (w.alloc (.cells #[.int .i64 x.n,.int .i64 x.cut,.int .i64 x.job.par,.slice a x.job.nodes.length cap,.slice sa x.states.length scap] 27)) w.heap.size 27 #[.int .i64 x.n,.int .i64 x.cut,.int .i64 x.job.par,.slice a x.job.nodes.length cap,.slice sa x.states.length scap]:=Blk.new w _ _;have HL:=Lh (rLoad_c x.job hok.job hus hnl (.agg #[.int .i64 x.job.par,.slice a x.job.nodes.length cap]) x.states (.slice sa x.states.length scap) _ ⟨_,rfl,(hnd.keep hb1).mono hb1.size⟩ (hst.keep (fun b hb=>lt1 hb hb1.size) (fun b hb=>hb1.block b hb)) (fun s hs=>by have:=(hfew.2 s hs).2;omega));have HP:Hd (putSv x=if x.bad=true then([],2)else if(putSt x.states).2≠0 then([],(putSt x.states).2)else(frL 9 (bstr x.head)++(putSt x.states).1,0)):=rfl;have HBD:Hd (x.bad=(decide (loadE x.job x.states≠0)||(decide (x.n<1)||decide (x.cut<0)))):=rfl;have HND:=Lh hnd;have HST:=Lh hst;have HB1:=Lh hb1;have HBX:=Lh hbox;generalize putSv x=PV at*;have c2:=hbox.cell 2;have c3:=hbox.cell 3;have c4:=hbox.cell 4;clear hnd hst hb1;have hlx:loadE x.job x.states=0->x.job.may.2=0:=loadE_may;generalize loadE x.job x.states=le at*;go_enter func8,ntmps8
 go_upto_region 2 with (first|(go_at_call 35;refine HL.o.mono ?_;rintro e w1 ⟨⟨p,rfl⟩,hbl⟩)|fail)
 generalize (w.alloc (.cells #[.int .i64 x.n,.int .i64 x.cut,.int .i64 x.job.par,.slice a x.job.nodes.length cap,.slice sa x.states.length scap] 27))=W0 at*;have hbx1:=HBX.o.below hbl HBX.o.lt;have hb2:=HB1.o.trans (hbl.mono HB1.o.size);have d0:=hbx1.cell 0;have d1:=hbx1.cell 1;have HBX1:=Lh hbx1;have HB2:=Lh hb2;clear c2 c3 c4 hbox hbx1 hb2 hbl HBX HB1 HL;by_cases hle:le=0
 ·have e0:(le !=0)=false:=by simpa using hle
  by_cases hn:x.n<1
  ·have e1:decide (x.n<1)=true:=dt0 hn;have HPP:Hd (PV=([],2)):=by show _=_;rw[HP.o,if_pos (by rw[HBD.o,e1,Bool.true_or,Bool.or_true])]
   clear hle hn HP
   go_wp2_with fail
   go_ret2;exact⟨by rw[HPP.o];rfl,HB2.o⟩
  ·have e1:decide (x.n<1)=false:=df0 hn;by_cases hc:x.cut<0
   ·have e2:decide (x.cut<0)=true:=dt0 hc;have HPP:Hd (PV=([],2)):=by show _=_;rw[HP.o,if_pos (by rw[HBD.o,e2,Bool.or_true,Bool.or_true])]
    clear hle hn hc HP
    go_wp2_with fail
    go_ret2;exact⟨by rw[HPP.o];rfl,HB2.o⟩
   ·have e2:decide (x.cut<0)=false:=df0 hc;have HPP:Hd (PV=if(putSt x.states).2≠0 then([],(putSt x.states).2)else(frL 9 (bstr x.head)++(putSt x.states).1,0)):=by show _=_;rw[HP.o,if_neg (by rw[HBD.o,e1,e2,hle];decide)]
    have hmay:=hlx hle;clear hle hn hc HP HBD hlx
    go_upto_region 4 with fail
    have k2:=HBX1.o.cell 2;have k3:=HBX1.o.cell 3;have hput:x.job.putR=(x.job.by,0):=by unfold Jb.putR;rw[if_pos hmay]
    have HPJ:Hd (CB prog 36 #[.agg #[.int .i64 x.job.par,.slice a x.job.nodes.length cap]] w1 (.tuple #[.string (bstr x.job.by),.int .i64 0])):=by
     have:=rPut14_c x.job hok.job hus hnl (.agg #[.int .i64 x.job.par,.slice a x.job.nodes.length cap]) w.heap.size w1 ⟨_,rfl,HND.o.keep HB2.o⟩ HB2.o.size;rwa[hput]at this
    have HQ:=Lh (fun b W=>rhead_c hok hmay b W);have HPL:Hd (∀W:World,Calls prog 38 #[.slice (some ⟨W.heap.size,0,none⟩) 3 3] (W.alloc (.cells #[.int .i64 x.n,.int .i64 x.cut,.int .i64 (x.states.length:Int)] 2)) fun e w'=>e= .returned (.string (bstr (putL [x.n,x.cut,(x.states.length:Int)])))/\Below W.heap.size W w'):=fun W=>
     rputLit_c [x.n,x.cut,(x.states.length:Int)] 3 _ rfl rfl (by
      have:=hok.n;have:=hok.cut;have:=hok.many
      intro z hz
      simp only[List.mem_cons,List.not_mem_nil,or_false]at hz
      unfold I64 at*
      rcases hz with rfl|rfl|rfl<;>omega) (by decide) W
    have hlen0:(frL 9 (bstr x.head)).length<=70000*(0+1):=fr_len 9 _ (by have:=(Sv.head_size hok hmay).2;rwa[bstr_size]at this);clear hput hmay;generalize bstr x.job.by=jt at*
    generalize bstr (putL [x.n,x.cut,(x.states.length:Int)])=pt at*
    go_upto_region 5 with (first|(go_at_call 36;refine HPJ.o.mono ?_;rintro e w2 ⟨rfl,hb2⟩)|fail)
    have hx2:=HBX1.o.below hb2 HBX1.o.lt;have hB2:=HB2.o.trans (hb2.mono HB2.o.size);have m0:=hx2.cell 0;have m1:=hx2.cell 1;have m4:=hx2.cell 4;have HX2:=Lh hx2;have HB3:=Lh hB2;clear hx2 hB2 hb2 k2 k3 d0 d1
    go_upto_region 6 with (first
     |(go_at_call 38;refine(HPL.o _).mono ?_;rintro e w3 ⟨rfl,hb3⟩;have hB3:=HB3.o.trans (hb3.mono HB3.o.size);have hX3:=HX2.o.below hb3 HX2.o.lt;have hJ3:=Blk.new w3 #[.string jt] 9)
     |(go_at_call 37;refine(HQ.o _ _ hJ3).mono ?_;rintro e w4 ⟨rfl,hb4⟩)
     |fail)
    have hBa:=(hB3.alloc hB3.size (.cells #[.string jt] 9));have hB4:=hBa.trans (hb4.mono hBa.size);have hX4:=(hX3.alloc (.cells #[.string jt] 9)).below hb4 (hX3.alloc (.cells #[.string jt] 9)).lt;have HB4:=Lh hB4;have HX4:=Lh hX4;clear hBa hB4 hX4 hX3 hB3 hJ3 hb3 hb4 m0 m1 m4 HQ HPL HPJ HX2 HB3
    go_wp2_with fail
    go_loopw [8,9] (fun bs q wr=> ∃(j:Nat) (cur:List UInt8),bs= .string (bstr cur)/\q= .int .i64 (j:Int)/\j<=x.states.length/\Below w.heap.size w wr/\Blk wr w.heap.size 27 #[.int .i64 x.n,.int .i64 x.cut,.int .i64 x.job.par,.slice a x.job.nodes.length cap,.slice sa x.states.length scap]/\PtSt x j cur 0/\cur.length<=70000*(j+1)) (fun _ q _=>x.states.length-(intOf q).toNat)
    case atStart=>exact⟨0,frL 9 (bstr x.head),rfl,rfl,ze0,HB4.o,HX4.o,PtSt.start x,hlen0⟩
    case round=>
     obtain⟨j,cur,rfl,rfl,hj,hB,hX,hst,hcl⟩:=hrel;have b4:=hX.cell 4;by_cases hjl:j<x.states.length
     ·have f0:decide ((j:Int)<(x.states.length:Int))=true:=dt0 (by omega);obtain⟨sb,so,sc,e9,hsb,s0,s1⟩:=HST.o.at_ j hjl;obtain⟨hs1,hs2⟩:=hfew.2 _ (List.getElem_mem hjl);simp only[vs0]at e9;obtain⟨rfl,e10,rfl⟩:=e9;clear e10;have k0:=(hB.cell (p:=⟨sb,so+j*2,none⟩) hsb).trans s0;have k1:=(hB.cell (p:=⟨sb,so+j*2+1,none⟩) hsb).trans s1;have HJL:=Lh hjl;have hcur:cur.length<=10000000000000:=by have:=hfew.1;omega
      have HFR:=Lh (fun(b:Nat) (W:World) (h:Blk W b 9 #[.string x.states[j].uid,.string x.states[j].bytes])=>rstate_c _ hs1 hs2 b W h);have HOK:Hd (stWide x.states[j]=false->PtSt x (j+1) (cur++frL 10 (bstr (stL x.states[j]))) 0/\(cur++frL 10 (bstr (stL x.states[j]))).length<=70000*(j+1+1)):=fun h=>⟨hst.step hjl h,by
       have h3:=fr_len 10 (stL x.states[j]) (by have:=of_decide_eq_false ((stWide_eq hs1 hs2).symm.trans h);omega)
       rw[la0]
       omega⟩
      have HFZ:Hd (stWide x.states[j]=false->(frL 10 (bstr (stL x.states[j]))).length<=70000):=fun h=>fr_len 10 (stL x.states[j]) (by have:=of_decide_eq_false ((stWide_eq hs1 hs2).symm.trans h);omega);have HNO:Hd (stWide x.states[j]=true->(putSt x.states).2=3):=fun h=>by
       rcases hst.wide hjl h cur with ⟨h,_⟩|⟨_,h⟩
       ·cases h
       ·exact h
      have HB:=Lh hB;have HX:=Lh hX;have HCC:Hd (∀W,Below wr.heap.size wr W->W.cell? ⟨w.heap.size,4,none⟩=some (.slice (some ⟨sb,so,none⟩) x.states.length scap)/\W.cell? ⟨sb,so+j*2,none⟩=some (.string x.states[j].uid)/\W.cell? ⟨sb,so+j*2+1,none⟩=some (.string x.states[j].bytes)):=fun W hb=>
       ⟨(hX.below hb hX.lt).cell 4,(hb.cell (p:=⟨sb,so+j*2,none⟩) (lt1 hsb hB.size)).trans k0,(hb.cell (p:=⟨sb,so+j*2+1,none⟩) (lt1 hsb hB.size)).trans k1⟩
      clear hB hX s0 s1 hst hcl hs1 hs2 k0 k1;generalize x.states[j]=s at*
      go_upto_region 11 with fail
      have hb:Below wr.heap.size wr wr.drew:=br0.drew;rcases hw:stWide s with _|_
      ·have hok2:=HOK.o hw;have hz2:=HFZ.o hw;have HFR2:Hd (∀b W,Blk W b 9 #[.string s.uid,.string s.bytes]->Calls prog 37 #[.int .u8 10,.string {data:=#[]},.slice (some ⟨b,0,none⟩) 2 2] W fun e w'=>e= .returned (.tuple #[.string (bstr (frL 10 (bstr (stL s)))),.int .i64 0])/\Below W.heap.size W w'):=fun b W h=>by
        have:=HFR.o b W h;rwa[if_neg (by rw[hw];decide)]at this
       have HOK2:=Lh hok2;clear hw hok2 HOK HFZ HNO HFR;generalize frL 10 (bstr (stL s))=F at*;have happ:=bstr_app cur F;have hsz1:(bstr cur).size<=10000000000000:=by rw[bstr_size];exact hcur
       have hsz2:(bstr F).size<=70000:=by rw[bstr_size];exact hz2
       refine wp_region_held_drew (S:=(fun w'=>Below wr.heap.size wr w')) (by kernel_rfl) ?_ (fun hHeld=>tk0 ?_)
       ·exact hb
       generalize wr.drew=wd0 at*
       repeat' first
        |refine tkN ?_
        |(refine tkX ?_;try simp only[Act.put,tkA,tkB,tkC,tkD,tkE,tkF])
        |(refine tkt (v:=?_) (by decide+kernel) rfl (by rfl) (fun _ _ _ h=>h) (by assumption) ?_ ?_;rotate_left;(· intro w' hSw;(try dsimp only at hSw);obtain⟨z0,z1,z2⟩:=HCC.o _ hSw;clear hSw;go_simp;(try with_reducible rfl));try simp only[Act.put,tkA,tkB,tkC,tkD,tkE,tkF])
        |refine tkM ?_
        |refine tkZ ?_
        |refine tkB1 ?_
        |refine brN ?_
        |exact brE
        |refine brc rfl (fun K hK=>?_) ?_
        |(replace hK:=hK;refine opD 76 (by decide+kernel) ?_;go_simp;have hX2:=Blk.new wd0 #[.string s.uid,.string s.bytes] 9;replace hb:=hb.alloc hb.size (.cells #[.string s.uid,.string s.bytes] 9);refine hK.out _ _ ?_ (fun hHeld=>?_);(· exact hb);clear hK K;try simp only[Act.put,tkA,tkB,tkC,tkD,tkE,tkF])
        |(replace hK:=hK;go_simp;go_at_call 37;refine(HFR2.o _ _ hX2).mono ?_;rintro e w5 ⟨rfl,hb5⟩;replace hb:=hb.trans (hb5.mono hb.size);refine hK.out _ _ ?_ (fun hHeld=>?_);(· exact hb);clear hK K;try simp only[Act.put,tkA,tkB,tkC,tkD,tkE,tkF])
        |fail
       have hB5:=HB.o.trans (hb.mono HB.o.size);have hX5:=HX.o.below hb HX.o.lt;clear hb hX2 HCC
       go_wp2_with fail
       go_roundw
       case rel=>exact⟨j+1,cur++F,rfl,by go_num,HJL.o,hB5,hX5,HOK2.o.1,HOK2.o.2⟩
       case measure=>have:=HJL.o;simp[intOf];omega
      ·have HPR:Hd (PV=([],3)):=by show _=_;rw[HPP.o,HNO.o hw,if_pos (by decide)]
       have HFR2:Hd (∀b W,Blk W b 9 #[.string s.uid,.string s.bytes]->CB prog 37 #[.int .u8 10,.string {data:=#[]},.slice (some ⟨b,0,none⟩) 2 2] W (.tuple #[.string (bstr []),.int .i64 3])):=fun b W h=>by
        have:=HFR.o b W h;rwa[if_pos hw]at this
       clear hw HOK HFZ HNO HFR HPP;refine wp_region_held_drew (S:=(fun w'=>Below wr.heap.size wr w')) (by kernel_rfl) ?_ (fun hHeld=>tk0 ?_)
       ·exact hb
       generalize wr.drew=wd0 at*
       repeat' first
        |refine tkN ?_
        |(refine tkX ?_;try simp only[Act.put,tkA,tkB,tkC,tkD,tkE,tkF])
        |(refine tkt (v:=?_) (by decide+kernel) rfl (by rfl) (fun _ _ _ h=>h) (by assumption) ?_ ?_;rotate_left;(· intro w' hSw;(try dsimp only at hSw);obtain⟨z0,z1,z2⟩:=HCC.o _ hSw;clear hSw;go_simp;(try with_reducible rfl));try simp only[Act.put,tkA,tkB,tkC,tkD,tkE,tkF])
        |refine tkM ?_
        |refine tkZ ?_
        |refine tkB1 ?_
        |refine brN ?_
        |exact brE
        |refine brc rfl (fun K hK=>?_) ?_
        |(replace hK:=hK;refine opD 76 (by decide+kernel) ?_;go_simp;have hX2:=Blk.new wd0 #[.string s.uid,.string s.bytes] 9;replace hb:=hb.alloc hb.size (.cells #[.string s.uid,.string s.bytes] 9);refine hK.out _ _ ?_ (fun hHeld=>?_);(· exact hb);clear hK K;try simp only[Act.put,tkA,tkB,tkC,tkD,tkE,tkF])
        |(replace hK:=hK;go_simp;go_at_call 37;refine(HFR2.o _ _ hX2).mono ?_;rintro e w5 ⟨rfl,hb5⟩;replace hb:=hb.trans (hb5.mono hb.size);refine hK.out _ _ ?_ (fun hHeld=>?_);(· exact hb);clear hK K;try simp only[Act.put,tkA,tkB,tkC,tkD,tkE,tkF])
        |fail
       have hB5:=HB.o.trans (hb.mono HB.o.size);clear hb hX2 HCC
       go_wp2_with fail
       go_ret2;exact⟨by rw[HPR.o];rfl,hB5⟩
     ·obtain rfl:j=x.states.length:=by omega
      have f0:decide ((x.states.length:Int)<(x.states.length:Int))=false:=df0 (by omega);have HPR:Hd (PV=(cur,0)):=by
       show _=_;rcases hst.done with ⟨_,h1,h2⟩|⟨h,_⟩
       ·rw[HPP.o,if_neg (by simpa using h2),h1]
       ·cases h
      have HB:=Lh hB;clear hst hcl hB hX HPP
      go_wp2_with fail
      go_ret2;exact⟨by rw[HPR.o];rfl,HB.o⟩
 ·have e0:(le !=0)=true:=by simpa using hle
  have HPP:Hd (PV=([],2)):=by show _=_;rw[HP.o,if_pos (by rw[HBD.o,dt0 hle];rfl)]
  clear hle HP
  go_wp2_with fail
  go_ret2;exact⟨by rw[HPP.o];rfl,HB2.o⟩
