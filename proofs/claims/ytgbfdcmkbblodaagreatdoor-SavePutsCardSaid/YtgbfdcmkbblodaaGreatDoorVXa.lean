/- Parts. -/
import Derived.Test.YtgbfdcmkbblodaaGreatDoorVX8
namespace Go.Proofs.YtgbfdcmkbblodaaGreatDoor
open Go.RowKit
set_option linter.unusedVariables false
set_option linter.unusedSimpArgs false
set_option maxRecDepth 100000
set_option maxHeartbeats 16000000
open Tryz
theorem txts1 (u:ByteArray):txts [u]=txtL u:=by unfold txts;rw[List.flatMap_cons,List.flatMap_nil,List.append_nil]
theorem txts2 (s:Sta):txts [s.uid,s.bytes]=stL s:=by unfold txts stL;rw[List.flatMap_cons,List.flatMap_cons,List.flatMap_nil,List.append_nil]
theorem empty_app' (t:ByteArray):ByteArray.empty++t=t:=by
 apply ByteArray.ext;rw[ByteArray.data_append];simp
structure PtAt (w:World) (SB BB:Nat) (cs:Array Value) (cur:ByteArray) (wr:World):Prop where
 below:Below w.heap.size w wr
 box:Blk wr SB 27 cs
 buf:Blk wr BB 9 #[.string cur]
 ge:w.heap.size<=BB
 ne:SB≠BB
namespace PtAt
variable {w wr wx:World} {SB BB:Nat} {cs:Array Value} {cur cur2:ByteArray}
theorem more (h:PtAt w SB BB cs cur wr) (hb:Below wr.heap.size wr wx):PtAt w SB BB cs cur wx:=
 ⟨h.below.trans (hb.mono h.below.size),h.box.below hb h.box.lt,h.buf.below hb h.buf.lt,h.ge,h.ne⟩
theorem put (h:PtAt w SB BB cs cur wr) (hf:Fr (fun i=>i=BB) wr wx) (hm:Blk wx BB 9 #[.string cur2]):PtAt w SB BB cs cur2 wx:=
 ⟨h.below.trans (hf.below h.below.size (fun k hk e=>by have:=h.ge;omega)),h.box.fr hf h.ne,hm,h.ge,h.ne⟩
end PtAt
def PtSt (x:Sv) (j:Nat) (cur:List UInt8) (e:Int):Prop:=
 (e=0/\cur++(putSt (x.states.drop j)).1=frL 9 (bstr x.head)++(putSt x.states).1/\(putSt (x.states.drop j)).2=(putSt x.states).2)\/(e=3/\(putSt x.states).2=3)
theorem putSt_ok {s:Sta} {l:List Sta} (h:stWide s=false):putSt (s::l)=(frL 10 (bstr (stL s))++(putSt l).1,(putSt l).2):=by
 conv=>lhs;rw[putSt]
 rw[if_neg (by rw[h];decide)]
theorem putSt_wide {s:Sta} {l:List Sta} (h:stWide s=true):putSt (s::l)=([],3):=by
 conv=>lhs;rw[putSt]
 rw[if_pos h]
theorem PtSt.start (x:Sv):PtSt x 0 (frL 9 (bstr x.head)) 0:= .inl ⟨rfl,rfl,rfl⟩
theorem PtSt.step {x:Sv} {j:Nat} {cur:List UInt8} (h:PtSt x j cur 0) (hj:j<x.states.length) (hw:stWide x.states[j]=false):PtSt x (j+1) (cur++frL 10 (bstr (stL x.states[j]))) 0:=by
 rcases h with ⟨_,h1,h2⟩|⟨h,_⟩
 ·rw[List.drop_eq_getElem_cons hj,putSt_ok hw]at h1 h2;exact .inl ⟨rfl,by rw[List.append_assoc];exact h1,h2⟩
 ·cases h
theorem PtSt.wide {x:Sv} {j:Nat} {cur:List UInt8} (h:PtSt x j cur 0) (hj:j<x.states.length) (hw:stWide x.states[j]=true) (c2:List UInt8):PtSt x (j+1) c2 3:=by
 rcases h with ⟨_,h1,h2⟩|⟨h,_⟩
 ·rw[List.drop_eq_getElem_cons hj,putSt_wide hw]at h2;exact .inr ⟨rfl,h2.symm⟩
 ·cases h
theorem PtSt.same {x:Sv} {j:Nat} {cur:List UInt8} (h:PtSt x j cur 3):PtSt x (j+1) cur 3:=by
 rcases h with ⟨h,_⟩|⟨_,h⟩
 ·cases h
 ·exact .inr ⟨rfl,h⟩
theorem PtSt.done {x:Sv} {cur:List UInt8} {e:Int} (h:PtSt x x.states.length cur e):(e=0/\cur=frL 9 (bstr x.head)++(putSt x.states).1/\(putSt x.states).2=0)\/(e=3/\(putSt x.states).2=3):=by
 rcases h with ⟨h0,h1,h2⟩|h
 ·rw[List.drop_length]at h1 h2;refine .inl ⟨h0,?_,h2.symm⟩;rw[<-h1];exact(List.append_nil _).symm
 ·exact .inr h
theorem PtSt.kind {x:Sv} {j:Nat} {cur:List UInt8} {e:Int} (h:PtSt x j cur e):e=0\/e=3:=h.elim (fun h=> .inl h.1) (fun h=> .inr h.1)
theorem stWide_eq {s:Sta} (h1:s.uid.size<=65536) (h2:s.bytes.size<=65536):stWide s=decide (65536<(stL s).length):=by
 unfold stWide;rw[df0 (by omega),df0 (by omega)];rfl
theorem cells1 (W:World) (u:ByteArray): ∀j (h:j< [u].length),(W.alloc (.cells #[.string u] 9)).cell? ⟨W.heap.size,j,none⟩=some (.string [u][j]):=by
 intro j h;have hj:j=0:=by simpa using h
 subst hj;exact(Blk.new W #[.string u] 9).cell 0
theorem cells2 (W:World) (u v:ByteArray): ∀j (h:j< [u,v].length),(W.alloc (.cells #[.string u,.string v] 9)).cell? ⟨W.heap.size,j,none⟩=some (.string [u,v][j]):=by
 intro j h;have hj:j<2:=h;rcases(show j=0\/j=1 by omega)with rfl|rfl
 ·exact(Blk.new W #[.string u,.string v] 9).cell 0
 ·exact(Blk.new W #[.string u,.string v] 9).cell 1
theorem fr_len (k:Nat) (l:List UInt8) (h:l.length<=65536):(frL k (bstr l)).length<=70000:=by
 have:=(txtL_len (bstr l) (by rw[bstr_size];exact h)).1;rw[bstr_size]at this;rw[frL_len];omega
theorem put_head {x:Sv} (hok:x.Ok) (hmay:x.job.may.2=0) (w:World) (SB BB:Nat) (cs:Array Value) (W:World) (h:PtAt w SB BB cs .empty W):
  Calls prog 30 #[.int .u8 9,.string (bstr (putL [x.n,x.cut,(x.states.length:Int)])),.slice (some ⟨W.heap.size,0,none⟩) 1 1,.pointer (some ⟨BB,0,none⟩)] (W.alloc (.cells #[.string (bstr x.job.by)] 9)) fun e w'=>e= .returned (.int .i64 0)/\PtAt w SB BB cs (bstr (frL 9 (bstr x.head))) w':=by
 obtain⟨hj,hh⟩:=Sv.head_size hok hmay;have h1:=h.more (br0.alloc le0 (.cells #[.string (bstr x.job.by)] 9));have e:putL [x.n,x.cut,(x.states.length:Int)]++txts [bstr x.job.by]=x.head:=by rw[txts1];rfl
 refine(put1_ok 9 (by decide) (by decide) (putL [x.n,x.cut,(x.states.length:Int)]) [bstr x.job.by] 1 rfl (by decide) (fun u hu=>by rw[List.mem_singleton.1 hu];exact hj) W.heap.size BB .empty _ (by simp) (cells1 W _) h1.buf (by decide) (by rw[e];rw[bstr_size]at hh;exact hh)).mono ?_;rintro e2 w2 ⟨rfl,hb,hf⟩;rw[e,empty_app']at hb;exact⟨rfl,h1.put hf hb⟩
theorem put_state (s:Sta) (h1:s.uid.size<=65536) (h2:s.bytes.size<=65536) (cur:List UInt8) (hc:cur.length<=10000000000000) (w:World) (SB BB:Nat) (cs:Array Value) (W:World) (h:PtAt w SB BB cs (bstr cur) W):
  Calls prog 30 #[.int .u8 10,.string {data:=#[]},.slice (some ⟨W.heap.size,0,none⟩) 2 2,.pointer (some ⟨BB,0,none⟩)] (W.alloc (.cells #[.string s.uid,.string s.bytes] 9)) fun e w'=>(stWide s=false/\e= .returned (.int .i64 0)/\PtAt w SB BB cs (bstr (cur++frL 10 (bstr (stL s)))) w')\/(stWide s=true/\e= .returned (.int .i64 3)/\PtAt w SB BB cs (bstr cur) w'):=by
 have h3:=h.more (br0.alloc le0 (.cells #[.string s.uid,.string s.bytes] 9));have hu: ∀u∈ [s.uid,s.bytes],u.size<=65536:=by
  intro u hu;simp only[List.mem_cons,List.not_mem_nil,or_false]at hu;rcases hu with rfl|rfl<;>assumption
 have e:([]:List UInt8)++txts [s.uid,s.bytes]=stL s:=by rw[List.nil_append,txts2]
 have hw:=stWide_eq h1 h2;by_cases hT:(stL s).length<=65536
 ·refine(put1_ok 10 (by decide) (by decide) [] [s.uid,s.bytes] 2 rfl (by decide) hu W.heap.size BB (bstr cur) _ (by simp) (cells2 W _ _) h3.buf (by rw[bstr_size];exact hc) (by rw[e];exact hT)).mono ?_;rintro e2 w2 ⟨rfl,hb,hf⟩;rw[e,bstr_app]at hb;exact .inl ⟨by rw[hw,df0 (by omega)],rfl,h3.put hf hb⟩
 ·refine(put1_big 10 (by decide) (by decide) [] (by simp) [s.uid,s.bytes] 2 rfl (by decide) hu W.heap.size BB (bstr cur) _ (by simp) (cells2 W _ _) h3.buf (by rw[bstr_size];exact hc) (by rw[e];omega)).mono ?_;rintro e2 w2 ⟨rfl,hb,hf⟩;exact .inr ⟨by rw[hw,dt0 (by omega)],rfl,h3.put hf hb⟩
def Sv.few (x:Sv):Prop:=x.states.length<=1000000/\ ∀s∈x.states,s.uid.size<=65536/\s.bytes.size<=65536
def SvAt (w:World) (v:Value) (x:Sv):Prop:= ∃nv sv,v= .agg (svC x nv sv)/\NodesAt w w.heap.size x.job.nodes nv/\StaRd w (· <w.heap.size) sv x.states
theorem SvPut_c (x:Sv) (hok:x.Ok) (hfew:x.few) (v:Value) (w:World) (hv:SvAt w v x):
  CB prog 7 #[v] w (.tuple #[.string (bstr (putSv x).1),.int .i64 (putSv x).2]):=by
 obtain⟨nv,sv,rfl,hnd,hst⟩:=hv;obtain⟨a,cap,rfl,hcap,hmx⟩:=hnd.slice;obtain⟨sa,scap,rfl,hsc,hsm⟩:=hst.slice;have hmf: ∀(fn:Fn) (first cap:Array Value) (w:World),(Instr.makeFunc fn first cap).run prog w= .ok (.func fn first cap) w:=fun _ _ _ _=>rfl;unfold svC;have hll:x.states.length<=9223372036854775807:=hok.many;have hb1:Below w.heap.size w (w.alloc (.cells #[.int .i64 x.n,.int .i64 x.cut,.int .i64 x.job.par,.slice a x.job.nodes.length cap,.slice sa x.states.length scap] 27)):=br0.alloc le0 _;have hbox:Blk (w.alloc (.cells #[.int .i64 x.n,.int .i64 x.cut,.int .i64 x.job.par,.slice a x.job.nodes.length cap,.slice sa x.states.length scap] 27)) w.heap.size 27 #[.int .i64 x.n,.int .i64 x.cut,.int .i64 x.job.par,.slice a x.job.nodes.length cap,.slice sa x.states.length scap]:=Blk.new w _ _;have HL:=Lh (Load_c x.job (.agg #[.int .i64 x.job.par,.slice a x.job.nodes.length cap]) x.states (.slice sa x.states.length scap) _ ⟨_,rfl,(hnd.keep hb1).mono hb1.size⟩ (hst.keep (fun b hb=>lt1 hb hb1.size) (fun b hb=>hb1.block b hb)) (fun s hs=>by have:=(hfew.2 s hs).2;omega));have HP:Hd (putSv x=if x.bad=true then([],2)else if(putSt x.states).2≠0 then([],(putSt x.states).2)else(frL 9 (bstr x.head)++(putSt x.states).1,0)):=rfl;have HBD:Hd (x.bad=(decide (loadE x.job x.states≠0)||(decide (x.n<1)||decide (x.cut<0)))):=rfl;have HND:=Lh hnd;have HST:=Lh hst;have HB1:=Lh hb1;have HBX:=Lh hbox;generalize putSv x=PV at*;have c0:=hbox.cell 0;have c2:=hbox.cell 2;have c3:=hbox.cell 3;have c4:=hbox.cell 4;clear hnd hst hb1;have hlx:loadE x.job x.states=0->x.job.may.2=0:=loadE_may;generalize loadE x.job x.states=le at*;go_enter func7,ntmps7
 go_upto_region 2 with (first|(go_at_call 29;refine HL.o.mono ?_;rintro e w1 ⟨⟨p,rfl⟩,hbl⟩)|fail)
 generalize (w.alloc (.cells #[.int .i64 x.n,.int .i64 x.cut,.int .i64 x.job.par,.slice a x.job.nodes.length cap,.slice sa x.states.length scap] 27))=W0 at*;have hbx1:=HBX.o.below hbl HBX.o.lt;have hb2:=HB1.o.trans (hbl.mono HB1.o.size);have d0:=hbx1.cell 0;have d1:=hbx1.cell 1;have HBX1:=Lh hbx1;have HB2:=Lh hb2;clear c0 c2 c3 c4 hbox hbx1 hb2 hbl HBX HB1 HL;by_cases hle:le=0
 ·have e0:(le !=0)=false:=by simpa using hle
  by_cases hn:x.n<1
  ·have e1:decide (x.n<1)=true:=dt0 hn;have HPP:Hd (PV=([],2)):=by show _=_;rw[HP.o,if_pos (by rw[HBD.o,e1,Bool.true_or,Bool.or_true])]
   clear hle hn HP
   go_wp2_with fail
   go_ret2;exact⟨by rw[HPP.o];rfl,HB2.o⟩
  ·have e1:decide (x.n<1)=false:=df0 hn;by_cases hc:x.cut<0
   ·have e2:decide (x.cut<0)=true:=dt0 hc;have HPP:Hd (PV=([],2)):=by show _=_;rw[HP.o,if_pos (by rw[HBD.o,e2,Bool.or_true,Bool.or_true])]
    clear hle hn hc HP
    go_wp2_with fail
    go_ret2;exact⟨by rw[HPP.o];rfl,HB2.o⟩
   ·have e2:decide (x.cut<0)=false:=df0 hc;have HPP:Hd (PV=if(putSt x.states).2≠0 then([],(putSt x.states).2)else(frL 9 (bstr x.head)++(putSt x.states).1,0)):=by show _=_;rw[HP.o,if_neg (by rw[HBD.o,e1,e2,hle];decide)]
    have hmay:=hlx hle;clear hle hn hc HP HBD hlx
    go_upto_region 6 with fail
    have hPA:PtAt w w.heap.size w1.heap.size #[.int .i64 x.n,.int .i64 x.cut,.int .i64 x.job.par,.slice a x.job.nodes.length cap,.slice sa x.states.length scap] .empty (w1.alloc (.cells #[.string {data:=#[]}] 9)):=
     ⟨HB2.o.alloc HB2.o.size _,HBX1.o.alloc _,Blk.new w1 _ _,HB2.o.size,Nat.ne_of_lt HBX1.o.lt⟩
    have HPA:=Lh hPA;clear hPA HB2 HBX1 d0 d1;generalize w1.heap.size=BB at*;generalize (w1.alloc (.cells #[.string {data:=#[]}] 9))=W1 at*;have k2:=HPA.o.box.cell 2;have k3:=HPA.o.box.cell 3;have hput:x.job.putR=(x.job.by,0):=by unfold Jb.putR;rw[if_pos hmay]
    have HPP2:Hd (CB prog 33 #[.agg #[.int .i64 x.job.par,.slice a x.job.nodes.length cap]] W1 (.tuple #[.string (bstr x.job.by),.int .i64 0])):=by
     have:=PackPut_c x.job hok.job (.agg #[.int .i64 x.job.par,.slice a x.job.nodes.length cap]) w.heap.size W1 ⟨_,rfl,HND.o.keep HPA.o.below⟩ HPA.o.below.size;rwa[hput]at this
    have HQ:=Lh (put_head hok hmay w w.heap.size BB #[.int .i64 x.n,.int .i64 x.cut,.int .i64 x.job.par,.slice a x.job.nodes.length cap,.slice sa x.states.length scap]);have HPL:Hd (∀W:World,Calls prog 34 #[.slice (some ⟨W.heap.size,0,none⟩) 3 3] (W.alloc (.cells #[.int .i64 x.n,.int .i64 x.cut,.int .i64 (x.states.length:Int)] 2)) fun e w'=>e= .returned (.string (bstr (putL [x.n,x.cut,(x.states.length:Int)])))/\Below W.heap.size W w'):=fun W=>
     putLit_c [x.n,x.cut,(x.states.length:Int)] 3 _ rfl rfl (by
      have:=hok.n;have:=hok.cut;have:=hok.many
      intro z hz
      simp only[List.mem_cons,List.not_mem_nil,or_false]at hz
      unfold I64 at*
      rcases hz with rfl|rfl|rfl<;>omega) (by decide) W
    have hlen0:(frL 9 (bstr x.head)).length<=70000*(0+1):=fr_len 9 _ (by have:=(Sv.head_size hok hmay).2;rwa[bstr_size]at this);clear hput hmay;generalize bstr x.job.by=jt at*
    generalize bstr (putL [x.n,x.cut,(x.states.length:Int)])=pt at*
    go_upto_region 7 with (first|(go_at_call 33;refine HPP2.o.mono ?_;rintro e w2 ⟨rfl,hb2⟩)|fail)
    have hA2:=HPA.o.more hb2;have m0:=hA2.box.cell 0;have m1:=hA2.box.cell 1;have m4:=hA2.box.cell 4;have HA2:=Lh hA2;clear hA2 hb2 k2 k3
    go_upto_region 8 with (first
     |(go_at_call 34;refine(HPL.o _).mono ?_;rintro e w3 ⟨rfl,hb3⟩;have hA3:=HA2.o.more hb3)
     |(go_at_call 30;refine(HQ.o _ hA3).mono ?_;rintro e w4 ⟨rfl,hA4⟩)
     |fail)
    have m5:=hA4.box.cell 4;have HA4:=Lh hA4;clear hA4 hA3 hb3 m0 m1 m4 HQ HPL HPP2
    go_upto_region 9 with fail
    go_loopw [10,56] (fun e q wr=> ∃(j:Nat) (cur:List UInt8) (ei:Int),e= .int .i64 ei/\q= .int .i64 (j:Int)/\j<=x.states.length/\PtAt w w.heap.size BB #[.int .i64 x.n,.int .i64 x.cut,.int .i64 x.job.par,.slice a x.job.nodes.length cap,.slice sa x.states.length scap] (bstr cur) wr/\PtSt x j cur ei/\cur.length<=70000*(j+1)) (fun _ q _=>x.states.length-(intOf q).toNat)
    case atStart=>exact⟨0,frL 9 (bstr x.head),0,rfl,rfl,ze0,HA4.o,PtSt.start x,hlen0⟩
    case round=>
     clear m5;obtain⟨j,cur,ei,rfl,rfl,hj,hA,hst,hcl⟩:=hrel;by_cases hjl:j<x.states.length
     ·have f0:decide ((j:Int)<(x.states.length:Int))=true:=dt0 (by omega);obtain⟨sb,so,sc,e9,hsb,s0,s1⟩:=HST.o.at_ j hjl;obtain⟨hs1,hs2⟩:=hfew.2 _ (List.getElem_mem hjl);simp only[vs0]at e9;obtain⟨rfl,_,rfl⟩:=e9;have k0:=(hA.below.cell (p:=⟨sb,so+j*2,none⟩) hsb).trans s0;have k1:=(hA.below.cell (p:=⟨sb,so+j*2+1,none⟩) hsb).trans s1;have hA7:=hA.more (br0.alloc le0 (.cells #[.string x.states[j].uid,.string x.states[j].bytes] 72));have hS7:Blk (wr.alloc (.cells #[.string x.states[j].uid,.string x.states[j].bytes] 72)) wr.heap.size 72 #[.string x.states[j].uid,.string x.states[j].bytes]:=Blk.new wr _ _;have HA7:=Lh hA7;have HS7:=Lh hS7;have HJL:=Lh hjl;rcases hst.kind with rfl|rfl
      ·have hcur:cur.length<=10000000000000:=by have:=hfew.1;omega
       have HQ:=Lh (put_state x.states[j] hs1 hs2 cur hcur w w.heap.size BB #[.int .i64 x.n,.int .i64 x.cut,.int .i64 x.job.par,.slice a x.job.nodes.length cap,.slice (some ⟨sb,so,none⟩) x.states.length scap]);have HOK:Hd (stWide x.states[j]=false->PtSt x (j+1) (cur++frL 10 (bstr (stL x.states[j]))) 0/\(cur++frL 10 (bstr (stL x.states[j]))).length<=70000*(j+1+1)):=fun h=>⟨hst.step hjl h,by
        have h3:=fr_len 10 (stL x.states[j]) (by have:=of_decide_eq_false ((stWide_eq hs1 hs2).symm.trans h);omega)
        rw[la0]
        omega⟩
       have HNO:Hd (stWide x.states[j]=true->PtSt x (j+1) cur 3):=fun h=>hst.wide hjl h cur;have HCL:=Lh hcl;clear hA hA7 hS7 s0 s1 hst hcl hs1 hs2;generalize x.states[j]=s at*
       go_upto_region 11 with fail
       generalize (wr.alloc (.cells #[.string s.uid,.string s.bytes] 72))=W7 at*;have q0:=HS7.o.cell 0;have q1:=HS7.o.cell 1;have HCV:Hd (∀(e:Ending) (w4:World),((stWide s=false/\e= .returned (.int .i64 0)/\PtAt w w.heap.size BB #[.int .i64 x.n,.int .i64 x.cut,.int .i64 x.job.par,.slice a x.job.nodes.length cap,.slice (some ⟨sb,so,none⟩) x.states.length scap] (bstr (cur++frL 10 (bstr (stL s)))) w4)\/(stWide s=true/\e= .returned (.int .i64 3)/\PtAt w w.heap.size BB #[.int .i64 x.n,.int .i64 x.cut,.int .i64 x.job.par,.slice a x.job.nodes.length cap,.slice (some ⟨sb,so,none⟩) x.states.length scap] (bstr cur) w4))->
         ∃(ej:Int) (cj:List UInt8),e= .returned (.int .i64 ej)/\PtAt w w.heap.size BB #[.int .i64 x.n,.int .i64 x.cut,.int .i64 x.job.par,.slice a x.job.nodes.length cap,.slice (some ⟨sb,so,none⟩) x.states.length scap] (bstr cj) w4/\PtSt x (j+1) cj ej/\cj.length<=70000*(j+1+1)):=fun e w4 h4=>by
        rcases h4 with ⟨h,rfl,h5⟩|⟨h,rfl,h5⟩
        ·exact⟨0,_,rfl,h5,(HOK.o h).1,(HOK.o h).2⟩
        ·exact⟨3,cur,rfl,h5,HNO.o h,by have:=HCL.o;omega⟩
       go_upto_region 13 with (first
        |(go_at_call 30;refine(HQ.o _ HA7.o).mono ?_;rintro e w4 h4;obtain⟨ej,cj,rfl,hA8,hP8,hl8⟩:=HCV.o e w4 h4)
        |fail)
       go_wp2_with fail
       go_roundw
       case rel=>exact⟨j+1,cj,ej,rfl,by go_num,HJL.o,hA8,hP8,hl8⟩
       case measure=>have:=HJL.o;simp[intOf];omega
      ·have HST2:=Lh hst.same;have HCL:=Lh hcl;clear hA hA7 hS7 s0 s1 hst hcl hs1 hs2
       go_wp2_with fail
       go_roundw
       case rel=>exact⟨j+1,cur,3,rfl,by go_num,HJL.o,HA7.o,HST2.o,by have:=HCL.o;omega⟩
       case measure=>have:=HJL.o;simp[intOf];omega
     ·obtain rfl:j=x.states.length:=by omega
      have f0:decide ((x.states.length:Int)<(x.states.length:Int))=false:=df0 (by omega);have b0:=hA.buf.cell 0;rcases hst.done with ⟨rfl,rfl,h0⟩|⟨rfl,h0⟩
      ·have HPQ:Hd (PV=(frL 9 (bstr x.head)++(putSt x.states).1,0)):=by show _=_;rw[HPP.o,if_neg (by simpa using h0)]
       have HA:=Lh hA;clear hA hst hcl h0
       go_wp2_with fail
       go_ret2;exact⟨by rw[HPQ.o];rfl,HA.o.below⟩
      ·have HPQ:Hd (PV=([],3)):=by show _=_;rw[HPP.o,if_pos (by rw[h0];decide),h0]
       have HA:=Lh hA;clear hA hst hcl h0
       go_wp2_with fail
       go_ret2;exact⟨by rw[HPQ.o];rfl,HA.o.below⟩
 ·have e0:(le !=0)=true:=by simpa using hle
  have HPP:Hd (PV=([],2)):=by show _=_;rw[HP.o,if_pos (by rw[HBD.o,dt0 hle,Bool.true_or])]
  clear hle HP
  go_wp2_with fail
  go_ret2;exact⟨by rw[HPP.o];rfl,HB2.o⟩
structure R3 (w0:World) (be bt br:Nat) (p:Rt) (w:World):Prop where
 fr:Fr (fun k=>k=be\/k=bt\/k=br) w0 w
 E:Blk w be 30 #[.int .i64 p.e]
 T:Blk w bt 9 #[.string p.text]
 R:Blk w br 9 #[.string p.rest]
 ne:be≠bt/\be≠br/\bt≠br
namespace R3
variable {w0 w w':World} {be bt br:Nat} {p q:Rt}
theorem setE (h:R3 w0 be bt br p w) (x:Int):R3 w0 be bt br ⟨x,p.text,p.rest⟩ (w.setCell ⟨be,0,none⟩ (.int .i64 x)):=
 ⟨h.fr.setCell (p:=⟨be,0,none⟩) (.inl (.inl rfl)) _,h.E.set 0 _,h.T.other (p:=⟨be,0,none⟩) (Ne.symm h.ne.1) _,h.R.other (p:=⟨be,0,none⟩) (Ne.symm h.ne.2.1) _,h.ne⟩
theorem setT (h:R3 w0 be bt br p w) (x:ByteArray):R3 w0 be bt br ⟨p.e,x,p.rest⟩ (w.setCell ⟨bt,0,none⟩ (.string x)):=
 ⟨h.fr.setCell (p:=⟨bt,0,none⟩) (.inl (.inr (.inl rfl))) _,h.E.other (p:=⟨bt,0,none⟩) h.ne.1 _,h.T.set 0 _,h.R.other (p:=⟨bt,0,none⟩) (Ne.symm h.ne.2.2) _,h.ne⟩
theorem setR (h:R3 w0 be bt br p w) (x:ByteArray):R3 w0 be bt br ⟨p.e,p.text,x⟩ (w.setCell ⟨br,0,none⟩ (.string x)):=
 ⟨h.fr.setCell (p:=⟨br,0,none⟩) (.inl (.inr (.inr rfl))) _,h.E.other (p:=⟨br,0,none⟩) h.ne.2.1 _,h.T.other (p:=⟨br,0,none⟩) h.ne.2.2 _,h.R.set 0 _,h.ne⟩
theorem trans (h:R3 w0 be bt br p w) (h2:R3 w be bt br q w'):R3 w0 be bt br q w':=⟨h.fr.trans h2.fr,h2.E,h2.T,h2.R,h2.ne⟩
theorem refl (h:R3 w0 be bt br p w):R3 w be bt br p w:=⟨Fr.refl _ _,h.E,h.T,h.R,h.ne⟩
theorem more (h:R3 w0 be bt br p w) (hb:Below w.heap.size w w'):R3 w0 be bt br p w':=⟨h.fr.trans (Fr.of_new hb),h.E.below hb h.E.lt,h.T.below hb h.T.lt,h.R.below hb h.R.lt,h.ne⟩
theorem drew (h:R3 w0 be bt br p w):R3 w0 be bt br p w.drew:=⟨h.fr.drew,h.E.drew,h.T.drew,h.R.drew,h.ne⟩
end R3
theorem mx_max (a b:Int):Rt.mx a b=max a b:=by unfold Rt.mx;rw[Int.max_def];split<;>split<;>omega
theorem take1_c (be bt br:Nat) (p:Rt) (hs:p.rest.size<=140737488355328) (w:World) (h:R3 w be bt br p w):
  Calls prog 42 #[.pointer (some ⟨br,0,none⟩),.pointer (some ⟨be,0,none⟩),.pointer (some ⟨bt,0,none⟩)] w fun e w'=>e= .returned (.tuple #[])/\R3 w be bt br p.next w':=by
 have HT:=Lh (FTake_c p.rest hs w);obtain⟨k,hk,hks,_⟩:=takeF_le p.rest;have HX:Hd (p.next=⟨Rt.mx p.e (takeF p.rest).2.2.2,(takeF p.rest).2.1,p.rest.extract (takeF p.rest).2.2.1.toNat p.rest.size⟩):=rfl;generalize p.next=N at*;rw[hk,mx_max,Int.toNat_natCast]at HX;rw[hk]at HT;generalize takeF p.rest=F at*;have r0:=h.R.cell 0;have H:=Lh h;clear h hk;go_enter func42,ntmps42
 go_upto_region 1 with (first|(go_at_call 43;refine HT.o.mono ?_;rintro e w1 ⟨rfl,hb1⟩)|fail)
 have h1:=H.o.more hb1;have e0:=h1.E.cell 0;have r1:=h1.R.cell 0;have t1:=h1.T.cell 0;obtain⟨n1,n2,n3⟩:=h1.ne;have m1:=Ne.symm n1;have m2:=Ne.symm n2;have m3:=Ne.symm n3;have f0:=h1.E.free 0;have f1:=h1.T.free 0;have f2:=h1.R.free 0;have H1:=Lh h1;clear h1 r0 hb1
 go_region
 all_goals
  go_wp2_with fail
  go_end0
  exact⟨rfl,by rw[HX.o];exact(((H1.o.setE _).setT _).setR _).drew⟩
theorem take2_c (be bt br:Nat) (p:Rt) (hs:p.text.size<=140737488355328) (w:World) (h:R3 w be bt br p w):
  Calls prog 44 #[.pointer (some ⟨bt,0,none⟩),.pointer (some ⟨be,0,none⟩)] w fun e w'=>e= .returned (.int .i64 p.num.1)/\R3 w be bt br p.num.2 w':=by
 have HT:=Lh (Take_c p.text hs w);obtain⟨k,hk,hks,_⟩:=takeS_size p.text;have HX:Hd (p.num=((takeS p.text).1,⟨Rt.mx p.e (takeS p.text).2.2,p.text.extract (takeS p.text).2.1.toNat p.text.size,p.rest⟩)):=rfl;generalize p.num=N at*;rw[hk,mx_max,Int.toNat_natCast]at HX;rw[hk]at HT;generalize takeS p.text=F at*;have t0:=h.T.cell 0;have e0:=h.E.cell 0;obtain⟨n1,n2,n3⟩:=h.ne;have m1:=Ne.symm n1;have f0:=h.E.free 0;have f1:=h.T.free 0;have H:=Lh h;clear h hk n2 n3;go_enter func44,ntmps44
 go_upto_region 2 with (first|(go_at_call 45;refine HT.o.mono ?_;rintro e w1 ⟨rfl,rfl⟩)|fail)
 go_region
 all_goals
  go_wp2_with fail
  go_ret;exact⟨by rw[HX.o];rfl,by rw[HX.o];exact((H.o.setE _).setT _).drew⟩
theorem take3_c (be bt br:Nat) (p:Rt) (hs:p.text.size<=140737488355328) (w:World) (h:R3 w be bt br p w):
  Calls prog 46 #[.pointer (some ⟨bt,0,none⟩),.pointer (some ⟨be,0,none⟩)] w fun e w'=>e= .returned (.string p.read.1)/\R3 w be bt br p.read.2 w':=by
 have HT:=Lh (TakeText_c p.text hs w);obtain⟨k,hk,hks⟩:=takeT_size p.text;have HX:Hd (p.read=((takeT p.text).1,⟨Rt.mx p.e (takeT p.text).2.2,p.text.extract (takeT p.text).2.1.toNat p.text.size,p.rest⟩)):=rfl;generalize p.read=N at*;rw[hk,mx_max,Int.toNat_natCast]at HX;rw[hk]at HT;generalize takeT p.text=F at*;have t0:=h.T.cell 0;have e0:=h.E.cell 0;obtain⟨n1,n2,n3⟩:=h.ne;have m1:=Ne.symm n1;have f0:=h.E.free 0;have f1:=h.T.free 0;have H:=Lh h;clear h hk n2 n3;go_enter func46,ntmps46
 go_upto_region 2 with (first|(go_at_call 47;refine HT.o.mono ?_;rintro e w1 ⟨rfl,rfl⟩)|fail)
 go_region
 all_goals
  go_wp2_with fail
  go_ret;exact⟨by rw[HX.o];rfl,by rw[HX.o];exact((H.o.setE _).setT _).drew⟩
