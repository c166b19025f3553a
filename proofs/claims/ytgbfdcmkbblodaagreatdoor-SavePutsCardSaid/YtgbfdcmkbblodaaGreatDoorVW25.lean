/- Parts. -/
import Derived.Deep.DrawnRows
import Derived.Shelf.Abstract
import Derived.Test.YtgbfdcmkbblodaaGreatDoorVW5
namespace Go.Proofs.YtgbfdcmkbblodaaGreatDoor
open Go.RowKit
set_option linter.unusedVariables false
set_option linter.unusedSimpArgs false
set_option maxRecDepth 100000
set_option maxHeartbeats 16000000
open Tryz
attribute [local go_sem↓] Go.wp_at_zero Go.wp_at_succ
def sgOf:Nat->List (ByteArray×Int)
 |0=> [({data:=#[124]},17)]
 |1=> [({data:=#[38]},16)]
 |2=> [({data:=#[60]},12),({data:=#[60,61]},13),({data:=#[61]},14),({data:=#[33,61]},15)]
 |3=> [({data:=#[43]},7),({data:=#[45]},8)]
 |_=> [({data:=#[42]},9),({data:=#[47]},10),({data:=#[37]},11)]
def sgList (sg:List (ByteArray×Int)):List (List UInt8×Int):=sg.map fun p=>(p.1.toList,p.2)
theorem sg_0:sgList (sgOf 0)=lvSigns 0:=by kernel_rfl
theorem sg_1:sgList (sgOf 1)=lvSigns 1:=by kernel_rfl
theorem sg_2:sgList (sgOf 2)=lvSigns 2:=by kernel_rfl
theorem sg_3:sgList (sgOf 3)=lvSigns 3:=by kernel_rfl
theorem sg_4:sgList (sgOf 4)=lvSigns 4:=by kernel_rfl
theorem signOf_none {st:PSt}: ∀ {sg:List (ByteArray×Int)},signOf st (sgList sg)=none-> ∀i (hi:i<sg.length),st.isB (sg[i]'hi).1.toList=false
 | [],_,i,hi=>by simp at hi
 |(s,o)::r,h,i,hi=>by
  simp only[sgList,List.map_cons,signOf]at h
  split at h
  ·simp at h
  ·cases i with
   |zero=>simpa using (by assumption: ¬st.isB s.toList=true)
   |succ i=>exact signOf_none (sg:=r) h i (by simpa using hi)
theorem signOf_some {st:PSt} {o:Int}: ∀ {sg:List (ByteArray×Int)},signOf st (sgList sg)=some o-> ∃j,∃hj:j<sg.length,(sg[j]'hj).2=o/\(∀i (hi:i<j),st.isB (sg[i]'(by omega)).1.toList=false)/\st.isB (sg[j]'hj).1.toList=true
 | [],h=>by simp[sgList,signOf]at h
 |(s,o')::r,h=>by
  simp only[sgList,List.map_cons,signOf]at h
  split at h
  ·exact⟨0,by simp,by simpa using h,fun i hi=>by omega,by assumption⟩
  ·obtain⟨j,hj,h1,h2,h3⟩:=signOf_some (sg:=r) h
   refine⟨j+1,by simp;omega,h1,fun i hi=>?_,h3⟩
   cases i with
   |zero=>simpa using (by assumption: ¬st.isB s.toList=true)
   |succ i=>exact h2 i (by omega)
structure RowR (w wr:World) (br bx:Nat) (x:Ex) (sv:Value):Prop where
 box:Blk wr w.heap.size 279 #[.pointer (some ⟨br,0,none⟩)]
 res:Blk wr (w.heap.size+1) 133 #[.int .u8 0,.int .i64 0,.slice none 0 0]
 cx:Blk wr bx 133 #[.int .u8 x.op,.int .i64 x.n,sv]
 args:ArgsIn wr (fun b=>w.heap.size+2<=b/\b≠bx/\b<wr.heap.size) x.args sv
 low:w.heap.size+2<=bx
 fr:Fr (fun k=>k=br) w wr
theorem RowR.step {w wr w2:World} {br bx:Nat} {x:Ex} {sv:Value} (h:RowR w wr br bx x sv) (hbr:br<w.heap.size) (hf:Fr (fun k=>k=br) wr w2):RowR w w2 br bx x sv:=by
 have hlow:=h.low;exact⟨h.box.fr hf (by omega),h.res.fr hf (by omega),h.cx.fr hf (by omega),h.args.fr hf (fun b hb=>⟨hb.2.2,by omega⟩) (fun b hb=>⟨hb.1,hb.2.1,lt1 hb.2.2 hf.size⟩),hlow,h.fr.trans hf⟩
theorem RowR.put {w w9:World} {br bx:Nat} {x y:Ex} {sv su:Value} {o:Int} (h:RowR w w9 br bx x sv) (hy:ArgsIn w9 (fun b=>w.heap.size+2<=b/\b≠bx/\b<w9.heap.size) y.args su) (hbr:br<w.heap.size) {E:Int} {st:PSt} (hr:RdAt w9 br E st):
  RowR w ((((w9.setCell ⟨bx,0,none⟩ (.int .u8 o)).setCell ⟨bx,1,none⟩ (.int .i64 0)).setCell ⟨bx,2,none⟩ (.slice (some ⟨w9.heap.size,0,none⟩) 2 2)).alloc (.cells #[.int .u8 x.op,.int .i64 x.n,sv,.int .u8 y.op,.int .i64 y.n,su] 133))
   br bx (.mk o 0 [x,y]) (.slice (some ⟨w9.heap.size,0,none⟩) 2 2)/\
  RdAt ((((w9.setCell ⟨bx,0,none⟩ (.int .u8 o)).setCell ⟨bx,1,none⟩ (.int .i64 0)).setCell ⟨bx,2,none⟩ (.slice (some ⟨w9.heap.size,0,none⟩) 2 2)).alloc (.cells #[.int .u8 x.op,.int .i64 x.n,sv,.int .u8 y.op,.int .i64 y.n,su] 133)) br E st:=by
 have hlow:=h.low;have hlt:=h.cx.lt;have hF:Fr (fun k=>k=bx) w9 ((((w9.setCell ⟨bx,0,none⟩ (.int .u8 o)).setCell ⟨bx,1,none⟩ (.int .i64 0)).setCell ⟨bx,2,none⟩ (.slice (some ⟨w9.heap.size,0,none⟩) 2 2)).alloc (.cells #[.int .u8 x.op,.int .i64 x.n,sv,.int .u8 y.op,.int .i64 y.n,su] 133)):=
  ((((Fr.refl (fun k=>k=bx) w9).setCell (p:=⟨bx,0,none⟩) (.inl rfl) _).setCell (p:=⟨bx,1,none⟩) (.inl rfl) _).setCell (p:=⟨bx,2,none⟩) (.inl rfl) _).alloc _
 have hN:=Blk.new_at (((w9.setCell ⟨bx,0,none⟩ (.int .u8 o)).setCell ⟨bx,1,none⟩ (.int .i64 0)).setCell ⟨bx,2,none⟩ (.slice (some ⟨w9.heap.size,0,none⟩) 2 2)) #[.int .u8 x.op,.int .i64 x.n,sv,.int .u8 y.op,.int .i64 y.n,su] 133 (k:=w9.heap.size) (by simp[World.setCell]);have hC:=((((h.cx.set 0 (.int .u8 o)).set 1 (.int .i64 0)).set 2 (.slice (some ⟨w9.heap.size,0,none⟩) 2 2)).alloc (.cells #[.int .u8 x.op,.int .i64 x.n,sv,.int .u8 y.op,.int .i64 y.n,su] 133));have hfr:=(((h.fr.setCell (p:=⟨bx,0,none⟩) (.inr (by show _<=bx;omega)) (.int .u8 o)).setCell (p:=⟨bx,1,none⟩) (.inr (by show _<=bx;omega)) (.int .i64 0)).setCell (p:=⟨bx,2,none⟩) (.inr (by show _<=bx;omega)) (.slice (some ⟨w9.heap.size,0,none⟩) 2 2)).alloc (.cells #[.int .u8 x.op,.int .i64 x.n,sv,.int .u8 y.op,.int .i64 y.n,su] 133);have hsz:w9.heap.size+1=((((w9.setCell ⟨bx,0,none⟩ (.int .u8 o)).setCell ⟨bx,1,none⟩ (.int .i64 0)).setCell ⟨bx,2,none⟩ (.slice (some ⟨w9.heap.size,0,none⟩) 2 2)).alloc (.cells #[.int .u8 x.op,.int .i64 x.n,sv,.int .u8 y.op,.int .i64 y.n,su] 133)).heap.size:=by simp[World.setCell]
 generalize World.alloc _ _=W at*;refine⟨⟨h.box.fr hF (by omega),h.res.fr hF (by omega),hC,?_,hlow,hfr⟩,hr.fr hF (fun k hk=>by omega)⟩;refine ArgsIn.two hN ⟨by omega,by omega,by omega⟩ (h.args.fr hF (fun b hb=>⟨hb.2.2,hb.2.1⟩) (fun b hb=>⟨hb.1,hb.2.1,by omega⟩)) (hy.fr hF (fun b hb=>⟨hb.2.2,hb.2.1⟩) (fun b hb=>⟨hb.1,hb.2.1,by omega⟩))
theorem RowR.done {w wr:World} {br bx:Nat} {x:Ex} {sv:Value} {E:Int} {st:PSt} (h:RowR w wr br bx x sv) (hr:RdAt wr br E st) (hbr:br<w.heap.size):
  PrPost w (fun w st=>RdAt w br E st) br (x,st) (.returned (.agg #[.int .u8 x.op,.int .i64 x.n,sv])) (((wr.setCell ⟨w.heap.size+1,0,none⟩ (.int .u8 x.op)).setCell ⟨w.heap.size+1,1,none⟩ (.int .i64 x.n)).setCell ⟨w.heap.size+1,2,none⟩ sv)/\
   Blk (((wr.setCell ⟨w.heap.size+1,0,none⟩ (.int .u8 x.op)).setCell ⟨w.heap.size+1,1,none⟩ (.int .i64 x.n)).setCell ⟨w.heap.size+1,2,none⟩ sv) (w.heap.size+1) 133 #[.int .u8 x.op,.int .i64 x.n,sv]:=
 prPost_mk (fun w1 w2 h1 hf=>h1.fr hf (fun k hk=>by omega)) h.res rfl (by omega) (h.args.mono fun b hb=>⟨by omega,by omega,hb.2.2⟩) hr h.fr
theorem rowL_stop (one:PSt->Ex×PSt) (sg:List (List UInt8×Int)) (c:Nat) (x:Ex) (st:PSt) (h:c=0\/st.bad.isSome=true\/signOf st sg=none):rowL one sg c x st=(x,st):=by
 cases c with
 |zero=>rfl
 |succ c=>
  simp only[rowL];rcases h with h|h|h
  ·omega
  ·rw[if_pos h]
  ·split
   ·rfl
   ·rw[h]
theorem rowL_go (one:PSt->Ex×PSt) (sg:List (List UInt8×Int)) (c:Nat) (x:Ex) (st:PSt) (o:Int) (h:st.bad.isSome=false) (ho:signOf st sg=some o):rowL one sg (c+1) x st=rowL one sg c (.mk o 0 [x,(one st.next).1]) (one st.next).2:=by
 simp only[rowL];rw[h,ho];rfl
theorem row_c (g:FuncId) (eg: ∀args w,(callFunc g args).run prog w= .ok (.enter g args) w) (f:PSt->Ex×PSt) (sg:List (ByteArray×Int)) (most:Nat) (hm:most<=400) (br bs:Nat) (E:Int) (st:PSt) (w:World) (h:RdAt w br E st) (hs:SgAt w bs sg) (hbs:bs≠br) (hlen:Hd (∀st,(f st).2.l.length<=st.l.length))
  (hone:Hd (∀st' w',st'.l.length<=st.l.length->RdAt w' br E st'->Calls prog g #[.pointer (some ⟨br,0,none⟩)] w' (PrPost w' (fun w st=>RdAt w br E st) br (f st')))):
  Calls prog 243 #[.pointer (some ⟨br,0,none⟩),.func (.func g) #[.pointer (some ⟨br,0,none⟩)] #[],.int .i64 most,.slice (some ⟨bs,0,none⟩) sg.length sg.length] w
   (PrPost w (fun w st=>RdAt w br E st) br (rowL f (sgList sg) most (f st).1 (f st).2)):=by
 have H:=Lh h;have HS:=Lh hs;have hlr:=h.lt;have hls:=hs.1.lt;have hN2:=hs.2;obtain⟨N,hN⟩: ∃N,sg.length=N:=⟨_,rfl⟩;rw[hN]at hN2⊢;have HN:=Lh hN;have hlN:=hlen.o st;generalize hx0:(f st).1=x0 at*;generalize hst0:(f st).2=st0 at*;have HX0:=Lh hx0;have HST0:=Lh hst0;generalize htg:rowL f (sgList sg) most x0 st0=target at*;have HTG:=Lh htg;have hbox:=(Blk.new w #[.pointer (some ⟨br,0,none⟩)] 279).alloc (.cells #[.int .u8 0,.int .i64 0,.slice none 0 0] 133);have hres:=Blk.new_at (w.alloc (.cells #[.pointer (some ⟨br,0,none⟩)] 279)) #[.int .u8 0,.int .i64 0,.slice none 0 0] 133 (k:=w.heap.size+1) (by simp);have hF0:=((Fr.refl (fun k=>k=br) w).alloc (.cells #[.pointer (some ⟨br,0,none⟩)] 279)).alloc (.cells #[.int .u8 0,.int .i64 0,.slice none 0 0] 133);have hR0:=Lh (h.keep (((Below.refl _ w).alloc le0 (.cells #[.pointer (some ⟨br,0,none⟩)] 279)).alloc (by simp) (.cells #[.int .u8 0,.int .i64 0,.slice none 0 0] 133)));have hsz0:((w.alloc (.cells #[.pointer (some ⟨br,0,none⟩)] 279)).alloc (.cells #[.int .u8 0,.int .i64 0,.slice none 0 0] 133)).heap.size=w.heap.size+2:=by simp
 have HSZ0:=Lh hsz0;clear h hs hN hx0 hst0 htg hsz0;go_enter func243,ntmps243
 go_wp2_with fail
 refine(hone.o st _ le0 hR0.o).mono ?_;rintro e w1 ⟨_,rfl,ha1,hr1,hf1⟩;obtain⟨aa,an,ac,rfl⟩:=ha1.slice;rw[HX0.o]at ha1⊢;rw[HST0.o]at hr1;have hlb:=hf1.size;rw[HSZ0.o]at hlb;have hbr1:br<w1.heap.size:=by omega
 go_upto_region 2 with fail
 have hRR:RowR w (w1.alloc (.cells #[.int .u8 x0.op,.int .i64 x0.n,.slice aa an ac] 133)) br w1.heap.size x0 (.slice aa an ac):=by
  have hfA:=hf1.alloc (.cells #[.int .u8 x0.op,.int .i64 x0.n,.slice aa an ac] 133);refine⟨hbox.fr hfA (by omega),hres.fr hfA (by omega),Blk.new _ _ _,?_,hlb,hF0.trans hfA⟩;refine ha1.fr ((Fr.refl (fun k=>k=br) w1).alloc _) (fun b hb=>⟨hb.2,?_⟩) (fun b hb=>⟨?_,?_,?_⟩)
  ·have:=hb.1;rw[HSZ0.o]at this;omega
  ·have:=hb.1;rw[HSZ0.o]at this;omega
  ·omega
  ·simp;omega
 have hrd:=hr1.keep ((Below.refl _ w1).alloc le0 (.cells #[.int .u8 x0.op,.int .i64 x0.n,.slice aa an ac] 133));generalize hbx:w1.heap.size=bx at*;generalize w1.alloc _=W at*;clear ha1 hr1 hf1 hR0 HSZ0 hF0 hres hbox hbx;have HRR:=Lh hRR;have HRD:=Lh hrd;clear hRR hrd
 go_wp2_with fail
 go_loopw [10] (fun q wr=> ∃(k:Nat) (x:Ex) (s:PSt) (sv:Value),q= .int .i64 k/\k<=most/\RowR w wr br bx x sv/\RdAt wr br E s/\s.l.length<=st.l.length/\rowL f (sgList sg) (most-k) x s=target) (fun q _=>most-(intOf q).toNat)
 case atStart=>exact⟨0,x0,st0,_,rfl,ze0,HRR.o,HRD.o,hlN,HTG.o⟩
 case round=>
  obtain⟨k,x,s,_,rfl,hk,hR,hD,hsl,hgo⟩:=hrel;obtain⟨va,vn,vc,rfl⟩:=hR.args.slice;have HGO:=Lh hgo;have HR:=Lh hR;have HD:=Lh hD;clear hgo;have b0:=hR.box.cell 0;obtain⟨x0,x1,x2⟩:=hR.cx.q3;obtain⟨r0,r1,r2⟩:=hR.res.q3;obtain⟨q0,q1,q2⟩:=hR.res.u3;obtain⟨v,a,hb,_,_⟩:=hD.ex;have d2:=hb.cell 2;have hlow:=hR.low;by_cases hkm:k<most
  ·cases hbad:s.bad.isSome
   ·rw[hbad]at d2
    cases hso:signOf s (sgList sg)with
    |none=>
     have hst:=rowL_stop f (sgList sg) (most-k) x s (.inr (.inr hso));have HE:=Lh (hst.symm.trans HGO.o);have HSO:=Lh hso;clear hR hD hb hst hso
     go_wp2_with (go_at_call 273;have hni:=idx_none br w.heap.size bs E s sg wr HD.o HR.o.box ⟨HS.o.1.fr HR.o.fr hbs,HS.o.2⟩ (by omega) hbs (signOf_none HSO.o);rw[HN.o]at hni;refine hni.mono ?_;clear hni;rintro e w2 ⟨rfl,h2,hf2⟩;have hR2:=HR.o.step hlr hf2;obtain⟨y0,y1,y2⟩:=hR2.cx.q3;obtain⟨t0,t1,t2⟩:=hR2.res.q3;obtain⟨z0,z1,z2⟩:=hR2.res.u3)
     obtain⟨p1,p2⟩:=hR2.done h2 hlr;rw[<-HE.o];refine bodyPost_ret (v:= .agg #[.int .u8 x.op,.int .i64 x.n,.slice va vn vc]) (results_cell_row rfl _ _ (w.heap.size+1) 133 _ (0,0) _ rfl p2 underlying133 rfl ?_) rfl p1
     as_aux_lemma=>kernel_rfl
    |some o=>
     obtain⟨j,hj,ho,hno,hyes⟩:=signOf_some hso;obtain⟨m,hm1⟩: ∃m,most-k=m+1:=⟨most-k-1,by omega⟩;have hgo2:=HGO.o;rw[hm1,rowL_go f (sgList sg) m x s o hbad hso]at hgo2;have HGO2:=Lh hgo2;have HM1:=Lh hm1;have HIDX:=Lh (fun(h:RdAt wr br E s) (h1:SgAt wr bs sg)=>idx_some br w.heap.size bs E s sg wr h HR.o.box h1 (by omega) hbs j hj hno hyes);have HNX:=Lh (signOf_lt hso);have hjN:j<N:=by have:=HN.o;omega
     have HSG:=Lh (HS.o.at_ j hj);generalize sg[j]=p at*;obtain⟨ps,po⟩:=p;simp only at ho;subst ho;clear hR hD hb hso hgo2 hm1 hno hyes
     go_upto_region 8 with (go_at_call 273;have hni:=HIDX.o HD.o ⟨HS.o.1.fr HR.o.fr hbs,HS.o.2⟩;rw[HN.o]at hni;refine hni.mono ?_;clear hni;rintro e w2 ⟨rfl,h2,hf2⟩)
     have hR2:=HR.o.step hlr hf2;have hfW:=HR.o.fr.trans hf2;have hsg:=(World.cell?_of_block (hfW.block bs hls hbs)).trans HSG.o.2;obtain⟨y0,y1,y2⟩:=hR2.cx.q3;have HR2:=Lh hR2;have HD2:=Lh h2;have hjI:(j:Int)<(N:Int):=by omega
     have hls2:bs<w2.heap.size:=lt1 hls hfW.size;have hbx2:=hR2.cx.lt;have hle2:s.next.l.length<=st.l.length:=by have:=HNX.o;omega
     clear hR2 h2 hf2 hfW b0 x0 x1 x2 r0 r1 r2 q0 q1 q2 d2 HIDX HSG
     go_region_with (refine(hone.o s.next _ hle2 (HD2.o.keep (Below.refl _ w2).drew)).mono ?_;rintro e w9 ⟨_,rfl,ha9,hr9,hf9⟩;obtain⟨a9,n9,c9,rfl⟩:=ha9.slice;have hR9:=(RowR.step HR2.o hlr ((Fr.refl (fun k=>k=br) w2).drew)).step hlr hf9;obtain⟨z0,z1,z2⟩:=hR9.cx.q3;obtain⟨k0,k1,k2⟩:=hR9.cx.u3;have hbx9:=hR9.cx.lt;have hls9:bs<w9.heap.size:=lt1 hls2 (by simpa using hf9.size);have hsg9:=(World.cell?_of_block (hf9.block bs (by simpa using hls2) hbs)).trans hsg)
     all_goals
      go_wp2_with fail
      go_roundw
      case rel=>
       have hs9:=hf9.size;have hlow:=HR2.o.low;have hs2:=HR2.o.fr.size;have hq:=RowR.put (o:=po) hR9 (ha9.mono fun b hb=>⟨by have:=hb.1;simp at this;omega,by have:=hb.1;simp at this;omega,hb.2⟩) hlr hr9;exact⟨k+1,_,_,_,by go_num,by omega,hq.1,hq.2,le1 (hlen.o _) hle2,by rw[show most-(k+1)=m by have:=HM1.o;omega];exact HGO2.o⟩
      case measure=>simp[intOf];omega
   ·rw[hbad]at d2;have hst:=rowL_stop f (sgList sg) (most-k) x s (.inr (.inl hbad));have HE:=Lh (hst.symm.trans HGO.o);clear hR hD hb hst
    go_wp2_with fail
    obtain⟨p1,p2⟩:=HR.o.done HD.o hlr;rw[<-HE.o];refine bodyPost_ret (v:= .agg #[.int .u8 x.op,.int .i64 x.n,.slice va vn vc]) (results_cell_row rfl _ _ (w.heap.size+1) 133 _ (0,0) _ rfl p2 underlying133 rfl ?_) rfl p1
    as_aux_lemma=>kernel_rfl
  ·have hst:=rowL_stop f (sgList sg) (most-k) x s (.inl (by omega));have HE:=Lh (hst.symm.trans HGO.o);clear hR hD hb hst
   go_wp2_with fail
   obtain⟨p1,p2⟩:=HR.o.done HD.o hlr;rw[<-HE.o];refine bodyPost_ret (v:= .agg #[.int .u8 x.op,.int .i64 x.n,.slice va vn vc]) (results_cell_row rfl _ _ (w.heap.size+1) 133 _ (0,0) _ rfl p2 underlying133 rfl ?_) rfl p1
   as_aux_lemma=>kernel_rfl
def PrC (g:FuncId) (br:Nat) (E:Int) (f:PSt->Ex×PSt) (n:Nat):Prop:= ∀st' w',st'.l.length<=n->RdAt w' br E st'->Calls prog g #[.pointer (some ⟨br,0,none⟩)] w' (PrPost w' (fun w st=>RdAt w br E st) br (f st'))
theorem prPost_pass {w w1:World} {br:Nat} {E:Int} {st:PSt} {x:Ex} {sv:Value} (B:Nat) (hbr:br<w.heap.size) (hB:w.heap.size<B) (h0:Blk w1 w.heap.size 133 #[.int .u8 0,.int .i64 0,.slice none 0 0])
  (ha:ArgsIn w1 (fun b=>B<=b/\b<w1.heap.size) x.args sv) (hr:RdAt w1 br E st) (hf:Fr (fun k=>k=br) w w1):
  PrPost w (fun w st=>RdAt w br E st) br (x,st) (.returned (.agg #[.int .u8 x.op,.int .i64 x.n,sv])) (((w1.setCell ⟨w.heap.size,0,none⟩ (.int .u8 x.op)).setCell ⟨w.heap.size,1,none⟩ (.int .i64 x.n)).setCell ⟨w.heap.size,2,none⟩ sv)/\
   Blk (((w1.setCell ⟨w.heap.size,0,none⟩ (.int .u8 x.op)).setCell ⟨w.heap.size,1,none⟩ (.int .i64 x.n)).setCell ⟨w.heap.size,2,none⟩ sv) w.heap.size 133 #[.int .u8 x.op,.int .i64 x.n,sv]:=
 prPost_mk (fun w1 w2 h1 hf=>h1.fr hf (fun k hk=>by omega)) h0 rfl le0 (ha.mono fun b hb=>⟨by omega,by omega,hb.2⟩) hr hf
theorem lv_w {br:Nat} {E:Int} {st:PSt} {w:World} (h:RdAt w br E st) (cs:Array Value):
  RdAt ((w.alloc (.cells #[.int .u8 0,.int .i64 0,.slice none 0 0] 133)).alloc (.cells cs 308)) br E st/\Fr (fun k=>k=br) w ((w.alloc (.cells #[.int .u8 0,.int .i64 0,.slice none 0 0] 133)).alloc (.cells cs 308))/\
   Blk ((w.alloc (.cells #[.int .u8 0,.int .i64 0,.slice none 0 0] 133)).alloc (.cells cs 308)) w.heap.size 133 #[.int .u8 0,.int .i64 0,.slice none 0 0]/\Blk ((w.alloc (.cells #[.int .u8 0,.int .i64 0,.slice none 0 0] 133)).alloc (.cells cs 308)) (w.heap.size+1) 308 cs/\
   ((w.alloc (.cells #[.int .u8 0,.int .i64 0,.slice none 0 0] 133)).alloc (.cells cs 308)).heap.size=w.heap.size+2:=
 ⟨h.keep (((Below.refl _ w).alloc le0 _).alloc (by simp) _),((Fr.refl _ w).alloc _).alloc _,(Blk.new w _ _).alloc _,Blk.new_at _ _ _ (by simp),by simp⟩
theorem lv_or (f:PSt->Ex×PSt) (br:Nat) (E:Int) (st:PSt) (w:World) (h:RdAt w br E st) (hlen:Hd (∀st,(f st).2.l.length<=st.l.length)) (hone:Hd (PrC 244 br E f st.l.length)):
  Calls prog 215 #[.pointer (some ⟨br,0,none⟩)] w (PrPost w (fun w st=>RdAt w br E st) br (rowL f (lvSigns 0) (lvMost 0) (f st).1 (f st).2)):=by
 have hlr:=h.lt;obtain⟨hB,hF,hres,hsg,hsz⟩:=lv_w h #[.string {data:=#[124]},.int .u8 17];have hrow:Calls prog 243 #[.pointer (some ⟨br,0,none⟩),.func (.func 244) #[.pointer (some ⟨br,0,none⟩)] #[],.int .i64 400,.slice (some ⟨w.heap.size+1,0,none⟩) 1 1] _ _:=
  row_c 244 (enters_of func244 (by kernel_rfl) rfl) f (sgOf 0) 400 (by omega) br (w.heap.size+1) E st _ hB ⟨hsg,by decide⟩ (by omega) hlen hone
 rw[sg_0]at hrow;have HROW:=Lh hrow;have hEQ:Hd (rowL f (lvSigns 0) 400 (f st).1 (f st).2=rowL f (lvSigns 0) (lvMost 0) (f st).1 (f st).2):=rfl;have HSZ:=Lh hsz;clear hrow hsz hsg hB;go_enter func215,ntmps215
 go_wp2_with (go_at_call 243;refine HROW.o.mono ?_;rintro e w1 ⟨_,rfl,ha,hr,hf⟩;obtain⟨a9,n9,c9,rfl⟩:=ha.slice;have h0:=hres.fr hf (by omega);obtain⟨z0,z1,z2⟩:=h0.q3;obtain⟨k0,k1,k2⟩:=h0.u3)
 rw[HSZ.o]at ha;obtain⟨p1,p2⟩:=prPost_pass (w.heap.size+2) hlr (by omega) h0 ha hr (hF.trans hf);rw[<-hEQ.o];refine bodyPost_ret (v:= .agg #[_,_,_]) (results_cell_row rfl _ _ w.heap.size 133 _ (0,0) _ rfl p2 underlying133 rfl ?_) rfl p1
 as_aux_lemma=>kernel_rfl
theorem lv_and (f:PSt->Ex×PSt) (br:Nat) (E:Int) (st:PSt) (w:World) (h:RdAt w br E st) (hlen:Hd (∀st,(f st).2.l.length<=st.l.length)) (hone:Hd (PrC 276 br E f st.l.length)):
  Calls prog 244 #[.pointer (some ⟨br,0,none⟩)] w (PrPost w (fun w st=>RdAt w br E st) br (rowL f (lvSigns 1) (lvMost 1) (f st).1 (f st).2)):=by
 have hlr:=h.lt;obtain⟨hB,hF,hres,hsg,hsz⟩:=lv_w h #[.string {data:=#[38]},.int .u8 16];have hrow:Calls prog 243 #[.pointer (some ⟨br,0,none⟩),.func (.func 276) #[.pointer (some ⟨br,0,none⟩)] #[],.int .i64 400,.slice (some ⟨w.heap.size+1,0,none⟩) 1 1] _ _:=
  row_c 276 (enters_of func276 (by kernel_rfl) rfl) f (sgOf 1) 400 (by omega) br (w.heap.size+1) E st _ hB ⟨hsg,by decide⟩ (by omega) hlen hone
 rw[sg_1]at hrow;have HROW:=Lh hrow;have hEQ:Hd (rowL f (lvSigns 1) 400 (f st).1 (f st).2=rowL f (lvSigns 1) (lvMost 1) (f st).1 (f st).2):=rfl;have HSZ:=Lh hsz;clear hrow hsz hsg hB;go_enter func244,ntmps244
 go_wp2_with (go_at_call 243;refine HROW.o.mono ?_;rintro e w1 ⟨_,rfl,ha,hr,hf⟩;obtain⟨a9,n9,c9,rfl⟩:=ha.slice;have h0:=hres.fr hf (by omega);obtain⟨z0,z1,z2⟩:=h0.q3;obtain⟨k0,k1,k2⟩:=h0.u3)
 rw[HSZ.o]at ha;obtain⟨p1,p2⟩:=prPost_pass (w.heap.size+2) hlr (by omega) h0 ha hr (hF.trans hf);rw[<-hEQ.o];refine bodyPost_ret (v:= .agg #[_,_,_]) (results_cell_row rfl _ _ w.heap.size 133 _ (0,0) _ rfl p2 underlying133 rfl ?_) rfl p1
 as_aux_lemma=>kernel_rfl
theorem lv_cmp (f:PSt->Ex×PSt) (br:Nat) (E:Int) (st:PSt) (w:World) (h:RdAt w br E st) (hlen:Hd (∀st,(f st).2.l.length<=st.l.length)) (hone:Hd (PrC 293 br E f st.l.length)):
  Calls prog 276 #[.pointer (some ⟨br,0,none⟩)] w (PrPost w (fun w st=>RdAt w br E st) br (rowL f (lvSigns 2) (lvMost 2) (f st).1 (f st).2)):=by
 have hlr:=h.lt;obtain⟨hB,hF,hres,hsg,hsz⟩:=lv_w h #[.string {data:=#[60]},.int .u8 12,.string {data:=#[60,61]},.int .u8 13,.string {data:=#[61]},.int .u8 14,.string {data:=#[33,61]},.int .u8 15];have hrow:Calls prog 243 #[.pointer (some ⟨br,0,none⟩),.func (.func 293) #[.pointer (some ⟨br,0,none⟩)] #[],.int .i64 1,.slice (some ⟨w.heap.size+1,0,none⟩) 4 4] _ _:=
  row_c 293 (enters_of func293 (by kernel_rfl) rfl) f (sgOf 2) 1 (by omega) br (w.heap.size+1) E st _ hB ⟨hsg,by decide⟩ (by omega) hlen hone
 rw[sg_2]at hrow;have HROW:=Lh hrow;have hEQ:Hd (rowL f (lvSigns 2) 1 (f st).1 (f st).2=rowL f (lvSigns 2) (lvMost 2) (f st).1 (f st).2):=rfl;have HSZ:=Lh hsz;clear hrow hsz hsg hB;go_enter func276,ntmps276
 go_wp2_with (go_at_call 243;refine HROW.o.mono ?_;rintro e w1 ⟨_,rfl,ha,hr,hf⟩;obtain⟨a9,n9,c9,rfl⟩:=ha.slice;have h0:=hres.fr hf (by omega);obtain⟨z0,z1,z2⟩:=h0.q3;obtain⟨k0,k1,k2⟩:=h0.u3)
 rw[HSZ.o]at ha;obtain⟨p1,p2⟩:=prPost_pass (w.heap.size+2) hlr (by omega) h0 ha hr (hF.trans hf);rw[<-hEQ.o];refine bodyPost_ret (v:= .agg #[_,_,_]) (results_cell_row rfl _ _ w.heap.size 133 _ (0,0) _ rfl p2 underlying133 rfl ?_) rfl p1
 as_aux_lemma=>kernel_rfl
theorem lv_sum (f:PSt->Ex×PSt) (br:Nat) (E:Int) (st:PSt) (w:World) (h:RdAt w br E st) (hlen:Hd (∀st,(f st).2.l.length<=st.l.length)) (hone:Hd (PrC 298 br E f st.l.length)):
  Calls prog 293 #[.pointer (some ⟨br,0,none⟩)] w (PrPost w (fun w st=>RdAt w br E st) br (rowL f (lvSigns 3) (lvMost 3) (f st).1 (f st).2)):=by
 have hlr:=h.lt;obtain⟨hB,hF,hres,hsg,hsz⟩:=lv_w h #[.string {data:=#[43]},.int .u8 7,.string {data:=#[45]},.int .u8 8];have hrow:Calls prog 243 #[.pointer (some ⟨br,0,none⟩),.func (.func 298) #[.pointer (some ⟨br,0,none⟩)] #[],.int .i64 400,.slice (some ⟨w.heap.size+1,0,none⟩) 2 2] _ _:=
  row_c 298 (enters_of func298 (by kernel_rfl) rfl) f (sgOf 3) 400 (by omega) br (w.heap.size+1) E st _ hB ⟨hsg,by decide⟩ (by omega) hlen hone
 rw[sg_3]at hrow;have HROW:=Lh hrow;have hEQ:Hd (rowL f (lvSigns 3) 400 (f st).1 (f st).2=rowL f (lvSigns 3) (lvMost 3) (f st).1 (f st).2):=rfl;have HSZ:=Lh hsz;clear hrow hsz hsg hB;go_enter func293,ntmps293
 go_wp2_with (go_at_call 243;refine HROW.o.mono ?_;rintro e w1 ⟨_,rfl,ha,hr,hf⟩;obtain⟨a9,n9,c9,rfl⟩:=ha.slice;have h0:=hres.fr hf (by omega);obtain⟨z0,z1,z2⟩:=h0.q3;obtain⟨k0,k1,k2⟩:=h0.u3)
 rw[HSZ.o]at ha;obtain⟨p1,p2⟩:=prPost_pass (w.heap.size+2) hlr (by omega) h0 ha hr (hF.trans hf);rw[<-hEQ.o];refine bodyPost_ret (v:= .agg #[_,_,_]) (results_cell_row rfl _ _ w.heap.size 133 _ (0,0) _ rfl p2 underlying133 rfl ?_) rfl p1
 as_aux_lemma=>kernel_rfl
theorem lv_term (f:PSt->Ex×PSt) (br:Nat) (E:Int) (st:PSt) (w:World) (h:RdAt w br E st) (hlen:Hd (∀st,(f st).2.l.length<=st.l.length)) (hone:Hd (PrC 300 br E f st.l.length)):
  Calls prog 298 #[.pointer (some ⟨br,0,none⟩)] w (PrPost w (fun w st=>RdAt w br E st) br (rowL f (lvSigns 4) (lvMost 4) (f st).1 (f st).2)):=by
 have hlr:=h.lt;obtain⟨hB,hF,hres,hsg,hsz⟩:=lv_w h #[.string {data:=#[42]},.int .u8 9,.string {data:=#[47]},.int .u8 10,.string {data:=#[37]},.int .u8 11];have hrow:Calls prog 243 #[.pointer (some ⟨br,0,none⟩),.func (.func 300) #[.pointer (some ⟨br,0,none⟩)] #[],.int .i64 400,.slice (some ⟨w.heap.size+1,0,none⟩) 3 3] _ _:=
  row_c 300 (enters_of func300 (by kernel_rfl) rfl) f (sgOf 4) 400 (by omega) br (w.heap.size+1) E st _ hB ⟨hsg,by decide⟩ (by omega) hlen hone
 rw[sg_4]at hrow;have HROW:=Lh hrow;have hEQ:Hd (rowL f (lvSigns 4) 400 (f st).1 (f st).2=rowL f (lvSigns 4) (lvMost 4) (f st).1 (f st).2):=rfl;have HSZ:=Lh hsz;clear hrow hsz hsg hB;go_enter func298,ntmps298
 go_wp2_with (go_at_call 243;refine HROW.o.mono ?_;rintro e w1 ⟨_,rfl,ha,hr,hf⟩;obtain⟨a9,n9,c9,rfl⟩:=ha.slice;have h0:=hres.fr hf (by omega);obtain⟨z0,z1,z2⟩:=h0.q3;obtain⟨k0,k1,k2⟩:=h0.u3)
 rw[HSZ.o]at ha;obtain⟨p1,p2⟩:=prPost_pass (w.heap.size+2) hlr (by omega) h0 ha hr (hF.trans hf);rw[<-hEQ.o];refine bodyPost_ret (v:= .agg #[_,_,_]) (results_cell_row rfl _ _ w.heap.size 133 _ (0,0) _ rfl p2 underlying133 rfl ?_) rfl p1
 as_aux_lemma=>kernel_rfl
attribute [local go_sem↓] Go.wp_at_zero Go.wp_at_succ
theorem is_no (br:Nat) (E:Int) (st:PSt) (s:ByteArray) (l:List UInt8) (hs:s.toList=l) (w:World) (hb:st.isB l=false) (h:RdAt w br E st):
  Calls prog 275 #[.pointer (some ⟨br,0,none⟩),.string s] w fun e w'=>e= .returned (.bool false)/\RdAt w' br E st/\Fr (fun k=>k=br) w w':=by
 subst hs;exact(is_false br E st s w h hb).mono fun e w' ⟨he,hw⟩=>⟨he,h.keep hw,Fr.of_new hw⟩
theorem is_yes (br:Nat) (E:Int) (st:PSt) (s:ByteArray) (l:List UInt8) (hs:s.toList=l) (w:World) (hb:st.isB l=true) (h:RdAt w br E st):
  Calls prog 275 #[.pointer (some ⟨br,0,none⟩),.string s] w fun e w'=>e= .returned (.bool true)/\RdAt w' br E st.next/\Fr (fun k=>k=br) w w':=by
 subst hs;exact is_true br E st s w h hb
theorem must_l (br:Nat) (E:Int) (st:PSt) (s:ByteArray) (l:List UInt8) (hs:s.toList=l) (w:World) (h:RdAt w br E st):
  Calls prog 310 #[.pointer (some ⟨br,0,none⟩),.string s] w fun e w'=>e= .returned (.tuple #[])/\RdAt w' br E (st.must E l)/\Fr (fun k=>k=br) w w':=by
 subst hs;exact must_c br E st s w h
theorem prPost_new {w w2:World} {br:Nat} {E:Int} {st:PSt} {cs:Array Value} {l:List Ex} {n:Nat} {op:Int} (B:Nat) (hbr:br<w.heap.size) (hB:w.heap.size<B) (h0:Blk w2 w.heap.size 133 #[.int .u8 0,.int .i64 0,.slice none 0 0])
  (hr:RdAt w2 br E st) (hf:Fr (fun k=>k=br) w w2)
  (hl: ∀(W:World) (P:Nat->Prop),Blk W w2.heap.size 133 cs->P w2.heap.size->(∀l v,ArgsIn w2 (fun b=>B<=b/\b<w2.heap.size) l v->ArgsIn W P l v)->ArgsIn W P l (.slice (some ⟨w2.heap.size,0,none⟩) n n)):
  PrPost w (fun w st=>RdAt w br E st) br (.mk op 0 l,st) (.returned (.agg #[.int .u8 op,.int .i64 0,.slice (some ⟨w2.heap.size,0,none⟩) n n]))
   ((((w2.setCell ⟨w.heap.size,0,none⟩ (.int .u8 op)).setCell ⟨w.heap.size,1,none⟩ (.int .i64 0)).setCell ⟨w.heap.size,2,none⟩ (.slice (some ⟨w2.heap.size,0,none⟩) n n)).alloc (.cells cs 133))/\
  Blk ((((w2.setCell ⟨w.heap.size,0,none⟩ (.int .u8 op)).setCell ⟨w.heap.size,1,none⟩ (.int .i64 0)).setCell ⟨w.heap.size,2,none⟩ (.slice (some ⟨w2.heap.size,0,none⟩) n n)).alloc (.cells cs 133)) w.heap.size 133 #[.int .u8 op,.int .i64 0,.slice (some ⟨w2.heap.size,0,none⟩) n n]:=by
 have hlt:=h0.lt;have hF:Fr (fun k=>k=w.heap.size) w2 ((((w2.setCell ⟨w.heap.size,0,none⟩ (.int .u8 op)).setCell ⟨w.heap.size,1,none⟩ (.int .i64 0)).setCell ⟨w.heap.size,2,none⟩ (.slice (some ⟨w2.heap.size,0,none⟩) n n)).alloc (.cells cs 133)):=
  ((((Fr.refl (fun k=>k=w.heap.size) w2).setCell (p:=⟨w.heap.size,0,none⟩) (.inl rfl) _).setCell (p:=⟨w.heap.size,1,none⟩) (.inl rfl) _).setCell (p:=⟨w.heap.size,2,none⟩) (.inl rfl) _).alloc _
 have hN:=Blk.new_at (((w2.setCell ⟨w.heap.size,0,none⟩ (.int .u8 op)).setCell ⟨w.heap.size,1,none⟩ (.int .i64 0)).setCell ⟨w.heap.size,2,none⟩ (.slice (some ⟨w2.heap.size,0,none⟩) n n)) cs 133 (k:=w2.heap.size) (by simp[World.setCell]);have hC:=((((h0.set 0 (.int .u8 op)).set 1 (.int .i64 0)).set 2 (.slice (some ⟨w2.heap.size,0,none⟩) n n)).alloc (.cells cs 133));have hfr:=(((hf.setCell (p:=⟨w.heap.size,0,none⟩) (.inr le0) (.int .u8 op)).setCell (p:=⟨w.heap.size,1,none⟩) (.inr le0) (.int .i64 0)).setCell (p:=⟨w.heap.size,2,none⟩) (.inr le0) (.slice (some ⟨w2.heap.size,0,none⟩) n n)).alloc (.cells cs 133);have hsz:w2.heap.size+1=((((w2.setCell ⟨w.heap.size,0,none⟩ (.int .u8 op)).setCell ⟨w.heap.size,1,none⟩ (.int .i64 0)).setCell ⟨w.heap.size,2,none⟩ (.slice (some ⟨w2.heap.size,0,none⟩) n n)).alloc (.cells cs 133)).heap.size:=by simp[World.setCell]
 generalize World.alloc _ _=W at*;refine⟨⟨_,rfl,hl W _ hN ⟨by omega,by omega⟩ fun l v ha=>ha.fr hF (fun b hb=>⟨hb.2,by omega⟩) (fun b hb=>⟨by omega,by omega⟩),hr.fr hF (fun k hk=>by omega),hfr⟩,hC⟩
theorem s_minus:({data:=#[45]}:ByteArray).toList=[45]:=by kernel_rfl
theorem s_not:({data:=#[33]}:ByteArray).toList=[33]:=by kernel_rfl
theorem s_open:({data:=#[40]}:ByteArray).toList=[40]:=by kernel_rfl
theorem s_shut:({data:=#[41]}:ByteArray).toList=[41]:=by kernel_rfl
theorem s_key:({data:=#[107,101,121]}:ByteArray).toList=wKey:=by kernel_rfl
theorem s_val:({data:=#[118,97,108]}:ByteArray).toList=wVal:=by kernel_rfl
theorem s_acc:({data:=#[97,99,99]}:ByteArray).toList=wAcc:=by kernel_rfl
theorem s_if:({data:=#[105,102]}:ByteArray).toList=wIf:=by kernel_rfl
theorem s_then:({data:=#[116,104,101,110]}:ByteArray).toList=wThen:=by kernel_rfl
theorem s_else:({data:=#[101,108,115,101]}:ByteArray).toList=wElse:=by kernel_rfl
theorem lv_unary (br:Nat) (E:Int) (st:PSt) (w:World) (h:RdAt w br E st)
  (h5:Hd (∀n,n<st.l.length->PrC 300 br E (prF E 5) n)) (h6:Hd (PrC 305 br E (prF E 6) st.l.length)):
  Calls prog 300 #[.pointer (some ⟨br,0,none⟩)] w (PrPost w (fun w st=>RdAt w br E st) br (prUnary (prF E) st)):=by
 have hlr:=h.lt;have hB:=(Below.refl _ w).alloc le0 (.cells #[.int .u8 0,.int .i64 0,.slice none 0 0] 133);have hF:=(Fr.refl (fun k=>k=br) w).alloc (.cells #[.int .u8 0,.int .i64 0,.slice none 0 0] 133);have hres:=Blk.new w #[.int .u8 0,.int .i64 0,.slice none 0 0] 133;have HR:=Lh (h.keep hB);have hsz:(w.alloc (.cells #[.int .u8 0,.int .i64 0,.slice none 0 0] 133)).heap.size=w.heap.size+1:=by simp
 have HSZ:=Lh hsz;clear h hB hsz
 cases hm:st.isB [45]
 ·cases hn:st.isB [33]
  ·have HE:Hd (prUnary (prF E) st=prF E 6 st):=by show _=_;unfold prUnary;rw[hm,hn];rfl
   have HM:=Lh hm;have HN:=Lh hn;clear hm hn;go_enter func300,ntmps300
   go_wp2_with fail
   refine(is_no br E st _ _ s_minus _ HM.o HR.o).mono ?_;rintro e w1 ⟨rfl,h1,hf1⟩;have H1:=Lh h1;clear h1
   go_wp2_with fail
   refine(is_no br E st _ _ s_not _ HN.o H1.o).mono ?_;rintro e w2 ⟨rfl,h2,hf2⟩;have H2:=Lh h2;clear h2
   go_wp2_with fail
   refine(h6.o st _ le0 H2.o).mono ?_;rintro e w3 ⟨_,rfl,ha,hr,hf3⟩;obtain⟨a9,n9,c9,rfl⟩:=ha.slice;have hf:=(hf1.trans hf2).trans hf3;have h0:=hres.fr hf (by omega);obtain⟨z0,z1,z2⟩:=h0.q3;obtain⟨k0,k1,k2⟩:=h0.u3;have hs2:=(hf1.trans hf2).size;rw[HSZ.o]at hs2;clear hres
   go_wp2_with fail
   obtain⟨p1,p2⟩:=prPost_pass w2.heap.size hlr (by omega) h0 ha hr (hF.trans hf);rw[HE.o];refine bodyPost_ret (v:= .agg #[_,_,_]) (results_cell_row rfl _ _ w.heap.size 133 _ (0,0) _ rfl p2 underlying133 rfl ?_) rfl p1
   as_aux_lemma=>kernel_rfl
  ·have HE:Hd (prUnary (prF E) st=(.mk 6 0 [(prF E 5 st.next).1],(prF E 5 st.next).2)):=by show _=_;unfold prUnary;rw[hm,hn];rfl
   have HM:=Lh hm;have HN:=Lh hn;have HL:=Lh (PSt.next_lt hn);clear hm hn;go_enter func300,ntmps300
   go_wp2_with fail
   refine(is_no br E st _ _ s_minus _ HM.o HR.o).mono ?_;rintro e w1 ⟨rfl,h1,hf1⟩;have H1:=Lh h1;clear h1
   go_wp2_with fail
   refine(is_yes br E st _ _ s_not _ HN.o H1.o).mono ?_;rintro e w2 ⟨rfl,h2,hf2⟩;have H2:=Lh h2;clear h2
   go_wp2_with fail
   refine(h5.o _ HL.o st.next _ le0 H2.o).mono ?_;rintro e w3 ⟨_,rfl,ha,hr,hf3⟩;obtain⟨a9,n9,c9,rfl⟩:=ha.slice;have hf:=(hf1.trans hf2).trans hf3;have h0:=hres.fr hf (by omega);obtain⟨z0,z1,z2⟩:=h0.q3;obtain⟨k0,k1,k2⟩:=h0.u3;have hs2:=(hf1.trans hf2).size;have hs3:=h0.lt;rw[HSZ.o]at hs2;clear hres
   go_wp2_with fail
   obtain⟨p1,p2⟩:=prPost_new (op:=6) (l:=[(prF E 5 st.next).1]) (n:=1) w2.heap.size hlr (by omega) h0 hr (hF.trans hf) (fun W P hb hP hk=>ArgsIn.one hb hP (hk _ _ ha));rw[HE.o];refine bodyPost_ret (v:= .agg #[_,_,_]) (results_cell_row rfl _ _ w.heap.size 133 _ (0,0) _ rfl p2 underlying133 rfl ?_) rfl p1
   as_aux_lemma=>kernel_rfl
 ·have HE:Hd (prUnary (prF E) st=(.mk 5 0 [(prF E 5 st.next).1],(prF E 5 st.next).2)):=by show _=_;unfold prUnary;rw[hm];rfl
  have HM:=Lh hm;have HL:=Lh (PSt.next_lt hm);clear hm;go_enter func300,ntmps300
  go_wp2_with fail
  refine(is_yes br E st _ _ s_minus _ HM.o HR.o).mono ?_;rintro e w2 ⟨rfl,h2,hf2⟩;have H2:=Lh h2;clear h2
  go_wp2_with fail
  refine(h5.o _ HL.o st.next _ le0 H2.o).mono ?_;rintro e w3 ⟨_,rfl,ha,hr,hf3⟩;obtain⟨a9,n9,c9,rfl⟩:=ha.slice;have hf:=hf2.trans hf3;have h0:=hres.fr hf (by omega);obtain⟨z0,z1,z2⟩:=h0.q3;obtain⟨k0,k1,k2⟩:=h0.u3;have hs2:=hf2.size;have hs3:=h0.lt;rw[HSZ.o]at hs2;clear hres
  go_wp2_with fail
  obtain⟨p1,p2⟩:=prPost_new (op:=5) (l:=[(prF E 5 st.next).1]) (n:=1) w2.heap.size hlr (by omega) h0 hr (hF.trans hf) (fun W P hb hP hk=>ArgsIn.one hb hP (hk _ _ ha));rw[HE.o];refine bodyPost_ret (v:= .agg #[_,_,_]) (results_cell_row rfl _ _ w.heap.size 133 _ (0,0) _ rfl p2 underlying133 rfl ?_) rfl p1
  as_aux_lemma=>kernel_rfl
theorem PSt.numB_tok (E:Int) (st:PSt):st.numB=((st.tok E).kind==2):=by
 obtain⟨l,b⟩:=st
 cases l with
 |nil=>rfl
 |cons t l=>show decide (t.kind=2)=(t.kind==2);cases h:(t.kind==2)<;>simp_all
theorem lv_one (br:Nat) (E:Int) (st:PSt) (w:World) (h:RdAt w br E st) (h00:Hd (∀n,n<st.l.length->PrC 215 br E (prF E 0) n)):
  Calls prog 305 #[.pointer (some ⟨br,0,none⟩)] w (PrPost w (fun w st=>RdAt w br E st) br (prOne E (prF E) st)):=by
 obtain⟨R,hR⟩: ∃R,prOne E (prF E) st=R:=⟨_,rfl⟩;rw[hR];unfold prOne at hR;have hlr:=h.lt;have hB:=(Below.refl _ w).alloc le0 (.cells #[.int .u8 0,.int .i64 0,.slice none 0 0] 133);have hF:=(Fr.refl (fun k=>k=br) w).alloc (.cells #[.int .u8 0,.int .i64 0,.slice none 0 0] 133);have hres:=Blk.new w #[.int .u8 0,.int .i64 0,.slice none 0 0] 133;have HR:=Lh (h.keep hB);have hsz:(w.alloc (.cells #[.int .u8 0,.int .i64 0,.slice none 0 0] 133)).heap.size=w.heap.size+1:=by simp
 have HSZ:=Lh hsz;obtain⟨⟨tk,tx,tn,ta⟩,htk⟩: ∃tq,st.tok E=tq:=⟨_,rfl⟩;have HTK:=Lh htk;clear h hB hsz htk;go_enter func305,ntmps305
 go_wp2_with fail
 refine(next_c br E st _ HR.o).mono ?_;rintro e w1 ⟨rfl,hb1⟩;rw[HTK.o];dsimp only[Tok.agg]
 go_upto_region 2 with fail
 have hfA:=(Fr.of_new (S:=fun k=>k=br) hb1).alloc (.cells #[.int .u8 tk,.string tx,.int .i64 tn,.int .i64 ta] 301);have hf1:=hF.trans hfA;have h0:=hres.fr hfA (by omega);have hD:=(HR.o.keep hb1).keep (br0.alloc le0 (.cells #[.int .u8 tk,.string tx,.int .i64 tn,.int .i64 ta] 301));have ht:=Blk.new w1 #[.int .u8 tk,.string tx,.int .i64 tn,.int .i64 ta] 301;have hs1:=hb1.size;rw[HSZ.o]at hs1;have hs2:w.heap.size+1<=(w1.alloc (.cells #[.int .u8 tk,.string tx,.int .i64 tn,.int .i64 ta] 301)).heap.size:=by simp;omega
 generalize htb:w1.heap.size=tb at*;generalize w1.alloc _=W at*;obtain⟨v,a,hb,ha0,hsl⟩:=hD.ex;have b2:=hb.cell 2;have t0:=ht.cell 0;obtain⟨z0,z1,z2⟩:=h0.q3;obtain⟨k0,k1,k2⟩:=h0.u3;clear hfA hF hres hb1 htb HR HSZ;by_cases hbad:st.bad.isSome=true
 ·rw[if_pos hbad]at hR;subst hR;rw[hbad]at b2;have HD:=Lh hD;have H0:=Lh h0;clear hb ha0 hsl h0 ht hbad hD
  go_wp2_with fail
  obtain⟨p1,p2⟩:=prPost_pass (x:=Ex.zero) (w.heap.size+1) hlr (by omega) H0.o (.nil none 0 ze0) HD.o hf1;refine bodyPost_ret (v:= .agg #[_,_,_]) (results_cell_row rfl _ _ w.heap.size 133 _ (0,0) _ rfl p2 underlying133 rfl ?_) rfl p1
  as_aux_lemma=>kernel_rfl
 rw[if_neg hbad]at hR;replace hbad:st.bad.isSome=false:=by simpa using hbad
 by_cases hnum:st.numB=true
 ·rw[if_pos hnum]at hR;subst hR;obtain⟨l,bad⟩:=st;obtain rfl:bad=none:=by cases bad with
   |none=>rfl
   |some x=>exact absurd hbad (by simp)
  cases l with
  |nil=>simp[PSt.numB]at hnum
  |cons t l=>
   have hkd:(tk==2)=true:=by have:=PSt.numB_tok E ⟨t::l,none⟩;rw[HTK.o,hnum]at this;exact this.symm
   have htt:t=⟨tk,tx,tn,ta⟩:=HTK.o;have hEN:Hd ((Ex.mk 1 (PSt.numN ⟨t::l,none⟩) [],PSt.next ⟨t::l,none⟩)=(Ex.mk 1 tn [],(⟨l,none⟩:PSt))):=by subst htt;rfl
   have HTT:=Lh htt;clear htt;simp only[List.length_cons]at hsl;obtain⟨b,off,cap,rfl,_,d0,_,_,_⟩:=hsl.tok 0 (by omega);clear d0;have hcap:l.length+1<=cap/\cap<=maxLen:=by
    obtain⟨_,a',cap',hv,h2,h3,_⟩:=id hsl;simp only[vs0]at hv;omega
   obtain⟨hc1,hc2⟩:=hcap;unfold maxLen at hc2;simp only[Option.isSome_none]at hb b2;have b0:=hb.cell 0;have f0:=hb.free 0;have t2:=ht.cell 2;have HB:=Lh hb;have H0:=Lh h0;have HSL:=Lh hsl;have HA:=Lh ha0;have hlW:=hb.lt;have hlT:=ht.lt;have hl0:=h0.lt;generalize hm:l.length=m at*;have HM:=Lh hm;clear hm hb ha0 hsl h0 ht hD hnum hbad;by_cases h1c:cap=1
   all_goals
    go_wp2_with fail
   ·obtain rfl:=HM.o;have hN:=RdAt.next (A:=some ⟨b,off,none⟩) (bad:=none) HB.o HA.o HSL.o (fun h=>by omega);rw[h1c]at hN;rw[hEN.o];have h0':=H0.o.other (p:=⟨br,0,none⟩) (by show w.heap.size≠br;omega) (.slice (some ⟨b,off,none⟩) l.length (1-1));obtain⟨p1,p2⟩:=prPost_pass (x:= .mk 1 tn []) (w.heap.size+1) hlr (by omega) h0' (.nil none 0 ze0) hN (hf1.setCell (p:=⟨br,0,none⟩) (.inl rfl) _);refine bodyPost_ret (v:= .agg #[_,_,_]) (results_cell_row rfl _ _ w.heap.size 133 _ (0,0) _ rfl p2 underlying133 rfl ?_) rfl p1
    as_aux_lemma=>kernel_rfl
   ·obtain rfl:=HM.o;have hN:=RdAt.next (A:=some ⟨b,off+4,none⟩) (bad:=none) HB.o HA.o HSL.o (fun _=>rfl);rw[hEN.o];have h0':=H0.o.other (p:=⟨br,0,none⟩) (by show w.heap.size≠br;omega) (.slice (some ⟨b,off+4,none⟩) l.length (cap-1));obtain⟨p1,p2⟩:=prPost_pass (x:= .mk 1 tn []) (w.heap.size+1) hlr (by omega) h0' (.nil none 0 ze0) hN (hf1.setCell (p:=⟨br,0,none⟩) (.inl rfl) _);refine bodyPost_ret (v:= .agg #[_,_,_]) (results_cell_row rfl _ _ w.heap.size 133 _ (0,0) _ rfl p2 underlying133 rfl ?_) rfl p1
    as_aux_lemma=>kernel_rfl
 rw[if_neg hnum]at hR;replace hnum:st.numB=false:=by simpa using hnum
 rw[hbad]at b2;have hkd:(tk==2)=false:=by have:=PSt.numB_tok E st;rw[HTK.o,hnum]at this;exact this.symm
 have HD:=Lh hD;have H0:=Lh h0;have HG:=Lh (Fr.refl (fun k=>k=br) W);clear hb ha0 hsl h0 ht hbad hD hnum z0 z1 z2 k0 k1 k2;by_cases c_key:st.isB wKey=true
 ·rw[if_pos c_key]at hR;subst hR;have h_key:=Lh c_key
  go_wp2_with fail
  refine(is_yes br E st _ _ s_key _ h_key.o HD.o).mono ?_;rintro e wY ⟨rfl,hd,hf⟩;replace HD:=Lh hd;replace HG:=Lh (HG.o.trans hf);clear hd hf;have h0:=H0.o.fr HG.o (by omega);obtain⟨z0,z1,z2⟩:=h0.q3;obtain⟨k0,k1,k2⟩:=h0.u3
  go_wp2_with fail
  obtain⟨p1,p2⟩:=prPost_pass (x:= .mk 2 0 []) (w.heap.size+1) hlr (by omega) h0 (.nil none 0 ze0) HD.o (hf1.trans HG.o);refine bodyPost_ret (v:= .agg #[_,_,_]) (results_cell_row rfl _ _ w.heap.size 133 _ (0,0) _ rfl p2 underlying133 rfl ?_) rfl p1
  as_aux_lemma=>kernel_rfl
 ·rw[if_neg c_key]at hR;have h_key:Hd (st.isB wKey=false):=Lh (by simpa using c_key)
  go_wp2_with fail
  refine(is_no br E st _ _ s_key _ h_key.o HD.o).mono ?_;rintro e w_key ⟨rfl,hd,hf⟩;replace HD:=Lh hd;replace HG:=Lh (HG.o.trans hf);clear hd hf;by_cases c_val:st.isB wVal=true
  ·rw[if_pos c_val]at hR;subst hR;have h_val:=Lh c_val
   go_wp2_with fail
   refine(is_yes br E st _ _ s_val _ h_val.o HD.o).mono ?_;rintro e wY ⟨rfl,hd,hf⟩;replace HD:=Lh hd;replace HG:=Lh (HG.o.trans hf);clear hd hf;have h0:=H0.o.fr HG.o (by omega);obtain⟨z0,z1,z2⟩:=h0.q3;obtain⟨k0,k1,k2⟩:=h0.u3
   go_wp2_with fail
   obtain⟨p1,p2⟩:=prPost_pass (x:= .mk 3 0 []) (w.heap.size+1) hlr (by omega) h0 (.nil none 0 ze0) HD.o (hf1.trans HG.o);refine bodyPost_ret (v:= .agg #[_,_,_]) (results_cell_row rfl _ _ w.heap.size 133 _ (0,0) _ rfl p2 underlying133 rfl ?_) rfl p1
   as_aux_lemma=>kernel_rfl
  ·rw[if_neg c_val]at hR;have h_val:Hd (st.isB wVal=false):=Lh (by simpa using c_val)
   go_wp2_with fail
   refine(is_no br E st _ _ s_val _ h_val.o HD.o).mono ?_;rintro e w_val ⟨rfl,hd,hf⟩;replace HD:=Lh hd;replace HG:=Lh (HG.o.trans hf);clear hd hf;by_cases c_acc:st.isB wAcc=true
   ·rw[if_pos c_acc]at hR;subst hR;have h_acc:=Lh c_acc
    go_wp2_with fail
    refine(is_yes br E st _ _ s_acc _ h_acc.o HD.o).mono ?_;rintro e wY ⟨rfl,hd,hf⟩;replace HD:=Lh hd;replace HG:=Lh (HG.o.trans hf);clear hd hf;have h0:=H0.o.fr HG.o (by omega);obtain⟨z0,z1,z2⟩:=h0.q3;obtain⟨k0,k1,k2⟩:=h0.u3
    go_wp2_with fail
    obtain⟨p1,p2⟩:=prPost_pass (x:= .mk 4 0 []) (w.heap.size+1) hlr (by omega) h0 (.nil none 0 ze0) HD.o (hf1.trans HG.o);refine bodyPost_ret (v:= .agg #[_,_,_]) (results_cell_row rfl _ _ w.heap.size 133 _ (0,0) _ rfl p2 underlying133 rfl ?_) rfl p1
    as_aux_lemma=>kernel_rfl
   ·rw[if_neg c_acc]at hR;have h_acc:Hd (st.isB wAcc=false):=Lh (by simpa using c_acc)
    go_wp2_with fail
    refine(is_no br E st _ _ s_acc _ h_acc.o HD.o).mono ?_;rintro e w_acc ⟨rfl,hd,hf⟩;replace HD:=Lh hd;replace HG:=Lh (HG.o.trans hf);clear hd hf;by_cases c_open:st.isB [40]=true
    ·rw[if_pos c_open]at hR;subst hR;have h_open:=Lh c_open;have HL:=Lh (PSt.next_lt h_open.o)
     go_wp2_with fail
     refine(is_yes br E st _ _ s_open _ h_open.o HD.o).mono ?_;rintro e wY ⟨rfl,hd,hf⟩;replace HD:=Lh hd;replace HG:=Lh (HG.o.trans hf);clear hd hf;have hsY:=HG.o.size
     go_wp2_with fail
     refine(h00.o _ HL.o st.next _ le0 HD.o).mono ?_;rintro e wO ⟨_,rfl,haO,hrO,hfO⟩;obtain⟨a9,n9,c9,rfl⟩:=haO.slice
     go_upto_region 15 with fail
     have hA:=(Fr.refl (fun k=>k=br) wO).alloc (.cells #[.int .u8 (prF E 0 st.next).1.op,.int .i64 (prF E 0 st.next).1.n,.slice a9 n9 c9] 133);have hX:=Blk.new wO #[.int .u8 (prF E 0 st.next).1.op,.int .i64 (prF E 0 st.next).1.n,.slice a9 n9 c9] 133;have hsO:=hfO.size;generalize hxb:wO.heap.size=xb at*;replace HG:=Lh ((HG.o.trans hfO).trans hA);replace HD:=Lh (hrO.keep (br0.alloc le0 (.cells #[.int .u8 (prF E 0 st.next).1.op,.int .i64 (prF E 0 st.next).1.n,.slice a9 n9 c9] 133)));have ha:=Lh (haO.fr (Q:=fun b=>wY.heap.size<=b/\b<xb) hA (fun b hb=>⟨by omega,by omega⟩) (fun b hb=>⟨hb.1,by omega⟩));have hs5:xb<(wO.alloc (.cells #[.int .u8 (prF E 0 st.next).1.op,.int .i64 (prF E 0 st.next).1.n,.slice a9 n9 c9] 133)).heap.size:=hX.lt;generalize wO.alloc _=W5 at*;clear haO hrO hfO hA hxb
     go_wp2_with fail
     refine(must_l br E _ _ _ s_shut _ HD.o).mono ?_;rintro e wM ⟨rfl,hd,hf⟩;replace HD:=Lh hd;replace HG:=Lh (HG.o.trans hf);have hX2:=hX.fr hf (by omega);obtain⟨x0,x1,x2⟩:=hX2.q3;have h0:=H0.o.fr HG.o (by omega);have hsM:=hf.size;have ha2:=Lh (ha.o.fr (Q:=fun b=>wY.heap.size<=b/\b<wM.heap.size) hf (fun b hb=>⟨by omega,by omega⟩) (fun b hb=>⟨hb.1,by omega⟩));clear hd hf hX hX2;obtain⟨z0,z1,z2⟩:=h0.q3;obtain⟨k0,k1,k2⟩:=h0.u3
     go_wp2_with fail
     obtain⟨p1,p2⟩:=prPost_pass (x:=(prF E 0 st.next).1) wY.heap.size hlr (by omega) h0 ha2.o HD.o (hf1.trans HG.o);refine bodyPost_ret (v:= .agg #[_,_,_]) (results_cell_row rfl _ _ w.heap.size 133 _ (0,0) _ rfl p2 underlying133 rfl ?_) rfl p1
     as_aux_lemma=>kernel_rfl
    ·rw[if_neg c_open]at hR;have h_open:Hd (st.isB [40]=false):=Lh (by simpa using c_open)
     go_wp2_with fail
     refine(is_no br E st _ _ s_open _ h_open.o HD.o).mono ?_;rintro e w_open ⟨rfl,hd,hf⟩;replace HD:=Lh hd;replace HG:=Lh (HG.o.trans hf);clear hd hf;by_cases c_if:st.isB wIf=true
     ·rw[if_pos c_if]at hR;have h_if:=Lh c_if;have HL:=Lh (PSt.next_lt h_if.o);have HL2:=Lh (le1 (PSt.must_le E (prF E 0 st.next).2 wThen) (prF_len E 0 st.next));have HL3:=Lh (le1 (le1 (PSt.must_le E (prF E 0 ((prF E 0 st.next).2.must E wThen)).2 wElse) (prF_len E 0 ((prF E 0 st.next).2.must E wThen))) HL2.o);have HE:Hd (R=(.mk 18 0 [(prF E 0 st.next).1,(prF E 0 ((prF E 0 st.next).2.must E wThen)).1,(prF E 0 ((prF E 0 ((prF E 0 st.next).2.must E wThen)).2.must E wElse)).1],(prF E 0 ((prF E 0 ((prF E 0 st.next).2.must E wThen)).2.must E wElse)).2)):=hR.symm;clear hR;obtain⟨pa,hpa⟩: ∃p,prF E 0 st.next=p:=⟨_,rfl⟩;rw[hpa]at HL2 HL3 HE;obtain⟨s2,hs2q⟩: ∃s,pa.2.must E wThen=s:=⟨_,rfl⟩;rw[hs2q]at HL2 HL3 HE;obtain⟨pb,hpb⟩: ∃p,prF E 0 s2=p:=⟨_,rfl⟩;rw[hpb]at HL3 HE;obtain⟨s3,hs3q⟩: ∃s,pb.2.must E wElse=s:=⟨_,rfl⟩;rw[hs3q]at HL3 HE;obtain⟨pc,hpc⟩: ∃p,prF E 0 s3=p:=⟨_,rfl⟩;rw[hpc]at HE;have HPA:=Lh hpa;have HPB:=Lh hpb;have HPC:=Lh hpc;have HS2:=Lh hs2q;have HS3:=Lh hs3q;clear hpa hpb hpc hs2q hs3q
      go_wp2_with fail
      refine(is_yes br E st _ _ s_if _ h_if.o HD.o).mono ?_;rintro e wY ⟨rfl,hd,hf⟩;replace HD:=Lh hd;replace HG:=Lh (HG.o.trans hf);clear hd hf;have hsY:=HG.o.size
      go_wp2_with fail
      refine(h00.o _ HL.o st.next _ le0 HD.o).mono ?_;rw[HPA.o];rintro e wO ⟨_,rfl,haO,hrO,hfO⟩;obtain⟨a1,n1,c1,rfl⟩:=haO.slice
      go_upto_region 19 with fail
      have hA:=(Fr.refl (fun k=>k=br) wO).alloc (.cells #[.int .u8 pa.1.op,.int .i64 pa.1.n,.slice a1 n1 c1] 133);have hX:=Blk.new wO #[.int .u8 pa.1.op,.int .i64 pa.1.n,.slice a1 n1 c1] 133;have hsO:=hfO.size;generalize hxb:wO.heap.size=xb at*;replace HG:=Lh ((HG.o.trans hfO).trans hA);replace HD:=Lh (hrO.keep (br0.alloc le0 (.cells #[.int .u8 pa.1.op,.int .i64 pa.1.n,.slice a1 n1 c1] 133)));have ha:=Lh (haO.fr (Q:=fun b=>wY.heap.size<=b/\b<xb) hA (fun b hb=>⟨by omega,by omega⟩) (fun b hb=>⟨hb.1,by omega⟩));have hs5:xb<(wO.alloc (.cells #[.int .u8 pa.1.op,.int .i64 pa.1.n,.slice a1 n1 c1] 133)).heap.size:=hX.lt;generalize wO.alloc _=W5 at*;have HX:=Lh hX;clear haO hrO hfO hA hxb hX
      go_wp2_with fail
      refine(must_l br E _ _ _ s_then _ HD.o).mono ?_;rw[HS2.o];rintro e wM ⟨rfl,hd,hf⟩;replace HD:=Lh hd;replace HG:=Lh (HG.o.trans hf);replace HX:=Lh (HX.o.fr hf (by omega));have hsM:=hf.size;replace ha:=Lh (ha.o.fr (Q:=fun b=>wY.heap.size<=b/\b<xb) hf (fun b hb=>⟨by omega,by omega⟩) (fun b hb=>hb));clear hd hf
      go_wp2_with fail
      refine(h00.o _ HL.o s2 _ HL2.o HD.o).mono ?_;rw[HPB.o];rintro e wP ⟨_,rfl,haO,hrO,hfO⟩;obtain⟨a2,n2,c2,rfl⟩:=haO.slice
      go_upto_region 21 with fail
      have hA:=(Fr.refl (fun k=>k=br) wP).alloc (.cells #[.int .u8 pb.1.op,.int .i64 pb.1.n,.slice a2 n2 c2] 133);have hX:=Blk.new wP #[.int .u8 pb.1.op,.int .i64 pb.1.n,.slice a2 n2 c2] 133;have hsP:=hfO.size;generalize hxb:wP.heap.size=yb at*;replace HG:=Lh ((HG.o.trans hfO).trans hA);replace HD:=Lh (hrO.keep (br0.alloc le0 (.cells #[.int .u8 pb.1.op,.int .i64 pb.1.n,.slice a2 n2 c2] 133)));replace HX:=Lh (HX.o.fr (hfO.trans hA) (by omega));replace ha:=Lh (ha.o.fr (Q:=fun b=>wY.heap.size<=b/\b<xb) (hfO.trans hA) (fun b hb=>⟨by omega,by omega⟩) (fun b hb=>hb));have hb3:=Lh (haO.fr (Q:=fun b=>wY.heap.size<=b/\b<yb) hA (fun b hb=>⟨by omega,by omega⟩) (fun b hb=>⟨by omega,by omega⟩));have hs7:yb<(wP.alloc (.cells #[.int .u8 pb.1.op,.int .i64 pb.1.n,.slice a2 n2 c2] 133)).heap.size:=hX.lt;generalize wP.alloc _=W7 at*;have HY:=Lh hX;clear haO hrO hfO hA hxb hX
      go_wp2_with fail
      refine(must_l br E _ _ _ s_else _ HD.o).mono ?_;rw[HS3.o];rintro e wE ⟨rfl,hd,hf⟩;replace HD:=Lh hd;replace HG:=Lh (HG.o.trans hf);replace HX:=Lh (HX.o.fr hf (by omega));replace HY:=Lh (HY.o.fr hf (by omega));have hsE:=hf.size;replace ha:=Lh (ha.o.fr (Q:=fun b=>wY.heap.size<=b/\b<xb) hf (fun b hb=>⟨by omega,by omega⟩) (fun b hb=>hb));replace hb3:=Lh (hb3.o.fr (Q:=fun b=>wY.heap.size<=b/\b<yb) hf (fun b hb=>⟨by omega,by omega⟩) (fun b hb=>hb));have H0E:=Lh (H0.o.fr HG.o (by omega));obtain⟨x0,x1,x2⟩:=HX.o.q3;obtain⟨y0,y1,y2⟩:=HY.o.q3;clear hd hf
      go_upto_region 22 with fail
      go_region_with (refine(h00.o _ HL.o s3 _ HL3.o (HD.o.keep (Below.refl _ wE).drew)).mono ?_;rw[HPC.o];rintro e w9 ⟨_,rfl,ha9,hr9,hf9⟩;obtain⟨a9,n9,c9,rfl⟩:=ha9.slice;have hD9:=(Fr.refl (fun k=>k=br) wE).drew.trans hf9;have hs9:=hD9.size;have h0:=H0E.o.fr hD9 (by omega);obtain⟨z0,z1,z2⟩:=h0.q3;obtain⟨k0,k1,k2⟩:=h0.u3;have hX9:=HX.o.fr hD9 (by omega);obtain⟨p0,p1,p2⟩:=hX9.q3;have hY9:=HY.o.fr hD9 (by omega);obtain⟨q0,q1,q2⟩:=hY9.q3;have hl9:=h0.lt;have hlx:=hX9.lt;have hly:=hY9.lt)
      all_goals
       go_wp2_with fail
       have ha':=ha.o.fr (Q:=fun b=>wY.heap.size<=b/\b<w9.heap.size) hD9 (fun b hb=>⟨by omega,by omega⟩) (fun b hb=>⟨hb.1,by omega⟩);have hb':=hb3.o.fr (Q:=fun b=>wY.heap.size<=b/\b<w9.heap.size) hD9 (fun b hb=>⟨by omega,by omega⟩) (fun b hb=>⟨hb.1,by omega⟩);have hc':=ha9.mono (Q:=fun b=>wY.heap.size<=b/\b<w9.heap.size) (fun b hb=>⟨by have:=hb.1;simp at this;omega,hb.2⟩);obtain⟨e1,e2⟩:=prPost_new (op:=18) (l:=[pa.1,pb.1,pc.1]) (n:=3) wY.heap.size hlr (by omega) h0 hr9 ((hf1.trans HG.o).trans hD9) (fun W P hb hP hk=>ArgsIn.three hb hP (hk _ _ ha') (hk _ _ hb') (hk _ _ hc'));rw[HE.o];refine bodyPost_ret (v:= .agg #[_,_,_]) (results_cell_row rfl _ _ w.heap.size 133 _ (0,0) _ rfl e2 underlying133 rfl ?_) rfl e1
       as_aux_lemma=>kernel_rfl
     ·rw[if_neg c_if]at hR;have h_if:Hd (st.isB wIf=false):=Lh (by simpa using c_if)
      go_wp2_with fail
      refine(is_no br E st _ _ s_if _ h_if.o HD.o).mono ?_;rintro e w_if ⟨rfl,hd,hf⟩;replace HD:=Lh hd;replace HG:=Lh (HG.o.trans hf);clear hd hf;subst hR
      go_wp2_with fail
      refine(fails_c br E st _ HD.o).mono ?_;rintro e wY ⟨rfl,hd,hf⟩;replace HD:=Lh hd;replace HG:=Lh (HG.o.trans hf);clear hd hf;have h0:=H0.o.fr HG.o (by omega);obtain⟨z0,z1,z2⟩:=h0.q3;obtain⟨k0,k1,k2⟩:=h0.u3
      go_wp2_with fail
      obtain⟨p1,p2⟩:=prPost_pass (x:=Ex.zero) (w.heap.size+1) hlr (by omega) h0 (.nil none 0 ze0) HD.o (hf1.trans HG.o);refine bodyPost_ret (v:= .agg #[_,_,_]) (results_cell_row rfl _ _ w.heap.size 133 _ (0,0) _ rfl p2 underlying133 rfl ?_) rfl p1
      as_aux_lemma=>kernel_rfl
def lvF:Nat->FuncId
 |0=>215
 |1=>244
 |2=>276
 |3=>293
 |4=>298
 |5=>300
 |_=>305
theorem reader_all (br:Nat) (E:Int) (N:Nat): ∀(lv:Nat) (st:PSt),st.need lv<=N->lv<=6-> ∀w:World,RdAt w br E st->
  Calls prog (lvF lv) #[.pointer (some ⟨br,0,none⟩)] w (PrPost w (fun w st=>RdAt w br E st) br (prF E lv st)):=by
 induction N using Nat.strongRecOn with
 |ind N ih=>
  intro lv st hn hlv w h;unfold PSt.need at hn;have ih': ∀(lv':Nat) (st':PSt),st'.need lv'<N->lv'<=6-> ∀w:World,RdAt w br E st'->Calls prog (lvF lv') #[.pointer (some ⟨br,0,none⟩)] w (PrPost w (fun w st=>RdAt w br E st) br (prF E lv' st')):=
   fun lv' st' h1 h2 w h3=>ih _ h1 lv' st' le0 h2 w h3
  unfold PSt.need at ih'
  match lv,hlv with
  |0,_=>rw[prF_row E 0 st (by omega)];exact lv_or (prF E 1) br E st w h (prF_len E 1) (fun st' w' hl hr=>ih' 1 st' (by omega) (by omega) w' hr)
  |1,_=>rw[prF_row E 1 st (by omega)];exact lv_and (prF E 2) br E st w h (prF_len E 2) (fun st' w' hl hr=>ih' 2 st' (by omega) (by omega) w' hr)
  |2,_=>rw[prF_row E 2 st (by omega)];exact lv_cmp (prF E 3) br E st w h (prF_len E 3) (fun st' w' hl hr=>ih' 3 st' (by omega) (by omega) w' hr)
  |3,_=>rw[prF_row E 3 st (by omega)];exact lv_sum (prF E 4) br E st w h (prF_len E 4) (fun st' w' hl hr=>ih' 4 st' (by omega) (by omega) w' hr)
  |4,_=>rw[prF_row E 4 st (by omega)];exact lv_term (prF E 5) br E st w h (prF_len E 5) (fun st' w' hl hr=>ih' 5 st' (by omega) (by omega) w' hr)
  |5,_=>
   rw[prF_unary];exact lv_unary br E st w h (fun n hlt st' w' hl hr=>ih' 5 st' (by omega) (by omega) w' hr) (fun st' w' hl hr=>ih' 6 st' (by omega) (by omega) w' hr)
  |6,_=>
   have h0:Hd (∀n,n<st.l.length->PrC 215 br E (prF E 0) n):=fun n hlt st' w' hl hr=>ih' 0 st' (by omega) (by omega) w' hr;rw[prF_one];exact lv_one br E st w h h0
  |n+7,h=>omega
theorem or_c (br:Nat) (E:Int) (st:PSt) (w:World) (h:RdAt w br E st):
  Calls prog 215 #[.pointer (some ⟨br,0,none⟩)] w (PrPost w (fun w st=>RdAt w br E st) br (prF E 0 st)):=reader_all br E _ 0 st le0 (by omega) w h

