/- Parts. -/
import Derived.Test.YtgbfdcmkbblodaaGreatDoorVW21
import Derived.Test.YtgbfdcmkbblodaaGreatDoorVY43
namespace Go.Proofs.YtgbfdcmkbblodaaGreatDoor
open Go.RowKit
set_option linter.unusedVariables false
set_option linter.unusedSimpArgs false
set_option maxRecDepth 100000
set_option maxHeartbeats 16000000
open Tryz
structure TJR (w wx:World) (B0:Nat) (q:Rd) (par:Int) (jv:Value):Prop where
 below:Below w.heap.size w wx
 t:RT wx (w.heap.size+1) q
 r:Blk wx w.heap.size 24 #[.int .i64 0,.slice none 0 0]
 j:Blk wx (w.heap.size+1+1) 24 #[.int .i64 par,jv]
 big:B0<=wx.heap.size
theorem TJR.step {w wx wy:World} {B0:Nat} {q q':Rd} {par:Int} {jv:Value} (h:TJR w wx B0 q par jv) (hf:Fr (FrT (w.heap.size+1)) wx wy) (hp:RT wy (w.heap.size+1) q'):TJR w wy B0 q' par jv:=
 ⟨h.below.trans (hf.below h.below.size (fun k hk q=>by unfold FrT at q;omega)),hp,h.r.fr hf (fun q=>by unfold FrT at q;omega),h.j.fr hf (fun q=>by unfold FrT at q;omega),le1 h.big hf.size⟩
theorem TJR.keepB {w wx wy:World} {B0 B:Nat} {q:Rd} {par:Int} {jv:Value} (h:TJR w wx B0 q par jv) (h1:(w.heap.size+1+1)<B)
  (ho:wy.os=wx.os) (ht:wy.tape=wx.tape) (hu:wy.output=wx.output) (hs:wx.heap.size<=wy.heap.size) (hk: ∀b,b<B->wy.heap[b]? =wx.heap[b]?):TJR w wy B0 q par jv:=
 ⟨⟨ho.trans h.below.os,ht.trans h.below.tape,hu.trans h.below.output,le1 h.below.size hs,fun b hb=>(hk b (by omega)).trans (h.below.block b hb)⟩,Blk.same h.t (hk _ (by omega)),h.r.same (hk _ (by omega)),h.j.same (hk _ (by omega)),le1 h.big hs⟩
theorem TJR.setJ {w wx:World} {B0:Nat} {q:Rd} {par:Int} {jv:Value} (h:TJR w wx B0 q par jv) (u:Value):TJR w (wx.setCell ⟨(w.heap.size+1+1),1,none⟩ u) B0 q par u:=
 ⟨h.below.setCell (p:=⟨(w.heap.size+1+1),1,none⟩) (by show _<=(w.heap.size+1+1);omega) u,h.t.other (a:=⟨(w.heap.size+1+1),1,none⟩) (by show _≠(w.heap.size+1+1);omega) u,h.r.other (p:=⟨(w.heap.size+1+1),1,none⟩) (by show _≠(w.heap.size+1+1);omega) u,h.j.set 1 u,by simpa using h.big⟩
theorem TJR.keep {w wx wy:World} {B0:Nat} {q:Rd} {par:Int} {jv:Value} (h:TJR w wx B0 q par jv) (hf:Below wx.heap.size wx wy):TJR w wy B0 q par jv:=
 h.step (Fr.of_new hf) (h.t.fr (Fr.of_new (S:=fun _=>False) hf) id)
theorem NRowP.frT {B0 bt:Nat} {wx wy:World} {l:List Nd} {av:Value} {cs:List Value} {ivs svs:Nat->Value} (h:NRowP B0 wx l av cs ivs svs) (hf:Fr (FrT bt) wx wy) (h1:bt<B0):NRowP B0 wy l av cs ivs svs:=
 h.keepB hf.size fun b hb hlt=>hf.block b hlt (fun q=>by unfold FrT at q;omega)
theorem rjb_good {s:ByteArray} (he:(Rd.rjb s).2.e=0):(Rd.rjb s).1.ok/\(∀d∈(Rd.rjb s).1.nodes,d.uid.size<=1000000):=by
 obtain⟨h1,h2⟩:=rjb_alike s;rw[h1]at he;obtain⟨q1,q2,_⟩:=jb_bck s he;rw[h2 he];exact⟨q1,fun d hd=>le1 (q2 d hd) (by decide)⟩
theorem rNds_len: ∀(m:Nat) (p:Rd),(rNds m p).1.length<=m
 |0,p=>le0
 |m+1,p=>by
  simp only[rNds]
  split
  ·exact ze0
  ·have:=rNds_len m p.rnd.2
   simp only[List.length_cons]
   omega
theorem rjb_len (s:ByteArray):(Rd.rjb s).1.nodes.length<=1000:=by
 have h:=rNds_len ((Rd.num ⟨s,0⟩).2.win 12 3).1.toNat ((Rd.num ⟨s,0⟩).2.win 12 3).2;have h2:=win_ir 12 3 (by decide) (Rd.num ⟨s,0⟩).2;have e:(Rd.rjb s).1.nodes=(rNds ((Rd.num ⟨s,0⟩).2.win 12 3).1.toNat ((Rd.num ⟨s,0⟩).2.win 12 3).2).1:=rfl;rw[e];omega
theorem rTake14_c (s:ByteArray) (hs:s.size<=140737488355328) (w:World):Calls prog 51 #[.string s] w (TakeJPost s w):=by
 unfold TakeJPost;have HTJ:=Lh (takeJ_ref s);have HGD:=Lh (fun h=>rjb_good (s:=s) h);have HLN:=Lh (rjb_len s);have hr0:=(((Blk.new w #[.int .i64 0,.slice none 0 0] 24).alloc (.cells #[.string s,.int .i64 0] 171)).alloc (.cells #[.int .i64 0,.slice none 0 0] 24));have ht0:RT (((w.alloc (.cells #[.int .i64 0,.slice none 0 0] 24)).alloc (.cells #[.string s,.int .i64 0] 171)).alloc (.cells #[.int .i64 0,.slice none 0 0] 24)) (w.heap.size+1) ⟨s,0⟩:=Blk.alloc (Blk.new_at _ _ _ (by simp)) _;have hj0:Blk (((w.alloc (.cells #[.int .i64 0,.slice none 0 0] 24)).alloc (.cells #[.string s,.int .i64 0] 171)).alloc (.cells #[.int .i64 0,.slice none 0 0] 24)) (w.heap.size+1+1) 24 #[.int .i64 0,.slice none 0 0]:=Blk.new_at _ _ _ (by simp);have hB0:Below w.heap.size w (((w.alloc (.cells #[.int .i64 0,.slice none 0 0] 24)).alloc (.cells #[.string s,.int .i64 0] 171)).alloc (.cells #[.int .i64 0,.slice none 0 0] 24)):=(((Below.refl _ w).alloc le0 _).alloc (by simp) _).alloc (by simp;omega) _;have hT0:TJR w (((w.alloc (.cells #[.int .i64 0,.slice none 0 0] 24)).alloc (.cells #[.string s,.int .i64 0] 171)).alloc (.cells #[.int .i64 0,.slice none 0 0] 24)) 0 ⟨s,0⟩ 0 (.slice none 0 0):=⟨hB0,ht0,hr0,hj0,ze0⟩;clear hr0 ht0 hj0 hB0;go_enter func51,ntmps51
 go_upto_region 3 with fail
 generalize World.alloc (World.alloc (World.alloc w _) _) _=W at*
 go_wp2_with fail
 refine(tnumber_c _ _ hs W hT0.t).mono ?_;rintro e w1 ⟨rfl,h1,f1⟩;have hs1:=le1 (Rd.num_size ⟨s,0⟩) hs;have HJB:Hd (Rd.rjb s=(⟨(Rd.num ⟨s,0⟩).1,(rNds ((Rd.num ⟨s,0⟩).2.win 12 3).1.toNat ((Rd.num ⟨s,0⟩).2.win 12 3).2).1⟩,(rNds ((Rd.num ⟨s,0⟩).2.win 12 3).1.toNat ((Rd.num ⟨s,0⟩).2.win 12 3).2).2)):=rfl;generalize Rd.num ⟨s,0⟩=q1 at*;have hT1:=hT0.step f1 h1;clear hT0 h1 f1;have z0:=hT1.j.free 0;have c0:=hT1.j.cell 0
 go_upto_region 4 with fail
 have hT:TJR w (w1.setCell ⟨(w.heap.size+1+1),0,none⟩ (.int .i64 q1.1)) 0 q1.2 q1.1 (.slice none 0 0):=
  ⟨hT1.below.setCell (p:=⟨(w.heap.size+1+1),0,none⟩) (by show _<=(w.heap.size+1+1);omega) _,hT1.t.other (a:=⟨(w.heap.size+1+1),0,none⟩) (by show _≠(w.heap.size+1+1);omega) _,hT1.r.other (p:=⟨(w.heap.size+1+1),0,none⟩) (by show _≠(w.heap.size+1+1);omega) _,hT1.j.set 0 _,ze0⟩
 generalize w1.setCell ⟨(w.heap.size+1+1),0,none⟩ (.int .i64 q1.1)=W1 at*;clear z0 c0 hT1
 go_wp2_with fail
 refine(twithin_c _ 12 3 q1.2 hs1 W1 hT.t).mono ?_;rintro e w2 ⟨rfl,h2,f2⟩;have hs2:=le1 (win_size 12 3 q1.2) hs1;have hml:=win_ir 12 3 (by omega) q1.2;generalize q1.2.win 12 3=q2 at*;obtain⟨m,q2⟩:=q2;obtain⟨mm,rfl⟩: ∃mm:Nat,m=(mm:Int):=⟨m.toNat,by have:=hml.1;dsimp only at this;omega⟩;dsimp only at HJB h2 hs2 hml;rw[Int.toNat_natCast]at HJB;have hT2:=hT.step f2 h2;clear hT h2 f2;have hjl:=hT2.j.lt;have hT3:TJR w w2 w2.heap.size q2 q1.1 (.slice none 0 0):=⟨hT2.below,hT2.t,hT2.r,hT2.j,le0⟩;have hN:=NRowP.nil w2.heap.size w2 (fun _=>undef) (fun _=>undef);generalize hB0:w2.heap.size=B0 at hjl hT3 hN;clear hT2 hB0
 go_upto_block 0 with fail
 go_cut [] (fun wx=> ∃(av:Value) (cs:List Value) (ivs svs:Nat->Value),TJR w wx B0 (Rd.rjb s).2 q1.1 av/\NRowP B0 wx (Rd.rjb s).1.nodes av cs ivs svs)
 case rest=>
  obtain⟨av,cs,ivs,svs,hTc,hNc⟩:=hcut;obtain⟨a,cap,hav,hcap,hmx⟩:=(hNc.nodes le0).slice;subst hav;have hpar:(Rd.rjb s).1.par=q1.1:=by rw[HJB.o]
  clear hN hT3 hml hs2 hs1 HJB;generalize Rd.rjb s=r at*;obtain⟨jb,p⟩:=r;dsimp only at HTJ HGD HLN hTc hNc hcap hpar;generalize hRR:takeJ s=R at HTJ;have HRR:=Lh hRR;clear hRR;have e1:=Blk.cell hTc.t 1;have r0:=hTc.r.free 0;have r1:=hTc.r.free 1;have r2:=hTc.r.cell 0;have r3:=hTc.r.cell 1;by_cases he:p.e=0
  ·have heb:(p.e !=0)=false:=by simpa using he
   obtain⟨hok,hus⟩:=HGD.o he;have HMY:=Lh (fun v B w hv hB=>rMayJ_c jb hok hus HLN.o v B w hv hB);have HTJ2:Hd (R=if p.s.size≠0\/jb.may.2≠0 then(⟨0,[]⟩,2)else(jb,0)):=by show _=_;rw[HTJ.o,if_neg (by simpa using he)]
   clear HTJ HGD hok hus he;have j0:=hTc.j.cell 0;have j1:=hTc.j.cell 1;have HJ:Hd (JbAt wc wc.heap.size (.agg #[.int .i64 q1.1,.slice a jb.nodes.length cap]) jb):=⟨_,by rw[hpar],hNc.nodes le0⟩
   go_wp2_with fail
   refine(HMY.o _ _ wc HJ.o le0).mono ?_;rintro e w3 ⟨rfl,hb3⟩;have hTm:=hTc.keep hb3;have hNm:=hNc.keepB hb3.size (fun b _ hb=>hb3.block b hb);clear hTc hNc hb3 j0 j1 HJ HMY r0 r1 r2 r3 e1;have d0:=Blk.cell hTm.t 0;have r0:=hTm.r.free 0;have r1:=hTm.r.free 1;have r2:=hTm.r.cell 0;have r3:=hTm.r.cell 1;have j0:=hTm.j.cell 0;have j1:=hTm.j.cell 1;have hem:=emp_size p.s;by_cases hz:p.s.size=0
   ·have hz1:p.s.toList.isEmpty=true:=by rw[hem];exact dt0 hz
    by_cases hm:jb.may.2=0
    ·have hmb:(jb.may.2 !=0)=false:=by simpa using hm
     have HR:Hd (R=(jb,0)):=by show _=_;rw[HTJ2.o,if_neg (by simp[hz,hm])]
     clear hem hz HTJ2 hm
     go_wp2_with fail
     refine bodyPost_ret (v:= .tuple #[.agg #[_,_],_]) (results_cell_row2P rfl _ _ w.heap.size 24 _ (0,0) _ rfl (jb_set hTm.r rfl _ _) underlying24 rfl ?_ (.int .i64 0) rfl) rfl ?_
     ·as_aux_lemma=>kernel_rfl
     ·rw[HRR.o,HR.o];refine⟨_,rfl,⟨_,by rw[hpar],(hNm.keepB (wy:=(w3.setCell ⟨w.heap.size,0,none⟩ (.int .i64 q1.1)).setCell ⟨w.heap.size,1,none⟩ (.slice a jb.nodes.length cap)) (by simp) (fun b hb _=>?_)).nodesIn.mono (fun b hb=>⟨by have:=hb.1;omega,hb.2⟩)⟩,(hTm.below.setCell (p:=⟨w.heap.size,0,none⟩) le0 _).setCell (p:=⟨w.heap.size,1,none⟩) le0 _⟩;have hn:b≠w.heap.size:=by omega
      rw[heap_setCell_other _ ⟨w.heap.size,1,none⟩ b _ hn,heap_setCell_other _ ⟨w.heap.size,0,none⟩ b _ hn]
    ·have hmb:(jb.may.2 !=0)=true:=by simpa using hm
     have HR:Hd (R=(⟨0,[]⟩,2)):=by show _=_;rw[HTJ2.o,if_pos (Or.inr hm)]
     clear hem hz HTJ2 hm
     go_wp2_with fail
     refine bodyPost_ret (v:= .tuple #[.agg #[_,_],_]) (results_cell_row2P rfl _ _ w.heap.size 24 _ (0,0) _ rfl (jb_set hTm.r rfl _ _) underlying24 rfl ?_ (.int .i64 2) rfl) rfl ?_
     ·as_aux_lemma=>kernel_rfl
     ·rw[HRR.o,HR.o];exact⟨_,rfl,⟨_,rfl,none,0,rfl,le0,ze0,.inl rfl⟩,(hTm.below.setCell (p:=⟨w.heap.size,0,none⟩) le0 _).setCell (p:=⟨w.heap.size,1,none⟩) le0 _⟩
   ·have hz1:p.s.toList.isEmpty=false:=by rw[hem];exact df0 hz
    have HR:Hd (R=(⟨0,[]⟩,2)):=by show _=_;rw[HTJ2.o,if_pos (Or.inl hz)]
    clear hem hz HTJ2
    go_wp2_with fail
    refine bodyPost_ret (v:= .tuple #[.agg #[_,_],_]) (results_cell_row2P rfl _ _ w.heap.size 24 _ (0,0) _ rfl (jb_set hTm.r rfl _ _) underlying24 rfl ?_ (.int .i64 2) rfl) rfl ?_
    ·as_aux_lemma=>kernel_rfl
    ·rw[HRR.o,HR.o];exact⟨_,rfl,⟨_,rfl,none,0,rfl,le0,ze0,.inl rfl⟩,(hTm.below.setCell (p:=⟨w.heap.size,0,none⟩) le0 _).setCell (p:=⟨w.heap.size,1,none⟩) le0 _⟩
  ·have heb:(p.e !=0)=true:=by simpa using he
   have HR:Hd (R=(⟨0,[]⟩,p.e)):=by show _=_;rw[HTJ.o,if_pos he]
   clear he HTJ
   go_upto_region 20 with fail
   go_region
   all_goals
    go_wp2_with fail
    refine bodyPost_ret (v:= .tuple #[.agg #[_,_],_]) (results_cell_row2P rfl _ _ w.heap.size 24 _ (0,0) _ rfl (Blk.drew (jb_set hTc.r rfl _ _)) underlying24 rfl ?_ (.int .i64 p.e) rfl) rfl ?_
    ·as_aux_lemma=>kernel_rfl
    ·rw[HRR.o,HR.o];exact⟨_,rfl,⟨_,rfl,none,0,rfl,le0,ze0,.inl rfl⟩,((hTc.below.setCell (p:=⟨w.heap.size,0,none⟩) le0 _).setCell (p:=⟨w.heap.size,1,none⟩) le0 _).drew⟩
 go_wp2_with fail
 go_loopw [7] (fun q wx=> ∃(i:Nat) (acc:List Nd) (av:Value) (cs:List Value) (ivs svs:Nat->Value) (p:Rd),q= .int .i64 (i:Int)/\i<=mm/\acc.length=i/\rNds mm q2=(acc++(rNds (mm-i) p).1,(rNds (mm-i) p).2)/\p.s.size<=140737488355328/\
  TJR w wx B0 p q1.1 av/\NRowP B0 wx acc av cs ivs svs) (fun q _=>mm-(intOf q).toNat)
 case atStart=>exact⟨0,[],.slice none 0 0,[],fun _=>undef,fun _=>undef,q2,rfl,ze0,rfl,by simp,hs2,hT3,hN⟩
 case round=>
  obtain⟨i,acc,av,cs,ivs,svs,p,rfl,hi,hal,hE,hps,hTr,hNr⟩:=hrel;have HAL:=Lh hal;clear hal hT3 hN;have c1:=Blk.cell hTr.t 1;by_cases hlt:i<mm
  ·have hltd:decide ((i:Int)<(mm:Int))=true:=dt0 (by omega);by_cases hpe:p.e=0
   ·have hpb:(p.e==0)=true:=by simpa using hpe
    have HT2:Hd (rNds mm q2=(acc++(rNds ((mm-i-1)+1) p).1,(rNds ((mm-i-1)+1) p).2)):=by show _=_;rw[hE];rw[show mm-i-1+1=mm-i by omega]
    have HT3:Hd (rNds ((mm-i-1)+1) p=(p.rnd.1::(rNds (mm-i-1) p.rnd.2).1,(rNds (mm-i-1) p.rnd.2).2)):=by show _=_;(conv=>lhs;unfold rNds);rw[if_neg (by simpa using hpe)]
    have HND:Hd (p.rnd=(⟨p.text.1,(p.text.2.win 255 2).1,(reps Rd.num ((p.text.2.win 255 2).2.num.2.win 12 3).1.toNat ((p.text.2.win 255 2).2.num.2.win 12 3).2).1,(Rd.rx 17 (reps Rd.num ((p.text.2.win 255 2).2.num.2.win 12 3).1.toNat ((p.text.2.win 255 2).2.num.2.win 12 3).2).2).1,(p.text.2.win 255 2).2.num.1⟩,
     (Rd.rx 17 (reps Rd.num ((p.text.2.win 255 2).2.num.2.win 12 3).1.toNat ((p.text.2.win 255 2).2.num.2.win 12 3).2).2).2)):=rfl
    clear hE hpe;generalize wr=wo at*;have hus:=p.text_le;have hs1:=le1 p.text_size hps;have HTX:=Lh (fun W h1=>ttext_c (w.heap.size+1) p hps W h1);generalize p.text=t1 at*;have hs2:=le1 (win_size 255 2 t1.2) hs1;have HSM:=Lh (fun W h1=>twithin_c (w.heap.size+1) 255 2 t1.2 hs1 W h1);have hir:=win_ir 255 2 (by omega) t1.2;generalize t1.2.win 255 2=t2 at*;have hs3:=le1 t2.2.num_size hs2;have HNU:=Lh (fun W h1=>tnumber_c (w.heap.size+1) t2.2 hs2 W h1);generalize t2.2.num=t3 at*;have hs4:=le1 (win_size 12 3 t3.2) hs3;have HMN:=Lh (fun W h1=>twithin_c (w.heap.size+1) 12 3 t3.2 hs3 W h1);have hml2:=win_ir 12 3 (by omega) t3.2;generalize t3.2.win 12 3=t4 at*;obtain⟨u,p1⟩:=t1;obtain⟨kd,p2⟩:=t2;obtain⟨n,p3⟩:=t3;obtain⟨m,p4⟩:=t4;dsimp only at HND HTX HSM HNU HMN hs1 hs2 hs3 hs4 hus hml2 hir;obtain⟨kk,rfl⟩: ∃kk:Nat,m=(kk:Int):=⟨m.toNat,by have:=hml2.1;omega⟩;rw[Int.toNat_natCast]at HND;have hbt:=hTr.t.lt;have hbig:=hTr.big;have hjlt:=hTr.j.lt;have hu2:u.size<=maxLen:=by unfold maxLen;omega
    clear hus;have nb:=Blk.new wo #[.string ⟨#[]⟩,.int .u8 0,.slice none 0 0,.int .u8 0,.int .i64 0,.slice none 0 0,.int .i64 0] 135;have f:Fr (FrT (w.heap.size+1)) wo (wo.alloc (.cells #[.string ⟨#[]⟩,.int .u8 0,.slice none 0 0,.int .u8 0,.int .i64 0,.slice none 0 0,.int .i64 0] 135)):=(Fr.refl _ wo).alloc _;have ps:=hTr.t.alloc (.cells #[.string ⟨#[]⟩,.int .u8 0,.slice none 0 0,.int .u8 0,.int .i64 0,.slice none 0 0,.int .i64 0] 135);have hbn: ¬FrT (w.heap.size+1) wo.heap.size:=by unfold FrT;omega
    have hnl:wo.heap.size<(wo.alloc (.cells #[.string ⟨#[]⟩,.int .u8 0,.slice none 0 0,.int .u8 0,.int .i64 0,.slice none 0 0,.int .i64 0] 135)).heap.size:=by simp
    go_upto_region 9 with fail
    generalize wo.alloc (.cells #[.string ⟨#[]⟩,.int .u8 0,.slice none 0 0,.int .u8 0,.int .i64 0,.slice none 0 0,.int .i64 0] 135)=W8 at*;clear c1
    go_wp2_with fail
    refine(HTX.o _ ps).mono ?_;rintro e wa ⟨rfl,psn,fn⟩;replace nb:=nb.fr fn hbn;replace f:=f.trans fn;replace ps:=psn;clear fn psn;have z0:=nb.free 0;have c0:=nb.cell 0
    go_upto_region 10 with fail
    have nbn:Blk (wa.setCell ⟨wo.heap.size,0,none⟩ (.string u)) wo.heap.size 135 #[.string u,.int .u8 0,.slice none 0 0,.int .u8 0,.int .i64 0,.slice none 0 0,.int .i64 0]:=nb.set 0 (.string u);have fn:=f.setCell (p:=⟨wo.heap.size,0,none⟩) (.inr le0) (.string u);have psn:=ps.other (a:=⟨wo.heap.size,0,none⟩) (by show _≠wo.heap.size;omega) (.string u);generalize wa.setCell ⟨wo.heap.size,0,none⟩ (.string u)=wax at*;clear z0 c0 nb f ps;have nb:=nbn;have f:=fn;have ps:=psn;clear nbn fn psn
    go_wp2_with fail
    refine(HSM.o _ ps).mono ?_;rintro e wb ⟨rfl,psn,fn⟩;replace nb:=nb.fr fn hbn;replace f:=f.trans fn;replace ps:=psn;clear fn psn;have z0:=nb.free 1;have c0:=nb.cell 1
    go_upto_region 11 with fail
    have nbn:Blk (wb.setCell ⟨wo.heap.size,1,none⟩ (.int .u8 kd)) wo.heap.size 135 #[.string u,.int .u8 kd,.slice none 0 0,.int .u8 0,.int .i64 0,.slice none 0 0,.int .i64 0]:=nb.set 1 (.int .u8 kd);have fn:=f.setCell (p:=⟨wo.heap.size,1,none⟩) (.inr le0) (.int .u8 kd);have psn:=ps.other (a:=⟨wo.heap.size,1,none⟩) (by show _≠wo.heap.size;omega) (.int .u8 kd);generalize wb.setCell ⟨wo.heap.size,1,none⟩ (.int .u8 kd)=wbx at*;clear z0 c0 nb f ps;have nb:=nbn;have f:=fn;have ps:=psn;clear nbn fn psn
    go_wp2_with fail
    refine(HNU.o _ ps).mono ?_;rintro e wd ⟨rfl,psn,fn⟩;replace nb:=nb.fr fn hbn;replace f:=f.trans fn;replace ps:=psn;clear fn psn;have z0:=nb.free 6;have c0:=nb.cell 6
    go_upto_region 12 with fail
    have nbn:Blk (wd.setCell ⟨wo.heap.size,6,none⟩ (.int .i64 n)) wo.heap.size 135 #[.string u,.int .u8 kd,.slice none 0 0,.int .u8 0,.int .i64 0,.slice none 0 0,.int .i64 n]:=nb.set 6 (.int .i64 n);have fn:=f.setCell (p:=⟨wo.heap.size,6,none⟩) (.inr le0) (.int .i64 n);have psn:=ps.other (a:=⟨wo.heap.size,6,none⟩) (by show _≠wo.heap.size;omega) (.int .i64 n);generalize wd.setCell ⟨wo.heap.size,6,none⟩ (.int .i64 n)=wdx at*;clear z0 c0 nb f ps;have nb:=nbn;have f:=fn;have ps:=psn;clear nbn fn psn;clear HTX HSM HNU
    go_wp2_with fail
    refine(HMN.o _ ps).mono ?_;rintro e w6 ⟨rfl,psn,fn⟩;replace nb:=nb.fr fn hbn;replace f:=f.trans fn;replace ps:=psn;clear fn psn HMN;have hB1:wo.heap.size<w6.heap.size:=nb.lt;have own0:w6.ownsRow w6.heap.size 3 1 (.slice none 0 0) 0 ((reps Rd.num 0 p4).1.map (Value.int .i64)):=⟨rfl,.inl ⟨rfl,rfl⟩⟩;obtain⟨ji,ki,kz0,kz1,kz2⟩:=info_parts info_intJ;generalize hgB:w6.heap.size=B1 at hB1 own0;have hB2:B1<=w6.heap.size:=Nat.le_of_eq hgB.symm;clear hgB
    go_wp2_with fail
    go_loopw [10] (fun q wx=> ∃(j:Nat) (iv:Value),q= .int .i64 (j:Int)/\j<=kk/\Fr (FrT (w.heap.size+1)) wo wx/\RT wx (w.heap.size+1) (reps Rd.num j p4).2/\Blk wx wo.heap.size 135 #[.string u,.int .u8 kd,iv,.int .u8 0,.int .i64 0,.slice none 0 0,.int .i64 n]/\wx.ownsRow B1 3 1 iv j ((reps Rd.num j p4).1.map (Value.int .i64))/\B1<=wx.heap.size) (fun q _=>kk-(intOf q).toNat)
    case atStart=>exact⟨0,.slice none 0 0,rfl,ze0,f,ps,nb,own0,hB2⟩
    case round=>
     obtain⟨j,iv,rfl,hj,f7,h7,nb7,own7,hB7⟩:=hrel;clear f ps nb own0 hB2;have HSN:=Lh (reps_snoc Rd.num j p4);have hsr:=le1 (reps_size Rd.num Rd.num_size j p4) hs4;by_cases hlj:j<kk
     ·have hljd:decide ((j:Int)<(kk:Int))=true:=dt0 (by omega);generalize reps Rd.num j p4=r at*;have h7d:=h7.drew;have f7d:=f7.drew;have nb7d:=nb7.drew;have hx7:=nb7d.cell 2
      go_upto_region 16 with fail
      have f:=f7d;have ps:=h7d;have nb:=nb7d;have ow:=own_drew own7;have hB:=hB7;refine wp_region_held_drew (S:=(fun w'=>True)) (by kernel_rfl) ?_ (fun hHeld=>tk0 ?_)
      ·exact trivial
      repeat' first
       |refine tkN ?_
       |(refine tkX ?_;try simp only[Act.put,tkA,tkB,tkC,tkD,tkE,tkF])
       |(refine tkt (v:=?_) (by decide+kernel) rfl (by rfl) (fun _ _ _ h=>h) (by assumption) ?_ ?_;rotate_left;(· intro w' hSw;(try dsimp only at hSw);clear hSw;go_simp;(try with_reducible rfl));try simp only[Act.put,tkA,tkB,tkC,tkD,tkE,tkF])
       |refine tkM ?_
       |refine tkZ ?_
       |refine tkB1 ?_
       |refine brN ?_
       |exact brE
       |refine brc rfl (fun K hK=>?_) ?_
       |(replace hK:=hK;refine opD 53 (by decide+kernel) ?_;have hx:=nb.cell 2;go_simp;clear hx;refine hK.out _ _ ?_ (fun hHeld=>?_);(· exact trivial);clear hK K;try simp only[Act.put,tkA,tkB,tkC,tkD,tkE,tkF])
       |(replace hK:=hK;go_simp;go_at_call 106;refine(tnumber_c (w.heap.size+1) r.2 hsr _ ps).mono ?_;rintro e w8 ⟨rfl,psn,fn⟩;replace nb:=nb.fr fn hbn;replace ow:=own_fr ow fn (fun k q=>by unfold FrT at q;omega);replace hB:=le1 hB fn.size;replace f:=f.trans fn;replace ps:=psn;have hir8:=r.2.num_ir;generalize r.2.num=y at*;clear fn psn;refine hK.out _ _ ?_ (fun hHeld=>?_);(· exact trivial);clear hK K;try simp only[Act.put,tkA,tkB,tkC,tkD,tkE,tkF])
       |(replace hK:=hK;refine opIs 5 (by decide+kernel) ?_;go_simp;have nv:=Blk.new w8 #[.int .i64 y.1] 3;replace ps:=ps.alloc (.cells #[.int .i64 y.1] 3);replace nb:=nb.alloc (.cells #[.int .i64 y.1] 3);replace f:=f.alloc (.cells #[.int .i64 y.1] 3);replace ow:=own_alloc ow (.cells #[.int .i64 y.1] 3);have hBs:=hB;replace hB:B1<=(w8.alloc (.cells #[.int .i64 y.1] 3)).heap.size:=(by simp;omega);refine hK.out _ _ ?_ (fun hHeld=>?_);(· exact trivial);clear hK K;try simp only[Act.put,tkA,tkB,tkC,tkD,tkE,tkF])
       |(replace hK:=hK;refine opIs 3 (by decide+kernel) ?_;refine step_append_lies _ (by rfl) _ _ _ (by rfl) B1 3 ji (.int .i64 0) 1 8 underlying130 ki kz0 kz1 kz2 rfl (by decide) iv j (r.1.map (Value.int .i64)) (by rfl) ow ⟨w8.heap.size,0,none⟩ 1 1 (#[Value.int .i64 y.1]).toList (by rfl) (by rfl) (World.news_of_block nv) (by simp[Value.oneCell']) (by omega) (by unfold maxLen;omega) (by omega) hB _ rfl ?_;intro g capg w9 own9 hg9 hat9 hlt9;have hgn: ∀q,iv.ownBlock=some q->B1<=q:=own_ge ow;have hgb:wo.heap.size≠g:=fun e=>(by rcases hat9 with h|h;(have:=hgn _ h;omega);(have:=nb.lt;omega));replace ps:RT w9 (w.heap.size+1) y.2:=Blk.grown ps hg9 (fun e=>by have:=hgn _ e.symm;omega);replace nb:=nb.grown hg9 (fun e=>by have:=hgn _ e.symm;omega);replace f:=f.grown hg9 (fun q e=> .inr (by have:=hgn _ e;omega));replace hB:=le1 hB hg9.size;replace ow:=own9;clear own9 hg9 hat9 nv hBs;refine hK.out _ _ ?_ (fun hHeld=>?_);(· exact trivial);clear hK K;try simp only[Act.put,tkA,tkB,tkC,tkD,tkE,tkF])
       |(replace hK:=hK;refine opIs 2 (by decide+kernel) ?_;have hx:=nb.cell 2;have hz:=nb.free 2;go_simp;clear hx hz;replace nb:=nb.set 2 (.slice (some ⟨g,0,none⟩) (j+1) capg);replace f:=f.setCell (p:=⟨wo.heap.size,2,none⟩) (.inr le0) (.slice (some ⟨g,0,none⟩) (j+1) capg);replace ps:=ps.other (a:=⟨wo.heap.size,2,none⟩) (by show _≠wo.heap.size;omega) (.slice (some ⟨g,0,none⟩) (j+1) capg);replace ow:=own_other ow (p:=⟨wo.heap.size,2,none⟩) hB1 (.slice (some ⟨g,0,none⟩) (j+1) capg);refine hK.out _ _ ?_ (fun hHeld=>?_);(· exact trivial);clear hK K;try simp only[Act.put,tkA,tkB,tkC,tkD,tkE,tkF])
       |fail
      all_goals
       go_wp2_with fail
       go_roundw
       case measure=>simp only[intOf];omega
       case rel=>
        refine⟨j+1,_,rfl,by omega,f,?_,nb,?_,by simpa using hB⟩
        ·rw[HSN.o];exact ps
        ·rw[HSN.o,List.map_append];exact ow
     ·have hljd:decide ((j:Int)<(kk:Int))=false:=df0 (by omega);obtain rfl:j=kk:=by omega
      have hln:=reps_len Rd.num j p4;have HAL2:acc.length<12:=by have:=HAL.o;have:=hml.2;omega
      generalize reps Rd.num j p4=r at*;have HEX:Hd (∀W,RT W (w.heap.size+1) r.2->Calls prog 109 #[.pointer (some ⟨(w.heap.size+1),0,none⟩),.int .i64 17] W (RxPost 17 (w.heap.size+1) r.2 W)):=fun W h1=>trx_c 17 (by omega) _ r.2 W hsr h1;have hIP:InsP wr (fun b=>B1<=b/\b<wr.heap.size) r.1 iv:=InsP.of_own (e:=3) (by rw[hln];exact own7);clear own7 ki kz0 kz1 kz2
      go_wp2_with fail
      refine(HEX.o _ h7).mono ?_;rintro e w8 ⟨sv,rfl,hy,h8,f8⟩;obtain⟨a2,n2,cap2,rfl⟩:=hy.slice;have hps5:=le1 (Rd.rx_size 17 r.2) hsr;generalize Rd.rx 17 r.2=q at*;obtain⟨y,p5⟩:=q;dsimp only at HND hy h8 hps5;have nb8:=nb7.fr f8 hbn;have hbw:wo.heap.size<wr.heap.size:=nb7.lt;have hw8:=f8.size;have hk8: ∀b,B1<=b->b<wr.heap.size->w8.heap[b]? =wr.heap[b]? :=fun b h1 h2=>f8.block b h2 (fun q=>by unfold FrT at q;omega);replace f8:=f7.trans f8;have z3:=nb8.free 3;have z4:=nb8.free 4;have z5:=nb8.free 5;have c3:=nb8.cell 3;have c4:=nb8.cell 4;have c5:=nb8.cell 5;clear HEX
      go_upto_region 18 with fail
      clear z3 z4 z5 c3 c4 c5;have hfar9: ∀b,b≠wo.heap.size->(((w8.setCell ⟨wo.heap.size,3,none⟩ (.int .u8 y.op)).setCell ⟨wo.heap.size,4,none⟩ (.int .i64 y.n)).setCell ⟨wo.heap.size,5,none⟩ (.slice a2 n2 cap2)).heap[b]? =w8.heap[b]? :=fun b hb=>by
       rw[heap_setCell_other _ ⟨wo.heap.size,5,none⟩ b _ hb,heap_setCell_other _ ⟨wo.heap.size,4,none⟩ b _ hb,heap_setCell_other _ ⟨wo.heap.size,3,none⟩ b _ hb]
      have hsz9:(((w8.setCell ⟨wo.heap.size,3,none⟩ (.int .u8 y.op)).setCell ⟨wo.heap.size,4,none⟩ (.int .i64 y.n)).setCell ⟨wo.heap.size,5,none⟩ (.slice a2 n2 cap2)).heap.size=w8.heap.size:=by simp
      have nb9:=nb8.nd_x (.int .u8 y.op) (.int .i64 y.n) (.slice a2 n2 cap2);have f9:=((f8.setCell (p:=⟨wo.heap.size,3,none⟩) (.inr le0) (.int .u8 y.op)).setCell (p:=⟨wo.heap.size,4,none⟩) (.inr le0) (.int .i64 y.n)).setCell (p:=⟨wo.heap.size,5,none⟩) (.inr le0) (.slice a2 n2 cap2);have h9:=((h8.other (a:=⟨wo.heap.size,3,none⟩) (by show _≠wo.heap.size;omega) (.int .u8 y.op)).other (a:=⟨wo.heap.size,4,none⟩) (by show _≠wo.heap.size;omega) (.int .i64 y.n)).other (a:=⟨wo.heap.size,5,none⟩) (by show _≠wo.heap.size;omega) (.slice a2 n2 cap2);generalize ((w8.setCell ⟨wo.heap.size,3,none⟩ (.int .u8 y.op)).setCell ⟨wo.heap.size,4,none⟩ (.int .i64 y.n)).setCell ⟨wo.heap.size,5,none⟩ (.slice a2 n2 cap2)=w9 at*;have hI9:InsP w9 (fun b=>wo.heap.size<=b/\b<w9.heap.size) r.1 iv:=hIP.keep (fun b hb=>⟨by have:=hb.1;omega,by have:=hb.2;omega⟩) (fun b hb=>(hfar9 b (by have:=hb.1;omega)).trans (hk8 b hb.1 hb.2));have hy9:ArgsP w9 (fun b=>wo.heap.size<=b/\b<w9.heap.size) y.args (.slice a2 n2 cap2):=hy.keep (fun b hb=>⟨by have:=hb.1;omega,by have:=hb.2;omega⟩) (fun b hb=>hfar9 b (by have:=hb.1;omega));have hB9:B0<=w9.heap.size:=by omega
      have hT9:=hTr.step f9 h9;have hN9:=hNr.frT f9 (by omega);have hnlt:=own_lt hNr.own;have hnge:=own_ge hNr.own;obtain⟨an,capn,hav,_,_⟩:=(hNr.nodes le0).slice;subst hav;obtain⟨i0,ni,nz0,nz1,nz2⟩:=info_parts info_ndC;clear hIP hy nb8 h8 f8 hfar9 hsz9 hTr hNr f7 h7 nb7;obtain⟨d0,d1,d2,d3,d4,d5,d6⟩:=nb9.q7;have e1:=hT9.j.cell 1;have hivs: ∃ai ni ci,iv= .slice ai ni ci:=by rcases hI9 with ⟨_,h⟩|⟨g,c,h,_⟩<;>exact⟨_,_,_,h⟩
      obtain⟨ai,nni,ci,rfl⟩:=hivs;have HNA:=Lh (own_alloc hN9.own (.cells #[.string u,.int .u8 kd,.slice ai nni ci,.int .u8 y.op,.int .i64 y.n,.slice a2 n2 cap2,.int .i64 n] 135))
      go_upto_region 7 with (at_builtin;refine wpList_append_lies _ rfl _ _ _ rfl B0 135 i0 (.agg #[.string ⟨#[]⟩,.int .u8 0,.slice none 0 0,.int .u8 0,.int .i64 0,.slice none 0 0,.int .i64 0]) 7 96 underlying22 ni nz0 nz1 nz2 rfl (by omega) (.slice an acc.length capn) acc.length cs rfl HNA.o ⟨w9.heap.size,0,none⟩ 1 1 (#[.string u,.int .u8 kd,.slice ai nni ci,.int .u8 y.op,.int .i64 y.n,.slice a2 n2 cap2,.int .i64 n]).toList rfl rfl (World.news_of_block (heap_alloc_new w9 _)) (by simp[Value.oneCell']) (by omega) (by unfold maxLen;omega) (by omega) (by simp;omega) _ rfl ?_;intro g capg w10 own10 hg10 hat10 hlt10;have k10:=(hT9.j.alloc (.cells #[.string u,.int .u8 kd,.slice ai nni ci,.int .u8 y.op,.int .i64 y.n,.slice a2 n2 cap2,.int .i64 n] 135)).grown hg10 (fun e=>by have:=hnge _ e.symm;omega);have k10f:=k10.free 1;have k10c:=k10.cell 1)
      have hT10:=(hT9.keep ((Below.refl w9.heap.size w9).alloc le0 (.cells #[.string u,.int .u8 kd,.slice ai nni ci,.int .u8 y.op,.int .i64 y.n,.slice a2 n2 cap2,.int .i64 n] 135))).keepB (B:=B0) (by omega) hg10.os hg10.tape hg10.output hg10.size (fun b hb=>hg10.block b (by simp;omega) (fun e=>by have:=hnge _ e.symm;omega));have hT11:=hT10.setJ (.slice (some ⟨g,0,none⟩) (acc.length+1) capg);have hN10:=hN9.snoc (y:=⟨u,kd,r.1,y,n⟩) (wx:=wo) hnlt f9.size hbig hu2 hI9 hy9 hg10 hat10 hlt10 own10;have hN11:=hN10.keepB (wy:=w10.setCell ⟨(w.heap.size+1+1),1,none⟩ (.slice (some ⟨g,0,none⟩) (acc.length+1) capg)) (by simp) (fun b hb _=>heap_setCell_other w10 ⟨(w.heap.size+1+1),1,none⟩ b _ (by show b≠(w.heap.size+1+1);omega));clear hT10 hN10 hT9 hN9 k10 k10f k10c hg10 own10 d0 d1 d2 d3 d4 d5 d6 e1 HNA;generalize w10.setCell ⟨(w.heap.size+1+1),1,none⟩ (.slice (some ⟨g,0,none⟩) (acc.length+1) capg)=w11 at*
      go_wp2_with fail
      go_roundw
      case measure=>simp only[intOf];omega
      case rel=>
       refine⟨i+1,acc++ [⟨u,kd,r.1,y,n⟩],_,_,_,_,p5,rfl,by omega,by rw[la0,HAL.o];rfl,?_,hps5,hT11,hN11⟩;rw[HT2.o,HT3.o,HND.o];dsimp only;rw[List.append_assoc,show mm-(i+1)=mm-i-1 by omega];rfl
   ·have hpb:(p.e==0)=false:=by simpa using hpe
    rw[rNds_err _ hpe,List.append_nil]at hE
    go_wp2_with fail
    go_meet;rw[HJB.o,hE];exact⟨av,cs,ivs,svs,hTr,hNr⟩
  ·have hltd:decide ((i:Int)<(mm:Int))=false:=df0 (by omega);obtain rfl:i=mm:=by omega
   rw[Nat.sub_self]at hE;simp only[rNds,List.append_nil]at hE
   go_wp2_with fail
   go_meet;rw[HJB.o,hE];exact⟨av,cs,ivs,svs,hTr,hNr⟩
