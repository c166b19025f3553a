/- Parts. -/
import Derived.Test.YtgbfdcmkbblodaaGreatDoorVY21
namespace Go.Proofs.YtgbfdcmkbblodaaGreatDoor
open Go.RowKit
set_option linter.unusedVariables false
set_option linter.unusedSimpArgs false
set_option maxRecDepth 100000
set_option maxHeartbeats 16000000
open Tryz
theorem packTake_c (s:ByteArray) (hs:s.size<=140737488355328) (w:World):
  Calls prog 48 #[.string s] w (TakeJPost s w):=by
 unfold TakeJPost;have HS:=Lh (take_start w s);unfold failsV numberV manyV smallV takeV at HS;go_enter func48,ntmps48
 go_upto_region 9 with fail
 generalize hWW:World.alloc _ _=W;obtain⟨hP,hC,hJ,hB,hz⟩:=HS.o _ _ _ _ _ W hWW.symm;clear HS hWW;generalize w.heap.size+1+1+1+1+1+1+1=bt at*;have hne:=hC.cl.ne;have b0:=hC.cl.N.cell;unfold numberV at b0
 go_wp2_with fail
 refine(pnumber_c _ _ _ hne _ hs W hP hC.cl.F).mono ?_;rintro e w1 ⟨rfl,h1,f1⟩;have hC1:=hC.fr f1;clear b0;have hs1:=le1 (Rd.num_size ⟨s,0⟩) hs;have HJB:Hd (Rd.jb s=(⟨(Rd.num ⟨s,0⟩).1,(takeNds ((Rd.num ⟨s,0⟩).2.many 12).1.toNat ((Rd.num ⟨s,0⟩).2.many 12).2).1⟩,(takeNds ((Rd.num ⟨s,0⟩).2.many 12).1.toNat ((Rd.num ⟨s,0⟩).2.many 12).2).2)):=rfl;generalize Rd.num ⟨s,0⟩=q1 at*
 go_upto_region 10 with fail
 have hjb:=Blk.new w1 #[.int .i64 q1.1,.slice none 0 0] 24;have h1a:=h1.alloc (.cells #[.int .i64 q1.1,.slice none 0 0] 24);have hC1a:=hC1.alloc (.cells #[.int .i64 q1.1,.slice none 0 0] 24);have b1:=hC1a.M.cell;unfold manyV at b1
 go_wp2_with fail
 refine(many_cP _ _ _ _ 12 q1.2 hs1 _ h1a hC1a.cl).mono ?_;rintro e w2 ⟨rfl,h2,f2⟩;have hC2:=hC1a.fr f2;have hl1:=h1.E.lt;have hl2:=h1.S.lt;have hjb2:=hjb.fr f2 (by rintro (q|q)<;>omega);have hs2:=le1 (Rd.many_size 12 q1.2) hs1;have hml:=q1.2.many_le 12 (by omega);generalize q1.2.many 12=q2 at*;clear b1;obtain⟨m,q2⟩:=q2;obtain⟨mm,rfl⟩: ∃mm:Nat,m=(mm:Int):=⟨m.toNat,by have:=hml.1;dsimp only at this;omega⟩;dsimp only at HJB h2 hs2 hml;rw[Int.toNat_natCast]at HJB;have hJ2:=(((hJ.fr f1 (by rintro (q|q)<;>omega)).alloc (.cells #[.int .i64 q1.1,.slice none 0 0] 24))).fr f2 (by rintro (q|q)<;>omega);have hB2:Below w.heap.size w w2:=⟨f2.os.trans (f1.os.trans hB.os),f2.tape.trans (f1.tape.trans hB.tape),f2.output.trans (f1.output.trans hB.output),le1 (by have:=f2.size;have:=f1.size;have:=hB.size;simp at*;omega) le0,fun b hb=>?hb2⟩
 case hb2=>
  rw[f2.block b (by have:=hB.size;have:=f1.size;simp;omega) (by rintro (q|q)<;>omega),alloc_old _ _ b (by have:=hB.size;have:=f1.size;omega),f1.block b (by have:=hB.size;omega) (by rintro (q|q)<;>omega),hB.block b hb]
 have hT:TJ w w2 (w.heap.size+1+1) (w.heap.size) (w.heap.size+1+1+1) (w.heap.size+1+1+1+1) (w.heap.size+1+1+1+1+1) (w.heap.size+1+1+1+1+1+1) bt (w.heap.size+1) w1.heap.size w2.heap.size q2 q1.1 (.slice none 0 0):=⟨hB2,h2,hC2,hJ2,hjb2,le0⟩;have hN:=NRowP.nil w2.heap.size w2 (fun _=>undef) (fun _=>undef)
 go_upto_block 0 with fail
 go_cut [] (fun wx=> ∃(av:Value) (cs:List Value) (ivs svs:Nat->Value),TJ w wx (w.heap.size+1+1) (w.heap.size) (w.heap.size+1+1+1) (w.heap.size+1+1+1+1) (w.heap.size+1+1+1+1+1) (w.heap.size+1+1+1+1+1+1) bt (w.heap.size+1) w1.heap.size w2.heap.size (Rd.jb s).2 q1.1 av/\NRowP w2.heap.size wx (Rd.jb s).1.nodes av cs ivs svs)
 case rest=>
  obtain⟨av,cs,ivs,svs,hTc,hNc⟩:=hcut;obtain⟨a,cap,hav,hcap,hmx⟩:=(hNc.nodes le0).slice;subst hav;have hpar:(Rd.jb s).1.par=q1.1:=by rw[HJB.o]
  have hlt2:w1.heap.size<w2.heap.size:=hjb2.lt;clear hB2 hT hN hJ2 hjb2 hjb hs2 hml h2 hC2 f2 hC1a h1a h1 f1 hC1 hP hJ hB hC hs1 hne HJB hz;have HE:Hd (takeJ s=(let r:=Rd.jb s;let p:=if r.2.s.size=0 then r.2 else r.2.fail 2;let q:=if r.1.may.2=0 then p else p.fail 2;if q.e=0 then(r.1,0)else(⟨0,[]⟩,q.e))):=rfl;generalize hRR:takeJ s=R at HE;have HRR:=Lh hRR;clear hRR;generalize Rd.jb s=r at*;obtain⟨jb,p⟩:=r;dsimp only at HE hTc hNc hcap hpar;have d0:=hTc.ps.S.cell 0;have f0:=hTc.ct.cl.F.cell;unfold failsV at f0;have HEA:Hd (∀pA:Rd,pA=(if p.s.size=0 then p else p.fail 2)->R=(let q:=if jb.may.2=0 then pA else pA.fail 2;if q.e=0 then(jb,0)else(⟨0,[]⟩,q.e))):=fun pA h=>by subst h;exact HE.o
  clear HE
  go_upto_if 60 with fail
  go_cut [] (fun wx=> ∃pA,pA=(if p.s.size=0 then p else p.fail 2)/\TJ w wx (w.heap.size+1+1) (w.heap.size) (w.heap.size+1+1+1) (w.heap.size+1+1+1+1) (w.heap.size+1+1+1+1+1) (w.heap.size+1+1+1+1+1+1) bt (w.heap.size+1) w1.heap.size w2.heap.size pA q1.1 (.slice a jb.nodes.length cap)/\NRowP w2.heap.size wx jb.nodes (.slice a jb.nodes.length cap) cs ivs svs)
  case first=>
   have hem:=emp_size p.s
   cases hz:p.s.toList.isEmpty
   ·have hz0: ¬p.s.size=0:=by rw[hz]at hem;exact of_decide_eq_false hem.symm
    clear hem
    go_wp2_with fail
    refine(pfails_c _ _ (by omega) p 2 wc hTc.ps).mono ?_;rintro e w3 ⟨rfl,h3,f3⟩
    go_wp2_with fail
    go_meet;exact⟨_,(if_neg hz0).symm,hTc.step f3 h3 (by omega) (by omega) (by omega) (by omega),hNc.fr f3 (by omega) (by omega)⟩
   ·have hz0:p.s.size=0:=by rw[hz]at hem;exact of_decide_eq_true hem.symm
    clear hem
    go_wp2_with fail
    go_meet;exact⟨_,(if_pos hz0).symm,hTc,hNc⟩
  case rest=>
   clear hTc hNc d0 f0;obtain⟨pA,hpA,hTc,hNc⟩:=hcut;have HE:=Lh (HEA.o pA hpA);clear hpA HEA;have j0:=hTc.j.cell 0;have j1:=hTc.j.cell 1;have HJ:Hd (JbAt wc wc.heap.size (.agg #[.int .i64 q1.1,.slice a jb.nodes.length cap]) jb):=⟨_,by rw[hpar],hNc.nodes le0⟩
   go_upto_if 69 with (go_at_call 71;refine(May_c1 jb _ _ _ HJ.o le0).mono ?_;rintro e w3 ⟨rfl,hb3⟩)
   clear j0 j1 HJ;have hTm:=hTc.keep hb3;have hNm:=hNc.keepB hb3.size (fun b _ hb=>hb3.block b hb);clear hTc hNc hb3;have f0:=hTm.ct.cl.F.cell;unfold failsV at f0;have HEB:Hd (∀pB:Rd,pB=(if jb.may.2=0 then pA else pA.fail 2)->R=(if pB.e=0 then(jb,0)else(⟨0,[]⟩,pB.e))):=fun pB h=>by subst h;exact HE.o
   clear HE
   go_cut [] (fun wx=> ∃pB,pB=(if jb.may.2=0 then pA else pA.fail 2)/\TJ w wx (w.heap.size+1+1) (w.heap.size) (w.heap.size+1+1+1) (w.heap.size+1+1+1+1) (w.heap.size+1+1+1+1+1) (w.heap.size+1+1+1+1+1+1) bt (w.heap.size+1) w1.heap.size w2.heap.size pB q1.1 (.slice a jb.nodes.length cap)/\NRowP w2.heap.size wx jb.nodes (.slice a jb.nodes.length cap) cs ivs svs)
   case first=>
    by_cases hm:jb.may.2=0
    ·have hmb:(jb.may.2 !=0)=false:=by simpa using hm
     go_wp2_with fail
     go_meet;exact⟨_,(if_pos hm).symm,hTm,hNm⟩
    ·have hmb:(jb.may.2 !=0)=true:=by simpa using hm
     go_wp2_with fail
     refine(pfails_c _ _ (by omega) pA 2 w3 hTm.ps).mono ?_;rintro e w4 ⟨rfl,h4,f4⟩
     go_wp2_with fail
     go_meet;exact⟨_,(if_neg hm).symm,hTm.step f4 h4 (by omega) (by omega) (by omega) (by omega),hNm.fr f4 (by omega) (by omega)⟩
   case rest=>
    clear hTm hNm f0;obtain⟨pB,hpB,hTc,hNc⟩:=hcut;have HE:=Lh (HEB.o pB hpB);clear hpB HEB;have e0:=hTc.ps.E.cell 0;have hbr:=hTc.r;have r0:=hbr.free 0;have r1:=hbr.free 1;have r2:=hbr.cell 0;have r3:=hbr.cell 1;by_cases he:pB.e=0
    ·have heb:(pB.e !=0)=false:=by simpa using he
     have j0:=hTc.j.cell 0;have j1:=hTc.j.cell 1;have HR:Hd (R=(jb,0)):=by show _=_;rw[HE.o,if_pos he]
     clear he HE
     go_wp2_with fail
     refine bodyPost_ret (v:= .tuple #[.agg #[_,_],_]) (results_cell_row2P rfl _ _ (w.heap.size+1) 24 _ (0,0) _ rfl (jb_set hbr rfl _ _) underlying24 rfl ?_ (.int .i64 0) rfl) rfl ?_
     ·as_aux_lemma=>kernel_rfl
     ·rw[HRR.o,HR.o];refine⟨_,rfl,⟨_,by rw[hpar],(hNc.keepB (wy:=(wc.setCell ⟨w.heap.size+1,0,none⟩ (.int .i64 q1.1)).setCell ⟨w.heap.size+1,1,none⟩ (.slice a jb.nodes.length cap)) (by simp) (fun b hb _=>?_)).nodesIn.mono (fun b hb=>⟨by have:=hb.1;omega,hb.2⟩)⟩,(hTc.below.setCell (p:=⟨w.heap.size+1,0,none⟩) (Nat.le_succ _) _).setCell (p:=⟨w.heap.size+1,1,none⟩) (Nat.le_succ _) _⟩;have hn:b≠w.heap.size+1:=by omega
      rw[heap_setCell_other _ ⟨w.heap.size+1,1,none⟩ b _ hn,heap_setCell_other _ ⟨w.heap.size+1,0,none⟩ b _ hn]
    ·have heb:(pB.e !=0)=true:=by simpa using he
     have HR:Hd (R=(⟨0,[]⟩,pB.e)):=by show _=_;rw[HE.o,if_neg he]
     clear he HE
     go_upto_region 27 with fail
     go_region
     all_goals
      go_wp2_with fail
      refine bodyPost_ret (v:= .tuple #[.agg #[_,_],_]) (results_cell_row2P rfl _ _ (w.heap.size+1) 24 _ (0,0) _ rfl (Blk.drew (jb_set hbr rfl _ _)) underlying24 rfl ?_ (.int .i64 pB.e) rfl) rfl ?_
      ·as_aux_lemma=>kernel_rfl
      ·rw[HRR.o,HR.o];exact⟨_,rfl,⟨_,rfl,none,0,rfl,le0,ze0,.inl rfl⟩,((hTc.below.setCell (p:=⟨w.heap.size+1,0,none⟩) (Nat.le_succ _) _).setCell (p:=⟨w.heap.size+1,1,none⟩) (Nat.le_succ _) _).drew⟩
 go_wp2_with fail
 go_loopw [26] (fun q wx=> ∃(i:Nat) (acc:List Nd) (av:Value) (cs:List Value) (ivs svs:Nat->Value) (p:Rd),q= .int .i64 i/\i<=mm/\acc.length=i/\takeNds mm q2=(acc++(takeNds (mm-i) p).1,(takeNds (mm-i) p).2)/\p.s.size<=140737488355328/\
  TJ w wx (w.heap.size+1+1) (w.heap.size) (w.heap.size+1+1+1) (w.heap.size+1+1+1+1) (w.heap.size+1+1+1+1+1) (w.heap.size+1+1+1+1+1+1) bt (w.heap.size+1) w1.heap.size w2.heap.size p q1.1 av/\NRowP w2.heap.size wx acc av cs ivs svs) (fun q _=>mm-(intOf q).toNat)
 case atStart=>exact⟨0,[],.slice none 0 0,[],fun _=>undef,fun _=>undef,q2,rfl,ze0,rfl,by simp,hs2,hT,hN⟩
 case round=>
  obtain⟨i,acc,av,cs,ivs,svs,p,rfl,hi,hal,hE,hps,hTr,hNr⟩:=hrel;have HAL:=Lh hal;clear hal;by_cases hlt:i<mm
  ·skip
   have hltd:decide ((i:Int)<(mm:Int))=true:=dt0 (by omega);generalize wr=wo at*;have HT2:Hd (takeNds mm q2=(acc++(takeNds ((mm-i-1)+1) p).1,(takeNds ((mm-i-1)+1) p).2)):=by show _=_;rw[hE];rw[show mm-i-1+1=mm-i by omega]
   have HND:Hd (p.nd=(⟨p.text.1,p.text.2.small.1,(reps Rd.num (p.text.2.small.2.num.2.many 12).1.toNat (p.text.2.small.2.num.2.many 12).2).1,(Rd.ex 17 (reps Rd.num (p.text.2.small.2.num.2.many 12).1.toNat (p.text.2.small.2.num.2.many 12).2).2).1,p.text.2.small.2.num.1⟩,
    (Rd.ex 17 (reps Rd.num (p.text.2.small.2.num.2.many 12).1.toNat (p.text.2.small.2.num.2.many 12).2).2).2)):=rfl
   clear hE;have hus:=p.text_le;have hs1:=le1 p.text_size hps;have HTX:=Lh (fun W h1 h2=>text_cP (w.heap.size+1+1) (w.heap.size) (w.heap.size+1+1+1) (w.heap.size+1+1+1+1) p hps W h1 h2);generalize p.text=t1 at*;have hs2:=le1 t1.2.small_size hs1;have HSM:=Lh (fun W h1 h2=>small_cP (w.heap.size+1+1) (w.heap.size) (w.heap.size+1+1+1) (w.heap.size+1+1+1+1) t1.2 hs1 W h1 h2);generalize t1.2.small=t2 at*;have hs3:=le1 t2.2.num_size hs2;have HNU:=Lh (fun W h1 h2=>pnumber_c (w.heap.size+1+1) (w.heap.size) (w.heap.size+1+1+1) hne t2.2 hs2 W h1 h2);generalize t2.2.num=t3 at*;have hs4:=le1 (t3.2.many_size 12) hs3;have HMN:=Lh (fun W h1 h2=>many_cP (w.heap.size+1+1) (w.heap.size) (w.heap.size+1+1+1) (w.heap.size+1+1+1+1) 12 t3.2 hs3 W h1 h2);have hml2:=t3.2.many_le 12 (by omega);generalize t3.2.many 12=t4 at*;obtain⟨u,p1⟩:=t1;obtain⟨kd,p2⟩:=t2;obtain⟨n,p3⟩:=t3;obtain⟨m,p4⟩:=t4;dsimp only at HND HTX HSM HNU HMN hs1 hs2 hs3 hs4 hus hml2;obtain⟨kk,rfl⟩: ∃kk:Nat,m=(kk:Int):=⟨m.toNat,by have:=hml2.1;omega⟩;rw[Int.toNat_natCast]at HND;have hbe:=hTr.ps.E.lt;have hbs:=hTr.ps.S.lt;have hbig:=hTr.big;have hjlt:=hTr.j.lt;have hlt2:w1.heap.size<w2.heap.size:=hjb2.lt;have h0:=hTr.ps.drew;have f0:Fr (FrS (w.heap.size+1+1) (w.heap.size)) wo wo.drew:=(Fr.refl _ wo).drew;have hu2:u.size<=maxLen:=by unfold maxLen;omega
   have hul:u.size<=140737488355328:=by omega
   clear hus
   go_upto_region 12 with fail
   go_cut [12] (fun p12 wx=> ∃bx,p12= .pointer (some ⟨bx,0,none⟩)/\Fr (FrS (w.heap.size+1+1) (w.heap.size)) wo wx/\PS wx (w.heap.size+1+1) (w.heap.size) p3/\Blk wx bx 135 #[.string u,.int .u8 kd,.slice none 0 0,.int .u8 0,.int .i64 0,.slice none 0 0,.int .i64 n]/\wo.heap.size<=bx)
   case first=>
    have f:=f0;have ps:=h0;refine wp_region_held_drew (S:=(fun w'=>Ct w' (w.heap.size+1+1) (w.heap.size) (w.heap.size+1+1+1) (w.heap.size+1+1+1+1) (w.heap.size+1+1+1+1+1) (w.heap.size+1+1+1+1+1+1) bt)) (by kernel_rfl) ?_ (fun hHeld=>tk0 ?_)
    ·exact hTr.ct.fr f0
    repeat' first
     |refine tkN ?_
     |(refine tkX ?_;try simp only[Act.put,tkA,tkB,tkC,tkD,tkE,tkF])
     |(refine tkt (v:=?_) (by decide+kernel) rfl (by rfl) (fun _ _ _ h=>h) (by assumption) ?_ ?_;rotate_left;(· intro w' hSw;(try dsimp only at hSw);have l0:=hSw.L.cell;unfold smallV at l0;have n0:=hSw.cl.N.cell;unfold numberV at n0;clear hSw;go_simp;(try with_reducible rfl));try simp only[Act.put,tkA,tkB,tkC,tkD,tkE,tkF])
     |refine tkM ?_
     |refine tkZ ?_
     |refine tkB1 ?_
     |refine brN ?_
     |exact brE
     |refine brc rfl (fun K hK=>?_) ?_
     |(replace hK:=hK;go_simp;(first|(go_at_call 102;refine(HTX.o _ ps (hTr.ct.fr f).cl).mono ?_)|(go_at_call 101;refine(HSM.o _ ps (hTr.ct.fr f).cl).mono ?_)|(go_at_call 99;refine(HNU.o _ ps (hTr.ct.fr f).cl.F).mono ?_));rintro e wn ⟨rfl,psn,fn⟩;replace f:=f.trans fn;replace ps:=psn;(try replace nb:=nb.fr fn hbn);clear fn psn;refine hK.out _ _ ?_ (fun hHeld=>?_);(· exact hTr.ct.fr f);clear hK K;try simp only[Act.put,tkA,tkB,tkC,tkD,tkE,tkF])
     |(replace hK:=hK;go_simp;obtain⟨bx,hbq,hbx,nb⟩:=f.newBlk #[.string ⟨#[]⟩,.int .u8 0,.slice none 0 0,.int .u8 0,.int .i64 0,.slice none 0 0,.int .i64 0] 135;(first|rw[hbq]|(change wo.heap.size=_ at hbq;rw[hbq]));clear hbq;replace f:=f.alloc (.cells #[.string ⟨#[]⟩,.int .u8 0,.slice none 0 0,.int .u8 0,.int .i64 0,.slice none 0 0,.int .i64 0] 135);replace ps:=ps.alloc (.cells #[.string ⟨#[]⟩,.int .u8 0,.slice none 0 0,.int .u8 0,.int .i64 0,.slice none 0 0,.int .i64 0] 135);generalize World.alloc _ _=wn at*;(have hbn: ¬FrS (w.heap.size+1+1) (w.heap.size) bx:=by(rintro (q|q)<;>omega));refine hK.out _ _ ?_ (fun hHeld=>?_);(· exact hTr.ct.fr f);clear hK K;try simp only[Act.put,tkA,tkB,tkC,tkD,tkE,tkF])
     |(replace hK:=hK;have hwb:=hbx;have z0:=nb.free 0;have c0:=nb.cell 0;have z1:=nb.free 1;have c1:=nb.cell 1;have z2:=nb.free 2;have c2:=nb.cell 2;have z3:=nb.free 3;have c3:=nb.cell 3;have z4:=nb.free 4;have c4:=nb.cell 4;have z5:=nb.free 5;have c5:=nb.cell 5;have z6:=nb.free 6;have c6:=nb.cell 6;go_simp;refine hK.out _ _ ?_ (fun hHeld=>?_);(· exact hTr.ct.fr (Fr.set7 f hbx _ _ _ _ _ _ _));clear hK K;try simp only[Act.put,tkA,tkB,tkC,tkD,tkE,tkF])
     |fail
    all_goals
     go_wp2_with fail
     go_meet;exact⟨_,rfl,Fr.set7 f hbx _ _ _ _ _ _ _,PS.set7 ps (by omega) (by omega) _ _ _ _ _ _ _,Blk.set7 nb rfl _ _ _ _ _ _ _,hbx⟩
   case rest=>
    clear f0 h0 HTX HSM HNU;obtain⟨bx,rfl,f,ps,nb,hbx⟩:=hcut;have hC:=hTr.ct.fr f;have b0:=hC.M.cell;unfold manyV at b0
    go_wp2_with fail
    refine(HMN.o _ ps hC.cl).mono ?_;rintro e w6 ⟨rfl,h6,f6⟩;have hbn: ¬FrS (w.heap.size+1+1) (w.heap.size) bx:=by rintro (q|q)<;>omega
    replace nb:=nb.fr f6 hbn;replace f:=f.trans f6;clear b0 ps hC f6 HMN;have hB1:bx<w6.heap.size:=nb.lt;have own0:w6.ownsRow w6.heap.size 3 1 (.slice none 0 0) 0 ((reps Rd.num 0 p4).1.map (Value.int .i64)):=⟨rfl,.inl ⟨rfl,rfl⟩⟩;obtain⟨ji,ki,kz0,kz1,kz2⟩:=info_parts info_intJ;generalize hgB:w6.heap.size=B1 at hB1 own0;have hB2:B1<=w6.heap.size:=Nat.le_of_eq hgB.symm;clear hgB
    go_wp2_with fail
    go_loopw [37] (fun q wx=> ∃(j:Nat) (iv:Value),q= .int .i64 j/\j<=kk/\Fr (FrS (w.heap.size+1+1) (w.heap.size)) wo wx/\PS wx (w.heap.size+1+1) (w.heap.size) (reps Rd.num j p4).2/\Blk wx bx 135 #[.string u,.int .u8 kd,iv,.int .u8 0,.int .i64 0,.slice none 0 0,.int .i64 n]/\wx.ownsRow B1 3 1 iv j ((reps Rd.num j p4).1.map (Value.int .i64))/\B1<=wx.heap.size) (fun q _=>kk-(intOf q).toNat)
    case atStart=>exact⟨0,.slice none 0 0,rfl,ze0,f,h6,nb,own0,hB2⟩
    case round=>
     obtain⟨j,iv,rfl,hj,f7,h7,nb7,own7,hB7⟩:=hrel;clear f h6 nb own0 hB2;have HSN:=Lh (reps_snoc Rd.num j p4);have hsr:=le1 (reps_size Rd.num Rd.num_size j p4) hs4;by_cases hlj:j<kk
     ·have hljd:decide ((j:Int)<(kk:Int))=true:=dt0 (by omega);generalize reps Rd.num j p4=r at*;have h7d:=h7.drew;have f7d:=f7.drew;have nb7d:=nb7.drew;have hC7:=hTr.ct.fr f7d;have hx7:=nb7d.cell 2
      go_upto_region 15 with fail
      have f:=f7d;have ps:=h7d;have nb:=nb7d;have ow:=own_drew own7;have hB:=hB7;refine wp_region_held_drew (S:=(fun w'=>Bx w' (w.heap.size+1+1+1+1) (numberV (w.heap.size+1+1) (w.heap.size) (w.heap.size+1+1+1)))) (by kernel_rfl) ?_ (fun hHeld=>tk0 ?_)
      ·exact(hTr.ct.fr f).cl.N
      repeat' first
       |refine tkN ?_
       |(refine tkX ?_;try simp only[Act.put,tkA,tkB,tkC,tkD,tkE,tkF])
       |(refine tkt (v:=?_) (by decide+kernel) rfl (by rfl) (fun _ _ _ h=>h) (by assumption) ?_ ?_;rotate_left;(· intro w' hSw;(try dsimp only at hSw);have l0:=hSw.cell;unfold numberV at l0;clear hSw;go_simp;(try with_reducible rfl));try simp only[Act.put,tkA,tkB,tkC,tkD,tkE,tkF])
       |refine tkM ?_
       |refine tkZ ?_
       |refine tkB1 ?_
       |refine brN ?_
       |exact brE
       |refine brc rfl (fun K hK=>?_) ?_
       |(replace hK:=hK;refine opD 40 (by decide+kernel) ?_;have hx:=nb.cell 2;go_simp;clear hx;refine hK.out _ _ ?_ (fun hHeld=>?_);(· exact(hTr.ct.fr f).cl.N);clear hK K;try simp only[Act.put,tkA,tkB,tkC,tkD,tkE,tkF])
       |(replace hK:=hK;go_simp;go_at_call 99;refine(pnumber_c (w.heap.size+1+1) (w.heap.size) (w.heap.size+1+1+1) hne r.2 hsr _ ps (hTr.ct.fr f).cl.F).mono ?_;rintro e w8 ⟨rfl,psn,fn⟩;replace nb:=nb.fr fn hbn;(replace ow:=own_fr ow fn (by rintro k (q|q)<;>omega));replace hB:=le1 hB fn.size;replace f:=f.trans fn;replace ps:=psn;have hir8:=r.2.num_ir;generalize r.2.num=y at*;clear fn psn;refine hK.out _ _ ?_ (fun hHeld=>?_);(· exact(hTr.ct.fr f).cl.N);clear hK K;try simp only[Act.put,tkA,tkB,tkC,tkD,tkE,tkF])
       |(replace hK:=hK;refine opIs 5 (by decide+kernel) ?_;go_simp;have nv:=Blk.new w8 #[.int .i64 y.1] 3;replace ps:=ps.alloc (.cells #[.int .i64 y.1] 3);replace nb:=nb.alloc (.cells #[.int .i64 y.1] 3);replace f:=f.alloc (.cells #[.int .i64 y.1] 3);replace ow:=own_alloc ow (.cells #[.int .i64 y.1] 3);have hBs:=hB;replace hB:B1<=(w8.alloc (.cells #[.int .i64 y.1] 3)).heap.size:=(by simp;omega);refine hK.out _ _ ?_ (fun hHeld=>?_);(· exact(hTr.ct.fr f).cl.N);clear hK K;try simp only[Act.put,tkA,tkB,tkC,tkD,tkE,tkF])
       |(replace hK:=hK;refine opIs 3 (by decide+kernel) ?_;refine step_append_lies _ (by rfl) _ _ _ (by rfl) B1 3 ji (.int .i64 0) 1 8 underlying130 ki kz0 kz1 kz2 rfl (by decide) iv j (r.1.map (Value.int .i64)) (by rfl) ow ⟨w8.heap.size,0,none⟩ 1 1 (#[Value.int .i64 y.1]).toList (by rfl) (by rfl) (World.news_of_block nv) (by simp[Value.oneCell']) (by omega) (by unfold maxLen;omega) (by omega) hB _ rfl ?_;intro g capg w9 own9 hg9 hat9 hlt9;have hgn: ∀q,iv.ownBlock=some q->B1<=q:=own_ge ow;have hgb:bx≠g:=fun e=>(by rcases hat9 with h|h;(have:=hgn _ h;omega);(have:=nb.lt;omega));replace ps:PS w9 (w.heap.size+1+1) (w.heap.size) y.2:=⟨ps.E.grown hg9 (fun e=>by have:=hgn _ e.symm;omega),ps.S.grown hg9 (fun e=>by have:=hgn _ e.symm;omega)⟩;replace nb:=nb.grown hg9 (fun e=>by have:=hgn _ e.symm;omega);replace f:=f.grown hg9 (fun q e=> .inr (by have:=hgn _ e;omega));replace hB:=le1 hB hg9.size;replace ow:=own9;clear own9 hg9 hat9 nv hBs;refine hK.out _ _ ?_ (fun hHeld=>?_);(· exact(hTr.ct.fr f).cl.N);clear hK K;try simp only[Act.put,tkA,tkB,tkC,tkD,tkE,tkF])
       |(replace hK:=hK;refine opIs 2 (by decide+kernel) ?_;have hx:=nb.cell 2;have hz:=nb.free 2;go_simp;clear hx hz;replace nb:=nb.set 2 (.slice (some ⟨g,0,none⟩) (j+1) capg);replace f:=f.setCell (p:=⟨bx,2,none⟩) (.inr hbx) (.slice (some ⟨g,0,none⟩) (j+1) capg);replace ps:PS (w9.setCell ⟨bx,2,none⟩ (.slice (some ⟨g,0,none⟩) (j+1) capg)) (w.heap.size+1+1) (w.heap.size) y.2:=⟨ps.E.other (p:=⟨bx,2,none⟩) (by show _≠bx;omega) _,ps.S.other (p:=⟨bx,2,none⟩) (by show _≠bx;omega) _⟩;replace ow:=own_other ow (p:=⟨bx,2,none⟩) hB1 (.slice (some ⟨g,0,none⟩) (j+1) capg);refine hK.out _ _ ?_ (fun hHeld=>?_);(· exact(hTr.ct.fr f).cl.N);clear hK K;try simp only[Act.put,tkA,tkB,tkC,tkD,tkE,tkF])
       |fail
      all_goals
       go_wp2_with fail
       go_roundw
       case measure=>simp only[intOf];omega
       case rel=>
        refine⟨j+1,_,rfl,by omega,f,?_,nb,?_,by simpa using hB⟩
        ·rw[HSN.o];exact ps
        ·rw[HSN.o,List.map_append];exact ow
     ·have hljd:decide ((j:Int)<(kk:Int))=false:=df0 (by omega);obtain rfl:j=kk:=by omega
      have hln:=reps_len Rd.num j p4;have HAL2:acc.length<12:=by have:=HAL.o;have:=hml.2;omega
      generalize reps Rd.num j p4=r at*;have hC7:=hTr.ct.fr f7;have HEX:Hd (∀W,PS W (w.heap.size+1+1) (w.heap.size) r.2->Ct W (w.heap.size+1+1) (w.heap.size) (w.heap.size+1+1+1) (w.heap.size+1+1+1+1) (w.heap.size+1+1+1+1+1) (w.heap.size+1+1+1+1+1+1) bt->Calls prog 103 #[.int .i64 17,.pointer (some ⟨(w.heap.size+1+1+1),0,none⟩),.pointer (some ⟨(w.heap.size+1+1+1+1+1+1),0,none⟩),.pointer (some ⟨(w.heap.size+1+1+1+1),0,none⟩),.pointer (some ⟨(w.heap.size+1+1+1+1+1),0,none⟩),.pointer (some ⟨bt,0,none⟩)] W (TakePost 17 (w.heap.size+1+1) (w.heap.size) r.2 W)):=fun W h1 h2=>takeEx_c 17 (by omega) _ _ _ _ _ _ _ r.2 W hsr h1 h2;have b0:=hC7.T.cell;unfold takeV at b0;have hIP:InsP wr (fun b=>B1<=b/\b<wr.heap.size) r.1 iv:=InsP.of_own (e:=3) (by rw[hln];exact own7);clear own7 ki kz0 kz1 kz2
      go_wp2_with fail
      refine(HEX.o _ h7 hC7).mono ?_;rintro e w8 ⟨sv,rfl,hy,h8,f8⟩;obtain⟨a2,n2,cap2,rfl⟩:=hy.slice;have hps5:=le1 (Rd.ex_size 17 r.2) hsr;generalize Rd.ex 17 r.2=q at*;obtain⟨y,p5⟩:=q;dsimp only at HND hy h8 hps5;have nb8:=nb7.fr f8 hbn;have hbw:bx<wr.heap.size:=nb7.lt;have hw8:=f8.size;have hk8: ∀b,B1<=b->b<wr.heap.size->w8.heap[b]? =wr.heap[b]? :=fun b h1 h2=>f8.block b h2 (by rintro (q|q)<;>omega);replace f8:=f7.trans f8;have z3:=nb8.free 3;have z4:=nb8.free 4;have z5:=nb8.free 5;have c3:=nb8.cell 3;have c4:=nb8.cell 4;have c5:=nb8.cell 5;clear b0 hC7 HEX
      go_upto_region 18 with fail
      clear z3 z4 z5 c3 c4 c5;have hfar9: ∀b,b≠bx->(((w8.setCell ⟨bx,3,none⟩ (.int .u8 y.op)).setCell ⟨bx,4,none⟩ (.int .i64 y.n)).setCell ⟨bx,5,none⟩ (.slice a2 n2 cap2)).heap[b]? =w8.heap[b]? :=fun b hb=>by
       rw[heap_setCell_other _ ⟨bx,5,none⟩ b _ hb,heap_setCell_other _ ⟨bx,4,none⟩ b _ hb,heap_setCell_other _ ⟨bx,3,none⟩ b _ hb]
      have hsz9:(((w8.setCell ⟨bx,3,none⟩ (.int .u8 y.op)).setCell ⟨bx,4,none⟩ (.int .i64 y.n)).setCell ⟨bx,5,none⟩ (.slice a2 n2 cap2)).heap.size=w8.heap.size:=by simp
      have nb9:=nb8.nd_x (.int .u8 y.op) (.int .i64 y.n) (.slice a2 n2 cap2);have f9:=((f8.setCell (p:=⟨bx,3,none⟩) (.inr hbx) (.int .u8 y.op)).setCell (p:=⟨bx,4,none⟩) (.inr hbx) (.int .i64 y.n)).setCell (p:=⟨bx,5,none⟩) (.inr hbx) (.slice a2 n2 cap2);have h9:=PS.far345 h8 (b:=bx) (by omega) (by omega) (.int .u8 y.op) (.int .i64 y.n) (.slice a2 n2 cap2);generalize ((w8.setCell ⟨bx,3,none⟩ (.int .u8 y.op)).setCell ⟨bx,4,none⟩ (.int .i64 y.n)).setCell ⟨bx,5,none⟩ (.slice a2 n2 cap2)=w9 at*;have hI9:InsP w9 (fun b=>wo.heap.size<=b/\b<w9.heap.size) r.1 iv:=hIP.keep (fun b hb=>⟨by have:=hb.1;omega,by have:=hb.2;omega⟩) (fun b hb=>(hfar9 b (by have:=hb.1;omega)).trans (hk8 b hb.1 hb.2));have hy9:ArgsP w9 (fun b=>wo.heap.size<=b/\b<w9.heap.size) y.args (.slice a2 n2 cap2):=hy.keep (fun b hb=>⟨by have:=hb.1;omega,by have:=hb.2;omega⟩) (fun b hb=>hfar9 b (by have:=hb.1;omega));have hB9:w2.heap.size<=w9.heap.size:=by omega
      have hT9:=hTr.step f9 h9 (by omega) (by omega) (by omega) (by omega);have hN9:=hNr.fr f9 (by omega) (by omega);have hnlt:=own_lt hNr.own;have hnge:=own_ge hNr.own;obtain⟨an,capn,hav,_,_⟩:=(hNr.nodes le0).slice;subst hav;obtain⟨i0,ni,nz0,nz1,nz2⟩:=info_parts info_ndC;clear hIP hy nb8 h8 f8 hfar9 hsz9 hTr hNr f7 h7 nb7;obtain⟨d0,d1,d2,d3,d4,d5,d6⟩:=nb9.q7;have e1:=hT9.j.cell 1;have hivs: ∃ai ni ci,iv= .slice ai ni ci:=by rcases hI9 with ⟨_,h⟩|⟨g,c,h,_⟩<;>exact⟨_,_,_,h⟩
      obtain⟨ai,nni,ci,rfl⟩:=hivs;have HNA:=Lh (own_alloc hN9.own (.cells #[.string u,.int .u8 kd,.slice ai nni ci,.int .u8 y.op,.int .i64 y.n,.slice a2 n2 cap2,.int .i64 n] 135))
      go_upto_region 19 with (at_builtin;refine wpList_append_lies _ rfl _ _ _ rfl w2.heap.size 135 i0 (.agg #[.string ⟨#[]⟩,.int .u8 0,.slice none 0 0,.int .u8 0,.int .i64 0,.slice none 0 0,.int .i64 0]) 7 96 underlying22 ni nz0 nz1 nz2 rfl (by omega) (.slice an acc.length capn) acc.length cs rfl HNA.o ⟨w9.heap.size,0,none⟩ 1 1 (#[.string u,.int .u8 kd,.slice ai nni ci,.int .u8 y.op,.int .i64 y.n,.slice a2 n2 cap2,.int .i64 n]).toList rfl rfl (World.news_of_block (heap_alloc_new w9 _)) (by simp[Value.oneCell']) (by omega) (by unfold maxLen;omega) (by omega) (by simp;omega) _ rfl ?_;intro g capg w10 own10 hg10 hat10 hlt10;have k10:=(hT9.j.alloc (.cells #[.string u,.int .u8 kd,.slice ai nni ci,.int .u8 y.op,.int .i64 y.n,.slice a2 n2 cap2,.int .i64 n] 135)).grown hg10 (fun e=>by have:=hnge _ e.symm;omega);have k10f:=k10.free 1;have k10c:=k10.cell 1)
      have hT10:=(hT9.keep ((Below.refl w9.heap.size w9).alloc le0 (.cells #[.string u,.int .u8 kd,.slice ai nni ci,.int .u8 y.op,.int .i64 y.n,.slice a2 n2 cap2,.int .i64 n] 135))).keepB (CtLt.of hT.ct) ⟨by omega,by omega,by omega,by omega⟩ (by omega) hg10.os hg10.tape hg10.output hg10.size (fun b hb=>hg10.block b (by simp;omega) (fun e=>by have:=hnge _ e.symm;omega));have hT11:=hT10.setJ (CtFar.of hC1) ⟨by omega,by omega,by omega⟩ (by omega) (.slice (some ⟨g,0,none⟩) (acc.length+1) capg);have hN10:=hN9.snoc (y:=⟨u,kd,r.1,y,n⟩) (wx:=wo) hnlt f9.size hbig hu2 hI9 hy9 hg10 hat10 hlt10 own10;have hN11:=hN10.keepB (wy:=w10.setCell ⟨w1.heap.size,1,none⟩ (.slice (some ⟨g,0,none⟩) (acc.length+1) capg)) (by simp) (fun b hb _=>heap_setCell_other w10 ⟨w1.heap.size,1,none⟩ b _ (by show b≠w1.heap.size;omega));clear hT10 hN10 hT9 hN9 k10 k10f k10c hg10 own10 d0 d1 d2 d3 d4 d5 d6 e1 HNA;generalize w10.setCell ⟨w1.heap.size,1,none⟩ (.slice (some ⟨g,0,none⟩) (acc.length+1) capg)=w11 at*;have e0:=hT11.ps.E.cell 0;by_cases he:p5.e=0
      ·have heb:(p5.e !=0)=false:=by simpa using he
       go_wp2_with fail
       go_roundw
       case measure=>simp only[intOf];omega
       case rel=>
        refine⟨i+1,acc++ [⟨u,kd,r.1,y,n⟩],_,_,_,_,p5,rfl,by omega,by rw[la0,HAL.o];rfl,?_,hps5,hT11,hN11⟩;rw[HT2.o];simp only[takeNds];rw[HND.o,if_neg (by simpa using he)];dsimp only;rw[List.append_assoc,show mm-(i+1)=mm-i-1 by omega];rfl
      ·have heb:(p5.e !=0)=true:=by simpa using he
       go_wp2_with fail
       go_meet;rw[HJB.o,HT2.o];simp only[takeNds];rw[HND.o,if_pos he];exact⟨_,_,_,_,hT11,hN11⟩
  ·have hltd:decide ((i:Int)<(mm:Int))=false:=df0 (by omega);obtain rfl:i=mm:=by omega
   rw[Nat.sub_self]at hE;simp only[takeNds,List.append_nil]at hE
   go_wp2_with fail
   go_meet;rw[HJB.o,hE];exact⟨av,cs,ivs,svs,hTr,hNr⟩
