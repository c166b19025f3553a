/- Parts. -/
import Derived.Test.YtokgmjefideioaaGreatDoorVY39b
namespace Go.Proofs.YtokgmjefideioaaGreatDoor
open Go.RowKit
set_option linter.unusedVariables false
set_option linter.unusedSimpArgs false
set_option maxRecDepth 100000
set_option maxHeartbeats 16000000
open Tryz
section
variable {P:Program} {md:Region.Mode} {ops:Array Oper} {Q:Exit->Act->World->Prop} {S:World->Prop} {fuel i:Nat} {listed:Array Bool} {a:Act} {w:World} {oi:Oper} {v:Value}
theorem tks1 (hc:tkOk md ops listed i=true) (hi:ops[i]? =some oi) (hg:Region.wanted oi (yielded ops a.tmps)=false) (hQ: ∀c a w,Q (.panic c) (a.put oi.dst undef) w->Q (.panic c) a w) (hS:S w)
  (h:TwAt P md ops Q S (i+1) fuel (listed.setIfInBounds i true) (a.put oi.dst undef) w):TwAt P md ops Q S i (fuel+1) listed a w:=tks hc hi hg hQ hS h
theorem tkt1 (hc:tkOk md ops listed i=true) (hi:ops[i]? =some oi) (hg:Region.wanted oi (yielded ops a.tmps)=true) (hQ: ∀c a w,Q (.panic c) (a.put oi.dst v) w->Q (.panic c) a w) (hS:S w)
  (hv: ∀w,S w->(execOp a.eval oi).run P w= .ok (.value v) w)
  (h:TwAt P md ops Q S (i+1) fuel (listed.setIfInBounds i true) (a.put oi.dst v) w):TwAt P md ops Q S i (fuel+1) listed a w:=tkt hc hi hg hQ hS hv h
theorem tkg (j:Nat) (h:TwAt P md ops Q S j fuel listed a w):wpAnyH P md ops Q S fuel listed a w:=h
end
def doesL (d:Dk) (l:List DOp):Dk:=l.foldl Dk.does d
theorem roPlays_w (w:World) (room:Int) (l1:List DOp) (v1:Value) (g1:DOpsRd w (· <w.heap.size) v1 l1) (k1: ∀o∈l1,o.Ok) (hb1:l1.length*48<=140737488355328) (l2:List RoOp) (v2:Value) (g2:OpsRd w (· <w.heap.size) v2 l2) (k2: ∀o∈l2,o.x.Ok/\o.n<=9223372036854775807) (hb2:l2.length*112<=140737488355328) (wr:(Lit.int .i64 room).wf=true) (hE:Env w):
  CB prog 3 #[.int .i64 room,v1,v2] w (.bool true):=by
 clear wr;have HWK:Hd (∀W,Below w.heap.size w W->CB prog 6 #[] W (.bool true)):=fun W hb=>roWorks_c W (hE.keep hb);have HH1:=Lh (dkHeavy_c l1 k1 v1 w _ g1 fun _ q=>q);have HH2:Hd (∀W,Below w.heap.size w W->CB prog 5 #[v2] W (.bool (heavyOps l2))):=fun W hb=>opHeavy_c l2 v2 W (· <w.heap.size) (g2.keep (fun _ q=>q) fun b q=>hb.block b q) (fun b q=>lt1 q hb.size);have HN1:=Lh (fun W=>New_c room W);have HN2:=Lh (fun W=>rNew_c room W);obtain⟨a1,c1,rfl,h11,h12,h13⟩:=id g1;obtain⟨a2,c2,rfl,h21,h22⟩:=g2.slice;have HG1:=Lh g1;have HG2:=Lh g2;have HK1:=Lh k1;have HK2:=Lh k2;have hm1:l1.length<=9223372036854775807:=by omega
 have hm2:l2.length<=9223372036854775807:=by omega
 unfold px at HN1 HN2;generalize hhv:heavyOps l2=hv at*;have HHV:=Lh hhv;clear g1 g2 k1 k2 hb1 hb2 h11 h12 h13 h21 h22 hE hhv;go_enter func3,ntmps3
 go_upto_region 1 with fail
 go_cut [25] (fun s25 wx=> ∃b,s25= .bool b/\Below w.heap.size w wx/\(b=false->l1.length<=300/\hv=false))
 case first=>
  go_wp2_with (first
   |(go_at_call 4;refine HH1.o.mono ?_;rintro e w1 ⟨⟨b1,rfl,hb1⟩,hB1⟩;cases b1)
   |(go_at_call 5;refine(HH2.o _ hB1).mono ?_;rintro e w2 ⟨rfl,hB2⟩)
   |fail)
  all_goals go_meet
  ·first|exact⟨_,rfl,hB1.trans (hB2.mono hB1.size),fun e=>⟨hb1 (by trivial),e⟩⟩|exact⟨_,rfl,hB1,fun e=>by cases e⟩
  ·first|exact⟨_,rfl,hB1.trans (hB2.mono hB1.size),fun e=>⟨hb1 (by trivial),e⟩⟩|exact⟨_,rfl,hB1,fun e=>by cases e⟩
 case rest=>
 obtain⟨b,rfl,hB1,hsm⟩:=hcut
 cases b
 rotate_left
 ·have HW1:=Lh (HWK.o wc hB1)
  go_wp2_with (first|(go_at_call 6;refine HW1.o.mono ?_;rintro e w2 ⟨rfl,hB2⟩)|fail)
  go_ret;exact⟨rfl,hB1.trans (hB2.mono hB1.size)⟩
 obtain⟨hs1,hs2⟩:=hsm rfl;have HSM:=Lh (few_ops (HHV.o.trans hs2));have hs3:=HSM.o.1;clear hsm hs2 HH1 HH2;by_cases hroom:1<=room/\room<=4194304;rotate_left
 ·have HNa:Hd (∀W,Calls prog 7 #[.int .i64 room] W fun e w'=>Below W.heap.size W w'/\e= .returned (.tuple #[.pointer none,.int .i64 2])):=fun W=>(HN1.o W).mono (by
   rintro e w' ⟨hb,⟨r1,r2,_⟩|⟨_,rfl⟩⟩
   ·exact absurd ⟨r1,r2⟩ hroom
   ·exact⟨hb,rfl⟩)
  have HNb:Hd (∀W,Calls prog 8 #[.int .i64 room] W fun e w'=>Below W.heap.size W w'/\e= .returned (.tuple #[.pointer none,.int .i64 2])):=fun W=>(HN2.o W).mono (by
   rintro e w' ⟨hb,⟨r1,r2,_⟩|⟨_,rfl⟩⟩
   ·exact absurd ⟨r1,r2⟩ hroom
   ·exact⟨hb,rfl⟩)
  go_wp2_with (first
   |(go_at_call 7;refine(HNa.o _).mono ?_;rintro e w2 ⟨hb2,rfl⟩;have hB2:=hB1.trans (hb2.mono hB1.size))
   |(go_at_call 8;refine(HNb.o _).mono ?_;rintro e w3 ⟨hb3,rfl⟩;have hB3:=hB2.trans (hb3.mono hB2.size))
   |(go_at_call 6;refine(HWK.o _ hB3).mono ?_;rintro e w4 ⟨rfl,hb4⟩)
   |fail)
  go_ret;exact⟨ret_bool (by simp),hB3.trans (hb4.mono hB3.size)⟩
 have HNa:Hd (∀W,Calls prog 7 #[.int .i64 room] W fun e w'=>e= .returned (.tuple #[.pointer (some ⟨W.heap.size,0,none⟩),.int .i64 0])/\Below W.heap.size W w'/\DkAt w' (· =W.heap.size) W.heap.size (Dk.new room)):=fun W=>(HN1.o W).mono (by
  rintro e w' ⟨hb,⟨_,_,rfl,hd⟩|⟨hx,_⟩⟩
  ·exact⟨rfl,hb,hd⟩
  ·omega)
 have HNb:Hd (∀W,Calls prog 8 #[.int .i64 room] W fun e w'=>e= .returned (.tuple #[.pointer (some ⟨W.heap.size,0,none⟩),.int .i64 0])/\Below W.heap.size W w'/\RDk w' (· =W.heap.size) W.heap.size (Dk.new room)):=fun W=>(HN2.o W).mono (by
  rintro e w' ⟨hb,⟨_,_,rfl,hd⟩|⟨hx,_⟩⟩
  ·exact⟨rfl,hb,hd⟩
  ·omega)
 clear HN1 HN2
 go_upto_region 5 with (first
  |(go_at_call 7;refine(HNa.o _).mono ?_;rintro e w2 ⟨rfl,hb2,hd2⟩)
  |(go_at_call 8;refine(HNb.o _).mono ?_;rintro e w3 ⟨rfl,hb3,hd3⟩)
  |fail)
 have hT:Tw w (fun _=>False) w3 wc.heap.size w2.heap.size (Dk.new room) (Dk.new room):=by
  have h1:=hB1.size;have h2:=hd2.lt _ rfl;exact⟨(hB1.trans (hb2.mono h1)).trans (hb3.mono (le1 h1 hb2.size)),fun _ q=>q.elim,_,_,hd2.below hb3,hd3,fun b q=>⟨by omega,by omega,id⟩,fun b q=>⟨by omega,id⟩⟩
 have hll0:(Dk.new room).loose.length<=0:=le0;have HT:=Lh hT;clear hT hd2 hd3 hb2 hb3 HNa HNb hroom hB1;generalize Dk.new room=d0 at*;generalize wc.heap.size=D at*;generalize w2.heap.size=D' at*;generalize hN1:l1.length=N1 at*;generalize hN2:l2.length=N2 at*;have HL1:=Lh hN1;have HL2:=Lh hN2;clear hN1 hN2
 go_wp2_with fail
 go_loopw [51] (fun q wr=> ∃(k:Nat) (d:Dk),q= .int .i64 (k:Int)/\k<=N1/\Tw w (fun _=>False) wr D D' d d/\d.loose.length<=k) (fun q _=>N1-(intOf q).toNat)
 case atStart=>exact⟨0,d0,rfl,ze0,HT.o,hll0⟩
 case round=>
  obtain⟨k,d,rfl,hk,hT,hl⟩:=hrel;by_cases hlt:k<N1
  ·have hkl:k<l1.length:=by have:=HL1.o;omega
   obtain⟨b,off,cp,e1,hb,hc⟩:=(HG1.o.keep (Q:=(· <w.heap.size)) (fun _ k=>k) (fun b hb=>hT.below.block b hb)).at_ k hkl;rw[HL1.o]at e1;simp only[vs0,true_and]at e1;obtain⟨rfl,rfl⟩:=e1;have hok:=HK1.o l1[k] (List.getElem_mem hkl);have hkI:(k:Int)<(N1:Int):=by omega
   have hbw:=hT.below.size;have hfew:=d.does_few l1[k];generalize l1[k]'hkl=op at*;have HOK:=Lh hok;obtain⟨ok,of_,on_,om,os⟩:=op;unfold DOp.cells at hc;dsimp only at hc;have c0:=hc 0 (by omega);have c1:=hc 1 (by omega);have c2:=hc 2 (by omega);have c3:=hc 3 (by omega);have c4:=hc 4 (by omega);rw[Nat.add_zero]at c0;have hbx:=Blk.new wr #[.int .i64 ok,.int .i64 of_,.int .i64 on_,.int .i64 om,.string os] 35;have hT2:=hT.keep ((Below.refl wr.heap.size wr).alloc le0 (.cells #[.int .i64 ok,.int .i64 of_,.int .i64 on_,.int .i64 om,.string os] 35));have HDO:=Lh (does_c w _ _ D D' d hT2 _ HOK.o (by omega));unfold px DOp.cells at HDO;dsimp only at HDO;clear hc hok hT hT2 hb
   go_upto_region 10 with fail
   generalize World.alloc wr _=W2 at*;obtain⟨x0,x1,x2,x3,x4⟩:=hbx.q5;clear c0 c1 c2 c3 c4 hbx
   go_wp2_with (first|(go_at_call 9;refine HDO.o.mono ?_;rintro e w3 ⟨rfl,hT3,_⟩)|fail)
   go_roundw
   case rel=>exact⟨k+1,_,by go_num,by omega,hT3,by omega⟩
   case measure=>simp[intOf];omega
  ·obtain rfl:k=N1:=by omega
   have hlf: ¬((k:Int)<(k:Int)):=by omega
   have HOP:=Lh (fun(W:World) (d:Dk) (q:Tw w (fun _=>False) W D D' d d) (h:d.loose.length<=100000000)=>open_prog q h);have HOR:=Lh (fun(W:World) (d:Dk) (er:Int) (pn:Value) (q:To w W D D' d er pn) (h:d.loose.length<=100000000)=>open_ref q h);have hT0:=hT;unfold px at HOP HOR;have hfo:=Rdw.open_few d
   go_upto_region 15 with (first
    |(go_at_call 10;refine(HOP.o _ d hT0 (by omega)).mono ?_;rintro e w4 ⟨pn,er,rfl,hTo⟩)
    |(go_at_call 11;refine(HOR.o _ d er pn hTo (by omega)).mono ?_;rintro e w5 ⟨o,pm,rfl,hX⟩)
    |fail)
   have hld:(Rdw.open d).1.loose.length<=301:=by omega
   have HX:=Lh hX;clear hT hT0 hTo hX hl hfo;generalize (Rdw.open d).1=d1 at*;clear d
   go_wp2_with fail
   go_loopw [8,10,13,14,73] (fun s8 s10 pn pm q wr=> ∃(k:Nat) (d:Dk) (er:Int) (o:Option Rdw),q= .int .i64 (k:Int)/\k<=N2/\s8= .int .i64 er/\s10= .int .i64 er/\Tx w (fun _=>False) wr D D' d d o pn pm/\d.loose.length<=301+2*k) (fun _ _ _ _ q _=>N2-(intOf q).toNat)
   case atStart=>exact⟨0,d1,er,o,rfl,ze0,rfl,rfl,HX.o,hld⟩
   case round=>
    clear HX hld;obtain⟨k,d,er,o,rfl,hk,rfl,rfl,hX,hl⟩:=hrel;by_cases hlt:k<N2
    ·have hkl:k<l2.length:=by have:=HL2.o;omega
     have hBX:=hX.tw.below;obtain⟨b,off,cp,sv,e1,hb,hnd,hc⟩:=HG2.o.at_ k hkl;rw[HL2.o]at e1;simp only[vs0,true_and]at e1;obtain⟨rfl,rfl⟩:=e1;obtain⟨sa,sc,rfl,_,_⟩:=hnd.slice;have hok:=HK2.o l2[k] (List.getElem_mem hkl);have hsm:=HSM.o.2 l2[k] (List.getElem_mem hkl);have hkI:(k:Int)<(N2:Int):=by omega
     have hbw:=hBX.size;replace hc:=fun j hj=>(World.cell?_of_block (a:=⟨b,off+k*12+j,none⟩) (hBX.block b hb)).trans (hc j hj);generalize l2[k]'hkl=op at*;have HOK:=Lh hok;have HSO:=Lh hsm;unfold opC at hc;have c0:=hc 0 (by omega);have c1:=hc 1 (by omega);have c2:=hc 2 (by omega);have c3:=hc 3 (by omega);have c4:=hc 4 (by omega);have c5:=hc 5 (by omega);have c6:=hc 6 (by omega);have c7:=hc 7 (by omega);have c8:=hc 8 (by omega);have c9:=hc 9 (by omega);have c10:=hc 10 (by omega);have c11:=hc 11 (by omega);rw[Nat.add_zero]at c0;have hbx:=Blk.new wr #[.int .i64 op.kind,.int .i64 op.n,.int .i64 op.m,.int .u8 (op.x.kind:Int),.int .i64 op.x.n,.int .i64 op.x.cut,.int .i64 op.x.too,.int .i64 op.x.job.par,.slice sa op.x.job.nodes.length sc,.int .i64 op.x.part,.int .i64 op.x.at_,.int .i64 op.x.why] 49;have hX2:=hX.mark (.cells #[.int .i64 op.kind,.int .i64 op.n,.int .i64 op.m,.int .u8 (op.x.kind:Int),.int .i64 op.x.n,.int .i64 op.x.cut,.int .i64 op.x.too,.int .i64 op.x.job.par,.slice sa op.x.job.nodes.length sc,.int .i64 op.x.part,.int .i64 op.x.at_,.int .i64 op.x.why] 49);have HSI:Hd (∀W,Below w.heap.size w W->StIn W (· <w.heap.size) (.agg #[.int .u8 (op.x.kind:Int),.int .i64 op.x.n,.int .i64 op.x.cut,.int .i64 op.x.too,.int .i64 op.x.job.par,.slice sa op.x.job.nodes.length sc,.int .i64 op.x.part,.int .i64 op.x.at_,.int .i64 op.x.why]) op.x):=fun W hb=>⟨_,rfl,hnd.keep (fun _ q=>q) fun b q=>hb.block b q⟩;clear hc hok hsm hX hb hnd hBX
     go_upto_region 18 with fail
     generalize World.alloc wr _=W2 at*;generalize wr.heap.size=B at*;have HX2:=Lh hX2;have HBX:=Lh hbx;have hl64:d.loose.length<=9223372036854775807:=by omega
     clear c0 c1 c2 c3 c4 c5 c6 c7 c8 c9 c10 c11 hX2 hbx
     go_cut [114] (fun s114 wx=>s114= .bool false/\Below W2.heap.size W2 wx)
     case first=>
      as_aux_lemma=>
      have hTw:=HX2.o.tw;have hwB:=hTw.below;obtain⟨MP,hMP,_⟩:=hTw.prog;obtain⟨MR,hMR,_⟩:=hTw.ref;have HLO:Hd (∀W,Below W2.heap.size W2 W->Calls prog 12 #[px D] W fun e w'=>e= .returned (.int .i64 d.loose.length)/\W=w'):=fun W hb=>Loose_c W MP D d (hMP.below hb);have HON:Hd (∀W,Below W2.heap.size W2 W->Calls prog 13 #[px D] W fun e w'=>e= .returned (.bool !d.off)/\W=w'):=fun W hb=>On_c W MP D d (hMP.below hb);have HMA:Hd (∀W,Below W2.heap.size W2 W->CB prog 14 #[.agg #[.int .u8 (op.x.kind:Int),.int .i64 op.x.n,.int .i64 op.x.cut,.int .i64 op.x.too,.int .i64 op.x.job.par,.slice sa op.x.job.nodes.length sc,.int .i64 op.x.part,.int .i64 op.x.at_,.int .i64 op.x.why]] W (.bool op.x.mayB)):=fun W hb=>roMay_c op.x HOK.o.1 _ W (· <w.heap.size) (HSI.o W (hwB.trans (hb.mono hwB.size))) (fun b q=>lt1 q (le1 hwB.size hb.size));have HMR:Hd (∀W,Below W2.heap.size W2 W->CB prog 15 #[.agg #[.int .u8 (op.x.kind:Int),.int .i64 op.x.n,.int .i64 op.x.cut,.int .i64 op.x.too,.int .i64 op.x.job.par,.slice sa op.x.job.nodes.length sc,.int .i64 op.x.part,.int .i64 op.x.at_,.int .i64 op.x.why]] W (.bool op.x.mayB)):=fun W hb=>rrMay_c op.x HOK.o.1 HSO.o.2 HSO.o.1 _ W (· <w.heap.size) (HSI.o W (hwB.trans (hb.mono hwB.size))) (fun b q=>lt1 q (le1 hwB.size hb.size));obtain⟨rv,hrb,hrl⟩:=hMR.ex;obtain⟨ra,rc,rfl,_,_⟩:=RDk.slice (hrl.keep (fun b q=>q.1) (fun _ _=>rfl));have HRC:Hd (∀W,Below W2.heap.size W2 W->W.cell? ⟨D',33,none⟩=some (.slice ra d.loose.length rc)/\W.cell? ⟨D',34,none⟩=some (.bool d.off)):=fun W hb=>⟨((hrb.below hb hrb.lt).cell 33).trans (dkC_33 hMR.inv.len),((hrb.below hb hrb.lt).cell 34).trans (dkC_34 hMR.inv.len)⟩;have t1:(er !=er)=false:=by simp
      have t2:((d.loose.length:Int) !=(d.loose.length:Int))=false:=by simp
      have t3:((!d.off)==d.off)=false:=by cases d.off<;>rfl
      have t4:(op.x.mayB !=op.x.mayB)=false:=by simp
      have hXX:=HX2.o;generalize op.x.mayB=fm at*;generalize d.off=fo at*;unfold px at HLO HON;clear hTw hMP hMR hrb hrl;rcases hXX with ⟨rfl,rfl,rfl,hq⟩|⟨r,R,R',rfl,rfl,rfl,hq⟩
      all_goals
       clear hq HX2
       (try unfold px)
       have hb:=(Below.refl W2.heap.size W2).drew;refine wp_region_held_drew (S:=(fun w'=>Below W2.heap.size W2 w')) (by kernel_rfl) ?_ (fun hHeld=>tk0 ?_)
       ·exact hb
       repeat' first
        |(refine tkt1 (v:=?_) (by decide+kernel) rfl (by rfl) (fun _ _ _ h=>h) (by assumption) ?_ ?_;rotate_left;(· intro w' hSw;(try dsimp only at hSw);have q1:=HRC.o _ hSw;have y33:=q1.1;have y34:=q1.2;have q2:=HBX.o.below hSw (Blk.lt HBX.o);have b3:=q2.cell 3;have b4:=q2.cell 4;have b5:=q2.cell 5;have b6:=q2.cell 6;have b7:=q2.cell 7;have b8:=q2.cell 8;have b9:=q2.cell 9;have b10:=q2.cell 10;have b11:=q2.cell 11;clear hSw q1 q2;go_simp;(try with_reducible rfl));try simp only[Act.put,tkA,tkB,tkC,tkD,tkE,tkF])
        |(refine tkR 12 (fun K hK=>?_) (by rfl) (by decide+kernel);go_simp;go_at_call 12;refine(HLO.o _ hb).mono ?_;rintro e w3 ⟨rfl,rfl⟩;refine hK.out _ _ ?_ (fun hHeld=>?_);(· exact hb);clear hK K;(try simp only[Act.put,tkA,tkB,tkC,tkD,tkE,tkF]);refine tkg 18 ?_)
        |(refine tkR 22 (fun K hK=>?_) (by rfl) (by decide+kernel);go_simp;go_at_call 13;refine(HON.o _ hb).mono ?_;rintro e w3 ⟨rfl,rfl⟩;refine hK.out _ _ ?_ (fun hHeld=>?_);(· exact hb);clear hK K;(try simp only[Act.put,tkA,tkB,tkC,tkD,tkE,tkF]);refine tkg 27 ?_)
        |(refine tkR 32 (fun K hK=>?_) (by rfl) (by decide+kernel);go_simp;go_at_call 14;refine(HMA.o _ hb).mono ?_;rintro e w3 ⟨rfl,hb3⟩;replace hb:=hb.trans (hb3.mono hb.size);clear hb3;refine hK.out _ _ ?_ (fun hHeld=>?_);(· exact hb);clear hK K;(try simp only[Act.put,tkA,tkB,tkC,tkD,tkE,tkF]);refine tkg 33 ?_)
        |(refine tkR 35 (fun K hK=>?_) (by rfl) (by decide+kernel);go_simp;go_at_call 15;refine(HMR.o _ hb).mono ?_;rintro e w3 ⟨rfl,hb3⟩;replace hb:=hb.trans (hb3.mono hb.size);clear hb3;refine hK.out _ _ ?_ (fun hHeld=>?_);(· exact hb);clear hK K;(try simp only[Act.put,tkA,tkB,tkC,tkD,tkE,tkF]);refine tkg 36 ?_)
        |refine tkM ?_
        |refine tkZ ?_
        |fail
       all_goals
        (try go_wp2_with fail)
        go_meet;exact⟨rfl,hb⟩
     case rest=>
     obtain⟨rfl,hb18⟩:=hcut;have hX3:=HX2.o.keep hb18;have hx3:=HBX.o.below hb18 (Blk.lt HBX.o);have hk4:op.kind=1\/op.kind=2\/op.kind=0\/((op.kind==1)=false/\(op.kind==2)=false/\(op.kind !=0)=true):=by
      simp only[bq0,bne_iff_ne];omega
     clear hb18 HX2;obtain⟨y0,y1,y2⟩:=hx3.q3;have HX3:=Lh hx3;rcases hk4 with hk1|hk1|hk1|⟨hk1,hk2,hk3⟩
     ·rw[hk1]at y0;have HPP:=Lh (pow_prog hX3 op.n HOK.o.2);have HPR:=Lh (fun W (q:Tx w (fun b=>False\/b=B) W D D' (d.power op.n).1 d o u13 u14)=>pow_ref q op.n HOK.o.2);have hpf:(d.power op.n).1.loose.length<=d.loose.length+1:=d.does_few ⟨5,0,op.n,0,.empty⟩;unfold px at HPP HPR;clear hX3 hx3
      go_wp2_with (first
       |(go_at_call 16;refine HPP.o.mono ?_;rintro e w4 ⟨rfl,hX4,hk4⟩;have y1:=Blk.cell ((hk4 B (.inr rfl)).trans HX3.o) 1)
       |(go_at_call 17;refine(HPR.o _ hX4).mono ?_;rintro e w5 ⟨rfl,hX5,_⟩)
       |fail)
      go_roundw
      case rel=>exact⟨k+1,_,er,o,by go_num,by omega,rfl,rfl,hX5.less fun _ q=>q.elim,by omega⟩
      case measure=>simp[intOf];omega
     ·rw[hk1]at y0;obtain⟨M3,hM3,K3⟩:=hX3.tw.prog;have HCP:=Lh (Crash_c wc M3 D d hM3 op.n op.m (by omega));have HCR:=Lh (fun(W:World) M (q:RDk W M D' d)=>rCrash_c W M D' d q op.n op.m (by omega));have hl7:(d.crash op.n op.m).loose.length<=0:=le0;have hfo:=Rdw.open_few (d.crash op.n op.m);unfold px at HCP HCR;clear hX3 hx3
      go_upto_region 27 with (first
       |(go_at_call 18;refine HCP.o.mono ?_;rintro e w4 ⟨rfl,hd4⟩;obtain⟨hT4,hk4⟩:=K3 _ _ hd4;have hx4:Blk w4 B _ _:=(hk4 B (.inr rfl)).trans HX3.o;have y1:=hx4.cell 1;have y2:=hx4.cell 2;obtain⟨M4,hM4,K4⟩:=hT4.ref)
       |(go_at_call 19;refine(HCR.o _ M4 hM4).mono ?_;rintro e w5 ⟨rfl,hd5⟩;obtain⟨hT5,hk5⟩:=K4 _ _ hd5;have y0:=Blk.cell ((hk5 B (.inr rfl)).trans hx4) 0;rw[hk1]at y0;have hT7:=hT5.less (Y:=fun _=>False) fun _ q=>q.elim)
       |fail)
      go_wp2_with (first
       |(go_at_call 10;refine(HOP.o _ _ hT7 (by omega)).mono ?_;rintro e w8 ⟨pn',er',rfl,hTo⟩)
       |(go_at_call 11;refine(HOR.o _ _ er' pn' hTo (by omega)).mono ?_;rintro e w9 ⟨o',pm',rfl,hXn⟩)
       |fail)
      go_roundw
      case rel=>exact⟨k+1,_,er',o',by go_num,by omega,rfl,rfl,hXn,by omega⟩
      case measure=>simp[intOf];omega
     ·rw[hk1]at y0;rcases hX3 with ⟨rfl,rfl,rfl,hq⟩|⟨r,R,R',rfl,rfl,rfl,hq⟩
      ·have hT7:=hq.less (Y:=fun _=>False) fun _ q=>q.elim;have hl7:=hl;have hfo:=Rdw.open_few d
       go_upto_region 27 with fail
       go_wp2_with (first
        |(go_at_call 10;refine(HOP.o _ _ hT7 (by omega)).mono ?_;rintro e w8 ⟨pn',er',rfl,hTo⟩)
        |(go_at_call 11;refine(HOR.o _ _ er' pn' hTo (by omega)).mono ?_;rintro e w9 ⟨o',pm',rfl,hXn⟩)
        |fail)
       go_roundw
       case rel=>exact⟨k+1,_,er',o',by go_num,by omega,rfl,rfl,hXn,by omega⟩
       case measure=>simp[intOf];omega
      ·unfold px
       go_upto_region 29 with fail
       have hfw:=hq.few;have HFW:=Lh hfw;have hpf:=Rdw.put_few d r op.x
       go_cut [8,10] (fun s8 s10 wx=>s8= .int .i64 (Rdw.put d r op.x).2.2/\s10= .int .i64 (Rdw.put d r op.x).2.2/\Tr w (fun b=>False\/b=B) wx D D' R R' (Rdw.put d r op.x).2.1 (Rdw.put d r op.x).2.1 (Rdw.put d r op.x).1 (Rdw.put d r op.x).1)
       case first=>
        as_aux_lemma=>
        have hx:Blk wc.drew B _ _:=hx3;replace hq:=hq.keep (Below.refl wc.heap.size wc).drew;clear y0 y1 y2 hx3;have HLL:Hd (d.loose.length<=1000000000):=by show _<=_;omega
        refine wp_region_held_drew (S:=(fun w'=>Blk w' B 49 #[.int .i64 op.kind,.int .i64 op.n,.int .i64 op.m,.int .u8 (op.x.kind:Int),.int .i64 op.x.n,.int .i64 op.x.cut,.int .i64 op.x.too,.int .i64 op.x.job.par,.slice sa op.x.job.nodes.length sc,.int .i64 op.x.part,.int .i64 op.x.at_,.int .i64 op.x.why])) (by kernel_rfl) ?_ (fun hHeld=>tk0 ?_)
        ·exact hx
        repeat' first
         |(refine tkt1 (v:=?_) (by decide+kernel) rfl (by rfl) (fun _ _ _ h=>h) (by assumption) ?_ ?_;rotate_left;(· intro w' hSw;(try dsimp only at hSw);have b3:=hSw.cell 3;have b4:=hSw.cell 4;have b5:=hSw.cell 5;have b6:=hSw.cell 6;have b7:=hSw.cell 7;have b8:=hSw.cell 8;have b9:=hSw.cell 9;have b10:=hSw.cell 10;have b11:=hSw.cell 11;clear hSw;go_simp;(try with_reducible rfl));try simp only[Act.put,tkA,tkB,tkC,tkD,tkE,tkF])
         |(refine tkR 3 (fun K hK=>?_) (by rfl) (by decide+kernel);go_simp;go_at_call 20;refine(put_prog hq op.x _ (HSI.o _ hq.below) HOK.o.1 HLL.o).mono ?_;rintro e w4 ⟨rfl,hq4,hk4⟩;replace hx:=(hk4 B (.inr rfl)).trans hx;replace hq:=hq4;clear hq4 hk4;refine hK.out _ _ ?_ (fun hHeld=>?_);(· exact hx);clear hK K;(try simp only[Act.put,tkA,tkB,tkC,tkD,tkE,tkF]);refine tkg 7 ?_)
         |(refine tkR 7 (fun K hK=>?_) (by rfl) (by decide+kernel);go_simp;go_at_call 21;refine(put_ref hq op.x _ (HSI.o _ hq.below) HOK.o.1 HSO.o HLL.o HFW.o).mono ?_;rintro e w4 ⟨rfl,hq4,hk4⟩;replace hx:=(hk4 B (.inr rfl)).trans hx;replace hq:=hq4;clear hq4 hk4;refine hK.out _ _ ?_ (fun hHeld=>?_);(· exact hx);clear hK K;(try simp only[Act.put,tkA,tkB,tkC,tkD,tkE,tkF]);refine tkg 8 ?_)
         |refine tkM ?_
         |refine tkZ ?_
         |fail
        all_goals
         go_wp2_with fail
         go_meet;exact⟨rfl,rfl,hq⟩
       case rest=>
       obtain⟨rfl,rfl,hq5⟩:=hcut
       go_upto_region 30 with fail
       generalize Rdw.put d r op.x=rp at*;obtain⟨d5,r5,e5⟩:=rp;dsimp only at hq5 hpf;have HQ5:=Lh hq5;obtain⟨M5,P5,L5,hR5,_,_⟩:=hq5.prog;obtain⟨M6,F6,L6,hR6,_,_⟩:=hq5.ref;obtain⟨lv,hbk,hsr⟩:=hR6.rd;have HPH:Hd (phL r5.l 0=some r5.phase):=hR6.ph;have hp4:=hR5.phase;have hwr:IntKind.i64.wrap (r5.phase:Int)=(r5.phase:Int):=by simp[IntKind.wrap,IntKind.bits,IntKind.signed];omega
       have HLE:Hd (∀W,Below wc.heap.size wc W->Calls prog 22 #[px R] W fun e w'=>e= .returned (.int .i64 (r5.l.length:Int))/\W=w'):=fun W hb=>roLen_c (hR5.below hb);have HPA:Hd (∀W,Below wc.heap.size wc W->Calls prog 23 #[px R] W fun e w'=>e= .returned (.int .u8 (r5.phase:Int))/\W=w'):=fun W hb=>roPhase_c (hR5.below hb);have HPB:Hd (∀W,Below wc.heap.size wc W->Calls prog 24 #[lv] W fun e w'=>e= .returned (.int .i64 (r5.phase:Int))/\W=w'):=fun W hb=>by
        have:=rPhase_c W F6 lv r5.l (hsr.keep (fun _ q=>q) fun b q=>hb.block b (hR6.lt b (.inr (.inl q))));rw[HPH.o]at this;exact this
       obtain⟨la,lcp,rfl,_,_⟩:=hsr.slice;have HRB:Hd (∀W,Below wc.heap.size wc W->W.cell? ⟨R',1,none⟩=some (.slice la r5.l.length lcp)):=fun W hb=>(hbk.below hb hbk.lt).cell 1;have t1:((r5.l.length:Int) !=(r5.l.length:Int))=false:=by simp
       have t2:((r5.phase:Int) !=(r5.phase:Int))=false:=by simp
       have hl64:r5.l.length<=9223372036854775807:=by have:=hR5.few.2;omega
       unfold px at HLE HPA;clear hq5 hR5 hR6 hbk hsr y0 y1 y2 hx3 hq
       go_cut [186] (fun s186 wx=>s186= .bool false/\Below wc.heap.size wc wx)
       case first=>
        as_aux_lemma=>
        have hb:=(Below.refl wc.heap.size wc).drew;refine wp_region_held_drew (S:=(fun w'=>Below wc.heap.size wc w')) (by kernel_rfl) ?_ (fun hHeld=>tk0 ?_)
        ·exact hb
        repeat' first
         |(refine tkt1 (v:=?_) (by decide+kernel) rfl (by rfl) (fun _ _ _ h=>h) (by assumption) ?_ ?_;rotate_left;(· intro w' hSw;(try dsimp only at hSw);have k1:=HRB.o _ hSw;clear hSw;go_simp;(try with_reducible rfl));try simp only[Act.put,tkA,tkB,tkC,tkD,tkE,tkF])
         |(refine tkR 1 (fun K hK=>?_) (by rfl) (by decide+kernel);go_simp;go_at_call 22;refine(HLE.o _ hb).mono ?_;rintro e w3 ⟨rfl,rfl⟩;refine hK.out _ _ ?_ (fun hHeld=>?_);(· exact hb);clear hK K;(try simp only[Act.put,tkA,tkB,tkC,tkD,tkE,tkF]);refine tkg 7 ?_)
         |(refine tkR 10 (fun K hK=>?_) (by rfl) (by decide+kernel);go_simp;go_at_call 23;refine(HPA.o _ hb).mono ?_;rintro e w3 ⟨rfl,rfl⟩;refine hK.out _ _ ?_ (fun hHeld=>?_);(· exact hb);clear hK K;(try simp only[Act.put,tkA,tkB,tkC,tkD,tkE,tkF]);refine tkg 11 ?_)
         |(refine tkR 16 (fun K hK=>?_) (by rfl) (by decide+kernel);go_simp;go_at_call 24;refine(HPB.o _ hb).mono ?_;rintro e w3 ⟨rfl,rfl⟩;refine hK.out _ _ ?_ (fun hHeld=>?_);(· exact hb);clear hK K;(try simp only[Act.put,tkA,tkB,tkC,tkD,tkE,tkF]);refine tkg 17 ?_)
         |refine tkM ?_
         |refine tkZ ?_
         |fail
        all_goals
         (try go_wp2_with fail)
         go_meet;exact⟨by first|rfl|rw[hwr,t2],hb⟩
       case rest=>
       obtain⟨rfl,hb30⟩:=hcut
       go_wp2_with fail
       go_roundw
       case rel=>exact⟨k+1,d5,e5,some r5,by go_num,by omega,rfl,rfl,.inr ⟨r5,R,R',rfl,rfl,rfl,(HQ5.o.less fun _ q=>q.elim).keep hb30⟩,by omega⟩
       case measure=>simp[intOf];omega
     ·have hT7:=hX3.tw.less (Y:=fun _=>False) fun _ q=>q.elim;have hl7:=hl;have hfo:=Rdw.open_few d
      go_upto_region 27 with fail
      go_wp2_with (first
       |(go_at_call 10;refine(HOP.o _ _ hT7 (by omega)).mono ?_;rintro e w8 ⟨pn',er',rfl,hTo⟩)
       |(go_at_call 11;refine(HOR.o _ _ er' pn' hTo (by omega)).mono ?_;rintro e w9 ⟨o',pm',rfl,hXn⟩)
       |fail)
      go_roundw
      case rel=>exact⟨k+1,_,er',o',by go_num,by omega,rfl,rfl,hXn,by omega⟩
      case measure=>simp[intOf];omega
    ·obtain rfl:k=N2:=by omega
     have t1:(er !=er)=false:=by simp
     have hBX:=hX.tw.below;rcases hX with ⟨rfl,rfl,rfl,hq⟩|⟨r,R,R',rfl,rfl,rfl,hq⟩
     ·clear hq
      go_wp2_with fail
      go_loopw [17] (fun q w9=>q= .int .i64 0/\w9=wr) (fun _ _=>0)
      case atStart=>exact⟨rfl,rfl⟩
      case round=>
       obtain⟨rfl,rfl⟩:=hrel;have HW9:=Lh (HWK.o _ hBX)
       go_wp2_with (first|(go_at_call 6;refine HW9.o.mono ?_;rintro e w8 ⟨rfl,hb8⟩)|fail)
       go_ret;exact⟨rfl,hBX.trans (hb8.mono hBX.size)⟩
     ·generalize hwz:wr=wz at*;clear hwz;obtain⟨M5,P5,L5,hR5,_,_⟩:=hq.prog;obtain⟨M6,F6,L6,hR6,_,_⟩:=hq.ref;obtain⟨lv,hbk,hsr⟩:=hR6.rd;obtain⟨la,lcp,rfl,_,_⟩:=hsr.slice;have hl64:r.l.length<=9223372036854775807:=by have:=hR5.few.2;omega
      have hbz:=hBX.size;have HR5:=Lh hR5;have HSR:=Lh (fun W (hb:Below wz.heap.size wz W)=>hsr.keep (w':=W) (Q:=F6) (fun _ q=>q) fun b q=>hb.block b (hR6.lt b (.inr (.inl q))));have HF6:=Lh (fun b (q:F6 b)=>hR6.lt b (.inr (.inl q)));have HRB:Hd (∀W,Below wz.heap.size wz W->W.cell? ⟨R',1,none⟩=some (.slice la r.l.length lcp)):=fun W hb=>(hbk.below hb hbk.lt).cell 1;have HBX:=Lh hBX;clear hq hR5 hR6 hbk hsr hBX;unfold px
      go_wp2_with fail
      go_loopw [17] (fun q wr=> ∃i:Nat,q= .int .i64 (i:Int)/\i<=r.l.length/\Below wz.heap.size wz wr) (fun q _=>r.l.length-(intOf q).toNat)
      case atStart=>exact⟨0,rfl,ze0,Below.refl _ _⟩
      case round=>
       obtain⟨i,rfl,hi,hb9⟩:=hrel;have hbw9:=HBX.o.trans (hb9.mono hbz);have k1:=HRB.o _ hb9;by_cases hlt:i<r.l.length
       ·have HAT:=Lh (roAt_c (HR5.o.below hb9) i hlt);obtain⟨sb,soff,scp,sv,e1,hsb,hsn,hsc⟩:=(HSR.o _ hb9).at_ i hlt;simp only[vs0,true_and]at e1;obtain⟨rfl,rfl⟩:=e1;obtain⟨ta,tc,rfl,_,_⟩:=hsn.slice;have hiI:(i:Int)<(r.l.length:Int):=by omega
        have hsl:=HF6.o sb hsb;have hz9:=hb9.size;generalize r.l[i]'hlt=x at*;have HSC:Hd (∀W,Below wr.heap.size wr W-> ∀j,j<9->W.cell? ⟨sb,soff+i*9+j,none⟩=(stC x (.slice ta x.job.nodes.length tc))[j]?):=fun W hb j hj=>(World.cell?_of_block (hb.block sb (by omega))).trans (hsc j hj);have HS2:Hd (∀W,Below wr.heap.size wr W->NodesIn W (· <wr.heap.size) x.job.nodes (.slice ta x.job.nodes.length tc)):=fun W hb=>hsn.keep (fun b q=>lt1 (HF6.o b q) hz9) fun b q=>hb.block b (lt1 (HF6.o b q) hz9);have HP5:=Lh (fun b (q:P5 b)=>lt1 (HR5.o.dis b q).1 hz9);clear hsn hsc hsb;unfold px at HAT
        go_upto_region 39 with (first|(go_at_call 25;refine HAT.o.mono ?_;rintro e w5 ⟨sa,sc,rfl,hnd,hb5⟩;unfold stC)|fail)
        have hbx:=Blk.new w5 #[.int .u8 (x.kind:Int),.int .i64 x.n,.int .i64 x.cut,.int .i64 x.too,.int .i64 x.job.par,.slice sa x.job.nodes.length sc,.int .i64 x.part,.int .i64 x.at_,.int .i64 x.why] 47;have hB6:=hb5.alloc hb5.size (.cells #[.int .u8 (x.kind:Int),.int .i64 x.n,.int .i64 x.cut,.int .i64 x.too,.int .i64 x.job.par,.slice sa x.job.nodes.length sc,.int .i64 x.part,.int .i64 x.at_,.int .i64 x.why] 47);have hnd6:=hnd.keep (Q:=(· <wr.heap.size)) (w':=w5.alloc (.cells #[.int .u8 (x.kind:Int),.int .i64 x.n,.int .i64 x.cut,.int .i64 x.too,.int .i64 x.job.par,.slice sa x.job.nodes.length sc,.int .i64 x.part,.int .i64 x.at_,.int .i64 x.why] 47)) HP5.o fun b q=>alloc_old w5 _ b (lt1 (HP5.o b q) hb5.size);clear hnd;generalize World.alloc w5 _=W6 at*;generalize w5.heap.size=B6 at*;have HBX6:=Lh hbx;have HB6:=Lh hB6;have h96:=hB6.size;have HSA:Hd (∀W,Below W6.heap.size W6 W->CB prog 26 #[.agg #[.int .u8 (x.kind:Int),.int .i64 x.n,.int .i64 x.cut,.int .i64 x.too,.int .i64 x.job.par,.slice sa x.job.nodes.length sc,.int .i64 x.part,.int .i64 x.at_,.int .i64 x.why],.agg #[.int .u8 (x.kind:Int),.int .i64 x.n,.int .i64 x.cut,.int .i64 x.too,.int .i64 x.job.par,.slice ta x.job.nodes.length tc,.int .i64 x.part,.int .i64 x.at_,.int .i64 x.why]] W (.bool true)):=fun W hb=>rrSame_c x _ _ W (· <wr.heap.size) ⟨_,rfl,hnd6.keep (fun _ q=>q) fun b q=>hb.block b (lt1 q h96)⟩ ⟨_,rfl,HS2.o W (hB6.trans (hb.mono h96))⟩ fun b q=>by have:=hb.size;omega
        have HSB:Hd (∀W,Below W6.heap.size W6 W->CB prog 27 #[.agg #[.int .u8 (x.kind:Int),.int .i64 x.n,.int .i64 x.cut,.int .i64 x.too,.int .i64 x.job.par,.slice sa x.job.nodes.length sc,.int .i64 x.part,.int .i64 x.at_,.int .i64 x.why],.agg #[.int .u8 (x.kind:Int),.int .i64 x.n,.int .i64 x.cut,.int .i64 x.too,.int .i64 x.job.par,.slice sa x.job.nodes.length sc,.int .i64 x.part,.int .i64 x.at_,.int .i64 x.why]] W (.bool true)):=fun W hb=>by
         have h:=hnd6.keep (w':=W) (Q:=(· <wr.heap.size)) (fun _ q=>q) fun b q=>hb.block b (lt1 q h96);have:=roSame_c x x _ _ W (· <wr.heap.size) ⟨_,rfl,h⟩ ⟨_,rfl,h⟩ fun b q=>by have:=hb.size;omega
         rw[St.same_refl]at this;exact this
        have HRB6:=Lh (fun W (hb:Below W6.heap.size W6 W)=>(World.cell?_of_block (a:=⟨R',1,none⟩) ((hB6.trans (hb.mono h96)).block R' (by have:=World.block_lt_of_cell? _ _ k1;omega))).trans k1);clear hbx hB6 hnd6 k1
        go_cut [236] (fun s236 wx=>s236= .bool false/\Below W6.heap.size W6 wx)
        case first=>
         as_aux_lemma=>
         have hb:=(Below.refl W6.heap.size W6).drew;refine wp_region_held_drew (S:=(fun w'=>Below W6.heap.size W6 w')) (by kernel_rfl) ?_ (fun hHeld=>tk0 ?_)
         ·exact hb
         repeat' first
          |(refine tkt1 (v:=?_) (by decide+kernel) rfl (by rfl) (fun _ _ _ h=>h) (by assumption) ?_ ?_;rotate_left;(· intro w' hSw;(try dsimp only at hSw);have q1:=HBX6.o.below hSw (Blk.lt HBX6.o);obtain⟨b0,b1,b2,b3,b4,b5,b6,b7,b8⟩:=q1.q9;have k1:=HRB6.o _ hSw;have q2:=HSC.o _ (HB6.o.trans (hSw.mono h96));have s0:=q2 0 (by decide);have s1:=q2 1 (by decide);have s2:=q2 2 (by decide);have s3:=q2 3 (by decide);have s4:=q2 4 (by decide);have s5:=q2 5 (by decide);have s6:=q2 6 (by decide);have s7:=q2 7 (by decide);have s8:=q2 8 (by decide);rw[Nat.add_zero]at s0;unfold stC at s0 s1 s2 s3 s4 s5 s6 s7 s8;clear hSw q1 q2;go_simp;(try with_reducible rfl));try simp only[Act.put,tkA,tkB,tkC,tkD,tkE,tkF])
          |(refine tkR 8 (fun K hK=>?_) (by rfl) (by decide+kernel);go_simp;go_at_call 26;refine(HSA.o _ hb).mono ?_;rintro e w3 ⟨rfl,hb3⟩;replace hb:=hb.trans (hb3.mono hb.size);clear hb3;refine hK.out _ _ ?_ (fun hHeld=>?_);(· exact hb);clear hK K;(try simp only[Act.put,tkA,tkB,tkC,tkD,tkE,tkF]);refine tkg 9 ?_)
          |(refine tkR 17 (fun K hK=>?_) (by rfl) (by decide+kernel);go_simp;go_at_call 27;refine(HSB.o _ hb).mono ?_;rintro e w3 ⟨rfl,hb3⟩;replace hb:=hb.trans (hb3.mono hb.size);clear hb3;refine hK.out _ _ ?_ (fun hHeld=>?_);(· exact hb);clear hK K;(try simp only[Act.put,tkA,tkB,tkC,tkD,tkE,tkF]);refine tkg 18 ?_)
          |refine tkM ?_
          |refine tkZ ?_
          |fail
         all_goals
          (try go_wp2_with fail)
          go_meet;exact⟨rfl,hb⟩
        case rest=>
        obtain⟨rfl,hb39⟩:=hcut
        go_wp2_with fail
        go_roundw
        case rel=>exact⟨i+1,by go_num,by omega,hb9.trans ((HB6.o.trans (hb39.mono h96)).mono hz9)⟩
        case measure=>simp[intOf];omega
       ·obtain rfl:i=r.l.length:=by omega
        have HW9:=Lh (HWK.o _ hbw9)
        go_wp2_with (first|(go_at_call 6;refine HW9.o.mono ?_;rintro e w8 ⟨rfl,hb8⟩)|fail)
        go_ret;exact⟨rfl,hbw9.trans (hb8.mono hbw9.size)⟩
