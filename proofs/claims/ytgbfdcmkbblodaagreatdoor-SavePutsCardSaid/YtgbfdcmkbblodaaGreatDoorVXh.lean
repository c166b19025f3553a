/- Parts. -/
import Derived.Test.YtgbfdcmkbblodaaGreatDoorVXf
import Derived.Test.YtgbfdcmkbblodaaGreatDoorVXg
namespace Go.Proofs.YtgbfdcmkbblodaaGreatDoor
open Go.RowKit
set_option linter.unusedVariables false
set_option linter.unusedSimpArgs false
set_option maxRecDepth 100000
set_option maxHeartbeats 16000000
open Tryz
theorem heavyGo_small6: ∀(l:List Nd) (n:Int),heavyGo l n=false-> ∀d∈l,d.uid.size<=1000
 |d::l,n,h,e,he=>by
  simp only[heavyGo,Bool.or_eq_false_iff,decide_eq_false_iff_not]at h
  rcases List.mem_cons.1 he with rfl|he
  ·have:=h.2.1;omega
  ·exact heavyGo_small6 l _ h.2.2.2 e he
theorem heavy_small6 {j:Jb} (h:j.heavyB=false):j.nodes.length<=40/\ ∀d∈j.nodes,d.uid.size<=1000:=by
 unfold Jb.heavyB at h;simp only[Bool.or_eq_false_iff,decide_eq_false_iff_not]at h;exact⟨by omega,heavyGo_small6 _ _ h.2⟩
theorem Sv.fit {x:Sv} (hok:x.Ok) (h:x.heavyB=false):x.Fit:=by
 obtain⟨h1,h2,h3⟩:=Sv.heavy_small h;have h4:=heavy_small6 h1;exact⟨hok,⟨by omega,fun s hs=>by have:=h3 s hs;omega⟩,fun d hd=>by have:=h4.2 d hd;omega,by omega⟩
theorem Blk.e5 {w:World} {g:Nat} {t:TypeId} {a0 a1 a2 a3 a4:Value} (h:Blk w g t #[a0,a1,a2,a3,a4]):w.cell? ⟨g,0,none⟩=some a0/\w.cell? ⟨g,1,none⟩=some a1/\w.cell? ⟨g,2,none⟩=some a2/\w.cell? ⟨g,3,none⟩=some a3/\w.cell? ⟨g,4,none⟩=some a4:=
 ⟨h.cell 0,h.cell 1,h.cell 2,h.cell 3,h.cell 4⟩
theorem str_self (t:ByteArray):(t.toList==t.toList)=true:=by simp
theorem saPuts_w (w:World) (xa:Sv) (va:Value) (ga:SvIn w (· <w.heap.size) va xa) (ka:xa.Ok) (xb:Sv) (vb:Value) (gb:SvIn w (· <w.heap.size) vb xb) (kb:xb.Ok) (b:ByteArray) (hb:b.size<=140737488351232) (hE:Env w):
  CB prog 3 #[va,vb,.string b] w (.bool true):=by
 obtain⟨a,cap,sa,scap,rfl⟩:=ga.slices;obtain⟨a',cap',sa',scap',rfl⟩:=gb.slices;have hA:=two_bel w (svC xa (.slice a xa.job.nodes.length cap) (.slice sa xa.states.length scap)) (svC xb (.slice a' xb.job.nodes.length cap') (.slice sa' xb.states.length scap')) 27 27;have hba:=(Blk.new w (svC xa (.slice a xa.job.nodes.length cap) (.slice sa xa.states.length scap)) 27).alloc (.cells (svC xb (.slice a' xb.job.nodes.length cap') (.slice sa' xb.states.length scap')) 27);have hbb:=Blk.new_at (w.alloc (.cells (svC xa (.slice a xa.job.nodes.length cap) (.slice sa xa.states.length scap)) 27)) (svC xb (.slice a' xb.job.nodes.length cap') (.slice sa' xb.states.length scap')) 27 (k:=w.heap.size+1) (by simp);have HXA:=Lh (ga.at_ (fun _ k=>k));have HXB:=Lh (gb.at_ (fun _ k=>k));have HWK:Hd (∀W,Below w.heap.size w W->_):=fun W (hb:Below w.heap.size w W)=>works23_c W (hE.keep hb);have HHA:Hd (∀W,Below w.heap.size w W->CB prog 5 #[.agg (svC xa (.slice a xa.job.nodes.length cap) (.slice sa xa.states.length scap))] W (.bool xa.heavyB)):=fun W hb=>SvHeavy_c xa _ W (HXA.o.below hb);have HHB:Hd (∀W,Below w.heap.size w W->CB prog 5 #[.agg (svC xb (.slice a' xb.job.nodes.length cap') (.slice sa' xb.states.length scap'))] W (.bool xb.heavyB)):=fun W hb=>SvHeavy_c xb _ W (HXB.o.below hb);have HKA:=Lh ka;have HKB:=Lh kb;unfold svC at*;clear ga gb hE ka kb;go_enter func3,ntmps3
 go_upto_region 1 with fail
 generalize World.alloc (World.alloc w _) _=W at*;have HA:=Lh hA;have HBW:Hd (∀W1,Below W.heap.size W W1->Below w.heap.size w W1):=fun W1 hb=>HA.o.trans (hb.mono HA.o.size);have HBX:Hd (∀W1,Below W.heap.size W W1->Blk W1 w.heap.size 27 #[.int .i64 xa.n,.int .i64 xa.cut,.int .i64 xa.job.par,.slice a xa.job.nodes.length cap,.slice sa xa.states.length scap]/\Blk W1 (w.heap.size+1) 27 #[.int .i64 xb.n,.int .i64 xb.cut,.int .i64 xb.job.par,.slice a' xb.job.nodes.length cap',.slice sa' xb.states.length scap']):=fun W1 hb=>⟨hba.below hb hba.lt,hbb.below hb hbb.lt⟩;obtain⟨n0,n1,n2,n3,n4⟩:=hba.e5;have B0:Hd (Below W.heap.size W W):=Below.refl _ _;clear hba hbb hA
 cases h1:xa.heavyB
 case true=>
  rw[h1]at HHA;clear h1
  go_wp2_with (first
   |(go_at_call 5;refine(HHA.o _ (HBW.o _ B0.o)).mono ?_;rintro e w2 ⟨rfl,b2⟩;have B2:Hd (Below W.heap.size W w2):=b2;clear b2)
   |(go_at_call 6;refine(HWK.o _ (HBW.o _ B2.o)).mono ?_;rintro e w9 ⟨rfl,b9⟩)
   |fail)
  go_ret;exact⟨rfl,(HBW.o _ B2.o).trans (b9.mono (HBW.o _ B2.o).size)⟩
 rw[h1]at HHA;have H1:=Lh h1;clear h1
 cases h2:xb.heavyB
 case true=>
  rw[h2]at HHB;clear h2
  go_wp2_with (first
   |(go_at_call 5;refine(HHA.o _ (HBW.o _ B0.o)).mono ?_;rintro e w2 ⟨rfl,b2⟩;have B2:Hd (Below W.heap.size W w2):=b2;obtain⟨l0,l1,l2,l3,l4⟩:=(HBX.o _ B2.o).2.e5;clear b2 HHA)
   |(go_at_call 5;refine(HHB.o _ (HBW.o _ B2.o)).mono ?_;rintro e w3 ⟨rfl,b3⟩;have B3:=Lh (B2.o.trans (b3.mono B2.o.size));clear b3)
   |(go_at_call 6;refine(HWK.o _ (HBW.o _ B3.o)).mono ?_;rintro e w9 ⟨rfl,b9⟩)
   |fail)
  go_ret;exact⟨rfl,(HBW.o _ B3.o).trans (b9.mono (HBW.o _ B3.o).size)⟩
 rw[h2]at HHB;have H2:=Lh h2;clear h2;by_cases hsz:70000<b.size
 ·have d1:decide ((70000:Int)<(b.size:Int))=true:=dt0 (by omega)
  go_wp2_with (first
   |(go_at_call 5;refine(HHA.o _ (HBW.o _ B0.o)).mono ?_;rintro e w2 ⟨rfl,b2⟩;have B2:Hd (Below W.heap.size W w2):=b2;obtain⟨l0,l1,l2,l3,l4⟩:=(HBX.o _ B2.o).2.e5;clear b2 HHA)
   |(go_at_call 5;refine(HHB.o _ (HBW.o _ B2.o)).mono ?_;rintro e w3 ⟨rfl,b3⟩;have B3:=Lh (B2.o.trans (b3.mono B2.o.size));clear b3)
   |(go_at_call 6;refine(HWK.o _ (HBW.o _ B3.o)).mono ?_;rintro e w9 ⟨rfl,b9⟩)
   |fail)
  go_ret;exact⟨rfl,(HBW.o _ B3.o).trans (b9.mono (HBW.o _ B3.o).size)⟩
 have d1:decide ((70000:Int)<(b.size:Int))=false:=df0 (by omega);have HBZ:Hd (b.size<=990000):=by show _<=_;omega
 have HFA:=Lh (Sv.fit HKA.o H1.o);have HPA:Hd (∀W1,Below W.heap.size W W1->CB prog 7 #[.agg #[.int .i64 xa.n,.int .i64 xa.cut,.int .i64 xa.job.par,.slice a xa.job.nodes.length cap,.slice sa xa.states.length scap]] W1 (.tuple #[.string (bstr (putSv xa).1),.int .i64 (putSv xa).2])):=fun W1 hb=>SvPut_c xa HKA.o HFA.o.few _ W1 (HXA.o.below (HBW.o _ hb));have HPR:Hd (∀W1,Below W.heap.size W W1->CB prog 8 #[.agg #[.int .i64 xa.n,.int .i64 xa.cut,.int .i64 xa.job.par,.slice a xa.job.nodes.length cap,.slice sa xa.states.length scap]] W1 (.tuple #[.string (bstr (putSv xa).1),.int .i64 (putSv xa).2])):=fun W1 hb=>rSvPut_c xa HFA.o _ W1 (HXA.o.below (HBW.o _ hb));have HSP:Hd (∀W1,Below W.heap.size W W1->CB prog 9 #[.agg #[.int .i64 xa.n,.int .i64 xa.cut,.int .i64 xa.job.par,.slice a xa.job.nodes.length cap,.slice sa xa.states.length scap],.agg #[.int .i64 xb.n,.int .i64 xb.cut,.int .i64 xb.job.par,.slice a' xb.job.nodes.length cap',.slice sa' xb.states.length scap']] W1 (.bool (xa.sameB xb))):=fun W1 hb=>SvSame_c xa xb _ _ W1 (HXA.o.below (HBW.o _ hb)) (HXB.o.below (HBW.o _ hb));have HSR:Hd (∀W1,Below W.heap.size W W1->CB prog 10 #[.agg #[.int .i64 xa.n,.int .i64 xa.cut,.int .i64 xa.job.par,.slice a xa.job.nodes.length cap,.slice sa xa.states.length scap],.agg #[.int .i64 xb.n,.int .i64 xb.cut,.int .i64 xb.job.par,.slice a' xb.job.nodes.length cap',.slice sa' xb.states.length scap']] W1 (.bool (xa.sameB xb))):=fun W1 hb=>rSvSame_c xa xb _ _ W1 (HXA.o.below (HBW.o _ hb)) (HXB.o.below (HBW.o _ hb));generalize bstr (putSv xa).1=t at*;generalize (putSv xa).2=pe at*;generalize xa.sameB xb=sm at*;clear hsz hb
 go_upto_region 5 with (first
  |(go_at_call 5;refine(HHA.o _ (HBW.o _ B0.o)).mono ?_;rintro e w2 ⟨rfl,b2⟩;have B2:Hd (Below W.heap.size W w2):=b2;obtain⟨l0,l1,l2,l3,l4⟩:=(HBX.o _ B2.o).2.e5;clear b2 HHA)
  |(go_at_call 5;refine(HHB.o _ (HBW.o _ B2.o)).mono ?_;rintro e w3 ⟨rfl,b3⟩;have B3:=Lh (B2.o.trans (b3.mono B2.o.size));obtain⟨i0,i1,i2,i3,i4⟩:=(HBX.o _ B3.o).1.e5;clear b3 HHB)
  |(go_at_call 7;refine(HPA.o _ B3.o).mono ?_;rintro e w4 ⟨rfl,b4⟩;have B4:=Lh (B3.o.trans (b4.mono B3.o.size));obtain⟨j0,j1,j2,j3,j4⟩:=(HBX.o _ B4.o).1.e5;clear b4 HPA)
  |(go_at_call 8;refine(HPR.o _ B4.o).mono ?_;rintro e w5 ⟨rfl,b5⟩;have B5:=Lh (B4.o.trans (b5.mono B4.o.size));clear b5 HPR)
  |fail)
 clear n0 n1 n2 n3 n4 l0 l1 l2 l3 l4 i0 i1 i2 i3 i4 j0 j1 j2 j3 j4 B0 B2 B3 B4
 go_cut [51] (fun c wx=>c= .bool false/\Below W.heap.size W wx)
 case first=>
  have ht:=str_self t;have hp:(pe !=pe)=false:=by simp
  have hs:(sm !=sm)=false:=by cases sm<;>rfl
  have hb:Below W.heap.size W w5.drew:=B5.o.drew;refine wp_region_held_drew (S:=(fun w'=>Below W.heap.size W w')) (by kernel_rfl) ?_ (fun hHeld=>tk0 ?_)
  ·exact hb
  repeat' first
   |refine tkN ?_
   |(refine tkX ?_;try simp only[Act.put,tkA,tkB,tkC,tkD,tkE,tkF])
   |(refine tkt (v:=?_) (by decide+kernel) rfl (by rfl) (fun _ _ _ h=>h) (by assumption) ?_ ?_;rotate_left;(· intro w' hSw;(try dsimp only at hSw);obtain⟨y0,y1,y2,y3,y4⟩:=(HBX.o _ hSw).1.e5;obtain⟨z0,z1,z2,z3,z4⟩:=(HBX.o _ hSw).2.e5;clear hSw;go_simp;(try with_reducible rfl));try simp only[Act.put,tkA,tkB,tkC,tkD,tkE,tkF])
   |refine tkM ?_
   |refine tkZ ?_
   |refine tkB1 ?_
   |refine brN ?_
   |exact brE
   |refine brc rfl (fun K hK=>?_) ?_
   |(replace hK:=hK;go_simp;go_at_call 9;refine(HSP.o _ hb).mono ?_;rintro e w6 ⟨rfl,hb6⟩;replace hb:=hb.trans (hb6.mono hb.size);refine hK.out _ _ ?_ (fun hHeld=>?_);(· exact hb);clear hK K;try simp only[Act.put,tkA,tkB,tkC,tkD,tkE,tkF])
   |(replace hK:=hK;go_simp;go_at_call 10;refine(HSR.o _ hb).mono ?_;rintro e w6 ⟨rfl,hb6⟩;replace hb:=hb.trans (hb6.mono hb.size);refine hK.out _ _ ?_ (fun hHeld=>?_);(· exact hb);clear hK K;try simp only[Act.put,tkA,tkB,tkC,tkD,tkE,tkF])
   |fail
  all_goals first|(go_meet;exact⟨rfl,hb⟩)|(go_wp2_with fail;go_meet;exact⟨rfl,hb⟩)
 case rest=>
  obtain⟨rfl,hbc⟩:=hcut;have BC:=Lh hbc;clear hbc HSP HSR B5;have HTP:=Lh (fun W1=>SvTake_c b HBZ.o W1);have HTR:=Lh (fun W1=>rSvTake_c b HBZ.o W1);rw[rSv_eq b (by have:=HBZ.o;omega)]at HTR;generalize takeSv b=TK at*;obtain⟨x,te⟩:=TK;dsimp only at HTP HTR;have HSM:Hd (∀W v u,SvAt W v x->SvAt W u x->CB prog 10 #[v,u] W (.bool true)):=fun W v u hv hu=>by
   have:=rSvSame_c x x v u W hv hu;rw[Sv.sameB_refl]at this;exact this
  have hte:(te==te)=true:=by simp
  go_upto_region 9 with (first
   |(go_at_call 11;refine(HTP.o _).mono ?_;rintro e w7 ⟨⟨v,rfl,hin⟩,b7⟩;obtain⟨a7,c7,s7,d7,rfl⟩:=hin.slices;have V7:=Lh (hin.at_ (fun _ k=>k.2));unfold svC at V7⊢;have B7:=Lh (BC.o.trans (b7.mono BC.o.size));clear b7 hin HTP)
   |(go_at_call 12;refine(HTR.o _).mono ?_;rintro e w8 ⟨⟨v,rfl,hin⟩,b8⟩;obtain⟨a8,c8,s8,d8,rfl⟩:=hin.slices;have V8:=Lh (hin.at_ (fun _ k=>k.2));unfold svC at V8⊢;clear hin HTR)
   |fail)
  have hP0:=Blk.new w7 #[.int .i64 x.n,.int .i64 x.cut,.int .i64 x.job.par,.slice a7 x.job.nodes.length c7,.slice s7 x.states.length d7] 27;have hal7:Below w7.heap.size w7 (w7.alloc (.cells #[.int .i64 x.n,.int .i64 x.cut,.int .i64 x.job.par,.slice a7 x.job.nodes.length c7,.slice s7 x.states.length d7] 27)):=br0.alloc le0 _;have hP8:=hP0.below b8 hP0.lt;have hal8:Below w8.heap.size w8 (w8.alloc (.cells #[.int .i64 x.n,.int .i64 x.cut,.int .i64 x.job.par,.slice a8 x.job.nodes.length c8,.slice s8 x.states.length d8] 27)):=br0.alloc le0 _;have hP9:=hP8.below hal8 hP8.lt;have hQ9:=Blk.new w8 #[.int .i64 x.n,.int .i64 x.cut,.int .i64 x.job.par,.slice a8 x.job.nodes.length c8,.slice s8 x.states.length d8] 27;have VP:=Lh (((V7.o.below hal7).below b8).below hal8);have VQ:=Lh (V8.o.below hal8);have hb8:=(B7.o.trans (hal7.mono B7.o.size));have hb9:=hb8.trans (b8.mono hb8.size);have B9:=Lh (hb9.trans (hal8.mono hb9.size));obtain⟨p0,p1,p2,p3,p4⟩:=hP9.e5;obtain⟨q0,q1,q2,q3,q4⟩:=hQ9.e5;clear hP0 hal7 hP8 hal8 hP9 hQ9 hb8 hb9 b8 V7 V8 B7 BC
  go_wp2_with (first
   |(go_at_call 10;refine(HSM.o _ _ _ VP.o VQ.o).mono ?_;rintro e w10 ⟨rfl,b10⟩;have B10:=Lh (B9.o.trans (b10.mono B9.o.size));clear b10)
   |(go_at_call 6;refine(HWK.o _ (HBW.o _ B10.o)).mono ?_;rintro e w11 ⟨rfl,b11⟩)
   |fail)
  go_ret;exact⟨rfl,(HBW.o _ B10.o).trans (b11.mono (HBW.o _ B10.o).size)⟩
