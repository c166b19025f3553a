/- Parts. -/
import Derived.Test.YtokgmjefideioaaGreatDoorVY25
namespace Go.Proofs.YtokgmjefideioaaGreatDoor
open Go.RowKit
set_option linter.unusedVariables false
set_option linter.unusedSimpArgs false
set_option maxRecDepth 100000
set_option maxHeartbeats 16000000
open Tryz
section
open Go.RowKit Go.Shelf
theorem lOpen_c (w:World) (M:Nat->Prop) (D:Nat) (d:Dk) (h:DkAt w M D d) (f:Nat) (hf:f<16) (hll:d.loose.length<=1000000000):
  Calls prog 41 #[px D,.int .i64 (f:Int)] w fun e w'=>
   (∃e1,(Lg.open d f).2=(none,e1)/\e= .returned (.tuple #[.pointer none,.int .i64 e1])/\DkTo w w' M D (Lg.open d f).1)\/
   (∃g L N,(Lg.open d f).2=(some g,0)/\e= .returned (.tuple #[px L,.int .i64 0])/\Fr M w w'/\LgAt w' N L g D (Lg.open d f).1/\ ∀b,N b->M b\/w.heap.size<=b):=by
 have HRD:=Lh (Read_c w M D d h (f:Int));have hrd:d.read f=if d.off=true then(.empty,50)else(fl d.now f,0):=by
  unfold Dk.read;have:Dk.isF (f:Int)=true:=by unfold Dk.isF;simp;omega
  rw[this];simp
 have HE:Hd (Lg.open d f=Lg.open d f):=rfl;rw[hrd]at HRD;have HH:=Lh h;clear hrd h;by_cases ho:d.off=true
 ·rw[if_pos ho]at HRD;have HO:Hd (Lg.open d f=(d,none,50)):=by show _=_;unfold Lg.open;rw[if_pos ho]
  clear ho HE;generalize Lg.open d f=R at*;unfold px;go_enter func41,ntmps41
  go_wp2_with (first|(go_at_call 39;refine HRD.o.mono ?_;rintro e w1 ⟨rfl,hb1⟩)|fail)
  go_ret2;rw[HO.o];exact .inl ⟨50,rfl,rfl,HH.o.toB hb1⟩
 ·rw[if_neg ho]at HRD;have HOFF:=Lh ho;clear ho;generalize hs:fl d.now f=s at*;have HS:=Lh hs;have hssz:s.size<=4194304:=by
   have h1:=sum_le d.now f;have h2:=HH.o.inv.fits;have h3:=HH.o.inv.room2;rw[hs]at h1;omega
  clear hs HE;generalize hR:Lg.open d f=R at*;have HR:=Lh hR;clear hR;unfold px;refine(callsIn_wide (n:=6)).1 (callsIn_of_wp_marks func41 rfl trivial (wpIn_wide.2 (wp_mono ?_ postM_post)) rfl);simp only[ntmps41,List.size_toArray,List.length_cons,List.length_nil,Nat.reduceAdd,Nat.reduceSub,Array.replicate_succ,Array.replicate_zero,List.push_toArray,List.append_toArray,List.nil_append,List.cons_append]
  go_upto_region 6 with (first|(go_at_call 39;refine HRD.o.mono ?_;rintro e w1 ⟨rfl,hb1⟩)|fail)
  have hsa: ∀(a:Addr) (w:World),(store a (.pointer (some ⟨w1.heap.size,0,none⟩))).run prog w=stored prog w a (.pointer (some ⟨w1.heap.size,0,none⟩)) .plain:=fun a w=>run_store _ w a _ _ rfl
  go_wp2_with (first|(go_at_call 72;refine(All_c s _).mono ?_;rintro e w2 ⟨rfl,rfl⟩)|fail)
  have hsp: ∃rest,s.data.toList=frs (allF s)++rest/\(∀p∈allF s,p.ok)/\(takeF (bstr rest)).2.2.2≠0:=allF_spec s;have hBS:=Blk.new_at ((w1.alloc (.cells #[px D,.int .i64 (f:Int),.slice none 0 0,.int .i64 0] 126)).alloc (.cells #[px w1.heap.size] 81)) #[.string s] 9 (k:=w1.heap.size+2) (by simp);have hbox:=all_box 4 (w1.heap.size+2) s (by omega) _ hBS;have hI0:OpR w1 D f (w1.heap.size+3) [] (((w1.alloc (.cells #[px D,.int .i64 (f:Int),.slice none 0 0,.int .i64 0] 126)).alloc (.cells #[px w1.heap.size] 81)).alloc (.cells #[.string s] 9)):=
   ⟨rfl,rfl,rfl,by simp,fun b hb=>((alloc_old _ _ b (by simp;omega)).trans (alloc_old _ _ b (by simp;omega))).trans (alloc_old _ _ b hb),(Blk.new_at (w1.alloc _) _ _ (by simp)).alloc _,_,((Blk.new w1 _ _).alloc _).alloc _,World.ownsRow_nil _ _ _ _⟩
  have hszL:(((w1.alloc (.cells #[px D,.int .i64 (f:Int),.slice none 0 0,.int .i64 0] 126)).alloc (.cells #[px w1.heap.size] 81)).alloc (.cells #[.string s] 9)).heap.size=w1.heap.size+3:=by simp
  unfold px at hbox hI0 hszL hBS;generalize World.alloc (World.alloc (World.alloc w1 _) _) _=W0 at*;refine(wpIn_wide (n:=5)).1 ?_;refine wpIn_rangeFunc_box (α:=Frm) rfl (by omega) (gf:=106) (lb:=#[.pointer (some ⟨w1.heap.size+1+1,0,none⟩)]) rfl trivial (enters_of func106 (by kernel_rfl) rfl) (encs:=frmV) (bs:=w1.heap.size+2) (all:=allF s) (by omega) hbox (fun _=>rfl)
   (OpR w1 D f (w1.heap.size+3)) (fun pre A B hA hk=>hA.keep (by omega) (by rw[hszL]at hk;exact hk)) hI0
   (fun x=> {tmps:=#[px D,(Value.int .i64 (f:Int)),undef,undef,Value.pointer none,Value.int .i64 0,Value.string s,Value.int .i64 0,px (w1.heap.size+1),Value.int .u8 (x.1:Int),Value.string x.2,undef,undef,undef,undef,undef,px D,Value.bool false,Value.tuple #[Value.string s,Value.int .i64 0],px D,Value.int .i64 (f:Int),Value.tuple #[Value.string s,Value.int .i64 0],Value.string s,Value.int .i64 0,Value.int .i64 0,Value.bool false,undef,px D,Value.int .i64 (f:Int),Value.agg #[px D,Value.int .i64 (f:Int),Value.slice none 0 0,Value.int .i64 0],px w1.heap.size,Value.string s,Value.func (Fn.func 106) #[] #[px (w1.heap.size+1+1)],Value.int .u8 (x.1:Int),Value.string x.2,undef,undef,undef,undef,undef,undef,undef,undef,undef,undef,undef,undef,undef,undef,undef,undef,undef,undef,undef,undef,undef,undef,undef,undef,undef,undef,undef,undef,undef,undef,undef,undef,undef,undef,undef,undef,undef,undef,undef,undef,undef,undef,undef,undef,undef,undef,undef,undef,undef,undef,undef,undef,undef,undef,undef,undef,undef,undef,undef,undef],defers:=[]}) ?assign ?body ?done
  case assign=>
   intro l x W K hK;unfold px at hK;have hsm: ∀(ρ:Operand->Value) (o:Oper),(∀c,o.op≠ .defer c)->Oper.semAt (some l) ρ o=execOp ρ o:=fun ρ o h=>Oper.semAt_some l ρ o h;simp only[frmV]
   gi_wp2
   exact hK
  case body=>
   rintro l pre x W hI hpre;obtain⟨lv,hLb,hown⟩:=hI.ex;have HOW:=Lh hown;obtain⟨a,cap,rfl,hcap,hmx⟩:=RecAt.slice (show RecAt W lv pre from⟨hown.1,hown.2.imp id (fun⟨g,c,cur,e,_,r⟩=>⟨g,c,cur,e,ze0,r⟩)⟩);have hxm:x∈allF s:=by obtain⟨t,ht⟩:=hpre;rw[<-ht];simp
   have hxo:x.ok:=by obtain⟨_,_,h2,_⟩:=hsp;exact h2 x hxm
   have hprel:(frs (pre++ [x])).length<=4194304:=by
    obtain⟨t,ht⟩:=hpre;have:=allF_le s;rw[<-ht,frs_app,la0]at this;omega
   have hcnt:=frs_count pre;rw[frs_app,la0,show frs [x]=frL x.1 x.2 by rw[frs_cons,frs_nil,List.append_nil]]at hprel;have HFP:=Lh (FPut_c x.1 hxo.1 hxo.2.1 x.2 hxo.2.2 W);have hsz:(bstr (frL x.1 x.2)).size=(frL x.1 x.2).length:=bstr_size _;have HRS:=Lh (recGo_snoc 0 pre x);have HI:=Lh hI;have HLB:=Lh hLb;have HBX:=Lh hI.box;have hWs:=hI.size;obtain⟨i0,hi,hz0,hz1,hz2⟩:=info_parts info_rec;generalize hFS:bstr (frL x.1 x.2)=FS at*;generalize hz:(frs pre).length=z at*;generalize hy:(frL x.1 x.2).length=y at*;have HZ:=Lh hz;have hQ: ∀(K:Act->World->Prop),¬LetsOut (Exit.then K (Exit.inBlock 1 fun ex x_1 W'=>ex=Exit.normal/\KeepsOthers W W'/\W'.heap[w1.heap.size+2]? =W.heap[w1.heap.size+2]? /\OpR w1 D f (w1.heap.size+3) (pre++ [x]) W')):=by
    rintro K ⟨a,w,h⟩
    cases h.1
   have hQ2: ¬LetsOut (Exit.inBlock 1 fun ex x_1 W'=>ex=Exit.normal/\KeepsOthers W W'/\W'.heap[w1.heap.size+2]? =W.heap[w1.heap.size+2]? /\OpR w1 D f (w1.heap.size+3) (pre++ [x]) W'):=by
    rintro ⟨a,w,h⟩
    cases h.1
   clear hI hown hLb hxm hxo hpre hFS hz hy hsp HR HS HRD HH hsa hb1 hbox hI0 hBS;unfold px;refine wpIn_block ?_;refine wpIn_seq ?_;refine plain_round (by simp) (hQ _) ?_
   go_wp2_with (first|(go_at_call 73;refine HFP.o.mono ?_;rintro e w2 ⟨rfl,hb2⟩)|fail)
   have hb3:=hb2.drew;have hrec3:RecAt w2.drew (.slice a pre.length cap) pre:=⟨HOW.o.1,(HOW.o.imp_right (fun h=>h)|>.2).imp id (fun⟨g,c,cur,e,_,hg,r⟩=>⟨g,c,cur,e,ze0,(hb2.block g (Array.getElem?_eq_some_iff.1 hg).1).trans hg,r⟩)⟩;have hL3:Blk w2.drew w1.heap.size 126 _:=HLB.o.below hb3 HLB.o.lt;have hP3:Blk w2.drew (w1.heap.size+1) 81 _:=HBX.o.below hb3 HBX.o.lt;have HPP:Hd (w2.drew.cell? ⟨w1.heap.size+1,0,none⟩=some (.pointer (some ⟨w1.heap.size,0,none⟩))):=hP3.cell 0;have HEN:Hd (Calls prog 74 #[.pointer (some ⟨w1.heap.size,0,none⟩),.int .i64 (pre.length:Int)] w2.drew fun e w'=>e= .returned (.int .i64 (z:Nat))/\w2.drew=w'):=by
    have:=lend_c w1.heap.size _ _ _ _ pre pre.length w2.drew hL3 hrec3 le0 (by rw[HZ.o];omega);rw[List.take_length,HZ.o]at this;exact this
   have HOW3:Hd (w2.drew.ownsRow (w1.heap.size+3) 133 3 (.slice a pre.length cap) pre.length (recL pre)):=⟨HOW.o.1,HOW.o.2.imp id (fun⟨g,c,cur,e,hb0,hg,r⟩=>⟨g,c,cur,e,hb0,(hb2.block g (Array.getElem?_eq_some_iff.1 hg).1).trans hg,r⟩)⟩;refine region_round (S:=fun w'=>w'.cell? ⟨w1.heap.size+1,0,none⟩=some (.pointer (some ⟨w1.heap.size,0,none⟩))) (by kernel_rfl) (by simp) hQ2 HPP.o (fun hHeld=>?_);generalize World.drew w2=W3 at*;have hl2:=hL3.cell 2;have hWz:w1.heap.size+3<=W3.heap.size:=le1 hWs hb3.size;have HREQ:Hd (recL (pre++ [x])=recL pre++ [.int .u8 (x.1:Int),.string x.2,.int .i64 ((z:Int)+(y:Int))]):=by
    have:=HRS.o;rw[Nat.zero_add]at this;show recGo 0 (pre++ [x])=recGo 0 pre++_;rw[this];simp
   have HOA:Hd ((W3.alloc (.cells #[.int .u8 (x.1:Int),.string x.2,.int .i64 ((z:Int)+(y:Int))] 133)).ownsRow (w1.heap.size+3) 133 3 (.slice a pre.length cap) pre.length (recL pre)):=HOW3.o.alloc _;have HNA:Hd (∀j u',([.int .u8 (x.1:Int),.string x.2,.int .i64 ((z:Int)+(y:Int))]:List Value)[j]? =some u'->(W3.alloc (.cells #[.int .u8 (x.1:Int),.string x.2,.int .i64 ((z:Int)+(y:Int))] 133)).cell? ((⟨W3.heap.size,0,none⟩:Addr).add j)=some u'):=World.news_of_block (heap_alloc_new W3 _);have HONE:Hd (∀v∈([.int .u8 (x.1:Int),.string x.2,.int .i64 ((z:Int)+(y:Int))]:List Value),v.oneCell'=true):=by
    show ∀v∈_,_;intro v hv;simp only[List.mem_cons,List.not_mem_nil,or_false]at hv;rcases hv with rfl|rfl|rfl<;>rfl
   have HPA:Hd ((W3.alloc (.cells #[.int .u8 (x.1:Int),.string x.2,.int .i64 ((z:Int)+(y:Int))] 133)).cell? ⟨w1.heap.size+1,0,none⟩=some (.pointer (some ⟨w1.heap.size,0,none⟩))):=(hP3.alloc _).cell 0;have hwr:IntKind.i64.wrap ((z:Int)+(y:Int))=(z:Int)+(y:Int):=by rw[IntKind.wrap_i64];omega
   have HQ:Hd (∀q cap4 w4,w4.ownsRow (w1.heap.size+3) 133 3 (.slice (some ⟨q,0,none⟩) (pre.length+1) cap4) (pre.length+1) (recL pre++ [.int .u8 (x.1:Int),.string x.2,.int .i64 ((z:Int)+(y:Int))])->(W3.alloc (.cells #[.int .u8 (x.1:Int),.string x.2,.int .i64 ((z:Int)+(y:Int))] 133)).grownBy w4 (Value.slice a pre.length cap).ownBlock->
     ((Value.slice a pre.length cap).ownBlock=some q\/q=(W3.alloc (.cells #[.int .u8 (x.1:Int),.string x.2,.int .i64 ((z:Int)+(y:Int))] 133)).heap.size)->q<w4.heap.size->
     Blk w4 w1.heap.size 126 #[px D,.int .i64 (f:Int),.slice a pre.length cap,.int .i64 0]/\w4.cell? ⟨w1.heap.size+1,0,none⟩=some (.pointer (some ⟨w1.heap.size,0,none⟩))/\(w4.cell? ⟨w1.heap.size,2,none⟩=some (.slice a pre.length cap))/\w4.frozen? ⟨w1.heap.size,2,none⟩=false/\
     (w4.setCell ⟨w1.heap.size,2,none⟩ (.slice (some ⟨q,0,none⟩) (pre.length+1) cap4)).cell? ⟨w1.heap.size+1,0,none⟩=some (.pointer (some ⟨w1.heap.size,0,none⟩))/\
     (KeepsOthers W (w4.setCell ⟨w1.heap.size,2,none⟩ (.slice (some ⟨q,0,none⟩) (pre.length+1) cap4))/\(w4.setCell ⟨w1.heap.size,2,none⟩ (.slice (some ⟨q,0,none⟩) (pre.length+1) cap4)).heap[w1.heap.size+2]? =W.heap[w1.heap.size+2]? /\OpR w1 D f (w1.heap.size+3) (pre++ [x]) (w4.setCell ⟨w1.heap.size,2,none⟩ (.slice (some ⟨q,0,none⟩) (pre.length+1) cap4)))):=by
    intro q cap4 w4 hown4 hgrow4 hat4 hlt4;have hro: ∀r,(Value.slice a pre.length cap).ownBlock=some r->w1.heap.size+3<=r:=fun r hr=>(HOW3.o.lt r hr).1;have hLX:=(hL3.alloc (.cells #[.int .u8 (x.1:Int),.string x.2,.int .i64 ((z:Int)+(y:Int))] 133)).grown hgrow4 (fun e=>by have:=hro _ e.symm;omega);have hPX:=(hP3.alloc (.cells #[.int .u8 (x.1:Int),.string x.2,.int .i64 ((z:Int)+(y:Int))] 133)).grown hgrow4 (fun e=>by have:=hro _ e.symm;omega);have hqn:w1.heap.size+3<=q:=by
     rcases hat4 with h|h
     ·exact hro q h
     ·rw[h];simp;omega
    exact⟨hLX,hPX.cell 0,hLX.cell 2,hLX.free 2,(hPX.other (p:=⟨w1.heap.size,2,none⟩) (by show w1.heap.size+1≠w1.heap.size;omega) _).cell 0,
     OpR.snoc HI.o rfl HLB.o HOW.o (hb3.alloc hb3.size _) hgrow4 (by rw[HREQ.o];exact hown4) hqn⟩
   have hl2A:=(hL3.alloc (.cells #[.int .u8 (x.1:Int),.string x.2,.int .i64 ((z:Int)+(y:Int))] 133)).cell 2;clear hL3 hP3 hrec3 HREQ HI HLB HBX HFP;refine tk0 ?_
   repeat' first
    |refine tkN ?_
    |(refine tkX ?_;try simp only[Act.put,tkA,tkB,tkC,tkD,tkE,tkF])
    |(refine tkt (v:=?_) (by decide+kernel) rfl (by rfl) (fun _ _ _ h=>h) (by assumption) ?_ ?_;rotate_left;(· intro w' hSw;(try dsimp only at hSw);go_simp;(try with_reducible rfl));try simp only[Act.put,tkA,tkB,tkC,tkD,tkE,tkF])
    |refine tkM ?_
    |refine tkZ ?_
    |refine tkB1 ?_
    |refine brN ?_
    |exact brE
    |refine brc rfl (fun K hK=>?_) ?_
    |(replace hK:=hK;refine opIs 1 (by decide+kernel) ?_;go_simp;refine hK.out _ _ ?_ (fun hHeld=>?_);(· first|exact HPP.o|exact HPA.o|exact p4);clear hK K;try simp only[Act.put,tkA,tkB,tkC,tkD,tkE,tkF])
    |(replace hK:=hK;refine opIs 4 (by decide+kernel) ?_;go_simp;refine HEN.o.mono ?_;rintro e w5 ⟨rfl,rfl⟩;refine hK.out _ _ ?_ (fun hHeld=>?_);(· first|exact HPP.o|exact HPA.o|exact p4);clear hK K;try simp only[Act.put,tkA,tkB,tkC,tkD,tkE,tkF])
    |(replace hK:=hK;refine opIs 5 (by decide+kernel) ?_;go_simp;refine hK.out _ _ ?_ (fun hHeld=>?_);(· exact HPA.o);clear hK K;try simp only[Act.put,tkA,tkB,tkC,tkD,tkE,tkF])
    |(replace hK:=hK;refine opIs 3 (by decide+kernel) ?_;refine step_append_lies _ (by rfl) _ _ _ (by rfl) (w1.heap.size+3) 133 i0 (.agg #[.int .u8 0,.string {data:=#[]},.int .i64 0]) 3 32 underlying124 hi hz0 hz1 hz2 rfl (by decide) (.slice a pre.length cap) pre.length (recL pre) (by rfl) HOA.o ⟨W3.heap.size,0,none⟩ 1 1 [.int .u8 (x.1:Int),.string x.2,.int .i64 ((z:Int)+(y:Int))] (by rfl) rfl HNA.o HONE.o (by decide) (by unfold maxLen;omega) (by omega) (by simp;omega) _ rfl ?_;intro q cap4 w4 hown4 hgrow4 hat4 hlt4;have hq:=HQ.o q cap4 w4 hown4 hgrow4 hat4 hlt4;have hb4:=hq.1;have p4:=hq.2.1;have c4:=hq.2.2.1;have f4:=hq.2.2.2.1;refine hK.out _ _ ?_ (fun hHeld=>?_);(· exact p4);clear hK K;try simp only[Act.put,tkA,tkB,tkC,tkD,tkE,tkF])
    |(replace hK:=hK;refine opIs 2 (by decide+kernel) ?_;go_simp;refine hK.out _ _ ?_ (fun hHeld=>?_);(· exact hq.2.2.2.2.1);clear hK K;try simp only[Act.put,tkA,tkB,tkC,tkD,tkE,tkF])
    |fail
   all_goals exact⟨rfl,hq.2.2.2.2.2⟩
  case done=>
   intro D2 W hD2 hI hdef;obtain⟨lv,hL,hown⟩:=hI.ex;have hrec:RecAt W lv (allF s):=⟨hown.1,hown.2.imp id (fun⟨g,c,cur,e,_,r⟩=>⟨g,c,cur,e,ze0,r⟩)⟩;obtain⟨a,cap,rfl,hcap,hmx⟩:=hrec.slice;have hle:=allF_le s;have hcnt:=frs_count (allF s);have HPX:Hd (W.cell? ⟨w1.heap.size+1,0,none⟩=some (.pointer (some ⟨w1.heap.size,0,none⟩))):=hI.box.cell 0;have p0:=HPX.o;have l2:=hL.cell 2;have l3:=hL.cell 3;have m3:=hL.free 3;have HEN:Hd (∀W':World,W'.heap=W.heap->Calls prog 74 #[.pointer (some ⟨w1.heap.size,0,none⟩),.int .i64 ((allF s).length:Int)] W' fun e w'=>e= .returned (.int .i64 ((frs (allF s)).length:Nat))/\W'=w'):=by
    intro W' hW';have:=lend_c w1.heap.size _ _ _ _ (allF s) (allF s).length W' (by unfold Blk;rw[hW'];exact hL) (hrec.keep fun _ _=>by rw[hW']) le0 (by omega);rwa[List.take_length]at this
   have hold: ∀b,b<w.heap.size->W.heap[b]? =w.heap[b]? :=fun b hb=>(hI.old b (by have:=hb1.size;omega)).trans (hb1.block b hb);have HOLD:=Lh hold;have HDK:Hd (DkAt W M D d):=HH.o.keep (by have:=hI.size;have:=hb1.size;omega) fun b hb=>hold b (HH.o.lt b hb);have HI2:=Lh hI;have HL:=Lh hL;have HREC:=Lh hrec;have HOWN:=Lh hown;have HDEF:=Lh hdef;have hlen:(allF s).length<=9223372036854775807:=by omega
   have hll2:(allF s).length<=4194304:=by omega
   clear hbox hI0 hBS hsp hold hI hL hrec hown hdef hsa HRD;generalize hl:allF s=l at*;have HAL:=Lh hl;clear hl;generalize hz:(frs l).length=z at*;have HZ:=Lh hz;clear hz;simp only[px]
   go_upto_region 12 with fail
   go_cut [13]from 63 to 95 (fun s13 wx=>s13= .int .i64 (z:Int)/\wx=W.drew)
   case first=>
    go_region_with (first|(go_at_call 74;refine(HEN.o W.drew rfl).mono ?_;rintro e w3 ⟨rfl,rfl⟩))
    all_goals
     go_wp2_with fail
     go_meet;exact⟨rfl,rfl⟩
   case rest=>
   obtain⟨rfl,hwx⟩:=hcut;subst hwx;have hp0:(W.drew).cell? ⟨w1.heap.size+1,0,none⟩=some (.pointer (some ⟨w1.heap.size,0,none⟩)):=p0;have HBW:=Lh hb1;have HMlt:=Lh HH.o.lt;have HRECS:Hd (∀p∈l,p.ok):=by
    show ∀p∈l,p.ok;obtain⟨_,_,h2,_⟩:=allF_spec s;rw[HAL.o]at h2;exact h2
   have HOS:=Lh (open_same s);rw[HAL.o,HZ.o]at HOS;have hD2':w1.heap.size+3<=D2:=by omega
   have HDR:Hd (DkAt W.drew M D d):=HDK.o.keep le0 fun _ _=>rfl;have HOF:Hd (Lg.open d f=if z<s.size then
     (if(d.cut f z).2≠0 then((d.cut f z).1,none,(d.cut f z).2)else if(d.cut f z).1.sync.2≠0 then((d.cut f z).1.sync.1,none,(d.cut f z).1.sync.2)else((d.cut f z).1.sync.1,some ⟨f,l,l.length⟩,0))
     else(d,some ⟨f,l,l.length⟩,0)):=by
    show _=_;unfold Lg.open;rw[if_neg HOFF.o,HS.o,HAL.o,HZ.o]
   rw[HR.o]at HOF;have HUN:Hd (∀Wd d',DkTo W.drew Wd M D d'->DkTo W Wd M D d'):=fun Wd d' h=>h.undrew;have HTAIL:Hd (∀(Wd:World) (d':Dk),DkTo W Wd M D d'->fl d'.now f=bstr (frs l)->
     Wd.cell? ⟨w1.heap.size+1,0,none⟩=some (.pointer (some ⟨w1.heap.size,0,none⟩))/\(Wd.cell? ⟨w1.heap.size,2,none⟩=some (.slice a l.length cap))/\(Wd.cell? ⟨w1.heap.size,3,none⟩=some (.int .i64 0))/\Wd.frozen? ⟨w1.heap.size,3,none⟩=false):=by
    intro Wd d' hT hs;have hk: ∀b,b<w1.heap.size+3->w1.heap.size<=b->Wd.heap[b]? =W.heap[b]? :=fun b h1 h2=>hT.1.block b (by have:=HI2.o.size;omega) (fun hm=>by have:=HMlt.o b hm;have:=hb1.size;omega);have hL2:Blk Wd w1.heap.size 126 _:=(hk _ (by omega) le0).trans HL.o;have hP2:Blk Wd (w1.heap.size+1) 81 _:=(hk _ (by omega) (by omega)).trans HI2.o.box;exact⟨hP2.cell 0,hL2.cell 2,hL2.cell 3,hL2.free 3⟩
   have HFIN:Hd (∀(Wd:World) (d':Dk),DkTo W Wd M D d'->fl d'.now f=bstr (frs l)->(Wd.setCell ⟨w1.heap.size,3,none⟩ (.int .i64 (l.length:Int))).heap[D2]? =some (.deferred (some []))/\
     Fr M w ((Wd.setCell ⟨w1.heap.size,3,none⟩ (.int .i64 (l.length:Int))).putObj D2 (.deferred none))/\
     ∃K,LgAt ((Wd.setCell ⟨w1.heap.size,3,none⟩ (.int .i64 (l.length:Int))).putObj D2 (.deferred none)) K w1.heap.size ⟨f,l,l.length⟩ D d'/\ ∀b,K b->M b\/w.heap.size<=b):=by
    rintro Wd d' ⟨hfW,N,hN,hd'⟩ hs;exact op_fin HBW.o HMlt.o hf HI2.o HL.o HOWN.o HRECS.o HDEF.o hD2' hfW hN hd' hs
   have HERR:Hd (∀(Wd:World) (d':Dk),DkTo W Wd M D d'->Wd.heap[D2]? =some (.deferred (some []))/\DkTo w (Wd.putObj D2 (.deferred none)) M D d'):=fun Wd d' hT=>op_err HBW.o HMlt.o HI2.o HDEF.o hD2' hT;clear HPX HEN p0 l2 l3 m3 HREC HL HOWN HI2 hb1 HOLD HDK hszL hD2 HH HZ HAL HOFF hle hcnt;by_cases hlt:z<s.size
   ·rw[if_pos hlt]at HOF;have d1:decide ((z:Int)<(s.size:Int))=true:=dt0 (by omega);have HC:=Lh (Cut_c W.drew M D d HDR.o f z hll);have HCN:=Lh (cut_now HDR.o.inv f hf z);rw[HS.o,HOS.o.1]at HCN;by_cases hc:(d.cut f z).2=0
    ·rw[if_neg (by simpa using hc)]at HOF;rw[hc]at HC;have hcn:=HCN.o hc;clear hc HCN;generalize (d.cut f z).1=dc at*;have HSY:Hd (∀Wd N,DkAt Wd N D dc->Calls prog 37 #[px D] Wd fun e w'=>e= .returned (.int .i64 dc.sync.2)/\DkTo Wd w' N D dc.sync.1):=fun Wd N h=>Sync_c Wd N D dc h;have HSN:=Lh (sync_now dc);unfold px at HC HSY;by_cases hy:dc.sync.2=0
     ·rw[if_neg (by simpa using hy)]at HOF;rw[hy]at HSY;clear hy;generalize dc.sync.1=ds at*
      go_upto_region 20 with (first|(go_at_call 33;refine HC.o.mono ?_;rintro e w3 ⟨rfl,hT3⟩;obtain⟨hf3,N3,hN3,hd3⟩:=hT3;have HSY3:=Lh (HSY.o w3 N3 hd3))|(go_at_call 37;refine HSY3.o.mono ?_;rintro e w4 ⟨rfl,hT4⟩)|fail)
      have hT:DkTo W w4 M D ds:=HUN.o w4 ds (DkTo.trans' hf3 hN3 hT4);have hsame:fl ds.now f=bstr (frs l):=by rw[HSN.o];exact hcn
      obtain⟨k0,k2,k3,m3⟩:=HTAIL.o w4 ds hT hsame;have HTT:=Lh hT;clear hT hf3 hT4 HSY3 hd3 HC HSY;have HX:=Lh (HFIN.o w4 ds HTT.o hsame);have hlL:w1.heap.size<w4.heap.size:=World.block_lt_of_cell? _ _ k3;have hneq:w1.heap.size+1≠w1.heap.size:=by omega
      go_region
      all_goals
       go_wp2_with fail
       obtain⟨x1,x2,K,x3,x4⟩:=HX.o;refine ret1 x1 (results_tmp2 rfl _ _ _) rfl ?_;rw[HOF.o];exact .inr ⟨⟨f,l,l.length⟩,w1.heap.size,K,rfl,rfl,⟨x2.os,x2.tape,x2.output,x2.size,x2.block⟩,x3.keep le0 (fun _ _=>rfl),x4⟩
     ·rw[if_pos hy]at HOF;have d3:(dc.sync.2 !=0)=true:=by simpa using hy
      clear hy;generalize dc.sync=y at*
      go_wp2_with (first|(go_at_call 33;refine HC.o.mono ?_;rintro e w3 ⟨rfl,hT3⟩;obtain⟨hf3,N3,hN3,hd3⟩:=hT3;have HSY3:=Lh (HSY.o w3 N3 hd3))|(go_at_call 37;refine HSY3.o.mono ?_;rintro e w4 ⟨rfl,hT4⟩)|fail)
      have hE:=HERR.o w4 _ (HUN.o w4 _ (DkTo.trans' hf3 hN3 hT4));refine ret1 hE.1 (results_tmp2 rfl _ _ _) rfl ?_;rw[HOF.o];exact .inl ⟨_,rfl,rfl,hE.2⟩
    ·rw[if_pos hc]at HOF;have d2:((d.cut f z).2 !=0)=true:=by simpa using hc
     clear hc HCN;generalize d.cut f z=q at*;unfold px at HC
     go_wp2_with (first|(go_at_call 33;refine HC.o.mono ?_;rintro e w3 ⟨rfl,hT3⟩)|fail)
     have hE:=HERR.o w3 _ (HUN.o w3 _ hT3);refine ret1 hE.1 (results_tmp2 rfl _ _ _) rfl ?_;rw[HOF.o];exact .inl ⟨_,rfl,rfl,hE.2⟩
   ·rw[if_neg hlt]at HOF;have d1:decide ((z:Int)<(s.size:Int))=false:=df0 (by omega)
    go_upto_region 20 with fail
    have hT:DkTo W W.drew M D d:=HUN.o _ _ HDR.o.tos;have hsame:fl d.now f=bstr (frs l):=by rw[HS.o];exact HOS.o.2 (by omega)
    obtain⟨k0,k2,k3,m3⟩:=HTAIL.o _ d hT hsame;have HTT:=Lh hT;clear hT hp0;generalize World.drew W=w4 at*;have HX:=Lh (HFIN.o w4 d HTT.o hsame);have hlL:w1.heap.size<w4.heap.size:=World.block_lt_of_cell? _ _ k3;have hneq:w1.heap.size+1≠w1.heap.size:=by omega
    go_region
    all_goals
     go_wp2_with fail
     obtain⟨x1,x2,K,x3,x4⟩:=HX.o;refine ret1 x1 (results_tmp2 rfl _ _ _) rfl ?_;rw[HOF.o];exact .inr ⟨⟨f,l,l.length⟩,w1.heap.size,K,rfl,rfl,⟨x2.os,x2.tape,x2.output,x2.size,x2.block⟩,x3.keep le0 (fun _ _=>rfl),x4⟩
end
