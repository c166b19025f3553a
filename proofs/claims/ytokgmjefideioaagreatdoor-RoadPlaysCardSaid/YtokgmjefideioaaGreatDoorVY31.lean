/- Parts. -/
import Derived.Test.YtokgmjefideioaaGreatDoorVY21
namespace Go.Proofs.YtokgmjefideioaaGreatDoor
open Go.RowKit
set_option linter.unusedVariables false
set_option linter.unusedSimpArgs false
set_option maxRecDepth 100000
set_option maxHeartbeats 16000000
open Tryz
def stC (x:St) (sv:Value):Array Value:=#[.int .u8 (x.kind:Int),.int .i64 x.n,.int .i64 x.cut,.int .i64 x.too,.int .i64 x.job.par,sv,.int .i64 x.part,.int .i64 x.at_,.int .i64 x.why]
def StIn (w:World) (P:Nat->Prop) (v:Value) (x:St):Prop:= ∃sv,v= .agg (stC x sv)/\NodesIn w P x.job.nodes sv
theorem StIn.keep {w w':World} {P Q:Nat->Prop} {v:Value} {x:St} (h:StIn w P v x) (hPQ: ∀b,P b->Q b) (hk: ∀b,P b->w'.heap[b]? =w.heap[b]?):StIn w' Q v x:=let ⟨sv,h1,h2⟩:=h;⟨sv,h1,h2.keep hPQ hk⟩
theorem two_below (w:World) (c1 c2:Array Value) (t1 t2:TypeId):Below w.heap.size w ((w.alloc (.cells c1 t1)).alloc (.cells c2 t2)):=((Below.refl w.heap.size w).alloc le0 _).alloc (by simp) _
theorem two_new (w:World) (c1 c2:Array Value) (t:TypeId):Blk ((w.alloc (.cells c1 t)).alloc (.cells c2 t)) w.heap.size t c1/\Blk ((w.alloc (.cells c1 t)).alloc (.cells c2 t)) (w.heap.size+1) t c2/\Below w.heap.size w ((w.alloc (.cells c1 t)).alloc (.cells c2 t)):=
 ⟨(Blk.new w c1 t).alloc _,Blk.new_at _ _ _ (by simp),two_below w _ _ _ _⟩
theorem roSame_c (x y:St) (v u:Value) (w:World) (P:Nat->Prop) (hv:StIn w P v x) (hu:StIn w P u y) (hP: ∀b,P b->b<w.heap.size):
  CB prog 27 #[v,u] w (.bool (x.sameB y)):=by
 obtain⟨sv,rfl,hn⟩:=hv;obtain⟨tv,rfl,hm⟩:=hu;have HJ:Hd (∀W:World,Below w.heap.size w W->CB prog 60 #[.agg #[.int .i64 x.job.par,sv],.agg #[.int .i64 y.job.par,tv]] W (.bool (x.job.sameB y.job))):=
  fun W hb=>JSame_c x.job y.job _ _ w.heap.size W ⟨_,rfl,(hn.toAt hP).keep hb⟩ ⟨_,rfl,(hm.toAt hP).keep hb⟩ hb.size
 obtain⟨a,cap,rfl,-,-⟩:=hn.slice;obtain⟨a',cap',rfl,-,-⟩:=hm.slice;have HE:Hd (x.sameB y=(x.kind==y.kind&&(x.n==y.n&&(x.cut==y.cut&&(x.too==y.too&&(x.part==y.part&&(x.at_==y.at_&&(x.why==y.why&&x.job.sameB y.job)))))))):=rfl;have HK:Hd ((x.kind==y.kind)=((x.kind:Int)==(y.kind:Int))):=by
  show _=_;by_cases h:x.kind=y.kind
  ·rw[h];simp
  ·have h2: ¬(x.kind:Int)=(y.kind:Int):=by omega
   rw[bq0.2 h,bq0.2 h2]
 generalize x.sameB y=R at*;unfold stC;clear hn hm;by_cases h0:(x.kind:Int)=(y.kind:Int)
 case neg=>
  have e0:((x.kind:Int)==(y.kind:Int))=false:=by rw[bq0];exact h0
  have hR:Hd (R=false):=by show _=_;rw[HE.o,HK.o];simp only[e0,Bool.and_false,Bool.false_and]
  clear HE HK HJ h0;go_enter func27,ntmps27
  go_wp2_with fail
  go_ret;rw[hR.o];exact⟨rfl,two_below w _ _ _ _⟩
 have e0:((x.kind:Int)==(y.kind:Int))=true:=by rw[beq_iff_eq];exact h0
 clear h0;by_cases h1:x.n=y.n
 case neg=>
  have e1:(x.n==y.n)=false:=by rw[bq0];exact h1
  have hR:Hd (R=false):=by show _=_;rw[HE.o,HK.o];simp only[e1,Bool.and_false,Bool.false_and]
  clear HE HK HJ h1;go_enter func27,ntmps27
  go_wp2_with fail
  go_ret;rw[hR.o];exact⟨rfl,two_below w _ _ _ _⟩
 have e1:(x.n==y.n)=true:=by rw[beq_iff_eq];exact h1
 clear h1;by_cases h2:x.cut=y.cut
 case neg=>
  have e2:(x.cut==y.cut)=false:=by rw[bq0];exact h2
  have hR:Hd (R=false):=by show _=_;rw[HE.o,HK.o];simp only[e2,Bool.and_false,Bool.false_and]
  clear HE HK HJ h2;go_enter func27,ntmps27
  go_wp2_with fail
  go_ret;rw[hR.o];exact⟨rfl,two_below w _ _ _ _⟩
 have e2:(x.cut==y.cut)=true:=by rw[beq_iff_eq];exact h2
 clear h2;by_cases h3:x.too=y.too
 case neg=>
  have e3:(x.too==y.too)=false:=by rw[bq0];exact h3
  have hR:Hd (R=false):=by show _=_;rw[HE.o,HK.o];simp only[e3,Bool.and_false,Bool.false_and]
  clear HE HK HJ h3;go_enter func27,ntmps27
  go_wp2_with fail
  go_ret;rw[hR.o];exact⟨rfl,two_below w _ _ _ _⟩
 have e3:(x.too==y.too)=true:=by rw[beq_iff_eq];exact h3
 clear h3;by_cases h4:x.part=y.part
 case neg=>
  have e4:(x.part==y.part)=false:=by rw[bq0];exact h4
  have hR:Hd (R=false):=by show _=_;rw[HE.o,HK.o];simp only[e4,Bool.and_false,Bool.false_and]
  clear HE HK HJ h4;go_enter func27,ntmps27
  go_wp2_with fail
  go_ret;rw[hR.o];exact⟨rfl,two_below w _ _ _ _⟩
 have e4:(x.part==y.part)=true:=by rw[beq_iff_eq];exact h4
 clear h4;by_cases h5:x.at_=y.at_
 case neg=>
  have e5:(x.at_==y.at_)=false:=by rw[bq0];exact h5
  have hR:Hd (R=false):=by show _=_;rw[HE.o,HK.o];simp only[e5,Bool.and_false,Bool.false_and]
  clear HE HK HJ h5;go_enter func27,ntmps27
  go_wp2_with fail
  go_ret;rw[hR.o];exact⟨rfl,two_below w _ _ _ _⟩
 have e5:(x.at_==y.at_)=true:=by rw[beq_iff_eq];exact h5
 clear h5;by_cases h6:x.why=y.why
 case neg=>
  have e6:(x.why==y.why)=false:=by rw[bq0];exact h6
  have hR:Hd (R=false):=by show _=_;rw[HE.o,HK.o];simp only[e6,Bool.and_false,Bool.false_and]
  clear HE HK HJ h6;go_enter func27,ntmps27
  go_wp2_with fail
  go_ret;rw[hR.o];exact⟨rfl,two_below w _ _ _ _⟩
 have e6:(x.why==y.why)=true:=by rw[beq_iff_eq];exact h6
 clear h6;have hR:Hd (R=x.job.sameB y.job):=by show _=_;rw[HE.o,HK.o];simp only[e0,e1,e2,e3,e4,e5,e6,Bool.true_and]
 have HJ2:=Lh (HJ.o _ (two_below w #[.int .u8 (x.kind:Int),.int .i64 x.n,.int .i64 x.cut,.int .i64 x.too,.int .i64 x.job.par,.slice a x.job.nodes.length cap,.int .i64 x.part,.int .i64 x.at_,.int .i64 x.why]
  #[.int .u8 (y.kind:Int),.int .i64 y.n,.int .i64 y.cut,.int .i64 y.too,.int .i64 y.job.par,.slice a' y.job.nodes.length cap',.int .i64 y.part,.int .i64 y.at_,.int .i64 y.why] 47 47))
 clear HE HK HJ;go_enter func27,ntmps27
 go_wp2_with (first|(go_at_call 60;refine HJ2.o.mono ?_;rintro e w3 ⟨rfl,hb3⟩)|fail)
 go_ret;rw[hR.o];exact⟨rfl,(two_below w _ _ _ _).trans (hb3.mono (two_below w _ _ _ _).size)⟩
theorem IndexU8_c (l:List Int) (n:Nat) (v:Value) (x:Int) (B:Nat) (w:World) (h:Sl w B 1 v n (l.map (Value.int .u8))) (hn:l.length=n):
  Calls prog 133 #[v,.int .u8 x] w fun e w'=>e= .returned (.int .i64 (idxZ (fun y=>x==y) l 0))/\w=w':=by
 obtain⟨_,a,cap,rfl,hc,hm,_⟩:=id h;have H:=Lh h;have HN:=Lh hn;have hnm:n<=9223372036854775807:=by unfold maxLen at hm;omega
 clear h hn;rename_i hx1 hx2;clear hx1 hx2;go_enter func133,ntmps133;go_wp2
 go_loop [8] (fun q=> ∃k:Nat,q= .int .i64 k/\k<=n/\idxZ (fun y=>x==y) (l.drop k) k=idxZ (fun y=>x==y) l 0) (fun q=>n-(intOf q).toNat)
 case atStart=>exact⟨0,rfl,ze0,rfl⟩
 case round=>
  obtain⟨k,rfl,hk,hr⟩:=hrel;by_cases hlt:k<n
  ·obtain⟨b,off,cp,e1,hb,g1,p0⟩:=H.o.int k hlt;simp only[vs0,true_and]at e1;obtain⟨rfl,rfl⟩:=e1;rw[List.drop_eq_getElem_cons g1]at hr;generalize l[k]=y at*;simp only[idxZ]at hr;have HR:=Lh hr;clear hr
   cases hxy:(x==y)
   all_goals
    have HXY:=Lh hxy;go_wp2
   ·go_round
    case rel=>exact⟨k+1,by go_num,by omega,by rw[<-HR.o,HXY.o];rfl⟩
    case measure=>simp[intOf];omega
   ·go_ret;exact⟨ret_int (by rw[<-HR.o,HXY.o];rfl),rfl⟩
  ·rw[List.drop_of_length_le (by have:=HN.o;omega)]at hr;have HR:=Lh hr;clear hr;go_wp2;go_ret;exact⟨ret_int (by rw[<-HR.o];rfl),rfl⟩
theorem ContainsU8_c (l:List Int) (n:Nat) (v:Value) (x:Int) (B:Nat) (w:World) (h:Sl w B 1 v n (l.map (Value.int .u8))) (hn:l.length=n):
  Calls prog 92 #[v,.int .u8 x] w fun e w'=>e= .returned (.bool (l.any (fun y=>x==y)))/\w=w':=by
 have hz:=idxZ_nonneg (fun y=>x==y) l 0
 cases ha:l.any (fun y=>x==y)
 all_goals
  rw[ha]at hz;have HZ:=Lh hz;clear hz ha;go_enter func92,ntmps92
  go_wp2_with (go_at_call 133;refine(IndexU8_c l n v x B w h hn).mono ?_;rintro e w1 ⟨rfl,rfl⟩;generalize idxZ (fun y=>x==y) l 0=z at*)
  go_ret;exact⟨ret_bool (by have hz:=HZ.o;simp only[Bool.false_eq_true,iff_false,iff_true]at hz;simpa using hz),rfl⟩
def mayL (p:Nat):List Int:=if p=0 then [1,6]else if p=1 then [2,3]else if p=2 then [4,5]else [5]
theorem next_any (p k:Nat) (hp:p<=3):(mayL p).any (fun y=>((k:Int)==y))=(nextP p k).2:=by
 have e: ∀m:Nat,((k:Int)==(m:Int))=(k==m):=fun m=>by
  by_cases h:k=m
  ·rw[h];simp
  ·rw[bq0.2 h,bq0];omega
 have e1:=e 1;have e2:=e 2;have e3:=e 3;have e4:=e 4;have e5:=e 5;have e6:=e 6;unfold mayL nextP;have:p=0\/p=1\/p=2\/p=3:=by omega
 rcases this with rfl|rfl|rfl|rfl<;>simp_all
theorem ints_lit {w:World} {b B:Nat} {t:TypeId} (l:List Int) (n:Nat) (h:Blk w b t (l.map (Value.int .u8)).toArray) (hn:l.length=n) (hB:b<B) (hm:n<=1000):Sl w B 1 (.slice (some ⟨b,0,none⟩) n n) n (l.map (Value.int .u8)):=
 ⟨by simp[hn],_,n,rfl,le0,by unfold maxLen;omega,.inr ⟨b,0,rfl,hB,fun j hj=>by rw[Nat.zero_add,h.cell];simp⟩⟩
theorem roNext_c (p k:Nat) (hp:p<=3) (hk0:1<=k) (hk1:k<=6) (w:World):CB prog 53 #[.int .u8 (p:Int),.int .u8 (k:Int)] w (.tuple #[.int .u8 ((nextP p k).1:Nat),.bool (nextP p k).2]):=by
 have HA:=Lh (next_any p k hp);have hN1:Hd ((nextP p k).1=if k=1 then 1 else if k=2 then 2 else if k=3 then 3 else 0):=rfl;generalize nextP p k=R at*;go_enter func53,ntmps53
 go_upto_region 3 with fail
 have K6:=(((((((KB.start w).pushN w.heap.size rfl #[.int .u8 1,.int .u8 6] 5).pushN (w.heap.size+1) (by simp) #[.int .u8 2,.int .u8 3] 5).pushN (w.heap.size+1+1) (by simp) #[.int .u8 4,.int .u8 5] 5).pushN (w.heap.size+1+1+1) (by simp) #[.int .u8 5] 5).pushN (w.heap.size+1+1+1+1) (by simp)
  #[.slice (some ⟨w.heap.size,0,none⟩) 2 2,.slice (some ⟨w.heap.size+1,0,none⟩) 2 2,.slice (some ⟨w.heap.size+1+1,0,none⟩) 2 2,.slice (some ⟨w.heap.size+1+1+1,0,none⟩) 1 1] 154).pushN (w.heap.size+1+1+1+1+1) (by simp)
  #[.int .u8 0,.int .u8 1,.int .u8 2,.int .u8 3,.int .u8 0,.int .u8 0,.int .u8 0] 155)
 generalize World.alloc (World.alloc (World.alloc (World.alloc (World.alloc (World.alloc w _) _) _) _) _) _=W at*;have c7:W.cell? ⟨w.heap.size+1+1+1+1+1,k,none⟩=some (.int .u8 (R.1:Nat)):=by
  rw[K6.hd.cell k,hN1.o];have:k=1\/k=2\/k=3\/k=4\/k=5\/k=6:=by omega
  rcases this with rfl|rfl|rfl|rfl|rfl|rfl<;>rfl
 have hk7:(k:Int)<7:=by omega
 have hp4:(p:Int)<4:=by omega
 have hS: ∃b n,W.cell? ⟨w.heap.size+1+1+1+1,p,none⟩=some (.slice (some ⟨b,0,none⟩) n n)/\Sl W W.heap.size 1 (.slice (some ⟨b,0,none⟩) n n) n ((mayL p).map (Value.int .u8))/\(mayL p).length=n:=by
  have h4:=K6.tl.hd;have:p=0\/p=1\/p=2\/p=3:=by omega
  rcases this with rfl|rfl|rfl|rfl
  ·exact⟨_,2,h4.cell 0,ints_lit [1,6] 2 K6.tl.tl.tl.tl.tl.hd rfl K6.tl.tl.tl.tl.tl.hd.lt (by decide),rfl⟩
  ·exact⟨_,2,h4.cell 1,ints_lit [2,3] 2 K6.tl.tl.tl.tl.hd rfl K6.tl.tl.tl.tl.hd.lt (by decide),rfl⟩
  ·exact⟨_,2,h4.cell 2,ints_lit [4,5] 2 K6.tl.tl.tl.hd rfl K6.tl.tl.tl.hd.lt (by decide),rfl⟩
  ·exact⟨_,1,h4.cell 3,ints_lit [5] 1 K6.tl.tl.hd rfl K6.tl.tl.hd.lt (by decide),rfl⟩
 obtain⟨b,n,c4,hsl,hln⟩:=hS;have HC:Hd (∀W':World,W'.heap=W.heap->Calls prog 92 #[.slice (some ⟨b,0,none⟩) n n,.int .u8 (k:Int)] W' fun e w'=>e= .returned (.bool R.2)/\W'=w'):=by
  intro W' hW;rw[<-HA.o];obtain⟨h1,a1,cap1,e1,h2,h3,h4⟩:=hsl;exact ContainsU8_c (mayL p) n _ (k:Int) W.heap.size W' ⟨h1,a1,cap1,e1,h2,h3,h4.imp id (fun⟨b,off,e,hb,hc⟩=>⟨b,off,e,hb,fun j hj=>(World.cell?_of_block (by rw[hW])).trans (hc j hj)⟩)⟩ hln
 have HB:=Lh K6.below;clear K6 hsl hln HA hN1;obtain⟨t,g⟩:=R
 go_region_with (first|(go_at_call 92;refine(HC.o W.drew rfl).mono ?_;rintro e w1 ⟨rfl,rfl⟩))
 all_goals
  go_wp2_with fail
  go_ret2;exact⟨rfl,HB.o.drew⟩
theorem roText_c (x:St) (hok:x.Ok) (hmay:x.mayB=true) (v:Value) (w:World) (P:Nat->Prop) (hv:StIn w P v x) (hP: ∀b,P b->b<w.heap.size):
  CB prog 55 #[v] w (.string x.text):=by
 obtain⟨sv,rfl,hn⟩:=hv;have hnums:=St.nums_ok hok;have HPL:Hd (∀W:World,Calls prog 93 #[.slice (some ⟨W.heap.size,0,none⟩) 6 6] (W.alloc (.cells #[.int .i64 x.n,.int .i64 x.cut,.int .i64 x.too,.int .i64 x.part,.int .i64 x.at_,.int .i64 x.why] 2)) fun e w'=>e= .returned (.string (bstr (putL x.nums)))/\Below W.heap.size W w'):=
  fun W=>putLit_c x.nums 6 _ rfl rfl hnums (by omega) W
 have hpl:(putL x.nums).length<=60:=putL_len x.nums hnums;have hA:=(Below.refl w.heap.size w).alloc le0 (.cells (stC x sv) 47);have hbx:=Blk.new w (stC x sv) 47;have HTX:Hd (x.text=bstr (putL x.nums++if x.kind=1 then txtL (bstr x.job.by)else [])):=rfl;generalize x.text=TX at*;by_cases hk:x.kind=1
 ·have hjm:=St.may_job hmay hk;have hsm:=by_small hok.job hjm;have hput:x.job.putR=(x.job.by,0):=by unfold Jb.putR;rw[if_pos hjm]
  have HPP:Hd (∀W:World,Below w.heap.size w W->CB prog 94 #[.agg #[.int .i64 x.job.par,sv]] W (.tuple #[.string (bstr x.job.by),.int .i64 0])):=by
   intro W hb;have:=PackPut_c x.job hok.job (.agg #[.int .i64 x.job.par,sv]) w.heap.size W ⟨sv,rfl,(hn.toAt hP).keep hb⟩ hb.size;rwa[hput]at this
  have HPT:Hd (∀W:World,Calls prog 95 #[.string (bstr x.job.by)] W fun e w'=>e= .returned (.tuple #[.string (bstr (txtL (bstr x.job.by))),.int .i64 0])/\Below W.heap.size W w'):=fun W=>PutText_c (bstr x.job.by) (by rw[bstr_size];omega) W;rw[if_pos hk]at HTX;have hkb:((x.kind:Int)==1)=true:=by rw[beq_iff_eq];omega
  have htl:(txtL (bstr x.job.by)).length<=65546:=by
   have:=(txtL_len (bstr x.job.by) (by rw[bstr_size];omega)).1;rw[bstr_size]at this;omega
  obtain⟨TY,hTY⟩: ∃TY,bstr (txtL (bstr x.job.by))=TY:=⟨_,rfl⟩;have hz1:(bstr (putL x.nums)).size<=60:=by rw[bstr_size];exact hpl
  have hz2:TY.size<=65546:=by rw[<-hTY,bstr_size];exact htl
  rw[<-bstr_app,hTY]at HTX;rw[hTY]at HPT;obtain⟨a,cap,rfl,-,-⟩:=hn.slice;clear hn hsm hput htl hTY hjm hpl hnums hok hmay hk;generalize bstr (putL x.nums)=SN at*;generalize bstr x.job.by=JB at*
  unfold stC at hbx hA⊢;go_enter func55,ntmps55
  go_upto_region 1 with fail
  generalize World.alloc w _=W1 at*;have HPL2:=Lh (HPL.o W1);have q1:=hbx.cell 1;have q2:=hbx.cell 2;have q3:=hbx.cell 3;have q6:=hbx.cell 6;have q7:=hbx.cell 7;have q8:=hbx.cell 8
  go_upto_region 2 with (first|(go_at_call 93;refine HPL2.o.mono ?_;rintro e w2 ⟨rfl,hb2⟩)|fail)
  have hbx2:=hbx.below hb2 hbx.lt;have hB2:=hA.trans (hb2.mono hA.size);have g0:=hbx2.cell 0;have g4:=hbx2.cell 4;have g5:=hbx2.cell 5;have HPP2:=Lh (HPP.o w2 hB2);clear q1 q2 q3 q6 q7 q8 hbx hA hb2 HPL HPL2 HPP
  go_wp2_with (first|(go_at_call 94;refine HPP2.o.mono ?_;rintro e w3 ⟨rfl,hb3⟩)|(go_at_call 95;refine(HPT.o _).mono ?_;rintro e w4 ⟨rfl,hb4⟩)|fail)
  go_ret;rw[HTX.o];exact⟨rfl,(hB2.trans (hb3.mono hB2.size)).trans (hb4.mono (le1 hB2.size hb3.size))⟩
 ·rw[if_neg hk,List.append_nil]at HTX;have hkb:((x.kind:Int)==1)=false:=by rw[bq0];omega
  obtain⟨a,cap,rfl,-,-⟩:=hn.slice;clear hn hpl hnums hok hmay hk;generalize bstr (putL x.nums)=SN at*;unfold stC at hbx hA⊢;go_enter func55,ntmps55
  go_upto_region 1 with fail
  generalize World.alloc w _=W1 at*;have HPL2:=Lh (HPL.o W1);have q1:=hbx.cell 1;have q2:=hbx.cell 2;have q3:=hbx.cell 3;have q6:=hbx.cell 6;have q7:=hbx.cell 7;have q8:=hbx.cell 8
  go_upto_region 2 with (first|(go_at_call 93;refine HPL2.o.mono ?_;rintro e w2 ⟨rfl,hb2⟩)|fail)
  have hbx2:=hbx.below hb2 hbx.lt;have hB2:=hA.trans (hb2.mono hA.size);have g0:=hbx2.cell 0;clear q1 q2 q3 q6 q7 q8 hbx hA hb2 HPL HPL2
  go_wp2_with fail
  go_ret;rw[HTX.o];exact⟨rfl,hB2⟩
def usedOf (x:St):St:=
 if x.kind=1 then⟨x.kind,x.n,x.cut,x.too,x.job,0,0,0⟩else if x.kind=3 then⟨x.kind,0,0,0,⟨0,[]⟩,x.part,x.at_,0⟩else if x.kind=6 then⟨x.kind,0,0,0,⟨0,[]⟩,0,0,x.why⟩else⟨x.kind,0,0,0,⟨0,[]⟩,0,0,0⟩
def goodOf (x:St):Bool:=
 if x.kind=1 then decide (0<x.n)&&(decide (0<=x.cut)&&(decide (x.cut<=x.too)&&x.job.may.2==0))else if x.kind=3 then decide (0<=x.part)&&(decide (x.part<2)&&decide (0<=x.at_))else if x.kind=6 then decide (0<x.why)else decide (1<=x.kind)&&decide (x.kind<=6)
theorem may_used (x:St):x.mayB=(goodOf x&&x.sameB (usedOf x)):=by
 unfold goodOf usedOf St.mayB;by_cases h1:x.kind=1
 ·rw[if_pos h1,if_pos h1,if_pos h1];unfold St.sameB;dsimp only;rw[Jb.same_refl];have e:decide (0<x.n)=decide (1<=x.n):=by congr 1
  rw[e]
  cases decide (1<=x.n)<;>cases decide (0<=x.cut)<;>cases decide (x.cut<=x.too)<;>cases (x.job.may.2==0)<;>simp
 rw[if_neg h1,if_neg h1,if_neg h1];by_cases h3:x.kind=3
 ·rw[if_pos h3,if_pos h3,if_pos h3];unfold St.sameB St.noneB;dsimp only;have e:(x.part==0||x.part==1)=(decide (0<=x.part)&&decide (x.part<2)):=by
   by_cases a:x.part=0
   ·rw[a];rfl
   ·by_cases b:x.part=1
    ·rw[b];rfl
    ·rw[bq0.2 a,bq0.2 b];by_cases c:0<=x.part
     ·rw[dt0 c,df0 (by omega)];rfl
     ·rw[df0 c];rfl
  rw[e]
  cases decide (0<=x.part)<;>cases decide (x.part<2)<;>cases decide (0<=x.at_)<;>cases (x.why==0)<;>cases (x.job.sameB ⟨0,[]⟩)<;>cases (x.n==0)<;>cases (x.cut==0)<;>cases (x.too==0)<;>simp
 rw[if_neg h3,if_neg h3,if_neg h3];by_cases h6:x.kind=6
 ·rw[if_pos h6,if_pos h6,if_pos h6];unfold St.sameB St.noneB;dsimp only;have e:decide (0<x.why)=decide (1<=x.why):=by congr 1
  rw[e]
  cases decide (1<=x.why)<;>cases (x.part==0)<;>cases (x.at_==0)<;>cases (x.job.sameB ⟨0,[]⟩)<;>cases (x.n==0)<;>cases (x.cut==0)<;>cases (x.too==0)<;>simp
 rw[if_neg h6,if_neg h6,if_neg h6];unfold St.sameB St.noneB;dsimp only;by_cases h:x.kind=2\/x.kind=4\/x.kind=5
 ·rw[if_pos h,dt0 (show 1<=x.kind by omega),dt0 (show x.kind<=6 by omega)]
  cases (x.why==0)<;>cases (x.part==0)<;>cases (x.at_==0)<;>cases (x.job.sameB ⟨0,[]⟩)<;>cases (x.n==0)<;>cases (x.cut==0)<;>cases (x.too==0)<;>simp
 ·rw[if_neg h];by_cases h0:1<=x.kind
  ·rw[df0 (show ¬x.kind<=6 by omega)];simp
  ·rw[df0 h0];simp
theorem roMay_c (x:St) (hok:x.Ok) (v:Value) (w:World) (P:Nat->Prop) (hv:StIn w P v x) (hP: ∀b,P b->b<w.heap.size):
  CB prog 14 #[v] w (.bool x.mayB):=by
 obtain⟨sv,rfl,hn⟩:=hv;have HME:=Lh (may_used x);generalize x.mayB=R at*;obtain⟨a,cap,rfl,-,-⟩:=hn.slice;unfold stC;by_cases hk1:x.kind=1
 ·have hU:usedOf x=⟨x.kind,x.n,x.cut,x.too,x.job,0,0,0⟩:=by unfold usedOf;rw[if_pos hk1]
  have hG:goodOf x=(decide (0<x.n)&&(decide (0<=x.cut)&&(decide (x.cut<=x.too)&&x.job.may.2==0))):=by unfold goodOf;rw[if_pos hk1]
  rw[hU,hG]at HME;have HS:Hd (∀W:World,Below w.heap.size w W->CB prog 27 #[.agg #[.int .u8 (x.kind:Int),.int .i64 x.n,.int .i64 x.cut,.int .i64 x.too,.int .i64 x.job.par,.slice a x.job.nodes.length cap,.int .i64 x.part,.int .i64 x.at_,.int .i64 x.why],.agg #[.int .u8 (x.kind:Int),.int .i64 x.n,.int .i64 x.cut,.int .i64 x.too,.int .i64 x.job.par,.slice a x.job.nodes.length cap,.int .i64 0,.int .i64 0,.int .i64 0]] W (.bool (x.sameB ⟨x.kind,x.n,x.cut,x.too,x.job,0,0,0⟩))):=
   fun W hb=>roSame_c x ⟨x.kind,x.n,x.cut,x.too,x.job,0,0,0⟩ _ _ W P ⟨_,rfl,hn.keep (fun _ k=>k) fun b h=>hb.block b (hP b h)⟩ ⟨_,rfl,hn.keep (fun _ k=>k) fun b h=>hb.block b (hP b h)⟩ (fun b h=>lt1 (hP b h) hb.size)
  have HJM:Hd (∀W:World,Below w.heap.size w W->CB prog 48 #[.agg #[.int .i64 x.job.par,.slice a x.job.nodes.length cap]] W (.tuple #[.int .i64 x.job.may.1,.int .i64 x.job.may.2])):=
   fun W hb=>May_c1 x.job _ w.heap.size W ⟨_,rfl,(hn.toAt hP).keep hb⟩ hb.size
  have k1:((x.kind:Int)==1)=true:=by rw[beq_iff_eq];omega
  have k3:((x.kind:Int)==3)=false:=by rw[bq0];omega
  have k6:((x.kind:Int)==6)=false:=by rw[bq0];omega
  have g1:decide ((1:Int)<=(x.kind:Int))=true:=by rw[decide_eq_true_eq];omega
  have g2:decide ((x.kind:Int)<=6)=true:=by rw[decide_eq_true_eq];omega
  clear hU hG hk1 hn;generalize x.sameB _=SB at*;generalize x.job.may=jm at*;go_enter func14,ntmps14
  go_upto_region 5 with fail
  obtain⟨b1,b2,HBT⟩:=two_new w #[.int .u8 (x.kind:Int),.int .i64 x.n,.int .i64 x.cut,.int .i64 x.too,.int .i64 x.job.par,.slice a x.job.nodes.length cap,.int .i64 x.part,.int .i64 x.at_,.int .i64 x.why] #[.int .u8 (x.kind:Int),.int .i64 0,.int .i64 0,.int .i64 0,.int .i64 0,.slice none 0 0,.int .i64 0,.int .i64 0,.int .i64 0] 47;generalize World.alloc (World.alloc w _) _=W5 at*;obtain⟨c10,c11,c12,c13,c14,c15⟩:=b1.q6;have m21:=b2.free 1;have m22:=b2.free 2;have m23:=b2.free 3;have m24:=b2.free 4;have m25:=b2.free 5;have c21:=b2.cell 1;have c22:=b2.cell 2;have c23:=b2.cell 3;have c24:=b2.cell 4;have c25:=b2.cell 5;have hne:w.heap.size≠w.heap.size+1:=by omega
  have hne2:w.heap.size+1≠w.heap.size:=by omega
  have B1:=Lh b1;have B2:=Lh b2
  go_region
  all_goals
   have b3:=(((((B2.o.set 1 (.int .i64 x.n)).set 2 (.int .i64 x.cut)).set 3 (.int .i64 x.too)).set 4 (.int .i64 x.job.par)).set 5 (.slice a x.job.nodes.length cap)).drew;have b4:=(((((B1.o.other (p:=⟨w.heap.size+1,1,none⟩) hne (.int .i64 x.n)).other (p:=⟨w.heap.size+1,2,none⟩) hne (.int .i64 x.cut)).other (p:=⟨w.heap.size+1,3,none⟩) hne (.int .i64 x.too)).other (p:=⟨w.heap.size+1,4,none⟩) hne (.int .i64 x.job.par)).other (p:=⟨w.heap.size+1,5,none⟩) hne (.slice a x.job.nodes.length cap)).drew;have hb6:=(((((HBT.setCell (p:=⟨w.heap.size+1,1,none⟩) (Nat.le_succ _) (.int .i64 x.n)).setCell (p:=⟨w.heap.size+1,2,none⟩) (Nat.le_succ _) (.int .i64 x.cut)).setCell (p:=⟨w.heap.size+1,3,none⟩) (Nat.le_succ _) (.int .i64 x.too)).setCell (p:=⟨w.heap.size+1,4,none⟩) (Nat.le_succ _) (.int .i64 x.job.par)).setCell (p:=⟨w.heap.size+1,5,none⟩) (Nat.le_succ _) (.slice a x.job.nodes.length cap)).drew;clear c10 c11 c12 c13 c14 c15 c21 c22 c23 c24 c25 m21 m22 m23 m24 m25 b1 b2 HBT;generalize World.drew _=W6 at*;have c14:=b4.cell 4;have c15:=b4.cell 5
   go_upto_region 7 with (first|(go_at_call 48;refine(HJM.o W6 hb6).mono ?_;rintro e w7 ⟨rfl,hb7⟩)|fail)
   have HBT:=hb6.trans (hb7.mono hb6.size);have hlt1:w.heap.size<W6.heap.size:=b4.lt;have hlt2:w.heap.size+1<W6.heap.size:=b3.lt;have b5:=b4.below hb7 b4.lt;have b6:=b3.below hb7 b3.lt;clear c14 c15 hb7 hb6 b3 b4;obtain⟨c10,c11,c12,c13,c14,c15,c16,c17,c18⟩:=b5.q9;obtain⟨c20,c21,c22,c23,c24,c25,c26,c27,c28⟩:=b6.q9
   cases t0:decide (0<x.n)
   case false=>
    have HM:Hd (R=false):=by show _=_;rw[HME.o];simp only[t0];try simp
    go_wp2_with fail
    go_ret;rw[HM.o];exact⟨rfl,HBT⟩
   case true=>
   cases t1:decide (0<=x.cut)
   case false=>
    have HM:Hd (R=false):=by show _=_;rw[HME.o];simp only[t0,t1];try simp
    go_wp2_with fail
    go_ret;rw[HM.o];exact⟨rfl,HBT⟩
   case true=>
   cases t2:decide (x.cut<=x.too)
   case false=>
    have HM:Hd (R=false):=by show _=_;rw[HME.o];simp only[t0,t1,t2];try simp
    go_wp2_with fail
    go_ret;rw[HM.o];exact⟨rfl,HBT⟩
   case true=>
   cases t3:(jm.2==0)
   case false=>
    have HM:Hd (R=false):=by show _=_;rw[HME.o];simp only[t0,t1,t2,t3];try simp
    go_wp2_with fail
    go_ret;rw[HM.o];exact⟨rfl,HBT⟩
   case true=>
   have HM:Hd (R=SB):=by show _=_;rw[HME.o];simp only[t0,t1,t2,t3];try simp
   go_wp2_with (first|(go_at_call 27;refine(HS.o _ HBT).mono ?_;rintro e w9 ⟨rfl,hb9⟩)|fail)
   go_ret;rw[HM.o];exact⟨rfl,HBT.trans (hb9.mono HBT.size)⟩
 by_cases hk3:x.kind=3
 ·skip
  have hU:usedOf x=⟨x.kind,0,0,0,⟨0,[]⟩,x.part,x.at_,0⟩:=by unfold usedOf;rw[if_neg hk1,if_pos hk3]
  have hG:goodOf x=(decide (0<=x.part)&&(decide (x.part<2)&&decide (0<=x.at_))):=by unfold goodOf;rw[if_neg hk1,if_pos hk3]
  rw[hU,hG]at HME;have HS:Hd (∀W:World,Below w.heap.size w W->CB prog 27 #[.agg #[.int .u8 (x.kind:Int),.int .i64 x.n,.int .i64 x.cut,.int .i64 x.too,.int .i64 x.job.par,.slice a x.job.nodes.length cap,.int .i64 x.part,.int .i64 x.at_,.int .i64 x.why],.agg #[.int .u8 (x.kind:Int),.int .i64 0,.int .i64 0,.int .i64 0,.int .i64 0,.slice none 0 0,.int .i64 x.part,.int .i64 x.at_,.int .i64 0]] W (.bool (x.sameB ⟨x.kind,0,0,0,⟨0,[]⟩,x.part,x.at_,0⟩))):=
   fun W hb=>roSame_c x ⟨x.kind,0,0,0,⟨0,[]⟩,x.part,x.at_,0⟩ _ _ W P ⟨_,rfl,hn.keep (fun _ k=>k) fun b h=>hb.block b (hP b h)⟩ ⟨_,rfl,NodesIn.nil _ _⟩ (fun b h=>lt1 (hP b h) hb.size)
  have k1:((x.kind:Int)==1)=false:=by rw[bq0];omega
  have k3:((x.kind:Int)==3)=true:=by rw[beq_iff_eq];omega
  have k6:((x.kind:Int)==6)=false:=by rw[bq0];omega
  have g1:decide ((1:Int)<=(x.kind:Int))=true:=by rw[decide_eq_true_eq];omega
  have g2:decide ((x.kind:Int)<=6)=true:=by rw[decide_eq_true_eq];omega
  clear hU hG hn hk1 hk3;generalize x.sameB _=SB at*;go_enter func14,ntmps14
  go_upto_region 9 with fail
  obtain⟨b1,b2,HBT⟩:=two_new w #[.int .u8 (x.kind:Int),.int .i64 x.n,.int .i64 x.cut,.int .i64 x.too,.int .i64 x.job.par,.slice a x.job.nodes.length cap,.int .i64 x.part,.int .i64 x.at_,.int .i64 x.why] #[.int .u8 (x.kind:Int),.int .i64 0,.int .i64 0,.int .i64 0,.int .i64 0,.slice none 0 0,.int .i64 0,.int .i64 0,.int .i64 0] 47;generalize World.alloc (World.alloc w _) _=W5 at*;have c10:=b1.cell 0;have c16:=b1.cell 6;have c17:=b1.cell 7;have c26:=b2.cell 6;have c27:=b2.cell 7;have m26:=b2.free 6;have m27:=b2.free 7;have hne:w.heap.size≠w.heap.size+1:=by omega
  have hne2:w.heap.size+1≠w.heap.size:=by omega
  have B1:=Lh b1;have B2:=Lh b2
  go_region
  all_goals
   have b3:=((B2.o.set 6 (.int .i64 x.part)).set 7 (.int .i64 x.at_)).drew;have b4:=((B1.o.other (p:=⟨w.heap.size+1,6,none⟩) hne (.int .i64 x.part)).other (p:=⟨w.heap.size+1,7,none⟩) hne (.int .i64 x.at_)).drew;have hb6:=((HBT.setCell (p:=⟨w.heap.size+1,6,none⟩) (Nat.le_succ _) (.int .i64 x.part)).setCell (p:=⟨w.heap.size+1,7,none⟩) (Nat.le_succ _) (.int .i64 x.at_)).drew;clear c10 c16 c26 m26 c17 c27 m27 b1 b2 HBT;generalize World.drew _=W6 at*;have HBT:=hb6;obtain⟨c10,c11,c12,c13,c14,c15,c16,c17,c18⟩:=b4.q9;obtain⟨c20,c21,c22,c23,c24,c25,c26,c27,c28⟩:=b3.q9
   cases t0:decide (0<=x.part)
   case false=>
    have HM:Hd (R=false):=by show _=_;rw[HME.o];simp only[t0];try simp
    go_wp2_with fail
    go_ret;rw[HM.o];exact⟨rfl,HBT⟩
   case true=>
   cases t1:decide (x.part<2)
   case false=>
    have HM:Hd (R=false):=by show _=_;rw[HME.o];simp only[t0,t1];try simp
    go_wp2_with fail
    go_ret;rw[HM.o];exact⟨rfl,HBT⟩
   case true=>
   cases t2:decide (0<=x.at_)
   case false=>
    have HM:Hd (R=false):=by show _=_;rw[HME.o];simp only[t0,t1,t2];try simp
    go_wp2_with fail
    go_ret;rw[HM.o];exact⟨rfl,HBT⟩
   case true=>
   have HM:Hd (R=SB):=by show _=_;rw[HME.o];simp only[t0,t1,t2];try simp
   go_wp2_with (first|(go_at_call 27;refine(HS.o _ HBT).mono ?_;rintro e w9 ⟨rfl,hb9⟩)|fail)
   go_ret;rw[HM.o];exact⟨rfl,HBT.trans (hb9.mono HBT.size)⟩
 by_cases hk6:x.kind=6
 ·skip
  have hU:usedOf x=⟨x.kind,0,0,0,⟨0,[]⟩,0,0,x.why⟩:=by unfold usedOf;rw[if_neg hk1,if_neg hk3,if_pos hk6]
  have hG:goodOf x=decide (0<x.why):=by unfold goodOf;rw[if_neg hk1,if_neg hk3,if_pos hk6]
  rw[hU,hG]at HME;have HS:Hd (∀W:World,Below w.heap.size w W->CB prog 27 #[.agg #[.int .u8 (x.kind:Int),.int .i64 x.n,.int .i64 x.cut,.int .i64 x.too,.int .i64 x.job.par,.slice a x.job.nodes.length cap,.int .i64 x.part,.int .i64 x.at_,.int .i64 x.why],.agg #[.int .u8 (x.kind:Int),.int .i64 0,.int .i64 0,.int .i64 0,.int .i64 0,.slice none 0 0,.int .i64 0,.int .i64 0,.int .i64 x.why]] W (.bool (x.sameB ⟨x.kind,0,0,0,⟨0,[]⟩,0,0,x.why⟩))):=
   fun W hb=>roSame_c x ⟨x.kind,0,0,0,⟨0,[]⟩,0,0,x.why⟩ _ _ W P ⟨_,rfl,hn.keep (fun _ k=>k) fun b h=>hb.block b (hP b h)⟩ ⟨_,rfl,NodesIn.nil _ _⟩ (fun b h=>lt1 (hP b h) hb.size)
  have k1:((x.kind:Int)==1)=false:=by rw[bq0];omega
  have k3:((x.kind:Int)==3)=false:=by rw[bq0];omega
  have k6:((x.kind:Int)==6)=true:=by rw[beq_iff_eq];omega
  have g1:decide ((1:Int)<=(x.kind:Int))=true:=by rw[decide_eq_true_eq];omega
  have g2:decide ((x.kind:Int)<=6)=true:=by rw[decide_eq_true_eq];omega
  clear hU hG hn hk1 hk3 hk6;generalize x.sameB _=SB at*;go_enter func14,ntmps14
  go_upto_region 12 with fail
  obtain⟨b1,b2,HBT⟩:=two_new w #[.int .u8 (x.kind:Int),.int .i64 x.n,.int .i64 x.cut,.int .i64 x.too,.int .i64 x.job.par,.slice a x.job.nodes.length cap,.int .i64 x.part,.int .i64 x.at_,.int .i64 x.why] #[.int .u8 (x.kind:Int),.int .i64 0,.int .i64 0,.int .i64 0,.int .i64 0,.slice none 0 0,.int .i64 0,.int .i64 0,.int .i64 0] 47;generalize World.alloc (World.alloc w _) _=W5 at*;have c10:=b1.cell 0;have m28:=b2.free 8;have hne:w.heap.size≠w.heap.size+1:=by omega
  have hne2:w.heap.size+1≠w.heap.size:=by omega
  have c18:=b1.cell 8;have c28:=b2.cell 8;have B1:=Lh b1;have B2:=Lh b2
  go_upto_region 13 with fail
  have b3:=B2.o.set 8 (.int .i64 x.why);have b4:=B1.o.other (p:=⟨w.heap.size+1,8,none⟩) hne (.int .i64 x.why);have HBT:=HBT.setCell (p:=⟨w.heap.size+1,8,none⟩) (Nat.le_succ _) (.int .i64 x.why);clear c10 c18 c28 m28 b1 b2;generalize World.setCell W5 _ _=W6 at*;obtain⟨c10,c11,c12,c13,c14,c15,c16,c17,c18⟩:=b4.q9;obtain⟨c20,c21,c22,c23,c24,c25,c26,c27,c28⟩:=b3.q9
  cases t0:decide (0<x.why)
  case false=>
   have HM:Hd (R=false):=by show _=_;rw[HME.o];simp only[t0];try simp
   go_wp2_with fail
   go_ret;rw[HM.o];exact⟨rfl,HBT⟩
  case true=>
  have HM:Hd (R=SB):=by show _=_;rw[HME.o];simp only[t0];try simp
  go_wp2_with (first|(go_at_call 27;refine(HS.o _ HBT).mono ?_;rintro e w9 ⟨rfl,hb9⟩)|fail)
  go_ret;rw[HM.o];exact⟨rfl,HBT.trans (hb9.mono HBT.size)⟩
 by_cases hk0:1<=x.kind
 case neg=>
  have hU:usedOf x=⟨x.kind,0,0,0,⟨0,[]⟩,0,0,0⟩:=by unfold usedOf;rw[if_neg hk1,if_neg hk3,if_neg hk6]
  have hG:goodOf x=false:=by unfold goodOf;rw[if_neg hk1,if_neg hk3,if_neg hk6];rw[df0 hk0];rfl
  rw[hU,hG]at HME;have HS:Hd (∀W:World,Below w.heap.size w W->CB prog 27 #[.agg #[.int .u8 (x.kind:Int),.int .i64 x.n,.int .i64 x.cut,.int .i64 x.too,.int .i64 x.job.par,.slice a x.job.nodes.length cap,.int .i64 x.part,.int .i64 x.at_,.int .i64 x.why],.agg #[.int .u8 (x.kind:Int),.int .i64 0,.int .i64 0,.int .i64 0,.int .i64 0,.slice none 0 0,.int .i64 0,.int .i64 0,.int .i64 0]] W (.bool (x.sameB ⟨x.kind,0,0,0,⟨0,[]⟩,0,0,0⟩))):=
   fun W hb=>roSame_c x ⟨x.kind,0,0,0,⟨0,[]⟩,0,0,0⟩ _ _ W P ⟨_,rfl,hn.keep (fun _ k=>k) fun b h=>hb.block b (hP b h)⟩ ⟨_,rfl,NodesIn.nil _ _⟩ (fun b h=>lt1 (hP b h) hb.size)
  obtain⟨k1,k3,k6⟩:((x.kind:Int)==1)=false/\((x.kind:Int)==3)=false/\((x.kind:Int)==6)=false:=by and_intros<;>(rw[bq0];omega)
  have g1:decide ((1:Int)<=(x.kind:Int))=false:=by rw[decide_eq_false_iff_not];omega
  clear hU hG hn hk1 hk3 hk6 hk0;generalize x.sameB _=SB at*;go_enter func14,ntmps14
  go_upto_region 3 with fail
  obtain⟨b1,b2,HBT⟩:=two_new w #[.int .u8 (x.kind:Int),.int .i64 x.n,.int .i64 x.cut,.int .i64 x.too,.int .i64 x.job.par,.slice a x.job.nodes.length cap,.int .i64 x.part,.int .i64 x.at_,.int .i64 x.why] #[.int .u8 (x.kind:Int),.int .i64 0,.int .i64 0,.int .i64 0,.int .i64 0,.slice none 0 0,.int .i64 0,.int .i64 0,.int .i64 0] 47;generalize World.alloc (World.alloc w _) _=W5 at*;obtain⟨c10,c11,c12,c13,c14,c15,c16,c17,c18⟩:=b1.q9;obtain⟨c20,c21,c22,c23,c24,c25,c26,c27,c28⟩:=b2.q9;have HM:Hd (R=false):=by show _=_;rw[HME.o];try simp
  go_wp2_with fail
  go_ret;rw[HM.o];exact⟨rfl,HBT⟩
 by_cases hk7:x.kind<=6
 ·skip
  have hU:usedOf x=⟨x.kind,0,0,0,⟨0,[]⟩,0,0,0⟩:=by unfold usedOf;rw[if_neg hk1,if_neg hk3,if_neg hk6]
  have hG:goodOf x=true:=by unfold goodOf;rw[if_neg hk1,if_neg hk3,if_neg hk6];rw[dt0 hk0,dt0 hk7];rfl
  rw[hU,hG]at HME;have HS:Hd (∀W:World,Below w.heap.size w W->CB prog 27 #[.agg #[.int .u8 (x.kind:Int),.int .i64 x.n,.int .i64 x.cut,.int .i64 x.too,.int .i64 x.job.par,.slice a x.job.nodes.length cap,.int .i64 x.part,.int .i64 x.at_,.int .i64 x.why],.agg #[.int .u8 (x.kind:Int),.int .i64 0,.int .i64 0,.int .i64 0,.int .i64 0,.slice none 0 0,.int .i64 0,.int .i64 0,.int .i64 0]] W (.bool (x.sameB ⟨x.kind,0,0,0,⟨0,[]⟩,0,0,0⟩))):=
   fun W hb=>roSame_c x ⟨x.kind,0,0,0,⟨0,[]⟩,0,0,0⟩ _ _ W P ⟨_,rfl,hn.keep (fun _ k=>k) fun b h=>hb.block b (hP b h)⟩ ⟨_,rfl,NodesIn.nil _ _⟩ (fun b h=>lt1 (hP b h) hb.size)
  obtain⟨k1,k3,k6⟩:((x.kind:Int)==1)=false/\((x.kind:Int)==3)=false/\((x.kind:Int)==6)=false:=by and_intros<;>(rw[bq0];omega)
  have g1:decide ((1:Int)<=(x.kind:Int))=true:=by rw[decide_eq_true_eq];omega
  have g2:decide ((x.kind:Int)<=6)=true:=by rw[decide_eq_true_eq];omega
  clear hU hG hn hk1 hk3 hk6 hk0 hk7;generalize x.sameB _=SB at*;go_enter func14,ntmps14
  go_upto_region 3 with fail
  obtain⟨b1,b2,HBT⟩:=two_new w #[.int .u8 (x.kind:Int),.int .i64 x.n,.int .i64 x.cut,.int .i64 x.too,.int .i64 x.job.par,.slice a x.job.nodes.length cap,.int .i64 x.part,.int .i64 x.at_,.int .i64 x.why] #[.int .u8 (x.kind:Int),.int .i64 0,.int .i64 0,.int .i64 0,.int .i64 0,.slice none 0 0,.int .i64 0,.int .i64 0,.int .i64 0] 47;generalize World.alloc (World.alloc w _) _=W5 at*;obtain⟨c10,c11,c12,c13,c14,c15,c16,c17,c18⟩:=b1.q9;obtain⟨c20,c21,c22,c23,c24,c25,c26,c27,c28⟩:=b2.q9;have HM:Hd (R=SB):=by show _=_;rw[HME.o];try simp
  go_wp2_with (first|(go_at_call 27;refine(HS.o _ HBT).mono ?_;rintro e w9 ⟨rfl,hb9⟩)|fail)
  go_ret;rw[HM.o];exact⟨rfl,HBT.trans (hb9.mono HBT.size)⟩
 ·skip
  have hU:usedOf x=⟨x.kind,0,0,0,⟨0,[]⟩,0,0,0⟩:=by unfold usedOf;rw[if_neg hk1,if_neg hk3,if_neg hk6]
  have hG:goodOf x=false:=by unfold goodOf;rw[if_neg hk1,if_neg hk3,if_neg hk6];rw[dt0 hk0,df0 hk7];rfl
  rw[hU,hG]at HME;have HS:Hd (∀W:World,Below w.heap.size w W->CB prog 27 #[.agg #[.int .u8 (x.kind:Int),.int .i64 x.n,.int .i64 x.cut,.int .i64 x.too,.int .i64 x.job.par,.slice a x.job.nodes.length cap,.int .i64 x.part,.int .i64 x.at_,.int .i64 x.why],.agg #[.int .u8 (x.kind:Int),.int .i64 0,.int .i64 0,.int .i64 0,.int .i64 0,.slice none 0 0,.int .i64 0,.int .i64 0,.int .i64 0]] W (.bool (x.sameB ⟨x.kind,0,0,0,⟨0,[]⟩,0,0,0⟩))):=
   fun W hb=>roSame_c x ⟨x.kind,0,0,0,⟨0,[]⟩,0,0,0⟩ _ _ W P ⟨_,rfl,hn.keep (fun _ k=>k) fun b h=>hb.block b (hP b h)⟩ ⟨_,rfl,NodesIn.nil _ _⟩ (fun b h=>lt1 (hP b h) hb.size)
  obtain⟨k1,k3,k6⟩:((x.kind:Int)==1)=false/\((x.kind:Int)==3)=false/\((x.kind:Int)==6)=false:=by and_intros<;>(rw[bq0];omega)
  have g1:decide ((1:Int)<=(x.kind:Int))=true:=by rw[decide_eq_true_eq];omega
  have g2:decide ((x.kind:Int)<=6)=false:=by rw[decide_eq_false_iff_not];omega
  clear hU hG hn hk1 hk3 hk6 hk0 hk7;generalize x.sameB _=SB at*;go_enter func14,ntmps14
  go_upto_region 3 with fail
  obtain⟨b1,b2,HBT⟩:=two_new w #[.int .u8 (x.kind:Int),.int .i64 x.n,.int .i64 x.cut,.int .i64 x.too,.int .i64 x.job.par,.slice a x.job.nodes.length cap,.int .i64 x.part,.int .i64 x.at_,.int .i64 x.why] #[.int .u8 (x.kind:Int),.int .i64 0,.int .i64 0,.int .i64 0,.int .i64 0,.slice none 0 0,.int .i64 0,.int .i64 0,.int .i64 0] 47;generalize World.alloc (World.alloc w _) _=W5 at*;obtain⟨c10,c11,c12,c13,c14,c15,c16,c17,c18⟩:=b1.q9;obtain⟨c20,c21,c22,c23,c24,c25,c26,c27,c28⟩:=b2.q9;have HM:Hd (R=false):=by show _=_;rw[HME.o];try simp
  go_wp2_with fail
  go_ret;rw[HM.o];exact⟨rfl,HBT⟩
def numC (l:List Int):List Value:=l.map (Value.int .i64)++List.replicate (6-l.length) (.int .i64 0)
theorem numC_set (l:List Int) (h:l.length<6) (z:Int):(numC l).set l.length (.int .i64 z)=numC (l++ [z]):=by
 unfold numC;rw[List.set_append_right _ _ (by simp),List.length_map,Nat.sub_self,List.map_append,la0,show 6-l.length=(6-(l.length+1))+1 by omega,List.replicate_succ];simp
theorem numC_full (l:List Int) (h:l.length=6):numC l=[.int .i64 (l.getD 0 0),.int .i64 (l.getD 1 0),.int .i64 (l.getD 2 0),.int .i64 (l.getD 3 0),.int .i64 (l.getD 4 0),.int .i64 (l.getD 5 0)]:=by
 match l,h with
 | [a,b,c,d,e,f],_=>rfl
def RdN (s u:ByteArray) (l:List Int):Prop:=l.length<=6/\takeN 6 s=(takeN (6-l.length) u).map (fun q=>(l++q.1,q.2))/\u.size<=s.size/\ ∀z∈l,I64 z
theorem RdN.start (s:ByteArray):RdN s s []:=⟨ze0,by
 simp only[List.length_nil,Nat.sub_zero,List.nil_append]
 cases takeN 6 s<;>rfl,le0,by simp⟩
theorem RdN.bad {s u:ByteArray} {l:List Int} (h:RdN s u l) (hl:l.length<6) (he:(takeS u).2.2≠0):takeN 6 s=none:=by
 rw[h.2.1,show 6-l.length=(6-(l.length+1))+1 by omega];unfold takeN;rw[if_pos he];rfl
theorem RdN.more {s u:ByteArray} {l:List Int} (h:RdN s u l) (hl:l.length<6) (he:(takeS u).2.2=0) (hz:I64 (takeS u).1) (k:Nat) (hk:(takeS u).2.1=(k:Int)):RdN s (u.extract k u.size) (l++ [(takeS u).1]):=by
 refine⟨by rw[la0];simp;omega,?_,le1 (by rw[ByteArray.size_extract];omega) h.2.2.1,?_⟩
 ·rw[h.2.1,la0,List.length_singleton,show 6-l.length=(6-(l.length+1))+1 by omega]
  conv=>lhs;unfold takeN
  rw[if_neg (by simpa using he),hk,Int.toNat_natCast]
  cases takeN (6-(l.length+1)) (u.extract k u.size)with
  |none=>rfl
  |some q=>simp
 ·intro z hz2;rcases List.mem_append.1 hz2 with h2|h2
  ·exact h.2.2.2 z h2
  ·rw[List.mem_singleton.1 h2];exact hz
theorem RdN.done {s u:ByteArray} {l:List Int} (h:RdN s u l) (hl:l.length=6):takeN 6 s=some (l,u):=by
 rw[h.2.1,hl];show Option.map _ (takeN 0 u)=_;unfold takeN;simp
theorem stOf_ok {k:Nat} (hk:k<256) {l:List Int} (hl: ∀z∈l,I64 z) {j:Jb} (hj:j.ok):(stOf k l j).Ok:=by
 have h0: ∀i,I64 (l.getD i 0):=by
  intro i;rw[List.getD_eq_getElem?_getD]
  cases h:l[i]? with
  |none=>exact⟨by decide,by decide⟩
  |some z=>exact hl z (List.mem_of_getElem? h)
 exact⟨hk,h0 0,h0 1,h0 2,hj,h0 3,h0 4,h0 5⟩
