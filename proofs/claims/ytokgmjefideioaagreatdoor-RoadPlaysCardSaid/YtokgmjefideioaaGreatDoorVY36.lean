/- Parts. -/
import Derived.Test.YtokgmjefideioaaGreatDoorVY29
import Derived.Test.YtokgmjefideioaaGreatDoorVY32
import Derived.Test.YtokgmjefideioaaGreatDoorVY35
import Derived.Test.YtokgmjefideioaaGreatDoorVY44
namespace Go.Proofs.YtokgmjefideioaaGreatDoor
open Go.RowKit
set_option linter.unusedVariables false
set_option linter.unusedSimpArgs false
set_option maxRecDepth 100000
set_option maxHeartbeats 16000000
open Tryz
def RReadP (k:Nat) (s:ByteArray) (w:World) (e:Ending) (w':World):Prop:=
 ∃y sa sn sc,e= .returned (.agg (stC y (.slice sa sn sc)))/\Below w.heap.size w w'/\match readSt k s with
  |none=>y.kind=0/\y.job.nodes=[]/\sa=none/\sn=0/\sc=0
  |some x=>y=x/\x.Ok/\x.mayB=true/\NodesIn w' (fun c=>w.heap.size<=c/\c<w'.heap.size) x.job.nodes (.slice sa sn sc)
def stZ:St:=⟨0,0,0,0,⟨0,[]⟩,0,0,0⟩
theorem RReadP.no {k:Nat} {s:ByteArray} {w w':World} (h:readSt k s=none) (hb:Below w.heap.size w w'):RReadP k s w (.returned (.agg #[.int .u8 0,.int .i64 0,.int .i64 0,.int .i64 0,.int .i64 0,.slice none 0 0,.int .i64 0,.int .i64 0,.int .i64 0])) w':=
 ⟨stZ,none,0,0,rfl,hb,by rw[h];exact⟨rfl,rfl,rfl,rfl,rfl⟩⟩
structure RRd (w:World) (s u:ByteArray) (l:List Int) (iv:Value) (wr:World):Prop where
 rd:RdN s u l
 below:Below w.heap.size w wr
 res:Blk wr w.heap.size 47 #[.int .u8 0,.int .i64 0,.int .i64 0,.int .i64 0,.int .i64 0,.slice none 0 0,.int .i64 0,.int .i64 0,.int .i64 0]
 zero:Blk wr (w.heap.size+1) 47 #[.int .u8 0,.int .i64 0,.int .i64 0,.int .i64 0,.int .i64 0,.slice none 0 0,.int .i64 0,.int .i64 0,.int .i64 0]
 own:wr.ownsRow (w.heap.size+2) 2 1 iv l.length (l.map (Value.int .i64))
theorem takeJ_lim (s:ByteArray):(∀d∈(takeJ s).1.nodes,d.uid.size<=1000000)/\(takeJ s).1.nodes.length<=1000:=by
 by_cases h:(takeJ s).2=0
 ·obtain⟨h1,h2,h3,_⟩:=takeJ_back s h;have:=(good_small h1 h3).2.1;exact⟨fun d hd=>by have:=h2 d hd;omega,by omega⟩
 ·rw[takeJ_err s h];exact⟨by simp,by simp⟩
theorem read_bad {k:Nat} {s u:ByteArray} {l:List Int} (h:takeN 6 s=some (l,u)) (hk:k=1) (he:(takeT u).2.2≠0\/(takeJ (takeT u).1).2≠0):readSt k s=none:=by
 have e:(takeJ (takeT u).1).1=⟨0,[]⟩:=by
  refine takeJ_err _ ?_;rcases he with he|he
  ·rw[(takeT_err u he).1];decide
  ·exact he
 unfold readSt;rw[h];dsimp only;rw[if_pos hk,e,if_neg];rintro ⟨h1,_⟩;unfold St.mayB at h1;rw[if_pos (show(stOf k l ⟨0,[]⟩).kind=1 from hk)]at h1;simp only[Bool.and_eq_true,beq_iff_eq]at h1;exact absurd h1.2.2.2.1 (by show ¬(Jb.may ⟨0,[]⟩).2=0;decide)
theorem info_st9:(prog.info? 47).map (·.size)=some 9:=by kernel_rfl
theorem Blk.there9 {w:World} {g:Nat} {t:TypeId} {cs:Array Value} (h:Blk w g t cs) (h9:cs.size=9):w.there g 0 9:=fun j hj=>⟨by rw[h.cell,Nat.zero_add,Array.getElem?_eq_getElem (by omega)];rfl,h.free _⟩
structure RRe (w:World) (B:Nat) (y:St) (sv:Value) (W:World):Prop where
 below:Below w.heap.size w W
 res:Blk W w.heap.size 47 #[.int .u8 0,.int .i64 0,.int .i64 0,.int .i64 0,.int .i64 0,.slice none 0 0,.int .i64 0,.int .i64 0,.int .i64 0]
 zero:Blk W (w.heap.size+1) 47 #[.int .u8 0,.int .i64 0,.int .i64 0,.int .i64 0,.int .i64 0,.slice none 0 0,.int .i64 0,.int .i64 0,.int .i64 0]
 x:Blk W B 47 (stC y sv)
 ns:NodesIn W (fun c=>w.heap.size<c/\c<W.heap.size) y.job.nodes sv
 hB:w.heap.size+1<B
theorem RRe.bl {w W W':World} {B:Nat} {y:St} {sv:Value} (h:RRe w B y sv W) (hb:Below W.heap.size W W'):RRe w B y sv W':=
 ⟨h.below.trans (hb.mono h.below.size),h.res.below hb h.res.lt,h.zero.below hb h.zero.lt,h.x.below hb h.x.lt,h.ns.keep (fun c q=>⟨q.1,lt1 q.2 hb.size⟩) fun c q=>hb.block c q.2,h.hB⟩
theorem rrRead_c (k:Nat) (hk0:0<k) (hk1:k<256) (s:ByteArray) (hs:s.size<=140737488355328) (w:World):Calls prog 47 #[.int .u8 (k:Int),.string s] w (RReadP k s w):=by
 go_enter func47,ntmps47
 go_upto_region 2 with fail
 have hR0:RRd w s s [] (.slice none 0 0) ((w.alloc (.cells #[.int .u8 0,.int .i64 0,.int .i64 0,.int .i64 0,.int .i64 0,.slice none 0 0,.int .i64 0,.int .i64 0,.int .i64 0] 47)).alloc (.cells #[.int .u8 0,.int .i64 0,.int .i64 0,.int .i64 0,.int .i64 0,.slice none 0 0,.int .i64 0,.int .i64 0,.int .i64 0] 47)):=
  ⟨RdN.start s,two_below w _ _ _ _,(Blk.new w _ _).alloc _,Blk.new_at _ _ _ (by simp),World.ownsRow_nil _ _ _ _⟩
 generalize World.alloc (World.alloc w _) _=W0 at*
 go_wp2_with fail
 go_loopw [6,7,8] (fun iv t7 q wr=> ∃(l:List Int) (u:ByteArray),q= .int .i64 (l.length:Int)/\t7= .string u/\RRd w s u l iv wr) (fun _ _ q _=>6-(intOf q).toNat)
 case atStart=>exact⟨[],s,rfl,rfl,hR0⟩
 case round=>
  obtain⟨l,u,rfl,rfl,hR⟩:=hrel;have hrd:=hR.rd;by_cases hl:l.length<6
  ·have hul:=hrd.2.2.1;have HTK:Hd (∀W:World,Calls prog 79 #[.string u] W fun e w'=>e= .returned (.tuple #[.int .i64 (takeS u).1,.int .i64 (takeS u).2.1,.int .i64 (takeS u).2.2])/\W=w'):=fun W=>rTake_c u (by omega) W;obtain⟨m,hm,hmu,hz1,hz2⟩:=takeS_size u;have hl6i:(l.length:Int)<6:=by omega
   by_cases he:(takeS u).2.2=0
   ·have HM:=Lh (hrd.more hl he ⟨hz1,hz2⟩ m hm);rw[he,hm]at HTK;generalize (takeS u).1=z at*;have hmi:(m:Int)<=(u.size:Int):=by omega
    have hm0:(0:Int)<=(m:Int):=by omega
    have HRR:=Lh hR;have hl0:(0:Int)<=(l.length:Int):=by omega
    have hown:=own_alloc hR.own (.cells #[.int .i64 z] 2);have hC:=Blk.new wr #[.int .i64 z] 2;have hbA:=hR.below.alloc hR.below.size (.cells #[.int .i64 z] 2);have hge:=own_ge hR.own;have hr0:=hR.res.alloc (.cells #[.int .i64 z] 2);have hz0:=hR.zero.alloc (.cells #[.int .i64 z] 2);clear hR hrd he hm hz1 hz2;generalize hll:l.length=i at*;have HLL:=Lh hll;obtain⟨i0,ii,iz0,iz1,iz2⟩:=info_parts info_i64R;clear hll
    go_wp2_with (first
     |(go_at_call 79;refine(HTK.o _).mono ?_;rintro e w1 ⟨rfl,rfl⟩)
     |(at_builtin;refine wpList_app 8 rfl (.tmp 32) (.tmp 34) rfl underlying143 ii iz0 iz1 iz2 rfl (by decide) rfl hown rfl (news:=[.int .i64 z]) rfl (fun p hp=>by cases hp;exact World.news_of_block hC) (by simp[Value.oneCell']) (by simp) (by unfold maxLen;omega) (by omega) (by have:=HRR.o.zero.lt;simp;omega) ?_;intro a1 c1 w2 own1 hg1)
     |fail)
    go_roundw
    case rel=>
     refine⟨l++ [z],u.extract m u.size,by rw[la0,HLL.o];go_num,rfl,HM.o,hbA.grown hg1 hbA.size (fun q e=>by have:=hge q e;omega),hr0.grown hg1 (fun e=>by have:=hge _ e.symm;omega),hz0.grown hg1 (fun e=>by have:=hge _ e.symm;omega),?_⟩;rw[List.map_append,la0,HLL.o];exact own1
    case measure=>simp[intOf];omega
   ·have HBAD:=Lh (hrd.bad hl he);rcases hts:takeS u with ⟨tz,tm,te⟩;rw[hts]at he;simp only[hts]at HTK;have d2:(te !=0)=true:=by simpa using he
    have HRES:=Lh hR.res;have HBL:=Lh hR.below;obtain⟨y0,y1,y2,y3,y4,y5,y6,y7,y8⟩:=hR.zero.q9;obtain⟨r0,r1,r2,r3,r4,r5,r6,r7,r8⟩:=hR.res.q9;obtain⟨q0,q1,q2,q3,q4,q5,q6,q7,q8⟩:=hR.res.u9;clear hR hrd he hts hz1 hz2 hm hmu
    go_wp2_with (first|(go_at_call 79;refine(HTK.o _).mono ?_;rintro e w1 ⟨rfl,rfl⟩)|fail)
    refine bodyPost_ret (v:= .agg #[_,_,_,_,_,_,_,_,_]) (results_cell_row rfl _ _ w.heap.size 47 _ (0,0) _ rfl (Blk.set9 HRES.o rfl _ _ _ _ _ _ _ _ _) underlying47 rfl ?_) rfl (RReadP.no (by unfold readSt;rw[HBAD.o]) (below_set9 HBL.o le0 _ _ _ _ _ _ _ _ _))
    kernel_rfl
  ·have hl6:l.length=6:=by have:=hrd.1;omega
   have htk:=Lh (hrd.done hl6);have hi6:=hrd.2.2.2;have hus:=hrd.2.2.1;have HRR:=Lh hR;have hmap:l.map (Value.int .i64)=[.int .i64 (l.getD 0 0),.int .i64 (l.getD 1 0),.int .i64 (l.getD 2 0),.int .i64 (l.getD 3 0),.int .i64 (l.getD 4 0),.int .i64 (l.getD 5 0)]:=by
    match l,hl6 with
    | [a,b,c,d,e,f],_=>rfl
   have HOK:Hd (∀j:Jb,j.ok->(stOf k l j).Ok):=fun j hj=>stOf_ok hk1 hi6 hj;have HRS:Hd (readSt k s=(if(stOf k l (if k=1 then(takeJ (takeT u).1).1 else⟨0,[]⟩)).mayB=true/\(stOf k l (if k=1 then(takeJ (takeT u).1).1 else⟨0,[]⟩)).text=s then some (stOf k l (if k=1 then(takeJ (takeT u).1).1 else⟨0,[]⟩))else none)):=by
    show _=_;unfold readSt;rw[htk.o]
   have HRB:Hd (k=1->(takeT u).2.2≠0\/(takeJ (takeT u).1).2≠0->readSt k s=none):=fun h1 h2=>read_bad htk.o h1 h2;have HST:Hd (∀j sv,stC (stOf k l j) sv=#[.int .u8 (k:Int),.int .i64 (l.getD 0 0),.int .i64 (l.getD 1 0),.int .i64 (l.getD 2 0),.int .i64 j.par,sv,.int .i64 (l.getD 3 0),.int .i64 (l.getD 4 0),.int .i64 (l.getD 5 0)]):=fun j sv=>rfl;have HJOB:Hd (∀j,(stOf k l j).job=j):=fun j=>rfl;have ho:=hR.own;rw[hmap,hl6]at ho;obtain⟨g,cap,rfl,hgl,hc6,hmx6,hnn⟩: ∃g cap,u6= .slice (some ⟨g,0,none⟩) 6 cap/\g<wr.heap.size/\6<=cap/\cap<=maxLen/\ ∀j,j<6->wr.cell? ⟨g,j,none⟩=([.int .i64 (l.getD 0 0),.int .i64 (l.getD 1 0),.int .i64 (l.getD 2 0),.int .i64 (l.getD 3 0),.int .i64 (l.getD 4 0),.int .i64 (l.getD 5 0)]:List Value)[j]? :=by
    rcases ho.2 with ⟨_,h0⟩|⟨g,cap,cur,rfl,hb,hg,hn,hc,hs,ht⟩
    ·exact absurd h0 (by decide)
    ·refine⟨g,cap,rfl,(Array.getElem?_eq_some_iff.1 hg).1,hn,hc,fun j hj=>?_⟩;rw[cell_of_row wr g j cur _ (0,0) hg,<-ht,List.getElem?_take,if_pos (by omega)];simp
   have HNN:=Lh (fun W (q:Below wr.heap.size wr W) j (hj:j<6)=>(World.cell?_of_block (a:=⟨g,j,none⟩) (q.block g hgl)).trans (hnn j hj));generalize stOf k l=F at*;generalize l.getD 0 0=z0 at*;generalize l.getD 1 0=z1 at*;generalize l.getD 2 0=z2 at*;generalize l.getD 3 0=z3 at*;generalize l.getD 4 0=z4 at*;generalize l.getD 5 0=z5 at*;clear hrd hR hi6 hl ho hmap hnn;have hl6':((l.length:Nat):Int)=6:=by omega
   rw[hl6'];clear hl6'
   go_upto_region 12 with fail
   go_cut [12] (fun s12 wx=>s12= .pointer (some ⟨wr.heap.size,0,none⟩)/\Below wr.heap.size wr wx/\Blk wx wr.heap.size 47 #[.int .u8 (k:Int),.int .i64 z0,.int .i64 z1,.int .i64 z2,.int .i64 0,.slice none 0 0,.int .i64 z3,.int .i64 z4,.int .i64 z5])
   case first=>
    have hb:=(Below.refl wr.heap.size wr).drew;refine wp_region_held_drew (S:=(fun w'=>Below wr.heap.size wr w')) (by kernel_rfl) ?_ (fun hHeld=>tk0 ?_)
    ·exact hb
    repeat' first
     |refine tkN ?_
     |(refine tkX ?_;try simp only[Act.put,tkA,tkB,tkC,tkD,tkE,tkF])
     |(refine tkt (v:=?_) (by decide+kernel) rfl (by rfl) (fun _ _ _ h=>h) (by assumption) ?_ ?_;rotate_left;(· intro w' hSw;(try dsimp only at hSw);have n0:=HNN.o _ hSw 0 (by decide);have n1:=HNN.o _ hSw 1 (by decide);have n2:=HNN.o _ hSw 2 (by decide);have n3:=HNN.o _ hSw 3 (by decide);have n4:=HNN.o _ hSw 4 (by decide);have n5:=HNN.o _ hSw 5 (by decide);clear hSw;go_simp;(try with_reducible rfl));try simp only[Act.put,tkA,tkB,tkC,tkD,tkE,tkF])
     |refine tkM ?_
     |refine tkZ ?_
     |refine tkB1 ?_
     |refine brN ?_
     |exact brE
     |refine brc rfl (fun K hK=>?_) ?_
     |(replace hK:=hK;refine opD 12 (by decide+kernel) ?_;go_simp;have hn12:=new_blkB hb #[.int .u8 0,.int .i64 0,.int .i64 0,.int .i64 0,.int .i64 0,.slice none 0 0,.int .i64 0,.int .i64 0,.int .i64 0] 47;replace hb:=hb.alloc hb.size (.cells #[.int .u8 0,.int .i64 0,.int .i64 0,.int .i64 0,.int .i64 0,.slice none 0 0,.int .i64 0,.int .i64 0,.int .i64 0] 47);refine hK.out _ _ ?_ (fun hHeld=>?_);(· exact hb);clear hK K;try simp only[Act.put,tkA,tkB,tkC,tkD,tkE,tkF])
     |(replace hK:=hK;refine opIs 2 (by decide+kernel) ?_;refine step_store_cells (by rfl) 47 (.tmp 12) (.tmp 58) (by rfl) wr.heap.size #[.int .u8 (k:Int),.int .i64 z0,.int .i64 z1,.int .i64 z2,.int .i64 0,.slice none 0 0,.int .i64 z3,.int .i64 z4,.int .i64 z5] (by rfl) (by rfl) (hn12.there9 rfl) info_st9 (by simp[Value.oneCell']) ?_;refine hK.out _ _ ?_ (fun hHeld=>?_);(· exact RdE.below_setCells _ le0 _ _ _ hb);clear hK K;try simp only[Act.put,tkA,tkB,tkC,tkD,tkE,tkF])
     |fail
    go_wp2_with fail
    go_meet;refine⟨rfl,RdE.below_setCells _ le0 _ _ _ hb,?_⟩;have e:=Blk.setCells (#[.int .u8 (k:Int),.int .i64 z0,.int .i64 z1,.int .i64 z2,.int .i64 0,.slice none 0 0,.int .i64 z3,.int .i64 z4,.int .i64 z5]).toList 0 (show Blk _ wr.heap.size 47 zeroL.toArray from hn12);rw[setL_all9 _ _ rfl rfl]at e;exact e
   case rest=>
   obtain⟨rfl,hb12,hx12⟩:=hcut;have HJ0:Hd (RRe w wr.heap.size (F ⟨0,[]⟩) (.slice none 0 0) wc):=⟨HRR.o.below.trans (hb12.mono HRR.o.below.size),HRR.o.res.below hb12 HRR.o.res.lt,HRR.o.zero.below hb12 HRR.o.zero.lt,by rw[HST.o];exact hx12,by rw[HJOB.o];exact NodesIn.nil _ _,HRR.o.zero.lt⟩;generalize wr.heap.size=B at*;have hBB:=HJ0.o.hB;obtain⟨J,hJJ⟩: ∃J,(if k=1 then(takeJ (takeT u).1).1 else(⟨0,[]⟩:Jb))=J:=⟨_,rfl⟩;rw[hJJ]at HRS;have hJok:J.ok/\(∀d∈J.nodes,d.uid.size<=1000000)/\J.nodes.length<=1000:=by
    rw[<-hJJ];split
    ·exact⟨takeJ_ok _,takeJ_lim _⟩
    ·exact⟨⟨by decide,by decide,by simp⟩,by simp,by simp⟩
   have HJK:=Lh hJok;have HJJ:=Lh hJJ;clear hJJ hJok hb12 hx12 HNN
   go_upto_if 60 with fail
   go_cut [13,14,15,16] (fun s13 s14 s15 s16 wx=> ∃sa sn sc,RRe w B (F J) (.slice sa sn sc) wx)
   case first=>
    by_cases hk:k=1
    ·have hkb:((k:Int)==1)=true:=by rw[beq_iff_eq];omega
     have HTT:=Lh (fun W=>rTakeText_c u (by omega) W);have hts:=takeT_small u;have hjj:=HJJ.o;rw[if_pos hk]at hjj;have HRB1:=Lh (HRB.o hk);generalize takeT u=tt at*;obtain⟨t,tm,te⟩:=tt;dsimp only at hts HTT hjj HRB1;have HPT:=Lh (fun W=>rTake14_c t (by omega) W);unfold TakeJPost at HPT;generalize takeJ t=tj at*;obtain⟨j,je⟩:=tj;dsimp only at HPT hjj HRB1;subst hjj;have hx:=HJ0.o.x;rw[HST.o]at hx;obtain⟨y0,y1,y2,y3,y4,y5,y6,y7,y8⟩:=HJ0.o.zero.q9;obtain⟨r0,r1,r2,r3,r4,r5,r6,r7,r8⟩:=HJ0.o.res.q9;obtain⟨q0,q1,q2,q3,q4,q5,q6,q7,q8⟩:=HJ0.o.res.u9;clear HRS HJJ hk;by_cases hte:te=0
     ·subst hte;by_cases hje:je=0
      ·subst hje
       go_wp2_with (first
        |(go_at_call 80;refine(HTT.o _).mono ?_;rintro e w1 ⟨rfl,rfl⟩)
        |(go_at_call 81;refine(HPT.o _).mono ?_;rintro e w2 ⟨v2,rfl,⟨sv2,rfl,hn2⟩,hb2⟩;obtain⟨a2,c2,rfl,_,_⟩:=hn2.slice;have hx2:=hx.below hb2 hx.lt;have x4:=hx2.cell 4;have x5:=hx2.cell 5;have y4:=hx2.free 4;have y5:=hx2.free 5;have hBl:=hx2.lt)
        |fail)
       go_meet;have h2:=HJ0.o.bl hb2;have hB0:=hx.lt;have hz2:=hb2.size;refine⟨a2,j.nodes.length,c2,((h2.below.setCell (p:=⟨B,4,none⟩) (by show w.heap.size<=B;omega) _).setCell (p:=⟨B,5,none⟩) (by show w.heap.size<=B;omega) _).alloc (by have:=h2.below.size;simpa using this) _,((h2.res.other (p:=⟨B,4,none⟩) (by show w.heap.size≠B;omega) _).other (p:=⟨B,5,none⟩) (by show w.heap.size≠B;omega) _).alloc _,((h2.zero.other (p:=⟨B,4,none⟩) (by show w.heap.size+1≠B;omega) _).other (p:=⟨B,5,none⟩) (by show w.heap.size+1≠B;omega) _).alloc _,?_,?_,hBB⟩
       ·rw[HST.o];exact((hx2.set 4 _).set 5 _).alloc _
       ·rw[HJOB.o];exact hn2.keep (fun c q=>⟨by omega,by simp;omega⟩) (fun c q=>(alloc_old _ _ c (by simpa using q.2)).trans ((heap_setCell_other _ ⟨B,5,none⟩ c _ (by show c≠B;omega)).trans (heap_setCell_other _ ⟨B,4,none⟩ c _ (by show c≠B;omega))))
      ·have e2:(je !=0)=true:=by simpa using hje
       have HNO:=Lh (HRB1.o (.inr hje));clear hje y0 y1 y2 y3 y4 y5 y6 y7 y8 r0 r1 r2 r3 r4 r5 r6 r7 r8 q0 q1 q2 q3 q4 q5 q6 q7 q8
       go_upto_if 76 with (first
        |(go_at_call 80;refine(HTT.o _).mono ?_;rintro e w1 ⟨rfl,rfl⟩)
        |(go_at_call 81;refine(HPT.o _).mono ?_;rintro e w2 ⟨v2,rfl,⟨sv2,rfl,hn2⟩,hb2⟩;obtain⟨a2,c2,rfl,_,_⟩:=hn2.slice)
        |fail)
       have h3:=(HJ0.o.bl hb2).bl ((Below.refl _ w2).alloc le0 (.cells #[.int .i64 j.par,.slice a2 j.nodes.length c2] 45));clear hb2 hn2;generalize World.alloc w2 _=W3 at*;obtain⟨y0,y1,y2,y3,y4,y5,y6,y7,y8⟩:=h3.zero.q9;obtain⟨r0,r1,r2,r3,r4,r5,r6,r7,r8⟩:=h3.res.q9;obtain⟨q0,q1,q2,q3,q4,q5,q6,q7,q8⟩:=h3.res.u9
       go_wp2_with fail
       refine bodyPost_ret (v:= .agg #[_,_,_,_,_,_,_,_,_]) (results_cell_row rfl _ _ w.heap.size 47 _ (0,0) _ rfl (Blk.set9 h3.res rfl _ _ _ _ _ _ _ _ _) underlying47 rfl ?_) rfl (RReadP.no HNO.o (below_set9 h3.below le0 _ _ _ _ _ _ _ _ _))
       kernel_rfl
     ·have e1:(te !=0)=true:=by simpa using hte
      have HNO:=Lh (HRB1.o (.inl hte));clear hte
      go_wp2_with (first|(go_at_call 80;refine(HTT.o _).mono ?_;rintro e w1 ⟨rfl,rfl⟩)|fail)
      refine bodyPost_ret (v:= .agg #[_,_,_,_,_,_,_,_,_]) (results_cell_row rfl _ _ w.heap.size 47 _ (0,0) _ rfl (Blk.set9 HJ0.o.res rfl _ _ _ _ _ _ _ _ _) underlying47 rfl ?_) rfl (RReadP.no HNO.o (below_set9 HJ0.o.below le0 _ _ _ _ _ _ _ _ _))
      kernel_rfl
    ·have hkb:((k:Int)==1)=false:=by rw[bq0];omega
     have hjj:=HJJ.o;rw[if_neg hk]at hjj;subst hjj
     go_wp2_with fail
     go_meet;exact⟨none,0,0,HJ0.o⟩
   case rest=>
   obtain⟨sa,sn,sc,hJ⟩:=hcut;have HJ:=Lh hJ;have hOK:=HOK.o J HJK.o.1;have hsti: ∀W,Below wc.heap.size wc W->StIn W (· <wc.heap.size) (.agg (stC (F J) (.slice sa sn sc))) (F J):=fun W hb=>⟨_,rfl,hJ.ns.keep (fun c q=>q.2) fun c q=>hb.block c q.2⟩;have HM:Hd (∀W,Below wc.heap.size wc W->CB prog 15 #[.agg (stC (F J) (.slice sa sn sc))] W (.bool (F J).mayB)):=fun W hb=>rrMay_c (F J) hOK (by rw[HJOB.o];exact HJK.o.2.1) (by rw[HJOB.o];exact HJK.o.2.2) _ W _ (hsti W hb) fun b q=>lt1 q hb.size;have HT:Hd ((F J).mayB=true-> ∀W,Below wc.heap.size wc W->CB prog 58 #[.agg (stC (F J) (.slice sa sn sc))] W (.string (F J).text)):=fun hm W hb=>rrText_c (F J) hOK hm _ W _ (hsti W hb) fun b q=>lt1 q hb.size;simp only[HST.o]at HM HT;have hx:=hJ.x;rw[HST.o]at hx;have HRV:Hd (∀(W:World),RRe w B (F J) (.slice sa sn sc) W->(F J).mayB=true->(F J).text=s->RReadP k s w (.returned (.agg #[.int .u8 (k:Int),.int .i64 z0,.int .i64 z1,.int .i64 z2,.int .i64 J.par,.slice sa sn sc,.int .i64 z3,.int .i64 z4,.int .i64 z5])) (((((((((W.setCell ⟨w.heap.size,0,none⟩ (.int .u8 (k:Int))).setCell ⟨w.heap.size,1,none⟩ (.int .i64 z0)).setCell ⟨w.heap.size,2,none⟩ (.int .i64 z1)).setCell ⟨w.heap.size,3,none⟩ (.int .i64 z2)).setCell ⟨w.heap.size,4,none⟩ (.int .i64 J.par)).setCell ⟨w.heap.size,5,none⟩ (.slice sa sn sc)).setCell ⟨w.heap.size,6,none⟩ (.int .i64 z3)).setCell ⟨w.heap.size,7,none⟩ (.int .i64 z4)).setCell ⟨w.heap.size,8,none⟩ (.int .i64 z5))):=fun W h h1 h2=>by
    refine⟨F J,sa,sn,sc,by rw[HST.o],below_set9 h.below le0 _ _ _ _ _ _ _ _ _,?_⟩;rw[HRS.o,if_pos ⟨h1,h2⟩];exact⟨rfl,hOK,h1,h.ns.keep (fun c q=>⟨Nat.le_of_lt q.1,by rw[size_set9];exact q.2⟩) fun c q=>other_set9 (by omega) _ _ _ _ _ _ _ _ _⟩
   obtain⟨y0,y1,y2,y3,y4,y5,y6,y7,y8⟩:=hJ.zero.q9;obtain⟨r0,r1,r2,r3,r4,r5,r6,r7,r8⟩:=hJ.res.q9;obtain⟨q0,q1,q2,q3,q4,q5,q6,q7,q8⟩:=hJ.res.u9;obtain⟨x0,x1,x2,x3,x4,x5,x6,x7,x8⟩:=hx.q9;clear hsti hJ hx HJJ HRB
   cases hfm:(F J).mayB
   ·have HNO:Hd (readSt k s=none):=by show _=_;rw[HRS.o,hfm,if_neg (by simp)]
    rw[hfm]at HM;clear hfm HRS HT HRV
    go_wp2_with (first|(go_at_call 15;refine(HM.o _ br0).mono ?_;rintro e w5 ⟨rfl,hb5⟩;have h5:=HJ.o.bl hb5;obtain⟨y0,y1,y2,y3,y4,y5,y6,y7,y8⟩:=h5.zero.q9;obtain⟨r0,r1,r2,r3,r4,r5,r6,r7,r8⟩:=h5.res.q9;obtain⟨q0,q1,q2,q3,q4,q5,q6,q7,q8⟩:=h5.res.u9)|fail)
    refine bodyPost_ret (v:= .agg #[_,_,_,_,_,_,_,_,_]) (results_cell_row rfl _ _ w.heap.size 47 _ (0,0) _ rfl (Blk.set9 h5.res rfl _ _ _ _ _ _ _ _ _) underlying47 rfl ?_) rfl (RReadP.no HNO.o (below_set9 h5.below le0 _ _ _ _ _ _ _ _ _))
    kernel_rfl
   ·have HT1:=Lh (HT.o hfm);rw[hfm]at HM HRS;have HRW:=Lh (fun W (q:RRe w B (F J) (.slice sa sn sc) W) h2=>HRV.o W q hfm h2);clear hfm HT HRV;by_cases htx:(F J).text=s
    ·have hq1:((F J).text.toList==s.toList)=true:=by rw[htx];simp
     have HTX:=Lh htx;clear htx HRS
     go_wp2_with (first
      |(go_at_call 15;refine(HM.o _ br0).mono ?_;rintro e w5 ⟨rfl,hb5⟩;have h5:=HJ.o.bl hb5;have hx5:=h5.x;rw[HST.o]at hx5;obtain⟨x0,x1,x2,x3,x4,x5,x6,x7,x8⟩:=hx5.q9)
      |(go_at_call 58;refine(HT1.o _ hb5).mono ?_;rintro e w6 ⟨rfl,hb6⟩;have h6:=h5.bl hb6;have hx6:=h6.x;rw[HST.o]at hx6;obtain⟨y0,y1,y2,y3,y4,y5,y6,y7,y8⟩:=h6.zero.q9;obtain⟨r0,r1,r2,r3,r4,r5,r6,r7,r8⟩:=h6.res.q9;obtain⟨q0,q1,q2,q3,q4,q5,q6,q7,q8⟩:=h6.res.u9;obtain⟨x0,x1,x2,x3,x4,x5,x6,x7,x8⟩:=hx6.q9)
      |fail)
     refine bodyPost_ret (v:= .agg #[_,_,_,_,_,_,_,_,_]) (results_cell_row rfl _ _ w.heap.size 47 _ (0,0) _ rfl (Blk.set9 h6.res rfl _ _ _ _ _ _ _ _ _) underlying47 rfl ?_) rfl (HRW.o _ h6 HTX.o)
     kernel_rfl
    ·have hq1:((F J).text.toList==s.toList)=false:=by rw[beq_strD];exact df0 htx
     have HNO:Hd (readSt k s=none):=by show _=_;rw[HRS.o,if_neg (fun e=>htx e.2)]
     clear htx HRS HRW
     go_wp2_with (first
      |(go_at_call 15;refine(HM.o _ br0).mono ?_;rintro e w5 ⟨rfl,hb5⟩;have h5:=HJ.o.bl hb5;have hx5:=h5.x;rw[HST.o]at hx5;obtain⟨x0,x1,x2,x3,x4,x5,x6,x7,x8⟩:=hx5.q9)
      |(go_at_call 58;refine(HT1.o _ hb5).mono ?_;rintro e w6 ⟨rfl,hb6⟩;have h6:=h5.bl hb6;obtain⟨y0,y1,y2,y3,y4,y5,y6,y7,y8⟩:=h6.zero.q9;obtain⟨r0,r1,r2,r3,r4,r5,r6,r7,r8⟩:=h6.res.q9;obtain⟨q0,q1,q2,q3,q4,q5,q6,q7,q8⟩:=h6.res.u9)
      |fail)
     refine bodyPost_ret (v:= .agg #[_,_,_,_,_,_,_,_,_]) (results_cell_row rfl _ _ w.heap.size 47 _ (0,0) _ rfl (Blk.set9 h6.res rfl _ _ _ _ _ _ _ _ _) underlying47 rfl ?_) rfl (RReadP.no HNO.o (below_set9 h6.below le0 _ _ _ _ _ _ _ _ _))
     kernel_rfl
