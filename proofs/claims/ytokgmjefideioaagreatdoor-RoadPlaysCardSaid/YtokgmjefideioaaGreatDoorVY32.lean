/- Parts. -/
import Derived.Test.YtokgmjefideioaaGreatDoorVY31
import Derived.Test.YtokgmjefideioaaGreatDoorVY22w
namespace Go.Proofs.YtokgmjefideioaaGreatDoor
open Go.RowKit
set_option linter.unusedVariables false
set_option linter.unusedSimpArgs false
set_option maxRecDepth 100000
set_option maxHeartbeats 16000000
open Tryz
def zeroL:List Value:=[.int .u8 0,.int .i64 0,.int .i64 0,.int .i64 0,.int .i64 0,.slice none 0 0,.int .i64 0,.int .i64 0,.int .i64 0]
def zeroC:Array Value:=#[.int .u8 0,.int .i64 0,.int .i64 0,.int .i64 0,.int .i64 0,.slice none 0 0,.int .i64 0,.int .i64 0,.int .i64 0]
def ReadP (k:Nat) (s:ByteArray) (w:World) (e:Ending) (w':World):Prop:=
 ∃y sa sn sc b,e= .returned (.tuple #[.agg (stC y (.slice sa sn sc)),.bool b])/\Below w.heap.size w w'/\match readSt k s with
  |none=>b=false
  |some x=>b=true/\y=x/\x.Ok/\x.mayB=true/\NodesIn w' (fun c=>w.heap.size<=c/\c<w'.heap.size) x.job.nodes (.slice sa sn sc)
structure RdR (w:World) (s u:ByteArray) (l:List Int) (wr:World):Prop where
 rd:RdN s u l
 below:Below w.heap.size w wr
 res:Blk wr w.heap.size 47 zeroC
 nums:Blk wr (w.heap.size+1) 134 (numC l).toArray
theorem step_store_cells {P:Program} {ops:Array Oper} {o:Oper} {a:Act} {w:World} {K:Act->World->Prop} {Q:Exit->Act->World->Prop} {E:Prop} (hgd:o.guard=none) (ty:TypeId) (x y:Operand) (ho:o.op= .store ty x y)
  (b:Nat) (cells:Array Value) (hx:a.eval x= .pointer (some ⟨b,0,none⟩)) (hy:a.eval y= .agg cells)
  (ht:w.there b 0 cells.size) (hi:(P.info? ty).map (·.size)=some cells.size) (h1:cells.all (·.oneCell')=true)
  (h:K (a.put o.dst undef) (w.setCells b 0 cells.toList)):if Region.wanted o (yielded ops a.tmps)=true then Oper.wp P o a w K Q else E:=by
 have hw:Region.wanted o (yielded ops a.tmps)=true:=by simp[Region.wanted,hgd]
 rw[if_pos hw];exact wp_store_mid ty x y ho b 0 cells hx hy ht hi h1 h
theorem setL_all9: ∀(l m:List Value),l.length=9->m.length=9->setL l 0 m=m
 | [_,_,_,_,_,_,_,_,_],[_,_,_,_,_,_,_,_,_],_,_=>rfl
theorem Blk.set9 {w:World} {g:Nat} {t:TypeId} {cs:Array Value} (h:Blk w g t cs) (hc:cs.size=9) (a0 a1 a2 a3 a4 a5 a6 a7 a8:Value):Blk (((((((((w.setCell ⟨g,0,none⟩ a0).setCell ⟨g,1,none⟩ a1).setCell ⟨g,2,none⟩ a2).setCell ⟨g,3,none⟩ a3).setCell ⟨g,4,none⟩ a4).setCell ⟨g,5,none⟩ a5).setCell ⟨g,6,none⟩ a6).setCell ⟨g,7,none⟩ a7).setCell ⟨g,8,none⟩ a8) g t #[a0,a1,a2,a3,a4,a5,a6,a7,a8]:=by
 have h9:=(((((((((h.set 0 a0).set 1 a1).set 2 a2).set 3 a3).set 4 a4).set 5 a5).set 6 a6).set 7 a7).set 8 a8);have e: ∀l:List Value,l.length=9->(((((((((l.toArray.setIfInBounds 0 a0).setIfInBounds 1 a1).setIfInBounds 2 a2).setIfInBounds 3 a3).setIfInBounds 4 a4).setIfInBounds 5 a5).setIfInBounds 6 a6).setIfInBounds 7 a7).setIfInBounds 8 a8)=#[a0,a1,a2,a3,a4,a5,a6,a7,a8]:=fun l hl=>by
  match l,hl with
  | [c0,c1,c2,c3,c4,c5,c6,c7,c8],_=>simp only[List.setIfInBounds_toArray,List.set_cons_zero,List.set_cons_succ]
 have e2:=e cs.toList (by rw[Array.length_toList,hc]);rw[Array.toArray_toList]at e2;rw[e2]at h9;exact h9
theorem below_set9 {w W:World} {n g:Nat} (h:Below n w W) (hg:n<=g) (a0 a1 a2 a3 a4 a5 a6 a7 a8:Value):Below n w (((((((((W.setCell ⟨g,0,none⟩ a0).setCell ⟨g,1,none⟩ a1).setCell ⟨g,2,none⟩ a2).setCell ⟨g,3,none⟩ a3).setCell ⟨g,4,none⟩ a4).setCell ⟨g,5,none⟩ a5).setCell ⟨g,6,none⟩ a6).setCell ⟨g,7,none⟩ a7).setCell ⟨g,8,none⟩ a8):=(((((((((h.setCell (p:=⟨g,0,none⟩) hg _).setCell (p:=⟨g,1,none⟩) hg _).setCell (p:=⟨g,2,none⟩) hg _).setCell (p:=⟨g,3,none⟩) hg _).setCell (p:=⟨g,4,none⟩) hg _).setCell (p:=⟨g,5,none⟩) hg _).setCell (p:=⟨g,6,none⟩) hg _).setCell (p:=⟨g,7,none⟩) hg _).setCell (p:=⟨g,8,none⟩) hg _)
theorem other_set9 {W:World} {g k:Nat} (hk:k≠g) (a0 a1 a2 a3 a4 a5 a6 a7 a8:Value):(((((((((W.setCell ⟨g,0,none⟩ a0).setCell ⟨g,1,none⟩ a1).setCell ⟨g,2,none⟩ a2).setCell ⟨g,3,none⟩ a3).setCell ⟨g,4,none⟩ a4).setCell ⟨g,5,none⟩ a5).setCell ⟨g,6,none⟩ a6).setCell ⟨g,7,none⟩ a7).setCell ⟨g,8,none⟩ a8).heap[k]? =W.heap[k]? :=by
 rw[heap_setCell_other _ ⟨g,8,none⟩ k _ hk,heap_setCell_other _ ⟨g,7,none⟩ k _ hk,heap_setCell_other _ ⟨g,6,none⟩ k _ hk,heap_setCell_other _ ⟨g,5,none⟩ k _ hk,heap_setCell_other _ ⟨g,4,none⟩ k _ hk,heap_setCell_other _ ⟨g,3,none⟩ k _ hk,heap_setCell_other _ ⟨g,2,none⟩ k _ hk,heap_setCell_other _ ⟨g,1,none⟩ k _ hk,heap_setCell_other _ ⟨g,0,none⟩ k _ hk]
theorem size_set9 {W:World} {g:Nat} (a0 a1 a2 a3 a4 a5 a6 a7 a8:Value):(((((((((W.setCell ⟨g,0,none⟩ a0).setCell ⟨g,1,none⟩ a1).setCell ⟨g,2,none⟩ a2).setCell ⟨g,3,none⟩ a3).setCell ⟨g,4,none⟩ a4).setCell ⟨g,5,none⟩ a5).setCell ⟨g,6,none⟩ a6).setCell ⟨g,7,none⟩ a7).setCell ⟨g,8,none⟩ a8).heap.size=W.heap.size:=by simp
theorem Blk.far9 {W:World} {g B:Nat} {t:TypeId} {cs:Array Value} (h:Blk W B t cs) (hne:B≠g) (a0 a1 a2 a3 a4 a5 a6 a7 a8:Value):Blk (((((((((W.setCell ⟨g,0,none⟩ a0).setCell ⟨g,1,none⟩ a1).setCell ⟨g,2,none⟩ a2).setCell ⟨g,3,none⟩ a3).setCell ⟨g,4,none⟩ a4).setCell ⟨g,5,none⟩ a5).setCell ⟨g,6,none⟩ a6).setCell ⟨g,7,none⟩ a7).setCell ⟨g,8,none⟩ a8) B t cs:=(other_set9 hne _ _ _ _ _ _ _ _ _).trans h
structure RdE (D:Bool) (w:World) (B N:Nat) (y:St) (sv:Value) (W:World):Prop where
 below:Below w.heap.size w W
 res: ∃l:List Value,l.length=9/\Blk W w.heap.size 47 l.toArray/\(D=true->l.toArray=stC y sv)
 x:Blk W B 47 (stC y sv)
 ns:NodesIn W (fun c=>w.heap.size<c/\c≠B/\c<N) y.job.nodes sv
 hB:w.heap.size<B
 hN:N<=W.heap.size
namespace RdE
variable {D:Bool} {w W W':World} {B N:Nat} {y:St} {sv:Value}
theorem bl (h:RdE D w B N y sv W) (hb:Below W.heap.size W W'):RdE D w B N y sv W':=by
 obtain⟨l,hl,hr,hd⟩:=h.res;exact⟨h.below.trans (hb.mono h.below.size),⟨l,hl,hr.below hb hr.lt,hd⟩,h.x.below hb h.x.lt,h.ns.keep (fun _ k=>k) fun b k=>hb.block b (lt1 k.2.2 h.hN),h.hB,le1 h.hN hb.size⟩
theorem below_setCells {n:Nat} {a:World} (b:Nat) (hb:n<=b): ∀(vs:List Value) (o:Nat) (w:World),Below n a w->Below n a (w.setCells b o vs)
 | [],_,_,h=>h
 |v::vs,o,w,h=>below_setCells b hb vs (o+1) _ (h.setCell (p:=⟨b,o,none⟩) hb v)
end RdE
theorem roRead_c (k:Nat) (hk0:0<k) (hk1:k<256) (s:ByteArray) (hs:s.size<=140737488355328) (w:World):Calls prog 44 #[.int .u8 (k:Int),.string s] w (ReadP k s w):=by
 go_enter func44,ntmps44
 go_upto_region 2 with fail
 have hR0:RdR w s s [] ((w.alloc (.cells zeroC 47)).alloc (.cells (numC []).toArray 134)):=
  ⟨RdN.start s,two_below w _ _ _ _,(Blk.new w _ _).alloc _,Blk.new_at _ _ _ (by simp)⟩
 unfold zeroC at hR0;simp only[numC,List.map_nil,List.length_nil,Nat.sub_zero,List.replicate,List.nil_append]at hR0;generalize World.alloc (World.alloc w _) _=W0 at*
 go_upto_region 4 with fail
 go_loopw [7,17] (fun t7 q wr=> ∃(l:List Int) (u:ByteArray),q= .int .i64 (l.length:Int)/\t7= .string u/\RdR w s u l wr) (fun _ q _=>6-(intOf q).toNat)
 case atStart=>exact⟨[],s,rfl,rfl,hR0⟩
 case round=>
  obtain⟨l,u,rfl,rfl,hR⟩:=hrel;have hrd:=hR.rd;by_cases hl:l.length<6
  ·have HRD:=Lh hrd;have hul:=hrd.2.2.1;have HTK:Hd (∀W:World,Calls prog 75 #[.string u] W fun e w'=>e= .returned (.tuple #[.int .i64 (takeS u).1,.int .i64 (takeS u).2.1,.int .i64 (takeS u).2.2])/\W=w'):=fun W=>Take_c u (by omega) W;obtain⟨m,hm,hmu,hz1,hz2⟩:=takeS_size u;have hl6i:(l.length:Int)<6:=by omega
   by_cases he:(takeS u).2.2=0
   ·have HM:=Lh (hrd.more hl he ⟨hz1,hz2⟩ m hm);rw[he,hm]at HTK;generalize (takeS u).1=z at*;have hNn:=hR.nums;have hnc:(numC l)[l.length]? =some (.int .i64 0):=by
     unfold numC;rw[List.getElem?_append_right (by simp),List.length_map,Nat.sub_self,show 6-l.length=(6-(l.length+1))+1 by omega,List.replicate_succ];rfl
    have cn:wr.cell? ⟨w.heap.size+1,l.length,none⟩=some (.int .i64 0):=by rw[hNn.cell,List.getElem?_toArray];exact hnc
    have fn:=hNn.free l.length;have hmi:(m:Int)<=(u.size:Int):=by omega
    have hm0:(0:Int)<=(m:Int):=by omega
    have hln:=hNn.lt;have HRR:=Lh hR;have HSET:=Lh (numC_set l hl z);have hl0:(0:Int)<=(l.length:Int):=by omega
    clear hR hrd he hm hNn hnc hz1 hz2;generalize hll:l.length=i at*;have HLL:=Lh hll;clear hll
    go_upto_region 9 with (first|(go_at_call 75;refine(HTK.o _).mono ?_;rintro e w1 ⟨rfl,rfl⟩)|fail)
    go_region
    all_goals
     go_wp2_with fail
     go_roundw
     case rel=>
      refine⟨l++ [z],u.extract m u.size,by rw[la0,HLL.o];go_num,rfl,HM.o,(HRR.o.below.setCell (p:=⟨w.heap.size+1,i,none⟩) (Nat.le_succ _) _).drew,(HRR.o.res.other (p:=⟨w.heap.size+1,i,none⟩) (by show w.heap.size≠w.heap.size+1;omega) _).drew,?_⟩;have:=(HRR.o.nums.set i (.int .i64 z)).drew;rw[List.setIfInBounds_toArray,HSET.o]at this;exact this
     case measure=>simp[intOf];omega
   ·have HBAD:=Lh (hrd.bad hl he);have HRR:=Lh hR;have hres:=hR.res;have HTH:Hd (wr.there w.heap.size 0 9):=fun j hj=>⟨by rw[hR.res.cell,Nat.zero_add];simp[zeroC,hj],hR.res.free _⟩;rcases hts:takeS u with ⟨tz,tm,te⟩;rw[hts]at he;simp only[hts]at HTK;have d2:(te !=0)=true:=by simpa using he
    clear hR hrd he hts hz1 hz2 hm hmu
    go_upto_region 8 with (first|(go_at_call 75;refine(HTK.o _).mono ?_;rintro e w1 ⟨rfl,rfl⟩)|fail)
    obtain⟨r0,r1,r2,r3,r4,r5,r6,r7,r8⟩:=hres.q9;obtain⟨q0,q1,q2,q3,q4,q5,q6,q7,q8⟩:=hres.u9;have HRES:=Lh hres;unfold zeroC at r0 r1 r2 r3 r4 r5 r6 r7 r8;clear hres HTH
    go_wp2_with fail
    refine bodyPost_ret (v:= .tuple #[.agg #[_,_,_,_,_,_,_,_,_],.bool false]) (results_cell_row2P rfl _ _ w.heap.size 47 _ (0,0) _ rfl (Blk.set9 HRES.o rfl _ _ _ _ _ _ _ _ _) underlying47 rfl ?_ (.bool false) rfl) rfl ⟨⟨0,0,0,0,⟨0,[]⟩,0,0,0⟩,none,0,0,false,rfl,below_set9 HRR.o.below le0 _ _ _ _ _ _ _ _ _,?_⟩
    ·kernel_rfl
    ·have:readSt k s=none:=by unfold readSt;rw[HBAD.o]
     rw[this]
  ·have hl6:l.length=6:=by have:=hrd.1;omega
   have htk:=Lh (hrd.done hl6);have hi6:=hrd.2.2.2;have hNn:=hR.nums;rw[numC_full l hl6]at hNn;obtain⟨hn0,hn1,hn2,hn3,hn4,hn5⟩:=hNn.q6;have hus:=hrd.2.2.1;have HRR:=Lh hR;have HOK:Hd (∀j:Jb,j.ok->(stOf k l j).Ok):=fun j hj=>stOf_ok hk1 hi6 hj;have HRS:Hd (readSt k s=(if(stOf k l (if k=1 then(takeJ (takeT u).1).1 else⟨0,[]⟩)).mayB=true/\(stOf k l (if k=1 then(takeJ (takeT u).1).1 else⟨0,[]⟩)).text=s then some (stOf k l (if k=1 then(takeJ (takeT u).1).1 else⟨0,[]⟩))else none)):=by
    show _=_;unfold readSt;rw[htk.o]
   have HST:Hd (∀j sv,stC (stOf k l j) sv=#[.int .u8 (k:Int),.int .i64 (l.getD 0 0),.int .i64 (l.getD 1 0),.int .i64 (l.getD 2 0),.int .i64 j.par,sv,.int .i64 (l.getD 3 0),.int .i64 (l.getD 4 0),.int .i64 (l.getD 5 0)]):=fun j sv=>rfl;have HJOB:Hd (∀j,(stOf k l j).job=j):=fun j=>rfl;have HKD:Hd (∀j,(stOf k l j).kind=k):=fun j=>rfl;generalize stOf k l=F at*;generalize l.getD 0 0=z0 at*;generalize l.getD 1 0=z1 at*;generalize l.getD 2 0=z2 at*;generalize l.getD 3 0=z3 at*;generalize l.getD 4 0=z4 at*;generalize l.getD 5 0=z5 at*;clear hrd hR hi6 hNn hl;have hl6':((l.length:Nat):Int)=6:=by omega
   rw[hl6'];clear hl6';have hJ0:Hd (RdE false w wr.heap.size wr.heap.size (F ⟨0,[]⟩) (.slice none 0 0) (wr.alloc (.cells #[.int .u8 (k:Int),.int .i64 z0,.int .i64 z1,.int .i64 z2,.int .i64 0,.slice none 0 0,.int .i64 z3,.int .i64 z4,.int .i64 z5] 47))):=by
    have hbw:=HRR.o.below.size;have h1:=HRR.o.res.lt;refine⟨HRR.o.below.alloc hbw _,⟨zeroL,rfl,HRR.o.res.alloc _,fun e=>absurd e (by decide)⟩,?_,?_,h1,by simp⟩
    ·rw[HST.o];exact Blk.new wr _ _
    ·rw[HJOB.o];exact NodesIn.nil _ _
   have hBB:w.heap.size<wr.heap.size:=HRR.o.res.lt
   go_upto_region 12 with fail
   generalize World.alloc wr _=W0 at*;generalize wr.heap.size=B at*;clear hn0 hn1 hn2 hn3 hn4 hn5;obtain⟨J,hJJ⟩: ∃J,(if k=1 then(takeJ (takeT u).1).1 else(⟨0,[]⟩:Jb))=J:=⟨_,rfl⟩;rw[hJJ]at HRS;have hJok:J.ok:=by
    rw[<-hJJ];split
    ·exact takeJ_ok _
    ·exact⟨by decide,by decide,by simp⟩
   have HJK:=Lh hJok;have HJJ:=Lh hJJ;clear hJJ hJok
   go_upto_if 51 with fail
   go_cut [13,14,15] (fun s13 s14 s15 wx=> ∃sa sn sc,RdE false w B wx.heap.size (F J) (.slice sa sn sc) wx)
   case first=>
    by_cases hk:k=1
    ·have hkb:((k:Int)==1)=true:=by rw[beq_iff_eq];omega
     have HTT:=Lh (TakeText_c u (by omega));have hts:=takeT_small u;have hjj:=HJJ.o;rw[if_pos hk]at hjj;generalize takeT u=tt at*;obtain⟨t,tm,te⟩:=tt;dsimp only at hts HTT hjj;have HPT:=Lh (fun W=>packTake_c t (by omega) W);unfold TakeJPost at HPT;generalize takeJ t=tj at*;obtain⟨j,je⟩:=tj;dsimp only at HPT hjj;subst hjj;have hx:=hJ0.o.x;rw[HST.o]at hx;clear HRS HJJ hk
     go_upto_region 14 with (first|(go_at_call 76;refine(HTT.o _).mono ?_;rintro e w1 ⟨rfl,rfl⟩)|fail)
     go_wp2_with (first|(go_at_call 77;refine(HPT.o _).mono ?_;rintro e w2 ⟨v2,rfl,⟨sv2,rfl,hn2⟩,hb2⟩;obtain⟨a2,c2,rfl,_,_⟩:=hn2.slice;have hx2:=hx.below hb2 hx.lt;have x4:=hx2.cell 4;have x5:=hx2.cell 5;have y4:=hx2.free 4;have y5:=hx2.free 5)|fail)
     go_meet;have h2:=hJ0.o.bl hb2;obtain⟨rl,hrl,hrb,_⟩:=h2.res;have hne:w.heap.size≠B:=by omega
     have hBl:=hJ0.o.x.lt;refine⟨a2,j.nodes.length,c2,(h2.below.setCell (p:=⟨B,4,none⟩) (by show w.heap.size<=B;omega) _).setCell (p:=⟨B,5,none⟩) (by show w.heap.size<=B;omega) _,⟨rl,hrl,(hrb.other (p:=⟨B,4,none⟩) hne _).other (p:=⟨B,5,none⟩) hne _,fun e=>absurd e (by decide)⟩,?_,?_,hBB,le0⟩
     ·rw[HST.o];exact(hx2.set 4 _).set 5 _
     ·rw[HJOB.o];exact hn2.keep (fun c q=>⟨by omega,by omega,by simpa using q.2⟩) (fun c q=>(heap_setCell_other _ ⟨B,5,none⟩ c _ (by show c≠B;omega)).trans (heap_setCell_other _ ⟨B,4,none⟩ c _ (by show c≠B;omega)))
    ·have hkb:((k:Int)==1)=false:=by rw[bq0];omega
     have hjj:=HJJ.o;rw[if_neg hk]at hjj;subst hjj
     go_wp2_with fail
     go_meet;have:=hJ0.o;exact⟨none,0,0,⟨this.below,this.res,this.x,this.ns.keep (fun c q=>⟨q.1,q.2.1,lt1 q.2.2 this.hN⟩) (fun _ _=>rfl),this.hB,le0⟩⟩
   case rest=>
   obtain⟨sa,sn,sc,hJ⟩:=hcut;obtain⟨rl,hrl,hrb,_⟩:=hJ.res;obtain⟨e0,e1,e2,e3,e4,e5,e6,e7,e8,rfl⟩: ∃e0 e1 e2 e3 e4 e5 e6 e7 e8,rl=[e0,e1,e2,e3,e4,e5,e6,e7,e8]:=by
    match rl,hrl with
    | [e0,e1,e2,e3,e4,e5,e6,e7,e8],_=>exact⟨e0,e1,e2,e3,e4,e5,e6,e7,e8,rfl⟩
   have hxb:=hJ.x;have hOK:=HOK.o J HJK.o;have HY:Hd (∀W,(∀c,w.heap.size<c/\c≠B/\c<wc.heap.size->W.heap[c]? =wc.heap[c]?)->wc.heap.size<=W.heap.size->StIn W (fun c=>w.heap.size<c/\c≠B/\c<wc.heap.size) (.agg (stC (F J) (.slice sa sn sc))) (F J)):=
    fun W hk hs=>⟨_,rfl,hJ.ns.keep (fun _ k=>k) hk⟩
   have HM:Hd (∀W,(∀c,w.heap.size<c/\c≠B/\c<wc.heap.size->W.heap[c]? =wc.heap[c]?)->wc.heap.size<=W.heap.size->CB prog 14 #[.agg (stC (F J) (.slice sa sn sc))] W (.bool (F J).mayB)):=
    fun W hk hs=>roMay_c (F J) hOK _ W _ (HY.o W hk hs) (fun b q=>lt1 q.2.2 hs)
   have HT:Hd ((F J).mayB=true-> ∀W,(∀c,w.heap.size<c/\c≠B/\c<wc.heap.size->W.heap[c]? =wc.heap[c]?)->wc.heap.size<=W.heap.size->CB prog 55 #[.agg (stC (F J) (.slice sa sn sc))] W (.string (F J).text)):=
    fun hm W hk hs=>roText_c (F J) hOK hm _ W _ (HY.o W hk hs) (fun b q=>lt1 q.2.2 hs)
   rw[HST.o]at hxb;simp only[HST.o]at HM HT;have HBL:=Lh hJ.below;have HNS:=Lh hJ.ns;have HHB:=Lh hJ.hB;have HRB:=Lh hrb;have HXB:=Lh hxb;clear HJJ hrl hJ HY hJ0;generalize hFM:(F J).mayB=fm at*;have HFM:=Lh hFM;clear hFM;have hk0: ∀c,w.heap.size<c/\c≠B/\c<wc.heap.size->wc.drew.heap[c]? =wc.heap[c]? :=fun _ _=>rfl;have HM0:=Lh (HM.o wc.drew (fun _ _=>rfl) le0);obtain⟨r0,r1,r2,r3,r4,r5,r6,r7,r8⟩:=hrb.q9;obtain⟨q0,q1,q2,q3,q4,q5,q6,q7,q8⟩:=hrb.u9;obtain⟨x0,x1,x2,x3,x4,x5,x6,x7,x8⟩:=hxb.q9;clear hrb hxb
   cases fm
   ·go_upto_region 15 with fail
    refine wp_region_held_drew (S:=(fun w'=>Blk w' B 47 #[.int .u8 (k:Int),.int .i64 z0,.int .i64 z1,.int .i64 z2,.int .i64 J.par,.slice sa sn sc,.int .i64 z3,.int .i64 z4,.int .i64 z5])) (by kernel_rfl) ?_ (fun hHeld=>tk0 ?_)
    ·exact HXB.o
    repeat' first
     |refine tkN ?_
     |(refine tkX ?_;try simp only[Act.put,tkA,tkB,tkC,tkD,tkE,tkF])
     |(refine tkt (v:=?_) (by decide+kernel) rfl (by rfl) (fun _ _ _ h=>h) (by assumption) ?_ ?_;rotate_left;(· intro w' hSw;(try dsimp only at hSw);obtain⟨l0,l1,l2,l3,l4,l5,l6,l7,l8⟩:=hSw.q9;clear hSw;go_simp;(try with_reducible rfl));try simp only[Act.put,tkA,tkB,tkC,tkD,tkE,tkF])
     |refine tkM ?_
     |refine tkZ ?_
     |refine tkB1 ?_
     |refine brN ?_
     |exact brE
     |refine brc rfl (fun K hK=>?_) ?_
     |(replace hK:=hK;go_simp;go_at_call 14;refine HM0.o.mono ?_;rintro e w5 ⟨rfl,hb5⟩;have hr5:=HRB.o.drew.below hb5 HRB.o.lt;obtain⟨r0,r1,r2,r3,r4,r5,r6,r7,r8⟩:=hr5.q9;obtain⟨q0,q1,q2,q3,q4,q5,q6,q7,q8⟩:=hr5.u9;refine hK.out _ _ ?_ (fun hHeld=>?_);(· exact HXB.o.drew.below hb5 HXB.o.lt);clear hK K;try simp only[Act.put,tkA,tkB,tkC,tkD,tkE,tkF])
     |(replace hK:=hK;refine opIs 2 (by decide+kernel) ?_;go_simp;refine hK.out _ _ ?_ (fun hHeld=>?_);(· exact Blk.far9 hHeld (by omega) _ _ _ _ _ _ _ _ _);clear hK K;try simp only[Act.put,tkA,tkB,tkC,tkD,tkE,tkF])
     |fail
    all_goals
     try go_wp2_with fail
     refine bodyPost_ret (v:= .tuple #[.agg #[_,_,_,_,_,_,_,_,_],.bool false]) (results_cell_row2P rfl _ _ w.heap.size 47 _ (0,0) _ rfl (Blk.set9 hr5 rfl _ _ _ _ _ _ _ _ _) underlying47 rfl ?_ (.bool false) rfl) rfl ⟨F J,sa,sn,sc,false,by rw[HST.o],below_set9 (HBL.o.drew.trans (hb5.mono HBL.o.size)) le0 _ _ _ _ _ _ _ _ _,?_⟩
     ·kernel_rfl
     ·rw[HRS.o,if_neg (by simp)]
   ·generalize (F J).text=TX at*
    go_upto_region 15 with fail
    refine wp_region_held_drew (S:=(fun w'=>Blk w' B 47 #[.int .u8 (k:Int),.int .i64 z0,.int .i64 z1,.int .i64 z2,.int .i64 J.par,.slice sa sn sc,.int .i64 z3,.int .i64 z4,.int .i64 z5])) (by kernel_rfl) ?_ (fun hHeld=>tk0 ?_)
    ·exact HXB.o
    repeat' first
     |refine tkN ?_
     |(refine tkX ?_;try simp only[Act.put,tkA,tkB,tkC,tkD,tkE,tkF])
     |(refine tkt (v:=?_) (by decide+kernel) rfl (by rfl) (fun _ _ _ h=>h) (by assumption) ?_ ?_;rotate_left;(· intro w' hSw;(try dsimp only at hSw);obtain⟨l0,l1,l2,l3,l4,l5,l6,l7,l8⟩:=hSw.q9;clear hSw;go_simp;(try with_reducible rfl));try simp only[Act.put,tkA,tkB,tkC,tkD,tkE,tkF])
     |refine tkM ?_
     |refine tkZ ?_
     |refine tkB1 ?_
     |refine brN ?_
     |exact brE
     |refine brc rfl (fun K hK=>?_) ?_
     |(replace hK:=hK;go_simp;go_at_call 14;refine HM0.o.mono ?_;rintro e w5 ⟨rfl,hb5⟩;have HT5:=Lh (HT.o rfl w5 (fun c q=>hb5.block c q.2.2) hb5.size);refine hK.out _ _ ?_ (fun hHeld=>?_);(· exact HXB.o.drew.below hb5 HXB.o.lt);clear hK K;try simp only[Act.put,tkA,tkB,tkC,tkD,tkE,tkF])
     |(replace hK:=hK;go_simp;go_at_call 55;refine HT5.o.mono ?_;rintro e w6 ⟨rfl,hb6⟩;have hr5:=(HRB.o.drew.below hb5 HRB.o.lt).below hb6 (HRB.o.drew.below hb5 HRB.o.lt).lt;obtain⟨r0,r1,r2,r3,r4,r5,r6,r7,r8⟩:=hr5.q9;obtain⟨q0,q1,q2,q3,q4,q5,q6,q7,q8⟩:=hr5.u9;refine hK.out _ _ ?_ (fun hHeld=>?_);(· exact(HXB.o.drew.below hb5 HXB.o.lt).below hb6 (HXB.o.drew.below hb5 HXB.o.lt).lt);clear hK K;try simp only[Act.put,tkA,tkB,tkC,tkD,tkE,tkF])
     |(replace hK:=hK;refine opIs 2 (by decide+kernel) ?_;go_simp;refine hK.out _ _ ?_ (fun hHeld=>?_);(· exact Blk.far9 hHeld (by omega) _ _ _ _ _ _ _ _ _);clear hK K;try simp only[Act.put,tkA,tkB,tkC,tkD,tkE,tkF])
     |fail
    all_goals
     try go_wp2_with fail
     refine bodyPost_ret (v:= .tuple #[.agg #[_,_,_,_,_,_,_,_,_],.bool (TX.toList==s.toList)]) (results_cell_row2P rfl _ _ w.heap.size 47 _ (0,0) _ rfl (Blk.set9 hr5 rfl _ _ _ _ _ _ _ _ _) underlying47 rfl ?_ (.bool (TX.toList==s.toList)) rfl) rfl ⟨F J,sa,sn,sc,(TX.toList==s.toList),by rw[HST.o],below_set9 ((HBL.o.drew.trans (hb5.mono HBL.o.size)).trans (hb6.mono (le1 HBL.o.size hb5.size))) le0 _ _ _ _ _ _ _ _ _,?_⟩
     ·kernel_rfl
     ·rw[HRS.o];by_cases hts:TX=s
      ·rw[if_pos ⟨trivial,hts⟩];refine⟨by rw[hts];simp,rfl,HOK.o J HJK.o,HFM.o,?_⟩;refine HNS.o.keep (fun c q=>⟨by omega,by have:=hb5.size;have:=hb6.size;have:=q.2.2;show c<_;rw[size_set9];exact lt1 q.2.2 (le1 hb5.size hb6.size)⟩) (fun c q=>?_);rw[other_set9 (by omega)];exact(hb6.block c (lt1 q.2.2 hb5.size)).trans (hb5.block c q.2.2)
      ·rw[if_neg (fun h=>hts h.2),eql_dec,df0 hts]
