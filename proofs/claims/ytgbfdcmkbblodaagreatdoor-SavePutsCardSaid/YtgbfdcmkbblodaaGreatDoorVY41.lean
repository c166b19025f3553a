/- Parts. -/
import Derived.Deep.RegionHeld3
import Derived.Test.YtgbfdcmkbblodaaGreatDoorVW2
import Derived.Test.YtgbfdcmkbblodaaGreatDoorVY17
namespace Go.Proofs.YtgbfdcmkbblodaaGreatDoor
open Go.RowKit
set_option linter.unusedVariables false
set_option linter.unusedSimpArgs false
set_option maxRecDepth 100000
set_option maxHeartbeats 16000000
open Tryz
theorem results_cell_row2N {P:Program} {fn:Func} {p q:Tmp} {ty:TypeId} (h:fn.results=#[.cell p ty,.tmp q]) (tmps:Array Value) (w:World) (g:Nat) (t:TypeId) (cs:Array Value) (fr:Nat×Nat) (d:TypeDesc)
  (hp:tmps.getD p undef= .pointer (some ⟨g,0,none⟩)) (hg:w.heap[g]? =some (.cells cs t fr))
  (hu:P.underlying ty=some d) (hd:(match d with| .struct _| .array _ _=>true|_=>false)=true) (hi:(P.info? ty).map (·.size)=some cs.size) (u:Value) (hq:tmps.getD q undef=u):
  (results fn tmps).run P w= .ok (.tuple #[.agg cs,u]) w:=by
 have hp':tmps[p]?.getD undef= .pointer (some ⟨g,0,none⟩):=by simpa using hp
 have hq':tmps[q]?.getD undef=u:=by simpa using hq
 simp[results,h,hp',hq',asAddr,run_loadVar_row w g t ty cs fr d hg hu hd hi]
theorem Sl.drop {w:World} {B n:Nat} {b off cap:Nat} {cs:List Value} (h:Sl w B 1 (.slice (some ⟨b,off,none⟩) n cap) n cs) (k:Nat) (hk:k<=n):Sl w B 1 (.slice (some ⟨b,off+k,none⟩) (n-k) (cap-k)) (n-k) (cs.drop k):=by
 obtain⟨h1,a,cap',hv,h2,h3,h4⟩:=h;simp only[vs0,true_and]at hv;obtain⟨rfl,rfl⟩:=hv;refine⟨by simp;omega,_,cap-k,rfl,by omega,by omega,?_⟩;rcases h4 with h4|⟨b',off',he,hb,hc⟩
 ·exact .inl (by omega)
 ·simp only[Option.some.injEq,Addr.mk.injEq,and_true]at he;obtain⟨rfl,rfl⟩:=he;exact .inr ⟨b,off+k,rfl,hb,fun j hj=>by rw[Nat.add_assoc,hc (k+j) (by omega),List.getElem?_drop]⟩
theorem pNd_short (j:Jb) (l:List ByteArray) (h:l.length<2):pNd j l=none:=by
 match l,h with
 | [],_=>rfl
 | [a],_=>rfl
theorem Blk.set7N {w:World} {g:Nat} {t:TypeId} {cs:Array Value} (h:Blk w g t cs) (hc:cs.size=7) (a0 a1 a2 a3 a4 a5 a6:Value):Blk (((((((w.setCell ⟨g,0,none⟩ a0).setCell ⟨g,1,none⟩ a1).setCell ⟨g,2,none⟩ a2).setCell ⟨g,3,none⟩ a3).setCell ⟨g,4,none⟩ a4).setCell ⟨g,5,none⟩ a5).setCell ⟨g,6,none⟩ a6) g t #[a0,a1,a2,a3,a4,a5,a6]:=by
 have h7:=((((((h.set 0 a0).set 1 a1).set 2 a2).set 3 a3).set 4 a4).set 5 a5).set 6 a6;have e: ∀l:List Value,l.length=7->(((((((l.toArray.setIfInBounds 0 a0).setIfInBounds 1 a1).setIfInBounds 2 a2).setIfInBounds 3 a3).setIfInBounds 4 a4).setIfInBounds 5 a5).setIfInBounds 6 a6)=#[a0,a1,a2,a3,a4,a5,a6]:=fun l hl=>by
  match l,hl with
  | [c0,c1,c2,c3,c4,c5,c6],_=>simp only[List.setIfInBounds_toArray,List.set_cons_zero,List.set_cons_succ]
 have e2:=e cs.toList (by rw[Array.length_toList,hc]);rw[Array.toArray_toList]at e2;rw[e2]at h7;exact h7
theorem below_set7 {w W:World} {g:Nat} (h:Below w.heap.size w W) (hg:w.heap.size<=g) (a0 a1 a2 a3 a4 a5 a6:Value):Below w.heap.size w (((((((W.setCell ⟨g,0,none⟩ a0).setCell ⟨g,1,none⟩ a1).setCell ⟨g,2,none⟩ a2).setCell ⟨g,3,none⟩ a3).setCell ⟨g,4,none⟩ a4).setCell ⟨g,5,none⟩ a5).setCell ⟨g,6,none⟩ a6):=
 ((((((h.setCell (p:=⟨g,0,none⟩) hg _).setCell (p:=⟨g,1,none⟩) hg _).setCell (p:=⟨g,2,none⟩) hg _).setCell (p:=⟨g,3,none⟩) hg _).setCell (p:=⟨g,4,none⟩) hg _).setCell (p:=⟨g,5,none⟩) hg _).setCell (p:=⟨g,6,none⟩) hg _
def NodePost (j:Jb) (l:List ByteArray) (w:World) (e:Ending) (w':World):Prop:=
 Below w.heap.size w w'/\ ∃u k ia ic n m,e= .returned (.tuple #[.agg #[.string u,.int .u8 k,.slice ia n ic,.int .u8 0,.int .i64 0,.slice none 0 0,.int .i64 m],.bool (pNd j l).isSome])/\
  ∀d,pNd j l=some d->d.uid=u/\d.kind=k/\d.n=m/\d.x=Ex.zero/\InsP w' (fun b=>w.heap.size<=b/\b<w'.heap.size) d.ins (.slice ia n ic)
theorem post_none {j:Jb} {l:List ByteArray} {w w':World} (h:pNd j l=none) (hb:Below w.heap.size w w') (u k ia ic n m):
  NodePost j l w (.returned (.tuple #[.agg #[.string u,.int .u8 k,.slice ia n ic,.int .u8 0,.int .i64 0,.slice none 0 0,.int .i64 m],.bool false])) w':=by
 refine⟨hb,u,k,ia,ic,n,m,by rw[h];rfl,fun d hd=>?_⟩;rw[h]at hd;cases hd
structure NLoop (j:Jb) (w:World) (bx:Nat) (u:ByteArray) (kk mz:Int) (na:Option Addr) (ncap:Nat) (ws:List ByteArray) (i:Value) (wr:World):Prop where
 ex: ∃(q:Nat) (acc:List Int) (iv:Value),i= .int .i64 q/\q<=ws.length/\insGo j acc (ws.drop q)=insGo j [] ws/\acc.length=q/\wr.ownsRow (bx+1) 3 1 iv acc.length (acc.map (Value.int .i64))/\
  KB w wr [(bx,135,#[.string u,.int .u8 kk,iv,.int .u8 0,.int .i64 0,.slice none 0 0,.int .i64 mz]),(w.heap.size+1,135,#[.string {data:=#[]},.int .u8 0,.slice none 0 0,.int .u8 0,.int .i64 0,.slice none 0 0,.int .i64 0]),(w.heap.size,24,#[.int .i64 j.par,.slice na j.nodes.length ncap])]/\bx<wr.heap.size
theorem own_otherN {w:World} {base:Nat} {e:TypeId} {size n:Nat} {v:Value} {xs:List Value} (h:w.ownsRow base e size v n xs) {p:Addr} (hp:p.block<base) (u:Value):(w.setCell p u).ownsRow base e size v n xs:=by
 obtain⟨q1,q2⟩:=h;refine⟨q1,q2.imp id ?_⟩;rintro ⟨g,cap,cur,hv,hb,hg,r⟩;exact⟨g,cap,cur,hv,hb,(heap_setCell_other w p g u (fun e=>by subst e;omega)).trans hg,r⟩
theorem own_sliceN {w:World} {base:Nat} {e:TypeId} {size n:Nat} {v:Value} {xs:List Value} (h:w.ownsRow base e size v n xs): ∃a c,v= .slice a n c:=by
 rcases h.2 with ⟨rfl,h0⟩|⟨g,cap,cur,rfl,_⟩
 ·exact⟨none,0,by rw[h0]⟩
 ·exact⟨_,cap,rfl⟩
theorem InsP.monoN {w:World} {P Q:Nat->Prop} {l:List Int} {v:Value} (h:InsP w P l v) (hPQ: ∀b,P b->Q b):InsP w Q l v:=h.keep hPQ (fun _ _=>rfl)
theorem neB {n bx:Nat} {t1 t2:TypeId} {c1 c2:Array Value} (h:n+1<bx): ∀x∈ [(n+1,t1,c1),(n,t2,c2)],x.1≠bx:=fun x hx=>by
 simp only[List.mem_cons,List.not_mem_nil,or_false]at hx
 rcases hx with rfl|rfl<;>dsimp only<;>omega
theorem neG {n bx z:Nat} {t1 t2 t3:TypeId} {c1 c2 c3:Array Value} (h:n+1<bx) (hz:bx+1<=z):n<=z/\ ∀x∈ [(bx,t3,c3),(n+1,t1,c1),(n,t2,c2)],x.1≠z:=⟨by omega,fun x hx=>by
 simp only[List.mem_cons,List.not_mem_nil,or_false]at hx
 rcases hx with rfl|rfl|rfl<;>dsimp only<;>omega⟩
theorem KB.grownN {w0 w w':World} {L:List (Nat×TypeId×Array Value)} {row:Option Nat} (h:KB w0 w L) (hg:w.grownBy w' row) (hr: ∀q,row=some q->w0.heap.size<=q/\ ∀x∈L,x.1≠q):KB w0 w' L:=
 ⟨h.below.grown hg h.below.size (fun q hq=>(hr q hq).1),fun x hx=>(h.blk x hx).grown hg (fun e=>(hr _ e.symm).2 x hx rfl)⟩
theorem node_c (j:Jb) (l:List ByteArray) (vj vl:Value) (w:World) (hj:JbAt w w.heap.size vj j) (hl:Sl w w.heap.size 1 vl l.length (l.map Value.string)) (hu: ∀u∈l,u.size<=maxLen) (hn:l.length<=100000):
  Calls prog 181 #[vj,vl] w (NodePost j l w):=by
 obtain⟨nv,rfl,hns⟩:=hj;obtain⟨na,ncap,rfl,hnc,hnm⟩:=hns.slice;obtain⟨_,sa,scap,rfl,hsc,hsm,_⟩:=id hl;have HNS:=Lh hns;have HL:=Lh hl;clear hns hl;have hk0:=((KB.start w).push #[.int .i64 j.par,.slice na j.nodes.length ncap] 24).pushN (w.heap.size+1) (by simp) #[.string {data:=#[]},.int .u8 0,.slice none 0 0,.int .u8 0,.int .i64 0,.slice none 0 0,.int .i64 0] 135;have HK0:=Lh hk0;clear hk0;have hz0:((w.alloc (.cells #[.int .i64 j.par,.slice na j.nodes.length ncap] 24)).alloc (.cells #[.string {data:=#[]},.int .u8 0,.slice none 0 0,.int .u8 0,.int .i64 0,.slice none 0 0,.int .i64 0] 135)).heap.size=w.heap.size+2:=by simp
 go_enter func181,ntmps181
 go_upto_region 1 with fail
 generalize World.alloc _ _=W0 at*
 go_upto_region 2 with (go_at_call 213;refine(kwords_c _).mono ?_;rintro e w1 ⟨rfl,hb1⟩)
 have hk1:=(HK0.o.keep hb1).pushN w1.heap.size rfl #[.string {data:=#[]},.string {data:=#[115,111,117,114,99,101]},.string {data:=#[109,97,112]},.string {data:=#[102,105,108,116,101,114]},.string {data:=#[102,108,97,116]},.string {data:=#[107,101,121]},.string {data:=#[114,101,100,117,99,101]},.string {data:=#[119,105,110,100,111,119]},.string {data:=#[117,110,105,111,110]},.string {data:=#[115,105,110,107]}] 274;have HK1:=Lh hk1;have hz1:w.heap.size+2<=w1.heap.size:=by have:=hb1.size;omega
 have hz1':(w1.alloc (.cells #[.string {data:=#[]},.string {data:=#[115,111,117,114,99,101]},.string {data:=#[109,97,112]},.string {data:=#[102,105,108,116,101,114]},.string {data:=#[102,108,97,116]},.string {data:=#[107,101,121]},.string {data:=#[114,101,100,117,99,101]},.string {data:=#[119,105,110,100,111,119]},.string {data:=#[117,110,105,111,110]},.string {data:=#[115,105,110,107]}] 274)).heap.size=w1.heap.size+1:=by simp
 clear hk1 hb1 HK0;generalize World.alloc w1 _=W1 at*;generalize w1.heap.size=bw at*;have hsz:W0.heap.size<=bw:=by omega
 generalize hN:l.length=n at*;obtain⟨r0,r1,r2,r3,r4,r5,r6⟩:=HK1.o.tl.hd.q7;obtain⟨q0,q1,q2,q3,q4,q5,q6⟩:=HK1.o.tl.hd.u7;by_cases h2:n<2
 ·have h2':(n:Int)<2:=by omega
  have HP:=Lh (pNd_short j l (by omega));go_wp2;refine bodyPost_ret (v:= .tuple #[.agg #[_,_,_,_,_,_,_],.bool false]) (results_cell_row2N rfl _ _ (w.heap.size+1) 135 _ (0,0) _ rfl (Blk.set7N HK1.o.tl.hd rfl _ _ _ _ _ _ _) underlying135 rfl ?_ (.bool false) rfl) rfl (post_none HP.o (below_set7 HK1.o.below (by omega) _ _ _ _ _ _ _) _ _ _ _ _ _)
  kernel_rfl
 ·have h2': ¬(n:Int)<2:=by omega
  clear r0 r1 r2 r3 r4 r5 r6 q0 q1 q2 q3 q4 q5 q6;obtain⟨u,k,r,rfl⟩: ∃u k r,l=u::k::r:=by
   match l,hN with
   | [],h=>simp at h;omega
   | [a],h=>simp at h;omega
   |a::b::c,_=>exact⟨a,b,c,rfl⟩
  have hn0:0<n:=by omega
  have hn1:(1:Int)<(n:Int):=by omega
  have hSl:=HL.o.below HK1.o.below;obtain⟨sb,so,sc,e1,hsb,hl0,c0⟩:=hSl.str 0 (by omega);obtain⟨_,_,_,e2,_,hl1,c1⟩:=hSl.str 1 (by omega);simp only[vs0,true_and]at e1;obtain⟨rfl,rfl⟩:=e1;simp only[vs0,true_and,Option.some.injEq,Addr.mk.injEq,and_true]at e2;obtain⟨⟨rfl,rfl⟩,rfl⟩:=e2;rw[Nat.add_zero]at c0;simp only[List.getElem_cons_zero,List.getElem_cons_succ]at c0 c1;have hWd:Sl W1 W1.heap.size 1 (.slice (some ⟨bw,0,none⟩) 10 10) 10 (wordL.map Value.string):=by
   refine⟨rfl,some ⟨bw,0,none⟩,10,rfl,le0,by unfold maxLen;omega,.inr ⟨bw,0,rfl,by omega,fun q hq=>?_⟩⟩;rw[Nat.zero_add,HK1.o.hd.cell q,<-Array.getElem?_toList];rfl
  have HWX:Hd (∀W,Below W1.heap.size W1 W->Sl W W1.heap.size 1 (.slice (some ⟨bw,0,none⟩) 10 10) 10 (wordL.map Value.string)):=fun W hb=>hWd.below hb;have HKO:=kindOf_le k;have HKE:Hd (kindOf k=max (idxZ (fun y=>decide (k=y)) wordL 0) 0):=rfl;clear hSl hl0 hl1 hWd
  go_upto_region 4 with fail
  go_cut [7] (fun s wx=> ∃bx,s= .pointer (some ⟨bx,0,none⟩)/\bw<bx/\KB w wx [(bx,135,#[.string u,.int .u8 (kindOf k),.slice none 0 0,.int .u8 0,.int .i64 0,.slice none 0 0,.int .i64 0]),(w.heap.size+1,135,#[.string {data:=#[]},.int .u8 0,.slice none 0 0,.int .u8 0,.int .i64 0,.slice none 0 0,.int .i64 0]),(w.heap.size,24,#[.int .i64 j.par,.slice na j.nodes.length ncap])]/\bx<wx.heap.size)
  case first=>
   have hsbW:sb<W1.heap.size:=by omega
   have hS0:Below W1.heap.size W1 W1.drew:=br0.drew;have HK2:=Lh HK1.o.tl.drew;obtain⟨z,hz⟩: ∃z,idxZ (fun y=>decide (k=y)) wordL 0=z:=⟨_,rfl⟩;have HIX:=Lh hz;have hzb:=idxZ_lt (fun y=>decide (k=y)) wordL 0;rw[hz,show wordL.length=10 from rfl]at hzb;rw[hz]at HKE;have HZ1:=Lh hz1';clear hz hz1';by_cases hz0:z<0
   ·obtain rfl:z= -1:=by have:=(idxZ_le (fun y=>decide (k=y)) wordL 0).1;rw[HIX.o]at this;omega
    have hw:IntKind.u8.wrap (max (-1) 0)=kindOf k:=by rw[HKE.o];decide
    have hb:=hS0;refine wp_region_held_drew (S:=(fun w'=>Below W1.heap.size W1 w')) (by kernel_rfl) ?_ (fun hHeld=>tk0 ?_)
    ·exact hb
    repeat' first
     |refine tkN ?_
     |(refine tkX ?_;try simp only[Act.put,tkA,tkB,tkC,tkD,tkE,tkF])
     |(refine tkt (v:=?_) (by decide+kernel) rfl (by rfl) (fun _ _ _ h=>h) (by assumption) ?_ ?_;rotate_left;(· intro w' hSw;(try dsimp only at hSw);have d0:=(hSw.cell (p:=⟨sb,so,none⟩) hsbW).trans c0;have d1:=(hSw.cell (p:=⟨sb,so+1,none⟩) hsbW).trans c1;clear hSw;go_simp;(try with_reducible rfl));try simp only[Act.put,tkA,tkB,tkC,tkD,tkE,tkF])
     |refine tkM ?_
     |refine tkZ ?_
     |refine tkB1 ?_
     |refine brN ?_
     |exact brE
     |refine brc rfl (fun K hK=>?_) ?_
     |(replace hK:=hK;go_simp;go_at_call 189;refine(IndexStr_c wordL 10 _ _ _ _ (HWX.o _ hb) rfl).mono ?_;rintro e w2 ⟨rfl,rfl⟩;rw[HIX.o];refine hK.out _ _ ?_ (fun hHeld=>?_);(· exact hb);clear hK K;try simp only[Act.put,tkA,tkB,tkC,tkD,tkE,tkF])
     |(replace hK:=hK;refine opIs 5 (by decide+kernel) ?_;go_simp;replace hb:=hb.alloc hb.size (.cells #[.string {data:=#[]},.int .u8 0,.slice none 0 0,.int .u8 0,.int .i64 0,.slice none 0 0,.int .i64 0] 135);refine hK.out _ _ ?_ (fun hHeld=>?_);(· exact hb);clear hK K;try simp only[Act.put,tkA,tkB,tkC,tkD,tkE,tkF])
     |(replace hK:=hK;refine opIs 2 (by decide+kernel) ?_;go_simp;refine hK.out _ _ ?_ (fun hHeld=>?_);(· exact hS0.alloc le0 _);clear hK K;try simp only[Act.put,tkA,tkB,tkC,tkD,tkE,tkF])
     |fail
    all_goals
     go_wp2_with fail
     go_meet;refine⟨W1.heap.size,rfl,by have:=HZ1.o;omega,?_,by simp⟩
     try rw[hw]
     exact(HK1.o.tl.pushN W1.heap.size rfl _ _).drew
   ·obtain⟨zn,rfl⟩: ∃m:Nat,z=(m:Int):=⟨z.toNat,by omega⟩;have hzn:zn<10:=by omega
    have hw:IntKind.u8.wrap (zn:Int)=kindOf k:=by
     rw[HKE.o,Int.max_eq_left (by omega)];have: ∀m:Nat,m<10->IntKind.u8.wrap (m:Int)=(m:Int):=by decide
     exact this zn hzn
    have hb:=hS0;refine wp_region_held_drew (S:=(fun w'=>Below W1.heap.size W1 w')) (by kernel_rfl) ?_ (fun hHeld=>tk0 ?_)
    ·exact hb
    repeat' first
     |refine tkN ?_
     |(refine tkX ?_;try simp only[Act.put,tkA,tkB,tkC,tkD,tkE,tkF])
     |(refine tkt (v:=?_) (by decide+kernel) rfl (by rfl) (fun _ _ _ h=>h) (by assumption) ?_ ?_;rotate_left;(· intro w' hSw;(try dsimp only at hSw);have d0:=(hSw.cell (p:=⟨sb,so,none⟩) hsbW).trans c0;have d1:=(hSw.cell (p:=⟨sb,so+1,none⟩) hsbW).trans c1;clear hSw;go_simp;(try with_reducible rfl));try simp only[Act.put,tkA,tkB,tkC,tkD,tkE,tkF])
     |refine tkM ?_
     |refine tkZ ?_
     |refine tkB1 ?_
     |refine brN ?_
     |exact brE
     |refine brc rfl (fun K hK=>?_) ?_
     |(replace hK:=hK;go_simp;go_at_call 189;refine(IndexStr_c wordL 10 _ _ _ _ (HWX.o _ hb) rfl).mono ?_;rintro e w2 ⟨rfl,rfl⟩;rw[HIX.o];refine hK.out _ _ ?_ (fun hHeld=>?_);(· exact hb);clear hK K;try simp only[Act.put,tkA,tkB,tkC,tkD,tkE,tkF])
     |(replace hK:=hK;refine opIs 5 (by decide+kernel) ?_;go_simp;replace hb:=hb.alloc hb.size (.cells #[.string {data:=#[]},.int .u8 0,.slice none 0 0,.int .u8 0,.int .i64 0,.slice none 0 0,.int .i64 0] 135);refine hK.out _ _ ?_ (fun hHeld=>?_);(· exact hb);clear hK K;try simp only[Act.put,tkA,tkB,tkC,tkD,tkE,tkF])
     |(replace hK:=hK;refine opIs 2 (by decide+kernel) ?_;go_simp;refine hK.out _ _ ?_ (fun hHeld=>?_);(· exact hS0.alloc le0 _);clear hK K;try simp only[Act.put,tkA,tkB,tkC,tkD,tkE,tkF])
     |fail
    all_goals
     go_wp2_with fail
     go_meet;refine⟨W1.heap.size,rfl,by have:=HZ1.o;omega,?_,by simp⟩
     try rw[hw]
     exact(HK1.o.tl.pushN W1.heap.size rfl _ _).drew
  case rest=>
   obtain⟨bx,rfl,hbx,hkb,hbl⟩:=hcut;have HK3:=Lh hkb;have hA:w.heap.size+1<bx:=by omega
   have hw0:w.heap.size<=wc.heap.size:=HK3.o.below.size;clear hkb HWX HK1 hz1' c0 c1;have hdr:=HL.o.drop 2 (by omega);have hnl:r.length=n-2:=by rw[<-hN];simp
   have hur: ∀x∈r,x.size<=maxLen:=fun x hx=>hu x (by simp[hx]);have HP0:Hd (ndTail (kindOf k) r=none->pNd j (u::k::r)=none):=fun h=>by unfold pNd;simp only[h]
   have HP1:Hd (∀q,ndTail (kindOf k) r=some q->insGo j [] q.2=none->pNd j (u::k::r)=none):=fun q h h2=>by unfold pNd;simp only[h,h2]
   have HP2:Hd (∀q is,ndTail (kindOf k) r=some q->insGo j [] q.2=some is->pNd j (u::k::r)=if kindOf k=0 then none else some ⟨u,kindOf k,is,Ex.zero,q.1⟩):=fun q is h h2=>by unfold pNd;simp only[h,h2]
   rw[List.map_cons,List.map_cons,List.drop_succ_cons,List.drop_succ_cons,List.drop_zero]at hdr;generalize kindOf k=kk at*;have HDR:=Lh hdr;have HNL:=Lh hnl;have HUR:=Lh hur;clear hdr hnl hur hu HL HKE hN
   go_upto_region 5 with fail
   go_cut [1] (fun s wx=> ∃ad c,s= .slice ad (n-2) c/\wc=wx/\Sl w w.heap.size 1 (.slice ad (n-2) c) (n-2) (r.map Value.string)/\n-2<=c)
   case first=>
    have h2i:(2:Int)<=(n:Int):=by omega
    by_cases hc2:scap=2
    ·obtain rfl:n=2:=by omega
     subst hc2
     go_wp2_with fail
     go_meet;refine⟨_,_,rfl,rfl,?_,le0⟩;have e:r=[]:=List.length_eq_zero_iff.1 HNL.o;subst e;exact⟨rfl,_,_,rfl,le0,ze0,.inl rfl⟩
    ·go_wp2_with fail
     go_meet;exact⟨_,_,rfl,rfl,HDR.o,by omega⟩
   case rest=>
    obtain⟨ad,lc,rfl,rfl,hl2,hlc⟩:=hcut;have HL2:=Lh hl2;clear hl2 HDR;obtain⟨m,hm⟩: ∃m,n-2=m:=⟨_,rfl⟩;rw[hm]at HL2 HNL hlc;rw[hm];have hmn:m<=100000:=by omega
    clear hm hn0 hn1 h2 h2' hsc hsm;have d1:=HK3.o.hd.cell 1;have HKK:=Lh HKO;have hk0:=HKO.1;have hk9:=HKO.2;clear HKO
    go_upto_if 33 with fail
    go_cut [1] (fun s wx=> ∃q ad c,ndTail kk r=some q/\s= .slice ad q.2.length c/\Sl w w.heap.size 1 (.slice ad q.2.length c) q.2.length (q.2.map Value.string)/\KB w wx [(bx,135,#[.string u,.int .u8 kk,.slice none 0 0,.int .u8 0,.int .i64 0,.slice none 0 0,.int .i64 q.1]),(w.heap.size+1,135,#[.string {data:=#[]},.int .u8 0,.slice none 0 0,.int .u8 0,.int .i64 0,.slice none 0 0,.int .i64 0]),(w.heap.size,24,#[.int .i64 j.par,.slice na j.nodes.length ncap])]/\bx<wx.heap.size/\(∀x∈q.2,x.size<=maxLen)/\q.2.length<=100000)
    case first=>
     by_cases h7:kk=7
     ·subst h7;by_cases hm0:m=0
      ·subst hm0;have HPN:=Lh (HP0.o (by unfold ndTail;rw[if_pos rfl,if_pos HNL.o]));obtain⟨r0,r1,r2,r3,r4,r5,r6⟩:=HK3.o.tl.hd.q7;obtain⟨q0,q1,q2,q3,q4,q5,q6⟩:=HK3.o.tl.hd.u7
       go_wp2_with fail
       refine bodyPost_ret (v:= .tuple #[.agg #[_,_,_,_,_,_,_],.bool false]) (results_cell_row2N rfl _ _ (w.heap.size+1) 135 _ (0,0) _ (by kernel_rfl) (Blk.set7N HK3.o.tl.hd rfl _ _ _ _ _ _ _) underlying135 rfl ?_ (.bool false) (by kernel_rfl)) rfl (post_none HPN.o (below_set7 HK3.o.below (Nat.le_succ _) _ _ _ _ _ _ _) _ _ _ _ _ _)
       kernel_rfl
      ·have hm1:0<m:=by omega
       obtain⟨sb2,so2,sc2,e2,hsb2,hl3,c3⟩:=(HL2.o.below HK3.o.below).str (m-1) (by omega);simp only[vs0,true_and]at e2;obtain⟨rfl,rfl⟩:=e2;have HT:Hd (ndTail 7 r=bif (numB r[m-1] 2).2 then some ((numB r[m-1] 2).1,r.take (m-1))else none):=by
        unfold Hd ndTail;rw[if_pos rfl,HNL.o,if_neg (by omega),List.getD_eq_getElem?_getD,List.getElem?_eq_getElem hl3,Option.getD_some]
       have hxs:(r[m-1]).size<=maxLen:=HUR.o _ (List.getElem_mem _);generalize r[m-1]=x at*;have HNUM:Hd (CB prog 180 #[.string x,.int .i64 2] wc (.tuple #[.int .i64 (numB x 2).1,.bool (numB x 2).2])):=snumber_c x 2 (by omega) wc hxs;generalize numB x 2=nb at*;obtain⟨nv,nok⟩:=nb;have hmm:(m:Int)<=100000:=by omega
       have hne:((m:Int)==0)=false:=by rw[bq0];omega
       have hm1i:(1:Int)<=(m:Int):=by omega
       have htn:((m:Int) -1).toNat=m-1:=by omega
       clear hm0
       go_wp2_with fail
       refine HNUM.o.mono ?_;rintro e w5 ⟨rfl,hb5⟩;have HK5:=Lh (HK3.o.keep hb5);have hbx5:bx<w5.heap.size:=by have:=hb5.size;omega
       clear c3 d1 HNUM hl3 hxs
       cases nok
       ·have HPN:=Lh (HP0.o HT.o);obtain⟨r0,r1,r2,r3,r4,r5,r6⟩:=HK5.o.tl.hd.q7;obtain⟨q0,q1,q2,q3,q4,q5,q6⟩:=HK5.o.tl.hd.u7
        go_wp2_with fail
        refine bodyPost_ret (v:= .tuple #[.agg #[_,_,_,_,_,_,_],.bool false]) (results_cell_row2N rfl _ _ (w.heap.size+1) 135 _ (0,0) _ (by kernel_rfl) (Blk.set7N HK5.o.tl.hd rfl _ _ _ _ _ _ _) underlying135 rfl ?_ (.bool false) (by kernel_rfl)) rfl (post_none HPN.o (below_set7 HK5.o.below (Nat.le_succ _) _ _ _ _ _ _ _) _ _ _ _ _ _)
        kernel_rfl
       ·have p6:=HK5.o.hd.cell 6;have f6:=HK5.o.hd.free 6;have hlcI:(m:Int)<=(lc:Int):=by omega
        go_upto_region 12 with fail
        go_region
        all_goals
         go_wp2_with fail
         go_meet;have hqs:(r.take (m-1)).length=m-1:=by rw[List.length_take,HNL.o];omega
         have hk6:=(HK5.o.set (Nat.le_of_lt (Nat.lt_of_succ_lt hA)) (neB hA) 6 (.int .i64 nv)).drew;have hlS:=HL2.o.take (m-1) (by omega);rw[<-List.map_take]at hlS;exact⟨(nv,r.take (m-1)),_,_,HT.o,by dsimp only;rw[hqs],by dsimp only;rw[hqs];exact hlS,hk6,by simpa using hbx5,fun x hx=>HUR.o x (List.mem_of_mem_take hx),by dsimp only;rw[hqs];omega⟩
     ·have h7b:(kk==7)=false:=by rw[bq0];exact h7
      have HT:Hd (ndTail kk r=some (0,r)):=by unfold Hd ndTail;rw[if_neg h7]
      go_wp2_with fail
      go_meet;exact⟨(0,r),ad,lc,HT.o,by rw[<-HNL.o],by rw[HNL.o];exact HL2.o,HK3.o,hbl,HUR.o,by dsimp only;rw[HNL.o];exact hmn⟩
    case rest=>
     clear HL2 HNL HUR HK3 d1;obtain⟨q,ad2,lc2,hq1,rfl,hl4,hk4,hb4,huq,hql⟩:=hcut;obtain⟨mz,ws⟩:=q;dsimp only at hl4 hk4 huq hql;have HQ:=Lh hq1;have HL4:=Lh hl4;have HK4:=Lh hk4;have HUQ:=Lh huq;have HWL:Hd (∃N,ws.length=N):=⟨_,rfl⟩;have hN0:Hd (ws.length=ws.length):=rfl;generalize hN:ws.length=N at*;have HN:=Lh hN;clear hN0 HWL hq1 hl4 hk4 huq hN;obtain⟨i0,hi,hz0i,hz1i,hz2i⟩:=info_parts info_intJ
     go_upto_region 14 with fail
     go_loopw [60] (fun i wr=>NLoop j w bx u kk mz na ncap ws i wr) (fun i _=>N-(intOf i).toNat)
     case atStart=>exact⟨0,[],.slice none 0 0,rfl,ze0,by simp,rfl,World.ownsRow_nil _ _ _ _,HK4.o,hb4⟩
     case round=>
      obtain⟨q,acc,iv,rfl,hqN,hgo,hal,hown,hkr,hbr⟩:=hrel.ex;clear hrel;have HKR:=Lh hkr;have HGO:=Lh hgo;have HAL:=Lh hal;rw[HN.o]at hqN;clear hkr hgo hal;have hwr:w.heap.size<=wr.heap.size:=HKR.o.below.size;have hqL:acc.length<=100000:=by rw[HAL.o];omega
      by_cases hlt:q<N
      ·obtain⟨sb4,so4,sc4,e4,hsb4,hlw,c4⟩:=(HL4.o.below HKR.o.below).str q hlt;simp only[vs0,true_and]at e4;obtain⟨rfl,rfl⟩:=e4;have HST:Hd (insGo j acc (ws.drop q)=if j.find ws[q]<0 then none else insGo j (acc++ [j.find ws[q]]) (ws.drop (q+1))):=by
        unfold Hd;rw[List.drop_eq_getElem_cons hlw];rfl
       generalize ws[q]=x at*;have j0:=HKR.o.tl.tl.hd.cell 0;have j1:=HKR.o.tl.tl.hd.cell 1;have HF:=Lh (Find_c j x (.agg #[.int .i64 j.par,.slice na j.nodes.length ncap]) w.heap.size wr ⟨_,rfl,HNS.o.keep HKR.o.below⟩ hwr);generalize j.find x=f at*
       go_wp2_with fail
       refine HF.o.mono ?_;rintro e w1 ⟨rfl,hb1⟩;have HK1:=Lh (HKR.o.keep hb1);have hown1:=own_keep hown hb1;have hbx1:bx<w1.heap.size:=by have:=hb1.size;omega
       clear j0 j1 c4 HF HKR hown;by_cases hf:f<0
       ·have HPN:=Lh (HP1.o _ HQ.o (by rw[<-HGO.o,HST.o,if_pos hf]));obtain⟨r0,r1,r2,r3,r4,r5,r6⟩:=HK1.o.tl.hd.q7;obtain⟨q0,q1,q2,q3,q4,q5,q6⟩:=HK1.o.tl.hd.u7;clear hown1
        go_wp2_with fail
        refine bodyPost_ret (v:= .tuple #[.agg #[_,_,_,_,_,_,_],.bool false]) (results_cell_row2N rfl _ _ (w.heap.size+1) 135 _ (0,0) _ (by kernel_rfl) (Blk.set7N HK1.o.tl.hd rfl _ _ _ _ _ _ _) underlying135 rfl ?_ (.bool false) (by kernel_rfl)) rfl (post_none HPN.o (below_set7 HK1.o.below (Nat.le_succ _) _ _ _ _ _ _ _) _ _ _ _ _ _)
        kernel_rfl
       ·rw[if_neg hf]at HST;have p2:=HK1.o.hd.cell 2;have hge: ∀z,iv.ownBlock=some z->bx+1<=z:=fun z hz=>(hown1.lt z hz).1;have HGE:=Lh hge;clear hge
        go_wp2_with (at_builtin;refine wpList_append_own _ rfl _ _ 130 rfl (bx+1) 3 i0 (.int .i64 0) 1 8 underlying130 hi hz0i hz1i hz2i rfl (by decide) iv acc.length (acc.map (Value.int .i64)) rfl (hown1.alloc _) ⟨w1.heap.size,0,none⟩ 1 1 [.int .i64 f] rfl rfl (cell_one_newJ _ _ _) (by simp[Value.oneCell']) (by unfold maxLen;omega) (by omega) (by simp;omega) ?_;intro v1' w2 hown2 hgrow _;obtain⟨g1,capg,rfl⟩:=owns_succ hown2;have HK2:=Lh ((HK1.o.grow (.cells #[.int .i64 f] 3)).grownN hgrow (fun z hz=>neG hA (HGE.o z hz)));have b2:=HK2.o.hd.cell 2;have g2:=HK2.o.hd.free 2;clear p2)
        go_roundw
        case rel=>
         have hk6:=HK2.o.set (Nat.le_of_lt (Nat.lt_of_succ_lt hA)) (neB hA) 2 (.slice (some ⟨g1,0,none⟩) (acc.length+1) capg);have hgs:=hgrow.size;simp at hgs;refine⟨q+1,acc++ [f],_,by go_num,by rw[HN.o];omega,by rw[<-HGO.o,HST.o],by simp[HAL.o],?_,hk6,by simp;omega⟩;rw[la0,List.map_append];exact own_otherN hown2 (p:=⟨bx,2,none⟩) (Nat.lt_succ_self _) _
        case measure=>simp[intOf];omega
      ·obtain rfl:q=N:=by omega
       have HGO2:Hd (insGo j [] ws=some acc):=by
        have h:=HGO.o;rw[List.drop_eq_nil_of_le (by rw[HN.o];exact le0)]at h;exact h.symm
       have HPN:=Lh (HP2.o _ _ HQ.o HGO2.o);obtain⟨r0,r1,r2,r3,r4,r5,r6⟩:=HKR.o.tl.hd.q7;obtain⟨q0,q1,q2,q3,q4,q5,q6⟩:=HKR.o.tl.hd.u7;obtain⟨p0,p1,p2,p3,p4,p5,p6⟩:=HKR.o.hd.q7;have HOW:=Lh hown;obtain⟨ia,ic,rfl⟩:=own_sliceN hown;clear hown;have HSET:=Lh (Blk.set7N HKR.o.tl.hd rfl (.string u) (.int .u8 kk) (.slice ia acc.length ic) (.int .u8 0) (.int .i64 0) (.slice none 0 0) (.int .i64 mz))
       go_upto_region 21 with fail
       have HO7:Hd ((((((((wr.setCell ⟨w.heap.size+1,0,none⟩ (.string u)).setCell ⟨w.heap.size+1,1,none⟩ (.int .u8 kk)).setCell ⟨w.heap.size+1,2,none⟩ (.slice ia acc.length ic)).setCell ⟨w.heap.size+1,3,none⟩ (.int .u8 0)).setCell ⟨w.heap.size+1,4,none⟩ (.int .i64 0)).setCell ⟨w.heap.size+1,5,none⟩ (.slice none 0 0)).setCell ⟨w.heap.size+1,6,none⟩ (.int .i64 mz)).ownsRow (bx+1) 3 1 (.slice ia acc.length ic) acc.length (acc.map (Value.int .i64))):=
        own_otherN (own_otherN (own_otherN (own_otherN (own_otherN (own_otherN (own_otherN HOW.o (p:=⟨w.heap.size+1,0,none⟩) (Nat.lt_succ_of_lt hA) _) (p:=⟨w.heap.size+1,1,none⟩) (Nat.lt_succ_of_lt hA) _) (p:=⟨w.heap.size+1,2,none⟩) (Nat.lt_succ_of_lt hA) _) (p:=⟨w.heap.size+1,3,none⟩) (Nat.lt_succ_of_lt hA) _) (p:=⟨w.heap.size+1,4,none⟩) (Nat.lt_succ_of_lt hA) _) (p:=⟨w.heap.size+1,5,none⟩) (Nat.lt_succ_of_lt hA) _) (p:=⟨w.heap.size+1,6,none⟩) (Nat.lt_succ_of_lt hA) _
       have HB7:=Lh (below_set7 HKR.o.below (g:=w.heap.size+1) (Nat.le_succ _) (.string u) (.int .u8 kk) (.slice ia acc.length ic) (.int .u8 0) (.int .i64 0) (.slice none 0 0) (.int .i64 mz));by_cases hk:kk=0
       ·rw[if_pos hk]at HPN;subst hk
        go_region
        go_wp2_with fail
        refine bodyPost_ret (v:= .tuple #[.agg #[_,_,_,_,_,_,_],.bool false]) (results_cell_row2N rfl _ _ (w.heap.size+1) 135 _ (0,0) _ (by kernel_rfl) HSET.o.drew underlying135 rfl ?_ (.bool false) (by kernel_rfl)) rfl (post_none HPN.o HB7.o.drew _ _ _ _ _ _)
        kernel_rfl
       ·rw[if_neg hk]at HPN;have hkb:(kk !=0)=true:=by rw[bne_iff_ne];exact hk
        go_region
        go_wp2_with fail
        refine bodyPost_ret (v:= .tuple #[.agg #[_,_,_,_,_,_,_],.bool true]) (results_cell_row2N rfl _ _ (w.heap.size+1) 135 _ (0,0) _ (by kernel_rfl) HSET.o.drew underlying135 rfl ?_ (.bool true) (by kernel_rfl)) rfl ⟨HB7.o.drew,u,kk,ia,ic,acc.length,mz,by rw[HPN.o];rfl,fun d hd=>?_⟩
        ·kernel_rfl
        ·rw[HPN.o]at hd
         cases hd
         refine⟨rfl,rfl,rfl,rfl,?_⟩;have hin:=InsP.of_own HO7.o.drew;exact hin.monoN (fun b hb=>⟨le1 (Nat.le_of_lt (Nat.lt_succ_of_lt (Nat.lt_of_succ_lt hA))) hb.1,hb.2⟩)
