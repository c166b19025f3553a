/- Parts. -/
import Derived.Test.YtgbfdcmkbblodaaGreatDoorVXa
import Derived.Test.YtgbfdcmkbblodaaGreatDoorVY22w
namespace Go.Proofs.YtgbfdcmkbblodaaGreatDoor
open Go.RowKit
set_option linter.unusedVariables false
set_option linter.unusedSimpArgs false
set_option maxRecDepth 100000
set_option maxHeartbeats 16000000
open Tryz
theorem tkGo_e: ∀(l:List UInt8) (i u:Nat),0<=(tkGo i u l).2.2
 | [],i,u=>by simp[tkGo]
 |c::l,i,u=>by
  unfold tkGo
  repeat' split
  ·decide
  ·exact tkGo_e l _ _
  ·decide
  ·exact Int.le_refl _
theorem takeS_e (s:ByteArray):0<=(takeS s).2.2:=tkGo_e _ _ _
theorem takeT_e (s:ByteArray):0<=(takeT s).2.2:=by
 unfold takeT
 repeat' split
 ·exact takeS_e s
 all_goals (dsimp only;decide)
theorem ite_e {P:Prop} [Decidable P] {x y:Nat×ByteArray×Int×Int} (hx:0<=x.2.2.2) (hy:0<=y.2.2.2):0<=(if P then x else y).2.2.2:=by
 by_cases h:P
 ·rw[if_pos h];exact hx
 ·rw[if_neg h];exact hy
theorem takeF_e (s:ByteArray):0<=(takeF s).2.2.2:=by
 by_cases h:s.size=0
 ·rw[takeF_zero s h];decide
 ·rw[takeF_at s (by omega)];exact ite_e (by decide) (ite_e (takeT_e _) (ite_e (by decide) (ite_e (by decide) (Int.le_refl _))))
theorem takeF_small (s:ByteArray):(takeF s).2.1.size<=65536:=by
 by_cases h:(takeF s).2.2.2=0
 ·exact(takeF_back s h).2.2.1
 ·rw[(takeF_err s h).2.1];decide
theorem takeT_few (s:ByteArray):(takeT s).1.size<=65536:=takeT_small s
namespace Rt
theorem mx_ge (a b:Int):a<=mx a b:=by unfold mx;split<;>omega
theorem next_size (p:Rt):p.next.text.size<=65536/\p.next.rest.size<=p.rest.size/\(p.e=0->p.next.e=0->p.next.rest.size+5<p.rest.size)/\p.e<=p.next.e:=by
 obtain⟨k,hk,hks,h5⟩:=takeF_le p.rest;refine⟨takeF_small _,?_,fun h0 h1=>?_,mx_ge _ _⟩
 ·show(p.rest.extract _ _).size<=_;rw[ByteArray.size_extract];omega
 ·have he:=takeF_e p.rest;have h2:mx p.e (takeF p.rest).2.2.2=0:=h1;have h3:(takeF p.rest).2.2.2=0:=by
   unfold mx at h2;split at h2<;>omega
  have:=h5 h3;show(p.rest.extract (takeF p.rest).2.2.1.toNat p.rest.size).size+5<_;rw[ByteArray.size_extract,hk,Int.toNat_natCast];omega
theorem read_size (p:Rt):p.read.1.size<=65536/\p.read.2.text.size<=p.text.size/\p.read.2.rest=p.rest/\p.e<=p.read.2.e:=by
 refine⟨takeT_few _,?_,rfl,mx_ge _ _⟩;show(p.text.extract _ _).size<=_;rw[ByteArray.size_extract];omega
theorem num_size (p:Rt):p.num.2.text.size<=p.text.size/\p.num.2.rest=p.rest/\p.e<=p.num.2.e:=by
 refine⟨?_,rfl,mx_ge _ _⟩;show(p.text.extract _ _).size<=_;rw[ByteArray.size_extract];omega
theorem sta_size (p:Rt):p.sta.1.uid.size<=65536/\p.sta.1.bytes.size<=65536/\p.sta.2.rest.size<=p.rest.size/\p.e<=p.sta.2.e/\(p.e=0->p.sta.2.e=0->p.sta.2.rest.size+5<p.rest.size):=by
 obtain⟨a1,a2,a3,a4⟩:=next_size p;obtain⟨b1,b2,b3,b4⟩:=read_size p.next;obtain⟨c1,c2,c3,c4⟩:=read_size p.next.read.2;refine⟨b1,c1,?_,?_,fun h0 h1=>?_⟩
 ·show p.next.read.2.read.2.rest.size<=_;rw[c3,b3];exact a2
 ·show p.e<=p.next.read.2.read.2.e;omega
 ·have h2:p.next.read.2.read.2.e=0:=h1;show p.next.read.2.read.2.rest.size+5<_;rw[c3,b3];exact a3 h0 (by omega)
end Rt
theorem headR_eq (b:ByteArray):headR b=((Rt.mk 0 .empty b).next.num.1,(Rt.mk 0 .empty b).next.num.2.num.1,(Rt.mk 0 .empty b).next.num.2.num.2.num.1,(takeJ (Rt.mk 0 .empty b).next.num.2.num.2.num.2.read.1).1,
  ⟨Rt.mx (Rt.mk 0 .empty b).next.num.2.num.2.num.2.read.2.e (takeJ (Rt.mk 0 .empty b).next.num.2.num.2.num.2.read.1).2,(Rt.mk 0 .empty b).next.num.2.num.2.num.2.read.2.text,(Rt.mk 0 .empty b).next.num.2.num.2.num.2.read.2.rest⟩):=by
 unfold headR;dsimp only
structure TkAt (w:World) (be bt br RC:Nat) (p:Rt) (wr:World):Prop where
 below:Below w.heap.size w wr
 r3:R3 wr be bt br p wr
 res:Blk wr RC 27 #[.int .i64 0,.int .i64 0,.int .i64 0,.slice none 0 0,.slice none 0 0]
 ge:w.heap.size<=be/\w.heap.size<=bt/\w.heap.size<=br/\w.heap.size<=RC
 ne:RC≠be/\RC≠bt/\RC≠br
 lt:be<wr.heap.size/\bt<wr.heap.size/\br<wr.heap.size/\RC<wr.heap.size
namespace TkAt
variable {w wr wx:World} {be bt br RC:Nat} {p q:Rt}
theorem step (h:TkAt w be bt br RC p wr) (h2:R3 wr be bt br q wx):TkAt w be bt br RC q wx:=by
 obtain⟨g1,g2,g3,g4⟩:=h.ge;obtain⟨n1,n2,n3⟩:=h.ne;obtain⟨l1,l2,l3,l4⟩:=h.lt;have hs:=h2.fr.size;exact⟨h.below.trans (h2.fr.below h.below.size (fun k hk e=>by omega)),h2.refl,h.res.fr h2.fr (by omega),h.ge,h.ne,by omega⟩
theorem more (h:TkAt w be bt br RC p wr) (hb:Below wr.heap.size wr wx):TkAt w be bt br RC p wx:=
 h.step (h.r3.more hb)
theorem put (h:TkAt w be bt br RC p wr) {S:Nat} (hf:Fr (fun i=>i=S) wr wx) (h1:w.heap.size<=S) (h2:be≠S/\bt≠S/\br≠S/\RC≠S):TkAt w be bt br RC p wx:=by
 obtain⟨l1,l2,l3,l4⟩:=h.lt;have hs:=hf.size;exact⟨h.below.trans (hf.below h.below.size (fun k hk e=>by omega)),⟨Fr.refl _ _,h.r3.E.fr hf h2.1,h.r3.T.fr hf h2.2.1,h.r3.R.fr hf h2.2.2.1,h.r3.ne⟩,h.res.fr hf h2.2.2.2,h.ge,h.ne,by omega⟩
end TkAt
def stCells (l:List Sta):List Value:=l.flatMap fun s=> [.string s.uid,.string s.bytes]
theorem info_staS:(prog.info? 72).map (fun i=>(i.zero,i.size,i.bytes))=some (some (.agg #[.string {data:=#[]},.string {data:=#[]}]),2,32):=by kernel_rfl
theorem stCells_at: ∀(l:List Sta) (k:Nat) (h:k<l.length),(stCells l)[k*2]? =some (.string l[k].uid)/\(stCells l)[k*2+1]? =some (.string l[k].bytes)
 |s::l,0,_=>⟨rfl,rfl⟩
 |s::l,k+1,h=>by
  have:=stCells_at l k (by simpa using h)
  have e:stCells (s::l)= .string s.uid:: .string s.bytes::stCells l:=rfl
  rw[e,show(k+1)*2=k*2+1+1 by omega]
  exact this
theorem staRd_own {w:World} {base:Nat} {v:Value} {l:List Sta} (h:w.ownsRow base 72 2 v l.length (stCells l)):StaRd w (fun b=>base<=b/\b<w.heap.size) v l:=by
 obtain⟨h1,h2⟩:=h;rcases h2 with ⟨rfl,h0⟩|⟨g,cap,cur,rfl,hb,hg,hn,hcp,hsz,ht⟩
 ·have:l=[]:=List.length_eq_zero_iff.1 h0;subst this;exact StaRd.nil _ _
 ·refine⟨_,cap,rfl,hn,hcp,.inr ⟨g,0,rfl,⟨hb,(Array.getElem?_eq_some_iff.1 hg).1⟩,fun k hk=>?_⟩⟩;obtain⟨c0,c1⟩:=stCells_at l k hk;have hc: ∀j,j<l.length*2->w.cell? ⟨g,j,none⟩=(stCells l)[j]? :=fun j hj=>by
   rw[cell_of_row w g j cur _ (0,0) hg,<-ht,List.getElem?_take,if_pos hj];simp
  rw[Nat.zero_add,hc _ (by omega),hc _ (by omega)];exact⟨c0,c1⟩
structure SvB (w:World) (S JB:Nat) (n ct par:Int) (nv:Value) (nds:List Nd) (av:Value) (l:List Sta) (wr:World):Prop where
 box:Blk wr S 27 #[.int .i64 n,.int .i64 ct,.int .i64 par,nv,av]
 nodes:NodesIn wr (fun b=>S<b/\b<JB) nds nv
 row:wr.ownsRow (JB+1) 72 2 av l.length (stCells l)
 lt:S<JB/\JB<wr.heap.size
namespace SvB
variable {w wr wx:World} {S JB:Nat} {n ct par:Int} {nv av:Value} {nds:List Nd} {l:List Sta}
theorem fr (h:SvB w S JB n ct par nv nds av l wr) {X:Nat->Prop} (hf:Fr X wr wx) (hX: ∀k,X k->k<S):SvB w S JB n ct par nv nds av l wx:=by
 have hs:=hf.size;obtain⟨l1,l2⟩:=h.lt;refine⟨h.box.fr hf (fun e=>Nat.lt_irrefl _ (hX S e)),h.nodes.keep (fun _ h=>h) (fun b hb=>hf.block b (by have:=hb.2;omega) (fun e=>by have:=hX b e;have:=hb.1;omega)),?_,l1,by omega⟩;exact ownsRow_fr h.row hf (fun b hb e=>by have:=hX b e;omega)
end SvB
theorem TkAt.over {w wr wx:World} {be bt br RC:Nat} {p:Rt} (h:TkAt w be bt br RC p wr) {X:Nat->Prop} (hf:Fr X wr wx) (h1: ∀k,X k->w.heap.size<=k) (h2: ¬X be/\ ¬X bt/\ ¬X br/\ ¬X RC):TkAt w be bt br RC p wx:=by
 obtain⟨l1,l2,l3,l4⟩:=h.lt;have hs:=hf.size;exact⟨h.below.trans (hf.below h.below.size (fun k hk e=>by have:=h1 k e;omega)),⟨Fr.refl _ _,h.r3.E.fr hf h2.1,h.r3.T.fr hf h2.2.1,h.r3.R.fr hf h2.2.2.1,h.r3.ne⟩,h.res.fr hf h2.2.2.2,h.ge,h.ne,by omega⟩
theorem tk_grown {w w4 w5:World} {be bt br RC S JB:Nat} {p:Rt} {n ct par:Int} {nv av v:Value} {nds:List Nd} {l:List Sta} {s:Sta} {o:Obj}
  (hA:TkAt w be bt br RC p w4) (hB:SvB w S JB n ct par nv nds av l w4) (hS:be<S/\bt<S/\br<S/\RC<S/\w.heap.size<=S) (hg:(w4.alloc o).grownBy w5 av.ownBlock)
  (hown:w5.ownsRow (JB+1) 72 2 v (l.length+1) (stCells l++ [.string s.uid,.string s.bytes])):
  TkAt w be bt br RC p (w5.setCell ⟨S,4,none⟩ v)/\SvB w S JB n ct par nv nds v (l++ [s]) (w5.setCell ⟨S,4,none⟩ v):=by
 have hnb: ∀c,av.ownBlock=some c->JB+1<=c:=fun c hc=>(hB.row.lt c hc).1;have hlt:=hB.lt;have hf1:Fr (fun i=>i=S\/JB+1<=i) w4 w5:=Fr.grown ((Fr.refl _ w4).alloc o) hg (fun k e=> .inl (.inr (hnb k e)));have hf:Fr (fun i=>i=S\/JB+1<=i) w4 (w5.setCell ⟨S,4,none⟩ v):=hf1.setCell (p:=⟨S,4,none⟩) (.inl (.inl rfl)) v;have hs:=hf.size;have hb5:=(hB.box.alloc o).grown hg (fun e=>by have:=hnb S e.symm;omega);refine⟨hA.over hf (fun k e=>by omega) (by omega),hb5.set 4 v,hB.nodes.keep (fun _ h=>h) (fun b hb=>hf.block b (by omega) (fun e=>by have:=hb.1;have:=hb.2;omega)),?_,hlt.1,by omega⟩;have e:stCells (l++ [s])=stCells l++ [.string s.uid,.string s.bytes]:=by
  unfold stCells;rw[List.flatMap_append,List.flatMap_cons,List.flatMap_nil,List.append_nil]
 rw[e,la0];exact ownsRow_setCell_below hown (a:=⟨S,4,none⟩) (by show S<JB+1;omega) v
theorem SvTake_c (b:ByteArray) (hb:b.size<=990000) (w:World):
    Calls prog 11 #[.string b] w fun e w'=>(∃v,e= .returned (.tuple #[v,.int .i64 (takeSv b).2])/\SvIn w' (fun c=>w.heap.size<=c/\c<w'.heap.size) v (takeSv b).1)/\Below w.heap.size w w':=by
  have hmf: ∀(fn:Fn) (first cap:Array Value) (w:World),(Instr.makeFunc fn first cap).run prog w= .ok (.func fn first cap) w:=fun _ _ _ _=>rfl;have h0:TkAt w (w.heap.size+1) (w.heap.size+2) (w.heap.size+3) w.heap.size ⟨0,.empty,b⟩ ((((w.alloc (.cells #[.int .i64 0,.int .i64 0,.int .i64 0,.slice none 0 0,.slice none 0 0] 27)).alloc (.cells #[.int .i64 0] 30)).alloc (.cells #[.string {data:=#[]}] 9)).alloc (.cells #[.string b] 9)):=
    ⟨(((br0.alloc le0 _).alloc (by simp) _).alloc (by simp;omega) _).alloc (by simp;omega) _,
     ⟨Fr.refl _ _,((Blk.new_at _ _ _ (by simp)).alloc _).alloc _,(Blk.new_at _ _ _ (by simp)).alloc _,Blk.new_at _ _ _ (by simp),by omega,by omega,by omega⟩,
     (((Blk.new w _ _).alloc _).alloc _).alloc _,by omega,by omega,by simp;omega⟩
  go_enter func11,ntmps11
  go_upto_region 5 with fail
  generalize ((((w.alloc (.cells #[.int .i64 0,.int .i64 0,.int .i64 0,.slice none 0 0,.slice none 0 0] 27)).alloc (.cells #[.int .i64 0] 30)).alloc (.cells #[.string {data:=#[]}] 9)).alloc (.cells #[.string b] 9))=W0 at*;have HS:=Lh (headR_eq b);have hz0:(Rt.mk 0 .empty b).rest.size<=140737488355328:=by show b.size<=_;omega
  have HT1:=Lh (take1_c (w.heap.size+1) (w.heap.size+2) (w.heap.size+3) ⟨0,.empty,b⟩ hz0 W0 h0.r3);have hn1:=Rt.next_size ⟨0,.empty,b⟩;have H0:=Lh h0;clear h0 hz0;generalize (Rt.mk 0 .empty b).next=p1 at*
  go_upto_region 6 with (first|(go_at_call 42;refine HT1.o.mono ?_;rintro e w1 ⟨rfl,h1⟩)|fail)
  have H1:=Lh (H0.o.step h1);have HT2:=Lh (take2_c (w.heap.size+1) (w.heap.size+2) (w.heap.size+3) p1 (by have:=hn1.1;omega) w1 H1.o.r3);have hn2:=Rt.num_size p1;clear h1 HT1 H0;have hpe1:0<=p1.e:=by have:=hn1.2.2.2;exact this
  have hpr1:p1.rest.size<=b.size:=hn1.2.1;have hpt1:=hn1.1;clear hn1;generalize p1.num=q2 at*;obtain⟨n,p2⟩:=q2;dsimp only at HT2 hn2
  go_upto_region 6 with fail
  have HN2:Hd (∀W,TkAt w (w.heap.size+1) (w.heap.size+2) (w.heap.size+3) w.heap.size p2 W->Calls prog 44 #[.pointer (some ⟨w.heap.size+2,0,none⟩),.pointer (some ⟨w.heap.size+1,0,none⟩)] W fun e w'=>e= .returned (.int .i64 p2.num.1)/\TkAt w (w.heap.size+1) (w.heap.size+2) (w.heap.size+3) w.heap.size p2.num.2 w'/\R3 W (w.heap.size+1) (w.heap.size+2) (w.heap.size+3) p2.num.2 w'):=fun W h=>
    (take2_c (w.heap.size+1) (w.heap.size+2) (w.heap.size+3) p2 (by omega) W h.r3).mono fun e w' h2=>⟨h2.1,h.step h2.2,h2.2⟩
  have hn3:=Rt.num_size p2;generalize p2.num=q3 at*;obtain⟨ct,p3⟩:=q3;dsimp only at HN2 hn3;have HN3:Hd (∀W,TkAt w (w.heap.size+1) (w.heap.size+2) (w.heap.size+3) w.heap.size p3 W->Calls prog 44 #[.pointer (some ⟨w.heap.size+2,0,none⟩),.pointer (some ⟨w.heap.size+1,0,none⟩)] W fun e w'=>e= .returned (.int .i64 p3.num.1)/\TkAt w (w.heap.size+1) (w.heap.size+2) (w.heap.size+3) w.heap.size p3.num.2 w'/\R3 W (w.heap.size+1) (w.heap.size+2) (w.heap.size+3) p3.num.2 w'):=fun W h=>
    (take2_c (w.heap.size+1) (w.heap.size+2) (w.heap.size+3) p3 (by omega) W h.r3).mono fun e w' h2=>⟨h2.1,h.step h2.2,h2.2⟩
  have hn4:=Rt.num_size p3;have hmi:p3.num.1<=9223372036854775807:=(num_i64 p3).2;generalize p3.num=q4 at*;obtain⟨mm,p4⟩:=q4;dsimp only at HN3 hn4 hmi;have HN4:Hd (∀W,TkAt w (w.heap.size+1) (w.heap.size+2) (w.heap.size+3) w.heap.size p4 W->Calls prog 46 #[.pointer (some ⟨w.heap.size+2,0,none⟩),.pointer (some ⟨w.heap.size+1,0,none⟩)] W fun e w'=>e= .returned (.string p4.read.1)/\TkAt w (w.heap.size+1) (w.heap.size+2) (w.heap.size+3) w.heap.size p4.read.2 w'/\R3 W (w.heap.size+1) (w.heap.size+2) (w.heap.size+3) p4.read.2 w'):=fun W h=>
    (take3_c (w.heap.size+1) (w.heap.size+2) (w.heap.size+3) p4 (by omega) W h.r3).mono fun e w' h2=>⟨h2.1,h.step h2.2,h2.2⟩
  have hn5:=Rt.read_size p4;generalize p4.read=q5 at*;obtain⟨jt,p5⟩:=q5;dsimp only at HN4 hn5;have HJ:Hd (∀W:World,Calls prog 48 #[.string jt] W (TakeJPost jt W)):=fun W=>packTake_c jt (by omega) W;unfold TakeJPost at HJ;have hs6:=HS.o;dsimp only at hs6;have HS6:=Lh hs6;have hpe5:0<=p5.e:=by omega
  have hpt5:p5.text.size<=65536:=by omega
  have hpr5:p5.rest.size<=b.size:=by rw[hn5.2.2.1,hn4.2.1,hn3.2.1,hn2.2.1];exact hpr1
  clear HS hs6 hn2 hn3 hn4 hn5;generalize takeJ jt=J at*
  go_upto_region 7 with (first
    |(go_at_call 44;refine HT2.o.mono ?_;rintro e w2 ⟨rfl,h2⟩;have hA2:=H1.o.step h2)
    |(go_at_call 44;refine(HN2.o _ hA2).mono ?_;rintro e w3 ⟨rfl,hA3,_⟩)
    |fail)
  have hS3:Blk (w3.alloc (.cells #[.int .i64 n,.int .i64 ct,.int .i64 0,.slice none 0 0,.slice none 0 0] 27)) w3.heap.size 27 #[.int .i64 n,.int .i64 ct,.int .i64 0,.slice none 0 0,.slice none 0 0]:=Blk.new w3 _ _;have hA3':=hA3.more (br0.alloc le0 (.cells #[.int .i64 n,.int .i64 ct,.int .i64 0,.slice none 0 0,.slice none 0 0] 27));have hSb:w.heap.size+3<w3.heap.size:=hA3.lt.2.2.1;have HA3:=Lh hA3';have HS3:=Lh hS3;clear hA3 hA3' hS3 hA2 h2 HT2 HN2 H1;generalize hSe:w3.heap.size=S at*;generalize (w3.alloc (.cells #[.int .i64 n,.int .i64 ct,.int .i64 0,.slice none 0 0,.slice none 0 0] 27))=W3 at*
  go_upto_region 9 with (first
    |(go_at_call 44;refine(HN3.o _ HA3.o).mono ?_;rintro e w4 ⟨rfl,hA4,hr4⟩;have hS4:=HS3.o.fr hr4.fr (by omega))
    |(go_at_call 46;refine(HN4.o _ hA4).mono ?_;rintro e w5 ⟨rfl,hA5,hr5⟩;have hS5:=hS4.fr hr5.fr (by omega))
    |(go_at_call 48;refine(HJ.o _).mono ?_;rintro e w6 ⟨v,rfl,⟨nv,rfl,hnod⟩,hb6⟩;have hA6:=hA5.more hb6;have hS6:=hS5.below hb6 hS5.lt;obtain⟨na,ncap,rfl,hnc,hnm⟩:=hnod.slice)
    |fail)
  have hJb:Blk (w6.alloc (.cells #[.int .i64 J.1.par,.slice na J.1.nodes.length ncap] 24)) w6.heap.size 24 #[.int .i64 J.1.par,.slice na J.1.nodes.length ncap]:=Blk.new w6 _ _;have hA7:=hA6.more (br0.alloc le0 (.cells #[.int .i64 J.1.par,.slice na J.1.nodes.length ncap] 24));have hS7:=hS6.alloc (.cells #[.int .i64 J.1.par,.slice na J.1.nodes.length ncap] 24);have hN7:NodesIn (w6.alloc (.cells #[.int .i64 J.1.par,.slice na J.1.nodes.length ncap] 24)) (fun b=>S<b/\b<w6.heap.size) J.1.nodes (.slice na J.1.nodes.length ncap):=
    hnod.keep (fun b hb=>⟨by have:=hS5.lt;omega,hb.2⟩) (fun b hb=>heap_alloc_old _ _ (by have:=hb.2;omega))
  have hS6lt:=hS6.lt;clear hnod hA6 hS6 hA5 hS5 hA4 hS4 hr4 hr5 hb6 HN3 HN4 HJ HA3 HS3;generalize w6.heap.size=JB at*;generalize (w6.alloc (.cells #[.int .i64 J.1.par,.slice na J.1.nodes.length ncap] 24))=W7 at*;have j0:=hJb.cell 0;have j1:=hJb.cell 1;have e0:=hA7.r3.E.cell 0;have ef:=hA7.r3.E.free 0;have s2:=hS7.cell 2;have s3:=hS7.cell 3;have g2:=hS7.free 2;have g3:=hS7.free 3;have m1:w.heap.size+1≠S:=by omega
  have m2:S≠w.heap.size+1:=by omega
  have HJb:=Lh hJb;have HA7:=Lh hA7;have HS7:=Lh hS7;have HN7:=Lh hN7;clear hJb hA7 hS7 hN7
  go_region
  have hA8:TkAt w (w.heap.size+1) (w.heap.size+2) (w.heap.size+3) w.heap.size ⟨Rt.mx p5.e J.2,p5.text,p5.rest⟩ (((W7.setCell ⟨S,2,none⟩ (.int .i64 J.1.par)).setCell ⟨S,3,none⟩ (.slice na J.1.nodes.length ncap)).setCell ⟨w.heap.size+1,0,none⟩ (.int .i64 (max p5.e J.2))).drew:=by
    have h1:=HA7.o.put (S:=S) (((Fr.refl (fun i=>i=S) W7).setCell (p:=⟨S,2,none⟩) (.inl rfl) (.int .i64 J.1.par)).setCell (p:=⟨S,3,none⟩) (.inl rfl) (.slice na J.1.nodes.length ncap)) (by omega) (by omega);have h2:=h1.step ((h1.r3.setE (Rt.mx p5.e J.2)).drew);rw[mx_max]at h2⊢;exact h2
  have hB8:SvB w S JB n ct J.1.par (.slice na J.1.nodes.length ncap) J.1.nodes (.slice none 0 0) [] (((W7.setCell ⟨S,2,none⟩ (.int .i64 J.1.par)).setCell ⟨S,3,none⟩ (.slice na J.1.nodes.length ncap)).setCell ⟨w.heap.size+1,0,none⟩ (.int .i64 (max p5.e J.2))).drew:=by
    refine⟨(((HS7.o.set 2 _).set 3 _).other (p:=⟨w.heap.size+1,0,none⟩) (by omega) _).drew,HN7.o.keep (fun _ h=>h) (fun b hb=>?_),World.ownsRow_nil _ _ _ _,hS6lt,by have:=HJb.o.lt;simpa using this⟩;have:=hb.1;show(((W7.setCell ⟨S,2,none⟩ _).setCell ⟨S,3,none⟩ _).setCell ⟨w.heap.size+1,0,none⟩ _).heap[b]? =_;rw[heap_setCell_other _ ⟨w.heap.size+1,0,none⟩ b _ (by show b≠w.heap.size+1;omega),heap_setCell_other _ ⟨S,3,none⟩ b _ (by show b≠S;omega),heap_setCell_other _ ⟨S,2,none⟩ b _ (by show b≠S;omega)]
  generalize (((W7.setCell ⟨S,2,none⟩ (.int .i64 J.1.par)).setCell ⟨S,3,none⟩ (.slice na J.1.nodes.length ncap)).setCell ⟨w.heap.size+1,0,none⟩ (.int .i64 (max p5.e J.2))).drew=W8 at*;have hpe8:0<=Rt.mx p5.e J.2:=by have:=Rt.mx_ge p5.e J.2;omega
  clear j0 j1 e0 ef s2 s3 g2 g3 HJb HA7 HS7 HN7;generalize Rt.mx p5.e J.2=pe at*;have hpe9:0<=(Rt.mk pe p5.text p5.rest).e:=hpe8;have hpt8:(Rt.mk pe p5.text p5.rest).text.size<=65536:=hpt5;have hpr8:(Rt.mk pe p5.text p5.rest).rest.size<=b.size:=hpr5;have HRS:Hd (rawSv b=(⟨n,ct,J.1,(Rt.stas (b.size+2) mm [] ⟨pe,p5.text,p5.rest⟩).1⟩,(Rt.stas (b.size+2) mm [] ⟨pe,p5.text,p5.rest⟩).2.e)):=by
    show _=_;unfold rawSv;rw[HS6.o]
  clear HS6 hpt5 hpr5 hpe5 hpe1 hpr1 hpt1;generalize Rt.mk pe p5.text p5.rest=P0 at*;clear hpe8
  go_upto_region 10 with fail
  go_loopw [11] (fun m wr=> ∃(mj:Int) (l:List Sta) (p:Rt) (K:Nat) (av:Value),m= .int .i64 mj/\mj<=9223372036854775807/\TkAt w (w.heap.size+1) (w.heap.size+2) (w.heap.size+3) w.heap.size p wr/\SvB w S JB n ct J.1.par (.slice na J.1.nodes.length ncap) J.1.nodes av l wr/\
    (∀s∈l,s.uid.size<=65536/\s.bytes.size<=65536)/\l.length+K<=b.size+2/\1<=K/\0<=p.e/\(p.e=0->p.rest.size+2<=K)/\p.text.size<=65536/\p.rest.size<=b.size/\Rt.stas K mj l p=Rt.stas (b.size+2) mm [] P0) (fun m _=>(intOf m).toNat)
  case atStart=>exact⟨mm,[],P0,b.size+2,.slice none 0 0,rfl,hmi,hA8,hB8,by simp,by simp,by omega,hpe9,fun _=>by omega,hpt8,hpr8,rfl⟩
  case round=>
    obtain⟨mj,l,p,K,av,rfl,hmj,hA,hB,hfew,hlK,hK1,hpe,hfu,hpt,hpr,hst⟩:=hrel;clear hA8 hB8;have e0:=hA.r3.E.cell 0;by_cases hgo:0<mj/\p.e=0
    · obtain⟨hm0,hp0⟩:=hgo
      obtain⟨K1,rfl⟩: ∃K1,K=K1+1:=⟨K-1,by omega⟩;have hst2:Rt.stas K1 (mj-1) (l++ [p.sta.1]) p.sta.2=Rt.stas (b.size+2) mm [] P0:=by
        rw[<-hst]
        conv=>rhs;rw[Rt.stas]
        rw[if_pos ⟨hm0,hp0⟩]
      obtain⟨z1,z2,z3,z4,z5⟩:=Rt.sta_size p;have hnx:=Rt.next_size p;have hrd:=Rt.read_size p.next;have HST:=Lh hst2;have HTX:Hd (p.sta.2.text.size<=65536):=by
        have h1:=(Rt.read_size p.next.read.2).2.1;show p.next.read.2.read.2.text.size<=_;have h2:=hrd.2.1;have h3:=hnx.1;omega
      have HM0:Hd (0<mj):=hm0;have HSZ:Hd ((p.sta.1.uid.size<=65536/\p.sta.1.bytes.size<=65536)/\p.sta.2.rest.size<=b.size/\0<=p.sta.2.e/\(p.sta.2.e=0->p.sta.2.rest.size+2<=K1)/\1<=K1):=⟨⟨z1,z2⟩,by omega,by omega,fun h=>by have:=z5 hp0 h;have:=hfu hp0;omega,by have:=hfu hp0;omega⟩;have d1:decide (0<mj)=true:=dt0 hm0;have d2:(p.e==0)=true:=by rw[beq_iff_eq];exact hp0
      have HT:=Lh (take1_c (w.heap.size+1) (w.heap.size+2) (w.heap.size+3) p (by omega) wr hA.r3);have HA:=Lh hA;have HB:=Lh hB;have HFW:=Lh hfew;clear hA hB hst hst2 hm0 hp0 hfu z1 z2 z3 z4 z5 hfew HRS
      go_upto_region 13 with (first|(go_at_call 42;refine HT.o.mono ?_;rintro e w2 ⟨rfl,h2⟩)|fail)
      have hA2:=HA.o.step h2;have hB2:=HB.o.fr h2.fr (fun k e=>by omega);have HR1:Hd (∀W,TkAt w (w.heap.size+1) (w.heap.size+2) (w.heap.size+3) w.heap.size p.next W->Calls prog 46 #[.pointer (some ⟨w.heap.size+2,0,none⟩),.pointer (some ⟨w.heap.size+1,0,none⟩)] W fun e w'=>e= .returned (.string p.next.read.1)/\TkAt w (w.heap.size+1) (w.heap.size+2) (w.heap.size+3) w.heap.size p.next.read.2 w'/\R3 W (w.heap.size+1) (w.heap.size+2) (w.heap.size+3) p.next.read.2 w'):=fun W h=>
        (take3_c (w.heap.size+1) (w.heap.size+2) (w.heap.size+3) p.next (by have:=hnx.1;omega) W h.r3).mono fun e w' h2=>⟨h2.1,h.step h2.2,h2.2⟩
      have HR2:Hd (∀W,TkAt w (w.heap.size+1) (w.heap.size+2) (w.heap.size+3) w.heap.size p.next.read.2 W->Calls prog 46 #[.pointer (some ⟨w.heap.size+2,0,none⟩),.pointer (some ⟨w.heap.size+1,0,none⟩)] W fun e w'=>e= .returned (.string p.next.read.2.read.1)/\TkAt w (w.heap.size+1) (w.heap.size+2) (w.heap.size+3) w.heap.size p.next.read.2.read.2 w'/\R3 W (w.heap.size+1) (w.heap.size+2) (w.heap.size+3) p.next.read.2.read.2 w'):=fun W h=>
        (take3_c (w.heap.size+1) (w.heap.size+2) (w.heap.size+3) p.next.read.2 (by have:=hnx.1;have:=hrd.2.1;omega) W h.r3).mono fun e w' h2=>⟨h2.1,h.step h2.2,h2.2⟩
      have HA2:=Lh hA2;have HB2:=Lh hB2;clear hA2 hB2 h2 HT HA HB hnx hrd;have hA0:=HA2.o.more br0.drew;have hB0:=HB2.o.fr (X:=fun _=>False) (Fr.refl _ _).drew (fun _ h=>h.elim);have hl0:=hB0.lt.1;have HSX:Hd (∀W,Fr (fun c=>c<S\/JB<c) w2.drew W->Blk W S 27 #[.int .i64 n,.int .i64 ct,.int .i64 J.1.par,.slice na J.1.nodes.length ncap,av]):=fun W q=>hB0.box.fr q (by omega);have hb:Fr (fun c=>c<S\/JB<c) w2.drew w2.drew:=Fr.refl _ _;have ONE:Hd (∀u∈([.string p.next.read.1,.string p.next.read.2.read.1]:List Value),u.oneCell'=true):=by
        intro u hu;simp only[List.mem_cons,List.not_mem_nil,or_false]at hu;rcases hu with rfl|rfl<;>rfl
      have NBV:Hd (∀c,av.ownBlock=some c->JB+1<=c):=fun c hc=>(HB2.o.row.lt c hc).1;obtain⟨i0,hi,hz0,hz1,hz2⟩:=info_parts info_staS;refine tl0 (S:=(fun w'=>Blk w' S 27 #[.int .i64 n,.int .i64 ct,.int .i64 J.1.par,.slice na J.1.nodes.length ncap,av])) (L:=10) (by kernel_rfl) (HSX.o _ hb) (fun hHeld=>?_);generalize w2.drew=wd0 at*
      repeat' first
        |refine tln (by decide+kernel) ?_
        |(refine tls (by decide+kernel) rfl (by rfl) (fun _ _ _ h=>h) (by assumption) ?_;try simp only[Act.put,tkA,tkB,tkC,tkD,tkE,tkF])
        |(refine tlt (v:=?_) (by decide+kernel) rfl (by rfl) (fun _ _ _ h=>h) (by assumption) ?_ ?_;rotate_left;(· intro w' hSw;(try dsimp only at hSw);have z4:=hSw.cell 4;clear hSw;go_simp;(try with_reducible rfl));try simp only[Act.put,tkA,tkB,tkC,tkD,tkE,tkF])
        |refine tlm (by decide+kernel) ?_
        |refine tld (by decide+kernel) ?_
        |refine tlb (by decide+kernel) ?_
        |refine bln (by decide+kernel) ?_
        |exact ble (by decide+kernel)
        |refine blc rfl (fun K hK=>?_) ?_
        |(replace hK:=hK;refine opD 53 (by decide+kernel) ?_;go_simp;go_at_call 46;refine(HR1.o _ hA0).mono ?_;rintro e w3 ⟨rfl,hA3,hr3⟩;have hB3:=hB0.fr hr3.fr (fun k e=>by omega);replace hb:=hr3.fr.mono (T:=fun c=>c<S\/JB<c) (fun k _ e=> .inl (by omega));refine hK.out _ _ (fun _=>HSX.o _ hb) (fun hHeld=>?_);replace hHeld:=hHeld (by decide);clear hK K;try simp only[Act.put,tkA,tkB,tkC,tkD,tkE,tkF])
        |(replace hK:=hK;refine opD 55 (by decide+kernel) ?_;go_simp;go_at_call 46;refine(HR2.o _ hA3).mono ?_;rintro e w4 ⟨rfl,hA4,hr4⟩;have hB4:=hB3.fr hr4.fr (fun k e=>by omega);replace hb:=hb.trans (hr4.fr.mono (T:=fun c=>c<S\/JB<c) (fun k _ e=> .inl (by omega)));refine hK.out _ _ (fun _=>HSX.o _ hb) (fun hHeld=>?_);replace hHeld:=hHeld (by decide);clear hK K;try simp only[Act.put,tkA,tkB,tkC,tkD,tkE,tkF])
        |(replace hK:=hK;refine opD 57 (by decide+kernel) ?_;go_simp;have hB5:=hB4.fr (X:=fun _=>False) ((Fr.refl _ w4).alloc (.cells #[.string p.next.read.1,.string p.next.read.2.read.1] 72)) (fun _ h=>h.elim);replace hb:=hb.alloc (.cells #[.string p.next.read.1,.string p.next.read.2.read.1] 72);refine hK.out _ _ (fun _=>HSX.o _ hb) (fun hHeld=>?_);replace hHeld:=hHeld (by decide);clear hK K;try simp only[Act.put,tkA,tkB,tkC,tkD,tkE,tkF])
        |(replace hK:=hK;refine opD 58 (by decide+kernel) ?_;refine step_append_lies _ (by rfl) (.tmp 51) (.tmp 57) _ (by rfl) (JB+1) 72 i0 (.agg #[.string {data:=#[]},.string {data:=#[]}]) 2 32 underlying25 hi hz0 hz1 hz2 rfl (by decide) av l.length (stCells l) (by rfl) hB5.row ⟨w4.heap.size,0,none⟩ 1 1 [.string p.next.read.1,.string p.next.read.2.read.1] (by rfl) (by rfl) (by exact World.news_of_block (heap_alloc_new w4 _)) ONE.o (by decide) (by unfold maxLen;omega) (by omega) (by have:=hB5.lt.2;omega) _ rfl ?_;intro g cap4 w5 hown5 hgrow5 hat5 hlt5;have hS5:=hB5.box.grown hgrow5 (fun e=>by have:=NBV.o _ e.symm;have:=hB5.lt.1;omega);replace hb:=hb.grown hgrow5 (fun c e=> .inl (.inr (NBV.o c e)));refine hK.out _ _ (fun _=>HSX.o _ hb) (fun hHeld=>?_);replace hHeld:=hHeld (by decide);clear hK K;try simp only[Act.put,tkA,tkB,tkC,tkD,tkE,tkF])
        |(replace hK:=hK;refine opIs 2 (by decide+kernel) ?_;have k5:=hS5.cell 4;have g5:=hS5.free 4;go_simp;clear k5 g5;refine hK.out _ _ (fun h=>absurd rfl h) (fun hHeld=>?_);clear hHeld hK K;try simp only[Act.put,tkA,tkB,tkC,tkD,tkE,tkF])
        |fail
      obtain⟨hA6,hB6⟩:=tk_grown (s:=p.sta.1) hA4 hB4 (by omega) hgrow5 hown5;have HA6:=Lh hA6;have HB6:=Lh hB6;clear hA6 hB6 hA4 hB4 hB5 hA3 hB3 hr3 hr4 hgrow5 hown5 hat5 hS5 hb HSX hA0 hB0;have hm0:=HM0.o
      go_wp2_with fail
      go_roundw
      case rel=>exact⟨mj-1,l++ [p.sta.1],p.sta.2,K1,_,by go_num,by omega,HA6.o,HB6.o,fun s hs=>by
        rcases List.mem_append.1 hs with hs|hs
        · exact HFW.o s hs
        · rw[List.mem_singleton.1 hs];exact HSZ.o.1,by rw[la0,List.length_singleton];omega,HSZ.o.2.2.2.2,HSZ.o.2.2.1,HSZ.o.2.2.2.1,HTX.o,HSZ.o.2.1,HST.o⟩
      case measure=>have:=HM0.o;simp[intOf];omega
    · have hex:Rt.stas K mj l p=(l,p):=by
        obtain⟨K1,rfl⟩: ∃K1,K=K1+1:=⟨K-1,by omega⟩
        conv=>lhs;rw[Rt.stas]
        rw[if_neg hgo]
      have HRS2:Hd (rawSv b=(⟨n,ct,J.1,l⟩,p.e)):=by show _=_;rw[HRS.o,<-hst,hex]
      have hok:(Sv.mk n ct J.1 l).Ok:=by
        have:=raw_ok b (by omega);rw[HRS2.o]at this;exact this
      have HTK:Hd (takeSv b=if p.e=0/\(putSv ⟨n,ct,J.1,l⟩).2=0/\bstr (putSv ⟨n,ct,J.1,l⟩).1=b then(⟨n,ct,J.1,l⟩,0)else(sv0,230)):=by
        show _=_;unfold takeSv;rw[HRS2.o]
      have hat:SvAt wr (.agg (svC ⟨n,ct,J.1,l⟩ (.slice na J.1.nodes.length ncap) av)) ⟨n,ct,J.1,l⟩:=⟨_,_,rfl,hB.nodes.toAt (fun c hc=>by have:=hB.lt.2;omega),(staRd_own hB.row).keep (fun _ k=>k.2) (fun _ _=>rfl)⟩;have HPT:=Lh (SvPut_c ⟨n,ct,J.1,l⟩ hok ⟨by show l.length<=1000000;omega,hfew⟩ _ wr hat);unfold svC at HPT;obtain⟨sa,sl,scap,rfl⟩: ∃a n c,av= .slice a n c:=by
        rcases hB.row.2 with ⟨rfl,_⟩|⟨g,cap,cur,rfl,_⟩<;>exact⟨_,_,_,rfl⟩
      obtain⟨s0,s1,s2,s3,s4⟩:=hB.box.q5;have HA:=Lh hA;have HB:=Lh hB;have HAT:=Lh hat;clear hA hB hat hst hex hfu hlK hfew hok HRS HRS2;generalize putSv ⟨n,ct,J.1,l⟩=PV at*;have hd:(decide (0<mj)=true/\(p.e==0)=false)\/decide (0<mj)=false:=by
        by_cases hm:0<mj
        · exact .inl ⟨dt0 hm,by rw[bq0];exact fun e=>hgo ⟨hm,e⟩⟩
        · exact .inr (df0 hm)
      clear hgo;rcases hd with ⟨d1,d2⟩|d1
      all_goals
        go_upto_region 15 with (first|(go_at_call 7;refine HPT.o.mono ?_;rintro e w2 ⟨rfl,hb2⟩)|fail)
        have hA2:=HA.o.more hb2;have e0:=hA2.r3.E.cell 0;have HA2:=Lh hA2;have HB2:Hd (SvB w S JB n ct J.1.par (.slice na J.1.nodes.length ncap) J.1.nodes (.slice sa sl scap) l w2):=HB.o.fr (X:=fun _=>False) (Fr.of_new hb2) (fun _ h=>h.elim);clear hA2 hb2 s0 s1 s2 s3 s4 HPT HAT HA HB;clear d1
        (try clear d2)
        go_cut [75] (fun c wx=> ∃bb:Bool,c= .bool bb/\(bb=false↔(p.e=0/\PV.2=0/\bstr PV.1=b))/\wx=w2)
        case first=>
          by_cases h1:p.e=0
          · have d1:(p.e !=0)=false:=by simpa using h1
            by_cases h2:PV.2=0
            · have d2:(PV.2 !=0)=false:=by simpa using h2
              by_cases h3:bstr PV.1=b
              · have e9:Hd (p.e=0/\PV.2=0/\bstr PV.1=b):=⟨h1,h2,h3⟩
                have d3:((bstr PV.1).toList==b.toList)=true:=by rw[eql_dec];exact dt0 h3
                have d4:((bstr PV.1).toList !=b.toList)=false:=by rw[bne,d3];rfl
                clear h1 h2 h3
                go_wp2_with fail
                go_meet;exact⟨false,rfl,⟨fun _=>e9.o,fun _=>rfl⟩,rfl⟩
              · have e9:Hd (¬(p.e=0/\PV.2=0/\bstr PV.1=b)):=fun h=>h3 h.2.2
                have d3:((bstr PV.1).toList==b.toList)=false:=by rw[eql_dec];exact df0 h3
                have d4:((bstr PV.1).toList !=b.toList)=true:=by rw[bne,d3];rfl
                clear h1 h2 h3
                go_wp2_with fail
                go_meet;exact⟨true,rfl,⟨fun h=>(by cases h),fun h=>absurd h e9.o⟩,rfl⟩
            · have e9:Hd (¬(p.e=0/\PV.2=0/\bstr PV.1=b)):=fun h=>h2 h.2.1
              have d2:(PV.2 !=0)=true:=by simpa using h2
              clear h1 h2
              go_wp2_with fail
              go_meet;exact⟨true,rfl,⟨fun h=>(by cases h),fun h=>absurd h e9.o⟩,rfl⟩
          · have e9:Hd (¬(p.e=0/\PV.2=0/\bstr PV.1=b)):=fun h=>h1 h.1
            have d1:(p.e !=0)=true:=by simpa using h1
            clear h1
            go_wp2_with fail
            go_meet;exact⟨true,rfl,⟨fun h=>(by cases h),fun h=>absurd h e9.o⟩,rfl⟩
        case rest=>
          obtain⟨bb,rfl,hbb,rfl⟩:=hcut;clear e0;obtain⟨r0,r1,r2,r3,r4⟩:=HA2.o.res.q5;obtain⟨f0,f1,f2,f3,f4⟩:=HA2.o.res.u5
          cases bb
          · have hG:=hbb.1 rfl
            have HTK2:Hd (takeSv b=(⟨n,ct,J.1,l⟩,0)):=by show _=_;rw[HTK.o,if_pos hG]
            clear hG HTK hbb;obtain⟨s0,s1,s2,s3,s4⟩:=HB2.o.box.q5;have hres:=HA2.o.res;have g2:Blk (((((wc.setCell ⟨w.heap.size,0,none⟩ (.int .i64 n)).setCell ⟨w.heap.size,1,none⟩ (.int .i64 ct)).setCell ⟨w.heap.size,2,none⟩ (.int .i64 J.1.par)).setCell ⟨w.heap.size,3,none⟩ (.slice na J.1.nodes.length ncap)).setCell ⟨w.heap.size,4,none⟩ (.slice sa sl scap)) w.heap.size 27 #[.int .i64 n,.int .i64 ct,.int .i64 J.1.par,.slice na J.1.nodes.length ncap,.slice sa sl scap]:=((((hres.set 0 (.int .i64 n)).set 1 (.int .i64 ct)).set 2 (.int .i64 J.1.par)).set 3 (.slice na J.1.nodes.length ncap)).set 4 (.slice sa sl scap);have hfr:Fr (fun i=>i=w.heap.size) wc (((((wc.setCell ⟨w.heap.size,0,none⟩ (.int .i64 n)).setCell ⟨w.heap.size,1,none⟩ (.int .i64 ct)).setCell ⟨w.heap.size,2,none⟩ (.int .i64 J.1.par)).setCell ⟨w.heap.size,3,none⟩ (.slice na J.1.nodes.length ncap)).setCell ⟨w.heap.size,4,none⟩ (.slice sa sl scap)):=(((((Fr.refl (fun i=>i=w.heap.size) wc).setCell (p:=⟨w.heap.size,0,none⟩) (.inl rfl) _).setCell (p:=⟨w.heap.size,1,none⟩) (.inl rfl) _).setCell (p:=⟨w.heap.size,2,none⟩) (.inl rfl) _).setCell (p:=⟨w.heap.size,3,none⟩) (.inl rfl) _).setCell (p:=⟨w.heap.size,4,none⟩) (.inl rfl) _;clear hres
            go_wp2_with fail
            refine bodyPost_ret (v:= .tuple #[.agg #[_,_,_,_,_],_]) (results_cell_row2P rfl _ _ w.heap.size 27 _ (0,0) _ rfl g2 underlying27 rfl ?_ (.int .i64 0) rfl) rfl ?_
            · as_aux_lemma=>kernel_rfl
            have hB5:=HB2.o.fr hfr (fun k e=>by omega);rw[HTK2.o];exact⟨⟨_,rfl,_,_,rfl,hB5.nodes.mono (fun c hc=>by have:=hB5.lt.2;omega),(staRd_own hB5.row).keep (fun c hc=>by have:=hB5.lt.1;omega) (fun _ _=>rfl)⟩,HA2.o.below.trans (hfr.below HA2.o.below.size (fun k hk e=>by omega))⟩
          · have hG: ¬(p.e=0/\PV.2=0/\bstr PV.1=b):=fun h=>by have:=hbb.2 h;cases this
            have HTK2:Hd (takeSv b=(sv0,230)):=by show _=_;rw[HTK.o,if_neg hG]
            clear hG HTK hbb;have hres:=HA2.o.res;have g2:Blk (((((wc.setCell ⟨w.heap.size,0,none⟩ (.int .i64 0)).setCell ⟨w.heap.size,1,none⟩ (.int .i64 0)).setCell ⟨w.heap.size,2,none⟩ (.int .i64 0)).setCell ⟨w.heap.size,3,none⟩ (.slice none 0 0)).setCell ⟨w.heap.size,4,none⟩ (.slice none 0 0)) w.heap.size 27 #[.int .i64 0,.int .i64 0,.int .i64 0,.slice none 0 0,.slice none 0 0]:=((((hres.set 0 (.int .i64 0)).set 1 (.int .i64 0)).set 2 (.int .i64 0)).set 3 (.slice none 0 0)).set 4 (.slice none 0 0);have hfr:Fr (fun i=>i=w.heap.size) wc (((((wc.setCell ⟨w.heap.size,0,none⟩ (.int .i64 0)).setCell ⟨w.heap.size,1,none⟩ (.int .i64 0)).setCell ⟨w.heap.size,2,none⟩ (.int .i64 0)).setCell ⟨w.heap.size,3,none⟩ (.slice none 0 0)).setCell ⟨w.heap.size,4,none⟩ (.slice none 0 0)):=(((((Fr.refl (fun i=>i=w.heap.size) wc).setCell (p:=⟨w.heap.size,0,none⟩) (.inl rfl) _).setCell (p:=⟨w.heap.size,1,none⟩) (.inl rfl) _).setCell (p:=⟨w.heap.size,2,none⟩) (.inl rfl) _).setCell (p:=⟨w.heap.size,3,none⟩) (.inl rfl) _).setCell (p:=⟨w.heap.size,4,none⟩) (.inl rfl) _;clear hres
            go_wp2_with fail
            refine bodyPost_ret (v:= .tuple #[.agg #[_,_,_,_,_],_]) (results_cell_row2P rfl _ _ w.heap.size 27 _ (0,0) _ rfl g2 underlying27 rfl ?_ (.int .i64 230) rfl) rfl ?_
            · as_aux_lemma=>kernel_rfl
            rw[HTK2.o];exact⟨⟨_,rfl,_,_,rfl,NodesIn.nil _ _,StaRd.nil _ _⟩,HA2.o.below.trans (hfr.below HA2.o.below.size (fun k hk e=>by omega))⟩
