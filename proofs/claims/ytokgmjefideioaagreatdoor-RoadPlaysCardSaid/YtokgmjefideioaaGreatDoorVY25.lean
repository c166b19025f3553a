/- Parts. -/
import Derived.Shelf.RegionOpen
import Derived.OwnWalkIn
import Derived.LoopNIn
import Derived.LoopIn
import Derived.Test.YtokgmjefideioaaGreatDoorVW17
import Derived.Test.YtokgmjefideioaaGreatDoorVY21
namespace Go.Proofs.YtokgmjefideioaaGreatDoor
open Go.RowKit
set_option linter.unusedVariables false
set_option linter.unusedSimpArgs false
set_option maxRecDepth 100000
set_option maxHeartbeats 16000000
open Tryz
section
open Go.RowKit Go.Shelf
theorem All_c (s:ByteArray) (w:World):Calls prog 72 #[.string s] w fun e w'=>e= .returned (.func (.func 106) #[] #[.pointer (some ⟨w.heap.size,0,none⟩)])/\w'=w.alloc (.cells #[.string s] 9):=by
 have hmf: ∀(fn:Fn) (first cap:Array Value) (w:World),(Instr.makeFunc fn first cap).run prog w= .ok (.func fn first cap) w:=fun _ _ _ _=>rfl;go_enter func72,ntmps72
 go_wp2_with fail
 go_ret;exact⟨rfl,rfl⟩
def frmV (p:Frm):Array Value:=#[.int .u8 (p.1:Int),.string p.2]
theorem all_box (n bs:Nat) (s:ByteArray) (hs:s.size<=140737488355328) (w:World) (hb:Blk w bs 9 #[.string s]):IterBox Fence.wide n prog 106 #[.pointer (some ⟨bs,0,none⟩)] frmV bs (allF s) w:=by
 intro l J W hJ hbs hsz hY h0;have hbW:Blk W bs 9 #[.string s]:=by unfold Blk;rw[hbs];exact hb
 show CallsIn Fence.wide n prog 106 #[.func (.yield l) #[] #[],.pointer (some ⟨bs,0,none⟩)] W _;have HY:=Lh hY;have HJ:=Lh hJ;clear hY hJ hbs hb;refine callsIn_of_wp func106 rfl trivial ?_ rfl;simp only[ntmps106,List.size_toArray,List.length_cons,List.length_nil,Nat.reduceAdd,Nat.reduceSub,Array.replicate_succ,Array.replicate_zero,List.push_toArray,List.append_toArray,List.nil_append,List.cons_append]
 gi_wp2
 gi_loopw [3,4,5,6] (fun _ _ _ _ wr=> ∃(pre:List Frm) (u:ByteArray),allF s=pre++allF u/\u.size<=s.size/\J pre wr/\Blk wr bs 9 #[.string u]/\w.heap.size<=wr.heap.size)
  (fun _ _ _ _ wr=>match wr.cell? ⟨bs,0,none⟩with|some (.string u)=>u.size|_=>0)
 case atStart=>exact⟨[],s,rfl,le0,h0,hbW,hsz⟩
 case round=>
  obtain⟨pre,u,hpre,hus,hJp,hbu,hsz2⟩:=hrel;have c0:=hbu.cell 0;have HT:=Lh (callsIn_wide (n:=n-1).2 (FTake_c u (by omega) wr));have hle:=takeF_le u;by_cases he:(takeF u).2.2.2=0
  ·have hst:=allF_step u he;obtain⟨k,hk,hku,hk5⟩:=hle;have hk5':=hk5 he;have hk1:=(takeF_back u he);generalize takeF u=t at*;obtain⟨kd,pl,sz,er⟩:=t;dsimp only at he hk hst HT hk1;subst he;subst hk;rw[Int.toNat_natCast]at hst;rw[hst]at hpre;have HPRE:=Lh hpre;have HYC:Hd (∀w2,Below wr.heap.size wr w2->YieldAt Fence.wide (n-1) prog l (frmV (kd,pl)) w2 fun e W'=>e= .returned (.bool true)/\J (pre++ [(kd,pl)]) W'/\W'.heap[bs]? =w2.heap[bs]? /\w2.heap.size<=W'.heap.size):=
    fun w2 h2=>HY.o pre (kd,pl) w2 (HJ.o _ _ _ hJp (Fr.of_new h2)) ⟨allF (u.extract k u.size),by rw[hpre];simp⟩
   clear hst hpre hk1 hk5;have hk0:(0:Int)<=(k:Int):=by omega
   have hku2:(k:Int)<=(u.size:Int):=by omega
   have HBU:=Lh hbu;clear hbu c0;have c0:=HBU.o.cell 0;have hszu:u.size<=140737488355328:=by omega
   have HC0:Hd (wr.cell? ⟨bs,0,none⟩=some (.string u)):=c0
   gi_wp2
   refine⟨trivial,fun h=>absurd h (by simp[Fence.wide]),HT.o.mono ?_⟩;rintro e w2 ⟨rfl,hb2⟩;obtain⟨fn,tmps,assign,body,hy,hR⟩:=HYC.o w2 hb2;dsimp only[frmV]at hy;have HR:=Lh hR;clear hR HT
   gi_wp2
   refine⟨fun h=>absurd h (by simp[Fence.wide]),HR.o.mono ?_⟩;rintro e W3 ⟨rfl,hJ3,hb3,hs3⟩;have hbu3:Blk W3 bs 9 #[.string u]:=by unfold Blk;rw[hb3];exact HBU.o.below hb2 HBU.o.lt
   have c3:=hbu3.cell 0;have f3:=hbu3.free 0;have HB3:=Lh hbu3;have HS3:Hd (w.heap.size<=W3.heap.size):=le1 hsz2 (le1 hb2.size hs3);have HJ3:=Lh hJ3;clear hbu3 hb3 hs3 hb2 hJ3 c0 HBU hy HR HYC
   gi_wp2
   go_roundw
   case rel=>
    refine⟨pre++ [(kd,pl)],u.extract k u.size,by rw[HPRE.o];simp,by rw[ByteArray.size_extract];omega,?_,HB3.o.set 0 _,by simpa[World.setCell]using HS3.o⟩;exact HJ.o _ _ _ HJ3.o ((Fr.refl (fun x=>x=bs) W3).setCell (p:=⟨bs,0,none⟩) (.inl rfl) _)
   case measure=>
    have e1:(W3.setCell ⟨bs,0,none⟩ (.string (u.extract k u.size))).cell? ⟨bs,0,none⟩=some (.string (u.extract k u.size)):=(HB3.o.set 0 (.string (u.extract k u.size))).cell 0;rw[HC0.o,e1];show(u.extract k u.size).size<u.size;rw[ByteArray.size_extract];omega
  ·have d1:((takeF u).2.2.2 !=0)=true:=by simpa using he
   have HST:=Lh (allF_stop u he);generalize takeF u=t at*
   gi_wp2
   refine⟨trivial,fun h=>absurd h (by simp[Fence.wide]),HT.o.mono ?_⟩;rintro e w2 ⟨rfl,hb2⟩
   gi_wp2
   refine⟨fun f h=>(by cases h),?_⟩
   gi_wp2
   refine bodyPost_ret (results_none rfl _ _ _) rfl ?_;refine⟨⟨_,rfl⟩,?_⟩;rw[hpre,HST.o,List.append_nil];exact HJ.o _ _ _ hJp (Fr.of_new hb2)
end
def recGo:Nat->List Frm->List Value
 |_,[]=> []
 |n,p::l=> .int .u8 (p.1:Int):: .string p.2:: .int .i64 ((n+(frL p.1 p.2).length:Nat):Int)::recGo (n+(frL p.1 p.2).length) l
theorem recGo_snoc: ∀(n:Nat) (l:List Frm) (p:Frm),recGo n (l++ [p])=recGo n l++ [.int .u8 (p.1:Int),.string p.2,.int .i64 ((n+(frs l).length+(frL p.1 p.2).length:Nat):Int)]
 |n,[],p=>by simp[recGo,frs_nil]
 |n,q::l,p=>by
  simp only[List.cons_append,recGo]
  rw[recGo_snoc _ l p,frs_cons,la0,show n+(frL q.1 q.2).length+(frs l).length=n+((frL q.1 q.2).length+(frs l).length) by omega]
theorem recGo_at: ∀(n:Nat) (l:List Frm) (k:Nat) (h:k<l.length),(recGo n l)[k*3]? =some (.int .u8 (l[k].1:Int))/\(recGo n l)[k*3+1]? =some (.string l[k].2)/\(recGo n l)[k*3+2]? =some (.int .i64 ((n+(frs (l.take (k+1))).length:Nat):Int))
 |n,p::l,0,_=>by
  refine⟨rfl,rfl,?_⟩
  show some _=some _
  rw[List.take_succ_cons,List.take_zero,frs_cons,frs_nil,List.append_nil]
 |n,p::l,k+1,h=>by
  obtain⟨h1,h2,h3⟩:=recGo_at (n+(frL p.1 p.2).length) l k (by simpa using h)
  have e: ∀j,(recGo n (p::l))[(k+1)*3+j]? =(recGo (n+(frL p.1 p.2).length) l)[k*3+j]? :=fun j=>by
   rw[show(k+1)*3+j=(k*3+j)+1+1+1 by omega]
   rfl
  refine⟨(e 0).trans h1,(e 1).trans h2,?_⟩
  rw[e 2,h3,List.take_succ_cons,frs_cons,la0,show n+(frL p.1 p.2).length+(frs (l.take (k+1))).length=n+((frL p.1 p.2).length+(frs (l.take (k+1))).length) by omega]
def recL (l:List Frm):List Value:=recGo 0 l
def RecAt (w:World) (v:Value) (l:List Frm):Prop:=w.ownsRow 0 133 3 v l.length (recL l)
theorem RecAt.slice {w:World} {v:Value} {l:List Frm} (h:RecAt w v l): ∃a cap,v= .slice a l.length cap/\l.length<=cap/\cap<=maxLen:=by
 rcases h.2 with ⟨rfl,h0⟩|⟨g,cap,cur,rfl,hb,hg,hn,hc,hs,ht⟩
 ·exact⟨none,0,by rw[h0],by omega,by unfold maxLen;omega⟩
 ·exact⟨_,cap,rfl,hn,hc⟩
theorem RecAt.cells {w:World} {v:Value} {l:List Frm} (h:RecAt w v l) (k:Nat) (hk:k<l.length): ∃g cap,v= .slice (some ⟨g,0,none⟩) l.length cap/\w.cell? ⟨g,k*3,none⟩=some (.int .u8 (l[k].1:Int))/\w.cell? ⟨g,k*3+1,none⟩=some (.string l[k].2)/\
  w.cell? ⟨g,k*3+2,none⟩=some (.int .i64 ((frs (l.take (k+1))).length:Nat)):=by
 rcases h.2 with ⟨rfl,h0⟩|⟨g,cap,cur,rfl,hb,hg,hn,hc,hs,ht⟩
 ·omega
 ·have e: ∀j,j<l.length*3->w.cell? ⟨g,j,none⟩=(recL l)[j]? :=fun j hj=>by
   rw[cell_of_row w g j cur _ (0,0) hg,<-ht,List.getElem?_take,if_pos hj];simp
  obtain⟨h1,h2,h3⟩:=recGo_at 0 l k hk;refine⟨g,cap,rfl,?_,?_,?_⟩
  ·rw[e _ (by omega)];exact h1
  ·rw[e _ (by omega)];exact h2
  ·rw[e _ (by omega),show recL l=recGo 0 l from rfl,h3,Nat.zero_add]
theorem RecAt.keep {w w':World} {v:Value} {l:List Frm} (h:RecAt w v l) (hk: ∀g,rowB v g->w'.heap[g]? =w.heap[g]?):RecAt w' v l:=ownsRow_keep h hk
theorem lend_c (L:Nat) (x0 x1 v x3:Value) (l:List Frm) (k:Nat) (w:World) (hb:Blk w L 126 #[x0,x1,v,x3]) (hr:RecAt w v l) (hk:k<=l.length) (hsz:(frs l).length<=140737488355328):
  Calls prog 74 #[px L,.int .i64 (k:Int)] w fun e w'=>e= .returned (.int .i64 ((frs (l.take k)).length:Nat))/\w=w':=by
 have c2:=hb.cell 2;unfold px;by_cases h0:k=0
 ·subst h0;go_enter func74,ntmps74
  go_wp2_with fail
  go_ret;exact⟨rfl,rfl⟩
 ·obtain⟨m,rfl⟩: ∃m,k=m+1:=⟨k-1,by omega⟩;obtain⟨g,cap,rfl,-,-,e2⟩:=hr.cells m (by omega);obtain⟨_,_,e1,hcap,hmx⟩:=hr.slice;simp only[vs0,true_and]at e1;obtain⟨rfl,rfl⟩:=e1;have d0:(((m+1:Nat):Int)==0)=false:=by rw[bq0];omega
  have hq:((m+1:Nat):Int)=(m:Int)+1:=by omega
  rw[hq]at d0⊢;have hlt:(m:Int)<(l.length:Int):=by omega
  have hlm:l.length<=9223372036854775807:=by unfold maxLen at hmx;omega
  clear hr hq hb hsz hk;generalize (frs (l.take (m+1))).length=z at*;generalize l.length=len at*;go_enter func74,ntmps74
  go_wp2_with fail
  go_ret;exact⟨rfl,rfl⟩
structure LgAt (w:World) (M:Nat->Prop) (L:Nat) (g:Lg) (D:Nat) (d:Dk):Prop where
 file:g.file<16
 recs: ∀p∈g.l,p.ok
 sure:g.sure<=g.l.length
 same:fl d.now g.file=bstr (frs g.l)
 mem:M L
 lt: ∀b,M b->b<w.heap.size
 ex: ∃(MD:Nat->Prop) (lv:Value),DkAt w MD D d/\(∀b,MD b->M b/\b≠L/\ ¬rowB lv b)/\Blk w L 126 #[px D,.int .i64 (g.file:Int),lv,.int .i64 (g.sure:Int)]/\RecAt w lv g.l/\ ∀b,rowB lv b->M b/\b≠L
def LgTo (w w':World) (M:Nat->Prop) (L:Nat) (g':Lg) (D:Nat) (d':Dk):Prop:=Fr M w w'/\ ∃N,(∀b,N b->M b\/w.heap.size<=b)/\LgAt w' N L g' D d'
namespace LgAt
variable {w w':World} {M N:Nat->Prop} {L D:Nat} {g:Lg} {d:Dk}
theorem keep (h:LgAt w M L g D d) (hs:w.heap.size<=w'.heap.size) (hk: ∀b,M b->w'.heap[b]? =w.heap[b]?):LgAt w' M L g D d:=by
 obtain⟨MD,lv,h1,h2,h3,h4,h5⟩:=h.ex;exact⟨h.file,h.recs,h.sure,h.same,h.mem,fun b hb=>lt1 (h.lt b hb) hs,MD,lv,h1.keep hs fun b hb=>hk b (h2 b hb).1,h2,(hk L h.mem).trans h3,h4.keep fun b hb=>hk b (h5 b hb).1,h5⟩
theorem below (h:LgAt w M L g D d) (hb:Below w.heap.size w w'):LgAt w' M L g D d:=h.keep hb.size fun b hm=>hb.block b (h.lt b hm)
theorem toB (h:LgAt w M L g D d) (hb:Below w.heap.size w w'):LgTo w w' M L g D d:=⟨Fr.of_new hb,M,fun _ hb=> .inl hb,h.below hb⟩
theorem disk (h:LgAt w M L g D d): ∃MD,DkAt w MD D d/\(∀b,MD b->M b):=by
 obtain⟨MD,lv,h1,h2,_⟩:=h.ex;exact⟨MD,h1,fun b hb=>(h2 b hb).1⟩
theorem step (h:LgAt w M L g D d) {MD:Nat->Prop} {lv:Value} (h2: ∀b,MD b->M b/\b≠L/\ ¬rowB lv b) (h3:Blk w L 126 #[px D,.int .i64 (g.file:Int),lv,.int .i64 (g.sure:Int)]) (h4:RecAt w lv g.l) (h5: ∀b,rowB lv b->M b/\b≠L)
  {d':Dk} (hT:DkTo w w' MD D d') (hs:fl d'.now g.file=fl d.now g.file):LgTo w w' M L g D d':=by
 obtain⟨hf,K,hK,hd'⟩:=hT;have e: ∀b,M b-> ¬MD b->w'.heap[b]? =w.heap[b]? :=fun b hb hn=>hf.block b (h.lt b hb) hn;refine⟨hf.mono (fun b _ hb=>(h2 b hb).1),fun b=>M b\/K b,fun b hb=>?_,h.file,h.recs,h.sure,hs.trans h.same,.inl h.mem,fun b hb=>?_,K,lv,hd',fun b hb=>?_,?_,?_,fun b hb=>?_⟩
 ·rcases hb with hb|hb
  ·exact .inl hb
  ·rcases hK b hb with hb|hb
   ·exact .inl (h2 b hb).1
   ·exact .inr hb
 ·rcases hb with hb|hb
  ·have:=h.lt b hb;have:=hf.size;omega
  ·exact hd'.lt b hb
 ·refine⟨.inr hb,?_,?_⟩
  ·rcases hK b hb with hb|hb
   ·exact(h2 b hb).2.1
   ·have:=h.lt L h.mem;omega
  ·intro hr;rcases hK b hb with hb|hb
   ·exact(h2 b hb).2.2 hr
   ·have:=h.lt b (h5 b hr).1;omega
 ·exact(e L h.mem (fun hm=>(h2 L hm).2.1 rfl)).trans h3
 ·exact h4.keep fun b hb=>e b (h5 b hb).1 (fun hm=>(h2 b hm).2.2 hb)
 ·exact⟨.inl (h5 b hb).1,(h5 b hb).2⟩
end LgAt
theorem LgTo.trans {w w1 w2:World} {M:Nat->Prop} {L D:Nat} {g1 g2:Lg} {d1 d2:Dk} (h:LgTo w w1 M L g1 D d1) (k: ∀N,LgAt w1 N L g1 D d1->LgTo w1 w2 N L g2 D d2):LgTo w w2 M L g2 D d2:=by
 obtain⟨hf,N,hN,h1⟩:=h;obtain⟨hf2,N2,hN2,h2⟩:=k N h1;refine⟨hf.step hf2 (fun _ _ h=>h) (fun i hi hn=>?_),N2,fun b hb=>?_,h2⟩
 ·rcases hN i hn with h|h
  ·exact h
  ·omega
 ·rcases hN2 b hb with h|h
  ·rcases hN b h with h|h
   ·exact .inl h
   ·exact .inr h
  ·exact .inr (le1 hf.size h)
theorem lLen_c (w:World) (M:Nat->Prop) (L:Nat) (g:Lg) (D:Nat) (d:Dk) (h:LgAt w M L g D d):Calls prog 42 #[px L] w fun e w'=>e= .returned (.int .i64 g.l.length)/\w=w':=by
 obtain⟨MD,lv,h1,h2,h3,h4,h5⟩:=h.ex;obtain⟨a,cap,rfl,_,_⟩:=h4.slice;have c2:=h3.cell 2;unfold px;clear h1 h2 h3 h4 h5 h;go_enter func42,ntmps42
 go_wp2_with fail
 go_ret;exact⟨rfl,rfl⟩
theorem drewN_below (w:World) (n:Nat):Below w.heap.size w (w.drewN n):=below_drewN br0 n
theorem lAt_c (w:World) (M:Nat->Prop) (L:Nat) (g:Lg) (D:Nat) (d:Dk) (h:LgAt w M L g D d) (k:Nat) (hk:k<g.l.length):CB prog 43 #[px L,.int .i64 (k:Int)] w (.tuple #[.int .u8 (g.l[k].1:Nat),.string g.l[k].2,.int .i64 0]):=by
 obtain⟨MD,lv,h1,h2,h3,h4,h5⟩:=h.ex;obtain⟨a,cap,rfl,e0,e1,-⟩:=h4.cells k hk;obtain⟨_,_,e2,hcap,hmx⟩:=h4.slice;simp only[vs0,true_and]at e2;obtain⟨rfl,rfl⟩:=e2;have c2:=h3.cell 2;have hlm:g.l.length<=9223372036854775807:=by unfold maxLen at hmx;omega
 have d0: ¬(k:Int)<0:=by omega
 have d1:decide ((g.l.length:Int)<=(k:Int))=false:=df0 (by omega);have d2:(k:Int)<(g.l.length:Int):=by omega
 have hk0:(0:Int)<=(k:Int):=by omega
 generalize g.l[k]=p at*;have HK:=Lh hk;unfold px;clear h1 h2 h3 h4 h5 h hk;generalize g.l.length=len at*;go_enter func43,ntmps43
 go_upto_region 5 with fail
 go_quiet (fail)
 go_wp2_with fail
 go_ret3;exact⟨rfl,drewN_below w _⟩
theorem DkTo.undrew {w w':World} {M:Nat->Prop} {D:Nat} {d:Dk} (h:DkTo w.drew w' M D d):DkTo w w' M D d:=⟨h.1.undrew,h.2⟩
theorem LgTo.drew {w w':World} {M:Nat->Prop} {L D:Nat} {g:Lg} {d:Dk} (h:LgTo w w' M L g D d):LgTo w w'.drew M L g D d:=
 let ⟨hf,N,hN,h1⟩:=h;⟨hf.drew,N,hN,h1.keep le0 fun _ _=>rfl⟩
theorem LgTo.of_below {w w1 w':World} {M:Nat->Prop} {L D:Nat} {g:Lg} {d:Dk} (hb:Below w.heap.size w w1) (h:LgTo w1 w' M L g D d):LgTo w w' M L g D d:=
 let ⟨hf,N,hN,h1⟩:=h;⟨(Fr.of_new hb).trans hf,N,fun b q=>(hN b q).imp id (fun e=>le1 hb.size e),h1⟩
theorem sync_now (d:Dk):d.sync.1.now=d.now:=by
 obtain⟨o0,o1,o2,o3⟩:=Dk.op_same d;unfold Dk.sync;split
 ·rfl
 ·split
  ·exact o1
  ·exact o1
theorem LgAt.setSure {w:World} {M:Nat->Prop} {L D:Nat} {g:Lg} {d:Dk} (h:LgAt w M L g D d) (n:Nat) (hn:n<=g.l.length):LgTo w (w.setCell ⟨L,3,none⟩ (.int .i64 (n:Int))) M L ⟨g.file,g.l,n⟩ D d:=by
 obtain⟨MD,lv,h1,h2,h3,h4,h5⟩:=h.ex;have hf:Fr (· =L) w (w.setCell ⟨L,3,none⟩ (.int .i64 (n:Int))):=(Fr.refl (fun x=>x=L) w).setCell (p:=⟨L,3,none⟩) (.inl rfl) _;exact⟨hf.mono (fun b _ e=>e▸h.mem),M,fun _ hb=> .inl hb,h.file,h.recs,hn,h.same,h.mem,fun b hb=>lt1 (h.lt b hb) hf.size,MD,lv,h1.fr hf (fun b hb=>(h2 b hb).2.1),h2,h3.set 3 _,h4.keep fun b hb=>hf.block b (h.lt b (h5 b hb).1) (h5 b hb).2,h5⟩
theorem lSync_c (w:World) (M:Nat->Prop) (L:Nat) (g:Lg) (D:Nat) (d:Dk) (h:LgAt w M L g D d):
  Calls prog 56 #[px L] w fun e w'=>e= .returned (.int .i64 (Lg.sync d g).2.2)/\LgTo w w' M L (Lg.sync d g).2.1 D (Lg.sync d g).1:=by
 obtain⟨MD,lv,h1,h2,h3,h4,h5⟩:=h.ex;obtain⟨a,cap,rfl,hcap,hmx⟩:=h4.slice;have c0:=h3.cell 0;have c2:=h3.cell 2;have c3:=h3.cell 3;have HE:Hd (Lg.sync d g=if g.sure=g.l.length then(d,g,0)else if d.sync.2≠0 then(d.sync.1,g,d.sync.2)else(d.sync.1,⟨g.file,g.l,g.l.length⟩,0)):=rfl;generalize Lg.sync d g=R at*;have HH:=Lh h;have H2:=Lh h2;have H3:=Lh h3;have H4:=Lh h4;have H5:=Lh h5;have HS:Hd (∀W:World,Below w.heap.size w W->Calls prog 37 #[px D] W fun e w'=>e= .returned (.int .i64 d.sync.2)/\DkTo W w' MD D d.sync.1):=fun W hb=>Sync_c W MD D d (h1.keep hb.size fun b hm=>hb.block b (h1.lt b hm));have HSN:=Lh (sync_now d);have hlm:g.l.length<=9223372036854775807:=by unfold maxLen at hmx;omega
 have HD1:=Lh h1;unfold px at c0 HS⊢;clear h h1 h2 h3 h4 h5;by_cases hs:g.sure=g.l.length
 ·rw[if_pos hs]at HE;have d1:((g.sure:Int)==(g.l.length:Int))=true:=by rw[beq_iff_eq];omega
  clear hs;generalize g.l.length=len at*;generalize g.sure=sr at*;go_enter func56,ntmps56
  go_upto_region 3 with fail
  go_quiet (fail)
  go_wp2_with fail
  go_ret;rw[HE.o];exact⟨rfl,HH.o.toB (drewN_below w _)⟩
 ·rw[if_neg hs]at HE;have d1:((g.sure:Int)==(g.l.length:Int))=false:=by rw[bq0];omega
  clear hs;by_cases he:d.sync.2=0
  ·rw[if_neg (by simpa using he)]at HE;rw[he]at HS;clear he;have HQ:=Lh (fun w' (hT:DkTo w w' MD D d.sync.1)=>HH.o.step H2.o H3.o H4.o H5.o hT (by rw[HSN.o]));generalize d.sync.1=d1' at*;go_enter func56,ntmps56
   go_upto_region 3 with fail
   go_quiet (fail)
   have HBq:=Lh (drewN_below w nq);have HSq:=Lh (HS.o (w.drewN nq) HBq.o);have c0:=(HBq.o.cell (p:=⟨L,0,none⟩) (HH.o.lt L HH.o.mem)).trans c0;generalize hW:w.drewN nq=W at*
   go_upto_region 7 with (first|(go_at_call 37;refine HSq.o.mono ?_;rintro e w1 ⟨rfl,hT⟩)|fail)
   have hTw:LgTo w w1 M L g D d1':=HQ.o w1 ⟨by rw[<-hW]at hT;exact⟨hT.1.os,hT.1.tape,hT.1.output,hT.1.size,hT.1.block⟩,by obtain⟨_,K,hK,hd⟩:=hT;exact⟨K,fun b hb=>(hK b hb).imp id (fun e=>by rw[<-hW]at e;exact e),hd⟩⟩;have HTW:=Lh hTw;have hk: ∀b,b<w.heap.size-> ¬MD b->w1.heap[b]? =w.heap[b]? :=fun b hb hn=>(hT.1.block b (by rw[<-hW];exact hb) hn).trans (by rw[<-hW];rfl);have hbL:Blk w1 L 126 _:=(hk L (HH.o.lt L HH.o.mem) (fun hm=>(H2.o L hm).2.1 rfl)).trans H3.o;have k2:=hbL.cell 2;have k3:=hbL.cell 3;have g3:=hbL.free 3;have hlt1:=hbL.lt;clear hT hTw hk hbL hW c0 c2 c3
   go_wp2_with fail
   go_ret;rw[HE.o];exact⟨rfl,HTW.o.trans fun N hN=>hN.setSure g.l.length le0⟩
  ·rw[if_pos he]at HE;have d2:(d.sync.2==0)=false:=by rw[bq0];exact he
   clear he;have HQ:=Lh (fun w' (hT:DkTo w w' MD D d.sync.1)=>HH.o.step H2.o H3.o H4.o H5.o hT (by rw[HSN.o]));generalize d.sync=q at*;go_enter func56,ntmps56
   go_upto_region 3 with fail
   go_quiet (fail)
   have HBq:=Lh (drewN_below w nq);have HSq:=Lh (HS.o (w.drewN nq) HBq.o);have c0:=(HBq.o.cell (p:=⟨L,0,none⟩) (HH.o.lt L HH.o.mem)).trans c0;generalize hW:w.drewN nq=W at*
   go_wp2_with (first|(go_at_call 37;refine HSq.o.mono ?_;rintro e w1 ⟨rfl,hT⟩)|fail)
   go_ret;rw[HE.o];exact⟨rfl,HQ.o w1 ⟨by rw[<-hW]at hT;exact⟨hT.1.os,hT.1.tape,hT.1.output,hT.1.size,hT.1.block⟩,by obtain⟨_,K,hK,hd⟩:=hT;exact⟨K,fun b hb=>(hK b hb).imp id (fun e=>by rw[<-hW]at e;exact e),hd⟩⟩⟩
theorem info_rec:(prog.info? 133).map (fun i=>(i.zero,i.size,i.bytes))=some (some (.agg #[.int .u8 0,.string {data:=#[]},.int .i64 0]),3,32):=by kernel_rfl
theorem LgAt.grow {w w2 w3:World} {M MD:Nat->Prop} {L D:Nat} {g:Lg} {d:Dk} {p:Frm} {lv:Value} {q cap:Nat}
  (hfile:g.file<16) (hrecs: ∀p∈g.l,p.ok) (hsure:g.sure<=g.l.length) (hmem:M L) (hltM: ∀b,M b->b<w.heap.size) (hd:DkAt w MD D d) (h2: ∀b,MD b->M b/\b≠L/\ ¬rowB lv b) (h5: ∀b,rowB lv b->M b/\b≠L) (hown:RecAt w lv g.l) (hp:p.ok)
  (hgrow:w.grownBy w2 lv.ownBlock) (hat:lv.ownBlock=some q\/q=w.heap.size) (hlt:q<w2.heap.size)
  (hown2:RecAt w2 (.slice (some ⟨q,0,none⟩) (g.l.length+1) cap) (g.l++ [p]))
  (hb:Blk w3 L 126 #[px D,.int .i64 (g.file:Int),.slice (some ⟨q,0,none⟩) (g.l.length+1) cap,.int .i64 (g.sure:Int)]) (hf3:Fr (· =L) w2 w3)
  (hsame:fl d.now g.file=bstr (frs (g.l++ [p]))):LgTo w w3 M L ⟨g.file,g.l++ [p],g.sure⟩ D d:=by
 have hLl:=hltM L hmem;have hs2:=hgrow.size;have hs3:=hf3.size;have hrow: ∀b,lv.ownBlock=some b->rowB lv b:=by
  intro b hq;rcases hown.2 with ⟨rfl,_⟩|⟨g',cap',cur,rfl,_⟩
  ·simp[Value.ownBlock]at hq
  ·simp[Value.ownBlock]at hq;subst hq;exact⟨_,_,_,rfl⟩
 have hqL:q≠L:=by
  rcases hat with hat|hat
  ·exact(h5 q (hrow q hat)).2
  ·omega
 have keep: ∀b,b<w.heap.size->b≠L->lv.ownBlock≠some b->w3.heap[b]? =w.heap[b]? :=fun b hbl hbL hbo=>by
  rw[hf3.block b (by omega) hbL,hgrow.block b (by omega) (fun e=>hbo e.symm)]
 have fB:Fr M w w2:=⟨hgrow.os,hgrow.tape,hgrow.output,hgrow.size,fun k hk hn=>hgrow.block k hk (fun e=>hn (h5 k (hrow k e.symm)).1)⟩;have fC:Fr (fun b=>M b\/w.heap.size<=b) w2 w3:=hf3.mono (fun k _ e=> .inl (e▸hmem));refine⟨fB.step fC (fun _ _ h=>h) (fun i hi h=>by rcases h with h|h;exact h;omega),fun b=>M b\/b=q,fun b hb=>?_,hfile,?_,?_,hsame,.inl hmem,?_,MD,_,?_,?_,hb,?_,?_⟩
 ·rcases hb with hb|rfl
  ·exact .inl hb
  ·rcases hat with hat|hat
   ·exact .inl (h5 b (hrow b hat)).1
   ·exact .inr (by omega)
 ·intro r hr;rcases List.mem_append.1 hr with hr|hr
  ·exact hrecs r hr
  ·rw[List.mem_singleton.1 hr];exact hp
 ·show g.sure<=(g.l++ [p]).length;rw[la0];omega
 ·rintro b (hb|rfl)
  ·have:=hltM b hb;omega
  ·omega
 ·exact hd.keep (by omega) fun b hb=>keep b (hd.lt b hb) (h2 b hb).2.1 (fun e=>(h2 b hb).2.2 (hrow b e))
 ·intro b hb;refine⟨.inl (h2 b hb).1,(h2 b hb).2.1,?_⟩;rintro ⟨o,n,c,e⟩;simp only[vs0,Option.some.injEq,Addr.mk.injEq]at e;obtain⟨⟨rfl,_⟩,_⟩:=e;rcases hat with hat|hat
  ·exact(h2 q hb).2.2 (hrow q hat)
  ·have:=hd.lt q hb;omega
 ·refine hown2.keep fun b ⟨o,n,c,e⟩=>?_;simp only[vs0,Option.some.injEq,Addr.mk.injEq]at e;obtain⟨⟨rfl,_⟩,_⟩:=e;exact hf3.block q hlt hqL
 ·rintro b ⟨o,n,c,e⟩;simp only[vs0,Option.some.injEq,Addr.mk.injEq]at e;obtain⟨⟨rfl,_⟩,_⟩:=e;exact⟨.inr rfl,hqL⟩
theorem frs_count: ∀l:List Frm,l.length<=(frs l).length
 | []=>ze0
 |p::l=>by
  have:=frs_count l
  rw[frs_cons,la0,frL_len,List.length_cons]
  omega
theorem app_now {d:Dk} (h:d.Inv) (f:Nat) (hf:f<16) (s:ByteArray):((d.append f s).2=0->fl (d.append f s).1.now f=fl d.now f++s)/\((d.append f s).2≠0->(d.append f s).1.now=d.now):=by
 obtain⟨o0,o1,o2,o3⟩:=Dk.op_same d;unfold Dk.append;split
 ·exact⟨fun h=>absurd h (by simp),fun _=>rfl⟩
 split
 ·exact⟨fun h=>absurd h (by simp),fun _=>rfl⟩
 split
 ·exact⟨fun h=>absurd h (by simp),fun _=>rfl⟩
 unfold Dk.change;by_cases he:d.op.2=0
 ·rw[if_pos he];refine⟨fun _=>?_,fun h=>absurd rfl h⟩;rw[Int.toNat_natCast];show fl (d.op.1.now.set f (fl d.op.1.now f++s)) f=_;rw[o1,fl_set _ _ _ _ (by rw[h.now16];exact hf),if_pos rfl]
 ·rw[if_neg he];exact⟨fun h=>absurd h he,fun _=>o1⟩
theorem LgAt.bound {w:World} {M:Nat->Prop} {L D:Nat} {g:Lg} {d:Dk} (h:LgAt w M L g D d) (hd:d.Inv):(frs g.l).length<=4194304:=by
 have h1:=sum_le d.now g.file;have h2:=hd.fits;have h3:=hd.room2;rw[h.same,bstr_size]at h1;omega
theorem lPut_c (w:World) (M:Nat->Prop) (L:Nat) (g:Lg) (D:Nat) (d:Dk) (h:LgAt w M L g D d) (k:Nat) (u:ByteArray) (hk0:0<k) (hk1:k<256) (hu:u.size<=65536) (hll:d.loose.length<=1000000000):
  Calls prog 54 #[px L,.int .u8 (k:Int),.string u] w fun e w'=>e= .returned (.int .i64 (Lg.put d g k u).2.2)/\LgTo w w' M L (Lg.put d g k u).2.1 D (Lg.put d g k u).1:=by
 obtain⟨MD,lv,h1,h2,h3,h4,h5⟩:=h.ex;have hbd:=h.bound h1.inv;obtain⟨a,cap,rfl,hcap,hmx⟩:=h4.slice;have c0:=h3.cell 0;have c1:=h3.cell 1;have HE:Hd (Lg.put d g k u=if(d.append g.file (bstr (frL k u))).2≠0 then((d.append g.file (bstr (frL k u))).1,g,(d.append g.file (bstr (frL k u))).2)else((d.append g.file (bstr (frL k u))).1,⟨g.file,g.l++ [(k,u)],g.sure⟩,0)):=by
  show _=_;unfold Lg.put;rw[if_neg (by omega),if_neg (by omega)]
 have HAN:=Lh (app_now h1.inv g.file h.file (bstr (frL k u)));have hfl:(frL k u).length<=70000:=by have:=(txtL_len u hu).1;rw[frL_len];omega
 have HFP:=Lh (FPut_c k hk0 hk1 u hu w);have HAP:Hd (∀W:World,Below w.heap.size w W->Calls prog 31 #[px D,.int .i64 (g.file:Int),.string (bstr (frL k u))] W fun e w'=>e= .returned (.int .i64 (d.append g.file (bstr (frL k u))).2)/\DkTo W w' MD D (d.append g.file (bstr (frL k u))).1):=
  fun W hb=>Append_c W MD D d (h1.keep hb.size fun b hm=>hb.block b (h1.lt b hm)) g.file (bstr (frL k u)) (by rw[bstr_size];omega) hll
 have hsz:(bstr (frL k u)).size=(frL k u).length:=bstr_size _;have HPO:Hd (Frm.ok (k,u)):=⟨hk0,hk1,hu⟩;have HCT:=Lh (frs_count g.l);have HRS:=Lh (recGo_snoc 0 g.l (k,u));have HBS:=Lh h.same;have HBA:Hd (bstr (frs g.l)++bstr (frL k u)=bstr (frs (g.l++ [(k,u)]))):=by show _=_;rw[bstr_app,frs_app,frs_cons,frs_nil,List.append_nil]
 have HH:=Lh h;have H1:=Lh h1;have H2:=Lh h2;have H3:=Lh h3;have H4:=Lh h4;have H5:=Lh h5;generalize Lg.put d g k u=R at*;generalize d.append g.file (bstr (frL k u))=A at*;obtain⟨d',er⟩:=A;dsimp only at HE HAN HAP;have hlm:g.l.length<=4194304:=by have:=HCT.o;omega
 have HF16:=Lh h.file;unfold px at c0 HAP⊢;clear h h1 h2 h3 h4 h5 hu hk0 hll;have HFS:Hd (bstr (frL k u)=bstr (frL k u)):=rfl;generalize hFS:bstr (frL k u)=FS at*;have HFL:=Lh hFS;clear hFS HFS;have HT:Hd (∀w1 W,Below w.heap.size w W->DkTo W w1 MD D d'->DkTo w w1 MD D d'):=fun w1 W hb hT=>
  ⟨(Fr.of_new hb).trans hT.1,by obtain⟨_,K,hK,hd⟩:=hT;exact⟨K,fun b hb2=>(hK b hb2).imp id (fun e=>le1 hb.size e),hd⟩⟩
 by_cases he:er=0
 ·subst he;rw[if_neg (by simp)]at HE;have hnow:=HAN.o.1 rfl;go_enter func54,ntmps54
  go_upto_region 6 with (first|(go_at_call 73;refine HFP.o.mono ?_;rintro e w1 ⟨rfl,hb1⟩)|fail)
  have c0:=(hb1.cell (p:=⟨L,0,none⟩) (HH.o.lt L HH.o.mem)).trans c0;have c1:=(hb1.cell (p:=⟨L,1,none⟩) (HH.o.lt L HH.o.mem)).trans c1;have HA2:=Lh (HAP.o w1.drew hb1.drew)
  go_cut [9] (fun s9 wx=>s9= .int .i64 0/\DkTo w wx MD D d')
  case first=>
   go_region_with (first|(go_at_call 31;refine HA2.o.mono ?_;rintro e w2 ⟨rfl,hT⟩))
   all_goals
    go_wp2_with fail
    go_meet;exact⟨rfl,HT.o w2 _ hb1.drew hT⟩
  case rest=>
  obtain⟨rfl,hT⟩:=hcut;obtain⟨hf2,K,hK,hd2⟩:=hT;have hLl:=HH.o.lt L HH.o.mem;have hkp: ∀b,b<w.heap.size-> ¬MD b->wc.heap[b]? =w.heap[b]? :=fun b hb hn=>hf2.block b hb hn;have hbL:Blk wc L 126 _:=(hkp L hLl (fun hm=>(H2.o L hm).2.1 rfl)).trans H3.o;have hrec:RecAt wc (.slice a g.l.length cap) g.l:=H4.o.keep fun b hb=>hkp b (HH.o.lt b (H5.o b hb).1) (fun hm=>(H2.o b hm).2.2 hb);have hK2: ∀b,K b->(M b\/K b)/\b≠L/\ ¬rowB (.slice a g.l.length cap) b:=by
   intro b hb;refine⟨.inr hb,?_,?_⟩
   ·rcases hK b hb with hb|hb
    ·exact(H2.o b hb).2.1
    ·omega
   ·intro hr;rcases hK b hb with hb|hb
    ·exact(H2.o b hb).2.2 hr
    ·have:=HH.o.lt b (H5.o b hr).1;omega
  have hK5: ∀b,rowB (.slice a g.l.length cap) b->(M b\/K b)/\b≠L:=fun b hb=>⟨.inl (H5.o b hb).1,(H5.o b hb).2⟩;have hlt2: ∀b,M b\/K b->b<wc.heap.size:=by
   rintro b (hb|hb)
   ·have:=HH.o.lt b hb;have:=hf2.size;omega
   ·exact hd2.lt b hb
  have HEN:Hd (∀W:World,W.heap=wc.heap->Calls prog 74 #[px L,.int .i64 (g.l.length:Int)] W fun e w'=>e= .returned (.int .i64 ((frs g.l).length:Nat))/\W=w'):=by
   intro W hW;have:=lend_c L _ _ _ _ g.l g.l.length W (by unfold Blk;rw[hW];exact hbL) (hrec.keep fun _ _=>by rw[hW]) le0 (by omega);rwa[List.take_length]at this
  unfold px at HEN;have k2:=hbL.cell 2;have m2:=hbL.free 2;have hlL:=hbL.lt;have HFM:Hd (∀w3 g',LgTo wc w3 (fun b=>M b\/K b) L g' D d'->LgTo w w3 M L g' D d'):=by
   rintro w3 g' ⟨hf,N,hN,hl⟩;refine⟨(hf2.mono (fun b _ hb=>(H2.o b hb).1)).step hf (fun _ _ h=>h) (fun i hi h=>?_),N,fun b hb=>?_,hl⟩
   ·rcases h with h|h
    ·exact h
    ·rcases hK i h with h|h
     ·exact(H2.o i h).1
     ·omega
   ·rcases hN b hb with (h|h)|h
    ·exact .inl h
    ·rcases hK b h with h|h
     ·exact .inl (H2.o b h).1
     ·exact .inr h
    ·exact .inr (le1 hf2.size h)
  obtain⟨i0,hi,hz0,hz1,hz2⟩:=info_parts info_rec;have HREC:=Lh hrec;have HBL:=Lh hbL;have hro: ∀q,(Value.slice a g.l.length cap).ownBlock=some q->q≠L:=by
   intro q hq;rcases hrec.2 with ⟨e,_⟩|⟨g',cap',cur,e,_⟩
   ·rw[e]at hq;simp[Value.ownBlock]at hq
   ·rw[e]at hq;simp[Value.ownBlock]at hq;subst hq;exact(hK5 g' ⟨_,_,_,e⟩).2
  have HRO:=Lh hro;have hzy:FS.size=(frL k u).length:=hsz;generalize hz:(frs g.l).length=z at*;generalize hy:(frL k u).length=y at*;have HZ:=Lh hz;have HY:=Lh hy;have HREQ:Hd (recL (g.l++ [(k,u)])=recL g.l++ [.int .u8 (k:Int),.string u,.int .i64 ((z:Int)+(y:Int))]):=by
   have:=HRS.o;rw[Nat.zero_add]at this;show recGo 0 (g.l++ [(k,u)])=recGo 0 g.l++_;rw[this];simp
  have HOA:Hd (World.ownsRow (World.drew (wc.alloc (.cells #[.int .u8 (k:Int),.string u,.int .i64 ((z:Int)+(y:Int))] 133))) 0 133 3 (.slice a g.l.length cap) g.l.length (recL g.l)):=hrec.alloc _;have HNA:Hd (∀j u',([.int .u8 (k:Int),.string u,.int .i64 ((z:Int)+(y:Int))]:List Value)[j]? =some u'->(World.drew (wc.alloc (.cells #[.int .u8 (k:Int),.string u,.int .i64 ((z:Int)+(y:Int))] 133))).cell? ((⟨wc.heap.size,0,none⟩:Addr).add j)=some u'):=World.news_of_block (heap_alloc_new wc _);have HONE:Hd (∀v∈([.int .u8 (k:Int),.string u,.int .i64 ((z:Int)+(y:Int))]:List Value),v.oneCell'=true):=by
   show ∀v∈_,_;intro v hv;simp only[List.mem_cons,List.not_mem_nil,or_false]at hv;rcases hv with rfl|rfl|rfl<;>rfl
  have HBLA:Hd (Blk (World.drew (wc.alloc (.cells #[.int .u8 (k:Int),.string u,.int .i64 ((z:Int)+(y:Int))] 133))) L 126 #[px D,.int .i64 (g.file:Int),.slice a g.l.length cap,.int .i64 (g.sure:Int)]):=hbL.alloc _;have hBX:Below wc.heap.size wc (World.drew (wc.alloc (.cells #[.int .u8 (k:Int),.string u,.int .i64 ((z:Int)+(y:Int))] 133))):=((Below.refl wc.heap.size wc).alloc le0 _).drew;have HG:=Lh (fun q cap2 w2 w3 (h1:((World.drew (wc.alloc (.cells #[.int .u8 (k:Int),.string u,.int .i64 ((z:Int)+(y:Int))] 133)))).grownBy w2 (Value.slice a g.l.length cap).ownBlock) (h2:(Value.slice a g.l.length cap).ownBlock=some q\/q=((World.drew (wc.alloc (.cells #[.int .u8 (k:Int),.string u,.int .i64 ((z:Int)+(y:Int))] 133)))).heap.size) (h3:q<w2.heap.size) (h4:RecAt w2 (.slice (some ⟨q,0,none⟩) (g.l.length+1) cap2) (g.l++ [(k,u)])) h5 h6=>
   LgAt.grow (w:=(World.drew (wc.alloc (.cells #[.int .u8 (k:Int),.string u,.int .i64 ((z:Int)+(y:Int))] 133)))) (w2:=w2) (w3:=w3) (M:=fun b=>M b\/K b) (MD:=K) (L:=L) (D:=D) (g:=g) (d:=d') (p:=(k,u)) (lv:= .slice a g.l.length cap) (q:=q) (cap:=cap2) HF16.o HH.o.recs HH.o.sure (.inl HH.o.mem) (fun b hb=>lt1 (hlt2 b hb) hBX.size) (hd2.below hBX) hK2 hK5 (hrec.keep fun b hb=>hBX.block b (hlt2 b (hK5 b hb).1)) HPO.o h1 h2 h3 h4 h5 h6 (by rw[hnow,HBS.o];exact HBA.o))
  have HBX:=Lh hBX;clear hBX hrec hbL hro hK2 hK5 hlt2 hd2 hkp hK hf2 c0 c1 HA2 hz hy hsz;have hwr:IntKind.i64.wrap ((z:Int)+(y:Int))=(z:Int)+(y:Int):=by rw[IntKind.wrap_i64];omega
  go_upto_region 9 with fail
  go_region_law (first
   |(refine step_append_lies _ (by rfl) _ _ _ (by rfl) 0 133 i0 (.agg #[.int .u8 0,.string {data:=#[]},.int .i64 0]) 3 32 underlying124 hi hz0 hz1 hz2 rfl (by decide) _ g.l.length (recL g.l) (by rfl) HOA.o ⟨wc.heap.size,0,none⟩ 1 1 [.int .u8 (k:Int),.string u,.int .i64 ((z:Int)+(y:Int))] (by rfl) rfl HNA.o HONE.o (by decide) (by unfold maxLen;omega) (by omega) ze0 _ rfl ?_;intro q cap4 w4 hown4 hgrow4 hat4 hlt4;have hb4:=HBLA.o.grown hgrow4 (fun e=>HRO.o _ e.symm rfl);have c4:=hb4.cell 2;have f4:=hb4.free 2)
   |(go_simp;go_at_call 74;refine(HEN.o wc.drew rfl).mono ?_;rintro e w3 ⟨rfl,rfl⟩))
  all_goals
   have HB4:=Lh hb4;have HW4:Hd (RecAt w4 (.slice (some ⟨q,0,none⟩) (g.l.length+1) cap4) (g.l++ [(k,u)])):=by
    show World.ownsRow _ _ _ _ _ _ _;rw[HREQ.o,la0];exact hown4
   have HGR:=Lh hgrow4;have HAT:=Lh hat4;have HL4:=Lh hlt4;clear hb4 hown4 hgrow4 hat4 hlt4 HREQ HNA HOA HONE HREC HBL HRO HEN
   try go_wp2_with fail
   go_ret;rw[HE.o];refine⟨rfl,HFM.o _ _ ((HG.o q cap4 w4 _ HGR.o HAT.o HL4.o HW4.o (HB4.o.set 2 _) ((Fr.refl (fun x=>x=L) w4).setCell (p:=⟨L,2,none⟩) (.inl rfl) _)).of_below HBX.o)⟩
 ·rw[if_pos he]at HE;have hnow:=HAN.o.2 he;have d2:(er !=0)=true:=by simpa using he
  go_enter func54,ntmps54
  go_upto_region 6 with (first|(go_at_call 73;refine HFP.o.mono ?_;rintro e w1 ⟨rfl,hb1⟩)|fail)
  have c0:=(hb1.cell (p:=⟨L,0,none⟩) (HH.o.lt L HH.o.mem)).trans c0;have c1:=(hb1.cell (p:=⟨L,1,none⟩) (HH.o.lt L HH.o.mem)).trans c1;have HA2:=Lh (HAP.o w1.drew hb1.drew)
  go_region_with (first|(go_at_call 31;refine HA2.o.mono ?_;rintro e w2 ⟨rfl,hT⟩))
  all_goals
   go_wp2_with fail
   go_ret;rw[HE.o];exact⟨rfl,HH.o.step H2.o H3.o H4.o H5.o (HT.o w2 _ hb1.drew hT) (by rw[hnow])⟩
section
open Go.RowKit Go.Shelf
def postM (n:Nat) (P:Program) (fn:Func) (R:Ending->World->Prop):Exit->Act->World->Prop
 | .ret,a,w=>bodyPostM Fence.wide n P fn R .ret a w
 |_,_,_=>False
theorem postM_post {n:Nat} {P:Program} {fn:Func} {R:Ending->World->Prop} (e:Exit) (a:Act) (w:World) (h:postM n P fn R e a w):bodyPostM Fence.wide n P fn R e a w:=by
 cases e<;>first|exact h|exact h.elim
theorem ret1 {P:Program} {fn:Func} {R:Ending->World->Prop} {a:Act} {w:World} {v:Value} {n D2:Nat} (hK:w.heap[D2]? =some (.deferred (some []))) (hr:(results fn a.tmps).run P (w.putObj D2 (.deferred none))= .ok v (w.putObj D2 (.deferred none))) (hd:a.defers=[{target:= .collected D2,args:=#[]}])
  (hR:R (.returned v) (w.putObj D2 (.deferred none))):postM n P fn R .ret a w:=by
 show LeavesInM Fence.wide n P fn a.tmps R a.defers .returning w;rw[hd];refine⟨by simp,.inl ⟨_,_,rfl,run_takeDeferred hK,?_⟩⟩;exact⟨v,hr,hR⟩
structure OpR (w1:World) (D f n0:Nat) (pre:List Frm) (W:World):Prop where
 os:W.os=w1.os
 tape:W.tape=w1.tape
 output:W.output=w1.output
 size:n0<=W.heap.size
 old: ∀b,b<w1.heap.size->W.heap[b]? =w1.heap[b]?
 box:Blk W (w1.heap.size+1) 81 #[px w1.heap.size]
 ex: ∃lv,Blk W w1.heap.size 126 #[px D,.int .i64 (f:Int),lv,.int .i64 0]/\W.ownsRow n0 133 3 lv pre.length (recL pre)
theorem OpR.keep {w1 A B:World} {D f n0:Nat} {pre:List Frm} (h0:w1.heap.size+2<n0) (h:OpR w1 D f n0 pre A) (hk:Kept (w1.heap.size+2) n0 A B):OpR w1 D f n0 pre B:=by
 have hsz:=h.size;have e: ∀b,b<n0->b≠w1.heap.size+2->B.heap[b]? =A.heap[b]? :=fun b hb hn=>hk.block b (by omega) hn (.inl hb);obtain⟨lv,h1,h2⟩:=h.ex;refine⟨hk.os.trans h.os,hk.tape.trans h.tape,hk.output.trans h.output,le1 h.size hk.size,fun b hb=>(e b (by omega) (by omega)).trans (h.old b hb),(e _ (by omega) (by omega)).trans h.box,lv,(e _ (by omega) (by omega)).trans h1,h2.1,?_⟩;rcases h2.2 with h2|⟨g,cap,cur,rfl,hb,hg,hr⟩
 ·exact .inl h2
 ·exact .inr ⟨g,cap,cur,rfl,hb,(hk.block g (Array.getElem?_eq_some_iff.1 hg).1 (by omega) (.inr ⟨_,hg,rfl⟩)).trans hg,hr⟩
theorem OpR.snoc {w1 W WX w4:World} {D f n0:Nat} {pre:List Frm} {x:Frm} {lv:Value} {q cap:Nat} (h:OpR w1 D f n0 pre W) (hn:n0=w1.heap.size+3) (hL:Blk W w1.heap.size 126 #[px D,.int .i64 (f:Int),lv,.int .i64 0]) (hown:W.ownsRow n0 133 3 lv pre.length (recL pre))
  (hb:Below W.heap.size W WX) (hgrow:WX.grownBy w4 lv.ownBlock) (hown4:w4.ownsRow n0 133 3 (.slice (some ⟨q,0,none⟩) (pre.length+1) cap) (pre.length+1) (recL (pre++ [x]))) (hqn:n0<=q):
  KeepsOthers W (w4.setCell ⟨w1.heap.size,2,none⟩ (.slice (some ⟨q,0,none⟩) (pre.length+1) cap))/\(w4.setCell ⟨w1.heap.size,2,none⟩ (.slice (some ⟨q,0,none⟩) (pre.length+1) cap)).heap[w1.heap.size+2]? =W.heap[w1.heap.size+2]? /\
  OpR w1 D f n0 (pre++ [x]) (w4.setCell ⟨w1.heap.size,2,none⟩ (.slice (some ⟨q,0,none⟩) (pre.length+1) cap)):=by
 have hsz:=h.size;have hbz:=hb.size;have hgz:=hgrow.size;have hrow: ∀r,lv.ownBlock=some r->n0<=r/\ ∃o:Obj,W.heap[r]? =some o/\o.isCells=true:=by
  intro r hr;rcases hown.2 with ⟨rfl,_⟩|⟨g,cap',cur,rfl,hg0,hg,_⟩
  ·simp[Value.ownBlock]at hr
  ·simp[Value.ownBlock]at hr;subst hr;exact⟨hg0,_,hg,rfl⟩
 have e: ∀b,b<W.heap.size->lv.ownBlock≠some b->w4.heap[b]? =W.heap[b]? :=fun b hb1 hb2=>(hgrow.block b (by omega) (fun e=>hb2 e.symm)).trans (hb.block b hb1);have es: ∀b,b≠w1.heap.size->(w4.setCell ⟨w1.heap.size,2,none⟩ (.slice (some ⟨q,0,none⟩) (pre.length+1) cap)).heap[b]? =w4.heap[b]? :=fun b hb=>heap_setCell_other _ ⟨w1.heap.size,2,none⟩ b _ hb;have el: ∀b,b<n0->lv.ownBlock≠some b:=fun b hb e=>by have:=(hrow b e).1;omega
 have hL4:Blk w4 w1.heap.size 126 _:=(e _ (by omega) (el _ (by omega))).trans hL;refine⟨⟨by simp[World.setCell];omega,fun k o hk ho=>?_⟩,?_,?_⟩
 ·have hk1:k<W.heap.size:=(Array.getElem?_eq_some_iff.1 hk).1;have hkL:k≠w1.heap.size:=by
   rintro rfl;have h2:=hL;unfold Blk at h2;rw[h2]at hk
   cases hk
   cases ho
  rw[es k hkL,e k hk1 ?_]
  ·exact hk
  ·intro hq;obtain⟨_,o2,h2,h3⟩:=hrow k hq;rw[h2]at hk
   cases hk
   rw[h3]at ho
   cases ho
 ·rw[es _ (by omega),e _ (by omega) (el _ (by omega))]
 ·refine⟨hgrow.os.trans (hb.os.trans h.os),hgrow.tape.trans (hb.tape.trans h.tape),hgrow.output.trans (hb.output.trans h.output),by simp[World.setCell];omega,fun b hb2=>?_,?_,_,hL4.set 2 _,?_⟩
  ·rw[es b (by omega),e b (by omega) (el b (by omega))];exact h.old b hb2
  ·show _=_;rw[es _ (by omega),e _ (by omega) (el _ (by omega))];exact h.box
  ·rw[la0];refine ownsRow_keep hown4 fun g ⟨o,n,c,e2⟩=>?_;simp only[vs0,Option.some.injEq,Addr.mk.injEq]at e2;obtain⟨⟨rfl,_⟩,_⟩:=e2;exact es q (by omega)
theorem op_fin {w w1 W Wd:World} {M N:Nat->Prop} {D f D2 cap:Nat} {a:Option Addr} {d':Dk} {l:List Frm} (hb1:Below w.heap.size w w1) (hM: ∀b,M b->b<w.heap.size) (hf16:f<16) (hI:OpR w1 D f (w1.heap.size+3) l W)
  (hL:Blk W w1.heap.size 126 #[px D,.int .i64 (f:Int),.slice a l.length cap,.int .i64 0]) (hown:W.ownsRow (w1.heap.size+3) 133 3 (.slice a l.length cap) l.length (recL l)) (hrecs: ∀p∈l,p.ok)
  (hdef:W.heap[D2]? =some (.deferred (some []))) (hD2:w1.heap.size+3<=D2) (hfW:Fr M W Wd) (hN: ∀b,N b->M b\/W.heap.size<=b) (hd':DkAt Wd N D d') (hsame:fl d'.now f=bstr (frs l)):
  (Wd.setCell ⟨w1.heap.size,3,none⟩ (.int .i64 (l.length:Int))).heap[D2]? =some (.deferred (some []))/\
  Fr M w ((Wd.setCell ⟨w1.heap.size,3,none⟩ (.int .i64 (l.length:Int))).putObj D2 (.deferred none))/\
  ∃K,LgAt ((Wd.setCell ⟨w1.heap.size,3,none⟩ (.int .i64 (l.length:Int))).putObj D2 (.deferred none)) K w1.heap.size ⟨f,l,l.length⟩ D d'/\ ∀b,K b->M b\/w.heap.size<=b:=by
 have hsW:=hI.size;have hs1:=hb1.size;have hsd:=hfW.size;have hD2W:D2<W.heap.size:=(Array.getElem?_eq_some_iff.1 hdef).1;have hg:=grownBy_putObj' (Wd.setCell ⟨w1.heap.size,3,none⟩ (.int .i64 (l.length:Int))) D2 (.deferred none);have hz:((Wd.setCell ⟨w1.heap.size,3,none⟩ (.int .i64 (l.length:Int))).putObj D2 (.deferred none)).heap.size=Wd.heap.size:=by simp[World.setCell]
 have eW: ∀b,b<W.heap.size-> ¬M b->Wd.heap[b]? =W.heap[b]? :=fun b hb hn=>hfW.block b hb hn;have hnM: ∀b,w.heap.size<=b-> ¬M b:=fun b hb hm=>by have:=hM b hm;omega
 have es: ∀b,b≠w1.heap.size->(Wd.setCell ⟨w1.heap.size,3,none⟩ (.int .i64 (l.length:Int))).heap[b]? =Wd.heap[b]? :=fun b hb=>heap_setCell_other _ ⟨w1.heap.size,3,none⟩ b _ hb;have ep: ∀b,b≠D2->((Wd.setCell ⟨w1.heap.size,3,none⟩ (.int .i64 (l.length:Int))).putObj D2 (.deferred none)).heap[b]? =(Wd.setCell ⟨w1.heap.size,3,none⟩ (.int .i64 (l.length:Int))).heap[b]? :=fun b hb=>World.putObj_heap_other hb;have hdd:Wd.heap[D2]? =some (.deferred (some [])):=(eW D2 hD2W (hnM D2 (by omega))).trans hdef;have hrow: ∀g,rowB (.slice a l.length cap) g->w1.heap.size+3<=g/\g<W.heap.size/\g≠D2:=by
  rintro g ⟨o,n,c,e⟩;rcases hown.2 with ⟨e2,_⟩|⟨g',cap',cur,e2,hg0,hgc,_⟩
  ·rw[e2]at e;simp at e
  ·rw[e2]at e;simp only[vs0,Option.some.injEq,Addr.mk.injEq]at e;obtain⟨⟨rfl,_⟩,_⟩:=e;refine⟨hg0,(Array.getElem?_eq_some_iff.1 hgc).1,?_⟩;rintro rfl;rw[hgc]at hdef
   cases hdef
 have hNd: ∀b,N b->b≠D2/\b≠w1.heap.size/\ ¬rowB (.slice a l.length cap) b:=by
  intro b hb;rcases hN b hb with h|h
  ·have:=hM b h;exact⟨by omega,by omega,fun hr=>by have:=(hrow b hr).1;omega⟩
  ·exact⟨by omega,by omega,fun hr=>by have:=(hrow b hr).2.1;omega⟩
 have hLd:Blk Wd w1.heap.size 126 _:=(eW _ (by omega) (hnM _ (by omega))).trans hL;refine⟨(es D2 (by omega)).trans hdd,⟨?_,?_,?_,by omega,fun k hk hn=>?_⟩,fun b=>b=w1.heap.size\/rowB (.slice a l.length cap) b\/N b,⟨hf16,hrecs,le0,hsame,.inl rfl,?_,N,.slice a l.length cap,?_,?_,?_,?_,?_⟩,?_⟩
 ·exact hg.os.trans (hfW.os.trans (hI.os.trans hb1.os))
 ·exact hg.tape.trans (hfW.tape.trans (hI.tape.trans hb1.tape))
 ·exact hg.output.trans (hfW.output.trans (hI.output.trans hb1.output))
 ·rw[ep k (by omega),es k (by omega),eW k (by omega) hn,hI.old k (by omega)];exact hb1.block k hk
 ·rw[hz];rintro b (rfl|hb|hb)
  ·omega
  ·have:=(hrow b hb).2.1;omega
  ·exact hd'.lt b hb
 ·exact hd'.keep (by rw[hz];exact le0) fun b hb=>by rw[ep b (hNd b hb).1,es b (hNd b hb).2.1]
 ·exact fun b hb=>⟨.inr (.inr hb),(hNd b hb).2.1,(hNd b hb).2.2⟩
 ·show _=_;rw[ep _ (by omega)];exact hLd.set 3 _
 ·refine RecAt.keep (w:=W) ⟨hown.1,hown.2.imp id (fun⟨g,c,cur,e,_,r⟩=>⟨g,c,cur,e,ze0,r⟩)⟩ fun g hg=>?_;have:=hrow g hg;rw[ep g this.2.2,es g (by omega),eW g this.2.1 (hnM g (by omega))]
 ·exact fun b hb=>⟨.inr (.inl hb),by have:=(hrow b hb).1;omega⟩
 ·rintro b (rfl|hb|hb)
  ·exact .inr (by omega)
  ·exact .inr (by have:=(hrow b hb).1;omega)
  ·rcases hN b hb with h|h
   ·exact .inl h
   ·exact .inr (by omega)
theorem op_err {w w1 W Wd:World} {M:Nat->Prop} {D f D2:Nat} {d':Dk} {l:List Frm} (hb1:Below w.heap.size w w1) (hM: ∀b,M b->b<w.heap.size) (hI:OpR w1 D f (w1.heap.size+3) l W)
  (hdef:W.heap[D2]? =some (.deferred (some []))) (hD2:w1.heap.size+3<=D2) (hT:DkTo W Wd M D d'):
  Wd.heap[D2]? =some (.deferred (some []))/\DkTo w (Wd.putObj D2 (.deferred none)) M D d':=by
 obtain⟨hfW,N,hN,hd'⟩:=hT;have hsW:=hI.size;have hs1:=hb1.size;have hsd:=hfW.size;have hD2W:D2<W.heap.size:=(Array.getElem?_eq_some_iff.1 hdef).1;have hg:=grownBy_putObj' Wd D2 (.deferred none);have hz:(Wd.putObj D2 (.deferred none)).heap.size=Wd.heap.size:=by simp
 have eW: ∀b,b<W.heap.size-> ¬M b->Wd.heap[b]? =W.heap[b]? :=fun b hb hn=>hfW.block b hb hn;have ep: ∀b,b≠D2->(Wd.putObj D2 (.deferred none)).heap[b]? =Wd.heap[b]? :=fun b hb=>World.putObj_heap_other hb;have hnM: ¬M D2:=fun hm=>by have:=hM _ hm;omega
 refine⟨(eW D2 hD2W hnM).trans hdef,⟨hg.os.trans (hfW.os.trans (hI.os.trans hb1.os)),hg.tape.trans (hfW.tape.trans (hI.tape.trans hb1.tape)),hg.output.trans (hfW.output.trans (hI.output.trans hb1.output)),by omega,fun k hk hn=>?_⟩,N,fun b hb=>?_,hd'.keep (by rw[hz];exact le0) fun b hb=>ep b ?_⟩
 ·rw[ep k (by omega),eW k (by omega) hn,hI.old k (by omega)];exact hb1.block k hk
 ·rcases hN b hb with h|h
  ·exact .inl h
  ·exact .inr (by omega)
 ·rcases hN b hb with h|h
  ·have:=hM b h;omega
  ·omega
theorem cut_now {d:Dk} (h:d.Inv) (f:Nat) (hf:f<16) (n:Nat):(d.cut f n).2=0->fl (d.cut f n).1.now f=(fl d.now f).extract 0 n:=by
 obtain⟨o0,o1,o2,o3⟩:=Dk.op_same d;unfold Dk.cut;split
 ·exact fun h=>absurd h (by simp)
 split
 ·exact fun h=>absurd h (by simp)
 split
 ·exact fun h=>absurd h (by simp)
 unfold Dk.change;by_cases he:d.op.2=0
 ·rw[if_pos he];intro _;rw[Int.toNat_natCast,Int.toNat_natCast];show fl (d.op.1.now.set f ((fl d.op.1.now f).extract 0 n)) f=_;rw[o1,fl_set _ _ _ _ (by rw[h.now16];exact hf),if_pos rfl]
 ·rw[if_neg he];exact fun h=>absurd h he
theorem open_same (s:ByteArray):s.extract 0 (frs (allF s)).length=bstr (frs (allF s))/\(s.size<=(frs (allF s)).length->s=bstr (frs (allF s))):=by
 obtain⟨rest,h,_⟩:=allF_spec s;constructor
 ·rw[<-bstr_of (s.extract 0 _)];have:=extract_list s 0 (frs (allF s)).length;rw[Nat.zero_add,List.drop_zero,h,List.take_left]at this;rw[this]
 ·intro hsz;have h2:=congrArg List.length h;rw[<-Lib.size_eq,la0]at h2;have:rest=[]:=List.length_eq_zero_iff.1 (by omega);rw[this,List.append_nil]at h;rw[<-h,bstr_of]
theorem DkTo.trans' {w w1 w2:World} {M N:Nat->Prop} {D:Nat} {d2:Dk} (hf:Fr M w w1) (hN: ∀b,N b->M b\/w.heap.size<=b) (h:DkTo w1 w2 N D d2):DkTo w w2 M D d2:=by
 obtain⟨hf2,N2,hN2,h2⟩:=h;refine⟨hf.step hf2 (fun _ _ h=>h) (fun i hi hn=>?_),N2,fun b hb=>?_,h2⟩
 ·rcases hN i hn with h|h
  ·exact h
  ·omega
 ·rcases hN2 b hb with h|h
  ·exact hN b h
  ·exact .inr (le1 hf.size h)
end
