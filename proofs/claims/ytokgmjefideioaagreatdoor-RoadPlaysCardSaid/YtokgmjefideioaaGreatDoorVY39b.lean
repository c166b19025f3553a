/- Parts. -/
import Derived.Test.YtokgmjefideioaaGreatDoorVY38
import Derived.Test.YtokgmjefideioaaGreatDoorVY39
namespace Go.Proofs.YtokgmjefideioaaGreatDoor
open Go.RowKit
set_option linter.unusedVariables false
set_option linter.unusedSimpArgs false
set_option maxRecDepth 100000
set_option maxHeartbeats 16000000
open Tryz
structure Tr (w:World) (X:Nat->Prop) (W:World) (D D' R R':Nat) (r r':Rdw) (d d':Dk):Prop where
 below:Below w.heap.size w W
 lt: ∀b,X b->b<W.heap.size
 ex: ∃(M P M' F':Nat->Prop) (L L':Nat),RoAt W M P R L r D d/\RRo W M' F' R' L' D' r' d'/\(∀b,M b->w.heap.size<=b/\ ¬M' b/\ ¬F' b/\b≠L'/\b≠R'/\ ¬X b)/\(∀b,P b-> ¬M' b/\b≠L'/\b≠R')/\(∀b,M' b\/b=L'\/b=R'->w.heap.size<=b/\ ¬X b)/\ ∀b,b<w.heap.size->P b/\F' b
namespace Tr
variable {w W W1:World} {X:Nat->Prop} {D D' R R':Nat} {r r' r1:Rdw} {d d' d1:Dk}
theorem prog (h:Tr w X W D D' R R' r r' d d'): ∃M P L,RoAt W M P R L r D d/\(∀b,b<w.heap.size->P b)/\ ∀W1 r1 d1,RoTo W W1 M P R L r1 D d1->Tr w X W1 D D' R R' r1 r' d1 d'/\ ∀b,X b->W1.heap[b]? =W.heap[b]? :=by
 obtain⟨hb,hX,M,P,M',F',L,L',h1,h2,h3,h4,h5,h6⟩:=h;refine⟨M,P,L,h1,fun b q=>(h6 b q).1,fun W1 r1 d1 ⟨hf,N,hN,hr⟩=>⟨⟨hb.trans (hf.below hb.size fun k hk e=>by have:=(h3 k e).1;omega),fun b q=>lt1 (hX b q) hf.size,N,P,M',F',L,L',hr,h2.fr hf (fun b q e=>?_),fun b q=>?_,h4,h5,h6⟩,fun b q=>hf.block b (hX b q) fun e=>(h3 b e).2.2.2.2.2 q⟩⟩
 ·obtain⟨_,e1,e2,e3,e4,_⟩:=h3 b e;rcases q with q|q|q|q
  ·exact e1 q
  ·exact e2 q
  ·exact e3 q
  ·exact e4 q
 ·rcases hN b q with e|e
  ·exact h3 b e
  ·have hz:=fun q=>Nat.lt_irrefl b (lt1 (h2.lt b q) e);exact⟨le1 hb.size e,fun k=>hz (.inl k),fun k=>hz (.inr (.inl k)),fun k=>hz (.inr (.inr (.inl k))),fun k=>hz (.inr (.inr (.inr k))),fun k=>by have:=hX b k;omega⟩
theorem ref (h:Tr w X W D D' R R' r r' d d'): ∃M' F' L',RRo W M' F' R' L' D' r' d'/\(∀b,b<w.heap.size->F' b)/\ ∀W1 r1 d1,RRoTo W W1 M' F' R' L' D' r1 d1->Tr w X W1 D D' R R' r r1 d d1/\ ∀b,X b->W1.heap[b]? =W.heap[b]? :=by
 obtain⟨hb,hX,M,P,M',F',L,L',h1,h2,h3,h4,h5,h6⟩:=h;refine⟨M',F',L',h2,fun b q=>(h6 b q).2,fun W1 r1 d1 ⟨hf,N,G,hN,hG1,hG2,hr⟩=>⟨⟨hb.trans (hf.below hb.size fun k hk e=>by have:=(h5 k e).1;omega),fun b q=>lt1 (hX b q) hf.size,M,P,N,G,L,L',h1.fr hf (fun b q e=>?_),hr,fun b q=>?_,fun b q=>?_,fun b q=>?_,fun b q=>⟨(h6 b q).1,hG1 b (h6 b q).2⟩⟩,fun b q=>hf.block b (hX b q) fun e=>(h5 b e).2 q⟩⟩
 ·rcases q with q|q
  ·obtain⟨_,e1,_,e3,e4,_⟩:=h3 b q;rcases e with e|e|e
   ·exact e1 e
   ·exact e3 e
   ·exact e4 e
  ·obtain⟨e1,e3,e4⟩:=h4 b q;rcases e with e|e|e
   ·exact e1 e
   ·exact e3 e
   ·exact e4 e
 ·have hl:=h1.lt b q;obtain⟨e0,e1,e2,e3,e4,e5⟩:=h3 b q;refine⟨e0,fun k=>?_,fun k=>?_,e3,e4,e5⟩
  ·rcases hN b k with e|e
   ·exact e1 e
   ·omega
  ·rcases hG2 b k with e|e
   ·exact e2 e
   ·omega
 ·have hl:=(h1.dis b q).1;obtain⟨e1,e3,e4⟩:=h4 b q;refine⟨fun k=>?_,e3,e4⟩;rcases hN b k with e|e
  ·exact e1 e
  ·omega
 ·rcases q with q|q
  ·rcases hN b q with e|e
   ·exact h5 b (.inl e)
   ·exact⟨le1 hb.size e,fun k=>by have:=hX b k;omega⟩
  ·exact h5 b (.inr q)
theorem keep (h:Tr w X W D D' R R' r r' d d') (hb:Below W.heap.size W W1):Tr w X W1 D D' R R' r r' d d':=by
 obtain⟨h0,hX,M,P,M',F',L,L',h1,h2,h3,h4,h5,h6⟩:=h;exact⟨h0.trans (hb.mono h0.size),fun b q=>lt1 (hX b q) hb.size,M,P,M',F',L,L',h1.below hb,h2.below hb,h3,h4,h5,h6⟩
theorem mark (h:Tr w X W D D' R R' r r' d d') (o:Obj):Tr w (fun b=>X b\/b=W.heap.size) (W.alloc o) D D' R R' r r' d d':=by
 obtain⟨h0,hX,M,P,M',F',L,L',h1,h2,h3,h4,h5,h6⟩:=h;have hb:=(Below.refl W.heap.size W).alloc le0 o;refine⟨h0.trans (hb.mono h0.size),fun b q=>?_,M,P,M',F',L,L',h1.below hb,h2.below hb,fun b q=>⟨(h3 b q).1,(h3 b q).2.1,(h3 b q).2.2.1,(h3 b q).2.2.2.1,(h3 b q).2.2.2.2.1,?_⟩,h4,fun b q=>⟨(h5 b q).1,?_⟩,h6⟩
 ·rcases q with q|rfl
  ·exact lt1 (hX b q) hb.size
  ·simp
 ·rintro (e|rfl)
  ·exact(h3 b q).2.2.2.2.2 e
  ·exact Nat.lt_irrefl _ (h1.lt _ q)
 ·rintro (e|rfl)
  ·exact(h5 b q).2 e
  ·exact Nat.lt_irrefl _ (h2.lt _ (q.elim .inl fun k=> .inr (.inr k)))
theorem less {Y:Nat->Prop} (h:Tr w X W D D' R R' r r' d d') (hY: ∀b,Y b->X b):Tr w Y W D D' R R' r r' d d':=by
 obtain⟨h0,hX,M,P,M',F',L,L',h1,h2,h3,h4,h5,h6⟩:=h;exact⟨h0,fun b q=>hX b (hY b q),M,P,M',F',L,L',h1,h2,fun b q=>⟨(h3 b q).1,(h3 b q).2.1,(h3 b q).2.2.1,(h3 b q).2.2.2.1,(h3 b q).2.2.2.2.1,fun e=>(h3 b q).2.2.2.2.2 (hY b e)⟩,h4,fun b q=>⟨(h5 b q).1,fun e=>(h5 b q).2 (hY b e)⟩,h6⟩
theorem tw (h:Tr w X W D D' R R' r r' d d'):Tw w X W D D' d d':=by
 obtain⟨hb,hX,M,P,M',F',L,L',h1,h2,h3,h4,h5,h6⟩:=h;obtain⟨MD,h7,h8⟩:=h1.disk;exact⟨hb,hX,MD,M',h7,h2.lg.dk,fun b q=>⟨(h3 b (h8 b q)).1,(h3 b (h8 b q)).2.1,(h3 b (h8 b q)).2.2.2.2.2⟩,fun b q=>h5 b (.inl q)⟩
end Tr
def Tx (w:World) (X:Nat->Prop) (W:World) (D D':Nat) (d d':Dk) (o:Option Rdw) (pn pm:Value):Prop:=
 (o=none/\pn= .pointer none/\pm= .pointer none/\Tw w X W D D' d d')\/ ∃r R R',o=some r/\pn=px R/\pm=px R'/\Tr w X W D D' R R' r r d d'
section
variable {w W W1:World} {X Y:Nat->Prop} {D D':Nat} {d d':Dk} {o:Option Rdw} {pn pm:Value}
theorem Tx.tw (h:Tx w X W D D' d d' o pn pm):Tw w X W D D' d d':=by
 rcases h with ⟨_,_,_,h⟩|⟨_,_,_,_,_,_,h⟩
 ·exact h
 ·exact h.tw
theorem Tx.keep (h:Tx w X W D D' d d' o pn pm) (hb:Below W.heap.size W W1):Tx w X W1 D D' d d' o pn pm:=by
 rcases h with ⟨h1,h2,h3,h⟩|⟨r,R,R',h1,h2,h3,h⟩
 ·exact .inl ⟨h1,h2,h3,h.keep hb⟩
 ·exact .inr ⟨r,R,R',h1,h2,h3,h.keep hb⟩
theorem Tx.mark (h:Tx w X W D D' d d' o pn pm) (x:Obj):Tx w (fun b=>X b\/b=W.heap.size) (W.alloc x) D D' d d' o pn pm:=by
 rcases h with ⟨h1,h2,h3,h⟩|⟨r,R,R',h1,h2,h3,h⟩
 ·exact .inl ⟨h1,h2,h3,h.mark x⟩
 ·exact .inr ⟨r,R,R',h1,h2,h3,h.mark x⟩
theorem Tx.less (h:Tx w X W D D' d d' o pn pm) (hY: ∀b,Y b->X b):Tx w Y W D D' d d' o pn pm:=by
 rcases h with ⟨h1,h2,h3,h⟩|⟨r,R,R',h1,h2,h3,h⟩
 ·exact .inl ⟨h1,h2,h3,h.less hY⟩
 ·exact .inr ⟨r,R,R',h1,h2,h3,h.less hY⟩
end
theorem RoAt.pow {w:World} {M P:Nat->Prop} {R L D:Nat} {r:Rdw} {d:Dk} (h:RoAt w M P R L r D d) (n:Int) (hn:n<=9223372036854775807):
  Calls prog 16 #[px D,.int .i64 n] w fun e w'=>e= .returned (.int .i64 (d.power n).2)/\RoTo w w' M P R L r D (d.power n).1:=by
 obtain⟨ML,lv,h1,h2,h3,h4,h5⟩:=h.ex;obtain⟨MD,lw,g1,g2,g3,g4,g5⟩:=h1.ex;refine(Power_c w MD D d g1 n hn).mono ?_;rintro e w' ⟨rfl,hT⟩;have hs:fl (d.power n).1.now r.lg.file=fl d.now r.lg.file:=by
  unfold Dk.power;split
  ·rfl
  ·split<;>rfl
 exact⟨rfl,h.step h1 h2 h3 h4 h5 (h1.step g2 g3 g4 g5 hT hs) h.len⟩
theorem RoAt.few {w:World} {M P:Nat->Prop} {R L D:Nat} {r:Rdw} {d:Dk} (h:RoAt w M P R L r D d):r.lg.l.length<=100000000/\r.l.length<=100000000:=by
 have h0:=h.len;obtain⟨ML,lv,h1,h2,h3,h4,h5⟩:=h.ex;obtain⟨MD,hd,_⟩:=h1.disk;have:=h1.bound hd.inv;have:=frs_count r.lg.l;omega
structure Th (w W:World) (D D' R:Nat) (r:Rdw) (d d':Dk):Prop where
 below:Below w.heap.size w W
 ex: ∃(N P M':Nat->Prop) (L:Nat),RoAt W N P R L r D d/\RDk W M' D' d'/\(∀b,N b->w.heap.size<=b/\ ¬M' b)/\(∀b,P b->w.heap.size<=b/\ ¬M' b)/\ ∀b,M' b->w.heap.size<=b
theorem Tw.opened {w W W1:World} {D D' R L:Nat} {d d' d1:Dk} {r:Rdw} {M N P:Nat->Prop} (h:Below w.heap.size w W/\DkAt W M D d/\ ∃M',RDk W M' D' d'/\(∀b,M b->w.heap.size<=b/\ ¬M' b)/\ ∀b,M' b->w.heap.size<=b)
  (hf:Fr M W W1) (hr:RoAt W1 N P R L r D d1) (hN: ∀b,N b->M b\/W.heap.size<=b) (hP: ∀b,P b->W.heap.size<=b):Th w W1 D D' R r d1 d':=by
 obtain⟨hb,h1,M',h2,h3,h4⟩:=h;have hl:=fun b (q:W.heap.size<=b) (k:M' b)=>Nat.lt_irrefl b (lt1 (h2.lt b k) q);refine⟨hb.trans (hf.below hb.size fun k hk e=>by have:=(h3 k e).1;omega),N,P,M',L,hr,h2.fr hf (fun b q e=>(h3 b e).2 q),fun b q=>?_,fun b q=>⟨le1 hb.size (hP b q),hl b (hP b q)⟩,h4⟩;rcases hN b q with e|e
 ·exact h3 b e
 ·exact⟨le1 hb.size e,hl b e⟩
theorem Tw.sets {w W:World} {D D':Nat} {d d':Dk} (h:Tw w (fun _=>False) W D D' d d'): ∃M,(Below w.heap.size w W/\DkAt W M D d/\ ∃M',RDk W M' D' d'/\(∀b,M b->w.heap.size<=b/\ ¬M' b)/\ ∀b,M' b->w.heap.size<=b)/\
  ∀W1 d1,DkTo W W1 M D d1->Tw w (fun _=>False) W1 D D' d1 d':=by
 obtain⟨hb,hX,M,M',h1,h2,h3,h4⟩:=h;refine⟨M,⟨hb,h1,M',h2,fun b q=>⟨(h3 b q).1,(h3 b q).2.1⟩,fun b q=>(h4 b q).1⟩,fun W1 d1 ⟨hf,N,hN,hd⟩=>⟨hb.trans (hf.below hb.size fun k hk e=>by have:=(h3 k e).1;omega),fun _ q=>q.elim,N,M',hd,h2.fr hf (fun b q e=>(h3 b e).2.1 q),fun b q=>?_,h4⟩⟩;rcases hN b q with e|e
 ·exact h3 b e
 ·exact⟨le1 hb.size e,fun k=>by have:=h2.lt b k;omega,id⟩
theorem Th.ref {w W:World} {D D' R:Nat} {r:Rdw} {d d':Dk} (h:Th w W D D' R r d d'): ∃M',RDk W M' D' d'/\ ∀(W2:World) (r':Rdw) (d2:Dk) (N G:Nat->Prop) (R' L':Nat),Fr M' W W2->RRo W2 N G R' L' D' r' d2->(∀b,N b->M' b\/W.heap.size<=b)->(∀b,G b->W.heap.size<=b)->W.heap.size<=L'->W.heap.size<=R'->Tr w (fun _=>False) W2 D D' R R' r r' d d2:=by
 obtain⟨hb,N,P,M',L,h1,h2,h3,h4,h5⟩:=h;refine⟨M',h2,fun W2 r' d2 N' G R' L' hf hr hN hG hL hR=>?_⟩;have hz:=hb.size;have hlN:=h1.lt;have hlP:=fun b q=>(h1.dis b q).1;have h6:RoAt W2 N P R L r D d:=h1.fr hf fun b q e=>by
  rcases q with q|q
  ·exact(h3 b q).2 e
  ·exact(h4 b q).2 e
 have hx: ∀b,N' b\/b=L'\/b=R'->w.heap.size<=b/\(M' b\/W.heap.size<=b):=fun b q=>by
  rcases q with q|rfl|rfl
  ·rcases hN b q with e|e
   ·exact⟨h5 b e,.inl e⟩
   ·exact⟨by omega,.inr e⟩
  ·exact⟨by omega,.inr hL⟩
  ·exact⟨by omega,.inr hR⟩
 have hfar: ∀b,N b\/P b-> ¬(N' b\/b=L'\/b=R'):=fun b q k=>by
  rcases(hx b k).2 with e|e
  ·rcases q with q|q
   ·exact(h3 b q).2 e
   ·exact(h4 b q).2 e
  ·rcases q with q|q
   ·have:=hlN b q;omega
   ·have:=hlP b q;omega
 have hs2:=hf.size;refine⟨hb.trans (hf.below hz fun k hk e=>by have:=h5 k e;omega),fun _ q=>q.elim,N,fun b=>P b\/b<w.heap.size,N',fun b=>G b\/b<w.heap.size,L,L',h6.more (fun _ q=> .inl q) fun b q=>?_,hr.more (fun _ q=> .inl q) fun b q=>?_,fun b q=>?_,fun b q=>?_,fun b q=>⟨(hx b q).1,id⟩,fun b q=>⟨.inr q,.inr q⟩⟩
 ·rcases q with q|q
  ·exact h6.dis b q
  ·exact⟨by omega,fun e=>by have:=(h3 b e).1;omega⟩
 ·rcases q with q|q
  ·have e:=hr.lg.ap b q;exact⟨e.1,fun k=>hr.lg.lm.2.1 (k▸q),fun k=>hr.rm.2.2.1 (k▸q),e.2⟩
  ·have:=fun k=>(hx b k).1;exact⟨fun k=>by have:=this (.inl k);omega,fun k=>by have:=this (.inr (.inl k));omega,fun k=>by have:=this (.inr (.inr k));omega,by omega⟩
 ·have e:=hfar b (.inl q);refine⟨(h3 b q).1,fun k=>e (.inl k),?_,fun k=>e (.inr (.inl k)),fun k=>e (.inr (.inr k)),id⟩;rintro (k|k)
  ·have:=hG b k;have:=hlN b q;omega
  ·have:=(h3 b q).1;omega
 ·rcases q with q|q
  ·have e:=hfar b (.inr q);exact⟨fun k=>e (.inl k),fun k=>e (.inr (.inl k)),fun k=>e (.inr (.inr k))⟩
  ·have:=fun k=>(hx b k).1;exact⟨fun k=>by have:=this (.inl k);omega,fun k=>by have:=this (.inr (.inl k));omega,fun k=>by have:=this (.inr (.inr k));omega⟩
section
variable {w W:World} {X:Nat->Prop} {D D' R R':Nat} {d d' d1:Dk} {r r':Rdw} {o:Option Rdw} {pn pm:Value}
def To (w W:World) (D D':Nat) (d:Dk) (er:Int) (pn:Value):Prop:=
 ((Rdw.open d).2=(none,er)/\pn= .pointer none/\Tw w (fun _=>False) W D D' (Rdw.open d).1 d)\/ ∃r R,(Rdw.open d).2=(some r,er)/\er=0/\pn=px R/\Th w W D D' R r (Rdw.open d).1 d
theorem open_prog (h:Tw w (fun _=>False) W D D' d d) (hll:d.loose.length<=100000000):Calls prog 10 #[px D] W fun e w'=> ∃pn er,e= .returned (.tuple #[pn,.int .i64 er])/\To w w' D D' d er pn:=by
 obtain⟨M,hs,K⟩:=h.sets;refine(roOpen_c W M D d hs.2.1 (le1 hll (by decide))).mono ?_;rintro e w' (⟨e1,h1,h0,rfl,hT⟩|⟨r,R,L,N,P,h1,rfl,hf,hr,hN,hP⟩)
 ·exact⟨_,e1,rfl,.inl ⟨h1,rfl,K _ _ hT⟩⟩
 ·exact⟨_,0,rfl,.inr ⟨r,R,h1,rfl,rfl,Tw.opened hs hf hr hN hP⟩⟩
theorem open_ref {er:Int} (h:To w W D D' d er pn) (hll:d.loose.length<=100000000):Calls prog 11 #[px D'] W fun e w'=> ∃o pm,e= .returned (.tuple #[pm,.int .i64 er])/\Tx w (fun _=>False) w' D D' (Rdw.open d).1 (Rdw.open d).1 o pn pm:=by
 rcases h with ⟨ho,rfl,h⟩|⟨r,R,ho,rfl,rfl,h⟩
 ·obtain⟨M,hM,K⟩:=h.ref;refine(rrOpen_c W M D' d hM hll).mono ?_;rintro e w' (⟨e2,h1,_,rfl,hT⟩|⟨r,R,L,N,G,h1,_⟩)
  ·rw[ho]at h1;simp only[Prod.mk.injEq,true_and]at h1;subst h1;exact⟨none,_,rfl,.inl ⟨rfl,rfl,rfl,(K _ _ hT).1⟩⟩
  ·rw[ho]at h1;simp at h1
 ·obtain⟨M,hM,K⟩:=h.ref;refine(rrOpen_c W M D' d hM hll).mono ?_;rintro e w' (⟨e2,h1,_,rfl,hT⟩|⟨r2,R',L,N,G,h1,rfl,hf,hr,hN,hG,hL,hR⟩)
  ·rw[ho]at h1;simp at h1
  ·rw[ho]at h1;simp only[Prod.mk.injEq,Option.some.injEq,and_true]at h1;subst h1;exact⟨some r,_,rfl,.inr ⟨r,R,R',rfl,rfl,rfl,K _ _ _ N G R' L hf hr hN hG hL hR⟩⟩
theorem Tr.few (h:Tr w X W D D' R R' r r' d d'):r.lg.l.length<=100000000/\r.l.length<=100000000:=by
 obtain⟨_,_,M,P,M',F',L,L',h1,_⟩:=h;exact h1.few
theorem put_prog (h:Tr w X W D D' R R' r r' d d') (x:St) (v:Value) (hv:StIn W (· <w.heap.size) v x) (hok:x.Ok) (hll:d.loose.length<=1000000000):
  Calls prog 20 #[px R,v] W fun e w'=>e= .returned (.int .i64 (Rdw.put d r x).2.2)/\Tr w X w' D D' R R' (Rdw.put d r x).2.1 r' (Rdw.put d r x).1 d'/\ ∀b,X b->w'.heap[b]? =W.heap[b]? :=by
 obtain⟨M,P,L,h1,h2,K⟩:=h.prog;refine(roPut_c W M P R L r D d h1 x v (hv.keep h2 fun _ _=>rfl) hok hll).mono ?_;rintro e w' ⟨rfl,hT⟩;exact⟨rfl,K _ _ _ hT⟩
theorem put_ref (h:Tr w X W D D' R R' r r' d d') (x:St) (v:Value) (hv:StIn W (· <w.heap.size) v x) (hok:x.Ok) (hsm:x.job.nodes.length<=1000/\ ∀n∈x.job.nodes,n.uid.size<=1000000) (hll:d'.loose.length<=1000000000) (hfw:r'.lg.l.length<=100000000/\r'.l.length<=100000000):
  Calls prog 21 #[px R',v] W fun e w'=>e= .returned (.int .i64 (Rdw.put d' r' x).2.2)/\Tr w X w' D D' R R' r (Rdw.put d' r' x).2.1 d (Rdw.put d' r' x).1/\ ∀b,X b->w'.heap[b]? =W.heap[b]? :=by
 obtain⟨M,F,L,h1,h2,K⟩:=h.ref;refine(rrPut_c W M F R' L D' r' d' h1 x v (hv.keep h2 fun _ _=>rfl) hok hsm.2 hsm.1 hll hfw.1 hfw.2).mono ?_;rintro e w' ⟨rfl,hT⟩;exact⟨rfl,K _ _ _ hT⟩
theorem pow_prog (h:Tx w X W D D' d d' o pn pm) (n:Int) (hn:n<=9223372036854775807):Calls prog 16 #[px D,.int .i64 n] W fun e w'=>e= .returned (.int .i64 (d.power n).2)/\Tx w X w' D D' (d.power n).1 d' o pn pm/\ ∀b,X b->w'.heap[b]? =W.heap[b]? :=by
 rcases h with ⟨h1,h2,h3,h⟩|⟨r,R,R',h1,h2,h3,h⟩
 ·obtain⟨M,hM,K⟩:=h.prog;refine(Power_c W M D d hM n hn).mono ?_;rintro e w' ⟨rfl,hT⟩;exact⟨rfl,.inl ⟨h1,h2,h3,(K _ _ hT).1⟩,(K _ _ hT).2⟩
 ·obtain⟨M,P,L,hR,_,K⟩:=h.prog;refine(hR.pow n hn).mono ?_;rintro e w' ⟨rfl,hT⟩;exact⟨rfl,.inr ⟨r,R,R',h1,h2,h3,(K _ _ _ hT).1⟩,(K _ _ _ hT).2⟩
theorem pow_ref (h:Tx w X W D D' d d' o pn pm) (n:Int) (hn:n<=9223372036854775807):Calls prog 17 #[px D',.int .i64 n] W fun e w'=>e= .returned (.int .i64 (d'.power n).2)/\Tx w X w' D D' d (d'.power n).1 o pn pm/\ ∀b,X b->w'.heap[b]? =W.heap[b]? :=by
 rcases h with ⟨h1,h2,h3,h⟩|⟨r,R,R',h1,h2,h3,h⟩
 ·obtain⟨M,hM,K⟩:=h.ref;refine(rPower_c W M D' d' hM n hn).mono ?_;rintro e w' ⟨rfl,hT⟩;exact⟨rfl,.inl ⟨h1,h2,h3,(K _ _ hT).1⟩,(K _ _ hT).2⟩
 ·obtain⟨M,F,L,hR,_,K⟩:=h.ref;refine(rPower_c W M D' d' hR.lg.dk n hn).mono ?_;rintro e w' ⟨rfl,hT⟩;exact⟨rfl,.inr ⟨r,R,R',h1,h2,h3,(K _ _ _ (hR.disk hT)).1⟩,(K _ _ _ (hR.disk hT)).2⟩
end
