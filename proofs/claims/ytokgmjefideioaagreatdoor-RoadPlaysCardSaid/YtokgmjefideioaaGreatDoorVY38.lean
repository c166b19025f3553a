/- Parts. -/
import Derived.Test.YtokgmjefideioaaGreatDoorVY30
namespace Go.Proofs.YtokgmjefideioaaGreatDoor
open Go.RowKit
set_option linter.unusedVariables false
set_option linter.unusedSimpArgs false
set_option maxRecDepth 100000
set_option maxHeartbeats 16000000
open Tryz
structure Tw (w:World) (X:Nat->Prop) (W:World) (D D':Nat) (d r:Dk):Prop where
 below:Below w.heap.size w W
 lt: ∀b,X b->b<W.heap.size
 ex: ∃M M':Nat->Prop,DkAt W M D d/\RDk W M' D' r/\(∀b,M b->w.heap.size<=b/\ ¬M' b/\ ¬X b)/\ ∀b,M' b->w.heap.size<=b/\ ¬X b
namespace Tw
variable {w W W1:World} {X Y:Nat->Prop} {D D':Nat} {d r d1 r1:Dk}
theorem prog (h:Tw w X W D D' d r): ∃M,DkAt W M D d/\ ∀W1 d1,DkTo W W1 M D d1->Tw w X W1 D D' d1 r/\ ∀b,X b->W1.heap[b]? =W.heap[b]? :=by
 obtain⟨hb,hX,M,M',h1,h2,h3,h4⟩:=h;refine⟨M,h1,fun W1 d1 ⟨hf,N,hN,hd⟩=>⟨⟨hb.trans (hf.below hb.size fun k hk e=>by have:=(h3 k e).1;omega),fun b q=>lt1 (hX b q) hf.size,N,M',hd,h2.fr hf (fun b q e=>(h3 b e).2.1 q),fun b q=>?_,h4⟩,fun b q=>hf.block b (hX b q) (fun e=>(h3 b e).2.2 q)⟩⟩;rcases hN b q with e|e
 ·exact h3 b e
 ·exact⟨le1 hb.size e,fun k=>by have:=h2.lt b k;omega,fun k=>by have:=hX b k;omega⟩
theorem ref (h:Tw w X W D D' d r): ∃M,RDk W M D' r/\ ∀W1 r1,RDkTo W W1 M D' r1->Tw w X W1 D D' d r1/\ ∀b,X b->W1.heap[b]? =W.heap[b]? :=by
 obtain⟨hb,hX,M,M',h1,h2,h3,h4⟩:=h;refine⟨M',h2,fun W1 d1 ⟨hf,N,hN,hd⟩=>⟨⟨hb.trans (hf.below hb.size fun k hk e=>by have:=(h4 k e).1;omega),fun b q=>lt1 (hX b q) hf.size,M,N,h1.fr hf (fun b q e=>(h3 b q).2.1 e),hd,fun b q=>⟨(h3 b q).1,fun k=>?_,(h3 b q).2.2⟩,fun b q=>?_⟩,fun b q=>hf.block b (hX b q) (fun e=>(h4 b e).2 q)⟩⟩
 ·rcases hN b k with e|e
  ·exact(h3 b q).2.1 e
  ·have:=h1.lt b q;omega
 ·rcases hN b q with e|e
  ·exact h4 b e
  ·exact⟨le1 hb.size e,fun k=>by have:=hX b k;omega⟩
theorem keep (h:Tw w X W D D' d r) (hb:Below W.heap.size W W1):Tw w X W1 D D' d r:=by
 obtain⟨h0,hX,M,M',h1,h2,h3,h4⟩:=h;exact⟨h0.trans (hb.mono h0.size),fun b q=>lt1 (hX b q) hb.size,M,M',h1.below hb,h2.below hb,h3,h4⟩
theorem drew (h:Tw w X W D D' d r):Tw w X W.drew D D' d r:=h.keep br0.drew
theorem mark (h:Tw w X W D D' d r) (o:Obj):Tw w (fun b=>X b\/b=W.heap.size) (W.alloc o) D D' d r:=by
 obtain⟨h0,hX,M,M',h1,h2,h3,h4⟩:=h;have hb:=(Below.refl W.heap.size W).alloc le0 o;refine⟨h0.trans (hb.mono h0.size),fun b q=>?_,M,M',h1.below hb,h2.below hb,fun b q=>⟨(h3 b q).1,(h3 b q).2.1,?_⟩,fun b q=>⟨(h4 b q).1,?_⟩⟩
 ·rcases q with q|rfl
  ·exact lt1 (hX b q) hb.size
  ·simp
 ·rintro (e|rfl)
  ·exact(h3 b q).2.2 e
  ·exact Nat.lt_irrefl _ (h1.lt _ q)
 ·rintro (e|rfl)
  ·exact(h4 b q).2 e
  ·exact Nat.lt_irrefl _ (h2.lt _ q)
theorem less (h:Tw w X W D D' d r) (hY: ∀b,Y b->X b):Tw w Y W D D' d r:=by
 obtain⟨h0,hX,M,M',h1,h2,h3,h4⟩:=h;exact⟨h0,fun b q=>hX b (hY b q),M,M',h1,h2,fun b q=>⟨(h3 b q).1,(h3 b q).2.1,fun e=>(h3 b q).2.2 (hY b e)⟩,fun b q=>⟨(h4 b q).1,fun e=>(h4 b q).2 (hY b e)⟩⟩
end Tw
theorem does_c (w:World) (X:Nat->Prop) (W:World) (D D':Nat) (d:Dk) (h:Tw w X W D D' d d) (o:DOp) (ho:o.Ok) (hll:d.loose.length<=1000000000):
  Calls prog 9 #[px D,px D',.agg o.cells] W fun e w'=>e= .returned (.bool true)/\Tw w X w' D D' (d.does o) (d.does o)/\ ∀b,X b->w'.heap[b]? =W.heap[b]? :=by
 have hT:=h.mark (.cells o.cells 35);have hx:=Blk.new W o.cells 35;have hk: ∀b,(X b\/b=W.heap.size)->(W.alloc (.cells o.cells 35)).heap[b]? =(W.alloc (.cells o.cells 35)).heap[b]? :=fun _ _=>rfl;have HFIN:Hd (∀W2 d2 r2,Tw w (fun b=>X b\/b=W.heap.size) W2 D D' d2 r2->(∀b,(X b\/b=W.heap.size)->W2.heap[b]? =(W.alloc (.cells o.cells 35)).heap[b]?)->Tw w X W2 D D' d2 r2/\ ∀b,X b->W2.heap[b]? =W.heap[b]?):=
  fun W2 d2 r2 h2 h3=>⟨h2.less fun _ q=> .inl q,fun b q=>(h3 b (.inl q)).trans (alloc_old W _ b (h.lt b q))⟩
 obtain⟨hn,hs⟩:=ho;have HLL:=Lh hll;obtain⟨k,f,n,m,s⟩:=o;unfold DOp.cells at*;dsimp only at hn hs HFIN hT hx hk⊢;clear h hll;unfold px;go_enter func9,ntmps9
 go_upto_region 1 with fail
 have HW:=Lh hx.lt;generalize hB:W.heap.size=B at*;clear hB;generalize World.alloc W _=W1 at*;have hcase:(k=0\/k=1\/k=2\/k=5)\/(k=3\/k=4\/k=6)\/((k==0)=false/\(k==1)=false/\(k==2)=false/\(k==3)=false/\(k==4)=false/\(k==5)=false/\(k==6)=false):=by
  simp only[bq0];omega
 have c0:=hx.cell 0;have HX1:=Lh hx;replace hk:=Lh hk;rcases hcase with hc|hc|⟨k0,k1,k2,k3,k4,k5,k6⟩
 ·rcases hc with rfl|rfl|rfl|rfl
  focus go_upto_region 3 with fail
  rotate_left
  focus go_upto_region 5 with fail
  rotate_left
  focus go_upto_region 7 with fail
  rotate_left
  focus go_upto_region 15 with fail
  rotate_left
  all_goals
   replace hT:=hT.drew;clear c0;refine wp_region_held_drew (S:=(fun w'=>w'.cell? ⟨B,1,none⟩=some (.int .i64 f)/\w'.cell? ⟨B,2,none⟩=some (.int .i64 n)/\w'.cell? ⟨B,4,none⟩=some (.string s))) (by kernel_rfl) ?_ (fun hHeld=>tk0 ?_)
   ·exact⟨hx.cell 1,hx.cell 2,hx.cell 4⟩
   repeat' first
    |refine tkN ?_
    |(refine tkX ?_;try simp only[Act.put,tkA,tkB,tkC,tkD,tkE,tkF])
    |(refine tkt (v:=?_) (by decide+kernel) rfl (by rfl) (fun _ _ _ h=>h) (by assumption) ?_ ?_;rotate_left;(· intro w' hSw;(try dsimp only at hSw);have z1:=hSw.1;have z2:=hSw.2.1;have z4:=hSw.2.2;clear hSw;go_simp;(try with_reducible rfl));try simp only[Act.put,tkA,tkB,tkC,tkD,tkE,tkF])
    |refine tkM ?_
    |refine tkZ ?_
    |refine tkB1 ?_
    |refine brN ?_
    |exact brE
    |refine brc rfl (fun K hK=>?_) ?_
    |(replace hK:=hK;go_simp;go_at_call 31;obtain⟨M,hM,hK2⟩:=hT.prog;refine(Append_c _ M D d hM f s hs HLL.o).mono ?_;rintro e w2 ⟨rfl,hd2⟩;obtain⟨hT2,hk2⟩:=hK2 _ _ hd2;replace hT:=hT2;replace hk:=Lh fun b q=>(hk2 b q).trans (hk.o b q);clear hT2 hk2 hd2 hM hK2;refine hK.out _ _ ?_ (fun hHeld=>?_);(· have q:=(hk.o B (.inr rfl)).trans HX1.o;exact⟨Blk.cell q 1,Blk.cell q 2,Blk.cell q 4⟩);clear hK K;try simp only[Act.put,tkA,tkB,tkC,tkD,tkE,tkF])
    |(replace hK:=hK;go_simp;go_at_call 32;obtain⟨M,hM,hK2⟩:=hT.ref;refine(rAppend_c _ M D' d hM f s hs HLL.o).mono ?_;rintro e w2 ⟨rfl,hd2⟩;obtain⟨hT2,hk2⟩:=hK2 _ _ hd2;replace hT:=hT2;replace hk:=Lh fun b q=>(hk2 b q).trans (hk.o b q);clear hT2 hk2 hd2 hM hK2;refine hK.out _ _ ?_ (fun hHeld=>?_);(· have q:=(hk.o B (.inr rfl)).trans HX1.o;exact⟨Blk.cell q 1,Blk.cell q 2,Blk.cell q 4⟩);clear hK K;try simp only[Act.put,tkA,tkB,tkC,tkD,tkE,tkF])
    |(replace hK:=hK;go_simp;go_at_call 33;obtain⟨M,hM,hK2⟩:=hT.prog;refine(Cut_c _ M D d hM f n HLL.o).mono ?_;rintro e w2 ⟨rfl,hd2⟩;obtain⟨hT2,hk2⟩:=hK2 _ _ hd2;replace hT:=hT2;replace hk:=Lh fun b q=>(hk2 b q).trans (hk.o b q);clear hT2 hk2 hd2 hM hK2;refine hK.out _ _ ?_ (fun hHeld=>?_);(· have q:=(hk.o B (.inr rfl)).trans HX1.o;exact⟨Blk.cell q 1,Blk.cell q 2,Blk.cell q 4⟩);clear hK K;try simp only[Act.put,tkA,tkB,tkC,tkD,tkE,tkF])
    |(replace hK:=hK;go_simp;go_at_call 34;obtain⟨M,hM,hK2⟩:=hT.ref;refine(rCut_c _ M D' d hM f n HLL.o).mono ?_;rintro e w2 ⟨rfl,hd2⟩;obtain⟨hT2,hk2⟩:=hK2 _ _ hd2;replace hT:=hT2;replace hk:=Lh fun b q=>(hk2 b q).trans (hk.o b q);clear hT2 hk2 hd2 hM hK2;refine hK.out _ _ ?_ (fun hHeld=>?_);(· have q:=(hk.o B (.inr rfl)).trans HX1.o;exact⟨Blk.cell q 1,Blk.cell q 2,Blk.cell q 4⟩);clear hK K;try simp only[Act.put,tkA,tkB,tkC,tkD,tkE,tkF])
    |(replace hK:=hK;go_simp;go_at_call 35;obtain⟨M,hM,hK2⟩:=hT.prog;refine(Move_c _ M D d hM f n HLL.o).mono ?_;rintro e w2 ⟨rfl,hd2⟩;obtain⟨hT2,hk2⟩:=hK2 _ _ hd2;replace hT:=hT2;replace hk:=Lh fun b q=>(hk2 b q).trans (hk.o b q);clear hT2 hk2 hd2 hM hK2;refine hK.out _ _ ?_ (fun hHeld=>?_);(· have q:=(hk.o B (.inr rfl)).trans HX1.o;exact⟨Blk.cell q 1,Blk.cell q 2,Blk.cell q 4⟩);clear hK K;try simp only[Act.put,tkA,tkB,tkC,tkD,tkE,tkF])
    |(replace hK:=hK;go_simp;go_at_call 36;obtain⟨M,hM,hK2⟩:=hT.ref;refine(rMove_c _ M D' d hM f n HLL.o).mono ?_;rintro e w2 ⟨rfl,hd2⟩;obtain⟨hT2,hk2⟩:=hK2 _ _ hd2;replace hT:=hT2;replace hk:=Lh fun b q=>(hk2 b q).trans (hk.o b q);clear hT2 hk2 hd2 hM hK2;refine hK.out _ _ ?_ (fun hHeld=>?_);(· have q:=(hk.o B (.inr rfl)).trans HX1.o;exact⟨Blk.cell q 1,Blk.cell q 2,Blk.cell q 4⟩);clear hK K;try simp only[Act.put,tkA,tkB,tkC,tkD,tkE,tkF])
    |(replace hK:=hK;go_simp;go_at_call 16;obtain⟨M,hM,hK2⟩:=hT.prog;refine(Power_c _ M D d hM n hn).mono ?_;rintro e w2 ⟨rfl,hd2⟩;obtain⟨hT2,hk2⟩:=hK2 _ _ hd2;replace hT:=hT2;replace hk:=Lh fun b q=>(hk2 b q).trans (hk.o b q);clear hT2 hk2 hd2 hM hK2;refine hK.out _ _ ?_ (fun hHeld=>?_);(· have q:=(hk.o B (.inr rfl)).trans HX1.o;exact⟨Blk.cell q 1,Blk.cell q 2,Blk.cell q 4⟩);clear hK K;try simp only[Act.put,tkA,tkB,tkC,tkD,tkE,tkF])
    |(replace hK:=hK;go_simp;go_at_call 17;obtain⟨M,hM,hK2⟩:=hT.ref;refine(rPower_c _ M D' d hM n hn).mono ?_;rintro e w2 ⟨rfl,hd2⟩;obtain⟨hT2,hk2⟩:=hK2 _ _ hd2;replace hT:=hT2;replace hk:=Lh fun b q=>(hk2 b q).trans (hk.o b q);clear hT2 hk2 hd2 hM hK2;refine hK.out _ _ ?_ (fun hHeld=>?_);(· have q:=(hk.o B (.inr rfl)).trans HX1.o;exact⟨Blk.cell q 1,Blk.cell q 2,Blk.cell q 4⟩);clear hK K;try simp only[Act.put,tkA,tkB,tkC,tkD,tkE,tkF])
    |fail
   go_wp2_with fail
   go_ret;exact⟨ret_bool (by simp),HFIN.o _ _ _ hT hk.o⟩
 ·have c1:=hx.cell 1;have c2:=hx.cell 2;have c3:=hx.cell 3;clear hx;rcases hc with rfl|rfl|rfl
  all_goals
   go_wp2_with (first
    |(go_at_call 37;obtain⟨M,hM,hK2⟩:=hT.prog;refine(Sync_c _ M D d hM).mono ?_;rintro e w2 ⟨rfl,hd2⟩;obtain⟨hT2,hk2⟩:=hK2 _ _ hd2;replace hT:=hT2;replace hk:=Lh fun b q=>(hk2 b q).trans (hk.o b q);clear hT2 hk2 hd2 hM hK2;have q:=hk.o B (.inr rfl);have c1:=(Blk.cell (q.trans HX1.o) 1);have c2:=(Blk.cell (q.trans HX1.o) 2);have c3:=(Blk.cell (q.trans HX1.o) 3);clear q)
    |(go_at_call 38;obtain⟨M,hM,hK2⟩:=hT.ref;refine(rSync_c _ M D' d hM).mono ?_;rintro e w2 ⟨rfl,hd2⟩;obtain⟨hT2,hk2⟩:=hK2 _ _ hd2;replace hT:=hT2;replace hk:=Lh fun b q=>(hk2 b q).trans (hk.o b q);clear hT2 hk2 hd2 hM hK2;have q:=hk.o B (.inr rfl);have c1:=(Blk.cell (q.trans HX1.o) 1);have c2:=(Blk.cell (q.trans HX1.o) 2);have c3:=(Blk.cell (q.trans HX1.o) 3);clear q)
    |(go_at_call 18;obtain⟨M,hM,hK2⟩:=hT.prog;refine(Crash_c _ M D d hM n m HLL.o).mono ?_;rintro e w2 ⟨rfl,hd2⟩;obtain⟨hT2,hk2⟩:=hK2 _ _ hd2;replace hT:=hT2;replace hk:=Lh fun b q=>(hk2 b q).trans (hk.o b q);clear hT2 hk2 hd2 hM hK2;have q:=hk.o B (.inr rfl);have c1:=(Blk.cell (q.trans HX1.o) 1);have c2:=(Blk.cell (q.trans HX1.o) 2);have c3:=(Blk.cell (q.trans HX1.o) 3);clear q)
    |(go_at_call 19;obtain⟨M,hM,hK2⟩:=hT.ref;refine(rCrash_c _ M D' d hM n m HLL.o).mono ?_;rintro e w2 ⟨rfl,hd2⟩;obtain⟨hT2,hk2⟩:=hK2 _ _ hd2;replace hT:=hT2;replace hk:=Lh fun b q=>(hk2 b q).trans (hk.o b q);clear hT2 hk2 hd2 hM hK2;have q:=hk.o B (.inr rfl);have c1:=(Blk.cell (q.trans HX1.o) 1);have c2:=(Blk.cell (q.trans HX1.o) 2);have c3:=(Blk.cell (q.trans HX1.o) 3);clear q)
    |(go_at_call 39;obtain⟨M,hM,hK2⟩:=hT.prog;refine(Read_c _ M D d hM f).mono ?_;rintro e w2 ⟨rfl,hb2⟩;replace hk:=Lh fun b q=>(hb2.block b (hT.lt b q)).trans (hk.o b q);replace hT:=hT.keep hb2;clear hK2 hM hb2;have q:=hk.o B (.inr rfl);have c1:=(Blk.cell (q.trans HX1.o) 1);have c2:=(Blk.cell (q.trans HX1.o) 2);have c3:=(Blk.cell (q.trans HX1.o) 3);clear q)
    |(go_at_call 40;obtain⟨M,hM,hK2⟩:=hT.ref;refine(rRead_c _ M D' d hM f).mono ?_;rintro e w2 ⟨rfl,rfl⟩)
    |fail)
   go_ret;exact⟨ret_bool (by simp),HFIN.o _ _ _ hT hk.o⟩
 ·go_wp2_with fail
  go_ret;refine⟨rfl,?_⟩;have:=HFIN.o _ _ _ hT (fun _ _=>rfl);unfold Dk.does;simp only[bq0]at k0 k1 k2 k3 k5 k6;simp only[k0,k1,k2,k3,k5,k6,if_false];exact this
