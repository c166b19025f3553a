/- Parts. -/
import Derived.Test.YtokgmjefideioaaGreatDoorVY26
import Derived.Test.YtokgmjefideioaaGreatDoorVY31
namespace Go.Proofs.YtokgmjefideioaaGreatDoor
open Go.RowKit
set_option linter.unusedVariables false
set_option linter.unusedSimpArgs false
set_option maxRecDepth 100000
set_option maxHeartbeats 16000000
open Tryz
def rowS (ps:List (St×Value)):List Value:=ps.flatMap fun p=>(stC p.1 p.2).toList
theorem rowS_cons (p:St×Value) (ps:List (St×Value)):rowS (p::ps)=(stC p.1 p.2).toList++rowS ps:=by simp[rowS]
theorem rowS_snoc (ps:List (St×Value)) (p:St×Value):rowS (ps++ [p])=rowS ps++(stC p.1 p.2).toList:=by simp[rowS]
theorem stC_len (x:St) (v:Value):(stC x v).toList.length=9:=rfl
theorem rowS_at: ∀(ps:List (St×Value)) (k:Nat) (h:k<ps.length) (j:Nat) (hj:j<9),(rowS ps)[k*9+j]? =(stC ps[k].1 ps[k].2)[j]?
 |p::ps,0,_,j,hj=>by
  rw[rowS_cons,Nat.zero_mul,Nat.zero_add,List.getElem?_append_left (by rw[stC_len];exact hj),Array.getElem?_toList];rfl
 |p::ps,k+1,h,j,hj=>by
  rw[rowS_cons,List.getElem?_append_right (by rw[stC_len];omega),stC_len,show(k+1)*9+j-9=k*9+j by omega,rowS_at ps k (by simpa using h) j hj];rfl
def StsAt (w:World) (P:Nat->Prop) (v:Value) (l:List St):Prop:=
 ∃ps:List (St×Value),ps.map Prod.fst=l/\w.ownsRow 0 47 9 v l.length (rowS ps)/\ ∀p∈ps,NodesIn w P p.1.job.nodes p.2
namespace StsAt
variable {w w':World} {P Q:Nat->Prop} {v:Value} {l:List St}
theorem nil (w:World) (P:Nat->Prop):StsAt w P (.slice none 0 0) []:=⟨[],rfl,World.ownsRow_nil _ _ _ _,by simp⟩
theorem keep (h:StsAt w P v l) (hPQ: ∀b,P b->Q b) (hk: ∀b,P b->w'.heap[b]? =w.heap[b]?) (hr: ∀g,rowB v g->w'.heap[g]? =w.heap[g]?):StsAt w' Q v l:=by
 obtain⟨ps,h1,h2,h3⟩:=h;exact⟨ps,h1,ownsRow_keep h2 hr,fun p hp=>(h3 p hp).keep hPQ hk⟩
theorem slice (h:StsAt w P v l): ∃a cap,v= .slice a l.length cap/\l.length<=cap/\cap<=maxLen:=by
 obtain⟨ps,h1,h2,h3⟩:=h;rcases h2.2 with ⟨rfl,h0⟩|⟨g,cap,cur,rfl,hb,hg,hn,hc,hs,ht⟩
 ·exact⟨none,0,by rw[h0],by omega,by unfold maxLen;omega⟩
 ·exact⟨_,cap,rfl,hn,hc⟩
theorem cells (h:StsAt w P v l) (k:Nat) (hk:k<l.length): ∃g cap sv,v= .slice (some ⟨g,0,none⟩) l.length cap/\NodesIn w P l[k].job.nodes sv/\ ∀j,j<9->w.cell? ⟨g,k*9+j,none⟩=(stC l[k] sv)[j]? :=by
 obtain⟨ps,h1,h2,h3⟩:=h;have hpl:ps.length=l.length:=by rw[<-h1,List.length_map]
 rcases h2.2 with ⟨rfl,h0⟩|⟨g,cap,cur,rfl,hb,hg,hn,hc,hs,ht⟩
 ·omega
 ·have e: ∀j,j<l.length*9->w.cell? ⟨g,j,none⟩=(rowS ps)[j]? :=fun j hj=>by
   rw[cell_of_row w g j cur _ (0,0) hg,<-ht,List.getElem?_take,if_pos hj];simp
  have hk2:k<ps.length:=by omega
  have hx:l[k]=ps[k].1:=by subst h1;rw[List.getElem_map]
  refine⟨g,cap,ps[k].2,rfl,?_,fun j hj=>?_⟩
  ·rw[hx];exact h3 _ (List.getElem_mem hk2)
  ·rw[e _ (by omega),hx];exact rowS_at ps k hk2 j hj
end StsAt
def StsRd (w:World) (P:Nat->Prop) (v:Value) (l:List St):Prop:=
 ∃a cap,v= .slice a l.length cap/\l.length<=cap/\cap<=maxLen/\(l.length=0\/ ∃b off,a=some ⟨b,off,none⟩/\P b/\ ∀k (h:k<l.length),∃sv,NodesIn w P l[k].job.nodes sv/\ ∀j,j<9->w.cell? ⟨b,off+k*9+j,none⟩=(stC l[k] sv)[j]?)
theorem StsRd.keep {w w':World} {P Q:Nat->Prop} {v:Value} {l:List St} (h:StsRd w P v l) (hPQ: ∀b,P b->Q b) (hk: ∀b,P b->w'.heap[b]? =w.heap[b]?):StsRd w' Q v l:=by
 obtain⟨a,cap,hv,h1,h2,h3⟩:=h;refine⟨a,cap,hv,h1,h2,h3.imp id ?_⟩;rintro ⟨b,off,ha,hb,hc⟩;refine⟨b,off,ha,hPQ b hb,fun k hk2=>?_⟩;obtain⟨sv,hn,hcs⟩:=hc k hk2;exact⟨sv,hn.keep hPQ hk,fun j hj=>(World.cell?_of_block (hk b hb)).trans (hcs j hj)⟩
theorem StsRd.slice {w:World} {P:Nat->Prop} {v:Value} {l:List St} (h:StsRd w P v l): ∃a cap,v= .slice a l.length cap/\l.length<=cap/\cap<=maxLen:=by
 obtain⟨a,cap,hv,h1,h2,h3⟩:=h;exact⟨a,cap,hv,h1,h2⟩
theorem StsRd.at_ {w:World} {P:Nat->Prop} {v:Value} {l:List St} (h:StsRd w P v l) (k:Nat) (hk:k<l.length): ∃b off cap sv,v= .slice (some ⟨b,off,none⟩) l.length cap/\P b/\NodesIn w P l[k].job.nodes sv/\ ∀j,j<9->w.cell? ⟨b,off+k*9+j,none⟩=(stC l[k] sv)[j]? :=by
 obtain⟨a,cap,hv,h1,h2,h3⟩:=h;rcases h3 with h3|⟨b,off,rfl,hb,hc⟩
 ·omega
 ·obtain⟨sv,hn,hcs⟩:=hc k hk;exact⟨b,off,cap,sv,hv,hb,hn,hcs⟩
structure RoAt (w:World) (M P:Nat->Prop) (R L:Nat) (r:Rdw) (D:Nat) (d:Dk):Prop where
 phase:r.phase<4
 ok: ∀x∈r.l,x.Ok
 len:r.l.length<=r.lg.l.length
 mem:M R
 lt: ∀b,M b->b<w.heap.size
 dis: ∀b,P b->b<w.heap.size/\ ¬M b
 ex: ∃(ML:Nat->Prop) (lv:Value),LgAt w ML L r.lg D d/\(∀b,ML b->M b/\b≠R/\ ¬rowB lv b)/\Blk w R 85 #[px L,lv,.int .u8 (r.phase:Int)]/\StsAt w P lv r.l/\ ∀b,rowB lv b->M b/\b≠R
def RoTo (w w':World) (M P:Nat->Prop) (R L:Nat) (r':Rdw) (D:Nat) (d':Dk):Prop:=Fr M w w'/\ ∃N,(∀b,N b->M b\/w.heap.size<=b)/\RoAt w' N P R L r' D d'
namespace RoAt
variable {w w':World} {M N P Q:Nat->Prop} {R L D:Nat} {r:Rdw} {d:Dk}
theorem keep (h:RoAt w M P R L r D d) (hs:w.heap.size<=w'.heap.size) (hk: ∀b,M b\/P b->w'.heap[b]? =w.heap[b]?):RoAt w' M P R L r D d:=by
 obtain⟨ML,lv,h1,h2,h3,h4,h5⟩:=h.ex;exact⟨h.phase,h.ok,h.len,h.mem,fun b hb=>lt1 (h.lt b hb) hs,fun b hb=>⟨lt1 (h.dis b hb).1 hs,(h.dis b hb).2⟩,ML,lv,h1.keep hs fun b hb=>hk b (.inl (h2 b hb).1),h2,(hk R (.inl h.mem)).trans h3,h4.keep (fun _ k=>k) (fun b hb=>hk b (.inr hb)) (fun b hb=>hk b (.inl (h5 b hb).1)),h5⟩
theorem below (h:RoAt w M P R L r D d) (hb:Below w.heap.size w w'):RoAt w' M P R L r D d:=h.keep hb.size fun b hm=>hb.block b (by rcases hm with hm|hm;exact h.lt b hm;exact(h.dis b hm).1)
theorem fr {S:Nat->Prop} (h:RoAt w M P R L r D d) (hf:Fr S w w') (hS: ∀b,M b\/P b-> ¬S b):RoAt w' M P R L r D d:=h.keep hf.size fun b hm=>hf.block b (by rcases hm with hm|hm;exact h.lt b hm;exact(h.dis b hm).1) (hS b hm)
theorem toB (h:RoAt w M P R L r D d) (hb:Below w.heap.size w w'):RoTo w w' M P R L r D d:=⟨Fr.of_new hb,M,fun _ hb=> .inl hb,h.below hb⟩
theorem more (h:RoAt w M P R L r D d) (hPQ: ∀b,P b->Q b) (hQ: ∀b,Q b->b<w.heap.size/\ ¬M b):RoAt w M Q R L r D d:=by
 obtain⟨ML,lv,h1,h2,h3,h4,h5⟩:=h.ex;exact⟨h.phase,h.ok,h.len,h.mem,h.lt,hQ,ML,lv,h1,h2,h3,h4.keep hPQ (fun _ _=>rfl) (fun _ _=>rfl),h5⟩
theorem disk (h:RoAt w M P R L r D d): ∃MD,DkAt w MD D d/\(∀b,MD b->M b):=by
 obtain⟨ML,lv,h1,h2,_⟩:=h.ex;obtain⟨MD,h6,h7⟩:=h1.disk;exact⟨MD,h6,fun b hb=>(h2 b (h7 b hb)).1⟩
theorem ltR (h:RoAt w M P R L r D d):R<w.heap.size:=h.lt R h.mem
theorem step (h:RoAt w M P R L r D d) {ML:Nat->Prop} {lv:Value} (h1:LgAt w ML L r.lg D d) (h2: ∀b,ML b->M b/\b≠R/\ ¬rowB lv b) (h3:Blk w R 85 #[px L,lv,.int .u8 (r.phase:Int)]) (h4:StsAt w P lv r.l) (h5: ∀b,rowB lv b->M b/\b≠R)
  {g':Lg} {d':Dk} (hT:LgTo w w' ML L g' D d') (hl:r.l.length<=g'.l.length):RoTo w w' M P R L ⟨g',r.l,r.phase⟩ D d':=by
 obtain⟨hf,K,hK,hd'⟩:=hT;have e: ∀b,b<w.heap.size-> ¬ML b->w'.heap[b]? =w.heap[b]? :=fun b hb hn=>hf.block b hb hn;refine⟨hf.mono (fun b _ hb=>(h2 b hb).1),fun b=>M b\/K b,fun b hb=>?_,h.phase,h.ok,hl,.inl h.mem,fun b hb=>?_,fun b hb=>⟨lt1 (h.dis b hb).1 hf.size,?_⟩,K,lv,hd',fun b hb=>?_,?_,?_,fun b hb=>?_⟩
 ·rcases hb with hb|hb
  ·exact .inl hb
  ·rcases hK b hb with hb|hb
   ·exact .inl (h2 b hb).1
   ·exact .inr hb
 ·rcases hb with hb|hb
  ·have:=h.lt b hb;have:=hf.size;omega
  ·exact hd'.lt b hb
 ·rintro (hm|hm)
  ·exact(h.dis b hb).2 hm
  ·rcases hK b hm with hm|hm
   ·exact(h.dis b hb).2 (h2 b hm).1
   ·have:=(h.dis b hb).1;omega
 ·refine⟨.inr hb,?_,?_⟩
  ·rcases hK b hb with hb|hb
   ·exact(h2 b hb).2.1
   ·have:=h.ltR;omega
  ·intro hr;rcases hK b hb with hb|hb
   ·exact(h2 b hb).2.2 hr
   ·have:=h.lt b (h5 b hr).1;omega
 ·exact(e R h.ltR (fun hm=>(h2 R hm).2.1 rfl)).trans h3
 ·exact h4.keep (fun _ k=>k) (fun b hb=>e b (h.dis b hb).1 (fun hm=>(h.dis b hb).2 (h2 b hm).1)) (fun b hb=>e b (h.lt b (h5 b hb).1) (fun hm=>(h2 b hm).2.2 hb))
 ·exact⟨.inl (h5 b hb).1,(h5 b hb).2⟩
end RoAt
theorem RoTo.trans {w w1 w2:World} {M P:Nat->Prop} {R L D:Nat} {r1 r2:Rdw} {d1 d2:Dk} (h:RoTo w w1 M P R L r1 D d1) (k: ∀N,RoAt w1 N P R L r1 D d1->RoTo w1 w2 N P R L r2 D d2):RoTo w w2 M P R L r2 D d2:=by
 obtain⟨hf,N,hN,h1⟩:=h;obtain⟨hf2,N2,hN2,h2⟩:=k N h1;refine⟨hf.step hf2 (fun _ _ h=>h) (fun i hi hn=>?_),N2,fun b hb=>?_,h2⟩
 ·rcases hN i hn with h|h
  ·exact h
  ·omega
 ·rcases hN2 b hb with h|h
  ·rcases hN b h with h|h
   ·exact .inl h
   ·exact .inr h
  ·exact .inr (le1 hf.size h)
theorem RoTo.join {w w1 w2:World} {M N P:Nat->Prop} {R L D:Nat} {r:Rdw} {d:Dk} (hf:Fr M w w1) (hN: ∀b,N b->M b\/w.heap.size<=b) (h:RoTo w1 w2 N P R L r D d):RoTo w w2 M P R L r D d:=by
 obtain⟨hf2,N2,hN2,h2⟩:=h;refine⟨hf.step hf2 (fun _ _ h=>h) (fun i hi hn=>?_),N2,fun b hb=>?_,h2⟩
 ·rcases hN i hn with h|h
  ·exact h
  ·omega
 ·rcases hN2 b hb with h|h
  ·exact hN b h
  ·exact .inr (le1 hf.size h)
theorem RoTo.drew {w w':World} {M P:Nat->Prop} {R L D:Nat} {r:Rdw} {d:Dk} (h:RoTo w w' M P R L r D d):RoTo w w'.drew M P R L r D d:=
 let ⟨hf,N,hN,h1⟩:=h;⟨hf.drew,N,hN,h1.keep le0 fun _ _=>rfl⟩
theorem RoTo.of_below {w w1 w':World} {M P:Nat->Prop} {R L D:Nat} {r:Rdw} {d:Dk} (hb:Below w.heap.size w w1) (h:RoTo w1 w' M P R L r D d):RoTo w w' M P R L r D d:=
 let ⟨hf,N,hN,h1⟩:=h;⟨(Fr.of_new hb).trans hf,N,fun b q=>(hN b q).imp id (fun e=>le1 hb.size e),h1⟩
theorem RoAt.grow {w w2 w3:World} {M P:Nat->Prop} {R L D q cap p:Nat} {r:Rdw} {d:Dk} {ML:Nat->Prop} {lv sv:Value} {x:St} {ps:List (St×Value)} (h:RoAt w M P R L r D d) (h1:LgAt w ML L r.lg D d) (h2: ∀b,ML b->M b/\b≠R/\ ¬rowB lv b)
  (h5: ∀b,rowB lv b->M b/\b≠R) (hps:ps.map Prod.fst=r.l) (hown:w.ownsRow 0 47 9 lv r.l.length (rowS ps)) (hpn: ∀p∈ps,NodesIn w P p.1.job.nodes p.2) (hxn:NodesIn w P x.job.nodes sv) (hx:x.Ok) (hlen:r.l.length<r.lg.l.length) (hp:p<4)
  (hgrow:w.grownBy w2 lv.ownBlock) (hat:lv.ownBlock=some q\/q=w.heap.size) (hlt:q<w2.heap.size) (hown2:w2.ownsRow 0 47 9 (.slice (some ⟨q,0,none⟩) (r.l.length+1) cap) (r.l.length+1) (rowS ps++(stC x sv).toList))
  (hb:Blk w3 R 85 #[px L,.slice (some ⟨q,0,none⟩) (r.l.length+1) cap,.int .u8 (p:Int)]) (hf3:Fr (· =R) w2 w3):RoTo w w3 M P R L ⟨r.lg,r.l++ [x],p⟩ D d:=by
 have hRl:=h.ltR;have hs2:=hgrow.size;have hs3:=hf3.size;have hrow: ∀b,lv.ownBlock=some b->rowB lv b:=by
  intro b hq;rcases hown.2 with ⟨rfl,_⟩|⟨g',cap',cur,rfl,_⟩
  ·simp[Value.ownBlock]at hq
  ·simp[Value.ownBlock]at hq;subst hq;exact⟨_,_,_,rfl⟩
 have hqR:q≠R:=by
  rcases hat with hat|hat
  ·exact(h5 q (hrow q hat)).2
  ·omega
 have keep: ∀b,b<w.heap.size->b≠R->lv.ownBlock≠some b->w3.heap[b]? =w.heap[b]? :=fun b hbl hbR hbo=>by
  rw[hf3.block b (by omega) hbR,hgrow.block b (by omega) (fun e=>hbo e.symm)]
 have keepP: ∀b,P b->w3.heap[b]? =w.heap[b]? :=fun b hb=>keep b (h.dis b hb).1 (fun e=>(h.dis b hb).2 (e▸h.mem)) (fun e=>(h.dis b hb).2 (h5 b (hrow b e)).1);have fB:Fr M w w2:=⟨hgrow.os,hgrow.tape,hgrow.output,hgrow.size,fun k hk hn=>hgrow.block k hk (fun e=>hn (h5 k (hrow k e.symm)).1)⟩;have fC:Fr (fun b=>M b\/w.heap.size<=b) w2 w3:=hf3.mono (fun k _ e=> .inl (e▸h.mem));refine⟨fB.step fC (fun _ _ h=>h) (fun i hi h=>by rcases h with h|h;exact h;omega),fun b=>M b\/b=q,fun b hb=>?_,hp,?_,?_,.inl h.mem,?_,?_,ML,_,?_,?_,hb,?_,?_⟩
 ·rcases hb with hb|rfl
  ·exact .inl hb
  ·rcases hat with hat|hat
   ·exact .inl (h5 b (hrow b hat)).1
   ·exact .inr (by omega)
 ·intro y hy;rcases List.mem_append.1 hy with hy|hy
  ·exact h.ok y hy
  ·rw[List.mem_singleton.1 hy];exact hx
 ·show(r.l++ [x]).length<=r.lg.l.length;rw[la0];exact hlen
 ·rintro b (hb|rfl)
  ·have:=h.lt b hb;omega
  ·omega
 ·intro b hP;have:=(h.dis b hP).1;refine⟨by omega,?_⟩;rintro (hm|hm)
  ·exact(h.dis b hP).2 hm
  ·rcases hat with hat|hat
   ·exact(h.dis b hP).2 (h5 b (hrow b (hat.trans (congrArg some hm.symm)))).1
   ·omega
 ·exact h1.keep (by omega) fun b hb=>keep b (h1.lt b hb) (h2 b hb).2.1 (fun e=>(h2 b hb).2.2 (hrow b e))
 ·intro b hb;refine⟨.inl (h2 b hb).1,(h2 b hb).2.1,?_⟩;rintro ⟨o,n,c,e⟩;simp only[vs0,Option.some.injEq,Addr.mk.injEq]at e;obtain⟨⟨rfl,_⟩,_⟩:=e;rcases hat with hat|hat
  ·exact(h2 q hb).2.2 (hrow q hat)
  ·have:=h1.lt q hb;omega
 ·refine⟨ps++ [(x,sv)],by rw[List.map_append,hps];rfl,?_,fun z hz=>?_⟩
  ·rw[rowS_snoc,la0];exact ownsRow_keep hown2 fun g hg=>by
    obtain⟨o,n,c,e⟩:=hg;simp only[vs0,Option.some.injEq,Addr.mk.injEq]at e;obtain⟨⟨rfl,_⟩,_⟩:=e;exact hf3.block q hlt hqR
  ·rcases List.mem_append.1 hz with hz|hz
   ·exact(hpn z hz).keep (fun _ k=>k) keepP
   ·rw[List.mem_singleton.1 hz];exact hxn.keep (fun _ k=>k) keepP
 ·rintro b ⟨o,n,c,e⟩;simp only[vs0,Option.some.injEq,Addr.mk.injEq]at e;obtain⟨⟨rfl,_⟩,_⟩:=e;exact⟨.inr rfl,hqR⟩
theorem info_step:(prog.info? 47).map (fun i=>(i.zero,i.size,i.bytes))=some (some (.agg #[.int .u8 0,.int .i64 0,.int .i64 0,.int .i64 0,.int .i64 0,.slice none 0 0,.int .i64 0,.int .i64 0,.int .i64 0]),9,88):=by kernel_rfl
theorem stC_one (x:St) (a:Option Addr) (n c:Nat): ∀v∈(stC x (.slice a n c)).toList,v.oneCell'=true:=by
 intro v hv;simp only[stC,List.mem_cons,List.not_mem_nil,or_false]at hv;rcases hv with rfl|rfl|rfl|rfl|rfl|rfl|rfl|rfl|rfl<;>rfl
theorem nextP_lt (p k:Nat):(nextP p k).1<4:=by
 unfold nextP;dsimp only;split
 ·decide
 split
 ·decide
 split<;>decide
theorem RoAt.frs_len {w:World} {M P:Nat->Prop} {R L D:Nat} {r:Rdw} {d:Dk} (h:RoAt w M P R L r D d):r.l.length<=4194304:=by
 obtain⟨ML,lv,h1,h2,h3,h4,h5⟩:=h.ex;obtain⟨MD,hd,_⟩:=h1.disk;have:=h1.bound hd.inv;have:=frs_count r.lg.l;have:=h.len;omega
theorem roTakes_c (w:World) (M P:Nat->Prop) (R L:Nat) (r:Rdw) (D:Nat) (d:Dk) (h:RoAt w M P R L r D d) (x:St) (v:Value) (hv:StIn w P v x) (hok:x.Ok) (hk0:1<=x.kind) (hk1:x.kind<=6) (hlen:r.l.length<r.lg.l.length):
  Calls prog 45 #[px R,v] w fun e w'=>e= .returned (.bool (nextP r.phase x.kind).2)/\RoTo w w' M P R L (if(nextP r.phase x.kind).2=true then⟨r.lg,r.l++ [x],(nextP r.phase x.kind).1⟩else r) D d:=by
 obtain⟨ML,lv,h1,h2,h3,h4,h5⟩:=h.ex;obtain⟨sv,rfl,hn⟩:=hv;obtain⟨ps,hp1,hp2,hp3⟩:=h4;have hph:=h.phase;have HN:Hd (∀W:World,CB prog 53 #[.int .u8 (r.phase:Int),.int .u8 (x.kind:Int)] W (.tuple #[.int .u8 ((nextP r.phase x.kind).1:Nat),.bool (nextP r.phase x.kind).2])):=fun W=>roNext_c r.phase x.kind (by omega) hk0 hk1 W;have HNL:=Lh (nextP_lt r.phase x.kind);generalize nextP r.phase x.kind=nx at*;obtain⟨np,nb⟩:=nx;dsimp only at HN HNL;have hrl:=h.frs_len;have hA:=(Below.refl w.heap.size w).alloc le0 (.cells (stC x sv) 47);have hbx:=Blk.new w (stC x sv) 47;have hbR:=h3.below hA h.ltR;have HH:=Lh h;have H1:=Lh h1;have H2:=Lh h2;have H3:=Lh h3;have H5:=Lh h5;have HP1:=Lh hp1;have HP2:=Lh hp2;have HP3:=Lh hp3;have HNN:=Lh hn;have HOK:=Lh hok;have HLN:=Lh hlen;have HRL:=Lh h.ltR;obtain⟨a,cap,hsv,hcap,hmx⟩:=hn.slice;obtain⟨la,lcap,hlv,hlc,hlm⟩:=(show StsAt w P lv r.l from⟨ps,hp1,hp2,hp3⟩).slice;subst hsv hlv;clear h h1 h2 h3 h5 hp1 hp2 hp3 hn hok hlen hk0 hk1;unfold px;have c2:=hbR.cell 2;have x0:(w.alloc (.cells (stC x (.slice a x.job.nodes.length cap)) 47)).cell? ⟨w.heap.size,0,none⟩=some (.int .u8 (x.kind:Int)):=hbx.cell 0;unfold stC at hA hbx hbR c2 x0⊢;go_enter func45,ntmps45
 go_upto_region 1 with fail
 generalize World.alloc w _=W1 at*
 go_cut [5,6] (fun s5 s6 wx=>s5= .int .u8 (np:Int)/\s6= .bool nb/\Below W1.heap.size W1 wx)
 case first=>
  go_region_with (first|(go_at_call 53;refine(HN.o W1.drew).mono ?_;rintro e w2 ⟨rfl,hb2⟩))
  all_goals
   go_wp2_with fail
   go_meet;exact⟨rfl,rfl,(Below.refl W1.heap.size W1).drew.trans hb2⟩
 case rest=>
 obtain⟨rfl,rfl,hb⟩:=hcut;have hbw:=hA.trans (hb.mono hA.size)
 cases nb
 ·go_wp2_with fail
  go_ret;exact⟨rfl,HH.o.toB hbw⟩
 ·have hbx2:=hbx.below hb hbx.lt;have hbR2:=hbR.below hb (by have:=hA.size;have:=HRL.o;omega);have hk: ∀b,b<w.heap.size->wc.heap[b]? =w.heap[b]? :=fun b q=>hbw.block b q;have HO2:Hd (wc.ownsRow 0 47 9 (.slice la r.l.length lcap) r.l.length (rowS ps)):=ownsRow_keep HP2.o fun g hg=>hk g (HH.o.lt g (H5.o g hg).1);obtain⟨i0,hi,hz0,hz1,hz2⟩:=info_parts info_step;have HOA:Hd (World.ownsRow (World.drew (wc.alloc (.cells #[.int .u8 (x.kind:Int),.int .i64 x.n,.int .i64 x.cut,.int .i64 x.too,.int .i64 x.job.par,.slice a x.job.nodes.length cap,.int .i64 x.part,.int .i64 x.at_,.int .i64 x.why] 47))) 0 47 9 (.slice la r.l.length lcap) r.l.length (rowS ps)):=HO2.o.alloc _;have HNA:Hd (∀j u',([.int .u8 (x.kind:Int),.int .i64 x.n,.int .i64 x.cut,.int .i64 x.too,.int .i64 x.job.par,.slice a x.job.nodes.length cap,.int .i64 x.part,.int .i64 x.at_,.int .i64 x.why]:List Value)[j]? =some u'->(World.drew (wc.alloc (.cells #[.int .u8 (x.kind:Int),.int .i64 x.n,.int .i64 x.cut,.int .i64 x.too,.int .i64 x.job.par,.slice a x.job.nodes.length cap,.int .i64 x.part,.int .i64 x.at_,.int .i64 x.why] 47))).cell? ((⟨wc.heap.size,0,none⟩:Addr).add j)=some u'):=World.news_of_block (heap_alloc_new wc _);have HONE:=Lh (stC_one x a x.job.nodes.length cap);have HBX:Hd (Below wc.heap.size wc (World.drew (wc.alloc (.cells #[.int .u8 (x.kind:Int),.int .i64 x.n,.int .i64 x.cut,.int .i64 x.too,.int .i64 x.job.par,.slice a x.job.nodes.length cap,.int .i64 x.part,.int .i64 x.at_,.int .i64 x.why] 47)))):=((Below.refl wc.heap.size wc).alloc le0 _).drew;have HBRA:Hd (Blk (World.drew (wc.alloc (.cells #[.int .u8 (x.kind:Int),.int .i64 x.n,.int .i64 x.cut,.int .i64 x.too,.int .i64 x.job.par,.slice a x.job.nodes.length cap,.int .i64 x.part,.int .i64 x.at_,.int .i64 x.why] 47))) R 85 #[px L,.slice la r.l.length lcap,.int .u8 (r.phase:Int)]):=hbR2.alloc _;have hro: ∀q,(Value.slice la r.l.length lcap).ownBlock=some q->q≠R:=by
   intro q hq;rcases HP2.o.2 with ⟨e,_⟩|⟨g',cap',cur,e,_⟩
   ·rw[e]at hq;simp[Value.ownBlock]at hq
   ·rw[e]at hq;simp[Value.ownBlock]at hq;subst hq;exact(H5.o g' ⟨_,_,_,e⟩).2
  have HRO:=Lh hro;have HBW:=Lh hbw;obtain⟨hx0,hx1,hx2,hx3,hx4,hx5,hx6,hx7,hx8⟩:=hbx2.q9;have k1:=hbR2.cell 1;have k2:=hbR2.cell 2;have m1:=hbR2.free 1;have m2:=hbR2.free 2;have hlR:=hbR2.lt;clear hbx hbx2 hbR hbR2 hb hbw hA hk hro c2 x0 HO2
  go_upto_region 3 with fail
  go_region_law (first
   |(refine step_append_lies _ (by rfl) _ _ _ (by rfl) 0 47 i0 (.agg #[.int .u8 0,.int .i64 0,.int .i64 0,.int .i64 0,.int .i64 0,.slice none 0 0,.int .i64 0,.int .i64 0,.int .i64 0]) 9 88 underlying60 hi hz0 hz1 hz2 rfl (by decide) _ r.l.length (rowS ps) (by rfl) HOA.o ⟨wc.heap.size,0,none⟩ 1 1 [.int .u8 (x.kind:Int),.int .i64 x.n,.int .i64 x.cut,.int .i64 x.too,.int .i64 x.job.par,.slice a x.job.nodes.length cap,.int .i64 x.part,.int .i64 x.at_,.int .i64 x.why] (by rfl) rfl HNA.o HONE.o (by decide) (by unfold maxLen;omega) (by omega) ze0 _ rfl ?_;intro q cap4 w4 hown4 hgrow4 hat4 hlt4;have hb4:=HBRA.o.grown hgrow4 (fun e=>HRO.o _ e.symm rfl);have c41:=hb4.cell 1;have f41:=hb4.free 1;have c42:=hb4.cell 2;have f42:=hb4.free 2))
  all_goals
   have HB4:=Lh hb4;have HG4:=Lh hgrow4;have HT4:=Lh hat4;have HL4:=Lh hlt4;have HW4:=Lh hown4;clear hb4 hgrow4 hat4 hlt4 hown4 HNA HOA HONE HBRA HRO HN hx0 hx1 hx2 hx3 hx4 hx5 hx6 hx7 hx8 k1 k2 m1 m2 c41 c42 f41 f42
   try go_wp2_with fail
   go_ret;have hbx:=HBW.o.trans (HBX.o.mono HBW.o.size);have kP: ∀b,P b->_:=fun b q=>hbx.block b (HH.o.dis b q).1;refine⟨rfl,((((HH.o.below hbx).grow (H1.o.below hbx) H2.o H5.o HP1.o (ownsRow_keep HP2.o fun g hg=>hbx.block g (HH.o.lt g (H5.o g hg).1)) (fun p hp=>(HP3.o p hp).keep (fun _ k=>k) kP) (HNN.o.keep (fun _ k=>k) kP) HOK.o HLN.o HNL.o
    HG4.o HT4.o HL4.o HW4.o ((HB4.o.set 1 _).set 2 _) (((Fr.refl (fun x=>x=R) w4).setCell (p:=⟨R,1,none⟩) (.inl rfl) _).setCell (p:=⟨R,2,none⟩) (.inl rfl) _))).of_below hbx)⟩
structure RoOp where
 kind:Int
 n:Int
 m:Int
 x:St
def opC (o:RoOp) (sv:Value):Array Value:=#[.int .i64 o.kind,.int .i64 o.n,.int .i64 o.m,.int .u8 (o.x.kind:Int),.int .i64 o.x.n,.int .i64 o.x.cut,.int .i64 o.x.too,.int .i64 o.x.job.par,sv,.int .i64 o.x.part,.int .i64 o.x.at_,.int .i64 o.x.why]
def OpsRd (w:World) (P:Nat->Prop) (v:Value) (l:List RoOp):Prop:=
 ∃a cap,v= .slice a l.length cap/\l.length<=cap/\cap<=maxLen/\(l.length=0\/ ∃b off,a=some ⟨b,off,none⟩/\P b/\ ∀k (h:k<l.length),∃sv,NodesIn w P l[k].x.job.nodes sv/\ ∀j,j<12->w.cell? ⟨b,off+k*12+j,none⟩=(opC l[k] sv)[j]?)
theorem OpsRd.keep {w w':World} {P Q:Nat->Prop} {v:Value} {l:List RoOp} (h:OpsRd w P v l) (hPQ: ∀b,P b->Q b) (hk: ∀b,P b->w'.heap[b]? =w.heap[b]?):OpsRd w' Q v l:=by
 obtain⟨a,cap,hv,h1,h2,h3⟩:=h;refine⟨a,cap,hv,h1,h2,h3.imp id ?_⟩;rintro ⟨b,off,ha,hb,hc⟩;refine⟨b,off,ha,hPQ b hb,fun k hk2=>?_⟩;obtain⟨sv,hn,hcs⟩:=hc k hk2;exact⟨sv,hn.keep hPQ hk,fun j hj=>(World.cell?_of_block (hk b hb)).trans (hcs j hj)⟩
theorem OpsRd.slice {w:World} {P:Nat->Prop} {v:Value} {l:List RoOp} (h:OpsRd w P v l): ∃a cap,v= .slice a l.length cap/\l.length<=cap/\cap<=maxLen:=by
 obtain⟨a,cap,hv,h1,h2,h3⟩:=h;exact⟨a,cap,hv,h1,h2⟩
theorem OpsRd.at_ {w:World} {P:Nat->Prop} {v:Value} {l:List RoOp} (h:OpsRd w P v l) (k:Nat) (hk:k<l.length): ∃b off cap sv,v= .slice (some ⟨b,off,none⟩) l.length cap/\P b/\NodesIn w P l[k].x.job.nodes sv/\ ∀j,j<12->w.cell? ⟨b,off+k*12+j,none⟩=(opC l[k] sv)[j]? :=by
 obtain⟨a,cap,hv,h1,h2,h3⟩:=h;rcases h3 with h3|⟨b,off,rfl,hb,hc⟩
 ·omega
 ·obtain⟨sv,hn,hcs⟩:=hc k hk;exact⟨b,off,cap,sv,hv,hb,hn,hcs⟩
def heavyOps (l:List RoOp):Bool:=l.any (fun o=>o.x.job.heavyB)||decide (100<(l.length:Int))
theorem opHeavy_c (l:List RoOp) (v:Value) (w:World) (P:Nat->Prop) (h:OpsRd w P v l) (hP: ∀b,P b->b<w.heap.size):
  CB prog 5 #[v] w (.bool (heavyOps l)):=by
 obtain⟨a,cap,rfl,hcap,hmx⟩:=h.slice;have HS:=Lh h;have HPL:=Lh hP;have hlm:l.length<=9223372036854775807:=by unfold maxLen at hmx;omega
 have HE:Hd (heavyOps l=(l.any (fun o=>o.x.job.heavyB)||decide (100<(l.length:Int)))):=rfl;generalize heavyOps l=R at*;have HN: ∃N,l.length=N:=⟨_,rfl⟩;obtain⟨N,hN⟩:=HN;have HN:=Lh hN;rw[hN]at hlm⊢;rw[hN]at HE;clear h hcap hmx hN hP;go_enter func5,ntmps5
 go_wp2_with fail
 go_loopw [7] (fun q wr=> ∃k:Nat,q= .int .i64 k/\k<=N/\Below w.heap.size w wr/\(l.drop k).any (fun o=>o.x.job.heavyB)=l.any (fun o=>o.x.job.heavyB)) (fun q _=>N-(intOf q).toNat)
 case atStart=>exact⟨0,rfl,ze0,Below.refl _ _,rfl⟩
 case round=>
  obtain⟨k,rfl,hk,hBr,hr⟩:=hrel;by_cases hlt:k<N
  ·have hkl:k<l.length:=by have:=HN.o;omega
   obtain⟨b,off,cp,sv,e1,hb,hn,hc⟩:=(HS.o.keep (Q:=P) (fun _ k=>k) (fun b hb=>hBr.block b (HPL.o b hb))).at_ k hkl;rw[HN.o]at e1;simp only[vs0,true_and]at e1;obtain⟨rfl,rfl⟩:=e1;obtain⟨sa,sc,rfl,_,_⟩:=hn.slice;rw[List.drop_eq_getElem_cons hkl,List.any_cons]at hr;have HC:=Lh (hn.toAt (B:=w.heap.size) HPL.o);generalize l[k]'hkl=o at*;have hbw:w.heap.size<=wr.heap.size:=hBr.size;have c0:=hc 0 (by omega);have c1:=hc 1 (by omega);have c2:=hc 2 (by omega);have c3:=hc 3 (by omega);have c4:=hc 4 (by omega);have c5:=hc 5 (by omega);have c6:=hc 6 (by omega);have c7:=hc 7 (by omega);have c8:=hc 8 (by omega);have c9:=hc 9 (by omega);have c10:=hc 10 (by omega);have c11:=hc 11 (by omega);rw[Nat.add_zero]at c0;unfold opC at c0 c1 c2 c3 c4 c5 c6 c7 c8 c9 c10 c11;have hbx:=Blk.new wr #[.int .i64 o.kind,.int .i64 o.n,.int .i64 o.m,.int .u8 (o.x.kind:Int),.int .i64 o.x.n,.int .i64 o.x.cut,.int .i64 o.x.too,.int .i64 o.x.job.par,.slice sa o.x.job.nodes.length sc,.int .i64 o.x.part,.int .i64 o.x.at_,.int .i64 o.x.why] 49;have hB2:=hBr.alloc hbw (.cells #[.int .i64 o.kind,.int .i64 o.n,.int .i64 o.m,.int .u8 (o.x.kind:Int),.int .i64 o.x.n,.int .i64 o.x.cut,.int .i64 o.x.too,.int .i64 o.x.job.par,.slice sa o.x.job.nodes.length sc,.int .i64 o.x.part,.int .i64 o.x.at_,.int .i64 o.x.why] 49);have HH:Hd (∀W:World,Below w.heap.size w W->Below w.heap.size wr W->CB prog 28 #[.agg #[.int .i64 o.x.job.par,.slice sa o.x.job.nodes.length sc]] W (.bool o.x.job.heavyB)):=
    fun W hW h2=>Heavy_c o.x.job _ w.heap.size W ⟨_,rfl,HC.o.keep h2⟩ hW.size
   have HB2:=Lh ((Below.refl wr.heap.size wr).alloc le0 (.cells #[.int .i64 o.kind,.int .i64 o.n,.int .i64 o.m,.int .u8 (o.x.kind:Int),.int .i64 o.x.n,.int .i64 o.x.cut,.int .i64 o.x.too,.int .i64 o.x.job.par,.slice sa o.x.job.nodes.length sc,.int .i64 o.x.part,.int .i64 o.x.at_,.int .i64 o.x.why] 49));have HR:=Lh hr;clear hr hn hc;rename_i hx1 hx2;clear hx1 hx2
   go_upto_region 4 with fail
   generalize World.alloc wr _=W2 at*;have n7:=hbx.cell 7;have n8:=hbx.cell 8;clear c0 c1 c2 c3 c4 c5 c6 c7 c8 c9 c10 c11;have HH2:=Lh (HH.o W2 hB2 (HB2.o.mono hbw))
   cases hv:o.x.job.heavyB
   all_goals
    rw[hv]at HH2;have HV:=Lh hv;clear hv
    go_wp2_with (first|(go_at_call 28;refine HH2.o.mono ?_;rintro e w3 ⟨rfl,hb3⟩)|fail)
   ·go_roundw
    case rel=>exact⟨k+1,by go_num,by omega,hB2.trans (hb3.mono hB2.size),by rw[<-HR.o,HV.o];rfl⟩
    case measure=>simp[intOf];omega
   ·go_ret;refine⟨ret_bool ?_,hB2.trans (hb3.mono hB2.size)⟩;rw[HE.o,<-HR.o,HV.o];rfl
  ·rw[List.drop_of_length_le (by have:=HN.o;omega)]at hr;have HR:=Lh hr;clear hr;go_wp2;go_ret;exact⟨ret_bool (by rw[HE.o,<-HR.o];rfl),hBr⟩
theorem Dk.append_few (d:Dk) (f:Int) (s:ByteArray):(d.append f s).1.loose.length<=d.loose.length+1:=d.does_few ⟨0,f,0,0,s⟩
theorem Dk.cut_few (d:Dk) (f n:Int):(d.cut f n).1.loose.length<=d.loose.length+1:=d.does_few ⟨1,f,n,0,.empty⟩
theorem Dk.sync_few (d:Dk):d.sync.1.loose.length<=d.loose.length:=by
 unfold Dk.sync
 repeat' split
 all_goals first|exact le0|exact ze0|(rw[d.op_same.2.2.2];exact le0)
theorem Lg.put_few (d:Dk) (g:Lg) (k:Nat) (u:ByteArray):(Lg.put d g k u).1.loose.length<=d.loose.length+1:=by
 unfold Lg.put
 repeat' split
 all_goals first|exact Nat.le_succ _|exact Dk.append_few _ _ _
theorem Lg.sync_few (d:Dk) (g:Lg):(Lg.sync d g).1.loose.length<=d.loose.length:=by
 unfold Lg.sync
 repeat' split
 all_goals first|exact le0|exact Dk.sync_few _
theorem Lg.open_few (d:Dk) (f:Nat):(Lg.open d f).1.loose.length<=d.loose.length+1:=by
 unfold Lg.open
 repeat' split
 all_goals first|exact Nat.le_succ _|exact Dk.cut_few _ _ _|exact le1 (Dk.sync_few _) (Dk.cut_few _ _ _)
theorem Rdw.open_few (d:Dk):(Rdw.open d).1.loose.length<=d.loose.length+1:=by
 unfold Rdw.open;split<;>exact Lg.open_few _ _
theorem Rdw.put_few (d:Dk) (r:Rdw) (x:St):(Rdw.put d r x).1.loose.length<=d.loose.length+1:=by
 unfold Rdw.put;dsimp only
 repeat' split
 all_goals first|exact Nat.le_succ _|exact Lg.put_few _ _ _ _|exact le1 (Lg.sync_few _ _) (Lg.put_few _ _ _ _)
theorem few_go: ∀(l:List Nd) (n:Int),heavyGo l n=false-> ∀d∈l,d.uid.size<=1000
 |d::l,n,h,e,he=>by
  simp only[heavyGo,Bool.or_eq_false_iff,decide_eq_false_iff_not]at h
  rcases List.mem_cons.1 he with rfl|he
  ·have:=h.2.1;omega
  ·exact few_go l _ h.2.2.2 e he
theorem few_ops {l:List RoOp} (h:heavyOps l=false):l.length<=100/\ ∀o∈l,o.x.job.nodes.length<=1000/\ ∀d∈o.x.job.nodes,d.uid.size<=1000000:=by
 unfold heavyOps at h;simp only[Bool.or_eq_false_iff,decide_eq_false_iff_not,List.any_eq_false]at h;refine⟨by omega,fun o ho=>?_⟩;have h1:=h.1 o ho;unfold Jb.heavyB at h1;simp only[Bool.or_eq_true,not_or,decide_eq_true_eq,Bool.not_eq_true]at h1;exact⟨by omega,fun d hd=>by have:=few_go _ _ h1.2 d hd;omega⟩
theorem St.same_refl (x:St):x.sameB x=true:=by
 unfold St.sameB;rw[Jb.same_refl];simp
section
open Go.RowKit Go.ChangeShapes Go.WideShapes
section
variable {H:Type} {enc:TypeId×Value->H} {w:World}
theorem open_step9 (m:Nat) (c0 c1 c2 c3 c4 c5 c6 c7 c8:Value) (y:DataW H×List MemPlace) (h:DataW.trod enc prog w 0 (fun _=>true) true m 47 [c0,c1,c2,c3,c4,c5,c6,c7,c8]=some y):
  ∃(x:St) (sv:Value),[c0,c1,c2,c3,c4,c5,c6,c7,c8]=(stC x sv).toList/\NodesAt w w.heap.size x.job.nodes sv/\x.Ok:=by
 obtain⟨xs,m1,hm2,_,_,hxl,hfs⟩:=DataW.trod_struct underlying47 h;have q0:=hfs 0 _ rfl;have q1:=hfs 1 _ rfl;have q2:=hfs 2 _ rfl;have q3:=hfs 3 _ rfl;have q4:=hfs 4 _ rfl;have q5:=hfs 5 _ rfl;have q6:=hfs 6 _ rfl;have q7:=hfs 7 _ rfl;have hxl:xs.length=8:=by assumption
 obtain⟨y0,y1,y2,y3,y4,y5,y6,y7,rfl⟩: ∃y0 y1 y2 y3 y4 y5 y6 y7,xs=[y0,y1,y2,y3,y4,y5,y6,y7]:=by
  match xs,hxl with
  | [y0,y1,y2,y3,y4,y5,y6,y7],_=>exact⟨y0,y1,y2,y3,y4,y5,y6,y7,rfl⟩
 have e0:DataW.trod enc prog w 0 (fun _=>true) true m1 5 [c0]=some y0:=q0;have e1:DataW.trod enc prog w 0 (fun _=>true) true m1 2 [c1]=some y1:=q1;have e2:DataW.trod enc prog w 0 (fun _=>true) true m1 2 [c2]=some y2:=q2;have e3:DataW.trod enc prog w 0 (fun _=>true) true m1 2 [c3]=some y3:=q3;have e4:DataW.trod enc prog w 0 (fun _=>true) true m1 45 [c4,c5]=some y4:=q4;have e5:DataW.trod enc prog w 0 (fun _=>true) true m1 3 [c6]=some y5:=q5;have e6:DataW.trod enc prog w 0 (fun _=>true) true m1 3 [c7]=some y6:=q6;have e7:DataW.trod enc prog w 0 (fun _=>true) true m1 28 [c8]=some y7:=q7;obtain⟨k0,h0,_,w0⟩:=DataW.trod_int underlying5 e0;obtain⟨k1,h1,_,w1⟩:=DataW.trod_int underlying2 e1;obtain⟨k2,h2,_,w2⟩:=DataW.trod_int underlying2 e2;obtain⟨k3,h3,_,w3⟩:=DataW.trod_int underlying2 e3;obtain⟨k5,h5,_,w5⟩:=DataW.trod_int underlying3 e5;obtain⟨k6,h6,_,w6⟩:=DataW.trod_int underlying3 e6;obtain⟨k7,h7,_,w7⟩:=DataW.trod_int underlying28 e7;obtain⟨zs,m2,_,_,_,hzl,hgs⟩:=DataW.trod_struct underlying45 e4;have p0:=hgs 0 _ rfl;have p1:=hgs 1 _ rfl;have hzl:zs.length=2:=by assumption
 obtain⟨z0,z1,rfl⟩: ∃z0 z1,zs=[z0,z1]:=by
  match zs,hzl with
  | [z0,z1],_=>exact⟨z0,z1,rfl⟩
 have f0:DataW.trod enc prog w 0 (fun _=>true) true m2 3 [c4]=some z0:=p0;have f1:DataW.trod enc prog w 0 (fun _=>true) true m2 43 [c5]=some z1:=p1;obtain⟨k4,h4,_,w4⟩:=DataW.trod_int underlying3 f0;obtain⟨l,hl1,hl2⟩:=open_nodes m2 c5 z1 f1;simp only[List.cons.injEq,and_true]at h0 h1 h2 h3 h4 h5 h6 h7;subst h0 h1 h2 h3 h4 h5 h6 h7;have r0:=wf_u8r w0;have r4:=wf_i64r w4;obtain⟨n,rfl⟩: ∃n:Nat,k0=(n:Int):=⟨k0.toNat,by omega⟩;exact⟨⟨n,k1,k2,k3,⟨k4,l⟩,k5,k6,k7⟩,c5,rfl,hl1,by show n<256;omega,wf_i64r w1,wf_i64r w2,wf_i64r w3,⟨r4.1,r4.2,hl2⟩,wf_i64r w5,wf_i64r w6,wf_i64r w7⟩
end
end
section
open Go.RowKit Go.ChangeShapes Go.WideShapes
def DOpsRd (w:World) (P:Nat->Prop) (v:Value) (l:List DOp):Prop:=
 ∃a cap,v= .slice a l.length cap/\l.length<=cap/\cap<=maxLen/\(l.length=0\/ ∃b off,a=some ⟨b,off,none⟩/\P b/\ ∀k (h:k<l.length),∀j,j<5->w.cell? ⟨b,off+k*5+j,none⟩=l[k].cells[j]?)
theorem DOpsRd.keep {w w':World} {P Q:Nat->Prop} {v:Value} {l:List DOp} (h:DOpsRd w P v l) (hPQ: ∀b,P b->Q b) (hk: ∀b,P b->w'.heap[b]? =w.heap[b]?):DOpsRd w' Q v l:=by
 obtain⟨a,cap,hv,h1,h2,h3⟩:=h;refine⟨a,cap,hv,h1,h2,h3.imp id ?_⟩;rintro ⟨b,off,ha,hb,hc⟩;exact⟨b,off,ha,hPQ b hb,fun k hk2 j hj=>(World.cell?_of_block (hk b hb)).trans (hc k hk2 j hj)⟩
theorem DOpsRd.at_ {w:World} {P:Nat->Prop} {v:Value} {l:List DOp} (h:DOpsRd w P v l) (k:Nat) (hk:k<l.length): ∃b off cap,v= .slice (some ⟨b,off,none⟩) l.length cap/\P b/\ ∀j,j<5->w.cell? ⟨b,off+k*5+j,none⟩=l[k].cells[j]? :=by
 obtain⟨a,cap,hv,h1,h2,h3⟩:=h;rcases h3 with h3|⟨b,off,rfl,hb,hc⟩
 ·omega
 ·exact⟨b,off,cap,hv,hb,hc k hk⟩
section
variable {H:Type} {enc:TypeId×Value->H} {w:World}
theorem open_rowG {α:Type} (i0:α) {t e:TypeId} {n:Nat} (hn0:0<n) (hu:prog.underlying t=some (.slice e)) (hc:prog.cellsOf e=n) {C:α->Value->List Value} {Good:α->Value->Prop}
  (hopen: ∀m cs y,cs.length=n->DataW.trod enc prog w 0 (fun _=>true) true m e cs=some y-> ∃x sv,cs=C x sv/\Good x sv) {fuel:Nat} {sv:Value} {x:DataW H×List MemPlace}
  (h:DataW.trod enc prog w 0 (fun _=>true) true fuel t [sv]=some x):
  ∃l:List α,(∃a cap,sv= .slice a l.length cap/\l.length<=cap/\cap<=maxLen/\(l.length=0\/ ∃b off,a=some ⟨b,off,none⟩/\b<w.heap.size/\ ∀k (h:k<l.length),∃sv,Good l[k] sv/\ ∀j,j<n->w.cell? ⟨b,off+k*n+j,none⟩=(C l[k] sv)[j]?))/\
   (∀x∈l,∃sv,Good x sv)/\(l.length=0\/ ∃es sp,x.1= .slice es sp/\es.length=l.length):=by
 haveI:Inhabited α:=⟨i0⟩
 rcases DataW.trod_slice hu h with ⟨h0,_⟩|⟨a,len,cap,elems,rest,n',hf,hcs,hx,hb,hl,hm,hlen,hel,_,_⟩
 ·simp only[List.cons.injEq,and_true]at h0;subst h0;exact⟨[],⟨none,0,rfl,ze0,ze0,.inl rfl⟩,by simp,.inl rfl⟩
 ·simp only[List.cons.injEq,and_true]at hcs;subst hcs;rw[hc]at hel;have hex: ∀i,i<len-> ∃(y:α) (sv:Value),(C y sv).length=n/\(∀j,j<n->w.cell? (a.add (i*n+j))=(C y sv)[j]?)/\Good y sv:=by
   intro i hi;have hi2:i<elems.length:=by omega
   have h1:=hel i hi;rw[List.getElem?_eq_getElem hi2]at h1;obtain⟨cs,h2,h3⟩:=Option.bind_eq_some_iff.1 h1;obtain⟨_,hcl,hcell⟩:=World.cells?_some h2;obtain⟨y,sv,rfl,hg⟩:=hopen _ cs _ hcl h3;refine⟨y,sv,hcl,fun j hj=>?_,hg⟩;have g:=hcell j (by omega);rw[Go.Deep.add_add]at g;exact g
  by_cases h0:len=0
  ·subst h0;exact⟨[],⟨_,cap,rfl,ze0,hm,.inl rfl⟩,by simp,.inl rfl⟩
  ·obtain⟨Y,hY⟩:=Go.Deep.choose_lt hex;obtain⟨V,hV⟩:=Go.Deep.choose_lt hY;obtain⟨u,h00⟩: ∃u,w.cell? a=some u:=by
    obtain⟨q1,q2,_⟩:=hV 0 (by omega);have q:=q2 0 hn0;rw[List.getElem?_eq_getElem (by omega)]at q;exact⟨_,by simpa[Addr.add]using q⟩
   obtain⟨b,off,rfl⟩: ∃b off,a=⟨b,off,none⟩:=⟨_,_,add_spot h00⟩;have hlt:b<w.heap.size:=World.block_lt_of_cell? _ _ h00;refine⟨(List.range len).map Y,⟨some ⟨b,off,none⟩,cap,by simp,by simpa using hl,hm,.inr ⟨b,off,rfl,hlt,fun j hj=>?_⟩⟩,?_,.inr ⟨_,_,by rw[hx],by simpa using hlen⟩⟩
   ·have hj':j<len:=by simpa using hj
    obtain⟨_,hc,hn⟩:=hV j hj';have hg:((List.range len).map Y)[j]'hj=Y j:=by simp
    rw[hg];refine⟨V j,hn,fun k hk=>?_⟩;have:=hc k hk;rw[addr_add,<-Nat.add_assoc]at this;exact this
   ·intro z hz;obtain⟨i,hi,rfl⟩:=List.mem_map.1 hz;exact⟨_,(hV i (by simpa using hi)).2.2⟩
theorem open_op12 (m:Nat) (cs:List Value) (y:DataW H×List MemPlace) (hl:cs.length=12) (h:DataW.trod enc prog w 0 (fun _=>true) true m 49 cs=some y):
  ∃(o:RoOp) (sv:Value),cs=(opC o sv).toList/\(NodesAt w w.heap.size o.x.job.nodes sv/\o.x.Ok/\o.n<=9223372036854775807):=by
 match cs,hl with
 | [c0,c1,c2,c3,c4,c5,c6,c7,c8,c9,c10,c11],_=>
  obtain⟨xs,m1,hm2,_,_,hxl,hfs⟩:=DataW.trod_struct underlying49 h;have q0:=hfs 0 _ rfl;have q1:=hfs 1 _ rfl;have q2:=hfs 2 _ rfl;have q3:=hfs 3 _ rfl;have hxl:xs.length=4:=by assumption
  obtain⟨y0,y1,y2,y3,rfl⟩: ∃y0 y1 y2 y3,xs=[y0,y1,y2,y3]:=by
   match xs,hxl with
   | [y0,y1,y2,y3],_=>exact⟨y0,y1,y2,y3,rfl⟩
  have e0:DataW.trod enc prog w 0 (fun _=>true) true m1 3 [c0]=some y0:=q0;have e1:DataW.trod enc prog w 0 (fun _=>true) true m1 3 [c1]=some y1:=q1;have e2:DataW.trod enc prog w 0 (fun _=>true) true m1 3 [c2]=some y2:=q2;have e3:DataW.trod enc prog w 0 (fun _=>true) true m1 47 [c3,c4,c5,c6,c7,c8,c9,c10,c11]=some y3:=q3;obtain⟨k0,h0,_,w0⟩:=DataW.trod_int underlying3 e0;obtain⟨k1,h1,_,w1⟩:=DataW.trod_int underlying3 e1;obtain⟨k2,h2,_,w2⟩:=DataW.trod_int underlying3 e2;obtain⟨x,sv,hx,hn,hok⟩:=open_step9 m1 c3 c4 c5 c6 c7 c8 c9 c10 c11 y3 e3;simp only[List.cons.injEq,and_true]at h0 h1 h2;subst h0 h1 h2;exact⟨⟨k0,k1,k2,x⟩,sv,congrArg (fun l=>Value.int .i64 k0::Value.int .i64 k1::Value.int .i64 k2::l) hx,hn,hok,(wf_i64r w1).2⟩
theorem open_roops {r:Reach} {b0:Nat} {v:Value} {d:DataW H} {p:List MemPlace} (hv:Value.okWide prog w r b0 23 v) (h:DataW.Trod enc prog w 0 (fun _=>true) true 23 v d p):
  ∃l:List RoOp,OpsRd w (· <w.heap.size) v l/\(∀o∈l,o.x.Ok/\o.n<=9223372036854775807)/\(l.length=0\/ ∃es sp,d= .slice es sp/\es.length=l.length):=by
 obtain⟨a,len,cap,rfl⟩:=okWide_slice underlying23 hv;obtain⟨n,h2⟩:=Go.Joins.field_of_Trod h rfl;obtain⟨l,⟨a,cp,q1,q2,q3,q4⟩,h3,h4⟩:=open_rowG (α:=RoOp) ⟨0,0,0,⟨0,0,0,0,⟨0,[]⟩,0,0,0⟩⟩ (by decide) underlying23 (show prog.cellsOf 49=12 by kernel_rfl) (C:=fun o sv=>(opC o sv).toList) open_op12 h2;refine⟨l,⟨a,cp,q1,q2,q3,q4.imp id fun⟨b,off,e,hb,hc⟩=>⟨b,off,e,hb,fun k hk=>?_⟩⟩,fun o ho=>let ⟨_,g⟩:=h3 o ho;g.2,h4⟩;obtain⟨sv,hg,hj⟩:=hc k hk;exact⟨sv,NodesIn.of_at hg.1,fun j hj2=>(hj j hj2).trans (by rw[Array.getElem?_toList])⟩
theorem open_op5 (m:Nat) (cs:List Value) (y:DataW H×List MemPlace) (hl:cs.length=5) (h:DataW.trod enc prog w 0 (fun _=>true) true m 35 cs=some y):
  ∃(o:DOp) (sv:Value),cs=o.cells.toList/\o.Ok:=by
 match cs,hl with
 | [c0,c1,c2,c3,c4],_=>
  obtain⟨xs,m1,hm2,_,_,hxl,hfs⟩:=DataW.trod_struct underlying35 h;have q0:=hfs 0 _ rfl;have q1:=hfs 1 _ rfl;have q2:=hfs 2 _ rfl;have q3:=hfs 3 _ rfl;have q4:=hfs 4 _ rfl;have hxl:xs.length=5:=by assumption
  obtain⟨y0,y1,y2,y3,y4,rfl⟩: ∃y0 y1 y2 y3 y4,xs=[y0,y1,y2,y3,y4]:=by
   match xs,hxl with
   | [y0,y1,y2,y3,y4],_=>exact⟨y0,y1,y2,y3,y4,rfl⟩
  have e0:DataW.trod enc prog w 0 (fun _=>true) true m1 3 [c0]=some y0:=q0;have e1:DataW.trod enc prog w 0 (fun _=>true) true m1 3 [c1]=some y1:=q1;have e2:DataW.trod enc prog w 0 (fun _=>true) true m1 3 [c2]=some y2:=q2;have e3:DataW.trod enc prog w 0 (fun _=>true) true m1 3 [c3]=some y3:=q3;have e4:DataW.trod enc prog w 0 (fun _=>true) true m1 9 [c4]=some y4:=q4;obtain⟨k0,h0,_,w0⟩:=DataW.trod_int underlying3 e0;obtain⟨k1,h1,_,w1⟩:=DataW.trod_int underlying3 e1;obtain⟨k2,h2,_,w2⟩:=DataW.trod_int underlying3 e2;obtain⟨k3,h3,_,w3⟩:=DataW.trod_int underlying3 e3;obtain⟨s,h4,_,w4⟩:=DataW.trod_string underlying9 e4;simp only[List.cons.injEq,and_true]at h0 h1 h2 h3 h4;subst h0 h1 h2 h3 h4;exact⟨⟨k0,k1,k2,k3,s⟩,.bool true,rfl,(wf_i64r w2).2,by unfold maxLen at w4;exact w4⟩
theorem open_dkops {r:Reach} {b0:Nat} {v:Value} {d:DataW H} {p:List MemPlace} (hv:Value.okWide prog w r b0 22 v) (h:DataW.Trod enc prog w 0 (fun _=>true) true 22 v d p):
  ∃l:List DOp,DOpsRd w (· <w.heap.size) v l/\(∀o∈l,o.Ok)/\(l.length=0\/ ∃es sp,d= .slice es sp/\es.length=l.length):=by
 obtain⟨a,len,cap,rfl⟩:=okWide_slice underlying22 hv;obtain⟨n,h2⟩:=Go.Joins.field_of_Trod h rfl;obtain⟨l,⟨a,cp,q1,q2,q3,q4⟩,h3,h4⟩:=open_rowG (α:=DOp) ⟨0,0,0,0,.empty⟩ (by decide) underlying22 (show prog.cellsOf 35=5 by kernel_rfl) (C:=fun(o:DOp) _=>o.cells.toList) (Good:=fun(o:DOp) _=>o.Ok) open_op5 h2;refine⟨l,⟨a,cp,q1,q2,q3,q4.imp id fun⟨b,off,e,hb,hc⟩=>⟨b,off,e,hb,fun k hk j hj=>?_⟩⟩,fun o ho=>let ⟨_,g⟩:=h3 o ho;g,h4⟩;obtain⟨sv,hg,hj2⟩:=hc k hk;exact(hj2 j hj).trans (by rw[Array.getElem?_toList])
end
def HvP (n:Nat) (e:Ending):Prop:= ∃b,e= .returned (.bool b)/\(b=false->n<=300)
theorem dkHeavy_c (l:List DOp) (hok: ∀o∈l,o.Ok) (v:Value) (w:World) (P:Nat->Prop) (h:DOpsRd w P v l) (hP: ∀b,P b->b<w.heap.size):
  Calls prog 4 #[v] w fun e w'=>HvP l.length e/\Below w.heap.size w w':=by
 obtain⟨a,cap,rfl,hcap,hmx,hrow⟩:=id h;have HS:=Lh h;have HPL:=Lh hP;have HOK:=Lh hok;have hlm:l.length<=9223372036854775807:=by unfold maxLen at hmx;omega
 obtain⟨N,hN⟩: ∃N,l.length=N:=⟨_,rfl⟩;have HN:=Lh hN;rw[hN]at hlm⊢;clear h hcap hmx hN hP hrow hok;go_enter func4,ntmps4
 go_wp2_with fail
 go_loopw [3,8] (fun s3 q wr=> ∃k m:Nat,q= .int .i64 k/\k<=N/\s3= .int .i64 m/\m<=262144/\Below w.heap.size w wr) (fun _ q _=>N-(intOf q).toNat)
 case atStart=>exact⟨0,0,rfl,ze0,rfl,by omega,Below.refl _ _⟩
 case round=>
  obtain⟨k,m,rfl,hk,rfl,hm,hB⟩:=hrel;by_cases hlt:k<N
  ·have hkl:k<l.length:=by have:=HN.o;omega
   obtain⟨b,off,cp,e1,hb,hc⟩:=(HS.o.keep (Q:=P) (fun _ k=>k) (fun b hb=>hB.block b (HPL.o b hb))).at_ k hkl;rw[HN.o]at e1;simp only[vs0,true_and]at e1;obtain⟨rfl,rfl⟩:=e1;have hs:=(HOK.o l[k] (List.getElem_mem hkl)).s;have hkI:(k:Int)<(N:Int):=by omega
   have hbw:=hB.size;generalize l[k]'hkl=op at*;obtain⟨ok,of_,on_,om,os⟩:=op;unfold DOp.cells at hc;dsimp only at hc hs;have c0:=hc 0 (by omega);have c1:=hc 1 (by omega);have c2:=hc 2 (by omega);have c3:=hc 3 (by omega);have c4:=hc 4 (by omega);rw[Nat.add_zero]at c0;have hbx:=Blk.new wr #[.int .i64 ok,.int .i64 of_,.int .i64 on_,.int .i64 om,.string os] 35;have hB2:=hB.alloc hbw (.cells #[.int .i64 ok,.int .i64 of_,.int .i64 on_,.int .i64 om,.string os] 35);clear hc
   go_upto_region 5 with fail
   generalize World.alloc wr _=W2 at*;have x4:=hbx.cell 4;clear c0 c1 c2 c3 c4 hbx
   go_wp2_with fail
   ·go_ret;exact⟨⟨_,rfl,fun e=>by simp at e⟩,hB2⟩
   ·rename_i hgt;go_roundw
    case rel=>exact⟨k+1,m+min os.size 262144,by go_num,hlt,by congr 1;omega,by have:=hgt;omega,hB2⟩
    case measure=>simp[intOf];omega
  ·have hdk: ¬(k:Int)<(N:Int):=by omega
   obtain rfl:k=N:=by omega
   go_wp2_with fail
   go_ret;refine⟨⟨_,rfl,fun e=>?_⟩,hB⟩;have e:decide (300<(k:Int))=false:=e;simp only[decide_eq_false_iff_not]at e;omega
end
