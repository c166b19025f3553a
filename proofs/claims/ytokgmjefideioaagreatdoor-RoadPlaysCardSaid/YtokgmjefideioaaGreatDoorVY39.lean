/- Parts. -/
import Derived.Test.YtokgmjefideioaaGreatDoorVY34
import Derived.Test.YtokgmjefideioaaGreatDoorVY36
import Derived.Test.YtokgmjefideioaaGreatDoorVY37
namespace Go.Proofs.YtokgmjefideioaaGreatDoor
open Go.RowKit
set_option linter.unusedVariables false
set_option linter.unusedSimpArgs false
set_option maxRecDepth 100000
set_option maxHeartbeats 16000000
open Tryz
def ROpP (w:World) (M:Nat->Prop) (D:Nat) (o:Dk×Option Rdw×Int) (e:Ending) (w':World):Prop:=
 (∃e1,o.2=(none,e1)/\e1≠0/\e= .returned (.tuple #[.pointer none,.int .i64 e1])/\RDkTo w w' M D o.1)\/
 (∃r R L N G,o.2=(some r,0)/\e= .returned (.tuple #[px R,.int .i64 0])/\Fr M w w'/\RRo w' N G R L D r o.1/\(∀b,N b->M b\/w.heap.size<=b)/\(∀b,G b->w.heap.size<=b)/\w.heap.size<=L/\w.heap.size<=R)
def ReadM:Option St->St->Prop
 |none,y=>y.kind=0
 |some x,y=>y=x/\x.Ok/\x.mayB=true
structure ROq (w:World) (M:Nat->Prop) (g:Lg) (L D R:Nat) (d1:Dk) (N G:Nat->Prop) (k:Nat) (lv:Value) (ps:List (St×Value)) (wr:World):Prop where
 fr:Fr M w wr
 lg:RLg wr N G L D g d1
 hN: ∀b,N b->M b\/w.heap.size<=b
 hG: ∀b,G b->w.heap.size<=b
 hL:w.heap.size<=L
 hR:w.heap.size<=R/\R<wr.heap.size
 far: ∀b,N b\/G b\/b=L->b<R
 bk:Blk wr R 62 #[px L,lv]
 own:wr.ownsRow (R+1) 47 9 lv k (rowS ps)
 len:ps.length=k
 ns: ∀q∈ps,NodesIn wr (fun b=>R<b/\b<wr.heap.size/\lv.ownBlock≠some b) q.1.job.nodes q.2
structure ROp (w:World) (M:Nat->Prop) (g:Lg) (L D R:Nat) (d1:Dk) (N G:Nat->Prop) (k p:Nat) (lv:Value) (ps:List (St×Value)) (wr:World):Prop extends ROq w M g L D R d1 N G k lv ps wr where
 ok: ∀q∈ps,q.1.Ok
 ph:phL (ps.map Prod.fst) 0=some p
 takes:Rdw.takes (g.l.drop k) (ps.map Prod.fst) p=Rdw.takes g.l [] 0
theorem ROq.next {w wr wd w4:World} {M N G:Nat->Prop} {g:Lg} {L D R k q cap:Nat} {d1:Dk} {lv sl:Value} {ps:List (St×Value)} {y:St} (h:ROq w M g L D R d1 N G k lv ps wr) (hb:Below wr.heap.size wr wd) (hn:NodesIn wd (fun c=>wr.heap.size<=c/\c<wd.heap.size) y.job.nodes sl)
  (hw:w4.ownsRow (R+1) 47 9 (.slice (some ⟨q,0,none⟩) (k+1) cap) (k+1) (rowS ps++(stC y sl).toList)) (hg:wd.grownBy w4 lv.ownBlock) (hat:lv.ownBlock=some q\/q=wd.heap.size):
  ROq w M g L D R d1 N G (k+1) (.slice (some ⟨q,0,none⟩) (k+1) cap) (ps++ [(y,sl)]) (w4.setCell ⟨R,1,none⟩ (.slice (some ⟨q,0,none⟩) (k+1) cap))/\Fr (fun b=>R<=b) wr (w4.setCell ⟨R,1,none⟩ (.slice (some ⟨q,0,none⟩) (k+1) cap)):=by
 have hge:=own_ge h.own;have hl0:=own_lt h.own;have hR:=h.hR;have z1:=hb.size;have z2:=hg.size;have hf4:Fr (fun b=>R<=b) wr w4:=(Fr.of_new hb).grown hg fun b e=> .inl (by have:=hge b e;omega);have hf5:=hf4.setCell (p:=⟨R,1,none⟩) (.inl (Nat.le_refl R)) (Value.slice (some ⟨q,0,none⟩) (k+1) cap);have hbk:=((h.bk.below hb hR.2).grown hg fun e=>by have:=hge _ e.symm;omega).set 1 (Value.slice (some ⟨q,0,none⟩) (k+1) cap);refine⟨⟨h.fr.step hf5 (fun _ _ e=>e) (fun i hi e=>?_),h.lg.keep hf5.size fun b e=>hf5.block b (h.lg.lt b e) fun e2=>?_,h.hN,h.hG,h.hL,⟨hR.1,lt1 hR.2 hf5.size⟩,h.far,hbk,?_,by rw[la0,h.len];rfl,fun r hr=>?_⟩,hf5⟩
 ·omega
 ·have:=h.far b e;omega
 ·rw[rowS_snoc];exact own_other hw (p:=⟨R,1,none⟩) (Nat.lt_succ_self R) _
 ·rcases List.mem_append.1 hr with hr|hr
  ·refine(h.ns r hr).keep (fun b e=>⟨e.1,lt1 e.2.1 hf5.size,fun e2=>?_⟩) fun b e=>(heap_setCell_other _ ⟨R,1,none⟩ b _ (by show b≠R;omega)).trans ((hg.block b (by omega) fun e3=>e.2.2 e3.symm).trans (hb.block b e.2.1));obtain rfl:q=b:=by simpa[Value.ownBlock]using e2
   rcases hat with e3|e3
   ·exact e.2.2 e3
   ·omega
  ·rw[List.mem_singleton.1 hr];refine hn.keep (fun b e=>⟨by omega,?_,fun e2=>?_⟩) fun b e=>(heap_setCell_other _ ⟨R,1,none⟩ b _ (by show b≠R;omega)).trans (hg.block b e.2 fun e3=>by have:=hl0 b e3.symm;omega)
   ·have:=hf5.size;have:w4.heap.size<=(w4.setCell ⟨R,1,none⟩ (Value.slice (some ⟨q,0,none⟩) (k+1) cap)).heap.size:=by simp[World.setCell]
    omega
   ·obtain rfl:q=b:=by simpa[Value.ownBlock]using e2
    rcases hat with e3|e3
    ·have:=hl0 _ e3;omega
    ·omega
theorem ROq.sts {w wr W:World} {M N G:Nat->Prop} {g:Lg} {L D R k:Nat} {d1:Dk} {lv:Value} {ps:List (St×Value)} (h:ROq w M g L D R d1 N G k lv ps wr) (hb:Below wr.heap.size wr W):StsRd W (fun b=>R<b/\b<wr.heap.size) lv (ps.map Prod.fst):=
 StsRd.of rfl (by rw[List.length_map,h.len];exact(SlP.of_own h.own).keep (fun b e=>⟨by omega,e.2⟩) fun b e=>hb.block b e.2) fun q hq=>(h.ns q hq).keep (fun b e=>⟨e.1,e.2.1⟩) fun b e=>hb.block b e.2.1
theorem ROp.done {w wr:World} {M N G:Nat->Prop} {g:Lg} {L D R k p:Nat} {d1:Dk} {lv:Value} {ps:List (St×Value)} {o:Dk×Option Rdw×Int} (h:ROp w M g L D R d1 N G k p lv ps wr) (ho:o=(d1,some ⟨g,ps.map Prod.fst,p⟩,0)):
  ROpP w M D o (.returned (.tuple #[px R,.int .i64 0])) wr:=by
 subst ho;have hR:=h.hR;have hap:=h.lg.ap;have hlm:=h.lg.lm;refine .inr ⟨_,R,L,N,fun b=>G b\/(R<b/\b<wr.heap.size),rfl,rfl,h.fr,⟨h.lg.more (fun _ q=> .inl q) fun b q=>?_,⟨fun e=>?_,fun e=>?_,fun e=>?_,hR.2⟩,fun x hx=>?_,h.ph,lv,ps,h.bk,rfl,?_,fun q hq=>(h.ns q hq).mono fun b e=> .inr ⟨e.1,e.2.1⟩⟩,h.hN,fun b q=>?_,h.hL,hR.1⟩
 ·rcases q with q|q
  ·exact⟨(hap b q).1,fun e=>hlm.2.1 (e▸q),(hap b q).2⟩
  ·exact⟨fun e=>by have:=h.far b (.inl e);omega,fun e=>by have:=h.far b (.inr (.inr e));omega,q.2⟩
 ·have:=h.far R (.inr (.inr e));omega
 ·have:=h.far R (.inl e);omega
 ·rcases e with e|e
  ·have:=h.far R (.inr (.inl e));omega
  ·omega
 ·obtain⟨q,hq,rfl⟩:=List.mem_map.1 hx;exact h.ok q hq
 ·show SlP _ _ 9 lv (ps.map Prod.fst).length _;rw[List.length_map,h.len];exact(SlP.of_own h.own).keep (fun b e=> .inr ⟨by omega,e.2⟩) fun _ _=>rfl
 ·rcases q with q|q
  ·exact h.hG b q
  ·omega
theorem ROp.bad {w wr w':World} {M N G:Nat->Prop} {g:Lg} {L D R k p:Nat} {d1:Dk} {lv:Value} {ps:List (St×Value)} {o:Dk×Option Rdw×Int} (h:ROp w M g L D R d1 N G k p lv ps wr) (ho:o=(d1,none,260)) (hf:Fr (fun b=>R<=b) wr w'):
  ROpP w M D o (.returned (.tuple #[.pointer none,.int .i64 260])) w':=by
 subst ho;refine .inl ⟨260,rfl,by decide,rfl,h.fr.step hf (fun _ _ q=>q) (fun i hi q=>?_),N,h.hN,h.lg.dk.fr hf fun b q e=>?_⟩
 ·have:=h.hR.1;omega
 ·have:=h.far b (.inl q);omega
theorem lopen_recs (d:Dk) (f:Nat) (g:Lg) (h:(Lg.open d f).2.1=some g) (hd:d.Inv):(∀p∈g.l,p.ok)/\g.l.length<=4194304:=by
 have hg:g.l=allF (fl d.now f):=by
  unfold Lg.open at h
  repeat' split at h
  all_goals first|(cases h;rfl)|cases h
 obtain⟨rest,h1,h2,_⟩:=allF_spec (fl d.now f);have h3:=allF_le (fl d.now f);have h4:=frs_count (allF (fl d.now f));have:=sum_le d.now f;have:=hd.fits;have:=hd.room2;rw[hg];exact⟨h2,by omega⟩
theorem rrOpen_c (w:World) (M:Nat->Prop) (D:Nat) (d:Dk) (h:RDk w M D d) (hll:d.loose.length<=100000000):
  Calls prog 11 #[px D] w (ROpP w M D (Rdw.open d)):=by
 have HLO:Hd (Calls prog 46 #[px D,.int .i64 6] w (LogP w M D (Lg.open d 6))):=rlOpen_c w M D d h 6 (by decide) hll;have HER:=Lh (lgOpen_err d 6);have HRC:=Lh (fun g hg=>lopen_recs d 6 g hg h.inv);have HE:Hd (Rdw.open d=match (Lg.open d 6).2.1 with
  |none=>((Lg.open d 6).1,none,(Lg.open d 6).2.2)
  |some g=>((Lg.open d 6).1,(Rdw.ofLog g).1,(Rdw.ofLog g).2)):=rfl
 unfold LogP at HLO;generalize Rdw.open d=o at*;generalize Lg.open d 6=lo at*;obtain⟨d1,lg,le⟩:=lo;dsimp only at HLO HER HE HRC;unfold px at HLO⊢;clear h hll;go_enter func11,ntmps11
 go_upto_region 2 with (first|(go_at_call 46;refine HLO.o.mono ?_;rintro e w1 (⟨e1,h1,rfl,hT⟩|⟨g,L,N,G,h1,rfl,hf,hL,hN,hG,hLw⟩))|fail)
 ·simp only[Prod.mk.injEq]at h1;obtain⟨rfl,rfl⟩:=h1;have hne:(le !=0)=true:=by have:=HER.o rfl;simpa using this
  go_wp2_with fail
  go_ret2;refine .inl ⟨le,?_,by simpa using hne,rfl,?_⟩<;>rw[HE.o];exact hT
 ·simp only[Prod.mk.injEq]at h1;obtain⟨rfl,rfl⟩:=h1;have HE2:Hd (o=(d1,(Rdw.ofLog g).1,(Rdw.ofLog g).2)):=HE.o;have HOF:Hd (Rdw.ofLog g=match Rdw.takes g.l [] 0 with
   |none=>(none,260)
   |some (l,p)=>(some ⟨g,l,p⟩,0)):=rfl
  obtain⟨hrec,hgl⟩:=HRC.o g rfl;have hO:ROp w M g L D w1.heap.size d1 N G 0 0 (.slice none 0 0) [] (w1.alloc (.cells #[px L,.slice none 0 0] 62)):=
   ⟨⟨hf.alloc _,hL.below (br0.alloc le0 _),hN,hG,hLw,⟨hf.size,by simp⟩,hL.lt,Blk.new w1 _ _,World.ownsRow_nil _ _ _ _,rfl,by simp⟩,by simp,rfl,rfl⟩
  have HO0:=Lh hO;have HREC:=Lh hrec;have hR1:w1.heap.size=w1.heap.size:=rfl;generalize hRR:w1.heap.size=R at*;clear HER HE hR1 hO hf hN hG hLw hL hrec HRC HLO;unfold px at HO0
  go_upto_region 5 with fail
  generalize World.alloc w1 _=W1 at*
  go_wp2_with fail
  go_loopw [7] (fun q wr=> ∃(k p:Nat) (lv:Value) (ps:List (St×Value)),q= .int .i64 (k:Int)/\k<=g.l.length/\ROp w M g L D R d1 N G k p lv ps wr) (fun q _=>g.l.length-(intOf q).toNat)
  case atStart=>exact⟨0,0,_,_,rfl,ze0,HO0.o⟩
  case round=>
   obtain⟨k,p,lv,ps,rfl,hk,hO⟩:=hrel;have HO:=Lh hO;obtain⟨fv,hbl,hfv⟩:=hO.lg.ex;have HFV:=Lh hfv;obtain⟨_,fa,fc,rfl,hfc,hfm,hfr⟩:=hfv;have c2:=hbl.cell 2;have hLs:=hbl.lt;by_cases hlt:k<g.l.length
   ·have hpok:=HREC.o g.l[k] (List.getElem_mem hlt);obtain⟨b,off,rfl,hGb,hcs⟩: ∃b off,fa=some ⟨b,off,none⟩/\G b/\ ∀j,j<g.l.length*2->wr.cell? ⟨b,off+j,none⟩=(fmL g.l)[j]? :=by
     rcases hfr with h0|⟨b,off,e,hb,hc⟩
     ·omega
     ·exact⟨b,off,e,hb,hc⟩
    have hbs:=hO.lg.lt b (.inr (.inl hGb));have f0:wr.cell? ⟨b,off+k*2,none⟩=some (.int .u8 (g.l[k].1:Int)):=by rw[hcs _ (by omega)];exact(fmL_at g.l k hlt).1
    have f1:wr.cell? ⟨b,off+k*2+1,none⟩=some (.string g.l[k].2):=by rw[Nat.add_assoc,hcs _ (by omega)];exact(fmL_at g.l k hlt).2
    have HTK:Hd (Rdw.takes (g.l.drop k) (ps.map Prod.fst) p=match readSt g.l[k].1 g.l[k].2 with
     |none=>none
     |some x=>if(nextP p x.kind).2=true then Rdw.takes (g.l.drop (k+1)) (ps.map Prod.fst++ [x]) (nextP p x.kind).1 else none):=by
     show _=_;rw[List.drop_eq_getElem_cons hlt,Rdw.takes_cons];rfl
    have hkI:(k:Int)<(g.l.length:Int):=by omega
    generalize g.l[k]'hlt=f at*;obtain⟨fk,ft⟩:=f;dsimp only at f0 f1 HTK;have HRD:Hd (∀W,Calls prog 47 #[.int .u8 (fk:Int),.string ft] W (RReadP fk ft W)):=fun W=>rrRead_c fk hpok.1 hpok.2.1 ft (le1 hpok.2.2 (by decide)) W;unfold RReadP at HRD;have HK:=Lh hk;have HLT:=Lh hlt;clear hO hpok hk hlt hbl hcs hGb hfr HFV;generalize hrs:readSt fk ft=rs at*
    go_upto_region 8 with fail
    go_cut [8] (fun s8 wx=> ∃B y sa sn sc,s8= .pointer (some ⟨B,0,none⟩)/\Below wr.heap.size wr wx/\wr.heap.size<=B/\Blk wx B 47 (stC y (.slice sa sn sc))/\match rs with
     |none=>y.kind=0/\y.job.nodes=[]/\sa=none/\sn=0/\sc=0
     |some x=>y=x/\x.Ok/\x.mayB=true/\NodesIn wx (fun c=>wr.heap.size<=c/\c<wx.heap.size/\c≠B) x.job.nodes (.slice sa sn sc))
    case first=>
     have hGw:=fun W (hb:Below wr.heap.size wr W)=>(show W.cell? ⟨L,2,none⟩=_ from(World.cell?_of_block (a:=⟨L,2,none⟩) (hb.block L hLs)).trans c2);have HCC:=Lh hGw;have HC0:=Lh (fun W (hb:Below wr.heap.size wr W)=>(World.cell?_of_block (a:=⟨b,off+k*2,none⟩) (hb.block b hbs)).trans f0);have HC1:=Lh (fun W (hb:Below wr.heap.size wr W)=>(World.cell?_of_block (a:=⟨b,off+k*2+1,none⟩) (hb.block b hbs)).trans f1);have hb:=(Below.refl wr.heap.size wr).drew;clear hGw c2 f0 f1;refine wp_region_held_drew (S:=(fun w'=>Below wr.heap.size wr w')) (by kernel_rfl) ?_ (fun hHeld=>tk0 ?_)
     ·exact hb
     repeat' first
      |refine tkN ?_
      |(refine tkX ?_;try simp only[Act.put,tkA,tkB,tkC,tkD,tkE,tkF])
      |(refine tkt (v:=?_) (by decide+kernel) rfl (by rfl) (fun _ _ _ h=>h) (by assumption) ?_ ?_;rotate_left;(· intro w' hSw;(try dsimp only at hSw);have k2:=HCC.o _ hSw;have k0:=HC0.o _ hSw;have k1:=HC1.o _ hSw;clear hSw;go_simp;(try with_reducible rfl));try simp only[Act.put,tkA,tkB,tkC,tkD,tkE,tkF])
      |refine tkM ?_
      |refine tkZ ?_
      |refine tkB1 ?_
      |refine brN ?_
      |exact brE
      |refine brc rfl (fun K hK=>?_) ?_
      |(replace hK:=hK;go_simp;go_at_call 47;refine(HRD.o _).mono ?_;rintro e w4 ⟨y,sa,sn,sc,rfl,hb4,hm⟩;unfold stC;(try replace hn8:=hn8.below hb4 hn8.lt);replace hb:=hb.trans (hb4.mono hb.size);have h4z:=hb.size;refine hK.out _ _ ?_ (fun hHeld=>?_);(· exact hb);clear hK K;try simp only[Act.put,tkA,tkB,tkC,tkD,tkE,tkF])
      |(replace hK:=hK;refine opD 8 (by decide+kernel) ?_;go_simp;have hn8:=new_blkB hb #[.int .u8 0,.int .i64 0,.int .i64 0,.int .i64 0,.int .i64 0,.slice none 0 0,.int .i64 0,.int .i64 0,.int .i64 0] 47;replace hb:=hb.alloc hb.size (.cells #[.int .u8 0,.int .i64 0,.int .i64 0,.int .i64 0,.int .i64 0,.slice none 0 0,.int .i64 0,.int .i64 0,.int .i64 0] 47);refine hK.out _ _ ?_ (fun hHeld=>?_);(· exact hb);clear hK K;try simp only[Act.put,tkA,tkB,tkC,tkD,tkE,tkF])
      |(replace hK:=hK;refine opIs 2 (by decide+kernel) ?_;refine step_store_cells (by rfl) 47 (.tmp 8) (.tmp 45) (by rfl) _ #[.int .u8 (y.kind:Int),.int .i64 y.n,.int .i64 y.cut,.int .i64 y.too,.int .i64 y.job.par,.slice sa sn sc,.int .i64 y.part,.int .i64 y.at_,.int .i64 y.why] (by rfl) (by rfl) (hn8.there9 rfl) info_st9 (by simp[Value.oneCell']) ?_;refine hK.out _ _ ?_ (fun hHeld=>?_);(· exact RdE.below_setCells _ (by first|exact le0|exact h4z) _ _ _ hb);clear hK K;try simp only[Act.put,tkA,tkB,tkC,tkD,tkE,tkF])
      |fail
     all_goals
      go_wp2_with fail
      go_meet
     ·refine⟨_,y,sa,sn,sc,rfl,RdE.below_setCells _ h4z _ _ _ hb,h4z,?_,?_⟩
      ·have e:=Blk.setCells (#[.int .u8 (y.kind:Int),.int .i64 y.n,.int .i64 y.cut,.int .i64 y.too,.int .i64 y.job.par,.slice sa sn sc,.int .i64 y.part,.int .i64 y.at_,.int .i64 y.why]).toList 0 (show Blk _ w4.heap.size 47 zeroL.toArray from hn8);rw[setL_all9 _ _ rfl rfl]at e;exact e
      ·cases rs with
       |none=>exact hm
       |some x=>exact⟨hm.1,hm.2.1,hm.2.2.1,hm.2.2.2.keep (fun c q=>⟨q.1,by rw[setCells_size];have:=q.2;simp;omega,by have:=q.2;omega⟩) fun c q=>(setCells_other _ (by have:=q.2;omega) _ _ _).trans (alloc_old _ _ c q.2)⟩
     ·refine⟨_,y,sa,sn,sc,rfl,RdE.below_setCells _ le0 _ _ _ hb,le0,?_,?_⟩
      ·have e:=Blk.setCells (#[.int .u8 (y.kind:Int),.int .i64 y.n,.int .i64 y.cut,.int .i64 y.too,.int .i64 y.job.par,.slice sa sn sc,.int .i64 y.part,.int .i64 y.at_,.int .i64 y.why]).toList 0 (show Blk _ wr.heap.size 47 zeroL.toArray from hn8);rw[setL_all9 _ _ rfl rfl]at e;exact e
      ·cases rs with
       |none=>exact hm
       |some x=>exact⟨hm.1,hm.2.1,hm.2.2.1,hm.2.2.2.keep (fun c q=>⟨by have:=q.1;simp at this;omega,by rw[setCells_size];exact q.2,by have:=q.1;simp at this;omega⟩) fun c q=>setCells_other _ (by have:=q.1;simp at this;omega) _ _ _⟩
    case rest=>
    obtain⟨B,y,sa,sn,sc,rfl,hb8,hBB,hxB,hm⟩:=hcut;have hn:NodesIn wc (fun c=>wr.heap.size<=c/\c<wc.heap.size/\c≠B) y.job.nodes (.slice sa sn sc):=by
     cases rs with
     |none=>obtain⟨_,h1,rfl,rfl,rfl⟩:=hm;rw[h1];exact NodesIn.nil _ _
     |some x=>obtain⟨rfl,_,_,h⟩:=hm;exact h
    have hm2:ReadM rs y:=by
     cases rs with
     |none=>exact hm.1
     |some x=>exact⟨hm.1,hm.2.1,hm.2.2.1⟩
    have HM2:=Lh hm2;have HN8:=Lh hn;have hwo:=HO.o.own;obtain⟨la,lcap,rfl,hlc,hlm⟩: ∃la lcap,lv= .slice la k lcap/\k<=lcap/\lcap<=maxLen:=let ⟨_,la,lcap,e,q1,q2,_⟩:=SlP.of_own hwo;⟨la,lcap,e,q1,q2⟩;have hge:=own_ge hwo;have hlq:=own_lt hwo;have hw8:=hb8.size;have hRw:=HO.o.hR.2;have hbr:=HO.o.bk.below hb8 hRw;have hBlt:=hxB.lt;obtain⟨i0,ii,iz0,iz1,iz2⟩:=info_parts info_step;have HSX:Hd (∀W,Fr (fun b=>R<b/\b<wr.heap.size) wc W->Blk W B 47 #[.int .u8 (y.kind:Int),.int .i64 y.n,.int .i64 y.cut,.int .i64 y.too,.int .i64 y.job.par,.slice sa sn sc,.int .i64 y.part,.int .i64 y.at_,.int .i64 y.why]/\Blk W R 62 #[px L,.slice la k lcap]):=fun W q=>⟨hxB.fr q fun e=>by omega,hbr.fr q fun e=>by omega⟩;have HB8:=Lh hb8;have HGE:=Lh hge;have HLQ:=Lh hlq;unfold px at HSX;have hkz:k+1<=4194304:=by have:=HLT.o;omega
    clear hm hm2 hn hwo hge hlq hbr hxB hb8 HRD
    go_upto_region 9 with fail
    have hb:=(Fr.refl (fun b=>R<b/\b<wr.heap.size) wc).drew;have hB0:=(Below.refl wc.heap.size wc).drew;refine tl0 (S:=(fun w'=>Blk w' B 47 #[.int .u8 (y.kind:Int),.int .i64 y.n,.int .i64 y.cut,.int .i64 y.too,.int .i64 y.job.par,.slice sa sn sc,.int .i64 y.part,.int .i64 y.at_,.int .i64 y.why]/\Blk w' R 62 #[.pointer (some ⟨L,0,none⟩),.slice la k lcap])) (L:=10) (by kernel_rfl) (HSX.o _ hb) (fun hHeld=>?_);generalize wc.drew=wd0 at*
    repeat' first
     |refine tlS 6 (by decide+kernel) (by decide+kernel) ?_
     |refine tlS 7 (by decide+kernel) (by decide+kernel) ?_
     |refine tlS 10 (by decide+kernel) (by decide+kernel) ?_
     |refine tln (by decide+kernel) ?_
     |(refine tls (by decide+kernel) rfl (by rfl) (fun _ _ _ h=>h) (by assumption) ?_;try simp only[Act.put,tkA,tkB,tkC,tkD,tkE,tkF])
     |(refine tlt (v:=?_) (by decide+kernel) rfl (by rfl) (fun _ _ _ h=>h) (by assumption) ?_ ?_;rotate_left;(· intro w' hSw;(try dsimp only at hSw);obtain⟨z0,z1,z2,z3,z4,z5,z6,z7,z8⟩:=hSw.1.q9;have k1:=hSw.2.cell 1;clear hSw;go_simp;(try with_reducible rfl));try simp only[Act.put,tkA,tkB,tkC,tkD,tkE,tkF])
     |refine tlm (by decide+kernel) ?_
     |refine tld (by decide+kernel) ?_
     |refine tlb (by decide+kernel) ?_
     |refine bln (by decide+kernel) ?_
     |exact ble (by decide+kernel)
     |refine blc rfl (fun K hK=>?_) ?_
     |(replace hK:=hK;refine opD 52 (by decide+kernel) ?_;go_simp;have hC:=new_blkB hB0 #[.int .u8 (y.kind:Int),.int .i64 y.n,.int .i64 y.cut,.int .i64 y.too,.int .i64 y.job.par,.slice sa sn sc,.int .i64 y.part,.int .i64 y.at_,.int .i64 y.why] 47;have hwd:=hB0.alloc hB0.size (.cells #[.int .u8 (y.kind:Int),.int .i64 y.n,.int .i64 y.cut,.int .i64 y.too,.int .i64 y.job.par,.slice sa sn sc,.int .i64 y.part,.int .i64 y.at_,.int .i64 y.why] 47);replace hb:=hb.alloc (.cells #[.int .u8 (y.kind:Int),.int .i64 y.n,.int .i64 y.cut,.int .i64 y.too,.int .i64 y.job.par,.slice sa sn sc,.int .i64 y.part,.int .i64 y.at_,.int .i64 y.why] 47);refine hK.out _ _ (fun _=>HSX.o _ hb) (fun hHeld=>?_);replace hHeld:=hHeld (by decide);clear hK K;try simp only[Act.put,tkA,tkB,tkC,tkD,tkE,tkF])
     |(replace hK:=hK;refine opD 53 (by decide+kernel) ?_;refine step_append_lies _ (by rfl) (.tmp 50) (.tmp 52) _ (by rfl) (R+1) 47 i0 (.agg #[.int .u8 0,.int .i64 0,.int .i64 0,.int .i64 0,.int .i64 0,.slice none 0 0,.int .i64 0,.int .i64 0,.int .i64 0]) 9 88 underlying60 ii iz0 iz1 iz2 rfl (by decide) _ k (rowS ps) (by rfl) (own_fr (S:=fun _=>False) HO.o.own (Fr.of_new (HB8.o.trans (hwd.mono hw8))) (fun _ q=>q.elim)) ⟨wd0.heap.size,0,none⟩ 1 1 (#[.int .u8 (y.kind:Int),.int .i64 y.n,.int .i64 y.cut,.int .i64 y.too,.int .i64 y.job.par,.slice sa sn sc,.int .i64 y.part,.int .i64 y.at_,.int .i64 y.why]).toList (by rfl) rfl (by exact World.news_of_block hC) (by simp[Value.oneCell']) (by decide) (by unfold maxLen;omega) (by omega) (by have:=hwd.size;omega) _ rfl ?_;intro q5 cap5 w5 own5 hg5 hat5 hlt5;replace hb:=hb.grown hg5 (fun b e=> .inl ⟨by have:=HGE.o b e;omega,HLQ.o b e⟩);clear hC;refine hK.out _ _ (fun _=>HSX.o _ hb) (fun hHeld=>?_);replace hHeld:=hHeld (by decide);clear hK K;try simp only[Act.put,tkA,tkB,tkC,tkD,tkE,tkF])
     |(replace hK:=hK;refine opIs 2 (by decide+kernel) ?_;have hs:=(HSX.o _ hb).2;have c1:=hs.cell 1;have f1:=hs.free 1;go_simp;clear c1 f1 hs;refine hK.out _ _ (fun h=>absurd rfl h) (fun hHeld=>?_);clear hHeld hK K;try simp only[Act.put,tkA,tkB,tkC,tkD,tkE,tkF])
     |fail
    go_upto_region 10 with fail
    obtain⟨hQ,hF⟩:=HO.o.toROq.next (HB8.o.trans (hwd.mono hw8)) (y:=y) (sl:= .slice sa sn sc) (HN8.o.keep (fun c q=>⟨q.1,lt1 q.2.1 hwd.size⟩) fun c q=>hwd.block c q.2.1) own5 hg5 hat5;have hxB:=(HSX.o _ hb).1.other (p:=⟨R,1,none⟩) (by show B≠R;omega) (.slice (some ⟨q5,0,none⟩) (k+1) cap5);generalize World.setCell w5 _ _=W5 at*;have hphs:=phL_snoc (ps.map Prod.fst) 0 y;rw[HO.o.ph]at hphs;have hphs:phL ((ps++ [(y,Value.slice sa sn sc)]).map Prod.fst) 0=if(nextP p y.kind).2=true then some (nextP p y.kind).1 else none:=by rw[List.map_append];exact hphs
    have HPC:=Lh (rPhase_c W5 _ _ _ (hQ.sts br0));rw[hphs]at HPC;have HQ:=Lh hQ;have HF:=Lh hF;have HPS:=Lh hphs;have x0:=hxB.cell 0;have k1:=hQ.bk.cell 1;clear hQ hF hphs own5 hg5 hat5 hxB hb hB0 hwd HSX HN8;have hm2:=HM2.o
    cases rs with
    |none=>
     have hk0:((y.kind:Int)==0)=true:=by rw[show y.kind=0 from hm2];rfl
     go_wp2_with fail
     go_ret2;refine HO.o.bad ?_ HF.o;rw[HE2.o,HOF.o,<-HO.o.takes,HTK.o]
    |some x=>
     obtain⟨rfl,hok,hmay⟩:=hm2;have hk0:((y.kind:Int)==0)=false:=by have:=St.may_kind hmay;rw[bq0];omega
     have HOK:=Lh hok;clear hok hmay;by_cases hnp:(nextP p y.kind).2=true
     ·rw[if_pos hnp]at HPC;have HNP:=Lh hnp;have hlt0: ¬(((nextP p y.kind).1:Nat):Int)<0:=by omega
      clear hnp;unfold phI at HPC;dsimp only at HPC;generalize hnq:(nextP p y.kind).1=np at*;have HNQ:=Lh hnq;clear hnq
      go_wp2_with (first|(go_at_call 24;refine HPC.o.mono ?_;rintro e w6 ⟨rfl,rfl⟩)|fail)
      go_roundw
      case rel=>
       refine⟨k+1,np,_,_,by go_num,by have:=HLT.o;omega,⟨HQ.o,fun q hq=>?_,?_,?_⟩⟩
       ·rcases List.mem_append.1 hq with hq|hq
        ·exact HO.o.ok q hq
        ·rw[List.mem_singleton.1 hq];exact HOK.o
       ·rw[HPS.o,if_pos HNP.o]
       ·rw[<-HO.o.takes,HTK.o]
        (try dsimp only)
        rw[if_pos HNP.o,HNQ.o,List.map_append];rfl
      case measure=>have:=HLT.o;simp[intOf];omega
     ·rw[if_neg hnp]at HPC;have HNP:=Lh hnp;clear hnp;unfold phI at HPC;dsimp only at HPC
      go_wp2_with (first|(go_at_call 24;refine HPC.o.mono ?_;rintro e w6 ⟨rfl,rfl⟩)|fail)
      go_ret2;refine HO.o.bad ?_ HF.o;rw[HE2.o,HOF.o,<-HO.o.takes,HTK.o]
      (try dsimp only)
      rw[if_neg HNP.o]
   ·obtain rfl:k=g.l.length:=by omega
    have hlf: ¬((g.l.length:Int)<(g.l.length:Int)):=by omega
    generalize hN:g.l.length=N at*;have HNN:=Lh hN;clear hN
    go_wp2_with fail
    go_ret2;refine HO.o.done ?_;rw[HE2.o,HOF.o,<-HO.o.takes,<-HNN.o,List.drop_length];rfl
