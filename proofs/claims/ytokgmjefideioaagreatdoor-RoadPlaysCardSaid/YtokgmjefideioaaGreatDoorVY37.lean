/- Parts. -/
import Derived.Test.YtokgmjefideioaaGreatDoorVY30
import Derived.Test.YtokgmjefideioaaGreatDoorVY35
namespace Go.Proofs.YtokgmjefideioaaGreatDoor
open Go.RowKit
set_option linter.unusedVariables false
set_option linter.unusedSimpArgs false
set_option maxRecDepth 100000
set_option maxHeartbeats 16000000
open Tryz
structure RRo (w:World) (M F:Nat->Prop) (R L D:Nat) (r:Rdw) (d:Dk):Prop where
 lg:RLg w M F L D r.lg d
 rm:R≠L/\ ¬M R/\ ¬F R/\R<w.heap.size
 ok: ∀x∈r.l,x.Ok
 ph:phL r.l 0=some r.phase
 ex: ∃(lv:Value) (ps:List (St×Value)),Blk w R 62 #[px L,lv]/\ps.map Prod.fst=r.l/\SlP w F 9 lv r.l.length (rowS ps)/\ ∀p∈ps,NodesIn w F p.1.job.nodes p.2
def RRoTo (w w':World) (M F:Nat->Prop) (R L D:Nat) (r':Rdw) (d':Dk):Prop:=
 Fr (fun b=>M b\/b=L\/b=R) w w'/\ ∃M' F',(∀b,M' b->M b\/w.heap.size<=b)/\(∀b,F b->F' b)/\(∀b,F' b->F b\/w.heap.size<=b)/\RRo w' M' F' R L D r' d'
theorem StsRd.of {w:World} {P:Nat->Prop} {v:Value} {l:List St} {ps:List (St×Value)} (hps:ps.map Prod.fst=l) (h:SlP w P 9 v l.length (rowS ps)) (hn: ∀p∈ps,NodesIn w P p.1.job.nodes p.2):StsRd w P v l:=by
 have hln:ps.length=l.length:=by rw[<-hps,List.length_map]
 obtain⟨hl,a,cap,rfl,h2,h3,h4⟩:=h;refine⟨a,cap,rfl,h2,h3,h4.imp id ?_⟩;rintro ⟨b,off,rfl,hb,hc⟩;refine⟨b,off,rfl,hb,fun k hk=>?_⟩;have hk2:k<ps.length:=by omega
 have hx:l[k]=ps[k].1:=by subst hps;rw[List.getElem_map]
 refine⟨ps[k].2,by rw[hx];exact hn _ (List.getElem_mem hk2),fun j hj=>?_⟩;rw[Nat.add_assoc,hc _ (by omega),rowS_at ps k hk2 j hj,hx]
theorem RLg.more {w:World} {M F G:Nat->Prop} {L D:Nat} {g:Lg} {d:Dk} (h:RLg w M F L D g d) (hFG: ∀b,F b->G b) (hG: ∀b,G b-> ¬M b/\b≠L/\b<w.heap.size):RLg w M G L D g d:=by
 obtain⟨fv,h1,h2⟩:=h.ex;exact⟨h.dk,⟨h.lm.1,fun q=>(hG L q).2.1 rfl,h.lm.2.2⟩,fun b q=>⟨(hG b q).1,(hG b q).2.2⟩,h.few,fv,h1,h2.keep hFG fun _ _=>rfl⟩
namespace RRo
variable {w w':World} {M F:Nat->Prop} {R L D:Nat} {r:Rdw} {d d':Dk}
theorem lt (h:RRo w M F R L D r d): ∀b,M b\/F b\/b=L\/b=R->b<w.heap.size:=fun b q=>by
 rcases q with q|q|rfl|rfl
 ·exact h.lg.lt b (.inl q)
 ·exact h.lg.lt b (.inr (.inl q))
 ·exact h.lg.lm.2.2
 ·exact h.rm.2.2.2
theorem keep (h:RRo w M F R L D r d) (hs:w.heap.size<=w'.heap.size) (hk: ∀b,M b\/F b\/b=L\/b=R->w'.heap[b]? =w.heap[b]?):RRo w' M F R L D r d:=by
 obtain⟨lv,ps,h1,h2,h3,h4⟩:=h.ex;exact⟨h.lg.keep hs fun b q=>hk b (by rcases q with q|q|q;exact .inl q;exact .inr (.inl q);exact .inr (.inr (.inl q))),⟨h.rm.1,h.rm.2.1,h.rm.2.2.1,lt1 h.rm.2.2.2 hs⟩,h.ok,h.ph,lv,ps,(hk R (.inr (.inr (.inr rfl)))).trans h1,h2,h3.keep (fun _ q=>q) fun b q=>hk b (.inr (.inl q)),fun p hp=>(h4 p hp).keep (fun _ q=>q) fun b q=>hk b (.inr (.inl q))⟩
theorem below (h:RRo w M F R L D r d) (hb:Below w.heap.size w w'):RRo w' M F R L D r d:=h.keep hb.size fun b q=>hb.block b (h.lt b q)
theorem fr {S:Nat->Prop} (h:RRo w M F R L D r d) (hf:Fr S w w') (hS: ∀b,M b\/F b\/b=L\/b=R-> ¬S b):RRo w' M F R L D r d:=h.keep hf.size fun b q=>hf.block b (h.lt b q) (hS b q)
theorem toB (h:RRo w M F R L D r d) (hb:Below w.heap.size w w'):RRoTo w w' M F R L D r d:=⟨Fr.of_new hb,M,F,fun _ q=> .inl q,fun _ q=>q,fun _ q=> .inl q,h.below hb⟩
theorem more {G:Nat->Prop} (h:RRo w M F R L D r d) (hFG: ∀b,F b->G b) (hG: ∀b,G b-> ¬M b/\b≠L/\b≠R/\b<w.heap.size):RRo w M G R L D r d:=by
 obtain⟨lv,ps,h1,h2,h3,h4⟩:=h.ex;exact⟨h.lg.more hFG fun b q=>⟨(hG b q).1,(hG b q).2.1,(hG b q).2.2.2⟩,⟨h.rm.1,h.rm.2.1,fun q=>(hG R q).2.2.1 rfl,h.rm.2.2.2⟩,h.ok,h.ph,lv,ps,h1,h2,h3.keep hFG fun _ _=>rfl,fun p hp=>(h4 p hp).keep hFG fun _ _=>rfl⟩
theorem rd (h:RRo w M F R L D r d): ∃lv,Blk w R 62 #[px L,lv]/\StsRd w F lv r.l:=by
 obtain⟨lv,ps,h1,h2,h3,h4⟩:=h.ex;exact⟨lv,h1,StsRd.of h2 h3 h4⟩
theorem log {g':Lg} (h:RRo w M F R L D r d) (hT:RLgTo w w' M F L D g' d'):RRoTo w w' M F R L D ⟨g',r.l,r.phase⟩ d':=by
 obtain⟨hf,N,G,hN,hG1,hG2,hg⟩:=hT;obtain⟨lv,ps,h1,h2,h3,h4⟩:=h.ex;have hRl:=h.rm.2.2.2;have hk: ∀b,F b->w'.heap[b]? =w.heap[b]? :=fun b q=>hf.block b (h.lg.ap b q).2 (by rintro (e|rfl);exact(h.lg.ap b q).1 e;exact h.lg.lm.2.1 q);refine⟨hf.mono fun b _ q=>q.imp id .inl,N,G,hN,hG1,hG2,hg,⟨h.rm.1,fun q=>?_,fun q=>?_,lt1 hRl hf.size⟩,h.ok,h.ph,lv,ps,(hf.block R hRl (by rintro (e|e);exact h.rm.2.1 e;exact h.rm.1 e)).trans h1,h2,h3.keep hG1 hk,fun p hp=>(h4 p hp).keep hG1 hk⟩
 ·rcases hN R q with e|e
  ·exact h.rm.2.1 e
  ·omega
 ·rcases hG2 R q with e|e
  ·exact h.rm.2.2.1 e
  ·omega
theorem disk (h:RRo w M F R L D r d) (hT:RDkTo w w' M D d'):RRoTo w w' M F R L D r d':=h.log (h.lg.disk hT)
theorem set {G:Nat->Prop} {l:List St} {p:Nat} {lv:Value} {ps:List (St×Value)} (h:RRo w M F R L D r d) (hf:Fr (· =R) w w') (hb:Blk w' R 62 #[px L,lv]) (hG: ∀b,G b-> ¬M b/\b≠L/\b≠R/\b<w'.heap.size)
  (hps:ps.map Prod.fst=l) (hl:SlP w' G 9 lv l.length (rowS ps)) (hn: ∀q∈ps,NodesIn w' (fun b=>F b\/G b) q.1.job.nodes q.2) (hok: ∀x∈l,x.Ok) (hp:phL l 0=some p):RRo w' M (fun b=>F b\/G b) R L D ⟨r.lg,l,p⟩ d:=by
 have hz:=hf.size;have hg:=h.lg.keep hz fun b q=>hf.block b (h.lg.lt b q) (by
  rintro rfl
  rcases q with q|q|q
  ·exact h.rm.2.1 q
  ·exact h.rm.2.2.1 q
  ·exact h.rm.1 q)
 refine⟨hg.more (fun _ q=> .inl q) fun b q=>?_,⟨h.rm.1,h.rm.2.1,fun q=>?_,lt1 h.rm.2.2.2 hz⟩,hok,hp,lv,ps,hb,hps,hl.keep (fun _ q=> .inr q) fun _ _=>rfl,hn⟩
 ·rcases q with q|q
  ·exact⟨(hg.ap b q).1,fun k=>hg.lm.2.1 (k▸q),(hg.ap b q).2⟩
  ·exact⟨(hG b q).1,(hG b q).2.1,(hG b q).2.2.2⟩
 ·rcases q with q|q
  ·exact h.rm.2.2.1 q
  ·exact(hG R q).2.2.1 rfl
end RRo
theorem RRoTo.join {w w1 w2:World} {M F N G:Nat->Prop} {R L D:Nat} {r2:Rdw} {d2:Dk} (hf:Fr (fun b=>M b\/b=L\/b=R) w w1) (hN: ∀b,N b->M b\/w.heap.size<=b) (hG1: ∀b,F b->G b) (hG: ∀b,G b->F b\/w.heap.size<=b) (h:RRoTo w1 w2 N G R L D r2 d2):RRoTo w w2 M F R L D r2 d2:=by
 obtain⟨hf2,N2,G2,hN2,hG3,hG2,h2⟩:=h;have hz:=hf.size;refine⟨hf.step hf2 (fun _ _ h=>h) (fun i hi hn=>?_),N2,G2,fun b q=>?_,fun b q=>hG3 b (hG1 b q),fun b q=>?_,h2⟩
 ·rcases hn with hn|hn
  ·rcases hN i hn with e|e
   ·exact .inl e
   ·omega
  ·exact .inr hn
 ·rcases hN2 b q with e|e
  ·exact hN b e
  ·exact .inr (by omega)
 ·rcases hG2 b q with e|e
  ·exact hG b e
  ·exact .inr (by omega)
theorem RRoTo.pre {w W w2:World} {M F:Nat->Prop} {R L D:Nat} {r:Rdw} {d:Dk} (hb:Below w.heap.size w W) (h:RRoTo W w2 M F R L D r d):RRoTo w w2 M F R L D r d:=by
 obtain⟨hf,N,G,hN,hG1,hG,h1⟩:=h;have hz:=hb.size;exact⟨(Fr.of_new hb).trans hf,N,G,fun b q=>(hN b q).imp id (le1 hz),hG1,fun b q=>(hG b q).imp id (le1 hz),h1⟩
theorem rowS_one {P:Nat->Prop} {w:World} {ps:List (St×Value)} (h: ∀p∈ps,NodesIn w P p.1.job.nodes p.2): ∀u∈rowS ps,u.oneCell'=true:=by
 intro u hu;obtain⟨p,hp,hu⟩:=List.mem_flatMap.1 hu;obtain⟨a,cap,e,_⟩:=(h p hp).slice;rw[e]at hu;exact stC_one _ _ _ _ u hu
theorem rrPut_c (w:World) (M F:Nat->Prop) (R L D:Nat) (r:Rdw) (d:Dk) (h:RRo w M F R L D r d) (x:St) (v:Value) (hv:StIn w F v x) (hok:x.Ok) (hus: ∀n∈x.job.nodes,n.uid.size<=1000000) (hnl:x.job.nodes.length<=1000) (hll:d.loose.length<=1000000000) (hgl:r.lg.l.length<=100000000) (hrl:r.l.length<=100000000):
  Calls prog 21 #[px R,v] w fun e w'=>e= .returned (.int .i64 (Rdw.put d r x).2.2)/\RRoTo w w' M F R L D (Rdw.put d r x).2.1 (Rdw.put d r x).1:=by
 obtain⟨sv,rfl,hn⟩:=hv;obtain⟨a,cap,rfl,hcap,hmx⟩:=hn.slice;have hA:=(Below.refl w.heap.size w).alloc le0 (.cells (stC x (.slice a x.job.nodes.length cap)) 47);have hbx:=Blk.new w (stC x (.slice a x.job.nodes.length cap)) 47;have hFl: ∀b,F b->b<w.heap.size:=fun b q=>(h.lg.ap b q).2;have HXI:Hd (∀W,Below w.heap.size w W->StIn W F (.agg (stC x (.slice a x.job.nodes.length cap))) x):=fun W hb=>⟨_,rfl,hn.keep (fun _ k=>k) fun b q=>hb.block b (hFl b q)⟩;have HM:Hd (∀W,Below w.heap.size w W->CB prog 15 #[.agg (stC x (.slice a x.job.nodes.length cap))] W (.bool x.mayB)):=fun W hb=>rrMay_c x hok hus hnl _ W F (HXI.o W hb) (fun b q=>lt1 (hFl b q) hb.size);have HPE:Hd (Rdw.put d r x=if x.mayB=false then(d,r,2)else if(nextP r.phase x.kind).2=false then(d,r,261)else
 if(Lg.put d r.lg x.kind x.text).2.2≠0 then((Lg.put d r.lg x.kind x.text).1,⟨(Lg.put d r.lg x.kind x.text).2.1,r.l,r.phase⟩,(Lg.put d r.lg x.kind x.text).2.2)else
 ((Lg.sync (Lg.put d r.lg x.kind x.text).1 (Lg.put d r.lg x.kind x.text).2.1).1,⟨(Lg.sync (Lg.put d r.lg x.kind x.text).1 (Lg.put d r.lg x.kind x.text).2.1).2.1,r.l++ [x],(nextP r.phase x.kind).1⟩,(Lg.sync (Lg.put d r.lg x.kind x.text).1 (Lg.put d r.lg x.kind x.text).2.1).2.2)):=rfl
 generalize Rdw.put d r x=R0 at*;have HH:=Lh h;have HOK:=Lh hok;have HLL:=Lh hll
 cases hm:x.mayB
 ·rw[hm,if_pos rfl]at HPE;simp only[hm]at HM;have HM1:=Lh (HM.o _ hA);have HAA:=Lh hA;obtain⟨x0,x1,x2,x3,x4,x5,x6,x7,x8⟩:=hbx.q9;unfold stC at HM1 HAA x0 x1 x2 x3 x4 x5 x6 x7 x8⊢;unfold px;clear h hm hok hn hA hbx HM HXI;go_enter func21,ntmps21
  go_upto_region 1 with fail
  generalize World.alloc w _=W1 at*
  go_wp2_with (first|(go_at_call 15;refine HM1.o.mono ?_;rintro e w2 ⟨rfl,hb2⟩)|fail)
  go_ret;rw[HPE.o];exact⟨rfl,HH.o.toB (HAA.o.trans (hb2.mono HAA.o.size))⟩
 rw[hm,if_neg (by decide)]at HPE;simp only[hm]at HM;have hmk:=St.may_kind hm;have hts:=St.text_len hok hm;have HTX:Hd (∀W,Below w.heap.size w W->CB prog 58 #[.agg (stC x (.slice a x.job.nodes.length cap))] W (.string x.text)):=fun W hb=>rrText_c x hok hm _ W F (HXI.o W hb) (fun b q=>lt1 (hFl b q) hb.size);have HLP:Hd (∀W,RLg W M F L D r.lg d->Calls prog 57 #[px L,.int .u8 (x.kind:Int),.string x.text] W fun e w'=>e= .returned (.int .i64 (Lg.put d r.lg x.kind x.text).2.2)/\RLgTo W w' M F L D (Lg.put d r.lg x.kind x.text).2.1 (Lg.put d r.lg x.kind x.text).1):=
  fun W hW=>rlPut_c W M F L D r.lg d hW x.kind x.text (by omega) (by omega) (by omega) hll hgl
 have HSY:Hd (∀W N G,RLg W N G L D (Lg.put d r.lg x.kind x.text).2.1 (Lg.put d r.lg x.kind x.text).1->Calls prog 59 #[px L] W fun e w'=>e= .returned (.int .i64 (Lg.sync (Lg.put d r.lg x.kind x.text).1 (Lg.put d r.lg x.kind x.text).2.1).2.2)/\RLgTo W w' N G L D (Lg.sync (Lg.put d r.lg x.kind x.text).1 (Lg.put d r.lg x.kind x.text).2.1).2.1 (Lg.sync (Lg.put d r.lg x.kind x.text).1 (Lg.put d r.lg x.kind x.text).2.1).1):=
  fun W N G hW=>rlSync_c W N G L D _ _ hW
 have hphs:=phL_snoc r.l 0 x;rw[h.ph]at hphs;have hphs:phL (r.l++ [x]) 0=if(nextP r.phase x.kind).2=true then some (nextP r.phase x.kind).1 else none:=hphs;generalize nextP r.phase x.kind=nx at*;obtain⟨np,nb⟩:=nx;dsimp only at HPE hphs;have HPH:=Lh hphs;obtain⟨lv,ps,hbR,hps,hsl,hpn⟩:=h.ex;obtain⟨la,lcap,rfl,hlc,hlm⟩: ∃la lcap,lv= .slice la r.l.length lcap/\r.l.length<=lcap/\lcap<=maxLen:=let ⟨_,la,lcap,e,q1,q2,_⟩:=hsl;⟨la,lcap,e,q1,q2⟩;have HPS:=Lh hps;have HSL:=Lh hsl;have HPN:=Lh hpn;have HBR:=Lh hbR;have HLC:Hd ((rowS ps).length=r.l.length*9):=hsl.1;have hone:=rowS_one hpn;have HM1:=Lh (HM.o _ hA);have HAA:=Lh hA;obtain⟨x0,x1,x2,x3,x4,x5,x6,x7,x8⟩:=hbx.q9;have HBX:=Lh hbx;have HFl:=Lh hFl;have HXN:=Lh hn;unfold stC at HM1 HAA x0 x1 x2 x3 x4 x5 x6 x7 x8 HTX HBX⊢;unfold px;clear h hm hok hn hA hbx HM HXI hmk hts hll hbR hps hsl hpn hphs hFl;go_enter func21,ntmps21
 go_upto_region 1 with fail
 generalize World.alloc w _=W1 at*
 go_upto_region 3 with (first|(go_at_call 15;refine HM1.o.mono ?_;rintro e w2 ⟨rfl,hb2⟩)|fail)
 have hB2:=HAA.o.trans (hb2.mono HAA.o.size);have hx2:=HBX.o.below hb2 HBX.o.lt;clear x0 x1 x2 x3 x4 x5 x6 x7 x8 HM1 HBX hb2;obtain⟨i0,ii,iz0,iz1,iz2⟩:=info_parts info_step;have hwz:=hB2.size;have hRl:=HH.o.rm.2.2.2;have HSX:Hd (∀W',Below w2.heap.size w2 W'->Blk W' w.heap.size 47 #[.int .u8 (x.kind:Int),.int .i64 x.n,.int .i64 x.cut,.int .i64 x.too,.int .i64 x.job.par,.slice a x.job.nodes.length cap,.int .i64 x.part,.int .i64 x.at_,.int .i64 x.why]/\W'.cell? ⟨R,1,none⟩=some (.slice la r.l.length lcap)):=fun W' q=>⟨hx2.below q hx2.lt,(HBR.o.below (hB2.trans (q.mono hwz)) hRl).cell 1⟩;have HSP:=Lh (HSL.o.keep (w':=w2) (fun _ q=>q) fun b q=>hB2.block b (HFl.o b q));have HNW2:Hd (∀W',Below w2.heap.size w2 W'->(∀p,la=some p-> ∀j u,(rowS ps)[j]? =some u->W'.cell? (p.add j)=some u)/\(la=none->r.l.length=0)):=fun W' q=>HSP.o.news fun b k=>q.block b (lt1 (HFl.o b k) hwz)
 go_cut [5] (fun s5 wx=> ∃a2 c2,s5= .slice a2 (r.l.length+1) c2/\wx.ownsRow w2.heap.size 47 9 (.slice a2 (r.l.length+1) c2) (r.l.length+1) (rowS ps++(#[.int .u8 (x.kind:Int),.int .i64 x.n,.int .i64 x.cut,.int .i64 x.too,.int .i64 x.job.par,.slice a x.job.nodes.length cap,.int .i64 x.part,.int .i64 x.at_,.int .i64 x.why]).toList)/\Below w2.heap.size w2 wx)
 case first=>
  have hb:=(Below.refl w2.heap.size w2).drew;refine wp_region_held_drew (S:=(fun w'=>Blk w' w.heap.size 47 #[.int .u8 (x.kind:Int),.int .i64 x.n,.int .i64 x.cut,.int .i64 x.too,.int .i64 x.job.par,.slice a x.job.nodes.length cap,.int .i64 x.part,.int .i64 x.at_,.int .i64 x.why]/\w'.cell? ⟨R,1,none⟩=some (.slice la r.l.length lcap))) (by kernel_rfl) ?_ (fun hHeld=>tk0 ?_)
  ·exact HSX.o _ hb
  repeat' first
   |refine tkN ?_
   |(refine tkX ?_;try simp only[Act.put,tkA,tkB,tkC,tkD,tkE,tkF])
   |(refine tkt (v:=?_) (by decide+kernel) rfl (by rfl) (fun _ _ _ h=>h) (by assumption) ?_ ?_;rotate_left;(· intro w' hSw;(try dsimp only at hSw);obtain⟨z0,z1,z2,z3,z4,z5,z6,z7,z8⟩:=hSw.1.q9;have k1:=hSw.2;clear hSw;go_simp;(try with_reducible rfl));try simp only[Act.put,tkA,tkB,tkC,tkD,tkE,tkF])
   |refine tkM ?_
   |refine tkZ ?_
   |refine tkB1 ?_
   |refine brN ?_
   |exact brE
   |refine brc rfl (fun K hK=>?_) ?_
   |(replace hK:=hK;refine opD 10 (by decide+kernel) ?_;go_simp;have hA:=own_newE hb hb.size 47 9;(try simp only[alloc_sz]at hA);replace hb:=hb.alloc hb.size (.cells #[] 47);(try replace hC:=hC.alloc (.cells #[] 47));refine hK.out _ _ ?_ (fun hHeld=>?_);(· exact HSX.o _ hb);clear hK K;try simp only[Act.put,tkA,tkB,tkC,tkD,tkE,tkF])
   |(replace hK:=hK;refine opD 17 (by decide+kernel) ?_;go_simp;have hC:=new_blkB hb #[.int .u8 (x.kind:Int),.int .i64 x.n,.int .i64 x.cut,.int .i64 x.too,.int .i64 x.job.par,.slice a x.job.nodes.length cap,.int .i64 x.part,.int .i64 x.at_,.int .i64 x.why] 47;(try simp only[alloc_sz]at hC);replace hb:=hb.alloc hb.size (.cells #[.int .u8 (x.kind:Int),.int .i64 x.n,.int .i64 x.cut,.int .i64 x.too,.int .i64 x.job.par,.slice a x.job.nodes.length cap,.int .i64 x.part,.int .i64 x.at_,.int .i64 x.why] 47);(try replace hA:=own_alloc hA (.cells #[.int .u8 (x.kind:Int),.int .i64 x.n,.int .i64 x.cut,.int .i64 x.too,.int .i64 x.job.par,.slice a x.job.nodes.length cap,.int .i64 x.part,.int .i64 x.at_,.int .i64 x.why] 47));(try replace own1:=own_alloc own1 (.cells #[.int .u8 (x.kind:Int),.int .i64 x.n,.int .i64 x.cut,.int .i64 x.too,.int .i64 x.job.par,.slice a x.job.nodes.length cap,.int .i64 x.part,.int .i64 x.at_,.int .i64 x.why] 47));refine hK.out _ _ ?_ (fun hHeld=>?_);(· exact HSX.o _ hb);clear hK K;try simp only[Act.put,tkA,tkB,tkC,tkD,tkE,tkF])
   |(replace hK:=hK;refine opD 15 (by decide+kernel) ?_;refine step_app 88 (by rfl) (.tmp 10) (.tmp 14) (by rfl) underlying60 ii iz0 iz1 iz2 rfl (by decide) (by rfl) hA (by rfl) HLC.o (HNW2.o _ hb).1 hone (HNW2.o _ hb).2 (by unfold maxLen;omega) (by omega) (by first|exact hb.size|simpa using hb.size) ?_;intro a1 c1 w1 own1 hg1;simp only[Nat.zero_add,List.nil_append]at own1⊢;(try replace hC:=hC.grown hg1 (by simp[Value.ownBlock]));replace hb:=hb.grown hg1 hb.size (own_ge hA);clear hA hg1;refine hK.out _ _ ?_ (fun hHeld=>?_);(· exact HSX.o _ hb);clear hK K;try simp only[Act.put,tkA,tkB,tkC,tkD,tkE,tkF])
   |(replace hK:=hK;refine opD 18 (by decide+kernel) ?_;refine step_app 88 (by rfl) (.tmp 15) (.tmp 17) (by rfl) underlying60 ii iz0 iz1 iz2 rfl (by decide) (by rfl) own1 (by rfl) (news:=(#[.int .u8 (x.kind:Int),.int .i64 x.n,.int .i64 x.cut,.int .i64 x.too,.int .i64 x.job.par,.slice a x.job.nodes.length cap,.int .i64 x.part,.int .i64 x.at_,.int .i64 x.why]).toList) rfl (fun p hp=>by cases hp;exact World.news_of_block hC) (by simp[Value.oneCell']) (by simp) (by unfold maxLen;omega) (by omega) (by first|exact hb.size|simpa using hb.size) ?_;intro a2 c2 w3 own2 hg2;replace hb:=hb.grown hg2 hb.size (own_ge own1);clear own1 hg2 hC;refine hK.out _ _ ?_ (fun hHeld=>?_);(· exact HSX.o _ hb);clear hK K;try simp only[Act.put,tkA,tkB,tkC,tkD,tkE,tkF])
   |fail
  all_goals
   go_wp2_with fail
   go_meet;exact⟨_,_,rfl,own2,hb⟩
 case rest=>
 obtain⟨a2,c2,rfl,hown,hbc⟩:=hcut;have hB3:=hB2.trans (hbc.mono hwz);have hx3:=hx2.below hbc hx2.lt;have hl3:SlP wc (fun b=>w.heap.size<=b/\b<wc.heap.size) 9 (.slice a2 (r.l.length+1) c2) (r.l.length+1) (rowS (ps++ [(x,.slice a x.job.nodes.length cap)])):=by
  rw[rowS_snoc];exact(SlP.of_own hown).keep (fun b q=>⟨le1 hwz q.1,q.2⟩) fun _ _=>rfl
 have hps3:(ps++ [(x,Value.slice a x.job.nodes.length cap)]).map Prod.fst=r.l++ [x]:=by rw[List.map_append,HPS.o];rfl
 have hnn: ∀(W:World) (G:Nat->Prop),(∀b,F b->G b/\W.heap[b]? =w.heap[b]?)-> ∀q∈ps++ [(x,Value.slice a x.job.nodes.length cap)],NodesIn W G q.1.job.nodes q.2:=fun W G hG q hq=>by
  rcases List.mem_append.1 hq with hq|hq
  ·exact(HPN.o q hq).keep (fun b k=>(hG b k).1) fun b k=>(hG b k).2
  ·rw[List.mem_singleton.1 hq];exact HXN.o.keep (fun b k=>(hG b k).1) fun b k=>(hG b k).2
 have HPHS:=Lh (rPhase_c wc (fun b=>F b\/(w.heap.size<=b/\b<wc.heap.size)) _ (r.l++ [x]) (StsRd.of hps3 (by rw[la0];exact hl3.keep (fun b q=> .inr q) fun _ _=>rfl) (hnn wc _ fun b q=>⟨.inl q,hB3.block b (HFl.o b q)⟩)));rw[HPH.o]at HPHS;have HL3:=Lh hl3;have HPS3:=Lh hps3;have HNN:=Lh hnn;have HX3:=Lh hx3;have HB3:=Lh hB3;clear hown hbc hx2 hl3 hps3 hnn hx3 HNW2 HSX HSP
 cases nb
 ·rw[if_pos rfl]at HPE;rw[if_neg (by decide)]at HPHS
  go_wp2_with (first|(go_at_call 24;refine HPHS.o.mono ?_;rintro e w3 ⟨rfl,rfl⟩)|fail)
  go_ret;rw[HPE.o];exact⟨rfl,HH.o.toB HB3.o⟩
 rw[if_neg (by decide)]at HPE;rw[if_pos rfl]at HPHS;have hnp:decide ((np:Int)<0)=false:=df0 (by omega);unfold phI at HPHS;dsimp only at HPHS
 go_upto_region 6 with (first|(go_at_call 24;refine HPHS.o.mono ?_;rintro e w3 ⟨rfl,rfl⟩)|fail)
 have hR3:=HH.o.below HB3.o;have hbR3:=HBR.o.below HB3.o hRl;have c0:=hbR3.cell 0;unfold px at c0;obtain⟨x0,x1,x2,x3,x4,x5,x6,x7,x8⟩:=HX3.o.q9;have HT3:=Lh (HTX.o wc.drew HB3.o.drew);have HR3:=Lh hR3;have HBR3:=Lh hbR3;have hzb:w.heap.size<wc.heap.size:=HX3.o.lt;clear hR3 hbR3 HTX hB3;generalize hpt:Lg.put d r.lg x.kind x.text=pt at*;obtain⟨d2,g2,pe⟩:=pt;dsimp only at HPE HLP HSY;unfold px at HLP;generalize hwz:wc=wz at*;clear hwz
 go_cut [6] (fun s6 wx=>s6= .int .i64 pe/\ ∃w4,Below wz.heap.size wz w4/\RLgTo w4 wx M F L D g2 d2)
 case first=>
  go_region_with (first
   |(go_at_call 58;refine HT3.o.mono ?_;rintro e w4 ⟨rfl,hb4⟩;have hB4:=(Below.refl wz.heap.size wz).drew.trans hb4;have hR4:=HR3.o.below hB4;have k0:=(HBR3.o.below hB4 (Blk.lt HBR3.o)).cell 0;unfold px at k0;have hx4:=HX3.o.drew.below hb4 HX3.o.lt;have kx:=hx4.cell 0)
   |(go_at_call 57;refine(HLP.o w4 hR4.lg).mono ?_;rintro e w5 ⟨rfl,hT⟩)
   |(go_at_call 57;refine(HLP.o w4.drew (hR4.below (Below.refl w4.heap.size w4).drew).lg).mono ?_;rintro e w5 ⟨rfl,hT⟩;replace hT:=hT.undrew))
  all_goals
   go_wp2_with fail
   go_meet;exact⟨rfl,w4,hB4,hT⟩
 case rest=>
 obtain⟨rfl,w4,hB4,hT⟩:=hcut;have hB04:=HB3.o.trans (hB4.mono HB3.o.size);have hR4:=(HH.o.below hB04).log hT;by_cases hpe:pe=0
 ·subst hpe;rw[if_neg (by simp)]at HPE;obtain⟨hf,N,G,hN,hG1,hG2,hR5⟩:=hR4;obtain⟨lv5,ps5,hbk,_⟩:=hR5.ex;have hM1: ∀b,M b\/F b\/b=L\/b=R->b<w.heap.size:=HH.o.lt;have hz4:=hB4.size;have hz3:=HB3.o.size;have hz5:=hf.size;have hfar: ∀b,w.heap.size<=b-> ¬(M b\/b=L\/b=R):=fun b q k=>by
   have:=hM1 b (k.imp id .inr);omega
  have hkF: ∀b,F b->wc.heap[b]? =w.heap[b]? :=fun b q=>(hf.block b (lt1 (hM1 b (.inr (.inl q))) (le1 hz3 hz4)) (by
   rintro (k|rfl|rfl)
   ·exact(HH.o.lg.ap b q).1 k
   ·exact HH.o.lg.lm.2.1 q
   ·exact HH.o.rm.2.2.1 q)).trans (hB04.block b (hM1 b (.inr (.inl q))))
  have hsl5:SlP (wc.setCell ⟨R,1,none⟩ (.slice a2 (r.l.length+1) c2)) (fun b=>w.heap.size<=b/\b<wz.heap.size) 9 (.slice a2 (r.l.length+1) c2) (r.l++ [x]).length (rowS (ps++ [(x,Value.slice a x.job.nodes.length cap)])):=by
   rw[la0];exact HL3.o.keep (fun _ q=>q) fun b q=>(heap_setCell_other _ ⟨R,1,none⟩ b _ (fun e=>hfar b q.1 (.inr (.inr e)))).trans ((hf.block b (lt1 q.2 hz4) (hfar b q.1)).trans (hB4.block b q.2))
  have hnn6:=HNN.o (wc.setCell ⟨R,1,none⟩ (.slice a2 (r.l.length+1) c2)) (fun b=>G b\/(w.heap.size<=b/\b<wz.heap.size)) fun b q=>⟨.inl (hG1 b q),(heap_setCell_other _ ⟨R,1,none⟩ b _ (fun e=>HH.o.rm.2.2.1 (by have e:b=R:=e;rw[<-e];exact q))).trans (hkF b q)⟩;have hR6:=hR5.set (l:=r.l++ [x]) (p:=np) (G:=fun b=>w.heap.size<=b/\b<wz.heap.size) ((Fr.refl (· =R) wc).setCell (p:=⟨R,1,none⟩) (.inl rfl) _) ((hbk.set 1 (.slice a2 (r.l.length+1) c2)).same rfl) (fun b q=>⟨fun k=>by
   rcases hN b k with e|e
   ·exact hfar b q.1 (.inl e)
   ·omega,fun e=>hfar b q.1 (.inr (.inl e)),fun e=>hfar b q.1 (.inr (.inr e)),by simp;omega⟩) HPS3.o hsl5 hnn6 (fun y hy=>by
   rcases List.mem_append.1 hy with hy|hy
   ·exact HH.o.ok y hy
   ·rw[List.mem_singleton.1 hy];exact HOK.o) (by rw[HPH.o];simp)
  have HSY2:=Lh (HSY.o _ _ _ hR6.lg);have c1:=hbk.cell 1;have f1:=hbk.free 1;have c0:=((hbk.set 1 (.slice a2 (r.l.length+1) c2)).same rfl).cell 0;have HR6:=Lh hR6;unfold px at HSY2 c0;clear hR5 hsl5 hnn6 hR6 hbk HT3 HR3 HBR3 HL3 HNN hT
  go_wp2_with (first|(go_at_call 59;refine HSY2.o.mono ?_;rintro e w7 ⟨rfl,hT7⟩)|fail)
  go_ret;rw[HPE.o];exact⟨rfl,RRoTo.join (((Fr.of_new hB04).trans hf).setCell (p:=⟨R,1,none⟩) (.inl (.inr (.inr rfl))) _) (fun b q=>(hN b q).imp id (le1 hB04.size)) (fun b q=> .inl (hG1 b q)) (fun b q=>q.elim (fun k=>(hG2 b k).imp id (le1 hB04.size)) fun k=> .inr k.1) (HR6.o.log hT7)⟩
 ·rw[if_pos hpe]at HPE;have hpb:(pe !=0)=true:=by rw[bne_iff_ne];exact hpe
  go_wp2_with fail
  go_ret;rw[HPE.o];exact⟨rfl,RRoTo.pre hB04 hR4⟩
