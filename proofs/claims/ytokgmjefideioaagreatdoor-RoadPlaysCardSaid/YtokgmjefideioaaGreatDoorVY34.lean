/- Parts. -/
import Derived.Test.YtokgmjefideioaaGreatDoorVY32
import Derived.Test.YtokgmjefideioaaGreatDoorVY33
import Derived.Test.YtokgmjefideioaaGreatDoorVY42
namespace Go.Proofs.YtokgmjefideioaaGreatDoor
open Go.RowKit
set_option linter.unusedVariables false
set_option linter.unusedSimpArgs false
set_option maxRecDepth 100000
set_option maxHeartbeats 16000000
open Tryz
structure OpenR (w:World) (M:Nat->Prop) (g:Lg) (R L D:Nat) (d1:Dk) (k:Nat) (N P:Nat->Prop) (r:Rdw) (wr:World):Prop where
 ro:RoAt wr N P R L r D d1
 lg:r.lg=g
 len:r.l.length=k
 takes:Rdw.takes (g.l.drop k) r.l r.phase=Rdw.takes g.l [] 0
 fr:Fr M w wr
 hN: ∀b,N b->M b\/w.heap.size<=b
 hP: ∀b,P b->w.heap.size<=b
theorem lgOpen_err (d:Dk) (f:Nat):(Lg.open d f).2.1=none->(Lg.open d f).2.2≠0:=by
 unfold Lg.open;split
 ·intro _;show(50:Int)≠0;decide
 split
 ·split
  ·intro _;assumption
  split
  ·intro _;assumption
  ·intro h;exact absurd h (by simp)
 ·intro h;exact absurd h (by simp)
theorem RoAt.new {w1:World} {N:Nat->Prop} {L D:Nat} {g:Lg} {d:Dk} (h:LgAt w1 N L g D d):RoAt (w1.alloc (.cells #[px L,.slice none 0 0,.int .u8 0] 85)) (fun b=>N b\/b=w1.heap.size) (fun _=>False) w1.heap.size L ⟨g,[],0⟩ D d:=by
 refine⟨by show 0<4;decide,by simp,ze0,.inr rfl,?_,fun b hb=>hb.elim,N,.slice none 0 0,h.keep (by simp) fun b hb=>alloc_old w1 _ b (h.lt b hb),fun b hb=>⟨.inl hb,?_,?_⟩,Blk.new w1 _ _,StsAt.nil _ _,?_⟩
 ·rintro b (hb|rfl)
  ·have:=h.lt b hb;simp;omega
  ·simp
 ·have:=h.lt b hb;omega
 ·rintro ⟨o,n,c,e⟩;simp at e
 ·rintro b ⟨o,n,c,e⟩;simp at e
def OpenPost (w:World) (M:Nat->Prop) (D:Nat) (o:Dk×Option Rdw×Int) (e:Ending) (w':World):Prop:=
 (∃e1,o.2=(none,e1)/\e1≠0/\e= .returned (.tuple #[.pointer none,.int .i64 e1])/\DkTo w w' M D o.1)\/
 (∃r R L N P,o.2=(some r,0)/\e= .returned (.tuple #[px R,.int .i64 0])/\Fr M w w'/\RoAt w' N P R L r D o.1/\(∀b,N b->M b\/w.heap.size<=b)/\ ∀b,P b->w.heap.size<=b)
theorem OpenR.bad {w wr w':World} {M N P:Nat->Prop} {g:Lg} {R L D k:Nat} {d1:Dk} {r:Rdw} {o:Dk×Option Rdw×Int} (h:OpenR w M g R L D d1 k N P r wr) (ho:o=(d1,none,260)) (hb:Below wr.heap.size wr w'):OpenPost w M D o (.returned (.tuple #[.pointer none,.int .i64 260])) w':=by
 subst ho;obtain⟨MD,hd,hM⟩:=(h.ro.below hb).disk;exact .inl ⟨260,rfl,by decide,rfl,h.fr.trans (Fr.of_new hb),MD,fun b q=>h.hN b (hM b q),hd⟩
theorem roOpen_c (w:World) (M:Nat->Prop) (D:Nat) (d:Dk) (h:DkAt w M D d) (hll:d.loose.length<=1000000000):
  Calls prog 10 #[px D] w (OpenPost w M D (Rdw.open d)):=by
 have HLO:Hd (Calls prog 41 #[px D,.int .i64 6] w fun e w'=>
   (∃e1,(Lg.open d 6).2=(none,e1)/\e= .returned (.tuple #[.pointer none,.int .i64 e1])/\DkTo w w' M D (Lg.open d 6).1)\/
   (∃g L N,(Lg.open d 6).2=(some g,0)/\e= .returned (.tuple #[px L,.int .i64 0])/\Fr M w w'/\LgAt w' N L g D (Lg.open d 6).1/\ ∀b,N b->M b\/w.heap.size<=b)):=lOpen_c w M D d h 6 (by decide) hll
 have HER:=Lh (lgOpen_err d 6);have HE:Hd (Rdw.open d=match (Lg.open d 6).2.1 with
  |none=>((Lg.open d 6).1,none,(Lg.open d 6).2.2)
  |some g=>((Lg.open d 6).1,(Rdw.ofLog g).1,(Rdw.ofLog g).2)):=rfl
 generalize Rdw.open d=o at*;generalize Lg.open d 6=lo at*;obtain⟨d1,lg,le⟩:=lo;dsimp only at HLO HER HE;unfold px at HLO⊢;clear h hll;go_enter func10,ntmps10
 go_upto_region 2 with (first|(go_at_call 41;refine HLO.o.mono ?_;rintro e w1 (⟨e1,h1,rfl,hT⟩|⟨g,L,N,h1,rfl,hf,hL,hN⟩))|fail)
 ·simp only[Prod.mk.injEq]at h1;obtain⟨rfl,rfl⟩:=h1;have hne:(le !=0)=true:=by have:=HER.o rfl;simpa using this
  go_wp2_with fail
  go_ret2;refine .inl ⟨le,?_,by simpa using hne,rfl,?_⟩<;>rw[HE.o];exact hT
 ·simp only[Prod.mk.injEq]at h1;obtain⟨rfl,rfl⟩:=h1;have HE2:Hd (o=(d1,(Rdw.ofLog g).1,(Rdw.ofLog g).2)):=HE.o;have HOF:Hd (Rdw.ofLog g=match Rdw.takes g.l [] 0 with
   |none=>(none,260)
   |some (l,p)=>(some ⟨g,l,p⟩,0)):=rfl
  have hro:=RoAt.new hL;have hl1:w1.heap.size<(w1.alloc (.cells #[px L,.slice none 0 0,.int .u8 0] 85)).heap.size:=by simp
  have hOR:OpenR w M g w1.heap.size L D d1 0 _ _ ⟨g,[],0⟩ (w1.alloc (.cells #[px L,.slice none 0 0,.int .u8 0] 85)):=⟨hro,rfl,rfl,rfl,hf.alloc _,fun b hb=>by
   rcases hb with hb|rfl
   ·exact hN b hb
   ·exact .inr hf.size,fun b hb=>hb.elim⟩
  have HLE:Hd (∀W,LgAt W N L g D d1->Calls prog 42 #[px L] W fun e w'=>e= .returned (.int .i64 g.l.length)/\W=w'):=fun W h=>lLen_c W N L g D d1 h;have HLW:=Lh (hL.keep (w':=w1.alloc (.cells #[px L,.slice none 0 0,.int .u8 0] 85)) (by simp) fun b hb=>alloc_old w1 _ b (hL.lt b hb));have HLEN:=Lh (HLE.o _ HLW.o);have HOR:=Lh hOR;have hgl:g.l.length<=4194304:=by
   obtain⟨MD,hd,_⟩:=hL.disk;have:=hL.bound hd.inv;have:=frs_count g.l;omega
  have HREC:=Lh hL.recs;have HR0:w1.heap.size=w1.heap.size:=rfl;generalize hRR:w1.heap.size=R at*;clear HER HE HR0 hro hOR hf hN HLE HLW hL;unfold px at HLEN HOR
  go_upto_region 5 with fail
  generalize World.alloc w1 _=W1 at*
  go_upto_region 6 with (first|(go_at_call 42;refine HLEN.o.mono ?_;rintro e w2 ⟨rfl,rfl⟩)|fail)
  clear HLEN hl1
  go_loopw [26] (fun q wr=> ∃(k:Nat) (N P:Nat->Prop) (r:Rdw),q= .int .i64 (k:Int)/\k<=g.l.length/\OpenR w M g R L D d1 k N P r wr) (fun q _=>g.l.length-(intOf q).toNat)
  case atStart=>exact⟨0,_,_,_,rfl,ze0,HOR.o⟩
  case round=>
   obtain⟨k,N1,P1,r,rfl,hk,hO⟩:=hrel;have HO:=Lh hO;by_cases hlt:k<g.l.length
   ·have HAT:Hd (CB prog 43 #[px L,.int .i64 (k:Int)] wr (.tuple #[.int .u8 (g.l[k].1:Nat),.string g.l[k].2,.int .i64 0])):=by
     obtain⟨ML,lv,h1,h2,h3,h4,h5⟩:=hO.ro.ex;have hrg:=hO.lg;rw[hrg]at h1;exact lAt_c wr ML L g D d1 h1 k hlt
    have hpok:=HREC.o g.l[k] (List.getElem_mem hlt);have HTK:Hd (Rdw.takes (g.l.drop k) r.l r.phase=match readSt g.l[k].1 g.l[k].2 with
     |none=>none
     |some x=>if(nextP r.phase x.kind).2=true then Rdw.takes (g.l.drop (k+1)) (r.l++ [x]) (nextP r.phase x.kind).1 else none):=by
     show _=_;rw[List.drop_eq_getElem_cons hlt,Rdw.takes_cons];rfl
    have hdk:decide ((k:Int)<(g.l.length:Int))=true:=dt0 (by omega);generalize g.l[k]'hlt=f at*;obtain⟨fk,ft⟩:=f;dsimp only at HAT HTK;have HRD:Hd (∀W,Calls prog 44 #[.int .u8 (fk:Int),.string ft] W (ReadP fk ft W)):=fun W=>roRead_c fk hpok.1 hpok.2.1 ft (le1 hpok.2.2 (by decide)) W;unfold ReadP at HRD;unfold px at HAT;have HGL:=Lh hgl;have HK:=Lh hk;have HLT:=Lh hlt;clear hO hpok hgl hk hlt;generalize hrs:readSt fk ft=rs at*
    cases rs with
    |none=>
     dsimp only at HRD HTK
     go_upto_region 9 with (first|(go_at_call 43;refine HAT.o.mono ?_;rintro e w3 ⟨rfl,hb3⟩)|fail)
     go_upto_region 10 with (first|(go_at_call 44;refine(HRD.o _).mono ?_;rintro e w4 ⟨y,sa,sn,sc,b,rfl,hb4,rfl⟩;unfold stC)|fail)
     have hB4:=(hb3.trans (hb4.mono hb3.size)).alloc (le1 hb3.size hb4.size) (.cells #[.int .u8 (y.kind:Int),.int .i64 y.n,.int .i64 y.cut,.int .i64 y.too,.int .i64 y.job.par,.slice sa sn sc,.int .i64 y.part,.int .i64 y.at_,.int .i64 y.why] 47)
     go_wp2_with fail
     go_ret2;refine HO.o.bad ?_ hB4;rw[HE2.o,HOF.o,<-HO.o.takes,HTK.o]
    |some x=>
     dsimp only at HRD HTK
     go_upto_region 9 with (first|(go_at_call 43;refine HAT.o.mono ?_;rintro e w3 ⟨rfl,hb3⟩)|fail)
     go_upto_region 10 with (first|(go_at_call 44;refine(HRD.o _).mono ?_;rintro e w4 ⟨y,sa,sn,sc,b,rfl,hb4,rfl,rfl,hxok,hxm,hxn⟩;unfold stC)|fail)
     have hB4:=(hb3.trans (hb4.mono hb3.size)).alloc (le1 hb3.size hb4.size) (.cells #[.int .u8 (y.kind:Int),.int .i64 y.n,.int .i64 y.cut,.int .i64 y.too,.int .i64 y.job.par,.slice sa sn sc,.int .i64 y.part,.int .i64 y.at_,.int .i64 y.why] 47);have hxb:=Blk.new w4 #[.int .u8 (y.kind:Int),.int .i64 y.n,.int .i64 y.cut,.int .i64 y.too,.int .i64 y.job.par,.slice sa sn sc,.int .i64 y.part,.int .i64 y.at_,.int .i64 y.why] 47;have hxn2:=hxn.keep (w':=w4.alloc (.cells #[.int .u8 (y.kind:Int),.int .i64 y.n,.int .i64 y.cut,.int .i64 y.too,.int .i64 y.job.par,.slice sa sn sc,.int .i64 y.part,.int .i64 y.at_,.int .i64 y.why] 47)) (Q:=fun b=>P1 b\/(wr.heap.size<=b/\b<w4.heap.size)) (fun b q=> .inr ⟨le1 hb3.size q.1,q.2⟩) (fun b q=>alloc_old w4 _ b q.2);have hsz5:(w4.alloc (.cells #[.int .u8 (y.kind:Int),.int .i64 y.n,.int .i64 y.cut,.int .i64 y.too,.int .i64 y.job.par,.slice sa sn sc,.int .i64 y.part,.int .i64 y.at_,.int .i64 y.why] 47)).heap.size=w4.heap.size+1:=by simp
     generalize World.alloc w4 _=W5 at*;obtain⟨x0,x1,x2,x3,x4,x5,x6,x7,x8⟩:=hxb.q9;have hmk:=St.may_kind hxm;have hro5:=(HO.o.ro.below hB4).more (Q:=fun b=>P1 b\/(wr.heap.size<=b/\b<w4.heap.size)) (fun b q=> .inl q) (fun b q=>by
      rcases q with q|q
      ·have hd:=HO.o.ro.dis b q;have:=hB4.size;exact⟨by omega,hd.2⟩
      ·exact⟨by omega,fun hm=>by have:=HO.o.ro.lt b hm;omega⟩)
     have HTA:=Lh (roTakes_c W5 N1 _ R L r D d1 hro5 y _ ⟨_,rfl,hxn2⟩ hxok hmk.1 hmk.2 (by rw[HO.o.len,HO.o.lg];exact HLT.o));unfold px stC at HTA;have hrb:w.heap.size<=wr.heap.size:=HO.o.fr.size;have HB4:=Lh hB4;clear hxb hxn hxn2 hro5 hB4 hb3 hb4 HRD HAT hmk hsz5;generalize hnx:nextP r.phase y.kind=nx at*;obtain⟨np,nb⟩:=nx;dsimp only at HTA HTK
     cases nb
     ·go_wp2_with (first|(go_at_call 45;refine HTA.o.mono ?_;rintro e w6 ⟨rfl,hT⟩)|fail)
      go_ret2;obtain⟨hf6,N6,hN6,hr6⟩:=hT;rw[if_neg (by simp)]at hr6;obtain⟨MD,hd,hM⟩:=hr6.disk;refine .inl ⟨260,?_,by decide,rfl,?_,MD,fun b q=>?_,?_⟩
      ·rw[HE2.o,HOF.o,<-HO.o.takes,HTK.o];rfl
      ·exact(HO.o.fr.trans (Fr.of_new HB4.o)).step hf6 (fun _ _ h=>h) (fun i hi h=>by
        rcases HO.o.hN i h with h|h
        ·exact h
        ·omega)
      ·rcases hN6 b (hM b q)with h|h
       ·exact HO.o.hN b h
       ·exact .inr (le1 hrb (le1 HB4.o.size h))
      ·rw[HE2.o];exact hd
     ·have hlt:=HLT.o;have hgl:=HGL.o
      go_wp2_with (first|(go_at_call 45;refine HTA.o.mono ?_;rintro e w6 ⟨rfl,hT⟩)|fail)
      obtain⟨hf6,N6,hN6,hr6⟩:=hT;rw[if_pos trivial]at hr6;go_roundw
      case rel=>
       refine⟨k+1,N6,_,_,by go_num,HLT.o,hr6,HO.o.lg,?_,?_,?_,?_,?_⟩
       ·show(r.l++ [y]).length=k+1;rw[la0,HO.o.len];rfl
       ·rw[<-HO.o.takes,HTK.o,if_pos trivial]
       ·exact(HO.o.fr.trans (Fr.of_new HB4.o)).step hf6 (fun _ _ h=>h) (fun i hi h=>by
         rcases HO.o.hN i h with h|h
         ·exact h
         ·omega)
       ·intro b q;rcases hN6 b q with h|h
        ·exact HO.o.hN b h
        ·exact .inr (le1 hrb (le1 HB4.o.size h))
       ·rintro b (q|q)
        ·exact HO.o.hP b q
        ·exact le1 hrb q.1
      case measure=>simp[intOf];omega
   ·have hkk:k=g.l.length:=by omega
    have hdk:decide ((k:Int)<(g.l.length:Int))=false:=df0 (by omega)
    go_wp2_with fail
    go_ret2;refine .inr ⟨r,R,L,N1,P1,?_,rfl,hO.fr,?_,hO.hN,hO.hP⟩
    ·have ht:=hO.takes;rw[hkk,List.drop_length]at ht;rw[HE2.o,HOF.o,<-ht];have:r=⟨g,r.l,r.phase⟩:=by rw[<-hO.lg]
     rw[this];rfl
    ·rw[HE2.o];exact hO.ro
theorem lput_len (d:Dk) (g:Lg) (k:Nat) (u:ByteArray):g.l.length<=(Lg.put d g k u).2.1.l.length/\((Lg.put d g k u).2.2=0->k≠0->u.size<=65536->(Lg.put d g k u).2.1.l.length=g.l.length+1):=by
 unfold Lg.put;split
 ·exact⟨le0,fun h=>absurd h (by simp)⟩
 split
 ·exact⟨le0,fun h=>absurd h (by simp)⟩
 split
 ·rename_i h;exact⟨le0,fun e=>absurd e h⟩
 ·exact⟨by simp,fun _ _ _=>by simp⟩
theorem lsync_len (d:Dk) (g:Lg):(Lg.sync d g).2.1.l=g.l:=by
 unfold Lg.sync;split
 ·rfl
 split<;>rfl
theorem RoAt.log {w:World} {M P:Nat->Prop} {R L D:Nat} {r:Rdw} {d:Dk} (h:RoAt w M P R L r D d): ∃ML:Nat->Prop,LgAt w ML L r.lg D d/\w.cell? ⟨R,0,none⟩=some (px L)/\
  ∀w' g' d',LgTo w w' ML L g' D d'->r.l.length<=g'.l.length->RoTo w w' M P R L ⟨g',r.l,r.phase⟩ D d':=by
 obtain⟨ML,lv,h1,h2,h3,h4,h5⟩:=h.ex;exact⟨ML,h1,h3.cell 0,fun w' g' d' hT hl=>h.step h1 h2 h3 h4 h5 hT hl⟩
theorem RoAt.phase_cell {w:World} {M P:Nat->Prop} {R L D:Nat} {r:Rdw} {d:Dk} (h:RoAt w M P R L r D d):w.cell? ⟨R,2,none⟩=some (.int .u8 (r.phase:Int)):=by
 obtain⟨ML,lv,h1,h2,h3,h4,h5⟩:=h.ex;exact h3.cell 2
theorem RoAt.ltP {w W:World} {M P:Nat->Prop} {R L D:Nat} {r:Rdw} {d:Dk} (h:RoAt w M P R L r D d) (hs:w.heap.size<=W.heap.size): ∀b,P b->b<W.heap.size:=fun b hb=>lt1 (h.dis b hb).1 hs
theorem roLogPut (W:World) (M P:Nat->Prop) (R L:Nat) (r:Rdw) (D:Nat) (d:Dk) (h:RoAt W M P R L r D d) (k:Nat) (u:ByteArray) (hk0:0<k) (hk1:k<256) (hu:u.size<=65536) (hll:d.loose.length<=1000000000):
  Calls prog 54 #[px L,.int .u8 (k:Int),.string u] W fun e w'=>e= .returned (.int .i64 (Lg.put d r.lg k u).2.2)/\RoTo W w' M P R L ⟨(Lg.put d r.lg k u).2.1,r.l,r.phase⟩ D (Lg.put d r.lg k u).1:=by
 obtain⟨ML,h1,_,h3⟩:=h.log;refine(lPut_c W ML L r.lg D d h1 k u hk0 hk1 hu hll).mono ?_;rintro e w' ⟨rfl,hT⟩;exact⟨rfl,h3 w' _ _ hT (le1 h.len (lput_len d r.lg k u).1)⟩
theorem roLogSync (W:World) (M P:Nat->Prop) (R L:Nat) (r:Rdw) (D:Nat) (d:Dk) (h:RoAt W M P R L r D d):
  Calls prog 56 #[px L] W fun e w'=>e= .returned (.int .i64 (Lg.sync d r.lg).2.2)/\RoTo W w' M P R L ⟨(Lg.sync d r.lg).2.1,r.l,r.phase⟩ D (Lg.sync d r.lg).1:=by
 obtain⟨ML,h1,_,h3⟩:=h.log;refine(lSync_c W ML L r.lg D d h1).mono ?_;rintro e w' ⟨rfl,hT⟩;exact⟨rfl,h3 w' _ _ hT (by rw[lsync_len];exact h.len)⟩
theorem roPut_c (w:World) (M P:Nat->Prop) (R L:Nat) (r:Rdw) (D:Nat) (d:Dk) (h:RoAt w M P R L r D d) (x:St) (v:Value) (hv:StIn w P v x) (hok:x.Ok) (hll:d.loose.length<=1000000000):
  Calls prog 20 #[px R,v] w fun e w'=>e= .returned (.int .i64 (Rdw.put d r x).2.2)/\RoTo w w' M P R L (Rdw.put d r x).2.1 D (Rdw.put d r x).1:=by
 obtain⟨sv,rfl,hn⟩:=hv;obtain⟨a,cap,rfl,hcap,hmx⟩:=hn.slice;have hA:=(Below.refl w.heap.size w).alloc le0 (.cells (stC x (.slice a x.job.nodes.length cap)) 47);have hbx:=Blk.new w (stC x (.slice a x.job.nodes.length cap)) 47;have HXI:Hd (∀W,Below w.heap.size w W->StIn W P (.agg (stC x (.slice a x.job.nodes.length cap))) x):=fun W hb=>⟨_,rfl,hn.keep (fun _ k=>k) fun b q=>hb.block b (h.dis b q).1⟩;have HM:Hd (∀W,Below w.heap.size w W->CB prog 14 #[.agg (stC x (.slice a x.job.nodes.length cap))] W (.bool x.mayB)):=fun W hb=>roMay_c x hok _ W P (HXI.o W hb) (h.ltP hb.size);have HPE:Hd (Rdw.put d r x=if x.mayB=false then(d,r,2)else if(nextP r.phase x.kind).2=false then(d,r,261)else
 if(Lg.put d r.lg x.kind x.text).2.2≠0 then((Lg.put d r.lg x.kind x.text).1,⟨(Lg.put d r.lg x.kind x.text).2.1,r.l,r.phase⟩,(Lg.put d r.lg x.kind x.text).2.2)else
 ((Lg.sync (Lg.put d r.lg x.kind x.text).1 (Lg.put d r.lg x.kind x.text).2.1).1,⟨(Lg.sync (Lg.put d r.lg x.kind x.text).1 (Lg.put d r.lg x.kind x.text).2.1).2.1,r.l++ [x],(nextP r.phase x.kind).1⟩,(Lg.sync (Lg.put d r.lg x.kind x.text).1 (Lg.put d r.lg x.kind x.text).2.1).2.2)):=rfl
 generalize Rdw.put d r x=R0 at*;have HH:=Lh h;have HOK:=Lh hok;have HLL:=Lh hll
 cases hm:x.mayB
 ·rw[hm,if_pos rfl]at HPE;simp only[hm]at HM;have HM1:=Lh (HM.o _ hA);have HAA:=Lh hA;obtain⟨x0,x1,x2,x3,x4,x5,x6,x7,x8⟩:=hbx.q9;unfold stC at HM1 HAA x0 x1 x2 x3 x4 x5 x6 x7 x8⊢;unfold px;clear h hm hok hn hA hbx HM HXI;go_enter func20,ntmps20
  go_upto_region 1 with fail
  generalize World.alloc w _=W1 at*
  go_wp2_with (first|(go_at_call 14;refine HM1.o.mono ?_;rintro e w2 ⟨rfl,hb2⟩)|fail)
  go_ret;rw[HPE.o];exact⟨rfl,HH.o.toB (HAA.o.trans (hb2.mono HAA.o.size))⟩
 rw[hm,if_neg (by decide)]at HPE;simp only[hm]at HM;have hmk:=St.may_kind hm;have hts:=St.text_len hok hm;have HNX:Hd (∀W:World,CB prog 53 #[.int .u8 (r.phase:Int),.int .u8 (x.kind:Int)] W (.tuple #[.int .u8 ((nextP r.phase x.kind).1:Nat),.bool (nextP r.phase x.kind).2])):=fun W=>roNext_c r.phase x.kind (by have:=h.phase;omega) hmk.1 hmk.2 W;have HTX:Hd (∀W,Below w.heap.size w W->CB prog 55 #[.agg (stC x (.slice a x.job.nodes.length cap))] W (.string x.text)):=fun W hb=>roText_c x hok hm _ W P (HXI.o W hb) (h.ltP hb.size);have HLP:Hd (∀W,RoAt W M P R L r D d->Calls prog 54 #[px L,.int .u8 (x.kind:Int),.string x.text] W fun e w'=>e= .returned (.int .i64 (Lg.put d r.lg x.kind x.text).2.2)/\RoTo W w' M P R L ⟨(Lg.put d r.lg x.kind x.text).2.1,r.l,r.phase⟩ D (Lg.put d r.lg x.kind x.text).1):=
  fun W hW=>roLogPut W M P R L r D d hW x.kind x.text (by omega) (by omega) (by omega) hll
 have HTK:Hd (∀W N r2 d2,RoAt W N P R L r2 D d2->StIn W P (.agg (stC x (.slice a x.job.nodes.length cap))) x->r2.l.length<r2.lg.l.length->Calls prog 45 #[px R,.agg (stC x (.slice a x.job.nodes.length cap))] W fun e w'=>e= .returned (.bool (nextP r2.phase x.kind).2)/\RoTo W w' N P R L (if(nextP r2.phase x.kind).2=true then⟨r2.lg,r2.l++ [x],(nextP r2.phase x.kind).1⟩else r2) D d2):=
  fun W N r2 d2 h2 hx hl=>roTakes_c W N P R L r2 D d2 h2 x _ hx hok hmk.1 hmk.2 hl
 have HLN:=Lh (lput_len d r.lg x.kind x.text);have HMK:=Lh hmk;have HTS:=Lh hts;have HNR:=Lh h.len;generalize hnx:nextP r.phase x.kind=nx at*;obtain⟨np,nb⟩:=nx;dsimp only at HNX HPE;have HNX0:=Lh hnx;have HM1:=Lh (HM.o _ hA);have HNN:Hd (∀W,(∀b,P b->W.heap[b]? =w.heap[b]?)->StIn W P (.agg (stC x (.slice a x.job.nodes.length cap))) x):=fun W hk=>⟨_,rfl,hn.keep (fun _ k=>k) hk⟩;have HAA:=Lh hA;obtain⟨x0,x1,x2,x3,x4,x5,x6,x7,x8⟩:=hbx.q9;have HBX:=Lh hbx;unfold stC at HM1 HAA x0 x1 x2 x3 x4 x5 x6 x7 x8 HTX HBX⊢;unfold px;clear h hm hok hn hA hbx HM HXI hmk hts hll hnx;go_enter func20,ntmps20
 go_upto_region 1 with fail
 generalize World.alloc w _=W1 at*
 go_upto_region 5 with (first|(go_at_call 14;refine HM1.o.mono ?_;rintro e w2 ⟨rfl,hb2⟩)|fail)
 have hB2:=HAA.o.trans (hb2.mono HAA.o.size);have hx2:=HBX.o.below hb2 HBX.o.lt;have c2:=(HH.o.below hB2).phase_cell;have y0:=hx2.cell 0;clear x0 x1 x2 x3 x4 x5 x6 x7 x8
 go_cut [5,6] (fun s5 s6 wx=>s5= .int .u8 (np:Int)/\s6= .bool nb/\Below w2.heap.size w2 wx)
 case first=>
  go_region_with (first|(go_at_call 53;refine(HNX.o w2.drew).mono ?_;rintro e w3 ⟨rfl,hb3⟩))
  all_goals
   go_wp2_with fail
   go_meet;exact⟨rfl,rfl,(Below.refl w2.heap.size w2).drew.trans hb3⟩
 case rest=>
 obtain⟨rfl,rfl,hb3⟩:=hcut;have hB3:=hB2.trans (hb3.mono hB2.size);have hx3:=hx2.below hb3 hx2.lt
 cases nb
 ·rw[if_pos rfl]at HPE
  go_wp2_with fail
  go_ret;rw[HPE.o];exact⟨rfl,HH.o.toB hB3⟩
 rw[if_neg (by decide)]at HPE;clear c2 y0 hb2 hb3 HNX HBX HM1;have hR3:=HH.o.below hB3;have c0:wc.cell? ⟨R,0,none⟩=some (px L):=by obtain⟨ML,_,hc,_⟩:=hR3.log;exact hc
 unfold px at c0;obtain⟨x0,x1,x2,x3,x4,x5,x6,x7,x8⟩:=hx3.q9;have HT3:=Lh (HTX.o wc.drew hB3.drew);have HR3:=Lh hR3;have HX3:=Lh hx3;have HB3:=Lh hB3;have hzb:w.heap.size<wc.heap.size:=hx3.lt;clear hR3 hx3 hB3 hx2 hB2 HTX;generalize hpt:Lg.put d r.lg x.kind x.text=pt at*;obtain⟨d2,g2,pe⟩:=pt;dsimp only at HPE HLP HLN;unfold px at HLP
 go_upto_region 8 with fail
 go_cut [7] (fun s7 wx=>s7= .int .i64 pe/\Blk wx w.heap.size 47 #[.int .u8 (x.kind:Int),.int .i64 x.n,.int .i64 x.cut,.int .i64 x.too,.int .i64 x.job.par,.slice a x.job.nodes.length cap,.int .i64 x.part,.int .i64 x.at_,.int .i64 x.why]/\ ∃w4,Below w.heap.size w w4/\w.heap.size<w4.heap.size/\RoTo w4 wx M P R L ⟨g2,r.l,r.phase⟩ D d2)
 case first=>
  go_region_with (first
   |(go_at_call 55;refine HT3.o.mono ?_;rintro e w4 ⟨rfl,hb4⟩;have hB4:=HB3.o.trans (((Below.refl wc.heap.size wc).drew.trans hb4).mono HB3.o.size);have hR4:=HH.o.below hB4;have k0:=(show w4.cell? ⟨R,0,none⟩=some (px L) by obtain⟨ML,_,hc,_⟩:=hR4.log;exact hc);unfold px at k0;have hx4:=HX3.o.drew.below hb4 HX3.o.lt;have kx:=hx4.cell 0)
   |(go_at_call 54;refine(HLP.o w4 hR4).mono ?_;rintro e w5 ⟨rfl,hT⟩)
   |(go_at_call 54;refine(HLP.o w4.drew (hR4.below (Below.refl w4.heap.size w4).drew)).mono ?_;rintro e w5 ⟨rfl,hT⟩;replace hT:=hT.undrew))
  all_goals
   go_wp2_with fail
   go_meet;exact⟨rfl,hx4.fr hT.1 (fun hm=>by have:=HH.o.lt _ hm;omega),w4,hB4,hx4.lt,hT⟩
 case rest=>
 obtain⟨rfl,hx5,w4,hB4,hz4,hT⟩:=hcut;by_cases hpe:pe=0
 ·subst hpe;rw[if_neg (by simp)]at HPE;obtain⟨hf,N,hN,hR5⟩:=hT;have hlt:r.l.length<g2.l.length:=by
   have h1:=HLN.o.2 rfl (by have:=HMK.o;omega) (le1 HTS.o (by decide));have h2:=HNR.o;omega
  have hkP: ∀b,P b->wc.heap[b]? =w.heap[b]? :=fun b q=>(hf.block b (lt1 (HH.o.dis b q).1 hB4.size) (HH.o.dis b q).2).trans (hB4.block b (HH.o.dis b q).1);have HTA:=Lh (HTK.o wc N _ d2 hR5 (HNN.o wc hkP) hlt);dsimp only at HTA;rw[HNX0.o]at HTA;unfold px stC at HTA;obtain⟨x0,x1,x2,x3,x4,x5,x6,x7,x8⟩:=hx5.q9;have HF:=Lh hf;have HN1:=Lh hN;have HB4:=Lh hB4;clear hx5 hf hN hB4 hz4 hR5 hlt hkP HT3 HR3 HX3 HB3 HTK HLP c0
  go_upto_region 12 with (first|(go_at_call 45;refine HTA.o.mono ?_;rintro e w6 ⟨rfl,hT6⟩)|fail)
  rw[if_pos trivial]at hT6;obtain⟨hf6,N6,hN6,hR6⟩:=hT6;have c0:w6.cell? ⟨R,0,none⟩=some (px L):=by obtain⟨ML,_,hc,_⟩:=hR6.log;exact hc
  have HSY:=Lh (roLogSync w6 N6 P R L _ D d2 hR6);dsimp only at HSY;unfold px at c0 HSY;clear x0 x1 x2 x3 x4 x5 x6 x7 x8 HTA
  go_wp2_with (first|(go_at_call 56;refine HSY.o.mono ?_;rintro e w7 ⟨rfl,hT7⟩)|fail)
  go_ret;rw[HPE.o];exact⟨rfl,RoTo.of_below HB4.o (RoTo.join HF.o HN1.o (RoTo.join hf6 hN6 hT7))⟩
 ·rw[if_pos hpe]at HPE;have hpb:(pe !=0)=true:=by rw[bne_iff_ne];exact hpe
  go_wp2_with fail
  go_ret;rw[HPE.o];exact⟨rfl,RoTo.of_below hB4 hT⟩
section
variable {w:World} {M P:Nat->Prop} {R L D:Nat} {r:Rdw} {d:Dk}
theorem roPhase_c (h:RoAt w M P R L r D d):Calls prog 23 #[px R] w fun e w'=>e= .returned (.int .u8 (r.phase:Int))/\w=w':=by
 obtain⟨ML,lv,h1,h2,h3,h4,h5⟩:=h.ex;have c2:=h3.cell 2;unfold px;clear h1 h2 h3 h4 h5 h;go_enter func23,ntmps23
 go_wp2_with fail
 go_ret;exact⟨rfl,rfl⟩
theorem roLen_c (h:RoAt w M P R L r D d):Calls prog 22 #[px R] w fun e w'=>e= .returned (.int .i64 (r.l.length:Int))/\w=w':=by
 obtain⟨ML,lv,h1,h2,h3,h4,h5⟩:=h.ex;obtain⟨a,cap,rfl,_,_⟩:=h4.slice;have c1:=h3.cell 1;unfold px;clear h1 h2 h3 h4 h5 h;go_enter func22,ntmps22
 go_wp2_with fail
 go_ret;exact⟨rfl,rfl⟩
theorem roAt_c (h:RoAt w M P R L r D d) (i:Nat) (hi:i<r.l.length):Calls prog 25 #[px R,.int .i64 (i:Int)] w fun e w'=>
  ∃a c,e= .returned (.tuple #[.agg (stC r.l[i] (.slice a r.l[i].job.nodes.length c)),.int .i64 0])/\NodesIn w' P r.l[i].job.nodes (.slice a r.l[i].job.nodes.length c)/\Below w.heap.size w w':=by
 have hlen:=h.frs_len;obtain⟨ML,lv,h1,h2,h3,h4,h5⟩:=h.ex;obtain⟨g,cap,sv,rfl,hn,hc⟩:=h4.cells i hi;obtain⟨_,_,e1,hcap,hmx⟩:=h4.slice;simp only[vs0,true_and]at e1;obtain⟨rfl,rfl⟩:=e1;obtain⟨sa,sc,rfl,_,_⟩:=hn.slice;have hA:=(Below.refl w.heap.size w).alloc le0 (.cells #[.int .u8 0,.int .i64 0,.int .i64 0,.int .i64 0,.int .i64 0,.slice none 0 0,.int .i64 0,.int .i64 0,.int .i64 0] 47);have hres:=Blk.new w #[.int .u8 0,.int .i64 0,.int .i64 0,.int .i64 0,.int .i64 0,.slice none 0 0,.int .i64 0,.int .i64 0,.int .i64 0] 47;have c1:=(h3.below hA h.ltR).cell 1;have hgl:g<w.heap.size:=h.lt g (h5 g ⟨_,_,_,rfl⟩).1;have hcA: ∀j,j<9->(w.alloc (.cells #[.int .u8 0,.int .i64 0,.int .i64 0,.int .i64 0,.int .i64 0,.slice none 0 0,.int .i64 0,.int .i64 0,.int .i64 0] 47)).cell? ⟨g,i*9+j,none⟩=(stC r.l[i] (.slice sa r.l[i].job.nodes.length sc))[j]? :=fun j hj=>(hA.cell (p:=⟨g,i*9+j,none⟩) hgl).trans (hc j hj);obtain⟨hiI,hi0,hi1⟩:(i:Int)<(r.l.length:Int)/\ ¬(i:Int)<0/\(0:Int)<=(i:Int):=by and_intros<;>(omega)
 have d1:decide ((i:Int)<0)=false:=df0 hi0;have d2:decide ((r.l.length:Int)<=(i:Int))=false:=df0 (by omega);have HN:=Lh hn;have HDIS:=Lh h.dis;clear h1 h2 h3 h4 h5 hn hc;generalize r.l[i]'hi=x at*;generalize r.l.length=N at*;have HI:=Lh hi;clear hi h;unfold stC at hcA;have x0:=hcA 0 (by omega);have x1:=hcA 1 (by omega);have x2:=hcA 2 (by omega);have x3:=hcA 3 (by omega);have x4:=hcA 4 (by omega);have x5:=hcA 5 (by omega);have x6:=hcA 6 (by omega);have x7:=hcA 7 (by omega);have x8:=hcA 8 (by omega);rw[Nat.add_zero]at x0;unfold px;have HRES:=Lh hres;have HA:=Lh hA;clear hcA hA;obtain⟨r0,r1,r2,r3,r4,r5,r6,r7,r8⟩:=hres.q9;obtain⟨q0,q1,q2,q3,q4,q5,q6,q7,q8⟩:=hres.u9;clear hres;go_enter func25,ntmps25
 go_upto_region 1 with fail
 generalize World.alloc w _=W1 at*
 go_wp2_with fail
 refine bodyPost_ret (v:= .tuple #[.agg #[_,_,_,_,_,_,_,_,_],.int .i64 0]) (results_cell_row2P rfl _ _ w.heap.size 47 _ (0,0) _ rfl (Blk.set9 HRES.o rfl _ _ _ _ _ _ _ _ _) underlying47 rfl ?_ (.int .i64 0) rfl) rfl ⟨sa,sc,rfl,?_,below_set9 HA.o le0 _ _ _ _ _ _ _ _ _⟩
 ·kernel_rfl
 ·exact HN.o.keep (fun _ k=>k) (fun b hb=>by
   have:=(HDIS.o b hb).1
   rw[other_set9 (by omega)]
   exact HA.o.block b this)
end
theorem start_c (w:World) (h:Env w):Calls prog 30 #[] w fun e w'=>
  ∃a c,e= .returned (.agg #[.int .u8 1,.int .i64 2,.int .i64 3,.int .i64 5,.int .i64 2,.slice a 3 c,.int .i64 0,.int .i64 0,.int .i64 0])/\NodesIn w' (fun b=>w.heap.size<=b/\b<w'.heap.size) sumsJ.nodes (.slice a 3 c)/\Below w.heap.size w w':=by
 have hA:=(Below.refl w.heap.size w).alloc le0 (.cells #[.int .u8 0,.int .i64 0,.int .i64 0,.int .i64 0,.int .i64 0,.slice none 0 0,.int .i64 0,.int .i64 0,.int .i64 0] 47);have hr:=Blk.new w #[.int .u8 0,.int .i64 0,.int .i64 0,.int .i64 0,.int .i64 0,.slice none 0 0,.int .i64 0,.int .i64 0,.int .i64 0] 47;have HM:=Lh (made_c _ (h.keep hA));have hsz:(w.alloc (.cells #[.int .u8 0,.int .i64 0,.int .i64 0,.int .i64 0,.int .i64 0,.slice none 0 0,.int .i64 0,.int .i64 0,.int .i64 0] 47)).heap.size=w.heap.size+1:=by simp
 clear h;go_enter func30,ntmps30
 go_upto_region 1 with fail
 generalize World.alloc w _=W at*
 go_wp2_with (first|(go_at_call 62;refine HM.o.mono ?_;rintro e w2 ⟨a,c,rfl,hn,hb⟩;have hr2:=hr.below hb hr.lt;obtain⟨r0,r1,r2,r3,r4,r5,r6,r7,r8⟩:=hr2.q9;obtain⟨q0,q1,q2,q3,q4,q5,q6,q7,q8⟩:=hr2.u9)|fail)
 refine bodyPost_ret (v:= .agg #[.int .u8 1,.int .i64 2,.int .i64 3,.int .i64 5,.int .i64 2,.slice a 3 c,.int .i64 0,.int .i64 0,.int .i64 0]) (results_cell_row rfl _ _ w.heap.size 47 _ (0,0) _ rfl (Blk.set9 hr2 rfl _ _ _ _ _ _ _ _ _) underlying47 rfl ?_) rfl ⟨a,c,rfl,?_,?_⟩
 ·kernel_rfl
 ·exact hn.keep (fun b k=>⟨by omega,by rw[size_set9];exact k.2⟩) (fun b k=>other_set9 (by omega) _ _ _ _ _ _ _ _ _)
 ·exact below_set9 (hA.trans (hb.mono hA.size)) le0 _ _ _ _ _ _ _ _ _
theorem begun_c (w:World):Calls prog 29 #[] w fun e w'=>
  ∃R L D M P,e= .returned (px R)/\RoAt w' M P R L road0 D (Dk.new 5000)/\(∀b,M b->w.heap.size<=b)/\(∀b,P b->w.heap.size<=b)/\Below w.heap.size w w':=by
 have HN:=Lh (New_c 5000 w);have HO:Hd (∀W D,DkAt W (· =D) D (Dk.new 5000)->Calls prog 10 #[px D] W (OpenPost W (· =D) D (Dk.new 5000,some road0,0))):=fun W D h=>by
  have:=roOpen_c W (· =D) D (Dk.new 5000) h (by decide);rw[Rdw.open_new]at this;exact this
 unfold px at HO HN⊢;go_enter func29,ntmps29
 go_upto_region 2 with (first|(go_at_call 7;refine HN.o.mono ?_;rintro e w1 ⟨hb1,(⟨_,_,rfl,hd⟩|⟨hx,rfl⟩)⟩)|fail)
 ·have HO1:=Lh (HO.o w1 _ hd);unfold OpenPost px at HO1
  go_wp2_with (first|(go_at_call 10;refine HO1.o.mono ?_;rintro e w2 (⟨e1,hx,_⟩|⟨r,R,L,N,P,hx,rfl,hf,hR,hN,hP⟩))|fail)
  ·simp at hx
  ·simp only[Prod.mk.injEq,Option.some.injEq]at hx;obtain⟨rfl,_⟩:=hx;go_ret;refine⟨R,L,w.heap.size,N,P,rfl,hR,fun b q=>?_,fun b q=>le1 hb1.size (hP b q),hb1.trans (hf.below hb1.size (fun k hk e=>by omega))⟩;rcases hN b q with h|h
   ·rw[h];exact le0
   ·exact le1 hb1.size h
 ·omega
theorem roPutK (w:World) (M P:Nat->Prop) (R L:Nat) (r:Rdw) (D:Nat) (d:Dk) (h:RoAt w M P R L r D d) (x:St) (hok:x.Ok) (hj:x.job=⟨0,[]⟩) (hll:d.loose.length<=1000000000) (q:Dk×Rdw×Int) (hq:Rdw.put d r x=q) (v:Value) (hv:v= .agg (stC x (.slice none 0 0))):
  Calls prog 20 #[px R,v] w fun e w'=>e= .returned (.int .i64 q.2.2)/\RoTo w w' M P R L q.2.1 D q.1:=by
 subst hv hq;exact roPut_c w M P R L r D d h x _ ⟨_,rfl,by rw[hj];exact NodesIn.nil _ _⟩ hok hll
theorem roPutS (w:World) (M P Q:Nat->Prop) (R L:Nat) (r:Rdw) (D:Nat) (d:Dk) (h:RoAt w M P R L r D d) (a:Option Addr) (c:Nat) (hn:NodesIn w Q sumsJ.nodes (.slice a 3 c)) (hQ: ∀b,Q b->b<w.heap.size/\ ¬M b) (hll:d.loose.length<=1000000000) (q:Dk×Rdw×Int) (hq:Rdw.put d r startS=q):
  Calls prog 20 #[px R,.agg #[.int .u8 1,.int .i64 2,.int .i64 3,.int .i64 5,.int .i64 2,.slice a 3 c,.int .i64 0,.int .i64 0,.int .i64 0]] w fun e w'=>e= .returned (.int .i64 q.2.2)/\RoTo w w' M (fun b=>P b\/Q b) R L q.2.1 D q.1:=by
 subst hq;exact roPut_c w M _ R L r D d (h.more (fun b k=> .inl k) (fun b k=>by
  rcases k with k|k
  ·exact h.dis b k
  ·exact hQ b k)) startS _ ⟨_,rfl,hn.mono fun b k=> .inr k⟩ start_ok hll
theorem hM_step {M N:Nat->Prop} {n m:Nat} (hN: ∀b,N b->M b\/m<=b) (hM: ∀b,M b->n<=b) (h:n<=m): ∀b,N b->n<=b:=fun b q=>by
 rcases hN b q with e|e
 ·exact hM b e
 ·exact le1 h e
theorem roWorks_c (w:World) (h:Env w):CB prog 6 #[] w (.bool true):=by
 have HB:=Lh (begun_c w);have HS:Hd (∀W,Env W->_):=fun W (h:Env W)=>start_c W h;have HE:=Lh h;have HK1:Hd (∀W M P R L D,RoAt W M P R L road0 D (Dk.new 5000)->Calls prog 20 #[px R,.agg #[.int .u8 2,.int .i64 0,.int .i64 0,.int .i64 0,.int .i64 0,.slice none 0 0,.int .i64 0,.int .i64 0,.int .i64 0]] W fun e w'=>e= .returned (.int .i64 261)/\RoTo W w' M P R L road0 D (Dk.new 5000)):=
  fun W M P R L D h=>roPutK W M P R L road0 D (Dk.new 5000) h (kindS 2) (kind_ok 2 (by decide)) rfl (by decide) _ putM_e _ rfl
 have HK2:Hd (∀W M P Q R L D a c,RoAt W M P R L road0 D (Dk.new 5000)->NodesIn W Q sumsJ.nodes (.slice a 3 c)->(∀b,Q b->b<W.heap.size/\ ¬M b)->Calls prog 20 #[px R,.agg #[.int .u8 1,.int .i64 2,.int .i64 3,.int .i64 5,.int .i64 2,.slice a 3 c,.int .i64 0,.int .i64 0,.int .i64 0]] W fun e w'=>e= .returned (.int .i64 0)/\RoTo W w' M (fun b=>P b\/Q b) R L put0.2.1 D put0.1):=
  fun W M P Q R L D a c h hn hQ=>by
   have:=roPutS W M P Q R L road0 D (Dk.new 5000) h a c hn hQ (by decide) put0 rfl;rw[put0_e]at this;exact this
 have HPH:Hd (∀W M P R L D,RoAt W M P R L put0.2.1 D put0.1->Calls prog 23 #[px R] W fun e w'=>e= .returned (.int .u8 1)/\W=w'):=fun W M P R L D h=>by
  have:=roPhase_c h;rw[put0_p]at this;exact this
 have HK3:Hd (∀W M P R L D,RoAt W M P R L put0.2.1 D put0.1->Calls prog 20 #[px R,.agg #[.int .u8 2,.int .i64 0,.int .i64 0,.int .i64 0,.int .i64 0,.slice none 0 0,.int .i64 0,.int .i64 0,.int .i64 0]] W fun e w'=>e= .returned (.int .i64 0)/\RoTo W w' M P R L put1.2.1 D put1.1):=
  fun W M P R L D h=>by
   have:=roPutK W M P R L put0.2.1 D put0.1 h (kindS 2) (kind_ok 2 (by decide)) rfl (by rw[put0_l];decide) put1 rfl (.agg #[.int .u8 2,.int .i64 0,.int .i64 0,.int .i64 0,.int .i64 0,.slice none 0 0,.int .i64 0,.int .i64 0,.int .i64 0]) rfl;rw[put1_e]at this;exact this
 unfold px at HB HK1 HK2 HK3 HPH;clear h;go_enter func6,ntmps6
 go_wp2_with (first
  |(go_at_call 29;refine HB.o.mono ?_;rintro e w1 ⟨R,L,D,M,P,rfl,hR,hM,hP,hb1⟩;have T1:=Lh hR;clear hR)
  |(go_at_call 20;refine(HK1.o _ _ _ _ _ _ T1.o).mono ?_;rintro e w2 ⟨rfl,hT⟩;obtain⟨hf2,N2,hN2,hR2⟩:=hT;have T2:=Lh hR2;clear T1 hR2;have hb2:=hb1.trans (hf2.below hb1.size (fun k hk e=>by have:=hM k e;omega));have hE2:=HE.o.keep hb2;have hM2:=hM_step hN2 hM hb1.size)
  |(go_at_call 30;refine(HS.o w2 hE2).mono ?_;rintro e w3 ⟨a,c,rfl,hn,hb3⟩;have T3:=Lh (T2.o.below hb3);have hB3:=hb2.trans (hb3.mono hb2.size);have hQ3: ∀b,(w2.heap.size<=b/\b<w3.heap.size)->b<w3.heap.size/\ ¬N2 b:=fun b q=>⟨q.2,fun hm=>by have:=T2.o.lt b hm;omega⟩)
  |(go_at_call 20;refine(HK2.o _ _ _ _ _ _ _ _ _ T3.o hn hQ3).mono ?_;rintro e w4 ⟨rfl,hT⟩;obtain⟨hf4,N4,hN4,hR4⟩:=hT;have T4:=Lh hR4;clear T3 hR4;have hb4:=hB3.trans (hf4.below hB3.size (fun k hk e=>by have:=hM2 k e;omega));have hM4:=hM_step hN4 hM2 hB3.size)
  |(go_at_call 23;refine(HPH.o _ _ _ _ _ _ T4.o).mono ?_;rintro e w5 ⟨rfl,rfl⟩)
  |(go_at_call 20;refine(HK3.o _ _ _ _ _ _ T4.o).mono ?_;rintro e w6 ⟨rfl,hT⟩;obtain⟨hf6,N6,hN6,hR6⟩:=hT)
  |fail)
 go_ret;exact⟨rfl,hb4.trans (hf6.below hb4.size (fun k hk e=>by have:=hM4 k e;omega))⟩
