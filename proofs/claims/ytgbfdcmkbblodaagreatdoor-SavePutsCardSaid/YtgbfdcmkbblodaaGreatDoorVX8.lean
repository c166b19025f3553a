/- Parts. -/
import Derived.Test.YtgbfdcmkbblodaaGreatDoorVX7
namespace Go.Proofs.YtgbfdcmkbblodaaGreatDoor
open Go.RowKit
set_option linter.unusedVariables false
set_option linter.unusedSimpArgs false
set_option maxRecDepth 100000
set_option maxHeartbeats 16000000
open Tryz
theorem getI_some {r:Int} {kv:List (Int×Value)} (h:(getI r kv).isSome=true): ∃p∈kv,p.1=r:=by
 by_cases hn: ∀p∈kv,p.1≠r
 ·have:=(findI_none r kv 0).2 hn;unfold getI at h;rw[this]at h
  cases h
 ·simpa using hn
theorem getI_none {r:Int} {kv:List (Int×Value)} (h:getI r kv=none): ∀p∈kv,p.1≠r:=by
 refine(findI_none r kv 0).1 ?_;unfold getI at h;simpa using h
def tkOf (kv:List (Int×Value)):List Nat:=kv.map fun p=>p.1.toNat
theorem st_some {j:Jb} {s:Sta} {kv:List (Int×Value)} (h:(getI (j.find s.uid) kv).isSome=true):stBad j s (tkOf kv)=true:=by
 obtain⟨p,hp,e⟩:=getI_some h;have:(j.find s.uid).toNat∈tkOf kv:=by rw[<-e];exact List.mem_map_of_mem hp
 unfold stBad;rw[dt0 this,Bool.true_or,Bool.or_true]
theorem st_neg {j:Jb} {s:Sta} {tk:List Nat} (h:j.find s.uid<0):stBad j s tk=true:=by
 unfold stBad;rw[dt0 h,Bool.true_or]
theorem st_kind {j:Jb} {s:Sta} {tk:List Nat} (h:statefulB (j.kindAt (j.find s.uid).toNat)=false):stBad j s tk=true:=by
 unfold stBad;rw[h,Bool.not_false,Bool.or_true,Bool.or_true]
theorem st_good {j:Jb} {s:Sta} {kv:List (Int×Value)} (hk: ∀p∈kv,0<=p.1) (h1:getI (j.find s.uid) kv=none) (h2: ¬j.find s.uid<0) (h3:statefulB (j.kindAt (j.find s.uid).toNat)=true):stBad j s (tkOf kv)=false:=by
 have: ¬(j.find s.uid).toNat∈tkOf kv:=by
  intro h;obtain⟨p,hp,e⟩:=List.mem_map.1 h;have:=hk p hp;exact getI_none h1 p hp (by omega)
 unfold stBad;rw[df0 h2,df0 this,h3];rfl
theorem lg_bad {j:Jb} {s:Sta} {l:List Sta} {tk:List Nat} (h:stBad j s tk=true):loadGo j (s::l) tk=180:=by unfold loadGo;rw[if_pos h]
theorem lg_err {j:Jb} {s:Sta} {l:List Sta} {tk:List Nat} (h:stBad j s tk=false) (h2:(takeTb s.bytes).2≠0):loadGo j (s::l) tk=(takeTb s.bytes).2:=by
 unfold loadGo;rw[if_neg (by rw[h];decide),if_pos h2]
theorem lg_fit {j:Jb} {s:Sta} {l:List Sta} {tk:List Nat} (h:stBad j s tk=false) (h2:(takeTb s.bytes).2=0) (h3:fitsB (j.kindAt (j.find s.uid).toNat) (j.nAt (j.find s.uid).toNat) (takeTb s.bytes).1=false):loadGo j (s::l) tk=181:=by
 unfold loadGo;rw[if_neg (by rw[h];decide),if_neg (by simpa using h2),if_pos h3]
theorem lg_next {j:Jb} {s:Sta} {l:List Sta} {tk:List Nat} (h:stBad j s tk=false) (h2:(takeTb s.bytes).2=0) (h3:fitsB (j.kindAt (j.find s.uid).toNat) (j.nAt (j.find s.uid).toNat) (takeTb s.bytes).1=true):loadGo j (s::l) tk=loadGo j l (tk++ [(j.find s.uid).toNat]):=by
 conv=>lhs;rw[loadGo]
 rw[if_neg (by rw[h];decide),if_neg (by simpa using h2),if_neg (by rw[h3];decide)]
theorem idxZ_few {α:Type} (p:α->Bool): ∀(l:List α) (k:Nat),idxZ p l k= -1\/idxZ p l k<(k:Int)+l.length
 | [],k=> .inl rfl
 |y::l,k=>by
  have:=idxZ_few p l (k+1)
  simp only[idxZ,List.length_cons]
  cases p y<;>simp only[cond_true,cond_false]<;>omega
theorem kindAt_eq (j:Jb) (k:Nat) (h:k<j.nodes.length):j.kindAt k=j.nodes[k].kind:=by unfold Jb.kindAt;rw[List.getElem?_eq_getElem h];rfl
theorem nAt_eq (j:Jb) (k:Nat) (h:k<j.nodes.length):j.nAt k=j.nodes[k].n:=by unfold Jb.nAt;rw[List.getElem?_eq_getElem h];rfl
theorem tTake_err (s:ByteArray) (hs:s.size<=140737488355328) (he:(takeTb s).2≠0) (w:World):CB prog 74 #[.string s] w (.tuple #[.pointer none,.int .i64 (takeTb s).2]):=
 (tTake_c s hs w).mono fun e w' ⟨hb,h⟩=>⟨by
  rcases h with ⟨_,h⟩|⟨h,_⟩
  ·exact h
  ·exact absurd h he,hb⟩
theorem tTake_ok (s:ByteArray) (hs:s.size<=140737488355328) (he:(takeTb s).2=0) (w:World):Calls prog 74 #[.string s] w fun e w'=> ∃T B ps,e= .returned (.tuple #[px T,.int .i64 0])/\ps.map Prod.fst=(takeTb s).1/\TabAt w' (fun b=>b<w'.heap.size) T B ps/\Below w.heap.size w w':=
 (tTake_c s hs w).mono fun e w' ⟨hb,h⟩=>by
  rcases h with ⟨h,_⟩|⟨_,T,B,ps,rfl,h1,h2⟩
  ·exact absurd he h
  ·exact⟨T,B,ps,rfl,h1,h2.keep rfl rfl (fun b hb=>hb.2) (fun _ _=>rfl),hb⟩
theorem fits_tab (s:ByteArray) (u:ByteArray) (kd xo:Int) (xn dn:Int) (ai ax:Option Addr) (len capi xl capx:Nat) (T B:Nat) (ps:List (Trow×Value)) (w:World) (h:TabAt w (fun b=>b<w.heap.size) T B ps) (hps:ps.map Prod.fst=(takeTb s).1):
  CB prog 75 #[.agg #[.string u,.int .u8 kd,.slice ai len capi,.int .u8 xo,.int .i64 xn,.slice ax xl capx,.int .i64 dn],px T] w (.bool (fitsB kd dn (takeTb s).1)):=by
 obtain⟨h1,h2,h3⟩:=takeTb_at s;have h4:=takeTb_keys s;rw[<-hps]at h1 h2 h3 h4⊢;exact Fits_c u kd xo xn dn ai ax len capi xl capx _ T B ps w h (fun _ h=>h) h1 (fun p hp=>h2 _ (List.mem_map_of_mem hp)) (fun p hp=>h4 _ (List.mem_map_of_mem hp)) (by rw[List.length_map]at h3;omega)
theorem zero_tab (w:World):(zeroValue 127).run prog w= .ok (.pointer none) w:=by go_simp
theorem look_none {w:World} {b:Nat} {kv:List (Int×Value)} (hm:MapI w .i64 b kv) {r:Int} (h:getI r kv=none):(Instr.lookup 123 (.map (some b)) (.int .i64 r) true).run prog w= .ok (.tuple #[.pointer none,.bool false]) w:=by
 have:=lookupI (P:=prog) underlying123 underlying3 hm r (.pointer none) (zero_tab w);rw[h]at this;exact this
theorem look_some {w:World} {b:Nat} {kv:List (Int×Value)} (hm:MapI w .i64 b kv) {r:Int} {v:Value} (h:getI r kv=some v):(Instr.lookup 123 (.map (some b)) (.int .i64 r) true).run prog w= .ok (.tuple #[v,.bool true]) w:=by
 have:=lookupI (P:=prog) underlying123 underlying3 hm r (.pointer none) (zero_tab w);rw[h]at this;exact this
theorem ins_tab {w:World} {b:Nat} {kv:List (Int×Value)} (hm:MapI w .i64 b kv) {r:Int} (h:getI r kv=none) (x:Value): ∃w',(Instr.mapUpdate 123 (.map (some b)) (.int .i64 r) x).run prog w= .ok () w'/\MapI w' .i64 b (kv++ [(r,x)])/\Fr (fun i=>i=b) w w'/\w'.heap.size=w.heap.size:=
 insertI underlying123 underlying3 hm r x h
theorem New_b (w:World):Calls prog 76 #[] w fun e w'=> ∃T,e= .returned (px T)/\Below w.heap.size w w':=
 (New_t w).mono fun e w' h=>⟨_,h.1,h.2.1⟩
structure LdAt (w:World) (par:Int) (a:Option Addr) (n cap BJ MB ID:Nat) (kv:List (Int×Value)) (wr:World):Prop where
 below:Below w.heap.size w wr
 job:Blk wr BJ 24 #[.int .i64 par,.slice a n cap]
 idl:Blk wr ID 125 #[.int .i64 par,.slice a n cap,.map (some MB)]
 map:MapI wr .i64 MB kv
 ge:w.heap.size<=MB
 ne:BJ≠MB/\ID≠MB
namespace LdAt
variable {w wr wx:World} {par:Int} {a:Option Addr} {n cap BJ MB ID:Nat} {kv kv2:List (Int×Value)}
theorem more (h:LdAt w par a n cap BJ MB ID kv wr) (hb:Below wr.heap.size wr wx):LdAt w par a n cap BJ MB ID kv wx:=
 ⟨h.below.trans (hb.mono h.below.size),h.job.below hb h.job.lt,h.idl.below hb h.idl.lt,h.map.same (hb.block MB h.map.lt),h.ge,h.ne⟩
theorem put (h:LdAt w par a n cap BJ MB ID kv wr) (hf:Fr (fun i=>i=MB) wr wx) (hm:MapI wx .i64 MB kv2):LdAt w par a n cap BJ MB ID kv2 wx:=
 ⟨h.below.trans (hf.below h.below.size (fun k hk e=>by have:=h.ge;omega)),h.job.fr hf h.ne.1,h.idl.fr hf h.ne.2,hm,h.ge,h.ne⟩
end LdAt
theorem ndIn_form {w:World} {B:Nat} {iv sv:Value} {d:Nd} (h:NdIn w B iv sv d): ∃a1 n1 c1 a2 n2 c2,iv= .slice a1 n1 c1/\sv= .slice a2 n2 c2:=by
 obtain⟨_,a1,c1,rfl,_⟩:=h.1;obtain⟨a2,c2,rfl,_⟩:=h.2.slice;exact⟨_,_,_,_,_,_,rfl,rfl⟩
theorem Load_c (jb:Jb) (jv:Value) (l:List Sta) (sv:Value) (w:World) (hj:JbAt w w.heap.size jv jb) (hs:StaRd w (· <w.heap.size) sv l) (hsz: ∀s∈l,s.bytes.size<=140737488355328):
  Calls prog 29 #[jv,sv] w fun e w'=>(∃p,e= .returned (.tuple #[p,.int .i64 (loadE jb l)]))/\Below w.heap.size w w':=by
 obtain⟨nv,rfl,hnd⟩:=hj;obtain⟨a,cap,rfl,hcap,hmx⟩:=hnd.slice;obtain⟨sa,scap,rfl,hsc,hsm⟩:=hs.slice;have hlm:jb.nodes.length<=9223372036854775807:=by unfold maxLen at hmx;omega
 have hll:l.length<=9223372036854775807:=by unfold maxLen at hsm;omega
 have HE:Hd (loadE jb l=if jb.may.2≠0 then 2 else loadGo jb l []):=rfl;generalize loadE jb l=E at*;have hb1:Below w.heap.size w (w.alloc (.cells #[.int .i64 jb.par,.slice a jb.nodes.length cap] 24)):=br0.alloc le0 _;have HM:=Lh (May_c1 jb (.agg #[.int .i64 jb.par,.slice a jb.nodes.length cap]) w.heap.size (w.alloc (.cells #[.int .i64 jb.par,.slice a jb.nodes.length cap] 24)) ⟨_,rfl,hnd.keep hb1⟩ hb1.size);have HJ0:Hd (Blk (w.alloc (.cells #[.int .i64 jb.par,.slice a jb.nodes.length cap] 24)) w.heap.size 24 #[.int .i64 jb.par,.slice a jb.nodes.length cap]):=Blk.new w _ _;have HB1:=Lh hb1;have HND:=Lh hnd;have HST:=Lh hs;have HSZ:=Lh hsz;clear hb1 hnd hs hsz;by_cases hm:jb.may.2=0
 ·have hm0:(jb.may.2 !=0)=false:=by simpa using hm
  have HE2:Hd (E=loadGo jb l []):=by show _=_;rw[HE.o,if_neg (by simpa using hm)]
  clear hm HE;go_enter func29,ntmps29
  go_upto_region 4 with (first|(go_at_call 71;refine HM.o.mono ?_;rintro e w1 ⟨rfl,hbm⟩)|fail)
  have hj1:=HJ0.o.below hbm HJ0.o.lt;have hb2:=HB1.o.trans (hbm.mono HB1.o.size);have c0:=hj1.cell 0;have c1:=hj1.cell 1;have HJ1:=Lh hj1;have HB2:=Lh hb2;have HLT:Hd (w.heap.size<w1.heap.size):=hj1.lt;clear hj1 hb2 hbm HM HJ0 HB1
  go_upto_region 6 with (first|(refine wpList_makeMapI _ _ rfl rfl .i64 ?_;intro hmap)|fail)
  have hL:LdAt w jb.par a jb.nodes.length cap w.heap.size w1.heap.size (w1.heap.size+1) [] ((w1.alloc (.map #[] 0)).alloc (.cells #[.int .i64 jb.par,.slice a jb.nodes.length cap,.map (some w1.heap.size)] 125)):=
   ⟨(HB2.o.alloc HB2.o.size _).alloc (by have:=HB2.o.size;simp;omega) _,(HJ1.o.alloc _).alloc _,Blk.new_at _ _ _ (by simp),hmap.alloc _,by have:=HLT.o;omega,by have:=HLT.o;omega,by omega⟩
  clear hmap c0 c1 HJ1 HB2;generalize hID:w1.heap.size+1=ID at*;generalize w1.heap.size=MB at*;generalize ((w1.alloc (.map #[] 0)).alloc (.cells #[.int .i64 jb.par,.slice a jb.nodes.length cap,.map (some MB)] 125))=W0 at*;have HFL:Hd (∀s:Sta,jb.find s.uid<(jb.nodes.length:Int)):=fun s=>by
   have:=idxZ_few (fun d:Nd=>decide (d.uid=s.uid)) jb.nodes 0;show idxZ _ _ _<_;omega
  have HKA:Hd (∀k (h:k<jb.nodes.length),jb.kindAt k=jb.nodes[k].kind/\jb.nAt k=jb.nodes[k].n):=fun k h=>⟨kindAt_eq jb k h,nAt_eq jb k h⟩
  go_loopw [33] (fun q wr=> ∃(j:Nat) (kv:List (Int×Value)),q= .int .i64 (j:Int)/\j<=l.length/\LdAt w jb.par a jb.nodes.length cap w.heap.size MB ID kv wr/\(∀p∈kv,0<=p.1)/\loadGo jb (l.drop j) (tkOf kv)=E) (fun q _=>l.length-(intOf q).toNat)
  case atStart=>exact⟨0,[],rfl,ze0,hL,by simp,by rw[HE2.o];rfl⟩
  case round=>
   clear hL;obtain⟨j,kv,rfl,hj,hL,hkv,hgo⟩:=hrel;by_cases hjl:j<l.length
   ·have d0:decide ((j:Int)<(l.length:Int))=true:=dt0 (by omega);obtain⟨sb,so,sc,e1,hsb,s0,s1⟩:=HST.o.at_ j hjl;have hsj:=HSZ.o _ (List.getElem_mem hjl);rw[List.drop_eq_getElem_cons hjl]at hgo;simp only[vs0]at e1;obtain⟨rfl,_,rfl⟩:=e1;have k0:=(hL.below.cell (p:=⟨sb,so+j*2,none⟩) hsb).trans s0;have k1:=(hL.below.cell (p:=⟨sb,so+j*2+1,none⟩) hsb).trans s1;have HJL:=Lh hjl;generalize l[j]=s at*;have hL7:=hL.more (br0.alloc le0 (.cells #[.string s.uid,.string s.bytes] 72));have hS7:Blk (wr.alloc (.cells #[.string s.uid,.string s.bytes] 72)) wr.heap.size 72 #[.string s.uid,.string s.bytes]:=Blk.new wr _ _;have HL7:=Lh hL7;have HS7:=Lh hS7;have HGO:=Lh hgo;have HKV:=Lh hkv;have HSJ:=Lh hsj;clear s0 s1 hL7 hS7 hL hgo hkv hsj
    go_upto_region 8 with fail
    generalize (wr.alloc (.cells #[.string s.uid,.string s.bytes] 72))=W7 at*;have HF:=Lh (Find_c jb s.uid (.agg #[.int .i64 jb.par,.slice a jb.nodes.length cap]) w.heap.size W7 ⟨_,rfl,HND.o.keep HL7.o.below⟩ HL7.o.below.size);have HFL2:=Lh (HFL.o s);have j0:=HL7.o.job.cell 0;have j1:=HL7.o.job.cell 1;have q0:=HS7.o.cell 0;have HST0:Hd (∀r og,jb.find s.uid=r->getI r kv=og->(og.isSome=true->E=180)/\(r<0->E=180)/\(∀k:Nat,r=(k:Int)->og=none-> ∀hk:k<jb.nodes.length,(statefulB jb.nodes[k].kind=false->E=180)/\(statefulB jb.nodes[k].kind=true->((takeTb s.bytes).2≠0->E=(takeTb s.bytes).2)/\((takeTb s.bytes).2=0->(fitsB jb.nodes[k].kind jb.nodes[k].n (takeTb s.bytes).1=false->E=181)/\(fitsB jb.nodes[k].kind jb.nodes[k].n (takeTb s.bytes).1=true->loadGo jb (l.drop (j+1)) (tkOf kv++ [k])=E))))):=by
     rintro r og hr hog;have hgo:=HGO.o;subst hr;subst hog;refine⟨fun h=>?_,fun h=>?_,fun k hk hn hkl=>?_⟩
     ·rw[<-hgo,lg_bad (st_some h)]
     ·rw[<-hgo,lg_bad (st_neg h)]
     ·have e1:(jb.find s.uid).toNat=k:=by omega
      obtain⟨g1,g2⟩:=HKA.o k hkl;refine⟨fun h=>?_,fun h=>?_⟩
      ·rw[<-hgo,lg_bad (st_kind (by rw[e1,g1];exact h))]
      ·have hg:=st_good HKV.o hn (by omega) (by rw[e1,g1];exact h);refine⟨fun h2=>by rw[<-hgo,lg_err hg h2],fun h2=>⟨fun h3=>?_,fun h3=>?_⟩⟩
       ·rw[<-hgo,lg_fit hg h2 (by rw[e1,g1,g2];exact h3)]
       ·rw[<-hgo,lg_next hg h2 (by rw[e1,g1,g2];exact h3),e1]
    generalize jb.find s.uid=r at*;rcases hog:getI r kv with _|v0
    ·have HOG:=Lh hog;obtain⟨_,hneg,hpos⟩:=HST0.o r none rfl hog;clear hog HST0;by_cases hr0:r<0
     ·have d1:decide (r<0)=true:=dt0 hr0;have HEE:Hd (E=180):=hneg hr0;clear hneg hpos hr0
      go_upto_region 9 with (first|(go_at_call 72;refine HF.o.mono ?_;rintro e w2 ⟨rfl,hbf⟩)|fail)
      have hL8:=HL7.o.more hbf;have i2:=hL8.idl.cell 2;have hk8:=look_none hL8.map HOG.o
      go_wp2_with fail
      go_ret2;exact⟨⟨_,by rw[HEE.o];rfl⟩,hL8.below⟩
     ·obtain⟨k,rfl⟩: ∃k:Nat,r=(k:Int):=⟨r.toNat,by omega⟩;have hk:k<jb.nodes.length:=by have:=HFL2.o;omega
      have hpk:=hpos k rfl rfl hk;have d1:decide ((k:Int)<0)=false:=df0 hr0;clear hneg hpos hr0
      go_upto_region 9 with (first|(go_at_call 72;refine HF.o.mono ?_;rintro e w2 ⟨rfl,hbf⟩)|fail)
      have hL8:=HL7.o.more hbf;have i2:=hL8.idl.cell 2;have hk8:=look_none hL8.map HOG.o;have y0:=hL8.job.cell 0;have y1:=hL8.job.cell 1;have HS8:=Lh (HS7.o.below hbf HS7.o.lt);have q1:=HS8.o.cell 1;obtain⟨nb,no,nc,e1,hnb,hu,iv,xv,n0,n1,n2,n3,n4,n5,n6,hin⟩:=(HND.o.keep hL8.below).at_ k hk;obtain⟨a1,l1,c1,a2,l2,c2,rfl,rfl⟩:=ndIn_form hin;simp only[vs0]at e1;obtain⟨rfl,_,rfl⟩:=e1;have HL8:=Lh hL8;have HNB:=Lh hnb;have HIN:Hd (w2.cell? ⟨nb,no+k*7,none⟩=some (.string jb.nodes[k].uid)/\w2.cell? ⟨nb,no+k*7+1,none⟩=some (.int .u8 jb.nodes[k].kind)/\w2.cell? ⟨nb,no+k*7+2,none⟩=some (.slice a1 l1 c1)/\w2.cell? ⟨nb,no+k*7+3,none⟩=some (.int .u8 jb.nodes[k].x.op)/\w2.cell? ⟨nb,no+k*7+4,none⟩=some (.int .i64 jb.nodes[k].x.n)/\w2.cell? ⟨nb,no+k*7+5,none⟩=some (.slice a2 l2 c2)/\w2.cell? ⟨nb,no+k*7+6,none⟩=some (.int .i64 jb.nodes[k].n)):=⟨n0,n1,n2,n3,n4,n5,n6⟩;clear hL8 hnb n0 n2 n3 n4 n5 n6 hin hbf;generalize jb.nodes[k]=nd at*;rcases hst:statefulB nd.kind with _|_
      ·have HEE:Hd (E=180):=hpk.1 hst;have HSF:=Lh hst;clear hpk hst
       go_wp2_with (first
        |(go_at_call 73;refine(stateful_c _ _).mono ?_;rintro e w9 ⟨rfl,rfl⟩;rw[HSF.o])
        |fail)
       go_ret2;exact⟨⟨_,by rw[HEE.o];rfl⟩,HL8.o.below⟩
      ·have hpk2:=hpk.2 hst;have HSF:=Lh hst;clear hpk hst;by_cases hte:(takeTb s.bytes).2=0
       ·have HTE:=Lh hte;have hpk3:=hpk2.2 hte;clear hpk2 hte
        go_upto_region 15 with (first
         |(go_at_call 73;refine(stateful_c _ _).mono ?_;rintro e w9 ⟨rfl,rfl⟩;rw[HSF.o])
         |(go_at_call 74;refine(tTake_ok s.bytes HSJ.o HTE.o _).mono ?_;rintro e w3 ⟨T,B,ps,rfl,hps,htab,hb3⟩)
         |fail)
        have hL9:=HL8.o.more hb3;obtain⟨n0,n1,n2,n3,n4,n5,n6⟩:=HIN.o;have hnb2:nb<w2.heap.size:=lt1 HNB.o HL8.o.below.size;have g:=fun x=>hb3.cell (p:=⟨nb,x,none⟩) hnb2;have z0:=(g _).trans n0;have z1:=(g _).trans n1;have z2:=(g _).trans n2;have z3:=(g _).trans n3;have z4:=(g _).trans n4;have z5:=(g _).trans n5;have z6:=(g _).trans n6;have x0:=hL9.job.cell 0;have x1:=hL9.job.cell 1;have HL9:=Lh hL9;have HFT:=Lh (fits_tab s.bytes nd.uid nd.kind nd.x.op nd.x.n nd.n a1 a2 l1 c1 l2 c2 T B ps w3 htab hps);clear n0 n1 n2 n3 n4 n5 n6 g hL9 q0 q1 y0 y1 i2 j0 j1 htab hps;rcases hfb:fitsB nd.kind nd.n (takeTb s.bytes).1 with _|_
        ·have HEE:Hd (E=181):=hpk3.1 hfb;have HFB:=Lh hfb;clear hpk3 hfb
         go_wp2_with (first
          |(go_at_call 75;refine HFT.o.mono ?_;rintro e w4 ⟨rfl,hb4⟩;rw[HFB.o])
          |fail)
         go_ret2;exact⟨⟨_,by rw[HEE.o];rfl⟩,(HL9.o.more hb4).below⟩
        ·have HNX:=Lh (hpk3.2 hfb);have HFB:=Lh hfb;clear hpk3 hfb
         go_upto_region 17 with (first
          |(go_at_call 75;refine HFT.o.mono ?_;rintro e w4 ⟨rfl,hb4⟩;rw[HFB.o])
          |fail)
         have hL10:=HL9.o.more hb4;have i2:=hL10.idl.cell 2;obtain⟨w5,hrun5,hm5,hf5,hs5⟩:=ins_tab hL10.map HOG.o (px T);have HF5:=Lh hf5;have HM5:=Lh hm5;have HL10:=Lh hL10;clear hL10 z0 z1 z2 z3 z4 z5 z6 x0 x1 hf5 hm5 hs5 hk8
         go_wp2_with fail
         go_roundw
         case rel=>exact⟨j+1,_,by go_num,HJL.o,HL10.o.put HF5.o HM5.o,fun p hp=>by
          rcases List.mem_append.1 hp with hp|hp
          ·exact HKV.o p hp
          ·rw[List.mem_singleton.1 hp];exact Int.natCast_nonneg k,by rw[<-HNX.o];unfold tkOf;rw[List.map_append];rfl⟩
         case measure=>have:=HJL.o;simp[intOf];omega
       ·have HEE:Hd (E=(takeTb s.bytes).2):=hpk2.1 hte;have d5:((takeTb s.bytes).2 !=0)=true:=by simpa using hte
        have HTE:=Lh hte;clear hpk2 hte
        go_wp2_with (first
         |(go_at_call 73;refine(stateful_c _ _).mono ?_;rintro e w9 ⟨rfl,rfl⟩;rw[HSF.o])
         |(go_at_call 74;refine(tTake_err s.bytes HSJ.o HTE.o _).mono ?_;rintro e w3 ⟨rfl,hb3⟩)
         |fail)
        go_ret2;exact⟨⟨_,by rw[HEE.o];rfl⟩,(HL8.o.more hb3).below⟩
    ·have HOG:=Lh hog;have HEE:Hd (E=180):=(HST0.o r (some v0) rfl hog).1 rfl;clear hog HST0
     go_upto_region 9 with (first|(go_at_call 72;refine HF.o.mono ?_;rintro e w2 ⟨rfl,hbf⟩)|fail)
     have hL8:=HL7.o.more hbf;have i2:=hL8.idl.cell 2;have hk8:=look_some hL8.map HOG.o
     go_wp2_with fail
     go_ret2;exact⟨⟨_,by rw[HEE.o];rfl⟩,hL8.below⟩
   ·obtain rfl:j=l.length:=by omega
    have d0:decide ((l.length:Int)<(l.length:Int))=false:=df0 (by omega);have HEE:Hd (E=0):=by
     show _=_;rw[<-hgo,List.drop_length];rfl
    have j0:=hL.job.cell 0;have j1:=hL.job.cell 1;have HL:=Lh hL;clear hL hkv hgo
    go_upto_region 20 with fail
    go_loopw [94] (fun q wx=> ∃(k:Nat) (kv2:List (Int×Value)),q= .int .i64 (k:Int)/\k<=jb.nodes.length/\LdAt w jb.par a jb.nodes.length cap w.heap.size MB ID kv2 wx) (fun q _=>jb.nodes.length-(intOf q).toNat)
    case atStart=>exact⟨0,kv,rfl,ze0,HL.o⟩
    case round=>
     clear j0 j1;obtain⟨k,kv2,rfl,hk,hL2⟩:=hrel;by_cases hkl:k<jb.nodes.length
     ·have d1:decide ((k:Int)<(jb.nodes.length:Int))=true:=dt0 (by omega);obtain⟨nb,no,nc,e1,hnb,hu,iv,xv,n0,n1,n2,n3,n4,n5,n6,hin⟩:=(HND.o.keep hL2.below).at_ k hkl;obtain⟨a1,l1,c1,a2,l2,c2,rfl,rfl⟩:=ndIn_form hin;simp only[vs0]at e1;obtain⟨rfl,_,rfl⟩:=e1;have HKL:=Lh hkl;generalize jb.nodes[k]=nd at*;have hL3:=hL2.more (br0.alloc le0 (.cells #[.string nd.uid,.int .u8 nd.kind,.slice a1 l1 c1,.int .u8 nd.x.op,.int .i64 nd.x.n,.slice a2 l2 c2,.int .i64 nd.n] 135));have hN:Blk (wr.alloc (.cells #[.string nd.uid,.int .u8 nd.kind,.slice a1 l1 c1,.int .u8 nd.x.op,.int .i64 nd.x.n,.slice a2 l2 c2,.int .i64 nd.n] 135)) wr.heap.size 135 #[.string nd.uid,.int .u8 nd.kind,.slice a1 l1 c1,.int .u8 nd.x.op,.int .i64 nd.x.n,.slice a2 l2 c2,.int .i64 nd.n]:=Blk.new wr _ _;have HL3:=Lh hL3;have HN:=Lh hN;clear hL2 hL3 hN hin
      go_upto_region 22 with fail
      generalize (wr.alloc (.cells #[.string nd.uid,.int .u8 nd.kind,.slice a1 l1 c1,.int .u8 nd.x.op,.int .i64 nd.x.n,.slice a2 l2 c2,.int .i64 nd.n] 135))=W at*;have i2:=HL3.o.idl.cell 2;have x1:=HN.o.cell 1;clear n0 n1 n2 n3 n4 n5 n6;rcases hog:getI (k:Int) kv2 with _|v0
      ·have hk8:=look_none HL3.o.map hog;have HOG:=Lh hog;clear hog;rcases hst:statefulB nd.kind with _|_
       ·have HSF:=Lh hst;clear hst
        go_wp2_with (first|(go_at_call 73;refine(stateful_c _ _).mono ?_;rintro e w9 ⟨rfl,rfl⟩;rw[HSF.o])|fail)
        go_roundw
        case rel=>exact⟨k+1,kv2,by go_num,HKL.o,HL3.o⟩
        case measure=>have:=HKL.o;simp[intOf];omega
       ·have HSF:=Lh hst;clear hst
        go_upto_region 24 with (first|(go_at_call 73;refine(stateful_c _ _).mono ?_;rintro e w9 ⟨rfl,rfl⟩;rw[HSF.o])|fail)
        have i3:=(HL3.o.more br0.drew).idl.cell 2;clear i2 x1 hk8
        go_region_with (first|(go_at_call 76;refine(New_b _).mono ?_;rintro e w9 ⟨T,rfl,hb9⟩;have hL9:=(HL3.o.more br0.drew).more hb9;have i4:=hL9.idl.cell 2;obtain⟨w5,hrun5,hm5,hf5,hs5⟩:=ins_tab hL9.map HOG.o (px T);have HL9:=Lh hL9;have HM5:=Lh hm5;have HF5:=Lh hf5;clear hL9 hm5 hf5 hs5 hb9))
        all_goals
         go_wp2_with fail
         go_roundw
         case rel=>exact⟨k+1,_,by go_num,HKL.o,HL9.o.put HF5.o HM5.o⟩
         case measure=>have:=HKL.o;simp[intOf];omega
      ·have hk8:=look_some HL3.o.map hog;clear hog
       go_wp2_with fail
       go_roundw
       case rel=>exact⟨k+1,kv2,by go_num,HKL.o,HL3.o⟩
       case measure=>have:=HKL.o;simp[intOf];omega
     ·obtain rfl:k=jb.nodes.length:=by omega
      have d1:decide ((jb.nodes.length:Int)<(jb.nodes.length:Int))=false:=df0 (by omega)
      go_wp2_with fail
      go_ret2;exact⟨⟨_,by rw[HEE.o];rfl⟩,hL2.below⟩
 ·have hm0:(jb.may.2 !=0)=true:=by simpa using hm
  have HE2:Hd (E=2):=by show _=_;rw[HE.o,if_pos hm]
  clear hm HE;go_enter func29,ntmps29
  go_wp2_with (first|(go_at_call 71;refine HM.o.mono ?_;rintro e w1 ⟨rfl,hbm⟩)|fail)
  go_ret2;exact⟨⟨_,by rw[HE2.o];rfl⟩,HB1.o.trans (hbm.mono HB1.o.size)⟩
theorem PutText_big (u:ByteArray) (hu:65536<u.size) (w:World):Calls prog 77 #[.string u] w fun e w'=>e= .returned (.tuple #[.string .empty,.int .i64 3])/\w=w':=by
 have hg:decide ((65536:Int)<(u.size:Int))=true:=dt0 (by omega);have hg2:decide (65536<u.size)=true:=dt0 hu;have hg3:(65536:Int)<(u.size:Int):=by omega
 go_enter func77,ntmps77
 go_wp2_with fail
 go_ret2;exact⟨rfl,rfl⟩
theorem FPut_big (k:Nat) (h0:0<k) (h1:k<256) (u:ByteArray) (hu:65536<u.size) (w:World):Calls prog 32 #[.int .u8 (k:Int),.string u] w fun e w'=>e= .returned (.tuple #[.string .empty,.int .i64 3])/\w=w':=by
 have hk0:((k:Int)==0)=false:=by rw[bq0];omega
 have HT:=Lh (PutText_big u hu w);go_enter func32,ntmps32
 go_wp2_with (first|(go_at_call 77;refine HT.o.mono ?_;rintro e w1 ⟨rfl,rfl⟩)|fail)
 go_ret2;exact⟨rfl,rfl⟩
def txts (l:List ByteArray):List UInt8:=l.flatMap txtL
theorem txts_len: ∀(l:List ByteArray),(∀u∈l,u.size<=65536)->(txts l).length<=65546*l.length
 | [],_=>le0
 |u::l,h=>by
  have h1:=txts_len l (fun v hv=>h v (by simp[hv]))
  have h2:=(txtL_len u (h u (by simp))).1
  have:=h u (by simp)
  unfold txts at*
  rw[List.flatMap_cons,la0,List.length_cons]
  omega
theorem texts_c (us:List ByteArray) (m:Nat) (hm:us.length=m) (h2:m<=2) (hu: ∀u∈us,u.size<=65536) (b:Nat) (w:World) (hb:b<w.heap.size) (hc: ∀j (h:j<us.length),w.cell? ⟨b,j,none⟩=some (.string us[j])):
  CB prog 31 #[.slice (some ⟨b,0,none⟩) m m] w (.tuple #[.string (bstr (txts us)),.int .i64 0]):=by
 have HC:=Lh hc;have HU:=Lh hu;have HM:Hd (us.length=m):=hm;have HBA:Hd (∀l m,bstr l++bstr m=bstr (l++m)):=bstr_app;have HSZ:Hd (∀l,(bstr l).size=l.length):=bstr_size;clear hc hu hm;go_enter func31,ntmps31
 go_upto_region 3 with fail
 go_loopw [4,11] (fun s q wr=> ∃(j:Nat) (acc:List UInt8),s= .string (bstr acc)/\q= .int .i64 (j:Int)/\j<=m/\acc.length<=65546*j/\acc++txts (us.drop j)=txts us/\Below w.heap.size w wr) (fun _ q _=>m-(intOf q).toNat)
 case atStart=>exact⟨0,[],rfl,rfl,ze0,le0,rfl,Below.refl _ _⟩
 case round=>
  obtain⟨j,acc,rfl,rfl,hj,hal,hacc,hbr⟩:=hrel;by_cases hjl:j<m
  ·have d0:decide ((j:Int)<(m:Int))=true:=dt0 (by omega);have hju:j<us.length:=by have:=HM.o;omega
   have k0:=(hbr.cell (p:=⟨b,j,none⟩) hb).trans (HC.o j hju);have hus:=HU.o _ (List.getElem_mem hju);rw[List.drop_eq_getElem_cons hju]at hacc;generalize us[j]=u at*;have HT:Hd (CB prog 77 #[.string u] wr (.tuple #[.string (bstr (txtL u)),.int .i64 0])):=PutText_c u hus wr;have hlen:=(txtL_len u hus).1;have hacc2:(acc++txtL u)++txts (us.drop (j+1))=txts us:=by rw[<-hacc];unfold txts;rw[List.flatMap_cons,List.append_assoc]
   have HACC:=Lh hacc2;have HBR:=Lh hbr;clear hacc hacc2 hbr;generalize txtL u=T at*;have happ:bstr acc++bstr T=bstr (acc++T):=HBA.o _ _;have hsz1:(bstr acc).size<=200000:=by rw[HSZ.o];omega
   have hsz2:(bstr T).size<=200000:=by rw[HSZ.o];omega
   have HAL:Hd ((acc++T).length<=65546*(j+1)):=by show _<=_;rw[la0];omega
   clear hal hlen hus
   go_wp2_with (first|(go_at_call 77;refine HT.o.mono ?_;rintro e w1 ⟨rfl,hb1⟩)|fail)
   go_roundw
   case rel=>exact⟨j+1,acc++T,rfl,by go_num,hjl,HAL.o,HACC.o,HBR.o.trans (hb1.mono HBR.o.size)⟩
   case measure=>simp[intOf];omega
  ·obtain rfl:j=m:=by omega
   have d0:decide ((j:Int)<(j:Int))=false:=df0 (by omega);have e:acc=txts us:=by
    rw[<-hacc,<-HM.o,List.drop_length];exact(List.append_nil _).symm
   subst e
   go_wp2_with fail
   go_ret2;exact⟨rfl,hbr⟩
theorem put1_ok (k:Nat) (h0:0<k) (h1:k<256) (ah:List UInt8) (us:List ByteArray) (m:Nat) (hm:us.length=m) (h2:m<=2) (hu: ∀u∈us,u.size<=65536) (b bb:Nat) (cur:ByteArray) (w:World) (hb:b<w.heap.size) (hc: ∀j (h:j<us.length),w.cell? ⟨b,j,none⟩=some (.string us[j]))
  (hB:Blk w bb 9 #[.string cur]) (hcur:cur.size<=10000000000000) (hT:(ah++txts us).length<=65536):
  Calls prog 30 #[.int .u8 (k:Int),.string (bstr ah),.slice (some ⟨b,0,none⟩) m m,.pointer (some ⟨bb,0,none⟩)] w fun e w'=>e= .returned (.int .i64 0)/\Blk w' bb 9 #[.string (cur++bstr (frL k (bstr (ah++txts us))))]/\Fr (fun i=>i=bb) w w':=by
 have HX:=Lh (texts_c us m hm h2 hu b w hb hc);have HF:Hd (∀W:World,Calls prog 32 #[.int .u8 (k:Int),.string (bstr (ah++txts us))] W fun e w'=>e= .returned (.tuple #[.string (bstr (frL k (bstr (ah++txts us)))),.int .i64 0])/\Below W.heap.size W w'):=fun W=>FPut_c k h0 h1 _ (by rw[bstr_size];exact hT) W;have happ:bstr ah++bstr (txts us)=bstr (ah++txts us):=bstr_app _ _;have hs1:(bstr ah).size<=70000:=by rw[bstr_size];rw[la0]at hT;omega
 have hs2:(bstr (txts us)).size<=70000:=by rw[bstr_size];rw[la0]at hT;omega
 have hs3:(bstr (frL k (bstr (ah++txts us)))).size<=70000:=by
  have:=(txtL_len (bstr (ah++txts us)) (by rw[bstr_size];exact hT)).1;rw[bstr_size]at this⊢;rw[frL_len];omega
 have HB:=Lh hB;have HLT:=hB.lt;clear hT hu hc hm hB;generalize bstr (frL k (bstr (ah++txts us)))=f at*;generalize bstr (ah++txts us)=tt at*;generalize bstr ah=a at*;generalize bstr (txts us)=t at*;go_enter func30,ntmps30
 go_upto_region 5 with (first
  |(go_at_call 31;refine HX.o.mono ?_;rintro e w1 ⟨rfl,hb1⟩)
  |(go_at_call 32;refine(HF.o _).mono ?_;rintro e w2 ⟨rfl,hb2⟩)
  |fail)
 have hb3:=hb1.trans (hb2.mono hb1.size);have hB2:=HB.o.below hb3 HLT;have x0:=hB2.cell 0;have y0:=hB2.free 0;have HB2:=Lh hB2;have HFR:Hd (Fr (fun i=>i=bb) w w2):=Fr.of_new hb3;clear hb1 hb2 hb3 hB2
 go_wp2_with fail
 go_ret;exact⟨rfl,HB2.o.set 0 _,HFR.o.setCell (p:=⟨bb,0,none⟩) (.inl rfl) _⟩
theorem put1_big (k:Nat) (h0:0<k) (h1:k<256) (ah:List UInt8) (hah:ah.length<=70000) (us:List ByteArray) (m:Nat) (hm:us.length=m) (h2:m<=2) (hu: ∀u∈us,u.size<=65536) (b bb:Nat) (cur:ByteArray) (w:World) (hb:b<w.heap.size) (hc: ∀j (h:j<us.length),w.cell? ⟨b,j,none⟩=some (.string us[j]))
  (hB:Blk w bb 9 #[.string cur]) (hcur:cur.size<=10000000000000) (hT:65536<(ah++txts us).length):
  Calls prog 30 #[.int .u8 (k:Int),.string (bstr ah),.slice (some ⟨b,0,none⟩) m m,.pointer (some ⟨bb,0,none⟩)] w fun e w'=>e= .returned (.int .i64 3)/\Blk w' bb 9 #[.string cur]/\Fr (fun i=>i=bb) w w':=by
 have HX:=Lh (texts_c us m hm h2 hu b w hb hc);have HF:Hd (∀W:World,Calls prog 32 #[.int .u8 (k:Int),.string (bstr (ah++txts us))] W fun e w'=>e= .returned (.tuple #[.string .empty,.int .i64 3])/\W=w'):=fun W=>FPut_big k h0 h1 _ (by rw[bstr_size];exact hT) W;have happ:bstr ah++bstr (txts us)=bstr (ah++txts us):=bstr_app _ _;have htl:=txts_len us hu;have hs1:(bstr ah).size<=70000:=by rw[bstr_size];exact hah
 have hs2:(bstr (txts us)).size<=140000:=by rw[bstr_size];omega
 have hce:cur++ByteArray.empty=cur:=by apply ByteArray.ext;rw[ByteArray.data_append];simp
 have HB:=Lh hB;have HLT:=hB.lt;clear hT hu hc hm hB htl;generalize bstr (ah++txts us)=tt at*;generalize bstr ah=a at*;generalize bstr (txts us)=t at*;go_enter func30,ntmps30
 go_upto_region 5 with (first
  |(go_at_call 31;refine HX.o.mono ?_;rintro e w1 ⟨rfl,hb1⟩)
  |(go_at_call 32;refine(HF.o _).mono ?_;rintro e w2 ⟨rfl,rfl⟩)
  |fail)
 have hB2:=HB.o.below hb1 HLT;have x0:=hB2.cell 0;have y0:=hB2.free 0;have HB2:=Lh hB2;have HFR:Hd (Fr (fun i=>i=bb) w w1):=Fr.of_new hb1;clear hb1 hB2
 go_wp2_with fail
 go_ret;exact⟨rfl,HB2.o.set 0 _,HFR.o.setCell (p:=⟨bb,0,none⟩) (.inl rfl) _⟩
