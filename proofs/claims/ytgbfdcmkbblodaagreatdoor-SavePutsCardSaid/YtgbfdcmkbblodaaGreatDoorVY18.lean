/- Parts. -/
import Derived.Deep.RegionHeld3
import Derived.Test.YtgbfdcmkbblodaaGreatDoorVW3
import Derived.Test.YtgbfdcmkbblodaaGreatDoorVY16
import Derived.Test.YtgbfdcmkbblodaaGreatDoorVY17
namespace Go.Proofs.YtgbfdcmkbblodaaGreatDoor
open Go.RowKit
set_option linter.unusedVariables false
set_option linter.unusedSimpArgs false
set_option maxRecDepth 100000
set_option maxHeartbeats 16000000
open Tryz
mutual
theorem Ex.by_count: ∀(x:Ex) (left:Nat),x.ok->left<=1001->1<=x.count left->x.by.length<=30*(left-x.count left)/\1<=left-x.count left
 | .mk o n l,left,hok,hl,h=>by
  simp only[Ex.count]at h⊢
  by_cases h0:0<left
  ·rw[if_pos h0]at h⊢
   obtain⟨h1,h2⟩:=Exs.by_count l (left-1) hok.2.2.2.2 (by omega) h
   have h3:=Exs.count_le l (left-1)
   have h4:(putL [o,n,(l.length:Int)]).length<=30:=by
    refine putL_len [o,n,(l.length:Int)] ?_
    intro z hz
    simp only[List.mem_cons,List.not_mem_nil,or_false]at hz
    have:=hok.1;have:=hok.2.1;have:=hok.2.2.1;have:=hok.2.2.2.1
    rcases hz with rfl|rfl|rfl<;>omega
   simp only[Ex.by,la0]
   omega
  ·rw[if_neg h0]at h
   omega
theorem Exs.by_count: ∀(l:List Ex) (left:Nat),Exs.ok l->left<=1001->1<=Exs.count l left->(Exs.by l).length<=30*(left-Exs.count l left)/\l.length<=left-Exs.count l left
 | [],left,_,_,h=>by simp[Exs.by,Exs.count]
 |x::l,left,hok,hl,h=>by
  simp only[Exs.count]at h⊢
  have h3:=Exs.count_le l (x.count left)
  have h4:=Ex.count_le x left
  obtain⟨h1,h2⟩:=Ex.by_count x left hok.1 hl (by omega)
  obtain⟨h5,h6⟩:=Exs.by_count l (x.count left) hok.2 (by omega) h
  simp only[Exs.by,la0,List.length_cons]
  omega
end
theorem nodes_by_count: ∀(l:List Nd) (left:Nat),(∀d∈l,d.x.ok)->left<=1001->1<=countGo l left-> ∀d∈l,d.x.by.length<=30030
 |d::l,left,hok,hl,h,e,he=>by
  simp only[countGo]at h
  have h3:=countGo_le l (d.x.count left)
  have h4:=Ex.count_le d.x left
  rcases List.mem_cons.1 he with rfl|he
  ·have:=(Ex.by_count e.x left (hok e (by simp)) hl (by omega)).1
   omega
  ·exact nodes_by_count l _ (fun f hf=>hok f (by simp[hf])) (by omega) h e he
theorem decode_width4 (s:ByteArray) (i:Nat):(Utf8.decode s i).2<=4:=by
 rw[decode_eq]
 repeat' split
 all_goals simp
theorem runesAt_size (s:ByteArray): ∀n i,s.size-i=n->s.size-i<=4*(runesAt s i).length:=by
 intro n
 induction n using Nat.strongRecOn with
 |ind n ih=>
  intro i hi;by_cases h:i<s.size
  ·rw[runesAt_step s i h,List.length_cons];have hw:=Lib.decode_width_pos s i h;have h4:=decode_width4 s i;have:=ih (s.size-(i+(Utf8.decode s i).2)) (by omega) _ rfl;omega
  ·omega
theorem nameGo_len: ∀(rs:List Int) (n:Nat),nameGo n rs=true->n+rs.length<=24
 | [],n,h=>by
  simp only[nameGo]at h
  have:=of_decide_eq_true h
  simp
  omega
 |r::rs,n,h=>by
  simp only[nameGo]at h
  split at h
  ·simp at h
  ·have:=nameGo_len rs (n+1) h
   rw[List.length_cons]
   omega
theorem name_size {u:ByteArray} (h:nameB u=true):u.size<=96:=by
 have h1:=nameGo_len _ _ h;have h2:=runesAt_size u _ 0 rfl;unfold runes at h1;omega
structure NdSmall (d:Nd):Prop where
 uid:d.uid.size<=96
 ins:d.ins.length<=3
 x:d.x.by.length<=30030
theorem good_small {j:Jb} (hok:j.ok) (h:j.may.2=0):(∀d∈j.nodes,NdSmall d)/\j.nodes.length<=12/\1<=j.par/\j.par<=4:=by
 have g:=may_good j h;refine⟨fun d hd=>?_,g.n2,g.p1,g.p2⟩;obtain⟨i,hi,rfl⟩:=List.mem_iff_getElem.1 hd;have hn:=g.node i hi;have hin:=nodeB_in _ _ hn;have hp:=g.pa;have hx:=nodes_by_count j.nodes 1001 (fun e he=>(hok.2.2 e he).2.2.2.1) le0 (by unfold Jb.parts at hp;omega) _ hd;refine⟨name_size ?_,hin.1,hx⟩;unfold nodeB at hn;simp only[Bool.and_eq_true]at hn;exact hn.1
theorem Nd.by_len {d:Nd} (h:NdSmall d) (hok:d.ok):d.by.length<=40000:=by
 obtain⟨k1,k2,k3,k4,k5,k6⟩:=hok;have h1:=h.uid;have h2:=h.ins;have h3:=h.x;have h4:(putL [d.kind,d.n,(d.ins.length:Int)]).length<=30:=by
  refine putL_len [d.kind,d.n,(d.ins.length:Int)] ?_;intro z hz;simp only[List.mem_cons,List.not_mem_nil,or_false]at hz;rcases hz with rfl|rfl|rfl<;>omega
 have h5:=putL_len d.ins k3;have h6:=putN_len (d.uid.size:Int) (by omega) (by omega);have h7:=Lib.size_eq d.uid;unfold Nd.by txtL
 simp only[la0];omega
def PutExC (h:Nat):Prop:= ∀(x:Ex) (v:Value) (B:Nat) (w:World),x.ht<=h->x.ok->x.by.length<=1000000->ExAt w B v x->B<=w.heap.size->
 CB prog 80 #[v] w (.string (bstr x.by))
theorem putEx_step (h:Nat) (IH:Hd (∀x:Ex,x.ht<h-> ∀(v:Value) (B:Nat) (w:World),x.ok->x.by.length<=1000000->ExAt w B v x->B<=w.heap.size->
   CB prog 80 #[v] w (.string (bstr x.by)))):PutExC h:=by
 intro x v B w hh hok hby hv hB;have HLT:Hd (∀a∈x.args,a.ht<h):=fun a ha=>by have:=Ex.ht_args x a ha;omega
 obtain⟨hop1,hop2,hn1,hn2,hoa⟩:=Ex.okC hok;have HOK:=Lh (Exs.okC x.args hoa);clear hoa;have hbe:=Ex.by_eq x;obtain⟨sv,rfl,hs⟩:=hv;obtain⟨a,cap,rfl,hcap,hmx⟩:=hs.slice;have HS:=Lh hs;have hll:x.args.length<=9223372036854775807:=by unfold maxLen at hmx;omega
 rw[hbe]at hby⊢;generalize x.op=o at*;generalize x.n=n at*;generalize x.args=l at*;clear hs hh hok hbe;have hrng: ∀z∈ [o,n,(l.length:Int)],-9223372036854775808<=z/\z<=9223372036854775807:=by
  intro z hz;simp only[List.mem_cons,List.not_mem_nil,or_false]at hz;rcases hz with rfl|rfl|rfl<;>omega
 have HRG:=Lh hrng;rw[la0]at hby;generalize hP:putL [o,n,(l.length:Int)]=P at*;have HP:=Lh hP;clear hP hrng;have HTL:Hd (∀k,(Exs.by (l.take k)).length<=(Exs.by l).length):=Exs.by_take_le l;have hW:=(Below.refl w.heap.size w).alloc le0 (.cells #[.int .u8 o,.int .i64 n,.slice a l.length cap] 133);have hbx:=Blk.new w #[.int .u8 o,.int .i64 n,.slice a l.length cap] 133;go_enter func80,ntmps80
 go_upto_region 1 with fail
 generalize World.alloc w _=W at*;obtain⟨p0,p1,p2⟩:=hbx.q3
 go_wp2_with fail
 have hsl:Sl (W.alloc (.cells #[.int .i64 o,.int .i64 n,.int .i64 (l.length:Int)] 2)) (W.alloc (.cells #[.int .i64 o,.int .i64 n,.int .i64 (l.length:Int)] 2)).heap.size 1 (.slice (some ⟨W.heap.size,0,none⟩) 3 3) 3 ([o,n,(l.length:Int)].map (Value.int .i64)):=
  ⟨rfl,_,3,rfl,le0,by unfold maxLen;omega,.inr ⟨W.heap.size,0,rfl,by simp,fun j hj=>by rw[Nat.zero_add,(Blk.new W _ _).cell];simp⟩⟩
 refine(PutB_c [o,n,(l.length:Int)] 3 _ _ _ hsl rfl le0 HRG.o (by omega)).mono ?_;rw[HP.o];rintro e w1 ⟨rfl,hb1⟩;have hq1:Below W.heap.size W w1:=((Below.refl W.heap.size W).alloc le0 _).trans (hb1.mono (by simp));have hW1:=hW.trans (hq1.mono hW.size);have hbx1:=hbx.below hq1 hbx.lt;clear p0 p1 p2 hsl hb1 hq1 hW hbx;obtain⟨p0,p1,p2⟩:=hbx1.q3;have hzw:=hbx1.lt;have hPe:(⟨P.toArray⟩:ByteArray)=bstr (P++Exs.by (l.take 0)):=by simp[bstr,Exs.by]
 rw[hPe]
 go_wp2_with fail
 clear p0 p1 p2 hPe
 go_loopw [3,19] (fun s q wr=> ∃k:Nat,q= .int .i64 k/\k<=l.length/\s= .string (bstr (P++Exs.by (l.take k)))/\Below w1.heap.size w1 wr) (fun _ q _=>l.length-(intOf q).toNat)
 case atStart=>exact⟨0,rfl,ze0,rfl,Below.refl _ _⟩
 case round=>
  obtain⟨k,rfl,hk,rfl,hBr0⟩:=hrel;have hBr:=hW1.trans (hBr0.mono hW1.size);by_cases hlt:k<l.length
  ·obtain⟨b,off,cp,sv,e1,hb,c0,c1,c2,hsub⟩:=((HS.o.mono hB).keep hBr).at_ k hlt;simp only[vs0,true_and]at e1;obtain⟨rfl,rfl⟩:=e1;obtain⟨a2,cap2,rfl,_,_⟩:=hsub.slice;have hht:=HLT.o _ (List.getElem_mem hlt);have hoky:=HOK.o k hlt;have HTK:=Lh (Exs.by_take l k hlt);have hb1:=HTL.o k;have hb2:=HTL.o (k+1);rw[HTK.o,la0]at hb2;generalize l[k]=y at*;generalize Exs.by (l.take k)=T0 at*
   have hAl:=hBr.alloc hBr.size (.cells #[.int .u8 y.op,.int .i64 y.n,.slice a2 y.args.length cap2] 133);have HX:Hd (ExAt (wr.alloc (.cells #[.int .u8 y.op,.int .i64 y.n,.slice a2 y.args.length cap2] 133)) w.heap.size (.agg #[.int .u8 y.op,.int .i64 y.n,.slice a2 y.args.length cap2]) y):=
    ⟨_,rfl,hsub.keep ((Below.refl _ wr).alloc hBr.size _)⟩
   clear hsub;have HCY:=Lh (IH.o y hht _ _ _ hoky (by omega) HX.o hAl.size);have hs1:=bstr_size (P++T0);have hs2:=bstr_size y.by
   rw[la0]at hs1;have HBA:=Lh (bstr_app (P++T0) y.by);generalize hyb:y.by=yb at*
   clear hyb;generalize bstr (P++T0)=S0 at*;generalize hyv:bstr yb=Sy at*
   go_wp2_with fail
   refine HCY.o.mono ?_;rintro e w3 ⟨rfl,hb3⟩
   go_wp2_with fail
   go_roundw
   case rel=>
    refine⟨k+1,by go_num,by omega,?_,((hBr0.alloc hBr0.size _).trans (hb3.mono (hBr0.alloc hBr0.size _).size))⟩;rw[HTK.o,<-List.append_assoc,HBA.o]
   case measure=>simp[intOf];omega
  ·obtain rfl:k=l.length:=by omega
   rw[List.take_of_length_le le0]
   go_wp2_with fail
   go_ret;exact⟨rfl,hBr⟩
theorem putEx_all (h:Nat):PutExC h:=by
 induction h using Nat.strongRecOn with
 |ind h ih=>exact putEx_step h (fun x hx v B w hok hl hv hB=>ih x.ht hx x v B w le0 hok hl hv hB)
theorem putLit_c (zs:List Int) (m:Nat) (cs:Array Value) (hcs:cs.toList=zs.map (Value.int .i64)) (hm:zs.length=m) (hr: ∀z∈zs,-9223372036854775808<=z/\z<=9223372036854775807) (hl:m<=1000) (W:World):
  Calls prog 34 #[.slice (some ⟨W.heap.size,0,none⟩) m m] (W.alloc (.cells cs 2)) fun e w'=>e= .returned (.string (bstr (putL zs)))/\Below W.heap.size W w':=by
 have hsz:cs.size=m:=by rw[<-Array.length_toList,hcs,List.length_map,hm]
 have hsl:Sl (W.alloc (.cells cs 2)) (W.alloc (.cells cs 2)).heap.size 1 (.slice (some ⟨W.heap.size,0,none⟩) m m) m (zs.map (Value.int .i64)):=
  ⟨by rw[List.length_map,hm];omega,_,m,rfl,le0,by unfold maxLen;omega,.inr ⟨W.heap.size,0,rfl,by simp,fun j hj=>by
   rw[Nat.zero_add,(Blk.new W cs 2).cell j,<-hcs]
   simp⟩⟩
 refine(PutB_c zs m _ _ _ hsl hm le0 hr hl).mono ?_;rintro e w1 ⟨rfl,hb1⟩;exact⟨rfl,((Below.refl W.heap.size W).alloc le0 _).trans (hb1.mono (by simp))⟩
theorem ArgsAt.across {a b w:World} {B:Nat} {l:List Ex} {v:Value} (h:ArgsAt a B l v) (h1:Below B w a) (h2:Below B w b):ArgsAt b B l v:=by
 induction h with
 |nil a cap hm=>exact .nil a cap hm
 |cons l b off cap sv hl hb hcap hm q0 q1 q2 _ ih=>
  have e: ∀o,World.cell? _ ⟨b,o,none⟩=World.cell? _ ⟨b,o,none⟩:=fun o=>(h2.cell (p:=⟨b,o,none⟩) hb).trans (h1.cell (p:=⟨b,o,none⟩) hb).symm;exact .cons l b off cap sv hl hb hcap hm (fun j h=>(e _).trans (q0 j h)) (fun j h=>(e _).trans (q1 j h)) (fun j h=>(e _).trans (q2 j h)) ih
theorem nodesBy_take (l:List Nd) (k:Nat) (hk:k<l.length):nodesBy (l.take (k+1))=nodesBy (l.take k)++(l[k]'hk).by:=by
 unfold nodesBy;rw[List.take_succ_eq_append_getElem hk,List.flatMap_append,List.flatMap_cons,List.flatMap_nil,List.append_nil]
theorem nodesBy_len (l:List Nd) (h: ∀d∈l,NdSmall d) (hok: ∀d∈l,d.ok):(nodesBy l).length<=40000*l.length:=by
 induction l with
 |nil=>simp[nodesBy]
 |cons d l ih=>
  have h1:=ih (fun e he=>h e (by simp[he])) (fun e he=>hok e (by simp[he]));have h2:=Nd.by_len (h d (by simp)) (hok d (by simp));have e:nodesBy (d::l)=d.by++nodesBy l:=rfl
  rw[e,la0,List.length_cons];omega
def Jb.putR (j:Jb):List UInt8×Int:=if j.may.2=0 then(j.by,0)else([],2)
theorem PackPut_c (jb:Jb) (hok:jb.ok) (v:Value) (B:Nat) (w:World) (hv:JbAt w B v jb) (hB:B<=w.heap.size):
  CB prog 33 #[v] w (.tuple #[.string (bstr jb.putR.1),.int .i64 jb.putR.2]):=by
 have HV:=Lh hv;obtain⟨sv,rfl,hs⟩:=hv;obtain⟨a,cap,rfl,hcap,hmx⟩:=hs.slice;have HS:=Lh hs;have hK:=(KB.start w).push #[.int .i64 jb.par,.slice a jb.nodes.length cap] 24;have HMY:Hd (∀W,Below w.heap.size w W->CB prog 71 #[.agg #[.int .i64 jb.par,.slice a jb.nodes.length cap]] W (.tuple #[.int .i64 jb.may.1,.int .i64 jb.may.2])):=fun W h=>May_c1 jb _ B W (HV.o.keep (h.mono hB)) (le1 hB h.size);have HE:Hd (jb.putR=if jb.may.2=0 then(jb.by,0)else([],2)):=rfl;have HGS:=Lh (fun h=>good_small hok h);have HNO:=Lh hok.2.2;have HBE:Hd (jb.by=putL [jb.par,(jb.nodes.length:Int)]++nodesBy jb.nodes):=rfl;generalize jb.putR=R at*;generalize jb.may=m at*;obtain⟨m1,m2⟩:=m;dsimp only at HMY HE HGS;generalize jb.by=jby at*
 generalize jb.par=jp at*;generalize jb.nodes=nds at*;clear hs hcap hok;by_cases hm:m2=0
 ·obtain⟨hsm,hn12,hp1,hp2⟩:=HGS.o hm;have hm':(m2 !=0)=false:=by rw[hm];rfl
  have HR:Hd (R=(jby,0)):=by show _=_;rw[HE.o,if_pos hm]
  have HSM:=Lh hsm;have HPR:Hd (∀z∈ [jp,(nds.length:Int)],-9223372036854775808<=z/\z<=9223372036854775807):=by
   intro z hz;simp only[List.mem_cons,List.not_mem_nil,or_false]at hz;rcases hz with rfl|rfl<;>omega
  have HNL:Hd (∀k,k<=nds.length->(nodesBy (nds.take k)).length<=480000):=fun k hk=>by
   have:=nodesBy_len (nds.take k) (fun e he=>hsm e (List.mem_of_mem_take he)) (fun e he=>HNO.o e (List.mem_of_mem_take he));have h2:(nds.take k).length<=12:=by rw[List.length_take];omega
   omega
  have hpl:=putL_len [jp,(nds.length:Int)] HPR.o;generalize hP:putL [jp,(nds.length:Int)]=P at*;have HP:=Lh hP;clear hP;clear hsm HE HGS;go_enter func33,ntmps33
  go_upto_region 1 with fail
  generalize World.alloc w _=W at*;have p0:=hK.hd.cell 0;have p1:=hK.hd.cell 1
  go_wp2_with fail
  refine(HMY.o W hK.below).mono ?_;rintro e w1 ⟨rfl,hq⟩;replace hK:=hK.keep hq;clear p0 p1 hq;have p0:=hK.hd.cell 0;have p1:=hK.hd.cell 1
  go_wp2_with fail
  refine(putLit_c [jp,(nds.length:Int)] 2 _ rfl rfl HPR.o (by omega) _).mono ?_;rintro e w2 ⟨rfl,hq⟩;replace hK:=hK.keep hq;rw[HP.o];clear p0 p1 hq;have p0:=hK.hd.cell 0;have p1:=hK.hd.cell 1;have hPe:bstr P=bstr (P++nodesBy (nds.take 0)):=by simp[nodesBy]
  rw[hPe];clear hPe
  go_wp2_with fail
  have hb2:=hK.below;clear p0 p1 hK
  go_loopw [6,30] (fun s q wr=> ∃k:Nat,q= .int .i64 k/\k<=nds.length/\s= .string (bstr (P++nodesBy (nds.take k)))/\Below w.heap.size w wr) (fun _ q _=>nds.length-(intOf q).toNat)
  case atStart=>exact⟨0,rfl,ze0,rfl,hb2⟩
  case round=>
   obtain⟨k,rfl,hk,rfl,hBr⟩:=hrel;by_cases hlt:k<nds.length
   ·obtain⟨b,off,cp,e1,hb,hu,iv,sv,c0,c1,c2,c3,c4,c5,c6,hin⟩:=((HS.o.mono hB).keep hBr).at_ k hlt;simp only[vs0,true_and]at e1;obtain⟨rfl,rfl⟩:=e1;obtain⟨a2,cap2,rfl,_,_⟩:=hin.2.slice;obtain⟨_,ai,capi,rfl,_,hmi,hrest⟩:=id hin.1;clear hrest;have hd:=HSM.o _ (List.getElem_mem hlt);have hdok:=HNO.o _ (List.getElem_mem hlt);have HTK:=Lh (nodesBy_take nds k hlt);have hnl:=HNL.o k hk;have hnl2:=HNL.o (k+1) (by omega);rw[HTK.o,la0]at hnl2;generalize nds[k]=d at*;have HDB:Hd (d.by=txtL d.uid++putL [d.kind,d.n,(d.ins.length:Int)]++putL d.ins++d.x.by):=rfl;have hus:=hd.uid;have hii:=hd.ins;have hxl:=hd.x;obtain⟨k1,k2,k3,k4,k5,k6⟩:=hdok;have HIO:=Lh k3;have HXO:=Lh k4;have hpi:=putL_len d.ins k3;have HP3:Hd (∀z∈ [d.kind,d.n,(d.ins.length:Int)],-9223372036854775808<=z/\z<=9223372036854775807):=by
     intro z hz;simp only[List.mem_cons,List.not_mem_nil,or_false]at hz;rcases hz with rfl|rfl|rfl<;>omega
    have hp3:=putL_len [d.kind,d.n,(d.ins.length:Int)] HP3.o;have htx:(txtL d.uid).length<=200:=by
     have h6:=putN_len (d.uid.size:Int) (by omega) (by omega);have h7:=Lib.size_eq d.uid;unfold txtL;rw[la0];omega
    have HI1:=Lh hin.1;have HI2:=Lh hin.2;clear hin hd k3 k4;have HTT:Hd (∀W:World,CB prog 77 #[.string d.uid] W (.tuple #[.string (bstr (txtL d.uid)),.int .i64 0])):=fun W=>PutText_c d.uid (by omega) W;generalize nodesBy (nds.take k)=N0 at*;generalize hdx:d.x=x at*;generalize hdi:d.ins=ins at*;generalize hdn:d.n=dn at*;generalize hdk:d.kind=dk at*;generalize hdu:d.uid=u at*;generalize txtL u=tu at*;generalize d.by=dby at*
    clear hdx hdi hdn hdk hdu hu;have hil:ins.length<=9223372036854775807:=by omega
    have hK:=(⟨hBr,by simp⟩:KB w wr []).push #[.string u,.int .u8 dk,.slice ai ins.length capi,.int .u8 x.op,.int .i64 x.n,.slice a2 x.args.length cap2,.int .i64 dn] 135
    go_upto_region 8 with fail
    generalize hnb:wr.heap.size=nb at*;generalize hw7:wr.alloc (.cells #[.string u,.int .u8 dk,.slice ai ins.length capi,.int .u8 x.op,.int .i64 x.n,.slice a2 x.args.length cap2,.int .i64 dn] 135)=W7 at*;clear c0 c1 c2 c3 c4 c5 c6;obtain⟨p0,p1,p2,p3,p4,p5,p6⟩:=hK.hd.q7
    go_wp2_with fail
    refine(HTT.o _).mono ?_;rintro e w3 ⟨rfl,hq⟩;replace hK:=hK.keep hq;clear hq p0 p1 p2 p3 p4 p5 p6;have hs0:=bstr_size (P++N0);rw[la0]at hs0;have hst:=bstr_size tu;have hs3:=bstr_size (putL [dk,dn,(ins.length:Int)]);have HC3:=Lh (putLit_c [dk,dn,(ins.length:Int)] 3 #[.int .i64 dk,.int .i64 dn,.int .i64 (ins.length:Int)] rfl rfl HP3.o (by omega));have HA1:Hd (bstr (P++N0)++(bstr tu++bstr (putL [dk,dn,(ins.length:Int)]))=bstr ((P++N0)++(tu++putL [dk,dn,(ins.length:Int)])++putL (ins.take 0))):=by
     show _=_;rw[bstr_app,bstr_app];simp[putL]
    have hl3:[dk,dn,(ins.length:Int)].length=3:=rfl;rw[hl3]at hp3;have hl2:[jp,(nds.length:Int)].length=2:=rfl;have hpl2:P.length<=20:=by rw[hl2]at hpl;omega
    generalize putL [dk,dn,(ins.length:Int)]=q3 at*;generalize hX0:(P++N0)++(tu++q3)=X0 at*;have HX0:=Lh hX0;have hX0l:X0.length<=480000+20+200+30:=by rw[<-hX0,la0,la0,la0];omega
    clear hX0;generalize bstr (P++N0)=S0 at*;generalize bstr tu=ST at*;generalize bstr q3=S3 at*;obtain⟨p0,p1,p2,p3,p4,p5,p6⟩:=hK.hd.q7
    go_wp2_with fail
    refine(HC3.o _).mono ?_;rintro e w4 ⟨rfl,hq⟩;replace hK:=hK.keep hq;clear hq p0 p1 p2 p3 p4 p5 p6;obtain⟨p0,p1,p2,p3,p4,p5,p6⟩:=hK.hd.q7
    go_upto_region 10 with fail
    rw[HA1.o]
    go_wp2_with fail
    clear p0 p1 p2 p3 p4 p5 p6
    go_loopw [6,57] (fun s q wx=> ∃j:Nat,q= .int .i64 j/\j<=ins.length/\s= .string (bstr (X0++putL (ins.take j)))/\KB w wx [(nb,135,#[.string u,.int .u8 dk,.slice ai ins.length capi,.int .u8 x.op,.int .i64 x.n,.slice a2 x.args.length cap2,.int .i64 dn])]) (fun _ q _=>ins.length-(intOf q).toNat)
    case atStart=>exact⟨0,rfl,ze0,rfl,hK⟩
    case round=>
     obtain⟨j,rfl,hj,rfl,hKx⟩:=hrel;by_cases hjl:j<ins.length
     ·obtain⟨bi,oi,ci,e2,hbi,hjl',d0⟩:=(HI1.o.across hBr hKx.below).int j hjl;simp only[vs0,true_and]at e2;obtain⟨rfl,rfl⟩:=e2;have HTI:=Lh (putL_take ins j hjl');have hzr:=HIO.o _ (List.getElem_mem hjl');have hbj:(putL (ins.take j)).length<=30:=by
       have:=putL_len (ins.take j) (fun y hy=>HIO.o y (List.mem_of_mem_take hy));have h2:(ins.take j).length<=3:=by rw[List.length_take];omega
       omega
      generalize ins[j]=z at*;have HCZ:=Lh (putLit_c [z] 1 #[.int .i64 z] rfl rfl (by intro y hy;simp at hy;subst hy;exact hzr) (by omega));have hz1:(putL [z]).length<=10:=putL_len [z] (by intro y hy;simp at hy;subst hy;exact hzr);have hse:=bstr_size (X0++putL (ins.take j));rw[la0]at hse;have hsz:=bstr_size (putL [z]);have HAZ:Hd (bstr (X0++putL (ins.take j))++bstr (putL [z])=bstr (X0++putL (ins.take (j+1)))):=by
       show _=_;rw[bstr_app,HTI.o,List.append_assoc];simp[putL]
      generalize bstr (X0++putL (ins.take j))=E0 at*;generalize bstr (putL [z])=EZ at*
      go_wp2_with fail
      refine(HCZ.o _).mono ?_;rintro e w5 ⟨rfl,hq⟩
      go_wp2_with fail
      go_roundw
      case rel=>
       (repeat apply Exists.intro)
       exact⟨⟨j+1,by go_num,by omega,by rw[HAZ.o],hKx.keep hq⟩,rfl⟩
      case measure=>simp[intOf];omega
     ·obtain rfl:j=ins.length:=by omega
      rw[List.take_of_length_le le0];have HX:Hd (ExAt wr wr.heap.size (.agg #[.int .u8 x.op,.int .i64 x.n,.slice a2 x.args.length cap2]) x):=⟨_,rfl,(HI2.o.across hBr hKx.below).mono hKx.below.size⟩;have HCX:=Lh (putEx_all x.ht x _ _ wr le0 HXO.o (by omega) HX.o le0);have hse:=bstr_size (X0++putL ins);rw[la0]at hse;have hsx:=bstr_size x.by
      have HAX:Hd (bstr (X0++putL ins)++bstr x.by=bstr (P++nodesBy (nds.take (k+1)))):=by
       show _=_;rw[bstr_app,HTK.o,HDB.o,<-HX0.o];simp only[List.append_assoc]
      generalize bstr (X0++putL ins)=E0 at*;generalize bstr x.by=EX at*
      obtain⟨p0,p1,p2,p3,p4,p5,p6⟩:=hKx.hd.q7
      go_wp2_with fail
      refine HCX.o.mono ?_;rintro e w6 ⟨rfl,hq⟩
      go_wp2_with fail
      go_roundw
      case rel=>exact⟨k+1,by go_num,by omega,by rw[HAX.o],(hKx.keep hq).below⟩
      case measure=>simp[intOf];omega
   ·obtain rfl:k=nds.length:=by omega
    rw[List.take_of_length_le le0]
    go_wp2_with fail
    go_ret2;rw[HR.o,HBE.o];exact⟨rfl,hBr⟩
 ·have hm':(m2 !=0)=true:=by simpa using hm
  have HR:Hd (R=([],2)):=by show _=_;rw[HE.o,if_neg hm]
  clear HE HGS;go_enter func33,ntmps33
  go_upto_region 1 with fail
  generalize World.alloc w _=W at*;have p0:=hK.hd.cell 0;have p1:=hK.hd.cell 1
  go_wp2_with fail
  refine(HMY.o W hK.below).mono ?_;rintro e w1 ⟨rfl,hq⟩
  go_wp2_with fail
  go_ret2;rw[HR.o];exact⟨rfl,(hK.keep hq).below⟩
theorem own_new1 (w:World) (e:TypeId) (x:Value):(w.alloc (.cells #[x] e)).ownsRow w.heap.size e 1 (.slice (some ⟨w.heap.size,0,none⟩) 1 1) 1 [x]:=
 ⟨rfl,.inr ⟨w.heap.size,1,#[x],rfl,le0,heap_alloc_new w _,le0,by decide,rfl,rfl⟩⟩
theorem wrap_u64B (n:Int):IntKind.u64.wrap n=n%18446744073709551616:=by simp[IntKind.wrap,IntKind.bits,IntKind.signed]
theorem conv1 (w:World) (n:Nat) (hn:n<256) (x:Int) (hx:x=(n:Int)):
  (convert 141 9 (.slice (some ⟨w.heap.size,0,none⟩) 1 1)).run prog (w.alloc (.cells #[.int .u8 x] 5))= .ok (.string (bstr [UInt8.ofNat n])) (w.alloc (.cells #[.int .u8 x] 5)):=by
 subst hx;have e:byteV (UInt8.ofNat n)= .int .u8 (n:Int):=by
  unfold byteV
  congr 1
  have:(UInt8.ofNat n).toNat=n:=by simp;omega
  rw[this]
 have h:=own_new1 w 5 (.int .u8 (n:Int));have:=conv_own (bs:=[UInt8.ofNat n]) (m:=1) (base:=w.heap.size) (w:=w.alloc (.cells #[.int .u8 (n:Int)] 5)) (v:= .slice (some ⟨w.heap.size,0,none⟩) 1 1) (by rw[List.map_cons,List.map_nil,e];exact h);exact this
theorem one_c (n:Int) (h1: -9223372036854775808<=n) (h2:n<=9223372036854775807) (w:World):
  CB prog 90 #[.int .i64 n] w (.string (bstr (putN n))):=by
 have hz:=zig_lt n h1 h2;have hl:=putN_len n h1 h2;have HP:Hd (putN n=vby (zig n)):=rfl;obtain⟨z,hzz⟩: ∃z,zig n=z:=⟨_,rfl⟩;have hzn:(0<=n/\(z:Int)=2*n)\/(n<0/\(z:Int)= -2*n-1):=by
  rw[<-hzz];unfold zig;by_cases h:0<=n
  ·rw[if_pos h];omega
  ·rw[if_neg h];omega
 rw[hzz]at HP hz;clear hzz;generalize putN n=P at*;have hcs:(n<0/\decide (n<0)=true)\/(0<=n/\decide (n<0)=false):=by
  by_cases h:n<0
  ·exact .inl ⟨h,dt0 h⟩
  ·exact .inr ⟨by omega,df0 h⟩
 rcases hcs with ⟨hng,hn0⟩|⟨hng,hn0⟩
 all_goals
  go_enter func90,ntmps90
  go_wp2_with fail
  go_loopw [3,4] (fun s3 s4 wr=> ∃(U:Nat) (q:List UInt8),s3= .int .u64 (U:Int)/\s4= .string (bstr q)/\q++vby U=P/\U<18446744073709551616/\Below w.heap.size w wr) (fun s3 _ _=>(intOf s3).toNat)
  case atStart=>exact⟨z,[],by congr 1;first|omega|(simp only[wrap_u64B];omega),rfl,HP.o.symm,hz,Below.refl _ _⟩
  case round=>
   obtain⟨U,q,rfl,rfl,hq,hU,hB⟩:=hrel;have hql:q.length<=10:=by rw[<-hq,la0]at hl;omega
   have hqz:(bstr q).size<=10:=by rw[bstr_size];exact hql
   have HU:=Lh hU;have HQ:=Lh hq;clear hU hq h1 h2 hz hzn hl;by_cases h128:127<U
   ·have hd:decide ((127:Int)<(U:Int))=true:=dt0 (by omega);have hcv:=conv1 wr (U%128+128) (by omega) ((U:Int)%128+128) (by omega);have HV:=Lh (vby_ge (by omega: ¬U<128));have hwr:IntKind.u64.wrap ((U:Int)/128)=(U:Int)/128:=by have:=HU.o;rw[wrap_u64B];omega
    generalize UInt8.ofNat (U%128+128)=b at*;have hap:=bstr_app q [b];have h1z:(bstr [b]).size=1:=by rw[bstr_size];rfl
    have hB2:=hB.alloc hB.size (.cells #[.int .u8 ((U:Int)%128+128)] 5)
    go_wp2_with fail
    go_roundw
    case rel=>exact⟨U/128,q++ [b],by congr 1,rfl,by rw[<-HQ.o,HV.o,List.append_assoc];rfl,by have:=HU.o;omega,hB2⟩
    case measure=>simp only[intOf];omega
   ·have hd:decide ((127:Int)<(U:Int))=false:=df0 (by omega);have hcv:=conv1 wr U (by omega) (U:Int) (by omega);have HV:=Lh (vby_lt (by omega:U<128));generalize UInt8.ofNat U=b at*;have hap:=bstr_app q [b];have h1z:(bstr [b]).size=1:=by rw[bstr_size];rfl
    have hB2:=hB.alloc hB.size (.cells #[.int .u8 (U:Int)] 5)
    go_wp2_with fail
    go_ret;exact⟨by show Ending.returned (Value.string (bstr (q++ [b])))=_;rw[<-HQ.o,HV.o],hB2⟩
theorem rPut_c (l:List Int) (n:Nat) (v:Value) (B:Nat) (w:World) (h:Sl w B 1 v n (l.map (Value.int .i64))) (hn:l.length=n) (hB:B<=w.heap.size) (hr: ∀z∈l,-9223372036854775808<=z/\z<=9223372036854775807) (hl:n<=1000):
  CB prog 38 #[v] w (.string (bstr (putL l))):=by
 obtain⟨_,a,cap,rfl,hc1,hm1,_⟩:=id h;have H:=Lh h;have HR:=Lh hr;have HN:=Lh hn;clear h hr hn hc1 hm1;rename_i hx1 hx2;clear hx1 hx2;go_enter func38,ntmps38
 go_wp2_with fail
 go_loopw [3,4] (fun s3 s4 wr=> ∃k:Nat,s4= .int .i64 (k:Int)/\s3= .string (bstr (putL (l.take k)))/\k<=n/\Below w.heap.size w wr) (fun _ s4 _=>n-(intOf s4).toNat)
 case atStart=>exact⟨0,rfl,rfl,ze0,Below.refl _ _⟩
 case round=>
  obtain⟨k,rfl,rfl,hk,hb⟩:=hrel;by_cases hlt:k<n
  ·have hkl:k<l.length:=by rw[HN.o];exact hlt
   obtain⟨b,off,cp,e1,hbB,g1,p0⟩:=((H.o.mono hB).below hb).int k hlt;simp only[vs0,true_and]at e1;obtain⟨rfl,rfl⟩:=e1;have hir:=HR.o _ (List.getElem_mem g1);have HT:=Lh (putL_take l k hkl);have hz1:=putN_len _ hir.1 hir.2;have hz2:(putL (l.take k)).length<=10000:=by
    have:=putL_len (l.take k) (fun z hz=>HR.o z (List.mem_of_mem_take hz));rw[List.length_take]at this;omega
   have hz3:(bstr (putL (l.take k))).size<=10000:=by rw[bstr_size];exact hz2
   have hz4:(bstr (putN l[k])).size<=10:=by rw[bstr_size];exact hz1
   have hap:=bstr_app (putL (l.take k)) (putN l[k]);generalize l[k]=z at*;generalize putL (l.take k)=q at*;clear hz1 hz2
   go_wp2_with (go_at_call 90;refine(one_c z hir.1 hir.2 _).mono ?_;rintro e w1 ⟨rfl,hb1⟩)
   go_roundw
   case rel=>exact⟨k+1,by go_num,by rw[HT.o],by omega,hb.trans (hb1.mono hb.size)⟩
   case measure=>simp only[intOf];omega
  ·have hkn:k=n:=by omega
   subst hkn;have hlt:l.take k=l:=List.take_of_length_le (by rw[HN.o];exact le0);rw[hlt];clear hlt
   go_wp2_with fail
   go_ret;exact⟨rfl,hb⟩
theorem rPutText_c (u:ByteArray) (hu:u.size<=65536) (w:World):CB prog 87 #[.string u] w (.tuple #[.string (bstr (txtL u)),.int .i64 0]):=by
 have hg:decide ((65536:Int)<(u.size:Int))=false:=df0 (by omega);have hz1:(bstr (putN (u.size:Int))).size<=10:=by rw[bstr_size];exact putN_len _ (by omega) (by omega)
 have hap:bstr (putN (u.size:Int))++u=bstr (txtL u):=by
  have h:=bstr_app (putN (u.size:Int)) u.data.toList;rw[show bstr u.data.toList=u from by apply ByteArray.ext;simp[bstr]]at h;exact h
 go_enter func87,ntmps87
 go_wp2_with (go_at_call 90;refine(one_c (u.size:Int) (by omega) (by omega) _).mono ?_;rintro e w1 ⟨rfl,hb1⟩)
 go_ret2;exact⟨rfl,hb1⟩
def lead:Nat->List UInt8->Nat
 |0,_=>0
 |_+1,[]=>0
 |k+1,c::cs=>if 127<c.toNat then lead k cs+1 else 0
def hv:List UInt8->Nat
 | []=>0
 |c::cs=>c.toNat%128+128*hv cs
theorem lead_le: ∀(k:Nat) (cs:List UInt8),lead k cs<=k/\lead k cs<=cs.length
 |0,_=>⟨le0,ze0⟩
 |k+1,[]=>⟨ze0,le0⟩
 |k+1,c::cs=>by
  have:=lead_le k cs
  simp only[lead,List.length_cons]
  split<;>omega
theorem hv_lt: ∀(cs:List UInt8),hv cs<2^(7*cs.length)
 | []=>by decide
 |c::cs=>by
  have ih:=hv_lt cs
  have e:2^(7*(c::cs).length)=128*2^(7*cs.length):=by rw[List.length_cons,show 7*(cs.length+1)=7+7*cs.length by omega,Nat.pow_add]
  rw[e]
  simp only[hv]
  have:=Nat.mod_lt c.toNat (show 128>0 by decide)
  omega
theorem hv_drop: ∀(m:Nat) (cs:List UInt8),hv (cs.drop m)<=hv cs
 |0,cs=>by simp
 |m+1,[]=>by simp
 |m+1,c::cs=>by
  have:=hv_drop m cs
  simp only[List.drop_succ_cons,hv]
  omega
theorem hv_snoc: ∀(cs:List UInt8) (c:UInt8),hv (cs++ [c])=hv cs+c.toNat%128*2^(7*cs.length)
 | [],c=>by simp[hv]
 |d::cs,c=>by
  simp only[List.cons_append,hv,hv_snoc cs c,List.length_cons]
  rw[show 7*(cs.length+1)=7+7*cs.length by omega,Nat.pow_add,show(2:Nat)^7=128 from rfl,Nat.mul_add,<-Nat.add_assoc,Nat.mul_left_comm]
theorem tk_lead: ∀(cs:List UInt8) (i a:Nat),i<=9->tkGo i a cs=
  if 9<=i+lead (10-i) cs/\1<(cs.getD (9-i) 0).toNat then(0,0,21)
  else if cs.length=lead (10-i) cs then(0,0,20)
  else if 0<i+lead (10-i) cs/\(cs.getD (lead (10-i) cs) 0).toNat=0 then(0,0,21)
  else(unzig (a+hv (cs.take (lead (10-i) cs+1))*2^(7*i)),((i+lead (10-i) cs+1:Nat):Int),0)
 | [],i,a,hi=>by
  have e:lead (10-i) []=0:=by rw[show 10-i=(9-i)+1 by omega];rfl
  rw[e,if_neg (by rintro ⟨_,h⟩;simp at h)]
  rfl
 |c::cs,i,a,hi=>by
  have e:lead (10-i) (c::cs)=if 127<c.toNat then lead (9-i) cs+1 else 0:=by rw[show 10-i=(9-i)+1 by omega];rfl
  by_cases hc:127<c.toNat
  ·rw[e,if_pos hc]
   by_cases h9:i=9
   ·subst h9
    simp only[tkGo]
    rw[if_pos (by constructor<;>first|trivial|omega),if_pos ⟨by omega,by show 1<c.toNat;omega⟩]
   ·simp only[tkGo]
    rw[if_neg (fun h=>h9 h.1),if_pos (by omega),tk_lead cs (i+1) _ (by omega)]
    have e1:10-(i+1)=9-i:=by omega
    have e2:9-i=(9-(i+1))+1:=by omega
    have e3:(c::cs).getD (9-i) 0=cs.getD (9-(i+1)) 0:=by rw[e2];rfl
    rw[e1,e3]
    generalize lead (9-i) cs=L
    have q1:i+1+L=i+(L+1):=by omega
    have q4:(c::cs).getD (L+1) 0=cs.getD L 0:=rfl
    have q5:a+c.toNat%128*2^(7*i)+hv (cs.take (L+1))*2^(7*(i+1))=a+hv ((c::cs).take (L+1+1))*2^(7*i):=by
     rw[List.take_succ_cons];simp only[hv];rw[show 7*(i+1)=7+7*i by omega,Nat.pow_add,Nat.add_mul,Nat.add_assoc,show(2:Nat)^7=128 from rfl,<-Nat.mul_assoc,Nat.mul_comm 128]
    rw[q1,q4,q5];simp only[List.length_cons,Nat.add_right_cancel_iff]
  ·rw[e,if_neg hc];simp only[tkGo];by_cases h9:i=9/\1<c.toNat
   ·rw[if_pos h9,if_pos ⟨by omega,by rw[h9.1];exact h9.2⟩]
   ·rw[if_neg h9,if_neg (by omega),if_neg (c:=9<=i+0/\_) (by
     rintro ⟨h1,h3⟩
     have:i=9:=by omega
     subst this
     exact h9 ⟨rfl,h3⟩),if_neg (c:=(c::cs).length=0) (by simp)]
    by_cases h0:c.toNat=0/\0<i
    ·rw[if_pos h0,if_pos (by exact⟨by omega,h0.1⟩)]
    ·rw[if_neg h0,if_neg (by
      rintro ⟨h1,h3⟩
      exact h0 ⟨h3,by omega⟩)]
     simp[hv]
theorem lead_all: ∀(k:Nat) (cs:List UInt8) (j:Nat),j<lead k cs->127<(cs.getD j 0).toNat
 |0,cs,j,h=>by simp[lead]at h
 |k+1,[],j,h=>by simp[lead]at h
 |k+1,c::cs,j,h=>by
  simp only[lead]at h
  by_cases hc:127<c.toNat
  ·rw[if_pos hc]at h
   cases j with
   |zero=>exact hc
   |succ j=>exact lead_all k cs j (by omega)
  ·rw[if_neg hc]at h;omega
theorem lead_step (k:Nat) (c:UInt8) (cs:List UInt8) (h:127<c.toNat):lead (k+1) (c::cs)=lead k cs+1:=by simp only[lead];rw[if_pos h]
theorem lead_stop (k:Nat) (c:UInt8) (cs:List UInt8) (h: ¬127<c.toNat):lead (k+1) (c::cs)=0:=by simp only[lead];rw[if_neg h]
theorem takeS_lead (s:ByteArray):takeS s=
  if 9<=lead 10 s.data.toList/\1<(s.data.toList.getD 9 0).toNat then(0,0,21)
  else if s.size=lead 10 s.data.toList then(0,0,20)
  else if 0<lead 10 s.data.toList/\(s.data.toList.getD (lead 10 s.data.toList) 0).toNat=0 then(0,0,21)
  else(unzig (hv (s.data.toList.take (lead 10 s.data.toList+1))),((lead 10 s.data.toList+1:Nat):Int),0):=by
 unfold takeS;rw[tk_lead _ 0 0 (by omega),Lib.size_eq];simp only[Nat.zero_add,Nat.sub_zero,Nat.mul_zero,Nat.pow_zero,Nat.mul_one]
theorem hv_bound (cs:List UInt8) (h: ¬(9<=lead 10 cs/\1<(cs.getD 9 0).toNat)):lead 10 cs<=9/\hv (cs.take (lead 10 cs+1))<18446744073709551616:=by
 have h10:=(lead_le 10 cs).1;have hall:=lead_all 10 cs;generalize lead 10 cs=L at*;have hL:L<=9:=by
  by_cases h1:L<=9
  ·exact h1
  ·have:=hall 9 (by omega);exact absurd ⟨by omega,by omega⟩ h
 refine⟨hL,?_⟩;by_cases h9:L=9
 ·subst h9;have hb:(cs.getD 9 0).toNat<=1:=by
   by_cases h1:(cs.getD 9 0).toNat<=1
   ·exact h1
   ·exact absurd ⟨le0,by omega⟩ h
  by_cases hl:9<cs.length
  ·rw[List.take_succ_eq_append_getElem hl,hv_snoc];have h1:=hv_lt (cs.take 9);have h2:(cs.take 9).length=9:=by rw[List.length_take];omega
   have h3:cs.getD 9 0=cs[9]:=by simp[List.getD_eq_getElem?_getD,hl]
   rw[h3]at hb;rw[h2]at h1⊢;have h4:cs[9].toNat%128<=1:=by omega
   have e:(2:Nat)^(7*9)=9223372036854775808:=by decide
   rw[e]at h1⊢;omega
  ·rw[List.take_of_length_le (by omega)];have h1:=hv_lt cs;have:2^(7*cs.length)<=2^(7*9):=Nat.pow_le_pow_right (by omega) (by omega);have e:(2:Nat)^(7*9)=9223372036854775808:=by decide
   omega
 ·have h1:=hv_lt (cs.take (L+1));have h2:(cs.take (L+1)).length<=9:=by rw[List.length_take];omega
  have:2^(7*(cs.take (L+1)).length)<=2^(7*9):=Nat.pow_le_pow_right (by omega) (by omega);have e:(2:Nat)^(7*9)=9223372036854775808:=by decide
  omega
theorem getD_at (s:ByteArray) (k:Nat) (h:k<s.size):(s.data.toList.getD k 0)=s[k]:=by
 have h':k<s.data.toList.length:=by rw[<-Lib.size_eq];exact h
 rw[List.getD_eq_getElem?_getD,List.getElem?_eq_getElem h'];rfl
theorem getD_out (s:ByteArray) (k:Nat) (h: ¬k<s.size):(s.data.toList.getD k 0)=0:=by
 have h':s.data.toList.length<=k:=by rw[<-Lib.size_eq];omega
 rw[List.getD_eq_getElem?_getD,List.getElem?_eq_none h'];rfl
theorem rTake_c (s:ByteArray) (hs:s.size<=140737488355328) (w:World):Calls prog 105 #[.string s] w fun e w'=>e= .returned (.tuple #[.int .i64 (takeS s).1,.int .i64 (takeS s).2.1,.int .i64 (takeS s).2.2])/\w=w':=by
 have HT:=Lh (takeS_lead s);have HB:=Lh (hv_bound s.data.toList);obtain⟨L,hL⟩: ∃L,lead 10 s.data.toList=L:=⟨_,rfl⟩;have hle:=lead_le 10 s.data.toList;rw[<-Lib.size_eq]at hle;have HL:=Lh hL;rw[hL]at HT HB hle;clear hL;obtain⟨hL10,hLs⟩:=hle;generalize takeS s=R at*;go_enter func105,ntmps105
 go_upto_block 0 with fail
 go_cut [5] (fun q wx=>q= .int .i64 (L:Int)/\w=wx)
 case first=>
  go_wp2_with fail
  go_loopw [5] (fun q wx=> ∃k:Nat,q= .int .i64 (k:Int)/\wx=w/\k<=10/\k<=s.size/\k+lead (10-k) (s.data.toList.drop k)=L) (fun q _=>10-(intOf q).toNat)
  case atStart=>exact⟨0,rfl,rfl,by omega,ze0,by rw[Nat.zero_add];exact HL.o⟩
  case round=>
   obtain⟨k,rfl,rfl,hk,hks,hkl⟩:=hrel;by_cases hlt:k<s.size
   ·have hd1:decide ((k:Int)<(s.size:Int))=true:=dt0 (by omega);by_cases h10:k<10
    ·have hd2:decide ((k:Int)<10)=true:=dt0 (by omega);have hd:s.data.toList.drop k=s[k]::s.data.toList.drop (k+1):=List.drop_eq_getElem_cons (by rw[<-Lib.size_eq];exact hlt);rw[hd,show 10-k=(10-(k+1))+1 by omega]at hkl;have hc8:(s[k]).toNat<256:=(s[k]).toNat_lt;generalize hcc:s[k]=c at*;clear hd;by_cases hc:127<c.toNat
     ·have hd3:decide ((127:Int)<(c.toNat:Int))=true:=dt0 (by omega);rw[lead_step _ _ _ hc]at hkl;have HK:=Lh hkl;clear hkl
      go_wp2_with fail
      go_roundw
      case rel=>exact⟨k+1,by go_num,trivial,by omega,by omega,by have:=HK.o;omega⟩
      case measure=>simp[intOf];omega
     ·have hd3:decide ((127:Int)<(c.toNat:Int))=false:=df0 (by omega);rw[lead_stop _ _ _ hc,Nat.add_zero]at hkl;subst hkl
      go_wp2_with fail
      go_meet;exact⟨rfl,rfl⟩
    ·have hd2:decide ((k:Int)<10)=false:=df0 (by omega);obtain rfl:k=10:=by omega
     rw[show lead (10-10) (s.data.toList.drop 10)=0 from rfl]at hkl;subst hkl
     go_wp2_with fail
     go_meet;exact⟨rfl,rfl⟩
   ·have hd1:decide ((k:Int)<(s.size:Int))=false:=df0 (by omega);have hdn:s.data.toList.drop k=[]:=List.drop_of_length_le (by rw[<-Lib.size_eq];omega);have hz:lead (10-k) []=0:=by cases 10-k<;>rfl
    rw[hdn,hz,Nat.add_zero]at hkl;subst hkl
    go_wp2_with fail
    go_meet;exact⟨rfl,rfl⟩
 case rest=>
  obtain⟨rfl,rfl⟩:=hcut;have hg9:9<s.size->s.data.toList.getD 9 0=s[9]! :=fun h=>by rw[getD_at s 9 h];exact(getElem!_pos s 9 h).symm
  go_upto_region 4 with fail
  go_cut [36] (fun q wx=>q= .bool (decide (9<=L/\1<(s.data.toList.getD 9 0).toNat))/\w=wx)
  case first=>
   by_cases h9:9<=L
   ·have hd1:decide ((9:Int)<=(L:Int))=true:=dt0 (by omega);have hd1':decide ((L:Int)<9)=false:=df0 (by omega);by_cases hz:9<s.size
    ·have hd2:decide ((9:Int)<(s.size:Int))=true:=dt0 (by omega);have hgd:=getD_at s 9 hz;have hc8:(s[9]).toNat<256:=(s[9]).toNat_lt;generalize hcc:s[9]=c at*;by_cases hc:1<c.toNat
     ·have hd3:decide ((1:Int)<(c.toNat:Int))=true:=dt0 (by omega);have hd4:decide (9<=L/\1<c.toNat)=true:=dt0 ⟨h9,hc⟩;have HD4:Hd (decide (9<=L/\1<(s.data.toList.getD 9 0).toNat)=decide (9<=L/\1<c.toNat)):=by show _=_;rw[hgd]
      clear hg9 hgd
      go_wp2_with fail
      go_meet;exact⟨by rw[HD4.o,hd4],rfl⟩
     ·have hd3:decide ((1:Int)<(c.toNat:Int))=false:=df0 (by omega);have hd4:decide (9<=L/\1<c.toNat)=false:=df0 (fun h=>hc h.2);have HD4:Hd (decide (9<=L/\1<(s.data.toList.getD 9 0).toNat)=decide (9<=L/\1<c.toNat)):=by show _=_;rw[hgd]
      clear hg9 hgd
      go_wp2_with fail
      go_meet;exact⟨by rw[HD4.o,hd4],rfl⟩
    ·have hd2:decide ((9:Int)<(s.size:Int))=false:=df0 (by omega);have hd4:decide (9<=L/\1<(s.data.toList.getD 9 0).toNat)=false:=df0 (by rw[getD_out s 9 hz];simp);have HD4:=Lh hd4;clear hd4 hg9
     go_wp2_with fail
     go_meet;exact⟨by rw[HD4.o],rfl⟩
   ·have hd1:decide ((9:Int)<=(L:Int))=false:=df0 (by omega);have hd1':decide ((L:Int)<9)=true:=dt0 (by omega);have hd4:decide (9<=L/\1<(s.data.toList.getD 9 0).toNat)=false:=df0 (fun h=>h9 h.1);have HD4:=Lh hd4;clear hd4 hg9
    go_wp2_with fail
    go_meet;exact⟨by rw[HD4.o],rfl⟩
  case rest=>
   obtain⟨rfl,rfl⟩:=hcut;by_cases hA:9<=L/\1<(s.data.toList.getD 9 0).toNat
   ·have HR:Hd (R=(0,0,21)):=by show _=_;rw[HT.o,if_pos hA]
    rw[dt0 hA]
    go_wp2_with fail
    go_ret3;exact⟨by rw[HR.o];rfl,rfl⟩
   ·obtain⟨hL9,hb⟩:=HB.o hA;rw[df0 hA];have HT2:=HT.o;rw[if_neg hA]at HT2;clear HT HB hA hg9;by_cases hsz:s.size=L
    ·rw[if_pos hsz]at HT2;have HR:=Lh HT2;have hd1:((L:Int)==(s.size:Int))=true:=by rw[beq_iff_eq];omega
     clear HT2
     go_wp2_with fail
     go_ret3;exact⟨by rw[HR.o];rfl,rfl⟩
    ·rw[if_neg hsz]at HT2;have hd1:((L:Int)==(s.size:Int))=false:=by rw[bq0];omega
     have hlt:L<s.size:=by omega
     have hgd:=getD_at s L hlt;have hc8:(s[L]).toNat<256:=(s[L]).toNat_lt;rw[hgd]at HT2;generalize hcc:s[L]=c at*;clear hgd
     go_upto_region 8 with fail
     go_cut [48] (fun q wx=>q= .bool (decide (0<L/\c.toNat=0))/\w=wx)
     case first=>
      by_cases h0:0<L
      ·have hd2:decide ((0:Int)<(L:Int))=true:=dt0 (by omega);by_cases hc:c.toNat=0
       ·have hd3:((c.toNat:Int)==0)=true:=by rw[beq_iff_eq];omega
        have HD4:=Lh (dt0 (⟨h0,hc⟩:0<L/\c.toNat=0));clear hc
        go_wp2_with fail
        go_meet;exact⟨by rw[HD4.o],rfl⟩
       ·have hd3:((c.toNat:Int)==0)=false:=by rw[bq0];omega
        have HD4:=Lh (df0 (fun h=>hc h.2: ¬(0<L/\c.toNat=0)))
        go_wp2_with fail
        go_meet;exact⟨by rw[HD4.o],rfl⟩
      ·have hd2:decide ((0:Int)<(L:Int))=false:=df0 (by omega);have HD4:=Lh (df0 (fun h=>h0 h.1: ¬(0<L/\c.toNat=0)))
       go_wp2_with fail
       go_meet;exact⟨by rw[HD4.o],rfl⟩
     case rest=>
      obtain⟨rfl,rfl⟩:=hcut;by_cases hA:0<L/\c.toNat=0
      ·rw[if_pos hA]at HT2;rw[dt0 hA];have HR:=Lh HT2;clear HT2
       go_wp2_with fail
       go_ret3;exact⟨by rw[HR.o];rfl,rfl⟩
      ·rw[if_neg hA]at HT2;rw[df0 hA];have HR:=Lh HT2;have HDR:Hd (∀j,j<=L-> ∃h:j<s.size,(s.data.toList.take (L+1)).drop j=s[j]::(s.data.toList.take (L+1)).drop (j+1)):=fun j hj=>by
        refine⟨by omega,?_⟩;have hjl:j<(s.data.toList.take (L+1)).length:=by rw[List.length_take,<-Lib.size_eq];omega
        rw[List.drop_eq_getElem_cons hjl,List.getElem_take];rfl
       have HVB:Hd (∀j,hv ((s.data.toList.take (L+1)).drop j)<18446744073709551616):=fun j=>Nat.lt_of_le_of_lt (hv_drop j _) hb;have HVE:Hd ((s.data.toList.take (L+1)).drop (L+1)=[]):=List.drop_of_length_le (by rw[List.length_take];omega);generalize s.data.toList.take (L+1)=ds at*;clear HT2 hA hb
       go_wp2_with fail
       go_loopw [6,7] (fun u q wx=> ∃(m:Nat) (i:Int),q= .int .i64 i/\u= .int .u64 ((hv (ds.drop m):Nat):Int)/\wx=w/\i=(m:Int) -1/\m<=L+1) (fun _ q _=>(intOf q+1).toNat)
       case atStart=>exact⟨L+1,(L:Int),rfl,by rw[HVE.o];rfl,rfl,by omega,le0⟩
       case round=>
        obtain⟨m,i,rfl,rfl,rfl,him,hm⟩:=hrel
        cases m with
        |zero=>
         have hd4:decide ((0:Int)<=i)=false:=df0 (by omega);have hd5:decide (i<(0:Int))=true:=dt0 (by omega);have hvb:=HVB.o 0;rw[List.drop_zero]at hvb⊢;generalize hv ds=U at*;have hw1:IntKind.i64.wrap ((U:Int)/2)=(U:Int)/2:=by simp only[IntKind.wrap,IntKind.bits,IntKind.signed];simp;omega
         have HU:Hd (unzig U=if U%2=0 then((U/2:Nat):Int)else-((U/2:Nat):Int) -1):=rfl;have hU2:(U:Int)/2<=9223372036854775807:=by omega
         have hU0:0<=(U:Int)/2:=by omega
         clear hvb him;by_cases hod:U%2=1
         ·have hd6:((U:Int)%2==1)=true:=by rw[beq_iff_eq];omega
          have HU3:Hd (unzig U= -((U:Int)/2) -1):=by show _=_;rw[HU.o,if_neg (by omega)];omega
          clear hod
          go_wp2_with fail
          go_ret3;exact⟨by rw[HR.o];dsimp only;rw[HU3.o];rfl,rfl⟩
         ·have hd6:((U:Int)%2==1)=false:=by rw[bq0];omega
          have HU3:Hd (unzig U=((U:Int)/2)):=by show _=_;rw[HU.o,if_pos (by omega)];omega
          clear hod
          go_wp2_with fail
          go_ret3;exact⟨by rw[HR.o];dsimp only;rw[HU3.o];rfl,rfl⟩
        |succ j=>
         obtain rfl:i=(j:Int):=by omega
         have hd4:decide ((0:Int)<=(j:Int))=true:=dt0 (by omega);obtain⟨hjs,hdr⟩:=HDR.o j (by omega);have hvb:=HVB.o j;have HD:=Lh hdr;rw[hdr]at hvb;simp only[hv]at hvb;have hc9:(s[j]).toNat<256:=(s[j]).toNat_lt;generalize hcj:s[j]=cj at*;generalize hU:hv (ds.drop (j+1))=U at*;have HHU:=Lh hU;have hw1:IntKind.u64.wrap (128*(U:Int))=128*(U:Int):=by rw[wrap_u64B];omega
         have hw2:IntKind.u64.wrap (128*(U:Int)+(cj.toNat:Int)%128)=128*(U:Int)+(cj.toNat:Int)%128:=by rw[wrap_u64B];omega
         have HV:Hd (hv (ds.drop j)=cj.toNat%128+128*U):=by show _=_;rw[HD.o];simp only[hv];rw[HHU.o]
         clear hvb hdr hU him
         go_wp2_with fail
         go_roundw
         case rel=>exact⟨j,(j:Int) -1,by go_num,by rw[HV.o];congr 1;omega,trivial,by omega,by omega⟩
         case measure=>simp[intOf]
theorem rTakeText_c (s:ByteArray) (hs:s.size<=140737488355328) (w:World):Calls prog 110 #[.string s] w fun e w'=>e= .returned (.tuple #[.string (takeT s).1,.int .i64 (takeT s).2.1,.int .i64 (takeT s).2.2])/\w=w':=by
 have HE:Hd (takeT s=if(takeS s).2.2≠0 then(.empty,0,(takeS s).2.2)else if(takeS s).1<0 then(.empty,0,21)else if 65536<(takeS s).1 then(.empty,0,3)
  else if(s.size:Int)<(takeS s).2.1+(takeS s).1 then(.empty,0,20)else(s.extract (takeS s).2.1.toNat ((takeS s).2.1.toNat+(takeS s).1.toNat),(takeS s).2.1+(takeS s).1,0)):=rfl
 have HTK:Hd (∀W:World,Calls prog 105 #[.string s] W fun e w'=>e= .returned (.tuple #[.int .i64 (takeS s).1,.int .i64 (takeS s).2.1,.int .i64 (takeS s).2.2])/\W=w'):=fun W=>rTake_c s hs W;have hback:(takeS s).2.2=0-> ∃k:Nat,(takeS s).2.1=(k:Int)/\k<=s.size/\ -9223372036854775808<=(takeS s).1/\(takeS s).1<=9223372036854775807:=fun h=>by
  have e:tkGo 0 0 s.data.toList=((takeS s).1,(takeS s).2.1,0):=by rw[<-h];rfl
  obtain⟨k,h1,h2,_,_,h5,h6⟩:=take_back e;exact⟨k,h1,by rw[<-Lib.size_eq]at h2;exact h2,h5,h6⟩
 generalize takeT s=R at*;generalize takeS s=q at*;obtain⟨n,sz,er⟩:=q;dsimp only at HE HTK hback;by_cases he:er=0
 ·subst he;obtain⟨k,rfl,hk,hn1,hn2⟩:=hback rfl;have HE2:=HE.o;rw[if_neg (by simp)]at HE2;clear HE hback;by_cases c1:n<0
  ·rw[if_pos c1]at HE2;have HR:=Lh HE2;clear HE2;have d1:decide (n<0)=true:=dt0 c1;go_enter func110,ntmps110
   go_wp2_with fail
   refine(HTK.o _).mono ?_;rintro e w1 ⟨rfl,rfl⟩
   go_wp2_with fail
   go_ret3;rw[HR.o];exact⟨rfl,rfl⟩
  ·rw[if_neg c1]at HE2;have d1:decide (n<0)=false:=df0 c1;by_cases c2:65536<n
   ·rw[if_pos c2]at HE2;have HR:=Lh HE2;clear HE2;have d2:decide (65536<n)=true:=dt0 c2;go_enter func110,ntmps110
    go_wp2_with fail
    refine(HTK.o _).mono ?_;rintro e w1 ⟨rfl,rfl⟩
    go_wp2_with fail
    go_ret3;rw[HR.o];exact⟨rfl,rfl⟩
   ·rw[if_neg c2]at HE2;obtain⟨m,rfl⟩: ∃m:Nat,n=(m:Int):=⟨n.toNat,by omega⟩;by_cases c3:(s.size:Int)<(k:Int)+(m:Int)
    ·rw[if_pos c3]at HE2;have HR:=Lh HE2;clear HE2;have d2: ¬(65536:Int)<(m:Int):=c2;have d3:decide ((s.size:Int)<(k:Int)+(m:Int))=true:=dt0 c3;go_enter func110,ntmps110
     go_wp2_with fail
     refine(HTK.o _).mono ?_;rintro e w1 ⟨rfl,rfl⟩
     go_wp2_with fail
     go_ret3;rw[HR.o];exact⟨rfl,rfl⟩
    ·rw[if_neg c3]at HE2;have HR:=Lh HE2;clear HE2;have d2: ¬(65536:Int)<(m:Int):=c2;have d3:decide ((s.size:Int)<(k:Int)+(m:Int))=false:=df0 c3;have d4:k+m<=s.size:=by omega
     have d5:(k:Int)+(m:Int)<=(s.size:Int):=by omega
     go_enter func110,ntmps110
     go_wp2_with fail
     refine(HTK.o _).mono ?_;rintro e w1 ⟨rfl,rfl⟩
     go_wp2_with fail
     go_ret3;rw[HR.o];exact⟨rfl,rfl⟩
 ·have HE2:=HE.o;rw[if_pos he]at HE2;have HR:=Lh HE2;clear HE HE2 hback;have d1:(er !=0)=true:=by simpa using he
  go_enter func110,ntmps110
  go_wp2_with fail
  refine(HTK.o _).mono ?_;rintro e w1 ⟨rfl,rfl⟩
  go_wp2_with fail
  go_ret3;rw[HR.o];exact⟨rfl,rfl⟩
theorem one_conv (k:Nat) (hk:k<256) (w:World) (b:Nat) (t:TypeId) (h:Blk w b t #[.int .u8 (k:Int)]):(convert 141 9 (.slice (some ⟨b,0,none⟩) 1 1)).run prog w= .ok (.string (bstr [UInt8.ofNat k])) w:=by
 refine run_convert_bytes_back w 141 9 5 ⟨b,0,none⟩ 1 [UInt8.ofNat k] underlying141 underlying5 underlying9 ?_;intro j hj;have hj0:j=0:=by simpa using hj
 subst hj0;rw[Addr.add_mid,Nat.zero_add,h.cell 0];show some (Value.int .u8 _)=some (Value.int .u8 ((UInt8.ofNat k).toNat:Int))
 congr 2
 simp;omega
theorem FPut_c (k:Nat) (h0:0<k) (h1:k<256) (u:ByteArray) (hu:u.size<=65536) (w:World):CB prog 32 #[.int .u8 (k:Int),.string u] w (.tuple #[.string (bstr (frL k u)),.int .i64 0]):=by
 have hk0:((k:Int)==0)=false:=by rw[bq0];omega
 have HT:=Lh (PutText_c u hu w);have hlen:=(txtL_len u hu).1;have HFR:Hd (frL k u=([UInt8.ofNat k]++txtL u)++tailL (sumB ([UInt8.ofNat k]++txtL u))):=rfl;have HLT:=Lh (sumB_lt ([UInt8.ofNat k]++txtL u));have HBA:Hd (∀l m,bstr l++bstr m=bstr (l++m)):=bstr_app;have HSZ:Hd (∀l,(bstr l).size=l.length):=bstr_size;have HT2:Hd (CB prog 77 #[.string u] w (.tuple #[.string (bstr (txtL u)),.int .i64 0])):=HT.o;clear HT;generalize frL k u=FL at*;generalize txtL u=T at*;go_enter func32,ntmps32
 go_upto_region 6 with (first|(go_at_call 77;refine HT2.o.mono ?_;rintro e w1 ⟨rfl,hb1⟩)|fail)
 have hB:=Blk.new w1 #[.int .u8 (k:Int)] 5;have hconv:=one_conv k h1 _ _ _ hB;have hsz1:(bstr [UInt8.ofNat k]).size=1:=HSZ.o _;have hsz2:(bstr T).size<=65546:=by rw[HSZ.o];omega
 obtain⟨S,hS⟩: ∃S,bstr ([UInt8.ofNat k]++T)=S:=⟨_,rfl⟩;have happ:bstr [UInt8.ofNat k]++bstr T=S:=(HBA.o _ _).trans hS;have HSS:=Lh hS;clear hS
 go_upto_region 7 with fail
 have hszS:S.size<=70000:=by rw[<-HSS.o,HSZ.o,la0,List.length_singleton];omega
 have hB2:Below w.heap.size w (w1.alloc (.cells #[.int .u8 (k:Int)] 5)):=hb1.alloc hb1.size _;clear hB hconv hsz1 hsz2 happ hb1 HT2;have HL:Hd (S.data.toList=[UInt8.ofNat k]++T):=by show _=_;rw[<-HSS.o];exact bstr_list _
 generalize World.alloc w1 _=W at*;have hBS:=Blk.new W #[.string S] 9;have HO:=Lh (sumOf_c S (by omega) W.heap.size (W.alloc (.cells #[.string S] 9)) (hBS.cell 0));rw[HL.o]at HO;have HTL:=Lh (ftail_c (sumB ([UInt8.ofNat k]++T)) HLT.o (W.alloc (.cells #[.string S] 9)));have htz:(bstr (tailL (sumB ([UInt8.ofNat k]++T)))).size=4:=bstr_size _;generalize sumB ([UInt8.ofNat k]++T)=sm at*;clear hBS
 go_wp2_with (first|(go_at_call 79;refine HO.o.mono ?_;rintro e w3 ⟨rfl,rfl⟩)|(go_at_call 78;refine HTL.o.mono ?_;rintro e w4 ⟨rfl,hb4⟩)|fail)
 go_ret2;refine⟨?_,(hB2.alloc hB2.size _).trans (hb4.mono (by have:=hB2.size;simp;omega))⟩;rw[HFR.o,<-HBA.o,HSS.o];rfl
theorem takeF_at (s:ByteArray) (h:0<s.size):takeF s=if(s[0]'h).toNat=0 then((0,.empty,0,21):Nat×ByteArray×Int×Int)else
  if(takeT (s.extract 1 s.size)).2.2≠0 then(0,.empty,0,(takeT (s.extract 1 s.size)).2.2)else
  if(s.size:Int)<(takeT (s.extract 1 s.size)).2.1+5 then(0,.empty,0,20)else
  if(s.data.toList.drop ((takeT (s.extract 1 s.size)).2.1+1).toNat).take 4≠tailL (sumB (s.data.toList.take ((takeT (s.extract 1 s.size)).2.1+1).toNat))then(0,.empty,0,40)else
  ((s[0]'h).toNat,(takeT (s.extract 1 s.size)).1,(takeT (s.extract 1 s.size)).2.1+5,0):=by
 have hl:0<s.data.toList.length:=by rw[<-Lib.size_eq];exact h
 have e:s.data.toList=s[0]::s.data.toList.drop 1:=by
  have:=List.drop_eq_getElem_cons hl;rw[List.drop_zero]at this;exact this
 unfold takeF
 conv=>lhs;rw[e]
 dsimp only;rw[<-e]
theorem neq_str (a b:ByteArray) (w:World):(binOp .neq 9 (.string a) (.string b)).run prog w= .ok (.bool (!(a.toList==b.toList))) w:=by
 simp[go_sem]
theorem neq_dec (a b:ByteArray) (l m:List UInt8) (ha:a.data.toList=l) (hb:b.data.toList=m):(!(a.toList==b.toList))=decide (l≠m):=by
 subst ha;subst hb;rw[ByteArray.toList_eq,ByteArray.toList_eq];by_cases h:a.data.toList=b.data.toList
 ·simp[h]
 ·have:(a.data.toList==b.data.toList)=false:=by rw[bq0];exact h
  rw[this];simp[h]
theorem results_tmp4 {fn:Func} {t u v x:Tmp} (h:fn.results=#[.tmp t,.tmp u,.tmp v,.tmp x]) (tmps:Array Value) (P:Program) (w:World):
  (results fn tmps).run P w= .ok (.tuple #[tmps.getD t undef,tmps.getD u undef,tmps.getD v undef,tmps.getD x undef]) w:=by
 simp[results,h]
theorem takeF_zero (s:ByteArray) (h:s.size=0):takeF s=(0,.empty,0,20):=by
 have:s.data.toList=[]:=by
  rw[<-List.length_eq_zero_iff,<-Lib.size_eq];exact h
 unfold takeF;rw[this]
theorem FTake_c (s:ByteArray) (hs:s.size<=140737488355328) (w:World):CB prog 43 #[.string s] w (.tuple #[.int .u8 ((takeF s).1:Nat),.string (takeF s).2.1,.int .i64 (takeF s).2.2.1,.int .i64 (takeF s).2.2.2]):=by
 by_cases h0:s.size=0
 ·rw[takeF_zero s h0];obtain rfl:s={data:=#[]}:=by apply ByteArray.ext;exact Array.eq_empty_of_size_eq_zero h0
  go_enter func43,ntmps43
  go_wp2_with fail
  ((try simp only[Exit.inBlock,Exit.then]);refine bodyPost_ret (results_tmp4 rfl _ _ _) rfl ?_)
  exact⟨rfl,Below.refl _ _⟩
 have hpos:0<s.size:=by omega
 have hq:s.toList.isEmpty=false:=by
  rw[List.isEmpty_eq_false_iff];intro e;have h1:s={data:=#[]}:=(bytes_inj s {data:=#[]}).1 (e.trans (by kernel_rfl));rw[h1]at hpos;exact absurd hpos (by decide)
 have HE:=Lh (takeF_at s hpos);generalize takeF s=R at*;have hc8:(s[0]).toNat<256:=(s[0]).toNat_lt;have HIX:Hd (s[0]=s[0]):=rfl;have HTT:=Lh (TakeText_c (s.extract 1 s.size) (by rw[ByteArray.size_extract];omega));obtain⟨m,hm,hms⟩:=takeT_le (s.extract 1 s.size);have hms2:m+1<=s.size:=by rw[ByteArray.size_extract]at hms;omega
 generalize hT:takeT (s.extract 1 s.size)=T at*;obtain⟨u,mz,er⟩:=T;dsimp only at hm HTT HE;subst hm;clear hms;generalize hx:s[0]=x at*;by_cases hz:x.toNat=0
 ·have HR:Hd (R=(0,.empty,0,21)):=by show _=_;rw[HE.o,if_pos hz]
  have d0:((x.toNat:Int)==0)=true:=by rw[beq_iff_eq];omega
  clear HE hz;go_enter func43,ntmps43
  go_wp2_with fail
  ((try simp only[Exit.inBlock,Exit.then]);refine bodyPost_ret (results_tmp4 rfl _ _ _) rfl ?_)
  rw[HR.o];exact⟨rfl,Below.refl _ _⟩
 rw[if_neg hz]at HE;have d0:((x.toNat:Int)==0)=false:=by rw[bq0];omega
 clear hz;have hcut:s.extract 1 s.size=s.extract 1 s.size:=rfl;by_cases he:er=0
 ·subst he;rw[if_neg (by simp)]at HE;by_cases hl:(s.size:Int)<(m:Int)+5
  ·rw[if_pos hl]at HE;have d1:decide ((s.size:Int)<(m:Int)+1+4)=true:=dt0 (by omega);go_enter func43,ntmps43
   go_wp2_with (first|(go_at_call 47;refine(HTT.o _).mono ?_;rintro e w1 ⟨rfl,rfl⟩)|fail)
   ((try simp only[Exit.inBlock,Exit.then]);refine bodyPost_ret (results_tmp4 rfl _ _ _) rfl ?_)
   rw[HE.o];exact⟨rfl,Below.refl _ _⟩
  ·rw[if_neg hl]at HE;have d1:decide ((s.size:Int)<(m:Int)+1+4)=false:=df0 (by omega);obtain⟨d2,d3,d4,d5,d6,d7,d8⟩:(m:Int)+1+4<=(s.size:Int)/\(0:Int)<=(m:Int)+1/\(0:Int)<=(m:Int)+1+4/\(m:Int)+1<=(m:Int)+1+4/\(m:Int)+1<=(s.size:Int)/\(m:Int)+5<=(s.size:Int)/\(m:Int)+1<=(m:Int)+5:=by and_intros<;>(omega)
   go_enter func43,ntmps43
   go_upto_region 11 with (first|(go_at_call 47;refine(HTT.o _).mono ?_;rintro e w1 ⟨rfl,rfl⟩)|fail)
   have hm1:((m:Int)+1).toNat=m+1:=by omega
   rw[hm1]at HE;obtain⟨q,hq1⟩: ∃q:Nat,q=m+1:=⟨_,rfl⟩;have hq2:(m:Int)+1=(q:Int):=by omega
   have hq5:(m:Int)+5=(q:Int)+4:=by omega
   rw[hq2];rw[<-hq1,hq5]at HE;obtain⟨e1,e2,e3⟩:q+4<=s.size/\(q:Int)+4<=(s.size:Int)/\q<=s.size:=by and_intros<;>(omega)
   have e4:IntKind.i64.wrap ((q:Int)+4)=(q:Int)+4:=by rw[IntKind.wrap_i64];omega
   obtain⟨e5,e6,e7⟩:(0:Int)<=(q:Int)+4/\(q:Int)<=(q:Int)+4/\((q:Int)+4).toNat=q+4:=by and_intros<;>(omega)
   clear d1 d2 d3 d4 d5 d6 d7 d8 hl hm1 hq2 hq5 hms2 HTT hT hq1;have HLS:Hd ((s.extract 0 q).data.toList=s.data.toList.take q):=by
    have:=extract_list s 0 q;rwa[Nat.zero_add,List.drop_zero]at this
   have HL4:Hd ((s.extract q (q+4)).data.toList=(s.data.toList.drop q).take 4):=extract_list s q 4;have HSZ:Hd ((s.extract 0 q).size<=140737488355328):=by show _<=_;rw[ByteArray.size_extract];omega
   have HO:Hd (∀W:World,W.cell? ⟨w.heap.size,0,none⟩=some (.string (s.extract 0 q))->Calls prog 79 #[.slice (some ⟨w.heap.size,0,none⟩) 1 1] W fun e w'=>e= .returned (.int .u32 (sumB (s.data.toList.take q)))/\W=w'):=by
    intro W hW;have:=sumOf_c (s.extract 0 q) HSZ.o w.heap.size W hW;rwa[HLS.o]at this
   have HTL:=Lh (ftail_c (sumB (s.data.toList.take q)) (sumB_lt _));generalize sumB (s.data.toList.take q)=sm at*;have hbin: ∀w:World,(binOp .neq 9 (.string (s.extract q (q+4))) (.string (bstr (tailL sm)))).run prog w= .ok (.bool (decide ((s.data.toList.drop q).take 4≠tailL sm))) w:=fun w=>by rw[neq_str,neq_dec _ _ _ _ HL4.o (bstr_list _)]
   generalize hbb:decide ((s.data.toList.drop q).take 4≠tailL sm)=bb at*;have HBB:=Lh hbb;clear hbb
   go_cut [32] (fun s32 wx=>Below w.heap.size w wx/\s32= .bool bb)
   case first=>
    go_region_with (first|(go_at_call 79;refine(HO.o _ (by first|exact(Blk.new w _ _).cell 0|exact(Blk.new w.drew _ _).cell 0)).mono ?_;rintro e w3 ⟨rfl,rfl⟩)|(go_at_call 78;refine(HTL.o _).mono ?_;rintro e w4 ⟨rfl,hb4⟩))
    all_goals
     go_wp2_with fail
     go_meet;refine⟨?_,by first|rfl|(rw[neq_dec _ _ _ _ HL4.o (bstr_list _),HBB.o])⟩;exact(((Below.refl w.heap.size w).alloc le0 _).drew).trans (hb4.mono (by show _<=(w.alloc _).heap.size;simp))
   case rest=>
   obtain⟨hBc,rfl⟩:=hcut;clear hbin HO HTL
   cases bb
   ·have hne: ¬(List.take 4 (List.drop q s.data.toList)≠tailL sm):=of_decide_eq_false HBB.o;rw[if_neg hne]at HE;clear hne HBB
    go_wp2_with fail
    ((try simp only[Exit.inBlock,Exit.then]);refine bodyPost_ret (results_tmp4 rfl _ _ _) rfl ?_)
    rw[HE.o];exact⟨rfl,hBc⟩
   ·have hne:List.take 4 (List.drop q s.data.toList)≠tailL sm:=of_decide_eq_true HBB.o;rw[if_pos hne]at HE;clear hne HBB
    go_wp2_with fail
    ((try simp only[Exit.inBlock,Exit.then]);refine bodyPost_ret (results_tmp4 rfl _ _ _) rfl ?_)
    rw[HE.o];exact⟨rfl,hBc⟩
 ·rw[if_pos he]at HE;have d1:(er !=0)=true:=by simpa using he
  clear he;go_enter func43,ntmps43
  go_wp2_with (first|(go_at_call 47;refine(HTT.o _).mono ?_;rintro e w1 ⟨rfl,rfl⟩)|fail)
  ((try simp only[Exit.inBlock,Exit.then]);refine bodyPost_ret (results_tmp4 rfl _ _ _) rfl ?_)
  rw[HE.o];exact⟨rfl,Below.refl _ _⟩
theorem rsumOf_c (s:ByteArray) (hs:s.size<=140737488355328) (w:World):Calls prog 148 #[.string s] w fun e w'=>e= .returned (.int .u32 (sumB s.data.toList))/\w=w':=by
 have hlen:s.data.toList.length=s.size:=(Lib.size_eq s).symm;have HST:Hd (∀k (h:k<s.size),smL (1,0) (s.data.toList.take (k+1))=sm1 (smL (1,0) (s.data.toList.take k)) s[k]):=fun k h=>smL_take (1,0) s.data.toList k (by rw[hlen];exact h);have HLT:Hd (∀k,(smL (1,0) (s.data.toList.take k)).1<65521/\(smL (1,0) (s.data.toList.take k)).2<65521):=fun k=>smL_lt _ _ (by decide) (by decide);have HE:Hd (s.data.toList.take s.size=s.data.toList):=by show _=_;exact List.take_of_length_le (by rw[hlen];exact le0)
 have HSB:Hd (sumB s.data.toList=65536*(smL (1,0) s.data.toList).2+(smL (1,0) s.data.toList).1):=rfl;generalize sumB s.data.toList=R at*;clear hlen;go_enter func148,ntmps148
 go_wp2_with fail
 go_loop [3,4,5] (fun a b q=> ∃k:Nat,q= .int .i64 k/\k<=s.size/\a= .int .i64 ((smL (1,0) (s.data.toList.take k)).1:Nat)/\b= .int .i64 ((smL (1,0) (s.data.toList.take k)).2:Nat)) (fun _ _ q=>s.size-(intOf q).toNat)
 case atStart=>exact⟨0,rfl,ze0,by rfl,by rfl⟩
 case round=>
  obtain⟨k,rfl,hk,rfl,rfl⟩:=hrel;by_cases hlt:k<s.size
  ·have hst:=HST.o k hlt;have hl1:=HLT.o k;have HST1:=Lh hst;have hc8:(s[k]).toNat<256:=(s[k]).toNat_lt;clear hst;generalize smL (1,0) (s.data.toList.take k)=p at*;generalize hcc:s[k]=c at*;obtain⟨a,b⟩:=p;obtain⟨ha,hb⟩:=hl1;dsimp only at ha hb HST1⊢
   go_wp2_with fail
   go_round
   case rel=>
    refine⟨k+1,by go_num,by omega,?_,?_⟩
    ·rw[HST1.o];simp only[sm1];congr 1
    ·rw[HST1.o];simp only[sm1];congr 1
   case measure=>simp[intOf];omega
  ·obtain rfl:k=s.size:=by omega
   have hl1:=HLT.o s.size;rw[HE.o]at hl1⊢;generalize smL (1,0) s.data.toList=p at*;obtain⟨a,b⟩:=p;obtain⟨ha,hb⟩:=hl1;dsimp only at ha hb HSB⊢
   go_wp2_with fail
   go_ret;rw[HSB.o];exact⟨by simp,rfl⟩
theorem rtail_c (n:Nat) (hn:n<4294967296) (w:World):CB prog 147 #[.int .u32 n] w (.string (bstr (tailL n))):=by
 have hconv:=tail_conv n hn _ _ _ (Blk.new w #[.int .u8 ((n:Int)%256),.int .u8 ((n:Int)/256%256),.int .u8 ((n:Int)/65536%256),.int .u8 ((n:Int)/16777216)] 5);go_enter func147,ntmps147
 go_wp2_with fail
 go_ret;exact⟨rfl,br0.alloc le0 _⟩
theorem rFPut_c (k:Nat) (h0:0<k) (h1:k<256) (u:ByteArray) (hu:u.size<=65536) (w:World):CB prog 89 #[.int .u8 (k:Int),.string u] w (.tuple #[.string (bstr (frL k u)),.int .i64 0]):=by
 have hk0:((k:Int)==0)=false:=by rw[bq0];omega
 have hlen:=(txtL_len u hu).1;have HFR:Hd (frL k u=([UInt8.ofNat k]++txtL u)++tailL (sumB ([UInt8.ofNat k]++txtL u))):=rfl;have HLT:=Lh (sumB_lt ([UInt8.ofNat k]++txtL u));have HBA:Hd (∀l m,bstr l++bstr m=bstr (l++m)):=bstr_app;have HSZ:Hd (∀l,(bstr l).size=l.length):=bstr_size;have HT2:=Lh (rPutText_c u hu w);generalize frL k u=FL at*;generalize txtL u=T at*;go_enter func89,ntmps89
 go_upto_region 6 with (first|(go_at_call 87;refine HT2.o.mono ?_;rintro e w1 ⟨rfl,hb1⟩)|fail)
 have hB:=Blk.new w1 #[.int .u8 (k:Int)] 5;have hconv:=one_conv k h1 _ _ _ hB;have hsz1:(bstr [UInt8.ofNat k]).size=1:=HSZ.o _;have hsz2:(bstr T).size<=65546:=by rw[HSZ.o];omega
 obtain⟨S,hS⟩: ∃S,bstr ([UInt8.ofNat k]++T)=S:=⟨_,rfl⟩;have happ:bstr [UInt8.ofNat k]++bstr T=S:=(HBA.o _ _).trans hS;have HSS:=Lh hS;clear hS
 go_upto_region 7 with fail
 have hszS:S.size<=70000:=by rw[<-HSS.o,HSZ.o,la0,List.length_singleton];omega
 have hB2:Below w.heap.size w (w1.alloc (.cells #[.int .u8 (k:Int)] 5)):=hb1.alloc hb1.size _;clear hB hconv hsz1 hsz2 happ hb1 HT2;have HL:Hd (S.data.toList=[UInt8.ofNat k]++T):=by show _=_;rw[<-HSS.o];exact bstr_list _
 generalize World.alloc w1 _=W at*;have HO:=Lh (rsumOf_c S (by omega) W);rw[HL.o]at HO;have HTL:=Lh (rtail_c (sumB ([UInt8.ofNat k]++T)) HLT.o W);have htz:(bstr (tailL (sumB ([UInt8.ofNat k]++T)))).size=4:=bstr_size _;generalize sumB ([UInt8.ofNat k]++T)=sm at*
 go_wp2_with (first|(go_at_call 148;refine HO.o.mono ?_;rintro e w3 ⟨rfl,rfl⟩)|(go_at_call 147;refine HTL.o.mono ?_;rintro e w4 ⟨rfl,hb4⟩)|fail)
 go_ret2;refine⟨?_,hB2.trans (hb4.mono hB2.size)⟩;rw[HFR.o,<-HBA.o,HSS.o];rfl
theorem rFTake_c (s:ByteArray) (hs:s.size<=140737488355328) (w:World):CB prog 104 #[.string s] w (.tuple #[.int .u8 ((takeF s).1:Nat),.string (takeF s).2.1,.int .i64 (takeF s).2.2.1,.int .i64 (takeF s).2.2.2]):=by
 by_cases h0:s.size=0
 ·rw[takeF_zero s h0];obtain rfl:s={data:=#[]}:=by apply ByteArray.ext;exact Array.eq_empty_of_size_eq_zero h0
  go_enter func104,ntmps104
  go_wp2_with fail
  ((try simp only[Exit.inBlock,Exit.then]);refine bodyPost_ret (results_tmp4 rfl _ _ _) rfl ?_)
  exact⟨rfl,Below.refl _ _⟩
 have hpos:0<s.size:=by omega
 have hq:((s.size:Int)==0)=false:=by rw[bq0];omega
 have HE:=Lh (takeF_at s hpos);generalize takeF s=R at*;have hc8:(s[0]).toNat<256:=(s[0]).toNat_lt;have HIX:Hd (s[0]=s[0]):=rfl;have HTT:=Lh (fun W=>rTakeText_c (s.extract 1 s.size) (by rw[ByteArray.size_extract];omega) W);obtain⟨m,hm,hms⟩:=takeT_le (s.extract 1 s.size);have hms2:m+1<=s.size:=by rw[ByteArray.size_extract]at hms;omega
 generalize hT:takeT (s.extract 1 s.size)=T at*;obtain⟨u,mz,er⟩:=T;dsimp only at hm HTT HE;subst hm;clear hms;generalize hx:s[0]=x at*;by_cases hz:x.toNat=0
 ·have HR:Hd (R=(0,.empty,0,21)):=by show _=_;rw[HE.o,if_pos hz]
  have d0:((x.toNat:Int)==0)=true:=by rw[beq_iff_eq];omega
  clear HE hz;go_enter func104,ntmps104
  go_wp2_with fail
  ((try simp only[Exit.inBlock,Exit.then]);refine bodyPost_ret (results_tmp4 rfl _ _ _) rfl ?_)
  rw[HR.o];exact⟨rfl,Below.refl _ _⟩
 rw[if_neg hz]at HE;have d0:((x.toNat:Int)==0)=false:=by rw[bq0];omega
 clear hz;by_cases he:er=0
 case neg=>
  rw[if_pos he]at HE;have d1:(er !=0)=true:=by simpa using he
  clear he;go_enter func104,ntmps104
  go_wp2_with (first|(go_at_call 110;refine(HTT.o _).mono ?_;rintro e w1 ⟨rfl,rfl⟩)|fail)
  ((try simp only[Exit.inBlock,Exit.then]);refine bodyPost_ret (results_tmp4 rfl _ _ _) rfl ?_)
  rw[HE.o];exact⟨rfl,Below.refl _ _⟩
 subst he;rw[if_neg (by simp)]at HE;by_cases hl:(s.size:Int)<(m:Int)+5
 ·rw[if_pos hl]at HE;have d1:decide ((s.size:Int)<(m:Int)+5)=true:=dt0 hl;go_enter func104,ntmps104
  go_wp2_with (first|(go_at_call 110;refine(HTT.o _).mono ?_;rintro e w1 ⟨rfl,rfl⟩)|fail)
  ((try simp only[Exit.inBlock,Exit.then]);refine bodyPost_ret (results_tmp4 rfl _ _ _) rfl ?_)
  rw[HE.o];exact⟨rfl,Below.refl _ _⟩
 rw[if_neg hl]at HE;have d1:decide ((s.size:Int)<(m:Int)+5)=false:=df0 hl;have d2:(m:Int)+5<=(s.size:Int):=by omega
 go_enter func104,ntmps104
 go_upto_region 10 with (first|(go_at_call 110;refine(HTT.o _).mono ?_;rintro e w1 ⟨rfl,rfl⟩)|fail)
 have hm1:((m:Int)+1).toNat=m+1:=by omega
 rw[hm1]at HE;obtain⟨q1,q2,q3,q4,q5⟩:(0:Int)<=(m:Int)+1/\(m:Int)+1<=(m:Int)+5/\(m:Int)+1<=(s.size:Int)/\(0:Int)<=(m:Int)+5/\((m:Int)+5).toNat=m+1+4:=by and_intros<;>(omega)
 have q6:IntKind.i64.wrap ((m:Int)+1)=(m:Int)+1:=by rw[IntKind.wrap_i64];omega
 have q7:IntKind.i64.wrap ((m:Int)+5)=(m:Int)+5:=by rw[IntKind.wrap_i64];omega
 have HLS:Hd ((s.extract 0 (m+1)).data.toList=s.data.toList.take (m+1)):=by
  have:=extract_list s 0 (m+1);rwa[Nat.zero_add,List.drop_zero]at this
 have HL4:Hd ((s.extract (m+1) (m+1+4)).data.toList=(s.data.toList.drop (m+1)).take 4):=extract_list s (m+1) 4;have HO:Hd (∀W:World,Calls prog 148 #[.string (s.extract 0 (m+1))] W fun e w'=>e= .returned (.int .u32 (sumB (s.data.toList.take (m+1))))/\W=w'):=by
  intro W;have:=rsumOf_c (s.extract 0 (m+1)) (by rw[ByteArray.size_extract];omega) W;rwa[HLS.o]at this
 have HTL:=Lh (rtail_c (sumB (s.data.toList.take (m+1))) (sumB_lt _));generalize sumB (s.data.toList.take (m+1))=sm at*;have hbin: ∀w:World,(binOp .neq 9 (.string (s.extract (m+1) (m+1+4))) (.string (bstr (tailL sm)))).run prog w= .ok (.bool (decide ((s.data.toList.drop (m+1)).take 4≠tailL sm))) w:=fun w=>by rw[neq_str,neq_dec _ _ _ _ HL4.o (bstr_list _)]
 generalize hbb:decide ((s.data.toList.drop (m+1)).take 4≠tailL sm)=bb at*;have HBB:=Lh hbb;clear hbb
 go_cut [42] (fun s42 wx=>Below w.heap.size w wx/\s42= .bool bb)
 case first=>
  go_region_with (first|(go_at_call 148;refine(HO.o _).mono ?_;rintro e w3 ⟨rfl,rfl⟩)|(go_at_call 147;refine(HTL.o _).mono ?_;rintro e w4 ⟨rfl,hb4⟩))
  all_goals
   go_wp2_with fail
   go_meet;exact⟨((Below.refl w.heap.size w).drew).trans hb4,by first|rfl|(rw[neq_dec _ _ _ _ HL4.o (bstr_list _),HBB.o])⟩
 case rest=>
 obtain⟨hBc,rfl⟩:=hcut;clear hbin HO HTL
 cases bb
 ·have hne: ¬(List.take 4 (List.drop (m+1) s.data.toList)≠tailL sm):=of_decide_eq_false HBB.o;rw[if_neg hne]at HE;clear hne HBB
  go_wp2_with fail
  ((try simp only[Exit.inBlock,Exit.then]);refine bodyPost_ret (results_tmp4 rfl _ _ _) rfl ?_)
  rw[HE.o];exact⟨rfl,hBc⟩
 ·have hne:List.take 4 (List.drop (m+1) s.data.toList)≠tailL sm:=of_decide_eq_true HBB.o;rw[if_pos hne]at HE;clear hne HBB
  go_wp2_with fail
  ((try simp only[Exit.inBlock,Exit.then]);refine bodyPost_ret (results_tmp4 rfl _ _ _) rfl ?_)
  rw[HE.o];exact⟨rfl,hBc⟩
def fmL (l:List Frm):List Value:=l.flatMap fun p=> [.int .u8 (p.1:Int),.string p.2]
theorem fmL_snoc (l:List Frm) (p:Frm):fmL (l++ [p])=fmL l++ [.int .u8 (p.1:Int),.string p.2]:=by
 unfold fmL;rw[List.flatMap_append,List.flatMap_cons,List.flatMap_nil,List.append_nil]
theorem fmL_at: ∀(l:List Frm) (k:Nat) (h:k<l.length),(fmL l)[k*2]? =some (.int .u8 (l[k].1:Int))/\(fmL l)[k*2+1]? =some (.string l[k].2)
 |p::l,0,_=>⟨rfl,rfl⟩
 |p::l,k+1,h=>by
  have e:fmL (p::l)= .int .u8 (p.1:Int):: .string p.2::fmL l:=rfl
  rw[e,show(k+1)*2=k*2+1+1 by omega]
  simp only[List.getElem?_cons_succ,List.getElem_cons_succ]
  exact fmL_at l k (by simpa using h)
theorem info_fm:(prog.info? 96).map (fun i=>(i.zero,i.size,i.bytes))=some (some (.agg #[.int .u8 0,.string {data:=#[]}]),2,24):=by kernel_rfl
theorem cell_two_new (w:World) (a b:Value) (t:TypeId): ∀j u,[a,b][j]? =some u->(w.alloc (.cells #[a,b] t)).cell? ((⟨w.heap.size,0,none⟩:Addr).add j)=some u:=by
 intro j u hj;have hj2:j<2:=(List.getElem?_eq_some_iff.1 hj).1;rw[Addr.add_lit,Nat.zero_add,(Blk.new w #[a,b] t).cell j];simpa using hj
theorem frs_count2: ∀l:List Frm,l.length<=(frs l).length
 | []=>ze0
 |p::l=>by
  have:=frs_count2 l
  rw[frs_cons,la0,frL_len,List.length_cons]
  omega
theorem rAll_c (s:ByteArray) (hs:s.size<=10000000) (w:World):Calls prog 49 #[.string s] w fun e w'=> ∃v,e= .returned (.tuple #[v,.int .i64 ((frs (allF s)).length:Nat)])/\
  w'.ownsRow w.heap.size 96 2 v (allF s).length (fmL (allF s))/\Below w.heap.size w w':=by
 go_enter func49,ntmps49
 go_wp2_with fail
 go_loopw [4,5] (fun s4 q wr=> ∃(a:Option Addr) (cap:Nat) (l:List Frm) (k:Nat),s4= .slice a l.length cap/\k=(frs l).length/\q= .int .i64 k/\k<=s.size/\wr.ownsRow w.heap.size 96 2 (.slice a l.length cap) l.length (fmL l)/\Below w.heap.size w wr/\allF s=l++allF (s.extract k s.size)) (fun _ q _=>s.size+1-(intOf q).toNat)
 case atStart=>exact⟨none,0,[],0,rfl,rfl,rfl,ze0,World.ownsRow_nil _ _ _ _,Below.refl _ _,by rw[show s.extract 0 s.size=s from by apply ByteArray.ext;simp];rfl⟩
 case round=>
  obtain⟨a,cap,l,k,rfl,hkl,rfl,hk,hown,hB,hall⟩:=hrel;have HKL:=Lh hkl;have HOWN:=Lh hown;have HB:=Lh hB;have hlk:l.length<=k:=by rw[hkl];exact frs_count2 l
  have hz:(s.extract k s.size).size=s.size-k:=by rw[ByteArray.size_extract];omega
  have HT:=Lh (fun W=>rFTake_c (s.extract k s.size) (by omega) W);obtain⟨m,hm,hms,hm5⟩:=takeF_le (s.extract k s.size);have HST:=Lh (allF_step (s.extract k s.size));have HSP:=Lh (allF_stop (s.extract k s.size));have HBK:=Lh (takeF_back (s.extract k s.size));have HALL:=Lh hall;have hkm:k+m<=s.size:=by omega
  have HXX:Hd ((s.extract k s.size).extract m (s.extract k s.size).size=s.extract (k+m) s.size):=by
   show _=_;rw[<-bstr_of ((s.extract k s.size).extract m _),<-bstr_of (s.extract (k+m) s.size),cut_list,cut_list,cut_list,List.drop_drop]
  clear hkl hall hown hB hz;generalize takeF (s.extract k s.size)=T at*;obtain⟨kd,u,mz,er⟩:=T;dsimp only at hm hm5 HT HST HSP HBK;subst hm;have hki:(k:Int)<=(s.size:Int):=by omega
  by_cases he:er=0
  ·subst he;have hm6:=hm5 rfl;obtain⟨h1,h2,h3,h4,_⟩:=HBK.o rfl;have HML:Hd ((frL kd u).length=m):=by show _=_;omega
   have hst:=HST.o rfl;rw[Int.toNat_natCast,HXX.o]at hst;have HAL:Hd (allF s=(l++ [(kd,u)])++allF (s.extract (k+m) s.size)):=by show _=_;rw[HALL.o,hst];simp
   clear hm5 HST HSP HBK h4 hst HALL HXX;obtain⟨i0,hi,hz0,hz1,hz2⟩:=info_parts info_fm
   go_upto_region 6 with (first|(go_at_call 104;refine(HT.o _).mono ?_;rintro e w1 ⟨rfl,hb1⟩)|fail)
   have HB1:=Lh (HB.o.trans (hb1.mono HB.o.size));have hown1:=own_keep HOWN.o hb1;have HOWN1:=Lh hown1;have hcell:=cell_two_new w1 (.int .u8 (kd:Int)) (.string u) 96;clear hown1 hb1 HT HOWN
   go_wp2_with (first
    |(at_builtin;(refine wpList_append_own _ rfl _ _ 91 rfl w.heap.size 96 i0 (.agg #[.int .u8 0,.string {data:=#[]}]) 2 24 underlying91 hi hz0 hz1 hz2 rfl (by decide) (.slice a l.length cap) l.length (fmL l) rfl (HOWN1.o.alloc _) ⟨w1.heap.size,0,none⟩ 1 1 [.int .u8 (kd:Int),.string u] rfl rfl hcell (by simp[Value.oneCell']) (by unfold maxLen;omega) (by omega) (by have:=HB1.o.size;simp;omega) ?_);intro v' w3 hown3 hgrow3 _;obtain⟨g',cap',rfl⟩:=owns_succ hown3)
    |fail)
   go_roundw
   case rel=>
    refine⟨_,cap',l++ [(kd,u)],k+m,by rw[la0];rfl,?_,by go_num,hkm,?_,?_,HAL.o⟩
    ·rw[frs_app,frs_cons,frs_nil,List.append_nil,la0,<-HKL.o,HML.o]
    ·rw[fmL_snoc,la0];exact hown3
    ·exact(HB1.o.alloc HB1.o.size _).grown hgrow3 (by have:=HB1.o.size;simp;omega) (fun q hq=>(HOWN1.o.lt q hq).1)
   case measure=>simp[intOf];omega
  ·have hE:Hd (allF s=l):=by show _=_;rw[HALL.o,HSP.o he,List.append_nil]
   have e0:(er !=0)=true:=by simpa using he
   clear he hm5 HST HSP HBK HALL HXX
   go_wp2_with (first|(go_at_call 104;refine(HT.o _).mono ?_;rintro e w1 ⟨rfl,hb1⟩)|fail)
   go_ret2;rw[hE.o];exact⟨_,by rw[<-HKL.o];rfl,own_keep HOWN.o hb1,HB.o.trans (hb1.mono HB.o.size)⟩
