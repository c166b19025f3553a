/- Parts. -/
import Derived.Test.YtgbfdcmkbblodaaGreatDoorVW21
import Derived.Test.YtgbfdcmkbblodaaGreatDoorVY18
namespace Go.Proofs.YtgbfdcmkbblodaaGreatDoor
open Go.RowKit
set_option linter.unusedVariables false
set_option linter.unusedSimpArgs false
set_option maxRecDepth 100000
set_option maxHeartbeats 16000000
open Tryz
theorem rputLit_c (zs:List Int) (m:Nat) (cs:Array Value) (hcs:cs.toList=zs.map (Value.int .i64)) (hm:zs.length=m) (hr: ∀z∈zs,-9223372036854775808<=z/\z<=9223372036854775807) (hl:m<=1000) (W:World):
  Calls prog 38 #[.slice (some ⟨W.heap.size,0,none⟩) m m] (W.alloc (.cells cs 2)) fun e w'=>e= .returned (.string (bstr (putL zs)))/\Below W.heap.size W w':=by
 have hsz:cs.size=m:=by rw[<-Array.length_toList,hcs,List.length_map,hm]
 have hsl:Sl (W.alloc (.cells cs 2)) (W.alloc (.cells cs 2)).heap.size 1 (.slice (some ⟨W.heap.size,0,none⟩) m m) m (zs.map (Value.int .i64)):=
  ⟨by rw[List.length_map,hm];omega,_,m,rfl,le0,by unfold maxLen;omega,.inr ⟨W.heap.size,0,rfl,by simp,fun j hj=>by
   rw[Nat.zero_add,(Blk.new W cs 2).cell j,<-hcs]
   simp⟩⟩
 refine(rPut_c zs m _ _ _ hsl hm le0 hr hl).mono ?_;rintro e w1 ⟨rfl,hb1⟩;exact⟨rfl,((Below.refl W.heap.size W).alloc le0 _).trans (hb1.mono (by simp))⟩
def RPutExC (h:Nat):Prop:= ∀(x:Ex) (v:Value) (B:Nat) (w:World),x.ht<=h->x.ok->x.by.length<=1000000->ExAt w B v x->B<=w.heap.size->
 CB prog 88 #[v] w (.string (bstr x.by))
theorem rputEx_step (h:Nat) (IH:Hd (∀x:Ex,x.ht<h-> ∀(v:Value) (B:Nat) (w:World),x.ok->x.by.length<=1000000->ExAt w B v x->B<=w.heap.size->
   CB prog 88 #[v] w (.string (bstr x.by)))):RPutExC h:=by
 intro x v B w hh hok hby hv hB;have HLT:Hd (∀a∈x.args,a.ht<h):=fun a ha=>by have:=Ex.ht_args x a ha;omega
 obtain⟨hop1,hop2,hn1,hn2,hoa⟩:=Ex.okC hok;have HOK:=Lh (Exs.okC x.args hoa);clear hoa;have hbe:=Ex.by_eq x;obtain⟨sv,rfl,hs⟩:=hv;obtain⟨a,cap,rfl,hcap,hmx⟩:=hs.slice;have HS:=Lh hs;have hll:x.args.length<=9223372036854775807:=by unfold maxLen at hmx;omega
 rw[hbe]at hby⊢;generalize x.op=o at*;generalize x.n=n at*;generalize x.args=l at*;clear hs hh hok hbe;have hrng: ∀z∈ [o,n,(l.length:Int)],-9223372036854775808<=z/\z<=9223372036854775807:=by
  intro z hz;simp only[List.mem_cons,List.not_mem_nil,or_false]at hz;rcases hz with rfl|rfl|rfl<;>omega
 have HC3:=Lh (rputLit_c [o,n,(l.length:Int)] 3 #[.int .i64 o,.int .i64 n,.int .i64 (l.length:Int)] rfl rfl hrng (by omega));rw[la0]at hby;generalize putL [o,n,(l.length:Int)]=P at*;clear hrng;have HTL:Hd (∀k,(Exs.by (l.take k)).length<=(Exs.by l).length):=Exs.by_take_le l;have hW:=(Below.refl w.heap.size w).alloc le0 (.cells #[.int .u8 o,.int .i64 n,.slice a l.length cap] 133);have hbx:=Blk.new w #[.int .u8 o,.int .i64 n,.slice a l.length cap] 133;go_enter func88,ntmps88
 go_upto_region 1 with fail
 generalize World.alloc w _=W at*;obtain⟨p0,p1,p2⟩:=hbx.q3
 go_wp2_with fail
 refine(HC3.o _).mono ?_;rintro e w1 ⟨rfl,hb1⟩;have hW1:=hW.trans (hb1.mono hW.size);have hbx1:=hbx.below hb1 hbx.lt;clear p0 p1 p2 hb1 hW hbx HC3;have hzw:=hbx1.lt;have hPe:bstr P=bstr (P++Exs.by (l.take 0)):=by simp[Exs.by]
 rw[hPe]
 go_wp2_with fail
 clear hPe
 go_loopw [3,4] (fun s q wr=> ∃k:Nat,q= .int .i64 (k:Int)/\k<=l.length/\s= .string (bstr (P++Exs.by (l.take k)))/\Below w.heap.size w wr/\Blk wr w.heap.size 133 #[.int .u8 o,.int .i64 n,.slice a l.length cap]) (fun _ q _=>l.length-(intOf q).toNat)
 case atStart=>exact⟨0,rfl,ze0,rfl,hW1,hbx1⟩
 case round=>
  clear hW1 hbx1 hzw;obtain⟨k,rfl,hk,rfl,hBr,hbr⟩:=hrel;have p2:=hbr.cell 2;by_cases hlt:k<l.length
  ·have hd1:decide ((k:Int)<(l.length:Int))=true:=dt0 (by omega);obtain⟨b,off,cp,sv,e1,hb,c0,c1,c2,hsub⟩:=((HS.o.mono hB).keep hBr).at_ k hlt;simp only[vs0,true_and]at e1;obtain⟨rfl,rfl⟩:=e1;obtain⟨a2,cap2,rfl,_,_⟩:=hsub.slice;have hht:=HLT.o _ (List.getElem_mem hlt);have hoky:=HOK.o k hlt;have HTK:=Lh (Exs.by_take l k hlt);have hb1:=HTL.o k;have hb2:=HTL.o (k+1);rw[HTK.o,la0]at hb2;have HX:Hd (ExAt wr w.heap.size (.agg #[.int .u8 (l[k]'hlt).op,.int .i64 (l[k]'hlt).n,.slice a2 (l[k]'hlt).args.length cap2]) (l[k]'hlt)):=⟨_,rfl,hsub⟩;generalize l[k]=y at*;generalize Exs.by (l.take k)=T0 at*
   rename_i hx1 hx2;clear hsub hx1 hx2;have HCY:=Lh (IH.o y hht _ _ _ hoky (by omega) HX.o hBr.size);have hs1:=bstr_size (P++T0);have hs2:=bstr_size y.by
   rw[la0]at hs1;have HBA:=Lh (bstr_app (P++T0) y.by);generalize hyb:y.by=yb at*
   clear hyb;generalize bstr (P++T0)=S0 at*;generalize bstr yb=Sy at*
   go_wp2_with fail
   refine HCY.o.mono ?_;rintro e w3 ⟨rfl,hb3⟩
   go_wp2_with fail
   go_roundw
   case rel=>
    refine⟨k+1,by go_num,by omega,?_,hBr.trans (hb3.mono hBr.size),hbr.below hb3 hbr.lt⟩;rw[HTK.o,<-List.append_assoc,HBA.o]
   case measure=>simp[intOf];omega
  ·have hd1:decide ((k:Int)<(l.length:Int))=false:=df0 (by omega);obtain rfl:k=l.length:=by omega
   rw[List.take_of_length_le le0]
   go_wp2_with fail
   go_ret;exact⟨rfl,hBr⟩
theorem rputEx_all (h:Nat):RPutExC h:=by
 induction h using Nat.strongRecOn with
 |ind h ih=>exact rputEx_step h (fun x hx v B w hok hl hv hB=>ih x.ht hx x v B w le0 hok hl hv hB)
theorem KB.grownR {w0 w w':World} {L:List (Nat×TypeId×Array Value)} {row:Option Nat} (h:KB w0 w L) (hg:w.grownBy w' row) (hr: ∀k,row=some k->w0.heap.size<=k) (hL: ∀x∈L,some x.1≠row):KB w0 w' L:=
 ⟨h.below.grown hg h.below.size hr,fun x hx=>(h.blk x hx).grown hg (hL x hx)⟩
theorem own_new3 (w:World) (e:TypeId) (x y z:Value):(w.alloc (.cells #[x,y,z] e)).ownsRow w.heap.size e 1 (.slice (some ⟨w.heap.size,0,none⟩) 3 3) 3 [x,y,z]:=
 ⟨rfl,.inr ⟨w.heap.size,3,#[x,y,z],rfl,le0,heap_alloc_new w _,le0,by decide,rfl,rfl⟩⟩
theorem putL_app (l m:List Int):putL (l++m)=putL l++putL m:=by unfold putL;rw[List.flatMap_append]
theorem info_i64R:(prog.info? 2).map (fun i=>(i.zero,i.size,i.bytes))=some (some (.int .i64 0),1,8):=by kernel_rfl
theorem rPut14_c (jb:Jb) (hok:jb.ok) (hus: ∀d∈jb.nodes,d.uid.size<=1000000) (hlen:jb.nodes.length<=1000) (v:Value) (B:Nat) (w:World) (hv:JbAt w B v jb) (hB:B<=w.heap.size):
  CB prog 36 #[v] w (.tuple #[.string (bstr jb.putR.1),.int .i64 jb.putR.2]):=by
 obtain⟨j0,ki,kz0,kz1,kz2⟩:=info_parts info_i64R;have HV:=Lh hv;obtain⟨sv,rfl,hs⟩:=hv;obtain⟨a,cap,rfl,hcap,hmx⟩:=hs.slice;have HS:=Lh hs;have hK:=(KB.start w).push #[.int .i64 jb.par,.slice a jb.nodes.length cap] 24;have HMY:Hd (∀W,Below w.heap.size w W->CB prog 82 #[.agg #[.int .i64 jb.par,.slice a jb.nodes.length cap]] W (.tuple #[.int .i64 jb.may.1,.int .i64 jb.may.2])):=fun W h=>rMayJ_c jb hok hus hlen _ B W (HV.o.keep (h.mono hB)) (le1 hB h.size);have HE:Hd (jb.putR=if jb.may.2=0 then(jb.by,0)else([],2)):=rfl;have HGS:=Lh (fun h=>good_small hok h);have HNO:=Lh hok.2.2;have HBE:Hd (jb.by=putL [jb.par,(jb.nodes.length:Int)]++nodesBy jb.nodes):=rfl;generalize jb.putR=R at*;generalize jb.may=m at*;obtain⟨m1,m2⟩:=m;dsimp only at HMY HE HGS;generalize jb.by=jby at*
 generalize jb.par=jp at*;generalize jb.nodes=nds at*;clear hs hcap hok hus;by_cases hm:m2=0
 ·obtain⟨hsm,hn12,hp1,hp2⟩:=HGS.o hm;have hm':(m2 !=0)=false:=by rw[hm];rfl
  have HR:Hd (R=(jby,0)):=by show _=_;rw[HE.o,if_pos hm]
  have HSM:=Lh hsm;have HPR:Hd (∀z∈ [jp,(nds.length:Int)],-9223372036854775808<=z/\z<=9223372036854775807):=by
   intro z hz;simp only[List.mem_cons,List.not_mem_nil,or_false]at hz;rcases hz with rfl|rfl<;>omega
  have HNL:Hd (∀k,k<=nds.length->(nodesBy (nds.take k)).length<=480000):=fun k hk=>by
   have:=nodesBy_len (nds.take k) (fun e he=>hsm e (List.mem_of_mem_take he)) (fun e he=>HNO.o e (List.mem_of_mem_take he));have h2:(nds.take k).length<=12:=by rw[List.length_take];omega
   omega
  have hpl:(putL [jp,(nds.length:Int)]).length<=20:=putL_len [jp,(nds.length:Int)] HPR.o;have HCP:=Lh (rputLit_c [jp,(nds.length:Int)] 2 #[.int .i64 jp,.int .i64 (nds.length:Int)] rfl rfl HPR.o (by omega));generalize hP:putL [jp,(nds.length:Int)]=P at*;have HP:=Lh hP;clear hP;clear hsm HE HGS;go_enter func36,ntmps36
  go_upto_region 1 with fail
  generalize World.alloc w _=W at*;have p0:=hK.hd.cell 0;have p1:=hK.hd.cell 1
  go_wp2_with fail
  refine(HMY.o W hK.below).mono ?_;rintro e w1 ⟨rfl,hq⟩;replace hK:=hK.keep hq;clear p0 p1 hq;have p0:=hK.hd.cell 0;have p1:=hK.hd.cell 1
  go_wp2_with fail
  refine(HCP.o _).mono ?_;rintro e w2 ⟨rfl,hq⟩;replace hK:=hK.keep hq;clear p0 p1 hq;have hPe:bstr P=bstr (P++nodesBy (nds.take 0)):=by simp[nodesBy]
  rw[hPe];clear hPe
  go_wp2_with fail
  go_loopw [6,7] (fun s q wr=> ∃k:Nat,q= .int .i64 (k:Int)/\k<=nds.length/\s= .string (bstr (P++nodesBy (nds.take k)))/\KB w wr [(w.heap.size,24,#[.int .i64 jp,.slice a nds.length cap])]) (fun _ q _=>nds.length-(intOf q).toNat)
  case atStart=>exact⟨0,rfl,ze0,rfl,hK⟩
  case round=>
   clear hK;obtain⟨k,rfl,hk,rfl,hKr⟩:=hrel;have hBr:=hKr.below;have j1:=hKr.hd.cell 1;have hjlt:=hKr.hd.lt;by_cases hlt:k<nds.length
   ·have hd1:decide ((k:Int)<(nds.length:Int))=true:=dt0 (by omega);obtain⟨b,off,cp,e1,hb,hu,iv,sv,c0,c1,c2,c3,c4,c5,c6,hin⟩:=((HS.o.mono hB).keep hBr).at_ k hlt;simp only[vs0,true_and]at e1;obtain⟨rfl,rfl⟩:=e1;obtain⟨a2,cap2,rfl,_,_⟩:=hin.2.slice;obtain⟨_,ai,capi,rfl,_,hmi,hrest⟩:=id hin.1;clear hrest;have hd:=HSM.o _ (List.getElem_mem hlt);have hdok:=HNO.o _ (List.getElem_mem hlt);have HTK:=Lh (nodesBy_take nds k hlt);have hnl:=HNL.o k hk;have hnl2:=HNL.o (k+1) (by omega);rw[HTK.o,la0]at hnl2;generalize nds[k]=d at*;have HDB:Hd (d.by=txtL d.uid++putL [d.kind,d.n,(d.ins.length:Int)]++putL d.ins++d.x.by):=rfl;have hus:=hd.uid;have hii:=hd.ins;have hxl:=hd.x;obtain⟨k1,k2,k3,k4,k5,k6⟩:=hdok;have HIO:=Lh k3;have HXO:=Lh k4;have HP3:Hd (∀z∈ [d.kind,d.n,(d.ins.length:Int)],-9223372036854775808<=z/\z<=9223372036854775807):=by
     intro z hz;simp only[List.mem_cons,List.not_mem_nil,or_false]at hz;rcases hz with rfl|rfl|rfl<;>omega
    have htx:(txtL d.uid).length<=200:=by
     have h6:=putN_len (d.uid.size:Int) (by omega) (by omega);have h7:=Lib.size_eq d.uid;unfold txtL;rw[la0];omega
    have HI1:=Lh hin.1;have HI2:=Lh hin.2;clear hin hd k3 k4;have HTT:Hd (∀W:World,CB prog 87 #[.string d.uid] W (.tuple #[.string (bstr (txtL d.uid)),.int .i64 0])):=fun W=>rPutText_c d.uid (by omega) W;generalize nodesBy (nds.take k)=N0 at*;generalize hdx:d.x=x at*;generalize hdi:d.ins=ins at*;generalize hdn:d.n=dn at*;generalize hdk:d.kind=dk at*;generalize hdu:d.uid=u at*;generalize txtL u=tu at*;generalize d.by=dby at*
    clear hdx hdi hdn hdk hdu hu;have hil:ins.length<=9223372036854775807:=by omega
    have hK:=hKr.push #[.string u,.int .u8 dk,.slice ai ins.length capi,.int .u8 x.op,.int .i64 x.n,.slice a2 x.args.length cap2,.int .i64 dn] 135;clear hKr
    go_upto_region 9 with fail
    have hnbw:w.heap.size<wr.heap.size:=hjlt;have hnbz:wr.heap.size<(wr.alloc (.cells #[.string u,.int .u8 dk,.slice ai ins.length capi,.int .u8 x.op,.int .i64 x.n,.slice a2 x.args.length cap2,.int .i64 dn] 135)).heap.size:=by simp
    generalize hnb:wr.heap.size=nb at*;generalize hw7:wr.alloc (.cells #[.string u,.int .u8 dk,.slice ai ins.length capi,.int .u8 x.op,.int .i64 x.n,.slice a2 x.args.length cap2,.int .i64 dn] 135)=W7 at*;clear c0 c1 c2 c3 c4 c5 c6 j1;have p0:=hK.hd.cell 0
    go_wp2_with fail
    refine(HTT.o _).mono ?_;rintro e w3 ⟨rfl,hq⟩;replace hK:=hK.keep hq;have hz3:nb<w3.heap.size:=lt1 hnbz hq.size;clear hq p0;have p1:=hK.hd.cell 1;have p2:=hK.hd.cell 2;have p6:=hK.hd.cell 6;have hW3:=hK.grow (.cells #[.int .i64 dk,.int .i64 dn,.int .i64 (ins.length:Int)] 2);have hOw:=own_new3 w3 2 (.int .i64 dk) (.int .i64 dn) (.int .i64 (ins.length:Int))
    go_upto_region 11 with fail
    have hB4:w3.heap.size<=(w3.alloc (.cells #[.int .i64 dk,.int .i64 dn,.int .i64 (ins.length:Int)] 2)).heap.size:=by simp
    generalize hB1:w3.heap.size=B1 at*;generalize w3.alloc _=W4 at*;clear p1 p2 p6 hK
    go_wp2_with fail
    go_loopw [11,12] (fun s q wx=> ∃j:Nat,q= .int .i64 (j:Int)/\j<=ins.length/\wx.ownsRow B1 2 1 s (3+j) (([dk,dn,(ins.length:Int)]++ins.take j).map (Value.int .i64))/\KB w wx [(nb,135,#[.string u,.int .u8 dk,.slice ai ins.length capi,.int .u8 x.op,.int .i64 x.n,.slice a2 x.args.length cap2,.int .i64 dn]),(w.heap.size,24,#[.int .i64 jp,.slice (some ⟨b,off,none⟩) nds.length cap])]/\B1<=wx.heap.size) (fun _ q _=>ins.length-(intOf q).toNat)
    case atStart=>exact⟨0,rfl,ze0,by simpa using hOw,hW3,hB4⟩
    case round=>
     clear hW3 hOw hB1 hB4;obtain⟨j,rfl,hj,hown,hKx,hBx⟩:=hrel;have p2:=hKx.hd.cell 2;by_cases hjl:j<ins.length
     ·have hd2:decide ((j:Int)<(ins.length:Int))=true:=dt0 (by omega);obtain⟨bi,oi,ci,e2,hbi,hjl',d0⟩:=(HI1.o.across hBr hKx.below).int j hjl;simp only[vs0,true_and]at e2;obtain⟨rfl,rfl⟩:=e2;have HTI:Hd (ins.take (j+1)=ins.take j++ [ins[j]]):=List.take_succ_eq_append_getElem hjl';generalize ins[j]=z at*;have hon:=own_keep hown ((Below.refl wr.heap.size wr).alloc le0 (.cells #[.int .i64 z] 2));have hKa:=hKx.grow (.cells #[.int .i64 z] 2);have hgn: ∀q,u11.ownBlock=some q->B1<=q:=fun q hq=>(hown.lt q hq).1;have hwB:w.heap.size<=B1:=by omega
      go_wp2_with (at_builtin;refine wpList_append_own _ rfl _ _ 78 rfl B1 2 j0 (.int .i64 0) 1 8 underlying78 ki kz0 kz1 kz2 rfl (by decide) u11 (3+j) (([dk,dn,(ins.length:Int)]++ins.take j).map (Value.int .i64)) rfl hon ⟨wr.heap.size,0,none⟩ 1 1 [.int .i64 z] rfl rfl (cell_one_newJ _ _ _) (by simp[Value.oneCell']) (by unfold maxLen;omega) (by omega) (by simp;omega) ?_;intro v1' w5 hown5 hgrow5 _)
      have hK5:=hKa.grownR hgrow5 (fun q hq=>by have:=hgn q hq;omega) (fun y hy e=>by
       have:=hgn _ e.symm
       simp only[List.mem_cons,List.not_mem_nil,or_false]at hy
       rcases hy with rfl|rfl
       ·dsimp only at this;omega
       ·dsimp only at this;omega)
      go_roundw
      case rel=>
       exact⟨j+1,by go_num,by omega,by rw[HTI.o,<-List.append_assoc,List.map_append];exact hown5,hK5,by have:=hgrow5.size;simp at this;omega⟩
      case measure=>simp[intOf];omega
     ·have hd2:decide ((j:Int)<(ins.length:Int))=false:=df0 (by omega);obtain rfl:j=ins.length:=by omega
      rw[List.take_of_length_le le0]at hown;have hSL:=Sl.of_owns hown;have HPX:=Lh (rPut_c ([dk,dn,(ins.length:Int)]++ins) (3+ins.length) u11 wr.heap.size wr.drew hSL (by simp;omega) le0 (fun y hy=>by
       rcases List.mem_append.1 hy with h|h
       ·exact HP3.o y h
       ·exact HIO.o y h) (by omega))
      have HX:Hd (ExAt wr wr.heap.size (.agg #[.int .u8 x.op,.int .i64 x.n,.slice a2 x.args.length cap2]) x):=⟨_,rfl,(HI2.o.across hBr hKx.below).mono hKx.below.size⟩;have HPE:Hd (∀W,Below wr.heap.size wr W->CB prog 88 #[.agg #[.int .u8 x.op,.int .i64 x.n,.slice a2 x.args.length cap2]] W (.string (bstr x.by))):=
       fun W h=>rputEx_all x.ht x _ wr.heap.size W le0 HXO.o (by omega) (HX.o.keep h) h.size
      have hs0:=bstr_size (P++N0);rw[la0]at hs0;have hst:=bstr_size tu;have hs3:=bstr_size (putL ([dk,dn,(ins.length:Int)]++ins));have hs3l:(putL ([dk,dn,(ins.length:Int)]++ins)).length<=100:=by
       have:=putL_len ([dk,dn,(ins.length:Int)]++ins) (fun y hy=>by
        rcases List.mem_append.1 hy with h|h
        ·exact HP3.o y h
        ·exact HIO.o y h)
       have h3:([dk,dn,(ins.length:Int)]++ins).length=3+ins.length:=by simp;omega
       omega
      have hsx:=bstr_size x.by
      have HFIN:Hd (bstr (P++N0)++bstr tu++bstr (putL ([dk,dn,(ins.length:Int)]++ins))++bstr x.by=bstr (P++nodesBy (nds.take (k+1)))):=by
       show _=_;rw[bstr_app,bstr_app,bstr_app,HTK.o,HDB.o,putL_app];simp only[List.append_assoc]
      generalize bstr (P++N0)=S0 at*;generalize bstr tu=ST at*;generalize bstr (putL ([dk,dn,(ins.length:Int)]++ins))=SL at*;generalize bstr x.by=SX at*
      obtain⟨hl1,hl2,hl3⟩:S0.size+ST.size<=1000000/\S0.size+ST.size+SL.size<=1000000/\S0.size+ST.size+SL.size+SX.size<=1100000:=by and_intros<;>(omega)
      clear hSL hown hs0 hst hs3 hsx hs3l
      go_upto_region 15 with fail
      refine wp_region_held_drew (S:=(fun w'=>KB w w' [(nb,135,#[.string u,.int .u8 dk,.slice ai ins.length capi,.int .u8 x.op,.int .i64 x.n,.slice a2 x.args.length cap2,.int .i64 dn]),(w.heap.size,24,#[.int .i64 jp,.slice (some ⟨b,off,none⟩) nds.length cap])])) (by kernel_rfl) ?_ (fun hHeld=>tk0 ?_)
      ·exact hKx.drew
      repeat' first
       |refine tkN ?_
       |(refine tkX ?_;try simp only[Act.put,tkA,tkB,tkC,tkD,tkE,tkF])
       |(refine tkt (v:=?_) (by decide+kernel) rfl (by rfl) (fun _ _ _ h=>h) (by assumption) ?_ ?_;rotate_left;(· intro w' hSw;(try dsimp only at hSw);have q3:=hSw.hd.cell 3;have q4:=hSw.hd.cell 4;have q5:=hSw.hd.cell 5;clear hSw;go_simp;(try rw[if_neg (by simp;omega)]);(try with_reducible rfl));try simp only[Act.put,tkA,tkB,tkC,tkD,tkE,tkF])
       |refine tkM ?_
       |refine tkZ ?_
       |refine tkB1 ?_
       |refine brN ?_
       |exact brE
       |refine brc rfl (fun K hK=>?_) ?_
       |(replace hK:=hK;go_simp;go_at_call 38;refine HPX.o.mono ?_;rintro e w5 ⟨rfl,hb5⟩;have hK5:=hKx.drew.keep hb5;refine hK.out _ _ ?_ (fun hHeld=>?_);(· exact hK5);clear hK K;try simp only[Act.put,tkA,tkB,tkC,tkD,tkE,tkF])
       |(replace hK:=hK;go_simp;go_at_call 88;refine(HPE.o w5 ((Below.refl _ wr).drew.trans (hb5.mono le0))).mono ?_;rintro e w6 ⟨rfl,hb6⟩;have hK6:=hK5.keep hb6;refine hK.out _ _ ?_ (fun hHeld=>?_);(· exact hK6);clear hK K;try simp only[Act.put,tkA,tkB,tkC,tkD,tkE,tkF])
       |fail
      all_goals
       go_wp2_with fail
       go_roundw
       case rel=>exact⟨k+1,by go_num,by omega,by rw[HFIN.o],hK6.tl⟩
       case measure=>simp[intOf];omega
   ·have hd1:decide ((k:Int)<(nds.length:Int))=false:=df0 (by omega);obtain rfl:k=nds.length:=by omega
    rw[List.take_of_length_le le0]
    go_wp2_with fail
    go_ret2;exact⟨by rw[HR.o,HBE.o];rfl,hBr⟩
 ·have hm':(m2 !=0)=true:=by simpa using hm
  have HR:Hd (R=([],2)):=by show _=_;rw[HE.o,if_neg hm]
  clear HE HGS hm;go_enter func36,ntmps36
  go_upto_region 1 with fail
  generalize World.alloc w _=W at*;have p0:=hK.hd.cell 0;have p1:=hK.hd.cell 1
  go_wp2_with fail
  refine(HMY.o W hK.below).mono ?_;rintro e w1 ⟨rfl,hq⟩;replace hK:=hK.keep hq
  go_wp2_with fail
  go_ret2;exact⟨by rw[HR.o];rfl,hK.below⟩
