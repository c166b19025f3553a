/- Parts. -/
import Derived.Lib.SmallJoins
import Derived.Lib.SplitLaws
import Derived.Lib.Atoi
import Derived.Test.YtgbfdcmkbblodaaGreatDoorVW5
namespace Go.Proofs.YtgbfdcmkbblodaaGreatDoor
open Go.RowKit
set_option linter.unusedVariables false
set_option linter.unusedSimpArgs false
set_option maxRecDepth 100000
set_option maxHeartbeats 16000000
open Tryz
section
open Go.RowKit Go.ChangeShapes Go.WideShapes
theorem cellsExpr:prog.cellsOf 133=3:=by kernel_rfl
theorem Exs.ok_of: ∀(l:List Ex),(∀j (h:j<l.length),(l[j]'h).ok)->Exs.ok l
 | [],_=>trivial
 |x::l,h=>⟨h 0 (by simp),Exs.ok_of l (fun j hj=>h (j+1) (by simpa using hj))⟩
section
variable {H:Type} {enc:TypeId×Value->H} {w:World}
theorem add_spot {w:World} {a:Addr} {v:Value} (h:w.cell? a=some v):a=⟨a.block,a.off,none⟩:=by
 obtain⟨b,o,s⟩:=a
 cases s with
 |none=>rfl
 |some q=>
  unfold World.cell? at h;split at h<;>simp at h
theorem open_exs (fuel:Nat): ∀(sv:Value) (x:DataW H×List MemPlace),DataW.trod enc prog w 0 (fun _=>true) true fuel 131 [sv]=some x->
  ∃l:List Ex,ArgsAt w w.heap.size l sv/\Exs.ok l:=by
 induction fuel using Nat.strongRecOn with
 |ind fuel ih=>
  intro sv x h;rcases DataW.trod_slice underlying131 h with ⟨h0,_⟩|⟨a,len,cap,elems,rest,n,hf,hcs,hx,hb,hl,hm,hlen,hel,_,_⟩
  ·simp only[List.cons.injEq,and_true]at h0;subst h0;exact⟨[],.nil none 0 ze0,trivial⟩
  ·simp only[List.cons.injEq,and_true]at hcs;subst hcs;rw[cellsExpr]at hel;have hex: ∀i,i<len-> ∃(y:Ex) (sv:Value),w.cell? (a.add (i*3))=some (.int .u8 y.op)/\w.cell? (a.add (i*3+1))=some (.int .i64 y.n)/\w.cell? (a.add (i*3+2))=some sv/\ArgsAt w w.heap.size y.args sv/\y.ok:=by
    intro i hi;have hi2:i<elems.length:=by omega
    have h1:=hel i hi;rw[List.getElem?_eq_getElem hi2]at h1;obtain⟨cs,h2,h3⟩:=Option.bind_eq_some_iff.1 h1;obtain⟨_,hcl,hcell⟩:=World.cells?_some h2;obtain⟨xs,m,hm2,_,_,_,hfs⟩:=DataW.trod_struct underlying133 h3
    match cs,hcl with
    | [c0,c1,c2],_=>
     have q0:=hfs 0 _ rfl;have q1:=hfs 1 _ rfl;have q2:=hfs 2 _ rfl;have hxl:xs.length=3:=by assumption
     obtain⟨y0,y1,y2,rfl⟩: ∃y0 y1 y2,xs=[y0,y1,y2]:=by
      match xs,hxl with
      | [y0,y1,y2],_=>exact⟨y0,y1,y2,rfl⟩
     have e0:DataW.trod enc prog w 0 (fun _=>true) true m 5 [c0]=some y0:=q0;have e1:DataW.trod enc prog w 0 (fun _=>true) true m 2 [c1]=some y1:=q1;have e2:DataW.trod enc prog w 0 (fun _=>true) true m 131 [c2]=some y2:=q2;obtain⟨o,ho,_,hwo⟩:=DataW.trod_int underlying5 e0;obtain⟨k,hk,_,hwk⟩:=DataW.trod_int underlying2 e1;simp only[List.cons.injEq,and_true]at ho hk;subst ho;subst hk;obtain⟨l,hl1,hl2⟩:=ih m (by omega) c2 y2 e2;have g0:=hcell 0 (by omega);have g1:=hcell 1 (by omega);have g2:=hcell 2 (by omega);rw[Go.Deep.add_add]at g0 g1 g2;simp only[Lit.wf,IntKind.min,IntKind.max,IntKind.signed,IntKind.bits,Bool.and_eq_true,decide_eq_true_eq]at hwo hwk;refine⟨.mk o k l,c2,by simpa[Ex.op]using g0,by simpa[Ex.n]using g1,by simpa using g2,hl1,?_⟩;simp only[Ex.ok];refine⟨?_,?_,?_,?_,hl2⟩
     ·have:=hwo.1;simp at this;omega
     ·have:=hwo.2;simp at this;omega
     ·have:=hwk.1;simp at this;omega
     ·have:=hwk.2;simp at this;omega
   by_cases h0:len=0
   ·subst h0;exact⟨[],.nil _ _ hm,trivial⟩
   ·obtain⟨Y,hY⟩:= @Go.Deep.choose_lt Ex ⟨.mk 0 0 []⟩ len _ hex;obtain⟨V,hV⟩:=Go.Deep.choose_lt hY;obtain⟨b,off,rfl⟩: ∃b off,a=⟨b,off,none⟩:=⟨_,_,add_spot (by have:=(hV 0 (by omega)).1;simpa[Addr.add]using this)⟩;have hlt:b<w.heap.size:=World.block_lt_of_cell? _ _ (by have:=(hV 0 (by omega)).1;simpa[Addr.add]using this:w.cell? ⟨b,off,none⟩=some _);have hadd: ∀k,(⟨b,off,none⟩:Addr).add k=⟨b,off+k,none⟩:=by
     intro k;unfold Addr.add;split
     ·rename_i h;rw[h];rfl
     ·rfl
    have hg: ∀j (h:j<((List.range len).map Y).length),((List.range len).map Y)[j]'h=Y j:=by intro j h;simp
    have hA:=ArgsAt.cons (w:=w) (B:=w.heap.size) ((List.range len).map Y) b off cap V (by simp;omega) hlt (by simpa using hl) hm
     (fun j h=>by rw[hg];have:=(hV j (by simpa using h)).1;rwa[hadd]at this)
     (fun j h=>by rw[hg];have:=(hV j (by simpa using h)).2.1;rwa[hadd,<-Nat.add_assoc]at this)
     (fun j h=>by have:=(hV j (by simpa using h)).2.2.1;rwa[hadd,<-Nat.add_assoc]at this)
     (fun j h=>by rw[hg];exact(hV j (by simpa using h)).2.2.2.1)
    refine⟨(List.range len).map Y,?_,Exs.ok_of _ (fun j h=>by rw[hg];exact(hV j (by simpa using h)).2.2.2.2)⟩;simpa using hA
end
end
section
open Go.RowKit Go.ChangeShapes Go.WideShapes
theorem cellsNode:prog.cellsOf 135=7:=by kernel_rfl
theorem cellsInt:prog.cellsOf 3=1:=by kernel_rfl
theorem addr_add (b off k:Nat):(⟨b,off,none⟩:Addr).add k=⟨b,off+k,none⟩:=by
 unfold Addr.add;split
 ·rename_i h;rw[h];rfl
 ·rfl
section
variable {H:Type} {enc:TypeId×Value->H} {w:World}
theorem wf_i64r {k:Int} (h:(Lit.int .i64 k).wf=true): -9223372036854775808<=k/\k<=9223372036854775807:=by
 simp only[Lit.wf,IntKind.min,IntKind.max,IntKind.signed,IntKind.bits,Bool.and_eq_true]at h;have h1:=h.1;have h2:=h.2;simp at h1 h2;omega
theorem wf_u8r {k:Int} (h:(Lit.int .u8 k).wf=true):0<=k/\k<=255:=by
 simp only[Lit.wf,IntKind.min,IntKind.max,IntKind.signed,IntKind.bits,Bool.and_eq_true]at h;have h1:=h.1;have h2:=h.2;simp at h1 h2;omega
theorem open_ints1 (fuel:Nat) (sv:Value) (x:DataW H×List MemPlace) (h:DataW.trod enc prog w 0 (fun _=>true) true fuel 130 [sv]=some x):
  ∃l:List Int,Sl w w.heap.size 1 sv l.length (l.map (Value.int .i64))/\ ∀z∈l,-9223372036854775808<=z/\z<=9223372036854775807:=by
 rcases DataW.trod_slice underlying130 h with ⟨h0,_⟩|⟨a,len,cap,elems,rest,n,hf,hcs,hx,hb,hl,hm,hlen,hel,_,_⟩
 ·simp only[List.cons.injEq,and_true]at h0;subst h0;exact⟨[],Sl.nil _ _ _,by simp⟩
 ·simp only[List.cons.injEq,and_true]at hcs;subst hcs;rw[cellsInt]at hel;have hex: ∀i,i<len-> ∃z:Int,w.cell? (a.add i)=some (.int .i64 z)/\ -9223372036854775808<=z/\z<=9223372036854775807:=by
   intro i hi;have hi2:i<elems.length:=by omega
   have h1:=hel i hi;rw[List.getElem?_eq_getElem hi2]at h1;obtain⟨cs,h2,h3⟩:=Option.bind_eq_some_iff.1 h1;obtain⟨_,hcl,hcell⟩:=World.cells?_some h2
   match cs,hcl with
   | [c0],_=>
    obtain⟨o,ho,_,hwo⟩:=DataW.trod_int underlying3 h3;simp only[List.cons.injEq,and_true]at ho;subst ho;have g0:=hcell 0 (by omega);rw[Go.Deep.add_add]at g0;exact⟨o,by simpa using g0,wf_i64r hwo⟩
  by_cases h0:len=0
  ·subst h0;exact⟨[],⟨rfl,_,cap,rfl,ze0,hm,.inl rfl⟩,by simp⟩
  ·obtain⟨Y,hY⟩:= @Go.Deep.choose_lt Int ⟨0⟩ len _ hex;obtain⟨b,off,rfl⟩: ∃b off,a=⟨b,off,none⟩:=⟨_,_,add_spot (by have:=(hY 0 (by omega)).1;simpa[Addr.add]using this)⟩;have hlt:b<w.heap.size:=World.block_lt_of_cell? _ _ (by have:=(hY 0 (by omega)).1;simpa[Addr.add]using this:w.cell? ⟨b,off,none⟩=some _);refine⟨(List.range len).map Y,⟨by simp,some ⟨b,off,none⟩,cap,by simp,by simpa using hl,hm,.inr ⟨b,off,rfl,hlt,fun j hj=>?_⟩⟩,?_⟩
   ·have hj':j<len:=by simpa using hj
    have:=(hY j hj').1;rw[addr_add]at this;rw[this];simp[hj']
   ·intro z hz;obtain⟨i,hi,rfl⟩:=List.mem_map.1 hz;exact(hY i (by simpa using hi)).2
theorem open_nodes (fuel:Nat) (sv:Value) (x:DataW H×List MemPlace) (h:DataW.trod enc prog w 0 (fun _=>true) true fuel 22 [sv]=some x):
  ∃l:List Nd,NodesAt w w.heap.size l sv/\ ∀d∈l,d.ok:=by
 rcases DataW.trod_slice underlying22 h with ⟨h0,_⟩|⟨a,len,cap,elems,rest,n,hf,hcs,hx,hb,hl,hm,hlen,hel,_,_⟩
 ·simp only[List.cons.injEq,and_true]at h0;subst h0;exact⟨[],⟨none,0,rfl,ze0,ze0,.inl rfl⟩,by simp⟩
 ·simp only[List.cons.injEq,and_true]at hcs;subst hcs;rw[cellsNode]at hel;have hex: ∀i,i<len-> ∃(y:Nd) (iv sv:Value),w.cell? (a.add (i*7))=some (.string y.uid)/\w.cell? (a.add (i*7+1))=some (.int .u8 y.kind)/\w.cell? (a.add (i*7+2))=some iv/\
    w.cell? (a.add (i*7+3))=some (.int .u8 y.x.op)/\w.cell? (a.add (i*7+4))=some (.int .i64 y.x.n)/\w.cell? (a.add (i*7+5))=some sv/\w.cell? (a.add (i*7+6))=some (.int .i64 y.n)/\
    NdIn w w.heap.size iv sv y/\y.uid.size<=maxLen/\y.ok:=by
   intro i hi;have hi2:i<elems.length:=by omega
   have h1:=hel i hi;rw[List.getElem?_eq_getElem hi2]at h1;obtain⟨cs,h2,h3⟩:=Option.bind_eq_some_iff.1 h1;obtain⟨_,hcl,hcell⟩:=World.cells?_some h2;obtain⟨xs,m,hm2,_,_,hxl,hfs⟩:=DataW.trod_struct underlying135 h3
   match cs,hcl with
   | [c0,c1,c2,c3,c4,c5,c6],_=>
    have q0:=hfs 0 _ rfl;have q1:=hfs 1 _ rfl;have q2:=hfs 2 _ rfl;have q3:=hfs 3 _ rfl;have q4:=hfs 4 _ rfl;have hxl:xs.length=5:=by assumption
    obtain⟨y0,y1,y2,y3,y4,rfl⟩: ∃y0 y1 y2 y3 y4,xs=[y0,y1,y2,y3,y4]:=by
     match xs,hxl with
     | [y0,y1,y2,y3,y4],_=>exact⟨y0,y1,y2,y3,y4,rfl⟩
    have e0:DataW.trod enc prog w 0 (fun _=>true) true m 9 [c0]=some y0:=q0;have e1:DataW.trod enc prog w 0 (fun _=>true) true m 5 [c1]=some y1:=q1;have e2:DataW.trod enc prog w 0 (fun _=>true) true m 130 [c2]=some y2:=q2;have e3:DataW.trod enc prog w 0 (fun _=>true) true m 133 [c3,c4,c5]=some y3:=q3;have e4:DataW.trod enc prog w 0 (fun _=>true) true m 3 [c6]=some y4:=q4;obtain⟨s,hs,_,hws⟩:=DataW.trod_string underlying9 e0;obtain⟨o,ho,_,hwo⟩:=DataW.trod_int underlying5 e1;obtain⟨k,hk,_,hwk⟩:=DataW.trod_int underlying3 e4;obtain⟨li,hli1,hli2⟩:=open_ints1 m c2 y2 e2;obtain⟨zs,m2,_,_,_,hzl,hgs⟩:=DataW.trod_struct underlying133 e3;have p0:=hgs 0 _ rfl;have p1:=hgs 1 _ rfl;have p2:=hgs 2 _ rfl;have hzl:zs.length=3:=by assumption
    obtain⟨z0,z1,z2,rfl⟩: ∃z0 z1 z2,zs=[z0,z1,z2]:=by
     match zs,hzl with
     | [z0,z1,z2],_=>exact⟨z0,z1,z2,rfl⟩
    have f0:DataW.trod enc prog w 0 (fun _=>true) true m2 5 [c3]=some z0:=p0;have f1:DataW.trod enc prog w 0 (fun _=>true) true m2 2 [c4]=some z1:=p1;have f2:DataW.trod enc prog w 0 (fun _=>true) true m2 131 [c5]=some z2:=p2;obtain⟨xo,hxo,_,hwxo⟩:=DataW.trod_int underlying5 f0;obtain⟨xk,hxk,_,hwxk⟩:=DataW.trod_int underlying2 f1;obtain⟨la,hla1,hla2⟩:=open_exs m2 c5 z2 f2;simp only[List.cons.injEq,and_true]at hs ho hk hxo hxk;subst hs ho hk hxo hxk;have g0:=hcell 0 (by omega);have g1:=hcell 1 (by omega);have g2:=hcell 2 (by omega);have g3:=hcell 3 (by omega);have g4:=hcell 4 (by omega);have g5:=hcell 5 (by omega);have g6:=hcell 6 (by omega);rw[Go.Deep.add_add]at g0 g1 g2 g3 g4 g5 g6;have r1:=wf_u8r hwo;have r2:=wf_i64r hwk;have r3:=wf_u8r hwxo;have r4:=wf_i64r hwxk;exact⟨⟨s,o,li,.mk xo xk la,k⟩,c2,c5,by simpa using g0,by simpa using g1,by simpa using g2,by simpa[Ex.op]using g3,by simpa[Ex.n]using g4,by simpa using g5,by simpa using g6,⟨hli1,hla1⟩,hws,
     r1.1,r1.2,hli2,by simp only[Ex.ok];exact⟨r3.1,r3.2,r4.1,r4.2,hla2⟩,r2.1,r2.2⟩
  by_cases h0:len=0
  ·subst h0;exact⟨[],⟨_,cap,rfl,ze0,hm,.inl rfl⟩,by simp⟩
  ·obtain⟨Y,hY⟩:= @Go.Deep.choose_lt Nd ⟨⟨ByteArray.empty,0,[],.mk 0 0 [],0⟩⟩ len _ hex;obtain⟨V,hV⟩:=Go.Deep.choose_lt hY;obtain⟨U,hU⟩:=Go.Deep.choose_lt hV;obtain⟨b,off,rfl⟩: ∃b off,a=⟨b,off,none⟩:=⟨_,_,add_spot (by have:=(hU 0 (by omega)).1;simpa[Addr.add]using this)⟩;have hlt:b<w.heap.size:=World.block_lt_of_cell? _ _ (by have:=(hU 0 (by omega)).1;simpa[Addr.add]using this:w.cell? ⟨b,off,none⟩=some _);refine⟨(List.range len).map Y,⟨some ⟨b,off,none⟩,cap,by simp,by simpa using hl,hm,.inr ⟨b,off,rfl,hlt,fun j hj=>?_⟩⟩,?_⟩
   ·have hj':j<len:=by simpa using hj
    obtain⟨c0,c1,c2,c3,c4,c5,c6,hin,hu,_⟩:=hU j hj';simp only[addr_add,<-Nat.add_assoc]at c0 c1 c2 c3 c4 c5 c6;have hg:((List.range len).map Y)[j]'hj=Y j:=by simp
    rw[hg];exact⟨hu,V j,U j,c0,c1,c2,c3,c4,c5,c6,hin⟩
   ·intro z hz;obtain⟨i,hi,rfl⟩:=List.mem_map.1 hz;exact(hU i (by simpa using hi)).2.2.2.2.2.2.2.2.2
end
end
def ba (l:List UInt8):ByteArray:=⟨l.toArray⟩
theorem ba_list (l:List UInt8):(ba l).data.toList=l:=rfl
theorem ba_of (s:ByteArray):ba s.data.toList=s:=rfl
theorem ba_size (l:List UInt8):(ba l).size=l.length:=by rw[Lib.size_eq];rfl
theorem ba_ext {s t:ByteArray} (h:s.data.toList=t.data.toList):s=t:=by
 rw[<-ba_of s,<-ba_of t,h]
theorem ext_ba (s:ByteArray) (a b:Nat):s.extract a b=ba ((s.data.toList.take b).drop a):=by
 apply ba_ext;rw[ba_list,Lib.extract_data,List.drop_take]
theorem dstep (s:ByteArray) (pos:Nat) (h:pos<s.size):
  (bt s pos<128/\Utf8.decode s pos=(bt s pos,1))\/(128<=(Utf8.decode s pos).1/\ ∀k,pos<=k->k<pos+(Utf8.decode s pos).2->128<=bt s k):=by
 have hc: ∀k,cont s k=true->128<=bt s k:=by
  intro k hk;unfold cont at hk;simp only[Bool.and_eq_true,decide_eq_true_eq,beq_iff_eq]at hk;have:=hk.2;omega
 rw[decode_eq];by_cases h1:bt s pos<128
 ·left;rw[if_pos h1];exact⟨h1,rfl⟩
 ·right;rw[if_neg h1];have h0:128<=bt s pos:=by omega
  have one: ∀k,pos<=k->k<pos+1->128<=bt s k:=by
   intro k a b;obtain rfl:k=pos:=by omega
   exact h0
  split
  ·rename_i h2;simp only[Bool.and_eq_true]at h2;have c1:=hc _ h2.2;split
   ·rename_i h3;refine⟨h3,fun k a b=>?_⟩;obtain rfl|rfl:k=pos\/k=pos+1:=by dsimp only at b;omega
    ·exact h0
    ·exact c1
   ·exact⟨by decide,one⟩
  ·split
   ·rename_i h2;simp only[Bool.and_eq_true]at h2;have c1:=hc _ h2.1.2;have c2:=hc _ h2.2;split
    ·rename_i h3;simp only[Bool.and_eq_true,decide_eq_true_eq]at h3;refine⟨by have:=h3.1;dsimp only;omega,fun k a b=>?_⟩;obtain rfl|rfl|rfl:k=pos\/k=pos+1\/k=pos+2:=by dsimp only at b;omega
     ·exact h0
     ·exact c1
     ·exact c2
    ·exact⟨by decide,one⟩
   ·split
    ·rename_i h2;simp only[Bool.and_eq_true]at h2;have c1:=hc _ h2.1.1.2;have c2:=hc _ h2.1.2;have c3:=hc _ h2.2;split
     ·rename_i h3;simp only[Bool.and_eq_true,decide_eq_true_eq]at h3;refine⟨by have:=h3.1;dsimp only;omega,fun k a b=>?_⟩;obtain rfl|rfl|rfl|rfl:k=pos\/k=pos+1\/k=pos+2\/k=pos+3:=by dsimp only at b;omega
      ·exact h0
      ·exact c1
      ·exact c2
      ·exact c3
     ·exact⟨by decide,one⟩
    ·exact⟨by decide,one⟩
theorem bt_getElem (s:ByteArray) (k:Nat) (b:UInt8) (h:s.data.toList[k]? =some b):bt s k=b.toNat:=by
 unfold bt;rw[get_getD];simp[List.getD,h]
def cut (s:ByteArray) (pos d:Nat):List UInt8:=(s.data.toList.drop pos).take d
theorem cut_drop (s:ByteArray) (pos d:Nat):s.data.toList.drop pos=cut s pos d++s.data.toList.drop (pos+d):=by
 unfold cut;rw[<-List.drop_drop,List.take_append_drop]
theorem cut_take (s:ByteArray) (pos d:Nat):s.data.toList.take (pos+d)=s.data.toList.take pos++cut s pos d:=by
 unfold cut;rw[List.take_add]
theorem cut_one (s:ByteArray) (pos:Nat) (h:pos<s.size) (ha:bt s pos<128): ∃b:UInt8,cut s pos 1=[b]/\b.toNat=bt s pos:=by
 have hl:pos<s.data.toList.length:=by rw[<-Lib.size_eq];exact h
 refine⟨s.data.toList[pos],?_,?_⟩
 ·unfold cut;rw[List.drop_eq_getElem_cons hl];rfl
 ·rw[bt_getElem s pos _ (List.getElem?_eq_getElem hl)]
theorem cut_high (s:ByteArray) (pos d:Nat) (hk: ∀k,pos<=k->k<pos+d->128<=bt s k): ∀b∈cut s pos d,128<=b.toNat:=by
 intro b hb;unfold cut at hb;obtain⟨i,hi,he⟩:=List.getElem_of_mem hb;have hi':=hi;rw[List.length_take]at hi;rw[List.getElem_take,List.getElem_drop]at he;have hp:s.data.toList[pos+i]? =some b:=by rw[<-he];exact List.getElem?_eq_getElem _
 rw[<-bt_getElem s (pos+i) b hp];exact hk _ (by omega) (by omega)
theorem cut_rune (s:ByteArray) (pos:Nat) (h:pos<s.size):
  (∃b:UInt8,b.toNat<128/\(Utf8.decode s pos)=(b.toNat,1)/\cut s pos (Utf8.decode s pos).2=[b])\/
  (128<=(Utf8.decode s pos).1/\(∀b∈cut s pos (Utf8.decode s pos).2,128<=b.toNat)/\cut s pos (Utf8.decode s pos).2≠ []):=by
 rcases dstep s pos h with ⟨h1,h2⟩|⟨h1,h2⟩
 ·obtain⟨b,hb,hn⟩:=cut_one s pos h h1;exact .inl ⟨b,by omega,by rw[h2,hn],by rw[h2];exact hb⟩
 ·refine .inr ⟨h1,cut_high s pos _ h2,?_⟩;have hw:=Lib.decode_width_pos s pos h;have hl:pos<s.data.toList.length:=by rw[<-Lib.size_eq];exact h
  unfold cut;intro he;have:=congrArg List.length he;rw[List.length_take,List.length_drop,List.length_nil]at this;omega
def blankU (b:UInt8):Bool:=b==32||b==9
def badR (r:Int):Bool:=r==65533||(decide (r<32)&&!(r==9))
def spl:List UInt8->List UInt8->List (List UInt8)
 |cur,[]=>bif cur.isEmpty then []else [cur]
 |cur,b::l=>bif blankU b then(bif cur.isEmpty then spl [] l else cur::spl [] l)else spl (cur++ [b]) l
theorem spl_run: ∀(l cur rest:List UInt8),(∀b∈l,blankU b=false)->spl cur (l++rest)=spl (cur++l) rest
 | [],cur,rest,_=>by rw[List.nil_append,List.append_nil]
 |b::l,cur,rest,h=>by
  rw[List.cons_append,spl,h b (by simp),cond_false,spl_run l (cur++ [b]) rest (fun c hc=>h c (by simp[hc]))]
  simp
def wordsB (s:ByteArray):List ByteArray×Int:=
 if 400<s.size then([],3)else bif (runes s).any badR then([],10)else((spl [] s.data.toList).map ba,0)
def wAt (s:ByteArray) (pos:Nat) (from_:Int) (acc:List ByteArray):List ByteArray×Int:=
 bif (runesAt s pos).any badR then([],10)else(acc++(spl (if from_<0 then []else(s.data.toList.take pos).drop from_.toNat) (s.data.toList.drop pos)).map ba,0)
theorem wAt_start (s:ByteArray) (h: ¬400<s.size):wordsB s=wAt s 0 (-1) []:=by
 unfold wordsB wAt;rw[if_neg h,if_pos (by omega),List.nil_append,List.drop_zero];rfl
theorem wAt_bad (s:ByteArray) (pos:Nat) (from_:Int) (acc:List ByteArray) (h:pos<s.size) (hb:badR ((Utf8.decode s pos).1:Int)=true):wAt s pos from_ acc=([],10):=by
 unfold wAt;rw[runesAt_step s pos h,List.any_cons,hb,Bool.true_or,cond_true]
theorem wAt_any (s:ByteArray) (pos:Nat) (h:pos<s.size) (hb:badR ((Utf8.decode s pos).1:Int)=false):(runesAt s pos).any badR=(runesAt s (pos+(Utf8.decode s pos).2)).any badR:=by
 rw[runesAt_step s pos h,List.any_cons,hb,Bool.false_or]
theorem isBlank {b:UInt8} (h:(b.toNat:Int)=32\/(b.toNat:Int)=9):blankU b=true:=by
 unfold blankU;have:b=32\/b=9:=by
  rcases h with h|h
  ·exact .inl (UInt8.toNat_inj.1 (by show b.toNat=32;omega))
  ·exact .inr (UInt8.toNat_inj.1 (by show b.toNat=9;omega))
 rcases this with rfl|rfl<;>rfl
theorem noBlank {b:UInt8} (h:b.toNat≠32) (k:b.toNat≠9):blankU b=false:=by
 unfold blankU;rw[Bool.or_eq_false_iff,bq0,bq0];exact⟨fun e=>h (by rw[e];rfl),fun e=>k (by rw[e];rfl)⟩
theorem wAt_blank_out (s:ByteArray) (pos:Nat) (from_:Int) (acc:List ByteArray) (h:pos<s.size) (hb:badR ((Utf8.decode s pos).1:Int)=false)
  (hr:((Utf8.decode s pos).1:Int)=32\/((Utf8.decode s pos).1:Int)=9) (hf:from_<0):wAt s pos from_ acc=wAt s (pos+(Utf8.decode s pos).2) (-1) acc:=by
 unfold wAt;rw[wAt_any s pos h hb];rcases cut_rune s pos h with ⟨b,h1,h2,h3⟩|⟨h1,_⟩
 ·rw[h2]at hr;rw[cut_drop s pos (Utf8.decode s pos).2,h3,if_pos hf,if_pos (by omega),List.singleton_append,spl,isBlank hr,cond_true,List.isEmpty_nil,cond_true]
 ·omega
theorem wAt_blank_in (s:ByteArray) (pos:Nat) (from_:Int) (acc:List ByteArray) (h:pos<s.size) (hb:badR ((Utf8.decode s pos).1:Int)=false)
  (hr:((Utf8.decode s pos).1:Int)=32\/((Utf8.decode s pos).1:Int)=9) (hf: ¬from_<0) (hp:from_.toNat<pos):
  wAt s pos from_ acc=wAt s (pos+(Utf8.decode s pos).2) (-1) (acc++ [s.extract from_.toNat pos]):=by
 unfold wAt;rw[wAt_any s pos h hb];rcases cut_rune s pos h with ⟨b,h1,h2,h3⟩|⟨h1,_⟩
 ·rw[h2]at hr;have hne:((s.data.toList.take pos).drop from_.toNat).isEmpty=false:=by
   rw[List.isEmpty_eq_false_iff];intro he;have:=congrArg List.length he;rw[List.length_drop,List.length_take,<-Lib.size_eq,List.length_nil]at this;omega
  rw[cut_drop s pos (Utf8.decode s pos).2,h3,if_neg hf,if_pos (by omega),List.singleton_append,spl,isBlank hr,cond_true,hne,cond_false,List.map_cons,ext_ba];simp
 ·omega
theorem wAt_first (s:ByteArray) (pos:Nat) (from_:Int) (acc:List ByteArray) (h:pos<s.size) (hb:badR ((Utf8.decode s pos).1:Int)=false)
  (hr:((Utf8.decode s pos).1:Int)≠32) (hr2:((Utf8.decode s pos).1:Int)≠9) (hf:from_<0):wAt s pos from_ acc=wAt s (pos+(Utf8.decode s pos).2) (pos:Int) acc:=by
 have hcut: ∀b∈cut s pos (Utf8.decode s pos).2,blankU b=false:=by
  rcases cut_rune s pos h with ⟨b,h1,h2,h3⟩|⟨h1,h2,_⟩
  ·intro c hc;rw[h3,List.mem_singleton]at hc;subst hc;rw[h2]at hr hr2;exact noBlank (by dsimp only at hr;omega) (by dsimp only at hr2;omega)
  ·intro c hc;have:=h2 c hc;exact noBlank (by omega) (by omega)
 unfold wAt;have e1:List.drop pos (List.take pos s.data.toList)=[]:=List.drop_eq_nil_of_le (by rw[List.length_take];omega);rw[wAt_any s pos h hb,if_pos hf,if_neg (by omega),Int.toNat_natCast,cut_take,List.drop_append_of_le_length (by rw[List.length_take,<-Lib.size_eq];omega),e1,List.nil_append]
 conv=>lhs;rw[cut_drop s pos (Utf8.decode s pos).2]
 rw[spl_run _ [] _ hcut,List.nil_append]
theorem wAt_more (s:ByteArray) (pos:Nat) (from_:Int) (acc:List ByteArray) (h:pos<s.size) (hb:badR ((Utf8.decode s pos).1:Int)=false)
  (hr:((Utf8.decode s pos).1:Int)≠32) (hr2:((Utf8.decode s pos).1:Int)≠9) (hf: ¬from_<0) (hp:from_.toNat<=pos):wAt s pos from_ acc=wAt s (pos+(Utf8.decode s pos).2) from_ acc:=by
 have hcut: ∀b∈cut s pos (Utf8.decode s pos).2,blankU b=false:=by
  rcases cut_rune s pos h with ⟨b,h1,h2,h3⟩|⟨h1,h2,_⟩
  ·intro c hc;rw[h3,List.mem_singleton]at hc;subst hc;rw[h2]at hr hr2;exact noBlank (by dsimp only at hr;omega) (by dsimp only at hr2;omega)
  ·intro c hc;have:=h2 c hc;exact noBlank (by omega) (by omega)
 unfold wAt;rw[wAt_any s pos h hb,if_neg hf,if_neg hf,cut_take,List.drop_append_of_le_length (by rw[List.length_take,<-Lib.size_eq];omega)]
 conv=>lhs;rw[cut_drop s pos (Utf8.decode s pos).2]
 rw[spl_run _ _ _ hcut]
theorem wAt_end_out (s:ByteArray) (pos:Nat) (from_:Int) (acc:List ByteArray) (h:s.size<=pos) (hf:from_<0):wAt s pos from_ acc=(acc,0):=by
 unfold wAt;rw[runesAt_end s pos (by omega),List.any_nil,cond_false,if_pos hf,List.drop_eq_nil_of_le (by rw[<-Lib.size_eq];omega)];simp[spl]
theorem wAt_end_in (s:ByteArray) (pos:Nat) (from_:Int) (acc:List ByteArray) (h:s.size<=pos) (hf: ¬from_<0) (hp:from_.toNat<s.size):wAt s pos from_ acc=(acc++ [s.extract from_.toNat s.size],0):=by
 unfold wAt;have hl:=Lib.size_eq s;have hne:((s.data.toList).drop from_.toNat).isEmpty=false:=by
  rw[List.isEmpty_eq_false_iff];intro he;have:=congrArg List.length he;rw[List.length_drop,<-Lib.size_eq,List.length_nil]at this;omega
 have e1:s.data.toList.drop pos=[]:=List.drop_eq_nil_of_le (by omega);have e2:s.data.toList.take pos=s.data.toList:=List.take_of_length_le (by omega);have e3:s.data.toList.take s.size=s.data.toList:=List.take_of_length_le (by omega);rw[runesAt_end s pos (by omega),List.any_nil,cond_false,if_neg hf,e1,e2,spl,hne,cond_false,ext_ba,e3];rfl
def aheadL (s:ByteArray):List UInt8:=s.data.toList.takeWhile (fun b=>!(b==58))
def hasColon (s:ByteArray):Bool:=s.data.toList.any (fun b=>b==58)
def behindL (s:ByteArray):List UInt8:=(s.data.toList.dropWhile (fun b=>!(b==58))).tail
def noColon (s:ByteArray) (pos:Nat):Prop:= ∀b∈s.data.toList.take pos,b≠58
theorem noColon_zero (s:ByteArray):noColon s 0:=by intro b hb;simp at hb
theorem noColon_step (s:ByteArray) (pos:Nat) (h:pos<s.size) (hr:((Utf8.decode s pos).1:Int)≠58) (hn:noColon s pos):noColon s (pos+(Utf8.decode s pos).2):=by
 intro b hb;rw[cut_take,List.mem_append]at hb;rcases hb with hb|hb
 ·exact hn b hb
 ·rcases cut_rune s pos h with ⟨c,h1,h2,h3⟩|⟨h1,h2,_⟩
  ·rw[h3,List.mem_singleton]at hb;subst hb;rw[h2]at hr;rintro rfl;exact hr rfl
  ·have:=h2 b hb;rintro rfl;exact absurd this (by decide)
theorem colon_at (s:ByteArray) (pos:Nat) (h:pos<s.size) (hr:((Utf8.decode s pos).1:Int)=58) (hn:noColon s pos):
  hasColon s=true/\s.extract 0 pos=ba (aheadL s)/\s.extract (pos+1) s.size=ba (behindL s):=by
 rcases cut_rune s pos h with ⟨b,h1,h2,h3⟩|⟨h1,_⟩
 ·rw[h2]at hr;obtain rfl:b=58:=UInt8.toNat_inj.1 (by show b.toNat=58;dsimp only at hr;omega);have hs:s.data.toList=s.data.toList.take pos++(58::s.data.toList.drop (pos+1)):=by
   conv=>lhs;rw[<-List.take_append_drop pos s.data.toList,cut_drop s pos (Utf8.decode s pos).2,h3]
   rw[h2];rfl
  have hp: ∀b∈s.data.toList.take pos,(!(b==58))=true:=by
   intro c hc;have:=hn c hc;simpa using this
  refine⟨?_,?_,?_⟩
  ·unfold hasColon;rw[hs];simp
  ·rw[ext_ba,List.drop_zero];unfold aheadL
   conv=>rhs;rw[hs,List.takeWhile_append_of_pos hp]
   simp
  ·rw[ext_ba,List.take_of_length_le (by rw[<-Lib.size_eq];omega)];unfold behindL
   conv=>rhs;rw[hs,List.dropWhile_append_of_pos hp]
   simp
 ·omega
theorem colon_none (s:ByteArray) (pos:Nat) (h:s.size<=pos) (hn:noColon s pos):hasColon s=false/\s=ba (aheadL s):=by
 have hp: ∀b∈s.data.toList,(!(b==58))=true:=by
  intro c hc;have:=hn c (by rw[List.take_of_length_le (by rw[<-Lib.size_eq];omega)];exact hc);simpa using this
 constructor
 ·unfold hasColon;rw[List.any_eq_false];intro b hb;simpa using hp b hb
 ·apply ba_ext;rw[ba_list];unfold aheadL;have:=List.takeWhile_append_of_pos (l₂:=[]) hp;rw[List.append_nil]at this;rw[this];simp
def digU (b:UInt8):Bool:=decide (48<=b.toNat)&&decide (b.toNat<=57)
def valU (l:List UInt8):Nat:=l.foldl (fun n b=>n*10+(b.toNat-48)) 0
def numB (s:ByteArray) (most:Nat):Int×Bool:=
 if s.data.toList.all digU=true/\0<s.size/\s.size<=most then((valU s.data.toList:Int),true)else(0,false)
def allDig (s:ByteArray) (pos:Nat):Prop:= ∀b∈s.data.toList.take pos,digU b=true
theorem allDig_zero (s:ByteArray):allDig s 0:=by intro b hb;simp at hb
theorem allDig_step (s:ByteArray) (pos:Nat) (h:pos<s.size) (h1: ¬((Utf8.decode s pos).1:Int)<48) (h2: ¬57<((Utf8.decode s pos).1:Int)) (hn:allDig s pos):allDig s (pos+(Utf8.decode s pos).2):=by
 intro b hb;rw[cut_take,List.mem_append]at hb;rcases hb with hb|hb
 ·exact hn b hb
 ·rcases cut_rune s pos h with ⟨c,k1,k2,k3⟩|⟨k1,_⟩
  ·rw[k3,List.mem_singleton]at hb;subst hb;rw[k2]at h1 h2;unfold digU;rw[Bool.and_eq_true,decide_eq_true_eq,decide_eq_true_eq];dsimp only at h1 h2;omega
  ·omega
theorem num_bad (s:ByteArray) (most pos:Nat) (h:pos<s.size) (hb:((Utf8.decode s pos).1:Int)<48\/57<((Utf8.decode s pos).1:Int)):numB s most=(0,false):=by
 unfold numB;rw[if_neg];rintro ⟨ha,_⟩;rw[List.all_eq_true]at ha;have hmem: ∀b∈cut s pos (Utf8.decode s pos).2,digU b=true:=fun b hb=>ha b (List.mem_of_mem_drop (List.mem_of_mem_take hb));rcases cut_rune s pos h with ⟨c,k1,k2,k3⟩|⟨k1,k2,k3⟩
 ·have:=hmem c (by rw[k3];simp);unfold digU at this;rw[Bool.and_eq_true,decide_eq_true_eq,decide_eq_true_eq]at this;rw[k2]at hb;dsimp only at hb;omega
 ·obtain⟨c,hc⟩:=List.exists_mem_of_ne_nil _ k3;have:=hmem c hc;have:=k2 c hc;unfold digU at*;rw[Bool.and_eq_true,decide_eq_true_eq,decide_eq_true_eq]at*;omega
theorem allDig_all (s:ByteArray) (pos:Nat) (h:s.size<=pos) (hn:allDig s pos):s.data.toList.all digU=true:=by
 rw[List.all_eq_true];intro b hb;exact hn b (by rw[List.take_of_length_le (by rw[<-Lib.size_eq];omega)];exact hb)
theorem num_long (s:ByteArray) (most:Nat) (h:s.size=0\/most<s.size):numB s most=(0,false):=by
 unfold numB;rw[if_neg (by omega)]
theorem num_good (s:ByteArray) (most:Nat) (ha:s.data.toList.all digU=true) (h0:0<s.size) (h1:s.size<=most):numB s most=((valU s.data.toList:Int),true):=by
 unfold numB;rw[if_pos ⟨ha,h0,h1⟩]
theorem decFrom_dig: ∀(l:List UInt8) (n:Nat),l.all digU=true->Lib.decFrom n l=some (l.foldl (fun n b=>n*10+(b.toNat-48)) n)
 | [],n,_=>rfl
 |b::l,n,h=>by
  rw[List.all_cons,Bool.and_eq_true]at h
  have hd:Lib.digitVal b=some (b.toNat-48):=by
   have:=h.1;unfold digU at this;rw[Bool.and_eq_true,decide_eq_true_eq,decide_eq_true_eq]at this;unfold Lib.digitVal;rw[if_pos this]
  rw[Lib.decFrom,hd];exact decFrom_dig l _ h.2
theorem atoi_dig (l:List UInt8) (h:l.all digU=true) (hne:l≠ []):Lib.atoi l=some (valU l:Int):=by
 cases l with
 |nil=>exact absurd rfl hne
 |cons b r=>
  have hb:=h;rw[List.all_cons,Bool.and_eq_true]at hb;have hd:=hb.1;unfold digU at hd;rw[Bool.and_eq_true,decide_eq_true_eq,decide_eq_true_eq]at hd;have h1:(b==45)=false:=by rw[bq0];rintro rfl;exact absurd hd.1 (by decide)
  have h2:(b==43)=false:=by rw[bq0];rintro rfl;exact absurd hd.1 (by decide)
  rw[Lib.atoi,h1,h2];simp only[Bool.false_eq_true,if_false];have e:Lib.decNat (b::r)=some (valU (b::r)):=decFrom_dig (b::r) 0 h;rw[e];rfl
theorem valU_two (l:List UInt8) (h:l.all digU=true) (hl:l.length<=2):valU l<=99:=by
 have hd: ∀b∈l,b.toNat-48<=9:=by
  intro b hb;have:=List.all_eq_true.1 h b hb;unfold digU at this;rw[Bool.and_eq_true,decide_eq_true_eq,decide_eq_true_eq]at this;omega
 match l,hl with
 | [],_=>simp[valU]
 | [a],_=>have:=hd a (by simp);simp[valU];omega
 | [a,b],_=>have:=hd a (by simp);have:=hd b (by simp);simp[valU];omega
def nlB:ByteArray:=⟨#[10]⟩
def linesB (s:ByteArray):List ByteArray:=Lib.splitB nlB 0 (Lib.countB s nlB) s
