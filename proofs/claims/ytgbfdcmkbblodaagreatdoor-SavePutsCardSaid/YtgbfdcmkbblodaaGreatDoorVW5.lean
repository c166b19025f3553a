/- Parts. -/
import Derived.Deep.Slices
import Derived.Deep.AppendLies
import Derived.Test.YtgbfdcmkbblodaaGreatDoorVW7
namespace Go.Proofs.YtgbfdcmkbblodaaGreatDoor
open Go.RowKit
set_option linter.unusedVariables false
set_option linter.unusedSimpArgs false
set_option maxRecDepth 100000
set_option maxHeartbeats 16000000
open Tryz
inductive Ex where
 |mk (op n:Int) (args:List Ex)
namespace Ex
def op:Ex->Int| .mk o _ _=>o
def n:Ex->Int| .mk _ n _=>n
def args:Ex->List Ex| .mk _ _ l=>l
end Ex
mutual
def Ex.ht:Ex->Nat
 | .mk _ _ l=>Exs.ht l+1
def Exs.ht:List Ex->Nat
 | []=>0
 |x::l=>max x.ht (Exs.ht l)
end
theorem Exs.ht_mem: ∀(l:List Ex) (x:Ex),x∈l->x.ht<=Exs.ht l
 |y::l,x,h=>by
  simp only[Exs.ht]
  rcases List.mem_cons.1 h with rfl|h
  ·exact Nat.le_max_left _ _
  ·exact le1 (Exs.ht_mem l x h) (Nat.le_max_right _ _)
theorem Ex.ht_args (x:Ex): ∀a∈x.args,a.ht<x.ht:=by
 intro a ha;obtain⟨o,n,l⟩:=x;have:=Exs.ht_mem l a ha;simp only[Ex.ht];omega
inductive ArgsAt (w:World) (B:Nat):List Ex->Value->Prop
 |nil (a:Option Addr) (cap:Nat) (hm:cap<=maxLen):ArgsAt w B [] (.slice a 0 cap)
 | cons (l : List Ex) (b off cap : Nat) (sv : Nat -> Value) (hl : 0 < l.length) (hb : b < B) (hcap : l.length <= cap) (hm : cap <= maxLen)
   (h0: ∀j (h:j<l.length),w.cell? ⟨b,off+j*3,none⟩=some (.int .u8 (l[j]'h).op)) (h1: ∀j (h:j<l.length),w.cell? ⟨b,off+j*3+1,none⟩=some (.int .i64 (l[j]'h).n))
   (h2: ∀j (h:j<l.length),w.cell? ⟨b,off+j*3+2,none⟩=some (sv j)) (hs: ∀j (h:j<l.length),ArgsAt w B (l[j]'h).args (sv j)):
   ArgsAt w B l (.slice (some ⟨b,off,none⟩) l.length cap)
namespace ArgsAt
variable {w w':World} {B:Nat} {l:List Ex} {v:Value}
theorem mono (h:ArgsAt w B l v) {C:Nat} (hC:B<=C):ArgsAt w C l v:=by
 induction h with
 |nil a cap hm=>exact .nil a cap hm
 |cons l b off cap sv hl hb hcap hm h0 h1 h2 _ ih=>exact .cons l b off cap sv hl (by omega) hcap hm h0 h1 h2 ih
theorem keep (h:ArgsAt w B l v) (hB:Below B w w'):ArgsAt w' B l v:=by
 induction h with
 |nil a cap hm=>exact .nil a cap hm
 |cons l b off cap sv hl hb hcap hm h0 h1 h2 _ ih=>
  exact .cons l b off cap sv hl hb hcap hm (fun j h=>(hB.cell (p:=⟨b,off+j*3,none⟩) hb).trans (h0 j h)) (fun j h=>(hB.cell (p:=⟨b,off+j*3+1,none⟩) hb).trans (h1 j h))
   (fun j h=>(hB.cell (p:=⟨b,off+j*3+2,none⟩) hb).trans (h2 j h)) ih
theorem slice (h:ArgsAt w B l v): ∃a cap,v= .slice a l.length cap/\l.length<=cap/\cap<=maxLen:=by
 cases h with
 |nil a cap hm=>exact⟨a,cap,rfl,ze0,hm⟩
 |cons l b off cap sv hl hb hcap hm h0 h1 h2 hs=>exact⟨_,cap,rfl,hcap,hm⟩
theorem at_ (h:ArgsAt w B l v) (j:Nat) (hj:j<l.length): ∃b off cap sv,v= .slice (some ⟨b,off,none⟩) l.length cap/\b<B/\w.cell? ⟨b,off+j*3,none⟩=some (.int .u8 (l[j]'hj).op)/\
  w.cell? ⟨b,off+j*3+1,none⟩=some (.int .i64 (l[j]'hj).n)/\w.cell? ⟨b,off+j*3+2,none⟩=some sv/\ArgsAt w B (l[j]'hj).args sv:=by
 cases h with
 |nil a cap hm=>simp at hj
 |cons l b off cap sv hl hb hcap hm h0 h1 h2 hs=>exact⟨b,off,cap,sv j,rfl,hb,h0 j hj,h1 j hj,h2 j hj,hs j hj⟩
end ArgsAt
def ExAt (w:World) (B:Nat) (v:Value) (x:Ex):Prop:= ∃sv,v= .agg #[.int .u8 x.op,.int .i64 x.n,sv]/\ArgsAt w B x.args sv
theorem ExAt.mono {w:World} {B C:Nat} {v:Value} {x:Ex} (h:ExAt w B v x) (hC:B<=C):ExAt w C v x:=let ⟨sv,h1,h2⟩:=h;⟨sv,h1,h2.mono hC⟩
theorem ExAt.keep {w w':World} {B:Nat} {v:Value} {x:Ex} (h:ExAt w B v x) (hB:Below B w w'):ExAt w' B v x:=let ⟨sv,h1,h2⟩:=h;⟨sv,h1,h2.keep hB⟩
mutual
def Ex.ok:Ex->Prop
 | .mk o n l=>0<=o/\o<=255/\ -9223372036854775808<=n/\n<=9223372036854775807/\Exs.ok l
def Exs.ok:List Ex->Prop
 | []=>True
 |x::l=>x.ok/\Exs.ok l
end
theorem own_empty (w:World) (base k:Nat) (hk:k=w.heap.size) (hb:base<=k) (e:TypeId) (size:Nat):(w.alloc (.cells #[] e)).ownsRow base e size (.slice (some ⟨k,0,none⟩) 0 0) 0 []:=by
 subst hk;exact⟨by simp,.inr ⟨w.heap.size,0,#[],rfl,hb,heap_alloc_new w _,le0,ze0,by simp,by simp⟩⟩
theorem info_u8B:(prog.info? 5).map (fun i=>(i.zero,i.size,i.bytes))=some (some (.int .u8 0),1,1):=by kernel_rfl
def byteV (b:UInt8):Value:= .int .u8 b.toNat
theorem conv_own {w:World} {base:Nat} {v:Value} {m:Nat} {bs:List UInt8} (h:w.ownsRow base 5 1 v m (bs.map byteV)):(convert 141 9 v).run prog w= .ok (.string ⟨bs.toArray⟩) w:=by
 obtain⟨h1,h2⟩:=h;rw[List.length_map,Nat.mul_one]at h1;rcases h2 with ⟨rfl,rfl⟩|⟨g,cap,cur,rfl,hb,hg,hn,hc,hs,ht⟩
 ·obtain rfl:bs=[]:=List.length_eq_zero_iff.1 h1;rw[run_convert_bytes_nil w 141 5 underlying141 underlying5 0 0 9 underlying9];rfl
 ·subst h1;refine run_convert_bytes_back w 141 9 5 ⟨g,0,none⟩ cap bs underlying141 underlying5 underlying9 (fun j hj=>?_);rw[Addr.add_lit,Nat.zero_add,cell_of_row w g j cur 5 (0,0) hg];have:=congrArg (fun q=>q[j]?) ht;simp only[List.getElem?_take]at this;rw[if_pos (by omega),List.getElem?_map,List.getElem?_eq_getElem hj]at this;simpa[byteV]using this
theorem or_u8 (U:Nat):bits .or .u8 ((U:Int)%256) 128=((U%128+128:Nat):Int):=by
 have: ∀n:Fin 256,bits .or .u8 (n.val:Int) 128=((n.val%128+128:Nat):Int):=by decide+kernel
 have h:=this ⟨U%256,Nat.mod_lt _ (by omega)⟩;have e:(((U%256:Nat)):Int)=(U:Int)%256:=by omega
 rw[<-e];rw[h];show((U%256%128+128:Nat):Int)=_;rw[Nat.mod_mod_of_dvd U (show 128∣256 by decide)]
theorem wrap_u8B (n:Int):IntKind.u8.wrap n=n%256:=by simp[IntKind.wrap,IntKind.bits,IntKind.signed]
theorem cell_one_newB (w:World) (a:Value) (t:TypeId): ∀j u,[a][j]? =some u->(w.alloc (.cells #[a] t)).cell? ((⟨w.heap.size,0,none⟩:Addr).add j)=some u:=by
 intro j u hj;have hj4:j<1:=(List.getElem?_eq_some_iff.1 hj).1;rw[Addr.add_lit,Nat.zero_add,(Blk.new w #[a] t).cell j];simpa using hj
structure PutRel (bs:List UInt8) (w:World) (s:Value) (wr:World):Prop where
 below:Below w.heap.size w wr
 own:wr.ownsRow w.heap.size 5 1 s bs.length (bs.map byteV)
theorem PutRel.snoc {Q:List UInt8} {w w4:World} {v':Value} {ql:Nat} {qs:List Value} (hb:Below w.heap.size w w4) (hql:Q.length=ql) (hqs:Q.map byteV=qs) (c:Nat) (hc:c<256) (h:w4.ownsRow w.heap.size 5 1 v' (ql+1) (qs++ [.int .u8 (c:Int)])):
  PutRel (Q++ [UInt8.ofNat c]) w v' w4:=by
 refine⟨hb,?_⟩;have e:byteV (UInt8.ofNat c)= .int .u8 (c:Int):=by
  unfold byteV;have:(UInt8.ofNat c).toNat=c:=by simp;omega
  rw[this]
 rw[la0,List.map_append,hql,hqs,List.map_cons,List.map_nil,e];exact h
theorem putL_take (l:List Int) (k:Nat) (hk:k<l.length):putL (l.take (k+1))=putL (l.take k)++putN l[k]:=by
 rw[putL,putL,List.take_succ_eq_append_getElem hk,List.flatMap_append,List.flatMap_cons,List.flatMap_nil,List.append_nil]
theorem putL_len (l:List Int) (hr: ∀z∈l,-9223372036854775808<=z/\z<=9223372036854775807):(putL l).length<=10*l.length:=by
 induction l with
 |nil=>simp[putL]
 |cons z l ih=>
  have h1:=ih fun y hy=>hr y (by simp[hy]);have h2:=putN_len z (hr z (by simp)).1 (hr z (by simp)).2;have e:putL (z::l)=putN z++putL l:=rfl;rw[e,la0,List.length_cons];omega
theorem PutB_c (l:List Int) (n:Nat) (v:Value) (B:Nat) (w:World) (h:Sl w B 1 v n (l.map (Value.int .i64))) (hn:l.length=n) (hB:B<=w.heap.size) (hr: ∀z∈l,-9223372036854775808<=z/\z<=9223372036854775807) (hl:n<=1000):
  CB prog 34 #[v] w (.string ⟨(putL l).toArray⟩):=by
 have HS:=Lh h;have HR:=Lh hr;have HN:=Lh hn;obtain⟨_,a,cap,rfl,hcap,hmx,hrest⟩:=id h;clear h hr hn hrest;rename_i hx;clear hx;have HPL:Hd (∀k,k<=n->(putL (l.take k)).length<=10*n):=fun k hk=>by
  have:=putL_len (l.take k) (fun y hy=>HR.o y (List.mem_of_mem_take hy));have h2:=List.length_take_le k l;have h3:=HN.o;have h4:(l.take k).length<=n:=by rw[List.length_take];omega
  omega
 obtain⟨i0,hi,hz0,hz1,hz2⟩:=info_parts info_u8B;go_enter func34,ntmps34
 go_wp2_with fail
 go_loopw [3,9] (fun s q wr=> ∃k:Nat,q= .int .i64 k/\k<=n/\PutRel (putL (l.take k)) w s wr) (fun _ q _=>n-(intOf q).toNat)
 case atStart=>exact⟨0,rfl,ze0,⟨Below.refl _ _,World.ownsRow_nil _ _ _ _⟩⟩
 case round=>
  obtain⟨k,rfl,hk,hrel⟩:=hrel;by_cases hlt:k<n
  ·obtain⟨b,off,cp,e1,hb,hkl,p0⟩:=(HS.o.below (hrel.below.mono hB)).int k hlt;simp only[vs0,true_and]at e1;obtain⟨rfl,rfl⟩:=e1;have hz:=HR.o _ (List.getElem_mem hkl);have HTK:=Lh (putL_take l k hkl);have hbd:=HPL.o k hk;generalize l[k]=z at*;generalize putL (l.take k)=P at*;have hzl:=zig_lt z hz.1 hz.2;have hpn:=putN_len z hz.1 hz.2;have HPN:Hd (putN z=[]++vby (zig z)):=rfl
   go_wp2_with fail
   refine(turned_c z hz.1 hz.2 _).mono ?_;rintro e w1 ⟨rfl,rfl⟩
   go_wp2_with fail
   generalize putN z=PN at*
   go_loopw [3,6] (fun s u wx=> ∃(U:Nat) (X:List UInt8),u= .int .u64 U/\U<18446744073709551616/\PutRel (P++X) w s wx/\PN=X++vby U) (fun _ u _=>(intOf u).toNat)
   case atStart=>exact⟨zig z,[],rfl,hzl,by rw[List.append_nil];exact hrel,HPN.o⟩
   case round=>
    obtain⟨U,X,rfl,hU,hin,hX⟩:=hrel;have hown:=hin.own;have hbel:=hin.below;have hXl:X.length+(vby U).length<=10:=by rw[<-la0,<-hX];exact hpn
    have hPX:(P++X).length<=10*n+10:=by rw[la0];omega
    have hww:=hbel.size;generalize hQ:P++X=Q at*;have HQ:=Lh hQ;have HX:=Lh hX;clear hQ hX hin;generalize hqs:Q.map byteV=qs at*;have HQS:=Lh hqs;generalize hql:Q.length=ql at*;have HQL:=Lh hql;clear hqs hql;by_cases hU8:128<=U
    ·have d1:(128:Int)<=(U:Int):=by omega
     have hor:=or_u8 U;have hor2:bits .or .u8 (IntKind.u8.wrap (U:Int)) 128=((U%128+128:Nat):Int):=by rw[wrap_u8B];exact hor
     have HV:Hd (vby U=UInt8.ofNat (U%128+128)::vby (U/128)):=vby_ge (by omega)
     go_wp2_with (at_builtin;refine wpList_append_own _ rfl _ _ 141 rfl w.heap.size 5 i0 (.int .u8 0) 1 1 underlying141 hi hz0 hz1 hz2 rfl (by decide) u3 ql qs rfl (hown.alloc _) ⟨wr.heap.size,0,none⟩ 1 1 [.int .u8 ((U%128+128:Nat):Int)] rfl rfl (cell_one_newB _ _ _) (by simp[Value.oneCell']) (by unfold maxLen;omega) (by omega) (by simp;omega) ?_;intro v' w4 hown4 hgrow4 _)
     have hB4:Below w.heap.size w w4:=(hbel.alloc hww _).grown hgrow4 (by simp;omega) (fun q hq=>(hown.lt q hq).1);have hsn:=PutRel.snoc hB4 HQL.o HQS.o (U%128+128) (by omega) hown4;go_roundw
     case rel=>
      refine⟨U/128,X++ [UInt8.ofNat (U%128+128)],by congr 1,by omega,?_,?_⟩
      ·rw[<-List.append_assoc,HQ.o];exact hsn
      ·rw[HX.o,HV.o,List.append_assoc];rfl
     case measure=>
      have:U/128<U:=Nat.div_lt_self (by omega) (by decide);simp[intOf];omega
    ·have d1: ¬(128:Int)<=(U:Int):=by omega
     have hmo:(U:Int)%256=(U:Int):=by omega
     have hV:vby U=[UInt8.ofNat U]:=vby_lt (by omega);rw[hV]at HX
     go_wp2_with (at_builtin;refine wpList_append_own _ rfl _ _ 141 rfl w.heap.size 5 i0 (.int .u8 0) 1 1 underlying141 hi hz0 hz1 hz2 rfl (by decide) u3 ql qs rfl (hown.alloc _) ⟨wr.heap.size,0,none⟩ 1 1 [.int .u8 (U:Int)] rfl rfl (by first|exact cell_one_newB _ _ _|(rw[<-hmo];exact cell_one_newB _ _ _)) (by simp[Value.oneCell']) (by unfold maxLen;omega) (by omega) (by simp;omega) ?_;intro v' w4 hown4 hgrow4 _)
     have hB4:Below w.heap.size w w4:=(hbel.alloc hww _).grown hgrow4 (by simp;omega) (fun q hq=>(hown.lt q hq).1);have hsn:=PutRel.snoc hB4 HQL.o HQS.o U (by omega) hown4;go_roundw
     case rel=>
      refine⟨k+1,by go_num,by omega,?_⟩;rw[HTK.o,HX.o,<-List.append_assoc,HQ.o];exact hsn
     case measure=>simp[intOf];omega
  ·obtain rfl:k=n:=by omega
   have htl:l.take k=l:=List.take_of_length_le (by have:=HN.o;omega);rw[htl]at hrel;have hconv:=conv_own hrel.own;have hb:=hrel.below;clear hrel htl
   go_wp2_with fail
   go_ret;exact⟨rfl,hb⟩
def manyN (op:Int):Int:=if op=0\/18<op then-1 else if op<=4 then 0 else if op<=6 then 1 else if op=18 then 3 else 2
theorem many_c (op:Int) (w:World):
  Calls prog 277 #[.int .u8 op] w fun e w'=>e= .returned (.int .i64 (manyN op))/\w=w':=by
 go_enter func277,ntmps277;go_wp2
 all_goals
  go_ret;exact⟨ret_int (by unfold manyN;simp_all;try omega),rfl⟩
def shapeB (x:Ex):Bool:=decide (manyN x.op=x.args.length/\0<=x.n/\(x.n=0\/x.op=1))
def mayB:Nat->Ex->Bool
 |0,_=>false
 |k+1,x=>shapeB x&&x.args.all (mayB k)
theorem quiet_sym {P:Program} {f:FuncId} {args:Array Value} {w:World} {v:Value} (h:Calls P f args w fun e w'=>e= .returned v/\w=w'):Calls P f args w fun e w'=>e= .returned v/\w'=w:=
 h.mono fun _ _ ⟨he,hw⟩=>⟨he,hw.symm⟩
theorem may_false (k:Nat) (x:Ex) (v:Value) (B:Nat) (w:World) (hv:ExAt w B v x) (h:shapeB x=false\/k=0) (i:Int) (hi:i=(k:Int)):
  CB prog 247 #[v,.int .i64 i] w (.bool false):=by
 obtain⟨sv,rfl,hs⟩:=hv;obtain⟨a,cap,rfl,hcap,hm⟩:=hs.slice;obtain⟨op,n,l⟩:=x;simp only[Ex.op,Ex.n,Ex.args]at*;have hc:(manyN op !=(l.length:Int))=true\/(manyN op !=(l.length:Int))=false/\(decide (n<0)=true\/decide (n<0)=false/\(decide (0<n)=true/\(op !=1)=true\/
   (decide (0<n)=true/\(op !=1)=false\/decide (0<n)=false)/\(i==0)=true)):=by
  have h': ¬(manyN op=l.length/\0<=n/\(n=0\/op=1))\/k=0:=h.imp (fun h=>of_decide_eq_false h) id;simp only[bne_iff_ne,decide_eq_true_eq,bne_eq_false_iff_eq,decide_eq_false_iff_not,beq_iff_eq];omega
 clear h hs hi;rcases hc with h1|⟨h1,h2|⟨h2,⟨h3,h4⟩|⟨⟨h3,h4⟩|h3,h5⟩⟩⟩
 all_goals
  go_enter func247,ntmps247;go_wp2
  go_quiet ((go_at_call 277;exact Calls.quiet_of_same (quiet_sym (many_c _ _))))
  go_wp2;go_ret;exact⟨rfl,below_drewN (br0.alloc le0 _) _⟩
theorem may_c (k:Nat): ∀(x:Ex) (v:Value) (B:Nat) (w:World) (i:Int),ExAt w B v x->i=(k:Int)->k<=1000->B<=w.heap.size->
  CB prog 247 #[v,.int .i64 i] w (.bool (mayB k x)):=by
 induction k with
 |zero=>exact fun x v B w i hv hi _ _=>may_false 0 x v B w hv (.inr rfl) i hi
 |succ k ihk=>
  intro x v B w i hv hi hk hB
  cases hsh:shapeB x
  ·have hf:=may_false (k+1) x v B w hv (.inl hsh) i hi;exact hf.mono fun e w' ⟨he,hw⟩=>⟨by rw[he];simp only[mayB];rw[hsh];rfl,hw⟩
  ·have hm:Hd (mayB (k+1) x=x.args.all (mayB k)):=by simp only[Hd,mayB];rw[hsh,Bool.true_and]
   have hsh':manyN x.op=x.args.length/\0<=x.n/\(x.n=0\/x.op=1):=of_decide_eq_true hsh;obtain⟨sv,rfl,hs⟩:=hv;obtain⟨a,cap,rfl,hcap,hmx⟩:=hs.slice;obtain⟨op,n,l⟩:=x;simp only[Ex.op,Ex.n,Ex.args]at*;have h1:(manyN op !=(l.length:Int))=false:=by simpa using hsh'.1
   have h2:decide (n<0)=false:=by simp;omega
   have hl3:l.length<=3:=by
    have:=hsh'.1;unfold manyN at this
    repeat' split at this
    all_goals omega
   have h5:(i==0)=false:=by simp;omega
   have h6:=IntWalk.i64_in (i-1);have h7:0<=i/\i<=1000:=by omega
   obtain⟨h71,h72⟩:=h7;have hcase:(decide (0<n)=true/\(op !=1)=false)\/decide (0<n)=false:=by
    by_cases h0:0<n
    ·have:op=1:=by omega
     subst this;exact .inl ⟨by simpa using h0,rfl⟩
    ·exact .inr (by simpa using h0)
   have HS:=Lh hs;have IH:=Lh ihk;clear ihk;have HI:=Lh hi;clear hsh' hsh hs hi;rcases hcase with ⟨h3,h4⟩|h3
   all_goals
    go_enter func247,ntmps247;go_wp2
    go_quiet ((go_at_call 277;exact Calls.quiet_of_same (quiet_sym (many_c _ _))))
    go_wp2_with fail
    have hW:=below_drewN ((Below.refl w.heap.size w).alloc le0 (.cells #[.int .u8 op,.int .i64 n,.slice a l.length cap] 133)) nq;generalize World.drewN (World.alloc w _) nq=W at*
    go_loopw [36] (fun q wr=> ∃j:Nat,q= .int .i64 j/\j<=l.length/\Below w.heap.size w wr/\(l.drop j).all (mayB k)=l.all (mayB k)) (fun q _=>l.length-(intOf q).toNat)
    case atStart=>exact⟨0,rfl,ze0,hW,rfl⟩
    case round=>
     obtain⟨j,rfl,hj,hBr,hr⟩:=hrel;by_cases hlt:j<l.length
     ·obtain⟨b,off,cap',sv',e',hb',c0,c1,c2,hsub⟩:=((HS.o.mono hB).keep hBr).at_ j hlt;simp only[vs0,true_and]at e';obtain⟨rfl,rfl⟩:=e';obtain⟨a2,cap2,rfl,_,_⟩:=hsub.slice;rw[List.drop_eq_getElem_cons hlt,List.all_cons]at hr;have hx: ∀X,Below wr.heap.size wr X->ExAt X X.heap.size (.agg #[.int .u8 (l[j]'hlt).op,.int .i64 (l[j]'hlt).n,.slice a2 (l[j]'hlt).args.length cap2]) (l[j]'hlt):=fun X hX=>⟨_,rfl,(hsub.keep (hX.mono hBr.size)).mono (le1 hBr.size hX.size)⟩;generalize l[j]=y at*;have HX:=Lh hx;have HR:=Lh hr;clear hr hx hsub
      cases hy:mayB k y
      all_goals
       have HY:=Lh hy;clear hy
       go_wp2_with (go_at_call 247;refine(IH.o y _ _ _ _ (HX.o _ (br0.alloc le0 _)) (by have:=HI.o;omega) (by omega) le0).mono ?_;rintro e w3 ⟨rfl,hb3⟩;rw[HY.o])
      ·go_ret;exact⟨ret_bool (by rw[hm.o,<-HR.o,HY.o];rfl),(hBr.alloc hBr.size _).trans (hb3.mono (by have:=hBr.size;simp;omega))⟩
      ·go_roundw
       case rel=>exact⟨j+1,by go_num,by omega,(hBr.alloc hBr.size _).trans (hb3.mono (by have:=hBr.size;simp;omega)),by rw[<-HR.o,HY.o,Bool.true_and]⟩
       case measure=>simp[intOf];omega
     ·rw[List.drop_of_length_le (by omega)]at hr;have HR:=Lh hr;clear hr;go_wp2;go_ret;exact⟨ret_bool (by rw[hm.o,<-HR.o];rfl),hBr⟩
mutual
def Ex.sameB:Ex->Ex->Bool
 | .mk o n l,.mk o' n' l'=>decide (o=o')&&(decide (n=n')&&Exs.sameB l l')
def Exs.sameB:List Ex->List Ex->Bool
 | [],[]=>true
 |x::l,y::m=>x.sameB y&&Exs.sameB l m
 |_,_=>false
end
theorem Exs.sameB_len: ∀(l m:List Ex),l.length≠m.length->Exs.sameB l m=false
 | [],[],h=>absurd rfl h
 | [],_::_,_=>rfl
 |_::_,[],_=>rfl
 |x::l,y::m,h=>by simp only[Exs.sameB];rw[Exs.sameB_len l m (by simpa using h),Bool.and_false]
theorem Ex.sameB_eq (x y:Ex):x.sameB y=(decide (x.op=y.op)&&(decide (x.n=y.n)&&Exs.sameB x.args y.args)):=by
 obtain⟨o,n,l⟩:=x;obtain⟨o',n',l'⟩:=y;rfl
def SameC (h:Nat):Prop:= ∀(x y:Ex) (v u:Value) (B:Nat) (w:World),x.ht<=h->ExAt w B v x->ExAt w B u y->B<=w.heap.size->
 CB prog 94 #[v,u] w (.bool (x.sameB y))
theorem eqFunc_c (h:Nat) (IH:Hd (SameC h)) (l m:List Ex) (hlh: ∀x∈l,x.ht<=h) (v u:Value) (B:Nat) (w:World) (hv:ArgsAt w B l v) (hu:ArgsAt w B m u) (hB:B<=w.heap.size):
  CB prog 149 #[v,u,.func (.func 94) #[] #[]] w (.bool (Exs.sameB l m)):=by
 obtain⟨a,cap,rfl,hcap,hmx⟩:=hv.slice;obtain⟨a',cap',rfl,hcap',hmx'⟩:=hu.slice;by_cases hlen:l.length=m.length
 ·obtain⟨n,hn⟩: ∃n,l.length=n:=⟨_,rfl⟩;have hn':m.length=n:=by omega
  have HV:=Lh hv;have HU:=Lh hu;have HN:=Lh hn;have HN':=Lh hn';have HLH:=Lh hlh;have hnm:n<=9223372036854775807:=by unfold maxLen at hmx;omega
  rw[hn,hn'];clear hv hu hlh hn hn' hlen;go_enter func149,ntmps149;go_wp2
  go_loopw [17] (fun q wr=> ∃j:Nat,q= .int .i64 j/\j<=n/\Below w.heap.size w wr/\Exs.sameB (l.drop j) (m.drop j)=Exs.sameB l m) (fun q _=>n-(intOf q).toNat)
  case atStart=>exact⟨0,rfl,ze0,Below.refl _ _,rfl⟩
  case round=>
   obtain⟨j,rfl,hj,hBr,hr⟩:=hrel;by_cases hlt:j<n
   ·have hj1:j<l.length:=by have:=HN.o;omega
    have hj2:j<m.length:=by have:=HN'.o;omega
    obtain⟨b,off,cp,sv,e1,hb,c0,c1,c2,hsub⟩:=((HV.o.mono hB).keep hBr).at_ j hj1;obtain⟨b',off',cp',sv',e2,hb',d0,d1,d2,hsub'⟩:=((HU.o.mono hB).keep hBr).at_ j hj2;rw[HN.o]at e1;rw[HN'.o]at e2;simp only[vs0,true_and]at e1 e2;obtain⟨rfl,rfl⟩:=e1;obtain⟨rfl,rfl⟩:=e2;obtain⟨a2,cap2,rfl,_,_⟩:=hsub.slice;obtain⟨a3,cap3,rfl,_,_⟩:=hsub'.slice;rw[List.drop_eq_getElem_cons hj1,List.drop_eq_getElem_cons hj2]at hr;simp only[Exs.sameB]at hr;have hbw:=lt1 hb hBr.size;have hbw':=lt1 hb' hBr.size;have hht:=HLH.o _ (List.getElem_mem hj1);have hx: ∀X,Below wr.heap.size wr X->ExAt X X.heap.size (.agg #[.int .u8 (l[j]'hj1).op,.int .i64 (l[j]'hj1).n,.slice a2 (l[j]'hj1).args.length cap2]) (l[j]'hj1):=fun X hX=>⟨_,rfl,(hsub.keep (hX.mono hBr.size)).mono (le1 hBr.size hX.size)⟩;have hy: ∀X,Below wr.heap.size wr X->ExAt X X.heap.size (.agg #[.int .u8 (m[j]'hj2).op,.int .i64 (m[j]'hj2).n,.slice a3 (m[j]'hj2).args.length cap3]) (m[j]'hj2):=fun X hX=>⟨_,rfl,(hsub'.keep (hX.mono hBr.size)).mono (le1 hBr.size hX.size)⟩;generalize l[j]=x at*;generalize m[j]=y at*;have HX:=Lh hx;have HY:=Lh hy;have HR:=Lh hr;clear hr hx hy hsub hsub'
    cases hs:x.sameB y
    all_goals
     have HS:=Lh hs;clear hs
     go_wp2_with (go_at_call 94;refine(IH.o x y _ _ _ _ hht (HX.o _ ((br0.alloc le0 _).alloc (by simp) _)) (HY.o _ ((br0.alloc le0 _).alloc (by simp) _)) le0).mono ?_;rintro e w3 ⟨rfl,hb3⟩;rw[HS.o])
    ·go_ret;exact⟨ret_bool (by rw[<-HR.o,HS.o];rfl),((hBr.alloc hBr.size _).alloc (by have:=hBr.size;simp;omega) _).trans (hb3.mono (by have:=hBr.size;simp;omega))⟩
    ·go_roundw
     case rel=>exact⟨j+1,by go_num,by omega,((hBr.alloc hBr.size _).alloc (by have:=hBr.size;simp;omega) _).trans (hb3.mono (by have:=hBr.size;simp;omega)),by rw[<-HR.o,HS.o,Bool.true_and]⟩
     case measure=>simp[intOf];omega
   ·rw[List.drop_of_length_le (by have:=HN.o;omega),List.drop_of_length_le (by have:=HN'.o;omega)]at hr;have HR:=Lh hr;clear hr;go_wp2;go_ret;exact⟨ret_bool (by rw[<-HR.o];rfl),hBr⟩
 ·have hne:((l.length:Int) !=(m.length:Int))=true:=by rw[bne_iff_ne];omega
  have HF:=Lh (Exs.sameB_len l m hlen);clear hlen hv hu;go_enter func149,ntmps149;go_wp2;go_ret;exact⟨ret_bool HF.o.symm,Below.refl _ _⟩
theorem same_step (h:Nat) (IH:Hd (∀x y:Ex,x.ht<h-> ∀(v u:Value) (B:Nat) (w:World),ExAt w B v x->ExAt w B u y->B<=w.heap.size->
   CB prog 94 #[v,u] w (.bool (x.sameB y)))):SameC h:=by
 intro x y v u B w hh hv hu hB;have IH2:Hd (∀k,k+1=h->SameC k):=fun k hk x y v u B w hx=>IH.o x y (by omega) v u B w;have hargs: ∀a∈x.args,a.ht<=h-1:=fun a ha=>by have:=Ex.ht_args x a ha;omega
 have hpos:1<=h:=by
  obtain⟨o,n,l⟩:=x;simp only[Ex.ht]at hh;omega
 have HE:=Lh (Ex.sameB_eq x y);obtain⟨sv,rfl,hs⟩:=hv;obtain⟨su,rfl,ht⟩:=hu;obtain⟨a,cap,rfl,hcap,hmx⟩:=hs.slice;obtain⟨a',cap',rfl,hcap',hmx'⟩:=ht.slice;have HS:=Lh hs;have HT:=Lh ht;have HA:=Lh hargs;generalize x.op=o at*;generalize x.n=n at*;generalize y.op=o' at*;generalize y.n=n' at*;clear hs ht hargs hh IH;by_cases h1:o=o'
 ·by_cases h2:n=n'
  ·have hq1:(o==o')=true:=by simpa using h1
   have hq2:(n==n')=true:=by simpa using h2
   have HE2:Hd (x.sameB y=Exs.sameB x.args y.args):=by show _=_;rw[HE.o,dt0 h1,dt0 h2];rfl
   clear h1 h2 HE;go_enter func94,ntmps94
   go_wp2_with (go_at_call 149;refine(eqFunc_c (h-1) (IH2.o (h-1) (by omega)) x.args y.args HA.o _ _ B _ (HS.o.keep ((br0.alloc hB _).alloc (by simp;omega) _)) (HT.o.keep ((br0.alloc hB _).alloc (by simp;omega) _)) (by simp;omega)).mono ?_;rintro e w3 ⟨rfl,hb3⟩)
   go_ret;exact⟨ret_bool HE2.o.symm,((br0.alloc le0 _).alloc (by simp) _).trans (hb3.mono (by simp;omega))⟩
  ·have hq1:(o==o')=true:=by simpa using h1
   have hq2:(n==n')=false:=by simpa using h2
   have HE2:Hd (x.sameB y=false):=by show _=_;rw[HE.o,df0 h2,Bool.false_and,Bool.and_false]
   clear h1 h2 HE;go_enter func94,ntmps94;go_wp2;go_ret;exact⟨ret_bool HE2.o.symm,((br0.alloc le0 _).alloc (by simp) _)⟩
 ·have hq1:(o==o')=false:=by simpa using h1
  have HE2:Hd (x.sameB y=false):=by show _=_;rw[HE.o,df0 h1,Bool.false_and]
  clear h1 HE;go_enter func94,ntmps94;go_wp2;go_ret;exact⟨ret_bool HE2.o.symm,((br0.alloc le0 _).alloc (by simp) _)⟩
theorem same_all (h:Nat):SameC h:=by
 induction h using Nat.strongRecOn with
 |ind h ih=>exact same_step h (fun x y hx v u B w hv hu hB=>ih x.ht hx x y v u B w le0 hv hu hB)
theorem Same_c (x y:Ex) (v u:Value) (B:Nat) (w:World) (hv:ExAt w B v x) (hu:ExAt w B u y) (hB:B<=w.heap.size):
  CB prog 94 #[v,u] w (.bool (x.sameB y)):=same_all x.ht x y v u B w le0 hv hu hB
def Ex.mayT (x:Ex):Bool:=mayB 16 x
theorem May_c (x:Ex) (v:Value) (B:Nat) (w:World) (hv:ExAt w B v x) (hB:B<=w.heap.size):
  CB prog 218 #[v] w (.bool x.mayT):=by
 obtain⟨sv,rfl,hs⟩:=hv;obtain⟨a,cap,rfl,hcap,hmx⟩:=hs.slice;have HV:Hd (ExAt w B _ x):=⟨_,rfl,hs⟩;clear hs;go_enter func218,ntmps218
 go_wp2_with (go_at_call 247;refine(may_c 16 x _ B _ _ (HV.o.keep (br0.alloc hB _)) (by omega) (by omega) (by simp;omega)).mono ?_;rintro e w3 ⟨rfl,hb3⟩)
 go_ret;exact⟨rfl,(br0.alloc le0 _).trans (hb3.mono (by simp))⟩
mutual
def Ex.size:Ex->Nat
 | .mk _ _ l=>min (Exs.size l 1) 2000
def Exs.size:List Ex->Nat->Nat
 | [],n=>n
 |x::l,n=>Exs.size l (if n<2000 then n+x.size else n)
end
theorem Ex.size_le (x:Ex):x.size<=2000:=by obtain⟨o,n,l⟩:=x;simp only[Ex.size];omega
theorem Ex.size_eq (x:Ex):x.size=min (Exs.size x.args 1) 2000:=by obtain⟨o,n,l⟩:=x;rfl
def SizeC (h:Nat):Prop:= ∀(x:Ex) (v:Value) (B:Nat) (w:World),x.ht<=h->ExAt w B v x->B<=w.heap.size->
 CB prog 123 #[v] w (.int .i64 x.size)
theorem size_step (h:Nat) (IH:Hd (∀x:Ex,x.ht<h-> ∀(v:Value) (B:Nat) (w:World),ExAt w B v x->B<=w.heap.size->
   CB prog 123 #[v] w (.int .i64 x.size))):SizeC h:=by
 intro x v B w hh hv hB;have HLT:Hd (∀a∈x.args,a.ht<h):=fun a ha=>by have:=Ex.ht_args x a ha;omega
 have HE:=Lh (Ex.size_eq x);obtain⟨sv,rfl,hs⟩:=hv;obtain⟨a,cap,rfl,hcap,hmx⟩:=hs.slice;have HS:=Lh hs;have hlm:x.args.length<=9223372036854775807:=by unfold maxLen at hmx;omega
 generalize x.op=o at*;generalize x.n=n at*;generalize x.args=l at*;clear hs hh;go_enter func123,ntmps123;go_wp2;have hW:=(Below.refl w.heap.size w).alloc le0 (.cells #[.int .u8 o,.int .i64 n,.slice a l.length cap] 133);generalize World.alloc w _=W at*
 go_loopw [3,9] (fun s q wr=> ∃j m:Nat,q= .int .i64 j/\s= .int .i64 m/\j<=l.length/\m<=4000/\Below w.heap.size w wr/\Exs.size (l.drop j) m=Exs.size l 1) (fun _ q _=>l.length-(intOf q).toNat)
 case atStart=>exact⟨0,1,rfl,rfl,ze0,by omega,hW,rfl⟩
 case round=>
  obtain⟨j,m,rfl,rfl,hj,hm,hBr,hr⟩:=hrel;by_cases hlt:j<l.length
  ·obtain⟨b,off,cp,sv,e1,hb,c0,c1,c2,hsub⟩:=((HS.o.mono hB).keep hBr).at_ j hlt;simp only[vs0,true_and]at e1;obtain⟨rfl,rfl⟩:=e1;obtain⟨a2,cap2,rfl,_,_⟩:=hsub.slice;rw[List.drop_eq_getElem_cons hlt]at hr;simp only[Exs.size]at hr;have hht:=HLT.o _ (List.getElem_mem hlt);have hx: ∀X,Below wr.heap.size wr X->ExAt X X.heap.size (.agg #[.int .u8 (l[j]'hlt).op,.int .i64 (l[j]'hlt).n,.slice a2 (l[j]'hlt).args.length cap2]) (l[j]'hlt):=fun X hX=>⟨_,rfl,(hsub.keep (hX.mono hBr.size)).mono (le1 hBr.size hX.size)⟩;have hsz:=Ex.size_le (l[j]'hlt);generalize l[j]=x at*;have HX:=Lh hx;have HR:=Lh hr;clear hr hx hsub;by_cases hm2:m<2000
   ·have hm3:(m:Int)<2000:=by omega
    go_wp2_with (go_at_call 123;refine(IH.o x hht _ _ _ (HX.o _ (br0.alloc le0 _)) le0).mono ?_;rintro e w3 ⟨rfl,hb3⟩)
    go_roundw
    case rel=>exact⟨j+1,m+x.size,by go_num,by go_num,by omega,by omega,(hBr.alloc hBr.size _).trans (hb3.mono (by have:=hBr.size;simp;omega)),by rw[<-HR.o,if_pos hm2]⟩
    case measure=>simp[intOf];omega
   ·have hm3: ¬(m:Int)<2000:=by omega
    go_wp2;go_roundw
    case rel=>exact⟨j+1,m,by go_num,rfl,by omega,by omega,hBr.alloc hBr.size _,by rw[<-HR.o,if_neg hm2]⟩
    case measure=>simp[intOf];omega
  ·rw[List.drop_of_length_le (by omega)]at hr;simp only[Exs.size]at hr;have HR:=Lh hr;clear hr;go_wp2
   all_goals
    go_ret;exact⟨ret_int (by rw[HE.o,<-HR.o];omega),hBr⟩
theorem size_all (h:Nat):SizeC h:=by
 induction h using Nat.strongRecOn with
 |ind h ih=>exact size_step h (fun x hx v B w hv hB=>ih x.ht hx x v B w le0 hv hB)
theorem Size_c (x:Ex) (v:Value) (B:Nat) (w:World) (hv:ExAt w B v x) (hB:B<=w.heap.size):
  CB prog 123 #[v] w (.int .i64 x.size):=size_all x.ht x v B w le0 hv hB
structure Nd where
 uid:ByteArray
 kind:Int
 ins:List Int
 x:Ex
 n:Int
structure Jb where
 par:Int
 nodes:List Nd
def NdIn (w:World) (B:Nat) (iv sv:Value) (d:Nd):Prop:=Sl w B 1 iv d.ins.length (d.ins.map (Value.int .i64))/\ArgsAt w B d.x.args sv
def NdAt (w:World) (B:Nat) (v:Value) (d:Nd):Prop:=
 ∃iv sv,v= .agg #[.string d.uid,.int .u8 d.kind,iv,.int .u8 d.x.op,.int .i64 d.x.n,sv,.int .i64 d.n]/\NdIn w B iv sv d/\d.uid.size<=maxLen
def NodesAt (w:World) (B:Nat) (l:List Nd) (v:Value):Prop:=
 ∃a cap,v= .slice a l.length cap/\l.length<=cap/\cap<=maxLen/\(l.length=0\/ ∃b off,a=some ⟨b,off,none⟩/\b<B/\ ∀j (h:j<l.length),(l[j]'h).uid.size<=maxLen/\ ∃iv sv,
  w.cell? ⟨b,off+j*7,none⟩=some (.string (l[j]'h).uid)/\w.cell? ⟨b,off+j*7+1,none⟩=some (.int .u8 (l[j]'h).kind)/\w.cell? ⟨b,off+j*7+2,none⟩=some iv/\
  w.cell? ⟨b,off+j*7+3,none⟩=some (.int .u8 (l[j]'h).x.op)/\w.cell? ⟨b,off+j*7+4,none⟩=some (.int .i64 (l[j]'h).x.n)/\w.cell? ⟨b,off+j*7+5,none⟩=some sv/\
  w.cell? ⟨b,off+j*7+6,none⟩=some (.int .i64 (l[j]'h).n)/\NdIn w B iv sv (l[j]'h))
def JbAt (w:World) (B:Nat) (v:Value) (j:Jb):Prop:= ∃sv,v= .agg #[.int .i64 j.par,sv]/\NodesAt w B j.nodes sv
theorem NdIn.mono {w:World} {B C:Nat} {iv sv:Value} {d:Nd} (h:NdIn w B iv sv d) (hC:B<=C):NdIn w C iv sv d:=⟨h.1.mono hC,h.2.mono hC⟩
theorem NdIn.keep {w w':World} {B:Nat} {iv sv:Value} {d:Nd} (h:NdIn w B iv sv d) (hB:Below B w w'):NdIn w' B iv sv d:=⟨h.1.below hB,h.2.keep hB⟩
theorem NdAt.mono {w:World} {B C:Nat} {v:Value} {d:Nd} (h:NdAt w B v d) (hC:B<=C):NdAt w C v d:=let ⟨a,b,c,e,f⟩:=h;⟨a,b,c,e.mono hC,f⟩
theorem NdAt.keep {w w':World} {B:Nat} {v:Value} {d:Nd} (h:NdAt w B v d) (hB:Below B w w'):NdAt w' B v d:=let ⟨a,b,c,e,f⟩:=h;⟨a,b,c,e.keep hB,f⟩
namespace NodesAt
variable {w w':World} {B:Nat} {l:List Nd} {v:Value}
theorem mono (h:NodesAt w B l v) {C:Nat} (hC:B<=C):NodesAt w C l v:=by
 obtain⟨a,cap,rfl,h1,h2,h3⟩:=h;refine⟨a,cap,rfl,h1,h2,h3.imp id ?_⟩;rintro ⟨b,off,rfl,hb,hc⟩;refine⟨b,off,rfl,by omega,fun j hj=>?_⟩;obtain⟨u,iv,sv,c0,c1,c2,c3,c4,c5,c6,hs⟩:=hc j hj;exact⟨u,iv,sv,c0,c1,c2,c3,c4,c5,c6,hs.mono hC⟩
theorem keep (h:NodesAt w B l v) (hB:Below B w w'):NodesAt w' B l v:=by
 obtain⟨a,cap,rfl,h1,h2,h3⟩:=h;refine⟨a,cap,rfl,h1,h2,h3.imp id ?_⟩;rintro ⟨b,off,rfl,hb,hc⟩;refine⟨b,off,rfl,hb,fun j hj=>?_⟩;obtain⟨u,iv,sv,c0,c1,c2,c3,c4,c5,c6,hs⟩:=hc j hj;have g:=fun k=>hB.cell (p:=⟨b,k,none⟩) hb;exact⟨u,iv,sv,(g _).trans c0,(g _).trans c1,(g _).trans c2,(g _).trans c3,(g _).trans c4,(g _).trans c5,(g _).trans c6,hs.keep hB⟩
theorem slice (h:NodesAt w B l v): ∃a cap,v= .slice a l.length cap/\l.length<=cap/\cap<=maxLen:=by
 obtain⟨a,cap,rfl,h1,h2,h3⟩:=h;exact⟨a,cap,rfl,h1,h2⟩
theorem at_ (h:NodesAt w B l v) (j:Nat) (hj:j<l.length): ∃b off cap,v= .slice (some ⟨b,off,none⟩) l.length cap/\b<B/\(l[j]'hj).uid.size<=maxLen/\ ∃iv sv,
  w.cell? ⟨b,off+j*7,none⟩=some (.string (l[j]'hj).uid)/\w.cell? ⟨b,off+j*7+1,none⟩=some (.int .u8 (l[j]'hj).kind)/\w.cell? ⟨b,off+j*7+2,none⟩=some iv/\
  w.cell? ⟨b,off+j*7+3,none⟩=some (.int .u8 (l[j]'hj).x.op)/\w.cell? ⟨b,off+j*7+4,none⟩=some (.int .i64 (l[j]'hj).x.n)/\w.cell? ⟨b,off+j*7+5,none⟩=some sv/\
  w.cell? ⟨b,off+j*7+6,none⟩=some (.int .i64 (l[j]'hj).n)/\NdIn w B iv sv (l[j]'hj):=by
 obtain⟨a,cap,rfl,h1,h2,h3⟩:=h;rcases h3 with h3|⟨b,off,rfl,hb,hc⟩
 ·omega
 ·obtain⟨u,iv,sv,c⟩:=hc j hj;exact⟨b,off,cap,rfl,hb,u,iv,sv,c⟩
end NodesAt
theorem JbAt.mono {w:World} {B C:Nat} {v:Value} {j:Jb} (h:JbAt w B v j) (hC:B<=C):JbAt w C v j:=let ⟨a,b,c⟩:=h;⟨a,b,c.mono hC⟩
theorem JbAt.keep {w w':World} {B:Nat} {v:Value} {j:Jb} (h:JbAt w B v j) (hB:Below B w w'):JbAt w' B v j:=let ⟨a,b,c⟩:=h;⟨a,b,c.keep hB⟩
def Nd.ok (d:Nd):Prop:=0<=d.kind/\d.kind<=255/\(∀z∈d.ins,-9223372036854775808<=z/\z<=9223372036854775807)/\d.x.ok/\ -9223372036854775808<=d.n/\d.n<=9223372036854775807
def Jb.ok (j:Jb):Prop:= -9223372036854775808<=j.par/\j.par<=9223372036854775807/\ ∀d∈j.nodes,d.ok
def idxZ {α:Type} (p:α->Bool):List α->Nat->Int
 | [],_=> -1
 |y::l,k=>bif p y then(k:Int)else idxZ p l (k+1)
theorem idxZ_nonneg {α:Type} (p:α->Bool): ∀(l:List α) (k:Nat),(0<=idxZ p l k)↔l.any p=true
 | [],k=>by simp[idxZ]
 |y::l,k=>by
  simp only[idxZ,List.any_cons]
  cases h:p y
  ·simpa using idxZ_nonneg p l (k+1)
  ·simp
theorem idxZ_le {α:Type} (p:α->Bool): ∀(l:List α) (k:Nat),-1<=idxZ p l k/\idxZ p l k<k+l.length+1
 | [],k=>by simp[idxZ];omega
 |y::l,k=>by
  have:=idxZ_le p l (k+1)
  simp only[idxZ,List.length_cons]
  cases p y<;>simp only[cond_true,cond_false]<;>omega
theorem Sl.str {w:World} {B n:Nat} {v:Value} {zs:List ByteArray} (h:Sl w B 1 v n (zs.map Value.string)) (k:Nat) (hk:k<n):
  ∃b off cap,v= .slice (some ⟨b,off,none⟩) n cap/\b<B/\ ∃hl:k<zs.length,w.cell? ⟨b,off+k,none⟩=some (.string (zs[k]'hl)):=by
 obtain⟨h1,a,cap,hv,h2,h3,h4⟩:=h;rw[List.length_map,Nat.mul_one]at h1;rcases h4 with h4|⟨b,off,rfl,hb,hc⟩
 ·omega
 ·refine⟨b,off,cap,hv,hb,by omega,?_⟩;rw[hc k (by omega)];simp[show k<zs.length by omega]
theorem Sl.take {w:World} {B n:Nat} {b off cap:Nat} {cs:List Value} (h:Sl w B 1 (.slice (some ⟨b,off,none⟩) n cap) n cs) (k:Nat) (hk:k<=n):Sl w B 1 (.slice (some ⟨b,off,none⟩) k cap) k (cs.take k):=by
 obtain⟨h1,a,cap',hv,h2,h3,h4⟩:=h;simp only[vs0,true_and]at hv;obtain⟨rfl,rfl⟩:=hv;refine⟨by simp;omega,_,cap,rfl,by omega,h3,?_⟩;rcases h4 with h4|⟨b',off',he,hb,hc⟩
 ·exact .inl (by omega)
 ·simp only[Option.some.injEq,Addr.mk.injEq,and_true]at he;obtain⟨rfl,rfl⟩:=he;exact .inr ⟨b,off,rfl,hb,fun j hj=>by rw[hc j (by omega),List.getElem?_take,if_pos (by omega)]⟩
theorem IndexInt_c (l:List Int) (n:Nat) (v:Value) (x:Int) (B:Nat) (w:World) (h:Sl w B 1 v n (l.map (Value.int .i64))) (hn:l.length=n):
  Calls prog 190 #[v,.int .i64 x] w fun e w'=>e= .returned (.int .i64 (idxZ (fun y=>x==y) l 0))/\w=w':=by
 obtain⟨_,a,cap,rfl,hc,hm,_⟩:=id h;have H:=Lh h;have HN:=Lh hn;have hnm:n<=9223372036854775807:=by unfold maxLen at hm;omega
 clear h hn;rename_i hx1 hx2;clear hx1 hx2;go_enter func190,ntmps190;go_wp2
 go_loop [8] (fun q=> ∃k:Nat,q= .int .i64 k/\k<=n/\idxZ (fun y=>x==y) (l.drop k) k=idxZ (fun y=>x==y) l 0) (fun q=>n-(intOf q).toNat)
 case atStart=>exact⟨0,rfl,ze0,rfl⟩
 case round=>
  obtain⟨k,rfl,hk,hr⟩:=hrel;by_cases hlt:k<n
  ·obtain⟨b,off,cp,e1,hb,g1,p0⟩:=H.o.int k hlt;simp only[vs0,true_and]at e1;obtain⟨rfl,rfl⟩:=e1;rw[List.drop_eq_getElem_cons g1]at hr;generalize l[k]=y at*;simp only[idxZ]at hr;have HR:=Lh hr;clear hr
   cases hxy:(x==y)
   all_goals
    have HXY:=Lh hxy;go_wp2
   ·go_round
    case rel=>exact⟨k+1,by go_num,by omega,by rw[<-HR.o,HXY.o];rfl⟩
    case measure=>simp[intOf];omega
   ·go_ret;exact⟨ret_int (by rw[<-HR.o,HXY.o];rfl),rfl⟩
  ·rw[List.drop_of_length_le (by have:=HN.o;omega)]at hr;have HR:=Lh hr;clear hr;go_wp2;go_ret;exact⟨ret_int (by rw[<-HR.o];rfl),rfl⟩
theorem ContainsInt_c (l:List Int) (n:Nat) (v:Value) (x:Int) (B:Nat) (w:World) (h:Sl w B 1 v n (l.map (Value.int .i64))) (hn:l.length=n):
  Calls prog 163 #[v,.int .i64 x] w fun e w'=>e= .returned (.bool (l.any (fun y=>x==y)))/\w=w':=by
 have hz:=idxZ_nonneg (fun y=>x==y) l 0
 cases ha:l.any (fun y=>x==y)
 all_goals
  rw[ha]at hz;have HZ:=Lh hz;clear hz ha;go_enter func163,ntmps163
  go_wp2_with (go_at_call 190;refine(IndexInt_c l n v x B w h hn).mono ?_;rintro e w1 ⟨rfl,rfl⟩;generalize idxZ (fun y=>x==y) l 0=z at*)
  go_ret;exact⟨ret_bool (by have hz:=HZ.o;simp only[Bool.false_eq_true,iff_false,iff_true]at hz;simpa using hz),rfl⟩
theorem IndexStr_c (l:List ByteArray) (n:Nat) (v:Value) (x:ByteArray) (B:Nat) (w:World) (h:Sl w B 1 v n (l.map Value.string)) (hn:l.length=n):
  Calls prog 189 #[v,.string x] w fun e w'=>e= .returned (.int .i64 (idxZ (fun y=>decide (x=y)) l 0))/\w=w':=by
 obtain⟨_,a,cap,rfl,hc,hm,_⟩:=id h;have H:=Lh h;have HN:=Lh hn;have hnm:n<=9223372036854775807:=by unfold maxLen at hm;omega
 clear h hn;rename_i hx1 hx2;clear hx1 hx2;go_enter func189,ntmps189;go_wp2
 go_loop [8] (fun q=> ∃k:Nat,q= .int .i64 k/\k<=n/\idxZ (fun y=>decide (x=y)) (l.drop k) k=idxZ (fun y=>decide (x=y)) l 0) (fun q=>n-(intOf q).toNat)
 case atStart=>exact⟨0,rfl,ze0,rfl⟩
 case round=>
  obtain⟨k,rfl,hk,hr⟩:=hrel;by_cases hlt:k<n
  ·obtain⟨b,off,cp,e1,hb,g1,p0⟩:=H.o.str k hlt;simp only[vs0,true_and]at e1;obtain⟨rfl,rfl⟩:=e1;rw[List.drop_eq_getElem_cons g1]at hr;generalize l[k]=y at*;simp only[idxZ]at hr;have HR:=Lh hr;clear hr;have hb:=bytes_inj x y;by_cases hxy:x=y
   ·have HXY:Hd (decide (x=y)=true):=dt0 hxy;have hq:(x.toList==y.toList)=true:=by simpa using hb.2 hxy
    clear hb hxy;go_wp2;go_ret;exact⟨ret_int (by rw[<-HR.o,HXY.o];rfl),rfl⟩
   ·have HXY:Hd (decide (x=y)=false):=df0 hxy;have hq:(x.toList==y.toList)=false:=by simpa using fun h=>hxy (hb.1 h)
    clear hb hxy;go_wp2;go_round
    case rel=>exact⟨k+1,by go_num,by omega,by rw[<-HR.o,HXY.o];rfl⟩
    case measure=>simp[intOf];omega
  ·rw[List.drop_of_length_le (by have:=HN.o;omega)]at hr;have HR:=Lh hr;clear hr;go_wp2;go_ret;exact⟨ret_int (by rw[<-HR.o];rfl),rfl⟩
theorem ContainsStr_c (l:List ByteArray) (n:Nat) (v:Value) (x:ByteArray) (B:Nat) (w:World) (h:Sl w B 1 v n (l.map Value.string)) (hn:l.length=n):
  Calls prog 162 #[v,.string x] w fun e w'=>e= .returned (.bool (l.any (fun y=>decide (x=y))))/\w=w':=by
 have hz:=idxZ_nonneg (fun y=>decide (x=y)) l 0
 cases ha:l.any (fun y=>decide (x=y))
 all_goals
  rw[ha]at hz;have HZ:=Lh hz;clear hz ha;go_enter func162,ntmps162
  go_wp2_with (go_at_call 189;refine(IndexStr_c l n v x B w h hn).mono ?_;rintro e w1 ⟨rfl,rfl⟩;generalize idxZ (fun y=>decide (x=y)) l 0=z at*)
  go_ret;exact⟨ret_bool (by have hz:=HZ.o;simp only[Bool.false_eq_true,iff_false,iff_true]at hz;simpa using hz),rfl⟩
def twiceGo {α:Type} (p:α->α->Bool):List α->List α->Bool
 |_,[]=>false
 |s,x::l=>s.any (p x)||twiceGo p (s++ [x]) l
def twiceB {α:Type} (p:α->α->Bool) (l:List α):Bool:=twiceGo p [] l
theorem twiceInt_c (l:List Int) (n:Nat) (v:Value) (B:Nat) (w:World) (h:Sl w B 1 v n (l.map (Value.int .i64))) (hn:l.length=n):
  Calls prog 158 #[v] w fun e w'=>e= .returned (.bool (twiceB (fun x y=>x==y) l))/\w=w':=by
 obtain⟨_,a,cap,rfl,hc,hm,_⟩:=id h;have H:=Lh h;have HN:=Lh hn;have hnm:n<=9223372036854775807:=by unfold maxLen at hm;omega
 have hcm:cap<=9223372036854775807:=by unfold maxLen at hm;omega
 clear h hn;rename_i hx1 hx2;clear hx1 hx2;go_enter func158,ntmps158;go_wp2
 go_loop [7] (fun q=> ∃k:Nat,q= .int .i64 k/\k<=n/\twiceGo (fun x y=>x==y) (l.take k) (l.drop k)=twiceB (fun x y=>x==y) l) (fun q=>n-(intOf q).toNat)
 case atStart=>exact⟨0,rfl,ze0,rfl⟩
 case round=>
  obtain⟨k,rfl,hk,hr⟩:=hrel;by_cases hlt:k<n
  ·obtain⟨b,off,cp,e1,hb,g1,p0⟩:=H.o.int k hlt;simp only[vs0,true_and]at e1;obtain⟨rfl,rfl⟩:=e1;have HT:=Lh (H.o.take k hk);rw[List.drop_eq_getElem_cons g1]at hr;have hts:=List.take_succ_eq_append_getElem g1;have HL:Hd ((l.take k).length=k):=by simp[Hd];omega
   generalize l[k]=y at*;rw[<-List.map_take]at HT;simp only[twiceGo]at hr;have HR:=Lh hr;have HTS:=Lh hts;clear hr hts
   cases hxy:(l.take k).any (fun z=>y==z)
   all_goals
    have HXY:=Lh hxy;clear hxy
    go_wp2_with (go_at_call 163;refine(ContainsInt_c (l.take k) k _ y B _ HT.o HL.o).mono ?_;rintro e w1 ⟨rfl,rfl⟩;rw[HXY.o])
   ·go_round
    case rel=>exact⟨k+1,by go_num,by omega,by rw[HTS.o,<-HR.o,HXY.o];rfl⟩
    case measure=>simp[intOf];omega
   ·go_ret;exact⟨ret_bool (by rw[<-HR.o,HXY.o];rfl),rfl⟩
  ·rw[List.drop_of_length_le (by have:=HN.o;omega)]at hr;have HR:=Lh hr;clear hr;go_wp2;go_ret;exact⟨ret_bool (by rw[<-HR.o];rfl),rfl⟩
theorem twiceStr_c (l:List ByteArray) (n:Nat) (v:Value) (B:Nat) (w:World) (h:Sl w B 1 v n (l.map Value.string)) (hn:l.length=n):
  Calls prog 127 #[v] w fun e w'=>e= .returned (.bool (twiceB (fun x y=>decide (x=y)) l))/\w=w':=by
 obtain⟨_,a,cap,rfl,hc,hm,_⟩:=id h;have H:=Lh h;have HN:=Lh hn;have hnm:n<=9223372036854775807:=by unfold maxLen at hm;omega
 have hcm:cap<=9223372036854775807:=by unfold maxLen at hm;omega
 clear h hn;rename_i hx1 hx2;clear hx1 hx2;go_enter func127,ntmps127;go_wp2
 go_loop [7] (fun q=> ∃k:Nat,q= .int .i64 k/\k<=n/\twiceGo (fun x y=>decide (x=y)) (l.take k) (l.drop k)=twiceB (fun x y=>decide (x=y)) l) (fun q=>n-(intOf q).toNat)
 case atStart=>exact⟨0,rfl,ze0,rfl⟩
 case round=>
  obtain⟨k,rfl,hk,hr⟩:=hrel;by_cases hlt:k<n
  ·obtain⟨b,off,cp,e1,hb,g1,p0⟩:=H.o.str k hlt;simp only[vs0,true_and]at e1;obtain⟨rfl,rfl⟩:=e1;have HT:=Lh (H.o.take k hk);rw[List.drop_eq_getElem_cons g1]at hr;have hts:=List.take_succ_eq_append_getElem g1;have HL:Hd ((l.take k).length=k):=by simp[Hd];omega
   generalize l[k]=y at*;rw[<-List.map_take]at HT;simp only[twiceGo]at hr;have HR:=Lh hr;have HTS:=Lh hts;clear hr hts
   cases hxy:(l.take k).any (fun z=>decide (y=z))
   all_goals
    have HXY:=Lh hxy;clear hxy
    go_wp2_with (go_at_call 162;refine(ContainsStr_c (l.take k) k _ y B _ HT.o HL.o).mono ?_;rintro e w1 ⟨rfl,rfl⟩;rw[HXY.o])
   ·go_round
    case rel=>exact⟨k+1,by go_num,by omega,by rw[HTS.o,<-HR.o,HXY.o];rfl⟩
    case measure=>simp[intOf];omega
   ·go_ret;exact⟨ret_bool (by rw[<-HR.o,HXY.o];rfl),rfl⟩
  ·rw[List.drop_of_length_le (by have:=HN.o;omega)]at hr;have HR:=Lh hr;clear hr;go_wp2;go_ret;exact⟨ret_bool (by rw[<-HR.o];rfl),rfl⟩
def outB (at_ y:Int):Bool:=decide (y<0)||decide (at_<=y)
theorem may1_c (y at_:Int) (b:Nat) (w:World) (h:w.cell? ⟨b,0,none⟩=some (.int .i64 at_)):
  Calls prog 160 #[.int .i64 y,.pointer (some ⟨b,0,none⟩)] w fun e w'=>e= .returned (.bool (outB at_ y))/\w=w':=by
 cases h1:decide (y<0)
 all_goals
  have HO:Hd (outB at_ y=(decide (y<0)||decide (at_<=y))):=rfl;go_enter func160,ntmps160;go_wp2;go_ret;exact⟨ret_bool (by rw[HO.o,h1];simp),rfl⟩
theorem IndexOut_c (l:List Int) (n:Nat) (v:Value) (at_:Int) (b:Nat) (B:Nat) (w:World) (h:Sl w B 1 v n (l.map (Value.int .i64))) (hn:l.length=n) (hb:w.cell? ⟨b,0,none⟩=some (.int .i64 at_)):
  Calls prog 187 #[v,.func (.func 160) #[] #[.pointer (some ⟨b,0,none⟩)]] w fun e w'=>e= .returned (.int .i64 (idxZ (outB at_) l 0))/\w=w':=by
 obtain⟨_,a,cap,rfl,hc,hm,_⟩:=id h;have H:=Lh h;have HN:=Lh hn;have HB:=Lh hb;have hnm:n<=9223372036854775807:=by unfold maxLen at hm;omega
 clear h hn hb;rename_i hx1 hx2;clear hx1 hx2;go_enter func187,ntmps187;go_wp2
 go_loop [8] (fun q=> ∃k:Nat,q= .int .i64 k/\k<=n/\idxZ (outB at_) (l.drop k) k=idxZ (outB at_) l 0) (fun q=>n-(intOf q).toNat)
 case atStart=>exact⟨0,rfl,ze0,rfl⟩
 case round=>
  obtain⟨k,rfl,hk,hr⟩:=hrel;by_cases hlt:k<n
  ·obtain⟨b',off,cp,e1,hb',g1,p0⟩:=H.o.int k hlt;simp only[vs0,true_and]at e1;obtain⟨rfl,rfl⟩:=e1;rw[List.drop_eq_getElem_cons g1]at hr;generalize l[k]=y at*;simp only[idxZ]at hr;have HR:=Lh hr;clear hr
   cases hxy:outB at_ y
   all_goals
    have HXY:=Lh hxy;clear hxy
    go_wp2_with (go_at_call 160;refine(may1_c y at_ b _ HB.o).mono ?_;rintro e w1 ⟨rfl,rfl⟩;rw[HXY.o])
   ·go_round
    case rel=>exact⟨k+1,by go_num,by omega,by rw[<-HR.o,HXY.o];rfl⟩
    case measure=>simp[intOf];omega
   ·go_ret;exact⟨ret_int (by rw[<-HR.o,HXY.o];rfl),rfl⟩
  ·rw[List.drop_of_length_le (by have:=HN.o;omega)]at hr;have HR:=Lh hr;clear hr;go_wp2;go_ret;exact⟨ret_int (by rw[<-HR.o];rfl),rfl⟩
theorem ContainsOut_c (l:List Int) (n:Nat) (v:Value) (at_:Int) (b:Nat) (B:Nat) (w:World) (h:Sl w B 1 v n (l.map (Value.int .i64))) (hn:l.length=n) (hb:w.cell? ⟨b,0,none⟩=some (.int .i64 at_)):
  Calls prog 159 #[v,.func (.func 160) #[] #[.pointer (some ⟨b,0,none⟩)]] w fun e w'=>e= .returned (.bool (l.any (outB at_)))/\w=w':=by
 have hz:=idxZ_nonneg (outB at_) l 0
 cases ha:l.any (outB at_)
 all_goals
  rw[ha]at hz;have HZ:=Lh hz;have HB:=Lh hb;clear hz ha hb;go_enter func159,ntmps159
  go_wp2_with (go_at_call 187;refine(IndexOut_c l n v at_ b B w h hn HB.o).mono ?_;rintro e w1 ⟨rfl,rfl⟩;generalize idxZ (outB at_) l 0=z at*)
  go_ret;exact⟨ret_bool (by have hz:=HZ.o;simp only[Bool.false_eq_true,iff_false,iff_true]at hz;simpa using hz),rfl⟩
mutual
def Ex.accB:Ex->Bool
 | .mk o _ l=>o==4||Exs.accB l
def Exs.accB:List Ex->Bool
 | []=>false
 |x::l=>x.accB||Exs.accB l
end
theorem Ex.accB_eq (x:Ex):x.accB=(x.op==4||Exs.accB x.args):=by obtain⟨o,n,l⟩:=x;rfl
def AccC (h:Nat):Prop:= ∀(x:Ex) (v:Value) (B:Nat) (w:World),x.ht<=h->ExAt w B v x->B<=w.heap.size->
 CB prog 219 #[v] w (.bool x.accB)
theorem acc_step (h:Nat) (IH:Hd (∀x:Ex,x.ht<h-> ∀(v:Value) (B:Nat) (w:World),ExAt w B v x->B<=w.heap.size->
   CB prog 219 #[v] w (.bool x.accB))):AccC h:=by
 intro x v B w hh hv hB;have HLT:Hd (∀a∈x.args,a.ht<h):=fun a ha=>by have:=Ex.ht_args x a ha;omega
 have HE:=Lh (Ex.accB_eq x);obtain⟨sv,rfl,hs⟩:=hv;obtain⟨a,cap,rfl,hcap,hmx⟩:=hs.slice;have HS:=Lh hs;have hlm:x.args.length<=9223372036854775807:=by unfold maxLen at hmx;omega
 generalize x.op=o at*;generalize x.n=n at*;generalize x.args=l at*;clear hs hh;by_cases h4:o=4
 ·have hq1:(o==4)=true:=by simpa using h4
  have HE2:Hd (x.accB=true):=by show _=_;rw[HE.o,hq1];rfl
  clear h4 HE;go_enter func219,ntmps219;go_wp2;go_ret;exact⟨ret_bool HE2.o.symm,br0.alloc le0 _⟩
 ·have hq1:(o==4)=false:=by simpa using h4
  have HE2:Hd (x.accB=Exs.accB l):=by show _=_;rw[HE.o,hq1];rfl
  clear h4 HE;go_enter func219,ntmps219;go_wp2;have hW:=(Below.refl w.heap.size w).alloc le0 (.cells #[.int .u8 o,.int .i64 n,.slice a l.length cap] 133);generalize World.alloc w _=W at*
  go_loopw [11] (fun q wr=> ∃j:Nat,q= .int .i64 j/\j<=l.length/\Below w.heap.size w wr/\Exs.accB (l.drop j)=Exs.accB l) (fun q _=>l.length-(intOf q).toNat)
  case atStart=>exact⟨0,rfl,ze0,hW,rfl⟩
  case round=>
   obtain⟨j,rfl,hj,hBr,hr⟩:=hrel;by_cases hlt:j<l.length
   ·obtain⟨b,off,cp,sv,e1,hb,c0,c1,c2,hsub⟩:=((HS.o.mono hB).keep hBr).at_ j hlt;simp only[vs0,true_and]at e1;obtain⟨rfl,rfl⟩:=e1;obtain⟨a2,cap2,rfl,_,_⟩:=hsub.slice;rw[List.drop_eq_getElem_cons hlt]at hr;simp only[Exs.accB]at hr;have hht:=HLT.o _ (List.getElem_mem hlt);have hx: ∀X,Below wr.heap.size wr X->ExAt X X.heap.size (.agg #[.int .u8 (l[j]'hlt).op,.int .i64 (l[j]'hlt).n,.slice a2 (l[j]'hlt).args.length cap2]) (l[j]'hlt):=fun X hX=>⟨_,rfl,(hsub.keep (hX.mono hBr.size)).mono (le1 hBr.size hX.size)⟩;generalize l[j]=y at*;have HX:=Lh hx;have HR:=Lh hr;clear hr hx hsub
    cases hy:y.accB
    all_goals
     have HY:=Lh hy;clear hy
     go_wp2_with (go_at_call 219;refine(IH.o y hht _ _ _ (HX.o _ (br0.alloc le0 _)) le0).mono ?_;rintro e w3 ⟨rfl,hb3⟩;rw[HY.o])
    ·go_roundw
     case rel=>exact⟨j+1,by go_num,by omega,(hBr.alloc hBr.size _).trans (hb3.mono (by have:=hBr.size;simp;omega)),by rw[<-HR.o,HY.o,Bool.false_or]⟩
     case measure=>simp[intOf];omega
    ·go_ret;exact⟨ret_bool (by rw[HE2.o,<-HR.o,HY.o];rfl),(hBr.alloc hBr.size _).trans (hb3.mono (by have:=hBr.size;simp;omega))⟩
   ·rw[List.drop_of_length_le (by omega)]at hr;have HR:=Lh hr;clear hr;go_wp2;go_ret;exact⟨ret_bool (by rw[HE2.o,<-HR.o];rfl),hBr⟩
theorem acc_all (h:Nat):AccC h:=by
 induction h using Nat.strongRecOn with
 |ind h ih=>exact acc_step h (fun x hx v B w hv hB=>ih x.ht hx x v B w le0 hv hB)
theorem accs_c (x:Ex) (v:Value) (B:Nat) (w:World) (hv:ExAt w B v x) (hB:B<=w.heap.size):
  CB prog 219 #[v] w (.bool x.accB):=acc_all x.ht x v B w le0 hv hB
structure Row where
 op:Int
 a:Int
 b:Int
 c:Int
deriving DecidableEq
def Row.v (r:Row):Value:= .agg #[.int .u8 r.op,.int .u8 r.a,.int .u8 r.b,.int .u8 r.c]
theorem eq_arr (d:Nat) (a b c a' b' c':Int) (w:World):(Op.equalIn (d+2) 311 (.agg #[.int .u8 a,.int .u8 b,.int .u8 c]) (.agg #[.int .u8 a',.int .u8 b',.int .u8 c'])).run prog w= .ok (a==a'&&(b==b'&&c==c')) w:=by
 unfold Op.equalIn;go_simp;rw[show List.range' 0 3=[0,1,2]from rfl];simp only[List.forIn_cons,List.forIn_nil];go_simp;by_cases h1:a=a'
 ·by_cases h2:b=b'
  ·by_cases h3:c=c'<;>simp[h1,h2,h3]
  ·simp[h1,h2]
 ·simp[h1]
theorem run_eq_row (r s:Row) (w:World):(Op.equal 313 r.v s.v).run prog w= .ok (decide (r=s)) w:=by
 obtain⟨o,a,b,c⟩:=r;obtain⟨o',a',b',c'⟩:=s;simp only[Row.v];unfold Op.equal Op.maxDepth Op.equalIn;go_simp;rw[show(Op.equalIn 9999 311 (.agg #[.int .u8 a,.int .u8 b,.int .u8 c]) (.agg #[.int .u8 a',.int .u8 b',.int .u8 c'])).run prog w=_ from eq_arr 9997 a b c a' b' c' w];by_cases h1:o=o'
 ·by_cases h2:a=a'
  ·by_cases h3:b=b'
   ·by_cases h4:c=c'
    ·simp[h1,h2,h3,h4,Result.andThen]
    ·simp[h1,h2,h3,h4,Result.andThen]
   ·simp[h1,h2,h3,Result.andThen]
  ·simp[h1,h2,Result.andThen]
 ·simp[h1]
theorem ck_u8 (d:Nat) (e:Bool) (x:Int) (w:World):(Instr.checkKey e (d+1) 5 (.int .u8 x)).run prog w= .ok () w:=by
 unfold Instr.checkKey;go_simp
theorem ck_arr (d:Nat) (e:Bool) (a b c:Int) (w:World):(Instr.checkKey e (d+2) 311 (.agg #[.int .u8 a,.int .u8 b,.int .u8 c])).run prog w= .ok () w:=by
 unfold Instr.checkKey;go_simp;rw[show List.range' 0 3=[0,1,2]from rfl];simp only[List.forIn_cons,List.forIn_nil];go_simp;simp only[ck_u8];go_simp
theorem run_checkKey_row (e:Bool) (r:Row) (w:World):(Instr.checkKey e 10000 313 r.v).run prog w= .ok () w:=by
 obtain⟨o,a,b,c⟩:=r;simp only[Row.v];unfold Instr.checkKey;go_simp;rw[show(Instr.checkKey e 9999 5 (.int .u8 o)).run prog w=_ from ck_u8 9998 e o w];simp only[Result.andThen];exact ck_arr 9997 e a b c w
def findRow (r:Row):List (Row×Int)->Nat->Option (Nat×Int)
 | [],_=>none
 |p::l,i=>if r=p.1 then some (i,p.2)else findRow r l (i+1)
def getRow (r:Row) (l:List (Row×Int)):Int:=((findRow r l 0).map (·.2)).getD 0
def EntsAre (es:List MapEntry) (kv:List (Row×Int)):Prop:=es.map (fun e=>(e.key,e.val))=kv.map (fun p=>(p.1.v,Value.int .u8 p.2))
theorem findAsking_row (r:Row) (w:World): ∀(kv:List (Row×Int)) (es:List MapEntry) (i:Nat),EntsAre es kv->
  (Instr.findAsking 313 r.v es i).run prog w= .ok ((findRow r kv i).map (fun p=>(p.1,Value.int .u8 p.2))) w
 | [],[],i,_=>by unfold Instr.findAsking;go_simp;rfl
 | [],_::_,i,h=>by simp[EntsAre]at h
 |_::_,[],i,h=>by simp[EntsAre]at h
 |p::kv,e::es,i,h=>by
  simp only[EntsAre,List.map_cons,List.cons.injEq,Prod.mk.injEq]at h
  obtain⟨⟨h1,h2⟩,h3⟩:=h
  have ih:=findAsking_row r w kv es (i+1) h3
  unfold Instr.findAsking findRow
  rw[h1,h2]
  go_simp
  rw[run_eq_row]
  by_cases hr:r=p.1
  ·simp[hr,Result.andThen]
  ·simp[hr,Result.andThen,ih]
def MapIs (w:World) (b:Nat) (kv:List (Row×Int)):Prop:= ∃es clock,w.heap[b]? =some (.map es clock)/\EntsAre es.toList kv
namespace MapIs
variable {w w':World} {b:Nat} {kv:List (Row×Int)}
theorem lt (h:MapIs w b kv):b<w.heap.size:=by obtain⟨es,clock,h,_⟩:=h;exact(Array.getElem?_eq_some_iff.1 h).1
theorem below {B:Nat} (h:MapIs w b kv) (hf:Below B w w') (hb:b<B):MapIs w' b kv:=by obtain⟨es,clock,h1,h2⟩:=h;exact⟨es,clock,(hf.block b hb).trans h1,h2⟩
theorem alloc (h:MapIs w b kv) (o:Obj):MapIs (w.alloc o) b kv:=by have:=h.lt;obtain⟨es,clock,h1,h2⟩:=h;exact⟨es,clock,(alloc_old w o b this).trans h1,h2⟩
end MapIs
theorem findKey_row (r:Row) (w:World) (kv:List (Row×Int)) (es:List MapEntry) (h:EntsAre es kv):
  (Instr.findKey 313 r.v es).run prog w= .ok ((findRow r kv 0).map (fun p=>(p.1,Value.int .u8 p.2))) w:=by
 have ha:=findAsking_row r w kv es 0 h;unfold Instr.findKey
 cases es with
 |nil=>
  cases kv with
  |nil=>simp[run_underlying underlying313,Instr.findNow,findRow,Result.andThen]
  |cons p kv=>simp[EntsAre]at h
 |cons e es=>
  simp[run_underlying underlying313,Instr.findNow,Instr.sameNow,Result.andThen,ha]
theorem lookup_row {w:World} {b:Nat} {kv:List (Row×Int)} (h:MapIs w b kv) (r:Row):
  (Instr.lookup 285 (.map (some b)) r.v false).run prog w= .ok (.int .u8 (getRow r kv)) w:=by
 obtain⟨es,clock,h1,h2⟩:=h;have hz:(zeroValue 5).run prog w= .ok (.int .u8 0) w:=by go_simp
 unfold Instr.lookup getRow
 cases hf:findRow r kv 0 with
 |none=>simp[run_underlying underlying285,MapKept.run_getObj_map h1,run_checkKey_row,findKey_row r w kv _ h2,hf,hz,Result.andThen]
 |some p=>simp[run_underlying underlying285,MapKept.run_getObj_map h1,run_checkKey_row,findKey_row r w kv _ h2,hf,Result.andThen]
theorem update_row {w:World} {b:Nat} {kv:List (Row×Int)} (h:MapIs w b kv) (r:Row) (x:Int) (hnew:findRow r kv 0=none):
  ∃w',(Instr.mapUpdate 285 (.map (some b)) r.v (.int .u8 x)).run prog w= .ok () w'/\MapIs w' b (kv++ [(r,x)])/\Fr (fun k=>k=b) w w':=by
 have hlt:=h.lt;obtain⟨es,clock,h1,h2⟩:=h;refine⟨ChangeMaps.setBlock w b (.map (es.push ⟨r.v,.int .u8 x,clock⟩) (clock+1)),?_,⟨es.push ⟨r.v,.int .u8 x,clock⟩,clock+1,by simp[ChangeMaps.setBlock,hlt],?_⟩,⟨rfl,rfl,rfl,by simp[ChangeMaps.setBlock],fun k hk hs=>?_⟩⟩
 ·unfold Instr.mapUpdate;simp[run_underlying underlying285,MapKept.run_getObj_map h1,run_checkKey_row,findKey_row r w kv _ h2,hnew,MapKept.run_setObj_map _ h1,Result.andThen,ChangeMaps.setBlock]
 ·simp only[EntsAre,Array.toList_push,List.map_append,List.map_cons,List.map_nil]at h2⊢;rw[h2]
 ·simp[ChangeMaps.setBlock,Ne.symm hs]
theorem wpList_lookup_row (w:World) {ops:Array Oper} {rest:List Oper} {o:Oper} {a:Act} {Q:Exit->Act->World->Prop}
  (hg:o.guard=none) (m x:Operand) (hop:o.op=Op.lookup 285 m x false) (b:Nat) (kv:List (Row×Int)) (hm:a.eval m= .map (some b)) (h:MapIs w b kv) (r:Row) (hx:a.eval x=r.v)
  (hK:wpList prog ops Q rest (a.put o.dst (.int .u8 (getRow r kv))) w):wpList prog ops Q (o::rest) a w:=by
 refine wpList_plain hg fun K' hK'=>?_;have hrun:=lookup_row h r;unfold Oper.wp;simp[execOp,hop,hm,hx,hrun,Result.andThen];exact hK' _ _ hK
theorem wpList_update_row (w:World) {ops:Array Oper} {rest:List Oper} {o:Oper} {a:Act} {Q:Exit->Act->World->Prop}
  (hg:o.guard=none) (m x v:Operand) (hop:o.op=Op.mapUpdate 285 m x v) (b:Nat) (kv:List (Row×Int)) (hm:a.eval m= .map (some b)) (h:MapIs w b kv) (r:Row) (hx:a.eval x=r.v)
  (y:Int) (hv:a.eval v= .int .u8 y) (hnew:findRow r kv 0=none)
  (hK: ∀w',MapIs w' b (kv++ [(r,y)])->Fr (fun k=>k=b) w w'->wpList prog ops Q rest (a.put o.dst undef) w'):wpList prog ops Q (o::rest) a w:=by
 refine wpList_plain hg fun K' hK'=>?_;obtain⟨w',hrun,r1,r2⟩:=update_row h r y hnew;unfold Oper.wp;simp[execOp,hop,hm,hx,hv,hrun,Result.andThen];exact hK' _ _ (hK w' r1 r2)
def rowsOf (ty a b c:Int) (ops:List Int):List (Row×Int):=ops.map (fun o=>(⟨o,a,b,c⟩,ty))
theorem put_c (ty A B C:Int) (ops:List Int) (n bs:Nat) (ts:TypeId) (Bm bm:Nat) (kv:List (Row×Int)) (w:World) (hn:ops.length=n) (hn2:n<=1000)
  (hs:Blk w bs ts (ops.map (Value.int .u8)).toArray) (hp:w.cell? ⟨Bm,0,none⟩=some (.map (some bm))) (hpb:Bm≠bm) (hpl:Bm<w.heap.size) (hsb:bs≠bm) (hm:MapIs w bm kv)
  (hnew: ∀j (h:j<ops.length),findRow ⟨ops[j],A,B,C⟩ (kv++rowsOf ty A B C (ops.take j)) 0=none):
  Calls prog 248 #[.int .u8 ty,.agg #[.int .u8 A,.int .u8 B,.int .u8 C],.slice (some ⟨bs,0,none⟩) n n,.pointer (some ⟨Bm,0,none⟩)] w
   fun e w'=>e= .returned (.tuple #[])/\MapIs w' bm (kv++rowsOf ty A B C ops)/\Fr (fun k=>k=bm) w w':=by
 have HNEW:=Lh hnew;have HN:=Lh hn;clear hnew hn;go_enter func248,ntmps248;go_wp2;have hW:Fr (fun k=>k=bm) w (w.alloc (.cells #[.int .u8 A,.int .u8 B,.int .u8 C] 311)):=(Fr.refl _ w).alloc _;have hA:=Blk.new w #[.int .u8 A,.int .u8 B,.int .u8 C] 311;have hp1:=(hW.block Bm hpl (by exact hpb));have hp':(w.alloc (.cells #[.int .u8 A,.int .u8 B,.int .u8 C] 311)).cell? ⟨Bm,0,none⟩=some (.map (some bm)):=(((Below.refl _ w).alloc le0 _).cell (p:=⟨Bm,0,none⟩) hpl).trans hp;have hm':=hm.alloc (.cells #[.int .u8 A,.int .u8 B,.int .u8 C] 311);have hs':=hs.alloc (.cells #[.int .u8 A,.int .u8 B,.int .u8 C] 311);have hmlt:=hm.lt;generalize World.alloc w _=W at*
 go_loopw [11] (fun q wr=> ∃j:Nat,q= .int .i64 j/\j<=n/\Fr (fun k=>k=bm) w wr/\Blk wr bs ts (ops.map (Value.int .u8)).toArray/\Blk wr w.heap.size 311 #[.int .u8 A,.int .u8 B,.int .u8 C]/\
  wr.cell? ⟨Bm,0,none⟩=some (.map (some bm))/\MapIs wr bm (kv++rowsOf ty A B C (ops.take j))) (fun q _=>n-(intOf q).toNat)
 case atStart=>exact⟨0,rfl,ze0,hW,hs',hA,hp',by simpa[rowsOf]using hm'⟩
 case round=>
  obtain⟨j,rfl,hj,hFr,hsr,hAr,hpr,hmr⟩:=hrel;by_cases hlt:j<n
  ·have hjl:j<ops.length:=by have:=HN.o;omega
   have hcell:wr.cell? ⟨bs,j,none⟩=some (.int .u8 (ops[j]'hjl)):=by rw[hsr.cell j];simp[hjl]
   obtain⟨a0,a1,a2⟩:=hAr.q3;have HF:=Lh (HNEW.o j hjl);have HT:=Lh (List.take_succ_eq_append_getElem hjl);generalize ops[j]=o at*
   go_wp2_with (at_mapUpdate;refine wpList_update_row _ rfl _ _ _ rfl bm _ rfl hmr ⟨o,A,B,C⟩ rfl ty rfl HF.o ?_;intro w3 hm3 hf3)
   go_roundw
   case rel=>
    refine⟨j+1,by go_num,by omega,hFr.trans hf3,hsr.fr hf3 hsb,hAr.fr hf3 (by omega),?_,?_⟩
    ·exact(World.cell?_of_block (a:=⟨Bm,0,none⟩) (hf3.block Bm (lt1 hpl hFr.size) hpb)).trans hpr
    ·rw[HT.o];simpa[rowsOf,List.append_assoc]using hm3
   case measure=>simp[intOf];omega
  ·have HT:=Lh (show ops.take j=ops from List.take_of_length_le (by have:=HN.o;omega));go_wp2
   go_end0
   refine⟨rfl,?_,hFr⟩;rw[HT.o]at hmr;exact hmr
theorem toksCells_at (l:List Tok) (k:Nat) (h:k<l.length):(toksCells l)[k*4]? =some (.int .u8 (l[k]'h).kind)/\(toksCells l)[k*4+1]? =some (.string (l[k]'h).text)/\
  (toksCells l)[k*4+2]? =some (.int .i64 (l[k]'h).n)/\(toksCells l)[k*4+3]? =some (.int .i64 (l[k]'h).at_):=by
 induction l generalizing k with
 |nil=>simp at h
 |cons t l ih=>
  cases k with
  |zero=>simp[toksCells,Tok.cells]
  |succ k=>
   have hk:k<l.length:=by simpa using h
   have e:toksCells (t::l)= .int .u8 t.kind:: .string t.text:: .int .i64 t.n:: .int .i64 t.at_::toksCells l:=rfl;rw[e,show(k+1)*4=k*4+1+1+1+1 by omega];simp only[List.getElem?_cons_succ,List.getElem_cons_succ,Nat.add_right_comm _ 1];exact ih k hk
theorem Sl.tok {w:World} {B n:Nat} {v:Value} {l:List Tok} (h:Sl w B 4 v n (toksCells l)) (k:Nat) (hk:k<n):
  ∃b off cap,v= .slice (some ⟨b,off,none⟩) n cap/\ ∃hl:k<l.length,w.cell? ⟨b,off+k*4,none⟩=some (.int .u8 (l[k]'hl).kind)/\w.cell? ⟨b,off+k*4+1,none⟩=some (.string (l[k]'hl).text)/\
   w.cell? ⟨b,off+k*4+2,none⟩=some (.int .i64 (l[k]'hl).n)/\w.cell? ⟨b,off+k*4+3,none⟩=some (.int .i64 (l[k]'hl).at_):=by
 obtain⟨h1,a,cap,hv,h2,h3,h4⟩:=h;rw[toksCells_length]at h1;rcases h4 with h4|⟨b,off,rfl,hb,hc⟩
 ·omega
 ·have hl:k<l.length:=by omega
  obtain⟨e0,e1,e2,e3⟩:=toksCells_at l k hl;refine⟨b,off,cap,hv,hl,?_,?_,?_,?_⟩
  ·rw[hc _ (by omega)];exact e0
  ·rw[Nat.add_assoc,hc _ (by omega)];exact e1
  ·rw[Nat.add_assoc,hc _ (by omega)];exact e2
  ·rw[Nat.add_assoc,hc _ (by omega)];exact e3
theorem Sl.rest {w:World} {B:Nat} {t:Tok} {l:List Tok} {b off cap:Nat} (h:Sl w B 4 (.slice (some ⟨b,off,none⟩) (l.length+1) cap) (l.length+1) (toksCells (t::l))) {A:Option Addr} (hA:0<l.length->A=some ⟨b,off+4,none⟩):
  Sl w B 4 (.slice A l.length (cap-1)) l.length (toksCells l):=by
 obtain⟨h1,a,cap',hv,h2,h3,h4⟩:=h;simp only[vs0]at hv;obtain⟨rfl,_,rfl⟩:=hv;refine⟨toksCells_length l,_,_,rfl,by omega,by omega,?_⟩;by_cases h0:l.length=0
 ·exact .inl h0
 ·rcases h4 with h4|⟨b',off',e,hb,hc⟩
  ·omega
  ·simp only[Option.some.injEq,Addr.mk.injEq,and_true]at e;obtain⟨rfl,rfl⟩:=e;refine .inr ⟨b,off+4,hA (by omega),hb,fun j hj=>?_⟩;have:=hc (4+j) (by omega);rw[<-Nat.add_assoc]at this;rw[this];show(t.cells++toksCells l)[4+j]? =_;rw[List.getElem?_append_right (by simp[Tok.cells]),show t.cells.length=4 from rfl,Nat.add_sub_cancel_left]
def Ex.zero:Ex:= .mk 0 0 []
structure PSt where
 l:List Tok
 bad:Option Int
namespace PSt
def here (E:Int) (st:PSt):Int:=match st.l with| []=>E|t::_=>t.at_
def fails (E:Int) (st:PSt):PSt:=match st.bad with|none=> {st with bad:=some (st.here E)}|some _=>st
def isB (st:PSt) (s:List UInt8):Bool:=st.bad.isNone&&(match st.l with| []=>false|t::_=>decide (t.kind≠0)&&(decide (t.kind≠2)&&decide (t.text.toList=s)))
def next (st:PSt):PSt:={st with l:=st.l.drop 1}
def must (E:Int) (st:PSt) (s:List UInt8):PSt:=if st.isB s then st.next else st.fails E
def numB (st:PSt):Bool:=match st.l with| []=>false|t::_=>decide (t.kind=2)
def numN (st:PSt):Int:=match st.l with| []=>0|t::_=>t.n
def need (lv:Nat) (st:PSt):Nat:=8*st.l.length+(7-lv)
theorem next_le (st:PSt):st.next.l.length<=st.l.length:=by simp[next]
theorem next_lt {st:PSt} {s:List UInt8} (h:st.isB s=true):st.next.l.length<st.l.length:=by
 obtain⟨l,b⟩:=st
 cases l with
 |nil=>simp[isB]at h
 |cons t l=>simp[next]
theorem fails_l (E:Int) (st:PSt):(st.fails E).l=st.l:=by unfold fails;split<;>rfl
theorem must_le (E:Int) (st:PSt) (s:List UInt8):(st.must E s).l.length<=st.l.length:=by
 unfold must;split
 ·exact next_le st
 ·rw[fails_l];exact le0
end PSt
def lvSigns:Nat->List (List UInt8×Int)
 |0=> [([124],17)]
 |1=> [([38],16)]
 |2=> [([60],12),([60,61],13),([61],14),([33,61],15)]
 |3=> [([43],7),([45],8)]
 |_=> [([42],9),([47],10),([37],11)]
def lvMost (lv:Nat):Nat:=if lv=2 then 1 else 400
def signOf (st:PSt):List (List UInt8×Int)->Option Int
 | []=>none
 |(s,o)::r=>if st.isB s then some o else signOf st r
theorem signOf_lt {st:PSt} {o:Int}: ∀ {sg:List (List UInt8×Int)},signOf st sg=some o->st.next.l.length<st.l.length
 | [],h=>by simp[signOf]at h
 |(s,o')::r,h=>by
  simp only[signOf]at h
  split at h
  ·exact PSt.next_lt (by assumption)
  ·exact signOf_lt h
def rowL (one:PSt->Ex×PSt) (sg:List (List UInt8×Int)):Nat->Ex->PSt->Ex×PSt
 |0,x,st=>(x,st)
 |c+1,x,st=>if st.bad.isSome then(x,st)else match signOf st sg with
  |none=>(x,st)
  |some o=>rowL one sg c (.mk o 0 [x,(one st.next).1]) (one st.next).2
def wKey:List UInt8:=[107,101,121]
def wVal:List UInt8:=[118,97,108]
def wAcc:List UInt8:=[97,99,99]
def wIf:List UInt8:=[105,102]
def wThen:List UInt8:=[116,104,101,110]
def wElse:List UInt8:=[101,108,115,101]
def prUnary (rec:Nat->PSt->Ex×PSt) (st:PSt):Ex×PSt:=
 if st.isB [45]then(.mk 5 0 [(rec 5 st.next).1],(rec 5 st.next).2)
 else if st.isB [33]then(.mk 6 0 [(rec 5 st.next).1],(rec 5 st.next).2)
 else rec 6 st
def prIf (E:Int) (rec:Nat->PSt->Ex×PSt) (st:PSt):Ex×PSt:=
 (.mk 18 0 [(rec 0 st).1,(rec 0 ((rec 0 st).2.must E wThen)).1,(rec 0 ((rec 0 ((rec 0 st).2.must E wThen)).2.must E wElse)).1],(rec 0 ((rec 0 ((rec 0 st).2.must E wThen)).2.must E wElse)).2)
def prOne (E:Int) (rec:Nat->PSt->Ex×PSt) (st:PSt):Ex×PSt:=
 if st.bad.isSome then(Ex.zero,st)
 else if st.numB then(.mk 1 st.numN [],st.next)
 else if st.isB wKey then(.mk 2 0 [],st.next)
 else if st.isB wVal then(.mk 3 0 [],st.next)
 else if st.isB wAcc then(.mk 4 0 [],st.next)
 else if st.isB [40]then((rec 0 st.next).1,(rec 0 st.next).2.must E [41])
 else if st.isB wIf then prIf E rec st.next
 else(Ex.zero,st.fails E)
def prStep (E:Int) (rec:Nat->PSt->Ex×PSt) (lv:Nat) (st:PSt):Ex×PSt:=
 if lv=5 then prUnary rec st else if lv=6 then prOne E rec st
 else rowL (rec (lv+1)) (lvSigns lv) (lvMost lv) (rec (lv+1) st).1 (rec (lv+1) st).2
def pr (E:Int):Nat->Nat->PSt->Ex×PSt
 |0,_,st=>(Ex.zero,st)
 |f+1,lv,st=>prStep E (pr E f) lv st
theorem rowL_len {one:PSt->Ex×PSt} (h: ∀st,(one st).2.l.length<=st.l.length) (sg:List (List UInt8×Int)): ∀c x st,(rowL one sg c x st).2.l.length<=st.l.length
 |0,x,st=>le0
 |c+1,x,st=>by
  simp only[rowL]
  split
  ·exact le0
  ·split
   ·exact le0
   ·exact le1 (rowL_len h sg c _ _) (le1 (h _) (PSt.next_le st))
theorem prStep_len (E:Int) {rec:Nat->PSt->Ex×PSt} (h: ∀lv st,(rec lv st).2.l.length<=st.l.length) (lv:Nat) (st:PSt):(prStep E rec lv st).2.l.length<=st.l.length:=by
 have hn:=PSt.next_le st;unfold prStep;split
 ·unfold prUnary
  repeat' split
  all_goals first|exact h _ _|exact le1 (h _ _) hn
 ·split
  ·unfold prOne
   repeat' split
   all_goals first
    |exact le0
    |exact hn
    |exact le1 (PSt.must_le _ _ _) (le1 (h _ _) hn)
    |(show(st.fails E).l.length<=_;rw[PSt.fails_l];exact le0)
    |(unfold prIf;exact le1 (h _ _) (le1 (PSt.must_le _ _ _) (le1 (h _ _) (le1 (PSt.must_le _ _ _) (le1 (h _ _) hn)))))
  ·exact le1 (rowL_len (fun st=>h _ st) _ _ _ _) (h _ _)
theorem pr_len (E:Int): ∀f lv st,(pr E f lv st).2.l.length<=st.l.length
 |0,_,_=>le0
 |f+1,lv,st=>prStep_len E (pr_len E f) lv st
theorem rowL_congr {one one':PSt->Ex×PSt} (hl: ∀st,(one st).2.l.length<=st.l.length) (sg:List (List UInt8×Int)) (n:Nat) (h: ∀st,st.l.length<n->one st=one' st):
  ∀c x st,st.l.length<=n->rowL one sg c x st=rowL one' sg c x st
 |0,_,_,_=>rfl
 |c+1,x,st,hs=>by
  simp only[rowL]
  cases hb:st.bad.isSome
  ·cases hg:signOf st sg with
   |none=>rfl
   |some o=>
    have h1:=signOf_lt hg
    have h2:=hl st.next
    simp only[Bool.false_eq_true,if_false]
    rw[<-h st.next (by omega)]
    exact rowL_congr hl sg n h c _ _ (by omega)
  ·rfl
theorem prStep_congr (E:Int) {rec rec':Nat->PSt->Ex×PSt} (hl: ∀lv st,(rec lv st).2.l.length<=st.l.length) (lv:Nat) (hlv:lv<=6) (st:PSt)
  (h: ∀lv' st',lv'<=6->st'.need lv'<st.need lv->rec lv' st'=rec' lv' st'):prStep E rec lv st=prStep E rec' lv st:=by
 unfold PSt.need at h;unfold prStep;by_cases h5:lv=5
 ·subst h5;simp only[if_true];unfold prUnary;by_cases h1:st.isB [45]=true
  ·have:=PSt.next_lt h1;rw[if_pos h1,if_pos h1,h 5 st.next (by omega) (by omega)]
  ·rw[if_neg h1,if_neg h1];by_cases h2:st.isB [33]=true
   ·have:=PSt.next_lt h2;rw[if_pos h2,if_pos h2,h 5 st.next (by omega) (by omega)]
   ·rw[if_neg h2,if_neg h2,h 6 st (by omega) (by omega)]
 ·rw[if_neg h5,if_neg h5];by_cases h6:lv=6
  ·subst h6;simp only[if_true];unfold prOne;by_cases h1:st.isB [40]=true
   ·have:=PSt.next_lt h1;rw[h 0 st.next (by omega) (by omega)];by_cases h2:st.isB wIf=true
    ·simp only[if_pos h1]
    ·simp only[if_pos h1]
   ·simp only[if_neg h1];by_cases h2:st.isB wIf=true
    ·have hn:=PSt.next_lt h2;simp only[if_pos h2];unfold prIf;have q1:=h 0 st.next (by omega) (by omega);have l1:=hl 0 st.next;have m1:=PSt.must_le E (rec 0 st.next).2 wThen;have q2:=h 0 ((rec 0 st.next).2.must E wThen) (by omega) (by omega);have l2:=hl 0 ((rec 0 st.next).2.must E wThen);have m2:=PSt.must_le E (rec 0 ((rec 0 st.next).2.must E wThen)).2 wElse;have q3:=h 0 ((rec 0 ((rec 0 st.next).2.must E wThen)).2.must E wElse) (by omega) (by omega);rw[q3,q2,q1]
    ·simp only[if_neg h2]
  ·rw[if_neg h6,if_neg h6,h (lv+1) st (by omega) (by omega)];refine rowL_congr (fun st=>?_) _ st.l.length (fun st' hs'=>h _ _ (by omega) (by omega)) _ _ _ ?_
   ·exact hl _ _
   ·rw[<-h (lv+1) st (by omega) (by omega)];exact hl _ _
theorem pr_fuel (E:Int): ∀f g lv st,lv<=6->st.need lv<=f->st.need lv<=g->pr E f lv st=pr E g lv st
 |0,_,lv,st,hlv,h,_=>by unfold PSt.need at h;omega
 |f+1,0,lv,st,hlv,_,h=>by unfold PSt.need at h;omega
 |f+1,g+1,lv,st,hlv,h,h'=>prStep_congr E (pr_len E f) lv hlv st fun lv' st' hlv' hn=>pr_fuel E f g lv' st' hlv' (by omega) (by omega)
def prF (E:Int) (lv:Nat) (st:PSt):Ex×PSt:=pr E (st.need lv) lv st
theorem prF_len (E:Int) (lv:Nat) (st:PSt):(prF E lv st).2.l.length<=st.l.length:=pr_len E _ lv st
theorem prF_of (E:Int) (f lv:Nat) (st:PSt) (hlv:lv<=6) (h:st.need lv<=f):pr E f lv st=prF E lv st:=pr_fuel E _ _ lv st hlv h le0
theorem prF_eq (E:Int) (lv:Nat) (st:PSt) (hlv:lv<=6):prF E lv st=prStep E (prF E) lv st:=by
 obtain⟨f,hf⟩: ∃f,st.need lv=f+1:=⟨st.need lv-1,by unfold PSt.need;omega⟩;unfold prF;rw[hf];exact prStep_congr E (pr_len E f) lv hlv st fun lv' st' hlv' hn=>by rw[prF_of E f lv' st' hlv' (by omega)];rfl
theorem prF_row (E:Int) (lv:Nat) (st:PSt) (hlv:lv<5):prF E lv st=rowL (prF E (lv+1)) (lvSigns lv) (lvMost lv) (prF E (lv+1) st).1 (prF E (lv+1) st).2:=by
 rw[prF_eq E lv st (by omega)];unfold prStep;rw[if_neg (by omega),if_neg (by omega)]
theorem prF_unary (E:Int) (st:PSt):prF E 5 st=prUnary (prF E) st:=by rw[prF_eq E 5 st (by omega)];rfl
theorem prF_one (E:Int) (st:PSt):prF E 6 st=prOne E (prF E) st:=by rw[prF_eq E 6 st (by omega)];rfl
def deepN:Nat->Ex->Nat
 |0,_=>1
 |k+1,x=>x.args.foldl (fun n a=>max n (deepN k a)) 0+1
theorem deepN_le: ∀(k:Nat) (x:Ex),deepN k x<=k+1
 |0,_=>by simp[deepN]
 |k+1,x=>by
  simp only[deepN]
  have: ∀(l:List Ex) (n:Nat),n<=k+1->l.foldl (fun n a=>max n (deepN k a)) n<=k+1:=by
   intro l
   induction l with
   |nil=>intro n h;simpa using h
   |cons a l ih=>intro n h;exact ih _ (by have:=deepN_le k a;show max n (deepN k a)<=k+1;omega)
  have:=this x.args 0 (by omega);omega
def parseEnd (E:Int) (x:Ex) (st:PSt):Ex×Int×Int:=
 match (if st.l=[]then st else st.fails E).bad with
 |some a=>(Ex.zero,a,80)
 |none=>if 16<deepN 16 x then(Ex.zero,0,81)else(x,0,0)
def parse (s:ByteArray):Ex×Int×Int:=
 if(toks s).2.2≠0 then(Ex.zero,(toks s).2.1,(toks s).2.2)
 else parseEnd (runes s).length (prF (runes s).length 0 ⟨(toks s).1,none⟩).1 (prF (runes s).length 0 ⟨(toks s).1,none⟩).2
def PSt.tok (E:Int) (st:PSt):Tok:=match st.l with| []=>⟨0,{data:=#[]},0,E⟩|t::_=>t
theorem PSt.isB_tok (E:Int) (st:PSt) (s:List UInt8):st.isB s=(st.bad.isNone&&(decide ((st.tok E).kind≠0)&&(decide ((st.tok E).kind≠2)&&decide ((st.tok E).text.toList=s)))):=by
 obtain⟨l,b⟩:=st
 cases l with
 |nil=>cases b<;>simp[PSt.isB,PSt.tok]
 |cons t l=>rfl
theorem PSt.here_tok (E:Int) (st:PSt):st.here E=(st.tok E).at_:=by
 obtain⟨l,b⟩:=st
 cases l<;>rfl
structure RdAt (w:World) (br:Nat) (E:Int) (st:PSt):Prop where
 ex: ∃v a,Blk w br 281 #[v,.int .i64 E,.bool st.bad.isSome,.int .i64 a]/\(∀b,st.bad=some b->a=b)/\Sl w br 4 v st.l.length (toksCells st.l)
theorem RdAt.keep {w w':World} {br:Nat} {E:Int} {st:PSt} (h:RdAt w br E st) (hb:Below w.heap.size w w'):RdAt w' br E st:=by
 obtain⟨v,a,h1,h2,h3⟩:=h.ex;exact⟨v,a,h1.below hb h1.lt,h2,h3.below (hb.mono (Nat.le_of_lt h1.lt))⟩
theorem RdAt.fr {S:Nat->Prop} {w w':World} {br:Nat} {E:Int} {st:PSt} (h:RdAt w br E st) (hf:Fr S w w') (hs: ∀k,k<=br-> ¬S k):RdAt w' br E st:=by
 obtain⟨v,a,h1,h2,h3⟩:=h.ex;exact⟨v,a,h1.fr hf (hs br le0),h2,h3.below (hf.below (Nat.le_of_lt h1.lt) (fun k hk=>hs k (Nat.le_of_lt hk)))⟩
theorem RdAt.lt {w:World} {br:Nat} {E:Int} {st:PSt} (h:RdAt w br E st):br<w.heap.size:=by
 obtain⟨v,a,h1,h2,h3⟩:=h.ex;exact h1.lt
theorem next_c (br:Nat) (E:Int) (st:PSt) (w:World) (h:RdAt w br E st):
  Calls prog 245 #[.pointer (some ⟨br,0,none⟩)] w fun e w'=>e= .returned (st.tok E).agg/\Below w.heap.size w w':=by
 obtain⟨v,a,hb,ha,hs⟩:=h.ex;have c0:=hb.cell 0;have c1:=hb.cell 1;have hlt:=hb.lt;obtain⟨l,bad⟩:=st
 cases l with
 |nil=>
  obtain⟨_,a1,cap,rfl,_,_,_⟩:=hs;go_enter func245,ntmps245
  go_wp2_with fail
  have h0:=Blk.new w #[.int .u8 0,.string {data:=#[]},.int .i64 0,.int .i64 E] 301;refine bodyPost_ret (v:=Tok.agg ⟨0,{data:=#[]},0,E⟩) (results_cell_row rfl _ _ w.heap.size 301 _ (0,0) _ rfl h0 underlying301 rfl ?_) rfl ⟨rfl,?_⟩
  ·as_aux_lemma=>kernel_rfl
  ·exact br0.alloc le0 _
 |cons t l=>
  simp only[List.length_cons]at hs;obtain⟨b,off,cap,rfl,_,d0,d1,d2,d3⟩:=hs.tok 0 (by omega);simp only[Nat.zero_mul,Nat.add_zero,List.getElem_cons_zero]at d0 d1 d2 d3;have hlb:=World.block_lt_of_cell? _ _ d0;have hl0:0<l.length+1:=by omega
  have hl1:(((l.length+1:Nat):Int)==0)=false:=by rw[bq0];omega
  generalize l.length+1=n at*;go_enter func245,ntmps245
  go_wp2_with fail
  have h0:=Blk.new w #[.int .u8 t.kind,.string t.text,.int .i64 t.n,.int .i64 t.at_] 301;refine bodyPost_ret (v:=Tok.agg t) (results_cell_row rfl _ _ w.heap.size 301 _ (0,0) _ rfl h0 underlying301 rfl ?_) rfl ⟨rfl,?_⟩
  ·as_aux_lemma=>kernel_rfl
  ·exact br0.alloc le0 _
theorem isB_cases (E:Int) (st:PSt) (s:ByteArray):(st.bad.isSome=true/\st.isB s.toList=false)\/(st.bad.isSome=false/\((st.tok E).kind==0)=true/\st.isB s.toList=false)\/
  (st.bad.isSome=false/\((st.tok E).kind==0)=false/\((st.tok E).kind==2)=true/\st.isB s.toList=false)\/
  (st.bad.isSome=false/\((st.tok E).kind==0)=false/\((st.tok E).kind==2)=false/\((st.tok E).text.toList==s.toList)=false/\st.isB s.toList=false)\/
  (st.bad.isSome=false/\((st.tok E).kind==0)=false/\((st.tok E).kind==2)=false/\(st.tok E).text=s/\st.isB s.toList=true):=by
 rw[PSt.isB_tok E st s.toList]
 cases hb:st.bad.isSome
 ·have hb':st.bad.isNone=true:=by cases h:st.bad<;>simp_all
  by_cases h0:(st.tok E).kind=0
  ·exact .inr (.inl ⟨rfl,by simpa using h0,by simp[h0]⟩)
  ·by_cases h2:(st.tok E).kind=2
   ·exact .inr (.inr (.inl ⟨rfl,by simpa using h0,by simpa using h2,by simp[h2]⟩))
   ·by_cases hs:(st.tok E).text=s
    ·exact .inr (.inr (.inr (.inr ⟨rfl,by simpa using h0,by simpa using h2,hs,by simp[hb',h0,h2,hs]⟩)))
    ·have hs': ¬(st.tok E).text.toList=s.toList:=fun h=>hs ((bytes_inj _ _).1 h);exact .inr (.inr (.inr (.inl ⟨rfl,by simpa using h0,by simpa using h2,by simpa using hs',by simp[hs']⟩)))
 ·have hb':st.bad.isNone=false:=by cases h:st.bad<;>simp_all
  exact .inl ⟨rfl,by simp[hb']⟩
theorem is_false (br:Nat) (E:Int) (st:PSt) (s:ByteArray) (w:World) (h:RdAt w br E st) (hf:st.isB s.toList=false):
  CB prog 275 #[.pointer (some ⟨br,0,none⟩),.string s] w (.bool false):=by
 have hc:=isB_cases E st s;obtain⟨v,a,hb,ha,hs⟩:=h.ex;have H:=Lh h;clear hs ha;have hlt:=hb.lt;generalize htk:st.tok E=tk at*;obtain⟨k,tx,n,ta⟩:=tk;simp only at hc;have HTK:=Lh htk;have HF:=Lh hf;generalize st.bad.isSome=bad at*;clear htk hf h;have hB:=(Below.refl w.heap.size w);rcases hc with ⟨h1,_⟩|⟨h1,h2,_⟩|⟨h1,h2,h3,_⟩|⟨h1,h2,h3,h4,_⟩|⟨h1,h2,h3,h4,h5⟩
 ·subst h1;go_enter func275,ntmps275
  go_wp2_with (go_at_call 245;refine(next_c br E st _ H.o).mono ?_;rintro e w1 ⟨rfl,hb1⟩;rw[HTK.o];dsimp only[Tok.agg];have hb2:=hb.below hb1 hlt;have c2:=hb2.cell 2;have hlt2:=hb2.lt)
  go_ret;exact⟨rfl,hb1.alloc hb1.size _⟩
 ·subst h1;go_enter func275,ntmps275
  go_wp2_with (go_at_call 245;refine(next_c br E st _ H.o).mono ?_;rintro e w1 ⟨rfl,hb1⟩;rw[HTK.o];dsimp only[Tok.agg];have hb2:=hb.below hb1 hlt;have c2:=hb2.cell 2;have hlt2:=hb2.lt)
  go_ret;exact⟨rfl,hb1.alloc hb1.size _⟩
 ·subst h1;go_enter func275,ntmps275
  go_wp2_with (go_at_call 245;refine(next_c br E st _ H.o).mono ?_;rintro e w1 ⟨rfl,hb1⟩;rw[HTK.o];dsimp only[Tok.agg];have hb2:=hb.below hb1 hlt;have c2:=hb2.cell 2;have hlt2:=hb2.lt)
  go_ret;exact⟨rfl,hb1.alloc hb1.size _⟩
 ·subst h1;go_enter func275,ntmps275
  go_wp2_with (go_at_call 245;refine(next_c br E st _ H.o).mono ?_;rintro e w1 ⟨rfl,hb1⟩;rw[HTK.o];dsimp only[Tok.agg];have hb2:=hb.below hb1 hlt;have c2:=hb2.cell 2;have hlt2:=hb2.lt)
  go_ret;exact⟨rfl,hb1.alloc hb1.size _⟩
 ·exact absurd h5 (by rw[HF.o];decide)
theorem RdAt.next {w:World} {br:Nat} {E:Int} {t:Tok} {l:List Tok} {bad:Option Int} {b off cap:Nat} {a:Int} (hb:Blk w br 281 #[.slice (some ⟨b,off,none⟩) (l.length+1) cap,.int .i64 E,.bool bad.isSome,.int .i64 a])
  (ha: ∀b,bad=some b->a=b) (hs:Sl w br 4 (.slice (some ⟨b,off,none⟩) (l.length+1) cap) (l.length+1) (toksCells (t::l))) {A:Option Addr} (hA:0<l.length->A=some ⟨b,off+4,none⟩):
  RdAt (w.setCell ⟨br,0,none⟩ (.slice A l.length (cap-1))) br E ⟨l,bad⟩:=by
 have hlt:=hb.lt;refine⟨_,a,hb.set 0 _,ha,(hs.rest hA).below ?_⟩;exact br0.setCell (p:=⟨br,0,none⟩) le0 _
theorem is_true (br:Nat) (E:Int) (st:PSt) (s:ByteArray) (w:World) (h:RdAt w br E st) (hf:st.isB s.toList=true):
  Calls prog 275 #[.pointer (some ⟨br,0,none⟩),.string s] w fun e w'=>e= .returned (.bool true)/\RdAt w' br E st.next/\Fr (· =br) w w':=by
 have hc:=isB_cases E st s;obtain⟨v,a,hb,ha,hs⟩:=h.ex;have H:=Lh h;have hlt:=hb.lt;obtain⟨l,bad⟩:=st
 cases l with
 |nil=>cases bad<;>simp[PSt.isB]at hf
 |cons t l=>
  simp only[List.length_cons]at hs;obtain⟨b,off,cap,rfl,_,d0,_,_,_⟩:=hs.tok 0 (by omega);have hlb:=World.block_lt_of_cell? _ _ d0;have hcap:l.length+1<=cap/\cap<=maxLen:=by
   obtain⟨_,a',cap',hv,h2,h3,_⟩:=id hs;simp only[vs0]at hv;omega
  obtain⟨hc1,hc2⟩:=hcap;unfold maxLen at hc2;have htk:PSt.tok E ⟨t::l,bad⟩=t:=rfl;have hnx:PSt.next ⟨t::l,bad⟩=⟨l,bad⟩:=rfl;rw[hnx];rw[htk]at hc;have HS:=Lh hs;have HA:=Lh ha;have HTK:=Lh htk;obtain⟨k,tx,n,ta⟩:=t;simp only at hc hb;rcases hc with ⟨_,h6⟩|⟨_,_,h6⟩|⟨_,_,_,h6⟩|⟨_,_,_,_,h6⟩|⟨h1,h2,h3,h4,_⟩
  ·rw[h6]at hf;exact absurd hf (by decide)
  ·rw[h6]at hf;exact absurd hf (by decide)
  ·rw[h6]at hf;exact absurd hf (by decide)
  ·rw[h6]at hf;exact absurd hf (by decide)
  ·subst h4;clear d0 hs ha htk hnx h hf;obtain rfl:bad=none:=by cases bad<;>simp_all
   have hq:(tx.toList==tx.toList)=true:=by simp
   simp only[Option.isSome_none]at hb;generalize hm:l.length=m at*;have HM:=Lh hm;clear hm;by_cases h1c:cap=1
   all_goals
    go_enter func275,ntmps275
    go_wp2_with (go_at_call 245;refine(next_c br E _ _ H.o).mono ?_;rintro e w1 ⟨rfl,hb1⟩;rw[HTK.o];dsimp only[Tok.agg];have hb2:=hb.below hb1 hlt;have c2:=hb2.cell 2;have c0:=hb2.cell 0;have f0:=hb2.free 0;have hlt2:=hb2.lt)
    go_ret;refine⟨rfl,?_,?_⟩;rotate_left
    ·exact((Fr.of_new (S:=fun x=>x=br) hb1).setCell (p:=⟨br,0,none⟩) (.inl rfl) _).alloc _
   ·obtain rfl:=HM.o;have hN:=RdAt.next (A:=some ⟨b,off,none⟩) (bad:=none) hb2 HA.o (HS.o.below (hb1.mono (Nat.le_of_lt hlt))) (fun h=>by omega);rw[h1c]at hN;exact hN.keep (br0.alloc le0 _)
   ·obtain rfl:=HM.o;have hN:=RdAt.next (A:=some ⟨b,off+4,none⟩) (bad:=none) hb2 HA.o (HS.o.below (hb1.mono (Nat.le_of_lt hlt))) (fun _=>rfl);exact hN.keep (br0.alloc le0 _)
def PSt.took (st:PSt) (s:List UInt8):PSt:=if st.isB s then st.next else st
theorem is_c (br:Nat) (E:Int) (st:PSt) (s:ByteArray) (w:World) (h:RdAt w br E st):
  Calls prog 275 #[.pointer (some ⟨br,0,none⟩),.string s] w fun e w'=>e= .returned (.bool (st.isB s.toList))/\RdAt w' br E (st.took s.toList)/\Fr (· =br) w w':=by
 unfold PSt.took
 cases hb:st.isB s.toList
 ·exact(is_false br E st s w h hb).mono fun e w' ⟨he,hw⟩=>⟨he,h.keep hw,Fr.of_new hw⟩
 ·exact is_true br E st s w h hb
theorem fails_c (br:Nat) (E:Int) (st:PSt) (w:World) (h:RdAt w br E st):
  Calls prog 216 #[.pointer (some ⟨br,0,none⟩)] w fun e w'=>e= .returned (.agg #[.int .u8 0,.int .i64 0,.slice none 0 0])/\RdAt w' br E (st.fails E)/\Fr (· =br) w w':=by
 obtain⟨v,a,hb,ha,hs⟩:=h.ex;have H:=Lh h;have hlt:=hb.lt;have HS:=Lh hs;have hbN:=(hb.alloc (.cells #[.int .u8 0,.int .i64 0,.slice none 0 0] 133));have c2:=hb.cell 2;obtain⟨l,bad⟩:=st
 cases bad with
 |none=>
  have hE:Hd (PSt.fails E ⟨l,none⟩=⟨l,some (PSt.here E ⟨l,none⟩)⟩):=rfl;have HN:=Lh (PSt.here_tok E ⟨l,none⟩);generalize htk:PSt.tok E ⟨l,none⟩=tk at*;obtain⟨k,tx,n,ta⟩:=tk;have HTK:=Lh htk;clear htk hs h;simp only[Option.isSome_none]at hb hbN c2;have hfd: ∀w:World,(Instr.field 301 (.agg #[.int .u8 k,.string tx,.int .i64 n,.int .i64 ta]) 3).run prog w= .ok (.int .i64 ta) w:=fun _=>by kernel_rfl
  go_enter func216,ntmps216
  go_upto_region 3 with (go_at_call 245;refine(next_c br E _ _ (H.o.keep (br0.alloc le0 _))).mono ?_;rintro e w1 ⟨rfl,hb1⟩;rw[HTK.o];dsimp only[Tok.agg];have hb2:=hbN.below hb1 (by simp;omega);have d2:=hb2.cell 2;have d3:=hb2.cell 3;have f2:=hb2.free 2;have f3:=hb2.free 3;have hlt2:=hb2.lt;have h0:=(Blk.new w #[.int .u8 0,.int .i64 0,.slice none 0 0] 133).below hb1 (by simp))
  have hR:RdAt ((w1.setCell ⟨br,2,none⟩ (.bool true)).setCell ⟨br,3,none⟩ (.int .i64 ta)) br E (PSt.fails E ⟨l,none⟩):=by
   refine⟨v,ta,(hb2.set 2 _).set 3 _,?_,?_⟩
   ·rw[hE.o,HN.o];intro b h;cases h;rfl
   ·rw[hE.o];exact HS.o.below (((((Below.refl br w).alloc (Nat.le_of_lt hlt) _).trans (hb1.mono (by simp;omega))).setCell le0 _).setCell le0 _)
  have hF:Fr (· =br) w ((w1.setCell ⟨br,2,none⟩ (.bool true)).setCell ⟨br,3,none⟩ (.int .i64 ta)):=by
   refine((((Fr.refl (fun x=>x=br) w).alloc _).trans (Fr.of_new hb1)).setCell (p:=⟨br,2,none⟩) (.inl rfl) _).setCell (p:=⟨br,3,none⟩) (.inl rfl) _
  have h1:Blk ((w1.setCell ⟨br,2,none⟩ (.bool true)).setCell ⟨br,3,none⟩ (.int .i64 ta)) w.heap.size 133 #[.int .u8 0,.int .i64 0,.slice none 0 0]:=
   (h0.other (p:=⟨br,2,none⟩) (by simp;omega) _).other (p:=⟨br,3,none⟩) (by simp;omega) _
  generalize World.setCell (World.setCell w1 _ _) _ _=W at*;obtain⟨g0,g1,g2⟩:=h1.q3;obtain⟨k0,k1,k2⟩:=h1.u3;clear d2 d3 f2 f3 hb2 hb1 c2 hbN hb h0
  go_wp2_with fail
  refine bodyPost_ret (v:= .agg #[.int .u8 0,.int .i64 0,.slice none 0 0]) (results_cell_row rfl _ _ w.heap.size 133 _ (0,0) _ rfl (((h1.set 0 _).set 1 _).set 2 _) underlying133 rfl ?_) rfl ⟨rfl,?_,?_⟩
  ·as_aux_lemma=>kernel_rfl
  ·exact hR.fr ((((Fr.refl (fun x=>x=w.heap.size) W).setCell (p:=⟨w.heap.size,0,none⟩) (.inl rfl) _).setCell (p:=⟨w.heap.size,1,none⟩) (.inl rfl) _).setCell (p:=⟨w.heap.size,2,none⟩) (.inl rfl) _) (fun k hk=>by omega)
  ·exact((hF.setCell (p:=⟨w.heap.size,0,none⟩) (.inr le0) _).setCell (p:=⟨w.heap.size,1,none⟩) (.inr le0) _).setCell (p:=⟨w.heap.size,2,none⟩) (.inr le0) _
 |some b=>
  have hE:PSt.fails E ⟨l,some b⟩=⟨l,some b⟩:=rfl;rw[hE];clear hs h;simp only[Option.isSome_some]at hb hbN c2;go_enter func216,ntmps216
  go_wp2_with fail
  have h0:=Blk.new w #[.int .u8 0,.int .i64 0,.slice none 0 0] 133;refine bodyPost_ret (v:= .agg #[.int .u8 0,.int .i64 0,.slice none 0 0]) (results_cell_row rfl _ _ w.heap.size 133 _ (0,0) _ rfl h0 underlying133 rfl ?_) rfl ⟨rfl,H.o.keep (br0.alloc le0 _),(Fr.refl _ _).alloc _⟩
  as_aux_lemma=>kernel_rfl
theorem must_c (br:Nat) (E:Int) (st:PSt) (s:ByteArray) (w:World) (h:RdAt w br E st):
  Calls prog 310 #[.pointer (some ⟨br,0,none⟩),.string s] w fun e w'=>e= .returned (.tuple #[])/\RdAt w' br E (st.must E s.toList)/\Fr (· =br) w w':=by
 unfold PSt.must
 cases hb:st.isB s.toList
 all_goals
  have H:=Lh h;have HB:=Lh hb;clear h hb;go_enter func310,ntmps310
  go_wp2_with (first
   |(go_at_call 275;refine(is_c br E st s _ H.o).mono ?_;rintro e w1 ⟨rfl,h1,hf1⟩;rw[PSt.took]at h1;rw[HB.o]at h1⊢;have H1:=Lh h1;clear h1)
   |(go_at_call 216;refine(fails_c br E st _ H1.o).mono ?_;rintro e w2 ⟨rfl,h2,hf2⟩))
  go_end0
 ·exact⟨rfl,h2,hf1.trans hf2⟩
 ·exact⟨rfl,H1.o,hf1⟩
inductive ArgsIn (w:World) (P:Nat->Prop):List Ex->Value->Prop
 |nil (a:Option Addr) (cap:Nat) (hm:cap<=maxLen):ArgsIn w P [] (.slice a 0 cap)
 | cons (l : List Ex) (b off cap : Nat) (sv : Nat -> Value) (hl : 0 < l.length) (hb : P b) (hcap : l.length <= cap) (hm : cap <= maxLen)
   (h0: ∀j (h:j<l.length),w.cell? ⟨b,off+j*3,none⟩=some (.int .u8 (l[j]'h).op)) (h1: ∀j (h:j<l.length),w.cell? ⟨b,off+j*3+1,none⟩=some (.int .i64 (l[j]'h).n))
   (h2: ∀j (h:j<l.length),w.cell? ⟨b,off+j*3+2,none⟩=some (sv j)) (hs: ∀j (h:j<l.length),ArgsIn w P (l[j]'h).args (sv j)):
   ArgsIn w P l (.slice (some ⟨b,off,none⟩) l.length cap)
namespace ArgsIn
variable {w w':World} {P:Nat->Prop} {l:List Ex} {v:Value}
theorem keep (h:ArgsIn w P l v) {Q:Nat->Prop} (hPQ: ∀b,P b->Q b) (hk: ∀b,P b->w'.heap[b]? =w.heap[b]?):ArgsIn w' Q l v:=by
 have hc: ∀b off,P b->w'.cell? ⟨b,off,none⟩=w.cell? ⟨b,off,none⟩:=fun b off hb=>World.cell?_of_block (hk b hb)
 induction h with
 |nil a cap hm=>exact .nil a cap hm
 |cons l b off cap sv hl hb hcap hm h0 h1 h2 _ ih=>
  exact .cons l b off cap sv hl (hPQ b hb) hcap hm (fun j h=>(hc _ _ hb).trans (h0 j h)) (fun j h=>(hc _ _ hb).trans (h1 j h)) (fun j h=>(hc _ _ hb).trans (h2 j h)) ih
theorem mono (h:ArgsIn w P l v) {Q:Nat->Prop} (hPQ: ∀b,P b->Q b):ArgsIn w Q l v:=h.keep hPQ fun _ _=>rfl
theorem toAt (h:ArgsIn w P l v) {B:Nat} (hP: ∀b,P b->b<B):ArgsAt w B l v:=by
 induction h with
 |nil a cap hm=>exact .nil a cap hm
 |cons l b off cap sv hl hb hcap hm h0 h1 h2 _ ih=>exact .cons l b off cap sv hl (hP b hb) hcap hm h0 h1 h2 ih
theorem fr (h:ArgsIn w P l v) {S Q:Nat->Prop} (hf:Fr S w w') (hP: ∀b,P b->b<w.heap.size/\ ¬S b) (hPQ: ∀b,P b->Q b):ArgsIn w' Q l v:=
 h.keep hPQ fun b hb=>hf.block b (hP b hb).1 (hP b hb).2
theorem slice (h:ArgsIn w P l v): ∃a n cap,v= .slice a n cap:=by
 cases h with
 |nil a cap hm=>exact⟨_,_,_,rfl⟩
 |cons l b off cap sv hl hb hcap hm h0 h1 h2 hs=>exact⟨_,_,_,rfl⟩
theorem of_block {b:Nat} {t:TypeId} {cs:Array Value} (hb:Blk w b t cs) (hP:P b) (l:List Ex) (sv:Nat->Value)
  (hc: ∀j (h:j<l.length),cs[j*3]? =some (.int .u8 (l[j]'h).op)/\cs[j*3+1]? =some (.int .i64 (l[j]'h).n)/\cs[j*3+2]? =some (sv j)) (hs: ∀j (h:j<l.length),ArgsIn w P (l[j]'h).args (sv j)) (hl:l.length<=maxLen):
  ArgsIn w P l (.slice (some ⟨b,0,none⟩) l.length l.length):=by
 by_cases h0:l.length=0
 ·have:l=[]:=List.length_eq_zero_iff.1 h0;subst this;exact .nil _ _ ze0
 ·exact .cons l b 0 l.length sv (by omega) hP le0 hl (fun j h=>by rw[Nat.zero_add,hb.cell];exact(hc j h).1) (fun j h=>by rw[Nat.zero_add,hb.cell];exact(hc j h).2.1) (fun j h=>by rw[Nat.zero_add,hb.cell];exact(hc j h).2.2) hs
theorem one {b:Nat} {t:TypeId} {x:Ex} {sv:Value} (hb:Blk w b t #[.int .u8 x.op,.int .i64 x.n,sv]) (hP:P b) (hs:ArgsIn w P x.args sv):ArgsIn w P [x] (.slice (some ⟨b,0,none⟩) 1 1):=
 of_block hb hP [x] (fun _=>sv) (fun j hj=>by match j,hj with|0,_=>exact⟨rfl,rfl,rfl⟩) (fun j hj=>by match j,hj with|0,_=>exact hs) (show(1:Nat)<=maxLen by decide)
theorem two {b:Nat} {t:TypeId} {x y:Ex} {sv su:Value} (hb:Blk w b t #[.int .u8 x.op,.int .i64 x.n,sv,.int .u8 y.op,.int .i64 y.n,su]) (hP:P b) (hs:ArgsIn w P x.args sv) (hu:ArgsIn w P y.args su):ArgsIn w P [x,y] (.slice (some ⟨b,0,none⟩) 2 2):=
 of_block hb hP [x,y] (fun j=>if j=0 then sv else su) (fun j hj=>by match j,hj with|0,_=>exact⟨rfl,rfl,rfl⟩|1,_=>exact⟨rfl,rfl,rfl⟩) (fun j hj=>by match j,hj with|0,_=>exact hs|1,_=>exact hu) (show(2:Nat)<=maxLen by decide)
theorem three {b:Nat} {t:TypeId} {x y z:Ex} {sv su st:Value} (hb:Blk w b t #[.int .u8 x.op,.int .i64 x.n,sv,.int .u8 y.op,.int .i64 y.n,su,.int .u8 z.op,.int .i64 z.n,st]) (hP:P b) (hs:ArgsIn w P x.args sv) (hu:ArgsIn w P y.args su)
  (ht:ArgsIn w P z.args st):ArgsIn w P [x,y,z] (.slice (some ⟨b,0,none⟩) 3 3):=
 of_block hb hP [x,y,z] (fun j=>if j=0 then sv else if j=1 then su else st) (fun j hj=>by match j,hj with|0,_=>exact⟨rfl,rfl,rfl⟩|1,_=>exact⟨rfl,rfl,rfl⟩|2,_=>exact⟨rfl,rfl,rfl⟩)
  (fun j hj=>by match j,hj with|0,_=>exact hs|1,_=>exact hu|2,_=>exact ht) (show(3:Nat)<=maxLen by decide)
end ArgsIn
def PrPost (w:World) (R:World->PSt->Prop) (br:Nat) (p:Ex×PSt) (e:Ending) (w':World):Prop:=
 ∃sv,e= .returned (.agg #[.int .u8 p.1.op,.int .i64 p.1.n,sv])/\ArgsIn w' (fun b=>w.heap.size<=b/\b<w'.heap.size) p.1.args sv/\R w' p.2/\Fr (fun k=>k=br) w w'
theorem prPost_mk {w w3:World} {R:World->PSt->Prop} {br s0:Nat} {st:PSt} {x:Ex} {sv:Value} {cs:Array Value} (hR: ∀w1 w2,R w1 st->Fr (fun k=>k=s0) w1 w2->R w2 st) (h0:Blk w3 s0 133 cs) (hcs:cs.size=3)
  (hs0:w.heap.size<=s0) (ha:ArgsIn w3 (fun b=>w.heap.size<=b/\b≠s0/\b<w3.heap.size) x.args sv) (hr:R w3 st) (hf:Fr (fun k=>k=br) w w3):
  PrPost w R br (x,st) (.returned (.agg #[.int .u8 x.op,.int .i64 x.n,sv])) (((w3.setCell ⟨s0,0,none⟩ (.int .u8 x.op)).setCell ⟨s0,1,none⟩ (.int .i64 x.n)).setCell ⟨s0,2,none⟩ sv)/\
   Blk (((w3.setCell ⟨s0,0,none⟩ (.int .u8 x.op)).setCell ⟨s0,1,none⟩ (.int .i64 x.n)).setCell ⟨s0,2,none⟩ sv) s0 133 #[.int .u8 x.op,.int .i64 x.n,sv]:=by
 have hF:Fr (fun k=>k=s0) w3 (((w3.setCell ⟨s0,0,none⟩ (.int .u8 x.op)).setCell ⟨s0,1,none⟩ (.int .i64 x.n)).setCell ⟨s0,2,none⟩ sv):=
  (((Fr.refl (fun k=>k=s0) w3).setCell (p:=⟨s0,0,none⟩) (.inl rfl) _).setCell (p:=⟨s0,1,none⟩) (.inl rfl) _).setCell (p:=⟨s0,2,none⟩) (.inl rfl) _
 have hB:=((h0.set 0 (.int .u8 x.op)).set 1 (.int .i64 x.n)).set 2 sv;obtain⟨cs⟩:=cs
 match cs,hcs with
 | [c0,c1,c2],_=>
  refine⟨⟨sv,rfl,?_,hR _ _ hr hF,?_⟩,hB⟩
  ·exact ha.fr hF (fun b hb=>⟨hb.2.2,hb.2.1⟩) (fun b hb=>⟨hb.1,lt1 hb.2.2 hF.size⟩)
  ·exact((hf.setCell (p:=⟨s0,0,none⟩) (.inr hs0) _).setCell (p:=⟨s0,1,none⟩) (.inr hs0) _).setCell (p:=⟨s0,2,none⟩) (.inr hs0) _
theorem rowis_c (br bt:Nat) (E:Int) (st:PSt) (s:ByteArray) (o:Int) (w:World) (h:RdAt w br E st) (hb:Blk w bt 279 #[.pointer (some ⟨br,0,none⟩)]):
  Calls prog 274 #[.agg #[.string s,.int .u8 o],.pointer (some ⟨bt,0,none⟩)] w fun e w'=>e= .returned (.bool (st.isB s.toList))/\RdAt w' br E (st.took s.toList)/\Fr (fun k=>k=br) w w':=by
 have H:=Lh h;have hlt:=hb.lt;have c0:=hb.cell 0;clear h;go_enter func274,ntmps274
 go_wp2_with (go_at_call 275;refine(is_c br E st s _ (H.o.keep (br0.alloc le0 _))).mono ?_;rintro e w1 ⟨rfl,h1,hf1⟩)
 go_ret;exact⟨rfl,h1,((Fr.refl (fun k=>k=br) w).alloc _).trans hf1⟩
def sgCells (sg:List (ByteArray×Int)):List Value:=sg.flatMap fun p=> [.string p.1,.int .u8 p.2]
theorem sgCells_at (l:List (ByteArray×Int)) (k:Nat) (h:k<l.length):(sgCells l)[k*2]? =some (.string (l[k]'h).1)/\(sgCells l)[k*2+1]? =some (.int .u8 (l[k]'h).2):=by
 induction l generalizing k with
 |nil=>simp at h
 |cons t l ih=>
  cases k with
  |zero=>simp[sgCells]
  |succ k=>
   have hk:k<l.length:=by simpa using h
   have e:sgCells (t::l)= .string t.1:: .int .u8 t.2::sgCells l:=rfl;rw[e,show(k+1)*2=k*2+1+1 by omega];simp only[List.getElem?_cons_succ,List.getElem_cons_succ];exact ih k hk
def SgAt (w:World) (bs:Nat) (sg:List (ByteArray×Int)):Prop:=Blk w bs 308 (sgCells sg).toArray/\sg.length<=1000
theorem SgAt.at_ {w:World} {bs:Nat} {sg:List (ByteArray×Int)} (h:SgAt w bs sg) (k:Nat) (hk:k<sg.length):
  w.cell? ⟨bs,k*2,none⟩=some (.string (sg[k]'hk).1)/\w.cell? ⟨bs,k*2+1,none⟩=some (.int .u8 (sg[k]'hk).2):=by
 obtain⟨e0,e1⟩:=sgCells_at sg k hk;rw[h.1.cell,h.1.cell];simpa using ⟨e0,e1⟩
theorem idx_none (br bt bs:Nat) (E:Int) (st:PSt) (sg:List (ByteArray×Int)) (w:World) (h:RdAt w br E st) (hb:Blk w bt 279 #[.pointer (some ⟨br,0,none⟩)]) (hs:SgAt w bs sg) (hbt:bt≠br) (hbs:bs≠br)
  (hno: ∀i (hi:i<sg.length),st.isB (sg[i]'hi).1.toList=false):
  Calls prog 273 #[.slice (some ⟨bs,0,none⟩) sg.length sg.length,.func (.func 274) #[] #[.pointer (some ⟨bt,0,none⟩)]] w
   fun e w'=>e= .returned (.int .i64 (-1))/\RdAt w' br E st/\Fr (fun k=>k=br) w w':=by
 have H:=Lh h;have HB:=Lh hb;have HS:=Lh hs;have HNO:=Lh hno;have hn:=hs.2;have hlb:=hb.lt;have hls:=hs.1.lt;have hlr:=h.lt;obtain⟨N,hN⟩: ∃N,sg.length=N:=⟨_,rfl⟩;rw[hN]at hn⊢;have HN:=Lh hN;clear h hb hs hno hN;go_enter func273,ntmps273;go_wp2
 go_loopw [8] (fun q wr=> ∃k:Nat,q= .int .i64 k/\k<=N/\RdAt wr br E st/\Fr (fun k=>k=br) w wr) (fun q _=>N-(intOf q).toNat)
 case atStart=>exact⟨0,rfl,ze0,H.o,Fr.refl _ _⟩
 case round=>
  obtain⟨k,rfl,hk,hr,hf⟩:=hrel;have HR:=Lh hr;clear hr;by_cases hlt:k<N
  ·have hlk:k<sg.length:=by rw[HN.o];exact hlt
   have hsr:SgAt wr bs sg:=⟨HS.o.1.fr hf hbs,HS.o.2⟩;obtain⟨c0,c1⟩:=hsr.at_ k hlk;have hno:=HNO.o k hlk;generalize sg[k]=p at*;obtain⟨s,o⟩:=p;have HNK:=Lh hno;have HBR:=Lh (HB.o.fr hf hbt);clear hno hsr;have hsz:=hf.size
   go_wp2_with (go_at_call 274;refine(rowis_c br bt E st s o _ HR.o HBR.o).mono ?_;rintro e w1 ⟨rfl,h1,hf1⟩;rw[PSt.took]at h1;rw[HNK.o]at h1⊢;have H1:=Lh h1;clear h1)
   go_roundw
   case rel=>exact⟨k+1,by go_num,by omega,H1.o,hf.trans hf1⟩
   case measure=>simp[intOf];omega
  ·go_wp2;go_ret;exact⟨rfl,HR.o,hf⟩
theorem idx_some (br bt bs:Nat) (E:Int) (st:PSt) (sg:List (ByteArray×Int)) (w:World) (h:RdAt w br E st) (hb:Blk w bt 279 #[.pointer (some ⟨br,0,none⟩)]) (hs:SgAt w bs sg) (hbt:bt≠br) (hbs:bs≠br)
  (j:Nat) (hj:j<sg.length) (hno: ∀i (hi:i<j),st.isB (sg[i]'(by omega)).1.toList=false) (hyes:st.isB (sg[j]'hj).1.toList=true):
  Calls prog 273 #[.slice (some ⟨bs,0,none⟩) sg.length sg.length,.func (.func 274) #[] #[.pointer (some ⟨bt,0,none⟩)]] w
   fun e w'=>e= .returned (.int .i64 j)/\RdAt w' br E st.next/\Fr (fun k=>k=br) w w':=by
 have H:=Lh h;have HB:=Lh hb;have HS:=Lh hs;have HNO:=Lh hno;have HYES:=Lh hyes;have hn:=hs.2;have hlb:=hb.lt;have hls:=hs.1.lt;have hlr:=h.lt;obtain⟨N,hN⟩: ∃N,sg.length=N:=⟨_,rfl⟩;rw[hN]at hn⊢;have hj2:j<N:=by omega
 have HJ:=Lh hj;have HN:=Lh hN;clear h hb hs hno hN hyes;go_enter func273,ntmps273;go_wp2
 go_loopw [8] (fun q wr=> ∃k:Nat,q= .int .i64 k/\k<=j/\RdAt wr br E st/\Fr (fun k=>k=br) w wr) (fun q _=>N-(intOf q).toNat)
 case atStart=>exact⟨0,rfl,ze0,H.o,Fr.refl _ _⟩
 case round=>
  obtain⟨k,rfl,hk,hr,hf⟩:=hrel;have HR:=Lh hr;clear hr;have hlk:k<sg.length:=by rw[HN.o];omega
  have hltN:k<N:=by omega
  have hsr:SgAt wr bs sg:=⟨HS.o.1.fr hf hbs,HS.o.2⟩;obtain⟨c0,c1⟩:=hsr.at_ k hlk;have HBR:=Lh (HB.o.fr hf hbt);have hsz:=hf.size;by_cases hlt:k<j
  ·have hno:=HNO.o k hlt;generalize sg[k]=p at*;obtain⟨s,o⟩:=p;have HNK:=Lh hno;clear hno hsr
   go_wp2_with (go_at_call 274;refine(rowis_c br bt E st s o _ HR.o HBR.o).mono ?_;rintro e w1 ⟨rfl,h1,hf1⟩;rw[PSt.took]at h1;rw[HNK.o]at h1⊢;have H1:=Lh h1;clear h1)
   go_roundw
   case rel=>exact⟨k+1,by go_num,by omega,H1.o,hf.trans hf1⟩
   case measure=>simp[intOf];omega
  ·obtain rfl:k=j:=by omega
   have hno:=HYES.o;generalize sg[k]=p at*;obtain⟨s,o⟩:=p;have HNK:=Lh hno;clear hno hsr
   go_wp2_with (go_at_call 274;refine(rowis_c br bt E st s o _ HR.o HBR.o).mono ?_;rintro e w1 ⟨rfl,h1,hf1⟩;rw[PSt.took]at h1;rw[HNK.o]at h1⊢;have H1:=Lh h1;clear h1)
   go_ret;exact⟨rfl,H1.o,hf.trans hf1⟩
def InsP (w:World) (P:Nat->Prop) (l:List Int) (v:Value):Prop:=
 (l=[]/\v= .slice none 0 0)\/ ∃g cap,v= .slice (some ⟨g,0,none⟩) l.length cap/\P g/\l.length<=cap/\cap<=maxLen/\ ∀j,j<l.length->w.cell? ⟨g,j,none⟩=(l.map (Value.int .i64))[j]?
theorem InsP.keep {w w':World} {P Q:Nat->Prop} {l:List Int} {v:Value} (h:InsP w P l v) (hPQ: ∀b,P b->Q b) (hk: ∀b,P b->w'.heap[b]? =w.heap[b]?):InsP w' Q l v:=by
 refine h.imp id ?_;rintro ⟨g,cap,rfl,hp,h1,h2,h3⟩;exact⟨g,cap,rfl,hPQ g hp,h1,h2,fun j hj=>(World.cell?_of_block (hk g hp)).trans (h3 j hj)⟩
theorem InsP.sl {w:World} {P:Nat->Prop} {B:Nat} {l:List Int} {v:Value} (h:InsP w P l v) (hP: ∀b,P b->b<B):Sl w B 1 v l.length (l.map (Value.int .i64)):=by
 rcases h with ⟨rfl,rfl⟩|⟨g,cap,rfl,hp,h1,h2,h3⟩
 ·exact Sl.nil w B 1
 ·exact⟨by simp,_,cap,rfl,h1,h2,.inr ⟨g,0,rfl,hP g hp,fun j hj=>by rw[Nat.zero_add];exact h3 j (by omega)⟩⟩
theorem InsP.of_own {w:World} {B0:Nat} {e:TypeId} {l:List Int} {v:Value} (h:w.ownsRow B0 e 1 v l.length (l.map (Value.int .i64))):InsP w (fun b=>B0<=b/\b<w.heap.size) l v:=by
 obtain⟨h1,h2⟩:=h;rcases h2 with ⟨rfl,h0⟩|⟨g,cap,cur,rfl,hb,hg,hn,hcp,hsz,ht⟩
 ·exact .inl ⟨List.length_eq_zero_iff.1 h0,rfl⟩
 ·refine .inr ⟨g,cap,rfl,⟨hb,(Array.getElem?_eq_some_iff.1 hg).1⟩,hn,hcp,fun j hj=>?_⟩;rw[cell_of_row w g j cur e (0,0) hg,<-ht,List.getElem?_take,if_pos (by omega)];simp
def SlP (w:World) (P:Nat->Prop) (size:Nat) (v:Value) (n:Nat) (cs:List Value):Prop:=
 cs.length=n*size/\ ∃a cap,v= .slice a n cap/\n<=cap/\cap<=maxLen/\(n=0\/ ∃b off,a=some ⟨b,off,none⟩/\P b/\ ∀j,j<n*size->w.cell? ⟨b,off+j,none⟩=cs[j]?)
theorem SlP.keep {w w':World} {P Q:Nat->Prop} {size n:Nat} {v:Value} {cs:List Value} (h:SlP w P size v n cs) (hPQ: ∀b,P b->Q b) (hk: ∀b,P b->w'.heap[b]? =w.heap[b]?):SlP w' Q size v n cs:=by
 obtain⟨h1,a,cap,hv,h2,h3,h4⟩:=h;refine⟨h1,a,cap,hv,h2,h3,h4.imp id ?_⟩;rintro ⟨b,off,ha,hp,hc⟩;exact⟨b,off,ha,hPQ b hp,fun j hj=>(World.cell?_of_block (hk b hp)).trans (hc j hj)⟩
theorem SlP.toSl {w:World} {P:Nat->Prop} {B size n:Nat} {v:Value} {cs:List Value} (h:SlP w P size v n cs) (hP: ∀b,P b->b<B):Sl w B size v n cs:=by
 obtain⟨h1,a,cap,hv,h2,h3,h4⟩:=h;refine⟨h1,a,cap,hv,h2,h3,h4.imp id ?_⟩;rintro ⟨b,off,ha,hp,hc⟩;exact⟨b,off,ha,hP b hp,hc⟩
theorem SlP.of_ins {w:World} {P:Nat->Prop} {l:List Int} {v:Value} (h:InsP w P l v):SlP w P 1 v l.length (l.map (Value.int .i64)):=by
 rcases h with ⟨rfl,rfl⟩|⟨g,cap,rfl,hp,h1,h2,h3⟩
 ·exact⟨rfl,none,0,rfl,le0,ze0,.inl rfl⟩
 ·exact⟨by simp,_,cap,rfl,h1,h2,.inr ⟨g,0,rfl,hp,fun j hj=>by rw[Nat.zero_add];exact h3 j (by omega)⟩⟩
theorem ArgsIn.of_at {w:World} {B:Nat} {l:List Ex} {v:Value} (h:ArgsAt w B l v):ArgsIn w (· <B) l v:=by
 induction h with
 |nil a cap hm=>exact .nil a cap hm
 |cons l b off cap sv hl hb hcap hm h0 h1 h2 _ ih=>exact .cons l b off cap sv hl hb hcap hm h0 h1 h2 ih
def NdP (w:World) (P:Nat->Prop) (iv sv:Value) (d:Nd):Prop:=SlP w P 1 iv d.ins.length (d.ins.map (Value.int .i64))/\ArgsIn w P d.x.args sv
def NodesIn (w:World) (P:Nat->Prop) (l:List Nd) (v:Value):Prop:=
 ∃a cap,v= .slice a l.length cap/\l.length<=cap/\cap<=maxLen/\(l.length=0\/ ∃b off,a=some ⟨b,off,none⟩/\P b/\ ∀j (h:j<l.length),(l[j]'h).uid.size<=maxLen/\ ∃iv sv,
  w.cell? ⟨b,off+j*7,none⟩=some (.string (l[j]'h).uid)/\w.cell? ⟨b,off+j*7+1,none⟩=some (.int .u8 (l[j]'h).kind)/\w.cell? ⟨b,off+j*7+2,none⟩=some iv/\
  w.cell? ⟨b,off+j*7+3,none⟩=some (.int .u8 (l[j]'h).x.op)/\w.cell? ⟨b,off+j*7+4,none⟩=some (.int .i64 (l[j]'h).x.n)/\w.cell? ⟨b,off+j*7+5,none⟩=some sv/\
  w.cell? ⟨b,off+j*7+6,none⟩=some (.int .i64 (l[j]'h).n)/\NdP w P iv sv (l[j]'h))
namespace NodesIn
variable {w w':World} {P Q:Nat->Prop} {l:List Nd} {v:Value}
theorem nil (w:World) (P:Nat->Prop):NodesIn w P [] (.slice none 0 0):=⟨none,0,rfl,le0,ze0,.inl rfl⟩
theorem keep (h:NodesIn w P l v) (hPQ: ∀b,P b->Q b) (hk: ∀b,P b->w'.heap[b]? =w.heap[b]?):NodesIn w' Q l v:=by
 obtain⟨a,cap,rfl,h1,h2,h3⟩:=h;refine⟨a,cap,rfl,h1,h2,h3.imp id ?_⟩;rintro ⟨b,off,rfl,hb,hc⟩;refine⟨b,off,rfl,hPQ b hb,fun j hj=>?_⟩;obtain⟨u,iv,sv,c0,c1,c2,c3,c4,c5,c6,hs⟩:=hc j hj;have g: ∀k,w'.cell? ⟨b,k,none⟩=w.cell? ⟨b,k,none⟩:=fun k=>World.cell?_of_block (hk b hb);exact⟨u,iv,sv,(g _).trans c0,(g _).trans c1,(g _).trans c2,(g _).trans c3,(g _).trans c4,(g _).trans c5,(g _).trans c6,hs.1.keep hPQ hk,hs.2.keep hPQ hk⟩
theorem mono (h:NodesIn w P l v) (hPQ: ∀b,P b->Q b):NodesIn w Q l v:=h.keep hPQ fun _ _=>rfl
theorem toAt {B:Nat} (h:NodesIn w P l v) (hP: ∀b,P b->b<B):NodesAt w B l v:=by
 obtain⟨a,cap,rfl,h1,h2,h3⟩:=h;refine⟨a,cap,rfl,h1,h2,h3.imp id ?_⟩;rintro ⟨b,off,rfl,hb,hc⟩;refine⟨b,off,rfl,hP b hb,fun j hj=>?_⟩;obtain⟨u,iv,sv,c0,c1,c2,c3,c4,c5,c6,hs⟩:=hc j hj;exact⟨u,iv,sv,c0,c1,c2,c3,c4,c5,c6,hs.1.toSl hP,hs.2.toAt hP⟩
theorem of_at {B:Nat} (h:NodesAt w B l v):NodesIn w (· <B) l v:=by
 obtain⟨a,cap,rfl,h1,h2,h3⟩:=h;refine⟨a,cap,rfl,h1,h2,h3.imp id ?_⟩;rintro ⟨b,off,rfl,hb,hc⟩;refine⟨b,off,rfl,hb,fun j hj=>?_⟩;obtain⟨u,iv,sv,c0,c1,c2,c3,c4,c5,c6,hs⟩:=hc j hj;exact⟨u,iv,sv,c0,c1,c2,c3,c4,c5,c6,hs.1,ArgsIn.of_at hs.2⟩
theorem slice (h:NodesIn w P l v): ∃a cap,v= .slice a l.length cap/\l.length<=cap/\cap<=maxLen:=by
 obtain⟨a,cap,rfl,h1,h2,_⟩:=h;exact⟨a,cap,rfl,h1,h2⟩
end NodesIn
def JbIn (w:World) (P:Nat->Prop) (v:Value) (j:Jb):Prop:= ∃sv,v= .agg #[.int .i64 j.par,sv]/\NodesIn w P j.nodes sv
