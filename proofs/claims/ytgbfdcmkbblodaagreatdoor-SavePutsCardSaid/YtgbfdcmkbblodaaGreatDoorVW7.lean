/- Parts. -/
import Derived.Test.YtgbfdcmkbblodaaGreatDoorChecked
import Derived.Test.YtgbfdcmkbblodaaGreatDoorVW1
namespace Go.Proofs.YtgbfdcmkbblodaaGreatDoor
open Go.RowKit
set_option linter.unusedVariables false
set_option linter.unusedSimpArgs false
set_option maxRecDepth 100000
set_option maxHeartbeats 16000000
open Tryz
def sm1 (p:Nat×Nat) (c:UInt8):Nat×Nat:=((p.1+c.toNat)%65521,(p.2+(p.1+c.toNat)%65521)%65521)
def smL (p:Nat×Nat) (l:List UInt8):Nat×Nat:=l.foldl sm1 p
theorem smL_snoc (p:Nat×Nat) (l:List UInt8) (c:UInt8):smL p (l++ [c])=sm1 (smL p l) c:=by
 unfold smL;rw[List.foldl_append];rfl
theorem smL_take (p:Nat×Nat) (l:List UInt8) (k:Nat) (h:k<l.length):smL p (l.take (k+1))=sm1 (smL p (l.take k)) l[k]:=by
 rw[List.take_succ_eq_append_getElem h,smL_snoc]
theorem sm1_lt (p:Nat×Nat) (c:UInt8):(sm1 p c).1<65521/\(sm1 p c).2<65521:=⟨Nat.mod_lt _ (by decide),Nat.mod_lt _ (by decide)⟩
theorem smL_lt: ∀(l:List UInt8) (p:Nat×Nat),p.1<65521->p.2<65521->(smL p l).1<65521/\(smL p l).2<65521
 | [],p,h1,h2=>⟨h1,h2⟩
 |c::l,p,_,_=>smL_lt l _ (sm1_lt p c).1 (sm1_lt p c).2
def sumB (l:List UInt8):Nat:=65536*(smL (1,0) l).2+(smL (1,0) l).1
theorem sumB_lt (l:List UInt8):sumB l<4294967296:=by
 have:=smL_lt l (1,0) (by decide) (by decide);unfold sumB;omega
def tailL (n:Nat):List UInt8:=[UInt8.ofNat (n%256),UInt8.ofNat (n/256%256),UInt8.ofNat (n/65536%256),UInt8.ofNat (n/16777216%256)]
theorem tailL_len (n:Nat):(tailL n).length=4:=rfl
def headL (k:Nat) (u:ByteArray):List UInt8:=UInt8.ofNat k::txtL u
def frL (k:Nat) (u:ByteArray):List UInt8:=headL k u++tailL (sumB (headL k u))
theorem frL_len (k:Nat) (u:ByteArray):(frL k u).length=(txtL u).length+5:=by
 unfold frL headL;rw[la0,tailL_len,List.length_cons]
theorem txtL_len (u:ByteArray) (h:u.size<=65536):(txtL u).length<=u.size+10/\u.size<(txtL u).length:=by
 have h1:=putN_len (u.size:Int) (by omega) (by omega);have h2:0<(putN (u.size:Int)).length:=by
  unfold putN;by_cases h:zig (u.size:Int)<128
  ·rw[vby_lt h];simp
  ·rw[vby_ge h];simp
 unfold txtL;rw[la0,<-Lib.size_eq];omega
theorem txtL_pos (u:ByteArray):0<(txtL u).length:=by
 have h2:0<(putN (u.size:Int)).length:=by
  unfold putN;by_cases h:zig (u.size:Int)<128
  ·rw[vby_lt h];simp
  ·rw[vby_ge h];simp
 unfold txtL;rw[la0];omega
def takeF (s:ByteArray):Nat×ByteArray×Int×Int:=
 match s.data.toList with
 | []=>(0,.empty,0,20)
 |c::_=>
  if c.toNat=0 then(0,.empty,0,21)else
  if(takeT (s.extract 1 s.size)).2.2≠0 then(0,.empty,0,(takeT (s.extract 1 s.size)).2.2)else
  if(s.size:Int)<(takeT (s.extract 1 s.size)).2.1+5 then(0,.empty,0,20)else
  if(s.data.toList.drop ((takeT (s.extract 1 s.size)).2.1+1).toNat).take 4≠tailL (sumB (s.data.toList.take ((takeT (s.extract 1 s.size)).2.1+1).toNat))then(0,.empty,0,40)else
  (c.toNat,(takeT (s.extract 1 s.size)).1,(takeT (s.extract 1 s.size)).2.1+5,0)
theorem takeF_cons (c:UInt8) (l:List UInt8):takeF (bstr (c::l))=
  if c.toNat=0 then(0,.empty,0,21)else if(takeT (bstr l)).2.2≠0 then(0,.empty,0,(takeT (bstr l)).2.2)else
  if((l.length+1:Nat):Int)<(takeT (bstr l)).2.1+5 then(0,.empty,0,20)else
  if(l.drop (takeT (bstr l)).2.1.toNat).take 4≠tailL (sumB (c::l.take (takeT (bstr l)).2.1.toNat))then(0,.empty,0,40)else
  (c.toNat,(takeT (bstr l)).1,(takeT (bstr l)).2.1+5,0):=by
 obtain⟨k,hk,_⟩:=takeT_le (bstr l);unfold takeF;rw[bstr_list];dsimp only;rw[cut_bstr,bstr_size,List.drop_succ_cons,List.drop_zero,hk,show((k:Int)+1).toNat=k+1 by omega,List.drop_succ_cons,List.take_succ_cons,Int.toNat_natCast,List.length_cons]
theorem takeF_nil:takeF (bstr [])=(0,.empty,0,20):=rfl
theorem takeF_put (k:Nat) (u:ByteArray) (h1:0<k) (h2:k<256) (hu:u.size<=65536) (rest:List UInt8):takeF (bstr (frL k u++rest))=(k,u,((frL k u).length:Int),0):=by
 have hk:(UInt8.ofNat k).toNat=k:=by simp;omega
 have e:frL k u++rest=UInt8.ofNat k::(txtL u++(tailL (sumB (headL k u))++rest)):=by unfold frL headL;simp
 rw[e,takeF_cons,takeT_put u hu];dsimp only;rw[if_neg (by omega),if_neg (by simp),if_neg (by simp only[la0,tailL_len];omega),Int.toNat_natCast,List.drop_left,List.take_left,List.take_left' (tailL_len _)];rw[if_neg (by unfold headL;simp),hk,frL_len];simp
theorem ofNat_toNat8 (c:UInt8):UInt8.ofNat c.toNat=c:=by simp
theorem takeF_back (s:ByteArray) (h:(takeF s).2.2.2=0):0<(takeF s).1/\(takeF s).1<256/\(takeF s).2.1.size<=65536/\(takeF s).2.2.1=((frL (takeF s).1 (takeF s).2.1).length:Int)/\ ∃rest,s.data.toList=frL (takeF s).1 (takeF s).2.1++rest:=by
 rw[<-bstr_of s]at h⊢;generalize s.data.toList=l at*
 cases l with
 |nil=>exact absurd h (by decide)
 |cons c l=>
  rw[takeF_cons]at h⊢;have hc:=c.toNat_lt;by_cases e0:c.toNat=0
  ·rw[if_pos e0]at h;exact absurd h (by decide)
  rw[if_neg e0]at h⊢;by_cases e1:(takeT (bstr l)).2.2=0
  ·rw[if_neg (by simpa using e1)]at h⊢;obtain⟨g1,g2,rest,g3⟩:=takeT_back (bstr l) e1;rw[bstr_list]at g3;by_cases e2:((l.length+1:Nat):Int)<(takeT (bstr l)).2.1+5
   ·rw[if_pos e2]at h;exact absurd h (by decide)
   rw[if_neg e2]at h⊢;by_cases e3:(l.drop (takeT (bstr l)).2.1.toNat).take 4=tailL (sumB (c::l.take (takeT (bstr l)).2.1.toNat))
   ·rw[if_neg (by simpa using e3)];dsimp only;refine⟨by omega,hc,g1,by rw[frL_len,g2];omega,rest.drop 4,?_⟩;rw[g2]at e3;generalize (takeT (bstr l)).1=u at*;rw[bstr_list];rw[Int.toNat_natCast,g3,List.drop_left,List.take_left]at e3;unfold frL headL;rw[ofNat_toNat8,<-e3,g3,List.cons_append,List.cons_append,List.append_assoc,List.take_append_drop]
   ·rw[if_pos e3]at h;exact absurd h (by decide)
  ·rw[if_pos e1]at h;exact absurd h e1
theorem takeF_err (s:ByteArray) (h:(takeF s).2.2.2≠0):(takeF s).1=0/\(takeF s).2.1= .empty/\(takeF s).2.2.1=0:=by
 rw[<-bstr_of s]at h⊢;generalize s.data.toList=l at*
 cases l with
 |nil=>exact⟨rfl,rfl,rfl⟩
 |cons c l=>
  rw[takeF_cons]at h⊢
  repeat' split
  ·exact⟨rfl,rfl,rfl⟩
  ·exact⟨rfl,rfl,rfl⟩
  ·exact⟨rfl,rfl,rfl⟩
  ·exact⟨rfl,rfl,rfl⟩
  ·rename_i h1 h2 h3 h4;rw[if_neg h1,if_neg h2,if_neg h3,if_neg h4]at h;exact absurd rfl h
theorem takeF_le (s:ByteArray): ∃k:Nat,(takeF s).2.2.1=(k:Int)/\k<=s.size/\((takeF s).2.2.2=0->5<k):=by
 by_cases h:(takeF s).2.2.2=0
 ·obtain⟨_,_,_,h1,r,h2⟩:=takeF_back s h;refine⟨_,h1,?_,fun _=>?_⟩
  ·rw[Lib.size_eq,h2,la0];omega
  ·rw[frL_len];have:=txtL_pos (takeF s).2.1;omega
 ·exact⟨0,(takeF_err s h).2.2,ze0,fun e=>absurd e h⟩
abbrev Frm:=Nat×ByteArray
def Frm.ok (p:Frm):Prop:=0<p.1/\p.1<256/\p.2.size<=65536
def frs (l:List Frm):List UInt8:=l.flatMap fun p=>frL p.1 p.2
theorem frs_nil:frs []=[]:=rfl
theorem frs_cons (p:Frm) (l:List Frm):frs (p::l)=frL p.1 p.2++frs l:=rfl
theorem frs_app (l m:List Frm):frs (l++m)=frs l++frs m:=by unfold frs;simp
def allG:Nat->ByteArray->List Frm
 |0,_=> []
 |n+1,s=>if(takeF s).2.2.2≠0 then []else((takeF s).1,(takeF s).2.1)::allG n (s.extract (takeF s).2.2.1.toNat s.size)
def allF (s:ByteArray):List Frm:=allG (s.size+1) s
theorem allG_of: ∀(n:Nat) (l:List Frm) (rest:List UInt8),(∀p∈l,p.ok)->(takeF (bstr rest)).2.2.2≠0->(frs l).length<n->allG n (bstr (frs l++rest))=l
 |0,l,rest,_,_,h=>absurd h (Nat.not_lt_zero _)
 |n+1,[],rest,_,hr,_=>by
  rw[frs_nil,List.nil_append,allG,if_pos hr]
 |n+1,p::l,rest,hp,hr,hn=>by
  obtain⟨h1,h2,h3⟩:=hp p (by simp)
  rw[frs_cons]at hn⊢
  rw[List.append_assoc,allG,takeF_put p.1 p.2 h1 h2 h3]
  dsimp only
  rw[if_neg (by simp),Int.toNat_natCast,cut_bstr,List.drop_left,allG_of n l rest (fun q hq=>hp q (by simp[hq])) hr (by
   rw[la0,frL_len]at hn;omega)]
theorem allF_of (l:List Frm) (rest:List UInt8) (hl: ∀p∈l,p.ok) (hr:(takeF (bstr rest)).2.2.2≠0):allF (bstr (frs l++rest))=l:=by
 unfold allF;exact allG_of _ l rest hl hr (by rw[bstr_size,la0];omega)
theorem allG_spec: ∀(n:Nat) (s:ByteArray),s.size<n-> ∃rest,s.data.toList=frs (allG n s)++rest/\(∀p∈allG n s,p.ok)/\(takeF (bstr rest)).2.2.2≠0
 |0,s,h=>absurd h (Nat.not_lt_zero _)
 |n+1,s,h=>by
  by_cases e:(takeF s).2.2.2=0
  ·obtain⟨h1,h2,h3,h4,r,h5⟩:=takeF_back s e
   obtain⟨k,hk,hks,hk5⟩:=takeF_le s
   have hk6:=hk5 e
   have hz:(s.extract k s.size).size<n:=by rw[ByteArray.size_extract];omega
   obtain⟨rest,g1,g2,g3⟩:=allG_spec n (s.extract k s.size) hz
   have hkl:(frL (takeF s).1 (takeF s).2.1).length=k:=by omega
   refine⟨rest,?_,?_,g3⟩
   ·rw[allG,if_neg (by simpa using e),hk,Int.toNat_natCast,frs_cons,List.append_assoc,<-g1,cut_list,h5,List.drop_left' hkl]
   ·rw[allG,if_neg (by simpa using e),hk,Int.toNat_natCast]
    intro p hp
    rcases List.mem_cons.1 hp with rfl|hp
    ·exact⟨h1,h2,h3⟩
    ·exact g2 p hp
  ·refine⟨s.data.toList,?_,?_,by rw[bstr_of];exact e⟩
   ·rw[allG,if_pos e];rfl
   ·rw[allG,if_pos e];simp
theorem allF_spec (s:ByteArray): ∃rest,s.data.toList=frs (allF s)++rest/\(∀p∈allF s,p.ok)/\(takeF (bstr rest)).2.2.2≠0:=allG_spec _ s (Nat.lt_succ_self _)
theorem allF_le (s:ByteArray):(frs (allF s)).length<=s.size:=by
 obtain⟨rest,h,_⟩:=allF_spec s;rw[Lib.size_eq,h,la0];omega
theorem allF_step (s:ByteArray) (e:(takeF s).2.2.2=0):allF s=((takeF s).1,(takeF s).2.1)::allF (s.extract (takeF s).2.2.1.toNat s.size):=by
 obtain⟨k,hk,hks,hk5⟩:=takeF_le s;have hk6:=hk5 e;obtain⟨h1,h2,h3,h4,r,h5⟩:=takeF_back s e;obtain⟨rest,g1,g2,g3⟩:=allF_spec (s.extract k s.size);have hkl:(frL (takeF s).1 (takeF s).2.1).length=k:=by omega
 rw[hk,Int.toNat_natCast];have e2:s.data.toList=frs (((takeF s).1,(takeF s).2.1)::allF (s.extract k s.size))++rest:=by
  rw[frs_cons,List.append_assoc,<-g1,cut_list,h5,List.drop_left' hkl]
 rw[<-bstr_of s]
 conv=>lhs;rw[e2]
 rw[allF_of _ rest ?_ g3,bstr_of];intro p hp;rcases List.mem_cons.1 hp with rfl|hp
 ·exact⟨h1,h2,h3⟩
 ·exact g2 p hp
theorem allF_stop (s:ByteArray) (e:(takeF s).2.2.2≠0):allF s=[]:=by unfold allF;rw[allG,if_pos e]
theorem allF_whole (l:List Frm) (hl: ∀p∈l,p.ok):allF (bstr (frs l))=l:=by
 have:=allF_of l [] hl (by rw[takeF_nil];decide);rwa[List.append_nil]at this
theorem xor_ones_u (a:Nat) (h:a<18446744073709551616):bits .xor .u64 (a:Int) 18446744073709551615=((18446744073709551615-a:Nat):Int):=by
 have h1:=bits_xor_u64_nat a 18446744073709551615 h (by omega);have e:a^^^18446744073709551615=18446744073709551615-a:=by
  have h2:(BitVec.ofNat 64 a^^^BitVec.allOnes 64).toNat=(~~~BitVec.ofNat 64 a).toNat:=by rw[BitVec.xor_allOnes]
  rw[BitVec.toNat_xor,BitVec.toNat_not,BitVec.toNat_ofNat,BitVec.toNat_allOnes]at h2;rw[Nat.mod_eq_of_lt (by omega)]at h2;have h3:(2:Nat)^64-1=18446744073709551615:=by decide
  rw[h3]at h2;exact h2
 rw[e]at h1;exact h1
theorem xor_zero_u (a:Nat) (h:a<18446744073709551616):bits .xor .u64 (a:Int) 0=(a:Int):=by
 have h1:=bits_xor_u64_nat a 0 h (by omega);rw[Nat.xor_zero]at h1;exact h1
theorem wrap_i64B (n:Int):IntKind.i64.wrap n=wrap64 n:=by
 unfold wrap64;simp[IntKind.wrap,IntKind.bits,IntKind.signed]
 try(split<;>omega)
theorem xor_zero_i (a:Nat) (h:a<9223372036854775808):bits .xor .i64 (a:Int) 0=(a:Int):=by
 have e:(BitVec.ofInt 64 (a:Int)^^^BitVec.ofInt 64 0).toNat=a:=by
  rw[BitVec.toNat_xor,BitVec.ofInt_natCast,BitVec.toNat_ofNat,Nat.mod_eq_of_lt (by omega)];exact Nat.xor_zero a
 show IntKind.i64.wrap ((BitVec.ofInt 64 (a:Int)^^^BitVec.ofInt 64 0).toNat:Int)=_;rw[e,wrap_i64B];unfold wrap64;omega
theorem xor_ones_i (a:Nat) (h:a<9223372036854775808):bits .xor .i64 (a:Int) (-1)= -(a:Int) -1:=by
 have e:(BitVec.ofInt 64 (a:Int)^^^BitVec.ofInt 64 (-1)).toNat=18446744073709551615-a:=by
  have h1:BitVec.ofInt 64 (-1)=BitVec.allOnes 64:=by decide+kernel
  rw[h1,BitVec.xor_allOnes,BitVec.toNat_not,BitVec.ofInt_natCast,BitVec.toNat_ofNat,Nat.mod_eq_of_lt (by omega)]
 show IntKind.i64.wrap ((BitVec.ofInt 64 (a:Int)^^^BitVec.ofInt 64 (-1)).toNat:Int)=_;rw[e,wrap_i64B];unfold wrap64;omega
theorem turned_bits (n:Int) (h1: -9223372036854775808<=n) (h2:n<=9223372036854775807):
  bits .xor .u64 (IntKind.u64.wrap (IntKind.u64.wrap n*2)) (IntKind.u64.wrap (n/9223372036854775808))=(zig n:Int):=by
 rw[IntKind.wrap_u64,IntKind.wrap_u64,IntKind.wrap_u64];unfold zig;by_cases h:0<=n
 ·rw[if_pos h];have e1:n%18446744073709551616*2%18446744073709551616=((2*n).toNat:Int):=by omega
  have e2:n/9223372036854775808%18446744073709551616=0:=by omega
  rw[e1,e2,xor_zero_u _ (by omega)]
 ·rw[if_neg h];have e1:n%18446744073709551616*2%18446744073709551616=((2*n+18446744073709551616).toNat:Int):=by omega
  have e2:n/9223372036854775808%18446744073709551616=18446744073709551615:=by omega
  rw[e1,e2,xor_ones_u _ (by omega)];omega
theorem back_bits (u:Nat) (h:u<18446744073709551616):bits .xor .i64 ((u:Int)/2) (wrap64 (-wrap64 (bits .and .u64 (u:Int) 1)))=unzig u:=by
 have ha:=bits_and_u64_nat u 1 h (by omega);rw[Nat.and_one_is_mod]at ha;have ha':bits .and .u64 (u:Int) 1=((u%2:Nat):Int):=ha;rw[ha'];have e2:(u:Int)/2=((u/2:Nat):Int):=by omega
 rw[e2];unfold unzig;by_cases h0:u%2=0
 ·rw[if_pos h0,h0];have e:wrap64 (-wrap64 ((0:Nat):Int))=0:=by decide+kernel
  rw[e,xor_zero_i _ (by omega)]
 ·rw[if_neg h0,show u%2=1 by omega];have e:wrap64 (-wrap64 ((1:Nat):Int))= -1:=by decide+kernel
  rw[e,xor_ones_i _ (by omega)]
theorem turned_c (n:Int) (h1: -9223372036854775808<=n) (h2:n<=9223372036854775807) (w:World):Calls prog 81 #[.int .i64 n] w fun e w'=>e= .returned (.int .u64 (zig n))/\w=w':=by
 go_enter func81,ntmps81
 go_wp2_with fail
 go_ret;exact⟨ret_int (turned_bits n h1 h2),rfl⟩
theorem back_c (u:Nat) (h:u<18446744073709551616) (w:World):Calls prog 97 #[.int .u64 u] w fun e w'=>e= .returned (.int .i64 (unzig u))/\w=w':=by
 go_enter func97,ntmps97
 go_wp2_with fail
 go_ret;exact⟨ret_int (back_bits u h),rfl⟩
theorem u8_and128 (c:Nat) (h:c<256):bits .and .u8 (c:Int) 128=if c<128 then 0 else 128:=by
 have: ∀n:Fin 256,bits .and .u8 (n.val:Int) 128=if n.val<128 then 0 else 128:=by decide+kernel
 exact this ⟨c,h⟩
theorem u8_andNot128 (c:Nat) (h:c<256):bits .andNot .u8 (c:Int) 128=((c%128:Nat):Int):=by
 have: ∀n:Fin 256,bits .andNot .u8 (n.val:Int) 128=((n.val%128:Nat):Int):=by decide+kernel
 exact this ⟨c,h⟩
theorem take_or (k U c:Nat) (hk:k<=9) (hc:c<256) (h9:k=9->c<=1) (hU:U<2^(7*k)):
  bits .or .u64 (U:Int) (IntKind.u64.wrap (IntKind.u64.wrap (bits .andNot .u8 (c:Int) 128)*2^(7*k)))=((U+c%128*2^(7*k):Nat):Int)/\U+c%128*2^(7*k)<18446744073709551616/\U+c%128*2^(7*k)<2^(7*(k+1)):=by
 have hm:c%128<128:=Nat.mod_lt _ (by omega);have hP:(2:Nat)^(7*(k+1))=128*2^(7*k):=by rw[show 7*(k+1)=7+7*k by omega,Nat.pow_add]
 have hb:U+c%128*2^(7*k)<2^(7*(k+1)):=by
  rw[hP];have:(c%128+1)*2^(7*k)<=128*2^(7*k):=Nat.mul_le_mul_right _ (by omega);rw[Nat.add_mul]at this;omega
 have hb2:U+c%128*2^(7*k)<18446744073709551616:=by
  by_cases h:k=9
  ·subst h;have:=h9 rfl;have e:c%128=c:=Nat.mod_eq_of_lt (by omega);rw[e];have h63:(2:Nat)^(7*9)=9223372036854775808:=by decide+kernel
   clear hb hP hm;rw[h63]at hU⊢;clear h63;omega
  ·have:2^(7*(k+1))<=2^63:=Nat.pow_le_pow_right (by omega) (by omega);have h63:(2:Nat)^63=9223372036854775808:=by decide+kernel
   omega
 refine⟨?_,hb2,hb⟩;have hx:c%128*2^(7*k)<18446744073709551616:=by omega
 rw[u8_andNot128 c hc,IntKind.wrap_u64,IntKind.wrap_u64];have e1:((c%128:Nat):Int)%18446744073709551616=((c%128:Nat):Int):=by omega
 have e2:((c%128:Nat):Int)*2^(7*k)=((c%128*2^(7*k):Nat):Int):=by
  rw[Int.natCast_mul,Int.natCast_pow];rfl
 rw[e1,e2];have e3:((c%128*2^(7*k):Nat):Int)%18446744073709551616=((c%128*2^(7*k):Nat):Int):=by omega
 rw[e3];exact or7 k hk U (c%128) hU hx
theorem Take_c (s:ByteArray) (hs:s.size<=140737488355328) (w:World):Calls prog 45 #[.string s] w fun e w'=>e= .returned (.tuple #[.int .i64 (takeS s).1,.int .i64 (takeS s).2.1,.int .i64 (takeS s).2.2])/\w=w':=by
 go_enter func45,ntmps45
 go_wp2_with fail
 go_step3
 go_wp2_with fail
 go_step3
 go_wp2_with fail
 go_loop [5,6] (fun u q=> ∃k U:Nat,u= .int .u64 U/\q= .int .i64 k/\k<=9/\k<=s.size/\U<2^(7*k)/\tkGo k U (s.data.toList.drop k)=takeS s) (fun _ q=>s.size-(intOf q).toNat)
 case atStart=>exact⟨0,0,rfl,rfl,by omega,ze0,by decide,rfl⟩
 case round=>
  obtain⟨k,U,rfl,rfl,hk9,hks,hU,hg⟩:=hrel;by_cases hlt:k<s.size
  ·have hd:s.data.toList.drop k=s[k]::s.data.toList.drop (k+1):=List.drop_eq_getElem_cons (by rw[<-Lib.size_eq];exact hlt);rw[hd]at hg;have hc8:(s[k]).toNat<256:=(s[k]).toNat_lt;generalize hcc:s[k]=c at*;generalize htl:s.data.toList.drop (k+1)=tl at*;have HTL:=Lh htl;clear htl hd;simp only[tkGo]at hg;have hand:=u8_and128 c.toNat hc8;by_cases h9:k=9
   ·subst h9;by_cases h1:1<c.toNat
    ·rw[if_pos ⟨rfl,h1⟩]at hg;have HR:=Lh hg;have d1:decide ((1:Int)<(c.toNat:Int))=true:=by rw[decide_eq_true_eq];omega
     clear hg hand hU
     go_wp2_with fail
     first|go_ret3|(rw[Exit.noGoto_ret];go_ret3)
     rw[<-HR.o];exact⟨rfl,rfl⟩
    ·obtain⟨ho,hv1,hv2⟩:=take_or 9 U c.toNat le0 hc8 (fun _=>by omega) hU;rw[if_neg (by omega),if_neg (by omega)]at hg;rw[if_pos (by omega)]at hand;have d1:decide ((1:Int)<(c.toNat:Int))=false:=by rw[decide_eq_false_iff_not];omega
     have hpow:(2:Int)^(7*9)=9223372036854775808:=by decide+kernel
     rw[hpow]at ho;generalize U+c.toNat%128*2^(7*9)=V at*;by_cases h0:c.toNat=0
     ·rw[if_pos ⟨h0,by omega⟩]at hg;have HR:=Lh hg;have d0:((c.toNat:Int)==0)=true:=by rw[beq_iff_eq];omega
      clear hg hU
      go_wp2_with fail
      first|go_ret3|(rw[Exit.noGoto_ret];go_ret3)
      rw[<-HR.o];exact⟨rfl,rfl⟩
     ·rw[if_neg (by omega)]at hg;have HR:=Lh hg;have d0:((c.toNat:Int)==0)=false:=by rw[bq0];omega
      clear hg hU
      go_wp2_with fail
      refine(back_c V hv1 _).mono ?_;rintro e w1 ⟨rfl,rfl⟩
      go_wp2_with fail
      first|go_ret3|(rw[Exit.noGoto_ret];go_ret3)
      rw[<-HR.o];exact⟨rfl,rfl⟩
   ·obtain⟨ho,hv1,hv2⟩:=take_or k U c.toNat hk9 hc8 (fun h=>absurd h h9) hU;rw[if_neg (fun h=>h9 h.1)]at hg;have d9:((k:Int)==9)=false:=by rw[bq0];omega
    generalize U+c.toNat%128*2^(7*k)=V at*;have HO:=Lh ho;by_cases h2:128<=c.toNat
    ·rw[if_pos h2]at hg;rw[if_neg (by omega)]at hand;have HR:=Lh hg;have HU:=Lh hv2;clear hg hU hv2 ho
     go_wp2_with fail
     go_round
     case rel=>exact⟨k+1,V,by rw[HO.o],by go_num,by omega,by omega,HU.o,by rw[HTL.o];exact HR.o⟩
     case measure=>simp[intOf];omega
    ·rw[if_neg h2]at hg;rw[if_pos (by omega)]at hand;by_cases h0:c.toNat=0/\0<k
     ·rw[if_pos h0]at hg;have HR:=Lh hg;have d0:((c.toNat:Int)==0)=true:=by rw[beq_iff_eq];omega
      have dk:(1:Int)<(k:Int)+1:=by omega
      clear hg hU hv2 ho
      go_wp2_with fail
      first|go_ret3|(rw[Exit.noGoto_ret];go_ret3)
      rw[<-HR.o];exact⟨rfl,rfl⟩
     ·rw[if_neg h0]at hg;have HR:=Lh hg;have dd:(((c.toNat:Int)==0)=false)\/(((c.toNat:Int)==0)=true/\ ¬(1:Int)<(k:Int)+1):=by
       by_cases hz:c.toNat=0
       ·right;exact⟨by rw[beq_iff_eq];omega,by omega⟩
       ·left;rw[bq0];omega
      clear hg hU hv2 h0;rcases dd with d0|⟨d0,dk⟩
      all_goals
       go_wp2_with fail
       refine(back_c V hv1 _).mono ?_;rintro e w1 ⟨rfl,rfl⟩
       go_wp2_with fail
       first|go_ret3|(rw[Exit.noGoto_ret];go_ret3)
       rw[<-HR.o];exact⟨rfl,rfl⟩
  ·have hd:s.data.toList.drop k=[]:=List.drop_of_length_le (by rw[<-Lib.size_eq];omega);rw[hd]at hg;simp only[tkGo]at hg;have HR:=Lh hg;clear hg hd hU
   go_wp2_with fail
   first|go_ret3|(rw[Exit.noGoto_ret];go_ret3)
   rw[<-HR.o];exact⟨rfl,rfl⟩
theorem letter_c (r:Int) (w:World):
  Calls prog 185 #[.int .i32 r] w fun e w'=>e= .returned (.bool (letterB r))/\w=w':=by
 go_enter func185,ntmps185;go_wp2
 all_goals
  go_ret;exact⟨ret_bool (by unfold letterB;rw[Bool.eq_iff_iff];simp;omega),rfl⟩
theorem later_c (r:Int) (w:World):
  Calls prog 186 #[.int .i32 r] w fun e w'=>e= .returned (.bool (laterB r))/\w=w':=by
 cases hb:letterB r
 all_goals
  have HB:=Lh hb;clear hb;go_enter func186,ntmps186
  go_wp2_with (go_at_call 185;refine(letter_c _ _).mono ?_;rintro e w' ⟨rfl,rfl⟩;rw[HB.o])
  all_goals
   go_ret;exact⟨ret_bool (by unfold laterB;rw[HB.o,Bool.eq_iff_iff];simp;try omega),rfl⟩
theorem Name_c (s:ByteArray) (w:World) (hs:s.size<=maxLen):
    Calls prog 156 #[.string s] w fun e w'=>e= .returned (.bool (nameB s))/\ ∃pos,w'=w.iter s pos:=by
  unfold maxLen at hs;have h0:(runesAt s 0).length<=s.size:=by have:=runesAt_length s 0;omega
  go_enter func156,ntmps156;go_wp2
  go_loopw [3] (fun n wr=> ∃(pos k:Nat),wr=w.iter s pos/\n= .int .i64 k/\k+(runesAt s pos).length<=s.size/\nameGo k (runesAt s pos)=nameB s) (fun _ wr=>s.size-wr.iterPos w.heap.size)
  case atStart=>exact⟨0,0,rfl,rfl,by omega,rfl⟩
  case round=>
    obtain⟨pos,k,rfl,rfl,hk,hg⟩:=hrel;by_cases hp:pos<s.size
    · have hnx: ∀ty,(Instr.next (.pointer (some ⟨w.heap.size,0,none⟩)) true ty).run prog (w.iter s pos)=_:=fun ty=>run_next_any w s pos ty hp
      have hwd:=Lib.decode_width_pos s pos hp;rw[runesAt_step s pos hp]at hg hk;simp only[nameGo]at hg;simp only[List.length_cons]at hk;have HG:=Lh hg;clear hg
      go_wp2_with (first|(go_at_call 185;refine(letter_c _ _).mono ?_;rintro e w' ⟨rfl,rfl⟩)|(go_at_call 186;refine(later_c _ _).mono ?_;rintro e w' ⟨rfl,rfl⟩))
      all_goals first
        |(go_ret;exact⟨ret_bool (by rw[<-HG.o,if_pos (by simp_all)]),_,rfl⟩)
        | (go_roundw
           case rel=>exact⟨_,k+1,rfl,by first|go_num|simp_all,by omega,by rw[<-HG.o,if_neg (by simp_all)]⟩
           case measure=>simp;omega)
    · have hnx: ∀ty,(Instr.next (.pointer (some ⟨w.heap.size,0,none⟩)) true ty).run prog (w.iter s pos)=_:=fun ty=>run_next_end w s pos ty hp
      rw[runesAt_end s pos hp]at hg;simp only[nameGo]at hg;have HG:=Lh hg;clear hg;go_wp2
      all_goals (go_ret;exact⟨ret_bool (by rw[<-HG.o,Bool.eq_iff_iff];simp;omega),_,rfl⟩)
theorem rletter_c (r:Int) (w:World):
  Calls prog 200 #[.int .i32 r] w fun e w'=>e= .returned (.bool (letterB r))/\w=w':=by
 go_enter func200,ntmps200;go_wp2
 all_goals
  go_ret;exact⟨ret_bool (by unfold letterB;rw[Bool.eq_iff_iff];simp;omega),rfl⟩
theorem info_i32:(prog.info? 21).map (fun i=>(i.zero,i.size,i.bytes))=some (some (.int .i32 0),1,4):=by kernel_rfl
theorem info_int:(prog.info? 3).map (fun i=>(i.zero,i.size,i.bytes))=some (some (.int .i64 0),1,8):=by kernel_rfl
theorem owns_apart {w:World} {b1 b2:Nat} {e1 e2:TypeId} {s1 s2 n1 n2:Nat} {v1 v2:Value} {x1 x2:List Value} (h1:w.ownsRow b1 e1 s1 v1 n1 x1) (h2:w.ownsRow b2 e2 s2 v2 n2 x2) (he:e1≠e2):
  v2.ownBlock=none\/v2.ownBlock≠v1.ownBlock:=by
 rcases h2.2 with ⟨rfl,_⟩|⟨g2,c2,cur2,rfl,_,hg2,_⟩
 ·exact .inl rfl
 ·rcases h1.2 with ⟨rfl,_⟩|⟨g1,c1,cur1,rfl,_,hg1,_⟩
  ·exact .inr (by simp[Value.ownBlock])
  ·refine .inr (fun h=>?_);simp only[Value.ownBlock,Option.some.injEq]at h;rw[h,hg1]at hg2;simp only[Option.some.injEq,Obj.cells.injEq]at hg2;exact he hg2.2.1
structure RunesRel (s:ByteArray) (w:World) (v1 v2:Value) (wr:World):Prop where
 ex: ∃(pos:Nat) (l a:List Value),wr.heap[w.heap.size]? =some (.stringIter s pos)/\Below w.heap.size w wr/\w.heap.size+1<=wr.heap.size/\
  wr.ownsRow (w.heap.size+1) 21 1 v1 l.length l/\wr.ownsRow (w.heap.size+1) 3 1 v2 a.length a/\l.length+(runesAt s pos).length<=1000000/\a.length=l.length/\
  l++(runesAt s pos).map (Value.int .i32)=(runes s).map (Value.int .i32)
theorem Runes_c (s:ByteArray) (w:World) (hs:s.size<=1000000):
  Calls prog 199 #[.string s] w fun e w'=> ∃v1 v2,e= .returned (.tuple #[v1,v2])/\Sl w' w'.heap.size 1 v1 (runes s).length ((runes s).map (Value.int .i32))/\Below w.heap.size w w':=by
 obtain⟨i0,hi,hz0,hz1,hz2⟩:=info_parts info_i32;obtain⟨j0,ki,kz0,kz1,kz2⟩:=info_parts info_int;go_enter func199,ntmps199;go_wp2
 go_loopw [4,5] (fun v1 v2 wr=>RunesRel s w v1 v2 wr) (fun _ _ wr=>s.size-wr.iterPos w.heap.size)
 case atStart=>exact⟨⟨0,[],[],heap_new_at _ _ rfl,br0.alloc le0 _,by simp[World.iter],World.ownsRow_nil _ _ _ _,World.ownsRow_nil _ _ _ _,by have:=runesAt_length s 0;simp;omega,rfl,rfl⟩⟩
 case round=>
  obtain⟨pos,l,a,hit,hB,hsz,h1,h2,hl,ha,hg⟩:=hrel.ex;by_cases hp:pos<s.size
  ·have hnx: ∀ty,(Instr.next (.pointer (some ⟨w.heap.size,0,none⟩)) true ty).run prog wr=_:=fun ty=>Lib.run_next_any_at wr w.heap.size s pos ty hit hp;have hwd:=Lib.decode_width_pos s pos hp;have hB1:=Lib.below_iterAt hB (k:=w.heap.size) le0 s (pos+(Utf8.decode s pos).2);have hit1:=Lib.iterAt_heap wr w.heap.size s pos (pos+(Utf8.decode s pos).2) hit;have hsz1:w.heap.size+1<=(wr.iterAt w.heap.size s (pos+(Utf8.decode s pos).2)).heap.size:=by rw[Lib.iterAt_size];exact hsz
   have h1':=ownsRow_iterAt h1 (k:=w.heap.size) (by omega) s (pos+(Utf8.decode s pos).2);have h2':=ownsRow_iterAt h2 (k:=w.heap.size) (by omega) s (pos+(Utf8.decode s pos).2);rw[runesAt_step s pos hp,List.map_cons]at hg;rw[runesAt_step s pos hp,List.length_cons]at hl;rw[iterPos_of hit];generalize wr.iterAt w.heap.size s (pos+(Utf8.decode s pos).2)=W at*;have HG:=Lh hg;have HIT:=Lh hit1;have HA:=Lh ha;have hl2:l.length+1<=1000000:=by omega
   have ha2:a.length+1<=1000000:=by omega
   clear hg hit1 ha hit hrel
   go_upto_region 7 with (at_builtin;refine wpList_append_own _ rfl (.tmp 14) (.tmp 16) 262 rfl (w.heap.size+1) 21 i0 (.int .i32 0) 1 4 underlying262 hi hz0 hz1 hz2 rfl (by decide) u4 l.length l rfl (h1'.alloc _) ⟨W.heap.size,0,none⟩ 1 1 [.int .i32 ((Utf8.decode s pos).1:Int)] rfl rfl (cell_one_new _ _ _) (by simp[Value.oneCell']) (by unfold maxLen;omega) (by omega) (by simp;omega) ?_;intro v1' w1 hown1 hgrow1 _)
   have hb1: ∀k,u4.ownBlock=some k->w.heap.size+1<=k:=fun k hk=>(h1'.lt k hk).1;have h2w:=(h2'.alloc (.cells #[.int .i32 ((Utf8.decode s pos).1:Int)] 21)).kept hgrow1 (owns_apart h1' h2' (by decide));have hB2:Below w.heap.size w w1:=(hB1.alloc (by omega) _).grown hgrow1 (by simp;omega) (fun k hk=>by have:=hb1 k hk;omega);have hit2:w1.heap[w.heap.size]? =some (.stringIter s (pos+(Utf8.decode s pos).2)):=by
    rw[hgrow1.block _ (by simp;omega) (fun e=>by have:=hb1 _ e.symm;omega),alloc_old _ _ _ (by omega)];exact HIT.o
   have hsz2:w.heap.size+1<=w1.heap.size:=by have:=hgrow1.size;simp at this;omega
   have hb2: ∀k,u5.ownBlock=some k->w.heap.size+1<=k:=fun k hk=>(h2w.lt k hk).1;have HIT2:=Lh hit2;clear hit2
   go_wp2_with (at_builtin;refine wpList_append_own _ rfl (.tmp 18) (.tmp 20) 130 rfl (w.heap.size+1) 3 j0 (.int .i64 0) 1 8 underlying130 ki kz0 kz1 kz2 rfl (by decide) u5 a.length a rfl (h2w.alloc _) ⟨w1.heap.size,0,none⟩ 1 1 [.int .i64 (pos:Int)] rfl rfl (cell_one_new _ _ _) (by simp[Value.oneCell']) (by unfold maxLen;omega) (by omega) (by simp;omega) ?_;intro v2' w2 hown2 hgrow2 _)
   have hit3:w2.heap[w.heap.size]? =some (.stringIter s (pos+(Utf8.decode s pos).2)):=by
    rw[hgrow2.block _ (by simp;omega) (fun e=>by have:=hb2 _ e.symm;omega),alloc_old _ _ _ (by omega)];exact HIT2.o
   have hB3:Below w.heap.size w w2:=(hB2.alloc (by omega) _).grown hgrow2 (by simp;omega) (fun k hk=>by have:=hb2 k hk;omega);have hsz3:w.heap.size+1<=w2.heap.size:=by have:=hgrow2.size;simp at this;omega
   have h1w:=(hown1.alloc (.cells #[.int .i64 (pos:Int)] 3)).kept hgrow2 (owns_apart h2w hown1 (by decide));go_roundw
   case rel=>
    refine⟨⟨pos+(Utf8.decode s pos).2,l++ [.int .i32 ((Utf8.decode s pos).1:Int)],a++ [.int .i64 (pos:Int)],hit3,hB3,hsz3,?_,?_,?_,?_,?_⟩⟩
    ·simpa using h1w
    ·simpa using hown2
    ·simp;omega
    ·simp[HA.o]
    ·rw[<-HG.o];simp
   case measure=>
    rw[iterPos_of hit3];omega
  ·have hnx: ∀ty,(Instr.next (.pointer (some ⟨w.heap.size,0,none⟩)) true ty).run prog wr=_:=fun ty=>Lib.run_next_end_at wr w.heap.size s pos ty hit hp;rw[runesAt_end s pos hp,List.map_nil,List.append_nil]at hg;have hS:Sl wr wr.heap.size 1 u4 (runes s).length ((runes s).map (Value.int .i32)):=by
    have:=Sl.of_owns h1;rw[hg,List.length_map]at this;exact this
   have HS:=Lh hS;clear hS hg;go_wp2;go_ret2;exact⟨_,_,rfl,HS.o,hB⟩
def rlaterB (r:Int):Bool:=letterB r||decide (48<=r/\r<=57)||decide (r=45)
def rnameB (rs:List Int):Bool:=decide (1<=rs.length/\rs.length<=24)&&letterB (rs.getD 0 0)&&rs.all rlaterB
theorem rlater_eq (r:Int):laterB r=rlaterB r:=by
 unfold laterB rlaterB
 cases letterB r
 ·rw[Bool.eq_iff_iff];simp
 ·rfl
theorem rname_tail: ∀(rs:List Int) (n:Nat),0<n->nameGo n rs=(decide (n+rs.length<=24)&&rs.all rlaterB)
 | [],n,h=>by simp[nameGo,h]
 |r::rs,n,h=>by
  simp only[nameGo,List.length_cons,List.all_cons]
  rw[rname_tail rs (n+1) (by omega),rlater_eq]
  cases rlaterB r
  ·simp
  ·have h0: ¬n=0:=by omega
   have h1:n+1+rs.length=n+(rs.length+1):=by omega
   simp[h0,h1]
theorem rname_eq (s:ByteArray):rnameB (runes s)=nameB s:=by
 unfold nameB rnameB
 cases h:runes s with
 |nil=>rfl
 |cons r rs=>
  simp only[nameGo,List.length_cons,List.getD_cons_zero,List.all_cons];rw[rname_tail rs 1 (by omega)];have e2:letterB r=true->rlaterB r=true:=by intro h;unfold rlaterB;rw[h];rfl
  rw[rlater_eq]
  cases hl:letterB r
  ·simp
  ·rw[e2 hl];have h1:(decide (1+rs.length<=24))=decide (1<=rs.length+1/\rs.length+1<=24):=by rw[decide_eq_decide];omega
   rw[h1];simp
theorem rName_c (s:ByteArray) (w:World) (hs:s.size<=1000000):
    CB prog 173 #[.string s] w (.bool (nameB s)):=by
  rw[<-rname_eq];generalize hrs:runes s=rs;have HRS:=Lh hrs;clear hrs;by_cases h1:rs.length<1
  · have HR:Hd (rnameB rs=false):=by unfold rnameB;rw[df0 (by omega)];rfl
    go_enter func173,ntmps173
    go_wp2_with (go_at_call 199;refine(Runes_c _ _ hs).mono ?_;rintro e w1 ⟨v1,v2,rfl,hS,hB⟩;rw[HRS.o]at hS;obtain⟨_,a,cap,rfl,_⟩:=hS)
    go_ret;exact⟨ret_bool HR.o.symm,hB⟩
  by_cases h2:24<rs.length
  · have HR:Hd (rnameB rs=false):=by unfold rnameB;rw[df0 (by omega)];rfl
    go_enter func173,ntmps173
    go_wp2_with (go_at_call 199;refine(Runes_c _ _ hs).mono ?_;rintro e w1 ⟨v1,v2,rfl,hS,hB⟩;rw[HRS.o]at hS;obtain⟨_,a,cap,rfl,_⟩:=hS)
    go_ret;exact⟨ret_bool HR.o.symm,hB⟩
  have h3:0<rs.length:=by omega
  cases h4:letterB (rs[0]'h3)
  · have HR:Hd (rnameB rs=false):=by
      unfold rnameB;rw[show rs.getD 0 0=rs[0]'h3 by simp[List.getD,h3],h4];simp[Hd]
    have H4:=Lh h4;clear h4;go_enter func173,ntmps173
    go_wp2_with (first
      |(go_at_call 199;refine(Runes_c _ _ hs).mono ?_;rintro e w1 ⟨v1,v2,rfl,hS,hB⟩;rw[HRS.o]at hS;obtain⟨b,off,cap,rfl,hb,hl,c0⟩:=hS.int 0 h3;rw[Nat.add_zero]at c0)
      |(go_at_call 200;refine(rletter_c _ _).mono ?_;rintro e w1' ⟨rfl,rfl⟩;rw[H4.o]))
    go_ret;exact⟨ret_bool HR.o.symm,hB⟩
  · have H4:=Lh h4
    clear h4;have HE:Hd (rnameB rs=rs.all rlaterB):=by
      unfold rnameB;rw[show rs.getD 0 0=rs[0]'h3 by simp[List.getD,h3],H4.o,dt0 (show 1<=rs.length/\rs.length<=24 by omega)];simp[Hd]
    go_enter func173,ntmps173
    go_wp2_with (first
      |(go_at_call 199;refine(Runes_c _ _ hs).mono ?_;rintro e w1 ⟨v1,v2,rfl,hS,hB⟩;rw[HRS.o]at hS;obtain⟨b,off,cap,rfl,hb,hl,c0⟩:=hS.int 0 h3;rw[Nat.add_zero]at c0;have HS:=Lh hS;clear hS)
      |(go_at_call 200;refine(rletter_c _ _).mono ?_;rintro e w1' ⟨rfl,rfl⟩;rw[H4.o]))
    go_loop [5] (fun i=> ∃k:Nat,i= .int .i64 k/\k<=rs.length/\(rs.drop k).all rlaterB=rs.all rlaterB) (fun i=>rs.length-(intOf i).toNat)
    case atStart=>exact⟨0,rfl,by omega,rfl⟩
    case round=>
      obtain⟨k,rfl,hk,hr⟩:=hrel;by_cases hlt:k<rs.length
      · obtain⟨b',off',cap',e',hb',hl',ck⟩:=HS.o.int k hlt
        simp only[vs0,Option.some.injEq,Addr.mk.injEq,true_and,and_true]at e';obtain⟨⟨rfl,rfl⟩,rfl⟩:=e';rw[List.drop_eq_getElem_cons hlt,List.all_cons]at hr;generalize hx:rs[k]=x at*;have HX:=Lh hx;have HR:=Lh hr;clear hx hr c0
        go_wp2_with (go_at_call 200;refine(rletter_c _ _).mono ?_;rintro e w1' ⟨rfl,rfl⟩)
        all_goals first
          | (go_ret
             have hf:rlaterB x=false:=by unfold rlaterB;rw[<-Bool.not_eq_true];simp_all;try omega
             exact⟨ret_bool (by rw[HE.o,<-HR.o,hf];rfl),hB⟩)
          | (go_round
             case rel=>
               have hf:rlaterB x=true:=by unfold rlaterB;simp_all;try omega
               exact⟨k+1,by go_num,by omega,by rw[<-HR.o,hf,Bool.true_and]⟩
             case measure=>simp[intOf];omega)
      · have e1:rs.drop k=[]:=List.drop_of_length_le (by omega)
        rw[e1]at hr;have HR:=Lh hr;clear hr e1 c0;go_wp2;go_ret;exact⟨ret_bool (by rw[HE.o,<-HR.o];rfl),hB⟩
