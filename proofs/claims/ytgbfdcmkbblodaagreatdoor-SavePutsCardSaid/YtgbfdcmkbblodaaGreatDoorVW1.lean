/- Parts. -/
import Derived.WalkSpells
import Derived.WalkLawsBesides
import Derived.Handy
import Derived.Lib.Hide
import Derived.Lib.RuneCount
import Derived.Lib.Strings
import Derived.BigQuiet
import Derived.Deep.RegionWith
import Derived.Deep.DeepCutAuto
import Derived.StillTailTactics
import Derived.Lib.VarintBits
namespace Go.Proofs.YtgbfdcmkbblodaaGreatDoor
open Go.RowKit
set_option linter.unusedVariables false
set_option linter.unusedSimpArgs false
set_option maxRecDepth 100000
set_option maxHeartbeats 16000000
theorem ret_bool {a b:Bool} (h:a=b):Ending.returned (.bool a)= .returned (.bool b):=by rw[h]
theorem ret_int {k:IntKind} {a b:Int} (h:a=b):Ending.returned (.int k a)= .returned (.int k b):=by rw[h]
theorem bytes_inj (a b:ByteArray):a.toList=b.toList↔a=b:=by
 rw[ByteArray.toList_eq,ByteArray.toList_eq];obtain⟨⟨x⟩⟩:=a;obtain⟨⟨y⟩⟩:=b;simp
def letterB (r:Int):Bool:=decide (97<=r/\r<=122\/65<=r/\r<=90\/191<r/\r≠65533)
def laterB (r:Int):Bool:=letterB r||decide (48<=r/\r<=57\/r=45)
theorem encode_size (r:Int):(Utf8.encode r).size<=4:=by
 unfold Utf8.encode;dsimp only
 repeat' split
 all_goals simp[ByteArray.size]
def runesF (s:ByteArray):Nat->Nat->List Int
 |0,_=> []
 |f+1,pos=>if pos<s.size then((Utf8.decode s pos).1:Int)::runesF s f (pos+(Utf8.decode s pos).2)else []
def runesAt (s:ByteArray) (pos:Nat):List Int:=runesF s (s.size-pos) pos
theorem runesF_enough (s:ByteArray): ∀f g pos,s.size-pos<=f->s.size-pos<=g->runesF s f pos=runesF s g pos:=by
 intro f
 induction f with
 |zero=>
  intro g pos h1 h2
  cases g with
  |zero=>rfl
  |succ g=>simp only[runesF];rw[if_neg (by omega)]
 |succ f ih=>
  intro g pos h1 h2;by_cases hp:pos<s.size
  ·cases g with
   |zero=>omega
   |succ g=>
    simp only[runesF];rw[if_pos hp,if_pos hp];have hw:=Lib.decode_width_pos s pos hp;rw[ih g _ (by omega) (by omega)]
  ·cases g with
   |zero=>simp only[runesF];rw[if_neg hp]
   |succ g=>simp only[runesF];rw[if_neg hp,if_neg hp]
theorem runesAt_end (s:ByteArray) (pos:Nat) (h: ¬pos<s.size):runesAt s pos=[]:=by
 unfold runesAt;rw[show s.size-pos=0 by omega];rfl
theorem runesAt_step (s:ByteArray) (pos:Nat) (h:pos<s.size):runesAt s pos=((Utf8.decode s pos).1:Int)::runesAt s (pos+(Utf8.decode s pos).2):=by
 have hw:=Lib.decode_width_pos s pos h;unfold runesAt;obtain⟨f,hf⟩: ∃f,s.size-pos=f+1:=⟨s.size-pos-1,by omega⟩;rw[hf];simp only[runesF];rw[if_pos h];rw[runesF_enough s f (s.size-(pos+(Utf8.decode s pos).2)) _ (by omega) (by omega)]
def runes (s:ByteArray):List Int:=runesAt s 0
theorem runesAt_length (s:ByteArray) (pos:Nat):(runesAt s pos).length<=s.size-pos:=by
 unfold runesAt;generalize s.size-pos=f
 induction f generalizing pos with
 |zero=>simp[runesF]
 |succ f ih=>
  simp only[runesF];split
  ·simp only[List.length_cons];have:=ih (pos+(Utf8.decode s pos).2);omega
  ·simp
theorem runesAt_ascii (s:ByteArray) (ha: ∀b∈s.data.toList,b.toNat<128): ∀n pos,s.size-pos=n->runesAt s pos=(s.data.toList.drop pos).map (fun b=>(b.toNat:Int)):=by
 intro n
 induction n with
 |zero=>
  intro pos h;rw[runesAt_end s pos (by omega),List.drop_of_length_le (by rw[<-Lib.size_eq];omega)];rfl
 |succ n ih=>
  intro pos h;have hp:pos<s.size:=by omega
  have hl:pos<s.data.toList.length:=by rw[<-Lib.size_eq];exact hp
  have hm:(s[pos]'hp)∈s.data.toList:=by
   rw[show(s[pos]'hp)=s.data.toList[pos]from rfl];exact List.getElem_mem hl
  rw[runesAt_step s pos hp,decode_ascii s pos hp (ha _ hm),ih (pos+1) (by omega),List.drop_eq_getElem_cons hl];rfl
theorem runes_ascii (s:ByteArray) (ha: ∀b∈s.data.toList,b.toNat<128):runes s=s.data.toList.map (fun b=>(b.toNat:Int)):=by
 unfold runes;rw[runesAt_ascii s ha _ 0 rfl];rfl
def nameGo:Nat->List Int->Bool
 |n,[]=>decide (0<n/\n<=24)
 |n,r::rs=>if(n=0/\letterB r=false)\/laterB r=false then false else nameGo (n+1) rs
def nameB (s:ByteArray):Bool:=nameGo 0 (runes s)
def Hd (p:Prop):Prop:=p
theorem Hd.o {p:Prop} (h:Hd p):p:=h
theorem Lh {p:Prop} (h:p):Hd p:=h
abbrev CB (P:Program) (f:FuncId) (as':Array Value) (w:World) (v:Value):Prop:=Calls P f as' w fun e w'=>e= .returned v/\Below w.heap.size w w'
theorem br0 {B:Nat} {w:World}:Below B w w:=Below.refl B w
theorem la0 {α:Type _} {a b:List α}:(a++b).length=a.length+b.length:=List.length_append
theorem vs0 {a a':Option Addr} {n n' c c':Nat}:(Value.slice a n c=Value.slice a' n' c')=(a=a'/\n=n'/\c=c'):=Value.slice.injEq a n c a' n' c'
theorem le0 {n:Nat}:n<=n:=Nat.le_refl n
theorem ze0 {n:Nat}:0<=n:=Nat.zero_le n
theorem le1 {n m k:Nat} (h:n<=m) (h':m<=k):n<=k:=Nat.le_trans h h'
theorem lt1 {n m k:Nat} (h:n<m) (h':m<=k):n<k:=Nat.lt_of_lt_of_le h h'
theorem bq0 {α:Type _} [BEq α] [LawfulBEq α] {a b:α}:(a==b)=false↔a≠b:=beq_eq_false_iff_ne
theorem df0 {p:Prop} [Decidable p] (h: ¬p):decide p=false:=decide_eq_false h
theorem dt0 {p:Prop} [Decidable p] (h:p):decide p=true:=decide_eq_true h
def zig (n:Int):Nat:=if 0<=n then(2*n).toNat else(-2*n-1).toNat
def unzig (u:Nat):Int:=if u%2=0 then((u/2:Nat):Int)else-((u/2:Nat):Int) -1
theorem unzig_zig (n:Int):unzig (zig n)=n:=by
 unfold zig unzig;by_cases h:0<=n
 ·rw[if_pos h,if_pos (by omega)];omega
 ·rw[if_neg h,if_neg (by omega)];omega
theorem zig_unzig (u:Nat):zig (unzig u)=u:=by
 unfold zig unzig;by_cases h:u%2=0
 ·rw[if_pos h,if_pos (by omega)];omega
 ·rw[if_neg h,if_neg (by omega)];omega
theorem zig_lt (n:Int) (h1: -9223372036854775808<=n) (h2:n<=9223372036854775807):zig n<18446744073709551616:=by
 unfold zig;split<;>omega
theorem unzig_ir (u:Nat) (h:u<18446744073709551616): -9223372036854775808<=unzig u/\unzig u<=9223372036854775807:=by
 unfold unzig;split<;>omega
def vby (u:Nat):List UInt8:=if h:u<128 then [UInt8.ofNat u]else UInt8.ofNat (u%128+128)::vby (u/128)
termination_by u
decreasing_by omega
theorem vby_lt {u:Nat} (h:u<128):vby u=[UInt8.ofNat u]:=by rw[vby,dif_pos h]
theorem vby_ge {u:Nat} (h: ¬u<128):vby u=UInt8.ofNat (u%128+128)::vby (u/128):=by rw[vby,dif_neg h]
def putN (n:Int):List UInt8:=vby (zig n)
def putL (l:List Int):List UInt8:=l.flatMap putN
theorem vby_len: ∀(k u:Nat),u<128^(k+1)->(vby u).length<=k+1
 |0,u,h=>by rw[vby_lt (by simpa using h)];simp
 |k+1,u,h=>by
  by_cases hu:u<128
  ·rw[vby_lt hu];simp
  ·rw[vby_ge hu,List.length_cons]
   have:u/128<128^(k+1):=by
    rw[Nat.pow_succ]at h;exact Nat.div_lt_of_lt_mul (by rw[Nat.mul_comm];exact h)
   have:=vby_len k _ this;omega
theorem putN_len (n:Int) (h1: -9223372036854775808<=n) (h2:n<=9223372036854775807):(putN n).length<=10:=by
 have h:=zig_lt n h1 h2;exact vby_len 9 _ (by omega)
def tkGo:Nat->Nat->List UInt8->Int×Int×Int
 |_,_,[]=>(0,0,20)
 |i,u,c::cs=>
  if i=9/\1<c.toNat then(0,0,21)
  else if 128<=c.toNat then tkGo (i+1) (u+c.toNat%128*2^(7*i)) cs
  else if c.toNat=0/\0<i then(0,0,21)
  else(unzig (u+c.toNat%128*2^(7*i)),((i+1:Nat):Int),0)
def takeS (s:ByteArray):Int×Int×Int:=tkGo 0 0 s.data.toList
theorem tkGo_vby: ∀(d u i a:Nat) (rest:List UInt8),i+d=9->u<2^(64-7*i)->(0<i->0<u)->tkGo i a (vby u++rest)=(unzig (a+u*2^(7*i)),((i+(vby u).length:Nat):Int),0)
 |d,u,i,a,rest,hd,hu,h0=>by
  by_cases h:u<128
  ·have hc:(UInt8.ofNat u).toNat=u:=by simp;omega
   rw[vby_lt h,List.singleton_append]
   simp only[tkGo,hc]
   rw[if_neg (by
    rintro ⟨rfl,h1⟩
    have:u<2^1:=by simpa using hu
    omega),if_neg (by omega),if_neg (by omega),Nat.mod_eq_of_lt h]
   simp
  ·have hc:(UInt8.ofNat (u%128+128)).toNat=u%128+128:=by simp;omega
   have hi:i≠9:=by
    rintro rfl;have:u<2^1:=by simpa using hu
    omega
   rw[vby_ge h,List.cons_append];simp only[tkGo,hc];rw[if_neg (by omega),if_pos (by omega)];obtain⟨d',rfl⟩: ∃d',d=d'+1:=⟨d-1,by omega⟩;have hu':u/128<2^(64-7*(i+1)):=by
    have e:64-7*i=(64-7*(i+1))+7:=by omega
    rw[e,Nat.pow_add]at hu;exact Nat.div_lt_of_lt_mul (by rw[Nat.mul_comm];exact hu)
   rw[tkGo_vby d' (u/128) (i+1) _ rest (by omega) hu' (fun _=>by omega)];have e1:(u%128+128)%128=u%128:=by omega
   have e2:2^(7*(i+1))=128*2^(7*i):=by
    rw[show 7*(i+1)=7+7*i by omega,Nat.pow_add]
   rw[e1,e2];have e3:a+u%128*2^(7*i)+u/128*(128*2^(7*i))=a+u*2^(7*i):=by
    rw[Nat.add_assoc,<-Nat.mul_assoc,<-Nat.add_mul]
    congr 2
    omega
   rw[e3];simp only[Prod.mk.injEq,List.length_cons,and_true,true_and];omega
termination_by d u=>u
decreasing_by omega
theorem take_put (n:Int) (h1: -9223372036854775808<=n) (h2:n<=9223372036854775807) (rest:List UInt8):tkGo 0 0 (putN n++rest)=(n,((putN n).length:Int),0):=by
 unfold putN;have h:=zig_lt n h1 h2;rw[tkGo_vby 9 _ 0 0 rest rfl (by omega) (fun h=>by omega)];simp[unzig_zig]
theorem tkGo_back: ∀(cs:List UInt8) (i a:Nat) (n sz:Int),i<=9->tkGo i a cs=(n,sz,0)-> ∃(u k:Nat),n=unzig (a+u*2^(7*i))/\sz=((i+k:Nat):Int)/\k<=cs.length/\0<k/\cs.take k=vby u/\(0<i->0<u)/\u<2^(64-7*i)
 | [],i,a,n,sz,_,h=>by simp[tkGo]at h
 |c::cs,i,a,n,sz,hi,h=>by
  have hc8:c.toNat<256:=c.toNat_lt
  simp only[tkGo]at h
  by_cases h1:i=9/\1<c.toNat
  ·rw[if_pos h1]at h;simp at h
  ·rw[if_neg h1]at h
   by_cases h2:128<=c.toNat
   ·rw[if_pos h2]at h
    have hi9:i≠9:=fun e=>h1 ⟨e,by omega⟩
    obtain⟨u,k,e1,e2,e3,e0,e4,e5,e6⟩:=tkGo_back cs (i+1) _ n sz (by omega) h
    have hu0:=e5 (by omega)
    have g1:sz=((i+(k+1):Nat):Int):=by rw[e2];congr 1;omega
    have g2:k+1<=(c::cs).length:=by rw[List.length_cons];omega
    refine⟨c.toNat%128+128*u,k+1,?_,g1,g2,by omega,?_,fun _=>by omega,?_⟩
    ·rw[e1]
     congr 1
     rw[show 7*(i+1)=7+7*i by omega,Nat.pow_add,Nat.add_mul,Nat.add_assoc]
     congr 2
     rw[show(2:Nat)^7=128 from rfl,<-Nat.mul_assoc,Nat.mul_comm u 128]
    ·have q0: ¬c.toNat%128+128*u<128:=by omega
     rw[List.take_succ_cons,e4,vby_ge q0]
     have q1:(c.toNat%128+128*u)%128+128=c.toNat:=by omega
     have q2:(c.toNat%128+128*u)/128=u:=by omega
     rw[q1,q2]
     simp
    ·have e:64-7*i=(64-7*(i+1))+7:=by omega
     rw[e,Nat.pow_add]
     have:u+1<=2^(64-7*(i+1)):=e6
     have h7:(2:Nat)^7=128:=rfl
     rw[h7]
     have:=Nat.mul_le_mul_right 128 this
     omega
   ·rw[if_neg h2]at h
    by_cases h3:c.toNat=0/\0<i
    ·rw[if_pos h3]at h;simp at h
    ·rw[if_neg h3]at h
     simp only[Prod.mk.injEq,and_true]at h
     have hm:c.toNat%128=c.toNat:=Nat.mod_eq_of_lt (by omega)
     rw[hm]at h
     refine⟨c.toNat,1,h.1.symm,h.2.symm,by simp,by omega,?_,fun hi0=>by omega,?_⟩
     ·rw[vby_lt (by omega)]
      simp
     ·by_cases hi9:i=9
      ·subst hi9
       have:c.toNat<2^1:=by omega
       simpa using this
      ·have:2^7<=2^(64-7*i):=Nat.pow_le_pow_right (by omega) (by omega)
       have h7:(2:Nat)^7=128:=rfl
       omega
theorem take_back {cs:List UInt8} {n sz:Int} (h:tkGo 0 0 cs=(n,sz,0)): ∃k:Nat,sz=(k:Int)/\k<=cs.length/\0<k/\cs.take k=putN n/\ -9223372036854775808<=n/\n<=9223372036854775807:=by
 obtain⟨u,k,e1,e2,e3,e0,e4,_,e6⟩:=tkGo_back cs 0 0 n sz (by omega) h;have en:n=unzig u:=by simpa using e1
 have hr:=unzig_ir u (by simpa using e6);refine⟨k,by simpa using e2,e3,e0,?_,by rw[en];exact hr⟩;unfold putN;rw[e4,en,zig_unzig]
theorem tkGo_err: ∀(cs:List UInt8) (i a:Nat),(tkGo i a cs).2.2≠0->(tkGo i a cs).1=0/\(tkGo i a cs).2.1=0
 | [],i,a,_=>⟨rfl,rfl⟩
 |c::cs,i,a,h=>by
  simp only[tkGo]at h⊢
  split
  ·exact⟨rfl,rfl⟩
  ·rename_i h1
   rw[if_neg h1]at h
   split
   ·rename_i h2
    rw[if_pos h2]at h
    exact tkGo_err cs _ _ h
   ·rename_i h2
    rw[if_neg h2]at h
    split
    ·exact⟨rfl,rfl⟩
    ·rename_i h3
     rw[if_neg h3]at h
     exact absurd rfl h
theorem or7 (i:Nat) (hi:i<=9) (a c:Nat) (ha:a<2^(7*i)) (hc:c*2^(7*i)<18446744073709551616):bits .or .u64 (a:Int) ((c*2^(7*i):Nat):Int)=((a+c*2^(7*i):Nat):Int):=by
 have hm: ∀P:Nat,((c*P:Nat):Int)%(P:Int)=0:=fun P=>by
  rw[Int.natCast_mul];exact Int.mul_emod_left _ _
 rw[Int.natCast_add];have hcs:i=0\/i=1\/i=2\/i=3\/i=4\/i=5\/i=6\/i=7\/i=8\/i=9:=by omega
 rcases hcs with rfl|rfl|rfl|rfl|rfl|rfl|rfl|rfl|rfl|rfl
 ·exact u64_orv0 _ _ (by omega) (by simp at ha;omega) (by omega) (Int.emod_one _) (by omega)
 ·exact u64_orv7 _ _ (by omega) (by omega) (by omega) (hm 128) (by omega)
 ·exact u64_orv14 _ _ (by omega) (by omega) (by omega) (hm 16384) (by omega)
 ·exact u64_orv21 _ _ (by omega) (by omega) (by omega) (hm 2097152) (by omega)
 ·exact u64_orv28 _ _ (by omega) (by omega) (by omega) (hm 268435456) (by omega)
 ·exact u64_orv35 _ _ (by omega) (by omega) (by omega) (hm 34359738368) (by omega)
 ·exact u64_orv42 _ _ (by omega) (by omega) (by omega) (hm 4398046511104) (by omega)
 ·exact u64_orv49 _ _ (by omega) (by omega) (by omega) (hm 562949953421312) (by omega)
 ·exact u64_orv56 _ _ (by omega) (by omega) (by omega) (hm 72057594037927936) (by omega)
 ·exact u64_orv63 _ _ (by omega) (by omega) (by omega) (hm 9223372036854775808) (by omega)
def bstr (l:List UInt8):ByteArray:=⟨l.toArray⟩
theorem bstr_app (l m:List UInt8):bstr l++bstr m=bstr (l++m):=by
 apply ByteArray.ext;rw[ByteArray.data_append];unfold bstr;simp
theorem bstr_size (l:List UInt8):(bstr l).size=l.length:=by show l.toArray.size=_;simp
theorem bstr_list (l:List UInt8):(bstr l).data.toList=l:=by simp[bstr]
theorem bstr_of (s:ByteArray):bstr s.data.toList=s:=by apply ByteArray.ext;simp[bstr]
theorem cut_list (s:ByteArray) (k:Nat):(s.extract k s.size).data.toList=s.data.toList.drop k:=by
 have h:s.size=s.data.toList.length:=by rw[Lib.size_eq]
 rw[ByteArray.data_extract,Array.toList_extract];show(s.data.toList.drop k).take (s.size-k)=_;rw[List.take_of_length_le (by rw[List.length_drop];omega)]
theorem cut_bstr (l:List UInt8) (k:Nat):(bstr l).extract k (bstr l).size=bstr (l.drop k):=by
 rw[<-bstr_of ((bstr l).extract k (bstr l).size),cut_list,bstr_list]
theorem takeS_bstr (l:List UInt8):takeS (bstr l)=tkGo 0 0 l:=by unfold takeS;rw[bstr_list]
theorem tkGo_short: ∀(k d u i a:Nat),i+d=9->u<2^(64-7*i)->k<(vby u).length->tkGo i a ((vby u).take k)=(0,0,20)
 |0,d,u,i,a,_,_,_=>by simp[tkGo]
 |k+1,d,u,i,a,hd,hu,hk=>by
  have h: ¬u<128:=fun h=>by rw[vby_lt h]at hk;simp at hk
  have hc:(UInt8.ofNat (u%128+128)).toNat=u%128+128:=by simp;omega
  have hi:i≠9:=by
   rintro rfl;have:u<2^1:=by simpa using hu
   omega
  rw[vby_ge h]at hk⊢;rw[List.take_succ_cons];simp only[tkGo,hc];rw[if_neg (by omega),if_pos (by omega)];obtain⟨d',rfl⟩: ∃d',d=d'+1:=⟨d-1,by omega⟩;have hu':u/128<2^(64-7*(i+1)):=by
   have e:64-7*i=(64-7*(i+1))+7:=by omega
   rw[e,Nat.pow_add]at hu;exact Nat.div_lt_of_lt_mul (by rw[Nat.mul_comm];exact hu)
  exact tkGo_short k d' (u/128) (i+1) _ (by omega) hu' (by simpa using hk)
theorem take_short (n:Int) (h1: -9223372036854775808<=n) (h2:n<=9223372036854775807) (k:Nat) (hk:k<(putN n).length):tkGo 0 0 ((putN n).take k)=(0,0,20):=by
 have h:=zig_lt n h1 h2;exact tkGo_short k 9 _ 0 0 rfl (by omega) hk
theorem extract_list (s:ByteArray) (a n:Nat):(s.extract a (a+n)).data.toList=(s.data.toList.drop a).take n:=by
 rw[ByteArray.data_extract,Array.toList_extract];simp[List.extract]
def txtL (u:ByteArray):List UInt8:=putN (u.size:Int)++u.data.toList
def takeT (s:ByteArray):ByteArray×Int×Int:=
 if(takeS s).2.2≠0 then(.empty,0,(takeS s).2.2)
 else if(takeS s).1<0 then(.empty,0,21)
 else if 65536<(takeS s).1 then(.empty,0,3)
 else if(s.size:Int)<(takeS s).2.1+(takeS s).1 then(.empty,0,20)
 else(s.extract (takeS s).2.1.toNat ((takeS s).2.1.toNat+(takeS s).1.toNat),(takeS s).2.1+(takeS s).1,0)
theorem takeT_put (u:ByteArray) (hu:u.size<=65536) (rest:List UInt8):takeT (bstr (txtL u++rest))=(u,((txtL u).length:Int),0):=by
 have hl:=Lib.size_eq u;have e:takeS (bstr (txtL u++rest))=((u.size:Int),((putN (u.size:Int)).length:Int),0):=by
  rw[takeS_bstr];unfold txtL;rw[List.append_assoc];exact take_put _ (by omega) (by omega) _
 have hz:(bstr (txtL u++rest)).size=(putN (u.size:Int)).length+u.size+rest.length:=by
  rw[bstr_size];unfold txtL;simp only[la0];omega
 have hq:(txtL u).length=(putN (u.size:Int)).length+u.size:=by unfold txtL;rw[la0,hl]
 unfold takeT;rw[e];dsimp only;rw[if_neg (by simp),if_neg (by omega),if_neg (by omega),if_neg (by omega)];refine Prod.ext ?_ (Prod.ext ?_ rfl)
 ·dsimp only;rw[<-bstr_of (ByteArray.extract _ _ _),Int.toNat_natCast,Int.toNat_natCast,extract_list,bstr_list];unfold txtL;rw[List.append_assoc,List.drop_left,List.take_left' hl.symm,bstr_of]
 ·dsimp only;omega
theorem takeT_back (s:ByteArray) (h:(takeT s).2.2=0):(takeT s).1.size<=65536/\(takeT s).2.1=((txtL (takeT s).1).length:Int)/\ ∃rest,s.data.toList=txtL (takeT s).1++rest:=by
 unfold takeT at h⊢;by_cases e0:(takeS s).2.2=0
 ·rw[if_neg (by simpa using e0)]at h⊢;by_cases e1:(takeS s).1<0
  ·rw[if_pos e1]at h;exact absurd h (by decide)
  rw[if_neg e1]at h⊢;by_cases e2:65536<(takeS s).1
  ·rw[if_pos e2]at h;exact absurd h (by decide)
  rw[if_neg e2]at h⊢;by_cases e3:(s.size:Int)<(takeS s).2.1+(takeS s).1
  ·rw[if_pos e3]at h;exact absurd h (by decide)
  rw[if_neg e3];dsimp only;have e:tkGo 0 0 s.data.toList=((takeS s).1,(takeS s).2.1,0):=by rw[<-e0];rfl
  obtain⟨k,h1,h2,_,h4,h5,h6⟩:=take_back e;obtain⟨n,hn⟩: ∃n:Nat,(takeS s).1=(n:Int):=⟨(takeS s).1.toNat,by omega⟩;rw[hn]at h4;rw[h1,hn]at e3⊢;have hl:=Lib.size_eq s;have hz:(s.extract k (k+n)).size=n:=by rw[ByteArray.size_extract];omega
  have hk:(putN (n:Int)).length=k:=by rw[<-h4,List.length_take];omega
  refine⟨?_,?_,s.data.toList.drop (k+n),?_⟩
  ·rw[Int.toNat_natCast,Int.toNat_natCast,hz];omega
  ·unfold txtL;rw[Int.toNat_natCast,Int.toNat_natCast,hz,la0,hk,<-Lib.size_eq,hz];omega
  ·unfold txtL;rw[Int.toNat_natCast,Int.toNat_natCast,hz,extract_list,<-h4,List.append_assoc,<-List.drop_drop,List.take_append_drop,List.take_append_drop]
 ·rw[if_pos e0]at h;exact absurd h e0
theorem takeT_le (s:ByteArray): ∃k:Nat,(takeT s).2.1=(k:Int)/\k<=s.size:=by
 by_cases h:(takeT s).2.2=0
 ·obtain⟨_,h1,r,h2⟩:=takeT_back s h;refine⟨_,h1,?_⟩;rw[Lib.size_eq,h2,la0];omega
 ·refine⟨0,?_,ze0⟩;unfold takeT at h⊢;split
  ·rfl
  ·rename_i h0;rw[if_neg h0]at h
   repeat' split
   ·rfl
   ·rfl
   ·rfl
   ·rename_i h1 h2 h3;rw[if_neg h1,if_neg h2,if_neg h3]at h;exact absurd rfl h
theorem takeT_err (s:ByteArray) (h:(takeT s).2.2≠0):(takeT s).1= .empty/\(takeT s).2.1=0:=by
 unfold takeT at h⊢;split
 ·exact⟨rfl,rfl⟩
 ·rename_i h0;rw[if_neg h0]at h
  repeat' split
  ·exact⟨rfl,rfl⟩
  ·exact⟨rfl,rfl⟩
  ·exact⟨rfl,rfl⟩
  ·rename_i h1 h2 h3;rw[if_neg h1,if_neg h2,if_neg h3]at h;exact absurd rfl h
structure Trow where
 key:Int
 acc:Int
 l:List Int
def grp (k:Int):Int:=k%8
def bef (a b:Int):Int:=if grp a<grp b then-1 else if grp b<grp a then 1 else if a<b then-1 else if b<a then 1 else 0
theorem bef_trans {a b c:Int} (h1:bef a b<0) (h2:bef b c<0):bef a c<0:=by
 unfold bef at h1 h2⊢
 repeat' split at h1
 all_goals repeat' split at h2
 all_goals repeat' split
 all_goals omega
theorem bef_ne {a b:Int} (h:bef a b<0):a≠b:=by
 rintro rfl;unfold bef at h
 repeat' split at h
 all_goals omega
structure Tb where
 s:ByteArray
 e:Int
namespace Tb
def num (least most:Int) (p:Tb):Int×Tb:=
 if p.e≠0 then(least,p)else
 if(takeS p.s).2.2≠0 then(least,⟨p.s,(takeS p.s).2.2⟩)else
 if(takeS p.s).1<least\/most<(takeS p.s).1 then(least,⟨p.s.extract (takeS p.s).2.1.toNat p.s.size,21⟩)else
 ((takeS p.s).1,⟨p.s.extract (takeS p.s).2.1.toNat p.s.size,0⟩)
def any (p:Tb):Int×Tb:=p.num (-9223372036854775808) 9223372036854775807
def nums:Nat->Tb->List Int×Tb
 |0,p=>([],p)
 |n+1,p=>(p.any.1::(nums n p.any.2).1,(nums n p.any.2).2)
def row (p:Tb):Trow×Tb:=
 let k:=p.any
 let a:=k.2.any
 let n:=a.2.num 0 16
 let q:=nums n.1.toNat n.2
 (⟨k.1,a.1,q.1⟩,q.2)
end Tb
def cntG (rs:List Trow) (g:Int):Nat:=(rs.filter fun r=>grp r.key==g).length
def lastK:List Trow->Int
 | []=>0
 | [r]=>r.key
 |_::r::l=>lastK (r::l)
theorem lastK_snoc: ∀(l:List Trow) (r:Trow),lastK (l++ [r])=r.key
 | [],r=>rfl
 | [_],r=>rfl
 |_::y::l,r=>lastK_snoc (y::l) r
def rowBad (rs:List Trow) (k:Int):Prop:=(rs≠ []/\0<=bef (lastK rs) k)\/40<=cntG rs (grp k)
instance (rs:List Trow) (k:Int):Decidable (rowBad rs k):=by unfold rowBad;infer_instance
namespace Tb
def rows:Nat->List Trow->Tb->List Trow×Tb
 |0,rs,p=>(rs,p)
 |n+1,rs,p=>
  if p.row.2.e≠0 then([],p.row.2)else
  if rowBad rs p.row.1.key then([],⟨p.row.2.s,21⟩)else rows n (rs++ [p.row.1]) p.row.2
theorem num_err {least most:Int} {p:Tb} (h:p.e≠0):p.num least most=(least,p):=by unfold num;rw[if_pos h]
theorem nums_err: ∀(n:Nat) {p:Tb},p.e≠0->(nums n p).2=p
 |0,p,_=>rfl
 |n+1,p,h=>by
  have:p.any=(-9223372036854775808,p):=num_err h
  unfold nums
  rw[this]
  exact nums_err n h
end Tb
def takeTb (s:ByteArray):List Trow×Int:=
 let n:=(Tb.mk s 0).num 0 320
 let q:=Tb.rows n.1.toNat [] n.2
 if q.2.e≠0 then([],q.2.e)else if q.2.s.size≠0 then([],21)else(q.1,0)
def Rise (rs:List Trow):Prop:=rs.Pairwise fun a b=>bef a.key b.key<0
theorem rise_last: ∀ {rs:List Trow},Rise rs-> ∀r∈rs,bef r.key (lastK rs)<0\/r.key=lastK rs
 | [],_,r,hr=>absurd hr (by simp)
 | [x],_,r,hr=> .inr (by rw[List.mem_singleton.1 hr];rfl)
 |x::y::l,h,r,hr=>by
  obtain⟨h1,h2⟩:=List.pairwise_cons.1 h
  show bef r.key (lastK (y::l))<0\/r.key=lastK (y::l)
  rcases List.mem_cons.1 hr with rfl|hr
  ·rcases rise_last h2 y (by simp)with e|e
   ·exact .inl (bef_trans (h1 y (by simp)) e)
   ·exact .inl (e▸h1 y (by simp))
  ·exact rise_last h2 r hr
theorem rise_snoc {rs:List Trow} {r:Trow} (h:Rise rs) (hb: ¬rowBad rs r.key):Rise (rs++ [r]):=by
 refine List.pairwise_append.2 ⟨h,List.pairwise_singleton _ _,fun a ha b hb2=>?_⟩;rw[List.mem_singleton.1 hb2];have hne:rs≠ []:=by rintro rfl;simp at ha
 have hl:bef (lastK rs) r.key<0:=by
  have: ¬0<=bef (lastK rs) r.key:=fun e=>hb (.inl ⟨hne,e⟩);omega
 rcases rise_last h a ha with e|e
 ·exact bef_trans e hl
 ·rw[e];exact hl
def rowFits (kind n:Int) (r:Trow):Bool:=!(kind==6&&decide (0<r.l.length))&&!(kind==7&&(r.acc !=0||(decide (r.l.length<1)||decide (n<=(r.l.length:Int)))))
def statefulB (kind:Int):Bool:=kind==6||kind==7
def fitsB (kind n:Int) (rs:List Trow):Bool:=statefulB kind&&rs.all (rowFits kind n)
theorem alloc_old (w:World) (o:Obj) (k:Nat) (h:k<w.heap.size):(w.alloc o).heap[k]? =w.heap[k]? :=Below.heap_alloc w o k h
structure Fr (S:Nat->Prop) (w w':World):Prop where
 os:w'.os=w.os
 tape:w'.tape=w.tape
 output:w'.output=w.output
 size:w.heap.size<=w'.heap.size
 block: ∀k,k<w.heap.size-> ¬S k->w'.heap[k]? =w.heap[k]?
namespace Fr
variable {S:Nat->Prop} {a b c w:World}
theorem refl (S:Nat->Prop) (w:World):Fr S w w:=⟨rfl,rfl,rfl,le0,fun _ _ _=>rfl⟩
theorem trans (h:Fr S a b) (k:Fr S b c):Fr S a c:=
 ⟨k.os.trans h.os,k.tape.trans h.tape,k.output.trans h.output,le1 h.size k.size,fun i hi hs=>(k.block i (lt1 hi h.size) hs).trans (h.block i hi hs)⟩
theorem mono {T:Nat->Prop} (h:Fr S a b) (hST: ∀k,k<a.heap.size->S k->T k):Fr T a b:=
 ⟨h.os,h.tape,h.output,h.size,fun k hk hs=>h.block k hk (fun hS=>hs (hST k hk hS))⟩
theorem step {T U:Nat->Prop} (h:Fr S a b) (k:Fr T b c) (h1: ∀i,i<a.heap.size->S i->U i) (h2: ∀i,i<a.heap.size->T i->U i):Fr U a c:=
 ⟨k.os.trans h.os,k.tape.trans h.tape,k.output.trans h.output,le1 h.size k.size,
  fun i hi hs=>(k.block i (lt1 hi h.size) (fun hT=>hs (h2 i hi hT))).trans (h.block i hi (fun hS=>hs (h1 i hi hS)))⟩
theorem drew (h:Fr S a w):Fr S a w.drew:=⟨h.os,h.tape,h.output,h.size,h.block⟩
theorem drewN (h:Fr S a w) (n:Nat):Fr S a (w.drewN n):=⟨h.os,h.tape,h.output,h.size,h.block⟩
theorem alloc (h:Fr S a w) (o:Obj):Fr S a (w.alloc o):=
 h.trans ⟨rfl,rfl,rfl,by simp,fun k hk _=>alloc_old w o k hk⟩
theorem setCell (h:Fr S a w) {p:Addr} (hp:S p.block\/a.heap.size<=p.block) (u:Value):Fr S a (w.setCell p u):=
 ⟨h.os,h.tape,h.output,by simpa[World.setCell]using h.size,fun k hk hs=>
  (heap_setCell_other w p k u (fun e=>by subst e;rcases hp with hp|hp;exact hs hp;omega)).trans (h.block k hk hs)⟩
theorem grown {row:Option Nat} (h:Fr S a w) (hg:w.grownBy b row) (hr: ∀k,row=some k->S k\/a.heap.size<=k):Fr S a b:=
 ⟨hg.os.trans h.os,hg.tape.trans h.tape,hg.output.trans h.output,le1 h.size hg.size,fun k hk hs=>
  (hg.block k (lt1 hk h.size) (fun e=>by rcases hr k e.symm with h1|h1;exact hs h1;omega)).trans (h.block k hk hs)⟩
theorem of_new (h:Below a.heap.size a b):Fr S a b:=
 ⟨h.os,h.tape,h.output,h.size,fun k hk _=>h.block k hk⟩
theorem below {B:Nat} (h:Fr S a b) (hB:B<=a.heap.size) (hS: ∀k,k<B-> ¬S k):Below B a b:=
 ⟨h.os,h.tape,h.output,h.size,fun k hk=>h.block k (by omega) (hS k hk)⟩
theorem heap_at (h:Fr S a b) {k:Nat} {o:Obj} (hk:a.heap[k]? =some o) (hs: ¬S k):b.heap[k]? =some o:=
 (h.block k (Array.getElem?_eq_some_iff.1 hk).1 hs).trans hk
end Fr
theorem heap_new_at (w:World) (o:Obj) {k:Nat} (hk:k=w.heap.size):(w.alloc o).heap[k]? =some o:=by subst hk;exact heap_alloc_new w _
def Blk (w:World) (b:Nat) (t:TypeId) (cs:Array Value):Prop:=w.heap[b]? =some (.cells cs t (0,0))
namespace Blk
variable {w w':World} {b:Nat} {t:TypeId} {cs:Array Value}
theorem cell (h:Blk w b t cs) (j:Nat):w.cell? ⟨b,j,none⟩=cs[j]? :=cell_of_row w b j cs t (0,0) h
theorem free (h:Blk w b t cs) (j:Nat):w.frozen? ⟨b,j,none⟩=false:=frozen_of_row w b j cs t h
theorem lt (h:Blk w b t cs):b<w.heap.size:=(Array.getElem?_eq_some_iff.1 h).1
theorem fr {S:Nat->Prop} (h:Blk w b t cs) (hf:Fr S w w') (hs: ¬S b):Blk w' b t cs:=hf.heap_at h hs
theorem below {B:Nat} (h:Blk w b t cs) (hf:Below B w w') (hb:b<B):Blk w' b t cs:=(hf.block b hb).trans h
theorem set (h:Blk w b t cs) (j:Nat) (u:Value):Blk (w.setCell ⟨b,j,none⟩ u) b t (cs.setIfInBounds j u):=heap_setCell_same w b j cs t u h
theorem other (h:Blk w b t cs) {p:Addr} (hp:b≠p.block) (u:Value):Blk (w.setCell p u) b t cs:=(heap_setCell_other w p b u hp).trans h
theorem alloc (h:Blk w b t cs) (o:Obj):Blk (w.alloc o) b t cs:=(alloc_old w o b h.lt).trans h
theorem drew (h:Blk w b t cs):Blk w.drew b t cs:=h
theorem new (w:World) (cs:Array Value) (t:TypeId):Blk (w.alloc (.cells cs t)) w.heap.size t cs:=heap_alloc_new w _
theorem new_at (w:World) (cs:Array Value) (t:TypeId) {k:Nat} (hk:k=w.heap.size):Blk (w.alloc (.cells cs t)) k t cs:=by subst hk;exact heap_alloc_new w _
theorem iterAt (h:Blk w b t cs) {k:Nat} (hk:b≠k) (s:ByteArray) (pos:Nat):Blk (w.iterAt k s pos) b t cs:=(Lib.iterAt_other w k b s pos hk).trans h
theorem grown {row:Option Nat} (h:Blk w b t cs) (hg:w.grownBy w' row) (hr:some b≠row):Blk w' b t cs:=(hg.block b h.lt hr).trans h
theorem q3 (h:Blk w b t cs):w.cell? ⟨b,0,none⟩=cs[0]? /\w.cell? ⟨b,1,none⟩=cs[1]? /\w.cell? ⟨b,2,none⟩=cs[2]? :=⟨h.cell 0,h.cell 1,h.cell 2⟩
theorem u3 (h:Blk w b t cs):w.frozen? ⟨b,0,none⟩=false/\w.frozen? ⟨b,1,none⟩=false/\w.frozen? ⟨b,2,none⟩=false:=⟨h.free 0,h.free 1,h.free 2⟩
theorem q4 (h:Blk w b t cs):w.cell? ⟨b,0,none⟩=cs[0]? /\w.cell? ⟨b,1,none⟩=cs[1]? /\w.cell? ⟨b,2,none⟩=cs[2]? /\w.cell? ⟨b,3,none⟩=cs[3]? :=⟨h.cell 0,h.cell 1,h.cell 2,h.cell 3⟩
theorem u4 (h:Blk w b t cs):w.frozen? ⟨b,0,none⟩=false/\w.frozen? ⟨b,1,none⟩=false/\w.frozen? ⟨b,2,none⟩=false/\w.frozen? ⟨b,3,none⟩=false:=⟨h.free 0,h.free 1,h.free 2,h.free 3⟩
theorem q5 (h:Blk w b t cs):w.cell? ⟨b,0,none⟩=cs[0]? /\w.cell? ⟨b,1,none⟩=cs[1]? /\w.cell? ⟨b,2,none⟩=cs[2]? /\w.cell? ⟨b,3,none⟩=cs[3]? /\w.cell? ⟨b,4,none⟩=cs[4]? :=⟨h.cell 0,h.cell 1,h.cell 2,h.cell 3,h.cell 4⟩
theorem u5 (h:Blk w b t cs):w.frozen? ⟨b,0,none⟩=false/\w.frozen? ⟨b,1,none⟩=false/\w.frozen? ⟨b,2,none⟩=false/\w.frozen? ⟨b,3,none⟩=false/\w.frozen? ⟨b,4,none⟩=false:=⟨h.free 0,h.free 1,h.free 2,h.free 3,h.free 4⟩
theorem q6 (h:Blk w b t cs):w.cell? ⟨b,0,none⟩=cs[0]? /\w.cell? ⟨b,1,none⟩=cs[1]? /\w.cell? ⟨b,2,none⟩=cs[2]? /\w.cell? ⟨b,3,none⟩=cs[3]? /\w.cell? ⟨b,4,none⟩=cs[4]? /\w.cell? ⟨b,5,none⟩=cs[5]? :=⟨h.cell 0,h.cell 1,h.cell 2,h.cell 3,h.cell 4,h.cell 5⟩
theorem u6 (h:Blk w b t cs):w.frozen? ⟨b,0,none⟩=false/\w.frozen? ⟨b,1,none⟩=false/\w.frozen? ⟨b,2,none⟩=false/\w.frozen? ⟨b,3,none⟩=false/\w.frozen? ⟨b,4,none⟩=false/\w.frozen? ⟨b,5,none⟩=false:=⟨h.free 0,h.free 1,h.free 2,h.free 3,h.free 4,h.free 5⟩
theorem q7 (h:Blk w b t cs):w.cell? ⟨b,0,none⟩=cs[0]? /\w.cell? ⟨b,1,none⟩=cs[1]? /\w.cell? ⟨b,2,none⟩=cs[2]? /\w.cell? ⟨b,3,none⟩=cs[3]? /\w.cell? ⟨b,4,none⟩=cs[4]? /\w.cell? ⟨b,5,none⟩=cs[5]? /\w.cell? ⟨b,6,none⟩=cs[6]? :=⟨h.cell 0,h.cell 1,h.cell 2,h.cell 3,h.cell 4,h.cell 5,h.cell 6⟩
theorem u7 (h:Blk w b t cs):w.frozen? ⟨b,0,none⟩=false/\w.frozen? ⟨b,1,none⟩=false/\w.frozen? ⟨b,2,none⟩=false/\w.frozen? ⟨b,3,none⟩=false/\w.frozen? ⟨b,4,none⟩=false/\w.frozen? ⟨b,5,none⟩=false/\w.frozen? ⟨b,6,none⟩=false:=⟨h.free 0,h.free 1,h.free 2,h.free 3,h.free 4,h.free 5,h.free 6⟩
theorem u8 (h:Blk w b t cs):w.frozen? ⟨b,0,none⟩=false/\w.frozen? ⟨b,1,none⟩=false/\w.frozen? ⟨b,2,none⟩=false/\w.frozen? ⟨b,3,none⟩=false/\w.frozen? ⟨b,4,none⟩=false/\w.frozen? ⟨b,5,none⟩=false/\w.frozen? ⟨b,6,none⟩=false/\w.frozen? ⟨b,7,none⟩=false:=⟨h.free 0,h.free 1,h.free 2,h.free 3,h.free 4,h.free 5,h.free 6,h.free 7⟩
theorem u9 (h:Blk w b t cs):w.frozen? ⟨b,0,none⟩=false/\w.frozen? ⟨b,1,none⟩=false/\w.frozen? ⟨b,2,none⟩=false/\w.frozen? ⟨b,3,none⟩=false/\w.frozen? ⟨b,4,none⟩=false/\w.frozen? ⟨b,5,none⟩=false/\w.frozen? ⟨b,6,none⟩=false/\w.frozen? ⟨b,7,none⟩=false/\w.frozen? ⟨b,8,none⟩=false:=⟨h.free 0,h.free 1,h.free 2,h.free 3,h.free 4,h.free 5,h.free 6,h.free 7,h.free 8⟩
theorem u10 (h:Blk w b t cs):w.frozen? ⟨b,0,none⟩=false/\w.frozen? ⟨b,1,none⟩=false/\w.frozen? ⟨b,2,none⟩=false/\w.frozen? ⟨b,3,none⟩=false/\w.frozen? ⟨b,4,none⟩=false/\w.frozen? ⟨b,5,none⟩=false/\w.frozen? ⟨b,6,none⟩=false/\w.frozen? ⟨b,7,none⟩=false/\w.frozen? ⟨b,8,none⟩=false/\w.frozen? ⟨b,9,none⟩=false:=⟨h.free 0,h.free 1,h.free 2,h.free 3,h.free 4,h.free 5,h.free 6,h.free 7,h.free 8,h.free 9⟩
theorem u11 (h:Blk w b t cs):w.frozen? ⟨b,0,none⟩=false/\w.frozen? ⟨b,1,none⟩=false/\w.frozen? ⟨b,2,none⟩=false/\w.frozen? ⟨b,3,none⟩=false/\w.frozen? ⟨b,4,none⟩=false/\w.frozen? ⟨b,5,none⟩=false/\w.frozen? ⟨b,6,none⟩=false/\w.frozen? ⟨b,7,none⟩=false/\w.frozen? ⟨b,8,none⟩=false/\w.frozen? ⟨b,9,none⟩=false/\w.frozen? ⟨b,10,none⟩=false:=⟨h.free 0,h.free 1,h.free 2,h.free 3,h.free 4,h.free 5,h.free 6,h.free 7,h.free 8,h.free 9,h.free 10⟩
end Blk
def Sl (w:World) (B size:Nat) (v:Value) (n:Nat) (cs:List Value):Prop:=
 cs.length=n*size/\ ∃a cap,v= .slice a n cap/\n<=cap/\cap<=maxLen/\(n=0\/ ∃b off,a=some ⟨b,off,none⟩/\b<B/\ ∀j,j<n*size->w.cell? ⟨b,off+j,none⟩=cs[j]?)
namespace Sl
variable {w w':World} {B size n:Nat} {v:Value} {cs:List Value}
theorem nil (w:World) (B size:Nat):Sl w B size (.slice none 0 0) 0 []:=⟨by simp,none,0,rfl,le0,by unfold maxLen;omega,.inl rfl⟩
theorem mono (h:Sl w B size v n cs) {C:Nat} (hC:B<=C):Sl w C size v n cs:=by
 obtain⟨h1,a,cap,hv,h2,h3,h4⟩:=h;refine⟨h1,a,cap,hv,h2,h3,h4.imp id ?_⟩;rintro ⟨b,off,ha,hb,hc⟩;exact⟨b,off,ha,by omega,hc⟩
theorem below (h:Sl w B size v n cs) (hb:Below B w w'):Sl w' B size v n cs:=by
 obtain⟨h1,a,cap,hv,h2,h3,h4⟩:=h;refine⟨h1,a,cap,hv,h2,h3,h4.imp id ?_⟩;rintro ⟨b,off,ha,hlt,hc⟩;exact⟨b,off,ha,hlt,fun j hj=>(hb.cell (p:=⟨b,off+j,none⟩) hlt).trans (hc j hj)⟩
theorem of_owns {base:Nat} {e:TypeId} (h:w.ownsRow base e size v n cs):Sl w w.heap.size size v n cs:=by
 obtain⟨h1,h2⟩:=h;refine⟨h1,?_⟩;rcases h2 with ⟨rfl,rfl⟩|⟨g,cap,cur,rfl,hb,hg,hn,hc,hs,ht⟩
 ·exact⟨none,0,rfl,le0,by unfold maxLen;omega,.inl rfl⟩
 ·refine⟨_,cap,rfl,hn,hc,.inr ⟨g,0,rfl,(Array.getElem?_eq_some_iff.1 hg).1,fun j hj=>?_⟩⟩;rw[Nat.zero_add,cell_of_row w g j cur e (0,0) hg,<-ht,List.getElem?_take,if_pos hj];simp
theorem int {K:IntKind} {zs:List Int} (h:Sl w B 1 v n (zs.map (Value.int K))) (k:Nat) (hk:k<n):
  ∃b off cap,v= .slice (some ⟨b,off,none⟩) n cap/\b<B/\ ∃hl:k<zs.length,w.cell? ⟨b,off+k,none⟩=some (.int K (zs[k]'hl)):=by
 obtain⟨h1,a,cap,hv,h2,h3,h4⟩:=h;rw[List.length_map,Nat.mul_one]at h1;rcases h4 with h4|⟨b,off,rfl,hb,hc⟩
 ·omega
 ·refine⟨b,off,cap,hv,hb,by omega,?_⟩;rw[hc k (by omega)];simp[show k<zs.length by omega]
end Sl
theorem owns_succ {W:World} {base:Nat} {e:TypeId} {size:Nat} {v:Value} {k:Nat} {xs:List Value} (h:W.ownsRow base e size v (k+1) xs): ∃g cap,v= .slice (some ⟨g,0,none⟩) (k+1) cap:=by
 rcases h.2 with ⟨_,h0⟩|⟨g,cap,_,rfl,_⟩
 ·omega
 ·exact⟨g,cap,rfl⟩
inductive Chg where
 |app (f:Nat) (s:ByteArray)
 |cut (f n:Nat)
 |mv (a b:Nat)
abbrev Fls:=List ByteArray
def fl (l:Fls) (f:Nat):ByteArray:=l.getD f .empty
def clip (n:Int) (m:Nat):Nat:=(max (min n (m:Int)) 0).toNat
def Chg.part:Chg->Int->Fls->Fls
 | .app f s,n,l=>l.set f (fl l f++s.extract 0 (clip n s.size))
 |_,_,l=>l
def Chg.does:Chg->Fls->Fls
 | .app f s,l=>l.set f (fl l f++s)
 | .cut f n,l=>l.set f ((fl l f).extract 0 n)
 | .mv a b,l=>(l.set b (fl l a)).set a .empty
structure Dk where
 room:Int
 now:Fls
 sure:Fls
 loose:List Chg
 off:Bool
 left:Int
namespace Dk
def new (room:Int):Dk:=⟨room,List.replicate 16 .empty,List.replicate 16 .empty,[],false,-1⟩
def sum:Fls->Nat
 | []=>0
 |s::l=>s.size+sum l
def free (d:Dk):Int:=d.room-(sum d.now:Nat)
def isF (f:Int):Bool:=decide (0<=f)&&decide (f<16)
def op (d:Dk):Dk×Int:=if d.left=0 then({d with off:=true},50)else if 0<d.left then({d with left:=d.left-1},0)else(d,0)
def change (d:Dk) (c:Chg):Dk×Int:=if d.op.2=0 then({d.op.1 with now:=c.does d.op.1.now,loose:=d.op.1.loose++ [c]},0)else d.op
def append (d:Dk) (f:Int) (s:ByteArray):Dk×Int:=
 if d.off=true then(d,50)else if isF f=false then(d,2)else if d.free<(s.size:Int)then(d,7)else d.change (.app f.toNat s)
def cut (d:Dk) (f n:Int):Dk×Int:=
 if d.off=true then(d,50)else if isF f=false then(d,2)else if n<0\/((fl d.now f.toNat).size:Int)<n then(d,5)else d.change (.cut f.toNat n.toNat)
def move (d:Dk) (a b:Int):Dk×Int:=
 if d.off=true then(d,50)else if isF a=false\/isF b=false then(d,2)else if a=b then(d,2)else d.change (.mv a.toNat b.toNat)
def sync (d:Dk):Dk×Int:=
 if d.off=true then(d,50)else if d.op.2=0 then({d.op.1 with sure:=d.op.1.now,loose:=[]},0)else d.op
def read (d:Dk) (f:Int):ByteArray×Int:=if d.off=true then(.empty,50)else if isF f=false then(.empty,2)else(fl d.now f.toNat,0)
def kept (d:Dk) (changes bytes:Int):Fls:=
 match d.loose.drop (clip changes d.loose.length)with
 | []=>(d.loose.take (clip changes d.loose.length)).foldl (fun l c=>c.does l) d.sure
 |c::_=>c.part bytes ((d.loose.take (clip changes d.loose.length)).foldl (fun l c=>c.does l) d.sure)
end Dk
def Chg.okIn:Chg->Fls->Prop
 | .app f s,_=>f<16
 | .cut f n,l=>f<16/\n<=(fl l f).size
 | .mv a b,_=>a<16/\b<16/\a≠b
def gone (cs:List Chg) (l:Fls):Fls:=cs.foldl (fun l c=>c.does l) l
theorem gone_cons (c:Chg) (cs:List Chg) (l:Fls):gone (c::cs) l=gone cs (c.does l):=rfl
theorem gone_app (cs ds:List Chg) (l:Fls):gone (cs++ds) l=gone ds (gone cs l):=by unfold gone;rw[List.foldl_append]
theorem Chg.does_len (c:Chg) (l:Fls):(c.does l).length=l.length:=by
 cases c<;>simp[Chg.does]
theorem fl_set (l:Fls) (f g:Nat) (s:ByteArray) (hf:f<l.length):fl (l.set f s) g=if g=f then s else fl l g:=by
 unfold fl;rw[List.getD_eq_getElem?_getD,List.getD_eq_getElem?_getD,List.getElem?_set];by_cases h:g=f
 ·subst h;rw[if_pos rfl,if_pos hf,if_pos rfl];rfl
 ·rw[if_neg (fun e=>h e.symm),if_neg h]
theorem fl_get (l:Fls) (f:Nat) (hf:f<l.length):fl l f=l[f]:=by
 unfold fl;rw[List.getD_eq_getElem?_getD,List.getElem?_eq_getElem hf,Option.getD_some]
theorem sum_set: ∀(l:Fls) (f:Nat) (s:ByteArray),f<l.length->Dk.sum (l.set f s)+(fl l f).size=Dk.sum l+s.size
 | [],f,s,h=>absurd h (Nat.not_lt_zero _)
 |x::l,0,s,_=>by
  show s.size+Dk.sum l+x.size=x.size+Dk.sum l+s.size
  omega
 |x::l,f+1,s,h=>by
  have:=sum_set l f s (by simpa using h)
  show x.size+Dk.sum (l.set f s)+(fl l f).size=x.size+Dk.sum l+s.size
  omega
theorem sum_le: ∀(l:Fls) (f:Nat),(fl l f).size<=Dk.sum l
 | [],f=>by simp[fl,Dk.sum]
 |x::l,0=>by show x.size<=x.size+Dk.sum l;omega
 |x::l,f+1=>by
  have:=sum_le l f
  show(fl l f).size<=x.size+Dk.sum l
  omega
theorem clip_le (n:Int) (m:Nat):clip n m<=m:=by unfold clip;omega
theorem does_sum_cut (f n:Nat) (l:Fls) (h:f<l.length):Dk.sum ((Chg.cut f n).does l)<=Dk.sum l:=by
 have:=sum_set l f ((fl l f).extract 0 n) h;rw[ByteArray.size_extract]at this;show Dk.sum (l.set f ((fl l f).extract 0 n))<=_;omega
theorem does_sum_mv (a b:Nat) (l:Fls) (ha:a<l.length) (hb:b<l.length) (hab:a≠b):Dk.sum ((Chg.mv a b).does l)<=Dk.sum l:=by
 have h1:=sum_set l b (fl l a) hb;have h2:=sum_set (l.set b (fl l a)) a .empty (by rw[List.length_set];exact ha);rw[fl_set l b a _ hb,if_neg hab]at h2;have h3:=sum_le l b;have h4:(ByteArray.empty).size=0:=rfl;show Dk.sum ((l.set b (fl l a)).set a .empty)<=_;omega
def Runs (room:Int):Fls->List Chg->Prop
 |l,[]=>(Dk.sum l:Int)<=room
 |l,c::cs=>(Dk.sum l:Int)<=room/\c.okIn l/\Runs room (c.does l) cs
theorem Runs.first {room:Int}: ∀ {l:Fls} {cs:List Chg},Runs room l cs->(Dk.sum l:Int)<=room
 |_,[],h=>h
 |_,_::_,h=>h.1
theorem Runs.last {room:Int}: ∀ {l:Fls} {cs:List Chg},Runs room l cs->(Dk.sum (gone cs l):Int)<=room
 |_,[],h=>h
 |l,c::cs,h=>Runs.last (l:=c.does l) (cs:=cs) h.2.2
theorem Runs.snoc {room:Int}: ∀ {l:Fls} {cs:List Chg} {c:Chg},Runs room l cs->c.okIn (gone cs l)->(Dk.sum (c.does (gone cs l)):Int)<=room->Runs room l (cs++ [c])
 |_,[],_,h,h1,h2=>⟨h,h1,h2⟩
 |l,c::cs,_,h,h1,h2=>⟨h.1,h.2.1,Runs.snoc (l:=c.does l) (cs:=cs) h.2.2 h1 h2⟩
theorem Runs.drop {room:Int}: ∀ {l:Fls} {cs:List Chg} (n:Nat),Runs room l cs->Runs room (gone (cs.take n) l) (cs.drop n)
 |_,_,0,h=>by rw[List.take_zero,List.drop_zero];exact h
 |_,[],n+1,h=>h
 |_,_::_,n+1,h=>by
  rw[List.take_succ_cons,List.drop_succ_cons,gone_cons]
  exact Runs.drop n h.2.2
namespace Dk
structure Inv (d:Dk):Prop where
 now16:d.now.length=16
 sure16:d.sure.length=16
 over:d.now=gone d.loose d.sure
 runs:Runs d.room d.sure d.loose
 room1:1<=d.room
 room2:d.room<=4194304
 left1: -1<=d.left
 left2:d.left<=9223372036854775807
theorem Inv.fits {d:Dk} (h:Inv d):(sum d.now:Int)<=d.room:=by rw[h.over];exact h.runs.last
theorem Inv.new (room:Int) (h1:1<=room) (h2:room<=4194304):Inv (Dk.new room):=⟨rfl,rfl,rfl,by show((0:Nat):Int)<=room;omega,h1,h2,(by decide:(-1:Int)<= -1),(by decide:(-1:Int)<=9223372036854775807)⟩
theorem op_same (d:Dk):d.op.1.room=d.room/\d.op.1.now=d.now/\d.op.1.sure=d.sure/\d.op.1.loose=d.loose:=by
 unfold op;split
 ·exact⟨rfl,rfl,rfl,rfl⟩
 ·split<;>exact⟨rfl,rfl,rfl,rfl⟩
theorem Inv.op {d:Dk} (h:Inv d):Inv d.op.1:=by
 obtain⟨h0,h1,h2,h3⟩:=op_same d;refine⟨by rw[h1];exact h.now16,by rw[h2];exact h.sure16,by rw[h1,h2,h3];exact h.over,by rw[h0,h2,h3];exact h.runs,by rw[h0];exact h.room1,by rw[h0];exact h.room2,?_,?_⟩
 ·unfold Dk.op;split
  ·exact h.left1
  ·split
   ·show-1<=d.left-1;omega
   ·exact h.left1
 ·unfold Dk.op;have:=h.left2;split
  ·exact h.left2
  ·split
   ·show d.left-1<=_;omega
   ·exact h.left2
theorem Inv.change {d:Dk} (h:Inv d) (c:Chg) (hc:c.okIn d.now) (hs:(sum (c.does d.now):Int)<=d.room):Inv (d.change c).1:=by
 unfold Dk.change;split
 ·have k:=h.op;obtain⟨h0,h1,h2,h3⟩:=op_same d;refine⟨by show(c.does d.op.1.now).length=16;rw[c.does_len];exact k.now16,k.sure16,?_,?_,k.room1,k.room2,k.left1,k.left2⟩
  ·show c.does d.op.1.now=gone (d.op.1.loose++ [c]) d.op.1.sure;rw[gone_app,<-k.over];rfl
  ·refine k.runs.snoc ?_ ?_
   ·rw[<-k.over,h1];exact hc
   ·rw[<-k.over,h1,h0];exact hs
 ·exact h.op
theorem isF_lt {f:Int} (h:isF f=true):f.toNat<16/\(f.toNat:Int)=f:=by
 unfold isF at h;simp only[Bool.and_eq_true,decide_eq_true_eq]at h;omega
theorem Inv.append {d:Dk} (h:Inv d) (f:Int) (s:ByteArray):Inv (d.append f s).1:=by
 unfold Dk.append;split
 ·exact h
 split
 ·exact h
 split
 ·exact h
 rename_i h1 h2 h3;have hf:isF f=true:=by simpa using h2
 refine h.change _ (isF_lt hf).1 ?_;have:=sum_set d.now f.toNat (fl d.now f.toNat++s) (by rw[h.now16];exact(isF_lt hf).1);rw[ByteArray.size_append]at this;unfold free at h3;show(sum (d.now.set f.toNat (fl d.now f.toNat++s)):Int)<=d.room;omega
theorem Inv.sync {d:Dk} (h:Inv d):Inv d.sync.1:=by
 unfold Dk.sync;split
 ·exact h
 ·split
  ·have k:=h.op;exact⟨k.now16,k.now16,rfl,k.fits,k.room1,k.room2,k.left1,k.left2⟩
  ·exact h.op
end Dk
structure KB (w0 w:World) (L:List (Nat×TypeId×Array Value)):Prop where
 below:Below w0.heap.size w0 w
 blk: ∀x∈L,Blk w x.1 x.2.1 x.2.2
namespace KB
variable {w0 w w':World} {L:List (Nat×TypeId×Array Value)} {b:Nat} {t:TypeId} {cs:Array Value} {x:Nat×TypeId×Array Value}
theorem start (w0:World):KB w0 w0 []:=⟨Below.refl _ _,by simp⟩
theorem keep (h:KB w0 w L) (hb:Below w.heap.size w w'):KB w0 w' L:=
 ⟨h.below.trans (hb.mono h.below.size),fun x hx=>(h.blk x hx).below hb (h.blk x hx).lt⟩
theorem push (h:KB w0 w L) (cs:Array Value) (t:TypeId):KB w0 (w.alloc (.cells cs t)) ((w.heap.size,t,cs)::L):=
 ⟨h.below.alloc h.below.size _,fun x hx=>by
  rcases List.mem_cons.1 hx with rfl|hx
  ·exact Blk.new _ _ _
  ·exact(h.blk x hx).alloc _⟩
theorem pushN (h:KB w0 w L) (k:Nat) (hk:k=w.heap.size) (cs:Array Value) (t:TypeId):KB w0 (w.alloc (.cells cs t)) ((k,t,cs)::L):=by subst hk;exact h.push cs t
theorem grow (h:KB w0 w L) (o:Obj):KB w0 (w.alloc o) L:=⟨h.below.alloc h.below.size _,fun x hx=>(h.blk x hx).alloc _⟩
theorem drew (h:KB w0 w L):KB w0 w.drew L:=⟨h.below.drew,h.blk⟩
theorem drewN (h:KB w0 w L) (n:Nat):KB w0 (w.drewN n) L:=⟨below_drewN h.below n,h.blk⟩
theorem hd (h:KB w0 w ((b,t,cs)::L)):Blk w b t cs:=h.blk (b,t,cs) (by simp)
theorem tl (h:KB w0 w (x::L)):KB w0 w L:=⟨h.below,fun y hy=>h.blk y (by simp[hy])⟩
theorem add (h:KB w0 w L) (hb:Blk w b t cs):KB w0 w ((b,t,cs)::L):=⟨h.below,fun y hy=>by
 rcases List.mem_cons.1 hy with rfl|hy
 ·exact hb
 ·exact h.blk y hy⟩
theorem set (h:KB w0 w ((b,t,cs)::L)) (hb:w0.heap.size<=b) (hne: ∀x∈L,x.1≠b) (j:Nat) (u:Value):KB w0 (w.setCell ⟨b,j,none⟩ u) ((b,t,cs.setIfInBounds j u)::L):=
 ⟨h.below.setCell (p:=⟨b,j,none⟩) hb u,fun x hx=>by
  rcases List.mem_cons.1 hx with rfl|hx
  ·exact h.hd.set j u
  ·exact(h.blk x (by simp[hx])).other (p:=⟨b,j,none⟩) (hne x hx) u⟩
end KB
def bt (s:ByteArray) (k:Nat):Nat:=(s.get! k).toNat
theorem get_getD (s:ByteArray) (k:Nat):s.get! k=s.data.toList.getD k 0:=by
 obtain⟨⟨l⟩⟩:=s;show(l.toArray)[k]! =l.getD k 0;simp[List.getD];rfl
def cont (s:ByteArray) (i:Nat):Bool:=decide (i<s.size)&&(bt s i/64==2)
theorem decode_eq (s:ByteArray) (i:Nat):Utf8.decode s i=
  if bt s i<128 then(bt s i,1)
  else if(bt s i/32==6&&cont s (i+1))=true then
   (if 128<=(bt s i%32)*64+bt s (i+1)%64 then((bt s i%32)*64+bt s (i+1)%64,2)else(65533,1))
  else if(bt s i/16==14&&cont s (i+1)&&cont s (i+2))=true then
   (if(decide (2048<=(bt s i%16)*4096+(bt s (i+1)%64)*64+bt s (i+2)%64)&&Utf8.valid (((bt s i%16)*4096+(bt s (i+1)%64)*64+bt s (i+2)%64:Nat):Int))=true
    then((bt s i%16)*4096+(bt s (i+1)%64)*64+bt s (i+2)%64,3)else(65533,1))
  else if(bt s i/8==30&&cont s (i+1)&&cont s (i+2)&&cont s (i+3))=true then
   (if(decide (65536<=(bt s i%8)*262144+(bt s (i+1)%64)*4096+(bt s (i+2)%64)*64+bt s (i+3)%64)&&Utf8.valid (((bt s i%8)*262144+(bt s (i+1)%64)*4096+(bt s (i+2)%64)*64+bt s (i+3)%64:Nat):Int))=true
    then((bt s i%8)*262144+(bt s (i+1)%64)*4096+(bt s (i+2)%64)*64+bt s (i+3)%64,4)else(65533,1))
  else(65533,1):=by
 have h0: ∀k,(s.get! (i+k)).toNat=bt s (i+k):=fun _=>rfl;have h1: ∀k,(decide (i+k<s.size)&&bt s (i+k)/64==2)=cont s (i+k):=fun _=>rfl;unfold Utf8.decode Utf8.runeError;dsimp only;have h2:(s.get! i).toNat=bt s i:=rfl;simp only[h0,h1,h2,Nat.add_zero,ge_iff_le]
theorem decode_width_le (s:ByteArray) (i:Nat) (h:i<s.size):i+(Utf8.decode s i).2<=s.size:=by
 have hc: ∀k,cont s k=true->k<s.size:=by
  intro k hk;unfold cont at hk;simp only[Bool.and_eq_true,decide_eq_true_eq]at hk;exact hk.1
 rw[decode_eq];split
 ·show i+1<=_;omega
 ·split
  ·rename_i h2;simp only[Bool.and_eq_true]at h2;have:=hc _ h2.2;split<;>dsimp only<;>omega
  ·split
   ·rename_i h2;simp only[Bool.and_eq_true]at h2;have:=hc _ h2.2;split<;>dsimp only<;>omega
   ·split
    ·rename_i h2;simp only[Bool.and_eq_true]at h2;have:=hc _ h2.2;split<;>dsimp only<;>omega
    ·show i+1<=_;omega
def signB (r:Int):Bool:=decide (r=43\/r=45\/r=42\/r=47\/r=37\/r=40\/r=41\/r=38\/r=124\/r=33\/r=61\/r=60)
def kindN (r:Int):Int:=if 48<=r/\r<=57 then 2 else if signB r then 3 else if nameB (Utf8.encode r)then 1 else 0
def numGo:Int->List Int->Option Int
 |n,[]=>some n
 |n,r::rs=>if n>(9223372036854775807-(r-48))/10 then none else numGo (10*n+(r-48)) rs
def goesB (k:Int) (tx:ByteArray) (r:Int):Bool:=
 if k=3 then decide (r=61)&&(decide (tx.toList=[33])||decide (tx.toList=[60]))else decide (k≠0)&&decide (kindN r=k)
structure Tok where
 kind:Int
 text:ByteArray
 n:Int
 at_:Int
def Tok.cells (t:Tok):List Value:=[.int .u8 t.kind,.string t.text,.int .i64 t.n,.int .i64 t.at_]
def Tok.agg (t:Tok):Value:= .agg #[.int .u8 t.kind,.string t.text,.int .i64 t.n,.int .i64 t.at_]
def Tok.zero:Tok:=⟨0,{data:=#[]},0,0⟩
def toksCells (l:List Tok):List Value:=l.flatMap Tok.cells
theorem toksCells_length (l:List Tok):(toksCells l).length=l.length*4:=by
 induction l with
 |nil=>rfl
 |cons t l ih=>simp only[toksCells,List.flatMap_cons,la0,List.length_cons]at*;rw[ih];simp[Tok.cells];omega
theorem toksCells_snoc (l:List Tok) (t:Tok):toksCells (l++ [t])=toksCells l++t.cells:=by simp[toksCells]
def endTok (t:Tok) (out:List Tok):Option (List Tok):=
 if t.kind=2 then match numGo 0 (runes t.text)with
  |none=>none
  |some m=>some (out++ [⟨2,{data:=#[]},m,t.at_⟩])
 else if t.kind=0 then some out else some (out++ [t])
def tokGo (t:Tok) (pos:Int) (out:List Tok):List Int->List Tok×Int×Int
 | []=>match endTok t out with
  |none=>([],t.at_,71)
  |some o=>(o,0,0)
 |r::rs=>
  if goesB t.kind t.text r then tokGo {t with text:=t.text++Utf8.encode r} (pos+1) out rs
  else match endTok t out with
   |none=>([],t.at_,71)
   |some o=>
    if r=32\/r=9 then tokGo Tok.zero (pos+1) o rs
    else if kindN r=0 then([],pos+1,70)
    else tokGo ⟨kindN r,Utf8.encode r,0,pos+1⟩ (pos+1) o rs
def toks (s:ByteArray):List Tok×Int×Int:=if 400<s.size then([],0,3)else tokGo Tok.zero (-1) [] (runes s)
