/- Parts. -/
import Derived.Test.YtgbfdcmkbblodaaGreatDoorVW8
import Derived.Test.YtgbfdcmkbblodaaGreatDoorVW10a
namespace Go.Proofs.YtgbfdcmkbblodaaGreatDoor
open Go.RowKit
set_option linter.unusedVariables false
set_option linter.unusedSimpArgs false
set_option maxRecDepth 100000
set_option maxHeartbeats 16000000
open Tryz
theorem Exs.okC: ∀(l:List Ex),Exs.ok l-> ∀j (h:j<l.length),(l[j]'h).ok
 |x::l,h,0,_=>h.1
 |x::l,h,j+1,hj=>Exs.okC l h.2 j (by simpa using hj)
theorem Ex.okC {x:Ex} (h:x.ok):0<=x.op/\x.op<=255/\ -9223372036854775808<=x.n/\x.n<=9223372036854775807/\Exs.ok x.args:=by obtain⟨o,n,l⟩:=x;exact h
mutual
def Ex.by:Ex->List UInt8
 | .mk o n l=>putL [o,n,(l.length:Int)]++Exs.by l
def Exs.by:List Ex->List UInt8
 | []=> []
 |x::l=>x.by++Exs.by l
end
theorem Ex.by_eq (x:Ex):x.by=putL [x.op,x.n,(x.args.length:Int)]++Exs.by x.args:=by obtain⟨o,n,l⟩:=x;rfl
theorem Exs.by_append: ∀l m:List Ex,Exs.by (l++m)=Exs.by l++Exs.by m
 | [],m=>rfl
 |x::l,m=>by simp only[List.cons_append,Exs.by];rw[Exs.by_append l m,List.append_assoc]
theorem Exs.by_take (l:List Ex) (k:Nat) (hk:k<l.length):Exs.by (l.take (k+1))=Exs.by (l.take k)++(l[k]'hk).by:=by
 rw[List.take_succ_eq_append_getElem hk,Exs.by_append];simp only[Exs.by,List.append_nil]
theorem Exs.by_take_le (l:List Ex) (k:Nat):(Exs.by (l.take k)).length<=(Exs.by l).length:=by
 have:l=l.take k++l.drop k:=(List.take_append_drop k l).symm;have h2:=congrArg (fun q=>(Exs.by q).length) this;simp only[Exs.by_append,la0]at h2;omega
def Nd.by (d:Nd):List UInt8:=txtL d.uid++putL [d.kind,d.n,(d.ins.length:Int)]++putL d.ins++d.x.by
def nodesBy (l:List Nd):List UInt8:=l.flatMap Nd.by
def Jb.by (j:Jb):List UInt8:=putL [j.par,(j.nodes.length:Int)]++nodesBy j.nodes
structure Rd where
 s:ByteArray
 e:Int
def Rd.fail (p:Rd) (why:Int):Rd:=if p.e=0 then⟨p.s,why⟩else p
def Rd.cut (p:Rd) (n:Int):ByteArray:=p.s.extract n.toNat p.s.size
def Rd.num (p:Rd):Int×Rd:=if p.e=0 then((takeS p.s).1,⟨p.cut (takeS p.s).2.1,(takeS p.s).2.2⟩)else(0,p)
def Rd.many (most:Int) (p:Rd):Int×Rd:=if p.num.1<0\/most<p.num.1 then(0,p.num.2.fail 3)else p.num
def Rd.small (p:Rd):Int×Rd:=(p.num.1%256,if p.num.1<0\/255<p.num.1 then p.num.2.fail 2 else p.num.2)
def Rd.text (p:Rd):ByteArray×Rd:=if p.e=0 then((takeT p.s).1,⟨p.cut (takeT p.s).2.1,(takeT p.s).2.2⟩)else(.empty,p)
theorem cut_size (s:ByteArray) (n:Nat):(s.extract n s.size).size<=s.size:=by rw[ByteArray.size_extract];omega
theorem Rd.num_size (p:Rd):p.num.2.s.size<=p.s.size:=by
 unfold Rd.num;split
 ·exact cut_size _ _
 ·exact le0
theorem Rd.fail_s (p:Rd) (why:Int):(p.fail why).s=p.s:=by unfold Rd.fail;split<;>rfl
theorem takeS_size (s:ByteArray): ∃k:Nat,(takeS s).2.1=(k:Int)/\k<=s.size/\ -9223372036854775808<=(takeS s).1/\(takeS s).1<=9223372036854775807:=by
 by_cases h:(takeS s).2.2=0
 ·have e:tkGo 0 0 s.data.toList=((takeS s).1,(takeS s).2.1,0):=by rw[<-h];rfl
  obtain⟨k,h1,h2,_,_,h5,h6⟩:=take_back e;exact⟨k,h1,by rw[<-Lib.size_eq]at h2;exact h2,h5,h6⟩
 ·obtain⟨h1,h2⟩:=tkGo_err s.data.toList 0 0 h;refine⟨0,h2,ze0,?_⟩;have:(takeS s).1=0:=h1;omega
theorem Rd.num_ir (p:Rd): -9223372036854775808<=p.num.1/\p.num.1<=9223372036854775807:=by
 unfold Rd.num;split
 ·obtain⟨k,_,_,h3,h4⟩:=takeS_size p.s;exact⟨h3,h4⟩
 ·dsimp only;omega
theorem takeT_size (s:ByteArray): ∃k:Nat,(takeT s).2.1=(k:Int)/\k<=s.size:=by
 obtain⟨k,h1,h2,h3,h4⟩:=takeS_size s;unfold takeT
 repeat' split
 ·exact⟨0,rfl,ze0⟩
 ·exact⟨0,rfl,ze0⟩
 ·exact⟨0,rfl,ze0⟩
 ·exact⟨0,rfl,ze0⟩
 ·refine⟨k+(takeS s).1.toNat,?_,?_⟩
  ·dsimp only;omega
  ·omega
structure PS (w:World) (be bs:Nat) (p:Rd):Prop where
 E:Blk w be 30 #[.int .i64 p.e]
 S:Blk w bs 9 #[.string p.s]
def FrS (be bs:Nat):Nat->Prop:=fun k=>k=be\/k=bs
def failsV (be:Nat):Value:= .func (.func 98) #[] #[.pointer (some ⟨be,0,none⟩)]
def numberV (be bs bf:Nat):Value:= .func (.func 99) #[] #[.pointer (some ⟨be,0,none⟩),.pointer (some ⟨bs,0,none⟩),.pointer (some ⟨bf,0,none⟩)]
def Bx (w:World) (b:Nat) (v:Value):Prop:= ∃t,Blk w b t #[v]
theorem Bx.cell {w:World} {b:Nat} {v:Value} (h:Bx w b v):w.cell? ⟨b,0,none⟩=some v:=by obtain⟨t,h⟩:=h;rw[h.cell 0];rfl
theorem Bx.fr {w w':World} {b:Nat} {v:Value} {S:Nat->Prop} (h:Bx w b v) (hf:Fr S w w') (hs: ¬S b):Bx w' b v:=let ⟨t,h⟩:=h;⟨t,h.fr hf hs⟩
theorem Bx.alloc {w:World} {b:Nat} {v:Value} (h:Bx w b v) (o:Obj):Bx (w.alloc o) b v:=let ⟨t,h⟩:=h;⟨t,h.alloc o⟩
theorem Bx.lt {w:World} {b:Nat} {v:Value} (h:Bx w b v):b<w.heap.size:=let ⟨t,h⟩:=h;h.lt
theorem pfails_c (be bs:Nat) (hne:be≠bs) (p:Rd) (why:Int) (w:World) (h:PS w be bs p):
  Calls prog 98 #[.int .i64 why,.pointer (some ⟨be,0,none⟩)] w fun e w'=>e= .returned (.tuple #[])/\PS w' be bs (p.fail why)/\Fr (FrS be bs) w w':=by
 have c0:=h.E.cell 0;have f0:=h.E.free 0;by_cases he:p.e=0
 ·have he':(p.e==0)=true:=by simpa using he
  have hf:p.fail why=⟨p.s,why⟩:=by unfold Rd.fail;rw[if_pos he]
  rw[hf];go_enter func98,ntmps98
  go_wp2_with fail
  go_end0
  exact⟨rfl,⟨h.E.set 0 _,h.S.other (p:=⟨be,0,none⟩) (Ne.symm hne) _⟩,(Fr.refl _ w).setCell (p:=⟨be,0,none⟩) (.inl (.inl rfl)) _⟩
 ·have he':(p.e==0)=false:=by simpa using he
  have hf:p.fail why=p:=by unfold Rd.fail;rw[if_neg he]
  rw[hf];go_enter func98,ntmps98
  go_wp2_with fail
  go_end0
  exact⟨rfl,h,Fr.refl _ w⟩
theorem pnumber_c (be bs bf:Nat) (hne:be≠bs) (p:Rd) (hs:p.s.size<=140737488355328) (w:World) (h:PS w be bs p) (hb:Bx w bf (failsV be)):
  Calls prog 99 #[.pointer (some ⟨be,0,none⟩),.pointer (some ⟨bs,0,none⟩),.pointer (some ⟨bf,0,none⟩)] w fun e w'=>e= .returned (.int .i64 p.num.1)/\PS w' be bs p.num.2/\Fr (FrS be bs) w w':=by
 have b0:=hb.cell;unfold failsV at b0;have c0:=h.E.cell 0;have d0:=h.S.cell 0;by_cases he:p.e=0
 ·have he':(p.e !=0)=false:=by simpa using he
  have hf:p.num=((takeS p.s).1,⟨p.cut (takeS p.s).2.1,(takeS p.s).2.2⟩):=by unfold Rd.num;rw[if_pos he]
  obtain⟨k,hk,hks,_,_⟩:=takeS_size p.s;have HTK:Hd (∀W:World,Calls prog 45 #[.string p.s] W fun e w'=>e= .returned (.tuple #[.int .i64 (takeS p.s).1,.int .i64 (takeS p.s).2.1,.int .i64 (takeS p.s).2.2])/\W=w'):=fun W=>Take_c p.s hs W;rw[hf];unfold Rd.cut;rw[hk]at HTK⊢;generalize (takeS p.s).1=n at*;generalize (takeS p.s).2.2=er at*;have HFL:=Lh (pfails_c be bs hne p er w h);have hpf:p.fail er=⟨p.s,er⟩:=by unfold Rd.fail;rw[if_pos he]
  rw[hpf]at HFL;clear hf hpf hk;go_enter func99,ntmps99
  go_wp2_with fail
  refine(HTK.o _).mono ?_;rintro e w1 ⟨rfl,rfl⟩
  go_wp2_with fail
  refine HFL.o.mono ?_;rintro e w2 ⟨rfl,h2,hf2⟩;clear c0 d0;have d0:=h2.S.cell 0;have f0:=h2.S.free 0
  go_wp2_with fail
  go_ret;exact⟨rfl,⟨h2.E.other (p:=⟨bs,0,none⟩) hne _,h2.S.set 0 _⟩,hf2.setCell (p:=⟨bs,0,none⟩) (.inl (.inr rfl)) _⟩
 ·have he':(p.e !=0)=true:=by simpa using he
  have hf:p.num=(0,p):=by unfold Rd.num;rw[if_neg he]
  rw[hf];go_enter func99,ntmps99
  go_wp2_with fail
  go_ret;exact⟨rfl,h,Fr.refl _ w⟩
structure Cl (w:World) (be bs bf bn:Nat):Prop where
 F:Bx w bf (failsV be)
 N:Bx w bn (numberV be bs bf)
 ne:be≠bs
 f1:bf≠be
 f2:bf≠bs
 n1:bn≠be
 n2:bn≠bs
theorem Cl.fr {w w':World} {be bs bf bn:Nat} (h:Cl w be bs bf bn) (hf:Fr (FrS be bs) w w'):Cl w' be bs bf bn:=
 ⟨h.F.fr hf (fun q=>by rcases q with q|q;exact h.f1 q;exact h.f2 q),h.N.fr hf (fun q=>by rcases q with q|q;exact h.n1 q;exact h.n2 q),h.ne,h.f1,h.f2,h.n1,h.n2⟩
theorem Cl.alloc {w:World} {be bs bf bn:Nat} (h:Cl w be bs bf bn) (o:Obj):Cl (w.alloc o) be bs bf bn:=⟨h.F.alloc o,h.N.alloc o,h.ne,h.f1,h.f2,h.n1,h.n2⟩
theorem PS.alloc {w:World} {be bs:Nat} {p:Rd} (h:PS w be bs p) (o:Obj):PS (w.alloc o) be bs p:=⟨h.E.alloc o,h.S.alloc o⟩
theorem many_cP (be bs bf bn:Nat) (most:Int) (p:Rd) (hs:p.s.size<=140737488355328) (w:World) (h:PS w be bs p) (hc:Cl w be bs bf bn):
  Calls prog 100 #[.int .i64 most,.pointer (some ⟨bn,0,none⟩),.pointer (some ⟨bf,0,none⟩)] w fun e w'=>e= .returned (.int .i64 (p.many most).1)/\PS w' be bs (p.many most).2/\Fr (FrS be bs) w w':=by
 have HN:=Lh (pnumber_c be bs bf hc.ne p hs w h hc.F);have hir:=p.num_ir;have HE:Hd (p.many most=if p.num.1<0\/most<p.num.1 then(0,p.num.2.fail 3)else p.num):=rfl;generalize p.many most=R at*;generalize p.num=q at*;obtain⟨n,p2⟩:=q;dsimp only at HE HN hir;have b0:=hc.N.cell;unfold numberV at b0;by_cases hbad:n<0\/most<n
 ·have HR:Hd (R=(0,p2.fail 3)):=by show _=_;rw[HE.o,if_pos hbad]
  clear HE;have hd:decide (n<0)=true\/(decide (n<0)=false/\decide (most<n)=true):=by
   by_cases h1:n<0
   ·left;exact dt0 h1
   ·right;exact⟨df0 h1,dt0 (by omega)⟩
  clear hbad;rcases hd with d1|⟨d1,d2⟩
  all_goals
   go_enter func100,ntmps100
   go_wp2_with fail
   refine HN.o.mono ?_;rintro e w1 ⟨rfl,h1,hf1⟩;have hc1:=hc.fr hf1;have g0:=hc1.F.cell;unfold failsV at g0;clear b0
   go_wp2_with fail
   refine(pfails_c be bs hc.ne p2 3 w1 h1).mono ?_;rintro e w2 ⟨rfl,h2,hf2⟩
   go_wp2_with fail
   go_ret;rw[HR.o];exact⟨rfl,h2,hf1.trans hf2⟩
 ·have HR:Hd (R=(n,p2)):=by show _=_;rw[HE.o,if_neg hbad]
  clear HE;have d1:decide (n<0)=false:=df0 (by omega);have d2:decide (most<n)=false:=df0 (by omega);clear hbad;go_enter func100,ntmps100
  go_wp2_with fail
  refine HN.o.mono ?_;rintro e w1 ⟨rfl,h1,hf1⟩;clear b0
  go_wp2_with fail
  go_ret;rw[HR.o];exact⟨rfl,h1,hf1⟩
theorem small_cP (be bs bf bn:Nat) (p:Rd) (hs:p.s.size<=140737488355328) (w:World) (h:PS w be bs p) (hc:Cl w be bs bf bn):
  Calls prog 101 #[.pointer (some ⟨bn,0,none⟩),.pointer (some ⟨bf,0,none⟩)] w fun e w'=>e= .returned (.int .u8 p.small.1)/\PS w' be bs p.small.2/\Fr (FrS be bs) w w':=by
 have HN:=Lh (pnumber_c be bs bf hc.ne p hs w h hc.F);have hir:=p.num_ir;have HE:Hd (p.small=(p.num.1%256,if p.num.1<0\/255<p.num.1 then p.num.2.fail 2 else p.num.2)):=rfl;generalize p.small=R at*;generalize p.num=q at*;obtain⟨n,p2⟩:=q;dsimp only at HE HN hir;have b0:=hc.N.cell;unfold numberV at b0;by_cases hbad:n<0\/255<n
 ·have HR:Hd (R=(n%256,p2.fail 2)):=by show _=_;rw[HE.o,if_pos hbad]
  clear HE;have hd:decide (n<0)=true\/(decide (n<0)=false/\decide (255<n)=true):=by
   by_cases h1:n<0
   ·left;exact dt0 h1
   ·right;exact⟨df0 h1,dt0 (by omega)⟩
  clear hbad;rcases hd with d1|⟨d1,d2⟩
  all_goals
   go_enter func101,ntmps101
   go_wp2_with fail
   refine HN.o.mono ?_;rintro e w1 ⟨rfl,h1,hf1⟩;have hc1:=hc.fr hf1;have g0:=hc1.F.cell;unfold failsV at g0;clear b0
   go_wp2_with fail
   refine(pfails_c be bs hc.ne p2 2 w1 h1).mono ?_;rintro e w2 ⟨rfl,h2,hf2⟩
   go_wp2_with fail
   go_ret;rw[HR.o];exact⟨ret_int (wrap_u8B n),h2,hf1.trans hf2⟩
 ·have HR:Hd (R=(n%256,p2)):=by show _=_;rw[HE.o,if_neg hbad]
  clear HE;have d1:decide (n<0)=false:=df0 (by omega);have d2:decide (255<n)=false:=df0 (by omega);have hn:n%256=n:=by omega
  clear hbad;go_enter func101,ntmps101
  go_wp2_with fail
  refine HN.o.mono ?_;rintro e w1 ⟨rfl,h1,hf1⟩;clear b0
  go_wp2_with fail
  go_ret;rw[HR.o];exact⟨ret_int hn.symm,h1,hf1⟩
theorem text_cP (be bs bf bn:Nat) (p:Rd) (hs:p.s.size<=140737488355328) (w:World) (h:PS w be bs p) (hc:Cl w be bs bf bn):
  Calls prog 102 #[.pointer (some ⟨be,0,none⟩),.pointer (some ⟨bs,0,none⟩),.pointer (some ⟨bf,0,none⟩)] w fun e w'=>e= .returned (.string p.text.1)/\PS w' be bs p.text.2/\Fr (FrS be bs) w w':=by
 have b0:=hc.F.cell;unfold failsV at b0;have hne:=hc.ne;have c0:=h.E.cell 0;have d0:=h.S.cell 0;by_cases he:p.e=0
 ·have he':(p.e !=0)=false:=by simpa using he
  have hf:p.text=((takeT p.s).1,⟨p.cut (takeT p.s).2.1,(takeT p.s).2.2⟩):=by unfold Rd.text;rw[if_pos he]
  obtain⟨k,hk,hks⟩:=takeT_size p.s;have HTK:Hd (∀W:World,Calls prog 47 #[.string p.s] W fun e w'=>e= .returned (.tuple #[.string (takeT p.s).1,.int .i64 (takeT p.s).2.1,.int .i64 (takeT p.s).2.2])/\W=w'):=fun W=>TakeText_c p.s hs W;rw[hf];unfold Rd.cut;rw[hk]at HTK⊢;generalize (takeT p.s).1=n at*;generalize (takeT p.s).2.2=er at*;have HFL:=Lh (pfails_c be bs hne p er w h);have hpf:p.fail er=⟨p.s,er⟩:=by unfold Rd.fail;rw[if_pos he]
  rw[hpf]at HFL;clear hf hpf hk;go_enter func102,ntmps102
  go_wp2_with fail
  refine(HTK.o _).mono ?_;rintro e w1 ⟨rfl,rfl⟩
  go_wp2_with fail
  refine HFL.o.mono ?_;rintro e w2 ⟨rfl,h2,hf2⟩;clear c0 d0 b0;have d0:=h2.S.cell 0;have f0:=h2.S.free 0
  go_wp2_with fail
  go_ret;exact⟨rfl,⟨h2.E.other (p:=⟨bs,0,none⟩) hne _,h2.S.set 0 _⟩,hf2.setCell (p:=⟨bs,0,none⟩) (.inl (.inr rfl)) _⟩
 ·have he':(p.e !=0)=true:=by simpa using he
  have hf:p.text=(.empty,p):=by unfold Rd.text;rw[if_neg he]
  rw[hf];go_enter func102,ntmps102
  go_wp2_with fail
  go_ret;exact⟨rfl,h,Fr.refl _ w⟩
