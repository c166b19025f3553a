/- Parts. -/
import Derived.Test.YtgbfdcmkbblodaaGreatDoorVW8
import Derived.Test.YtgbfdcmkbblodaaGreatDoorVW27
import Derived.Test.YtgbfdcmkbblodaaGreatDoorVW28
import Derived.Test.YtgbfdcmkbblodaaGreatDoorVW10b
namespace Go.Proofs.YtgbfdcmkbblodaaGreatDoor
open Go.RowKit
set_option linter.unusedVariables false
set_option linter.unusedSimpArgs false
set_option maxRecDepth 100000
set_option maxHeartbeats 16000000
open Tryz
theorem st1_err: ∀(l:List Nd) (k:Nat) (us:List ByteArray) (r:Int×Int),st1 l k us=some r->r.2≠0
 |d::l,k,us,r,h=>by
  simp only[st1]at h
  cases hn:nodeB d k
  ·rw[hn]at h;simp only[cond_false,Option.some.injEq]at h;subst h;simp
  ·rw[hn]at h
   cases ht:twiceB (fun x y=>decide (x=y)) (us++ [d.uid])
   ·rw[ht]at h
    exact st1_err l (k+1) _ r h
   ·rw[ht]at h;simp only[cond_true,Option.some.injEq]at h;subst h;simp
theorem st2_err (j:Jb): ∀(l:List Nd) (k:Nat) (f:Int) (ws:List Int) (r:Int×Int),st2 j l k f ws=some r->r.2≠0
 |d::l,k,f,ws,r,h=>by
  simp only[st2]at h
  cases hn:badB j d k (flatN d f) (wayN d ws)
  ·rw[hn]at h;exact st2_err j l (k+1) _ _ r h
  ·rw[hn]at h;simp only[cond_true,Option.some.injEq]at h;subst h;simp
structure Jb.Good (j:Jb):Prop where
 p1:1<=j.par
 p2:j.par<=4
 n1:2<=j.nodes.length
 n2:j.nodes.length<=12
 pa:j.parts<=1000
 s1:st1 j.nodes 0 []=none
 s2:st2 j j.nodes 0 0 []=none
theorem may_good (j:Jb) (h:j.may.2=0):j.Good:=by
 rcases argB_cases j with ⟨hr,_⟩|⟨hr,h1,h2,h3,h4,h5⟩
 ·rw[may_len j h]at hr;cases hr
 ·unfold Jb.may at h;rw[if_neg (by rw[hr];simp)]at h
  cases e1:st1 j.nodes 0 []with
  |some r=>rw[e1]at h;exact(st1_err _ _ _ _ e1 h).elim
  |none=>
   rw[e1]at h
   cases e2:st2 j j.nodes 0 0 []with
   |some r=>simp only[e2]at h;exact(st2_err _ _ _ _ _ _ e2 h).elim
   |none=>exact⟨h1,h2,h3,h4,h5,e1,e2⟩
theorem Jb.Good.node {j:Jb} (h:j.Good) (i:Nat) (hi:i<j.nodes.length):nodeB (j.nodes[i]'hi) (i:Int)=true:=by
 have:=st1_node j.nodes 0 [] h.s1 i hi;simpa using this
def kindOf (u:ByteArray):Int:=max (idxZ (fun y=>decide (u=y)) wordL 0) 0
theorem idxZ_lt {α:Type} (p:α->Bool): ∀(l:List α) (k:Nat),idxZ p l k= -1\/idxZ p l k<(k:Int)+l.length
 | [],k=> .inl rfl
 |y::l,k=>by
  have:=idxZ_lt p l (k+1)
  simp only[idxZ,List.length_cons]
  cases p y<;>simp only[cond_true,cond_false]<;>omega
theorem kindOf_le (u:ByteArray):0<=kindOf u/\kindOf u<=9:=by
 have h:=idxZ_lt (fun y=>decide (u=y)) wordL 0;have hl:wordL.length=10:=rfl;rw[hl]at h;refine⟨Int.le_max_right _ _,Int.max_le.2 ⟨?_,by decide⟩⟩;omega
def insGo (j:Jb):List Int->List ByteArray->Option (List Int)
 |acc,[]=>some acc
 |acc,u::l=>if j.find u<0 then none else insGo j (acc++ [j.find u]) l
def ndTail (k:Int) (r:List ByteArray):Option (Int×List ByteArray):=
 if k=7 then(if r.length=0 then none else bif (numB (r.getD (r.length-1) .empty) 2).2 then some ((numB (r.getD (r.length-1) .empty) 2).1,r.take (r.length-1))else none)else some (0,r)
def pNd (j:Jb) (l:List ByteArray):Option Nd:=match l with
 |u::k::r=>match ndTail (kindOf k) r with
  |none=>none
  |some q=>match insGo j [] q.2 with
   |none=>none
   |some is=>if kindOf k=0 then none else some ⟨u,kindOf k,is,Ex.zero,q.1⟩
 |_=>none
def parW:ByteArray:={data:=#[112,97,114]}
def pLine (j:Jb) (s:ByteArray) (first:Bool):Jb×Int:=
  if(wordsB (ba (aheadL s))).2≠0 then(j,(wordsB (ba (aheadL s))).2)else
  if first=true then
    match (wordsB (ba (aheadL s))).1 with
    | [a,b]=>if a≠parW\/hasColon s=true then(j,130)else bif (numB b 1).2 then(⟨(numB b 1).1,j.nodes⟩,0)else(j,130)
    |_=>(j,130)
  else match pNd j (wordsB (ba (aheadL s))).1 with
    |none=>(j,130)
    | some d => if hasK d.kind ≠ hasColon s then (j, 130) else
      if hasColon s=true then
        (if(parse (ba (Lib.trimLeftS (behindL s) [32,9]))).2.2≠0 then(j,(parse (ba (Lib.trimLeftS (behindL s) [32,9]))).2.2)
         else(⟨j.par,j.nodes++ [⟨d.uid,d.kind,d.ins,(parse (ba (Lib.trimLeftS (behindL s) [32,9]))).1,d.n⟩]⟩,0))
      else(⟨j.par,j.nodes++ [d]⟩,0)
def pGo:List ByteArray->Nat->Jb->List Int->Bool->Except (Int×Int) (Jb×List Int×Bool)
 | [],_,j,at_,first=> .ok (j,at_,first)
 |t::l,i,j,at_,first=>bif silentB t then pGo l (i+1) j at_ first else
  if(pLine j t first).2≠0 then .error (((i+1:Nat):Int),(pLine j t first).2)
  else pGo l (i+1) (pLine j t first).1 (bif first then at_ else at_++ [((i+1:Nat):Int)]) false
def Jb.zero:Jb:=⟨0,[]⟩
def pEnd (j:Jb) (at_:List Int) (first:Bool):Jb×Int×Int:=
 bif first then(Jb.zero,0,130)else if j.may.2=2 then(Jb.zero,0,2)else if j.may.2≠0 then(Jb.zero,at_.getD j.may.1.toNat 0,j.may.2)else(j,0,0)
def pRes:Except (Int×Int) (Jb×List Int×Bool)->Jb×Int×Int
 | .error q=>(Jb.zero,q.1,q.2)
 | .ok q=>pEnd q.1 q.2.1 q.2.2
def pScript (s:ByteArray):Jb×Int×Int:=if 65536<s.size then(Jb.zero,0,3)else pRes (pGo (linesB s) 0 Jb.zero [] true)
theorem splitB_size (sep:ByteArray): ∀(k:Nat) (s:ByteArray),∀x∈Lib.splitB sep 0 k s,x.size<=s.size
 |0,s,x,hx=>by simp[Lib.splitB]at hx;subst hx;exact le0
 |k+1,s,x,hx=>by
  unfold Lib.splitB at hx
  split at hx
  ·simp at hx;subst hx;exact le0
  ·rcases List.mem_cons.1 hx with rfl|hx
   ·rw[ByteArray.size_extract];omega
   ·have:=splitB_size sep k _ x hx
    rw[ByteArray.size_extract]at this;omega
theorem lines_len (s:ByteArray):(linesB s).length=Lib.countB s nlB+1:=Lib.splitB_all nlB (by decide) 0 _ s rfl
theorem lines_le (s:ByteArray):(linesB s).length<=s.size+1:=by
 rw[lines_len];have:=Lib.countB_le nlB (by decide) s.size s le0;omega
theorem lines_size (s:ByteArray): ∀x∈linesB s,x.size<=s.size:=splitB_size nlB _ s
theorem pl_first (j:Jb) (t:ByteArray):(pLine j t true).1.nodes=j.nodes:=by
 unfold pLine;split
 ·rfl
 ·rw[if_pos rfl];split
  ·split
   ·rfl
   ·cases (numB _ 1).2<;>rfl
  ·rfl
theorem pl_more (j:Jb) (t:ByteArray) (h:(pLine j t false).2=0):(pLine j t false).1.nodes.length=j.nodes.length+1:=by
 revert h
 unfold pLine;split
 ·intro h;contradiction
 ·rw[if_neg (fun h=>by cases h)];split
  ·intro h;exact absurd h (show ¬(130:Int)=0 by decide)
  ·split
   ·intro h;exact absurd h (show ¬(130:Int)=0 by decide)
   ·split
    ·split
     ·intro h;contradiction
     ·intro _;simp
    ·intro _;simp
theorem st1_at: ∀(l:List Nd) (k:Nat) (us:List ByteArray) (r:Int×Int),st1 l k us=some r->(k:Int)<=r.1/\r.1<(k:Int)+l.length
 |d::l,k,us,r,h=>by
  simp only[st1]at h
  have hl:((d::l).length:Int)=(l.length:Int)+1:=by simp
  rw[hl]
  cases hn:nodeB d k
  ·rw[hn]at h;simp only[cond_false,Option.some.injEq]at h;subst h;dsimp only;omega
  ·rw[hn]at h
   cases ht:twiceB (fun x y=>decide (x=y)) (us++ [d.uid])
   ·rw[ht]at h
    have:=st1_at l (k+1) _ r h
    omega
   ·rw[ht]at h;simp only[cond_true,Option.some.injEq]at h;subst h;dsimp only;omega
theorem st2_at (j:Jb): ∀(l:List Nd) (k:Nat) (f:Int) (ws:List Int) (r:Int×Int),st2 j l k f ws=some r->(k:Int)<=r.1/\r.1<(k:Int)+l.length
 |d::l,k,f,ws,r,h=>by
  simp only[st2]at h
  have hl:((d::l).length:Int)=(l.length:Int)+1:=by simp
  rw[hl]
  cases hn:badB j d k (flatN d f) (wayN d ws)
  ·rw[hn]at h
   have:=st2_at j l (k+1) _ _ r h
   omega
  ·rw[hn]at h;simp only[cond_true,Option.some.injEq]at h;subst h;dsimp only;omega
theorem may_at (j:Jb) (h:j.may.2≠0) (h2:j.may.2≠2):0<=j.may.1/\j.may.1<(j.nodes.length:Int):=by
 revert h h2
 unfold Jb.may;split
 ·intro _ h;exact absurd rfl h
 ·cases e1:st1 j.nodes 0 []with
  |some r=>
   intro _ _;have:=st1_at _ _ _ _ e1;dsimp only;omega
  |none=>
   dsimp only
   cases e2:st2 j j.nodes 0 0 []with
   |some r=>
    intro _ _;have:=st2_at j _ _ _ _ _ e2;dsimp only;omega
   |none=>intro h;exact absurd rfl h
theorem spl_le: ∀(l cur:List UInt8),(spl cur l).length<=cur.length+l.length/\ ∀x∈spl cur l,x.length<=cur.length+l.length
 | [],cur=>by
  simp only[spl]
  cases cur with
  |nil=>simp
  |cons a l=>simp
 |b::l,cur=>by
  simp only[spl]
  cases hb:blankU b
  ·have:=spl_le l (cur++ [b])
   simp only[cond_false]
   refine⟨by have:=this.1;simp at this⊢;omega,fun x hx=>?_⟩
   have:=this.2 x hx
   simp at this⊢;omega
  ·have ih:=spl_le l []
   simp only[cond_true]
   cases cur with
   |nil=>
    simp only[List.isEmpty_nil,cond_true]
    refine⟨by have:=ih.1;simp at this⊢;omega,fun x hx=>?_⟩
    have:=ih.2 x hx
    simp at this⊢;omega
   |cons a r=>
    simp only[List.isEmpty_cons,cond_false]
    refine⟨by have:=ih.1;simp at this⊢;omega,fun x hx=>?_⟩
    rcases List.mem_cons.1 hx with rfl|hx
    ·simp
    ·have:=ih.2 x hx
     simp at this⊢;omega
theorem words_le (s:ByteArray):(wordsB s).1.length<=400/\ ∀x∈(wordsB s).1,x.size<=400:=by
 unfold wordsB;by_cases h:400<s.size
 ·rw[if_pos h];simp
 ·rw[if_neg h]
  cases (runes s).any badR
  ·simp only[cond_false,List.length_map];have hl:=Lib.size_eq s;have:=spl_le s.data.toList [];refine⟨by have:=this.1;simp at this;omega,fun x hx=>?_⟩;obtain⟨y,hy,rfl⟩:=List.mem_map.1 hx;have:=this.2 y hy;rw[ba_size];simp at this;omega
  ·simp
theorem ahead_le (s:ByteArray):(ba (aheadL s)).size<=s.size:=by
 rw[ba_size,Lib.size_eq];exact(List.takeWhile_prefix _).length_le
def LinePost (j:Jb) (s:ByteArray) (first:Bool) (jb B0:Nat) (P:Nat->Prop) (av:Value) (w:World) (e:Ending) (w':World):Prop:=
 e= .returned (.int .i64 (pLine j s first).2)/\Fr (fun k=>k=jb\/av.ownBlock=some k) w w'/\ ∃av' cs ivs svs,Blk w' jb 24 #[.int .i64 (pLine j s first).1.par,av']/\NRw B0 (fun b=>P b\/w.heap.size<=b) w' (pLine j s first).1.nodes av' cs ivs svs
theorem linePost_same {j:Jb} {s:ByteArray} {first:Bool} {jb B0:Nat} {P:Nat->Prop} {av:Value} {cs:List Value} {ivs svs:Nat->Value} {w w':World} {z:Int} (hp:pLine j s first=(j,z)) (hj:Blk w jb 24 #[.int .i64 j.par,av]) (hn:NRw B0 P w j.nodes av cs ivs svs) (hb:Below w.heap.size w w'):
  LinePost j s first jb B0 P av w (.returned (.int .i64 z)) w':=by
 unfold LinePost;rw[hp];exact⟨rfl,Fr.of_new hb,av,cs,ivs,svs,hj.below hb hj.lt,hn.keepP hb.size (fun q hq=>hb.block q (hn.own.lt q hq).2) (fun b hp hl _=>⟨.inl hp,hb.block b hl⟩)⟩
theorem line_first (j:Jb) (s:ByteArray) (jb B0:Nat) (P:Nat->Prop) (av:Value) (cs:List Value) (ivs svs:Nat->Value) (w:World) (hj:Blk w jb 24 #[.int .i64 j.par,av]) (hn:NRw B0 P w j.nodes av cs ivs svs) (hB0:jb<B0) (hP: ∀b,P b->B0<=b) (hs:s.size<=maxLen):
  Calls prog 154 #[.pointer (some ⟨jb,0,none⟩),.string s,.bool true] w (LinePost j s true jb B0 P av w):=by
 have hlw:=words_le (ba (aheadL s));have hla:=ahead_le s;have HP:Hd (pLine j s true=if(wordsB (ba (aheadL s))).2≠0 then(j,(wordsB (ba (aheadL s))).2)else match (wordsB (ba (aheadL s))).1 with
  | [a,b]=>if a≠parW\/hasColon s=true then(j,130)else bif (numB b 1).2 then(⟨(numB b 1).1,j.nodes⟩,0)else(j,130)
  |_=>(j,130)):=rfl
 have HJ:=Lh hj;have HN:=Lh hn;have hjl:=hj.lt;have HPT:=Lh (sparts_c s w hs);have HWD:Hd (∀w,Calls prog 179 #[.string (ba (aheadL s))] w (WordsPost (ba (aheadL s)) w)):=fun w=>Words_c _ w (by omega);unfold WordsPost at HWD;generalize wordsB (ba (aheadL s))=W at*;generalize ba (aheadL s)=A at*;generalize hasColon s=C at*;generalize (bif C then ba (behindL s)else {data:=#[]})=BH at*;obtain⟨wl,we⟩:=W;dsimp only at hlw HP;have LP:Hd (∀(z:Int) (w':World),pLine j s true=(j,z)->Below w.heap.size w w'->LinePost j s true jb B0 P av w (.returned (.int .i64 z)) w'):=fun z w' h hb=>linePost_same h hj hn hb;clear hj hn hla;go_enter func154,ntmps154
 go_wp2_with fail
 refine HPT.o.mono ?_;rintro e w1 ⟨rfl,hb1⟩
 go_wp2_with fail
 refine(HWD.o w1).mono ?_;rintro e w2 ⟨v,rfl,hsl,hb2⟩;have hb3:=hb1.trans (hb2.mono hb1.size);obtain⟨_,a,cap,rfl,hcap,hmx,_⟩:=id hsl;have HSL:=Lh hsl;clear hsl HPT HWD;by_cases he:we=0
 ·subst he;rw[if_neg (fun h=>h rfl)]at HP;by_cases hl:wl.length=2
  ·obtain⟨x,y,rfl⟩: ∃x y,wl=[x,y]:=by
    match wl,hl with
    | [x,y],_=>exact⟨x,y,rfl⟩
   dsimp only at HP;obtain⟨b0,o0,k0,e0,hlt0,_,c0⟩:=HSL.o.str 0 (by simp);obtain⟨_,_,_,e1,_,_,c1⟩:=HSL.o.str 1 (by simp);simp only[vs0,true_and]at e0;obtain⟨rfl,rfl⟩:=e0;simp only[vs0,true_and,Option.some.injEq,Addr.mk.injEq,and_true]at e1;obtain⟨⟨rfl,rfl⟩,rfl⟩:=e1;rw[Nat.add_zero]at c0;simp only[List.getElem_cons_zero,List.getElem_cons_succ]at c0 c1;have hys:y.size<=maxLen:=by have:=hlw.2 y (by simp);unfold maxLen;omega
   clear hl hlw hcap hmx;by_cases hx:x={data:=#[112,97,114]}
   ·subst hx
    cases C
    ·rw[if_neg (fun h=>h.elim (fun h=>h rfl) (fun h=>by cases h))]at HP;have HNM:Hd (∀w,CB prog 180 #[.string y,.int .i64 1] w (.tuple #[.int .i64 (numB y 1).1,.bool (numB y 1).2])):=fun w=>snumber_c y 1 (by omega) w hys;generalize numB y 1=nb at*;obtain⟨nv,nok⟩:=nb
     go_wp2_with fail
     refine(HNM.o w2).mono ?_;rintro e w3 ⟨rfl,hb4⟩;have hb5:=hb3.trans (hb4.mono hb3.size);clear c0 c1
     cases nok
     ·go_wp2_with fail
      go_ret;exact LP.o _ _ HP.o hb5
     ·have hj3:=HJ.o.below hb5 hjl;have hn3:=HN.o.keepP (P':=fun b=>P b\/w.heap.size<=b) hb5.size (fun q hq=>hb5.block q (HN.o.own.lt q hq).2) (fun b hp hl _=>⟨.inl hp,hb5.block b hl⟩);have HN3:=Lh hn3;have HJ3:=Lh hj3;have j0:=hj3.cell 0;have jf:=hj3.free 0;clear hn3 hj3
      go_wp2_with fail
      go_ret;have hfr:Fr (fun k=>k=jb) w3 (w3.setCell ⟨jb,0,none⟩ (.int .i64 nv)):=(Fr.refl (fun k=>k=jb) w3).setCell (p:=⟨jb,0,none⟩) (.inl rfl) _;unfold LinePost;rw[HP.o];refine⟨rfl,(Fr.of_new hb5).trans (hfr.mono (fun k _ hk=> .inl hk)),av,cs,ivs,svs,HJ3.o.set 0 _,?_⟩;simp only[cond_true];refine HN3.o.keepP (Nat.le_of_eq (by simp)) (fun q hq=>heap_setCell_other w3 ⟨jb,0,none⟩ q _ (fun e=>?_)) (fun b hb hl _=>⟨hb,heap_setCell_other w3 ⟨jb,0,none⟩ b _ (fun e=>?_)⟩)
      ·have:=(HN3.o.own.lt q hq).1;dsimp only at e;omega
      ·dsimp only at e;rcases hb with hb|hb
       ·have:=hP b hb;omega
       ·omega
    ·rw[if_pos (.inr rfl)]at HP
     go_wp2_with fail
     go_ret;exact LP.o _ _ HP.o hb3
   ·rw[if_pos (.inl hx)]at HP;have hx':=hx;clear hx;have hq1:(x.toList==({data:=#[112,97,114]}:ByteArray).toList)=false:=by rw[strEq];simpa using hx'
    have hq3:(x.toList==[112,97,114])=false:=by
     rw[show([112,97,114]:List UInt8)=({data:=#[112,97,114]}:ByteArray).toList by kernel_rfl];exact hq1
    clear hq1 hx'
    go_wp2_with fail
    go_ret;exact LP.o _ _ HP.o hb3
  ·have hle:((wl.length:Int)==2)=false:=by rw[bq0];omega
   have hln:((wl.length:Int) !=2)=true:=by rw[bne_iff_ne];omega
   have HP2:Hd (pLine j s true=(j,130)):=by
    unfold Hd;rw[HP.o]
    match wl,hl with
    | [],_=>rfl
    | [_],_=>rfl
    |_::_::_::_,_=>rfl
   go_wp2_with fail
   go_ret;exact LP.o _ _ HP2.o hb3
 ·have heb:(we !=0)=true:=by rw[bne_iff_ne];exact he
  rw[if_pos he]at HP
  go_wp2_with fail
  go_ret;exact LP.o _ _ HP.o hb3
