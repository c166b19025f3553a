/- Parts. -/
import Derived.Deep.AppendLies
import Derived.Deep.RegionLaw
import Derived.Shelf.Abstract
import Derived.Test.YtgbfdcmkbblodaaGreatDoorVW2
import Derived.Test.YtgbfdcmkbblodaaGreatDoorVW7
namespace Go.Proofs.YtgbfdcmkbblodaaGreatDoor
open Go.RowKit
set_option linter.unusedVariables false
set_option linter.unusedSimpArgs false
set_option maxRecDepth 100000
set_option maxHeartbeats 16000000
open Tryz
def Bq (w:World) (b:Nat) (v:Value):Prop:= ∃t,Blk w b t #[v]
namespace Bq
variable {w w':World} {b:Nat} {v:Value}
theorem cell (h:Bq w b v):w.cell? ⟨b,0,none⟩=some v:=by obtain⟨t,h⟩:=h;rw[h.cell 0];rfl
theorem fr {S:Nat->Prop} (h:Bq w b v) (hf:Fr S w w') (hs: ¬S b):Bq w' b v:=let ⟨t,h⟩:=h;⟨t,h.fr hf hs⟩
theorem alloc (h:Bq w b v) (o:Obj):Bq (w.alloc o) b v:=let ⟨t,h⟩:=h;⟨t,h.alloc o⟩
theorem lt (h:Bq w b v):b<w.heap.size:=let ⟨t,h⟩:=h;h.lt
theorem keep (h:Bq w b v) (hk:w'.heap[b]? =w.heap[b]?):Bq w' b v:=let ⟨t,h⟩:=h;⟨t,hk.trans h⟩
theorem new_at (w:World) (v:Value) (t:TypeId) {k:Nat} (hk:k=w.heap.size):Bq (w.alloc (.cells #[v] t)) k v:=⟨t,Blk.new_at w _ _ hk⟩
end Bq
def px (b:Nat):Value:= .pointer (some ⟨b,0,none⟩)
def appPartV (bf bs:Nat):Value:= .func (.func 112) #[] #[px bf,px bs]
def appDoesV (bp bs:Nat):Value:= .func (.func 114) #[] #[px bp,px bs]
def cutV (bf bn:Nat):Value:= .func (.func 116) #[] #[px bf,px bn]
def mvV (ba bb:Nat):Value:= .func (.func 117) #[] #[px ba,px bb]
def ChgAt (w:World) (P:Nat->Prop) (v1 v2:Value):Chg->Prop
 | .app f s=> ∃bp bs bf,v1=appDoesV bp bs/\v2=appPartV bf bs/\Bq w bp v2/\Bq w bs (.string s)/\Bq w bf (.int .i64 f)/\P bp/\P bs/\P bf
 | .cut f n=> ∃bf bn,v1=cutV bf bn/\v2= .nilFunc/\Bq w bf (.int .i64 f)/\Bq w bn (.int .i64 n)/\P bf/\P bn
 | .mv a b=> ∃ba bb,v1=mvV ba bb/\v2= .nilFunc/\Bq w ba (.int .i64 a)/\Bq w bb (.int .i64 b)/\P ba/\P bb
theorem ChgAt.keep {w w':World} {P Q:Nat->Prop} {v1 v2:Value} {c:Chg} (h:ChgAt w P v1 v2 c) (hPQ: ∀b,P b->Q b) (hk: ∀b,P b->w'.heap[b]? =w.heap[b]?):ChgAt w' Q v1 v2 c:=by
 cases c with
 |app f s=>
  obtain⟨bp,bs,bf,h1,h2,h3,h4,h5,p1,p2,p3⟩:=h;exact⟨bp,bs,bf,h1,h2,h3.keep (hk _ p1),h4.keep (hk _ p2),h5.keep (hk _ p3),hPQ _ p1,hPQ _ p2,hPQ _ p3⟩
 |cut f n=>
  obtain⟨bf,bn,h1,h2,h3,h4,p1,p2⟩:=h;exact⟨bf,bn,h1,h2,h3.keep (hk _ p1),h4.keep (hk _ p2),hPQ _ p1,hPQ _ p2⟩
 |mv a b=>
  obtain⟨ba,bb,h1,h2,h3,h4,p1,p2⟩:=h;exact⟨ba,bb,h1,h2,h3.keep (hk _ p1),h4.keep (hk _ p2),hPQ _ p1,hPQ _ p2⟩
def rowB (v:Value) (g:Nat):Prop:= ∃o n c,v= .slice (some ⟨g,o,none⟩) n c
structure LooseAt (w:World) (M:Nat->Prop) (D:Nat) (v:Value) (cs:List Chg):Prop where
 ex: ∃cells,w.ownsRow 0 113 2 v cs.length cells/\ ∀i (h:i<cs.length),∃v1 v2,cells[i*2]? =some v1/\cells[i*2+1]? =some v2/\ChgAt w (fun b=>M b/\b≠D/\ ¬rowB v b) v1 v2 cs[i]
 row: ∀g,rowB v g->M g/\g≠D
structure DkAt (w:World) (M:Nat->Prop) (D:Nat) (d:Dk):Prop where
 inv:d.Inv
 mem:M D
 lt: ∀b,M b->b<w.heap.size
 ex: ∃lv,Blk w D 102 (dkC d lv)/\LooseAt w M D lv d.loose
theorem ownsRow_keep {w w':World} {base:Nat} {e:TypeId} {size:Nat} {v:Value} {n:Nat} {xs:List Value} (h:w.ownsRow base e size v n xs) (hk: ∀g,rowB v g->w'.heap[g]? =w.heap[g]?):w'.ownsRow base e size v n xs:=by
 obtain⟨h1,h2⟩:=h;refine⟨h1,?_⟩;rcases h2 with h2|⟨g,cap,cur,rfl,hb,hg,hr⟩
 ·exact .inl h2
 ·exact .inr ⟨g,cap,cur,rfl,hb,(hk g ⟨_,_,_,rfl⟩).trans hg,hr⟩
theorem LooseAt.keep {w w':World} {M N:Nat->Prop} {D:Nat} {v:Value} {cs:List Chg} (h:LooseAt w M D v cs) (hMN: ∀b,M b->N b) (hk: ∀b,M b->b≠D->w'.heap[b]? =w.heap[b]?):LooseAt w' N D v cs:=by
 obtain⟨⟨cells,ho,hc⟩,hr⟩:=h;refine⟨⟨cells,ownsRow_keep ho fun g hg=>hk g (hr g hg).1 (hr g hg).2,fun i hi=>?_⟩,fun g hg=>⟨hMN g (hr g hg).1,(hr g hg).2⟩⟩;obtain⟨v1,v2,c1,c2,c3⟩:=hc i hi;exact⟨v1,v2,c1,c2,c3.keep (fun b hb=>⟨hMN b hb.1,hb.2⟩) fun b hb=>hk b hb.1 hb.2.1⟩
theorem LooseAt.nil (w:World) (M:Nat->Prop) (D:Nat):LooseAt w M D (.slice none 0 0) []:=
 ⟨⟨[],World.ownsRow_nil _ _ _ _,fun i hi=>absurd hi (Nat.not_lt_zero _)⟩,fun g ⟨o,n,c,h⟩=>by simp at h⟩
def DkTo (w w':World) (M:Nat->Prop) (D:Nat) (d':Dk):Prop:=Fr M w w'/\ ∃N,(∀b,N b->M b\/w.heap.size<=b)/\DkAt w' N D d'
namespace DkAt
variable {w w':World} {M N:Nat->Prop} {D:Nat} {d:Dk}
theorem keep (h:DkAt w M D d) (hs:w.heap.size<=w'.heap.size) (hk: ∀b,M b->w'.heap[b]? =w.heap[b]?):DkAt w' M D d:=by
 obtain⟨lv,h1,h2⟩:=h.ex;exact⟨h.inv,h.mem,fun b hb=>lt1 (h.lt b hb) hs,lv,(hk D h.mem).trans h1,h2.keep (fun _ k=>k) fun b hb _=>hk b hb⟩
theorem fr {S:Nat->Prop} (h:DkAt w M D d) (hf:Fr S w w') (hS: ∀b,M b-> ¬S b):DkAt w' M D d:=h.keep hf.size fun b hb=>hf.block b (h.lt b hb) (hS b hb)
theorem below (h:DkAt w M D d) (hb:Below w.heap.size w w'):DkAt w' M D d:=h.keep hb.size fun b hm=>hb.block b (h.lt b hm)
theorem tos (h:DkAt w M D d):DkTo w w M D d:=⟨Fr.refl _ _,M,fun _ hb=> .inl hb,h⟩
theorem toB (h:DkAt w M D d) (hb:Below w.heap.size w w'):DkTo w w' M D d:=⟨Fr.of_new hb,M,fun _ hb=> .inl hb,h.below hb⟩
theorem set {d':Dk} {lv:Value} (h:DkAt w M D d) (hi:d'.Inv) (hb:Blk w' D 102 (dkC d' lv)) (hf:Fr (· =D) w w') (hl:LooseAt w M D lv d'.loose):DkTo w w' M D d':=
 ⟨hf.mono (fun k _ e=>e▸h.mem),M,fun _ hb=> .inl hb,hi,h.mem,fun b hm=>lt1 (h.lt b hm) hf.size,lv,hb,hl.keep (fun _ k=>k) fun b hm hne=>hf.block b (h.lt b hm) hne⟩
end DkAt
theorem DkTo.trans {w w1 w2:World} {M:Nat->Prop} {D:Nat} {d1 d2:Dk} (h:DkTo w w1 M D d1) (k: ∀N,DkAt w1 N D d1->DkTo w1 w2 N D d2):DkTo w w2 M D d2:=by
 obtain⟨hf,N,hN,h1⟩:=h;obtain⟨hf2,N2,hN2,h2⟩:=k N h1;refine⟨hf.step hf2 (fun _ _ h=>h) (fun i hi hn=>?_),N2,fun b hb=>?_,h2⟩
 ·rcases hN i hn with h|h
  ·exact h
  ·omega
 ·rcases hN2 b hb with h|h
  ·rcases hN b h with h|h
   ·exact .inl h
   ·exact .inr h
  ·exact .inr (le1 hf.size h)
theorem grp_tmod (k:Int):grp k=if k.tmod 8<0 then k.tmod 8+8 else k.tmod 8:=by
 unfold grp;rw[Int.tmod_eq_emod];split<;>split<;>omega
theorem grpOf_c (k:Int) (w:World):Calls prog 134 #[.int .i64 k] w fun e w'=>e= .returned (.int .i64 (grp k))/\w=w':=by
 have hg:=grp_tmod k;have h1: -8<k.tmod 8/\k.tmod 8<8:=⟨Int.lt_tmod_of_pos k (by decide),Int.tmod_lt_of_pos k (by decide)⟩;have hw:IntKind.i64.wrap (k.tmod 8+8)=k.tmod 8+8:=IntWalk.i64_in _ (by omega);go_enter func134,ntmps134;go_wp2
 all_goals
  go_ret;exact⟨ret_int (by rw[hg];split<;>omega),rfl⟩
theorem isNaN_c (k:Int) (w:World):Calls prog 191 #[.int .i64 k] w fun e w'=>e= .returned (.bool false)/\w=w':=by
 go_enter func191,ntmps191;go_wp2;go_ret;exact⟨ret_bool (by simp),rfl⟩
theorem isNaN64_c (k:Int) (w:World):Calls prog 192 #[.int .i64 k] w fun e w'=>e= .returned (.bool false)/\w=w':=by
 go_enter func192,ntmps192;go_wp2;go_ret;exact⟨ret_bool (by simp),rfl⟩
def cmpI (a b:Int):Int:=if a<b then-1 else if b<a then 1 else 0
theorem Compare_c (a b:Int) (w:World):Calls prog 165 #[.int .i64 a,.int .i64 b] w fun e w'=>e= .returned (.int .i64 (cmpI a b))/\w=w':=by
 go_enter func165,ntmps165
 go_wp2_with (first|(go_at_call 191;refine(isNaN_c _ _).mono ?_;rintro e w1 ⟨rfl,rfl⟩)|fail)
 all_goals
  go_ret;exact⟨ret_int (by unfold cmpI;(repeat' split)<;>omega),rfl⟩
theorem Compare64_c (a b:Int) (w:World):Calls prog 166 #[.int .i64 a,.int .i64 b] w fun e w'=>e= .returned (.int .i64 (cmpI a b))/\w=w':=by
 go_enter func166,ntmps166
 go_wp2_with (first|(go_at_call 192;refine(isNaN64_c _ _).mono ?_;rintro e w1 ⟨rfl,rfl⟩)|fail)
 all_goals
  go_ret;exact⟨ret_int (by unfold cmpI;(repeat' split)<;>omega),rfl⟩
def orI (a b:Int):Int:=if a≠0 then a else b
theorem Or_c (a b:Int) (B:Nat) (w:World) (h:Blk w B 3 #[.int .i64 a,.int .i64 b]):Calls prog 164 #[.slice (some ⟨B,0,none⟩) 2 2] w fun e w'=>e= .returned (.int .i64 (orI a b))/\w=w':=by
 have c0:=h.cell 0;have c1:=h.cell 1;have HE:Hd (orI a b=if a≠0 then a else b):=rfl;generalize orI a b=R at*;go_enter func164,ntmps164
 go_wp2_with fail
 refine wp_loop_rounds 3 ?_;rw[rounds_succ];by_cases ha:a=0
 ·have e0:(a !=0)=false:=by simpa using ha
  have HE2:Hd (R=b):=by show _=_;rw[HE.o,if_neg (by simpa using ha)]
  clear ha HE
  go_wp2_with fail
  rw[rounds_succ];by_cases hb:b=0
  ·have e1:(b !=0)=false:=by simpa using hb
   have HB:=Lh hb;clear hb
   go_wp2_with fail
   rw[rounds_succ]
   go_wp2_with fail
   go_ret;exact⟨ret_int (by rw[HE2.o,HB.o]),rfl⟩
  ·have e1:(b !=0)=true:=by simpa using hb
   clear hb
   go_wp2_with fail
   go_ret;exact⟨ret_int HE2.o.symm,rfl⟩
 ·have e0:(a !=0)=true:=by simpa using ha
  have HE2:Hd (R=a):=by show _=_;rw[HE.o,if_pos ha]
  clear ha HE
  go_wp2_with fail
  go_ret;exact⟨ret_int HE2.o.symm,rfl⟩
theorem bef_or (a b:Int):bef a b=orI (cmpI (grp a) (grp b)) (cmpI a b):=by
 unfold bef orI cmpI
 repeat' split
 all_goals first|rfl|omega
theorem before_g (a b:Int) (w:World):Calls prog 132 #[.int .i64 a,.int .i64 b] w fun e w'=>e= .returned (.int .i64 (bef a b))/\ ∃o,w'=w.alloc o:=by
 rw[bef_or];generalize hx:cmpI (grp a) (grp b)=x;generalize hy:cmpI a b=y;have HX:=Lh hx;have HY:=Lh hy;have HB:Hd (∀W:World,Blk (W.alloc (.cells #[.int .i64 x,.int .i64 y] 3)) W.heap.size 3 #[.int .i64 x,.int .i64 y]):=fun W=>Blk.new W _ _;clear hx hy;go_enter func132,ntmps132
 go_wp2_with (first
  |(go_at_call 134;refine(grpOf_c _ _).mono ?_;rintro e w1 ⟨rfl,rfl⟩)
  |(go_at_call 165;refine(Compare_c _ _ _).mono ?_;rintro e w1 ⟨rfl,rfl⟩;rw[HX.o])
  |(go_at_call 166;refine(Compare64_c _ _ _).mono ?_;rintro e w1 ⟨rfl,rfl⟩;rw[HY.o])
  |(go_at_call 164;refine(Or_c x y _ _ (HB.o _)).mono ?_;rintro e w1 ⟨rfl,rfl⟩)
  |fail)
 go_ret;exact⟨rfl,_,rfl⟩
theorem before_c (a b:Int) (w:World):CB prog 132 #[.int .i64 a,.int .i64 b] w (.int .i64 (bef a b)):=by
 refine(before_g a b w).mono ?_;rintro e w1 ⟨rfl,o,rfl⟩;exact⟨rfl,br0.alloc le0 _⟩
theorem New_t (w:World):Calls prog 76 #[] w fun e w'=>e= .returned (px (w.heap.size+1))/\Below w.heap.size w w'/\w'.heap.size=w.heap.size+2/\Blk w' (w.heap.size+1) 194 #[.map (some w.heap.size)]/\MapI w' .i64 w.heap.size []:=by
 go_enter func76,ntmps76
 go_wp2_with (first|(refine wpList_makeMapI _ _ rfl rfl .i64 ?_;intro hm)|fail)
 go_ret;exact⟨rfl,(br0.alloc le0 _).alloc (by simp) _,by simp,Blk.new_at _ _ _ (by simp),hm.alloc _⟩
def cntK (kv:List (Int×Value)) (g:Int):Nat:=(kv.filter fun p=>grp p.1==g).length
theorem cntK_perm {a b:List (Int×Value)} (h:a.Perm b) (g:Int):cntK a g=cntK b g:=(h.filter _).length_eq
theorem cntK_cons (p:Int×Value) (l:List (Int×Value)) (g:Int):cntK (p::l) g=(if grp p.1==g then 1 else 0)+cntK l g:=by
 unfold cntK;rw[List.filter_cons];split<;>simp<;>omega
theorem cntK_le (l:List (Int×Value)) (g:Int):cntK l g<=l.length:=List.length_filter_le _ _
theorem tmany_c (T B:Nat) (kv:List (Int×Value)) (g:Int) (w:World) (hT:Blk w T 194 #[.map (some B)]) (hm:MapI w .i64 B kv) (hk:kv.length<=1000000):
  CB prog 133 #[px T,.int .i64 g] w (.int .i64 (cntK kv g:Nat)):=by
 have c0:=hT.cell 0;have HM:=Lh hm;unfold px;go_enter func133,ntmps133
 go_wp2_with (first|(at_range;refine wpList_rangeI _ _ 2 189 underlying192 rfl _ rfl B kv rfl hm ?_;intro w1 hrg1 hb1 hs1)|fail)
 go_frame
 go_loopw [5] (fun n wr=> ∃(left:List (Int×Value)) (m:Nat),n= .int .i64 (m:Int)/\RgI wr .i64 B w.heap.size kv left/\m+cntK left g=cntK kv g/\m<=1000000/\Below w.heap.size w wr) (fun _ wr=>rgLeft wr B w.heap.size)
 case atStart=>exact⟨kv,0,rfl,hrg1,Nat.zero_add _,ze0,hb1⟩
 case round=>
  obtain⟨left,m,rfl,hrg,hc,hm6,hb⟩:=hrel
  go_wp2_with (first|(at_next;refine wpList_nextI _ rfl _ rfl B w.heap.size kv left rfl hrg ?_ ?_)|fail)
  ·intro h0;subst h0
   go_wp2_with fail
   go_ret;exact⟨by rw[<-hc];rfl,hb⟩
  ·intro x v l2 w2 hp hm2 hrg2 hf2 hs2 hen;have hcc:=cntK_perm hp g;rw[cntK_cons]at hcc;have hlt:=hrg2.left;have hlo:=hrg.left;have hpl:=hp.length_eq;rw[List.length_cons]at hpl;have hle:=cntK_le kv g;have hb2:=hb.trans (hf2.below (B:=w.heap.size) hb.size (fun k hk e=>by omega));by_cases hx:grp x=g
   ·have e0:(grp x==g)=true:=by simpa using hx
    rw[if_pos e0]at hcc;have HCC:=Lh hcc;have HC:=Lh hc;clear hcc hc hx
    go_wp2_with (first|(go_at_call 134;refine(grpOf_c _ _).mono ?_;rintro e w3 ⟨rfl,rfl⟩)|fail)
    go_roundw
    case rel=>exact⟨l2,m+1,by go_num,hrg2,by have:=HCC.o;have:=HC.o;omega,by have:=HCC.o;have:=HC.o;omega,hb2⟩
    case measure=>omega
   ·have e0:(grp x==g)=false:=by simpa using hx
    rw[if_neg (by rw[e0];decide)]at hcc;have HCC:=Lh hcc;have HC:=Lh hc;clear hcc hc hx
    go_wp2_with (first|(go_at_call 134;refine(grpOf_c _ _).mono ?_;rintro e w3 ⟨rfl,rfl⟩)|fail)
    go_roundw
    case rel=>exact⟨l2,m,rfl,hrg2,by have:=HCC.o;have:=HC.o;omega,hm6,hb2⟩
    case measure=>omega
theorem bits_or_comm (k:IntKind) (x y:Int):bits .or k x y=bits .or k y x:=by
 unfold bits;dsimp only;rw[BitVec.or_comm]
theorem or16 (a b:Nat) (ha:a<65521) (hb:b<65521):bits .or .u64 ((b:Int)*65536) (a:Int)=65536*(b:Int)+a:=by
 rw[bits_or_comm,bits_join_low .u64 64 (by decide) wraps_u64 16 (a:Int) ((b:Int)*65536) (by omega) (by omega) (by omega) (by omega) (by omega) (by omega)];omega
theorem sumMore_c (s:ByteArray) (hs:s.size<=140737488355328) (w:World):Calls prog 138 #[.int .u32 1,.string s] w fun e w'=>e= .returned (.int .u32 (sumB s.data.toList))/\w=w':=by
 have hlen:s.data.toList.length=s.size:=(Lib.size_eq s).symm;have HST:Hd (∀k (h:k<s.size),smL (1,0) (s.data.toList.take (k+1))=sm1 (smL (1,0) (s.data.toList.take k)) s[k]):=fun k h=>smL_take (1,0) s.data.toList k (by rw[hlen];exact h);have HLT:Hd (∀k,(smL (1,0) (s.data.toList.take k)).1<65521/\(smL (1,0) (s.data.toList.take k)).2<65521):=fun k=>smL_lt _ _ (by decide) (by decide);have HE:Hd (s.data.toList.take s.size=s.data.toList):=by show _=_;exact List.take_of_length_le (by rw[hlen];exact le0)
 have HSB:Hd (sumB s.data.toList=65536*(smL (1,0) s.data.toList).2+(smL (1,0) s.data.toList).1):=rfl;generalize sumB s.data.toList=R at*;clear hlen;go_enter func138,ntmps138
 go_wp2_with fail
 go_loop [5,6,16] (fun a b q=> ∃k:Nat,q= .int .i64 k/\k<=s.size/\a= .int .u64 ((smL (1,0) (s.data.toList.take k)).1:Nat)/\b= .int .u64 ((smL (1,0) (s.data.toList.take k)).2:Nat)) (fun _ _ q=>s.size-(intOf q).toNat)
 case atStart=>exact⟨0,rfl,ze0,by rfl,by rfl⟩
 case round=>
  obtain⟨k,rfl,hk,rfl,rfl⟩:=hrel;by_cases hlt:k<s.size
  ·have hst:=HST.o k hlt;have hl1:=HLT.o k;have HST1:=Lh hst;have hc8:(s[k]).toNat<256:=(s[k]).toNat_lt;clear hst;generalize smL (1,0) (s.data.toList.take k)=p at*;generalize hcc:s[k]=c at*;obtain⟨a,b⟩:=p;obtain⟨ha,hb⟩:=hl1;dsimp only at ha hb HST1⊢
   go_wp2_with fail
   go_round
   case rel=>
    refine⟨k+1,by go_num,by omega,?_,?_⟩
    ·rw[HST1.o];simp only[sm1];congr 1
    ·rw[HST1.o];simp only[sm1];congr 1
   case measure=>simp[intOf];omega
  ·obtain rfl:k=s.size:=by omega
   have hl1:=HLT.o s.size;rw[HE.o]at hl1⊢;generalize smL (1,0) s.data.toList=p at*;obtain⟨a,b⟩:=p;obtain⟨ha,hb⟩:=hl1;dsimp only at ha hb HSB⊢
   go_wp2_with fail
   go_ret;rw[HSB.o];refine⟨?_,rfl⟩;have:=or16 a b ha hb;simp;omega
theorem sumOf_c (s:ByteArray) (hs:s.size<=140737488355328) (b:Nat) (w:World) (hc:w.cell? ⟨b,0,none⟩=some (.string s)):Calls prog 79 #[.slice (some ⟨b,0,none⟩) 1 1] w fun e w'=>e= .returned (.int .u32 (sumB s.data.toList))/\w=w':=by
 have HM:=Lh (sumMore_c s hs w);generalize sumB s.data.toList=R at*;go_enter func79,ntmps79
 go_wp2_with fail
 refine wp_loop_rounds 2 ?_;rw[rounds_succ]
 go_wp2_with (first|(go_at_call 138;refine HM.o.mono ?_;rintro e w1 ⟨rfl,rfl⟩)|fail)
 rw[rounds_succ]
 go_wp2_with fail
 go_ret;exact⟨rfl,rfl⟩
set_option linter.unusedVariables false in
theorem tail_conv (n:Nat) (hn:n<4294967296) (w:World) (b:Nat) (t:TypeId) (h:Blk w b t #[.int .u8 ((n:Int)%256),.int .u8 ((n:Int)/256%256),.int .u8 ((n:Int)/65536%256),.int .u8 ((n:Int)/16777216)]):
  (convert 141 9 (.slice (some ⟨b,0,none⟩) 4 4)).run prog w= .ok (.string (bstr (tailL n))) w:=by
 refine run_convert_bytes_back w 141 9 5 ⟨b,0,none⟩ 4 (tailL n) underlying141 underlying5 underlying9 ?_;intro j hj;rw[Addr.add_mid,Nat.zero_add,h.cell j];have hj4:j<4:=hj;have e: ∀m:Nat,m<256->((UInt8.ofNat m).toNat:Int)=(m:Int):=fun m hm=>by simp;omega
 match j,hj4 with
 |0,_=>show some (Value.int .u8 _)=some (Value.int .u8 ((UInt8.ofNat (n%256)).toNat:Int));rw[e _ (Nat.mod_lt _ (by decide))];congr 2
 |1,_=>show some (Value.int .u8 _)=some (Value.int .u8 ((UInt8.ofNat (n/256%256)).toNat:Int));rw[e _ (Nat.mod_lt _ (by decide))];congr 2
 |2,_=>show some (Value.int .u8 _)=some (Value.int .u8 ((UInt8.ofNat (n/65536%256)).toNat:Int));rw[e _ (Nat.mod_lt _ (by decide))];congr 2
 |3,_=>show some (Value.int .u8 _)=some (Value.int .u8 ((UInt8.ofNat (n/16777216%256)).toNat:Int));rw[e _ (Nat.mod_lt _ (by decide))];congr 2;omega
theorem ftail_c (n:Nat) (hn:n<4294967296) (w:World):CB prog 78 #[.int .u32 n] w (.string (bstr (tailL n))):=by
 have hconv:=tail_conv n hn _ _ _ (Blk.new w #[.int .u8 ((n:Int)%256),.int .u8 ((n:Int)/256%256),.int .u8 ((n:Int)/65536%256),.int .u8 ((n:Int)/16777216)] 199);go_enter func78,ntmps78
 go_wp2_with fail
 refine wp_loop_rounds 5 ?_;rw[rounds_succ]
 go_wp2_with fail
 rw[rounds_succ]
 go_wp2_with fail
 rw[rounds_succ]
 go_wp2_with fail
 rw[rounds_succ]
 go_wp2_with fail
 rw[rounds_succ]
 go_wp2_with fail
 go_ret;exact⟨rfl,br0.alloc le0 _⟩
theorem Fr.undrew {S:Nat->Prop} {a b:World} (h:Fr S a.drew b):Fr S a b:=⟨h.os,h.tape,h.output,h.size,h.block⟩
theorem dis_c (f:Int) (w:World):Calls prog 120 #[.int .i64 f] w fun e w'=>e= .returned (.bool (Dk.isF f))/\w=w':=by
 unfold Dk.isF;by_cases h:0<=f
 ·have hd:decide (0<=f)=true:=dt0 h;go_enter func120,ntmps120
  go_wp2_with fail
  go_ret;exact⟨ret_bool (by simp[hd]),rfl⟩
 ·have hd:decide (0<=f)=false:=df0 h;go_enter func120,ntmps120
  go_wp2_with fail
  go_ret;exact⟨ret_bool (by simp[hd]),rfl⟩
def rdy (off:Bool) (l:List Int):Int:=if off=true then 50 else if l.all Dk.isF=true then 0 else 2
theorem ready_c (D:Nat) (w:World) (d:Dk) (lv:Value) (hb:Blk w D 102 (dkC d lv)) (hd:d.Len) (l:List Int) (n B:Nat) (v:Value) (hv:Sl w B 1 v n (l.map (Value.int .i64))):
  Calls prog 63 #[px D,v] w fun e w'=>e= .returned (.int .i64 (rdy d.off l))/\w=w':=by
 have c34:=(hb.cell 34).trans (dkC_34 hd);have hn:l.length=n:=by have:=hv.1;rw[List.length_map]at this;omega
 have HV:=Lh hv;obtain⟨_,a,cap,rfl,hcap,hmx,_⟩:=hv;have HE:Hd (rdy d.off l=if d.off=true then 50 else if l.all Dk.isF=true then 0 else 2):=rfl;generalize rdy d.off l=R at*;unfold px;have hmx2:n<=9223372036854775807:=by unfold maxLen at hmx;omega
 generalize d.off=o at*
 cases o
 ·have HN:=Lh hn;clear hn;go_enter func63,ntmps63
  go_wp2_with fail
  go_loop [17] (fun q=> ∃k:Nat,q= .int .i64 k/\k<=n/\Hd ((l.take k).all Dk.isF=true)) (fun q=>n-(intOf q).toNat)
  case atStart=>exact⟨0,rfl,ze0,rfl⟩
  case round=>
   obtain⟨k,rfl,hk,hall⟩:=hrel;by_cases hlt:k<n
   ·obtain⟨b,off,cp,e1,_,hl,p0⟩:=HV.o.int k hlt;simp only[vs0,true_and]at e1;obtain⟨rfl,rfl⟩:=e1;have htk:(l.take (k+1)).all Dk.isF=Dk.isF l[k]:=by
     rw[List.take_succ_eq_append_getElem hl,List.all_append,hall.o];simp
    have HLM:=Lh (List.getElem_mem hl);generalize hx:l[k]=x at*;clear hx
    cases hf:Dk.isF x
    ·have HR:Hd (R=2):=by
      show _=_;rw[HE.o,if_neg (by decide),if_neg];intro h;have:=List.all_eq_true.1 h _ HLM.o;rw[hf]at this;exact absurd this (by decide)
     clear htk
     go_wp2_with (go_at_call 120;refine(dis_c _ _).mono ?_;rintro e w1 ⟨rfl,rfl⟩;rw[hf])
     first|go_ret|(rw[Exit.noGoto_ret];go_ret)
     rw[HR.o];exact⟨rfl,rfl⟩
    ·rw[hf]at htk;have HT:=Lh htk;clear htk
     go_wp2_with (go_at_call 120;refine(dis_c _ _).mono ?_;rintro e w1 ⟨rfl,rfl⟩;rw[hf])
     go_round
     case rel=>exact⟨k+1,by go_num,by omega,HT⟩
     case measure=>simp[intOf];omega
   ·obtain rfl:k=n:=by omega
    have HR:Hd (R=0):=by
     have:=hall.o;rw[List.take_of_length_le (by rw[HN.o];exact le0)]at this;show _=_;rw[HE.o,if_neg (by decide),if_pos this]
    clear hall
    go_wp2_with fail
    go_ret;rw[HR.o];exact⟨rfl,rfl⟩
 ·have HR:Hd (R=50):=by show _=_;rw[HE.o,if_pos rfl]
  go_enter func63,ntmps63
  go_wp2_with fail
  go_ret;rw[HR.o];exact⟨rfl,rfl⟩
theorem op_b (w:World) (D:Nat) (d:Dk) (lv:Value) (hb:Blk w D 102 (dkC d lv)) (hld:d.Len) (hr1: -1<=d.left) (hr2:d.left<=9223372036854775807):
  Calls prog 118 #[px D] w fun e w'=>e= .returned (.int .i64 d.op.2)/\Blk w' D 102 (dkC d.op.1 lv)/\Fr (· =D) w w':=by
 have c35:=(hb.cell 35).trans (dkC_35 hld);have f34:=hb.free 34;have f35:=hb.free 35;have c34:=(hb.cell 34).trans (dkC_34 hld);have HB:=Lh hb;unfold px;have HE:Hd (d.op=if d.left=0 then({d with off:=true},50)else if 0<d.left then({d with left:=d.left-1},0)else(d,0)):=rfl;generalize d.op=R at*;by_cases h0:d.left=0
 ·have HR:Hd (R=({d with off:=true},50)):=by show _=_;rw[HE.o,if_pos h0]
  rw[h0]at c35;clear h0 HE hb;go_enter func118,ntmps118
  go_wp2_with fail
  go_ret;rw[HR.o];have hF:Fr (· =D) w (w.setCell ⟨D,34,none⟩ (.bool true)):=(Fr.refl (fun x=>x=D) w).setCell (p:=⟨D,34,none⟩) (.inl rfl) _;have:=HB.o.set 34 (.bool true);rw[dkC_set_34 hld]at this;exact⟨rfl,this,hF⟩
 ·by_cases hp:0<d.left
  ·have HR:Hd (R=({d with left:=d.left-1},0)):=by show _=_;rw[HE.o,if_neg h0,if_pos hp]
   have d0:(d.left==0)=false:=by rw[bq0];exact h0
   have d1:decide (0<d.left)=true:=dt0 hp;generalize hL:d.left=L at c35 hr1 hr2 d0 d1 h0 hp;have HLL:=Lh hL;clear hL HE h0 hb;go_enter func118,ntmps118
   go_wp2_with fail
   go_ret;obtain rfl:=HLL.o;rw[HR.o];have hF:Fr (· =D) w (w.setCell ⟨D,35,none⟩ (.int .i64 (d.left-1))):=(Fr.refl (fun x=>x=D) w).setCell (p:=⟨D,35,none⟩) (.inl rfl) _;have:=HB.o.set 35 (.int .i64 (d.left-1));rw[dkC_set_35 hld]at this;exact⟨rfl,this,hF⟩
  ·have HR:Hd (R=(d,0)):=by show _=_;rw[HE.o,if_neg h0,if_neg hp]
   have d0:(d.left==0)=false:=by rw[bq0];exact h0
   have d1:decide (0<d.left)=false:=df0 hp;generalize d.left=L at c35 hr1 hr2 d0 d1 h0 hp;clear HE h0 hb;go_enter func118,ntmps118
   go_wp2_with fail
   go_ret;rw[HR.o];exact⟨rfl,HB.o,Fr.refl _ _⟩
theorem LooseAt.slice {w:World} {M:Nat->Prop} {D:Nat} {v:Value} {cs:List Chg} (h:LooseAt w M D v cs): ∃a cap,v= .slice a cs.length cap/\cs.length<=cap/\cap<=maxLen:=by
 obtain⟨⟨cells,⟨_,ho⟩,_⟩,_⟩:=h;rcases ho with ⟨rfl,h0⟩|⟨g,cap,cur,rfl,hb,hg,hn,hc,hs,ht⟩
 ·exact⟨none,0,by rw[h0],by omega,by unfold maxLen;omega⟩
 ·exact⟨_,cap,rfl,hn,hc⟩
theorem int_one {w:World} {b:Nat} {t:TypeId} {f:Int} (h:Blk w b t #[.int .i64 f]):Sl w w.heap.size 1 (.slice (some ⟨b,0,none⟩) 1 1) 1 ([f].map (Value.int .i64)):=
 ⟨rfl,_,1,rfl,le0,by unfold maxLen;omega,.inr ⟨b,0,rfl,h.lt,fun j hj=>by rw[Nat.zero_add,h.cell];simp⟩⟩
theorem rdy_nil (d:Dk):rdy d.off []=if d.off=true then 50 else 0:=by unfold rdy;simp
theorem clip_if (n:Int) (m:Nat):(if(if(m:Int)<n then(m:Int)else n)<0 then 0 else if(m:Int)<n then(m:Int)else n).toNat=clip n m:=by unfold clip;split<;>split<;>omega
theorem ext_all (s:ByteArray):s.extract 0 s.size=s:=by
 apply ByteArray.ext;rw[ByteArray.data_extract];exact Array.extract_size
theorem clip_all (m:Nat):clip (m:Int) m=m:=by unfold clip;omega
theorem appPart_c (D o bf bs f:Nat) (s x:ByteArray) (n:Int) (t:TypeId) (cs:Array Value) (w:World) (hb:Blk w D t cs) (hf:f<16) (hc:cs[o+f]? =some (.string x)) (hs:x.size+s.size<=140737488355328\/x.size+clip n s.size<=140737488355328/\s.size<=140737488355328) (h1:Bq w bf (.int .i64 f)) (h2:Bq w bs (.string s)):
  Calls prog 112 #[.pointer (some ⟨D,o,none⟩),.int .i64 n,px bf,px bs] w fun e w'=>e= .returned (.tuple #[])/\Blk w' D t (cs.setIfInBounds (o+f) (.string (x++s.extract 0 (clip n s.size))))/\Fr (· =D) w w':=by
 have c:=(hb.cell (o+f)).trans hc;have fz:=hb.free (o+f);have c1:=h1.cell;have c2:=h2.cell;have hcl:=clip_le n s.size;have HB:=Lh hb;clear hb h1 h2 hc;unfold px;go_enter func112,ntmps112
 go_region
 go_end0
 rw[clip_if];exact⟨rfl,(HB.o.set _ _).drew,((Fr.refl (fun x=>x=D) w).setCell (p:=⟨D,o+f,none⟩) (.inl rfl) _).drew⟩
theorem appDoes_c (D o bp bf bs f:Nat) (s x:ByteArray) (t:TypeId) (cs:Array Value) (w:World) (hb:Blk w D t cs) (hf:f<16) (hc:cs[o+f]? =some (.string x)) (hs:x.size+s.size<=140737488355328) (h0:Bq w bp (appPartV bf bs)) (h1:Bq w bf (.int .i64 f)) (h2:Bq w bs (.string s)):
  Calls prog 114 #[.pointer (some ⟨D,o,none⟩),px bp,px bs] w fun e w'=>e= .returned (.tuple #[])/\Blk w' D t (cs.setIfInBounds (o+f) (.string (x++s)))/\Fr (· =D) w w':=by
 have HP:=Lh (appPart_c D o bf bs f s x s.size t cs w hb hf hc (.inl hs) h1 h2);rw[clip_all,ext_all]at HP;have c0:=h0.cell;have c2:=h2.cell;unfold appPartV px at c0;unfold px at HP⊢;clear hb h1 h2 hc h0;go_enter func114,ntmps114
 go_wp2_with fail
 refine HP.o.mono ?_;rintro e w1 ⟨rfl,h3,h4⟩
 go_wp2_with fail
 go_end0
 exact⟨rfl,h3,h4⟩
theorem cutDoes_c (D o bf bn f n:Nat) (x:ByteArray) (t:TypeId) (cs:Array Value) (w:World) (hb:Blk w D t cs) (hf:f<16) (hc:cs[o+f]? =some (.string x)) (hs:n<=x.size) (h1:Bq w bf (.int .i64 f)) (h2:Bq w bn (.int .i64 n)):
  Calls prog 116 #[.pointer (some ⟨D,o,none⟩),px bf,px bn] w fun e w'=>e= .returned (.tuple #[])/\Blk w' D t (cs.setIfInBounds (o+f) (.string (x.extract 0 n)))/\Fr (· =D) w w':=by
 have c:=(hb.cell (o+f)).trans hc;have fz:=hb.free (o+f);have c1:=h1.cell;have c2:=h2.cell;have HB:=Lh hb;clear hb h1 h2 hc;unfold px;go_enter func116,ntmps116
 go_region
 go_end0
 exact⟨rfl,(HB.o.set _ _).drew,((Fr.refl (fun x=>x=D) w).setCell (p:=⟨D,o+f,none⟩) (.inl rfl) _).drew⟩
theorem mvDoes_c (D o ba bb a b:Nat) (x y:ByteArray) (t:TypeId) (cs:Array Value) (w:World) (hb:Blk w D t cs) (ha:a<16) (hbb:b<16) (hab:a≠b) (hc:cs[o+a]? =some (.string x)) (hc2:cs[o+b]? =some (.string y)) (h1:Bq w ba (.int .i64 a)) (h2:Bq w bb (.int .i64 b)) (hn1:ba≠D) (hn2:bb≠D):
  Calls prog 117 #[.pointer (some ⟨D,o,none⟩),px ba,px bb] w fun e w'=>e= .returned (.tuple #[])/\Blk w' D t ((cs.setIfInBounds (o+b) (.string x)).setIfInBounds (o+a) (.string .empty))/\Fr (· =D) w w':=by
 have c:=(hb.cell (o+a)).trans hc;have fz:=hb.free (o+a);have d:=(hb.cell (o+b)).trans hc2;have fd:=hb.free (o+b);have c1:=h1.cell;have c2:=h2.cell;have HB:=Lh hb;clear hb h1 h2 hc hc2;have hn3:D≠ba:=Ne.symm hn1;have hn4:D≠bb:=Ne.symm hn2;have hab2:b≠a:=Ne.symm hab;have la:(a:Int)<16:=by omega
 have lb:(b:Int)<16:=by omega
 unfold px;go_enter func117,ntmps117
 go_region
 go_end0
 exact⟨rfl,((HB.o.set _ _).set _ _).drew,(((Fr.refl (fun x=>x=D) w).setCell (p:=⟨D,o+b,none⟩) (.inl rfl) _).setCell (p:=⟨D,o+a,none⟩) (.inl rfl) _).drew⟩
theorem info_chg:(prog.info? 113).map (fun i=>(i.zero,i.size,i.bytes))=some (some (.agg #[.nilFunc,.nilFunc]),2,16):=by kernel_rfl
theorem Dk.op_len {d:Dk} (h:d.Len):d.op.1.Len:=⟨by rw[(Dk.op_same d).2.1];exact h.n,by rw[(Dk.op_same d).2.2.1];exact h.s⟩
theorem DkAt.grow {w w1 w2 w3:World} {M P:Nat->Prop} {D:Nat} {d d2:Dk} {c:Chg} {v1 v2:Value} {lv:Value} {cells:List Value} {g cap:Nat}
  (h:DkAt w M D d) (hi:d2.Inv) (hlo:d2.loose=d.loose++ [c]) (hL:LooseAt w M D lv d.loose) (hown0:w.ownsRow 0 113 2 lv d.loose.length cells)
  (hcs: ∀i (h:i<d.loose.length),∃v1 v2,cells[i*2]? =some v1/\cells[i*2+1]? =some v2/\ChgAt w (fun b=>M b/\b≠D/\ ¬rowB lv b) v1 v2 d.loose[i])
  (hc:ChgAt w P v1 v2 c) (hP: ∀b,P b->b<w.heap.size/\ ¬M b) (hf:Fr (· =D) w w1)
  (hgrow:w1.grownBy w2 lv.ownBlock) (hat:lv.ownBlock=some g\/g=w1.heap.size) (hlt:g<w2.heap.size)
  (hown:w2.ownsRow 0 113 2 (.slice (some ⟨g,0,none⟩) (d.loose.length+1) cap) (d.loose.length+1) (cells++ [v1,v2]))
  (hb:Blk w3 D 102 (dkC d2 (.slice (some ⟨g,0,none⟩) (d.loose.length+1) cap))) (hf3:Fr (· =D) w2 w3):
  Fr M w w3/\ ∃N,(∀b,N b->M b\/P b\/w.heap.size<=b)/\DkAt w3 N D d2:=by
 have hDl:=h.lt D h.mem;have hs1:=hf.size;have hs2:=hgrow.size;have hs3:=hf3.size;have hrow: ∀q,lv.ownBlock=some q->rowB lv q:=by
  intro q hq;rcases hown0.2 with ⟨rfl,_⟩|⟨g',cap',cur,rfl,_⟩
  ·simp[Value.ownBlock]at hq
  ·simp[Value.ownBlock]at hq;subst hq;exact⟨_,_,_,rfl⟩
 have hMq: ∀q,lv.ownBlock=some q->M q/\q≠D:=fun q hq=>hL.row q (hrow q hq);have hgD:g≠D:=by
  rcases hat with hat|hat
  ·exact(hMq g hat).2
  ·omega
 have keep: ∀b,b<w.heap.size->b≠D->lv.ownBlock≠some b->w3.heap[b]? =w.heap[b]? :=fun b hbl hbD hbo=>by
  rw[hf3.block b (by omega) hbD,hgrow.block b (by omega) (fun e=>hbo e.symm),hf.block b hbl hbD]
 have hown3:w3.ownsRow 0 113 2 (.slice (some ⟨g,0,none⟩) (d.loose.length+1) cap) (d.loose.length+1) (cells++ [v1,v2]):=
  ownsRow_keep hown fun q ⟨o,n,c,e⟩=>by
   simp only[vs0,Option.some.injEq,Addr.mk.injEq]at e;obtain⟨⟨rfl,_⟩,_⟩:=e;exact hf3.block g hlt hgD
 have hlen:=hown0.1;have fA:Fr M w w1:=hf.mono (fun k _ e=>e▸h.mem);have fB:Fr M w1 w2:=⟨hgrow.os,hgrow.tape,hgrow.output,hgrow.size,fun k hk hn=>hgrow.block k hk (fun e=>hn (hMq k e.symm).1)⟩;have fC:Fr M w2 w3:=hf3.mono (fun k _ e=>e▸h.mem);refine⟨(fA.trans fB).trans fC,fun b=>M b\/P b\/b=g,?_,?_⟩
 ·rintro b (hb|hb|hb)
  ·exact .inl hb
  ·exact .inr (.inl hb)
  ·subst hb;rcases hat with hat|hat
   ·exact .inl (hMq b hat).1
   ·exact .inr (.inr (by omega))
 ·refine⟨hi,.inl h.mem,?_,_,hb,⟨⟨_,by rw[hlo,la0];exact hown3,?_⟩,?_⟩⟩
  ·rintro b (hb|hb|hb)
   ·have:=h.lt b hb;omega
   ·have:=(hP b hb).1;omega
   ·omega
  ·intro i hi2;rw[hlo,la0]at hi2;simp only[List.length_cons,List.length_nil]at hi2;simp only[hlo];by_cases hil:i<d.loose.length
   ·obtain⟨u1,u2,q1,q2,q3⟩:=hcs i hil;refine⟨u1,u2,?_,?_,?_⟩
    ·rw[List.getElem?_append_left (by omega)];exact q1
    ·rw[List.getElem?_append_left (by omega)];exact q2
    ·rw[List.getElem_append_left hil];refine q3.keep ?_ ?_
     ·rintro b ⟨hb1,hb2,hb3⟩;refine⟨.inl hb1,hb2,?_⟩;rintro ⟨o,n,cc,e⟩;simp only[vs0,Option.some.injEq,Addr.mk.injEq]at e;obtain⟨⟨rfl,_⟩,_⟩:=e;rcases hat with hat|hat
      ·exact hb3 (hrow g hat)
      ·have:=h.lt g hb1;omega
     ·rintro b ⟨hb1,hb2,hb3⟩;exact keep b (h.lt b hb1) hb2 (fun e=>hb3 (hrow b e))
   ·obtain rfl:i=d.loose.length:=by omega
    refine⟨v1,v2,?_,?_,?_⟩
    ·rw[List.getElem?_append_right (by omega),show d.loose.length*2-cells.length=0 by omega];rfl
    ·rw[List.getElem?_append_right (by omega),show d.loose.length*2+1-cells.length=1 by omega];rfl
    ·rw[List.getElem_append_right le0];simp only[Nat.sub_self,List.getElem_cons_zero];refine hc.keep ?_ ?_
     ·intro b hb;obtain⟨p1,p2⟩:=hP b hb;refine⟨.inr (.inl hb),fun e=>p2 (e▸h.mem),?_⟩;rintro ⟨o,n,cc,e⟩;simp only[vs0,Option.some.injEq,Addr.mk.injEq]at e;obtain⟨⟨rfl,_⟩,_⟩:=e;rcases hat with hat|hat
      ·exact p2 (hMq g hat).1
      ·omega
     ·intro b hb;obtain⟨p1,p2⟩:=hP b hb;exact keep b p1 (fun e=>p2 (e▸h.mem)) (fun e=>p2 (hMq b e).1)
  ·rintro q ⟨o,n,cc,e⟩;simp only[vs0,Option.some.injEq,Addr.mk.injEq]at e;obtain⟨⟨rfl,_⟩,_⟩:=e;exact⟨.inr (.inr rfl),hgD⟩
def DoesC (K:Nat) (p q:Value) (D:Nat) (c:Chg) (w:World):Prop:= ∀(w1:World) (d1:Dk) (lv:Value),Blk w1 D 102 (dkC d1 lv)->d1.Inv->c.okIn d1.now->(Dk.sum (c.does d1.now):Int)<=d1.room->(∀b,b<w.heap.size->b≠D->w1.heap[b]? =w.heap[b]?)->
 Calls prog K #[.pointer (some ⟨D,1,none⟩),p,q] w1 fun e w'=>e= .returned (.tuple #[])/\Blk w' D 102 (dkC {d1 with now:=c.does d1.now} lv)/\Fr (· =D) w1 w'
theorem change_g (K:Nat) (p q v2:Value) (c:Chg) (eg: ∀args w,(callFunc K args).run prog w= .ok (.enter K args) w) (ho2:v2.oneCell'=true) (w:World) (M P:Nat->Prop) (D:Nat) (d:Dk) (h:DkAt w M D d)
  (hcall:DoesC K p q D c w) (hc:ChgAt w P (.func (.func K) #[] #[p,q]) v2 c) (hP: ∀b,P b->b<w.heap.size/\ ¬M b) (hok:c.okIn d.now) (hfit:(Dk.sum (c.does d.now):Int)<=d.room) (hll:d.loose.length<=1000000000):
  Calls prog 113 #[px D,.agg #[.func (.func K) #[] #[p,q],v2]] w fun e w'=>e= .returned (.int .i64 (d.change c).2)/\Fr M w w'/\ ∃N,(∀b,N b->M b\/P b\/w.heap.size<=b)/\DkAt w' N D (d.change c).1:=by
 have hld:=h.inv.len;obtain⟨lv,hb,hL⟩:=id h.ex;obtain⟨cells,hown,hcs⟩:=id hL.ex;have hDlt:=h.lt D h.mem;have HH:=Lh h;have HHL:=Lh hL;have HCS:=Lh hcs;have HC:=Lh hc;have HP:=Lh hP;have HI:=Lh (h.inv.change c hok hfit);have HIO:=Lh h.inv.op;have hC:=Blk.new w #[.func (.func K) #[] #[p,q],v2] 113;have hb0:=hb.alloc (.cells #[.func (.func K) #[] #[p,q],v2] 113);have HOP:=Lh (op_b _ D d lv hb0 hld h.inv.left1 h.inv.left2);obtain⟨o0,o1,o2,o3⟩:=Dk.op_same d;have HE:Hd (d.change c=if d.op.2=0 then({d.op.1 with now:=c.does d.op.1.now,loose:=d.op.1.loose++ [c]},0)else d.op):=rfl;generalize d.change c=R at*;obtain⟨i0,hi,hz0,hz1,hz2⟩:=info_parts info_chg;have HLL:=Lh hll;have HOWN:=Lh hown;have HSA:Hd (lv.ownBlock≠some w.heap.size/\lv.ownBlock≠some D):=by
  show _/\_;rcases hown.2 with ⟨rfl,_⟩|⟨g',cap',cur,rfl,_,hg,_⟩
  ·simp[Value.ownBlock]
  ·have h1:=(Array.getElem?_eq_some_iff.1 hg).1;have h2:=(hL.row g' ⟨_,_,_,rfl⟩).2;simp[Value.ownBlock];omega
 have hsz:(w.alloc (.cells #[.func (.func K) #[] #[p,q],v2] 113)).heap.size=w.heap.size+1:=by simp
 have HOUT:=Lh (⟨hok,hfit⟩:c.okIn d.now/\(Dk.sum (c.does d.now):Int)<=d.room);have HALL:Hd (∀b,b<w.heap.size->(w.alloc (.cells #[.func (.func K) #[] #[p,q],v2] 113)).heap[b]? =w.heap[b]?):=fun b hb=>alloc_old w _ b hb;have HFA:=Lh ((Fr.refl (fun x=>x=D) w).alloc (.cells #[.func (.func K) #[] #[p,q],v2] 113));have HLD:=Lh hld;have HO:=Lh (Dk.op_len hld);have HSM:=Lh (⟨o0,o1,o2,o3⟩:d.op.1.room=d.room/\d.op.1.now=d.now/\d.op.1.sure=d.sure/\d.op.1.loose=d.loose);clear hok hfit h hL hcs hc hP hown hb hll o0 o1 o2 o3 hb0 hld;unfold px at HOP⊢;by_cases h0:d.op.2=0
 ·rw[if_pos h0]at HE;rw[h0]at HOP;clear h0;generalize d.op.1=d1 at*;go_enter func113,ntmps113
  go_upto_region 3 with (go_at_call 118;refine HOP.o.mono ?_;rintro e w1 ⟨rfl,hb1,hf1⟩)
  have hneD:w.heap.size≠D:=by omega
  have hC1:=hC.fr hf1 (fun e=>hneD e);have e0:=hC1.cell 0;have hlt1:=hb1.lt;have hclt:=hC1.lt;have HB1:=Lh hb1;have HF1:=Lh hf1;have HC1:=Lh hC1;have HDO:Hd (∀W:World,W.heap=w1.heap->Calls prog K #[.pointer (some ⟨D,1,none⟩),p,q] W fun e w'=>e= .returned (.tuple #[])/\Blk w' D 102 (dkC {d1 with now:=c.does d1.now} lv)/\Fr (· =D) W w'):=by
   intro W hW;obtain⟨g0,g1,g2,g3⟩:=HSM.o;refine hcall W d1 lv (by unfold Blk;rw[hW];exact HB1.o) HIO.o (by rw[g1];exact HOUT.o.1) (by rw[g1,g0];exact HOUT.o.2) (fun b hb hne=>?_);rw[hW,HF1.o.block b (by omega) hne];exact HALL.o b hb
  clear hb1 hf1 hC1 HOP hC
  go_region_with (first|(refine(HDO.o w1.drew rfl).mono ?_;rintro e w2 ⟨rfl,hb2,hf2⟩))
  have hC2:Blk w2 w.heap.size 113 #[.func (.func K) #[] #[p,q],v2]:=Blk.fr (w:=w1.drew) HC1.o hf2 (fun e=>hneD e);have hlen2:Dk.Len {d1 with now:=c.does d1.now}:=Chg.len HO.o c;have k0:=hC2.cell 0;have k1:=hC2.cell 1;have c33:=(hb2.cell 33).trans (dkC_33 hlen2);have f33:=hb2.free 33;have hlt2:=hb2.lt;have hclt2:=hC2.lt;have hf2w:Fr (fun x=>x=D) w1 w2:=hf2.undrew;have hF2:=((HFA.o.trans HF1.o).trans hf2w);have hown2:w2.ownsRow 0 113 2 lv d.loose.length cells:=ownsRow_keep HOWN.o fun g hg=>hF2.block g (HH.o.lt g (HHL.o.row g hg).1) (HHL.o.row g hg).2;have HB2:=Lh hb2;have HF2:=Lh hF2;clear hb2 hf2 hf2w hF2 hC2 HDO e0;obtain⟨lva,lcap,rfl,hlcap,hlmx⟩:=HHL.o.slice;obtain⟨g1,g2,g3,g4⟩:=HSM.o
  go_upto_region 4 with fail
  have hownA:World.ownsRow (World.drew (w2.alloc (.cells #[.func (.func K) #[] #[p,q],v2] 113))) 0 113 2 (.slice lva d.loose.length lcap) d.loose.length cells:=hown2.alloc _;have hnewsA: ∀j u,([.func (.func K) #[] #[p,q],v2]:List Value)[j]? =some u->(World.drew (w2.alloc (.cells #[.func (.func K) #[] #[p,q],v2] 113))).cell? ((⟨w2.heap.size,0,none⟩:Addr).add j)=some u:=World.news_of_block (heap_alloc_new w2 _);have HOA:=Lh hownA;have HNA:=Lh hnewsA;clear hownA hnewsA;have HONE:Hd (∀u∈([.func (.func K) #[] #[p,q],v2]:List Value),u.oneCell'=true):=by
   show ∀u∈_,_;intro u hu;rcases List.mem_cons.1 hu with rfl|hu
   ·rfl
   ·rw[List.mem_singleton.1 hu];exact ho2
  go_region_law (first|(refine step_append_lies _ (by rfl) _ _ _ (by rfl) 0 113 i0 (.agg #[.nilFunc,.nilFunc]) 2 16 underlying100 hi hz0 hz1 hz2 rfl (by decide) _ d.loose.length cells (by rfl) HOA.o ⟨w2.heap.size,0,none⟩ 1 1 [.func (.func K) #[] #[p,q],v2] (by rfl) rfl HNA.o HONE.o (by decide) (by unfold maxLen;have:=HLL.o;omega) (by have:=HLL.o;omega) ze0 _ rfl ?_;intro g cap4 w4 hown4 hgrow4 hat4 hlt4;have hb4:=Blk.grown (w:=(World.drew (w2.alloc (.cells #[.func (.func K) #[] #[p,q],v2] 113)))) (HB2.o.alloc _) hgrow4 (fun e=>HSA.o.2 e.symm);have c4:=(hb4.cell 33).trans (dkC_33 hlen2);have f4:=hb4.free 33))
  all_goals
   have HB4:=Lh hb4;clear hb4 c4 f4 c33 f33 k0 k1
   try go_wp2_with fail
   go_ret;have hi2:=HI.o;rw[HE.o]at hi2⊢;have hst:=HB4.o.set 33 (.slice (some ⟨g,0,none⟩) (d.loose.length+1) cap4);rw[dkC_set_33 hlen2]at hst;refine⟨rfl,?_⟩;have hFA:Fr (· =D) w (World.drew (w2.alloc (.cells #[.func (.func K) #[] #[p,q],v2] 113))):=(HF2.o.alloc _).drew;have hszA:(World.drew (w2.alloc (.cells #[.func (.func K) #[] #[p,q],v2] 113))).heap.size=w2.heap.size+1:=by show(w2.alloc _).heap.size=_;simp
   refine DkAt.grow (c:=c) (d2:={d1 with now:=c.does d1.now,loose:=d1.loose++ [c]}) HH.o hi2 (by show d1.loose++ [c]=_;rw[g4]) HHL.o HOWN.o HCS.o HC.o HP.o hFA hgrow4 hat4 hlt4 hown4 hst ((Fr.refl (fun x=>x=D) w4).setCell (p:=⟨D,33,none⟩) (.inl rfl) _)
 ·rw[if_neg h0]at HE;have h1:(d.op.2==0)=false:=by rw[bq0];exact h0
  clear h0;go_enter func113,ntmps113
  go_wp2_with (go_at_call 118;refine HOP.o.mono ?_;rintro e w1 ⟨rfl,hb1,hf1⟩)
  go_ret;rw[HE.o];have hF:=HFA.o.trans hf1;refine⟨rfl,hF.mono (fun k _ e=>e▸HH.o.mem),M,fun _ h=> .inl h,HIO.o,HH.o.mem,fun b hb=>lt1 (HH.o.lt b hb) hF.size,lv,hb1,?_⟩;rw[HSM.o.2.2.2];exact HHL.o.keep (fun _ k=>k) fun b hb hne=>hF.block b (HH.o.lt b hb) hne
theorem index_fls (l:Fls) (hl:l.length=16) (i:Nat) (hi:i<16) (w:World):(Instr.index 99 (.agg (l.map Value.string).toArray) (.int .i64 (i:Int))).run prog w= .ok (.string (fl l i)) w:=by
 have h1:((0:Int)<=(i:Int)/\(i:Int)<16):=by omega
 have h2:l[i]? =some (fl l i):=by rw[List.getElem?_eq_getElem (by omega),fl_get]
 simp[Instr.index,run_underlying underlying99,asIntOf,h1,go_sem,hi,h2]
theorem sum_take (l:Fls): ∀k,k<l.length->Dk.sum (l.take (k+1))=Dk.sum (l.take k)+(fl l k).size:=by
 induction l with
 |nil=>intro k h;exact absurd h (Nat.not_lt_zero _)
 |cons s l ih=>
  intro k h
  cases k with
  |zero=>simp[Dk.sum,fl]
  |succ k=>
   have:=ih k (by simpa using h);rw[List.take_succ_cons,List.take_succ_cons];show s.size+Dk.sum (l.take (k+1))=s.size+Dk.sum (l.take k)+(fl l k).size;omega
theorem files_size:(prog.info? 99).map (·.size)=some 16:=by kernel_rfl
theorem Left_c (D:Nat) (w:World) (d:Dk) (lv:Value) (hb:Blk w D 102 (dkC d lv)) (hd:d.Len) (hfit:(Dk.sum d.now:Int)<=d.room) (hroom:d.room<=4194304):
  Calls prog 111 #[px D] w fun e w'=>e= .returned (.int .i64 d.free)/\w=w':=by
 have c0:=(hb.cell 0).trans (dkC_0 (d:=d) (lv:=lv));have HR:=Lh (dk_range_now hb hd);have hl:(d.now.map Value.string).length=16:=by rw[List.length_map,hd.n]
 have HI:Hd ((prog.info? 99).map (·.size)=some (d.now.map Value.string).length):=by show _=_;rw[hl];exact files_size
 have HX:Hd (∀(i:Nat) (w:World),i<16->(Instr.index 99 (.agg (d.now.map Value.string).toArray) (.int .i64 (i:Int))).run prog w= .ok (.string (fl d.now i)) w):=fun i w hi=>index_fls d.now hd.n i hi w;have HST:Hd (∀k,k<16->Dk.sum (d.now.take (k+1))=Dk.sum (d.now.take k)+(fl d.now k).size):=fun k hk=>sum_take d.now k (by rw[hd.n];exact hk);have HSL:Hd (∀k,k<=16->Dk.sum (d.now.take k)<=Dk.sum d.now):=by
  intro k
  induction k with
  |zero=>intro _;simp[Dk.sum]
  |succ k ih=>
   intro hk;have hlast: ∀n k,n+k=16->Dk.sum (d.now.take k)<=Dk.sum d.now:=by
    intro n
    induction n with
    |zero=>intro k hk;rw[List.take_of_length_le (by rw[hd.n];omega)];exact le0
    |succ n ih=>intro k hk;have:=ih (k+1) (by omega);have:=HST.o k (by omega);omega
   exact hlast (16-(k+1)) (k+1) (by omega)
 have HF:Hd (d.now.take 16=d.now):=by show _=_;exact List.take_of_length_le (by rw[hd.n];exact le0)
 have HFR:Hd (d.free=d.room-(Dk.sum d.now:Nat)):=rfl;generalize d.free=FR at*;generalize d.now=l at*;generalize d.room=room at*;generalize hA:(l.map Value.string).toArray=A at*;generalize l.map Value.string=cs at*;have HA:=Lh hA;clear hA hb hl;unfold px;go_enter func111,ntmps111
 go_wp2_with (first|(refine wpList_load_mid rfl 99 (.tmp 14) rfl D 1 rfl cs _ HR.o underlying99 rfl HI.o ?_;rw[HA.o])|fail)
 go_loop [3,16] (fun n q=> ∃k:Nat,q= .int .i64 k/\k<=16/\n= .int .i64 (room-(Dk.sum (l.take k):Nat))) (fun _ q=>16-(intOf q).toNat)
 case atStart=>exact⟨0,rfl,ze0,by simp[Dk.sum]⟩
 case round=>
  obtain⟨k,rfl,hk,rfl⟩:=hrel;by_cases hlt:k<16
  ·have hx:=fun w=>HX.o k w hlt;have hst:=HST.o k hlt;have hs1:=HSL.o k hk;have hs2:=HSL.o (k+1) hlt;generalize Dk.sum (l.take k)=s0 at*;have HS:=Lh hst;generalize fl l k=x at*
   go_wp2_with fail
   go_round
   case rel=>exact⟨k+1,by go_num,by omega,by rw[HS.o];congr 1;omega⟩
   case measure=>simp[intOf];omega
  ·have e16:l.take k=l:=by
    have h16:k=16:=by omega
    rw[h16];exact HF.o
   rw[e16];clear e16
   go_wp2_with fail
   go_ret;rw[HFR.o];exact⟨rfl,rfl⟩
theorem rdy_one (d:Dk) (f:Int):rdy d.off [f]=if d.off=true then 50 else if Dk.isF f=false then 2 else 0:=by
 unfold rdy
 cases d.off<;>cases h:Dk.isF f<;>simp[h]
theorem isF_ir {f:Int} (h:Dk.isF f=true): ∃n:Nat,f=(n:Int)/\n<16:=⟨f.toNat,(Dk.isF_lt h).2.symm,(Dk.isF_lt h).1⟩
theorem Read_b (D:Nat) (w:World) (d:Dk) (lv:Value) (hb:Blk w D 102 (dkC d lv)) (hd:d.Len) (f:Int):
  CB prog 61 #[px D,.int .i64 f] w (.tuple #[.string (d.read f).1,.int .i64 (d.read f).2]):=by
 have hlt:=hb.lt;have hB:=Blk.new w #[.int .i64 f] 3;have hbA:=hb.alloc (.cells #[.int .i64 f] 3);have HRD:=Lh (ready_c D _ d lv hbA hd [f] 1 _ _ (int_one hB));rw[rdy_one]at HRD;have HE:Hd (d.read f=if d.off=true then(.empty,50)else if Dk.isF f=false then(.empty,2)else(fl d.now f.toNat,0)):=rfl;generalize d.read f=R at*;unfold px at HRD⊢;have hBw:Below w.heap.size w (w.alloc (.cells #[.int .i64 f] 3)):=br0.alloc le0 _;by_cases ho:d.off=true
 ·rw[if_pos ho]at HRD HE;clear ho;go_enter func61,ntmps61
  go_wp2_with (go_at_call 63;refine HRD.o.mono ?_;rintro e w1 ⟨rfl,rfl⟩)
  go_ret2;rw[HE.o];exact⟨rfl,hBw⟩
 ·rw[if_neg ho]at HRD HE;clear ho
  cases hf:Dk.isF f
  ·rw[hf,if_pos rfl]at HRD HE;go_enter func61,ntmps61
   go_wp2_with (go_at_call 63;refine HRD.o.mono ?_;rintro e w1 ⟨rfl,rfl⟩)
   go_ret2;rw[HE.o];exact⟨rfl,hBw⟩
  ·rw[hf,if_neg (by decide)]at HRD HE;obtain⟨n,rfl,hn⟩:=isF_ir hf;rw[Int.toNat_natCast]at HE;have c:=(hbA.cell (1+n)).trans (dkC_now hd n hn);have hn16:(n:Int)<16:=by omega
   generalize fl d.now n=x at*;clear hb hbA hf hB;go_enter func61,ntmps61
   go_wp2_with (go_at_call 63;refine HRD.o.mono ?_;rintro e w1 ⟨rfl,rfl⟩)
   go_ret2;rw[HE.o];exact⟨rfl,hBw⟩
theorem Read_c (w:World) (M:Nat->Prop) (D:Nat) (d:Dk) (h:DkAt w M D d) (f:Int):
  CB prog 61 #[px D,.int .i64 f] w (.tuple #[.string (d.read f).1,.int .i64 (d.read f).2]):=by
 obtain⟨lv,hb,_⟩:=h.ex;exact Read_b D w d lv hb h.inv.len f
theorem Sync_c (w:World) (M:Nat->Prop) (D:Nat) (d:Dk) (h:DkAt w M D d):
  Calls prog 59 #[px D] w fun e w'=>e= .returned (.int .i64 d.sync.2)/\DkTo w w' M D d.sync.1:=by
 obtain⟨lv,hb,hL⟩:=id h.ex;have hld:=h.inv.len;have HRD:=Lh (ready_c D w d lv hb hld [] 0 0 _ (Sl.nil w 0 1));rw[rdy_nil]at HRD;have HOP:=Lh (op_b w D d lv hb hld h.inv.left1 h.inv.left2);have HH:=Lh h;have HI:=Lh h.inv.sync;have HIO:=Lh h.inv.op;have HE:Hd (d.sync=if d.off=true then(d,50)else if d.op.2=0 then({d.op.1 with sure:=d.op.1.now,loose:=[]},0)else d.op):=rfl;have HSM:=Lh (Dk.op_same d);have HO:=Lh (Dk.op_len hld);have HL:=Lh hL;have HD:=Lh (h.lt D h.mem);generalize d.sync=R at*;unfold px at HRD HOP⊢;clear hb hL h hld;by_cases ho:d.off=true
 ·rw[if_pos ho]at HRD HE;clear ho;go_enter func59,ntmps59
  go_wp2_with (go_at_call 63;refine HRD.o.mono ?_;rintro e w1 ⟨rfl,rfl⟩)
  go_ret;rw[HE.o];exact⟨rfl,HH.o.tos⟩
 ·rw[if_neg ho]at HRD HE;clear ho;by_cases h0:d.op.2=0
  ·rw[if_pos h0]at HE;rw[h0]at HOP;clear h0;generalize d.op.1=d1 at*;have hl:(d1.now.map Value.string).length=16:=by rw[List.length_map,HO.o.n]
   have HI2:Hd ((prog.info? 99).map (·.size)=some (d1.now.map Value.string).length):=by show _=_;rw[hl];exact files_size
   go_enter func59,ntmps59
   go_upto_region 7 with (first|(go_at_call 63;refine HRD.o.mono ?_;rintro e w1 ⟨rfl,rfl⟩)|(go_at_call 118;refine HOP.o.mono ?_;rintro e w1 ⟨rfl,hb1,hf1⟩))
   have HR1:=Lh (dk_range_now hb1 HO.o);have HT1:=Lh (dk_there hb1 HO.o 17 16 (by omega));have HB2:=Lh (dk_store_sure hb1 HO.o HO.o.n);have f33:=hb1.free 33;have hl1:=hb1.lt;have HF1:=Lh hf1;have hlen2:Dk.Len {d1 with sure:=d1.now}:=⟨HO.o.n,HO.o.n⟩;have c33:=(HB2.o.cell 33).trans (dkC_33 hlen2);have g33:=HB2.o.free 33;clear hb1 hf1 HOP HRD
   go_wp2_with (first|(refine wpList_load_mid rfl 99 (.tmp 19) rfl D 1 rfl _ _ HR1.o underlying99 rfl HI2.o ?_)|(refine wpList_store_mid rfl 99 (.tmp 22) (.tmp 20) rfl D 17 (d1.now.map Value.string).toArray rfl rfl (by simpa[hl]using HT1.o) (by simpa using HI2.o) (strs_one d1.now) ?_)|fail)
   go_ret;have hi:=HI.o;rw[HE.o]at hi⊢;have hst:=HB2.o.set 33 (.slice none 0 0);rw[dkC_set_33 hlen2]at hst;refine⟨rfl,HH.o.set (d':={d1 with sure:=d1.now,loose:=[]}) hi hst ?_ (LooseAt.nil _ _ _)⟩;exact(HF1.o.setCells D _ 17 _ (.inl rfl)).setCell (p:=⟨D,33,none⟩) (.inl rfl) _
  ·rw[if_neg h0]at HE;have h1:(d.op.2 !=0)=true:=by simpa using h0
   clear h0;go_enter func59,ntmps59
   go_wp2_with (first|(go_at_call 63;refine HRD.o.mono ?_;rintro e w1 ⟨rfl,rfl⟩)|(go_at_call 118;refine HOP.o.mono ?_;rintro e w1 ⟨rfl,hb1,hf1⟩))
   go_ret;rw[HE.o];exact⟨rfl,HH.o.set HIO.o hb1 hf1 (by rw[HSM.o.2.2.2];exact HL.o)⟩
theorem New_c (room:Int) (w:World):
  Calls prog 14 #[.int .i64 room] w fun e w'=>Below w.heap.size w w'/\((1<=room/\room<=4194304/\e= .returned (.tuple #[px w.heap.size,.int .i64 0])/\DkAt w' (· =w.heap.size) w.heap.size (Dk.new room))\/((room<1\/4194304<room)/\e= .returned (.tuple #[.pointer none,.int .i64 2]))):=by
 by_cases h1:room<1
 ·have d1:decide (room<1)=true:=dt0 h1;go_enter func14,ntmps14
  go_wp2_with fail
  go_ret2
  first|exact⟨Below.refl _ _,.inr ⟨.inl h1,rfl⟩⟩|exact⟨Below.refl _ _,.inr rfl⟩
 ·have d1:decide (room<1)=false:=df0 h1;by_cases h2:4194304<room
  ·have d2:decide (4194304<room)=true:=dt0 h2;have HH:=Lh h2;go_enter func14,ntmps14
   go_wp2_with fail
   go_ret2
   first|exact⟨Below.refl _ _,.inr ⟨.inr HH.o,rfl⟩⟩|exact⟨Below.refl _ _,.inr rfl⟩
  ·have d2:decide (4194304<room)=false:=df0 h2;have HH:=Lh (⟨h1,h2⟩: ¬room<1/\ ¬4194304<room);clear h1 h2;go_enter func14,ntmps14
   go_wp2_with fail
   go_ret2;have h1:=HH.o.1;have h2:=HH.o.2;refine⟨br0.alloc le0 _,.inl ⟨by omega,by omega,rfl,Dk.Inv.new room (by omega) (by omega),rfl,?_,.slice none 0 0,Blk.new w _ _,LooseAt.nil _ _ _⟩⟩;rintro b rfl;simp
theorem app_fit {d:Dk} {f:Nat} {s:ByteArray} (h16:d.now.length=16) (hf:f<16) (hfit:(Dk.sum ((Chg.app f s).does d.now):Int)<=d.room) (hr:d.room<=4194304):(fl d.now f).size+s.size<=4194304:=by
 have h1:=sum_le ((Chg.app f s).does d.now) f;have h2:fl ((Chg.app f s).does d.now) f=fl d.now f++s:=by
  show fl (d.now.set f _) f=_;rw[fl_set _ _ _ _ (by omega),if_pos rfl]
 rw[h2,ByteArray.size_append]at h1;omega
theorem Bq.keepW {w w1:World} {b:Nat} {v:Value} (h:Bq w b v) {D:Nat} (hne:b≠D) (hk: ∀b,b<w.heap.size->b≠D->w1.heap[b]? =w.heap[b]?):Bq w1 b v:=h.keep (hk b h.lt hne)
theorem doesC_app (D bp bf bs f:Nat) (s:ByteArray) (w:World) (h0:Bq w bp (appPartV bf bs)) (h1:Bq w bf (.int .i64 f)) (h2:Bq w bs (.string s)) (n0:bp≠D) (n1:bf≠D) (n2:bs≠D):DoesC 114 (px bp) (px bs) D (.app f s) w:=by
 intro w1 d1 lv hb hi hok hfit hk;have hf:f<16:=hok;refine(appDoes_c D 1 bp bf bs f s (fl d1.now f) _ _ w1 hb hf (dkC_now hi.len f hf) ?_ (h0.keepW n0 hk) (h1.keepW n1 hk) (h2.keepW n2 hk)).mono ?_
 ·have:=app_fit hi.now16 hf hfit hi.room2;omega
 ·rintro e w' ⟨rfl,h3,h4⟩;rw[dkC_set_now hi.len f hf]at h3;exact⟨rfl,h3,h4⟩
theorem doesC_cut (D bf bn f n:Nat) (w:World) (h1:Bq w bf (.int .i64 f)) (h2:Bq w bn (.int .i64 n)) (n1:bf≠D) (n2:bn≠D):DoesC 116 (px bf) (px bn) D (.cut f n) w:=by
 intro w1 d1 lv hb hi hok hfit hk;obtain⟨hf,hn⟩:=hok;refine(cutDoes_c D 1 bf bn f n (fl d1.now f) _ _ w1 hb hf (dkC_now hi.len f hf) hn (h1.keepW n1 hk) (h2.keepW n2 hk)).mono ?_;rintro e w' ⟨rfl,h3,h4⟩;rw[dkC_set_now hi.len f hf]at h3;exact⟨rfl,h3,h4⟩
theorem doesC_mv (D ba bb a b:Nat) (w:World) (h1:Bq w ba (.int .i64 a)) (h2:Bq w bb (.int .i64 b)) (n1:ba≠D) (n2:bb≠D):DoesC 117 (px ba) (px bb) D (.mv a b) w:=by
 intro w1 d1 lv hb hi hok hfit hk;obtain⟨ha,hbb,hab⟩:=hok;refine(mvDoes_c D 1 ba bb a b (fl d1.now a) (fl d1.now b) _ _ w1 hb ha hbb hab (dkC_now hi.len a ha) (dkC_now hi.len b hbb) (h1.keepW n1 hk) (h2.keepW n2 hk) n1 n2).mono ?_;rintro e w' ⟨rfl,h3,h4⟩;have hl2:Dk.Len {d1 with now:=d1.now.set b (fl d1.now a)}:=⟨by rw[List.length_set];exact hi.now16,hi.sure16⟩;rw[dkC_set_now hi.len b hbb,dkC_set_now hl2 a ha]at h3;exact⟨rfl,h3,h4⟩
theorem two_boxes (w:World) (u v:Value) (t1 t2:TypeId):Bq ((w.alloc (.cells #[u] t1)).alloc (.cells #[v] t2)) w.heap.size u/\Bq ((w.alloc (.cells #[u] t1)).alloc (.cells #[v] t2)) (w.heap.size+1) v/\
  Below w.heap.size w ((w.alloc (.cells #[u] t1)).alloc (.cells #[v] t2))/\((w.alloc (.cells #[u] t1)).alloc (.cells #[v] t2)).heap.size=w.heap.size+2:=
 ⟨(Bq.new_at w u t1 rfl).alloc _,Bq.new_at _ v t2 (by simp),((Below.refl w.heap.size w).alloc le0 _).alloc (by simp) _,by simp⟩
theorem Append_c (w:World) (M:Nat->Prop) (D:Nat) (d:Dk) (h:DkAt w M D d) (f:Int) (s:ByteArray) (hs:s.size<=9223372036854775807) (hll:d.loose.length<=1000000000):
  Calls prog 53 #[px D,.int .i64 f,.string s] w fun e w'=>e= .returned (.int .i64 (d.append f s).2)/\DkTo w w' M D (d.append f s).1:=by
 obtain⟨lv,hb,hL⟩:=id h.ex;have hld:=h.inv.len;have hDlt:=h.lt D h.mem;have HRD:Hd (∀W:World,Below w.heap.size w W->Calls prog 63 #[px D,.slice (some ⟨W.heap.size,0,none⟩) 1 1] (W.alloc (.cells #[.int .i64 f] 3)) fun e w'=>e= .returned (.int .i64 (if d.off=true then 50 else if Dk.isF f=false then 2 else 0))/\(W.alloc (.cells #[.int .i64 f] 3))=w'):=by
  intro W hW;rw[<-rdy_one];exact ready_c D _ d lv ((hb.below hW hDlt).alloc _) hld [f] 1 _ _ (int_one (Blk.new W _ _))
 have HE:Hd (d.append f s=if d.off=true then(d,50)else if Dk.isF f=false then(d,2)else if d.free<(s.size:Int)then(d,7)else d.change (.app f.toNat s)):=rfl;have HI:=Lh (h.inv.append f s);generalize d.append f s=R at*;unfold px at HRD⊢;have HH:=Lh h;have HLF:=Lh (fun W (hb:Blk W D 102 (dkC d lv))=>Left_c D W d lv hb hld h.inv.fits h.inv.room2);have HBX:=Lh (two_boxes w (.int .i64 f) (.string s) 3 9);have HB:=Lh hb;have HLL:=Lh hll;have HD:=Lh hDlt;clear hL hb h hld hll hDlt;by_cases ho:d.off=true
 ·rw[if_pos ho]at HE;simp only[if_pos ho]at HRD;clear ho;go_enter func53,ntmps53
  go_upto_region 1 with fail
  obtain⟨x1,x2,hB2,z2⟩:=HBX.o;generalize World.alloc (World.alloc w _) _=W2 at*;have c1:=x1.cell;clear z2;have HR2:=Lh (HRD.o W2 hB2)
  go_wp2_with (first|(go_at_call 63;refine HR2.o.mono ?_;rintro e w1 ⟨rfl,rfl⟩)|fail)
  go_ret;rw[HE.o];exact⟨rfl,HH.o.toB (hB2.alloc hB2.size _)⟩
 rw[if_neg ho]at HE;simp only[if_neg ho]at HRD;clear ho
 cases hf:Dk.isF f
 ·rw[hf,if_pos rfl]at HE;simp only[hf,if_pos]at HRD;go_enter func53,ntmps53
  go_upto_region 1 with fail
  obtain⟨x1,x2,hB2,z2⟩:=HBX.o;generalize World.alloc (World.alloc w _) _=W2 at*;have c1:=x1.cell;clear z2;have HR2:=Lh (HRD.o W2 hB2)
  go_wp2_with (first|(go_at_call 63;refine HR2.o.mono ?_;rintro e w1 ⟨rfl,rfl⟩)|fail)
  go_ret;rw[HE.o];exact⟨rfl,HH.o.toB (hB2.alloc hB2.size _)⟩
 rw[hf,if_neg (by decide)]at HE;have hff:(if Dk.isF f=false then(2:Int)else 0)=0:=by rw[hf];rfl
 simp only[hff]at HRD;clear hff;obtain⟨n,rfl,hn⟩:=isF_ir hf;rw[Int.toNat_natCast]at HE;clear hf;go_enter func53,ntmps53
 go_upto_region 1 with fail
 obtain⟨x1,x2,hB2,z2⟩:=HBX.o;generalize World.alloc (World.alloc w _) _=W2 at*;have c1:=x1.cell;have Z2:=Lh z2;clear z2;have HR2:=Lh (HRD.o W2 hB2)
 go_upto_region 4 with (first|(go_at_call 63;refine HR2.o.mono ?_;rintro e w1 ⟨rfl,rfl⟩)|fail)
 have hB3:=hB2.alloc hB2.size (.cells #[.int .i64 n] 3);have y1:=x1.alloc (.cells #[.int .i64 n] 3);have y2:=x2.alloc (.cells #[.int .i64 n] 3);have z3:(W2.alloc (.cells #[.int .i64 n] 3)).heap.size=w.heap.size+3:=by simp[Z2.o]
 generalize World.alloc W2 _=W3 at*;have c2:=y2.cell;have HL3:Hd (∀W:World,W.heap=W3.heap->Calls prog 111 #[px D] W fun e w'=>e= .returned (.int .i64 d.free)/\W=w'):=fun W hW=>HLF.o W (by unfold Blk;rw[hW];exact HB.o.below hB3 HD.o);have Z3:=Lh z3;clear x1 x2 c1 HR2 z3 hB2 HRD HLF;unfold px at HL3;by_cases hfr:d.free<(s.size:Int)
 ·rw[if_pos hfr]at HE;have hd:decide (d.free<(s.size:Int))=true:=dt0 hfr;generalize d.free=FR at*
  go_region_with (first|(go_at_call 111;refine(HL3.o W3.drew rfl).mono ?_;rintro e w1 ⟨rfl,rfl⟩))
  all_goals
   go_wp2_with fail
   go_ret;rw[HE.o];exact⟨rfl,HH.o.toB hB3.drew⟩
 ·rw[if_neg hfr]at HE;have hfr2:Hd (¬d.free<(s.size:Int)):=hfr;have hd:decide (d.free<(s.size:Int))=false:=df0 hfr;have hfit:Hd ((Dk.sum ((Chg.app n s).does d.now):Int)<=d.room):=by
   have h16:=HH.o.inv.now16;have:=sum_set d.now n (fl d.now n++s) (by rw[h16];exact hn);rw[ByteArray.size_append]at this;unfold Dk.free at hfr;show(Dk.sum (d.now.set n (fl d.now n++s)):Int)<=d.room;omega
  have hmf: ∀(fn:Fn) (first cap:Array Value) (w:World),(Instr.makeFunc fn first cap).run prog w= .ok (.func fn first cap) w:=fun _ _ _ _=>rfl;have hst: ∀(a:Addr) (fn:Fn) (first cap:Array Value) (w:World),(store a (.func fn first cap)).run prog w=stored prog w a (.func fn first cap) .plain:=fun a fn f c w=>run_store _ w a _ _ rfl;clear hfr;generalize d.free=FR at*
  go_region_with (first|(go_at_call 111;refine(HL3.o W3.drew rfl).mono ?_;rintro e w1 ⟨rfl,rfl⟩))
  all_goals
   have y1:Bq W3.drew w.heap.size (.int .i64 (n:Int)):=y1;have y2:Bq W3.drew (w.heap.size+1) (.string s):=y2;have c2:=y2.cell;have hB5:=hB3.drew;have hsz5:w.heap.size+3=W3.drew.heap.size:=Z3.o.symm;clear hB3 HL3 Z2 Z3;generalize W3.drew=W5 at*;have HZ:=Lh hsz5;clear hsz5
   go_upto_region 7 with fail
   have y3:Bq (W5.alloc (.cells #[appPartV w.heap.size (w.heap.size+1)] 111)) W5.heap.size (appPartV w.heap.size (w.heap.size+1)):=Bq.new_at W5 _ _ rfl;have y1:=y1.alloc (.cells #[appPartV w.heap.size (w.heap.size+1)] 111);have y2:=y2.alloc (.cells #[appPartV w.heap.size (w.heap.size+1)] 111);have hB6:=hB5.alloc hB5.size (.cells #[appPartV w.heap.size (w.heap.size+1)] 111);have hbp:=HZ.o;generalize hg:W5.heap.size=bp at*;have c3:=y3.cell;clear c2;unfold appPartV px at y1 y2 y3 c3 hB6;generalize World.alloc W5 _=W6 at*;have HCH:=Lh (change_g 114 (px bp) (px (w.heap.size+1)) (appPartV w.heap.size (w.heap.size+1)) (.app n s) (enters_of func114 (by kernel_rfl) rfl) rfl W6 M (fun b=>b=bp\/b=w.heap.size\/b=w.heap.size+1) D d (HH.o.below hB6)
    (doesC_app D bp w.heap.size (w.heap.size+1) n s W6 y3 y1 y2 (by have:=HD.o;omega) (by have:=HD.o;omega) (by have:=HD.o;omega))
    ⟨bp,w.heap.size+1,w.heap.size,rfl,rfl,y3,y2,y1,.inl rfl,.inr (.inr rfl),.inr (.inl rfl)⟩
    (by
     rintro b (rfl|rfl|rfl)
     ·exact⟨y3.lt,fun hm=>by have:=HH.o.lt _ hm;omega⟩
     ·exact⟨y1.lt,fun hm=>by have:=HH.o.lt _ hm;omega⟩
     ·exact⟨y2.lt,fun hm=>by have:=HH.o.lt _ hm;omega⟩) hn hfit.o HLL.o)
   unfold appPartV px at HCH;clear y1 y2 y3
   go_wp2_with (first|(go_at_call 113;refine HCH.o.mono ?_;rintro e w7 ⟨rfl,hf7,N,hN,hd7⟩)|fail)
   go_ret;rw[HE.o];refine⟨rfl,(Fr.of_new hB6).step hf7 (fun _ _ h=>h) (fun _ _ h=>h),N,fun b hb=>?_,hd7⟩;rcases hN b hb with h|(h|h|h)|h
   ·exact .inl h
   ·subst h;right;omega
   ·subst h;right;omega
   ·subst h;right;omega
   ·have:=hB6.size;right;omega
theorem rdy_two (d:Dk) (a b:Int):rdy d.off [a,b]=if d.off=true then 50 else if Dk.isF a=false\/Dk.isF b=false then 2 else 0:=by
 unfold rdy
 cases d.off<;>cases h:Dk.isF a<;>cases h2:Dk.isF b<;>simp[h,h2]
theorem int_two {w:World} {b:Nat} {t:TypeId} {x y:Int} (h:Blk w b t #[.int .i64 x,.int .i64 y]):Sl w w.heap.size 1 (.slice (some ⟨b,0,none⟩) 2 2) 2 ([x,y].map (Value.int .i64)):=
 ⟨rfl,_,2,rfl,le0,by unfold maxLen;omega,.inr ⟨b,0,rfl,h.lt,fun j hj=>by rw[Nat.zero_add,h.cell];simp⟩⟩
theorem Cut_c (w:World) (M:Nat->Prop) (D:Nat) (d:Dk) (h:DkAt w M D d) (f z:Int) (hll:d.loose.length<=1000000000):
  Calls prog 55 #[px D,.int .i64 f,.int .i64 z] w fun e w'=>e= .returned (.int .i64 (d.cut f z).2)/\DkTo w w' M D (d.cut f z).1:=by
 obtain⟨lv,hb,hL⟩:=id h.ex;have hld:=h.inv.len;have hDlt:=h.lt D h.mem;have HRD:Hd (∀W:World,Below w.heap.size w W->Calls prog 63 #[px D,.slice (some ⟨W.heap.size,0,none⟩) 1 1] (W.alloc (.cells #[.int .i64 f] 3)) fun e w'=>e= .returned (.int .i64 (if d.off=true then 50 else if Dk.isF f=false then 2 else 0))/\(W.alloc (.cells #[.int .i64 f] 3))=w'):=by
  intro W hW;rw[<-rdy_one];exact ready_c D _ d lv ((hb.below hW hDlt).alloc _) hld [f] 1 _ _ (int_one (Blk.new W _ _))
 have HE:Hd (d.cut f z=if d.off=true then(d,50)else if Dk.isF f=false then(d,2)else if z<0\/((fl d.now f.toNat).size:Int)<z then(d,5)else d.change (.cut f.toNat z.toNat)):=rfl;generalize d.cut f z=R at*;unfold px at HRD⊢;have HH:=Lh h;have HBX:=Lh (two_boxes w (.int .i64 f) (.int .i64 z) 3 3);have HB:=Lh hb;have HLL:=Lh hll;have HD:=Lh hDlt;have HLD:=Lh hld;clear hL hb h hld hll hDlt;by_cases ho:d.off=true
 ·rw[if_pos ho]at HE;simp only[if_pos ho]at HRD;clear ho;go_enter func55,ntmps55
  go_upto_region 1 with fail
  obtain⟨x1,x2,hB2,z2⟩:=HBX.o;generalize World.alloc (World.alloc w _) _=W2 at*;have c1:=x1.cell;clear z2;have HR2:=Lh (HRD.o W2 hB2)
  go_wp2_with (first|(go_at_call 63;refine HR2.o.mono ?_;rintro e w1 ⟨rfl,rfl⟩)|fail)
  go_ret;rw[HE.o];exact⟨rfl,HH.o.toB (hB2.alloc hB2.size _)⟩
 rw[if_neg ho]at HE;simp only[if_neg ho]at HRD;clear ho
 cases hf:Dk.isF f
 ·rw[hf,if_pos rfl]at HE;simp only[hf,if_pos]at HRD;go_enter func55,ntmps55
  go_upto_region 1 with fail
  obtain⟨x1,x2,hB2,z2⟩:=HBX.o;generalize World.alloc (World.alloc w _) _=W2 at*;have c1:=x1.cell;clear z2;have HR2:=Lh (HRD.o W2 hB2)
  go_wp2_with (first|(go_at_call 63;refine HR2.o.mono ?_;rintro e w1 ⟨rfl,rfl⟩)|fail)
  go_ret;rw[HE.o];exact⟨rfl,HH.o.toB (hB2.alloc hB2.size _)⟩
 rw[hf,if_neg (by decide)]at HE;have hff:(if Dk.isF f=false then(2:Int)else 0)=0:=by rw[hf];rfl
 simp only[hff]at HRD;clear hff;obtain⟨n,rfl,hn⟩:=isF_ir hf;rw[Int.toNat_natCast]at HE;clear hf;go_enter func55,ntmps55
 go_upto_region 1 with fail
 obtain⟨x1,x2,hB2,z2⟩:=HBX.o;generalize World.alloc (World.alloc w _) _=W2 at*;have c1:=x1.cell;have Z2:=Lh z2;clear z2;have HR2:=Lh (HRD.o W2 hB2)
 go_upto_region 4 with (first|(go_at_call 63;refine HR2.o.mono ?_;rintro e w1 ⟨rfl,rfl⟩)|fail)
 have hB3:=hB2.alloc hB2.size (.cells #[.int .i64 n] 3);have y1:=x1.alloc (.cells #[.int .i64 n] 3);have y2:=x2.alloc (.cells #[.int .i64 n] 3);have z3:(W2.alloc (.cells #[.int .i64 n] 3)).heap.size=w.heap.size+3:=by simp[Z2.o]
 generalize World.alloc W2 _=W3 at*;have c1':=y1.cell;have c2:=y2.cell;have Z3:=Lh z3;have hb3:=HB.o.below hB3 HD.o;have cn:=(hb3.cell (1+n)).trans (dkC_now HLD.o n hn);have hn16:(n:Int)<16:=by omega
 have hn0:(0:Int)<=(n:Int):=by omega
 have hsz0:(fl d.now n).size<=4194304:=by
  have h1:=sum_le d.now n;have h2:=HH.o.inv.fits;have h3:=HH.o.inv.room2;omega
 clear x1 x2 c1 HR2 z3 hB2 HRD hb3;have HX:Hd (fl d.now n=fl d.now n):=rfl;generalize hx:fl d.now n=x at*;have HXX:=Lh hx;clear hx HX;have hne1:D≠w.heap.size:=by have:=HD.o;omega
 by_cases hz:z<0
 ·rw[if_pos (.inl hz)]at HE;have d1:decide (z<0)=true:=dt0 hz
  go_quiet (fail)
  go_wp2_with fail
  go_ret;rw[HE.o];exact⟨rfl,HH.o.toB (below_drewN hB3 _)⟩
 have d1:decide (z<0)=false:=df0 hz;by_cases hz2:(x.size:Int)<z
 ·rw[if_pos (.inr hz2)]at HE;have d2:decide ((x.size:Int)<z)=true:=dt0 hz2
  go_quiet (fail)
  go_wp2_with fail
  go_ret;rw[HE.o];exact⟨rfl,HH.o.toB (below_drewN hB3 _)⟩
 ·have d2:decide ((x.size:Int)<z)=false:=df0 hz2;rw[if_neg (fun h=>by rcases h with h|h;exact hz h;exact hz2 h)]at HE;obtain⟨m,rfl⟩: ∃m:Nat,z=(m:Int):=⟨z.toNat,by omega⟩;rw[Int.toNat_natCast]at HE;have hok:Hd (Chg.okIn (.cut n m) d.now):=⟨hn,by rw[HXX.o];omega⟩;have hfit:Hd ((Dk.sum ((Chg.cut n m).does d.now):Int)<=d.room):=by
   have h1:=does_sum_cut n m d.now (by rw[HH.o.inv.now16];exact hn);have h2:=HH.o.inv.fits;show(_:Int)<=_;omega
  have hmf: ∀(fn:Fn) (first cap:Array Value) (w:World),(Instr.makeFunc fn first cap).run prog w= .ok (.func fn first cap) w:=fun _ _ _ _=>rfl
  go_quiet (fail)
  have y1:Bq (W3.drewN nq) w.heap.size (.int .i64 (n:Int)):=y1;have y2:Bq (W3.drewN nq) (w.heap.size+1) (.int .i64 (m:Int)):=y2;have hB4:=below_drewN hB3 nq;clear c1' c2 cn hB3 Z3;generalize World.drewN W3 nq=W6 at*;have HCH:=Lh (change_g 116 (px w.heap.size) (px (w.heap.size+1)) .nilFunc (.cut n m) (enters_of func116 (by kernel_rfl) rfl) rfl W6 M (fun b=>b=w.heap.size\/b=w.heap.size+1) D d (HH.o.below hB4)
   (doesC_cut D w.heap.size (w.heap.size+1) n m W6 y1 y2 (by have:=HD.o;omega) (by have:=HD.o;omega))
   ⟨w.heap.size,w.heap.size+1,rfl,rfl,y1,y2,.inl rfl,.inr rfl⟩
   (by
    rintro b (rfl|rfl)
    ·exact⟨y1.lt,fun hm=>by have:=HH.o.lt _ hm;omega⟩
    ·exact⟨y2.lt,fun hm=>by have:=HH.o.lt _ hm;omega⟩) hok.o hfit.o HLL.o)
  unfold px at HCH;clear y1 y2
  go_wp2_with (first|(go_at_call 113;refine HCH.o.mono ?_;rintro e w7 ⟨rfl,hf7,N,hN,hd7⟩)|fail)
  go_ret;rw[HE.o];refine⟨rfl,(Fr.of_new hB4).step hf7 (fun _ _ h=>h) (fun _ _ h=>h),N,fun b hb=>?_,hd7⟩;rcases hN b hb with h|(h|h)|h
  ·exact .inl h
  ·subst h;right;omega
  ·subst h;right;omega
  ·have:=hB4.size;right;omega
theorem Move_c (w:World) (M:Nat->Prop) (D:Nat) (d:Dk) (h:DkAt w M D d) (f z:Int) (hll:d.loose.length<=1000000000):
  Calls prog 57 #[px D,.int .i64 f,.int .i64 z] w fun e w'=>e= .returned (.int .i64 (d.move f z).2)/\DkTo w w' M D (d.move f z).1:=by
 obtain⟨lv,hb,hL⟩:=id h.ex;have hld:=h.inv.len;have hDlt:=h.lt D h.mem;have HRD:Hd (∀W:World,Below w.heap.size w W->Calls prog 63 #[px D,.slice (some ⟨W.heap.size,0,none⟩) 2 2] (W.alloc (.cells #[.int .i64 f,.int .i64 z] 3)) fun e w'=>e= .returned (.int .i64 (if d.off=true then 50 else if Dk.isF f=false\/Dk.isF z=false then 2 else 0))/\(W.alloc (.cells #[.int .i64 f,.int .i64 z] 3))=w'):=by
  intro W hW;rw[<-rdy_two];exact ready_c D _ d lv ((hb.below hW hDlt).alloc _) hld [f,z] 2 _ _ (int_two (Blk.new W _ _))
 have HE:Hd (d.move f z=if d.off=true then(d,50)else if Dk.isF f=false\/Dk.isF z=false then(d,2)else if f=z then(d,2)else d.change (.mv f.toNat z.toNat)):=rfl;generalize d.move f z=R at*;unfold px at HRD⊢;have HH:=Lh h;have HBX:=Lh (two_boxes w (.int .i64 f) (.int .i64 z) 3 3);have HLL:=Lh hll;have HD:=Lh hDlt;clear hL hb h hld hll hDlt;by_cases ho:d.off=true
 ·rw[if_pos ho]at HE;simp only[if_pos ho]at HRD;clear ho;go_enter func57,ntmps57
  go_upto_region 1 with fail
  obtain⟨x1,x2,hB2,z2⟩:=HBX.o;generalize World.alloc (World.alloc w _) _=W2 at*;have c1:=x1.cell;have c2:=x2.cell;clear z2;have HR2:=Lh (HRD.o W2 hB2)
  go_wp2_with (first|(go_at_call 63;refine HR2.o.mono ?_;rintro e w1 ⟨rfl,rfl⟩)|fail)
  go_ret;rw[HE.o];exact⟨rfl,HH.o.toB (hB2.alloc hB2.size _)⟩
 rw[if_neg ho]at HE;simp only[if_neg ho]at HRD;clear ho;by_cases hf:Dk.isF f=false\/Dk.isF z=false
 ·rw[if_pos hf]at HE;simp only[if_pos hf]at HRD;clear hf;go_enter func57,ntmps57
  go_upto_region 1 with fail
  obtain⟨x1,x2,hB2,z2⟩:=HBX.o;generalize World.alloc (World.alloc w _) _=W2 at*;have c1:=x1.cell;have c2:=x2.cell;clear z2;have HR2:=Lh (HRD.o W2 hB2)
  go_wp2_with (first|(go_at_call 63;refine HR2.o.mono ?_;rintro e w1 ⟨rfl,rfl⟩)|fail)
  go_ret;rw[HE.o];exact⟨rfl,HH.o.toB (hB2.alloc hB2.size _)⟩
 rw[if_neg hf]at HE;simp only[if_neg hf]at HRD;have hfa:Dk.isF f=true:=by cases e:Dk.isF f;exact absurd (.inl e) hf;rfl
 have hfb:Dk.isF z=true:=by cases e:Dk.isF z;exact absurd (.inr e) hf;rfl
 clear hf;obtain⟨n,rfl,hn⟩:=isF_ir hfa;obtain⟨m,rfl,hm⟩:=isF_ir hfb;rw[Int.toNat_natCast,Int.toNat_natCast]at HE;clear hfa hfb;have HNM:Hd ((n:Int)=(m:Int)\/(n:Int)≠(m:Int)):=by by_cases e:(n:Int)=(m:Int);exact .inl e;exact .inr e
 have hmf: ∀(fn:Fn) (first cap:Array Value) (w:World),(Instr.makeFunc fn first cap).run prog w= .ok (.func fn first cap) w:=fun _ _ _ _=>rfl;go_enter func57,ntmps57
 go_upto_region 1 with fail
 obtain⟨x1,x2,hB2,z2⟩:=HBX.o;generalize World.alloc (World.alloc w _) _=W2 at*;have c1:=x1.cell;have c2:=x2.cell;have Z2:=Lh z2;clear z2;have HR2:=Lh (HRD.o W2 hB2)
 go_upto_region 4 with (first|(go_at_call 63;refine HR2.o.mono ?_;rintro e w1 ⟨rfl,rfl⟩)|fail)
 have hB6:=hB2.alloc hB2.size (.cells #[.int .i64 n,.int .i64 m] 3);have y1:=x1.alloc (.cells #[.int .i64 n,.int .i64 m] 3);have y2:=x2.alloc (.cells #[.int .i64 n,.int .i64 m] 3);clear x1 x2 c1 c2 HR2 Z2 hB2 HRD;generalize World.alloc W2 _=W6 at*;have c1:=y1.cell;have c2:=y2.cell;rcases HNM.o with he|he
 ·rw[if_pos he]at HE;have d1:((n:Int)==(m:Int))=true:=by rw[beq_iff_eq];exact he
  clear he HNM
  go_wp2_with fail
  go_ret;rw[HE.o];exact⟨rfl,HH.o.toB hB6⟩
 ·rw[if_neg he]at HE;have d1:((n:Int)==(m:Int))=false:=by rw[bq0];exact he
  have hnm:n≠m:=by omega
  have hok:Hd (Chg.okIn (.mv n m) d.now):=⟨hn,hm,hnm⟩;have hfit:Hd ((Dk.sum ((Chg.mv n m).does d.now):Int)<=d.room):=by
   have h16:=HH.o.inv.now16;have h1:=does_sum_mv n m d.now (by rw[h16];exact hn) (by rw[h16];exact hm) hnm;have h2:=HH.o.inv.fits;show(_:Int)<=_;omega
  have HCH:=Lh (change_g 117 (px w.heap.size) (px (w.heap.size+1)) .nilFunc (.mv n m) (enters_of func117 (by kernel_rfl) rfl) rfl W6 M (fun b=>b=w.heap.size\/b=w.heap.size+1) D d (HH.o.below hB6)
   (doesC_mv D w.heap.size (w.heap.size+1) n m W6 y1 y2 (by have:=HD.o;omega) (by have:=HD.o;omega))
   ⟨w.heap.size,w.heap.size+1,rfl,rfl,y1,y2,.inl rfl,.inr rfl⟩
   (by
    rintro b (rfl|rfl)
    ·exact⟨y1.lt,fun hm=>by have:=HH.o.lt _ hm;omega⟩
    ·exact⟨y2.lt,fun hm=>by have:=HH.o.lt _ hm;omega⟩) hok.o hfit.o HLL.o)
  unfold px at HCH;clear y1 y2 he HNM
  go_wp2_with (first|(go_at_call 113;refine HCH.o.mono ?_;rintro e w7 ⟨rfl,hf7,N,hN,hd7⟩)|fail)
  go_ret;rw[HE.o];refine⟨rfl,(Fr.of_new hB6).step hf7 (fun _ _ h=>h) (fun _ _ h=>h),N,fun b hb=>?_,hd7⟩;rcases hN b hb with h|(h|h)|h
  ·exact .inl h
  ·subst h;right;omega
  ·subst h;right;omega
  ·have:=hB6.size;right;omega
theorem Runs.at {room:Int} {l:Fls} {cs:List Chg} (h:Runs room l cs) (k:Nat) (hk:k<cs.length):cs[k].okIn (gone (cs.take k) l)/\(Dk.sum (gone (cs.take k) l):Int)<=room/\(Dk.sum (cs[k].does (gone (cs.take k) l)):Int)<=room:=by
 have h1:=h.drop k;rw[List.drop_eq_getElem_cons hk]at h1;exact⟨h1.2.1,h1.1,h1.2.2.first⟩
