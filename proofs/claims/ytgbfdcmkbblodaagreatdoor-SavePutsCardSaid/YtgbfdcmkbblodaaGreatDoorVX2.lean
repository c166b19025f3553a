/- Parts. -/
import Derived.Test.YtgbfdcmkbblodaaGreatDoorVX1
import Derived.Test.YtgbfdcmkbblodaaGreatDoorVY43
namespace Go.Proofs.YtgbfdcmkbblodaaGreatDoor
open Go.RowKit
set_option linter.unusedVariables false
set_option linter.unusedSimpArgs false
set_option maxRecDepth 100000
set_option maxHeartbeats 16000000
open Tryz
theorem grp_tmod2 (k:Int):(k.tmod 8+8).tmod 8=grp k:=by
 have h:=grp_tmod k;have h1: -8<k.tmod 8/\k.tmod 8<8:=⟨Int.lt_tmod_of_pos k (by decide),Int.tmod_lt_of_pos k (by decide)⟩;rw[Int.tmod_eq_emod_of_nonneg (by omega),h];split<;>omega
theorem rgrp_c (k:Int) (w:World):Calls prog 146 #[.int .i64 k] w fun e w'=>e= .returned (.int .i64 (grp k))/\w=w':=by
 have hg:=grp_tmod2 k;have h1: -8<k.tmod 8/\k.tmod 8<8:=⟨Int.lt_tmod_of_pos k (by decide),Int.tmod_lt_of_pos k (by decide)⟩;have hw:IntKind.i64.wrap (k.tmod 8+8)=k.tmod 8+8:=IntWalk.i64_in _ (by omega);go_enter func146,ntmps146;go_wp2
 all_goals
  go_ret;exact⟨ret_int rfl,rfl⟩
theorem bef_less (a b:Int):decide (bef a b<0)=(decide (grp a<grp b)||((grp a==grp b)&&decide (a<b))):=by
 unfold bef;by_cases h1:grp a<grp b
 ·rw[if_pos h1,dt0 h1];rfl
 rw[if_neg h1,df0 h1,Bool.false_or];by_cases h2:grp b<grp a
 ·rw[if_pos h2,show(grp a==grp b)=false by rw[bq0];omega];rfl
 rw[if_neg h2,show(grp a==grp b)=true by rw[beq_iff_eq];omega,Bool.true_and];by_cases h3:a<b
 ·rw[if_pos h3,dt0 h3];rfl
 rw[if_neg h3,df0 h3];split<;>rfl
theorem rless_c (a b:Int) (w:World):Calls prog 144 #[.int .i64 a,.int .i64 b] w fun e w'=>e= .returned (.bool (decide (bef a b<0)))/\w=w':=by
 have HE:=Lh (bef_less a b);generalize decide (bef a b<0)=R at*;have HA:=Lh (rgrp_c a);have HB:=Lh (rgrp_c b);generalize grp a=ga at*;generalize grp b=gb at*;generalize h1:decide (ga<gb)=x at*;generalize h2:(ga==gb)=y at*;generalize h3:decide (a<b)=z at*
 cases x<;>cases y<;>cases z
 all_goals
  go_enter func144,ntmps144
  go_upto_region 2 with (first|(go_at_call 146;refine(HA.o _).mono ?_;rintro e w1 ⟨rfl,rfl⟩)|fail)
  go_wp2_with (first|(go_at_call 146;refine(HB.o _).mono ?_;rintro e w1 ⟨rfl,rfl⟩)|fail)
  go_ret;rw[HE.o];exact⟨rfl,rfl⟩
def rwL (ps:List (Trow×Value)):List Value:=ps.flatMap fun p=> [.int .i64 p.1.key,.int .i64 p.1.acc,p.2]
theorem rwL_snoc (ps:List (Trow×Value)) (p:Trow×Value):rwL (ps++ [p])=rwL ps++ [.int .i64 p.1.key,.int .i64 p.1.acc,p.2]:=by
 unfold rwL;rw[List.flatMap_append,List.flatMap_cons,List.flatMap_nil,List.append_nil]
theorem rwL_at: ∀(ps:List (Trow×Value)) (k:Nat) (h:k<ps.length),(rwL ps)[k*3]? =some (.int .i64 ps[k].1.key)/\(rwL ps)[k*3+1]? =some (.int .i64 ps[k].1.acc)/\(rwL ps)[k*3+2]? =some ps[k].2
 |p::ps,0,_=>⟨rfl,rfl,rfl⟩
 |p::ps,k+1,h=>by
  have e:rwL (p::ps)= .int .i64 p.1.key:: .int .i64 p.1.acc::p.2::rwL ps:=rfl
  rw[e,show(k+1)*3=k*3+1+1+1 by omega]
  simp only[List.getElem?_cons_succ,List.getElem_cons_succ]
  exact rwL_at ps k (by simpa using h)
theorem Sl.rw {w:World} {B n:Nat} {a:Option Addr} {cap:Nat} {ps:List (Trow×Value)} (h:Sl w B 3 (.slice a n cap) n (rwL ps)) (hn:ps.length=n) (k:Nat) (hk:k<ps.length):
  ∃b off,a=some ⟨b,off,none⟩/\b<B/\w.cell? ⟨b,off+k*3,none⟩=some (.int .i64 ps[k].1.key)/\w.cell? ⟨b,off+k*3+1,none⟩=some (.int .i64 ps[k].1.acc)/\w.cell? ⟨b,off+k*3+2,none⟩=some ps[k].2:=by
 obtain⟨_,a',cap',e,h2,h3,h4⟩:=h;simp only[vs0]at e;obtain⟨rfl,_,rfl⟩:=e;rcases h4 with h4|⟨b,off,rfl,hb,hc⟩
 ·omega
 ·obtain⟨e0,e1,e2⟩:=rwL_at ps k hk;exact⟨b,off,rfl,hb,(hc (k*3) (by omega)).trans e0,(hc (k*3+1) (by omega)).trans e1,(hc (k*3+2) (by omega)).trans e2⟩
theorem cntG_snoc (rs:List Trow) (r:Trow) (g:Int):cntG (rs++ [r]) g=cntG rs g+(bif grp r.key==g then 1 else 0):=by
 unfold cntG;rw[List.filter_append,la0]
 cases h:grp r.key==g<;>simp[h]
theorem cntG_le (rs:List Trow) (g:Int):cntG rs g<=rs.length:=List.length_filter_le _ _
theorem cntG_take (ps:List (Trow×Value)) (g:Int) (k:Nat) (h:k<ps.length):cntG ((ps.map Prod.fst).take (k+1)) g=cntG ((ps.map Prod.fst).take k) g+(bif grp ps[k].1.key==g then 1 else 0):=by
 rw[List.take_succ_eq_append_getElem (by simpa using h),cntG_snoc,List.getElem_map]
theorem rmany_c (T:Nat) (a:Option Addr) (cap:Nat) (ps:List (Trow×Value)) (n:Nat) (hn:ps.length=n) (g:Int) (w:World) (hT:Blk w T 158 #[.slice a n cap]) (hs:Sl w w.heap.size 3 (.slice a n cap) n (rwL ps)):
  Calls prog 145 #[.pointer (some ⟨T,0,none⟩),.int .i64 g] w fun e w'=>e= .returned (.int .i64 (cntG (ps.map Prod.fst) g:Nat))/\w=w':=by
 have c0:=hT.cell 0;obtain⟨_,a',cap',e',h2,h3,_⟩:=id hs;simp only[vs0]at e';obtain⟨rfl,_,rfl⟩:=e';have HS:=Lh hs;have hm:n<=9223372036854775807:=by unfold maxLen at h3;omega
 have HN:=Lh hn;have HE:Hd (cntG (ps.map Prod.fst) g=cntG ((ps.map Prod.fst).take n) g):=by show _=_;rw[List.take_of_length_le (by rw[List.length_map];omega)]
 generalize cntG (ps.map Prod.fst) g=R at*;clear hT hs h2 h3 hn;go_enter func145,ntmps145
 go_wp2_with fail
 go_loopw [5,6] (fun m q wr=> ∃k:Nat,q= .int .i64 (k:Int)/\k<=n/\m= .int .i64 (cntG ((ps.map Prod.fst).take k) g:Nat)/\w=wr) (fun _ q _=>n-(intOf q).toNat)
 case atStart=>exact⟨0,rfl,ze0,rfl,rfl⟩
 case round=>
  obtain⟨k,rfl,hk,rfl,rfl⟩:=hrel;have hc:cntG ((ps.map Prod.fst).take k) g<=k:=le1 (cntG_le _ _) (by rw[List.length_take];omega);by_cases hlt:k<n
  ·have hlt2:k<ps.length:=by rw[HN.o];exact hlt
   obtain⟨b,off,rfl,_,x0,_,_⟩:=HS.o.rw HN.o k hlt2;have HST:=Lh (cntG_take ps g k hlt2);generalize cntG ((ps.map Prod.fst).take k) g=m at*;generalize ps[k].1.key=key at*;generalize hb:(grp key==g)=bb at*
   cases bb
   ·go_wp2_with (first|(go_at_call 146;refine(rgrp_c _ _).mono ?_;rintro e w1 ⟨rfl,rfl⟩)|fail)
    go_roundw
    case rel=>exact⟨k+1,by go_num,hlt,by rw[HST.o];rfl,trivial⟩
    case measure=>simp[intOf];omega
   ·go_wp2_with (first|(go_at_call 146;refine(rgrp_c _ _).mono ?_;rintro e w1 ⟨rfl,rfl⟩)|fail)
    go_roundw
    case rel=>exact⟨k+1,by go_num,hlt,by rw[HST.o];show _=Value.int .i64 ((m+1:Nat):Int);go_num,trivial⟩
    case measure=>simp[intOf];omega
  ·obtain rfl:k=n:=by omega
   go_wp2_with fail
   go_ret;rw[HE.o];exact⟨rfl,rfl⟩
def RT6 (w:World) (bt:Nat) (p:Rd):Prop:=Blk w bt 203 #[.string p.s,.int .i64 p.e]
theorem RT6.set {w:World} {bt:Nat} {p:Rd} (h:RT6 w bt p) (s:ByteArray):RT6 (w.setCell ⟨bt,0,none⟩ (.string s)) bt ⟨s,p.e⟩:=Blk.set h 0 (.string s)
theorem RT6.err {w:World} {bt:Nat} {p:Rd} (h:RT6 w bt p) (e:Int):RT6 (w.setCell ⟨bt,1,none⟩ (.int .i64 e)) bt ⟨p.s,e⟩:=Blk.set h 1 (.int .i64 e)
theorem rnum6_c (bt:Nat) (p:Rd) (hs:p.s.size<=140737488355328) (w:World) (h:RT6 w bt p):
  Calls prog 143 #[.pointer (some ⟨bt,0,none⟩)] w fun e w'=>e= .returned (.int .i64 p.num.1)/\RT6 w' bt p.num.2/\Fr (FrT bt) w w':=by
 have c0:=Blk.cell h 0;have c1:=Blk.cell h 1;have f0:=Blk.free h 0;have f1:=Blk.free h 1;by_cases he:p.e=0
 ·have he':(p.e !=0)=false:=by simpa using he
  have hf:p.num=((takeS p.s).1,⟨p.cut (takeS p.s).2.1,(takeS p.s).2.2⟩):=by unfold Rd.num;rw[if_pos he]
  obtain⟨k,hk,hks⟩:=takeS_nat p.s;have HTK:Hd (∀W:World,Calls prog 105 #[.string p.s] W fun e w'=>e= .returned (.tuple #[.int .i64 (takeS p.s).1,.int .i64 (takeS p.s).2.1,.int .i64 (takeS p.s).2.2])/\W=w'):=fun W=>rTake_c p.s hs W;rw[hf];unfold Rd.cut;rw[hk]at HTK⊢;generalize (takeS p.s).1=n at*;generalize (takeS p.s).2.2=er at*;clear hf hk;go_enter func143,ntmps143
  go_wp2_with fail
  refine(HTK.o _).mono ?_;rintro e w1 ⟨rfl,rfl⟩
  go_wp2_with fail
  go_ret;exact⟨rfl,(h.err er).set _,((Fr.refl (FrT bt) w).setCell (p:=⟨bt,1,none⟩) (.inl rfl) _).setCell (p:=⟨bt,0,none⟩) (.inl rfl) _⟩
 ·have he':(p.e !=0)=true:=by simpa using he
  rw[Rd.num_err he];go_enter func143,ntmps143
  go_wp2_with fail
  go_ret;exact⟨rfl,h,Fr.refl _ w⟩
theorem rwin6_c (bt:Nat) (m:Int) (p:Rd) (hs:p.s.size<=140737488355328) (w:World) (h:RT6 w bt p):
  Calls prog 142 #[.pointer (some ⟨bt,0,none⟩),.int .i64 m] w fun e w'=>e= .returned (.int .i64 (p.win m 21).1)/\RT6 w' bt (p.win m 21).2/\Fr (FrT bt) w w':=by
 have HN:=Lh (rnum6_c bt p hs w h);have HE:Hd (p.win m 21=if p.num.2.e=0/\(p.num.1<0\/m<p.num.1)then(0,⟨p.num.2.s,21⟩)else p.num):=rfl;have HB:Hd (p.num.2.e≠0->p.num.1=0):=Rd.num_bad;generalize p.win m 21=R at*;generalize p.num=q at*;obtain⟨n,p2⟩:=q;dsimp only at HN HE HB;by_cases he:p2.e=0
 ·have heb:(p2.e==0)=true:=by simpa using he
  have hen:(p2.e !=0)=false:=by simpa using he
  by_cases h0:n<0
  ·have d0:decide (n<0)=true:=dt0 h0;have HR:Hd (R=(0,⟨p2.s,21⟩)):=by show _=_;rw[HE.o,if_pos ⟨he,.inl h0⟩]
   clear HE he h0;go_enter func142,ntmps142
   go_wp2_with (first|(go_at_call 143;refine HN.o.mono ?_;rintro e w1 ⟨rfl,h1,f1⟩;have c1:=Blk.cell h1 1;have g1:=Blk.free h1 1;have c2:=Blk.cell (h1.err 21) 1)|fail)
   go_ret;rw[HR.o];exact⟨rfl,h1.err 21,f1.setCell (p:=⟨bt,1,none⟩) (.inl rfl) _⟩
  ·have d0:decide (n<0)=false:=df0 h0;by_cases hm:m<n
   ·have d1:decide (m<n)=true:=dt0 hm;have HR:Hd (R=(0,⟨p2.s,21⟩)):=by show _=_;rw[HE.o,if_pos ⟨he,.inr hm⟩]
    clear HE he h0;go_enter func142,ntmps142
    go_wp2_with (first|(go_at_call 143;refine HN.o.mono ?_;rintro e w1 ⟨rfl,h1,f1⟩;have c1:=Blk.cell h1 1;have g1:=Blk.free h1 1;have c2:=Blk.cell (h1.err 21) 1)|fail)
    go_ret;rw[HR.o];exact⟨rfl,h1.err 21,f1.setCell (p:=⟨bt,1,none⟩) (.inl rfl) _⟩
   ·have d1:decide (m<n)=false:=df0 hm;have HR:Hd (R=(n,p2)):=by show _=_;rw[HE.o,if_neg (by omega)]
    clear HE he h0;go_enter func142,ntmps142
    go_wp2_with (first|(go_at_call 143;refine HN.o.mono ?_;rintro e w1 ⟨rfl,h1,f1⟩;have c1:=Blk.cell h1 1)|fail)
    go_ret;rw[HR.o];exact⟨rfl,h1,f1⟩
 ·have heb:(p2.e==0)=false:=by simpa using he
  have hen:(p2.e !=0)=true:=by simpa using he
  have HR:Hd (R=(0,p2)):=by show _=_;rw[HE.o,if_neg (fun h=>he h.1),HB.o he]
  clear HE he;go_enter func142,ntmps142
  go_wp2_with (first|(go_at_call 143;refine HN.o.mono ?_;rintro e w1 ⟨rfl,h1,f1⟩;have c1:=Blk.cell h1 1)|fail)
  go_ret;rw[HR.o];exact⟨rfl,h1,f1⟩
theorem rFind_c (jb:Jb) (u:ByteArray) (v:Value) (B:Nat) (w:World) (hv:JbAt w B v jb) (hB:B<=w.heap.size):
  CB prog 83 #[v,.string u] w (.int .i64 (jb.find u)):=by
 obtain⟨sv,rfl,hs⟩:=hv;obtain⟨a,cap,rfl,hcap,hmx⟩:=hs.slice;have HE:Hd (jb.find u=idxZ (fun d:Nd=>decide (d.uid=u)) jb.nodes 0):=rfl;generalize jb.find u=R at*;generalize jb.nodes=l at*;generalize jb.par=par at*;have hb:=(Below.refl w.heap.size w).alloc le0 (.cells #[.int .i64 par,.slice a l.length cap] 24);have HS:=Lh ((hs.mono hB).keep hb);have c1:=(Blk.new w #[.int .i64 par,.slice a l.length cap] 24).cell 1;have HB:=Lh hb;have hlm:l.length<=9223372036854775807:=by unfold maxLen at hmx;omega
 clear hs hb;go_enter func83,ntmps83
 go_wp2_with fail
 generalize (w.alloc (.cells #[.int .i64 par,.slice a l.length cap] 24))=W at*
 go_loopw [5] (fun q wr=> ∃k:Nat,q= .int .i64 (k:Int)/\k<=l.length/\R=idxZ (fun d:Nd=>decide (d.uid=u)) (l.drop k) k/\W=wr) (fun q _=>l.length-(intOf q).toNat)
 case atStart=>exact⟨0,rfl,ze0,HE.o,rfl⟩
 case round=>
  obtain⟨k,rfl,hk,hr,rfl⟩:=hrel;by_cases hlt:k<l.length
  ·obtain⟨nb,no,nc,e1,hnb,hu,iv,xv,n0,_⟩:=HS.o.at_ k hlt;simp only[vs0]at e1;obtain⟨rfl,_,rfl⟩:=e1;rw[List.drop_eq_getElem_cons hlt]at hr;simp only[idxZ]at hr;have hbi:=bytes_inj l[k].uid u;have HR:=Lh hr;clear hr;generalize l[k]=d at*;by_cases hc:d.uid=u
   ·have hq:(d.uid.toList==u.toList)=true:=by simpa using hbi.2 hc
    have HRR:Hd (R=(k:Int)):=by show _=_;rw[HR.o,dt0 hc];rfl
    clear HR hc hbi
    go_wp2_with fail
    go_ret;exact⟨ret_int HRR.o.symm,HB.o⟩
   ·have hq:(d.uid.toList==u.toList)=false:=by simpa using fun h=>hc (hbi.1 h)
    have HRR:Hd (R=idxZ (fun d:Nd=>decide (d.uid=u)) (l.drop (k+1)) (k+1)):=by show _=_;rw[HR.o,df0 hc];rfl
    clear HR hc hbi
    go_wp2_with fail
    go_roundw
    case rel=>exact⟨k+1,by go_num,hlt,HRR.o,trivial⟩
    case measure=>simp[intOf];omega
  ·have HRR:Hd (R= -1):=by show _=_;rw[hr,List.drop_of_length_le (by omega)];rfl
   clear hr
   go_wp2_with fail
   go_ret;exact⟨ret_int HRR.o.symm,HB.o⟩
