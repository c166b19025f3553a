/- Parts. -/
import Derived.Test.YtgbfdcmkbblodaaGreatDoorVXb
import Derived.Test.YtgbfdcmkbblodaaGreatDoorVXe
import Derived.Test.YtgbfdcmkbblodaaGreatDoorVY44
namespace Go.Proofs.YtgbfdcmkbblodaaGreatDoor
open Go.RowKit
set_option linter.unusedVariables false
set_option linter.unusedSimpArgs false
set_option maxRecDepth 100000
set_option maxHeartbeats 16000000
open Tryz
def UT (w:World) (bt:Nat) (p:Ub):Prop:=Blk w bt 98 #[.string p.s,.bool p.bad]
theorem ne_dec (e:Int):decide (e≠0)=(e !=0):=by
 by_cases h:e=0
 ·subst h;rfl
 ·rw[dt0 h,bne_iff_ne.2 h]
theorem UT.done {w:World} {bt:Nat} {p:Ub} (h:UT w bt p) (b:Bool) (s:ByteArray):UT ((w.setCell ⟨bt,1,none⟩ (.bool b)).setCell ⟨bt,0,none⟩ (.string s)) bt ⟨s,b⟩:=(Blk.set h 1 (.bool b)).set 0 (.string s)
theorem rnum23_c (bt:Nat) (p:Ub) (hs:p.s.size<=140737488355328) (w:World) (h:UT w bt p):
  Calls prog 50 #[.pointer (some ⟨bt,0,none⟩)] w fun e w'=>e= .returned (.int .i64 p.num.1)/\UT w' bt p.num.2/\Fr (FrT bt) w w':=by
 have c0:=Blk.cell h 0;have c1:=Blk.cell h 1;have f0:=Blk.free h 0;have f1:=Blk.free h 1;have hf:p.num=((takeS p.s).1,⟨p.s.extract (takeS p.s).2.1.toNat p.s.size,p.bad||((takeS p.s).2.2 !=0)⟩):=by unfold Ub.num;rw[ne_dec]
 obtain⟨k,hk,hks⟩:=takeS_nat p.s;have HTK:Hd (∀W:World,Calls prog 105 #[.string p.s] W fun e w'=>e= .returned (.tuple #[.int .i64 (takeS p.s).1,.int .i64 (takeS p.s).2.1,.int .i64 (takeS p.s).2.2])/\W=w'):=fun W=>rTake_c p.s hs W;rw[hf];rw[hk]at HTK⊢;generalize (takeS p.s).1=n at*;generalize (takeS p.s).2.2=er at*;clear hf hk;have hfr: ∀b:Bool,∀s:ByteArray,Fr (FrT bt) w ((w.setCell ⟨bt,1,none⟩ (.bool b)).setCell ⟨bt,0,none⟩ (.string s)):=fun b s=>((Fr.refl (FrT bt) w).setCell (p:=⟨bt,1,none⟩) (.inl rfl) _).setCell (p:=⟨bt,0,none⟩) (.inl rfl) _;have HFR:=Lh hfr;have HH:=Lh h;clear hfr h;generalize hbd:p.bad=bd at*;clear hbd
 cases bd
 ·generalize hz:(er !=0)=ez at*;go_enter func50,ntmps50
  go_wp2_with fail
  refine(HTK.o _).mono ?_;rintro e w1 ⟨rfl,rfl⟩
  cases ez
  ·go_wp2_with fail
   go_ret;exact⟨rfl,HH.o.done _ _,HFR.o _ _⟩
  ·go_wp2_with fail
   go_ret;exact⟨rfl,HH.o.done _ _,HFR.o _ _⟩
 ·go_enter func50,ntmps50
  go_wp2_with fail
  refine(HTK.o _).mono ?_;rintro e w1 ⟨rfl,rfl⟩
  go_wp2_with fail
  go_ret;exact⟨rfl,HH.o.done _ _,HFR.o _ _⟩
theorem rtext23_c (bt:Nat) (p:Ub) (hs:p.s.size<=140737488355328) (w:World) (h:UT w bt p):
  Calls prog 52 #[.pointer (some ⟨bt,0,none⟩)] w fun e w'=>e= .returned (.string p.text.1)/\UT w' bt p.text.2/\Fr (FrT bt) w w':=by
 have c0:=Blk.cell h 0;have c1:=Blk.cell h 1;have f0:=Blk.free h 0;have f1:=Blk.free h 1;have hf:p.text=((takeT p.s).1,⟨p.s.extract (takeT p.s).2.1.toNat p.s.size,p.bad||((takeT p.s).2.2 !=0)⟩):=by unfold Ub.text;rw[ne_dec]
 obtain⟨k,hk,hks⟩:=takeT_size p.s;have HTK:Hd (∀W:World,Calls prog 110 #[.string p.s] W fun e w'=>e= .returned (.tuple #[.string (takeT p.s).1,.int .i64 (takeT p.s).2.1,.int .i64 (takeT p.s).2.2])/\W=w'):=fun W=>rTakeText_c p.s hs W;rw[hf];rw[hk]at HTK⊢;generalize (takeT p.s).1=n at*;generalize (takeT p.s).2.2=er at*;clear hf hk;have hfr: ∀b:Bool,∀s:ByteArray,Fr (FrT bt) w ((w.setCell ⟨bt,1,none⟩ (.bool b)).setCell ⟨bt,0,none⟩ (.string s)):=fun b s=>((Fr.refl (FrT bt) w).setCell (p:=⟨bt,1,none⟩) (.inl rfl) _).setCell (p:=⟨bt,0,none⟩) (.inl rfl) _;have HFR:=Lh hfr;have HH:=Lh h;clear hfr h;generalize hbd:p.bad=bd at*;clear hbd
 cases bd
 ·generalize hz:(er !=0)=ez at*;go_enter func52,ntmps52
  go_wp2_with fail
  refine(HTK.o _).mono ?_;rintro e w1 ⟨rfl,rfl⟩
  cases ez
  ·go_wp2_with fail
   go_ret;exact⟨rfl,HH.o.done _ _,HFR.o _ _⟩
  ·go_wp2_with fail
   go_ret;exact⟨rfl,HH.o.done _ _,HFR.o _ _⟩
 ·go_enter func52,ntmps52
  go_wp2_with fail
  refine(HTK.o _).mono ?_;rintro e w1 ⟨rfl,rfl⟩
  go_wp2_with fail
  go_ret;exact⟨rfl,HH.o.done _ _,HFR.o _ _⟩
theorem Ub.num_size (p:Ub):p.num.2.s.size<=p.s.size:=cut_size _ _
theorem Ub.text_size (p:Ub):p.text.2.s.size<=p.s.size:=cut_size _ _
theorem takeJ_lim6 (s:ByteArray):(∀d∈(takeJ s).1.nodes,d.uid.size<=1000000)/\(takeJ s).1.nodes.length<=1000:=by
 by_cases h:(takeJ s).2=0
 ·obtain⟨h1,h2,h3,_⟩:=takeJ_back s h;have:=(good_small h1 h3).2.1;exact⟨fun d hd=>by have:=h2 d hd;omega,by omega⟩
 ·rw[takeJ_err s h];exact⟨by simp,by simp⟩
theorem sta_few (u:ByteArray):(Ub.sta u).1.uid.size<=65536/\(Ub.sta u).1.bytes.size<=65536:=⟨takeT_few _,takeT_few _⟩
theorem rSvX_fit (u:ByteArray) (l:List Frm) (h:l.length<=1000000):(rSvX u l).Fit:=by
 have h4:=rSvX_ok u l (by omega);have h5:=takeJ_lim6 (Ub.mk u false).num.2.num.2.num.2.text.1;have e:(rSvX u l).states=l.map fun f=>(Ub.sta f.2).1:=by unfold rSvX;dsimp only
 have e3:(rSvX u l).job=(takeJ (Ub.mk u false).num.2.num.2.num.2.text.1).1:=by unfold rSvX rHead;dsimp only
 generalize rSvX u l=x at*;generalize takeJ (Ub.mk u false).num.2.num.2.num.2.text.1=j at*;refine⟨h4,⟨?_,fun s hs=>?_⟩,?_,?_⟩
 ·rw[e,List.length_map];exact h
 ·rw[e]at hs;obtain⟨f,_,rfl⟩:=List.mem_map.1 hs;exact sta_few f.2
 ·rw[e3];exact h5.1
 ·rw[e3];exact h5.2
theorem stCells_snoc (l:List Sta) (s:Sta):stCells (l++ [s])=stCells l++ [.string s.uid,.string s.bytes]:=by
 unfold stCells;rw[List.flatMap_append,List.flatMap_cons,List.flatMap_nil,List.append_nil]
theorem Sl.fm {w:World} {B n:Nat} {a:Option Addr} {cap:Nat} {l:List Frm} (h:Sl w B 2 (.slice a n cap) n (fmL l)) (hn:l.length=n) (k:Nat) (hk:k<l.length):
  ∃g off,a=some ⟨g,off,none⟩/\g<B/\w.cell? ⟨g,off+k*2+1,none⟩=some (.string l[k].2):=by
 obtain⟨_,a',cap',e,h2,h3,h4⟩:=h;simp only[vs0]at e;obtain⟨rfl,_,rfl⟩:=e;rcases h4 with h4|⟨b,off,rfl,hb,hc⟩
 ·omega
 ·exact⟨b,off,rfl,hb,(hc (k*2+1) (by omega)).trans (fmL_at l k hk).2⟩
structure B23 (w W:World):Prop where
 below:Below w.heap.size w W
 res:Blk W w.heap.size 27 #[.int .i64 0,.int .i64 0,.int .i64 0,.slice none 0 0,.slice none 0 0]
 non:Blk W (w.heap.size+1) 27 #[.int .i64 0,.int .i64 0,.int .i64 0,.slice none 0 0,.slice none 0 0]
theorem B23.more {w W W':World} (h:B23 w W) (hb:Below W.heap.size W W'):B23 w W':=⟨h.below.trans (hb.mono h.below.size),h.res.below hb h.res.lt,h.non.below hb h.non.lt⟩
structure T23 (w:World) (L:Value) (n:Nat) (fs:List Frm) (X:Nat) (p:Ub) (cs:Array Value) (W:World):Prop extends B23 w W where
 fr:Sl W X 2 L n (fmL fs)
 tx:UT W X p
 sv:Blk W (X+1) 27 cs
 hX:w.heap.size+1<X
namespace T23
variable {w W W':World} {L:Value} {n X:Nat} {fs:List Frm} {p q:Ub} {cs:Array Value}
theorem keep (h:T23 w L n fs X p cs W) (hf:Fr (fun b=>X+1<b) W W'):T23 w L n fs X p cs W':=by
 have hX:=h.hX;have hl:X<W.heap.size:=h.tx.lt;exact⟨⟨h.below.trans (hf.below h.below.size (fun k hk e=>by omega)),h.res.fr hf (by omega),h.non.fr hf (by omega)⟩,h.fr.below (hf.below (by omega) (fun k hk e=>by omega)),Blk.fr h.tx hf (by omega),h.sv.fr hf (by omega),hX⟩
theorem num (h:T23 w L n fs X p cs W) (hf:Fr (FrT X) W W') (hq:UT W' X q):T23 w L n fs X q cs W':=by
 have hX:=h.hX;have hl:X<W.heap.size:=h.tx.lt;have hne: ∀k,k≠X-> ¬FrT X k:=fun k hk e=>hk e;exact⟨⟨h.below.trans (hf.below h.below.size (fun k hk=>hne k (by omega))),h.res.fr hf (hne _ (by omega)),h.non.fr hf (hne _ (by omega))⟩,h.fr.below (hf.below (by omega) (fun k hk=>hne k (by omega))),hq,h.sv.fr hf (hne _ (by omega)),hX⟩
theorem set (h:T23 w L n fs X p cs W) (i:Nat) (v:Value):T23 w L n fs X p (cs.setIfInBounds i v) (W.setCell ⟨X+1,i,none⟩ v):=by
 have hX:=h.hX;have hl:X<W.heap.size:=h.tx.lt;have hf:=(Fr.refl (fun b=>X<b) W).setCell (p:=⟨X+1,i,none⟩) (.inl (Nat.lt_succ_self X)) v;exact⟨⟨h.below.trans (hf.below h.below.size (fun k hk e=>by omega)),h.res.fr hf (by omega),h.non.fr hf (by omega)⟩,h.fr.below (hf.below (by omega) (fun k hk e=>by omega)),Blk.fr h.tx hf (by omega),h.sv.set i v,hX⟩
theorem bad (h:T23 w L n fs X p cs W) (b:Bool):T23 w L n fs X ⟨p.s,b⟩ cs (W.setCell ⟨X,1,none⟩ (.bool b)):=
 h.num ((Fr.refl (FrT X) W).setCell (p:=⟨X,1,none⟩) (.inl rfl) _) (Blk.set h.tx 1 (.bool b))
theorem more (h:T23 w L n fs X p cs W) (hb:Below W.heap.size W W'):T23 w L n fs X p cs W':=h.keep (Fr.of_new hb)
end T23
theorem rSvTake_c (b:ByteArray) (hb:b.size<=990000) (w:World):
  Calls prog 12 #[.string b] w fun e w'=>(∃v,e= .returned (.tuple #[v,.int .i64 (rSv b).2])/\SvIn w' (fun c=>w.heap.size<=c/\c<w'.heap.size) v (rSv b).1)/\Below w.heap.size w w':=by
 have HRS:Hd (rSv b=match allF b with
  | []=>(sv0,230)
  |p::l=>if(frs (p::l)).length≠b.size then(sv0,230)else rSvG p.2 l b):=rfl
 have HFW:=Lh (frs_few b);obtain⟨_,_,hok0,_⟩:=allF_spec b;generalize rSv b=R at*;have hB0:B23 w ((w.alloc (.cells #[.int .i64 0,.int .i64 0,.int .i64 0,.slice none 0 0,.slice none 0 0] 27)).alloc (.cells #[.int .i64 0,.int .i64 0,.int .i64 0,.slice none 0 0,.slice none 0 0] 27)):=⟨(br0.alloc le0 _).alloc (by simp) _,(Blk.new w _ _).alloc _,Blk.new_at _ _ _ (by simp)⟩;have HAL:=Lh (rAll_c b (by omega) ((w.alloc (.cells #[.int .i64 0,.int .i64 0,.int .i64 0,.slice none 0 0,.slice none 0 0] 27)).alloc (.cells #[.int .i64 0,.int .i64 0,.int .i64 0,.slice none 0 0,.slice none 0 0] 27)));have hzw:w.heap.size+1<((w.alloc (.cells #[.int .i64 0,.int .i64 0,.int .i64 0,.slice none 0 0,.slice none 0 0] 27)).alloc (.cells #[.int .i64 0,.int .i64 0,.int .i64 0,.slice none 0 0,.slice none 0 0] 27)).heap.size:=by simp
 go_enter func12,ntmps12
 go_upto_region 2 with fail
 generalize ((w.alloc (.cells #[.int .i64 0,.int .i64 0,.int .i64 0,.slice none 0 0,.slice none 0 0] 27)).alloc (.cells #[.int .i64 0,.int .i64 0,.int .i64 0,.slice none 0 0,.slice none 0 0] 27))=W0 at*
 go_upto_region 3 with (first|(go_at_call 49;refine HAL.o.mono ?_;rintro e w1 ⟨L,rfl,hown,hb1⟩)|fail)
 obtain⟨la,lcap,rfl⟩:=own_sl hown;have hSL:=Sl.of_owns hown;have hB1:=hB0.more hb1;have hz1:w.heap.size+1<w1.heap.size:=lt1 hzw hb1.size;clear hown hb1 hB0 HAL hzw;generalize allF b=fs at*;have HB1:=Lh hB1;clear hB1;rcases fs with _|⟨p0,rest⟩
 ·have HRR:Hd (R=(sv0,230)):=HRS.o;clear HRS hSL hok0;obtain⟨r0,r1,r2,r3,r4⟩:=HB1.o.res.q5;obtain⟨g0,g1,g2,g3,g4⟩:=HB1.o.res.u5;obtain⟨n0,n1,n2,n3,n4⟩:=HB1.o.non.q5;have HG:=Lh (set5 HB1.o.res HB1.o.below le0 (.int .i64 0) (.int .i64 0) (.int .i64 0) (.slice none 0 0) (.slice none 0 0))
  go_wp2_with fail
  refine bodyPost_ret (v:= .tuple #[.agg #[_,_,_,_,_],_]) (results_cell_row2P rfl _ _ w.heap.size 27 _ (0,0) _ rfl HG.o.1 underlying27 rfl ?_ (.int .i64 230) rfl) rfl ?_
  ·as_aux_lemma=>kernel_rfl
  rw[HRR.o];exact⟨⟨_,rfl,_,_,rfl,NodesIn.nil _ _,StaRd.nil _ _⟩,HG.o.2.1⟩
 ·have hRS2:R=if(frs (p0::rest)).length≠b.size then(sv0,230)else rSvG p0.2 rest b:=HRS.o;have HRS2:=Lh hRS2;clear hRS2 HRS;have hn0:((rest.length+1:Nat):Int)≠0:=by omega
  have hn1:(((rest.length+1:Nat):Int)==0)=false:=by rw[bq0];exact hn0
  have HOK0:=Lh hok0;have hfw:rest.length+1<=990000:=by have:=HFW.o;rw[List.length_cons]at this;omega
  have hlc:(p0::rest).length=rest.length+1:=rfl;rw[hlc]at hSL⊢;have HLC:=Lh hlc;clear hlc hn0 hok0;generalize hfr:(frs (p0::rest)).length=whole at*;clear hfr;by_cases hwl:whole=b.size
  case neg=>
   have HRR:Hd (R=(sv0,230)):=by show _=_;rw[HRS2.o,if_pos hwl]
   have hwb:((whole:Int) !=(b.size:Int))=true:=by rw[bne_iff_ne];omega
   clear HRS2 hwl;obtain⟨r0,r1,r2,r3,r4⟩:=HB1.o.res.q5;obtain⟨g0,g1,g2,g3,g4⟩:=HB1.o.res.u5;obtain⟨n0,n1,n2,n3,n4⟩:=HB1.o.non.q5;have HG:=Lh (set5 HB1.o.res HB1.o.below le0 (.int .i64 0) (.int .i64 0) (.int .i64 0) (.slice none 0 0) (.slice none 0 0))
   go_wp2_with fail
   refine bodyPost_ret (v:= .tuple #[.agg #[_,_,_,_,_],_]) (results_cell_row2P rfl _ _ w.heap.size 27 _ (0,0) _ rfl HG.o.1 underlying27 rfl ?_ (.int .i64 230) rfl) rfl ?_
   ·as_aux_lemma=>kernel_rfl
   rw[HRR.o];exact⟨⟨_,rfl,_,_,rfl,NodesIn.nil _ _,StaRd.nil _ _⟩,HG.o.2.1⟩
  subst hwl;have hwb:((b.size:Int) !=(b.size:Int))=false:=by simp
  have HRS3:Hd (R=rSvG p0.2 rest b):=by show _=_;rw[HRS2.o,if_neg (by simp)]
  clear HRS2;obtain⟨g,off,rfl,hgl,hpc⟩:=hSL.fm HLC.o 0 (by simp);have hpc2:w1.cell? ⟨g,off+1,none⟩=some (.string p0.2):=by simpa using hpc
  have hu:=(HOK0.o p0 (by simp)).2.2;have hT2:T23 w (.slice (some ⟨g,off,none⟩) (rest.length+1) lcap) (rest.length+1) (p0::rest) w1.heap.size ⟨p0.2,false⟩ #[.int .i64 0,.int .i64 0,.int .i64 0,.slice none 0 0,.slice none 0 0] ((w1.alloc (.cells #[.string p0.2,.bool false] 98)).alloc (.cells #[.int .i64 0,.int .i64 0,.int .i64 0,.slice none 0 0,.slice none 0 0] 27)):=
   ⟨(HB1.o.more (br0.alloc le0 _)).more (br0.alloc le0 _),(hSL.below (br0.alloc le0 _)).below (((Below.refl w1.heap.size (w1.alloc (.cells #[.string p0.2,.bool false] 98)))).alloc (by simp) _),(Blk.new w1 _ _).alloc _,Blk.new_at _ _ _ (by simp),hz1⟩
  have HT2:=Lh hT2;have hsz0:(Ub.mk p0.2 false).s.size<=140737488355328:=by show p0.2.size<=_;omega
  have HFIT:=Lh (rSvX_fit p0.2 rest (by omega));have HXX:Hd (rSvX p0.2 rest=⟨(Ub.mk p0.2 false).num.1,(Ub.mk p0.2 false).num.2.num.1,(takeJ (Ub.mk p0.2 false).num.2.num.2.num.2.text.1).1,rest.map fun f=>(Ub.sta f.2).1⟩):=by show _=_;unfold rSvX rHead;dsimp only
  have HRS4:Hd (R=if(takeJ (Ub.mk p0.2 false).num.2.num.2.num.2.text.1).2≠0\/(Ub.mk p0.2 false).num.2.num.2.num.1≠rest.length then(sv0,230)else
   if((Ub.mk p0.2 false).num.2.num.2.num.2.text.2.bad||rest.any fun f=>(Ub.sta f.2).2)=true\/(putSv (rSvX p0.2 rest)).2≠0\/bstr (putSv (rSvX p0.2 rest)).1≠b then(sv0,230)else(rSvX p0.2 rest,0)):=by show _=_;rw[HRS3.o];unfold rSvG rHead;dsimp only
  clear hT2 hSL hpc HRS3 hu
  go_upto_region 7 with fail
  generalize (w1.alloc (.cells #[.string p0.2,.bool false] 98)).alloc (.cells #[.int .i64 0,.int .i64 0,.int .i64 0,.slice none 0 0,.slice none 0 0] 27)=W2 at*;generalize w1.heap.size=X at*;generalize rSvX p0.2 rest=xx at*;have HN1:=Lh (rnum23_c X ⟨p0.2,false⟩ hsz0 W2 HT2.o.tx);have hs1:=le1 (Ub.num_size ⟨p0.2,false⟩) hsz0;generalize (Ub.mk p0.2 false).num=q1 at*;obtain⟨n0,p1⟩:=q1;dsimp only at HRS4 HXX HN1 hs1;have HN2:=Lh (fun(W:World) (h:UT W X p1)=>rnum23_c X p1 hs1 W h);have hs2:=le1 p1.num_size hs1;generalize p1.num=q2 at*;obtain⟨c0,p2⟩:=q2;dsimp only at HRS4 HXX HN2 hs2;have HN3:=Lh (fun(W:World) (h:UT W X p2)=>rnum23_c X p2 hs2 W h);have hs3:=le1 p2.num_size hs2;generalize p2.num=q3 at*;obtain⟨m0,p3⟩:=q3;dsimp only at HRS4 HXX HN3 hs3;have HTX:=Lh (fun(W:World) (h:UT W X p3)=>rtext23_c X p3 hs3 W h);have htz:p3.text.1.size<=140737488355328:=by have:p3.text.1.size<=65536:=takeT_few _;omega
  generalize p3.text=q4 at*;obtain⟨tt,p4⟩:=q4;dsimp only at HRS4 HXX HTX htz;have HTJ:Hd (∀W,Calls prog 51 #[.string tt] W (TakeJPost tt W)):=fun W=>rTake14_c tt htz W;unfold TakeJPost at HTJ;generalize takeJ tt=J at*;obtain⟨J,je⟩:=J;dsimp only at HRS4 HXX HTJ;clear hs1 hs2 hs3 htz hsz0 hpc2 HB1;have s0:=HT2.o.sv.cell 0;have f0:=HT2.o.sv.free 0
  go_upto_region 11 with (first
   |(go_at_call 50;refine HN1.o.mono ?_;rintro e w3 ⟨rfl,hq3,hf3⟩;have hT3:=HT2.o.num hf3 hq3;have s1:=hT3.sv.cell 0;have f1:=hT3.sv.free 0;have hT3s:=hT3.set 0 (.int .i64 n0);clear HN1)
   |(go_at_call 50;refine(HN2.o _ hT3s.tx).mono ?_;rintro e w4 ⟨rfl,hq4,hf4⟩;have hT4:=hT3s.num hf4 hq4;have s2:=hT4.sv.cell 1;have f2:=hT4.sv.free 1;have hT4s:=hT4.set 1 (.int .i64 c0);clear HN2)
   |(go_at_call 50;refine(HN3.o _ hT4s.tx).mono ?_;rintro e w5 ⟨rfl,hq5,hf5⟩;have hT5:=hT4s.num hf5 hq5;clear HN3)
   |(go_at_call 52;refine(HTX.o _ hT5.tx).mono ?_;rintro e w6 ⟨rfl,hq6,hf6⟩;have hT6:=hT5.num hf6 hq6;clear HTX)
   |(go_at_call 51;refine(HTJ.o _).mono ?_;rintro e w7 ⟨jv,rfl,⟨nv,rfl,hnn⟩,hb7⟩;obtain⟨na,nc,rfl,_,_⟩:=hnn.slice)
   |fail)
  have hJB:=Blk.new w7 #[.int .i64 J.par,.slice na J.nodes.length nc] 24;have hX6:X+1<w6.heap.size:=hT6.sv.lt;have hal:Below w7.heap.size w7 (w7.alloc (.cells #[.int .i64 J.par,.slice na J.nodes.length nc] 24)):=br0.alloc le0 _;have hT8:=(hT6.more hb7).more hal;have hnn8:NodesIn (w7.alloc (.cells #[.int .i64 J.par,.slice na J.nodes.length nc] 24)) (fun c=>X+1<c/\c<w7.heap.size) J.nodes (.slice na J.nodes.length nc):=hnn.keep (fun c hc=>⟨lt1 hX6 hc.1,hc.2⟩) (fun c hc=>hal.block c hc.2);have hJlt:w7.heap.size<(w7.alloc (.cells #[.int .i64 J.par,.slice na J.nodes.length nc] 24)).heap.size:=hJB.lt;have hXJ:X+1<w7.heap.size:=lt1 hX6 hb7.size;have j0:=hJB.cell 0;have j1:=hJB.cell 1;have HT8:=Lh hT8;have HNN8:=Lh hnn8;have HJB:=Lh hJB;clear hT3 hT3s hT4 hT4s hT5 hT6 hT8 hnn8 hnn hal hJB hq3 hq4 hq5 hq6 hf3 hf4 hf5 hf6 hb7 s0 s1 s2 f0 f1 f2 HT2 HTJ hX6;generalize (w7.alloc (.cells #[.int .i64 J.par,.slice na J.nodes.length nc] 24))=W8 at*;generalize w7.heap.size=JB at*;by_cases hje:je=0
  case neg=>
   have HRR:Hd (R=(sv0,230)):=by show _=_;rw[HRS4.o,if_pos (.inl hje)]
   have hjb:(je !=0)=true:=by simpa using hje
   clear HRS4 hje;obtain⟨r0,r1,r2,r3,r4⟩:=HT8.o.toB23.res.q5;obtain⟨g0,g1,g2,g3,g4⟩:=HT8.o.toB23.res.u5;obtain⟨n0,n1,n2,n3,n4⟩:=HT8.o.toB23.non.q5;have HG:=Lh (set5 HT8.o.toB23.res HT8.o.toB23.below le0 (.int .i64 0) (.int .i64 0) (.int .i64 0) (.slice none 0 0) (.slice none 0 0))
   go_wp2_with fail
   refine bodyPost_ret (v:= .tuple #[.agg #[_,_,_,_,_],_]) (results_cell_row2P rfl _ _ w.heap.size 27 _ (0,0) _ rfl HG.o.1 underlying27 rfl ?_ (.int .i64 230) rfl) rfl ?_
   ·as_aux_lemma=>kernel_rfl
   rw[HRR.o];exact⟨⟨_,rfl,_,_,rfl,NodesIn.nil _ _,StaRd.nil _ _⟩,HG.o.2.1⟩
  subst hje;by_cases hmn:m0=(rest.length:Int)
  case neg=>
   have HRR:Hd (R=(sv0,230)):=by show _=_;rw[HRS4.o,if_pos (.inr hmn)]
   have hm1:(m0 !=(rest.length:Int))=true:=by rw[bne_iff_ne];exact hmn
   have hm2:(m0 !=((rest.length+1:Nat):Int) -1)=true:=by rw[bne_iff_ne];omega
   have hm3:(m0 !=(rest.length:Int)+1-1)=true:=by rw[bne_iff_ne];omega
   clear HRS4 hmn;obtain⟨r0,r1,r2,r3,r4⟩:=HT8.o.toB23.res.q5;obtain⟨g0,g1,g2,g3,g4⟩:=HT8.o.toB23.res.u5;obtain⟨n0,n1,n2,n3,n4⟩:=HT8.o.toB23.non.q5;have HG:=Lh (set5 HT8.o.toB23.res HT8.o.toB23.below le0 (.int .i64 0) (.int .i64 0) (.int .i64 0) (.slice none 0 0) (.slice none 0 0))
   go_wp2_with fail
   refine bodyPost_ret (v:= .tuple #[.agg #[_,_,_,_,_],_]) (results_cell_row2P rfl _ _ w.heap.size 27 _ (0,0) _ rfl HG.o.1 underlying27 rfl ?_ (.int .i64 230) rfl) rfl ?_
   ·as_aux_lemma=>kernel_rfl
   rw[HRR.o];exact⟨⟨_,rfl,_,_,rfl,NodesIn.nil _ _,StaRd.nil _ _⟩,HG.o.2.1⟩
  have HRS5:Hd (R=if(p4.bad||rest.any fun f=>(Ub.sta f.2).2)=true\/(putSv xx).2≠0\/bstr (putSv xx).1≠b then(sv0,230)else(xx,0)):=by
   show _=_;rw[HRS4.o,if_neg];rintro (h|h)
   ·exact h rfl
   ·exact h hmn
  have hm1:(m0 !=(rest.length:Int))=false:=by rw[bne_eq_false_iff_eq];exact hmn
  have hm2:(m0 !=((rest.length+1:Nat):Int) -1)=false:=by rw[bne_eq_false_iff_eq];omega
  have hm3:(m0 !=(rest.length:Int)+1-1)=false:=by rw[bne_eq_false_iff_eq];omega
  have t2:=HT8.o.sv.cell 2;have t3:=HT8.o.sv.cell 3;have u2:=HT8.o.sv.free 2;have u3:=HT8.o.sv.free 3;clear HRS4 hmn
  go_upto_region 15 with fail
  have hT9:=(HT8.o.set 2 (.int .i64 J.par)).set 3 (.slice na J.nodes.length nc);have hf9:=((Fr.refl (fun c=>c=X+1) W8).setCell (p:=⟨X+1,2,none⟩) (.inl rfl) (.int .i64 J.par)).setCell (p:=⟨X+1,3,none⟩) (.inl rfl) (.slice na J.nodes.length nc);have hn9:=HNN8.o.keep (Q:=fun c=>X+1<c/\c<JB) (fun c hc=>hc) (fun c hc=>hf9.block c (by omega) (by omega));have hJ9:JB<((W8.setCell ⟨X+1,2,none⟩ (.int .i64 J.par)).setCell ⟨X+1,3,none⟩ (.slice na J.nodes.length nc)).heap.size:=lt1 hJlt hf9.size;have HT9:=Lh hT9;have HN9:=Lh hn9;have HJ9:=Lh hJ9;clear hT9 hf9 hn9 hJ9 t2 t3 u2 u3 j0 j1 hm1 hm2 hm3 HT8 HNN8 HJB hJlt hn1 hwb;generalize (W8.setCell ⟨X+1,2,none⟩ (.int .i64 J.par)).setCell ⟨X+1,3,none⟩ (.slice na J.nodes.length nc)=W9 at*
  go_loopw [12] (fun q wr=> ∃(i k:Nat) (p:Ub) (sv:Value),q= .int .i64 (i:Int)/\Hd (i=k+1)/\k<=rest.length/\T23 w (.slice (some ⟨g,off,none⟩) (rest.length+1) lcap) (rest.length+1) (p0::rest) X p #[.int .i64 n0,.int .i64 c0,.int .i64 J.par,.slice na J.nodes.length nc,sv] wr/\NodesIn wr (fun c=>X+1<c/\c<JB) J.nodes (.slice na J.nodes.length nc)/\wr.ownsRow (JB+1) 72 2 sv k (stCells ((rest.take k).map fun f=>(Ub.sta f.2).1))/\Hd (p.bad=(p4.bad||(rest.take k).any fun f=>(Ub.sta f.2).2))/\JB<wr.heap.size) (fun q _=>rest.length+2-(intOf q).toNat)
  case atStart=>exact⟨1,0,p4,.slice none 0 0,rfl,rfl,ze0,HT9.o,HN9.o,World.ownsRow_nil _ _ _ _,by show _=_;simp,HJ9.o⟩
  case round=>
   obtain⟨i,k,p,sv,rfl,hik,hk,hT,hnd,hrow,hbd,hJl⟩:=hrel;obtain⟨sa,scap,rfl⟩:=own_sl hrow;by_cases hkl:k<rest.length
   ·have hiI:(i:Int)<((rest.length+1:Nat):Int):=by have:=hik.o;omega
    obtain⟨g',off',e,hg',hc⟩:=hT.fr.fm HLC.o (k+1) (by have:=HLC.o;omega);simp only[Option.some.injEq,Addr.mk.injEq,and_true]at e;obtain⟨rfl,rfl⟩:=e;have hc2:wr.cell? ⟨g,off+i*2+1,none⟩=some (.string rest[k].2):=by rw[hik.o];exact hc
    have hfz:rest[k].2.size<=65536:=(HOK0.o rest[k] (List.mem_cons_of_mem _ (List.getElem_mem hkl))).2.2;have HTK:Hd ((rest.take (k+1)).map (fun f=>(Ub.sta f.2).1)=(rest.take k).map (fun f=>(Ub.sta f.2).1)++ [(Ub.sta rest[k].2).1]/\((rest.take (k+1)).any fun f=>(Ub.sta f.2).2)=(((rest.take k).any fun f=>(Ub.sta f.2).2)||(Ub.sta rest[k].2).2)):=by
     show _/\_;rw[List.take_succ_eq_append_getElem hkl,List.map_append,List.any_append];simp
    have HKL:=Lh hkl;clear hc;generalize rest[k].2=f at*;clear hkl;have hA1:Below wr.heap.size wr (wr.alloc (.cells #[.string f,.bool false] 98)):=br0.alloc le0 _;have hA2:Below wr.heap.size wr ((wr.alloc (.cells #[.string f,.bool false] 98)).alloc (.cells #[.string {data:=#[]},.string {data:=#[]}] 72)):=hA1.alloc hA1.size _;have hU:UT ((wr.alloc (.cells #[.string f,.bool false] 98)).alloc (.cells #[.string {data:=#[]},.string {data:=#[]}] 72)) wr.heap.size ⟨f,false⟩:=(Blk.new wr _ _).alloc _;have hY:Blk ((wr.alloc (.cells #[.string f,.bool false] 98)).alloc (.cells #[.string {data:=#[]},.string {data:=#[]}] 72)) (wr.heap.size+1) 72 #[.string {data:=#[]},.string {data:=#[]}]:=Blk.new_at _ _ _ (by simp);have hT2:=hT.more hA2;have hr2:=own_keep hrow hA2;have hn2:=hnd.keep (Q:=fun c=>X+1<c/\c<JB) (fun c hc=>hc) (fun c hc=>hA2.block c (by omega));have hrl:=own_lt hrow;have HT2:=Lh hT2;have HR2:=Lh hr2;have HN2:=Lh hn2;have HRL:=Lh hrl;have HU:=Lh hU;have HY:=Lh hY;clear hT hrow hnd hA1 hA2 hT2 hr2 hn2 hU hY hrl hg'
    go_upto_region 19 with fail
    generalize ((wr.alloc (.cells #[.string f,.bool false] 98)).alloc (.cells #[.string {data:=#[]},.string {data:=#[]}] 72))=W2 at*;generalize wr.heap.size=U at*;have hsz:(Ub.mk f false).s.size<=140737488355328:=by show f.size<=_;omega
    have HST:Hd (Ub.sta f=(⟨(Ub.mk f false).text.1,(Ub.mk f false).text.2.text.1⟩,(Ub.mk f false).text.2.text.2.bad)):=rfl;have HT1:=Lh (rtext23_c U ⟨f,false⟩ hsz W2 HU.o);have hsz2:=le1 (Ub.text_size ⟨f,false⟩) hsz;generalize (Ub.mk f false).text=q1 at*;obtain⟨t1,u1⟩:=q1;dsimp only at HST HT1 hsz2;have HTT:=Lh (fun(W:World) (h:UT W U u1)=>rtext23_c U u1 hsz2 W h);generalize u1.text=q2 at*;obtain⟨t2,u2⟩:=q2;dsimp only at HST HTT;rw[HST.o]at HTK;dsimp only at HTK;clear hsz hsz2 HST hfz;have y0:=HY.o.cell 0;have z0:=HY.o.free 0;have hne: ∀a c:Nat,¬c=a-> ¬FrT a c:=fun a c h e=>h e
    go_upto_region 21 with (first
     |(go_at_call 52;refine HT1.o.mono ?_;rintro e w3 ⟨rfl,hU3,hf3⟩;have hY3:=HY.o.fr hf3 (hne _ _ (by omega));have y1:=hY3.cell 0;have z1:=hY3.free 0;have hY3s:=hY3.set 0 (.string t1);have hU3s:UT _ U u1:=Blk.other hU3 (p:=⟨U+1,0,none⟩) (by show U≠U+1;omega) (.string t1);clear HT1)
     |(go_at_call 52;refine(HTT.o _ hU3s).mono ?_;rintro e w4 ⟨rfl,hU4,hf4⟩;have hY4:=hY3s.fr hf4 (hne _ _ (by omega));have y2:=hY4.cell 1;have z2:=hY4.free 1)
     |fail)
    have hY5:=hY4.set 1 (.string t2);have hU5:UT _ U u2:=Blk.other hU4 (p:=⟨U+1,1,none⟩) (by show U≠U+1;omega) (.string t2);have hF3:=(hf3.mono (T:=fun c=>U<=c) (fun c _ e=>by have:c=U:=e;omega)).setCell (p:=⟨U+1,0,none⟩) (.inl (Nat.le_succ U)) (.string t1);have hF5:=(hF3.trans (hf4.mono (T:=fun c=>U<=c) (fun c _ e=>by have:c=U:=e;omega))).setCell (p:=⟨U+1,1,none⟩) (.inl (Nat.le_succ U)) (.string t2);have hT5:=HT2.o.keep (hF5.mono (fun c _ e=>by have:U<=c:=e;omega));have hR5:=own_frB HR2.o hF5 (fun c e q=>by have:=HRL.o c e;have:U<=c:=q;omega);have hN5:=HN2.o.keep (Q:=fun c=>X+1<c/\c<JB) (fun c hc=>hc) (fun c hc=>hF5.block c (by have:=hF5.size;have:=HT2.o.tx.lt;have:=hU3.lt;have:=HU.o.lt;omega) (by omega));have hY5l:U+1<(w4.setCell ⟨U+1,1,none⟩ (.string t2)).heap.size:=hY5.lt;clear y0 z0 y1 z1 y2 z2 hf3 hf4 hF3 hF5 hY3 hY3s hU3 hU3s hY4 hU4 HTT HY HU HR2 HN2;generalize (w4.setCell ⟨U+1,1,none⟩ (.string t2))=W5 at*;have x1:=Blk.cell hT5.tx 1;have xf:=Blk.free hT5.tx 1;have v1:=Blk.cell hU5 1;obtain⟨i0,hi,hz0,hz1,hz2⟩:=info_parts info_staS;generalize hpb:p.bad=pb at*;clear hpb
    cases pb
    ·have hT6:=hT5.bad u2.bad;have hY6:=hY5.other (p:=⟨X,1,none⟩) (by show U+1≠X;omega) (.bool u2.bad);have hf6:=(Fr.refl (fun c=>c=X) W5).setCell (p:=⟨X,1,none⟩) (.inl rfl) (.bool u2.bad);have hR6:=own_frB hR5 hf6 (fun c e q=>by have:=own_ge hR5 c e;have:c=X:=q;omega);have hN6:=hN5.keep (Q:=fun c=>X+1<c/\c<JB) (fun c hc=>hc) (fun c hc=>hf6.block c (by omega) (by have:=hc.1;omega));have hz6:U+1<(W5.setCell ⟨X,1,none⟩ (.bool u2.bad)).heap.size:=hY6.lt;have HT6:=Lh hT6;have HR6:=Lh hR6;have HN6:=Lh hN6;have HY6:=Lh hY6;clear hT6 hR6 hN6 hY6 hf6 hT5 hR5 hN5 hY5 hU5 hY5l
     go_upto_region 22 with fail
     generalize (W5.setCell ⟨X,1,none⟩ (.bool u2.bad))=W6 at*;clear x1 xf v1;have y6:=HY6.o.cell 0;have y7:=HY6.o.cell 1;have s4:=HT6.o.sv.cell 4;have hO:=own_alloc HR6.o (.cells #[.string t1,.string t2] 72);have hcell:=cell_two_new W6 (.string t1) (.string t2) 72;have hbs:JB+1<=(W6.alloc (.cells #[.string t1,.string t2] 72)).heap.size:=by simp;omega
     have HO:=Lh hO;have HC:=Lh hcell;have HGE:=Lh (own_ge HR6.o);have HLT:=Lh (own_lt HR6.o);clear hO hcell
     go_wp2_with (first
      |(at_builtin;refine wpList_append_own _ rfl _ _ 25 rfl (JB+1) 72 i0 (.agg #[.string {data:=#[]},.string {data:=#[]}]) 2 32 underlying25 hi hz0 hz1 hz2 rfl (by decide) (.slice sa k scap) k (stCells ((rest.take k).map fun f=>(Ub.sta f.2).1)) rfl HO.o ⟨W6.heap.size,0,none⟩ 1 1 [.string t1,.string t2] rfl rfl HC.o (by simp[Value.oneCell']) (by unfold maxLen;omega) (by omega) hbs ?_;intro v' w8 hown8 hgrow8 _;obtain⟨g8,cap8,rfl⟩:=owns_succ hown8;have hF8:Fr (fun c=>JB<c) W6 w8:=((Fr.refl (fun c=>JB<c) W6).alloc _).grown hgrow8 (fun c e=> .inl (by have:=HGE.o c e;omega));have hT8:=HT6.o.keep (hF8.mono (fun c _ e=>by have:JB<c:=e;omega));have e4:=hT8.sv.cell 4;have e5:=hT8.sv.free 4)
      |fail)
     have hT9:=hT8.set 4 (.slice (some ⟨g8,0,none⟩) (k+1) cap8);have hf9:=(Fr.refl (fun c=>c=X+1) w8).setCell (p:=⟨X+1,4,none⟩) (.inl rfl) (.slice (some ⟨g8,0,none⟩) (k+1) cap8);have hn9:=(HN6.o.keep (Q:=fun c=>X+1<c/\c<JB) (fun c hc=>hc) (fun c hc=>hF8.block c (by omega) (by have:=hc.2;omega))).keep (Q:=fun c=>X+1<c/\c<JB) (fun c hc=>hc) (fun c hc=>hf9.block c (by have:=hF8.size;have:=hc.2;omega) (by have:=hc.1;omega));have hr9:=own_other hown8 (p:=⟨X+1,4,none⟩) (by show X+1<JB+1;omega) (.slice (some ⟨g8,0,none⟩) (k+1) cap8);have hJ9:JB<(w8.setCell ⟨X+1,4,none⟩ (.slice (some ⟨g8,0,none⟩) (k+1) cap8)).heap.size:=lt1 (show JB<W6.heap.size by omega) (le1 hF8.size hf9.size);have hbd9:Hd (u2.bad=(p4.bad||(rest.take (k+1)).any fun f=>(Ub.sta f.2).2)):=by show _=_;rw[HTK.o.2,<-Bool.or_assoc,<-hbd.o];rfl
     have hik9:Hd (i+1=k+1+1):=by show _=_;rw[hik.o]
     go_roundw
     case rel=>exact⟨i+1,k+1,⟨p.s,u2.bad⟩,_,by go_num,hik9,HKL.o,hT9,hn9,by rw[HTK.o.1,stCells_snoc];exact hr9,hbd9,hJ9⟩
     case measure=>have:=HKL.o;have:=hik.o;simp[intOf];omega
    ·have hT6:=hT5.bad true;have hY6:=hY5.other (p:=⟨X,1,none⟩) (by show U+1≠X;omega) (.bool true);have hf6:=(Fr.refl (fun c=>c=X) W5).setCell (p:=⟨X,1,none⟩) (.inl rfl) (.bool true);have hR6:=own_frB hR5 hf6 (fun c e q=>by have:=own_ge hR5 c e;have:c=X:=q;omega);have hN6:=hN5.keep (Q:=fun c=>X+1<c/\c<JB) (fun c hc=>hc) (fun c hc=>hf6.block c (by omega) (by have:=hc.1;omega));have hz6:U+1<(W5.setCell ⟨X,1,none⟩ (.bool true)).heap.size:=hY6.lt;have HT6:=Lh hT6;have HR6:=Lh hR6;have HN6:=Lh hN6;have HY6:=Lh hY6;clear hT6 hR6 hN6 hY6 hf6 hT5 hR5 hN5 hY5 hU5 hY5l
     go_upto_region 22 with fail
     generalize (W5.setCell ⟨X,1,none⟩ (.bool true))=W6 at*;clear x1 xf v1;have y6:=HY6.o.cell 0;have y7:=HY6.o.cell 1;have s4:=HT6.o.sv.cell 4;have hO:=own_alloc HR6.o (.cells #[.string t1,.string t2] 72);have hcell:=cell_two_new W6 (.string t1) (.string t2) 72;have hbs:JB+1<=(W6.alloc (.cells #[.string t1,.string t2] 72)).heap.size:=by simp;omega
     have HO:=Lh hO;have HC:=Lh hcell;have HGE:=Lh (own_ge HR6.o);have HLT:=Lh (own_lt HR6.o);clear hO hcell
     go_wp2_with (first
      |(at_builtin;refine wpList_append_own _ rfl _ _ 25 rfl (JB+1) 72 i0 (.agg #[.string {data:=#[]},.string {data:=#[]}]) 2 32 underlying25 hi hz0 hz1 hz2 rfl (by decide) (.slice sa k scap) k (stCells ((rest.take k).map fun f=>(Ub.sta f.2).1)) rfl HO.o ⟨W6.heap.size,0,none⟩ 1 1 [.string t1,.string t2] rfl rfl HC.o (by simp[Value.oneCell']) (by unfold maxLen;omega) (by omega) hbs ?_;intro v' w8 hown8 hgrow8 _;obtain⟨g8,cap8,rfl⟩:=owns_succ hown8;have hF8:Fr (fun c=>JB<c) W6 w8:=((Fr.refl (fun c=>JB<c) W6).alloc _).grown hgrow8 (fun c e=> .inl (by have:=HGE.o c e;omega));have hT8:=HT6.o.keep (hF8.mono (fun c _ e=>by have:JB<c:=e;omega));have e4:=hT8.sv.cell 4;have e5:=hT8.sv.free 4)
      |fail)
     have hT9:=hT8.set 4 (.slice (some ⟨g8,0,none⟩) (k+1) cap8);have hf9:=(Fr.refl (fun c=>c=X+1) w8).setCell (p:=⟨X+1,4,none⟩) (.inl rfl) (.slice (some ⟨g8,0,none⟩) (k+1) cap8);have hn9:=(HN6.o.keep (Q:=fun c=>X+1<c/\c<JB) (fun c hc=>hc) (fun c hc=>hF8.block c (by omega) (by have:=hc.2;omega))).keep (Q:=fun c=>X+1<c/\c<JB) (fun c hc=>hc) (fun c hc=>hf9.block c (by have:=hF8.size;have:=hc.2;omega) (by have:=hc.1;omega));have hr9:=own_other hown8 (p:=⟨X+1,4,none⟩) (by show X+1<JB+1;omega) (.slice (some ⟨g8,0,none⟩) (k+1) cap8);have hJ9:JB<(w8.setCell ⟨X+1,4,none⟩ (.slice (some ⟨g8,0,none⟩) (k+1) cap8)).heap.size:=lt1 (show JB<W6.heap.size by omega) (le1 hF8.size hf9.size);have hbd9:Hd (true=(p4.bad||(rest.take (k+1)).any fun f=>(Ub.sta f.2).2)):=by show _=_;rw[HTK.o.2,<-Bool.or_assoc,<-hbd.o];rfl
     have hik9:Hd (i+1=k+1+1):=by show _=_;rw[hik.o]
     go_roundw
     case rel=>exact⟨i+1,k+1,⟨p.s,true⟩,_,by go_num,hik9,HKL.o,hT9,hn9,by rw[HTK.o.1,stCells_snoc];exact hr9,hbd9,hJ9⟩
     case measure=>have:=HKL.o;have:=hik.o;simp[intOf];omega
   ·obtain rfl:k=rest.length:=by omega
    have hie:i=rest.length+1:=hik.o;have hiI: ¬(i:Int)<((rest.length+1:Nat):Int):=by omega
    rw[List.take_length]at hrow hbd;have hrow2:wr.ownsRow (JB+1) 72 2 (.slice sa rest.length scap) (rest.map fun f=>(Ub.sta f.2).1).length (stCells (rest.map fun f=>(Ub.sta f.2).1)):=by rw[List.length_map];exact hrow
    have HIN:Hd (SvIn wr (fun c=>X+1<c/\c<wr.heap.size) (.agg #[.int .i64 n0,.int .i64 c0,.int .i64 J.par,.slice na J.nodes.length nc,.slice sa rest.length scap]) xx):=by
     show SvIn _ _ _ _;rw[HXX.o];exact⟨_,_,rfl,hnd.keep (fun c hc=>by omega) (fun _ _=>rfl),(staRd_own hrow2).keep (fun c hc=>by omega) (fun _ _=>rfl)⟩
    have HPT:=Lh (rSvPut_c xx HFIT.o _ wr (HIN.o.at_ (fun c hc=>hc.2)));clear hrow hrow2 hnd hik;generalize putSv xx=PV at*;obtain⟨pc,pe⟩:=PV;dsimp only at HRS5 HPT;obtain⟨s0,s1,s2,s3,s4⟩:=hT.sv.q5;have HT:=Lh hT;clear hT
    go_upto_region 24 with (first|(go_at_call 8;refine HPT.o.mono ?_;rintro e w9 ⟨rfl,hb9⟩)|fail)
    have HT9:Hd (T23 w (.slice (some ⟨g,off,none⟩) (rest.length+1) lcap) (rest.length+1) (p0::rest) X p #[.int .i64 n0,.int .i64 c0,.int .i64 J.par,.slice na J.nodes.length nc,.slice sa rest.length scap] w9):=HT.o.more hb9;have HIN9:Hd (SvIn w9 (fun c=>X+1<c/\c<w9.heap.size) (.agg #[.int .i64 n0,.int .i64 c0,.int .i64 J.par,.slice na J.nodes.length nc,.slice sa rest.length scap]) xx):=HIN.o.keep (fun c hc=>⟨hc.1,lt1 hc.2 hb9.size⟩) (fun c hc=>hb9.block c hc.2);have x1:=Blk.cell HT9.o.tx 1;clear s0 s1 s2 s3 s4 hb9 HT HIN HPT;generalize p.bad=pb at*
    cases pb
    ·by_cases hpe:pe=0
     ·subst hpe;by_cases hpc:bstr pc=b
      ·have d3:((bstr pc).toList==b.toList)=true:=by rw[eql_dec];exact dt0 hpc
       have HRR:Hd (R=(xx,0)):=by
        show _=_;rw[HRS5.o,if_neg];rintro (h|h|h)
        ·rw[<-hbd.o]at h;cases h
        ·exact h rfl
        ·exact h hpc
       have hX:=HT9.o.hX;clear HRS5 hpc;obtain⟨r0,r1,r2,r3,r4⟩:=HT9.o.res.q5;obtain⟨g0,g1,g2,g3,g4⟩:=HT9.o.res.u5;obtain⟨m0,m1,m2,m3,m4⟩:=HT9.o.sv.q5;have HG:=Lh (set5 HT9.o.res HT9.o.below le0 (.int .i64 n0) (.int .i64 c0) (.int .i64 J.par) (.slice na J.nodes.length nc) (.slice sa rest.length scap))
       go_wp2_with fail
       refine bodyPost_ret (v:= .tuple #[.agg #[_,_,_,_,_],_]) (results_cell_row2P rfl _ _ w.heap.size 27 _ (0,0) _ rfl HG.o.1 underlying27 rfl ?_ (.int .i64 0) rfl) rfl ?_
       ·as_aux_lemma=>kernel_rfl
       rw[HRR.o];exact⟨⟨_,rfl,HIN9.o.keep (fun c hc=>⟨by have:=hc.1;omega,by rw[HG.o.2.2.2];exact hc.2⟩) (fun c hc=>HG.o.2.2.1 c (by have:=hc.1;omega))⟩,HG.o.2.1⟩
      ·have d3:((bstr pc).toList==b.toList)=false:=by rw[eql_dec];exact df0 hpc
       have HRR:Hd (R=(sv0,230)):=by show _=_;rw[HRS5.o,if_pos (.inr (.inr hpc))]
       clear HRS5 hpc;obtain⟨r0,r1,r2,r3,r4⟩:=HT9.o.toB23.res.q5;obtain⟨g0,g1,g2,g3,g4⟩:=HT9.o.toB23.res.u5;obtain⟨n0,n1,n2,n3,n4⟩:=HT9.o.toB23.non.q5;have HG:=Lh (set5 HT9.o.toB23.res HT9.o.toB23.below le0 (.int .i64 0) (.int .i64 0) (.int .i64 0) (.slice none 0 0) (.slice none 0 0))
       go_wp2_with fail
       refine bodyPost_ret (v:= .tuple #[.agg #[_,_,_,_,_],_]) (results_cell_row2P rfl _ _ w.heap.size 27 _ (0,0) _ rfl HG.o.1 underlying27 rfl ?_ (.int .i64 230) rfl) rfl ?_
       ·as_aux_lemma=>kernel_rfl
       rw[HRR.o];exact⟨⟨_,rfl,_,_,rfl,NodesIn.nil _ _,StaRd.nil _ _⟩,HG.o.2.1⟩
     ·have hpb:(pe !=0)=true:=by simpa using hpe
      have HRR:Hd (R=(sv0,230)):=by show _=_;rw[HRS5.o,if_pos (.inr (.inl hpe))]
      clear HRS5 hpe;obtain⟨r0,r1,r2,r3,r4⟩:=HT9.o.toB23.res.q5;obtain⟨g0,g1,g2,g3,g4⟩:=HT9.o.toB23.res.u5;obtain⟨n0,n1,n2,n3,n4⟩:=HT9.o.toB23.non.q5;have HG:=Lh (set5 HT9.o.toB23.res HT9.o.toB23.below le0 (.int .i64 0) (.int .i64 0) (.int .i64 0) (.slice none 0 0) (.slice none 0 0))
      go_wp2_with fail
      refine bodyPost_ret (v:= .tuple #[.agg #[_,_,_,_,_],_]) (results_cell_row2P rfl _ _ w.heap.size 27 _ (0,0) _ rfl HG.o.1 underlying27 rfl ?_ (.int .i64 230) rfl) rfl ?_
      ·as_aux_lemma=>kernel_rfl
      rw[HRR.o];exact⟨⟨_,rfl,_,_,rfl,NodesIn.nil _ _,StaRd.nil _ _⟩,HG.o.2.1⟩
    ·have HRR:Hd (R=(sv0,230)):=by show _=_;rw[HRS5.o,if_pos (.inl hbd.o.symm)]
     clear HRS5;obtain⟨r0,r1,r2,r3,r4⟩:=HT9.o.toB23.res.q5;obtain⟨g0,g1,g2,g3,g4⟩:=HT9.o.toB23.res.u5;obtain⟨n0,n1,n2,n3,n4⟩:=HT9.o.toB23.non.q5;have HG:=Lh (set5 HT9.o.toB23.res HT9.o.toB23.below le0 (.int .i64 0) (.int .i64 0) (.int .i64 0) (.slice none 0 0) (.slice none 0 0))
     go_wp2_with fail
     refine bodyPost_ret (v:= .tuple #[.agg #[_,_,_,_,_],_]) (results_cell_row2P rfl _ _ w.heap.size 27 _ (0,0) _ rfl HG.o.1 underlying27 rfl ?_ (.int .i64 230) rfl) rfl ?_
     ·as_aux_lemma=>kernel_rfl
     rw[HRR.o];exact⟨⟨_,rfl,_,_,rfl,NodesIn.nil _ _,StaRd.nil _ _⟩,HG.o.2.1⟩
