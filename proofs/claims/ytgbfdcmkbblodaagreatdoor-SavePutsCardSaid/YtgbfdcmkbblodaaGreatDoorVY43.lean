/- Parts. -/
import Derived.Test.YtgbfdcmkbblodaaGreatDoorVY21
namespace Go.Proofs.YtgbfdcmkbblodaaGreatDoor
open Go.RowKit
set_option linter.unusedVariables false
set_option linter.unusedSimpArgs false
set_option maxRecDepth 100000
set_option maxHeartbeats 16000000
open Tryz
def RT (w:World) (bt:Nat) (p:Rd):Prop:=Blk w bt 171 #[.string p.s,.int .i64 p.e]
def FrT (bt:Nat):Nat->Prop:=fun k=>k=bt
theorem RT.set {w:World} {bt:Nat} {p:Rd} (h:RT w bt p) (s:ByteArray):RT (w.setCell ⟨bt,0,none⟩ (.string s)) bt ⟨s,p.e⟩:=Blk.set h 0 (.string s)
theorem RT.err {w:World} {bt:Nat} {p:Rd} (h:RT w bt p) (e:Int):RT (w.setCell ⟨bt,1,none⟩ (.int .i64 e)) bt ⟨p.s,e⟩:=Blk.set h 1 (.int .i64 e)
theorem RT.alloc {w:World} {bt:Nat} {p:Rd} (h:RT w bt p) (o:Obj):RT (w.alloc o) bt p:=Blk.alloc h o
theorem RT.drew {w:World} {bt:Nat} {p:Rd} (h:RT w bt p):RT w.drew bt p:=h
theorem RT.fr {w w':World} {bt:Nat} {p:Rd} {S:Nat->Prop} (h:RT w bt p) (hf:Fr S w w') (hs: ¬S bt):RT w' bt p:=Blk.fr h hf hs
theorem RT.other {w:World} {bt:Nat} {p:Rd} (h:RT w bt p) {a:Addr} (ha:bt≠a.block) (u:Value):RT (w.setCell a u) bt p:=Blk.other h ha u
theorem RT.lt {w:World} {bt:Nat} {p:Rd} (h:RT w bt p):bt<w.heap.size:=Blk.lt h
theorem takeS_nat (s:ByteArray): ∃k:Nat,(takeS s).2.1=(k:Int)/\k<=s.size:=by
 obtain⟨k,h1,h2,_⟩:=takeS_size s;exact⟨k,h1,h2⟩
theorem tnumber_c (bt:Nat) (p:Rd) (hs:p.s.size<=140737488355328) (w:World) (h:RT w bt p):
  Calls prog 106 #[.pointer (some ⟨bt,0,none⟩)] w fun e w'=>e= .returned (.int .i64 p.num.1)/\RT w' bt p.num.2/\Fr (FrT bt) w w':=by
 have c0:=Blk.cell h 0;have c1:=Blk.cell h 1;have f0:=Blk.free h 0;have f1:=Blk.free h 1;by_cases he:p.e=0
 ·have he':(p.e !=0)=false:=by simpa using he
  have hf:p.num=((takeS p.s).1,⟨p.cut (takeS p.s).2.1,(takeS p.s).2.2⟩):=by unfold Rd.num;rw[if_pos he]
  have HNB:Hd ((takeS p.s).2.2≠0->(takeS p.s).1=0/\(takeS p.s).2.1=0):=fun hz=>tkGo_err _ 0 0 hz;obtain⟨k,hk,hks⟩:=takeS_nat p.s;have HTK:Hd (∀W:World,Calls prog 105 #[.string p.s] W fun e w'=>e= .returned (.tuple #[.int .i64 (takeS p.s).1,.int .i64 (takeS p.s).2.1,.int .i64 (takeS p.s).2.2])/\W=w'):=fun W=>rTake_c p.s hs W;rw[hf];unfold Rd.cut;rw[hk]at HTK HNB⊢;generalize (takeS p.s).1=n at*;generalize (takeS p.s).2.2=er at*;clear hf hk;by_cases hz:er=0
  ·have hzb:(er !=0)=false:=by simpa using hz
   subst hz;go_enter func106,ntmps106
   go_wp2_with fail
   refine(HTK.o _).mono ?_;rintro e w1 ⟨rfl,rfl⟩
   go_wp2_with fail
   go_ret;exact⟨rfl,(h.err 0).set _,((Fr.refl (FrT bt) w).setCell (p:=⟨bt,1,none⟩) (.inl rfl) _).setCell (p:=⟨bt,0,none⟩) (.inl rfl) _⟩
  ·have hzb:(er !=0)=true:=by simpa using hz
   obtain⟨q1,q2⟩:=HNB.o hz;obtain rfl:k=0:=by omega
   subst q1;clear hz q2 HNB;go_enter func106,ntmps106
   go_wp2_with fail
   refine(HTK.o _).mono ?_;rintro e w1 ⟨rfl,rfl⟩
   go_wp2_with fail
   go_ret;refine⟨rfl,?_,(Fr.refl (FrT bt) w).setCell (p:=⟨bt,1,none⟩) (.inl rfl) _⟩;have e0:p.s.extract (Int.toNat ((0:Nat):Int)) p.s.size=p.s:=by
    show p.s.extract 0 p.s.size=p.s;rw[<-bstr_of (p.s.extract 0 p.s.size),cut_list,List.drop_zero,bstr_of]
   rw[e0];exact h.err er
 ·have he':(p.e !=0)=true:=by simpa using he
  rw[Rd.num_err he];go_enter func106,ntmps106
  go_wp2_with fail
  go_ret;exact⟨rfl,h,Fr.refl _ w⟩
theorem twithin_c (bt:Nat) (m why:Int) (p:Rd) (hs:p.s.size<=140737488355328) (w:World) (h:RT w bt p):
  Calls prog 107 #[.pointer (some ⟨bt,0,none⟩),.int .i64 m,.int .i64 why] w fun e w'=>e= .returned (.int .i64 (p.win m why).1)/\RT w' bt (p.win m why).2/\Fr (FrT bt) w w':=by
 have HN:=Lh (tnumber_c bt p hs w h);have HE:Hd (p.win m why=if p.num.2.e=0/\(p.num.1<0\/m<p.num.1)then(0,⟨p.num.2.s,why⟩)else p.num):=rfl;generalize p.win m why=R at*;generalize p.num=q at*;obtain⟨n,p2⟩:=q;dsimp only at HN HE;by_cases he:p2.e=0
 ·have heb:(p2.e==0)=true:=by simpa using he
  by_cases h0:n<0
  ·have d0:decide (n<0)=true:=dt0 h0;have HR:Hd (R=(0,⟨p2.s,why⟩)):=by show _=_;rw[HE.o,if_pos ⟨he,.inl h0⟩]
   clear HE he h0;go_enter func107,ntmps107
   go_wp2_with fail
   refine HN.o.mono ?_;rintro e w1 ⟨rfl,h1,f1⟩;have c1:=Blk.cell h1 1;have g1:=Blk.free h1 1
   go_wp2_with fail
   go_ret;rw[HR.o];exact⟨rfl,h1.err why,f1.setCell (p:=⟨bt,1,none⟩) (.inl rfl) _⟩
  ·have d0:decide (n<0)=false:=df0 h0;by_cases hm:m<n
   ·have d1:decide (m<n)=true:=dt0 hm;have HR:Hd (R=(0,⟨p2.s,why⟩)):=by show _=_;rw[HE.o,if_pos ⟨he,.inr hm⟩]
    clear HE he h0;go_enter func107,ntmps107
    go_wp2_with fail
    refine HN.o.mono ?_;rintro e w1 ⟨rfl,h1,f1⟩;have c1:=Blk.cell h1 1;have g1:=Blk.free h1 1
    go_wp2_with fail
    go_ret;rw[HR.o];exact⟨rfl,h1.err why,f1.setCell (p:=⟨bt,1,none⟩) (.inl rfl) _⟩
   ·have d1:decide (m<n)=false:=df0 hm;have HR:Hd (R=(n,p2)):=by show _=_;rw[HE.o,if_neg (by omega)]
    clear HE he h0;go_enter func107,ntmps107
    go_wp2_with fail
    refine HN.o.mono ?_;rintro e w1 ⟨rfl,h1,f1⟩;have c1:=Blk.cell h1 1
    go_wp2_with fail
    go_ret;rw[HR.o];exact⟨rfl,h1,f1⟩
 ·have heb:(p2.e==0)=false:=by simpa using he
  have HR:Hd (R=(n,p2)):=by show _=_;rw[HE.o,if_neg (fun h=>he h.1)]
  clear HE he;go_enter func107,ntmps107
  go_wp2_with fail
  refine HN.o.mono ?_;rintro e w1 ⟨rfl,h1,f1⟩;have c1:=Blk.cell h1 1
  go_wp2_with fail
  go_ret;rw[HR.o];exact⟨rfl,h1,f1⟩
theorem ttext_c (bt:Nat) (p:Rd) (hs:p.s.size<=140737488355328) (w:World) (h:RT w bt p):
  Calls prog 108 #[.pointer (some ⟨bt,0,none⟩)] w fun e w'=>e= .returned (.string p.text.1)/\RT w' bt p.text.2/\Fr (FrT bt) w w':=by
 have c0:=Blk.cell h 0;have c1:=Blk.cell h 1;have f0:=Blk.free h 0;have f1:=Blk.free h 1;by_cases he:p.e=0
 ·have he':(p.e !=0)=false:=by simpa using he
  have hf:p.text=((takeT p.s).1,⟨p.cut (takeT p.s).2.1,(takeT p.s).2.2⟩):=by unfold Rd.text;rw[if_pos he]
  obtain⟨k,hk,hks⟩:=takeT_size p.s;have HTK:Hd (∀W:World,Calls prog 110 #[.string p.s] W fun e w'=>e= .returned (.tuple #[.string (takeT p.s).1,.int .i64 (takeT p.s).2.1,.int .i64 (takeT p.s).2.2])/\W=w'):=fun W=>rTakeText_c p.s hs W;rw[hf];unfold Rd.cut;rw[hk]at HTK⊢;generalize (takeT p.s).1=n at*;generalize (takeT p.s).2.2=er at*;clear hf hk;go_enter func108,ntmps108
  go_wp2_with fail
  refine(HTK.o _).mono ?_;rintro e w1 ⟨rfl,rfl⟩
  go_wp2_with fail
  go_ret;exact⟨rfl,(h.err er).set _,((Fr.refl (FrT bt) w).setCell (p:=⟨bt,1,none⟩) (.inl rfl) _).setCell (p:=⟨bt,0,none⟩) (.inl rfl) _⟩
 ·have he':(p.e !=0)=true:=by simpa using he
  have hf:p.text=(.empty,p):=by unfold Rd.text;rw[if_neg he]
  rw[hf];go_enter func108,ntmps108
  go_wp2_with fail
  go_ret;exact⟨rfl,h,Fr.refl _ w⟩
structure TXR (w wx:World) (bt:Nat) (q:Rd) (o n:Int) (av:Value):Prop where
 fr:Fr (FrT bt) w wx
 t:RT wx bt q
 r:Blk wx w.heap.size 133 #[.int .u8 0,.int .i64 0,.slice none 0 0]
 x:Blk wx (w.heap.size+1) 133 #[.int .u8 o,.int .i64 n,av]
 tl:bt<w.heap.size
theorem TXR.step {w wx wy:World} {bt:Nat} {q q':Rd} {o n:Int} {av:Value} (h:TXR w wx bt q o n av) (hf:Fr (FrT bt) wx wy) (hp:RT wy bt q'):TXR w wy bt q' o n av:=
 have h1:=h.tl
 ⟨h.fr.trans hf,hp,h.r.fr hf (fun q=>by unfold FrT at q;omega),h.x.fr hf (fun q=>by unfold FrT at q;omega),h.tl⟩
theorem TXR.drew {w wx:World} {bt:Nat} {q:Rd} {o n:Int} {av:Value} (h:TXR w wx bt q o n av):TXR w wx.drew bt q o n av:=
 ⟨⟨h.fr.os,h.fr.tape,h.fr.output,h.fr.size,h.fr.block⟩,h.t,h.r,h.x,h.tl⟩
theorem TXR.keepB {w wx wy:World} {bt B:Nat} {q:Rd} {o n:Int} {av:Value} (h:TXR w wx bt q o n av) (hx:w.heap.size+1<B)
  (ho:wy.os=wx.os) (ht:wy.tape=wx.tape) (hu:wy.output=wx.output) (hs:wx.heap.size<=wy.heap.size) (hk: ∀b,b<B->wy.heap[b]? =wx.heap[b]?):TXR w wy bt q o n av:=
 have h1:=h.tl
 ⟨⟨ho.trans h.fr.os,ht.trans h.fr.tape,hu.trans h.fr.output,le1 h.fr.size hs,fun b hb hn=>(hk b (by omega)).trans (h.fr.block b hb hn)⟩,
  Blk.same h.t (hk _ (by omega)),h.r.same (hk _ (by omega)),h.x.same (hk _ hx),h1⟩
theorem TXR.setX {w wx:World} {bt:Nat} {q:Rd} {o n:Int} {av:Value} (h:TXR w wx bt q o n av) (u:Value):TXR w (wx.setCell ⟨w.heap.size+1,2,none⟩ u) bt q o n u:=
 have h1:=h.tl
 ⟨h.fr.setCell (p:=⟨w.heap.size+1,2,none⟩) (.inr (Nat.le_succ _)) u,h.t.other (a:=⟨w.heap.size+1,2,none⟩) (by show bt≠w.heap.size+1;omega) u,h.r.other (p:=⟨w.heap.size+1,2,none⟩) (by show w.heap.size≠w.heap.size+1;omega) u,h.x.set 2 u,h1⟩
theorem ERow.frT {B0 bt:Nat} {wx wy:World} {l:List Ex} {av:Value} {cs:List Value} {svs:Nat->Value} (h:ERow B0 wx l av cs svs) (hf:Fr (FrT bt) wx wy) (h1:bt<B0):ERow B0 wy l av cs svs:=
 h.keepB hf.size fun b hb hlt=>hf.block b hlt (fun q=>by unfold FrT at q;omega)
def RxPost (k bt:Nat) (p:Rd) (w:World) (e:Ending) (w':World):Prop:=
 ∃sv,e= .returned (.agg #[.int .u8 (Rd.rx k p).1.op,.int .i64 (Rd.rx k p).1.n,sv])/\ArgsP w' (fun b=>w.heap.size<=b/\b<w'.heap.size) (Rd.rx k p).1.args sv/\RT w' bt (Rd.rx k p).2/\Fr (FrT bt) w w'
def RxC (k:Nat):Prop:= ∀(bt:Nat) (p:Rd) (w:World),p.s.size<=140737488355328->RT w bt p->Calls prog 109 #[.pointer (some ⟨bt,0,none⟩),.int .i64 (k:Int)] w (RxPost k bt p w)
theorem exz_end {w wx:World} {bt:Nat} {q:Rd} (h:TXR w wx bt q 0 0 (.slice none 0 0)):RT (((wx.setCell ⟨w.heap.size,0,none⟩ (.int .u8 0)).setCell ⟨w.heap.size,1,none⟩ (.int .i64 0)).setCell ⟨w.heap.size,2,none⟩ (.slice none 0 0)) bt q/\
  Fr (FrT bt) w (((wx.setCell ⟨w.heap.size,0,none⟩ (.int .u8 0)).setCell ⟨w.heap.size,1,none⟩ (.int .i64 0)).setCell ⟨w.heap.size,2,none⟩ (.slice none 0 0)):=
 ⟨Blk.far3 h.t (Nat.ne_of_lt h.tl) _ _ _,((h.fr.setCell (p:=⟨w.heap.size,0,none⟩) (.inr le0) _).setCell (p:=⟨w.heap.size,1,none⟩) (.inr le0) _).setCell (p:=⟨w.heap.size,2,none⟩) (.inr le0) _⟩
theorem trx_err (k bt:Nat) (p:Rd) (w:World) (h:RT w bt p) (he:p.e≠0):Calls prog 109 #[.pointer (some ⟨bt,0,none⟩),.int .i64 (k:Int)] w (RxPost k bt p w):=by
 unfold RxPost;rw[Rd.rx_err k he];have he':(p.e !=0)=true:=by simpa using he
 have hT:TXR w ((w.alloc (.cells #[.int .u8 0,.int .i64 0,.slice none 0 0] 133)).alloc (.cells #[.int .u8 0,.int .i64 0,.slice none 0 0] 133)) bt p 0 0 (.slice none 0 0):=
  ⟨((Fr.refl _ w).alloc _).alloc _,(h.alloc _).alloc _,(Blk.new w _ _).alloc _,Blk.new_at _ _ _ (by simp),h.lt⟩
 go_enter func109,ntmps109
 go_upto_region 2 with fail
 generalize World.alloc (World.alloc w _) _=W at*;have c1:=Blk.cell hT.t 1;obtain⟨r0,r1,r2⟩:=hT.r.q3;obtain⟨z0,z1,z2⟩:=hT.r.u3;obtain⟨x0,x1,x2⟩:=hT.x.q3
 go_wp2_with fail
 obtain⟨q1,q2⟩:=exz_end hT;refine bodyPost_ret (v:= .agg #[_,_,_]) (results_cell_row rfl _ _ w.heap.size 133 _ (0,0) _ rfl (ex_set hT.r rfl _ _ _) underlying133 rfl ?_) rfl ⟨.slice none 0 0,rfl,.nil _ _ ze0,q1,q2⟩
 as_aux_lemma=>kernel_rfl
theorem trx_0 (bt:Nat) (p:Rd) (w:World) (h:RT w bt p) (he:p.e=0):Calls prog 109 #[.pointer (some ⟨bt,0,none⟩),.int .i64 0] w (RxPost 0 bt p w):=by
 unfold RxPost;rw[Rd.rx_zero he];have he':(p.e !=0)=false:=by simpa using he
 have hT:TXR w ((w.alloc (.cells #[.int .u8 0,.int .i64 0,.slice none 0 0] 133)).alloc (.cells #[.int .u8 0,.int .i64 0,.slice none 0 0] 133)) bt p 0 0 (.slice none 0 0):=
  ⟨((Fr.refl _ w).alloc _).alloc _,(h.alloc _).alloc _,(Blk.new w _ _).alloc _,Blk.new_at _ _ _ (by simp),h.lt⟩
 go_enter func109,ntmps109
 go_upto_region 2 with fail
 generalize World.alloc (World.alloc w _) _=W at*;have c1:=Blk.cell hT.t 1;have f1:=Blk.free hT.t 1
 go_upto_region 6 with fail
 have hT2:TXR w (W.setCell ⟨bt,1,none⟩ (.int .i64 3)) bt ⟨p.s,3⟩ 0 0 (.slice none 0 0):=hT.step ((Fr.refl (FrT bt) W).setCell (p:=⟨bt,1,none⟩) (.inl rfl) _) (hT.t.err 3);generalize W.setCell ⟨bt,1,none⟩ (.int .i64 3)=W2 at*;clear c1 f1;obtain⟨r0,r1,r2⟩:=hT2.r.q3;obtain⟨z0,z1,z2⟩:=hT2.r.u3;obtain⟨x0,x1,x2⟩:=hT2.x.q3
 go_wp2_with fail
 obtain⟨q1,q2⟩:=exz_end hT2;refine bodyPost_ret (v:= .agg #[_,_,_]) (results_cell_row rfl _ _ w.heap.size 133 _ (0,0) _ rfl (ex_set hT2.r rfl _ _ _) underlying133 rfl ?_) rfl ⟨.slice none 0 0,rfl,.nil _ _ ze0,q1,q2⟩
 as_aux_lemma=>kernel_rfl
theorem trx_step (k:Nat) (hk:k<=100) (IH:Hd (RxC k)):RxC (k+1):=by
 intro bt p w hs h;by_cases he:p.e=0;rotate_left
 ·exact trx_err (k+1) bt p w h he
 have he':(p.e !=0)=false:=by simpa using he
 have HE:=Lh (Rd.rx_succ k he);clear he;have hs1:=le1 (win_size 255 2 p) hs;have HSM:=Lh (fun W h1=>twithin_c bt 255 2 p hs W h1);have hir:=win_ir 255 2 (by omega) p;generalize hq1:p.win 255 2=q1 at*;have HNU:=Lh (fun W h1=>tnumber_c bt q1.2 hs1 W h1);have hs2:=le1 q1.2.num_size hs1;generalize hq2:q1.2.num=q2 at*;have HMN:=Lh (fun W h1=>twithin_c bt 3 3 q2.2 hs2 W h1);have hs3:=le1 (win_size 3 3 q2.2) hs2;have hml:=win_ir 3 3 (by omega) q2.2;generalize hq3:q2.2.win 3 3=q3 at*;clear hq1 hq2 hq3;obtain⟨o,p1⟩:=q1;obtain⟨n,p2⟩:=q2;obtain⟨m,p3⟩:=q3;dsimp only at HE HSM HNU HMN hs1 hs2 hs3 hml hir;obtain⟨mm,rfl⟩: ∃mm:Nat,m=(mm:Int):=⟨m.toNat,by omega⟩;rw[Int.toNat_natCast]at HE;unfold RxPost;generalize Rd.rx (k+1) p=R at*;have hT:TXR w ((w.alloc (.cells #[.int .u8 0,.int .i64 0,.slice none 0 0] 133)).alloc (.cells #[.int .u8 0,.int .i64 0,.slice none 0 0] 133)) bt p 0 0 (.slice none 0 0):=
  ⟨((Fr.refl _ w).alloc _).alloc _,(h.alloc _).alloc _,(Blk.new w _ _).alloc _,Blk.new_at _ _ _ (by simp),h.lt⟩
 have hz1:((k:Int)+1==0)=false:=by rw[bq0];omega
 have hkc:((k+1:Nat):Int)=(k:Int)+1:=by omega
 rw[hkc];clear h hkc;go_enter func109,ntmps109
 go_upto_region 2 with fail
 generalize World.alloc (World.alloc w _) _=W at*;have c1:=Blk.cell hT.t 1
 go_wp2_with fail
 refine(HSM.o _ hT.t).mono ?_;rintro e w1 ⟨rfl,h1,f1⟩;replace hT:=hT.step f1 h1;clear c1 h1 f1 HSM;have z0:=hT.x.free 0;have x0:=hT.x.cell 0
 go_upto_region 8 with fail
 have hT2:TXR w (w1.setCell ⟨w.heap.size+1,0,none⟩ (.int .u8 o)) bt p1 o 0 (.slice none 0 0):=
  ⟨hT.fr.setCell (p:=⟨w.heap.size+1,0,none⟩) (.inr (Nat.le_succ _)) _,hT.t.other (a:=⟨w.heap.size+1,0,none⟩) (by have:=hT.tl;show bt≠w.heap.size+1;omega) _,hT.r.other (p:=⟨w.heap.size+1,0,none⟩) (by show w.heap.size≠w.heap.size+1;omega) _,hT.x.set 0 _,hT.tl⟩
 generalize w1.setCell ⟨w.heap.size+1,0,none⟩ (.int .u8 o)=W2 at*;clear z0 x0 hT
 go_wp2_with fail
 refine(HNU.o _ hT2.t).mono ?_;rintro e w2 ⟨rfl,h1,f1⟩;replace hT2:=hT2.step f1 h1;clear h1 f1 HNU;have z0:=hT2.x.free 1;have x0:=hT2.x.cell 1
 go_upto_region 9 with fail
 have hT:TXR w (w2.setCell ⟨w.heap.size+1,1,none⟩ (.int .i64 n)) bt p2 o n (.slice none 0 0):=
  ⟨hT2.fr.setCell (p:=⟨w.heap.size+1,1,none⟩) (.inr (Nat.le_succ _)) _,hT2.t.other (a:=⟨w.heap.size+1,1,none⟩) (by have:=hT2.tl;show bt≠w.heap.size+1;omega) _,hT2.r.other (p:=⟨w.heap.size+1,1,none⟩) (by show w.heap.size≠w.heap.size+1;omega) _,hT2.x.set 1 _,hT2.tl⟩
 generalize w2.setCell ⟨w.heap.size+1,1,none⟩ (.int .i64 n)=W3 at*;clear z0 x0 hT2
 go_wp2_with fail
 refine(HMN.o _ hT.t).mono ?_;rintro e w5 ⟨rfl,h1,f1⟩;replace hT:=hT.step f1 h1;clear h1 f1 HMN;have hxB:=hT.x.lt;have htl:=hT.tl;have hE:=ERow.nil w5.heap.size w5 (fun _=>undef);have ii:=info_exC;obtain⟨i0,hi,iz⟩:=Option.map_eq_some_iff.1 ii;simp only[Prod.mk.injEq]at iz;obtain⟨iz0,iz1,iz2⟩:=iz;clear ii;generalize hB0:w5.heap.size=B0 at hxB hE;have hB5:B0<=w5.heap.size:=Nat.le_of_eq hB0.symm;have hbtB:bt<B0:=by omega
 clear hB0
 go_wp2_with fail
 go_loopw [7] (fun q wr=> ∃(j:Nat) (av:Value) (cs:List Value) (svs:Nat->Value),q= .int .i64 (j:Int)/\j<=mm/\TXR w wr bt (reps (Rd.rx k) j p3).2 o n av/\ERow B0 wr (reps (Rd.rx k) j p3).1 av cs svs/\B0<=wr.heap.size) (fun q _=>mm-(intOf q).toNat)
 case atStart=>exact⟨0,.slice none 0 0,[],fun _=>undef,rfl,ze0,hT,hE,hB5⟩
 case round=>
  obtain⟨j,av,cs,svs,rfl,hj,hTr,hEr,hBr⟩:=hrel;have HSN:=Lh (reps_snoc (Rd.rx k) j p3);have hsr:=le1 (reps_size (Rd.rx k) (Rd.rx_size k) j p3) hs3;have hrl:=reps_len (Rd.rx k) j p3;clear hT hE hB5;by_cases hlt:j<mm
  ·have hltd:decide ((j:Int)<(mm:Int))=true:=dt0 (by omega);generalize reps (Rd.rx k) j p3=r at*;have hTd:=hTr.drew;have hEd:ERow B0 wr.drew r.1 av cs svs:=hEr.keepB le0 fun _ _ _=>rfl;have hx0:=hTd.x.cell 2;have hwk:IntKind.i64.wrap (k:Int)=(k:Int):=by simp[IntKind.wrap,IntKind.bits,IntKind.signed];omega
   go_upto_region 13 with fail
   have hTc:=hTd;refine wp_region_held_drew (S:=(fun w'=>True)) (by kernel_rfl) ?_ (fun hHeld=>tk0 ?_)
   ·exact trivial
   repeat' first
    |refine tkN ?_
    |(refine tkX ?_;try simp only[Act.put,tkA,tkB,tkC,tkD,tkE,tkF])
    |(refine tkt (v:=?_) (by decide+kernel) rfl (by rfl) (fun _ _ _ h=>h) (by assumption) ?_ ?_;rotate_left;(· intro w' hSw;(try dsimp only at hSw);clear hSw;go_simp;(try rw[hwk]);(try with_reducible rfl));try simp only[Act.put,tkA,tkB,tkC,tkD,tkE,tkF])
    |refine tkM ?_
    |refine tkZ ?_
    |refine tkB1 ?_
    |refine brN ?_
    |exact brE
    |refine brc rfl (fun K hK=>?_) ?_
    |(replace hK:=hK;refine opD 36 (by decide+kernel) ?_;have hx:=hTc.x.cell 2;go_simp;clear hx;refine hK.out _ _ ?_ (fun hHeld=>?_);(· exact trivial);clear hK K;try simp only[Act.put,tkA,tkB,tkC,tkD,tkE,tkF])
    |(replace hK:=hK;go_simp;go_at_call 109;refine(IH.o bt r.2 wr.drew hsr hTd.t).mono ?_;rintro e w6 ⟨sv,rfl,hy,h6,f6⟩;have hT6:=hTd.step f6 h6;have hE6:=hEd.frT f6 hbtB;obtain⟨a2,n2,cap2,rfl⟩:=hy.slice;generalize (Rd.rx k r.2).1=y at*;generalize (Rd.rx k r.2).2=r2 at*;have hB6:B0<=w6.heap.size:=le1 hBr f6.size;replace hTc:=hT6;refine hK.out _ _ ?_ (fun hHeld=>?_);(· exact trivial);clear hK K;try simp only[Act.put,tkA,tkB,tkC,tkD,tkE,tkF])
    |(replace hK:=hK;refine opIs 5 (by decide+kernel) ?_;go_simp;have hTa:=hT6.step ((Fr.refl (FrT bt) w6).alloc (.cells #[.int .u8 y.op,.int .i64 y.n,.slice a2 n2 cap2] 133)) (hT6.t.alloc _);have hEa:=hE6.frT ((Fr.refl (FrT bt) w6).alloc (.cells #[.int .u8 y.op,.int .i64 y.n,.slice a2 n2 cap2] 133)) hbtB;replace hTc:=hTa;refine hK.out _ _ ?_ (fun hHeld=>?_);(· exact trivial);clear hK K;try simp only[Act.put,tkA,tkB,tkC,tkD,tkE,tkF])
    |(replace hK:=hK;refine opIs 3 (by decide+kernel) ?_;have hszX:(w6.alloc (.cells #[.int .u8 y.op,.int .i64 y.n,.slice a2 n2 cap2] 133)).heap.size=w6.heap.size+1:=(by simp);refine step_append_lies _ (by rfl) _ _ _ (by rfl) B0 133 i0 (.agg #[.int .u8 0,.int .i64 0,.slice none 0 0]) 3 40 underlying131 hi iz0 iz1 iz2 rfl (by decide) av r.1.length cs (by rfl) hEa.own ⟨w6.heap.size,0,none⟩ 1 1 (#[.int .u8 y.op,.int .i64 y.n,.slice a2 n2 cap2]).toList (by rfl) (by rfl) (World.news_of_block (heap_alloc_new w6 _)) (by simp[Value.oneCell']) (by omega) (by unfold maxLen;omega) (by omega) (by omega) _ rfl ?_;intro g capg w7 hown7 hgrow7 hat7 hlt7;have hT7:=hTa.keepB hxB hgrow7.os hgrow7.tape hgrow7.output hgrow7.size (fun b hb=>hgrow7.block b (by omega) (fun e=>by have:=(hE6.own_ge b e.symm).1;omega));have hE7:=hE6.snoc (fun q hq=>(hEd.own_ge q hq).2) f6.size hBr hy hgrow7 hat7 hlt7 hown7;rw[hrl]at hE7;have hB7:B0<=w7.heap.size:=(by have:=hgrow7.size;omega);have hx7:=hT7.x.cell 2;have hz7:=hT7.x.free 2;refine hK.out _ _ ?_ (fun hHeld=>?_);(· exact trivial);clear hK K;try simp only[Act.put,tkA,tkB,tkC,tkD,tkE,tkF])
    |(replace hK:=hK;refine opIs 2 (by decide+kernel) ?_;go_simp;have hT8:=hT7.setX (.slice (some ⟨g,0,none⟩) (j+1) capg);have hE8:=hE7.keepB (wy:=w7.setCell ⟨w.heap.size+1,2,none⟩ (.slice (some ⟨g,0,none⟩) (j+1) capg)) (by simp) (fun b hb _=>heap_setCell_other w7 ⟨w.heap.size+1,2,none⟩ b _ (by show b≠w.heap.size+1;omega));have hB8:B0<=(w7.setCell ⟨w.heap.size+1,2,none⟩ (.slice (some ⟨g,0,none⟩) (j+1) capg)).heap.size:=(by simpa using hB7);refine hK.out _ _ ?_ (fun hHeld=>?_);(· exact trivial);clear hK K;try simp only[Act.put,tkA,tkB,tkC,tkD,tkE,tkF])
    |fail
   all_goals
    go_wp2_with fail
    go_roundw
    case measure=>simp only[intOf];omega
    case rel=>exact⟨j+1,_,_,_,rfl,by omega,by rw[HSN.o];exact hT8,by rw[HSN.o];exact hE8,hB8⟩
  ·have hltd:decide ((j:Int)<(mm:Int))=false:=df0 (by omega);obtain rfl:j=mm:=by omega
   generalize reps (Rd.rx k) j p3=r at*;obtain⟨z0,z1,z2⟩:=hTr.r.u3;obtain⟨r0,r1,r2⟩:=hTr.r.q3;obtain⟨x0,x1,x2⟩:=hTr.x.q3;have hA:=hEr.args;obtain⟨a2,n2,cap2,rfl⟩:=hA.slice;have hfr:=hTr.fr;have hps:=hTr.t;have hrr:=hTr.r;clear hTr hEr
   go_wp2_with fail
   refine bodyPost_ret (v:= .agg #[_,_,_]) (results_cell_row rfl _ _ w.heap.size 133 _ (0,0) _ rfl (ex_set hrr rfl _ _ _) underlying133 rfl ?_) rfl ⟨.slice a2 n2 cap2,?_,?_,?_,?_⟩
   ·as_aux_lemma=>kernel_rfl
   ·rw[HE.o];rfl
   ·rw[HE.o];refine hA.keep (fun b hb=>⟨by have:=hb.1;omega,by simpa using hb.2⟩) (fun b hb=>?_);have hne:b≠w.heap.size:=by have:=hb.1;omega
    rw[heap_setCell_other _ ⟨w.heap.size,2,none⟩ b _ hne,heap_setCell_other _ ⟨w.heap.size,1,none⟩ b _ hne,heap_setCell_other _ ⟨w.heap.size,0,none⟩ b _ hne]
   ·rw[HE.o];exact Blk.far3 hps (Nat.ne_of_lt htl) _ _ _
   ·exact((hfr.setCell (p:=⟨w.heap.size,0,none⟩) (.inr le0) _).setCell (p:=⟨w.heap.size,1,none⟩) (.inr le0) _).setCell (p:=⟨w.heap.size,2,none⟩) (.inr le0) _
theorem trx_c: ∀(k:Nat),k<=100->RxC k
 |0,_=>by
  intro bt p w _ h
  by_cases he:p.e=0
  ·exact trx_0 bt p w h he
  ·exact trx_err 0 bt p w h he
 |k+1,hk=>trx_step k (by omega) (Lh (trx_c k (by omega)))
