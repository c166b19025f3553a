/- Parts. -/
import Derived.Deep.RegionHeld3
import Derived.Test.YtgbfdcmkbblodaaGreatDoorVW2
import Derived.Test.YtgbfdcmkbblodaaGreatDoorVY16
namespace Go.Proofs.YtgbfdcmkbblodaaGreatDoor
open Go.RowKit
set_option linter.unusedVariables false
set_option linter.unusedSimpArgs false
set_option maxRecDepth 100000
set_option maxHeartbeats 16000000
open Tryz
inductive ArgsP (w:World) (P:Nat->Prop):List Ex->Value->Prop
 |nil (a:Option Addr) (cap:Nat) (hm:cap<=maxLen):ArgsP w P [] (.slice a 0 cap)
 | cons (l : List Ex) (b off cap : Nat) (sv : Nat -> Value) (hl : 0 < l.length) (hb : P b) (hcap : l.length <= cap) (hm : cap <= maxLen)
   (h0: ∀j (h:j<l.length),w.cell? ⟨b,off+j*3,none⟩=some (.int .u8 (l[j]'h).op)) (h1: ∀j (h:j<l.length),w.cell? ⟨b,off+j*3+1,none⟩=some (.int .i64 (l[j]'h).n))
   (h2: ∀j (h:j<l.length),w.cell? ⟨b,off+j*3+2,none⟩=some (sv j)) (hs: ∀j (h:j<l.length),ArgsP w P (l[j]'h).args (sv j)):
   ArgsP w P l (.slice (some ⟨b,off,none⟩) l.length cap)
namespace ArgsP
variable {w w':World} {P:Nat->Prop} {l:List Ex} {v:Value}
theorem keep (h:ArgsP w P l v) {Q:Nat->Prop} (hPQ: ∀b,P b->Q b) (hk: ∀b,P b->w'.heap[b]? =w.heap[b]?):ArgsP w' Q l v:=by
 have hc: ∀b off,P b->w'.cell? ⟨b,off,none⟩=w.cell? ⟨b,off,none⟩:=fun b off hb=>World.cell?_of_block (hk b hb)
 induction h with
 |nil a cap hm=>exact .nil a cap hm
 |cons l b off cap sv hl hb hcap hm h0 h1 h2 _ ih=>
  exact .cons l b off cap sv hl (hPQ b hb) hcap hm (fun j h=>(hc _ _ hb).trans (h0 j h)) (fun j h=>(hc _ _ hb).trans (h1 j h)) (fun j h=>(hc _ _ hb).trans (h2 j h)) ih
theorem mono (h:ArgsP w P l v) {Q:Nat->Prop} (hPQ: ∀b,P b->Q b):ArgsP w Q l v:=h.keep hPQ fun _ _=>rfl
theorem toAt (h:ArgsP w P l v) {B:Nat} (hP: ∀b,P b->b<B):ArgsAt w B l v:=by
 induction h with
 |nil a cap hm=>exact .nil a cap hm
 |cons l b off cap sv hl hb hcap hm h0 h1 h2 _ ih=>exact .cons l b off cap sv hl (hP b hb) hcap hm h0 h1 h2 ih
theorem slice (h:ArgsP w P l v): ∃a n cap,v= .slice a n cap:=by
 cases h with
 |nil a cap hm=>exact⟨_,_,_,rfl⟩
 |cons l b off cap sv hl hb hcap hm h0 h1 h2 hs=>exact⟨_,_,_,rfl⟩
end ArgsP
def reps {α:Type} (f:Rd->α×Rd):Nat->Rd->List α×Rd
 |0,p=>([],p)
 |m+1,p=>((f p).1::(reps f m (f p).2).1,(reps f m (f p).2).2)
def Rd.ex:Nat->Rd->Ex×Rd
 |0,p=>(.mk 0 0 [],p.fail 3)
 |k+1,p=>(.mk p.small.1 p.small.2.num.1 (reps (Rd.ex k) (p.small.2.num.2.many 3).1.toNat (p.small.2.num.2.many 3).2).1,(reps (Rd.ex k) (p.small.2.num.2.many 3).1.toNat (p.small.2.num.2.many 3).2).2)
def manyV (bn bf:Nat):Value:= .func (.func 100) #[] #[.pointer (some ⟨bn,0,none⟩),.pointer (some ⟨bf,0,none⟩)]
def smallV (bn bf:Nat):Value:= .func (.func 101) #[] #[.pointer (some ⟨bn,0,none⟩),.pointer (some ⟨bf,0,none⟩)]
def takeV (bf bl bn bm bt:Nat):Value:= .func (.func 103) #[] #[.pointer (some ⟨bf,0,none⟩),.pointer (some ⟨bl,0,none⟩),.pointer (some ⟨bn,0,none⟩),.pointer (some ⟨bm,0,none⟩),.pointer (some ⟨bt,0,none⟩)]
structure Ct (w:World) (be bs bf bn bm bl bt:Nat):Prop where
 cl:Cl w be bs bf bn
 M:Bx w bm (manyV bn bf)
 L:Bx w bl (smallV bn bf)
 T:Bx w bt (takeV bf bl bn bm bt)
 m1:bm≠be/\bm≠bs
 l1:bl≠be/\bl≠bs
 t1:bt≠be/\bt≠bs
theorem Ct.fr {w w':World} {be bs bf bn bm bl bt:Nat} (h:Ct w be bs bf bn bm bl bt) (hf:Fr (FrS be bs) w w'):Ct w' be bs bf bn bm bl bt:=
 have hn: ∀ {b:Nat},b≠be/\b≠bs-> ¬FrS be bs b:=fun hb q=>by rcases q with q|q;exact hb.1 q;exact hb.2 q
 ⟨h.cl.fr hf,h.M.fr hf (hn h.m1),h.L.fr hf (hn h.l1),h.T.fr hf (hn h.t1),h.m1,h.l1,h.t1⟩
theorem Ct.alloc {w:World} {be bs bf bn bm bl bt:Nat} (h:Ct w be bs bf bn bm bl bt) (o:Obj):Ct (w.alloc o) be bs bf bn bm bl bt:=
 ⟨h.cl.alloc o,h.M.alloc o,h.L.alloc o,h.T.alloc o,h.m1,h.l1,h.t1⟩
structure TX (w wx:World) (be bs bf bn bm bl bt bx:Nat) (q:Rd) (o n:Int) (av:Value):Prop where
 fr:Fr (FrS be bs) w wx
 ps:PS wx be bs q
 ct:Ct wx be bs bf bn bm bl bt
 r:Blk wx w.heap.size 133 #[.int .u8 0,.int .i64 0,.slice none 0 0]
 x:Blk wx bx 133 #[.int .u8 o,.int .i64 n,av]
 lt:w.heap.size<bx
 el:be<w.heap.size
 sl:bs<w.heap.size
theorem ex_set {w:World} {g:Nat} {cs:Array Value} (h:Blk w g 133 cs) (hc:cs.size=3) (a b c:Value):Blk (((w.setCell ⟨g,0,none⟩ a).setCell ⟨g,1,none⟩ b).setCell ⟨g,2,none⟩ c) g 133 #[a,b,c]:=by
 have:=((h.set 0 a).set 1 b).set 2 c;obtain⟨cs⟩:=cs
 match cs,hc with
 | [c0,c1,c2],_=>exact this
theorem Bx.drew {w:World} {b:Nat} {v:Value} (h:Bx w b v):Bx w.drew b v:=h
theorem PS.drew {w:World} {be bs:Nat} {p:Rd} (h:PS w be bs p):PS w.drew be bs p:=⟨h.E,h.S⟩
theorem Ct.drew {w:World} {be bs bf bn bm bl bt:Nat} (h:Ct w be bs bf bn bm bl bt):Ct w.drew be bs bf bn bm bl bt:=⟨⟨h.cl.F.drew,h.cl.N.drew,h.cl.ne,h.cl.f1,h.cl.f2,h.cl.n1,h.cl.n2⟩,h.M.drew,h.L.drew,h.T.drew,h.m1,h.l1,h.t1⟩
structure CtFar (b be bs bf bn bm bl bt:Nat):Prop where
 f:bf≠b
 n:bn≠b
 m:bm≠b
 l:bl≠b
 t:bt≠b
theorem CtFar.of {w:World} {be bs bf bn bm bl bt:Nat} (h:Ct w be bs bf bn bm bl bt):CtFar w.heap.size be bs bf bn bm bl bt:=
 ⟨Nat.ne_of_lt h.cl.F.lt,Nat.ne_of_lt h.cl.N.lt,Nat.ne_of_lt h.M.lt,Nat.ne_of_lt h.L.lt,Nat.ne_of_lt h.T.lt⟩
theorem Bx.other {w:World} {b:Nat} {v:Value} (h:Bx w b v) {p:Addr} (hp:b≠p.block) (u:Value):Bx (w.setCell p u) b v:=let ⟨t,h⟩:=h;⟨t,h.other hp u⟩
theorem Ct.far {w:World} {be bs bf bn bm bl bt:Nat} (h:Ct w be bs bf bn bm bl bt) {p:Addr} (hp:CtFar p.block be bs bf bn bm bl bt) (u:Value):Ct (w.setCell p u) be bs bf bn bm bl bt:=
 ⟨⟨h.cl.F.other hp.f u,h.cl.N.other hp.n u,h.cl.ne,h.cl.f1,h.cl.f2,h.cl.n1,h.cl.n2⟩,h.M.other hp.m u,h.L.other hp.l u,h.T.other hp.t u,h.m1,h.l1,h.t1⟩
theorem Ct.far3 {w:World} {b be bs bf bn bm bl bt:Nat} (h:Ct w be bs bf bn bm bl bt) (hp:CtFar b be bs bf bn bm bl bt) (u v x:Value):Ct (((w.setCell ⟨b,0,none⟩ u).setCell ⟨b,1,none⟩ v).setCell ⟨b,2,none⟩ x) be bs bf bn bm bl bt:=
 ((h.far (p:=⟨b,0,none⟩) hp u).far (p:=⟨b,1,none⟩) hp v).far (p:=⟨b,2,none⟩) hp x
theorem Blk.far3 {w:World} {b c:Nat} {t:TypeId} {cs:Array Value} (h:Blk w c t cs) (hp:c≠b) (u v x:Value):Blk (((w.setCell ⟨b,0,none⟩ u).setCell ⟨b,1,none⟩ v).setCell ⟨b,2,none⟩ x) c t cs:=
 ((h.other (p:=⟨b,0,none⟩) hp u).other (p:=⟨b,1,none⟩) hp v).other (p:=⟨b,2,none⟩) hp x
theorem PS.far3 {w:World} {b be bs:Nat} {p:Rd} (h:PS w be bs p) (h1:be≠b) (h2:bs≠b) (u v x:Value):PS (((w.setCell ⟨b,0,none⟩ u).setCell ⟨b,1,none⟩ v).setCell ⟨b,2,none⟩ x) be bs p:=
 ⟨Blk.far3 h.E h1 u v x,Blk.far3 h.S h2 u v x⟩
theorem takeEx_0 (be bs bf bn bm bl bt:Nat) (p:Rd) (w:World) (h:PS w be bs p) (hc:Ct w be bs bf bn bm bl bt):
  Calls prog 103 #[.int .i64 0,.pointer (some ⟨bf,0,none⟩),.pointer (some ⟨bl,0,none⟩),.pointer (some ⟨bn,0,none⟩),.pointer (some ⟨bm,0,none⟩),.pointer (some ⟨bt,0,none⟩)] w fun e w'=>
   e= .returned (.agg #[.int .u8 0,.int .i64 0,.slice none 0 0])/\PS w' be bs (p.fail 3)/\Fr (FrS be bs) w w':=by
 have hel:=h.E.lt;have hsl:=h.S.lt;have h1:=h.alloc (.cells #[.int .u8 0,.int .i64 0,.slice none 0 0] 133);have hc1:=hc.alloc (.cells #[.int .u8 0,.int .i64 0,.slice none 0 0] 133);have hF1:Fr (FrS be bs) w (w.alloc (.cells #[.int .u8 0,.int .i64 0,.slice none 0 0] 133)):=(Fr.refl _ w).alloc _;have hr1:=Blk.new w #[.int .u8 0,.int .i64 0,.slice none 0 0] 133;have hne:=hc.cl.ne;clear h hc;go_enter func103,ntmps103
 go_upto_region 1 with fail
 generalize World.alloc w _=W at*;have b0:=hc1.cl.F.cell;unfold failsV at b0
 go_wp2_with fail
 refine(pfails_c be bs hne p 3 W h1).mono ?_;rintro e w2 ⟨rfl,h2,hf2⟩;have hr2:=hr1.fr hf2 (fun q=>by rcases q with q|q<;>omega);clear b0;obtain⟨z0,z1,z2⟩:=hr2.u3;obtain⟨x0,x1,x2⟩:=hr2.q3
 go_wp2_with fail
 refine bodyPost_ret (v:= .agg #[_,_,_]) (results_cell_row rfl _ _ w.heap.size 133 _ (0,0) _ rfl (ex_set hr2 rfl _ _ _) underlying133 rfl ?_) rfl ⟨rfl,?_,?_⟩
 ·as_aux_lemma=>kernel_rfl
 ·exact⟨((h2.E.other (p:=⟨w.heap.size,0,none⟩) (Nat.ne_of_lt hel) _).other (p:=⟨w.heap.size,1,none⟩) (Nat.ne_of_lt hel) _).other (p:=⟨w.heap.size,2,none⟩) (Nat.ne_of_lt hel) _,
   ((h2.S.other (p:=⟨w.heap.size,0,none⟩) (Nat.ne_of_lt hsl) _).other (p:=⟨w.heap.size,1,none⟩) (Nat.ne_of_lt hsl) _).other (p:=⟨w.heap.size,2,none⟩) (Nat.ne_of_lt hsl) _⟩
 ·exact(((hF1.trans hf2).setCell (p:=⟨w.heap.size,0,none⟩) (.inr le0) _).setCell (p:=⟨w.heap.size,1,none⟩) (.inr le0) _).setCell (p:=⟨w.heap.size,2,none⟩) (.inr le0) _
def TakePost (k:Nat) (be bs:Nat) (p:Rd) (w:World) (e:Ending) (w':World):Prop:=
 ∃sv,e= .returned (.agg #[.int .u8 (Rd.ex k p).1.op,.int .i64 (Rd.ex k p).1.n,sv])/\ArgsP w' (fun b=>w.heap.size<=b/\b<w'.heap.size) (Rd.ex k p).1.args sv/\PS w' be bs (Rd.ex k p).2/\Fr (FrS be bs) w w'
def TakeC (k:Nat):Prop:= ∀(be bs bf bn bm bl bt:Nat) (p:Rd) (w:World),p.s.size<=140737488355328->PS w be bs p->Ct w be bs bf bn bm bl bt->
 Calls prog 103 #[.int .i64 (k:Int),.pointer (some ⟨bf,0,none⟩),.pointer (some ⟨bl,0,none⟩),.pointer (some ⟨bn,0,none⟩),.pointer (some ⟨bm,0,none⟩),.pointer (some ⟨bt,0,none⟩)] w (TakePost k be bs p w)
theorem Rd.small_size (p:Rd):p.small.2.s.size<=p.s.size:=by
 unfold Rd.small;split
 ·rw[Rd.fail_s];exact p.num_size
 ·exact p.num_size
theorem Rd.many_size (m:Int) (p:Rd):(p.many m).2.s.size<=p.s.size:=by
 unfold Rd.many;split
 ·show(p.num.2.fail 3).s.size<=_;rw[Rd.fail_s];exact p.num_size
 ·exact p.num_size
theorem Rd.many_le (m:Int) (hm:0<=m) (p:Rd):0<=(p.many m).1/\(p.many m).1<=m:=by
 unfold Rd.many;split
 ·exact⟨Int.le_refl _,hm⟩
 ·omega
theorem reps_size {α:Type} (f:Rd->α×Rd) (hf: ∀q,(f q).2.s.size<=q.s.size): ∀(m:Nat) (p:Rd),(reps f m p).2.s.size<=p.s.size
 |0,p=>le0
 |m+1,p=>by
  simp only[reps]
  exact le1 (reps_size f hf m _) (hf p)
theorem Rd.ex_size: ∀(k:Nat) (p:Rd),(Rd.ex k p).2.s.size<=p.s.size
 |0,p=>by show(p.fail 3).s.size<=_;rw[Rd.fail_s];exact le0
 |k+1,p=>by
  simp only[Rd.ex]
  refine le1 (reps_size _ (Rd.ex_size k) _ _) ?_
  exact le1 (Rd.many_size _ _) (le1 (Rd.num_size _) (Rd.small_size _))
theorem reps_snoc {α:Type} (f:Rd->α×Rd): ∀(j:Nat) (p:Rd),reps f (j+1) p=((reps f j p).1++ [(f (reps f j p).2).1],(f (reps f j p).2).2)
 |0,p=>rfl
 |j+1,p=>by
  have ih:=reps_snoc f j (f p).2
  rw[reps,ih]
  simp only[reps,List.cons_append]
theorem reps_len {α:Type} (f:Rd->α×Rd): ∀(j:Nat) (p:Rd),(reps f j p).1.length=j
 |0,p=>rfl
 |j+1,p=>by simp only[reps,List.length_cons];rw[reps_len f j]
theorem TX.step {w wx wy:World} {be bs bf bn bm bl bt bx:Nat} {q q':Rd} {o n:Int} {av:Value} (h:TX w wx be bs bf bn bm bl bt bx q o n av) (hf:Fr (FrS be bs) wx wy) (hp:PS wy be bs q'):TX w wy be bs bf bn bm bl bt bx q' o n av:=
 have h1:=h.el
 have h2:=h.sl
 have h3:=h.lt
 ⟨h.fr.trans hf,hp,h.ct.fr hf,h.r.fr hf (by rintro (q|q)<;>omega),h.x.fr hf (by rintro (q|q)<;>omega),h.lt,h.el,h.sl⟩
structure ERow (B0:Nat) (wx:World) (l:List Ex) (av:Value) (cs:List Value) (svs:Nat->Value):Prop where
 own:wx.ownsRow B0 133 3 av l.length cs
 cells: ∀i (hi:i<l.length),cs[i*3]? =some (.int .u8 (l[i]'hi).op)/\cs[i*3+1]? =some (.int .i64 (l[i]'hi).n)/\cs[i*3+2]? =some (svs i)
 sub: ∀i (hi:i<l.length),ArgsP wx (fun b=>B0<=b/\b<wx.heap.size/\some b≠av.ownBlock) (l[i]'hi).args (svs i)
theorem ERow.args {B0:Nat} {wx:World} {l:List Ex} {av:Value} {cs:List Value} {svs:Nat->Value} (h:ERow B0 wx l av cs svs):ArgsP wx (fun b=>B0<=b/\b<wx.heap.size) l av:=by
 obtain⟨⟨h1,h2⟩,hc,hs⟩:=h;rcases h2 with ⟨rfl,h0⟩|⟨g,cap,cur,rfl,hb,hg,hn,hcp,hsz,ht⟩
 ·obtain rfl:l=[]:=List.length_eq_zero_iff.1 h0;exact .nil _ _ ze0
 ·by_cases h0:l.length=0
  ·obtain rfl:l=[]:=List.length_eq_zero_iff.1 h0;exact .nil _ _ hcp
  ·have hlt:g<wx.heap.size:=(Array.getElem?_eq_some_iff.1 hg).1;have cell: ∀q,q<l.length*3->wx.cell? ⟨g,0+q,none⟩=cs[q]? :=fun q hq=>by
    rw[Nat.zero_add,cell_of_row wx g q cur 133 (0,0) hg,<-ht,List.getElem?_take,if_pos hq];simp
   exact .cons l g 0 cap svs (by omega) ⟨hb,hlt⟩ hn hcp (fun i hi=>(cell (i*3) (by omega)).trans (hc i hi).1) (fun i hi=>(cell (i*3+1) (by omega)).trans (hc i hi).2.1)
    (fun i hi=>(cell (i*3+2) (by omega)).trans (hc i hi).2.2) (fun i hi=>(hs i hi).mono fun b hb=>⟨hb.1,hb.2.1⟩)
theorem ERow.fr {B0 be bs:Nat} {wx wy:World} {l:List Ex} {av:Value} {cs:List Value} {svs:Nat->Value} (h:ERow B0 wx l av cs svs) (hf:Fr (FrS be bs) wx wy) (h1:be<B0) (h2:bs<B0):ERow B0 wy l av cs svs:=by
 refine⟨?_,h.cells,fun i hi=>(h.sub i hi).keep (fun b hb=>⟨hb.1,lt1 hb.2.1 hf.size,hb.2.2⟩) (fun b hb=>hf.block b hb.2.1 (by rintro (q|q)<;>omega))⟩;obtain⟨q1,q2⟩:=h.own;refine⟨q1,q2.imp id ?_⟩;rintro ⟨g,cap,cur,hv,hb,hg,r⟩;exact⟨g,cap,cur,hv,hb,hf.heap_at hg (by rintro (q|q)<;>omega),r⟩
theorem ERow.snoc {B0:Nat} {wx w4 w5:World} {l:List Ex} {av:Value} {cs:List Value} {svs:Nat->Value} {g capg:Nat} {y:Ex} {sv:Value} {o:Obj} (h:ERow B0 w4 l av cs svs) (hx: ∀q,av.ownBlock=some q->q<wx.heap.size) (hxs:wx.heap.size<=w4.heap.size) (hB:B0<=wx.heap.size)
  (hy:ArgsP w4 (fun b=>wx.heap.size<=b/\b<w4.heap.size) y.args sv) (hg:(w4.alloc o).grownBy w5 av.ownBlock) (hat:av.ownBlock=some g\/g=(w4.alloc o).heap.size) (hlt:g<w5.heap.size)
  (hown:w5.ownsRow B0 133 3 (.slice (some ⟨g,0,none⟩) (l.length+1) capg) (l.length+1) (cs++ [.int .u8 y.op,.int .i64 y.n,sv])):
  ERow B0 w5 (l++ [y]) (.slice (some ⟨g,0,none⟩) (l.length+1) capg) (cs++ [.int .u8 y.op,.int .i64 y.n,sv]) (fun i=>if i=l.length then sv else svs i):=by
 have hl:(l++ [y]).length=l.length+1:=by simp
 have hcl:cs.length=l.length*3:=h.own.1;have hsz:(w4.alloc o).heap.size=w4.heap.size+1:=by simp
 have hgs:=hg.size;have keepB: ∀b,b<w4.heap.size->some b≠av.ownBlock->w5.heap[b]? =w4.heap[b]? :=fun b hb hn=>(hg.block b (by omega) hn).trans (alloc_old w4 o b hb);refine⟨by rw[hl];exact hown,fun i hi=>?_,fun i hi=>?_⟩
 ·by_cases hil:i<l.length
  ·obtain⟨c0,c1,c2⟩:=h.cells i hil;rw[List.getElem_append_left hil,if_neg (by omega),List.getElem?_append_left (by omega),List.getElem?_append_left (by omega),List.getElem?_append_left (by omega)];exact⟨c0,c1,c2⟩
  ·obtain rfl:i=l.length:=by omega
   rw[List.getElem_append_right le0,if_pos rfl,List.getElem?_append_right (by omega),List.getElem?_append_right (by omega),List.getElem?_append_right (by omega),hcl];refine⟨?_,?_,?_⟩
   ·simp
   ·rw[show l.length*3+1-l.length*3=1 by omega];simp
   ·rw[show l.length*3+2-l.length*3=2 by omega];simp
 ·by_cases hil:i<l.length
  ·rw[List.getElem_append_left hil,if_neg (by omega)];refine(h.sub i hil).keep (fun b hb=>⟨hb.1,by have:=hb.2.1;omega,?_⟩) (fun b hb=>keepB b hb.2.1 hb.2.2);simp only[Value.ownBlock,ne_eq,Option.some.injEq];intro e;rcases hat with h1|h1
   ·exact hb.2.2 (by rw[h1,e])
   ·have:=hb.2.1;omega
  ·obtain rfl:i=l.length:=by omega
   rw[List.getElem_append_right le0,if_pos rfl];simp only[Nat.sub_self,List.getElem_cons_zero];refine hy.keep (fun b hb=>⟨by have:=hb.1;omega,by have:=hb.2;omega,?_⟩) (fun b hb=>keepB b hb.2 (fun e=>by have:=hx b e.symm;have:=hb.1;omega));simp only[Value.ownBlock,ne_eq,Option.some.injEq];intro e;rcases hat with h1|h1
   ·have:=hx g h1;have:=hb.1;omega
   ·have:=hb.2;omega
structure CtLt (B be bs bf bn bm bl bt:Nat):Prop where
 f:bf<B
 n:bn<B
 m:bm<B
 l:bl<B
 t:bt<B
theorem CtLt.of {w:World} {be bs bf bn bm bl bt:Nat} (h:Ct w be bs bf bn bm bl bt):CtLt w.heap.size be bs bf bn bm bl bt:=⟨h.cl.F.lt,h.cl.N.lt,h.M.lt,h.L.lt,h.T.lt⟩
theorem Blk.same {w w':World} {b:Nat} {t:TypeId} {cs:Array Value} (h:Blk w b t cs) (hk:w'.heap[b]? =w.heap[b]?):Blk w' b t cs:=hk.trans h
theorem Bx.same {w w':World} {b:Nat} {v:Value} (h:Bx w b v) (hk:w'.heap[b]? =w.heap[b]?):Bx w' b v:=let ⟨t,h⟩:=h;⟨t,h.same hk⟩
theorem TX.keepB {w wx wy:World} {be bs bf bn bm bl bt bx B:Nat} {q:Rd} {o n:Int} {av:Value} (h:TX w wx be bs bf bn bm bl bt bx q o n av) (hx:bx<B) (hc:CtLt B be bs bf bn bm bl bt)
  (ho:wy.os=wx.os) (ht:wy.tape=wx.tape) (hu:wy.output=wx.output) (hs:wx.heap.size<=wy.heap.size) (hk: ∀b,b<B->wy.heap[b]? =wx.heap[b]?):TX w wy be bs bf bn bm bl bt bx q o n av:=
 have h1:=h.el
 have h2:=h.sl
 have h3:=h.lt
 ⟨⟨ho.trans h.fr.os,ht.trans h.fr.tape,hu.trans h.fr.output,le1 h.fr.size hs,fun b hb hn=>(hk b (by omega)).trans (h.fr.block b hb hn)⟩,
  ⟨h.ps.E.same (hk _ (by omega)),h.ps.S.same (hk _ (by omega))⟩,
  ⟨⟨h.ct.cl.F.same (hk _ hc.f),h.ct.cl.N.same (hk _ hc.n),h.ct.cl.ne,h.ct.cl.f1,h.ct.cl.f2,h.ct.cl.n1,h.ct.cl.n2⟩,h.ct.M.same (hk _ hc.m),h.ct.L.same (hk _ hc.l),h.ct.T.same (hk _ hc.t),h.ct.m1,h.ct.l1,h.ct.t1⟩,
  h.r.same (hk _ (by omega)),h.x.same (hk _ hx),h3,h1,h2⟩
theorem TX.drew {w wx:World} {be bs bf bn bm bl bt bx:Nat} {q:Rd} {o n:Int} {av:Value} (h:TX w wx be bs bf bn bm bl bt bx q o n av):TX w wx.drew be bs bf bn bm bl bt bx q o n av:=
 ⟨⟨h.fr.os,h.fr.tape,h.fr.output,h.fr.size,h.fr.block⟩,h.ps.drew,h.ct.drew,h.r,h.x,h.lt,h.el,h.sl⟩
theorem TX.setX {w wx:World} {be bs bf bn bm bl bt bx:Nat} {q:Rd} {o n:Int} {av:Value} (h:TX w wx be bs bf bn bm bl bt bx q o n av) (hf:CtFar bx be bs bf bn bm bl bt) (u:Value):
  TX w (wx.setCell ⟨bx,2,none⟩ u) be bs bf bn bm bl bt bx q o n u:=
 have h1:=h.el
 have h2:=h.sl
 have h3:=h.lt
 ⟨h.fr.setCell (p:=⟨bx,2,none⟩) (.inr (Nat.le_of_lt h3)) u,⟨h.ps.E.other (p:=⟨bx,2,none⟩) (Nat.ne_of_lt (Nat.lt_trans h1 h3)) u,h.ps.S.other (p:=⟨bx,2,none⟩) (Nat.ne_of_lt (Nat.lt_trans h2 h3)) u⟩,
  h.ct.far (p:=⟨bx,2,none⟩) hf u,h.r.other (p:=⟨bx,2,none⟩) (Nat.ne_of_lt h3) u,h.x.set 2 u,h3,h1,h2⟩
theorem ERow.keepB {B0:Nat} {wx wy:World} {l:List Ex} {av:Value} {cs:List Value} {svs:Nat->Value} (h:ERow B0 wx l av cs svs) (hs:wx.heap.size<=wy.heap.size) (hk: ∀b,B0<=b->b<wx.heap.size->wy.heap[b]? =wx.heap[b]?):ERow B0 wy l av cs svs:=by
 refine⟨?_,h.cells,fun i hi=>(h.sub i hi).keep (fun b hb=>⟨hb.1,lt1 hb.2.1 hs,hb.2.2⟩) (fun b hb=>hk b hb.1 hb.2.1)⟩;obtain⟨q1,q2⟩:=h.own;refine⟨q1,q2.imp id ?_⟩;rintro ⟨g,cap,cur,hv,hb,hg,r⟩;exact⟨g,cap,cur,hv,hb,(hk g hb (Array.getElem?_eq_some_iff.1 hg).1).trans hg,r⟩
theorem ERow.drew {B0:Nat} {wx:World} {l:List Ex} {av:Value} {cs:List Value} {svs:Nat->Value} (h:ERow B0 wx l av cs svs):ERow B0 wx.drew l av cs svs:=h.keepB le0 fun _ _ _=>rfl
theorem ERow.own_ge {B0:Nat} {wx:World} {l:List Ex} {av:Value} {cs:List Value} {svs:Nat->Value} (h:ERow B0 wx l av cs svs): ∀q,av.ownBlock=some q->B0<=q/\q<wx.heap.size:=by
 intro q hq;rcases h.own.2 with ⟨rfl,_⟩|⟨g,cap,cur,rfl,hb,hg,_⟩
 ·cases hq
 ·simp only[Value.ownBlock,Option.some.injEq]at hq;subst hq;exact⟨hb,(Array.getElem?_eq_some_iff.1 hg).1⟩
theorem ERow.nil (B0:Nat) (w:World) (svs:Nat->Value):ERow B0 w [] (.slice none 0 0) [] svs:=⟨⟨by simp,.inl ⟨rfl,rfl⟩⟩,fun i hi=>absurd hi (Nat.not_lt_zero _),fun i hi=>absurd hi (Nat.not_lt_zero _)⟩
theorem info_exC:(prog.info? 133).map (fun i=>(i.zero,i.size,i.bytes))=some (some (.agg #[.int .u8 0,.int .i64 0,.slice none 0 0]),3,40):=by kernel_rfl
theorem Fr.newBlk {S:Nat->Prop} {w W:World} (f:Fr S w W) (cs:Array Value) (t:TypeId): ∃b,W.heap.size=b/\w.heap.size<=b/\Blk (W.alloc (.cells cs t)) b t cs:=⟨_,rfl,f.size,Blk.new W cs t⟩
theorem takeEx_step (k:Nat) (hk:k<=100) (IH:Hd (TakeC k)):TakeC (k+1):=by
 intro be bs bf bn bm bl bt p w hs h hc;have hel:=h.E.lt;have hsl:=h.S.lt;have hne:=hc.cl.ne;have HE:Hd (Rd.ex (k+1) p=(.mk p.small.1 p.small.2.num.1 (reps (Rd.ex k) (p.small.2.num.2.many 3).1.toNat (p.small.2.num.2.many 3).2).1,(reps (Rd.ex k) (p.small.2.num.2.many 3).1.toNat (p.small.2.num.2.many 3).2).2)):=rfl;have hs1:=le1 p.small_size hs;have HSM:=Lh (fun W h1 h2=>small_cP be bs bf bn p hs W h1 h2);generalize hq1:p.small=q1 at*;have HNU:=Lh (fun W h1 h2=>pnumber_c be bs bf hne q1.2 hs1 W h1 h2);have hs2:=le1 q1.2.num_size hs1;generalize hq2:q1.2.num=q2 at*;have HMN:=Lh (fun W h1 h2=>many_cP be bs bf bn 3 q2.2 hs2 W h1 h2);have hs3:=le1 (q2.2.many_size 3) hs2;have hml:=q2.2.many_le 3 (by omega);generalize hq3:q2.2.many 3=q3 at*;clear hq1 hq2 hq3;obtain⟨o,p1⟩:=q1;obtain⟨n,p2⟩:=q2;obtain⟨m,p3⟩:=q3;dsimp only at HE HSM HNU HMN hs1 hs2 hs3 hml;obtain⟨mm,rfl⟩: ∃mm:Nat,m=(mm:Int):=⟨m.toNat,by omega⟩;rw[Int.toNat_natCast]at HE;unfold TakePost;generalize Rd.ex (k+1) p=R at*;have h1:=h.alloc (.cells #[.int .u8 0,.int .i64 0,.slice none 0 0] 133);have hc1:=hc.alloc (.cells #[.int .u8 0,.int .i64 0,.slice none 0 0] 133);have hF1:Fr (FrS be bs) w (w.alloc (.cells #[.int .u8 0,.int .i64 0,.slice none 0 0] 133)):=(Fr.refl _ w).alloc _;have hr1:=Blk.new w #[.int .u8 0,.int .i64 0,.slice none 0 0] 133;have hz1:((k:Int)+1==0)=false:=by rw[bq0];omega
 have hkc:((k+1:Nat):Int)=(k:Int)+1:=by omega
 rw[hkc];clear h hc;have hrn: ¬FrS be bs w.heap.size:=by rintro (q|q)<;>omega
 go_enter func103,ntmps103
 go_upto_region 1 with fail
 have hWs:w.heap.size<(w.alloc (.cells #[.int .u8 0,.int .i64 0,.slice none 0 0] 133)).heap.size:=hr1.lt;generalize w.alloc (.cells #[.int .u8 0,.int .i64 0,.slice none 0 0] 133)=W at*
 go_upto_region 4 with fail
 go_cut [8] (fun p8 wx=> ∃bx,p8= .pointer (some ⟨bx,0,none⟩)/\TX w wx be bs bf bn bm bl bt bx p2 o n (.slice none 0 0)/\CtFar bx be bs bf bn bm bl bt)
 case first=>
  have f:=hF1.drew;have ps:=h1.drew;have ct:=hc1.drew;replace hr1:=hr1.drew;refine wp_region_held_drew (S:=(fun w'=>Ct w' be bs bf bn bm bl bt)) (by kernel_rfl) ?_ (fun hHeld=>tk0 ?_)
  ·exact ct
  generalize W.drew=Wd at*
  repeat' first
   |refine tkN ?_
   |(refine tkX ?_;try simp only[Act.put,tkA,tkB,tkC,tkD,tkE,tkF])
   |(refine tkt (v:=?_) (by decide+kernel) rfl (by rfl) (fun _ _ _ h=>h) (by assumption) ?_ ?_;rotate_left;(· intro w' hSw;(try dsimp only at hSw);have l0:=hSw.L.cell;unfold smallV at l0;have n0:=hSw.cl.N.cell;unfold numberV at n0;clear hSw;go_simp;(try with_reducible rfl));try simp only[Act.put,tkA,tkB,tkC,tkD,tkE,tkF])
   |refine tkM ?_
   |refine tkZ ?_
   |refine tkB1 ?_
   |refine brN ?_
   |exact brE
   |refine brc rfl (fun K hK=>?_) ?_
   |(replace hK:=hK;go_simp;(first|(go_at_call 101;refine(HSM.o _ ps ct.cl).mono ?_)|(go_at_call 99;refine(HNU.o _ ps ct.cl.F).mono ?_));rintro e wn ⟨rfl,psn,fn⟩;replace f:=f.trans fn;replace ct:=Ct.fr ct fn;replace hr1:=hr1.fr fn hrn;replace ps:=psn;(try replace nb:=nb.fr fn hbn);clear fn psn;refine hK.out _ _ ?_ (fun hHeld=>?_);(· exact ct);clear hK K;try simp only[Act.put,tkA,tkB,tkC,tkD,tkE,tkF])
   |(replace hK:=hK;refine opIs 5 (by decide+kernel) ?_;go_simp;obtain⟨bx,hbq,hbx,nb⟩:=f.newBlk #[.int .u8 0,.int .i64 0,.slice none 0 0] 133;have hfar:CtFar bx be bs bf bn bm bl bt:=hbq▸CtFar.of ct;have hlb:w.heap.size<bx:=(by have:=hr1.lt;omega);have hbe:be<bx:=(by have:=ps.E.lt;omega);have hbs:bs<bx:=(by have:=ps.S.lt;omega);(try rw[hbq]);clear hbq;replace f:=f.alloc (.cells #[.int .u8 0,.int .i64 0,.slice none 0 0] 133);replace ps:=ps.alloc (.cells #[.int .u8 0,.int .i64 0,.slice none 0 0] 133);replace ct:=ct.alloc (.cells #[.int .u8 0,.int .i64 0,.slice none 0 0] 133);replace hr1:=hr1.alloc (.cells #[.int .u8 0,.int .i64 0,.slice none 0 0] 133);generalize World.alloc _ _=wn at*;(have hbn: ¬FrS be bs bx:=by(rintro (q|q)<;>omega));refine hK.out _ _ ?_ (fun hHeld=>?_);(· exact ct);clear hK K;try simp only[Act.put,tkA,tkB,tkC,tkD,tkE,tkF])
   |(replace hK:=hK;refine opIs 2 (by decide+kernel) ?_;obtain⟨z0,z1,z2⟩:=nb.u3;obtain⟨x0,x1,x2⟩:=nb.q3;go_simp;refine hK.out _ _ ?_ (fun hHeld=>?_);(· exact Ct.far3 ct hfar _ _ _);clear hK K;try simp only[Act.put,tkA,tkB,tkC,tkD,tkE,tkF])
   |fail
  all_goals
   go_wp2_with fail
   go_meet;exact⟨_,rfl,⟨((f.setCell (p:=⟨bx,0,none⟩) (.inr hbx) _).setCell (p:=⟨bx,1,none⟩) (.inr hbx) _).setCell (p:=⟨bx,2,none⟩) (.inr hbx) _,PS.far3 ps (by omega) (by omega) _ _ _,Ct.far3 ct hfar _ _ _,Blk.far3 hr1 (Nat.ne_of_lt hlb) _ _ _,ex_set nb rfl _ _ _,hlb,hel,hsl⟩,hfar⟩
 case rest=>
  obtain⟨bx,rfl,hT,hfar⟩:=hcut;have b0:=hT.ct.M.cell;unfold manyV at b0
  go_wp2_with fail
  refine(HMN.o _ hT.ps hT.ct.cl).mono ?_;rintro e w5 ⟨rfl,h5,f5⟩;replace hT:=hT.step f5 h5;clear b0
  go_wp2_with fail
  have hxB:=hT.x.lt;have hCB:=CtLt.of hT.ct;have hbeB:=h5.E.lt;have hbsB:=h5.S.lt;have hE:=ERow.nil w5.heap.size w5 (fun _=>undef);have ii:=info_exC;obtain⟨i0,hi,iz⟩:=Option.map_eq_some_iff.1 ii;simp only[Prod.mk.injEq]at iz;obtain⟨iz0,iz1,iz2⟩:=iz;have hwB:=Nat.le_of_lt (Nat.lt_trans hT.lt hT.x.lt);have hwB1:w.heap.size<w5.heap.size:=Nat.lt_trans hT.lt hT.x.lt;clear ii HSM HNU HMN hF1 h1 hc1 hr1 f5 h5;generalize hB0:w5.heap.size=B0 at*;have hB5:B0<=w5.heap.size:=Nat.le_of_eq hB0.symm;clear hB0
  go_loopw [21] (fun q wr=> ∃(j:Nat) (av:Value) (cs:List Value) (svs:Nat->Value),q= .int .i64 j/\j<=mm/\TX w wr be bs bf bn bm bl bt bx (reps (Rd.ex k) j p3).2 o n av/\ERow B0 wr (reps (Rd.ex k) j p3).1 av cs svs/\B0<=wr.heap.size) (fun q _=>mm-(intOf q).toNat)
  case atStart=>exact⟨0,.slice none 0 0,[],fun _=>undef,rfl,ze0,hT,hE,hB5⟩
  case round=>
   obtain⟨j,av,cs,svs,rfl,hj,hTr,hEr,hBr⟩:=hrel;have HSN:=Lh (reps_snoc (Rd.ex k) j p3);have hsr:=le1 (reps_size (Rd.ex k) (Rd.ex_size k) j p3) hs3;have hrl:=reps_len (Rd.ex k) j p3;by_cases hlt:j<mm
   ·have hltd:decide ((j:Int)<(mm:Int))=true:=dt0 (by omega);generalize reps (Rd.ex k) j p3=r at*;have hTd:=hTr.drew;have hEd:=hEr.drew;have hx0:=hTd.x.cell 2;have hwk:IntKind.i64.wrap (k:Int)=(k:Int):=by simp[IntKind.wrap,IntKind.bits,IntKind.signed];omega
    go_upto_region 7 with fail
    have hTc:=hTd;refine wp_region_held_drew (S:=(fun w'=>Bx w' bt (takeV bf bl bn bm bt))) (by kernel_rfl) ?_ (fun hHeld=>tk0 ?_)
    ·exact hTc.ct.T
    repeat' first
     |refine tkN ?_
     |(refine tkX ?_;try simp only[Act.put,tkA,tkB,tkC,tkD,tkE,tkF])
     |(refine tkt (v:=?_) (by decide+kernel) rfl (by rfl) (fun _ _ _ h=>h) (by assumption) ?_ ?_;rotate_left;(· intro w' hSw;(try dsimp only at hSw);have l0:=hSw.cell;unfold takeV at l0;clear hSw;go_simp;(try rw[hwk]);(try with_reducible rfl));try simp only[Act.put,tkA,tkB,tkC,tkD,tkE,tkF])
     |refine tkM ?_
     |refine tkZ ?_
     |refine tkB1 ?_
     |refine brN ?_
     |exact brE
     |refine brc rfl (fun K hK=>?_) ?_
     |(replace hK:=hK;refine opD 24 (by decide+kernel) ?_;have hx:=hTc.x.cell 2;go_simp;clear hx;refine hK.out _ _ ?_ (fun hHeld=>?_);(· exact hTc.ct.T);clear hK K;try simp only[Act.put,tkA,tkB,tkC,tkD,tkE,tkF])
     |(replace hK:=hK;go_simp;go_at_call 103;refine(IH.o be bs bf bn bm bl bt r.2 wr.drew hsr hTd.ps hTd.ct).mono ?_;rintro e w6 ⟨sv,rfl,hy,h6,f6⟩;have hT6:=hTd.step f6 h6;have hE6:=hEd.fr f6 hbeB hbsB;obtain⟨a2,n2,cap2,rfl⟩:=hy.slice;generalize (Rd.ex k r.2).1=y at*;generalize (Rd.ex k r.2).2=r2 at*;have hB6:B0<=w6.heap.size:=le1 hBr f6.size;replace hTc:=hT6;refine hK.out _ _ ?_ (fun hHeld=>?_);(· exact hTc.ct.T);clear hK K;try simp only[Act.put,tkA,tkB,tkC,tkD,tkE,tkF])
     |(replace hK:=hK;refine opIs 5 (by decide+kernel) ?_;go_simp;have hTa:=hT6.step ((Fr.refl (FrS be bs) w6).alloc (.cells #[.int .u8 y.op,.int .i64 y.n,.slice a2 n2 cap2] 133)) (hT6.ps.alloc _);have hEa:=hE6.fr ((Fr.refl (FrS be bs) w6).alloc (.cells #[.int .u8 y.op,.int .i64 y.n,.slice a2 n2 cap2] 133)) hbeB hbsB;replace hTc:=hTa;refine hK.out _ _ ?_ (fun hHeld=>?_);(· exact hTc.ct.T);clear hK K;try simp only[Act.put,tkA,tkB,tkC,tkD,tkE,tkF])
     |(replace hK:=hK;refine opIs 3 (by decide+kernel) ?_;have hszX:(w6.alloc (.cells #[.int .u8 y.op,.int .i64 y.n,.slice a2 n2 cap2] 133)).heap.size=w6.heap.size+1:=(by simp);refine step_append_lies _ (by rfl) _ _ _ (by rfl) B0 133 i0 (.agg #[.int .u8 0,.int .i64 0,.slice none 0 0]) 3 40 underlying131 hi iz0 iz1 iz2 rfl (by decide) av r.1.length cs (by rfl) hEa.own ⟨w6.heap.size,0,none⟩ 1 1 (#[.int .u8 y.op,.int .i64 y.n,.slice a2 n2 cap2]).toList (by rfl) (by rfl) (World.news_of_block (heap_alloc_new w6 _)) (by simp[Value.oneCell']) (by omega) (by unfold maxLen;omega) (by omega) (by omega) _ rfl ?_;intro g capg w7 hown7 hgrow7 hat7 hlt7;have hT7:=hTa.keepB hxB hCB hgrow7.os hgrow7.tape hgrow7.output hgrow7.size (fun b hb=>hgrow7.block b (by omega) (fun e=>by have:=(hE6.own_ge b e.symm).1;omega));have hE7:=hE6.snoc (fun q hq=>(hEd.own_ge q hq).2) f6.size hBr hy hgrow7 hat7 hlt7 hown7;rw[hrl]at hE7;have hB7:B0<=w7.heap.size:=(by have:=hgrow7.size;omega);have hx7:=hT7.x.cell 2;have hz7:=hT7.x.free 2;replace hTc:=hT7;refine hK.out _ _ ?_ (fun hHeld=>?_);(· exact hTc.ct.T);clear hK K;try simp only[Act.put,tkA,tkB,tkC,tkD,tkE,tkF])
     |(replace hK:=hK;refine opIs 2 (by decide+kernel) ?_;go_simp;have hT8:=hT7.setX hfar (.slice (some ⟨g,0,none⟩) (j+1) capg);have hE8:=hE7.keepB (wy:=w7.setCell ⟨bx,2,none⟩ (.slice (some ⟨g,0,none⟩) (j+1) capg)) (by simp) (fun b hb _=>heap_setCell_other w7 ⟨bx,2,none⟩ b _ (by show b≠bx;omega));have hB8:B0<=(w7.setCell ⟨bx,2,none⟩ (.slice (some ⟨g,0,none⟩) (j+1) capg)).heap.size:=(by simpa using hB7);replace hTc:=hT8;refine hK.out _ _ ?_ (fun hHeld=>?_);(· exact hTc.ct.T);clear hK K;try simp only[Act.put,tkA,tkB,tkC,tkD,tkE,tkF])
     |fail
    all_goals
     go_wp2_with fail
     go_roundw
     case measure=>simp only[intOf];omega
     case rel=>exact⟨j+1,_,_,_,rfl,by omega,by rw[HSN.o];exact hT8,by rw[HSN.o];exact hE8,hB8⟩
   ·have hltd:decide ((j:Int)<(mm:Int))=false:=df0 (by omega);obtain rfl:j=mm:=by omega
    generalize reps (Rd.ex k) j p3=r at*;obtain⟨z0,z1,z2⟩:=hTr.r.u3;obtain⟨r0,r1,r2⟩:=hTr.r.q3;obtain⟨x0,x1,x2⟩:=hTr.x.q3;have hA:=hEr.args;obtain⟨a2,n2,cap2,rfl⟩:=hA.slice;have hfr:=hTr.fr;have hps:=hTr.ps;have hrr:=hTr.r;clear hTr hEr hT hE
    go_wp2_with fail
    refine bodyPost_ret (v:= .agg #[_,_,_]) (results_cell_row rfl _ _ w.heap.size 133 _ (0,0) _ rfl (ex_set hrr rfl _ _ _) underlying133 rfl ?_) rfl ⟨.slice a2 n2 cap2,?_,?_,?_,?_⟩
    ·as_aux_lemma=>kernel_rfl
    ·rw[HE.o];rfl
    ·rw[HE.o];refine hA.keep (fun b hb=>⟨le1 hwB hb.1,by simpa using hb.2⟩) (fun b hb=>?_);have hne:b≠w.heap.size:=by have:=hb.1;omega
     rw[heap_setCell_other _ ⟨w.heap.size,2,none⟩ b _ hne,heap_setCell_other _ ⟨w.heap.size,1,none⟩ b _ hne,heap_setCell_other _ ⟨w.heap.size,0,none⟩ b _ hne]
    ·rw[HE.o];exact PS.far3 hps (Nat.ne_of_lt hel) (Nat.ne_of_lt hsl) _ _ _
    ·exact((hfr.setCell (p:=⟨w.heap.size,0,none⟩) (.inr le0) _).setCell (p:=⟨w.heap.size,1,none⟩) (.inr le0) _).setCell (p:=⟨w.heap.size,2,none⟩) (.inr le0) _
theorem takeEx_c: ∀(k:Nat),k<=100->TakeC k
 |0,_=>by
  intro be bs bf bn bm bl bt p w _ h hc
  refine(takeEx_0 be bs bf bn bm bl bt p w h hc).mono ?_
  rintro e w' ⟨rfl,h2,f2⟩
  exact⟨.slice none 0 0,rfl,.nil _ _ ze0,h2,f2⟩
 |k+1,hk=>takeEx_step k (by omega) (Lh (takeEx_c k (by omega)))
def Rd.nd3 (p:Rd):Int×Rd:=p.text.2.small.2.num.2.many 12
def Rd.nd (p:Rd):Nd×Rd:=
 (⟨p.text.1,p.text.2.small.1,(reps Rd.num p.nd3.1.toNat p.nd3.2).1,(Rd.ex 17 (reps Rd.num p.nd3.1.toNat p.nd3.2).2).1,p.text.2.small.2.num.1⟩,(Rd.ex 17 (reps Rd.num p.nd3.1.toNat p.nd3.2).2).2)
def takeNds:Nat->Rd->List Nd×Rd
 |0,p=>([],p)
 |m+1,p=>if p.nd.2.e≠0 then([p.nd.1],p.nd.2)else(p.nd.1::(takeNds m p.nd.2).1,(takeNds m p.nd.2).2)
def Rd.jb (s:ByteArray):Jb×Rd:=
 let q:=Rd.num ⟨s,0⟩
 let m:=q.2.many 12
 (⟨q.1,(takeNds m.1.toNat m.2).1⟩,(takeNds m.1.toNat m.2).2)
theorem Rd.text_size (p:Rd):p.text.2.s.size<=p.s.size:=by
 unfold Rd.text;split
 ·exact cut_size _ _
 ·exact le0
structure NRowP (B0:Nat) (wx:World) (l:List Nd) (av:Value) (cs:List Value) (ivs svs:Nat->Value):Prop where
 own:wx.ownsRow B0 135 7 av l.length cs
 cells: ∀i (hi:i<l.length),cs[i*7]? =some (.string (l[i]'hi).uid)/\cs[i*7+1]? =some (.int .u8 (l[i]'hi).kind)/\cs[i*7+2]? =some (ivs i)/\cs[i*7+3]? =some (.int .u8 (l[i]'hi).x.op)/\cs[i*7+4]? =some (.int .i64 (l[i]'hi).x.n)/\cs[i*7+5]? =some (svs i)/\cs[i*7+6]? =some (.int .i64 (l[i]'hi).n)
 sub: ∀i (hi:i<l.length),(l[i]'hi).uid.size<=maxLen/\InsP wx (fun b=>B0<=b/\b<wx.heap.size/\some b≠av.ownBlock) (l[i]'hi).ins (ivs i)/\ArgsP wx (fun b=>B0<=b/\b<wx.heap.size/\some b≠av.ownBlock) (l[i]'hi).x.args (svs i)
theorem NRowP.nil (B0:Nat) (w:World) (ivs svs:Nat->Value):NRowP B0 w [] (.slice none 0 0) [] ivs svs:=⟨⟨by simp,.inl ⟨rfl,rfl⟩⟩,fun i hi=>absurd hi (Nat.not_lt_zero _),fun i hi=>absurd hi (Nat.not_lt_zero _)⟩
theorem NRowP.keepB {B0:Nat} {wx wy:World} {l:List Nd} {av:Value} {cs:List Value} {ivs svs:Nat->Value} (h:NRowP B0 wx l av cs ivs svs) (hs:wx.heap.size<=wy.heap.size) (hk: ∀b,B0<=b->b<wx.heap.size->wy.heap[b]? =wx.heap[b]?):NRowP B0 wy l av cs ivs svs:=by
 refine⟨?_,h.cells,fun i hi=>⟨(h.sub i hi).1,(h.sub i hi).2.1.keep (fun b hb=>⟨hb.1,lt1 hb.2.1 hs,hb.2.2⟩) (fun b hb=>hk b hb.1 hb.2.1),(h.sub i hi).2.2.keep (fun b hb=>⟨hb.1,lt1 hb.2.1 hs,hb.2.2⟩) (fun b hb=>hk b hb.1 hb.2.1)⟩⟩;obtain⟨q1,q2⟩:=h.own;refine⟨q1,q2.imp id ?_⟩;rintro ⟨g,cap,cur,hv,hb,hg,r⟩;exact⟨g,cap,cur,hv,hb,(hk g hb (Array.getElem?_eq_some_iff.1 hg).1).trans hg,r⟩
theorem NRowP.nodes {B0 B:Nat} {wx:World} {l:List Nd} {av:Value} {cs:List Value} {ivs svs:Nat->Value} (h:NRowP B0 wx l av cs ivs svs) (hB:wx.heap.size<=B):NodesAt wx B l av:=by
 obtain⟨⟨h1,h2⟩,hc,hs⟩:=h;rcases h2 with ⟨rfl,h0⟩|⟨g,cap,cur,rfl,hb,hg,hn,hcp,hsz,ht⟩
 ·exact⟨none,0,by rw[h0],by omega,ze0,.inl h0⟩
 ·have hlt:g<wx.heap.size:=(Array.getElem?_eq_some_iff.1 hg).1;have cell: ∀q,q<l.length*7->wx.cell? ⟨g,0+q,none⟩=cs[q]? :=fun q hq=>by
   rw[Nat.zero_add,cell_of_row wx g q cur 135 (0,0) hg,<-ht,List.getElem?_take,if_pos hq];simp
  refine⟨_,cap,rfl,hn,hcp,.inr ⟨g,0,rfl,by omega,fun j hj=>?_⟩⟩;obtain⟨c0,c1,c2,c3,c4,c5,c6⟩:=hc j hj;obtain⟨s0,s1,s2⟩:=hs j hj;exact⟨s0,ivs j,svs j,(cell (j*7) (by omega)).trans c0,(cell (j*7+1) (by omega)).trans c1,(cell (j*7+2) (by omega)).trans c2,(cell (j*7+3) (by omega)).trans c3,(cell (j*7+4) (by omega)).trans c4,
   (cell (j*7+5) (by omega)).trans c5,(cell (j*7+6) (by omega)).trans c6,s1.sl (fun b hb=>lt1 hb.2.1 hB),s2.toAt (fun b hb=>lt1 hb.2.1 hB)⟩
theorem ArgsP.toIn {w:World} {P:Nat->Prop} {l:List Ex} {v:Value} (h:ArgsP w P l v):ArgsIn w P l v:=by
 induction h with
 |nil a cap hm=>exact .nil a cap hm
 |cons l b off cap sv hl hb hcap hm h0 h1 h2 _ ih=>exact .cons l b off cap sv hl hb hcap hm h0 h1 h2 ih
theorem NRowP.nodesIn {B0:Nat} {wx:World} {l:List Nd} {av:Value} {cs:List Value} {ivs svs:Nat->Value} (h:NRowP B0 wx l av cs ivs svs):NodesIn wx (fun b=>B0<=b/\b<wx.heap.size) l av:=by
 obtain⟨⟨h1,h2⟩,hc,hs⟩:=h;rcases h2 with ⟨rfl,h0⟩|⟨g,cap,cur,rfl,hb,hg,hn,hcp,hsz,ht⟩
 ·exact⟨none,0,by rw[h0],by omega,ze0,.inl h0⟩
 ·have hlt:g<wx.heap.size:=(Array.getElem?_eq_some_iff.1 hg).1;have cell: ∀q,q<l.length*7->wx.cell? ⟨g,0+q,none⟩=cs[q]? :=fun q hq=>by
   rw[Nat.zero_add,cell_of_row wx g q cur 135 (0,0) hg,<-ht,List.getElem?_take,if_pos hq];simp
  refine⟨_,cap,rfl,hn,hcp,.inr ⟨g,0,rfl,⟨hb,hlt⟩,fun j hj=>?_⟩⟩;obtain⟨c0,c1,c2,c3,c4,c5,c6⟩:=hc j hj;obtain⟨s0,s1,s2⟩:=hs j hj;exact⟨s0,ivs j,svs j,(cell (j*7) (by omega)).trans c0,(cell (j*7+1) (by omega)).trans c1,(cell (j*7+2) (by omega)).trans c2,(cell (j*7+3) (by omega)).trans c3,(cell (j*7+4) (by omega)).trans c4,
   (cell (j*7+5) (by omega)).trans c5,(cell (j*7+6) (by omega)).trans c6,(SlP.of_ins s1).keep (fun b hb=>⟨hb.1,hb.2.1⟩) (fun _ _=>rfl),s2.toIn.mono (fun b hb=>⟨hb.1,hb.2.1⟩)⟩
theorem NRowP.snoc {B0:Nat} {wx w4 w5:World} {l:List Nd} {av:Value} {cs:List Value} {ivs svs:Nat->Value} {g capg:Nat} {y:Nd} {iv sv:Value} {o:Obj} (h:NRowP B0 w4 l av cs ivs svs) (hx: ∀q,av.ownBlock=some q->q<wx.heap.size) (hxs:wx.heap.size<=w4.heap.size) (hB:B0<=wx.heap.size)
  (hu:y.uid.size<=maxLen) (hi:InsP w4 (fun b=>wx.heap.size<=b/\b<w4.heap.size) y.ins iv) (hy:ArgsP w4 (fun b=>wx.heap.size<=b/\b<w4.heap.size) y.x.args sv) (hg:(w4.alloc o).grownBy w5 av.ownBlock) (hat:av.ownBlock=some g\/g=(w4.alloc o).heap.size) (hlt:g<w5.heap.size)
  (hown:w5.ownsRow B0 135 7 (.slice (some ⟨g,0,none⟩) (l.length+1) capg) (l.length+1) (cs++ [.string y.uid,.int .u8 y.kind,iv,.int .u8 y.x.op,.int .i64 y.x.n,sv,.int .i64 y.n])):
  NRowP B0 w5 (l++ [y]) (.slice (some ⟨g,0,none⟩) (l.length+1) capg) (cs++ [.string y.uid,.int .u8 y.kind,iv,.int .u8 y.x.op,.int .i64 y.x.n,sv,.int .i64 y.n]) (fun i=>if i=l.length then iv else ivs i) (fun i=>if i=l.length then sv else svs i):=by
 have hl:(l++ [y]).length=l.length+1:=by simp
 have hcl:cs.length=l.length*7:=h.own.1;have hsz:(w4.alloc o).heap.size=w4.heap.size+1:=by simp
 have hgs:=hg.size;have keepB: ∀b,b<w4.heap.size->some b≠av.ownBlock->w5.heap[b]? =w4.heap[b]? :=fun b hb hn=>(hg.block b (by omega) hn).trans (alloc_old w4 o b hb);have old: ∀b,(B0<=b/\b<w4.heap.size/\some b≠av.ownBlock)->B0<=b/\b<w5.heap.size/\some b≠(Value.slice (some ⟨g,0,none⟩) (l.length+1) capg).ownBlock:=fun b hb=>⟨hb.1,by have:=hb.2.1;omega,by
  simp only[Value.ownBlock,ne_eq,Option.some.injEq]
  intro e
  rcases hat with h1|h1
  ·exact hb.2.2 (by rw[h1,e])
  ·have:=hb.2.1;omega⟩
 have new: ∀b,(wx.heap.size<=b/\b<w4.heap.size)->B0<=b/\b<w5.heap.size/\some b≠(Value.slice (some ⟨g,0,none⟩) (l.length+1) capg).ownBlock:=fun b hb=>⟨by have:=hb.1;omega,by have:=hb.2;omega,by
  simp only[Value.ownBlock,ne_eq,Option.some.injEq]
  intro e
  rcases hat with h1|h1
  ·have:=hx g h1;have:=hb.1;omega
  ·have:=hb.2;omega⟩
 have keepN: ∀b,(wx.heap.size<=b/\b<w4.heap.size)->w5.heap[b]? =w4.heap[b]? :=fun b hb=>keepB b hb.2 (fun e=>by have:=hx b e.symm;have:=hb.1;omega);refine⟨by rw[hl];exact hown,fun i hi'=>?_,fun i hi'=>?_⟩
 ·by_cases hil:i<l.length
  ·obtain⟨c0,c1,c2,c3,c4,c5,c6⟩:=h.cells i hil;simp only[if_neg (show i≠l.length by omega)];rw[List.getElem_append_left hil];have ap: ∀q u,cs[q]? =some u->(cs++ [Value.string y.uid,.int .u8 y.kind,iv,.int .u8 y.x.op,.int .i64 y.x.n,sv,.int .i64 y.n])[q]? =some u:=fun q u hq=>by
    rw[List.getElem?_append_left (List.getElem?_eq_some_iff.1 hq).1];exact hq
   exact⟨ap _ _ c0,ap _ _ c1,ap _ _ c2,ap _ _ c3,ap _ _ c4,ap _ _ c5,ap _ _ c6⟩
  ·obtain rfl:i=l.length:=by omega
   rw[List.getElem_append_right le0];have ap: ∀q,(cs++ [Value.string y.uid,.int .u8 y.kind,iv,.int .u8 y.x.op,.int .i64 y.x.n,sv,.int .i64 y.n])[l.length*7+q]? =[Value.string y.uid,.int .u8 y.kind,iv,.int .u8 y.x.op,.int .i64 y.x.n,sv,.int .i64 y.n][q]? :=fun q=>by
    rw[List.getElem?_append_right (by omega),hcl];congr 1;omega
   have a0:=ap 0;rw[Nat.add_zero]at a0;simp only[Nat.sub_self,List.getElem_cons_zero,if_true];exact⟨a0,ap 1,ap 2,ap 3,ap 4,ap 5,ap 6⟩
 ·by_cases hil:i<l.length
  ·simp only[if_neg (show i≠l.length by omega)];rw[List.getElem_append_left hil];obtain⟨s0,s1,s2⟩:=h.sub i hil;exact⟨s0,s1.keep old (fun b hb=>keepB b hb.2.1 hb.2.2),s2.keep old (fun b hb=>keepB b hb.2.1 hb.2.2)⟩
  ·obtain rfl:i=l.length:=by omega
   rw[List.getElem_append_right le0];simp only[Nat.sub_self,List.getElem_cons_zero,if_true];exact⟨hu,hi.keep new keepN,hy.keep new keepN⟩
