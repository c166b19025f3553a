/- Parts. -/
import Derived.Test.YtgbfdcmkbblodaaGreatDoorVX1
import Derived.Test.YtgbfdcmkbblodaaGreatDoorVY6a
namespace Go.Proofs.YtgbfdcmkbblodaaGreatDoor
open Go.RowKit
set_option linter.unusedVariables false
set_option linter.unusedSimpArgs false
set_option maxRecDepth 100000
set_option maxHeartbeats 16000000
open Tryz
def TP (w:World) (be bs:Nat) (p:Tb):Prop:=PS w be bs ⟨p.s,p.e⟩
theorem TP.fr {w w':World} {be bs:Nat} {p:Tb} {S:Nat->Prop} (h:TP w be bs p) (hf:Fr S w w') (h1: ¬S be) (h2: ¬S bs):TP w' be bs p:=⟨PS.E h|>.fr hf h1,PS.S h|>.fr hf h2⟩
theorem Tb.num_size (a b:Int) (p:Tb):(p.num a b).2.s.size<=p.s.size:=by
 unfold Tb.num
 repeat' split
 ·exact le0
 ·exact le0
 ·exact cut_size _ _
 ·exact cut_size _ _
theorem Tb.num_ir (a b:Int) (ha: -9223372036854775808<=a) (hab:a<=b) (hb:b<=9223372036854775807) (p:Tb):a<=(p.num a b).1/\(p.num a b).1<=b:=by
 unfold Tb.num
 repeat' split
 ·exact⟨Int.le_refl _,hab⟩
 ·exact⟨Int.le_refl _,hab⟩
 ·exact⟨Int.le_refl _,hab⟩
 ·dsimp only;omega
theorem tnum_c (be bs:Nat) (hne:be≠bs) (p:Tb) (least most:Int) (hs:p.s.size<=140737488355328) (w:World) (h:TP w be bs p):
  Calls prog 131 #[.int .i64 least,.int .i64 most,.pointer (some ⟨be,0,none⟩),.pointer (some ⟨bs,0,none⟩)] w fun e w'=>e= .returned (.int .i64 (p.num least most).1)/\TP w' be bs (p.num least most).2/\Fr (FrS be bs) w w':=by
 have hE:Blk w be 30 #[.int .i64 p.e]:=PS.E h;have hS:Blk w bs 9 #[.string p.s]:=PS.S h;have c0:=hE.cell 0;have f0:=hE.free 0;have d0:=hS.cell 0;have g0:=hS.free 0;by_cases he:p.e=0
 ·have he':(p.e !=0)=false:=by simpa using he
  obtain⟨k,hk,hks,_,_⟩:=takeS_size p.s;have HTK:Hd (∀W:World,Calls prog 45 #[.string p.s] W fun e w'=>e= .returned (.tuple #[.int .i64 (takeS p.s).1,.int .i64 (takeS p.s).2.1,.int .i64 (takeS p.s).2.2])/\W=w'):=fun W=>Take_c p.s hs W;have HF:Hd (p.num least most=if(takeS p.s).2.2≠0 then(least,⟨p.s,(takeS p.s).2.2⟩)else if(takeS p.s).1<least\/most<(takeS p.s).1 then(least,⟨p.s.extract (takeS p.s).2.1.toNat p.s.size,21⟩)else((takeS p.s).1,⟨p.s.extract (takeS p.s).2.1.toNat p.s.size,0⟩)):=by
   show _=_;unfold Tb.num;rw[if_neg (by simpa using he)]
  rw[hk]at HTK HF;rw[Int.toNat_natCast]at HF;generalize (takeS p.s).1=n at*;generalize (takeS p.s).2.2=er at*;generalize p.num least most=R at*;have hkI:(k:Int)<=(p.s.size:Int):=by omega
  have hE1:=hE.set 0 (.int .i64 er);have hS1:=hS.other (p:=⟨be,0,none⟩) (Ne.symm hne) (.int .i64 er);have hF1:Fr (FrS be bs) w (w.setCell ⟨be,0,none⟩ (.int .i64 er)):=(Fr.refl _ w).setCell (p:=⟨be,0,none⟩) (.inl (.inl rfl)) _;by_cases h1:er=0
  ·have h1':(er !=0)=false:=by simpa using h1
   subst h1;rw[if_neg (by simp)]at HF;clear hk he;have c1:=hE1.cell 0;have d1:=hS1.cell 0;have g1:=hS1.free 0;have hS2:=hS1.set 0 (.string (p.s.extract k p.s.size));have hE2:=hE1.other (p:=⟨bs,0,none⟩) hne (.string (p.s.extract k p.s.size));have hF2:=hF1.setCell (p:=⟨bs,0,none⟩) (.inl (.inr rfl)) (.string (p.s.extract k p.s.size));have f2:=hE2.free 0;have c2:=hE2.cell 0;have hE3:=hE2.set 0 (.int .i64 21);have hS3:=hS2.other (p:=⟨be,0,none⟩) (Ne.symm hne) (.int .i64 21);have hF3:=hF2.setCell (p:=⟨be,0,none⟩) (.inl (.inl rfl)) (.int .i64 21);by_cases h2:n<least
   ·have h2':decide (n<least)=true:=dt0 h2;rw[if_pos (.inl h2)]at HF;clear h2;go_enter func131,ntmps131
    go_wp2_with (first|(go_at_call 45;refine(HTK.o _).mono ?_;rintro e w1 ⟨rfl,rfl⟩)|fail)
    go_ret;rw[HF.o];exact⟨rfl,⟨hE3,hS3⟩,hF3⟩
   ·have h2':decide (n<least)=false:=df0 h2;by_cases h3:most<n
    ·have h3':decide (most<n)=true:=dt0 h3;rw[if_pos (.inr h3)]at HF;clear h2 h3;go_enter func131,ntmps131
     go_wp2_with (first|(go_at_call 45;refine(HTK.o _).mono ?_;rintro e w1 ⟨rfl,rfl⟩)|fail)
     go_ret;rw[HF.o];exact⟨rfl,⟨hE3,hS3⟩,hF3⟩
    ·have h3':decide (most<n)=false:=df0 h3;rw[if_neg (by omega)]at HF;clear h2 h3;go_enter func131,ntmps131
     go_wp2_with (first|(go_at_call 45;refine(HTK.o _).mono ?_;rintro e w1 ⟨rfl,rfl⟩)|fail)
     go_ret;rw[HF.o];exact⟨rfl,⟨hE2,hS2⟩,hF2⟩
  ·have h1':(er !=0)=true:=by simpa using h1
   rw[if_pos h1]at HF;clear h1 hk he;have c1:=hE1.cell 0;go_enter func131,ntmps131
   go_wp2_with (first|(go_at_call 45;refine(HTK.o _).mono ?_;rintro e w1 ⟨rfl,rfl⟩)|fail)
   go_ret;rw[HF.o];exact⟨rfl,⟨hE1,hS1⟩,hF1⟩
 ·have he':(p.e !=0)=true:=by simpa using he
  have HF:=Lh (Tb.num_err (least:=least) (most:=most) he);clear he;go_enter func131,ntmps131
  go_wp2_with fail
  go_ret;rw[HF.o];exact⟨rfl,h,Fr.refl _ _⟩
def tkv (ps:List (Trow×Value)):List (Int×Value):=ps.map fun p=>(p.1.key,.agg #[.int .i64 p.1.acc,p.2])
theorem tkv_snoc (ps:List (Trow×Value)) (r:Trow) (v:Value):tkv (ps++ [(r,v)])=tkv ps++ [(r.key,.agg #[.int .i64 r.acc,v])]:=by simp[tkv]
theorem tkv_len (ps:List (Trow×Value)):(tkv ps).length=ps.length:=by simp[tkv]
theorem tkv_cnt (ps:List (Trow×Value)) (g:Int):cntK (tkv ps) g=cntG (ps.map Prod.fst) g:=by
 unfold cntK cntG tkv;rw[List.filter_map,List.filter_map,List.length_map,List.length_map];rfl
structure TabAt (w:World) (P:Nat->Prop) (T B:Nat) (ps:List (Trow×Value)):Prop where
 box:Blk w T 194 #[.map (some B)]
 map:MapI w .i64 B (tkv ps)
 rows: ∀p∈ps,InsP w P p.1.l p.2
theorem TabAt.keep {w w':World} {P Q:Nat->Prop} {T B:Nat} {ps:List (Trow×Value)} (h:TabAt w P T B ps) (hT:w'.heap[T]? =w.heap[T]?) (hB:w'.heap[B]? =w.heap[B]?) (hPQ: ∀b,P b->Q b) (hk: ∀b,P b->w'.heap[b]? =w.heap[b]?):TabAt w' Q T B ps:=
 ⟨hT.trans h.box,h.map.same hB,fun p hp=>(h.rows p hp).keep hPQ hk⟩
structure TabL (w:World) (be bs T B H:Nat) (ps:List (Trow×Value)) (p:Tb) (W:World):Prop where
 below:Below w.heap.size w W
 tp:TP W be bs p
 tab:TabAt W (fun b=>w.heap.size<=b/\b<H/\b≠be/\b≠bs/\b≠B) T B ps
 ge:w.heap.size<=be/\w.heap.size<=bs/\w.heap.size<=T/\w.heap.size<=B
 ne:be≠bs/\T≠be/\T≠bs/\B≠be/\B≠bs/\T≠B
 lt:be<H/\bs<H/\T<H/\B<H
 hH:H<=W.heap.size
namespace TabL
variable {w W W':World} {be bs T B H:Nat} {ps:List (Trow×Value)} {p q:Tb}
theorem fr (h:TabL w be bs T B H ps p W) (hf:Fr (fun b=>b=be\/b=bs\/H<=b) W W') (hp:TP W' be bs q):TabL w be bs T B H ps q W':=by
 obtain⟨n1,n2,n3,n4,n5,n6⟩:=h.ne;obtain⟨g1,g2,g3,g4⟩:=h.ge;obtain⟨l1,l2,l3,l4⟩:=h.lt;have hH:=h.hH;exact⟨h.below.trans (hf.below h.below.size (fun k hk e=>by rcases e with rfl|rfl|e<;>omega)),hp,h.tab.keep (hf.block T (by omega) (by rintro (e|e|e)<;>omega)) (hf.block B (by omega) (by rintro (e|e|e)<;>omega)) (fun b hb=>hb) (fun b hb=>hf.block b (by have:=hb.2.1;omega) (by rintro (e|e|e);exact hb.2.2.1 e;exact hb.2.2.2.1 e;have:=hb.2.1;omega)),h.ge,h.ne,h.lt,le1 hH hf.size⟩
theorem step (h:TabL w be bs T B H ps p W) (hf:Fr (FrS be bs) W W') (hp:TP W' be bs q):TabL w be bs T B H ps q W':=h.fr (hf.mono fun k _ e=>by rcases e with e|e;exact .inl e;exact .inr (.inl e)) hp
theorem other (h:TabL w be bs T B H ps p W) (hf:Fr (fun b=>H<=b) W W'):TabL w be bs T B H ps p W':=
 h.fr (hf.mono fun k _ e=> .inr (.inr e)) (h.tp.fr hf (by have:=h.lt;omega) (by have:=h.lt;omega))
theorem more (h:TabL w be bs T B H ps p W) (hb:Below W.heap.size W W'):TabL w be bs T B H ps p W':=h.other (Fr.of_new hb)
theorem lift (h:TabL w be bs T B H ps p W):TabL w be bs T B W.heap.size ps p W:=by
 obtain⟨l1,l2,l3,l4⟩:=h.lt;have hH:=h.hH;exact⟨h.below,h.tp,h.tab.keep rfl rfl (fun b hb=>⟨hb.1,by have:=hb.2.1;omega,hb.2.2⟩) (fun _ _=>rfl),h.ge,h.ne,by omega,le0⟩
theorem snoc {r:Trow} {v:Value} (h:TabL w be bs T B H ps p W) (hi:InsP W (fun b=>w.heap.size<=b/\b<W.heap.size/\b≠be/\b≠bs/\b≠B) r.l v) (hf:Fr (fun i=>i=B) W W') (hm:MapI W' .i64 B (tkv ps++ [(r.key,.agg #[.int .i64 r.acc,v])])):TabL w be bs T B W'.heap.size (ps++ [(r,v)]) p W':=by
 have hl:=h.lift;obtain⟨n1,n2,n3,n4,n5,n6⟩:=hl.ne;obtain⟨g1,g2,g3,g4⟩:=hl.ge;obtain⟨l1,l2,l3,l4⟩:=hl.lt;have hs:=hf.size;refine⟨hl.below.trans (hf.below hl.below.size (fun k hk e=>by omega)),hl.tp.fr hf (by omega) (by omega),⟨hl.tab.box.fr hf (by omega),by rw[tkv_snoc];exact hm,fun q hq=>?_⟩,hl.ge,hl.ne,by omega,le0⟩;rcases List.mem_append.1 hq with hq|hq
 ·exact(hl.tab.rows q hq).keep (fun b hb=>⟨hb.1,by have:=hb.2.1;omega,hb.2.2⟩) (fun b hb=>hf.block b hb.2.1 hb.2.2.2.2)
 ·rw[List.mem_singleton.1 hq];exact hi.keep (fun b hb=>⟨hb.1,by have:=hb.2.1;omega,hb.2.2⟩) (fun b hb=>hf.block b hb.2.1 hb.2.2.2.2)
end TabL
theorem Tb.num_least {a b:Int} {p:Tb} (h:(p.num a b).2.e≠0):(p.num a b).1=a:=by
 unfold Tb.num at h⊢
 repeat' split
 ·rfl
 ·rfl
 ·rfl
 ·rename_i h1 h2 h3;rw[if_neg h1,if_neg h2,if_neg h3]at h;exact absurd rfl h
theorem Tb.nums_size: ∀(n:Nat) (p:Tb),(Tb.nums n p).2.s.size<=p.s.size
 |0,p=>le0
 |n+1,p=>by
  unfold Tb.nums
  exact le1 (Tb.nums_size n _) (Tb.num_size _ _ p)
theorem Tb.row_size (p:Tb):p.row.2.s.size<=p.s.size:=by
 unfold Tb.row;exact le1 (Tb.nums_size _ _) (le1 (Tb.num_size _ _ _) (le1 (Tb.num_size _ _ _) (Tb.num_size _ _ p)))
theorem rise_none {ps:List (Trow×Value)} {k:Int} (h:Rise (ps.map Prod.fst)) (hb: ¬rowBad (ps.map Prod.fst) k):getI k (tkv ps)=none:=by
 unfold getI;rw[(findI_none k (tkv ps) 0).2 ?_]
 ·rfl
 ·intro p hp e;obtain⟨q,hq,rfl⟩:=List.mem_map.1 hp;have hm:q.1∈ps.map Prod.fst:=List.mem_map_of_mem hq;have hne:ps.map Prod.fst≠ []:=by intro e2;rw[e2]at hm;simp at hm
  have hl:bef (lastK (ps.map Prod.fst)) k<0:=by
   have: ¬0<=bef (lastK (ps.map Prod.fst)) k:=fun e=>hb (.inl ⟨hne,e⟩);omega
  have e':q.1.key=k:=e;rcases rise_last h q.1 hm with e1|e1
  ·exact bef_ne (bef_trans e1 hl) e'
  ·rw[e1]at e';exact bef_ne hl e'
theorem own_slice {w:World} {base:Nat} {e:TypeId} {size n:Nat} {v:Value} {xs:List Value} (h:w.ownsRow base e size v n xs): ∃a cap,v= .slice a n cap/\n<=cap/\cap<=maxLen:=by
 rcases h.2 with ⟨rfl,rfl⟩|⟨g,cap,cur,rfl,hb,hg,hn,hc,hs,ht⟩
 ·exact⟨none,0,rfl,le0,ze0⟩
 ·exact⟨_,cap,rfl,hn,hc⟩
theorem own_base {w:World} {base:Nat} {e:TypeId} {size n:Nat} {v:Value} {xs:List Value} (h:w.ownsRow base e size v n xs): ∀b,v.ownBlock=some b->base<=b:=by
 intro b hb;rcases h.2 with ⟨rfl,rfl⟩|⟨g,cap,cur,rfl,hbb,hg,hn,hc,hs,ht⟩
 ·simp[Value.ownBlock]at hb
 ·simp[Value.ownBlock]at hb;omega
theorem ownsRow_fr {w w':World} {S:Nat->Prop} {base:Nat} {e:TypeId} {size n:Nat} {v:Value} {xs:List Value} (h:w.ownsRow base e size v n xs) (hf:Fr S w w') (hS: ∀b,base<=b-> ¬S b):w'.ownsRow base e size v n xs:=by
 obtain⟨h1,h2⟩:=h;refine⟨h1,h2.imp id ?_⟩;rintro ⟨g,cap,cur,hv,hb,hg,r⟩;exact⟨g,cap,cur,hv,hb,hf.heap_at hg (hS g hb),r⟩
theorem info_tint:(prog.info? 2).map (fun i=>(i.zero,i.size,i.bytes))=some (some (.int .i64 0),1,8):=by kernel_rfl
theorem Tb.nums_take (n j:Nat) (h:j<n) (q:Tb):Tb.nums (n-j) q=(q.any.1::(Tb.nums (n-(j+1)) q.any.2).1,(Tb.nums (n-(j+1)) q.any.2).2):=by
 rw[show n-j=(n-(j+1))+1 by omega];rfl
theorem take_in {w wx w1 w4:World} {be bs T B H C g cap j:Nat} {ps:List (Trow×Value)} {y y1:Tb} {lv:Value} {o:Obj} {cs:Array Value} (h:TabL w be bs T B H ps y wx) (hH:H<=C) (hf:Fr (FrS be bs) wx w1) (hp:TP w1 be bs y1) (hb: ∀b,lv.ownBlock=some b->C+1<=b)
  (hg:(w1.alloc o).grownBy w4 lv.ownBlock) (hC:Blk w4 C 189 cs):TabL w be bs T B H ps y1 (w4.setCell ⟨C,1,none⟩ (.slice (some ⟨g,0,none⟩) j cap)):=by
 have h1:=(h.step hf hp).more (br0.alloc le0 o);have h2:=h1.other (Fr.grown (Fr.refl (fun b=>H<=b) _) hg (fun k e=> .inl (by have:=hb k e;omega)));exact h2.other ((Fr.refl (fun b=>H<=b) w4).setCell (p:=⟨C,1,none⟩) (.inl hH) _)
theorem take_own {w4:World} {C g cap j:Nat} {xs:List Int} {x:Int} {cs:Array Value} (h:w4.ownsRow (C+1) 2 1 (.slice (some ⟨g,0,none⟩) (j+1) cap) (j+1) (xs.map (Value.int .i64)++ [.int .i64 x])) (hlt:g<w4.heap.size) (hC:Blk w4 C 189 cs):
  (w4.setCell ⟨C,1,none⟩ (.slice (some ⟨g,0,none⟩) (j+1) cap)).ownsRow (C+1) 2 1 (.slice (some ⟨g,0,none⟩) (j+1) cap) (j+1) ((xs++ [x]).map (Value.int .i64)):=by
 rw[List.map_append];exact ownsRow_setCell_below h (a:=⟨C,1,none⟩) (Nat.lt_succ_self C) _
theorem emp_size' (s:ByteArray):s.toList.isEmpty=decide (s.size=0):=by
 rw[ByteArray.toList_eq,Lib.size_eq]
 cases s.data.toList<;>simp
theorem take_row {w wc:World} {be bs T B H C j lcap:Nat} {la:Option Addr} {ps:List (Trow×Value)} {y:Tb} {xs:List Int} (h:wc.ownsRow (C+1) 2 1 (.slice la j lcap) j (xs.map (Value.int .i64))) (hx:xs.length=j) (hL:TabL w be bs T B H ps y wc) (hH:H<=C):
  InsP wc (fun b=>w.heap.size<=b/\b<wc.heap.size/\b≠be/\b≠bs/\b≠B) xs (.slice la j lcap):=by
 subst hx;have:=hL.lt;have:=hL.ge;exact(InsP.of_own h).keep (fun b hb=>⟨by have:=hb.1;omega,hb.2,by have:=hb.1;omega,by have:=hb.1;omega,by have:=hb.1;omega⟩) (fun _ _=>rfl)
theorem zero_cell (w:World):(zeroValue 189).run prog w= .ok (.agg #[.int .i64 0,.slice none 0 0]) w:=by go_simp
def TakePost2 (s:ByteArray) (w:World) (e:Ending) (w':World):Prop:=
 Below w.heap.size w w'/\((takeTb s).2≠0/\e= .returned (.tuple #[.pointer none,.int .i64 (takeTb s).2])\/
  (takeTb s).2=0/\ ∃T B ps,e= .returned (.tuple #[px T,.int .i64 0])/\ps.map Prod.fst=(takeTb s).1/\TabAt w' (fun b=>w.heap.size<=b/\b<w'.heap.size) T B ps)
theorem tTake_c (s:ByteArray) (hs:s.size<=140737488355328) (w:World):Calls prog 74 #[.string s] w (TakePost2 s w):=by
 unfold TakePost2;have HE:Hd (takeTb s=(let n:=(Tb.mk s 0).num 0 320;let q:=Tb.rows n.1.toNat [] n.2;if q.2.e≠0 then([],q.2.e)else if q.2.s.size≠0 then([],21)else(q.1,0))):=rfl;generalize takeTb s=R at*;have hE0:Blk ((w.alloc (.cells #[.string s] 9)).alloc (.cells #[.int .i64 0] 30)) (w.heap.size+1) 30 #[.int .i64 0]:=Blk.new_at _ _ _ (by simp);have hS0:Blk ((w.alloc (.cells #[.string s] 9)).alloc (.cells #[.int .i64 0] 30)) w.heap.size 9 #[.string s]:=(Blk.new w _ _).alloc _;have hb0:Below w.heap.size w ((w.alloc (.cells #[.string s] 9)).alloc (.cells #[.int .i64 0] 30)):=(br0.alloc le0 _).alloc (by simp) _;have hmf: ∀(fn:Fn) (first cap:Array Value) (w:World),(Instr.makeFunc fn first cap).run prog w= .ok (.func fn first cap) w:=fun _ _ _ _=>rfl;have f0:=hE0.free 0;have hz1:w.heap.size<((w.alloc (.cells #[.string s] 9)).alloc (.cells #[.int .i64 0] 30)).heap.size:=hS0.lt;have hz2:w.heap.size+1<((w.alloc (.cells #[.string s] 9)).alloc (.cells #[.int .i64 0] 30)).heap.size:=hE0.lt;go_enter func74,ntmps74
 go_upto_region 3 with fail
 generalize (w.alloc (.cells #[.string s] 9)).alloc (.cells #[.int .i64 0] 30)=W1 at*
 go_upto_region 5 with (first|(go_at_call 76;refine(New_t W1).mono ?_;rintro e W2 ⟨rfl,hb2,hs2,hT2,hm2⟩)|fail)
 unfold px;have hL:TabL w (w.heap.size+1) w.heap.size (W1.heap.size+1) W1.heap.size W2.heap.size [] ⟨s,0⟩ W2:=
  ⟨hb0.trans (hb2.mono hb0.size),⟨hE0.below hb2 hz2,hS0.below hb2 hz1⟩,⟨hT2,hm2,by simp⟩,by omega,by omega,by omega,le0⟩
 have HN:=Lh (tnum_c (w.heap.size+1) w.heap.size (by omega) ⟨s,0⟩ 0 320 hs W2 hL.tp);have hir:=Tb.num_ir 0 320 (by omega) (by omega) (by omega) ⟨s,0⟩;have hsz:=le1 (Tb.num_size 0 320 ⟨s,0⟩) hs;have hne0:= @Tb.num_least 0 320 ⟨s,0⟩;generalize Tb.num 0 320 ⟨s,0⟩=q at*;obtain⟨n,p0⟩:=q;dsimp only at HE HN hir hsz hne0;obtain⟨N,rfl⟩: ∃N:Nat,n=(N:Int):=⟨n.toNat,by omega⟩;rw[Int.toNat_natCast]at HE;have HNE0:p0.e=0\/N=0:=by
  by_cases h:p0.e=0
  ·exact .inl h
  ·have:=hne0 h;omega
 clear hne0;have HL:=Lh hL;have HR:Hd (R=(if(Tb.rows N [] p0).2.e≠0 then([],(Tb.rows N [] p0).2.e)else if(Tb.rows N [] p0).2.s.size≠0 then([],21)else((Tb.rows N [] p0).1,0))):=HE;generalize W1.heap.size=B at*;generalize hbe:w.heap.size+1=be at*;clear hE0 hS0 hb0 f0 hb2 hT2 hm2 hL HE hs hz1 hz2 hs2;have HNE:Hd (p0.e=0\/N=0):=HNE0
 go_upto_block 0 with (first|(go_at_call 131;refine HN.o.mono ?_;rintro e W3 ⟨rfl,hp3,hf3⟩)|fail)
 have hL3:=(HL.o.step hf3 hp3).lift;clear HN hf3 hp3 HL hmf;have HL:=Lh hL3;have HSZ:=Lh hsz;have hN3:(N:Int)<=320:=hir.2;clear hL3 hsz hir
 go_wp2_with fail
 go_loopw [7,15] (fun la q wr=> ∃(k:Nat) (ps:List (Trow×Value)) (p:Tb),la= .int .i64 (lastK (ps.map Prod.fst))/\q= .int .i64 (k:Int)/\k<=N/\ps.length=k/\(p.e=0\/N=0)/\Rise (ps.map Prod.fst)/\p.s.size<=140737488355328/\TabL w be w.heap.size (B+1) B wr.heap.size ps p wr/\Tb.rows (N-k) (ps.map Prod.fst) p=Tb.rows N [] p0) (fun _ q _=>N-(intOf q).toNat)
 case atStart=>exact⟨0,[],p0,rfl,rfl,ze0,rfl,HNE.o,List.Pairwise.nil,HSZ.o,HL.o,rfl⟩
 case round=>
  obtain⟨k,ps,p,rfl,rfl,hk,hpl,hpe,hri,hps,hLr,hrows⟩:=hrel;have HRS:=Lh hrows;have HRI:=Lh hri;have HPL:=Lh hpl;clear hrows hri hpl;by_cases hlt:k<N
  ·have hp0:p.e=0:=by rcases hpe with h|h;exact h;omega
   have hkI:(k:Int)<(N:Int):=by omega
   obtain⟨m,hm⟩: ∃m,N-k=m+1:=⟨N-k-1,by omega⟩;have hst:Tb.rows (m+1) (ps.map Prod.fst) p=(if p.row.2.e≠0 then([],p.row.2)else if rowBad (ps.map Prod.fst) p.row.1.key then([],⟨p.row.2.s,21⟩)else Tb.rows m (ps.map Prod.fst++ [p.row.1]) p.row.2):=rfl;rw[<-hm,HRS.o]at hst;have HST:=Lh hst;have HM:=Lh hm;have HRSZ:=Lh (le1 p.row_size hps);have HROW:Hd (p.row=(let k:=p.any;let a:=k.2.any;let n:=a.2.num 0 16;let q:=Tb.nums n.1.toNat n.2;(⟨k.1,a.1,q.1⟩,q.2))):=rfl;generalize p.row=rw' at*;clear hst hm HRS;have hs1:=le1 (Tb.num_size (-9223372036854775808) 9223372036854775807 p) hps;have HA1:=Lh (tnum_c be w.heap.size hLr.ne.1 p (-9223372036854775808) 9223372036854775807 hps wr hLr.tp);have hi1:=Tb.num_ir (-9223372036854775808) 9223372036854775807 (by omega) (by omega) (by omega) p;have e1:p.any=p.num (-9223372036854775808) 9223372036854775807:=rfl;rw[e1]at HROW;clear e1;generalize Tb.num (-9223372036854775808) 9223372036854775807 p=q1 at*;obtain⟨key,p1⟩:=q1;dsimp only at HROW HA1 hs1 hi1;have hs2:=le1 (Tb.num_size (-9223372036854775808) 9223372036854775807 p1) hs1;have HA2:=Lh (fun(W:World) (h:TP W be w.heap.size p1)=>tnum_c be w.heap.size hLr.ne.1 p1 (-9223372036854775808) 9223372036854775807 hs1 W h);have e1:p1.any=p1.num (-9223372036854775808) 9223372036854775807:=rfl;rw[e1]at HROW;clear e1;generalize Tb.num (-9223372036854775808) 9223372036854775807 p1=q2 at*;obtain⟨acc,p2⟩:=q2;dsimp only at HROW HA2 hs2;have hs3:=le1 (Tb.num_size 0 16 p2) hs2;have HA3:=Lh (fun(W:World) (h:TP W be w.heap.size p2)=>tnum_c be w.heap.size hLr.ne.1 p2 0 16 hs2 W h);have hi3:=Tb.num_ir 0 16 (by omega) (by omega) (by omega) p2;generalize Tb.num 0 16 p2=q3 at*;obtain⟨n3,p3⟩:=q3;dsimp only at HROW HA3 hs3 hi3;obtain⟨M,rfl⟩: ∃M:Nat,n3=(M:Int):=⟨n3.toNat,by omega⟩;rw[Int.toNat_natCast]at HROW;have HLR:=Lh hLr;clear hLr hpe hps
   go_upto_block 2 with (first
    |(go_at_call 131;refine HA1.o.mono ?_;rintro e W4 ⟨rfl,hq4,hf4⟩;have hL4:=HLR.o.step hf4 hq4;clear HA1)
    |(go_at_call 131;refine(HA2.o _ hL4.tp).mono ?_;rintro e W5 ⟨rfl,hq5,hf5⟩;have hL5:=hL4.step hf5 hq5;have hL6:=hL5.more (br0.alloc le0 (.cells #[.int .i64 acc,.slice none 0 0] 189));have hC6:=Blk.new W5 #[.int .i64 acc,.slice none 0 0] 189;clear HA2 hL4)
    |(go_at_call 131;refine(HA3.o _ hL6.tp).mono ?_;rintro e W7 ⟨rfl,hq7,hf7⟩)
    |fail)
   have hC7:=hC6.fr hf7 (by have:=hL5.hH;have:=hL5.lt;rintro (e|e)<;>omega);have hL7:=hL6.step hf7 hq7;have hHC:wr.heap.size<=W5.heap.size:=hL5.hH;generalize W5.heap.size=C at*;have hCW:C<W7.heap.size:=hC7.lt;obtain⟨i0,hi,hz0,hz1,hz2⟩:=info_parts info_tint;clear hL5 hL6 hC6 hf7 hq7 HA3 hf5 hq5 hf4 hq4 hs1 hs2;have HL7:=Lh hL7;have HC7:=Lh hC7;have HS3:=Lh hs3;have HHC:=Lh hHC;clear hL7 hC7 hs3 hHC;generalize wr.heap.size=H at*
   go_wp2_with fail
   go_loopw [25] (fun q wx=> ∃(j:Nat) (xs:List Int) (lv:Value) (y:Tb),q= .int .i64 (j:Int)/\j<=M/\xs.length=j/\y.s.size<=140737488355328/\TabL w be w.heap.size (B+1) B H ps y wx/\Blk wx C 189 #[.int .i64 acc,lv]/\wx.ownsRow (C+1) 2 1 lv j (xs.map (Value.int .i64))/\Tb.nums M p3=(xs++(Tb.nums (M-j) y).1,(Tb.nums (M-j) y).2)) (fun q _=>M-(intOf q).toNat)
   case atStart=>exact⟨0,[],_,p3,rfl,ze0,rfl,HS3.o,HL7.o,HC7.o,World.ownsRow_nil _ _ _ _,rfl⟩
   case round=>
    obtain⟨j,xs,lv,y,rfl,hj,hxl,hys,hLy,hCy,hoy,hny⟩:=hrel;obtain⟨la,lcap,rfl,hlc,hlm⟩:=own_slice hoy;have HNY:=Lh hny;have HXL:=Lh hxl;clear hny hxl;by_cases hjl:j<M
    ·have hjI:(j:Int)<(M:Int):=by omega
     have HNX:=Lh (Tb.nums_take M j hjl y);have HYS:=Lh (le1 (Tb.num_size (-9223372036854775808) 9223372036854775807 y) hys);have HA:=Lh (fun(W:World) (h:TP W be w.heap.size y)=>tnum_c be w.heap.size hLy.ne.1 y (-9223372036854775808) 9223372036854775807 hys W h);have e1:y.any=y.num (-9223372036854775808) 9223372036854775807:=rfl;rw[e1]at HNX;clear e1;generalize Tb.num (-9223372036854775808) 9223372036854775807 y=z at*;obtain⟨x,y1⟩:=z;dsimp only at HNX HA HYS;have HLY:=Lh hLy;have HCY:=Lh hCy;have HOY:=Lh hoy;have HBB:=Lh (own_base hoy);have NBC:Hd (∀b,C<=b-> ¬FrS be w.heap.size b):=fun b hb e=>by have:=hLy.lt;have:=HHC.o;rcases e with e|e<;>omega
     have ONE:Hd (∀v∈([.int .i64 x]:List Value),v.oneCell'=true):=by intro v hv;rw[List.mem_singleton.1 hv];rfl
     have c1:=hCy.cell 1;have f1:=hCy.free 1
     go_upto_region 12 with fail
     clear hLy hCy hoy hys;have hL0:=HLY.o.more (br0.drew);have hC0:=HCY.o.drew;have hO0:wr.drew.ownsRow (C+1) 2 1 (.slice la j lcap) j (xs.map (Value.int .i64)):=HOY.o.drew;have hSC:=hC0.lt;have HSX:Hd (∀W,Fr (fun b=>FrS be w.heap.size b\/C<b) wr.drew W->Blk W C 189 #[.int .i64 acc,.slice la j lcap]):=fun W q=>hC0.fr q (fun e=>by rcases e with e|e;exact NBC.o C le0 e;omega);have hb:Fr (fun b=>FrS be w.heap.size b\/C<b) wr.drew wr.drew:=Fr.refl _ _;refine tl0 (S:=(fun w'=>Blk w' C 189 #[.int .i64 acc,.slice la j lcap])) (L:=7) (by kernel_rfl) (HSX.o _ hb) (fun hHeld=>?_);generalize wr.drew=wd0 at*
     repeat' first
      |refine tln (by decide+kernel) ?_
      |(refine tls (by decide+kernel) rfl (by rfl) (fun _ _ _ h=>h) (by assumption) ?_;try simp only[Act.put,tkA,tkB,tkC,tkD,tkE,tkF])
      |(refine tlt (v:=?_) (by decide+kernel) rfl (by rfl) (fun _ _ _ h=>h) (by assumption) ?_ ?_;rotate_left;(· intro w' hSw;(try dsimp only at hSw);have z4:=hSw.cell 1;clear hSw;go_simp;(try with_reducible rfl));try simp only[Act.put,tkA,tkB,tkC,tkD,tkE,tkF])
      |refine tlm (by decide+kernel) ?_
      |refine tld (by decide+kernel) ?_
      |refine tlb (by decide+kernel) ?_
      |refine bln (by decide+kernel) ?_
      |exact ble (by decide+kernel)
      |refine blc rfl (fun K hK=>?_) ?_
      |(replace hK:=hK;refine opD 30 (by decide+kernel) ?_;go_simp;go_at_call 131;refine(HA.o _ hL0.tp).mono ?_;rintro e w1 ⟨rfl,hq1,hf1⟩;replace hb:=hf1.mono (T:=fun b=>FrS be w.heap.size b\/C<b) (fun b _ e=> .inl e);replace hO0:=ownsRow_fr hO0 hf1 (fun b q=>NBC.o b (Nat.le_of_succ_le q));have hC1:=hC0.fr hf1 (NBC.o C le0);refine hK.out _ _ (fun _=>HSX.o _ hb) (fun hHeld=>?_);replace hHeld:=hHeld (by decide);clear hK K;try simp only[Act.put,tkA,tkB,tkC,tkD,tkE,tkF])
      |(replace hK:=hK;refine opD 31 (by decide+kernel) ?_;go_simp;have hC2:=hC1.alloc (.cells #[.int .i64 x] 2);replace hb:=hb.alloc (.cells #[.int .i64 x] 2);replace hO0:=hO0.alloc (.cells #[.int .i64 x] 2);refine hK.out _ _ (fun _=>HSX.o _ hb) (fun hHeld=>?_);replace hHeld:=hHeld (by decide);clear hK K;try simp only[Act.put,tkA,tkB,tkC,tkD,tkE,tkF])
      |(replace hK:=hK;refine opD 32 (by decide+kernel) ?_;refine step_append_lies _ (by rfl) (.tmp 28) (.tmp 31) _ (by rfl) (C+1) 2 i0 (.int .i64 0) 1 8 underlying78 hi hz0 hz1 hz2 rfl (by decide) (.slice la j lcap) j (xs.map (Value.int .i64)) (by rfl) hO0 ⟨w1.heap.size,0,none⟩ 1 1 [.int .i64 x] (by rfl) (by rfl) (by exact World.news_of_block (heap_alloc_new w1 _)) ONE.o (by decide) (by unfold maxLen;omega) (by omega) (by simp;have:=hC1.lt;omega) _ rfl ?_;intro g cap4 w4 hown4 hgrow4 hat4 hlt4;have hC4:=hC2.grown hgrow4 (fun e=>by have:=HBB.o _ e.symm;omega);replace hb:=hb.grown hgrow4 (fun b e=> .inl (.inr (HBB.o b e)));refine hK.out _ _ (fun _=>HSX.o _ hb) (fun hHeld=>?_);replace hHeld:=hHeld (by decide);clear hK K;try simp only[Act.put,tkA,tkB,tkC,tkD,tkE,tkF])
      |(replace hK:=hK;refine opIs 2 (by decide+kernel) ?_;have k4:=hC4.cell 1;have g4:=hC4.free 1;go_simp;clear k4 g4;refine hK.out _ _ (fun h=>absurd rfl h) (fun hHeld=>?_);clear hHeld hK K;try simp only[Act.put,tkA,tkB,tkC,tkD,tkE,tkF])
      |fail
     clear hb HSX hC0 hO0
     go_wp2_with fail
     go_roundw
     case rel=>exact⟨j+1,xs++ [x],_,y1,by go_num,hjl,by rw[la0,HXL.o];rfl,HYS.o,take_in hL0 HHC.o hf1 hq1 HBB.o hgrow4 hC4,hC4.set 1 _,take_own hown4 hlt4 hC4,by rw[HNY.o,HNX.o];simp⟩
     case measure=>simp[intOf];omega
    ·obtain rfl:j=M:=by omega
     have hfin:rw'=(⟨key,acc,xs⟩,y):=by
      rw[HROW.o,HNY.o];simp[Tb.nums]
     have HFI:=Lh hfin;have HLY:=Lh hLy;have HCY:=Lh hCy;have HOY:=Lh hoy;clear hfin hLy hoy hys hjl hj;rw[HFI.o]at HST;dsimp only at HST;have hE:=PS.E HLY.o.tp;have e0:=hE.cell 0;have HBE:=Lh hE
     go_upto_region 14 with fail
     have hpl:=HPL.o
     go_cut [53] (fun c wx=> ∃b:Bool,c= .bool b/\(b=true↔(y.e=0/\rowBad (ps.map Prod.fst) key))/\Below wr.heap.size wr wx)
     case first=>
      by_cases hye:y.e=0
      ·have d0:(y.e==0)=true:=by simpa using hye
       have HYE:=Lh hye;have HBF:=Lh (before_c (lastK (ps.map Prod.fst)) key wr);have HMN:=Lh (fun(W:World) (h:Below wr.heap.size wr W)=>tmany_c (B+1) B (tkv ps) (grp key) W (HLY.o.more h).tab.box (HLY.o.more h).tab.map (by rw[tkv_len];omega));rw[tkv_cnt]at HMN;have HCL:Hd (∀g,cntG (ps.map Prod.fst) g<=1000):=fun g=>le1 (List.length_filter_le _ _) (by rw[List.length_map];omega);have hcl:=HCL.o (grp key);have HRB:Hd (rowBad (ps.map Prod.fst) key↔((0<k/\0<=bef (lastK (ps.map Prod.fst)) key)\/40<=cntG (ps.map Prod.fst) (grp key))):=by
        show _↔_;unfold rowBad;have:ps.map Prod.fst≠ []↔0<k:=by
         rw[<-hpl]
         cases ps<;>simp
        rw[this]
       generalize bef (lastK (ps.map Prod.fst)) key=bf at*;generalize cntG (ps.map Prod.fst) (grp key)=cn at*;unfold px at HMN;clear hye hpl;by_cases hk0:0<k
       ·have d1:decide ((0:Int)<(k:Int))=true:=dt0 (by omega);have d1':decide (0<k)=true:=dt0 hk0;by_cases hbf:0<=bf
        ·have d2:decide (0<=bf)=true:=dt0 hbf
         go_wp2_with (first
          |(go_at_call 132;refine HBF.o.mono ?_;rintro e w5 ⟨rfl,hb5⟩)
          |(go_at_call 134;refine(grpOf_c _ _).mono ?_;rintro e w6 ⟨rfl,rfl⟩)
          |(go_at_call 133;refine(HMN.o _ (by first|assumption|exact Below.refl _ _)).mono ?_;rintro e w6 ⟨rfl,hb6⟩)
          |fail)
         go_meet;exact⟨true,rfl,⟨fun _=>⟨HYE.o,HRB.o.2 (.inl ⟨hk0,hbf⟩)⟩,fun _=>rfl⟩,hb5⟩
        ·have d2:decide (0<=bf)=false:=df0 hbf;by_cases h40:40<=cn
         ·have d4:decide ((40:Int)<=(cn:Int))=true:=dt0 (by omega);have d4':decide (40<=cn)=true:=dt0 h40
          go_wp2_with (first
           |(go_at_call 132;refine HBF.o.mono ?_;rintro e w5 ⟨rfl,hb5⟩)
           |(go_at_call 134;refine(grpOf_c _ _).mono ?_;rintro e w6 ⟨rfl,rfl⟩)
           |(go_at_call 133;refine(HMN.o _ (by first|assumption|exact Below.refl _ _)).mono ?_;rintro e w6 ⟨rfl,hb6⟩)
           |fail)
          go_meet;exact⟨true,rfl,⟨fun _=>⟨HYE.o,HRB.o.2 (.inr h40)⟩,fun _=>rfl⟩,hb5.trans (hb6.mono hb5.size)⟩
         ·have d4:decide ((40:Int)<=(cn:Int))=false:=df0 (by omega);have d4':decide (40<=cn)=false:=df0 h40
          go_wp2_with (first
           |(go_at_call 132;refine HBF.o.mono ?_;rintro e w5 ⟨rfl,hb5⟩)
           |(go_at_call 134;refine(grpOf_c _ _).mono ?_;rintro e w6 ⟨rfl,rfl⟩)
           |(go_at_call 133;refine(HMN.o _ (by first|assumption|exact Below.refl _ _)).mono ?_;rintro e w6 ⟨rfl,hb6⟩)
           |fail)
          go_meet;exact⟨false,rfl,⟨fun e=>(by cases e),fun h=>absurd (HRB.o.1 h.2) (by omega)⟩,hb5.trans (hb6.mono hb5.size)⟩
       ·have d1:decide ((0:Int)<(k:Int))=false:=df0 (by omega);have d1':decide (0<k)=false:=df0 hk0;by_cases h40:40<=cn
        ·have d4:decide ((40:Int)<=(cn:Int))=true:=dt0 (by omega);have d4':decide (40<=cn)=true:=dt0 h40
         go_wp2_with (first
          |(go_at_call 132;refine HBF.o.mono ?_;rintro e w5 ⟨rfl,hb5⟩)
          |(go_at_call 134;refine(grpOf_c _ _).mono ?_;rintro e w6 ⟨rfl,rfl⟩)
          |(go_at_call 133;refine(HMN.o _ (by first|assumption|exact Below.refl _ _)).mono ?_;rintro e w6 ⟨rfl,hb6⟩)
          |fail)
         go_meet;exact⟨true,rfl,⟨fun _=>⟨HYE.o,HRB.o.2 (.inr h40)⟩,fun _=>rfl⟩,hb6⟩
        ·have d4:decide ((40:Int)<=(cn:Int))=false:=df0 (by omega);have d4':decide (40<=cn)=false:=df0 h40
         go_wp2_with (first
          |(go_at_call 132;refine HBF.o.mono ?_;rintro e w5 ⟨rfl,hb5⟩)
          |(go_at_call 134;refine(grpOf_c _ _).mono ?_;rintro e w6 ⟨rfl,rfl⟩)
          |(go_at_call 133;refine(HMN.o _ (by first|assumption|exact Below.refl _ _)).mono ?_;rintro e w6 ⟨rfl,hb6⟩)
          |fail)
         go_meet;exact⟨false,rfl,⟨fun e=>(by cases e),fun h=>absurd (HRB.o.1 h.2) (by omega)⟩,hb6⟩
      ·have d0:(y.e==0)=false:=by simpa using hye
       have HYE:=Lh hye;clear hye
       go_wp2_with fail
       go_meet;exact⟨false,rfl,⟨fun e=>(by cases e),fun h=>absurd h.1 HYE.o⟩,Below.refl _ _⟩
     case rest=>
      obtain⟨b,rfl,hbb,hbw⟩:=hcut;have hLc:=HLY.o.more hbw;have hCc:=HCY.o.below hbw HCY.o.lt;have HOc:Hd (wc.ownsRow (C+1) 2 1 (.slice la j lcap) j (xs.map (Value.int .i64))):=ownsRow_fr HOY.o (Fr.of_new (S:=fun _=>False) hbw) (fun _ _ h=>h);have hEc:Blk wc be 30 #[.int .i64 y.e]:=PS.E hLc.tp;have r0:=hEc.cell 0;have s0:=hEc.free 0;have HLC:=Lh hLc;have HBB:=Lh hbb;have HCC:=Lh hCc;clear hE e0 HBE hpl hLc hbb HLY HCY HOY;by_cases hye:y.e=0
      ·have d0:(y.e !=0)=false:=by simpa using hye
       have HYE:=Lh hye
       cases b
       ·have hnb: ¬rowBad (ps.map Prod.fst) key:=fun h=>by have:=HBB.o.2 ⟨hye,h⟩;cases this
        have HST2:Hd (Tb.rows N [] p0=Tb.rows m (ps.map Prod.fst++ [⟨key,acc,xs⟩]) y):=by
         have:=HST.o;rw[if_neg (by simpa using hye),if_neg hnb]at this;exact this
        have HNB:=Lh hnb;clear hye hnb HST
        go_upto_region 18 with fail
        obtain⟨c,W7,hrun7,hP7,hf7,hs7⟩:=entryI (P:=prog) underlying192 underlying2 (w:=wc.drew) HLC.o.tab.map key _ (zero_cell _) (rise_none HRI.o HNB.o);obtain⟨W8,hrun8,hm8,hf8,hs8⟩:=entryStoreI (P:=prog) (t:=192) key (v:= .agg #[.int .i64 acc,.slice la j lcap]) hP7;have hT0:=HLC.o.tab.box.drew.cell 0;have hC0:=HCC.o.drew.cell 0;have hC1:=HCC.o.drew.cell 1;have hCB:C≠B:=by have:=HLC.o.lt;have:=HHC.o;omega
        have hC7:=HCC.o.drew.fr hf7 hCB;have k0:=hC7.cell 0;have k1:=hC7.cell 1;have hf78:=hf7.trans hf8;have HF:Hd (Fr (fun i=>i=B) wc W8):=⟨hf78.os,hf78.tape,hf78.output,hf78.size,hf78.block⟩;have HM8:=Lh hm8;clear hf7 hf8 hf78 hs7 hs8 hm8 hP7 hC7 r0 s0
        go_region
        all_goals
         clear hrun7 hrun8 hT0 hC0 hC1 k0 k1
         (try go_wp2_with fail)
         go_roundw
         case rel=>exact⟨k+1,ps++ [(⟨key,acc,xs⟩,.slice la j lcap)],y,by rw[List.map_append];exact congrArg (Value.int .i64) (lastK_snoc (ps.map Prod.fst) ⟨key,acc,xs⟩).symm,by go_num,hlt,by rw[la0,HPL.o];rfl,.inl HYE.o,by rw[List.map_append];exact rise_snoc HRI.o HNB.o,(by have:=HRSZ.o;rw[HFI.o]at this;exact this),HLC.o.snoc (take_row HOc.o HXL.o HLC.o HHC.o) HF.o HM8.o,by rw[HST2.o,show N-(k+1)=m by have:=HM.o;omega,List.map_append];rfl⟩
         case measure=>simp[intOf];omega
       ·have hrb:=(HBB.o.1 rfl).2;have hRR:Hd (R=([],21)):=by
         show _=_;have hst:=HST.o;rw[if_neg (by simpa using hye),if_pos hrb]at hst;rw[HR.o,hst,if_pos (by show(21:Int)≠0;decide)]
        have hEs:=hEc.set 0 (.int .i64 21);have r1:=hEs.cell 0;clear hye hrb HST HR
        go_upto_region 17 with fail
        go_quiet (fail)
        go_wp2_with fail
        go_ret2;exact⟨below_drewN (HLC.o.below.setCell (p:=⟨be,0,none⟩) HLC.o.ge.1 _) _,.inl ⟨by rw[hRR.o];decide,by rw[hRR.o];rfl⟩⟩
      ·have d0:(y.e !=0)=true:=by simpa using hye
       have hRR:Hd (R=([],y.e)):=by
        show _=_;have hst:=HST.o;rw[if_pos hye]at hst;rw[HR.o,hst,if_pos hye]
       have HYE:=Lh hye;obtain rfl:b=false:=by
        cases b
        ·rfl
        ·exact absurd (HBB.o.1 rfl).1 hye
       clear hye HST HR
       go_upto_region 17 with fail
       go_quiet (fail)
       go_wp2_with fail
       go_ret2;exact⟨below_drewN HLC.o.below _,.inl ⟨by rw[hRR.o];exact HYE.o,by rw[hRR.o];rfl⟩⟩
  ·obtain rfl:N=k:=by omega
   have hrs:=HRS.o;rw[Nat.sub_self]at hrs;have hrs2:Tb.rows N [] p0=(ps.map Prod.fst,p):=hrs.symm;have hem:=emp_size' p.s;have hE:Blk wr be 30 #[.int .i64 p.e]:=PS.E hLr.tp;have hS:Blk wr w.heap.size 9 #[.string p.s]:=PS.S hLr.tp;have r0:=hE.cell 0;have s0:=hE.free 0;have q0:=hS.cell 0;have HLR:=Lh hLr;by_cases hpe0:p.e=0
   ·have d0:(p.e==0)=true:=by simpa using hpe0
    cases hz:p.s.toList.isEmpty
    ·have hz0: ¬p.s.size=0:=by rw[hz]at hem;exact of_decide_eq_false hem.symm
     have hRR:Hd (R=([],21)):=by
      show _=_;rw[HR.o,hrs2,if_neg (by simpa using hpe0),if_pos hz0]
     have hEs:=hE.set 0 (.int .i64 21);have r1:=hEs.cell 0;clear hpe0 hem hz0 hpe HR HRS hrs hrs2
     go_upto_region 23 with fail
     go_quiet (fail)
     go_wp2_with fail
     go_ret2;exact⟨below_drewN (HLR.o.below.setCell (p:=⟨be,0,none⟩) HLR.o.ge.1 _) _,.inl ⟨by rw[hRR.o];decide,by rw[hRR.o];rfl⟩⟩
    ·have hz0:p.s.size=0:=by rw[hz]at hem;exact of_decide_eq_true hem.symm
     have d1:(p.e !=0)=false:=by simpa using hpe0
     have hRR:Hd (R=(ps.map Prod.fst,0)):=by
      show _=_;rw[HR.o,hrs2,if_neg (by simpa using hpe0),if_neg (by simpa using hz0)]
     clear hpe0 hem hz0 hpe HR HRS hrs hrs2
     go_wp2_with fail
     go_ret2;exact⟨HLR.o.below,.inr ⟨by rw[hRR.o],B+1,B,ps,rfl,by rw[hRR.o],HLR.o.tab.keep rfl rfl (fun b hb=>⟨hb.1,hb.2.1⟩) (fun _ _=>rfl)⟩⟩
   ·have d0:(p.e==0)=false:=by simpa using hpe0
    have d1:(p.e !=0)=true:=by simpa using hpe0
    have hRR:Hd (R=([],p.e)):=by
     show _=_;rw[HR.o,hrs2,if_pos hpe0]
    have HPE:=Lh hpe0;clear hpe0 hem hpe HR HRS hrs hrs2
    go_upto_region 23 with fail
    go_quiet (fail)
    go_wp2_with fail
    go_ret2;exact⟨below_drewN HLR.o.below _,.inl ⟨by rw[hRR.o];exact HPE.o,by rw[hRR.o];rfl⟩⟩
theorem nil_int (a:Option Addr) (n c:Nat) (w:World):(binOp .eql 78 (.slice a n c) (.slice none 0 0)).run prog w= .ok (.bool a.isNone) w:=by
 cases a<;>kernel_rfl
theorem insP_news {w:World} {g:Nat} {l:List Int} (h: ∀j,j<l.length->w.cell? ⟨g,j,none⟩=(l.map (Value.int .i64))[j]?): ∀j u,(l.map (Value.int .i64))[j]? =some u->w.cell? ((⟨g,0,none⟩:Addr).add j)=some u:=by
 intro j u hj;have hlt:j<l.length:=by have:=(List.getElem?_eq_some_iff.1 hj).1;simpa using this
 rw[addr_add,Nat.zero_add,h j hlt,hj]
theorem ints_one (l:List Int): ∀u∈l.map (Value.int .i64),u.oneCell'=true:=by
 intro u hu;obtain⟨x,_,rfl⟩:=List.mem_map.1 hu;rfl
theorem Clone_c (l:List Int) (hl:l.length<=16) (P:Nat->Prop) (v:Value) (w:World) (hv:InsP w P l v) (hP: ∀b,P b->b<w.heap.size):
  Calls prog 196 #[v] w fun e w'=>(∃a cap,e= .returned (.slice a l.length cap))/\Below w.heap.size w w':=by
 rcases hv with ⟨rfl,rfl⟩|⟨g,cap,rfl,hPg,h1,h2,h3⟩
 ·have hq:=nil_int none 0 0 w;go_enter func196,ntmps196
  go_wp2_with fail
  go_ret;exact⟨⟨none,0,rfl⟩,Below.refl _ _⟩
 ·have hg:=hP g hPg;have HN:Hd (∀j u,(l.map (Value.int .i64))[j]? =some u->w.cell? ((⟨g,0,none⟩:Addr).add j)=some u):=insP_news h3;have HO:=Lh (ints_one l);have hown:=own_empty w w.heap.size w.heap.size rfl le0 2 1;have HB:Hd (Below w.heap.size w (w.alloc (.cells #[] 2))):=br0.alloc le0 _;obtain⟨i0,hi,hz0,hz1,hz2⟩:=info_parts info_tint;clear h3;have hq:=nil_int (some ⟨g,0,none⟩) l.length cap w;go_enter func196,ntmps196
  go_wp2_with (first|(at_builtin;refine wpList_append_own_at _ rfl _ _ 78 rfl w.heap.size 2 i0 (.int .i64 0) 1 8 underlying78 hi hz0 hz1 hz2 rfl (by decide) (.slice (some ⟨w.heap.size,0,none⟩) 0 0) 0 [] rfl hown ⟨g,0,none⟩ l.length cap (l.map (Value.int .i64)) rfl (by simp) ?_ HO.o (by unfold maxLen;omega) (by omega) (by simp) ?_)|fail)
  ·intro j u hj;have h9:=HN.o j u hj;rw[addr_add]at h9⊢;exact(World.cell?_of_block (a:=⟨g,0+j,none⟩) (HB.o.block g hg)).trans h9
  ·intro v' w1 hown' hgrow hnil hat;have hb1:Below w.heap.size w w1:=HB.o.grown hgrow (by simp) (fun k e=>by cases e;exact le0);rcases hown'.2 with ⟨rfl,h0⟩|⟨g',cap',cur',rfl,_,_,_,_,_,_⟩
   ·exact absurd rfl hnil
   ·go_wp2_with fail
    go_ret;exact⟨⟨_,_,rfl⟩,hb1⟩
theorem own_c (acc:Int) (l:List Int) (hl:l.length<=16) (P:Nat->Prop) (v:Value) (w:World) (hv:InsP w P l v) (hP: ∀b,P b->b<w.heap.size):
  Calls prog 169 #[.agg #[.int .i64 acc,v]] w fun e w'=>(∃a cap,e= .returned (.agg #[.int .i64 acc,.slice a l.length cap]))/\Below w.heap.size w w':=by
 obtain⟨a0,n0,c0,hve⟩: ∃a n c,v= .slice a n c:=by rcases hv with ⟨_,rfl⟩|⟨g,cap,rfl,_⟩<;>exact⟨_,_,_,rfl⟩
 have HV:Hd (∀W:World,Below w.heap.size w W->InsP W P l v):=fun W h=>hv.keep (fun _ h=>h) (fun b hb=>h.block b (hP b hb));clear hv;subst hve;have h0:Blk ((w.alloc (.cells #[.int .i64 acc,.slice a0 n0 c0] 189)).alloc (.cells #[.int .i64 0,.slice none 0 0] 189)) w.heap.size 189 #[.int .i64 acc,.slice a0 n0 c0]:=(Blk.new w _ _).alloc _;have h1:Blk ((w.alloc (.cells #[.int .i64 acc,.slice a0 n0 c0] 189)).alloc (.cells #[.int .i64 0,.slice none 0 0] 189)) (w.heap.size+1) 189 #[.int .i64 0,.slice none 0 0]:=Blk.new_at _ _ _ (by simp);have hb:Below w.heap.size w ((w.alloc (.cells #[.int .i64 acc,.slice a0 n0 c0] 189)).alloc (.cells #[.int .i64 0,.slice none 0 0] 189)):=(br0.alloc le0 _).alloc (by simp) _;have hs:w.heap.size+1<((w.alloc (.cells #[.int .i64 acc,.slice a0 n0 c0] 189)).alloc (.cells #[.int .i64 0,.slice none 0 0] 189)).heap.size:=by simp
 go_enter func169,ntmps169
 go_upto_region 1 with fail
 generalize ((w.alloc (.cells #[.int .i64 acc,.slice a0 n0 c0] 189)).alloc (.cells #[.int .i64 0,.slice none 0 0] 189))=W at*;have HC:Hd (Calls prog 196 #[.slice a0 n0 c0] W.drew fun e w'=>(∃a cap,e= .returned (.slice a l.length cap))/\Below W.heap.size W.drew w'):=Clone_c l hl P _ W.drew (HV.o _ hb.drew) (fun b h=>by have:=hP b h;have:=hs;show b<W.heap.size;omega);have x0:=h0.drew.cell 0;have x1:=h0.drew.cell 1;have y0:=h1.drew.free 0;have y1:=h1.drew.free 1;have z0:=h1.drew.cell 0;have z1:=h1.drew.cell 1;have HH0:=Lh h0;have HH1:=Lh h1;clear h0 h1
 go_region_with (first|(go_at_call 196;refine HC.o.mono ?_;rintro e w1 ⟨⟨a1,c1,rfl⟩,hb1⟩;have g0:=HH0.o.drew.below hb1 (by omega);have g1:=HH1.o.drew.below hb1 (by omega);have p0:=g0.cell 0;have p1:=g0.cell 1;have q0:=g1.free 0;have q1:=g1.free 1;have r0:=g1.cell 0;have r1:=g1.cell 1))
 all_goals
  go_wp2_with fail
  have g2:Blk ((w1.setCell ⟨w.heap.size+1,0,none⟩ (.int .i64 acc)).setCell ⟨w.heap.size+1,1,none⟩ (.slice a1 l.length c1)) (w.heap.size+1) 189 #[.int .i64 acc,.slice a1 l.length c1]:=(g1.set 0 (.int .i64 acc)).set 1 (.slice a1 l.length c1);refine bodyPost_ret (v:= .agg #[_,_]) (results_cell_row rfl _ _ (w.heap.size+1) 189 _ (0,0) _ rfl g2 underlying189 rfl ?_) rfl ⟨⟨a1,c1,rfl⟩,?_⟩
  ·as_aux_lemma=>kernel_rfl
  exact((hb.drew.trans (hb1.mono (by omega))).setCell (p:=⟨w.heap.size+1,0,none⟩) (Nat.le_succ _) _).setCell (p:=⟨w.heap.size+1,1,none⟩) (Nat.le_succ _) _
theorem stateful_c (k:Int) (w:World):Calls prog 73 #[.int .u8 k] w fun e w'=>e= .returned (.bool (statefulB k))/\w=w':=by
 unfold statefulB
 cases h6:k==6
 ·go_enter func73,ntmps73;go_wp2;go_ret;exact⟨rfl,rfl⟩
 ·go_enter func73,ntmps73;go_wp2;go_ret;exact⟨rfl,rfl⟩
