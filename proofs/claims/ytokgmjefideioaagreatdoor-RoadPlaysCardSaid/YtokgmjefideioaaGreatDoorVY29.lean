/- Parts. -/
import Derived.Test.YtokgmjefideioaaGreatDoorVY21
import Derived.Test.YtokgmjefideioaaGreatDoorVY6a
namespace Go.Proofs.YtokgmjefideioaaGreatDoor
open Go.RowKit
set_option linter.unusedVariables false
set_option linter.unusedSimpArgs false
set_option maxRecDepth 100000
set_option maxHeartbeats 16000000
open Tryz
section
variable {P:Program} {w:World}
theorem run_app {base:Nat} {t ty e:TypeId} {i:TypeInfo} {z:Value} {size:Nat} (bytes:Nat) (ht:P.underlying t=some (.slice e)) (hi:P.info? e=some i) (hz:i.zero=some z)
  (hsize:i.size=size) (hby:i.bytes=bytes) (hzs:z.cells.size=size) (hsz:0<size) {v:Value} {n:Nat} {xs:List Value} (hown:w.ownsRow base e size v n xs)
  {ad:Option Addr} {m c:Nat} {news:List Value} (hl:news.length=m*size) (hnews: ∀p,ad=some p-> ∀j u,news[j]? =some u->w.cell? (p.add j)=some u) (h1: ∀u∈news,u.oneCell'=true) (h0:ad=none->m=0)
  (h63:n+m<=maxLen) (hbytes:(n+m)*bytes<=140737488355328) (hbase:base<=w.heap.size):
  ∃a' c' w',(Builtin.append_ #[t,t] ty #[v,.slice ad m c]).run P w= .ok (.slice a' (n+m) c') w'/\w'.ownsRow base e size (.slice a' (n+m) c') (n+m) (xs++news)/\w.grownBy w' v.ownBlock:=by
 cases ad with
 |some p=>
  obtain⟨v',w',hr,h2,h3,_,_⟩:=run_append_own_at (P:=P) w base t ty e i z size bytes ht hi hz hsize hby hzs hsz v n xs hown p m c news hl (hnews p rfl) h1 h63 hbytes hbase;rcases h2.2 with ⟨rfl,h4⟩|⟨g,cap,cur,rfl,h4⟩
  ·exact⟨none,0,w',by rw[hr,h4],by rw[h4]at h2⊢;exact h2,h3⟩
  ·exact⟨_,cap,w',hr,h2,h3⟩
 |none=>
  obtain rfl:=h0 rfl;obtain rfl:news=[]:=List.eq_nil_of_length_eq_zero (by rw[hl,Nat.zero_mul]);rw[Nat.add_zero,List.append_nil];rcases hown.2 with ⟨rfl,rfl⟩|⟨g,cap,cur,rfl,_,_,hnc,_⟩
  ·exact⟨none,0,w,by simp[Builtin.append_,run_underlying ht,sizeOf,typeInfo,hi,Builtin.lenOf,Builtin.firstCells],hown,World.grownBy.refl _ _⟩
  ·exact⟨_,cap,w,by simp[Builtin.append_,run_underlying ht,sizeOf,typeInfo,hi,Builtin.lenOf,Builtin.firstCells,hnc,storeCells],hown,World.grownBy.refl _ _⟩
variable {ops:Array Oper} {op:Oper} {a:Act} {K:Act->World->Prop} {Q:Exit->Act->World->Prop} {E:Prop}
theorem step_wp (hgd:op.guard=none) (h:Oper.wp P op a w K Q):if Region.wanted op (yielded ops a.tmps)=true then Oper.wp P op a w K Q else E:=by
 rw[if_pos (by simp[Region.wanted,hgd])];exact h
theorem step_app {base:Nat} {t e:TypeId} {i:TypeInfo} {z:Value} {size:Nat} (bytes:Nat) (hgd:op.guard=none) (s x:Operand) (ho:op.op= .call {callee:= .builtin .append,args:=#[s,x],argTypes:=#[t,t]})
  (ht:P.underlying t=some (.slice e)) (hi:P.info? e=some i) (hz:i.zero=some z)
  (hsize:i.size=size) (hby:i.bytes=bytes) (hzs:z.cells.size=size) (hsz:0<size) {v:Value} {n:Nat} {xs:List Value} (hs:a.eval s=v) (hown:w.ownsRow base e size v n xs)
  {ad:Option Addr} {m c:Nat} {news:List Value} (hx:a.eval x= .slice ad m c) (hl:news.length=m*size) (hnews: ∀p,ad=some p-> ∀j u,news[j]? =some u->w.cell? (p.add j)=some u) (h1: ∀u∈news,u.oneCell'=true) (h0:ad=none->m=0)
  (h63:n+m<=maxLen) (hbytes:(n+m)*bytes<=140737488355328) (hbase:base<=w.heap.size)
  (h: ∀a' c' w',w'.ownsRow base e size (.slice a' (n+m) c') (n+m) (xs++news)->w.grownBy w' v.ownBlock->K (a.put op.dst (.slice a' (n+m) c')) w'):
  if Region.wanted op (yielded ops a.tmps)=true then Oper.wp P op a w K Q else E:=by
 obtain⟨a',c',w',hr,h2,h3⟩:=run_app (P:=P) (ty:=op.type) (c:=c) bytes ht hi hz hsize hby hzs hsz hown hl hnews h1 h0 h63 hbytes hbase;refine step_wp hgd ?_;unfold Oper.wp execOp;simp only[ho,resolve,invoke,builtin,Sem.run_bind,Sem.run_pure,Result.andThen_ok,List.map_toArray,List.map_cons,List.map_nil,hs,hx,hr];exact h a' c' w' h2 h3
theorem wpList_app {rest:List Oper} {base:Nat} {t e:TypeId} {i:TypeInfo} {z:Value} {size:Nat} (bytes:Nat) (hgd:op.guard=none) (s x:Operand) (ho:op.op= .call {callee:= .builtin .append,args:=#[s,x],argTypes:=#[t,t]})
  (ht:P.underlying t=some (.slice e)) (hi:P.info? e=some i) (hz:i.zero=some z)
  (hsize:i.size=size) (hby:i.bytes=bytes) (hzs:z.cells.size=size) (hsz:0<size) {v:Value} {n:Nat} {xs:List Value} (hs:a.eval s=v) (hown:w.ownsRow base e size v n xs)
  {ad:Option Addr} {m c:Nat} {news:List Value} (hx:a.eval x= .slice ad m c) (hl:news.length=m*size) (hnews: ∀p,ad=some p-> ∀j u,news[j]? =some u->w.cell? (p.add j)=some u) (h1: ∀u∈news,u.oneCell'=true) (h0:ad=none->m=0)
  (h63:n+m<=maxLen) (hbytes:(n+m)*bytes<=140737488355328) (hbase:base<=w.heap.size)
  (h: ∀a' c' w',w'.ownsRow base e size (.slice a' (n+m) c') (n+m) (xs++news)->w.grownBy w' v.ownBlock->wpList P ops Q rest (a.put op.dst (.slice a' (n+m) c')) w'):wpList P ops Q (op::rest) a w:=by
 refine wpList_plain hgd fun _ hK=>?_;have:=step_app (E:=True) (ops:=ops) (Q:=Q) bytes hgd s x ho ht hi hz hsize hby hzs hsz hs hown hx hl hnews h1 h0 h63 hbytes hbase (fun a' c' w' q1 q2=>hK _ _ (h a' c' w' q1 q2));rwa[if_pos (by simp[Region.wanted,hgd])]at this
end
theorem SlP.news {w W:World} {P:Nat->Prop} {size n c:Nat} {ad:Option Addr} {cs:List Value} (h:SlP w P size (.slice ad n c) n cs) (hP: ∀b,P b->W.heap[b]? =w.heap[b]?):
  (∀p,ad=some p-> ∀j u,cs[j]? =some u->W.cell? (p.add j)=some u)/\(ad=none->n=0):=by
 obtain⟨hl,a,cap,hv,h2,h3,h4⟩:=h;simp only[vs0,true_and]at hv;obtain⟨rfl,rfl⟩:=hv;rcases h4 with h4|⟨b,off,rfl,hb,hc⟩
 ·subst h4;obtain rfl:cs=[]:=List.eq_nil_of_length_eq_zero (by rw[hl,Nat.zero_mul]);exact⟨fun p _ j u hu=>by simp at hu,fun _=>rfl⟩
 ·refine⟨fun p hp j u hu=>?_,fun e=>by cases e⟩;obtain rfl:=Option.some.inj hp;have hj:=(List.getElem?_eq_some_iff.1 hu).1;rw[Addr.add_lit,World.cell?_of_block (hP b hb),hc j (by omega),hu]
theorem SlP.of_own {w:World} {base:Nat} {e:TypeId} {size n:Nat} {v:Value} {cs:List Value} (h:w.ownsRow base e size v n cs):SlP w (fun b=>base<=b/\b<w.heap.size) size v n cs:=by
 refine⟨h.1,?_⟩;rcases h.2 with ⟨rfl,rfl⟩|⟨g,cap,cur,rfl,hb,hg,hn,hc,hs,ht⟩
 ·exact⟨none,0,rfl,le0,ze0,.inl rfl⟩
 ·refine⟨_,cap,rfl,hn,hc,.inr ⟨g,0,rfl,⟨hb,(Array.getElem?_eq_some_iff.1 hg).1⟩,fun j hj=>?_⟩⟩;rw[Nat.zero_add,cell_of_row w g j cur _ (0,0) hg,<-ht,List.getElem?_take,if_pos hj];simp
theorem own_newE {B:Nat} {w W:World} (hb:Below B w W) (hB:B<=W.heap.size) (e:TypeId) (size:Nat):(W.alloc (.cells #[] e)).ownsRow B e size (.slice (some ⟨W.heap.size,0,none⟩) 0 0) 0 []:=own_empty W B _ rfl hB e size
theorem own_base_le {w:World} {a b:Nat} {e:TypeId} {size n:Nat} {v:Value} {xs:List Value} (h:w.ownsRow b e size v n xs) (hab:a<=b):w.ownsRow a e size v n xs:=
 ⟨h.1,h.2.imp id fun⟨g,cap,cur,hv,hb,q⟩=>⟨g,cap,cur,hv,le1 hab hb,q⟩⟩
theorem alloc_sz (W:World) (o:Obj):(W.alloc o).heap.size=W.heap.size+1:=by simp
theorem new_blkB {B:Nat} {w W:World} (_:Below B w W) (cs:Array Value) (t:TypeId):Blk (W.alloc (.cells cs t)) W.heap.size t cs:=Blk.new W cs t
theorem mk_all (c:Chg) (l:Fls) (n:Int) (h: ∀f s,c= .app f s->n=(s.size:Int)):c.mk n l=c.does l:=by
 cases c with
 |app f s=>
  obtain rfl:=h f s rfl;show l.set f (fl l f++s.extract 0 (clip s.size s.size))=l.set f (fl l f++s);rw[show clip (s.size:Nat) s.size=s.size by unfold clip;omega,show s.extract 0 s.size=s from by apply ByteArray.ext;simp]
 |cut f n=>rfl
 |mv a b=>rfl
def AskBad (k f n:Int):Prop:=decide (f<0)=true\/decide (f<0)=false/\(decide (15<f)=true\/decide (15<f)=false/\(k==3)=true/\(decide (n<0)=true\/decide (n<0)=false/\(decide (15<n)=true\/decide (15<n)=false/\(n==f)=true)))
def AskOk (d:Dk) (k n:Int) (m:Nat) (s:ByteArray) (R:Dk×Int):Prop:= ∃c:Chg,R=d.change c/\c.okIn d.now/\(Dk.sum (c.does d.now):Int)<=d.room/\(chL c).toArray=#[.int .i64 k,.int .i64 m,.int .i64 n,.string s]/\(∀l,c.mk (s.size:Int) l=c.does l)/\
 ((k==3)=false/\(k==1)=true/\decide (d.free<(s.size:Int))=false/\(k==2)=false\/(k==3)=false/\(k==1)=false/\(k==2)=true/\decide (n<0)=false/\decide (((fl d.now m).size:Int)<n)=false\/
  (k==3)=true/\decide (n<0)=false/\decide (15<n)=false/\(n==(m:Int))=false/\(k==1)=false/\(k==2)=false)
def AskFull (d:Dk) (k:Int) (s:ByteArray) (R:Dk×Int):Prop:=(k==3)=false/\(k==1)=true/\decide (d.free<(s.size:Int))=true/\R=(d,7)
def AskOut (d:Dk) (k n:Int) (m:Nat) (R:Dk×Int):Prop:=(k==3)=false/\(k==1)=false/\(k==2)=true/\(decide (n<0)=true\/decide (n<0)=false/\decide (((fl d.now m).size:Int)<n)=true)/\R=(d,5)
def Asked (d:Dk) (k f n:Int) (s:ByteArray) (R:Dk×Int):Prop:=k=1/\n=0/\R=d.append f s\/k=2/\s={data:=#[]}/\R=d.cut f n\/k=3/\s={data:=#[]}/\R=d.move f n
theorem ask (d:Dk) (hi:d.Inv) (k f n:Int) (s:ByteArray) (R:Dk×Int) (h:Asked d k f n s R):
  d.off=true/\R=(d,50)\/d.off=false/\(AskBad k f n/\R=(d,2)\/ ∃m:Nat,f=m/\m<16/\decide (f<0)=false/\decide (15<f)=false/\(AskFull d k s R\/AskOut d k n m R\/AskOk d k n m s R)):=by
 have hF: ∀g,Dk.isF g=false->g<0\/ ¬g<0/\15<g:=fun g hg=>by simp[Dk.isF]at hg;omega
 have hB: ∀g,Dk.isF g=false->AskBad k g n:=fun g hg=>(hF g hg).imp dt0 fun e=>⟨df0 e.1,.inl (dt0 e.2)⟩;by_cases ho:d.off=true
 ·refine .inl ⟨ho,?_⟩;rcases h with ⟨_,_,rfl⟩|⟨_,_,rfl⟩|⟨_,_,rfl⟩
  ·exact if_pos ho
  ·exact if_pos ho
  ·exact if_pos ho
 refine .inr ⟨by simpa using ho,?_⟩;have h16:=hi.now16;rcases h with ⟨rfl,rfl,hR⟩|⟨rfl,rfl,hR⟩|⟨rfl,rfl,hR⟩
 ·unfold Dk.append at hR;rw[if_neg ho]at hR
  cases hf:Dk.isF f
  ·rw[hf,if_pos rfl]at hR;exact .inl ⟨hB f hf,hR⟩
  rw[hf,if_neg (by decide)]at hR;obtain⟨m,rfl,hm⟩:=isF_ir hf;rw[Int.toNat_natCast]at hR;refine .inr ⟨m,rfl,hm,df0 (by omega),df0 (by omega),?_⟩;by_cases hfr:d.free<(s.size:Int)
  ·rw[if_pos hfr]at hR;exact .inl ⟨rfl,rfl,dt0 hfr,hR⟩
  ·rw[if_neg hfr]at hR;refine .inr (.inr ⟨.app m s,hR,hm,?_,rfl,fun l=>mk_all _ _ _ fun f' s' e=>?_,.inl ⟨rfl,rfl,df0 hfr,rfl⟩⟩)
   ·have:=sum_set d.now m (fl d.now m++s) (by rw[h16];exact hm);rw[ByteArray.size_append]at this;unfold Dk.free at hfr;show(Dk.sum (d.now.set m (fl d.now m++s)):Int)<=d.room;omega
   ·cases e;rfl
 ·unfold Dk.cut at hR;rw[if_neg ho]at hR
  cases hf:Dk.isF f
  ·rw[hf,if_pos rfl]at hR;exact .inl ⟨hB f hf,hR⟩
  rw[hf,if_neg (by decide)]at hR;obtain⟨m,rfl,hm⟩:=isF_ir hf;rw[Int.toNat_natCast]at hR;refine .inr ⟨m,rfl,hm,df0 (by omega),df0 (by omega),?_⟩;by_cases hc:n<0\/((fl d.now m).size:Int)<n
  ·rw[if_pos hc]at hR;refine .inr (.inl ⟨rfl,rfl,rfl,?_,hR⟩);by_cases h0:n<0
   ·exact .inl (dt0 h0)
   ·exact .inr ⟨df0 h0,dt0 (by omega)⟩
  ·rw[if_neg hc]at hR;obtain⟨j,rfl⟩: ∃j:Nat,n=j:=⟨n.toNat,by omega⟩;rw[Int.toNat_natCast]at hR;refine .inr (.inr ⟨.cut m j,hR,⟨hm,by omega⟩,?_,rfl,fun _=>rfl,.inr (.inl ⟨rfl,rfl,rfl,df0 (by omega),df0 (by omega)⟩)⟩);have:=does_sum_cut m j d.now (by omega);have:=hi.fits;omega
 ·unfold Dk.move at hR;rw[if_neg ho]at hR
  cases hf:Dk.isF f
  ·rw[hf,if_pos (.inl rfl)]at hR;exact .inl ⟨hB f hf,hR⟩
  obtain⟨m,rfl,hm⟩:=isF_ir hf;have e1:decide ((m:Int)<0)=false:=df0 (by omega);have e2:decide (15<(m:Int))=false:=df0 (by omega)
  cases hn:Dk.isF n
  ·rw[hn,if_pos (.inr rfl)]at hR;exact .inl ⟨.inr ⟨e1,.inr ⟨e2,rfl,(hF n hn).imp dt0 fun e=>⟨df0 e.1,.inl (dt0 e.2)⟩⟩⟩,hR⟩
  rw[hf,hn,if_neg (by simp)]at hR;obtain⟨j,rfl,hj⟩:=isF_ir hn;rw[Int.toNat_natCast,Int.toNat_natCast]at hR;have e3:decide ((j:Int)<0)=false:=df0 (by omega);have e4:decide (15<(j:Int))=false:=df0 (by omega);by_cases hmj:(m:Int)=(j:Int)
  ·rw[if_pos hmj]at hR;exact .inl ⟨.inr ⟨e1,.inr ⟨e2,rfl,.inr ⟨e3,.inr ⟨e4,by rw[beq_iff_eq];omega⟩⟩⟩⟩,hR⟩
  ·rw[if_neg hmj]at hR;refine .inr ⟨m,rfl,hm,e1,e2,.inr (.inr ⟨.mv m j,hR,⟨hm,hj,by omega⟩,?_,rfl,fun _=>rfl,.inr (.inr ⟨rfl,e3,e4,by rw[bq0];omega,rfl,rfl⟩)⟩)⟩;have:=does_sum_mv m j d.now (by omega) (by omega) (by omega);have:=hi.fits;omega
theorem info_rchg:(prog.info? 109).map (fun i=>(i.zero,i.size,i.bytes))=some (some (.agg #[.int .i64 0,.int .i64 0,.int .i64 0,.string {data:=#[]}]),4,40):=by kernel_rfl
theorem chsL_len (cs:List Chg):(chsL cs).length=cs.length*4:=by
 induction cs with
 |nil=>rfl
 |cons c cs ih=>
  show(chL c++chsL cs).length=_;rw[la0,chL_len,ih,List.length_cons];omega
theorem chsL_one (cs:List Chg): ∀u∈chsL cs,u.oneCell'=true:=by
 intro u hu;unfold chsL at hu;obtain⟨c,_,hc⟩:=List.mem_flatMap.1 hu
 cases c<;>simp only[chL,List.mem_cons,List.not_mem_nil,or_false]at hc<;>rcases hc with rfl|rfl|rfl|rfl<;>rfl
theorem RDk.renew {w w':World} {M:Nat->Prop} {D:Nat} {d d':Dk} {lv:Value} (h:RDk w M D d) (hi:d'.Inv) (hb:Blk w' D 54 (dkC d' lv)) (hf:Fr (· =D) w w')
  (hl:SlP w' (fun b=>w.heap.size<=b/\b<w'.heap.size) 4 lv d'.loose.length (chsL d'.loose)):RDkTo w w' M D d':=by
 have hD:=h.lt D h.mem;have hz:=hf.size;refine⟨hf.mono (fun k _ e=>e▸h.mem),fun b=>M b\/(w.heap.size<=b/\b<w'.heap.size),fun b hb=>hb.imp id And.left,hi,.inl h.mem,fun b hm=>?_,lv,hb,hl.keep (fun b k=>⟨.inr k,by omega⟩) (fun _ _=>rfl)⟩;rcases hm with hm|hm
 ·have:=h.lt b hm;omega
 ·exact hm.2
structure ChgR (w W:World) (D:Nat) (d:Dk) (lv:Value) (cs:Array Value):Prop where
 below:Below w.heap.size w W
 bx:Blk W w.heap.size 109 cs
 dk:Blk W D 54 (dkC d lv)
theorem ChgR.drewN {w W:World} {D:Nat} {d:Dk} {lv:Value} {cs:Array Value} (h:ChgR w W D d lv cs) (k:Nat):ChgR w (W.drewN k) D d lv cs:=⟨below_drewN h.below k,by have:=h.bx;unfold Blk at this⊢;simpa using this,by have:=h.dk;unfold Blk at this⊢;simpa using this⟩
theorem rChange_c (w:World) (M:Nat->Prop) (D:Nat) (d:Dk) (h:RDk w M D d) (k f n:Int) (s:ByteArray) (hs:s.size<=9223372036854775807) (hll:d.loose.length<=1000000000) (R:Dk×Int) (hR:Asked d k f n s R):
  Calls prog 67 #[px D,.agg #[.int .i64 k,.int .i64 f,.int .i64 n,.string s]] w fun e w'=>e= .returned (.int .i64 R.2)/\RDkTo w w' M D R.1:=by
 obtain⟨lv,hb0,hL⟩:=id h.ex;have hld:=h.inv.len;have hask:=ask d h.inv k f n s R hR;have hDlt:=h.lt D h.mem;have hA:=(Below.refl w.heap.size w).alloc le0 (.cells #[.int .i64 k,.int .i64 f,.int .i64 n,.string s] 109);have HQ:Hd (ChgR w (w.alloc (.cells #[.int .i64 k,.int .i64 f,.int .i64 n,.string s] 109)) D d lv #[.int .i64 k,.int .i64 f,.int .i64 n,.string s]):=⟨hA,Blk.new w _ _,hb0.below hA hDlt⟩;have HH:=Lh h;have HL:=Lh hL;have HLF:=Lh (fun W (q:ChgR w W D d lv #[.int .i64 k,.int .i64 f,.int .i64 n,.string s])=>rLeft_c D W d lv q.dk hld h.inv.fits h.inv.room2);clear hb0 hL h hR hA;unfold px at HLF⊢;go_enter func67,ntmps67
 go_upto_region 1 with fail
 generalize World.alloc w _=W at*;obtain⟨c0,c1,c2⟩:=HQ.o.bx.q3;have c34:=(HQ.o.dk.cell 34).trans (dkC_34 hld);rcases hask with ⟨ho,rfl⟩|⟨ho,⟨ht,rfl⟩|⟨m,rfl,hm,e1,e2,hgo⟩⟩
 ·rw[ho]at c34
  go_wp2_with fail
  go_ret;exact⟨rfl,HH.o.toB HQ.o.below⟩
 ·rw[ho]at c34;rcases ht with h1|⟨h1,h2|⟨h2,h3,h4|⟨h4,h5|⟨h5,h6⟩⟩⟩⟩
  all_goals
   go_wp2_with fail
   go_ret;exact⟨rfl,HH.o.toB HQ.o.below⟩
 rw[ho]at c34;have c3:=HQ.o.bx.cell 3;rcases hgo with ⟨t3,t1,t4,rfl⟩|⟨t3,t1,t2,t4,rfl⟩|⟨c,rfl,hok,hfit,hc,hmk,ht⟩
 ·go_upto_region 5 with fail
  go_quiet ((go_at_call 105;exact Calls.quiet_of_same (quiet_sym (HLF.o _ (HQ.o.drewN _)))))
  go_wp2_with fail
  go_ret;exact⟨rfl,HH.o.toB (below_drewN HQ.o.below _)⟩
 ·rcases t4 with t4|⟨t4,t5⟩
  all_goals
   go_upto_region 5 with fail
   go_quiet (fail)
   have HQ2:=Lh (HQ.o.drewN nq);generalize World.drewN _ nq=W2 at*;obtain⟨c0,c1,c2⟩:=HQ2.o.bx.q3;have cm:=(HQ2.o.dk.cell (1+m)).trans (dkC_now hld m hm);have hDl:=HQ2.o.dk.lt
   go_upto_region 7 with fail
   go_quiet (fail)
   go_wp2_with fail
   go_ret;exact⟨rfl,HH.o.toB (below_drewN HQ2.o.below _)⟩
 have HI:=Lh (HH.o.inv.change c hok hfit);have hsm:=Dk.op_same d;have hlen1:=Dk.op_len hld;have hneD:w.heap.size≠D:=by omega
 have HOPI:=Lh HH.o.inv.op;have hr1:=HH.o.inv.left1;have hr2:=HH.o.inv.left2;have hlL:(c.does d.now).length=16:=(c.does_len _).trans HH.o.inv.now16;have hzl: ∀f,(fl d.now f).size<=4194304:=fun f=>by have:=sum_le d.now f;have:=HH.o.inv.fits;have:=HH.o.inv.room2;omega
 have HMD:Hd (∀W:World,CB prog 52 #[.agg (d.now.map Value.string).toArray,.agg #[.int .i64 k,.int .i64 m,.int .i64 n,.string s],.int .i64 (s.size:Int)] W (.agg ((c.does d.now).map Value.string).toArray)):=fun W=>by
  rw[<-hc,<-hmk];exact rmade_c d.now HH.o.inv.now16 hzl c hok (fun f' s' e=>by subst e;have:=app_fitS (s:=s') HH.o.inv.now16 (show f'<16 from hok) (by have:=hfit;have:=HH.o.inv.room2;omega);omega) _ W
 have HCL:Hd (chsL (d.loose++ [c])=chsL d.loose++ [.int .i64 k,.int .i64 m,.int .i64 n,.string s]):=by
  show _=_;rw[chsL_snoc,<-show(chL c).toArray.toList=chL c from rfl,hc]
 obtain⟨la,lc,rfl,hlc,hlm⟩:=RDk.slice (HL.o.keep (fun b q=>q.1) (fun _ _=>rfl));have HLC:=Lh (chsL_len d.loose);have HNS:Hd (∀W':World,(∀b,M b/\b≠D->W'.heap[b]? =w.heap[b]?)->(∀p,la=some p-> ∀j u,(chsL d.loose)[j]? =some u->W'.cell? (p.add j)=some u)/\(la=none->d.loose.length=0)):=fun W' hk=>HL.o.news hk;have HML:Hd (∀b,M b->b<w.heap.size):=HH.o.lt;clear hc hmk hok hfit hzl;have HT:=Lh ht;clear ht
 go_upto_region 3 with fail
 go_cut [39] (fun s39 wx=>s39= .bool false/\wx=W)
 case first=>
  rcases HT.o with ⟨t1,t2,t4,t5⟩|⟨t1,t2,t3,t4,t5⟩|⟨t1,t2,t3,t4,t5,t6⟩
  all_goals
   go_wp2_with fail
   go_meet;exact⟨rfl,rfl⟩
 case rest=>
 obtain⟨rfl,rfl⟩:=hcut;clear c1 c34 e1 e2
 go_upto_region 5 with fail
 go_cut [50] (fun s50 wx=>s50= .bool false/\ ∃n,wx=wc.drewN n)
 case first=>
  rcases HT.o with ⟨t1,t2,t4,t5⟩|⟨t1,t2,t3,t4,t5⟩|⟨t1,t2,t3,t4,t5,t6⟩
  all_goals
   go_quiet (first|(go_at_call 105;exact Calls.quiet_of_same (quiet_sym (HLF.o _ (HQ.o.drewN _))))|fail)
   go_wp2_with fail
   go_meet;exact⟨rfl,_,rfl⟩
 case rest=>
 obtain⟨rfl,nq,hw2⟩:=hcut;have HQ2:=HQ.o.drewN nq;rw[<-hw2]at HQ2;clear hw2 c0 c2 c3;obtain⟨c0,c1,c2⟩:=HQ2.bx.q3;have cm:=(HQ2.dk.cell (1+m)).trans (dkC_now hld m hm);have hDl:=HQ2.dk.lt;have HQ3:=Lh HQ2;clear HQ HLF HQ2
 go_upto_region 7 with fail
 go_cut [71] (fun s71 wx=>s71= .bool false/\ChgR w wx D d (.slice la d.loose.length lc) #[.int .i64 k,.int .i64 m,.int .i64 n,.string s])
 case first=>
  rcases HT.o with ⟨t1,t2,t4,t5⟩|⟨t1,t2,t3,t4,t5⟩|⟨t1,t2,t3,t4,t5,t6⟩
  all_goals
   go_quiet (fail)
   go_wp2_with fail
   go_meet;exact⟨rfl,HQ3.o.drewN _⟩
 case rest=>
  obtain⟨rfl,hq3⟩:=hcut;clear c0 c1 c2 cm hDl HT HQ3;have HOP:=Lh (rop_b wc D d _ hq3.dk hld hr1 hr2);have HX3:=Lh hq3.bx;have HB3:=Lh hq3.below;unfold px at HOP;clear hq3;by_cases h0:d.op.2=0
  ·rw[h0]at HOP;have HE:Hd (d.change c=({d.op.1 with now:=c.does d.op.1.now,loose:=d.op.1.loose++ [c]},0)):=by show _=_;unfold Dk.change;rw[if_pos h0]
   clear h0;generalize d.op.1=d1 at*;obtain⟨s0,s1,s2,s3⟩:=hsm;rw[<-s1]at hlL HMD;have HS3:=Lh s3;clear s0 s1 s2 s3;have HO:=Lh hlen1;generalize c.does d1.now=L at*;have HI1:Hd ((prog.info? 51).map (·.size)=some (d1.now.map Value.string).length):=by show _=_;rw[List.length_map,HO.o.n];exact files_sizeR
   have HI2:Hd ((prog.info? 51).map (·.size)=some (L.map Value.string).toArray.size):=by show _=_;rw[List.size_toArray,List.length_map,hlL];exact files_sizeR
   have HL16:=Lh hlL;clear hlL
   go_upto_region 12 with (first|(go_at_call 71;refine HOP.o.mono ?_;rintro e w4 ⟨rfl,hd,hf⟩))
   have hx:=(hf.block _ HX3.o.lt hneD).trans HX3.o;clear HOP;have HFR:=Lh ((Fr.of_new HB3.o).trans hf)
   go_cut [] (fun wx=>Blk wx w.heap.size 109 #[.int .i64 k,.int .i64 m,.int .i64 n,.string s]/\Blk wx D 54 (dkC {d1 with now:=L} (.slice la d.loose.length lc))/\Fr (· =D) w4 wx)
   case first=>
    replace hx:Blk w4.drew _ _ _:=hx;replace hd:Blk w4.drew _ _ _:=hd;replace hf:Fr (· =D) w4 w4.drew:=(Fr.refl _ _).drew;refine wp_region_held_drew (S:=(fun w'=>Blk w' w.heap.size 109 #[.int .i64 k,.int .i64 m,.int .i64 n,.string s])) (by kernel_rfl) ?_ (fun hHeld=>tk0 ?_)
    ·exact hx
    repeat' first
     |refine tkS 4 (by decide+kernel) (by decide+kernel) ?_
     |refine tkS 9 (by decide+kernel) (by decide+kernel) ?_
     |refine tkS 12 (by decide+kernel) (by decide+kernel) ?_
     |refine tkN ?_
     |(refine tkX ?_;try simp only[Act.put,tkA,tkB,tkC,tkD,tkE,tkF])
     |(refine tkt (v:=?_) (by decide+kernel) rfl (by rfl) (fun _ _ _ h=>h) (by assumption) ?_ ?_;rotate_left;(· intro w' hSw;(try dsimp only at hSw);obtain⟨z0,z1,z2,z3⟩:=hSw.q4;clear hSw;go_simp;(try with_reducible rfl));try simp only[Act.put,tkA,tkB,tkC,tkD,tkE,tkF])
     |refine tkM ?_
     |refine tkZ ?_
     |refine tkB1 ?_
     |refine brN ?_
     |exact brE
     |refine brc rfl (fun K hK=>?_) ?_
     |(replace hK:=hK;refine opD 81 (by decide+kernel) ?_;refine step_wp (by rfl) (wp_load_mid 51 (.tmp 80) (by rfl) D 1 (by rfl) _ _ (dk_range_now hd HO.o) underlying51 rfl HI1.o ?_);refine hK.out _ _ ?_ (fun hHeld=>?_);(· exact hx);clear hK K;try simp only[Act.put,tkA,tkB,tkC,tkD,tkE,tkF])
     |(replace hK:=hK;refine opD 86 (by decide+kernel) ?_;go_simp;go_at_call 52;refine(HMD.o _).mono ?_;rintro e w5 ⟨rfl,hb5⟩;replace hx:=hx.below hb5 hx.lt;replace hd:=hd.below hb5 hd.lt;replace hf:=hf.trans (Fr.of_new hb5);refine hK.out _ _ ?_ (fun hHeld=>?_);(· exact hx);clear hK K;try simp only[Act.put,tkA,tkB,tkC,tkD,tkE,tkF])
     |(replace hK:=hK;refine opIs 2 (by decide+kernel) ?_;have hT:=dk_there hd HO.o 1 16 (by omega);refine step_wp (by rfl) (wp_store_mid 51 (.tmp 88) (.tmp 86) (by rfl) D 1 (L.map Value.string).toArray (by rfl) (by rfl) (by simpa[HL16.o]using hT) HI2.o (strs_one L) ?_);replace hd:=dk_store_now hd HO.o HL16.o;replace hf:=hf.setCells D (L.map Value.string) 1 _ (.inl rfl);replace hx:Blk _ _ _ _:=(setCells_other D hneD (L.map Value.string) 1 _).trans hx;refine hK.out _ _ ?_ (fun hHeld=>?_);(· exact hx);clear hK K;try simp only[Act.put,tkA,tkB,tkC,tkD,tkE,tkF])
     |fail
    go_wp2_with fail
    go_meet;exact⟨hx,hd,hf⟩
   case rest=>
   obtain⟨hx,hd,hf⟩:=hcut;have HI6:Hd (∀(W':World) (a:Option Addr) (c':Nat),Blk W' D 54 (dkC {d1 with now:=L} (.slice a (d.loose.length+1) c'))->Fr (· =D) w W'->W'.ownsRow w.heap.size 109 4 (.slice a (d.loose.length+1) c') (d.loose.length+1) (chsL d.loose++ [.int .i64 k,.int .i64 m,.int .i64 n,.string s])->RDkTo w W' M D (d.change c).1):=fun W' a c' g1 g2 g3=>by
    have hi:=HI.o;rw[HE.o]at hi⊢;rw[HS3.o]at hi⊢;refine HH.o.renew (d':={d1 with now:=L,loose:=d.loose++ [c]}) (lv:= .slice a (d.loose.length+1) c') hi g1 g2 ?_;show SlP W' _ 4 _ (d.loose++ [c]).length _;rw[HCL.o,la0];exact SlP.of_own g3
   have HE0:Hd ((d.change c).2=0):=by show _=_;rw[HE.o]
   replace HFR:=Lh (HFR.o.trans hf);have hlen6:Dk.Len {d1 with now:=L}:=⟨HL16.o,HO.o.s⟩;have hwz:=HFR.o.size;have hDz:=hd.lt;have hxz:=hx.lt;clear HI HE HMD HI1 HI2 hf HCL HL HH HB3 HX3 HOPI hr1 hr2 hlen1 HO HS3;have HNW2:Hd (∀W',Below wc.heap.size wc W'->(∀p,la=some p-> ∀j u,(chsL d.loose)[j]? =some u->W'.cell? (p.add j)=some u)/\(la=none->d.loose.length=0)):=fun W' q=>HNS.o W' fun b k=>(q.block b (lt1 (HML.o b k.1) hwz)).trans (HFR.o.block b (HML.o b k.1) k.2);have HD6:=Lh hd;obtain⟨i0,ii,iz0,iz1,iz2⟩:=info_parts info_rchg;have HX6:=Lh hx;have HSX:Hd (∀W',Below wc.heap.size wc W'->Blk W' w.heap.size 109 #[.int .i64 k,.int .i64 m,.int .i64 n,.string s]/\W'.cell? ⟨D,33,none⟩=some (.slice la d.loose.length lc)):=fun W' q=>⟨HX6.o.below q hxz,((HD6.o.below q hDz).cell 33).trans (dkC_33 hlen6)⟩;have hb:=(Below.refl wc.heap.size wc).drew;have hone:=chsL_one d.loose;clear hd hx
   go_upto_region 13 with fail
   refine tl0 (S:=(fun w'=>Blk w' w.heap.size 109 #[.int .i64 k,.int .i64 m,.int .i64 n,.string s]/\w'.cell? ⟨D,33,none⟩=some (.slice la d.loose.length lc))) (L:=12) (by kernel_rfl) (HSX.o _ hb) (fun hHeld=>?_)
   repeat' first
    |refine tlS 1 (by decide+kernel) (by decide+kernel) ?_
    |refine tlS 6 (by decide+kernel) (by decide+kernel) ?_
    |refine tlS 8 (by decide+kernel) (by decide+kernel) ?_
    |refine tlS 9 (by decide+kernel) (by decide+kernel) ?_
    |refine tlS 12 (by decide+kernel) (by decide+kernel) ?_
    |refine tln (by decide+kernel) ?_
    |(refine tls (by decide+kernel) rfl (by rfl) (fun _ _ _ h=>h) (by assumption) ?_;try simp only[Act.put,tkA,tkB,tkC,tkD,tkE,tkF])
    |(refine tlt (v:=?_) (by decide+kernel) rfl (by rfl) (fun _ _ _ h=>h) (by assumption) ?_ ?_;rotate_left;(· intro w' hSw;(try dsimp only at hSw);have c33:=hSw.2;obtain⟨z0,z1,z2,z3⟩:=hSw.1.q4;clear hSw;go_simp;(try with_reducible rfl));try simp only[Act.put,tkA,tkB,tkC,tkD,tkE,tkF])
    |refine tlm (by decide+kernel) ?_
    |refine tld (by decide+kernel) ?_
    |refine tlb (by decide+kernel) ?_
    |refine bln (by decide+kernel) ?_
    |exact ble (by decide+kernel)
    |refine blc rfl (fun K hK=>?_) ?_
    |(replace hK:=hK;refine opD 90 (by decide+kernel) ?_;go_simp;have hA:=own_newE hb hb.size 109 4;(try simp only[alloc_sz]at hA);replace hb:=hb.alloc hb.size (.cells #[] 109);(try replace hC:=hC.alloc (.cells #[] 109));refine hK.out _ _ (fun _=>HSX.o _ hb) (fun hHeld=>?_);replace hHeld:=hHeld (by decide);clear hK K;try simp only[Act.put,tkA,tkB,tkC,tkD,tkE,tkF])
    |(replace hK:=hK;refine opD 97 (by decide+kernel) ?_;go_simp;have hC:=new_blkB hb #[.int .i64 k,.int .i64 m,.int .i64 n,.string s] 109;(try simp only[alloc_sz]at hC);replace hb:=hb.alloc hb.size (.cells #[.int .i64 k,.int .i64 m,.int .i64 n,.string s] 109);(try replace hA:=own_alloc hA (.cells #[.int .i64 k,.int .i64 m,.int .i64 n,.string s] 109));(try replace own1:=own_alloc own1 (.cells #[.int .i64 k,.int .i64 m,.int .i64 n,.string s] 109));refine hK.out _ _ (fun _=>HSX.o _ hb) (fun hHeld=>?_);replace hHeld:=hHeld (by decide);clear hK K;try simp only[Act.put,tkA,tkB,tkC,tkD,tkE,tkF])
    |(replace hK:=hK;refine opD 95 (by decide+kernel) ?_;refine step_app 40 (by rfl) (.tmp 90) (.tmp 94) (by rfl) underlying52 ii iz0 iz1 iz2 rfl (by decide) (by rfl) hA (by rfl) HLC.o (HNW2.o _ hb).1 hone (HNW2.o _ hb).2 (by unfold maxLen;omega) (by omega) (by first|exact hb.size|simpa using hb.size) ?_;intro a1 c1 w1 own1 hg1;simp only[Nat.zero_add,List.nil_append]at own1⊢;(try replace hC:=hC.grown hg1 (by simp[Value.ownBlock]));replace hb:=hb.grown hg1 hb.size (own_ge hA);clear hA hg1;refine hK.out _ _ (fun _=>HSX.o _ hb) (fun hHeld=>?_);replace hHeld:=hHeld (by decide);clear hK K;try simp only[Act.put,tkA,tkB,tkC,tkD,tkE,tkF])
    |(replace hK:=hK;refine opD 98 (by decide+kernel) ?_;refine step_app 40 (by rfl) (.tmp 95) (.tmp 97) (by rfl) underlying52 ii iz0 iz1 iz2 rfl (by decide) (by rfl) own1 (by rfl) (news:=(#[.int .i64 k,.int .i64 m,.int .i64 n,.string s]).toList) rfl (fun p hp=>by cases hp;exact World.news_of_block hC) (by simp[Value.oneCell']) (by simp) (by unfold maxLen;omega) (by omega) (by first|exact hb.size|simpa using hb.size) ?_;intro a2 c2 w2 own2 hg2;replace hb:=hb.grown hg2 hb.size (own_ge own1);clear own1 hg2 hC;refine hK.out _ _ (fun _=>HSX.o _ hb) (fun hHeld=>?_);replace hHeld:=hHeld (by decide);clear hK K;try simp only[Act.put,tkA,tkB,tkC,tkD,tkE,tkF])
    |(replace hK:=hK;refine opIs 2 (by decide+kernel) ?_;have f33:=(HD6.o.below hb hDz).free 33;have c33:=((HD6.o.below hb hDz).cell 33).trans (dkC_33 hlen6);go_simp;clear c33 f33;refine hK.out _ _ (fun h=>absurd rfl h) (fun hHeld=>?_);clear hHeld hK K;try simp only[Act.put,tkA,tkB,tkC,tkD,tkE,tkF])
    |fail
   all_goals
    go_wp2_with fail
    go_ret;rw[HE0.o];refine⟨rfl,HI6.o _ a2 c2 ?_ ((HFR.o.trans (Fr.of_new hb)).setCell (p:=⟨D,33,none⟩) (.inl rfl) _) ?_⟩
    ·have:=(HD6.o.below hb hDz).set 33 (.slice a2 (d.loose.length+1) c2);rw[dkC_set_33 hlen6]at this;exact this
    ·exact own_base_le (own_other own2 (p:=⟨D,33,none⟩) hDz _) hwz
  ·have h1:(d.op.2 !=0)=true:=by simpa using h0
   have HE:Hd (d.change c=d.op):=by show _=_;unfold Dk.change;rw[if_neg h0]
   clear h0
   go_wp2_with (first|(go_at_call 71;refine HOP.o.mono ?_;rintro e w4 ⟨rfl,hb4,hf4⟩))
   go_ret;rw[HE.o];exact⟨rfl,HH.o.set HOPI.o hb4 ((Fr.of_new HB3.o).trans hf4) (by rw[hsm.2.2.2];exact HL.o)⟩
