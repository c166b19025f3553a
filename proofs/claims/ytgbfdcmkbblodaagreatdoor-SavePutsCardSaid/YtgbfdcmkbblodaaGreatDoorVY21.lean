/- Parts. -/
import Derived.Test.YtgbfdcmkbblodaaGreatDoorVY18
import Derived.Test.YtgbfdcmkbblodaaGreatDoorVY20
namespace Go.Proofs.YtgbfdcmkbblodaaGreatDoor
open Go.RowKit
set_option linter.unusedVariables false
set_option linter.unusedSimpArgs false
set_option maxRecDepth 100000
set_option maxHeartbeats 16000000
open Tryz
theorem num_bstr (l:List UInt8):Rd.num ⟨bstr l,0⟩=((tkGo 0 0 l).1,⟨bstr (l.drop (tkGo 0 0 l).2.1.toNat),(tkGo 0 0 l).2.2⟩):=by
 unfold Rd.num Rd.cut;rw[if_pos rfl];dsimp only;rw[takeS_bstr,cut_bstr]
structure Rds {α:Type} (f:Rd->α×Rd) (B:List UInt8) (a:α):Prop where
 ok: ∀rest:List UInt8,f ⟨bstr (B++rest),0⟩=(a,⟨bstr rest,0⟩)
 short: ∀k,k<B.length->(f ⟨bstr (B.take k),0⟩).2.e=20
def Stk {α:Type} (f:Rd->α×Rd):Prop:= ∀p,p.e≠0->(f p).2.e=p.e
def Bck {α:Type} (f:Rd->α×Rd) (b:α->List UInt8) (Q:α->Prop):Prop:=
 ∀p,(f p).2.e=0->p.e=0/\Q (f p).1/\p.s.data.toList=b (f p).1++(f p).2.s.data.toList
def rdBnd {α β:Type} (f:Rd->α×Rd) (g:α->Rd->β×Rd):Rd->β×Rd:=fun p=>g (f p).1 (f p).2
def rdRet {α:Type} (a:α):Rd->α×Rd:=fun p=>(a,p)
theorem Rds.bnd {α β:Type} {f:Rd->α×Rd} {g:α->Rd->β×Rd} {B C:List UInt8} {a:α} {c:β} (h:Rds f B a) (k:Rds (g a) C c) (hs: ∀a,Stk (g a)):Rds (rdBnd f g) (B++C) c where
 ok rest:=by
  unfold rdBnd;rw[List.append_assoc,h.ok];exact k.ok rest
 short n hn:=by
  unfold rdBnd;by_cases hb:n<B.length
  ·rw[List.take_append_of_le_length (Nat.le_of_lt hb)];have e:=h.short n hb;rw[hs _ _ (by rw[e];decide)];exact e
  ·rw[List.take_append,List.take_of_length_le (by omega:B.length<=n),h.ok];exact k.short _ (by rw[la0]at hn;omega)
theorem Rds.ret {α:Type} (a:α):Rds (rdRet a) [] a:=⟨fun rest=>rfl,fun k hk=>absurd hk (Nat.not_lt_zero _)⟩
theorem Stk.bnd {α β:Type} {f:Rd->α×Rd} {g:α->Rd->β×Rd} (h:Stk f) (k: ∀a,Stk (g a)):Stk (rdBnd f g):=fun p hp=>by
 unfold rdBnd
 have e:=h p hp
 rw[k _ _ (by rw[e];exact hp)]
 exact e
theorem Stk.ret {α:Type} (a:α):Stk (rdRet a):=fun p hp=>rfl
theorem Rd.fail_of {p:Rd} (h:p.e≠0) (why:Int):p.fail why=p:=by unfold Rd.fail;rw[if_neg h]
theorem Rd.num_err {p:Rd} (h:p.e≠0):p.num=(0,p):=by unfold Rd.num;rw[if_neg h]
theorem num_stk:Stk Rd.num:=fun p hp=>by rw[Rd.num_err hp]
theorem many_stk (m:Int):Stk (Rd.many m):=fun p hp=>by
 unfold Rd.many
 rw[Rd.num_err hp]
 split
 ·show(p.fail 3).e=p.e;rw[Rd.fail_of hp]
 ·rfl
theorem small_stk:Stk Rd.small:=fun p hp=>by
 unfold Rd.small
 rw[Rd.num_err hp]
 dsimp only
 split
 ·rw[Rd.fail_of hp]
 ·rfl
theorem text_stk:Stk Rd.text:=fun p hp=>by
 unfold Rd.text
 rw[if_neg hp]
theorem reps_stk {α:Type} {f:Rd->α×Rd} (h:Stk f): ∀m,Stk (reps f m)
 |0,p,hp=>rfl
 |m+1,p,hp=>by
  simp only[reps]
  have e:=h p hp
  rw[reps_stk h m _ (by rw[e];exact hp)]
  exact e
theorem ex_succ (k:Nat):Rd.ex (k+1)=rdBnd Rd.small fun o=>rdBnd Rd.num fun n=>rdBnd (Rd.many 3) fun m=>rdBnd (reps (Rd.ex k) m.toNat) fun l=>rdRet (.mk o n l):=rfl
theorem ex_stk: ∀k,Stk (Rd.ex k)
 |0=>fun p hp=>by show(p.fail 3).e=_;rw[Rd.fail_of hp]
 |k+1=>by
  rw[ex_succ]
  exact small_stk.bnd fun _=>num_stk.bnd fun _=>(many_stk 3).bnd fun _=>(reps_stk (ex_stk k) _).bnd fun _=>Stk.ret _
theorem nd_eq:Rd.nd=rdBnd Rd.text fun u=>rdBnd Rd.small fun kd=>rdBnd Rd.num fun n=>rdBnd (Rd.many 12) fun m=>rdBnd (reps Rd.num m.toNat) fun ins=>rdBnd (Rd.ex 17) fun x=>rdRet (⟨u,kd,ins,x,n⟩:Nd):=rfl
theorem nd_stk:Stk Rd.nd:=by
 rw[nd_eq];exact text_stk.bnd fun _=>small_stk.bnd fun _=>num_stk.bnd fun _=>(many_stk 12).bnd fun _=>(reps_stk num_stk _).bnd fun _=>(ex_stk 17).bnd fun _=>Stk.ret _
theorem takeNds_stk: ∀m,Stk (takeNds m)
 |0,p,hp=>rfl
 |m+1,p,hp=>by
  simp only[takeNds]
  have e:=nd_stk p hp
  rw[if_pos (by rw[e];exact hp)]
  exact e
theorem num_rds (n:Int) (h1: -9223372036854775808<=n) (h2:n<=9223372036854775807):Rds Rd.num (putN n) n where
 ok rest:=by
  rw[num_bstr,take_put n h1 h2 rest];simp
 short k hk:=by
  rw[num_bstr,take_short n h1 h2 k hk]
theorem many_rds (m n:Int) (h0:0<=n) (h1:n<=m) (hm:m<=1000):Rds (Rd.many m) (putN n) n where
 ok rest:=by
  unfold Rd.many;rw[(num_rds n (by omega) (by omega)).ok rest,if_neg (by dsimp only;omega)]
 short k hk:=by
  have e:=(num_rds n (by omega) (by omega)).short k hk;unfold Rd.many;split
  ·show(Rd.fail _ 3).e=20;rw[Rd.fail_of (by rw[e];decide)];exact e
  ·exact e
theorem small_rds (n:Int) (h0:0<=n) (h1:n<=255):Rds Rd.small (putN n) n where
 ok rest:=by
  unfold Rd.small;rw[(num_rds n (by omega) (by omega)).ok rest];dsimp only;rw[if_neg (by omega),Int.emod_eq_of_lt h0 (by omega)]
 short k hk:=by
  have e:=(num_rds n (by omega) (by omega)).short k hk;unfold Rd.small;dsimp only;split
  ·rw[Rd.fail_of (by rw[e];decide)];exact e
  ·exact e
theorem text_bstr (l:List UInt8):Rd.text ⟨bstr l,0⟩=((takeT (bstr l)).1,⟨bstr (l.drop (takeT (bstr l)).2.1.toNat),(takeT (bstr l)).2.2⟩):=by
 unfold Rd.text Rd.cut;rw[if_pos rfl];dsimp only;rw[cut_bstr]
theorem text_rds (u:ByteArray) (hu:u.size<=65536):Rds Rd.text (txtL u) u where
 ok rest:=by
  have hl:=Lib.size_eq u;have e:takeS (bstr (txtL u++rest))=((u.size:Int),((putN (u.size:Int)).length:Int),0):=by
   rw[takeS_bstr];unfold txtL;rw[List.append_assoc];exact take_put _ (by omega) (by omega) _
  have hz:(bstr (txtL u++rest)).size=(putN (u.size:Int)).length+u.size+rest.length:=by
   rw[bstr_size];unfold txtL;simp only[la0];omega
  have e2:takeT (bstr (txtL u++rest))=(u,(((putN (u.size:Int)).length+u.size:Nat):Int),0):=by
   unfold takeT;rw[e];dsimp only;rw[if_neg (by simp),if_neg (by omega),if_neg (by omega),if_neg (by omega)];refine Prod.ext ?_ (Prod.ext ?_ rfl)
   ·dsimp only;rw[<-bstr_of (ByteArray.extract _ _ _),Int.toNat_natCast,Int.toNat_natCast,extract_list,bstr_list];unfold txtL;rw[List.append_assoc,List.drop_left,List.take_left' hl.symm,bstr_of]
   ·dsimp only;omega
  rw[text_bstr,e2];dsimp only;rw[Int.toNat_natCast];unfold txtL;rw[List.drop_left' (by rw[la0,hl])]
 short k hk:=by
  have hl:=Lib.size_eq u;rw[text_bstr];by_cases hb:k<(putN (u.size:Int)).length
  ·have e:takeS (bstr ((txtL u).take k))=(0,0,20):=by
    rw[takeS_bstr];unfold txtL;rw[List.take_append_of_le_length (Nat.le_of_lt hb)];exact take_short _ (by omega) (by omega) k hb
   unfold takeT;rw[e];rfl
  ·have hk2:k<(putN (u.size:Int)).length+u.data.toList.length:=by unfold txtL at hk;rw[la0]at hk;exact hk
   have e:takeS (bstr ((txtL u).take k))=((u.size:Int),((putN (u.size:Int)).length:Int),0):=by
    rw[takeS_bstr];unfold txtL;rw[List.take_append,List.take_of_length_le (by omega:(putN (u.size:Int)).length<=k)];exact take_put _ (by omega) (by omega) _
   have hz:(bstr ((txtL u).take k)).size=k:=by
    rw[bstr_size,List.length_take];omega
   unfold takeT;rw[e,hz];dsimp only;rw[if_neg (by simp),if_neg (by omega),if_neg (by omega),if_pos (by omega)]
theorem reps_rds {α:Type} {f:Rd->α×Rd} {b:α->List UInt8} (hs:Stk f): ∀(l:List α),(∀x∈l,Rds f (b x) x)->Rds (reps f l.length) (l.flatMap b) l
 | [],_=>Rds.ret []
 |x::l,h=>by
  have e:reps f (x::l).length=rdBnd f fun y=>rdBnd (reps f l.length) fun m=>rdRet (y::m):=rfl
  have e2:(x::l).flatMap b=b x++(l.flatMap b++ []):=by simp
  rw[e,e2]
  exact(h x (by simp)).bnd ((reps_rds hs l (fun y hy=>h y (by simp[hy]))).bnd (Rds.ret _) fun _=>Stk.ret _) fun _=>(reps_stk hs _).bnd fun _=>Stk.ret _
def fitE:Nat->Ex->Prop
 |0,_=>False
 |k+1,x=>x.args.length<=3/\ ∀a∈x.args,fitE k a
theorem shape_args {x:Ex} (h:shapeB x=true):x.args.length<=3:=by
 have h1:manyN x.op=x.args.length/\0<=x.n/\(x.n=0\/x.op=1):=of_decide_eq_true h;have:=h1.1;unfold manyN at this
 repeat' split at this
 all_goals omega
theorem fit_of_may: ∀(k:Nat) (x:Ex),mayB k x=true->fitE (k+1) x
 |0,x,h=>by simp[mayB]at h
 |k+1,x,h=>by
  simp only[mayB,Bool.and_eq_true,List.all_eq_true]at h
  exact⟨shape_args h.1,fun a ha=>fit_of_may k a (h.2 a ha)⟩
theorem Exs.by_flat: ∀l:List Ex,Exs.by l=l.flatMap Ex.by
 | []=>rfl
 |x::l=>by simp only[Exs.by,List.flatMap_cons];rw[Exs.by_flat l]
theorem Exs.ok_mem: ∀ {l:List Ex},Exs.ok l-> ∀x∈l,x.ok
 |y::l,h,x,hx=>by
  rcases List.mem_cons.1 hx with rfl|hx
  ·exact h.1
  ·exact Exs.ok_mem h.2 x hx
theorem ex_rds: ∀(k:Nat) (x:Ex),fitE k x->x.ok->Rds (Rd.ex k) x.by x
 |0,x,h,_=>h.elim
 |k+1,x,h,hok=>by
  obtain⟨h1,h2⟩:=h
  obtain⟨o1,o2,o3,o4,o5⟩:=Ex.okC hok
  obtain⟨o,n,l⟩:=x
  have e2:(Ex.mk o n l).by=putN o++(putN n++(putN (l.length:Int)++(l.flatMap Ex.by++ []))):=by
   simp only[Ex.by,putL,List.flatMap_cons,List.flatMap_nil,List.append_nil,List.append_assoc,Exs.by_flat]
  rw[ex_succ,e2];simp only[Ex.args]at h1 h2 o5;refine(small_rds o o1 o2).bnd ((num_rds n o3 o4).bnd ((many_rds 3 (l.length:Int) (by omega) (by omega) (by omega)).bnd (Rds.bnd (a:=l) ?_ (Rds.ret _) fun _=>Stk.ret _) ?_) ?_) ?_
  ·rw[Int.toNat_natCast];exact reps_rds (ex_stk k) l fun a ha=>ex_rds k a (h2 a ha) (Exs.ok_mem o5 a ha)
  ·exact fun _=>(reps_stk (ex_stk k) _).bnd fun _=>Stk.ret _
  ·exact fun _=>(many_stk 3).bnd fun _=>(reps_stk (ex_stk k) _).bnd fun _=>Stk.ret _
  ·exact fun _=>num_stk.bnd fun _=>(many_stk 3).bnd fun _=>(reps_stk (ex_stk k) _).bnd fun _=>Stk.ret _
structure NdFit (d:Nd):Prop where
 uid:d.uid.size<=65536
 ins:d.ins.length<=12
 x:fitE 17 d.x
 ok:d.ok
theorem nd_rds (d:Nd) (h:NdFit d):Rds Rd.nd d.by d:=by
 obtain⟨h1,h2,h3,o1,o2,o3,o4,o5,o6⟩:=h;obtain⟨u,kd,ins,x,n⟩:=d;dsimp only at*;have e2:(Nd.mk u kd ins x n).by=txtL u++(putN kd++(putN n++(putN (ins.length:Int)++(ins.flatMap putN++(x.by++ []))))):=by
  simp only[Nd.by,putL,List.flatMap_cons,List.flatMap_nil,List.append_nil,List.append_assoc]
 rw[nd_eq,e2];refine(text_rds u h1).bnd ((small_rds kd o1 o2).bnd ((num_rds n o5 o6).bnd ((many_rds 12 (ins.length:Int) (by omega) (by omega) (by omega)).bnd (Rds.bnd (a:=ins) ?_ ((ex_rds 17 x h3 o4).bnd (Rds.ret _) fun _=>Stk.ret _) ?_) ?_) ?_) ?_) ?_
 ·rw[Int.toNat_natCast];exact reps_rds num_stk ins fun z hz=>num_rds z (o3 z hz).1 (o3 z hz).2
 ·exact fun _=>(ex_stk 17).bnd fun _=>Stk.ret _
 ·exact fun _=>(reps_stk num_stk _).bnd fun _=>(ex_stk 17).bnd fun _=>Stk.ret _
 ·exact fun _=>(many_stk 12).bnd fun _=>(reps_stk num_stk _).bnd fun _=>(ex_stk 17).bnd fun _=>Stk.ret _
 ·exact fun _=>num_stk.bnd fun _=>(many_stk 12).bnd fun _=>(reps_stk num_stk _).bnd fun _=>(ex_stk 17).bnd fun _=>Stk.ret _
 ·exact fun _=>small_stk.bnd fun _=>num_stk.bnd fun _=>(many_stk 12).bnd fun _=>(reps_stk num_stk _).bnd fun _=>(ex_stk 17).bnd fun _=>Stk.ret _
theorem takeNds_rds: ∀(l:List Nd),(∀d∈l,NdFit d)->Rds (takeNds l.length) (nodesBy l) l
 | [],_=>⟨fun rest=>rfl,fun k hk=>absurd hk (Nat.not_lt_zero _)⟩
 |d::l,h=>by
  have h1:=nd_rds d (h d (by simp))
  have h2:=takeNds_rds l (fun e he=>h e (by simp[he]))
  have e:nodesBy (d::l)=d.by++nodesBy l:=rfl
  refine⟨fun rest=>?_,fun k hk=>?_⟩
  ·rw[e,List.append_assoc,List.length_cons]
   simp only[takeNds]
   rw[h1.ok,if_neg (by simp)]
   dsimp only
   rw[h2.ok]
  ·rw[e]at hk⊢
   rw[List.length_cons]
   simp only[takeNds]
   by_cases hb:k<d.by.length
   ·rw[List.take_append_of_le_length (Nat.le_of_lt hb)]
    have e:=h1.short k hb
    rw[if_pos (by rw[e];decide)]
    exact e
   ·rw[List.take_append,List.take_of_length_le (by omega:d.by.length<=k),h1.ok,if_neg (by simp)]
    exact h2.short _ (by rw[la0]at hk;omega)
theorem num_bck:Bck Rd.num putN (fun n=> -9223372036854775808<=n/\n<=9223372036854775807):=fun p h=>by
 by_cases hp:p.e=0
 ·unfold Rd.num at h⊢
  rw[if_pos hp]at h⊢
  dsimp only at h⊢
  have e:tkGo 0 0 p.s.data.toList=((takeS p.s).1,(takeS p.s).2.1,0):=by rw[<-h];rfl
  obtain⟨k,h1,h2,_,h4,h5,h6⟩:=take_back e
  refine⟨hp,⟨h5,h6⟩,?_⟩
  unfold Rd.cut
  rw[h1,Int.toNat_natCast,cut_list,<-h4,List.take_append_drop]
 ·rw[Rd.num_err hp]at h
  exact absurd h hp
theorem fail_pos {p:Rd} {why:Int} (hw:why≠0):(p.fail why).e≠0:=by
 unfold Rd.fail;split
 ·exact hw
 ·assumption
theorem many_bck (m:Int):Bck (Rd.many m) putN (fun n=>0<=n/\n<=m):=fun p h=>by
 unfold Rd.many at h⊢
 split at h
 ·exact absurd h (fail_pos (by decide))
 ·rename_i hc
  rw[if_neg hc]
  obtain⟨h0,_,h2⟩:=num_bck p h
  exact⟨h0,⟨by omega,by omega⟩,h2⟩
theorem small_bck:Bck Rd.small putN (fun n=>0<=n/\n<=255):=fun p h=>by
 unfold Rd.small at h⊢
 dsimp only at h⊢
 split at h
 ·exact absurd h (fail_pos (by decide))
 ·rename_i hc
  rw[if_neg hc]
  obtain⟨h0,_,h2⟩:=num_bck p h
  have e:p.num.1%256=p.num.1:=Int.emod_eq_of_lt (by omega) (by omega)
  rw[e]
  exact⟨h0,⟨by omega,by omega⟩,h2⟩
theorem text_bck:Bck Rd.text txtL (fun u=>u.size<=65536):=fun p h=>by
 by_cases hp:p.e=0
 ·unfold Rd.text at h⊢
  rw[if_pos hp]at h⊢
  dsimp only at h⊢
  unfold takeT at h⊢
  by_cases e0:(takeS p.s).2.2=0
  ·rw[if_neg (by simpa using e0)]at h⊢
   by_cases e1:(takeS p.s).1<0
   ·rw[if_pos e1]at h;exact absurd h (by decide)
   rw[if_neg e1]at h⊢
   by_cases e2:65536<(takeS p.s).1
   ·rw[if_pos e2]at h;exact absurd h (by decide)
   rw[if_neg e2]at h⊢
   by_cases e3:(p.s.size:Int)<(takeS p.s).2.1+(takeS p.s).1
   ·rw[if_pos e3]at h;exact absurd h (by decide)
   rw[if_neg e3]
   dsimp only
   have e:tkGo 0 0 p.s.data.toList=((takeS p.s).1,(takeS p.s).2.1,0):=by rw[<-e0];rfl
   obtain⟨k,h1,h2,_,h4,h5,h6⟩:=take_back e
   obtain⟨n,hn⟩: ∃n:Nat,(takeS p.s).1=(n:Int):=⟨(takeS p.s).1.toNat,by omega⟩
   rw[hn]at h4
   rw[h1,hn]at e3⊢
   have hl:=Lib.size_eq p.s
   have hz:(p.s.extract k (k+n)).size=n:=by rw[ByteArray.size_extract];omega
   refine⟨hp,?_,?_⟩
   ·rw[Int.toNat_natCast,Int.toNat_natCast,hz];omega
   ·unfold Rd.cut txtL
    rw[Int.toNat_natCast,Int.toNat_natCast,hz,extract_list,<-h4,show((k:Int)+(n:Int)).toNat=k+n by omega,cut_list,List.append_assoc,<-List.drop_drop,List.take_append_drop,List.take_append_drop]
  ·rw[if_pos e0]at h
   exact absurd h e0
 ·unfold Rd.text at h
  rw[if_neg hp]at h
  exact absurd h hp
theorem reps_bck {α:Type} {f:Rd->α×Rd} {b:α->List UInt8} {Q:α->Prop} (h:Bck f b Q): ∀m,Bck (reps f m) (fun l=>l.flatMap b) (fun l=>l.length=m/\ ∀x∈l,Q x)
 |0,p,hp=>⟨hp,⟨rfl,fun x hx=>by cases hx⟩,rfl⟩
 |m+1,p,hp=>by
  simp only[reps]at hp⊢
  obtain⟨h1,⟨h2,h3⟩,h4⟩:=reps_bck h m _ hp
  obtain⟨g1,g2,g3⟩:=h p h1
  refine⟨g1,⟨by rw[List.length_cons,h2],fun x hx=>?_⟩,?_⟩
  ·rcases List.mem_cons.1 hx with rfl|hx
   ·exact g2
   ·exact h3 x hx
  ·rw[g3,h4,List.flatMap_cons,List.append_assoc]
theorem exs_ok_of: ∀ {l:List Ex},(∀x∈l,x.ok)->Exs.ok l
 | [],_=>trivial
 |y::l,h=>⟨h y (by simp),exs_ok_of fun x hx=>h x (by simp[hx])⟩
theorem ex_bck: ∀k,Bck (Rd.ex k) Ex.by Ex.ok
 |0,p,h=>absurd h (fail_pos (by decide))
 |k+1,p,h=>by
  simp only[Rd.ex]at h⊢
  obtain⟨h3,⟨q3,r3⟩,e3⟩:=reps_bck (ex_bck k) _ _ h
  obtain⟨h2,q2,e2⟩:=many_bck 3 _ h3
  obtain⟨h1,q1,e1⟩:=num_bck _ h2
  obtain⟨h0,q0,e0⟩:=small_bck _ h1
  refine⟨h0,⟨q0.1,q0.2,q1.1,q1.2,exs_ok_of r3⟩,?_⟩
  have hl:(((reps (Rd.ex k) (p.small.2.num.2.many 3).1.toNat (p.small.2.num.2.many 3).2).1.length:Nat):Int)=(p.small.2.num.2.many 3).1:=by rw[q3];omega
  rw[e0,e1,e2,e3]
  simp only[Ex.by,putL,List.flatMap_cons,List.flatMap_nil,List.append_nil,List.append_assoc,Exs.by_flat,hl]
theorem nd_bck:Bck Rd.nd Nd.by (fun d=>d.ok/\d.uid.size<=65536):=fun p h=>by
 have h':(Rd.ex 17 (reps Rd.num p.nd3.1.toNat p.nd3.2).2).2.e=0:=h
 obtain⟨h5,q5,e5⟩:=ex_bck 17 _ h'
 obtain⟨h4,⟨q4,r4⟩,e4⟩:=reps_bck num_bck _ _ h5
 obtain⟨h3,q3,e3⟩:=many_bck 12 _ h4
 obtain⟨h2,q2,e2⟩:=num_bck _ h3
 obtain⟨h1,q1,e1⟩:=small_bck _ h2
 obtain⟨h0,q0,e0⟩:=text_bck _ h1
 refine⟨h0,⟨⟨q1.1,q1.2,r4,q5,q2.1,q2.2⟩,q0⟩,?_⟩
 have hl:(((reps Rd.num p.nd3.1.toNat p.nd3.2).1.length:Nat):Int)=p.nd3.1:=by rw[q4];have:=q3.1;exact Int.toNat_of_nonneg this
 have e3':p.text.2.small.2.num.2.s.data.toList=putN p.nd3.1++p.nd3.2.s.data.toList:=e3
 rw[e0,e1,e2,e3',e4,e5]
 show _=Nd.by ⟨p.text.1,p.text.2.small.1,(reps Rd.num p.nd3.1.toNat p.nd3.2).1,(Rd.ex 17 (reps Rd.num p.nd3.1.toNat p.nd3.2).2).1,p.text.2.small.2.num.1⟩++(Rd.ex 17 (reps Rd.num p.nd3.1.toNat p.nd3.2).2).2.s.data.toList
 simp only[Nd.by,putL,List.flatMap_cons,List.flatMap_nil,List.append_nil,List.append_assoc,hl]
theorem takeNds_bck: ∀m,Bck (takeNds m) nodesBy (fun l=>l.length=m/\ ∀d∈l,d.ok/\d.uid.size<=65536)
 |0,p,hp=>⟨hp,⟨rfl,fun x hx=>by cases hx⟩,rfl⟩
 |m+1,p,hp=>by
  simp only[takeNds]at hp⊢
  by_cases hn:p.nd.2.e=0
  ·rw[if_neg (by simpa using hn)]at hp⊢
   obtain⟨h1,⟨h2,h3⟩,h4⟩:=takeNds_bck m _ hp
   obtain⟨g1,g2,g3⟩:=nd_bck p h1
   refine⟨g1,⟨by rw[List.length_cons,h2],fun x hx=>?_⟩,?_⟩
   ·rcases List.mem_cons.1 hx with rfl|hx
    ·exact g2
    ·exact h3 x hx
   ·rw[g3,h4]
    show _=(p.nd.1::(takeNds m p.nd.2).1).flatMap Nd.by++_
    rw[List.flatMap_cons,List.append_assoc]
    rfl
  ·rw[if_pos hn]at hp
   exact absurd hp hn
def takeJ (s:ByteArray):Jb×Int:=
 let r:=Rd.jb s
 let p:=if r.2.s.size=0 then r.2 else r.2.fail 2
 let q:=if r.1.may.2=0 then p else p.fail 2
 if q.e=0 then(r.1,0)else(⟨0,[]⟩,q.e)
theorem jb_rds (j:Jb) (hok:j.ok) (hn:j.nodes.length<=12) (hf: ∀d∈j.nodes,NdFit d):
  (∀rest,Rd.jb (bstr (j.by++rest))=(j,⟨bstr rest,0⟩))/\ ∀k,k<j.by.length->(Rd.jb (bstr (j.by.take k))).2.e=20:=by
 have e: ∀s,Rd.jb s=rdBnd Rd.num (fun p=>rdBnd (Rd.many 12) fun m=>rdBnd (takeNds m.toNat) fun l=>rdRet (⟨p,l⟩:Jb)) ⟨s,0⟩:=fun s=>rfl;have e2:j.by=putN j.par++(putN (j.nodes.length:Int)++(nodesBy j.nodes++ [])):=by
  simp only[Jb.by,putL,List.flatMap_cons,List.flatMap_nil,List.append_nil,List.append_assoc]
 have h:Rds (rdBnd Rd.num fun p=>rdBnd (Rd.many 12) fun m=>rdBnd (takeNds m.toNat) fun l=>rdRet (⟨p,l⟩:Jb)) j.by j:=by
  rw[e2];refine(num_rds j.par hok.1 hok.2.1).bnd ((many_rds 12 (j.nodes.length:Int) (by omega) (by omega) (by omega)).bnd (Rds.bnd (a:=j.nodes) ?_ (Rds.ret j) fun _=>Stk.ret _) ?_) ?_
  ·rw[Int.toNat_natCast];exact takeNds_rds j.nodes hf
  ·exact fun _=>(takeNds_stk _).bnd fun _=>Stk.ret _
  ·exact fun _=>(many_stk 12).bnd fun _=>(takeNds_stk _).bnd fun _=>Stk.ret _
 exact⟨fun rest=>by rw[e];exact h.ok rest,fun k hk=>by rw[e];exact h.short k hk⟩
theorem jb_bck (s:ByteArray) (h:(Rd.jb s).2.e=0):(Rd.jb s).1.ok/\(∀d∈(Rd.jb s).1.nodes,d.uid.size<=65536)/\s.data.toList=(Rd.jb s).1.by++(Rd.jb s).2.s.data.toList:=by
 have h':(takeNds ((Rd.num ⟨s,0⟩).2.many 12).1.toNat ((Rd.num ⟨s,0⟩).2.many 12).2).2.e=0:=h;obtain⟨h2,⟨q2,r2⟩,e2⟩:=takeNds_bck _ _ h';obtain⟨h1,q1,e1⟩:=many_bck 12 _ h2;obtain⟨_,q0,e0⟩:=num_bck _ h1;refine⟨⟨q0.1,q0.2,fun d hd=>(r2 d hd).1⟩,fun d hd=>(r2 d hd).2,?_⟩;have hl:(((takeNds ((Rd.num ⟨s,0⟩).2.many 12).1.toNat ((Rd.num ⟨s,0⟩).2.many 12).2).1.length:Nat):Int)=((Rd.num ⟨s,0⟩).2.many 12).1:=by rw[q2];exact Int.toNat_of_nonneg q1.1
 have e0':s.data.toList=putN (Rd.num ⟨s,0⟩).1++(Rd.num ⟨s,0⟩).2.s.data.toList:=e0;rw[e0',e1,e2];show _=Jb.by ⟨(Rd.num ⟨s,0⟩).1,(takeNds ((Rd.num ⟨s,0⟩).2.many 12).1.toNat ((Rd.num ⟨s,0⟩).2.many 12).2).1⟩++(takeNds ((Rd.num ⟨s,0⟩).2.many 12).1.toNat ((Rd.num ⟨s,0⟩).2.many 12).2).2.s.data.toList
 simp only[Jb.by,putL,List.flatMap_cons,List.flatMap_nil,List.append_nil,List.append_assoc,hl]
theorem bstr_nil_size {l:List UInt8}:(bstr l).size=0↔l=[]:=by rw[bstr_size];exact List.length_eq_zero_iff
theorem takeJ_back (s:ByteArray) (h:(takeJ s).2=0):(takeJ s).1.ok/\(∀d∈(takeJ s).1.nodes,d.uid.size<=65536)/\(takeJ s).1.may.2=0/\s=bstr (takeJ s).1.by:=by
 unfold takeJ at h⊢;dsimp only at h⊢;by_cases hm:(Rd.jb s).1.may.2=0
 ·rw[if_pos hm]at h⊢;by_cases hz:(Rd.jb s).2.s.size=0
  ·rw[if_pos hz]at h⊢;by_cases he:(Rd.jb s).2.e=0
   ·rw[if_pos he]at h⊢;obtain⟨h1,h2,h3⟩:=jb_bck s he;refine⟨h1,h2,hm,?_⟩;have h0:(Rd.jb s).2.s.data.toList=[]:=List.length_eq_zero_iff.1 (by rw[<-Lib.size_eq];exact hz);dsimp only;rw[h0,List.append_nil]at h3;rw[<-h3,bstr_of]
   ·rw[if_neg he]at h;exact absurd h he
  ·rw[if_neg hz,if_neg (fail_pos (by decide))]at h;exact absurd h (fail_pos (by decide))
 ·rw[if_neg hm,if_neg (fail_pos (by decide))]at h;exact absurd h (fail_pos (by decide))
theorem takeJ_err (s:ByteArray) (h:(takeJ s).2≠0):(takeJ s).1=⟨0,[]⟩:=by
 have e: ∀q:Rd,(if q.e=0 then((Rd.jb s).1,(0:Int))else(⟨0,[]⟩,q.e)).2≠0->(if q.e=0 then((Rd.jb s).1,(0:Int))else(⟨0,[]⟩,q.e)).1=⟨0,[]⟩:=fun q h=>by
  by_cases hq:q.e=0
  ·rw[if_pos hq]at h;exact absurd rfl h
  ·rw[if_neg hq]
 exact e _ h
theorem takeT_small (u:ByteArray):(takeT u).1.size<=65536:=by
 by_cases h:(takeT u).2.2=0
 ·exact(takeT_back u h).1
 ·rw[(takeT_err u h).1];decide
theorem takeJ_ok (s:ByteArray):(takeJ s).1.ok:=by
 by_cases h:(takeJ s).2=0
 ·exact(takeJ_back s h).1
 ·rw[takeJ_err s h];exact⟨by decide,by decide,by simp⟩
theorem eql_dec (a b:ByteArray):(a.toList==b.toList)=decide (a=b):=by
 rw[ByteArray.toList_eq,ByteArray.toList_eq];by_cases h:a=b
 ·subst h;simp
 ·have:a.data.toList≠b.data.toList:=fun k=>h (by obtain⟨⟨a⟩⟩:=a;obtain⟨⟨b⟩⟩:=b;simpa using k);rw[df0 h,bq0];exact this
mutual
theorem Ex.same_refl: ∀x:Ex,x.sameB x=true
 | .mk o n l=>by simp only[Ex.sameB];rw[Exs.same_refl l];simp
theorem Exs.same_refl: ∀l:List Ex,Exs.sameB l l=true
 | []=>rfl
 |x::l=>by simp only[Exs.sameB];rw[Ex.same_refl x,Exs.same_refl l];rfl
end
theorem Nd.same_refl (x:Nd):x.sameB x=true:=by
 unfold Nd.sameB;rw[Ex.same_refl,(intsB_iff _ _).2 rfl];simp
theorem Nds.same_refl: ∀l:List Nd,Nds.sameB l l=true
 | []=>rfl
 |x::l=>by simp only[Nds.sameB];rw[Nd.same_refl x,Nds.same_refl l];rfl
theorem Jb.same_refl (x:Jb):x.sameB x=true:=by
 unfold Jb.sameB;rw[Nds.same_refl];simp
theorem fit_node (d:Nd) (k:Nat) (hok:d.ok) (h:nodeB d (k:Int)=true):NdFit d:=by
 have h1:nameB d.uid=true:=by
  unfold nodeB at h;simp only[Bool.and_eq_true]at h;exact h.1
 have h2:=(nodeB_in _ _ h).1;have h3:d.uid.size<=65536:=le1 (name_size h1) (by decide);have h4:d.ins.length<=12:=le1 h2 (by decide);refine⟨h3,h4,?_,hok⟩;unfold nodeB at h;simp only[Bool.and_eq_true]at h;have hx:=h.2.2.2.2.2.2.2.2.2
 cases ht:(rTy d.kind==0)
 ·rw[ht,cond_false]at hx;unfold Ex.isB at hx;have hx:=(of_decide_eq_true hx).1;unfold Ex.typ at hx;by_cases hm:d.x.mayT=true
  ·have hm':mayB 16 d.x=true:=hm;exact fit_of_may 16 d.x hm'
  ·rw[if_neg hm]at hx;exact absurd hx (by decide)
 ·rw[ht,cond_true]at hx;have:d.x.args=[]:=by
   rw[Ex.sameB_eq]at hx;simp only[Bool.and_eq_true]at hx;have h3:=hx.2.2
   cases hl:d.x.args with
   |nil=>rfl
   |cons y l=>rw[hl]at h3;exact absurd h3 (by simp[Exs.sameB,Ex.args])
  exact⟨by rw[this];simp,by rw[this];simp⟩
theorem good_fit {j:Jb} (hok:j.ok) (h:j.may.2=0): ∀d∈j.nodes,NdFit d:=by
 intro d hd;obtain⟨i,hi,rfl⟩:=List.mem_iff_getElem.1 hd;exact fit_node _ _ (hok.2.2 _ hd) ((may_good j h).node i hi)
theorem takeJ_put {j:Jb} (hok:j.ok) (h:j.may.2=0):takeJ (bstr j.by)=(j,0):=by
 have e:=(jb_rds j hok (may_good j h).n2 (good_fit hok h)).1 [];rw[List.append_nil]at e;unfold takeJ;dsimp only;rw[e];dsimp only;rw[if_pos h,if_pos (bstr_nil_size.2 rfl)];rfl
theorem by_len {j:Jb} (hok:j.ok) (h:j.may.2=0):j.by.length<=1000000:=by
 obtain⟨h1,h2,h3,h4⟩:=good_small hok h;have h5:=nodesBy_len j.nodes h1 hok.2.2;have h6:(putL [j.par,(j.nodes.length:Int)]).length<=20:=by
  refine putL_len [j.par,(j.nodes.length:Int)] ?_;intro z hz;simp only[List.mem_cons,List.not_mem_nil,or_false]at hz;rcases hz with rfl|rfl<;>omega
 unfold Jb.by
 rw[la0];omega
theorem nodes_by_sum: ∀(l:List Nd) (left:Nat),(∀d∈l,d.ok)->(∀d∈l,NdSmall d)->left<=1001->1<=countGo l left->(nodesBy l).length<=166*l.length+30*(left-countGo l left)
 | [],left,_,_,_,_=>by simp[nodesBy,countGo]
 |d::l,left,hok,hsm,hl,h=>by
  simp only[countGo]at h⊢
  have h3:=countGo_le l (d.x.count left)
  have h4:=Ex.count_le d.x left
  have ih:=nodes_by_sum l _ (fun f hf=>hok f (by simp[hf])) (fun f hf=>hsm f (by simp[hf])) (by omega) h
  obtain⟨k1,k2,k3,k4,k5,k6⟩:=hok d (by simp)
  have hx:=(Ex.by_count d.x left k4 hl (by omega)).1
  have h1:=(hsm d (by simp)).uid
  have h2:=(hsm d (by simp)).ins
  have h5:(putL [d.kind,d.n,(d.ins.length:Int)]).length<=30:=by
   refine putL_len [d.kind,d.n,(d.ins.length:Int)] ?_;intro z hz;simp only[List.mem_cons,List.not_mem_nil,or_false]at hz;rcases hz with rfl|rfl|rfl<;>omega
  have h6:=putL_len d.ins k3;have h7:=putN_len (d.uid.size:Int) (by omega) (by omega);have h8:=Lib.size_eq d.uid;have e:nodesBy (d::l)=d.by++nodesBy l:=rfl
  rw[e,la0,List.length_cons];unfold Nd.by txtL
  simp only[la0];omega
theorem by_small {j:Jb} (hok:j.ok) (h:j.may.2=0):j.by.length<=32012:=by
 obtain⟨hs,hn,hp1,hp2⟩:=good_small hok h;have hp:=(may_good j h).pa;have h1:=nodes_by_sum j.nodes 1001 hok.2.2 hs le0 (by unfold Jb.parts at hp;omega);have h2:(putL [j.par,(j.nodes.length:Int)]).length<=20:=by
  refine putL_len [j.par,(j.nodes.length:Int)] ?_;intro z hz;simp only[List.mem_cons,List.not_mem_nil,or_false]at hz;rcases hz with rfl|rfl<;>omega
 unfold Jb.parts at hp;unfold Jb.by
 rw[la0];omega
namespace Lg
end Lg
def I64 (z:Int):Prop:= -9223372036854775808<=z/\z<=9223372036854775807
namespace St
end St
namespace Rdw
end Rdw
def Rd.win (most why:Int) (p:Rd):Int×Rd:=if p.num.2.e=0/\(p.num.1<0\/most<p.num.1)then(0,⟨p.num.2.s,why⟩)else p.num
def Rd.rx:Nat->Rd->Ex×Rd
 |k,p=>if p.e≠0 then(.mk 0 0 [],p)else match k with
  |0=>(.mk 0 0 [],⟨p.s,3⟩)
  |k+1=>(.mk (p.win 255 2).1 (p.win 255 2).2.num.1 (reps (Rd.rx k) ((p.win 255 2).2.num.2.win 3 3).1.toNat ((p.win 255 2).2.num.2.win 3 3).2).1,(reps (Rd.rx k) ((p.win 255 2).2.num.2.win 3 3).1.toNat ((p.win 255 2).2.num.2.win 3 3).2).2)
theorem Rd.rx_err (k:Nat) {p:Rd} (h:p.e≠0):Rd.rx k p=(.mk 0 0 [],p):=by unfold Rd.rx;rw[if_pos h]
theorem Rd.rx_zero {p:Rd} (h:p.e=0):Rd.rx 0 p=(.mk 0 0 [],⟨p.s,3⟩):=by unfold Rd.rx;rw[if_neg (by simpa using h)]
theorem Rd.rx_succ (k:Nat) {p:Rd} (h:p.e=0):Rd.rx (k+1) p=(.mk (p.win 255 2).1 (p.win 255 2).2.num.1 (reps (Rd.rx k) ((p.win 255 2).2.num.2.win 3 3).1.toNat ((p.win 255 2).2.num.2.win 3 3).2).1,(reps (Rd.rx k) ((p.win 255 2).2.num.2.win 3 3).1.toNat ((p.win 255 2).2.num.2.win 3 3).2).2):=by
 conv=>lhs;unfold Rd.rx
 rw[if_neg (by simpa using h)]
theorem Rd.num_bad {p:Rd} (h:p.num.2.e≠0):p.num.1=0:=by
 by_cases hp:p.e=0
 ·unfold Rd.num at h⊢;rw[if_pos hp]at h⊢;exact(tkGo_err _ 0 0 h).1
 ·rw[Rd.num_err hp]
theorem win_many (m:Int) (hm:0<=m) (p:Rd):p.win m 3=p.many m:=by
 unfold Rd.win Rd.many;by_cases he:p.num.2.e=0
 ·by_cases hb:p.num.1<0\/m<p.num.1
  ·rw[if_pos ⟨he,hb⟩,if_pos hb];unfold Rd.fail;rw[if_pos he]
  ·rw[if_neg (fun h=>hb h.2),if_neg hb]
 ·have h0:=Rd.num_bad he;rw[if_neg (fun h=>he h.1),if_neg (by omega)]
theorem win_small (p:Rd):(p.win 255 2).2=p.small.2/\(p.small.2.e=0->(p.win 255 2).1=p.small.1):=by
 unfold Rd.win Rd.small;by_cases he:p.num.2.e=0
 ·by_cases hb:p.num.1<0\/255<p.num.1
  ·rw[if_pos ⟨he,hb⟩];dsimp only;rw[if_pos hb];unfold Rd.fail;rw[if_pos he];exact⟨rfl,fun h=>absurd (show(2:Int)=0 from h) (by decide)⟩
  ·rw[if_neg (fun h=>hb h.2)];dsimp only;rw[if_neg hb];exact⟨rfl,fun _=>(Int.emod_eq_of_lt (by omega) (by omega)).symm⟩
 ·have h0:=Rd.num_bad he;rw[if_neg (fun h=>he h.1)];dsimp only;rw[if_neg (by omega)];exact⟨rfl,fun h=>absurd h he⟩
theorem win_ir (m why:Int) (hm:0<=m) (p:Rd):0<=(p.win m why).1/\(p.win m why).1<=m:=by
 unfold Rd.win;by_cases he:p.num.2.e=0
 ·by_cases hb:p.num.1<0\/m<p.num.1
  ·rw[if_pos ⟨he,hb⟩];dsimp only;omega
  ·rw[if_neg (fun h=>hb h.2)];omega
 ·have h0:=Rd.num_bad he;rw[if_neg (fun h=>he h.1)];omega
theorem win_size (m why:Int) (p:Rd):(p.win m why).2.s.size<=p.s.size:=by
 unfold Rd.win;split
 ·exact p.num_size
 ·exact p.num_size
def Stk2 {α:Type} (f:Rd->α×Rd):Prop:= ∀p,p.e≠0->(f p).2=p
theorem small_stk2:Stk2 Rd.small:=fun p hp=>by
 unfold Rd.small
 rw[Rd.num_err hp]
 dsimp only
 split
 ·exact Rd.fail_of hp 2
 ·rfl
theorem many_stk2 (m:Int):Stk2 (Rd.many m):=fun p hp=>by
 unfold Rd.many
 rw[Rd.num_err hp]
 split
 ·exact Rd.fail_of hp 3
 ·rfl
theorem num_stk2:Stk2 Rd.num:=fun p hp=>by rw[Rd.num_err hp]
theorem reps_stk2 {α:Type} {f:Rd->α×Rd} (h:Stk2 f): ∀m,Stk2 (reps f m)
 |0,p,hp=>rfl
 |m+1,p,hp=>by
  simp only[reps]
  rw[h p hp]
  exact reps_stk2 h m p hp
theorem ex_stk2: ∀k,Stk2 (Rd.ex k)
 |0,p,hp=>Rd.fail_of hp 3
 |k+1,p,hp=>by
  simp only[Rd.ex]
  rw[small_stk2 p hp,num_stk2 p hp,many_stk2 3 p hp]
  exact reps_stk2 (ex_stk2 k) _ p hp
def Alike {α:Type} (f g:Rd->α×Rd):Prop:= ∀p,(f p).2=(g p).2/\((g p).2.e=0->(f p).1=(g p).1)
theorem reps_alike {α:Type} {f g:Rd->α×Rd} (h:Alike f g) (hs:Stk2 g): ∀m,Alike (reps f m) (reps g m)
 |0,p=>⟨rfl,fun _=>rfl⟩
 |m+1,p=>by
  simp only[reps]
  obtain⟨h1,h2⟩:=h p
  obtain⟨h3,h4⟩:=reps_alike h hs m (f p).2
  rw[h1]at h3 h4⊢
  refine⟨h3,fun he=>?_⟩
  have hg:(g p).2.e=0:=by
   by_cases hz:(g p).2.e=0
   ·exact hz
   ·rw[reps_stk2 hs m _ hz]at he;exact he
  rw[h2 hg,h4 he]
theorem rx_alike: ∀k,Alike (Rd.rx k) (Rd.ex k)
 |0,p=>by
  by_cases hp:p.e=0
  ·rw[Rd.rx_zero hp]
   refine⟨?_,fun h=>rfl⟩
   show _=p.fail 3
   unfold Rd.fail
   rw[if_pos hp]
  ·rw[Rd.rx_err 0 hp]
   exact⟨(ex_stk2 0 p hp).symm,fun h=>absurd (by rw[ex_stk2 0 p hp]at h;exact h) hp⟩
 |k+1,p=>by
  by_cases hp:p.e=0
  ·rw[Rd.rx_succ k hp]
   simp only[Rd.ex]
   obtain⟨h1,h2⟩:=win_small p
   rw[h1,win_many 3 (by decide)]
   obtain⟨h3,h4⟩:=reps_alike (rx_alike k) (ex_stk2 k) (p.small.2.num.2.many 3).1.toNat (p.small.2.num.2.many 3).2
   refine⟨h3,fun he=>?_⟩
   have e2:(p.small.2.num.2.many 3).2.e=0:=by
    by_cases hz:(p.small.2.num.2.many 3).2.e=0
    ·exact hz
    ·rw[reps_stk2 (ex_stk2 k) _ _ hz]at he;exact he
   have e1:p.small.2.num.2.e=0:=by
    by_cases hz:p.small.2.num.2.e=0
    ·exact hz
    ·rw[many_stk2 3 _ hz]at e2;exact e2
   have e0:p.small.2.e=0:=by
    by_cases hz:p.small.2.e=0
    ·exact hz
    ·rw[num_stk2 _ hz]at e1;exact e1
   rw[h2 e0,h4 he]
  ·rw[Rd.rx_err _ hp];exact⟨(ex_stk2 (k+1) p hp).symm,fun h=>absurd (by rw[ex_stk2 (k+1) p hp]at h;exact h) hp⟩
theorem Rd.rx_size (k:Nat) (p:Rd):(Rd.rx k p).2.s.size<=p.s.size:=by rw[(rx_alike k p).1];exact Rd.ex_size k p
def Rd.rnd (p:Rd):Nd×Rd:=
 (⟨p.text.1,(p.text.2.win 255 2).1,(reps Rd.num ((p.text.2.win 255 2).2.num.2.win 12 3).1.toNat ((p.text.2.win 255 2).2.num.2.win 12 3).2).1,(Rd.rx 17 (reps Rd.num ((p.text.2.win 255 2).2.num.2.win 12 3).1.toNat ((p.text.2.win 255 2).2.num.2.win 12 3).2).2).1,(p.text.2.win 255 2).2.num.1⟩,
  (Rd.rx 17 (reps Rd.num ((p.text.2.win 255 2).2.num.2.win 12 3).1.toNat ((p.text.2.win 255 2).2.num.2.win 12 3).2).2).2)
theorem rnd_alike:Alike Rd.rnd Rd.nd:=fun p=>by
 unfold Rd.rnd Rd.nd Rd.nd3
 obtain⟨h1,h2⟩:=win_small p.text.2
 rw[h1,win_many 12 (by decide)]
 obtain⟨h3,h4⟩:=rx_alike 17 (reps Rd.num (p.text.2.small.2.num.2.many 12).1.toNat (p.text.2.small.2.num.2.many 12).2).2
 refine⟨h3,fun he=>?_⟩
 dsimp only at he⊢
 have e3:(reps Rd.num (p.text.2.small.2.num.2.many 12).1.toNat (p.text.2.small.2.num.2.many 12).2).2.e=0:=by
  by_cases hz:(reps Rd.num (p.text.2.small.2.num.2.many 12).1.toNat (p.text.2.small.2.num.2.many 12).2).2.e=0
  ·exact hz
  ·rw[ex_stk2 17 _ hz]at he;exact he
 have e2:(p.text.2.small.2.num.2.many 12).2.e=0:=by
  by_cases hz:(p.text.2.small.2.num.2.many 12).2.e=0
  ·exact hz
  ·rw[reps_stk2 num_stk2 _ _ hz]at e3;exact e3
 have e1:p.text.2.small.2.num.2.e=0:=by
  by_cases hz:p.text.2.small.2.num.2.e=0
  ·exact hz
  ·rw[many_stk2 12 _ hz]at e2;exact e2
 have e0:p.text.2.small.2.e=0:=by
  by_cases hz:p.text.2.small.2.e=0
  ·exact hz
  ·rw[num_stk2 _ hz]at e1;exact e1
 rw[h2 e0,h4 he]
def rNds:Nat->Rd->List Nd×Rd
 |0,p=>([],p)
 |m+1,p=>if p.e≠0 then([],p)else(p.rnd.1::(rNds m p.rnd.2).1,(rNds m p.rnd.2).2)
theorem rNds_err (m:Nat) {p:Rd} (h:p.e≠0):rNds m p=([],p):=by
 cases m with
 |zero=>rfl
 |succ m=>simp only[rNds];rw[if_pos h]
theorem rNds_alike: ∀(m:Nat) (p:Rd),p.e=0->(rNds m p).2=(takeNds m p).2/\((takeNds m p).2.e=0->(rNds m p).1=(takeNds m p).1)
 |0,p,_=>⟨rfl,fun _=>rfl⟩
 |m+1,p,hp=>by
  simp only[rNds,takeNds]
  rw[if_neg (by simpa using hp)]
  obtain⟨h1,h2⟩:=rnd_alike p
  by_cases hz:p.nd.2.e=0
  ·rw[if_neg (by simpa using hz),h1]
   obtain⟨h3,h4⟩:=rNds_alike m p.nd.2 hz
   exact⟨h3,fun he=>by dsimp only at he⊢;rw[h2 hz,h4 he]⟩
  ·rw[if_pos hz,h1,rNds_err m hz]
   exact⟨rfl,fun he=>absurd he hz⟩
def Rd.rjb (s:ByteArray):Jb×Rd:=
 (⟨(Rd.num ⟨s,0⟩).1,(rNds ((Rd.num ⟨s,0⟩).2.win 12 3).1.toNat ((Rd.num ⟨s,0⟩).2.win 12 3).2).1⟩,(rNds ((Rd.num ⟨s,0⟩).2.win 12 3).1.toNat ((Rd.num ⟨s,0⟩).2.win 12 3).2).2)
theorem many_bad (m:Int) {p:Rd} (h:(p.many m).2.e≠0):(p.many m).1=0:=by
 unfold Rd.many at h⊢;split at h
 ·rename_i hb;rw[if_pos hb]
 ·rename_i hb;rw[if_neg hb];exact Rd.num_bad h
theorem rjb_alike (s:ByteArray):(Rd.rjb s).2=(Rd.jb s).2/\((Rd.jb s).2.e=0->(Rd.rjb s).1=(Rd.jb s).1):=by
 unfold Rd.rjb Rd.jb;dsimp only;rw[win_many 12 (by decide)];by_cases hz:((Rd.num ⟨s,0⟩).2.many 12).2.e=0
 ·obtain⟨h3,h4⟩:=rNds_alike ((Rd.num ⟨s,0⟩).2.many 12).1.toNat _ hz;exact⟨h3,fun he=>by rw[h4 he]⟩
 ·rw[many_bad 12 hz];exact⟨rfl,fun _=>rfl⟩
theorem takeJ_ref (s:ByteArray):takeJ s=if(Rd.rjb s).2.e≠0 then(⟨0,[]⟩,(Rd.rjb s).2.e)else if(Rd.rjb s).2.s.size≠0\/(Rd.rjb s).1.may.2≠0 then(⟨0,[]⟩,2)else((Rd.rjb s).1,0):=by
 obtain⟨h1,h2⟩:=rjb_alike s;unfold takeJ;dsimp only;rw[h1];by_cases he:(Rd.jb s).2.e=0
 ·rw[if_neg (c:=(Rd.jb s).2.e≠0) (by simpa using he),h2 he];have hf:(Rd.jb s).2.fail 2=⟨(Rd.jb s).2.s,2⟩:=by unfold Rd.fail;rw[if_pos he]
  have h20: ¬((⟨(Rd.jb s).2.s,2⟩:Rd).e=0):=by show ¬((2:Int)=0);decide
  have h2e:(⟨(Rd.jb s).2.s,2⟩:Rd).e≠0:=h20;by_cases hz:(Rd.jb s).2.s.size=0
  ·rw[if_pos hz];by_cases hm:(Rd.jb s).1.may.2=0
   ·rw[if_pos hm,if_pos he,if_neg (by simp[hz,hm])]
   ·rw[if_neg hm,hf,if_neg h20,if_pos (Or.inr hm)]
  ·rw[if_neg hz,hf];by_cases hm:(Rd.jb s).1.may.2=0
   ·rw[if_pos hm,if_neg h20,if_pos (Or.inl hz)]
   ·rw[if_neg hm,Rd.fail_of h2e,if_neg h20,if_pos (Or.inl hz)]
 ·rw[if_pos he];have hf:=Rd.fail_of he 2;have e1:(if(Rd.jb s).2.s.size=0 then(Rd.jb s).2 else(Rd.jb s).2.fail 2)=(Rd.jb s).2:=by rw[hf];split<;>rfl
  rw[e1,hf];have e2:(if(Rd.jb s).1.may.2=0 then(Rd.jb s).2 else(Rd.jb s).2)=(Rd.jb s).2:=by split<;>rfl
  rw[e2,if_neg he]
theorem take_start (w:World) (s:ByteArray) (t1 t2 t3 t4 t5:TypeId) (W:World) (hW:W=((((((((w.alloc (.cells #[.string s] 9)).alloc (.cells #[.int .i64 0,.slice none 0 0] 24)).alloc (.cells #[.int .i64 0] 30)).alloc (.cells #[failsV (w.heap.size+1+1)] t1)).alloc (.cells #[numberV (w.heap.size+1+1) (w.heap.size) (w.heap.size+1+1+1)] t2)).alloc (.cells #[manyV (w.heap.size+1+1+1+1) (w.heap.size+1+1+1)] t3)).alloc (.cells #[smallV (w.heap.size+1+1+1+1) (w.heap.size+1+1+1)] t4)).alloc (.cells #[takeV (w.heap.size+1+1+1) (w.heap.size+1+1+1+1+1+1) (w.heap.size+1+1+1+1) (w.heap.size+1+1+1+1+1) (w.heap.size+1+1+1+1+1+1+1)] t5))):
  PS W (w.heap.size+1+1) (w.heap.size) ⟨s,0⟩/\Ct W (w.heap.size+1+1) (w.heap.size) (w.heap.size+1+1+1) (w.heap.size+1+1+1+1) (w.heap.size+1+1+1+1+1) (w.heap.size+1+1+1+1+1+1) (w.heap.size+1+1+1+1+1+1+1)/\Blk W (w.heap.size+1) 24 #[.int .i64 0,.slice none 0 0]/\Below w.heap.size w W/\W.heap.size=w.heap.size+1+1+1+1+1+1+1+1:=by
 have hz:W.heap.size=w.heap.size+1+1+1+1+1+1+1+1:=by rw[hW];simp
 have f0:Below w.heap.size w W:=by
  rw[hW];refine(((((((((Below.refl _ w).alloc ?_ _).alloc ?_ _).alloc ?_ _).alloc ?_ _).alloc ?_ _).alloc ?_ _).alloc ?_ _).alloc ?_ _)
  all_goals (simp;try omega)
 have q0:Blk W (w.heap.size) 9 #[.string s]:=by rw[hW];exact(Blk.new_at (k:=w.heap.size) _ _ _ (by simp))|>.alloc _|>.alloc _|>.alloc _|>.alloc _|>.alloc _|>.alloc _|>.alloc _
 have q1:Blk W (w.heap.size+1) 24 #[.int .i64 0,.slice none 0 0]:=by rw[hW];exact(Blk.new_at (k:=w.heap.size+1) _ _ _ (by simp))|>.alloc _|>.alloc _|>.alloc _|>.alloc _|>.alloc _|>.alloc _
 have q2:Blk W (w.heap.size+1+1) 30 #[.int .i64 0]:=by rw[hW];exact(Blk.new_at (k:=w.heap.size+1+1) _ _ _ (by simp))|>.alloc _|>.alloc _|>.alloc _|>.alloc _|>.alloc _
 have q3:Blk W (w.heap.size+1+1+1) t1 #[failsV (w.heap.size+1+1)]:=by rw[hW];exact(Blk.new_at (k:=w.heap.size+1+1+1) _ _ _ (by simp))|>.alloc _|>.alloc _|>.alloc _|>.alloc _
 have q4:Blk W (w.heap.size+1+1+1+1) t2 #[numberV (w.heap.size+1+1) (w.heap.size) (w.heap.size+1+1+1)]:=by rw[hW];exact(Blk.new_at (k:=w.heap.size+1+1+1+1) _ _ _ (by simp))|>.alloc _|>.alloc _|>.alloc _
 have q5:Blk W (w.heap.size+1+1+1+1+1) t3 #[manyV (w.heap.size+1+1+1+1) (w.heap.size+1+1+1)]:=by rw[hW];exact(Blk.new_at (k:=w.heap.size+1+1+1+1+1) _ _ _ (by simp))|>.alloc _|>.alloc _
 have q6:Blk W (w.heap.size+1+1+1+1+1+1) t4 #[smallV (w.heap.size+1+1+1+1) (w.heap.size+1+1+1)]:=by rw[hW];exact(Blk.new_at (k:=w.heap.size+1+1+1+1+1+1) _ _ _ (by simp))|>.alloc _
 have q7:Blk W (w.heap.size+1+1+1+1+1+1+1) t5 #[takeV (w.heap.size+1+1+1) (w.heap.size+1+1+1+1+1+1) (w.heap.size+1+1+1+1) (w.heap.size+1+1+1+1+1) (w.heap.size+1+1+1+1+1+1+1)]:=by rw[hW];exact(Blk.new_at (k:=w.heap.size+1+1+1+1+1+1+1) _ _ _ (by simp))
 subst hW;exact⟨⟨q2,q0⟩,⟨⟨⟨_,q3⟩,⟨_,q4⟩,by omega,by omega,by omega,by omega,by omega⟩,⟨_,q5⟩,⟨_,q6⟩,⟨_,q7⟩,by omega,by omega,by omega⟩,q1,f0,hz⟩
theorem emp_size (s:ByteArray):s.toList.isEmpty=decide (s.size=0):=by
 rw[ByteArray.toList_eq,Lib.size_eq]
 cases s.data.toList<;>simp
structure TJ (w wx:World) (be bs bf bn bm bl bt br bj B0:Nat) (q:Rd) (par:Int) (jv:Value):Prop where
 below:Below w.heap.size w wx
 ps:PS wx be bs q
 ct:Ct wx be bs bf bn bm bl bt
 r:Blk wx br 24 #[.int .i64 0,.slice none 0 0]
 j:Blk wx bj 24 #[.int .i64 par,jv]
 big:B0<=wx.heap.size
theorem TJ.step {w wx wy:World} {be bs bf bn bm bl bt br bj B0:Nat} {q q':Rd} {par:Int} {jv:Value} (h:TJ w wx be bs bf bn bm bl bt br bj B0 q par jv) (hf:Fr (FrS be bs) wx wy) (hp:PS wy be bs q')
  (h1:w.heap.size<=be) (h2:w.heap.size<=bs) (h3:br≠be/\br≠bs) (h4:bj≠be/\bj≠bs):TJ w wy be bs bf bn bm bl bt br bj B0 q' par jv:=
 ⟨h.below.trans (hf.below h.below.size (fun k hk=>by rintro (q|q)<;>omega)),hp,h.ct.fr hf,h.r.fr hf (by rintro (q|q)<;>omega),h.j.fr hf (by rintro (q|q)<;>omega),le1 h.big hf.size⟩
theorem TJ.keep {w wx wy:World} {be bs bf bn bm bl bt br bj B0:Nat} {q:Rd} {par:Int} {jv:Value} (h:TJ w wx be bs bf bn bm bl bt br bj B0 q par jv) (hf:Below wx.heap.size wx wy):TJ w wy be bs bf bn bm bl bt br bj B0 q par jv:=
 have f:Fr (fun _=>False) wx wy:=Fr.of_new hf
 ⟨h.below.trans (hf.mono h.below.size),⟨h.ps.E.fr f id,h.ps.S.fr f id⟩,⟨⟨h.ct.cl.F.fr f id,h.ct.cl.N.fr f id,h.ct.cl.ne,h.ct.cl.f1,h.ct.cl.f2,h.ct.cl.n1,h.ct.cl.n2⟩,h.ct.M.fr f id,h.ct.L.fr f id,h.ct.T.fr f id,h.ct.m1,h.ct.l1,h.ct.t1⟩,h.r.fr f id,h.j.fr f id,le1 h.big hf.size⟩
theorem results_cell_row2P {P:Program} {fn:Func} {p q:Tmp} {ty:TypeId} (h:fn.results=#[.cell p ty,.tmp q]) (tmps:Array Value) (w:World) (g:Nat) (t:TypeId) (cs:Array Value) (fr:Nat×Nat) (d:TypeDesc)
  (hp:tmps.getD p undef= .pointer (some ⟨g,0,none⟩)) (hg:w.heap[g]? =some (.cells cs t fr))
  (hu:P.underlying ty=some d) (hd:(match d with| .struct _| .array _ _=>true|_=>false)=true) (hi:(P.info? ty).map (·.size)=some cs.size) (u:Value) (hq:tmps.getD q undef=u):
  (results fn tmps).run P w= .ok (.tuple #[.agg cs,u]) w:=by
 have hp':tmps[p]?.getD undef= .pointer (some ⟨g,0,none⟩):=by simpa using hp
 have hq':tmps[q]?.getD undef=u:=by simpa using hq
 simp[results,h,hp',hq',asAddr,run_loadVar_row w g t ty cs fr d hg hu hd hi]
theorem jb_set {w:World} {g:Nat} {cs:Array Value} (h:Blk w g 24 cs) (hc:cs.size=2) (a b:Value):Blk ((w.setCell ⟨g,0,none⟩ a).setCell ⟨g,1,none⟩ b) g 24 #[a,b]:=by
 have:=(h.set 0 a).set 1 b;obtain⟨cs⟩:=cs
 match cs,hc with
 | [c0,c1],_=>exact this
theorem NRowP.fr {B0 be bs:Nat} {wx wy:World} {l:List Nd} {av:Value} {cs:List Value} {ivs svs:Nat->Value} (h:NRowP B0 wx l av cs ivs svs) (hf:Fr (FrS be bs) wx wy) (h1:be<B0) (h2:bs<B0):NRowP B0 wy l av cs ivs svs:=
 h.keepB hf.size fun b hb hlt=>hf.block b hlt (by rintro (q|q)<;>omega)
theorem Fr.set7 {S:Nat->Prop} {a w:World} {b:Nat} (h:Fr S a w) (hb:a.heap.size<=b) (u0 u1 u2 u3 u4 u5 u6:Value):Fr S a (((((((w.setCell ⟨b,0,none⟩ u0).setCell ⟨b,1,none⟩ u1).setCell ⟨b,2,none⟩ u2).setCell ⟨b,3,none⟩ u3).setCell ⟨b,4,none⟩ u4).setCell ⟨b,5,none⟩ u5).setCell ⟨b,6,none⟩ u6):=
 ((((((h.setCell (p:=⟨b,0,none⟩) (.inr hb) _).setCell (p:=⟨b,1,none⟩) (.inr hb) _).setCell (p:=⟨b,2,none⟩) (.inr hb) _).setCell (p:=⟨b,3,none⟩) (.inr hb) _).setCell (p:=⟨b,4,none⟩) (.inr hb) _).setCell (p:=⟨b,5,none⟩) (.inr hb) _).setCell (p:=⟨b,6,none⟩) (.inr hb) _
theorem Blk.far7 {w:World} {b c:Nat} {t:TypeId} {cs:Array Value} (h:Blk w c t cs) (hp:c≠b) (u0 u1 u2 u3 u4 u5 u6:Value):Blk (((((((w.setCell ⟨b,0,none⟩ u0).setCell ⟨b,1,none⟩ u1).setCell ⟨b,2,none⟩ u2).setCell ⟨b,3,none⟩ u3).setCell ⟨b,4,none⟩ u4).setCell ⟨b,5,none⟩ u5).setCell ⟨b,6,none⟩ u6) c t cs:=
 ((((((h.other (p:=⟨b,0,none⟩) hp _).other (p:=⟨b,1,none⟩) hp _).other (p:=⟨b,2,none⟩) hp _).other (p:=⟨b,3,none⟩) hp _).other (p:=⟨b,4,none⟩) hp _).other (p:=⟨b,5,none⟩) hp _).other (p:=⟨b,6,none⟩) hp _
theorem PS.set7 {w:World} {b be bs:Nat} {p:Rd} (h:PS w be bs p) (h1:be≠b) (h2:bs≠b) (u0 u1 u2 u3 u4 u5 u6:Value):PS (((((((w.setCell ⟨b,0,none⟩ u0).setCell ⟨b,1,none⟩ u1).setCell ⟨b,2,none⟩ u2).setCell ⟨b,3,none⟩ u3).setCell ⟨b,4,none⟩ u4).setCell ⟨b,5,none⟩ u5).setCell ⟨b,6,none⟩ u6) be bs p:=
 ⟨Blk.far7 h.E h1 _ _ _ _ _ _ _,Blk.far7 h.S h2 _ _ _ _ _ _ _⟩
theorem Blk.set7 {w:World} {g:Nat} {t:TypeId} {cs:Array Value} (h:Blk w g t cs) (hc:cs.size=7) (a0 a1 a2 a3 a4 a5 a6:Value):Blk (((((((w.setCell ⟨g,0,none⟩ a0).setCell ⟨g,1,none⟩ a1).setCell ⟨g,2,none⟩ a2).setCell ⟨g,3,none⟩ a3).setCell ⟨g,4,none⟩ a4).setCell ⟨g,5,none⟩ a5).setCell ⟨g,6,none⟩ a6) g t #[a0,a1,a2,a3,a4,a5,a6]:=by
 have h7:=((((((h.set 0 a0).set 1 a1).set 2 a2).set 3 a3).set 4 a4).set 5 a5).set 6 a6;have e: ∀l:List Value,l.length=7->(((((((l.toArray.setIfInBounds 0 a0).setIfInBounds 1 a1).setIfInBounds 2 a2).setIfInBounds 3 a3).setIfInBounds 4 a4).setIfInBounds 5 a5).setIfInBounds 6 a6)=#[a0,a1,a2,a3,a4,a5,a6]:=fun l hl=>by
  match l,hl with
  | [c0,c1,c2,c3,c4,c5,c6],_=>simp only[List.setIfInBounds_toArray,List.set_cons_zero,List.set_cons_succ]
 have e2:=e cs.toList (by rw[Array.length_toList,hc]);rw[Array.toArray_toList]at e2;rw[e2]at h7;exact h7
theorem Rd.text_le (p:Rd):p.text.1.size<=p.s.size:=by
 unfold Rd.text;split
 ·unfold takeT
  repeat' split
  all_goals (try(show(ByteArray.empty).size<=_;exact ze0))
  dsimp only;rw[ByteArray.size_extract];omega
 ·exact ze0
theorem own_fr {w w':World} {base:Nat} {e:TypeId} {size n:Nat} {v:Value} {xs:List Value} {S:Nat->Prop} (h:w.ownsRow base e size v n xs) (hf:Fr S w w') (hS: ∀k,S k->k<base):w'.ownsRow base e size v n xs:=by
 obtain⟨q1,q2⟩:=h;refine⟨q1,q2.imp id ?_⟩;rintro ⟨g,cap,cur,hv,hb,hg,r⟩;exact⟨g,cap,cur,hv,hb,hf.heap_at hg (fun q=>by have:=hS g q;omega),r⟩
theorem own_drew {w:World} {base:Nat} {e:TypeId} {size n:Nat} {v:Value} {xs:List Value} (h:w.ownsRow base e size v n xs):w.drew.ownsRow base e size v n xs:=h
theorem own_alloc {w:World} {base:Nat} {e:TypeId} {size n:Nat} {v:Value} {xs:List Value} (h:w.ownsRow base e size v n xs) (o:Obj):(w.alloc o).ownsRow base e size v n xs:=own_fr (S:=fun _=>False) h ((Fr.refl _ w).alloc o) (fun _ h=>h.elim)
theorem own_other {w:World} {base:Nat} {e:TypeId} {size n:Nat} {v:Value} {xs:List Value} (h:w.ownsRow base e size v n xs) {p:Addr} (hp:p.block<base) (u:Value):(w.setCell p u).ownsRow base e size v n xs:=
 own_fr (S:=fun k=>k=p.block) h ((Fr.refl (fun k=>k=p.block) w).setCell (p:=p) (.inl rfl) u) (fun k hk=>by omega)
theorem own_ge {w:World} {base:Nat} {e:TypeId} {size n:Nat} {v:Value} {xs:List Value} (h:w.ownsRow base e size v n xs): ∀q,v.ownBlock=some q->base<=q:=by
 intro q hq;rcases h.2 with ⟨rfl,_⟩|⟨g,cap,cur,rfl,hb,hg,_⟩
 ·cases hq
 ·simp only[Value.ownBlock,Option.some.injEq]at hq;subst hq;exact hb
theorem own_lt {w:World} {base:Nat} {e:TypeId} {size n:Nat} {v:Value} {xs:List Value} (h:w.ownsRow base e size v n xs): ∀q,v.ownBlock=some q->q<w.heap.size:=by
 intro q hq;rcases h.2 with ⟨rfl,_⟩|⟨g,cap,cur,rfl,hb,hg,_⟩
 ·cases hq
 ·simp only[Value.ownBlock,Option.some.injEq]at hq;subst hq;exact(Array.getElem?_eq_some_iff.1 hg).1
theorem Blk.nd_x {w:World} {g:Nat} {t:TypeId} {c0 c1 c2 c3 c4 c5 c6:Value} (h:Blk w g t #[c0,c1,c2,c3,c4,c5,c6]) (a b c:Value):Blk (((w.setCell ⟨g,3,none⟩ a).setCell ⟨g,4,none⟩ b).setCell ⟨g,5,none⟩ c) g t #[c0,c1,c2,a,b,c,c6]:=by
 have h3:=((h.set 3 a).set 4 b).set 5 c;simp only[List.setIfInBounds_toArray,List.set_cons_zero,List.set_cons_succ]at h3;exact h3
theorem PS.far345 {w:World} {b be bs:Nat} {p:Rd} (h:PS w be bs p) (h1:be≠b) (h2:bs≠b) (u v x:Value):PS (((w.setCell ⟨b,3,none⟩ u).setCell ⟨b,4,none⟩ v).setCell ⟨b,5,none⟩ x) be bs p:=
 ⟨((h.E.other (p:=⟨b,3,none⟩) h1 _).other (p:=⟨b,4,none⟩) h1 _).other (p:=⟨b,5,none⟩) h1 _,((h.S.other (p:=⟨b,3,none⟩) h2 _).other (p:=⟨b,4,none⟩) h2 _).other (p:=⟨b,5,none⟩) h2 _⟩
theorem info_ndC:(prog.info? 135).map (fun i=>(i.zero,i.size,i.bytes))=some (some (.agg #[.string ⟨#[]⟩,.int .u8 0,.slice none 0 0,.int .u8 0,.int .i64 0,.slice none 0 0,.int .i64 0]),7,96):=by kernel_rfl
theorem TJ.keepB {w wx wy:World} {be bs bf bn bm bl bt br bj B0 B:Nat} {q:Rd} {par:Int} {jv:Value} (h:TJ w wx be bs bf bn bm bl bt br bj B0 q par jv) (hc:CtLt B be bs bf bn bm bl bt) (h1:be<B/\bs<B/\br<B/\bj<B) (h2:w.heap.size<=B)
  (ho:wy.os=wx.os) (ht:wy.tape=wx.tape) (hu:wy.output=wx.output) (hs:wx.heap.size<=wy.heap.size) (hk: ∀b,b<B->wy.heap[b]? =wx.heap[b]?):TJ w wy be bs bf bn bm bl bt br bj B0 q par jv:=
 ⟨⟨ho.trans h.below.os,ht.trans h.below.tape,hu.trans h.below.output,le1 h.below.size hs,fun b hb=>(hk b (by omega)).trans (h.below.block b hb)⟩,
  ⟨h.ps.E.same (hk _ h1.1),h.ps.S.same (hk _ h1.2.1)⟩,
  ⟨⟨h.ct.cl.F.same (hk _ hc.f),h.ct.cl.N.same (hk _ hc.n),h.ct.cl.ne,h.ct.cl.f1,h.ct.cl.f2,h.ct.cl.n1,h.ct.cl.n2⟩,h.ct.M.same (hk _ hc.m),h.ct.L.same (hk _ hc.l),h.ct.T.same (hk _ hc.t),h.ct.m1,h.ct.l1,h.ct.t1⟩,
  h.r.same (hk _ h1.2.2.1),h.j.same (hk _ h1.2.2.2),le1 h.big hs⟩
theorem TJ.setJ {w wx:World} {be bs bf bn bm bl bt br bj B0:Nat} {q:Rd} {par:Int} {jv:Value} (h:TJ w wx be bs bf bn bm bl bt br bj B0 q par jv) (hf:CtFar bj be bs bf bn bm bl bt) (h1:be≠bj/\bs≠bj/\br≠bj) (h2:w.heap.size<=bj) (u:Value):
  TJ w (wx.setCell ⟨bj,1,none⟩ u) be bs bf bn bm bl bt br bj B0 q par u:=
 ⟨h.below.setCell (p:=⟨bj,1,none⟩) h2 u,⟨h.ps.E.other (p:=⟨bj,1,none⟩) h1.1 u,h.ps.S.other (p:=⟨bj,1,none⟩) h1.2.1 u⟩,h.ct.far (p:=⟨bj,1,none⟩) hf u,h.r.other (p:=⟨bj,1,none⟩) h1.2.2 u,h.j.set 1 u,by simpa using h.big⟩
def TakeJPost (s:ByteArray) (w:World) (e:Ending) (w':World):Prop:=
 ∃v,e= .returned (.tuple #[v,.int .i64 (takeJ s).2])/\JbIn w' (fun b=>w.heap.size<=b/\b<w'.heap.size) v (takeJ s).1/\Below w.heap.size w w'
namespace St
end St
namespace Rdw
end Rdw
namespace Rdw
end Rdw
theorem find_lt (j:Jb) (u:ByteArray):j.find u<(j.nodes.length:Int):=by
 have:=idxZ_lt (fun d:Nd=>decide (d.uid=u)) j.nodes 0;unfold Jb.find;omega
theorem insGo_ok (j:Jb): ∀(l:List ByteArray) (acc is:List Int),(∀z∈acc,0<=z/\z<(j.nodes.length:Int))->insGo j acc l=some is-> ∀z∈is,0<=z/\z<(j.nodes.length:Int)
 | [],acc,is,h,e=>by
  simp only[insGo,Option.some.injEq]at e
  subst e;exact h
 |u::l,acc,is,h,e=>by
  simp only[insGo]at e
  split at e
  ·cases e
  ·refine insGo_ok j l _ is (fun z hz=>?_) e
   rcases List.mem_append.1 hz with hz|hz
   ·exact h z hz
   ·simp at hz;subst hz
    exact⟨by omega,find_lt j u⟩
theorem num_two (s:ByteArray) (m:Nat) (hm:m<=2):0<=(numB s m).1/\(numB s m).1<=99:=by
 unfold numB;split
 ·rename_i h;have:=valU_two s.data.toList h.1 (by rw[<-Lib.size_eq];omega);dsimp only;omega
 ·dsimp only;omega
theorem ndTail_ok (k:Int) (r:List ByteArray) (q:Int×List ByteArray) (h:ndTail k r=some q):0<=q.1/\q.1<=99:=by
 unfold ndTail at h;split at h
 ·split at h
  ·cases h
  ·cases hn:(numB (r.getD (r.length-1) .empty) 2).2
   ·rw[hn]at h;cases h
   ·rw[hn]at h;simp only[cond_true,Option.some.injEq]at h;subst h;exact num_two _ 2 le0
 ·simp only[Option.some.injEq]at h;subst h;dsimp only;omega
theorem zero_ok:Ex.zero.ok:=ok_zero
theorem pNd_ok (j:Jb) (l:List ByteArray) (d:Nd) (hl:j.nodes.length<=70000) (h:pNd j l=some d):d.ok/\d.x=Ex.zero:=by
 match l,h with
 | [],h=>cases h
 | [_],h=>cases h
 |u::k::r,h=>
  unfold pNd at h;simp only at h;split at h
  ·cases h
  ·rename_i q hq;split at h
   ·cases h
   ·rename_i is his;split at h
    ·cases h
    ·simp only[Option.some.injEq]at h;subst h;have hk:=kindOf_le k;have hq2:=ndTail_ok _ _ _ hq;have hi:=insGo_ok j q.2 [] is (fun z hz=>by cases hz) his;exact⟨⟨by dsimp only;omega,by dsimp only;omega,fun z hz=>by have:=hi z hz;omega,zero_ok,by dsimp only;omega,by dsimp only;omega⟩,rfl⟩
theorem pLine_ok (j:Jb) (t:ByteArray) (f:Bool) (hj:j.ok) (hl:j.nodes.length<=70000):(pLine j t f).1.ok:=by
 unfold pLine;split
 ·exact hj
 ·split
  ·split
   ·split
    ·exact hj
    ·rename_i a b hw hn
     cases hb:(numB b 1).2
     ·exact hj
     ·have:=num_two b 1 (by omega);exact⟨show-9223372036854775808<=(numB b 1).1 by omega,show(numB b 1).1<=9223372036854775807 by omega,hj.2.2⟩
   ·exact hj
  ·split
   ·exact hj
   ·rename_i d hd;obtain⟨h1,h2⟩:=pNd_ok j _ d hl hd;split
    ·exact hj
    ·split
     ·split
      ·exact hj
      ·refine⟨hj.1,hj.2.1,fun e he=>?_⟩;rcases List.mem_append.1 he with he|he
       ·exact hj.2.2 e he
       ·simp at he;subst he;exact⟨h1.1,h1.2.1,h1.2.2.1,parse_ok _,h1.2.2.2.2.1,h1.2.2.2.2.2⟩
     ·refine⟨hj.1,hj.2.1,fun e he=>?_⟩;rcases List.mem_append.1 he with he|he
      ·exact hj.2.2 e he
      ·simp at he;subst he;exact h1
theorem zeroJ_ok:Jb.zero.ok:=⟨by unfold Jb.zero;dsimp only;omega,by unfold Jb.zero;dsimp only;omega,fun d hd=>by cases hd⟩
theorem pLine_len (j:Jb) (t:ByteArray) (f:Bool) (h:(pLine j t f).2=0):(pLine j t f).1.nodes.length<=j.nodes.length+1:=by
 cases f
 ·exact Nat.le_of_eq (pl_more j t h)
 ·rw[pl_first];exact Nat.le_succ _
theorem pGo_ok: ∀(L:List ByteArray) (i:Nat) (j:Jb) (a:List Int) (f:Bool),j.ok->j.nodes.length<=i->i+L.length<=70000->(pRes (pGo L i j a f)).1.ok
 | [],i,j,a,f,hj,hl,hi=>by
  simp only[pGo,pRes,pEnd]
  cases f
  ·simp only[cond_false]
   split
   ·exact zeroJ_ok
   ·split
    ·exact zeroJ_ok
    ·exact hj
  ·exact zeroJ_ok
 |t::L,i,j,a,f,hj,hl,hi=>by
  rw[List.length_cons]at hi
  simp only[pGo]
  cases silentB t
  ·simp only[cond_false]
   split
   ·exact zeroJ_ok
   ·rename_i he
    have he':(pLine j t f).2=0:=by simpa using he
    exact pGo_ok L (i+1) _ _ false (pLine_ok j t f hj (by omega)) (by have:=pLine_len j t f he';omega) (by omega)
  ·simp only[cond_true]
   exact pGo_ok L (i+1) j a f hj (by omega) (by omega)
theorem pScript_ok (s:ByteArray):(pScript s).1.ok:=by
 unfold pScript;split
 ·exact zeroJ_ok
 ·have:=lines_le s;exact pGo_ok _ 0 _ _ _ zeroJ_ok le0 (by omega)
def sumsB:ByteArray:={data:=#[112,97,114,32,50,10,115,32,115,111,117,114,99,101,10,114,32,114,101,100,117,99,101,32,115,32,58,32,97,99,99,32,43,32,118,97,108,10,116,32,115,105,110,107,32,114]}
def sumsJ:Jb:=⟨2,[⟨{data:=#[115]},1,[],Ex.zero,0⟩,⟨{data:=#[114]},6,[0],.mk 7 0 [.mk 4 0 [],.mk 3 0 []],0⟩,⟨{data:=#[116]},9,[1],Ex.zero,0⟩]⟩
theorem sums_parse:pScript sumsB=(sumsJ,0,0):=by kernel_rfl
theorem sums_ok:sumsJ.ok:=by
 have:=pScript_ok sumsB;rw[sums_parse]at this;exact this
