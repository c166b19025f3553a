/- Parts. -/
import Derived.Test.YtgbfdcmkbblodaaGreatDoorVXc
import Derived.Test.YtgbfdcmkbblodaaGreatDoorVXd
namespace Go.Proofs.YtgbfdcmkbblodaaGreatDoor
open Go.RowKit
set_option linter.unusedVariables false
set_option linter.unusedSimpArgs false
set_option maxRecDepth 100000
set_option maxHeartbeats 16000000
open Tryz
def Sta.heavy (s:Sta):Bool:=decide (20000<(s.bytes.size:Int))||decide (1000<(s.uid.size:Int))
def heavySt:List Sta->Bool
 | []=>false
 |s::l=>s.heavy||heavySt l
def Sv.heavyB (x:Sv):Bool:=heavySt x.states||(x.job.heavyB||decide (40<(x.states.length:Int)))
theorem heavySt_small: ∀ {l:List Sta},heavySt l=false-> ∀s∈l,s.uid.size<=1000/\s.bytes.size<=20000
 | [],_=>fun s h=>by cases h
 |a::l,h=>by
  simp only[heavySt,Bool.or_eq_false_iff,Sta.heavy,decide_eq_false_iff_not]at h
  intro s hs
  rcases List.mem_cons.1 hs with rfl|hs
  ·omega
  ·exact heavySt_small h.2 s hs
theorem Sv.heavy_small {x:Sv} (h:x.heavyB=false):x.job.heavyB=false/\x.states.length<=40/\ ∀s∈x.states,s.uid.size<=1000/\s.bytes.size<=20000:=by
 simp only[Sv.heavyB,Bool.or_eq_false_iff,decide_eq_false_iff_not]at h;exact⟨h.2.1,by omega,heavySt_small h.1⟩
theorem putSt_small: ∀(l:List Sta),(∀s∈l,s.uid.size<=1000/\s.bytes.size<=20000)->(putSt l).1.length<=21100*l.length
 | [],_=>by simp[putSt]
 |s::l,h=>by
  have h1:=putSt_small l (fun y hy=>h y (by simp[hy]))
  obtain⟨a,b⟩:=h s (by simp)
  have h2:=(txtL_len s.uid (by omega)).1
  have h3:=(txtL_len s.bytes (by omega)).1
  unfold putSt
  split
  ·simp
  ·have h4:=(txtL_len (bstr (stL s)) (by unfold stL;rw[bstr_size,la0];omega)).1
   rw[bstr_size]at h4
   unfold stL at h4⊢
   rw[la0]at h4
   show(frL 10 (bstr (txtL s.uid++txtL s.bytes))++(putSt l).1).length<=21100*(l.length+1)
   rw[la0,frL_len]
   omega
theorem putSv_small {x:Sv} (hok:x.Ok) (h:x.heavyB=false):(putSv x).1.length<=950000:=by
 obtain⟨_,h2,h3⟩:=Sv.heavy_small h;have h4:=putSt_small x.states h3;unfold putSv;split
 ·simp
 ·rename_i hb;split
  ·simp
  ·have hm:x.job.may.2=0:=by
    apply loadE_may (l:=x.states);simp only[Sv.bad,Bool.or_eq_true,decide_eq_true_eq,not_or,ne_eq,Decidable.not_not]at hb;exact hb.1
   have h5:=(Sv.head_size hok hm).2;have h6:=(txtL_len (bstr x.head) h5).1;show(frL 9 (bstr x.head)++(putSt x.states).1).length<=_;rw[la0,frL_len];omega
def firstSv:Sv:=⟨1,3,sumsJ,[]⟩
theorem first_ok:firstSv.Ok:=⟨⟨by decide,by decide⟩,⟨by decide,by decide⟩,sums_ok,by decide⟩
theorem first_put:(putSv firstSv).2=0:=by kernel_rfl
theorem new_read:(Dk.new 5000).readSv=(sv0,4):=by kernel_rfl
def dk1:Dk×Int:=(Dk.new 5000).write firstSv
theorem dk1_e:dk1.2=0:=by kernel_rfl
theorem dk1_read:dk1.1.readSv=(firstSv,0):=by
 have h:=write_first 5000 firstSv dk1_e;have hk:Kck dk1.1 firstSv:=⟨h.2.len,h.2.off,h.2.loose,h.2.sure,by kernel_rfl,h.2.save⟩;exact hk.read first_ok first_put
def Sta.sameB (a b:Sta):Bool:=decide (a.uid=b.uid)&&decide (a.bytes=b.bytes)
def stasEq:List Sta->List Sta->Bool
 | [],[]=>true
 |a::l,b::m=>a.sameB b&&stasEq l m
 |_,_=>false
theorem stasEq_refl: ∀l:List Sta,stasEq l l=true
 | []=>rfl
 |a::l=>by simp[stasEq,Sta.sameB,stasEq_refl l]
theorem stasEq_len: ∀ {a b:List Sta},a.length≠b.length->stasEq a b=false
 | [],[],h=>absurd rfl h
 | [],_::_,_=>rfl
 |_::_,[],_=>rfl
 |x::l,y::m,h=>by simp only[stasEq];rw[stasEq_len (by simpa using h),Bool.and_false]
def Sv.sameB (a b:Sv):Bool:=(a.n==b.n)&&((a.cut==b.cut)&&(a.job.sameB b.job&&stasEq a.states b.states))
theorem Sv.sameB_refl (x:Sv):x.sameB x=true:=by unfold Sv.sameB;simp[Jb.same_refl,stasEq_refl]
theorem SvIn.at_ {w:World} {P:Nat->Prop} {v:Value} {x:Sv} (h:SvIn w P v x) (hP: ∀b,P b->b<w.heap.size):SvAt w v x:=
 let ⟨nv,sv,h1,h2,h3⟩:=h;⟨nv,sv,h1,h2.toAt hP,h3.keep hP (fun _ _=>rfl)⟩
theorem SvAt.below {w w':World} {v:Value} {x:Sv} (h:SvAt w v x) (hb:Below w.heap.size w w'):SvAt w' v x:=
 let ⟨nv,sv,h1,h2,h3⟩:=h;⟨nv,sv,h1,(h2.keep hb).mono hb.size,h3.keep (fun b k=>lt1 k hb.size) fun b k=>hb.block b k⟩
theorem SvIn.slices {w:World} {P:Nat->Prop} {v:Value} {x:Sv} (h:SvIn w P v x): ∃a cap sa scap,v= .agg (svC x (.slice a x.job.nodes.length cap) (.slice sa x.states.length scap)):=by
 obtain⟨nv,sv,rfl,hn,hs⟩:=h;obtain⟨a,cap,rfl,-,-⟩:=hn.slice;obtain⟨sa,scap,rfl,-,-⟩:=hs.slice;exact⟨a,cap,sa,scap,rfl⟩
theorem set5 {w W:World} {g:Nat} {t:TypeId} {c0 c1 c2 c3 c4:Value} (h:Blk W g t #[c0,c1,c2,c3,c4]) (hB:Below w.heap.size w W) (hg:w.heap.size<=g) (a0 a1 a2 a3 a4:Value):
    Blk (((((W.setCell ⟨g,0,none⟩ a0).setCell ⟨g,1,none⟩ a1).setCell ⟨g,2,none⟩ a2).setCell ⟨g,3,none⟩ a3).setCell ⟨g,4,none⟩ a4) g t #[a0,a1,a2,a3,a4]/\
    Below w.heap.size w (((((W.setCell ⟨g,0,none⟩ a0).setCell ⟨g,1,none⟩ a1).setCell ⟨g,2,none⟩ a2).setCell ⟨g,3,none⟩ a3).setCell ⟨g,4,none⟩ a4)/\
    (∀b,b≠g->(((((W.setCell ⟨g,0,none⟩ a0).setCell ⟨g,1,none⟩ a1).setCell ⟨g,2,none⟩ a2).setCell ⟨g,3,none⟩ a3).setCell ⟨g,4,none⟩ a4).heap[b]? =W.heap[b]?)/\
    (((((W.setCell ⟨g,0,none⟩ a0).setCell ⟨g,1,none⟩ a1).setCell ⟨g,2,none⟩ a2).setCell ⟨g,3,none⟩ a3).setCell ⟨g,4,none⟩ a4).heap.size=W.heap.size:=
  ⟨((((h.set 0 a0).set 1 a1).set 2 a2).set 3 a3).set 4 a4,
   ((((hB.setCell (p:=⟨g,0,none⟩) hg _).setCell (p:=⟨g,1,none⟩) hg _).setCell (p:=⟨g,2,none⟩) hg _).setCell (p:=⟨g,3,none⟩) hg _).setCell (p:=⟨g,4,none⟩) hg _,
   fun b hb=>(heap_setCell_other _ ⟨g,4,none⟩ b _ hb).trans ((heap_setCell_other _ ⟨g,3,none⟩ b _ hb).trans ((heap_setCell_other _ ⟨g,2,none⟩ b _ hb).trans ((heap_setCell_other _ ⟨g,1,none⟩ b _ hb).trans (heap_setCell_other _ ⟨g,0,none⟩ b _ hb)))),by simp[World.setCell]⟩
theorem readSv_eq (d:Dk):d.readSv=if(d.read 4).2≠0 then(sv0,(d.read 4).2)else if(d.read 4).1.size=0 then(sv0,4)else takeSv (d.read 4).1:=rfl
theorem SvRead_c (w:World) (M:Nat->Prop) (D:Nat) (d:Dk) (h:DkAt w M D d) (hsz:(d.read 4).1.size<=990000):
  Calls prog 23 #[px D] w fun e w'=>(∃v,e= .returned (.tuple #[v,.int .i64 d.readSv.2])/\SvIn w' (fun c=>w.heap.size<=c/\c<w'.heap.size) v d.readSv.1)/\Below w.heap.size w w':=by
 have hA:=(Below.refl w.heap.size w).alloc le0 (.cells #[.int .i64 0,.int .i64 0,.int .i64 0,.slice none 0 0,.slice none 0 0] 27);have hres:=Blk.new w #[.int .i64 0,.int .i64 0,.int .i64 0,.slice none 0 0,.slice none 0 0] 27;have HRD:=Lh (Read_c _ M D d (h.below hA) 4);have HE:=Lh (readSv_eq d);generalize d.readSv=R at*;generalize d.read 4=rd at*;obtain⟨s,re⟩:=rd;dsimp only at HRD HE hsz;unfold px at*;clear h;go_enter func23,ntmps23
 go_upto_region 1 with fail
 have hz1:(w.alloc (.cells #[.int .i64 0,.int .i64 0,.int .i64 0,.slice none 0 0,.slice none 0 0] 27)).heap.size=w.heap.size+1:=by simp
 generalize World.alloc w _=W1 at*;have HZ1:=Lh hz1;clear hz1
 go_upto_region 4 with (first|(go_at_call 61;refine HRD.o.mono ?_;rintro e w2 ⟨rfl,hb2⟩)|fail)
 have hB2:=hA.trans (hb2.mono hA.size);have hr2:=hres.below hb2 hres.lt;obtain⟨r0,r1,r2,r3,r4⟩:=hr2.q5;obtain⟨f0,f1,f2,f3,f4⟩:=hr2.u5;have HG:=Lh (set5 hr2 hB2 le0 (.int .i64 0) (.int .i64 0) (.int .i64 0) (.slice none 0 0) (.slice none 0 0));have HB2:=Lh hB2;have HR2:=Lh hr2;have HL:Hd (w.heap.size<w2.heap.size):=lt1 (by rw[HZ1.o];exact Nat.lt_succ_self _) hb2.size;clear hA hres hb2 hB2 hr2;by_cases hre:re=0
 case neg=>
  rw[if_pos hre]at HE;have e0:(re !=0)=true:=by simpa using hre
  clear hre
  go_wp2_with fail
  refine bodyPost_ret (v:= .tuple #[.agg #[_,_,_,_,_],_]) (results_cell_row2P rfl _ _ w.heap.size 27 _ (0,0) _ rfl HG.o.1 underlying27 rfl ?_ (.int .i64 re) rfl) rfl ?_
  ·as_aux_lemma=>kernel_rfl
  rw[HE.o];exact⟨⟨_,rfl,_,_,rfl,NodesIn.nil _ _,StaRd.nil _ _⟩,HG.o.2.1⟩
 subst hre;rw[if_neg (by decide)]at HE
 cases hq:s.toList.isEmpty
 case true=>
  have HE2:Hd (R=(sv0,4)):=by show _=_;rw[HE.o,if_pos ((str_empty s).1 hq)]
  go_wp2_with fail
  refine bodyPost_ret (v:= .tuple #[.agg #[_,_,_,_,_],_]) (results_cell_row2P rfl _ _ w.heap.size 27 _ (0,0) _ rfl HG.o.1 underlying27 rfl ?_ (.int .i64 4) rfl) rfl ?_
  ·as_aux_lemma=>kernel_rfl
  rw[HE2.o];exact⟨⟨_,rfl,_,_,rfl,NodesIn.nil _ _,StaRd.nil _ _⟩,HG.o.2.1⟩
 case false=>
  have HE2:Hd (R=takeSv s):=by show _=_;rw[HE.o,if_neg ((str_empty s).2 hq)]
  have HT:=Lh (SvTake_c s hsz w2);clear r0 r1 r2 r3 r4 f0 f1 f2 f3 f4 HG HE HRD hsz;generalize takeSv s=TK at*;obtain⟨x,te⟩:=TK;dsimp only at HT
  go_wp2_with (first
   |(go_at_call 11;refine HT.o.mono ?_;rintro e w3 ⟨⟨v,rfl,hin⟩,hb3⟩;obtain⟨a,cap,sa,scap,hv⟩:=hin.slices;unfold svC at hv;subst hv;have hr3:=HR2.o.below hb3 HL.o;obtain⟨r0,r1,r2,r3,r4⟩:=hr3.q5;obtain⟨f0,f1,f2,f3,f4⟩:=hr3.u5;have HG:=Lh (set5 hr3 (HB2.o.trans (hb3.mono HB2.o.size)) le0 (.int .i64 x.n) (.int .i64 x.cut) (.int .i64 x.job.par) (.slice a x.job.nodes.length cap) (.slice sa x.states.length scap));have HIN:=Lh hin;have HS3:=Lh hb3.size;clear hr3 hin hb3)
   |fail)
  refine bodyPost_ret (v:= .tuple #[.agg #[_,_,_,_,_],_]) (results_cell_row2P rfl _ _ w.heap.size 27 _ (0,0) _ rfl HG.o.1 underlying27 rfl ?_ (.int .i64 te) rfl) rfl ?_
  ·as_aux_lemma=>kernel_rfl
  rw[HE2.o];refine⟨⟨_,rfl,HIN.o.keep (fun c hc=>?_) (fun c hc=>HG.o.2.2.1 c ?_)⟩,HG.o.2.1⟩
  ·rw[HG.o.2.2.2];have:=HL.o;exact⟨by omega,hc.2⟩
  ·have:=HL.o;have:=hc.1;omega
