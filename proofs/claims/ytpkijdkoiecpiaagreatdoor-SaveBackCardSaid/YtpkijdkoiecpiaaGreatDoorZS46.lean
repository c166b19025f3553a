/-
  Parts of the proof: HJ HG HK HI HL.
-/
import Derived.Test.YtpkijdkoiecpiaaGreatDoorZS12
import Derived.Test.YtpkijdkoiecpiaaGreatDoorZS31
import Derived.Test.YtpkijdkoiecpiaaGreatDoorZS35
import Derived.Test.YtpkijdkoiecpiaaGreatDoorZS36
import Derived.Test.YtpkijdkoiecpiaaGreatDoorZS45
namespace Go.Proofs.YtpkijdkoiecpiaaGreatDoor
open Go.RowKit
set_option linter.unusedVariables false
set_option linter.unusedSimpArgs false
theorem SvIn.at_ {w:World} {P:Nat → Prop} {v:Value} {x:Sv} (h:SvIn w P v x) (hP:∀ b,P b → b < w.heap.size):SvAt w v x :=
 let ⟨nv,sv,h1,h2,h3⟩:=h; ⟨nv,sv,h1,h2.toAt hP,h3.keep hP (fun _ _ => rfl)⟩
theorem SvIn.below {w w':World} {P:Nat → Prop} {v:Value} {x:Sv} (h:SvIn w P v x) (hP:∀ b,P b → b < w.heap.size) (hb:Below w.heap.size w w'):SvIn w' P v x:=h.keep (fun _ k => k) fun b k => hb.block b (hP b k)
theorem SvAt.below {w w':World} {v:Value} {x:Sv} (h:SvAt w v x) (hb:Below w.heap.size w w'):SvAt w' v x :=
 let ⟨nv,sv,h1,h2,h3⟩:=h; ⟨nv,sv,h1,(h2.keep hb).mono hb.size,h3.keep (fun b k => Nat.lt_of_lt_of_le k hb.size) fun b k => hb.block b k⟩
theorem SvIn.slices {w:World} {P:Nat → Prop} {v:Value} {x:Sv} (h:SvIn w P v x):∃ a cap sa scap,v = .agg (svC x (.slice a x.job.nodes.length cap) (.slice sa x.states.length scap)):=by
 obtain ⟨nv,sv,rfl,hn,hs⟩:=h
 obtain ⟨a,cap,rfl, -, -⟩:=hn.slice
 obtain ⟨sa,scap,rfl, -, -⟩:=hs.slice
 exact ⟨a,cap,sa,scap,rfl⟩
theorem set5 {w W:World} {g:Nat} {t:TypeId} {c0 c1 c2 c3 c4:Value} (h:Blk W g t #[c0,c1,c2,c3,c4]) (hB:Below w.heap.size w W) (hg:w.heap.size ≤ g) (a0 a1 a2 a3 a4:Value) :
    Blk (((((W.setCell ⟨g,0,none⟩ a0).setCell ⟨g,1,none⟩ a1).setCell ⟨g,2,none⟩ a2).setCell ⟨g,3,none⟩ a3).setCell ⟨g,4,none⟩ a4) g t #[a0,a1,a2,a3,a4] ∧
    Below w.heap.size w (((((W.setCell ⟨g,0,none⟩ a0).setCell ⟨g,1,none⟩ a1).setCell ⟨g,2,none⟩ a2).setCell ⟨g,3,none⟩ a3).setCell ⟨g,4,none⟩ a4) ∧
    (∀ b,b ≠ g → (((((W.setCell ⟨g,0,none⟩ a0).setCell ⟨g,1,none⟩ a1).setCell ⟨g,2,none⟩ a2).setCell ⟨g,3,none⟩ a3).setCell ⟨g,4,none⟩ a4).heap[b]? = W.heap[b]?) ∧
    (((((W.setCell ⟨g,0,none⟩ a0).setCell ⟨g,1,none⟩ a1).setCell ⟨g,2,none⟩ a2).setCell ⟨g,3,none⟩ a3).setCell ⟨g,4,none⟩ a4).heap.size = W.heap.size :=
  ⟨((((h.set 0 a0).set 1 a1).set 2 a2).set 3 a3).set 4 a4,
   ((((hB.setCell (p:=⟨g,0,none⟩) hg _).setCell (p:=⟨g,1,none⟩) hg _).setCell (p:=⟨g,2,none⟩) hg _).setCell (p:=⟨g,3,none⟩) hg _).setCell (p:=⟨g,4,none⟩) hg _,
   fun b hb => (heap_setCell_other _ ⟨g,4,none⟩ b _ hb).trans ((heap_setCell_other _ ⟨g,3,none⟩ b _ hb).trans ((heap_setCell_other _ ⟨g,2,none⟩ b _ hb).trans ((heap_setCell_other _ ⟨g,1,none⟩ b _ hb).trans (heap_setCell_other _ ⟨g,0,none⟩ b _ hb)))),by simp [World.setCell]⟩
theorem readSv_eq (d:Dk):d.readSv = if (d.read 4).2 ≠ 0 then (sv0,(d.read 4).2) else if (d.read 4).1.size = 0 then (sv0,4) else takeSv (d.read 4).1:=rfl
set_option maxRecDepth 100000 in
set_option maxHeartbeats 4000000 in
theorem SvRead_c (w:World) (M:Nat → Prop) (D:Nat) (d:Dk) (h:DkAt w M D d) (hsz:(d.read 4).1.size ≤ 990000) :
  Calls Tryz.prog 44 #[px D] w fun e w' => (∃ v,e = .returned (.tuple #[v, .int .i64 d.readSv.2]) ∧ SvIn w' (fun c => w.heap.size ≤ c ∧ c < w'.heap.size) v d.readSv.1) ∧ Below w.heap.size w w':=by
 have hA:=(Below.refl w.heap.size w).alloc (Nat.le_refl _) (.cells #[.int .i64 0, .int .i64 0, .int .i64 0, .slice none 0 0, .slice none 0 0] 81)
 have hres:=Blk.new w #[.int .i64 0, .int .i64 0, .int .i64 0, .slice none 0 0, .slice none 0 0] 81
 have HRD:=Lib.hid (Read_c _ M D d (h.below hA) 4)
 have HE:=Lib.hid (readSv_eq d)
 generalize d.readSv = R at *
 generalize d.read 4 = rd at *
 obtain ⟨s,re⟩:=rd
 dsimp only at HRD HE hsz
 unfold px at *
 clear h
 go_enter Tryz.func44,Tryz.ntmps44
 go_upto_region 1 with fail
 have hz1:(w.alloc (.cells #[.int .i64 0, .int .i64 0, .int .i64 0, .slice none 0 0, .slice none 0 0] 81)).heap.size = w.heap.size + 1:=by simp
 generalize World.alloc w _ = W1 at *
 have HZ1:=Lib.hid hz1
 clear hz1
 go_upto_region 4 with (first | (go_at_call 77; refine HRD.out.mono ?_; rintro e w2 ⟨rfl,hb2⟩) | fail)
 have hB2:=hA.trans (hb2.mono hA.size)
 have hr2:=hres.below hb2 hres.lt
 have r0:=hr2.cell 0
 have r1:=hr2.cell 1
 have r2:=hr2.cell 2
 have r3:=hr2.cell 3
 have r4:=hr2.cell 4
 have f0:=hr2.free 0
 have f1:=hr2.free 1
 have f2:=hr2.free 2
 have f3:=hr2.free 3
 have f4:=hr2.free 4
 have HG:=Lib.hid (set5 hr2 hB2 (Nat.le_refl _) (.int .i64 0) (.int .i64 0) (.int .i64 0) (.slice none 0 0) (.slice none 0 0))
 have HB2:=Lib.hid hB2
 have HR2:=Lib.hid hr2
 have HL:Hid (w.heap.size < w2.heap.size):=Nat.lt_of_lt_of_le (by rw [HZ1.out]; exact Nat.lt_succ_self _) hb2.size
 clear hA hres hb2 hB2 hr2
 by_cases hre:re = 0
 case neg =>
  rw [if_pos hre] at HE
  have e0:(re != 0) = true:=by simpa using hre
  clear hre
  go_wp2_with fail
  refine bodyPost_ret (v := .tuple #[.agg #[_,_,_,_,_],_]) (results_cell_row2P rfl _ _ w.heap.size 81 _ (0,0) _ rfl HG.out.1 Tryz.underlying81 rfl ?_ (.int .i64 re) rfl) rfl ?_
  ·as_aux_lemma => kernel_rfl
  rw [HE.out]
  exact ⟨⟨_,rfl,_,_,rfl,NodesIn.nil _ _,StaRd.nil _ _⟩,HG.out.2.1⟩
 subst hre
 rw [if_neg (by decide)] at HE
 cases hq:s.toList.isEmpty
 case true =>
  have HE2:Hid (R = (sv0,4)):=by show _ = _; rw [HE.out,if_pos ((str_empty s).1 hq)]
  go_wp2_with fail
  refine bodyPost_ret (v := .tuple #[.agg #[_,_,_,_,_],_]) (results_cell_row2P rfl _ _ w.heap.size 81 _ (0,0) _ rfl HG.out.1 Tryz.underlying81 rfl ?_ (.int .i64 4) rfl) rfl ?_
  ·as_aux_lemma => kernel_rfl
  rw [HE2.out]
  exact ⟨⟨_,rfl,_,_,rfl,NodesIn.nil _ _,StaRd.nil _ _⟩,HG.out.2.1⟩
 case false =>
  have HE2:Hid (R = takeSv s):=by show _ = _; rw [HE.out,if_neg ((str_empty s).2 hq)]
  have HT:=Lib.hid (SvTake_c s hsz w2)
  clear r0 r1 r2 r3 r4 f0 f1 f2 f3 f4 HG HE HRD hsz
  generalize takeSv s = TK at *
  obtain ⟨x,te⟩:=TK
  dsimp only at HT
  go_wp2_with (first
   | (go_at_call 41; refine HT.out.mono ?_; rintro e w3 ⟨⟨v,rfl,hin⟩,hb3⟩; obtain ⟨a,cap,sa,scap,hv⟩:=hin.slices; unfold svC at hv; subst hv; have hr3:=HR2.out.below hb3 HL.out; have r0:=hr3.cell 0; have r1:=hr3.cell 1; have r2:=hr3.cell 2; have r3:=hr3.cell 3; have r4:=hr3.cell 4; have f0:=hr3.free 0; have f1:=hr3.free 1; have f2:=hr3.free 2; have f3:=hr3.free 3; have f4:=hr3.free 4; have HG:=Lib.hid (set5 hr3 (HB2.out.trans (hb3.mono HB2.out.size)) (Nat.le_refl _) (.int .i64 x.n) (.int .i64 x.cut) (.int .i64 x.job.par) (.slice a x.job.nodes.length cap) (.slice sa x.states.length scap)); have HIN:=Lib.hid hin; have HS3:=Lib.hid hb3.size; clear hr3 hin hb3)
   | fail)
  refine bodyPost_ret (v := .tuple #[.agg #[_,_,_,_,_],_]) (results_cell_row2P rfl _ _ w.heap.size 81 _ (0,0) _ rfl HG.out.1 Tryz.underlying81 rfl ?_ (.int .i64 te) rfl) rfl ?_
  ·as_aux_lemma => kernel_rfl
  rw [HE2.out]
  refine ⟨⟨_,rfl,HIN.out.keep (fun c hc => ?_) (fun c hc => HG.out.2.2.1 c ?_)⟩,HG.out.2.1⟩
  ·rw [HG.out.2.2.2]
   have:=HL.out
   exact ⟨by omega,hc.2⟩
  ·have:=HL.out
   have:=hc.1
   omega
set_option maxRecDepth 100000 in
set_option maxHeartbeats 4000000 in
theorem SvRead_nil (w:World):Calls Tryz.prog 44 #[.pointer none] w fun e w' => (∃ v,e = .returned (.tuple #[v, .int .i64 1]) ∧ SvIn w' (fun c => w.heap.size ≤ c ∧ c < w'.heap.size) v sv0) ∧ Below w.heap.size w w':=by
 have hA:=(Below.refl w.heap.size w).alloc (Nat.le_refl _) (.cells #[.int .i64 0, .int .i64 0, .int .i64 0, .slice none 0 0, .slice none 0 0] 81)
 have hr:=Blk.new w #[.int .i64 0, .int .i64 0, .int .i64 0, .slice none 0 0, .slice none 0 0] 81
 go_enter Tryz.func44,Tryz.ntmps44
 go_upto_region 1 with fail
 generalize World.alloc w _ = W1 at *
 have HG:=Lib.hid (set5 hr hA (Nat.le_refl _) (.int .i64 0) (.int .i64 0) (.int .i64 0) (.slice none 0 0) (.slice none 0 0))
 have r0:=hr.cell 0
 have r1:=hr.cell 1
 have r2:=hr.cell 2
 have r3:=hr.cell 3
 have r4:=hr.cell 4
 have f0:=hr.free 0
 have f1:=hr.free 1
 have f2:=hr.free 2
 have f3:=hr.free 3
 have f4:=hr.free 4
 clear hr hA
 go_wp2_with fail
 refine bodyPost_ret (v := .tuple #[.agg #[_,_,_,_,_],_]) (results_cell_row2P rfl _ _ w.heap.size 81 _ (0,0) _ rfl HG.out.1 Tryz.underlying81 rfl ?_ (.int .i64 1) rfl) rfl ?_
 ·as_aux_lemma => kernel_rfl
 exact ⟨⟨_,rfl,_,_,rfl,NodesIn.nil _ _,StaRd.nil _ _⟩,HG.out.2.1⟩
theorem run_neq_state (x1 x2 y1 y2:ByteArray) (w:World) :
  (binOp .neq 151 (.agg #[.string x1, .string x2]) (.agg #[.string y1, .string y2])).run Tryz.prog w = .ok (.bool (!Sta.sameB ⟨x1,x2⟩ ⟨y1,y2⟩)) w:=by
 have hb:=bytes_inj x1 y1
 have hb2:=bytes_inj x2 y2
 go_simp
 unfold Sta.sameB
 dsimp only
 by_cases h1:x1 = y1
 ·by_cases h2:x2 = y2
  ·simp [h1,h2]
  ·simp [h1,h2]
 ·simp [h1]
set_option maxHeartbeats 400000 in
theorem EqualState_c (v1 v2:Value) (P:Nat → Prop) (l1 l2:List Sta) (w:World) (h1:StaRd w P v1 l1) (h2:StaRd w P v2 l2) :
  Calls Tryz.prog 104 #[v1,v2] w fun e w' => e = .returned (.bool (stasEq l1 l2)) ∧ ∃ n,w' = w.drewN n:=by
 obtain ⟨a1,cap1,rfl,hc1,hm1⟩:=h1.slice
 obtain ⟨a2,cap2,rfl,hc2,hm2⟩:=h2.slice
 have hm3:l1.length ≤ 9223372036854775807:=by unfold maxLen at hm1; omega
 by_cases hl:l1.length = l2.length
 ·obtain ⟨n,hn1⟩:∃ n,l1.length = n:=⟨_,rfl⟩
  have hn2:l2.length = n:=by omega
  have H1:=Lib.hid h1
  have H2:=Lib.hid h2
  rw [hn1] at H1 hm3 hc1 ⊢
  rw [hn2] at H2 hc2 ⊢
  have HN1:=Lib.hid hn1
  have HN2:=Lib.hid hn2
  clear h1 h2 hn1 hn2 hl
  go_enter Tryz.func104,Tryz.ntmps104
  go_wp2
  go_loopw [13] (fun i wr => ∃ k m:Nat,i = .int .i64 k ∧ k ≤ n ∧ wr = w.drewN m ∧ stasEq (l1.drop k) (l2.drop k) = stasEq l1 l2) (fun i _ => n - (intOf i).toNat)
  case atStart => exact ⟨0,0,rfl,by omega,rfl,rfl⟩
  case round =>
   obtain ⟨k,m,rfl,hk,rfl,hr⟩:=hrel
   by_cases hlt:k < n
   ·have g1:k < l1.length:=by rw [HN1.out]; exact hlt
    have g2:k < l2.length:=by rw [HN2.out]; exact hlt
    obtain ⟨b1,o1,c1,e1,_,p0,p1⟩:=H1.out.at_ k g1
    obtain ⟨b2,o2,c2,e2,_,q0,q1⟩:=H2.out.at_ k g2
    rw [HN1.out] at e1
    rw [HN2.out] at e2
    simp only [Value.slice.injEq,true_and] at e1 e2
    obtain ⟨rfl,rfl⟩:=e1
    obtain ⟨rfl,rfl⟩:=e2
    rw [List.drop_eq_getElem_cons g1,List.drop_eq_getElem_cons g2] at hr
    generalize l1[k] = x at *
    generalize l2[k] = y at *
    simp only [stasEq] at hr
    have HR:=Lib.hid hr
    clear hr
    obtain ⟨x1,x2⟩:=x
    obtain ⟨y1,y2⟩:=y
    have hne:=run_neq_state x1 x2 y1 y2
    generalize hT:Sta.sameB ⟨x1,x2⟩ ⟨y1,y2⟩ = T at *
    cases T
    ·go_wp2
     go_quiet (fail)
     go_wp2
     go_ret
     exact ⟨ret_bool (by rw [← HR.out]; rfl),_,World.drewN_drewN _ _ _⟩
    ·go_wp2
     go_quiet (fail)
     go_wp2
     go_roundw
     case rel => exact ⟨k + 1,m + nq,by go_num,by omega,rfl,by rw [← HR.out,Bool.true_and]⟩
     case measure => simp [intOf]; omega
   ·have hkn:k = n:=by omega
    have HK:=Lib.hid hkn
    clear hkn
    have e1:l1.drop k = []:=List.drop_of_length_le (by have:=HN1.out; omega)
    have e2:l2.drop k = []:=List.drop_of_length_le (by have:=HN2.out; omega)
    rw [e1,e2] at hr
    have HR:=Lib.hid hr
    clear hr e1 e2
    go_wp2
    go_ret
    exact ⟨ret_bool (by rw [← HR.out]; rfl),_,rfl⟩
 ·have hne:((l1.length:Int) != (l2.length:Int)) = true:=by rw [bne_iff_ne]; omega
  have HE:=Lib.hid (stasEq_len hl)
  clear h1 h2
  go_enter Tryz.func104,Tryz.ntmps104
  go_wp2
  go_ret
  exact ⟨ret_bool HE.out.symm,0,rfl⟩
set_option maxRecDepth 100000 in
set_option maxHeartbeats 4000000 in
theorem SvSame_c (x y:Sv) (v u:Value) (w:World) (hv:SvAt w v x) (hu:SvAt w u y) :
  Calls Tryz.prog 47 #[v,u] w fun e w' => e = .returned (.bool (x.sameB y)) ∧ Below w.heap.size w w':=by
 obtain ⟨nv,sv,rfl,hn,hs⟩:=hv
 obtain ⟨mv,tv,rfl,hm,ht⟩:=hu
 have HJ:Hid (∀ W:World,Below w.heap.size w W → Calls Tryz.prog 66 #[.agg #[.int .i64 x.job.par,nv], .agg #[.int .i64 y.job.par,mv]] W fun e w' => e = .returned (.bool (x.job.sameB y.job)) ∧ Below W.heap.size W w') :=
  fun W hb => JSame_c x.job y.job _ _ w.heap.size W ⟨_,rfl,hn.keep hb⟩ ⟨_,rfl,hm.keep hb⟩ hb.size
 have HS:Hid (∀ W:World,Below w.heap.size w W → Calls Tryz.prog 104 #[sv,tv] W fun e w' => e = .returned (.bool (stasEq x.states y.states)) ∧ ∃ n,w' = W.drewN n) :=
  fun W hb => EqualState_c sv tv (· < w.heap.size) x.states y.states W (hs.keep (fun _ k => k) fun b k => hb.block b k) (ht.keep (fun _ k => k) fun b k => hb.block b k)
 obtain ⟨a,cap,rfl, -, -⟩:=hn.slice
 obtain ⟨a',cap',rfl, -, -⟩:=hm.slice
 obtain ⟨s,scap,rfl, -, -⟩:=hs.slice
 obtain ⟨s',scap',rfl, -, -⟩:=ht.slice
 have HE:Hid (x.sameB y = ((x.n == y.n) && ((x.cut == y.cut) && (x.job.sameB y.job && stasEq x.states y.states)))):=rfl
 have hB:=two_bel w (svC x (.slice a x.job.nodes.length cap) (.slice s x.states.length scap)) (svC y (.slice a' y.job.nodes.length cap') (.slice s' y.states.length scap')) 81 81
 have HJ2:=Lib.hid (HJ.out _ hB)
 unfold svC at *
 generalize x.sameB y = R at *
 generalize x.job.sameB y.job = bj at *
 generalize stasEq x.states y.states = bs at *
 have HB:=Lib.hid hB
 clear hn hm hs ht HJ hB
 cases h1:(x.n == y.n)
 ·rw [h1] at HE
  have HR:Hid (R = false):=HE.out
  go_enter Tryz.func47,Tryz.ntmps47
  go_wp2_with fail
  go_ret
  rw [HR.out]
  exact ⟨rfl,HB.out⟩
 rw [h1] at HE
 cases h2:(x.cut == y.cut)
 ·rw [h2] at HE
  have HR:Hid (R = false):=HE.out
  go_enter Tryz.func47,Tryz.ntmps47
  go_wp2_with fail
  go_ret
  rw [HR.out]
  exact ⟨rfl,HB.out⟩
 rw [h2] at HE
 have HE2:Hid (R = (bj && bs)):=HE.out
 clear HE
 have hb1:=(Blk.new w #[.int .i64 x.n, .int .i64 x.cut, .int .i64 x.job.par, .slice a x.job.nodes.length cap, .slice s x.states.length scap] 81).alloc (.cells #[.int .i64 y.n, .int .i64 y.cut, .int .i64 y.job.par, .slice a' y.job.nodes.length cap', .slice s' y.states.length scap'] 81)
 have hb2:=Blk.new_at (w.alloc (.cells #[.int .i64 x.n, .int .i64 x.cut, .int .i64 x.job.par, .slice a x.job.nodes.length cap, .slice s x.states.length scap] 81)) #[.int .i64 y.n, .int .i64 y.cut, .int .i64 y.job.par, .slice a' y.job.nodes.length cap', .slice s' y.states.length scap'] 81 (k:=w.heap.size + 1) (by simp)
 cases bj
 ·have HR:Hid (R = false):=HE2.out
  clear hb1 hb2
  go_enter Tryz.func47,Tryz.ntmps47
  go_wp2_with (first | (go_at_call 66; refine HJ2.out.mono ?_; rintro e w3 ⟨rfl,hb3⟩) | fail)
  go_ret
  rw [HR.out]
  exact ⟨rfl,HB.out.trans (hb3.mono HB.out.size)⟩
 ·have HR:Hid (R = bs):=HE2.out
  go_enter Tryz.func47,Tryz.ntmps47
  go_upto_region 1 with fail
  generalize World.alloc (World.alloc w _) _ = W2 at *
  have n0:=hb1.cell 0
  have n1:=hb1.cell 1
  have n2:=hb1.cell 2
  have n3:=hb1.cell 3
  have n4:=hb1.cell 4
  have m0:=hb2.cell 0
  have m1:=hb2.cell 1
  have m2:=hb2.cell 2
  have m3:=hb2.cell 3
  have m4:=hb2.cell 4
  have HB1:=Lib.hid hb1
  have HB2:=Lib.hid hb2
  clear hb1 hb2
  go_wp2_with (first
   | (go_at_call 66; refine HJ2.out.mono ?_; rintro e w3 ⟨rfl,hb3⟩; have k4:=(HB1.out.below hb3 HB1.out.lt).cell 4; have l4:=(HB2.out.below hb3 HB2.out.lt).cell 4; have HS3:=Lib.hid (HS.out w3 (HB.out.trans (hb3.mono HB.out.size))); have HB3:=Lib.hid hb3; clear hb3 n4 m4)
   | (go_at_call 104; refine HS3.out.mono ?_; rintro e w4 ⟨rfl,nd,rfl⟩)
   | fail)
  go_ret
  rw [HR.out]
  exact ⟨rfl,below_drewN (HB.out.trans (HB3.out.mono HB.out.size)) nd⟩
set_option maxRecDepth 100000 in
set_option maxHeartbeats 4000000 in
theorem rSvSame_c (x y:Sv) (v u:Value) (w:World) (hv:SvAt w v x) (hu:SvAt w u y) :
  Calls Tryz.prog 50 #[v,u] w fun e w' => e = .returned (.bool (x.sameB y)) ∧ Below w.heap.size w w':=by
 obtain ⟨nv,sv,rfl,hn,hs⟩:=hv
 obtain ⟨mv,tv,rfl,hm,ht⟩:=hu
 have HJ:Hid (∀ W:World,Below w.heap.size w W → Calls Tryz.prog 81 #[.agg #[.int .i64 x.job.par,nv], .agg #[.int .i64 y.job.par,mv]] W fun e w' => e = .returned (.bool (x.job.sameB y.job)) ∧ Below W.heap.size W w') :=
  fun W hb => rJSame_c x.job y.job _ _ w.heap.size W ⟨_,rfl,hn.keep hb⟩ ⟨_,rfl,hm.keep hb⟩ hb.size
 obtain ⟨a,cap,rfl, -, -⟩:=hn.slice
 obtain ⟨a',cap',rfl, -, -⟩:=hm.slice
 obtain ⟨s,scap,rfl,hsc,hsm⟩:=hs.slice
 obtain ⟨s',scap',rfl, -, -⟩:=ht.slice
 have HE:Hid (x.sameB y = ((x.n == y.n) && ((x.cut == y.cut) && (x.job.sameB y.job && stasEq x.states y.states)))):=rfl
 have hB:=two_bel w (svC x (.slice a x.job.nodes.length cap) (.slice s x.states.length scap)) (svC y (.slice a' y.job.nodes.length cap') (.slice s' y.states.length scap')) 81 81
 have HJ2:=Lib.hid (HJ.out _ hB)
 unfold svC at *
 generalize x.sameB y = R at *
 generalize x.job.sameB y.job = bj at *
 have HS:=Lib.hid hs
 have HT:=Lib.hid ht
 have HB:=Lib.hid hB
 clear hn hm hs ht HJ hB
 have hnm:x.states.length ≤ 9223372036854775807:=by unfold maxLen at hsm; omega
 cases h1:(x.n == y.n)
 ·rw [h1] at HE
  have HR:Hid (R = false):=HE.out
  have h1':(x.n != y.n) = true:=by rw [bne,h1]; rfl
  go_enter Tryz.func50,Tryz.ntmps50
  go_wp2_with fail
  go_ret
  rw [HR.out]
  exact ⟨rfl,HB.out⟩
 rw [h1] at HE
 have h1':(x.n != y.n) = false:=by rw [bne,h1]; rfl
 cases h2:(x.cut == y.cut)
 ·rw [h2] at HE
  have HR:Hid (R = false):=HE.out
  have h2':(x.cut != y.cut) = true:=by rw [bne,h2]; rfl
  go_enter Tryz.func50,Tryz.ntmps50
  go_wp2_with fail
  go_ret
  rw [HR.out]
  exact ⟨rfl,HB.out⟩
 rw [h2] at HE
 have h2':(x.cut != y.cut) = false:=by rw [bne,h2]; rfl
 have HE2:Hid (R = (bj && stasEq x.states y.states)):=HE.out
 clear HE
 by_cases hlen:x.states.length = y.states.length
 case neg =>
  have hne:((x.states.length:Int) != (y.states.length:Int)) = true:=by rw [bne_iff_ne]; omega
  have HR:Hid (R = false):=by show _ = _; rw [HE2.out,stasEq_len hlen,Bool.and_false]
  clear hlen
  go_enter Tryz.func50,Tryz.ntmps50
  go_wp2_with fail
  go_ret
  rw [HR.out]
  exact ⟨rfl,HB.out⟩
 have hb1:=(Blk.new w #[.int .i64 x.n, .int .i64 x.cut, .int .i64 x.job.par, .slice a x.job.nodes.length cap, .slice s x.states.length scap] 81).alloc (.cells #[.int .i64 y.n, .int .i64 y.cut, .int .i64 y.job.par, .slice a' y.job.nodes.length cap', .slice s' y.states.length scap'] 81)
 have hb2:=Blk.new_at (w.alloc (.cells #[.int .i64 x.n, .int .i64 x.cut, .int .i64 x.job.par, .slice a x.job.nodes.length cap, .slice s x.states.length scap] 81)) #[.int .i64 y.n, .int .i64 y.cut, .int .i64 y.job.par, .slice a' y.job.nodes.length cap', .slice s' y.states.length scap'] 81 (k:=w.heap.size + 1) (by simp)
 have HLEN:=Lib.hid hlen
 obtain ⟨n,hn⟩:∃ n,x.states.length = n:=⟨_,rfl⟩
 have hn2:y.states.length = n:=by omega
 have HN:=Lib.hid hn
 have HN2:=Lib.hid hn2
 rw [hn] at hb1 hb2 HB HJ2 HS hnm ⊢
 rw [hn2] at hb1 hb2 HB HJ2 HT ⊢
 clear hlen hn hn2
 go_enter Tryz.func50,Tryz.ntmps50
 go_upto_region 1 with fail
 generalize World.alloc (World.alloc w _) _ = W2 at *
 have n0:=hb1.cell 0
 have n1:=hb1.cell 1
 have n2:=hb1.cell 2
 have n3:=hb1.cell 3
 have n4:=hb1.cell 4
 have m0:=hb2.cell 0
 have m1:=hb2.cell 1
 have m2:=hb2.cell 2
 have m3:=hb2.cell 3
 have m4:=hb2.cell 4
 have HB1:=Lib.hid hb1
 have HB2:=Lib.hid hb2
 clear hb1 hb2
 cases bj
 ·have HR:Hid (R = false):=HE2.out
  go_wp2_with (first | (go_at_call 81; refine HJ2.out.mono ?_; rintro e w3 ⟨rfl,hb3⟩) | fail)
  go_ret
  rw [HR.out]
  exact ⟨rfl,HB.out.trans (hb3.mono HB.out.size)⟩
 have HR:Hid (R = stasEq x.states y.states):=HE2.out
 clear HE2
 go_upto_region 3 with (first | (go_at_call 81; refine HJ2.out.mono ?_; rintro e w3 ⟨rfl,hb3⟩) | fail)
 have hB3:=HB.out.trans (hb3.mono HB.out.size)
 have p4:=(HB1.out.below hb3 HB1.out.lt).cell 4
 have q4:=(HB2.out.below hb3 HB2.out.lt).cell 4
 have HB3:=Lib.hid hB3
 clear n0 n1 n2 n3 n4 m0 m1 m2 m3 m4 hB3 hb3 HJ2
 have HXS:Hid (StaRd w3 (· < w.heap.size) (.slice s n scap) x.states):=HS.out.keep (fun _ k => k) fun b k => HB3.out.block b k
 have HYS:Hid (StaRd w3 (· < w.heap.size) (.slice s' n scap') y.states):=HT.out.keep (fun _ k => k) fun b k => HB3.out.block b k
 clear HS HT
 go_wp2_with fail
 go_loopw [5] (fun q wr => ∃ k m:Nat,q = .int .i64 k ∧ k ≤ n ∧ wr = w3.drewN m ∧ stasEq (x.states.drop k) (y.states.drop k) = stasEq x.states y.states) (fun q _ => n - (intOf q).toNat)
 case atStart => exact ⟨0,0,rfl,Nat.zero_le _,rfl,rfl⟩
 case round =>
  obtain ⟨k,m,rfl,hk,rfl,hr⟩:=hrel
  by_cases hlt:k < n
  ·have g1:k < x.states.length:=by rw [HN.out]; exact hlt
   have g2:k < y.states.length:=by rw [HN2.out]; exact hlt
   obtain ⟨b1,o1,c1,e1,_,u0,u1⟩:=HXS.out.at_ k g1
   obtain ⟨b2,o2,c2,e2,_,v0,v1⟩:=HYS.out.at_ k g2
   rw [HN.out] at e1
   rw [HN2.out] at e2
   simp only [Value.slice.injEq,true_and] at e1 e2
   obtain ⟨rfl,rfl⟩:=e1
   obtain ⟨rfl,rfl⟩:=e2
   rw [List.drop_eq_getElem_cons g1,List.drop_eq_getElem_cons g2] at hr
   generalize x.states[k] = xs at *
   generalize y.states[k] = ys at *
   simp only [stasEq] at hr
   have HRR:=Lib.hid hr
   clear hr
   obtain ⟨x1,x2⟩:=xs
   obtain ⟨y1,y2⟩:=ys
   have hne:=run_neq_state x1 x2 y1 y2
   generalize hT:Sta.sameB ⟨x1,x2⟩ ⟨y1,y2⟩ = T at *
   have HTT:=Lib.hid hT
   clear hT
   cases T
   ·go_wp2
    go_quiet (fail)
    go_wp2
    go_ret
    rw [HR.out, ← HRR.out]
    exact ⟨rfl,by rw [World.drewN_drewN]; exact below_drewN HB3.out _⟩
   ·go_wp2
    go_quiet (fail)
    go_wp2
    go_roundw
    case rel => exact ⟨k + 1,m + nq,by go_num,by omega,rfl,by rw [← HRR.out,Bool.true_and]⟩
    case measure => simp [intOf]; omega
  ·have hkn:k = n:=by omega
   have hEN:Hid (R = true):=by
    show _ = _
    rw [HR.out, ← hr,List.drop_of_length_le (by rw [HN.out]; omega),List.drop_of_length_le (by rw [HN2.out]; omega)]
    rfl
   subst hkn
   clear hr
   go_wp2
   go_ret
   rw [hEN.out]
   exact ⟨rfl,below_drewN HB3.out _⟩
set_option maxHeartbeats 2000000 in
theorem Heavy18_c (x:Sv) (w:World) (nv sv:Value) (hn:NodesAt w w.heap.size x.job.nodes nv) (hs:StaRd w (· < w.heap.size) sv x.states) :
  Calls Tryz.prog 105 #[.agg #[.int .i64 x.job.par,nv],sv, .slice none 0 0] w fun e w' => e = .returned (.bool x.heavyB) ∧ Below w.heap.size w w':=by
 obtain ⟨a,cap,rfl, -, -⟩:=hn.slice
 obtain ⟨sa,scap,rfl,hsc,hsm⟩:=hs.slice
 have hA:=(Below.refl w.heap.size w).alloc (Nat.le_refl _) (.cells #[.int .i64 x.job.par, .slice a x.job.nodes.length cap] 26)
 have hbx:=Blk.new w #[.int .i64 x.job.par, .slice a x.job.nodes.length cap] 26
 have HJ:Hid (∀ W:World,Below w.heap.size w W → Calls Tryz.prog 54 #[.agg #[.int .i64 x.job.par, .slice a x.job.nodes.length cap]] W fun e w' => e = .returned (.bool x.job.heavyB) ∧ Below W.heap.size W w') :=
  fun W hb => Heavy_c x.job _ w.heap.size W ⟨_,rfl,hn.keep hb⟩ hb.size
 have HE:Hid (x.heavyB = (heavySt x.states || (x.job.heavyB || decide (40 < (x.states.length:Int))))):=rfl
 generalize x.heavyB = R at *
 generalize x.job.heavyB = bj at *
 have HS:=Lib.hid hs
 have hnm:x.states.length ≤ 9223372036854775807:=by unfold maxLen at hsm; omega
 generalize x.states = l at *
 obtain ⟨n,hn2⟩:∃ n,l.length = n:=⟨_,rfl⟩
 rw [hn2] at HE HS hnm hsc ⊢
 have HN:=Lib.hid hn2
 clear hn hs hn2
 go_enter Tryz.func105,Tryz.ntmps105
 go_upto_region 1 with fail
 generalize World.alloc w _ = W at *
 have HBX:=Lib.hid hbx
 have HA:=Lib.hid hA
 clear hbx hA
 go_upto_region 2 with fail
 go_loopw [11] (fun q wr => ∃ k:Nat,q = .int .i64 k ∧ k ≤ n ∧ Below W.heap.size W wr ∧ heavySt (l.drop k) = heavySt l) (fun q _ => n - (intOf q).toNat)
 case atStart => exact ⟨0,rfl,Nat.zero_le _,Below.refl _ _,rfl⟩
 case round =>
  obtain ⟨k,rfl,hk,hB,hr⟩:=hrel
  have hBw:=HA.out.trans (hB.mono HA.out.size)
  by_cases hlt:k < n
  ·have hkl:k < l.length:=by rw [HN.out]; exact hlt
   obtain ⟨b,off,cp,e1,hb,c0,c1⟩:=HS.out.at_ k hkl
   rw [HN.out] at e1
   simp only [Value.slice.injEq,true_and] at e1
   obtain ⟨rfl,rfl⟩:=e1
   have c0:=(hBw.cell (p:=⟨b,off + k * 2,none⟩) hb).trans c0
   have c1:=(hBw.cell (p:=⟨b,off + k * 2 + 1,none⟩) hb).trans c1
   rw [List.drop_eq_getElem_cons hkl] at hr
   simp only [heavySt] at hr
   generalize l[k] = s at *
   have hB2:=hB.alloc hB.size (.cells #[.string s.uid, .string s.bytes] 151)
   have HB2:=Lib.hid hB2
   have HBW2:=Lib.hid (hBw.alloc hBw.size (.cells #[.string s.uid, .string s.bytes] 151))
   have HR:=Lib.hid hr
   have HSH:Hid (s.heavy = (decide (20000 < (s.bytes.size:Int)) || decide (1000 < (s.uid.size:Int)))):=rfl
   generalize s.heavy = sh at *
   clear hB hB2 hBw hr
   cases d1:decide (20000 < (s.bytes.size:Int))
   ·cases d2:decide (1000 < (s.uid.size:Int))
    ·rw [d1,d2] at HSH
     go_wp2_with fail
     go_roundw
     case rel => exact ⟨k + 1,by go_num,by omega,HB2.out,by rw [← HR.out,HSH.out]; rfl⟩
     case measure => simp [intOf]; omega
    ·rw [d1,d2] at HSH
     go_wp2_with fail
     go_ret
     refine ⟨ret_bool ?_,HBW2.out⟩
     rw [HE.out, ← HR.out,HSH.out]
     rfl
   ·rw [d1] at HSH
    go_wp2_with fail
    go_ret
    refine ⟨ret_bool ?_,HBW2.out⟩
    rw [HE.out, ← HR.out,HSH.out]
    rfl
  ·have hkn:k = n:=by omega
   have hE2:Hid (R = (bj || decide (40 < (n:Int)))):=by
    show _ = _
    rw [HE.out, ← hr,List.drop_of_length_le (by rw [HN.out]; omega)]
    rfl
   subst hkn
   have hbr:=HBX.out.below hB HBX.out.lt
   have c0:=hbr.cell 0
   have c1:=hbr.cell 1
   have HJ2:=Lib.hid (HJ.out wr hBw)
   have HBW:=Lib.hid hBw
   clear hbr hB hr hBw
   cases bj
   ·cases d1:decide (40 < (k:Int))
    all_goals
     rw [d1] at hE2
     go_wp2_with (first | (go_at_call 54; refine HJ2.out.mono ?_; rintro e w3 ⟨rfl,hb3⟩) | fail)
     go_ret
     rw [hE2.out]
     exact ⟨rfl,HBW.out.trans (hb3.mono HBW.out.size)⟩
   ·go_wp2_with (first | (go_at_call 54; refine HJ2.out.mono ?_; rintro e w3 ⟨rfl,hb3⟩) | fail)
    go_ret
    rw [hE2.out]
    exact ⟨rfl,HBW.out.trans (hb3.mono HBW.out.size)⟩
set_option maxHeartbeats 1000000 in
theorem SvHeavy_c (x:Sv) (v:Value) (w:World) (hv:SvAt w v x) :
  Calls Tryz.prog 48 #[v] w fun e w' => e = .returned (.bool x.heavyB) ∧ Below w.heap.size w w':=by
 obtain ⟨nv,sv,rfl,hn,hs⟩:=hv
 have hA:=(Below.refl w.heap.size w).alloc (Nat.le_refl _) (.cells (svC x nv sv) 81)
 have HH:=Lib.hid (Heavy18_c x _ nv sv ((hn.keep hA).mono hA.size) (hs.keep (fun b hb => Nat.lt_of_lt_of_le hb hA.size) (fun b hb => hA.block b hb)))
 obtain ⟨a,cap,rfl, -, -⟩:=hn.slice
 obtain ⟨sa,scap,rfl, -, -⟩:=hs.slice
 have HA:=Lib.hid hA
 unfold svC at *
 clear hn hs hA
 go_enter Tryz.func48,Tryz.ntmps48
 go_wp2_with (first | (go_at_call 105; refine HH.out.mono ?_; rintro e w3 ⟨rfl,hb3⟩) | fail)
 go_ret
 exact ⟨rfl,HA.out.trans (hb3.mono HA.out.size)⟩
def DS (w W:World) (D:Nat) (d:Dk):Prop:=∃ M:Nat → Prop,DkAt W M D d ∧ (∀ b,M b → w.heap.size ≤ b) ∧ Below w.heap.size w W
namespace DS
variable {w W W':World} {D:Nat} {d d':Dk}
theorem below (h:DS w W D d):Below w.heap.size w W:=let ⟨_,_,_,h3⟩:=h; h3
theorem keep (h:DS w W D d) (hb:Below W.heap.size W W'):DS w W' D d:=let ⟨M,h1,h2,h3⟩:=h; ⟨M,h1.below hb,h2,h3.trans (hb.mono h3.size)⟩
theorem alloc (h:DS w W D d) (o:Obj):DS w (W.alloc o) D d:=h.keep ((Below.refl _ _).alloc (Nat.le_refl _) _)
theorem of_to {M:Nat → Prop} (hM:∀ b,M b → w.heap.size ≤ b) (hB:Below w.heap.size w W) (hT:DkTo W W' M D d'):DS w W' D d':=by
 obtain ⟨hf,N,hN,hR⟩:=hT
 refine ⟨N,hR,fun b q => ?_,hB.trans (hf.below hB.size (fun k hk e => by have:=hM k e; omega))⟩
 rcases hN b q with h | h
 ·exact hM b h
 ·exact Nat.le_trans hB.size h
theorem write (h:DS w W D d) (x:Sv) (hok:x.Ok) (hfew:x.few) (v:Value) (hv:SvAt W v x) (hsz:(putSv x).1.length ≤ 140737488355328) (hll:d.loose.length ≤ 999999990) :
  Calls Tryz.prog 46 #[px D,v] W fun e w' => e = .returned (.int .i64 (d.write x).2) ∧ DS w w' D (d.write x).1:=by
 obtain ⟨M,h1,h2,h3⟩:=h
 refine (SvWrite_c W M D d h1 x hok hfew v hv hsz hll).mono ?_
 rintro e w' ⟨rfl,hT⟩
 exact ⟨rfl,of_to h2 h3 hT⟩
theorem read (h:DS w W D d) (hsz:(d.read 4).1.size ≤ 990000) :
  Calls Tryz.prog 44 #[px D] W fun e w' => ∃ a cap sa scap,e = .returned (.tuple #[.agg (svC d.readSv.1 (.slice a d.readSv.1.job.nodes.length cap) (.slice sa d.readSv.1.states.length scap)), .int .i64 d.readSv.2]) ∧
   SvIn w' (fun c => W.heap.size ≤ c ∧ c < w'.heap.size) (.agg (svC d.readSv.1 (.slice a d.readSv.1.job.nodes.length cap) (.slice sa d.readSv.1.states.length scap))) d.readSv.1 ∧ DS w w' D d ∧ Below W.heap.size W w':=by
 obtain ⟨M,h1,h2,h3⟩:=h
 refine (SvRead_c W M D d h1 hsz).mono ?_
 rintro e w' ⟨⟨v,rfl,hv⟩,hb⟩
 obtain ⟨a,cap,sa,scap,rfl⟩:=hv.slices
 exact ⟨a,cap,sa,scap,rfl,hv,⟨M,h1.below hb,h2,h3.trans (hb.mono h3.size)⟩,hb⟩
theorem new (w:World) (room:Int) (h1:1 ≤ room) (h2:room ≤ 4194304):Calls Tryz.prog 15 #[.int .i64 room] w fun e w' => ∃ D,e = .returned (.tuple #[px D, .int .i64 0]) ∧ DS w w' D (Dk.new room):=by
 refine (New_c room w).mono ?_
 rintro e w' ⟨hb,⟨_,_,rfl,hd⟩ | ⟨h,_⟩⟩
 ·exact ⟨_,rfl,_,hd,fun b e => Nat.le_of_eq e.symm,hb⟩
 ·omega
end DS
set_option maxRecDepth 100000 in
set_option maxHeartbeats 1000000 in
theorem first_c (w:World) (h:Env w):Calls Tryz.prog 43 #[] w fun e w' =>
  ∃ a c,e = .returned (.agg #[.int .i64 1, .int .i64 3, .int .i64 2, .slice a 3 c, .slice none 0 0]) ∧ SvIn w' (fun b => w.heap.size ≤ b ∧ b < w'.heap.size) (.agg #[.int .i64 1, .int .i64 3, .int .i64 2, .slice a 3 c, .slice none 0 0]) firstSv ∧ Below w.heap.size w w':=by
 have hA:=(Below.refl w.heap.size w).alloc (Nat.le_refl _) (.cells #[.int .i64 0, .int .i64 0, .int .i64 0, .slice none 0 0, .slice none 0 0] 81)
 have hres:=Blk.new w #[.int .i64 0, .int .i64 0, .int .i64 0, .slice none 0 0, .slice none 0 0] 81
 have HP:=Lib.hid (made_c _ (h.keep hA))
 clear h
 go_enter Tryz.func43,Tryz.ntmps43
 go_upto_region 1 with fail
 have hz:(w.alloc (.cells #[.int .i64 0, .int .i64 0, .int .i64 0, .slice none 0 0, .slice none 0 0] 81)).heap.size = w.heap.size + 1:=by simp
 generalize World.alloc w _ = W at *
 go_wp2_with (first
  | (go_at_call 67; refine HP.out.mono ?_; rintro e w2 ⟨a,c,rfl,hn,hb⟩; have hr2:=hres.below hb hres.lt; have r0:=hr2.cell 0; have r1:=hr2.cell 1; have r2:=hr2.cell 2; have r3:=hr2.cell 3; have r4:=hr2.cell 4; have f0:=hr2.free 0; have f1:=hr2.free 1; have f2:=hr2.free 2; have f3:=hr2.free 3; have f4:=hr2.free 4; have HG:=Lib.hid (set5 hr2 (hA.trans (hb.mono hA.size)) (Nat.le_refl _) (.int .i64 1) (.int .i64 3) (.int .i64 2) (.slice a 3 c) (.slice none 0 0)); have HN:=Lib.hid hn; clear hr2 hb hn)
  | fail)
 refine bodyPost_ret (v := .agg #[.int .i64 1, .int .i64 3, .int .i64 2, .slice a 3 c, .slice none 0 0]) (results_cell_row rfl _ _ w.heap.size 81 _ (0,0) _ rfl HG.out.1 Tryz.underlying81 rfl ?_) rfl ⟨a,c,rfl,⟨_,_,rfl,HN.out.keep (fun b k => ?_) (fun b k => HG.out.2.2.1 b ?_),StaRd.nil _ _⟩,HG.out.2.1⟩
 ·as_aux_lemma => kernel_rfl
 ·rw [HG.out.2.2.2]
  exact ⟨by omega,k.2⟩
 ·have:=k.1
  omega
theorem few_first:firstSv.few:=⟨by decide,by unfold firstSv; simp⟩
theorem size_first:(putSv firstSv).1.length ≤ 140737488355328:=Nat.le_trans (putSv_small first_ok (by kernel_rfl)) (by decide)
theorem dk1_size:(dk1.1.read 4).1.size ≤ 990000:=by decide +kernel
theorem dk0_size:((Dk.new 5000).read 4).1.size ≤ 990000:=by decide +kernel
set_option maxRecDepth 100000 in
set_option maxHeartbeats 4000000 in
theorem works23_c (w:World) (h:Env w):Calls Tryz.prog 45 #[] w fun e w' => e = .returned (.bool true) ∧ Below w.heap.size w w':=by
 have HN:=Lib.hid (DS.new w 5000 (by decide) (by decide))
 have HF:Hid (∀ W,Below w.heap.size w W → _):=fun W (hb:Below w.heap.size w W) => first_c W (h.keep hb)
 have HR1:Hid (∀ W D,DS w W D (Dk.new 5000) → Calls Tryz.prog 44 #[px D] W fun e w' => ∃ a cap sa scap,e = .returned (.tuple #[.agg #[.int .i64 0, .int .i64 0, .int .i64 0, .slice a 0 cap, .slice sa 0 scap], .int .i64 4]) ∧ DS w w' D (Dk.new 5000)):=fun W D h => by
  have:=h.read dk0_size
  rw [new_read] at this
  refine this.mono ?_
  rintro e w' ⟨a,cap,sa,scap,rfl,_,h2,_⟩
  exact ⟨a,cap,sa,scap,rfl,h2⟩
 have HW:Hid (∀ W D v,DS w W D (Dk.new 5000) → SvAt W v firstSv → Calls Tryz.prog 46 #[px D,v] W fun e w' => e = .returned (.int .i64 0) ∧ DS w w' D dk1.1):=fun W D v h hv => by
  have:=h.write firstSv first_ok few_first v hv size_first (by decide)
  rw [show ((Dk.new 5000).write firstSv).2 = 0 from dk1_e] at this
  exact this
 have HR2:Hid (∀ W D,DS w W D dk1.1 → Calls Tryz.prog 44 #[px D] W fun e w' => ∃ a cap sa scap,e = .returned (.tuple #[.agg #[.int .i64 1, .int .i64 3, .int .i64 2, .slice a 3 cap, .slice sa 0 scap], .int .i64 0]) ∧ SvIn w' (fun c => W.heap.size ≤ c ∧ c < w'.heap.size) (.agg #[.int .i64 1, .int .i64 3, .int .i64 2, .slice a 3 cap, .slice sa 0 scap]) firstSv ∧ DS w w' D dk1.1):=fun W D h => by
  have:=h.read dk1_size
  rw [dk1_read] at this
  refine this.mono ?_
  rintro e w' ⟨a,cap,sa,scap,rfl,h1,h2,_⟩
  exact ⟨a,cap,sa,scap,rfl,h1,h2⟩
 have HSM:Hid (∀ W v u,SvAt W v firstSv → SvAt W u firstSv → Calls Tryz.prog 50 #[v,u] W fun e w' => e = .returned (.bool true) ∧ Below W.heap.size W w'):=fun W v u hv hu => by
  have:=rSvSame_c firstSv firstSv v u W hv hu
  rw [Sv.sameB_refl] at this
  exact this
 unfold px at *
 clear h
 go_enter Tryz.func45,Tryz.ntmps45
 go_upto_region 5 with (first
  | (go_at_call 15; refine HN.out.mono ?_; rintro e w1 ⟨D,rfl,d1⟩; have D1:=Lib.hid d1; clear d1)
  | (go_at_call 44; refine (HR1.out _ _ D1.out).mono ?_; rintro e w2 ⟨a2,cap2,sa2,scap2,rfl,d2⟩; have D2:=Lib.hid (d2.alloc (.cells #[.int .i64 0, .int .i64 0, .int .i64 0, .slice a2 0 cap2, .slice sa2 0 scap2] 81)); clear D1 d2)
  | (go_at_call 43; refine (HF.out _ D2.out.below).mono ?_; rintro e w3 ⟨a3,cap3,rfl,v3,b3⟩; have D3:=Lib.hid (D2.out.keep b3); have V3:=Lib.hid (v3.at_ (fun _ k => k.2)); clear D2 v3 b3)
  | (go_at_call 46; refine (HW.out _ _ _ D3.out V3.out).mono ?_; rintro e w4 ⟨rfl,d4⟩; have D4:=Lib.hid d4; clear D3 V3 d4)
  | (go_at_call 44; refine (HR2.out _ _ D4.out).mono ?_; rintro e w5 ⟨a5,cap5,sa5,scap5,rfl,v5,d5⟩; have D5:=Lib.hid (d5.alloc (.cells #[.int .i64 1, .int .i64 3, .int .i64 2, .slice a5 3 cap5, .slice sa5 0 scap5] 81)); have V5:=Lib.hid ((v5.at_ (fun _ k => k.2)).below ((Below.refl _ _).alloc (Nat.le_refl _) (.cells #[.int .i64 1, .int .i64 3, .int .i64 2, .slice a5 3 cap5, .slice sa5 0 scap5] 81))); have B5:=Lib.hid (Blk.new w5 #[.int .i64 1, .int .i64 3, .int .i64 2, .slice a5 3 cap5, .slice sa5 0 scap5] 81); clear D4 v5 d5)
  | fail)
 generalize World.alloc w5 _ = W5 at *
 have c0:=B5.out.cell 0
 have c1:=B5.out.cell 1
 have c2:=B5.out.cell 2
 have c3:=B5.out.cell 3
 have c4:=B5.out.cell 4
 have HF5:=Lib.hid (HF.out W5.drew D5.out.below.drew)
 clear HF HN HR1 HW HR2
 go_region_with (first
  | (go_at_call 43; refine HF5.out.mono ?_; rintro e w6 ⟨a6,cap6,rfl,v6,b6⟩; have b6':Below W5.heap.size W5 w6:=(Below.refl _ W5).drew.trans b6; have k0:=(B5.out.below b6' B5.out.lt).cell 0; have k1:=(B5.out.below b6' B5.out.lt).cell 1; have k2:=(B5.out.below b6' B5.out.lt).cell 2; have k3:=(B5.out.below b6' B5.out.lt).cell 3; have k4:=(B5.out.below b6' B5.out.lt).cell 4; have V6:=Lib.hid (v6.at_ (fun _ k => k.2)); have VV:=Lib.hid (V5.out.below b6'); have BB:=Lib.hid (D5.out.below.trans (b6'.mono D5.out.below.size)); clear v6 b6 b6')
  | (go_at_call 50; refine (HSM.out _ _ _ VV.out V6.out).mono ?_; rintro e w7 ⟨rfl,b7⟩))
 all_goals
  go_wp2_with fail
  go_ret
  exact ⟨rfl,BB.out.trans (b7.mono BB.out.size)⟩
end Go.Proofs.YtpkijdkoiecpiaaGreatDoor
