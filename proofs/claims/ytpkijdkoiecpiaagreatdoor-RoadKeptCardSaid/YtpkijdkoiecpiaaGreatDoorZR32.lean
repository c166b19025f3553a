/-
  Parts of the proof: P8 P9 PA PB PC.
-/
import Derived.Test.YtpkijdkoiecpiaaGreatDoorZR20
import Derived.Test.YtpkijdkoiecpiaaGreatDoorZR26
import Derived.Test.YtpkijdkoiecpiaaGreatDoorZR31
namespace Go.Proofs.YtpkijdkoiecpiaaGreatDoor
open Go.RowKit
set_option linter.unusedVariables false
set_option linter.unusedSimpArgs false
def recGo:Nat → List Frm → List Value
 | _,[] => []
 | n,p :: l => .int .u8 (p.1:Int) :: .string p.2 :: .int .i64 ((n + (frL p.1 p.2).length:Nat):Int) :: recGo (n + (frL p.1 p.2).length) l
theorem recGo_snoc:∀ (n:Nat) (l:List Frm) (p:Frm),recGo n (l ++ [p]) = recGo n l ++ [.int .u8 (p.1:Int), .string p.2, .int .i64 ((n + (frs l).length + (frL p.1 p.2).length:Nat):Int)]
 | n,[],p => by simp [recGo,frs_nil]
 | n,q :: l,p => by
  simp only [List.cons_append,recGo]
  rw [recGo_snoc _ l p,frs_cons,List.length_append,show n + (frL q.1 q.2).length + (frs l).length = n + ((frL q.1 q.2).length + (frs l).length) by omega]
theorem recGo_at:∀ (n:Nat) (l:List Frm) (k:Nat) (h:k < l.length),(recGo n l)[k * 3]? = some (.int .u8 (l[k].1:Int)) ∧ (recGo n l)[k * 3 + 1]? = some (.string l[k].2) ∧ (recGo n l)[k * 3 + 2]? = some (.int .i64 ((n + (frs (l.take (k + 1))).length:Nat):Int))
 | n,p :: l,0,_ => by
  refine ⟨rfl,rfl, ?_⟩
  show some _ = some _
  rw [List.take_succ_cons,List.take_zero,frs_cons,frs_nil,List.append_nil]
 | n,p :: l,k + 1,h => by
  obtain ⟨h1,h2,h3⟩:=recGo_at (n + (frL p.1 p.2).length) l k (by simpa using h)
  have e:∀ j,(recGo n (p :: l))[(k + 1) * 3 + j]? = (recGo (n + (frL p.1 p.2).length) l)[k * 3 + j]? := fun j => by
   rw [show (k + 1) * 3 + j = (k * 3 + j) + 1 + 1 + 1 by omega]
   rfl
  refine ⟨(e 0).trans h1,(e 1).trans h2, ?_⟩
  rw [e 2,h3,List.take_succ_cons,frs_cons,List.length_append,show n + (frL p.1 p.2).length + (frs (l.take (k + 1))).length = n + ((frL p.1 p.2).length + (frs (l.take (k + 1))).length) by omega]
def recL (l:List Frm):List Value:=recGo 0 l
def RecAt (w:World) (v:Value) (l:List Frm):Prop:=w.ownsRow 0 191 3 v l.length (recL l)
theorem RecAt.slice {w:World} {v:Value} {l:List Frm} (h:RecAt w v l):∃ a cap,v = .slice a l.length cap ∧ l.length ≤ cap ∧ cap ≤ maxLen:=by
 rcases h.2 with ⟨rfl,h0⟩ | ⟨g,cap,cur,rfl,hb,hg,hn,hc,hs,ht⟩
 ·exact ⟨none,0,by rw [h0],by omega,by unfold maxLen; omega⟩
 ·exact ⟨_,cap,rfl,hn,hc⟩
theorem RecAt.cells {w:World} {v:Value} {l:List Frm} (h:RecAt w v l) (k:Nat) (hk:k < l.length):∃ g cap,v = .slice (some ⟨g,0,none⟩) l.length cap ∧ w.cell? ⟨g,k * 3,none⟩ = some (.int .u8 (l[k].1:Int)) ∧ w.cell? ⟨g,k * 3 + 1,none⟩ = some (.string l[k].2) ∧
  w.cell? ⟨g,k * 3 + 2,none⟩ = some (.int .i64 ((frs (l.take (k + 1))).length:Nat)):=by
 rcases h.2 with ⟨rfl,h0⟩ | ⟨g,cap,cur,rfl,hb,hg,hn,hc,hs,ht⟩
 ·omega
 ·have e:∀ j,j < l.length * 3 → w.cell? ⟨g,j,none⟩ = (recL l)[j]? := fun j hj => by
   rw [cell_of_row w g j cur _ (0,0) hg, ← ht,List.getElem?_take,if_pos hj]
   simp
  obtain ⟨h1,h2,h3⟩:=recGo_at 0 l k hk
  refine ⟨g,cap,rfl, ?_, ?_, ?_⟩
  ·rw [e _ (by omega)]; exact h1
  ·rw [e _ (by omega)]; exact h2
  ·rw [e _ (by omega),show recL l = recGo 0 l from rfl,h3,Nat.zero_add]
theorem RecAt.keep {w w':World} {v:Value} {l:List Frm} (h:RecAt w v l) (hk:∀ g,rowB v g → w'.heap[g]? = w.heap[g]?):RecAt w' v l:=ownsRow_keep h hk
set_option maxHeartbeats 1000000 in
set_option maxRecDepth 100000 in
theorem lend_c (L:Nat) (x0 x1 v x3:Value) (l:List Frm) (k:Nat) (w:World) (hb:Blk w L 185 #[x0,x1,v,x3]) (hr:RecAt w v l) (hk:k ≤ l.length) (hsz:(frs l).length ≤ 140737488355328) :
  Calls Tryz.prog 116 #[px L, .int .i64 (k:Int)] w fun e w' => e = .returned (.int .i64 ((frs (l.take k)).length:Nat)) ∧ w = w':=by
 have c2:=hb.cell 2
 unfold px
 by_cases h0:k = 0
 ·subst h0
  go_enter Tryz.func116,Tryz.ntmps116
  go_wp2_with fail
  go_ret
  exact ⟨rfl,rfl⟩
 ·obtain ⟨m,rfl⟩:∃ m,k = m + 1:=⟨k - 1,by omega⟩
  obtain ⟨g,cap,rfl, -, -, e2⟩:=hr.cells m (by omega)
  obtain ⟨_,_,e1,hcap,hmx⟩:=hr.slice
  simp only [Value.slice.injEq,true_and] at e1
  obtain ⟨rfl,rfl⟩:=e1
  have d0:(((m + 1:Nat):Int) == 0) = false:=by rw [beq_eq_false_iff_ne]; omega
  have hq:((m + 1:Nat):Int) = (m:Int) + 1:=by omega
  rw [hq] at d0 ⊢
  have hlt:(m:Int) < (l.length:Int):=by omega
  have hlm:l.length ≤ 9223372036854775807:=by unfold maxLen at hmx; omega
  clear hr hq hb hsz hk
  generalize (frs (l.take (m + 1))).length = z at *
  generalize l.length = len at *
  go_enter Tryz.func116,Tryz.ntmps116
  go_wp2_with fail
  go_ret
  exact ⟨rfl,rfl⟩
structure LgAt (w:World) (M:Nat → Prop) (L:Nat) (g:Lg) (D:Nat) (d:Dk):Prop where
 file:g.file < 16
 recs:∀ p ∈ g.l,p.ok
 sure:g.sure ≤ g.l.length
 same:fl d.now g.file = bstr (frs g.l)
 mem:M L
 lt:∀ b,M b → b < w.heap.size
 ex:∃ (MD:Nat → Prop) (lv:Value),DkAt w MD D d ∧ (∀ b,MD b → M b ∧ b ≠ L ∧ ¬ rowB lv b) ∧ Blk w L 185 #[px D, .int .i64 (g.file:Int),lv, .int .i64 (g.sure:Int)] ∧ RecAt w lv g.l ∧ ∀ b,rowB lv b → M b ∧ b ≠ L
def LgTo (w w':World) (M:Nat → Prop) (L:Nat) (g':Lg) (D:Nat) (d':Dk):Prop:=Fr M w w' ∧ ∃ N,(∀ b,N b → M b ∨ w.heap.size ≤ b) ∧ LgAt w' N L g' D d'
namespace LgAt
variable {w w':World} {M N:Nat → Prop} {L D:Nat} {g:Lg} {d:Dk}
theorem keep (h:LgAt w M L g D d) (hs:w.heap.size ≤ w'.heap.size) (hk:∀ b,M b → w'.heap[b]? = w.heap[b]?):LgAt w' M L g D d:=by
 obtain ⟨MD,lv,h1,h2,h3,h4,h5⟩:=h.ex
 exact ⟨h.file,h.recs,h.sure,h.same,h.mem,fun b hb => Nat.lt_of_lt_of_le (h.lt b hb) hs,MD,lv,h1.keep hs fun b hb => hk b (h2 b hb).1,h2,(hk L h.mem).trans h3,h4.keep fun b hb => hk b (h5 b hb).1,h5⟩
theorem fr {S:Nat → Prop} (h:LgAt w M L g D d) (hf:Fr S w w') (hS:∀ b,M b → ¬ S b):LgAt w' M L g D d:=h.keep hf.size fun b hb => hf.block b (h.lt b hb) (hS b hb)
theorem below (h:LgAt w M L g D d) (hb:Below w.heap.size w w'):LgAt w' M L g D d:=h.keep hb.size fun b hm => hb.block b (h.lt b hm)
theorem toB (h:LgAt w M L g D d) (hb:Below w.heap.size w w'):LgTo w w' M L g D d:=⟨Fr.of_new hb,M,fun _ hb => .inl hb,h.below hb⟩
theorem disk (h:LgAt w M L g D d):∃ MD,DkAt w MD D d ∧ (∀ b,MD b → M b):=by
 obtain ⟨MD,lv,h1,h2,_⟩:=h.ex
 exact ⟨MD,h1,fun b hb => (h2 b hb).1⟩
theorem step (h:LgAt w M L g D d) {MD:Nat → Prop} {lv:Value} (h2:∀ b,MD b → M b ∧ b ≠ L ∧ ¬ rowB lv b) (h3:Blk w L 185 #[px D, .int .i64 (g.file:Int),lv, .int .i64 (g.sure:Int)]) (h4:RecAt w lv g.l) (h5:∀ b,rowB lv b → M b ∧ b ≠ L)
  {d':Dk} (hT:DkTo w w' MD D d') (hs:fl d'.now g.file = fl d.now g.file):LgTo w w' M L g D d':=by
 obtain ⟨hf,K,hK,hd'⟩:=hT
 have e:∀ b,M b → ¬ MD b → w'.heap[b]? = w.heap[b]? := fun b hb hn => hf.block b (h.lt b hb) hn
 refine ⟨hf.mono (fun b _ hb => (h2 b hb).1),fun b => M b ∨ K b,fun b hb => ?_,h.file,h.recs,h.sure,hs.trans h.same, .inl h.mem,fun b hb => ?_,K,lv,hd',fun b hb => ?_, ?_, ?_,fun b hb => ?_⟩
 ·rcases hb with hb | hb
  ·exact .inl hb
  ·rcases hK b hb with hb | hb
   ·exact .inl (h2 b hb).1
   ·exact .inr hb
 ·rcases hb with hb | hb
  ·have:=h.lt b hb; have:=hf.size; omega
  ·exact hd'.lt b hb
 ·refine ⟨.inr hb, ?_, ?_⟩
  ·rcases hK b hb with hb | hb
   ·exact (h2 b hb).2.1
   ·have:=h.lt L h.mem; omega
  ·intro hr
   rcases hK b hb with hb | hb
   ·exact (h2 b hb).2.2 hr
   ·have:=h.lt b (h5 b hr).1; omega
 ·exact (e L h.mem (fun hm => (h2 L hm).2.1 rfl)).trans h3
 ·exact h4.keep fun b hb => e b (h5 b hb).1 (fun hm => (h2 b hm).2.2 hb)
 ·exact ⟨.inl (h5 b hb).1,(h5 b hb).2⟩
end LgAt
theorem LgTo.trans {w w1 w2:World} {M:Nat → Prop} {L D:Nat} {g1 g2:Lg} {d1 d2:Dk} (h:LgTo w w1 M L g1 D d1) (k:∀ N,LgAt w1 N L g1 D d1 → LgTo w1 w2 N L g2 D d2):LgTo w w2 M L g2 D d2:=by
 obtain ⟨hf,N,hN,h1⟩:=h
 obtain ⟨hf2,N2,hN2,h2⟩:=k N h1
 refine ⟨hf.step hf2 (fun _ _ h => h) (fun i hi hn => ?_),N2,fun b hb => ?_,h2⟩
 ·rcases hN i hn with h | h
  ·exact h
  ·omega
 ·rcases hN2 b hb with h | h
  ·rcases hN b h with h | h
   ·exact .inl h
   ·exact .inr h
  ·exact .inr (Nat.le_trans hf.size h)
theorem lLen_c (w:World) (M:Nat → Prop) (L:Nat) (g:Lg) (D:Nat) (d:Dk) (h:LgAt w M L g D d):Calls Tryz.prog 56 #[px L] w fun e w' => e = .returned (.int .i64 g.l.length) ∧ w = w':=by
 obtain ⟨MD,lv,h1,h2,h3,h4,h5⟩:=h.ex
 obtain ⟨a,cap,rfl,_,_⟩:=h4.slice
 have c2:=h3.cell 2
 unfold px
 clear h1 h2 h3 h4 h5 h
 go_enter Tryz.func56,Tryz.ntmps56
 go_wp2_with fail
 go_ret
 exact ⟨rfl,rfl⟩
theorem drewN_below (w:World) (n:Nat):Below w.heap.size w (w.drewN n):=below_drewN (Below.refl _ _) n
set_option maxRecDepth 100000 in
set_option maxHeartbeats 1000000 in
theorem lAt_c (w:World) (M:Nat → Prop) (L:Nat) (g:Lg) (D:Nat) (d:Dk) (h:LgAt w M L g D d) (k:Nat) (hk:k < g.l.length):Calls Tryz.prog 57 #[px L, .int .i64 (k:Int)] w fun e w' => e = .returned (.tuple #[.int .u8 (g.l[k].1:Nat), .string g.l[k].2, .int .i64 0]) ∧ Below w.heap.size w w':=by
 obtain ⟨MD,lv,h1,h2,h3,h4,h5⟩:=h.ex
 obtain ⟨a,cap,rfl,e0,e1, -⟩:=h4.cells k hk
 obtain ⟨_,_,e2,hcap,hmx⟩:=h4.slice
 simp only [Value.slice.injEq,true_and] at e2
 obtain ⟨rfl,rfl⟩:=e2
 have c2:=h3.cell 2
 have hlm:g.l.length ≤ 9223372036854775807:=by unfold maxLen at hmx; omega
 have d0 : ¬ (k:Int) < 0:=by omega
 have d1:decide ((g.l.length:Int) ≤ (k:Int)) = false:=decide_eq_false (by omega)
 have d2:(k:Int) < (g.l.length:Int):=by omega
 have hk0:(0:Int) ≤ (k:Int):=by omega
 generalize g.l[k] = p at *
 have HK:=Lib.hid hk
 unfold px
 clear h1 h2 h3 h4 h5 h hk
 generalize g.l.length = len at *
 go_enter Tryz.func57,Tryz.ntmps57
 go_upto_region 5 with fail
 go_quiet (fail)
 go_wp2_with fail
 go_ret3
 exact ⟨rfl,drewN_below w _⟩
theorem DkTo.undrew {w w':World} {M:Nat → Prop} {D:Nat} {d:Dk} (h:DkTo w.drew w' M D d):DkTo w w' M D d:=⟨h.1.undrew,h.2⟩
theorem LgTo.drew {w w':World} {M:Nat → Prop} {L D:Nat} {g:Lg} {d:Dk} (h:LgTo w w' M L g D d):LgTo w w'.drew M L g D d :=
 let ⟨hf,N,hN,h1⟩:=h; ⟨hf.drew,N,hN,h1.keep (Nat.le_refl _) fun _ _ => rfl⟩
theorem LgTo.of_below {w w1 w':World} {M:Nat → Prop} {L D:Nat} {g:Lg} {d:Dk} (hb:Below w.heap.size w w1) (h:LgTo w1 w' M L g D d):LgTo w w' M L g D d :=
 let ⟨hf,N,hN,h1⟩:=h; ⟨(Fr.of_new hb).trans hf,N,fun b q => (hN b q).imp id (fun e => Nat.le_trans hb.size e),h1⟩
theorem sync_now (d:Dk):d.sync.1.now = d.now:=by
 obtain ⟨o0,o1,o2,o3⟩:=Dk.op_same d
 unfold Dk.sync
 split
 ·rfl
 ·split
  ·exact o1
  ·exact o1
theorem LgAt.setSure {w:World} {M:Nat → Prop} {L D:Nat} {g:Lg} {d:Dk} (h:LgAt w M L g D d) (n:Nat) (hn:n ≤ g.l.length):LgTo w (w.setCell ⟨L,3,none⟩ (.int .i64 (n:Int))) M L ⟨g.file,g.l,n⟩ D d:=by
 obtain ⟨MD,lv,h1,h2,h3,h4,h5⟩:=h.ex
 have hf:Fr (· = L) w (w.setCell ⟨L,3,none⟩ (.int .i64 (n:Int))):=(Fr.refl (fun x => x = L) w).setCell (p:=⟨L,3,none⟩) (.inl rfl) _
 exact ⟨hf.mono (fun b _ e => e ▸ h.mem),M,fun _ hb => .inl hb,h.file,h.recs,hn,h.same,h.mem,fun b hb => Nat.lt_of_lt_of_le (h.lt b hb) hf.size,MD,lv,h1.fr hf (fun b hb => (h2 b hb).2.1),h2,h3.set 3 _,h4.keep fun b hb => hf.block b (h.lt b (h5 b hb).1) (h5 b hb).2,h5⟩
set_option maxRecDepth 100000 in
set_option maxHeartbeats 2000000 in
theorem lSync_c (w:World) (M:Nat → Prop) (L:Nat) (g:Lg) (D:Nat) (d:Dk) (h:LgAt w M L g D d) :
  Calls Tryz.prog 63 #[px L] w fun e w' => e = .returned (.int .i64 (Lg.sync d g).2.2) ∧ LgTo w w' M L (Lg.sync d g).2.1 D (Lg.sync d g).1:=by
 obtain ⟨MD,lv,h1,h2,h3,h4,h5⟩:=h.ex
 obtain ⟨a,cap,rfl,hcap,hmx⟩:=h4.slice
 have c0:=h3.cell 0
 have c2:=h3.cell 2
 have c3:=h3.cell 3
 have HE:Hid (Lg.sync d g = if g.sure = g.l.length then (d,g,0) else if d.sync.2 ≠ 0 then (d.sync.1,g,d.sync.2) else (d.sync.1,⟨g.file,g.l,g.l.length⟩,0)):=rfl
 generalize Lg.sync d g = R at *
 have HH:=Lib.hid h
 have H2:=Lib.hid h2
 have H3:=Lib.hid h3
 have H4:=Lib.hid h4
 have H5:=Lib.hid h5
 have HS:Hid (∀ W:World,Below w.heap.size w W → Calls Tryz.prog 75 #[px D] W fun e w' => e = .returned (.int .i64 d.sync.2) ∧ DkTo W w' MD D d.sync.1):=fun W hb => Sync_c W MD D d (h1.keep hb.size fun b hm => hb.block b (h1.lt b hm))
 have HSN:=Lib.hid (sync_now d)
 have hlm:g.l.length ≤ 9223372036854775807:=by unfold maxLen at hmx; omega
 have HD1:=Lib.hid h1
 unfold px at c0 HS ⊢
 clear h h1 h2 h3 h4 h5
 by_cases hs:g.sure = g.l.length
 ·rw [if_pos hs] at HE
  have d1:((g.sure:Int) == (g.l.length:Int)) = true:=by rw [beq_iff_eq]; omega
  clear hs
  generalize g.l.length = len at *
  generalize g.sure = sr at *
  go_enter Tryz.func63,Tryz.ntmps63
  go_upto_region 3 with fail
  go_quiet (fail)
  go_wp2_with fail
  go_ret
  rw [HE.out]
  exact ⟨rfl,HH.out.toB (drewN_below w _)⟩
 ·rw [if_neg hs] at HE
  have d1:((g.sure:Int) == (g.l.length:Int)) = false:=by rw [beq_eq_false_iff_ne]; omega
  clear hs
  by_cases he:d.sync.2 = 0
  ·rw [if_neg (by simpa using he)] at HE
   rw [he] at HS
   clear he
   have HQ:=Lib.hid (fun w' (hT:DkTo w w' MD D d.sync.1) => HH.out.step H2.out H3.out H4.out H5.out hT (by rw [HSN.out]))
   generalize d.sync.1 = d1' at *
   go_enter Tryz.func63,Tryz.ntmps63
   go_upto_region 3 with fail
   go_quiet (fail)
   have HBq:=Lib.hid (drewN_below w nq)
   have HSq:=Lib.hid (HS.out (w.drewN nq) HBq.out)
   have c0:=(HBq.out.cell (p:=⟨L,0,none⟩) (HH.out.lt L HH.out.mem)).trans c0
   generalize hW:w.drewN nq = W at *
   go_upto_region 7 with (first | (go_at_call 75; refine HSq.out.mono ?_; rintro e w1 ⟨rfl,hT⟩) | fail)
   have hTw:LgTo w w1 M L g D d1':=HQ.out w1 ⟨by rw [← hW] at hT; exact ⟨hT.1.os,hT.1.tape,hT.1.output,hT.1.size,hT.1.block⟩,by obtain ⟨_,K,hK,hd⟩:=hT; exact ⟨K,fun b hb => (hK b hb).imp id (fun e => by rw [← hW] at e; exact e),hd⟩⟩
   have HTW:=Lib.hid hTw
   have hk:∀ b,b < w.heap.size → ¬ MD b → w1.heap[b]? = w.heap[b]? := fun b hb hn => (hT.1.block b (by rw [← hW]; exact hb) hn).trans (by rw [← hW]; rfl)
   have hbL:Blk w1 L 185 _:=(hk L (HH.out.lt L HH.out.mem) (fun hm => (H2.out L hm).2.1 rfl)).trans H3.out
   have k2:=hbL.cell 2
   have k3:=hbL.cell 3
   have g3:=hbL.free 3
   have hlt1:=hbL.lt
   clear hT hTw hk hbL hW c0 c2 c3
   go_wp2_with fail
   go_ret
   rw [HE.out]
   exact ⟨rfl,HTW.out.trans fun N hN => hN.setSure g.l.length (Nat.le_refl _)⟩
  ·rw [if_pos he] at HE
   have d2:(d.sync.2 == 0) = false:=by rw [beq_eq_false_iff_ne]; exact he
   clear he
   have HQ:=Lib.hid (fun w' (hT:DkTo w w' MD D d.sync.1) => HH.out.step H2.out H3.out H4.out H5.out hT (by rw [HSN.out]))
   generalize d.sync = q at *
   go_enter Tryz.func63,Tryz.ntmps63
   go_upto_region 3 with fail
   go_quiet (fail)
   have HBq:=Lib.hid (drewN_below w nq)
   have HSq:=Lib.hid (HS.out (w.drewN nq) HBq.out)
   have c0:=(HBq.out.cell (p:=⟨L,0,none⟩) (HH.out.lt L HH.out.mem)).trans c0
   generalize hW:w.drewN nq = W at *
   go_wp2_with (first | (go_at_call 75; refine HSq.out.mono ?_; rintro e w1 ⟨rfl,hT⟩) | fail)
   go_ret
   rw [HE.out]
   exact ⟨rfl,HQ.out w1 ⟨by rw [← hW] at hT; exact ⟨hT.1.os,hT.1.tape,hT.1.output,hT.1.size,hT.1.block⟩,by obtain ⟨_,K,hK,hd⟩:=hT; exact ⟨K,fun b hb => (hK b hb).imp id (fun e => by rw [← hW] at e; exact e),hd⟩⟩⟩
theorem info_rec:(Tryz.prog.info? 191).map (fun i => (i.zero,i.size,i.bytes)) = some (some (.agg #[.int .u8 0, .string { data:=#[] }, .int .i64 0]),3,32):=by kernel_rfl
theorem LgAt.grow {w w2 w3:World} {M MD:Nat → Prop} {L D:Nat} {g:Lg} {d:Dk} {p:Frm} {lv:Value} {q cap:Nat}
  (hfile:g.file < 16) (hrecs:∀ p ∈ g.l,p.ok) (hsure:g.sure ≤ g.l.length) (hmem:M L) (hltM:∀ b,M b → b < w.heap.size) (hd:DkAt w MD D d) (h2:∀ b,MD b → M b ∧ b ≠ L ∧ ¬ rowB lv b) (h5:∀ b,rowB lv b → M b ∧ b ≠ L) (hown:RecAt w lv g.l) (hp:p.ok)
  (hgrow:w.grownBy w2 lv.ownBlock) (hat:lv.ownBlock = some q ∨ q = w.heap.size) (hlt:q < w2.heap.size)
  (hown2:RecAt w2 (.slice (some ⟨q,0,none⟩) (g.l.length + 1) cap) (g.l ++ [p]))
  (hb:Blk w3 L 185 #[px D, .int .i64 (g.file:Int), .slice (some ⟨q,0,none⟩) (g.l.length + 1) cap, .int .i64 (g.sure:Int)]) (hf3:Fr (· = L) w2 w3)
  (hsame:fl d.now g.file = bstr (frs (g.l ++ [p]))):LgTo w w3 M L ⟨g.file,g.l ++ [p],g.sure⟩ D d:=by
 have hLl:=hltM L hmem
 have hs2:=hgrow.size
 have hs3:=hf3.size
 have hrow:∀ b,lv.ownBlock = some b → rowB lv b:=by
  intro b hq
  rcases hown.2 with ⟨rfl,_⟩ | ⟨g',cap',cur,rfl,_⟩
  ·simp [Value.ownBlock] at hq
  ·simp [Value.ownBlock] at hq
   subst hq
   exact ⟨_,_,_,rfl⟩
 have hqL:q ≠ L:=by
  rcases hat with hat | hat
  ·exact (h5 q (hrow q hat)).2
  ·omega
 have keep:∀ b,b < w.heap.size → b ≠ L → lv.ownBlock ≠ some b → w3.heap[b]? = w.heap[b]? := fun b hbl hbL hbo => by
  rw [hf3.block b (by omega) hbL,hgrow.block b (by omega) (fun e => hbo e.symm)]
 have fB:Fr M w w2:=⟨hgrow.os,hgrow.tape,hgrow.output,hgrow.size,fun k hk hn => hgrow.block k hk (fun e => hn (h5 k (hrow k e.symm)).1)⟩
 have fC:Fr (fun b => M b ∨ w.heap.size ≤ b) w2 w3:=hf3.mono (fun k _ e => .inl (e ▸ hmem))
 refine ⟨fB.step fC (fun _ _ h => h) (fun i hi h => by rcases h with h | h; exact h; omega),fun b => M b ∨ b = q,fun b hb => ?_,hfile, ?_, ?_,hsame, .inl hmem, ?_,MD,_, ?_, ?_,hb, ?_, ?_⟩
 ·rcases hb with hb | rfl
  ·exact .inl hb
  ·rcases hat with hat | hat
   ·exact .inl (h5 b (hrow b hat)).1
   ·exact .inr (by omega)
 ·intro r hr
  rcases List.mem_append.1 hr with hr | hr
  ·exact hrecs r hr
  ·rw [List.mem_singleton.1 hr]; exact hp
 ·show g.sure ≤ (g.l ++ [p]).length
  rw [List.length_append]; omega
 ·rintro b (hb | rfl)
  ·have:=hltM b hb; omega
  ·omega
 ·exact hd.keep (by omega) fun b hb => keep b (hd.lt b hb) (h2 b hb).2.1 (fun e => (h2 b hb).2.2 (hrow b e))
 ·intro b hb
  refine ⟨.inl (h2 b hb).1,(h2 b hb).2.1, ?_⟩
  rintro ⟨o,n,c,e⟩
  simp only [Value.slice.injEq,Option.some.injEq,Addr.mk.injEq] at e
  obtain ⟨⟨rfl,_⟩,_⟩:=e
  rcases hat with hat | hat
  ·exact (h2 q hb).2.2 (hrow q hat)
  ·have:=hd.lt q hb; omega
 ·refine hown2.keep fun b ⟨o,n,c,e⟩ => ?_
  simp only [Value.slice.injEq,Option.some.injEq,Addr.mk.injEq] at e
  obtain ⟨⟨rfl,_⟩,_⟩:=e
  exact hf3.block q hlt hqL
 ·rintro b ⟨o,n,c,e⟩
  simp only [Value.slice.injEq,Option.some.injEq,Addr.mk.injEq] at e
  obtain ⟨⟨rfl,_⟩,_⟩:=e
  exact ⟨.inr rfl,hqL⟩
theorem frs_count:∀ l:List Frm,l.length ≤ (frs l).length
 | [] => Nat.zero_le _
 | p :: l => by
  have:=frs_count l
  rw [frs_cons,List.length_append,frL_len,List.length_cons]
  omega
theorem app_now {d:Dk} (h:d.Inv) (f:Nat) (hf:f < 16) (s:ByteArray):((d.append f s).2 = 0 → fl (d.append f s).1.now f = fl d.now f ++ s) ∧ ((d.append f s).2 ≠ 0 → (d.append f s).1.now = d.now):=by
 obtain ⟨o0,o1,o2,o3⟩:=Dk.op_same d
 unfold Dk.append
 split
 ·exact ⟨fun h => absurd h (by simp),fun _ => rfl⟩
 split
 ·exact ⟨fun h => absurd h (by simp),fun _ => rfl⟩
 split
 ·exact ⟨fun h => absurd h (by simp),fun _ => rfl⟩
 unfold Dk.change
 by_cases he:d.op.2 = 0
 ·rw [if_pos he]
  refine ⟨fun _ => ?_,fun h => absurd rfl h⟩
  rw [Int.toNat_natCast]
  show fl (d.op.1.now.set f (fl d.op.1.now f ++ s)) f = _
  rw [o1,fl_set _ _ _ _ (by rw [h.now16]; exact hf),if_pos rfl]
 ·rw [if_neg he]
  exact ⟨fun h => absurd h he,fun _ => o1⟩
theorem LgAt.bound {w:World} {M:Nat → Prop} {L D:Nat} {g:Lg} {d:Dk} (h:LgAt w M L g D d) (hd:d.Inv):(frs g.l).length ≤ 4194304:=by
 have h1:=sum_le d.now g.file
 have h2:=hd.fits
 have h3:=hd.room2
 rw [h.same,bstr_size] at h1
 omega
set_option maxRecDepth 100000 in
set_option maxHeartbeats 4000000 in
theorem lPut_c (w:World) (M:Nat → Prop) (L:Nat) (g:Lg) (D:Nat) (d:Dk) (h:LgAt w M L g D d) (k:Nat) (u:ByteArray) (hk0:0 < k) (hk1:k < 256) (hu:u.size ≤ 65536) (hll:d.loose.length ≤ 1000000000) :
  Calls Tryz.prog 61 #[px L, .int .u8 (k:Int), .string u] w fun e w' => e = .returned (.int .i64 (Lg.put d g k u).2.2) ∧ LgTo w w' M L (Lg.put d g k u).2.1 D (Lg.put d g k u).1:=by
 obtain ⟨MD,lv,h1,h2,h3,h4,h5⟩:=h.ex
 have hbd:=h.bound h1.inv
 obtain ⟨a,cap,rfl,hcap,hmx⟩:=h4.slice
 have c0:=h3.cell 0
 have c1:=h3.cell 1
 have HE:Hid (Lg.put d g k u = if (d.append g.file (bstr (frL k u))).2 ≠ 0 then ((d.append g.file (bstr (frL k u))).1,g,(d.append g.file (bstr (frL k u))).2) else ((d.append g.file (bstr (frL k u))).1,⟨g.file,g.l ++ [(k,u)],g.sure⟩,0)):=by
  show _ = _
  unfold Lg.put
  rw [if_neg (by omega),if_neg (by omega)]
 have HAN:=Lib.hid (app_now h1.inv g.file h.file (bstr (frL k u)))
 have hfl:(frL k u).length ≤ 70000:=by have:=(txtL_len u hu).1; rw [frL_len]; omega
 have HFP:=Lib.hid (FPut_c k hk0 hk1 u hu w)
 have HAP:Hid (∀ W:World,Below w.heap.size w W → Calls Tryz.prog 69 #[px D, .int .i64 (g.file:Int), .string (bstr (frL k u))] W fun e w' => e = .returned (.int .i64 (d.append g.file (bstr (frL k u))).2) ∧ DkTo W w' MD D (d.append g.file (bstr (frL k u))).1) :=
  fun W hb => Append_c W MD D d (h1.keep hb.size fun b hm => hb.block b (h1.lt b hm)) g.file (bstr (frL k u)) (by rw [bstr_size]; omega) hll
 have hsz:(bstr (frL k u)).size = (frL k u).length:=bstr_size _
 have HPO:Hid (Frm.ok (k,u)):=⟨hk0,hk1,hu⟩
 have HCT:=Lib.hid (frs_count g.l)
 have HRS:=Lib.hid (recGo_snoc 0 g.l (k,u))
 have HBS:=Lib.hid h.same
 have HBA:Hid (bstr (frs g.l) ++ bstr (frL k u) = bstr (frs (g.l ++ [(k,u)]))):=by show _ = _; rw [bstr_app,frs_app,frs_cons,frs_nil,List.append_nil]
 have HH:=Lib.hid h
 have H1:=Lib.hid h1
 have H2:=Lib.hid h2
 have H3:=Lib.hid h3
 have H4:=Lib.hid h4
 have H5:=Lib.hid h5
 generalize Lg.put d g k u = R at *
 generalize d.append g.file (bstr (frL k u)) = A at *
 obtain ⟨d',er⟩:=A
 dsimp only at HE HAN HAP
 have hlm:g.l.length ≤ 4194304:=by have:=HCT.out; omega
 have HF16:=Lib.hid h.file
 unfold px at c0 HAP ⊢
 clear h h1 h2 h3 h4 h5 hu hk0 hll
 have HFS:Hid (bstr (frL k u) = bstr (frL k u)):=rfl
 generalize hFS:bstr (frL k u) = FS at *
 have HFL:=Lib.hid hFS
 clear hFS HFS
 have HT:Hid (∀ w1 W,Below w.heap.size w W → DkTo W w1 MD D d' → DkTo w w1 MD D d'):=fun w1 W hb hT =>
  ⟨(Fr.of_new hb).trans hT.1,by obtain ⟨_,K,hK,hd⟩:=hT; exact ⟨K,fun b hb2 => (hK b hb2).imp id (fun e => Nat.le_trans hb.size e),hd⟩⟩
 by_cases he:er = 0
 ·subst he
  rw [if_neg (by simp)] at HE
  have hnow:=HAN.out.1 rfl
  go_enter Tryz.func61,Tryz.ntmps61
  go_upto_region 6 with (first | (go_at_call 97; refine HFP.out.mono ?_; rintro e w1 ⟨rfl,hb1⟩) | fail)
  have c0:=(hb1.cell (p:=⟨L,0,none⟩) (HH.out.lt L HH.out.mem)).trans c0
  have c1:=(hb1.cell (p:=⟨L,1,none⟩) (HH.out.lt L HH.out.mem)).trans c1
  have HA2:=Lib.hid (HAP.out w1.drew hb1.drew)
  go_cut [9] (fun s9 wx => s9 = .int .i64 0 ∧ DkTo w wx MD D d')
  case first =>
   go_region_with (first | (go_at_call 69; refine HA2.out.mono ?_; rintro e w2 ⟨rfl,hT⟩))
   all_goals
    go_wp2_with fail
    go_meet
    exact ⟨rfl,HT.out w2 _ hb1.drew hT⟩
  case rest =>
  obtain ⟨rfl,hT⟩:=hcut
  obtain ⟨hf2,K,hK,hd2⟩:=hT
  have hLl:=HH.out.lt L HH.out.mem
  have hkp:∀ b,b < w.heap.size → ¬ MD b → wc.heap[b]? = w.heap[b]? := fun b hb hn => hf2.block b hb hn
  have hbL:Blk wc L 185 _:=(hkp L hLl (fun hm => (H2.out L hm).2.1 rfl)).trans H3.out
  have hrec:RecAt wc (.slice a g.l.length cap) g.l:=H4.out.keep fun b hb => hkp b (HH.out.lt b (H5.out b hb).1) (fun hm => (H2.out b hm).2.2 hb)
  have hK2:∀ b,K b → (M b ∨ K b) ∧ b ≠ L ∧ ¬ rowB (.slice a g.l.length cap) b:=by
   intro b hb
   refine ⟨.inr hb, ?_, ?_⟩
   ·rcases hK b hb with hb | hb
    ·exact (H2.out b hb).2.1
    ·omega
   ·intro hr
    rcases hK b hb with hb | hb
    ·exact (H2.out b hb).2.2 hr
    ·have:=HH.out.lt b (H5.out b hr).1; omega
  have hK5:∀ b,rowB (.slice a g.l.length cap) b → (M b ∨ K b) ∧ b ≠ L:=fun b hb => ⟨.inl (H5.out b hb).1,(H5.out b hb).2⟩
  have hlt2:∀ b,M b ∨ K b → b < wc.heap.size:=by
   rintro b (hb | hb)
   ·have:=HH.out.lt b hb; have:=hf2.size; omega
   ·exact hd2.lt b hb
  have HEN:Hid (∀ W:World,W.heap = wc.heap → Calls Tryz.prog 116 #[px L, .int .i64 (g.l.length:Int)] W fun e w' => e = .returned (.int .i64 ((frs g.l).length:Nat)) ∧ W = w'):=by
   intro W hW
   have:=lend_c L _ _ _ _ g.l g.l.length W (by unfold Blk; rw [hW]; exact hbL) (hrec.keep fun _ _ => by rw [hW]) (Nat.le_refl _) (by omega)
   rwa [List.take_length] at this
  unfold px at HEN
  have k2:=hbL.cell 2
  have m2:=hbL.free 2
  have hlL:=hbL.lt
  have HFM:Hid (∀ w3 g',LgTo wc w3 (fun b => M b ∨ K b) L g' D d' → LgTo w w3 M L g' D d'):=by
   rintro w3 g' ⟨hf,N,hN,hl⟩
   refine ⟨(hf2.mono (fun b _ hb => (H2.out b hb).1)).step hf (fun _ _ h => h) (fun i hi h => ?_),N,fun b hb => ?_,hl⟩
   ·rcases h with h | h
    ·exact h
    ·rcases hK i h with h | h
     ·exact (H2.out i h).1
     ·omega
   ·rcases hN b hb with (h | h) | h
    ·exact .inl h
    ·rcases hK b h with h | h
     ·exact .inl (H2.out b h).1
     ·exact .inr h
    ·exact .inr (Nat.le_trans hf2.size h)
  obtain ⟨i0,hi,hz0,hz1,hz2⟩:=info_parts info_rec
  have HREC:=Lib.hid hrec
  have HBL:=Lib.hid hbL
  have hro:∀ q,(Value.slice a g.l.length cap).ownBlock = some q → q ≠ L:=by
   intro q hq
   rcases hrec.2 with ⟨e,_⟩ | ⟨g',cap',cur,e,_⟩
   ·rw [e] at hq; simp [Value.ownBlock] at hq
   ·rw [e] at hq
    simp [Value.ownBlock] at hq
    subst hq
    exact (hK5 g' ⟨_,_,_,e⟩).2
  have HRO:=Lib.hid hro
  have hzy:FS.size = (frL k u).length:=hsz
  generalize hz:(frs g.l).length = z at *
  generalize hy:(frL k u).length = y at *
  have HZ:=Lib.hid hz
  have HY:=Lib.hid hy
  have HREQ:Hid (recL (g.l ++ [(k,u)]) = recL g.l ++ [.int .u8 (k:Int), .string u, .int .i64 ((z:Int) + (y:Int))]):=by
   have:=HRS.out
   rw [Nat.zero_add] at this
   show recGo 0 (g.l ++ [(k,u)]) = recGo 0 g.l ++ _
   rw [this]
   simp
  have HOA:Hid (World.ownsRow (World.drew (wc.alloc (.cells #[.int .u8 (k:Int), .string u, .int .i64 ((z:Int) + (y:Int))] 191))) 0 191 3 (.slice a g.l.length cap) g.l.length (recL g.l)):=hrec.alloc _
  have HNA:Hid (∀ j u',([.int .u8 (k:Int), .string u, .int .i64 ((z:Int) + (y:Int))]:List Value)[j]? = some u' → (World.drew (wc.alloc (.cells #[.int .u8 (k:Int), .string u, .int .i64 ((z:Int) + (y:Int))] 191))).cell? ((⟨wc.heap.size,0,none⟩:Addr).add j) = some u'):=World.news_of_block (heap_alloc_new wc _)
  have HONE:Hid (∀ v ∈ ([.int .u8 (k:Int), .string u, .int .i64 ((z:Int) + (y:Int))]:List Value),v.oneCell' = true):=by
   show ∀ v ∈ _,_
   intro v hv
   simp only [List.mem_cons,List.not_mem_nil,or_false] at hv
   rcases hv with rfl | rfl | rfl <;> rfl
  have HBLA:Hid (Blk (World.drew (wc.alloc (.cells #[.int .u8 (k:Int), .string u, .int .i64 ((z:Int) + (y:Int))] 191))) L 185 #[px D, .int .i64 (g.file:Int), .slice a g.l.length cap, .int .i64 (g.sure:Int)]):=hbL.alloc _
  have hBX:Below wc.heap.size wc (World.drew (wc.alloc (.cells #[.int .u8 (k:Int), .string u, .int .i64 ((z:Int) + (y:Int))] 191))):=((Below.refl wc.heap.size wc).alloc (Nat.le_refl _) _).drew
  have HG:=Lib.hid (fun q cap2 w2 w3 (h1:((World.drew (wc.alloc (.cells #[.int .u8 (k:Int), .string u, .int .i64 ((z:Int) + (y:Int))] 191)))).grownBy w2 (Value.slice a g.l.length cap).ownBlock) (h2:(Value.slice a g.l.length cap).ownBlock = some q ∨ q = ((World.drew (wc.alloc (.cells #[.int .u8 (k:Int), .string u, .int .i64 ((z:Int) + (y:Int))] 191)))).heap.size) (h3:q < w2.heap.size) (h4:RecAt w2 (.slice (some ⟨q,0,none⟩) (g.l.length + 1) cap2) (g.l ++ [(k,u)])) h5 h6 =>
   LgAt.grow (w:=(World.drew (wc.alloc (.cells #[.int .u8 (k:Int), .string u, .int .i64 ((z:Int) + (y:Int))] 191)))) (w2:=w2) (w3:=w3) (M:=fun b => M b ∨ K b) (MD:=K) (L:=L) (D:=D) (g:=g) (d:=d') (p:=(k,u)) (lv := .slice a g.l.length cap) (q:=q) (cap:=cap2) HF16.out HH.out.recs HH.out.sure (.inl HH.out.mem) (fun b hb => Nat.lt_of_lt_of_le (hlt2 b hb) hBX.size) (hd2.below hBX) hK2 hK5 (hrec.keep fun b hb => hBX.block b (hlt2 b (hK5 b hb).1)) HPO.out h1 h2 h3 h4 h5 h6 (by rw [hnow,HBS.out]; exact HBA.out))
  have HBX:=Lib.hid hBX
  clear hBX hrec hbL hro hK2 hK5 hlt2 hd2 hkp hK hf2 c0 c1 HA2 hz hy hsz
  have hwr:IntKind.i64.wrap ((z:Int) + (y:Int)) = (z:Int) + (y:Int):=by rw [IntKind.wrap_i64]; omega
  go_upto_region 9 with fail
  go_region_law (first
   | (refine step_append_lies _ (by rfl) _ _ _ (by rfl) 0 191 i0 (.agg #[.int .u8 0, .string { data:=#[] }, .int .i64 0]) 3 32 Tryz.underlying183 hi hz0 hz1 hz2 rfl (by decide) _ g.l.length (recL g.l) (by rfl) HOA.out ⟨wc.heap.size,0,none⟩ 1 1 [.int .u8 (k:Int), .string u, .int .i64 ((z:Int) + (y:Int))] (by rfl) rfl HNA.out HONE.out (by decide) (by unfold maxLen; omega) (by omega) (Nat.zero_le _) _ rfl ?_; intro q cap4 w4 hown4 hgrow4 hat4 hlt4; have hb4:=HBLA.out.grown hgrow4 (fun e => HRO.out _ e.symm rfl); have c4:=hb4.cell 2; have f4:=hb4.free 2)
   | (go_simp; go_at_call 116; refine (HEN.out wc.drew rfl).mono ?_; rintro e w3 ⟨rfl,rfl⟩))
  all_goals
   have HB4:=Lib.hid hb4
   have HW4:Hid (RecAt w4 (.slice (some ⟨q,0,none⟩) (g.l.length + 1) cap4) (g.l ++ [(k,u)])):=by
    show World.ownsRow _ _ _ _ _ _ _
    rw [HREQ.out,List.length_append]
    exact hown4
   have HGR:=Lib.hid hgrow4
   have HAT:=Lib.hid hat4
   have HL4:=Lib.hid hlt4
   clear hb4 hown4 hgrow4 hat4 hlt4 HREQ HNA HOA HONE HREC HBL HRO HEN
   try go_wp2_with fail
   go_ret
   rw [HE.out]
   refine ⟨rfl,HFM.out _ _ ((HG.out q cap4 w4 _ HGR.out HAT.out HL4.out HW4.out (HB4.out.set 2 _) ((Fr.refl (fun x => x = L) w4).setCell (p:=⟨L,2,none⟩) (.inl rfl) _)).of_below HBX.out)⟩
 ·rw [if_pos he] at HE
  have hnow:=HAN.out.2 he
  have d2:(er != 0) = true:=by simpa using he
  go_enter Tryz.func61,Tryz.ntmps61
  go_upto_region 6 with (first | (go_at_call 97; refine HFP.out.mono ?_; rintro e w1 ⟨rfl,hb1⟩) | fail)
  have c0:=(hb1.cell (p:=⟨L,0,none⟩) (HH.out.lt L HH.out.mem)).trans c0
  have c1:=(hb1.cell (p:=⟨L,1,none⟩) (HH.out.lt L HH.out.mem)).trans c1
  have HA2:=Lib.hid (HAP.out w1.drew hb1.drew)
  go_region_with (first | (go_at_call 69; refine HA2.out.mono ?_; rintro e w2 ⟨rfl,hT⟩))
  all_goals
   go_wp2_with fail
   go_ret
   rw [HE.out]
   exact ⟨rfl,HH.out.step H2.out H3.out H4.out H5.out (HT.out w2 _ hb1.drew hT) (by rw [hnow])⟩
section
open Go.RowKit Go.Shelf
def postM (n:Nat) (P:Program) (fn:Func) (R:Ending → World → Prop):Exit → Act → World → Prop
 | .ret,a,w => bodyPostM Fence.wide n P fn R .ret a w
 | _,_,_ => False
theorem postM_post {n:Nat} {P:Program} {fn:Func} {R:Ending → World → Prop} (e:Exit) (a:Act) (w:World) (h:postM n P fn R e a w):bodyPostM Fence.wide n P fn R e a w:=by
 cases e <;> first | exact h | exact h.elim
theorem ret1 {P:Program} {fn:Func} {R:Ending → World → Prop} {a:Act} {w:World} {v:Value} {n D2:Nat} (hK:w.heap[D2]? = some (.deferred (some []))) (hr:(results fn a.tmps).run P (w.putObj D2 (.deferred none)) = .ok v (w.putObj D2 (.deferred none))) (hd:a.defers = [{ target := .collected D2,args:=#[] }])
  (hR:R (.returned v) (w.putObj D2 (.deferred none))):postM n P fn R .ret a w:=by
 show LeavesInM Fence.wide n P fn a.tmps R a.defers .returning w
 rw [hd]
 refine ⟨by simp, .inl ⟨_,_,rfl,run_takeDeferred hK, ?_⟩⟩
 exact ⟨v,hr,hR⟩
structure OpR (w1:World) (D f n0:Nat) (pre:List Frm) (W:World):Prop where
 os:W.os = w1.os
 tape:W.tape = w1.tape
 output:W.output = w1.output
 size:n0 ≤ W.heap.size
 old:∀ b,b < w1.heap.size → W.heap[b]? = w1.heap[b]?
 box:Blk W (w1.heap.size + 1) 102 #[px w1.heap.size]
 ex:∃ lv,Blk W w1.heap.size 185 #[px D, .int .i64 (f:Int),lv, .int .i64 0] ∧ W.ownsRow n0 191 3 lv pre.length (recL pre)
theorem OpR.keep {w1 A B:World} {D f n0:Nat} {pre:List Frm} (h0:w1.heap.size + 2 < n0) (h:OpR w1 D f n0 pre A) (hk:Kept (w1.heap.size + 2) n0 A B):OpR w1 D f n0 pre B:=by
 have hsz:=h.size
 have e:∀ b,b < n0 → b ≠ w1.heap.size + 2 → B.heap[b]? = A.heap[b]? := fun b hb hn => hk.block b (by omega) hn (.inl hb)
 obtain ⟨lv,h1,h2⟩:=h.ex
 refine ⟨hk.os.trans h.os,hk.tape.trans h.tape,hk.output.trans h.output,Nat.le_trans h.size hk.size,fun b hb => (e b (by omega) (by omega)).trans (h.old b hb),(e _ (by omega) (by omega)).trans h.box,lv,(e _ (by omega) (by omega)).trans h1,h2.1, ?_⟩
 rcases h2.2 with h2 | ⟨g,cap,cur,rfl,hb,hg,hr⟩
 ·exact .inl h2
 ·exact .inr ⟨g,cap,cur,rfl,hb,(hk.block g (Array.getElem?_eq_some_iff.1 hg).1 (by omega) (.inr ⟨_,hg,rfl⟩)).trans hg,hr⟩
theorem OpR.snoc {w1 W WX w4:World} {D f n0:Nat} {pre:List Frm} {x:Frm} {lv:Value} {q cap:Nat} (h:OpR w1 D f n0 pre W) (hn:n0 = w1.heap.size + 3) (hL:Blk W w1.heap.size 185 #[px D, .int .i64 (f:Int),lv, .int .i64 0]) (hown:W.ownsRow n0 191 3 lv pre.length (recL pre))
  (hb:Below W.heap.size W WX) (hgrow:WX.grownBy w4 lv.ownBlock) (hown4:w4.ownsRow n0 191 3 (.slice (some ⟨q,0,none⟩) (pre.length + 1) cap) (pre.length + 1) (recL (pre ++ [x]))) (hqn:n0 ≤ q) :
  KeepsOthers W (w4.setCell ⟨w1.heap.size,2,none⟩ (.slice (some ⟨q,0,none⟩) (pre.length + 1) cap)) ∧ (w4.setCell ⟨w1.heap.size,2,none⟩ (.slice (some ⟨q,0,none⟩) (pre.length + 1) cap)).heap[w1.heap.size + 2]? = W.heap[w1.heap.size + 2]? ∧
  OpR w1 D f n0 (pre ++ [x]) (w4.setCell ⟨w1.heap.size,2,none⟩ (.slice (some ⟨q,0,none⟩) (pre.length + 1) cap)):=by
 have hsz:=h.size
 have hbz:=hb.size
 have hgz:=hgrow.size
 have hrow:∀ r,lv.ownBlock = some r → n0 ≤ r ∧ ∃ o:Obj,W.heap[r]? = some o ∧ o.isCells = true:=by
  intro r hr
  rcases hown.2 with ⟨rfl,_⟩ | ⟨g,cap',cur,rfl,hg0,hg,_⟩
  ·simp [Value.ownBlock] at hr
  ·simp [Value.ownBlock] at hr
   subst hr
   exact ⟨hg0,_,hg,rfl⟩
 have e:∀ b,b < W.heap.size → lv.ownBlock ≠ some b → w4.heap[b]? = W.heap[b]? := fun b hb1 hb2 => (hgrow.block b (by omega) (fun e => hb2 e.symm)).trans (hb.block b hb1)
 have es:∀ b,b ≠ w1.heap.size → (w4.setCell ⟨w1.heap.size,2,none⟩ (.slice (some ⟨q,0,none⟩) (pre.length + 1) cap)).heap[b]? = w4.heap[b]? := fun b hb => heap_setCell_other _ ⟨w1.heap.size,2,none⟩ b _ hb
 have el:∀ b,b < n0 → lv.ownBlock ≠ some b:=fun b hb e => by have:=(hrow b e).1; omega
 have hL4:Blk w4 w1.heap.size 185 _:=(e _ (by omega) (el _ (by omega))).trans hL
 refine ⟨⟨by simp [World.setCell]; omega,fun k o hk ho => ?_⟩, ?_, ?_⟩
 ·have hk1:k < W.heap.size:=(Array.getElem?_eq_some_iff.1 hk).1
  have hkL:k ≠ w1.heap.size:=by
   rintro rfl
   have h2:=hL
   unfold Blk at h2
   rw [h2] at hk
   cases hk
   cases ho
  rw [es k hkL,e k hk1 ?_]
  ·exact hk
  ·intro hq
   obtain ⟨_,o2,h2,h3⟩:=hrow k hq
   rw [h2] at hk
   cases hk
   rw [h3] at ho
   cases ho
 ·rw [es _ (by omega),e _ (by omega) (el _ (by omega))]
 ·refine ⟨hgrow.os.trans (hb.os.trans h.os),hgrow.tape.trans (hb.tape.trans h.tape),hgrow.output.trans (hb.output.trans h.output),by simp [World.setCell]; omega,fun b hb2 => ?_, ?_,_,hL4.set 2 _, ?_⟩
  ·rw [es b (by omega),e b (by omega) (el b (by omega))]; exact h.old b hb2
  ·show _ = _
   rw [es _ (by omega),e _ (by omega) (el _ (by omega))]; exact h.box
  ·rw [List.length_append]
   refine ownsRow_keep hown4 fun g ⟨o,n,c,e2⟩ => ?_
   simp only [Value.slice.injEq,Option.some.injEq,Addr.mk.injEq] at e2
   obtain ⟨⟨rfl,_⟩,_⟩:=e2
   exact es q (by omega)
theorem op_fin {w w1 W Wd:World} {M N:Nat → Prop} {D f D2 cap:Nat} {a:Option Addr} {d':Dk} {l:List Frm} (hb1:Below w.heap.size w w1) (hM:∀ b,M b → b < w.heap.size) (hf16:f < 16) (hI:OpR w1 D f (w1.heap.size + 3) l W)
  (hL:Blk W w1.heap.size 185 #[px D, .int .i64 (f:Int), .slice a l.length cap, .int .i64 0]) (hown:W.ownsRow (w1.heap.size + 3) 191 3 (.slice a l.length cap) l.length (recL l)) (hrecs:∀ p ∈ l,p.ok)
  (hdef:W.heap[D2]? = some (.deferred (some []))) (hD2:w1.heap.size + 3 ≤ D2) (hfW:Fr M W Wd) (hN:∀ b,N b → M b ∨ W.heap.size ≤ b) (hd':DkAt Wd N D d') (hsame:fl d'.now f = bstr (frs l)) :
  (Wd.setCell ⟨w1.heap.size,3,none⟩ (.int .i64 (l.length:Int))).heap[D2]? = some (.deferred (some [])) ∧
  Fr M w ((Wd.setCell ⟨w1.heap.size,3,none⟩ (.int .i64 (l.length:Int))).putObj D2 (.deferred none)) ∧
  ∃ K,LgAt ((Wd.setCell ⟨w1.heap.size,3,none⟩ (.int .i64 (l.length:Int))).putObj D2 (.deferred none)) K w1.heap.size ⟨f,l,l.length⟩ D d' ∧ ∀ b,K b → M b ∨ w.heap.size ≤ b:=by
 have hsW:=hI.size
 have hs1:=hb1.size
 have hsd:=hfW.size
 have hD2W:D2 < W.heap.size:=(Array.getElem?_eq_some_iff.1 hdef).1
 have hg:=grownBy_putObj' (Wd.setCell ⟨w1.heap.size,3,none⟩ (.int .i64 (l.length:Int))) D2 (.deferred none)
 have hz:((Wd.setCell ⟨w1.heap.size,3,none⟩ (.int .i64 (l.length:Int))).putObj D2 (.deferred none)).heap.size = Wd.heap.size:=by simp [World.setCell]
 have eW:∀ b,b < W.heap.size → ¬ M b → Wd.heap[b]? = W.heap[b]? := fun b hb hn => hfW.block b hb hn
 have hnM:∀ b,w.heap.size ≤ b → ¬ M b:=fun b hb hm => by have:=hM b hm; omega
 have es:∀ b,b ≠ w1.heap.size → (Wd.setCell ⟨w1.heap.size,3,none⟩ (.int .i64 (l.length:Int))).heap[b]? = Wd.heap[b]? := fun b hb => heap_setCell_other _ ⟨w1.heap.size,3,none⟩ b _ hb
 have ep:∀ b,b ≠ D2 → ((Wd.setCell ⟨w1.heap.size,3,none⟩ (.int .i64 (l.length:Int))).putObj D2 (.deferred none)).heap[b]? = (Wd.setCell ⟨w1.heap.size,3,none⟩ (.int .i64 (l.length:Int))).heap[b]? := fun b hb => World.putObj_heap_other hb
 have hdd:Wd.heap[D2]? = some (.deferred (some [])):=(eW D2 hD2W (hnM D2 (by omega))).trans hdef
 have hrow:∀ g,rowB (.slice a l.length cap) g → w1.heap.size + 3 ≤ g ∧ g < W.heap.size ∧ g ≠ D2:=by
  rintro g ⟨o,n,c,e⟩
  rcases hown.2 with ⟨e2,_⟩ | ⟨g',cap',cur,e2,hg0,hgc,_⟩
  ·rw [e2] at e; simp at e
  ·rw [e2] at e
   simp only [Value.slice.injEq,Option.some.injEq,Addr.mk.injEq] at e
   obtain ⟨⟨rfl,_⟩,_⟩:=e
   refine ⟨hg0,(Array.getElem?_eq_some_iff.1 hgc).1, ?_⟩
   rintro rfl
   rw [hgc] at hdef
   cases hdef
 have hNd:∀ b,N b → b ≠ D2 ∧ b ≠ w1.heap.size ∧ ¬ rowB (.slice a l.length cap) b:=by
  intro b hb
  rcases hN b hb with h | h
  ·have:=hM b h
   exact ⟨by omega,by omega,fun hr => by have:=(hrow b hr).1; omega⟩
  ·exact ⟨by omega,by omega,fun hr => by have:=(hrow b hr).2.1; omega⟩
 have hLd:Blk Wd w1.heap.size 185 _:=(eW _ (by omega) (hnM _ (by omega))).trans hL
 refine ⟨(es D2 (by omega)).trans hdd,⟨?_, ?_, ?_,by omega,fun k hk hn => ?_⟩,fun b => b = w1.heap.size ∨ rowB (.slice a l.length cap) b ∨ N b,⟨hf16,hrecs,Nat.le_refl _,hsame, .inl rfl, ?_,N, .slice a l.length cap, ?_, ?_, ?_, ?_, ?_⟩, ?_⟩
 ·exact hg.os.trans (hfW.os.trans (hI.os.trans hb1.os))
 ·exact hg.tape.trans (hfW.tape.trans (hI.tape.trans hb1.tape))
 ·exact hg.output.trans (hfW.output.trans (hI.output.trans hb1.output))
 ·rw [ep k (by omega),es k (by omega),eW k (by omega) hn,hI.old k (by omega)]; exact hb1.block k hk
 ·rw [hz]
  rintro b (rfl | hb | hb)
  ·omega
  ·have:=(hrow b hb).2.1; omega
  ·exact hd'.lt b hb
 ·exact hd'.keep (by rw [hz]; exact Nat.le_refl _) fun b hb => by rw [ep b (hNd b hb).1,es b (hNd b hb).2.1]
 ·exact fun b hb => ⟨.inr (.inr hb),(hNd b hb).2.1,(hNd b hb).2.2⟩
 ·show _ = _
  rw [ep _ (by omega)]
  exact hLd.set 3 _
 ·refine RecAt.keep (w:=W) ⟨hown.1,hown.2.imp id (fun ⟨g,c,cur,e,_,r⟩ => ⟨g,c,cur,e,Nat.zero_le _,r⟩)⟩ fun g hg => ?_
  have:=hrow g hg
  rw [ep g this.2.2,es g (by omega),eW g this.2.1 (hnM g (by omega))]
 ·exact fun b hb => ⟨.inr (.inl hb),by have:=(hrow b hb).1; omega⟩
 ·rintro b (rfl | hb | hb)
  ·exact .inr (by omega)
  ·exact .inr (by have:=(hrow b hb).1; omega)
  ·rcases hN b hb with h | h
   ·exact .inl h
   ·exact .inr (by omega)
theorem op_err {w w1 W Wd:World} {M:Nat → Prop} {D f D2:Nat} {d':Dk} {l:List Frm} (hb1:Below w.heap.size w w1) (hM:∀ b,M b → b < w.heap.size) (hI:OpR w1 D f (w1.heap.size + 3) l W)
  (hdef:W.heap[D2]? = some (.deferred (some []))) (hD2:w1.heap.size + 3 ≤ D2) (hT:DkTo W Wd M D d') :
  Wd.heap[D2]? = some (.deferred (some [])) ∧ DkTo w (Wd.putObj D2 (.deferred none)) M D d':=by
 obtain ⟨hfW,N,hN,hd'⟩:=hT
 have hsW:=hI.size
 have hs1:=hb1.size
 have hsd:=hfW.size
 have hD2W:D2 < W.heap.size:=(Array.getElem?_eq_some_iff.1 hdef).1
 have hg:=grownBy_putObj' Wd D2 (.deferred none)
 have hz:(Wd.putObj D2 (.deferred none)).heap.size = Wd.heap.size:=by simp
 have eW:∀ b,b < W.heap.size → ¬ M b → Wd.heap[b]? = W.heap[b]? := fun b hb hn => hfW.block b hb hn
 have ep:∀ b,b ≠ D2 → (Wd.putObj D2 (.deferred none)).heap[b]? = Wd.heap[b]? := fun b hb => World.putObj_heap_other hb
 have hnM : ¬ M D2:=fun hm => by have:=hM _ hm; omega
 refine ⟨(eW D2 hD2W hnM).trans hdef,⟨hg.os.trans (hfW.os.trans (hI.os.trans hb1.os)),hg.tape.trans (hfW.tape.trans (hI.tape.trans hb1.tape)),hg.output.trans (hfW.output.trans (hI.output.trans hb1.output)),by omega,fun k hk hn => ?_⟩,N,fun b hb => ?_,hd'.keep (by rw [hz]; exact Nat.le_refl _) fun b hb => ep b ?_⟩
 ·rw [ep k (by omega),eW k (by omega) hn,hI.old k (by omega)]; exact hb1.block k hk
 ·rcases hN b hb with h | h
  ·exact .inl h
  ·exact .inr (by omega)
 ·rcases hN b hb with h | h
  ·have:=hM b h; omega
  ·omega
theorem cut_now {d:Dk} (h:d.Inv) (f:Nat) (hf:f < 16) (n:Nat):(d.cut f n).2 = 0 → fl (d.cut f n).1.now f = (fl d.now f).extract 0 n:=by
 obtain ⟨o0,o1,o2,o3⟩:=Dk.op_same d
 unfold Dk.cut
 split
 ·exact fun h => absurd h (by simp)
 split
 ·exact fun h => absurd h (by simp)
 split
 ·exact fun h => absurd h (by simp)
 unfold Dk.change
 by_cases he:d.op.2 = 0
 ·rw [if_pos he]
  intro _
  rw [Int.toNat_natCast,Int.toNat_natCast]
  show fl (d.op.1.now.set f ((fl d.op.1.now f).extract 0 n)) f = _
  rw [o1,fl_set _ _ _ _ (by rw [h.now16]; exact hf),if_pos rfl]
 ·rw [if_neg he]
  exact fun h => absurd h he
theorem open_same (s:ByteArray):s.extract 0 (frs (allF s)).length = bstr (frs (allF s)) ∧ (s.size ≤ (frs (allF s)).length → s = bstr (frs (allF s))):=by
 obtain ⟨rest,h,_⟩:=allF_spec s
 constructor
 ·rw [← bstr_of (s.extract 0 _)]
  have:=extract_list s 0 (frs (allF s)).length
  rw [Nat.zero_add,List.drop_zero,h,List.take_left] at this
  rw [this]
 ·intro hsz
  have h2:=congrArg List.length h
  rw [← Lib.size_eq,List.length_append] at h2
  have:rest = []:=List.length_eq_zero_iff.1 (by omega)
  rw [this,List.append_nil] at h
  rw [← h,bstr_of]
theorem DkTo.trans' {w w1 w2:World} {M N:Nat → Prop} {D:Nat} {d2:Dk} (hf:Fr M w w1) (hN:∀ b,N b → M b ∨ w.heap.size ≤ b) (h:DkTo w1 w2 N D d2):DkTo w w2 M D d2:=by
 obtain ⟨hf2,N2,hN2,h2⟩:=h
 refine ⟨hf.step hf2 (fun _ _ h => h) (fun i hi hn => ?_),N2,fun b hb => ?_,h2⟩
 ·rcases hN i hn with h | h
  ·exact h
  ·omega
 ·rcases hN2 b hb with h | h
  ·exact hN b h
  ·exact .inr (Nat.le_trans hf.size h)
end
section
open Go.RowKit Go.Shelf
set_option maxRecDepth 100000 in
set_option maxHeartbeats 4000000 in
theorem lOpen_c (w:World) (M:Nat → Prop) (D:Nat) (d:Dk) (h:DkAt w M D d) (f:Nat) (hf:f < 16) (hll:d.loose.length ≤ 1000000000) :
  Calls Tryz.prog 55 #[px D, .int .i64 (f:Int)] w fun e w' =>
   (∃ e1,(Lg.open d f).2 = (none,e1) ∧ e = .returned (.tuple #[.pointer none, .int .i64 e1]) ∧ DkTo w w' M D (Lg.open d f).1) ∨
   (∃ g L N,(Lg.open d f).2 = (some g,0) ∧ e = .returned (.tuple #[px L, .int .i64 0]) ∧ Fr M w w' ∧ LgAt w' N L g D (Lg.open d f).1 ∧ ∀ b,N b → M b ∨ w.heap.size ≤ b):=by
 have HRD:=Lib.hid (Read_c w M D d h (f:Int))
 have hrd:d.read f = if d.off = true then (.empty,50) else (fl d.now f,0):=by
  unfold Dk.read
  have:Dk.isF (f:Int) = true:=by unfold Dk.isF; simp; omega
  rw [this]
  simp
 have HE:Hid (Lg.open d f = Lg.open d f):=rfl
 rw [hrd] at HRD
 have HH:=Lib.hid h
 clear hrd h
 by_cases ho:d.off = true
 ·rw [if_pos ho] at HRD
  have HO:Hid (Lg.open d f = (d,none,50)):=by show _ = _; unfold Lg.open; rw [if_pos ho]
  clear ho HE
  generalize Lg.open d f = R at *
  unfold px
  go_enter Tryz.func55,Tryz.ntmps55
  go_wp2_with (first | (go_at_call 77; refine HRD.out.mono ?_; rintro e w1 ⟨rfl,hb1⟩) | fail)
  go_ret2
  rw [HO.out]
  exact .inl ⟨50,rfl,rfl,HH.out.toB hb1⟩
 ·rw [if_neg ho] at HRD
  have HOFF:=Lib.hid ho
  clear ho
  generalize hs:fl d.now f = s at *
  have HS:=Lib.hid hs
  have hssz:s.size ≤ 4194304:=by
   have h1:=sum_le d.now f
   have h2:=HH.out.inv.fits
   have h3:=HH.out.inv.room2
   rw [hs] at h1
   omega
  clear hs HE
  generalize hR:Lg.open d f = R at *
  have HR:=Lib.hid hR
  clear hR
  unfold px
  refine (callsIn_wide (n:=6)).1 (callsIn_of_wp_marks Tryz.func55 rfl trivial (wpIn_wide.2 (wp_mono ?_ postM_post)) rfl)
  simp only [Tryz.ntmps55,List.size_toArray,List.length_cons,List.length_nil,Nat.reduceAdd,Nat.reduceSub,Array.replicate_succ,Array.replicate_zero,List.push_toArray,List.append_toArray,List.nil_append,List.cons_append]
  go_upto_region 6 with (first | (go_at_call 77; refine HRD.out.mono ?_; rintro e w1 ⟨rfl,hb1⟩) | fail)
  have hsa:∀ (a:Addr) (w:World),(store a (.pointer (some ⟨w1.heap.size,0,none⟩))).run Tryz.prog w = stored Tryz.prog w a (.pointer (some ⟨w1.heap.size,0,none⟩)) .plain:=fun a w => run_store _ w a _ _ rfl
  go_wp2_with (first | (go_at_call 115; refine (All_c s _).mono ?_; rintro e w2 ⟨rfl,rfl⟩) | fail)
  have hsp:∃ rest,s.data.toList = frs (allF s) ++ rest ∧ (∀ p ∈ allF s,p.ok) ∧ (takeF (bstr rest)).2.2.2 ≠ 0:=allF_spec s
  have hBS:=Blk.new_at ((w1.alloc (.cells #[px D, .int .i64 (f:Int), .slice none 0 0, .int .i64 0] 185)).alloc (.cells #[px w1.heap.size] 102)) #[.string s] 9 (k:=w1.heap.size + 2) (by simp)
  have hbox:=all_box 4 (w1.heap.size + 2) s (by omega) _ hBS
  have hI0:OpR w1 D f (w1.heap.size + 3) [] (((w1.alloc (.cells #[px D, .int .i64 (f:Int), .slice none 0 0, .int .i64 0] 185)).alloc (.cells #[px w1.heap.size] 102)).alloc (.cells #[.string s] 9)) :=
   ⟨rfl,rfl,rfl,by simp,fun b hb => ((alloc_old _ _ b (by simp; omega)).trans (alloc_old _ _ b (by simp; omega))).trans (alloc_old _ _ b hb),(Blk.new_at (w1.alloc _) _ _ (by simp)).alloc _,_,((Blk.new w1 _ _).alloc _).alloc _,World.ownsRow_nil _ _ _ _⟩
  have hszL:(((w1.alloc (.cells #[px D, .int .i64 (f:Int), .slice none 0 0, .int .i64 0] 185)).alloc (.cells #[px w1.heap.size] 102)).alloc (.cells #[.string s] 9)).heap.size = w1.heap.size + 3:=by simp
  unfold px at hbox hI0 hszL hBS
  generalize World.alloc (World.alloc (World.alloc w1 _) _) _ = W0 at *
  refine (wpIn_wide (n:=5)).1 ?_
  refine wpIn_rangeFunc_box (α:=Frm) rfl (by omega) (gf:=175) (lb:=#[.pointer (some ⟨w1.heap.size + 1 + 1,0,none⟩)]) rfl trivial (enters_of Tryz.func175 (by kernel_rfl) rfl) (encs:=frmV) (bs:=w1.heap.size + 2) (all:=allF s) (by omega) hbox (fun _ => rfl)
   (OpR w1 D f (w1.heap.size + 3)) (fun pre A B hA hk => hA.keep (by omega) (by rw [hszL] at hk; exact hk)) hI0
   (fun x => { tmps:=#[px D,(Value.int .i64 (f:Int)),undef,undef,Value.pointer none,Value.int .i64 0,Value.string s,Value.int .i64 0,px (w1.heap.size + 1),Value.int .u8 (x.1:Int),Value.string x.2,undef,undef,undef,undef,undef,px D,Value.bool false,Value.tuple #[Value.string s,Value.int .i64 0],px D,Value.int .i64 (f:Int),Value.tuple #[Value.string s,Value.int .i64 0],Value.string s,Value.int .i64 0,Value.int .i64 0,Value.bool false,undef,px D,Value.int .i64 (f:Int),Value.agg #[px D,Value.int .i64 (f:Int),Value.slice none 0 0,Value.int .i64 0],px w1.heap.size,Value.string s,Value.func (Fn.func 175) #[] #[px (w1.heap.size + 1 + 1)],Value.int .u8 (x.1:Int),Value.string x.2,undef,undef,undef,undef,undef,undef,undef,undef,undef,undef,undef,undef,undef,undef,undef,undef,undef,undef,undef,undef,undef,undef,undef,undef,undef,undef,undef,undef,undef,undef,undef,undef,undef,undef,undef,undef,undef,undef,undef,undef,undef,undef,undef,undef,undef,undef,undef,undef,undef,undef,undef,undef,undef,undef,undef,undef,undef,undef,undef,undef],defers:=[] }) ?assign ?body ?done
  case assign =>
   intro l x W K hK
   unfold px at hK
   have hsm:∀ (ρ:Operand → Value) (o:Oper),(∀ c,o.op ≠ .defer c) → Oper.semAt (some l) ρ o = execOp ρ o:=fun ρ o h => Oper.semAt_some l ρ o h
   simp only [frmV]
   gi_wp2
   exact hK
  case body =>
   rintro l pre x W hI hpre
   obtain ⟨lv,hLb,hown⟩:=hI.ex
   have HOW:=Lib.hid hown
   obtain ⟨a,cap,rfl,hcap,hmx⟩:=RecAt.slice (show RecAt W lv pre from ⟨hown.1,hown.2.imp id (fun ⟨g,c,cur,e,_,r⟩ => ⟨g,c,cur,e,Nat.zero_le _,r⟩)⟩)
   have hxm:x ∈ allF s:=by obtain ⟨t,ht⟩:=hpre; rw [← ht]; simp
   have hxo:x.ok:=by obtain ⟨_,_,h2,_⟩:=hsp; exact h2 x hxm
   have hprel:(frs (pre ++ [x])).length ≤ 4194304:=by
    obtain ⟨t,ht⟩:=hpre
    have:=allF_le s
    rw [← ht,frs_app,List.length_append] at this
    omega
   have hcnt:=frs_count pre
   rw [frs_app,List.length_append,show frs [x] = frL x.1 x.2 by rw [frs_cons,frs_nil,List.append_nil]] at hprel
   have HFP:=Lib.hid (FPut_c x.1 hxo.1 hxo.2.1 x.2 hxo.2.2 W)
   have hsz:(bstr (frL x.1 x.2)).size = (frL x.1 x.2).length:=bstr_size _
   have HRS:=Lib.hid (recGo_snoc 0 pre x)
   have HI:=Lib.hid hI
   have HLB:=Lib.hid hLb
   have HBX:=Lib.hid hI.box
   have hWs:=hI.size
   obtain ⟨i0,hi,hz0,hz1,hz2⟩:=info_parts info_rec
   generalize hFS:bstr (frL x.1 x.2) = FS at *
   generalize hz:(frs pre).length = z at *
   generalize hy:(frL x.1 x.2).length = y at *
   have HZ:=Lib.hid hz
   have hQ:∀ (K:Act → World → Prop), ¬ LetsOut (Exit.then K (Exit.inBlock 1 fun ex x_1 W' => ex = Exit.normal ∧ KeepsOthers W W' ∧ W'.heap[w1.heap.size + 2]? = W.heap[w1.heap.size + 2]? ∧ OpR w1 D f (w1.heap.size + 3) (pre ++ [x]) W')):=by
    rintro K ⟨a,w,h⟩
    cases h.1
   have hQ2 : ¬ LetsOut (Exit.inBlock 1 fun ex x_1 W' => ex = Exit.normal ∧ KeepsOthers W W' ∧ W'.heap[w1.heap.size + 2]? = W.heap[w1.heap.size + 2]? ∧ OpR w1 D f (w1.heap.size + 3) (pre ++ [x]) W'):=by
    rintro ⟨a,w,h⟩
    cases h.1
   clear hI hown hLb hxm hxo hpre hFS hz hy hsp HR HS HRD HH hsa hb1 hbox hI0 hBS
   unfold px
   refine wpIn_block ?_
   refine wpIn_seq ?_
   refine plain_round (by simp) (hQ _) ?_
   go_wp2_with (first | (go_at_call 97; refine HFP.out.mono ?_; rintro e w2 ⟨rfl,hb2⟩) | fail)
   have hb3:=hb2.drew
   have hrec3:RecAt w2.drew (.slice a pre.length cap) pre:=⟨HOW.out.1,(HOW.out.imp_right (fun h => h) |>.2).imp id (fun ⟨g,c,cur,e,_,hg,r⟩ => ⟨g,c,cur,e,Nat.zero_le _,(hb2.block g (Array.getElem?_eq_some_iff.1 hg).1).trans hg,r⟩)⟩
   have hL3:Blk w2.drew w1.heap.size 185 _:=HLB.out.below hb3 HLB.out.lt
   have hP3:Blk w2.drew (w1.heap.size + 1) 102 _:=HBX.out.below hb3 HBX.out.lt
   have HPP:Hid (w2.drew.cell? ⟨w1.heap.size + 1,0,none⟩ = some (.pointer (some ⟨w1.heap.size,0,none⟩))):=hP3.cell 0
   have HEN:Hid (Calls Tryz.prog 116 #[.pointer (some ⟨w1.heap.size,0,none⟩), .int .i64 (pre.length:Int)] w2.drew fun e w' => e = .returned (.int .i64 (z:Nat)) ∧ w2.drew = w'):=by
    have:=lend_c w1.heap.size _ _ _ _ pre pre.length w2.drew hL3 hrec3 (Nat.le_refl _) (by rw [HZ.out]; omega)
    rw [List.take_length,HZ.out] at this
    exact this
   have HOW3:Hid (w2.drew.ownsRow (w1.heap.size + 3) 191 3 (.slice a pre.length cap) pre.length (recL pre)):=⟨HOW.out.1,HOW.out.2.imp id (fun ⟨g,c,cur,e,hb0,hg,r⟩ => ⟨g,c,cur,e,hb0,(hb2.block g (Array.getElem?_eq_some_iff.1 hg).1).trans hg,r⟩)⟩
   refine region_round (S:=fun w' => w'.cell? ⟨w1.heap.size + 1,0,none⟩ = some (.pointer (some ⟨w1.heap.size,0,none⟩))) (by kernel_rfl) (by simp) hQ2 HPP.out (fun hHeld => ?_)
   generalize World.drew w2 = W3 at *
   have hl2:=hL3.cell 2
   have hWz:w1.heap.size + 3 ≤ W3.heap.size:=Nat.le_trans hWs hb3.size
   have HREQ:Hid (recL (pre ++ [x]) = recL pre ++ [.int .u8 (x.1:Int), .string x.2, .int .i64 ((z:Int) + (y:Int))]):=by
    have:=HRS.out
    rw [Nat.zero_add] at this
    show recGo 0 (pre ++ [x]) = recGo 0 pre ++ _
    rw [this]
    simp
   have HOA:Hid ((W3.alloc (.cells #[.int .u8 (x.1:Int), .string x.2, .int .i64 ((z:Int) + (y:Int))] 191)).ownsRow (w1.heap.size + 3) 191 3 (.slice a pre.length cap) pre.length (recL pre)):=HOW3.out.alloc _
   have HNA:Hid (∀ j u',([.int .u8 (x.1:Int), .string x.2, .int .i64 ((z:Int) + (y:Int))]:List Value)[j]? = some u' → (W3.alloc (.cells #[.int .u8 (x.1:Int), .string x.2, .int .i64 ((z:Int) + (y:Int))] 191)).cell? ((⟨W3.heap.size,0,none⟩:Addr).add j) = some u'):=World.news_of_block (heap_alloc_new W3 _)
   have HONE:Hid (∀ v ∈ ([.int .u8 (x.1:Int), .string x.2, .int .i64 ((z:Int) + (y:Int))]:List Value),v.oneCell' = true):=by
    show ∀ v ∈ _,_
    intro v hv
    simp only [List.mem_cons,List.not_mem_nil,or_false] at hv
    rcases hv with rfl | rfl | rfl <;> rfl
   have HPA:Hid ((W3.alloc (.cells #[.int .u8 (x.1:Int), .string x.2, .int .i64 ((z:Int) + (y:Int))] 191)).cell? ⟨w1.heap.size + 1,0,none⟩ = some (.pointer (some ⟨w1.heap.size,0,none⟩))):=(hP3.alloc _).cell 0
   have hwr:IntKind.i64.wrap ((z:Int) + (y:Int)) = (z:Int) + (y:Int):=by rw [IntKind.wrap_i64]; omega
   have HQ:Hid (∀ q cap4 w4,w4.ownsRow (w1.heap.size + 3) 191 3 (.slice (some ⟨q,0,none⟩) (pre.length + 1) cap4) (pre.length + 1) (recL pre ++ [.int .u8 (x.1:Int), .string x.2, .int .i64 ((z:Int) + (y:Int))]) → (W3.alloc (.cells #[.int .u8 (x.1:Int), .string x.2, .int .i64 ((z:Int) + (y:Int))] 191)).grownBy w4 (Value.slice a pre.length cap).ownBlock →
     ((Value.slice a pre.length cap).ownBlock = some q ∨ q = (W3.alloc (.cells #[.int .u8 (x.1:Int), .string x.2, .int .i64 ((z:Int) + (y:Int))] 191)).heap.size) → q < w4.heap.size →
     Blk w4 w1.heap.size 185 #[px D, .int .i64 (f:Int), .slice a pre.length cap, .int .i64 0] ∧ w4.cell? ⟨w1.heap.size + 1,0,none⟩ = some (.pointer (some ⟨w1.heap.size,0,none⟩)) ∧ (w4.cell? ⟨w1.heap.size,2,none⟩ = some (.slice a pre.length cap)) ∧ w4.frozen? ⟨w1.heap.size,2,none⟩ = false ∧
     (w4.setCell ⟨w1.heap.size,2,none⟩ (.slice (some ⟨q,0,none⟩) (pre.length + 1) cap4)).cell? ⟨w1.heap.size + 1,0,none⟩ = some (.pointer (some ⟨w1.heap.size,0,none⟩)) ∧
     (KeepsOthers W (w4.setCell ⟨w1.heap.size,2,none⟩ (.slice (some ⟨q,0,none⟩) (pre.length + 1) cap4)) ∧ (w4.setCell ⟨w1.heap.size,2,none⟩ (.slice (some ⟨q,0,none⟩) (pre.length + 1) cap4)).heap[w1.heap.size + 2]? = W.heap[w1.heap.size + 2]? ∧ OpR w1 D f (w1.heap.size + 3) (pre ++ [x]) (w4.setCell ⟨w1.heap.size,2,none⟩ (.slice (some ⟨q,0,none⟩) (pre.length + 1) cap4)))):=by
    intro q cap4 w4 hown4 hgrow4 hat4 hlt4
    have hro:∀ r,(Value.slice a pre.length cap).ownBlock = some r → w1.heap.size + 3 ≤ r:=fun r hr => (HOW3.out.lt r hr).1
    have hLX:=(hL3.alloc (.cells #[.int .u8 (x.1:Int), .string x.2, .int .i64 ((z:Int) + (y:Int))] 191)).grown hgrow4 (fun e => by have:=hro _ e.symm; omega)
    have hPX:=(hP3.alloc (.cells #[.int .u8 (x.1:Int), .string x.2, .int .i64 ((z:Int) + (y:Int))] 191)).grown hgrow4 (fun e => by have:=hro _ e.symm; omega)
    have hqn:w1.heap.size + 3 ≤ q:=by
     rcases hat4 with h | h
     ·exact hro q h
     ·rw [h]; simp; omega
    exact ⟨hLX,hPX.cell 0,hLX.cell 2,hLX.free 2,(hPX.other (p:=⟨w1.heap.size,2,none⟩) (by show w1.heap.size + 1 ≠ w1.heap.size; omega) _).cell 0,
     OpR.snoc HI.out rfl HLB.out HOW.out (hb3.alloc hb3.size _) hgrow4 (by rw [HREQ.out]; exact hown4) hqn⟩
   have hl2A:=(hL3.alloc (.cells #[.int .u8 (x.1:Int), .string x.2, .int .i64 ((z:Int) + (y:Int))] 191)).cell 2
   clear hL3 hP3 hrec3 HREQ HI HLB HBX HFP
   refine wpAnyH_take (i:=0) (oi:=_) (v := ?_) rfl (by kernel_rfl) (by kernel_rfl) (by kernel_rfl) (fun _ _ _ h => h) (Or.inl ⟨by rfl, ?_⟩) (by assumption) ?_
   rotate_left
   ·intro w' hSw
    (try dsimp only at hSw)
    go_simp
    try with_reducible rfl
   try simp only [Act.put,List.getElem_toArray,List.getElem_cons_zero,List.setIfInBounds_toArray,List.set_cons_zero,List.set_cons_succ]
   refine wpAnyH_take (i:=1) (oi:=_) (v := ?_) rfl (by kernel_rfl) (by kernel_rfl) (by kernel_rfl) (fun _ _ _ h => h) (Or.inl ⟨by rfl, ?_⟩) (by assumption) ?_
   rotate_left
   ·intro w' hSw
    (try dsimp only at hSw)
    go_simp
    try with_reducible rfl
   try simp only [Act.put,List.getElem_toArray,List.getElem_cons_zero,List.getElem_cons_succ,List.setIfInBounds_toArray,List.set_cons_zero,List.set_cons_succ]
   refine wpAnyH_take (i:=2) (oi:=_) (v := ?_) rfl (by kernel_rfl) (by kernel_rfl) (by kernel_rfl) (fun _ _ _ h => h) (Or.inl ⟨by rfl, ?_⟩) (by assumption) ?_
   rotate_left
   ·intro w' hSw
    (try dsimp only at hSw)
    go_simp
    try with_reducible rfl
   try simp only [Act.put,List.getElem_toArray,List.getElem_cons_zero,List.getElem_cons_succ,List.setIfInBounds_toArray,List.set_cons_zero,List.set_cons_succ]
   refine wpAnyH_take (i:=3) (oi:=_) (v := ?_) rfl (by kernel_rfl) (by kernel_rfl) (by kernel_rfl) (fun _ _ _ h => h) (Or.inl ⟨by rfl, ?_⟩) (by assumption) ?_
   rotate_left
   ·intro w' hSw
    (try dsimp only at hSw)
    go_simp
    try with_reducible rfl
   try simp only [Act.put,List.getElem_toArray,List.getElem_cons_zero,List.getElem_cons_succ,List.setIfInBounds_toArray,List.set_cons_zero,List.set_cons_succ]
   refine wpAnyH_take (i:=5) (oi:=_) (v := ?_) rfl (by kernel_rfl) (by kernel_rfl) (by kernel_rfl) (fun _ _ _ h => h) (Or.inl ⟨by rfl, ?_⟩) (by assumption) ?_
   rotate_left
   ·intro w' hSw
    (try dsimp only at hSw)
    go_simp
    try with_reducible rfl
   try simp only [Act.put,List.getElem_toArray,List.getElem_cons_zero,List.getElem_cons_succ,List.setIfInBounds_toArray,List.set_cons_zero,List.set_cons_succ]
   refine wpAnyH_take (i:=6) (oi:=_) (v := ?_) rfl (by kernel_rfl) (by kernel_rfl) (by kernel_rfl) (fun _ _ _ h => h) (Or.inl ⟨by rfl, ?_⟩) (by assumption) ?_
   rotate_left
   ·intro w' hSw
    (try dsimp only at hSw)
    go_simp
    try with_reducible rfl
   try simp only [Act.put,List.getElem_toArray,List.getElem_cons_zero,List.getElem_cons_succ,List.setIfInBounds_toArray,List.set_cons_zero,List.set_cons_succ]
   refine wpAnyH_take (i:=7) (oi:=_) (v := ?_) rfl (by kernel_rfl) (by kernel_rfl) (by kernel_rfl) (fun _ _ _ h => h) (Or.inl ⟨by rfl, ?_⟩) (by assumption) ?_
   rotate_left
   ·intro w' hSw
    (try dsimp only at hSw)
    go_simp
    try with_reducible rfl
   try simp only [Act.put,List.getElem_toArray,List.getElem_cons_zero,List.getElem_cons_succ,List.setIfInBounds_toArray,List.set_cons_zero,List.set_cons_succ]
   refine wpAnyH_take (i:=8) (oi:=_) (v := ?_) rfl (by kernel_rfl) (by kernel_rfl) (by kernel_rfl) (fun _ _ _ h => h) (Or.inl ⟨by rfl, ?_⟩) (by assumption) ?_
   rotate_left
   ·intro w' hSw
    (try dsimp only at hSw)
    go_simp
    try with_reducible rfl
   try simp only [Act.put,List.getElem_toArray,List.getElem_cons_zero,List.getElem_cons_succ,List.setIfInBounds_toArray,List.set_cons_zero,List.set_cons_succ]
   refine wpAnyH_take (i:=9) (oi:=_) (v := ?_) rfl (by kernel_rfl) (by kernel_rfl) (by kernel_rfl) (fun _ _ _ h => h) (Or.inl ⟨by rfl, ?_⟩) (by assumption) ?_
   rotate_left
   ·intro w' hSw
    (try dsimp only at hSw)
    go_simp
    try with_reducible rfl
   try simp only [Act.put,List.getElem_toArray,List.getElem_cons_zero,List.getElem_cons_succ,List.setIfInBounds_toArray,List.set_cons_zero,List.set_cons_succ]
   refine wpAnyH_take (i:=10) (oi:=_) (v := ?_) rfl (by kernel_rfl) (by kernel_rfl) (by kernel_rfl) (fun _ _ _ h => h) (Or.inl ⟨by rfl, ?_⟩) (by assumption) ?_
   rotate_left
   ·intro w' hSw
    (try dsimp only at hSw)
    go_simp
    try with_reducible rfl
   try simp only [Act.put,List.getElem_toArray,List.getElem_cons_zero,List.getElem_cons_succ,List.setIfInBounds_toArray,List.set_cons_zero,List.set_cons_succ]
   refine wpAnyH_take (i:=14) (oi:=_) (v := ?_) rfl (by kernel_rfl) (by kernel_rfl) (by kernel_rfl) (fun _ _ _ h => h) (Or.inl ⟨by rfl, ?_⟩) (by assumption) ?_
   rotate_left
   ·intro w' hSw
    (try dsimp only at hSw)
    go_simp
    try with_reducible rfl
   try simp only [Act.put,List.getElem_toArray,List.getElem_cons_zero,List.getElem_cons_succ,List.setIfInBounds_toArray,List.set_cons_zero,List.set_cons_succ]
   refine wpAnyH_take (i:=15) (oi:=_) (v := ?_) rfl (by kernel_rfl) (by kernel_rfl) (by kernel_rfl) (fun _ _ _ h => h) (Or.inl ⟨by rfl, ?_⟩) (by assumption) ?_
   rotate_left
   ·intro w' hSw
    (try dsimp only at hSw)
    go_simp
    try with_reducible rfl
   try simp only [Act.put,List.getElem_toArray,List.getElem_cons_zero,List.getElem_cons_succ,List.setIfInBounds_toArray,List.set_cons_zero,List.set_cons_succ]
   refine wpAnyH_ready (rs:=[4,11]) (by kernel_rfl) (by simp) ?_
   refine AllReadyH.cons rfl (fun K hK => ?_) (AllReadyH.cons rfl (fun K hK => ?_) (AllReadyH.nil))
   ·go_simp
    refine hK.out _ _ ?_ (fun hHeld => ?_)
    ·exact HPP.out
    clear hK K
    try simp only [Act.put,List.getElem_toArray,List.getElem_cons_zero,List.getElem_cons_succ,List.setIfInBounds_toArray,List.set_cons_zero,List.set_cons_succ]
    refine wpAnyH_ready (rs:=[11]) (by kernel_rfl) (by simp) ?_
    refine AllReadyH.cons rfl (fun K hK => ?_) AllReadyH.nil
    go_simp
    refine hK.out _ _ ?_ (fun hHeld => ?_)
    ·exact HPP.out
    clear hK K
    try simp only [Act.put,List.getElem_toArray,List.getElem_cons_zero,List.getElem_cons_succ,List.setIfInBounds_toArray,List.set_cons_zero,List.set_cons_succ]
    refine wpAnyH_take (i:=12) (oi:=_) (v := ?_) rfl (by kernel_rfl) (by kernel_rfl) (by kernel_rfl) (fun _ _ _ h => h) (Or.inl ⟨by rfl, ?_⟩) (by assumption) ?_
    rotate_left
    ·intro w' hSw
     (try dsimp only at hSw)
     go_simp
     try with_reducible rfl
    try simp only [Act.put,List.getElem_toArray,List.getElem_cons_zero,List.getElem_cons_succ,List.setIfInBounds_toArray,List.set_cons_zero,List.set_cons_succ]
    refine wpAnyH_ready (rs:=[13]) (by kernel_rfl) (by simp) ?_
    refine AllReadyH.cons rfl (fun K hK => ?_) AllReadyH.nil
    go_simp
    refine HEN.out.mono ?_
    rintro e w5 ⟨rfl,rfl⟩
    refine hK.out _ _ ?_ (fun hHeld => ?_)
    ·exact HPP.out
    clear hK K
    try simp only [Act.put,List.getElem_toArray,List.getElem_cons_zero,List.getElem_cons_succ,List.setIfInBounds_toArray,List.set_cons_zero,List.set_cons_succ]
    refine wpAnyH_take (i:=16) (oi:=_) (v := ?_) rfl (by kernel_rfl) (by kernel_rfl) (by kernel_rfl) (fun _ _ _ h => h) (Or.inl ⟨by rfl, ?_⟩) (by assumption) ?_
    rotate_left
    ·intro w' hSw
     (try dsimp only at hSw)
     go_simp
     try with_reducible rfl
    try simp only [Act.put,List.getElem_toArray,List.getElem_cons_zero,List.getElem_cons_succ,List.setIfInBounds_toArray,List.set_cons_zero,List.set_cons_succ]
    refine wpAnyH_take (i:=17) (oi:=_) (v := ?_) rfl (by kernel_rfl) (by kernel_rfl) (by kernel_rfl) (fun _ _ _ h => h) (Or.inl ⟨by rfl, ?_⟩) (by assumption) ?_
    rotate_left
    ·intro w' hSw
     (try dsimp only at hSw)
     go_simp
     try with_reducible rfl
    try simp only [Act.put,List.getElem_toArray,List.getElem_cons_zero,List.getElem_cons_succ,List.setIfInBounds_toArray,List.set_cons_zero,List.set_cons_succ]
    refine wpAnyH_ready (rs:=[18]) (by kernel_rfl) (by simp) ?_
    refine AllReadyH.cons rfl (fun K hK => ?_) AllReadyH.nil
    go_simp
    refine hK.out _ _ ?_ (fun hHeld => ?_)
    ·exact HPA.out
    clear hK K
    try simp only [Act.put,List.getElem_toArray,List.getElem_cons_zero,List.getElem_cons_succ,List.setIfInBounds_toArray,List.set_cons_zero,List.set_cons_succ]
    refine wpAnyH_ready (rs:=[19]) (by kernel_rfl) (by simp) ?_
    refine AllReadyH.cons rfl (fun K hK => ?_) AllReadyH.nil
    refine step_append_lies _ (by rfl) _ _ _ (by rfl) (w1.heap.size + 3) 191 i0 (.agg #[.int .u8 0, .string { data:=#[] }, .int .i64 0]) 3 32 Tryz.underlying183 hi hz0 hz1 hz2 rfl (by decide) (.slice a pre.length cap) pre.length (recL pre) (by rfl) HOA.out ⟨W3.heap.size,0,none⟩ 1 1 [.int .u8 (x.1:Int), .string x.2, .int .i64 ((z:Int) + (y:Int))] (by rfl) rfl HNA.out HONE.out (by decide) (by unfold maxLen; omega) (by omega) (by simp; omega) _ rfl ?_
    intro q cap4 w4 hown4 hgrow4 hat4 hlt4
    have hq:=HQ.out q cap4 w4 hown4 hgrow4 hat4 hlt4
    have hb4:=hq.1
    have p4:=hq.2.1
    have c4:=hq.2.2.1
    have f4:=hq.2.2.2.1
    refine hK.out _ _ ?_ (fun hHeld => ?_)
    ·exact p4
    clear hK K
    try simp only [Act.put,List.getElem_toArray,List.getElem_cons_zero,List.getElem_cons_succ,List.setIfInBounds_toArray,List.set_cons_zero,List.set_cons_succ]
    refine wpAnyH_take (i:=20) (oi:=_) (v := ?_) rfl (by kernel_rfl) (by kernel_rfl) (by kernel_rfl) (fun _ _ _ h => h) (Or.inl ⟨by rfl, ?_⟩) (by assumption) ?_
    rotate_left
    ·intro w' hSw
     (try dsimp only at hSw)
     go_simp
     try with_reducible rfl
    try simp only [Act.put,List.getElem_toArray,List.getElem_cons_zero,List.getElem_cons_succ,List.setIfInBounds_toArray,List.set_cons_zero,List.set_cons_succ]
    refine wpAnyH_take (i:=21) (oi:=_) (v := ?_) rfl (by kernel_rfl) (by kernel_rfl) (by kernel_rfl) (fun _ _ _ h => h) (Or.inl ⟨by rfl, ?_⟩) (by assumption) ?_
    rotate_left
    ·intro w' hSw
     (try dsimp only at hSw)
     go_simp
     try with_reducible rfl
    try simp only [Act.put,List.getElem_toArray,List.getElem_cons_zero,List.getElem_cons_succ,List.setIfInBounds_toArray,List.set_cons_zero,List.set_cons_succ]
    refine wpAnyH_ready (rs:=[22]) (by kernel_rfl) (by simp) ?_
    refine AllReadyH.cons rfl (fun K hK => ?_) AllReadyH.nil
    go_simp
    refine hK.out _ _ ?_ (fun hHeld => ?_)
    ·exact hq.2.2.2.2.1
    clear hK K
    try simp only [Act.put,List.getElem_toArray,List.getElem_cons_zero,List.getElem_cons_succ,List.setIfInBounds_toArray,List.set_cons_zero,List.set_cons_succ]
    refine wpAnyH_done (by kernel_rfl) ?_ _
    exact ⟨rfl,hq.2.2.2.2.2⟩
   ·go_simp
    refine hK.out _ _ ?_ (fun hHeld => ?_)
    ·exact HPP.out
    clear hK K
    try simp only [Act.put,List.getElem_toArray,List.getElem_cons_zero,List.getElem_cons_succ,List.setIfInBounds_toArray,List.set_cons_zero,List.set_cons_succ]
    refine wpAnyH_take (i:=12) (oi:=_) (v := ?_) rfl (by kernel_rfl) (by kernel_rfl) (by kernel_rfl) (fun _ _ _ h => h) (Or.inl ⟨by rfl, ?_⟩) (by assumption) ?_
    rotate_left
    ·intro w' hSw
     (try dsimp only at hSw)
     go_simp
     try with_reducible rfl
    try simp only [Act.put,List.getElem_toArray,List.getElem_cons_zero,List.getElem_cons_succ,List.setIfInBounds_toArray,List.set_cons_zero,List.set_cons_succ]
    refine wpAnyH_ready (rs:=[4,13]) (by kernel_rfl) (by simp) ?_
    refine AllReadyH.cons rfl (fun K hK => ?_) (AllReadyH.cons rfl (fun K hK => ?_) (AllReadyH.nil))
    ·go_simp
     refine hK.out _ _ ?_ (fun hHeld => ?_)
     ·exact HPP.out
     clear hK K
     try simp only [Act.put,List.getElem_toArray,List.getElem_cons_zero,List.getElem_cons_succ,List.setIfInBounds_toArray,List.set_cons_zero,List.set_cons_succ]
     refine wpAnyH_ready (rs:=[13]) (by kernel_rfl) (by simp) ?_
     refine AllReadyH.cons rfl (fun K hK => ?_) AllReadyH.nil
     go_simp
     refine HEN.out.mono ?_
     rintro e w5 ⟨rfl,rfl⟩
     refine hK.out _ _ ?_ (fun hHeld => ?_)
     ·exact HPP.out
     clear hK K
     try simp only [Act.put,List.getElem_toArray,List.getElem_cons_zero,List.getElem_cons_succ,List.setIfInBounds_toArray,List.set_cons_zero,List.set_cons_succ]
     refine wpAnyH_take (i:=16) (oi:=_) (v := ?_) rfl (by kernel_rfl) (by kernel_rfl) (by kernel_rfl) (fun _ _ _ h => h) (Or.inl ⟨by rfl, ?_⟩) (by assumption) ?_
     rotate_left
     ·intro w' hSw
      (try dsimp only at hSw)
      go_simp
      try with_reducible rfl
     try simp only [Act.put,List.getElem_toArray,List.getElem_cons_zero,List.getElem_cons_succ,List.setIfInBounds_toArray,List.set_cons_zero,List.set_cons_succ]
     refine wpAnyH_take (i:=17) (oi:=_) (v := ?_) rfl (by kernel_rfl) (by kernel_rfl) (by kernel_rfl) (fun _ _ _ h => h) (Or.inl ⟨by rfl, ?_⟩) (by assumption) ?_
     rotate_left
     ·intro w' hSw
      (try dsimp only at hSw)
      go_simp
      try with_reducible rfl
     try simp only [Act.put,List.getElem_toArray,List.getElem_cons_zero,List.getElem_cons_succ,List.setIfInBounds_toArray,List.set_cons_zero,List.set_cons_succ]
     refine wpAnyH_ready (rs:=[18]) (by kernel_rfl) (by simp) ?_
     refine AllReadyH.cons rfl (fun K hK => ?_) AllReadyH.nil
     go_simp
     refine hK.out _ _ ?_ (fun hHeld => ?_)
     ·exact HPA.out
     clear hK K
     try simp only [Act.put,List.getElem_toArray,List.getElem_cons_zero,List.getElem_cons_succ,List.setIfInBounds_toArray,List.set_cons_zero,List.set_cons_succ]
     refine wpAnyH_ready (rs:=[19]) (by kernel_rfl) (by simp) ?_
     refine AllReadyH.cons rfl (fun K hK => ?_) AllReadyH.nil
     refine step_append_lies _ (by rfl) _ _ _ (by rfl) (w1.heap.size + 3) 191 i0 (.agg #[.int .u8 0, .string { data:=#[] }, .int .i64 0]) 3 32 Tryz.underlying183 hi hz0 hz1 hz2 rfl (by decide) (.slice a pre.length cap) pre.length (recL pre) (by rfl) HOA.out ⟨W3.heap.size,0,none⟩ 1 1 [.int .u8 (x.1:Int), .string x.2, .int .i64 ((z:Int) + (y:Int))] (by rfl) rfl HNA.out HONE.out (by decide) (by unfold maxLen; omega) (by omega) (by simp; omega) _ rfl ?_
     intro q cap4 w4 hown4 hgrow4 hat4 hlt4
     have hq:=HQ.out q cap4 w4 hown4 hgrow4 hat4 hlt4
     have hb4:=hq.1
     have p4:=hq.2.1
     have c4:=hq.2.2.1
     have f4:=hq.2.2.2.1
     refine hK.out _ _ ?_ (fun hHeld => ?_)
     ·exact p4
     clear hK K
     try simp only [Act.put,List.getElem_toArray,List.getElem_cons_zero,List.getElem_cons_succ,List.setIfInBounds_toArray,List.set_cons_zero,List.set_cons_succ]
     refine wpAnyH_take (i:=20) (oi:=_) (v := ?_) rfl (by kernel_rfl) (by kernel_rfl) (by kernel_rfl) (fun _ _ _ h => h) (Or.inl ⟨by rfl, ?_⟩) (by assumption) ?_
     rotate_left
     ·intro w' hSw
      (try dsimp only at hSw)
      go_simp
      try with_reducible rfl
     try simp only [Act.put,List.getElem_toArray,List.getElem_cons_zero,List.getElem_cons_succ,List.setIfInBounds_toArray,List.set_cons_zero,List.set_cons_succ]
     refine wpAnyH_take (i:=21) (oi:=_) (v := ?_) rfl (by kernel_rfl) (by kernel_rfl) (by kernel_rfl) (fun _ _ _ h => h) (Or.inl ⟨by rfl, ?_⟩) (by assumption) ?_
     rotate_left
     ·intro w' hSw
      (try dsimp only at hSw)
      go_simp
      try with_reducible rfl
     try simp only [Act.put,List.getElem_toArray,List.getElem_cons_zero,List.getElem_cons_succ,List.setIfInBounds_toArray,List.set_cons_zero,List.set_cons_succ]
     refine wpAnyH_ready (rs:=[22]) (by kernel_rfl) (by simp) ?_
     refine AllReadyH.cons rfl (fun K hK => ?_) AllReadyH.nil
     go_simp
     refine hK.out _ _ ?_ (fun hHeld => ?_)
     ·exact hq.2.2.2.2.1
     clear hK K
     try simp only [Act.put,List.getElem_toArray,List.getElem_cons_zero,List.getElem_cons_succ,List.setIfInBounds_toArray,List.set_cons_zero,List.set_cons_succ]
     refine wpAnyH_done (by kernel_rfl) ?_ _
     exact ⟨rfl,hq.2.2.2.2.2⟩
    ·go_simp
     refine HEN.out.mono ?_
     rintro e w5 ⟨rfl,rfl⟩
     refine hK.out _ _ ?_ (fun hHeld => ?_)
     ·exact HPP.out
     clear hK K
     try simp only [Act.put,List.getElem_toArray,List.getElem_cons_zero,List.getElem_cons_succ,List.setIfInBounds_toArray,List.set_cons_zero,List.set_cons_succ]
     refine wpAnyH_take (i:=16) (oi:=_) (v := ?_) rfl (by kernel_rfl) (by kernel_rfl) (by kernel_rfl) (fun _ _ _ h => h) (Or.inl ⟨by rfl, ?_⟩) (by assumption) ?_
     rotate_left
     ·intro w' hSw
      (try dsimp only at hSw)
      go_simp
      try with_reducible rfl
     try simp only [Act.put,List.getElem_toArray,List.getElem_cons_zero,List.getElem_cons_succ,List.setIfInBounds_toArray,List.set_cons_zero,List.set_cons_succ]
     refine wpAnyH_take (i:=17) (oi:=_) (v := ?_) rfl (by kernel_rfl) (by kernel_rfl) (by kernel_rfl) (fun _ _ _ h => h) (Or.inl ⟨by rfl, ?_⟩) (by assumption) ?_
     rotate_left
     ·intro w' hSw
      (try dsimp only at hSw)
      go_simp
      try with_reducible rfl
     try simp only [Act.put,List.getElem_toArray,List.getElem_cons_zero,List.getElem_cons_succ,List.setIfInBounds_toArray,List.set_cons_zero,List.set_cons_succ]
     refine wpAnyH_ready (rs:=[4,18]) (by kernel_rfl) (by simp) ?_
     refine AllReadyH.cons rfl (fun K hK => ?_) (AllReadyH.cons rfl (fun K hK => ?_) (AllReadyH.nil))
     ·go_simp
      refine hK.out _ _ ?_ (fun hHeld => ?_)
      ·exact HPP.out
      clear hK K
      try simp only [Act.put,List.getElem_toArray,List.getElem_cons_zero,List.getElem_cons_succ,List.setIfInBounds_toArray,List.set_cons_zero,List.set_cons_succ]
      refine wpAnyH_ready (rs:=[18]) (by kernel_rfl) (by simp) ?_
      refine AllReadyH.cons rfl (fun K hK => ?_) AllReadyH.nil
      go_simp
      refine hK.out _ _ ?_ (fun hHeld => ?_)
      ·exact HPA.out
      clear hK K
      try simp only [Act.put,List.getElem_toArray,List.getElem_cons_zero,List.getElem_cons_succ,List.setIfInBounds_toArray,List.set_cons_zero,List.set_cons_succ]
      refine wpAnyH_ready (rs:=[19]) (by kernel_rfl) (by simp) ?_
      refine AllReadyH.cons rfl (fun K hK => ?_) AllReadyH.nil
      refine step_append_lies _ (by rfl) _ _ _ (by rfl) (w1.heap.size + 3) 191 i0 (.agg #[.int .u8 0, .string { data:=#[] }, .int .i64 0]) 3 32 Tryz.underlying183 hi hz0 hz1 hz2 rfl (by decide) (.slice a pre.length cap) pre.length (recL pre) (by rfl) HOA.out ⟨W3.heap.size,0,none⟩ 1 1 [.int .u8 (x.1:Int), .string x.2, .int .i64 ((z:Int) + (y:Int))] (by rfl) rfl HNA.out HONE.out (by decide) (by unfold maxLen; omega) (by omega) (by simp; omega) _ rfl ?_
      intro q cap4 w4 hown4 hgrow4 hat4 hlt4
      have hq:=HQ.out q cap4 w4 hown4 hgrow4 hat4 hlt4
      have hb4:=hq.1
      have p4:=hq.2.1
      have c4:=hq.2.2.1
      have f4:=hq.2.2.2.1
      refine hK.out _ _ ?_ (fun hHeld => ?_)
      ·exact p4
      clear hK K
      try simp only [Act.put,List.getElem_toArray,List.getElem_cons_zero,List.getElem_cons_succ,List.setIfInBounds_toArray,List.set_cons_zero,List.set_cons_succ]
      refine wpAnyH_take (i:=20) (oi:=_) (v := ?_) rfl (by kernel_rfl) (by kernel_rfl) (by kernel_rfl) (fun _ _ _ h => h) (Or.inl ⟨by rfl, ?_⟩) (by assumption) ?_
      rotate_left
      ·intro w' hSw
       (try dsimp only at hSw)
       go_simp
       try with_reducible rfl
      try simp only [Act.put,List.getElem_toArray,List.getElem_cons_zero,List.getElem_cons_succ,List.setIfInBounds_toArray,List.set_cons_zero,List.set_cons_succ]
      refine wpAnyH_take (i:=21) (oi:=_) (v := ?_) rfl (by kernel_rfl) (by kernel_rfl) (by kernel_rfl) (fun _ _ _ h => h) (Or.inl ⟨by rfl, ?_⟩) (by assumption) ?_
      rotate_left
      ·intro w' hSw
       (try dsimp only at hSw)
       go_simp
       try with_reducible rfl
      try simp only [Act.put,List.getElem_toArray,List.getElem_cons_zero,List.getElem_cons_succ,List.setIfInBounds_toArray,List.set_cons_zero,List.set_cons_succ]
      refine wpAnyH_ready (rs:=[22]) (by kernel_rfl) (by simp) ?_
      refine AllReadyH.cons rfl (fun K hK => ?_) AllReadyH.nil
      go_simp
      refine hK.out _ _ ?_ (fun hHeld => ?_)
      ·exact hq.2.2.2.2.1
      clear hK K
      try simp only [Act.put,List.getElem_toArray,List.getElem_cons_zero,List.getElem_cons_succ,List.setIfInBounds_toArray,List.set_cons_zero,List.set_cons_succ]
      refine wpAnyH_done (by kernel_rfl) ?_ _
      exact ⟨rfl,hq.2.2.2.2.2⟩
     ·go_simp
      refine hK.out _ _ ?_ (fun hHeld => ?_)
      ·exact HPA.out
      clear hK K
      try simp only [Act.put,List.getElem_toArray,List.getElem_cons_zero,List.getElem_cons_succ,List.setIfInBounds_toArray,List.set_cons_zero,List.set_cons_succ]
      refine wpAnyH_ready (rs:=[4]) (by kernel_rfl) (by simp) ?_
      refine AllReadyH.cons rfl (fun K hK => ?_) AllReadyH.nil
      go_simp
      refine hK.out _ _ ?_ (fun hHeld => ?_)
      ·exact HPA.out
      clear hK K
      try simp only [Act.put,List.getElem_toArray,List.getElem_cons_zero,List.getElem_cons_succ,List.setIfInBounds_toArray,List.set_cons_zero,List.set_cons_succ]
      refine wpAnyH_ready (rs:=[19]) (by kernel_rfl) (by simp) ?_
      refine AllReadyH.cons rfl (fun K hK => ?_) AllReadyH.nil
      refine step_append_lies _ (by rfl) _ _ _ (by rfl) (w1.heap.size + 3) 191 i0 (.agg #[.int .u8 0, .string { data:=#[] }, .int .i64 0]) 3 32 Tryz.underlying183 hi hz0 hz1 hz2 rfl (by decide) (.slice a pre.length cap) pre.length (recL pre) (by rfl) HOA.out ⟨W3.heap.size,0,none⟩ 1 1 [.int .u8 (x.1:Int), .string x.2, .int .i64 ((z:Int) + (y:Int))] (by rfl) rfl HNA.out HONE.out (by decide) (by unfold maxLen; omega) (by omega) (by simp; omega) _ rfl ?_
      intro q cap4 w4 hown4 hgrow4 hat4 hlt4
      have hq:=HQ.out q cap4 w4 hown4 hgrow4 hat4 hlt4
      have hb4:=hq.1
      have p4:=hq.2.1
      have c4:=hq.2.2.1
      have f4:=hq.2.2.2.1
      refine hK.out _ _ ?_ (fun hHeld => ?_)
      ·exact p4
      clear hK K
      try simp only [Act.put,List.getElem_toArray,List.getElem_cons_zero,List.getElem_cons_succ,List.setIfInBounds_toArray,List.set_cons_zero,List.set_cons_succ]
      refine wpAnyH_take (i:=20) (oi:=_) (v := ?_) rfl (by kernel_rfl) (by kernel_rfl) (by kernel_rfl) (fun _ _ _ h => h) (Or.inl ⟨by rfl, ?_⟩) (by assumption) ?_
      rotate_left
      ·intro w' hSw
       (try dsimp only at hSw)
       go_simp
       try with_reducible rfl
      try simp only [Act.put,List.getElem_toArray,List.getElem_cons_zero,List.getElem_cons_succ,List.setIfInBounds_toArray,List.set_cons_zero,List.set_cons_succ]
      refine wpAnyH_take (i:=21) (oi:=_) (v := ?_) rfl (by kernel_rfl) (by kernel_rfl) (by kernel_rfl) (fun _ _ _ h => h) (Or.inl ⟨by rfl, ?_⟩) (by assumption) ?_
      rotate_left
      ·intro w' hSw
       (try dsimp only at hSw)
       go_simp
       try with_reducible rfl
      try simp only [Act.put,List.getElem_toArray,List.getElem_cons_zero,List.getElem_cons_succ,List.setIfInBounds_toArray,List.set_cons_zero,List.set_cons_succ]
      refine wpAnyH_ready (rs:=[22]) (by kernel_rfl) (by simp) ?_
      refine AllReadyH.cons rfl (fun K hK => ?_) AllReadyH.nil
      go_simp
      refine hK.out _ _ ?_ (fun hHeld => ?_)
      ·exact hq.2.2.2.2.1
      clear hK K
      try simp only [Act.put,List.getElem_toArray,List.getElem_cons_zero,List.getElem_cons_succ,List.setIfInBounds_toArray,List.set_cons_zero,List.set_cons_succ]
      refine wpAnyH_done (by kernel_rfl) ?_ _
      exact ⟨rfl,hq.2.2.2.2.2⟩
  case done =>
   intro D2 W hD2 hI hdef
   obtain ⟨lv,hL,hown⟩:=hI.ex
   have hrec:RecAt W lv (allF s):=⟨hown.1,hown.2.imp id (fun ⟨g,c,cur,e,_,r⟩ => ⟨g,c,cur,e,Nat.zero_le _,r⟩)⟩
   obtain ⟨a,cap,rfl,hcap,hmx⟩:=hrec.slice
   have hle:=allF_le s
   have hcnt:=frs_count (allF s)
   have HPX:Hid (W.cell? ⟨w1.heap.size + 1,0,none⟩ = some (.pointer (some ⟨w1.heap.size,0,none⟩))):=hI.box.cell 0
   have p0:=HPX.out
   have l2:=hL.cell 2
   have l3:=hL.cell 3
   have m3:=hL.free 3
   have HEN:Hid (∀ W':World,W'.heap = W.heap → Calls Tryz.prog 116 #[.pointer (some ⟨w1.heap.size,0,none⟩), .int .i64 ((allF s).length:Int)] W' fun e w' => e = .returned (.int .i64 ((frs (allF s)).length:Nat)) ∧ W' = w'):=by
    intro W' hW'
    have:=lend_c w1.heap.size _ _ _ _ (allF s) (allF s).length W' (by unfold Blk; rw [hW']; exact hL) (hrec.keep fun _ _ => by rw [hW']) (Nat.le_refl _) (by omega)
    rwa [List.take_length] at this
   have hold:∀ b,b < w.heap.size → W.heap[b]? = w.heap[b]? := fun b hb => (hI.old b (by have:=hb1.size; omega)).trans (hb1.block b hb)
   have HOLD:=Lib.hid hold
   have HDK:Hid (DkAt W M D d):=HH.out.keep (by have:=hI.size; have:=hb1.size; omega) fun b hb => hold b (HH.out.lt b hb)
   have HI2:=Lib.hid hI
   have HL:=Lib.hid hL
   have HREC:=Lib.hid hrec
   have HOWN:=Lib.hid hown
   have HDEF:=Lib.hid hdef
   have hlen:(allF s).length ≤ 9223372036854775807:=by omega
   have hll2:(allF s).length ≤ 4194304:=by omega
   clear hbox hI0 hBS hsp hold hI hL hrec hown hdef hsa HRD
   generalize hl:allF s = l at *
   have HAL:=Lib.hid hl
   clear hl
   generalize hz:(frs l).length = z at *
   have HZ:=Lib.hid hz
   clear hz
   simp only [px]
   go_upto_region 12 with fail
   go_cut [13] from 63 to 95 (fun s13 wx => s13 = .int .i64 (z:Int) ∧ wx = W.drew)
   case first =>
    go_region_with (first | (go_at_call 116; refine (HEN.out W.drew rfl).mono ?_; rintro e w3 ⟨rfl,rfl⟩))
    all_goals
     go_wp2_with fail
     go_meet
     exact ⟨rfl,rfl⟩
   case rest =>
   obtain ⟨rfl,hwx⟩:=hcut
   subst hwx
   have hp0:(W.drew).cell? ⟨w1.heap.size + 1,0,none⟩ = some (.pointer (some ⟨w1.heap.size,0,none⟩)):=p0
   have HBW:=Lib.hid hb1
   have HMlt:=Lib.hid HH.out.lt
   have HRECS:Hid (∀ p ∈ l,p.ok):=by
    show ∀ p ∈ l,p.ok
    obtain ⟨_,_,h2,_⟩:=allF_spec s
    rw [HAL.out] at h2
    exact h2
   have HOS:=Lib.hid (open_same s)
   rw [HAL.out,HZ.out] at HOS
   have hD2':w1.heap.size + 3 ≤ D2:=by omega
   have HDR:Hid (DkAt W.drew M D d):=HDK.out.keep (Nat.le_refl _) fun _ _ => rfl
   have HOF:Hid (Lg.open d f = if z < s.size then
     (if (d.cut f z).2 ≠ 0 then ((d.cut f z).1,none,(d.cut f z).2) else if (d.cut f z).1.sync.2 ≠ 0 then ((d.cut f z).1.sync.1,none,(d.cut f z).1.sync.2) else ((d.cut f z).1.sync.1,some ⟨f,l,l.length⟩,0))
     else (d,some ⟨f,l,l.length⟩,0)):=by
    show _ = _
    unfold Lg.open
    rw [if_neg HOFF.out,HS.out,HAL.out,HZ.out]
   rw [HR.out] at HOF
   have HUN:Hid (∀ Wd d',DkTo W.drew Wd M D d' → DkTo W Wd M D d'):=fun Wd d' h => h.undrew
   have HTAIL:Hid (∀ (Wd:World) (d':Dk),DkTo W Wd M D d' → fl d'.now f = bstr (frs l) →
     Wd.cell? ⟨w1.heap.size + 1,0,none⟩ = some (.pointer (some ⟨w1.heap.size,0,none⟩)) ∧ (Wd.cell? ⟨w1.heap.size,2,none⟩ = some (.slice a l.length cap)) ∧ (Wd.cell? ⟨w1.heap.size,3,none⟩ = some (.int .i64 0)) ∧ Wd.frozen? ⟨w1.heap.size,3,none⟩ = false):=by
    intro Wd d' hT hs
    have hk:∀ b,b < w1.heap.size + 3 → w1.heap.size ≤ b → Wd.heap[b]? = W.heap[b]? := fun b h1 h2 => hT.1.block b (by have:=HI2.out.size; omega) (fun hm => by have:=HMlt.out b hm; have:=hb1.size; omega)
    have hL2:Blk Wd w1.heap.size 185 _:=(hk _ (by omega) (Nat.le_refl _)).trans HL.out
    have hP2:Blk Wd (w1.heap.size + 1) 102 _:=(hk _ (by omega) (by omega)).trans HI2.out.box
    exact ⟨hP2.cell 0,hL2.cell 2,hL2.cell 3,hL2.free 3⟩
   have HFIN:Hid (∀ (Wd:World) (d':Dk),DkTo W Wd M D d' → fl d'.now f = bstr (frs l) → (Wd.setCell ⟨w1.heap.size,3,none⟩ (.int .i64 (l.length:Int))).heap[D2]? = some (.deferred (some [])) ∧
     Fr M w ((Wd.setCell ⟨w1.heap.size,3,none⟩ (.int .i64 (l.length:Int))).putObj D2 (.deferred none)) ∧
     ∃ K,LgAt ((Wd.setCell ⟨w1.heap.size,3,none⟩ (.int .i64 (l.length:Int))).putObj D2 (.deferred none)) K w1.heap.size ⟨f,l,l.length⟩ D d' ∧ ∀ b,K b → M b ∨ w.heap.size ≤ b):=by
    rintro Wd d' ⟨hfW,N,hN,hd'⟩ hs
    exact op_fin HBW.out HMlt.out hf HI2.out HL.out HOWN.out HRECS.out HDEF.out hD2' hfW hN hd' hs
   have HERR:Hid (∀ (Wd:World) (d':Dk),DkTo W Wd M D d' → Wd.heap[D2]? = some (.deferred (some [])) ∧ DkTo w (Wd.putObj D2 (.deferred none)) M D d'):=fun Wd d' hT => op_err HBW.out HMlt.out HI2.out HDEF.out hD2' hT
   clear HPX HEN p0 l2 l3 m3 HREC HL HOWN HI2 hb1 HOLD HDK hszL hD2 HH HZ HAL HOFF hle hcnt
   by_cases hlt:z < s.size
   ·rw [if_pos hlt] at HOF
    have d1:decide ((z:Int) < (s.size:Int)) = true:=decide_eq_true (by omega)
    have HC:=Lib.hid (Cut_c W.drew M D d HDR.out f z hll)
    have HCN:=Lib.hid (cut_now HDR.out.inv f hf z)
    rw [HS.out,HOS.out.1] at HCN
    by_cases hc:(d.cut f z).2 = 0
    ·rw [if_neg (by simpa using hc)] at HOF
     rw [hc] at HC
     have hcn:=HCN.out hc
     clear hc HCN
     generalize (d.cut f z).1 = dc at *
     have HSY:Hid (∀ Wd N,DkAt Wd N D dc → Calls Tryz.prog 75 #[px D] Wd fun e w' => e = .returned (.int .i64 dc.sync.2) ∧ DkTo Wd w' N D dc.sync.1):=fun Wd N h => Sync_c Wd N D dc h
     have HSN:=Lib.hid (sync_now dc)
     unfold px at HC HSY
     by_cases hy:dc.sync.2 = 0
     ·rw [if_neg (by simpa using hy)] at HOF
      rw [hy] at HSY
      clear hy
      generalize dc.sync.1 = ds at *
      go_upto_region 20 with (first | (go_at_call 71; refine HC.out.mono ?_; rintro e w3 ⟨rfl,hT3⟩; obtain ⟨hf3,N3,hN3,hd3⟩:=hT3; have HSY3:=Lib.hid (HSY.out w3 N3 hd3)) | (go_at_call 75; refine HSY3.out.mono ?_; rintro e w4 ⟨rfl,hT4⟩) | fail)
      have hT:DkTo W w4 M D ds:=HUN.out w4 ds (DkTo.trans' hf3 hN3 hT4)
      have hsame:fl ds.now f = bstr (frs l):=by rw [HSN.out]; exact hcn
      obtain ⟨k0,k2,k3,m3⟩:=HTAIL.out w4 ds hT hsame
      have HTT:=Lib.hid hT
      clear hT hf3 hT4 HSY3 hd3 HC HSY
      have HX:=Lib.hid (HFIN.out w4 ds HTT.out hsame)
      have hlL:w1.heap.size < w4.heap.size:=World.block_lt_of_cell? _ _ k3
      have hneq:w1.heap.size + 1 ≠ w1.heap.size:=by omega
      go_region
      all_goals
       go_wp2_with fail
       obtain ⟨x1,x2,K,x3,x4⟩:=HX.out
       refine ret1 x1 (results_tmp2 rfl _ _ _) rfl ?_
       rw [HOF.out]
       exact .inr ⟨⟨f,l,l.length⟩,w1.heap.size,K,rfl,rfl,⟨x2.os,x2.tape,x2.output,x2.size,x2.block⟩,x3.keep (Nat.le_refl _) (fun _ _ => rfl),x4⟩
     ·rw [if_pos hy] at HOF
      have d3:(dc.sync.2 != 0) = true:=by simpa using hy
      clear hy
      generalize dc.sync = y at *
      go_wp2_with (first | (go_at_call 71; refine HC.out.mono ?_; rintro e w3 ⟨rfl,hT3⟩; obtain ⟨hf3,N3,hN3,hd3⟩:=hT3; have HSY3:=Lib.hid (HSY.out w3 N3 hd3)) | (go_at_call 75; refine HSY3.out.mono ?_; rintro e w4 ⟨rfl,hT4⟩) | fail)
      have hE:=HERR.out w4 _ (HUN.out w4 _ (DkTo.trans' hf3 hN3 hT4))
      refine ret1 hE.1 (results_tmp2 rfl _ _ _) rfl ?_
      rw [HOF.out]
      exact .inl ⟨_,rfl,rfl,hE.2⟩
    ·rw [if_pos hc] at HOF
     have d2:((d.cut f z).2 != 0) = true:=by simpa using hc
     clear hc HCN
     generalize d.cut f z = q at *
     unfold px at HC
     go_wp2_with (first | (go_at_call 71; refine HC.out.mono ?_; rintro e w3 ⟨rfl,hT3⟩) | fail)
     have hE:=HERR.out w3 _ (HUN.out w3 _ hT3)
     refine ret1 hE.1 (results_tmp2 rfl _ _ _) rfl ?_
     rw [HOF.out]
     exact .inl ⟨_,rfl,rfl,hE.2⟩
   ·rw [if_neg hlt] at HOF
    have d1:decide ((z:Int) < (s.size:Int)) = false:=decide_eq_false (by omega)
    go_upto_region 20 with fail
    have hT:DkTo W W.drew M D d:=HUN.out _ _ HDR.out.tos
    have hsame:fl d.now f = bstr (frs l):=by rw [HS.out]; exact HOS.out.2 (by omega)
    obtain ⟨k0,k2,k3,m3⟩:=HTAIL.out _ d hT hsame
    have HTT:=Lib.hid hT
    clear hT hp0
    generalize World.drew W = w4 at *
    have HX:=Lib.hid (HFIN.out w4 d HTT.out hsame)
    have hlL:w1.heap.size < w4.heap.size:=World.block_lt_of_cell? _ _ k3
    have hneq:w1.heap.size + 1 ≠ w1.heap.size:=by omega
    go_region
    all_goals
     go_wp2_with fail
     obtain ⟨x1,x2,K,x3,x4⟩:=HX.out
     refine ret1 x1 (results_tmp2 rfl _ _ _) rfl ?_
     rw [HOF.out]
     exact .inr ⟨⟨f,l,l.length⟩,w1.heap.size,K,rfl,rfl,⟨x2.os,x2.tape,x2.output,x2.size,x2.block⟩,x3.keep (Nat.le_refl _) (fun _ _ => rfl),x4⟩
end
end Go.Proofs.YtpkijdkoiecpiaaGreatDoor
