/-
  Parts of the proof: OZ P0.
-/
import Derived.Deep.AppendLies
import Derived.Deep.RegionLaw
import Derived.Test.YtpkijdkoiecpiaaGreatDoorZS5
namespace Go.Proofs.YtpkijdkoiecpiaaGreatDoor
open Go.RowKit
set_option linter.unusedVariables false
set_option linter.unusedSimpArgs false
theorem info_chg:(Tryz.prog.info? 124).map (fun i => (i.zero,i.size,i.bytes)) = some (some (.agg #[.nilFunc, .nilFunc]),2,16):=by kernel_rfl
theorem Dk.op_len {d:Dk} (h:d.Len):d.op.1.Len:=⟨by rw [(Dk.op_same d).2.1]; exact h.n,by rw [(Dk.op_same d).2.2.1]; exact h.s⟩
theorem DkAt.grow {w w1 w2 w3:World} {M P:Nat → Prop} {D:Nat} {d d2:Dk} {c:Chg} {v1 v2:Value} {lv:Value} {cells:List Value} {g cap:Nat}
  (h:DkAt w M D d) (hi:d2.Inv) (hlo:d2.loose = d.loose ++ [c]) (hL:LooseAt w M D lv d.loose) (hown0:w.ownsRow 0 124 2 lv d.loose.length cells)
  (hcs:∀ i (h:i < d.loose.length),∃ v1 v2,cells[i * 2]? = some v1 ∧ cells[i * 2 + 1]? = some v2 ∧ ChgAt w (fun b => M b ∧ b ≠ D ∧ ¬ rowB lv b) v1 v2 d.loose[i])
  (hc:ChgAt w P v1 v2 c) (hP:∀ b,P b → b < w.heap.size ∧ ¬ M b) (hf:Fr (· = D) w w1)
  (hgrow:w1.grownBy w2 lv.ownBlock) (hat:lv.ownBlock = some g ∨ g = w1.heap.size) (hlt:g < w2.heap.size)
  (hown:w2.ownsRow 0 124 2 (.slice (some ⟨g,0,none⟩) (d.loose.length + 1) cap) (d.loose.length + 1) (cells ++ [v1,v2]))
  (hb:Blk w3 D 101 (dkC d2 (.slice (some ⟨g,0,none⟩) (d.loose.length + 1) cap))) (hf3:Fr (· = D) w2 w3) :
  Fr M w w3 ∧ ∃ N,(∀ b,N b → M b ∨ P b ∨ w.heap.size ≤ b) ∧ DkAt w3 N D d2:=by
 have hDl:=h.lt D h.mem
 have hs1:=hf.size
 have hs2:=hgrow.size
 have hs3:=hf3.size
 have hrow:∀ q,lv.ownBlock = some q → rowB lv q:=by
  intro q hq
  rcases hown0.2 with ⟨rfl,_⟩ | ⟨g',cap',cur,rfl,_⟩
  ·simp [Value.ownBlock] at hq
  ·simp [Value.ownBlock] at hq
   subst hq
   exact ⟨_,_,_,rfl⟩
 have hMq:∀ q,lv.ownBlock = some q → M q ∧ q ≠ D:=fun q hq => hL.row q (hrow q hq)
 have hgD:g ≠ D:=by
  rcases hat with hat | hat
  ·exact (hMq g hat).2
  ·omega
 have keep:∀ b,b < w.heap.size → b ≠ D → lv.ownBlock ≠ some b → w3.heap[b]? = w.heap[b]? := fun b hbl hbD hbo => by
  rw [hf3.block b (by omega) hbD,hgrow.block b (by omega) (fun e => hbo e.symm),hf.block b hbl hbD]
 have hown3:w3.ownsRow 0 124 2 (.slice (some ⟨g,0,none⟩) (d.loose.length + 1) cap) (d.loose.length + 1) (cells ++ [v1,v2]) :=
  ownsRow_keep hown fun q ⟨o,n,c,e⟩ => by
   simp only [Value.slice.injEq,Option.some.injEq,Addr.mk.injEq] at e
   obtain ⟨⟨rfl,_⟩,_⟩:=e
   exact hf3.block g hlt hgD
 have hlen:=hown0.1
 have fA:Fr M w w1:=hf.mono (fun k _ e => e ▸ h.mem)
 have fB:Fr M w1 w2:=⟨hgrow.os,hgrow.tape,hgrow.output,hgrow.size,fun k hk hn => hgrow.block k hk (fun e => hn (hMq k e.symm).1)⟩
 have fC:Fr M w2 w3:=hf3.mono (fun k _ e => e ▸ h.mem)
 refine ⟨(fA.trans fB).trans fC,fun b => M b ∨ P b ∨ b = g, ?_, ?_⟩
 ·rintro b (hb | hb | hb)
  ·exact .inl hb
  ·exact .inr (.inl hb)
  ·subst hb
   rcases hat with hat | hat
   ·exact .inl (hMq b hat).1
   ·exact .inr (.inr (by omega))
 ·refine ⟨hi, .inl h.mem, ?_,_,hb,⟨⟨_,by rw [hlo,List.length_append]; exact hown3, ?_⟩, ?_⟩⟩
  ·rintro b (hb | hb | hb)
   ·have:=h.lt b hb; omega
   ·have:=(hP b hb).1; omega
   ·omega
  ·intro i hi2
   rw [hlo,List.length_append] at hi2
   simp only [List.length_cons,List.length_nil] at hi2
   simp only [hlo]
   by_cases hil:i < d.loose.length
   ·obtain ⟨u1,u2,q1,q2,q3⟩:=hcs i hil
    refine ⟨u1,u2, ?_, ?_, ?_⟩
    ·rw [List.getElem?_append_left (by omega)]; exact q1
    ·rw [List.getElem?_append_left (by omega)]; exact q2
    ·rw [List.getElem_append_left hil]
     refine q3.keep ?_ ?_
     ·rintro b ⟨hb1,hb2,hb3⟩
      refine ⟨.inl hb1,hb2, ?_⟩
      rintro ⟨o,n,cc,e⟩
      simp only [Value.slice.injEq,Option.some.injEq,Addr.mk.injEq] at e
      obtain ⟨⟨rfl,_⟩,_⟩:=e
      rcases hat with hat | hat
      ·exact hb3 (hrow g hat)
      ·have:=h.lt g hb1; omega
     ·rintro b ⟨hb1,hb2,hb3⟩
      exact keep b (h.lt b hb1) hb2 (fun e => hb3 (hrow b e))
   ·obtain rfl:i = d.loose.length:=by omega
    refine ⟨v1,v2, ?_, ?_, ?_⟩
    ·rw [List.getElem?_append_right (by omega),show d.loose.length * 2 - cells.length = 0 by omega]; rfl
    ·rw [List.getElem?_append_right (by omega),show d.loose.length * 2 + 1 - cells.length = 1 by omega]; rfl
    ·rw [List.getElem_append_right (Nat.le_refl _)]
     simp only [Nat.sub_self,List.getElem_cons_zero]
     refine hc.keep ?_ ?_
     ·intro b hb
      obtain ⟨p1,p2⟩:=hP b hb
      refine ⟨.inr (.inl hb),fun e => p2 (e ▸ h.mem), ?_⟩
      rintro ⟨o,n,cc,e⟩
      simp only [Value.slice.injEq,Option.some.injEq,Addr.mk.injEq] at e
      obtain ⟨⟨rfl,_⟩,_⟩:=e
      rcases hat with hat | hat
      ·exact p2 (hMq g hat).1
      ·omega
     ·intro b hb
      obtain ⟨p1,p2⟩:=hP b hb
      exact keep b p1 (fun e => p2 (e ▸ h.mem)) (fun e => p2 (hMq b e).1)
  ·rintro q ⟨o,n,cc,e⟩
   simp only [Value.slice.injEq,Option.some.injEq,Addr.mk.injEq] at e
   obtain ⟨⟨rfl,_⟩,_⟩:=e
   exact ⟨.inr (.inr rfl),hgD⟩
def DoesC (K:Nat) (p q:Value) (D:Nat) (c:Chg) (w:World):Prop:=∀ (w1:World) (d1:Dk) (lv:Value),Blk w1 D 101 (dkC d1 lv) → d1.Inv → c.okIn d1.now → (Dk.sum (c.does d1.now):Int) ≤ d1.room → (∀ b,b < w.heap.size → b ≠ D → w1.heap[b]? = w.heap[b]?) →
 Calls Tryz.prog K #[.pointer (some ⟨D,1,none⟩),p,q] w1 fun e w' => e = .returned (.tuple #[]) ∧ Blk w' D 101 (dkC { d1 with now:=c.does d1.now } lv) ∧ Fr (· = D) w1 w'
set_option maxHeartbeats 2000000 in
theorem change_g (K:Nat) (p q v2:Value) (c:Chg) (eg:∀ args w,(callFunc K args).run Tryz.prog w = .ok (.enter K args) w) (ho2:v2.oneCell' = true) (w:World) (M P:Nat → Prop) (D:Nat) (d:Dk) (h:DkAt w M D d)
  (hcall:DoesC K p q D c w) (hc:ChgAt w P (.func (.func K) #[] #[p,q]) v2 c) (hP:∀ b,P b → b < w.heap.size ∧ ¬ M b) (hok:c.okIn d.now) (hfit:(Dk.sum (c.does d.now):Int) ≤ d.room) (hll:d.loose.length ≤ 1000000000) :
  Calls Tryz.prog 130 #[px D, .agg #[.func (.func K) #[] #[p,q],v2]] w fun e w' => e = .returned (.int .i64 (d.change c).2) ∧ Fr M w w' ∧ ∃ N,(∀ b,N b → M b ∨ P b ∨ w.heap.size ≤ b) ∧ DkAt w' N D (d.change c).1:=by
 have hld:=h.inv.len
 obtain ⟨lv,hb,hL⟩:=id h.ex
 obtain ⟨cells,hown,hcs⟩:=id hL.ex
 have hDlt:=h.lt D h.mem
 have HH:=Lib.hid h
 have HHL:=Lib.hid hL
 have HCS:=Lib.hid hcs
 have HC:=Lib.hid hc
 have HP:=Lib.hid hP
 have HI:=Lib.hid (h.inv.change c hok hfit)
 have HIO:=Lib.hid h.inv.op
 have hC:=Blk.new w #[.func (.func K) #[] #[p,q],v2] 124
 have hb0:=hb.alloc (.cells #[.func (.func K) #[] #[p,q],v2] 124)
 have HOP:=Lib.hid (op_b _ D d lv hb0 hld h.inv.left1 h.inv.left2)
 obtain ⟨o0,o1,o2,o3⟩:=Dk.op_same d
 have HE:Hid (d.change c = if d.op.2 = 0 then ({ d.op.1 with now:=c.does d.op.1.now,loose:=d.op.1.loose ++ [c] },0) else d.op):=rfl
 generalize d.change c = R at *
 obtain ⟨i0,hi,hz0,hz1,hz2⟩:=info_parts info_chg
 have HLL:=Lib.hid hll
 have HOWN:=Lib.hid hown
 have HSA:Hid (lv.ownBlock ≠ some w.heap.size ∧ lv.ownBlock ≠ some D):=by
  show _ ∧ _
  rcases hown.2 with ⟨rfl,_⟩ | ⟨g',cap',cur,rfl,_,hg,_⟩
  ·simp [Value.ownBlock]
  ·have h1:=(Array.getElem?_eq_some_iff.1 hg).1
   have h2:=(hL.row g' ⟨_,_,_,rfl⟩).2
   simp [Value.ownBlock]
   omega
 have hsz:(w.alloc (.cells #[.func (.func K) #[] #[p,q],v2] 124)).heap.size = w.heap.size + 1:=by simp
 have HOUT:=Lib.hid (⟨hok,hfit⟩:c.okIn d.now ∧ (Dk.sum (c.does d.now):Int) ≤ d.room)
 have HALL:Hid (∀ b,b < w.heap.size → (w.alloc (.cells #[.func (.func K) #[] #[p,q],v2] 124)).heap[b]? = w.heap[b]?):=fun b hb => alloc_old w _ b hb
 have HFA:=Lib.hid ((Fr.refl (fun x => x = D) w).alloc (.cells #[.func (.func K) #[] #[p,q],v2] 124))
 have HLD:=Lib.hid hld
 have HO:=Lib.hid (Dk.op_len hld)
 have HSM:=Lib.hid (⟨o0,o1,o2,o3⟩:d.op.1.room = d.room ∧ d.op.1.now = d.now ∧ d.op.1.sure = d.sure ∧ d.op.1.loose = d.loose)
 clear hok hfit h hL hcs hc hP hown hb hll o0 o1 o2 o3 hb0 hld
 unfold px at HOP ⊢
 by_cases h0:d.op.2 = 0
 ·rw [if_pos h0] at HE
  rw [h0] at HOP
  clear h0
  generalize d.op.1 = d1 at *
  go_enter Tryz.func130,Tryz.ntmps130
  go_upto_region 3 with (go_at_call 135; refine HOP.out.mono ?_; rintro e w1 ⟨rfl,hb1,hf1⟩)
  have hneD:w.heap.size ≠ D:=by omega
  have hC1:=hC.fr hf1 (fun e => hneD e)
  have e0:=hC1.cell 0
  have hlt1:=hb1.lt
  have hclt:=hC1.lt
  have HB1:=Lib.hid hb1
  have HF1:=Lib.hid hf1
  have HC1:=Lib.hid hC1
  have HDO:Hid (∀ W:World,W.heap = w1.heap → Calls Tryz.prog K #[.pointer (some ⟨D,1,none⟩),p,q] W fun e w' => e = .returned (.tuple #[]) ∧ Blk w' D 101 (dkC { d1 with now:=c.does d1.now } lv) ∧ Fr (· = D) W w'):=by
   intro W hW
   obtain ⟨g0,g1,g2,g3⟩:=HSM.out
   refine hcall W d1 lv (by unfold Blk; rw [hW]; exact HB1.out) HIO.out (by rw [g1]; exact HOUT.out.1) (by rw [g1,g0]; exact HOUT.out.2) (fun b hb hne => ?_)
   rw [hW,HF1.out.block b (by omega) hne]
   exact HALL.out b hb
  clear hb1 hf1 hC1 HOP hC
  go_region_with (first | (refine (HDO.out w1.drew rfl).mono ?_; rintro e w2 ⟨rfl,hb2,hf2⟩))
  have hC2:Blk w2 w.heap.size 124 #[.func (.func K) #[] #[p,q],v2]:=Blk.fr (w:=w1.drew) HC1.out hf2 (fun e => hneD e)
  have hlen2:Dk.Len { d1 with now:=c.does d1.now }:=Chg.len HO.out c
  have k0:=hC2.cell 0
  have k1:=hC2.cell 1
  have c33:=(hb2.cell 33).trans (dkC_33 hlen2)
  have f33:=hb2.free 33
  have hlt2:=hb2.lt
  have hclt2:=hC2.lt
  have hf2w:Fr (fun x => x = D) w1 w2:=hf2.undrew
  have hF2:=((HFA.out.trans HF1.out).trans hf2w)
  have hown2:w2.ownsRow 0 124 2 lv d.loose.length cells:=ownsRow_keep HOWN.out fun g hg => hF2.block g (HH.out.lt g (HHL.out.row g hg).1) (HHL.out.row g hg).2
  have HB2:=Lib.hid hb2
  have HF2:=Lib.hid hF2
  clear hb2 hf2 hf2w hF2 hC2 HDO e0
  obtain ⟨lva,lcap,rfl,hlcap,hlmx⟩:=HHL.out.slice
  obtain ⟨g1,g2,g3,g4⟩:=HSM.out
  go_upto_region 4 with fail
  have hownA:World.ownsRow (World.drew (w2.alloc (.cells #[.func (.func K) #[] #[p,q],v2] 124))) 0 124 2 (.slice lva d.loose.length lcap) d.loose.length cells:=hown2.alloc _
  have hnewsA:∀ j u,([.func (.func K) #[] #[p,q],v2]:List Value)[j]? = some u → (World.drew (w2.alloc (.cells #[.func (.func K) #[] #[p,q],v2] 124))).cell? ((⟨w2.heap.size,0,none⟩:Addr).add j) = some u:=World.news_of_block (heap_alloc_new w2 _)
  have HOA:=Lib.hid hownA
  have HNA:=Lib.hid hnewsA
  clear hownA hnewsA
  have HONE:Hid (∀ u ∈ ([.func (.func K) #[] #[p,q],v2]:List Value),u.oneCell' = true):=by
   show ∀ u ∈ _,_
   intro u hu
   rcases List.mem_cons.1 hu with rfl | hu
   ·rfl
   ·rw [List.mem_singleton.1 hu]; exact ho2
  go_region_law (first | (refine step_append_lies _ (by rfl) _ _ _ (by rfl) 0 124 i0 (.agg #[.nilFunc, .nilFunc]) 2 16 Tryz.underlying99 hi hz0 hz1 hz2 rfl (by decide) _ d.loose.length cells (by rfl) HOA.out ⟨w2.heap.size,0,none⟩ 1 1 [.func (.func K) #[] #[p,q],v2] (by rfl) rfl HNA.out HONE.out (by decide) (by unfold maxLen; have:=HLL.out; omega) (by have:=HLL.out; omega) (Nat.zero_le _) _ rfl ?_; intro g cap4 w4 hown4 hgrow4 hat4 hlt4; have hb4:=Blk.grown (w:=(World.drew (w2.alloc (.cells #[.func (.func K) #[] #[p,q],v2] 124)))) (HB2.out.alloc _) hgrow4 (fun e => HSA.out.2 e.symm); have c4:=(hb4.cell 33).trans (dkC_33 hlen2); have f4:=hb4.free 33))
  all_goals
   have HB4:=Lib.hid hb4
   clear hb4 c4 f4 c33 f33 k0 k1
   try go_wp2_with fail
   go_ret
   have hi2:=HI.out
   rw [HE.out] at hi2 ⊢
   have hst:=HB4.out.set 33 (.slice (some ⟨g,0,none⟩) (d.loose.length + 1) cap4)
   rw [dkC_set_33 hlen2] at hst
   refine ⟨rfl, ?_⟩
   have hFA:Fr (· = D) w (World.drew (w2.alloc (.cells #[.func (.func K) #[] #[p,q],v2] 124))):=(HF2.out.alloc _).drew
   have hszA:(World.drew (w2.alloc (.cells #[.func (.func K) #[] #[p,q],v2] 124))).heap.size = w2.heap.size + 1:=by show (w2.alloc _).heap.size = _; simp
   refine DkAt.grow (c:=c) (d2:={ d1 with now:=c.does d1.now,loose:=d1.loose ++ [c] }) HH.out hi2 (by show d1.loose ++ [c] = _; rw [g4]) HHL.out HOWN.out HCS.out HC.out HP.out hFA hgrow4 hat4 hlt4 hown4 hst ((Fr.refl (fun x => x = D) w4).setCell (p:=⟨D,33,none⟩) (.inl rfl) _)
 ·rw [if_neg h0] at HE
  have h1:(d.op.2 == 0) = false:=by rw [beq_eq_false_iff_ne]; exact h0
  clear h0
  go_enter Tryz.func130,Tryz.ntmps130
  go_wp2_with (go_at_call 135; refine HOP.out.mono ?_; rintro e w1 ⟨rfl,hb1,hf1⟩)
  go_ret
  rw [HE.out]
  have hF:=HFA.out.trans hf1
  refine ⟨rfl,hF.mono (fun k _ e => e ▸ HH.out.mem),M,fun _ h => .inl h,HIO.out,HH.out.mem,fun b hb => Nat.lt_of_lt_of_le (HH.out.lt b hb) hF.size,lv,hb1, ?_⟩
  rw [HSM.out.2.2.2]
  exact HHL.out.keep (fun _ k => k) fun b hb hne => hF.block b (HH.out.lt b hb) hne
theorem index_fls (l:Fls) (hl:l.length = 16) (i:Nat) (hi:i < 16) (w:World):(Instr.index 98 (.agg (l.map Value.string).toArray) (.int .i64 (i:Int))).run Tryz.prog w = .ok (.string (fl l i)) w:=by
 have h1:((0:Int) ≤ (i:Int) ∧ (i:Int) < 16):=by omega
 have h2:l[i]? = some (fl l i):=by rw [List.getElem?_eq_getElem (by omega),fl_get]
 simp [Instr.index,run_underlying Tryz.underlying98,asIntOf,h1,go_sem,hi,h2]
theorem sum_take (l:Fls):∀ k,k < l.length → Dk.sum (l.take (k + 1)) = Dk.sum (l.take k) + (fl l k).size:=by
 induction l with
 | nil => intro k h; exact absurd h (Nat.not_lt_zero _)
 | cons s l ih =>
  intro k h
  cases k with
  | zero => simp [Dk.sum,fl]
  | succ k =>
   have:=ih k (by simpa using h)
   rw [List.take_succ_cons,List.take_succ_cons]
   show s.size + Dk.sum (l.take (k + 1)) = s.size + Dk.sum (l.take k) + (fl l k).size
   omega
theorem files_size:(Tryz.prog.info? 98).map (·.size) = some 16:=by kernel_rfl
set_option maxHeartbeats 1000000 in
set_option maxRecDepth 100000 in
theorem Left_c (D:Nat) (w:World) (d:Dk) (lv:Value) (hb:Blk w D 101 (dkC d lv)) (hd:d.Len) (hfit:(Dk.sum d.now:Int) ≤ d.room) (hroom:d.room ≤ 4194304) :
  Calls Tryz.prog 128 #[px D] w fun e w' => e = .returned (.int .i64 d.free) ∧ w = w':=by
 have c0:=(hb.cell 0).trans (dkC_0 (d:=d) (lv:=lv))
 have HR:=Lib.hid (dk_range_now hb hd)
 have hl:(d.now.map Value.string).length = 16:=by rw [List.length_map,hd.n]
 have HI:Hid ((Tryz.prog.info? 98).map (·.size) = some (d.now.map Value.string).length):=by show _ = _; rw [hl]; exact files_size
 have HX:Hid (∀ (i:Nat) (w:World),i < 16 → (Instr.index 98 (.agg (d.now.map Value.string).toArray) (.int .i64 (i:Int))).run Tryz.prog w = .ok (.string (fl d.now i)) w):=fun i w hi => index_fls d.now hd.n i hi w
 have HST:Hid (∀ k,k < 16 → Dk.sum (d.now.take (k + 1)) = Dk.sum (d.now.take k) + (fl d.now k).size):=fun k hk => sum_take d.now k (by rw [hd.n]; exact hk)
 have HSL:Hid (∀ k,k ≤ 16 → Dk.sum (d.now.take k) ≤ Dk.sum d.now):=by
  intro k
  induction k with
  | zero => intro _; simp [Dk.sum]
  | succ k ih =>
   intro hk
   have hlast:∀ n k,n + k = 16 → Dk.sum (d.now.take k) ≤ Dk.sum d.now:=by
    intro n
    induction n with
    | zero => intro k hk; rw [List.take_of_length_le (by rw [hd.n]; omega)]; exact Nat.le_refl _
    | succ n ih => intro k hk; have:=ih (k + 1) (by omega); have:=HST.out k (by omega); omega
   exact hlast (16 - (k + 1)) (k + 1) (by omega)
 have HF:Hid (d.now.take 16 = d.now):=by show _ = _; exact List.take_of_length_le (by rw [hd.n]; exact Nat.le_refl _)
 have HFR:Hid (d.free = d.room - (Dk.sum d.now:Nat)):=rfl
 generalize d.free = FR at *
 generalize d.now = l at *
 generalize d.room = room at *
 generalize hA:(l.map Value.string).toArray = A at *
 generalize l.map Value.string = cs at *
 have HA:=Lib.hid hA
 clear hA hb hl
 unfold px
 go_enter Tryz.func128,Tryz.ntmps128
 go_wp2_with (first | (refine wpList_load_mid rfl 98 (.tmp 14) rfl D 1 rfl cs _ HR.out Tryz.underlying98 rfl HI.out ?_; rw [HA.out]) | fail)
 go_loop [3,16] (fun n q => ∃ k:Nat,q = .int .i64 k ∧ k ≤ 16 ∧ n = .int .i64 (room - (Dk.sum (l.take k):Nat))) (fun _ q => 16 - (intOf q).toNat)
 case atStart => exact ⟨0,rfl,Nat.zero_le _,by simp [Dk.sum]⟩
 case round =>
  obtain ⟨k,rfl,hk,rfl⟩:=hrel
  by_cases hlt:k < 16
  ·have hx:=fun w => HX.out k w hlt
   have hst:=HST.out k hlt
   have hs1:=HSL.out k hk
   have hs2:=HSL.out (k + 1) hlt
   generalize Dk.sum (l.take k) = s0 at *
   have HS:=Lib.hid hst
   generalize fl l k = x at *
   go_wp2_with fail
   go_round
   case rel => exact ⟨k + 1,by go_num,by omega,by rw [HS.out]; congr 1; omega⟩
   case measure => simp [intOf]; omega
  ·have e16:l.take k = l:=by
    have h16:k = 16:=by omega
    rw [h16]; exact HF.out
   rw [e16]
   clear e16
   go_wp2_with fail
   go_ret
   rw [HFR.out]
   exact ⟨rfl,rfl⟩
theorem rdy_one (d:Dk) (f:Int):rdy d.off [f] = if d.off = true then 50 else if Dk.isF f = false then 2 else 0:=by
 unfold rdy
 cases d.off <;> cases h:Dk.isF f <;> simp [h]
theorem isF_ir {f:Int} (h:Dk.isF f = true):∃ n:Nat,f = (n:Int) ∧ n < 16:=⟨f.toNat,(Dk.isF_lt h).2.symm,(Dk.isF_lt h).1⟩
set_option maxRecDepth 100000 in
set_option maxHeartbeats 1000000 in
theorem Read_b (D:Nat) (w:World) (d:Dk) (lv:Value) (hb:Blk w D 101 (dkC d lv)) (hd:d.Len) (f:Int) :
  Calls Tryz.prog 77 #[px D, .int .i64 f] w fun e w' => e = .returned (.tuple #[.string (d.read f).1, .int .i64 (d.read f).2]) ∧ Below w.heap.size w w':=by
 have hlt:=hb.lt
 have hB:=Blk.new w #[.int .i64 f] 3
 have hbA:=hb.alloc (.cells #[.int .i64 f] 3)
 have HRD:=Lib.hid (ready_c D _ d lv hbA hd [f] 1 _ _ (int_one hB))
 rw [rdy_one] at HRD
 have HE:Hid (d.read f = if d.off = true then (.empty,50) else if Dk.isF f = false then (.empty,2) else (fl d.now f.toNat,0)):=rfl
 generalize d.read f = R at *
 unfold px at HRD ⊢
 have hBw:Below w.heap.size w (w.alloc (.cells #[.int .i64 f] 3)):=(Below.refl _ _).alloc (Nat.le_refl _) _
 by_cases ho:d.off = true
 ·rw [if_pos ho] at HRD HE
  clear ho
  go_enter Tryz.func77,Tryz.ntmps77
  go_wp2_with (go_at_call 68; refine HRD.out.mono ?_; rintro e w1 ⟨rfl,rfl⟩)
  go_ret2
  rw [HE.out]
  exact ⟨rfl,hBw⟩
 ·rw [if_neg ho] at HRD HE
  clear ho
  cases hf:Dk.isF f
  ·rw [hf,if_pos rfl] at HRD HE
   go_enter Tryz.func77,Tryz.ntmps77
   go_wp2_with (go_at_call 68; refine HRD.out.mono ?_; rintro e w1 ⟨rfl,rfl⟩)
   go_ret2
   rw [HE.out]
   exact ⟨rfl,hBw⟩
  ·rw [hf,if_neg (by decide)] at HRD HE
   obtain ⟨n,rfl,hn⟩:=isF_ir hf
   rw [Int.toNat_natCast] at HE
   have c:=(hbA.cell (1 + n)).trans (dkC_now hd n hn)
   have hn16:(n:Int) < 16:=by omega
   generalize fl d.now n = x at *
   clear hb hbA hf hB
   go_enter Tryz.func77,Tryz.ntmps77
   go_wp2_with (go_at_call 68; refine HRD.out.mono ?_; rintro e w1 ⟨rfl,rfl⟩)
   go_ret2
   rw [HE.out]
   exact ⟨rfl,hBw⟩
theorem Read_c (w:World) (M:Nat → Prop) (D:Nat) (d:Dk) (h:DkAt w M D d) (f:Int) :
  Calls Tryz.prog 77 #[px D, .int .i64 f] w fun e w' => e = .returned (.tuple #[.string (d.read f).1, .int .i64 (d.read f).2]) ∧ Below w.heap.size w w':=by
 obtain ⟨lv,hb,_⟩:=h.ex
 exact Read_b D w d lv hb h.inv.len f
set_option maxRecDepth 100000 in
set_option maxHeartbeats 2000000 in
theorem Sync_c (w:World) (M:Nat → Prop) (D:Nat) (d:Dk) (h:DkAt w M D d) :
  Calls Tryz.prog 75 #[px D] w fun e w' => e = .returned (.int .i64 d.sync.2) ∧ DkTo w w' M D d.sync.1:=by
 obtain ⟨lv,hb,hL⟩:=id h.ex
 have hld:=h.inv.len
 have HRD:=Lib.hid (ready_c D w d lv hb hld [] 0 0 _ (Sl.nil w 0 1))
 rw [rdy_nil] at HRD
 have HOP:=Lib.hid (op_b w D d lv hb hld h.inv.left1 h.inv.left2)
 have HH:=Lib.hid h
 have HI:=Lib.hid h.inv.sync
 have HIO:=Lib.hid h.inv.op
 have HE:Hid (d.sync = if d.off = true then (d,50) else if d.op.2 = 0 then ({ d.op.1 with sure:=d.op.1.now,loose:=[] },0) else d.op):=rfl
 have HSM:=Lib.hid (Dk.op_same d)
 have HO:=Lib.hid (Dk.op_len hld)
 have HL:=Lib.hid hL
 have HD:=Lib.hid (h.lt D h.mem)
 generalize d.sync = R at *
 unfold px at HRD HOP ⊢
 clear hb hL h hld
 by_cases ho:d.off = true
 ·rw [if_pos ho] at HRD HE
  clear ho
  go_enter Tryz.func75,Tryz.ntmps75
  go_wp2_with (go_at_call 68; refine HRD.out.mono ?_; rintro e w1 ⟨rfl,rfl⟩)
  go_ret
  rw [HE.out]
  exact ⟨rfl,HH.out.tos⟩
 ·rw [if_neg ho] at HRD HE
  clear ho
  by_cases h0:d.op.2 = 0
  ·rw [if_pos h0] at HE
   rw [h0] at HOP
   clear h0
   generalize d.op.1 = d1 at *
   have hl:(d1.now.map Value.string).length = 16:=by rw [List.length_map,HO.out.n]
   have HI2:Hid ((Tryz.prog.info? 98).map (·.size) = some (d1.now.map Value.string).length):=by show _ = _; rw [hl]; exact files_size
   go_enter Tryz.func75,Tryz.ntmps75
   go_upto_region 7 with (first | (go_at_call 68; refine HRD.out.mono ?_; rintro e w1 ⟨rfl,rfl⟩) | (go_at_call 135; refine HOP.out.mono ?_; rintro e w1 ⟨rfl,hb1,hf1⟩))
   have HR1:=Lib.hid (dk_range_now hb1 HO.out)
   have HT1:=Lib.hid (dk_there hb1 HO.out 17 16 (by omega))
   have HB2:=Lib.hid (dk_store_sure hb1 HO.out)
   have f33:=hb1.free 33
   have hl1:=hb1.lt
   have HF1:=Lib.hid hf1
   have hlen2:Dk.Len { d1 with sure:=d1.now }:=⟨HO.out.n,HO.out.n⟩
   have c33:=(HB2.out.cell 33).trans (dkC_33 hlen2)
   have g33:=HB2.out.free 33
   clear hb1 hf1 HOP HRD
   go_wp2_with (first | (refine wpList_load_mid rfl 98 (.tmp 19) rfl D 1 rfl _ _ HR1.out Tryz.underlying98 rfl HI2.out ?_) | (refine wpList_store_mid rfl 98 (.tmp 22) (.tmp 20) rfl D 17 (d1.now.map Value.string).toArray rfl rfl (by simpa [hl] using HT1.out) (by simpa using HI2.out) (strs_one d1.now) ?_) | fail)
   go_ret
   have hi:=HI.out
   rw [HE.out] at hi ⊢
   have hst:=HB2.out.set 33 (.slice none 0 0)
   rw [dkC_set_33 hlen2] at hst
   refine ⟨rfl,HH.out.set (d':={ d1 with sure:=d1.now,loose:=[] }) hi hst ?_ (LooseAt.nil _ _ _)⟩
   exact (HF1.out.setCells D _ 17 _ (.inl rfl)).setCell (p:=⟨D,33,none⟩) (.inl rfl) _
  ·rw [if_neg h0] at HE
   have h1:(d.op.2 != 0) = true:=by simpa using h0
   clear h0
   go_enter Tryz.func75,Tryz.ntmps75
   go_wp2_with (first | (go_at_call 68; refine HRD.out.mono ?_; rintro e w1 ⟨rfl,rfl⟩) | (go_at_call 135; refine HOP.out.mono ?_; rintro e w1 ⟨rfl,hb1,hf1⟩))
   go_ret
   rw [HE.out]
   exact ⟨rfl,HH.out.set HIO.out hb1 hf1 (by rw [HSM.out.2.2.2]; exact HL.out)⟩
theorem New_c (room:Int) (w:World) :
  Calls Tryz.prog 15 #[.int .i64 room] w fun e w' => Below w.heap.size w w' ∧ ((1 ≤ room ∧ room ≤ 4194304 ∧ e = .returned (.tuple #[px w.heap.size, .int .i64 0]) ∧ DkAt w' (· = w.heap.size) w.heap.size (Dk.new room)) ∨ ((room < 1 ∨ 4194304 < room) ∧ e = .returned (.tuple #[.pointer none, .int .i64 2]))):=by
 by_cases h1:room < 1
 ·have d1:decide (room < 1) = true:=decide_eq_true h1
  go_enter Tryz.func15,Tryz.ntmps15
  go_wp2_with fail
  go_ret2
  first | exact ⟨Below.refl _ _, .inr ⟨.inl h1,rfl⟩⟩ | exact ⟨Below.refl _ _, .inr rfl⟩
 ·have d1:decide (room < 1) = false:=decide_eq_false h1
  by_cases h2:4194304 < room
  ·have d2:decide (4194304 < room) = true:=decide_eq_true h2
   have HH:=Lib.hid h2
   go_enter Tryz.func15,Tryz.ntmps15
   go_wp2_with fail
   go_ret2
   first | exact ⟨Below.refl _ _, .inr ⟨.inr HH.out,rfl⟩⟩ | exact ⟨Below.refl _ _, .inr rfl⟩
  ·have d2:decide (4194304 < room) = false:=decide_eq_false h2
   have HH:=Lib.hid (⟨h1,h2⟩ : ¬ room < 1 ∧ ¬ 4194304 < room)
   clear h1 h2
   go_enter Tryz.func15,Tryz.ntmps15
   go_wp2_with fail
   go_ret2
   have h1:=HH.out.1
   have h2:=HH.out.2
   refine ⟨(Below.refl _ _).alloc (Nat.le_refl _) _, .inl ⟨by omega,by omega,rfl,Dk.Inv.new room (by omega) (by omega),rfl, ?_, .slice none 0 0,Blk.new w _ _,LooseAt.nil _ _ _⟩⟩
   rintro b rfl
   simp
end Go.Proofs.YtpkijdkoiecpiaaGreatDoor
