/-
  Parts of the proof: PQ PR PS PT.
-/
import Derived.Test.YtpkijdkoiecpiaaGreatDoorZR33
import Derived.Test.YtpkijdkoiecpiaaGreatDoorZR46
import Derived.Test.YtpkijdkoiecpiaaGreatDoorZR49
namespace Go.Proofs.YtpkijdkoiecpiaaGreatDoor
open Go.RowKit
set_option linter.unusedVariables false
set_option linter.unusedSimpArgs false
structure Env (w:World):Prop where
 h0:0 < w.heap.size
 ml:∃ m,w.cell? ⟨0,0,none⟩ = some (.int .i64 m)
theorem Env.keep {w w':World} (h:Env w) (hb:Below w.heap.size w w'):Env w' :=
 ⟨Nat.lt_of_lt_of_le h.h0 hb.size,let ⟨m,hm⟩:=h.ml; ⟨m,(hb.cell (p:=⟨0,0,none⟩) h.h0).trans hm⟩⟩
theorem Env.fr {S:Nat → Prop} {w w':World} (h:Env w) (hf:Fr S w w') (hS : ¬ S 0):Env w' :=
 ⟨Nat.lt_of_lt_of_le h.h0 hf.size,let ⟨m,hm⟩:=h.ml; ⟨m,(World.cell?_of_block (hf.block 0 h.h0 hS)).trans hm⟩⟩
theorem sumsParse_c (w:World) (h:Env w):Calls Tryz.prog 126 #[.string sumsB] w fun e w' =>
  ∃ a c,e = .returned (.tuple #[.agg #[.int .i64 2, .slice a 3 c], .int .i64 0, .int .i64 0]) ∧ NodesIn w' (fun b => w.heap.size ≤ b ∧ b < w'.heap.size) sumsJ.nodes (.slice a 3 c) ∧ Below w.heap.size w w':=by
 obtain ⟨m,hm⟩:=h.ml
 have:=sParseIn_c sumsB m w (by decide) h.h0 hm
 rw [sums_parse] at this
 refine this.mono ?_
 rintro e w' ⟨sv,rfl,hn,hb⟩
 obtain ⟨a,c,rfl,_,_⟩:=hn.slice
 exact ⟨a,c,rfl,hn,hb⟩
set_option maxRecDepth 100000 in
set_option maxHeartbeats 1000000 in
theorem made_c (w:World) (h:Env w):Calls Tryz.prog 67 #[.string sumsB] w fun e w' =>
  ∃ a c,e = .returned (.agg #[.int .i64 2, .slice a 3 c]) ∧ NodesIn w' (fun b => w.heap.size ≤ b ∧ b < w'.heap.size) sumsJ.nodes (.slice a 3 c) ∧ Below w.heap.size w w':=by
 have hA:=(Below.refl w.heap.size w).alloc (Nat.le_refl _) (.cells #[.int .i64 0, .slice none 0 0] 26)
 have hr:=Blk.new w #[.int .i64 0, .slice none 0 0] 26
 have HP:=Lib.hid (sumsParse_c _ (h.keep hA))
 clear h
 go_enter Tryz.func67,Tryz.ntmps67
 go_upto_region 1 with fail
 have hz:(w.alloc (.cells #[.int .i64 0, .slice none 0 0] 26)).heap.size = w.heap.size + 1:=by simp
 generalize World.alloc w _ = W at *
 go_upto_region 2 with (first | (go_at_call 126; refine HP.out.mono ?_; rintro e w2 ⟨a,c,rfl,hn,hb⟩) | fail)
 have hr2:=(hr.below hb hr.lt).alloc (.cells #[.int .i64 2, .slice a 3 c] 26)
 have hx2:=Blk.new w2 #[.int .i64 2, .slice a 3 c] 26
 have hB2:=(hA.trans (hb.mono hA.size)).alloc (Nat.le_trans hA.size hb.size) (.cells #[.int .i64 2, .slice a 3 c] 26)
 have hN2:=hn.keep (Q:=fun b => w.heap.size < b ∧ b < (w2.alloc (.cells #[.int .i64 2, .slice a 3 c] 26)).heap.size) (fun b k => ⟨by omega,by simp; omega⟩) (fun b k => alloc_old w2 (.cells #[.int .i64 2, .slice a 3 c] 26) b k.2)
 generalize World.alloc w2 _ = W3 at *
 have x0:=hx2.cell 0
 have x1:=hx2.cell 1
 have r0:=hr2.cell 0
 have r1:=hr2.cell 1
 have q0:=hr2.free 0
 have q1:=hr2.free 1
 have HR:=Lib.hid ((hr2.set 0 (.int .i64 2)).set 1 (.slice a 3 c))
 clear hr hr2 hx2 hA hb HP hn
 go_wp2_with fail
 refine bodyPost_ret (v := .agg #[.int .i64 2, .slice a 3 c]) (results_cell_row rfl _ _ w.heap.size 26 _ (0,0) _ rfl HR.out Tryz.underlying26 rfl ?_) rfl ⟨a,c,rfl, ?_, ?_⟩
 ·kernel_rfl
 ·exact hN2.keep (fun b k => ⟨by omega,by simpa using k.2⟩) (fun b k => (heap_setCell_other _ ⟨w.heap.size,1,none⟩ b _ (by show b ≠ w.heap.size; omega)).trans (heap_setCell_other _ ⟨w.heap.size,0,none⟩ b _ (by show b ≠ w.heap.size; omega)))
 ·exact (hB2.setCell (p:=⟨w.heap.size,0,none⟩) (Nat.le_refl _) _).setCell (p:=⟨w.heap.size,1,none⟩) (Nat.le_refl _) _
set_option maxRecDepth 100000 in
set_option maxHeartbeats 1000000 in
theorem start_c (w:World) (h:Env w):Calls Tryz.prog 25 #[] w fun e w' =>
  ∃ a c,e = .returned (.agg #[.int .u8 1, .int .i64 2, .int .i64 3, .int .i64 5, .int .i64 2, .slice a 3 c, .int .i64 0, .int .i64 0, .int .i64 0]) ∧ NodesIn w' (fun b => w.heap.size ≤ b ∧ b < w'.heap.size) sumsJ.nodes (.slice a 3 c) ∧ Below w.heap.size w w':=by
 have hA:=(Below.refl w.heap.size w).alloc (Nat.le_refl _) (.cells #[.int .u8 0, .int .i64 0, .int .i64 0, .int .i64 0, .int .i64 0, .slice none 0 0, .int .i64 0, .int .i64 0, .int .i64 0] 29)
 have hr:=Blk.new w #[.int .u8 0, .int .i64 0, .int .i64 0, .int .i64 0, .int .i64 0, .slice none 0 0, .int .i64 0, .int .i64 0, .int .i64 0] 29
 have HM:=Lib.hid (made_c _ (h.keep hA))
 have hsz:(w.alloc (.cells #[.int .u8 0, .int .i64 0, .int .i64 0, .int .i64 0, .int .i64 0, .slice none 0 0, .int .i64 0, .int .i64 0, .int .i64 0] 29)).heap.size = w.heap.size + 1:=by simp
 clear h
 go_enter Tryz.func25,Tryz.ntmps25
 go_upto_region 1 with fail
 generalize World.alloc w _ = W at *
 go_wp2_with (first | (go_at_call 67; refine HM.out.mono ?_; rintro e w2 ⟨a,c,rfl,hn,hb⟩; have hr2:=hr.below hb hr.lt; have r0:=hr2.cell 0; have r1:=hr2.cell 1; have r2:=hr2.cell 2; have r3:=hr2.cell 3; have r4:=hr2.cell 4; have r5:=hr2.cell 5; have r6:=hr2.cell 6; have r7:=hr2.cell 7; have r8:=hr2.cell 8; have q0:=hr2.free 0; have q1:=hr2.free 1; have q2:=hr2.free 2; have q3:=hr2.free 3; have q4:=hr2.free 4; have q5:=hr2.free 5; have q6:=hr2.free 6; have q7:=hr2.free 7; have q8:=hr2.free 8) | fail)
 refine bodyPost_ret (v := .agg #[.int .u8 1, .int .i64 2, .int .i64 3, .int .i64 5, .int .i64 2, .slice a 3 c, .int .i64 0, .int .i64 0, .int .i64 0]) (results_cell_row rfl _ _ w.heap.size 29 _ (0,0) _ rfl (Blk.set9 hr2 rfl _ _ _ _ _ _ _ _ _) Tryz.underlying29 rfl ?_) rfl ⟨a,c,rfl, ?_, ?_⟩
 ·kernel_rfl
 ·exact hn.keep (fun b k => ⟨by omega,by rw [size_set9]; exact k.2⟩) (fun b k => other_set9 (by omega) _ _ _ _ _ _ _ _ _)
 ·exact below_set9 (hA.trans (hb.mono hA.size)) (Nat.le_refl _) _ _ _ _ _ _ _ _ _
theorem begun_c (w:World):Calls Tryz.prog 24 #[] w fun e w' =>
  ∃ R L D M P,e = .returned (px R) ∧ RoAt w' M P R L road0 D (Dk.new 5000) ∧ (∀ b,M b → w.heap.size ≤ b) ∧ (∀ b,P b → w.heap.size ≤ b) ∧ Below w.heap.size w w':=by
 have HN:=Lib.hid (New_c 5000 w)
 have HO:Hid (∀ W D,DkAt W (· = D) D (Dk.new 5000) → Calls Tryz.prog 16 #[px D] W (OpenPost W (· = D) D (Dk.new 5000,some road0,0))):=fun W D h => by
  have:=roOpen_c W (· = D) D (Dk.new 5000) h (by decide)
  rw [Rdw.open_new] at this
  exact this
 unfold px at HO HN ⊢
 go_enter Tryz.func24,Tryz.ntmps24
 go_upto_region 2 with (first | (go_at_call 15; refine HN.out.mono ?_; rintro e w1 ⟨hb1,(⟨_,_,rfl,hd⟩ | ⟨hx,rfl⟩)⟩) | fail)
 ·have HO1:=Lib.hid (HO.out w1 _ hd)
  unfold OpenPost px at HO1
  go_wp2_with (first | (go_at_call 16; refine HO1.out.mono ?_; rintro e w2 (⟨e1,hx,_⟩ | ⟨r,R,L,N,P,hx,rfl,hf,hR,hN,hP⟩)) | fail)
  ·simp at hx
  ·simp only [Prod.mk.injEq,Option.some.injEq] at hx
   obtain ⟨rfl,_⟩:=hx
   go_ret
   refine ⟨R,L,w.heap.size,N,P,rfl,hR,fun b q => ?_,fun b q => Nat.le_trans hb1.size (hP b q),hb1.trans (hf.below hb1.size (fun k hk e => by omega))⟩
   rcases hN b q with h | h
   ·rw [h]; exact Nat.le_refl _
   ·exact Nat.le_trans hb1.size h
 ·omega
theorem roPutK (w:World) (M P:Nat → Prop) (R L:Nat) (r:Rdw) (D:Nat) (d:Dk) (h:RoAt w M P R L r D d) (x:St) (hok:x.Ok) (hj:x.job = ⟨0,[]⟩) (hll:d.loose.length ≤ 1000000000) (q:Dk × Rdw × Int) (hq:Rdw.put d r x = q) (v:Value) (hv:v = .agg (stC x (.slice none 0 0))) :
  Calls Tryz.prog 19 #[px R,v] w fun e w' => e = .returned (.int .i64 q.2.2) ∧ RoTo w w' M P R L q.2.1 D q.1:=by
 subst hv hq
 exact roPut_c w M P R L r D d h x _ ⟨_,rfl,by rw [hj]; exact NodesIn.nil _ _⟩ hok hll
theorem roPutS (w:World) (M P Q:Nat → Prop) (R L:Nat) (r:Rdw) (D:Nat) (d:Dk) (h:RoAt w M P R L r D d) (a:Option Addr) (c:Nat) (hn:NodesIn w Q sumsJ.nodes (.slice a 3 c)) (hQ:∀ b,Q b → b < w.heap.size ∧ ¬ M b) (hll:d.loose.length ≤ 1000000000) (q:Dk × Rdw × Int) (hq:Rdw.put d r startS = q) :
  Calls Tryz.prog 19 #[px R, .agg #[.int .u8 1, .int .i64 2, .int .i64 3, .int .i64 5, .int .i64 2, .slice a 3 c, .int .i64 0, .int .i64 0, .int .i64 0]] w fun e w' => e = .returned (.int .i64 q.2.2) ∧ RoTo w w' M (fun b => P b ∨ Q b) R L q.2.1 D q.1:=by
 subst hq
 exact roPut_c w M _ R L r D d (h.more (fun b k => .inl k) (fun b k => by
  rcases k with k | k
  ·exact h.dis b k
  ·exact hQ b k)) startS _ ⟨_,rfl,hn.mono fun b k => .inr k⟩ start_ok hll
theorem hM_step {M N:Nat → Prop} {n m:Nat} (hN:∀ b,N b → M b ∨ m ≤ b) (hM:∀ b,M b → n ≤ b) (h:n ≤ m):∀ b,N b → n ≤ b:=fun b q => by
 rcases hN b q with e | e
 ·exact hM b e
 ·exact Nat.le_trans h e
set_option maxRecDepth 100000 in
set_option maxHeartbeats 2000000 in
theorem roWorks_c (w:World) (h:Env w):Calls Tryz.prog 14 #[] w fun e w' => e = .returned (.bool true) ∧ Below w.heap.size w w':=by
 have HB:=Lib.hid (begun_c w)
 have HS:Hid (∀ W,Env W → _):=fun W (h:Env W) => start_c W h
 have HE:=Lib.hid h
 have HK1:Hid (∀ W M P R L D,RoAt W M P R L road0 D (Dk.new 5000) → Calls Tryz.prog 19 #[px R, .agg #[.int .u8 2, .int .i64 0, .int .i64 0, .int .i64 0, .int .i64 0, .slice none 0 0, .int .i64 0, .int .i64 0, .int .i64 0]] W fun e w' => e = .returned (.int .i64 261) ∧ RoTo W w' M P R L road0 D (Dk.new 5000)) :=
  fun W M P R L D h => roPutK W M P R L road0 D (Dk.new 5000) h (kindS 2) (kind_ok 2 (by decide)) rfl (by decide) _ putM_e _ rfl
 have HK2:Hid (∀ W M P Q R L D a c,RoAt W M P R L road0 D (Dk.new 5000) → NodesIn W Q sumsJ.nodes (.slice a 3 c) → (∀ b,Q b → b < W.heap.size ∧ ¬ M b) → Calls Tryz.prog 19 #[px R, .agg #[.int .u8 1, .int .i64 2, .int .i64 3, .int .i64 5, .int .i64 2, .slice a 3 c, .int .i64 0, .int .i64 0, .int .i64 0]] W fun e w' => e = .returned (.int .i64 0) ∧ RoTo W w' M (fun b => P b ∨ Q b) R L put0.2.1 D put0.1) :=
  fun W M P Q R L D a c h hn hQ => by
   have:=roPutS W M P Q R L road0 D (Dk.new 5000) h a c hn hQ (by decide) put0 rfl
   rw [put0_e] at this
   exact this
 have HPH:Hid (∀ W M P R L D,RoAt W M P R L put0.2.1 D put0.1 → Calls Tryz.prog 17 #[px R] W fun e w' => e = .returned (.int .u8 1) ∧ W = w'):=fun W M P R L D h => by
  have:=roPhase_c h
  rw [put0_p] at this
  exact this
 have HK3:Hid (∀ W M P R L D,RoAt W M P R L put0.2.1 D put0.1 → Calls Tryz.prog 19 #[px R, .agg #[.int .u8 2, .int .i64 0, .int .i64 0, .int .i64 0, .int .i64 0, .slice none 0 0, .int .i64 0, .int .i64 0, .int .i64 0]] W fun e w' => e = .returned (.int .i64 0) ∧ RoTo W w' M P R L put1.2.1 D put1.1) :=
  fun W M P R L D h => by
   have:=roPutK W M P R L put0.2.1 D put0.1 h (kindS 2) (kind_ok 2 (by decide)) rfl (by rw [put0_l]; decide) put1 rfl (.agg #[.int .u8 2, .int .i64 0, .int .i64 0, .int .i64 0, .int .i64 0, .slice none 0 0, .int .i64 0, .int .i64 0, .int .i64 0]) rfl
   rw [put1_e] at this
   exact this
 unfold px at HB HK1 HK2 HK3 HPH
 clear h
 go_enter Tryz.func14,Tryz.ntmps14
 go_wp2_with (first
  | (go_at_call 24; refine HB.out.mono ?_; rintro e w1 ⟨R,L,D,M,P,rfl,hR,hM,hP,hb1⟩; have T1:=Lib.hid hR; clear hR)
  | (go_at_call 19; refine (HK1.out _ _ _ _ _ _ T1.out).mono ?_; rintro e w2 ⟨rfl,hT⟩; obtain ⟨hf2,N2,hN2,hR2⟩:=hT; have T2:=Lib.hid hR2; clear T1 hR2; have hb2:=hb1.trans (hf2.below hb1.size (fun k hk e => by have:=hM k e; omega)); have hE2:=HE.out.keep hb2; have hM2:=hM_step hN2 hM hb1.size)
  | (go_at_call 25; refine (HS.out w2 hE2).mono ?_; rintro e w3 ⟨a,c,rfl,hn,hb3⟩; have T3:=Lib.hid (T2.out.below hb3); have hB3:=hb2.trans (hb3.mono hb2.size); have hQ3:∀ b,(w2.heap.size ≤ b ∧ b < w3.heap.size) → b < w3.heap.size ∧ ¬ N2 b:=fun b q => ⟨q.2,fun hm => by have:=T2.out.lt b hm; omega⟩)
  | (go_at_call 19; refine (HK2.out _ _ _ _ _ _ _ _ _ T3.out hn hQ3).mono ?_; rintro e w4 ⟨rfl,hT⟩; obtain ⟨hf4,N4,hN4,hR4⟩:=hT; have T4:=Lib.hid hR4; clear T3 hR4; have hb4:=hB3.trans (hf4.below hB3.size (fun k hk e => by have:=hM2 k e; omega)); have hM4:=hM_step hN4 hM2 hB3.size)
  | (go_at_call 17; refine (HPH.out _ _ _ _ _ _ T4.out).mono ?_; rintro e w5 ⟨rfl,rfl⟩)
  | (go_at_call 19; refine (HK3.out _ _ _ _ _ _ T4.out).mono ?_; rintro e w6 ⟨rfl,hT⟩; obtain ⟨hf6,N6,hN6,hR6⟩:=hT)
  | fail)
 go_ret
 exact ⟨rfl,hb4.trans (hf6.below hb4.size (fun k hk e => by have:=hM4 k e; omega))⟩
namespace RS
variable {w W W':World} {R L D:Nat} {r:Rdw} {d:Dk}
end RS
structure RM (w:World) (n:Nat) (M:Nat → Prop) (W:World) (R L D:Nat) (r:Rdw) (d:Dk):Prop where
 hM:∀ b,M b → w.heap.size ≤ b
 hn:w.heap.size ≤ n
 hN:n ≤ W.heap.size
 below:Below w.heap.size w W
 ex:∃ P:Nat → Prop,RoAt W M P R L r D d ∧ ∀ b,P b → b < n
namespace RM
variable {w W W':World} {n:Nat} {M:Nat → Prop} {R L D:Nat} {r:Rdw} {d:Dk}
theorem lt (h:RM w n M W R L D r d):∀ b,M b → w.heap.size ≤ b ∧ b < W.heap.size:=let ⟨_,h1,_⟩:=h.ex; fun b q => ⟨h.hM b q,h1.lt b q⟩
theorem keep (h:RM w n M W R L D r d) (hb:Below W.heap.size W W'):RM w n M W' R L D r d:=let ⟨P,h1,h2⟩:=h.ex; ⟨h.hM,h.hn,Nat.le_trans h.hN hb.size,h.below.trans (hb.mono h.below.size),P,h1.below hb,h2⟩
theorem alloc (h:RM w n M W R L D r d) (o:Obj):RM w n M (W.alloc o) R L D r d:=h.keep ((Below.refl _ _).alloc (Nat.le_refl _) _)
theorem fr {S:Nat → Prop} (h:RM w n M W R L D r d) (hf:Fr S W W') (hS:∀ b,S b → n ≤ b ∧ ¬ M b):RM w n M W' R L D r d:=by
 obtain ⟨P,h1,h2⟩:=h.ex
 refine ⟨h.hM,h.hn,Nat.le_trans h.hN hf.size,h.below.trans (hf.below h.below.size fun k hk e => by have:=(hS k e).1; have:=h.hn; omega),P,h1.fr hf (fun b q e => ?_),h2⟩
 rcases q with q | q
 ·exact (hS b e).2 q
 ·have:=h2 b q; have:=(hS b e).1; omega
theorem phase_c (h:RM w n M W R L D r d):Calls Tryz.prog 17 #[px R] W fun e w' => e = .returned (.int .u8 (r.phase:Int)) ∧ W = w':=let ⟨_,h1,_⟩:=h.ex; roPhase_c h1
theorem put_c (h:RM w n M W R L D r d) (x:St) (v:Value) (hv:StIn W (· < w.heap.size) v x) (hok:x.Ok) (hll:d.loose.length ≤ 1000000000) (q:Dk × Rdw × Int) (hq:Rdw.put d r x = q) :
  Calls Tryz.prog 19 #[px R,v] W fun e w' => e = .returned (.int .i64 q.2.2) ∧ Fr M W w' ∧ ∃ N,(∀ b,N b → M b ∨ W.heap.size ≤ b) ∧ RM w n N w' R L D q.2.1 q.1:=by
 obtain ⟨P,h1,h2⟩:=h.ex
 subst hq
 refine (roPut_c W M (fun b => P b ∨ b < w.heap.size) R L r D d (h1.more (fun b k => .inl k) (fun b k => ?_)) x v (hv.keep (fun b k => .inr k) (fun _ _ => rfl)) hok hll).mono ?_
 ·rcases k with k | k
  ·exact h1.dis b k
  ·exact ⟨Nat.lt_of_lt_of_le k h.below.size,fun hm => by have:=h.hM b hm; omega⟩
 ·rintro e w' ⟨rfl,hf,N,hN,hR⟩
  refine ⟨rfl,hf,N,hN,fun b q => ?_,h.hn,Nat.le_trans h.hN hf.size,h.below.trans (hf.below h.below.size (fun k hk e => by have:=h.hM k e; omega)),_,hR,fun b q => ?_⟩
  ·rcases hN b q with e | e
   ·exact h.hM b e
   ·exact Nat.le_trans h.below.size e
  ·rcases q with q | q
   ·exact h2 b q
   ·exact Nat.lt_of_lt_of_le q h.hn
theorem start_c (h:RM w n M W R L D r d) (hp:r.phase ≠ 0) (la lb:List St) (s:St) (hl:r.l = la ++ s :: lb) (hs:s.kind = 1) (hb:∀ y ∈ lb,y.kind ≠ 1):Calls Tryz.prog 22 #[px R] W fun e w' =>
  ∃ a c,e = .returned (.tuple #[.agg (stC s (.slice a s.job.nodes.length c)), .bool true]) ∧ NodesIn w' (· < n) s.job.nodes (.slice a s.job.nodes.length c) ∧ Below W.heap.size W w':=by
 obtain ⟨P,h1,h2⟩:=h.ex
 refine (roStart_c h1 hp la lb s hl hs hb).mono ?_
 rintro e w' ⟨a,c,rfl,hn,hb⟩
 exact ⟨a,c,rfl,hn.mono h2,hb⟩
end RM
theorem RM.opened {w w1 w2:World} {M N P:Nat → Prop} {R L D:Nat} {r:Rdw} {d:Dk} (hb:Below w.heap.size w w1) (hM:∀ b,M b → w.heap.size ≤ b) (hf:Fr M w1 w2) (h:RoAt w2 N P R L r D d) (hN:∀ b,N b → M b ∨ w1.heap.size ≤ b):RM w w2.heap.size N w2 R L D r d :=
 ⟨fun b q => by
  rcases hN b q with h | h
  ·exact hM b h
  ·exact Nat.le_trans hb.size h,Nat.le_trans hb.size hf.size,Nat.le_refl _,hb.trans (hf.below hb.size (fun k hk e => by have:=hM k e; omega)),P,h,fun b q => (h.dis b q).1⟩
theorem Rdw.Own.mono {d:Dk} {r:Rdw} {n m:Nat} (h:Rdw.Own d r n) (hm:n ≤ m):Rdw.Own d r m:=⟨h.kp,h.only,h.left,Nat.le_trans h.len hm⟩
theorem newDk_c (room:Int) (h1:1 ≤ room) (h2:room ≤ 4194304) (W:World):Calls Tryz.prog 15 #[.int .i64 room] W fun e w' => e = .returned (.tuple #[px W.heap.size, .int .i64 0]) ∧ Below W.heap.size W w' ∧ DkAt w' (· = W.heap.size) W.heap.size (Dk.new room):=by
 refine (New_c room W).mono ?_
 rintro e w' ⟨hb,⟨_,_,rfl,hd⟩ | ⟨hx,rfl⟩⟩
 ·exact ⟨rfl,hb,hd⟩
 ·omega
theorem openDk_c (room:Int) (W:World) (D:Nat) (h:DkAt W (· = D) D (Dk.new room)):Calls Tryz.prog 16 #[px D] W fun e w' => ∃ (R L:Nat) (N P:Nat → Prop),e = .returned (.tuple #[px R, .int .i64 0]) ∧ Fr (· = D) W w' ∧ RoAt w' N P R L road0 D (Dk.new room) ∧ ∀ b,N b → b = D ∨ W.heap.size ≤ b:=by
 have:=roOpen_c W (· = D) D (Dk.new room) h (by show (0:Nat) ≤ _; decide)
 rw [Rdw.open_new] at this
 refine this.mono ?_
 rintro e w' (⟨e1,hx,_⟩ | ⟨r,R,L,N,P,hx,rfl,hf,hR,hN,hP⟩)
 ·simp at hx
 ·simp only [Prod.mk.injEq,Option.some.injEq] at hx
  obtain ⟨rfl,_⟩:=hx
  exact ⟨R,L,N,P,rfl,hf,hR,hN⟩
def opOf (x:St):RoOp:=⟨0,0,0,x⟩
theorem info_op:(Tryz.prog.info? 31).map (fun i => (i.zero,i.size,i.bytes)) = some (some (.agg #[.int .i64 0, .int .i64 0, .int .i64 0, .int .u8 0, .int .i64 0, .int .i64 0, .int .i64 0, .int .i64 0, .slice none 0 0, .int .i64 0, .int .i64 0, .int .i64 0]),12,112):=by kernel_rfl
theorem opC_one (x:St) (a:Option Addr) (c:Nat):∀ v ∈ (opC (opOf x) (.slice a x.job.nodes.length c)).toList,v.oneCell' = true:=by
 intro v hv
 simp only [opC,opOf,List.mem_cons,List.not_mem_nil,or_false] at hv
 rcases hv with rfl | rfl | rfl | rfl | rfl | rfl | rfl | rfl | rfl | rfl | rfl | rfl <;> rfl
def rowO (ps:List (RoOp × Value)):List Value:=ps.flatMap fun p => (opC p.1 p.2).toList
theorem rowO_cons (p:RoOp × Value) (ps:List (RoOp × Value)):rowO (p :: ps) = (opC p.1 p.2).toList ++ rowO ps:=by simp [rowO]
theorem rowO_snoc (ps:List (RoOp × Value)) (p:RoOp × Value):rowO (ps ++ [p]) = rowO ps ++ (opC p.1 p.2).toList:=by simp [rowO]
theorem opC_len (x:RoOp) (v:Value):(opC x v).toList.length = 12:=rfl
theorem rowO_at:∀ (ps:List (RoOp × Value)) (k:Nat) (h:k < ps.length) (j:Nat) (hj:j < 12),(rowO ps)[k * 12 + j]? = (opC ps[k].1 ps[k].2)[j]?
 | p :: ps,0,_,j,hj => by
  rw [rowO_cons,Nat.zero_mul,Nat.zero_add,List.getElem?_append_left (by rw [opC_len]; exact hj),Array.getElem?_toList]; rfl
 | p :: ps,k + 1,h,j,hj => by
  rw [rowO_cons,List.getElem?_append_right (by rw [opC_len]; omega),opC_len,show (k + 1) * 12 + j - 12 = k * 12 + j by omega,rowO_at ps k (by simpa using h) j hj]; rfl
structure OpsR (w:World) (l:List St) (k:Nat) (s:Value) (wr:World):Prop where
 below:Below w.heap.size w wr
 ex:∃ ps:List (RoOp × Value),ps.map Prod.fst = (l.take k).map opOf ∧ wr.ownsRow w.heap.size 31 12 s k (rowO ps) ∧ ∀ p ∈ ps,NodesIn wr (· < w.heap.size) p.1.x.job.nodes p.2
theorem OpsR.start (w:World) (l:List St):OpsR w l 0 (.slice none 0 0) w:=⟨Below.refl _ _,[],rfl,World.ownsRow_nil _ _ _ _,by simp⟩
theorem OpsR.snoc {w wr W2 w3:World} {l:List St} {k:Nat} {s v' sv:Value} {ps:List (RoOp × Value)} (h:Below w.heap.size w wr) (hk:k < l.length) (hp1:ps.map Prod.fst = (l.take k).map opOf) (hp2:wr.ownsRow w.heap.size 31 12 s k (rowO ps)) (hp3:∀ p ∈ ps,NodesIn wr (· < w.heap.size) p.1.x.job.nodes p.2)
  (hx:NodesIn wr (· < w.heap.size) l[k].job.nodes sv) (hb:Below wr.heap.size wr W2) (hg:W2.grownBy w3 s.ownBlock) (hown:w3.ownsRow w.heap.size 31 12 v' (k + 1) (rowO ps ++ (opC (opOf l[k]) sv).toList)):OpsR w l (k + 1) v' w3:=by
 have hs:∀ q,s.ownBlock = some q → w.heap.size ≤ q:=fun q hq => (hp2.lt q hq).1
 have hB:Below w.heap.size w w3:=(h.trans (hb.mono h.size)).grown hg (Nat.le_trans h.size hb.size) hs
 have hk2:∀ b,b < w.heap.size → w3.heap[b]? = wr.heap[b]? := fun b q => (hB.block b q).trans (h.block b q).symm
 refine ⟨hB,ps ++ [(opOf l[k],sv)], ?_,by rw [rowO_snoc]; exact hown,fun p hp => ?_⟩
 ·rw [List.map_append,hp1,List.take_succ_eq_append_getElem hk,List.map_append]; rfl
 ·rcases List.mem_append.1 hp with hp | hp
  ·exact (hp3 p hp).keep (fun _ q => q) hk2
  ·rw [List.mem_singleton.1 hp]; exact hx.keep (fun _ q => q) hk2
theorem OpsR.rd {w wr:World} {l:List St} {s:Value} (h:OpsR w l l.length s wr):OpsRd wr (· < wr.heap.size) s (l.map opOf):=by
 obtain ⟨hb,ps,hp1,hp2,hp3⟩:=h
 rw [List.take_of_length_le (Nat.le_refl _)] at hp1
 have hl:ps.length = l.length:=by have:=congrArg List.length hp1; simpa using this
 rcases hp2.2 with ⟨rfl,h0⟩ | ⟨g,cap,cur,rfl,hb2,hg,hn,hc,hs,ht⟩
 ·exact ⟨none,0,by rw [List.length_map,h0],by rw [List.length_map]; omega,Nat.zero_le _, .inl (by rw [List.length_map]; exact h0)⟩
 ·refine ⟨some ⟨g,0,none⟩,cap,by rw [List.length_map],by rw [List.length_map]; exact hn,hc, .inr ⟨g,0,rfl,(Array.getElem?_eq_some_iff.1 hg).1,fun k hk => ?_⟩⟩
  rw [List.length_map] at hk
  have hk2:k < ps.length:=by omega
  have hx:(l.map opOf)[k]'(by rw [List.length_map]; exact hk) = ps[k].1:=by
   have:(ps.map Prod.fst)[k]'(by rw [List.length_map]; exact hk2) = (l.map opOf)[k]'(by rw [List.length_map]; exact hk):=by simp only [hp1]
   rw [← this,List.getElem_map]
  rw [hx]
  refine ⟨ps[k].2,(hp3 _ (List.getElem_mem hk2)).mono (fun b q => Nat.lt_of_lt_of_le q hb.size),fun j hj => ?_⟩
  rw [Nat.zero_add,cell_of_row wr g _ cur _ (0,0) hg, ← rowO_at ps k hk2 j hj, ← ht,List.getElem?_take,if_pos (by omega)]
  simp
end Go.Proofs.YtpkijdkoiecpiaaGreatDoor
