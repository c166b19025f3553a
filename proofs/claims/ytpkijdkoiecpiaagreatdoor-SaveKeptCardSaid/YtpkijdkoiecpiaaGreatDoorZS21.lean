/-
  Parts of the proof: H4.
-/
import Derived.Deep.AppendLies
import Derived.Deep.RegionHeld3
import Derived.Test.YtpkijdkoiecpiaaGreatDoorZS9
import Derived.Test.YtpkijdkoiecpiaaGreatDoorZS12
import Derived.Test.YtpkijdkoiecpiaaGreatDoorZS20
namespace Go.Proofs.YtpkijdkoiecpiaaGreatDoor
open Go.RowKit
set_option linter.unusedVariables false
set_option linter.unusedSimpArgs false
def tkv (ps:List (Trow × Value)):List (Int × Value):=ps.map fun p => (p.1.key, .agg #[.int .i64 p.1.acc,p.2])
theorem tkv_snoc (ps:List (Trow × Value)) (r:Trow) (v:Value):tkv (ps ++ [(r,v)]) = tkv ps ++ [(r.key, .agg #[.int .i64 r.acc,v])]:=by simp [tkv]
theorem tkv_len (ps:List (Trow × Value)):(tkv ps).length = ps.length:=by simp [tkv]
theorem tkv_cnt (ps:List (Trow × Value)) (g:Int):cntK (tkv ps) g = cntG (ps.map Prod.fst) g:=by
 unfold cntK cntG tkv
 rw [List.filter_map,List.filter_map,List.length_map,List.length_map]
 rfl
structure TabAt (w:World) (P:Nat → Prop) (T B:Nat) (ps:List (Trow × Value)):Prop where
 box:Blk w T 278 #[.map (some B)]
 map:MapI w .i64 B (tkv ps)
 rows:∀ p ∈ ps,InsP w P p.1.l p.2
theorem TabAt.keep {w w':World} {P Q:Nat → Prop} {T B:Nat} {ps:List (Trow × Value)} (h:TabAt w P T B ps) (hT:w'.heap[T]? = w.heap[T]?) (hB:w'.heap[B]? = w.heap[B]?) (hPQ:∀ b,P b → Q b) (hk:∀ b,P b → w'.heap[b]? = w.heap[b]?):TabAt w' Q T B ps :=
 ⟨hT.trans h.box,h.map.same hB,fun p hp => (h.rows p hp).keep hPQ hk⟩
structure TabL (w:World) (be bs T B H:Nat) (ps:List (Trow × Value)) (p:Tb) (W:World):Prop where
 below:Below w.heap.size w W
 tp:TP W be bs p
 tab:TabAt W (fun b => w.heap.size ≤ b ∧ b < H ∧ b ≠ be ∧ b ≠ bs ∧ b ≠ B) T B ps
 ge:w.heap.size ≤ be ∧ w.heap.size ≤ bs ∧ w.heap.size ≤ T ∧ w.heap.size ≤ B
 ne:be ≠ bs ∧ T ≠ be ∧ T ≠ bs ∧ B ≠ be ∧ B ≠ bs ∧ T ≠ B
 lt:be < H ∧ bs < H ∧ T < H ∧ B < H
 hH:H ≤ W.heap.size
namespace TabL
variable {w W W':World} {be bs T B H:Nat} {ps:List (Trow × Value)} {p q:Tb}
theorem fr (h:TabL w be bs T B H ps p W) (hf:Fr (fun b => b = be ∨ b = bs ∨ H ≤ b) W W') (hp:TP W' be bs q):TabL w be bs T B H ps q W':=by
 obtain ⟨n1,n2,n3,n4,n5,n6⟩:=h.ne
 obtain ⟨g1,g2,g3,g4⟩:=h.ge
 obtain ⟨l1,l2,l3,l4⟩:=h.lt
 have hH:=h.hH
 exact ⟨h.below.trans (hf.below h.below.size (fun k hk e => by rcases e with rfl | rfl | e <;> omega)),hp,h.tab.keep (hf.block T (by omega) (by rintro (e | e | e) <;> omega)) (hf.block B (by omega) (by rintro (e | e | e) <;> omega)) (fun b hb => hb) (fun b hb => hf.block b (by have:=hb.2.1; omega) (by rintro (e | e | e); exact hb.2.2.1 e; exact hb.2.2.2.1 e; have:=hb.2.1; omega)),h.ge,h.ne,h.lt,Nat.le_trans hH hf.size⟩
theorem step (h:TabL w be bs T B H ps p W) (hf:Fr (FrS be bs) W W') (hp:TP W' be bs q):TabL w be bs T B H ps q W':=h.fr (hf.mono fun k _ e => by rcases e with e | e; exact .inl e; exact .inr (.inl e)) hp
theorem other (h:TabL w be bs T B H ps p W) (hf:Fr (fun b => H ≤ b) W W'):TabL w be bs T B H ps p W' :=
 h.fr (hf.mono fun k _ e => .inr (.inr e)) (h.tp.fr hf (by have:=h.lt; omega) (by have:=h.lt; omega))
theorem more (h:TabL w be bs T B H ps p W) (hb:Below W.heap.size W W'):TabL w be bs T B H ps p W':=h.other (Fr.of_new hb)
theorem lift (h:TabL w be bs T B H ps p W):TabL w be bs T B W.heap.size ps p W:=by
 obtain ⟨l1,l2,l3,l4⟩:=h.lt
 have hH:=h.hH
 exact ⟨h.below,h.tp,h.tab.keep rfl rfl (fun b hb => ⟨hb.1,by have:=hb.2.1; omega,hb.2.2⟩) (fun _ _ => rfl),h.ge,h.ne,by omega,Nat.le_refl _⟩
theorem snoc {r:Trow} {v:Value} (h:TabL w be bs T B H ps p W) (hi:InsP W (fun b => w.heap.size ≤ b ∧ b < W.heap.size ∧ b ≠ be ∧ b ≠ bs ∧ b ≠ B) r.l v) (hf:Fr (fun i => i = B) W W') (hm:MapI W' .i64 B (tkv ps ++ [(r.key, .agg #[.int .i64 r.acc,v])])):TabL w be bs T B W'.heap.size (ps ++ [(r,v)]) p W':=by
 have hl:=h.lift
 obtain ⟨n1,n2,n3,n4,n5,n6⟩:=hl.ne
 obtain ⟨g1,g2,g3,g4⟩:=hl.ge
 obtain ⟨l1,l2,l3,l4⟩:=hl.lt
 have hs:=hf.size
 refine ⟨hl.below.trans (hf.below hl.below.size (fun k hk e => by omega)),hl.tp.fr hf (by omega) (by omega),⟨hl.tab.box.fr hf (by omega),by rw [tkv_snoc]; exact hm,fun q hq => ?_⟩,hl.ge,hl.ne,by omega,Nat.le_refl _⟩
 rcases List.mem_append.1 hq with hq | hq
 ·exact (hl.tab.rows q hq).keep (fun b hb => ⟨hb.1,by have:=hb.2.1; omega,hb.2.2⟩) (fun b hb => hf.block b hb.2.1 hb.2.2.2.2)
 ·rw [List.mem_singleton.1 hq]
  exact hi.keep (fun b hb => ⟨hb.1,by have:=hb.2.1; omega,hb.2.2⟩) (fun b hb => hf.block b hb.2.1 hb.2.2.2.2)
end TabL
theorem Tb.num_least {a b:Int} {p:Tb} (h:(p.num a b).2.e ≠ 0):(p.num a b).1 = a:=by
 unfold Tb.num at h ⊢
 repeat' split
 ·rfl
 ·rfl
 ·rfl
 ·rename_i h1 h2 h3
  rw [if_neg h1,if_neg h2,if_neg h3] at h
  exact absurd rfl h
theorem Tb.nums_size:∀ (n:Nat) (p:Tb),(Tb.nums n p).2.s.size ≤ p.s.size
 | 0,p => Nat.le_refl _
 | n + 1,p => by
  unfold Tb.nums
  exact Nat.le_trans (Tb.nums_size n _) (Tb.num_size _ _ p)
theorem Tb.row_size (p:Tb):p.row.2.s.size ≤ p.s.size:=by
 unfold Tb.row
 exact Nat.le_trans (Tb.nums_size _ _) (Nat.le_trans (Tb.num_size _ _ _) (Nat.le_trans (Tb.num_size _ _ _) (Tb.num_size _ _ p)))
theorem rise_none {ps:List (Trow × Value)} {k:Int} (h:Rise (ps.map Prod.fst)) (hb : ¬ rowBad (ps.map Prod.fst) k):getI k (tkv ps) = none:=by
 unfold getI
 rw [(findI_none k (tkv ps) 0).2 ?_]
 ·rfl
 ·intro p hp e
  obtain ⟨q,hq,rfl⟩:=List.mem_map.1 hp
  have hm:q.1 ∈ ps.map Prod.fst:=List.mem_map_of_mem hq
  have hne:ps.map Prod.fst ≠ []:=by intro e2; rw [e2] at hm; simp at hm
  have hl:bef (lastK (ps.map Prod.fst)) k < 0:=by
   have : ¬ 0 ≤ bef (lastK (ps.map Prod.fst)) k:=fun e => hb (.inl ⟨hne,e⟩)
   omega
  have e':q.1.key = k:=e
  rcases rise_last h q.1 hm with e1 | e1
  ·exact bef_ne (bef_trans e1 hl) e'
  ·rw [e1] at e'; exact bef_ne hl e'
theorem own_slice {w:World} {base:Nat} {e:TypeId} {size n:Nat} {v:Value} {xs:List Value} (h:w.ownsRow base e size v n xs):∃ a cap,v = .slice a n cap ∧ n ≤ cap ∧ cap ≤ maxLen:=by
 rcases h.2 with ⟨rfl,rfl⟩ | ⟨g,cap,cur,rfl,hb,hg,hn,hc,hs,ht⟩
 ·exact ⟨none,0,rfl,Nat.le_refl _,Nat.zero_le _⟩
 ·exact ⟨_,cap,rfl,hn,hc⟩
theorem own_base {w:World} {base:Nat} {e:TypeId} {size n:Nat} {v:Value} {xs:List Value} (h:w.ownsRow base e size v n xs):∀ b,v.ownBlock = some b → base ≤ b:=by
 intro b hb
 rcases h.2 with ⟨rfl,rfl⟩ | ⟨g,cap,cur,rfl,hbb,hg,hn,hc,hs,ht⟩
 ·simp [Value.ownBlock] at hb
 ·simp [Value.ownBlock] at hb
  omega
theorem ownsRow_fr {w w':World} {S:Nat → Prop} {base:Nat} {e:TypeId} {size n:Nat} {v:Value} {xs:List Value} (h:w.ownsRow base e size v n xs) (hf:Fr S w w') (hS:∀ b,base ≤ b → ¬ S b):w'.ownsRow base e size v n xs:=by
 obtain ⟨h1,h2⟩:=h
 refine ⟨h1,h2.imp id ?_⟩
 rintro ⟨g,cap,cur,hv,hb,hg,r⟩
 exact ⟨g,cap,cur,hv,hb,hf.heap_at hg (hS g hb),r⟩
theorem info_tint:(Tryz.prog.info? 2).map (fun i => (i.zero,i.size,i.bytes)) = some (some (.int .i64 0),1,8):=by kernel_rfl
theorem Tb.nums_take (n j:Nat) (h:j < n) (q:Tb):Tb.nums (n - j) q = (q.any.1 :: (Tb.nums (n - (j + 1)) q.any.2).1,(Tb.nums (n - (j + 1)) q.any.2).2):=by
 rw [show n - j = (n - (j + 1)) + 1 by omega]
 rfl
theorem take_in {w wx w1 w4:World} {be bs T B H C g cap j:Nat} {ps:List (Trow × Value)} {y y1:Tb} {lv:Value} {o:Obj} {cs:Array Value} (h:TabL w be bs T B H ps y wx) (hH:H ≤ C) (hf:Fr (FrS be bs) wx.drew w1) (hp:TP w1 be bs y1) (hb:∀ b,lv.ownBlock = some b → C + 1 ≤ b)
  (hg:(w1.alloc o).grownBy w4 lv.ownBlock) (hC:Blk w4 C 274 cs):TabL w be bs T B H ps y1 (w4.setCell ⟨C,1,none⟩ (.slice (some ⟨g,0,none⟩) j cap)):=by
 have h1:=((h.more (Below.refl _ _).drew).step hf hp).more ((Below.refl _ _).alloc (Nat.le_refl _) o)
 have h2:=h1.other (Fr.grown (Fr.refl (fun b => H ≤ b) _) hg (fun k e => .inl (by have:=hb k e; omega)))
 exact h2.other ((Fr.refl (fun b => H ≤ b) w4).setCell (p:=⟨C,1,none⟩) (.inl hH) _)
theorem take_own {w4:World} {C g cap j:Nat} {xs:List Int} {x:Int} {cs:Array Value} (h:w4.ownsRow (C + 1) 2 1 (.slice (some ⟨g,0,none⟩) (j + 1) cap) (j + 1) (xs.map (Value.int .i64) ++ [.int .i64 x])) (hlt:g < w4.heap.size) (hC:Blk w4 C 274 cs) :
  (w4.setCell ⟨C,1,none⟩ (.slice (some ⟨g,0,none⟩) (j + 1) cap)).ownsRow (C + 1) 2 1 (.slice (some ⟨g,0,none⟩) (j + 1) cap) (j + 1) ((xs ++ [x]).map (Value.int .i64)):=by
 rw [List.map_append]
 exact ownsRow_setCell_below h (a:=⟨C,1,none⟩) (Nat.lt_succ_self C) _
theorem emp_size' (s:ByteArray):s.toList.isEmpty = decide (s.size = 0):=by
 rw [ByteArray.toList_eq,Lib.size_eq]
 cases s.data.toList <;> simp
theorem take_row {w wc:World} {be bs T B H C j lcap:Nat} {la:Option Addr} {ps:List (Trow × Value)} {y:Tb} {xs:List Int} (h:wc.ownsRow (C + 1) 2 1 (.slice la j lcap) j (xs.map (Value.int .i64))) (hx:xs.length = j) (hL:TabL w be bs T B H ps y wc) (hH:H ≤ C) :
  InsP wc (fun b => w.heap.size ≤ b ∧ b < wc.heap.size ∧ b ≠ be ∧ b ≠ bs ∧ b ≠ B) xs (.slice la j lcap):=by
 subst hx
 have:=hL.lt
 have:=hL.ge
 exact (InsP.of_own h).keep (fun b hb => ⟨by have:=hb.1; omega,hb.2,by have:=hb.1; omega,by have:=hb.1; omega,by have:=hb.1; omega⟩) (fun _ _ => rfl)
theorem zero_cell (w:World):(zeroValue 274).run Tryz.prog w = .ok (.agg #[.int .i64 0, .slice none 0 0]) w:=by go_simp
def TakePost2 (s:ByteArray) (w:World) (e:Ending) (w':World):Prop :=
 Below w.heap.size w w' ∧ ((takeTb s).2 ≠ 0 ∧ e = .returned (.tuple #[.pointer none, .int .i64 (takeTb s).2]) ∨
  (takeTb s).2 = 0 ∧ ∃ T B ps,e = .returned (.tuple #[px T, .int .i64 0]) ∧ ps.map Prod.fst = (takeTb s).1 ∧ TabAt w' (fun b => w.heap.size ≤ b ∧ b < w'.heap.size) T B ps)
set_option maxRecDepth 100000 in
set_option maxHeartbeats 4000000 in
theorem tTake_c (s:ByteArray) (hs:s.size ≤ 140737488355328) (w:World):Calls Tryz.prog 157 #[.string s] w (TakePost2 s w):=by
 unfold TakePost2
 have HE:Hid (takeTb s = (let n:=(Tb.mk s 0).num 0 320; let q:=Tb.rows n.1.toNat [] n.2; if q.2.e ≠ 0 then ([],q.2.e) else if q.2.s.size ≠ 0 then ([],21) else (q.1,0))):=rfl
 generalize takeTb s = R at *
 have hE0:Blk ((w.alloc (.cells #[.string s] 9)).alloc (.cells #[.int .i64 0] 27)) (w.heap.size + 1) 27 #[.int .i64 0]:=Blk.new_at _ _ _ (by simp)
 have hS0:Blk ((w.alloc (.cells #[.string s] 9)).alloc (.cells #[.int .i64 0] 27)) w.heap.size 9 #[.string s]:=(Blk.new w _ _).alloc _
 have hb0:Below w.heap.size w ((w.alloc (.cells #[.string s] 9)).alloc (.cells #[.int .i64 0] 27)):=((Below.refl _ _).alloc (Nat.le_refl _) _).alloc (by simp) _
 have hmf:∀ (fn:Fn) (first cap:Array Value) (w:World),(Instr.makeFunc fn first cap).run Tryz.prog w = .ok (.func fn first cap) w:=fun _ _ _ _ => rfl
 have f0:=hE0.free 0
 have hz1:w.heap.size < ((w.alloc (.cells #[.string s] 9)).alloc (.cells #[.int .i64 0] 27)).heap.size:=hS0.lt
 have hz2:w.heap.size + 1 < ((w.alloc (.cells #[.string s] 9)).alloc (.cells #[.int .i64 0] 27)).heap.size:=hE0.lt
 go_enter Tryz.func157,Tryz.ntmps157
 go_upto_region 3 with fail
 generalize (w.alloc (.cells #[.string s] 9)).alloc (.cells #[.int .i64 0] 27) = W1 at *
 go_upto_region 5 with (first | (go_at_call 159; refine (New_t W1).mono ?_; rintro e W2 ⟨rfl,hb2,hs2,hT2,hm2⟩) | fail)
 unfold px
 have hL:TabL w (w.heap.size + 1) w.heap.size (W1.heap.size + 1) W1.heap.size W2.heap.size [] ⟨s,0⟩ W2 :=
  ⟨hb0.trans (hb2.mono hb0.size),⟨hE0.below hb2 hz2,hS0.below hb2 hz1⟩,⟨hT2,hm2,by simp⟩,by omega,by omega,by omega,Nat.le_refl _⟩
 have HN:=Lib.hid (tnum_c (w.heap.size + 1) w.heap.size (by omega) ⟨s,0⟩ 0 320 hs W2 hL.tp)
 have hir:=Tb.num_ir 0 320 (by omega) (by omega) (by omega) ⟨s,0⟩
 have hsz:=Nat.le_trans (Tb.num_size 0 320 ⟨s,0⟩) hs
 have hne0 := @Tb.num_least 0 320 ⟨s,0⟩
 generalize Tb.num 0 320 ⟨s,0⟩ = q at *
 obtain ⟨n,p0⟩:=q
 dsimp only at HE HN hir hsz hne0
 obtain ⟨N,rfl⟩:∃ N:Nat,n = (N:Int):=⟨n.toNat,by omega⟩
 rw [Int.toNat_natCast] at HE
 have HNE0:p0.e = 0 ∨ N = 0:=by
  by_cases h:p0.e = 0
  ·exact .inl h
  ·have:=hne0 h; omega
 clear hne0
 have HL:=Lib.hid hL
 have HR:Hid (R = (if (Tb.rows N [] p0).2.e ≠ 0 then ([],(Tb.rows N [] p0).2.e) else if (Tb.rows N [] p0).2.s.size ≠ 0 then ([],21) else ((Tb.rows N [] p0).1,0))):=HE
 generalize W1.heap.size = B at *
 generalize hbe:w.heap.size + 1 = be at *
 clear hE0 hS0 hb0 f0 hb2 hT2 hm2 hL HE hs hz1 hz2 hs2
 have HNE:Hid (p0.e = 0 ∨ N = 0):=HNE0
 go_upto_block 0 with (first | (go_at_call 198; refine HN.out.mono ?_; rintro e W3 ⟨rfl,hp3,hf3⟩) | fail)
 have hL3:=(HL.out.step hf3 hp3).lift
 clear HN hf3 hp3 HL hmf
 have HL:=Lib.hid hL3
 have HSZ:=Lib.hid hsz
 have hN3:(N:Int) ≤ 320:=hir.2
 clear hL3 hsz hir
 go_wp2_with fail
 go_loopw [7,15] (fun la q wr => ∃ (k:Nat) (ps:List (Trow × Value)) (p:Tb),la = .int .i64 (lastK (ps.map Prod.fst)) ∧ q = .int .i64 (k:Int) ∧ k ≤ N ∧ ps.length = k ∧ (p.e = 0 ∨ N = 0) ∧ Rise (ps.map Prod.fst) ∧ p.s.size ≤ 140737488355328 ∧ TabL w be w.heap.size (B + 1) B wr.heap.size ps p wr ∧ Tb.rows (N - k) (ps.map Prod.fst) p = Tb.rows N [] p0) (fun _ q _ => N - (intOf q).toNat)
 case atStart => exact ⟨0,[],p0,rfl,rfl,Nat.zero_le _,rfl,HNE.out,List.Pairwise.nil,HSZ.out,HL.out,rfl⟩
 case round =>
  obtain ⟨k,ps,p,rfl,rfl,hk,hpl,hpe,hri,hps,hLr,hrows⟩:=hrel
  have HRS:=Lib.hid hrows
  have HRI:=Lib.hid hri
  have HPL:=Lib.hid hpl
  clear hrows hri hpl
  by_cases hlt:k < N
  ·have hp0:p.e = 0:=by rcases hpe with h | h; exact h; omega
   have hkI:(k:Int) < (N:Int):=by omega
   obtain ⟨m,hm⟩:∃ m,N - k = m + 1:=⟨N - k - 1,by omega⟩
   have hst:Tb.rows (m + 1) (ps.map Prod.fst) p = (if p.row.2.e ≠ 0 then ([],p.row.2) else if rowBad (ps.map Prod.fst) p.row.1.key then ([],⟨p.row.2.s,21⟩) else Tb.rows m (ps.map Prod.fst ++ [p.row.1]) p.row.2):=rfl
   rw [← hm,HRS.out] at hst
   have HST:=Lib.hid hst
   have HM:=Lib.hid hm
   have HRSZ:=Lib.hid (Nat.le_trans p.row_size hps)
   have HROW:Hid (p.row = (let k:=p.any; let a:=k.2.any; let n:=a.2.num 0 16; let q:=Tb.nums n.1.toNat n.2; (⟨k.1,a.1,q.1⟩,q.2))):=rfl
   generalize p.row = rw' at *
   clear hst hm HRS
   have hs1:=Nat.le_trans (Tb.num_size (-9223372036854775808) 9223372036854775807 p) hps
   have HA1:=Lib.hid (tnum_c be w.heap.size hLr.ne.1 p (-9223372036854775808) 9223372036854775807 hps wr hLr.tp)
   have hi1:=Tb.num_ir (-9223372036854775808) 9223372036854775807 (by omega) (by omega) (by omega) p
   have e1:p.any = p.num (-9223372036854775808) 9223372036854775807:=rfl
   rw [e1] at HROW
   clear e1
   generalize Tb.num (-9223372036854775808) 9223372036854775807 p = q1 at *
   obtain ⟨key,p1⟩:=q1
   dsimp only at HROW HA1 hs1 hi1
   have hs2:=Nat.le_trans (Tb.num_size (-9223372036854775808) 9223372036854775807 p1) hs1
   have HA2:=Lib.hid (fun (W:World) (h:TP W be w.heap.size p1) => tnum_c be w.heap.size hLr.ne.1 p1 (-9223372036854775808) 9223372036854775807 hs1 W h)
   have e1:p1.any = p1.num (-9223372036854775808) 9223372036854775807:=rfl
   rw [e1] at HROW
   clear e1
   generalize Tb.num (-9223372036854775808) 9223372036854775807 p1 = q2 at *
   obtain ⟨acc,p2⟩:=q2
   dsimp only at HROW HA2 hs2
   have hs3:=Nat.le_trans (Tb.num_size 0 16 p2) hs2
   have HA3:=Lib.hid (fun (W:World) (h:TP W be w.heap.size p2) => tnum_c be w.heap.size hLr.ne.1 p2 0 16 hs2 W h)
   have hi3:=Tb.num_ir 0 16 (by omega) (by omega) (by omega) p2
   generalize Tb.num 0 16 p2 = q3 at *
   obtain ⟨n3,p3⟩:=q3
   dsimp only at HROW HA3 hs3 hi3
   obtain ⟨M,rfl⟩:∃ M:Nat,n3 = (M:Int):=⟨n3.toNat,by omega⟩
   rw [Int.toNat_natCast] at HROW
   have HLR:=Lib.hid hLr
   clear hLr hpe hps
   go_upto_block 2 with (first
    | (go_at_call 198; refine HA1.out.mono ?_; rintro e W4 ⟨rfl,hq4,hf4⟩; have hL4:=HLR.out.step hf4 hq4; clear HA1)
    | (go_at_call 198; refine (HA2.out _ hL4.tp).mono ?_; rintro e W5 ⟨rfl,hq5,hf5⟩; have hL5:=hL4.step hf5 hq5; have hL6:=hL5.more ((Below.refl _ _).alloc (Nat.le_refl _) (.cells #[.int .i64 acc, .slice none 0 0] 274)); have hC6:=Blk.new W5 #[.int .i64 acc, .slice none 0 0] 274; clear HA2 hL4)
    | (go_at_call 198; refine (HA3.out _ hL6.tp).mono ?_; rintro e W7 ⟨rfl,hq7,hf7⟩)
    | fail)
   have hC7:=hC6.fr hf7 (by have:=hL5.hH; have:=hL5.lt; rintro (e | e) <;> omega)
   have hL7:=hL6.step hf7 hq7
   have hHC:wr.heap.size ≤ W5.heap.size:=hL5.hH
   generalize W5.heap.size = C at *
   have hCW:C < W7.heap.size:=hC7.lt
   obtain ⟨i0,hi,hz0,hz1,hz2⟩:=info_parts info_tint
   clear hL5 hL6 hC6 hf7 hq7 HA3 hf5 hq5 hf4 hq4 hs1 hs2
   have HL7:=Lib.hid hL7
   have HC7:=Lib.hid hC7
   have HS3:=Lib.hid hs3
   have HHC:=Lib.hid hHC
   clear hL7 hC7 hs3 hHC
   generalize wr.heap.size = H at *
   go_wp2_with fail
   go_loopw [25] (fun q wx => ∃ (j:Nat) (xs:List Int) (lv:Value) (y:Tb),q = .int .i64 (j:Int) ∧ j ≤ M ∧ xs.length = j ∧ y.s.size ≤ 140737488355328 ∧ TabL w be w.heap.size (B + 1) B H ps y wx ∧ Blk wx C 274 #[.int .i64 acc,lv] ∧ wx.ownsRow (C + 1) 2 1 lv j (xs.map (Value.int .i64)) ∧ Tb.nums M p3 = (xs ++ (Tb.nums (M - j) y).1,(Tb.nums (M - j) y).2)) (fun q _ => M - (intOf q).toNat)
   case atStart => exact ⟨0,[],_,p3,rfl,Nat.zero_le _,rfl,HS3.out,HL7.out,HC7.out,World.ownsRow_nil _ _ _ _,rfl⟩
   case round =>
    obtain ⟨j,xs,lv,y,rfl,hj,hxl,hys,hLy,hCy,hoy,hny⟩:=hrel
    obtain ⟨la,lcap,rfl,hlc,hlm⟩:=own_slice hoy
    have HNY:=Lib.hid hny
    have HXL:=Lib.hid hxl
    clear hny hxl
    by_cases hjl:j < M
    ·have hjI:(j:Int) < (M:Int):=by omega
     have HNX:=Lib.hid (Tb.nums_take M j hjl y)
     have HYS:=Lib.hid (Nat.le_trans (Tb.num_size (-9223372036854775808) 9223372036854775807 y) hys)
     have HA:=Lib.hid (fun (W:World) (h:TP W be w.heap.size y) => tnum_c be w.heap.size hLy.ne.1 y (-9223372036854775808) 9223372036854775807 hys W h)
     have e1:y.any = y.num (-9223372036854775808) 9223372036854775807:=rfl
     rw [e1] at HNX
     clear e1
     generalize Tb.num (-9223372036854775808) 9223372036854775807 y = z at *
     obtain ⟨x,y1⟩:=z
     dsimp only at HNX HA HYS
     have HLY:=Lib.hid hLy
     have HCY:=Lib.hid hCy
     have HOY:=Lib.hid hoy
     have HBB:=Lib.hid (own_base hoy)
     have NBC:Hid (∀ b,C ≤ b → ¬ FrS be w.heap.size b):=fun b hb e => by have:=hLy.lt; have:=HHC.out; rcases e with e | e <;> omega
     have ONE:Hid (∀ v ∈ ([.int .i64 x]:List Value),v.oneCell' = true):=by intro v hv; rw [List.mem_singleton.1 hv]; rfl
     have c1:=hCy.cell 1
     have f1:=hCy.free 1
     go_upto_region 12 with fail
     clear hLy hCy hoy hys
     refine wp_region_held_drew (S:=(fun w' => True)) (by kernel_rfl) ?_ (fun hHeld => ?_)
     ·trivial
     refine wpAnyH_take (i:=0) (oi:=_) (v := ?_) rfl (by kernel_rfl) (by kernel_rfl) (by kernel_rfl) (fun _ _ _ h => h) (Or.inl ⟨by rfl, ?_⟩) (by assumption) ?_
     rotate_left
     ·intro w' hSw
      (try dsimp only at hSw)
      go_simp
      try with_reducible rfl
     try simp only [Act.put,List.getElem_toArray,List.getElem_cons_zero,List.setIfInBounds_toArray,List.set_cons_zero,List.set_cons_succ]
     refine wpAnyH_take (i:=2) (oi:=_) (v := ?_) rfl (by kernel_rfl) (by kernel_rfl) (by kernel_rfl) (fun _ _ _ h => h) (Or.inl ⟨by rfl, ?_⟩) (by assumption) ?_
     rotate_left
     ·intro w' hSw
      (try dsimp only at hSw)
      go_simp
      try with_reducible rfl
     try simp only [Act.put,List.getElem_toArray,List.getElem_cons_zero,List.getElem_cons_succ,List.setIfInBounds_toArray,List.set_cons_zero,List.set_cons_succ]
     refine wpAnyH_ready (rs:=[1,3]) (by kernel_rfl) (by simp) ?_
     refine AllReadyH.cons rfl (fun K hK => ?_) (AllReadyH.cons rfl (fun K hK => ?_) (AllReadyH.nil))
     ·go_simp
      refine hK.out _ _ ?_ (fun hHeld => ?_)
      ·trivial
      clear hK K
      try simp only [Act.put,List.getElem_toArray,List.getElem_cons_zero,List.getElem_cons_succ,List.setIfInBounds_toArray,List.set_cons_zero,List.set_cons_succ]
      refine wpAnyH_ready (rs:=[3]) (by kernel_rfl) (by simp) ?_
      refine AllReadyH.cons rfl (fun K hK => ?_) AllReadyH.nil
      go_simp
      go_at_call 198
      refine (HA.out _ (HLY.out.more ((Below.refl _ _).drew)).tp).mono ?_
      rintro e w1 ⟨rfl,hq1,hf1⟩
      have hL1:=(HLY.out.more ((Below.refl _ _).drew)).step hf1 hq1
      have hC1:=(HCY.out.drew).fr hf1 (NBC.out C (Nat.le_refl _))
      have k1:=hC1.cell 1
      refine hK.out _ _ ?_ (fun hHeld => ?_)
      ·trivial
      clear hK K
      try simp only [Act.put,List.getElem_toArray,List.getElem_cons_zero,List.getElem_cons_succ,List.setIfInBounds_toArray,List.set_cons_zero,List.set_cons_succ]
      refine wpAnyH_ready (rs:=[4]) (by kernel_rfl) (by simp) ?_
      refine AllReadyH.cons rfl (fun K hK => ?_) AllReadyH.nil
      go_simp
      have hC2:=hC1.alloc (.cells #[.int .i64 x] 2)
      have k2:=hC2.cell 1
      have HOA:Hid ((w1.alloc (.cells #[.int .i64 x] 2)).ownsRow (C + 1) 2 1 (.slice la j lcap) j (xs.map (Value.int .i64))):=(ownsRow_fr HOY.out.drew hf1 (fun b q => NBC.out b (Nat.le_of_succ_le q))).alloc _
      have HNA:Hid (∀ i u,([.int .i64 x]:List Value)[i]? = some u → (w1.alloc (.cells #[.int .i64 x] 2)).cell? ((⟨w1.heap.size,0,none⟩:Addr).add i) = some u):=World.news_of_block (heap_alloc_new w1 _)
      refine hK.out _ _ ?_ (fun hHeld => ?_)
      ·trivial
      clear hK K
      try simp only [Act.put,List.getElem_toArray,List.getElem_cons_zero,List.getElem_cons_succ,List.setIfInBounds_toArray,List.set_cons_zero,List.set_cons_succ]
      refine wpAnyH_ready (rs:=[5]) (by kernel_rfl) (by simp) ?_
      refine AllReadyH.cons rfl (fun K hK => ?_) AllReadyH.nil
      refine step_append_lies _ (by rfl) _ _ _ (by rfl) (C + 1) 2 i0 (.int .i64 0) 1 8 Tryz.underlying170 hi hz0 hz1 hz2 rfl (by decide) (.slice la j lcap) j (xs.map (Value.int .i64)) (by rfl) HOA.out ⟨w1.heap.size,0,none⟩ 1 1 [.int .i64 x] (by rfl) (by rfl) HNA.out ONE.out (by decide) (by unfold maxLen; omega) (by omega) (by simp; have:=hC1.lt; omega) _ rfl ?_
      intro g cap4 w4 hown4 hgrow4 hat4 hlt4
      have hC4:=hC2.grown hgrow4 (fun e => by have:=HBB.out _ e.symm; omega)
      have k4:=hC4.cell 1
      have g4:=hC4.free 1
      refine hK.out _ _ ?_ (fun hHeld => ?_)
      ·trivial
      clear hK K
      try simp only [Act.put,List.getElem_toArray,List.getElem_cons_zero,List.getElem_cons_succ,List.setIfInBounds_toArray,List.set_cons_zero,List.set_cons_succ]
      refine wpAnyH_take (i:=6) (oi:=_) (v := ?_) rfl (by kernel_rfl) (by kernel_rfl) (by kernel_rfl) (fun _ _ _ h => h) (Or.inl ⟨by rfl, ?_⟩) (by assumption) ?_
      rotate_left
      ·intro w' hSw
       (try dsimp only at hSw)
       go_simp
       try with_reducible rfl
      try simp only [Act.put,List.getElem_toArray,List.getElem_cons_zero,List.getElem_cons_succ,List.setIfInBounds_toArray,List.set_cons_zero,List.set_cons_succ]
      refine wpAnyH_ready (rs:=[7]) (by kernel_rfl) (by simp) ?_
      refine AllReadyH.cons rfl (fun K hK => ?_) AllReadyH.nil
      go_simp
      refine hK.out _ _ ?_ (fun hHeld => ?_)
      ·trivial
      clear hK K
      try simp only [Act.put,List.getElem_toArray,List.getElem_cons_zero,List.getElem_cons_succ,List.setIfInBounds_toArray,List.set_cons_zero,List.set_cons_succ]
      refine wpAnyH_done (by kernel_rfl) ?_ _
      go_wp2_with fail
      go_roundw
      case rel => exact ⟨j + 1,xs ++ [x],_,y1,by go_num,hjl,by rw [List.length_append,HXL.out]; rfl,HYS.out,take_in HLY.out HHC.out hf1 hq1 HBB.out hgrow4 hC4,hC4.set 1 _,take_own hown4 hlt4 hC4,by rw [HNY.out,HNX.out]; simp⟩
      case measure => simp [intOf]; omega
     ·go_simp
      go_at_call 198
      refine (HA.out _ (HLY.out.more ((Below.refl _ _).drew)).tp).mono ?_
      rintro e w1 ⟨rfl,hq1,hf1⟩
      have hL1:=(HLY.out.more ((Below.refl _ _).drew)).step hf1 hq1
      have hC1:=(HCY.out.drew).fr hf1 (NBC.out C (Nat.le_refl _))
      have k1:=hC1.cell 1
      refine hK.out _ _ ?_ (fun hHeld => ?_)
      ·trivial
      clear hK K
      try simp only [Act.put,List.getElem_toArray,List.getElem_cons_zero,List.getElem_cons_succ,List.setIfInBounds_toArray,List.set_cons_zero,List.set_cons_succ]
      refine wpAnyH_ready (rs:=[1,4]) (by kernel_rfl) (by simp) ?_
      refine AllReadyH.cons rfl (fun K hK => ?_) (AllReadyH.cons rfl (fun K hK => ?_) (AllReadyH.nil))
      ·go_simp
       refine hK.out _ _ ?_ (fun hHeld => ?_)
       ·trivial
       clear hK K
       try simp only [Act.put,List.getElem_toArray,List.getElem_cons_zero,List.getElem_cons_succ,List.setIfInBounds_toArray,List.set_cons_zero,List.set_cons_succ]
       refine wpAnyH_ready (rs:=[4]) (by kernel_rfl) (by simp) ?_
       refine AllReadyH.cons rfl (fun K hK => ?_) AllReadyH.nil
       go_simp
       have hC2:=hC1.alloc (.cells #[.int .i64 x] 2)
       have k2:=hC2.cell 1
       have HOA:Hid ((w1.alloc (.cells #[.int .i64 x] 2)).ownsRow (C + 1) 2 1 (.slice la j lcap) j (xs.map (Value.int .i64))):=(ownsRow_fr HOY.out.drew hf1 (fun b q => NBC.out b (Nat.le_of_succ_le q))).alloc _
       have HNA:Hid (∀ i u,([.int .i64 x]:List Value)[i]? = some u → (w1.alloc (.cells #[.int .i64 x] 2)).cell? ((⟨w1.heap.size,0,none⟩:Addr).add i) = some u):=World.news_of_block (heap_alloc_new w1 _)
       refine hK.out _ _ ?_ (fun hHeld => ?_)
       ·trivial
       clear hK K
       try simp only [Act.put,List.getElem_toArray,List.getElem_cons_zero,List.getElem_cons_succ,List.setIfInBounds_toArray,List.set_cons_zero,List.set_cons_succ]
       refine wpAnyH_ready (rs:=[5]) (by kernel_rfl) (by simp) ?_
       refine AllReadyH.cons rfl (fun K hK => ?_) AllReadyH.nil
       refine step_append_lies _ (by rfl) _ _ _ (by rfl) (C + 1) 2 i0 (.int .i64 0) 1 8 Tryz.underlying170 hi hz0 hz1 hz2 rfl (by decide) (.slice la j lcap) j (xs.map (Value.int .i64)) (by rfl) HOA.out ⟨w1.heap.size,0,none⟩ 1 1 [.int .i64 x] (by rfl) (by rfl) HNA.out ONE.out (by decide) (by unfold maxLen; omega) (by omega) (by simp; have:=hC1.lt; omega) _ rfl ?_
       intro g cap4 w4 hown4 hgrow4 hat4 hlt4
       have hC4:=hC2.grown hgrow4 (fun e => by have:=HBB.out _ e.symm; omega)
       have k4:=hC4.cell 1
       have g4:=hC4.free 1
       refine hK.out _ _ ?_ (fun hHeld => ?_)
       ·trivial
       clear hK K
       try simp only [Act.put,List.getElem_toArray,List.getElem_cons_zero,List.getElem_cons_succ,List.setIfInBounds_toArray,List.set_cons_zero,List.set_cons_succ]
       refine wpAnyH_take (i:=6) (oi:=_) (v := ?_) rfl (by kernel_rfl) (by kernel_rfl) (by kernel_rfl) (fun _ _ _ h => h) (Or.inl ⟨by rfl, ?_⟩) (by assumption) ?_
       rotate_left
       ·intro w' hSw
        (try dsimp only at hSw)
        go_simp
        try with_reducible rfl
       try simp only [Act.put,List.getElem_toArray,List.getElem_cons_zero,List.getElem_cons_succ,List.setIfInBounds_toArray,List.set_cons_zero,List.set_cons_succ]
       refine wpAnyH_ready (rs:=[7]) (by kernel_rfl) (by simp) ?_
       refine AllReadyH.cons rfl (fun K hK => ?_) AllReadyH.nil
       go_simp
       refine hK.out _ _ ?_ (fun hHeld => ?_)
       ·trivial
       clear hK K
       try simp only [Act.put,List.getElem_toArray,List.getElem_cons_zero,List.getElem_cons_succ,List.setIfInBounds_toArray,List.set_cons_zero,List.set_cons_succ]
       refine wpAnyH_done (by kernel_rfl) ?_ _
       go_wp2_with fail
       go_roundw
       case rel => exact ⟨j + 1,xs ++ [x],_,y1,by go_num,hjl,by rw [List.length_append,HXL.out]; rfl,HYS.out,take_in HLY.out HHC.out hf1 hq1 HBB.out hgrow4 hC4,hC4.set 1 _,take_own hown4 hlt4 hC4,by rw [HNY.out,HNX.out]; simp⟩
       case measure => simp [intOf]; omega
      ·go_simp
       have hC2:=hC1.alloc (.cells #[.int .i64 x] 2)
       have k2:=hC2.cell 1
       have HOA:Hid ((w1.alloc (.cells #[.int .i64 x] 2)).ownsRow (C + 1) 2 1 (.slice la j lcap) j (xs.map (Value.int .i64))):=(ownsRow_fr HOY.out.drew hf1 (fun b q => NBC.out b (Nat.le_of_succ_le q))).alloc _
       have HNA:Hid (∀ i u,([.int .i64 x]:List Value)[i]? = some u → (w1.alloc (.cells #[.int .i64 x] 2)).cell? ((⟨w1.heap.size,0,none⟩:Addr).add i) = some u):=World.news_of_block (heap_alloc_new w1 _)
       refine hK.out _ _ ?_ (fun hHeld => ?_)
       ·trivial
       clear hK K
       try simp only [Act.put,List.getElem_toArray,List.getElem_cons_zero,List.getElem_cons_succ,List.setIfInBounds_toArray,List.set_cons_zero,List.set_cons_succ]
       refine wpAnyH_ready (rs:=[1]) (by kernel_rfl) (by simp) ?_
       refine AllReadyH.cons rfl (fun K hK => ?_) AllReadyH.nil
       go_simp
       refine hK.out _ _ ?_ (fun hHeld => ?_)
       ·trivial
       clear hK K
       try simp only [Act.put,List.getElem_toArray,List.getElem_cons_zero,List.getElem_cons_succ,List.setIfInBounds_toArray,List.set_cons_zero,List.set_cons_succ]
       refine wpAnyH_ready (rs:=[5]) (by kernel_rfl) (by simp) ?_
       refine AllReadyH.cons rfl (fun K hK => ?_) AllReadyH.nil
       refine step_append_lies _ (by rfl) _ _ _ (by rfl) (C + 1) 2 i0 (.int .i64 0) 1 8 Tryz.underlying170 hi hz0 hz1 hz2 rfl (by decide) (.slice la j lcap) j (xs.map (Value.int .i64)) (by rfl) HOA.out ⟨w1.heap.size,0,none⟩ 1 1 [.int .i64 x] (by rfl) (by rfl) HNA.out ONE.out (by decide) (by unfold maxLen; omega) (by omega) (by simp; have:=hC1.lt; omega) _ rfl ?_
       intro g cap4 w4 hown4 hgrow4 hat4 hlt4
       have hC4:=hC2.grown hgrow4 (fun e => by have:=HBB.out _ e.symm; omega)
       have k4:=hC4.cell 1
       have g4:=hC4.free 1
       refine hK.out _ _ ?_ (fun hHeld => ?_)
       ·trivial
       clear hK K
       try simp only [Act.put,List.getElem_toArray,List.getElem_cons_zero,List.getElem_cons_succ,List.setIfInBounds_toArray,List.set_cons_zero,List.set_cons_succ]
       refine wpAnyH_take (i:=6) (oi:=_) (v := ?_) rfl (by kernel_rfl) (by kernel_rfl) (by kernel_rfl) (fun _ _ _ h => h) (Or.inl ⟨by rfl, ?_⟩) (by assumption) ?_
       rotate_left
       ·intro w' hSw
        (try dsimp only at hSw)
        go_simp
        try with_reducible rfl
       try simp only [Act.put,List.getElem_toArray,List.getElem_cons_zero,List.getElem_cons_succ,List.setIfInBounds_toArray,List.set_cons_zero,List.set_cons_succ]
       refine wpAnyH_ready (rs:=[7]) (by kernel_rfl) (by simp) ?_
       refine AllReadyH.cons rfl (fun K hK => ?_) AllReadyH.nil
       go_simp
       refine hK.out _ _ ?_ (fun hHeld => ?_)
       ·trivial
       clear hK K
       try simp only [Act.put,List.getElem_toArray,List.getElem_cons_zero,List.getElem_cons_succ,List.setIfInBounds_toArray,List.set_cons_zero,List.set_cons_succ]
       refine wpAnyH_done (by kernel_rfl) ?_ _
       go_wp2_with fail
       go_roundw
       case rel => exact ⟨j + 1,xs ++ [x],_,y1,by go_num,hjl,by rw [List.length_append,HXL.out]; rfl,HYS.out,take_in HLY.out HHC.out hf1 hq1 HBB.out hgrow4 hC4,hC4.set 1 _,take_own hown4 hlt4 hC4,by rw [HNY.out,HNX.out]; simp⟩
       case measure => simp [intOf]; omega
    ·obtain rfl:j = M:=by omega
     have hfin:rw' = (⟨key,acc,xs⟩,y):=by
      rw [HROW.out,HNY.out]
      simp [Tb.nums]
     have HFI:=Lib.hid hfin
     have HLY:=Lib.hid hLy
     have HCY:=Lib.hid hCy
     have HOY:=Lib.hid hoy
     clear hfin hLy hoy hys hjl hj
     rw [HFI.out] at HST
     dsimp only at HST
     have hE:=PS.E HLY.out.tp
     have e0:=hE.cell 0
     have HBE:=Lib.hid hE
     go_upto_region 14 with fail
     have hpl:=HPL.out
     go_cut [53] (fun c wx => ∃ b:Bool,c = .bool b ∧ (b = true ↔ (y.e = 0 ∧ rowBad (ps.map Prod.fst) key)) ∧ Below wr.heap.size wr wx)
     case first =>
      by_cases hye:y.e = 0
      ·have d0:(y.e == 0) = true:=by simpa using hye
       have HYE:=Lib.hid hye
       have HBF:=Lib.hid (before_c (lastK (ps.map Prod.fst)) key wr)
       have HMN:=Lib.hid (fun (W:World) (h:Below wr.heap.size wr W) => tmany_c (B + 1) B (tkv ps) (grp key) W (HLY.out.more h).tab.box (HLY.out.more h).tab.map (by rw [tkv_len]; omega))
       rw [tkv_cnt] at HMN
       have HCL:Hid (∀ g,cntG (ps.map Prod.fst) g ≤ 1000):=fun g => Nat.le_trans (List.length_filter_le _ _) (by rw [List.length_map]; omega)
       have hcl:=HCL.out (grp key)
       have HRB:Hid (rowBad (ps.map Prod.fst) key ↔ ((0 < k ∧ 0 ≤ bef (lastK (ps.map Prod.fst)) key) ∨ 40 ≤ cntG (ps.map Prod.fst) (grp key))):=by
        show _ ↔ _
        unfold rowBad
        have:ps.map Prod.fst ≠ [] ↔ 0 < k:=by
         rw [← hpl]
         cases ps <;> simp
        rw [this]
       generalize bef (lastK (ps.map Prod.fst)) key = bf at *
       generalize cntG (ps.map Prod.fst) (grp key) = cn at *
       unfold px at HMN
       clear hye hpl
       by_cases hk0:0 < k
       ·have d1:decide ((0:Int) < (k:Int)) = true:=decide_eq_true (by omega)
        have d1':decide (0 < k) = true:=decide_eq_true hk0
        by_cases hbf:0 ≤ bf
        ·have d2:decide (0 ≤ bf) = true:=decide_eq_true hbf
         go_wp2_with (first
          | (go_at_call 199; refine HBF.out.mono ?_; rintro e w5 ⟨rfl,hb5⟩)
          | (go_at_call 201; refine (grpOf_c _ _).mono ?_; rintro e w6 ⟨rfl,rfl⟩)
          | (go_at_call 200; refine (HMN.out _ (by first | assumption | exact Below.refl _ _)).mono ?_; rintro e w6 ⟨rfl,hb6⟩)
          | fail)
         go_meet
         exact ⟨true,rfl,⟨fun _ => ⟨HYE.out,HRB.out.2 (.inl ⟨hk0,hbf⟩)⟩,fun _ => rfl⟩,hb5⟩
        ·have d2:decide (0 ≤ bf) = false:=decide_eq_false hbf
         by_cases h40:40 ≤ cn
         ·have d4:decide ((40:Int) ≤ (cn:Int)) = true:=decide_eq_true (by omega)
          have d4':decide (40 ≤ cn) = true:=decide_eq_true h40
          go_wp2_with (first
           | (go_at_call 199; refine HBF.out.mono ?_; rintro e w5 ⟨rfl,hb5⟩)
           | (go_at_call 201; refine (grpOf_c _ _).mono ?_; rintro e w6 ⟨rfl,rfl⟩)
           | (go_at_call 200; refine (HMN.out _ (by first | assumption | exact Below.refl _ _)).mono ?_; rintro e w6 ⟨rfl,hb6⟩)
           | fail)
          go_meet
          exact ⟨true,rfl,⟨fun _ => ⟨HYE.out,HRB.out.2 (.inr h40)⟩,fun _ => rfl⟩,hb5.trans (hb6.mono hb5.size)⟩
         ·have d4:decide ((40:Int) ≤ (cn:Int)) = false:=decide_eq_false (by omega)
          have d4':decide (40 ≤ cn) = false:=decide_eq_false h40
          go_wp2_with (first
           | (go_at_call 199; refine HBF.out.mono ?_; rintro e w5 ⟨rfl,hb5⟩)
           | (go_at_call 201; refine (grpOf_c _ _).mono ?_; rintro e w6 ⟨rfl,rfl⟩)
           | (go_at_call 200; refine (HMN.out _ (by first | assumption | exact Below.refl _ _)).mono ?_; rintro e w6 ⟨rfl,hb6⟩)
           | fail)
          go_meet
          exact ⟨false,rfl,⟨fun e => (by cases e),fun h => absurd (HRB.out.1 h.2) (by omega)⟩,hb5.trans (hb6.mono hb5.size)⟩
       ·have d1:decide ((0:Int) < (k:Int)) = false:=decide_eq_false (by omega)
        have d1':decide (0 < k) = false:=decide_eq_false hk0
        by_cases h40:40 ≤ cn
        ·have d4:decide ((40:Int) ≤ (cn:Int)) = true:=decide_eq_true (by omega)
         have d4':decide (40 ≤ cn) = true:=decide_eq_true h40
         go_wp2_with (first
          | (go_at_call 199; refine HBF.out.mono ?_; rintro e w5 ⟨rfl,hb5⟩)
          | (go_at_call 201; refine (grpOf_c _ _).mono ?_; rintro e w6 ⟨rfl,rfl⟩)
          | (go_at_call 200; refine (HMN.out _ (by first | assumption | exact Below.refl _ _)).mono ?_; rintro e w6 ⟨rfl,hb6⟩)
          | fail)
         go_meet
         exact ⟨true,rfl,⟨fun _ => ⟨HYE.out,HRB.out.2 (.inr h40)⟩,fun _ => rfl⟩,hb6⟩
        ·have d4:decide ((40:Int) ≤ (cn:Int)) = false:=decide_eq_false (by omega)
         have d4':decide (40 ≤ cn) = false:=decide_eq_false h40
         go_wp2_with (first
          | (go_at_call 199; refine HBF.out.mono ?_; rintro e w5 ⟨rfl,hb5⟩)
          | (go_at_call 201; refine (grpOf_c _ _).mono ?_; rintro e w6 ⟨rfl,rfl⟩)
          | (go_at_call 200; refine (HMN.out _ (by first | assumption | exact Below.refl _ _)).mono ?_; rintro e w6 ⟨rfl,hb6⟩)
          | fail)
         go_meet
         exact ⟨false,rfl,⟨fun e => (by cases e),fun h => absurd (HRB.out.1 h.2) (by omega)⟩,hb6⟩
      ·have d0:(y.e == 0) = false:=by simpa using hye
       have HYE:=Lib.hid hye
       clear hye
       go_wp2_with fail
       go_meet
       exact ⟨false,rfl,⟨fun e => (by cases e),fun h => absurd h.1 HYE.out⟩,Below.refl _ _⟩
     case rest =>
      obtain ⟨b,rfl,hbb,hbw⟩:=hcut
      have hLc:=HLY.out.more hbw
      have hCc:=HCY.out.below hbw HCY.out.lt
      have HOc:Hid (wc.ownsRow (C + 1) 2 1 (.slice la j lcap) j (xs.map (Value.int .i64))):=ownsRow_fr HOY.out (Fr.of_new (S:=fun _ => False) hbw) (fun _ _ h => h)
      have hEc:Blk wc be 27 #[.int .i64 y.e]:=PS.E hLc.tp
      have r0:=hEc.cell 0
      have s0:=hEc.free 0
      have HLC:=Lib.hid hLc
      have HBB:=Lib.hid hbb
      have HCC:=Lib.hid hCc
      clear hE e0 HBE hpl hLc hbb HLY HCY HOY
      by_cases hye:y.e = 0
      ·have d0:(y.e != 0) = false:=by simpa using hye
       have HYE:=Lib.hid hye
       cases b
       ·have hnb : ¬ rowBad (ps.map Prod.fst) key:=fun h => by have:=HBB.out.2 ⟨hye,h⟩; cases this
        have HST2:Hid (Tb.rows N [] p0 = Tb.rows m (ps.map Prod.fst ++ [⟨key,acc,xs⟩]) y):=by
         have:=HST.out
         rw [if_neg (by simpa using hye),if_neg hnb] at this
         exact this
        have HNB:=Lib.hid hnb
        clear hye hnb HST
        go_upto_region 18 with fail
        obtain ⟨c,W7,hrun7,hP7,hf7,hs7⟩:=entryI (P:=Tryz.prog) Tryz.underlying276 Tryz.underlying2 (w:=wc.drew) HLC.out.tab.map key _ (zero_cell _) (rise_none HRI.out HNB.out)
        obtain ⟨W8,hrun8,hm8,hf8,hs8⟩:=entryStoreI (P:=Tryz.prog) (t:=276) key (v := .agg #[.int .i64 acc, .slice la j lcap]) hP7
        have hT0:=HLC.out.tab.box.drew.cell 0
        have hC0:=HCC.out.drew.cell 0
        have hC1:=HCC.out.drew.cell 1
        have hCB:C ≠ B:=by have:=HLC.out.lt; have:=HHC.out; omega
        have hC7:=HCC.out.drew.fr hf7 hCB
        have k0:=hC7.cell 0
        have k1:=hC7.cell 1
        have hf78:=hf7.trans hf8
        have HF:Hid (Fr (fun i => i = B) wc W8):=⟨hf78.os,hf78.tape,hf78.output,hf78.size,hf78.block⟩
        have HM8:=Lib.hid hm8
        clear hf7 hf8 hf78 hs7 hs8 hm8 hP7 hC7 r0 s0
        go_region
        all_goals
         clear hrun7 hrun8 hT0 hC0 hC1 k0 k1
         (try go_wp2_with fail)
         go_roundw
         case rel => exact ⟨k + 1,ps ++ [(⟨key,acc,xs⟩, .slice la j lcap)],y,by rw [List.map_append]; exact congrArg (Value.int .i64) (lastK_snoc (ps.map Prod.fst) ⟨key,acc,xs⟩).symm,by go_num,hlt,by rw [List.length_append,HPL.out]; rfl, .inl HYE.out,by rw [List.map_append]; exact rise_snoc HRI.out HNB.out,(by have:=HRSZ.out; rw [HFI.out] at this; exact this),HLC.out.snoc (take_row HOc.out HXL.out HLC.out HHC.out) HF.out HM8.out,by rw [HST2.out,show N - (k + 1) = m by have:=HM.out; omega,List.map_append]; rfl⟩
         case measure => simp [intOf]; omega
       ·have hrb:=(HBB.out.1 rfl).2
        have hRR:Hid (R = ([],21)):=by
         show _ = _
         have hst:=HST.out
         rw [if_neg (by simpa using hye),if_pos hrb] at hst
         rw [HR.out,hst,if_pos (by show (21:Int) ≠ 0; decide)]
        have hEs:=hEc.set 0 (.int .i64 21)
        have r1:=hEs.cell 0
        clear hye hrb HST HR
        go_upto_region 17 with fail
        go_quiet (fail)
        go_wp2_with fail
        go_ret2
        exact ⟨below_drewN (HLC.out.below.setCell (p:=⟨be,0,none⟩) HLC.out.ge.1 _) _, .inl ⟨by rw [hRR.out]; decide,by rw [hRR.out]; rfl⟩⟩
      ·have d0:(y.e != 0) = true:=by simpa using hye
       have hRR:Hid (R = ([],y.e)):=by
        show _ = _
        have hst:=HST.out
        rw [if_pos hye] at hst
        rw [HR.out,hst,if_pos hye]
       have HYE:=Lib.hid hye
       obtain rfl:b = false:=by
        cases b
        ·rfl
        ·exact absurd (HBB.out.1 rfl).1 hye
       clear hye HST HR
       go_upto_region 17 with fail
       go_quiet (fail)
       go_wp2_with fail
       go_ret2
       exact ⟨below_drewN HLC.out.below _, .inl ⟨by rw [hRR.out]; exact HYE.out,by rw [hRR.out]; rfl⟩⟩
  ·obtain rfl:N = k:=by omega
   have hrs:=HRS.out
   rw [Nat.sub_self] at hrs
   have hrs2:Tb.rows N [] p0 = (ps.map Prod.fst,p):=hrs.symm
   have hem:=emp_size' p.s
   have hE:Blk wr be 27 #[.int .i64 p.e]:=PS.E hLr.tp
   have hS:Blk wr w.heap.size 9 #[.string p.s]:=PS.S hLr.tp
   have r0:=hE.cell 0
   have s0:=hE.free 0
   have q0:=hS.cell 0
   have HLR:=Lib.hid hLr
   by_cases hpe0:p.e = 0
   ·have d0:(p.e == 0) = true:=by simpa using hpe0
    cases hz:p.s.toList.isEmpty
    ·have hz0 : ¬ p.s.size = 0:=by rw [hz] at hem; exact of_decide_eq_false hem.symm
     have hRR:Hid (R = ([],21)):=by
      show _ = _
      rw [HR.out,hrs2,if_neg (by simpa using hpe0),if_pos hz0]
     have hEs:=hE.set 0 (.int .i64 21)
     have r1:=hEs.cell 0
     clear hpe0 hem hz0 hpe HR HRS hrs hrs2
     go_upto_region 23 with fail
     go_quiet (fail)
     go_wp2_with fail
     go_ret2
     exact ⟨below_drewN (HLR.out.below.setCell (p:=⟨be,0,none⟩) HLR.out.ge.1 _) _, .inl ⟨by rw [hRR.out]; decide,by rw [hRR.out]; rfl⟩⟩
    ·have hz0:p.s.size = 0:=by rw [hz] at hem; exact of_decide_eq_true hem.symm
     have d1:(p.e != 0) = false:=by simpa using hpe0
     have hRR:Hid (R = (ps.map Prod.fst,0)):=by
      show _ = _
      rw [HR.out,hrs2,if_neg (by simpa using hpe0),if_neg (by simpa using hz0)]
     clear hpe0 hem hz0 hpe HR HRS hrs hrs2
     go_wp2_with fail
     go_ret2
     exact ⟨HLR.out.below, .inr ⟨by rw [hRR.out],B + 1,B,ps,rfl,by rw [hRR.out],HLR.out.tab.keep rfl rfl (fun b hb => ⟨hb.1,hb.2.1⟩) (fun _ _ => rfl)⟩⟩
   ·have d0:(p.e == 0) = false:=by simpa using hpe0
    have d1:(p.e != 0) = true:=by simpa using hpe0
    have hRR:Hid (R = ([],p.e)):=by
     show _ = _
     rw [HR.out,hrs2,if_pos hpe0]
    have HPE:=Lib.hid hpe0
    clear hpe0 hem hpe HR HRS hrs hrs2
    go_upto_region 23 with fail
    go_quiet (fail)
    go_wp2_with fail
    go_ret2
    exact ⟨below_drewN HLR.out.below _, .inl ⟨by rw [hRR.out]; exact HPE.out,by rw [hRR.out]; rfl⟩⟩
end Go.Proofs.YtpkijdkoiecpiaaGreatDoor
