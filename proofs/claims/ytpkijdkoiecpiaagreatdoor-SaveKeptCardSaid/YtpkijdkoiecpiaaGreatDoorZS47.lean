/-
  Parts of the proof: N4.
-/
import Derived.Deep.CutBlock
import Derived.Deep.RegionHeld3
import Derived.Test.YtpkijdkoiecpiaaGreatDoorZS1
import Derived.Test.YtpkijdkoiecpiaaGreatDoorZS12
import Derived.Test.YtpkijdkoiecpiaaGreatDoorZS43
namespace Go.Proofs.YtpkijdkoiecpiaaGreatDoor
open Go.RowKit
set_option linter.unusedVariables false
set_option linter.unusedSimpArgs false
theorem results_cell_row2N {P:Program} {fn:Func} {p q:Tmp} {ty:TypeId} (h:fn.results = #[.cell p ty, .tmp q]) (tmps:Array Value) (w:World) (g:Nat) (t:TypeId) (cs:Array Value) (fr:Nat × Nat) (d:TypeDesc)
  (hp:tmps.getD p undef = .pointer (some ⟨g,0,none⟩)) (hg:w.heap[g]? = some (.cells cs t fr))
  (hu:P.underlying ty = some d) (hd:(match d with | .struct _ | .array _ _ => true | _ => false) = true) (hi:(P.info? ty).map (·.size) = some cs.size) (u:Value) (hq:tmps.getD q undef = u) :
  (results fn tmps).run P w = .ok (.tuple #[.agg cs,u]) w:=by
 have hp':tmps[p]?.getD undef = .pointer (some ⟨g,0,none⟩):=by simpa using hp
 have hq':tmps[q]?.getD undef = u:=by simpa using hq
 simp [results,h,hp',hq',asAddr,run_loadVar_row w g t ty cs fr d hg hu hd hi]
theorem Sl.drop {w:World} {B n:Nat} {b off cap:Nat} {cs:List Value} (h:Sl w B 1 (.slice (some ⟨b,off,none⟩) n cap) n cs) (k:Nat) (hk:k ≤ n):Sl w B 1 (.slice (some ⟨b,off + k,none⟩) (n - k) (cap - k)) (n - k) (cs.drop k):=by
 obtain ⟨h1,a,cap',hv,h2,h3,h4⟩:=h
 simp only [Value.slice.injEq,true_and] at hv
 obtain ⟨rfl,rfl⟩:=hv
 refine ⟨by simp; omega,_,cap - k,rfl,by omega,by omega, ?_⟩
 rcases h4 with h4 | ⟨b',off',he,hb,hc⟩
 ·exact .inl (by omega)
 ·simp only [Option.some.injEq,Addr.mk.injEq,and_true] at he
  obtain ⟨rfl,rfl⟩:=he
  exact .inr ⟨b,off + k,rfl,hb,fun j hj => by rw [Nat.add_assoc,hc (k + j) (by omega),List.getElem?_drop]⟩
theorem pNd_short (j:Jb) (l:List ByteArray) (h:l.length < 2):pNd j l = none:=by
 match l,h with
 | [],_ => rfl
 | [a],_ => rfl
theorem Blk.set7N {w:World} {g:Nat} {t:TypeId} {cs:Array Value} (h:Blk w g t cs) (hc:cs.size = 7) (a0 a1 a2 a3 a4 a5 a6:Value):Blk (((((((w.setCell ⟨g,0,none⟩ a0).setCell ⟨g,1,none⟩ a1).setCell ⟨g,2,none⟩ a2).setCell ⟨g,3,none⟩ a3).setCell ⟨g,4,none⟩ a4).setCell ⟨g,5,none⟩ a5).setCell ⟨g,6,none⟩ a6) g t #[a0,a1,a2,a3,a4,a5,a6]:=by
 have h7:=((((((h.set 0 a0).set 1 a1).set 2 a2).set 3 a3).set 4 a4).set 5 a5).set 6 a6
 have e:∀ l:List Value,l.length = 7 → (((((((l.toArray.setIfInBounds 0 a0).setIfInBounds 1 a1).setIfInBounds 2 a2).setIfInBounds 3 a3).setIfInBounds 4 a4).setIfInBounds 5 a5).setIfInBounds 6 a6) = #[a0,a1,a2,a3,a4,a5,a6]:=fun l hl => by
  match l,hl with
  | [c0,c1,c2,c3,c4,c5,c6],_ => simp only [List.setIfInBounds_toArray,List.set_cons_zero,List.set_cons_succ]
 have e2:=e cs.toList (by rw [Array.length_toList,hc])
 rw [Array.toArray_toList] at e2
 rw [e2] at h7
 exact h7
theorem below_set7 {w W:World} {g:Nat} (h:Below w.heap.size w W) (hg:w.heap.size ≤ g) (a0 a1 a2 a3 a4 a5 a6:Value):Below w.heap.size w (((((((W.setCell ⟨g,0,none⟩ a0).setCell ⟨g,1,none⟩ a1).setCell ⟨g,2,none⟩ a2).setCell ⟨g,3,none⟩ a3).setCell ⟨g,4,none⟩ a4).setCell ⟨g,5,none⟩ a5).setCell ⟨g,6,none⟩ a6) :=
 ((((((h.setCell (p:=⟨g,0,none⟩) hg _).setCell (p:=⟨g,1,none⟩) hg _).setCell (p:=⟨g,2,none⟩) hg _).setCell (p:=⟨g,3,none⟩) hg _).setCell (p:=⟨g,4,none⟩) hg _).setCell (p:=⟨g,5,none⟩) hg _).setCell (p:=⟨g,6,none⟩) hg _
theorem KB.set7 {w0 w:World} {L:List (Nat × TypeId × Array Value)} {b:Nat} {t:TypeId} {cs:Array Value} (h:KB w0 w ((b,t,cs) :: L)) (hb:w0.heap.size ≤ b) (hne:∀ x ∈ L,x.1 ≠ b) (hc:cs.size = 7) (a0 a1 a2 a3 a4 a5 a6:Value) :
  KB w0 (((((((w.setCell ⟨b,0,none⟩ a0).setCell ⟨b,1,none⟩ a1).setCell ⟨b,2,none⟩ a2).setCell ⟨b,3,none⟩ a3).setCell ⟨b,4,none⟩ a4).setCell ⟨b,5,none⟩ a5).setCell ⟨b,6,none⟩ a6) ((b,t,#[a0,a1,a2,a3,a4,a5,a6]) :: L) :=
 ⟨below_set7 h.below hb _ _ _ _ _ _ _,fun x hx => by
  rcases List.mem_cons.1 hx with rfl | hx
  ·exact Blk.set7N h.hd hc _ _ _ _ _ _ _
  ·exact (((((((h.blk x (by simp [hx])).other (p:=⟨b,0,none⟩) (hne x hx) _).other (p:=⟨b,1,none⟩) (hne x hx) _).other (p:=⟨b,2,none⟩) (hne x hx) _).other (p:=⟨b,3,none⟩) (hne x hx) _).other (p:=⟨b,4,none⟩) (hne x hx) _).other (p:=⟨b,5,none⟩) (hne x hx) _).other (p:=⟨b,6,none⟩) (hne x hx) _⟩
def NodePost (j:Jb) (l:List ByteArray) (w:World) (e:Ending) (w':World):Prop :=
 Below w.heap.size w w' ∧ ∃ u k ia ic n m,e = .returned (.tuple #[.agg #[.string u, .int .u8 k, .slice ia n ic, .int .u8 0, .int .i64 0, .slice none 0 0, .int .i64 m], .bool (pNd j l).isSome]) ∧
  ∀ d,pNd j l = some d → d.uid = u ∧ d.kind = k ∧ d.n = m ∧ d.x = Ex.zero ∧ InsP w' (fun b => w.heap.size ≤ b ∧ b < w'.heap.size) d.ins (.slice ia n ic)
theorem post_none {j:Jb} {l:List ByteArray} {w w':World} (h:pNd j l = none) (hb:Below w.heap.size w w') (u k ia ic n m) :
  NodePost j l w (.returned (.tuple #[.agg #[.string u, .int .u8 k, .slice ia n ic, .int .u8 0, .int .i64 0, .slice none 0 0, .int .i64 m], .bool false])) w':=by
 refine ⟨hb,u,k,ia,ic,n,m,by rw [h]; rfl,fun d hd => ?_⟩
 rw [h] at hd; cases hd
structure NLoop (j:Jb) (w:World) (bx:Nat) (u:ByteArray) (kk mz:Int) (na:Option Addr) (ncap:Nat) (ws:List ByteArray) (i:Value) (wr:World):Prop where
 ex:∃ (q:Nat) (acc:List Int) (iv:Value),i = .int .i64 q ∧ q ≤ ws.length ∧ insGo j acc (ws.drop q) = insGo j [] ws ∧ acc.length = q ∧ wr.ownsRow (bx + 1) 3 1 iv acc.length (acc.map (Value.int .i64)) ∧
  KB w wr [(bx,181,#[.string u, .int .u8 kk,iv, .int .u8 0, .int .i64 0, .slice none 0 0, .int .i64 mz]),(w.heap.size + 1,181,#[.string { data:=#[] }, .int .u8 0, .slice none 0 0, .int .u8 0, .int .i64 0, .slice none 0 0, .int .i64 0]),(w.heap.size,26,#[.int .i64 j.par, .slice na j.nodes.length ncap])] ∧ bx < wr.heap.size
theorem own_otherN {w:World} {base:Nat} {e:TypeId} {size n:Nat} {v:Value} {xs:List Value} (h:w.ownsRow base e size v n xs) {p:Addr} (hp:p.block < base) (u:Value):(w.setCell p u).ownsRow base e size v n xs:=by
 obtain ⟨q1,q2⟩:=h
 refine ⟨q1,q2.imp id ?_⟩
 rintro ⟨g,cap,cur,hv,hb,hg,r⟩
 exact ⟨g,cap,cur,hv,hb,(heap_setCell_other w p g u (fun e => by subst e; omega)).trans hg,r⟩
theorem own_sliceN {w:World} {base:Nat} {e:TypeId} {size n:Nat} {v:Value} {xs:List Value} (h:w.ownsRow base e size v n xs):∃ a c,v = .slice a n c:=by
 rcases h.2 with ⟨rfl,h0⟩ | ⟨g,cap,cur,rfl,_⟩
 ·exact ⟨none,0,by rw [h0]⟩
 ·exact ⟨_,cap,rfl⟩
theorem InsP.monoN {w:World} {P Q:Nat → Prop} {l:List Int} {v:Value} (h:InsP w P l v) (hPQ:∀ b,P b → Q b):InsP w Q l v:=h.keep hPQ (fun _ _ => rfl)
theorem neB {n bx:Nat} {t1 t2:TypeId} {c1 c2:Array Value} (h:n + 1 < bx):∀ x ∈ [(n + 1,t1,c1),(n,t2,c2)],x.1 ≠ bx:=fun x hx => by
 simp only [List.mem_cons,List.not_mem_nil,or_false] at hx
 rcases hx with rfl | rfl <;> dsimp only <;> omega
theorem neG {n bx z:Nat} {t1 t2 t3:TypeId} {c1 c2 c3:Array Value} (h:n + 1 < bx) (hz:bx + 1 ≤ z):n ≤ z ∧ ∀ x ∈ [(bx,t3,c3),(n + 1,t1,c1),(n,t2,c2)],x.1 ≠ z:=⟨by omega,fun x hx => by
 simp only [List.mem_cons,List.not_mem_nil,or_false] at hx
 rcases hx with rfl | rfl | rfl <;> dsimp only <;> omega⟩
theorem KB.grownN {w0 w w':World} {L:List (Nat × TypeId × Array Value)} {row:Option Nat} (h:KB w0 w L) (hg:w.grownBy w' row) (hr:∀ q,row = some q → w0.heap.size ≤ q ∧ ∀ x ∈ L,x.1 ≠ q):KB w0 w' L :=
 ⟨h.below.grown hg h.below.size (fun q hq => (hr q hq).1),fun x hx => (h.blk x hx).grown hg (fun e => (hr _ e.symm).2 x hx rfl)⟩
set_option maxRecDepth 100000 in
set_option maxHeartbeats 4000000 in
theorem node_c (j:Jb) (l:List ByteArray) (vj vl:Value) (w:World) (hj:JbAt w w.heap.size vj j) (hl:Sl w w.heap.size 1 vl l.length (l.map Value.string)) (hu:∀ u ∈ l,u.size ≤ maxLen) (hn:l.length ≤ 100000) :
  Calls Tryz.prog 224 #[vj,vl] w (NodePost j l w):=by
 obtain ⟨nv,rfl,hns⟩:=hj
 obtain ⟨na,ncap,rfl,hnc,hnm⟩:=hns.slice
 obtain ⟨_,sa,scap,rfl,hsc,hsm,_⟩:=id hl
 have HNS:=Lib.hid hns
 have HL:=Lib.hid hl
 clear hns hl
 have hk0:=((KB.start w).push #[.int .i64 j.par, .slice na j.nodes.length ncap] 26).pushN (w.heap.size + 1) (by simp) #[.string { data:=#[] }, .int .u8 0, .slice none 0 0, .int .u8 0, .int .i64 0, .slice none 0 0, .int .i64 0] 181
 have HK0:=Lib.hid hk0
 clear hk0
 have hz0:((w.alloc (.cells #[.int .i64 j.par, .slice na j.nodes.length ncap] 26)).alloc (.cells #[.string { data:=#[] }, .int .u8 0, .slice none 0 0, .int .u8 0, .int .i64 0, .slice none 0 0, .int .i64 0] 181)).heap.size = w.heap.size + 2:=by simp
 go_enter Tryz.func224,Tryz.ntmps224
 go_upto_region 1 with fail
 generalize World.alloc _ _ = W0 at *
 go_upto_region 2 with (go_at_call 255; refine (kwords_c _).mono ?_; rintro e w1 ⟨rfl,hb1⟩)
 have hk1:=(HK0.out.keep hb1).pushN w1.heap.size rfl #[.string { data:=#[] }, .string { data:=#[115,111,117,114,99,101] }, .string { data:=#[109,97,112] }, .string { data:=#[102,105,108,116,101,114] }, .string { data:=#[102,108,97,116] }, .string { data:=#[107,101,121] }, .string { data:=#[114,101,100,117,99,101] }, .string { data:=#[119,105,110,100,111,119] }, .string { data:=#[117,110,105,111,110] }, .string { data:=#[115,105,110,107] }] 338
 have HK1:=Lib.hid hk1
 have hz1:w.heap.size + 2 ≤ w1.heap.size:=by have:=hb1.size; omega
 have hz1':(w1.alloc (.cells #[.string { data:=#[] }, .string { data:=#[115,111,117,114,99,101] }, .string { data:=#[109,97,112] }, .string { data:=#[102,105,108,116,101,114] }, .string { data:=#[102,108,97,116] }, .string { data:=#[107,101,121] }, .string { data:=#[114,101,100,117,99,101] }, .string { data:=#[119,105,110,100,111,119] }, .string { data:=#[117,110,105,111,110] }, .string { data:=#[115,105,110,107] }] 338)).heap.size = w1.heap.size + 1:=by simp
 clear hk1 hb1 HK0
 generalize World.alloc w1 _ = W1 at *
 generalize w1.heap.size = bw at *
 have hsz:W0.heap.size ≤ bw:=by omega
 generalize hN:l.length = n at *
 have r0:=HK1.out.tl.hd.cell 0
 have r1:=HK1.out.tl.hd.cell 1
 have r2:=HK1.out.tl.hd.cell 2
 have r3:=HK1.out.tl.hd.cell 3
 have r4:=HK1.out.tl.hd.cell 4
 have r5:=HK1.out.tl.hd.cell 5
 have r6:=HK1.out.tl.hd.cell 6
 have q0:=HK1.out.tl.hd.free 0
 have q1:=HK1.out.tl.hd.free 1
 have q2:=HK1.out.tl.hd.free 2
 have q3:=HK1.out.tl.hd.free 3
 have q4:=HK1.out.tl.hd.free 4
 have q5:=HK1.out.tl.hd.free 5
 have q6:=HK1.out.tl.hd.free 6
 by_cases h2:n < 2
 ·have h2':(n:Int) < 2:=by omega
  have HP:=Lib.hid (pNd_short j l (by omega))
  go_wp2
  refine bodyPost_ret (v := .tuple #[.agg #[_,_,_,_,_,_,_], .bool false]) (results_cell_row2N rfl _ _ (w.heap.size + 1) 181 _ (0,0) _ rfl (Blk.set7N HK1.out.tl.hd rfl _ _ _ _ _ _ _) Tryz.underlying181 rfl ?_ (.bool false) rfl) rfl (post_none HP.out (below_set7 HK1.out.below (by omega) _ _ _ _ _ _ _) _ _ _ _ _ _)
  kernel_rfl
 ·have h2' : ¬ (n:Int) < 2:=by omega
  clear r0 r1 r2 r3 r4 r5 r6 q0 q1 q2 q3 q4 q5 q6
  obtain ⟨u,k,r,rfl⟩:∃ u k r,l = u :: k :: r:=by
   match l,hN with
   | [],h => simp at h; omega
   | [a],h => simp at h; omega
   | a :: b :: c,_ => exact ⟨a,b,c,rfl⟩
  have hn0:0 < n:=by omega
  have hn1:(1:Int) < (n:Int):=by omega
  have hSl:=HL.out.below HK1.out.below
  obtain ⟨sb,so,sc,e1,hsb,hl0,c0⟩:=hSl.str 0 (by omega)
  obtain ⟨_,_,_,e2,_,hl1,c1⟩:=hSl.str 1 (by omega)
  simp only [Value.slice.injEq,true_and] at e1
  obtain ⟨rfl,rfl⟩:=e1
  simp only [Value.slice.injEq,true_and,Option.some.injEq,Addr.mk.injEq,and_true] at e2
  obtain ⟨⟨rfl,rfl⟩,rfl⟩:=e2
  rw [Nat.add_zero] at c0
  simp only [List.getElem_cons_zero,List.getElem_cons_succ] at c0 c1
  have hWd:Sl W1 W1.heap.size 1 (.slice (some ⟨bw,0,none⟩) 10 10) 10 (wordL.map Value.string):=by
   refine ⟨rfl,some ⟨bw,0,none⟩,10,rfl,Nat.le_refl _,by unfold maxLen; omega, .inr ⟨bw,0,rfl,by omega,fun q hq => ?_⟩⟩
   rw [Nat.zero_add,HK1.out.hd.cell q, ← Array.getElem?_toList]
   rfl
  have HWD:Hid (Sl W1.drew W1.heap.size 1 (.slice (some ⟨bw,0,none⟩) 10 10) 10 (wordL.map Value.string)):=hWd
  have HWE:Hid (Sl (W1.alloc (.cells #[.string { data:=#[] }, .int .u8 0, .slice none 0 0, .int .u8 0, .int .i64 0, .slice none 0 0, .int .i64 0] 181)).drew W1.heap.size 1 (.slice (some ⟨bw,0,none⟩) 10 10) 10 (wordL.map Value.string)):=hWd.below ((Below.refl W1.heap.size W1).alloc (Nat.le_refl _) _).drew
  have HKO:=kindOf_le k
  have HKE:Hid (kindOf k = max (idxZ (fun y => decide (k = y)) wordL 0) 0):=rfl
  clear hSl hl0 hl1 hWd
  go_upto_region 4 with fail
  go_cut [7] (fun s wx => ∃ bx,s = .pointer (some ⟨bx,0,none⟩) ∧ bw < bx ∧ KB w wx [(bx,181,#[.string u, .int .u8 (kindOf k), .slice none 0 0, .int .u8 0, .int .i64 0, .slice none 0 0, .int .i64 0]),(w.heap.size + 1,181,#[.string { data:=#[] }, .int .u8 0, .slice none 0 0, .int .u8 0, .int .i64 0, .slice none 0 0, .int .i64 0]),(w.heap.size,26,#[.int .i64 j.par, .slice na j.nodes.length ncap])] ∧ bx < wx.heap.size)
  case first =>
   have hsbW:sb < W1.heap.size:=by omega
   have hS0:Below W1.heap.size W1 W1.drew:=(Below.refl _ _).drew
   have HK2:=Lib.hid HK1.out.tl.drew
   obtain ⟨z,hz⟩:∃ z,idxZ (fun y => decide (k = y)) wordL 0 = z:=⟨_,rfl⟩
   have HIX:=Lib.hid hz
   have hzb:=idxZ_lt (fun y => decide (k = y)) wordL 0
   rw [hz,show wordL.length = 10 from rfl] at hzb
   rw [hz] at HKE
   have HZ1:=Lib.hid hz1'
   clear hz hz1'
   by_cases hz0:z < 0
   ·obtain rfl:z = -1:=by have:=(idxZ_le (fun y => decide (k = y)) wordL 0).1; rw [HIX.out] at this; omega
    have hw:IntKind.u8.wrap (max (-1) 0) = kindOf k:=by rw [HKE.out]; decide
    refine wp_region_held_drew (S:=(fun w' => Below W1.heap.size W1 w')) (by kernel_rfl) ?_ (fun hHeld => ?_)
    ·exact hS0
    refine wpAnyH_take (i:=0) (oi:=_) (v := ?_) rfl (by kernel_rfl) (by kernel_rfl) (by kernel_rfl) (fun _ _ _ h => h) (Or.inl ⟨by rfl, ?_⟩) (by assumption) ?_
    rotate_left
    ·intro w' hSw
     (try dsimp only at hSw)
     have d0:=(hSw.cell (p:=⟨sb,so,none⟩) hsbW).trans c0
     have d1:=(hSw.cell (p:=⟨sb,so + 1,none⟩) hsbW).trans c1
     clear hSw
     go_simp
     try with_reducible rfl
    try simp only [Act.put,List.getElem_toArray,List.getElem_cons_zero,List.setIfInBounds_toArray,List.set_cons_zero,List.set_cons_succ]
    refine wpAnyH_take (i:=1) (oi:=_) (v := ?_) rfl (by kernel_rfl) (by kernel_rfl) (by kernel_rfl) (fun _ _ _ h => h) (Or.inl ⟨by rfl, ?_⟩) (by assumption) ?_
    rotate_left
    ·intro w' hSw
     (try dsimp only at hSw)
     have d0:=(hSw.cell (p:=⟨sb,so,none⟩) hsbW).trans c0
     have d1:=(hSw.cell (p:=⟨sb,so + 1,none⟩) hsbW).trans c1
     clear hSw
     go_simp
     try with_reducible rfl
    try simp only [Act.put,List.getElem_toArray,List.getElem_cons_zero,List.getElem_cons_succ,List.setIfInBounds_toArray,List.set_cons_zero,List.set_cons_succ]
    refine wpAnyH_take (i:=2) (oi:=_) (v := ?_) rfl (by kernel_rfl) (by kernel_rfl) (by kernel_rfl) (fun _ _ _ h => h) (Or.inl ⟨by rfl, ?_⟩) (by assumption) ?_
    rotate_left
    ·intro w' hSw
     (try dsimp only at hSw)
     have d0:=(hSw.cell (p:=⟨sb,so,none⟩) hsbW).trans c0
     have d1:=(hSw.cell (p:=⟨sb,so + 1,none⟩) hsbW).trans c1
     clear hSw
     go_simp
     try with_reducible rfl
    try simp only [Act.put,List.getElem_toArray,List.getElem_cons_zero,List.getElem_cons_succ,List.setIfInBounds_toArray,List.set_cons_zero,List.set_cons_succ]
    refine wpAnyH_take (i:=3) (oi:=_) (v := ?_) rfl (by kernel_rfl) (by kernel_rfl) (by kernel_rfl) (fun _ _ _ h => h) (Or.inl ⟨by rfl, ?_⟩) (by assumption) ?_
    rotate_left
    ·intro w' hSw
     (try dsimp only at hSw)
     have d0:=(hSw.cell (p:=⟨sb,so,none⟩) hsbW).trans c0
     have d1:=(hSw.cell (p:=⟨sb,so + 1,none⟩) hsbW).trans c1
     clear hSw
     go_simp
     try with_reducible rfl
    try simp only [Act.put,List.getElem_toArray,List.getElem_cons_zero,List.getElem_cons_succ,List.setIfInBounds_toArray,List.set_cons_zero,List.set_cons_succ]
    refine wpAnyH_take (i:=4) (oi:=_) (v := ?_) rfl (by kernel_rfl) (by kernel_rfl) (by kernel_rfl) (fun _ _ _ h => h) (Or.inl ⟨by rfl, ?_⟩) (by assumption) ?_
    rotate_left
    ·intro w' hSw
     (try dsimp only at hSw)
     have d0:=(hSw.cell (p:=⟨sb,so,none⟩) hsbW).trans c0
     have d1:=(hSw.cell (p:=⟨sb,so + 1,none⟩) hsbW).trans c1
     clear hSw
     go_simp
     try with_reducible rfl
    try simp only [Act.put,List.getElem_toArray,List.getElem_cons_zero,List.getElem_cons_succ,List.setIfInBounds_toArray,List.set_cons_zero,List.set_cons_succ]
    refine wpAnyH_take (i:=5) (oi:=_) (v := ?_) rfl (by kernel_rfl) (by kernel_rfl) (by kernel_rfl) (fun _ _ _ h => h) (Or.inl ⟨by rfl, ?_⟩) (by assumption) ?_
    rotate_left
    ·intro w' hSw
     (try dsimp only at hSw)
     have d0:=(hSw.cell (p:=⟨sb,so,none⟩) hsbW).trans c0
     have d1:=(hSw.cell (p:=⟨sb,so + 1,none⟩) hsbW).trans c1
     clear hSw
     go_simp
     try with_reducible rfl
    try simp only [Act.put,List.getElem_toArray,List.getElem_cons_zero,List.getElem_cons_succ,List.setIfInBounds_toArray,List.set_cons_zero,List.set_cons_succ]
    refine wpAnyH_take (i:=6) (oi:=_) (v := ?_) rfl (by kernel_rfl) (by kernel_rfl) (by kernel_rfl) (fun _ _ _ h => h) (Or.inl ⟨by rfl, ?_⟩) (by assumption) ?_
    rotate_left
    ·intro w' hSw
     (try dsimp only at hSw)
     have d0:=(hSw.cell (p:=⟨sb,so,none⟩) hsbW).trans c0
     have d1:=(hSw.cell (p:=⟨sb,so + 1,none⟩) hsbW).trans c1
     clear hSw
     go_simp
     try with_reducible rfl
    try simp only [Act.put,List.getElem_toArray,List.getElem_cons_zero,List.getElem_cons_succ,List.setIfInBounds_toArray,List.set_cons_zero,List.set_cons_succ]
    refine wpAnyH_ready (rs:=[7,11]) (by kernel_rfl) (by simp) ?_
    refine AllReadyH.cons rfl (fun K hK => ?_) (AllReadyH.cons rfl (fun K hK => ?_) (AllReadyH.nil))
    ·go_simp
     go_at_call 217
     refine (IndexStr_c wordL 10 _ _ _ _ HWD.out rfl).mono ?_
     rintro e w2 ⟨rfl,rfl⟩
     rw [HIX.out]
     refine hK.out _ _ ?_ (fun hHeld => ?_)
     ·exact hS0
     clear hK K
     try simp only [Act.put,List.getElem_toArray,List.getElem_cons_zero,List.getElem_cons_succ,List.setIfInBounds_toArray,List.set_cons_zero,List.set_cons_succ]
     refine wpAnyH_take (i:=8) (oi:=_) (v := ?_) rfl (by kernel_rfl) (by kernel_rfl) (by kernel_rfl) (fun _ _ _ h => h) (Or.inl ⟨by rfl, ?_⟩) (by assumption) ?_
     rotate_left
     ·intro w' hSw
      (try dsimp only at hSw)
      have d0:=(hSw.cell (p:=⟨sb,so,none⟩) hsbW).trans c0
      have d1:=(hSw.cell (p:=⟨sb,so + 1,none⟩) hsbW).trans c1
      clear hSw
      go_simp
      try with_reducible rfl
     try simp only [Act.put,List.getElem_toArray,List.getElem_cons_zero,List.getElem_cons_succ,List.setIfInBounds_toArray,List.set_cons_zero,List.set_cons_succ]
     refine wpAnyH_take (i:=9) (oi:=_) (v := ?_) rfl (by kernel_rfl) (by kernel_rfl) (by kernel_rfl) (fun _ _ _ h => h) (Or.inl ⟨by rfl, ?_⟩) (by assumption) ?_
     rotate_left
     ·intro w' hSw
      (try dsimp only at hSw)
      have d0:=(hSw.cell (p:=⟨sb,so,none⟩) hsbW).trans c0
      have d1:=(hSw.cell (p:=⟨sb,so + 1,none⟩) hsbW).trans c1
      clear hSw
      go_simp
      try with_reducible rfl
     try simp only [Act.put,List.getElem_toArray,List.getElem_cons_zero,List.getElem_cons_succ,List.setIfInBounds_toArray,List.set_cons_zero,List.set_cons_succ]
     refine wpAnyH_take (i:=10) (oi:=_) (v := ?_) rfl (by kernel_rfl) (by kernel_rfl) (by kernel_rfl) (fun _ _ _ h => h) (Or.inl ⟨by rfl, ?_⟩) (by assumption) ?_
     rotate_left
     ·intro w' hSw
      (try dsimp only at hSw)
      have d0:=(hSw.cell (p:=⟨sb,so,none⟩) hsbW).trans c0
      have d1:=(hSw.cell (p:=⟨sb,so + 1,none⟩) hsbW).trans c1
      clear hSw
      go_simp
      try with_reducible rfl
     try simp only [Act.put,List.getElem_toArray,List.getElem_cons_zero,List.getElem_cons_succ,List.setIfInBounds_toArray,List.set_cons_zero,List.set_cons_succ]
     refine wpAnyH_ready (rs:=[11]) (by kernel_rfl) (by simp) ?_
     refine AllReadyH.cons rfl (fun K hK => ?_) AllReadyH.nil
     go_simp
     have hka:=HK2.out.pushN W1.drew.heap.size rfl #[.string { data:=#[] }, .int .u8 0, .slice none 0 0, .int .u8 0, .int .i64 0, .slice none 0 0, .int .i64 0] 181
     have hsa:Below W1.heap.size W1 (W1.drew.alloc (.cells #[.string { data:=#[] }, .int .u8 0, .slice none 0 0, .int .u8 0, .int .i64 0, .slice none 0 0, .int .i64 0] 181)):=hS0.alloc (Nat.le_refl _) _
     refine hK.out _ _ ?_ (fun hHeld => ?_)
     ·exact hsa
     clear hK K
     try simp only [Act.put,List.getElem_toArray,List.getElem_cons_zero,List.getElem_cons_succ,List.setIfInBounds_toArray,List.set_cons_zero,List.set_cons_succ]
     refine wpAnyH_ready (rs:=[12]) (by kernel_rfl) (by simp) ?_
     refine AllReadyH.cons rfl (fun K hK => ?_) AllReadyH.nil
     go_simp
     refine hK.out _ _ ?_ (fun hHeld => ?_)
     ·exact hS0.alloc (Nat.le_refl _) _
     clear hK K
     try simp only [Act.put,List.getElem_toArray,List.getElem_cons_zero,List.getElem_cons_succ,List.setIfInBounds_toArray,List.set_cons_zero,List.set_cons_succ]
     refine wpAnyH_done (by kernel_rfl) ?_ _
     go_wp2_with fail
     go_meet
     refine ⟨W1.heap.size,rfl,by have:=HZ1.out; omega, ?_,by simp⟩
     try rw [hw]
     exact (HK1.out.tl.pushN W1.heap.size rfl _ _).drew
    ·go_simp
     have hka:=HK2.out.pushN W1.drew.heap.size rfl #[.string { data:=#[] }, .int .u8 0, .slice none 0 0, .int .u8 0, .int .i64 0, .slice none 0 0, .int .i64 0] 181
     have hsa:Below W1.heap.size W1 (W1.drew.alloc (.cells #[.string { data:=#[] }, .int .u8 0, .slice none 0 0, .int .u8 0, .int .i64 0, .slice none 0 0, .int .i64 0] 181)):=hS0.alloc (Nat.le_refl _) _
     refine hK.out _ _ ?_ (fun hHeld => ?_)
     ·exact hsa
     clear hK K
     try simp only [Act.put,List.getElem_toArray,List.getElem_cons_zero,List.getElem_cons_succ,List.setIfInBounds_toArray,List.set_cons_zero,List.set_cons_succ]
     refine wpAnyH_ready (rs:=[7]) (by kernel_rfl) (by simp) ?_
     refine AllReadyH.cons rfl (fun K hK => ?_) AllReadyH.nil
     go_simp
     go_at_call 217
     refine (IndexStr_c wordL 10 _ _ _ _ (HWE.out) rfl).mono ?_
     rintro e w2 ⟨rfl,rfl⟩
     rw [HIX.out]
     refine hK.out _ _ ?_ (fun hHeld => ?_)
     ·exact hsa
     clear hK K
     try simp only [Act.put,List.getElem_toArray,List.getElem_cons_zero,List.getElem_cons_succ,List.setIfInBounds_toArray,List.set_cons_zero,List.set_cons_succ]
     refine wpAnyH_take (i:=8) (oi:=_) (v := ?_) rfl (by kernel_rfl) (by kernel_rfl) (by kernel_rfl) (fun _ _ _ h => h) (Or.inl ⟨by rfl, ?_⟩) (by assumption) ?_
     rotate_left
     ·intro w' hSw
      (try dsimp only at hSw)
      have d0:=(hSw.cell (p:=⟨sb,so,none⟩) hsbW).trans c0
      have d1:=(hSw.cell (p:=⟨sb,so + 1,none⟩) hsbW).trans c1
      clear hSw
      go_simp
      try with_reducible rfl
     try simp only [Act.put,List.getElem_toArray,List.getElem_cons_zero,List.getElem_cons_succ,List.setIfInBounds_toArray,List.set_cons_zero,List.set_cons_succ]
     refine wpAnyH_take (i:=9) (oi:=_) (v := ?_) rfl (by kernel_rfl) (by kernel_rfl) (by kernel_rfl) (fun _ _ _ h => h) (Or.inl ⟨by rfl, ?_⟩) (by assumption) ?_
     rotate_left
     ·intro w' hSw
      (try dsimp only at hSw)
      have d0:=(hSw.cell (p:=⟨sb,so,none⟩) hsbW).trans c0
      have d1:=(hSw.cell (p:=⟨sb,so + 1,none⟩) hsbW).trans c1
      clear hSw
      go_simp
      try with_reducible rfl
     try simp only [Act.put,List.getElem_toArray,List.getElem_cons_zero,List.getElem_cons_succ,List.setIfInBounds_toArray,List.set_cons_zero,List.set_cons_succ]
     refine wpAnyH_take (i:=10) (oi:=_) (v := ?_) rfl (by kernel_rfl) (by kernel_rfl) (by kernel_rfl) (fun _ _ _ h => h) (Or.inl ⟨by rfl, ?_⟩) (by assumption) ?_
     rotate_left
     ·intro w' hSw
      (try dsimp only at hSw)
      have d0:=(hSw.cell (p:=⟨sb,so,none⟩) hsbW).trans c0
      have d1:=(hSw.cell (p:=⟨sb,so + 1,none⟩) hsbW).trans c1
      clear hSw
      go_simp
      try with_reducible rfl
     try simp only [Act.put,List.getElem_toArray,List.getElem_cons_zero,List.getElem_cons_succ,List.setIfInBounds_toArray,List.set_cons_zero,List.set_cons_succ]
     refine wpAnyH_ready (rs:=[12]) (by kernel_rfl) (by simp) ?_
     refine AllReadyH.cons rfl (fun K hK => ?_) AllReadyH.nil
     go_simp
     refine hK.out _ _ ?_ (fun hHeld => ?_)
     ·exact hS0.alloc (Nat.le_refl _) _
     clear hK K
     try simp only [Act.put,List.getElem_toArray,List.getElem_cons_zero,List.getElem_cons_succ,List.setIfInBounds_toArray,List.set_cons_zero,List.set_cons_succ]
     refine wpAnyH_done (by kernel_rfl) ?_ _
     go_wp2_with fail
     go_meet
     refine ⟨W1.heap.size,rfl,by have:=HZ1.out; omega, ?_,by simp⟩
     try rw [hw]
     exact (HK1.out.tl.pushN W1.heap.size rfl _ _).drew
   ·obtain ⟨zn,rfl⟩:∃ m:Nat,z = (m:Int):=⟨z.toNat,by omega⟩
    have hzn:zn < 10:=by omega
    have hw:IntKind.u8.wrap (zn:Int) = kindOf k:=by
     rw [HKE.out,Int.max_eq_left (by omega)]
     have:∀ m:Nat,m < 10 → IntKind.u8.wrap (m:Int) = (m:Int):=by decide
     exact this zn hzn
    refine wp_region_held_drew (S:=(fun w' => Below W1.heap.size W1 w')) (by kernel_rfl) ?_ (fun hHeld => ?_)
    ·exact hS0
    refine wpAnyH_take (i:=0) (oi:=_) (v := ?_) rfl (by kernel_rfl) (by kernel_rfl) (by kernel_rfl) (fun _ _ _ h => h) (Or.inl ⟨by rfl, ?_⟩) (by assumption) ?_
    rotate_left
    ·intro w' hSw
     (try dsimp only at hSw)
     have d0:=(hSw.cell (p:=⟨sb,so,none⟩) hsbW).trans c0
     have d1:=(hSw.cell (p:=⟨sb,so + 1,none⟩) hsbW).trans c1
     clear hSw
     go_simp
     try with_reducible rfl
    try simp only [Act.put,List.getElem_toArray,List.getElem_cons_zero,List.setIfInBounds_toArray,List.set_cons_zero,List.set_cons_succ]
    refine wpAnyH_take (i:=1) (oi:=_) (v := ?_) rfl (by kernel_rfl) (by kernel_rfl) (by kernel_rfl) (fun _ _ _ h => h) (Or.inl ⟨by rfl, ?_⟩) (by assumption) ?_
    rotate_left
    ·intro w' hSw
     (try dsimp only at hSw)
     have d0:=(hSw.cell (p:=⟨sb,so,none⟩) hsbW).trans c0
     have d1:=(hSw.cell (p:=⟨sb,so + 1,none⟩) hsbW).trans c1
     clear hSw
     go_simp
     try with_reducible rfl
    try simp only [Act.put,List.getElem_toArray,List.getElem_cons_zero,List.getElem_cons_succ,List.setIfInBounds_toArray,List.set_cons_zero,List.set_cons_succ]
    refine wpAnyH_take (i:=2) (oi:=_) (v := ?_) rfl (by kernel_rfl) (by kernel_rfl) (by kernel_rfl) (fun _ _ _ h => h) (Or.inl ⟨by rfl, ?_⟩) (by assumption) ?_
    rotate_left
    ·intro w' hSw
     (try dsimp only at hSw)
     have d0:=(hSw.cell (p:=⟨sb,so,none⟩) hsbW).trans c0
     have d1:=(hSw.cell (p:=⟨sb,so + 1,none⟩) hsbW).trans c1
     clear hSw
     go_simp
     try with_reducible rfl
    try simp only [Act.put,List.getElem_toArray,List.getElem_cons_zero,List.getElem_cons_succ,List.setIfInBounds_toArray,List.set_cons_zero,List.set_cons_succ]
    refine wpAnyH_take (i:=3) (oi:=_) (v := ?_) rfl (by kernel_rfl) (by kernel_rfl) (by kernel_rfl) (fun _ _ _ h => h) (Or.inl ⟨by rfl, ?_⟩) (by assumption) ?_
    rotate_left
    ·intro w' hSw
     (try dsimp only at hSw)
     have d0:=(hSw.cell (p:=⟨sb,so,none⟩) hsbW).trans c0
     have d1:=(hSw.cell (p:=⟨sb,so + 1,none⟩) hsbW).trans c1
     clear hSw
     go_simp
     try with_reducible rfl
    try simp only [Act.put,List.getElem_toArray,List.getElem_cons_zero,List.getElem_cons_succ,List.setIfInBounds_toArray,List.set_cons_zero,List.set_cons_succ]
    refine wpAnyH_take (i:=4) (oi:=_) (v := ?_) rfl (by kernel_rfl) (by kernel_rfl) (by kernel_rfl) (fun _ _ _ h => h) (Or.inl ⟨by rfl, ?_⟩) (by assumption) ?_
    rotate_left
    ·intro w' hSw
     (try dsimp only at hSw)
     have d0:=(hSw.cell (p:=⟨sb,so,none⟩) hsbW).trans c0
     have d1:=(hSw.cell (p:=⟨sb,so + 1,none⟩) hsbW).trans c1
     clear hSw
     go_simp
     try with_reducible rfl
    try simp only [Act.put,List.getElem_toArray,List.getElem_cons_zero,List.getElem_cons_succ,List.setIfInBounds_toArray,List.set_cons_zero,List.set_cons_succ]
    refine wpAnyH_take (i:=5) (oi:=_) (v := ?_) rfl (by kernel_rfl) (by kernel_rfl) (by kernel_rfl) (fun _ _ _ h => h) (Or.inl ⟨by rfl, ?_⟩) (by assumption) ?_
    rotate_left
    ·intro w' hSw
     (try dsimp only at hSw)
     have d0:=(hSw.cell (p:=⟨sb,so,none⟩) hsbW).trans c0
     have d1:=(hSw.cell (p:=⟨sb,so + 1,none⟩) hsbW).trans c1
     clear hSw
     go_simp
     try with_reducible rfl
    try simp only [Act.put,List.getElem_toArray,List.getElem_cons_zero,List.getElem_cons_succ,List.setIfInBounds_toArray,List.set_cons_zero,List.set_cons_succ]
    refine wpAnyH_take (i:=6) (oi:=_) (v := ?_) rfl (by kernel_rfl) (by kernel_rfl) (by kernel_rfl) (fun _ _ _ h => h) (Or.inl ⟨by rfl, ?_⟩) (by assumption) ?_
    rotate_left
    ·intro w' hSw
     (try dsimp only at hSw)
     have d0:=(hSw.cell (p:=⟨sb,so,none⟩) hsbW).trans c0
     have d1:=(hSw.cell (p:=⟨sb,so + 1,none⟩) hsbW).trans c1
     clear hSw
     go_simp
     try with_reducible rfl
    try simp only [Act.put,List.getElem_toArray,List.getElem_cons_zero,List.getElem_cons_succ,List.setIfInBounds_toArray,List.set_cons_zero,List.set_cons_succ]
    refine wpAnyH_ready (rs:=[7,11]) (by kernel_rfl) (by simp) ?_
    refine AllReadyH.cons rfl (fun K hK => ?_) (AllReadyH.cons rfl (fun K hK => ?_) (AllReadyH.nil))
    ·go_simp
     go_at_call 217
     refine (IndexStr_c wordL 10 _ _ _ _ HWD.out rfl).mono ?_
     rintro e w2 ⟨rfl,rfl⟩
     rw [HIX.out]
     refine hK.out _ _ ?_ (fun hHeld => ?_)
     ·exact hS0
     clear hK K
     try simp only [Act.put,List.getElem_toArray,List.getElem_cons_zero,List.getElem_cons_succ,List.setIfInBounds_toArray,List.set_cons_zero,List.set_cons_succ]
     refine wpAnyH_take (i:=8) (oi:=_) (v := ?_) rfl (by kernel_rfl) (by kernel_rfl) (by kernel_rfl) (fun _ _ _ h => h) (Or.inl ⟨by rfl, ?_⟩) (by assumption) ?_
     rotate_left
     ·intro w' hSw
      (try dsimp only at hSw)
      have d0:=(hSw.cell (p:=⟨sb,so,none⟩) hsbW).trans c0
      have d1:=(hSw.cell (p:=⟨sb,so + 1,none⟩) hsbW).trans c1
      clear hSw
      go_simp
      try with_reducible rfl
     try simp only [Act.put,List.getElem_toArray,List.getElem_cons_zero,List.getElem_cons_succ,List.setIfInBounds_toArray,List.set_cons_zero,List.set_cons_succ]
     refine wpAnyH_take (i:=9) (oi:=_) (v := ?_) rfl (by kernel_rfl) (by kernel_rfl) (by kernel_rfl) (fun _ _ _ h => h) (Or.inl ⟨by rfl, ?_⟩) (by assumption) ?_
     rotate_left
     ·intro w' hSw
      (try dsimp only at hSw)
      have d0:=(hSw.cell (p:=⟨sb,so,none⟩) hsbW).trans c0
      have d1:=(hSw.cell (p:=⟨sb,so + 1,none⟩) hsbW).trans c1
      clear hSw
      go_simp
      try with_reducible rfl
     try simp only [Act.put,List.getElem_toArray,List.getElem_cons_zero,List.getElem_cons_succ,List.setIfInBounds_toArray,List.set_cons_zero,List.set_cons_succ]
     refine wpAnyH_take (i:=10) (oi:=_) (v := ?_) rfl (by kernel_rfl) (by kernel_rfl) (by kernel_rfl) (fun _ _ _ h => h) (Or.inl ⟨by rfl, ?_⟩) (by assumption) ?_
     rotate_left
     ·intro w' hSw
      (try dsimp only at hSw)
      have d0:=(hSw.cell (p:=⟨sb,so,none⟩) hsbW).trans c0
      have d1:=(hSw.cell (p:=⟨sb,so + 1,none⟩) hsbW).trans c1
      clear hSw
      go_simp
      try with_reducible rfl
     try simp only [Act.put,List.getElem_toArray,List.getElem_cons_zero,List.getElem_cons_succ,List.setIfInBounds_toArray,List.set_cons_zero,List.set_cons_succ]
     refine wpAnyH_ready (rs:=[11]) (by kernel_rfl) (by simp) ?_
     refine AllReadyH.cons rfl (fun K hK => ?_) AllReadyH.nil
     go_simp
     have hka:=HK2.out.pushN W1.drew.heap.size rfl #[.string { data:=#[] }, .int .u8 0, .slice none 0 0, .int .u8 0, .int .i64 0, .slice none 0 0, .int .i64 0] 181
     have hsa:Below W1.heap.size W1 (W1.drew.alloc (.cells #[.string { data:=#[] }, .int .u8 0, .slice none 0 0, .int .u8 0, .int .i64 0, .slice none 0 0, .int .i64 0] 181)):=hS0.alloc (Nat.le_refl _) _
     refine hK.out _ _ ?_ (fun hHeld => ?_)
     ·exact hsa
     clear hK K
     try simp only [Act.put,List.getElem_toArray,List.getElem_cons_zero,List.getElem_cons_succ,List.setIfInBounds_toArray,List.set_cons_zero,List.set_cons_succ]
     refine wpAnyH_ready (rs:=[12]) (by kernel_rfl) (by simp) ?_
     refine AllReadyH.cons rfl (fun K hK => ?_) AllReadyH.nil
     go_simp
     refine hK.out _ _ ?_ (fun hHeld => ?_)
     ·exact hS0.alloc (Nat.le_refl _) _
     clear hK K
     try simp only [Act.put,List.getElem_toArray,List.getElem_cons_zero,List.getElem_cons_succ,List.setIfInBounds_toArray,List.set_cons_zero,List.set_cons_succ]
     refine wpAnyH_done (by kernel_rfl) ?_ _
     go_wp2_with fail
     go_meet
     refine ⟨W1.heap.size,rfl,by have:=HZ1.out; omega, ?_,by simp⟩
     try rw [hw]
     exact (HK1.out.tl.pushN W1.heap.size rfl _ _).drew
    ·go_simp
     have hka:=HK2.out.pushN W1.drew.heap.size rfl #[.string { data:=#[] }, .int .u8 0, .slice none 0 0, .int .u8 0, .int .i64 0, .slice none 0 0, .int .i64 0] 181
     have hsa:Below W1.heap.size W1 (W1.drew.alloc (.cells #[.string { data:=#[] }, .int .u8 0, .slice none 0 0, .int .u8 0, .int .i64 0, .slice none 0 0, .int .i64 0] 181)):=hS0.alloc (Nat.le_refl _) _
     refine hK.out _ _ ?_ (fun hHeld => ?_)
     ·exact hsa
     clear hK K
     try simp only [Act.put,List.getElem_toArray,List.getElem_cons_zero,List.getElem_cons_succ,List.setIfInBounds_toArray,List.set_cons_zero,List.set_cons_succ]
     refine wpAnyH_ready (rs:=[7]) (by kernel_rfl) (by simp) ?_
     refine AllReadyH.cons rfl (fun K hK => ?_) AllReadyH.nil
     go_simp
     go_at_call 217
     refine (IndexStr_c wordL 10 _ _ _ _ (HWE.out) rfl).mono ?_
     rintro e w2 ⟨rfl,rfl⟩
     rw [HIX.out]
     refine hK.out _ _ ?_ (fun hHeld => ?_)
     ·exact hsa
     clear hK K
     try simp only [Act.put,List.getElem_toArray,List.getElem_cons_zero,List.getElem_cons_succ,List.setIfInBounds_toArray,List.set_cons_zero,List.set_cons_succ]
     refine wpAnyH_take (i:=8) (oi:=_) (v := ?_) rfl (by kernel_rfl) (by kernel_rfl) (by kernel_rfl) (fun _ _ _ h => h) (Or.inl ⟨by rfl, ?_⟩) (by assumption) ?_
     rotate_left
     ·intro w' hSw
      (try dsimp only at hSw)
      have d0:=(hSw.cell (p:=⟨sb,so,none⟩) hsbW).trans c0
      have d1:=(hSw.cell (p:=⟨sb,so + 1,none⟩) hsbW).trans c1
      clear hSw
      go_simp
      try with_reducible rfl
     try simp only [Act.put,List.getElem_toArray,List.getElem_cons_zero,List.getElem_cons_succ,List.setIfInBounds_toArray,List.set_cons_zero,List.set_cons_succ]
     refine wpAnyH_take (i:=9) (oi:=_) (v := ?_) rfl (by kernel_rfl) (by kernel_rfl) (by kernel_rfl) (fun _ _ _ h => h) (Or.inl ⟨by rfl, ?_⟩) (by assumption) ?_
     rotate_left
     ·intro w' hSw
      (try dsimp only at hSw)
      have d0:=(hSw.cell (p:=⟨sb,so,none⟩) hsbW).trans c0
      have d1:=(hSw.cell (p:=⟨sb,so + 1,none⟩) hsbW).trans c1
      clear hSw
      go_simp
      try with_reducible rfl
     try simp only [Act.put,List.getElem_toArray,List.getElem_cons_zero,List.getElem_cons_succ,List.setIfInBounds_toArray,List.set_cons_zero,List.set_cons_succ]
     refine wpAnyH_take (i:=10) (oi:=_) (v := ?_) rfl (by kernel_rfl) (by kernel_rfl) (by kernel_rfl) (fun _ _ _ h => h) (Or.inl ⟨by rfl, ?_⟩) (by assumption) ?_
     rotate_left
     ·intro w' hSw
      (try dsimp only at hSw)
      have d0:=(hSw.cell (p:=⟨sb,so,none⟩) hsbW).trans c0
      have d1:=(hSw.cell (p:=⟨sb,so + 1,none⟩) hsbW).trans c1
      clear hSw
      go_simp
      try with_reducible rfl
     try simp only [Act.put,List.getElem_toArray,List.getElem_cons_zero,List.getElem_cons_succ,List.setIfInBounds_toArray,List.set_cons_zero,List.set_cons_succ]
     refine wpAnyH_ready (rs:=[12]) (by kernel_rfl) (by simp) ?_
     refine AllReadyH.cons rfl (fun K hK => ?_) AllReadyH.nil
     go_simp
     refine hK.out _ _ ?_ (fun hHeld => ?_)
     ·exact hS0.alloc (Nat.le_refl _) _
     clear hK K
     try simp only [Act.put,List.getElem_toArray,List.getElem_cons_zero,List.getElem_cons_succ,List.setIfInBounds_toArray,List.set_cons_zero,List.set_cons_succ]
     refine wpAnyH_done (by kernel_rfl) ?_ _
     go_wp2_with fail
     go_meet
     refine ⟨W1.heap.size,rfl,by have:=HZ1.out; omega, ?_,by simp⟩
     try rw [hw]
     exact (HK1.out.tl.pushN W1.heap.size rfl _ _).drew
  case rest =>
   obtain ⟨bx,rfl,hbx,hkb,hbl⟩:=hcut
   have HK3:=Lib.hid hkb
   have hA:w.heap.size + 1 < bx:=by omega
   have hw0:w.heap.size ≤ wc.heap.size:=HK3.out.below.size
   clear hkb HWD HWE HK1 hz1' c0 c1
   have hdr:=HL.out.drop 2 (by omega)
   have hnl:r.length = n - 2:=by rw [← hN]; simp
   have hur:∀ x ∈ r,x.size ≤ maxLen:=fun x hx => hu x (by simp [hx])
   have HP0:Hid (ndTail (kindOf k) r = none → pNd j (u :: k :: r) = none):=fun h => by unfold pNd; simp only [h]
   have HP1:Hid (∀ q,ndTail (kindOf k) r = some q → insGo j [] q.2 = none → pNd j (u :: k :: r) = none):=fun q h h2 => by unfold pNd; simp only [h,h2]
   have HP2:Hid (∀ q is,ndTail (kindOf k) r = some q → insGo j [] q.2 = some is → pNd j (u :: k :: r) = if kindOf k = 0 then none else some ⟨u,kindOf k,is,Ex.zero,q.1⟩):=fun q is h h2 => by unfold pNd; simp only [h,h2]
   rw [List.map_cons,List.map_cons,List.drop_succ_cons,List.drop_succ_cons,List.drop_zero] at hdr
   generalize kindOf k = kk at *
   have HDR:=Lib.hid hdr
   have HNL:=Lib.hid hnl
   have HUR:=Lib.hid hur
   clear hdr hnl hur hu HL HKE hN
   go_upto_region 5 with fail
   go_cut [1] (fun s wx => ∃ ad c,s = .slice ad (n - 2) c ∧ wc = wx ∧ Sl w w.heap.size 1 (.slice ad (n - 2) c) (n - 2) (r.map Value.string) ∧ n - 2 ≤ c)
   case first =>
    have h2i:(2:Int) ≤ (n:Int):=by omega
    by_cases hc2:scap = 2
    ·obtain rfl:n = 2:=by omega
     subst hc2
     go_wp2_with fail
     go_meet
     refine ⟨_,_,rfl,rfl, ?_,Nat.le_refl _⟩
     have e:r = []:=List.length_eq_zero_iff.1 HNL.out
     subst e
     exact ⟨rfl,_,_,rfl,Nat.le_refl _,Nat.zero_le _, .inl rfl⟩
    ·go_wp2_with fail
     go_meet
     exact ⟨_,_,rfl,rfl,HDR.out,by omega⟩
   case rest =>
    obtain ⟨ad,lc,rfl,rfl,hl2,hlc⟩:=hcut
    have HL2:=Lib.hid hl2
    clear hl2 HDR
    obtain ⟨m,hm⟩:∃ m,n - 2 = m:=⟨_,rfl⟩
    rw [hm] at HL2 HNL hlc
    rw [hm]
    have hmn:m ≤ 100000:=by omega
    clear hm hn0 hn1 h2 h2' hsc hsm
    have d1:=HK3.out.hd.cell 1
    have HKK:=Lib.hid HKO
    have hk0:=HKO.1
    have hk9:=HKO.2
    clear HKO
    go_upto_if 33 with fail
    go_cut [1] (fun s wx => ∃ q ad c,ndTail kk r = some q ∧ s = .slice ad q.2.length c ∧ Sl w w.heap.size 1 (.slice ad q.2.length c) q.2.length (q.2.map Value.string) ∧ KB w wx [(bx,181,#[.string u, .int .u8 kk, .slice none 0 0, .int .u8 0, .int .i64 0, .slice none 0 0, .int .i64 q.1]),(w.heap.size + 1,181,#[.string { data:=#[] }, .int .u8 0, .slice none 0 0, .int .u8 0, .int .i64 0, .slice none 0 0, .int .i64 0]),(w.heap.size,26,#[.int .i64 j.par, .slice na j.nodes.length ncap])] ∧ bx < wx.heap.size ∧ (∀ x ∈ q.2,x.size ≤ maxLen) ∧ q.2.length ≤ 100000)
    case first =>
     by_cases h7:kk = 7
     ·subst h7
      by_cases hm0:m = 0
      ·subst hm0
       have HPN:=Lib.hid (HP0.out (by unfold ndTail; rw [if_pos rfl,if_pos HNL.out]))
       have r0:=HK3.out.tl.hd.cell 0
       have r1:=HK3.out.tl.hd.cell 1
       have r2:=HK3.out.tl.hd.cell 2
       have r3:=HK3.out.tl.hd.cell 3
       have r4:=HK3.out.tl.hd.cell 4
       have r5:=HK3.out.tl.hd.cell 5
       have r6:=HK3.out.tl.hd.cell 6
       have q0:=HK3.out.tl.hd.free 0
       have q1:=HK3.out.tl.hd.free 1
       have q2:=HK3.out.tl.hd.free 2
       have q3:=HK3.out.tl.hd.free 3
       have q4:=HK3.out.tl.hd.free 4
       have q5:=HK3.out.tl.hd.free 5
       have q6:=HK3.out.tl.hd.free 6
       go_wp2_with fail
       refine bodyPost_ret (v := .tuple #[.agg #[_,_,_,_,_,_,_], .bool false]) (results_cell_row2N rfl _ _ (w.heap.size + 1) 181 _ (0,0) _ (by kernel_rfl) (Blk.set7N HK3.out.tl.hd rfl _ _ _ _ _ _ _) Tryz.underlying181 rfl ?_ (.bool false) (by kernel_rfl)) rfl (post_none HPN.out (below_set7 HK3.out.below (Nat.le_succ _) _ _ _ _ _ _ _) _ _ _ _ _ _)
       kernel_rfl
      ·have hm1:0 < m:=by omega
       obtain ⟨sb2,so2,sc2,e2,hsb2,hl3,c3⟩:=(HL2.out.below HK3.out.below).str (m - 1) (by omega)
       simp only [Value.slice.injEq,true_and] at e2
       obtain ⟨rfl,rfl⟩:=e2
       have HT:Hid (ndTail 7 r = bif (numB r[m - 1] 2).2 then some ((numB r[m - 1] 2).1,r.take (m - 1)) else none):=by
        unfold Hid ndTail
        rw [if_pos rfl,HNL.out,if_neg (by omega),List.getD_eq_getElem?_getD,List.getElem?_eq_getElem hl3,Option.getD_some]
       have hxs:(r[m - 1]).size ≤ maxLen:=HUR.out _ (List.getElem_mem _)
       generalize r[m - 1] = x at *
       have HNUM:Hid (Calls Tryz.prog 223 #[.string x, .int .i64 2] wc fun e w' => e = .returned (.tuple #[.int .i64 (numB x 2).1, .bool (numB x 2).2]) ∧ Below wc.heap.size wc w'):=snumber_c x 2 (by omega) wc hxs
       generalize numB x 2 = nb at *
       obtain ⟨nv,nok⟩:=nb
       have hmm:(m:Int) ≤ 100000:=by omega
       have hne:((m:Int) == 0) = false:=by rw [beq_eq_false_iff_ne]; omega
       have hm1i:(1:Int) ≤ (m:Int):=by omega
       have htn:((m:Int) - 1).toNat = m - 1:=by omega
       clear hm0
       go_wp2_with fail
       refine HNUM.out.mono ?_
       rintro e w5 ⟨rfl,hb5⟩
       have HK5:=Lib.hid (HK3.out.keep hb5)
       have hbx5:bx < w5.heap.size:=by have:=hb5.size; omega
       clear c3 d1 HNUM hl3 hxs
       cases nok
       ·have HPN:=Lib.hid (HP0.out HT.out)
        have r0:=HK5.out.tl.hd.cell 0
        have r1:=HK5.out.tl.hd.cell 1
        have r2:=HK5.out.tl.hd.cell 2
        have r3:=HK5.out.tl.hd.cell 3
        have r4:=HK5.out.tl.hd.cell 4
        have r5:=HK5.out.tl.hd.cell 5
        have r6:=HK5.out.tl.hd.cell 6
        have q0:=HK5.out.tl.hd.free 0
        have q1:=HK5.out.tl.hd.free 1
        have q2:=HK5.out.tl.hd.free 2
        have q3:=HK5.out.tl.hd.free 3
        have q4:=HK5.out.tl.hd.free 4
        have q5:=HK5.out.tl.hd.free 5
        have q6:=HK5.out.tl.hd.free 6
        go_wp2_with fail
        refine bodyPost_ret (v := .tuple #[.agg #[_,_,_,_,_,_,_], .bool false]) (results_cell_row2N rfl _ _ (w.heap.size + 1) 181 _ (0,0) _ (by kernel_rfl) (Blk.set7N HK5.out.tl.hd rfl _ _ _ _ _ _ _) Tryz.underlying181 rfl ?_ (.bool false) (by kernel_rfl)) rfl (post_none HPN.out (below_set7 HK5.out.below (Nat.le_succ _) _ _ _ _ _ _ _) _ _ _ _ _ _)
        kernel_rfl
       ·have p6:=HK5.out.hd.cell 6
        have f6:=HK5.out.hd.free 6
        have hlcI:(m:Int) ≤ (lc:Int):=by omega
        go_upto_region 12 with fail
        go_region
        all_goals
         go_wp2_with fail
         go_meet
         have hqs:(r.take (m - 1)).length = m - 1:=by rw [List.length_take,HNL.out]; omega
         have hk6:=(HK5.out.set (Nat.le_of_lt (Nat.lt_of_succ_lt hA)) (neB hA) 6 (.int .i64 nv)).drew
         have hlS:=HL2.out.take (m - 1) (by omega)
         rw [← List.map_take] at hlS
         exact ⟨(nv,r.take (m - 1)),_,_,HT.out,by dsimp only; rw [hqs],by dsimp only; rw [hqs]; exact hlS,hk6,by simpa using hbx5,fun x hx => HUR.out x (List.mem_of_mem_take hx),by dsimp only; rw [hqs]; omega⟩
     ·have h7b:(kk == 7) = false:=by rw [beq_eq_false_iff_ne]; exact h7
      have HT:Hid (ndTail kk r = some (0,r)):=by unfold Hid ndTail; rw [if_neg h7]
      go_wp2_with fail
      go_meet
      exact ⟨(0,r),ad,lc,HT.out,by rw [← HNL.out],by rw [HNL.out]; exact HL2.out,HK3.out,hbl,HUR.out,by dsimp only; rw [HNL.out]; exact hmn⟩
    case rest =>
     clear HL2 HNL HUR HK3 d1
     obtain ⟨q,ad2,lc2,hq1,rfl,hl4,hk4,hb4,huq,hql⟩:=hcut
     obtain ⟨mz,ws⟩:=q
     dsimp only at hl4 hk4 huq hql
     have HQ:=Lib.hid hq1
     have HL4:=Lib.hid hl4
     have HK4:=Lib.hid hk4
     have HUQ:=Lib.hid huq
     have HWL:Hid (∃ N,ws.length = N):=⟨_,rfl⟩
     have hN0:Hid (ws.length = ws.length):=rfl
     generalize hN:ws.length = N at *
     have HN:=Lib.hid hN
     clear hN0 HWL hq1 hl4 hk4 huq hN
     obtain ⟨i0,hi,hz0i,hz1i,hz2i⟩:=info_parts info_intJ
     go_upto_region 14 with fail
     go_loopw [60] (fun i wr => NLoop j w bx u kk mz na ncap ws i wr) (fun i _ => N - (intOf i).toNat)
     case atStart => exact ⟨0,[], .slice none 0 0,rfl,Nat.zero_le _,by simp,rfl,World.ownsRow_nil _ _ _ _,HK4.out,hb4⟩
     case round =>
      obtain ⟨q,acc,iv,rfl,hqN,hgo,hal,hown,hkr,hbr⟩:=hrel.ex
      clear hrel
      have HKR:=Lib.hid hkr
      have HGO:=Lib.hid hgo
      have HAL:=Lib.hid hal
      rw [HN.out] at hqN
      clear hkr hgo hal
      have hwr:w.heap.size ≤ wr.heap.size:=HKR.out.below.size
      have hqL:acc.length ≤ 100000:=by rw [HAL.out]; omega
      by_cases hlt:q < N
      ·obtain ⟨sb4,so4,sc4,e4,hsb4,hlw,c4⟩:=(HL4.out.below HKR.out.below).str q hlt
       simp only [Value.slice.injEq,true_and] at e4
       obtain ⟨rfl,rfl⟩:=e4
       have HST:Hid (insGo j acc (ws.drop q) = if j.find ws[q] < 0 then none else insGo j (acc ++ [j.find ws[q]]) (ws.drop (q + 1))):=by
        unfold Hid
        rw [List.drop_eq_getElem_cons hlw]
        rfl
       generalize ws[q] = x at *
       have j0:=HKR.out.tl.tl.hd.cell 0
       have j1:=HKR.out.tl.tl.hd.cell 1
       have HF:=Lib.hid (Find_c j x (.agg #[.int .i64 j.par, .slice na j.nodes.length ncap]) w.heap.size wr ⟨_,rfl,HNS.out.keep HKR.out.below⟩ hwr)
       generalize j.find x = f at *
       go_wp2_with fail
       refine HF.out.mono ?_
       rintro e w1 ⟨rfl,hb1⟩
       have HK1:=Lib.hid (HKR.out.keep hb1)
       have hown1:=own_keep hown hb1
       have hbx1:bx < w1.heap.size:=by have:=hb1.size; omega
       clear j0 j1 c4 HF HKR hown
       by_cases hf:f < 0
       ·have HPN:=Lib.hid (HP1.out _ HQ.out (by rw [← HGO.out,HST.out,if_pos hf]))
        have r0:=HK1.out.tl.hd.cell 0
        have r1:=HK1.out.tl.hd.cell 1
        have r2:=HK1.out.tl.hd.cell 2
        have r3:=HK1.out.tl.hd.cell 3
        have r4:=HK1.out.tl.hd.cell 4
        have r5:=HK1.out.tl.hd.cell 5
        have r6:=HK1.out.tl.hd.cell 6
        have q0:=HK1.out.tl.hd.free 0
        have q1:=HK1.out.tl.hd.free 1
        have q2:=HK1.out.tl.hd.free 2
        have q3:=HK1.out.tl.hd.free 3
        have q4:=HK1.out.tl.hd.free 4
        have q5:=HK1.out.tl.hd.free 5
        have q6:=HK1.out.tl.hd.free 6
        clear hown1
        go_wp2_with fail
        refine bodyPost_ret (v := .tuple #[.agg #[_,_,_,_,_,_,_], .bool false]) (results_cell_row2N rfl _ _ (w.heap.size + 1) 181 _ (0,0) _ (by kernel_rfl) (Blk.set7N HK1.out.tl.hd rfl _ _ _ _ _ _ _) Tryz.underlying181 rfl ?_ (.bool false) (by kernel_rfl)) rfl (post_none HPN.out (below_set7 HK1.out.below (Nat.le_succ _) _ _ _ _ _ _ _) _ _ _ _ _ _)
        kernel_rfl
       ·rw [if_neg hf] at HST
        have p2:=HK1.out.hd.cell 2
        have hge:∀ z,iv.ownBlock = some z → bx + 1 ≤ z:=fun z hz => (hown1.lt z hz).1
        have HGE:=Lib.hid hge
        clear hge
        go_wp2_with (at_builtin; refine wpList_append_own _ rfl _ _ 176 rfl (bx + 1) 3 i0 (.int .i64 0) 1 8 Tryz.underlying176 hi hz0i hz1i hz2i rfl (by decide) iv acc.length (acc.map (Value.int .i64)) rfl (hown1.alloc _) ⟨w1.heap.size,0,none⟩ 1 1 [.int .i64 f] rfl rfl (cell_one_newJ _ _ _) (by simp [Value.oneCell']) (by unfold maxLen; omega) (by omega) (by simp; omega) ?_; intro v1' w2 hown2 hgrow _; obtain ⟨g1,capg,rfl⟩:=owns_succ hown2; have HK2:=Lib.hid ((HK1.out.grow (.cells #[.int .i64 f] 3)).grownN hgrow (fun z hz => neG hA (HGE.out z hz))); have b2:=HK2.out.hd.cell 2; have g2:=HK2.out.hd.free 2; clear p2)
        go_roundw
        case rel =>
         have hk6:=HK2.out.set (Nat.le_of_lt (Nat.lt_of_succ_lt hA)) (neB hA) 2 (.slice (some ⟨g1,0,none⟩) (acc.length + 1) capg)
         have hgs:=hgrow.size
         simp at hgs
         refine ⟨q + 1,acc ++ [f],_,by go_num,by rw [HN.out]; omega,by rw [← HGO.out,HST.out],by simp [HAL.out], ?_,hk6,by simp; omega⟩
         rw [List.length_append,List.map_append]
         exact own_otherN hown2 (p:=⟨bx,2,none⟩) (Nat.lt_succ_self _) _
        case measure => simp [intOf]; omega
      ·obtain rfl:q = N:=by omega
       have HGO2:Hid (insGo j [] ws = some acc):=by
        have h:=HGO.out
        rw [List.drop_eq_nil_of_le (by rw [HN.out]; exact Nat.le_refl _)] at h
        exact h.symm
       have HPN:=Lib.hid (HP2.out _ _ HQ.out HGO2.out)
       have r0:=HKR.out.tl.hd.cell 0
       have r1:=HKR.out.tl.hd.cell 1
       have r2:=HKR.out.tl.hd.cell 2
       have r3:=HKR.out.tl.hd.cell 3
       have r4:=HKR.out.tl.hd.cell 4
       have r5:=HKR.out.tl.hd.cell 5
       have r6:=HKR.out.tl.hd.cell 6
       have q0:=HKR.out.tl.hd.free 0
       have q1:=HKR.out.tl.hd.free 1
       have q2:=HKR.out.tl.hd.free 2
       have q3:=HKR.out.tl.hd.free 3
       have q4:=HKR.out.tl.hd.free 4
       have q5:=HKR.out.tl.hd.free 5
       have q6:=HKR.out.tl.hd.free 6
       have p0:=HKR.out.hd.cell 0
       have p1:=HKR.out.hd.cell 1
       have p2:=HKR.out.hd.cell 2
       have p3:=HKR.out.hd.cell 3
       have p4:=HKR.out.hd.cell 4
       have p5:=HKR.out.hd.cell 5
       have p6:=HKR.out.hd.cell 6
       have HOW:=Lib.hid hown
       obtain ⟨ia,ic,rfl⟩:=own_sliceN hown
       clear hown
       have HSET:=Lib.hid (Blk.set7N HKR.out.tl.hd rfl (.string u) (.int .u8 kk) (.slice ia acc.length ic) (.int .u8 0) (.int .i64 0) (.slice none 0 0) (.int .i64 mz))
       go_upto_region 21 with fail
       have HO7:Hid ((((((((wr.setCell ⟨w.heap.size + 1,0,none⟩ (.string u)).setCell ⟨w.heap.size + 1,1,none⟩ (.int .u8 kk)).setCell ⟨w.heap.size + 1,2,none⟩ (.slice ia acc.length ic)).setCell ⟨w.heap.size + 1,3,none⟩ (.int .u8 0)).setCell ⟨w.heap.size + 1,4,none⟩ (.int .i64 0)).setCell ⟨w.heap.size + 1,5,none⟩ (.slice none 0 0)).setCell ⟨w.heap.size + 1,6,none⟩ (.int .i64 mz)).ownsRow (bx + 1) 3 1 (.slice ia acc.length ic) acc.length (acc.map (Value.int .i64))) :=
        own_otherN (own_otherN (own_otherN (own_otherN (own_otherN (own_otherN (own_otherN HOW.out (p:=⟨w.heap.size + 1,0,none⟩) (Nat.lt_succ_of_lt hA) _) (p:=⟨w.heap.size + 1,1,none⟩) (Nat.lt_succ_of_lt hA) _) (p:=⟨w.heap.size + 1,2,none⟩) (Nat.lt_succ_of_lt hA) _) (p:=⟨w.heap.size + 1,3,none⟩) (Nat.lt_succ_of_lt hA) _) (p:=⟨w.heap.size + 1,4,none⟩) (Nat.lt_succ_of_lt hA) _) (p:=⟨w.heap.size + 1,5,none⟩) (Nat.lt_succ_of_lt hA) _) (p:=⟨w.heap.size + 1,6,none⟩) (Nat.lt_succ_of_lt hA) _
       have HB7:=Lib.hid (below_set7 HKR.out.below (g:=w.heap.size + 1) (Nat.le_succ _) (.string u) (.int .u8 kk) (.slice ia acc.length ic) (.int .u8 0) (.int .i64 0) (.slice none 0 0) (.int .i64 mz))
       by_cases hk:kk = 0
       ·rw [if_pos hk] at HPN
        subst hk
        go_region
        go_wp2_with fail
        refine bodyPost_ret (v := .tuple #[.agg #[_,_,_,_,_,_,_], .bool false]) (results_cell_row2N rfl _ _ (w.heap.size + 1) 181 _ (0,0) _ (by kernel_rfl) HSET.out.drew Tryz.underlying181 rfl ?_ (.bool false) (by kernel_rfl)) rfl (post_none HPN.out HB7.out.drew _ _ _ _ _ _)
        kernel_rfl
       ·rw [if_neg hk] at HPN
        have hkb:(kk != 0) = true:=by rw [bne_iff_ne]; exact hk
        go_region
        go_wp2_with fail
        refine bodyPost_ret (v := .tuple #[.agg #[_,_,_,_,_,_,_], .bool true]) (results_cell_row2N rfl _ _ (w.heap.size + 1) 181 _ (0,0) _ (by kernel_rfl) HSET.out.drew Tryz.underlying181 rfl ?_ (.bool true) (by kernel_rfl)) rfl ⟨HB7.out.drew,u,kk,ia,ic,acc.length,mz,by rw [HPN.out]; rfl,fun d hd => ?_⟩
        ·kernel_rfl
        ·rw [HPN.out] at hd
         cases hd
         refine ⟨rfl,rfl,rfl,rfl, ?_⟩
         have hin:=InsP.of_own HO7.out.drew
         exact hin.monoN (fun b hb => ⟨Nat.le_trans (Nat.le_of_lt (Nat.lt_succ_of_lt (Nat.lt_of_succ_lt hA))) hb.1,hb.2⟩)
end Go.Proofs.YtpkijdkoiecpiaaGreatDoor
