/-
  Parts of the proof: H5.
-/
import Derived.Test.YtpkijdkoiecpiaaGreatDoorZS21
import Derived.Test.YtpkijdkoiecpiaaGreatDoorZS26
namespace Go.Proofs.YtpkijdkoiecpiaaGreatDoor
open Go.RowKit
set_option linter.unusedVariables false
set_option linter.unusedSimpArgs false
theorem nil_int (a:Option Addr) (n c:Nat) (w:World):(binOp .eql 170 (.slice a n c) (.slice none 0 0)).run Tryz.prog w = .ok (.bool a.isNone) w:=by
 cases a <;> kernel_rfl
theorem insP_news {w:World} {g:Nat} {l:List Int} (h:∀ j,j < l.length → w.cell? ⟨g,j,none⟩ = (l.map (Value.int .i64))[j]?):∀ j u,(l.map (Value.int .i64))[j]? = some u → w.cell? ((⟨g,0,none⟩:Addr).add j) = some u:=by
 intro j u hj
 have hlt:j < l.length:=by have:=(List.getElem?_eq_some_iff.1 hj).1; simpa using this
 rw [addr_add,Nat.zero_add,h j hlt,hj]
theorem ints_one (l:List Int):∀ u ∈ l.map (Value.int .i64),u.oneCell' = true:=by
 intro u hu
 obtain ⟨x,_,rfl⟩:=List.mem_map.1 hu
 rfl
set_option maxRecDepth 100000 in
set_option maxHeartbeats 1000000 in
theorem Clone_c (l:List Int) (hl:l.length ≤ 16) (P:Nat → Prop) (v:Value) (w:World) (hv:InsP w P l v) (hP:∀ b,P b → b < w.heap.size) :
  Calls Tryz.prog 268 #[v] w fun e w' => (∃ a cap,e = .returned (.slice a l.length cap)) ∧ Below w.heap.size w w':=by
 rcases hv with ⟨rfl,rfl⟩ | ⟨g,cap,rfl,hPg,h1,h2,h3⟩
 ·have hq:=nil_int none 0 0 w
  go_enter Tryz.func268,Tryz.ntmps268
  go_wp2_with fail
  go_ret
  exact ⟨⟨none,0,rfl⟩,Below.refl _ _⟩
 ·have hg:=hP g hPg
  have HN:Hid (∀ j u,(l.map (Value.int .i64))[j]? = some u → w.cell? ((⟨g,0,none⟩:Addr).add j) = some u):=insP_news h3
  have HO:=Lib.hid (ints_one l)
  have hown:=own_empty w w.heap.size w.heap.size rfl (Nat.le_refl _) 2 1
  have HB:Hid (Below w.heap.size w (w.alloc (.cells #[] 2))):=(Below.refl _ _).alloc (Nat.le_refl _) _
  obtain ⟨i0,hi,hz0,hz1,hz2⟩:=info_parts info_tint
  clear h3
  have hq:=nil_int (some ⟨g,0,none⟩) l.length cap w
  go_enter Tryz.func268,Tryz.ntmps268
  go_wp2_with (first | (at_builtin; refine wpList_append_own_at _ rfl _ _ 170 rfl w.heap.size 2 i0 (.int .i64 0) 1 8 Tryz.underlying170 hi hz0 hz1 hz2 rfl (by decide) (.slice (some ⟨w.heap.size,0,none⟩) 0 0) 0 [] rfl hown ⟨g,0,none⟩ l.length cap (l.map (Value.int .i64)) rfl (by simp) ?_ HO.out (by unfold maxLen; omega) (by omega) (by simp) ?_) | fail)
  ·intro j u hj
   have h9:=HN.out j u hj
   rw [addr_add] at h9 ⊢
   exact (World.cell?_of_block (a:=⟨g,0 + j,none⟩) (HB.out.block g hg)).trans h9
  ·intro v' w1 hown' hgrow hnil hat
   have hb1:Below w.heap.size w w1:=HB.out.grown hgrow (by simp) (fun k e => by cases e; exact Nat.le_refl _)
   rcases hown'.2 with ⟨rfl,h0⟩ | ⟨g',cap',cur',rfl,_,_,_,_,_,_⟩
   ·exact absurd rfl hnil
   ·go_wp2_with fail
    go_ret
    exact ⟨⟨_,_,rfl⟩,hb1⟩
set_option maxRecDepth 100000 in
set_option maxHeartbeats 1000000 in
theorem own_c (acc:Int) (l:List Int) (hl:l.length ≤ 16) (P:Nat → Prop) (v:Value) (w:World) (hv:InsP w P l v) (hP:∀ b,P b → b < w.heap.size) :
  Calls Tryz.prog 236 #[.agg #[.int .i64 acc,v]] w fun e w' => (∃ a cap,e = .returned (.agg #[.int .i64 acc, .slice a l.length cap])) ∧ Below w.heap.size w w':=by
 obtain ⟨a0,n0,c0,hve⟩:∃ a n c,v = .slice a n c:=by rcases hv with ⟨_,rfl⟩ | ⟨g,cap,rfl,_⟩ <;> exact ⟨_,_,_,rfl⟩
 have HV:Hid (∀ W:World,Below w.heap.size w W → InsP W P l v):=fun W h => hv.keep (fun _ h => h) (fun b hb => h.block b (hP b hb))
 clear hv
 subst hve
 have h0:Blk ((w.alloc (.cells #[.int .i64 acc, .slice a0 n0 c0] 274)).alloc (.cells #[.int .i64 0, .slice none 0 0] 274)) w.heap.size 274 #[.int .i64 acc, .slice a0 n0 c0]:=(Blk.new w _ _).alloc _
 have h1:Blk ((w.alloc (.cells #[.int .i64 acc, .slice a0 n0 c0] 274)).alloc (.cells #[.int .i64 0, .slice none 0 0] 274)) (w.heap.size + 1) 274 #[.int .i64 0, .slice none 0 0]:=Blk.new_at _ _ _ (by simp)
 have hb:Below w.heap.size w ((w.alloc (.cells #[.int .i64 acc, .slice a0 n0 c0] 274)).alloc (.cells #[.int .i64 0, .slice none 0 0] 274)):=((Below.refl _ _).alloc (Nat.le_refl _) _).alloc (by simp) _
 have hs:w.heap.size + 1 < ((w.alloc (.cells #[.int .i64 acc, .slice a0 n0 c0] 274)).alloc (.cells #[.int .i64 0, .slice none 0 0] 274)).heap.size:=by simp
 go_enter Tryz.func236,Tryz.ntmps236
 go_upto_region 1 with fail
 generalize ((w.alloc (.cells #[.int .i64 acc, .slice a0 n0 c0] 274)).alloc (.cells #[.int .i64 0, .slice none 0 0] 274)) = W at *
 have HC:Hid (Calls Tryz.prog 268 #[.slice a0 n0 c0] W.drew fun e w' => (∃ a cap,e = .returned (.slice a l.length cap)) ∧ Below W.heap.size W.drew w'):=Clone_c l hl P _ W.drew (HV.out _ hb.drew) (fun b h => by have:=hP b h; have:=hs; show b < W.heap.size; omega)
 have x0:=h0.drew.cell 0
 have x1:=h0.drew.cell 1
 have y0:=h1.drew.free 0
 have y1:=h1.drew.free 1
 have z0:=h1.drew.cell 0
 have z1:=h1.drew.cell 1
 have HH0:=Lib.hid h0
 have HH1:=Lib.hid h1
 clear h0 h1
 go_region_with (first | (go_at_call 268; refine HC.out.mono ?_; rintro e w1 ⟨⟨a1,c1,rfl⟩,hb1⟩; have g0:=HH0.out.drew.below hb1 (by omega); have g1:=HH1.out.drew.below hb1 (by omega); have p0:=g0.cell 0; have p1:=g0.cell 1; have q0:=g1.free 0; have q1:=g1.free 1; have r0:=g1.cell 0; have r1:=g1.cell 1))
 all_goals
  go_wp2_with fail
  have g2:Blk ((w1.setCell ⟨w.heap.size + 1,0,none⟩ (.int .i64 acc)).setCell ⟨w.heap.size + 1,1,none⟩ (.slice a1 l.length c1)) (w.heap.size + 1) 274 #[.int .i64 acc, .slice a1 l.length c1]:=(g1.set 0 (.int .i64 acc)).set 1 (.slice a1 l.length c1)
  refine bodyPost_ret (v := .agg #[_,_]) (results_cell_row rfl _ _ (w.heap.size + 1) 274 _ (0,0) _ rfl g2 Tryz.underlying274 rfl ?_) rfl ⟨⟨a1,c1,rfl⟩, ?_⟩
  ·as_aux_lemma => kernel_rfl
  exact ((hb.drew.trans (hb1.mono (by omega))).setCell (p:=⟨w.heap.size + 1,0,none⟩) (Nat.le_succ _) _).setCell (p:=⟨w.heap.size + 1,1,none⟩) (Nat.le_succ _) _
theorem stateful_c (k:Int) (w:World):Calls Tryz.prog 156 #[.int .u8 k] w fun e w' => e = .returned (.bool (statefulB k)) ∧ w = w':=by
 unfold statefulB
 cases h6:k == 6
 ·go_enter Tryz.func156,Tryz.ntmps156
  go_wp2
  go_ret
  exact ⟨rfl,rfl⟩
 ·go_enter Tryz.func156,Tryz.ntmps156
  go_wp2
  go_ret
  exact ⟨rfl,rfl⟩
end Go.Proofs.YtpkijdkoiecpiaaGreatDoor
