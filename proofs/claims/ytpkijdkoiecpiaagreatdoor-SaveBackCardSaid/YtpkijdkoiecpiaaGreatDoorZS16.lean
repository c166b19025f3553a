/-
  Parts of the proof: J4 E4.
-/
import Derived.Test.YtpkijdkoiecpiaaGreatDoorChecked
import Derived.Laws.EntriesVeiled
import Derived.Test.YtpkijdkoiecpiaaGreatDoorZS12
namespace Go.Proofs.YtpkijdkoiecpiaaGreatDoor
open Go.RowKit
set_option linter.unusedVariables false
set_option linter.unusedSimpArgs false
mutual
def Ex.count:Ex → Nat → Nat
 | .mk _ _ l,left => if 0 < left then Exs.count l (left - 1) else left
def Exs.count:List Ex → Nat → Nat
 | [],left => left
 | x :: l,left => Exs.count l (x.count left)
end
theorem Ex.count_eq (x:Ex) (left:Nat):x.count left = if 0 < left then Exs.count x.args (left - 1) else left:=by obtain ⟨o,n,l⟩:=x; rfl
mutual
theorem Ex.count_le:∀ (x:Ex) (left:Nat),x.count left ≤ left
 | .mk o n l,left => by
  simp only [Ex.count]
  have:=Exs.count_le l (left - 1)
  split <;> omega
theorem Exs.count_le:∀ (l:List Ex) (left:Nat),Exs.count l left ≤ left
 | [],left => by simp [Exs.count]
 | x :: l,left => by
  simp only [Exs.count]
  have:=Exs.count_le l (x.count left)
  have:=Ex.count_le x left
  omega
end
structure Cn (w:World) (bL bC left:Nat):Prop where
 L:Blk w bL 3 #[.int .i64 left]
 C:Blk w bC 252 #[.func (.func 177) #[] #[.pointer (some ⟨bL,0,none⟩), .pointer (some ⟨bC,0,none⟩)]]
theorem Cn.alloc {w:World} {bL bC left:Nat} (h:Cn w bL bC left) (o:Obj):Cn (w.alloc o) bL bC left:=⟨h.L.alloc o,h.C.alloc o⟩
theorem Cn.set {w:World} {bL bC left:Nat} (h:Cn w bL bC left) (hne:bL ≠ bC) (k:Nat):Cn (w.setCell ⟨bL,0,none⟩ (.int .i64 k)) bL bC k:=⟨h.L.set 0 _,h.C.other (p:=⟨bL,0,none⟩) (Ne.symm hne) _⟩
def CountC (h:Nat):Prop:=∀ (x:Ex) (v:Value) (B:Nat) (w:World) (bL bC left:Nat),x.ht ≤ h → ExAt w B v x → B ≤ bL → bL ≠ bC → left ≤ 2000 → Cn w bL bC left →
 Calls Tryz.prog 177 #[v, .pointer (some ⟨bL,0,none⟩), .pointer (some ⟨bC,0,none⟩)] w fun e w' => e = .returned (.tuple #[]) ∧ Cn w' bL bC (x.count left) ∧ Fr (fun k => k = bL) w w'
set_option maxHeartbeats 1000000 in
theorem count_step (h:Nat) (IH:Hid (∀ x:Ex,x.ht < h → ∀ (v:Value) (B:Nat) (w:World) (bL bC left:Nat),ExAt w B v x → B ≤ bL → bL ≠ bC → left ≤ 2000 → Cn w bL bC left →
   Calls Tryz.prog 177 #[v, .pointer (some ⟨bL,0,none⟩), .pointer (some ⟨bC,0,none⟩)] w fun e w' => e = .returned (.tuple #[]) ∧ Cn w' bL bC (x.count left) ∧ Fr (fun k => k = bL) w w')):CountC h:=by
 intro x v B w bL bC left hh hv hB hne hleft hC
 have HLT:Hid (∀ a ∈ x.args,a.ht < h):=fun a ha => by have:=Ex.ht_args x a ha; omega
 have HE:=Lib.hid (Ex.count_eq x left)
 obtain ⟨sv,rfl,hs⟩:=hv
 obtain ⟨a,cap,rfl,hcap,hmx⟩:=hs.slice
 have HS:=Lib.hid hs
 have hlm:x.args.length ≤ 9223372036854775807:=by unfold maxLen at hmx; omega
 generalize x.op = o at *
 generalize x.n = n at *
 generalize x.args = l at *
 clear hs hh
 have HNE:=Lib.hid hne
 have hbl:=hC.L.lt
 have hbc:=hC.C.lt
 by_cases h0:0 < left
 ·have HE2:Hid (x.count left = Exs.count l (left - 1)):=by show _ = _; rw [HE.out,if_pos h0]
  have hC2:=(hC.set hne (left - 1)).alloc (.cells #[.int .u8 o, .int .i64 n, .slice a l.length cap] 179)
  have hF2:Fr (fun k => k = bL) w ((w.setCell ⟨bL,0,none⟩ (.int .i64 ((left - 1:Nat):Int))).alloc (.cells #[.int .u8 o, .int .i64 n, .slice a l.length cap] 179)):=(Fr.setCell (S:=fun k => k = bL) (Fr.refl _ w) (p:=⟨bL,0,none⟩) (.inl rfl) _).alloc _
  rw [show ((left - 1:Nat):Int) = (left:Int) - 1 by omega] at hC2 hF2
  have c0:=hC.L.cell 0
  have f0:=hC.L.free 0
  have h0i:(0:Int) < (left:Int):=by omega
  clear HE hne
  go_enter Tryz.func177,Tryz.ntmps177
  go_wp2_with fail
  generalize World.alloc (World.setCell w _ _) _ = W2 at *
  clear c0 f0
  go_loopw [13] (fun q wr => ∃ (j lf:Nat),q = .int .i64 j ∧ j ≤ l.length ∧ lf ≤ 2000 ∧ Fr (fun k => k = bL) w wr ∧ Cn wr bL bC lf ∧ Exs.count (l.drop j) lf = Exs.count l (left - 1)) (fun q _ => l.length - (intOf q).toNat)
  case atStart => exact ⟨0,left - 1,rfl,Nat.zero_le _,by omega,hF2,hC2,rfl⟩
  case round =>
   obtain ⟨j,lf,rfl,hj,hlf,hFr,hCr,hr⟩:=hrel
   by_cases hlt:j < l.length
   ·have hBr:Below B w wr:=hFr.below (by omega) (fun k hk e => by omega)
    obtain ⟨b,off,cp,sv,e1,hb,c0,c1,c2,hsub⟩:=(HS.out.keep hBr).at_ j hlt
    simp only [Value.slice.injEq,true_and] at e1
    obtain ⟨rfl,rfl⟩:=e1
    obtain ⟨a2,cap2,rfl,_,_⟩:=hsub.slice
    rw [List.drop_eq_getElem_cons hlt] at hr
    simp only [Exs.count] at hr
    have hht:=HLT.out _ (List.getElem_mem hlt)
    have hx:∀ X,Below B wr X → ExAt X B (.agg #[.int .u8 (l[j]'hlt).op, .int .i64 (l[j]'hlt).n, .slice a2 (l[j]'hlt).args.length cap2]) (l[j]'hlt):=fun X hX => ⟨_,rfl,hsub.keep hX⟩
    have hcl:=Ex.count_le (l[j]'hlt) lf
    generalize l[j] = y at *
    have HX:=Lib.hid hx
    have HR:=Lib.hid hr
    clear hr hx hsub
    have hbw:B ≤ wr.heap.size:=by have:=hFr.size; omega
    have hK:=hCr.alloc (.cells #[.int .u8 y.op, .int .i64 y.n, .slice a2 y.args.length cap2] 179)
    have k0:=hK.C.cell 0
    go_wp2_with (go_at_call 177; refine (IH.out y hht _ B _ bL bC lf (HX.out _ ((Below.refl _ _).alloc hbw _)) hB HNE.out hlf hK).mono ?_; rintro e w3 ⟨rfl,hc3,hf3⟩)
    go_roundw
    case rel => exact ⟨j + 1,y.count lf,by go_num,by omega,by omega,(hFr.alloc _).trans hf3,hc3,HR.out⟩
    case measure => simp [intOf]; omega
   ·rw [List.drop_of_length_le (by omega)] at hr
    simp only [Exs.count] at hr
    subst hr
    go_wp2
    go_end0
    exact ⟨rfl,by rw [HE2.out]; exact hCr,hFr⟩
 ·have HE2:Hid (x.count left = left):=by show _ = _; rw [HE.out,if_neg h0]
  have hC1:=hC.alloc (.cells #[.int .u8 o, .int .i64 n, .slice a l.length cap] 179)
  have c0:=hC1.L.cell 0
  have h0i : ¬ (0:Int) < (left:Int):=by omega
  clear HE hne
  go_enter Tryz.func177,Tryz.ntmps177
  go_wp2
  go_end0
  exact ⟨rfl,by rw [HE2.out]; exact hC1,(Fr.refl _ w).alloc _⟩
theorem count_all (h:Nat):CountC h:=by
 induction h using Nat.strongRecOn with
 | ind h ih => exact count_step h (fun x hx v B w bL bC left hv hB hne hl hC => ih x.ht hx x v B w bL bC left (Nat.le_refl _) hv hB hne hl hC)
def countGo:List Nd → Nat → Nat
 | [],left => left
 | d :: l,left => countGo l (d.x.count left)
theorem countGo_le:∀ (l:List Nd) (left:Nat),countGo l left ≤ left
 | [],_ => Nat.le_refl _
 | d :: l,left => Nat.le_trans (countGo_le l _) (Ex.count_le _ _)
def Jb.parts (j:Jb):Nat:=1001 - countGo j.nodes 1001
set_option maxHeartbeats 1000000 in
theorem parts_c (jb:Jb) (v:Value) (B:Nat) (w:World) (hv:JbAt w B v jb) (hB:B ≤ w.heap.size) :
  Calls Tryz.prog 118 #[v] w fun e w' => e = .returned (.int .i64 jb.parts) ∧ Below w.heap.size w w':=by
 have hmf:∀ (fn:Fn) (first cap:Array Value) (w:World),(Instr.makeFunc fn first cap).run Tryz.prog w = .ok (.func fn first cap) w:=fun _ _ _ _ => rfl
 have HE:Hid (jb.parts = 1001 - countGo jb.nodes 1001):=rfl
 have hle:=countGo_le jb.nodes 1001
 obtain ⟨sv,rfl,hs⟩:=hv
 obtain ⟨a,cap,rfl,hcap,hmx⟩:=hs.slice
 have HS:=Lib.hid hs
 have hlm:jb.nodes.length ≤ 9223372036854775807:=by unfold maxLen at hmx; omega
 generalize jb.nodes = l at *
 generalize jb.par = par at *
 generalize jb.parts = pp at *
 clear hs
 have hJ:=Blk.new w #[.int .i64 par, .slice a l.length cap] 26
 have hW:=((((Below.refl w.heap.size w).alloc (Nat.le_refl _) (.cells #[.int .i64 par, .slice a l.length cap] 26)).alloc (by simp) (.cells #[.int .i64 1001] 3)).alloc (by simp; omega) (.cells #[.func (.func 177) #[] #[.pointer (some ⟨w.heap.size + 1,0,none⟩), .pointer (some ⟨w.heap.size + 1 + 1,0,none⟩)]] 252))
 have hC:Cn (((w.alloc (.cells #[.int .i64 par, .slice a l.length cap] 26)).alloc (.cells #[.int .i64 1001] 3)).alloc (.cells #[.func (.func 177) #[] #[.pointer (some ⟨w.heap.size + 1,0,none⟩), .pointer (some ⟨w.heap.size + 1 + 1,0,none⟩)]] 252)) (w.heap.size + 1) (w.heap.size + 1 + 1) 1001 :=
  ⟨(Blk.new_at _ _ _ (by simp)).alloc _,Blk.new_at _ _ _ (by simp)⟩
 clear hJ
 go_enter Tryz.func118,Tryz.ntmps118
 go_wp2_with fail
 generalize World.alloc (World.alloc (World.alloc w _) _) _ = W at *
 go_loopw [11] (fun q wr => ∃ (j lf:Nat),q = .int .i64 j ∧ j ≤ l.length ∧ lf ≤ 1001 ∧ Below w.heap.size w wr ∧ Cn wr (w.heap.size + 1) (w.heap.size + 1 + 1) lf ∧ countGo (l.drop j) lf = countGo l 1001) (fun q _ => l.length - (intOf q).toNat)
 case atStart => exact ⟨0,1001,rfl,Nat.zero_le _,by omega,hW,hC,rfl⟩
 case round =>
  obtain ⟨j,lf,rfl,hj,hlf,hBr,hCr,hr⟩:=hrel
  by_cases hlt:j < l.length
  ·obtain ⟨b,off,cp,e1,hb,hu,iv,sv,c0,c1,c2,c3,c4,c5,c6,hin⟩:=((HS.out.mono hB).keep hBr).at_ j hlt
   simp only [Value.slice.injEq,true_and] at e1
   obtain ⟨rfl,rfl⟩:=e1
   obtain ⟨a2,cap2,rfl,_,_⟩:=hin.2.slice
   obtain ⟨_,ai,capi,rfl,_,_,_⟩:=id hin.1
   rw [List.drop_eq_getElem_cons hlt] at hr
   simp only [countGo] at hr
   have hx:∀ X,Below w.heap.size wr X → ExAt X w.heap.size (.agg #[.int .u8 (l[j]'hlt).x.op, .int .i64 (l[j]'hlt).x.n, .slice a2 (l[j]'hlt).x.args.length cap2]) (l[j]'hlt).x:=fun X hX => ⟨_,rfl,hin.2.keep hX⟩
   have hcl:=Ex.count_le (l[j]'hlt).x lf
   generalize l[j] = y at *
   have HX:=Lib.hid hx
   have HR:=Lib.hid hr
   clear hr hx hin
   have hbw:w.heap.size ≤ wr.heap.size:=hBr.size
   have hK:=hCr.alloc (.cells #[.string y.uid, .int .u8 y.kind, .slice ai y.ins.length capi, .int .u8 y.x.op, .int .i64 y.x.n, .slice a2 y.x.args.length cap2, .int .i64 y.n] 181)
   have k0:=hK.C.cell 0
   go_wp2_with (go_at_call 177; refine (count_all _ y.x _ w.heap.size _ (w.heap.size + 1) (w.heap.size + 1 + 1) lf (Nat.le_refl _) (HX.out _ ((Below.refl _ _).alloc hbw _)) (by omega) (by omega) (by omega) hK).mono ?_; rintro e w3 ⟨rfl,hc3,hf3⟩)
   go_roundw
   case rel => exact ⟨j + 1,y.x.count lf,by go_num,by omega,by omega,(hBr.alloc hbw _).trans (hf3.below (by simp; omega) (fun k hk e => by omega)),hc3,HR.out⟩
   case measure => simp [intOf]; omega
  ·rw [List.drop_of_length_le (by omega)] at hr
   simp only [countGo] at hr
   subst hr
   have k0:=hCr.L.cell 0
   go_wp2
   go_ret
   exact ⟨ret_int (by rw [HE.out]; omega),hBr⟩
def DeepC (h:Nat):Prop:=∀ (x:Ex) (v:Value) (B:Nat) (w:World) (bD k:Nat) (i:Int),x.ht ≤ h → ExAt w B v x → i = (k:Int) → B ≤ w.heap.size → k ≤ 100 → bD < w.heap.size →
 w.cell? ⟨bD,0,none⟩ = some (.func (.func 289) #[] #[.pointer (some ⟨bD,0,none⟩)]) →
 Calls Tryz.prog 289 #[v, .int .i64 i, .pointer (some ⟨bD,0,none⟩)] w fun e w' => e = .returned (.int .i64 (deepN k x)) ∧ Below w.heap.size w w'
set_option maxHeartbeats 1000000 in
theorem deep_step (h:Nat) (IH:Hid (∀ x:Ex,x.ht < h → ∀ (v:Value) (B:Nat) (w:World) (bD k:Nat) (i:Int),ExAt w B v x → i = (k:Int) → B ≤ w.heap.size → k ≤ 100 → bD < w.heap.size →
   w.cell? ⟨bD,0,none⟩ = some (.func (.func 289) #[] #[.pointer (some ⟨bD,0,none⟩)]) →
   Calls Tryz.prog 289 #[v, .int .i64 i, .pointer (some ⟨bD,0,none⟩)] w fun e w' => e = .returned (.int .i64 (deepN k x)) ∧ Below w.heap.size w w')):DeepC h:=by
 intro x v B w bD k i hh hv hi hB hk hbD hD
 have HLT:Hid (∀ a ∈ x.args,a.ht < h):=fun a ha => by have:=Ex.ht_args x a ha; omega
 have HE:Hid (∀ k',k = k' + 1 → deepN k x = x.args.foldl (fun n a => max n (deepN k' a)) 0 + 1):=fun k' e => by subst e; rfl
 have HE0:Hid (k = 0 → deepN k x = 1):=fun e => by subst e; rfl
 obtain ⟨sv,rfl,hs⟩:=hv
 obtain ⟨a,cap,rfl,hcap,hmx⟩:=hs.slice
 have HS:=Lib.hid hs
 have hlm:x.args.length ≤ 9223372036854775807:=by unfold maxLen at hmx; omega
 generalize x.op = o at *
 generalize x.n = n at *
 generalize x.args = l at *
 clear hs hh
 have HDD:=Lib.hid hD
 clear hD
 go_enter Tryz.func289,Tryz.ntmps289
 go_wp2
 have hW:=(Below.refl w.heap.size w).alloc (Nat.le_refl _) (.cells #[.int .u8 o, .int .i64 n, .slice a l.length cap] 179)
 generalize World.alloc w _ = W at *
 by_cases hk0:0 < k
 ·obtain ⟨k',hk'⟩:∃ k',k = k' + 1:=⟨k - 1,by omega⟩
  have HE2:=Lib.hid (HE.out k' hk')
  have HI:=Lib.hid (show i = (k':Int) + 1 by omega)
  have hip:0 < i:=by omega
  have hi100:i ≤ 100:=by omega
  clear hi hk'
  go_loopw [6,12] (fun s q wr => ∃ j m:Nat,q = .int .i64 j ∧ s = .int .i64 m ∧ j ≤ l.length ∧ m ≤ 200 ∧ Below w.heap.size w wr ∧ (l.drop j).foldl (fun n a => max n (deepN k' a)) m = l.foldl (fun n a => max n (deepN k' a)) 0) (fun _ q _ => l.length - (intOf q).toNat)
  case atStart => exact ⟨0,0,rfl,rfl,Nat.zero_le _,by omega,hW,rfl⟩
  case round =>
   obtain ⟨j,m,rfl,rfl,hj,hm,hBr,hr⟩:=hrel
   by_cases hlt:j < l.length
   ·obtain ⟨b,off,cp,sv,e1,hb,c0,c1,c2,hsub⟩:=((HS.out.mono hB).keep hBr).at_ j hlt
    simp only [Value.slice.injEq,true_and] at e1
    obtain ⟨rfl,rfl⟩:=e1
    obtain ⟨a2,cap2,rfl,_,_⟩:=hsub.slice
    rw [List.drop_eq_getElem_cons hlt] at hr
    simp only [List.foldl_cons] at hr
    have hht:=HLT.out _ (List.getElem_mem hlt)
    have hx:∀ X,Below wr.heap.size wr X → ExAt X X.heap.size (.agg #[.int .u8 (l[j]'hlt).op, .int .i64 (l[j]'hlt).n, .slice a2 (l[j]'hlt).args.length cap2]) (l[j]'hlt):=fun X hX => ⟨_,rfl,(hsub.keep (hX.mono hBr.size)).mono (Nat.le_trans hBr.size hX.size)⟩
    have hdl:=deepN_le k' (l[j]'hlt)
    have hk100:k' ≤ 100:=by have:=HI.out; omega
    generalize l[j] = y at *
    have HX:=Lib.hid hx
    have HR:=Lib.hid hr
    clear hr hx hsub
    have hbr:=hBr.size
    have hD2:(wr.alloc (.cells #[.int .u8 y.op, .int .i64 y.n, .slice a2 y.args.length cap2] 179)).cell? ⟨bD,0,none⟩ = some (.func (.func 289) #[] #[.pointer (some ⟨bD,0,none⟩)]) :=
     (((Below.refl wr.heap.size wr).alloc (Nat.le_refl _) _).cell (p:=⟨bD,0,none⟩) (by show bD < _; omega)).trans ((hBr.cell (p:=⟨bD,0,none⟩) hbD).trans HDD.out)
    have HD2:=Lib.hid hD2
    generalize hdd:deepN k' y = dd at *
    have HDE:=Lib.hid hdd
    clear hdd
    go_wp2_with (go_at_call 289; refine (IH.out y hht _ _ _ bD k' _ (HX.out _ ((Below.refl _ _).alloc (Nat.le_refl _) _)) (by have:=HI.out; omega) (Nat.le_refl _) (by have:=HI.out; omega) (by simp; omega) HD2.out).mono ?_; rintro e w3 ⟨rfl,hb3⟩; rw [HDE.out])
    go_roundw
    case rel => exact ⟨j + 1,max m dd,by go_num,by congr 1; split <;> omega,by omega,by omega,(hBr.alloc hBr.size _).trans (hb3.mono (by simp; omega)),by rw [← HR.out]⟩
    case measure => simp [intOf]; omega
   ·rw [List.drop_of_length_le (by omega)] at hr
    simp only [List.foldl_nil] at hr
    have HR:=Lib.hid hr
    clear hr
    go_wp2
    go_ret
    exact ⟨ret_int (by rw [HE2.out, ← HR.out]; rfl),hBr⟩
 ·have HE2:=Lib.hid (HE0.out (by omega))
  have hip : ¬ 0 < i:=by omega
  clear hi
  go_loopw [6,12] (fun s q wr => ∃ j:Nat,q = .int .i64 j ∧ s = .int .i64 0 ∧ j ≤ l.length ∧ Below w.heap.size w wr) (fun _ q _ => l.length - (intOf q).toNat)
  case atStart => exact ⟨0,rfl,rfl,Nat.zero_le _,hW⟩
  case round =>
   obtain ⟨j,rfl,rfl,hj,hBr⟩:=hrel
   by_cases hlt:j < l.length
   ·obtain ⟨b,off,cp,sv,e1,hb,c0,c1,c2,hsub⟩:=((HS.out.mono hB).keep hBr).at_ j hlt
    simp only [Value.slice.injEq,true_and] at e1
    obtain ⟨rfl,rfl⟩:=e1
    obtain ⟨a2,cap2,rfl,_,_⟩:=hsub.slice
    go_wp2
    go_roundw
    case rel => exact ⟨j + 1,by go_num,rfl,by omega,hBr.alloc hBr.size _⟩
    case measure => simp [intOf]; omega
   ·go_wp2
    go_ret
    exact ⟨ret_int (by rw [HE2.out]; rfl),hBr⟩
theorem deep_all (h:Nat):DeepC h:=by
 induction h using Nat.strongRecOn with
 | ind h ih => exact deep_step h (fun x hx v B w bD k i hv hi hB hk hb hD => ih x.ht hx x v B w bD k i (Nat.le_refl _) hv hi hB hk hb hD)
set_option maxHeartbeats 400000 in
theorem Deep_c (x:Ex) (v:Value) (B:Nat) (w:World) (hv:ExAt w B v x) (hB:B ≤ w.heap.size) :
  Calls Tryz.prog 259 #[v] w fun e w' => e = .returned (.int .i64 (deepN 16 x)) ∧ Below w.heap.size w w':=by
 obtain ⟨sv,rfl,hs⟩:=hv
 obtain ⟨a,cap,rfl,hcap,hmx⟩:=hs.slice
 have HV:Hid (ExAt w B _ x):=⟨_,rfl,hs⟩
 clear hs
 have hle:=deepN_le 16 x
 generalize hd:deepN 16 x = d at *
 have HD:=Lib.hid hd
 clear hd
 have hB1:=(((Below.refl w.heap.size w).alloc (Nat.le_refl _) (.cells #[.int .u8 x.op, .int .i64 x.n, .slice a x.args.length cap] 179)).alloc (by simp) (.cells #[.func (.func 289) #[] #[.pointer (some ⟨w.heap.size + 1,0,none⟩)]] 209))
 go_enter Tryz.func259,Tryz.ntmps259
 go_wp2_with fail
 refine (deep_all x.ht x _ B _ (w.heap.size + 1) 16 _ (Nat.le_refl _) (HV.out.keep (hB1.mono hB)) (by omega) (by simp; omega) (by omega) (by simp) ?_).mono ?_
 ·exact (Blk.new_at (w.alloc (.cells #[.int .u8 x.op, .int .i64 x.n, .slice a x.args.length cap] 179)) #[.func (.func 289) #[] #[.pointer (some ⟨w.heap.size + 1,0,none⟩)]] 209 (k:=w.heap.size + 1) (by simp)).cell 0
 rintro e w3 ⟨rfl,hb3⟩
 rw [HD.out]
 go_wp2_with fail
 go_ret
 exact ⟨ret_int (by first | rfl | (split <;> omega)),hB1.trans (hb3.mono (by simp; omega))⟩
end Go.Proofs.YtpkijdkoiecpiaaGreatDoor
